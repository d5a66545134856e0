import Derived.Test.YtbndfmkgamdgeaaGreatDoorSO1
import Derived.Test.YtbndfmkgamdgeaaGreatDoorSO2
import Derived.Test.YtbndfmkgamdgeaaGreatDoorSO5
import Derived.Test.YtbndfmkgamdgeaaGreatDoorSO6
import Derived.Test.YtbndfmkgamdgeaaGreatDoorSO7
import Derived.Test.YtbndfmkgamdgeaaGreatDoorSO8
import Derived.Test.YtbndfmkgamdgeaaGreatDoorSO11
import Derived.Test.YtbndfmkgamdgeaaGreatDoorSO13
import Derived.Test.YtbndfmkgamdgeaaGreatDoorSO16
import Derived.Test.YtbndfmkgamdgeaaGreatDoorSO17
import Derived.Test.YtbndfmkgamdgeaaGreatDoorSO18
import Derived.Test.YtbndfmkgamdgeaaGreatDoorSO19
import Derived.Test.YtbndfmkgamdgeaaGreatDoorSO23
import Derived.Test.YtbndfmkgamdgeaaGreatDoorSO24
import Derived.Test.YtbndfmkgamdgeaaGreatDoorSO25
import Derived.Test.YtbndfmkgamdgeaaGreatDoorSO28
import Derived.Test.YtbndfmkgamdgeaaGreatDoorSO31
set_option linter.unusedVariables false
set_option linter.unusedSimpArgs false
set_option maxRecDepth 100000
set_option maxHeartbeats 16000000
namespace Go.Proofs.YtbndfmkgamdgeaaGreatDoor
section
open Go.RowKit
section
variable {w w':World} {pf pw:Nat} {R:Rp} {pv:Value} {Y:Sy}
theorem ttop_any (h:SyAt w pf pw R pv Y) {N:Nat} (hk:FsOk Y.fs N) (hp:Pl Y.fs) (hl:Y.fs.ns.length≤100000) (hd:Y.dead=false) (no:Int) :
  Calls Tryz.prog 65 #[.pointer (some ⟨pf,0,none⟩),.int .i64 no] w fun e w'=>e=.returned (.tuple #[.int .i64 (Y.fs.topF no).1,.string (Y.fs.topF no).2.1,.int .i64 (Y.fs.topF no).2.2])∧Below w.heap.size w w':=by
 have HS:=Lib.hid (sstat_any h hk hd no);have HRo:=Lib.hid (fun w1 (hb:Below w.heap.size w w1) d=>wroot_any (h.wd.keep hb) hk.d1 d);have HWh:=Lib.hid (fun w1 (hb:Below w.heap.size w w1) d=>wwhere_any (h.wd.keep hb) hk hp hl d);obtain⟨pc,-,pz⟩:=h.blk.facts;have HPC:=Lib.hid (fun w1 (hb1:Below w.heap.size w w1)=>show w1.cell? ⟨pf,0,none⟩=some (.pointer (some ⟨pw,0,none⟩)) from (hb1.cell (p:=⟨pf,0,none⟩) pz).trans (pc 0));have mixed:Tryz.prog.follows .mixedOrders=true:=by kernel_rfl
 obtain⟨S,hS⟩:∃ S,Y.fs=S:=⟨_,rfl⟩;rw [hS] at HS HRo HWh ⊢;have HZ0:=Lib.hid (fun h=>topF_none (S:=S) (no:=no) h);have HZ1:=Lib.hid (fun a h h2=>topF_gone (S:=S) (no:=no) (a:=a) h h2);have HZ2:=Lib.hid (fun a s h h2=>topF_some (S:=S) (no:=no) (a:=a) (s:=s) h h2);generalize S.topF no=Z at HZ0 HZ1 HZ2 ⊢;clear h hk hp hd hS pc pz hl
 cases hg:S.get no with
 | none=>
  rw [hg] at HS;have HZ:=Lib.hid (HZ0.out hg);unfold stV noneE at HS;clear hg;go_enter Tryz.func65,Tryz.ntmps65;go_wp2_with fail;refine HS.out.mono ?_;rintro e w1 ⟨rfl,hb1⟩;have HB1:=Lib.hid (balloc hb1 (.cells #[.int .i64 0,.int .i64 0,.int .i64 0,.int .i64 0,.int .i64 0,.int .i64 0,.int .i64 0,.int .i64 0,.int .i64 0,.int .i64 0] 115));clear hb1;go_wp2_with fail
  go_ret3
  exact⟨by rw [HZ.out];rfl,HB1.out⟩
 | some a=>
  rw [hg] at HS;have HG:=Lib.hid hg;unfold stV noneE at HS;clear hg;go_enter Tryz.func65,Tryz.ntmps65;go_wp2_with fail;refine HS.out.mono ?_;rintro e w1 ⟨rfl,hb1⟩;have hX:=Blk.new w1 #[.int .i64 a.no,.int .i64 a.dev,.int .i64 a.kind,.int .i64 a.mode,.int .i64 a.uid,.int .i64 a.gid,.int .i64 a.links,.int .i64 a.data.size,.int .i64 a.mtime,.int .i64 a.ctime] 115;have hbX:=balloc hb1 (.cells #[.int .i64 a.no,.int .i64 a.dev,.int .i64 a.kind,.int .i64 a.mode,.int .i64 a.uid,.int .i64 a.gid,.int .i64 a.links,.int .i64 a.data.size,.int .i64 a.mtime,.int .i64 a.ctime] 115);go_upto_region 2 with fail;generalize w1.alloc (.cells #[.int .i64 a.no,.int .i64 a.dev,.int .i64 a.kind,.int .i64 a.mode,.int .i64 a.uid,.int .i64 a.gid,.int .i64 a.links,.int .i64 a.data.size,.int .i64 a.mtime,.int .i64 a.ctime] 115)=X at hX hbX ⊢;have HX:=Lib.hid hX;have HBX:=Lib.hid hbX;obtain⟨xc,xf,xz⟩:=hX.facts;have pc0:=HPC.out _ hbX;clear hb1 hX hbX;go_wp2_with fail;refine wp_region_lex 6 mixed (by kernel_rfl) (show PanicOk _ from by repeat (first | exact pk_body | refine pk_then ?_ | refine pk_block ?_ | refine pk_scope ?_)) ?_;simp only [List.take_succ_cons,List.take_zero,List.drop_succ_cons,List.drop_zero]
  repeat still_step
  refine wpStill_nil ?_;go_wp2_with fail;refine (HRo.out _ HBX.out.drew _).mono ?_;rintro e w2 ⟨rfl,rfl⟩;clear xc xf xz pc0;have pc0:=HPC.out _ HBX.out.drew;go_wp2_with fail;refine (HWh.out _ HBX.out.drew _).mono ?_;rintro e w3 ⟨rfl,hb3⟩;have HB3:=Lib.hid (bnext HBX.out.drew hb3);unfold whereV;clear hb3 pc0
  cases hpl:S.place_ (S.root a.dev) with
  | none=>
   have HZ:=Lib.hid (HZ1.out _ HG.out hpl);clear hpl;go_wp2_with fail
   go_ret3
   exact⟨by rw [HZ.out];rfl,HB3.out⟩
  | some s=>
   have HZ:=Lib.hid (HZ2.out _ _ HG.out hpl);clear hpl;go_wp2_with fail
   go_ret3
   exact⟨by rw [HZ.out];rfl,HB3.out⟩
end
end
section
open Go.RowKit
def Sy.dirF (Y:Sy) (u:Us) (dir:Int) (n:ByteArray):Sy×Int×Int:=
 if (Y.fs.ownF Y.dead u.c dir n).2=0∧(Y.fs.ownF Y.dead u.c dir n).1=0 then Y.op (fun S now=>S.mkdir u.c now dir n 448) else (Y,Y.fs.ownF Y.dead u.c dir n)
def Sy.dirsF (Y:Sy) (u:Us) (dir:Int):List ByteArray→Sy×Int
 | []=>(Y,0)
 | n :: l=>if (Y.dirF u dir n).2.2≠0 then ((Y.dirF u dir n).1,(Y.dirF u dir n).2.2) else (Y.dirF u dir n).1.dirsF u dir l
def partNs:List ByteArray:=[nInfo,nFiles,nOut,nWay]
def Sy.readyF (Y:Sy) (u:Us) (p:Plc):Sy×Cn×Int:=
 let r:=Y.dirF u p.dir p.name
 if r.2.2≠0 then (r.1,cn0,r.2.2) else
 let q:=r.1.dirsF u r.2.1 partNs
 if q.2≠0 then (q.1,cn0,q.2) else (q.1,q.1.fs.openF q.1.dead u p)
def Sy.triesF (Y:Sy) (u:Us):List Plc→Int→Sy×Bool×Cn×Int
 | [],e=>(Y,false,cn0,e)
 | p :: l,_=>if (Y.readyF u p).2.2=0∨(Y.readyF u p).1.dead=true then ((Y.readyF u p).1,true,(Y.readyF u p).2.1,(Y.readyF u p).2.2) else (Y.readyF u p).1.triesF u l (Y.readyF u p).2.2
def Sy.homeF (Y:Sy) (u:Us) (top:Int):List Plc:=
 if (Y.fs.dataF Y.dead u).2=0∧Y.fs.root (Y.fs.getZ (Y.fs.dataF Y.dead u).1).dev=top then [⟨(Y.fs.dataF Y.dead u).1,nHome,ByteArray.empty⟩] else []
def Sy.chooseF (Y:Sy) (u:Us) (no:Int):Sy×Cn×Int:=
 let t:=Y.fs.topF no
 if t.2.2≠0 then (Y,cn0,t.2.2) else
 let h:=Y.fs.dataF Y.dead u
 let a:=Y.triesF u (Y.homeF u t.1) 0
 if a.2.1=true then (a.1,a.2.2) else
 let b:=a.1.triesF u (a.1.fs.placesF a.1.dead u t.1 t.2.1) a.2.2.2
 if b.2.1=true then (b.1,b.2.2) else
 if h.2≠0 then (b.1,cn0,b.2.2.2) else b.1.readyF u ⟨h.1,nHome,ByteArray.empty⟩
structure SyOk (Y:Sy) (N:Nat):Prop where
 fine:Fine Y.fs N
 c0:0≤Y.count
 cN:Y.count≤N
 pl:Y.plan.length≤1000
theorem SyOk.mono {Y:Sy} {N M:Nat} (h:SyOk Y N) (hM:N≤M):SyOk Y M:=⟨h.fine.mono hM,h.c0,by have:=h.cN;omega,h.pl⟩
theorem change_count (Y:Sy):Y.change.1.count=Y.count∨Y.change.1.count=Y.count+1:=by
 unfold Sy.change
 split
 ·exact .inl rfl
 ·split <;> exact .inr rfl
theorem SyOk.change {Y:Sy} {N:Nat} (h:SyOk Y N):SyOk Y.change.1 (N+1):=by
 obtain⟨h1,h2,h3⟩:=change_fs Y;refine ⟨by rw [h1];exact h.fine.mono (by omega),?_,?_,by rw [h3];exact h.pl⟩ <;>
 ·have:=h.c0;have:=h.cN;rcases change_count Y with e | e <;> rw [e] <;> omega
theorem SyOk.op {Y:Sy} {N:Nat} (h:SyOk Y N) {g:Fs→Int→Fs×Int×Int} (hg:Fine (g Y.fs Y.now).1 (N+1)):SyOk (Y.op g).1 (N+1):=by
 have hc:=h.change;unfold Sy.op
 split
 ·exact hc
 ·exact ⟨hg,hc.c0,hc.cN,hc.pl⟩
theorem SyOk.dirF {Y:Sy} {N:Nat} (h:SyOk Y N) (u:Us) (dir:Int) (n:ByteArray):SyOk (Y.dirF u dir n).1 (N+1):=by
 unfold Sy.dirF
 split
 ·exact h.op (h.fine.mkdir _ _ _ _ _)
 ·exact h.mono (by omega)
theorem SyOk.dirsF {u:Us} {dir:Int}:∀ {l:List ByteArray} {Y:Sy} {N:Nat},SyOk Y N→SyOk (Y.dirsF u dir l).1 (N+l.length)
 | [],_,_,h=>h
 | n :: l,Y,N,h=>by
  rw [Sy.dirsF]
  split
  ·exact (h.dirF u dir n).mono (by simp)
  ·have:=(h.dirF u dir n).dirsF (u:=u) (dir:=dir) (l:=l);exact this.mono (by simp;omega)
theorem SyOk.readyF {Y:Sy} {N:Nat} (h:SyOk Y N) (u:Us) (p:Plc):SyOk (Y.readyF u p).1 (N+5):=by
 unfold Sy.readyF;dsimp only;have h1:=h.dirF u p.dir p.name
 split
 ·exact h1.mono (by omega)
 ·have h2:=h1.dirsF (u:=u) (dir:=(Y.dirF u p.dir p.name).2.1) (l:=partNs);have h3:N+1+partNs.length=N+5:=rfl;rw [h3] at h2
  split <;> exact h2
theorem SyOk.triesF {u:Us}:∀ {l:List Plc} {Y:Sy} {N:Nat} (e:Int),SyOk Y N→SyOk (Y.triesF u l e).1 (N+5*l.length)
 | [],_,_,_,h=>h
 | p :: l,Y,N,e,h=>by
  rw [Sy.triesF]
  split
  ·exact (h.readyF u p).mono (by simp;omega)
  ·exact ((h.readyF u p).triesF (u:=u) (l:=l) _).mono (by simp;omega)
theorem places_len (S:Fs) (d:Bool) (u:Us) (top:Int) (path:ByteArray):1≤(S.placesF d u top path).length∧(S.placesF d u top path).length≤2:=by
 unfold Fs.placesF
 split <;> simp
theorem home_len (Y:Sy) (u:Us) (top:Int):(Y.homeF u top).length≤1:=by
 unfold Sy.homeF
 split <;> simp
theorem SyOk.chooseF {Y:Sy} {N:Nat} (h:SyOk Y N) (u:Us) (no:Int):SyOk (Y.chooseF u no).1 (N+20):=by
 unfold Sy.chooseF;dsimp only;have h1:=home_len Y u (Y.fs.topF no).1;have h2:=h.triesF (u:=u) (l:=Y.homeF u (Y.fs.topF no).1) 0
 split
 ·exact h.mono (by omega)
 ·split
  ·exact h2.mono (by omega)
  ·generalize Y.triesF u (Y.homeF u (Y.fs.topF no).1) 0=a at h2 ⊢;have h3:=(places_len a.1.fs a.1.dead u (Y.fs.topF no).1 (Y.fs.topF no).2.1).2;have h4:=h2.triesF (u:=u) (l:=a.1.fs.placesF a.1.dead u (Y.fs.topF no).1 (Y.fs.topF no).2.1) a.2.2.2
   split
   ·exact h4.mono (by omega)
   ·split
    ·exact h4.mono (by omega)
    ·exact (h4.readyF u _).mono (by omega)
structure Keep1 (a b:An):Prop where
 kind:b.kind=a.kind
 mode:b.mode=a.mode
 uid:b.uid=a.uid
 data:b.data=a.data
 links:b.links=a.links
 ents:a.ents.length≤b.ents.length
 ctime:a.kind≠1→b.ctime=a.ctime
def Keep (S S':Fs):Prop:=∀ k a,S.get k=some a→∃ b,S'.get k=some b∧Keep1 a b
end
section
open Go.RowKit
def Fs.overE (S:Fs) (c:Cr) (t n old:An):Int:=
 if S.over old.no≠old.no then 16 else if n.kind=1∧old.kind≠1 then 9 else if n.kind≠1∧old.kind=1 then 8 else if old.ents≠[] then 10 else if freeB c t old=false then 4 else 0
def Fs.moveE (S:Fs) (c:Cr) (src dst:Int) (d n t:An) (old:Option An):Int×Bool:=
 if d.dev≠t.dev then (11,false) else if n.kind=1∧S.withinN n.no (S.ns.length+1) dst=true then (17,false)
 else if old.any (fun o=>o.no == n.no)=true then (0,true) else if n.kind=1∧src≠dst∧n.may c 2=false then (6,false)
 else match old with
  | none=>(0,false)
  | some o=>(S.overE c t n o,false)
def Fs.shift (S:Fs) (now src:Int) (a:ByteArray) (dst:Int) (b:ByteArray) (d n:An) (old:Option An):Fs:=
 let S1:=match old with | none=>S | some o=>S.lessF now o
 let S2:=S1.touch now src (entDrop d.ents a)
 let S3:=S2.touch now dst (entPut (S2.entsOf dst) b n.no)
 S3.set {n with ctime:=now,up:=if n.kind=1 then dst else n.up}
def Fs.moveF (S:Fs) (c:Cr) (now src:Int) (a:ByteArray) (dst:Int) (b:ByteArray):Fs×Int:=
 if S.leaveE c src a≠0 then (S,S.leaveE c src a) else if S.placeE c dst b≠0 then (S,S.placeE c dst b) else
 match S.get src,S.get (entFind (S.entsOf src) a),S.get dst with
 | some d,some n,some t=>
  if (S.moveE c src dst d n t (S.get (entFind t.ents b))).1≠0 then (S,(S.moveE c src dst d n t (S.get (entFind t.ents b))).1)
  else if (S.moveE c src dst d n t (S.get (entFind t.ents b))).2=true then (S,0)
  else (S.shift now src a dst b d n (S.get (entFind t.ents b)),0)
 | _,_,_=>(S,5)
end
section
open Go.RowKit
theorem into_row {S:Fs} {N:Nat} (h:Fine S N) (c:Cr) (x:Sp):(S.intoF c x).1.length≤N∧∀ y∈(S.intoF c x).1,S.hgt y.no<S.hgt x.no:=by
 have h0:([]:List Sp).length≤N∧∀ y∈([]:List Sp),S.hgt y.no<S.hgt x.no:=⟨Nat.zero_le _,fun y hy=>by cases hy⟩;unfold Fs.intoF
 split
 ·exact h0
 split
 ·exact h0
 split
 ·exact h0
 split
 ·exact h0
 ·rename_i hno _ _ hkd
  cases hg:S.get x.no with
  | none=>rw [hg] at hno;exact absurd (by decide:noneE (none:Option An)≠0) hno
  | some a=>
   have hz:S.getZ x.no=a:=getZ_some hg;rw [hz] at hkd;have hd:a.kind=1:=by simpa using hkd
   unfold Fs.listF;rw [if_neg (by decide)]
   split
   ·exact h0
   ·have hents:S.entsOf x.no=a.ents:=by unfold Fs.entsOf;rw [hg]
    rw [hents];dsimp only;refine ⟨?_,fun y hy=>?_⟩
    ·rw [List.length_map,List.length_map];exact (h.ok.get hg).1.few
    ·obtain ⟨q,hq,rfl⟩:=List.mem_map.1 hy;obtain⟨e,hee,rfl⟩:=List.mem_map.1 hq;exact hgt_down h (an_mem hg) hg hd hee
theorem hgt_le {S:Fs} {N:Nat} (h:FsOk S N) (k:Int):S.hgt k≤N:=by
 unfold Fs.hgt
 cases hg:S.get k with
 | none=>exact Nat.zero_le _
 | some a=>
  obtain⟨-,-,h1,h2⟩:=h.get hg;have:=h.lN;dsimp only
  split
  ·omega
  ·exact Nat.zero_le _
def Fs.StkP (S:Fs) (N K:Nat):List Sp→Prop
 | []=>True
 | x :: t=>t.length+N*S.hgt x.no≤K∧S.StkP N K t
theorem stk_len {S:Fs} {N K:Nat}:∀ {l:List Sp},S.StkP N K l→l.length≤K+1
 | [],_=>Nat.zero_le _
 | x :: t,h=>by
  have:=h.1;rw [List.length_cons];omega
theorem stk_one {S:Fs} {N:Nat} (h:FsOk S N) (x:Sp):S.StkP N (N*N) [x]:=⟨by rw [List.length_nil,Nat.zero_add];exact Nat.mul_le_mul_left _ (hgt_le h _),trivial⟩
theorem stk_app {S:Fs} {N K k:Nat} {t:List Sp} (ht:S.StkP N K t) (hk:t.length+N*(k+1)≤K):∀ {l:List Sp},l.length≤N→(∀ y∈l,S.hgt y.no≤k)→S.StkP N K (l ++ t)
 | [],_,_=>ht
 | y :: l,hl,hy=>by
  rw [List.length_cons] at hl;refine ⟨?_,stk_app ht hk (by omega) (fun z hz=>hy z (List.mem_cons_of_mem _ hz))⟩;have h1:=Nat.mul_le_mul_left N (hy y List.mem_cons_self);rw [Nat.mul_add,Nat.mul_one] at hk;have h2:(l ++ t).length=l.length+t.length:=List.length_append;show (l ++ t).length+N*S.hgt y.no≤K;omega
theorem stk_step {S:Fs} {N K:Nat} (h:Fine S N) (c:Cr) {x:Sp} {t:List Sp} (hs:S.StkP N K (x :: t)):S.StkP N K ((S.intoF c x).1 ++ t):=by
 obtain⟨h1,h2⟩:=into_row h c x
 cases hh:S.hgt x.no with
 | zero=>
  have:(S.intoF c x).1=[]:=by
   cases hl:(S.intoF c x).1 with
   | nil=>rfl
   | cons y l=>
    have:=h2 y (by rw [hl];exact List.mem_cons_self);omega
  rw [this];exact hs.2
 | succ k=>
  have h3:=hs.1;rw [hh] at h3;exact stk_app hs.2 h3 h1 (fun y hy=>by have:=h2 y hy;omega)
theorem heavy_snoc (S:Fs) (x:Sp):∀ (l:List Sp) (met:List Int),S.heavy met (l ++ [x])=S.heavy met l+(if x.no∈met∨x.no∈l.map (·.no) then 0 else (S.getZ x.no).data.size)
 | [],met=>by
  show (if x.no∈met then (0:Int) else _+0)=0+_;by_cases h:x.no∈met
  ·rw [if_pos h,if_pos (.inl h)];rfl
  ·rw [if_neg h,if_neg (fun h2=>h2.elim h (by simp))];omega
 | y :: l,met=>by
  rw [List.cons_append];unfold Fs.heavy;by_cases h:y.no∈met
  ·rw [if_pos h,if_pos h,heavy_snoc S x l met];congr 1;by_cases h2:x.no∈met∨x.no∈l.map (·.no)
   ·rw [if_pos h2,if_pos (show x.no∈met∨x.no∈(y :: l).map (·.no) from h2.imp id (List.mem_cons_of_mem _))]
   ·rw [if_neg h2,if_neg];intro h3;rcases h3 with h3 | h3
    ·exact h2 (.inl h3)
    ·rw [List.map_cons] at h3;rcases List.mem_cons.1 h3 with h3 | h3
     ·exact h2 (.inl (h3 ▸ h))
     ·exact h2 (.inr h3)
  ·rw [if_neg h,if_neg h,heavy_snoc S x l (y.no :: met),Int.add_assoc];congr 2;have hiff:(x.no∈y.no :: met∨x.no∈l.map (·.no))↔(x.no∈met∨x.no∈(y :: l).map (·.no)):=by
    simp only [List.mem_cons,List.map_cons];constructor
    ·rintro ((h | h) | h)
     ·exact .inr (.inl h)
     ·exact .inl h
     ·exact .inr (.inr h)
    ·rintro (h | h | h)
     ·exact .inl (.inr h)
     ·exact .inl (.inl h)
     ·exact .inr h
   by_cases h2:x.no∈y.no :: met∨x.no∈l.map (·.no)
   ·rw [if_pos h2,if_pos (hiff.1 h2)]
   ·rw [if_neg h2,if_neg (fun h3=>h2 (hiff.2 h3))]
theorem filter_less {k:Int} {met:List Int}:∀ {U:List Int},k∈U→k∉met→(U.filter fun q=>!decide (q∈k :: met)).length+1≤(U.filter fun q=>!decide (q∈met)).length
 | [],h,_=>by cases h
 | u :: U,h,hk=>by
  have hmono:∀ (V:List Int),(V.filter fun q=>!decide (q∈k :: met)).length≤(V.filter fun q=>!decide (q∈met)).length:=fun V=>by
   induction V with
   | nil=>exact Nat.le_refl _
   | cons v V ih=>
    rw [List.filter_cons,List.filter_cons];by_cases h1:v∈met
    ·simp [h1];simpa using ih
    ·by_cases h2:v=k
     ·simp [h1,h2,hk];have:=ih;simp at this;omega
     ·simp [h1,h2];simpa using ih
  rcases List.mem_cons.1 h with rfl | h
  ·rw [List.filter_cons,List.filter_cons];have:=hmono U;simp [hk];simpa using this
  ·have ih:=filter_less h hk;rw [List.filter_cons,List.filter_cons];by_cases h1:u∈met
   ·simp [h1];simpa using ih
   ·by_cases h2:u=k
    ·simp [h1,h2,hk];have:=hmono U;simp at this;omega
    ·simp [h1,h2];simpa using ih
theorem filter_le {k:Int} {met:List Int} (U:List Int):(U.filter fun q=>!decide (q∈k :: met)).length≤(U.filter fun q=>!decide (q∈met)).length:=by
 induction U with
 | nil=>exact Nat.le_refl _
 | cons v V ih=>
  rw [List.filter_cons,List.filter_cons];by_cases h1:v∈met
  ·simp [h1];simpa using ih
  ·by_cases h2:v=k
   ·subst h2;simp [h1];have:=ih;simp at this;omega
   ·simp [h1,h2];simpa using ih
theorem heavy_bound {S:Fs} {N:Nat} (h:FsOk S N):∀ (l:List Sp) (met:List Int),0≤S.heavy met l∧S.heavy met l≤1048576*(((S.ns.map (·.no)).filter fun q=>!decide (q∈met)).length:Nat)
 | [],met=>⟨Int.le_refl _,by show (0:Int)≤_;omega⟩
 | x :: l,met=>by
  unfold Fs.heavy;by_cases hm:x.no∈met
  ·rw [if_pos hm];exact heavy_bound h l met
  ·rw [if_neg hm];obtain⟨h1,h2⟩:=heavy_bound h l (x.no :: met)
   cases hg:S.get x.no with
   | none=>
    have hz:(S.getZ x.no).data.size=0:=by unfold Fs.getZ;rw [hg];rfl
    have:=filter_le (k:=x.no) (met:=met) (S.ns.map (·.no));rw [hz];omega
   | some a=>
    obtain⟨ho,hn,-⟩:=h.get hg;have hz:S.getZ x.no=a:=getZ_some hg;have hd:=ho.data;have:=filter_less (k:=x.no) (met:=met) (U:=S.ns.map (·.no)) (List.mem_map.2 ⟨a,an_mem hg,hn⟩) hm;rw [hz];omega
theorem heavy_le {S:Fs} {N:Nat} (h:FsOk S N) (hl:S.ns.length≤100000) (l:List Sp):0≤S.heavy [] l∧S.heavy [] l≤1048576*100000:=by
 obtain⟨h1,h2⟩:=heavy_bound h l [];have h3:((S.ns.map (·.no)).filter fun q=>!decide (q∈([]:List Int))).length≤S.ns.length:=by
  refine Nat.le_trans (List.length_filter_le _ _) ?_;rw [List.length_map];exact Nat.le_refl _
 exact⟨h1,by omega⟩
end
section
open Go.RowKit
theorem slice_row {α:Type} {enc:α→List Value} {w:World} {sz n c:Nat} {a:Option Addr} {l:List α} (hl:∀ x,(enc x).length=sz) (h:SliceAt w sz (fun cs x=>cs=enc x) a n c l) (k:Nat) (hk:k<l.length) :
  ∃ b off,a=some ⟨b,off,none⟩∧b<w.heap.size∧∀ j (hj:j<sz),w.cell? ⟨b,off+k*sz+j,none⟩=some ((enc l[k])[j]'(by rw [hl];exact hj)):=by
 obtain⟨h1,-,-,h0 | ⟨b,off,he,hb,hel⟩⟩:=h
 ·omega
 ·obtain ⟨cs,k1,k2,k3⟩:=hel k hk;subst k2;exact⟨b,off,he,hb,fun j hj=>k3 j (by rw [hl];exact hj)⟩
def cnC (x:Cn):List Value:=[.string x.path,.int .i64 x.dir,.int .i64 x.info,.int .i64 x.files,.int .i64 x.out,.int .i64 x.way,.string x.top]
theorem cnC_len (x:Cn):(cnC x).length=7:=rfl
def cnQ (cs:List Value) (x:Cn):Prop:=cs=cnC x
def Cn.v (x:Cn):Value:=.agg #[.string x.path,.int .i64 x.dir,.int .i64 x.info,.int .i64 x.files,.int .i64 x.out,.int .i64 x.way,.string x.top]
theorem can_info:(Tryz.prog.info? 45).map (fun i=>(i.zero,i.size,i.bytes))=some (some (.agg #[.string ByteArray.empty,.int .i64 0,.int .i64 0,.int .i64 0,.int .i64 0,.int .i64 0,.string ByteArray.empty]),7,72):=by kernel_rfl
def OCn (w:World) (base:Nat) (v:Value) (l:List Cn):Prop:=w.ownsRow base 45 7 v l.length (l.flatMap cnC)
theorem OCn.nil (w:World) (base:Nat):OCn w base (.slice none 0 0) []:=⟨rfl,.inl ⟨rfl,rfl⟩⟩
theorem OCn.at {w:World} {base c:Nat} {a:Option Addr} {l:List Cn} (h:OCn w base (.slice a l.length c) l):SliceAt w 7 cnQ a l.length c l:=own_slice (R:=cnQ) (by omega) cnC_len (fun _=>rfl) h
theorem OCn.keep {w w':World} {base:Nat} {v:Value} {l:List Cn} (h:OCn w base v l) (hb:Below w.heap.size w w'):OCn w' base v l:=own_below h hb (Nat.le_refl _)
theorem OCn.app {w:World} {base:Nat} {v:Value} {l:List Cn} (h:OCn w base v l) (x:Cn) (hn:l.length≤1000000) (hb:base≤w.heap.size) :
  ∃ g cap W,(Builtin.append_ #[131,131] 131 #[v,.slice (some ⟨w.heap.size,0,none⟩) 1 1]).run Tryz.prog (w.alloc (.cells #[.string x.path,.int .i64 x.dir,.int .i64 x.info,.int .i64 x.files,.int .i64 x.out,.int .i64 x.way,.string x.top] 45))=.ok (.slice (some ⟨g,0,none⟩) (l.length+1) cap) W∧
   OCn W base (.slice (some ⟨g,0,none⟩) (l.length+1) cap) (l ++ [x])∧Mod (fun k=>v.ownBlock=some k) w W:=by
 obtain⟨g,cap,W,h1,h2,h3,-⟩:=own_app1 (SE:=131) Tryz.underlying131 can_info rfl (by decide) h (cnC x) rfl (by intro u hu;simp [cnC] at hu;rcases hu with rfl | rfl | rfl | rfl | rfl | rfl | rfl <;> rfl) hn (by decide) hb;refine ⟨g,cap,W,h1,?_,h3⟩;unfold OCn;rw [List.length_append,List.length_singleton,List.flatMap_append];exact (by simpa using h2)
theorem cn_cells {w:World} {n c:Nat} {a:Option Addr} {l:List Cn} (h:SliceAt w 7 cnQ a n c l) (k:Nat) (hk:k<l.length):∃ b off,a=some ⟨b,off,none⟩∧b<w.heap.size∧
  w.cell? ⟨b,off+k*7,none⟩=some (.string l[k].path)∧w.cell? ⟨b,off+k*7+1,none⟩=some (.int .i64 l[k].dir)∧w.cell? ⟨b,off+k*7+2,none⟩=some (.int .i64 l[k].info)∧w.cell? ⟨b,off+k*7+3,none⟩=some (.int .i64 l[k].files)∧
  w.cell? ⟨b,off+k*7+4,none⟩=some (.int .i64 l[k].out)∧w.cell? ⟨b,off+k*7+5,none⟩=some (.int .i64 l[k].way)∧w.cell? ⟨b,off+k*7+6,none⟩=some (.string l[k].top):=by
 obtain⟨b,off,ha,hb,hc⟩:=slice_row cnC_len h k hk;exact⟨b,off,ha,hb,hc 0 (by decide),hc 1 (by decide),hc 2 (by decide),hc 3 (by decide),hc 4 (by decide),hc 5 (by decide),hc 6 (by decide)⟩
theorem chas_any (l:List Cn) (a:Option Addr) (n c:Nat) (dir:Int) (w:World) (h:SliceAt w 7 cnQ a n c l) :
  Calls Tryz.prog 103 #[.slice a n c,.int .i64 dir] w fun e w'=>e=.returned (.bool (l.any (fun y=>y.dir == dir)))∧Below w.heap.size w w':=by
 obtain rfl:l.length=n:=h.1;have hc1:=h.2.1;have hc2:=h.2.2.1;have HE:=Lib.hid h;have HS:=Lib.hid (show l.any (fun y=>y.dir == dir)=(l.drop 0).any (fun y=>y.dir == dir) from rfl);generalize l.any (fun y=>y.dir == dir)=out at HS ⊢;clear h;go_enter Tryz.func103,Tryz.ntmps103;go_wp2_with fail
 go_loopw [9] (fun t9 wr=>∃ k:Nat,k≤l.length∧t9=.int .i64 k∧out=(l.drop k).any (fun y=>y.dir == dir)∧Below w.heap.size w wr) (fun t9 _=>l.length - (intOf t9).toNat)
 case atStart=>exact ⟨0,Nat.zero_le _,rfl,HS.out,Below.refl _ _⟩
 case round=>
  obtain⟨k,hk,rfl,hf,hb⟩:=hrel;by_cases hlt:k<l.length
  ·obtain ⟨b,off,rfl,hbl,c0,c1,c2,c3,c4,c5,c6⟩:=cn_cells (SliceAt.below HE.out hb (Nat.le_refl _)) k hlt;rw [List.drop_eq_getElem_cons hlt,List.any_cons] at hf;have HF:=Lib.hid hf;have HB:=Lib.hid hb;generalize l[k]=x at c0 c1 c2 c3 c4 c5 c6 HF;clear hf hb;by_cases hx:x.dir=dir
   ·have hq:(x.dir == dir)=true:=by simpa using hx
    have HR:=Lib.hid (show out=true by rw [HF.out,hq];rfl);clear hx;go_wp2_with fail;go_ret;exact⟨by rw [HR.out];rfl,balloc HB.out _⟩
   ·have hq:(x.dir == dir)=false:=by simpa using hx
    have HR:=Lib.hid (show out=(l.drop (k+1)).any (fun y=>y.dir == dir) by rw [HF.out,hq];rfl);clear hx;go_wp2_with fail;go_roundw
    case measure=>simp [intOf];omega
    case rel=>exact ⟨k+1,by omega,by go_num,HR.out,balloc HB.out _⟩
  ·obtain rfl:k=l.length:=by omega
   rw [List.drop_length] at hf;have HR:=Lib.hid (show out=false from hf);have HB:=Lib.hid hb;clear hf hb;go_wp2_with fail;go_ret;exact⟨by rw [HR.out];rfl,HB.out⟩
theorem Blk.set7 {w:World} {B:Nat} {x0 x1 x2 x3 x4 x5 x6 v0 v1 v2 v3 v4 v5 v6:Value} {T:TypeId} (h:Blk w B #[x0,x1,x2,x3,x4,x5,x6] T):Blk (((((((w.setCell ⟨B,0,none⟩ v0).setCell ⟨B,1,none⟩ v1).setCell ⟨B,2,none⟩ v2).setCell ⟨B,3,none⟩ v3).setCell ⟨B,4,none⟩ v4).setCell ⟨B,5,none⟩ v5).setCell ⟨B,6,none⟩ v6) B #[v0,v1,v2,v3,v4,v5,v6] T:=
 ((((((h.set 0 v0).set 1 v1).set 2 v2).set 3 v3).set 4 v4).set 5 v5).set 6 v6
theorem below_set7 {N:Nat} {w0 w:World} {B:Nat} {v0 v1 v2 v3 v4 v5 v6:Value} (h:Below N w0 w) (hB:N≤B):Below N w0 (((((((w.setCell ⟨B,0,none⟩ v0).setCell ⟨B,1,none⟩ v1).setCell ⟨B,2,none⟩ v2).setCell ⟨B,3,none⟩ v3).setCell ⟨B,4,none⟩ v4).setCell ⟨B,5,none⟩ v5).setCell ⟨B,6,none⟩ v6):=
 ((((((h.setCell hB v0).setCell hB v1).setCell hB v2).setCell hB v3).setCell hB v4).setCell hB v5).setCell hB v6
theorem copen_results {tmps:Array Value} {W:World} {B:Nat} {x:Cn} {e:Int} (hb:Blk W B #[.string x.path,.int .i64 x.dir,.int .i64 x.info,.int .i64 x.files,.int .i64 x.out,.int .i64 x.way,.string x.top] 45)
  (h8:tmps.getD 6 undef=.pointer (some ⟨B,0,none⟩)) (h9:tmps.getD 7 undef=.int .i64 e):(results Tryz.f101 tmps).run Tryz.prog W=.ok (.tuple #[x.v,.int .i64 e]) W:=by
 have q0:=hb.cell 0;have q1:=hb.cell 1;have q2:=hb.cell 2;have q3:=hb.cell 3;have q4:=hb.cell 4;have q5:=hb.cell 5;have q6:=hb.cell 6;rw [Array.getD_eq_getD_getElem?] at h8 h9;simp [results,Tryz.results101,go_sem,Cn.v,h8,h9,q0,q1,q2,q3,q4,q5,q6]
theorem part_idx (s0 s1 s2 s3:ByteArray) (w:World):(Instr.index 219 (.agg #[.string s0,.string s1,.string s2,.string s3]) (.int .i64 0)).run Tryz.prog w=.ok (.string s0) w∧(Instr.index 219 (.agg #[.string s0,.string s1,.string s2,.string s3]) (.int .i64 1)).run Tryz.prog w=.ok (.string s1) w∧
  (Instr.index 219 (.agg #[.string s0,.string s1,.string s2,.string s3]) (.int .i64 2)).run Tryz.prog w=.ok (.string s2) w∧(Instr.index 219 (.agg #[.string s0,.string s1,.string s2,.string s3]) (.int .i64 3)).run Tryz.prog w=.ok (.string s3) w:=by
 refine ⟨?_,?_,?_,?_⟩ <;> first | kernel_rfl | rfl
inductive OpSt (S:Fs) (d:Bool) (c:Cr) (dir:Int) (top:ByteArray) (rd:Cn×Int):Value→Value→Value→Value→Value→Prop
 | s0:rd=S.openK4 d c dir top→OpSt S d c dir top rd (.int .i64 0) (.int .i64 0) (.int .i64 0) (.int .i64 0) (.int .i64 0)
 | s1 (i:Int):rd=S.openK3 d c dir top i→OpSt S d c dir top rd (.int .i64 1) (.int .i64 i) (.int .i64 0) (.int .i64 0) (.int .i64 0)
 | s2 (i f:Int):rd=S.openK2 d c dir top i f→OpSt S d c dir top rd (.int .i64 2) (.int .i64 i) (.int .i64 f) (.int .i64 0) (.int .i64 0)
 | s3 (i f o:Int):rd=S.openK1 d c dir top i f o→OpSt S d c dir top rd (.int .i64 3) (.int .i64 i) (.int .i64 f) (.int .i64 o) (.int .i64 0)
 | s4 (i f o y:Int):rd=S.openK0 dir top i f o y→OpSt S d c dir top rd (.int .i64 4) (.int .i64 i) (.int .i64 f) (.int .i64 o) (.int .i64 y)
section
variable {w w':World} {pf pw:Nat} {R:Rp} {pv:Value} {Y:Sy}
theorem copen_any (h:SyAt w pf pw R pv Y) {N:Nat} (hk:FsOk Y.fs N) (hN:N≤999999) (hp:Pl Y.fs) (hl:Y.fs.ns.length≤100000) (u:Us) (p:Plc) :
  Calls Tryz.prog 101 #[.pointer (some ⟨pf,0,none⟩),.agg #[.int .i64 u.u,.int .i64 u.g,.string u.data],.agg #[.int .i64 p.dir,.string p.name,.string p.top]] w fun e w'=>e=.returned (.tuple #[(Y.fs.openF Y.dead u p).1.v,.int .i64 (Y.fs.openF Y.dead u p).2])∧Below w.heap.size w w':=by
 have HO:=Lib.hid (fun w1 (hb1:Below w.heap.size w w1) dir n=>cown_any (h.keep hb1) hk hN u.u u.g u.data dir n);have HWh:=Lib.hid (fun w1 (hb1:Below w.heap.size w w1) d=>wwhere_any (h.wd.keep hb1) hk hp hl d);obtain⟨pc,-,pz⟩:=h.blk.facts;have HPC:=Lib.hid (fun w1 (hb1:Below w.heap.size w w1)=>show w1.cell? ⟨pf,0,none⟩=some (.pointer (some ⟨pw,0,none⟩)) from (hb1.cell (p:=⟨pf,0,none⟩) pz).trans (pc 0));obtain⟨S,hS⟩:∃ S,Y.fs=S:=⟨_,rfl⟩;obtain⟨b,hd⟩:∃ b,Y.dead=b:=⟨_,rfl⟩;rw [hS,hd] at HO;rw [hS] at HWh;rw [hS,hd];have HR:=Lib.hid (show S.openF b u p=if (thereV (S.ownF b ⟨u.u,u.g⟩ p.dir p.name)).2≠0 then (cn0,(thereV (S.ownF b ⟨u.u,u.g⟩ p.dir p.name)).2) else S.openK4 b ⟨u.u,u.g⟩ (thereV (S.ownF b ⟨u.u,u.g⟩ p.dir p.name)).1 p.top from rfl);generalize S.openF b u p=rd at HR ⊢;have hUX:=((Blk.new w #[.int .i64 u.u,.int .i64 u.g,.string u.data] 33).old (.cells #[.int .i64 p.dir,.string p.name,.string p.top] 150)).old (.cells #[.string ⟨#[]⟩,.int .i64 0,.int .i64 0,.int .i64 0,.int .i64 0,.int .i64 0,.string ⟨#[]⟩] 45);have hPX:Blk (((w.alloc (.cells #[.int .i64 u.u,.int .i64 u.g,.string u.data] 33)).alloc (.cells #[.int .i64 p.dir,.string p.name,.string p.top] 150)).alloc (.cells #[.string ⟨#[]⟩,.int .i64 0,.int .i64 0,.int .i64 0,.int .i64 0,.int .i64 0,.string ⟨#[]⟩] 45)) (w.heap.size+1) #[.int .i64 p.dir,.string p.name,.string p.top] 150:=by
  have:=(Blk.new (w.alloc (.cells #[.int .i64 u.u,.int .i64 u.g,.string u.data] 33)) #[.int .i64 p.dir,.string p.name,.string p.top] 150).old (.cells #[.string ⟨#[]⟩,.int .i64 0,.int .i64 0,.int .i64 0,.int .i64 0,.int .i64 0,.string ⟨#[]⟩] 45)
  rwa [World.size_alloc] at this
 have hRX:Blk (((w.alloc (.cells #[.int .i64 u.u,.int .i64 u.g,.string u.data] 33)).alloc (.cells #[.int .i64 p.dir,.string p.name,.string p.top] 150)).alloc (.cells #[.string ⟨#[]⟩,.int .i64 0,.int .i64 0,.int .i64 0,.int .i64 0,.int .i64 0,.string ⟨#[]⟩] 45)) (w.heap.size+1+1) #[.string ⟨#[]⟩,.int .i64 0,.int .i64 0,.int .i64 0,.int .i64 0,.int .i64 0,.string ⟨#[]⟩] 45:=by
  have:=Blk.new ((w.alloc (.cells #[.int .i64 u.u,.int .i64 u.g,.string u.data] 33)).alloc (.cells #[.int .i64 p.dir,.string p.name,.string p.top] 150)) #[.string ⟨#[]⟩,.int .i64 0,.int .i64 0,.int .i64 0,.int .i64 0,.int .i64 0,.string ⟨#[]⟩] 45
  rwa [World.size_alloc,World.size_alloc] at this
 have hbX:=balloc (balloc (balloc (Below.refl w.heap.size w) (.cells #[.int .i64 u.u,.int .i64 u.g,.string u.data] 33)) (.cells #[.int .i64 p.dir,.string p.name,.string p.top] 150)) (.cells #[.string ⟨#[]⟩,.int .i64 0,.int .i64 0,.int .i64 0,.int .i64 0,.int .i64 0,.string ⟨#[]⟩] 45);clear h hk hS hd pc pz hp hl;go_enter Tryz.func101,Tryz.ntmps101;go_upto_region 1 with fail;generalize ((w.alloc (.cells #[.int .i64 u.u,.int .i64 u.g,.string u.data] 33)).alloc (.cells #[.int .i64 p.dir,.string p.name,.string p.top] 150)).alloc (.cells #[.string ⟨#[]⟩,.int .i64 0,.int .i64 0,.int .i64 0,.int .i64 0,.int .i64 0,.string ⟨#[]⟩] 45)=W0 at hUX hPX hRX hbX ⊢;have HB0:=Lib.hid hbX;have HU0:=Lib.hid hUX;have HP0:=Lib.hid hPX;have HR0:=Lib.hid hRX;obtain⟨uc,uf,uz⟩:=hUX.facts;obtain⟨qc,qf,qz⟩:=hPX.facts;clear hUX hPX hRX hbX;have HO1:=Lib.hid (HO.out _ HB0.out p.dir p.name);generalize S.ownF b ⟨u.u,u.g⟩ p.dir p.name=r at HO1 HR;obtain⟨no,e1⟩:=r;dsimp only at HO1;go_wp2_with fail;refine HO1.out.mono ?_;rintro e w1 ⟨rfl,hb1⟩;have HB1:=Lib.hid (bnext HB0.out hb1);have HU1:=Lib.hid (HU0.out.keep hb1);have HP1:=Lib.hid (HP0.out.keep hb1);have HR1:=Lib.hid (HR0.out.keep hb1);have hwz:=HB0.out.size;obtain⟨rc,rf,rz⟩:=HR1.out.facts;clear hb1 uc uf uz qc qf qz;by_cases h0:e1=0
 ·subst h0;by_cases hn:no=0
  ·subst hn;have HE:=Lib.hid (show rd=(cn0,5) by rw [HR.out,thereV_z];rfl);go_wp2_with (exact bodyPost_ret (copen_results (x:=cn0) (e:=5) HR1.out.set7 rfl rfl) rfl ⟨by rw [HE.out],below_set7 HB1.out (by omega)⟩)
  ·have hn':(no == 0)=false:=by simpa using hn
   have HE:=Lib.hid (show rd=S.openK4 b ⟨u.u,u.g⟩ no p.top by rw [HR.out,thereV_0 hn,if_neg (by simp)]);clear HR HO1;go_upto_region 7 with fail;have hAX:=Blk.new w1 #[.int .i64 0,.int .i64 0,.int .i64 0,.int .i64 0] 263;have hbA:=balloc (Below.refl w1.heap.size w1) (.cells #[.int .i64 0,.int .i64 0,.int .i64 0,.int .i64 0] 263);generalize w1.alloc (.cells #[.int .i64 0,.int .i64 0,.int .i64 0,.int .i64 0] 263)=W2 at hAX hbA ⊢;have HA:=Lib.hid (And.intro hAX hbA);have hne1:w.heap.size+1+1≠w1.heap.size:=by
    have:=HR1.out.lt;omega
   clear hAX hbA rc rf rz hwz;go_wp2_with fail
   go_loopw [36] (fun t36 wr=>∃ v0 v1 v2 v3,OpSt S b ⟨u.u,u.g⟩ no p.top rd t36 v0 v1 v2 v3∧Blk wr w1.heap.size #[v0,v1,v2,v3] 263∧Below w1.heap.size w1 wr) (fun t36 _=>4 - (intOf t36).toNat)
   case atStart=>exact ⟨_,_,_,_,.s0 HE.out,HA.out.1,HA.out.2⟩
   case round=>
    obtain⟨v0,v1,v2,v3,hst,hba,hbr⟩:=hrel;have HAr:=Lib.hid hba;have HBr:=Lib.hid hbr;have HBW:=Lib.hid (HB1.out.trans (hbr.mono HB1.out.size));have hU:=HU1.out.keepB hbr HU1.out.lt;have hP:=HP1.out.keepB hbr HP1.out.lt;have hR:=HR1.out.keepB hbr HR1.out.lt;have HRr:=Lib.hid hR;have HPr:=Lib.hid hP;obtain⟨uc,uf,uz⟩:=hU.facts;obtain⟨ac,af,az⟩:=hba.facts;clear hba hbr hU hP hR
    cases hst with
    | s0 hE=>
     have HE1:=Lib.hid hE;have HOk:=Lib.hid (HO.out _ HBW.out no nInfo);have hix:=fun w=>(part_idx nInfo nFiles nOut nWay w).1;unfold Fs.openK4 at HE1;generalize S.ownF b ⟨u.u,u.g⟩ no nInfo=r at HOk HE1;obtain⟨n1,e1⟩:=r;dsimp only at HOk HE1;unfold nInfo nFiles nOut nWay at hix;unfold nInfo at HOk;clear hE;go_wp2_with fail;refine HOk.out.mono ?_;rintro e w2 ⟨rfl,hb2⟩;have hA2:=HAr.out.keep hb2;have hR2:=HRr.out.keep hb2;have hB2:=bnext HBr.out hb2;have HA2:=Lib.hid hA2;have HB2:=Lib.hid hB2;have HR3:=Lib.hid (hR2.setOther ⟨w1.heap.size,0,none⟩ (.int .i64 n1) hne1.symm);have HB3:=Lib.hid (show Below w1.heap.size w1 (w2.setCell ⟨w1.heap.size,0,none⟩ (.int .i64 n1)) from hB2.setCell (Nat.le_refl _) _);obtain⟨ac,af,az⟩:=hA2.facts;obtain⟨rc,rf,rz⟩:=hR2.facts;clear hb2 hA2 hR2 hB2 uc uf uz;by_cases h0:e1=0
     ·subst h0;by_cases hn1:n1=0
      ·subst hn1;have HE2:=Lib.hid (show rd=(cn0,5) by rw [HE1.out,thereV_z];rfl);go_wp2_with (exact bodyPost_ret (copen_results (x:=cn0) (e:=5) HR3.out.set7 rfl rfl) rfl ⟨by rw [HE2.out],below_set7 (HB1.out.trans (HB3.out.mono HB1.out.size)) (by omega)⟩)
      ·have hn1':(n1 == 0)=false:=by simpa using hn1
       have HE2:=Lib.hid (show rd=S.openK3 b ⟨u.u,u.g⟩ no p.top n1 by rw [HE1.out,thereV_0 hn1,if_neg (by simp)]);clear HE1 hn1;go_wp2_with fail;go_roundw
       case measure=>simp [intOf]
       case rel=>exact ⟨_,_,_,_,.s1 n1 HE2.out,HA2.out.set 0 _,HB3.out⟩
     ·have h0':(e1 == 0)=false:=by simpa using h0
      have h0'':(e1 != 0)=true:=by simpa using h0
      have HE2:=Lib.hid (show rd=(cn0,e1) by rw [HE1.out,thereV_e n1 h0,if_pos h0]);clear h0;go_wp2_with (exact bodyPost_ret (copen_results (x:=cn0) (e:=e1) HR3.out.set7 rfl rfl) rfl ⟨by rw [HE2.out],below_set7 (HB1.out.trans (HB3.out.mono HB1.out.size)) (by omega)⟩)
    | s1 i0 hE=>
     have HE1:=Lib.hid hE;have HOk:=Lib.hid (HO.out _ HBW.out no nFiles);have hix:=fun w=>(part_idx nInfo nFiles nOut nWay w).2.1;unfold Fs.openK3 at HE1;generalize S.ownF b ⟨u.u,u.g⟩ no nFiles=r at HOk HE1;obtain⟨n1,e1⟩:=r;dsimp only at HOk HE1;unfold nInfo nFiles nOut nWay at hix;unfold nFiles at HOk;clear hE;go_wp2_with fail;refine HOk.out.mono ?_;rintro e w2 ⟨rfl,hb2⟩;have hA2:=HAr.out.keep hb2;have hR2:=HRr.out.keep hb2;have hB2:=bnext HBr.out hb2;have HA2:=Lib.hid hA2;have HB2:=Lib.hid hB2;have HR3:=Lib.hid (hR2.setOther ⟨w1.heap.size,1,none⟩ (.int .i64 n1) hne1.symm);have HB3:=Lib.hid (show Below w1.heap.size w1 (w2.setCell ⟨w1.heap.size,1,none⟩ (.int .i64 n1)) from hB2.setCell (Nat.le_refl _) _);obtain⟨ac,af,az⟩:=hA2.facts;obtain⟨rc,rf,rz⟩:=hR2.facts;clear hb2 hA2 hR2 hB2 uc uf uz;by_cases h0:e1=0
     ·subst h0;by_cases hn1:n1=0
      ·subst hn1;have HE2:=Lib.hid (show rd=(cn0,5) by rw [HE1.out,thereV_z];rfl);go_wp2_with (exact bodyPost_ret (copen_results (x:=cn0) (e:=5) HR3.out.set7 rfl rfl) rfl ⟨by rw [HE2.out],below_set7 (HB1.out.trans (HB3.out.mono HB1.out.size)) (by omega)⟩)
      ·have hn1':(n1 == 0)=false:=by simpa using hn1
       have HE2:=Lib.hid (show rd=S.openK2 b ⟨u.u,u.g⟩ no p.top i0 n1 by rw [HE1.out,thereV_0 hn1,if_neg (by simp)]);clear HE1 hn1;go_wp2_with fail;go_roundw
       case measure=>simp [intOf]
       case rel=>exact ⟨_,_,_,_,.s2 i0 n1 HE2.out,HA2.out.set 1 _,HB3.out⟩
     ·have h0':(e1 == 0)=false:=by simpa using h0
      have h0'':(e1 != 0)=true:=by simpa using h0
      have HE2:=Lib.hid (show rd=(cn0,e1) by rw [HE1.out,thereV_e n1 h0,if_pos h0]);clear h0;go_wp2_with (exact bodyPost_ret (copen_results (x:=cn0) (e:=e1) HR3.out.set7 rfl rfl) rfl ⟨by rw [HE2.out],below_set7 (HB1.out.trans (HB3.out.mono HB1.out.size)) (by omega)⟩)
    | s2 i0 f0 hE=>
     have HE1:=Lib.hid hE;have HOk:=Lib.hid (HO.out _ HBW.out no nOut);have hix:=fun w=>(part_idx nInfo nFiles nOut nWay w).2.2.1;unfold Fs.openK2 at HE1;generalize S.ownF b ⟨u.u,u.g⟩ no nOut=r at HOk HE1;obtain⟨n1,e1⟩:=r;dsimp only at HOk HE1;unfold nInfo nFiles nOut nWay at hix;unfold nOut at HOk;clear hE;go_wp2_with fail;refine HOk.out.mono ?_;rintro e w2 ⟨rfl,hb2⟩;have hA2:=HAr.out.keep hb2;have hR2:=HRr.out.keep hb2;have hB2:=bnext HBr.out hb2;have HA2:=Lib.hid hA2;have HB2:=Lib.hid hB2;have HR3:=Lib.hid (hR2.setOther ⟨w1.heap.size,2,none⟩ (.int .i64 n1) hne1.symm);have HB3:=Lib.hid (show Below w1.heap.size w1 (w2.setCell ⟨w1.heap.size,2,none⟩ (.int .i64 n1)) from hB2.setCell (Nat.le_refl _) _);obtain⟨ac,af,az⟩:=hA2.facts;obtain⟨rc,rf,rz⟩:=hR2.facts;clear hb2 hA2 hR2 hB2 uc uf uz;by_cases h0:e1=0
     ·subst h0;have HE2:=Lib.hid (show rd=S.openK1 b ⟨u.u,u.g⟩ no p.top i0 f0 n1 by rw [HE1.out,if_neg (by simp)]);clear HE1
      cases hz:(n1 == 0) with
      | true=>
       go_wp2_with fail;go_roundw
       case measure=>simp [intOf]
       case rel=>exact ⟨_,_,_,_,.s3 i0 f0 n1 HE2.out,HA2.out.set 2 _,HB3.out⟩
      | false=>
       go_wp2_with fail;go_roundw
       case measure=>simp [intOf]
       case rel=>exact ⟨_,_,_,_,.s3 i0 f0 n1 HE2.out,HA2.out.set 2 _,HB3.out⟩
     ·have h0':(e1 == 0)=false:=by simpa using h0
      have h0'':(e1 != 0)=true:=by simpa using h0
      have HE2:=Lib.hid (show rd=(cn0,e1) by rw [HE1.out,if_pos h0]);clear h0;go_wp2_with (exact bodyPost_ret (copen_results (x:=cn0) (e:=e1) HR3.out.set7 rfl rfl) rfl ⟨by rw [HE2.out],below_set7 (HB1.out.trans (HB3.out.mono HB1.out.size)) (by omega)⟩)
    | s3 i0 f0 o0 hE=>
     have HE1:=Lib.hid hE;have HOk:=Lib.hid (HO.out _ HBW.out no nWay);have hix:=fun w=>(part_idx nInfo nFiles nOut nWay w).2.2.2;unfold Fs.openK1 at HE1;generalize S.ownF b ⟨u.u,u.g⟩ no nWay=r at HOk HE1;obtain⟨n1,e1⟩:=r;dsimp only at HOk HE1;unfold nInfo nFiles nOut nWay at hix;unfold nWay at HOk;clear hE;go_wp2_with fail;refine HOk.out.mono ?_;rintro e w2 ⟨rfl,hb2⟩;have hA2:=HAr.out.keep hb2;have hR2:=HRr.out.keep hb2;have hB2:=bnext HBr.out hb2;have HA2:=Lib.hid hA2;have HB2:=Lib.hid hB2;have HR3:=Lib.hid (hR2.setOther ⟨w1.heap.size,3,none⟩ (.int .i64 n1) hne1.symm);have HB3:=Lib.hid (show Below w1.heap.size w1 (w2.setCell ⟨w1.heap.size,3,none⟩ (.int .i64 n1)) from hB2.setCell (Nat.le_refl _) _);obtain⟨ac,af,az⟩:=hA2.facts;obtain⟨rc,rf,rz⟩:=hR2.facts;clear hb2 hA2 hR2 hB2 uc uf uz;by_cases h0:e1=0
     ·subst h0;have HE2:=Lib.hid (show rd=S.openK0 no p.top i0 f0 o0 n1 by rw [HE1.out,if_neg (by simp)]);clear HE1
      cases hz:(n1 == 0) with
      | true=>
       go_wp2_with fail;go_roundw
       case measure=>simp [intOf]
       case rel=>exact ⟨_,_,_,_,.s4 i0 f0 o0 n1 HE2.out,HA2.out.set 3 _,HB3.out⟩
      | false=>
       go_wp2_with fail;go_roundw
       case measure=>simp [intOf]
       case rel=>exact ⟨_,_,_,_,.s4 i0 f0 o0 n1 HE2.out,HA2.out.set 3 _,HB3.out⟩
     ·have h0':(e1 == 0)=false:=by simpa using h0
      have h0'':(e1 != 0)=true:=by simpa using h0
      have HE2:=Lib.hid (show rd=(cn0,e1) by rw [HE1.out,if_pos h0]);clear h0;go_wp2_with (exact bodyPost_ret (copen_results (x:=cn0) (e:=e1) HR3.out.set7 rfl rfl) rfl ⟨by rw [HE2.out],below_set7 (HB1.out.trans (HB3.out.mono HB1.out.size)) (by omega)⟩)
    | s4 i0 f0 o0 y0 hE=>
     have HE1:=Lib.hid hE;have HWk:=Lib.hid (HWh.out _ HBW.out no);have pc0:=HPC.out _ HBW.out;unfold Fs.openK0 at HE1;unfold whereV at HWk;clear hE uc uf uz ac af az
     cases hpl:S.place_ no with
     | none=>
      rw [hpl] at HE1 HWk;clear hpl;go_wp2_with fail;refine HWk.out.mono ?_;rintro e w2 ⟨rfl,hb2⟩;have hR2:=HRr.out.keep hb2;have HR2:=Lib.hid hR2;have HB2:=Lib.hid (bnext HBW.out hb2);obtain⟨rc,rf,rz⟩:=hR2.facts;clear hb2 hR2 pc0;go_wp2_with (exact bodyPost_ret (copen_results (x:=cn0) (e:=5) HR2.out.set7 rfl rfl) rfl ⟨by rw [HE1.out],below_set7 HB2.out (by omega)⟩)
     | some s=>
      rw [hpl] at HE1 HWk;clear hpl;go_wp2_with fail;refine HWk.out.mono ?_;rintro e w2 ⟨rfl,hb2⟩;have hR2:=HRr.out.keep hb2;have hA2:=HAr.out.keep hb2;have hP2:=HPr.out.keep hb2;have HR2:=Lib.hid hR2;have HB2:=Lib.hid (bnext HBW.out hb2);obtain⟨rc,rf,rz⟩:=hR2.facts;obtain⟨ac,af,az⟩:=hA2.facts;obtain⟨qc,qf,qz⟩:=hP2.facts;clear hb2 hR2 hA2 hP2 pc0;go_wp2_with (exact bodyPost_ret (copen_results (x:=⟨s,no,i0,f0,o0,y0,p.top⟩) (e:=0) HR2.out.set7 rfl rfl) rfl ⟨by rw [HE1.out],below_set7 HB2.out (by omega)⟩)
 ·have h0':(e1 == 0)=false:=by simpa using h0
  have h0'':(e1 != 0)=true:=by simpa using h0
  have HE:=Lib.hid (show rd=(cn0,e1) by rw [HR.out,thereV_e no h0,if_pos h0]);clear h0;go_wp2_with (exact bodyPost_ret (copen_results (x:=cn0) (e:=e1) HR1.out.set7 rfl rfl) rfl ⟨by rw [HE.out],below_set7 HB1.out (by omega)⟩)
end
end
section
open Go.RowKit
theorem TrSt.less {S:Fs} {N:Nat} {s0:Int} {B:Nat} {a todo:List En} {nos:List Int} {f:Nat} (h:TrSt S N s0 B (a ++ todo) nos f):TrSt S N s0 B todo nos f:=by
 have h1:=h.nodup;have h2:=h.src;have h3:=h.low;have h4:=h.fuel;rw [dirsT_append,List.append_assoc] at h1 h2 h3;rw [List.length_append] at h4;exact⟨(List.nodup_append.1 h1).2.1,fun c hc=>h2 c (List.mem_append_right _ hc),fun c hc=>h3 c (List.mem_append_right _ hc),by omega,fun x hx=>h.size x (List.mem_append_right _ hx)⟩
theorem down_len {S:Fs} {N:Nat} (h:Fine S N) (c:Cr):∀ (f:Nat) (stk:List Sp) (raw:List En) (nos:List Int) (s0:Int) (B g:Nat),TrSt S N s0 B raw nos g→stk.map (·.no)=raw.map (fun e=>S.over e.no)→(S.downL c f stk).1.length≤g
 | 0,_,_,_,_,_,_,_,_=>Nat.zero_le _
 | _+1,[],_,_,_,_,_,_,_=>Nat.zero_le _
 | f+1,x :: t,raw,nos,s0,B,g,ht,hm=>by
  unfold Fs.downL
  split
  ·exact Nat.zero_le _
  ·rename_i he
   cases raw with
   | nil=>cases hm
   | cons e raw=>
    rw [List.map_cons,List.map_cons] at hm;injection hm with hx hm;obtain⟨g,rfl⟩:=ht.pos;have he0:(S.intoF c x).2=0:=by simpa using he
    cases hg:S.get (S.over e.no) with
    | none=>
     exfalso;unfold Fs.intoF at he0;rw [hx,hg] at he0;rw [if_pos (by decide)] at he0;exact absurd he0 (by decide)
    | some n=>
     have hs:=ht.some h.ok h.pl h.tr hg;rw [List.length_cons];refine Nat.succ_le_succ ?_;have hnil:(S.intoF c x).1=[]→(S.downL c f ((S.intoF c x).1 ++ t)).1.length≤g:=fun h0=>by
      rw [h0,List.nil_append];exact down_len h c f t raw _ _ _ g hs.less hm
     have hl:(S.intoF c x).1=[]∨(S.intoF c x).1.map (·.no)=(kidsL e.name n).map (fun e=>S.over e.no):=by
      unfold Fs.intoF
      split
      ·exact .inl rfl
      split
      ·exact .inl rfl
      split
      ·exact .inl rfl
      split
      ·exact .inl rfl
      unfold Fs.listF;rw [if_neg (by decide)]
      split
      ·exact .inl rfl
      ·refine .inr ?_;have hents:S.entsOf x.no=n.ents:=by unfold Fs.entsOf;rw [hx,hg]
       rw [hents];unfold kidsL;simp [List.map_map,Function.comp_def]
     rcases hl with h0 | h0
     ·exact hnil h0
     ·exact down_len h c f _ (kidsL e.name n ++ raw) _ _ _ g hs (by rw [List.map_append,List.map_append,h0,hm])
theorem walk_len {S:Fs} {N:Nat} (h:Fine S N) (d:Bool) (c:Cr) (dir:Int) (n:ByteArray):(S.walkF N d c dir n).1.length≤S.rowsF N:=by
 unfold Fs.walkF
 split
 ·exact Nat.zero_le _
 ·rename_i h0;have hk:∃ k,(S.lookF d c dir n).1=S.over k:=by
   unfold Fs.lookF at h0 ⊢
   split
   ·rename_i h1;rw [if_pos h1] at h0;exact absurd (by decide) h0
   rename_i h1;rw [if_neg h1] at h0
   split
   ·rename_i h2;rw [if_pos h2] at h0;exact absurd h2 h0
   rename_i h2;rw [if_neg h2] at h0
   split
   ·rename_i h3;rw [if_pos h3] at h0;exact absurd (by decide) h0
   ·exact ⟨_,rfl⟩
  obtain⟨k,hk⟩:=hk;exact down_len h c _ _ [⟨ByteArray.empty,k⟩] [] _ _ _ (TrSt.start S N k ByteArray.empty) (by rw [List.map_singleton,List.map_singleton,hk])
def toldL (r:List Sp×Option (Sp×Int)):List (Sp×Int):=r.1.map (fun x=>(x,0)) ++ (match r.2 with | none=>[] | some p=>[p])
theorem told_cons (x:Sp) (l:List Sp) (o:Option (Sp×Int)):toldL (x :: l,o)=(x,0) :: toldL (l,o):=by unfold toldL;rw [List.map_cons,List.cons_append]
theorem told_down {S:Fs} {c:Cr} {f:Nat} {x:Sp} {t:List Sp} (he:(S.intoF c x).2=0):toldL (S.downL c (f+1) (x :: t))=(x,0) :: toldL (S.downL c f ((S.intoF c x).1 ++ t)):=by
 rw [show S.downL c (f+1) (x :: t)=(x :: (S.downL c f ((S.intoF c x).1 ++ t)).1,(S.downL c f ((S.intoF c x).1 ++ t)).2) from by rw [Fs.downL,if_neg (by simpa using he)]];exact told_cons _ _ _
theorem told_bad {S:Fs} {c:Cr} {f:Nat} {x:Sp} {t:List Sp} (he:(S.intoF c x).2≠0):toldL (S.downL c (f+1) (x :: t))=[(x,(S.intoF c x).2)]:=by
 rw [show S.downL c (f+1) (x :: t)=([],some (x,(S.intoF c x).2)) from by rw [Fs.downL,if_pos he]];rfl
theorem told_end {S:Fs} {c:Cr} {f:Nat}:toldL (S.downL c f [])=[]:=by cases f <;> rfl
end
section
open Go.RowKit
section
variable {w w':World} {pf pw:Nat} {R:Rp} {pv:Value} {Y:Sy}
theorem ldir_any (h:SyAt w pf pw R pv Y) {N:Nat} (hk:SyOk Y N) (hN:N≤900000) (u:Us) (dir:Int) (n:ByteArray) (hn:n.size≤9223372036854775807) :
  Calls Tryz.prog 118 #[.pointer (some ⟨pf,0,none⟩),.agg #[.int .i64 u.u,.int .i64 u.g,.string u.data],.int .i64 dir,.string n] w fun e w'=>
   e=.returned (.tuple #[.int .i64 (Y.dirF u dir n).2.1,.int .i64 (Y.dirF u dir n).2.2])∧Goes w w' pf pw R pv (Y.dirF u dir n).1:=by
 obtain⟨u,g,t⟩:=u;dsimp only;have hX:=Blk.new w #[.int .i64 u,.int .i64 g,.string t] 33;have hbX:=balloc (Below.refl w.heap.size w) (.cells #[.int .i64 u,.int .i64 g,.string t] 33);have HC:=Lib.hid (ccred_any u g t);have HO:=Lib.hid (fun w1 (hb1:Below w.heap.size w w1)=>cown_any (h.keep hb1) hk.fine.ok (by omega) u g t dir n);have HM:=Lib.hid (fun w1 (hb1:Below w.heap.size w w1)=>smkdir_any (h.keep hb1) hk.fine.ok (by omega) ⟨hk.c0,by have:=hk.cN;omega⟩ (by have:=hk.pl;omega) ⟨u,g⟩ dir n 448 hn);have HG:=Lib.hid (fun w1 (hb1:Below w.heap.size w w1)=>Goes.of h hb1);have HR:=Lib.hid (show Y.dirF ⟨u,g,t⟩ dir n=if (Y.fs.ownF Y.dead ⟨u,g⟩ dir n).2=0∧(Y.fs.ownF Y.dead ⟨u,g⟩ dir n).1=0 then Y.op (fun S now=>S.mkdir ⟨u,g⟩ now dir n 448) else (Y,Y.fs.ownF Y.dead ⟨u,g⟩ dir n) from rfl);generalize Y.dirF ⟨u,g,t⟩ dir n=rd at HR ⊢;generalize Y.fs.ownF Y.dead ⟨u,g⟩ dir n=r at HR HO;generalize Y.op (fun S now=>S.mkdir ⟨u,g⟩ now dir n 448)=q at HR HM;obtain⟨no,e1⟩:=r;dsimp only at HR HO;clear h hk;go_enter Tryz.func118,Tryz.ntmps118;go_upto_region 1 with fail;generalize w.alloc (.cells #[.int .i64 u,.int .i64 g,.string t] 33)=W0 at hX hbX ⊢;have HX:=Lib.hid hX;have HBX:=Lib.hid hbX;obtain⟨xc,xf,xz⟩:=hX.facts;clear hX hbX;go_wp2_with fail;refine (HO.out _ HBX.out).mono ?_;rintro e w1 ⟨rfl,hb1⟩;have HB1:=Lib.hid (bnext HBX.out hb1);have HX1:=Lib.hid (HX.out.keep hb1);clear hb1 xc xf xz;by_cases h0:e1=0
 ·by_cases h1:no=0
  ·have HE:=Lib.hid (HR.out.trans (if_pos ⟨h0,h1⟩));subst h0 h1;obtain⟨xc,xf,xz⟩:=HX1.out.facts;go_wp2_with fail;refine (HC.out _).mono ?_;rintro e w2 ⟨rfl,hb2⟩;have HB2:=Lib.hid (bnext HB1.out hb2);clear hb2 xc xf xz;go_wp2_with fail;refine (HM.out _ HB2.out).mono ?_;rintro e w3 ⟨rfl,R3,hY3,hS3⟩;have HG3:=Lib.hid (show Goes w w3 pf pw R pv q.1 from ⟨R3,hY3,(Stp.of_below HB2.out).trans hS3⟩);clear hY3 hS3;go_wp2_with fail;go_ret2;rw [HE.out];exact⟨rfl,HG3.out⟩
  ·have h1b:(no == 0)=false:=by simpa using h1
   have HE:=Lib.hid (HR.out.trans (if_neg (fun h=>h1 h.2)));subst h0;clear h1;go_wp2_with fail;go_ret2;rw [HE.out];exact⟨rfl,HG.out _ HB1.out⟩
 ·have h0b:(e1 == 0)=false:=by simpa using h0
  have HE:=Lib.hid (HR.out.trans (if_neg (fun h=>h0 h.1)));clear h0;go_wp2_with fail;go_ret2;rw [HE.out];exact⟨rfl,HG.out _ HB1.out⟩
end
end
section
open Go.RowKit
def anyO (_:Obj):Bool:=true
def SeqW {α:Type} (M T:Nat→Prop) (F:Fence) (n:Nat) (P:Program) (g:Nat) (lb:Array Value) (encs:α→Array Value) (S Sp:List α→Prop) (V:List α→α→Prop) (w:World):Prop:=
 ∀ (l:Nat) (J Jx:List α→World→Prop) (W:World),KT T w W→w.heap.size≤W.heap.size→(∀ k,M k→k<W.heap.size)→l<W.heap.size→AbT NoT W.heap.size anyO J→AbT NoT W.heap.size anyO Jx→
  (∀ pre x W1,J pre W1→V pre x→YieldAt F (n - 1) P l (encs x) W1 fun e W'=>
   (e=.returned (.bool true)∧J (pre ++ [x]) W'∧KT T W1 W'∧Mod (fun k=>M k∨k=l) W1 W')∨(e=.returned (.bool false)∧Jx (pre ++ [x]) W'))→
  J [] W→
  CallsIn F n P g (#[.func (.yield l) #[] #[]] ++ lb) W fun e W'=>(∃ v,e=.returned v)∧((∃ xs,S xs∧J xs W')∨(∃ pre,Sp pre∧Jx pre W'))
end
end Go.Proofs.YtbndfmkgamdgeaaGreatDoor
