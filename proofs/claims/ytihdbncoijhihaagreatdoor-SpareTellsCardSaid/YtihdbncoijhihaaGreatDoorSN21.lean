import Derived.RangeFuncNested
import Derived.RangeFuncBound
import Derived.RangeFuncCalls
import Derived.RangeFuncLeaves
import Derived.Shelf.Abstract
import Derived.Shelf.RegionOpen
import Derived.OwnWalkIn
import Derived.TacticsInMore
import Derived.LoopNIn
import Derived.LoopIn
import Derived.WalkMore
import Derived.Test.YtihdbncoijhihaaGreatDoorSN6
import Derived.Test.YtihdbncoijhihaaGreatDoorSN1
import Derived.Test.YtihdbncoijhihaaGreatDoorSN9
import Derived.Test.YtihdbncoijhihaaGreatDoorSN15
import Derived.Test.YtihdbncoijhihaaGreatDoorSN20
import Derived.Test.YtihdbncoijhihaaGreatDoorSN2
import Derived.Test.YtihdbncoijhihaaGreatDoorSN10
import Derived.Test.YtihdbncoijhihaaGreatDoorSN5
import Derived.Test.YtihdbncoijhihaaGreatDoorSN18
import Derived.Test.YtihdbncoijhihaaGreatDoorSN8
import Derived.Test.YtihdbncoijhihaaGreatDoorSN3
set_option linter.unusedVariables false
set_option linter.unusedSimpArgs false
set_option maxRecDepth 100000
set_option maxHeartbeats 16000000
namespace Go.Proofs.YtihdbncoijhihaaGreatDoor
section
open Go.RowKit
theorem below_str (s n:ByteArray):str (trimL s.data.toList) ++ ByteArray.mk #[47] ++ n=belowB s n:=by
 unfold belowB;rw [←str_of n,str_list,show ByteArray.mk #[47]=str [47] from rfl,str_append,str_append,List.append_assoc];rfl
theorem rcut_any (s:ByteArray) (w:World) (hs:s.size≤100000) :
  Calls Tryz.prog 93 #[.string s] w fun e w'=>e=.returned (.string (str (trimL s.data.toList)))∧w'=w:=by
 go_enter Tryz.func93,Tryz.ntmps93;go_wp2_with fail
 go_loop [0] (fun t0=>∃ t:ByteArray,t0=.string t∧t.size≤s.size∧trimL t.data.toList=trimL s.data.toList) (fun t0=>match t0 with | .string t=>t.size | _=>0)
 case atStart=>exact ⟨s,rfl,Nat.le_refl _,rfl⟩
 case round=>
  obtain⟨t,rfl,hts,htr⟩:=hrel;have HTr:=Lib.hid htr;clear htr;rcases Nat.eq_zero_or_pos t.size with h0 | hpos
  ·have hnil:=Lib.hid (show t.data.toList=[] from List.eq_nil_of_length_eq_zero (by rw [Array.length_toList];exact h0));have HTt:=Lib.hid (show str (trimL s.data.toList)=t from by rw [←HTr.out,hnil.out,←str_of t,hnil.out];rfl);go_wp2_with fail;go_ret;exact⟨by rw [HTt.out];rfl,rfl⟩
  ·have hsn:t.data.toList=t.data.toList.take (t.size - 1) ++ [t[t.size - 1]]:=by
    have:=take_step t (t.size - 1) (by omega);rw [show t.size - 1+1=t.size by omega,take_end] at this;exact this
   have Hsn:=Lib.hid hsn;have q1:(1:Int)≤(t.size:Int):=by omega
   have q2:((t.size:Int) - 1).toNat=t.size - 1:=by omega
   by_cases hc:t[t.size - 1]=47
   ·have hc1:((t[t.size - 1].toNat:Int) == 47)=true:=by rw [hc];rfl
    have HTq:=Lib.hid (show trimL (t.extract 0 (t.size - 1)).data.toList=trimL s.data.toList by
     rw [←HTr.out,Hsn.out,trimL_snoc,if_pos hc,ByteArray.data_extract,Array.toList_extract,List.extract_eq_take_drop];simp)
    have hsz:(t.extract 0 (t.size - 1)).size=t.size - 1:=by simp
    have Hsz:=Lib.hid hsz;clear hc hsn hsz;go_wp2_with fail
    go_round
    case rel=>exact ⟨_,rfl,by rw [Hsz.out];omega,HTq.out⟩
    case measure=>
     show (t.extract 0 (t.size - 1)).size<t.size;rw [Hsz.out];omega
   ·have hc1:((t[t.size - 1].toNat:Int) == 47)=false:=by
     simp only [beq_eq_false_iff_ne,ne_eq];intro h;exact hc (by rw [u8_eq];show (t[t.size - 1]).toNat=47;omega)
    have HTt:=Lib.hid (show str (trimL s.data.toList)=t from by
     rw [←HTr.out,Hsn.out,trimL_snoc,if_neg hc,←Hsn.out,str_of])
    clear hc hsn;go_wp2_with fail;go_ret;exact⟨by rw [HTt.out];rfl,rfl⟩
theorem rbelow_any (s n:ByteArray) (w:World) (hs:s.size≤100000) (hn:n.size≤100000) :
  Calls Tryz.prog 83 #[.string s,.string n] w fun e w'=>e=.returned (.string (belowB s n))∧w'=w:=by
 have HC:=Lib.hid (rcut_any s w hs);have HE:=Lib.hid (below_str s n);have hz:(str (trimL s.data.toList)).size≤100000:=by
  rw [str_size];have h1:=trimL_len s.data.toList;have h2:s.data.toList.length=s.size:=Array.length_toList;omega
 generalize str (trimL s.data.toList)=t at HC HE hz;generalize belowB s n=r at HE ⊢;have h1:¬ 9223372036854775807<t.size+1:=by omega
 have h2:¬ 9223372036854775807<(t ++ ByteArray.mk #[47]).size+n.size:=by
  rw [ByteArray.size_append];show ¬ 9223372036854775807<t.size+1+n.size;omega
 go_enter Tryz.func83,Tryz.ntmps83;go_wp2_with fail;refine HC.out.mono ?_;rintro e w1 ⟨rfl,rfl⟩;go_wp2_with fail;go_ret;exact⟨by rw [←HE.out];rfl,rfl⟩
theorem tbelow_any (s n:ByteArray) (w:World) (hs:s.size≤100000) (hn:n.size≤100000) :
  Calls Tryz.prog 81 #[.string s,.string n] w fun e w'=>e=.returned (.string (belowB s n))∧w'=w:=by
 have HC:=Lib.hid (show Calls Tryz.prog 157 #[.string s,.string (ByteArray.mk #[47])] w fun e w'=>e=.returned (.string (str (trimL s.data.toList)))∧w'=w from by
  refine (Tryz.strings_TrimRight_one s 47 (by decide) w (by omega)).mono ?_;rintro e w' ⟨rfl,rfl⟩;exact⟨rfl,rfl⟩)
 have HE:=Lib.hid (below_str s n);have hz:(str (trimL s.data.toList)).size≤100000:=by
  rw [str_size];have h1:=trimL_len s.data.toList;have h2:s.data.toList.length=s.size:=Array.length_toList;omega
 generalize str (trimL s.data.toList)=t at HC HE hz;generalize belowB s n=r at HE ⊢;have h1:¬ 9223372036854775807<t.size+1:=by omega
 have h2:¬ 9223372036854775807<(t ++ ByteArray.mk #[47]).size+n.size:=by
  rw [ByteArray.size_append];show ¬ 9223372036854775807<t.size+1+n.size;omega
 go_enter Tryz.func81,Tryz.ntmps81;go_wp2_with fail;refine HC.out.mono ?_;rintro e w1 ⟨rfl,rfl⟩;go_wp2_with fail;go_ret;exact⟨by rw [←HE.out];rfl,rfl⟩
end
section
open Go.RowKit
theorem has0_any (s:ByteArray) (hs:s.size≤100000) (w:World) :
  Calls Tryz.prog 158 #[.string s,.int .u8 0] w fun e w'=>e=.returned (.bool (hasB s 0))∧w=w':=has_any s 0 w hs
theorem rpath_any (s:ByteArray) (w:World) (hs:s.size≤100000) :
  Calls Tryz.prog 88 #[.string s] w fun e w'=>e=.returned (.int .i64 (pathE s))∧w=w':=by
 rcases Nat.eq_zero_or_pos s.size with h0 | hpos
 ·have HE:=Lib.hid (pathE_nil h0);have hn:s.toList=[]:=by rw [ba_list];exact List.eq_nil_of_length_eq_zero (by rw [Array.length_toList];exact h0)
  clear h0;go_enter Tryz.func88,Tryz.ntmps88;go_wp2_with fail;go_ret;exact⟨by rw [HE.out];rfl,rfl⟩
 ·have hn:¬ s.toList=[]:=by
   rw [ba_list];intro e;have:s.data.toList.length=s.size:=Array.length_toList;rw [e] at this;simp at this;omega
  have hn2:s.toList.isEmpty=false:=by simpa using hn
  by_cases h47:s[0]=47
  ·have hr:=Lib.hid (pathE_rest hpos h47);have hc1:((s[0].toNat:Int) == 47)=true:=by rw [h47];rfl
   have hc2:((s[0].toNat:Int) != 47)=false:=by rw [bne,hc1];rfl
   clear h47;have hc:=Lib.hid (has0_any s hs);generalize hasB s 0=b at hr hc
   cases b
   ·by_cases hlen:4096<s.size
    ·have hE:=Lib.hid (show pathE s=13 by rw [hr.out];simp [hlen]);go_enter Tryz.func88,Tryz.ntmps88;go_wp2_with (go_at_call 158;refine (hc.out _).mono ?_;rintro e w1 ⟨rfl,rfl⟩);go_ret;exact⟨by rw [hE.out];rfl,rfl⟩
    ·have hE:=Lib.hid (show pathE s=0 by rw [hr.out];simp [hlen]);go_enter Tryz.func88,Tryz.ntmps88;go_wp2_with (go_at_call 158;refine (hc.out _).mono ?_;rintro e w1 ⟨rfl,rfl⟩);go_ret;exact⟨by rw [hE.out];rfl,rfl⟩
   ·have hE:=Lib.hid (show pathE s=1 by rw [hr.out];rfl);go_enter Tryz.func88,Tryz.ntmps88;go_wp2_with (go_at_call 158;refine (hc.out _).mono ?_;rintro e w1 ⟨rfl,rfl⟩);go_ret;exact⟨by rw [hE.out];rfl,rfl⟩
  ·have hE:=Lib.hid (pathE_head hpos h47);have hc1:((s[0].toNat:Int) == 47)=false:=by
    simp only [beq_eq_false_iff_ne,ne_eq];intro h;exact h47 (by rw [u8_eq];show s[0].toNat=47;omega)
   have hc2:((s[0].toNat:Int) != 47)=true:=by rw [bne,hc1];rfl
   clear h47;go_enter Tryz.func88,Tryz.ntmps88;go_wp2_with fail;go_ret;exact⟨by rw [hE.out];rfl,rfl⟩
end
section
open Go.RowKit
section
variable {w w':World} {pf pw:Nat} {R:Rp} {pv:Value} {Y:Sy}
theorem tpath_any (h:SyAt w pf pw R pv Y) {N:Nat} (hk:FsOk Y.fs N) (hp:Pl Y.fs) (hl:Y.fs.ns.length≤100000) (hd:Y.dead=false) (dir:Int) (n:ByteArray) (hn:n.size≤100000) (hpz:∀ s,Y.fs.place_ dir=some s→s.size≤100000) :
  Calls Tryz.prog 17 #[.pointer (some ⟨pf,0,none⟩),.int .i64 dir,.string n] w fun e w'=>e=.returned (.tuple #[.string (Y.fs.pathF dir n).1,.int .i64 (Y.fs.pathF dir n).2])∧Below w.heap.size w w':=by
 have HC:=Lib.hid (ncheck_any n w (by omega));have HS:=Lib.hid (sstat_any h hk hd dir);have HWh:=Lib.hid (fun w1 (hb:Below w.heap.size w w1) d=>wwhere_any (h.wd.keep hb) hk hp hl d);have HPz:=Lib.hid hpz;obtain⟨pc,-,pz⟩:=h.blk.facts;have HPC:=Lib.hid (fun w1 (hb1:Below w.heap.size w w1)=>show w1.cell? ⟨pf,0,none⟩=some (.pointer (some ⟨pw,0,none⟩)) from (hb1.cell (p:=⟨pf,0,none⟩) pz).trans (pc 0));obtain⟨S,hS⟩:∃ S,Y.fs=S:=⟨_,rfl⟩;rw [hS] at HS HWh HPz ⊢;have HZ0:=Lib.hid (fun h=>pathF_chk (S:=S) (dir:=dir) (n:=n) h);have HZ1:=Lib.hid (fun h h2=>pathF_none (S:=S) (dir:=dir) (n:=n) h h2);have HZ2:=Lib.hid (fun a h h2 h3=>pathF_kind (S:=S) (dir:=dir) (n:=n) (a:=a) h h2 h3);have HZ3:=Lib.hid (fun a h h2 h3 h4=>pathF_gone (S:=S) (dir:=dir) (n:=n) (a:=a) h h2 h3 h4);have HZ4:=Lib.hid (fun a s h h2 h3 h4=>pathF_some (S:=S) (dir:=dir) (n:=n) (a:=a) (s:=s) h h2 h3 h4);generalize S.pathF dir n=Z at HZ0 HZ1 HZ2 HZ3 HZ4 ⊢;clear h hk hp hd hS pc pz hl hpz;by_cases hc:checkE n=0
 ·have HHc:=Lib.hid hc;rw [hc] at HC;clear hc
  cases hg:S.get dir with
  | none=>
   rw [hg] at HS;have HZ:=Lib.hid (HZ1.out HHc.out hg);unfold stV noneE at HS;clear hg;go_enter Tryz.func17,Tryz.ntmps17;go_wp2_with fail;refine HC.out.mono ?_;rintro e w0 ⟨rfl,rfl⟩;go_wp2_with fail;refine HS.out.mono ?_;rintro e w1 ⟨rfl,hb1⟩;have HB1:=Lib.hid (balloc hb1 (.cells #[.int .i64 0,.int .i64 0,.int .i64 0,.int .i64 0,.int .i64 0,.int .i64 0,.int .i64 0,.int .i64 0,.int .i64 0,.int .i64 0] 172));clear hb1;go_wp2_with fail;go_ret2;exact⟨by rw [HZ.out];rfl,HB1.out⟩
  | some a=>
   rw [hg] at HS;have HG:=Lib.hid hg;unfold stV noneE at HS;clear hg;go_enter Tryz.func17,Tryz.ntmps17;go_wp2_with fail;refine HC.out.mono ?_;rintro e w0 ⟨rfl,rfl⟩;go_wp2_with fail;refine HS.out.mono ?_;rintro e w1 ⟨rfl,hb1⟩;have hX:=Blk.new w1 #[.int .i64 a.no,.int .i64 a.dev,.int .i64 a.kind,.int .i64 a.mode,.int .i64 a.uid,.int .i64 a.gid,.int .i64 a.links,.int .i64 a.data.size,.int .i64 a.mtime,.int .i64 a.ctime] 172;have hbX:=balloc hb1 (.cells #[.int .i64 a.no,.int .i64 a.dev,.int .i64 a.kind,.int .i64 a.mode,.int .i64 a.uid,.int .i64 a.gid,.int .i64 a.links,.int .i64 a.data.size,.int .i64 a.mtime,.int .i64 a.ctime] 172);go_upto_region 5 with fail;generalize w1.alloc (.cells #[.int .i64 a.no,.int .i64 a.dev,.int .i64 a.kind,.int .i64 a.mode,.int .i64 a.uid,.int .i64 a.gid,.int .i64 a.links,.int .i64 a.data.size,.int .i64 a.mtime,.int .i64 a.ctime] 172)=X at hX hbX ⊢;have HBX:=Lib.hid hbX;obtain⟨xc,xf,xz⟩:=hX.facts;have pc0:=HPC.out _ hbX;clear hb1 hX hbX;by_cases hkd:a.kind=1
   ·have hk1:(a.kind != 1)=false:=by simpa using hkd
    have HKd:=Lib.hid hkd;clear hkd;go_wp2_with fail;refine (HWh.out _ HBX.out _).mono ?_;rintro e w3 ⟨rfl,hb3⟩;have HB3:=Lib.hid (bnext HBX.out hb3);unfold whereV;clear hb3 xc xf xz pc0
    cases hpl:S.place_ dir with
    | none=>
     have HZ:=Lib.hid (HZ3.out _ HHc.out HG.out HKd.out hpl);clear hpl;go_wp2_with fail;go_ret2;exact⟨by rw [HZ.out];rfl,HB3.out⟩
    | some s=>
     have hs:=HPz.out s hpl;have hz0:=HZ4.out _ _ HHc.out HG.out HKd.out hpl;have HBl:=Lib.hid (fun w=>tbelow_any s n w hs hn);obtain⟨t,ht⟩:∃ t,belowB s n=t:=⟨_,rfl⟩;rw [ht] at HBl hz0;have HZ:=Lib.hid hz0;clear hpl ht hz0;go_wp2_with fail;refine (HBl.out _).mono ?_;rintro e w4 ⟨rfl,rfl⟩;by_cases hz:4096<t.size
     ·have hz2:(4096:Int)<(t.size:Int):=by omega
      have HZz:=Lib.hid (HZ.out.trans (if_pos hz));go_wp2_with fail;go_ret2;exact⟨by rw [HZz.out];rfl,HB3.out⟩
     ·have hz2:¬ (4096:Int)<(t.size:Int):=by omega
      have HZz:=Lib.hid (HZ.out.trans (if_neg hz));go_wp2_with fail;go_ret2;exact⟨by rw [HZz.out];rfl,HB3.out⟩
   ·have hk1:(a.kind != 1)=true:=by simpa using hkd
    have HZ:=Lib.hid (HZ2.out _ HHc.out HG.out hkd);clear hkd;go_wp2_with fail;go_ret2;exact⟨by rw [HZ.out];rfl,HBX.out⟩
 ·have HZ:=Lib.hid (HZ0.out hc);have hcb:(checkE n != 0)=true:=by simpa using hc
  generalize checkE n=ce at HC hcb HZ;clear hc;go_enter Tryz.func17,Tryz.ntmps17;go_wp2_with fail;refine HC.out.mono ?_;rintro e w0 ⟨rfl,rfl⟩;go_wp2_with fail;go_ret2;exact⟨by rw [HZ.out];rfl,Below.refl _ _⟩
end
end
section
open Go.RowKit Go.Shelf
attribute [local go_sem] Oper.semAt_some
def Fs.topAt (S:Fs) (d:Nat):Option (Int×ByteArray):=(S.place_ (S.root ((d:Int)+1))).map fun s=>(S.root ((d:Int)+1),s)
def Fs.topsK (S:Fs) (k:Nat):List (Int×ByteArray):=(List.range k).filterMap S.topAt
def Fs.topsL (S:Fs):List (Int×ByteArray):=S.topsK S.ds.length
end
section
open Go.RowKit
def Nm (S:Fs):Prop:=∀ a∈S.ns,∀ x∈a.ents,checkE x.name=0
theorem Nm.set {S:Fs} (h:Nm S) {a:An} (hn:∀ x∈a.ents,checkE x.name=0):Nm (S.set a):=by
 intro y hy;unfold Fs.set at hy;simp only [List.mem_map] at hy;obtain⟨z,hz,rfl⟩:=hy
 split
 ·exact hn
 ·exact h z hz
theorem Nm.add {S:Fs} (h:Nm S) {a:An} (hn:a.ents=[]):Nm (S.add a):=by
 intro y hy;unfold Fs.add at hy;rcases List.mem_append.1 hy with hy | hy
 ·exact h y hy
 ·simp at hy;subst hy;intro x hx;rw [show ({a with no:=S.last+1}:An).ents=a.ents from rfl,hn] at hx
  cases hx
theorem Nm.addRoot {S:Fs} (h:Nm S) (o b n:Int):Nm (S.addRoot o b n):=by
 intro y hy;unfold Fs.addRoot at hy;rcases List.mem_append.1 hy with hy | hy
 ·exact h y hy
 ·simp at hy;subst hy;intro x hx
  cases hx
theorem Nm.make {S:Fs} (h:Nm S) {a:An} (hn:a.ents=[]):Nm (S.make a).1:=by
 unfold Fs.make
 split
 ·exact h
 ·split
  ·exact h
  ·simp only
   split
   ·exact Nm.add (S:=S.setDev _ _) (fun y hy=>h y hy) hn
   ·exact h
theorem put_check {l:List En} (h:∀ x∈l,checkE x.name=0) {s:ByteArray} (hs:checkE s=0) (no:Int):∀ x∈entPut l s no,checkE x.name=0:=by
 intro x hx;unfold entPut at hx;rcases List.mem_append.1 hx with hx | hx
 ·exact h x (List.mem_filter.1 hx).1
 ·rcases List.mem_cons.1 hx with rfl | hx
  ·exact hs
  ·exact h x (List.mem_filter.1 hx).1
theorem Nm.touch {S:Fs} (h:Nm S) (now dir:Int) (l:List En) (hl:∀ x∈l,checkE x.name=0):Nm (S.touch now dir l):=by
 unfold Fs.touch
 split
 ·exact h
 ·exact h.set hl
theorem Nm.come {S:Fs} (h:Nm S) {a:An} (c:Cr) (now dir:Int) (s:ByteArray) (he:a.ents=[]):Nm (S.come c now dir s a).1:=by
 unfold Fs.come
 split
 ·exact h
 ·rename_i hpl;obtain⟨d,hd,hdk,hce⟩:=place_check (by simpa using hpl);rw [hd];simp only
  split
  ·exact h
  ·have hm:=h.make (a:={a with dev:=d.dev,uid:=c.u,gid:=c.g,mtime:=now,ctime:=now,links:=1}) he
   split
   ·exact h
   ·exact hm.touch _ _ _ (put_check (h d (an_mem hd)) hce _)
theorem Nm.mkdir {S:Fs} (h:Nm S) (c:Cr) (now dir:Int) (s:ByteArray) (m:Int):Nm (S.mkdir c now dir s m).1:=by
 unfold Fs.mkdir
 split
 ·exact h
 ·exact h.come c now dir s rfl
theorem Nm.file {S:Fs} (h:Nm S) (c:Cr) (now dir:Int) (s:ByteArray) (m:Int) (t:ByteArray):Nm (S.file c now dir s m t).1:=by
 unfold Fs.file
 split
 ·exact h
 ·split
  ·exact h
  ·exact h.come c now dir s rfl
theorem Nm.sym {S:Fs} (h:Nm S) (c:Cr) (now dir:Int) (s t:ByteArray):Nm (S.sym c now dir s t).1:=by
 unfold Fs.sym
 split
 ·exact h
 ·split
  ·exact h
  ·exact h.come c now dir s rfl
theorem Nm.hard {S:Fs} (h:Nm S) (c:Cr) (now no dir:Int) (s:ByteArray):Nm (S.hard c now no dir s).1:=by
 unfold Fs.hard
 split
 ·exact h
 ·rename_i hpl;obtain⟨d0,hd0,hdk,hce⟩:=place_check (by simpa using hpl)
  split
  ·rename_i d n hd hn
   split
   ·exact h
   ·split
    ·exact h
    ·split
     ·exact h
     ·split
      ·exact h
      ·exact Nm.touch (h.set (a:={n with links:=n.links+1,ctime:=now}) (h n (an_mem hn))) _ _ _ (put_check (h d (an_mem hd)) hce _)
  ·exact h
theorem Nm.chmod {S:Fs} (h:Nm S) (c:Cr) (now no m:Int):Nm (S.chmod c now no m).1:=by
 unfold Fs.chmod
 split
 ·exact h
 ·rename_i n hn
  split
  ·exact h
  ·split
   ·exact h
   ·exact h.set (h n (an_mem hn))
theorem Nm.chown {S:Fs} (h:Nm S) (c:Cr) (now no u g:Int):Nm (S.chown c now no u g).1:=by
 unfold Fs.chown
 split
 ·exact h
 ·rename_i n hn
  split
  ·exact h
  ·split
   ·exact h
   ·split
    ·exact h
    ·exact h.set (h n (an_mem hn))
theorem Nm.utime {S:Fs} (h:Nm S) (c:Cr) (now no t:Int):Nm (S.utime c now no t).1:=by
 unfold Fs.utime
 split
 ·exact h
 ·rename_i n hn
  split
  ·exact h
  ·split
   ·exact h
   ·exact h.set (h n (an_mem hn))
theorem Nm.mount {S:Fs} (h:Nm S) (k b n:Int):Nm (S.mount k b n).1:=by
 unfold Fs.mount
 split
 ·exact h
 ·split
  ·exact h
  ·split
   ·exact h
   ·split
    ·exact h
    ·exact h.addRoot _ b n
theorem Nm.mountF {S:Fs} (h:Nm S) (m:Mt):Nm (mountF S m):=by
 unfold Go.Proofs.YtihdbncoijhihaaGreatDoor.mountF
 split
 ·exact h
 ·split
  ·have h1:=h.mkdir c00 0 (S.path c00 m.path false).1.dir (S.path c00 m.path false).1.name 493;simp only
   split
   ·exact h1
   ·exact h1.mount _ _ _
  ·exact h.mount _ _ _
theorem Nm.mountsF {S:Fs} (h:Nm S) (l:List Mt):Nm (mountsF S l):=by
 induction l generalizing S with
 | nil=>exact h
 | cons m l ih=>
  unfold Go.Proofs.YtihdbncoijhihaaGreatDoor.mountsF;by_cases hm:m.path=topB
  ·rw [if_pos hm];exact ih h
  ·rw [if_neg hm];exact ih (h.mountF m)
theorem Nm.nodeF {S:Fs} (h:Nm S) (it:It):Nm (nodeF S it).1:=by
 unfold Go.Proofs.YtihdbncoijhihaaGreatDoor.nodeF;simp only
 split
 ·exact h
 ·split
  ·split <;> exact h
  ·split
   ·exact h.mkdir _ _ _ _ _
   ·split
    ·exact h.file _ _ _ _ _ _
    ·split
     ·exact h.sym _ _ _ _ _
     ·split
      ·split
       ·exact h.hard _ _ _ _ _
       ·exact h
      ·exact h
theorem Nm.itemF {S:Fs} (h:Nm S) (it:It):Nm (itemF S it).1:=by
 unfold Go.Proofs.YtihdbncoijhihaaGreatDoor.itemF;have h1:=h.nodeF it;simp only
 split
 ·exact (h1.chown _ _ _ _ _).chmod _ _ _ _
 ·exact h1
theorem Nm.itemsF {S:Fs} (h:Nm S) (l:List It):Nm (itemsF S l).1:=by
 induction l generalizing S with
 | nil=>exact h
 | cons x l ih=>exact ih (h.itemF x)
theorem Nm.timesF {S:Fs} (h:Nm S) (l:List (It×Int)):Nm (timesF S l):=by
 induction l generalizing S with
 | nil=>exact h
 | cons x l ih=>
  unfold Go.Proofs.YtihdbncoijhihaaGreatDoor.timesF;refine ih ?_
  split
  ·exact h.utime _ _ _ _
  ·exact h
theorem plant_nm (ms:List Mt) (is:List It):Nm (plantF ms is):=by
 unfold plantF;simp only;refine Nm.timesF (Nm.itemsF (Nm.mountsF ?_ ms) is) _;exact Nm.addRoot (S:=fs0) (fun a ha=>by cases ha) _ _ _
end
section
open Go.RowKit
structure Wy (S:Fs):Prop where
 ud:∀ a∈S.ns,a.kind=1→∃ b,S.get a.up=some b∧b.kind=1
 sd:∀ a∈S.ns,∀ x∈a.ents,∃ b,S.get x.no=some b∧b.dev=a.dev
 mp:∀ d∈S.ds,d.over≠0→∃ b,S.get d.over=some b∧S.root b.dev≠b.no
end
section
open Go.RowKit
def tailL (n:Int):List UInt8:=if n<2 then [] else 46 :: decL n
def nthS (base:ByteArray) (n:Int):ByteArray:=base.extract 0 (min base.size (245 - (tailL n).length)) ++ str (tailL n)
end
section
open Go.RowKit
structure Us where
 u:Int
 g:Int
 data:ByteArray
def Us.c (x:Us):Cr:=⟨x.u,x.g⟩
def Us.v (x:Us):Value:=.agg #[.int .i64 x.u,.int .i64 x.g,.string x.data]
structure Plc where
 dir:Int
 name:ByteArray
 top:ByteArray
structure Cn where
 path:ByteArray
 dir:Int
 info:Int
 files:Int
 out:Int
 way:Int
 top:ByteArray
 deriving DecidableEq
def cn0:Cn:=⟨ByteArray.empty,0,0,0,0,0,ByteArray.empty⟩
def nHome:ByteArray:=ByteArray.mk #[84,114,97,115,104]
def nShared:ByteArray:=ByteArray.mk #[46,84,114,97,115,104]
def nInfo:ByteArray:=ByteArray.mk #[105,110,102,111]
def nFiles:ByteArray:=ByteArray.mk #[102,105,108,101,115]
def nOut:ByteArray:=ByteArray.mk #[101,120,112,117,110,103,101,100]
def nWay:ByteArray:=ByteArray.mk #[109,111,118,105,110,103]
def nDiary:ByteArray:=ByteArray.mk #[114,97,103,112,105,99,107,101,114,46,117,110,100,111]
def Fs.lookF (S:Fs) (d:Bool) (c:Cr) (dir:Int) (n:ByteArray):Int×Int:=
 if d=true then (0,20) else if S.openE c dir 1 1≠0 then (0,S.openE c dir 1 1)
 else if entFind (S.entsOf dir) n=0 then (0,5) else (S.over (entFind (S.entsOf dir) n),0)
def ownV (c:Cr) (x y:An) (no:Int):Int×Int:=
 if x.kind≠1 then (0,9) else if x.dev≠y.dev then (0,16) else if x.uid≠c.u then (0,4) else if x.may c 7=false then (0,6) else (no,0)
def Fs.ownF (S:Fs) (d:Bool) (c:Cr) (dir:Int) (n:ByteArray):Int×Int:=
 if (S.lookF d c dir n).2=5 then (0,0) else if (S.lookF d c dir n).2≠0 then (0,(S.lookF d c dir n).2)
 else ownV c (S.getZ (S.lookF d c dir n).1) (S.getZ dir) (S.lookF d c dir n).1
def Fs.dataF (S:Fs) (d:Bool) (u:Us):Int×Int:=
 if d=true then (0,20) else if (S.path u.c u.data true).2≠0 then (0,(S.path u.c u.data true).2)
 else if (S.path u.c u.data true).1.no=0 then (0,5) else if (S.getZ (S.path u.c u.data true).1.no).kind≠1 then (0,9) else ((S.path u.c u.data true).1.no,0)
def comV (x y:An) (no:Int):Int×Int:=
 if x.kind≠1 then (0,9) else if x.dev≠y.dev then (0,16) else if x.mode<512 then (0,4) else (no,0)
def Fs.commonF (S:Fs) (d:Bool) (c:Cr) (top:Int):Int×Int:=
 if (S.lookF d c top nShared).2≠0 then (0,(S.lookF d c top nShared).2)
 else comV (S.getZ (S.lookF d c top nShared).1) (S.getZ top) (S.lookF d c top nShared).1
def decB (n:Int):ByteArray:=str (decL n)
def nSharedU (u:Int):ByteArray:=ByteArray.mk #[46,84,114,97,115,104,45] ++ decB u
def Fs.placesF (S:Fs) (d:Bool) (u:Us) (top:Int) (path:ByteArray):List Plc:=
 (if (S.commonF d u.c top).2=0 then [⟨(S.commonF d u.c top).1,decB u.u,path⟩] else []) ++ [⟨top,nSharedU u.u,path⟩]
def thereV (r:Int×Int):Int×Int:=if r.2=0∧r.1=0 then (0,5) else r
def Fs.openK0 (S:Fs) (dir:Int) (top:ByteArray) (i f o y:Int):Cn×Int:=match S.place_ dir with
 | none=>(cn0,5)
 | some s=>(⟨s,dir,i,f,o,y,top⟩,0)
def Fs.openK1 (S:Fs) (d:Bool) (c:Cr) (dir:Int) (top:ByteArray) (i f o:Int):Cn×Int:=
 if (S.ownF d c dir nWay).2≠0 then (cn0,(S.ownF d c dir nWay).2) else S.openK0 dir top i f o (S.ownF d c dir nWay).1
def Fs.openK2 (S:Fs) (d:Bool) (c:Cr) (dir:Int) (top:ByteArray) (i f:Int):Cn×Int:=
 if (S.ownF d c dir nOut).2≠0 then (cn0,(S.ownF d c dir nOut).2) else S.openK1 d c dir top i f (S.ownF d c dir nOut).1
def Fs.openK3 (S:Fs) (d:Bool) (c:Cr) (dir:Int) (top:ByteArray) (i:Int):Cn×Int:=
 if (thereV (S.ownF d c dir nFiles)).2≠0 then (cn0,(thereV (S.ownF d c dir nFiles)).2) else S.openK2 d c dir top i (thereV (S.ownF d c dir nFiles)).1
def Fs.openK4 (S:Fs) (d:Bool) (c:Cr) (dir:Int) (top:ByteArray):Cn×Int:=
 if (thereV (S.ownF d c dir nInfo)).2≠0 then (cn0,(thereV (S.ownF d c dir nInfo)).2) else S.openK3 d c dir top (thereV (S.ownF d c dir nInfo)).1
def Fs.openF (S:Fs) (d:Bool) (u:Us) (p:Plc):Cn×Int:=
 if (thereV (S.ownF d u.c p.dir p.name)).2≠0 then (cn0,(thereV (S.ownF d u.c p.dir p.name)).2) else S.openK4 d u.c (thereV (S.ownF d u.c p.dir p.name)).1 p.top
def putCn (l:List Cn) (x:Cn):List Cn:=if l.any (fun y=>y.dir == x.dir)=true then l else l ++ [x]
def Fs.addCn (S:Fs) (d:Bool) (u:Us) (l:List Cn) (p:Plc):List Cn:=if (S.openF d u p).2=0 then putCn l (S.openF d u p).1 else l
def Fs.homeL (S:Fs) (d:Bool) (u:Us):List Cn:=
 if (S.dataF d u).2=0 then (if (S.openF d u ⟨(S.dataF d u).1,nHome,ByteArray.empty⟩).2=0 then [(S.openF d u ⟨(S.dataF d u).1,nHome,ByteArray.empty⟩).1] else []) else []
def Fs.topCn (S:Fs) (d:Bool) (u:Us) (l:List Cn) (t:Int×ByteArray):List Cn:=(S.placesF d u t.1 t.2).foldl (S.addCn d u) l
def Fs.allCn (S:Fs) (d:Bool) (u:Us):List Cn:=S.topsL.foldl (S.topCn d u) (S.homeL d u)
def Fs.keepsF (S:Fs) (d:Bool) (u:Us) (no dir:Int) (n:ByteArray):Int:=
 if (S.allCn d u).any (fun x=>S.within x.dir no || S.within dir x.dir)=true then 17
 else if (S.dataF d u).2=0∧(S.within (S.dataF d u).1 no=true∨dir=(S.dataF d u).1∧n=nDiary) then 17 else 0
def Fs.homeP (S:Fs) (d:Bool) (u:Us):List ByteArray:=
 if (S.dataF d u).2=0 then (match S.place_ (S.dataF d u).1 with | some s=>[belowB s nHome] | none=>[]) else []
def pathP (u:Us) (t:Int×ByteArray):List ByteArray:=[belowB (belowB t.2 nShared) (decB u.u),belowB t.2 (nSharedU u.u)]
def Fs.pathsF (S:Fs) (d:Bool) (u:Us):List ByteArray:=S.homeP d u ++ S.topsL.flatMap (pathP u)
structure Fine (S:Fs) (N:Nat):Prop where
 ok:FsOk S N
 pl:Pl S
 tr:Tr S
 wy:Wy S
 nm:Nm S
theorem getZ_cases (S:Fs) (k:Int):(∃ a,S.get k=some a∧S.getZ k=a)∨(S.get k=none∧S.getZ k=an0):=by
 cases hg:S.get k with
 | none=>exact .inr ⟨rfl,getZ_none hg⟩
 | some a=>exact .inl ⟨a,rfl,getZ_some hg⟩
theorem getZ_ents (S:Fs) (k:Int):(S.getZ k).ents=S.entsOf k:=by
 unfold Fs.getZ Fs.entsOf
 cases S.get k <;> rfl
def Ends (S:Fs) (x:Fd×Int):Prop:=x.2=0→x.1.no≠0→∃ a,S.get x.1.no=some a
end
section
open Go.RowKit
def tilA (base:ByteArray):ByteArray:=base ++ ByteArray.mk #[46,126]
def tilB (base:ByteArray) (n:Int):ByteArray:=tilA base ++ str (decL n) ++ ByteArray.mk #[126]
def IdxOk (base s:ByteArray) (n:Int):Prop:=(base≠ByteArray.empty∧1≤n∧n≤999999999∧tilB base n=s)∨(n=0∧∀ m:Int,base≠ByteArray.empty→1≤m→m≤999999999→tilB base m≠s)
theorem tilB_list (base:ByteArray) (n:Int):(tilB base n).data.toList=base.data.toList ++ [46,126] ++ decL n ++ [126]:=by
 unfold tilB tilA;simp [str]
theorem tilB_inj {base:ByteArray} {n m:Int} (h:tilB base n=tilB base m):n=m:=by
 have h:=congrArg (fun s=>s.data.toList) h;simp only [tilB_list,List.append_cancel_right_eq,List.append_cancel_left_eq] at h;exact decL_inj h
theorem IdxOk.one {base s:ByteArray} {n m:Int} (h:IdxOk base s n) (k:IdxOk base s m):n=m:=by
 rcases h with ⟨hb,h1,h2,h3⟩|⟨h1,h2⟩
 ·rcases k with ⟨-,k1,k2,k3⟩|⟨k1,k2⟩
  ·exact tilB_inj (h3.trans k3.symm)
  ·exact absurd h3 (k2 n hb h1 h2)
 ·rcases k with ⟨kb,k1,k2,k3⟩|⟨k1,k2⟩
  ·exact absurd k3 (h2 m kb k1 k2)
  ·rw [h1,k1]
open Classical in
noncomputable def idxB (base s:ByteArray):Int:=if h:∃ n,IdxOk base s n then Classical.choose h else 0
theorem IdxOk.eq {base s:ByteArray} {n:Int} (h:IdxOk base s n):n=idxB base s:=by
 unfold idxB;have he:∃ n,IdxOk base s n:=⟨n,h⟩;rw [dif_pos he];exact h.one (Classical.choose_spec he)
theorem idxB_low (base s:ByteArray):0≤idxB base s∧idxB base s≤999999999:=by
 unfold idxB
 split
 ·rename_i h;rcases Classical.choose_spec h with h | h
  ·omega
  ·omega
 ·omega
theorem idxB_til {base:ByteArray} {n:Int} (hb:base≠ByteArray.empty) (h1:1≤n) (h2:n≤999999999):idxB base (tilB base n)=n:=(IdxOk.eq (.inl ⟨hb,h1,h2,rfl⟩)).symm
noncomputable def mostB (base:ByteArray):Int→List ByteArray→Int
 | n,[]=>n
 | n,s :: l=>mostB base (max n (idxB base s)) l
theorem mostB_low (base:ByteArray):∀ (l:List ByteArray) (n:Int),0≤n→n≤999999999→n≤mostB base n l∧mostB base n l≤999999999
 | [],n,h0,h1=>⟨Int.le_refl _,h1⟩
 | s :: l,n,h0,h1=>by
  have h2:=idxB_low base s;have h3:=mostB_low base l (max n (idxB base s)) (by omega) (by omega);unfold mostB;omega
theorem mostB_mem (base:ByteArray):∀ (l:List ByteArray) (n:Int),0≤n→n≤999999999→∀ s∈l,idxB base s≤mostB base n l
 | [],_,_,_,_,h=>absurd h (by simp)
 | t :: l,n,h0,h1,s,h=>by
  have h2:=idxB_low base t;unfold mostB;rcases List.mem_cons.1 h with rfl | h
  ·have:=mostB_low base l (max n (idxB base s)) (by omega) (by omega);omega
  ·exact mostB_mem base l _ (by omega) (by omega) s h
theorem ba_extD {a b:ByteArray} (h:a.data.toList=b.data.toList):a=b:=by
 rw [←str_of a,←str_of b,h]
theorem tilA_list (base:ByteArray):(tilA base).data.toList=base.data.toList ++ [46,126]:=by
 unfold tilA;simp
theorem tilA_size (base:ByteArray):(tilA base).size=base.size+2:=by
 unfold tilA;rw [ByteArray.size_append];rfl
theorem mid_list (a mid:ByteArray):(a ++ mid ++ ByteArray.mk #[126]).data.toList=a.data.toList ++ mid.data.toList ++ [126]:=by simp
def idxR:Option Int→Int
 | some n=>if 1≤n∧n≤999999999 then n else 0
 | none=>0
theorem mid_inj {a x y:ByteArray} (h:a ++ x ++ ByteArray.mk #[126]=a ++ y ++ ByteArray.mk #[126]):x=y:=by
 have h:=congrArg (fun s=>s.data.toList) h;simp only [mid_list,List.append_cancel_right_eq,List.append_cancel_left_eq] at h;exact ba_extD h
theorem idx_mid {base mid:ByteArray} {r:Option Int} (hb:base≠ByteArray.empty) (hn:NumOk mid r):IdxOk base (tilA base ++ mid ++ ByteArray.mk #[126]) (idxR r):=by
 cases r with
 | none=>exact .inr ⟨rfl,fun m _ h1 h2 e=>hn m (by omega) (by omega) (mid_inj e)⟩
 | some n=>
  unfold idxR;dsimp only
  split
  ·rename_i h;exact .inl ⟨hb,h.1,h.2,by unfold tilB;rw [hn.1]⟩
  ·rename_i h;refine .inr ⟨rfl,fun m _ h1 h2 e=>h ?_⟩;have h3:str (decL m)=str (decL n):=(mid_inj e).trans hn.1.symm;rw [←decL_inj (str_inj h3)];exact⟨h1,h2⟩
theorem idx_not {base s:ByteArray} (h:∀ mid:ByteArray,0<mid.size→s≠tilA base ++ mid ++ ByteArray.mk #[126]):IdxOk base s 0:=
 .inr ⟨rfl,fun m _ h1 h2 e=>h (str (decL m)) (by rw [str_size];exact (decL_len20 m (by omega) (by omega)).2) e.symm⟩
theorem idx_empty (s:ByteArray):IdxOk ByteArray.empty s 0:=.inr ⟨rfl,fun _ h=>absurd rfl h⟩
theorem idxP_a {base s:ByteArray} (h:Lib.hasPrefix s.data.toList (tilA base).data.toList=false):IdxOk base s 0:=idx_not (fun mid _ e=>by
 have:Lib.hasPrefix s.data.toList (tilA base).data.toList=true:=by
  unfold Lib.hasPrefix;rw [List.isPrefixOf_iff_prefix,e,mid_list];exact⟨mid.data.toList ++ [126],by simp⟩
 rw [this] at h
 cases h)
theorem idxP_b {base s:ByteArray} (h:Lib.hasSuffix (Lib.trimPrefix s.data.toList (tilA base).data.toList) [126]=false):IdxOk base s 0:=idx_not (fun mid _ e=>by
 have hp:Lib.hasPrefix s.data.toList (tilA base).data.toList=true:=by
  unfold Lib.hasPrefix;rw [List.isPrefixOf_iff_prefix,e,mid_list];exact⟨mid.data.toList ++ [126],by simp⟩
 have:Lib.hasSuffix (Lib.trimPrefix s.data.toList (tilA base).data.toList) [126]=true:=by
  unfold Lib.trimPrefix;rw [if_pos hp,e,mid_list,List.append_assoc,List.drop_left];unfold Lib.hasSuffix;rw [List.isSuffixOf_iff_suffix];exact List.suffix_append _ _
 rw [this] at h
 cases h)
theorem idxP_c {base s:ByteArray} (hp:Lib.hasPrefix s.data.toList (tilA base).data.toList=true) (hs:Lib.hasSuffix (Lib.trimPrefix s.data.toList (tilA base).data.toList) [126]=true) :
  s=tilA base ++ str (Lib.trimSuffix (Lib.trimPrefix s.data.toList (tilA base).data.toList) [126]) ++ ByteArray.mk #[126]:=by
 apply ba_extD;rw [mid_list];show _=_ ++ Lib.trimSuffix _ _ ++ _;unfold Lib.trimSuffix;rw [if_pos hs];unfold Lib.trimPrefix at hs ⊢;rw [if_pos hp] at hs ⊢;unfold Lib.hasPrefix at hp;unfold Lib.hasSuffix at hs;obtain⟨t,ht⟩:=List.isPrefixOf_iff_prefix.1 hp;rw [←ht,List.drop_left] at hs ⊢;obtain⟨m,hm⟩:=List.isSuffixOf_iff_suffix.1 hs;rw [←hm];simp
theorem idxR_a {base s:ByteArray} (h:s.size<base.size+4):IdxOk base s 0:=idx_not (fun mid hm e=>by
 have:=congrArg ByteArray.size e;rw [ByteArray.size_append,ByteArray.size_append,tilA_size] at this;have h1:(ByteArray.mk #[126]).size=1:=rfl;omega)
theorem ext_list (s:ByteArray) (a b:Nat):(s.extract a b).data.toList=(s.data.toList.take b).drop a:=by
 rw [ByteArray.data_extract,Array.toList_extract,List.extract_eq_take_drop,List.drop_take]
theorem idxR_b {base s:ByteArray} (h:s.extract 0 (base.size+2)≠tilA base):IdxOk base s 0:=idx_not (fun mid hm e=>h (ba_extD (by
 rw [ext_list,e,mid_list,List.drop_zero,List.append_assoc];have:base.size+2=(tilA base).data.toList.length:=by rw [tilA_list,List.length_append];rfl
 rw [this,List.take_left])))
theorem last_get {s:ByteArray} {l:List UInt8} (h:s.data.toList=l ++ [126]) (hz:s.size - 1<s.size):s[s.size - 1]=126:=by
 have h1:s.size=l.length+1:=by
  have:=congrArg List.length h;rw [List.length_append] at this;exact this
 have h2:s.data.toList[s.size - 1]? = some 126:=by
  rw [h,h1,Nat.add_sub_cancel,List.getElem?_append_right (Nat.le_refl _)];simp
 rw [Array.getElem?_toList] at h2;have h3:s.data[s.size - 1]? = some s[s.size - 1]:=Array.getElem?_eq_getElem hz;rw [h3] at h2;injection h2
theorem idxR_c {base s:ByteArray} (hz:s.size - 1<s.size) (h:s[s.size - 1]≠126):IdxOk base s 0:=idx_not (fun mid hm e=>h (last_get (l:=(tilA base).data.toList ++ mid.data.toList) (by
 have h2:s.data.toList=_:=congrArg (fun t=>t.data.toList) e;rw [mid_list] at h2;exact h2) hz))
theorem idxR_d {base s:ByteArray} (h0:base.size+4≤s.size) (h1:s.extract 0 (base.size+2)=tilA base) (h2:s[s.size - 1]'(by omega)=126):s=tilA base ++ s.extract (base.size+2) (s.size - 1) ++ ByteArray.mk #[126]:=by
 apply ba_extD;rw [mid_list,←h1,ext_list,ext_list,List.drop_zero];have hl:s.data.toList.length=s.size:=rfl;have h3:s.data.toList=s.data.toList.take (s.size - 1) ++ [126]:=by
  have h4:s.data.toList[s.size - 1]'(by omega)=126:=by rw [←h2];rfl
  rw [←h4,←List.take_succ_eq_append_getElem (by omega),show s.size - 1+1=s.data.toList.length by omega,List.take_length]
 have h5:s.data.toList.take (base.size+2)=(s.data.toList.take (s.size - 1)).take (base.size+2):=by
  rw [List.take_take,Nat.min_eq_left (by omega)]
 rw [h5,List.take_append_drop];exact h3
def tilN (base:ByteArray) (n:Int):ByteArray×Int:=
 if checkE base≠0 then (ByteArray.empty,checkE base) else if n<1∨999999999<n then (ByteArray.empty,3) else if 255<(tilB base n).size then (ByteArray.empty,13) else (tilB base n,0)
def Fs.listF (S:Fs) (d:Bool) (c:Cr) (no:Int):List En×Int:=
 if d=true then ([],20) else if S.openE c no 1 4≠0 then ([],S.openE c no 1 4) else ((S.entsOf no).map (fun e=>⟨e.name,S.over e.no⟩),0)
noncomputable def Fs.spareF (S:Fs) (d:Bool) (c:Cr) (dir:Int) (n:ByteArray):ByteArray×Int:=
 if (S.listF d c dir).2≠0 then (ByteArray.empty,(S.listF d c dir).2) else tilN n (mostB n 0 ((S.listF d c dir).1.map (·.name))+1)
theorem numRes_form2 (r:Option Int):∃ v b,numRes r=.tuple #[.int .i64 v,.bool b]∧r=if b then some v else none:=by
 cases r with
 | none=>exact ⟨0,false,rfl,rfl⟩
 | some v=>exact ⟨v,true,rfl,rfl⟩
end
section
open Go.RowKit Go.Shelf
attribute [local go_sem] Oper.semAt_some
end
section
open Go.RowKit Go.Shelf
attribute [local go_sem] Oper.semAt_some
def strR (cs:List Value) (s:ByteArray):Prop:=cs=[.string s]∧s.size≤9223372036854775807
def FreePost (base:ByteArray) (xs:List ByteArray) (e:Ending):Prop:=
 (∃ m,m<1000∧nthS base ((m:Nat)+1)∉xs∧(∀ j<m,nthS base ((j:Nat)+1)∈xs)∧e=.returned (.tuple #[.string (nthS base (m+1)),.bool true]))∨
 ((∀ j<1000,nthS base ((j:Nat)+1)∈xs)∧e=.returned (.tuple #[.string ByteArray.empty,.bool false]))
end
end Go.Proofs.YtihdbncoijhihaaGreatDoor
