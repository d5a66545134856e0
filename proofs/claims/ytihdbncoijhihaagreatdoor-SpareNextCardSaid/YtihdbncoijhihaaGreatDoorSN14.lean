import Derived.Deep.CutBlock
import Derived.Deep.DeepCutAuto
import Derived.RegionTactic
import Derived.BigRegion
import Derived.Deep.QuietTactic
import Derived.BigQuiet
import Derived.WalkSmall
import Derived.Test.YtihdbncoijhihaaGreatDoorSN13
import Derived.Test.YtihdbncoijhihaaGreatDoorSN5
import Derived.Test.YtihdbncoijhihaaGreatDoorSN6
set_option linter.unusedVariables false
set_option linter.unusedSimpArgs false
set_option maxRecDepth 100000
set_option maxHeartbeats 16000000
namespace Go.Proofs.YtihdbncoijhihaaGreatDoor
section
open Go.RowKit
section
variable {w w':World} {pf:Nat} {R:Rf} {S:Fs}
theorem rabove_any (h:RfAt w pf R S) {N:Nat} (hk:FsOk S N) (no:Int) :
  Calls Tryz.prog 75 #[.pointer (some ⟨pf,0,none⟩),.int .i64 no] w fun e w'=>e=.returned (.int .i64 (S.above no))∧Below w.heap.size w w':=by
 have mixed:Tryz.prog.follows .mixedOrders=true:=by kernel_rfl
 cases hg:S.get no with
 | none=>
  have HA:=Lib.hid (above_none hg);have HG:=Lib.hid (rget_no h hg);unfold An.v an0 at HG;clear h hk hg;go_enter Tryz.func75,Tryz.ntmps75;go_wp2_with fail;refine HG.out.mono ?_;rintro e w1 ⟨rfl,hb1⟩;have HB:=Lib.hid (balloc hb1 (.cells #[.int .i64 0,.int .i64 0,.int .i64 0,.int .i64 0,.int .i64 0,.int .i64 0,.int .i64 0,.int .i64 0,.int .i64 0,.int .i64 0,.string ByteArray.empty,.slice none 0 0] 109));clear hb1;go_wp2_with fail;go_ret;rw [HA.out];exact⟨rfl,HB.out⟩
 | some a=>
  obtain⟨hao,hno,hn1,-⟩:=hk.get hg;obtain⟨ea,el,ec,-,hgc⟩:=rget_yes h hg;have HG:=Lib.hid hgc;unfold An.v at HG;have HA:=Lib.hid (show S.above no=if a.kind≠1 then 0 else if S.root a.dev=no∧1<a.dev then (match S.dev a.dev with | none=>0 | some v=>match S.get v.over with | none=>0 | some b=>b.up) else a.up by unfold Fs.above;rw [hg];rfl);have HRo:=Lib.hid (fun w1 (hb1:Below w.heap.size w w1)=>rroot_any (h.keep hb1) a.dev);have HB0:=Lib.hid (show ∀ w1,Below w.heap.size w w1→Below w.heap.size w (w1.alloc (.cells #[.int .i64 a.no,.int .i64 a.dev,.int .i64 a.kind,.int .i64 a.mode,.int .i64 a.uid,.int .i64 a.gid,.int .i64 a.mtime,.int .i64 a.ctime,.int .i64 a.links,.int .i64 a.up,.string a.data,.slice ea el ec] 109)) from fun w1 hb=>balloc hb _);obtain⟨v,hv,hrv,-,-⟩:=root_of hk hao.dev.1 hao.dev.2;obtain⟨g,cap,hdv,hle,h63,hgl,hc,-,-⟩:=h.devF hk.d1;obtain⟨pc,-,pz⟩:=h.blk.facts;rw [hdv] at pc;obtain⟨k,hkd⟩:∃ k:Nat,a.dev=(k:Int)+1:=⟨(a.dev - 1).toNat,by have:=hao.dev.1;omega⟩;have hkl:k<S.ds.length:=by have:=hao.dev.2;omega
  have hvk:S.ds[k]=v:=by
   unfold Fs.dev at hv;rw [if_pos (by omega),hkd,show ((k:Int)+1 - 1).toNat=k by omega,List.getElem?_eq_getElem hkl] at hv;simpa using hv
  have cc:=(hc k hkl).c1;rw [hvk] at cc;rw [hv] at HA;have HGv:=Lib.hid (fun w1 (hb1:Below w.heap.size w w1)=>And.intro (fun (hgv:S.get v.over=none)=>rget_no (h.keep hb1) hgv) (fun b (hgv:S.get v.over=some b)=>rget_yes (h.keep hb1) hgv));have HGp:=Lib.hid pc;generalize hrt:S.root a.dev=rt at HA HRo;have hkl2:k<S.ds.length:=hkl;generalize S.ds.length=m at pc hle hkl2;clear h hg hgc hao hrv hv hc hdv hvk hkl hrt hk hno HGp;rw [hkd] at HG HRo HA HB0;have hkm:(k:Int)+1≤(m:Int):=by omega
  go_enter Tryz.func75,Tryz.ntmps75;go_wp2_with fail;refine HG.out.mono ?_;rintro e w1 ⟨rfl,hb1⟩;have hbX:=HB0.out w1 hb1;have hB1:=Blk.new w1 #[.int .i64 a.no,.int .i64 ((k:Int)+1),.int .i64 a.kind,.int .i64 a.mode,.int .i64 a.uid,.int .i64 a.gid,.int .i64 a.mtime,.int .i64 a.ctime,.int .i64 a.links,.int .i64 a.up,.string a.data,.slice ea el ec] 109;go_upto_region 2 with fail;generalize w1.alloc (.cells #[.int .i64 a.no,.int .i64 ((k:Int)+1),.int .i64 a.kind,.int .i64 a.mode,.int .i64 a.uid,.int .i64 a.gid,.int .i64 a.mtime,.int .i64 a.ctime,.int .i64 a.links,.int .i64 a.up,.string a.data,.slice ea el ec] 109)=X at hbX hB1 ⊢;have HBX:=Lib.hid hbX;have HB1:=Lib.hid hB1;have hw1:=hb1.size;obtain⟨qc,qf,qz⟩:=hB1.facts;have pc2:=fun i=>(hbX.cell (p:=⟨pf,i,none⟩) pz).trans (pc i);have cc2:=(hbX.cell (p:=⟨g,k*6+1,none⟩) hgl).trans cc;have hgl2:g<X.heap.size:=Nat.lt_of_lt_of_le hgl hbX.size;clear hb1 hbX hB1 pc cc;by_cases h1:a.kind=1
  ·have q1:(a.kind == 1)=true:=by simpa using h1
   have q2:(a.kind != 1)=false:=by simpa using h1
   have HA1:=Lib.hid (HA.out.trans (if_neg (by simpa using h1)));clear h1;by_cases h2:1<(k:Int)+1
   ·by_cases h3:rt=no
    ·have HA2:=Lib.hid (HA1.out.trans (if_pos ⟨h3,h2⟩));have q3:(rt == no)=true:=by simpa using h3
     clear h3;go_wp2_with fail;refine (HRo.out _ HBX.out).mono ?_;rintro e w2 ⟨rfl,rfl⟩;go_wp2_with fail;have hwr1:IntKind.i64.wrap ((k:Int)+1 - 1)=(k:Int):=by simp [IntKind.wrap,IntKind.bits,IntKind.signed];omega
     have hwr2:IntKind.i64.wrap (k:Int)=(k:Int):=by simp [IntKind.wrap,IntKind.bits,IntKind.signed];omega
     have hk0:(0:Int)≤(k:Int)∧(k:Int)<(m:Int)∧((k:Int)).toNat=k:=by omega
     obtain⟨hk1,hk2,hk3⟩:=hk0;refine wp_region_lex 11 mixed (by kernel_rfl) (show PanicOk _ from by repeat (first | exact pk_body | refine pk_then ?_ | refine pk_block ?_ | refine pk_scope ?_)) ?_;simp only [List.take_succ_cons,List.take_zero,List.drop_succ_cons,List.drop_zero]
     repeat still_step
     refine wpStill_nil ?_
     cases hgv:S.get v.over with
     | none=>
      have HC:=Lib.hid (((HGv.out _ HBX.out.drew).1 hgv));unfold An.v an0 at HC;have HA3:=Lib.hid (show S.above no=0 by rw [HA2.out,hgv]);clear hgv qc qf qz pc2 cc2;go_wp2_with fail;refine HC.out.mono ?_;rintro e w3 ⟨rfl,hb3⟩;have hB3:=(HB1.out.drew).keep hb3;obtain⟨qc,qf,qz⟩:=hB3.facts;have HB3:=Lib.hid (HBX.out.drew.trans (hb3.mono (by have:=HBX.out.size;simpa using this)));clear hb3 hB3;go_wp2_with fail;go_ret;rw [HA3.out];exact⟨rfl,below_set12 HB3.out hw1⟩
     | some b=>
      obtain⟨fa,fl,fc,-,hcb⟩:=(HGv.out _ HBX.out.drew).2 b hgv;have HC:=Lib.hid hcb;unfold An.v at HC;have HA3:=Lib.hid (show S.above no=b.up by rw [HA2.out,hgv]);clear hgv hcb qc qf qz pc2 cc2;go_wp2_with fail;refine HC.out.mono ?_;rintro e w3 ⟨rfl,hb3⟩;have hB3:=(HB1.out.drew).keep hb3;obtain⟨qc,qf,qz⟩:=hB3.facts;have HB3:=Lib.hid (HBX.out.drew.trans (hb3.mono (by have:=HBX.out.size;simpa using this)));clear hb3 hB3;go_wp2_with fail;go_ret;rw [HA3.out];exact⟨rfl,below_set12 HB3.out hw1⟩
    ·have HA2:=Lib.hid (HA1.out.trans (if_neg (fun h=>h3 h.1)));have q3:(rt == no)=false:=by simpa using h3
     clear h3;go_wp2_with fail;refine (HRo.out _ HBX.out).mono ?_;rintro e w2 ⟨rfl,rfl⟩;go_wp2_with fail;go_ret;rw [HA2.out];exact⟨rfl,HBX.out⟩
   ·have HA2:=Lib.hid (HA1.out.trans (if_neg (fun h=>h2 h.2)));go_wp2_with fail;go_ret;rw [HA2.out];exact⟨rfl,HBX.out⟩
  ·have q1:(a.kind == 1)=false:=by simpa using h1
   have q2:(a.kind != 1)=true:=by simpa using h1
   have HA1:=Lib.hid (HA.out.trans (if_pos (by simpa using h1)));clear h1;go_wp2_with fail;go_ret;rw [HA1.out];exact⟨rfl,HBX.out⟩
end
end
section
open Go.RowKit
section
variable {w w':World} {pf:Nat} {R:Rf} {S:Fs}
theorem rwithin_any (h:RfAt w pf R S) {N:Nat} (hk:FsOk S N) (hl:S.ns.length≤100000) (no base:Int) :
  Calls Tryz.prog 107 #[.pointer (some ⟨pf,0,none⟩),.int .i64 no,.int .i64 base] w fun e w'=>e=.returned (.bool (S.within no base))∧Below w.heap.size w w':=by
 obtain⟨na,nc,hnv,hn1,hn2⟩:=h.nform;have hlen:=h.len;have HW:=Lib.hid h;have HS:=Lib.hid (show S.within no base=S.withinN base (S.ns.length+1) no from rfl);have HA:=Lib.hid (fun w1 (hb1:Below w.heap.size w w1) x=>rabove_any (h.keep hb1) hk x);have hb:=h.blk;rw [hnv] at hb;have HB:=Lib.hid hb;rw [←hlen] at HB hn1;generalize S.ns.length=n at HB hn1 HS hl;generalize S.within no base=out at HS ⊢;clear h hk hnv hlen hb;go_enter Tryz.func107,Tryz.ntmps107;go_wp2_with fail
 go_loopw [1,7] (fun t1 t7 wr=>∃ (k:Nat) (x:Int),k≤n+1∧t1=.int .i64 x∧t7=.int .i64 k∧out=S.withinN base (n+1 - k) x∧Below w.heap.size w wr) (fun _ t7 _=>n+1 - (intOf t7).toNat)
 case atStart=>exact ⟨0,no,Nat.zero_le _,rfl,rfl,HS.out,Below.refl _ _⟩
 case round=>
  obtain⟨k,x,hk1,rfl,rfl,hE,hbw⟩:=hrel;have HE:=Lib.hid hE;have HBw:=Lib.hid hbw;obtain⟨bc,-,-⟩:=(HB.out.keep hbw).facts;clear hE hbw;by_cases hlt:k≤n
  ·have hlt2:(k:Int)≤(n:Int):=by omega
   have HE2:=Lib.hid (show out=if x=0 then false else if x=base then true else S.withinN base (n+1 - (k+1)) (S.above x) by
    rw [HE.out,show n+1 - k=(n+1 - (k+1))+1 by omega];rfl)
   by_cases h0:x=0
   ·have p0:(x != 0)=false:=by simpa using h0
    have HO:=Lib.hid (HE2.out.trans (if_pos h0));clear h0;go_wp2_with fail;go_ret;rw [HO.out];exact⟨rfl,HBw.out⟩
   ·have p0:(x != 0)=true:=by simpa using h0
    have HO0:=Lib.hid (HE2.out.trans (if_neg h0));clear h0;by_cases h1:x=base
    ·have p1:(x == base)=true:=by simpa using h1
     have HO:=Lib.hid (HO0.out.trans (if_pos h1));clear h1;go_wp2_with fail;go_ret;rw [HO.out];exact⟨rfl,HBw.out⟩
    ·have p1:(x == base)=false:=by simpa using h1
     have HO:=Lib.hid (HO0.out.trans (if_neg h1));have HAx:=Lib.hid (HA.out wr HBw.out x);clear h1;go_wp2_with fail;refine HAx.out.mono ?_;rintro e w1 ⟨rfl,hb1⟩;have HB1:=Lib.hid (bnext HBw.out hb1);clear hb1;go_wp2_with fail;go_roundw
     case rel=>exact ⟨k+1,S.above x,by omega,rfl,by go_num,HO.out,HB1.out⟩
     case measure=>simp [intOf];omega
  ·have hkn:k=n+1:=by omega
   subst hkn;have hgt:¬ ((n:Int)+1≤(n:Int)):=by omega
   have HO:=Lib.hid (show out=false by rw [HE.out,Nat.sub_self];rfl);go_wp2_with fail;go_ret;rw [HO.out];exact⟨rfl,HBw.out⟩
theorem busy_drop {S:Fs} {no:Int} {k:Nat} (hk:k<S.ds.length):(S.ds.drop k).any (fun d=>S.within d.over no)=(S.within S.ds[k].over no || (S.ds.drop (k+1)).any (fun d=>S.within d.over no)):=by
 rw [List.drop_eq_getElem_cons hk,List.any_cons]
theorem rbusy_any (h:RfAt w pf R S) {N:Nat} (hk:FsOk S N) (hl:S.ns.length≤100000) (no:Int) :
  Calls Tryz.prog 91 #[.pointer (some ⟨pf,0,none⟩),.int .i64 no] w fun e w'=>e=.returned (.bool (S.busy no))∧Below w.heap.size w w':=by
 obtain⟨g,cap,hdv,hle,h63,hgl,hc,-,-⟩:=h.devF hk.d1;have hd1:=hk.d1;have hd8:=hk.d8;have HS:=Lib.hid (show S.busy no=(S.ds.drop 1).any (fun d=>S.within d.over no) from rfl);have HA:=Lib.hid (fun w1 (hb1:Below w.heap.size w w1) x=>rwithin_any (h.keep hb1) hk hl x no);have hb:=h.blk;rw [hdv] at hb;have HB:=Lib.hid hb;have HC:=Lib.hid (fun k (hk:k<S.ds.length)=>(hc k hk).c1);have HD:=Lib.hid (fun k (hk:k<S.ds.length)=>busy_drop (S:=S) (no:=no) hk);obtain⟨m,hm⟩:∃ m,S.ds.length=m:=⟨_,rfl⟩;have HM:=Lib.hid hm;rw [hm] at HB hle hd1 hd8;generalize S.busy no=out at HS ⊢;clear h hk hdv hb hc hm;go_enter Tryz.func91,Tryz.ntmps91;go_wp2_with fail
 go_loopw [5] (fun t5 wr=>∃ (k:Nat),1≤k∧k≤m∧t5=.int .i64 k∧out=(S.ds.drop k).any (fun d=>S.within d.over no)∧Below w.heap.size w wr) (fun t5 _=>m - (intOf t5).toNat)
 case atStart=>exact ⟨1,Nat.le_refl _,hd1,rfl,HS.out,Below.refl _ _⟩
 case round=>
  obtain⟨k,hk1,hk2,rfl,hE,hbw⟩:=hrel;have HE:=Lib.hid hE;have HBw:=Lib.hid hbw;obtain⟨bc,-,-⟩:=(HB.out.keep hbw).facts;clear hE;by_cases hlt:k<m
  ·have hkl:k<S.ds.length:=by rw [HM.out];exact hlt
   have cc:=(hbw.cell (p:=⟨g,k*6+1,none⟩) hgl).trans (HC.out k hkl);have HE2:=Lib.hid (HE.out.trans (HD.out k hkl));have HAx:=Lib.hid (HA.out wr HBw.out S.ds[k].over);generalize S.ds[k].over=ov at cc HE2 HAx;clear hbw hkl
   cases hwn:S.within ov no with
   | true=>
    rw [hwn] at HE2 HAx;have HO:=Lib.hid (show out=true from HE2.out);go_wp2_with fail;refine HAx.out.mono ?_;rintro e w1 ⟨rfl,hb1⟩;have HB1:=Lib.hid (bnext HBw.out hb1);clear hb1;go_wp2_with fail;go_ret;rw [HO.out];exact⟨rfl,HB1.out⟩
   | false=>
    rw [hwn] at HE2 HAx;have HO:=Lib.hid (show out=(S.ds.drop (k+1)).any (fun d=>S.within d.over no) by rw [HE2.out];rfl);go_wp2_with fail;refine HAx.out.mono ?_;rintro e w1 ⟨rfl,hb1⟩;have HB1:=Lib.hid (bnext HBw.out hb1);clear hb1;go_wp2_with fail;go_roundw
    case rel=>exact ⟨k+1,by omega,by omega,by go_num,HO.out,HB1.out⟩
    case measure=>simp [intOf];omega
  ·obtain rfl:k=m:=by omega
   have HO:=Lib.hid (show out=false by rw [HE.out,←HM.out,List.drop_length];rfl);clear hbw;go_wp2_with fail;go_ret;rw [HO.out];exact⟨rfl,HBw.out⟩
end
end
section
open Go.RowKit
theorem ba_nil {s:ByteArray} (h:s.toList.isEmpty=true):s=ByteArray.empty:=ba_eq (by rw [ba_list] at h;exact List.isEmpty_iff.1 h)
theorem ba_zero {s:ByteArray} (h:s.size=0):s=ByteArray.empty:=ba_eq (List.eq_nil_of_length_eq_zero (by rw [Array.length_toList];exact h))
theorem ba_e:ByteArray.empty.toList.isEmpty=true:=by rw [ba_list];rfl
def whereV (o:Option ByteArray):Value:=.tuple #[.string (o.getD ByteArray.empty),.bool o.isSome]
def nmOf (l:List En) (no:Int):ByteArray:=(entName l no).getD ByteArray.empty
theorem nmOf_cons (x:En) (l:List En) (no:Int):nmOf (x :: l) no=if x.no=no then x.name else nmOf l no:=by
 unfold nmOf;rw [entName_cons]
 split <;> rfl
theorem nmOf_some {l:List En} {no:Int} (h:∀ x∈l,NmOk x.name) (hne:(nmOf l no).toList.isEmpty=false):entName l no=some (nmOf l no)∧(nmOf l no).size≤255:=by
 unfold nmOf at hne ⊢
 cases he:entName l no with
 | none=>rw [he,show (none:Option ByteArray).getD ByteArray.empty=ByteArray.empty from rfl,ba_e] at hne;cases hne
 | some s=>
  obtain⟨x,hx,rfl⟩:=entName_mem he;exact⟨rfl,(h x hx).2⟩
theorem nmOf_none {l:List En} {no:Int} (h:∀ x∈l,NmOk x.name) (hne:(nmOf l no).toList.isEmpty=true):entName l no=none:=by
 unfold nmOf at hne
 cases he:entName l no with
 | none=>rfl
 | some s=>
  obtain⟨x,hx,rfl⟩:=entName_mem he;rw [he] at hne;exact absurd (ba_nil hne) (h x hx).1
section
variable {w w':World} {pf:Nat} {R:Rf} {S:Fs}
theorem ents_names (hp:Pl S) (k:Int):∀ x∈S.entsOf k,NmOk x.name:=by
 intro x hx;unfold Fs.entsOf at hx
 cases hg:S.get k with
 | none=>rw [hg] at hx;cases hx
 | some a=>rw [hg] at hx;exact hp.names a (an_mem hg) x hx
theorem rget_u (h:RfAt w pf R S) (k:Int):∃ a ea el ec,EntsAt w ea el ec a.ents∧a.ents=S.entsOf k∧(S.get k=some a∨(S.get k=none∧a=an0))∧
  ∀ w1,Below w.heap.size w w1→Calls Tryz.prog 46 #[.pointer (some ⟨pf,0,none⟩),.int .i64 k] w1 fun e w'=>e=.returned (.agg #[.int .i64 a.no,.int .i64 a.dev,.int .i64 a.kind,.int .i64 a.mode,.int .i64 a.uid,.int .i64 a.gid,.int .i64 a.mtime,.int .i64 a.ctime,.int .i64 a.links,.int .i64 a.up,.string a.data,.slice ea el ec])∧Below w1.heap.size w1 w':=by
 cases hg:S.get k with
 | none=>exact ⟨an0,none,0,0,EntsAt.nil w,by unfold Fs.entsOf;rw [hg];rfl,.inr ⟨rfl,rfl⟩,fun w1 hb=>rget_no (h.keep hb) hg⟩
 | some a=>
  obtain⟨ea,el,ec,he,hc⟩:=rget_fix h hg;exact⟨a,ea,el,ec,he,by unfold Fs.entsOf;rw [hg],.inl rfl,hc⟩
theorem child_u {no:Int} {a:An} (h:S.get no=some a∨(S.get no=none∧a=an0)):S.child no=if S.root a.dev=no∧1<a.dev then (match S.dev a.dev with | some v=>v.over | none=>no) else no:=by
 rcases h with h | ⟨h,rfl⟩
 ·rw [child_eq,h];rfl
 ·rw [child_none h,if_neg];rintro ⟨-,h⟩
  cases h
theorem whereN_one (S:Fs) (n:Nat) (s:ByteArray):S.whereN (n+1) 1 s=some (if s.size=0 then topB else s):=by
 rw [Fs.whereN,if_pos rfl]
theorem whereN_none {S:Fs} {n:Nat} {x:Int} (h1:x≠1) (s:ByteArray) (h:entName (S.entsOf (S.above x)) (S.child x)=none):S.whereN (n+1) x s=none:=by
 rw [Fs.whereN,if_neg h1,h]
theorem whereN_some {S:Fs} {n:Nat} {x:Int} (h1:x≠1) (s:ByteArray) {nm:ByteArray} (h:entName (S.entsOf (S.above x)) (S.child x)=some nm):S.whereN (n+1) x s=S.whereN n (S.above x) (topB ++ nm ++ s):=by
 rw [Fs.whereN,if_neg h1,h]
theorem rwhere_any (h:RfAt w pf R S) {N:Nat} (hk:FsOk S N) (hp:Pl S) (hl:S.ns.length≤100000) (no:Int) :
  Calls Tryz.prog 13 #[.pointer (some ⟨pf,0,none⟩),.int .i64 no] w fun e w'=>e=.returned (whereV (S.place_ no))∧Below w.heap.size w w':=by
 obtain⟨na,nc,hnv,hn1,hn2⟩:=h.nform;obtain⟨g,cap,hdv,hle,h63,hgl,hcd,-,-⟩:=h.devF hk.d1;have hd1:=hk.d1;have hd8:=hk.d8;have hlen:=h.len;have HS:=Lib.hid (show S.place_ no=S.whereN (S.ns.length+1) no ByteArray.empty from rfl);have HA:=Lib.hid (fun w1 (hb1:Below w.heap.size w w1) x=>rabove_any (h.keep hb1) hk x);have HRo:=Lib.hid (fun w1 (hb1:Below w.heap.size w w1) x=>rroot_any (h.keep hb1) x);have HG:=Lib.hid (fun w1 (hb1:Below w.heap.size w w1) x=>rget_u (h.keep hb1) x);have hb:=h.blk;rw [hnv,hdv] at hb;rw [←hlen] at hb hn1;have HB:=Lib.hid hb;have HC:=Lib.hid (fun k (hk:k<S.ds.length)=>(hcd k hk).c1);have HK:=Lib.hid (And.intro hk hp);obtain⟨m,hm⟩:∃ m,S.ds.length=m:=⟨_,rfl⟩;have HM:=Lib.hid hm;rw [hm] at HB hle hd1 hd8;generalize S.ns.length=n at HB hn1 HS hl;generalize S.place_ no=out at HS ⊢;have mixed:Tryz.prog.follows .mixedOrders=true:=by kernel_rfl
 have hm0:(0:Int)<(m:Int):=by omega
 clear h hk hp hnv hdv hlen hb hcd hm;go_enter Tryz.func13,Tryz.ntmps13;go_wp2_with fail
 go_loopw [1,6,7] (fun t1 t6 t7 wr=>∃ (k:Nat) (x:Int) (s:ByteArray),k≤n+1∧t1=.int .i64 x∧t6=.string s∧t7=.int .i64 k∧s.size≤256*k∧out=S.whereN (n+1 - k) x s∧Below w.heap.size w wr) (fun _ _ t7 _=>n+1 - (intOf t7).toNat)
 case atStart=>exact ⟨0,no,ByteArray.empty,Nat.zero_le _,rfl,rfl,rfl,Nat.zero_le _,HS.out,Below.refl _ _⟩
 case round=>
  obtain⟨k,x,s,hk1,rfl,rfl,rfl,hss,hE,hbw⟩:=hrel;have HE:=Lib.hid hE;have HBw:=Lib.hid hbw;obtain⟨bc,bf,bz⟩:=(HB.out.keep hbw).facts;clear hE;by_cases hlt:k≤n
  ·have hlt2:(k:Int)≤(n:Int):=by omega
   have HE1:=Lib.hid (show out=S.whereN ((n+1 - (k+1))+1) x s by rw [HE.out,show n+1 - k=(n+1 - (k+1))+1 by omega]);by_cases h1:x=1
   ·subst h1;have HE2:=Lib.hid (HE1.out.trans (whereN_one S _ s));clear hbw
    cases hse:s.toList.isEmpty with
    | true=>
     have hs0:s=ByteArray.empty:=ba_nil hse;subst hs0;have HO:=Lib.hid (show out=some topB from HE2.out);go_wp2_with fail;go_ret2;rw [HO.out];exact⟨rfl,HBw.out⟩
    | false=>
     have hsn:(s.toList == [])=false:=by
      cases hq:s.toList with
      | nil=>rw [hq] at hse;cases hse
      | cons _ _=>rfl
     have HO:=Lib.hid (show out=some s by
      rw [HE2.out,if_neg];intro h0;rw [ba_zero h0,ba_e] at hse
      cases hse)
     go_wp2_with fail;go_ret2;rw [HO.out];exact⟨rfl,HBw.out⟩
   ·have p1:(x == 1)=false:=by simpa using h1
    have H1:=Lib.hid h1;have HAx:=Lib.hid (HA.out wr HBw.out x);clear h1;go_wp2_with fail;refine HAx.out.mono ?_;rintro e w1 ⟨rfl,hb1⟩;have HB1:=Lib.hid (bnext HBw.out hb1);obtain⟨a,ea,el,ec,-,-,hga,hcg⟩:=HG.out w1 HB1.out x;have HCg:=Lib.hid (hcg w1 (Below.refl _ _));have HCh:=Lib.hid (child_u hga);have HGa:=Lib.hid hga;clear hb1 hcg hga bc bf bz HAx;go_wp2_with fail;refine HCg.out.mono ?_;rintro e w2 ⟨rfl,hb2⟩;have hbX:=balloc (bnext HB1.out hb2) (.cells #[.int .i64 a.no,.int .i64 a.dev,.int .i64 a.kind,.int .i64 a.mode,.int .i64 a.uid,.int .i64 a.gid,.int .i64 a.mtime,.int .i64 a.ctime,.int .i64 a.links,.int .i64 a.up,.string a.data,.slice ea el ec] 109);have hX:=Blk.new w2 #[.int .i64 a.no,.int .i64 a.dev,.int .i64 a.kind,.int .i64 a.mode,.int .i64 a.uid,.int .i64 a.gid,.int .i64 a.mtime,.int .i64 a.ctime,.int .i64 a.links,.int .i64 a.up,.string a.data,.slice ea el ec] 109;clear hb2 HCg;go_upto_region 11 with fail;generalize w2.alloc (.cells #[.int .i64 a.no,.int .i64 a.dev,.int .i64 a.kind,.int .i64 a.mode,.int .i64 a.uid,.int .i64 a.gid,.int .i64 a.mtime,.int .i64 a.ctime,.int .i64 a.links,.int .i64 a.up,.string a.data,.slice ea el ec] 109)=X at hbX hX ⊢;have HBX:=Lib.hid hbX;obtain⟨xc,xf,xz⟩:=hX.facts;obtain⟨bc,bf,bz⟩:=(HB.out.keep hbX).facts;generalize hch:S.child x=ch at HCh;have HChe:=Lib.hid hch;clear hch
    go_cut [53] from 14 to 93 (fun t53 wx=>t53=.bool (decide (S.root a.dev=x∧1<a.dev))∧wx=X)
    case first=>
     by_cases h2:1<a.dev
     ·have HRx:=Lib.hid (HRo.out X HBX.out a.dev);have HD:=Lib.hid (show decide (S.root a.dev=x∧1<a.dev)=(S.root a.dev == x) by
       by_cases h3:S.root a.dev=x
       ·rw [decide_eq_true ⟨h3,h2⟩];exact (beq_iff_eq.2 h3).symm
       ·rw [decide_eq_false (fun h=>h3 h.1)];exact (beq_eq_false_iff_ne.2 h3).symm)
      generalize hrt:S.root a.dev=rt at HRx;have HRt:=Lib.hid hrt;clear hbX hX hrt;go_wp2_with fail;refine HRx.out.mono ?_;rintro e w3 ⟨rfl,rfl⟩;go_wp2_with fail;go_meet;exact⟨by rw [HD.out,HRt.out],rfl⟩
     ·have HD:=Lib.hid (show decide (S.root a.dev=x∧1<a.dev)=false by simp [h2]);clear hbX hX;go_wp2_with fail;go_meet;exact⟨by rw [HD.out],rfl⟩
    case rest=>
    obtain⟨rfl,rfl⟩:=hcut
    go_step
    go_cut [9] from 14 to 93 (fun t9 wx=>t9=.int .i64 ch∧Below w.heap.size w wx)
    case first=>
     by_cases h2:S.root a.dev=x∧1<a.dev
     ·have q3:decide (S.root a.dev=x∧1<a.dev)=true:=decide_eq_true h2;have hdl:a.dev≤(m:Int):=by
       rcases HGa.out with hg | ⟨hg,rfl⟩
       ·have:=(HK.out.1.get hg).1.dev.2;rw [HM.out] at this;exact this
       ·exact absurd h2.2 (by decide)
      have h2':=h2.2;obtain⟨j,hj⟩:∃ j:Nat,a.dev=(j:Int)+1:=⟨(a.dev - 1).toNat,by omega⟩;have hjl:j<S.ds.length:=by rw [HM.out];omega
      have hv:S.dev a.dev=some S.ds[j]:=by
       unfold Fs.dev;rw [if_pos (by omega),hj,show ((j:Int)+1 - 1).toNat=j by omega,List.getElem?_eq_getElem hjl]
      have HO:=Lib.hid (show ch=S.ds[j].over by rw [HCh.out,if_pos h2,hv]);have cc:=(hbX.cell (p:=⟨g,j*6+1,none⟩) hgl).trans (HC.out j hjl);generalize S.ds[j].over=ov at cc HO;have hgl2:g<wc.heap.size:=Nat.lt_of_lt_of_le hgl hbX.size;have hwr1:IntKind.i64.wrap ((j:Int)+1 - 1)=(j:Int):=by simp [IntKind.wrap,IntKind.bits,IntKind.signed];omega
      have hwr2:IntKind.i64.wrap (j:Int)=(j:Int):=by simp [IntKind.wrap,IntKind.bits,IntKind.signed];omega
      have hk0:(0:Int)≤(j:Int)∧(j:Int)<(m:Int)∧((j:Int)).toNat=j:=by omega
      obtain⟨hk1',hk2',hk3'⟩:=hk0;generalize decide (S.root a.dev=x∧1<a.dev)=dd at q3 ⊢;clear hdl hv hbX hX hjl h2 h2';rw [hj] at xc;subst q3;go_wp2_with fail
      go_quiet (fail)
      go_wp2_with fail;go_meet;exact⟨by rw [HO.out],below_drewN HBX.out _⟩
     ·have q3:decide (S.root a.dev=x∧1<a.dev)=false:=decide_eq_false h2;have HO:=Lib.hid (HCh.out.trans (if_neg h2));generalize decide (S.root a.dev=x∧1<a.dev)=dd at q3 ⊢;subst q3;clear h2 hbX hX;go_wp2_with fail;go_meet;exact⟨by rw [HO.out],HBX.out⟩
    case rest=>
     obtain⟨rfl,hbx⟩:=hcut;have HBx:=Lib.hid hbx;obtain⟨a2,fa,fl,fc,hents,hee,-,hcg⟩:=HG.out wc hbx (S.above x);have HCg:=Lib.hid (hcg wc (Below.refl _ _));have HNm:=Lib.hid (ents_names HK.out.2 (S.above x));have HWn:=Lib.hid (whereN_none (S:=S) (n:=n+1 - (k+1)) H1.out s);have HWs:=Lib.hid (fun nm=>whereN_some (S:=S) (n:=n+1 - (k+1)) H1.out s (nm:=nm));rw [←hee] at HNm HWn HWs;rw [HChe.out] at HWn HWs;have hfd:∀ (a:An) (w:World),(Instr.field 109 (.agg #[.int .i64 a.no,.int .i64 a.dev,.int .i64 a.kind,.int .i64 a.mode,.int .i64 a.uid,.int .i64 a.gid,.int .i64 a.mtime,.int .i64 a.ctime,.int .i64 a.links,.int .i64 a.up,.string a.data,.slice fa fl fc]) 11).run Tryz.prog w=.ok (.slice fa fl fc) w:=fun _ _=>by kernel_rfl
     generalize a2.ents=es at hents HNm HWn HWs;have hln:=hents.len;subst hln;have HEn:=Lib.hid hents;have hec1:=hents.sl.2.1;have hec2:=hents.sl.2.2.1;clear hbx hcg hents hee xc xf xz bc bf bz hbX hX;go_wp2_with fail;refine HCg.out.mono ?_;rintro e w3 ⟨rfl,hb3⟩;have HB3:=Lib.hid (bnext HBx.out hb3);have HE3:=Lib.hid (HEn.out.keep hb3);clear hb3;go_wp2_with fail
     go_loopw [12,13] (fun t12 t13 w4=>∃ i:Int,-1≤i∧i<es.length∧t13=.int .i64 i∧t12=.string (nmOf (es.drop (i+1).toNat) ch)∧w4=w3) (fun _ t13 _=>(intOf t13+1).toNat)
     case atStart=>exact ⟨(es.length:Int) - 1,by omega,by omega,by go_num,by rw [show ((es.length:Int) - 1+1).toNat=es.length by omega,List.drop_length];rfl,rfl⟩
     case round=>
      obtain⟨i,hi1,hi2,rfl,rfl,rfl⟩:=hrel;by_cases h0:0≤i
      ·obtain ⟨j,rfl⟩:=Int.eq_ofNat_of_zero_le h0;have hjl:j<es.length:=by omega
       have hge:(0:Int)≤(j:Int):=h0;have hgj:(j:Int)<(es.length:Int):=hi2;obtain⟨b,off,rfl,hbl⟩:=HE3.out.some_of (by omega);obtain⟨c0,c1⟩:=HE3.out.cell j hjl;have HQ:=Lib.hid (show nmOf (es.drop ((j:Int) - 1+1).toNat) ch=if es[j].no=ch then es[j].name else nmOf (es.drop ((j:Int)+1).toNat) ch by
        rw [show ((j:Int) - 1+1).toNat=j by omega,show ((j:Int)+1).toNat=j+1 by omega,List.drop_eq_getElem_cons hjl,nmOf_cons])
       generalize es[j]=y at c0 c1 HQ;generalize nmOf (es.drop ((j:Int)+1).toNat) ch=old at HQ ⊢;clear h0;by_cases hy:y.no=ch
       ·have py:(y.no == ch)=true:=by simpa using hy
        have HO:=Lib.hid (HQ.out.trans (if_pos hy));clear hy;go_wp2_with fail;go_roundw
        case measure=>simp [intOf]
        case rel=>exact ⟨(j:Int) - 1,by omega,by omega,by go_num,by rw [HO.out],by trivial⟩
       ·have py:(y.no == ch)=false:=by simpa using hy
        have HO:=Lib.hid (HQ.out.trans (if_neg hy));clear hy;go_wp2_with fail;go_roundw
        case measure=>simp [intOf]
        case rel=>exact ⟨(j:Int) - 1,by omega,by omega,by go_num,by rw [HO.out],by trivial⟩
      ·obtain rfl:i=-1:=by omega
       rw [show ((-1:Int)+1).toNat=0 from rfl,List.drop_zero];have HZ0:=Lib.hid (nmOf_none (no:=ch) HNm.out);have HZ1:=Lib.hid (nmOf_some (no:=ch) HNm.out);generalize nmOf es ch=nm at HZ0 HZ1 ⊢;clear h0 hi1 hi2
       cases hne:nm.toList.isEmpty with
       | true=>
        have HO:=Lib.hid (show out=none by rw [HE1.out];exact HWn.out (HZ0.out hne));obtain rfl:nm=ByteArray.empty:=ba_nil hne;go_wp2_with fail;go_ret2;rw [HO.out];exact⟨rfl,HB3.out⟩
       | false=>
        have HO:=Lib.hid (show out=S.whereN (n+1 - (k+1)) (S.above x) (topB ++ nm ++ s) by rw [HE1.out];exact HWs.out nm (HZ1.out hne).1);have hnsz:=(HZ1.out hne).2;have hsn:(nm.toList == [])=false:=by
         cases hq:nm.toList with
         | nil=>rw [hq] at hne;cases hne
         | cons _ _=>rfl
        have hs0:¬ 9223372036854775807<1+nm.size:=by omega
        have hs1:¬ 9223372036854775807<(ByteArray.mk #[47] ++ nm).size+s.size:=by rw [ByteArray.size_append];show ¬ 9223372036854775807<1+nm.size+s.size;omega
        clear HZ0 HZ1;go_wp2_with fail;go_roundw
        case measure=>simp [intOf];omega
        case rel=>
         refine ⟨k+1,S.above x,topB ++ nm ++ s,by omega,rfl,rfl,by go_num,?_,HO.out,HB3.out⟩;rw [ByteArray.size_append,ByteArray.size_append];show 1+nm.size+s.size≤_;omega
  ·have hkn:k=n+1:=by omega
   subst hkn;have hgt:¬ ((n:Int)+1≤(n:Int)):=by omega
   have HO:=Lib.hid (show out=none by rw [HE.out,Nat.sub_self];rfl);clear hbw;go_wp2_with fail;go_ret2;rw [HO.out];exact⟨rfl,HBw.out⟩
end
end
end Go.Proofs.YtihdbncoijhihaaGreatDoor
