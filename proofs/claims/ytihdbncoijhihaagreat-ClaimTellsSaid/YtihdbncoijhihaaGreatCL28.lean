import Derived.Deep.CutBlock
import Derived.Deep.DeepCutAuto
import Derived.RegionTactic
import Derived.BigRegion
import Derived.Deep.QuietTactic
import Derived.BigQuiet
import Derived.WalkSmall
import Derived.Shelf.Strings.BuilderK
import Derived.Test.YtihdbncoijhihaaGreatCL27
import Derived.Test.YtihdbncoijhihaaGreatCL5
import Derived.Test.YtihdbncoijhihaaGreatCL3
set_option linter.unusedVariables false
set_option linter.unusedSimpArgs false
set_option maxRecDepth 100000
set_option maxHeartbeats 16000000
namespace Go.Proofs.YtihdbncoijhihaaGreat
section
open Go.RowKit
theorem ba_nil {s:ByteArray} (h:s.toList.isEmpty=true):s=ByteArray.empty:=ba_eq (by rw [ba_list] at h;exact List.isEmpty_iff.1 h)
theorem ba_zero {s:ByteArray} (h:s.size=0):s=ByteArray.empty:=ba_eq (List.eq_nil_of_length_eq_zero (by rw [Array.length_toList];exact h))
theorem ba_e:ByteArray.empty.toList.isEmpty=true:=by rw [ba_list];rfl
def whereV (o:Option ByteArray):Value:=.tuple #[.string (o.getD ByteArray.empty),.bool o.isSome]
def nmOf (l:List En) (no:Int):ByteArray:=(entName l no).getD ByteArray.empty
theorem nmOf_cons (x:En) (l:List En) (no:Int):nmOf (x :: l) no=if x.no=no then x.name else nmOf l no:=by
 unfold nmOf;rw [entName_cons]
 split <;> rfl
theorem nmOf_some {l:List En} {no:Int} (h:∀ x∈l,NmOk x.name) (hne:(nmOf l no).toList.isEmpty=false):entName l no=some (nmOf l no)∧(nmOf l no).size≤255:=by
 unfold nmOf at hne ⊢
 cases he:entName l no with
 | none=>rw [he,show (none:Option ByteArray).getD ByteArray.empty=ByteArray.empty from rfl,ba_e] at hne;cases hne
 | some s=>
  obtain⟨x,hx,rfl⟩:=entName_mem he;exact⟨rfl,(h x hx).2⟩
theorem nmOf_none {l:List En} {no:Int} (h:∀ x∈l,NmOk x.name) (hne:(nmOf l no).toList.isEmpty=true):entName l no=none:=by
 unfold nmOf at hne
 cases he:entName l no with
 | none=>rfl
 | some s=>
  obtain⟨x,hx,rfl⟩:=entName_mem he;rw [he] at hne;exact absurd (ba_nil hne) (h x hx).1
section
variable {w w':World} {pf:Nat} {R:Rf} {S:Fs}
theorem ents_names (hp:Pl S) (k:Int):∀ x∈S.entsOf k,NmOk x.name:=by
 intro x hx;unfold Fs.entsOf at hx
 cases hg:S.get k with
 | none=>rw [hg] at hx;cases hx
 | some a=>rw [hg] at hx;exact hp.names a (an_mem hg) x hx
theorem rget_u (h:RfAt w pf R S) (k:Int):∃ a ea el ec,EntsAt w ea el ec a.ents∧a.ents=S.entsOf k∧(S.get k=some a∨(S.get k=none∧a=an0))∧
  ∀ w1,Below w.heap.size w w1→Calls Tryz.prog 67 #[.pointer (some ⟨pf,0,none⟩),.int .i64 k] w1 fun e w'=>e=.returned (.agg #[.int .i64 a.no,.int .i64 a.dev,.int .i64 a.kind,.int .i64 a.mode,.int .i64 a.uid,.int .i64 a.gid,.int .i64 a.mtime,.int .i64 a.ctime,.int .i64 a.links,.int .i64 a.up,.string a.data,.slice ea el ec])∧Below w1.heap.size w1 w':=by
 cases hg:S.get k with
 | none=>exact ⟨an0,none,0,0,EntsAt.nil w,by unfold Fs.entsOf;rw [hg];rfl,.inr ⟨rfl,rfl⟩,fun w1 hb=>rget_no (h.keep hb) hg⟩
 | some a=>
  obtain⟨ea,el,ec,he,hc⟩:=rget_fix h hg;exact⟨a,ea,el,ec,he,by unfold Fs.entsOf;rw [hg],.inl rfl,hc⟩
theorem child_u {no:Int} {a:An} (h:S.get no=some a∨(S.get no=none∧a=an0)):S.child no=if S.root a.dev=no∧1<a.dev then (match S.dev a.dev with | some v=>v.over | none=>no) else no:=by
 rcases h with h | ⟨h,rfl⟩
 ·rw [child_eq,h];rfl
 ·rw [child_none h,if_neg];rintro ⟨-,h⟩
  cases h
theorem whereN_one (S:Fs) (n:Nat) (s:ByteArray):S.whereN (n+1) 1 s=some (if s.size=0 then topB else s):=by
 rw [Fs.whereN,if_pos rfl]
theorem whereN_none {S:Fs} {n:Nat} {x:Int} (h1:x≠1) (s:ByteArray) (h:entName (S.entsOf (S.above x)) (S.child x)=none):S.whereN (n+1) x s=none:=by
 rw [Fs.whereN,if_neg h1,h]
theorem whereN_some {S:Fs} {n:Nat} {x:Int} (h1:x≠1) (s:ByteArray) {nm:ByteArray} (h:entName (S.entsOf (S.above x)) (S.child x)=some nm):S.whereN (n+1) x s=S.whereN n (S.above x) (topB ++ nm ++ s):=by
 rw [Fs.whereN,if_neg h1,h]
theorem rwhere_any (h:RfAt w pf R S) {N:Nat} (hk:FsOk S N) (hp:Pl S) (hl:S.ns.length≤100000) (no:Int) :
  Calls Tryz.prog 94 #[.pointer (some ⟨pf,0,none⟩),.int .i64 no] w fun e w'=>e=.returned (whereV (S.place_ no))∧Below w.heap.size w w':=by
 obtain⟨na,nc,hnv,hn1,hn2⟩:=h.nform;obtain⟨g,cap,hdv,hle,h63,hgl,hcd,-,-⟩:=h.devF hk.d1;have hd1:=hk.d1;have hd8:=hk.d8;have hlen:=h.len;have HS:=Lib.hid (show S.place_ no=S.whereN (S.ns.length+1) no ByteArray.empty from rfl);have HA:=Lib.hid (fun w1 (hb1:Below w.heap.size w w1) x=>rabove_any (h.keep hb1) hk x);have HRo:=Lib.hid (fun w1 (hb1:Below w.heap.size w w1) x=>rroot_any (h.keep hb1) x);have HG:=Lib.hid (fun w1 (hb1:Below w.heap.size w w1) x=>rget_u (h.keep hb1) x);have hb:=h.blk;rw [hnv,hdv] at hb;rw [←hlen] at hb hn1;have HB:=Lib.hid hb;have HC:=Lib.hid (fun k (hk:k<S.ds.length)=>(hcd k hk).c1);have HK:=Lib.hid (And.intro hk hp);obtain⟨m,hm⟩:∃ m,S.ds.length=m:=⟨_,rfl⟩;have HM:=Lib.hid hm;rw [hm] at HB hle hd1 hd8;generalize S.ns.length=n at HB hn1 HS hl;generalize S.place_ no=out at HS ⊢;have mixed:Tryz.prog.follows .mixedOrders=true:=by kernel_rfl
 have hm0:(0:Int)<(m:Int):=by omega
 clear h hk hp hnv hdv hlen hb hcd hm;go_enter Tryz.func94,Tryz.ntmps94;go_wp2_with fail
 go_loopw [1,6,7] (fun t1 t6 t7 wr=>∃ (k:Nat) (x:Int) (s:ByteArray),k≤n+1∧t1=.int .i64 x∧t6=.string s∧t7=.int .i64 k∧s.size≤256*k∧out=S.whereN (n+1 - k) x s∧Below w.heap.size w wr) (fun _ _ t7 _=>n+1 - (intOf t7).toNat)
 case atStart=>exact ⟨0,no,ByteArray.empty,Nat.zero_le _,rfl,rfl,rfl,Nat.zero_le _,HS.out,Below.refl _ _⟩
 case round=>
  obtain⟨k,x,s,hk1,rfl,rfl,rfl,hss,hE,hbw⟩:=hrel;have HE:=Lib.hid hE;have HBw:=Lib.hid hbw;obtain⟨bc,bf,bz⟩:=(HB.out.keep hbw).facts;clear hE;by_cases hlt:k≤n
  ·have hlt2:(k:Int)≤(n:Int):=by omega
   have HE1:=Lib.hid (show out=S.whereN ((n+1 - (k+1))+1) x s by rw [HE.out,show n+1 - k=(n+1 - (k+1))+1 by omega]);by_cases h1:x=1
   ·subst h1;have HE2:=Lib.hid (HE1.out.trans (whereN_one S _ s));clear hbw
    cases hse:s.toList.isEmpty with
    | true=>
     have hs0:s=ByteArray.empty:=ba_nil hse;subst hs0;have HO:=Lib.hid (show out=some topB from HE2.out);go_wp2_with fail;go_ret2;rw [HO.out];exact⟨rfl,HBw.out⟩
    | false=>
     have hsn:(s.toList == [])=false:=by
      cases hq:s.toList with
      | nil=>rw [hq] at hse;cases hse
      | cons _ _=>rfl
     have HO:=Lib.hid (show out=some s by
      rw [HE2.out,if_neg];intro h0;rw [ba_zero h0,ba_e] at hse
      cases hse)
     go_wp2_with fail;go_ret2;rw [HO.out];exact⟨rfl,HBw.out⟩
   ·have p1:(x == 1)=false:=by simpa using h1
    have H1:=Lib.hid h1;have HAx:=Lib.hid (HA.out wr HBw.out x);clear h1;go_wp2_with fail;refine HAx.out.mono ?_;rintro e w1 ⟨rfl,hb1⟩;have HB1:=Lib.hid (bnext HBw.out hb1);obtain⟨a,ea,el,ec,-,-,hga,hcg⟩:=HG.out w1 HB1.out x;have HCg:=Lib.hid (hcg w1 (Below.refl _ _));have HCh:=Lib.hid (child_u hga);have HGa:=Lib.hid hga;clear hb1 hcg hga bc bf bz HAx;go_wp2_with fail;refine HCg.out.mono ?_;rintro e w2 ⟨rfl,hb2⟩;have hbX:=balloc (bnext HB1.out hb2) (.cells #[.int .i64 a.no,.int .i64 a.dev,.int .i64 a.kind,.int .i64 a.mode,.int .i64 a.uid,.int .i64 a.gid,.int .i64 a.mtime,.int .i64 a.ctime,.int .i64 a.links,.int .i64 a.up,.string a.data,.slice ea el ec] 49);have hX:=Blk.new w2 #[.int .i64 a.no,.int .i64 a.dev,.int .i64 a.kind,.int .i64 a.mode,.int .i64 a.uid,.int .i64 a.gid,.int .i64 a.mtime,.int .i64 a.ctime,.int .i64 a.links,.int .i64 a.up,.string a.data,.slice ea el ec] 49;clear hb2 HCg;go_upto_region 11 with fail;generalize w2.alloc (.cells #[.int .i64 a.no,.int .i64 a.dev,.int .i64 a.kind,.int .i64 a.mode,.int .i64 a.uid,.int .i64 a.gid,.int .i64 a.mtime,.int .i64 a.ctime,.int .i64 a.links,.int .i64 a.up,.string a.data,.slice ea el ec] 49)=X at hbX hX ⊢;have HBX:=Lib.hid hbX;obtain⟨xc,xf,xz⟩:=hX.facts;obtain⟨bc,bf,bz⟩:=(HB.out.keep hbX).facts;generalize hch:S.child x=ch at HCh;have HChe:=Lib.hid hch;clear hch
    go_cut [53] from 14 to 93 (fun t53 wx=>t53=.bool (decide (S.root a.dev=x∧1<a.dev))∧wx=X)
    case first=>
     by_cases h2:1<a.dev
     ·have HRx:=Lib.hid (HRo.out X HBX.out a.dev);have HD:=Lib.hid (show decide (S.root a.dev=x∧1<a.dev)=(S.root a.dev == x) by
       by_cases h3:S.root a.dev=x
       ·rw [decide_eq_true ⟨h3,h2⟩];exact (beq_iff_eq.2 h3).symm
       ·rw [decide_eq_false (fun h=>h3 h.1)];exact (beq_eq_false_iff_ne.2 h3).symm)
      generalize hrt:S.root a.dev=rt at HRx;have HRt:=Lib.hid hrt;clear hbX hX hrt;go_wp2_with fail;refine HRx.out.mono ?_;rintro e w3 ⟨rfl,rfl⟩;go_wp2_with fail;go_meet;exact⟨by rw [HD.out,HRt.out],rfl⟩
     ·have HD:=Lib.hid (show decide (S.root a.dev=x∧1<a.dev)=false by simp [h2]);clear hbX hX;go_wp2_with fail;go_meet;exact⟨by rw [HD.out],rfl⟩
    case rest=>
    obtain⟨rfl,rfl⟩:=hcut
    go_step
    go_cut [9] from 14 to 93 (fun t9 wx=>t9=.int .i64 ch∧Below w.heap.size w wx)
    case first=>
     by_cases h2:S.root a.dev=x∧1<a.dev
     ·have q3:decide (S.root a.dev=x∧1<a.dev)=true:=decide_eq_true h2;have hdl:a.dev≤(m:Int):=by
       rcases HGa.out with hg | ⟨hg,rfl⟩
       ·have:=(HK.out.1.get hg).1.dev.2;rw [HM.out] at this;exact this
       ·exact absurd h2.2 (by decide)
      have h2':=h2.2;obtain⟨j,hj⟩:∃ j:Nat,a.dev=(j:Int)+1:=⟨(a.dev - 1).toNat,by omega⟩;have hjl:j<S.ds.length:=by rw [HM.out];omega
      have hv:S.dev a.dev=some S.ds[j]:=by
       unfold Fs.dev;rw [if_pos (by omega),hj,show ((j:Int)+1 - 1).toNat=j by omega,List.getElem?_eq_getElem hjl]
      have HO:=Lib.hid (show ch=S.ds[j].over by rw [HCh.out,if_pos h2,hv]);have cc:=(hbX.cell (p:=⟨g,j*6+1,none⟩) hgl).trans (HC.out j hjl);generalize S.ds[j].over=ov at cc HO;have hgl2:g<wc.heap.size:=Nat.lt_of_lt_of_le hgl hbX.size;have hwr1:IntKind.i64.wrap ((j:Int)+1 - 1)=(j:Int):=by simp [IntKind.wrap,IntKind.bits,IntKind.signed];omega
      have hwr2:IntKind.i64.wrap (j:Int)=(j:Int):=by simp [IntKind.wrap,IntKind.bits,IntKind.signed];omega
      have hk0:(0:Int)≤(j:Int)∧(j:Int)<(m:Int)∧((j:Int)).toNat=j:=by omega
      obtain⟨hk1',hk2',hk3'⟩:=hk0;generalize decide (S.root a.dev=x∧1<a.dev)=dd at q3 ⊢;clear hdl hv hbX hX hjl h2 h2';rw [hj] at xc;subst q3;go_wp2_with fail
      go_quiet (fail)
      go_wp2_with fail;go_meet;exact⟨by rw [HO.out],below_drewN HBX.out _⟩
     ·have q3:decide (S.root a.dev=x∧1<a.dev)=false:=decide_eq_false h2;have HO:=Lib.hid (HCh.out.trans (if_neg h2));generalize decide (S.root a.dev=x∧1<a.dev)=dd at q3 ⊢;subst q3;clear h2 hbX hX;go_wp2_with fail;go_meet;exact⟨by rw [HO.out],HBX.out⟩
    case rest=>
     obtain⟨rfl,hbx⟩:=hcut;have HBx:=Lib.hid hbx;obtain⟨a2,fa,fl,fc,hents,hee,-,hcg⟩:=HG.out wc hbx (S.above x);have HCg:=Lib.hid (hcg wc (Below.refl _ _));have HNm:=Lib.hid (ents_names HK.out.2 (S.above x));have HWn:=Lib.hid (whereN_none (S:=S) (n:=n+1 - (k+1)) H1.out s);have HWs:=Lib.hid (fun nm=>whereN_some (S:=S) (n:=n+1 - (k+1)) H1.out s (nm:=nm));rw [←hee] at HNm HWn HWs;rw [HChe.out] at HWn HWs;have hfd:∀ (a:An) (w:World),(Instr.field 49 (.agg #[.int .i64 a.no,.int .i64 a.dev,.int .i64 a.kind,.int .i64 a.mode,.int .i64 a.uid,.int .i64 a.gid,.int .i64 a.mtime,.int .i64 a.ctime,.int .i64 a.links,.int .i64 a.up,.string a.data,.slice fa fl fc]) 11).run Tryz.prog w=.ok (.slice fa fl fc) w:=fun _ _=>by kernel_rfl
     generalize a2.ents=es at hents HNm HWn HWs;have hln:=hents.len;subst hln;have HEn:=Lib.hid hents;have hec1:=hents.sl.2.1;have hec2:=hents.sl.2.2.1;clear hbx hcg hents hee xc xf xz bc bf bz hbX hX;go_wp2_with fail;refine HCg.out.mono ?_;rintro e w3 ⟨rfl,hb3⟩;have HB3:=Lib.hid (bnext HBx.out hb3);have HE3:=Lib.hid (HEn.out.keep hb3);clear hb3;go_wp2_with fail
     go_loopw [12,13] (fun t12 t13 w4=>∃ i:Int,-1≤i∧i<es.length∧t13=.int .i64 i∧t12=.string (nmOf (es.drop (i+1).toNat) ch)∧w4=w3) (fun _ t13 _=>(intOf t13+1).toNat)
     case atStart=>exact ⟨(es.length:Int) - 1,by omega,by omega,by go_num,by rw [show ((es.length:Int) - 1+1).toNat=es.length by omega,List.drop_length];rfl,rfl⟩
     case round=>
      obtain⟨i,hi1,hi2,rfl,rfl,rfl⟩:=hrel;by_cases h0:0≤i
      ·obtain ⟨j,rfl⟩:=Int.eq_ofNat_of_zero_le h0;have hjl:j<es.length:=by omega
       have hge:(0:Int)≤(j:Int):=h0;have hgj:(j:Int)<(es.length:Int):=hi2;obtain⟨b,off,rfl,hbl⟩:=HE3.out.some_of (by omega);obtain⟨c0,c1⟩:=HE3.out.cell j hjl;have HQ:=Lib.hid (show nmOf (es.drop ((j:Int) - 1+1).toNat) ch=if es[j].no=ch then es[j].name else nmOf (es.drop ((j:Int)+1).toNat) ch by
        rw [show ((j:Int) - 1+1).toNat=j by omega,show ((j:Int)+1).toNat=j+1 by omega,List.drop_eq_getElem_cons hjl,nmOf_cons])
       generalize es[j]=y at c0 c1 HQ;generalize nmOf (es.drop ((j:Int)+1).toNat) ch=old at HQ ⊢;clear h0;by_cases hy:y.no=ch
       ·have py:(y.no == ch)=true:=by simpa using hy
        have HO:=Lib.hid (HQ.out.trans (if_pos hy));clear hy;go_wp2_with fail;go_roundw
        case measure=>simp [intOf]
        case rel=>exact ⟨(j:Int) - 1,by omega,by omega,by go_num,by rw [HO.out],by trivial⟩
       ·have py:(y.no == ch)=false:=by simpa using hy
        have HO:=Lib.hid (HQ.out.trans (if_neg hy));clear hy;go_wp2_with fail;go_roundw
        case measure=>simp [intOf]
        case rel=>exact ⟨(j:Int) - 1,by omega,by omega,by go_num,by rw [HO.out],by trivial⟩
      ·obtain rfl:i=-1:=by omega
       rw [show ((-1:Int)+1).toNat=0 from rfl,List.drop_zero];have HZ0:=Lib.hid (nmOf_none (no:=ch) HNm.out);have HZ1:=Lib.hid (nmOf_some (no:=ch) HNm.out);generalize nmOf es ch=nm at HZ0 HZ1 ⊢;clear h0 hi1 hi2
       cases hne:nm.toList.isEmpty with
       | true=>
        have HO:=Lib.hid (show out=none by rw [HE1.out];exact HWn.out (HZ0.out hne));obtain rfl:nm=ByteArray.empty:=ba_nil hne;go_wp2_with fail;go_ret2;rw [HO.out];exact⟨rfl,HB3.out⟩
       | false=>
        have HO:=Lib.hid (show out=S.whereN (n+1 - (k+1)) (S.above x) (topB ++ nm ++ s) by rw [HE1.out];exact HWs.out nm (HZ1.out hne).1);have hnsz:=(HZ1.out hne).2;have hsn:(nm.toList == [])=false:=by
         cases hq:nm.toList with
         | nil=>rw [hq] at hne;cases hne
         | cons _ _=>rfl
        have hs0:¬ 9223372036854775807<1+nm.size:=by omega
        have hs1:¬ 9223372036854775807<(ByteArray.mk #[47] ++ nm).size+s.size:=by rw [ByteArray.size_append];show ¬ 9223372036854775807<1+nm.size+s.size;omega
        clear HZ0 HZ1;go_wp2_with fail;go_roundw
        case measure=>simp [intOf];omega
        case rel=>
         refine ⟨k+1,S.above x,topB ++ nm ++ s,by omega,rfl,rfl,by go_num,?_,HO.out,HB3.out⟩;rw [ByteArray.size_append,ByteArray.size_append];show 1+nm.size+s.size≤_;omega
  ·have hkn:k=n+1:=by omega
   subst hkn;have hgt:¬ ((n:Int)+1≤(n:Int)):=by omega
   have HO:=Lib.hid (show out=none by rw [HE.out,Nat.sub_self];rfl);clear hbw;go_wp2_with fail;go_ret2;rw [HO.out];exact⟨rfl,HBw.out⟩
end
end
section
open Go.RowKit
theorem entName_drop {es:List En} {no:Int} {k:Nat} (hk:k<es.length):entName (es.drop k) no=if es[k].no=no then some es[k].name else entName (es.drop (k+1)) no:=by
 rw [List.drop_eq_getElem_cons hk,entName_cons]
theorem ename_any (es:List En) (a:Option Addr) (n c:Nat) (no:Int) (w:World) (he:EntsAt w a n c es) :
  Calls Tryz.prog 183 #[.slice a n c,.int .i64 no] w fun e w'=>e=.returned (whereV (entName es no))∧Below w.heap.size w w':=by
 have hl:=he.len;subst hl;have hc1:=he.sl.2.1;have hc2:=he.sl.2.2.1;have HE:=Lib.hid he;have HS:=Lib.hid (show entName es no=entName (es.drop 0) no from rfl);generalize entName es no=out at HS ⊢;clear he;go_enter Tryz.func183,Tryz.ntmps183;go_wp2_with fail
 go_loopw [10] (fun t10 wr=>∃ k:Nat,k≤es.length∧t10=.int .i64 k∧out=entName (es.drop k) no∧Below w.heap.size w wr) (fun t10 _=>es.length - (intOf t10).toNat)
 case atStart=>exact ⟨0,Nat.zero_le _,rfl,HS.out,Below.refl _ _⟩
 case round=>
  obtain⟨k,hk,rfl,hf,hb⟩:=hrel;by_cases hlt:k<es.length
  ·have he2:=HE.out.keep hb;obtain⟨b,off,rfl,hbl⟩:=he2.some_of (by omega);obtain⟨c0,c1⟩:=he2.cell k hlt;rw [entName_drop hlt] at hf;have HF:=Lib.hid hf;have HB:=Lib.hid hb;generalize es[k]=x at c0 c1 HF;clear hf hb he2;by_cases hx:x.no=no
   ·have HR:=Lib.hid (HF.out.trans (if_pos hx));have hq:(x.no == no)=true:=by simpa using hx
    clear hx;go_wp2_with fail;go_ret2;exact⟨by rw [HR.out];rfl,balloc HB.out _⟩
   ·have HR:=Lib.hid (HF.out.trans (if_neg hx));have hq:(x.no == no)=false:=by simpa using hx
    clear hx;go_wp2_with fail;go_roundw
    case measure=>simp [intOf];omega
    case rel=>exact ⟨k+1,by omega,by go_num,HR.out,balloc HB.out _⟩
  ·obtain rfl:k=es.length:=by omega
   rw [List.drop_length] at hf;have HR:=Lib.hid (show out=none from hf);have HB:=Lib.hid hb;clear hf hb;go_wp2_with fail;go_ret2;exact⟨by rw [HR.out];rfl,HB.out⟩
section
variable {w w':World} {pw:Nat} {R:Rp} {S:Fs}
theorem wwithin_any (h:WdAt w pw R S) {N:Nat} (hk:FsOk S N) (hp:Pl S) (no base:Int) :
  Calls Tryz.prog 205 #[.pointer (some ⟨pw,0,none⟩),.int .i64 no,.int .i64 base] w fun e w'=>e=.returned (.bool (S.within no base))∧Below w.heap.size w w':=by
 have HS:=Lib.hid (show S.within no base=S.withinN base (S.ns.length+1) no∧S.need (S.ns.length+1) no from ⟨rfl,need_start hk hp no⟩);have HA:=Lib.hid (fun w1 (hb1:Below w.heap.size w w1) x=>wabove_any (h.keep hb1) hk x);have HK:=Lib.hid (And.intro hk hp);generalize S.within no base=out at HS ⊢;clear h hk hp;go_enter Tryz.func205,Tryz.ntmps205;go_wp2_with fail
 go_loopw [1] (fun t1 wr=>∃ (k:Nat) (x:Int),t1=.int .i64 x∧out=S.withinN base k x∧S.need k x∧Below w.heap.size w wr) (fun t1 _=>if intOf t1=0 then 0 else (intOf t1).toNat+1)
 case atStart=>exact ⟨_,no,rfl,HS.out.1,HS.out.2,Below.refl _ _⟩
 case round=>
  obtain⟨k,x,rfl,hE,hn,hb⟩:=hrel;have HE:=Lib.hid hE;have HN:=Lib.hid hn;have HB:=Lib.hid hb;clear hE hn hb;by_cases h0:x=0
  ·have p0:(x != 0)=false:=by simpa using h0
   have HO:=Lib.hid (show out=false by rw [HE.out,h0,within_zero]);clear h0;go_wp2_with fail;go_ret;rw [HO.out];exact⟨rfl,HB.out⟩
  ·have p0:(x != 0)=true:=by simpa using h0
   have H0:=Lib.hid h0;clear h0;by_cases h1:x=base
   ·have p1:(x == base)=true:=by simpa using h1
    have HO:=Lib.hid (show out=true by rw [HE.out,within_yes HN.out H0.out h1]);clear h1;go_wp2_with fail;go_ret;rw [HO.out];exact⟨rfl,HB.out⟩
   ·have p1:(x == base)=false:=by simpa using h1
    have H1:=Lib.hid h1;have HAx:=Lib.hid (HA.out wr HB.out x);clear h1;by_cases h2:S.above x=x
    ·have p2:(S.above x == x)=true:=by simpa using h2
     have HO:=Lib.hid (show out=false by rw [HE.out,within_fix h2 H1.out]);generalize S.above x=ab at HAx p2;clear h2;go_wp2_with fail;refine HAx.out.mono ?_;rintro e w1 ⟨rfl,hb1⟩;have HB1:=Lib.hid (bnext HB.out hb1);clear hb1;go_wp2_with fail;go_ret;rw [HO.out];exact⟨rfl,HB1.out⟩
    ·have p2:(S.above x == x)=false:=by simpa using h2
     have hst:=within_step HK.out.1 HK.out.2 HN.out H0.out H1.out h2;have HO:=Lib.hid (show out=_ from HE.out.trans hst.1);have HN2:=Lib.hid hst.2;have hup:=above_step HK.out.1 HK.out.2 h2;have HUp:=Lib.hid hup;generalize S.above x=ab at HAx p2 HO HN2 HUp;clear h2 hst hup;go_wp2_with fail;refine HAx.out.mono ?_;rintro e w1 ⟨rfl,hb1⟩;have HB1:=Lib.hid (bnext HB.out hb1);clear hb1;go_wp2_with fail;go_roundw
     case rel=>exact ⟨k - 1,ab,rfl,HO.out,HN2.out,HB1.out⟩
     case measure=>
      have h0:=H0.out;show (if ab=0 then 0 else ab.toNat+1)<(if x=0 then 0 else x.toNat+1);rw [if_neg h0];rcases HUp.out with h | ⟨h1,h2,-,-⟩
      ·rw [if_pos h];omega
      ·rw [if_neg (by omega)];omega
theorem wbusy_any (h:WdAt w pw R S) {N:Nat} (hk:FsOk S N) (hp:Pl S) (no:Int) :
  Calls Tryz.prog 196 #[.pointer (some ⟨pw,0,none⟩),.int .i64 no] w fun e w'=>e=.returned (.bool (S.busy no))∧Below w.heap.size w w':=by
 have HNn:=Lib.hid (wnone_any h hk.d1);obtain⟨g,cap,hv,hle,h63,hgl,hc,-,-⟩:=h.devF hk.d1;have hd1:=hk.d1;have hd8:=hk.d8;have HS:=Lib.hid (show S.busy no=(S.ds.drop (0+1)).any (fun d=>S.within d.over no) from rfl);have HA:=Lib.hid (fun w1 (hb1:Below w.heap.size w w1) x=>wwithin_any (h.keep hb1) hk hp x no);obtain⟨pc,-,-⟩:=h.blk.facts;rw [hv] at pc;have HC:=Lib.hid (fun k (hk:k<S.ds.length)=>hc k hk);have HD:=Lib.hid (fun k (hk:k<S.ds.length)=>busy_drop (S:=S) (no:=no) hk);obtain⟨m,hm⟩:∃ m,S.ds.length=m+1:=⟨S.ds.length - 1,by omega⟩;have HM:=Lib.hid hm;rw [hm] at pc hle hd1 hd8;generalize S.busy no=out at HS ⊢;clear h hk hp hv hc hm;go_enter Tryz.func196,Tryz.ntmps196;go_wp2_with fail;refine HNn.out.mono ?_;rintro e w1 ⟨rfl,rfl⟩;by_cases hcap:cap=1
 ·obtain rfl:m=0:=by omega
  subst hcap;have HO:=Lib.hid (show out=false by rw [HS.out,List.drop_of_length_le (by rw [HM.out];exact Nat.le_refl _)];rfl);go_wp2_with fail
  go_loopw [15] (fun t15 wr=>t15=.int .i64 0∧wr=w) (fun _ _=>0)
  case atStart=>exact ⟨rfl,rfl⟩
  case round=>
   obtain⟨rfl,rfl⟩:=hrel;go_wp2_with fail;go_ret;rw [HO.out];exact⟨rfl,Below.refl _ _⟩
 ·have hcap1:¬ (cap:Int)=1:=by omega
  go_wp2_with fail
  go_loopw [15] (fun t15 wr=>∃ (k:Nat),k≤m∧t15=.int .i64 k∧out=(S.ds.drop (k+1)).any (fun d=>S.within d.over no)∧Below w.heap.size w wr) (fun t15 _=>m - (intOf t15).toNat)
  case atStart=>exact ⟨0,Nat.zero_le _,rfl,HS.out,Below.refl _ _⟩
  case round=>
   obtain⟨k,hk2,rfl,hE,hbw⟩:=hrel;have HE:=Lib.hid hE;have HBw:=Lib.hid hbw;clear hE;by_cases hlt:k<m
   ·have hkl:k+1<S.ds.length:=by rw [HM.out];omega
    obtain⟨c0,c1,c2,c3,c4,c5⟩:=HC.out (k+1) hkl;rw [←hbw.cell (p:=⟨g,(k+1)*6,none⟩) hgl,show (k+1)*6=6+k*6 by omega] at c0;rw [←hbw.cell (p:=⟨g,(k+1)*6+1,none⟩) hgl,show (k+1)*6=6+k*6 by omega] at c1;rw [←hbw.cell (p:=⟨g,(k+1)*6+2,none⟩) hgl,show (k+1)*6=6+k*6 by omega] at c2;rw [←hbw.cell (p:=⟨g,(k+1)*6+3,none⟩) hgl,show (k+1)*6=6+k*6 by omega] at c3;rw [←hbw.cell (p:=⟨g,(k+1)*6+4,none⟩) hgl,show (k+1)*6=6+k*6 by omega] at c4;rw [←hbw.cell (p:=⟨g,(k+1)*6+5,none⟩) hgl,show (k+1)*6=6+k*6 by omega] at c5;have HE2:=Lib.hid (HE.out.trans (HD.out (k+1) hkl));have HAx:=Lib.hid (fun w1 hb1=>HA.out w1 hb1 S.ds[k+1].over);generalize S.ds[k+1]=v at c0 c1 c2 c3 c4 c5 HE2 HAx;have hbX:=balloc hbw (.cells #[.int .i64 v.root,.int .i64 v.over,.int .i64 v.b,.int .i64 v.n,.int .i64 v.mb,.int .i64 v.mn] 214);have hX:=Blk.new wr #[.int .i64 v.root,.int .i64 v.over,.int .i64 v.b,.int .i64 v.n,.int .i64 v.mb,.int .i64 v.mn] 214;clear hbw hkl;go_upto_region 6 with fail;generalize wr.alloc (.cells #[.int .i64 v.root,.int .i64 v.over,.int .i64 v.b,.int .i64 v.n,.int .i64 v.mb,.int .i64 v.mn] 214)=X at hbX hX ⊢;obtain⟨xc,xf,xz⟩:=hX.facts;have HAy:=Lib.hid (HAx.out X hbX);have HBX:=Lib.hid hbX;clear hbX hX c0 c1 c2 c3 c4 c5 HAx
    cases hwn:S.within v.over no with
    | true=>
     rw [hwn] at HE2 HAy;have HO:=Lib.hid (show out=true from HE2.out);go_wp2_with fail;refine HAy.out.mono ?_;rintro e w1 ⟨rfl,hb1⟩;have HB1:=Lib.hid (bnext HBX.out hb1);clear hb1;go_wp2_with fail;go_ret;rw [HO.out];exact⟨rfl,HB1.out⟩
    | false=>
     rw [hwn] at HE2 HAy;have HO:=Lib.hid (show out=(S.ds.drop (k+1+1)).any (fun d=>S.within d.over no) by rw [HE2.out];rfl);go_wp2_with fail;refine HAy.out.mono ?_;rintro e w1 ⟨rfl,hb1⟩;have HB1:=Lib.hid (bnext HBX.out hb1);clear hb1;go_wp2_with fail;go_roundw
     case rel=>exact ⟨k+1,by omega,by go_num,HO.out,HB1.out⟩
     case measure=>simp [intOf];omega
   ·obtain rfl:k=m:=by omega
    have HO:=Lib.hid (show out=false by rw [HE.out,←HM.out,List.drop_length];rfl);clear hbw;go_wp2_with fail;go_ret;rw [HO.out];exact⟨rfl,HBw.out⟩
def useV (S:Fs) (d:Int):Value:=match S.dev d with
 | some v=>.agg #[.int .i64 v.b,.int .i64 v.n,.int .i64 v.mb,.int .i64 v.mn]
 | none=>.agg #[.int .i64 0,.int .i64 0,.int .i64 0,.int .i64 0]
theorem dev_out {S:Fs} {d:Int} (h:¬ (1≤d∧d≤S.ds.length)):S.dev d=none∧S.root d=0:=by
 refine ⟨?_,by unfold Fs.root;rw [if_neg h]⟩;unfold Fs.dev
 split
 ·rename_i h1;rw [List.getElem?_eq_none];have:¬ d≤S.ds.length:=fun h2=>h ⟨h1,h2⟩;omega
 ·rfl
theorem dev_in {S:Fs} {N:Nat} (hk:FsOk S N) {k:Nat} (hkl:k<S.ds.length):S.dev ((k:Int)+1)=some S.ds[k]∧S.root ((k:Int)+1)=S.ds[k].root∧S.ds[k].root≠0:=by
 refine ⟨?_,?_,?_⟩
 ·unfold Fs.dev;rw [if_pos (by omega),show ((k:Int)+1 - 1).toNat=k by omega,List.getElem?_eq_getElem hkl]
 ·unfold Fs.root;rw [if_pos ⟨by omega,by omega⟩,show ((k:Int)+1 - 1).toNat=k by omega,List.getElem?_eq_getElem hkl]
 ·have:=(hk.root S.ds[k] (List.getElem_mem hkl)).1;omega
theorem use_results {tmps:Array Value} {W:World} {B:Nat} {b n mb mn:Int} (hb:Blk W B #[.int .i64 b,.int .i64 n,.int .i64 mb,.int .i64 mn] 212)
  (h4:tmps.getD 4 undef=.pointer (some ⟨B,0,none⟩)):(results Tryz.f194 tmps).run Tryz.prog W=.ok (.agg #[.int .i64 b,.int .i64 n,.int .i64 mb,.int .i64 mn]) W:=by
 have q0:=hb.cell 0;have q1:=hb.cell 1;have q2:=hb.cell 2;have q3:=hb.cell 3;rw [Array.getD_eq_getD_getElem?] at h4;simp only [List.getElem?_toArray,List.getElem?_cons_zero,List.getElem?_cons_succ] at q0 q1 q2 q3;simp [results,Tryz.results194,go_sem,h4,q0,q1,q2,q3]
theorem wuse_any (h:WdAt w pw R S) {N:Nat} (hk:FsOk S N) (d:Int) :
  Calls Tryz.prog 194 #[.pointer (some ⟨pw,0,none⟩),.int .i64 d] w fun e w'=>e=.returned (useV S d)∧Below w.heap.size w w':=by
 have mixed:Tryz.prog.follows .mixedOrders=true:=by kernel_rfl
 have hb0:=balloc (Below.refl w.heap.size w) (.cells #[.int .i64 0,.int .i64 0,.int .i64 0,.int .i64 0] 212);have HRo:=Lib.hid (wroot_any (h.keep hb0) hk.d1 d);by_cases hd:1≤d∧d≤S.ds.length
 ·obtain ⟨g,cap,hv,hle,h63,hgl,hc,-,-⟩:=h.devF hk.d1;obtain⟨pc,-,pz⟩:=h.blk.facts;rw [hv] at pc;obtain⟨k,rfl⟩:∃ k:Nat,d=(k:Int)+1:=⟨(d - 1).toNat,by omega⟩;have hkl:k<S.ds.length:=by omega
  obtain⟨h1,h2,h3⟩:=dev_in hk hkl;obtain⟨c0,c1,c2,c3,c4,c5⟩:=hc k hkl;have hu:useV S ((k:Int)+1)=.agg #[.int .i64 S.ds[k].b,.int .i64 S.ds[k].n,.int .i64 S.ds[k].mb,.int .i64 S.ds[k].mn]:=by unfold useV;rw [h1]
  have hq:(S.ds[k].root == 0)=false:=by simpa using h3
  rw [h2] at HRo;rw [hu];have hkl2:k<S.ds.length:=hkl;generalize S.ds[k]=v at c0 c1 c2 c3 c4 c5 hq HRo ⊢;generalize S.ds.length=m at pc hle hkl2;have c2':=(hb0.cell (p:=⟨g,k*6+2,none⟩) hgl).trans c2;have c3':=(hb0.cell (p:=⟨g,k*6+3,none⟩) hgl).trans c3;have c4':=(hb0.cell (p:=⟨g,k*6+4,none⟩) hgl).trans c4;have c5':=(hb0.cell (p:=⟨g,k*6+5,none⟩) hgl).trans c5;have pc2:=fun i=>(hb0.cell (p:=⟨pw,i,none⟩) pz).trans (pc i);have hX:=Blk.new w #[.int .i64 0,.int .i64 0,.int .i64 0,.int .i64 0] 212;clear h hk hd hv hc hkl h1 h2 h3 hu pc c0 c1 c2 c3 c4 c5;go_enter Tryz.func194,Tryz.ntmps194;go_upto_region 1 with fail;generalize w.alloc (.cells #[.int .i64 0,.int .i64 0,.int .i64 0,.int .i64 0] 212)=X at hb0 HRo c2' c3' c4' c5' pc2 hX ⊢;obtain⟨xc,xf,xz⟩:=hX.facts;have HB:=Lib.hid hb0;have HX:=Lib.hid hX;clear hb0 hX;go_wp2_with fail;refine HRo.out.mono ?_;rintro e w1 ⟨rfl,rfl⟩;go_wp2_with fail;exact bodyPost_ret (use_results HX.out.set4 rfl) rfl ⟨rfl,below_set4 HB.out (Nat.le_refl _)⟩
 ·obtain ⟨h1,h2⟩:=dev_out hd;have hu:useV S d=.agg #[.int .i64 0,.int .i64 0,.int .i64 0,.int .i64 0]:=by unfold useV;rw [h1]
  rw [h2] at HRo;rw [hu];have hX:=Blk.new w #[.int .i64 0,.int .i64 0,.int .i64 0,.int .i64 0] 212;clear h hk hd h1 h2 hu;go_enter Tryz.func194,Tryz.ntmps194;go_upto_region 1 with fail;generalize w.alloc (.cells #[.int .i64 0,.int .i64 0,.int .i64 0,.int .i64 0] 212)=X at hb0 HRo hX ⊢;obtain⟨xc,xf,xz⟩:=hX.facts;have HB:=Lib.hid hb0;have HX:=Lib.hid hX;clear hb0 hX;go_wp2_with fail;refine HRo.out.mono ?_;rintro e w1 ⟨rfl,rfl⟩;go_wp2_with fail;exact bodyPost_ret (use_results HX.out.set4 rfl) rfl ⟨rfl,below_set4 HB.out (Nat.le_refl _)⟩
end
end
section
open Go.RowKit
def BldK (b:Nat) (l:List UInt8) (w:World):Prop:=Lib.IsBuilderF 179 5 b b (Lib.byteCells l) w
theorem BldK.of {b:Nat} {l:List UInt8} {w:World} (h:Bld b l w):BldK b l w:=Lib.IsBuilderF.of h
theorem BldK.lt {b:Nat} {l:List UInt8} {w:World} (h:BldK b l w):b<w.heap.size:=by
 rcases h with h | h <;> exact h.lt
abbrev Oth (b:Nat) (w w':World):Prop:=Lib.OthersKept 5 (some b) w w'
theorem wsK_any (b:Nat) (l:List UInt8) (s:ByteArray) (w:World) (h:BldK b l w) (hl:l.length≤1000000000) (hm:s.size≤1000000000) :
  Calls Tryz.prog 86 #[.pointer (some ⟨b,0,none⟩),.string s] w fun e w'=>e=.returned (.tuple #[.int .i64 s.size,.nilIface])∧BldK b (l ++ s.data.toList) w'∧Below b w w'∧Oth b w w':=by
 refine (Any.Builder_WriteString_k Tryz.lays166 Tryz.Builder_Extra_166 b b (Lib.byteCells l) s w h (by rw [byteCells_len];omega) (Nat.le_of_lt h.lt)).mono ?_;rintro e w' ⟨rfl,h1,h2,h3⟩;refine ⟨rfl,.inr ?_,h2,h3⟩;have:Lib.byteCells (l ++ s.data.toList)=Lib.byteCells l ++ Lib.strCells s:=by simp [Lib.byteCells,Lib.strCells]
 rw [this];exact h1
theorem bsK_any (b:Nat) (l:List UInt8) (w:World) (h:BldK b l w) (h0:l≠[]) :
  Calls Tryz.prog 89 #[.pointer (some ⟨b,0,none⟩)] w fun e w'=>e=.returned (.string (str l))∧Below b w w':=by
 refine (Any.Builder_String_k Tryz.lays169 Tryz.Builder_Extra_169 b b l w h h0).mono ?_;rintro e w' ⟨rfl,-,h2,-⟩;exact⟨rfl,h2⟩
end
end Go.Proofs.YtihdbncoijhihaaGreat
