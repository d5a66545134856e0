import Derived.Shelf.Strings.BuilderK
import Derived.Lib.Join
import Derived.StillTailTactics
import Derived.Test.YtihdbncoijhihaaGreatDoorSN14
import Derived.Test.YtihdbncoijhihaaGreatDoorSN7
import Derived.Test.YtihdbncoijhihaaGreatDoorSN3
import Derived.Test.YtihdbncoijhihaaGreatDoorSN1
import Derived.Test.YtihdbncoijhihaaGreatDoorSN4
import Derived.Test.YtihdbncoijhihaaGreatDoorSN10
set_option linter.unusedVariables false
set_option linter.unusedSimpArgs false
set_option maxRecDepth 100000
set_option maxHeartbeats 16000000
namespace Go.Proofs.YtihdbncoijhihaaGreatDoor
section
open Go.RowKit
theorem entName_drop {es:List En} {no:Int} {k:Nat} (hk:k<es.length):entName (es.drop k) no=if es[k].no=no then some es[k].name else entName (es.drop (k+1)) no:=by
 rw [List.drop_eq_getElem_cons hk,entName_cons]
theorem ename_any (es:List En) (a:Option Addr) (n c:Nat) (no:Int) (w:World) (he:EntsAt w a n c es) :
  Calls Tryz.prog 151 #[.slice a n c,.int .i64 no] w fun e w'=>e=.returned (whereV (entName es no))∧Below w.heap.size w w':=by
 have hl:=he.len;subst hl;have hc1:=he.sl.2.1;have hc2:=he.sl.2.2.1;have HE:=Lib.hid he;have HS:=Lib.hid (show entName es no=entName (es.drop 0) no from rfl);generalize entName es no=out at HS ⊢;clear he;go_enter Tryz.func151,Tryz.ntmps151;go_wp2_with fail
 go_loopw [10] (fun t10 wr=>∃ k:Nat,k≤es.length∧t10=.int .i64 k∧out=entName (es.drop k) no∧Below w.heap.size w wr) (fun t10 _=>es.length - (intOf t10).toNat)
 case atStart=>exact ⟨0,Nat.zero_le _,rfl,HS.out,Below.refl _ _⟩
 case round=>
  obtain⟨k,hk,rfl,hf,hb⟩:=hrel;by_cases hlt:k<es.length
  ·have he2:=HE.out.keep hb;obtain⟨b,off,rfl,hbl⟩:=he2.some_of (by omega);obtain⟨c0,c1⟩:=he2.cell k hlt;rw [entName_drop hlt] at hf;have HF:=Lib.hid hf;have HB:=Lib.hid hb;generalize es[k]=x at c0 c1 HF;clear hf hb he2;by_cases hx:x.no=no
   ·have HR:=Lib.hid (HF.out.trans (if_pos hx));have hq:(x.no == no)=true:=by simpa using hx
    clear hx;go_wp2_with fail;go_ret2;exact⟨by rw [HR.out];rfl,balloc HB.out _⟩
   ·have HR:=Lib.hid (HF.out.trans (if_neg hx));have hq:(x.no == no)=false:=by simpa using hx
    clear hx;go_wp2_with fail;go_roundw
    case measure=>simp [intOf];omega
    case rel=>exact ⟨k+1,by omega,by go_num,HR.out,balloc HB.out _⟩
  ·obtain rfl:k=es.length:=by omega
   rw [List.drop_length] at hf;have HR:=Lib.hid (show out=none from hf);have HB:=Lib.hid hb;clear hf hb;go_wp2_with fail;go_ret2;exact⟨by rw [HR.out];rfl,HB.out⟩
section
variable {w w':World} {pw:Nat} {R:Rp} {S:Fs}
theorem wwithin_any (h:WdAt w pw R S) {N:Nat} (hk:FsOk S N) (hp:Pl S) (no base:Int) :
  Calls Tryz.prog 106 #[.pointer (some ⟨pw,0,none⟩),.int .i64 no,.int .i64 base] w fun e w'=>e=.returned (.bool (S.within no base))∧Below w.heap.size w w':=by
 have HS:=Lib.hid (show S.within no base=S.withinN base (S.ns.length+1) no∧S.need (S.ns.length+1) no from ⟨rfl,need_start hk hp no⟩);have HA:=Lib.hid (fun w1 (hb1:Below w.heap.size w w1) x=>wabove_any (h.keep hb1) hk x);have HK:=Lib.hid (And.intro hk hp);generalize S.within no base=out at HS ⊢;clear h hk hp;go_enter Tryz.func106,Tryz.ntmps106;go_wp2_with fail
 go_loopw [1] (fun t1 wr=>∃ (k:Nat) (x:Int),t1=.int .i64 x∧out=S.withinN base k x∧S.need k x∧Below w.heap.size w wr) (fun t1 _=>if intOf t1=0 then 0 else (intOf t1).toNat+1)
 case atStart=>exact ⟨_,no,rfl,HS.out.1,HS.out.2,Below.refl _ _⟩
 case round=>
  obtain⟨k,x,rfl,hE,hn,hb⟩:=hrel;have HE:=Lib.hid hE;have HN:=Lib.hid hn;have HB:=Lib.hid hb;clear hE hn hb;by_cases h0:x=0
  ·have p0:(x != 0)=false:=by simpa using h0
   have HO:=Lib.hid (show out=false by rw [HE.out,h0,within_zero]);clear h0;go_wp2_with fail;go_ret;rw [HO.out];exact⟨rfl,HB.out⟩
  ·have p0:(x != 0)=true:=by simpa using h0
   have H0:=Lib.hid h0;clear h0;by_cases h1:x=base
   ·have p1:(x == base)=true:=by simpa using h1
    have HO:=Lib.hid (show out=true by rw [HE.out,within_yes HN.out H0.out h1]);clear h1;go_wp2_with fail;go_ret;rw [HO.out];exact⟨rfl,HB.out⟩
   ·have p1:(x == base)=false:=by simpa using h1
    have H1:=Lib.hid h1;have HAx:=Lib.hid (HA.out wr HB.out x);clear h1;by_cases h2:S.above x=x
    ·have p2:(S.above x == x)=true:=by simpa using h2
     have HO:=Lib.hid (show out=false by rw [HE.out,within_fix h2 H1.out]);generalize S.above x=ab at HAx p2;clear h2;go_wp2_with fail;refine HAx.out.mono ?_;rintro e w1 ⟨rfl,hb1⟩;have HB1:=Lib.hid (bnext HB.out hb1);clear hb1;go_wp2_with fail;go_ret;rw [HO.out];exact⟨rfl,HB1.out⟩
    ·have p2:(S.above x == x)=false:=by simpa using h2
     have hst:=within_step HK.out.1 HK.out.2 HN.out H0.out H1.out h2;have HO:=Lib.hid (show out=_ from HE.out.trans hst.1);have HN2:=Lib.hid hst.2;have hup:=above_step HK.out.1 HK.out.2 h2;have HUp:=Lib.hid hup;generalize S.above x=ab at HAx p2 HO HN2 HUp;clear h2 hst hup;go_wp2_with fail;refine HAx.out.mono ?_;rintro e w1 ⟨rfl,hb1⟩;have HB1:=Lib.hid (bnext HB.out hb1);clear hb1;go_wp2_with fail;go_roundw
     case rel=>exact ⟨k - 1,ab,rfl,HO.out,HN2.out,HB1.out⟩
     case measure=>
      have h0:=H0.out;show (if ab=0 then 0 else ab.toNat+1)<(if x=0 then 0 else x.toNat+1);rw [if_neg h0];rcases HUp.out with h | ⟨h1,h2,-,-⟩
      ·rw [if_pos h];omega
      ·rw [if_neg (by omega)];omega
theorem wbusy_any (h:WdAt w pw R S) {N:Nat} (hk:FsOk S N) (hp:Pl S) (no:Int) :
  Calls Tryz.prog 87 #[.pointer (some ⟨pw,0,none⟩),.int .i64 no] w fun e w'=>e=.returned (.bool (S.busy no))∧Below w.heap.size w w':=by
 have HNn:=Lib.hid (wnone_any h hk.d1);obtain⟨g,cap,hv,hle,h63,hgl,hc,-,-⟩:=h.devF hk.d1;have hd1:=hk.d1;have hd8:=hk.d8;have HS:=Lib.hid (show S.busy no=(S.ds.drop (0+1)).any (fun d=>S.within d.over no) from rfl);have HA:=Lib.hid (fun w1 (hb1:Below w.heap.size w w1) x=>wwithin_any (h.keep hb1) hk hp x no);obtain⟨pc,-,-⟩:=h.blk.facts;rw [hv] at pc;have HC:=Lib.hid (fun k (hk:k<S.ds.length)=>hc k hk);have HD:=Lib.hid (fun k (hk:k<S.ds.length)=>busy_drop (S:=S) (no:=no) hk);obtain⟨m,hm⟩:∃ m,S.ds.length=m+1:=⟨S.ds.length - 1,by omega⟩;have HM:=Lib.hid hm;rw [hm] at pc hle hd1 hd8;generalize S.busy no=out at HS ⊢;clear h hk hp hv hc hm;go_enter Tryz.func87,Tryz.ntmps87;go_wp2_with fail;refine HNn.out.mono ?_;rintro e w1 ⟨rfl,rfl⟩;by_cases hcap:cap=1
 ·obtain rfl:m=0:=by omega
  subst hcap;have HO:=Lib.hid (show out=false by rw [HS.out,List.drop_of_length_le (by rw [HM.out];exact Nat.le_refl _)];rfl);go_wp2_with fail
  go_loopw [15] (fun t15 wr=>t15=.int .i64 0∧wr=w) (fun _ _=>0)
  case atStart=>exact ⟨rfl,rfl⟩
  case round=>
   obtain⟨rfl,rfl⟩:=hrel;go_wp2_with fail;go_ret;rw [HO.out];exact⟨rfl,Below.refl _ _⟩
 ·have hcap1:¬ (cap:Int)=1:=by omega
  go_wp2_with fail
  go_loopw [15] (fun t15 wr=>∃ (k:Nat),k≤m∧t15=.int .i64 k∧out=(S.ds.drop (k+1)).any (fun d=>S.within d.over no)∧Below w.heap.size w wr) (fun t15 _=>m - (intOf t15).toNat)
  case atStart=>exact ⟨0,Nat.zero_le _,rfl,HS.out,Below.refl _ _⟩
  case round=>
   obtain⟨k,hk2,rfl,hE,hbw⟩:=hrel;have HE:=Lib.hid hE;have HBw:=Lib.hid hbw;clear hE;by_cases hlt:k<m
   ·have hkl:k+1<S.ds.length:=by rw [HM.out];omega
    obtain⟨c0,c1,c2,c3,c4,c5⟩:=HC.out (k+1) hkl;rw [←hbw.cell (p:=⟨g,(k+1)*6,none⟩) hgl,show (k+1)*6=6+k*6 by omega] at c0;rw [←hbw.cell (p:=⟨g,(k+1)*6+1,none⟩) hgl,show (k+1)*6=6+k*6 by omega] at c1;rw [←hbw.cell (p:=⟨g,(k+1)*6+2,none⟩) hgl,show (k+1)*6=6+k*6 by omega] at c2;rw [←hbw.cell (p:=⟨g,(k+1)*6+3,none⟩) hgl,show (k+1)*6=6+k*6 by omega] at c3;rw [←hbw.cell (p:=⟨g,(k+1)*6+4,none⟩) hgl,show (k+1)*6=6+k*6 by omega] at c4;rw [←hbw.cell (p:=⟨g,(k+1)*6+5,none⟩) hgl,show (k+1)*6=6+k*6 by omega] at c5;have HE2:=Lib.hid (HE.out.trans (HD.out (k+1) hkl));have HAx:=Lib.hid (fun w1 hb1=>HA.out w1 hb1 S.ds[k+1].over);generalize S.ds[k+1]=v at c0 c1 c2 c3 c4 c5 HE2 HAx;have hbX:=balloc hbw (.cells #[.int .i64 v.root,.int .i64 v.over,.int .i64 v.b,.int .i64 v.n,.int .i64 v.mb,.int .i64 v.mn] 243);have hX:=Blk.new wr #[.int .i64 v.root,.int .i64 v.over,.int .i64 v.b,.int .i64 v.n,.int .i64 v.mb,.int .i64 v.mn] 243;clear hbw hkl;go_upto_region 6 with fail;generalize wr.alloc (.cells #[.int .i64 v.root,.int .i64 v.over,.int .i64 v.b,.int .i64 v.n,.int .i64 v.mb,.int .i64 v.mn] 243)=X at hbX hX ⊢;obtain⟨xc,xf,xz⟩:=hX.facts;have HAy:=Lib.hid (HAx.out X hbX);have HBX:=Lib.hid hbX;clear hbX hX c0 c1 c2 c3 c4 c5 HAx
    cases hwn:S.within v.over no with
    | true=>
     rw [hwn] at HE2 HAy;have HO:=Lib.hid (show out=true from HE2.out);go_wp2_with fail;refine HAy.out.mono ?_;rintro e w1 ⟨rfl,hb1⟩;have HB1:=Lib.hid (bnext HBX.out hb1);clear hb1;go_wp2_with fail;go_ret;rw [HO.out];exact⟨rfl,HB1.out⟩
    | false=>
     rw [hwn] at HE2 HAy;have HO:=Lib.hid (show out=(S.ds.drop (k+1+1)).any (fun d=>S.within d.over no) by rw [HE2.out];rfl);go_wp2_with fail;refine HAy.out.mono ?_;rintro e w1 ⟨rfl,hb1⟩;have HB1:=Lib.hid (bnext HBX.out hb1);clear hb1;go_wp2_with fail;go_roundw
     case rel=>exact ⟨k+1,by omega,by go_num,HO.out,HB1.out⟩
     case measure=>simp [intOf];omega
   ·obtain rfl:k=m:=by omega
    have HO:=Lib.hid (show out=false by rw [HE.out,←HM.out,List.drop_length];rfl);clear hbw;go_wp2_with fail;go_ret;rw [HO.out];exact⟨rfl,HBw.out⟩
def useV (S:Fs) (d:Int):Value:=match S.dev d with
 | some v=>.agg #[.int .i64 v.b,.int .i64 v.n,.int .i64 v.mb,.int .i64 v.mn]
 | none=>.agg #[.int .i64 0,.int .i64 0,.int .i64 0,.int .i64 0]
theorem dev_out {S:Fs} {d:Int} (h:¬ (1≤d∧d≤S.ds.length)):S.dev d=none∧S.root d=0:=by
 refine ⟨?_,by unfold Fs.root;rw [if_neg h]⟩;unfold Fs.dev
 split
 ·rename_i h1;rw [List.getElem?_eq_none];have:¬ d≤S.ds.length:=fun h2=>h ⟨h1,h2⟩;omega
 ·rfl
theorem dev_in {S:Fs} {N:Nat} (hk:FsOk S N) {k:Nat} (hkl:k<S.ds.length):S.dev ((k:Int)+1)=some S.ds[k]∧S.root ((k:Int)+1)=S.ds[k].root∧S.ds[k].root≠0:=by
 refine ⟨?_,?_,?_⟩
 ·unfold Fs.dev;rw [if_pos (by omega),show ((k:Int)+1 - 1).toNat=k by omega,List.getElem?_eq_getElem hkl]
 ·unfold Fs.root;rw [if_pos ⟨by omega,by omega⟩,show ((k:Int)+1 - 1).toNat=k by omega,List.getElem?_eq_getElem hkl]
 ·have:=(hk.root S.ds[k] (List.getElem_mem hkl)).1;omega
theorem use_results {tmps:Array Value} {W:World} {B:Nat} {b n mb mn:Int} (hb:Blk W B #[.int .i64 b,.int .i64 n,.int .i64 mb,.int .i64 mn] 168)
  (h4:tmps.getD 4 undef=.pointer (some ⟨B,0,none⟩)):(results Tryz.f230 tmps).run Tryz.prog W=.ok (.agg #[.int .i64 b,.int .i64 n,.int .i64 mb,.int .i64 mn]) W:=by
 have q0:=hb.cell 0;have q1:=hb.cell 1;have q2:=hb.cell 2;have q3:=hb.cell 3;rw [Array.getD_eq_getD_getElem?] at h4;simp only [List.getElem?_toArray,List.getElem?_cons_zero,List.getElem?_cons_succ] at q0 q1 q2 q3;simp [results,Tryz.results230,go_sem,h4,q0,q1,q2,q3]
theorem wuse_any (h:WdAt w pw R S) {N:Nat} (hk:FsOk S N) (d:Int) :
  Calls Tryz.prog 230 #[.pointer (some ⟨pw,0,none⟩),.int .i64 d] w fun e w'=>e=.returned (useV S d)∧Below w.heap.size w w':=by
 have mixed:Tryz.prog.follows .mixedOrders=true:=by kernel_rfl
 have hb0:=balloc (Below.refl w.heap.size w) (.cells #[.int .i64 0,.int .i64 0,.int .i64 0,.int .i64 0] 168);have HRo:=Lib.hid (wroot_any (h.keep hb0) hk.d1 d);by_cases hd:1≤d∧d≤S.ds.length
 ·obtain ⟨g,cap,hv,hle,h63,hgl,hc,-,-⟩:=h.devF hk.d1;obtain⟨pc,-,pz⟩:=h.blk.facts;rw [hv] at pc;obtain⟨k,rfl⟩:∃ k:Nat,d=(k:Int)+1:=⟨(d - 1).toNat,by omega⟩;have hkl:k<S.ds.length:=by omega
  obtain⟨h1,h2,h3⟩:=dev_in hk hkl;obtain⟨c0,c1,c2,c3,c4,c5⟩:=hc k hkl;have hu:useV S ((k:Int)+1)=.agg #[.int .i64 S.ds[k].b,.int .i64 S.ds[k].n,.int .i64 S.ds[k].mb,.int .i64 S.ds[k].mn]:=by unfold useV;rw [h1]
  have hq:(S.ds[k].root == 0)=false:=by simpa using h3
  rw [h2] at HRo;rw [hu];have hkl2:k<S.ds.length:=hkl;generalize S.ds[k]=v at c0 c1 c2 c3 c4 c5 hq HRo ⊢;generalize S.ds.length=m at pc hle hkl2;have c2':=(hb0.cell (p:=⟨g,k*6+2,none⟩) hgl).trans c2;have c3':=(hb0.cell (p:=⟨g,k*6+3,none⟩) hgl).trans c3;have c4':=(hb0.cell (p:=⟨g,k*6+4,none⟩) hgl).trans c4;have c5':=(hb0.cell (p:=⟨g,k*6+5,none⟩) hgl).trans c5;have pc2:=fun i=>(hb0.cell (p:=⟨pw,i,none⟩) pz).trans (pc i);have hX:=Blk.new w #[.int .i64 0,.int .i64 0,.int .i64 0,.int .i64 0] 168;clear h hk hd hv hc hkl h1 h2 h3 hu pc c0 c1 c2 c3 c4 c5;go_enter Tryz.func230,Tryz.ntmps230;go_upto_region 1 with fail;generalize w.alloc (.cells #[.int .i64 0,.int .i64 0,.int .i64 0,.int .i64 0] 168)=X at hb0 HRo c2' c3' c4' c5' pc2 hX ⊢;obtain⟨xc,xf,xz⟩:=hX.facts;have HB:=Lib.hid hb0;have HX:=Lib.hid hX;clear hb0 hX;go_wp2_with fail;refine HRo.out.mono ?_;rintro e w1 ⟨rfl,rfl⟩;go_wp2_with fail;exact bodyPost_ret (use_results HX.out.set4 rfl) rfl ⟨rfl,below_set4 HB.out (Nat.le_refl _)⟩
 ·obtain ⟨h1,h2⟩:=dev_out hd;have hu:useV S d=.agg #[.int .i64 0,.int .i64 0,.int .i64 0,.int .i64 0]:=by unfold useV;rw [h1]
  rw [h2] at HRo;rw [hu];have hX:=Blk.new w #[.int .i64 0,.int .i64 0,.int .i64 0,.int .i64 0] 168;clear h hk hd h1 h2 hu;go_enter Tryz.func230,Tryz.ntmps230;go_upto_region 1 with fail;generalize w.alloc (.cells #[.int .i64 0,.int .i64 0,.int .i64 0,.int .i64 0] 168)=X at hb0 HRo hX ⊢;obtain⟨xc,xf,xz⟩:=hX.facts;have HB:=Lib.hid hb0;have HX:=Lib.hid hX;clear hb0 hX;go_wp2_with fail;refine HRo.out.mono ?_;rintro e w1 ⟨rfl,rfl⟩;go_wp2_with fail;exact bodyPost_ret (use_results HX.out.set4 rfl) rfl ⟨rfl,below_set4 HB.out (Nat.le_refl _)⟩
end
end
section
open Go.RowKit
def BldK (b:Nat) (l:List UInt8) (w:World):Prop:=Lib.IsBuilderF 248 5 b b (Lib.byteCells l) w
theorem BldK.of {b:Nat} {l:List UInt8} {w:World} (h:Bld b l w):BldK b l w:=Lib.IsBuilderF.of h
theorem BldK.lt {b:Nat} {l:List UInt8} {w:World} (h:BldK b l w):b<w.heap.size:=by
 rcases h with h | h <;> exact h.lt
abbrev Oth (b:Nat) (w w':World):Prop:=Lib.OthersKept 5 (some b) w w'
theorem wsK_any (b:Nat) (l:List UInt8) (s:ByteArray) (w:World) (h:BldK b l w) (hl:l.length≤1000000000) (hm:s.size≤1000000000) :
  Calls Tryz.prog 152 #[.pointer (some ⟨b,0,none⟩),.string s] w fun e w'=>e=.returned (.tuple #[.int .i64 s.size,.nilIface])∧BldK b (l ++ s.data.toList) w'∧Below b w w'∧Oth b w w':=by
 refine (Any.Builder_WriteString_k Tryz.lays166 Tryz.Builder_Extra_166 b b (Lib.byteCells l) s w h (by rw [byteCells_len];omega) (Nat.le_of_lt h.lt)).mono ?_;rintro e w' ⟨rfl,h1,h2,h3⟩;refine ⟨rfl,.inr ?_,h2,h3⟩;have:Lib.byteCells (l ++ s.data.toList)=Lib.byteCells l ++ Lib.strCells s:=by simp [Lib.byteCells,Lib.strCells]
 rw [this];exact h1
theorem bsK_any (b:Nat) (l:List UInt8) (w:World) (h:BldK b l w) (h0:l≠[]) :
  Calls Tryz.prog 154 #[.pointer (some ⟨b,0,none⟩)] w fun e w'=>e=.returned (.string (str l))∧Below b w w':=by
 refine (Any.Builder_String_k Tryz.lays169 Tryz.Builder_Extra_169 b b l w h h0).mono ?_;rintro e w' ⟨rfl,-,h2,-⟩;exact⟨rfl,h2⟩
end
section
open Go.RowKit
instance lawfulBA:LawfulBEq ByteArray where
 eq_of_beq {a b} h:=by
  obtain⟨a⟩:=a;obtain⟨b⟩:=b;have h2:(a == b)=true:=h;rw [eq_of_beq h2]
 rfl {a}:=by
  obtain⟨a⟩:=a;show (a == a)=true;simp
def entS (x:ByteArray×Value×Nat):MapEntry:={key:=.string x.1,val:=x.2.1,born:=x.2.2}
def MapBS (w:World) (m:Nat) (l:List (ByteArray×Value×Nat)) (clk:Nat):Prop:=w.heap[m]? = some (.map (l.map entS).toArray clk)
def KeysOnceS (l:List (ByteArray×Value×Nat)):Prop:=(l.map (·.1)).Nodup
def mapFindS (l:List (ByteArray×Value×Nat)) (k:ByteArray):Option Value:=(l.find? (fun x=>x.1 == k)).map (·.2.1)
def mapPutS (l:List (ByteArray×Value×Nat)) (k:ByteArray) (v:Value):List (ByteArray×Value×Nat):=l.map fun x=>if x.1 == k then (k,v,x.2.2) else x
def mapDelS (l:List (ByteArray×Value×Nat)) (k:ByteArray):List (ByteArray×Value×Nat):=l.filter fun x=>!(x.1 == k)
section
variable {P:Program} {K E T:TypeId} {w:World} {m:Nat} {l:List (ByteArray×Value×Nat)} {clk:Nat}
end
end
section
open Go.RowKit
def ddB:List UInt8:=[46,46]
def clS (whole:Bool) (out:List (List UInt8)) (p:List UInt8):List (List UInt8):=
 if p≠ddB then out ++ [p] else if out≠[]∧out.getLast?≠some ddB then out.dropLast else if whole then out else out ++ [p]
def clL (whole:Bool) (l:List (List UInt8)):List (List UInt8):=l.foldl (clS whole) []
def wholeB (s:List UInt8):Bool:=s.head? == some 47
def cleanL (s:List UInt8):List UInt8:=
 if wholeB s then 47 :: Lib.join (clL true (partsL s)) [47] else if Lib.join (clL false (partsL s)) [47]=[] then [46] else Lib.join (clL false (partsL s)) [47]
def cleanB (s:ByteArray):ByteArray:=str (cleanL s.data.toList)
def onceL (l:List ByteArray):List ByteArray:=l.foldl (fun out p=>if p∈out then out else out ++ [p]) []
end
section
open Go.RowKit
theorem filter_snoc_yes {α:Type} {p:α→Bool} (l:List α) (k:Nat) (hk:k<l.length) (h:p l[k]=true):(l.take (k+1)).filter p=(l.take k).filter p ++ [l[k]]:=by
 rw [List.take_succ_eq_append_getElem hk,List.filter_append];simp [h]
theorem filter_snoc_no {α:Type} {p:α→Bool} (l:List α) (k:Nat) (hk:k<l.length) (h:p l[k]=false):(l.take (k+1)).filter p=(l.take k).filter p:=by
 rw [List.take_succ_eq_append_getElem hk,List.filter_append];simp [h]
theorem OS.len {w:World} {base:Nat} {v:Value} {ls:List (List UInt8)} (h:OS w base v ls):∃ a c,v=.slice a ls.length c∧ls.length≤c∧c≤9223372036854775807:=by
 obtain⟨a,c,h1,h2,h3,-⟩:=own_form h;exact⟨a,c,h1,h2,h3⟩
theorem OS.keep2 {w w':World} {base:Nat} {v:Value} {ls:List (List UInt8)} (h:OS w base v ls) (hb:Below w.heap.size w w'):OS w' base v ls:=own_below h hb (Nat.le_refl _)
theorem OS.at' {w:World} {base c:Nat} {a:Option Addr} {ls:List (List UInt8)} (h:OS w base (.slice a ls.length c) ls) (k:Nat) (hk:k<ls.length):∃ g,a=some ⟨g,0,none⟩∧g<w.heap.size∧w.cell? ⟨g,k,none⟩=some (.string (str ls[k])):=by
 obtain⟨a',c',hv,-,-,h1⟩:=own_form h;injection hv with e1 e2 e3;subst e1;subst e3;rcases h1 with ⟨-,h2,-⟩|⟨g,rfl,-,h3⟩
 ·omega
 ·exact ⟨g,rfl,h3,h.cell k hk⟩
theorem OS.low2 {w:World} {base base':Nat} {v:Value} {ls:List (List UInt8)} (h:OS w base v ls) (hb:base'≤base):OS w base' v ls:=
 ⟨h.1,h.2.imp id fun ⟨g,cap,cur,hv,hg,rest⟩=>⟨g,cap,cur,hv,Nat.le_trans hb hg,rest⟩⟩
def saysB (p:List UInt8):Bool:=!(p == []) && !(p == [46])
theorem rparts_any (s:ByteArray) (w:World) (hs:s.size≤100000) :
  Calls Tryz.prog 222 #[.string s] w fun e w'=>(∃ v,e=.returned v∧OS w' w.heap.size v (partsL s.data.toList))∧Below w.heap.size w w':=by
 have HPc:=Lib.hid (pieces_any s w hs);have HDef:=Lib.hid (show partsL s.data.toList=(spl 47 s.data.toList).filter saysB from rfl);have hlen:(spl 47 s.data.toList).length≤100001:=by
  have h1:=(spl_len 47 s.data.toList).2;have h2:s.data.toList.length=s.size:=Array.length_toList;omega
 generalize partsL s.data.toList=R at HDef ⊢;generalize spl 47 s.data.toList=ls at HPc HDef hlen;go_enter Tryz.func222,Tryz.ntmps222;go_wp2_with fail;refine HPc.out.mono ?_;rintro e w1 ⟨⟨g,cap,rfl,hO⟩,hb1⟩;have HO:=Lib.hid hO;have HB:=Lib.hid hb1;have hw1:=hb1.size;clear hO hb1;go_wp2_with fail
 go_loopw [3,5] (fun t3 t5 wr=>∃ (k:Nat),k≤ls.length∧t5=.int .i64 k∧OS wr w1.heap.size t3 ((ls.take k).filter saysB)∧Below w1.heap.size w1 wr) (fun _ t5 _=>ls.length - (intOf t5).toNat)
 case atStart=>exact ⟨0,Nat.zero_le _,rfl,⟨rfl,.inl ⟨rfl,rfl⟩⟩,Below.refl _ _⟩
 case round=>
  obtain⟨k,hk,rfl,hO1,hW⟩:=hrel;have HO1:=Lib.hid hO1;have HW:=Lib.hid hW;by_cases hlt:k<ls.length
  ·obtain ⟨g',hg',hgl,hcl⟩:=(HO.out.keep2 hW).at' k hlt;injection hg' with hg';injection hg' with e1;subst e1;have HYes:=Lib.hid (filter_snoc_yes (p:=saysB) ls k hlt);have HNo:=Lib.hid (filter_snoc_no (p:=saysB) ls k hlt);have hfl:((ls.take k).filter saysB).length≤1000000:=by
    have h1:=List.length_filter_le saysB (ls.take k);have h2:(ls.take k).length≤ls.length:=by rw [List.length_take];omega
    omega
   obtain⟨g2,cap2,W,hrun,hO2,hB2⟩:=hO1.app ls[k] hfl hW.size;have HX:=Lib.hid (And.intro hO2 hB2);have HTx:=Lib.hid (ba_list (str ls[k]));rw [str_list] at HTx;generalize ls[k]=x at hcl HYes HNo hrun HX HTx;generalize str x=p at hcl hrun HTx;clear hO1 hW hO2 hB2 hfl;by_cases h1:p.toList=[]
   ·have HN:=Lib.hid (HNo.out (by rw [←HTx.out,h1];rfl));clear hrun;go_wp2_with fail;go_roundw
    case measure=>simp [intOf];omega
    case rel=>exact ⟨k+1,by omega,by go_num,by rw [HN.out];exact HO1.out,HW.out⟩
   ·by_cases h2:p.toList=[46]
    ·have HN:=Lib.hid (HNo.out (by rw [←HTx.out,h2];rfl));clear hrun;go_wp2_with fail;go_roundw
     case measure=>simp [intOf];omega
     case rel=>exact ⟨k+1,by omega,by go_num,by rw [HN.out];exact HO1.out,HW.out⟩
    ·have HY:=Lib.hid (HYes.out (by rw [←HTx.out];unfold saysB;simp [h1,h2]));have hp1:p.toList.isEmpty=false:=by simpa using h1
     have hp2:(p.toList == [46])=false:=by simpa using h2
     have HR:=Lib.hid hrun;clear h1 h2 hrun;go_wp2_with (at_builtin;refine wpList_app_run rfl rfl rfl rfl HR.out ?_);go_roundw
     case measure=>simp [intOf];omega
     case rel=>exact ⟨k+1,by omega,by go_num,by rw [HY.out];exact HX.out.1,HW.out.trans HX.out.2⟩
  ·obtain rfl:k=ls.length:=by omega
   rw [List.take_length,←HDef.out] at HO1;clear hO1 hW;go_wp2_with fail;go_ret;exact⟨⟨_,rfl,HO1.out.low2 hw1⟩,bnext HB.out HW.out⟩
end
section
open Go.RowKit
theorem blenK_any (b:Nat) (l:List UInt8) (w:World) (h:BldK b l w) :
  Calls Tryz.prog 153 #[.pointer (some ⟨b,0,none⟩)] w fun e w'=>e=.returned (.int .i64 l.length)∧w'=w:=by
 refine (Tryz.Builder_Len_f b b (Lib.byteCells l) w h).mono ?_;rintro e w' ⟨rfl,rfl⟩;exact⟨by rw [byteCells_len],rfl⟩
theorem catL_cons (x:List UInt8) (l:List (List UInt8)):catL (x :: l)=catL l ++ (47 :: x):=by simp [catL]
section
variable {w w':World} {pw:Nat} {R:Rp} {S:Fs}
theorem wget_u (h:WdAt w pw R S) (k:Int):∃ a ea el ec b,EntsAt w ea el ec a.ents∧a.ents=S.entsOf k∧(S.get k=some a∧b=true∨(S.get k=none∧a=an0∧b=false))∧
  ∀ w1,Below w.heap.size w w1→Calls Tryz.prog 98 #[.pointer (some ⟨R.pt,0,none⟩),.int .i64 k] w1 fun e w'=>e=.returned (.tuple #[.agg #[.int .i64 a.no,.int .i64 a.dev,.int .i64 a.kind,.int .i64 a.mode,.int .i64 a.uid,.int .i64 a.gid,.int .i64 a.mtime,.int .i64 a.ctime,.int .i64 a.links,.int .i64 a.up,.string a.data,.slice ea el ec],.bool b])∧Below w1.heap.size w1 w':=by
 cases hg:S.get k with
 | none=>exact ⟨an0,none,0,0,false,EntsAt.nil w,by unfold Fs.entsOf;rw [hg];rfl,.inr ⟨rfl,rfl,rfl⟩,fun w1 hb=>wget_no (h.keep hb) hg⟩
 | some a=>
  obtain⟨ea,el,ec,he,hc⟩:=wget_fix h hg;exact⟨a,ea,el,ec,true,he,by unfold Fs.entsOf;rw [hg],.inl ⟨rfl,rfl⟩,hc⟩
theorem child_w {N:Nat} (hk:FsOk S N) (hp:Pl S) {x:Int} (hu:S.above x≠x) {a:An} {b:Bool} (h:S.get x=some a∧b=true∨(S.get x=none∧a=an0∧b=false)) :
  (S.root a.dev≠x→S.child x=x)∧(S.root a.dev=x→∃ (k:Nat) (hkl:k<S.ds.length),a.dev=(k:Int)+1∧S.child x=S.ds[k].over):=by
 rcases h with ⟨h,-⟩|⟨h,rfl,-⟩
 ·refine ⟨fun hr=>child_same h hr,fun hr=>?_⟩;have h1:x≠1:=by
   rintro rfl;exact hu (above_one hk hp)
  obtain⟨hd1,v,hv,hc⟩:=child_over hk hp h hr h1;have hd2:=(hk.get h).1.dev.2;have hkl:(a.dev - 1).toNat<S.ds.length:=by omega
  refine ⟨(a.dev - 1).toNat,hkl,by omega,?_⟩;rw [hc];unfold Fs.dev at hv;rw [if_pos (by omega),List.getElem?_eq_getElem hkl] at hv;injection hv with hv;rw [hv]
 ·refine ⟨fun _=>child_none h,fun hr=>?_⟩;exfalso;have h0:S.root an0.dev=0:=by unfold Fs.root;rw [if_neg (fun h=>absurd h.1 (by decide))]
  rw [h0] at hr;rw [←hr,above_zero hk] at hu;exact hu rfl
theorem ents_some {x:Int} {nm:ByteArray} {c:Int} (h:entName (S.entsOf x) c=some nm) {a:An} {b:Bool} (hg:S.get x=some a∧b=true∨(S.get x=none∧a=an0∧b=false)):b=true:=by
 rcases hg with ⟨-,h⟩|⟨hg,-⟩
 ·exact h
 ·unfold Fs.entsOf at h;rw [hg] at h
  cases h
theorem up_less {N:Nat} (hk:FsOk S N) (hp:Pl S) {x c:Int} {nm:ByteArray} (hu:S.above x≠x) (h:entName (S.entsOf (S.above x)) c=some nm):(S.above x).toNat<x.toNat:=by
 rcases above_step hk hp hu with h0 | ⟨h1,h2,-,-⟩
 ·rw [h0,ents_zero hk] at h
  cases h
 ·omega
theorem wwhere_any (h:WdAt w pw R S) {N:Nat} (hk:FsOk S N) (hp:Pl S) (hl:S.ns.length≤100000) (no:Int) :
  Calls Tryz.prog 78 #[.pointer (some ⟨pw,0,none⟩),.int .i64 no] w fun e w'=>e=.returned (whereV (S.place_ no))∧Below w.heap.size w w':=by
 have HNn:=Lib.hid (wnone_any h hk.d1);obtain⟨g,cap,hv,hle,h63,hgl,hcd,-,-⟩:=h.devF hk.d1;have hd1:=hk.d1;have hd8:=hk.d8;have HA:=Lib.hid (fun w1 (hb1:Below w.heap.size w w1) x=>wabove_any (h.keep hb1) hk x);have HRo:=Lib.hid (fun w1 (hb1:Below w.heap.size w w1) x=>wroot_any (h.keep hb1) hk.d1 x);have HG:=Lib.hid (fun w1 (hb1:Below w.heap.size w w1) x=>wget_u (h.keep hb1) x);have HStart:=Lib.hid (WhSt.start hp no);have hb:=h.blk;rw [hv] at hb;have HB:=Lib.hid hb;have HC:=Lib.hid (fun k (hk:k<S.ds.length)=>(hcd k hk).c1);have HK:=Lib.hid (And.intro hk hp);have HL:=Lib.hid hl;obtain⟨m,hm⟩:∃ m,S.ds.length=m:=⟨_,rfl⟩;have HM:=Lib.hid hm;rw [hm] at HB hle hd1 hd8;have mixed:Tryz.prog.follows .mixedOrders=true:=by kernel_rfl
 have hm0:(0:Int)<(m:Int):=by omega
 clear h hk hp hv hb hcd hm hl;go_enter Tryz.func78,Tryz.ntmps78;go_wp2_with fail;refine HNn.out.mono ?_;rintro e w1 ⟨rfl,rfl⟩;go_wp2_with fail;refine (HA.out w (Below.refl _ _) no).mono ?_;rintro e w1 ⟨rfl,hb1⟩;have HB1:=Lib.hid hb1;clear hb1;go_wp2_with fail
 go_loopw [1,6,7] (fun t1 t6 t7 wr=>∃ (x:Int) (l:List (List UInt8)),t1=.int .i64 x∧t7=.int .i64 (S.above x)∧OS wr w.heap.size t6 l∧WhSt S no x l∧Below w.heap.size w wr) (fun t1 _ _ _=>(intOf t1).toNat)
 case atStart=>exact ⟨no,[],rfl,rfl,OS.nil _ _,HStart.out,HB1.out⟩
 case round=>
  obtain⟨x,l,rfl,rfl,hO,hW,hbw⟩:=hrel;obtain⟨la,lc,rfl,hlc1,hlc2⟩:=hO.len;have HO:=Lib.hid hO;have HW:=Lib.hid hW;have HBw:=Lib.hid hbw;have hlen:l.length≤100000:=Nat.le_trans hW.few HL.out;obtain⟨bc,bf,bz⟩:=(HB.out.keep hbw).facts;clear hO hW;by_cases hx:S.above x=x
  ·have px:(S.above x != x)=false:=by simpa using hx
   have HX:=Lib.hid hx;have HTop:=Lib.hid (fun (h1:x=1)=>(show WhSt S no 1 l from h1 ▸ HW.out).top HK.out.1 HK.out.2);have HOther:=Lib.hid (fun (h1:x≠1)=>HW.out.other HK.out.1 HK.out.2 HX.out h1);have HSm:=Lib.hid HW.out.small;generalize S.above x=ab at px ⊢;obtain⟨w0,hw0⟩:∃ w0,w0=wr:=⟨_,rfl⟩;subst hw0;have hK0:=BldK.of (Bld.new w0);have hbX:=(Below.refl w0.heap.size w0).alloc (Nat.le_refl _) (.cells #[.pointer none,.slice none 0 0] 248);clear hx hbw bc bf bz;go_upto_region 17 with fail;generalize w0.alloc (.cells #[.pointer none,.slice none 0 0] 248)=X at hK0 hbX ⊢;have HK0:=Lib.hid hK0;have HBX:=Lib.hid hbX;clear hK0 hbX;go_wp2_with fail
   go_loopw [15] (fun t15 w3=>∃ i:Int,-1≤i∧i<l.length∧t15=.int .i64 i∧BldK w0.heap.size (catL (l.drop (i+1).toNat)) w3∧Below w0.heap.size w0 w3) (fun t15 _=>(intOf t15+1).toNat)
   case atStart=>exact ⟨(l.length:Int) - 1,by omega,by omega,by go_num,by rw [show ((l.length:Int) - 1+1).toNat=l.length by omega,List.drop_length];exact HK0.out,HBX.out⟩
   case round=>
    obtain⟨i,hi1,hi2,rfl,hB3,hb3⟩:=hrel;have HB3:=Lib.hid hB3;have Hb3:=Lib.hid hb3;clear hB3 hb3;by_cases h0:0≤i
    ·obtain ⟨j,rfl⟩:=Int.eq_ofNat_of_zero_le h0;have hjl:j<l.length:=by omega
     have hge:(0:Int)≤(j:Int):=h0;have hO3:OS wr w.heap.size (.slice la l.length lc) l:=own_below HO.out Hb3.out (Nat.le_refl _);obtain⟨g3,rfl,hg3,hcl⟩:=hO3.at' j hjl;have hsm:=HSm.out l[j] (List.getElem_mem hjl);have HQ:=Lib.hid (show catL (l.drop ((j:Int) - 1+1).toNat)=catL (l.drop ((j:Int)+1).toNat) ++ (47 :: l[j]) by
      rw [show ((j:Int) - 1+1).toNat=j by omega,show ((j:Int)+1).toNat=j+1 by omega,List.drop_eq_getElem_cons hjl,catL_cons])
     have hcl2:(catL (l.drop ((j:Int)+1).toNat)).length≤1000000000:=by
      have h1:=catL_len (l:=l.drop ((j:Int)+1).toNat) (fun x hx=>HSm.out x (List.mem_of_mem_drop hx));have h2:(l.drop ((j:Int)+1).toNat).length≤l.length:=by rw [List.length_drop];omega
      omega
     have hqs:=str_size l[j];have HSt:=Lib.hid (show (ByteArray.mk #[47] ++ str l[j]).data.toList=47 :: l[j] by
      rw [show ByteArray.mk #[47]=str [47] from rfl,str_append,str_list];rfl)
     have hss:(ByteArray.mk #[47] ++ str l[j]).size≤1000000000:=by
      rw [ByteArray.size_append];show 1+(str l[j]).size≤_;omega
     have HWs:=Lib.hid (wsK_any w0.heap.size (catL (l.drop ((j:Int)+1).toNat)) (ByteArray.mk #[47] ++ str l[j]) wr HB3.out hcl2 hss);rw [HSt.out,←HQ.out] at HWs;have hs0:¬ 9223372036854775807<1+(str l[j]).size:=by omega
     generalize str l[j]=q at hcl HWs hs0;clear h0 hO3 hsm HQ hcl2 hqs HSt hss;go_wp2_with fail;refine HWs.out.mono ?_;rintro e w5 ⟨rfl,hB5,hb5,-⟩;have HB5:=Lib.hid hB5;have Hb5:=Lib.hid (Hb3.out.trans hb5);clear hB5 hb5;go_wp2_with fail;go_roundw
     case measure=>simp [intOf]
     case rel=>exact ⟨(j:Int) - 1,by omega,by omega,by go_num,HB5.out,Hb5.out⟩
    ·obtain rfl:i=-1:=by omega
     rw [show ((-1:Int)+1).toNat=0 from rfl,List.drop_zero] at HB3;have Hbb:=Lib.hid (HBw.out.trans (Hb3.out.mono HBw.out.size));clear h0 hi1 hi2;by_cases h1:x=1
     ·have p1:(x != 1)=false:=by simpa using h1
      have HO2:=Lib.hid (HTop.out h1);have HLn:=Lib.hid (blenK_any w0.heap.size (catL l) wr HB3.out);clear h1;by_cases hl0:l=[]
      ·rw [if_pos hl0] at HO2;have hz:(((catL l).length:Int) == 0)=true:=by rw [hl0];rfl
       generalize ((catL l).length:Int)=ln at hz HLn;clear hl0;go_wp2_with fail;refine HLn.out.mono ?_;rintro e w6 ⟨rfl,rfl⟩;go_wp2_with fail;go_ret2;rw [HO2.out];exact⟨rfl,Hbb.out⟩
      ·rw [if_neg hl0] at HO2;have hne:catL l≠[]:=fun h=>hl0 ((catL_nil l).1 h);have hz:(((catL l).length:Int) == 0)=false:=by
        simp only [beq_eq_false_iff_ne,ne_eq];intro h;exact hne (List.eq_nil_of_length_eq_zero (by omega))
       have HSs:=Lib.hid (bsK_any w0.heap.size (catL l) wr HB3.out hne);generalize ((catL l).length:Int)=ln at hz HLn;generalize str (catL l)=z at HSs HO2;clear hl0 hne;go_wp2_with fail;refine HLn.out.mono ?_;rintro e w6 ⟨rfl,rfl⟩;go_wp2_with fail;refine HSs.out.mono ?_;rintro e w7 ⟨rfl,hb7⟩;have Hb7:=Lib.hid (Hbb.out.trans (hb7.mono HBw.out.size));clear hb7;go_wp2_with fail;go_ret2;rw [HO2.out];exact⟨rfl,Hb7.out⟩
     ·have p1:(x != 1)=true:=by simpa using h1
      have HO2:=Lib.hid (HOther.out h1);clear h1;go_wp2_with fail;go_ret2;rw [HO2.out];exact⟨rfl,Hbb.out⟩
  ·have px:(S.above x != x)=true:=by simpa using hx
   have HX:=Lib.hid hx;obtain⟨up,hup⟩:∃ y,S.above x=y:=⟨_,rfl⟩;have HUp:=Lib.hid hup;rw [hup] at px ⊢;obtain⟨a,ea,el,ec,ab,-,-,hga,hcg⟩:=HG.out wr hbw x;have HCg:=Lib.hid (hcg wr (Below.refl _ _));have HCh:=Lib.hid (child_w HK.out.1 HK.out.2 hx hga);clear hcg hga hx hup;go_wp2_with fail;refine HCg.out.mono ?_;rintro e w2 ⟨rfl,hb2⟩;have hbX:=balloc (bnext HBw.out hb2) (.cells #[.int .i64 a.no,.int .i64 a.dev,.int .i64 a.kind,.int .i64 a.mode,.int .i64 a.uid,.int .i64 a.gid,.int .i64 a.mtime,.int .i64 a.ctime,.int .i64 a.links,.int .i64 a.up,.string a.data,.slice ea el ec] 109);have hb3:=balloc hb2 (.cells #[.int .i64 a.no,.int .i64 a.dev,.int .i64 a.kind,.int .i64 a.mode,.int .i64 a.uid,.int .i64 a.gid,.int .i64 a.mtime,.int .i64 a.ctime,.int .i64 a.links,.int .i64 a.up,.string a.data,.slice ea el ec] 109);have hX:=Blk.new w2 #[.int .i64 a.no,.int .i64 a.dev,.int .i64 a.kind,.int .i64 a.mode,.int .i64 a.uid,.int .i64 a.gid,.int .i64 a.mtime,.int .i64 a.ctime,.int .i64 a.links,.int .i64 a.up,.string a.data,.slice ea el ec] 109;clear hb2 HCg bc bf bz hbw;go_upto_region 8 with fail;generalize w2.alloc (.cells #[.int .i64 a.no,.int .i64 a.dev,.int .i64 a.kind,.int .i64 a.mode,.int .i64 a.uid,.int .i64 a.gid,.int .i64 a.mtime,.int .i64 a.ctime,.int .i64 a.links,.int .i64 a.up,.string a.data,.slice ea el ec] 109)=X at hbX hX hb3 ⊢;have HBX:=Lib.hid hbX;have HOX:=Lib.hid (HO.out.keep2 hb3);obtain⟨xc,xf,xz⟩:=hX.facts;obtain⟨bc,bf,bz⟩:=(HB.out.keep hbX).facts;have HRx:=Lib.hid (HRo.out X hbX a.dev);clear hb3 hX hbX HO HBw;obtain⟨ch,hch⟩:∃ y,S.child x=y:=⟨_,rfl⟩;have HChe:=Lib.hid hch;rw [hch] at HCh;clear hch
   go_cut [41] from 21 to 78 (fun t41 wx=>t41=.bool (S.root a.dev == x)∧wx=X)
   case first=>
    have hgoal:∀ z:Bool,(Value.bool z=Value.bool z∧X=X):=fun _=>⟨rfl,rfl⟩;go_wp2_with fail;refine HRx.out.mono ?_;rintro e w3 ⟨rfl,rfl⟩;go_wp2_with fail;go_meet;exact⟨rfl,rfl⟩
   case rest=>
   obtain⟨rfl,rfl⟩:=hcut
   go_step
   go_cut [1] from 21 to 78 (fun t1 wx=>t1=.int .i64 ch∧Below wc.heap.size wc wx)
   case first=>
    by_cases h3:S.root a.dev=x
    ·have q3:(S.root a.dev == x)=true:=by simpa using h3
     obtain⟨j,hjl,hj,hco⟩:=HCh.out.2 h3;have cc:=(HBX.out.cell (p:=⟨g,j*6+1,none⟩) hgl).trans (HC.out j hjl);have hj2:(j:Int)<(m:Int):=by have:=HM.out;omega
     have HO2:=Lib.hid hco;generalize S.ds[j].over=ov at cc HO2;have hgl2:g<wc.heap.size:=Nat.lt_of_lt_of_le hgl HBX.out.size;have hwr1:IntKind.i64.wrap ((j:Int)+1 - 1)=(j:Int):=by simp [IntKind.wrap,IntKind.bits,IntKind.signed];omega
     have hwr2:IntKind.i64.wrap (j:Int)=(j:Int):=by simp [IntKind.wrap,IntKind.bits,IntKind.signed];omega
     have hk0:(0:Int)≤(j:Int)∧((j:Int)).toNat=j:=by omega
     obtain⟨hk1',hk3'⟩:=hk0;generalize (S.root a.dev == x)=dd at q3 ⊢;subst q3;rw [hj] at xc;clear h3 hjl hco hj;go_wp2_with fail
     go_quiet (fail)
     go_wp2_with fail;go_meet;exact⟨by rw [HO2.out],below_drewN (Below.refl _ _) _⟩
    ·have q3:(S.root a.dev == x)=false:=by simpa using h3
     have HO2:=Lib.hid (HCh.out.1 h3);generalize (S.root a.dev == x)=dd at q3 ⊢;subst q3;clear h3;go_wp2_with fail;go_meet;exact⟨by rw [HO2.out],Below.refl _ _⟩
   case rest=>
   obtain⟨rfl,hbc⟩:=hcut;have HBc:=Lib.hid (bnext HBX.out hbc);have HOc:=Lib.hid (HOX.out.keep2 hbc);obtain⟨a2,fa,fl,fc,b2,hents,hee,hga2,hcg⟩:=HG.out wc HBc.out up;have HCg:=Lib.hid (hcg wc (Below.refl _ _));have HFail:=Lib.hid (fun hn=>HW.out.fail HK.out.1 HK.out.2 HX.out hn);have HMore:=Lib.hid (fun s hn=>HW.out.more HK.out.1 HK.out.2 HX.out (s:=s) hn);have HSome:=Lib.hid (fun nm hn=>ents_some (S:=S) (x:=up) (nm:=nm) (c:=ch) hn hga2);have HLess:=Lib.hid (fun s hn=>up_less HK.out.1 HK.out.2 (c:=ch) (nm:=s) HX.out hn);rw [HUp.out,←hee] at HLess;rw [HChe.out,HUp.out,←hee] at HFail HMore;rw [←hee] at HSome;generalize a2.ents=es at hents HFail HMore HSome HLess;have HEn:=Lib.hid hents;clear hbc hcg hents hee hga2 xc xf xz bc bf bz HBX HOX HRx;obtain⟨bc,bf,bz⟩:=(HB.out.keep HBc.out).facts;go_wp2_with fail;refine HCg.out.mono ?_;rintro e w4 ⟨rfl,hb4⟩;have hbY:=balloc (bnext HBc.out hb4) (.cells #[.int .i64 a2.no,.int .i64 a2.dev,.int .i64 a2.kind,.int .i64 a2.mode,.int .i64 a2.uid,.int .i64 a2.gid,.int .i64 a2.mtime,.int .i64 a2.ctime,.int .i64 a2.links,.int .i64 a2.up,.string a2.data,.slice fa fl fc] 109);have hb5:=balloc hb4 (.cells #[.int .i64 a2.no,.int .i64 a2.dev,.int .i64 a2.kind,.int .i64 a2.mode,.int .i64 a2.uid,.int .i64 a2.gid,.int .i64 a2.mtime,.int .i64 a2.ctime,.int .i64 a2.links,.int .i64 a2.up,.string a2.data,.slice fa fl fc] 109);have hY:=Blk.new w4 #[.int .i64 a2.no,.int .i64 a2.dev,.int .i64 a2.kind,.int .i64 a2.mode,.int .i64 a2.uid,.int .i64 a2.gid,.int .i64 a2.mtime,.int .i64 a2.ctime,.int .i64 a2.links,.int .i64 a2.up,.string a2.data,.slice fa fl fc] 109;clear hb4 HCg;go_upto_region 11 with fail;generalize w4.alloc (.cells #[.int .i64 a2.no,.int .i64 a2.dev,.int .i64 a2.kind,.int .i64 a2.mode,.int .i64 a2.uid,.int .i64 a2.gid,.int .i64 a2.mtime,.int .i64 a2.ctime,.int .i64 a2.links,.int .i64 a2.up,.string a2.data,.slice fa fl fc] 109)=Y at hbY hY hb5 ⊢;have HBY:=Lib.hid hbY;have HOY:=Lib.hid (HOc.out.keep2 hb5);obtain⟨yc,yf,yz⟩:=hY.facts;have HNm:=Lib.hid (ename_any es fa fl fc ch Y (HEn.out.keep hb5));unfold whereV at HNm;clear hb5 hY hbY HBc HOc HEn
   cases ho:entName es ch with
   | none=>
    rw [ho] at HNm;have HO2:=Lib.hid (show S.place_ no=none from HFail.out ho);simp only [Option.getD_none,Option.isSome_none] at HNm;clear ho
    cases b2 with
    | false=>
     go_wp2_with fail;refine HNm.out.mono ?_;rintro e w6 ⟨rfl,hb6⟩;have HB6:=Lib.hid (bnext HBY.out hb6);clear hb6 yc yf yz;go_wp2_with fail;go_ret2;rw [HO2.out];exact⟨rfl,HB6.out⟩
    | true=>
     go_wp2_with fail;refine HNm.out.mono ?_;rintro e w6 ⟨rfl,hb6⟩;have HB6:=Lib.hid (bnext HBY.out hb6);clear hb6 yc yf yz;go_wp2_with fail;go_ret2;rw [HO2.out];exact⟨rfl,HB6.out⟩
   | some nm=>
    rw [ho] at HNm;simp only [Option.getD_some,Option.isSome_some] at HNm;obtain rfl:b2=true:=HSome.out nm ho;have HMr:=Lib.hid (HMore.out nm ho);have HLs:=Lib.hid (HLess.out nm ho);clear ho;go_wp2_with fail;refine HNm.out.mono ?_;rintro e w6 ⟨rfl,hb6⟩;have hB6:=bnext HBY.out hb6;obtain⟨g2,cap2,W,hrun,hO7,hB7⟩:=(HOY.out.keep2 hb6).app nm.data.toList (by omega) hB6.size;rw [str_of] at hrun;have HR:=Lib.hid hrun;have HO7:=Lib.hid hO7;have HB7:=Lib.hid (hB6.trans hB7);have HAu:=Lib.hid (HA.out W HB7.out up);clear hb6 yc yf yz hrun hO7 hB7 hB6;go_wp2_with (at_builtin;refine wpList_app_run rfl rfl rfl rfl HR.out ?_);refine HAu.out.mono ?_;rintro e w8 ⟨rfl,hb8⟩;have HB8:=Lib.hid (bnext HB7.out hb8);have HO8:=Lib.hid (HO7.out.keep2 hb8);clear hb8;go_wp2_with fail;go_roundw
    case measure=>exact HLs.out
    case rel=>exact ⟨up,l ++ [nm.data.toList],rfl,rfl,HO8.out,HMr.out.1,HB8.out⟩
end
end
end Go.Proofs.YtihdbncoijhihaaGreatDoor
