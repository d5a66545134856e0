import Derived.Test.YtihdbncoijhihaaGreatDoorSN8
import Derived.Test.YtihdbncoijhihaaGreatDoorSN11
import Derived.Test.YtihdbncoijhihaaGreatDoorSN23
set_option linter.unusedVariables false
set_option linter.unusedSimpArgs false
set_option maxRecDepth 100000
set_option maxHeartbeats 16000000
namespace Go.Proofs.YtihdbncoijhihaaGreatDoor
section
open Go.RowKit
theorem entFind_cons (x:En) (l:List En) (s:ByteArray):entFind (x :: l) s=if x.name=s then x.no else entFind l s:=by
 unfold entFind;rw [List.find?_cons];by_cases h:x.name=s
 ·rw [if_pos h,decide_eq_true h]
 ·rw [if_neg h,decide_eq_false h]
theorem ba_beq (a b:ByteArray):(a.toList == b.toList)=decide (a=b):=by
 rw [ByteArray.toList_eq,ByteArray.toList_eq];by_cases h:a=b
 ·subst h;simp
 ·rw [decide_eq_false h];simp only [beq_eq_false_iff_ne,ne_eq];exact fun e=>h (ba_eq e)
theorem rfind_any (es:List En) (a:Option Addr) (n c:Nat) (s:ByteArray) (w:World) (he:EntsAt w a n c es) :
  Calls Tryz.prog 48 #[.slice a n c,.string s] w fun e w'=>e=.returned (.int .i64 (entFind es s))∧Below w.heap.size w w':=by
 have hl:=he.len;subst hl;have hc1:=he.sl.2.1;have hc2:=he.sl.2.2.1;have HE:=Lib.hid he;clear he;go_enter Tryz.func48,Tryz.ntmps48;go_wp2_with fail
 go_loopw [5] (fun t3 wr=>∃ k:Nat,k≤es.length∧t3=.int .i64 k∧entFind es s=entFind (es.drop k) s∧Below w.heap.size w wr) (fun t3 _=>es.length - (intOf t3).toNat)
 case atStart=>exact ⟨0,Nat.zero_le _,rfl,by rw [List.drop_zero],Below.refl _ _⟩
 case round=>
  obtain⟨k,hk,rfl,hf,hb⟩:=hrel;by_cases hlt:k<es.length
  ·have he2:=HE.out.keep hb;obtain⟨b,off,rfl,hbl⟩:=he2.some_of (by omega);obtain⟨c0,c1⟩:=he2.cell k hlt;rw [List.drop_eq_getElem_cons hlt,entFind_cons] at hf;have HF:=Lib.hid hf;have HB:=Lib.hid hb;have hcmp:=ba_beq es[k].name s;generalize es[k]=x at c0 c1 hcmp HF;clear hf hb he2;by_cases hx:x.name=s
   ·have HR:=Lib.hid (HF.out.trans (if_pos hx));rw [decide_eq_true hx] at hcmp;clear hx;go_wp2_with fail;go_ret;exact⟨by rw [HR.out];rfl,HB.out⟩
   ·have HR:=Lib.hid (HF.out.trans (if_neg hx));rw [decide_eq_false hx] at hcmp;clear hx;go_wp2_with fail;go_roundw
    case measure=>simp [intOf];omega
    case rel=>exact ⟨k+1,by omega,by go_num,HR.out,HB.out⟩
  ·obtain rfl:k=es.length:=by omega
   rw [List.drop_length] at hf;have HR:=Lib.hid (show entFind es s=0 from hf);have HB:=Lib.hid hb;clear hf hb;go_wp2_with fail;go_ret;exact⟨by rw [HR.out];rfl,HB.out⟩
theorem OE.appOne {w:World} {base:Nat} {v:Value} {es:List En} (h:OE w base v es) (x:En) (hl:es.length≤1000000) (hb:base≤w.heap.size) :
  ∃ g cap W,(Builtin.append_ #[107,107] 107 #[v,.slice (some ⟨w.heap.size,0,none⟩) 1 1]).run Tryz.prog (w.alloc (.cells #[.string x.name,.int .i64 x.no] 113))=.ok (.slice (some ⟨g,0,none⟩) (es.length+1) cap) W∧
   OE W base (.slice (some ⟨g,0,none⟩) (es.length+1) cap) (es ++ [x])∧Below base w W:=by
 obtain⟨i0,hi,hz0,hz1,hz2⟩:=info_parts ent_info;have ho:=World.ownsRow.alloc h (.cells #[.string x.name,.int .i64 x.no] 113);obtain⟨g,cap,W,h1,h2,h3,h4⟩:=step_app 107 Tryz.underlying107 hi hz0 hz1 hz2 rfl (by omega) ho ⟨w.heap.size,0,none⟩ 1 1 [.string x.name,.int .i64 x.no] rfl (World.news_of_block (Blk.new w #[.string x.name,.int .i64 x.no] 113)) (by intro u hu;simp at hu;rcases hu with rfl | rfl <;> rfl) (by omega) (by unfold maxLen;omega) (by omega) (by simp;omega);refine ⟨g,cap,W,h1,?_,(((Below.refl base w).alloc hb _)).trans (h3.below (fun k hk=>(h.lt k hk).1) (by simp;omega))⟩;unfold OE;rw [List.length_append,List.length_singleton,List.flatMap_append];exact h2
theorem OE.form {w:World} {base:Nat} {v:Value} {es:List En} (h:OE w base v es):∃ a c,v=.slice a es.length c∧EntsAt w a es.length c es:=by
 obtain⟨a,c,rfl,-⟩:=own_form h;exact⟨a,c,rfl,h.at⟩
theorem gt_cases (a s:ByteArray):(ltB s a=true∧Op.bytesLess a.toList s.toList=false∧(a.toList == s.toList)=false)∨(ltB s a=false∧Op.bytesLess a.toList s.toList=true)∨(ltB s a=false∧Op.bytesLess a.toList s.toList=false∧(a.toList == s.toList)=true):=by
 rw [ltB_mk,ba_beq]
 cases h1:ltB a s with
 | true=>exact .inr (.inl ⟨ltB_asymm h1,rfl⟩)
 | false=>
  cases h2:ltB s a with
  | true=>exact .inl ⟨rfl,rfl,decide_eq_false (Ne.symm (ltB_ne h2))⟩
  | false=>exact .inr (.inr ⟨rfl,rfl,decide_eq_true (ltB_total h1 h2)⟩)
def belowL (n:ByteArray) (x:En):Bool:=ltB x.name n
def aboveL (n:ByteArray) (x:En):Bool:=ltB n x.name
theorem filterE_yes {p:En→Bool} (l:List En) (k:Nat) (hk:k<l.length) (h:p l[k]=true):(l.take (k+1)).filter p=(l.take k).filter p ++ [l[k]]:=by
 rw [List.take_succ_eq_append_getElem hk,List.filter_append];simp [h]
theorem filterE_no {p:En→Bool} (l:List En) (k:Nat) (hk:k<l.length) (h:p l[k]=false):(l.take (k+1)).filter p=(l.take k).filter p:=by
 rw [List.take_succ_eq_append_getElem hk,List.filter_append];simp [h]
theorem filterE_len (p:En→Bool) (l:List En) (k:Nat):((l.take k).filter p).length≤l.length:=by
 have h1:=List.length_filter_le p (l.take k);have h2:(l.take k).length≤l.length:=by rw [List.length_take];omega
 omega
theorem rput_any (es:List En) (a:Option Addr) (n c:Nat) (s:ByteArray) (no:Int) (w:World) (he:EntsAt w a n c es) (hn:n≤400000) :
  Calls Tryz.prog 259 #[.slice a n c,.string s,.int .i64 no] w fun e w'=>(∃ a' n' c',e=.returned (.slice a' n' c')∧EntsAt w' a' n' c' (entPut es s no))∧Below w.heap.size w w':=by
 have hl:=he.len;subst hl;have hc1:=he.sl.2.1;have hc2:=he.sl.2.2.1;have HE:=Lib.hid he;have HP:=Lib.hid (show entPut es s no=es.filter (belowL s) ++ ⟨s,no⟩ :: es.filter (aboveL s) from rfl);clear he;generalize entPut es s no=R at HP ⊢;go_enter Tryz.func259,Tryz.ntmps259;go_wp2_with fail
 go_loopw [7,8] (fun t4 t5 wr=>∃ k:Nat,k≤es.length∧t5=.int .i64 k∧OE wr w.heap.size t4 ((es.take k).filter (belowL s))∧Below w.heap.size w wr) (fun _ t5 _=>es.length - (intOf t5).toNat)
 case atStart=>exact ⟨0,Nat.zero_le _,rfl,⟨rfl,.inl ⟨rfl,rfl⟩⟩,Below.refl _ _⟩
 case round=>
  obtain⟨k,hk,rfl,hO,hb⟩:=hrel;have HO:=Lib.hid hO;have HB:=Lib.hid hb;by_cases hlt:k<es.length
  ·have he2:=HE.out.keep hb;obtain⟨b,off,rfl,hbl⟩:=he2.some_of (by omega);obtain⟨c0,c1⟩:=he2.cell k hlt;have HY:=Lib.hid (filterE_yes (p:=belowL s) es k hlt);have HN:=Lib.hid (filterE_no (p:=belowL s) es k hlt);have hfl:=filterE_len (belowL s) es k;have hcmp:=ltB_mk es[k].name s;obtain⟨g,cap,W,hrun,hO2,hB2⟩:=hO.appOne es[k] (by omega) hb.size;have HX:=Lib.hid (And.intro hO2 hB2);generalize es[k]=x at c0 c1 hcmp HY HN hrun HX;clear hO hb he2 hO2 hB2 hfl
   cases hx:ltB x.name s with
   | true=>
    rw [hx] at hcmp;have HY2:=Lib.hid (HY.out hx);have HR:=Lib.hid hrun;clear hx hrun;go_wp2_with (at_builtin;refine wpList_app_run rfl rfl rfl rfl HR.out ?_);go_roundw
    case measure=>simp [intOf];omega
    case rel=>exact ⟨k+1,by omega,by go_num,by rw [HY2.out];exact HX.out.1,HB.out.trans HX.out.2⟩
   | false=>
    rw [hx] at hcmp;have HN2:=Lib.hid (HN.out hx);clear hx hrun;go_wp2_with fail;go_roundw
    case measure=>simp [intOf];omega
    case rel=>exact ⟨k+1,by omega,by go_num,by rw [HN2.out];exact HO.out,HB.out⟩
  ·obtain rfl:k=es.length:=by omega
   have hfl:=filterE_len (belowL s) es es.length;rw [List.take_length] at hO hfl;obtain⟨g,cap,W,hrun,hO2,hB2⟩:=hO.appOne ⟨s,no⟩ (by omega) hb.size;have HX:=Lib.hid (And.intro hO2 (hb.trans hB2));have HR:=Lib.hid hrun;generalize hlo:es.filter (belowL s)=lo at HP HX HR hfl;clear hO hb hO2 hB2 hrun HO HB hlo;go_wp2_with (at_builtin;refine wpList_app_run rfl rfl rfl rfl HR.out ?_)
   go_loopw [7,9] (fun t4 t6 wr=>∃ k:Nat,k≤es.length∧t6=.int .i64 k∧OE wr w.heap.size t4 (lo ++ [⟨s,no⟩] ++ (es.take k).filter (aboveL s))∧Below w.heap.size w wr) (fun _ t6 _=>es.length - (intOf t6).toNat)
   case atStart=>exact ⟨0,Nat.zero_le _,rfl,by simpa using HX.out.1,HX.out.2⟩
   case round=>
    obtain⟨k,hk,rfl,hO,hb⟩:=hrel;have HO:=Lib.hid hO;have HB:=Lib.hid hb;have hfl2:=filterE_len (aboveL s) es k;have hln:(lo ++ [(⟨s,no⟩:En)] ++ (es.take k).filter (aboveL s)).length≤1000000:=by
     rw [List.length_append,List.length_append,List.length_singleton];omega
    by_cases hlt:k<es.length
    ·have he2:=HE.out.keep hb;obtain⟨b,off,rfl,hbl⟩:=he2.some_of (by omega);obtain⟨c0,c1⟩:=he2.cell k hlt;have HY:=Lib.hid (filterE_yes (p:=aboveL s) es k hlt);have HN:=Lib.hid (filterE_no (p:=aboveL s) es k hlt);have hcmp:=gt_cases es[k].name s;obtain⟨g,cap,W,hrun,hO2,hB2⟩:=hO.appOne es[k] hln hb.size;have HX2:=Lib.hid (And.intro hO2 hB2);generalize es[k]=x at c0 c1 hcmp HY HN hrun HX2;clear hO hb he2 hO2 hB2 hfl2 hln;generalize hcur:lo ++ [(⟨s,no⟩:En)] ++ (es.take k).filter (aboveL s)=cur at hrun HX2 HO;have HCur:=Lib.hid hcur;clear hcur;rcases hcmp with ⟨hx,hq1,hq2⟩|⟨hx,hq1⟩|⟨hx,hq1,hq2⟩
     ·have HY2:=Lib.hid (HY.out hx);have HR:=Lib.hid hrun;clear hx hrun;go_wp2_with (at_builtin;refine wpList_app_run rfl rfl rfl rfl HR.out ?_);go_roundw
      case measure=>simp [intOf];omega
      case rel=>exact ⟨k+1,by omega,by go_num,by rw [HY2.out,←List.append_assoc,HCur.out];exact HX2.out.1,HB.out.trans HX2.out.2⟩
     ·have HN2:=Lib.hid (HN.out hx);clear hx hrun;go_wp2_with fail;go_roundw
      case measure=>simp [intOf];omega
      case rel=>exact ⟨k+1,by omega,by go_num,by rw [HN2.out,HCur.out];exact HO.out,HB.out⟩
     ·have HN2:=Lib.hid (HN.out hx);clear hx hrun;go_wp2_with fail;go_roundw
      case measure=>simp [intOf];omega
      case rel=>exact ⟨k+1,by omega,by go_num,by rw [HN2.out,HCur.out];exact HO.out,HB.out⟩
    ·obtain rfl:k=es.length:=by omega
     rw [List.take_length] at hO;obtain⟨a2,c2,rfl,hE2⟩:=hO.form;have HR2:=Lib.hid (show EntsAt wr a2 (lo ++ [(⟨s,no⟩:En)] ++ es.filter (aboveL s)).length c2 R by
      rw [HP.out];simpa using hE2)
     clear hO hb hE2 HO hln;go_wp2_with fail;go_ret;exact⟨⟨_,_,_,rfl,HR2.out⟩,HB.out⟩
end
section
open Go.RowKit
theorem nums_make {S:Fs} {N:Nat} (hk:FsOk S N) (a:An):Nums (S.make a).1:=by
 unfold Fs.make
 split
 ·exact hk.nums
 ·split
  ·exact hk.nums
  ·rename_i v hv;simp only
   split
   ·have hk2:=hk.setDev (u:={v with b:=v.b+blkI a.kind a.data.size,n:=v.n+1}) hv rfl;exact hk2.nums.add hk2.l0 a
   ·exact hk.nums
section
variable {w w':World} {pf:Nat} {R:Rf} {S:Fs}
theorem RfAt.asideM (h:RfAt w pf R S) {B:Nat} {vs:Array Value} {T:TypeId} (hB:Blk w B vs T) (hF:¬ R.F pf B) (hT:T≠113) (hm:Mod (fun k=>k=B) w w'):RfAt w' pf R S:=by
 refine h.turn (fun k hk=>hm.block k (h.lt hk) (fun e=>hF (e ▸ hk))) (fun b cur hc=>hm.block b (Array.getElem?_eq_some_iff.1 hc).1 (fun e=>?_)) hm.size;subst e;unfold Blk at hB;rw [hB] at hc;injection hc with hc;injection hc with _ hc;exact hT hc
theorem rtouch_any (h:RfAt w pf R S) (hn:Nums S) (dir:Int) {d:An} (hg:S.get dir=some d) {a:Option Addr} {n c:Nat} {l:List En} (hl:EntsAt w a n c l) :
  Calls Tryz.prog 258 #[.pointer (some ⟨pf,0,none⟩),.int .i64 dir,.slice a n c] w fun e w'=>e=.returned (.tuple #[])∧∃ R',RfAt w' pf R' (S.touch R.now dir l)∧Stp (R.F pf) (R'.F pf) w w'∧Rf.Like R R':=by
 obtain⟨ea,el,ec,-,hG⟩:=rget_fix h hg;have HT:=Lib.hid (show S.touch R.now dir l=S.set {d with ents:=l,mtime:=R.now,ctime:=R.now} by unfold Fs.touch;rw [hg]);have hno:=an_no hg;have HSet:=Lib.hid (fun w1 (hb:Below w.heap.size w w1)=>rset_any (h.keep hb) hn (a:={d with ents:=l,mtime:=R.now,ctime:=R.now}) (hl.keep hb) (b:=d) (by show S.get d.no=some d;rw [hno];exact hg));have HG:=Lib.hid (hG w (Below.refl _ _));unfold An.v at HG HSet;obtain⟨pc,-,pz⟩:=h.blk.facts;generalize hnow:R.now=now at HT HSet pc;clear h hn hg hl hG hno hnow;go_enter Tryz.func258,Tryz.ntmps258;go_wp2_with fail;refine HG.out.mono ?_;rintro e w1 ⟨rfl,hb1⟩;have pc3:=(hb1.cell (p:=⟨pf,3,none⟩) pz).trans (pc 3);have hp1:pf<w1.heap.size:=Nat.lt_of_lt_of_le pz hb1.size;have hbX:=balloc hb1 (.cells #[.int .i64 d.no,.int .i64 d.dev,.int .i64 d.kind,.int .i64 d.mode,.int .i64 d.uid,.int .i64 d.gid,.int .i64 now,.int .i64 now,.int .i64 d.links,.int .i64 d.up,.string d.data,.slice a n c] 109);have HS:=Lib.hid (HSet.out _ hbX);have HBX:=Lib.hid hbX;clear hb1 hbX pc;go_wp2_with fail;refine HS.out.mono ?_;rintro e w5 ⟨rfl,R',hR1,hR2,hR3,-⟩;have HR:=Lib.hid (And.intro hR1 (And.intro hR2 hR3));clear hR1 hR2 hR3;go_wp2_with fail
 go_end0
 rw [HT.out];exact⟨rfl,R',HR.out.1,(Stp.of_below HBX.out).trans HR.out.2.1,HR.out.2.2⟩
end
end
section
open Go.RowKit
theorem make_bad {S:Fs} {a:An} (h:(S.make a).2.2≠0):(S.make a).1=S:=by
 revert h;unfold Fs.make
 split
 ·intro _;rfl
 ·split
  ·intro _;rfl
  ·simp only
   split
   ·intro h;exact absurd rfl h
   ·intro _;rfl
section
variable {w w':World} {pf:Nat} {R:Rf} {S:Fs}
theorem rcome_any (h:RfAt w pf R S) {N:Nat} (hk:FsOk S N) (hN:N≤100000) (hgl:S.ns.length≤100000) (dir:Int) (s:ByteArray) (hs:s.size≤100000) (a:An) (he:a.ents=[]) (hsz:a.data.size≤1048576) :
  Calls Tryz.prog 247 #[.pointer (some ⟨pf,0,none⟩),.agg #[.int .i64 0,.int .i64 0],.int .i64 dir,.string s,a.v none 0 0] w fun e w'=>e=.returned (.tuple #[.int .i64 (S.come c00 R.now dir s a).2.1,.int .i64 (S.come c00 R.now dir s a).2.2])∧∃ R',RfAt w' pf R' (S.come c00 R.now dir s a).1∧Stp (R.F pf) (R'.F pf) w w'∧Rf.Like R R':=by
 have hkeep:∀ w2,Below w.heap.size w w2→∃ R',RfAt w2 pf R' S∧Stp (R.F pf) (R'.F pf) w w2∧Rf.Like R R':=fun w2 hb=>⟨R,h.keep hb,Stp.of_below hb,Rf.Like.refl R⟩;have HKp:=Lib.hid hkeep;have hb0:=balloc (balloc (Below.refl w.heap.size w) (.cells #[.int .i64 0,.int .i64 0] 27)) (.cells #[.int .i64 a.no,.int .i64 a.dev,.int .i64 a.kind,.int .i64 a.mode,.int .i64 a.uid,.int .i64 a.gid,.int .i64 a.mtime,.int .i64 a.ctime,.int .i64 a.links,.int .i64 a.up,.string a.data,.slice none 0 0] 109);have HB0:=Lib.hid hb0
 cases hg:S.get dir with
 | none=>
  have HC:=Lib.hid (show S.come c00 R.now dir s a=(S,0,5) by
   have hp:S.placeE c00 dir s=5:=by unfold Fs.placeE;rw [hg]
   unfold Fs.come;rw [if_pos (by rw [hp];decide),hp])
  have HP:=Lib.hid (rplace_none (h.keep hb0) dir s hg);unfold An.v an0 at HP;unfold An.v;clear h hk hg hkeep hb0;go_enter Tryz.func247,Tryz.ntmps247;go_wp2_with fail;refine HP.out.mono ?_;rintro e w1 ⟨rfl,hb1⟩;have HB:=Lib.hid (balloc (bnext HB0.out hb1) (.cells #[.int .i64 0,.int .i64 0,.int .i64 0,.int .i64 0,.int .i64 0,.int .i64 0,.int .i64 0,.int .i64 0,.int .i64 0,.int .i64 0,.string ByteArray.empty,.slice none 0 0] 109));clear hb1;go_wp2_with fail;go_ret2;rw [HC.out];exact⟨rfl,HKp.out _ HB.out⟩
 | some d=>
  obtain⟨ea,el,ec,hE,hP⟩:=rplace_some (h.keep hb0) hk dir s hs d hg;obtain⟨hdo,hdn,-,-⟩:=hk.get hg;have HP:=Lib.hid hP;have hn1:=Blk.new (w.alloc (.cells #[.int .i64 0,.int .i64 0] 27)) #[.int .i64 a.no,.int .i64 a.dev,.int .i64 a.kind,.int .i64 a.mode,.int .i64 a.uid,.int .i64 a.gid,.int .i64 a.mtime,.int .i64 a.ctime,.int .i64 a.links,.int .i64 a.up,.string a.data,.slice none 0 0] 109;rw [World.size_alloc] at hn1;have hc1:=(Blk.new w #[.int .i64 0,.int .i64 0] 27).old (.cells #[.int .i64 a.no,.int .i64 a.dev,.int .i64 a.kind,.int .i64 a.mode,.int .i64 a.uid,.int .i64 a.gid,.int .i64 a.mtime,.int .i64 a.ctime,.int .i64 a.links,.int .i64 a.up,.string a.data,.slice none 0 0] 109);have hh1:=h.keep hb0;have hF:∀ k,w.heap.size≤k→¬ R.F pf k:=fun k hk hf=>by have:=h.lt hf;omega
  have HF:=Lib.hid hF;have HW0:=Lib.hid (And.intro hn1 (And.intro hc1 (And.intro hh1 hE)));have HC:=Lib.hid (show S.come c00 R.now dir s a=if S.placeE c00 dir s≠0 then (S,0,S.placeE c00 dir s) else if entFind d.ents s≠0 then (S,0,7) else if (S.make {a with dev:=d.dev,uid:=0,gid:=0,mtime:=R.now,ctime:=R.now,links:=1}).2.2≠0 then (S,0,(S.make {a with dev:=d.dev,uid:=0,gid:=0,mtime:=R.now,ctime:=R.now,links:=1}).2.2) else ((S.make {a with dev:=d.dev,uid:=0,gid:=0,mtime:=R.now,ctime:=R.now,links:=1}).1.touch R.now dir (entPut d.ents s (S.make {a with dev:=d.dev,uid:=0,gid:=0,mtime:=R.now,ctime:=R.now,links:=1}).2.1),(S.make {a with dev:=d.dev,uid:=0,gid:=0,mtime:=R.now,ctime:=R.now,links:=1}).2.1,0) by
   unfold Fs.come;rw [hg];rfl)
  have HMb:=Lib.hid (make_bad (S:=S) (a:={a with dev:=d.dev,uid:=0,gid:=0,mtime:=R.now,ctime:=R.now,links:=1}));have HNm:=Lib.hid (nums_make hk {a with dev:=d.dev,uid:=0,gid:=0,mtime:=R.now,ctime:=R.now,links:=1});have HGm:=Lib.hid (get_make hk {a with dev:=d.dev,uid:=0,gid:=0,mtime:=R.now,ctime:=R.now,links:=1} hg);have HMk:=Lib.hid (fun w1 (h1:RfAt w1 pf R S)=>rmake_any h1 hk (by omega) (by omega) {a with dev:=d.dev,uid:=0,gid:=0,mtime:=R.now,ctime:=R.now,links:=1} none 0 0 (by show EntsAt w1 none 0 0 a.ents;rw [he];exact EntsAt.nil w1) hsz);have hel:el≤100000:=by
   have h1:=hE.len;have h2:=hdo.few;omega
  obtain⟨pc,-,pz⟩:=h.blk.facts;have HPc:=Lib.hid pc;obtain⟨q,hq⟩:∃ q,S.make {a with dev:=d.dev,uid:=0,gid:=0,mtime:=R.now,ctime:=R.now,links:=1}=q:=⟨_,rfl⟩;rw [hq] at HC HMb HNm HGm HMk;obtain⟨S2,no,er⟩:=q;unfold An.v at HP HMk;unfold An.v;generalize S.placeE c00 dir s=pe at HC HP;generalize hnow:R.now=now at HC HMk;have HNow:=Lib.hid hnow;clear h hk hg hkeep hb0 hE hP hdo hdn hn1 hc1 hh1 hF pc hq hnow;go_enter Tryz.func247,Tryz.ntmps247;go_wp2_with fail;refine HP.out.mono ?_;rintro e w1 ⟨⟨hpe,rfl⟩|⟨rfl,rfl⟩,hb1⟩
  ·have HC2:=Lib.hid (HC.out.trans (if_pos hpe));have hpb:(pe != 0)=true:=by simpa using hpe
   have HB:=Lib.hid (balloc (bnext HB0.out hb1) (.cells #[.int .i64 0,.int .i64 0,.int .i64 0,.int .i64 0,.int .i64 0,.int .i64 0,.int .i64 0,.int .i64 0,.int .i64 0,.int .i64 0,.string ByteArray.empty,.slice none 0 0] 109));clear hb1 hpe;unfold an0;go_wp2_with fail;go_ret2;rw [HC2.out];exact⟨rfl,HKp.out _ HB.out⟩
  ·have HC2:=Lib.hid (HC.out.trans (if_neg (by simp)));obtain⟨hn1,hc1,hh1,hE1⟩:=HW0.out;have hn2:=(hn1.keep hb1).old (.cells #[.int .i64 d.no,.int .i64 d.dev,.int .i64 d.kind,.int .i64 d.mode,.int .i64 d.uid,.int .i64 d.gid,.int .i64 d.mtime,.int .i64 d.ctime,.int .i64 d.links,.int .i64 d.up,.string d.data,.slice ea el ec] 109);have hc2:=(hc1.keep hb1).old (.cells #[.int .i64 d.no,.int .i64 d.dev,.int .i64 d.kind,.int .i64 d.mode,.int .i64 d.uid,.int .i64 d.gid,.int .i64 d.mtime,.int .i64 d.ctime,.int .i64 d.links,.int .i64 d.up,.string d.data,.slice ea el ec] 109);have hbX:=(Below.refl _ w1).alloc (Nat.le_refl _) (.cells #[.int .i64 d.no,.int .i64 d.dev,.int .i64 d.kind,.int .i64 d.mode,.int .i64 d.uid,.int .i64 d.gid,.int .i64 d.mtime,.int .i64 d.ctime,.int .i64 d.links,.int .i64 d.up,.string d.data,.slice ea el ec] 109);have hh2:=(hh1.keep hb1).keep hbX;have hE2:=(hE1.keep hb1).keep hbX;have hd2:=Blk.new w1 #[.int .i64 d.no,.int .i64 d.dev,.int .i64 d.kind,.int .i64 d.mode,.int .i64 d.uid,.int .i64 d.gid,.int .i64 d.mtime,.int .i64 d.ctime,.int .i64 d.links,.int .i64 d.up,.string d.data,.slice ea el ec] 109;have hbb:=balloc (bnext HB0.out hb1) (.cells #[.int .i64 d.no,.int .i64 d.dev,.int .i64 d.kind,.int .i64 d.mode,.int .i64 d.uid,.int .i64 d.gid,.int .i64 d.mtime,.int .i64 d.ctime,.int .i64 d.links,.int .i64 d.up,.string d.data,.slice ea el ec] 109);have hD:w.heap.size+2≤w1.heap.size:=by
    have:=hb1.size;simpa using this
   go_upto_region 2 with fail;generalize w1.alloc (.cells #[.int .i64 d.no,.int .i64 d.dev,.int .i64 d.kind,.int .i64 d.mode,.int .i64 d.uid,.int .i64 d.gid,.int .i64 d.mtime,.int .i64 d.ctime,.int .i64 d.links,.int .i64 d.up,.string d.data,.slice ea el ec] 109)=X at hn2 hc2 hbX hh2 hE2 hd2 hbb ⊢;generalize w1.heap.size=D at hd2 hD ⊢;have HX:=Lib.hid (And.intro hn2 (And.intro hc2 (And.intro hh2 (And.intro hE2 (And.intro hd2 hbb)))));have HFd:=Lib.hid (rfind_any d.ents ea el ec s X hE2);obtain⟨dc,df,dz⟩:=hd2.facts;clear hb1 hn1 hc1 hh1 hE1 hn2 hc2 hbX hh2 hE2 hd2 hbb;go_wp2_with fail;refine HFd.out.mono ?_;rintro e w2 ⟨rfl,hb2⟩;by_cases hf:entFind d.ents s=0
   ·have HC3:=Lib.hid (HC2.out.trans (if_neg (by simpa using hf)));have hfb:(entFind d.ents s != 0)=false:=by simpa using hf
    obtain⟨hn2,hc2,hh2,hE2,hd2,hbb⟩:=HX.out;have hn3:=hn2.keep hb2;have hc3:=hc2.keep hb2;have hh3:=hh2.keep hb2;have hd3:=hd2.keep hb2;have hbw:=bnext hbb hb2;have hm:=(((((((Mod.refl (fun k=>k=w.heap.size+1) w2).setCell (a:=⟨w.heap.size+1,1,none⟩) (.inl rfl) (.int .i64 d.dev)).setCell (a:=⟨w.heap.size+1,4,none⟩) (.inl rfl) (.int .i64 0)).setCell (a:=⟨w.heap.size+1,5,none⟩) (.inl rfl) (.int .i64 0)).setCell (a:=⟨w.heap.size+1,6,none⟩) (.inl rfl) (.int .i64 now)).setCell (a:=⟨w.heap.size+1,7,none⟩) (.inl rfl) (.int .i64 now)).setCell (a:=⟨w.heap.size+1,8,none⟩) (.inl rfl) (.int .i64 1));have hh4:=hh3.asideM hn3 (HF.out _ (by omega)) (by decide) hm;have hn4:=(((((hn3.set 1 (.int .i64 d.dev)).set 4 (.int .i64 0)).set 5 (.int .i64 0)).set 6 (.int .i64 now)).set 7 (.int .i64 now)).set 8 (.int .i64 1);have hd4:=hd3.mod hm (by omega);have hE4:=(hE2.keep hb2).turn (fun b cur hc=>hm.block b (Array.getElem?_eq_some_iff.1 hc).1 (fun e=>by
     subst e;unfold Blk at hn3;rw [hn3] at hc;injection hc with hc;injection hc with _ hc;revert hc;decide)) hm.size
    have hst4:=(((((((Mod.of_below hbw:Mod (R.F pf) w w2).setCell (a:=⟨w.heap.size+1,1,none⟩) (.inr (Nat.le_succ _)) (.int .i64 d.dev)).setCell (a:=⟨w.heap.size+1,4,none⟩) (.inr (Nat.le_succ _)) (.int .i64 0)).setCell (a:=⟨w.heap.size+1,5,none⟩) (.inr (Nat.le_succ _)) (.int .i64 0)).setCell (a:=⟨w.heap.size+1,6,none⟩) (.inr (Nat.le_succ _)) (.int .i64 now)).setCell (a:=⟨w.heap.size+1,7,none⟩) (.inr (Nat.le_succ _)) (.int .i64 now)).setCell (a:=⟨w.heap.size+1,8,none⟩) (.inr (Nat.le_succ _)) (.int .i64 1));obtain⟨nc,nf,nz⟩:=hn3.facts;obtain⟨cc,cf,cz⟩:=hc3.facts;obtain⟨ec3,ef3,ez3⟩:=hd3.facts;obtain⟨xc,xf,xz⟩:=hh3.blk.facts;have hxc3:w2.cell? ⟨pf,3,none⟩=some (.int .i64 now):=by rw [xc 3,HNow.out];rfl
    have hp1:¬ pf=w.heap.size+1:=by omega
    have hp2:¬ w.heap.size+1=pf:=by omega
    have hp3:¬ D=w.heap.size+1:=by omega
    have hp4:¬ w.heap.size+1=D:=by omega
    have HY:=Lib.hid (And.intro hh4 (And.intro hn4 (And.intro hd4 (And.intro hE4 hst4))));clear hf hb2 hn2 hc2 hh2 hE2 hd2 hbb hn3 hc3 hh3 hd3 hbw hm hh4 hn4 hd4 hE4 hst4 xc xf dc df dz;go_upto_region 12 with fail;generalize (((((w2.setCell ⟨w.heap.size+1,1,none⟩ (.int .i64 d.dev)).setCell ⟨w.heap.size+1,4,none⟩ (.int .i64 0)).setCell ⟨w.heap.size+1,5,none⟩ (.int .i64 0)).setCell ⟨w.heap.size+1,6,none⟩ (.int .i64 now)).setCell ⟨w.heap.size+1,7,none⟩ (.int .i64 now)).setCell ⟨w.heap.size+1,8,none⟩ (.int .i64 1)=Y at HY ⊢;obtain⟨hh4,hn4,hd4,hE4,hst4⟩:=HY.out;have HMk2:=Lib.hid (HMk.out Y hh4);obtain⟨yc,yf,yz⟩:=hn4.facts;clear nc nf nz cc cf cz ec3 ef3 ez3 hxc3 xz hn4;go_wp2_with fail;refine HMk2.out.mono ?_;rintro e w5 ⟨rfl,R5,hR5,hS5,hL5⟩;have hd5:=hd4.mod hS5.mod (HF.out D (by omega));have hE5:=hE4.rf hh4 hS5;obtain⟨ec5,ef5,ez5⟩:=hd5.facts;have HR5:=Lib.hid (And.intro hR5 (And.intro ((Stp.of_mod hst4).trans hS5) hL5));clear hh4 hd4 hE4 hst4 yc yf yz hR5 hS5 hL5 hd5;by_cases her:er=0
    ·have HC4:=Lib.hid (HC3.out.trans (if_neg (by simpa using her)));have herb:(er != 0)=false:=by simpa using her
     have HPu:=Lib.hid (rput_any d.ents ea el ec s no w5 hE5 (by omega));clear her hE5;go_wp2_with fail;refine HPu.out.mono ?_;rintro e w6 ⟨⟨a6,n6,c6,rfl,hE6⟩,hb6⟩;have HTo:=Lib.hid (rtouch_any (HR5.out.1.keep hb6) HNm.out dir HGm.out hE6);rw [HR5.out.2.2.now,HNow.out] at HTo;have HB6:=Lib.hid hb6;clear hE6 hb6 ec5 ef5 ez5;go_wp2_with fail;refine HTo.out.mono ?_;rintro e w7 ⟨rfl,R7,hR7,hS7,hL7⟩;have HR7:=Lib.hid (And.intro hR7 (And.intro ((HR5.out.2.1.trans (Stp.of_below HB6.out)).trans hS7) (HR5.out.2.2.trans hL7)));clear hR7 hS7 hL7;go_wp2_with fail;go_ret2;rw [HC4.out];exact⟨rfl,R7,HR7.out⟩
    ·have HC4:=Lib.hid (HC3.out.trans (if_pos (by simpa using her)));have herb:(er != 0)=true:=by simpa using her
     have HM:=Lib.hid (show S2=S from HMb.out her);clear her hE5;go_wp2_with fail;go_ret2;rw [HC4.out];refine ⟨rfl,R5,?_,HR5.out.2⟩;have h9:=HR5.out.1;rw [HM.out] at h9;exact h9
   ·have HC3:=Lib.hid (HC2.out.trans (if_pos (by simpa using hf)));have hfb:(entFind d.ents s != 0)=true:=by simpa using hf
    have HB:=Lib.hid (bnext HX.out.2.2.2.2.2 hb2);clear hf hb2;go_wp2_with fail;go_ret2;rw [HC3.out];exact⟨rfl,HKp.out _ HB.out⟩
end
end
section
open Go.RowKit
section
variable {w w':World} {pf:Nat} {R:Rf} {S:Fs}
theorem rdir_any (h:RfAt w pf R S) {N:Nat} (hk:FsOk S N) (hN:N≤100000) (hgl:S.ns.length≤100000) (dir:Int) (s:ByteArray) (hs:s.size≤100000) (mode:Int) :
  Calls Tryz.prog 203 #[.pointer (some ⟨pf,0,none⟩),.agg #[.int .i64 0,.int .i64 0],.int .i64 dir,.string s,.int .i64 mode] w fun e w'=>e=.returned (.tuple #[.int .i64 (S.mkdir c00 R.now dir s mode).2.1,.int .i64 (S.mkdir c00 R.now dir s mode).2.2])∧∃ R',RfAt w' pf R' (S.mkdir c00 R.now dir s mode).1∧Stp (R.F pf) (R'.F pf) w w'∧Rf.Like R R':=by
 have hkeep:∀ w2,Below w.heap.size w w2→∃ R',RfAt w2 pf R' S∧Stp (R.F pf) (R'.F pf) w w2∧Rf.Like R R':=fun w2 hb=>⟨R,h.keep hb,Stp.of_below hb,Rf.Like.refl R⟩;have HKp:=Lib.hid hkeep;have hb0:=(Below.refl _ w).alloc (Nat.le_refl _) (.cells #[.int .i64 0,.int .i64 0] 27);have HB0:=Lib.hid hb0;by_cases h1:mode<0
 ·have HQ:=Lib.hid (show S.mkdir c00 R.now dir s mode=(S,0,1) by unfold Fs.mkdir;rw [if_pos (.inl h1)]);clear h hk hgl hkeep hb0;go_enter Tryz.func203,Tryz.ntmps203;go_wp2_with fail;go_ret2;rw [HQ.out];exact⟨rfl,HKp.out _ HB0.out⟩
 ·by_cases h2:1023<mode
  ·have HQ:=Lib.hid (show S.mkdir c00 R.now dir s mode=(S,0,1) by unfold Fs.mkdir;rw [if_pos (.inr h2)]);clear h hk hgl hkeep hb0;go_enter Tryz.func203,Tryz.ntmps203;go_wp2_with fail;go_ret2;rw [HQ.out];exact⟨rfl,HKp.out _ HB0.out⟩
  ·have HQ:=Lib.hid (show S.mkdir c00 R.now dir s mode=S.come c00 R.now dir s {an0 with kind:=1,mode:=mode,up:=dir} by unfold Fs.mkdir;rw [if_neg (by omega)]);have HCo:=Lib.hid (show Calls Tryz.prog 247 #[.pointer (some ⟨pf,0,none⟩),.agg #[.int .i64 0,.int .i64 0],.int .i64 dir,.string s,.agg #[.int .i64 0,.int .i64 0,.int .i64 1,.int .i64 mode,.int .i64 0,.int .i64 0,.int .i64 0,.int .i64 0,.int .i64 0,.int .i64 dir,.string ByteArray.empty,.slice none 0 0]] (w.alloc (.cells #[.int .i64 0,.int .i64 0] 27)) fun e w'=>e=.returned (.tuple #[.int .i64 (S.come c00 R.now dir s {an0 with kind:=1,mode:=mode,up:=dir}).2.1,.int .i64 (S.come c00 R.now dir s {an0 with kind:=1,mode:=mode,up:=dir}).2.2])∧∃ R',RfAt w' pf R' (S.come c00 R.now dir s {an0 with kind:=1,mode:=mode,up:=dir}).1∧Stp (R.F pf) (R'.F pf) (w.alloc (.cells #[.int .i64 0,.int .i64 0] 27)) w'∧Rf.Like R R' from rcome_any (h.keep hb0) hk hN hgl dir s hs {an0 with kind:=1,mode:=mode,up:=dir} rfl (by show (0:Nat)≤1048576;omega));clear h hk hgl hkeep hb0;go_enter Tryz.func203,Tryz.ntmps203;go_wp2_with fail;refine HCo.out.mono ?_;rintro e w1 ⟨rfl,R',hR,hS,hL⟩;have HX:=Lib.hid (And.intro hR (And.intro ((Stp.of_below HB0.out).trans hS) hL));clear hR hS hL;go_wp2_with fail;go_ret2;rw [HQ.out];exact⟨rfl,R',HX.out⟩
theorem rfile_any (h:RfAt w pf R S) {N:Nat} (hk:FsOk S N) (hN:N≤100000) (hgl:S.ns.length≤100000) (dir:Int) (s:ByteArray) (hs:s.size≤100000) (mode:Int) (data:ByteArray) :
  Calls Tryz.prog 188 #[.pointer (some ⟨pf,0,none⟩),.agg #[.int .i64 0,.int .i64 0],.int .i64 dir,.string s,.int .i64 mode,.string data] w fun e w'=>e=.returned (.tuple #[.int .i64 (S.file c00 R.now dir s mode data).2.1,.int .i64 (S.file c00 R.now dir s mode data).2.2])∧∃ R',RfAt w' pf R' (S.file c00 R.now dir s mode data).1∧Stp (R.F pf) (R'.F pf) w w'∧Rf.Like R R':=by
 have hkeep:∀ w2,Below w.heap.size w w2→∃ R',RfAt w2 pf R' S∧Stp (R.F pf) (R'.F pf) w w2∧Rf.Like R R':=fun w2 hb=>⟨R,h.keep hb,Stp.of_below hb,Rf.Like.refl R⟩;have HKp:=Lib.hid hkeep;have hb0:=(Below.refl _ w).alloc (Nat.le_refl _) (.cells #[.int .i64 0,.int .i64 0] 27);have HB0:=Lib.hid hb0;by_cases h1:mode<0
 ·have HQ:=Lib.hid (show S.file c00 R.now dir s mode data=(S,0,1) by unfold Fs.file;rw [if_pos (.inl h1)]);clear h hk hgl hkeep hb0;go_enter Tryz.func188,Tryz.ntmps188;go_wp2_with fail;go_ret2;rw [HQ.out];exact⟨rfl,HKp.out _ HB0.out⟩
 ·by_cases h2:1023<mode
  ·have HQ:=Lib.hid (show S.file c00 R.now dir s mode data=(S,0,1) by unfold Fs.file;rw [if_pos (.inr h2)]);clear h hk hgl hkeep hb0;go_enter Tryz.func188,Tryz.ntmps188;go_wp2_with fail;go_ret2;rw [HQ.out];exact⟨rfl,HKp.out _ HB0.out⟩
  ·by_cases h3:1048576<data.size
   ·have HQ:=Lib.hid (show S.file c00 R.now dir s mode data=(S,0,3) by unfold Fs.file;rw [if_neg (by omega),if_pos h3]);have h3a:(1048576:Int)<(data.size:Int):=by omega
    clear h hk hgl hkeep hb0;go_enter Tryz.func188,Tryz.ntmps188;go_wp2_with fail;go_ret2;rw [HQ.out];exact⟨rfl,HKp.out _ HB0.out⟩
   ·have HQ:=Lib.hid (show S.file c00 R.now dir s mode data=S.come c00 R.now dir s {an0 with kind:=2,mode:=mode,data:=data} by unfold Fs.file;rw [if_neg (by omega),if_neg h3]);have h3a:¬ (1048576:Int)<(data.size:Int):=by omega
    have HCo:=Lib.hid (show Calls Tryz.prog 247 #[.pointer (some ⟨pf,0,none⟩),.agg #[.int .i64 0,.int .i64 0],.int .i64 dir,.string s,.agg #[.int .i64 0,.int .i64 0,.int .i64 2,.int .i64 mode,.int .i64 0,.int .i64 0,.int .i64 0,.int .i64 0,.int .i64 0,.int .i64 0,.string data,.slice none 0 0]] (w.alloc (.cells #[.int .i64 0,.int .i64 0] 27)) fun e w'=>e=.returned (.tuple #[.int .i64 (S.come c00 R.now dir s {an0 with kind:=2,mode:=mode,data:=data}).2.1,.int .i64 (S.come c00 R.now dir s {an0 with kind:=2,mode:=mode,data:=data}).2.2])∧∃ R',RfAt w' pf R' (S.come c00 R.now dir s {an0 with kind:=2,mode:=mode,data:=data}).1∧Stp (R.F pf) (R'.F pf) (w.alloc (.cells #[.int .i64 0,.int .i64 0] 27)) w'∧Rf.Like R R' from rcome_any (h.keep hb0) hk hN hgl dir s hs {an0 with kind:=2,mode:=mode,data:=data} rfl (by show data.size≤1048576;omega));clear h hk hgl hkeep hb0;go_enter Tryz.func188,Tryz.ntmps188;go_wp2_with fail;refine HCo.out.mono ?_;rintro e w1 ⟨rfl,R',hR,hS,hL⟩;have HX:=Lib.hid (And.intro hR (And.intro ((Stp.of_below HB0.out).trans hS) hL));clear hR hS hL;go_wp2_with fail;go_ret2;rw [HQ.out];exact⟨rfl,R',HX.out⟩
theorem rsym_any (h:RfAt w pf R S) {N:Nat} (hk:FsOk S N) (hN:N≤100000) (hgl:S.ns.length≤100000) (dir:Int) (s:ByteArray) (hs:s.size≤100000) (text:ByteArray) (ht:text.size≤100000) :
  Calls Tryz.prog 205 #[.pointer (some ⟨pf,0,none⟩),.agg #[.int .i64 0,.int .i64 0],.int .i64 dir,.string s,.string text] w fun e w'=>e=.returned (.tuple #[.int .i64 (S.sym c00 R.now dir s text).2.1,.int .i64 (S.sym c00 R.now dir s text).2.2])∧∃ R',RfAt w' pf R' (S.sym c00 R.now dir s text).1∧Stp (R.F pf) (R'.F pf) w w'∧Rf.Like R R':=by
 have hkeep:∀ w2,Below w.heap.size w w2→∃ R',RfAt w2 pf R' S∧Stp (R.F pf) (R'.F pf) w w2∧Rf.Like R R':=fun w2 hb=>⟨R,h.keep hb,Stp.of_below hb,Rf.Like.refl R⟩;have HKp:=Lib.hid hkeep;have hb0:=(Below.refl _ w).alloc (Nat.le_refl _) (.cells #[.int .i64 0,.int .i64 0] 27);have HB0:=Lib.hid hb0;have HHs:=Lib.hid (fun w=>has_any text 0 w ht);have hq:hasB text 0=decide ((0:UInt8)∈text.data.toList):=rfl;have hte:text.toList=text.data.toList:=ba_list text;by_cases h1:text.data.toList=[]
 ·have HQ:=Lib.hid (show S.sym c00 R.now dir s text=(S,0,1) by unfold Fs.sym;rw [if_pos (.inl h1)]);have h1a:text.toList=[]:=by rw [hte];exact h1
  clear h hk hgl hkeep hb0 hq hte h1;go_enter Tryz.func205,Tryz.ntmps205;go_wp2_with fail;go_ret2;rw [HQ.out];exact⟨rfl,HKp.out _ HB0.out⟩
 ·have h1a:text.toList.isEmpty=false:=by rw [hte];simpa using h1
  by_cases h2:(0:UInt8)∈text.data.toList
  ·have HQ:=Lib.hid (show S.sym c00 R.now dir s text=(S,0,1) by unfold Fs.sym;rw [if_pos (.inr h2)]);rw [hq,decide_eq_true h2] at HHs;clear h hk hgl hkeep hb0 hq hte h1 h2;go_enter Tryz.func205,Tryz.ntmps205;go_wp2_with fail;refine (HHs.out _).mono ?_;rintro e w1 ⟨rfl,rfl⟩;go_wp2_with fail;go_ret2;rw [HQ.out];exact⟨rfl,HKp.out _ HB0.out⟩
  ·rw [hq,decide_eq_false h2] at HHs;by_cases h3:4096<text.size
   ·have HQ:=Lib.hid (show S.sym c00 R.now dir s text=(S,0,13) by unfold Fs.sym;rw [if_neg (by rintro (h | h);exact h1 h;exact h2 h),if_pos h3]);have h3a:(4096:Int)<(text.size:Int):=by omega
    clear h hk hgl hkeep hb0 hq hte h1 h2;go_enter Tryz.func205,Tryz.ntmps205;go_wp2_with fail;refine (HHs.out _).mono ?_;rintro e w1 ⟨rfl,rfl⟩;go_wp2_with fail;go_ret2;rw [HQ.out];exact⟨rfl,HKp.out _ HB0.out⟩
   ·have HQ:=Lib.hid (show S.sym c00 R.now dir s text=S.come c00 R.now dir s {an0 with kind:=3,mode:=511,data:=text} by unfold Fs.sym;rw [if_neg (by rintro (h | h);exact h1 h;exact h2 h),if_neg h3]);have h3a:¬ (4096:Int)<(text.size:Int):=by omega
    have HCo:=Lib.hid (show Calls Tryz.prog 247 #[.pointer (some ⟨pf,0,none⟩),.agg #[.int .i64 0,.int .i64 0],.int .i64 dir,.string s,.agg #[.int .i64 0,.int .i64 0,.int .i64 3,.int .i64 511,.int .i64 0,.int .i64 0,.int .i64 0,.int .i64 0,.int .i64 0,.int .i64 0,.string text,.slice none 0 0]] (w.alloc (.cells #[.int .i64 0,.int .i64 0] 27)) fun e w'=>e=.returned (.tuple #[.int .i64 (S.come c00 R.now dir s {an0 with kind:=3,mode:=511,data:=text}).2.1,.int .i64 (S.come c00 R.now dir s {an0 with kind:=3,mode:=511,data:=text}).2.2])∧∃ R',RfAt w' pf R' (S.come c00 R.now dir s {an0 with kind:=3,mode:=511,data:=text}).1∧Stp (R.F pf) (R'.F pf) (w.alloc (.cells #[.int .i64 0,.int .i64 0] 27)) w'∧Rf.Like R R' from rcome_any (h.keep hb0) hk hN hgl dir s hs {an0 with kind:=3,mode:=511,data:=text} rfl (by show text.size≤1048576;omega));clear h hk hgl hkeep hb0 hq hte h1 h2;go_enter Tryz.func205,Tryz.ntmps205;go_wp2_with fail;refine (HHs.out _).mono ?_;rintro e w1 ⟨rfl,rfl⟩;go_wp2_with fail;refine HCo.out.mono ?_;rintro e w1 ⟨rfl,R',hR,hS,hL⟩;have HX:=Lib.hid (And.intro hR (And.intro ((Stp.of_below HB0.out).trans hS) hL));clear hR hS hL;go_wp2_with fail;go_ret2;rw [HQ.out];exact⟨rfl,R',HX.out⟩
end
end
end Go.Proofs.YtihdbncoijhihaaGreatDoor
