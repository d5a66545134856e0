import Derived.Test.YtinflmadpnigfaaGreatDoorDY5
import Derived.Test.YtinflmadpnigfaaGreatDoorDY7
import Derived.Test.YtinflmadpnigfaaGreatDoorDY13
set_option linter.unusedVariables false
set_option linter.unusedSimpArgs false
set_option maxRecDepth 100000
set_option maxHeartbeats 16000000
namespace Go.Proofs.YtinflmadpnigfaaGreatDoor
section
open Go.RowKit
theorem yO(x:En)(l:List En)(s:ByteArray):aN (x::l) s=if x.name=s then x.no else aN l s:=by
 unfold aN;rw[List.find?_cons];by_cases h:x.name=s
 ·rw[if_pos h,decide_eq_true h]
 ·rw[if_neg h,decide_eq_false h]
theorem K9(a b:ByteArray):(a.toList==b.toList)=decide (a=b):=by
 rw[ByteArray.toList_eq,ByteArray.toList_eq];by_cases h:a=b
 ·subst h;simp
 ·rw[decide_eq_false h];simp only[beq_eq_false_iff_ne,ne_eq];exact fun e=>h (p' e)
theorem nj(es:List En)(a:Option Addr)(n c:Nat)(s:ByteArray)(w:World)(he:aA w a n c es) :
  Calls Tryz.prog 124 #[.slice a n c,.string s] w fun e w'=>e=.returned (.int .i64 (aN es s))∧Up w w':=by
 have hl:=he.len;subst hl;have eS:=he.sl.2.1;have eh:=he.sl.2.2.1;have HE:=Um he;clear he;go_enter Tryz.func124,Tryz.ntmps124;go_wp2_with fail
 go_loopw [5] (fun t3 wr=>∃k:Nat,k≤es.length∧t3=.int .i64 k∧aN es s=aN (es.drop k) s∧Up w wr) (fun t3 _=>es.length-(intOf t3).toNat)
 case atStart=>exact⟨0,Nat.zero_le _,rfl,by rw[List.drop_zero],Below.refl _ _⟩
 case round=>
  obtain⟨k,hk,rfl,hf,hb⟩:=hrel;by_cases hlt:k<es.length
  ·have o3:=HE.o.ak hb;obtain⟨b,off,rfl,hbl⟩:=o3.ey (by omega);obtain⟨c0,c1⟩:=o3.cell k hlt;rw[List.drop_eq_getElem_cons hlt,yO] at hf;have HF:=Um hf;have HB:=Um hb;have hcmp:=K9 es[k].name s;generalize es[k]=x at c0 c1 hcmp HF;clear hf hb o3;by_cases hx:x.name=s
   ·have HR:=Um (HF.o.trans (if_pos hx));rw[decide_eq_true hx] at hcmp;clear hx;go_wp2_with fail;go_ret;exact⟨by rw[HR.o];rfl,HB.o⟩
   ·have HR:=Um (HF.o.trans (if_neg hx));rw[decide_eq_false hx] at hcmp;clear hx;go_wp2_with fail;go_roundw
    case measure=>simp[intOf];omega
    case rel=>exact⟨k+1,by omega,by go_num,HR.o,HB.o⟩
  ·obtain rfl:k=es.length:=by omega
   rw[List.drop_length] at hf;have HR:=Um (show aN es s=0 from hf);have HB:=Um hb;clear hf hb;go_wp2_with fail;go_ret;exact⟨by rw[HR.o];rfl,HB.o⟩
theorem OE.DW{w:World}{base:Nat}{v:Value}{es:List En}(h:OE w base v es)(x:En)(hl:es.length≤1000000)(hb:base≤w.heap.size) :
  ∃g cap W,(Builtin.append_ #[97,97] 97 #[v,.slice (some ⟨w.heap.size,0,none⟩) 1 1]).run Tryz.prog (w.alloc (.cells #[.string x.name,.int .i64 x.no] 271))=.ok (.slice (some ⟨g,0,none⟩) (es.length+1) cap) W∧
   OE W base (.slice (some ⟨g,0,none⟩) (es.length+1) cap) (es++[x])∧Below base w W:=by
 obtain⟨i0,hi,iU,gx,fT⟩:=info_parts mK;have ho:=World.ownsRow.alloc h (.cells #[.string x.name,.int .i64 x.no] 271);obtain⟨g,cap,W,h1,h2,h3,h4⟩:=cX 97 Tryz.underlying97 hi iU gx fT rfl (by omega) ho ⟨w.heap.size,0,none⟩ 1 1 [.string x.name,.int .i64 x.no] rfl (World.news_of_block (au.new w #[.string x.name,.int .i64 x.no] 271)) (by intro u hu;simp at hu;rcases hu with rfl|rfl<;>rfl) (by omega) (by unfold maxLen;omega) (by omega) (by simp;omega);refine⟨g,cap,W,h1,?_,(((Below.refl base w).alloc hb _)).trans (h3.below (fun k hk=>(h.lt k hk).1) (by simp;omega))⟩;unfold OE;rw[List.length_append,List.length_singleton,List.flatMap_append];exact h2
theorem OE.form{w:World}{base:Nat}{v:Value}{es:List En}(h:OE w base v es):∃a c,v=.slice a es.length c∧aA w a es.length c es:=by
 obtain⟨a,c,rfl,-⟩:=bw h;exact⟨a,c,rfl,h.at⟩
theorem Kq(a s:ByteArray):(ie s a=true∧Op.bytesLess a.toList s.toList=false∧(a.toList==s.toList)=false)∨(ie s a=false∧Op.bytesLess a.toList s.toList=true)∨(ie s a=false∧Op.bytesLess a.toList s.toList=false∧(a.toList==s.toList)=true):=by
 rw[ua,K9]
 cases h1:ie a s with
 |true=>exact .inr (.inl ⟨qI h1,rfl⟩)
 |false=>
  cases h2:ie s a with
  |true=>exact .inl ⟨rfl,rfl,decide_eq_false (Ne.symm (Df h2))⟩
  |false=>exact .inr (.inr ⟨rfl,rfl,decide_eq_true (ny h1 h2)⟩)
def oU(n:ByteArray)(x:En):Bool:=ie x.name n
def mS(n:ByteArray)(x:En):Bool:=ie n x.name
theorem rX{p:En→Bool}(l:List En)(k:Nat)(hk:k<l.length)(h:p l[k]=true):(l.take (k+1)).filter p=(l.take k).filter p++[l[k]]:=by
 rw[List.take_succ_eq_append_getElem hk,List.filter_append];simp[h]
theorem uC{p:En→Bool}(l:List En)(k:Nat)(hk:k<l.length)(h:p l[k]=false):(l.take (k+1)).filter p=(l.take k).filter p:=by
 rw[List.take_succ_eq_append_getElem hk,List.filter_append];simp[h]
theorem mI(p:En→Bool)(l:List En)(k:Nat):((l.take k).filter p).length≤l.length:=by
 have h1:=List.length_filter_le p (l.take k);have h2:(l.take k).length≤l.length:=by rw[List.length_take];omega
 omega
theorem Ad(es:List En)(a:Option Addr)(n c:Nat)(s:ByteArray)(no:Int)(w:World)(he:aA w a n c es)(hn:n≤400000) :
  Calls Tryz.prog 191 #[.slice a n c,.string s,.int .i64 no] w fun e w'=>(∃a' n' c',e=.returned (.slice a' n' c')∧aA w' a' n' c' (dy es s no))∧Up w w':=by
 have hl:=he.len;subst hl;have eS:=he.sl.2.1;have eh:=he.sl.2.2.1;have HE:=Um he;have HP:=Um (show dy es s no=es.filter (oU s)++⟨s,no⟩::es.filter (mS s) from rfl);clear he;generalize dy es s no=R at HP⊢;go_enter Tryz.func191,Tryz.ntmps191;go_wp2_with fail
 go_loopw [7,8] (fun t4 t5 wr=>∃k:Nat,k≤es.length∧t5=.int .i64 k∧OE wr w.heap.size t4 ((es.take k).filter (oU s))∧Up w wr) (fun _ t5 _=>es.length-(intOf t5).toNat)
 case atStart=>exact⟨0,Nat.zero_le _,rfl,⟨rfl,.inl ⟨rfl,rfl⟩⟩,Below.refl _ _⟩
 case round=>
  obtain⟨k,hk,rfl,hO,hb⟩:=hrel;have HO:=Um hO;have HB:=Um hb;by_cases hlt:k<es.length
  ·have o3:=HE.o.ak hb;obtain⟨b,off,rfl,hbl⟩:=o3.ey (by omega);obtain⟨c0,c1⟩:=o3.cell k hlt;have HY:=Um (rX (p:=oU s) es k hlt);have HN:=Um (uC (p:=oU s) es k hlt);have hfl:=mI (oU s) es k;have hcmp:=ua es[k].name s;obtain⟨g,cap,W,hrun,iW,eM⟩:=hO.DW es[k] (by omega) hb.size;have HX:=Um (ag iW eM);generalize es[k]=x at c0 c1 hcmp HY HN hrun HX;clear hO hb o3 iW eM hfl
   cases hx:ie x.name s with
   |true=>
    rw[hx] at hcmp;have EV:=Um (HY.o hx);have HR:=Um hrun;clear hx hrun;go_wp2_with (at_builtin;refine aG rfl rfl rfl rfl HR.o ?_);go_roundw
    case measure=>simp[intOf];omega
    case rel=>exact⟨k+1,by omega,by go_num,by rw[EV.o];exact HX.o.1,HB.o.trans HX.o.2⟩
   |false=>
    rw[hx] at hcmp;have zw:=Um (HN.o hx);clear hx hrun;go_wp2_with fail;go_roundw
    case measure=>simp[intOf];omega
    case rel=>exact⟨k+1,by omega,by go_num,by rw[zw.o];exact HO.o,HB.o⟩
  ·obtain rfl:k=es.length:=by omega
   have hfl:=mI (oU s) es es.length;rw[List.take_length] at hO hfl;obtain⟨g,cap,W,hrun,iW,eM⟩:=hO.DW ⟨s,no⟩ (by omega) hb.size;have HX:=Um (ag iW (hb.trans eM));have HR:=Um hrun;generalize hlo:es.filter (oU s)=lo at HP HX HR hfl;clear hO hb iW eM hrun HO HB hlo;go_wp2_with (at_builtin;refine aG rfl rfl rfl rfl HR.o ?_)
   go_loopw [7,9] (fun t4 t6 wr=>∃k:Nat,k≤es.length∧t6=.int .i64 k∧OE wr w.heap.size t4 (lo++[⟨s,no⟩]++(es.take k).filter (mS s))∧Up w wr) (fun _ t6 _=>es.length-(intOf t6).toNat)
   case atStart=>exact⟨0,Nat.zero_le _,rfl,by simpa using HX.o.1,HX.o.2⟩
   case round=>
    obtain⟨k,hk,rfl,hO,hb⟩:=hrel;have HO:=Um hO;have HB:=Um hb;have hfl2:=mI (mS s) es k;have hln:(lo++[(⟨s,no⟩:En)]++(es.take k).filter (mS s)).length≤1000000:=by
     rw[List.length_append,List.length_append,List.length_singleton];omega
    by_cases hlt:k<es.length
    ·have o3:=HE.o.ak hb;obtain⟨b,off,rfl,hbl⟩:=o3.ey (by omega);obtain⟨c0,c1⟩:=o3.cell k hlt;have HY:=Um (rX (p:=mS s) es k hlt);have HN:=Um (uC (p:=mS s) es k hlt);have hcmp:=Kq es[k].name s;obtain⟨g,cap,W,hrun,iW,eM⟩:=hO.DW es[k] hln hb.size;have lZ:=Um (ag iW eM);generalize es[k]=x at c0 c1 hcmp HY HN hrun lZ;clear hO hb o3 iW eM hfl2 hln;generalize hcur:lo++[(⟨s,no⟩:En)]++(es.take k).filter (mS s)=cur at hrun lZ HO;have LA:=Um hcur;clear hcur;rcases hcmp with⟨hx,Dm,zj⟩|⟨hx,Dm⟩|⟨hx,Dm,zj⟩
     ·have EV:=Um (HY.o hx);have HR:=Um hrun;clear hx hrun;go_wp2_with (at_builtin;refine aG rfl rfl rfl rfl HR.o ?_);go_roundw
      case measure=>simp[intOf];omega
      case rel=>exact⟨k+1,by omega,by go_num,by rw[EV.o,←List.append_assoc,LA.o];exact lZ.o.1,HB.o.trans lZ.o.2⟩
     ·have zw:=Um (HN.o hx);clear hx hrun;go_wp2_with fail;go_roundw
      case measure=>simp[intOf];omega
      case rel=>exact⟨k+1,by omega,by go_num,by rw[zw.o,LA.o];exact HO.o,HB.o⟩
     ·have zw:=Um (HN.o hx);clear hx hrun;go_wp2_with fail;go_roundw
      case measure=>simp[intOf];omega
      case rel=>exact⟨k+1,by omega,by go_num,by rw[zw.o,LA.o];exact HO.o,HB.o⟩
    ·obtain rfl:k=es.length:=by omega
     rw[List.take_length] at hO;obtain⟨a2,c2,rfl,zr⟩:=hO.form;have od:=Um (show aA wr a2 (lo++[(⟨s,no⟩:En)]++es.filter (mS s)).length c2 R by
      rw[HP.o];simpa using zr)
     clear hO hb zr HO hln;go_wp2_with fail;go_ret;exact⟨⟨_,_,_,rfl,od.o⟩,HB.o⟩
end
section
open Go.RowKit
theorem Gg{S:Fs}{N:Nat}(hk:av S N)(a:An):gY (S.make a).1:=by
 unfold Fs.make
 split
 ·exact hk.nums
 ·split
  ·exact hk.nums
  ·rename_i v hv;simp only
   split
   ·have ig:=hk.aR (u:={v with b:=v.b+bR a.kind a.data.size,n:=v.n+1}) hv rfl;exact ig.nums.add ig.l0 a
   ·exact hk.nums
section
variable{w w':World}{pf:Nat}{R:Rf}{S:Fs}
theorem aE.Qb(h:aE w pf R S){B:Nat}{vs:Array Value}{T:TypeId}(hB:au w B vs T)(hF:¬R.F pf B)(hT:T≠271)(hm:Mod (fun k=>k=B) w w'):aE w' pf R S:=by
 refine h.eB (fun k hk=>hm.block k (h.lt hk) (fun e=>hF (e▸hk))) (fun b cur hc=>hm.block b (Array.getElem?_eq_some_iff.1 hc).1 (fun e=>?_)) hm.size;subst e;unfold au at hB;rw[hB] at hc;injection hc with hc;injection hc with _ hc;exact hT hc
theorem tq(h:aE w pf R S)(hn:gY S)(dir:Int){d:An}(hg:S.get dir=some d){a:Option Addr}{n c:Nat}{l:List En}(hl:aA w a n c l) :
  Calls Tryz.prog 190 #[.pointer (some ⟨pf,0,none⟩),.int .i64 dir,.slice a n c] w fun e w'=>e=.returned (.tuple #[])∧∃R',aE w' pf R' (S.dk R.now dir l)∧aL (R.F pf) (R'.F pf) w w'∧Rf.ct R R':=by
 obtain⟨ea,el,ec,-,hG⟩:=fe h hg;have HT:=Um (show S.dk R.now dir l=S.set {d with aB:=l,mtime:=R.now,ctime:=R.now} by unfold Fs.dk;rw[hg]);have hno:=dx hg;have dW:=Um (fun w1 (hb:Up w w1)=>iL (h.ak hb) hn (a:={d with aB:=l,mtime:=R.now,ctime:=R.now}) (hl.ak hb) (b:=d) (by show S.get d.no=some d;rw[hno];exact hg));have HG:=Um (hG w (Below.refl _ _));unfold An.v at HG dW;obtain⟨pc,-,pz⟩:=h.bd.facts;generalize hnow:R.now=now at HT dW pc;clear h hn hg hl hG hno hnow;go_enter Tryz.func190,Tryz.ntmps190;go_wp2_with fail;refine HG.o.mono ?_;rintro e w1 ⟨rfl,ar⟩;have pc3:=(ar.cell (p:=⟨pf,3,none⟩) pz).trans (pc 3);have mC:pf<w1.heap.size:=Nat.lt_of_lt_of_le pz ar.size;have ax:=al ar (.cells #[.int .i64 d.no,.int .i64 d.dev,.int .i64 d.kind,.int .i64 d.mode,.int .i64 d.uid,.int .i64 d.gid,.int .i64 now,.int .i64 now,.int .i64 d.an,.int .i64 d.up,.string d.data,.slice a n c] 99);have HS:=Um (dW.o _ ax);have aJ:=Um ax;clear ar ax pc;go_wp2_with fail;refine HS.o.mono ?_;rintro e w5 ⟨rfl,R',ev,fo,gy,-⟩;have HR:=Um (ag ev (ag fo gy));clear ev fo gy;go_wp2_with fail
 go_end0
 rw[HT.o];exact⟨rfl,R',HR.o.1,(aL.aq aJ.o).trans HR.o.2.1,HR.o.2.2⟩
end
end
section
open Go.RowKit
theorem JQ{S:Fs}{a:An}(h:(S.make a).2.2≠0):(S.make a).1=S:=by
 revert h;unfold Fs.make
 split
 ·intro _;rfl
 ·split
  ·intro _;rfl
  ·simp only
   split
   ·intro h;exact absurd rfl h
   ·intro _;rfl
section
variable{w w':World}{pf:Nat}{R:Rf}{S:Fs}
theorem oD(h:aE w pf R S)(cr:Cr){N:Nat}(hk:av S N)(hN:N≤100000)(hgl:S.ns.length≤100000)(dir:Int)(s:ByteArray)(hs:s.size≤100000)(a:An)(he:a.aB=[])(hsz:a.data.size≤1048576) :
  Calls Tryz.prog 119 #[.pointer (some ⟨pf,0,none⟩),.agg #[.int .i64 cr.u,.int .i64 cr.g],.int .i64 dir,.string s,a.v none 0 0] w fun e w'=>e=.returned (.tuple #[.int .i64 (S.cS cr R.now dir s a).2.1,.int .i64 (S.cS cr R.now dir s a).2.2])∧∃R',aE w' pf R' (S.cS cr R.now dir s a).1∧aL (R.F pf) (R'.F pf) w w'∧Rf.ct R R':=by
 have hkeep:∀w2,Up w w2→∃R',aE w2 pf R' S∧aL (R.F pf) (R'.F pf) w w2∧Rf.ct R R':=fun w2 hb=>⟨R,h.ak hb,aL.aq hb,Rf.ct.refl R⟩;have jV:=Um hkeep;have bO:=al (al (Uq w) (.cells #[.int .i64 cr.u,.int .i64 cr.g] 69)) (.cells #[.int .i64 a.no,.int .i64 a.dev,.int .i64 a.kind,.int .i64 a.mode,.int .i64 a.uid,.int .i64 a.gid,.int .i64 a.mtime,.int .i64 a.ctime,.int .i64 a.an,.int .i64 a.up,.string a.data,.slice none 0 0] 99);have bP:=Um bO
 cases hg:S.get dir with
 |none=>
  have HC:=Um (show S.cS cr R.now dir s a=(S,0,5) by
   have hp:S.aW cr dir s=5:=by unfold Fs.aW;rw[hg]
   unfold Fs.cS;rw[if_pos (by rw[hp];decide),hp])
  have HP:=Um (pj (h.ak bO) cr dir s hg);unfold An.v dh at HP;unfold An.v;clear h hk hg hkeep bO;go_enter Tryz.func119,Tryz.ntmps119;go_wp2_with fail;refine HP.o.mono ?_;rintro e w1 ⟨rfl,ar⟩;have HB:=Um (al (ao bP.o ar) (.cells #[.int .i64 0,.int .i64 0,.int .i64 0,.int .i64 0,.int .i64 0,.int .i64 0,.int .i64 0,.int .i64 0,.int .i64 0,.int .i64 0,.string ByteArray.empty,.slice none 0 0] 99));clear ar;go_wp2_with fail;go_ret2;rw[HC.o];exact⟨rfl,jV.o _ HB.o⟩
 |some d=>
  obtain⟨ea,el,ec,hE,hP⟩:=ph (h.ak bO) cr hk dir s hs d hg;obtain⟨hdo,hdn,-,-⟩:=hk.get hg;have HP:=Um hP;have gO:=au.new (w.alloc (.cells #[.int .i64 cr.u,.int .i64 cr.g] 69)) #[.int .i64 a.no,.int .i64 a.dev,.int .i64 a.kind,.int .i64 a.mode,.int .i64 a.uid,.int .i64 a.gid,.int .i64 a.mtime,.int .i64 a.ctime,.int .i64 a.an,.int .i64 a.up,.string a.data,.slice none 0 0] 99;rw[World.size_alloc] at gO;have eS:=(au.new w #[.int .i64 cr.u,.int .i64 cr.g] 69).eE (.cells #[.int .i64 a.no,.int .i64 a.dev,.int .i64 a.kind,.int .i64 a.mode,.int .i64 a.uid,.int .i64 a.gid,.int .i64 a.mtime,.int .i64 a.ctime,.int .i64 a.an,.int .i64 a.up,.string a.data,.slice none 0 0] 99);have QP:=h.ak bO;have hF:∀k,w.heap.size≤k→¬R.F pf k:=fun k hk hf=>by have:=h.lt hf;omega
  have HF:=Um hF;have oc:=Um (ag gO (ag eS (ag QP hE)));have HC:=Um (show S.cS cr R.now dir s a=if S.aW cr dir s≠0 then(S,0,S.aW cr dir s) else if aN d.aB s≠0 then(S,0,7) else if(S.make {a with dev:=d.dev,uid:=cr.u,gid:=cr.g,mtime:=R.now,ctime:=R.now,an:=1}).2.2≠0 then(S,0,(S.make {a with dev:=d.dev,uid:=cr.u,gid:=cr.g,mtime:=R.now,ctime:=R.now,an:=1}).2.2) else((S.make {a with dev:=d.dev,uid:=cr.u,gid:=cr.g,mtime:=R.now,ctime:=R.now,an:=1}).1.dk R.now dir (dy d.aB s (S.make {a with dev:=d.dev,uid:=cr.u,gid:=cr.g,mtime:=R.now,ctime:=R.now,an:=1}).2.1),(S.make {a with dev:=d.dev,uid:=cr.u,gid:=cr.g,mtime:=R.now,ctime:=R.now,an:=1}).2.1,0) by
   unfold Fs.cS;rw[hg])
  have HMb:=Um (JQ (S:=S) (a:={a with dev:=d.dev,uid:=cr.u,gid:=cr.g,mtime:=R.now,ctime:=R.now,an:=1}));have sx:=Um (Gg hk {a with dev:=d.dev,uid:=cr.u,gid:=cr.g,mtime:=R.now,ctime:=R.now,an:=1});have HGm:=Um (Ks hk {a with dev:=d.dev,uid:=cr.u,gid:=cr.g,mtime:=R.now,ctime:=R.now,an:=1} hg);have jU:=Um (fun w1 (h1:aE w1 pf R S)=>FK h1 hk (by omega) (by omega) {a with dev:=d.dev,uid:=cr.u,gid:=cr.g,mtime:=R.now,ctime:=R.now,an:=1} none 0 0 (by show aA w1 none 0 0 a.aB;rw[he];exact aA.nil w1) hsz);have hel:el≤100000:=by
   have h1:=hE.len;have h2:=hdo.BB;omega
  obtain⟨pc,-,pz⟩:=h.bd.facts;have Re:=Um pc;obtain⟨q,hq⟩:∃q,S.make {a with dev:=d.dev,uid:=cr.u,gid:=cr.g,mtime:=R.now,ctime:=R.now,an:=1}=q:=⟨_,rfl⟩;rw[hq] at HC HMb sx HGm jU;obtain⟨S2,no,er⟩:=q;unfold An.v at HP jU;unfold An.v;generalize S.aW cr dir s=pe at HC HP;generalize hnow:R.now=now at HC jU;have jT:=Um hnow;clear h hk hg hkeep bO hE hP hdo hdn gO eS QP hF pc hq hnow;go_enter Tryz.func119,Tryz.ntmps119;go_wp2_with fail;refine HP.o.mono ?_;rintro e w1 ⟨⟨hpe,rfl⟩|⟨rfl,rfl⟩,ar⟩
  ·have B5:=Um (HC.o.trans (if_pos hpe));have hpb:(pe != 0)=true:=by simpa using hpe
   have HB:=Um (al (ao bP.o ar) (.cells #[.int .i64 0,.int .i64 0,.int .i64 0,.int .i64 0,.int .i64 0,.int .i64 0,.int .i64 0,.int .i64 0,.int .i64 0,.int .i64 0,.string ByteArray.empty,.slice none 0 0] 99));clear ar hpe;unfold dh;go_wp2_with fail;go_ret2;rw[B5.o];exact⟨rfl,jV.o _ HB.o⟩
  ·have B5:=Um (HC.o.trans (if_neg (by simp)));obtain⟨gO,eS,QP,Q2⟩:=oc.o;have jj:=(gO.ak ar).eE (.cells #[.int .i64 d.no,.int .i64 d.dev,.int .i64 d.kind,.int .i64 d.mode,.int .i64 d.uid,.int .i64 d.gid,.int .i64 d.mtime,.int .i64 d.ctime,.int .i64 d.an,.int .i64 d.up,.string d.data,.slice ea el ec] 99);have eh:=(eS.ak ar).eE (.cells #[.int .i64 d.no,.int .i64 d.dev,.int .i64 d.kind,.int .i64 d.mode,.int .i64 d.uid,.int .i64 d.gid,.int .i64 d.mtime,.int .i64 d.ctime,.int .i64 d.an,.int .i64 d.up,.string d.data,.slice ea el ec] 99);have ax:=(Below.refl _ w1).alloc (aa _) (.cells #[.int .i64 d.no,.int .i64 d.dev,.int .i64 d.kind,.int .i64 d.mode,.int .i64 d.uid,.int .i64 d.gid,.int .i64 d.mtime,.int .i64 d.ctime,.int .i64 d.an,.int .i64 d.up,.string d.data,.slice ea el ec] 99);have QO:=(QP.ak ar).ak ax;have zr:=(Q2.ak ar).ak ax;have nP:=au.new w1 #[.int .i64 d.no,.int .i64 d.dev,.int .i64 d.kind,.int .i64 d.mode,.int .i64 d.uid,.int .i64 d.gid,.int .i64 d.mtime,.int .i64 d.ctime,.int .i64 d.an,.int .i64 d.up,.string d.data,.slice ea el ec] 99;have hbb:=al (ao bP.o ar) (.cells #[.int .i64 d.no,.int .i64 d.dev,.int .i64 d.kind,.int .i64 d.mode,.int .i64 d.uid,.int .i64 d.gid,.int .i64 d.mtime,.int .i64 d.ctime,.int .i64 d.an,.int .i64 d.up,.string d.data,.slice ea el ec] 99);have hD:w.heap.size+2≤w1.heap.size:=by
    have:=ar.size;simpa using this
   go_upto_region 2 with fail;generalize w1.alloc _=X at jj eh ax QO zr nP hbb⊢;generalize w1.heap.size=D at nP hD⊢;have HX:=Um (ag jj (ag eh (ag QO (ag zr (ag nP hbb)))));have Oa:=Um (nj d.aB ea el ec s X zr);obtain⟨dc,df,dz⟩:=nP.facts;clear ar gO eS QP Q2 jj eh ax QO zr nP hbb;go_wp2_with fail;refine Oa.o.mono ?_;rintro e w2 ⟨rfl,aD⟩;by_cases hf:aN d.aB s=0
   ·have Rv:=Um (B5.o.trans (if_neg (by simpa using hf)));have hfb:(aN d.aB s != 0)=false:=by simpa using hf
    obtain⟨jj,eh,QO,zr,nP,hbb⟩:=HX.o;have J6:=jj.ak aD;have No:=eh.ak aD;have hh3:=QO.ak aD;have zn:=nP.ak aD;have hbw:=ao hbb aD;have hm:=(((((((Mod.refl (fun k=>k=w.heap.size+1) w2).setCell (a:=⟨w.heap.size+1,1,none⟩) (.inl rfl) (.int .i64 d.dev)).setCell (a:=⟨w.heap.size+1,4,none⟩) (.inl rfl) (.int .i64 cr.u)).setCell (a:=⟨w.heap.size+1,5,none⟩) (.inl rfl) (.int .i64 cr.g)).setCell (a:=⟨w.heap.size+1,6,none⟩) (.inl rfl) (.int .i64 now)).setCell (a:=⟨w.heap.size+1,7,none⟩) (.inl rfl) (.int .i64 now)).setCell (a:=⟨w.heap.size+1,8,none⟩) (.inl rfl) (.int .i64 1));have QN:=hh3.Qb J6 (HF.o _ (by omega)) (by decide) hm;have Dn:=(((((J6.set 1 (.int .i64 d.dev)).set 4 (.int .i64 cr.u)).set 5 (.int .i64 cr.g)).set 6 (.int .i64 now)).set 7 (.int .i64 now)).set 8 (.int .i64 1);have wY:=zn.mod hm (by omega);have DB:=(zr.ak aD).eB (fun b cur hc=>hm.block b (Array.getElem?_eq_some_iff.1 hc).1 (fun e=>by
     subst e;unfold au at J6;rw[J6] at hc;injection hc with hc;injection hc with _ hc;revert hc;decide)) hm.size
    have yv:=(((((((Mod.aq hbw:Mod (R.F pf) w w2).setCell (a:=⟨w.heap.size+1,1,none⟩) (.inr (Nat.le_succ _)) (.int .i64 d.dev)).setCell (a:=⟨w.heap.size+1,4,none⟩) (.inr (Nat.le_succ _)) (.int .i64 cr.u)).setCell (a:=⟨w.heap.size+1,5,none⟩) (.inr (Nat.le_succ _)) (.int .i64 cr.g)).setCell (a:=⟨w.heap.size+1,6,none⟩) (.inr (Nat.le_succ _)) (.int .i64 now)).setCell (a:=⟨w.heap.size+1,7,none⟩) (.inr (Nat.le_succ _)) (.int .i64 now)).setCell (a:=⟨w.heap.size+1,8,none⟩) (.inr (Nat.le_succ _)) (.int .i64 1));obtain⟨nc,nf,nz⟩:=J6.facts;obtain⟨cc,cf,cz⟩:=No.facts;obtain⟨ec3,ef3,ez3⟩:=zn.facts;obtain⟨xc,xf,xz⟩:=hh3.bd.facts;have hxc3:w2.cell? ⟨pf,3,none⟩=some (.int .i64 now):=by rw[xc 3,jT.o];rfl
    have mC:¬pf=w.heap.size+1:=by omega
    have Pn:¬w.heap.size+1=pf:=by omega
    have hp3:¬D=w.heap.size+1:=by omega
    have Om:¬w.heap.size+1=D:=by omega
    have HY:=Um (ag QN (ag Dn (ag wY (ag DB yv))));clear hf aD jj eh QO zr nP hbb J6 No hh3 zn hbw hm QN Dn wY DB yv xc xf dc df dz;go_upto_region 12 with fail;generalize (((((w2.setCell ⟨w.heap.size+1,1,none⟩ (.int .i64 d.dev)).setCell ⟨w.heap.size+1,4,none⟩ (.int .i64 cr.u)).setCell ⟨w.heap.size+1,5,none⟩ (.int .i64 cr.g)).setCell ⟨w.heap.size+1,6,none⟩ (.int .i64 now)).setCell ⟨w.heap.size+1,7,none⟩ (.int .i64 now)).setCell ⟨w.heap.size+1,8,none⟩ (.int .i64 1)=Y at HY⊢;obtain⟨QN,Dn,wY,DB,yv⟩:=HY.o;have HMk2:=Um (jU.o Y QN);obtain⟨yc,yf,yz⟩:=Dn.facts;clear nc nf nz cc cf cz ec3 ef3 ez3 hxc3 xz Dn;go_wp2_with fail;refine HMk2.o.mono ?_;rintro e w5 ⟨rfl,R5,gQ,eu,Bf⟩;have Dw:=wY.mod eu.mod (HF.o D (by omega));have Nz:=DB.rf QN eu;obtain⟨ec5,ef5,ez5⟩:=Dw.facts;have oZ:=Um (ag gQ (ag ((aL.dH yv).trans eu) Bf));clear QN wY DB yv yc yf yz gQ eu Bf Dw;by_cases her:er=0
    ·have HC4:=Um (Rv.o.trans (if_neg (by simpa using her)));have herb:(er != 0)=false:=by simpa using her
     have HPu:=Um (Ad d.aB ea el ec s no w5 Nz (by omega));clear her Nz;go_wp2_with fail;refine HPu.o.mono ?_;rintro e w6 ⟨⟨a6,n6,c6,rfl,PQ⟩,eV⟩;have Ip:=Um (tq (oZ.o.1.ak eV) sx.o dir HGm.o PQ);rw[oZ.o.2.2.now,jT.o] at Ip;have sP:=Um eV;clear PQ eV ec5 ef5 ez5;go_wp2_with fail;refine Ip.o.mono ?_;rintro e w7 ⟨rfl,R7,Dy,qO,Km⟩;have LX:=Um (ag Dy (ag ((oZ.o.2.1.trans (aL.aq sP.o)).trans qO) (oZ.o.2.2.trans Km)));clear Dy qO Km;go_wp2_with fail;go_ret2;rw[HC4.o];exact⟨rfl,R7,LX.o⟩
    ·have HC4:=Um (Rv.o.trans (if_pos (by simpa using her)));have herb:(er != 0)=true:=by simpa using her
     have HM:=Um (show S2=S from HMb.o her);clear her Nz;go_wp2_with fail;go_ret2;rw[HC4.o];refine⟨rfl,R5,?_,oZ.o.2⟩;have h9:=oZ.o.1;rw[HM.o] at h9;exact h9
   ·have Rv:=Um (B5.o.trans (if_pos (by simpa using hf)));have hfb:(aN d.aB s != 0)=true:=by simpa using hf
    have HB:=Um (ao HX.o.2.2.2.2.2 aD);clear hf aD;go_wp2_with fail;go_ret2;rw[Rv.o];exact⟨rfl,jV.o _ HB.o⟩
end
end
section
open Go.RowKit
section
variable{w w':World}{pf:Nat}{R:Rf}{S:Fs}
theorem FU(h:aE w pf R S)(cr:Cr){N:Nat}(hk:av S N)(hN:N≤100000)(hgl:S.ns.length≤100000)(dir:Int)(s:ByteArray)(hs:s.size≤100000)(mode:Int) :
  Calls Tryz.prog 161 #[.pointer (some ⟨pf,0,none⟩),.agg #[.int .i64 cr.u,.int .i64 cr.g],.int .i64 dir,.string s,.int .i64 mode] w fun e w'=>e=.returned (.tuple #[.int .i64 (S.br cr R.now dir s mode).2.1,.int .i64 (S.br cr R.now dir s mode).2.2])∧∃R',aE w' pf R' (S.br cr R.now dir s mode).1∧aL (R.F pf) (R'.F pf) w w'∧Rf.ct R R':=by
 have hkeep:∀w2,Up w w2→∃R',aE w2 pf R' S∧aL (R.F pf) (R'.F pf) w w2∧Rf.ct R R':=fun w2 hb=>⟨R,h.ak hb,aL.aq hb,Rf.ct.refl R⟩;have jV:=Um hkeep;have bO:=(Below.refl _ w).alloc (aa _) (.cells #[.int .i64 cr.u,.int .i64 cr.g] 69);have bP:=Um bO;by_cases h1:mode<0
 ·have HQ:=Um (show S.br cr R.now dir s mode=(S,0,1) by unfold Fs.br;rw[if_pos (.inl h1)]);clear h hk hgl hkeep bO;go_enter Tryz.func161,Tryz.ntmps161;go_wp2_with fail;go_ret2;rw[HQ.o];exact⟨rfl,jV.o _ bP.o⟩
 ·by_cases h2:1023<mode
  ·have HQ:=Um (show S.br cr R.now dir s mode=(S,0,1) by unfold Fs.br;rw[if_pos (.inr h2)]);clear h hk hgl hkeep bO;go_enter Tryz.func161,Tryz.ntmps161;go_wp2_with fail;go_ret2;rw[HQ.o];exact⟨rfl,jV.o _ bP.o⟩
  ·have HQ:=Um (show S.br cr R.now dir s mode=S.cS cr R.now dir s {dh with kind:=1,mode:=mode,up:=dir} by unfold Fs.br;rw[if_neg (by omega)]);have Qx:=Um (show Calls Tryz.prog 119 #[.pointer (some ⟨pf,0,none⟩),.agg #[.int .i64 cr.u,.int .i64 cr.g],.int .i64 dir,.string s,.agg #[.int .i64 0,.int .i64 0,.int .i64 1,.int .i64 mode,.int .i64 0,.int .i64 0,.int .i64 0,.int .i64 0,.int .i64 0,.int .i64 dir,.string ByteArray.empty,.slice none 0 0]] (w.alloc (.cells #[.int .i64 cr.u,.int .i64 cr.g] 69)) fun e w'=>e=.returned (.tuple #[.int .i64 (S.cS cr R.now dir s {dh with kind:=1,mode:=mode,up:=dir}).2.1,.int .i64 (S.cS cr R.now dir s {dh with kind:=1,mode:=mode,up:=dir}).2.2])∧∃R',aE w' pf R' (S.cS cr R.now dir s {dh with kind:=1,mode:=mode,up:=dir}).1∧aL (R.F pf) (R'.F pf) (w.alloc (.cells #[.int .i64 cr.u,.int .i64 cr.g] 69)) w'∧Rf.ct R R' from oD (h.ak bO) cr hk hN hgl dir s hs {dh with kind:=1,mode:=mode,up:=dir} rfl (by show(0:Nat)≤1048576;omega));clear h hk hgl hkeep bO;go_enter Tryz.func161,Tryz.ntmps161;go_wp2_with fail;refine Qx.o.mono ?_;rintro e w1 ⟨rfl,R',hR,hS,hL⟩;have HX:=Um (ag hR (ag ((aL.aq bP.o).trans hS) hL));clear hR hS hL;go_wp2_with fail;go_ret2;rw[HQ.o];exact⟨rfl,R',HX.o⟩
theorem Ar(h:aE w pf R S){N:Nat}(hk:av S N)(hN:N≤100000)(hgl:S.ns.length≤100000)(dir:Int)(s:ByteArray)(hs:s.size≤100000)(mode:Int) :
  Calls Tryz.prog 161 #[.pointer (some ⟨pf,0,none⟩),.agg #[.int .i64 0,.int .i64 0],.int .i64 dir,.string s,.int .i64 mode] w fun e w'=>e=.returned (.tuple #[.int .i64 (S.br bQ R.now dir s mode).2.1,.int .i64 (S.br bQ R.now dir s mode).2.2])∧∃R',aE w' pf R' (S.br bQ R.now dir s mode).1∧aL (R.F pf) (R'.F pf) w w'∧Rf.ct R R':=FU h bQ hk hN hgl dir s hs mode
theorem tA(h:aE w pf R S)(cr:Cr){N:Nat}(hk:av S N)(hN:N≤100000)(hgl:S.ns.length≤100000)(dir:Int)(s:ByteArray)(hs:s.size≤100000)(mode:Int)(data:ByteArray) :
  Calls Tryz.prog 70 #[.pointer (some ⟨pf,0,none⟩),.agg #[.int .i64 cr.u,.int .i64 cr.g],.int .i64 dir,.string s,.int .i64 mode,.string data] w fun e w'=>e=.returned (.tuple #[.int .i64 (S.file cr R.now dir s mode data).2.1,.int .i64 (S.file cr R.now dir s mode data).2.2])∧∃R',aE w' pf R' (S.file cr R.now dir s mode data).1∧aL (R.F pf) (R'.F pf) w w'∧Rf.ct R R':=by
 have hkeep:∀w2,Up w w2→∃R',aE w2 pf R' S∧aL (R.F pf) (R'.F pf) w w2∧Rf.ct R R':=fun w2 hb=>⟨R,h.ak hb,aL.aq hb,Rf.ct.refl R⟩;have jV:=Um hkeep;have bO:=(Below.refl _ w).alloc (aa _) (.cells #[.int .i64 cr.u,.int .i64 cr.g] 69);have bP:=Um bO;by_cases h1:mode<0
 ·have HQ:=Um (show S.file cr R.now dir s mode data=(S,0,1) by unfold Fs.file;rw[if_pos (.inl h1)]);clear h hk hgl hkeep bO;go_enter Tryz.func70,Tryz.ntmps70;go_wp2_with fail;go_ret2;rw[HQ.o];exact⟨rfl,jV.o _ bP.o⟩
 ·by_cases h2:1023<mode
  ·have HQ:=Um (show S.file cr R.now dir s mode data=(S,0,1) by unfold Fs.file;rw[if_pos (.inr h2)]);clear h hk hgl hkeep bO;go_enter Tryz.func70,Tryz.ntmps70;go_wp2_with fail;go_ret2;rw[HQ.o];exact⟨rfl,jV.o _ bP.o⟩
  ·by_cases h3:1048576<data.size
   ·have HQ:=Um (show S.file cr R.now dir s mode data=(S,0,3) by unfold Fs.file;rw[if_neg (by omega),if_pos h3]);have P0:(1048576:Int)<(data.size:Int):=by omega
    clear h hk hgl hkeep bO;go_enter Tryz.func70,Tryz.ntmps70;go_wp2_with fail;go_ret2;rw[HQ.o];exact⟨rfl,jV.o _ bP.o⟩
   ·have HQ:=Um (show S.file cr R.now dir s mode data=S.cS cr R.now dir s {dh with kind:=2,mode:=mode,data:=data} by unfold Fs.file;rw[if_neg (by omega),if_neg h3]);have P0:¬(1048576:Int)<(data.size:Int):=by omega
    have Qx:=Um (show Calls Tryz.prog 119 #[.pointer (some ⟨pf,0,none⟩),.agg #[.int .i64 cr.u,.int .i64 cr.g],.int .i64 dir,.string s,.agg #[.int .i64 0,.int .i64 0,.int .i64 2,.int .i64 mode,.int .i64 0,.int .i64 0,.int .i64 0,.int .i64 0,.int .i64 0,.int .i64 0,.string data,.slice none 0 0]] (w.alloc (.cells #[.int .i64 cr.u,.int .i64 cr.g] 69)) fun e w'=>e=.returned (.tuple #[.int .i64 (S.cS cr R.now dir s {dh with kind:=2,mode:=mode,data:=data}).2.1,.int .i64 (S.cS cr R.now dir s {dh with kind:=2,mode:=mode,data:=data}).2.2])∧∃R',aE w' pf R' (S.cS cr R.now dir s {dh with kind:=2,mode:=mode,data:=data}).1∧aL (R.F pf) (R'.F pf) (w.alloc (.cells #[.int .i64 cr.u,.int .i64 cr.g] 69)) w'∧Rf.ct R R' from oD (h.ak bO) cr hk hN hgl dir s hs {dh with kind:=2,mode:=mode,data:=data} rfl (by show data.size≤1048576;omega));clear h hk hgl hkeep bO;go_enter Tryz.func70,Tryz.ntmps70;go_wp2_with fail;refine Qx.o.mono ?_;rintro e w1 ⟨rfl,R',hR,hS,hL⟩;have HX:=Um (ag hR (ag ((aL.aq bP.o).trans hS) hL));clear hR hS hL;go_wp2_with fail;go_ret2;rw[HQ.o];exact⟨rfl,R',HX.o⟩
theorem FR(h:aE w pf R S){N:Nat}(hk:av S N)(hN:N≤100000)(hgl:S.ns.length≤100000)(dir:Int)(s:ByteArray)(hs:s.size≤100000)(mode:Int)(data:ByteArray) :
  Calls Tryz.prog 70 #[.pointer (some ⟨pf,0,none⟩),.agg #[.int .i64 0,.int .i64 0],.int .i64 dir,.string s,.int .i64 mode,.string data] w fun e w'=>e=.returned (.tuple #[.int .i64 (S.file bQ R.now dir s mode data).2.1,.int .i64 (S.file bQ R.now dir s mode data).2.2])∧∃R',aE w' pf R' (S.file bQ R.now dir s mode data).1∧aL (R.F pf) (R'.F pf) w w'∧Rf.ct R R':=tA h bQ hk hN hgl dir s hs mode data
theorem FE(h:aE w pf R S)(cr:Cr){N:Nat}(hk:av S N)(hN:N≤100000)(hgl:S.ns.length≤100000)(dir:Int)(s:ByteArray)(hs:s.size≤100000)(text:ByteArray)(ht:text.size≤100000) :
  Calls Tryz.prog 163 #[.pointer (some ⟨pf,0,none⟩),.agg #[.int .i64 cr.u,.int .i64 cr.g],.int .i64 dir,.string s,.string text] w fun e w'=>e=.returned (.tuple #[.int .i64 (S.sym cr R.now dir s text).2.1,.int .i64 (S.sym cr R.now dir s text).2.2])∧∃R',aE w' pf R' (S.sym cr R.now dir s text).1∧aL (R.F pf) (R'.F pf) w w'∧Rf.ct R R':=by
 have hkeep:∀w2,Up w w2→∃R',aE w2 pf R' S∧aL (R.F pf) (R'.F pf) w w2∧Rf.ct R R':=fun w2 hb=>⟨R,h.ak hb,aL.aq hb,Rf.ct.refl R⟩;have jV:=Um hkeep;have bO:=(Below.refl _ w).alloc (aa _) (.cells #[.int .i64 cr.u,.int .i64 cr.g] 69);have bP:=Um bO;have T0:=Um (fun w=>sH text 0 w (by omega));have hq:hasB text 0=decide ((0:UInt8)∈text.data.toList):=rfl;have hte:text.toList=text.data.toList:=aC text;by_cases h1:text.data.toList=[]
 ·have HQ:=Um (show S.sym cr R.now dir s text=(S,0,1) by unfold Fs.sym;rw[if_pos (.inl h1)]);have Q8:text.toList=[]:=by rw[hte];exact h1
  clear h hk hgl hkeep bO hq hte h1;go_enter Tryz.func163,Tryz.ntmps163;go_wp2_with fail;go_ret2;rw[HQ.o];exact⟨rfl,jV.o _ bP.o⟩
 ·have Q8:text.toList.isEmpty=false:=by rw[hte];simpa using h1
  by_cases h2:(0:UInt8)∈text.data.toList
  ·have HQ:=Um (show S.sym cr R.now dir s text=(S,0,1) by unfold Fs.sym;rw[if_pos (.inr h2)]);rw[hq,decide_eq_true h2] at T0;clear h hk hgl hkeep bO hq hte h1 h2;go_enter Tryz.func163,Tryz.ntmps163;go_wp2_with fail;refine(T0.o _).mono ?_;rintro e w1 ⟨rfl,rfl⟩;go_wp2_with fail;go_ret2;rw[HQ.o];exact⟨rfl,jV.o _ bP.o⟩
  ·rw[hq,decide_eq_false h2] at T0;by_cases h3:4096<text.size
   ·have HQ:=Um (show S.sym cr R.now dir s text=(S,0,13) by unfold Fs.sym;rw[if_neg (by rintro(h|h);exact h1 h;exact h2 h),if_pos h3]);have P0:(4096:Int)<(text.size:Int):=by omega
    clear h hk hgl hkeep bO hq hte h1 h2;go_enter Tryz.func163,Tryz.ntmps163;go_wp2_with fail;refine(T0.o _).mono ?_;rintro e w1 ⟨rfl,rfl⟩;go_wp2_with fail;go_ret2;rw[HQ.o];exact⟨rfl,jV.o _ bP.o⟩
   ·have HQ:=Um (show S.sym cr R.now dir s text=S.cS cr R.now dir s {dh with kind:=3,mode:=511,data:=text} by unfold Fs.sym;rw[if_neg (by rintro(h|h);exact h1 h;exact h2 h),if_neg h3]);have P0:¬(4096:Int)<(text.size:Int):=by omega
    have Qx:=Um (show Calls Tryz.prog 119 #[.pointer (some ⟨pf,0,none⟩),.agg #[.int .i64 cr.u,.int .i64 cr.g],.int .i64 dir,.string s,.agg #[.int .i64 0,.int .i64 0,.int .i64 3,.int .i64 511,.int .i64 0,.int .i64 0,.int .i64 0,.int .i64 0,.int .i64 0,.int .i64 0,.string text,.slice none 0 0]] (w.alloc (.cells #[.int .i64 cr.u,.int .i64 cr.g] 69)) fun e w'=>e=.returned (.tuple #[.int .i64 (S.cS cr R.now dir s {dh with kind:=3,mode:=511,data:=text}).2.1,.int .i64 (S.cS cr R.now dir s {dh with kind:=3,mode:=511,data:=text}).2.2])∧∃R',aE w' pf R' (S.cS cr R.now dir s {dh with kind:=3,mode:=511,data:=text}).1∧aL (R.F pf) (R'.F pf) (w.alloc (.cells #[.int .i64 cr.u,.int .i64 cr.g] 69)) w'∧Rf.ct R R' from oD (h.ak bO) cr hk hN hgl dir s hs {dh with kind:=3,mode:=511,data:=text} rfl (by show text.size≤1048576;omega));clear h hk hgl hkeep bO hq hte h1 h2;go_enter Tryz.func163,Tryz.ntmps163;go_wp2_with fail;refine(T0.o _).mono ?_;rintro e w1 ⟨rfl,rfl⟩;go_wp2_with fail;refine Qx.o.mono ?_;rintro e w1 ⟨rfl,R',hR,hS,hL⟩;have HX:=Um (ag hR (ag ((aL.aq bP.o).trans hS) hL));clear hR hS hL;go_wp2_with fail;go_ret2;rw[HQ.o];exact⟨rfl,R',HX.o⟩
theorem I1(h:aE w pf R S){N:Nat}(hk:av S N)(hN:N≤100000)(hgl:S.ns.length≤100000)(dir:Int)(s:ByteArray)(hs:s.size≤100000)(text:ByteArray)(ht:text.size≤100000) :
  Calls Tryz.prog 163 #[.pointer (some ⟨pf,0,none⟩),.agg #[.int .i64 0,.int .i64 0],.int .i64 dir,.string s,.string text] w fun e w'=>e=.returned (.tuple #[.int .i64 (S.sym bQ R.now dir s text).2.1,.int .i64 (S.sym bQ R.now dir s text).2.2])∧∃R',aE w' pf R' (S.sym bQ R.now dir s text).1∧aL (R.F pf) (R'.F pf) w w'∧Rf.ct R R':=FE h bQ hk hN hgl dir s hs text ht
end
end
section
open Go.RowKit
section
variable{w w':World}{pf:Nat}{R:Rf}{S:Fs}
theorem qC(h:aE w pf R S)(no:Int)(hg:S.get no=none) :
  Calls Tryz.prog 165 #[.pointer (some ⟨pf,0,none⟩),.agg #[.int .i64 0,.int .i64 0],.int .i64 no] w fun e w'=>e=.returned (.int .i64 5)∧Up w w':=by
 have bO:=(Below.refl _ w).alloc (aa _) (.cells #[.int .i64 0,.int .i64 0] 69);have HG:=Um (jh (h.ak bO) hg);have bP:=Um bO;unfold An.v dh at HG;clear h hg bO;go_enter Tryz.func165,Tryz.ntmps165;go_wp2_with fail;refine HG.o.mono ?_;rintro e w1 ⟨rfl,ar⟩;have HB:=Um (al (ao bP.o ar) (.cells #[.int .i64 0,.int .i64 0,.int .i64 0,.int .i64 0,.int .i64 0,.int .i64 0,.int .i64 0,.int .i64 0,.int .i64 0,.int .i64 0,.string ByteArray.empty,.slice none 0 0] 99));clear ar;go_wp2_with fail;go_ret;exact⟨rfl,HB.o⟩
theorem oA(h:aE w pf R S){N:Nat}(hk:av S N)(no:Int){a:An}(hg:S.get no=some a) :
  Calls Tryz.prog 165 #[.pointer (some ⟨pf,0,none⟩),.agg #[.int .i64 0,.int .i64 0],.int .i64 no] w fun e w'=>e=.returned (.int .i64 0)∧Up w w':=by
 obtain⟨-,hno,gO,-⟩:=hk.get hg;have hz:(a.no==0)=false:=by simp only[beq_eq_false_iff_ne,ne_eq];omega
 have bO:=(Below.refl _ w).alloc (aa _) (.cells #[.int .i64 0,.int .i64 0] 69);obtain⟨ea,el,ec,-,hG⟩:=mm (h.ak bO) hg;have HG:=Um hG;have HO:=Um (fun w=>Ag a ea el ec w);have eS:=au.new w #[.int .i64 0,.int .i64 0] 69;have B9:=Um eS;have bP:=Um bO;unfold An.v at HG HO;clear h hk hg bO hG hno eS;go_enter Tryz.func165,Tryz.ntmps165;go_wp2_with fail;refine HG.o.mono ?_;rintro e w1 ⟨rfl,ar⟩;have eh:=(B9.o.ak ar).eE (.cells #[.int .i64 a.no,.int .i64 a.dev,.int .i64 a.kind,.int .i64 a.mode,.int .i64 a.uid,.int .i64 a.gid,.int .i64 a.mtime,.int .i64 a.ctime,.int .i64 a.an,.int .i64 a.up,.string a.data,.slice ea el ec] 99);have nP:=au.new w1 #[.int .i64 a.no,.int .i64 a.dev,.int .i64 a.kind,.int .i64 a.mode,.int .i64 a.uid,.int .i64 a.gid,.int .i64 a.mtime,.int .i64 a.ctime,.int .i64 a.an,.int .i64 a.up,.string a.data,.slice ea el ec] 99;have hbb:=al (ao bP.o ar) (.cells #[.int .i64 a.no,.int .i64 a.dev,.int .i64 a.kind,.int .i64 a.mode,.int .i64 a.uid,.int .i64 a.gid,.int .i64 a.mtime,.int .i64 a.ctime,.int .i64 a.an,.int .i64 a.up,.string a.data,.slice ea el ec] 99);go_upto_region 2 with fail;generalize w1.alloc _=X at eh nP hbb⊢;have jY:=Um hbb;obtain⟨dc,-,-⟩:=nP.facts;obtain⟨cc,-,-⟩:=eh.facts;clear ar eh nP hbb;go_wp2_with fail;refine(HO.o _).mono ?_;rintro e w2 ⟨rfl,aD⟩;have cV:=Um (ao jY.o aD);clear aD;go_wp2_with fail;go_ret;exact⟨rfl,cV.o⟩
theorem FC(h:aE w pf R S){N:Nat}(hk:av S N)(no:Int)(t:Int) :
  Calls Tryz.prog 104 #[.pointer (some ⟨pf,0,none⟩),.agg #[.int .i64 0,.int .i64 0],.int .i64 no,.int .i64 t] w fun e w'=>e=.returned (.int .i64 (S.cQ bQ R.now no t).2)∧∃R',aE w' pf R' (S.cQ bQ R.now no t).1∧aL (R.F pf) (R'.F pf) w w'∧Rf.ct R R':=by
 have hkeep:∀w2,Up w w2→∃R',aE w2 pf R' S∧aL (R.F pf) (R'.F pf) w w2∧Rf.ct R R':=fun w2 hb=>⟨R,h.ak hb,aL.aq hb,Rf.ct.refl R⟩;have jV:=Um hkeep;have bO:=(Below.refl _ w).alloc (aa _) (.cells #[.int .i64 0,.int .i64 0] 69);have bP:=Um bO
 cases hg:S.get no with
 |none=>
  have HQ:=Um (show S.cQ bQ R.now no t=(S,5) by unfold Fs.cQ;rw[hg]);have HO:=Um (qC (h.ak bO) no hg);clear h hk hg hkeep bO;go_enter Tryz.func104,Tryz.ntmps104;go_wp2_with fail;refine HO.o.mono ?_;rintro e w1 ⟨rfl,ar⟩;have HB:=Um (ao bP.o ar);clear ar;go_wp2_with fail;go_ret;rw[HQ.o];exact⟨rfl,jV.o _ HB.o⟩
 |some a=>
  have hno:=dx hg;have HO:=Um (oA (h.ak bO) hk no hg);obtain⟨ea,el,ec,hE,hG⟩:=fe h hg;have HG:=Um hG;have dW:=Um (fun w1 (hb:Up w w1)=>iL (h.ak hb) hk.nums (a:={a with mtime:=t,ctime:=R.now}) (hE.ak hb) (b:=a) (by show S.get a.no=some a;rw[hno];exact hg));have eS:=au.new w #[.int .i64 0,.int .i64 0] 69;have B9:=Um eS;have nO:=Um (show S.cQ bQ R.now no t=(if t<0∨253402300799<t then(S,1) else(S.set {a with mtime:=t,ctime:=R.now},0)) by unfold Fs.cQ;rw[hg];rfl);obtain⟨pc,-,pz⟩:=h.bd.facts;unfold An.v at HG dW;generalize hnow:R.now=now at nO dW pc;have HHk:=Um h;clear h hk hg hkeep bO hG hE eS hno hnow;by_cases h1:t<0
  ·have HQ:=Um (nO.o.trans (if_pos (.inl h1)));go_enter Tryz.func104,Tryz.ntmps104;go_wp2_with fail;refine HO.o.mono ?_;rintro e w1 ⟨rfl,ar⟩;have eh:=B9.o.ak ar;have hbb:=ao bP.o ar;have B5:=Um eh;have jY:=Um hbb;obtain⟨cc,-,-⟩:=eh.facts;have pc2:=(hbb.cell (p:=⟨pf,3,none⟩) pz).trans (pc 3);clear ar eh hbb;go_wp2_with fail;go_ret;rw[HQ.o];exact⟨rfl,jV.o _ jY.o⟩
  ·by_cases h2:253402300799<t
   ·have HQ:=Um (nO.o.trans (if_pos (.inr h2)));go_enter Tryz.func104,Tryz.ntmps104;go_wp2_with fail;refine HO.o.mono ?_;rintro e w1 ⟨rfl,ar⟩;have eh:=B9.o.ak ar;have hbb:=ao bP.o ar;have B5:=Um eh;have jY:=Um hbb;obtain⟨cc,-,-⟩:=eh.facts;have pc2:=(hbb.cell (p:=⟨pf,3,none⟩) pz).trans (pc 3);clear ar eh hbb;go_wp2_with fail;go_ret;rw[HQ.o];exact⟨rfl,jV.o _ jY.o⟩
   ·have HQ:=Um (nO.o.trans (if_neg (by omega)));go_enter Tryz.func104,Tryz.ntmps104;go_wp2_with fail;refine HO.o.mono ?_;rintro e w1 ⟨rfl,ar⟩;have eh:=B9.o.ak ar;have hbb:=ao bP.o ar;have B5:=Um eh;have jY:=Um hbb;obtain⟨cc,-,-⟩:=eh.facts;have pc2:=(hbb.cell (p:=⟨pf,3,none⟩) pz).trans (pc 3);clear ar eh hbb;go_wp2_with fail;refine(HG.o _ jY.o).mono ?_;rintro e w2 ⟨rfl,aD⟩;have pc3:=(aD.cell (p:=⟨pf,3,none⟩) (Nat.lt_of_lt_of_le pz jY.o.size)).trans pc2;have mC:pf<w2.heap.size:=Nat.lt_of_lt_of_le (Nat.lt_of_lt_of_le pz jY.o.size) aD.size;have ax:=al (ao jY.o aD) (.cells #[.int .i64 a.no,.int .i64 a.dev,.int .i64 a.kind,.int .i64 a.mode,.int .i64 a.uid,.int .i64 a.gid,.int .i64 t,.int .i64 now,.int .i64 a.an,.int .i64 a.up,.string a.data,.slice ea el ec] 99);have HS:=Um (dW.o _ ax);have aJ:=Um ax;clear aD ax pc pc2;go_wp2_with fail;refine HS.o.mono ?_;rintro e w5 ⟨rfl,R',ev,fo,gy,-⟩;have HR:=Um (ag ev (ag fo gy));clear ev fo gy;go_wp2_with fail;go_ret;rw[HQ.o];exact⟨rfl,R',HR.o.1,(aL.aq aJ.o).trans HR.o.2.1,HR.o.2.2⟩
theorem CW(h:aE w pf R S){N:Nat}(hk:av S N)(no:Int)(u g:Int) :
  Calls Tryz.prog 102 #[.pointer (some ⟨pf,0,none⟩),.agg #[.int .i64 0,.int .i64 0],.int .i64 no,.int .i64 u,.int .i64 g] w fun e w'=>e=.returned (.int .i64 (S.cU bQ R.now no u g).2)∧∃R',aE w' pf R' (S.cU bQ R.now no u g).1∧aL (R.F pf) (R'.F pf) w w'∧Rf.ct R R':=by
 have hkeep:∀w2,Up w w2→∃R',aE w2 pf R' S∧aL (R.F pf) (R'.F pf) w w2∧Rf.ct R R':=fun w2 hb=>⟨R,h.ak hb,aL.aq hb,Rf.ct.refl R⟩;have jV:=Um hkeep;have bO:=(Below.refl _ w).alloc (aa _) (.cells #[.int .i64 0,.int .i64 0] 69);have bP:=Um bO
 cases hg:S.get no with
 |none=>
  have HQ:=Um (show S.cU bQ R.now no u g=(S,5) by unfold Fs.cU;rw[hg]);have HO:=Um (qC (h.ak bO) no hg);clear h hk hg hkeep bO;go_enter Tryz.func102,Tryz.ntmps102;go_wp2_with fail;refine HO.o.mono ?_;rintro e w1 ⟨rfl,ar⟩;have HB:=Um (ao bP.o ar);clear ar;go_wp2_with fail;go_ret;rw[HQ.o];exact⟨rfl,jV.o _ HB.o⟩
 |some a=>
  have hno:=dx hg;have HO:=Um (oA (h.ak bO) hk no hg);obtain⟨ea,el,ec,hE,hG⟩:=fe h hg;have HG:=Um hG;have dW:=Um (fun w1 (hb:Up w w1)=>iL (h.ak hb) hk.nums (a:={a with uid:=u,gid:=g,ctime:=R.now}) (hE.ak hb) (b:=a) (by show S.get a.no=some a;rw[hno];exact hg));have E2:=Um (fun w=>CY u g w);have eS:=au.new w #[.int .i64 0,.int .i64 0] 69;have B9:=Um eS;have nO:=Um (show S.cU bQ R.now no u g=(if LI u g=false then(S,1) else(S.set {a with uid:=u,gid:=g,ctime:=R.now},0)) by unfold Fs.cU;rw[hg];rfl);obtain⟨pc,-,pz⟩:=h.bd.facts;unfold An.v at HG dW;generalize hnow:R.now=now at nO dW pc;have HHk:=Um h;clear h hk hg hkeep bO hG hE eS hno hnow
  cases hid:LI u g with
  |false=>
   have HQ:=Um (nO.o.trans (if_pos hid));rw[hid] at E2;clear hid;go_enter Tryz.func102,Tryz.ntmps102;go_wp2_with fail;refine HO.o.mono ?_;rintro e w1 ⟨rfl,ar⟩;have eh:=B9.o.ak ar;have hbb:=ao bP.o ar;have B5:=Um eh;have jY:=Um hbb;obtain⟨cc,-,-⟩:=eh.facts;have pc2:=(hbb.cell (p:=⟨pf,3,none⟩) pz).trans (pc 3);clear ar eh hbb;go_wp2_with fail;refine(E2.o _).mono ?_;rintro e w3 ⟨rfl,bJ⟩;have Bb:=ao jY.o bJ;have pc4:=(Bb.cell (p:=⟨pf,3,none⟩) pz).trans (pc 3)
   replace jY:=Um Bb
   replace pc2:=pc4
   clear bJ Bb pc4;go_wp2_with fail;go_ret;rw[HQ.o];exact⟨rfl,jV.o _ jY.o⟩
  |true=>
   have HQ:=Um (nO.o.trans (if_neg (by rw[hid];decide)));rw[hid] at E2;clear hid;go_enter Tryz.func102,Tryz.ntmps102;go_wp2_with fail;refine HO.o.mono ?_;rintro e w1 ⟨rfl,ar⟩;have eh:=B9.o.ak ar;have hbb:=ao bP.o ar;have B5:=Um eh;have jY:=Um hbb;obtain⟨cc,-,-⟩:=eh.facts;have pc2:=(hbb.cell (p:=⟨pf,3,none⟩) pz).trans (pc 3);clear ar eh hbb;go_wp2_with fail;refine(E2.o _).mono ?_;rintro e w3 ⟨rfl,bJ⟩;have Bb:=ao jY.o bJ;have pc4:=(Bb.cell (p:=⟨pf,3,none⟩) pz).trans (pc 3)
   replace jY:=Um Bb
   replace pc2:=pc4
   clear bJ Bb pc4;go_wp2_with fail;refine(HG.o _ jY.o).mono ?_;rintro e w2 ⟨rfl,aD⟩;have pc3:=(aD.cell (p:=⟨pf,3,none⟩) (Nat.lt_of_lt_of_le pz jY.o.size)).trans pc2;have mC:pf<w2.heap.size:=Nat.lt_of_lt_of_le (Nat.lt_of_lt_of_le pz jY.o.size) aD.size;have ax:=al (ao jY.o aD) (.cells #[.int .i64 a.no,.int .i64 a.dev,.int .i64 a.kind,.int .i64 a.mode,.int .i64 u,.int .i64 g,.int .i64 a.mtime,.int .i64 now,.int .i64 a.an,.int .i64 a.up,.string a.data,.slice ea el ec] 99);have HS:=Um (dW.o _ ax);have aJ:=Um ax;clear aD ax pc pc2;go_wp2_with fail;refine HS.o.mono ?_;rintro e w5 ⟨rfl,R',ev,fo,gy,-⟩;have HR:=Um (ag ev (ag fo gy));clear ev fo gy;go_wp2_with fail;go_ret;rw[HQ.o];exact⟨rfl,R',HR.o.1,(aL.aq aJ.o).trans HR.o.2.1,HR.o.2.2⟩
theorem FH(h:aE w pf R S){N:Nat}(hk:av S N)(no:Int)(m:Int) :
  Calls Tryz.prog 103 #[.pointer (some ⟨pf,0,none⟩),.agg #[.int .i64 0,.int .i64 0],.int .i64 no,.int .i64 m] w fun e w'=>e=.returned (.int .i64 (S.cL bQ R.now no m).2)∧∃R',aE w' pf R' (S.cL bQ R.now no m).1∧aL (R.F pf) (R'.F pf) w w'∧Rf.ct R R':=by
 have hkeep:∀w2,Up w w2→∃R',aE w2 pf R' S∧aL (R.F pf) (R'.F pf) w w2∧Rf.ct R R':=fun w2 hb=>⟨R,h.ak hb,aL.aq hb,Rf.ct.refl R⟩;have jV:=Um hkeep;have bO:=(Below.refl _ w).alloc (aa _) (.cells #[.int .i64 0,.int .i64 0] 69);have bP:=Um bO
 cases hg:S.get no with
 |none=>
  have HQ:=Um (show S.cL bQ R.now no m=(S,5) by unfold Fs.cL;rw[hg]);have HO:=Um (qC (h.ak bO) no hg);clear h hk hg hkeep bO;go_enter Tryz.func103,Tryz.ntmps103;go_wp2_with fail;refine HO.o.mono ?_;rintro e w1 ⟨rfl,ar⟩;have HB:=Um (ao bP.o ar);clear ar;go_wp2_with fail;go_ret;rw[HQ.o];exact⟨rfl,jV.o _ HB.o⟩
 |some a=>
  have hno:=dx hg;have HO:=Um (oA (h.ak bO) hk no hg);obtain⟨ea,el,ec,hE,hG⟩:=fe h hg;have HG:=Um hG;have dW:=Um (fun w1 (hb:Up w w1)=>iL (h.ak hb) hk.nums (a:={a with mode:=m,ctime:=R.now}) (hE.ak hb) (b:=a) (by show S.get a.no=some a;rw[hno];exact hg));have eS:=au.new w #[.int .i64 0,.int .i64 0] 69;have B9:=Um eS;have nO:=Um (show S.cL bQ R.now no m=(if m<0∨1023<m∨a.kind=3 then(S,1) else(S.set {a with mode:=m,ctime:=R.now},0)) by unfold Fs.cL;rw[hg];rfl);obtain⟨pc,-,pz⟩:=h.bd.facts;unfold An.v at HG dW;generalize hnow:R.now=now at nO dW pc;have HHk:=Um h;clear h hk hg hkeep bO hG hE eS hno hnow;by_cases h1:m<0
  ·have HQ:=Um (nO.o.trans (if_pos (.inl h1)));go_enter Tryz.func103,Tryz.ntmps103;go_wp2_with fail;refine HO.o.mono ?_;rintro e w1 ⟨rfl,ar⟩;have eh:=B9.o.ak ar;have hbb:=ao bP.o ar;have B5:=Um eh;have jY:=Um hbb;obtain⟨cc,-,-⟩:=eh.facts;have pc2:=(hbb.cell (p:=⟨pf,3,none⟩) pz).trans (pc 3);clear ar eh hbb;go_wp2_with fail;refine(HG.o _ jY.o).mono ?_;rintro e w2 ⟨rfl,aD⟩;have If:=Um (al (ao jY.o aD) (.cells #[.int .i64 a.no,.int .i64 a.dev,.int .i64 a.kind,.int .i64 a.mode,.int .i64 a.uid,.int .i64 a.gid,.int .i64 a.mtime,.int .i64 a.ctime,.int .i64 a.an,.int .i64 a.up,.string a.data,.slice ea el ec] 99));clear aD;go_wp2_with fail;go_ret;rw[HQ.o];exact⟨rfl,jV.o _ If.o⟩
  ·by_cases h2:1023<m
   ·have HQ:=Um (nO.o.trans (if_pos (.inr (.inl h2))));go_enter Tryz.func103,Tryz.ntmps103;go_wp2_with fail;refine HO.o.mono ?_;rintro e w1 ⟨rfl,ar⟩;have eh:=B9.o.ak ar;have hbb:=ao bP.o ar;have B5:=Um eh;have jY:=Um hbb;obtain⟨cc,-,-⟩:=eh.facts;have pc2:=(hbb.cell (p:=⟨pf,3,none⟩) pz).trans (pc 3);clear ar eh hbb;go_wp2_with fail;refine(HG.o _ jY.o).mono ?_;rintro e w2 ⟨rfl,aD⟩;have If:=Um (al (ao jY.o aD) (.cells #[.int .i64 a.no,.int .i64 a.dev,.int .i64 a.kind,.int .i64 a.mode,.int .i64 a.uid,.int .i64 a.gid,.int .i64 a.mtime,.int .i64 a.ctime,.int .i64 a.an,.int .i64 a.up,.string a.data,.slice ea el ec] 99));clear aD;go_wp2_with fail;go_ret;rw[HQ.o];exact⟨rfl,jV.o _ If.o⟩
   ·by_cases h3:a.kind=3
    ·have HQ:=Um (nO.o.trans (if_pos (.inr (.inr h3))));have q3:(a.kind==3)=true:=by simpa using h3
     clear h3;go_enter Tryz.func103,Tryz.ntmps103;go_wp2_with fail;refine HO.o.mono ?_;rintro e w1 ⟨rfl,ar⟩;have eh:=B9.o.ak ar;have hbb:=ao bP.o ar;have B5:=Um eh;have jY:=Um hbb;obtain⟨cc,-,-⟩:=eh.facts;have pc2:=(hbb.cell (p:=⟨pf,3,none⟩) pz).trans (pc 3);clear ar eh hbb;go_wp2_with fail;refine(HG.o _ jY.o).mono ?_;rintro e w2 ⟨rfl,aD⟩;have If:=Um (al (ao jY.o aD) (.cells #[.int .i64 a.no,.int .i64 a.dev,.int .i64 a.kind,.int .i64 a.mode,.int .i64 a.uid,.int .i64 a.gid,.int .i64 a.mtime,.int .i64 a.ctime,.int .i64 a.an,.int .i64 a.up,.string a.data,.slice ea el ec] 99));clear aD;go_wp2_with fail;go_ret;rw[HQ.o];exact⟨rfl,jV.o _ If.o⟩
    ·have HQ:=Um (nO.o.trans (if_neg (by omega)));have q3:(a.kind==3)=false:=by simpa using h3
     clear h3;go_enter Tryz.func103,Tryz.ntmps103;go_wp2_with fail;refine HO.o.mono ?_;rintro e w1 ⟨rfl,ar⟩;have eh:=B9.o.ak ar;have hbb:=ao bP.o ar;have B5:=Um eh;have jY:=Um hbb;obtain⟨cc,-,-⟩:=eh.facts;have pc2:=(hbb.cell (p:=⟨pf,3,none⟩) pz).trans (pc 3);clear ar eh hbb;go_wp2_with fail;refine(HG.o _ jY.o).mono ?_;rintro e w2 ⟨rfl,aD⟩;have pc3:=(aD.cell (p:=⟨pf,3,none⟩) (Nat.lt_of_lt_of_le pz jY.o.size)).trans pc2;have mC:pf<w2.heap.size:=Nat.lt_of_lt_of_le (Nat.lt_of_lt_of_le pz jY.o.size) aD.size;have ax:=al (ao jY.o aD) (.cells #[.int .i64 a.no,.int .i64 a.dev,.int .i64 a.kind,.int .i64 m,.int .i64 a.uid,.int .i64 a.gid,.int .i64 a.mtime,.int .i64 now,.int .i64 a.an,.int .i64 a.up,.string a.data,.slice ea el ec] 99);have HS:=Um (dW.o _ ax);have aJ:=Um ax;clear aD ax pc pc2;go_wp2_with fail;refine HS.o.mono ?_;rintro e w5 ⟨rfl,R',ev,fo,gy,-⟩;have HR:=Um (ag ev (ag fo gy));clear ev fo gy;go_wp2_with fail;go_ret;rw[HQ.o];exact⟨rfl,R',HR.o.1,(aL.aq aJ.o).trans HR.o.2.1,HR.o.2.2⟩
end
end
section
open Go.RowKit
section
variable{w w':World}{pf:Nat}{R:Rf}{S:Fs}
theorem iu(h:aE w pf R S)(k:Int):∃ea el ec,aA w ea el ec (S.cC k).aB∧∀w1,Up w w1→
  Calls Tryz.prog 41 #[.pointer (some ⟨pf,0,none⟩),.int .i64 k] w1 fun e w'=>e=.returned ((S.cC k).v ea el ec)∧Up w1 w':=by
 cases hg:S.get k with
 |none=>
  rw[nG hg];exact⟨none,0,0,aA.nil w,fun w1 hb=>jh (h.ak hb) hg⟩
 |some a=>
  rw[iF hg];exact fe h hg
theorem Mx(h:aE w pf R S){N:Nat}(hk:av S N)(dir:Int)(s:ByteArray)(hs:s.size≤100000):∃dz ea el ec,aA w ea el ec dz.aB∧(S.aW bQ dir s=0→S.get dir=some dz)∧
  Calls Tryz.prog 188 #[.pointer (some ⟨pf,0,none⟩),.agg #[.int .i64 0,.int .i64 0],.int .i64 dir,.string s] w fun e w'=>e=.returned (.tuple #[dz.v ea el ec,.int .i64 (S.aW bQ dir s)])∧Up w w':=by
 cases hg:S.get dir with
 |none=>
  have hp:S.aW bQ dir s=5:=by unfold Fs.aW;rw[hg]
  have hq:=Af h dir s hg;rw[←hp] at hq;exact⟨dh,none,0,0,aA.nil w,(fun e=>absurd (hp.symm.trans e) (by decide)),hq⟩
 |some d=>
  obtain⟨ea,el,ec,hE,hP⟩:=Ae h hk dir s hs d hg;by_cases hp:S.aW bQ dir s=0
  ·refine⟨d,ea,el,ec,hE,(fun _=>rfl),hP.mono ?_⟩;rintro e w1 ⟨⟨h1,-⟩|⟨-,rfl⟩,hb⟩
   ·exact absurd hp h1
   ·exact⟨by rw[hp],hb⟩
  ·refine⟨dh,none,0,0,aA.nil w,(fun e=>absurd e hp),hP.mono ?_⟩;rintro e w1 ⟨⟨-,rfl⟩|⟨h1,-⟩,hb⟩
   ·exact⟨rfl,hb⟩
   ·exact absurd h1 hp
theorem sJ{S:Fs}{N:Nat}(hk:av S N)(k:Int):((S.cC k).no==0)=(S.get k).isNone:=by
 cases hg:S.get k with
 |none=>rw[nG hg];rfl
 |some a=>
  rw[iF hg];obtain⟨-,h1,h2,-⟩:=hk.get hg;simp only[Option.isNone_some,beq_eq_false_iff_ne,ne_eq];omega
theorem FP(h:aE w pf R S){N:Nat}(hk:av S N)(hN:N≤100000)(no dir:Int)(s:ByteArray)(hs:s.size≤100000) :
  Calls Tryz.prog 164 #[.pointer (some ⟨pf,0,none⟩),.agg #[.int .i64 0,.int .i64 0],.int .i64 no,.int .i64 dir,.string s] w fun e w'=>e=.returned (.int .i64 (S.eL bQ R.now no dir s).2)∧∃R',aE w' pf R' (S.eL bQ R.now no dir s).1∧aL (R.F pf) (R'.F pf) w w'∧Rf.ct R R':=by
 have hkeep:∀w2,Up w w2→∃R',aE w2 pf R' S∧aL (R.F pf) (R'.F pf) w w2∧Rf.ct R R':=fun w2 hb=>⟨R,h.ak hb,aL.aq hb,Rf.ct.refl R⟩;have jV:=Um hkeep;have bO:=(Below.refl _ w).alloc (aa _) (.cells #[.int .i64 0,.int .i64 0] 69);have bP:=Um bO;obtain⟨dz,da,dl,dc,hE,hdz,hP⟩:=Mx (h.ak bO) hk dir s hs;obtain⟨na,nl,nc,PJ,hG⟩:=iu h no;have hnz:=sJ hk no;have HP:=Um hP;have HG:=Um hG;have HE:=Um hE;have L8:=Um hE.len;have HF:=Um (show∀k,w.heap.size≤k→¬R.F pf k from fun k hk hf=>by have:=h.lt hf;omega);have HH:=Um h;by_cases hpe:S.aW bQ dir s=0
 ·have hgd:=hdz hpe;obtain⟨hdo,hdn,-,-⟩:=hk.get hgd
  cases hgn:S.get no with
  |none=>
   have HQ:=Um (show S.eL bQ R.now no dir s=(S,5) by unfold Fs.eL;rw[if_neg (by simpa using hpe),hgd,hgn]);rw[hgn] at hnz;have Na:((S.cC no).no==0)=true:=hnz;rw[hpe] at HP;unfold An.v at HP HG;generalize S.cC no=nd at HG Na PJ;clear h hk hkeep bO hE hdz hP hG hnz hgd hdo hdn hgn hpe PJ;go_enter Tryz.func164,Tryz.ntmps164;go_wp2_with fail;refine HP.o.mono ?_;rintro e w1 ⟨rfl,ar⟩;have hbb:=al (ao bP.o ar) (.cells #[.int .i64 dz.no,.int .i64 dz.dev,.int .i64 dz.kind,.int .i64 dz.mode,.int .i64 dz.uid,.int .i64 dz.gid,.int .i64 dz.mtime,.int .i64 dz.ctime,.int .i64 dz.an,.int .i64 dz.up,.string dz.data,.slice da dl dc] 99);have jY:=Um hbb;clear ar hbb;go_wp2_with fail;refine(HG.o _ jY.o).mono ?_;rintro e w2 ⟨rfl,aD⟩;have cV:=Um (al (ao jY.o aD) (.cells #[.int .i64 nd.no,.int .i64 nd.dev,.int .i64 nd.kind,.int .i64 nd.mode,.int .i64 nd.uid,.int .i64 nd.gid,.int .i64 nd.mtime,.int .i64 nd.ctime,.int .i64 nd.an,.int .i64 nd.up,.string nd.data,.slice na nl nc] 99));clear aD;go_wp2_with fail;go_ret;rw[HQ.o];exact⟨rfl,jV.o _ cV.o⟩
  |some n=>
   rw[iF hgn] at hnz hG HG PJ;rw[hgn] at hnz;have Na:(n.no==0)=false:=hnz;have hnn:=dx hgn;have hel:dl≤100000:=by have:=hdo.BB;have:=L8.o;omega
   have nO:=Um (show S.eL bQ R.now no dir s=if n.kind=1 then(S,4) else if aN dz.aB s≠0 then(S,7) else if n.dev≠dz.dev then(S,11) else if 1000≤n.an then(S,18) else((S.set {n with an:=n.an+1,ctime:=R.now}).dk R.now dir (dy dz.aB s no),0) by unfold Fs.eL;rw[if_neg (by simpa using hpe),hgd,hgn]);have dW:=Um (fun w1 (hb:Up w w1)=>iL (h.ak hb) hk.nums (a:={n with an:=n.an+1,ctime:=R.now}) (PJ.ak hb) (b:=n) (by show S.get n.no=some n;rw[hnn];exact hgn));have sx:=Um (hk.nums.set {n with an:=n.an+1,ctime:=R.now});have HGd:=Um (show n.kind≠1→(S.set {n with an:=n.an+1,ctime:=R.now}).get dir=some dz from fun gP=>by
    rw[gX (b:=n) (by show S.get n.no=some n;rw[hnn];exact hgn),if_neg]
    ·exact hgd
    ·intro e;have e2:dir=no:=e.trans hnn;rw[e2,hgn] at hgd;injection hgd with hgd;subst hgd;have h5:=hpe;unfold Fs.aW at h5;rw[e2,hgn] at h5;simp only at h5;rw[if_pos gP] at h5
     cases h5)
   have hlk:-9223372036854775808≤n.an∧n.an≤1000:=by
    have:=(hk.get hgn).1.an;omega
   obtain⟨pc,-,pz⟩:=h.bd.facts;rw[hpe] at HP;unfold An.v at HP HG dW;generalize hnow:R.now=now at nO dW sx HGd pc;have jT:=Um hnow;clear h hk hkeep bO hE hdz hP hG hnz hgd hdo hdn hgn hpe PJ hnn hnow;go_enter Tryz.func164,Tryz.ntmps164;go_wp2_with fail;refine HP.o.mono ?_;rintro e w1 ⟨rfl,ar⟩;have hbb:=al (ao bP.o ar) (.cells #[.int .i64 dz.no,.int .i64 dz.dev,.int .i64 dz.kind,.int .i64 dz.mode,.int .i64 dz.uid,.int .i64 dz.gid,.int .i64 dz.mtime,.int .i64 dz.ctime,.int .i64 dz.an,.int .i64 dz.up,.string dz.data,.slice da dl dc] 99);have yD:=au.new w1 #[.int .i64 dz.no,.int .i64 dz.dev,.int .i64 dz.kind,.int .i64 dz.mode,.int .i64 dz.uid,.int .i64 dz.gid,.int .i64 dz.mtime,.int .i64 dz.ctime,.int .i64 dz.an,.int .i64 dz.up,.string dz.data,.slice da dl dc] 99;have Q2:=(HE.o.ak ar).ak ((Below.refl _ w1).alloc (aa _) (.cells #[.int .i64 dz.no,.int .i64 dz.dev,.int .i64 dz.kind,.int .i64 dz.mode,.int .i64 dz.uid,.int .i64 dz.gid,.int .i64 dz.mtime,.int .i64 dz.ctime,.int .i64 dz.an,.int .i64 dz.up,.string dz.data,.slice da dl dc] 99));have hD0:w.heap.size≤w1.heap.size:=(ao bP.o ar).size;go_upto_region 2 with fail;generalize w1.alloc _=X at hbb yD Q2⊢;generalize w1.heap.size=D at yD hD0⊢;have jY:=Um hbb;have HX:=Um (ag yD Q2);clear ar hbb yD Q2;go_wp2_with fail;refine(HG.o _ jY.o).mono ?_;rintro e w2 ⟨rfl,aD⟩;have nP:=(HX.o.1.ak aD).eE (.cells #[.int .i64 n.no,.int .i64 n.dev,.int .i64 n.kind,.int .i64 n.mode,.int .i64 n.uid,.int .i64 n.gid,.int .i64 n.mtime,.int .i64 n.ctime,.int .i64 n.an,.int .i64 n.up,.string n.data,.slice na nl nc] 99);have zr:=(HX.o.2.ak aD).ak ((Below.refl _ w2).alloc (aa _) (.cells #[.int .i64 n.no,.int .i64 n.dev,.int .i64 n.kind,.int .i64 n.mode,.int .i64 n.uid,.int .i64 n.gid,.int .i64 n.mtime,.int .i64 n.ctime,.int .i64 n.an,.int .i64 n.up,.string n.data,.slice na nl nc] 99));have bJ:=al (ao jY.o aD) (.cells #[.int .i64 n.no,.int .i64 n.dev,.int .i64 n.kind,.int .i64 n.mode,.int .i64 n.uid,.int .i64 n.gid,.int .i64 n.mtime,.int .i64 n.ctime,.int .i64 n.an,.int .i64 n.up,.string n.data,.slice na nl nc] 99);have jj:=au.new w2 #[.int .i64 n.no,.int .i64 n.dev,.int .i64 n.kind,.int .i64 n.mode,.int .i64 n.uid,.int .i64 n.gid,.int .i64 n.mtime,.int .i64 n.ctime,.int .i64 n.an,.int .i64 n.up,.string n.data,.slice na nl nc] 99;have hN0:w.heap.size≤w2.heap.size:=(ao jY.o aD).size;have hDN:D<w2.heap.size:=Nat.lt_of_lt_of_le HX.o.1.lt aD.size;go_upto_region 3 with fail;generalize w2.alloc _=Z at nP zr bJ jj⊢;generalize w2.heap.size=M at jj hN0 hDN⊢;have HZ:=Um (ag nP (ag zr (ag bJ jj)));have Oa:=Um (nj dz.aB da dl dc s Z zr);have jX:=Um bJ;obtain⟨dcc,dcf,dcz⟩:=nP.facts;obtain⟨ncc,ncf,ncz⟩:=jj.facts;clear aD nP zr bJ jj;by_cases h1:n.kind=1
   ·have HQ:=Um (nO.o.trans (if_pos h1));have q1:(n.kind==1)=true:=by simpa using h1
    clear h1;go_wp2_with fail;go_ret;rw[HQ.o];exact⟨rfl,jV.o _ jX.o⟩
   ·have l7:=Um (nO.o.trans (if_neg h1));have q1:(n.kind==1)=false:=by simpa using h1
    have HGd2:=Um (HGd.o h1);clear h1;go_wp2_with fail;refine Oa.o.mono ?_;rintro e w4 ⟨rfl,dI⟩;obtain⟨nP,zr,bJ,jj⟩:=HZ.o;have wY:=nP.ak dI;have Dn:=jj.ak dI;have DB:=zr.ak dI;have hbw:=ao bJ dI;have Io:=Um (ag wY (ag Dn (ag DB hbw)));clear dcc dcf dcz ncc ncf ncz;obtain⟨dcc,dcf,dcz⟩:=wY.facts;obtain⟨ncc,ncf,ncz⟩:=Dn.facts;clear dI nP zr bJ jj wY Dn DB hbw;by_cases h2:aN dz.aB s=0
    ·have qq:=Um (l7.o.trans (if_neg (by simpa using h2)));have q2:(aN dz.aB s != 0)=false:=by simpa using h2
     clear h2;by_cases h3:n.dev=dz.dev
     ·have H5:=Um (qq.o.trans (if_neg (by simpa using h3)));have q3:(n.dev != dz.dev)=false:=by simpa using h3
      clear h3;by_cases h4:1000≤n.an
      ·have HQ:=Um (H5.o.trans (if_pos h4));go_wp2_with fail;go_ret;rw[HQ.o];exact⟨rfl,jV.o _ Io.o.2.2.2⟩
      ·have HQ:=Um (H5.o.trans (if_neg h4));obtain⟨wY,Dn,DB,hbw⟩:=Io.o;have pc3:=(hbw.cell (p:=⟨pf,3,none⟩) pz).trans (pc 3);have mC:¬pf=M:=by omega
       have Pn:¬M=pf:=by omega
       have hp3:¬D=M:=by omega
       have Om:¬M=D:=by omega
       have hm:=((Mod.refl (fun k=>k=M) w4).setCell (a:=⟨M,8,none⟩) (.inl rfl) (.int .i64 (n.an+1))).setCell (a:=⟨M,7,none⟩) (.inl rfl) (.int .i64 now);have QL:=(Dn.set 8 (.int .i64 (n.an+1))).set 7 (.int .i64 now);have Dw:=wY.mod hm (by omega);have Nz:=DB.eB (fun b cur hc=>hm.block b (Array.getElem?_eq_some_iff.1 hc).1 (fun e=>by
        subst e;unfold au at Dn;rw[Dn] at hc;injection hc with hc;injection hc with _ hc;revert hc;decide)) hm.size
       have et:=hm.below (B:=w.heap.size) (fun k hk=>by omega) hbw.size;have HY:=Um (ag Dw (ag QL (ag Nz (hbw.trans et))));clear wY Dn DB hbw hm QL Dw Nz et;go_upto_region 17 with fail;generalize (w4.setCell ⟨M,8,none⟩ (.int .i64 (n.an+1))).setCell ⟨M,7,none⟩ (.int .i64 now)=Y at HY⊢;obtain⟨Dw,QL,Nz,et⟩:=HY.o;have HS:=Um (dW.o Y et);have jQ:=Um et;have hhY:=HH.o.ak et;clear dcc dcf dcz ncc ncf ncz pc3;obtain⟨ncc,ncf,ncz⟩:=QL.facts;clear QL et;go_wp2_with fail;refine HS.o.mono ?_;rintro e w6 ⟨rfl,R6,Bc,lV,S4,-⟩;have hd6:=Dw.mod lV.mod (HF.o D hD0);have PQ:=Nz.rf hhY lV;have BY:=Um (ag Bc (ag ((aL.aq jQ.o).trans lV) S4));obtain⟨dcc,dcf,dcz⟩:=hd6.facts;have HPu:=Um (Ad dz.aB da dl dc s no w6 PQ (by omega));clear Bc lV S4 hd6 PQ Dw Nz hhY ncc ncf ncz;go_wp2_with fail;refine HPu.o.mono ?_;rintro e w7 ⟨⟨a7,n7,c7,rfl,QZ⟩,yE⟩;have Ip:=Um (tq (BY.o.1.ak yE) sx.o dir HGd2.o QZ);rw[BY.o.2.2.now,jT.o] at Ip;have sC:=Um yE;clear QZ yE dcc dcf dcz;go_wp2_with fail;refine Ip.o.mono ?_;rintro e w8 ⟨rfl,R8,hR8,hS8,hL8⟩;have HR8:=Um (ag hR8 (ag ((BY.o.2.1.trans (aL.aq sC.o)).trans hS8) (BY.o.2.2.trans hL8)));clear hR8 hS8 hL8;go_wp2_with fail;go_ret;rw[HQ.o];exact⟨rfl,R8,HR8.o⟩
     ·have HQ:=Um (qq.o.trans (if_pos (by simpa using h3)));have q3:(n.dev != dz.dev)=true:=by simpa using h3
      clear h3;go_wp2_with fail;go_ret;rw[HQ.o];exact⟨rfl,jV.o _ Io.o.2.2.2⟩
    ·have HQ:=Um (l7.o.trans (if_pos (by simpa using h2)));have q2:(aN dz.aB s != 0)=true:=by simpa using h2
     clear h2;go_wp2_with fail;go_ret;rw[HQ.o];exact⟨rfl,jV.o _ Io.o.2.2.2⟩
 ·have HQ:=Um (show S.eL bQ R.now no dir s=(S,S.aW bQ dir s) by unfold Fs.eL;rw[if_pos hpe]);generalize S.aW bQ dir s=pe at HQ HP hpe;have hpb:(pe != 0)=true:=by simpa using hpe
  unfold An.v at HP HG;generalize S.cC no=nd at HG PJ;clear h hk hkeep bO hE hdz hP hG hnz hpe PJ;go_enter Tryz.func164,Tryz.ntmps164;go_wp2_with fail;refine HP.o.mono ?_;rintro e w1 ⟨rfl,ar⟩;have hbb:=al (ao bP.o ar) (.cells #[.int .i64 dz.no,.int .i64 dz.dev,.int .i64 dz.kind,.int .i64 dz.mode,.int .i64 dz.uid,.int .i64 dz.gid,.int .i64 dz.mtime,.int .i64 dz.ctime,.int .i64 dz.an,.int .i64 dz.up,.string dz.data,.slice da dl dc] 99);have jY:=Um hbb;clear ar hbb;go_wp2_with fail;refine(HG.o _ jY.o).mono ?_;rintro e w2 ⟨rfl,aD⟩;have cV:=Um (al (ao jY.o aD) (.cells #[.int .i64 nd.no,.int .i64 nd.dev,.int .i64 nd.kind,.int .i64 nd.mode,.int .i64 nd.uid,.int .i64 nd.gid,.int .i64 nd.mtime,.int .i64 nd.ctime,.int .i64 nd.an,.int .i64 nd.up,.string nd.data,.slice na nl nc] 99));clear aD;go_wp2_with fail;go_ret;rw[HQ.o];exact⟨rfl,jV.o _ cV.o⟩
end
end
end Go.Proofs.YtinflmadpnigfaaGreatDoor
