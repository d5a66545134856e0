import Derived.Test.YtinflmadpnigfaaGreatDoorDY21
import Derived.Test.YtinflmadpnigfaaGreatDoorDY12
import Derived.Test.YtinflmadpnigfaaGreatDoorDY13
import Derived.Test.YtinflmadpnigfaaGreatDoorDY15
import Derived.Test.YtinflmadpnigfaaGreatDoorDY4
import Derived.Test.YtinflmadpnigfaaGreatDoorDY8
import Derived.Test.YtinflmadpnigfaaGreatDoorDY11
import Derived.Test.YtinflmadpnigfaaGreatDoorDY16
import Derived.Test.YtinflmadpnigfaaGreatDoorDY20
import Derived.Test.YtinflmadpnigfaaGreatDoorDY19
import Derived.Test.YtinflmadpnigfaaGreatDoorDY10
import Derived.Test.YtinflmadpnigfaaGreatDoorDY14
import Derived.Test.YtinflmadpnigfaaGreatDoorDY3
set_option linter.unusedVariables false
set_option linter.unusedSimpArgs false
set_option maxRecDepth 100000
set_option maxHeartbeats 16000000
namespace Go.Proofs.YtinflmadpnigfaaGreatDoor
section
open Go.RowKit
def plC(p:NT):List Value:=[.int .i64 p.dir,.string p.name,.string p.top]
def plQ(cs:List Value)(p:NT):Prop:=cs=plC p
def OPl(E:TypeId)(w:World)(base:Nat)(v:Value)(l:List NT):Prop:=w.ownsRow base E 3 v l.length (l.flatMap plC)
section
variable{w w':World}{pf pw:Nat}{R:Rp}{pv:Value}{Y:Sy}
theorem CO(h:bK w pf pw R pv Y)(hd:Y.dead=true)(c:Cr)(path:ByteArray)(f:Bool) :
  Calls Tryz.prog 62 #[.pointer (some ⟨pf,0,none⟩),.agg #[.int .i64 c.u,.int .i64 c.g],.string path,.bool f] w fun e w'=>e=.returned (.tuple #[gC.v,.int .i64 20])∧Up w w':=by
 have eF:au ((w.alloc (.cells #[.int .i64 c.u,.int .i64 c.g] 69)).alloc (.cells #[.int .i64 0,.string ⟨#[]⟩,.int .i64 0,.bool false] 140)) (w.heap.size+1) #[.int .i64 0,.string ⟨#[]⟩,.int .i64 0,.bool false] 140:=by
  have:=au.new (w.alloc (.cells #[.int .i64 c.u,.int .i64 c.g] 69)) #[.int .i64 0,.string ⟨#[]⟩,.int .i64 0,.bool false] 140
  rwa [World.size_alloc] at this
 have ax:=al (al (Uq w) (.cells #[.int .i64 c.u,.int .i64 c.g] 69)) (.cells #[.int .i64 0,.string ⟨#[]⟩,.int .i64 0,.bool false] 140);have HR:=Um (fun w1 (ar:Up w w1)=>iq (h.ak ar));rw[hd] at HR;clear h hd;go_enter Tryz.func62,Tryz.ntmps62;go_wp2_with fail;refine(HR.o _ ax).mono ?_;rintro e w1 ⟨rfl,rfl⟩;generalize (w.alloc (.cells #[.int .i64 c.u,.int .i64 c.g] 69)).alloc (.cells #[.int .i64 0,.string ⟨#[]⟩,.int .i64 0,.bool false] 140)=W0 at eF ax⊢;have gh:=Um eF;have aJ:=Um ax;obtain⟨rc,rf,rz⟩:=eF.facts;clear ax eF;go_wp2_with fail;exact bodyPost_ret (nV (x:=gC) gh.o.cO rfl rfl) rfl ⟨rfl,aw aJ.o (Nat.le_succ _)⟩
theorem uP(S:Fs)(u:Us)(x:Fd×Int)(rd:Int×Int)
  (hF:∀w1,Up w w1→Calls Tryz.prog 62 #[.pointer (some ⟨pf,0,none⟩),.agg #[.int .i64 u.c.u,.int .i64 u.c.g],.string u.data,.bool true] w1 fun e w'=>e=.returned (.tuple #[x.1.v,.int .i64 x.2])∧Up w1 w')
  (hSt:x.2=0→∀w1,Up w w1→∀no,Calls Tryz.prog 38 #[.pointer (some ⟨pf,0,none⟩),.int .i64 no] w1 fun e w'=>e=.returned (.tuple #[LH (S.get no),.int .i64 (rM (S.get no))])∧Up w1 w')
  (hEn:Ends S x) (hR:rd=if x.2≠0 then(0,x.2) else if x.1.no=0 then(0,5) else if(S.cC x.1.no).kind≠1 then(0,9) else(x.1.no,0)) :
  Calls Tryz.prog 29 #[.pointer (some ⟨pf,0,none⟩),.agg #[.int .i64 u.u,.int .i64 u.g,.string u.data]] w fun e w'=>e=.returned (.tuple #[.int .i64 rd.1,.int .i64 rd.2])∧Up w w':=by
 obtain⟨hX,ax⟩:=Uo w #[.int .i64 u.u,.int .i64 u.g,.string u.data] 27;have HC:=Um (rh u.u u.g u.data);have HF:=Um hF;have gr:=Um hSt;have Ly:=Um hEn;have HR:=Um hR;clear hF hSt hEn hR;obtain⟨⟨x1,x2,x3,x4⟩,x5⟩:=x;unfold Fd.v Us.c at HF;dsimp only at HR HF gr;go_enter Tryz.func29,Tryz.ntmps29;go_upto_region 1 with fail;generalize w.alloc _=W0 at hX ax⊢;have aJ:=Um ax;obtain⟨xc,xf,xz⟩:=hX.facts;clear hX
 go_cut [6,7] (fun t6 t7 wx=>∃Bd:Nat,t6=.pointer (some ⟨Bd,0,none⟩)∧t7=.int .i64 x5∧au wx Bd #[.int .i64 x1,.string x2,.int .i64 x3,.bool x4] 140∧Up w wx)
 case first=>
  go_wp2_with fail;have hzz:W0.heap.size≤W0.heap.size:=aa _
  go_region_held3 (fun w'=>(∀b o,b<W0.heap.size→w'.cell? ⟨b,o,none⟩=W0.cell? ⟨b,o,none⟩)∧Up W0 w') (first|with_reducible assumption|with_reducible exact ck _|with_reducible exact bI _|with_reducible exact bN (by assumption) (by assumption)|with_reducible exact bB (by assumption) _|with_reducible exact bu (by assumption) _|with_reducible exact bm (by assumption) (by assumption)|with_reducible exact cj (by assumption) (by assumption))
   ((first
    |(go_at_call 28;((with_reducible refine(HC.o _).mono ?_);rintro e w4 ⟨rfl,dI⟩;have hz4:=ae (And.right ‹(∀b o,b<W0.heap.size→_)∧Up W0 _›).size dI.size;try (have hbq:=gj dI;obtain⟨bqc,bqf,bqz⟩:=hbq.facts)))
    |(go_at_call 62;((with_reducible refine(HF.o _ (aJ.o.trans ((And.right ‹(∀b o,b<W0.heap.size→_)∧Up W0 _›).mono aJ.o.size))).mono ?_);rintro e w5 ⟨rfl,b9⟩;have Pg:=ae (And.right ‹(∀b o,b<W0.heap.size→_)∧Up W0 _›).size b9.size;first|(have hbr:=hbq.ak b9;obtain⟨brc,brf,brz⟩:=hbr.facts)|(have hbr:=gj b9;obtain⟨brc,brf,brz⟩:=hbr.facts)|(have hbr:=tU b9;obtain⟨brc,brf,brz⟩:=hbr.facts)|skip))))
  all_goals
   obtain⟨-,lJ⟩:=‹_∧Up W0 _›;have sO:=Um lJ
   try (have zv:=Um hbr)
   clear lJ;go_wp2_with fail;go_meet;exact⟨_,rfl,rfl,by first|exact zv.o.cO|exact au.new _ _ _,aJ.o.trans (sO.o.mono aJ.o.size)⟩
 case rest=>
  obtain⟨Bd,rfl,rfl,gJ,et⟩:=hcut;generalize wc=X at gJ et⊢;have jQ:=Um et;have vJ:=Um gJ;obtain⟨dc,df,dz⟩:=gJ.facts;clear ax gJ et xc xf xz;by_cases h5:x5=0
  ·subst h5;have ik:=Um (HR.o.trans (if_neg (by decide)));by_cases hn:x3=0
   ·have hnb:(x3==0)=true:=by simpa using hn
    have od:=Um (ik.o.trans (if_pos hn));clear hn;go_wp2_with fail;go_ret2;rw[od.o];exact⟨rfl,jQ.o⟩
   ·have hnb:(x3==0)=false:=by simpa using hn
    have od:=Um (ik.o.trans (if_neg hn));obtain⟨a,ha⟩:=Ly.o rfl hn;have o4:=Um (gr.o rfl _ jQ.o x3);dsimp only at ha;rw[iF ha] at od;rw[ha] at o4;unfold LH rM at o4;clear hn ha Ly;go_wp2_with fail;refine o4.o.mono ?_;rintro e w6 ⟨rfl,eV⟩;have hY:=au.new w6 #[.int .i64 a.no,.int .i64 a.dev,.int .i64 a.kind,.int .i64 a.mode,.int .i64 a.uid,.int .i64 a.gid,.int .i64 a.an,.int .i64 a.data.size,.int .i64 a.mtime,.int .i64 a.ctime] 91;have Q3:=(vJ.o.ak eV).eE (.cells #[.int .i64 a.no,.int .i64 a.dev,.int .i64 a.kind,.int .i64 a.mode,.int .i64 a.uid,.int .i64 a.gid,.int .i64 a.an,.int .i64 a.data.size,.int .i64 a.mtime,.int .i64 a.ctime] 91);have et:=al (ao jQ.o eV) (.cells #[.int .i64 a.no,.int .i64 a.dev,.int .i64 a.kind,.int .i64 a.mode,.int .i64 a.uid,.int .i64 a.gid,.int .i64 a.an,.int .i64 a.data.size,.int .i64 a.mtime,.int .i64 a.ctime] 91);clear eV dc df dz;go_upto_region 7 with fail;generalize w6.alloc _=W7 at hY Q3 et⊢;have jX:=Um et;obtain⟨dc,df,dz⟩:=Q3.facts;obtain⟨yc,yf,yz⟩:=hY.facts;clear hY Q3 et;by_cases h1:a.kind=1
    ·have mH:(a.kind != 1)=false:=by simpa using h1
     have l1:=Um (od.o.trans (if_neg (by simpa using h1)));clear h1;go_wp2_with fail;go_ret2;rw[l1.o];exact⟨rfl,jX.o⟩
    ·have mH:(a.kind != 1)=true:=by simpa using h1
     have l1:=Um (od.o.trans (if_pos h1));clear h1;go_wp2_with fail;go_ret2;rw[l1.o];exact⟨rfl,jX.o⟩
  ·have h5':(x5 != 0)=true:=by simpa using h5
   have ik:=Um (HR.o.trans (if_pos h5));clear h5;go_wp2_with fail;go_ret2;rw[ik.o];exact⟨rfl,jQ.o⟩
theorem uQ(h:bK w pf pw R pv Y){N:Nat}(hk:av Y.fs N)(hN:N≤999999)(hp:Pl Y.fs)(hw:Wy Y.fs)(u:Us)(ht:u.data.size≤100000) :
  Calls Tryz.prog 29 #[.pointer (some ⟨pf,0,none⟩),.agg #[.int .i64 u.u,.int .i64 u.g,.string u.data]] w fun e w'=>e=.returned (.tuple #[.int .i64 (Y.fs.bL Y.dead u).1,.int .i64 (Y.fs.bL Y.dead u).2])∧Up w w':=by
 cases hd:Y.dead with
 |false=>exact uP Y.fs u _ _ (fun w1 hb=>mZ (h.ak hb) hk hN hd u.c u.data ht true) (fun _ w1 hb no=>qx (h.ak hb) hk hd no) (F9 hk hp hw u.c u.data true) (by unfold Fs.bL;rw[if_neg (by decide)])
 |true=>exact uP Y.fs u (gC,20) _ (fun w1 hb=>CO (h.ak hb) hd u.c u.data true) (fun h0=>absurd h0 (by decide)) (fun h0=>absurd h0 (by decide)) (by unfold Fs.bL;rw[if_pos rfl];rfl)
theorem stZ(S:Fs)(k:Int):LH (S.get k)=.agg #[.int .i64 (S.cC k).no,.int .i64 (S.cC k).dev,.int .i64 (S.cC k).kind,.int .i64 (S.cC k).mode,.int .i64 (S.cC k).uid,.int .i64 (S.cC k).gid,.int .i64 (S.cC k).an,.int .i64 (S.cC k).data.size,.int .i64 (S.cC k).mtime,.int .i64 (S.cC k).ctime]:=by
 rcases oP S k with⟨a,h1,h2⟩|⟨h1,h2⟩
 ·rw[h1,h2];rfl
 ·rw[h1,h2];rfl
end
end
section
open Go.RowKit
theorem lI{tmps:Array Value}{W:World}{B:Nat}{x:Fd}{e:Int}(hb:au W B #[.int .i64 x.dir,.string x.name,.int .i64 x.no,.bool x.zX] 140)
  (h8:tmps.getD 8 undef=.pointer (some ⟨B,0,none⟩)) (h9:tmps.getD 9 undef=.int .i64 e):(results Tryz.f69 tmps).run Tryz.prog W=.ok (.tuple #[x.v,.int .i64 e]) W:=by
 have q0:=hb.cell 0;have q1:=hb.cell 1;have q2:=hb.cell 2;have q3:=hb.cell 3;rw[Array.getD_eq_getD_getElem?] at h8 h9;simp[results,Tryz.results69,go_sem,Fd.v,h8,h9,q0,q1,q2,q3]
section
variable{w w':World}{pf:Nat}{R:Rf}{S:Fs}
theorem Al(h:aE w pf R S){N:Nat}(hk:av S N)(hd:R.dd=.bool false)(c:Cr)(path:ByteArray)(hp:path.size≤100000)(f:Bool) :
  Calls Tryz.prog 69 #[.pointer (some ⟨pf,0,none⟩),.agg #[.int .i64 c.u,.int .i64 c.g],.string path,.bool f] w fun e w'=>e=.returned (.tuple #[(S.path c path f).1.v,.int .i64 (S.path c path f).2])∧Up w w':=by
 have eF:au ((w.alloc (.cells #[.int .i64 c.u,.int .i64 c.g] 69)).alloc (.cells #[.int .i64 0,.string ⟨#[]⟩,.int .i64 0,.bool false] 140)) (w.heap.size+1) #[.int .i64 0,.string ⟨#[]⟩,.int .i64 0,.bool false] 140:=by
  have:=au.new (w.alloc (.cells #[.int .i64 c.u,.int .i64 c.g] 69)) #[.int .i64 0,.string ⟨#[]⟩,.int .i64 0,.bool false] 140
  rwa [World.size_alloc] at this
 have fy:=(au.new w #[.int .i64 c.u,.int .i64 c.g] 69).eE (.cells #[.int .i64 0,.string ⟨#[]⟩,.int .i64 0,.bool false] 140);have ax:=al (al (Uq w) (.cells #[.int .i64 c.u,.int .i64 c.g] 69)) (.cells #[.int .i64 0,.string ⟨#[]⟩,.int .i64 0,.bool false] 140);have HX:=h.ak ax;have HS:=Um (tv HX hk c path hp f);have hblk:=HX.bd;rw[hd] at hblk;obtain⟨pc,pf',pz⟩:=hblk.facts;obtain⟨cc,-,cz⟩:=fy.facts;have gh:=Um eF;have aJ:=Um ax;generalize S.path c path f=rd at HS⊢;unfold Fd.v at HS;clear h hk hd HX eF ax hblk fy;go_enter Tryz.func69,Tryz.ntmps69;go_wp2_with fail;refine HS.o.mono ?_;rintro e w4 ⟨rfl,dI⟩;have hr4:=gh.o.ak dI;obtain⟨rc,rf,rz⟩:=hr4.facts;have se:=Um hr4;have hZ:=Um (ao aJ.o dI);clear dI hr4 pc pf' pz cc cz;go_wp2_with (exact bodyPost_ret (lI se.o.cO rfl rfl) rfl ⟨rfl,aw hZ.o (Nat.le_succ _)⟩)
end
end
section
open Go.RowKit
section
variable{w w':World}{pf:Nat}{R:Rf}{S:Fs}
theorem xX(h:aE w pf R S)(hd:R.dd=.bool true)(c:Cr)(path:ByteArray)(f:Bool) :
  Calls Tryz.prog 69 #[.pointer (some ⟨pf,0,none⟩),.agg #[.int .i64 c.u,.int .i64 c.g],.string path,.bool f] w fun e w'=>e=.returned (.tuple #[gC.v,.int .i64 20])∧Up w w':=by
 have eF:au ((w.alloc (.cells #[.int .i64 c.u,.int .i64 c.g] 69)).alloc (.cells #[.int .i64 0,.string ⟨#[]⟩,.int .i64 0,.bool false] 140)) (w.heap.size+1) #[.int .i64 0,.string ⟨#[]⟩,.int .i64 0,.bool false] 140:=by
  have:=au.new (w.alloc (.cells #[.int .i64 c.u,.int .i64 c.g] 69)) #[.int .i64 0,.string ⟨#[]⟩,.int .i64 0,.bool false] 140
  rwa [World.size_alloc] at this
 have ax:=al (al (Uq w) (.cells #[.int .i64 c.u,.int .i64 c.g] 69)) (.cells #[.int .i64 0,.string ⟨#[]⟩,.int .i64 0,.bool false] 140);have hblk:=(h.ak ax).bd;rw[hd] at hblk;clear h hd;go_enter Tryz.func69,Tryz.ntmps69;go_upto_region 1 with fail;generalize (w.alloc (.cells #[.int .i64 c.u,.int .i64 c.g] 69)).alloc (.cells #[.int .i64 0,.string ⟨#[]⟩,.int .i64 0,.bool false] 140)=W0 at eF ax hblk⊢;obtain⟨pc,pf',pz⟩:=hblk.facts;obtain⟨rc,rf,rz⟩:=eF.facts;have gh:=Um eF;have aJ:=Um ax;clear eF ax hblk;go_wp2_with fail;exact bodyPost_ret (lI (x:=gC) gh.o.cO rfl rfl) rfl ⟨rfl,aw aJ.o (Nat.le_succ _)⟩
theorem tG(S:Fs)(u:Us)(x:Fd×Int)(rd:Int×Int)
  (hF:∀w1,Up w w1→Calls Tryz.prog 69 #[.pointer (some ⟨pf,0,none⟩),.agg #[.int .i64 u.c.u,.int .i64 u.c.g],.string u.data,.bool true] w1 fun e w'=>e=.returned (.tuple #[x.1.v,.int .i64 x.2])∧Up w1 w')
  (h:aE w pf R S) (hR:rd=if x.2≠0 then(0,x.2) else if x.1.no=0 then(0,5) else if(S.cC x.1.no).kind≠1 then(0,9) else(x.1.no,0)) :
  Calls Tryz.prog 35 #[.pointer (some ⟨pf,0,none⟩),.agg #[.int .i64 u.u,.int .i64 u.g,.string u.data]] w fun e w'=>e=.returned (.tuple #[.int .i64 rd.1,.int .i64 rd.2])∧Up w w':=by
 obtain⟨hX,ax⟩:=Uo w #[.int .i64 u.u,.int .i64 u.g,.string u.data] 27;have HC:=Um (qE u.u u.g u.data);have HF:=Um hF;have HG:=Um (fun w1 (ar:Up w w1) k=>iu (h.ak ar) k);have HR:=Um hR;clear hF hR h;obtain⟨⟨x1,x2,x3,x4⟩,x5⟩:=x;unfold Fd.v Us.c at HF;dsimp only at HR HF;go_enter Tryz.func35,Tryz.ntmps35;go_upto_region 1 with fail;generalize w.alloc _=W0 at hX ax⊢;have aJ:=Um ax;obtain⟨xc,xf,xz⟩:=hX.facts;clear hX
 go_cut [6,7] (fun t6 t7 wx=>∃Bd:Nat,t6=.pointer (some ⟨Bd,0,none⟩)∧t7=.int .i64 x5∧au wx Bd #[.int .i64 x1,.string x2,.int .i64 x3,.bool x4] 140∧Up w wx)
 case first=>
  go_wp2_with fail;have hzz:W0.heap.size≤W0.heap.size:=aa _
  go_region_held3 (fun w'=>(∀b o,b<W0.heap.size→w'.cell? ⟨b,o,none⟩=W0.cell? ⟨b,o,none⟩)∧Up W0 w') (first|with_reducible assumption|with_reducible exact ck _|with_reducible exact bI _|with_reducible exact bN (by assumption) (by assumption)|with_reducible exact bB (by assumption) _|with_reducible exact bu (by assumption) _|with_reducible exact bm (by assumption) (by assumption)|with_reducible exact cj (by assumption) (by assumption))
   ((first
    |(go_at_call 33;((with_reducible refine(HC.o _).mono ?_);rintro e w4 ⟨rfl,dI⟩;have hz4:=ae (And.right ‹(∀b o,b<W0.heap.size→_)∧Up W0 _›).size dI.size;try (have hbq:=gj dI;obtain⟨bqc,bqf,bqz⟩:=hbq.facts)))
    |(go_at_call 69;((with_reducible refine(HF.o _ (aJ.o.trans ((And.right ‹(∀b o,b<W0.heap.size→_)∧Up W0 _›).mono aJ.o.size))).mono ?_);rintro e w5 ⟨rfl,b9⟩;have Pg:=ae (And.right ‹(∀b o,b<W0.heap.size→_)∧Up W0 _›).size b9.size;first|(have hbr:=hbq.ak b9;obtain⟨brc,brf,brz⟩:=hbr.facts)|(have hbr:=gj b9;obtain⟨brc,brf,brz⟩:=hbr.facts)|(have hbr:=tU b9;obtain⟨brc,brf,brz⟩:=hbr.facts)|skip))))
  all_goals
   obtain⟨-,lJ⟩:=‹_∧Up W0 _›;have sO:=Um lJ
   try (have zv:=Um hbr)
   clear lJ;go_wp2_with fail;go_meet;exact⟨_,rfl,rfl,by first|exact zv.o.cO|exact au.new _ _ _,aJ.o.trans (sO.o.mono aJ.o.size)⟩
 case rest=>
  obtain⟨Bd,rfl,rfl,gJ,et⟩:=hcut;generalize wc=X at gJ et⊢;have jQ:=Um et;have vJ:=Um gJ;obtain⟨dc,df,dz⟩:=gJ.facts;clear ax gJ et xc xf xz;by_cases h5:x5=0
  ·subst h5;have ik:=Um (HR.o.trans (if_neg (by decide)));by_cases hn:x3=0
   ·have hnb:(x3==0)=true:=by simpa using hn
    have od:=Um (ik.o.trans (if_pos hn));clear hn;go_wp2_with fail;go_ret2;rw[od.o];exact⟨rfl,jQ.o⟩
   ·have hnb:(x3==0)=false:=by simpa using hn
    have od:=Um (ik.o.trans (if_neg hn));obtain⟨ea,el,ec,-,LQ⟩:=HG.o _ jQ.o x3;have L5:=Um LQ;unfold An.v at L5;generalize S.cC x3=a at od L5;have hfd:∀w,(Instr.field 99 (.agg #[.int .i64 a.no,.int .i64 a.dev,.int .i64 a.kind,.int .i64 a.mode,.int .i64 a.uid,.int .i64 a.gid,.int .i64 a.mtime,.int .i64 a.ctime,.int .i64 a.an,.int .i64 a.up,.string a.data,.slice ea el ec]) 2).run Tryz.prog w=.ok (.int .i64 a.kind) w:=fun _=>by kernel_rfl
    clear hn LQ;go_wp2_with fail;refine(L5.o _ (Below.refl _ _)).mono ?_;rintro e w6 ⟨rfl,eV⟩;have Q3:=vJ.o.ak eV;have jX:=Um (ao jQ.o eV);clear eV dc df dz;obtain⟨dc,df,dz⟩:=Q3.facts;clear Q3;by_cases h1:a.kind=1
    ·have mH:(a.kind != 1)=false:=by simpa using h1
     have l1:=Um (od.o.trans (if_neg (by simpa using h1)));clear h1;go_wp2_with fail;go_ret2;rw[l1.o];exact⟨rfl,jX.o⟩
    ·have mH:(a.kind != 1)=true:=by simpa using h1
     have l1:=Um (od.o.trans (if_pos h1));clear h1;go_wp2_with fail;go_ret2;rw[l1.o];exact⟨rfl,jX.o⟩
  ·have h5':(x5 != 0)=true:=by simpa using h5
   have ik:=Um (HR.o.trans (if_pos h5));clear h5;go_wp2_with fail;go_ret2;rw[ik.o];exact⟨rfl,jQ.o⟩
theorem tH(h:aE w pf R S){N:Nat}(hk:av S N){d:Bool}(hd:R.dd=.bool d)(u:Us)(ht:u.data.size≤100000) :
  Calls Tryz.prog 35 #[.pointer (some ⟨pf,0,none⟩),.agg #[.int .i64 u.u,.int .i64 u.g,.string u.data]] w fun e w'=>e=.returned (.tuple #[.int .i64 (S.bL d u).1,.int .i64 (S.bL d u).2])∧Up w w':=by
 cases d with
 |false=>exact tG S u _ _ (fun w1 hb=>Al (h.ak hb) hk hd u.c u.data ht true) h (by unfold Fs.bL;rw[if_neg (by decide)])
 |true=>exact tG S u (gC,20) _ (fun w1 hb=>xX (h.ak hb) hd u.c u.data true) h (by unfold Fs.bL;rw[if_pos rfl];rfl)
end
end
section
open Go.RowKit
section
variable{w w':World}{pf pw:Nat}{R:Rp}{pv:Value}{Y:Sy}
theorem CH(h:bK w pf pw R pv Y){N:Nat}(hk:av Y.fs N)(c:Cr)(no:Int) :
  Calls Tryz.prog 39 #[.pointer (some ⟨pf,0,none⟩),.agg #[.int .i64 c.u,.int .i64 c.g],.int .i64 no] w fun e w'=>e=.returned (.tuple #[.string (Y.fs.jD Y.dead c no).1,.int .i64 (Y.fs.jD Y.dead c no).2])∧Up w w':=by
 cases hd:Y.dead with
 |false=>exact CG h hk hd c no
 |true=>
  have ax:=al (Uq w) (.cells #[.int .i64 c.u,.int .i64 c.g] 69);have HR:=Um (fun w1 (ar:Up w w1)=>iq (h.ak ar));rw[hd] at HR;clear h hk hd;go_enter Tryz.func39,Tryz.ntmps39;go_wp2_with fail;refine(HR.o _ ax).mono ?_;rintro e w1 ⟨rfl,rfl⟩;go_wp2_with fail;go_ret2;exact⟨rfl,ax⟩
end
end
section
open Go.RowKit
def Ld(B:Nat)(r:Gs×Int×Int)(e:Ending)(w':World):Prop:=
 ∃base a c gs,B≤base∧gs.map Gr.p=r.1∧e=.returned (.tuple #[.slice a gs.length c,.int .i64 r.2.1,.int .i64 r.2.2])∧OG w' base (.slice a gs.length c) gs∧rv gs
theorem ej{B:Nat}{r:Gs×Int×Int}{x:Int}{w':World}(h:r=([],0,x)):Ld B r (.returned (.tuple #[.slice none 0 0,.int .i64 0,.int .i64 x])) w':=by
 subst h;exact⟨B,none,0,[],aa _,rfl,rfl,OG.nil _ _,fun g hg=>by simp at hg⟩
theorem JZ(S:Fs)(d:Bool)(u:Us)(no:Int):S.Se d u no=if(S.cC no).kind≠2 then([],0,1) else if(S.cC no).uid≠u.u then([],0,4)
 else if(S.jD d u.c no).2≠0 then([],0,(S.jD d u.c no).2)
 else match dm (S.jD d u.c no).1.data.toList with
  |none=>([],0,2)
  |some gs=>(gs,no,0):=rfl
theorem Dg{S:Fs}{d:Bool}{c:Cr}{dir:Int}{n:ByteArray}(h:(S.cR d c dir n).2=0):d=false:=by
 unfold Fs.cR at h
 cases d with
 |false=>rfl
 |true=>rw[if_pos rfl] at h;exact absurd h (by decide)
section
variable{w w':World}{pf pw:Nat}{R:Rp}{pv:Value}{Y:Sy}
theorem ku(h:bK w pf pw R pv Y){N:Nat}(hk:qj Y.fs N)(hN:N≤999999)(u:Us)(ht:u.data.size≤100000)(hm:kl w) :
  Calls Tryz.prog 16 #[.pointer (some ⟨pf,0,none⟩),.agg #[.int .i64 u.u,.int .i64 u.g,.string u.data]] w fun e w'=>Ld w.heap.size (Y.fs.aV Y.dead u) e w'∧Up w w':=by
 obtain⟨hX,ax⟩:=Uo w #[.int .i64 u.u,.int .i64 u.g,.string u.data] 27;have HC:=Um (rh u.u u.g u.data);have HM:=Um hm;have HD:=Um (fun w1 (ar:Up w w1)=>uQ (h.ak ar) hk.ok hN hk.pl hk.wy u ht);have HL:=Um (fun w1 (ar:Up w w1)=>Fw (h.ak ar) hk.ok hN u.c);have gr:=Um (fun(hd:Y.dead=false) w1 (ar:Up w w1) no=>qx (h.ak ar) hk.ok hd no);have TM:=Um (fun w1 (ar:Up w w1) no=>CH (h.ak ar) hk.ok u.c no);have kC:=Um (fun no=>oB hk.ok Y.dead u.c no);generalize hdd:Y.dead=dd at HD HL gr TM kC⊢;generalize Y.fs=S at HD HL gr TM kC⊢;have HR:=Um (show S.aV dd u=if(S.bL dd u).2≠0 then([],0,(S.bL dd u).2) else if(S.cR dd u.c (S.bL dd u).1 dq).2=5 then([],0,0) else if(S.cR dd u.c (S.bL dd u).1 dq).2≠0 then([],0,(S.cR dd u.c (S.bL dd u).1 dq).2) else S.Se dd u (S.cR dd u.c (S.bL dd u).1 dq).1 from rfl);generalize S.aV dd u=rd at HR⊢;generalize S.bL dd u=dr at HR HD;obtain⟨dn,de⟩:=dr;dsimp only at HR HD;have HL:=Um (fun w1 ar=>HL.o w1 ar dn dq);have Oe:=Um (fun(h0:(S.cR dd u.c dn dq).2=0)=>Dg h0);generalize S.cR dd u.c dn dq=lr at HR HL Oe;obtain⟨no,le⟩:=lr;dsimp only at HR HL Oe;unfold Us.c dq at HL;clear h hk hm hdd;go_enter Tryz.func16,Tryz.ntmps16;go_upto_region 1 with fail;generalize w.alloc _=W0 at hX ax⊢;have aJ:=Um ax;have HX:=Um hX;obtain⟨xc,xf,xz⟩:=hX.facts;clear hX ax;go_wp2_with fail;refine(HD.o _ aJ.o).mono ?_;rintro e w1 ⟨rfl,ar⟩;have cM:=Um (ao aJ.o ar);have qN:=HX.o.ak ar;have xI:=Um qN;clear ar xc xf xz;obtain⟨xc,xf,xz⟩:=qN.facts;clear qN;by_cases hde:de=0
 ·subst hde;have ik:=Um (HR.o.trans (if_neg (by decide)));go_wp2_with fail;refine(HC.o _).mono ?_;rintro e w2 ⟨rfl,aD⟩;have cV:=Um (ao cM.o aD);have jO:=xI.o.ak aD;have lZ:=Um jO;clear aD xc xf xz jO;go_wp2_with fail;refine(HL.o _ cV.o).mono ?_;rintro e w3 ⟨rfl,bJ⟩;have ez:=Um (ao cV.o bJ);have iJ:=lZ.o.ak bJ;have qp:=Um iJ;clear bJ;obtain⟨xc,xf,xz⟩:=iJ.facts;clear iJ;by_cases h5:le=5
  ·subst h5;have HE:=Um (ik.o.trans (if_pos rfl));go_wp2_with fail
   go_ret3
   exact⟨ej HE.o,ez.o⟩
  ·have h5b:(le==5)=false:=by simpa using h5
   have od:=Um (ik.o.trans (if_neg h5));by_cases h0:le=0
   ·subst h0;have l1:=Um (od.o.trans (if_neg (by decide)));have Oe:=Um (Oe.o rfl);have sO:=Um (gr.o Oe.o _ ez.o no);have se:=Um (l1.o.trans (JZ S dd u no));rw[stZ] at sO;generalize S.cC no=x at se sO;have rq:=Um (fun w1 ar=>TM.o w1 ar no);have N2:=Um (kC.o no);generalize S.jD dd u.c no=rr at se rq N2;obtain⟨bs,be⟩:=rr;dsimp only at se rq N2;unfold Us.c at rq;clear h5 h5b;go_wp2_with fail;refine sO.o.mono ?_;rintro e w4 ⟨rfl,dI⟩;have hV:=au.new w4 #[.int .i64 x.no,.int .i64 x.dev,.int .i64 x.kind,.int .i64 x.mode,.int .i64 x.uid,.int .i64 x.gid,.int .i64 x.an,.int .i64 x.data.size,.int .i64 x.mtime,.int .i64 x.ctime] 91;have Ij:=(qp.o.ak dI).eE (.cells #[.int .i64 x.no,.int .i64 x.dev,.int .i64 x.kind,.int .i64 x.mode,.int .i64 x.uid,.int .i64 x.gid,.int .i64 x.an,.int .i64 x.data.size,.int .i64 x.mtime,.int .i64 x.ctime] 91);have vD:=al (ao ez.o dI) (.cells #[.int .i64 x.no,.int .i64 x.dev,.int .i64 x.kind,.int .i64 x.mode,.int .i64 x.uid,.int .i64 x.gid,.int .i64 x.an,.int .i64 x.data.size,.int .i64 x.mtime,.int .i64 x.ctime] 91);clear dI xc xf xz;go_upto_region 10 with fail;generalize w4.alloc _=W5 at hV Ij vD⊢;have hZ:=Um vD;have HX5:=Um Ij;obtain⟨xc,xf,xz⟩:=Ij.facts;obtain⟨vc,vf,vz⟩:=hV.facts;clear hV Ij vD;by_cases h2:x.kind=2
    ·have Tm:(x.kind != 2)=false:=by simpa using h2
     have oZ:=Um (se.o.trans (if_neg (by simpa using h2)));by_cases hu:x.uid=u.u
     ·have hub:(x.uid != u.u)=false:=by simpa using hu
      have BY:=Um (oZ.o.trans (if_neg (by simpa using hu)));clear h2;go_wp2_with fail;refine(HC.o _).mono ?_;rintro e w6 ⟨rfl,eV⟩;have sP:=Um (ao hZ.o eV);clear eV xc xf xz vc vf vz hu hub Tm;go_wp2_with fail;refine(rq.o _ sP.o).mono ?_;rintro e w7 ⟨rfl,yE⟩;have sC:=Um (ao sP.o yE);clear yE;by_cases hbe:be=0
      ·subst hbe;have LX:=Um (BY.o.trans (if_neg (by decide)));have HP:=Um (wz bs w7 (by have:=N2.o;omega) (HM.o.ak sC.o));go_wp2_with fail;refine HP.o.mono ?_;rintro e w8 ⟨⟨hp,rfl⟩|⟨base,a,c,gs,hbs,hp,rfl,fK,vo⟩,lT⟩
       ·have HE:=Um (show rd=([],0,2) by rw[LX.o,hp]);have E3:=Um (ao sC.o lT);clear lT hp;go_wp2_with fail
        go_ret3
        exact⟨ej HE.o,E3.o⟩
       ·have HE:=Um (show rd=(gs.map Gr.p,no,0) by rw[LX.o,hp]);have E3:=Um (ao sC.o lT);have HQ:=Um (ag hbs (ag fK vo));clear lT hp hbs fK vo;go_wp2_with fail
        go_ret3
        rw[HE.o];exact⟨⟨base,a,c,gs,ae sC.o.size HQ.o.1,rfl,rfl,HQ.o.2.1,HQ.o.2.2⟩,E3.o⟩
      ·have hbb:(be != 0)=true:=by simpa using hbe
       have HE:=Um (BY.o.trans (if_pos hbe));clear hbe;go_wp2_with fail
       go_ret3
       exact⟨ej HE.o,sC.o⟩
     ·have hub:(x.uid != u.u)=true:=by simpa using hu
      have HE:=Um (oZ.o.trans (if_pos hu));clear h2 hu;go_wp2_with fail
      go_ret3
      exact⟨ej HE.o,hZ.o⟩
    ·have Tm:(x.kind != 2)=true:=by simpa using h2
     have HE:=Um (se.o.trans (if_pos h2));clear h2;go_wp2_with fail
     go_ret3
     exact⟨ej HE.o,hZ.o⟩
   ·have nZ:(le != 0)=true:=by simpa using h0
    have HE:=Um (od.o.trans (if_pos h0));clear h0 h5;go_wp2_with fail
    go_ret3
    exact⟨ej HE.o,ez.o⟩
 ·have hdb:(de != 0)=true:=by simpa using hde
  have HE:=Um (HR.o.trans (if_pos hde));clear hde;go_wp2_with fail
  go_ret3
  exact⟨ej HE.o,cM.o⟩
end
end
section
open Go.RowKit Go.Shelf
section
variable{w w':World}{pf:Nat}{R:Rf}{S:Fs}
theorem kp(h:aE w pf R S){N:Nat}(hk:av S N){dd:Bool}(hd:R.dd=.bool dd)(u:Us)(ht:u.data.size≤100000) :
  Calls Tryz.prog 17 #[.pointer (some ⟨pf,0,none⟩),.agg #[.int .i64 u.u,.int .i64 u.g,.string u.data]] w fun e w'=>Ld w.heap.size (S.aV dd u) e w'∧Up w w':=by
 obtain⟨hX,ax⟩:=Uo w #[.int .i64 u.u,.int .i64 u.g,.string u.data] 27;have HC:=Um (qE u.u u.g u.data);have HD:=Um (fun w1 (ar:Up w w1)=>tH (h.ak ar) hk hd u ht);have HL:=Um (fun w1 (ar:Up w w1)=>FL (h.ak ar) hk hd u.c);have HG:=Um (fun w1 (ar:Up w w1) k=>iu (h.ak ar) k);have TM:=Um (fun w1 (ar:Up w w1) no=>Ab (h.ak ar) hk hd u.c no);have kC:=Um (fun no=>oB hk dd u.c no);have HR:=Um (show S.aV dd u=if(S.bL dd u).2≠0 then([],0,(S.bL dd u).2) else if(S.cR dd u.c (S.bL dd u).1 dq).2=5 then([],0,0) else if(S.cR dd u.c (S.bL dd u).1 dq).2≠0 then([],0,(S.cR dd u.c (S.bL dd u).1 dq).2) else S.Se dd u (S.cR dd u.c (S.bL dd u).1 dq).1 from rfl);generalize S.aV dd u=rd at HR⊢;generalize S.bL dd u=dr at HR HD;obtain⟨dn,de⟩:=dr;dsimp only at HR HD;have HL:=Um (fun w1 ar=>HL.o w1 ar dn dq);generalize S.cR dd u.c dn dq=lr at HR HL;obtain⟨no,le⟩:=lr;dsimp only at HR HL;unfold Us.c dq at HL;clear h hk hd;go_enter Tryz.func17,Tryz.ntmps17;go_upto_region 1 with fail;generalize w.alloc _=W0 at hX ax⊢;have aJ:=Um ax;have HX:=Um hX;obtain⟨xc,xf,xz⟩:=hX.facts;clear hX ax;go_wp2_with fail;refine(HD.o _ aJ.o).mono ?_;rintro e w1 ⟨rfl,ar⟩;have cM:=Um (ao aJ.o ar);have qN:=HX.o.ak ar;have xI:=Um qN;clear ar xc xf xz;obtain⟨xc,xf,xz⟩:=qN.facts;clear qN;by_cases hde:de=0
 ·subst hde;have ik:=Um (HR.o.trans (if_neg (by decide)));go_wp2_with fail;refine(HC.o _).mono ?_;rintro e w2 ⟨rfl,aD⟩;have cV:=Um (ao cM.o aD);have jO:=xI.o.ak aD;have lZ:=Um jO;clear aD xc xf xz jO;go_wp2_with fail;refine(HL.o _ cV.o).mono ?_;rintro e w3 ⟨rfl,bJ⟩;have ez:=Um (ao cV.o bJ);have iJ:=lZ.o.ak bJ;have qp:=Um iJ;clear bJ;obtain⟨xc,xf,xz⟩:=iJ.facts;clear iJ;by_cases h5:le=5
  ·subst h5;have HE:=Um (ik.o.trans (if_pos rfl));go_wp2_with fail
   go_ret3
   exact⟨ej HE.o,ez.o⟩
  ·have h5b:(le==5)=false:=by simpa using h5
   have od:=Um (ik.o.trans (if_neg h5));by_cases h0:le=0
   ·subst h0;have l1:=Um (od.o.trans (if_neg (by decide)));have se:=Um (l1.o.trans (JZ S dd u no));obtain⟨ea,el,ec,-,LQ⟩:=HG.o _ ez.o no;have L5:=Um LQ;unfold An.v at L5;clear LQ;generalize S.cC no=x at se L5;have iV:∀w,(Instr.field 99 (.agg #[.int .i64 x.no,.int .i64 x.dev,.int .i64 x.kind,.int .i64 x.mode,.int .i64 x.uid,.int .i64 x.gid,.int .i64 x.mtime,.int .i64 x.ctime,.int .i64 x.an,.int .i64 x.up,.string x.data,.slice ea el ec]) 2).run Tryz.prog w=.ok (.int .i64 x.kind) w:=fun _=>by kernel_rfl
    have hf4:∀w,(Instr.field 99 (.agg #[.int .i64 x.no,.int .i64 x.dev,.int .i64 x.kind,.int .i64 x.mode,.int .i64 x.uid,.int .i64 x.gid,.int .i64 x.mtime,.int .i64 x.ctime,.int .i64 x.an,.int .i64 x.up,.string x.data,.slice ea el ec]) 4).run Tryz.prog w=.ok (.int .i64 x.uid) w:=fun _=>by kernel_rfl
    have rq:=Um (fun w1 ar=>TM.o w1 ar no);have N2:=Um (kC.o no);generalize S.jD dd u.c no=rr at se rq N2;obtain⟨bs,be⟩:=rr;dsimp only at se rq N2;unfold Us.c at rq;clear h5 h5b;go_wp2_with fail;refine(L5.o _ (Below.refl _ _)).mono ?_;rintro e w5 ⟨rfl,b9⟩;have oh:=Um b9;have hZ:=Um (ao ez.o b9);have Ij:=qp.o.ak b9;have HX5:=Um Ij;clear b9 xc xf xz;obtain⟨xc,xf,xz⟩:=Ij.facts;clear Ij;by_cases h2:x.kind=2
    ·have Tm:(x.kind != 2)=false:=by simpa using h2
     have oZ:=Um (se.o.trans (if_neg (by simpa using h2)));clear h2 xc xf xz;go_upto_region 11 with fail;refine wp_region_held_drew (S:=fun w'=>au w' w.heap.size #[.int .i64 u.u,.int .i64 u.g,.string u.data] 27) (by kernel_rfl) (HX5.o.ak (Below.refl _ w5).drew) (fun cE=>?_);refine bH 4 [(0,42),(1,43),(4,46),(5,47)] (by kernel_rfl) (by kernel_rfl) rfl (fun _ _ _ _ _ h=>h) cE ?_
     iterate 4 (apply bo rfl rfl;(· (intro w9 dG;obtain⟨xc,-,-⟩:=dG.facts;clear dG;go_simp;(try with_reducible rfl)));simp only[ah,ai,aj])
     refine bG ?_;refine dw 2 44 (R:=fun v w'=>v=.agg #[.int .i64 x.no,.int .i64 x.dev,.int .i64 x.kind,.int .i64 x.mode,.int .i64 x.uid,.int .i64 x.gid,.int .i64 x.mtime,.int .i64 x.ctime,.int .i64 x.an,.int .i64 x.up,.string x.data,.slice ea el ec]∧Below w5.drew.heap.size w5.drew w') (by kernel_rfl) rfl rfl rfl ?xa ((L5.o _ (oh.o.drew)).mono (fun e w' ⟨he,hw⟩=>⟨_,he,rfl,hw⟩)) (fun v w' ⟨_,hw⟩=>cE.ak hw) ?_
     case xa=>(go_simp;(try rfl))
     rintro _ w8 ⟨rfl,lT⟩;simp only[ah,ai,aj];refine bH 2 [(3,45),(6,48)] (by kernel_rfl) (by kernel_rfl) rfl (fun _ _ _ _ _ h=>h) (cE.ak lT) ?_
     iterate 2 (apply bo rfl rfl;(· (intro w9 dG;clear dG;go_simp;(try with_reducible rfl)));simp only[ah,ai,aj])
     refine bG ?_;refine wpAnyH_done (by kernel_rfl) ?_ _;have E3:=Um (ao hZ.o ((Below.refl _ w5).drew.trans lT));have hX8:=cE.ak lT;obtain⟨xc,xf,xz⟩:=hX8.facts;clear cE lT hX8;by_cases hu:x.uid=u.u
     ·have hub:(x.uid != u.u)=false:=by simpa using hu
      have BY:=Um (oZ.o.trans (if_neg (by simpa using hu)));go_wp2_with fail;refine(HC.o _).mono ?_;rintro e w6 ⟨rfl,eV⟩;have sP:=Um (ao E3.o eV);clear eV xc xf xz hu hub Tm;go_wp2_with fail;refine(rq.o _ sP.o).mono ?_;rintro e w7 ⟨rfl,yE⟩;have sC:=Um (ao sP.o yE);clear yE;by_cases hbe:be=0
      ·subst hbe;have LX:=Um (BY.o.trans (if_neg (by decide)));have HP:=Um (CV bs w7 (by have:=N2.o;omega));go_wp2_with fail;refine HP.o.mono ?_;rintro e wf ⟨⟨hp,rfl⟩|⟨base,a,c,gs,hbs,hp,rfl,fK,vo⟩,lT⟩
       ·have HE:=Um (show rd=([],0,2) by rw[LX.o,tL _ (by have:=N2.o;have:bs.data.toList.length=bs.size:=Array.length_toList;omega),hp]);have Ub:=Um (ao sC.o lT);clear lT hp;go_wp2_with fail
        go_ret3
        exact⟨ej HE.o,Ub.o⟩
       ·have HE:=Um (show rd=(gs.map Gr.p,no,0) by rw[LX.o,tL _ (by have:=N2.o;have:bs.data.toList.length=bs.size:=Array.length_toList;omega),hp]);have Ub:=Um (ao sC.o lT);have HQ:=Um (ag hbs (ag fK vo));clear lT hp hbs fK vo;go_wp2_with fail
        go_ret3
        rw[HE.o];exact⟨⟨base,a,c,gs,ae sC.o.size HQ.o.1,rfl,rfl,HQ.o.2.1,HQ.o.2.2⟩,Ub.o⟩
      ·have hbb:(be != 0)=true:=by simpa using hbe
       have HE:=Um (BY.o.trans (if_pos hbe));clear hbe;go_wp2_with fail
       go_ret3
       exact⟨ej HE.o,sC.o⟩
     ·have hub:(x.uid != u.u)=true:=by simpa using hu
      have HE:=Um (oZ.o.trans (if_pos hu));clear hu;go_wp2_with fail
      go_ret3
      exact⟨ej HE.o,E3.o⟩
    ·have Tm:(x.kind != 2)=true:=by simpa using h2
     have HE:=Um (se.o.trans (if_pos h2));clear h2;go_wp2_with fail
     go_ret3
     exact⟨ej HE.o,hZ.o⟩
   ·have nZ:(le != 0)=true:=by simpa using h0
    have HE:=Um (od.o.trans (if_pos h0));clear h0 h5;go_wp2_with fail
    go_ret3
    exact⟨ej HE.o,ez.o⟩
 ·have hdb:(de != 0)=true:=by simpa using hde
  have HE:=Um (HR.o.trans (if_pos hde));clear hde;go_wp2_with fail
  go_ret3
  exact⟨ej HE.o,cM.o⟩
end
end
section
open Go.RowKit
theorem yt(B:Nat):∀(vs:List Value) (w:World) (o:Nat),Mod (fun k=>k=B) w (putRow w B o vs)
 | [],w,_=>Mod.refl _ w
 |v::vs,w,o=>by
  unfold putRow;exact((Mod.refl (fun k=>k=B) w).setCell (a:=⟨B,o,none⟩) (.inl rfl) v).trans (yt B vs _ _)
theorem Mod.new{F:Nat→Prop}{w w1 w2:World}{B:Nat}(h:Mod F w w1)(k:Mod (fun k=>k=B) w1 w2)(hB:w.heap.size≤B):Mod F w w2:=
 ⟨k.os.trans h.os,k.tape.trans h.tape,k.output.trans h.output,ae h.size k.size,fun i hi hF=>(k.block i (Nat.lt_of_lt_of_le hi h.size) (fun e=>by omega)).trans (h.block i hi hF)⟩
theorem set_set(S:Fs){a b:An}(h:a.no=b.no):(S.set a).set b=S.set b:=by
 unfold Fs.set;simp only[List.map_map];congr 1;apply List.map_congr_left;intro x _;simp only[Function.comp_apply];by_cases hx:x.no=a.no
 ·simp[hx,h]
 ·simp[hx,h▸hx]
section
variable{w w':World}{pw:Nat}{R:Rp}{S:Fs}
theorem DY(h:bh w pw R S){N:Nat}(hk:av S N)(c:Cr)(now no:Int)(data:ByteArray)(hg:S.get no=none) :
  Calls Tryz.prog 61 #[.pointer (some ⟨pw,0,none⟩),.agg #[.int .i64 c.u,.int .i64 c.g],.int .i64 now,.int .i64 no,.string data] w fun e w'=>e=.returned (.int .i64 5)∧Up w w':=by
 have j8:=Um (fun w1 (ar:Up w w1)=>fi (h.ak ar) hk.d1);have hnz:=hk.d1;generalize S.ds.length=n at j8 hnz;have hz:((n:Int)==0)=false:=by simp;omega
 have HG:=Um (fun w1 (ar:Up w w1)=>fN (h.ak ar) hg);obtain⟨pc,-,pz⟩:=h.bd.facts;unfold An.v dh at HG;clear h hk hg;go_enter Tryz.func61,Tryz.ntmps61;go_wp2_with fail;refine(j8.o _ (al (Below.refl _ _) _)).mono ?_;rintro e w1 ⟨rfl,rfl⟩;go_wp2_with fail;refine(HG.o _ (al (Below.refl _ _) _)).mono ?_;rintro e w1 ⟨rfl,ar⟩;have HB:=Um (ao (al (Uq w) _) ar);clear ar pc;go_wp2_with fail;go_ret;exact⟨rfl,al HB.o _⟩
theorem DX(h:bh w pw R S){N:Nat}(hk:av S N)(c:Cr)(now no:Int)(data:ByteArray)(hs:data.size≤9223372036854775807)(d:An)(hg:S.get no=some d) :
  Calls Tryz.prog 61 #[.pointer (some ⟨pw,0,none⟩),.agg #[.int .i64 c.u,.int .i64 c.g],.int .i64 now,.int .i64 no,.string data] w fun e w'=>e=.returned (.int .i64 (S.fill c now no data).2)∧∃R',bh w' pw R' (S.fill c now no data).1∧aL (R.F pw) (R'.F pw) w w':=by
 have j8:=Um (fun w1 (ar:Up w w1)=>fi (h.ak ar) hk.d1);have hnz:=hk.d1;generalize S.ds.length=n at j8 hnz;have hz:((n:Int)==0)=false:=by simp;omega
 obtain⟨hdo,hdn,-,-⟩:=hk.get hg;obtain⟨v,hv,-⟩:=q' hdo.dev.1 hdo.dev.2;obtain⟨ea,el,ec,he,hG⟩:=eA h hg;have HE:=Um he;have HG:=Um hG;unfold An.v at HG;have lM:=Um (fun w=>nk c d ea el ec 2 w);unfold Cr.v An.v at lM;have HW:=Um h;have Rt:=Um (fun(h2:d.kind=2) (h3:data.size≤1048576) w1 (ar:Up w w1)=>E8 (h.ak ar) hk no d hg h2 v hv data h3);have HR:=Um (show S.fill c now no data=if d.kind=1 then(S,8) else if d.kind≠2 then(S,1) else if d.may c 2=false then(S,6) else if 1048576<data.size then(S,3) else
   if gZ v.b v.n v.mb v.mn (cK d data) 0≠0 then(S,gZ v.b v.n v.mb v.mn (cK d data) 0)
   else((S.aR d.dev {v with b:=v.b+cK d data}).set {d with data:=data,mtime:=now,ctime:=now},0) by unfold Fs.fill;rw[hg];simp only;rw[hv])
 have Cl:=Um (ag hdn hg);have HWF:=Um (show S.lK d v data=if gZ v.b v.n v.mb v.mn (cK d data) 0≠0 then(S,gZ v.b v.n v.mb v.mn (cK d data) 0) else((S.aR d.dev {v with b:=v.b+cK d data}).set {d with data:=data},0) from rfl);obtain⟨pc,-,pz⟩:=h.bd.facts;have vr:=Um pc;have Rg:=Um pz;have mixed:Tryz.prog.follows .mixedOrders=true:=by kernel_rfl
 generalize d.may c 2=my at lM HR;generalize S.fill c now no data=fr at HR⊢;generalize S.lK d v data=fw at HWF Rt;clear h hk hg he hG hdo hdn hv;go_enter Tryz.func61,Tryz.ntmps61;go_wp2_with fail;refine(j8.o _ (al (Below.refl _ _) _)).mono ?_;rintro e w1 ⟨rfl,rfl⟩;go_wp2_with fail;refine(HG.o _ (al (Below.refl _ _) _)).mono ?_;rintro e w1 ⟨rfl,ar⟩;have ax:=al (ao (al (Uq w) _) ar) (.cells #[.int .i64 d.no,.int .i64 d.dev,.int .i64 d.kind,.int .i64 d.mode,.int .i64 d.uid,.int .i64 d.gid,.int .i64 d.mtime,.int .i64 d.ctime,.int .i64 d.an,.int .i64 d.up,.string d.data,.slice ea el ec] 99);have fy:=((au.new w #[.int .i64 c.u,.int .i64 c.g] 69).ak ar).eE (.cells #[.int .i64 d.no,.int .i64 d.dev,.int .i64 d.kind,.int .i64 d.mode,.int .i64 d.uid,.int .i64 d.gid,.int .i64 d.mtime,.int .i64 d.ctime,.int .i64 d.an,.int .i64 d.up,.string d.data,.slice ea el ec] 99);have gJ:=au.new w1 #[.int .i64 d.no,.int .i64 d.dev,.int .i64 d.kind,.int .i64 d.mode,.int .i64 d.uid,.int .i64 d.gid,.int .i64 d.mtime,.int .i64 d.ctime,.int .i64 d.an,.int .i64 d.up,.string d.data,.slice ea el ec] 99;have hsz:=ae (al (Uq w) (.cells #[.int .i64 c.u,.int .i64 c.g] 69)).size ar.size;clear ar pc;go_upto_region 4 with fail;generalize w1.alloc _=X at ax fy gJ⊢;generalize w1.heap.size=Bn at gJ hsz⊢;have kC:=Um hsz;have vJ:=Um gJ;have aJ:=Um ax;obtain⟨dc,df,dz⟩:=gJ.facts;obtain⟨cc,-,cz⟩:=fy.facts;clear ax gJ fy hsz;by_cases h1:d.kind=1
 ·have mH:(d.kind==1)=true:=by simpa using h1
  have fX:=Um (HR.o.trans (if_pos h1));clear h1;go_wp2_with fail;go_ret;rw[fX.o];exact⟨rfl,R,HW.o.ak aJ.o,aL.aq aJ.o⟩
 have mH:(d.kind==1)=false:=by simpa using h1
 have ik:=Um (HR.o.trans (if_neg h1));by_cases h2:d.kind≠2
 ·have kA:(d.kind != 2)=true:=by simpa using h2
  have fX:=Um (ik.o.trans (if_pos h2));clear h1 h2;go_wp2_with fail;go_ret;rw[fX.o];exact⟨rfl,R,HW.o.ak aJ.o,aL.aq aJ.o⟩
 have h2:d.kind=2:=by simpa using h2
 have kA:(d.kind != 2)=false:=by simpa using h2
 have od:=Um (ik.o.trans (if_neg (by simpa using h2)));have L2:=Um h2;clear h1 h2;go_wp2_with fail;refine(lM.o _).mono ?_;rintro e w5 ⟨rfl,b9⟩;have sr:=vJ.o.ak b9;have HDX5:=Um sr;have lF:=Um (ao aJ.o b9);clear dc df dz cc cz b9;obtain⟨dc,df,dz⟩:=sr.facts;clear sr
 cases my with
 |false=>
  have fX:=Um (od.o.trans (if_pos rfl));go_wp2_with fail;go_ret;rw[fX.o];exact⟨rfl,R,HW.o.ak lF.o,aL.aq lF.o⟩
 |true=>
  have l1:=Um (od.o.trans (if_neg (by decide)));by_cases h3:1048576<data.size
  ·have vF:(1048576:Int)<(data.size:Int):=by omega
   have fX:=Um (l1.o.trans (if_pos h3));clear h3;go_wp2_with fail;go_ret;rw[fX.o];exact⟨rfl,R,HW.o.ak lF.o,aL.aq lF.o⟩
  have vF:¬(1048576:Int)<(data.size:Int):=by omega
  have se:=Um (l1.o.trans (if_neg h3));have HFc:=Um (Rt.o L2.o (by omega) _ lF.o);clear h3;go_wp2_with fail;refine HFc.o.mono ?_;rintro e w6 ⟨rfl,R6,Bc,lV⟩;have Nx:=(aL.aq (F:=R.F pw) lF.o).trans lV;by_cases h4:gZ v.b v.n v.mb v.mn (cK d data) 0≠0
  ·have hF:fw=(S,gZ v.b v.n v.mb v.mn (cK d data) 0):=HWF.o.trans (if_pos h4);have fX:=Um (se.o.trans (if_pos h4));rw[hF] at Bc⊢;generalize gZ v.b v.n v.mb v.mn (cK d data) 0=te at fX h4⊢;have h4':(te != 0)=true:=by simpa using h4
   have HY:=Um (ag Bc Nx);clear h4 Bc lV Nx hF;go_wp2_with fail;go_ret;rw[fX.o];exact⟨rfl,R6,HY.o⟩
  have h4:gZ v.b v.n v.mb v.mn (cK d data) 0=0:=by simpa using h4
  have hF:fw=((S.aR d.dev {v with b:=v.b+cK d data}).set {d with data:=data},0):=HWF.o.trans (if_neg (by simpa using h4));have fX:=Um (se.o.trans (if_neg (by simpa using h4)));have PR:=HDX5.o.wd (HW.o.ak lF.o) lV rfl;have PQ:=((HE.o.ak lF.o).wd (HW.o.ak lF.o) lV);rw[hF] at Bc⊢;clear h4 hF lV;obtain⟨hdn,hgd⟩:=Cl.o;have SC:((S.aR d.dev {v with b:=v.b+cK d data}).set {d with data:=data}).get no=some {d with data:=data}:=by
   rw[gX (a:={d with data:=data}) (b:=d) (by show S.get d.no=some d;rw[hdn];exact hgd),if_pos hdn.symm]
  obtain⟨fa,fl,fc,QZ,hG7⟩:=eA Bc SC;have HG7:=Um (hG7 w6 (Below.refl _ _));unfold An.v at HG7;dsimp only at HG7 QZ;have HE7:=Um QZ;have BY:=Um (ag Bc Nx);obtain⟨pc,-,pz6⟩:=Bc.bd.facts;have hmk:=mixed;clear dc df dz PQ QZ hG7 Nx SC hdn hgd;obtain⟨dc,df,dz⟩:=PR.facts;have HDX6:=Um PR;clear PR Bc;go_wp2_with fail;refine HG7.o.mono ?_;rintro e w7 ⟨rfl,yE⟩;have LR:=HDX6.o.ak yE;clear dc df dz;obtain⟨dc,df,dz⟩:=LR.facts;go_upto_region 19 with fail;have hm:Mod (fun k=>k=Bn) w7 ((((((((((((((w7.setCell ⟨Bn,0,none⟩ (.int .i64 d.no)).setCell ⟨Bn,1,none⟩ (.int .i64 d.dev)).setCell ⟨Bn,2,none⟩ (.int .i64 d.kind)).setCell ⟨Bn,3,none⟩ (.int .i64 d.mode)).setCell ⟨Bn,4,none⟩ (.int .i64 d.uid)).setCell ⟨Bn,5,none⟩ (.int .i64 d.gid)).setCell ⟨Bn,6,none⟩ (.int .i64 d.mtime)).setCell ⟨Bn,7,none⟩ (.int .i64 d.ctime)).setCell ⟨Bn,8,none⟩ (.int .i64 d.an)).setCell ⟨Bn,9,none⟩ (.int .i64 d.up)).setCell ⟨Bn,10,none⟩ (.string data)).setCell ⟨Bn,11,none⟩ (.slice fa fl fc)).setCell ⟨Bn,6,none⟩ (.int .i64 now)).setCell ⟨Bn,7,none⟩ (.int .i64 now)):=
   ((yt Bn [.int .i64 d.no,.int .i64 d.dev,.int .i64 d.kind,.int .i64 d.mode,.int .i64 d.uid,.int .i64 d.gid,.int .i64 d.mtime,.int .i64 d.ctime,.int .i64 d.an,.int .i64 d.up,.string data,.slice fa fl fc] w7 0).setCell (a:=⟨Bn,6,none⟩) (.inl rfl) _).setCell (a:=⟨Bn,7,none⟩) (.inl rfl) _
  have jP:=((LR.dR (v0:=.int .i64 d.no) (v1:=.int .i64 d.dev) (v2:=.int .i64 d.kind) (v3:=.int .i64 d.mode) (v4:=.int .i64 d.uid) (v5:=.int .i64 d.gid) (v6:=.int .i64 d.mtime) (v7:=.int .i64 d.ctime) (v8:=.int .i64 d.an) (v9:=.int .i64 d.up) (v10:=.string data) (v11:=.slice fa fl fc)).set 6 (.int .i64 now)).set 7 (.int .i64 now);have qm:=(BY.o.1.ak yE).node LR hm;have DA:=(HE7.o.ak yE).node LR hm;have sq:aL (R.F pw) (R6.F pw) w _:=⟨(BY.o.2.trans (aL.aq (F:=R6.F pw) yE)).mod.new hm kC.o,(BY.o.2.trans (aL.aq (F:=R6.F pw) yE)).2⟩;clear dc df dz pc pz6 LR yE hm;generalize ((((((((((((((w7.setCell ⟨Bn,0,none⟩ (.int .i64 d.no)).setCell ⟨Bn,1,none⟩ (.int .i64 d.dev)).setCell ⟨Bn,2,none⟩ (.int .i64 d.kind)).setCell ⟨Bn,3,none⟩ (.int .i64 d.mode)).setCell ⟨Bn,4,none⟩ (.int .i64 d.uid)).setCell ⟨Bn,5,none⟩ (.int .i64 d.gid)).setCell ⟨Bn,6,none⟩ (.int .i64 d.mtime)).setCell ⟨Bn,7,none⟩ (.int .i64 d.ctime)).setCell ⟨Bn,8,none⟩ (.int .i64 d.an)).setCell ⟨Bn,9,none⟩ (.int .i64 d.up)).setCell ⟨Bn,10,none⟩ (.string data)).setCell ⟨Bn,11,none⟩ (.slice fa fl fc)).setCell ⟨Bn,6,none⟩ (.int .i64 now)).setCell ⟨Bn,7,none⟩ (.int .i64 now))=Y at jP qm DA sq⊢;obtain⟨q0,q1,q2,q3,q4,q5,q6,q7,q8,q9,q10,q11⟩:=au.eX (x0:=.int .i64 d.no) jP;obtain⟨xc,-,xz⟩:=qm.bd.facts;have iE:=(qm.ak (Below.refl _ Y).drew).zY {d with data:=data,mtime:=now,ctime:=now} (DA.ak (Below.refl _ Y).drew) (b:={d with data:=data}) (by
   obtain⟨hdn,hgd⟩:=Cl.o;rw[gX (a:={d with data:=data}) (b:=d) (by show S.get d.no=some d;rw[hdn];exact hgd)];exact if_pos rfl)
  rw[set_set _ (show({d with data:=data}:An).no=({d with data:=data,mtime:=now,ctime:=now}:An).no from rfl)] at iE;unfold An.v at iE;dsimp only at iE;have dW:=Um iE;have Ir:=Um sq;clear qm DA sq jP iE;refine ay 5 mixed (by kernel_rfl) dQ ?_;simp only[List.take_succ_cons,List.take_zero,List.drop_succ_cons,List.drop_zero]
  repeat still_step
  refine wpStill_nil ?_;go_wp2_with fail;refine dW.o.mono ?_;rintro e w8 ⟨rfl,R',ev,fo,-,-⟩;have xJ:=Um (ag ev fo);clear ev fo;go_wp2_with fail;go_ret;rw[fX.o];exact⟨rfl,R',xJ.o.1,(Ir.o.trans (aL.aq (Below.refl _ Y).drew)).trans xJ.o.2⟩
theorem Hj(h:bh w pw R S){N:Nat}(hk:av S N)(c:Cr)(now no:Int)(data:ByteArray)(hs:data.size≤9223372036854775807) :
  Calls Tryz.prog 61 #[.pointer (some ⟨pw,0,none⟩),.agg #[.int .i64 c.u,.int .i64 c.g],.int .i64 now,.int .i64 no,.string data] w fun e w'=>e=.returned (.int .i64 (S.fill c now no data).2)∧∃R',bh w' pw R' (S.fill c now no data).1∧aL (R.F pw) (R'.F pw) w w':=by
 cases hg:S.get no with
 |none=>
  refine(DY h hk c now no data hg).mono ?_;rintro e w1 ⟨rfl,hb⟩;have:S.fill c now no data=(S,5):=by unfold Fs.fill;rw[hg]
  rw[this];exact⟨rfl,R,h.ak hb,aL.aq hb⟩
 |some d=>exact DX h hk c now no data hs d hg
end
section
variable{w w':World}{pf pw:Nat}{R:Rp}{pv:Value}{Y:Sy}
theorem CB(h:bK w pf pw R pv Y){N:Nat}(hk:av Y.fs N)(hN:N≤999999)(hc:0≤Y.count∧Y.count≤4611686018427387904)(hl:Y.bD.length≤1000000)(c:Cr)(no:Int)(data:ByteArray)(hdata:data.size≤9223372036854775807) :
  Calls Tryz.prog 27 #[.pointer (some ⟨pf,0,none⟩),.agg #[.int .i64 c.u,.int .i64 c.g],.int .i64 no,.string data] w fun e w'=>
   e=.returned (.int .i64 (Y.nt (fun S now=>S.fill c now no data)).2)∧∃R',bK w' pf pw R' pv (Y.nt (fun S now=>S.fill c now no data)).1∧aL (R.Y pf pw) (R'.Y pf pw) w w':=by
 have HY:=Um h;have HC:=Um (fI (h.ak ((Below.refl _ w).alloc (aa _) (.cells #[.int .i64 c.u,.int .i64 c.g] 69))) hc hl);obtain⟨gd,iV,yy⟩:=eJ Y;have HF:=Um (ag gd iV);have hpf:=h.bd.lt;have gP:av Y.change.1.fs N:=by rw[gd];exact hk
 have mixed:Tryz.prog.follows .mixedOrders=true:=by kernel_rfl
 clear h hk gd iV yy;go_enter Tryz.func27,Tryz.ntmps27;go_wp2_with fail;refine HC.o.mono ?_;rintro e w1 ⟨rfl,eK,eR⟩;have qh:=Um ((im (aL.aq (F:=R.F pw) (al (Uq w) (.cells #[.int .i64 c.u,.int .i64 c.g] 69)))).trans (zR (pw:=pw) (R:=R) eR));by_cases h0:Y.change.2=0
 ·have nZ:(Y.change.2==0)=true:=by simpa using h0
  have HE:=Um (show Y.nt (fun S now=>S.fill c now no data)=_ from if_neg (by simp[h0]));have hcr:=(au.new w #[.int .i64 c.u,.int .i64 c.g] 69).mod eR (by omega);obtain⟨cc,-,cz⟩:=hcr.facts;obtain⟨pc,-,pz⟩:=eK.bd.facts;have HD:=Um (Hj (eK.wd.ak (Below.refl _ w1).drew) gP c Y.change.1.now no data hdata);have iR:=Um eK;clear h0 hcr eK eR;go_wp2_with fail;refine ay 11 mixed (by kernel_rfl) (show bV _ from by repeat (first|exact cZ|refine cY ?_|refine cw ?_|refine cJ ?_)) ?_;simp only[List.take_succ_cons,List.take_zero,List.drop_succ_cons,List.drop_zero]
  repeat still_step
  refine wpStill_nil ?_;go_wp2_with fail;refine HD.o.mono ?_;rintro e w5 ⟨rfl,R5,gQ,eu⟩;have yV:=Um ((iR.o.ak (Below.refl _ w1).drew).step gQ eu);have sv:=Um ((qh.o.trans (im (aL.aq (F:=R.F pw) (Below.refl _ w1).drew))).trans (im eu));clear gQ eu;go_wp2_with fail;go_ret;rw[HE.o,HF.o.1.symm,HF.o.2.symm];exact⟨rfl,R5,yV.o,sv.o⟩
 ·have nZ:(Y.change.2==0)=false:=by simpa using h0
  have HE:=Um (show Y.nt (fun S now=>S.fill c now no data)=_ from if_pos h0);have iR:=Um eK;clear eK h0 eR;generalize Y.change.2=ce at HE nZ⊢;go_wp2_with fail;go_ret;rw[HE.o];exact⟨rfl,R,iR.o,qh.o⟩
end
end
section
open Go.RowKit
def mtC(m:Mt):List Value:=[.string m.path,.int .i64 m.b,.int .i64 m.n]
theorem yr(m:Mt):(mtC m).length=3:=rfl
def RX(cs:List Value)(m:Mt):Prop:=cs=mtC m
def itC(x:It):List Value:=[.string x.path,.int .i64 x.kind,.int .i64 x.mode,.int .i64 x.uid,.int .i64 x.gid,.int .i64 x.mtime,.string x.data]
theorem k9(x:It):(itC x).length=7:=rfl
def Sd(cs:List Value)(x:It):Prop:=cs=itC x
theorem bj.ak{α:Type}{w w':World}{sz n c:Nat}{Rl:List Value→α→Prop}{a:Option Addr}{xs:List α}(h:bj w sz Rl a n c xs)(hb:Up w w'):bj w' sz Rl a n c xs:=h.below hb (aa _)
structure oW(w:World)(ma:Option Addr)(mn mc:Nat)(ia:Option Addr)(il ic:Nat)(ms:List Mt)(is:List It):Prop where
 m:bj w 3 RX ma mn mc ms
 i:bj w 7 Sd ia il ic is
theorem oW.ak{w w':World}{ma:Option Addr}{mn mc:Nat}{ia:Option Addr}{il ic:Nat}{ms:List Mt}{is:List It}(h:oW w ma mn mc ia il ic ms is)(hb:Up w w'):oW w' ma mn mc ia il ic ms is:=⟨h.m.ak hb,h.i.ak hb⟩
theorem mu{w:World}{b off n c:Nat}{ms:List Mt}(h:bj w 3 RX (some ⟨b,off,none⟩) n c ms)(k:Nat)(hk:k<ms.length) :
  w.cell? ⟨b,off+k*3,none⟩=some (.string ms[k].path)∧w.cell? ⟨b,off+k*3+1,none⟩=some (.int .i64 ms[k].b)∧w.cell? ⟨b,off+k*3+2,none⟩=some (.int .i64 ms[k].n):=by
 obtain⟨hl,-,-,h0|⟨b',off',he,hb,hel⟩⟩:=h
 ·omega
 ·injection he with he;injection he with e1 e2;subst e1 e2;obtain⟨cs,h1,h2,h3⟩:=hel k hk;unfold RX at h2;subst h2;exact⟨h3 0 (by rw[yr];omega),h3 1 (by rw[yr];omega),h3 2 (by rw[yr];omega)⟩
theorem mA{w:World}{b off n c:Nat}{is:List It}(h:bj w 7 Sd (some ⟨b,off,none⟩) n c is)(k:Nat)(hk:k<is.length) :
  w.cell? ⟨b,off+k*7,none⟩=some (.string is[k].path)∧w.cell? ⟨b,off+k*7+1,none⟩=some (.int .i64 is[k].kind)∧w.cell? ⟨b,off+k*7+2,none⟩=some (.int .i64 is[k].mode)∧
  w.cell? ⟨b,off+k*7+3,none⟩=some (.int .i64 is[k].uid)∧w.cell? ⟨b,off+k*7+4,none⟩=some (.int .i64 is[k].gid)∧w.cell? ⟨b,off+k*7+5,none⟩=some (.int .i64 is[k].mtime)∧w.cell? ⟨b,off+k*7+6,none⟩=some (.string is[k].data):=by
 obtain⟨hl,-,-,h0|⟨b',off',he,hb,hel⟩⟩:=h
 ·omega
 ·injection he with he;injection he with e1 e2;subst e1 e2;obtain⟨cs,h1,h2,h3⟩:=hel k hk;unfold Sd at h2;subst h2;exact⟨h3 0 (by rw[k9];omega),h3 1 (by rw[k9];omega),h3 2 (by rw[k9];omega),h3 3 (by rw[k9];omega),h3 4 (by rw[k9];omega),h3 5 (by rw[k9];omega),h3 6 (by rw[k9];omega)⟩
theorem eo{α:Type}{w:World}{sz n c:Nat}{Rl:List Value→α→Prop}{a:Option Addr}{xs:List α}(h:bj w sz Rl a n c xs)(hn:0<n):∃b off,a=some ⟨b,off,none⟩∧b<w.heap.size:=by
 obtain⟨-,-,-,h0|⟨b,off,he,hb,-⟩⟩:=h
 ·omega
 ·exact⟨b,off,he,hb⟩
theorem pM{ms:List Mt}{k:Nat}(hk:k<ms.length):aS (ms.drop k)=if ms[k].path=jy∧hU ms[k].b ms[k].n=true then(ms[k].b,ms[k].n) else aS (ms.drop (k+1)):=by
 rw[List.drop_eq_getElem_cons hk,aS]
theorem zU(w:World){ma:Option Addr}{mn mc:Nat}{ia:Option Addr}{il ic:Nat}{ms:List Mt}{is:List It}(h:oW w ma mn mc ia il ic ms is) :
  Calls Tryz.prog 91 #[.agg #[.slice ma mn mc,.slice ia il ic]] w fun e w'=>e=.returned (.tuple #[.int .i64 (aS ms).1,.int .i64 (aS ms).2])∧Up w w':=by
 have HS:=Um h;have hln:=h.m.1;have hmc:=h.m.2.1;have hmx:=h.m.2.2.1;clear h;go_enter Tryz.func91,Tryz.ntmps91;go_wp2_with fail
 go_loopw [9] (fun t9 wr=>∃k:Nat,k≤ms.length∧t9=.int .i64 k∧aS ms=aS (ms.drop k)∧Up w wr) (fun t9 _=>ms.length-(intOf t9).toNat)
 case atStart=>exact⟨0,Nat.zero_le _,rfl,rfl,al (Below.refl _ _) _⟩
 case round=>
  obtain⟨k,hk,rfl,hE,hb⟩:=hrel;have HE:=Um hE;have HB:=Um hb;clear hE;by_cases hlt:k<ms.length
  ·obtain⟨b,off,rfl,hbl⟩:=eo HS.o.m (by omega);obtain⟨c0,c1,c2⟩:=mu (HS.o.m.below hb (aa _)) k hlt;have HQ:=Um (pM hlt);generalize ms[k]=m at c0 c1 c2 HQ;obtain⟨mp,mb,mk⟩:=m;have hX:=au.new wr #[.string mp,.int .i64 mb,.int .i64 mk] 111;have ax:=al hb (.cells #[.string mp,.int .i64 mb,.int .i64 mk] 111);clear hb;go_upto_region 4 with fail;generalize wr.alloc _=X at hX ax⊢;have HX:=Um hX;have aJ:=Um ax;obtain⟨xc,xf,xz⟩:=hX.facts;clear hX ax c0 c1 c2;by_cases h1:mp=jy
   ·have mH:mp.toList=[47]:=by rw[h1,aC];rfl
    have HP:=Um h1;clear h1;by_cases h2:mb<1
    ·skip
     have HN:=Um (HE.o.trans (HQ.o.trans (if_neg (fun h=>by have h9:1≤mb:=(qK h.2).1;omega))));go_wp2_with fail;go_roundw
     case rel=>exact⟨k+1,by omega,by go_num,HN.o,aJ.o⟩
     case measure=>simp[intOf];omega
    by_cases h3:1073741824<mb
    ·skip
     have HN:=Um (HE.o.trans (HQ.o.trans (if_neg (fun h=>by have h9:mb≤1073741824:=(qK h.2).2.1;omega))));go_wp2_with fail;go_roundw
     case rel=>exact⟨k+1,by omega,by go_num,HN.o,aJ.o⟩
     case measure=>simp[intOf];omega
    by_cases h4:mk<1
    ·skip
     have HN:=Um (HE.o.trans (HQ.o.trans (if_neg (fun h=>by have h9:1≤mk:=(qK h.2).2.2.1;omega))));go_wp2_with fail;go_roundw
     case rel=>exact⟨k+1,by omega,by go_num,HN.o,aJ.o⟩
     case measure=>simp[intOf];omega
    by_cases h5:65536<mk
    ·skip
     have HN:=Um (HE.o.trans (HQ.o.trans (if_neg (fun h=>by have h9:mk≤65536:=(qK h.2).2.2.2;omega))));go_wp2_with fail;go_roundw
     case rel=>exact⟨k+1,by omega,by go_num,HN.o,aJ.o⟩
     case measure=>simp[intOf];omega
    have HN:=Um (HE.o.trans (HQ.o.trans (if_pos ⟨HP.o,Pf mb mk (by omega) (by omega) (by omega) (by omega)⟩)));have mixed:Tryz.prog.follows .mixedOrders=true:=by kernel_rfl
    go_wp2_with fail
    go_region
    all_goals
     go_wp2_with fail;go_ret2;rw[HN.o];exact⟨rfl,aJ.o.drew⟩
   ·have mH:(mp.toList==[47])=false:=by
     rw[aC];simp only[beq_eq_false_iff_ne,ne_eq];exact fun e=>h1 (p' e)
    have HN:=Um (HE.o.trans (HQ.o.trans (if_neg (fun h=>h1 h.1))));go_wp2_with fail;go_roundw
    case rel=>exact⟨k+1,by omega,by go_num,HN.o,aJ.o⟩
    case measure=>simp[intOf];omega
  ·obtain rfl:k=ms.length:=by omega
   have cq:=Um (show aS ms=(65536,65536) by rw[HE.o,List.drop_length];rfl);clear hb;go_wp2_with fail;go_ret2;rw[cq.o];exact⟨rfl,HB.o⟩
end
section
open Go.RowKit
section
variable{w w':World}{pf pw:Nat}{R:Rp}{pv:Value}{Y:Sy}
theorem bK.other(h:bK w pf pw R pv Y){B:Nat}{vs:Array Value}{T:TypeId}(hb:au w B vs T)(hT:gR (.cells #[] T (0,0))=false)(h1:T≠109)(h2:T≠271)(h3:T≠182)(hm:Mod (fun k=>k=B) w w'):bK w' pf pw R pv Y:=by
 unfold au at hb;refine⟨h.bd.mod hm (fun e=>?_),h.wd.mod hm (fun k o hk ho=>?_),bq h.bD hm (fun k hk he=>?_)⟩
 ·subst e;have hq:=h.bd;unfold au at hq;rw[hb] at hq;injection hq with hq;injection hq with hq e;exact h1 e
 ·subst hk;rw[hb] at ho;injection ho with ho;subst ho;exact⟨hT,fun cur e=>by injection e with e1 e2;exact h2 e2⟩
 ·subst hk;obtain⟨-,cur,hc⟩:=aT h.bD he;rw[hb] at hc;injection hc with hc;injection hc with hc e;exact h3 e
theorem aL.MP{F F':Nat→Prop}(h:aL F F' w w'){B:Nat}(hB:w.heap.size≤B)(i:Nat)(v:Value):aL F F' w (w'.setCell ⟨B,i,none⟩ v):=
 ⟨h.mod.setCell (a:=⟨B,i,none⟩) (.inr hB) v,h.new⟩
theorem wQ{S:Fs}{m:Mt}(h:(S.path bQ m.path false).2≠0):bT S m=S:=by unfold bT;rw[if_pos h]
theorem wP{S:Fs}{m:Mt}(h:(S.path bQ m.path false).2=0)(h0:(S.path bQ m.path false).1.no=0)(he:(S.br bQ 0 (S.path bQ m.path false).1.dir (S.path bQ m.path false).1.name 493).2.2=0) :
  bT S m=((S.br bQ 0 (S.path bQ m.path false).1.dir (S.path bQ m.path false).1.name 493).1.cn (S.br bQ 0 (S.path bQ m.path false).1.dir (S.path bQ m.path false).1.name 493).2.1 m.b m.n).1:=by
 unfold bT;rw[if_neg (by simp[h]),if_pos h0];simp only;rw[if_neg (by simp[he])]
theorem tW{S:Fs}{m:Mt}(h:(S.path bQ m.path false).2=0)(h0:(S.path bQ m.path false).1.no=0)(he:(S.br bQ 0 (S.path bQ m.path false).1.dir (S.path bQ m.path false).1.name 493).2.2≠0) :
  bT S m=(S.br bQ 0 (S.path bQ m.path false).1.dir (S.path bQ m.path false).1.name 493).1:=by
 unfold bT;rw[if_neg (by simp[h]),if_pos h0];simp only;rw[if_pos he]
theorem wO{S:Fs}{m:Mt}(h:(S.path bQ m.path false).2=0)(h0:(S.path bQ m.path false).1.no≠0):bT S m=(S.cn (S.path bQ m.path false).1.no m.b m.n).1:=by
 unfold bT;rw[if_neg (by simp[h]),if_neg h0]
theorem CM(h:bK w pf pw R pv Y){N:Nat}(hk:av Y.fs N)(hN:N≤999990)(hc:Calm Y)(hcc:Y.count≤4000000)(m:Mt)(hp:m.path.size≤100000) :
  Calls Tryz.prog 92 #[.pointer (some ⟨pf,0,none⟩),.agg #[.string m.path,.int .i64 m.b,.int .i64 m.n]] w fun e w'=>e=.returned (.tuple #[])∧ft w w' pf pw R pv Y (bT Y.fs m) 1:=by
 have HY:=Um h;have HK:=Um hk;have HC:=Um hc;have HF:=Um (fun w1 (ar:Up w w1)=>mZ (h.ak ar) hk (by omega) hc.dead bQ m.path hp false);have kC:=Um (wv hk bQ m.path (by omega) false);have mixed:Tryz.prog.follows .mixedOrders=true:=by kernel_rfl
 have fX:=Um (wQ (S:=Y.fs) (m:=m));have cq:=Um (wP (S:=Y.fs) (m:=m));have vg:=Um (tW (S:=Y.fs) (m:=m));have Iu:=Um (wO (S:=Y.fs) (m:=m));generalize bT Y.fs m=Z at fX cq vg Iu⊢;generalize Y.fs.path bQ m.path false=x at HF kC fX cq vg Iu;obtain⟨⟨xd,xn,xk,xs⟩,xe⟩:=x;unfold Fd.v at HF;obtain⟨SZ,bO⟩:=Uo w #[.string m.path,.int .i64 m.b,.int .i64 m.n] 111;clear h hk hc;go_enter Tryz.func92,Tryz.ntmps92;go_wp2_with fail;refine(HF.o _ bO).mono ?_;rintro e w1 ⟨rfl,ar⟩;have GP:=(SZ.ak ar).eE (.cells #[.int .i64 xd,.string xn,.int .i64 xk,.bool xs] 140);have so:=au.new w1 #[.int .i64 xd,.string xn,.int .i64 xk,.bool xs] 140;have ax:=al (ao bO ar) (.cells #[.int .i64 xd,.string xn,.int .i64 xk,.bool xs] 140);have hlw:w.heap.size<w1.heap.size:=by have:=ar.size;simp at this;omega
 clear SZ bO ar;go_upto_region 2 with fail;generalize w1.alloc _=X at GP so ax⊢;have L0:=Um GP;have NX:=Um so;have aJ:=Um ax;obtain⟨xc,xf,xz⟩:=so.facts;obtain⟨mc,mf,mz⟩:=GP.facts;have hYX:=HY.o.ak ax;have TE:=Um hYX;obtain⟨pc,-,pz⟩:=hYX.bd.facts;clear GP so ax hYX;by_cases he:xe=0
 ·have heb:(xe==0)=true:=by simpa using he
  subst he;by_cases hno:xk=0
  ·have hnb:(xk==0)=true:=by simpa using hno
   have HM:=Um (tf TE.o HK.o (by omega) ⟨HC.o.c0,by omega⟩ (by rw[HC.o.bD];exact Nat.zero_le _) bQ xd xn 493 (by have h9:xn.size≤1048576:=kC.o;omega));rw[HC.o.op] at HM;have zg:=Um (cq.o rfl hno);have ze:=Um (vg.o rfl hno);dsimp only at zg ze HM;have kD:=Um (jE HK.o bQ 0 xd xn 493);clear fX cq vg Iu hno;generalize Y.fs.br bQ 0 xd xn 493=q at HM zg ze kD;obtain⟨S1,n1,e1⟩:=q;dsimp only at HM zg ze kD;go_wp2_with fail;refine HM.o.mono ?_;rintro e w3 ⟨rfl,R3,Nw,mG⟩;have LO:=L0.o.sy TE.o mG rfl (by decide);have iJ:=NX.o.sy TE.o mG rfl (by decide);have qp:=Um iJ;have L1:=Um LO;have Qe:=Um Nw;have Lh:=Um ((aL.aq aJ.o).trans mG);clear xc xf xz mc mf mz pc pz;obtain⟨xc,xf,xz⟩:=iJ.facts;clear LO iJ Nw mG;go_upto_region 4 with fail;have hY4:=Qe.o.other (qp.o) rfl (by decide) (by decide) (by decide) ((Mod.refl (fun k=>k=w1.heap.size) w3).setCell (a:=⟨w1.heap.size,2,none⟩) (.inl rfl) (.int .i64 n1));have GN:=qp.o.set 2 (.int .i64 n1);have hne:w1.heap.size≠w.heap.size:=by have:=qp.o.lt;have:=L0.o.lt;have:=hlw;omega
   have QW:=L1.o.setOther ⟨w1.heap.size,2,none⟩ (.int .i64 n1) hne;have lJ:aL (R.Y pf pw) (R3.Y pf pw) w (w3.setCell ⟨w1.heap.size,2,none⟩ (.int .i64 n1)):=Lh.o.MP (show w.heap.size≤w1.heap.size by have:=hlw;omega) _ _;generalize w3.setCell ⟨w1.heap.size,2,none⟩ (.int .i64 n1)=W4 at hY4 GN QW lJ⊢;have HY4:=Um hY4;have sO:=Um lJ;clear xc xf xz;obtain⟨xc,xf,xz⟩:=GN.facts;obtain⟨mc,mf,mz⟩:=QW.facts;obtain⟨pc,-,pz⟩:=hY4.bd.facts;clear hY4 GN QW lJ;by_cases zm:e1=0
   ·have he1b:(e1==0)=true:=by simpa using zm
    have HE:=Um (zg.o zm);have HMt:=Um (sX (HY4.o.wd.ak (Below.refl _ W4).drew) kD.o (by omega) n1 m.b m.n);subst zm;go_wp2_with fail;refine ay 10 mixed (by kernel_rfl) (show bV _ from by repeat (first|exact cZ|refine cY ?_|refine cw ?_|refine cJ ?_)) ?_;simp only[List.take_succ_cons,List.take_zero,List.drop_succ_cons,List.drop_zero]
    repeat still_step
    refine wpStill_nil ?_;go_wp2_with fail;refine HMt.o.mono ?_;rintro e w5 ⟨rfl,R5,gQ,eu⟩;have HX:=Um (ag ((HY4.o.ak (Below.refl _ W4).drew).step gQ eu) ((sO.o.trans (im (aL.aq (F:=R3.F pw) (Below.refl _ W4).drew))).trans (im eu)));clear gQ eu;go_wp2_with fail
    go_end0
    rw[HE.o];exact⟨rfl,R5,_,HX.o.1,rfl,(HC.o.next S1).fs _,by show Y.count+1≤_;omega,HX.o.2⟩
   ·have he1b:(e1==0)=false:=by simpa using zm
    have HE:=Um (ze.o zm);clear zm;go_wp2_with fail
    go_end0
    rw[HE.o];exact⟨rfl,R3,_,HY4.o,rfl,HC.o.next S1,by show Y.count+1≤_;omega,sO.o⟩
  ·have hnb:(xk==0)=false:=by simpa using hno
   have HE:=Um (Iu.o rfl hno);have HMt:=Um (sX (TE.o.wd.ak (Below.refl _ X).drew) HK.o (by omega) xk m.b m.n);clear fX cq vg Iu hno;go_wp2_with fail;refine ay 10 mixed (by kernel_rfl) (show bV _ from by repeat (first|exact cZ|refine cY ?_|refine cw ?_|refine cJ ?_)) ?_;simp only[List.take_succ_cons,List.take_zero,List.drop_succ_cons,List.drop_zero]
   repeat still_step
   refine wpStill_nil ?_;go_wp2_with fail;refine HMt.o.mono ?_;rintro e w5 ⟨rfl,R5,gQ,eu⟩;have HX:=Um (ag ((TE.o.ak (Below.refl _ X).drew).step gQ eu) (((aL.aq (F:=R.Y pf pw) aJ.o).trans (aL.aq (F:=R.Y pf pw) (Below.refl _ X).drew)).trans (im eu)));clear gQ eu;go_wp2_with fail
   go_end0
   rw[HE.o];exact⟨rfl,R5,_,HX.o.1,rfl,HC.o.fs _,by show Y.count≤_;omega,HX.o.2⟩
 ·have heb:(xe==0)=false:=by simpa using he
  have HE:=Um (fX.o he);clear he;go_wp2_with fail
  go_end0
  rw[HE.o];exact⟨rfl,(ft.same HY.o HC.o aJ.o).mono (by omega)⟩
end
end
end Go.Proofs.YtinflmadpnigfaaGreatDoor
