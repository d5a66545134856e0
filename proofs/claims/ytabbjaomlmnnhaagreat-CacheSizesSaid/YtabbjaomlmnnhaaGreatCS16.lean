import Derived.Test.YtabbjaomlmnnhaaGreatCS15
import Derived.Test.YtabbjaomlmnnhaaGreatCS11
import Derived.Test.YtabbjaomlmnnhaaGreatCS1
import Derived.Test.YtabbjaomlmnnhaaGreatCS4
import Derived.Test.YtabbjaomlmnnhaaGreatCS12
import Derived.Test.YtabbjaomlmnnhaaGreatCS13
import Derived.Test.YtabbjaomlmnnhaaGreatCS8
set_option linter.unusedVariables false
set_option linter.unusedSimpArgs false
set_option maxRecDepth 100000
set_option maxHeartbeats 16000000
namespace Go.Proofs.YtabbjaomlmnnhaaGreat
section
open Go.RowKit
def NW(p:pA):List Value:=[.int .i64 p.dir,.string p.name,.string p.top]
theorem uQ(p:pA):(NW p).length=3:=rfl
def plQ(cs:List Value)(p:pA):Prop:=cs=NW p
def sL(E:TypeId)(w:World)(base:Nat)(v:Value)(l:List pA):Prop:=w.ownsRow base E 3 v l.length (l.flatMap NW)
theorem sL.nil(E:TypeId)(w:World)(base:Nat):sL E w base (.slice none 0 0) []:=⟨rfl,.inl ⟨rfl,rfl⟩⟩
theorem sL.at{E:TypeId}{w:World}{base c:Nat}{a:Option Addr}{l:List pA}(h:sL E w base (.slice a l.length c) l):bj w 3 plQ a l.length c l:=eo (R:=plQ) (by omega) uQ (fun _=>rfl) h
theorem sL.ak{E:TypeId}{w w':World}{base:Nat}{v:Value}{l:List pA}(h:sL E w base v l)(hb:Qi w w'):sL E w' base v l:=dD h hb (aa _)
theorem sL.app{E SE:TypeId}(hs:Tryz.prog.underlying SE=some (.slice E))(hinf:(Tryz.prog.info? E).map (fun i=>(i.zero,i.size,i.bytes))=some (some (.agg #[.int .i64 0,.string ByteArray.empty,.string ByteArray.empty]),3,40))
  {w:World} {base:Nat} {v:Value} {l:List pA} (h:sL E w base v l) (p:pA) (hn:l.length≤1000) (hb:base≤w.heap.size) :
  ∃g cap W,(Builtin.append_ #[SE,SE] SE #[v,.slice (some ⟨w.heap.size,0,none⟩) 1 1]).run Tryz.prog (w.alloc (.cells #[.int .i64 p.dir,.string p.name,.string p.top] E))=.ok (.slice (some ⟨g,0,none⟩) (l.length+1) cap) W∧
   sL E W base (.slice (some ⟨g,0,none⟩) (l.length+1) cap) (l++[p])∧Below base w W:=by
 obtain⟨g,cap,W,h1,h2,h3,-⟩:=kK hs hinf rfl (by decide) h (NW p) rfl (by intro u hu;simp[NW] at hu;rcases hu with rfl|rfl|rfl<;>rfl) (by omega) (by decide) hb;refine⟨g,cap,W,h1,?_,h3.below (fun k hk=>(aD h hk).1) hb⟩;unfold sL;rw[List.length_append,List.length_singleton,List.flatMap_append];exact(by simpa using h2)
section
variable{w w':World}{pf pw:Nat}{R:Rp}{pv:Value}{Y:Sy}
theorem zH(h:bg w pf pw R pv Y)(hd:Y.dead=true)(c:Cr)(path:ByteArray)(f:Bool) :
  Calls Tryz.prog 84 #[.pointer (some ⟨pf,0,none⟩),.agg #[.int .i64 c.u,.int .i64 c.g],.string path,.bool f] w fun e w'=>e=.returned (.tuple #[gb.v,.int .i64 20])∧Qi w w':=by
 have eu:aw ((w.alloc (.cells #[.int .i64 c.u,.int .i64 c.g] 64)).alloc (.cells #[.int .i64 0,.string ⟨#[]⟩,.int .i64 0,.bool false] 176)) (w.heap.size+1) #[.int .i64 0,.string ⟨#[]⟩,.int .i64 0,.bool false] 176:=by
  have:=aw.new (w.alloc (.cells #[.int .i64 c.u,.int .i64 c.g] 64)) #[.int .i64 0,.string ⟨#[]⟩,.int .i64 0,.bool false] 176
  rwa [World.size_alloc] at this
 have aI:=aq (aq (Qj w) (.cells #[.int .i64 c.u,.int .i64 c.g] 64)) (.cells #[.int .i64 0,.string ⟨#[]⟩,.int .i64 0,.bool false] 176);have HR:=Qf (fun w1 (av:Qi w w1)=>gx (h.ak av));rw[hd] at HR;clear h hd;go_enter Tryz.func84,Tryz.ntmps84;go_wp2_with fail;refine(HR.o _ aI).mono ?_;rintro e w1 ⟨rfl,rfl⟩;generalize (w.alloc (.cells #[.int .i64 c.u,.int .i64 c.g] 64)).alloc (.cells #[.int .i64 0,.string ⟨#[]⟩,.int .i64 0,.bool false] 176)=W0 at eu aI⊢;have gd:=Qf eu;have aW:=Qf aI;obtain⟨rc,rf,rz⟩:=eu.facts;clear aI eu;go_wp2_with fail;exact bodyPost_ret (lZ (x:=gb) gd.o.cM rfl rfl) rfl ⟨rfl,aB aW.o (Nat.le_succ _)⟩
theorem rZ(S:Fs)(u:Us)(x:Fd×Int)(rd:Int×Int)
  (hF:∀w1,Qi w w1→Calls Tryz.prog 84 #[.pointer (some ⟨pf,0,none⟩),.agg #[.int .i64 u.c.u,.int .i64 u.c.g],.string u.data,.bool true] w1 fun e w'=>e=.returned (.tuple #[x.1.v,.int .i64 x.2])∧Qi w1 w')
  (MO:x.2=0→∀w1,Qi w w1→∀no,Calls Tryz.prog 14 #[.pointer (some ⟨pf,0,none⟩),.int .i64 no] w1 fun e w'=>e=.returned (.tuple #[Cp (S.get no),.int .i64 (ep (S.get no))])∧Qi w1 w')
  (Kk:Ends S x) (hR:rd=if x.2≠0 then(0,x.2) else if x.1.no=0 then(0,5) else if(S.bl x.1.no).kind≠1 then(0,9) else(x.1.no,0)) :
  Calls Tryz.prog 58 #[.pointer (some ⟨pf,0,none⟩),.agg #[.int .i64 u.u,.int .i64 u.g,.string u.data]] w fun e w'=>e=.returned (.tuple #[.int .i64 rd.1,.int .i64 rd.2])∧Qi w w':=by
 obtain⟨hX,aI⟩:=Qh w #[.int .i64 u.u,.int .i64 u.g,.string u.data] 27;have HC:=Qf (eP u.u u.g u.data);have HF:=Qf hF;have ji:=Qf MO;have Mo:=Qf Kk;have HR:=Qf hR;clear hF MO Kk hR;obtain⟨⟨x1,x2,x3,x4⟩,x5⟩:=x;unfold Fd.v Us.c at HF;dsimp only at HR HF ji;go_enter Tryz.func58,Tryz.ntmps58;go_upto_region 1 with fail;generalize w.alloc _=W0 at hX aI⊢;have aW:=Qf aI;obtain⟨xc,xf,xz⟩:=hX.facts;clear hX
 go_cut [6,7] (fun t6 t7 wx=>∃Bd:Nat,t6=.pointer (some ⟨Bd,0,none⟩)∧t7=.int .i64 x5∧aw wx Bd #[.int .i64 x1,.string x2,.int .i64 x3,.bool x4] 176∧Qi w wx)
 case first=>
  go_wp2_with fail;have hzz:W0.heap.size≤W0.heap.size:=aa _
  go_region_held3 (fun w'=>(∀b o,b<W0.heap.size→w'.cell? ⟨b,o,none⟩=W0.cell? ⟨b,o,none⟩)∧Qi W0 w') (first|with_reducible assumption|with_reducible exact dJ _|with_reducible exact cV _|with_reducible exact dg (by assumption) (by assumption)|with_reducible exact cO (by assumption) _|with_reducible exact cL (by assumption) _|with_reducible exact cq (by assumption) (by assumption)|with_reducible exact dI (by assumption) (by assumption))
   ((first
    |(go_at_call 13;((with_reducible refine(HC.o _).mono ?_);rintro e w4 ⟨rfl,cZ⟩;have hz4:=ae (And.right ‹(∀b o,b<W0.heap.size→_)∧Qi W0 _›).size cZ.size;try (have hbq:=jF cZ;obtain⟨bqc,bqf,bqz⟩:=hbq.facts)))
    |(go_at_call 84;((with_reducible refine(HF.o _ (aW.o.trans ((And.right ‹(∀b o,b<W0.heap.size→_)∧Qi W0 _›).mono aW.o.size))).mono ?_);rintro e w5 ⟨rfl,bU⟩;have hz5:=ae (And.right ‹(∀b o,b<W0.heap.size→_)∧Qi W0 _›).size bU.size;first|(have hbr:=hbq.ak bU;obtain⟨brc,brf,brz⟩:=hbr.facts)|(have hbr:=jF bU;obtain⟨brc,brf,brz⟩:=hbr.facts)|(have hbr:=xr bU;obtain⟨brc,brf,brz⟩:=hbr.facts)|skip))))
  all_goals
   obtain⟨-,nt⟩:=‹_∧Qi W0 _›;have Ea:=Qf nt
   try (have Eb:=Qf hbr)
   clear nt;go_wp2_with fail;go_meet;exact⟨_,rfl,rfl,by first|exact Eb.o.cM|exact aw.new _ _ _,aW.o.trans (Ea.o.mono aW.o.size)⟩
 case rest=>
  obtain⟨Bd,rfl,rfl,gV,dX⟩:=hcut;generalize wc=X at gV dX⊢;have lS:=Qf dX;have yU:=Qf gV;obtain⟨dc,df,dz⟩:=gV.facts;clear aI gV dX xc xf xz;by_cases h5:x5=0
  ·subst h5;have oP:=Qf (HR.o.trans (if_neg (by decide)));by_cases hn:x3=0
   ·have hnb:(x3==0)=true:=by simpa using hn
    have yO:=Qf (oP.o.trans (if_pos hn));clear hn;go_wp2_with fail;go_ret2;rw[yO.o];exact⟨rfl,lS.o⟩
   ·have hnb:(x3==0)=false:=by simpa using hn
    have yO:=Qf (oP.o.trans (if_neg hn));obtain⟨a,ha⟩:=Mo.o rfl hn;have nW:=Qf (ji.o rfl _ lS.o x3);dsimp only at ha;rw[dE ha] at yO;rw[ha] at nW;unfold Cp ep at nW;clear hn ha Mo;go_wp2_with fail;refine nW.o.mono ?_;rintro e w6 ⟨rfl,fo⟩;have hY:=aw.new w6 #[.int .i64 a.no,.int .i64 a.dev,.int .i64 a.kind,.int .i64 a.mode,.int .i64 a.uid,.int .i64 a.gid,.int .i64 a.ao,.int .i64 a.data.size,.int .i64 a.mtime,.int .i64 a.ctime] 67;have hD6:=(yU.o.ak fo).old (.cells #[.int .i64 a.no,.int .i64 a.dev,.int .i64 a.kind,.int .i64 a.mode,.int .i64 a.uid,.int .i64 a.gid,.int .i64 a.ao,.int .i64 a.data.size,.int .i64 a.mtime,.int .i64 a.ctime] 67);have dX:=aq (au lS.o fo) (.cells #[.int .i64 a.no,.int .i64 a.dev,.int .i64 a.kind,.int .i64 a.mode,.int .i64 a.uid,.int .i64 a.gid,.int .i64 a.ao,.int .i64 a.data.size,.int .i64 a.mtime,.int .i64 a.ctime] 67);clear fo dc df dz;go_upto_region 7 with fail;generalize w6.alloc _=W7 at hY hD6 dX⊢;have qg:=Qf dX;obtain⟨dc,df,dz⟩:=hD6.facts;obtain⟨yc,yf,yz⟩:=hY.facts;clear hY hD6 dX;by_cases h1:a.kind=1
    ·have oC:(a.kind != 1)=false:=by simpa using h1
     have mN:=Qf (yO.o.trans (if_neg (by simpa using h1)));clear h1;go_wp2_with fail;go_ret2;rw[mN.o];exact⟨rfl,qg.o⟩
    ·have oC:(a.kind != 1)=true:=by simpa using h1
     have mN:=Qf (yO.o.trans (if_pos h1));clear h1;go_wp2_with fail;go_ret2;rw[mN.o];exact⟨rfl,qg.o⟩
  ·have h5':(x5 != 0)=true:=by simpa using h5
   have oP:=Qf (HR.o.trans (if_pos h5));clear h5;go_wp2_with fail;go_ret2;rw[oP.o];exact⟨rfl,lS.o⟩
theorem AR(h:bg w pf pw R pv Y){N:Nat}(hk:ax Y.fs N)(hN:N≤999999)(hp:Pl Y.fs)(hw:Wy Y.fs)(u:Us)(ht:u.data.size≤100000) :
  Calls Tryz.prog 58 #[.pointer (some ⟨pf,0,none⟩),.agg #[.int .i64 u.u,.int .i64 u.g,.string u.data]] w fun e w'=>e=.returned (.tuple #[.int .i64 (Y.fs.fi Y.dead u).1,.int .i64 (Y.fs.fi Y.dead u).2])∧Qi w w':=by
 cases hd:Y.dead with
 |false=>exact rZ Y.fs u _ _ (fun w1 hb=>lj (h.ak hb) hk hN hd u.c u.data ht true) (fun _ w1 hb no=>iv (h.ak hb) hk hd no) (CY hk hp hw u.c u.data true) (by unfold Fs.fi;rw[if_neg (by decide)])
 |true=>exact rZ Y.fs u (gb,20) _ (fun w1 hb=>zH (h.ak hb) hd u.c u.data true) (fun h0=>absurd h0 (by decide)) (fun h0=>absurd h0 (by decide)) (by unfold Fs.fi;rw[if_pos rfl];rfl)
theorem DN(h:bg w pf pw R pv Y){N:Nat}(hk:ax Y.fs N)(hN:N≤999999)(hp:Pl Y.fs)(hw:Wy Y.fs)(hd:Y.dead=false)(u:Us)(ht:u.data.size≤100000) :
  Calls Tryz.prog 58 #[.pointer (some ⟨pf,0,none⟩),.agg #[.int .i64 u.u,.int .i64 u.g,.string u.data]] w fun e w'=>e=.returned (.tuple #[.int .i64 (Y.fs.fi false u).1,.int .i64 (Y.fs.fi false u).2])∧Qi w w':=by
 have h1:=AR h hk hN hp hw u ht;rw[hd] at h1;exact h1
theorem stZ(S:Fs)(k:Int):Cp (S.get k)=.agg #[.int .i64 (S.bl k).no,.int .i64 (S.bl k).dev,.int .i64 (S.bl k).kind,.int .i64 (S.bl k).mode,.int .i64 (S.bl k).uid,.int .i64 (S.bl k).gid,.int .i64 (S.bl k).ao,.int .i64 (S.bl k).data.size,.int .i64 (S.bl k).mtime,.int .i64 (S.bl k).ctime]:=by
 rcases rI S k with⟨a,h1,h2⟩|⟨h1,h2⟩
 ·rw[h1,h2];rfl
 ·rw[h1,h2];rfl
theorem zA(m:Int)(h:0≤m∧m≤1023):(bits .and .i64 m 512==0)=decide (m<512):=by
 have key:∀k:Fin 1024,(bits .and .i64 (k.val:Int) 512==0)=decide ((k.val:Int)<512):=by decide +kernel
 have:=key ⟨m.toNat,by omega⟩;have hm:((m.toNat:Nat):Int)=m:=by omega
 simpa [hm] using this
theorem yB(h:bg w pf pw R pv Y){N:Nat}(hk:ax Y.fs N)(hN:N≤999999)(hd:Y.dead=false)(u g:Int)(t:ByteArray)(top:Int) :
  Calls Tryz.prog 102 #[.pointer (some ⟨pf,0,none⟩),.agg #[.int .i64 u,.int .i64 g,.string t],.int .i64 top] w fun e w'=>e=.returned (.tuple #[.int .i64 (Y.fs.iq false ⟨u,g⟩ top).1,.int .i64 (Y.fs.iq false ⟨u,g⟩ top).2])∧Qi w w':=by
 obtain⟨hX,aI⟩:=Qh w #[.int .i64 u,.int .i64 g,.string t] 27;have HC:=Qf (eP u g t);have HL:=Qf (fun w1 (av:Qi w w1)=>iw (h.ak av) hk hN ⟨u,g⟩ top fL);have ji:=Qf (fun w1 (hb:Qi w w1) no=>iv (h.ak hb) hk hd no);obtain⟨S,hS⟩:∃S,Y.fs=S:=⟨_,rfl⟩;rw[hd] at HL;rw[hS] at HL ji⊢;have Kx:=Qf (fun k=>zA _ (show 0≤(S.bl k).mode∧(S.bl k).mode≤1023 from by
  rcases rI S k with⟨a,h1,h2⟩|⟨-,h2⟩
  ·rw[h2];rw[←hS] at h1;exact(hk.get h1).1.mode
  ·rw[h2];decide))
 have HR:=Qf (show S.iq false ⟨u,g⟩ top=if(S.bh false ⟨u,g⟩ top fL).2≠0 then(0,(S.bh false ⟨u,g⟩ top fL).2) else LU (S.bl (S.bh false ⟨u,g⟩ top fL).1) (S.bl top) (S.bh false ⟨u,g⟩ top fL).1 from rfl);generalize S.iq false ⟨u,g⟩ top=rd at HR⊢;generalize S.bh false ⟨u,g⟩ top fL=r at HR HL;obtain⟨no,e1⟩:=r;unfold fL at HL;dsimp only at HR HL;clear h hk hS hd;go_enter Tryz.func102,Tryz.ntmps102;go_upto_region 1 with fail;generalize w.alloc _=W0 at hX aI⊢;have aW:=Qf aI;obtain⟨xc,xf,xz⟩:=hX.facts;clear hX aI;go_wp2_with fail;refine(HC.o _).mono ?_;rintro e w1 ⟨rfl,av⟩;have dO:=Qf (au aW.o av);clear av xc xf xz;go_wp2_with fail;refine(HL.o _ dO.o).mono ?_;rintro e w2 ⟨rfl,aS⟩;have dS:=Qf (au dO.o aS);clear aS;by_cases h0:e1=0
 ·subst h0;have HE:=Qf (HR.o.trans (if_neg (by decide)));have gS:=Qf (ji.o _ dS.o no);have HM:=Qf (Kx.o no);rw[stZ] at gS;generalize ep (S.get no)=ne at gS;generalize S.bl no=x at HE gS HM;go_wp2_with fail;refine gS.o.mono ?_;rintro e w3 ⟨rfl,bK⟩;have cZ:=aq (au dS.o bK) (.cells #[.int .i64 x.no,.int .i64 x.dev,.int .i64 x.kind,.int .i64 x.mode,.int .i64 x.uid,.int .i64 x.gid,.int .i64 x.ao,.int .i64 x.data.size,.int .i64 x.mtime,.int .i64 x.ctime] 67);have Ly:=aw.new w3 #[.int .i64 x.no,.int .i64 x.dev,.int .i64 x.kind,.int .i64 x.mode,.int .i64 x.uid,.int .i64 x.gid,.int .i64 x.ao,.int .i64 x.data.size,.int .i64 x.mtime,.int .i64 x.ctime] 67;clear bK;go_upto_region 5 with fail;generalize w3.alloc _=W4 at cZ Ly⊢;have uv:=Qf cZ;have sR:=Qf Ly;have nW:=Qf (ji.o _ uv.o top);rw[stZ] at nW;generalize ep (S.get top)=nf at nW;generalize S.bl top=y at HE nW;clear cZ Ly;go_wp2_with fail;refine nW.o.mono ?_;rintro e w5 ⟨rfl,bU⟩;have fo:=aq (au uv.o bU) (.cells #[.int .i64 y.no,.int .i64 y.dev,.int .i64 y.kind,.int .i64 y.mode,.int .i64 y.uid,.int .i64 y.gid,.int .i64 y.ao,.int .i64 y.data.size,.int .i64 y.mtime,.int .i64 y.ctime] 67);have LA:=aw.new w5 #[.int .i64 y.no,.int .i64 y.dev,.int .i64 y.kind,.int .i64 y.mode,.int .i64 y.uid,.int .i64 y.gid,.int .i64 y.ao,.int .i64 y.data.size,.int .i64 y.mtime,.int .i64 y.ctime] 67;have FX:=(sR.o.ak bU).old (.cells #[.int .i64 y.no,.int .i64 y.dev,.int .i64 y.kind,.int .i64 y.mode,.int .i64 y.uid,.int .i64 y.gid,.int .i64 y.ao,.int .i64 y.data.size,.int .i64 y.mtime,.int .i64 y.ctime] 67);clear bU;go_upto_region 6 with fail;generalize w5.alloc _=W6 at fo LA FX⊢;have jx:=Qf fo;obtain⟨mc,mf,mz⟩:=LA.facts;obtain⟨nc,nf',nz⟩:=FX.facts;clear fo LA FX;unfold LU at HE;by_cases h1:x.kind=1
  ·have oC:(x.kind != 1)=false:=by simpa using h1
   have eS:=Qf (HE.o.trans (if_neg (by simpa using h1)));by_cases h2:x.dev=y.dev
   ·have kq:(x.dev != y.dev)=false:=by simpa using h2
    have bH:=Qf (eS.o.trans (if_neg (by simpa using h2)));by_cases h3:x.mode<512
    ·have rH:(bits .and .i64 x.mode 512==0)=true:=by rw[HM.o];simpa using h3
     have nO:=Qf (bH.o.trans (if_pos h3));clear h1 h2 h3;go_wp2_with fail;go_ret2;rw[nO.o];exact⟨rfl,jx.o⟩
    ·have rH:(bits .and .i64 x.mode 512==0)=false:=by rw[HM.o];simpa using h3
     have nO:=Qf (bH.o.trans (if_neg h3));clear h1 h2 h3;go_wp2_with fail;go_ret2;rw[nO.o];exact⟨rfl,jx.o⟩
   ·have kq:(x.dev != y.dev)=true:=by simpa using h2
    have bH:=Qf (eS.o.trans (if_pos h2));clear h1 h2;go_wp2_with fail;go_ret2;rw[bH.o];exact⟨rfl,jx.o⟩
  ·have oC:(x.kind != 1)=true:=by simpa using h1
   have bH:=Qf (HE.o.trans (if_pos h1));clear h1;go_wp2_with fail;go_ret2;rw[bH.o];exact⟨rfl,jx.o⟩
 ·have Jt:(e1 != 0)=true:=by simpa using h0
  have HE:=Qf (HR.o.trans (if_pos h0));clear h0;go_wp2_with fail;go_ret2;rw[HE.o];exact⟨rfl,dS.o⟩
theorem mv:(Tryz.prog.info? 143).map (fun i=>(i.zero,i.size,i.bytes))=some (some (.agg #[.int .i64 0,.string ByteArray.empty,.string ByteArray.empty]),3,40):=by kernel_rfl
theorem yu(h:bg w pf pw R pv Y){N:Nat}(hk:ax Y.fs N)(hN:N≤999999)(hd:Y.dead=false)(u:Us)(FB:-9223372036854775808≤u.u)(FA:u.u≤9223372036854775807)(top:Int)(path:ByteArray) :
  Calls Tryz.prog 62 #[.pointer (some ⟨pf,0,none⟩),.agg #[.int .i64 u.u,.int .i64 u.g,.string u.data],.int .i64 top,.string path] w fun e w'=>∃v,e=.returned v∧sL 143 w' w.heap.size v (Y.fs.cY false u top path)∧Qi w w':=by
 obtain⟨hX,aI⟩:=Qh w #[.int .i64 u.u,.int .i64 u.g,.string u.data] 27;have HD:=Qf (fun w=>vA u.u w FB FA);have HC:=Qf (fun w1 (av:Qi w w1)=>yB (h.ak av) hk hN hd u.u u.g u.data top);have HR:=Qf (show Y.fs.cY false u top path=(if(Y.fs.iq false ⟨u.u,u.g⟩ top).2=0 then[⟨(Y.fs.iq false ⟨u.u,u.g⟩ top).1,str (js u.u),path⟩] else[])++[⟨top,ByteArray.mk #[46,84,114,97,115,104,45]++str (js u.u),path⟩] from rfl);generalize Y.fs.cY false u top path=rd at HR⊢;generalize Y.fs.iq false ⟨u.u,u.g⟩ top=r at HR HC;have hid:(str (js u.u)).size≤21:=by
  rw[cJ];exact(jO u.u FB FA).1
 generalize str (js u.u)=id at HR HD hid;obtain⟨no,e1⟩:=r;dsimp only at HR HC;clear h hk hd;go_enter Tryz.func62,Tryz.ntmps62;go_upto_region 1 with fail;generalize w.alloc _=W0 at hX aI⊢;have HX:=Qf hX;have aW:=Qf aI;obtain⟨xc,xf,xz⟩:=hX.facts;clear hX aI;go_wp2_with fail;refine(HD.o _).mono ?_;rintro e w1 ⟨rfl,av⟩;have dO:=Qf (au aW.o av);have lL:=HX.o.ak av;clear av xc xf xz;obtain⟨xc,xf,xz⟩:=lL.facts;clear lL;go_wp2_with fail;refine(HC.o _ dO.o).mono ?_;rintro e w2 ⟨rfl,aS⟩;have cT:=au dO.o aS;have dS:=Qf cT;clear aS xc xf xz;by_cases h0:e1=0
 ·subst h0;obtain⟨g1,c1,W1,r1,o1,b1⟩:=(sL.nil 143 w2 w.heap.size).app (SE:=144) Tryz.underlying144 mv ⟨no,id,path⟩ (by simp) cT.size;obtain⟨g2,c2,W2,r2,o2,b2⟩:=o1.app (SE:=144) Tryz.underlying144 mv ⟨top,ByteArray.mk #[46,84,114,97,115,104,45]++id,path⟩ (by simp) (ae cT.size b1.size);have oP:=Qf r1;have yO:=Qf r2;have HO:=Qf (ag o2 (ag b1 b2));have HE:=Qf (show rd=[⟨no,id,path⟩]++[⟨top,ByteArray.mk #[46,84,114,97,115,104,45]++id,path⟩] by rw[HR.o];rfl);clear r1 r2 o1 o2 b1 b2 cT;go_wp2_with (at_builtin;refine aL rfl rfl rfl rfl (by first|exact oP.o|exact yO.o) ?_);go_ret;rw[HE.o];exact⟨_,rfl,HO.o.1,dS.o.trans (HO.o.2.1.trans HO.o.2.2)⟩
 ·have Jt:(e1==0)=false:=by simpa using h0
  obtain⟨g2,c2,W2,r2,o2,b2⟩:=(sL.nil 143 w2 w.heap.size).app (SE:=144) Tryz.underlying144 mv ⟨top,ByteArray.mk #[46,84,114,97,115,104,45]++id,path⟩ (by simp) cT.size;have yO:=Qf r2;have HO:=Qf (ag o2 b2);have HE:=Qf (show rd=[]++[⟨top,ByteArray.mk #[46,84,114,97,115,104,45]++id,path⟩] by rw[HR.o,if_neg h0]);clear r2 o2 b2 cT h0;go_wp2_with (at_builtin;refine aL rfl rfl rfl rfl yO.o ?_);go_ret;rw[HE.o];exact⟨_,rfl,HO.o.1,dS.o.trans HO.o.2⟩
end
end
section
open Go.RowKit
theorem lh{α:Type}{enc:α→List Value}{w:World}{sz n c:Nat}{a:Option Addr}{l:List α}(hl:∀x,(enc x).length=sz)(h:bj w sz (fun cs x=>cs=enc x) a n c l)(k:Nat)(hk:k<l.length) :
  ∃b off,a=some ⟨b,off,none⟩∧b<w.heap.size∧∀j (hj:j<sz),w.cell? ⟨b,off+k*sz+j,none⟩=some ((enc l[k])[j]'(by rw[hl];exact hj)):=by
 obtain⟨h1,-,-,h0|⟨b,off,he,hb,hel⟩⟩:=h
 ·omega
 ·obtain⟨cs,k1,k2,k3⟩:=hel k hk;subst k2;exact⟨b,off,he,hb,fun j hj=>k3 j (by rw[hl];exact hj)⟩
def cnC(x:Cn):List Value:=[.string x.path,.int .i64 x.dir,.int .i64 x.info,.int .i64 x.files,.int .i64 x.out,.int .i64 x.jm,.string x.top]
def cnQ(cs:List Value)(x:Cn):Prop:=cs=cnC x
def Cn.v(x:Cn):Value:=.agg #[.string x.path,.int .i64 x.dir,.int .i64 x.info,.int .i64 x.files,.int .i64 x.out,.int .i64 x.jm,.string x.top]
def OCn(w:World)(base:Nat)(v:Value)(l:List Cn):Prop:=w.ownsRow base 48 7 v l.length (l.flatMap cnC)
theorem aw.dV{w:World}{B:Nat}{x0 x1 x2 x3 x4 x5 x6 v0 v1 v2 v3 v4 v5 v6:Value}{T:TypeId}(h:aw w B #[x0,x1,x2,x3,x4,x5,x6] T):aw (((((((w.setCell ⟨B,0,none⟩ v0).setCell ⟨B,1,none⟩ v1).setCell ⟨B,2,none⟩ v2).setCell ⟨B,3,none⟩ v3).setCell ⟨B,4,none⟩ v4).setCell ⟨B,5,none⟩ v5).setCell ⟨B,6,none⟩ v6) B #[v0,v1,v2,v3,v4,v5,v6] T:=
 ((((((h.set 0 v0).set 1 v1).set 2 v2).set 3 v3).set 4 v4).set 5 v5).set 6 v6
theorem dK{N:Nat}{w0 w:World}{B:Nat}{v0 v1 v2 v3 v4 v5 v6:Value}(h:Below N w0 w)(hB:N≤B):Below N w0 (((((((w.setCell ⟨B,0,none⟩ v0).setCell ⟨B,1,none⟩ v1).setCell ⟨B,2,none⟩ v2).setCell ⟨B,3,none⟩ v3).setCell ⟨B,4,none⟩ v4).setCell ⟨B,5,none⟩ v5).setCell ⟨B,6,none⟩ v6):=
 ((((((h.setCell hB v0).setCell hB v1).setCell hB v2).setCell hB v3).setCell hB v4).setCell hB v5).setCell hB v6
theorem cI{tmps:Array Value}{W:World}{B:Nat}{x:Cn}{e:Int}(hb:aw W B #[.string x.path,.int .i64 x.dir,.int .i64 x.info,.int .i64 x.files,.int .i64 x.out,.int .i64 x.jm,.string x.top] 48)
  (h8:tmps.getD 6 undef=.pointer (some ⟨B,0,none⟩)) (h9:tmps.getD 7 undef=.int .i64 e):(results Tryz.f101 tmps).run Tryz.prog W=.ok (.tuple #[x.v,.int .i64 e]) W:=by
 have q0:=hb.cell 0;have q1:=hb.cell 1;have q2:=hb.cell 2;have q3:=hb.cell 3;have q4:=hb.cell 4;have q5:=hb.cell 5;have q6:=hb.cell 6;rw[Array.getD_eq_getD_getElem?] at h8 h9;simp[results,Tryz.results101,go_sem,Cn.v,h8,h9,q0,q1,q2,q3,q4,q5,q6]
theorem gL(s0 s1 s2 s3:ByteArray)(w:World):(Instr.index 196 (.agg #[.string s0,.string s1,.string s2,.string s3]) (.int .i64 0)).run Tryz.prog w=.ok (.string s0) w∧(Instr.index 196 (.agg #[.string s0,.string s1,.string s2,.string s3]) (.int .i64 1)).run Tryz.prog w=.ok (.string s1) w∧
  (Instr.index 196 (.agg #[.string s0,.string s1,.string s2,.string s3]) (.int .i64 2)).run Tryz.prog w=.ok (.string s2) w∧(Instr.index 196 (.agg #[.string s0,.string s1,.string s2,.string s3]) (.int .i64 3)).run Tryz.prog w=.ok (.string s3) w:=by
 refine⟨?_,?_,?_,?_⟩<;>first|kernel_rfl|rfl
inductive DV (S:Fs) (d:Bool) (c:Cr) (dir:Int) (top:ByteArray) (rd:Cn×Int):Value→Value→Value→Value→Value→Prop
 |s0:rd=S.qY d c dir top→DV S d c dir top rd (.int .i64 0) (.int .i64 0) (.int .i64 0) (.int .i64 0) (.int .i64 0)
 |s1 (i:Int):rd=S.uU d c dir top i→DV S d c dir top rd (.int .i64 1) (.int .i64 i) (.int .i64 0) (.int .i64 0) (.int .i64 0)
 |s2 (i f:Int):rd=S.uV d c dir top i f→DV S d c dir top rd (.int .i64 2) (.int .i64 i) (.int .i64 f) (.int .i64 0) (.int .i64 0)
 |s3 (i f o:Int):rd=S.uW d c dir top i f o→DV S d c dir top rd (.int .i64 3) (.int .i64 i) (.int .i64 f) (.int .i64 o) (.int .i64 0)
 |s4 (i f o y:Int):rd=S.uX dir top i f o y→DV S d c dir top rd (.int .i64 4) (.int .i64 i) (.int .i64 f) (.int .i64 o) (.int .i64 y)
section
variable{w w':World}{pf pw:Nat}{R:Rp}{pv:Value}{Y:Sy}
theorem DH(h:bg w pf pw R pv Y){N:Nat}(hk:ax Y.fs N)(hN:N≤999999)(hp:Pl Y.fs)(hl:Y.fs.ns.length≤100000)(u:Us)(p:pA) :
  Calls Tryz.prog 101 #[.pointer (some ⟨pf,0,none⟩),.agg #[.int .i64 u.u,.int .i64 u.g,.string u.data],.agg #[.int .i64 p.dir,.string p.name,.string p.top]] w fun e w'=>e=.returned (.tuple #[(Y.fs.kp Y.dead u p).1.v,.int .i64 (Y.fs.kp Y.dead u p).2])∧Qi w w':=by
 have HO:=Qf (fun w1 (av:Qi w w1) dir n=>yv (h.ak av) hk hN u.u u.g u.data dir n);have PJ:=Qf (fun w1 (av:Qi w w1) d=>qh (h.wd.ak av) hk hp hl d);obtain⟨pc,-,pz⟩:=h.aZ.facts;have lP:=Qf (fun w1 (av:Qi w w1)=>show w1.cell? ⟨pf,0,none⟩=some (.pointer (some ⟨pw,0,none⟩)) from(av.cell (p:=⟨pf,0,none⟩) pz).trans (pc 0));obtain⟨S,hS⟩:∃S,Y.fs=S:=⟨_,rfl⟩;obtain⟨b,hd⟩:∃b,Y.dead=b:=⟨_,rfl⟩;rw[hS,hd] at HO;rw[hS] at PJ;rw[hS,hd];have HR:=Qf (show S.kp b u p=if(eW (S.fu b ⟨u.u,u.g⟩ p.dir p.name)).2≠0 then(iV,(eW (S.fu b ⟨u.u,u.g⟩ p.dir p.name)).2) else S.qY b ⟨u.u,u.g⟩ (eW (S.fu b ⟨u.u,u.g⟩ p.dir p.name)).1 p.top from rfl);generalize S.kp b u p=rd at HR⊢;have Dm:=((aw.new w #[.int .i64 u.u,.int .i64 u.g,.string u.data] 27).old (.cells #[.int .i64 p.dir,.string p.name,.string p.top] 143)).old (.cells #[.string ⟨#[]⟩,.int .i64 0,.int .i64 0,.int .i64 0,.int .i64 0,.int .i64 0,.string ⟨#[]⟩] 48);have Jc:aw (((w.alloc (.cells #[.int .i64 u.u,.int .i64 u.g,.string u.data] 27)).alloc (.cells #[.int .i64 p.dir,.string p.name,.string p.top] 143)).alloc (.cells #[.string ⟨#[]⟩,.int .i64 0,.int .i64 0,.int .i64 0,.int .i64 0,.int .i64 0,.string ⟨#[]⟩] 48)) (w.heap.size+1) #[.int .i64 p.dir,.string p.name,.string p.top] 143:=by
  have:=(aw.new (w.alloc (.cells #[.int .i64 u.u,.int .i64 u.g,.string u.data] 27)) #[.int .i64 p.dir,.string p.name,.string p.top] 143).old (.cells #[.string ⟨#[]⟩,.int .i64 0,.int .i64 0,.int .i64 0,.int .i64 0,.int .i64 0,.string ⟨#[]⟩] 48)
  rwa [World.size_alloc] at this
 have eu:aw (((w.alloc (.cells #[.int .i64 u.u,.int .i64 u.g,.string u.data] 27)).alloc (.cells #[.int .i64 p.dir,.string p.name,.string p.top] 143)).alloc (.cells #[.string ⟨#[]⟩,.int .i64 0,.int .i64 0,.int .i64 0,.int .i64 0,.int .i64 0,.string ⟨#[]⟩] 48)) (w.heap.size+1+1) #[.string ⟨#[]⟩,.int .i64 0,.int .i64 0,.int .i64 0,.int .i64 0,.int .i64 0,.string ⟨#[]⟩] 48:=by
  have:=aw.new ((w.alloc (.cells #[.int .i64 u.u,.int .i64 u.g,.string u.data] 27)).alloc (.cells #[.int .i64 p.dir,.string p.name,.string p.top] 143)) #[.string ⟨#[]⟩,.int .i64 0,.int .i64 0,.int .i64 0,.int .i64 0,.int .i64 0,.string ⟨#[]⟩] 48
  rwa [World.size_alloc,World.size_alloc] at this
 have aI:=aq (aq (aq (Qj w) (.cells #[.int .i64 u.u,.int .i64 u.g,.string u.data] 27)) (.cells #[.int .i64 p.dir,.string p.name,.string p.top] 143)) (.cells #[.string ⟨#[]⟩,.int .i64 0,.int .i64 0,.int .i64 0,.int .i64 0,.int .i64 0,.string ⟨#[]⟩] 48);clear h hk hS hd pc pz hp hl;go_enter Tryz.func101,Tryz.ntmps101;go_upto_region 1 with fail;generalize ((w.alloc (.cells #[.int .i64 u.u,.int .i64 u.g,.string u.data] 27)).alloc (.cells #[.int .i64 p.dir,.string p.name,.string p.top] 143)).alloc (.cells #[.string ⟨#[]⟩,.int .i64 0,.int .i64 0,.int .i64 0,.int .i64 0,.int .i64 0,.string ⟨#[]⟩] 48)=W0 at Dm Jc eu aI⊢;have bP:=Qf aI;have HU0:=Qf Dm;have GF:=Qf Jc;have HR0:=Qf eu;obtain⟨uc,uf,uz⟩:=Dm.facts;obtain⟨qc,qf,qz⟩:=Jc.facts;clear Dm Jc eu aI;have oQ:=Qf (HO.o _ bP.o p.dir p.name);generalize S.fu b ⟨u.u,u.g⟩ p.dir p.name=r at oQ HR;obtain⟨no,e1⟩:=r;dsimp only at oQ;go_wp2_with fail;refine oQ.o.mono ?_;rintro e w1 ⟨rfl,av⟩;have dO:=Qf (au bP.o av);have HU1:=Qf (HU0.o.ak av);have Ed:=Qf (GF.o.ak av);have oP:=Qf (HR0.o.ak av);have hwz:=bP.o.size;obtain⟨rc,rf,rz⟩:=oP.o.facts;clear av uc uf uz qc qf qz;by_cases h0:e1=0
 ·subst h0;by_cases hn:no=0
  ·subst hn;have HE:=Qf (show rd=(iV,5) by rw[HR.o,qu];rfl);go_wp2_with (exact bodyPost_ret (cI (x:=iV) (e:=5) oP.o.dV rfl rfl) rfl ⟨by rw[HE.o],dK dO.o (by omega)⟩)
  ·have hn':(no==0)=false:=by simpa using hn
   have HE:=Qf (show rd=S.qY b ⟨u.u,u.g⟩ no p.top by rw[HR.o,qw hn,if_neg (by simp)]);clear HR oQ;go_upto_region 7 with fail;obtain⟨LM,gu⟩:=Qh w1 #[.int .i64 0,.int .i64 0,.int .i64 0,.int .i64 0] 242;generalize w1.alloc _=W2 at LM gu⊢;have HA:=Qf (ag LM gu);have IU:w.heap.size+1+1≠w1.heap.size:=by
    have:=oP.o.lt;omega
   clear LM gu rc rf rz hwz;go_wp2_with fail
   go_loopw [36] (fun t36 wr=>∃v0 v1 v2 v3,DV S b ⟨u.u,u.g⟩ no p.top rd t36 v0 v1 v2 v3∧aw wr w1.heap.size #[v0,v1,v2,v3] 242∧Qi w1 wr) (fun t36 _=>4-(intOf t36).toNat)
   case atStart=>exact⟨_,_,_,_,.s0 HE.o,HA.o.1,HA.o.2⟩
   case round=>
    obtain⟨v0,v1,v2,v3,hst,hba,hbr⟩:=hrel;have Qa:=Qf hba;have A8:=Qf hbr;have vY:=Qf (dO.o.trans (hbr.mono dO.o.size));have hU:=HU1.o.l4 hbr HU1.o.lt;have hP:=Ed.o.l4 hbr Ed.o.lt;have hR:=oP.o.l4 hbr oP.o.lt;have Nl:=Qf hR;have HPr:=Qf hP;obtain⟨uc,uf,uz⟩:=hU.facts;obtain⟨ac,af,az⟩:=hba.facts;clear hba hbr hU hP hR
    cases hst with
    |s0 hE=>
     have eS:=Qf hE;have fY:=Qf (HO.o _ vY.o no iJ);have hix:=fun w=>(gL iJ fQ mA mx w).1;unfold Fs.qY at eS;generalize S.fu b ⟨u.u,u.g⟩ no iJ=r at fY eS;obtain⟨n1,e1⟩:=r;dsimp only at fY eS;unfold iJ fQ mA mx at hix;unfold iJ at fY;clear hE;go_wp2_with fail;refine fY.o.mono ?_;rintro e w2 ⟨rfl,aS⟩;have kX:=Qa.o.ak aS;have dq:=Nl.o.ak aS;have cT:=au A8.o aS;have nP:=Qf kX;have dS:=Qf cT;have mN:=Qf (dq.setOther ⟨w1.heap.size,0,none⟩ (.int .i64 n1) IU.symm);have fG:=Qf (show Qi w1 (w2.setCell ⟨w1.heap.size,0,none⟩ (.int .i64 n1)) from cT.setCell (aa _) _);obtain⟨ac,af,az⟩:=kX.facts;obtain⟨rc,rf,rz⟩:=dq.facts;clear aS kX dq cT uc uf uz;by_cases h0:e1=0
     ·subst h0;by_cases nR:n1=0
      ·subst nR;have bH:=Qf (show rd=(iV,5) by rw[eS.o,qu];rfl);go_wp2_with (exact bodyPost_ret (cI (x:=iV) (e:=5) mN.o.dV rfl rfl) rfl ⟨by rw[bH.o],dK (dO.o.trans (fG.o.mono dO.o.size)) (by omega)⟩)
      ·have hn1':(n1==0)=false:=by simpa using nR
       have bH:=Qf (show rd=S.uU b ⟨u.u,u.g⟩ no p.top n1 by rw[eS.o,qw nR,if_neg (by simp)]);clear eS nR;go_wp2_with fail;go_roundw
       case measure=>simp[intOf]
       case rel=>exact⟨_,_,_,_,.s1 n1 bH.o,nP.o.set 0 _,fG.o⟩
     ·have Jt:(e1==0)=false:=by simpa using h0
      have Js:(e1 != 0)=true:=by simpa using h0
      have bH:=Qf (show rd=(iV,e1) by rw[eS.o,qv n1 h0,if_pos h0]);clear h0;go_wp2_with (exact bodyPost_ret (cI (x:=iV) (e:=e1) mN.o.dV rfl rfl) rfl ⟨by rw[bH.o],dK (dO.o.trans (fG.o.mono dO.o.size)) (by omega)⟩)
    |s1 i0 hE=>
     have eS:=Qf hE;have fY:=Qf (HO.o _ vY.o no fQ);have hix:=fun w=>(gL iJ fQ mA mx w).2.1;unfold Fs.uU at eS;generalize S.fu b ⟨u.u,u.g⟩ no fQ=r at fY eS;obtain⟨n1,e1⟩:=r;dsimp only at fY eS;unfold iJ fQ mA mx at hix;unfold fQ at fY;clear hE;go_wp2_with fail;refine fY.o.mono ?_;rintro e w2 ⟨rfl,aS⟩;have kX:=Qa.o.ak aS;have dq:=Nl.o.ak aS;have cT:=au A8.o aS;have nP:=Qf kX;have dS:=Qf cT;have mN:=Qf (dq.setOther ⟨w1.heap.size,1,none⟩ (.int .i64 n1) IU.symm);have fG:=Qf (show Qi w1 (w2.setCell ⟨w1.heap.size,1,none⟩ (.int .i64 n1)) from cT.setCell (aa _) _);obtain⟨ac,af,az⟩:=kX.facts;obtain⟨rc,rf,rz⟩:=dq.facts;clear aS kX dq cT uc uf uz;by_cases h0:e1=0
     ·subst h0;by_cases nR:n1=0
      ·subst nR;have bH:=Qf (show rd=(iV,5) by rw[eS.o,qu];rfl);go_wp2_with (exact bodyPost_ret (cI (x:=iV) (e:=5) mN.o.dV rfl rfl) rfl ⟨by rw[bH.o],dK (dO.o.trans (fG.o.mono dO.o.size)) (by omega)⟩)
      ·have hn1':(n1==0)=false:=by simpa using nR
       have bH:=Qf (show rd=S.uV b ⟨u.u,u.g⟩ no p.top i0 n1 by rw[eS.o,qw nR,if_neg (by simp)]);clear eS nR;go_wp2_with fail;go_roundw
       case measure=>simp[intOf]
       case rel=>exact⟨_,_,_,_,.s2 i0 n1 bH.o,nP.o.set 1 _,fG.o⟩
     ·have Jt:(e1==0)=false:=by simpa using h0
      have Js:(e1 != 0)=true:=by simpa using h0
      have bH:=Qf (show rd=(iV,e1) by rw[eS.o,qv n1 h0,if_pos h0]);clear h0;go_wp2_with (exact bodyPost_ret (cI (x:=iV) (e:=e1) mN.o.dV rfl rfl) rfl ⟨by rw[bH.o],dK (dO.o.trans (fG.o.mono dO.o.size)) (by omega)⟩)
    |s2 i0 f0 hE=>
     have eS:=Qf hE;have fY:=Qf (HO.o _ vY.o no mA);have hix:=fun w=>(gL iJ fQ mA mx w).2.2.1;unfold Fs.uV at eS;generalize S.fu b ⟨u.u,u.g⟩ no mA=r at fY eS;obtain⟨n1,e1⟩:=r;dsimp only at fY eS;unfold iJ fQ mA mx at hix;unfold mA at fY;clear hE;go_wp2_with fail;refine fY.o.mono ?_;rintro e w2 ⟨rfl,aS⟩;have kX:=Qa.o.ak aS;have dq:=Nl.o.ak aS;have cT:=au A8.o aS;have nP:=Qf kX;have dS:=Qf cT;have mN:=Qf (dq.setOther ⟨w1.heap.size,2,none⟩ (.int .i64 n1) IU.symm);have fG:=Qf (show Qi w1 (w2.setCell ⟨w1.heap.size,2,none⟩ (.int .i64 n1)) from cT.setCell (aa _) _);obtain⟨ac,af,az⟩:=kX.facts;obtain⟨rc,rf,rz⟩:=dq.facts;clear aS kX dq cT uc uf uz;by_cases h0:e1=0
     ·subst h0;have bH:=Qf (show rd=S.uW b ⟨u.u,u.g⟩ no p.top i0 f0 n1 by rw[eS.o,if_neg (by simp)]);clear eS
      cases hz:(n1==0) with
      |true=>
       go_wp2_with fail;go_roundw
       case measure=>simp[intOf]
       case rel=>exact⟨_,_,_,_,.s3 i0 f0 n1 bH.o,nP.o.set 2 _,fG.o⟩
      |false=>
       go_wp2_with fail;go_roundw
       case measure=>simp[intOf]
       case rel=>exact⟨_,_,_,_,.s3 i0 f0 n1 bH.o,nP.o.set 2 _,fG.o⟩
     ·have Jt:(e1==0)=false:=by simpa using h0
      have Js:(e1 != 0)=true:=by simpa using h0
      have bH:=Qf (show rd=(iV,e1) by rw[eS.o,if_pos h0]);clear h0;go_wp2_with (exact bodyPost_ret (cI (x:=iV) (e:=e1) mN.o.dV rfl rfl) rfl ⟨by rw[bH.o],dK (dO.o.trans (fG.o.mono dO.o.size)) (by omega)⟩)
    |s3 i0 f0 o0 hE=>
     have eS:=Qf hE;have fY:=Qf (HO.o _ vY.o no mx);have hix:=fun w=>(gL iJ fQ mA mx w).2.2.2;unfold Fs.uW at eS;generalize S.fu b ⟨u.u,u.g⟩ no mx=r at fY eS;obtain⟨n1,e1⟩:=r;dsimp only at fY eS;unfold iJ fQ mA mx at hix;unfold mx at fY;clear hE;go_wp2_with fail;refine fY.o.mono ?_;rintro e w2 ⟨rfl,aS⟩;have kX:=Qa.o.ak aS;have dq:=Nl.o.ak aS;have cT:=au A8.o aS;have nP:=Qf kX;have dS:=Qf cT;have mN:=Qf (dq.setOther ⟨w1.heap.size,3,none⟩ (.int .i64 n1) IU.symm);have fG:=Qf (show Qi w1 (w2.setCell ⟨w1.heap.size,3,none⟩ (.int .i64 n1)) from cT.setCell (aa _) _);obtain⟨ac,af,az⟩:=kX.facts;obtain⟨rc,rf,rz⟩:=dq.facts;clear aS kX dq cT uc uf uz;by_cases h0:e1=0
     ·subst h0;have bH:=Qf (show rd=S.uX no p.top i0 f0 o0 n1 by rw[eS.o,if_neg (by simp)]);clear eS
      cases hz:(n1==0) with
      |true=>
       go_wp2_with fail;go_roundw
       case measure=>simp[intOf]
       case rel=>exact⟨_,_,_,_,.s4 i0 f0 o0 n1 bH.o,nP.o.set 3 _,fG.o⟩
      |false=>
       go_wp2_with fail;go_roundw
       case measure=>simp[intOf]
       case rel=>exact⟨_,_,_,_,.s4 i0 f0 o0 n1 bH.o,nP.o.set 3 _,fG.o⟩
     ·have Jt:(e1==0)=false:=by simpa using h0
      have Js:(e1 != 0)=true:=by simpa using h0
      have bH:=Qf (show rd=(iV,e1) by rw[eS.o,if_pos h0]);clear h0;go_wp2_with (exact bodyPost_ret (cI (x:=iV) (e:=e1) mN.o.dV rfl rfl) rfl ⟨by rw[bH.o],dK (dO.o.trans (fG.o.mono dO.o.size)) (by omega)⟩)
    |s4 i0 f0 o0 y0 hE=>
     have eS:=Qf hE;have Gx:=Qf (PJ.o _ vY.o no);have pc0:=lP.o _ vY.o;unfold Fs.uX at eS;unfold qj at Gx;clear hE uc uf uz ac af az
     cases hpl:S.fP no with
     |none=>
      rw[hpl] at eS Gx;clear hpl;go_wp2_with fail;refine Gx.o.mono ?_;rintro e w2 ⟨rfl,aS⟩;have dq:=Nl.o.ak aS;have yO:=Qf dq;have dS:=Qf (au vY.o aS);obtain⟨rc,rf,rz⟩:=dq.facts;clear aS dq pc0;go_wp2_with (exact bodyPost_ret (cI (x:=iV) (e:=5) yO.o.dV rfl rfl) rfl ⟨by rw[eS.o],dK dS.o (by omega)⟩)
     |some s=>
      rw[hpl] at eS Gx;clear hpl;go_wp2_with fail;refine Gx.o.mono ?_;rintro e w2 ⟨rfl,aS⟩;have dq:=Nl.o.ak aS;have kX:=Qa.o.ak aS;have hP2:=HPr.o.ak aS;have yO:=Qf dq;have dS:=Qf (au vY.o aS);obtain⟨rc,rf,rz⟩:=dq.facts;obtain⟨ac,af,az⟩:=kX.facts;obtain⟨qc,qf,qz⟩:=hP2.facts;clear aS dq kX hP2 pc0;go_wp2_with (exact bodyPost_ret (cI (x:=⟨s,no,i0,f0,o0,y0,p.top⟩) (e:=0) yO.o.dV rfl rfl) rfl ⟨by rw[eS.o],dK dS.o (by omega)⟩)
 ·have Jt:(e1==0)=false:=by simpa using h0
  have Js:(e1 != 0)=true:=by simpa using h0
  have HE:=Qf (show rd=(iV,e1) by rw[HR.o,qv no h0,if_pos h0]);clear h0;go_wp2_with (exact bodyPost_ret (cI (x:=iV) (e:=e1) oP.o.dV rfl rfl) rfl ⟨by rw[HE.o],dK dO.o (by omega)⟩)
end
end
section
open Go.RowKit
def J3(x:Sp):List Value:=[.int .i64 x.dir,.string x.name,.int .i64 x.no,.int .i64 x.depth]
def spQ(cs:List Value)(x:Sp):Prop:=cs=J3 x
theorem uG(x:Sp):(J3 x).length=4:=rfl
theorem Ba:(Tryz.prog.info? 108).map (fun i=>(i.zero,i.size,i.bytes))=some (some (.agg #[.int .i64 0,.string ByteArray.empty,.int .i64 0,.int .i64 0]),4,40):=by kernel_rfl
def jw(w:World)(base:Nat)(v:Value)(l:List Sp):Prop:=w.ownsRow base 108 4 v l.length (l.flatMap J3)
theorem jw.nil(w:World)(base:Nat):jw w base (.slice none 0 0) []:=⟨rfl,.inl ⟨rfl,rfl⟩⟩
theorem jw.ak{w w':World}{base:Nat}{v:Value}{l:List Sp}(h:jw w base v l)(hb:Qi w w'):jw w' base v l:=dD h hb (aa _)
theorem jw.at{w:World}{base c:Nat}{a:Option Addr}{l:List Sp}(h:jw w base (.slice a l.length c) l):bj w 4 spQ a l.length c l:=eo (R:=spQ) (by omega) uG (fun _=>rfl) h
theorem jw.app{w:World}{base:Nat}{v:Value}{l:List Sp}(h:jw w base v l)(x:Sp)(hn:l.length≤1000000)(hb:base≤w.heap.size) :
  ∃g cap W,(Builtin.append_ #[158,158] 158 #[v,.slice (some ⟨w.heap.size,0,none⟩) 1 1]).run Tryz.prog (w.alloc (.cells #[.int .i64 x.dir,.string x.name,.int .i64 x.no,.int .i64 x.depth] 108))=.ok (.slice (some ⟨g,0,none⟩) (l.length+1) cap) W∧
   jw W base (.slice (some ⟨g,0,none⟩) (l.length+1) cap) (l++[x])∧Mod (fun k=>v.ownBlock=some k) w W:=by
 obtain⟨g,cap,W,h1,h2,h3,-⟩:=kK (SE:=158) Tryz.underlying158 Ba rfl (by decide) h (J3 x) rfl (by intro u hu;simp[J3] at hu;rcases hu with rfl|rfl|rfl|rfl<;>rfl) hn (by decide) hb;refine⟨g,cap,W,h1,?_,h3⟩;unfold jw;rw[List.length_append,List.length_singleton,List.flatMap_append];exact(by simpa using h2)
theorem jw.cell{w:World}{base cap n:Nat}{a:Option Addr}{l:List Sp}(h:jw w base (.slice a n cap) l)(k:Nat)(hk:k<l.length):∃b,a=some ⟨b,0,none⟩∧b<w.heap.size∧base≤b∧n=l.length∧(∀i,w.frozen? ⟨b,i,none⟩=false)∧l.length≤cap∧cap≤9223372036854775807∧
  w.cell? ⟨b,k*4,none⟩=some (.int .i64 l[k].dir)∧w.cell? ⟨b,k*4+1,none⟩=some (.string l[k].name)∧w.cell? ⟨b,k*4+2,none⟩=some (.int .i64 l[k].no)∧w.cell? ⟨b,k*4+3,none⟩=some (.int .i64 l[k].depth):=by
 rcases h.2 with⟨hv,h0⟩|⟨g,cap',cur,hv,hb,hg,h1,h2,h3,h4⟩
 ·omega
 ·injection hv with e1 e2 e3;subst e1 e2 e3;have hB:aw w g cur 108:=hg;obtain⟨-,hf,-⟩:=hB.facts;have hS:=jw.at h;obtain⟨b,off,ha,hbl,hc⟩:=lh uG hS k hk;injection ha with ha;injection ha with e1 e2;subst e1 e2;have c0:=hc 0 (by decide);have c1:=hc 1 (by decide);have c2:=hc 2 (by decide);have c3:=hc 3 (by decide);simp only[Nat.zero_add,Nat.add_zero] at c0 c1 c2 c3;exact⟨g,rfl,hB.lt,hb,rfl,hf,h1,h2,c0,c1,c2,c3⟩
theorem jw.less{w:World}{base g cap:Nat}{l:List Sp}{x:Sp}(h:jw w base (.slice (some ⟨g,0,none⟩) (l.length+1) cap) (l++[x])):jw w base (.slice (some ⟨g,0,none⟩) l.length cap) l:=
 Fb (enc:=J3) (by omega) uG (by unfold jw at h;rwa [List.length_append,List.length_singleton] at h)
def Mx(x:Ln):List Value:=[.int .i64 x.size,.int .i64 x.time,.string x.name]
def IG(cs:List Value)(x:Ln):Prop:=cs=Mx x
theorem u5(x:Ln):(Mx x).length=3:=rfl
theorem IF:(Tryz.prog.info? 60).map (fun i=>(i.zero,i.size,i.bytes))=some (some (.agg #[.int .i64 0,.int .i64 0,.string ByteArray.empty]),3,32):=by kernel_rfl
def sM(w:World)(base:Nat)(v:Value)(l:List Ln):Prop:=w.ownsRow base 60 3 v l.length (l.flatMap Mx)
theorem sM.nil(w:World)(base:Nat):sM w base (.slice none 0 0) []:=⟨rfl,.inl ⟨rfl,rfl⟩⟩
theorem sM.ak{w w':World}{base:Nat}{v:Value}{l:List Ln}(h:sM w base v l)(hb:Qi w w'):sM w' base v l:=dD h hb (aa _)
theorem sM.at{w:World}{base c:Nat}{a:Option Addr}{l:List Ln}(h:sM w base (.slice a l.length c) l):bj w 3 IG a l.length c l:=eo (R:=IG) (by omega) u5 (fun _=>rfl) h
theorem sM.app{w:World}{base:Nat}{v:Value}{l:List Ln}(h:sM w base v l)(x:Ln)(hn:l.length≤1000000)(hb:base≤w.heap.size) :
  ∃g cap W,(Builtin.append_ #[31,31] 31 #[v,.slice (some ⟨w.heap.size,0,none⟩) 1 1]).run Tryz.prog (w.alloc (.cells #[.int .i64 x.size,.int .i64 x.time,.string x.name] 60))=.ok (.slice (some ⟨g,0,none⟩) (l.length+1) cap) W∧
   sM W base (.slice (some ⟨g,0,none⟩) (l.length+1) cap) (l++[x])∧Mod (fun k=>v.ownBlock=some k) w W:=by
 obtain⟨g,cap,W,h1,h2,h3,-⟩:=kK (SE:=31) Tryz.underlying31 IF rfl (by decide) h (Mx x) rfl (by intro u hu;simp[Mx] at hu;rcases hu with rfl|rfl|rfl<;>rfl) hn (by decide) hb;refine⟨g,cap,W,h1,?_,h3⟩;unfold sM;rw[List.length_append,List.length_singleton,List.flatMap_append];exact(by simpa using h2)
theorem cn{w:World}{n c:Nat}{a:Option Addr}{l:List Ln}(h:bj w 3 IG a n c l)(k:Nat)(hk:k<l.length):∃b off,a=some ⟨b,off,none⟩∧b<w.heap.size∧
  w.cell? ⟨b,off+k*3,none⟩=some (.int .i64 l[k].size)∧w.cell? ⟨b,off+k*3+1,none⟩=some (.int .i64 l[k].time)∧w.cell? ⟨b,off+k*3+2,none⟩=some (.string l[k].name):=by
 obtain⟨b,off,ha,hb,hc⟩:=lh u5 h k hk;exact⟨b,off,ha,hb,hc 0 (by decide),hc 1 (by decide),hc 2 (by decide)⟩
end
section
open Go.RowKit
theorem pL.less{S:Fs}{N:Nat}{s0:Int}{B:Nat}{a todo:List En}{nos:List Int}{f:Nat}(h:pL S N s0 B (a++todo) nos f):pL S N s0 B todo nos f:=by
 have h1:=h.nodup;have h2:=h.src;have h3:=h.low;have h4:=h.fuel;rw[im,List.append_assoc] at h1 h2 h3;rw[List.length_append] at h4;exact⟨(List.nodup_append.1 h1).2.1,fun c hc=>h2 c (List.mem_append_right _ hc),fun c hc=>h3 c (List.mem_append_right _ hc),by omega,fun x hx=>h.size x (List.mem_append_right _ hx)⟩
theorem rR{S:Fs}{N:Nat}(h:iY S N)(c:Cr):∀(f:Nat) (stk:List Sp) (raw:List En) (nos:List Int) (s0:Int) (B g:Nat),pL S N s0 B raw nos g→stk.map (·.no)=raw.map (fun e=>S.aC e.no)→(S.fh c f stk).1.length≤g
 |0,_,_,_,_,_,_,_,_=>Nat.zero_le _
 |_+1,[],_,_,_,_,_,_,_=>Nat.zero_le _
 |f+1,x::t,raw,nos,s0,B,g,ht,hm=>by
  unfold Fs.fh
  split
  ·exact Nat.zero_le _
  ·rename_i he
   cases raw with
   |nil=>cases hm
   |cons e raw=>
    rw[List.map_cons,List.map_cons] at hm;injection hm with hx hm;obtain⟨g,rfl⟩:=ht.pos;have vR:(S.dn c x).2=0:=by simpa using he
    cases hg:S.get (S.aC e.no) with
    |none=>
     exfalso;unfold Fs.dn at vR;rw[hx,hg] at vR;rw[if_pos (by decide)] at vR;exact absurd vR (by decide)
    |some n=>
     have hs:=ht.some h.ok h.pl h.tr hg;rw[List.length_cons];refine Nat.succ_le_succ ?_;have hnil:(S.dn c x).1=[]→(S.fh c f ((S.dn c x).1++t)).1.length≤g:=fun h0=>by
      rw[h0,List.nil_append];exact rR h c f t raw _ _ _ g hs.less hm
     have hl:(S.dn c x).1=[]∨(S.dn c x).1.map (·.no)=(gO e.name n).map (fun e=>S.aC e.no):=by
      unfold Fs.dn
      split
      ·exact .inl rfl
      split
      ·exact .inl rfl
      split
      ·exact .inl rfl
      split
      ·exact .inl rfl
      unfold Fs.cp;rw[if_neg (by decide)]
      split
      ·exact .inl rfl
      ·refine .inr ?_;have hents:S.bw x.no=n.ay:=by unfold Fs.bw;rw[hx,hg]
       rw[hents];unfold gO;simp[List.map_map,Function.comp_def]
     rcases hl with h0|h0
     ·exact hnil h0
     ·exact rR h c f _ (gO e.name n++raw) _ _ _ g hs (by rw[List.map_append,List.map_append,h0,hm])
theorem Ep{S:Fs}{N:Nat}(h:iY S N)(d:Bool)(c:Cr)(dir:Int)(n:ByteArray):(S.iD N d c dir n).1.length≤S.wP N:=by
 unfold Fs.iD
 split
 ·exact Nat.zero_le _
 ·rename_i h0;have hk:∃k,(S.bh d c dir n).1=S.aC k:=by
   unfold Fs.bh at h0⊢
   split
   ·rename_i h1;rw[if_pos h1] at h0;exact absurd (by decide) h0
   rename_i h1;rw[if_neg h1] at h0
   split
   ·rename_i h2;rw[if_pos h2] at h0;exact absurd h2 h0
   rename_i h2;rw[if_neg h2] at h0
   split
   ·rename_i h3;rw[if_pos h3] at h0;exact absurd (by decide) h0
   ·exact⟨_,rfl⟩
  obtain⟨k,hk⟩:=hk;exact rR h c _ _ [⟨ByteArray.empty,k⟩] [] _ _ _ (pL.start S N k ByteArray.empty) (by rw[List.map_singleton,List.map_singleton,hk])
def dH(r:List Sp×Option (Sp×Int)):List (Sp×Int):=r.1.map (fun x=>(x,0))++(match r.2 with|none=>[]|some p=>[p])
theorem Ch(x:Sp)(l:List Sp)(o:Option (Sp×Int)):dH (x::l,o)=(x,0)::dH (l,o):=by unfold dH;rw[List.map_cons,List.cons_append]
theorem Cg{S:Fs}{c:Cr}{f:Nat}{x:Sp}{t:List Sp}(he:(S.dn c x).2=0):dH (S.fh c (f+1) (x::t))=(x,0)::dH (S.fh c f ((S.dn c x).1++t)):=by
 rw[show S.fh c (f+1) (x::t)=(x::(S.fh c f ((S.dn c x).1++t)).1,(S.fh c f ((S.dn c x).1++t)).2) from by rw[Fs.fh,if_neg (by simpa using he)]];exact Ch _ _ _
theorem EA{S:Fs}{c:Cr}{f:Nat}{x:Sp}{t:List Sp}(he:(S.dn c x).2≠0):dH (S.fh c (f+1) (x::t))=[(x,(S.dn c x).2)]:=by
 rw[show S.fh c (f+1) (x::t)=([],some (x,(S.dn c x).2)) from by rw[Fs.fh,if_pos he]];rfl
theorem Ez{S:Fs}{c:Cr}{f:Nat}:dH (S.fh c f [])=[]:=by cases f<;>rfl
end
section
open Go.RowKit
theorem qG(s:ByteArray)(w:World)(hs:s.size≤100000) :
  Calls Tryz.prog 169 #[.string s] w fun e w'=>e=.returned (.bool (eD s.data.toList))∧Qi w w':=by
 have No:=Qf (qR s w (by omega));have hlp:=(i' 47 s.data.toList).1;have hlq:=(i' 47 s.data.toList).2;have hsz:s.data.toList.length=s.size:=Array.length_toList;have HL:=Qf (EM s.data.toList);have HS:=Qf (show eD s.data.toList=(gK s.data.toList==[]||gK s.data.toList==[46]||gK s.data.toList==[46,46]) from rfl);generalize eD s.data.toList=r at HS⊢;generalize gK s.data.toList=t at HL HS;generalize ku 47 s.data.toList=ls at No hlp hlq HL;go_enter Tryz.func169,Tryz.ntmps169;go_wp2_with fail;refine No.o.mono ?_;rintro e w1 ⟨⟨g,cap,rfl,hO⟩,av⟩;obtain⟨g',hg',hgl,hcl⟩:=hO.at' (ls.length-1) (by omega);injection hg' with hg';injection hg' with e1;subst e1;have hlast:ls[ls.length-1]=t:=by
  have h1:=HL.o;rw[List.getLast?_eq_getElem?,List.getElem?_eq_getElem (by omega)] at h1;injection h1
 rw[hlast] at hcl;have HT:=Qf (show(str t).toList=t by rw[bG,dP]);have HB:=Qf av;have hz:(0:Int)≤(ls.length:Int)-1∧(ls.length:Int)-1<(ls.length:Int)∧((ls.length:Int)-1).toNat=ls.length-1:=by omega
 obtain⟨ee,et,hz3⟩:=hz;have hwr:IntKind.i64.wrap ((ls.length:Int)-1)=(ls.length:Int)-1:=by rw[IntKind.wrap_i64];omega
 generalize str t=q at hcl HT;clear hO av hlast;by_cases h1:t=[]
 ·have hq:q.toList=[]:=by rw[HT.o];exact h1
  have hr:r=true:=by rw[HS.o,h1];rfl
  subst hr;go_wp2_with fail;go_ret;exact⟨rfl,HB.o⟩
 ·have hq:q.toList.isEmpty=false:=by rw[HT.o];simpa using h1
  by_cases h2:t=[46]
  ·have xJ:(q.toList==[46])=true:=by rw[HT.o,h2];rfl
   have hr:r=true:=by rw[HS.o,h2];rfl
   subst hr;go_wp2_with fail;go_ret;exact⟨rfl,HB.o⟩
  ·have xJ:(q.toList==[46])=false:=by rw[HT.o];simpa using h2
   by_cases h3:t=[46,46]
   ·have Oi:(q.toList==[46,46])=true:=by rw[HT.o,h3];rfl
    have hr:r=true:=by rw[HS.o,h3];rfl
    subst hr;go_wp2_with fail;go_ret;exact⟨rfl,HB.o⟩
   ·have Oi:(q.toList==[46,46])=false:=by rw[HT.o];simpa using h3
    have hr:r=false:=by rw[HS.o];simp[h1,h2,h3]
    subst hr;clear h1 h2 h3;go_wp2_with fail;go_ret;exact⟨rfl,HB.o⟩
theorem aM{tmps:Array Value}{W:World}{B:Nat}{x:Fd}{e:Int}(hb:aw W B #[.int .i64 x.dir,.string x.name,.int .i64 x.no,.bool x.Bb] 176)
  (h8:tmps.getD 8 undef=.pointer (some ⟨B,0,none⟩)) (h9:tmps.getD 9 undef=.int .i64 e):(results Tryz.f131 tmps).run Tryz.prog W=.ok (.tuple #[x.v,.int .i64 e]) W:=by
 have q0:=hb.cell 0;have q1:=hb.cell 1;have q2:=hb.cell 2;have q3:=hb.cell 3;rw[Array.getD_eq_getD_getElem?] at h8 h9;simp only[List.getElem?_toArray,List.getElem?_cons_zero,List.getElem?_cons_succ] at q0 q1 q2 q3;simp[results,Tryz.results131,go_sem,Fd.v,h8,h9,q0,q1,q2,q3]
def nZ:Value→Nat | .slice _ n _=>n|_=>0
end
end Go.Proofs.YtabbjaomlmnnhaaGreat
