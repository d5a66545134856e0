import Derived.Test.YtinflmadpnigfaaGreatDoorDY22
import Derived.Test.YtinflmadpnigfaaGreatDoorDY12
import Derived.Test.YtinflmadpnigfaaGreatDoorDY15
set_option linter.unusedVariables false
set_option linter.unusedSimpArgs false
set_option maxRecDepth 100000
set_option maxHeartbeats 16000000
namespace Go.Proofs.YtinflmadpnigfaaGreatDoor
section
open Go.RowKit
section
variable{S:Fs}{it:It}{x:Fd}{e:Int}
theorem AN(hx:S.path bQ it.path false=(x,e))(h:e≠0):cm S it=(S,0):=by unfold cm;rw[hx];simp only;rw[if_pos h]
theorem AL(hx:S.path bQ it.path false=(x,e))(h:e=0)(h0:x.no≠0)(h1:it.kind=1)(h2:S.kindOf x.no=1):cm S it=(S,x.no):=by unfold cm;rw[hx];simp only;rw[if_neg (by simp[h]),if_pos h0,if_pos ⟨h1,h2⟩]
theorem pG(hx:S.path bQ it.path false=(x,e))(h:e=0)(h0:x.no≠0)(h1:¬(it.kind=1∧S.kindOf x.no=1)):cm S it=(S,0):=by unfold cm;rw[hx];simp only;rw[if_neg (by simp[h]),if_pos h0,if_neg h1]
theorem AM(hx:S.path bQ it.path false=(x,e))(h:e=0)(h0:x.no=0):cm S it =
  (if it.kind=1 then((S.br bQ 0 x.dir x.name 493).1,(S.br bQ 0 x.dir x.name 493).2.1)
 else if it.kind=2 then((S.file bQ 0 x.dir x.name 420 it.data).1,(S.file bQ 0 x.dir x.name 420 it.data).2.1)
 else if it.kind=3 then((S.sym bQ 0 x.dir x.name it.data).1,(S.sym bQ 0 x.dir x.name it.data).2.1)
 else if it.kind=4 then
  (if(S.path bQ it.data false).2=0 then((S.eL bQ 0 (S.path bQ it.data false).1.no x.dir x.name).1,0) else(S,0))
 else(S,0)):=by unfold cm;rw[hx];simp only;rw[if_neg (by simp[h]),if_neg (by simp[h0])]
theorem Fm(S:Fs)(k:Int):∃y0 y1 y2 y3 y4 y5 y6 y7 y8 y9:Int,LH (S.get k)=.agg #[.int .i64 y0,.int .i64 y1,.int .i64 y2,.int .i64 y3,.int .i64 y4,.int .i64 y5,.int .i64 y6,.int .i64 y7,.int .i64 y8,.int .i64 y9]∧y2=S.kindOf k:=by
 unfold Fs.kindOf
 cases S.get k with
 |none=>exact⟨_,_,_,_,_,_,_,_,_,_,rfl,rfl⟩
 |some a=>exact⟨_,_,_,_,_,_,_,_,_,_,rfl,rfl⟩
end
section
variable{w w':World}{pf pw:Nat}{R:Rp}{pv:Value}{Y:Sy}
theorem Fv(h:bK w pf pw R pv Y){N:Nat}(hk:av Y.fs N)(hN:N≤999990)(hc:Calm Y)(hcc:Y.count≤4000000)(it:It)(hp:it.path.size≤100000)(hd:it.data.size≤100000) :
  Calls Tryz.prog 93 #[.pointer (some ⟨pf,0,none⟩),.agg #[.string it.path,.int .i64 it.kind,.int .i64 it.mode,.int .i64 it.uid,.int .i64 it.gid,.int .i64 it.mtime,.string it.data]] w fun e w'=>e=.returned (.int .i64 (cm Y.fs it).2)∧ft w w' pf pw R pv Y (cm Y.fs it).1 1:=by
 have HY:=Um h;have HK:=Um hk;have HC:=Um hc;have HF:=Um (fun w1 (ar:Up w w1)=>mZ (h.ak ar) hk (by omega) hc.dead bQ it.path hp false);have kC:=Um (wv hk bQ it.path (by omega) false);generalize hx:Y.fs.path bQ it.path false=x at HF kC;obtain⟨⟨xd,xn,xk,xs⟩,xe⟩:=x;have Li:=Um hx;unfold Fd.v at HF;obtain⟨y0,y1,y2,y3,y4,y5,y6,y7,y8,y9,hst,A5⟩:=Fm Y.fs xk;have gr:=Um (fun w1 (ar:Up w w1)=>qx (h.ak ar) hk hc.dead xk);rw[hst] at gr;have HKo:=Um A5;obtain⟨Ta,bO⟩:=Uo w #[.string it.path,.int .i64 it.kind,.int .i64 it.mode,.int .i64 it.uid,.int .i64 it.gid,.int .i64 it.mtime,.string it.data] 113;clear h hk hc hx hst A5;go_enter Tryz.func93,Tryz.ntmps93;go_wp2_with fail;refine(HF.o _ bO).mono ?_;rintro e w1 ⟨rfl,ar⟩;have Ou:=(Ta.ak ar).eE (.cells #[.int .i64 xd,.string xn,.int .i64 xk,.bool xs] 140);have so:=au.new w1 #[.int .i64 xd,.string xn,.int .i64 xk,.bool xs] 140;have ax:=al (ao bO ar) (.cells #[.int .i64 xd,.string xn,.int .i64 xk,.bool xs] 140);clear Ta bO ar;go_upto_region 2 with fail;generalize w1.alloc _=X at Ou so ax⊢;have Rq:=Um Ou;have NX:=Um so;have aJ:=Um ax;obtain⟨xc,xf,xz⟩:=so.facts;clear Ou so ax;go_wp2_with fail;refine(gr.o _ aJ.o).mono ?_;rintro e w2 ⟨rfl,aD⟩;have hI2:=(Rq.o.ak aD).eE (.cells #[.int .i64 y0,.int .i64 y1,.int .i64 y2,.int .i64 y3,.int .i64 y4,.int .i64 y5,.int .i64 y6,.int .i64 y7,.int .i64 y8,.int .i64 y9] 91);have jO:=(NX.o.ak aD).eE (.cells #[.int .i64 y0,.int .i64 y1,.int .i64 y2,.int .i64 y3,.int .i64 y4,.int .i64 y5,.int .i64 y6,.int .i64 y7,.int .i64 y8,.int .i64 y9] 91);have jR:=au.new w2 #[.int .i64 y0,.int .i64 y1,.int .i64 y2,.int .i64 y3,.int .i64 y4,.int .i64 y5,.int .i64 y6,.int .i64 y7,.int .i64 y8,.int .i64 y9] 91;have wZ:=al (ao aJ.o aD) (.cells #[.int .i64 y0,.int .i64 y1,.int .i64 y2,.int .i64 y3,.int .i64 y4,.int .i64 y5,.int .i64 y6,.int .i64 y7,.int .i64 y8,.int .i64 y9] 91);clear aD xc xf xz;go_upto_region 3 with fail;generalize w2.alloc _=Z at hI2 jO jR wZ⊢;have HI2:=Um hI2;have lZ:=Um jO;have jX:=Um wZ;have HYZ:=Um (HY.o.ak wZ);obtain⟨ic,if',iz⟩:=hI2.facts;obtain⟨xc,xf,xz⟩:=jO.facts;obtain⟨sc,sf,sz⟩:=jR.facts;clear hI2 jO jR wZ;by_cases he:xe=0
 ·have heb:(xe != 0)=false:=by simpa using he
  subst he;by_cases hno:xk=0
  ·have hnb:(xk != 0)=false:=by simpa using hno
   have HN:=Um (AM Li.o rfl hno);dsimp only at HN;clear hno;by_cases k1:it.kind=1
   ·have k1b:(it.kind==1)=true:=by simpa using k1
    have HQ:=Um k1;clear k1;have HE:=Um (HN.o.trans (if_pos HQ.o));have HM:=Um (tf HYZ.o HK.o (by omega) ⟨HC.o.c0,by omega⟩ (by rw[HC.o.bD];exact Nat.zero_le _) bQ xd xn 493 (by have h9:xn.size≤1048576:=kC.o;omega));rw[HC.o.op] at HM;dsimp only at HM;go_wp2_with fail;refine HM.o.mono ?_;rintro e w5 ⟨rfl,R5,Kk,eu⟩;have HX:=Um (ag Kk ((aL.aq (F:=R.Y pf pw) jX.o).trans eu));clear Kk eu;go_wp2_with fail;go_ret;rw[HE.o];exact⟨rfl,R5,_,HX.o.1,rfl,HC.o.next _,by show Y.count+1≤_;omega,HX.o.2⟩
   have k1b:(it.kind==1)=false:=by simpa using k1
   have HN1:=Um (HN.o.trans (if_neg k1));clear k1 HN;by_cases k2:it.kind=2
   ·have k2b:(it.kind==2)=true:=by simpa using k2
    have HQ:=Um k2;clear k2;have HE:=Um (HN1.o.trans (if_pos HQ.o));have HM:=Um (rI HYZ.o HK.o (by omega) ⟨HC.o.c0,by omega⟩ (by rw[HC.o.bD];exact Nat.zero_le _) bQ xd xn 420 it.data (by have h9:xn.size≤1048576:=kC.o;omega) (by omega));rw[HC.o.op] at HM;dsimp only at HM;go_wp2_with fail;refine HM.o.mono ?_;rintro e w5 ⟨rfl,R5,Kk,eu⟩;have HX:=Um (ag Kk ((aL.aq (F:=R.Y pf pw) jX.o).trans eu));clear Kk eu;go_wp2_with fail;go_ret;rw[HE.o];exact⟨rfl,R5,_,HX.o.1,rfl,HC.o.next _,by show Y.count+1≤_;omega,HX.o.2⟩
   have k2b:(it.kind==2)=false:=by simpa using k2
   have zw:=Um (HN1.o.trans (if_neg k2));clear k2 HN1;by_cases k3:it.kind=3
   ·have k3b:(it.kind==3)=true:=by simpa using k3
    have HQ:=Um k3;clear k3;have HE:=Um (zw.o.trans (if_pos HQ.o));have HM:=Um (IS HYZ.o HK.o (by omega) ⟨HC.o.c0,by omega⟩ (by rw[HC.o.bD];exact Nat.zero_le _) bQ xd xn it.data (by have h9:xn.size≤1048576:=kC.o;omega) (by omega));rw[HC.o.op] at HM;dsimp only at HM;go_wp2_with fail;refine HM.o.mono ?_;rintro e w5 ⟨rfl,R5,Kk,eu⟩;have HX:=Um (ag Kk ((aL.aq (F:=R.Y pf pw) jX.o).trans eu));clear Kk eu;go_wp2_with fail;go_ret;rw[HE.o];exact⟨rfl,R5,_,HX.o.1,rfl,HC.o.next _,by show Y.count+1≤_;omega,HX.o.2⟩
   have k3b:(it.kind==3)=false:=by simpa using k3
   have Qo:=Um (zw.o.trans (if_neg k3));clear k3 zw;by_cases k4:it.kind=4
   ·have k4b:(it.kind==4)=true:=by simpa using k4
    have Rj:=Um (Qo.o.trans (if_pos k4));have Ob:=Um (mZ HYZ.o HK.o (by omega) HC.o.dead bQ it.data hd false);generalize Y.fs.path bQ it.data false=y at Ob Rj;obtain⟨⟨yd,yn,yk,ys⟩,ye⟩:=y;unfold Fd.v at Ob;dsimp only at Rj;clear k4 Qo;go_wp2_with fail;refine Ob.o.mono ?_;rintro e w3 ⟨rfl,bJ⟩;have iJ:=(lZ.o.ak bJ).eE (.cells #[.int .i64 yd,.string yn,.int .i64 yk,.bool ys] 140);have hV3:=au.new w3 #[.int .i64 yd,.string yn,.int .i64 yk,.bool ys] 140;have vD:=al (ao jX.o bJ) (.cells #[.int .i64 yd,.string yn,.int .i64 yk,.bool ys] 140);clear bJ ic if' iz xc xf xz sc sf sz;go_upto_region 19 with fail;generalize w3.alloc _=V at iJ hV3 vD⊢;have HBV:=Um vD;have HYV:=Um (HY.o.ak vD);obtain⟨xc,xf,xz⟩:=iJ.facts;obtain⟨vc,vf,vz⟩:=hV3.facts;clear iJ hV3 vD;by_cases hye:ye=0
    ·have hyb:(ye==0)=true:=by simpa using hye
     have HE:=Um (Rj.o.trans (if_pos hye));have HM:=Um (Fx HYV.o HK.o (by omega) ⟨HC.o.c0,by omega⟩ (by rw[HC.o.bD];exact Nat.zero_le _) bQ yk xd xn (by have h9:xn.size≤1048576:=kC.o;omega));rw[HC.o.nt] at HM;dsimp only at HM;clear hye;go_wp2_with fail;refine HM.o.mono ?_;rintro e w5 ⟨rfl,R5,Kk,eu⟩;have HX:=Um (ag Kk ((aL.aq (F:=R.Y pf pw) HBV.o).trans eu));clear Kk eu;go_wp2_with fail;go_ret;rw[HE.o];exact⟨rfl,R5,_,HX.o.1,rfl,HC.o.next _,by show Y.count+1≤_;omega,HX.o.2⟩
    ·have hyb:(ye==0)=false:=by simpa using hye
     have HE:=Um (Rj.o.trans (if_neg hye));clear hye;go_wp2_with fail;go_ret;rw[HE.o];exact⟨rfl,(ft.same HY.o HC.o HBV.o).mono (by omega)⟩
   have k4b:(it.kind==4)=false:=by simpa using k4
   have Rj:=Um (Qo.o.trans (if_neg k4));clear k4 Qo;have HE:=Um (Rj.o);go_wp2_with fail;go_ret;rw[HE.o];exact⟨rfl,(ft.same HY.o HC.o jX.o).mono (by omega)⟩
  ·have hnb:(xk != 0)=true:=by simpa using hno
   by_cases k1:it.kind=1
   ·have k1b:(it.kind==1)=true:=by simpa using k1
    by_cases k2:y2=1
    ·have k2b:(y2==1)=true:=by simpa using k2
     have HQ:=Um (AL Li.o rfl hno k1 (by rw[←HKo.o];exact k2));clear hno k1 k2;have HE:=Um (HQ.o);go_wp2_with fail;go_ret;rw[HE.o];exact⟨rfl,(ft.same HY.o HC.o jX.o).mono (by omega)⟩
    ·have k2b:(y2==1)=false:=by simpa using k2
     have HQ:=Um (pG Li.o rfl hno (fun h=>k2 (by rw[HKo.o];exact h.2)));clear hno k1 k2;have HE:=Um (HQ.o);go_wp2_with fail;go_ret;rw[HE.o];exact⟨rfl,(ft.same HY.o HC.o jX.o).mono (by omega)⟩
   ·have k1b:(it.kind==1)=false:=by simpa using k1
    have HQ:=Um (pG Li.o rfl hno (fun h=>k1 h.1));clear hno k1;have HE:=Um (HQ.o);go_wp2_with fail;go_ret;rw[HE.o];exact⟨rfl,(ft.same HY.o HC.o jX.o).mono (by omega)⟩
 ·have heb:(xe != 0)=true:=by simpa using he
  have HQ:=Um (AN Li.o he);clear he;have HE:=Um (HQ.o);go_wp2_with fail;go_ret;rw[HE.o];exact⟨rfl,(ft.same HY.o HC.o jX.o).mono (by omega)⟩
end
end
section
open Go.RowKit
def KD(k:Int):List Value:=[.int .i64 k]
theorem KC(k:Int):(KD k).length=1:=rfl
def OI(w:World)(base:Nat)(v:Value)(l:List Int):Prop:=w.ownsRow base 3 1 v l.length (l.flatMap KD)
theorem JX:(Tryz.prog.info? 3).map (fun i=>(i.zero,i.size,i.bytes))=some (some (.int .i64 0),1,8):=by kernel_rfl
theorem OI.app{w:World}{base:Nat}{v:Value}{l:List Int}(h:OI w base v l)(k:Int)(hl:l.length≤1000000)(hb:base≤w.heap.size) :
  ∃g cap W,(Builtin.append_ #[172,172] 172 #[v,.slice (some ⟨w.heap.size,0,none⟩) 1 1]).run Tryz.prog (w.alloc (.cells #[.int .i64 k] 3))=.ok (.slice (some ⟨g,0,none⟩) (l.length+1) cap) W∧
   OI W base (.slice (some ⟨g,0,none⟩) (l.length+1) cap) (l++[k])∧Mod (fun j=>v.ownBlock=some j) w W:=by
 obtain⟨i0,hi,iU,gx,fT⟩:=info_parts JX;have ho:=World.ownsRow.alloc h (.cells #[.int .i64 k] 3);obtain⟨g,cap,W,h1,h2,h3,h4⟩:=cX 172 Tryz.underlying172 hi iU gx fT rfl (by omega) ho ⟨w.heap.size,0,none⟩ 1 1 [.int .i64 k] rfl (World.news_of_block (au.new w #[.int .i64 k] 3)) (by intro u hu;simp at hu;subst hu;rfl) (by omega) (by unfold maxLen;omega) (by omega) (by simp;omega);refine⟨g,cap,W,h1,?_,((Mod.refl (fun j=>v.ownBlock=some j) w).alloc (.cells #[.int .i64 k] 3)).trans h3⟩;unfold OI;rw[List.length_append,List.length_singleton,List.flatMap_append];exact h2
theorem OI.cell{w:World}{base g cap:Nat}{l:List Int}(h:OI w base (.slice (some ⟨g,0,none⟩) l.length cap) l)(k:Nat)(hk:k<l.length):w.cell? ⟨g,k,none⟩=some (.int .i64 l[k]):=by
 obtain⟨-,-,-,h0|⟨b,off,he,hb,hel⟩⟩:=bW (R:=fun cs x=>cs=KD x) (by omega) KC (fun _=>rfl) h
 ·omega
 ·injection he with he;injection he with e1 e2;subst e1 e2;obtain⟨cs,h1,h2,h3⟩:=hel k hk;subst h2;have:=h3 0 (by simp[KD]);simpa [KD] using this
section
variable{w w':World}{pf pw:Nat}{R:Rp}{pv:Value}{Y:Sy}
theorem OI.sy{base:Nat}{v:Value}{l:List Int}(ho:OI w base v l)(h:bK w pf pw R pv Y){F':Nat→Prop}(hs:aL (R.Y pf pw) F' w w'):OI w' base v l:=
 bq ho hs.mod (fun k hk he=>by
  obtain⟨-,cur,hc⟩:=aT ho he;have hb:au w k cur 3:=hc;rcases hk with rfl|hk
  ·have h1:=h.bd;unfold au at hb h1;rw[hb] at h1
   cases h1
  ·obtain⟨o,ho,hd⟩:=h.wd.kind hk;rw[hc] at ho;injection ho with ho;subst ho
   cases hd)
theorem bK.oi(h:bK w pf pw R pv Y){base:Nat}{v:Value}{l:List Int}(ho:OI w base v l)(hm:Mod (fun j=>v.ownBlock=some j) w w'):bK w' pf pw R pv Y:=by
 refine⟨h.bd.mod hm (fun e=>?_),h.wd.mod hm (fun k o hk ig=>?_),bq h.bD hm (fun k hk he=>?_)⟩
 ·obtain⟨-,cur,hc⟩:=aT ho e;have hq:=h.bd;unfold au at hq;rw[hc] at hq
  cases hq
 ·obtain⟨-,cur,hc⟩:=aT ho hk;rw[hc] at ig;injection ig with ig;subst ig;exact⟨rfl,fun cur e=>by cases e⟩
 ·obtain⟨-,cur,hc⟩:=aT ho hk;obtain⟨-,cur2,eh⟩:=aT h.bD he;rw[hc] at eh
  cases eh
structure kx(w wr:World)(pf pw:Nat)(pv:Value)(S:Fs)(n:Int):Prop where
 st:∃R Y,bK wr pf pw R pv Y∧Y.fs=S∧Calm Y∧Y.count≤n∧∀k,R.Y pf pw k→w.heap.size≤k
 below:Up w wr
theorem kx.ak{wr:World}{S:Fs}{n:Int}(h:kx w wr pf pw pv S n)(hb:Up wr w'):kx w w' pf pw pv S n:=by
 obtain⟨⟨R,Y,h1,h2,h3,h4,h5⟩,h6⟩:=h;exact⟨⟨R,Y,h1.ak hb,h2,h3,h4,h5⟩,ao h6 hb⟩
theorem kx.mono{wr:World}{S:Fs}{n n':Int}(h:kx w wr pf pw pv S n)(hn:n≤n'):kx w wr pf pw pv S n':=by
 obtain⟨⟨R,Y,h1,h2,h3,h4,h5⟩,h6⟩:=h;exact⟨⟨R,Y,h1,h2,h3,by omega,h5⟩,h6⟩
theorem kx.of{wr:World}{S:Fs}{n d:Int}(hb:Up w wr)(hc:Y.count≤n)(hF:∀k,R.Y pf pw k→w.heap.size≤k)(h:ft wr w' pf pw R pv Y S d):kx w w' pf pw pv S (n+d):=by
 obtain⟨R',Z,h1,h2,h3,h4,h5⟩:=h;refine⟨⟨R',Z,h1,h2,h3,by omega,fun k hk=>?_⟩,hb.trans (h5.below hF hb.size)⟩;exact h5.aQ hF hb.size k hk
end
theorem kx.oi{w wr w':World}{pf pw:Nat}{pv:Value}{S:Fs}{n:Int}(h:kx w wr pf pw pv S n){v:Value}{l:List Int}(ho:OI wr w.heap.size v l)(hm:Mod (fun j=>v.ownBlock=some j) wr w'):kx w w' pf pw pv S n:=by
 obtain⟨⟨R,Y,h1,h2,h3,h4,h5⟩,h6⟩:=h;exact⟨⟨R,Y,h1.oi ho hm,h2,h3,h4,h5⟩,h6.trans (hm.below (fun k hk=>(aT ho hk).1) h6.size)⟩
theorem au.oi{w w':World}{B base:Nat}{vs:Array Value}{T:TypeId}{v:Value}{l:List Int}(hb:au w B vs T)(ho:OI w base v l)(hm:Mod (fun j=>v.ownBlock=some j) w w')(hT:T≠3):au w' B vs T:=
 hb.mod hm (fun he=>by
  obtain⟨-,cur,hc⟩:=aT ho he;unfold au at hb;rw[hb] at hc;injection hc with hc;injection hc with hc e;exact hT e)
theorem pK(S:Fs)(l:List Mt)(m:Mt):aO S (l++[m])=if m.path=jy then aO S l else bT (aO S l) m:=by
 rw[AQ];rfl
theorem rT(S:Fs)(l:List It)(x:It):aX S (l++[x])=((ek (aX S l).1 x).1,(aX S l).2++[(ek (aX S l).1 x).2]):=by
 rw[Dj];rfl
theorem rD(S:Fs)(l:List (It×Int))(x:It×Int):bS S (l++[x])=if x.2≠0 then((bS S l).cQ bQ 0 x.2 x.1.mtime).1 else bS S l:=by
 rw[Cz];rfl
theorem F4(w:World){ma:Option Addr}{mn mc:Nat}{ia:Option Addr}{il ic:Nat}{ms:List Mt}{is:List It}(h:oW w ma mn mc ia il ic ms is)(hml:ms.length≤100000)(hil:is.length≤100000)
  (hmp:∀m∈ms,m.path.size≤100000) (hip:∀x∈is,x.path.size≤100000∧x.data.size≤100000) :
  Calls Tryz.prog 56 #[.agg #[.slice ma mn mc,.slice ia il ic]] w fun e w'=>∃pf pw R pv Y,e=.returned (.pointer (some ⟨pf,0,none⟩))∧bK w' pf pw R pv Y∧Y=⟨dS ms is,0,0,[],false⟩∧(∀k,R.Y pf pw k→w.heap.size≤k)∧Up w w':=by
 have HS:=Um h;have HL:=Um (zU (w.alloc (.cells #[.slice ma mn mc,.slice ia il ic] 25)) (h.ak ((Below.refl _ w).alloc (aa _) _)));have HN:=Um (fun w=>IU (aS ms).1 (aS ms).2 (qJ ms) w);have HMp:=Um hmp;have HIp:=Um hip;have hln:=h.m.1;have hli:=h.i.1;subst hln hli;obtain⟨pR,bO⟩:=Uo w #[.slice ma ms.length mc,.slice ia is.length ic] 25;have ky:=Um (show dS ms is=bS (aX (aO (sK.aF 0 (aS ms).1 (aS ms).2) ms) is).1 (is.zip (aX (aO (sK.aF 0 (aS ms).1 (aS ms).2) ms) is).2) from rfl);have kD:=Um (av.new (aS ms).1 (aS ms).2);unfold sy0 at HN;generalize sK.aF 0 (aS ms).1 (aS ms).2=S0 at HN ky kD;generalize (aS ms).1=lb at HL HN;generalize (aS ms).2=ln at HL HN;clear h hmp hip;go_enter Tryz.func56,Tryz.ntmps56;go_wp2_with fail;refine HL.o.mono ?_;rintro e w1 ⟨rfl,ar⟩;have gm:=pR.ak ar;have Dx:=ao bO ar;clear pR bO ar;go_wp2_with fail;refine(HN.o _).mono ?_;rintro e w2 ⟨pf,pw,R0,rfl,hY0,aD,Te⟩;have eM:=gm.ak aD;have PG:kx w w2 pf pw (.slice none 0 0) S0 0:=⟨⟨R0,_,hY0,rfl,⟨rfl,rfl,rfl,by show(0:Int)≤0;omega⟩,by show(0:Int)≤0;omega,fun k hk=>ae Dx.size (Te k hk)⟩,ao Dx aD⟩;have OJ:=Um PG;have cV:=Um eM;obtain⟨bc,bf,bz⟩:=eM.facts;clear gm Dx hY0 aD Te eM PG;go_wp2_with fail
 go_loopw [26] (fun t26 wr=>∃k:Nat,k≤ms.length∧t26=.int .i64 k∧kx w wr pf pw (.slice none 0 0) (aO S0 (ms.take k)) k∧au wr w.heap.size #[.slice ma ms.length mc,.slice ia is.length ic] 25) (fun t26 _=>ms.length-(intOf t26).toNat)
 case atStart=>exact⟨0,Nat.zero_le _,rfl,OJ.o,cV.o⟩
 case round=>
  obtain⟨k,hk,rfl,hP,hB⟩:=hrel;have HP:=Um hP;have HB:=Um hB;clear bc bf bz;obtain⟨bc,bf,bz⟩:=hB.facts;have hbw:=hP.below;clear hP hB;by_cases hlt:k<ms.length
  ·obtain⟨b,off,rfl,hbl⟩:=eo HS.o.m (by omega);obtain⟨c0,c1,c2⟩:=mu (HS.o.m.below hbw (aa _)) k hlt;have HQ:=Um (show aO S0 (ms.take (k+1))=if ms[k].path=jy then aO S0 (ms.take k) else bT (aO S0 (ms.take k)) ms[k] by rw[List.take_succ_eq_append_getElem hlt,pK]);have jU:=Um (HMp.o ms[k] (List.getElem_mem hlt));have jL:=Um (show av (aO S0 (ms.take k)) (1+2*k) by
    have:=fF kD.o (ms.take k)
    rwa [List.length_take,Nat.min_eq_left hk] at this)
   generalize ms[k]=m at c0 c1 c2 HQ jU;generalize jR:aO S0 (ms.take (k+1))=S2 at HQ;have o4:=Um jR;clear jR;generalize SU:aO S0 (ms.take k)=Sk at HQ HP jL;have HSk:=Um SU;have hX:=au.new wr #[.string m.path,.int .i64 m.b,.int .i64 m.n] 111;have ax:=(Below.refl _ wr).alloc (aa _) (.cells #[.string m.path,.int .i64 m.b,.int .i64 m.n] 111);clear SU hbw;go_upto_region 7 with fail;generalize wr.alloc _=X at hX ax⊢;have aJ:=Um (HB.o.ak ax);have N4:=Um (HP.o.ak ax);obtain⟨xc,xf,xz⟩:=hX.facts;clear hX ax c0 c1 c2;by_cases h1:m.path=jy
   ·have Q7:m.path.toList=[47]:=by rw[h1,aC];rfl
    have HE:=Um (HQ.o.trans (if_pos h1));clear h1;go_wp2_with fail;go_roundw
    case rel=>exact⟨k+1,by omega,by go_num,by rw[show aO S0 (ms.take (k+1))=Sk from by rw[o4.o];exact HE.o];exact N4.o.mono (by omega),aJ.o⟩
    case measure=>simp[intOf];omega
   ·have Q7:(m.path.toList==[47])=false:=by
     rw[aC];simp only[beq_eq_false_iff_ne,ne_eq];exact fun e=>h1 (p' e)
    have HE:=Um (HQ.o.trans (if_neg h1));obtain⟨⟨R,Y,hY,hfs,hcl,hcn,hF⟩,hbw⟩:=N4.o;have HM:=Um (CM hY (N:=1+2*k) (by rw[hfs];exact jL.o) (by omega) hcl (by omega) m jU.o);rw[hfs] at HM;have HW:=Um (ag hY (ag hcn (ag hF hbw)));clear h1 hY hfs hcl hcn hF hbw;go_wp2_with fail;refine HM.o.mono ?_;rintro e w5 ⟨rfl,DD⟩;obtain⟨hY,hcn,hF,hbw⟩:=HW.o;have LM:=kx.of hbw hcn hF DD;obtain⟨R',Z,-,-,-,-,z5⟩:=DD;have hZ:=Um (aJ.o.sy hY z5 rfl (by decide));have HP5:=Um LM;clear LM z5 hY hcn hF hbw;go_wp2_with fail;go_roundw
    case rel=>exact⟨k+1,by omega,by go_num,by rw[show aO S0 (ms.take (k+1))=bT Sk m from by rw[o4.o];exact HE.o];exact HP5.o.mono (by omega),hZ.o⟩
    case measure=>simp[intOf];omega
  ·obtain rfl:k=ms.length:=by omega
   rw[List.take_length] at HP;have za:=Um (fF kD.o ms);generalize aO S0 ms=S1 at HP za ky;have SX:OI (wr.alloc (.cells #[] 3)) w.heap.size (.slice (some ⟨wr.heap.size,0,none⟩) 0 0) []:=⟨rfl,.inr ⟨wr.heap.size,0,#[],rfl,HP.o.below.size,au.new _ _ _,aa _,by unfold maxLen;omega,rfl,rfl⟩⟩;have hP1:=HP.o.ak ((Below.refl _ wr).alloc (aa _) (.cells #[] 3));have gm:=HB.o.eE (.cells #[] 3);have Is:=Um SX;have Rh:=Um hP1;have cM:=Um gm;clear SX hP1 gm hbw;go_wp2_with fail;generalize wr.alloc _=W1 at Is Rh cM⊢;generalize wr.heap.size=hmade at Is⊢
   go_loopw [41,7] (fun t41 t7 wr=>∃(k:Nat) (a:Option Addr) (c:Nat),k≤is.length∧t41=.int .i64 k∧t7=.slice a k c∧OI wr w.heap.size (.slice a k c) (aX S1 (is.take k)).2∧kx w wr pf pw (.slice none 0 0) (aX S1 (is.take k)).1 (ms.length+3*k)∧au wr w.heap.size #[.slice ma ms.length mc,.slice ia is.length ic] 25) (fun t41 _ _=>is.length-(intOf t41).toNat)
   case atStart=>exact⟨0,_,_,Nat.zero_le _,rfl,rfl,Is.o,Rh.o.mono (by omega),cM.o⟩
   case round=>
    obtain⟨k,a,c,hk,rfl,rfl,hO,hP,hB⟩:=hrel;have HO:=Um hO;have HP:=Um hP;have HB:=Um hB;clear bc bf bz;obtain⟨bc,bf,bz⟩:=hB.facts;have hbw:=hP.below;clear hP hB hO;by_cases hlt:k<is.length
    ·obtain⟨b,off,rfl,hbl⟩:=eo HS.o.i (by omega);obtain⟨c0,c1,c2,c3,c4,c5,c6⟩:=mA (HS.o.i.below hbw (aa _)) k hlt;have HQ:=Um (show aX S1 (is.take (k+1))=((ek (aX S1 (is.take k)).1 is[k]).1,(aX S1 (is.take k)).2++[(ek (aX S1 (is.take k)).1 is[k]).2]) by rw[List.take_succ_eq_append_getElem hlt,rT]);have jU:=Um (HIp.o is[k] (List.getElem_mem hlt));have jL:=Um (show av (aX S1 (is.take k)).1 (1+2*ms.length+k) by
      have:=jt za.o (is.take k)
      rwa [List.length_take,Nat.min_eq_left hk] at this)
     have B0:=Um (show(aX S1 (is.take k)).2.length=k by rw[k8,List.length_take,Nat.min_eq_left hk]);generalize is[k]=it at c0 c1 c2 c3 c4 c5 c6 HQ jU;generalize aX S1 (is.take k)=Sk at HQ HP jL HO B0;obtain⟨Sk,Lk⟩:=Sk;have hX:=au.new wr #[.string it.path,.int .i64 it.kind,.int .i64 it.mode,.int .i64 it.uid,.int .i64 it.gid,.int .i64 it.mtime,.string it.data] 113;have ax:=(Below.refl _ wr).alloc (aa _) (.cells #[.string it.path,.int .i64 it.kind,.int .i64 it.mode,.int .i64 it.uid,.int .i64 it.gid,.int .i64 it.mtime,.string it.data] 113);clear hbw;go_upto_region 14 with fail;generalize wr.alloc _=X at hX ax⊢;have aJ:=Um (HB.o.ak ax);have N4:=Um (HP.o.ak ax);have LZ:=Um (bY HO.o ax (aa _));have Rq:=Um hX;obtain⟨xc,xf,xz⟩:=hX.facts;obtain⟨⟨R,Y,hY,hfs,hcl,hcn,hF⟩,hbw⟩:=N4.o;have HM:=Um (Fv hY (N:=1+2*ms.length+k) (by rw[hfs];exact jL.o) (by omega) hcl (by omega) it jU.o.1 jU.o.2);rw[hfs] at HM;have HW:=Um (ag hY (ag hcn (ag hF hbw)));have l3:=Um (tT jL.o it);have N7:=Um (show ek Sk it=if(cm Sk it).2≠0 then((((cm Sk it).1.cU bQ 0 (cm Sk it).2 it.uid it.gid).1.cL bQ 0 (cm Sk it).2 it.mode).1,(cm Sk it).2) else cm Sk it from rfl);clear hX ax c0 c1 c2 c3 c4 c5 c6 hY hfs hcl hcn hF hbw;go_wp2_with fail;refine HM.o.mono ?_;clear HM;rintro e w5 ⟨rfl,DD⟩;generalize cm Sk it=nd at DD l3 N7⊢;obtain⟨S5,no⟩:=nd;dsimp only at DD l3 N7⊢;obtain⟨hY,hcn,hF,hbw⟩:=HW.o;have LM:=kx.of hbw hcn hF DD;obtain⟨R',Z,-,-,-,-,z5⟩:=DD;have Im:=aJ.o.sy hY z5 rfl (by decide);have S9:=Rq.o.sy hY z5 rfl (by decide);have EF:OI w5 w.heap.size (.slice a Lk.length c) Lk:=by rw[B0.o];exact OI.sy (l:=Lk) LZ.o hY z5
     obtain⟨g,cap,W,hrun,PH,Nb⟩:=EF.app no (by rw[B0.o];omega) LM.below.size;have SV:=LM.oi EF Nb;have lW:=Im.oi EF Nb (by decide);have PN:=S9.oi EF Nb (by decide);rw[B0.o] at hrun PH;have vH:=Um hrun;have TQ:=Um SV;have vK:=Um lW;have HIW:=Um PN;have Ri:=Um PH;clear xc xf xz LM z5 hY hcn hF hbw Im S9 EF hrun PH Nb SV lW;obtain⟨xc,xf,xz⟩:=PN.facts;clear PN;by_cases hno:no=0
     ·have hnb:(no != 0)=false:=by simpa using hno
      have HE:=Um (N7.o.trans (if_neg (by simp[hno])));clear hno;go_wp2_with (at_builtin;refine aG rfl rfl rfl rfl vH.o ?_);go_roundw
      case rel=>
       refine⟨k+1,_,cap,by omega,by go_num,rfl,?_,?_,vK.o⟩
       ·rw[HQ.o,HE.o];exact Ri.o
       ·rw[HQ.o,HE.o];exact TQ.o.mono (by omega)
      case measure=>simp[intOf];omega
     ·have hnb:(no != 0)=true:=by simpa using hno
      have HE:=Um (N7.o.trans (if_pos hno));clear hno;obtain⟨⟨R,Y,hY,hfs,hcl,hcn,hF⟩,hbw⟩:=TQ.o;have HM:=Um (CQ hY (N:=1+2*ms.length+k+1) (by rw[hfs];exact l3.o) (by omega) ⟨hcl.c0,by omega⟩ (by rw[hcl.bD];exact Nat.zero_le _) bQ no it.uid it.gid);rw[hcl.nt,hfs] at HM;have HW:=Um (ag hY (ag hcn (ag hF (ag hbw hcl))));clear hY hfs hcl hcn hF hbw;go_wp2_with (at_builtin;refine aG rfl rfl rfl rfl vH.o ?_);refine HM.o.mono ?_;clear HM;rintro e w6 ⟨rfl,R6,ED,lV⟩;obtain⟨hY,hcn,hF,hbw,hcl⟩:=HW.o;have Il:=vK.o.sy hY lV rfl (by decide);have PO:=HIW.o.sy hY lV rfl (by decide);have Ik:=OI.sy Ri.o hY lV;have SW:=kx.of hbw hcn hF (⟨R6,_,ED,rfl,hcl.next _,(by show Y.count+1≤Y.count+1;omega),lV⟩:ft W w6 pf pw R (.slice none 0 0) Y _ 1);have HP6:=Um SW;have sP:=Um Il;have HI6:=Um PO;have HO6:=Um Ik;clear xc xf xz SW Il ED lV hY hcn hF hbw hcl Ik;obtain⟨xc,xf,xz⟩:=PO.facts;clear PO HW;obtain⟨⟨R,Y,hY,hfs,hcl,hcn,hF⟩,hbw⟩:=HP6.o;have HM:=Um (CR hY (N:=1+2*ms.length+k+1) (by rw[hfs];exact uN l3.o _ _ _ _ _) (by omega) ⟨hcl.c0,by omega⟩ (by rw[hcl.bD];exact Nat.zero_le _) bQ no it.mode);rw[hcl.nt,hfs] at HM;have HW:=Um (ag hY (ag hcn (ag hF (ag hbw hcl))));clear hY hfs hcl hcn hF hbw;go_wp2_with fail;refine HM.o.mono ?_;clear HM;rintro e w7 ⟨rfl,R7,Ot,qO⟩;obtain⟨hY,hcn,hF,hbw,hcl⟩:=HW.o;have sC:=Um (sP.o.sy hY qO rfl (by decide));have N5:=Um (OI.sy HO6.o hY qO);have Qi:=Um (kx.of hbw hcn hF (⟨R7,_,Ot,rfl,hcl.next _,(by show Y.count+1≤Y.count+1;omega),qO⟩:ft w6 w7 pf pw R (.slice none 0 0) Y _ 1));clear Ot qO hY hcn hF hbw hcl;go_wp2_with fail;go_roundw
      case rel=>
       refine⟨k+1,_,cap,by omega,by go_num,rfl,?_,?_,sC.o⟩
       ·rw[HQ.o,HE.o];exact N5.o
       ·rw[HQ.o,HE.o];exact Qi.o.mono (by omega)
      case measure=>simp[intOf];omega
    ·obtain rfl:k=is.length:=by omega
     rw[List.take_length] at HP HO;have Ll:=Um (jt za.o is);have rs:=Um (k8 S1 is);generalize aX S1 is=q at HP HO Ll ky rs;obtain⟨S2,made⟩:=q;dsimp only at ky;have Dp:made.length=is.length:=rs.o;clear hbw;go_wp2_with fail
     go_loopw [72] (fun t72 wr=>∃k:Nat,k≤is.length∧t72=.int .i64 k∧OI wr w.heap.size (.slice a is.length c) made∧kx w wr pf pw (.slice none 0 0) (bS S2 ((is.zip made).take k)) (ms.length+3*is.length+k)) (fun t72 _=>is.length-(intOf t72).toNat)
     case atStart=>exact⟨0,Nat.zero_le _,rfl,HO.o,HP.o.mono (by omega)⟩
     case round=>
      obtain⟨k,hk,rfl,hO,hP⟩:=hrel;have D7:=Um hO;have H9:=Um hP;have hbw:=hP.below;clear hP hO bc bf bz;by_cases hlt:k<is.length
      ·obtain⟨b,off,rfl,hbl⟩:=eo HS.o.i (by omega);obtain⟨c0,c1,c2,c3,c4,c5,c6⟩:=mA (HS.o.i.below hbw (aa _)) k hlt;have hkm:k<made.length:=by omega
       obtain⟨g,rfl⟩:∃g,a=some ⟨g,0,none⟩:=by
        obtain⟨a1,c1,e1,-,-,hf⟩:=bw D7.o;injection e1 with e1 e2 e3;rcases hf with⟨-,h0,-⟩|⟨g,hg,-,-⟩
        ·omega
        ·exact⟨g,e1.trans hg⟩
       have EG:OI wr w.heap.size (.slice (some ⟨g,0,none⟩) made.length c) made:=by rw[Dp];exact D7.o
       have hgl:=(cd EG).2.2;have hmc:wr.cell? ⟨g,k,none⟩=some (.int .i64 made[k]):=EG.cell k hkm;have HQ:=Um (show bS S2 ((is.zip made).take (k+1))=if made[k]≠0 then((bS S2 ((is.zip made).take k)).cQ bQ 0 made[k] is[k].mtime).1 else bS S2 ((is.zip made).take k) by
        rw[List.take_succ_eq_append_getElem (by rw[List.length_zip];omega),rD,List.getElem_zip])
       have jL:=Um (qw Ll.o ((is.zip made).take k));generalize is[k]=it at c0 c1 c2 c3 c4 c5 c6 HQ;generalize made[k]=no at hmc HQ;generalize bS S2 ((is.zip made).take k)=Sk at HQ H9 jL;have hX:=au.new wr #[.string it.path,.int .i64 it.kind,.int .i64 it.mode,.int .i64 it.uid,.int .i64 it.gid,.int .i64 it.mtime,.string it.data] 113;have ax:=(Below.refl _ wr).alloc (aa _) (.cells #[.string it.path,.int .i64 it.kind,.int .i64 it.mode,.int .i64 it.uid,.int .i64 it.gid,.int .i64 it.mtime,.string it.data] 113);clear hbw EG;have HMl:=Um Dp;clear Dp;go_upto_region 23 with fail;have hmc2:=(ax.cell (p:=⟨g,k,none⟩) hgl).trans hmc;have LZ:=Um (bY D7.o ax (aa _));generalize wr.alloc _=X at hX ax hmc2 LZ⊢;have N4:=Um (H9.o.ak ax);obtain⟨xc,xf,xz⟩:=hX.facts;clear hX ax c0 c1 c2 c3 c4 c5 c6 hmc;by_cases hno:no=0
       ·have hnb:(no != 0)=false:=by simpa using hno
        have HE:=Um (HQ.o.trans (if_neg (by simp[hno])));clear hno;go_wp2_with fail;go_roundw
        case rel=>exact⟨k+1,by omega,by go_num,LZ.o,by rw[HE.o];exact N4.o.mono (by omega)⟩
        case measure=>simp[intOf];omega
       ·have hnb:(no != 0)=true:=by simpa using hno
        have HE:=Um (HQ.o.trans (if_pos hno));have mixed:Tryz.prog.follows .mixedOrders=true:=by kernel_rfl
        obtain⟨⟨R,Y,hY,hfs,hcl,hcn,hF⟩,hbw⟩:=N4.o;have HM:=Um (CC (hY.ak (Below.refl _ X).drew) (N:=1+2*ms.length+is.length) (by rw[hfs];exact jL.o) (by omega) ⟨hcl.c0,by omega⟩ (by rw[hcl.bD];exact Nat.zero_le _) bQ no it.mtime);rw[hcl.nt,hfs] at HM;have HW:=Um (ag hY (ag hcn (ag hF (ag hbw hcl))));clear hno hY hfs hcl hcn hF hbw;go_wp2_with fail;refine ay 8 mixed (by kernel_rfl) (show bV _ from by repeat (first|exact cZ|refine cY ?_|refine cw ?_|refine cJ ?_)) ?_;simp only[List.take_succ_cons,List.take_zero,List.drop_succ_cons,List.drop_zero]
        repeat still_step
        refine wpStill_nil ?_;go_wp2_with fail;refine HM.o.mono ?_;clear HM;rintro e w7 ⟨rfl,R7,Ot,qO⟩;obtain⟨hY,hcn,hF,hbw,hcl⟩:=HW.o;have vn:Up X X.drew:=(Below.refl _ X).drew;have N5:=Um (OI.sy (bY LZ.o vn (aa _)) (hY.ak vn) qO);have Qi:=Um (kx.of (hbw.drew) hcn hF (⟨R7,_,Ot,rfl,hcl.next _,(by show Y.count+1≤Y.count+1;omega),qO⟩:ft X.drew w7 pf pw R (.slice none 0 0) Y _ 1));clear Ot qO hY hcn hF hbw hcl vn;go_wp2_with fail;go_roundw
        case rel=>exact⟨k+1,by omega,by go_num,N5.o,by rw[HE.o];exact Qi.o.mono (by omega)⟩
        case measure=>simp[intOf];omega
      ·obtain rfl:k=is.length:=by omega
       rw[List.take_of_length_le (by rw[List.length_zip];omega),←ky.o] at H9;obtain⟨⟨R,Y,hY,hfs,hcl,hcn,hF⟩,hbw⟩:=H9.o;have HM:=Um (Fh hY);have HW:=Um (ag hfs (ag hcl (ag hF hbw)));have HY:=Um hY;clear hY hfs hcl hcn hF hbw;go_wp2_with fail;refine HM.o.mono ?_;rintro e w7 ⟨rfl,pv7,Ot,hm7⟩;obtain⟨hfs,hcl,hF,hbw⟩:=HW.o;have HX:=Um (show∃R pv Y,bK w7 pf pw R pv Y∧Y=⟨dS ms is,0,0,[],false⟩∧(∀k,R.Y pf pw k→w.heap.size≤k)∧Up w w7 from
        ⟨R,pv7,_,Ot,(by unfold Sy.RD;rw[hfs,hcl.now]),hF,hbw.trans (hm7.below (fun k hk=>by rw[hk];exact hF pf (.inl rfl)) hbw.size)⟩)
       clear hfs hcl hF hbw Ot hm7;go_wp2_with fail;go_ret;obtain⟨R,pv,Y,h1,h2,h3,h4⟩:=HX.o;exact⟨pf,pw,R,pv,Y,rfl,h1,h2,h3,h4⟩
end
section
open Go.RowKit
def bA:ByteArray:=⟨#[47,97]⟩
def bAX:ByteArray:=⟨#[47,97,47,120]⟩
def bBX:ByteArray:=⟨#[47,98,47,120]⟩
def bX:ByteArray:=⟨#[120]⟩
def its22:List It:=[⟨bA,1,448,5,0,9,⟨#[]⟩⟩,⟨bAX,2,0,0,0,0,bX⟩,⟨bBX,2,0,0,0,0,⟨#[]⟩⟩]
theorem IA{w:World}{pw:Nat}{R:Rp}{S:Fs}(h:bh w pw R S) :
  Calls Tryz.prog 128 #[.pointer (some ⟨R.pt,0,none⟩)] w fun e w'=>e=.returned (.int .i64 S.ns.length)∧w=w':=by
 have hl:(R.G.map Gn.e).length=S.ns.length:=by rw[h.ns,List.length_map,List.length_map]
 rw[←hl];exact Gy w R.pt R.pm S.last _ R.ga h.tab
def C22:Array Value:=#[.string (ByteArray.mk #[47,97]),.int .i64 1,.int .i64 448,.int .i64 5,.int .i64 0,.int .i64 9,.string (ByteArray.mk #[]),.string (ByteArray.mk #[47,97,47,120]),.int .i64 2,.int .i64 0,.int .i64 0,.int .i64 0,.int .i64 0,.string (ByteArray.mk #[120]),.string (ByteArray.mk #[47,98,47,120]),.int .i64 2,.int .i64 0,.int .i64 0,.int .i64 0,.int .i64 0,.string (ByteArray.mk #[])]
end
section
open Go.RowKit
def n9(ms:List Mt)(is:List It)(n:Int):Bool:=decide (ms.length≤10∧(is.length:Int)≤n∧(∀m∈ms,m.path.size≤300)∧∀x∈is,x.path.size≤300∧x.data.size≤1500)
theorem BA{ms:List Mt}{is:List It}{n:Int}(h:n9 ms is n=true):ms.length≤10∧(is.length:Int)≤n∧(∀m∈ms,m.path.size≤300)∧∀x∈is,x.path.size≤300∧x.data.size≤1500:=of_decide_eq_true h
theorem GZ(w:World){ma:Option Addr}{mn mc:Nat}{ia:Option Addr}{il ic:Nat}{ms:List Mt}{is:List It}(h:oW w ma mn mc ia il ic ms is)(n:Int) :
  Calls Tryz.prog 20 #[.agg #[.slice ma mn mc,.slice ia il ic],.int .i64 n] w fun e w'=>e=.returned (.bool (n9 ms is n))∧Up w w':=by
 have hln:=h.m.1;have hli:=h.i.1;subst hln hli;obtain⟨hB,hb⟩:=Uo w #[.slice ma ms.length mc,.slice ia is.length ic] 25;have HS:=Um (h.ak ((Below.refl _ w).alloc (aa _) (.cells #[.slice ma ms.length mc,.slice ia is.length ic] 25)));have HF:=Um (show n9 ms is n=decide (ms.length≤10∧(is.length:Int)≤n∧(∀m∈ms,m.path.size≤300)∧∀x∈is,x.path.size≤300∧x.data.size≤1500) from rfl);have hmc:=h.m.2.1;have hmx:=h.m.2.2.1;have hic:=h.i.2.1;have hix:=h.i.2.2.1;generalize n9 ms is n=fb at HF⊢;clear h;go_enter Tryz.func20,Tryz.ntmps20;go_upto_region 1 with fail;generalize w.alloc _=W at hB hb HS⊢;have HB:=Um hb;obtain⟨bc,bf,bz⟩:=hB.facts;clear hB hb;by_cases h1:10<ms.length
 ·have Q8:(10:Int)<(ms.length:Int):=by omega
  have HE:=Um (show fb=false by rw[HF.o,decide_eq_false_iff_not];rintro⟨h,-⟩;omega);go_wp2_with fail;go_ret;rw[HE.o];exact⟨rfl,HB.o⟩
 have Q8:¬(10:Int)<(ms.length:Int):=by omega
 by_cases h2:n<(is.length:Int)
 ·have HE:=Um (show fb=false by rw[HF.o,decide_eq_false_iff_not];rintro⟨-,h,-⟩;omega);go_wp2_with fail;go_ret;rw[HE.o];exact⟨rfl,HB.o⟩
 go_wp2_with fail
 go_loop [5] (fun t5=>∃k:Nat,k≤ms.length∧t5=.int .i64 k∧∀j (hj:j<ms.length),j<k→ms[j].path.size≤300) (fun t5=>ms.length-(intOf t5).toNat)
 case atStart=>exact⟨0,Nat.zero_le _,rfl,fun j _ h=>absurd h (Nat.not_lt_zero _)⟩
 case round=>
  obtain⟨k,hk,rfl,hbef⟩:=hrel;have L':=Um hbef;clear hbef;by_cases hlt:k<ms.length
  ·obtain⟨b,off,rfl,hbl⟩:=eo HS.o.m (by omega);obtain⟨c0,-,-⟩:=mu HS.o.m k hlt;have HM:=Um (List.getElem_mem hlt);have jU:=Um (show∀j (hj:j<ms.length),j=k→ms[j]=ms[k] from fun j hj e=>by subst e;rfl);generalize ms[k]=m at c0 HM jU;by_cases h3:300<m.path.size
   ·have P0:(300:Int)<(m.path.size:Int):=by omega
    have HE:=Um (show fb=false by rw[HF.o,decide_eq_false_iff_not];rintro⟨-,-,h,-⟩;have:=h m HM.o;omega);go_wp2_with fail;go_ret;rw[HE.o];exact⟨rfl,HB.o⟩
   ·have P0:¬(300:Int)<(m.path.size:Int):=by omega
    go_wp2_with fail
    go_round
    case rel=>exact⟨k+1,by omega,by go_num,fun j hj uk=>by
     by_cases hjk:j=k
     ·rw[jU.o j hj hjk];omega
     ·exact L'.o j hj (by omega)⟩
    case measure=>simp[intOf];omega
  ·obtain rfl:k=ms.length:=by omega
   go_wp2_with fail
   go_loop [6] (fun t6=>∃k:Nat,k≤is.length∧t6=.int .i64 k∧∀j (hj:j<is.length),j<k→is[j].path.size≤300∧is[j].data.size≤1500) (fun t6=>is.length-(intOf t6).toNat)
   case atStart=>exact⟨0,Nat.zero_le _,rfl,fun j _ h=>absurd h (Nat.not_lt_zero _)⟩
   case round=>
    obtain⟨k,hk,rfl,hbef⟩:=hrel;have HBi:=Um hbef;clear hbef;by_cases hlt:k<is.length
    ·obtain⟨b,off,rfl,hbl⟩:=eo HS.o.i (by omega);obtain⟨c0,-,-,-,-,-,c6⟩:=mA HS.o.i k hlt;have HM:=Um (List.getElem_mem hlt);have jU:=Um (show∀j (hj:j<is.length),j=k→is[j]=is[k] from fun j hj e=>by subst e;rfl);generalize is[k]=it at c0 c6 HM jU;by_cases h3:300<it.path.size
     ·have P0:(300:Int)<(it.path.size:Int):=by omega
      have HE:=Um (show fb=false by rw[HF.o,decide_eq_false_iff_not];rintro⟨-,-,-,h⟩;have:=(h it HM.o).1;omega);go_wp2_with fail;go_ret;rw[HE.o];exact⟨rfl,HB.o⟩
     ·have P0:¬(300:Int)<(it.path.size:Int):=by omega
      by_cases h4:1500<it.data.size
      ·have h4a:(1500:Int)<(it.data.size:Int):=by omega
       have HE:=Um (show fb=false by rw[HF.o,decide_eq_false_iff_not];rintro⟨-,-,-,h⟩;have:=(h it HM.o).2;omega);go_wp2_with fail;go_ret;rw[HE.o];exact⟨rfl,HB.o⟩
      ·have h4a:¬(1500:Int)<(it.data.size:Int):=by omega
       go_wp2_with fail
       go_round
       case rel=>exact⟨k+1,by omega,by go_num,fun j hj uk=>by
        by_cases hjk:j=k
        ·rw[jU.o j hj hjk];omega
        ·exact HBi.o j hj (by omega)⟩
       case measure=>simp[intOf];omega
    ·obtain rfl:k=is.length:=by omega
     have HE:=Um (show fb=true by
      rw[HF.o,decide_eq_true_eq];refine⟨by omega,by omega,fun m hm=>?_,fun x hx=>?_⟩
      ·obtain⟨j,hj,rfl⟩:=List.mem_iff_getElem.1 hm;exact L'.o j hj hj
      ·obtain⟨j,hj,rfl⟩:=List.mem_iff_getElem.1 hx;exact HBi.o j hj hj)
     go_wp2_with fail;go_ret;rw[HE.o];exact⟨rfl,HB.o⟩
end
section
open Go.RowKit
theorem ju:gC.name.size≤100000:=by show(0:Nat)≤_;omega
theorem ml{S:Fs}(hS:∀k a,S.get k=some a→a.kind=3→a.data.size≤100000)(c:Cr)(f:Bool)(k:Option (Int→Bool→List (List UInt8)→Fd×Int))
  (hk:∀g,k=some g→∀at' must l,(∀p∈l,p.length≤100000)→(g at' must l).1.name.size≤100000) :
  ∀(l:List (List UInt8)) (at':Int) (must:Bool),(∀p∈l,p.length≤100000)→(S.cy c f k l at' must).1.name.size≤100000
 | [],at',must,_=>by rw[Fs.cy];show(0:Nat)≤_;omega
 |p::l,at',must,hl=>by
  have hp:(str p).size≤100000:=by rw[aP];exact hl p (by simp)
  have hl':∀q∈l,q.length≤100000:=fun q hq=>hl q (by simp[hq]);have ih:=ml hS c f k hk l;rw[Fs.cy]
  split
  ·exact ju
  ·split
   ·exact ih _ _ hl'
   ·split
    ·split
     ·exact hp
     ·exact ju
    ·rename_i n hn
     split
     ·rename_i No
      cases hkk:k with
      |none=>exact ju
      |some g=>
       simp only
       split
       ·exact ju
       ·refine hk g hkk _ _ _ (fun q hq=>?_);rcases List.mem_append.1 hq with hq|hq
        ·have h1:=kV _ q hq;have h2:n.data.data.toList.length=n.data.size:=Array.length_toList;have h3:=hS _ n hn No.1;omega
        ·exact hl' q hq
     ·split
      ·exact ju
      ·split
       ·exact hp
       ·exact ih _ _ hl'
theorem rH{S:Fs}(hS:∀k a,S.get k=some a→a.kind=3→a.data.size≤100000)(c:Cr)(f:Bool):∀(h:Nat) (at':Int) (must:Bool) (l:List (List UInt8)),(∀p∈l,p.length≤100000)→(S.eO c f h at' must l).1.name.size≤100000
 |0,at',must,l,hl=>ml hS c f none (fun g h=>by cases h) l at' must hl
 |h+1,at',must,l,hl=>ml hS c f (some (S.eO c f h)) (fun g hg at' must l hl=>by injection hg with hg;subst hg;exact rH hS c f h at' must l hl) l at' must hl
theorem tI{S:Fs}{N:Nat}(hk:av S N)(c:Cr)(s:ByteArray)(hs:s.size≤100000)(f:Bool):(S.path c s f).1.name.size≤100000:=by
 unfold Fs.path
 split
 ·exact ju
 ·refine rH (fun k a h h3=>ae ((hk.get h).1.sy h3) (by omega)) c f 8 1 _ _ (fun p hp=>?_);have h1:=kV _ p hp;have h2:s.data.toList.length=s.size:=Array.length_toList;omega
end
section
open Go.RowKit
theorem vy(w:World){ma:Option Addr}{mn mc:Nat}{ia:Option Addr}{il ic:Nat}{ms:List Mt}{is:List It}(h:oW w ma mn mc ia il ic ms is) :
  Calls Tryz.prog 98 #[.agg #[.slice ma mn mc,.slice ia il ic]] w fun e w'=>e=.returned (.tuple #[.int .i64 (aS ms).1,.int .i64 (aS ms).2])∧Up w w':=by
 have HS:=Um h;have hln:=h.m.1;have hmc:=h.m.2.1;have hmx:=h.m.2.2.1;have hbx:=al (Uq w) (.cells #[.slice ma mn mc,.slice ia il ic] 25);have hsb:=au.new w #[.slice ma mn mc,.slice ia il ic] 25;clear h;go_enter Tryz.func98,Tryz.ntmps98;go_upto_region 1 with fail;generalize w.alloc _=X0 at hbx hsb⊢;have Rc:=Um hbx;have HSb:=Um hsb;clear hbx hsb;go_wp2_with fail
 go_loopw [4] (fun t4 wr=>∃k:Nat,k≤ms.length∧t4=.int .i64 k∧aS ms=aS (ms.drop k)∧Up X0 wr) (fun t4 _=>ms.length-(intOf t4).toNat)
 case atStart=>exact⟨0,Nat.zero_le _,rfl,rfl,Below.refl _ _⟩
 case round=>
  obtain⟨k,hk,rfl,hE,hb⟩:=hrel;have HE:=Um hE;have HB:=Um (Rc.o.trans (hb.mono Rc.o.size));obtain⟨bc,bf,bz⟩:=(HSb.o.ak hb).facts;clear hE;by_cases hlt:k<ms.length
  ·obtain⟨b,off,rfl,hbl⟩:=eo HS.o.m (by omega);obtain⟨c0,c1,c2⟩:=mu (HS.o.m.below HB.o (aa _)) k hlt;have HQ:=Um (pM hlt);generalize ms[k]=m at c0 c1 c2 HQ;obtain⟨mp,mb,mk⟩:=m;have hX:=au.new wr #[.string mp,.int .i64 mb,.int .i64 mk] 111;have ax:=al hb (.cells #[.string mp,.int .i64 mb,.int .i64 mk] 111);clear hb;go_upto_region 5 with fail;generalize wr.alloc _=X at hX ax⊢;have HX:=Um hX;have Uc:=Um ax;have aJ:=Um (Rc.o.trans (ax.mono Rc.o.size));obtain⟨xc,xf,xz⟩:=hX.facts;clear hX ax c0 c1 c2 bc bf bz;by_cases h1:mp=jy
   ·have mH:mp.toList=[47]:=by rw[h1,aC];rfl
    have HP:=Um h1;clear h1
    cases hlm:hU mb mk with
    |false=>
     have HN:=Um (HE.o.trans (HQ.o.trans (if_neg (fun h=>by have h9:hU mb mk=true:=h.2;rw[hlm] at h9;cases h9))));have rs:=Um (fun w=>k7 mb mk w);rw[hlm] at rs;clear hlm;go_wp2_with fail;refine(rs.o _).mono ?_;rintro e w3 ⟨rfl,rfl⟩;go_wp2_with fail;go_roundw
     case rel=>exact⟨k+1,by omega,by go_num,HN.o,Uc.o⟩
     case measure=>simp[intOf];omega
    |true=>
     have HN:=Um (HE.o.trans (HQ.o.trans (if_pos ⟨HP.o,hlm⟩)));have rs:=Um (fun w=>k7 mb mk w);rw[hlm] at rs;clear hlm;have mixed:Tryz.prog.follows .mixedOrders=true:=by kernel_rfl
     go_wp2_with fail;refine(rs.o _).mono ?_;rintro e w3 ⟨rfl,rfl⟩;go_wp2_with fail
     go_region
     all_goals
      go_wp2_with fail;go_ret2;rw[HN.o];exact⟨rfl,aJ.o.drew⟩
   ·have mH:(mp.toList==[47])=false:=by
     rw[aC];simp only[beq_eq_false_iff_ne,ne_eq];exact fun e=>h1 (p' e)
    have HN:=Um (HE.o.trans (HQ.o.trans (if_neg (fun h=>h1 h.1))));go_wp2_with fail;go_roundw
    case rel=>exact⟨k+1,by omega,by go_num,HN.o,Uc.o⟩
    case measure=>simp[intOf];omega
  ·obtain rfl:k=ms.length:=by omega
   have cq:=Um (show aS ms=(65536,65536) by rw[HE.o,List.drop_length];rfl);clear hb;go_wp2_with fail;go_ret2;rw[cq.o];exact⟨rfl,HB.o⟩
theorem JA{S:Fs}(c:Cr)(now dir:Int)(s:ByteArray)(m:Int):(S.br c now dir s m).1.ns.length≤S.ns.length+1:=by
 have hmk:∀a,(S.make a).1.ns.length≤S.ns.length+1:=fun a=>by
  unfold Fs.make
  split
  ·simp
  ·split
   ·simp
   ·simp only
    split
    ·show(S.ns++[_]).length≤_;simp
    ·simp
 unfold Fs.br
 split
 ·simp
 ·unfold Fs.cS
  split
  ·simp
  ·split
   ·simp
   ·split
    ·simp
    ·simp only
     split
     ·simp
     ·unfold Fs.dk
      split
      ·exact hmk _
      ·show(List.map _ _).length≤_;rw[List.length_map];exact hmk _
section
variable{w w':World}{pf:Nat}{R:Rf}{S:Fs}
theorem xV(h:aE w pf R S){N:Nat}(hk:av S N)(hN:N≤99990)(hgl:S.ns.length≤99990)(hnow:R.now=0)(m:Mt)(hp:m.path.size≤100000) :
  Calls Tryz.prog 100 #[.pointer (some ⟨pf,0,none⟩),.agg #[.string m.path,.int .i64 m.b,.int .i64 m.n]] w fun e w'=>e=.returned (.tuple #[])∧∃R',aE w' pf R' (bT S m)∧aL (R.F pf) (R'.F pf) w w'∧Rf.ct R R':=by
 obtain⟨SZ,bO⟩:=Uo w #[.string m.path,.int .i64 m.b,.int .i64 m.n] 111;have HF:=Um (oz (h.ak bO) hk m.path hp false);have kC:=Um (tI hk bQ m.path (by omega) false);have fX:=Um (wQ (S:=S) (m:=m));have cq:=Um (wP (S:=S) (m:=m));have vg:=Um (tW (S:=S) (m:=m));have Iu:=Um (wO (S:=S) (m:=m));generalize bT S m=Z at fX cq vg Iu⊢;generalize S.path bQ m.path false=x at HF kC fX cq vg Iu;obtain⟨⟨xd,xn,xk,xs⟩,xe⟩:=x;unfold Fd.v at HF;have HH:=Um h;have HK:=Um hk;clear h hk;go_enter Tryz.func100,Tryz.ntmps100;go_wp2_with fail;refine HF.o.mono ?_;rintro e w1 ⟨rfl,ar⟩;have GP:=(SZ.ak ar).eE (.cells #[.int .i64 xd,.string xn,.int .i64 xk,.bool xs] 140);have so:=au.new w1 #[.int .i64 xd,.string xn,.int .i64 xk,.bool xs] 140;have ax:=al (ao bO ar) (.cells #[.int .i64 xd,.string xn,.int .i64 xk,.bool xs] 140);have hlw:w.heap.size<w1.heap.size:=by have:=ar.size;simp at this;omega
 clear SZ bO ar;go_upto_region 2 with fail;generalize w1.alloc _=X at GP so ax⊢;generalize w1.heap.size=D at so hlw⊢;have L0:=Um GP;have NX:=Um so;have aJ:=Um ax;obtain⟨xc,xf,xz⟩:=so.facts;obtain⟨mc,mf,mz⟩:=GP.facts;have Ib:=Um (HH.o.ak ax);clear GP so ax;by_cases he:xe=0
 ·have heb:(xe==0)=true:=by simpa using he
  subst he;by_cases hno:xk=0
  ·have hnb:(xk==0)=true:=by simpa using hno
   have HM:=Um (Ar Ib.o HK.o (by omega) (by omega) xd xn (by exact kC.o) 493);rw[hnow] at HM;have zg:=Um (cq.o rfl hno);have ze:=Um (vg.o rfl hno)
   try dsimp only at zg
   try dsimp only at ze
   try dsimp only at HM
   have kD:=Um (jE HK.o bQ 0 xd xn 493);have HNl:=Um (JA (S:=S) bQ 0 xd xn 493);clear fX cq vg Iu hno;generalize S.br bQ 0 xd xn 493=q at HM zg ze kD HNl;obtain⟨S1,n1,e1⟩:=q
   try dsimp only at HM
   try dsimp only at zg
   try dsimp only at ze
   try dsimp only at kD
   try dsimp only at HNl
   go_wp2_with fail;refine HM.o.mono ?_;rintro e w3 ⟨rfl,R3,gy,mG,zq⟩;have LO:=L0.o.rf Ib.o mG rfl;have iJ:=NX.o.rf Ib.o mG rfl;have l1:=Um (ag gy (ag ((aL.aq aJ.o).trans mG) zq));have hF3:¬R3.F pf D:=fun hk=>by
    rcases mG.new D hk with h1|h1
    ·have:=HH.o.lt h1;omega
    ·have:=NX.o.lt;omega
   have yF:=gy.aside iJ hF3 (by decide) 2 (.int .i64 n1);have GN:=iJ.set 2 (.int .i64 n1);have QW:=LO.setOther ⟨D,2,none⟩ (.int .i64 n1) (show D≠w.heap.size by omega);have yv:aL (R.F pf) (R3.F pf) w (w3.setCell ⟨D,2,none⟩ (.int .i64 n1)):=⟨l1.o.2.1.mod.setCell (a:=⟨D,2,none⟩) (.inr (by show w.heap.size≤D;omega)) _,l1.o.2.1.new⟩;have se:=Um (ag yF yv);obtain⟨xc3,xf3,xz3⟩:=iJ.facts;obtain⟨mc3,mf3,mz3⟩:=LO.facts;have hne:¬D=w.heap.size:=by omega
   have Su:¬w.heap.size=D:=by omega
   by_cases h1:e1=0
   ·have Q7:(e1==0)=true:=by simpa using h1
    have HE:=Um (zg.o h1);have Rk:=Um (tz yF kD.o (by omega) (by have:=HNl.o;omega) n1 m.b m.n);clear xc xf xz mc mf mz gy mG zq LO iJ hF3 yF GN QW yv h1;go_wp2_with fail;refine Rk.o.mono ?_;rintro e w5 ⟨rfl,R5,gQ,eu,Bf⟩;have oZ:=Um (ag gQ (ag (se.o.2.trans eu) (l1.o.2.2.trans Bf)));clear gQ eu Bf;go_wp2_with fail
    go_end0
    rw[HE.o];exact⟨rfl,R5,oZ.o⟩
   ·have Q7:(e1==0)=false:=by simpa using h1
    have HE:=Um (ze.o h1);clear xc xf xz mc mf mz gy mG zq LO iJ hF3 yF GN QW yv h1;go_wp2_with fail
    go_end0
    rw[HE.o];exact⟨rfl,R3,se.o.1,se.o.2,l1.o.2.2⟩
  ·have hnb:(xk==0)=false:=by simpa using hno
   have HM:=Um (tz Ib.o HK.o (by omega) (by omega) xk m.b m.n);have HE:=Um (Iu.o rfl hno)
   try dsimp only at HE
   clear fX cq vg Iu hno;go_wp2_with fail;refine HM.o.mono ?_;rintro e w3 ⟨rfl,R3,gy,mG,zq⟩;have l1:=Um (ag gy (ag ((aL.aq aJ.o).trans mG) zq));clear gy mG zq;go_wp2_with fail
   go_end0
   rw[HE.o];exact⟨rfl,R3,l1.o⟩
 ·have heb:(xe==0)=false:=by simpa using he
  have HE:=Um (fX.o he);clear fX cq vg Iu he;go_wp2_with fail
  go_end0
  rw[HE.o];exact⟨rfl,R,Ib.o,aL.aq aJ.o,Rf.ct.refl R⟩
end
end
section
open Go.RowKit
section
variable{w w':World}{pf:Nat}{R:Rf}{S:Fs}
theorem Ah(h:aE w pf R S){N:Nat}(hk:av S N)(hN:N≤99990)(hgl:S.ns.length≤99990)(hnow:R.now=0)(it:It)(hp:it.path.size≤100000)(hd:it.data.size≤100000) :
  Calls Tryz.prog 101 #[.pointer (some ⟨pf,0,none⟩),.agg #[.string it.path,.int .i64 it.kind,.int .i64 it.mode,.int .i64 it.uid,.int .i64 it.gid,.int .i64 it.mtime,.string it.data]] w fun e w'=>e=.returned (.int .i64 (cm S it).2)∧∃R',aE w' pf R' (cm S it).1∧aL (R.F pf) (R'.F pf) w w'∧Rf.ct R R':=by
 obtain⟨Ta,bO⟩:=Uo w #[.string it.path,.int .i64 it.kind,.int .i64 it.mode,.int .i64 it.uid,.int .i64 it.gid,.int .i64 it.mtime,.string it.data] 113;have HF:=Um (oz (h.ak bO) hk it.path hp false);have kC:=Um (tI hk bQ it.path (by omega) false);generalize hx:S.path bQ it.path false=x at HF kC;obtain⟨⟨xd,xn,xk,xs⟩,xe⟩:=x;have Li:=Um hx;unfold Fd.v at HF;have HH:=Um h;have HK:=Um hk;clear h hk hx;go_enter Tryz.func101,Tryz.ntmps101;go_wp2_with fail;refine HF.o.mono ?_;rintro e w1 ⟨rfl,ar⟩;have Ou:=(Ta.ak ar).eE (.cells #[.int .i64 xd,.string xn,.int .i64 xk,.bool xs] 140);have so:=au.new w1 #[.int .i64 xd,.string xn,.int .i64 xk,.bool xs] 140;have ax:=al (ao bO ar) (.cells #[.int .i64 xd,.string xn,.int .i64 xk,.bool xs] 140);clear Ta bO ar;go_upto_region 2 with fail;generalize w1.alloc _=X at Ou so ax⊢;generalize w1.heap.size=D at so⊢;have Rq:=Um Ou;have NX:=Um so;have aJ:=Um ax;obtain⟨xc,xf,xz⟩:=so.facts;obtain⟨ic,if',iz⟩:=Ou.facts;have Ib:=Um (HH.o.ak ax);clear Ou so ax;by_cases he:xe=0
 ·have heb:(xe != 0)=false:=by simpa using he
  by_cases hno:xk=0
  ·have hnb:(xk != 0)=false:=by simpa using hno
   have nO:=Um (AM (it:=it) Li.o he hno)
   try dsimp only at nO
   clear he hno;by_cases g1:it.kind=1
   ·have p1:(it.kind==1)=true:=by simpa using g1
    have HQ:=Um (nO.o.trans (if_pos g1));have HM:=Um (Ar Ib.o HK.o (by omega) (by omega) xd xn (by exact kC.o) 493);have kk:it.kind=1:=g1;clear g1;rw[hnow] at HM;go_wp2_with fail;refine HM.o.mono ?_;rintro e w3 ⟨rfl,R3,gy,mG,zq⟩;have l1:=Um (ag gy (ag ((aL.aq aJ.o).trans mG) zq));clear gy mG zq xc xf xz ic if' iz;go_wp2_with fail;go_ret;rw[HQ.o];exact⟨rfl,R3,l1.o⟩
   ·have p1:(it.kind==1)=false:=by simpa using g1
    have l7:=Um (nO.o.trans (if_neg g1));by_cases g2:it.kind=2
    ·have p2:(it.kind==2)=true:=by simpa using g2
     have HQ:=Um (l7.o.trans (if_pos g2));have HM:=Um (FR Ib.o HK.o (by omega) (by omega) xd xn (by exact kC.o) 420 it.data);have kk:it.kind=2:=g2;clear g2;rw[hnow] at HM;go_wp2_with fail;refine HM.o.mono ?_;rintro e w3 ⟨rfl,R3,gy,mG,zq⟩;have l1:=Um (ag gy (ag ((aL.aq aJ.o).trans mG) zq));clear gy mG zq xc xf xz ic if' iz;go_wp2_with fail;go_ret;rw[HQ.o];exact⟨rfl,R3,l1.o⟩
    ·have p2:(it.kind==2)=false:=by simpa using g2
     have qq:=Um (l7.o.trans (if_neg g2));by_cases g3:it.kind=3
     ·have p3:(it.kind==3)=true:=by simpa using g3
      have HQ:=Um (qq.o.trans (if_pos g3));have HM:=Um (I1 Ib.o HK.o (by omega) (by omega) xd xn (by exact kC.o) it.data (by omega));have kk:it.kind=3:=g3;clear g3;rw[hnow] at HM;go_wp2_with fail;refine HM.o.mono ?_;rintro e w3 ⟨rfl,R3,gy,mG,zq⟩;have l1:=Um (ag gy (ag ((aL.aq aJ.o).trans mG) zq));clear gy mG zq xc xf xz ic if' iz;go_wp2_with fail;go_ret;rw[HQ.o];exact⟨rfl,R3,l1.o⟩
     ·have p3:(it.kind==3)=false:=by simpa using g3
      have H5:=Um (qq.o.trans (if_neg g3));by_cases g4:it.kind=4
      ·have p4:(it.kind==4)=true:=by simpa using g4
       have zv:=Um (H5.o.trans (if_pos g4));have Ob:=Um (oz Ib.o HK.o it.data hd false);clear g4;generalize hy:S.path bQ it.data false=y at zv Ob;obtain⟨⟨yd,yn,yk,ys⟩,ye⟩:=y
       try dsimp only at zv
       unfold Fd.v at Ob;clear hy;go_wp2_with fail;refine Ob.o.mono ?_;rintro e w3 ⟨rfl,bJ⟩;have iJ:=(NX.o.ak bJ).eE (.cells #[.int .i64 yd,.string yn,.int .i64 yk,.bool ys] 140);have Nw:=au.new w3 #[.int .i64 yd,.string yn,.int .i64 yk,.bool ys] 140;have dI:=al (ao aJ.o bJ) (.cells #[.int .i64 yd,.string yn,.int .i64 yk,.bool ys] 140);go_upto_region 18 with fail;generalize w3.alloc _=Y at iJ Nw dI⊢;have oh:=Um dI;have HHY:=Um (HH.o.ak dI);clear xc xf xz ic if' iz bJ dI;obtain⟨xc,xf,xz⟩:=iJ.facts;obtain⟨yc,yf,yz⟩:=Nw.facts;clear iJ Nw;by_cases hye:ye=0
       ·have hyb:(ye==0)=true:=by simpa using hye
        have HQ:=Um (zv.o.trans (if_pos hye));have HM:=Um (FP HHY.o HK.o (by omega) yk xd xn (by exact kC.o));rw[hnow] at HM;clear hye;go_wp2_with fail;refine HM.o.mono ?_;rintro e w5 ⟨rfl,R3,gy,mG,zq⟩;have l1:=Um (ag gy (ag ((aL.aq oh.o).trans mG) zq));clear gy mG zq xc xf xz yc yf yz;go_wp2_with fail;go_ret;rw[HQ.o];exact⟨rfl,R3,l1.o⟩
       ·have hyb:(ye==0)=false:=by simpa using hye
        have HQ:=Um (zv.o.trans (if_neg hye));clear hye;go_wp2_with fail;go_ret;rw[HQ.o];exact⟨rfl,R,HHY.o,aL.aq oh.o,Rf.ct.refl R⟩
      ·have p4:(it.kind==4)=false:=by simpa using g4
       have HQ:=Um (H5.o.trans (if_neg g4));clear g1 g2 g3 g4;go_wp2_with fail;go_ret;rw[HQ.o];exact⟨rfl,R,Ib.o,aL.aq aJ.o,Rf.ct.refl R⟩
  ·have hnb:(xk != 0)=true:=by simpa using hno
   by_cases h1:it.kind=1
   ·have q1:(it.kind==1)=true:=by simpa using h1
    obtain⟨na,nl,nc,-,hG⟩:=iu HH.o xk;have HG:=Um (hG X aJ.o);have hkz:(S.cC xk).kind=S.kindOf xk:=by
     unfold Fs.cC Fs.kindOf
     cases S.get xk<;>rfl
    unfold An.v at HG;have hfd:∀(a:An) (w:World),(Instr.field 99 (.agg #[.int .i64 a.no,.int .i64 a.dev,.int .i64 a.kind,.int .i64 a.mode,.int .i64 a.uid,.int .i64 a.gid,.int .i64 a.mtime,.int .i64 a.ctime,.int .i64 a.an,.int .i64 a.up,.string a.data,.slice na nl nc]) 2).run Tryz.prog w=.ok (.int .i64 a.kind) w:=fun _ _=>by kernel_rfl
    by_cases h2:S.kindOf xk=1
    ·have HQ:=Um (AL (it:=it) Li.o he hno h1 h2);have q2:((S.cC xk).kind==1)=true:=by rw[hkz];simpa using h2
     generalize S.cC xk=nd at HG q2;clear he hno h1 h2 hG hkz;go_wp2_with fail;refine HG.o.mono ?_;rintro e w3 ⟨rfl,bJ⟩;have ez:=Um (ao aJ.o bJ);have iJ:=NX.o.ak bJ;clear xc xf xz ic if' iz bJ;obtain⟨xc,xf,xz⟩:=iJ.facts;go_wp2_with fail;go_ret;rw[HQ.o];exact⟨rfl,R,HH.o.ak ez.o,aL.aq ez.o,Rf.ct.refl R⟩
    ·have HQ:=Um (pG (it:=it) Li.o he hno (fun h=>h2 h.2));have q2:((S.cC xk).kind==1)=false:=by rw[hkz];simpa using h2
     generalize S.cC xk=nd at HG q2;clear he hno h1 h2 hG hkz;go_wp2_with fail;refine HG.o.mono ?_;rintro e w3 ⟨rfl,bJ⟩;have ez:=Um (ao aJ.o bJ);clear xc xf xz ic if' iz bJ;go_wp2_with fail;go_ret;rw[HQ.o];exact⟨rfl,R,HH.o.ak ez.o,aL.aq ez.o,Rf.ct.refl R⟩
   ·have q1:(it.kind==1)=false:=by simpa using h1
    have HQ:=Um (pG (it:=it) Li.o he hno (fun h=>h1 h.1));clear he hno h1;go_wp2_with fail;go_ret;rw[HQ.o];exact⟨rfl,R,Ib.o,aL.aq aJ.o,Rf.ct.refl R⟩
 ·have heb:(xe != 0)=true:=by simpa using he
  have HQ:=Um (AN (it:=it) Li.o he);clear he;go_wp2_with fail;go_ret;rw[HQ.o];exact⟨rfl,R,Ib.o,aL.aq aJ.o,Rf.ct.refl R⟩
end
end
end Go.Proofs.YtinflmadpnigfaaGreatDoor
