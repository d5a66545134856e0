import Derived.Test.YtabbjaomlmnnhaaGreatCO22
import Derived.Test.YtabbjaomlmnnhaaGreatCO17
import Derived.Test.YtabbjaomlmnnhaaGreatCO21
import Derived.Test.YtabbjaomlmnnhaaGreatCO12
set_option linter.unusedVariables false
set_option linter.unusedSimpArgs false
set_option maxRecDepth 100000
set_option maxHeartbeats 16000000
namespace Go.Proofs.YtabbjaomlmnnhaaGreat
open Go.Value renaming int→UE,string→UF,slice→UG,pointer→UH,agg→UJ,tuple→UK
open Go.IntKind renaming i64→UL
section
open Go.RowKit
theorem ev(w:World)(B:Nat)(v0 v1 v2 v3 v4 v5 v6 v7 v8 v9 v10 v11:Value):Mod (fun k=>k=B) w ((((((((((((w.setCell ⟨B,0,none⟩ v0).setCell ⟨B,1,none⟩ v1).setCell ⟨B,2,none⟩ v2).setCell ⟨B,3,none⟩ v3).setCell ⟨B,4,none⟩ v4).setCell ⟨B,5,none⟩ v5).setCell ⟨B,6,none⟩ v6).setCell ⟨B,7,none⟩ v7).setCell ⟨B,8,none⟩ v8).setCell ⟨B,9,none⟩ v9).setCell ⟨B,10,none⟩ v10).setCell ⟨B,11,none⟩ v11):=(((((((((((((Mod.refl (fun k=>k=B) w).setCell (a:=⟨B,0,none⟩) (.inl rfl) v0).setCell (a:=⟨B,1,none⟩) (.inl rfl) v1).setCell (a:=⟨B,2,none⟩) (.inl rfl) v2).setCell (a:=⟨B,3,none⟩) (.inl rfl) v3).setCell (a:=⟨B,4,none⟩) (.inl rfl) v4).setCell (a:=⟨B,5,none⟩) (.inl rfl) v5).setCell (a:=⟨B,6,none⟩) (.inl rfl) v6).setCell (a:=⟨B,7,none⟩) (.inl rfl) v7).setCell (a:=⟨B,8,none⟩) (.inl rfl) v8).setCell (a:=⟨B,9,none⟩) (.inl rfl) v9).setCell (a:=⟨B,10,none⟩) (.inl rfl) v10).setCell (a:=⟨B,11,none⟩) (.inl rfl) v11)
theorem nB{tmps:Array Value}{W:World}{B C:Nat}{d n:An}{da na:Option Addr}{dl dc nl nc:Nat}{e:Int}(hb:ax W B #[UE UL d.no,UE UL d.dev,UE UL d.kind,UE UL d.mode,UE UL d.uid,UE UL d.gid,UE UL d.mtime,UE UL d.ctime,UE UL d.ak,UE UL d.up,UF d.data,UG da dl dc] 149)(hc:ax W C #[UE UL n.no,UE UL n.dev,UE UL n.kind,UE UL n.mode,UE UL n.uid,UE UL n.gid,UE UL n.mtime,UE UL n.ctime,UE UL n.ak,UE UL n.up,UF n.data,UG na nl nc] 149)
  (h8:tmps.getD 8 undef=UH (some ⟨B,0,none⟩)) (h9:tmps.getD 9 undef=UH (some ⟨C,0,none⟩)) (Oe:tmps.getD 10 undef=UE UL e):(results Tryz.f112 tmps).run Tryz.prog W=.ok (UK #[UJ #[UE UL d.no,UE UL d.dev,UE UL d.kind,UE UL d.mode,UE UL d.uid,UE UL d.gid,UE UL d.mtime,UE UL d.ctime,UE UL d.ak,UE UL d.up,UF d.data,UG da dl dc],UJ #[UE UL n.no,UE UL n.dev,UE UL n.kind,UE UL n.mode,UE UL n.uid,UE UL n.gid,UE UL n.mtime,UE UL n.ctime,UE UL n.ak,UE UL n.up,UF n.data,UG na nl nc],UE UL e]) W:=by
 obtain⟨q0,q1,q2,q3,q4,q5,q6,q7,q8,q9,q10,q11⟩:=hb.fO;obtain⟨r0,r1,r2,r3,r4,r5,r6,r7,r8,r9,LN,r11⟩:=hc.fO;rw[Array.getD_eq_getD_getElem?] at h8 h9 Oe;simp[results,Tryz.results112,go_sem,h8,h9,Oe,q0,q1,q2,q3,q4,q5,q6,q7,q8,q9,q10,q11,r0,r1,r2,r3,r4,r5,r6,r7,r8,r9,LN,r11]
structure GN(w':World)(pw:Nat)(R:Rp)(bd:Nat)(vs:Array Value):Prop where
 w:ax w' pw #[UH (some ⟨R.pt,0,none⟩),R.dv] 46
 d:ax w' bd vs 149
theorem GN.an{w w':World}{pw:Nat}{R:Rp}{bd:Nat}{vs:Array Value}(h:GN w pw R bd vs)(hb:UA w w'):GN w' pw R bd vs:=⟨h.w.an hb,h.d.an hb⟩
structure Nn(w':World)(bd:Nat)(vs:Array Value)(bn:Nat)(ns:Array Value):Prop where
 d:ax w' bd vs 149
 n:ax w' bn ns 149
theorem Nn.an{w w':World}{bd bn:Nat}{vs ns:Array Value}(h:Nn w bd vs bn ns)(hb:UA w w'):Nn w' bd vs bn ns:=⟨h.d.an hb,h.n.an hb⟩
def LvP(S:Fs)(pw:Nat)(c:Cr)(dir:Int)(s:ByteArray)(w:World)(e:Ending)(w':World):Prop:=
 ∃d n da dl dc na nl nc,e=.returned (UK #[UJ #[UE UL d.no,UE UL d.dev,UE UL d.kind,UE UL d.mode,UE UL d.uid,UE UL d.gid,UE UL d.mtime,UE UL d.ctime,UE UL d.ak,UE UL d.up,UF d.data,UG da dl dc],UJ #[UE UL n.no,UE UL n.dev,UE UL n.kind,UE UL n.mode,UE UL n.uid,UE UL n.gid,UE UL n.mtime,UE UL n.ctime,UE UL n.ak,UE UL n.up,UF n.data,UG na nl nc],UE UL (S.dq c dir s)])∧(S.dq c dir s=0→S.get dir=some d∧S.get (aw d.au s)=some n∧aA w' da dl dc d.au∧aA w' na nl nc n.au)∧UA w w'
section
variable{w w':World}{pw:Nat}{R:Rp}{S:Fs}
theorem mR{a:Act}{W:World}{B C:Nat}{x0 x1 x2 x3 x4 x5 x6 x7 x8 x9 x10 x11 y0 y1 y2 y3 y4 y5 y6 y7 y8 y9 y10 y11:Value}{e:Int}{c:Cr}{dir:Int}{s:ByteArray}(hB:ax W B #[x0,x1,x2,x3,x4,x5,x6,x7,x8,x9,x10,x11] 149)(hC:ax W C #[y0,y1,y2,y3,y4,y5,y6,y7,y8,y9,y10,y11] 149)(hne:B≠C)
  (h8:a.tmps.getD 8 undef=UH (some ⟨B,0,none⟩)) (h9:a.tmps.getD 9 undef=UH (some ⟨C,0,none⟩)) (Oe:a.tmps.getD 10 undef=UE UL e) (hd:a.defers=[]) (he:S.dq c dir s=e) (h0:e≠0) (hb:UA w W) (h1:w.heap.size≤B) (h2:w.heap.size≤C) :
  bodyPost Tryz.prog Tryz.f112 (LvP S pw c dir s w) .ret a ((((((((((((((((((((((((W.setCell ⟨B,0,none⟩ (UE UL 0)).setCell ⟨B,1,none⟩ (UE UL 0)).setCell ⟨B,2,none⟩ (UE UL 0)).setCell ⟨B,3,none⟩ (UE UL 0)).setCell ⟨B,4,none⟩ (UE UL 0)).setCell ⟨B,5,none⟩ (UE UL 0)).setCell ⟨B,6,none⟩ (UE UL 0)).setCell ⟨B,7,none⟩ (UE UL 0)).setCell ⟨B,8,none⟩ (UE UL 0)).setCell ⟨B,9,none⟩ (UE UL 0)).setCell ⟨B,10,none⟩ (UF ⟨#[]⟩)).setCell ⟨B,11,none⟩ (UG none 0 0)).setCell ⟨C,0,none⟩ (UE UL 0)).setCell ⟨C,1,none⟩ (UE UL 0)).setCell ⟨C,2,none⟩ (UE UL 0)).setCell ⟨C,3,none⟩ (UE UL 0)).setCell ⟨C,4,none⟩ (UE UL 0)).setCell ⟨C,5,none⟩ (UE UL 0)).setCell ⟨C,6,none⟩ (UE UL 0)).setCell ⟨C,7,none⟩ (UE UL 0)).setCell ⟨C,8,none⟩ (UE UL 0)).setCell ⟨C,9,none⟩ (UE UL 0)).setCell ⟨C,10,none⟩ (UF ⟨#[]⟩)).setCell ⟨C,11,none⟩ (UG none 0 0)):=by
 have dR:=hB.dY (v0:=UE UL 0) (v1:=UE UL 0) (v2:=UE UL 0) (v3:=UE UL 0) (v4:=UE UL 0) (v5:=UE UL 0) (v6:=UE UL 0) (v7:=UE UL 0) (v8:=UE UL 0) (v9:=UE UL 0) (v10:=UF ⟨#[]⟩) (v11:=UG none 0 0);have hm:=ev W B (UE UL 0) (UE UL 0) (UE UL 0) (UE UL 0) (UE UL 0) (UE UL 0) (UE UL 0) (UE UL 0) (UE UL 0) (UE UL 0) (UF ⟨#[]⟩) (UG none 0 0);have av:=bg (v0:=UE UL 0) (v1:=UE UL 0) (v2:=UE UL 0) (v3:=UE UL 0) (v4:=UE UL 0) (v5:=UE UL 0) (v6:=UE UL 0) (v7:=UE UL 0) (v8:=UE UL 0) (v9:=UE UL 0) (v10:=UF ⟨#[]⟩) (v11:=UG none 0 0) hb h1;have wC:=hC.mod hm (fun e=>hne e.symm);generalize World.setCell _ _ _=W1 at dR av wC⊢;have u4:=wC.dY (v0:=UE UL 0) (v1:=UE UL 0) (v2:=UE UL 0) (v3:=UE UL 0) (v4:=UE UL 0) (v5:=UE UL 0) (v6:=UE UL 0) (v7:=UE UL 0) (v8:=UE UL 0) (v9:=UE UL 0) (v10:=UF ⟨#[]⟩) (v11:=UG none 0 0);have oy:=ev W1 C (UE UL 0) (UE UL 0) (UE UL 0) (UE UL 0) (UE UL 0) (UE UL 0) (UE UL 0) (UE UL 0) (UE UL 0) (UE UL 0) (UF ⟨#[]⟩) (UG none 0 0);refine bodyPost_ret (nB (d:=dD) (n:=dD) (da:=none) (dl:=0) (dc:=0) (na:=none) (nl:=0) (nc:=0) (dR.mod oy hne) u4 h8 h9 Oe) hd ⟨dD,dD,none,0,0,none,0,0,?_,fun h=>absurd (he.symm.trans h) h0,bg av h2⟩;rw[he]
theorem CJ{a:Act}{W:World}{B C:Nat}{x0 x1 x2 x3 x4 x5 x6 x7 x8 x9 x10 x11 y0 y1 y2 y3 y4 y5 y6 y7 y8 y9 y10 y11:Value}{d n:An}{da na:Option Addr}{dl dc nl nc:Nat}{c:Cr}{dir:Int}{s:ByteArray}(hB:ax W B #[x0,x1,x2,x3,x4,x5,x6,x7,x8,x9,x10,x11] 149)(hC:ax W C #[y0,y1,y2,y3,y4,y5,y6,y7,y8,y9,y10,y11] 149)(hne:B≠C)
  (h8:a.tmps.getD 8 undef=UH (some ⟨B,0,none⟩)) (h9:a.tmps.getD 9 undef=UH (some ⟨C,0,none⟩)) (Oe:a.tmps.getD 10 undef=UE UL 0) (hd:a.defers=[]) (he:S.dq c dir s=0) (hg:S.get dir=some d) (hn:S.get (aw d.au s)=some n) (hE:aA W da dl dc d.au) (hF:aA W na nl nc n.au) (hb:UA w W) (h1:w.heap.size≤B) (h2:w.heap.size≤C) :
  bodyPost Tryz.prog Tryz.f112 (LvP S pw c dir s w) .ret a ((((((((((((((((((((((((W.setCell ⟨B,0,none⟩ (UE UL d.no)).setCell ⟨B,1,none⟩ (UE UL d.dev)).setCell ⟨B,2,none⟩ (UE UL d.kind)).setCell ⟨B,3,none⟩ (UE UL d.mode)).setCell ⟨B,4,none⟩ (UE UL d.uid)).setCell ⟨B,5,none⟩ (UE UL d.gid)).setCell ⟨B,6,none⟩ (UE UL d.mtime)).setCell ⟨B,7,none⟩ (UE UL d.ctime)).setCell ⟨B,8,none⟩ (UE UL d.ak)).setCell ⟨B,9,none⟩ (UE UL d.up)).setCell ⟨B,10,none⟩ (UF d.data)).setCell ⟨B,11,none⟩ (UG da dl dc)).setCell ⟨C,0,none⟩ (UE UL n.no)).setCell ⟨C,1,none⟩ (UE UL n.dev)).setCell ⟨C,2,none⟩ (UE UL n.kind)).setCell ⟨C,3,none⟩ (UE UL n.mode)).setCell ⟨C,4,none⟩ (UE UL n.uid)).setCell ⟨C,5,none⟩ (UE UL n.gid)).setCell ⟨C,6,none⟩ (UE UL n.mtime)).setCell ⟨C,7,none⟩ (UE UL n.ctime)).setCell ⟨C,8,none⟩ (UE UL n.ak)).setCell ⟨C,9,none⟩ (UE UL n.up)).setCell ⟨C,10,none⟩ (UF n.data)).setCell ⟨C,11,none⟩ (UG na nl nc)):=by
 have dR:=hB.dY (v0:=UE UL d.no) (v1:=UE UL d.dev) (v2:=UE UL d.kind) (v3:=UE UL d.mode) (v4:=UE UL d.uid) (v5:=UE UL d.gid) (v6:=UE UL d.mtime) (v7:=UE UL d.ctime) (v8:=UE UL d.ak) (v9:=UE UL d.up) (v10:=UF d.data) (v11:=UG da dl dc);have hm:=ev W B (UE UL d.no) (UE UL d.dev) (UE UL d.kind) (UE UL d.mode) (UE UL d.uid) (UE UL d.gid) (UE UL d.mtime) (UE UL d.ctime) (UE UL d.ak) (UE UL d.up) (UF d.data) (UG da dl dc);have av:=bg (v0:=UE UL d.no) (v1:=UE UL d.dev) (v2:=UE UL d.kind) (v3:=UE UL d.mode) (v4:=UE UL d.uid) (v5:=UE UL d.gid) (v6:=UE UL d.mtime) (v7:=UE UL d.ctime) (v8:=UE UL d.ak) (v9:=UE UL d.up) (v10:=UF d.data) (v11:=UG da dl dc) hb h1;have wC:=hC.mod hm (fun e=>hne e.symm);have p':=hE.node hB hm;have MJ:=hF.node hB hm;generalize World.setCell _ _ _=W1 at dR av wC p' MJ⊢;have u4:=wC.dY (v0:=UE UL n.no) (v1:=UE UL n.dev) (v2:=UE UL n.kind) (v3:=UE UL n.mode) (v4:=UE UL n.uid) (v5:=UE UL n.gid) (v6:=UE UL n.mtime) (v7:=UE UL n.ctime) (v8:=UE UL n.ak) (v9:=UE UL n.up) (v10:=UF n.data) (v11:=UG na nl nc);have oy:=ev W1 C (UE UL n.no) (UE UL n.dev) (UE UL n.kind) (UE UL n.mode) (UE UL n.uid) (UE UL n.gid) (UE UL n.mtime) (UE UL n.ctime) (UE UL n.ak) (UE UL n.up) (UF n.data) (UG na nl nc);refine bodyPost_ret (nB (d:=d) (n:=n) (da:=da) (dl:=dl) (dc:=dc) (na:=na) (nl:=nl) (nc:=nc) (dR.mod oy hne) u4 h8 h9 Oe) hd ⟨d,n,da,dl,dc,na,nl,nc,?_,fun _=>⟨hg,hn,p'.node wC oy,MJ.node wC oy⟩,bg av h2⟩;rw[he]
theorem r'(h:bB w pw R S){M:Nat}(hk:ay S M)(hM:M≤100000)(c:Cr)(dir:Int)(s:ByteArray)(hs:s.size≤9223372036854775807) :
  Calls Tryz.prog 112 #[UH (some ⟨pw,0,none⟩),UJ #[UE UL c.u,UE UL c.g],UE UL dir,UF s] w (LvP S pw c dir s w):=by
 obtain⟨hC,h8,h9,hb⟩:=yG w #[UE UL c.u,UE UL c.g] #[UE UL 0,UE UL 0,UE UL 0,UE UL 0,UE UL 0,UE UL 0,UE UL 0,UE UL 0,UE UL 0,UE UL 0,UF ⟨#[]⟩,UG none 0 0] #[UE UL 0,UE UL 0,UE UL 0,UE UL 0,UE UL 0,UE UL 0,UE UL 0,UE UL 0,UE UL 0,UE UL 0,UF ⟨#[]⟩,UG none 0 0] 64 149 149;have HP:=Ux (fun w1 (av:UA w w1)=>mO (h.an av) hk c dir s hs);have HW:=Ux h;have HK:=Ux hk;have Ou:=Ux (show S.dq c dir s=if S.aX c dir s≠0 then S.aX c dir s else match S.get dir with
   |none=>5
   |some d=>match S.get (aw d.au s) with
    |none=>5
    |some n=>if S.aB n.no≠n.no then 16 else if nE c d n=false then 4 else 0 from rfl)
 clear h hk;go_enter Tryz.func112,Tryz.ntmps112;go_upto_region 1 with fail;generalize World.alloc _ _=X at hC h8 h9 hb⊢;obtain⟨cc,cf,cz⟩:=hC.facts;have H0:=Ux (ag hC (ag h8 (ag h9 hb)));clear hC h8 h9 hb;go_wp2_with fail;refine(HP.o _ H0.o.2.2.2).mono ?_;rintro e w1 ⟨⟨hp,rfl⟩|⟨hp,d,da,dl,dc,hg,rfl,hE⟩,av⟩
 ·have hzb:(S.aX c dir s != 0)=true:=by simpa using hp
  have HE:=Ux (show S.dq c dir s=S.aX c dir s by rw[Ou.o,if_pos hp]);have Ky:=Ux hp;generalize S.aX c dir s=pe at hzb HE Ky;have jb:=ao av (.cells #[UE UL 0,UE UL 0,UE UL 0,UE UL 0,UE UL 0,UE UL 0,UE UL 0,UE UL 0,UE UL 0,UE UL 0,UF ByteArray.empty,UG none 0 0] 149);unfold An.v dD;clear hp cc cf cz;go_upto_region 3 with fail;generalize w1.alloc _=w2 at jb⊢;have h8:=H0.o.2.1.an jb;have h9:=H0.o.2.2.1.an jb;have HB:=Ux (ag h8 (ag h9 (ar H0.o.2.2.2 jb)));obtain⟨ac,af,az⟩:=h8.facts;obtain⟨bc,bf,bz⟩:=h9.facts;clear h8 h9 jb av;go_wp2_with fail;exact mR HB.o.1 HB.o.2.1 (by omega) rfl rfl rfl rfl HE.o Ky.o HB.o.2.2 (by omega) (by omega)
 ·have hA:=ax.new w1 #[UE UL d.no,UE UL d.dev,UE UL d.kind,UE UL d.mode,UE UL d.uid,UE UL d.gid,UE UL d.mtime,UE UL d.ctime,UE UL d.ak,UE UL d.up,UF d.data,UG da dl dc] 149;have jb:=ao av (.cells #[UE UL d.no,UE UL d.dev,UE UL d.kind,UE UL d.mode,UE UL d.uid,UE UL d.gid,UE UL d.mtime,UE UL d.ctime,UE UL d.ak,UE UL d.up,UF d.data,UG da dl dc] 149);have O8:=av.size;have HE:=Ux hE;have HG:=Ux hg;have Ky:=Ux hp;unfold An.v;clear cc cf cz hp hE;go_upto_region 4 with fail;generalize w1.alloc _=w2 at hA jb⊢;generalize w1.heap.size=bd at hA O8⊢;have dR:=ar H0.o.2.2.2 jb;have CZ:=HW.o.an dR;have hdd:=HK.o.get hg;obtain⟨k,hkk⟩:∃k,aw d.au s=k:=⟨_,rfl⟩;have NC:=Ux hkk;have bS:=Ux (HE.o.an jb);have hbd:UA w2 w2.drew:=(Below.refl _ _).drew;have HRi:=Ux hdd.1.dB;have HRl:=Ux (show dl≤1000000 by have:=bS.o.len;have:=hdd.1.lR;omega);have wV:=Ux (gO d.au da dl dc s w2.drew (bS.o.an hbd) hdd.1.dB (by have:=bS.o.len;have:=hdd.1.lR;omega));rw[hkk] at wV;obtain⟨nd,na,nl,nc,is,Eb,hcase,hG⟩:=Ib CZ k;have Qq:=Ux hG;have HCs:=Ux hcase;have NI:=Ux Eb;have H2:=Ux (ag hA (ag dR (ag (H0.o.2.1.an jb) (ag (H0.o.2.2.1.an jb) (H0.o.1.an jb)))));have j7:GN w2.drew pw R bd #[UE UL d.no,UE UL d.dev,UE UL d.kind,UE UL d.mode,UE UL d.uid,UE UL d.gid,UE UL d.mtime,UE UL d.ctime,UE UL d.ak,UE UL d.up,UF d.data,UG da dl dc]:=⟨(CZ.an hbd).bD,hA.an hbd⟩;clear av jb hA dR CZ hg hkk Eb hcase hG hdd
  go_cut [13,14] from 28 to 64 (fun t13 t14 wx=>∃bn:Nat,t13=UH (some ⟨bn,0,none⟩)∧t14=.bool is∧ax wx bn #[UE UL nd.no,UE UL nd.dev,UE UL nd.kind,UE UL nd.mode,UE UL nd.uid,UE UL nd.gid,UE UL nd.mtime,UE UL nd.ctime,UE UL nd.ak,UE UL nd.up,UF nd.data,UG na nl nc] 149∧w2.heap.size≤bn∧UA w2 wx)
  case first=>
   refine wp_region_held_drew (S:=fun w'=>GN w' pw R bd #[UE UL d.no,UE UL d.dev,UE UL d.kind,UE UL d.mode,UE UL d.uid,UE UL d.gid,UE UL d.mtime,UE UL d.ctime,UE UL d.ak,UE UL d.up,UF d.data,UG da dl dc]) (by kernel_rfl) j7 (fun bj=>?_);refine aL 7 [(0,29),(1,30),(2,31),(3,32),(4,33),(5,34),(6,35)] (by kernel_rfl) (by kernel_rfl) rfl (fun _ _ _ _ _ h=>h) bj ?_
   iterate 7 (apply aF rfl rfl;(· (intro w9 cL;obtain⟨s1,-,-⟩:=cL.w.facts;obtain⟨s2,-,-⟩:=cL.d.facts;clear cL;go_simp;(try with_reducible rfl)));simp only[ah,ai,aj])
   refine aK ?_;have hbz:=ao (Below.refl w2.drew.heap.size w2.drew) (.cells #[UE UL 0,UE UL 0,UE UL 0,UE UL 0,UE UL 0,UE UL 0,UE UL 0,UE UL 0,UE UL 0,UE UL 0,UF ⟨#[]⟩,UG none 0 0] 149);have PG:=ax.new w2.drew #[UE UL 0,UE UL 0,UE UL 0,UE UL 0,UE UL 0,UE UL 0,UE UL 0,UE UL 0,UE UL 0,UE UL 0,UF ⟨#[]⟩,UG none 0 0] 149;refine gx 7 36 12 13 (Wi:=w2.drew.alloc (.cells #[UE UL 0,UE UL 0,UE UL 0,UE UL 0,UE UL 0,UE UL 0,UE UL 0,UE UL 0,UE UL 0,UE UL 0,UF ⟨#[]⟩,UG none 0 0] 149)) (vi:=UH (some ⟨w2.drew.heap.size,0,none⟩)) (R:=fun v w'=>v=UE UL k∧Below w2.drew.heap.size w2.drew w') (by kernel_rfl) rfl rfl rfl rfl rfl rfl ?m1 (bj.an hbz) ?m2 (wV.o.mono (fun e w' ⟨he,hw⟩=>⟨_,he,rfl,hw⟩)) (fun v w' ⟨_,hw⟩=>bj.an hw) ?_ ?_
   case m1=>(go_simp;(try rfl))
   case m2=>(go_simp;(try rfl))
   ·simp only[ah,ai,aj];have PN:=bj.an hbz;have JB:=ar hbd hbz;have PO:=(gO d.au da dl dc s _ ((bS.o.an hbd).an hbz) HRi.o HRl.o);rw[NC.o] at PO;generalize w2.drew.alloc (.cells #[UE UL 0,UE UL 0,UE UL 0,UE UL 0,UE UL 0,UE UL 0,UE UL 0,UE UL 0,UE UL 0,UE UL 0,UF ⟨#[]⟩,UG none 0 0] 149)=wz at PN JB PG PO⊢;generalize hbn:w2.drew.heap.size=bn at PG⊢;have mm:w2.heap.size≤bn:=by rw[←hbn];exact hbd.size
    refine bN 7 36 (R:=fun v w'=>v=UE UL k∧UA wz w') (by kernel_rfl) rfl rfl rfl ?xa (PO.mono (fun e w' ⟨he,hw⟩=>⟨_,he,rfl,hw⟩)) (fun v w' ⟨_,hw⟩=>PN.an hw) ?_
    case xa=>(go_simp;(try rfl))
    rintro _ w3 ⟨rfl,cl⟩;simp only[ah,ai,aj];have rq:=PN.an cl;have mq:=ar JB cl;have Gd:=PG.an cl;refine bN 8 37 (R:=fun v w'=>v=UK #[UJ #[UE UL nd.no,UE UL nd.dev,UE UL nd.kind,UE UL nd.mode,UE UL nd.uid,UE UL nd.gid,UE UL nd.mtime,UE UL nd.ctime,UE UL nd.ak,UE UL nd.up,UF nd.data,UG na nl nc],.bool is]∧UA w3 w') (by kernel_rfl) rfl rfl rfl ?xb ((Qq.o w3 mq).mono (fun e w' ⟨he,hw⟩=>⟨_,he,rfl,hw⟩)) (fun v w' ⟨_,hw⟩=>rq.an hw) ?_
    case xb=>(go_simp;(try rfl))
    rintro _ w5 ⟨rfl,cK⟩;simp only[ah,ai,aj];have lW:=rq.an cK;have gj:=ar mq cK;have iH:=Gd.an cK;refine aL 3 [(9,28),(10,38),(11,39)] (by kernel_rfl) (by kernel_rfl) rfl (fun _ _ _ _ _ h=>h) lW ?_
    iterate 3 (apply aF rfl rfl;(· (intro w9 cL;clear cL;go_simp;(try with_reducible rfl)));simp only[ah,ai,aj])
    refine aK ?_;have oZ:=ev w5 bn (UE UL nd.no) (UE UL nd.dev) (UE UL nd.kind) (UE UL nd.mode) (UE UL nd.uid) (UE UL nd.gid) (UE UL nd.mtime) (UE UL nd.ctime) (UE UL nd.ak) (UE UL nd.up) (UF nd.data) (UG na nl nc);have tO:=iH.dY (v0:=UE UL nd.no) (v1:=UE UL nd.dev) (v2:=UE UL nd.kind) (v3:=UE UL nd.mode) (v4:=UE UL nd.uid) (v5:=UE UL nd.gid) (v6:=UE UL nd.mtime) (v7:=UE UL nd.ctime) (v8:=UE UL nd.ak) (v9:=UE UL nd.up) (v10:=UF nd.data) (v11:=UG na nl nc);have kq:GN ((((((((((((w5.setCell ⟨bn,0,none⟩ (UE UL nd.no)).setCell ⟨bn,1,none⟩ (UE UL nd.dev)).setCell ⟨bn,2,none⟩ (UE UL nd.kind)).setCell ⟨bn,3,none⟩ (UE UL nd.mode)).setCell ⟨bn,4,none⟩ (UE UL nd.uid)).setCell ⟨bn,5,none⟩ (UE UL nd.gid)).setCell ⟨bn,6,none⟩ (UE UL nd.mtime)).setCell ⟨bn,7,none⟩ (UE UL nd.ctime)).setCell ⟨bn,8,none⟩ (UE UL nd.ak)).setCell ⟨bn,9,none⟩ (UE UL nd.up)).setCell ⟨bn,10,none⟩ (UF nd.data)).setCell ⟨bn,11,none⟩ (UG na nl nc)) pw R bd #[UE UL d.no,UE UL d.dev,UE UL d.kind,UE UL d.mode,UE UL d.uid,UE UL d.gid,UE UL d.mtime,UE UL d.ctime,UE UL d.ak,UE UL d.up,UF d.data,UG da dl dc]:=⟨lW.w.mod oZ (fun e=>by have:=(HW.o.an (ar H2.o.2.1 gj)).bD.lt;have:=HW.o.bD.lt;have:=H2.o.2.1.size;omega),lW.d.mod oZ (fun e=>by have:=H2.o.1.lt;omega)⟩;refine dO 13 (W:=((((((((((((w5.setCell ⟨bn,0,none⟩ (UE UL nd.no)).setCell ⟨bn,1,none⟩ (UE UL nd.dev)).setCell ⟨bn,2,none⟩ (UE UL nd.kind)).setCell ⟨bn,3,none⟩ (UE UL nd.mode)).setCell ⟨bn,4,none⟩ (UE UL nd.uid)).setCell ⟨bn,5,none⟩ (UE UL nd.gid)).setCell ⟨bn,6,none⟩ (UE UL nd.mtime)).setCell ⟨bn,7,none⟩ (UE UL nd.ctime)).setCell ⟨bn,8,none⟩ (UE UL nd.ak)).setCell ⟨bn,9,none⟩ (UE UL nd.up)).setCell ⟨bn,10,none⟩ (UF nd.data)).setCell ⟨bn,11,none⟩ (UG na nl nc))) (by kernel_rfl) rfl rfl rfl ?st kq ?_
    case st=>(obtain⟨zc,zf,zw⟩:=iH.facts;go_simp;(try rfl))
    have jQ:=gj.trans (oZ.below (fun q hq=>by omega) gj.size);generalize World.setCell _ _ _=w6 at tO kq jQ⊢;refine aL 1 [(14,14)] (by kernel_rfl) (by kernel_rfl) rfl (fun _ _ _ _ _ h=>h) kq ?_
    iterate 1 (apply aF rfl rfl;(· (intro w9 cL;clear cL;go_simp;(try with_reducible rfl)));simp only[ah,ai,aj])
    refine aK ?_;refine wpAnyH_done (by kernel_rfl) ?_ _;have gm:=Ux (ag tO (ag mm jQ));clear tO mm jQ kq oZ iH lW gj;go_wp2_with fail;go_meet;exact⟨_,rfl,rfl,gm.o.1,gm.o.2.1,gm.o.2.2⟩
   ·rintro _ w3 ⟨rfl,cl⟩;simp only[ah,ai,aj];have rq:=bj.an cl;have mq:=ar hbd cl;have CS:=ao (UB w3) (.cells #[UE UL 0,UE UL 0,UE UL 0,UE UL 0,UE UL 0,UE UL 0,UE UL 0,UE UL 0,UE UL 0,UE UL 0,UF ⟨#[]⟩,UG none 0 0] 149);have C6:=ax.new w3 #[UE UL 0,UE UL 0,UE UL 0,UE UL 0,UE UL 0,UE UL 0,UE UL 0,UE UL 0,UE UL 0,UE UL 0,UF ⟨#[]⟩,UG none 0 0] 149;refine gx 8 37 12 13 (Wi:=w3.alloc (.cells #[UE UL 0,UE UL 0,UE UL 0,UE UL 0,UE UL 0,UE UL 0,UE UL 0,UE UL 0,UE UL 0,UE UL 0,UF ⟨#[]⟩,UG none 0 0] 149)) (vi:=UH (some ⟨w3.heap.size,0,none⟩)) (R:=fun v w'=>v=UK #[UJ #[UE UL nd.no,UE UL nd.dev,UE UL nd.kind,UE UL nd.mode,UE UL nd.uid,UE UL nd.gid,UE UL nd.mtime,UE UL nd.ctime,UE UL nd.ak,UE UL nd.up,UF nd.data,UG na nl nc],.bool is]∧UA w3 w') (by kernel_rfl) rfl rfl rfl rfl rfl rfl ?m3 (rq.an CS) ?m4 ((Qq.o w3 mq).mono (fun e w' ⟨he,hw⟩=>⟨_,he,rfl,hw⟩)) (fun v w' ⟨_,hw⟩=>rq.an hw) ?_ ?_
    case m3=>(go_simp;(try rfl))
    case m4=>(go_simp;(try rfl))
    ·simp only[ah,ai,aj];have C9:=rq.an CS;have tL:=ar mq CS;clear rq;generalize World.alloc _ _=wz at C9 tL C6⊢;generalize hbn:w3.heap.size=bn at C6⊢;have mm:w2.heap.size≤bn:=by rw[←hbn];exact mq.size
     have Gd:=C6;refine bN 8 37 (R:=fun v w'=>v=UK #[UJ #[UE UL nd.no,UE UL nd.dev,UE UL nd.kind,UE UL nd.mode,UE UL nd.uid,UE UL nd.gid,UE UL nd.mtime,UE UL nd.ctime,UE UL nd.ak,UE UL nd.up,UF nd.data,UG na nl nc],.bool is]∧UA wz w') (by kernel_rfl) rfl rfl rfl ?xb ((Qq.o wz tL).mono (fun e w' ⟨he,hw⟩=>⟨_,he,rfl,hw⟩)) (fun v w' ⟨_,hw⟩=>C9.an hw) ?_
     case xb=>(go_simp;(try rfl))
     rintro _ w5 ⟨rfl,cK⟩;simp only[ah,ai,aj];have lW:=C9.an cK;have gj:=ar tL cK;have iH:=Gd.an cK;refine aL 3 [(9,28),(10,38),(11,39)] (by kernel_rfl) (by kernel_rfl) rfl (fun _ _ _ _ _ h=>h) lW ?_
     iterate 3 (apply aF rfl rfl;(· (intro w9 cL;clear cL;go_simp;(try with_reducible rfl)));simp only[ah,ai,aj])
     refine aK ?_;have oZ:=ev w5 bn (UE UL nd.no) (UE UL nd.dev) (UE UL nd.kind) (UE UL nd.mode) (UE UL nd.uid) (UE UL nd.gid) (UE UL nd.mtime) (UE UL nd.ctime) (UE UL nd.ak) (UE UL nd.up) (UF nd.data) (UG na nl nc);have tO:=iH.dY (v0:=UE UL nd.no) (v1:=UE UL nd.dev) (v2:=UE UL nd.kind) (v3:=UE UL nd.mode) (v4:=UE UL nd.uid) (v5:=UE UL nd.gid) (v6:=UE UL nd.mtime) (v7:=UE UL nd.ctime) (v8:=UE UL nd.ak) (v9:=UE UL nd.up) (v10:=UF nd.data) (v11:=UG na nl nc);have kq:GN ((((((((((((w5.setCell ⟨bn,0,none⟩ (UE UL nd.no)).setCell ⟨bn,1,none⟩ (UE UL nd.dev)).setCell ⟨bn,2,none⟩ (UE UL nd.kind)).setCell ⟨bn,3,none⟩ (UE UL nd.mode)).setCell ⟨bn,4,none⟩ (UE UL nd.uid)).setCell ⟨bn,5,none⟩ (UE UL nd.gid)).setCell ⟨bn,6,none⟩ (UE UL nd.mtime)).setCell ⟨bn,7,none⟩ (UE UL nd.ctime)).setCell ⟨bn,8,none⟩ (UE UL nd.ak)).setCell ⟨bn,9,none⟩ (UE UL nd.up)).setCell ⟨bn,10,none⟩ (UF nd.data)).setCell ⟨bn,11,none⟩ (UG na nl nc)) pw R bd #[UE UL d.no,UE UL d.dev,UE UL d.kind,UE UL d.mode,UE UL d.uid,UE UL d.gid,UE UL d.mtime,UE UL d.ctime,UE UL d.ak,UE UL d.up,UF d.data,UG da dl dc]:=⟨lW.w.mod oZ (fun e=>by have:=(HW.o.an (ar H2.o.2.1 gj)).bD.lt;have:=HW.o.bD.lt;have:=H2.o.2.1.size;omega),lW.d.mod oZ (fun e=>by have:=H2.o.1.lt;omega)⟩;refine dO 13 (W:=((((((((((((w5.setCell ⟨bn,0,none⟩ (UE UL nd.no)).setCell ⟨bn,1,none⟩ (UE UL nd.dev)).setCell ⟨bn,2,none⟩ (UE UL nd.kind)).setCell ⟨bn,3,none⟩ (UE UL nd.mode)).setCell ⟨bn,4,none⟩ (UE UL nd.uid)).setCell ⟨bn,5,none⟩ (UE UL nd.gid)).setCell ⟨bn,6,none⟩ (UE UL nd.mtime)).setCell ⟨bn,7,none⟩ (UE UL nd.ctime)).setCell ⟨bn,8,none⟩ (UE UL nd.ak)).setCell ⟨bn,9,none⟩ (UE UL nd.up)).setCell ⟨bn,10,none⟩ (UF nd.data)).setCell ⟨bn,11,none⟩ (UG na nl nc))) (by kernel_rfl) rfl rfl rfl ?st kq ?_
     case st=>(obtain⟨zc,zf,zw⟩:=iH.facts;go_simp;(try rfl))
     have jQ:=gj.trans (oZ.below (fun q hq=>by omega) gj.size);generalize World.setCell _ _ _=w6 at tO kq jQ⊢;refine aL 1 [(14,14)] (by kernel_rfl) (by kernel_rfl) rfl (fun _ _ _ _ _ h=>h) kq ?_
     iterate 1 (apply aF rfl rfl;(· (intro w9 cL;clear cL;go_simp;(try with_reducible rfl)));simp only[ah,ai,aj])
     refine aK ?_;refine wpAnyH_done (by kernel_rfl) ?_ _;have gm:=Ux (ag tO (ag mm jQ));clear tO mm jQ kq oZ iH lW gj;go_wp2_with fail;go_meet;exact⟨_,rfl,rfl,gm.o.1,gm.o.2.1,gm.o.2.2⟩
    ·rintro _ w4 ⟨rfl,dM⟩;simp only[ah,ai,aj];have pJ:=rq.an dM;have tK:=ar mq dM;have CR:=ao (UB w4) (.cells #[UE UL 0,UE UL 0,UE UL 0,UE UL 0,UE UL 0,UE UL 0,UE UL 0,UE UL 0,UE UL 0,UE UL 0,UF ⟨#[]⟩,UG none 0 0] 149);have iH:=ax.new w4 #[UE UL 0,UE UL 0,UE UL 0,UE UL 0,UE UL 0,UE UL 0,UE UL 0,UE UL 0,UE UL 0,UE UL 0,UF ⟨#[]⟩,UG none 0 0] 149;refine aL 3 [(9,28),(10,38),(11,39)] (by kernel_rfl) (by kernel_rfl) rfl (fun _ _ _ _ _ h=>h) pJ ?_
     iterate 3 (apply aF rfl rfl;(· (intro w9 cL;clear cL;go_simp;(try with_reducible rfl)));simp only[ah,ai,aj])
     refine aK ?_;refine eY 12 13 (v:=UH (some ⟨w4.heap.size,0,none⟩)) (W:=w4.alloc (.cells #[UE UL 0,UE UL 0,UE UL 0,UE UL 0,UE UL 0,UE UL 0,UE UL 0,UE UL 0,UE UL 0,UE UL 0,UF ⟨#[]⟩,UG none 0 0] 149)) (by kernel_rfl) rfl rfl rfl ?m5 (pJ.an CR) ?_
     case m5=>(go_simp;(try rfl))
     simp only[ah,ai,aj];have lW:=pJ.an CR;have gj:=ar tK CR;generalize World.alloc _ _=w5 at lW gj iH⊢;generalize hbn:w4.heap.size=bn at iH⊢;have mm:w2.heap.size≤bn:=by rw[←hbn];exact tK.size
     have oZ:=ev w5 bn (UE UL nd.no) (UE UL nd.dev) (UE UL nd.kind) (UE UL nd.mode) (UE UL nd.uid) (UE UL nd.gid) (UE UL nd.mtime) (UE UL nd.ctime) (UE UL nd.ak) (UE UL nd.up) (UF nd.data) (UG na nl nc);have tO:=iH.dY (v0:=UE UL nd.no) (v1:=UE UL nd.dev) (v2:=UE UL nd.kind) (v3:=UE UL nd.mode) (v4:=UE UL nd.uid) (v5:=UE UL nd.gid) (v6:=UE UL nd.mtime) (v7:=UE UL nd.ctime) (v8:=UE UL nd.ak) (v9:=UE UL nd.up) (v10:=UF nd.data) (v11:=UG na nl nc);have kq:GN ((((((((((((w5.setCell ⟨bn,0,none⟩ (UE UL nd.no)).setCell ⟨bn,1,none⟩ (UE UL nd.dev)).setCell ⟨bn,2,none⟩ (UE UL nd.kind)).setCell ⟨bn,3,none⟩ (UE UL nd.mode)).setCell ⟨bn,4,none⟩ (UE UL nd.uid)).setCell ⟨bn,5,none⟩ (UE UL nd.gid)).setCell ⟨bn,6,none⟩ (UE UL nd.mtime)).setCell ⟨bn,7,none⟩ (UE UL nd.ctime)).setCell ⟨bn,8,none⟩ (UE UL nd.ak)).setCell ⟨bn,9,none⟩ (UE UL nd.up)).setCell ⟨bn,10,none⟩ (UF nd.data)).setCell ⟨bn,11,none⟩ (UG na nl nc)) pw R bd #[UE UL d.no,UE UL d.dev,UE UL d.kind,UE UL d.mode,UE UL d.uid,UE UL d.gid,UE UL d.mtime,UE UL d.ctime,UE UL d.ak,UE UL d.up,UF d.data,UG da dl dc]:=⟨lW.w.mod oZ (fun e=>by have:=(HW.o.an (ar H2.o.2.1 gj)).bD.lt;have:=HW.o.bD.lt;have:=H2.o.2.1.size;omega),lW.d.mod oZ (fun e=>by have:=H2.o.1.lt;omega)⟩;refine dO 13 (W:=((((((((((((w5.setCell ⟨bn,0,none⟩ (UE UL nd.no)).setCell ⟨bn,1,none⟩ (UE UL nd.dev)).setCell ⟨bn,2,none⟩ (UE UL nd.kind)).setCell ⟨bn,3,none⟩ (UE UL nd.mode)).setCell ⟨bn,4,none⟩ (UE UL nd.uid)).setCell ⟨bn,5,none⟩ (UE UL nd.gid)).setCell ⟨bn,6,none⟩ (UE UL nd.mtime)).setCell ⟨bn,7,none⟩ (UE UL nd.ctime)).setCell ⟨bn,8,none⟩ (UE UL nd.ak)).setCell ⟨bn,9,none⟩ (UE UL nd.up)).setCell ⟨bn,10,none⟩ (UF nd.data)).setCell ⟨bn,11,none⟩ (UG na nl nc))) (by kernel_rfl) rfl rfl rfl ?st kq ?_
     case st=>(obtain⟨zc,zf,zw⟩:=iH.facts;go_simp;(try rfl))
     have jQ:=gj.trans (oZ.below (fun q hq=>by omega) gj.size);generalize World.setCell _ _ _=w6 at tO kq jQ⊢;refine aL 1 [(14,14)] (by kernel_rfl) (by kernel_rfl) rfl (fun _ _ _ _ _ h=>h) kq ?_
     iterate 1 (apply aF rfl rfl;(· (intro w9 cL;clear cL;go_simp;(try with_reducible rfl)));simp only[ah,ai,aj])
     refine aK ?_;refine wpAnyH_done (by kernel_rfl) ?_ _;have gm:=Ux (ag tO (ag mm jQ));clear tO mm jQ kq oZ iH lW gj;go_wp2_with fail;go_meet;exact⟨_,rfl,rfl,gm.o.1,gm.o.2.1,gm.o.2.2⟩
  case rest=>
   obtain⟨bn,rfl,rfl,QQ,hbn,aJ⟩:=hcut;have hlt8:=H0.o.2.1.lt;have iN:Nn wc bd #[UE UL d.no,UE UL d.dev,UE UL d.kind,UE UL d.mode,UE UL d.uid,UE UL d.gid,UE UL d.mtime,UE UL d.ctime,UE UL d.ak,UE UL d.up,UF d.data,UG da dl dc] bn #[UE UL nd.no,UE UL nd.dev,UE UL nd.kind,UE UL nd.mode,UE UL nd.uid,UE UL nd.gid,UE UL nd.mtime,UE UL nd.ctime,UE UL nd.ak,UE UL nd.up,UF nd.data,UG na nl nc]:=⟨H2.o.1.an aJ,QQ⟩;have h8:=H2.o.2.2.1.an aJ;have h9:=H2.o.2.2.2.1.an aJ;have HB:=Ux (ag h8 (ag h9 (ar H2.o.2.1 aJ)));have BD:=Ux iN;have Lc:=Ux (H2.o.2.2.2.2.an aJ);have HXb:=Ux aJ;have Qv:=Ux (NI.o.an aJ);have HEd2:=Ux (bS.o.an aJ);rcases HCs.o with⟨hgn,rfl⟩|⟨hgn,rfl,rfl⟩
   ·have HL:=Ux (show S.dq c dir s=if S.aB nd.no≠nd.no then 16 else if nE c d nd=false then 4 else 0 by rw[Ou.o,if_neg (by simpa using Ky.o),HG.o];dsimp only;rw[NC.o,hgn]);have BI:=Ux hgn;have hmode:=(HK.o.get HG.o).1.mode;have pL:=Ux (fun w1 (av:UA wc w1)=>jB (HW.o.an (ar HB.o.2.2 av)) HK.o.d1 nd.no);have NH:=Ux (fun w1=>vR c d nd da na dl dc nl nc hmode w1);generalize nE c d nd=fr at HL NH;obtain⟨ov,hov⟩:∃q,S.aB nd.no=q:=⟨_,rfl⟩;rw[hov] at HL pL;clear hgn hov hmode QQ aJ h8 h9;have Mn:UA wc wc.drew:=(Below.refl _ _).drew;go_wp2_with fail;refine wp_region_held_drew (S:=fun w'=>Nn w' bd #[UE UL d.no,UE UL d.dev,UE UL d.kind,UE UL d.mode,UE UL d.uid,UE UL d.gid,UE UL d.mtime,UE UL d.ctime,UE UL d.ak,UE UL d.up,UF d.data,UG da dl dc] bn #[UE UL nd.no,UE UL nd.dev,UE UL nd.kind,UE UL nd.mode,UE UL nd.uid,UE UL nd.gid,UE UL nd.mtime,UE UL nd.ctime,UE UL nd.ak,UE UL nd.up,UF nd.data,UG na nl nc]) (by kernel_rfl) (iN.an Mn) (fun bj=>?_);refine aL 5 [(0,46),(1,47),(2,48),(4,50),(5,51)] (by kernel_rfl) (by kernel_rfl) rfl (fun _ _ _ _ _ h=>h) bj ?_
    iterate 5 (apply aF rfl rfl;(· (intro w9 cL;obtain⟨s1,-,-⟩:=cL.d.facts;obtain⟨s2,-,-⟩:=cL.n.facts;clear cL;go_simp;(try with_reducible rfl)));simp only[ah,ai,aj])
    refine aK ?_;refine bN 3 49 (R:=fun v w'=>v=UE UL ov∧Below wc.drew.heap.size wc.drew w') (by kernel_rfl) rfl rfl rfl ?ya ((pL.o _ Mn).mono (fun e w' ⟨he,hw⟩=>⟨_,he,rfl,hw⟩)) (fun v w' ⟨_,hw⟩=>bj.an hw) ?_
    case ya=>(go_simp;(try rfl))
    rintro _ w6 ⟨rfl,fp⟩;simp only[ah,ai,aj];have kq:=bj.an fp;have CX:=ar Mn fp;refine aL 2 [(6,52),(7,45)] (by kernel_rfl) (by kernel_rfl) rfl (fun _ _ _ _ _ h=>h) kq ?_
    iterate 2 (apply aF rfl rfl;(· (intro w9 cL;clear cL;go_simp;(try with_reducible rfl)));simp only[ah,ai,aj])
    refine aK ?_;refine wpAnyH_done (by kernel_rfl) ?_ _;have h8:=HB.o.1.an CX;have h9:=HB.o.2.1.an CX;have jJ:=Ux (ag h8 (ag h9 (ar HB.o.2.2 CX)));have OF:=Ux (ag (HEd2.o.an CX) (Qv.o.an CX));have Qc:=Ux kq;have JT:=Lc.o.an CX;obtain⟨cc,cf,cz⟩:=JT.facts;obtain⟨dc',df,dz⟩:=kq.d.facts;obtain⟨nc',nf,nz⟩:=kq.n.facts;obtain⟨rc8,rf8,rz8⟩:=h8.facts;obtain⟨rc9,rf9,rz9⟩:=h9.facts;have hbX6:=HXb.o;clear bj kq fp CX Mn h8 h9 JT iN;by_cases yl:ov≠nd.no
    ·have KH:=Ux (show S.dq c dir s=16 by rw[HL.o,if_pos yl]);have O5:(ov != nd.no)=true:=by simpa using yl
     clear yl;go_wp2_with fail;exact mR jJ.o.1 jJ.o.2.1 (by omega) rfl rfl rfl rfl KH.o (by decide) jJ.o.2.2 (by omega) (by omega)
    ·have O5:(ov != nd.no)=false:=by simpa using yl
     have Tt:=yl
     cases fr with
     |false=>
      have KH:=Ux (show S.dq c dir s=4 by rw[HL.o,if_neg yl,if_pos rfl]);clear yl Tt;go_wp2_with fail;refine(NH.o _).mono ?_;rintro e w7 ⟨rfl,lQ⟩;have h8:=jJ.o.1.an lQ;have h9:=jJ.o.2.1.an lQ;have pN:=Ux (ag h8 (ag h9 (ar jJ.o.2.2 lQ)));clear cc cf cz dc' df dz nc' nf nz rc8 rf8 rz8 rc9 rf9 rz9 lQ;obtain⟨rc8,rf8,rz8⟩:=h8.facts;obtain⟨rc9,rf9,rz9⟩:=h9.facts;clear h8 h9;go_wp2_with fail;exact mR pN.o.1 pN.o.2.1 (by omega) rfl rfl rfl rfl KH.o (by decide) pN.o.2.2 (by omega) (by omega)
     |true=>
      have KH:=Ux (show S.dq c dir s=0 by rw[HL.o,if_neg yl,if_neg (by decide)]);clear yl Tt;go_wp2_with fail;refine(NH.o _).mono ?_;rintro e w7 ⟨rfl,lQ⟩;have h8:=jJ.o.1.an lQ;have h9:=jJ.o.2.1.an lQ;have jf:=Qc.o.an lQ;have HSb:=Ux lQ;have pN:=Ux (ag h8 (ag h9 (ag (ar jJ.o.2.2 lQ) (ag (OF.o.1.an lQ) (OF.o.2.an lQ)))));clear cc cf cz dc' df dz nc' nf nz rc8 rf8 rz8 rc9 rf9 rz9 lQ;obtain⟨rc8,rf8,rz8⟩:=h8.facts;obtain⟨rc9,rf9,rz9⟩:=h9.facts;obtain⟨dc',df,dz⟩:=jf.d.facts;obtain⟨nc',nf,nz⟩:=jf.n.facts;clear h8 h9 jf;go_upto_region 11 with fail;have CU:UA w7 w7.drew:=(Below.refl _ _).drew;have h8:=pN.o.1.an CU;have h9:=pN.o.2.1.an CU;have jf:Nn w7.drew bd #[UE UL d.no,UE UL d.dev,UE UL d.kind,UE UL d.mode,UE UL d.uid,UE UL d.gid,UE UL d.mtime,UE UL d.ctime,UE UL d.ak,UE UL d.up,UF d.data,UG da dl dc] bn #[UE UL nd.no,UE UL nd.dev,UE UL nd.kind,UE UL nd.mode,UE UL nd.uid,UE UL nd.gid,UE UL nd.mtime,UE UL nd.ctime,UE UL nd.ak,UE UL nd.up,UF nd.data,UG na nl nc]:=(Qc.o.an HSb.o).an CU;have Rr:=Ux (ag h8 (ag h9 (ag (ar pN.o.2.2.1 CU) (ag (pN.o.2.2.2.1.an CU) (pN.o.2.2.2.2.an CU)))));clear rc8 rf8 rz8 rc9 rf9 rz9 dc' df dz nc' nf nz;refine wp_region_held_drew (S:=fun w'=>Nn w' bd #[UE UL d.no,UE UL d.dev,UE UL d.kind,UE UL d.mode,UE UL d.uid,UE UL d.gid,UE UL d.mtime,UE UL d.ctime,UE UL d.ak,UE UL d.up,UF d.data,UG da dl dc] bn #[UE UL nd.no,UE UL nd.dev,UE UL nd.kind,UE UL nd.mode,UE UL nd.uid,UE UL nd.gid,UE UL nd.mtime,UE UL nd.ctime,UE UL nd.ak,UE UL nd.up,UF nd.data,UG na nl nc]) (by kernel_rfl) jf (fun bj=>?_);refine aL 2 [(0,63),(1,64)] (by kernel_rfl) (by kernel_rfl) rfl (fun _ _ _ _ _ h=>h) bj ?_
      iterate 2 (apply aF rfl rfl;(· (intro w9 cL;obtain⟨s1,-,-⟩:=cL.d.facts;obtain⟨s2,-,-⟩:=cL.n.facts;clear cL;go_simp;(try with_reducible rfl)));simp only[ah,ai,aj])
      refine aK ?_;clear CU;generalize w7.drew=v7 at h8 h9 jf Rr bj⊢;have F2:=H0.o.2.2.1.lt;have hlo2:=H2.o.1.lt;have hM8:=ev v7 (w.heap.size+1) (UE UL d.no) (UE UL d.dev) (UE UL d.kind) (UE UL d.mode) (UE UL d.uid) (UE UL d.gid) (UE UL d.mtime) (UE UL d.ctime) (UE UL d.ak) (UE UL d.up) (UF d.data) (UG da dl dc);have C2:Nn ((((((((((((v7.setCell ⟨w.heap.size+1,0,none⟩ (UE UL d.no)).setCell ⟨w.heap.size+1,1,none⟩ (UE UL d.dev)).setCell ⟨w.heap.size+1,2,none⟩ (UE UL d.kind)).setCell ⟨w.heap.size+1,3,none⟩ (UE UL d.mode)).setCell ⟨w.heap.size+1,4,none⟩ (UE UL d.uid)).setCell ⟨w.heap.size+1,5,none⟩ (UE UL d.gid)).setCell ⟨w.heap.size+1,6,none⟩ (UE UL d.mtime)).setCell ⟨w.heap.size+1,7,none⟩ (UE UL d.ctime)).setCell ⟨w.heap.size+1,8,none⟩ (UE UL d.ak)).setCell ⟨w.heap.size+1,9,none⟩ (UE UL d.up)).setCell ⟨w.heap.size+1,10,none⟩ (UF d.data)).setCell ⟨w.heap.size+1,11,none⟩ (UG da dl dc)) bd #[UE UL d.no,UE UL d.dev,UE UL d.kind,UE UL d.mode,UE UL d.uid,UE UL d.gid,UE UL d.mtime,UE UL d.ctime,UE UL d.ak,UE UL d.up,UF d.data,UG da dl dc] bn #[UE UL nd.no,UE UL nd.dev,UE UL nd.kind,UE UL nd.mode,UE UL nd.uid,UE UL nd.gid,UE UL nd.mtime,UE UL nd.ctime,UE UL nd.ak,UE UL nd.up,UF nd.data,UG na nl nc]:=⟨bj.d.mod hM8 (fun e=>by omega),bj.n.mod hM8 (fun e=>by omega)⟩;refine dO 2 (W:=((((((((((((v7.setCell ⟨w.heap.size+1,0,none⟩ (UE UL d.no)).setCell ⟨w.heap.size+1,1,none⟩ (UE UL d.dev)).setCell ⟨w.heap.size+1,2,none⟩ (UE UL d.kind)).setCell ⟨w.heap.size+1,3,none⟩ (UE UL d.mode)).setCell ⟨w.heap.size+1,4,none⟩ (UE UL d.uid)).setCell ⟨w.heap.size+1,5,none⟩ (UE UL d.gid)).setCell ⟨w.heap.size+1,6,none⟩ (UE UL d.mtime)).setCell ⟨w.heap.size+1,7,none⟩ (UE UL d.ctime)).setCell ⟨w.heap.size+1,8,none⟩ (UE UL d.ak)).setCell ⟨w.heap.size+1,9,none⟩ (UE UL d.up)).setCell ⟨w.heap.size+1,10,none⟩ (UF d.data)).setCell ⟨w.heap.size+1,11,none⟩ (UG da dl dc))) (by kernel_rfl) rfl rfl rfl ?su C2 ?_
      case su=>(obtain⟨zc,zf,zw⟩:=h8.facts;go_simp;(try rfl))
      have h98:=h9.mod hM8 (by omega);generalize Mv:((((((((((((v7.setCell ⟨w.heap.size+1,0,none⟩ (UE UL d.no)).setCell ⟨w.heap.size+1,1,none⟩ (UE UL d.dev)).setCell ⟨w.heap.size+1,2,none⟩ (UE UL d.kind)).setCell ⟨w.heap.size+1,3,none⟩ (UE UL d.mode)).setCell ⟨w.heap.size+1,4,none⟩ (UE UL d.uid)).setCell ⟨w.heap.size+1,5,none⟩ (UE UL d.gid)).setCell ⟨w.heap.size+1,6,none⟩ (UE UL d.mtime)).setCell ⟨w.heap.size+1,7,none⟩ (UE UL d.ctime)).setCell ⟨w.heap.size+1,8,none⟩ (UE UL d.ak)).setCell ⟨w.heap.size+1,9,none⟩ (UE UL d.up)).setCell ⟨w.heap.size+1,10,none⟩ (UF d.data)).setCell ⟨w.heap.size+1,11,none⟩ (UG da dl dc))=w8 at C2 h98⊢;have JN:=ev w8 (w.heap.size+1+1) (UE UL nd.no) (UE UL nd.dev) (UE UL nd.kind) (UE UL nd.mode) (UE UL nd.uid) (UE UL nd.gid) (UE UL nd.mtime) (UE UL nd.ctime) (UE UL nd.ak) (UE UL nd.up) (UF nd.data) (UG na nl nc);have hS9:Nn ((((((((((((w8.setCell ⟨w.heap.size+1+1,0,none⟩ (UE UL nd.no)).setCell ⟨w.heap.size+1+1,1,none⟩ (UE UL nd.dev)).setCell ⟨w.heap.size+1+1,2,none⟩ (UE UL nd.kind)).setCell ⟨w.heap.size+1+1,3,none⟩ (UE UL nd.mode)).setCell ⟨w.heap.size+1+1,4,none⟩ (UE UL nd.uid)).setCell ⟨w.heap.size+1+1,5,none⟩ (UE UL nd.gid)).setCell ⟨w.heap.size+1+1,6,none⟩ (UE UL nd.mtime)).setCell ⟨w.heap.size+1+1,7,none⟩ (UE UL nd.ctime)).setCell ⟨w.heap.size+1+1,8,none⟩ (UE UL nd.ak)).setCell ⟨w.heap.size+1+1,9,none⟩ (UE UL nd.up)).setCell ⟨w.heap.size+1+1,10,none⟩ (UF nd.data)).setCell ⟨w.heap.size+1+1,11,none⟩ (UG na nl nc)) bd #[UE UL d.no,UE UL d.dev,UE UL d.kind,UE UL d.mode,UE UL d.uid,UE UL d.gid,UE UL d.mtime,UE UL d.ctime,UE UL d.ak,UE UL d.up,UF d.data,UG da dl dc] bn #[UE UL nd.no,UE UL nd.dev,UE UL nd.kind,UE UL nd.mode,UE UL nd.uid,UE UL nd.gid,UE UL nd.mtime,UE UL nd.ctime,UE UL nd.ak,UE UL nd.up,UF nd.data,UG na nl nc]:=⟨C2.d.mod JN (fun e=>by omega),C2.n.mod JN (fun e=>by omega)⟩;refine dO 3 (W:=((((((((((((w8.setCell ⟨w.heap.size+1+1,0,none⟩ (UE UL nd.no)).setCell ⟨w.heap.size+1+1,1,none⟩ (UE UL nd.dev)).setCell ⟨w.heap.size+1+1,2,none⟩ (UE UL nd.kind)).setCell ⟨w.heap.size+1+1,3,none⟩ (UE UL nd.mode)).setCell ⟨w.heap.size+1+1,4,none⟩ (UE UL nd.uid)).setCell ⟨w.heap.size+1+1,5,none⟩ (UE UL nd.gid)).setCell ⟨w.heap.size+1+1,6,none⟩ (UE UL nd.mtime)).setCell ⟨w.heap.size+1+1,7,none⟩ (UE UL nd.ctime)).setCell ⟨w.heap.size+1+1,8,none⟩ (UE UL nd.ak)).setCell ⟨w.heap.size+1+1,9,none⟩ (UE UL nd.up)).setCell ⟨w.heap.size+1+1,10,none⟩ (UF nd.data)).setCell ⟨w.heap.size+1+1,11,none⟩ (UG na nl nc))) (by kernel_rfl) rfl rfl rfl ?sv hS9 ?_
      case sv=>(obtain⟨zc,zf,zw⟩:=h98.facts;go_simp;(try rfl))
      refine aL 1 [(4,10)] (by kernel_rfl) (by kernel_rfl) rfl (fun _ _ _ _ _ h=>h) hS9 ?_
      iterate 1 (apply aF rfl rfl;(· (intro w9 cL;clear cL;go_simp;(try with_reducible rfl)));simp only[ah,ai,aj])
      refine aK ?_;refine wpAnyH_done (by kernel_rfl) ?_ _;clear hS9 JN h98 C2 hM8 bj jf h8 h9;subst Mv;go_wp2_with fail;exact CJ Rr.o.1 Rr.o.2.1 (by omega) rfl rfl rfl rfl KH.o HG.o (NC.o▸BI.o) Rr.o.2.2.2.1 Rr.o.2.2.2.2 Rr.o.2.2.1 (by omega) (by omega)
   ·have HL:=Ux (show S.dq c dir s=5 by rw[Ou.o,if_neg (by simpa using Ky.o),HG.o];dsimp only;rw[NC.o,hgn]);obtain⟨rc8,rf8,rz8⟩:=h8.facts;obtain⟨rc9,rf9,rz9⟩:=h9.facts;have hbX6:=HXb.o;clear hgn QQ aJ h8 h9 iN;go_wp2_with fail;exact mR HB.o.1 HB.o.2.1 (by omega) rfl rfl rfl rfl HL.o (by decide) HB.o.2.2 (by omega) (by omega)
end
end
section
open Go.RowKit
def fq(l:List En)(k:Int):Nat:=(l.filter fun e=>e.no==k).length
def one(a k:Int):Nat:=if a=k then 1 else 0
theorem Bb(k:Int):fq [] k=0:=rfl
theorem gP(e:En)(l:List En)(k:Int):fq (e::l) k=one e.no k+fq l k:=by
 unfold fq one;by_cases h:e.no=k
 ·rw[List.filter_cons_of_pos (by simpa using h),if_pos h,List.length_cons,Nat.add_comm]
 ·rw[List.filter_cons_of_neg (by simpa using h),if_neg h,Nat.zero_add]
theorem jS(a b:List En)(k:Int):fq (a++b) k=fq a k+fq b k:=by unfold fq;rw[List.filter_append,List.length_append]
def Fs.jc(S:Fs)(k:Int):Nat:=fq (S.ns.flatMap (·.au)) k
theorem xD{l:List En}(h:fL l){n:ByteArray}(hn:∀e∈l,e.name≠n)(no k:Int):fq (aV l n no) k=fq l k+one no k:=by
 have h1:l.filter (fun x=>!gA x.name n)=l.filter (fun x=>gA n x.name):=by
  apply List.filter_congr;intro x hx
  cases h2:gA x.name n with
  |true=>rw[kF h2];rfl
  |false=>
   cases h3:gA n x.name with
   |true=>rfl
   |false=>exact absurd (jF h2 h3) (hn x hx)
 have h2:∀(p:En→Bool) (m:List En),fq (m.filter p) k+fq (m.filter fun x=>!p x) k=fq m k:=by
  intro p m
  induction m with
  |nil=>rfl
  |cons x m ih=>
   cases hp:p x with
   |true=>rw[List.filter_cons_of_pos hp,List.filter_cons_of_neg (by simp[hp]),gP,gP];omega
   |false=>rw[List.filter_cons_of_neg (by simp[hp]),List.filter_cons_of_pos (by simp[hp]),gP,gP];omega
 unfold aV;rw[jS,gP,←h1];have:=h2 (fun x=>gA x.name n) l;show _+(one no k+_)=_;omega
theorem A5{l:List En}(h:fL l)(s:ByteArray)(k:Int)(hf:∀e∈l,e.no≠0):fq (aM l s) k+(if aw l s=0 then 0 else one (aw l s) k)=fq l k:=by
 induction l with
 |nil=>rfl
 |cons e l ih=>
  have h2:=List.pairwise_cons.1 h;have ih2:=ih h2.2 (fun x hx=>hf x (List.mem_cons_of_mem _ hx));have he:=hf e List.mem_cons_self;by_cases hs:e.name=s
  ·have hd:aM (e::l) s=l:=by
    unfold aM;rw[List.filter_cons_of_neg (by simp[hs]),List.filter_eq_self];intro x hx;have h3:=h2.1 x hx;simp only[Bool.not_eq_true',decide_eq_false_iff_not];intro e2;rw[hs,e2,eE] at h3
    cases h3
   have hfd:aw (e::l) s=e.no:=by unfold aw;rw[List.find?_cons];simp[hs]
   rw[hd,hfd,if_neg he,gP];omega
  ·have hd:aM (e::l) s=e::aM l s:=by unfold aM;rw[List.filter_cons_of_pos (by simp[hs])]
   have hfd:aw (e::l) s=aw l s:=by unfold aw;rw[List.find?_cons];simp[hs]
   rw[hd,hfd,gP,gP];omega
theorem o9(n k:Int)(a:An):∀(l:List An),(l.map (·.no)).Pairwise (· < ·)→∀b,l.find? (fun x=>x.no==n)=some b→
  fq ((l.map fun x=>if x.no==n then a else x).flatMap (·.au)) k+fq b.au k=fq (l.flatMap (·.au)) k+fq a.au k
 | [],_,b,h=>by cases h
 |x::l,hp,b,h=>by
  rw[List.map_cons] at hp;have Me:=List.pairwise_cons.1 hp;rw[List.find?_cons] at h;by_cases hx:x.no=n
  ·have hxb:(x.no==n)=true:=by simpa using hx
   rw[hxb] at h;injection h with h;subst h;have hid:(l.map fun y=>if y.no==n then a else y)=l:=by
    have:∀y∈l,(if(y.no==n)=true then a else y)=y:=fun y hy=>by
     have h3:=Me.1 y.no (List.mem_map_of_mem hy);rw[if_neg];simp only[beq_iff_eq];omega
    calc(l.map fun y=>if y.no==n then a else y)=l.map id:=List.map_congr_left this
     _=l:=List.map_id l
   rw[List.map_cons,if_pos hxb,hid,List.flatMap_cons,List.flatMap_cons,jS,jS];omega
  ·have hxb:(x.no==n)=false:=by simpa using hx
   rw[hxb] at h;have ih:=o9 n k a l Me.2 b h;rw[List.map_cons,if_neg (by rw[hxb];decide),List.flatMap_cons,List.flatMap_cons,jS,jS];omega
theorem Lt{S:Fs}(h:eU S){a b:An}(hb:S.get a.no=some b)(k:Int):(S.set a).jc k+fq b.au k=S.jc k+fq a.au k:=o9 a.no k a S.ns h.dB b hb
theorem Nj(S:Fs){a:An}(he:a.au=[])(k:Int):(S.add a).jc k=S.jc k:=by
 show fq ((S.ns++[({a with no:=S.last+1}:An)]).flatMap (·.au)) k=fq (S.ns.flatMap (·.au)) k;rw[List.flatMap_append,jS,List.flatMap_cons,List.flatMap_nil,List.append_nil,he,Bb,Nat.add_zero]
end
section
open Go.RowKit
def Fs.oq(S:Fs)(δ:Int→Int):Prop:=∀a∈S.ns,(S.jc a.no:Int)=(if S.root a.dev=a.no then 0 else a.ak)+δ a.no
def Fs.Lk(S:Fs):Prop:=S.oq fun _=>0
theorem Ls{S:Fs}{a x:An}(h:x∈(S.set a).ns):x=a∧(∃y∈S.ns,y.no=a.no)∨(x∈S.ns∧x.no≠a.no):=by
 unfold Fs.set at h;simp only[List.mem_map] at h;obtain⟨y,hy,rfl⟩:=h;by_cases hq:y.no=a.no
 ·rw[if_pos (by simpa using hq)];exact .inl ⟨rfl,y,hy,hq⟩
 ·rw[if_neg (by simpa using hq)];exact .inr ⟨hy,hq⟩
theorem Fs.oq.set{S:Fs}{δ ε:Int→Int}(h:S.oq δ)(hn:eU S){a b:An}(hb:S.get a.no=some b)(hd:a.dev=b.dev)
  (hε:∀k,ε k=δ k+(fq a.au k:Int)-(fq b.au k:Int)+(if k=a.no∧S.root a.dev≠a.no then b.ak-a.ak else 0)):(S.set a).oq ε:=fun x hx=>by
 have hc:=Lt hn hb x.no;have hr:(S.set a).root x.dev=S.root x.dev:=rfl;rw[hr];rcases Ls hx with⟨rfl,-⟩|⟨hx,hne⟩
 ·have h1:=h b (aO hb);have hbn:b.no=x.no:=bV hb;rw[hbn,←hd] at h1;have h2:=hε x.no;by_cases hq:S.root x.dev=x.no
  ·rw[if_neg (fun h=>h.2 hq)] at h2;rw[if_pos hq] at h1⊢;omega
  ·rw[if_pos ⟨rfl,hq⟩] at h2;rw[if_neg hq] at h1⊢;omega
 ·have h1:=h x hx;have h2:=hε x.no;rw[if_neg (fun h=>hne h.1)] at h2;omega
theorem Fs.oq.aP{S:Fs}{δ:Int→Int}(h:S.oq δ){d:Int}{v u:Dv}(hv:S.dev d=some v)(hr:u.root=v.root):(S.aP d u).oq δ:=fun x hx=>by
 rw[iQ hv hr];exact h x hx
theorem Eg{S:Fs}(h:Tr S){k:Int}(hk:S.get k=none):S.jc k=0:=by
 show((S.ns.flatMap (·.au)).filter fun e=>e.no==k).length=0;rw[List.length_eq_zero_iff,List.filter_eq_nil_iff];intro e he;obtain⟨a,ha,hea⟩:=List.mem_flatMap.1 he;obtain⟨b,hb,-⟩:=(h.row a ha).down e hea;intro hq;rw[beq_iff_eq] at hq;rw[hq,hk] at hb
 cases hb
theorem Fs.oq.add{S:Fs}{N:Nat}{δ:Int→Int}(h:S.oq δ)(hk:ay S N)(ht:Tr S){a:An}(he:a.au=[])(hr:S.root a.dev≤S.last) :
  (S.add a).oq fun k=>if k=S.last+1 then -a.ak else δ k:=fun x hx=>by
 rw[Nj S he];have hroot:(S.add a).root x.dev=S.root x.dev:=rfl;rw[hroot];rcases List.mem_append.1 hx with hx|hx
 ·have h1:=h x hx;have h2:=(hk.nums.low x hx).2;show(S.jc x.no:Int)=(if S.root x.dev=x.no then 0 else x.ak)+(if x.no=S.last+1 then -a.ak else δ x.no);rw[if_neg (show¬x.no=S.last+1 by omega)];exact h1
 ·simp at hx;subst hx;have h0:S.get (S.last+1)=none:=by
   cases hg:S.get (S.last+1) with
   |none=>rfl
   |some b=>have:=(hk.get hg).2.2.2;omega
  have h1:=Eg ht h0;show((S.jc (S.last+1):Nat):Int)=(if S.root a.dev=S.last+1 then 0 else a.ak)+(if S.last+1=S.last+1 then -a.ak else δ (S.last+1));rw[h1,if_neg (by omega),if_pos rfl];omega
theorem Fs.oq.del{S:Fs}{δ:Int→Int}(h:S.oq δ){k:Int}(he:∀a∈S.ns,a.no=k→a.au=[]):(S.del k).oq δ:=fun x hx=>by
 have hx':=List.mem_filter.1 hx;have hc:(S.del k).jc x.no=S.jc x.no:=by
  show fq ((S.ns.filter fun a=>!(a.no==k)).flatMap (·.au)) x.no=fq (S.ns.flatMap (·.au)) x.no;have:∀(l:List An),(∀a∈l,a.no=k→a.au=[])→(l.filter fun a=>!(a.no==k)).flatMap (·.au)=l.flatMap (·.au):=fun l hl=>by
   induction l with
   |nil=>rfl
   |cons y l ih=>
    have ih:=ih (fun a ha=>hl a (List.mem_cons_of_mem _ ha));by_cases hq:y.no=k
    ·rw[List.filter_cons_of_neg (by simp[hq]),List.flatMap_cons,hl y List.mem_cons_self hq,ih];rfl
    ·rw[List.filter_cons_of_pos (by simp[hq]),List.flatMap_cons,List.flatMap_cons,ih]
  rw[this _ he]
 rw[hc];exact h x hx'.1
end
section
open Go.RowKit
theorem FT{S:Fs}{N:Nat}(hk:ay S N)(a:An):eU (S.make a).1:=by
 unfold Fs.make
 split
 ·exact hk.nums
 ·split
  ·exact hk.nums
  ·dsimp only
   split
   ·exact eU.add (S:=S.aP a.dev _) ⟨hk.nums.dB,hk.nums.low⟩ hk.l0 a
   ·exact hk.nums
theorem Fs.oq.make{S:Fs}{N:Nat}{δ:Int→Int}(h:S.oq δ)(hk:ay S N)(ht:Tr S){a:An}(he:a.au=[])(hd:1≤a.dev∧a.dev≤S.ds.length)(h0:(S.make a).2.2=0) :
  (S.make a).1.oq fun k=>if k=S.last+1 then -a.ak else δ k:=by
 revert h0;unfold Fs.make
 split
 ·exact fun h=>absurd h (show¬(1:Int)=0 by decide)
 ·split
  ·exact fun h=>absurd h (show¬(1:Int)=0 by decide)
  ·rename_i v hv;dsimp only
   split
   ·intro _;have rL:=h.aP (u:={v with b:=v.b+cF a.kind a.data.size,n:=v.n+1}) hv rfl;have gM:=hk.aP (u:={v with b:=v.b+cF a.kind a.data.size,n:=v.n+1}) hv rfl;have FZ:=ht.aP (u:={v with b:=v.b+cF a.kind a.data.size,n:=v.n+1}) hv rfl rfl;refine rL.add gM FZ he ?_;rw[iQ (u:={v with b:=v.b+cF a.kind a.data.size,n:=v.n+1}) hv rfl];obtain⟨v2,-,hrt,-,hm⟩:=jr hk hd.1 hd.2;rw[hrt];exact(hk.root v2 hm).2
   ·rename_i h1;exact fun h2=>absurd h2 h1
theorem Fs.oq.aE{S:Fs}{δ ε:Int→Int}(h:S.oq δ)(hn:eU S)(now dir:Int)(l:List En){d:An}(hd:S.get dir=some d)(hε:∀k,ε k=δ k+(fq l k:Int)-(fq d.au k:Int)):(S.aE now dir l).oq ε:=by
 unfold Fs.aE;rw[hd];refine h.set hn (b:=d) (bH hd) rfl fun k=>?_;show ε k=_+(fq l k:Int)-_+(if k=d.no∧S.root d.dev≠d.no then d.ak-d.ak else 0);rw[hε k]
 split<;>omega
theorem qk{l:List En}(hz:∀x∈l,1≤x.no){s:ByteArray}(h:aw l s=0):∀e∈l,e.name≠s:=fun e he hs=>by
 unfold aw at h
 cases hf:l.find? (fun x=>decide (x.name=s)) with
 |none=>
  rw[List.find?_eq_none] at hf;exact hf e he (by simpa using hs)
 |some x=>
  rw[hf] at h;have:=hz x (List.mem_of_find?_eq_some hf);have h2:x.no=0:=h;omega
theorem Fs.Lk.bT{S:Fs}{N:Nat}(h:S.Lk)(hk:ay S N)(ht:Tr S){a:An}(c:Cr)(now dir:Int)(s:ByteArray)(he:a.au=[]):(S.bT c now dir s a).1.Lk:=by
 unfold Fs.bT
 split
 ·exact h
 ·rename_i hpl;obtain⟨d,hd,-⟩:=cD (by simpa using hpl);rw[hd];dsimp only;obtain⟨ho,hdn,-,hdl⟩:=hk.get hd
  split
  ·exact h
  ·rename_i hfd
   split
   ·exact h
   ·rename_i h0;have h0:(S.make {a with dev:=d.dev,uid:=c.u,gid:=c.g,mtime:=now,ctime:=now,ak:=1}).2.2=0:=by simpa using h0
    obtain⟨m1,-,m3⟩:=ht.make hk (a:={a with dev:=d.dev,uid:=c.u,gid:=c.g,mtime:=now,ctime:=now,ak:=1}) he;obtain⟨e1,-,-⟩:=m3 h0;have h1:=Fs.oq.make h hk ht (a:={a with dev:=d.dev,uid:=c.u,gid:=c.g,mtime:=now,ctime:=now,ak:=1}) he ho.dev h0;have hg:=oR hk.nums {a with dev:=d.dev,uid:=c.u,gid:=c.g,mtime:=now,ctime:=now,ak:=1} hd;rw[e1];have hN:eU (S.make {a with dev:=d.dev,uid:=c.u,gid:=c.g,mtime:=now,ctime:=now,ak:=1}).1:=FT hk _;refine h1.aE hN now dir _ hg fun k=>?_;rw[xD ho.dB (qk ho.nz (by simpa using hfd))];unfold one;by_cases hq:k=S.last+1
    ·subst hq;rw[if_pos rfl,if_pos rfl];show(0:Int)=-1+_-_;omega
    ·rw[if_neg hq,if_neg (fun h=>hq h.symm)];omega
theorem Fs.Lk.aN{S:Fs}{N:Nat}(h:S.Lk)(hk:ay S N)(ht:Tr S)(c:Cr)(now dir:Int)(s:ByteArray)(m:Int):(S.aN c now dir s m).1.Lk:=by
 unfold Fs.aN
 split
 ·exact h
 ·exact Fs.Lk.bT h hk ht c now dir s rfl
theorem Fs.Lk.file{S:Fs}{N:Nat}(h:S.Lk)(hk:ay S N)(ht:Tr S)(c:Cr)(now dir:Int)(s:ByteArray)(m:Int)(t:ByteArray):(S.file c now dir s m t).1.Lk:=by
 unfold Fs.file
 split
 ·exact h
 ·split
  ·exact h
  ·exact Fs.Lk.bT h hk ht c now dir s rfl
theorem Fs.Lk.sym{S:Fs}{N:Nat}(h:S.Lk)(hk:ay S N)(ht:Tr S)(c:Cr)(now dir:Int)(s t:ByteArray):(S.sym c now dir s t).1.Lk:=by
 unfold Fs.sym
 split
 ·exact h
 ·split
  ·exact h
  ·exact Fs.Lk.bT h hk ht c now dir s rfl
theorem tg{S:Fs}{N:Nat}(hk:ay S N)(ht:Tr S){k:Int}{n:An}(hn:S.get k=some n)(hd:n.kind≠1):S.root n.dev≠n.no:=fun e=>by
 obtain⟨ho,hnn,-⟩:=hk.get hn;obtain⟨v,hv,hrt,-,hm⟩:=jr hk ho.dev.1 ho.dev.2;obtain⟨i,hi,hiv⟩:=List.mem_iff_getElem.1 hm;obtain⟨r,hr,hrk,-⟩:=ht.NP i hi;rw[hiv,←hrt,e,hnn,hn] at hr;injection hr with hr;subst hr;exact hd hrk
theorem Fs.Lk.dV{S:Fs}{N:Nat}(h:S.Lk)(hk:ay S N)(ht:Tr S)(c:Cr)(now no dir:Int)(s:ByteArray):(S.dV c now no dir s).1.Lk:=by
 unfold Fs.dV
 split
 ·exact h
 ·rename_i hpl;obtain⟨d0,mY,hdk,-⟩:=cD (by simpa using hpl)
  split
  ·rename_i d n hd hn;rw[hd] at mY;injection mY with mY;subst mY
   split
   ·exact h
   ·rename_i hnk
    split
    ·exact h
    ·rename_i hfd
     split
     ·exact h
     ·split
      ·exact h
      ·obtain⟨ho,-,-,-⟩:=hk.get hd;have hno:=bV hn;have hset:S.get ({n with ak:=n.ak+1,ctime:=now}:An).no=some n:=bH hn;have h1:(S.set {n with ak:=n.ak+1,ctime:=now}).oq fun k=>if k=no then -1 else 0:=by
        refine Fs.oq.set h hk.nums hset rfl fun k=>?_;have hr:=tg hk ht hn hnk;show(if k=no then(-1:Int) else 0)=0+_-(fq n.au k:Int)+(if k=n.no∧S.root n.dev≠n.no then n.ak-(n.ak+1) else 0);rw[hno] at hr⊢;by_cases hq:k=no
        ·rw[if_pos hq,if_pos ⟨hq,hr⟩];show(-1:Int)=0+(fq n.au k:Int)-_+_;omega
        ·rw[if_neg hq,if_neg (fun h=>hq h.1)];show(0:Int)=0+(fq n.au k:Int)-_+_;omega
       have iG:(S.set {n with ak:=n.ak+1,ctime:=now}).get dir=some d:=by
        rw[fC hset,if_neg]
        ·exact hd
        ·intro e;have e:dir=n.no:=e;rw[e,bH hn] at hd;injection hd with hd;subst hd;exact hnk hdk
       refine h1.aE (hk.nums.set _) now dir _ iG fun k=>?_;rw[xD ho.dB (qk ho.nz (by simpa using hfd))];unfold one;by_cases hq:k=no
       ·rw[if_pos hq,if_pos hq.symm];omega
       ·rw[if_neg hq,if_neg (fun h=>hq h.symm)];omega
  ·exact h
theorem Fs.Lk.same{S:Fs}(h:S.Lk)(hn:eU S){a b:An}(hb:S.get a.no=some b)(hd:a.dev=b.dev)(he:a.au=b.au)(hl:a.ak=b.ak):(S.set a).Lk:=
 Fs.oq.set h hn hb hd fun k=>by
  rw[he,hl]
  split<;>omega
theorem Fs.Lk.cq{S:Fs}(h:S.Lk)(hn:eU S)(c:Cr)(now no m:Int):(S.cq c now no m).1.Lk:=by
 unfold Fs.cq
 split
 ·exact h
 ·rename_i n hg
  split
  ·exact h
  ·split
   ·exact h
   ·exact h.same hn (b:=n) (bH (S:=S) (n:=n) hg) rfl rfl rfl
theorem Fs.Lk.cy{S:Fs}(h:S.Lk)(hn:eU S)(c:Cr)(now no u g:Int):(S.cy c now no u g).1.Lk:=by
 unfold Fs.cy
 split
 ·exact h
 ·rename_i n hg
  split
  ·exact h
  ·split
   ·exact h
   ·split
    ·exact h
    ·exact h.same hn (b:=n) (bH (S:=S) (n:=n) hg) rfl rfl rfl
theorem Fs.Lk.ct{S:Fs}(h:S.Lk)(hn:eU S)(c:Cr)(now no t:Int):(S.ct c now no t).1.Lk:=by
 unfold Fs.ct
 split
 ·exact h
 ·rename_i n hg
  split
  ·exact h
  ·split
   ·exact h
   ·exact h.same hn (b:=n) (bH (S:=S) (n:=n) hg) rfl rfl rfl
end
section
open Go.RowKit
theorem Fs.Lk.aD{S:Fs}(h:S.Lk)(hn:eU S)(h0:0≤S.last)(hdev:∀a∈S.ns,a.dev≤S.ds.length)(ht:Tr S)(k b n:Int):(S.aD k b n).Lk:=fun x hx=>by
 have hc:∀q,(S.aD k b n).jc q=S.jc q:=fun q=>by
  show fq ((S.ns++[({dD with no:=S.last+1,dev:=S.ds.length+1,kind:=1,mode:=493,ak:=1,up:=S.last+1}:An)]).flatMap (·.au)) q=fq (S.ns.flatMap (·.au)) q;rw[List.flatMap_append,jS,List.flatMap_cons,List.flatMap_nil,List.append_nil];show _+fq [] q=_;rw[Bb,Nat.add_zero]
 rw[hc];rcases List.mem_append.1 hx with hx|hx
 ·rw[lG S k b n (hdev x hx)];exact h x hx
 ·simp at hx;subst hx;have hg:S.get (S.last+1)=none:=by
   cases hg:S.get (S.last+1) with
   |none=>rfl
   |some b=>have:=hn.low b (aO hg);have:=bV hg;omega
  have hr:(S.aD k b n).root ((S.ds.length:Int)+1)=S.last+1:=by
   unfold Fs.root Fs.aD;simp only[List.length_append,List.length_singleton];rw[if_pos ⟨by omega,by omega⟩];have:((S.ds.length:Int)+1-1).toNat=S.ds.length:=by omega
   rw[this,List.getElem?_append_right (aa _)];simp
  show((S.jc (S.last+1):Nat):Int)=(if(S.aD k b n).root ((S.ds.length:Int)+1)=S.last+1 then 0 else 1)+0;rw[Eg ht hg,if_pos hr];rfl
structure Fk(S:Fs)(N:Nat):Prop where
 ok:ay S N
 tr:Tr S
 lk:S.Lk
theorem Fk.mono{S:Fs}{N M:Nat}(h:Fk S N)(hM:N≤M):Fk S M:=⟨h.ok.mono hM,h.tr,h.lk⟩
theorem Fk.aN{S:Fs}{N:Nat}(h:Fk S N)(c:Cr)(now dir:Int)(s:ByteArray)(m:Int):Fk (S.aN c now dir s m).1 (N+1):=⟨gW h.ok c now dir s m,h.tr.aN h.ok c now dir s m,h.lk.aN h.ok h.tr c now dir s m⟩
theorem Fk.file{S:Fs}{N:Nat}(h:Fk S N)(c:Cr)(now dir:Int)(s:ByteArray)(m:Int)(t:ByteArray):Fk (S.file c now dir s m t).1 (N+1):=⟨yp h.ok c now dir s m t,h.tr.file h.ok c now dir s m t,h.lk.file h.ok h.tr c now dir s m t⟩
theorem Fk.sym{S:Fs}{N:Nat}(h:Fk S N)(c:Cr)(now dir:Int)(s t:ByteArray):Fk (S.sym c now dir s t).1 (N+1):=⟨Iv h.ok c now dir s t,h.tr.sym h.ok c now dir s t,h.lk.sym h.ok h.tr c now dir s t⟩
theorem Fk.dV{S:Fs}{N:Nat}(h:Fk S N)(c:Cr)(now no dir:Int)(s:ByteArray):Fk (S.dV c now no dir s).1 (N+1):=⟨D7 h.ok c now no dir s,h.tr.dV c now no dir s,h.lk.dV h.ok h.tr c now no dir s⟩
theorem Fk.cq{S:Fs}{N:Nat}(h:Fk S N)(c:Cr)(now no m:Int):Fk (S.cq c now no m).1 N:=⟨Be h.ok c now no m,h.tr.cq c now no m,h.lk.cq h.ok.nums c now no m⟩
theorem Fk.cy{S:Fs}{N:Nat}(h:Fk S N)(c:Cr)(now no u g:Int):Fk (S.cy c now no u g).1 N:=⟨po h.ok c now no u g,h.tr.cy c now no u g,h.lk.cy h.ok.nums c now no u g⟩
theorem Fk.ct{S:Fs}{N:Nat}(h:Fk S N)(c:Cr)(now no t:Int):Fk (S.ct c now no t).1 N:=⟨zx h.ok c now no t,h.tr.ct c now no t,h.lk.ct h.ok.nums c now no t⟩
theorem Fk.bR{S:Fs}{N:Nat}(h:Fk S N)(k b n:Int):Fk (S.bR k b n).1 (N+1):=by
 refine⟨h.ok.bR k b n,h.tr.bR h.ok k b n,?_⟩;unfold Fs.bR
 split
 ·exact h.lk
 ·split
  ·exact h.lk
  ·split
   ·exact h.lk
   ·split
    ·exact h.lk
    ·exact h.lk.aD h.ok.nums h.ok.l0 (fun a ha=>(h.ok.all a ha).dev.2) h.tr k b n
theorem Fk.bP{S:Fs}{N:Nat}(h:Fk S N)(m:Mt):Fk (bP S m) (N+2):=by
 unfold Go.Proofs.YtabbjaomlmnnhaaGreat.bP
 split
 ·exact h.mono (by omega)
 ·split
  ·have h1:=h.aN cw 0 (S.path cw m.path false).1.dir (S.path cw m.path false).1.name 493;dsimp only
   split
   ·exact h1.mono (by omega)
   ·exact h1.bR _ _ _
  ·exact(h.bR _ _ _).mono (by omega)
theorem Fk.aR{S:Fs}{N:Nat}(h:Fk S N)(l:List Mt):Fk (aR S l) (N+2*l.length):=by
 induction l generalizing S N with
 |nil=>exact h
 |cons m l ih=>
  unfold Go.Proofs.YtabbjaomlmnnhaaGreat.aR;by_cases hm:m.path=kv
  ·rw[if_pos hm];exact(ih h).mono (by rw[List.length_cons];omega)
  ·rw[if_neg hm];exact(ih (h.bP m)).mono (by rw[List.length_cons];omega)
theorem Fk.cj{S:Fs}{N:Nat}(h:Fk S N)(it:It):Fk (cj S it).1 (N+1):=by
 unfold Go.Proofs.YtabbjaomlmnnhaaGreat.cj;dsimp only;have h1:=h.mono (Nat.le_succ N)
 split
 ·exact h1
 ·split
  ·split<;>exact h1
  ·split
   ·exact h.aN _ _ _ _ _
   ·split
    ·exact h.file _ _ _ _ _ _
    ·split
     ·exact h.sym _ _ _ _ _
     ·split
      ·split
       ·exact h.dV _ _ _ _ _
       ·exact h1
      ·exact h1
theorem Fk.dL{S:Fs}{N:Nat}(h:Fk S N)(it:It):Fk (dL S it).1 (N+1):=by
 unfold Go.Proofs.YtabbjaomlmnnhaaGreat.dL;have h1:=h.cj it;dsimp only
 split
 ·exact(h1.cy _ _ _ _ _).cq _ _ _ _
 ·exact h1
theorem Fk.br{S:Fs}{N:Nat}(h:Fk S N)(l:List It):Fk (br S l).1 (N+l.length):=by
 induction l generalizing S N with
 |nil=>exact h
 |cons x l ih=>exact(ih (h.dL x)).mono (by rw[List.length_cons];omega)
theorem Fk.bO{S:Fs}{N:Nat}(h:Fk S N)(l:List (It×Int)):Fk (bO S l) N:=by
 induction l generalizing S with
 |nil=>exact h
 |cons x l ih=>
  unfold Go.Proofs.YtabbjaomlmnnhaaGreat.bO;refine ih ?_
  split
  ·exact h.ct _ _ _ _
  ·exact h
theorem I2(ms:List Mt)(is:List It):Fk (db ms is) (1+2*ms.length+is.length):=by
 unfold db;dsimp only;have h0:Fk (qh.aD 0 (be ms).1 (be ms).2) 1:=⟨ay.new _ _,Tr.new _ _,Fs.Lk.aD (S:=qh) (fun x hx=>by cases hx) ⟨List.Pairwise.nil,fun x hx=>by cases hx⟩ (Int.le_refl _) (fun x hx=>by cases hx) ⟨fun x hx=>(by cases hx),fun x hx=>(by cases hx),fun d hd=>(by cases hd),fun i hi=>(by cases hi)⟩ 0 _ _⟩;exact((h0.aR ms).br is).bO _
end
end Go.Proofs.YtabbjaomlmnnhaaGreat
