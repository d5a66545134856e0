import Derived.Deep.CutBlock
import Derived.Deep.DeepCutAuto
import Derived.Test.YtabbjaomlmnnhaaGreatCO24
set_option linter.unusedVariables false
set_option linter.unusedSimpArgs false
set_option maxRecDepth 100000
set_option maxHeartbeats 16000000
namespace Go.Proofs.YtabbjaomlmnnhaaGreat
open Go.Value renaming int→UE,string→UF,slice→UG,pointer→UH,agg→UJ,tuple→UK
open Go.IntKind renaming i64→UL
section
open Go.RowKit
theorem Je{S x:Fs}{E:Int×Bool}{fw:Fs×Int}(h:fw=if E.1≠0 then(S,E.1) else if E.2=true then(S,0) else(x,0)):(∀k:Int,k≠0→E=(k,false)→fw=(S,k))∧(E=(0,true)→fw=(S,0))∧(E=(0,false)→fw=(x,0)):=by
 subst h;refine⟨fun k hk e=>?_,fun e=>?_,fun e=>?_⟩
 ·subst e;exact if_pos hk
 ·subst e;rfl
 ·subst e;rfl
section
variable{S:Fs}{c:Cr}{src dst:Int}{d n t:An}{bI:Option An}
theorem LX(h:d.dev≠t.dev):S.gp c src dst d n t bI=(11,false):=by unfold Fs.gp;rw[if_pos h]
theorem LW(h:d.dev=t.dev)(hn:n.kind=1)(hw:S.dI n.no (S.ns.length+1) dst=true):S.gp c src dst d n t bI=(17,false):=by unfold Fs.gp;rw[if_neg (fun q=>q h),if_pos ⟨hn,hw⟩]
theorem DY(h:d.dev=t.dev)(hw:¬(n.kind=1∧S.dI n.no (S.ns.length+1) dst=true)){o:An}(ho:bI=some o)(hs:o.no=n.no):S.gp c src dst d n t bI=(0,true):=by
 unfold Fs.gp;rw[if_neg (fun q=>q h),if_neg hw,if_pos (by rw[ho];simpa using hs)]
theorem DX(h:d.dev=t.dev)(hw:¬(n.kind=1∧S.dI n.no (S.ns.length+1) dst=true))(hs:∀o,bI=some o→o.no≠n.no)(ha:n.kind=1∧src≠dst∧n.may c 2=false):S.gp c src dst d n t bI=(6,false):=by
 have hx:¬(bI.any (fun o=>o.no==n.no)=true):=by cases bI with|none=>simp|some o=>simpa using hs o rfl
 unfold Fs.gp;rw[if_neg (fun q=>q h),if_neg hw,if_neg hx,if_pos ha]
theorem mP(h:d.dev=t.dev)(hw:¬(n.kind=1∧S.dI n.no (S.ns.length+1) dst=true))(hs:∀o,bI=some o→o.no≠n.no)(ha:¬(n.kind=1∧src≠dst∧n.may c 2=false)):S.gp c src dst d n t bI=S.NQ c t n bI:=by
 have hx:¬(bI.any (fun o=>o.no==n.no)=true):=by cases bI with|none=>simp|some o=>simpa using hs o rfl
 unfold Fs.gp;rw[if_neg (fun q=>q h),if_neg hw,if_neg hx,if_neg ha]
 cases bI<;>rfl
theorem FJ{o:An}(h:S.kC c t n o=0):o.au=[]:=by
 unfold Fs.kC at h;by_cases h1:S.aB o.no≠o.no
 ·rw[if_pos h1] at h;cases h
 rw[if_neg h1] at h;by_cases h2:n.kind=1∧o.kind≠1
 ·rw[if_pos h2] at h;cases h
 rw[if_neg h2] at h;by_cases h3:n.kind≠1∧o.kind=1
 ·rw[if_pos h3] at h;cases h
 rw[if_neg h3] at h;by_cases h4:o.au≠[]
 ·rw[if_pos h4] at h;cases h
 exact Classical.not_not.1 h4
theorem wG{es:List En}{s:ByteArray}(h:aw es s≠0):es≠[]:=by
 rintro rfl;exact h rfl
end
structure Q4(w':World)(bc bd bt bo:Nat)(cs ds ns ts os:Array Value):Prop where
 c:ax w' bc cs 64
 d:ax w' bd ds 149
 n:ax w' (bd+1) ns 149
 t:ax w' bt ts 149
 o:ax w' bo os 149
theorem Q4.an{w w':World}{bc bd bt bo:Nat}{cs ds ns ts os:Array Value}(h:Q4 w bc bd bt bo cs ds ns ts os)(hb:UA w w'):Q4 w' bc bd bt bo cs ds ns ts os:=⟨h.c.an hb,h.d.an hb,h.n.an hb,h.t.an hb,h.o.an hb⟩
section
variable{w w':World}{pw:Nat}{R:Rp}{S:Fs}
theorem EA(h:bB w pw R S){M:Nat}(hk:ay S M)(hM:M≤99998)(c:Cr)(now src:Int)(a:ByteArray)(dst:Int)(b:ByteArray)(ha:a.size≤9223372036854775807)(hbs:b.size≤9223372036854775807)
  (hol:∀t o,S.get dst=some t→S.get (aw t.au b)=some o→1≤o.ak)
  (hWi:∀d n,S.get src=some d→S.get (aw d.au a)=some n→n.kind=1→∀w1,UA w w1→Calls Tryz.prog 113 #[UH (some ⟨pw,0,none⟩),UE UL dst,UE UL n.no] w1 fun e w'=>e=.returned (.bool (S.dI n.no (S.ns.length+1) dst))∧UA w1 w') :
  Calls Tryz.prog 75 #[UH (some ⟨pw,0,none⟩),UJ #[UE UL c.u,UE UL c.g],UE UL now,UE UL src,UF a,UE UL dst,UF b] w fun e w'=>e=.returned (UE UL (S.dP c now src a dst b).2)∧∃R',bB w' pw R' (S.dP c now src a dst b).1∧aS (R.F pw) (R'.F pw) w w':=by
 obtain⟨hC,lP⟩:=Uz w #[UE UL c.u,UE UL c.g] 64;have HLv:=Ux (fun w1 (av:UA w w1)=>r' (h.an av) hk (by omega) c src a ha);have HP:=Ux (fun w1 (av:UA w w1)=>mO (h.an av) hk c dst b hbs);have HW:=Ux h;have HK:=Ux hk;have HOl:=Ux hol;have HWi:=Ux hWi;have HF:=Ux (show S.dP c now src a dst b=if S.dq c src a≠0 then(S,S.dq c src a) else if S.aX c dst b≠0 then(S,S.aX c dst b) else
  match S.get src,S.get (aw (S.aI src) a),S.get dst with
  |some d,some n,some t=>
   if(S.gp c src dst d n t (S.get (aw t.au b))).1≠0 then(S,(S.gp c src dst d n t (S.get (aw t.au b))).1)
   else if(S.gp c src dst d n t (S.get (aw t.au b))).2=true then(S,0)
   else(S.shift now src a dst b d n (S.get (aw t.au b)),0)
  |_,_,_=>(S,5) from rfl)
 generalize S.dP c now src a dst b=fw at HF⊢;clear h hk hol hWi;go_enter Tryz.func75,Tryz.ntmps75;go_upto_region 1 with fail;generalize w.alloc _=X at hC lP⊢;obtain⟨cc,cf,cz⟩:=hC.facts;have H0:=Ux (ag hC lP);clear hC lP;go_wp2_with fail;refine(HLv.o _ H0.o.2).mono ?_;rintro e u1 ⟨d,n,da,dl,dc,na,nl,nc,rfl,hcond,av⟩;by_cases hle:S.dq c src a=0
 ·obtain⟨hgd,hgn,ML,Eb⟩:=hcond hle;have heo:S.aI src=d.au:=by unfold Fs.aI;rw[hgd]
  have MK:=HF.o;rw[if_neg (fun q=>q hle),heo,hgd,hgn] at MK;have OD:=Ux MK;have OA:=Ux (ag hgd hgn);have eA:=Ux (ag ML Eb);rw[hle];obtain⟨hD,hN,mo⟩:=iJ u1 #[UE UL d.no,UE UL d.dev,UE UL d.kind,UE UL d.mode,UE UL d.uid,UE UL d.gid,UE UL d.mtime,UE UL d.ctime,UE UL d.ak,UE UL d.up,UF d.data,UG da dl dc] #[UE UL n.no,UE UL n.dev,UE UL n.kind,UE UL n.mode,UE UL n.uid,UE UL n.gid,UE UL n.mtime,UE UL n.ctime,UE UL n.ak,UE UL n.up,UF n.data,UG na nl nc] 149 149;clear hcond hgd hgn ML Eb heo MK hle cc cf cz;go_upto_region 2 with fail;generalize World.alloc _ _=u2 at hD hN mo⊢;have ju:=ar av mo;have u4:=H0.o.1.an ju;have ij:=av.size;generalize u1.heap.size=bd at hD hN ij⊢;have G2:=Ux (ag hD (ag hN (ag u4 (ag (ar H0.o.2 ju) (ag (eA.o.1.an mo) (eA.o.2.an mo))))));obtain⟨cc,cf,cz⟩:=u4.facts;have hltd:=hD.lt;have hltn:=hN.lt;have hltc:=H0.o.1.lt;clear av mo ju hD hN u4;go_wp2_with fail;refine(HP.o _ G2.out.2.2.2.1).mono ?_;rintro e u3 ⟨⟨NY,rfl⟩|⟨NY,t,ta,tl,tc,Pq,rfl,hEt⟩,cl⟩
  ·have hzb:(S.aX c dst b != 0)=true:=by simpa using NY
   have HE:=Ux (show fw=(S,S.aX c dst b) from OD.o.trans (if_pos NY));have gn:=Ux (ar G2.out.2.2.2.1 cl);generalize S.aX c dst b=pe at hzb HE;unfold An.v dD;clear NY cl cc cf cz;go_wp2_with fail;go_ret;rw[HE.o];exact⟨rfl,R,HW.o.an (ao gn.o _),aS.aq (ao gn.o _)⟩
  have MJ:=OD.o;rw[if_neg (fun q=>q NY),Pq] at MJ;have Ev:=Ux MJ;have Rq:=Ux Pq;unfold An.v;have hT:=ax.new u3 #[UE UL t.no,UE UL t.dev,UE UL t.kind,UE UL t.mode,UE UL t.uid,UE UL t.gid,UE UL t.mtime,UE UL t.ctime,UE UL t.ak,UE UL t.up,UF t.data,UG ta tl tc] 149;have Mo:=ao cl (.cells #[UE UL t.no,UE UL t.dev,UE UL t.kind,UE UL t.mode,UE UL t.uid,UE UL t.gid,UE UL t.mtime,UE UL t.ctime,UE UL t.ak,UE UL t.up,UF t.data,UG ta tl tc] 149);have tH:=cl.size;have HEt:=Ux hEt;clear Pq hEt cc cf cz NY MJ;go_upto_region 7 with fail;generalize u3.alloc _=w2 at hT Mo⊢;generalize u3.heap.size=bt at hT tH⊢;have dR:=ar G2.out.2.2.2.1 Mo;have hltt:=hT.lt;have CZ:=HW.o.an dR;have htd:=HK.o.get Rq.o;have H2:=Ux (ag hT (ag dR (ag (G2.out.1.an Mo) (ag (G2.out.2.1.an Mo) (ag (G2.out.2.2.1.an Mo) (ag (G2.out.2.2.2.2.1.an Mo) (G2.out.2.2.2.2.2.an Mo)))))));have bS:=Ux (HEt.o.an Mo);have hbd:UA w2 w2.drew:=(Below.refl _ _).drew;obtain⟨k,hkk⟩:∃k,aw t.au b=k:=⟨_,rfl⟩;have NC:=Ux hkk;have HRi:=Ux htd.1.dB;have HRl:=Ux (show tl≤1000000 by have:=bS.o.len;have:=htd.1.lR;omega);have wV:=Ux (gO t.au ta tl tc b w2.drew (bS.o.an hbd) htd.1.dB HRl.o);rw[hkk] at wV;obtain⟨nd,oa,ol,oc,is,hEo,hcase,hG⟩:=Ib CZ k;have HCs:=Ux (ag hcase hEo);have Qq:=Ux hG;have j7:GN w2.drew pw R bt #[UE UL t.no,UE UL t.dev,UE UL t.kind,UE UL t.mode,UE UL t.uid,UE UL t.gid,UE UL t.mtime,UE UL t.ctime,UE UL t.ak,UE UL t.up,UF t.data,UG ta tl tc]:=⟨(CZ.an hbd).bD,hT.an hbd⟩;clear cl Mo hT dR CZ hkk hEo hcase hG htd
  go_cut [19,20] from 47 to 157 (fun t19 t20 wx=>∃bo:Nat,t19=UH (some ⟨bo,0,none⟩)∧t20=.bool is∧ax wx bo #[UE UL nd.no,UE UL nd.dev,UE UL nd.kind,UE UL nd.mode,UE UL nd.uid,UE UL nd.gid,UE UL nd.mtime,UE UL nd.ctime,UE UL nd.ak,UE UL nd.up,UF nd.data,UG oa ol oc] 149∧w2.heap.size≤bo∧UA w2 wx)
  case first=>
   refine wp_region_held_drew (S:=fun w'=>GN w' pw R bt #[UE UL t.no,UE UL t.dev,UE UL t.kind,UE UL t.mode,UE UL t.uid,UE UL t.gid,UE UL t.mtime,UE UL t.ctime,UE UL t.ak,UE UL t.up,UF t.data,UG ta tl tc]) (by kernel_rfl) j7 (fun bj=>?_);refine aL 7 [(0,48),(1,49),(2,50),(3,51),(4,52),(5,53),(6,54)] (by kernel_rfl) (by kernel_rfl) rfl (fun _ _ _ _ _ h=>h) bj ?_
   iterate 7 (apply aF rfl rfl;(· (intro w9 cL;obtain⟨s1,-,-⟩:=cL.w.facts;obtain⟨s2,-,-⟩:=cL.d.facts;clear cL;go_simp;(try with_reducible rfl)));simp only[ah,ai,aj])
   refine aK ?_;have hbz:=ao (Below.refl w2.drew.heap.size w2.drew) (.cells #[UE UL 0,UE UL 0,UE UL 0,UE UL 0,UE UL 0,UE UL 0,UE UL 0,UE UL 0,UE UL 0,UE UL 0,UF ⟨#[]⟩,UG none 0 0] 149);have PG:=ax.new w2.drew #[UE UL 0,UE UL 0,UE UL 0,UE UL 0,UE UL 0,UE UL 0,UE UL 0,UE UL 0,UE UL 0,UE UL 0,UF ⟨#[]⟩,UG none 0 0] 149;refine gx 7 55 12 19 (Wi:=w2.drew.alloc (.cells #[UE UL 0,UE UL 0,UE UL 0,UE UL 0,UE UL 0,UE UL 0,UE UL 0,UE UL 0,UE UL 0,UE UL 0,UF ⟨#[]⟩,UG none 0 0] 149)) (vi:=UH (some ⟨w2.drew.heap.size,0,none⟩)) (R:=fun v w'=>v=UE UL k∧Below w2.drew.heap.size w2.drew w') (by kernel_rfl) rfl rfl rfl rfl rfl rfl ?m1 (bj.an hbz) ?m2 (wV.o.mono (fun e w' ⟨he,hw⟩=>⟨_,he,rfl,hw⟩)) (fun v w' ⟨_,hw⟩=>bj.an hw) ?_ ?_
   case m1=>(go_simp;(try rfl))
   case m2=>(go_simp;(try rfl))
   ·simp only[ah,ai,aj];have PN:=bj.an hbz;have JB:=ar hbd hbz;have PO:=(gO t.au ta tl tc b _ ((bS.o.an hbd).an hbz) HRi.o HRl.o);rw[NC.o] at PO;generalize w2.drew.alloc (.cells #[UE UL 0,UE UL 0,UE UL 0,UE UL 0,UE UL 0,UE UL 0,UE UL 0,UE UL 0,UE UL 0,UE UL 0,UF ⟨#[]⟩,UG none 0 0] 149)=wz at PN JB PG PO⊢;generalize hbn:w2.drew.heap.size=bo at PG⊢;have mm:w2.heap.size≤bo:=by rw[←hbn];exact hbd.size
    refine bN 7 55 (R:=fun v w'=>v=UE UL k∧UA wz w') (by kernel_rfl) rfl rfl rfl ?xa (PO.mono (fun e w' ⟨he,hw⟩=>⟨_,he,rfl,hw⟩)) (fun v w' ⟨_,hw⟩=>PN.an hw) ?_
    case xa=>(go_simp;(try rfl))
    rintro _ w3 ⟨rfl,cl⟩;simp only[ah,ai,aj];have rq:=PN.an cl;have mq:=ar JB cl;have Gd:=PG.an cl;refine bN 8 56 (R:=fun v w'=>v=UK #[UJ #[UE UL nd.no,UE UL nd.dev,UE UL nd.kind,UE UL nd.mode,UE UL nd.uid,UE UL nd.gid,UE UL nd.mtime,UE UL nd.ctime,UE UL nd.ak,UE UL nd.up,UF nd.data,UG oa ol oc],.bool is]∧UA w3 w') (by kernel_rfl) rfl rfl rfl ?xb ((Qq.o w3 mq).mono (fun e w' ⟨he,hw⟩=>⟨_,he,rfl,hw⟩)) (fun v w' ⟨_,hw⟩=>rq.an hw) ?_
    case xb=>(go_simp;(try rfl))
    rintro _ w5 ⟨rfl,cK⟩;simp only[ah,ai,aj];have lW:=rq.an cK;have gj:=ar mq cK;have iH:=Gd.an cK;refine aL 3 [(9,47),(10,57),(11,58)] (by kernel_rfl) (by kernel_rfl) rfl (fun _ _ _ _ _ h=>h) lW ?_
    iterate 3 (apply aF rfl rfl;(· (intro w9 cL;clear cL;go_simp;(try with_reducible rfl)));simp only[ah,ai,aj])
    refine aK ?_;have oZ:=ev w5 bo (UE UL nd.no) (UE UL nd.dev) (UE UL nd.kind) (UE UL nd.mode) (UE UL nd.uid) (UE UL nd.gid) (UE UL nd.mtime) (UE UL nd.ctime) (UE UL nd.ak) (UE UL nd.up) (UF nd.data) (UG oa ol oc);have tO:=iH.dY (v0:=UE UL nd.no) (v1:=UE UL nd.dev) (v2:=UE UL nd.kind) (v3:=UE UL nd.mode) (v4:=UE UL nd.uid) (v5:=UE UL nd.gid) (v6:=UE UL nd.mtime) (v7:=UE UL nd.ctime) (v8:=UE UL nd.ak) (v9:=UE UL nd.up) (v10:=UF nd.data) (v11:=UG oa ol oc);have kq:GN ((((((((((((w5.setCell ⟨bo,0,none⟩ (UE UL nd.no)).setCell ⟨bo,1,none⟩ (UE UL nd.dev)).setCell ⟨bo,2,none⟩ (UE UL nd.kind)).setCell ⟨bo,3,none⟩ (UE UL nd.mode)).setCell ⟨bo,4,none⟩ (UE UL nd.uid)).setCell ⟨bo,5,none⟩ (UE UL nd.gid)).setCell ⟨bo,6,none⟩ (UE UL nd.mtime)).setCell ⟨bo,7,none⟩ (UE UL nd.ctime)).setCell ⟨bo,8,none⟩ (UE UL nd.ak)).setCell ⟨bo,9,none⟩ (UE UL nd.up)).setCell ⟨bo,10,none⟩ (UF nd.data)).setCell ⟨bo,11,none⟩ (UG oa ol oc)) pw R bt #[UE UL t.no,UE UL t.dev,UE UL t.kind,UE UL t.mode,UE UL t.uid,UE UL t.gid,UE UL t.mtime,UE UL t.ctime,UE UL t.ak,UE UL t.up,UF t.data,UG ta tl tc]:=⟨lW.w.mod oZ (fun e=>by have:=(HW.o.an (ar H2.o.2.1 gj)).bD.lt;have:=HW.o.bD.lt;have:=H2.o.2.1.size;omega),lW.d.mod oZ (fun e=>by have:=H2.o.1.lt;omega)⟩;refine dO 13 (W:=((((((((((((w5.setCell ⟨bo,0,none⟩ (UE UL nd.no)).setCell ⟨bo,1,none⟩ (UE UL nd.dev)).setCell ⟨bo,2,none⟩ (UE UL nd.kind)).setCell ⟨bo,3,none⟩ (UE UL nd.mode)).setCell ⟨bo,4,none⟩ (UE UL nd.uid)).setCell ⟨bo,5,none⟩ (UE UL nd.gid)).setCell ⟨bo,6,none⟩ (UE UL nd.mtime)).setCell ⟨bo,7,none⟩ (UE UL nd.ctime)).setCell ⟨bo,8,none⟩ (UE UL nd.ak)).setCell ⟨bo,9,none⟩ (UE UL nd.up)).setCell ⟨bo,10,none⟩ (UF nd.data)).setCell ⟨bo,11,none⟩ (UG oa ol oc))) (by kernel_rfl) rfl rfl rfl ?st kq ?_
    case st=>(obtain⟨zc,zf,zw⟩:=iH.facts;go_simp;(try rfl))
    have jQ:=gj.trans (oZ.below (fun q hq=>by omega) gj.size);generalize World.setCell _ _ _=w6 at tO kq jQ⊢;refine aL 1 [(14,20)] (by kernel_rfl) (by kernel_rfl) rfl (fun _ _ _ _ _ h=>h) kq ?_
    iterate 1 (apply aF rfl rfl;(· (intro w9 cL;clear cL;go_simp;(try with_reducible rfl)));simp only[ah,ai,aj])
    refine aK ?_;refine wpAnyH_done (by kernel_rfl) ?_ _;have gm:=Ux (ag tO (ag mm jQ));clear tO mm jQ kq oZ iH lW gj;go_wp2_with fail;go_meet;exact⟨_,rfl,rfl,gm.o.1,gm.o.2.1,gm.o.2.2⟩
   ·rintro _ w3 ⟨rfl,cl⟩;simp only[ah,ai,aj];have rq:=bj.an cl;have mq:=ar hbd cl;have CS:=ao (UB w3) (.cells #[UE UL 0,UE UL 0,UE UL 0,UE UL 0,UE UL 0,UE UL 0,UE UL 0,UE UL 0,UE UL 0,UE UL 0,UF ⟨#[]⟩,UG none 0 0] 149);have C6:=ax.new w3 #[UE UL 0,UE UL 0,UE UL 0,UE UL 0,UE UL 0,UE UL 0,UE UL 0,UE UL 0,UE UL 0,UE UL 0,UF ⟨#[]⟩,UG none 0 0] 149;refine gx 8 56 12 19 (Wi:=w3.alloc (.cells #[UE UL 0,UE UL 0,UE UL 0,UE UL 0,UE UL 0,UE UL 0,UE UL 0,UE UL 0,UE UL 0,UE UL 0,UF ⟨#[]⟩,UG none 0 0] 149)) (vi:=UH (some ⟨w3.heap.size,0,none⟩)) (R:=fun v w'=>v=UK #[UJ #[UE UL nd.no,UE UL nd.dev,UE UL nd.kind,UE UL nd.mode,UE UL nd.uid,UE UL nd.gid,UE UL nd.mtime,UE UL nd.ctime,UE UL nd.ak,UE UL nd.up,UF nd.data,UG oa ol oc],.bool is]∧UA w3 w') (by kernel_rfl) rfl rfl rfl rfl rfl rfl ?m3 (rq.an CS) ?m4 ((Qq.o w3 mq).mono (fun e w' ⟨he,hw⟩=>⟨_,he,rfl,hw⟩)) (fun v w' ⟨_,hw⟩=>rq.an hw) ?_ ?_
    case m3=>(go_simp;(try rfl))
    case m4=>(go_simp;(try rfl))
    ·simp only[ah,ai,aj];have C9:=rq.an CS;have tL:=ar mq CS;clear rq;generalize World.alloc _ _=wz at C9 tL C6⊢;generalize hbn:w3.heap.size=bo at C6⊢;have mm:w2.heap.size≤bo:=by rw[←hbn];exact mq.size
     have Gd:=C6;refine bN 8 56 (R:=fun v w'=>v=UK #[UJ #[UE UL nd.no,UE UL nd.dev,UE UL nd.kind,UE UL nd.mode,UE UL nd.uid,UE UL nd.gid,UE UL nd.mtime,UE UL nd.ctime,UE UL nd.ak,UE UL nd.up,UF nd.data,UG oa ol oc],.bool is]∧UA wz w') (by kernel_rfl) rfl rfl rfl ?xb ((Qq.o wz tL).mono (fun e w' ⟨he,hw⟩=>⟨_,he,rfl,hw⟩)) (fun v w' ⟨_,hw⟩=>C9.an hw) ?_
     case xb=>(go_simp;(try rfl))
     rintro _ w5 ⟨rfl,cK⟩;simp only[ah,ai,aj];have lW:=C9.an cK;have gj:=ar tL cK;have iH:=Gd.an cK;refine aL 3 [(9,47),(10,57),(11,58)] (by kernel_rfl) (by kernel_rfl) rfl (fun _ _ _ _ _ h=>h) lW ?_
     iterate 3 (apply aF rfl rfl;(· (intro w9 cL;clear cL;go_simp;(try with_reducible rfl)));simp only[ah,ai,aj])
     refine aK ?_;have oZ:=ev w5 bo (UE UL nd.no) (UE UL nd.dev) (UE UL nd.kind) (UE UL nd.mode) (UE UL nd.uid) (UE UL nd.gid) (UE UL nd.mtime) (UE UL nd.ctime) (UE UL nd.ak) (UE UL nd.up) (UF nd.data) (UG oa ol oc);have tO:=iH.dY (v0:=UE UL nd.no) (v1:=UE UL nd.dev) (v2:=UE UL nd.kind) (v3:=UE UL nd.mode) (v4:=UE UL nd.uid) (v5:=UE UL nd.gid) (v6:=UE UL nd.mtime) (v7:=UE UL nd.ctime) (v8:=UE UL nd.ak) (v9:=UE UL nd.up) (v10:=UF nd.data) (v11:=UG oa ol oc);have kq:GN ((((((((((((w5.setCell ⟨bo,0,none⟩ (UE UL nd.no)).setCell ⟨bo,1,none⟩ (UE UL nd.dev)).setCell ⟨bo,2,none⟩ (UE UL nd.kind)).setCell ⟨bo,3,none⟩ (UE UL nd.mode)).setCell ⟨bo,4,none⟩ (UE UL nd.uid)).setCell ⟨bo,5,none⟩ (UE UL nd.gid)).setCell ⟨bo,6,none⟩ (UE UL nd.mtime)).setCell ⟨bo,7,none⟩ (UE UL nd.ctime)).setCell ⟨bo,8,none⟩ (UE UL nd.ak)).setCell ⟨bo,9,none⟩ (UE UL nd.up)).setCell ⟨bo,10,none⟩ (UF nd.data)).setCell ⟨bo,11,none⟩ (UG oa ol oc)) pw R bt #[UE UL t.no,UE UL t.dev,UE UL t.kind,UE UL t.mode,UE UL t.uid,UE UL t.gid,UE UL t.mtime,UE UL t.ctime,UE UL t.ak,UE UL t.up,UF t.data,UG ta tl tc]:=⟨lW.w.mod oZ (fun e=>by have:=(HW.o.an (ar H2.o.2.1 gj)).bD.lt;have:=HW.o.bD.lt;have:=H2.o.2.1.size;omega),lW.d.mod oZ (fun e=>by have:=H2.o.1.lt;omega)⟩;refine dO 13 (W:=((((((((((((w5.setCell ⟨bo,0,none⟩ (UE UL nd.no)).setCell ⟨bo,1,none⟩ (UE UL nd.dev)).setCell ⟨bo,2,none⟩ (UE UL nd.kind)).setCell ⟨bo,3,none⟩ (UE UL nd.mode)).setCell ⟨bo,4,none⟩ (UE UL nd.uid)).setCell ⟨bo,5,none⟩ (UE UL nd.gid)).setCell ⟨bo,6,none⟩ (UE UL nd.mtime)).setCell ⟨bo,7,none⟩ (UE UL nd.ctime)).setCell ⟨bo,8,none⟩ (UE UL nd.ak)).setCell ⟨bo,9,none⟩ (UE UL nd.up)).setCell ⟨bo,10,none⟩ (UF nd.data)).setCell ⟨bo,11,none⟩ (UG oa ol oc))) (by kernel_rfl) rfl rfl rfl ?st kq ?_
     case st=>(obtain⟨zc,zf,zw⟩:=iH.facts;go_simp;(try rfl))
     have jQ:=gj.trans (oZ.below (fun q hq=>by omega) gj.size);generalize World.setCell _ _ _=w6 at tO kq jQ⊢;refine aL 1 [(14,20)] (by kernel_rfl) (by kernel_rfl) rfl (fun _ _ _ _ _ h=>h) kq ?_
     iterate 1 (apply aF rfl rfl;(· (intro w9 cL;clear cL;go_simp;(try with_reducible rfl)));simp only[ah,ai,aj])
     refine aK ?_;refine wpAnyH_done (by kernel_rfl) ?_ _;have gm:=Ux (ag tO (ag mm jQ));clear tO mm jQ kq oZ iH lW gj;go_wp2_with fail;go_meet;exact⟨_,rfl,rfl,gm.o.1,gm.o.2.1,gm.o.2.2⟩
    ·rintro _ w4 ⟨rfl,dM⟩;simp only[ah,ai,aj];have pJ:=rq.an dM;have tK:=ar mq dM;have CR:=ao (UB w4) (.cells #[UE UL 0,UE UL 0,UE UL 0,UE UL 0,UE UL 0,UE UL 0,UE UL 0,UE UL 0,UE UL 0,UE UL 0,UF ⟨#[]⟩,UG none 0 0] 149);have iH:=ax.new w4 #[UE UL 0,UE UL 0,UE UL 0,UE UL 0,UE UL 0,UE UL 0,UE UL 0,UE UL 0,UE UL 0,UE UL 0,UF ⟨#[]⟩,UG none 0 0] 149;refine aL 3 [(9,47),(10,57),(11,58)] (by kernel_rfl) (by kernel_rfl) rfl (fun _ _ _ _ _ h=>h) pJ ?_
     iterate 3 (apply aF rfl rfl;(· (intro w9 cL;clear cL;go_simp;(try with_reducible rfl)));simp only[ah,ai,aj])
     refine aK ?_;refine eY 12 19 (v:=UH (some ⟨w4.heap.size,0,none⟩)) (W:=w4.alloc (.cells #[UE UL 0,UE UL 0,UE UL 0,UE UL 0,UE UL 0,UE UL 0,UE UL 0,UE UL 0,UE UL 0,UE UL 0,UF ⟨#[]⟩,UG none 0 0] 149)) (by kernel_rfl) rfl rfl rfl ?m5 (pJ.an CR) ?_
     case m5=>(go_simp;(try rfl))
     simp only[ah,ai,aj];have lW:=pJ.an CR;have gj:=ar tK CR;generalize World.alloc _ _=w5 at lW gj iH⊢;generalize hbn:w4.heap.size=bo at iH⊢;have mm:w2.heap.size≤bo:=by rw[←hbn];exact tK.size
     have oZ:=ev w5 bo (UE UL nd.no) (UE UL nd.dev) (UE UL nd.kind) (UE UL nd.mode) (UE UL nd.uid) (UE UL nd.gid) (UE UL nd.mtime) (UE UL nd.ctime) (UE UL nd.ak) (UE UL nd.up) (UF nd.data) (UG oa ol oc);have tO:=iH.dY (v0:=UE UL nd.no) (v1:=UE UL nd.dev) (v2:=UE UL nd.kind) (v3:=UE UL nd.mode) (v4:=UE UL nd.uid) (v5:=UE UL nd.gid) (v6:=UE UL nd.mtime) (v7:=UE UL nd.ctime) (v8:=UE UL nd.ak) (v9:=UE UL nd.up) (v10:=UF nd.data) (v11:=UG oa ol oc);have kq:GN ((((((((((((w5.setCell ⟨bo,0,none⟩ (UE UL nd.no)).setCell ⟨bo,1,none⟩ (UE UL nd.dev)).setCell ⟨bo,2,none⟩ (UE UL nd.kind)).setCell ⟨bo,3,none⟩ (UE UL nd.mode)).setCell ⟨bo,4,none⟩ (UE UL nd.uid)).setCell ⟨bo,5,none⟩ (UE UL nd.gid)).setCell ⟨bo,6,none⟩ (UE UL nd.mtime)).setCell ⟨bo,7,none⟩ (UE UL nd.ctime)).setCell ⟨bo,8,none⟩ (UE UL nd.ak)).setCell ⟨bo,9,none⟩ (UE UL nd.up)).setCell ⟨bo,10,none⟩ (UF nd.data)).setCell ⟨bo,11,none⟩ (UG oa ol oc)) pw R bt #[UE UL t.no,UE UL t.dev,UE UL t.kind,UE UL t.mode,UE UL t.uid,UE UL t.gid,UE UL t.mtime,UE UL t.ctime,UE UL t.ak,UE UL t.up,UF t.data,UG ta tl tc]:=⟨lW.w.mod oZ (fun e=>by have:=(HW.o.an (ar H2.o.2.1 gj)).bD.lt;have:=HW.o.bD.lt;have:=H2.o.2.1.size;omega),lW.d.mod oZ (fun e=>by have:=H2.o.1.lt;omega)⟩;refine dO 13 (W:=((((((((((((w5.setCell ⟨bo,0,none⟩ (UE UL nd.no)).setCell ⟨bo,1,none⟩ (UE UL nd.dev)).setCell ⟨bo,2,none⟩ (UE UL nd.kind)).setCell ⟨bo,3,none⟩ (UE UL nd.mode)).setCell ⟨bo,4,none⟩ (UE UL nd.uid)).setCell ⟨bo,5,none⟩ (UE UL nd.gid)).setCell ⟨bo,6,none⟩ (UE UL nd.mtime)).setCell ⟨bo,7,none⟩ (UE UL nd.ctime)).setCell ⟨bo,8,none⟩ (UE UL nd.ak)).setCell ⟨bo,9,none⟩ (UE UL nd.up)).setCell ⟨bo,10,none⟩ (UF nd.data)).setCell ⟨bo,11,none⟩ (UG oa ol oc))) (by kernel_rfl) rfl rfl rfl ?st kq ?_
     case st=>(obtain⟨zc,zf,zw⟩:=iH.facts;go_simp;(try rfl))
     have jQ:=gj.trans (oZ.below (fun q hq=>by omega) gj.size);generalize World.setCell _ _ _=w6 at tO kq jQ⊢;refine aL 1 [(14,20)] (by kernel_rfl) (by kernel_rfl) rfl (fun _ _ _ _ _ h=>h) kq ?_
     iterate 1 (apply aF rfl rfl;(· (intro w9 cL;clear cL;go_simp;(try with_reducible rfl)));simp only[ah,ai,aj])
     refine aK ?_;refine wpAnyH_done (by kernel_rfl) ?_ _;have gm:=Ux (ag tO (ag mm jQ));clear tO mm jQ kq oZ iH lW gj;go_wp2_with fail;go_meet;exact⟨_,rfl,rfl,gm.o.1,gm.o.2.1,gm.o.2.2⟩
  case rest=>
   obtain⟨bo,rfl,rfl,QQ,hbn,aJ⟩:=hcut;obtain⟨w3,hw3⟩:∃w3,w3=wc:=⟨_,rfl⟩;subst hw3;have iN:Q4 w3 w.heap.size bd bt bo #[UE UL c.u,UE UL c.g] #[UE UL d.no,UE UL d.dev,UE UL d.kind,UE UL d.mode,UE UL d.uid,UE UL d.gid,UE UL d.mtime,UE UL d.ctime,UE UL d.ak,UE UL d.up,UF d.data,UG da dl dc] #[UE UL n.no,UE UL n.dev,UE UL n.kind,UE UL n.mode,UE UL n.uid,UE UL n.gid,UE UL n.mtime,UE UL n.ctime,UE UL n.ak,UE UL n.up,UF n.data,UG na nl nc] #[UE UL t.no,UE UL t.dev,UE UL t.kind,UE UL t.mode,UE UL t.uid,UE UL t.gid,UE UL t.mtime,UE UL t.ctime,UE UL t.ak,UE UL t.up,UF t.data,UG ta tl tc] #[UE UL nd.no,UE UL nd.dev,UE UL nd.kind,UE UL nd.mode,UE UL nd.uid,UE UL nd.gid,UE UL nd.mtime,UE UL nd.ctime,UE UL nd.ak,UE UL nd.up,UF nd.data,UG oa ol oc]:=⟨H2.o.2.2.2.2.1.an aJ,H2.o.2.2.1.an aJ,H2.o.2.2.2.1.an aJ,H2.o.1.an aJ,QQ⟩;have H3:=Ux (ag iN (ag (ar H2.o.2.1 aJ) (ag (H2.o.2.2.2.2.2.1.an aJ) (ag (H2.o.2.2.2.2.2.2.an aJ) (HCs.o.2.an aJ)))));obtain⟨bI,hold⟩:∃bI,S.get k=bI:=⟨_,rfl⟩;have hF2:=Ev.o;have fE:=HCs.o.1;rw[NC.o,hold] at hF2;rw[hold] at fE;have wW:=Ux (Je hF2);have Rh:=Ux fE;have HOd:=Ux hold;clear hF2 fE hold QQ aJ iN j7;obtain⟨dc',df,dz⟩:=H3.o.1.d.facts;obtain⟨nc',nf,nz⟩:=H3.o.1.n.facts;obtain⟨tc',tf,tz⟩:=H3.o.1.t.facts;obtain⟨oc',of,oz⟩:=H3.o.1.o.facts;obtain⟨cc,cf,cz⟩:=H3.o.1.c.facts;go_upto_block 0 with fail
   go_cut [] (fun wx=>UA w3 wx∧(∀o,bI=some o→o.no≠n.no)∧S.gp c src dst d n t bI=S.NQ c t n bI)
   case first=>
    by_cases hdv:d.dev=t.dev
    ·have uT:(d.dev != t.dev)=false:=by simpa using hdv
     have ka:=Ux hdv;clear hdv;by_cases hnk:n.kind=1
     ·have rL:(n.kind==1)=true:=by simpa using hnk
      have G0:=Ux hnk;have HWn:=Ux (fun w1 (av:UA w3 w1)=>HWi.o d n OA.o.1 OA.o.2 G0.o w1 (ar H3.o.2.1 av));have lX:=Ux (fun w1=>kB c n na nl nc 2 w1);unfold Cr.v An.v at lX;obtain⟨wi,hwi⟩:∃wi,S.dI n.no (S.ns.length+1) dst=wi:=⟨_,rfl⟩;rw[hwi] at HWn;have TU:=Ux hwi;clear hnk hwi;go_wp2_with fail;refine(HWn.o _ (Below.refl _ _)).mono ?_;rintro e w4 ⟨rfl,dM⟩;have re:=Ux (ag (H3.o.1.an dM) dM);clear dc' df dz nc' nf nz tc' tf tz oc' of oz cc cf cz dM
      cases wi with
      |true=>
       have HE:=Ux (wW.o.1 17 (by decide) (LW ka.o G0.o TU.o));go_wp2_with fail;go_ret;rw[HE.o];exact⟨rfl,R,HW.o.an (ar H3.o.2.1 re.o.2),aS.aq (ar H3.o.2.1 re.o.2)⟩
      |false=>
       have DG:=Ux (show¬(n.kind=1∧S.dI n.no (S.ns.length+1) dst=true) from fun q=>by have:=q.2;rw[TU.o] at this;cases this);obtain⟨dc',df,dz⟩:=re.o.1.d.facts;obtain⟨nc',nf,nz⟩:=re.o.1.n.facts;obtain⟨tc',tf,tz⟩:=re.o.1.t.facts;obtain⟨oc',of,oz⟩:=re.o.1.o.facts;obtain⟨cc,cf,cz⟩:=re.o.1.c.facts;rcases Rh.o with⟨hot,rfl⟩|⟨hot,-,rfl⟩
       ·have HOt:=Ux hot;by_cases hs:nd.no=n.no
        ·have KQ:(nd.no==n.no)=true:=by simpa using hs
         have HE:=Ux (wW.o.2.1 (DY ka.o DG.o HOt.o hs));clear hs hot;go_wp2_with fail;go_ret;rw[HE.o];exact⟨rfl,R,HW.o.an (ar H3.o.2.1 re.o.2),aS.aq (ar H3.o.2.1 re.o.2)⟩
        ·have KQ:(nd.no==n.no)=false:=by simpa using hs
         have BE:=Ux (show∀o,bI=some o→o.no≠n.no from fun o ho=>by rw[hot] at ho;injection ho with ho;rw[←ho];exact hs);clear hs hot;by_cases hsd:src=dst
         ·have Sc:(src != dst)=false:=by simpa using hsd
          have Qb:=Ux hsd;clear hsd;have zg:=Ux (mP (S:=S) (c:=c) (src:=src) (dst:=dst) (d:=d) (t:=t) ka.o DG.o BE.o (fun q=>q.2.1 Qb.o));go_wp2_with fail;go_meet;exact⟨re.o.2,BE.o,zg.o⟩
         ·have Sc:(src != dst)=true:=by simpa using hsd
          have Qb:=Ux hsd;clear hsd;obtain⟨mb,hmb⟩:∃mb,n.may c 2=mb:=⟨_,rfl⟩;rw[hmb] at lX;have Oq:=Ux hmb;clear hmb;go_wp2_with fail;refine(lX.o _).mono ?_;rintro e w9 ⟨rfl,rk⟩;have rF:=Ux (ar re.o.2 rk);clear dc' df dz nc' nf nz tc' tf tz oc' of oz cc cf cz rk
          cases mb with
          |false=>
           have HE:=Ux (wW.o.1 6 (by decide) (DX ka.o DG.o BE.o ⟨G0.o,Qb.o,Oq.o⟩));go_wp2_with fail;go_ret;rw[HE.o];exact⟨rfl,R,HW.o.an (ar H3.o.2.1 rF.o),aS.aq (ar H3.o.2.1 rF.o)⟩
          |true=>
           have zg:=Ux (mP (S:=S) (c:=c) (src:=src) (dst:=dst) (d:=d) (t:=t) ka.o DG.o BE.o (fun q=>by have:=q.2.2;rw[Oq.o] at this;cases this));go_wp2_with fail;go_meet;exact⟨rF.o,BE.o,zg.o⟩
       ·have BE:=Ux (show∀o,bI=some o→o.no≠n.no from fun o ho=>by rw[hot] at ho;cases ho);clear hot;by_cases hsd:src=dst
        ·have Sc:(src != dst)=false:=by simpa using hsd
         have Qb:=Ux hsd;clear hsd;have zg:=Ux (mP (S:=S) (c:=c) (src:=src) (dst:=dst) (d:=d) (t:=t) ka.o DG.o BE.o (fun q=>q.2.1 Qb.o));go_wp2_with fail;go_meet;exact⟨re.o.2,BE.o,zg.o⟩
        ·have Sc:(src != dst)=true:=by simpa using hsd
         have Qb:=Ux hsd;clear hsd;obtain⟨mb,hmb⟩:∃mb,n.may c 2=mb:=⟨_,rfl⟩;rw[hmb] at lX;have Oq:=Ux hmb;clear hmb;go_wp2_with fail;refine(lX.o _).mono ?_;rintro e w9 ⟨rfl,rk⟩;have rF:=Ux (ar re.o.2 rk);clear dc' df dz nc' nf nz tc' tf tz oc' of oz cc cf cz rk
         cases mb with
         |false=>
          have HE:=Ux (wW.o.1 6 (by decide) (DX ka.o DG.o BE.o ⟨G0.o,Qb.o,Oq.o⟩));go_wp2_with fail;go_ret;rw[HE.o];exact⟨rfl,R,HW.o.an (ar H3.o.2.1 rF.o),aS.aq (ar H3.o.2.1 rF.o)⟩
         |true=>
          have zg:=Ux (mP (S:=S) (c:=c) (src:=src) (dst:=dst) (d:=d) (t:=t) ka.o DG.o BE.o (fun q=>by have:=q.2.2;rw[Oq.o] at this;cases this));go_wp2_with fail;go_meet;exact⟨rF.o,BE.o,zg.o⟩
     ·have rL:(n.kind==1)=false:=by simpa using hnk
      have DG:=Ux (show¬(n.kind=1∧S.dI n.no (S.ns.length+1) dst=true) from fun q=>hnk q.1);have G0:=Ux hnk;clear hnk;rcases Rh.o with⟨hot,rfl⟩|⟨hot,-,rfl⟩
      ·have HOt:=Ux hot;by_cases hs:nd.no=n.no
       ·have KQ:(nd.no==n.no)=true:=by simpa using hs
        have HE:=Ux (wW.o.2.1 (DY ka.o DG.o HOt.o hs));clear hs hot;go_wp2_with fail;go_ret;rw[HE.o];exact⟨rfl,R,HW.o.an (H3.o.2.1),aS.aq (H3.o.2.1)⟩
       ·have KQ:(nd.no==n.no)=false:=by simpa using hs
        have BE:=Ux (show∀o,bI=some o→o.no≠n.no from fun o ho=>by rw[hot] at ho;injection ho with ho;rw[←ho];exact hs);clear hs hot;have zg:=Ux (mP (S:=S) (c:=c) (src:=src) (dst:=dst) (d:=d) (t:=t) ka.o DG.o BE.o (fun q=>G0.o q.1));go_wp2_with fail;go_meet;exact⟨Below.refl _ _,BE.o,zg.o⟩
      ·have BE:=Ux (show∀o,bI=some o→o.no≠n.no from fun o ho=>by rw[hot] at ho;cases ho);clear hot;have zg:=Ux (mP (S:=S) (c:=c) (src:=src) (dst:=dst) (d:=d) (t:=t) ka.o DG.o BE.o (fun q=>G0.o q.1));go_wp2_with fail;go_meet;exact⟨Below.refl _ _,BE.o,zg.o⟩
    ·have uT:(d.dev != t.dev)=true:=by simpa using hdv
     have HE:=Ux (wW.o.1 11 (by decide) (LX hdv));clear hdv;go_wp2_with fail;go_ret;rw[HE.o];exact⟨rfl,R,HW.o.an H3.o.2.1,aS.aq H3.o.2.1⟩
   case rest=>
    obtain⟨cK,hne,hmE⟩:=hcut;obtain⟨w5,Sb⟩:∃w5,w5=wc:=⟨_,rfl⟩;subst Sb;obtain⟨S1,wA⟩:∃S1,S.qL now bI=S1:=⟨_,rfl⟩;have H5:=Ux (ag (H3.o.1.an cK) (ag (ar H3.o.2.1 cK) (ag (H3.o.2.2.1.an cK) (ag (H3.o.2.2.2.1.an cK) (H3.o.2.2.2.2.an cK)))));have HM:=Ux (ag hne hmE);have iZ:=Ux wA;clear cK hne hmE wA dc' df dz nc' nf nz tc' tf tz oc' of oz cc cf cz;go_upto_if 100 with fail
    go_cut [] (fun wx=>∃R1,bB wx pw R1 S1∧aS (R.F pw) (R1.F pw) w wx∧Q4 wx w.heap.size bd bt bo #[UE UL c.u,UE UL c.g] #[UE UL d.no,UE UL d.dev,UE UL d.kind,UE UL d.mode,UE UL d.uid,UE UL d.gid,UE UL d.mtime,UE UL d.ctime,UE UL d.ak,UE UL d.up,UF d.data,UG da dl dc] #[UE UL n.no,UE UL n.dev,UE UL n.kind,UE UL n.mode,UE UL n.uid,UE UL n.gid,UE UL n.mtime,UE UL n.ctime,UE UL n.ak,UE UL n.up,UF n.data,UG na nl nc] #[UE UL t.no,UE UL t.dev,UE UL t.kind,UE UL t.mode,UE UL t.uid,UE UL t.gid,UE UL t.mtime,UE UL t.ctime,UE UL t.ak,UE UL t.up,UF t.data,UG ta tl tc] #[UE UL nd.no,UE UL nd.dev,UE UL nd.kind,UE UL nd.mode,UE UL nd.uid,UE UL nd.gid,UE UL nd.mtime,UE UL nd.ctime,UE UL nd.ak,UE UL nd.up,UF nd.data,UG oa ol oc]∧aA wx da dl dc d.au∧aA wx na nl nc n.au∧ay S1 M∧S1.get src=some d∧S1.get n.no=some n∧S1.get dst=some t∧fw=(S.shift now src a dst b d n bI,0))
    case first=>
     rcases Rh.o with⟨ho,rfl⟩|⟨ho,-,rfl⟩
     ·have HO:=Ux ho;have hgo:S.get k=some nd:=HOd.o.trans ho;have hmt:=(HK.o.get Rq.o).1.mode;have HCm:=Ux (EH (HW.o.an H5.o.2.1) HK.o.d1 c t n nd hmt ta tl tc na nl nc oa ol oc H5.o.2.2.2.2);unfold An.v at HCm;obtain⟨oe,hoe⟩:∃oe,S.kC c t n nd=oe:=⟨_,rfl⟩;have On:=Ux hoe;rw[hoe] at HCm;have Ro:=Ux hgo;clear ho hgo hmt hoe;obtain⟨dc',df,dz⟩:=H5.o.1.d.facts;obtain⟨nc',nf,nz⟩:=H5.o.1.n.facts;obtain⟨tc',tf,tz⟩:=H5.o.1.t.facts;obtain⟨oc',of,oz⟩:=H5.o.1.o.facts;obtain⟨cc,cf,cz⟩:=H5.o.1.c.facts;go_wp2_with fail;refine HCm.o.mono ?_;rintro e w6 ⟨rfl,fp⟩;have H6:=Ux (ag (H5.o.1.an fp) (ag (ar H5.o.2.1 fp) (ag (H5.o.2.2.1.an fp) (ag (H5.o.2.2.2.1.an fp) (H5.o.2.2.2.2.an fp)))));clear dc' df dz nc' nf nz tc' tf tz oc' of oz cc cf cz fp;by_cases hz:oe=0
      ·have hzb:(oe != 0)=false:=by simpa using hz
       have Qu:=Ux (wW.o.2.2 (HM.o.2.trans (by rw[HO.o];show(S.kC c t n nd,false)=(0,false);rw[On.o,hz])));have hoents:=FJ (On.o.trans hz);have hkn:=HK.o.get Ro.o;have Mm:S.get nd.no=some nd:=by rw[hkn.2.1];exact Ro.o
       have hlk:=HOl.o t nd Rq.o (by rw[NC.o];exact Ro.o);have Hr:=Ux (vw (HW.o.an H6.o.2.1) HK.o now nd Mm hlk oa ol oc H6.o.2.2.2.2);unfold An.v at Hr;have hdn:src≠nd.no:=fun e=>by
        have h1:=OA.o.1;rw[e,Mm] at h1;injection h1 with h1;rw[h1] at hoents;have h2:=HK.o.get OA.o.2;exact wG (es:=d.au) (s:=a) (by omega) hoents
       have htn:dst≠nd.no:=fun e=>by
        have h1:=Rq.o;rw[e,Mm] at h1;injection h1 with h1;rw[h1] at hoents;exact wG (es:=t.au) (s:=b) (by rw[NC.o];omega) hoents
       have hnn:n.no≠nd.no:=fun e=>HM.o.1 nd HO.o e.symm;have Gc:S1=S.eF now nd:=by rw[←iZ.o,HO.o];rfl
       have Kx:=Ux (show ay S1 M∧S1.get src=some d∧S1.get n.no=some n∧S1.get dst=some t by
        rw[Gc,gX S now hdn,gX S now hnn,gX S now htn];exact⟨HK.o.eF now hkn.1 hlk,OA.o.1,bH OA.o.2,Rq.o⟩)
       have Qd:=Ux Gc;clear hz hoents hkn Mm hlk hdn htn hnn Gc;obtain⟨dc',df,dz⟩:=H6.o.1.d.facts;obtain⟨nc',nf,nz⟩:=H6.o.1.n.facts;obtain⟨tc',tf,tz⟩:=H6.o.1.t.facts;obtain⟨oc',of,oz⟩:=H6.o.1.o.facts;obtain⟨cc,cf,cz⟩:=H6.o.1.c.facts;go_wp2_with fail;refine Hr.o.mono ?_;rintro e w7 ⟨rfl,R1,ez,ij⟩;have F8:=HW.o.an H6.o.2.1;have gm:=Ux (show∃R1,bB w7 pw R1 S1∧aS (R.F pw) (R1.F pw) w w7∧Q4 w7 w.heap.size bd bt bo #[UE UL c.u,UE UL c.g] #[UE UL d.no,UE UL d.dev,UE UL d.kind,UE UL d.mode,UE UL d.uid,UE UL d.gid,UE UL d.mtime,UE UL d.ctime,UE UL d.ak,UE UL d.up,UF d.data,UG da dl dc] #[UE UL n.no,UE UL n.dev,UE UL n.kind,UE UL n.mode,UE UL n.uid,UE UL n.gid,UE UL n.mtime,UE UL n.ctime,UE UL n.ak,UE UL n.up,UF n.data,UG na nl nc] #[UE UL t.no,UE UL t.dev,UE UL t.kind,UE UL t.mode,UE UL t.uid,UE UL t.gid,UE UL t.mtime,UE UL t.ctime,UE UL t.ak,UE UL t.up,UF t.data,UG ta tl tc] #[UE UL nd.no,UE UL nd.dev,UE UL nd.kind,UE UL nd.mode,UE UL nd.uid,UE UL nd.gid,UE UL nd.mtime,UE UL nd.ctime,UE UL nd.ak,UE UL nd.up,UF nd.data,UG oa ol oc]∧aA w7 da dl dc d.au∧aA w7 na nl nc n.au from by
        refine⟨R1,by rw[Qd.o];exact ez,(aS.aq H6.o.2.1).trans ij,⟨H6.o.1.c.wd F8 ij rfl,H6.o.1.d.wd F8 ij rfl,H6.o.1.n.wd F8 ij rfl,H6.o.1.t.wd F8 ij rfl,H6.o.1.o.wd F8 ij rfl⟩,H6.o.2.2.1.wd F8 ij,H6.o.2.2.2.1.wd F8 ij⟩)
       clear ez ij F8 dc' df dz nc' nf nz tc' tf tz oc' of oz cc cf cz;go_wp2_with fail;go_meet;obtain⟨R1,k1,k2,k3,k4,k5⟩:=gm.o;exact⟨R1,k1,k2,k3,k4,k5,Kx.o.1,Kx.o.2.1,Kx.o.2.2.1,Kx.o.2.2.2,Qu.o⟩
      ·have hzb:(oe != 0)=true:=by simpa using hz
       have HE:=Ux (wW.o.1 oe hz (HM.o.2.trans (by rw[HO.o];show(S.kC c t n nd,false)=(oe,false);rw[On.o])));clear hz;go_wp2_with fail;go_ret;rw[HE.o];exact⟨rfl,R,HW.o.an H6.o.2.1,aS.aq H6.o.2.1⟩
     ·have Qu:=Ux (wW.o.2.2 (HM.o.2.trans (by rw[ho];rfl)));have Gc:S1=S:=by rw[←iZ.o,ho];rfl
      have Qd:=Ux Gc;clear Gc ho;go_wp2_with fail;go_meet;rw[Qd.o];exact⟨R,HW.o.an H5.o.2.1,aS.aq H5.o.2.1,H5.o.1,H5.o.2.2.1,H5.o.2.2.2.1,HK.o,OA.o.1,bH OA.o.2,Rq.o,Qu.o⟩
    case rest=>
     obtain⟨R1,ez,hsp,jf,ML,Eb,gv,hgd,hgn,jt,hfw⟩:=hcut;obtain⟨w7,hw7⟩:∃w7,w7=wc:=⟨_,rfl⟩;subst hw7;have HQ:=Ux (ag hgd (ag hgn jt));have Ov:=Ux gv;have Rt:=Ux hfw;have H7:=Ux (ag ez (ag hsp (ag jf Eb)));have hdd:=gv.get hgd;have OG:=Ux (wL d.au da dl dc a w7 ML hdd.1.dB (by have:=ML.len;have:=hdd.1.lR;omega));obtain⟨dc',df,dz⟩:=jf.d.facts;obtain⟨nc',nf,nz⟩:=jf.n.facts;obtain⟨tc',tf,tz⟩:=jf.t.facts;clear ez hsp jf ML Eb gv hgd hgn jt hfw hdd;go_wp2_with fail;refine OG.o.mono ?_;rintro e w8 ⟨la,ll,lc,rfl,QU,rl⟩;have Mv:=H7.o.1.an rl;have K3:=Ux (ku Mv src now d HQ.o.1 (aM d.au a) la ll lc QU);have H8:=Ux (ag (H7.o.2.2.1.n.an rl) (ag (H7.o.2.2.1.t.an rl) (ag (H7.o.2.1.trans (aS.aq rl)) (ag Mv (H7.o.2.2.2.an rl)))));clear QU rl Mv dc' df dz nc' nf nz tc' tf tz;go_wp2_with fail;refine K3.o.mono ?_;rintro e w9 ⟨rfl,R2,dw,ib⟩;obtain⟨S2,Gb⟩:∃S2,S1.aE now src (aM d.au a)=S2:=⟨_,rfl⟩;have hdo:=(Ov.o.get HQ.o.1).1;have gM:ay S2 M:=by rw[←Gb];exact Ov.o.aE now src _ (kJ hdo.dB a) (ae (List.length_filter_le _ _) hdo.lR) (fun x hx=>hdo.nz x (List.mem_filter.1 hx).1)
     obtain⟨t1,iL,SL⟩:∃t1,S2.get dst=some t1∧S2.aI dst=t1.au:=by
      have hx:∃t1,S2.get dst=some t1:=by
       by_cases hds:dst=src
       ·subst hds;exact⟨_,by rw[←Gb];exact eu now _ HQ.o.1⟩
       ·exact⟨t,by rw[←Gb,bL S1 now _ hds];exact HQ.o.2.2⟩
      obtain⟨t1,h1⟩:=hx;exact⟨t1,h1,by unfold Fs.aI;rw[h1]⟩
     rw[Gb] at dw;obtain⟨t1a,t1l,t1c,Ob,hG9⟩:=fF dw iL;have hT9:=H8.o.2.1.wd H8.o.2.2.2.1 ib rfl;have hN9:=H8.o.1.wd H8.o.2.2.2.1 ib rfl;have H9:=Ux (ag hT9 (ag hN9 (ag dw (ag (H8.o.2.2.1.trans ib) (ag (H8.o.2.2.2.2.wd H8.o.2.2.2.1 ib) Ob)))));have oA:=Ux (ag Gb (ag gM (ag iL SL)));have HG9:=Ux (hG9 w9 (Below.refl _ _));unfold An.v at HG9;obtain⟨pc6,pf6,pz6⟩:=dw.bD.facts;clear dw ib hT9 hN9 Ob hG9 Gb gM iL SL hdo;go_wp2_with fail;refine HG9.o.mono ?_;rintro e w10 ⟨rfl,rm⟩;have Ga:=H9.o.1.an rm;obtain⟨tc',tf,tz⟩:=Ga.facts;have Gf:=ev w10 bt (UE UL t1.no) (UE UL t1.dev) (UE UL t1.kind) (UE UL t1.mode) (UE UL t1.uid) (UE UL t1.gid) (UE UL t1.mtime) (UE UL t1.ctime) (UE UL t1.ak) (UE UL t1.up) (UF t1.data) (UG t1a t1l t1c);have PA:=Ga.dY (v0:=UE UL t1.no) (v1:=UE UL t1.dev) (v2:=UE UL t1.kind) (v3:=UE UL t1.mode) (v4:=UE UL t1.uid) (v5:=UE UL t1.gid) (v6:=UE UL t1.mtime) (v7:=UE UL t1.ctime) (v8:=UE UL t1.ak) (v9:=UE UL t1.up) (v10:=UF t1.data) (v11:=UG t1a t1l t1c);have MC:=(H9.o.2.1.an rm).mod Gf (fun e=>by omega);have PE:=(H9.o.2.2.1.an rm).node Ga Gf;have O9:=(H9.o.2.2.2.1.trans (aS.aq rm)).box Gf (by omega);have PQ:=(H9.o.2.2.2.2.1.an rm).node Ga Gf;have MI:=(H9.o.2.2.2.2.2.an rm).node Ga Gf;clear pc6 pf6 pz6 rm;go_upto_region 24 with fail;generalize World.setCell _ _ _=w11 at PA MC PE O9 PQ MI⊢;obtain⟨nc',nf,nz⟩:=MC.facts;have yT:=oA.o.2.1.get oA.o.2.2.1;have HPt:=Ux (J3 t1.au t1a t1l t1c b n.no w11 MI yT.1.dB (by have:=MI.len;have:=yT.1.lR;omega));have H11:=Ux (ag MC (ag PE (ag O9 PQ)));clear Ga Gf tc' tf tz;obtain⟨tc',tf,tz⟩:=PA.facts;clear PA MC PE O9 PQ MI yT;go_wp2_with fail;refine HPt.o.mono ?_;rintro e w12 ⟨⟨pa,pl,pc9,rfl,Tn⟩,ju⟩;have PD:=H11.o.2.1.an ju;have T4:=Ux (ku PD dst now t1 oA.o.2.2.1 (aV t1.au b n.no) pa pl pc9 Tn);have Uu:=Ux (ag (H11.o.1.an ju) (ag PD (ag (H11.o.2.2.1.trans (aS.aq ju)) (H11.o.2.2.2.an ju))));clear Tn ju PD nc' nf nz tc' tf tz;go_wp2_with fail;refine T4.o.mono ?_;rintro e w13 ⟨rfl,R3,gN,Mb⟩;have yg:=Uu.o.1.wd Uu.o.2.1 Mb rfl;have MN:=Uu.o.2.2.2.wd Uu.o.2.1 Mb;have Mx:=Uu.o.2.2.1.trans Mb;obtain⟨nc',nf,nz⟩:=yg.facts;obtain⟨y,hy⟩:∃y,(S2.aE now dst (aV t1.au b n.no)).get n.no=some y:=by
      have hts:∀{S0:Fs} {q z:Int} {l:List En} {v:An},S0.get q=some v→∃y,(S0.aE now z l).get q=some y:=fun{S0 q z l v} hv=>by
       by_cases hqz:q=z
       ·subst hqz;exact⟨_,eu now l hv⟩
       ·exact⟨v,by rw[bL S0 now l hqz];exact hv⟩
      obtain⟨y1,h1⟩:=hts (z:=src) (l:=aM d.au a) HQ.o.2.1;rw[oA.o.1] at h1;exact hts h1
     have HY:=Ux hy;have HSh:=Ux (show S.shift now src a dst b d n bI=(S2.aE now dst (aV t1.au b n.no)).set {n with ctime:=now,up:=if n.kind=1 then dst else n.up} from by
      rw[oI,iZ.o,oA.o.1,oA.o.2.2.2])
     clear Mb hy;by_cases hnk:n.kind=1
     ·have rL:(n.kind==1)=true:=by simpa using hnk
      have hsh:=HSh.o;rw[if_pos hnk] at hsh;have Qa:=Ux hsh;have tP:Mod (fun k=>k=bd+1) w13 ((w13.setCell ⟨bd+1,7,none⟩ (UE UL now)).setCell ⟨bd+1,9,none⟩ (UE UL dst)):=((Mod.refl (fun k=>k=bd+1) w13).setCell (a:=⟨bd+1,7,none⟩) (.inl rfl) _).setCell (a:=⟨bd+1,9,none⟩) (.inl rfl) _;have C7:=(yg.set 7 (UE UL now)).set 9 (UE UL dst);clear hnk hsh;go_upto_region 28 with fail;generalize World.setCell _ _ _=w14 at C7 tP⊢;have C4:=gN.node yg tP;have JL:=Mx.box tP (by omega);have JS:=MN.node yg tP;have gm:=Ux JL;have oX:UA w14 w14.drew:=(Below.refl _ _).drew;have tN:=C4.an oX;have AR:=JS.an oX;have ey:=Ux (tN.xr {n with ctime:=now,up:=dst} AR (b:=y) HY.o);have Qe:=Ux (ag tN (aS.aq (F:=R3.F pw) oX));unfold An.v at ey;have mixed:Tryz.prog.follows .mixedOrders=true:=by kernel_rfl
      obtain⟨pc6,pf6,pz6⟩:=C4.bD.facts;clear nc' nf nz;obtain⟨q0,q1,q2,q3,q4,q5,q6,q7,q8,q9,q10,q11⟩:=ax.fO (x0:=UE UL n.no) C7;clear C4 tN JS AR C7 oX yg tP Mx MN gN JL;refine aG 5 mixed (by kernel_rfl) (show cn _ from by repeat (first|exact cS|refine cR ?_|refine cx ?_|refine cG ?_)) ?_;simp only[List.take_succ_cons,List.take_zero,List.drop_succ_cons,List.drop_zero]
      repeat still_step
      refine wpStill_nil ?_;go_wp2_with fail;refine ey.o.mono ?_;rintro e w15 ⟨rfl,R4,rp,Sg,-,-⟩;have GW:=Ux (ag rp Sg);clear rp Sg;go_wp2_with fail;go_ret;rw[Rt.o];dsimp only;rw[Qa.o];exact⟨rfl,R4,GW.o.1,(gm.o.trans Qe.o.2).trans GW.o.2⟩
     ·have rL:(n.kind==1)=false:=by simpa using hnk
      have hsh:=HSh.o;rw[if_neg hnk] at hsh;have Qa:=Ux hsh;have tP:Mod (fun k=>k=bd+1) w13 (w13.setCell ⟨bd+1,7,none⟩ (UE UL now)):=(Mod.refl (fun k=>k=bd+1) w13).setCell (a:=⟨bd+1,7,none⟩) (.inl rfl) _;have C7:=yg.set 7 (UE UL now);clear hnk hsh;go_upto_region 28 with fail;generalize World.setCell _ _ _=w14 at C7 tP⊢;have C4:=gN.node yg tP;have JL:=Mx.box tP (by omega);have JS:=MN.node yg tP;have gm:=Ux JL;have oX:UA w14 w14.drew:=(Below.refl _ _).drew;have tN:=C4.an oX;have AR:=JS.an oX;have ey:=Ux (tN.xr {n with ctime:=now,up:=n.up} AR (b:=y) HY.o);have Qe:=Ux (ag tN (aS.aq (F:=R3.F pw) oX));unfold An.v at ey;have mixed:Tryz.prog.follows .mixedOrders=true:=by kernel_rfl
      obtain⟨pc6,pf6,pz6⟩:=C4.bD.facts;clear nc' nf nz;obtain⟨q0,q1,q2,q3,q4,q5,q6,q7,q8,q9,q10,q11⟩:=ax.fO (x0:=UE UL n.no) C7;clear C4 tN JS AR C7 oX yg tP Mx MN gN JL;refine aG 5 mixed (by kernel_rfl) (show cn _ from by repeat (first|exact cS|refine cR ?_|refine cx ?_|refine cG ?_)) ?_;simp only[List.take_succ_cons,List.take_zero,List.drop_succ_cons,List.drop_zero]
      repeat still_step
      refine wpStill_nil ?_;go_wp2_with fail;refine ey.o.mono ?_;rintro e w15 ⟨rfl,R4,rp,Sg,-,-⟩;have GW:=Ux (ag rp Sg);clear rp Sg;go_wp2_with fail;go_ret;rw[Rt.o];dsimp only;rw[Qa.o];exact⟨rfl,R4,GW.o.1,(gm.o.trans Qe.o.2).trans GW.o.2⟩
 ·have eA:=Ux (HF.o.trans (if_pos hle));have hlb:(S.dq c src a != 0)=true:=by simpa using hle
  have dX:=Ux (ar H0.o.2 av);generalize S.dq c src a=le at hlb eA;clear hcond hle av cc cf cz;go_wp2_with fail;go_ret;rw[eA.o];exact⟨rfl,R,HW.o.an (ao (ao dX.o _) _),aS.aq (ao (ao dX.o _) _)⟩
end
end
section
open Go.RowKit
attribute [local go_sem] Oper.semAt_some
section
variable{w w':World}{pw:Nat}{R:Rp}{S:Fs}
theorem EF(h:bB w pw R S){M:Nat}(hk:ay S M)(hM:M≤99999)(now:Int)(d n:An)(hd:S.get d.no=some d)(hn:S.get n.no=some n)(hl:1≤n.ak)(hne:n.no≠d.no)(s:ByteArray)(hs:s.size≤9223372036854775807)(da:Option Addr)(dl dc:Nat)(hED:aA w da dl dc d.au)(na:Option Addr)(nl nc:Nat)(hEN:aA w na nl nc n.au) :
  Calls Tryz.prog 118 #[UH (some ⟨pw,0,none⟩),UE UL now,d.v da dl dc,n.v na nl nc,UF s] w fun e w'=>e=.returned (UE UL 0)∧∃R',bB w' pw R' (S.mw now d n s)∧aS (R.F pw) (R'.F pw) w w':=by
 unfold An.v;obtain⟨hD,hN,mo⟩:=iJ w #[UE UL d.no,UE UL d.dev,UE UL d.kind,UE UL d.mode,UE UL d.uid,UE UL d.gid,UE UL d.mtime,UE UL d.ctime,UE UL d.ak,UE UL d.up,UF d.data,UG da dl dc] #[UE UL n.no,UE UL n.dev,UE UL n.kind,UE UL n.mode,UE UL n.uid,UE UL n.gid,UE UL n.mtime,UE UL n.ctime,UE UL n.ak,UE UL n.up,UF n.data,UG na nl nc] 149 149;have HW:=Ux h;have HK:=Ux hk;have HG:=Ux (ag hd (ag hn (ag hl hne)));have HEs:=Ux (ag hED hEN);clear h hk hd hn hl hne hED hEN;go_enter Tryz.func118,Tryz.ntmps118;go_upto_region 1 with fail;generalize World.alloc _ _=X at hD hN mo⊢;have hdo:=(HK.o.get HG.o.1).1;have OG:=Ux (wL d.au da dl dc s X (HEs.o.1.an mo) hdo.dB (by have:=HEs.o.1.len;have:=hdo.lR;omega));have HB:=Ux mo;have HD:=Ux hD;have HN:=Ux hN;have NI:=Ux (HEs.o.2.an mo);obtain⟨dc',df,dz⟩:=hD.facts;obtain⟨nc',nf,nz⟩:=hN.facts;clear hD hN mo hdo;go_wp2_with fail;refine OG.o.mono ?_;rintro e w2 ⟨la,ll,lc,rfl,mu,aY⟩;have ei:=Ux (ar HB.o aY);have CZ:=HW.o.an ei.o;have K3:=Ux (ku CZ d.no now d HG.o.1 (aM d.au s) la ll lc mu);have OJ:=Ux (HD.o.an aY);have BQ:=Ux (HN.o.an aY);have Qv:=Ux (NI.o.an aY);have BC:=Ux CZ;clear dc' df dz nc' nf nz mu aY CZ;obtain⟨dc',df,dz⟩:=OJ.o.facts;go_wp2_with fail;refine K3.o.mono ?_;rintro e w3 ⟨rfl,R1,ez,ij⟩;have gv:ay (S.aE now d.no (aM d.au s)) M:=by
  have hdo:=(HK.o.get HG.o.1).1;exact HK.o.aE now d.no _ (kJ hdo.dB s) (ae (List.length_filter_le _ _) hdo.lR) (fun x hx=>hdo.nz x (List.mem_filter.1 hx).1)
 have iL:(S.aE now d.no (aM d.au s)).get n.no=some n:=by rw[bL S now _ HG.o.2.2.2];exact HG.o.2.1
 have Hr:=Ux (vw ez gv now n iL HG.o.2.2.1 na nl nc (Qv.o.wd BC.o ij));unfold An.v at Hr;have Gd:=BQ.o.wd BC.o ij rfl;have iZ:=Ux ((aS.aq ei.o).trans ij);clear dc' df dz gv iL ez ij;obtain⟨nc',nf,nz⟩:=Gd.facts;clear Gd;go_wp2_with fail;refine Hr.o.mono ?_;rintro e w4 ⟨rfl,R2,dw,ib⟩;have rh:=Ux (ag dw ib);clear nc' nf nz dw ib;go_wp2_with fail;go_ret;exact⟨rfl,R2,rh.o.1,iZ.o.trans rh.o.2⟩
theorem zk(h:bB w pw R S){M:Nat}(hk:ay S M)(hM:M≤99999)(c:Cr)(now dir:Int)(s:ByteArray)(hs:s.size≤9223372036854775807)(hl:∀n,S.dq c dir s=0→S.get (aw (S.aI dir) s)=some n→1≤n.ak)(hne:∀d n,S.dq c dir s=0→S.get dir=some d→S.get (aw d.au s)=some n→n.no≠d.no) :
  Calls Tryz.prog 76 #[UH (some ⟨pw,0,none⟩),UJ #[UE UL c.u,UE UL c.g],UE UL now,UE UL dir,UF s] w fun e w'=>e=.returned (UE UL (S.cA c now dir s).2)∧∃R',bB w' pw R' (S.cA c now dir s).1∧aS (R.F pw) (R'.F pw) w w':=by
 obtain⟨hC,lP⟩:=Uz w #[UE UL c.u,UE UL c.g] 64;have HLv:=Ux (r' (h.an lP) hk (by omega) c dir s hs);have HW:=Ux h;have HK:=Ux hk;have HL:=Ux (ag hl hne);have HF:=Ux (show S.cA c now dir s=if S.dq c dir s≠0 then(S,S.dq c dir s) else
  match S.get dir,S.get (aw (S.aI dir) s) with
  |some d,some n=>if n.kind=1 then(S,8) else(S.mw now d n s,0)
  |_,_=>(S,5) from rfl)
 generalize S.cA c now dir s=fw at HF⊢;clear h hk hl hne;go_enter Tryz.func76,Tryz.ntmps76;go_upto_region 1 with fail;generalize w.alloc _=X at hC lP HLv⊢;obtain⟨cc,cf,cz⟩:=hC.facts;have HbC:=Ux lP;clear hC lP;go_wp2_with fail;refine HLv.o.mono ?_;rintro e u1 ⟨d,n,da,dl,dc,na,nl,nc,rfl,hcond,av⟩;have dX:=Ux (ar HbC.o av);by_cases hle:S.dq c dir s=0
 ·obtain⟨hgd,hgn,ML,Eb⟩:=hcond hle;have heo:S.aI dir=d.au:=by unfold Fs.aI;rw[hgd]
  have hdn:=bV hgd;have hnn:=bV hgn;have eA:=Ux (show fw=if n.kind=1 then(S,8) else(S.mw now d n s,0) from HF.o.trans (by rw[if_neg (by rw[hle];decide),heo,hgd,hgn]));have uE:=Ux (ag (HL.o.1 n hle (by rw[heo];exact hgn)) (HL.o.2 d n hle hgd hgn));have HG:=Ux (ag (show S.get d.no=some d from by rw[hdn];exact hgd) (show S.get n.no=some n from bH hgn));have HE:=Ux (ag ML Eb);rw[hle];obtain⟨hD,hN,mo⟩:=iJ u1 #[UE UL d.no,UE UL d.dev,UE UL d.kind,UE UL d.mode,UE UL d.uid,UE UL d.gid,UE UL d.mtime,UE UL d.ctime,UE UL d.ak,UE UL d.up,UF d.data,UG da dl dc] #[UE UL n.no,UE UL n.dev,UE UL n.kind,UE UL n.mode,UE UL n.uid,UE UL n.gid,UE UL n.mtime,UE UL n.ctime,UE UL n.ak,UE UL n.up,UF n.data,UG na nl nc] 149 149;clear hcond hgd hgn ML Eb heo hdn hnn cc cf cz hle;go_upto_region 2 with fail;generalize World.alloc _ _=u2 at hD hN mo⊢;have ei:=Ux (ar dX.o mo);have BC:=Ux (HW.o.an ei.o);have Ro:=Ux (EF BC.o HK.o hM now d n HG.o.1 HG.o.2 uE.o.1 uE.o.2 s hs da dl dc (HE.o.1.an mo) na nl nc (HE.o.2.an mo));unfold An.v at Ro;obtain⟨dc',df,dz⟩:=hD.facts;obtain⟨nc',nf,nz⟩:=hN.facts;clear av mo hD hN;by_cases hkd:n.kind=1
  ·have hkb:(n.kind==1)=true:=by simpa using hkd
   have bS:=Ux (show fw=(S,8) from eA.o.trans (if_pos hkd));clear hkd;go_wp2_with fail;go_ret;rw[bS.o];exact⟨rfl,R,BC.o,aS.aq ei.o⟩
  have hkb:(n.kind==1)=false:=by simpa using hkd
  have kP:=Ux (show fw=(S.mw now d n s,0) from eA.o.trans (if_neg hkd));go_wp2_with fail;refine Ro.o.mono ?_;rintro e u5 ⟨rfl,R2,dw,ib⟩;have rh:=Ux (ag dw ib);clear dw ib;go_wp2_with fail;go_ret;rw[kP.o];exact⟨rfl,R2,rh.o.1,(aS.aq ei.o).trans rh.o.2⟩
 ·have eA:=Ux (HF.o.trans (if_pos hle));have hlb:(S.dq c dir s != 0)=true:=by simpa using hle
  generalize S.dq c dir s=le at hlb eA;clear hcond hle av cc cf cz;go_wp2_with fail;go_ret;rw[eA.o];exact⟨rfl,R,HW.o.an (ao (ao dX.o _) _),aS.aq (ao (ao dX.o _) _)⟩
end
end
end Go.Proofs.YtabbjaomlmnnhaaGreat
