import Derived.Test.YtabbjaomlmnnhaaGreatCS23
import Derived.Test.YtabbjaomlmnnhaaGreatCS19
import Derived.Test.YtabbjaomlmnnhaaGreatCS7
import Derived.Test.YtabbjaomlmnnhaaGreatCS21
import Derived.Test.YtabbjaomlmnnhaaGreatCS10
import Derived.Test.YtabbjaomlmnnhaaGreatCS22
import Derived.Test.YtabbjaomlmnnhaaGreatCS18
import Derived.Test.YtabbjaomlmnnhaaGreatCS17
set_option linter.unusedVariables false
set_option linter.unusedSimpArgs false
set_option maxRecDepth 100000
set_option maxHeartbeats 16000000
namespace Go.Proofs.YtabbjaomlmnnhaaGreat
section
open Go.RowKit
theorem aR.box{F F':Nat→Prop}{w A B:World}{b:Nat}(hs:aR F F' w A)(hm:Mod (fun k=>k=b) A B)(hb:w.heap.size≤b):aR F F' w B:=
 ⟨⟨hm.os.trans hs.mod.os,hm.tape.trans hs.mod.tape,hm.output.trans hs.mod.output,ae hs.mod.size hm.size,fun k hk hF=>(hm.block k (Nat.lt_of_lt_of_le hk hs.mod.size) (by omega)).trans (hs.mod.block k hk hF)⟩,hs.new⟩
theorem Gh{es:List En}{a b:ByteArray}(h:gn es b=false):gn (eG es a) b=false:=by
 unfold gn at h⊢;have h2:es.find? (fun x=>decide (x.name=b))=none:=by simpa using h
 rw[List.find?_eq_none] at h2;have:(eG es a).find? (fun x=>decide (x.name=b))=none:=by
  rw[List.find?_eq_none];intro x hx;exact h2 x (List.mem_filter.1 hx).1
 rw[this];rfl
section
variable{w w':World}{pw:Nat}{R:Rp}{S:Fs}
theorem BV(h:bm w pw R S){M:Nat}(hk:ax S M)(hM:M≤99999)(c:Cr)(now src:Int)(a:ByteArray)(dst:Int)(b:ByteArray)(ha:a.size≤9223372036854775807)(hbs:b.size≤9223372036854775807){d n t:An}
  (hl:S.dW c src a=0) (hp:S.aP c dst b=0) (hgd:S.get src=some d) (hgn:S.get (aF d.ay a)=some n) (jQ:S.get dst=some t) (hno:aF t.ay b=0) (hnd:aF d.ay b=0) (hdv:d.dev=t.dev) (hnk:n.kind≠1) :
  Calls Tryz.prog 75 #[.pointer (some ⟨pw,0,none⟩),.agg #[.int .i64 c.u,.int .i64 c.g],.int .i64 now,.int .i64 src,.string a,.int .i64 dst,.string b] w fun e w'=>e=.returned (.int .i64 0)∧∃R',bm w' pw R' (S.shift now src a dst b d n none)∧aR (R.F pw) (R'.F pw) w w':=by
 obtain⟨hC,nT⟩:=Qh w #[.int .i64 c.u,.int .i64 c.g] 64;have HLv:=Qf (fun w1 (av:Qi w w1)=>zl (h.ak av) hk (by omega) c src a ha);have HP:=Qf (fun w1 (av:Qi w w1)=>lA (h.ak av) hk c dst b hbs);have HW:=Qf h;have HK:=Qf hk;have HQ:=Qf (ag hl (ag hp (ag hgd (ag hgn (ag jQ (ag hno hnd))))));have lR:=Qf (ag hdv hnk);clear h hk hl hp hgd hgn jQ hno hnd hdv hnk;go_enter Tryz.func75,Tryz.ntmps75;go_upto_region 1 with fail;generalize w.alloc _=X at hC nT⊢;obtain⟨cc,cf,cz⟩:=hC.facts;have H0:=Qf (ag hC nT);clear hC nT;go_wp2_with fail;refine(HLv.o _ H0.o.2).mono ?_;rintro e u1 ⟨d',n',da,dl,dc,na,nl,nc,rfl,hcond,av⟩;obtain⟨hgd',hgn',hEd,Kk⟩:=hcond HQ.o.1;obtain rfl:d=d':=by have:=HQ.o.2.2.1;rw[hgd'] at this;exact(Option.some.inj this).symm
 obtain rfl:n=n':=by have:=HQ.o.2.2.2.1;rw[hgn'] at this;exact(Option.some.inj this).symm
 have eS:=Qf (ag hEd Kk);rw[HQ.o.1];obtain⟨hD,hN,FJ⟩:=jv u1 #[.int .i64 d.no,.int .i64 d.dev,.int .i64 d.kind,.int .i64 d.mode,.int .i64 d.uid,.int .i64 d.gid,.int .i64 d.mtime,.int .i64 d.ctime,.int .i64 d.ao,.int .i64 d.up,.string d.data,.slice da dl dc] #[.int .i64 n.no,.int .i64 n.dev,.int .i64 n.kind,.int .i64 n.mode,.int .i64 n.uid,.int .i64 n.gid,.int .i64 n.mtime,.int .i64 n.ctime,.int .i64 n.ao,.int .i64 n.up,.string n.data,.slice na nl nc] 149 149;clear hcond hgd' hgn' hEd Kk cc cf cz;go_upto_region 2 with fail;generalize (u1.alloc (.cells #[.int .i64 d.no,.int .i64 d.dev,.int .i64 d.kind,.int .i64 d.mode,.int .i64 d.uid,.int .i64 d.gid,.int .i64 d.mtime,.int .i64 d.ctime,.int .i64 d.ao,.int .i64 d.up,.string d.data,.slice da dl dc] 149)).alloc (.cells #[.int .i64 n.no,.int .i64 n.dev,.int .i64 n.kind,.int .i64 n.mode,.int .i64 n.uid,.int .i64 n.gid,.int .i64 n.mtime,.int .i64 n.ctime,.int .i64 n.ao,.int .i64 n.up,.string n.data,.slice na nl nc] 149)=u2 at hD hN FJ⊢;have ky:=au av FJ;have sH:=H0.o.1.ak ky;have je:=av.size;generalize u1.heap.size=bd at hD hN je⊢;have G2:=Qf (ag hD (ag hN (ag sH (ag (au H0.o.2 ky) (ag (eS.o.1.ak FJ) (eS.o.2.ak FJ))))));obtain⟨cc,cf,cz⟩:=sH.facts;have hltd:=hD.lt;have hltn:=hN.lt;have hltc:=H0.o.1.lt;clear av FJ ky hD hN sH;go_wp2_with fail;refine(HP.o _ G2.out.2.2.2.1).mono ?_;rintro e u3 ⟨⟨hp3,-⟩|⟨-,t',ta,tl,tc,Ov,rfl,hEt⟩,bK⟩
 ·exact absurd HQ.o.2.1 hp3
 obtain rfl:t=t':=by have:=HQ.o.2.2.2.2.1;rw[Ov] at this;exact(Option.some.inj this).symm
 unfold An.v;have hT:=aw.new u3 #[.int .i64 t.no,.int .i64 t.dev,.int .i64 t.kind,.int .i64 t.mode,.int .i64 t.uid,.int .i64 t.gid,.int .i64 t.mtime,.int .i64 t.ctime,.int .i64 t.ao,.int .i64 t.up,.string t.data,.slice ta tl tc] 149;have I3:=aq bK (.cells #[.int .i64 t.no,.int .i64 t.dev,.int .i64 t.kind,.int .i64 t.mode,.int .i64 t.uid,.int .i64 t.gid,.int .i64 t.mtime,.int .i64 t.ctime,.int .i64 t.ao,.int .i64 t.up,.string t.data,.slice ta tl tc] 149);have pb:=bK.size;have HEt:=Qf hEt;clear Ov hEt cc cf cz;go_upto_region 7 with fail;generalize u3.alloc _=w2 at hT I3⊢;generalize u3.heap.size=bt at hT pb⊢;have cT:=au G2.out.2.2.2.1 I3;have hltt:=hT.lt;have FQ:=HW.o.ak cT;have htd:=HK.o.get HQ.o.2.2.2.2.1;have H2:=Qf (ag hT (ag cT (ag (G2.out.1.ak I3) (ag (G2.out.2.1.ak I3) (ag (G2.out.2.2.1.ak I3) (ag (G2.out.2.2.2.2.1.ak I3) (G2.out.2.2.2.2.2.ak I3)))))));have bH:=Qf (HEt.o.ak I3);have hbd:Qi w2 w2.drew:=(Below.refl _ _).drew;obtain⟨k,hkk⟩:∃k,aF t.ay b=k:=⟨_,rfl⟩;have Nv:=Qf hkk;have L7:=Qf htd.1.eE;have HRl:=Qf (show tl≤1000000 by have:=bH.o.len;have:=htd.1.mJ;omega);have uo:=Qf (fX t.ay ta tl tc b w2.drew (bH.o.ak hbd) htd.1.eE HRl.o);rw[hkk] at uo;obtain⟨nd,oa,ol,oc,is,hEo,hcase,hG⟩:=Em FQ k;have his:is=false:=by
  rcases hcase with⟨D3,-⟩|⟨-,-,h0⟩
  ·have h1:=HK.o.get D3;have h2:=HQ.o.2.2.2.2.2.1;rw[hkk] at h2;omega
  ·exact h0
 have P0:=Qf his;have Mi:=Qf hG;have jr:DT w2.drew pw R bt #[.int .i64 t.no,.int .i64 t.dev,.int .i64 t.kind,.int .i64 t.mode,.int .i64 t.uid,.int .i64 t.gid,.int .i64 t.mtime,.int .i64 t.ctime,.int .i64 t.ao,.int .i64 t.up,.string t.data,.slice ta tl tc]:=⟨(FQ.ak hbd).aZ,hT.ak hbd⟩;clear bK I3 hT cT FQ hkk hEo hcase hG htd his
 go_cut [19,20] from 47 to 157 (fun t19 t20 wx=>∃bo:Nat,t19=.pointer (some ⟨bo,0,none⟩)∧t20=.bool is∧aw wx bo #[.int .i64 nd.no,.int .i64 nd.dev,.int .i64 nd.kind,.int .i64 nd.mode,.int .i64 nd.uid,.int .i64 nd.gid,.int .i64 nd.mtime,.int .i64 nd.ctime,.int .i64 nd.ao,.int .i64 nd.up,.string nd.data,.slice oa ol oc] 149∧w2.heap.size≤bo∧Qi w2 wx)
 case first=>
  refine wp_region_held_drew (S:=fun w'=>DT w' pw R bt #[.int .i64 t.no,.int .i64 t.dev,.int .i64 t.kind,.int .i64 t.mode,.int .i64 t.uid,.int .i64 t.gid,.int .i64 t.mtime,.int .i64 t.ctime,.int .i64 t.ao,.int .i64 t.up,.string t.data,.slice ta tl tc]) (by kernel_rfl) jr (fun be=>?_);refine aK 7 [(0,48),(1,49),(2,50),(3,51),(4,52),(5,53),(6,54)] (by kernel_rfl) (by kernel_rfl) rfl (fun _ _ _ _ _ h=>h) be ?_
  iterate 7 (apply aE rfl rfl;(· (intro w9 b8;obtain⟨s1,-,-⟩:=b8.w.facts;obtain⟨s2,-,-⟩:=b8.d.facts;clear b8;go_simp;(try with_reducible rfl)));simp only[ah,ai,aj])
  refine aJ ?_;have hbz:=aq (Below.refl w2.drew.heap.size w2.drew) (.cells #[.int .i64 0,.int .i64 0,.int .i64 0,.int .i64 0,.int .i64 0,.int .i64 0,.int .i64 0,.int .i64 0,.int .i64 0,.int .i64 0,.string ⟨#[]⟩,.slice none 0 0] 149);have Lw:=aw.new w2.drew #[.int .i64 0,.int .i64 0,.int .i64 0,.int .i64 0,.int .i64 0,.int .i64 0,.int .i64 0,.int .i64 0,.int .i64 0,.int .i64 0,.string ⟨#[]⟩,.slice none 0 0] 149;refine fI 7 55 12 19 (Wi:=w2.drew.alloc (.cells #[.int .i64 0,.int .i64 0,.int .i64 0,.int .i64 0,.int .i64 0,.int .i64 0,.int .i64 0,.int .i64 0,.int .i64 0,.int .i64 0,.string ⟨#[]⟩,.slice none 0 0] 149)) (vi:=.pointer (some ⟨w2.drew.heap.size,0,none⟩)) (R:=fun v w'=>v=.int .i64 k∧Below w2.drew.heap.size w2.drew w') (by kernel_rfl) rfl rfl rfl rfl rfl rfl ?m1 (be.ak hbz) ?m2 (uo.o.mono (fun e w' ⟨he,hw⟩=>⟨_,he,rfl,hw⟩)) (fun v w' ⟨_,hw⟩=>be.ak hw) ?_ ?_
  case m1=>(go_simp;(try rfl))
  case m2=>(go_simp;(try rfl))
  ·simp only[ah,ai,aj];have LD:=be.ak hbz;have FM:=au hbd hbz;have LF:=(fX t.ay ta tl tc b _ ((bH.o.ak hbd).ak hbz) L7.o HRl.o);rw[Nv.o] at LF;generalize w2.drew.alloc (.cells #[.int .i64 0,.int .i64 0,.int .i64 0,.int .i64 0,.int .i64 0,.int .i64 0,.int .i64 0,.int .i64 0,.int .i64 0,.int .i64 0,.string ⟨#[]⟩,.slice none 0 0] 149)=wz at LD FM Lw LF⊢;generalize hbn:w2.drew.heap.size=bo at Lw⊢;have kS:w2.heap.size≤bo:=by rw[←hbn];exact hbd.size
   refine bB 7 55 (R:=fun v w'=>v=.int .i64 k∧Qi wz w') (by kernel_rfl) rfl rfl rfl ?xa (LF.mono (fun e w' ⟨he,hw⟩=>⟨_,he,rfl,hw⟩)) (fun v w' ⟨_,hw⟩=>LD.ak hw) ?_
   case xa=>(go_simp;(try rfl))
   rintro _ w3 ⟨rfl,bK⟩;simp only[ah,ai,aj];have pE:=LD.ak bK;have kT:=au FM bK;have G1:=Lw.ak bK;refine bB 8 56 (R:=fun v w'=>v=.tuple #[.agg #[.int .i64 nd.no,.int .i64 nd.dev,.int .i64 nd.kind,.int .i64 nd.mode,.int .i64 nd.uid,.int .i64 nd.gid,.int .i64 nd.mtime,.int .i64 nd.ctime,.int .i64 nd.ao,.int .i64 nd.up,.string nd.data,.slice oa ol oc],.bool is]∧Qi w3 w') (by kernel_rfl) rfl rfl rfl ?xb ((Mi.o w3 kT).mono (fun e w' ⟨he,hw⟩=>⟨_,he,rfl,hw⟩)) (fun v w' ⟨_,hw⟩=>pE.ak hw) ?_
   case xb=>(go_simp;(try rfl))
   rintro _ w5 ⟨rfl,bU⟩;simp only[ah,ai,aj];have kB:=pE.ak bU;have fy:=au kT bU;have gE:=G1.ak bU;refine aK 3 [(9,47),(10,57),(11,58)] (by kernel_rfl) (by kernel_rfl) rfl (fun _ _ _ _ _ h=>h) kB ?_
   iterate 3 (apply aE rfl rfl;(· (intro w9 b8;clear b8;go_simp;(try with_reducible rfl)));simp only[ah,ai,aj])
   refine aJ ?_;have nu:=dB w5 bo (.int .i64 nd.no) (.int .i64 nd.dev) (.int .i64 nd.kind) (.int .i64 nd.mode) (.int .i64 nd.uid) (.int .i64 nd.gid) (.int .i64 nd.mtime) (.int .i64 nd.ctime) (.int .i64 nd.ao) (.int .i64 nd.up) (.string nd.data) (.slice oa ol oc);have rF:=gE.dh (v0:=.int .i64 nd.no) (v1:=.int .i64 nd.dev) (v2:=.int .i64 nd.kind) (v3:=.int .i64 nd.mode) (v4:=.int .i64 nd.uid) (v5:=.int .i64 nd.gid) (v6:=.int .i64 nd.mtime) (v7:=.int .i64 nd.ctime) (v8:=.int .i64 nd.ao) (v9:=.int .i64 nd.up) (v10:=.string nd.data) (v11:=.slice oa ol oc);have kV:DT ((((((((((((w5.setCell ⟨bo,0,none⟩ (.int .i64 nd.no)).setCell ⟨bo,1,none⟩ (.int .i64 nd.dev)).setCell ⟨bo,2,none⟩ (.int .i64 nd.kind)).setCell ⟨bo,3,none⟩ (.int .i64 nd.mode)).setCell ⟨bo,4,none⟩ (.int .i64 nd.uid)).setCell ⟨bo,5,none⟩ (.int .i64 nd.gid)).setCell ⟨bo,6,none⟩ (.int .i64 nd.mtime)).setCell ⟨bo,7,none⟩ (.int .i64 nd.ctime)).setCell ⟨bo,8,none⟩ (.int .i64 nd.ao)).setCell ⟨bo,9,none⟩ (.int .i64 nd.up)).setCell ⟨bo,10,none⟩ (.string nd.data)).setCell ⟨bo,11,none⟩ (.slice oa ol oc)) pw R bt #[.int .i64 t.no,.int .i64 t.dev,.int .i64 t.kind,.int .i64 t.mode,.int .i64 t.uid,.int .i64 t.gid,.int .i64 t.mtime,.int .i64 t.ctime,.int .i64 t.ao,.int .i64 t.up,.string t.data,.slice ta tl tc]:=⟨kB.w.mod nu (fun e=>by have:=(HW.o.ak (au H2.o.2.1 fy)).aZ.lt;have:=HW.o.aZ.lt;have:=H2.o.2.1.size;omega),kB.d.mod nu (fun e=>by have:=H2.o.1.lt;omega)⟩;refine dC 13 (W:=((((((((((((w5.setCell ⟨bo,0,none⟩ (.int .i64 nd.no)).setCell ⟨bo,1,none⟩ (.int .i64 nd.dev)).setCell ⟨bo,2,none⟩ (.int .i64 nd.kind)).setCell ⟨bo,3,none⟩ (.int .i64 nd.mode)).setCell ⟨bo,4,none⟩ (.int .i64 nd.uid)).setCell ⟨bo,5,none⟩ (.int .i64 nd.gid)).setCell ⟨bo,6,none⟩ (.int .i64 nd.mtime)).setCell ⟨bo,7,none⟩ (.int .i64 nd.ctime)).setCell ⟨bo,8,none⟩ (.int .i64 nd.ao)).setCell ⟨bo,9,none⟩ (.int .i64 nd.up)).setCell ⟨bo,10,none⟩ (.string nd.data)).setCell ⟨bo,11,none⟩ (.slice oa ol oc))) (by kernel_rfl) rfl rfl rfl ?st kV ?_
   case st=>(obtain⟨zc,zf,zw⟩:=gE.facts;go_simp;(try rfl))
   have iL:=fy.trans (nu.below (fun q hq=>by omega) fy.size);generalize ((((((((((((w5.setCell ⟨bo,0,none⟩ (.int .i64 nd.no)).setCell ⟨bo,1,none⟩ (.int .i64 nd.dev)).setCell ⟨bo,2,none⟩ (.int .i64 nd.kind)).setCell ⟨bo,3,none⟩ (.int .i64 nd.mode)).setCell ⟨bo,4,none⟩ (.int .i64 nd.uid)).setCell ⟨bo,5,none⟩ (.int .i64 nd.gid)).setCell ⟨bo,6,none⟩ (.int .i64 nd.mtime)).setCell ⟨bo,7,none⟩ (.int .i64 nd.ctime)).setCell ⟨bo,8,none⟩ (.int .i64 nd.ao)).setCell ⟨bo,9,none⟩ (.int .i64 nd.up)).setCell ⟨bo,10,none⟩ (.string nd.data)).setCell ⟨bo,11,none⟩ (.slice oa ol oc))=w6 at rF kV iL⊢;refine aK 1 [(14,20)] (by kernel_rfl) (by kernel_rfl) rfl (fun _ _ _ _ _ h=>h) kV ?_
   iterate 1 (apply aE rfl rfl;(· (intro w9 b8;clear b8;go_simp;(try with_reducible rfl)));simp only[ah,ai,aj])
   refine aJ ?_;refine wpAnyH_done (by kernel_rfl) ?_ _;have fS:=Qf (ag rF (ag kS iL));clear rF kS iL kV nu gE kB fy;go_wp2_with fail;go_meet;exact⟨_,rfl,rfl,fS.o.1,fS.o.2.1,fS.o.2.2⟩
  ·rintro _ w3 ⟨rfl,bK⟩;simp only[ah,ai,aj];have pE:=be.ak bK;have kT:=au hbd bK;have Am:=aq (Qj w3) (.cells #[.int .i64 0,.int .i64 0,.int .i64 0,.int .i64 0,.int .i64 0,.int .i64 0,.int .i64 0,.int .i64 0,.int .i64 0,.int .i64 0,.string ⟨#[]⟩,.slice none 0 0] 149);have Ay:=aw.new w3 #[.int .i64 0,.int .i64 0,.int .i64 0,.int .i64 0,.int .i64 0,.int .i64 0,.int .i64 0,.int .i64 0,.int .i64 0,.int .i64 0,.string ⟨#[]⟩,.slice none 0 0] 149;refine fI 8 56 12 19 (Wi:=w3.alloc (.cells #[.int .i64 0,.int .i64 0,.int .i64 0,.int .i64 0,.int .i64 0,.int .i64 0,.int .i64 0,.int .i64 0,.int .i64 0,.int .i64 0,.string ⟨#[]⟩,.slice none 0 0] 149)) (vi:=.pointer (some ⟨w3.heap.size,0,none⟩)) (R:=fun v w'=>v=.tuple #[.agg #[.int .i64 nd.no,.int .i64 nd.dev,.int .i64 nd.kind,.int .i64 nd.mode,.int .i64 nd.uid,.int .i64 nd.gid,.int .i64 nd.mtime,.int .i64 nd.ctime,.int .i64 nd.ao,.int .i64 nd.up,.string nd.data,.slice oa ol oc],.bool is]∧Qi w3 w') (by kernel_rfl) rfl rfl rfl rfl rfl rfl ?m3 (pE.ak Am) ?m4 ((Mi.o w3 kT).mono (fun e w' ⟨he,hw⟩=>⟨_,he,rfl,hw⟩)) (fun v w' ⟨_,hw⟩=>pE.ak hw) ?_ ?_
   case m3=>(go_simp;(try rfl))
   case m4=>(go_simp;(try rfl))
   ·simp only[ah,ai,aj];have AA:=pE.ak Am;have rE:=au kT Am;clear pE;generalize w3.alloc (.cells #[.int .i64 0,.int .i64 0,.int .i64 0,.int .i64 0,.int .i64 0,.int .i64 0,.int .i64 0,.int .i64 0,.int .i64 0,.int .i64 0,.string ⟨#[]⟩,.slice none 0 0] 149)=wz at AA rE Ay⊢;generalize hbn:w3.heap.size=bo at Ay⊢;have kS:w2.heap.size≤bo:=by rw[←hbn];exact kT.size
    have G1:=Ay;refine bB 8 56 (R:=fun v w'=>v=.tuple #[.agg #[.int .i64 nd.no,.int .i64 nd.dev,.int .i64 nd.kind,.int .i64 nd.mode,.int .i64 nd.uid,.int .i64 nd.gid,.int .i64 nd.mtime,.int .i64 nd.ctime,.int .i64 nd.ao,.int .i64 nd.up,.string nd.data,.slice oa ol oc],.bool is]∧Qi wz w') (by kernel_rfl) rfl rfl rfl ?xb ((Mi.o wz rE).mono (fun e w' ⟨he,hw⟩=>⟨_,he,rfl,hw⟩)) (fun v w' ⟨_,hw⟩=>AA.ak hw) ?_
    case xb=>(go_simp;(try rfl))
    rintro _ w5 ⟨rfl,bU⟩;simp only[ah,ai,aj];have kB:=AA.ak bU;have fy:=au rE bU;have gE:=G1.ak bU;refine aK 3 [(9,47),(10,57),(11,58)] (by kernel_rfl) (by kernel_rfl) rfl (fun _ _ _ _ _ h=>h) kB ?_
    iterate 3 (apply aE rfl rfl;(· (intro w9 b8;clear b8;go_simp;(try with_reducible rfl)));simp only[ah,ai,aj])
    refine aJ ?_;have nu:=dB w5 bo (.int .i64 nd.no) (.int .i64 nd.dev) (.int .i64 nd.kind) (.int .i64 nd.mode) (.int .i64 nd.uid) (.int .i64 nd.gid) (.int .i64 nd.mtime) (.int .i64 nd.ctime) (.int .i64 nd.ao) (.int .i64 nd.up) (.string nd.data) (.slice oa ol oc);have rF:=gE.dh (v0:=.int .i64 nd.no) (v1:=.int .i64 nd.dev) (v2:=.int .i64 nd.kind) (v3:=.int .i64 nd.mode) (v4:=.int .i64 nd.uid) (v5:=.int .i64 nd.gid) (v6:=.int .i64 nd.mtime) (v7:=.int .i64 nd.ctime) (v8:=.int .i64 nd.ao) (v9:=.int .i64 nd.up) (v10:=.string nd.data) (v11:=.slice oa ol oc);have kV:DT ((((((((((((w5.setCell ⟨bo,0,none⟩ (.int .i64 nd.no)).setCell ⟨bo,1,none⟩ (.int .i64 nd.dev)).setCell ⟨bo,2,none⟩ (.int .i64 nd.kind)).setCell ⟨bo,3,none⟩ (.int .i64 nd.mode)).setCell ⟨bo,4,none⟩ (.int .i64 nd.uid)).setCell ⟨bo,5,none⟩ (.int .i64 nd.gid)).setCell ⟨bo,6,none⟩ (.int .i64 nd.mtime)).setCell ⟨bo,7,none⟩ (.int .i64 nd.ctime)).setCell ⟨bo,8,none⟩ (.int .i64 nd.ao)).setCell ⟨bo,9,none⟩ (.int .i64 nd.up)).setCell ⟨bo,10,none⟩ (.string nd.data)).setCell ⟨bo,11,none⟩ (.slice oa ol oc)) pw R bt #[.int .i64 t.no,.int .i64 t.dev,.int .i64 t.kind,.int .i64 t.mode,.int .i64 t.uid,.int .i64 t.gid,.int .i64 t.mtime,.int .i64 t.ctime,.int .i64 t.ao,.int .i64 t.up,.string t.data,.slice ta tl tc]:=⟨kB.w.mod nu (fun e=>by have:=(HW.o.ak (au H2.o.2.1 fy)).aZ.lt;have:=HW.o.aZ.lt;have:=H2.o.2.1.size;omega),kB.d.mod nu (fun e=>by have:=H2.o.1.lt;omega)⟩;refine dC 13 (W:=((((((((((((w5.setCell ⟨bo,0,none⟩ (.int .i64 nd.no)).setCell ⟨bo,1,none⟩ (.int .i64 nd.dev)).setCell ⟨bo,2,none⟩ (.int .i64 nd.kind)).setCell ⟨bo,3,none⟩ (.int .i64 nd.mode)).setCell ⟨bo,4,none⟩ (.int .i64 nd.uid)).setCell ⟨bo,5,none⟩ (.int .i64 nd.gid)).setCell ⟨bo,6,none⟩ (.int .i64 nd.mtime)).setCell ⟨bo,7,none⟩ (.int .i64 nd.ctime)).setCell ⟨bo,8,none⟩ (.int .i64 nd.ao)).setCell ⟨bo,9,none⟩ (.int .i64 nd.up)).setCell ⟨bo,10,none⟩ (.string nd.data)).setCell ⟨bo,11,none⟩ (.slice oa ol oc))) (by kernel_rfl) rfl rfl rfl ?st kV ?_
    case st=>(obtain⟨zc,zf,zw⟩:=gE.facts;go_simp;(try rfl))
    have iL:=fy.trans (nu.below (fun q hq=>by omega) fy.size);generalize ((((((((((((w5.setCell ⟨bo,0,none⟩ (.int .i64 nd.no)).setCell ⟨bo,1,none⟩ (.int .i64 nd.dev)).setCell ⟨bo,2,none⟩ (.int .i64 nd.kind)).setCell ⟨bo,3,none⟩ (.int .i64 nd.mode)).setCell ⟨bo,4,none⟩ (.int .i64 nd.uid)).setCell ⟨bo,5,none⟩ (.int .i64 nd.gid)).setCell ⟨bo,6,none⟩ (.int .i64 nd.mtime)).setCell ⟨bo,7,none⟩ (.int .i64 nd.ctime)).setCell ⟨bo,8,none⟩ (.int .i64 nd.ao)).setCell ⟨bo,9,none⟩ (.int .i64 nd.up)).setCell ⟨bo,10,none⟩ (.string nd.data)).setCell ⟨bo,11,none⟩ (.slice oa ol oc))=w6 at rF kV iL⊢;refine aK 1 [(14,20)] (by kernel_rfl) (by kernel_rfl) rfl (fun _ _ _ _ _ h=>h) kV ?_
    iterate 1 (apply aE rfl rfl;(· (intro w9 b8;clear b8;go_simp;(try with_reducible rfl)));simp only[ah,ai,aj])
    refine aJ ?_;refine wpAnyH_done (by kernel_rfl) ?_ _;have fS:=Qf (ag rF (ag kS iL));clear rF kS iL kV nu gE kB fy;go_wp2_with fail;go_meet;exact⟨_,rfl,rfl,fS.o.1,fS.o.2.1,fS.o.2.2⟩
   ·rintro _ w4 ⟨rfl,cZ⟩;simp only[ah,ai,aj];have p6:=pE.ak cZ;have rD:=au kT cZ;have Al:=aq (Qj w4) (.cells #[.int .i64 0,.int .i64 0,.int .i64 0,.int .i64 0,.int .i64 0,.int .i64 0,.int .i64 0,.int .i64 0,.int .i64 0,.int .i64 0,.string ⟨#[]⟩,.slice none 0 0] 149);have gE:=aw.new w4 #[.int .i64 0,.int .i64 0,.int .i64 0,.int .i64 0,.int .i64 0,.int .i64 0,.int .i64 0,.int .i64 0,.int .i64 0,.int .i64 0,.string ⟨#[]⟩,.slice none 0 0] 149;refine aK 3 [(9,47),(10,57),(11,58)] (by kernel_rfl) (by kernel_rfl) rfl (fun _ _ _ _ _ h=>h) p6 ?_
    iterate 3 (apply aE rfl rfl;(· (intro w9 b8;clear b8;go_simp;(try with_reducible rfl)));simp only[ah,ai,aj])
    refine aJ ?_;refine fU 12 19 (v:=.pointer (some ⟨w4.heap.size,0,none⟩)) (W:=w4.alloc (.cells #[.int .i64 0,.int .i64 0,.int .i64 0,.int .i64 0,.int .i64 0,.int .i64 0,.int .i64 0,.int .i64 0,.int .i64 0,.int .i64 0,.string ⟨#[]⟩,.slice none 0 0] 149)) (by kernel_rfl) rfl rfl rfl ?m5 (p6.ak Al) ?_
    case m5=>(go_simp;(try rfl))
    simp only[ah,ai,aj];have kB:=p6.ak Al;have fy:=au rD Al;generalize w4.alloc (.cells #[.int .i64 0,.int .i64 0,.int .i64 0,.int .i64 0,.int .i64 0,.int .i64 0,.int .i64 0,.int .i64 0,.int .i64 0,.int .i64 0,.string ⟨#[]⟩,.slice none 0 0] 149)=w5 at kB fy gE⊢;generalize hbn:w4.heap.size=bo at gE⊢;have kS:w2.heap.size≤bo:=by rw[←hbn];exact rD.size
    have nu:=dB w5 bo (.int .i64 nd.no) (.int .i64 nd.dev) (.int .i64 nd.kind) (.int .i64 nd.mode) (.int .i64 nd.uid) (.int .i64 nd.gid) (.int .i64 nd.mtime) (.int .i64 nd.ctime) (.int .i64 nd.ao) (.int .i64 nd.up) (.string nd.data) (.slice oa ol oc);have rF:=gE.dh (v0:=.int .i64 nd.no) (v1:=.int .i64 nd.dev) (v2:=.int .i64 nd.kind) (v3:=.int .i64 nd.mode) (v4:=.int .i64 nd.uid) (v5:=.int .i64 nd.gid) (v6:=.int .i64 nd.mtime) (v7:=.int .i64 nd.ctime) (v8:=.int .i64 nd.ao) (v9:=.int .i64 nd.up) (v10:=.string nd.data) (v11:=.slice oa ol oc);have kV:DT ((((((((((((w5.setCell ⟨bo,0,none⟩ (.int .i64 nd.no)).setCell ⟨bo,1,none⟩ (.int .i64 nd.dev)).setCell ⟨bo,2,none⟩ (.int .i64 nd.kind)).setCell ⟨bo,3,none⟩ (.int .i64 nd.mode)).setCell ⟨bo,4,none⟩ (.int .i64 nd.uid)).setCell ⟨bo,5,none⟩ (.int .i64 nd.gid)).setCell ⟨bo,6,none⟩ (.int .i64 nd.mtime)).setCell ⟨bo,7,none⟩ (.int .i64 nd.ctime)).setCell ⟨bo,8,none⟩ (.int .i64 nd.ao)).setCell ⟨bo,9,none⟩ (.int .i64 nd.up)).setCell ⟨bo,10,none⟩ (.string nd.data)).setCell ⟨bo,11,none⟩ (.slice oa ol oc)) pw R bt #[.int .i64 t.no,.int .i64 t.dev,.int .i64 t.kind,.int .i64 t.mode,.int .i64 t.uid,.int .i64 t.gid,.int .i64 t.mtime,.int .i64 t.ctime,.int .i64 t.ao,.int .i64 t.up,.string t.data,.slice ta tl tc]:=⟨kB.w.mod nu (fun e=>by have:=(HW.o.ak (au H2.o.2.1 fy)).aZ.lt;have:=HW.o.aZ.lt;have:=H2.o.2.1.size;omega),kB.d.mod nu (fun e=>by have:=H2.o.1.lt;omega)⟩;refine dC 13 (W:=((((((((((((w5.setCell ⟨bo,0,none⟩ (.int .i64 nd.no)).setCell ⟨bo,1,none⟩ (.int .i64 nd.dev)).setCell ⟨bo,2,none⟩ (.int .i64 nd.kind)).setCell ⟨bo,3,none⟩ (.int .i64 nd.mode)).setCell ⟨bo,4,none⟩ (.int .i64 nd.uid)).setCell ⟨bo,5,none⟩ (.int .i64 nd.gid)).setCell ⟨bo,6,none⟩ (.int .i64 nd.mtime)).setCell ⟨bo,7,none⟩ (.int .i64 nd.ctime)).setCell ⟨bo,8,none⟩ (.int .i64 nd.ao)).setCell ⟨bo,9,none⟩ (.int .i64 nd.up)).setCell ⟨bo,10,none⟩ (.string nd.data)).setCell ⟨bo,11,none⟩ (.slice oa ol oc))) (by kernel_rfl) rfl rfl rfl ?st kV ?_
    case st=>(obtain⟨zc,zf,zw⟩:=gE.facts;go_simp;(try rfl))
    have iL:=fy.trans (nu.below (fun q hq=>by omega) fy.size);generalize ((((((((((((w5.setCell ⟨bo,0,none⟩ (.int .i64 nd.no)).setCell ⟨bo,1,none⟩ (.int .i64 nd.dev)).setCell ⟨bo,2,none⟩ (.int .i64 nd.kind)).setCell ⟨bo,3,none⟩ (.int .i64 nd.mode)).setCell ⟨bo,4,none⟩ (.int .i64 nd.uid)).setCell ⟨bo,5,none⟩ (.int .i64 nd.gid)).setCell ⟨bo,6,none⟩ (.int .i64 nd.mtime)).setCell ⟨bo,7,none⟩ (.int .i64 nd.ctime)).setCell ⟨bo,8,none⟩ (.int .i64 nd.ao)).setCell ⟨bo,9,none⟩ (.int .i64 nd.up)).setCell ⟨bo,10,none⟩ (.string nd.data)).setCell ⟨bo,11,none⟩ (.slice oa ol oc))=w6 at rF kV iL⊢;refine aK 1 [(14,20)] (by kernel_rfl) (by kernel_rfl) rfl (fun _ _ _ _ _ h=>h) kV ?_
    iterate 1 (apply aE rfl rfl;(· (intro w9 b8;clear b8;go_simp;(try with_reducible rfl)));simp only[ah,ai,aj])
    refine aJ ?_;refine wpAnyH_done (by kernel_rfl) ?_ _;have fS:=Qf (ag rF (ag kS iL));clear rF kS iL kV nu gE kB fy;go_wp2_with fail;go_meet;exact⟨_,rfl,rfl,fS.o.1,fS.o.2.1,fS.o.2.2⟩
 case rest=>
  obtain⟨bo,rfl,rfl,O4,hbn,aI⟩:=hcut;have his:=P0.o;subst his;have hD:=H2.o.2.2.1.ak aI;have hN:=H2.o.2.2.2.1.ak aI;have hT:=H2.o.1.ak aI;have H3:=Qf (ag hT (ag hN (ag (au H2.o.2.1 aI) (ag (H2.o.2.2.2.2.2.1.ak aI) (H2.o.2.2.2.2.2.2.ak aI)))));obtain⟨dc',df,dz⟩:=hD.facts;obtain⟨nc',nf,nz⟩:=hN.facts;obtain⟨tc',tf,tz⟩:=hT.facts;have tN:(d.dev != t.dev)=false:=by simpa using lR.o.1
  have yY:(n.kind==1)=false:=by simpa using lR.o.2
  have hdd:=HK.o.get HQ.o.2.2.1;have NB:=Qf (DC d.ay da dl dc a wc H3.o.2.2.2.1 hdd.1.eE (by have:=H3.o.2.2.2.1.len;have:=hdd.1.mJ;omega));clear hD hN hT O4 aI hdd;go_wp2_with fail;refine NB.o.mono ?_;rintro e w5 ⟨la,ll,lc,rfl,D6,bU⟩;have pG:=au H3.o.2.2.1 bU;have hW5:=HW.o.ak pG;have Kt:=Qf (lg hW5 src now d HQ.o.2.2.1 (eG d.ay a) la ll lc D6);have H5:=Qf (ag (H3.o.1.ak bU) (ag (H3.o.2.1.ak bU) (ag pG (ag hW5 (H3.o.2.2.2.2.ak bU)))));clear D6 bU pG hW5 dc' df dz nc' nf nz tc' tf tz;go_wp2_with fail;refine Kt.o.mono ?_;rintro e w6 ⟨rfl,R1,eh,je⟩;obtain⟨S1,pZ⟩:∃S1,S.bE now src (eG d.ay a)=S1:=⟨_,rfl⟩;have hdo:=(HK.o.get HQ.o.2.2.1).1;have gD:ax S1 M:=by rw[←pZ];exact HK.o.bE now src _ (tY hdo.eE a) (ae (List.length_filter_le _ _) hdo.mJ) (fun x hx=>hdo.nz x (List.mem_filter.1 hx).1)
  obtain⟨t1,I1,IZ,OA⟩:∃t1,S1.get dst=some t1∧gn t1.ay b=false∧S1.bw dst=t1.ay:=by
   have hx:∃t1,S1.get dst=some t1∧gn t1.ay b=false:=by
    by_cases hds:dst=src
    ·subst hds;exact⟨_,by rw[←pZ];exact s7 now _ HQ.o.2.2.1,Gh (nx hdo.nz HQ.o.2.2.2.2.2.2)⟩
    ·exact⟨t,by rw[←pZ,mX S now _ hds];exact HQ.o.2.2.2.2.1,nx (HK.o.get HQ.o.2.2.2.2.1).1.nz HQ.o.2.2.2.2.2.1⟩
   obtain⟨t1,h1,h2⟩:=hx;exact⟨t1,h1,h2,by unfold Fs.bw;rw[h1]⟩
  rw[pZ] at eh;obtain⟨t1a,t1l,t1c,F4,hG6⟩:=eV eh I1;have hT6:=H5.o.1.wd H5.o.2.2.2.1 je rfl;have FX:=H5.o.2.1.wd H5.o.2.2.2.1 je rfl;have H6:=Qf (ag hT6 (ag FX (ag eh (ag ((aR.ar H5.o.2.2.1).trans je) (ag (H5.o.2.2.2.2.wd H5.o.2.2.2.1 je) F4)))));have gS:=Qf (ag pZ (ag gD (ag I1 (ag IZ OA))));have HG6:=Qf (hG6 w6 (Below.refl _ _));unfold An.v at HG6;obtain⟨pc6,pf6,pz6⟩:=eh.aZ.facts;clear eh je hT6 FX F4 hG6 pZ gD I1 IZ OA hdo;go_wp2_with fail;refine HG6.o.mono ?_;rintro e w7 ⟨rfl,jJ⟩;have MN:=H6.o.1.ak jJ;obtain⟨tc',tf,tz⟩:=MN.facts;have MU:=dB w7 bt (.int .i64 t1.no) (.int .i64 t1.dev) (.int .i64 t1.kind) (.int .i64 t1.mode) (.int .i64 t1.uid) (.int .i64 t1.gid) (.int .i64 t1.mtime) (.int .i64 t1.ctime) (.int .i64 t1.ao) (.int .i64 t1.up) (.string t1.data) (.slice t1a t1l t1c);have hT8:=MN.dh (v0:=.int .i64 t1.no) (v1:=.int .i64 t1.dev) (v2:=.int .i64 t1.kind) (v3:=.int .i64 t1.mode) (v4:=.int .i64 t1.uid) (v5:=.int .i64 t1.gid) (v6:=.int .i64 t1.mtime) (v7:=.int .i64 t1.ctime) (v8:=.int .i64 t1.ao) (v9:=.int .i64 t1.up) (v10:=.string t1.data) (v11:=.slice t1a t1l t1c);have hN8:=(H6.o.2.1.ak jJ).mod MU (fun e=>by omega);have MP:=(H6.o.2.2.1.ak jJ).node MN MU;have hs8:=(H6.o.2.2.2.1.trans (aR.ar jJ)).box MU (by omega);have LG:=(H6.o.2.2.2.2.1.ak jJ).node MN MU;have hF8:=(H6.o.2.2.2.2.2.ak jJ).node MN MU;clear pc6 pf6 pz6 jJ;go_upto_region 24 with fail;generalize ((((((((((((w7.setCell ⟨bt,0,none⟩ (.int .i64 t1.no)).setCell ⟨bt,1,none⟩ (.int .i64 t1.dev)).setCell ⟨bt,2,none⟩ (.int .i64 t1.kind)).setCell ⟨bt,3,none⟩ (.int .i64 t1.mode)).setCell ⟨bt,4,none⟩ (.int .i64 t1.uid)).setCell ⟨bt,5,none⟩ (.int .i64 t1.gid)).setCell ⟨bt,6,none⟩ (.int .i64 t1.mtime)).setCell ⟨bt,7,none⟩ (.int .i64 t1.ctime)).setCell ⟨bt,8,none⟩ (.int .i64 t1.ao)).setCell ⟨bt,9,none⟩ (.int .i64 t1.up)).setCell ⟨bt,10,none⟩ (.string t1.data)).setCell ⟨bt,11,none⟩ (.slice t1a t1l t1c))=w8 at hT8 hN8 MP hs8 LG hF8⊢;obtain⟨nc',nf,nz⟩:=hN8.facts;have gD:=gS.o.2.1;have GW:=gD.get gS.o.2.2.1;have Kw:=Qf (rP t1.ay t1a t1l t1c b n.no w8 hF8 GW.1.eE (by have:=hF8.len;have:=GW.1.mJ;omega) gS.o.2.2.2.1);have H8:=Qf (ag hN8 (ag MP (ag hs8 LG)));clear MN MU tc' tf tz;obtain⟨tc',tf,tz⟩:=hT8.facts;clear hT8 hN8 MP hs8 LG hF8 gD GW;go_wp2_with fail;refine Kw.o.mono ?_;rintro e w9 ⟨⟨pa,pl,pc9,rfl,Pd⟩,lF⟩;have hR9:=H8.o.2.1.ak lF;have JM:=Qf (lg hR9 dst now t1 gS.o.2.2.1 (ct t1.ay b n.no) pa pl pc9 Pd);have H9:=Qf (ag (H8.o.1.ak lF) (ag hR9 (ag (H8.o.2.2.1.trans (aR.ar lF)) (H8.o.2.2.2.ak lF))));clear Pd lF hR9 nc' nf nz tc' tf tz;go_wp2_with fail;refine JM.o.mono ?_;rintro e w10 ⟨rfl,R2,dq,iR⟩;have FY:=H9.o.1.wd H9.o.2.1 iR rfl;have Pe:=H9.o.2.2.2.wd H9.o.2.1 iR;have OX:=H9.o.2.2.1.trans iR;have Jg:Mod (fun k=>k=bd+1) w10 (w10.setCell ⟨bd+1,7,none⟩ (.int .i64 now)):=(Mod.refl (fun k=>k=bd+1) w10).setCell (a:=⟨bd+1,7,none⟩) (.inl rfl) _;have Jf:=FY.set 7 (.int .i64 now);have Jb:=dq.node FY Jg;have Lv:=OX.box Jg (by omega);have LH:=Pe.node FY Jg;obtain⟨nc',nf,nz⟩:=FY.facts;clear iR;go_upto_region 28 with fail;generalize w10.setCell ⟨bd+1,7,none⟩ (.int .i64 now)=w11 at Jf Jb Lv LH⊢;have fS:=Qf (ag Lv (show S.shift now src a dst b d n none=(S1.bE now dst (ct t1.ay b n.no)).set {n with ctime:=now,up:=n.up} from by
   unfold Fs.shift;dsimp only;rw[gS.o.1,gS.o.2.2.2.2,if_neg lR.o.2]))
  obtain⟨y,hy⟩:∃y,(S1.bE now dst (ct t1.ay b n.no)).get n.no=some y:=by
   have hq:=HQ.o.2.2.2.1;have hqn:=cj hq;have hts:∀{S0:Fs} {q z:Int} {l:List En} {v:An},S0.get q=some v→∃y,(S0.bE now z l).get q=some y:=fun{S0 q z l v} hv=>by
    by_cases hqz:q=z
    ·subst hqz;exact⟨_,s7 now l hv⟩
    ·exact⟨v,by rw[mX S0 now l hqz];exact hv⟩
   obtain⟨y1,h1⟩:=hts (z:=src) (l:=eG d.ay a) (eL hq);rw[gS.o.1] at h1;exact hts h1
  have xP:Qi w11 w11.drew:=(Below.refl _ _).drew;have FV:=Jb.ak xP;have Kl:=LH.ak xP;have O5:=Jf.ak xP;have ed:=Qf (FV.zJ {n with ctime:=now,up:=n.up} Kl (b:=y) hy);have HR11:=Qf (ag FV (aR.ar (F:=R2.F pw) xP));unfold An.v at ed;have mixed:Tryz.prog.follows .mixedOrders=true:=by kernel_rfl
  obtain⟨pc6,pf6,pz6⟩:=Jb.aZ.facts;clear nc' nf nz;obtain⟨q0,q1,q2,q3,q4,q5,q6,q7,q8,q9,q10,q11⟩:=aw.fB (x0:=.int .i64 n.no) Jf;clear Jb FV LH Kl Jf O5 xP FY Jg OX Pe dq Lv hy;refine aG 5 mixed (by kernel_rfl) (show bL _ from by repeat (first|exact cG|refine cF ?_|refine bR ?_|refine cd ?_)) ?_;simp only[List.take_succ_cons,List.take_zero,List.drop_succ_cons,List.drop_zero]
  repeat still_step
  refine wpStill_nil ?_;go_wp2_with fail;refine ed.o.mono ?_;rintro e w12 ⟨rfl,R3,ga,pb,-,-⟩;have mN:=Qf (ag ga pb);clear ga pb;go_wp2_with fail;go_ret;rw[fS.o.2];exact⟨rfl,R3,mN.o.1,(fS.o.1.trans HR11.o.2).trans mN.o.2⟩
end
end
section
open Go.RowKit
def JH(S:Fs)(c:Cr)(src:Int)(a:ByteArray)(dst:Int)(b:ByteArray):Prop:=
 S.dW c src a=0∧S.aP c dst b=0∧∃d n t,S.get src=some d∧S.get (aF d.ay a)=some n∧S.get dst=some t∧aF t.ay b=0∧aF d.ay b=0∧d.dev=t.dev∧n.kind≠1
theorem xt{S:Fs}{c:Cr}{now src:Int}{a:ByteArray}{dst:Int}{b:ByteArray}{M:Nat}(hk:ax S M){d n t:An}(hl:S.dW c src a=0)(hp:S.aP c dst b=0)(hgd:S.get src=some d)(hgn:S.get (aF d.ay a)=some n)(jQ:S.get dst=some t)(hno:aF t.ay b=0)(hdv:d.dev=t.dev)(hnk:n.kind≠1) :
  S.gX c now src a dst b=(S.shift now src a dst b d n none,0):=by
 have h0:S.get 0=none:=by
  cases hg:S.get 0 with
  |none=>rfl
  |some x=>have:=(hk.get hg).2.2.1;omega
 have he:S.bw src=d.ay:=by unfold Fs.bw;rw[hgd]
 have hm:S.xu c src dst d n t none=(0,false):=by
  unfold Fs.xu;rw[if_neg (by simpa using hdv),if_neg (fun h=>hnk h.1),if_neg (by simp),if_neg (fun h=>hnk h.1)]
 unfold Fs.gX;rw[if_neg (by simpa using hl),if_neg (by simpa using hp),he,hgd,hgn,jQ];dsimp only;rw[hno,h0,hm];rfl
section
variable{w w':World}{pw:Nat}{R:Rp}{S:Fs}
theorem Ek(h:bm w pw R S){M:Nat}(hk:ax S M)(hM:M≤99999)(c:Cr)(now src:Int)(a:ByteArray)(ha:a.size≤9223372036854775807)(dst:Int)(b:ByteArray)(hb:b.size≤9223372036854775807)(hm:JH S c src a dst b) :
  Calls Tryz.prog 75 #[.pointer (some ⟨pw,0,none⟩),.agg #[.int .i64 c.u,.int .i64 c.g],.int .i64 now,.int .i64 src,.string a,.int .i64 dst,.string b] w fun e w'=>e=.returned (.int .i64 (S.gX c now src a dst b).2)∧∃R',bm w' pw R' (S.gX c now src a dst b).1∧aR (R.F pw) (R'.F pw) w w':=by
 obtain⟨h1,h2,d,n,t,h3,h4,h5,h6,h7,h8,h9⟩:=hm;rw[xt hk h1 h2 h3 h4 h5 h6 h8 h9];exact BV h hk hM c now src a dst b ha hb h1 h2 h3 h4 h5 h6 h7 h8 h9
end
section
variable{w w':World}{pf pw:Nat}{R:Rp}{pv:Value}{Y:Sy}
theorem wD(h:bg w pf pw R pv Y){N:Nat}(hk:ax Y.fs N)(hN:N≤99999)(hc:0≤Y.count∧Y.count≤4611686018427387904)(hl:Y.bQ.length≤1000000)(c:Cr)(src:Int)(a:ByteArray)(dst:Int)(b:ByteArray)(ha:a.size≤9223372036854775807)(hb:b.size≤9223372036854775807)(hmv:JH Y.fs c src a dst b) :
  Calls Tryz.prog 38 #[.pointer (some ⟨pf,0,none⟩),.agg #[.int .i64 c.u,.int .i64 c.g],.int .i64 src,.string a,.int .i64 dst,.string b] w fun e w'=>
   e=.returned (.int .i64 (Y.kx (fun S now=>S.gX c now src a dst b)).2)∧∃R',bg w' pf pw R' pv (Y.kx (fun S now=>S.gX c now src a dst b)).1∧aR (R.Y pf pw) (R'.Y pf pw) w w':=by
 have HY:=Qf h;have HC:=Qf (fj (h.ak ((Below.refl _ w).alloc (aa _) (.cells #[.int .i64 c.u,.int .i64 c.g] 64))) hc hl);obtain⟨gY,jf,vQ⟩:=eO Y;have HF:=Qf (ag gY jf);have HMv:=Qf hmv;have hpf:=h.aZ.lt;have gD:ax Y.change.1.fs N:=by rw[gY];exact hk
 have mixed:Tryz.prog.follows .mixedOrders=true:=by kernel_rfl
 clear h hk gY jf vQ hmv;go_enter Tryz.func38,Tryz.ntmps38;go_wp2_with fail;refine HC.o.mono ?_;rintro e w1 ⟨rfl,eF,fR⟩;have gS:=Qf ((gw (aR.ar (F:=R.F pw) (aq (Qj w) (.cells #[.int .i64 c.u,.int .i64 c.g] 64)))).trans (uD (pw:=pw) (R:=R) fR));by_cases h0:Y.change.2=0
 ·have nV:(Y.change.2==0)=true:=by simpa using h0
  have HE:=Qf (show Y.kx (fun S now=>S.gX c now src a dst b)=_ from if_neg (by simp[h0]));have hcr:=(aw.new w #[.int .i64 c.u,.int .i64 c.g] 64).mod fR (by omega);obtain⟨cc,-,cz⟩:=hcr.facts;obtain⟨pc,-,pz⟩:=eF.aZ.facts;have HD:=Qf (Ek (eF.wd.ak (Below.refl _ w1).drew) gD hN c Y.change.1.now src a ha dst b hb (by rw[HF.o.1];exact HMv.o));have lI:=Qf eF;clear h0 hcr eF fR;go_wp2_with fail;refine aG 13 mixed (by kernel_rfl) (show bL _ from by repeat (first|exact cG|refine cF ?_|refine bR ?_|refine cd ?_)) ?_;simp only[List.take_succ_cons,List.take_zero,List.drop_succ_cons,List.drop_zero]
  repeat still_step
  refine wpStill_nil ?_;go_wp2_with fail;refine HD.o.mono ?_;rintro e w5 ⟨rfl,R5,gH,eJ⟩;have A1:=Qf ((lI.o.ak (Below.refl _ w1).drew).step gH eJ);have sN:=Qf ((gS.o.trans (gw (aR.ar (F:=R.F pw) (Below.refl _ w1).drew))).trans (gw eJ));clear gH eJ;go_wp2_with fail;go_ret;rw[HE.o,HF.o.1.symm,HF.o.2.symm];exact⟨rfl,R5,A1.o,sN.o⟩
 ·have nV:(Y.change.2==0)=false:=by simpa using h0
  have HE:=Qf (show Y.kx (fun S now=>S.gX c now src a dst b)=_ from if_pos h0);have lI:=Qf eF;clear eF h0 fR;generalize Y.change.2=ce at HE nV⊢;go_wp2_with fail;go_ret;rw[HE.o];exact⟨rfl,R,lI.o,gS.o⟩
end
end
section
open Go.RowKit
attribute [local go_sem] Oper.semAt_some
section
variable{w w':World}{pf pw:Nat}{R:Rp}{pv:Value}{Y:Sy}
theorem vB(h:bg w pf pw R pv Y){N:Nat}(hk:cE Y N)(hN:N≤800)(hst:eb Y)(u:Us)(x:Cn)
  (eR:(Y.fs.cK N Y.dead u.c x).2=0) (hlb:∀y∈(Y.fs.cK N Y.dead u.c x).1,(-9223372036854775808≤y.size∧y.size≤9223372036854775807)∧(-9223372036854775808≤y.time∧y.time≤9223372036854775807)∧y.name.size≤300) (hll:(Y.fs.cK N Y.dead u.c x).1.length≤1000)
  (hh:(Y.fs.kQ Y.dead u.c x).2=5) (hw:cB (Y.fs.cK N Y.dead u.c x).1≠[])
  (hc:(Y.op (fun S now=>S.file u.c now x.dir dZ 384 (str (cB (Y.fs.cK N Y.dead u.c x).1)))).2.2=0)
  (hm:JH (Y.op (fun S now=>S.file u.c now x.dir dZ 384 (str (cB (Y.fs.cK N Y.dead u.c x).1)))).1.fs u.c x.dir dZ x.dir dw)
  (Dg:((Y.op (fun S now=>S.file u.c now x.dir dZ 384 (str (cB (Y.fs.cK N Y.dead u.c x).1)))).1.kx (fun S now=>S.gX u.c now x.dir dZ x.dir dw)).2=0) :
  Calls Tryz.prog 17 #[.pointer (some ⟨pf,0,none⟩),.agg #[.int .i64 u.u,.int .i64 u.g,.string u.data],.agg #[.string x.path,.int .i64 x.dir,.int .i64 x.info,.int .i64 x.files,.int .i64 x.out,.int .i64 x.jm,.string x.top]] w fun e w'=>
   e=.returned (.int .i64 0)∧gF w w' pf pw R pv ((Y.op (fun S now=>S.file u.c now x.dir dZ 384 (str (cB (Y.fs.cK N Y.dead u.c x).1)))).1.kx (fun S now=>S.gX u.c now x.dir dZ x.dir dw)).1:=by
 obtain⟨hU,hX,hb⟩:=jv w #[.int .i64 u.u,.int .i64 u.g,.string u.data] #[.string x.path,.int .i64 x.dir,.int .i64 x.info,.int .i64 x.files,.int .i64 x.out,.int .i64 x.jm,.string x.top] 27 48;have HLi:=Qf (fun w1 (av:Qi w w1)=>rW (h.ak av) hk.du (by omega) hst.dead u x);have HHe:=Qf (fun w1 (av:Qi w w1)=>tZ (h.ak av) hk.du.ok (by omega) hst.dead u x);rw[eR] at HLi;rw[hh] at HHe;generalize (Y.fs.kQ Y.dead u.c x).1=old at HHe;generalize (Y.fs.cK N Y.dead u.c x).1=ls at HLi hlb hll hw hc hm Dg⊢;have hsz:(str (cB ls)).size≤1000*1000:=by
  rw[cJ];exact ae (s' ls hlb) (by omega)
 have hne:(str (cB ls)).size≠0:=by
  rw[cJ];intro e;exact hw (List.eq_nil_of_length_eq_zero e)
 have HWr:=Qf (fun(a:Option Addr) (n c:Nat) (w1:World) (hs:bj w1 3 IG a n c ls)=>zx ls a n c w1 hs (by have:=hs.1;omega) hlb);have xK:cE (Y.op (fun S now=>S.file u.c now x.dir dZ 384 (str (cB ls)))).1 (N+1):=hk.op (hk.du.file _ _ _ _ _ _);have IS:=eZ hst (fun S now=>S.file u.c now x.dir dZ 384 (str (cB ls)));generalize str (cB ls)=want at HWr hsz hne hc hm Dg xK IS⊢;have BR:=Qf (fun w1 (av:Qi w w1)=>fT (h.ak av) hk.du.ok (by omega) ⟨hk.c0,by have:=hk.cN;omega⟩ (by have:=hk.pl;omega) u.c x.dir dZ 384 want (by decide) (by omega));have HY:=Qf h;generalize Y.op (fun S now=>S.file u.c now x.dir dZ 384 want)=r at BR hc hm Dg xK IS⊢;obtain⟨Y1,d1,g1⟩:=r;dsimp only at BR hc hm Dg xK IS⊢;subst hc;have JO:=Qf (fun(A:World) (R1:Rp) (hA:bg A pf pw R1 pv Y1)=>wD hA xK.du.ok (by omega) ⟨xK.c0,by have:=xK.cN;omega⟩ (by have:=xK.pl;omega) u.c x.dir dZ x.dir dw (by decide) (by decide) hm);generalize Y1.kx (fun S now=>S.gX u.c now x.dir dZ x.dir dw)=q at JO Dg⊢;obtain⟨Y2,e2⟩:=q;dsimp only at JO Dg⊢;subst Dg;unfold dZ at BR JO;unfold dw at JO;have ec1:u.c.u=u.u:=rfl;have ec2:u.c.g=u.g:=rfl;clear h hk hst eR hlb hll hh hw hm xK IS;go_enter Tryz.func17,Tryz.ntmps17;go_upto_region 1 with fail;generalize (w.alloc (.cells #[.int .i64 u.u,.int .i64 u.g,.string u.data] 27)).alloc (.cells #[.string x.path,.int .i64 x.dir,.int .i64 x.info,.int .i64 x.files,.int .i64 x.out,.int .i64 x.jm,.string x.top] 48)=X at hU hX hb⊢;obtain⟨uc,uf,uz⟩:=hU.facts;obtain⟨xc,xf,xz⟩:=hX.facts;have H0:=Qf (ag hU (ag hX hb));clear hU hX hb;go_wp2_with fail;refine(HLi.o _ H0.o.2.2).mono ?_;rintro e w1 ⟨lv,rfl,sn,av⟩;obtain⟨la,lc,rfl,-⟩:=bC sn;have je:=sM.at sn;have FT:=H0.o.1.ak av;have lL:=H0.o.2.1.ak av;have H1:=Qf (ag FT (ag lL (au H0.o.2.2 av)));have A3:=Qf (HWr.o _ _ _ w1 je);clear uc uf uz xc xf xz FT lL je sn av;go_wp2_with fail;refine A3.o.mono ?_;rintro e w2 ⟨rfl,aS⟩;have FR:=H1.o.1.ak aS;have lG:=H1.o.2.1.ak aS;have H2:=Qf (ag FR (ag lG (au H1.o.2.2 aS)));obtain⟨uc,uf,uz⟩:=FR.facts;obtain⟨xc,xf,xz⟩:=lG.facts;clear FR lG aS;go_wp2_with fail;refine(HHe.o _ H2.o.2.2).mono ?_;rintro e w3 ⟨rfl,bK⟩;have ML:=H2.o.1.ak bK;have mF:=H2.o.2.1.ak bK;have H3:=Qf (ag ML (ag mF (au H2.o.2.2 bK)));clear uc uf uz xc xf xz;obtain⟨uc,uf,uz⟩:=ML.facts;clear ML mF bK;have hwl:¬want.toList=[]:=by
  rw[bG];intro e;exact hne ((BN want).trans (by rw[e];rfl))
 have hwl2:(want.toList==[])=false:=by simpa using hwl
 have hwl3:want.toList.isEmpty=false:=by simpa using hwl
 go_upto_region 10 with fail;go_wp2_with fail;refine(eP u.u u.g u.data _).mono ?_;rintro e w4 ⟨rfl,cZ⟩;have Jn:=aw.new w4 #[.int .i64 u.u,.int .i64 u.g] 64;have nT:=aq cZ (.cells #[.int .i64 u.u,.int .i64 u.g] 64);clear uc uf uz;go_upto_region 11 with fail;generalize w4.alloc _=w5 at Jn nT⊢;generalize w4.heap.size=bc at Jn⊢;have GX:=H3.o.2.1.ak nT;have pG:=au H3.o.2.2 nT;have xR:=HY.o.ak pG;obtain⟨cc,cf,cz⟩:=Jn.facts;obtain⟨xc,xf,xz⟩:=GX.facts;have H5:=Qf (ag GX (ag Jn (ag pG xR)));clear cZ Jn nT GX pG xR;go_wp2_with fail;refine(BR.o _ H5.o.2.2.1).mono ?_;rintro e w6 ⟨rfl,R1,MJ,hs6⟩;have MK:=H5.o.1.sy H5.o.2.2.2 hs6 (by decide) (by decide);have Dp:=H5.o.2.1.sy H5.o.2.2.2 hs6 (by decide) (by decide);have H6:=Qf (ag MJ ((aR.ar (F:=R.Y pf pw) H5.o.2.2.1).trans hs6));clear cc cf cz xc xf xz hs6;obtain⟨cc,cf,cz⟩:=Dp.facts;obtain⟨xc,xf,xz⟩:=MK.facts;have JQ:=Qf (JO.o w6 R1 MJ);clear MK Dp MJ;go_wp2_with fail;refine JQ.o.mono ?_;rintro e w7 ⟨rfl,R2,xQ,hs7⟩;have H7:=Qf (ag xQ (H6.o.2.trans hs7));clear xQ hs7 cc cf cz xc xf xz;go_wp2_with fail;go_ret;exact⟨rfl,R2,H7.o.1,H7.o.2⟩
end
end
section
open Go.RowKit
def Db:List It:=[⟨ByteArray.mk #[47],1,511,0,0,0,ByteArray.mk #[]⟩]
def qq:Us:=⟨5,5,ByteArray.mk #[47]⟩
def pK:Cn:=⟨ByteArray.mk #[47,84,114,97,115,104],2,3,4,5,6,ByteArray.mk #[]⟩
def Fv:List Ln:=[⟨3,0,ByteArray.mk #[100]⟩,⟨4,-1,ByteArray.mk #[101]⟩]
def y33:Sy:=⟨cU [] Db,7,0,[],false⟩
def mU:Sy:=(y33.db qq 1 Fv).1
def y33c:Sy:=(mU.EU 100 ⟨5,5⟩ pK).1
theorem N2:cE y33 2:=⟨qP [] Db,Int.le_refl _,by show(0:Int)≤_;omega,Nat.zero_le _⟩
theorem Fc:cE mU 28:=N2.db qq 1 Fv
theorem fi33:(y33.db qq 1 Fv).2=(pK,true):=by kernel_rfl
theorem N8:mU.fs.cK 100 mU.dead ⟨5,5⟩ pK=([⟨3,7,ByteArray.mk #[100]⟩],0):=by kernel_rfl
end
section
open Go.RowKit
attribute [local go_sem] Oper.semAt_some
def uA:ByteArray:=ByteArray.mk #[51,32,55,32,100,10]
def tt:Sy×Int×Int:=mU.op (fun S now=>S.file ⟨5,5⟩ now 2 dZ 384 uA)
def uw:Sy:=(tt.1.kx (fun S now=>S.gX ⟨5,5⟩ now 2 dZ 2 dw)).1
theorem NI:str (cB [⟨3,7,ByteArray.mk #[100]⟩])=uA:=by kernel_rfl
theorem hd33:(mU.fs.kQ mU.dead ⟨5,5⟩ pK).2=5:=by kernel_rfl
theorem cr33:tt.2.2=0:=by kernel_rfl
theorem mv33:(tt.1.kx (fun S now=>S.gX ⟨5,5⟩ now 2 dZ 2 dw)).2=0:=by kernel_rfl
theorem hl33:uw.fs.kQ uw.dead ⟨5,5⟩ pK=(uA,0):=by kernel_rfl
theorem dd33:uw.dead=false∧uw.bQ=[]:=⟨by kernel_rfl,by kernel_rfl⟩
theorem a33:tt.1.fs.dW ⟨5,5⟩ 2 dZ=0:=by kernel_rfl
theorem b33:tt.1.fs.aP ⟨5,5⟩ 2 dw=0:=by kernel_rfl
theorem c33:(tt.1.fs.get 2).isSome=true:=by kernel_rfl
theorem d33:(tt.1.fs.get (aF (tt.1.fs.bl 2).ay dZ)).isSome=true:=by kernel_rfl
theorem e33:aF (tt.1.fs.bl 2).ay dw=0:=by kernel_rfl
theorem f33:(tt.1.fs.bl (aF (tt.1.fs.bl 2).ay dZ)).kind=2:=by kernel_rfl
theorem vm{S:Fs}{k:Int}(h:(S.get k).isSome=true):S.get k=some (S.bl k):=by
 cases hg:S.get k with
 |none=>rw[hg] at h;cases h
 |some a=>rw[dE hg]
theorem Fj:JH tt.1.fs ⟨5,5⟩ 2 dZ 2 dw:=
 ⟨a33,b33,_,_,_,vm c33,vm d33,vm c33,e33,e33,rfl,by rw[f33];decide⟩
theorem J5:cE tt.1 29:=Fc.op (Fc.du.file _ _ _ _ _ _)
theorem N1:ax uw.fs 30:=by
 obtain⟨h1,h2,d,n,t,h3,h4,h5,h6,h7,h8,h9⟩:=Fj;have hm:=xt (now:=tt.1.now) J5.du.ok h1 h2 h3 h4 h5 h6 h8 h9;have:=J5.du.ok.shift tt.1.now 2 dZ 2 dw h3 h4 (old:=none) (fun o ho=>by cases ho);unfold uw;have he:(tt.1.kx (fun S now=>S.gX ⟨5,5⟩ now 2 dZ 2 dw)).1.fs=(tt.1.fs.gX ⟨5,5⟩ tt.1.now 2 dZ 2 dw).1:=by
  unfold Sy.kx;rw[if_neg];simpa using (show tt.1.change.2=0 by kernel_rfl)
 rw[he,hm];exact this
def C33:Array Value:=#[.string (ByteArray.mk #[47]),.int .i64 1,.int .i64 511,.int .i64 0,.int .i64 0,.int .i64 0,.string (ByteArray.mk #[])]
def L33:Array Value:=#[.int .i64 3,.int .i64 0,.string (ByteArray.mk #[100]),.int .i64 4,.int .i64 (-1),.string (ByteArray.mk #[101])]
theorem sd33{w:World}{b:Nat}(h:aw w b C33 82):lO w none 0 0 (some ⟨b,0,none⟩) 1 1 [] Db:=by
 refine⟨⟨rfl,aa _,by omega,.inl rfl⟩,⟨rfl,aa _,by omega,.inr ⟨b,0,rfl,h.lt,fun i hi=>⟨itC Db[i],rfl,rfl,fun j hj=>?_⟩⟩⟩⟩;rw[jd] at hj;rw[h.cell];have pC:i<1:=hi
 match i,pC with
 |0,_=>match j,hj with
  |0,_=>rfl
  |1,_=>rfl
  |2,_=>rfl
  |3,_=>rfl
  |4,_=>rfl
  |5,_=>rfl
  |6,_=>rfl
theorem sl33{w:World}{b:Nat}(h:aw w b L33 60):bj w 3 IG (some ⟨b,0,none⟩) 2 2 Fv:=by
 refine⟨rfl,aa _,by omega,.inr ⟨b,0,rfl,h.lt,fun i hi=>⟨Mx Fv[i],rfl,rfl,fun j hj=>?_⟩⟩⟩;rw[u5] at hj;rw[h.cell];have pC:i<2:=hi
 match i,pC with
 |0,_=>match j,hj with
  |0,_=>rfl
  |1,_=>rfl
  |2,_=>rfl
 |1,_=>match j,hj with
  |0,_=>rfl
  |1,_=>rfl
  |2,_=>rfl
theorem ti33:(⟨cU [] Db,0,0,[],false⟩:Sy).dA 7=y33:=by
 unfold Sy.dA;rw[if_pos (by decide)];rfl
theorem yF(w:World):Calls Tryz.prog 7 #[] w fun e w'=>e=.returned (.bool true)∧Qi w w':=by
 obtain⟨hU,hI,hb⟩:=jv w #[.int .i64 5,.int .i64 5,.string (ByteArray.mk #[47])] #[.string (ByteArray.mk #[47]),.int .i64 1,.int .i64 511,.int .i64 0,.int .i64 0,.int .i64 0,.string (ByteArray.mk #[])] 27 82;have jz:=Qf (tA _ (sd33 hI) (by show(0:Nat)≤_;omega) (by show(1:Nat)≤_;omega) (fun m hm=>by cases hm) (fun x hx=>by
  have:∀x∈Db,x.path.size≤100000∧x.data.size≤100000:=by decide
  exact this x hx))
 have mL:=Qf (ag hU hb);clear hU hI hb;go_enter Tryz.func7,Tryz.ntmps7;go_wp2_with fail;refine jz.o.mono ?_;rintro e w1 ⟨pf,pw,R,pv,Y,rfl,hY,rfl,hlow,av⟩;have eU:=au mL.o.2 av;have FT:=mL.o.1.ak av;have Dh:∀k,R.Y pf pw k→w.heap.size≤k:=fun k hk=>ae mL.o.2.size (hlow k hk);have Nh:=Qf (fN hY 7 (by omega) ⟨by show(0:Int)≤0;omega,by show(0:Int)≤253402300799;omega⟩);rw[ti33] at Nh;have dO:=Qf (ag eU (ag FT (ag Dh hY)));clear hY hlow av eU FT Dh;go_wp2_with fail;refine Nh.o.mono ?_;rintro e w2 ⟨⟨v2,rfl⟩,u',nS⟩;have iR:aR (R.Y pf pw) (R.Y pf pw) w1 w2:=uD nS;have FR:=dO.o.2.1.sy dO.o.2.2.2 iR (by decide) (by decide);have cT:=dO.o.1.trans (iR.below dO.o.2.2.1 dO.o.1.size);have hL:=aw.new w2 #[.int .i64 3,.int .i64 0,.string (ByteArray.mk #[100]),.int .i64 4,.int .i64 (-1),.string (ByteArray.mk #[101])] 60;have hbL:=aq (Qj w2) (.cells #[.int .i64 3,.int .i64 0,.string (ByteArray.mk #[100]),.int .i64 4,.int .i64 (-1),.string (ByteArray.mk #[101])] 60);obtain⟨uc,uf,uz⟩:=FR.facts;have H2:=Qf (ag FR (ag cT (ag u' (ag hL hbL))));have Ef:=Qf (rN (Q:=fun A=>aw A w2.heap.size L33 60) (L0:=0) (u'.ak hbL) ⟨fun A B h hb=>h.ak hb,fun A B R1 R2 Z h hy hs _ _=>h.sy hy hs (by decide) (by decide)⟩ hL (Nat.zero_le _) (fun k _=>Nat.zero_le _) N2 (by omega) ⟨rfl,rfl⟩ ⟨by show(0:Int)≤7;omega,by show(7:Int)≤253402300799;omega⟩ qq (by decide) (by decide) (by decide) 1 (fun A h=>sl33 h) (by decide) (by decide));rw[fi33] at Ef;unfold qq pK Cn.v at Ef;dsimp only at Ef;clear FR cT u' iR nS hL hbL;go_wp2_with fail;refine Ef.o.mono ?_;rintro e w3 ⟨rfl,⟨R3,nU,pb⟩,-,ka⟩;have nU:bg w3 pf pw R3 pv mU:=nU;have ka:eb mU:=ka;have ML:=(H2.o.1.ak H2.o.2.2.2.2).sy (H2.o.2.2.1.ak H2.o.2.2.2.2) pb (by decide) (by decide);have tT:=(au H2.o.2.1 H2.o.2.2.2.2).trans (pb.below dO.o.2.2.1 (ae H2.o.2.1.size H2.o.2.2.2.2.size));have Ot:=pb.aX dO.o.2.2.1 (ae H2.o.2.1.size H2.o.2.2.2.2.size);have hX:=aw.new w3 #[.string (ByteArray.mk #[47,84,114,97,115,104]),.int .i64 2,.int .i64 3,.int .i64 4,.int .i64 5,.int .i64 6,.string (ByteArray.mk #[])] 48;have aI:=aq (Qj w3) (.cells #[.string (ByteArray.mk #[47,84,114,97,115,104]),.int .i64 2,.int .i64 3,.int .i64 4,.int .i64 5,.int .i64 6,.string (ByteArray.mk #[])] 48);clear uc uf uz;go_upto_region 7 with fail;generalize w3.alloc (.cells #[.string (ByteArray.mk #[47,84,114,97,115,104]),.int .i64 2,.int .i64 3,.int .i64 4,.int .i64 5,.int .i64 6,.string (ByteArray.mk #[])] 48)=w4 at hX aI⊢;have BD:=nU.ak aI;have hU4:=ML.ak aI;have MZ:=au tT aI;generalize w3.heap.size=xb at hX⊢;have e1:(mU.fs.cK 100 mU.dead qq.c pK).1=[⟨3,7,ByteArray.mk #[100]⟩]:=congrArg Prod.fst N8;have hE:mU.op (fun S now=>S.file qq.c now pK.dir dZ 384 (str (cB (mU.fs.cK 100 mU.dead qq.c pK).1)))=tt:=by
  rw[e1,NI];rfl
 have HRf:=vB (N:=100) BD (Fc.mono (by omega)) (by omega) ka qq pK (congrArg Prod.snd N8) (by
   rw[e1];intro y hy;rw[List.mem_singleton.1 hy];exact⟨⟨by show(-9223372036854775808:Int)≤3;omega,by show(3:Int)≤9223372036854775807;omega⟩,⟨by show(-9223372036854775808:Int)≤7;omega,by show(7:Int)≤9223372036854775807;omega⟩,by decide⟩) (by rw[e1];decide) hd33 (by
   rw[e1];intro h;have h2:=NI;rw[h] at h2;exact absurd (congrArg ByteArray.size h2) (by decide)) (by rw[hE];exact cr33) (by rw[hE];exact Fj) (by rw[hE];exact mv33)
 rw[hE] at HRf;have HRf:=Qf (show Calls Tryz.prog 17 #[.pointer (some ⟨pf,0,none⟩),.agg #[.int .i64 5,.int .i64 5,.string (ByteArray.mk #[47])],.agg #[.string (ByteArray.mk #[47,84,114,97,115,104]),.int .i64 2,.int .i64 3,.int .i64 4,.int .i64 5,.int .i64 6,.string (ByteArray.mk #[])]] w4 fun e w'=>e=.returned (.int .i64 0)∧gF w4 w' pf pw R3 pv uw from HRf);obtain⟨uc,uf,uz⟩:=hU4.facts;obtain⟨xc,xf,xz⟩:=hX.facts;have H4:=Qf (ag hU4 (ag hX (ag MZ (ag BD Ot))));clear hE e1 BD hU4 MZ hX aI nU ka ML tT Ot pb;go_wp2_with fail;refine HRf.o.mono ?_;rintro e w5 ⟨rfl,R5,xR,hs5⟩;have hU5:=H4.o.1.sy H4.o.2.2.2.1 hs5 (by decide) (by decide);have GX:=H4.o.2.1.sy H4.o.2.2.2.1 hs5 (by decide) (by decide);have pG:=H4.o.2.2.1.trans (hs5.below H4.o.2.2.2.2 H4.o.2.2.1.size);have Mg:=tZ xR N1 (by omega) dd33.1 qq pK;rw[show uw.fs.kQ uw.dead qq.c pK=(uA,0) from hl33] at Mg;have Mg:=Qf (show Calls Tryz.prog 18 #[.pointer (some ⟨pf,0,none⟩),.agg #[.int .i64 5,.int .i64 5,.string (ByteArray.mk #[47])],.agg #[.string (ByteArray.mk #[47,84,114,97,115,104]),.int .i64 2,.int .i64 3,.int .i64 4,.int .i64 5,.int .i64 6,.string (ByteArray.mk #[])]] w5 fun e w'=>e=.returned (.tuple #[.string (ByteArray.mk #[51,32,55,32,100,10]),.int .i64 0])∧Qi w5 w' from Mg);have l8:=Qf pG;clear uc uf uz xc xf xz;obtain⟨uc,uf,uz⟩:=hU5.facts;obtain⟨xc,xf,xz⟩:=GX.facts;clear hU5 GX pG xR hs5;go_wp2_with fail;refine Mg.o.mono ?_;rintro e w6 ⟨rfl,fo⟩;have jx:=Qf (au l8.o fo);clear fo;go_wp2_with fail;go_ret;exact⟨rfl,jx.o⟩
end
end Go.Proofs.YtabbjaomlmnnhaaGreat
