import Derived.Test.YtabbjaomlmnnhaaGreatCO21
import Derived.Test.YtabbjaomlmnnhaaGreatCO7
import Derived.Test.YtabbjaomlmnnhaaGreatCO17
import Derived.Test.YtabbjaomlmnnhaaGreatCO5
import Derived.Test.YtabbjaomlmnnhaaGreatCO6
import Derived.Test.YtabbjaomlmnnhaaGreatCO9
set_option linter.unusedVariables false
set_option linter.unusedSimpArgs false
set_option maxRecDepth 100000
set_option maxHeartbeats 16000000
namespace Go.Proofs.YtabbjaomlmnnhaaGreat
open Go.Value renaming int→UE,string→UF,slice→UG,pointer→UH,agg→UJ,tuple→UK
open Go.IntKind renaming i64→UL
section
open Go.RowKit
attribute [local go_sem] Oper.semAt_some
theorem OY(Y:Sy)(g:Fs→Int→Fs×Int×Int):(Y.op g).1.now=Y.now:=by
 unfold Sy.op;have:=(dy Y).2.1
 split
 ·exact this
 ·exact this
def gb(Y:Sy):Prop:=0≤Y.now∧Y.now≤253402300799
theorem gb.op{Y:Sy}(h:gb Y)(g:Fs→Int→Fs×Int×Int):gb (Y.op g).1:=by
 unfold gb;rw[OY];exact h
theorem gF{Y:Sy}(h:cU Y)(n:Int):cU (Y.cZ n):=by
 unfold Sy.cZ
 split
 ·exact⟨h.cC,h.dead⟩
 ·exact h
theorem gb.tick{Y:Sy}(h:gb Y)(n:Int):gb (Y.cZ n):=by
 unfold Sy.cZ;obtain⟨h0,h1⟩:=h
 split
 ·rename_i hc;exact⟨show 0≤Y.now+n by omega,show Y.now+n≤253402300799 by omega⟩
 ·exact⟨h0,h1⟩
theorem lB{Y:Sy}(h:gb Y)(u:Us)(dir:Int)(n:ByteArray):gb (Y.dC u dir n).1:=by
 unfold Sy.dC
 split
 ·exact h.op _
 ·exact h
theorem qX{u:Us}{dir:Int}:∀{l:List ByteArray} {Y:Sy},gb Y→gb (Y.et u dir l).1
 | [],_,h=>h
 |n::l,Y,h=>by
  rw[Sy.et]
  split
  ·exact lB h u dir n
  ·exact qX (lB h u dir n)
theorem lg{Y:Sy}(h:gb Y)(u:Us)(p:mX):gb (Y.aZ u p).1:=by
 unfold Sy.aZ;dsimp only
 split
 ·exact lB h u _ _
 ·split<;>exact qX (lB h u _ _)
theorem kX{u:Us}:∀{l:List mX} {Y:Sy} (e:Int),gb Y→gb (Y.bw u l e).1
 | [],_,_,h=>h
 |p::l,Y,e,h=>by
  rw[Sy.bw]
  split
  ·exact lg h u p
  ·exact kX _ (lg h u p)
theorem vd{Y:Sy}(h:gb Y)(u:Us)(no:Int):gb (Y.bJ u no).1:=by
 unfold Sy.bJ;dsimp only;have h2:=kX (u:=u) (l:=Y.gB u (Y.fs.dg no).1) 0 h
 split
 ·exact h
 ·split
  ·exact h2
  ·generalize Y.bw u (Y.gB u (Y.fs.dg no).1) 0=a at h2⊢;have h4:=kX (u:=u) (l:=a.1.fs.cO a.1.dead u (Y.fs.dg no).1 (Y.fs.dg no).2.1) a.2.2.2 h2
   split
   ·exact h4
   ·split
    ·exact h4
    ·exact lg h4 u _
structure Q5(Q:World→Prop)(L0 pf pw:Nat)(pv:Value):Prop where
 b:∀A B,Q A→UA A B→Q B
 s:∀A B R1 R2 Z,Q A→bm A pf pw R1 pv Z→aS (R1.Y pf pw) (Rp.Y R2 pf pw) A B→(∀k,R1.Y pf pw k→L0≤k)→L0≤A.heap.size→Q B
structure Hc(Q:World→Prop)(L0:Nat)(w' w:World)(bx bc bu:Nat)(c:Cr)(x:Cn):Prop where
 x:ax w' bx #[UF x.path,UE UL x.dir,UE UL x.info,UE UL x.files,UE UL x.out,UE UL x.jC,UF x.top] 48
 c:ax w' bc #[UE UL c.u,UE UL c.g] 64
 r:ax w' bu #[UF ⟨#[]⟩,UE UL 0,UE UL 0,UE UL 0,UE UL 0,UE UL 0,UF ⟨#[]⟩] 48
 q:Q w'
 l:L0≤w'.heap.size
theorem Hc.an{Q:World→Prop}{L0 pf pw:Nat}{pv:Value}(hQ:Q5 Q L0 pf pw pv){A B w:World}{bx bc bu:Nat}{c:Cr}{x:Cn}(h:Hc Q L0 A w bx bc bu c x)(hb:UA A B):Hc Q L0 B w bx bc bu c x:=⟨h.x.an hb,h.c.an hb,h.r.an hb,hQ.b _ _ h.q hb,ae h.l hb.size⟩
theorem Hc.sy{Q:World→Prop}{L0:Nat}{A B w:World}{bx bc bu:Nat}{c:Cr}{x:Cn}(h:Hc Q L0 A w bx bc bu c x){pf pw:Nat}{R R2:Rp}{pv:Value}{Z:Sy}(hQ:Q5 Q L0 pf pw pv)(hy:bm A pf pw R pv Z)(hs:aS (R.Y pf pw) (R2.Y pf pw) A B)(hl:∀k,R.Y pf pw k→L0≤k):Hc Q L0 B w bx bc bu c x:=
 ⟨h.x.sy hy hs (by decide) (by decide),h.c.sy hy hs (by decide) (by decide),h.r.sy hy hs (by decide) (by decide),hQ.s _ _ _ _ _ h.q hy hs hl h.l,ae h.l hs.mod.size⟩
structure zi(Q:World→Prop)(L0:Nat)(w:World)(pf pw:Nat)(R:Rp)(pv:Value)(bx bc bu:Nat)(c:Cr)(x:Cn)(M:Nat)(Z:Sy)(wr:World):Prop where
 y:∃R',bm wr pf pw R' pv Z∧aS (R.Y pf pw) (R'.Y pf pw) w wr∧∀k,R'.Y pf pw k→L0≤k
 s:Hc Q L0 wr w bx bc bu c x
 ok:eJ Z M
 now:gb Z
section
variable{Q:World→Prop}{L0:Nat}{w A B:World}{pf pw:Nat}{R:Rp}{pv:Value}{bx bc bu:Nat}{c:Cr}{x:Cn}{M:Nat}{Z Z':Sy}
theorem zi.an(h:zi Q L0 w pf pw R pv bx bc bu c x M Z A)(hQ:Q5 Q L0 pf pw pv)(hb:UA A B):zi Q L0 w pf pw R pv bx bc bu c x M Z B:=by
 obtain⟨R',h1,h2,h3⟩:=h.y;exact⟨⟨R',h1.an hb,h2.trans (aS.aq hb),h3⟩,h.s.an hQ hb,h.ok,h.now⟩
theorem zi.call(h:zi Q L0 w pf pw R pv bx bc bu c x M Z A)(hQ:Q5 Q L0 pf pw pv){M':Nat}(hok:eJ Z' M')(hnow:gb Z'){P:Ending→Prop}{f:FuncId}{args:Array Value}
  (hc:∀R':Rp,bm A pf pw R' pv Z→Calls Tryz.prog f args A fun e B=>P e∧∃R2,bm B pf pw R2 pv Z'∧aS (R'.Y pf pw) (R2.Y pf pw) A B) :
  Calls Tryz.prog f args A fun e B=>P e∧zi Q L0 w pf pw R pv bx bc bu c x M' Z' B:=by
 obtain⟨R',h1,h2,h3⟩:=h.y;refine(hc R' h1).mono ?_;rintro e B ⟨hp,R2,h4,h5⟩;exact⟨hp,⟨R2,h4,h2.trans h5,h5.bl h3 h.s.l⟩,h.s.sy hQ h1 h5 h3,hok,hnow⟩
end
theorem tW{a:Act}{W:World}{B:Nat}{x:Cn}{b:Bool}{P:Ending→World→Prop}(hb:ax W B #[UF x.path,UE UL x.dir,UE UL x.info,UE UL x.files,UE UL x.out,UE UL x.jC,UF x.top] 48)
  (h8:a.tmps.getD 8 undef=UH (some ⟨B,0,none⟩)) (h9:a.tmps.getD 9 undef=.bool b) (hd:a.defers=[]) (hP:P (.returned (UK #[UJ #[UF x.path,UE UL x.dir,UE UL x.info,UE UL x.files,UE UL x.out,UE UL x.jC,UF x.top],.bool b])) W):bodyPost Tryz.prog Tryz.f10 P .ret a W:=by
 have q0:=hb.cell 0;have q1:=hb.cell 1;have q2:=hb.cell 2;have q3:=hb.cell 3;have q4:=hb.cell 4;have q5:=hb.cell 5;have q6:=hb.cell 6;rw[Array.getD_eq_getD_getElem?] at h8 h9;refine bodyPost_ret (v:=UK #[UJ #[UF x.path,UE UL x.dir,UE UL x.info,UE UL x.files,UE UL x.out,UE UL x.jC,UF x.top],.bool b]) ?_ hd hP;simp[results,Tryz.results10,go_sem,h8,h9,q0,q1,q2,q3,q4,q5,q6]
theorem Gj(Y:Sy)(c:Cr)(x:Cn)(l:List Ln)(k:Nat)(hk:k<l.length):Y.dx c x (l.drop k)=(Y.jm c x l[k]).dx c x (l.drop (k+1)):=by
 rw[List.drop_eq_getElem_cons hk];rfl
section
variable{w w':World}{pf pw:Nat}{R:Rp}{pv:Value}{Y:Sy}
theorem tX{Q:World→Prop}{L0:Nat}(h:bm w pf pw R pv Y)(hQ:Q5 Q L0 pf pw pv)(G6:Q w)(ME:L0≤w.heap.size)(hlow:∀k,R.Y pf pw k→L0≤k){N:Nat}(hk:eJ Y N)(hN:N≤800)(hst:cU Y)(hnow:gb Y)(u:Us)(Jr:-9223372036854775808≤u.u)(Jq:u.u≤9223372036854775807)(ht:u.data.size≤100000)(no:Int)
  {za:Option Addr} {zn zc:Nat} {l:List Ln} (hz:∀A,Q A→bF A 3 KN za zn zc l) (hz6:l.length≤6) (hzb:∀y∈l,y.name.size≤300) :
  Calls Tryz.prog 10 #[UH (some ⟨pf,0,none⟩),UJ #[UE UL u.u,UE UL u.g,UF u.data],UE UL no,UG za zn zc] w fun e w'=>
   e=.returned (UK #[(Y.cT u no l).2.1.v,.bool (Y.cT u no l).2.2])∧iu w w' pf pw R pv (Y.cT u no l).1∧gb (Y.cT u no l).1∧cU (Y.cT u no l).1:=by
 obtain⟨hU,hR,hb⟩:=iJ w #[UE UL u.u,UE UL u.g,UF u.data] #[UF ⟨#[]⟩,UE UL 0,UE UL 0,UE UL 0,UE UL 0,UE UL 0,UF ⟨#[]⟩] 27 48;have wY:=Ux (fun(w3:World) (cl:UA w w3)=>Az (h.an cl) hk (by omega) hst.dead u Jr Jq ht no);have gQ:=Ux (hk.bJ u no);have vh:=Ux (kn hst u no);have yN:=Ux (vd hnow u no);have wV:=Ux (show Y.cT u no l=if(Y.bJ u no).2.2≠0 then((Y.bJ u no).1,kr,false) else((Y.bJ u no).1.dx u.c (Y.bJ u no).2.1 l,(Y.bJ u no).2.1,true) from rfl);have HZ:=Ux hz;have hzl:l.length=zn:=(hz w G6).1;have HW:=Ux (ag h (ag hQ (ag G6 (ag ME hlow))));have HB:=Ux hzb;generalize Y.cT u no l=fd at wV⊢;generalize Y.bJ u no=q at wY gQ vh yN wV;obtain⟨Y1,x,qe⟩:=q;unfold Cn.v at wY;dsimp only at wY gQ vh yN wV;clear h hk hz hQ G6 ME hlow hzb hst hnow;go_enter Tryz.func10,Tryz.ntmps10;go_upto_region 1 with fail;generalize World.alloc _ _=X at hU hR hb⊢;obtain⟨uc,uf,uz⟩:=hU.facts;have H0:=Ux (ag hU (ag hR hb));clear hU hR hb;go_wp2_with fail;refine(wY.o _ H0.o.2.2).mono ?_;rintro e w1 ⟨rfl,R1,eV,ij⟩;obtain⟨nb,aJ⟩:=Uz w1 #[UF x.path,UE UL x.dir,UE UL x.info,UE UL x.files,UE UL x.out,UE UL x.jC,UF x.top] 48;have ez:=H0.o.2.1.sy (HW.o.1.an H0.o.2.2) ij (by decide) (by decide);have JJ:=H0.o.1.sy (HW.o.1.an H0.o.2.2) ij (by decide) (by decide);have Py:Q w1∧L0≤w1.heap.size:=⟨HW.o.2.1.s _ _ _ _ _ (HW.o.2.1.b _ _ HW.o.2.2.1 H0.o.2.2) (HW.o.1.an H0.o.2.2) ij HW.o.2.2.2.2 (ae HW.o.2.2.2.1 H0.o.2.2.size),ae (ae HW.o.2.2.2.1 H0.o.2.2.size) ij.mod.size⟩;have uH:=(aS.aq (F:=R.Y pf pw) H0.o.2.2).trans ij;have Sz:=uH.bl HW.o.2.2.2.2 HW.o.2.2.2.1;have hlr:=ez.lt;clear uc uf uz;go_upto_region 2 with fail;generalize w1.alloc _=w2 at nb aJ⊢;have xV:=eV.an aJ;have dw:=ez.an aJ;have JI:=JJ.an aJ;have Px:Q w2∧L0≤w2.heap.size:=⟨HW.o.2.1.b _ _ Py.1 aJ,ae Py.2 aJ.size⟩;have ib:=uH.trans (aS.aq (F:=R1.Y pf pw) aJ);generalize w1.heap.size=bx at nb hlr⊢;clear eV ij ez JJ Py uH aJ;by_cases hq:qe≠0
 ·have hv:(qe != 0)=true:=by simpa using hq
  have hE:=wV.o;rw[if_pos hq] at hE;subst hE;obtain⟨rc,rf,rz⟩:=dw.facts;have HE:=Ux (ag dw (ag xV ib));clear hq dw xV ib nb JI Px;go_wp2_with fail;exact tW (x:=kr) HE.o.1.eS rfl rfl rfl ⟨rfl,iu.eS ⟨R1,HE.o.2.1,HE.o.2.2⟩ HE.o.1 (by omega) _ _ _ _ _ _ _,yN.o,vh.o⟩
 ·obtain rfl:qe=0:=by simpa using hq
  have hE:=wV.o;rw[if_neg (by decide)] at hE;subst hE;obtain⟨uc,uf,uz⟩:=JI.facts;have H2:=Ux (ag dw (ag xV (ag ib (ag nb (ag Px Sz)))));have hbu:=nb.lt;clear hq dw xV ib nb JI Px;go_wp2_with fail;refine(fi u.u u.g u.data _).mono ?_;rintro e w3 ⟨rfl,cl⟩;have hC3:=ax.new w3 #[UE UL u.u,UE UL u.g] 64;have lP:=ao cl (.cells #[UE UL u.u,UE UL u.g] 64);have hbz:=cl.size;clear uc uf uz cl;go_upto_region 5 with fail;generalize w3.alloc _=w4 at hC3 lP⊢;generalize w3.heap.size=bc at hC3 hbz⊢;have Uh:=Ux (show zi Q L0 w pf pw R pv bx bc (w.heap.size+1) u.c x (N+20) Y1 w4 from
   ⟨⟨R1,H2.o.2.1.an lP,H2.o.2.2.1.trans (aS.aq lP),H2.o.2.2.2.2.2⟩,⟨H2.o.2.2.2.1.an lP,hC3,H2.o.1.an lP,HW.o.2.1.b _ _ H2.o.2.2.2.2.1.1 lP,ae H2.o.2.2.2.2.1.2 lP.size⟩,gQ.o.mono (by omega),yN.o⟩)
  clear hC3 lP;go_wp2_with fail
  go_loopw [13] (fun t13 wr=>∃(k:Nat) (Z:Sy),k≤l.length∧t13=UE UL k∧Y1.dx u.c x l=Z.dx u.c x (l.drop k)∧zi Q L0 w pf pw R pv bx bc (w.heap.size+1) u.c x (N+20+3*k) Z wr∧cU Z) (fun t13 _=>l.length-(intOf t13).toNat)
  case atStart=>exact⟨0,Y1,Nat.zero_le _,rfl,rfl,Uh.o,vh.o⟩
  case round=>
   obtain⟨k,Z,hkl,rfl,hfl,hI,hst⟩:=hrel;by_cases hk:k<l.length
   ·obtain⟨zb,zo,rfl,hzl1,-,-,-⟩:=dK (HZ.o _ hI.s.q) k hk;have Ht:=Ux (hfl.trans (Gj Z u.c x l k hk));generalize hy:l[k]=y at Ht;have hyn:y.name.size≤300:=by have:=HB.o l[k] (List.getElem_mem hk);rw[hy] at this;exact this
    have Ev:=Ux (show Z.jm u.c x y=(if 0≤y.time then((if(Z.op (fun S now=>S.aN u.c now x.files y.name 448)).2.2=0∧0≤y.size then((Z.op (fun S now=>S.aN u.c now x.files y.name 448)).1.op (fun S now=>S.file u.c now (Z.op (fun S now=>S.aN u.c now x.files y.name 448)).2.1 kE 384 (ed y.size))).1 else(Z.op (fun S now=>S.aN u.c now x.files y.name 448)).1).op (fun S now=>S.file u.c now x.info (y.name++dQ) 384 ByteArray.empty)).1
     else(if(Z.op (fun S now=>S.aN u.c now x.files y.name 448)).2.2=0∧0≤y.size then((Z.op (fun S now=>S.aN u.c now x.files y.name 448)).1.op (fun S now=>S.file u.c now (Z.op (fun S now=>S.aN u.c now x.files y.name 448)).2.1 kE 384 (ed y.size))).1 else(Z.op (fun S now=>S.aN u.c now x.files y.name 448)).1)).cZ (y.time % 256) from rfl)
    have hokm:eJ (Z.op (fun S now=>S.aN u.c now x.files y.name 448)).1 (N+20+3*k+1):=hI.ok.op (hI.ok.bK.aN u.c Z.now x.files y.name 448);have hnom:=hI.now.op (fun S now=>S.aN u.c now x.files y.name 448);have hstm:=fU hst (fun S now=>S.aN u.c now x.files y.name 448);have kS:=Ux (fun(A:World) (hA:zi Q L0 w pf pw R pv bx bc (w.heap.size+1) u.c x (N+20+3*k) Z A)=>hA.call HW.o.2.1 (M':=N+20+3*k+1) (Z':=(Z.op (fun S now=>S.aN u.c now x.files y.name 448)).1) (P:=fun e=>e=.returned (UK #[UE UL (Z.op (fun S now=>S.aN u.c now x.files y.name 448)).2.1,UE UL (Z.op (fun S now=>S.aN u.c now x.files y.name 448)).2.2])) (f:=27) (args:=#[UH (some ⟨pf,0,none⟩),UJ #[UE UL u.u,UE UL u.g],UE UL x.files,UF y.name,UE UL 448]) hokm hnom
     (fun R' h1=>k7 h1 hA.ok.bK.ok (by omega) ⟨hA.ok.c0,by have:=hA.ok.cN;omega⟩ (by have:=hA.ok.pl;omega) u.c x.files y.name 448 (by omega)))
    generalize Z.op (fun S now=>S.aN u.c now x.files y.name 448)=r at Ev hokm hnom hstm kS;obtain⟨Z1,d,g⟩:=r;dsimp only at Ev hokm hnom hstm kS;have hbd:UA wr wr.drew:=(Below.refl _ _).drew;have yh:=hI.an HW.o.2.1 hbd;have NG:=Ux yh;have ow:=Ux hstm;clear hI hfl hst hokm hnom hstm;go_upto_region 8 with fail;refine wp_region_held_drew (S:=fun w'=>Hc Q L0 w' w bx bc (w.heap.size+1) u.c x) (by kernel_rfl) yh.s (fun bj=>?_);refine aL 9 [(0,35),(1,36),(2,37),(3,38),(4,39),(5,40),(6,41),(7,42),(8,43)] (by kernel_rfl) (by kernel_rfl) rfl (fun _ _ _ _ _ h=>h) bj ?_
    iterate 9 (apply aF rfl rfl;(· (intro w9 cL;obtain⟨s1,-,-⟩:=cL.x.facts;obtain⟨s2,-,-⟩:=cL.c.facts;obtain⟨zb',zo',hz',hzl,s3,s4,s5⟩:=dK (HZ.o _ cL.q) k hk;injection hz' with hz';injection hz' with fj fo;subst fj fo;rw[hy] at s3 s4 s5;clear cL;go_simp;(try with_reducible rfl)));simp only[ah,ai,aj])
    refine aK ?_;refine bN 9 44 (R:=fun v w'=>v=UK #[UE UL d,UE UL g]∧zi Q L0 w pf pw R pv bx bc (w.heap.size+1) u.c x (N+20+3*k+1) Z1 w') (by kernel_rfl) rfl rfl rfl ?xa ((kS.o _ NG.o).mono (fun e w' ⟨he,hw⟩=>⟨_,he,rfl,hw⟩)) (fun v w' ⟨_,hw⟩=>hw.s) ?_
    case xa=>(go_simp;first|rfl|exact⟨rfl,rfl⟩)
    rintro _ w5 ⟨rfl,MG⟩;simp only[ah,ai,aj];refine aL 5 [(10,34),(11,45),(12,46),(13,14),(14,15)] (by kernel_rfl) (by kernel_rfl) rfl (fun _ _ _ _ _ h=>h) MG.s ?_
    iterate 5 (apply aF rfl rfl;(· (intro w9 cL;clear cL;go_simp;(try with_reducible rfl)));simp only[ah,ai,aj])
    refine aK ?_;refine wpAnyH_done (by kernel_rfl) ?_ _;have nH:=Ux MG;clear bj yh hbd MG;obtain⟨zb',zo',hz',hzl',z0,z1,z2⟩:=dK (HZ.o _ nH.o.s.q) k hk;injection hz' with hz';injection hz' with fj fo;subst fj fo;rw[hy] at z0;clear z1 z2;by_cases hgs:g=0∧0≤y.size
    ·have Qr:=Ux hgs;obtain⟨KS,uH⟩:=hgs;subst KS;have tI:eJ (Z1.op (fun S now=>S.file u.c now d kE 384 (ed y.size))).1 (N+20+3*k+1+1):=nH.o.ok.op (nH.o.ok.bK.file _ _ _ _ _ _);have xS:=nH.o.now.op (fun S now=>S.file u.c now d kE 384 (ed y.size));have hbs:(ed y.size).size≤1000:=by
      unfold ed;rw[dn,List.length_replicate];omega
     have yR:=Ux (fun(A:World) (hA:zi Q L0 w pf pw R pv bx bc (w.heap.size+1) u.c x (N+20+3*k+1) Z1 A)=>hA.call HW.o.2.1 (M':=N+20+3*k+1+1) (Z':=(Z1.op (fun S now=>S.file u.c now d kE 384 (ed y.size))).1) (P:=fun e=>e=.returned (UK #[UE UL (Z1.op (fun S now=>S.file u.c now d kE 384 (ed y.size))).2.1,UE UL (Z1.op (fun S now=>S.file u.c now d kE 384 (ed y.size))).2.2])) (f:=16) (args:=#[UH (some ⟨pf,0,none⟩),UJ #[UE UL u.u,UE UL u.g],UE UL d,UF kE,UE UL 384,UF (ed y.size)]) tI xS
      (fun R' h1=>fS h1 hA.ok.bK.ok (by omega) ⟨hA.ok.c0,by have:=hA.ok.cN;omega⟩ (by have:=hA.ok.pl;omega) u.c d kE 384 (ed y.size) (by decide) (by omega)))
     have ri:=fU ow.o (fun S now=>S.file u.c now d kE 384 (ed y.size));have uC:=Ux ri;have HBy:=Ux (fun w=>Bj y.size w);generalize hZ2:Z1.op (fun S now=>S.file u.c now d kE 384 (ed y.size))=r2 at tI xS yR ri uC;have Np:=Ux hZ2;obtain⟨Z2,d2,g2⟩:=r2;dsimp only at tI xS yR ri uC;generalize ed y.size=bs at yR HBy hbs Np Ev;clear ri tI xS hZ2;go_upto_region 10 with fail;have hbd:UA w5 w5.drew:=(Below.refl _ _).drew;have yh:=nH.o.an HW.o.2.1 hbd;have NG:=Ux yh;unfold kE at yR;refine wp_region_held_drew (S:=fun w'=>Hc Q L0 w' w bx bc (w.heap.size+1) u.c x) (by kernel_rfl) yh.s (fun bj=>?_);refine aL 8 [(0,57),(1,58),(2,59),(3,60),(4,61),(5,62),(6,63),(7,64)] (by kernel_rfl) (by kernel_rfl) rfl (fun _ _ _ _ _ h=>h) bj ?_
     iterate 8 (apply aF rfl rfl;(· (intro w9 cL;obtain⟨s1,-,-⟩:=cL.x.facts;obtain⟨s2,-,-⟩:=cL.c.facts;obtain⟨zb',zo',hz',hzl,s3,s4,s5⟩:=dK (HZ.o _ cL.q) k hk;injection hz' with hz';injection hz' with fj fo;subst fj fo;rw[hy] at s3 s4 s5;clear cL;go_simp;(try with_reducible rfl)));simp only[ah,ai,aj])
     refine aK ?_;refine bN 8 65 (R:=fun v w'=>v=UF bs∧w'=w5.drew) (by kernel_rfl) rfl rfl rfl ?xf ((HBy.o _).mono (fun e w' ⟨he,hw⟩=>⟨_,he,rfl,hw.symm⟩)) (fun v w' ⟨_,hw⟩=>by rw[hw];exact bj) ?_
     case xf=>(go_simp;(try rfl))
     rintro _ _ ⟨rfl,rfl⟩;simp only[ah,ai,aj];refine bN 9 66 (R:=fun v w'=>zi Q L0 w pf pw R pv bx bc (w.heap.size+1) u.c x (N+20+3*k+1+1) Z2 w') (by kernel_rfl) rfl rfl rfl ?xg ((yR.o _ NG.o).mono (fun e w' ⟨he,hw⟩=>⟨_,he,hw⟩)) (fun v w' hw=>hw.s) ?_
     case xg=>(go_simp;first|rfl|exact⟨rfl,rfl⟩)
     rintro v6 w6 wB;simp only[ah,ai,aj];refine wpAnyH_done (by kernel_rfl) ?_ _;have lL:=Ux wB;clear bj yh hbd wB z0 uH hbs;obtain⟨zb',zo',hz',hzl',z0,z1,z2⟩:=dK (HZ.o _ lL.o.s.q) k hk;injection hz' with hz';injection hz' with fj fo;subst fj fo;rw[hy] at z1;clear z0 z2;by_cases AH:0≤y.time
     ·have Ku:=Ux AH;have oT:eJ ((Z2).op (fun S now=>S.file u.c now x.info (y.name++dQ) 384 ByteArray.empty)).1 (N+20+3*k+1+1+1):=lL.o.ok.op (lL.o.ok.bK.file _ _ _ _ _ _);have oU:=lL.o.now.op (fun S now=>S.file u.c now x.info (y.name++dQ) 384 ByteArray.empty);have Eu:=Ux (fun(A:World) (hA:zi Q L0 w pf pw R pv bx bc (w.heap.size+1) u.c x (N+20+3*k+1+1) (Z2) A)=>hA.call HW.o.2.1 (M':=N+20+3*k+1+1+1) (Z':=((Z2).op (fun S now=>S.file u.c now x.info (y.name++dQ) 384 ByteArray.empty)).1) (P:=fun e=>e=.returned (UK #[UE UL ((Z2).op (fun S now=>S.file u.c now x.info (y.name++dQ) 384 ByteArray.empty)).2.1,UE UL ((Z2).op (fun S now=>S.file u.c now x.info (y.name++dQ) 384 ByteArray.empty)).2.2])) (f:=16) (args:=#[UH (some ⟨pf,0,none⟩),UJ #[UE UL u.u,UE UL u.g],UE UL x.info,UF (y.name++dQ),UE UL 384,UF ByteArray.empty]) oT oU
       (fun R' h1=>fS h1 hA.ok.bK.ok (by omega) ⟨hA.ok.c0,by have:=hA.ok.cN;omega⟩ (by have:=hA.ok.pl;omega) u.c x.info (y.name++dQ) 384 ByteArray.empty (by rw[ByteArray.size_append];have:dQ.size=10:=rfl;omega) (by decide)))
      have lr:=fU uC.o (fun S now=>S.file u.c now x.info (y.name++dQ) 384 ByteArray.empty);have jU:=Ux lr;have Js:¬9223372036854775807<y.name.size+10:=by omega
      generalize N1:(Z2).op (fun S now=>S.file u.c now x.info (y.name++dQ) 384 ByteArray.empty)=r3 at oT oU Eu lr jU;have TO:=Ux N1;obtain⟨Z3,d3,g3⟩:=r3;dsimp only at oT oU Eu lr jU;clear lr oT oU N1;go_upto_region 12 with fail;have hbd:UA w6 w6.drew:=(Below.refl _ _).drew;have yh:=lL.o.an HW.o.2.1 hbd;have NG:=Ux yh;unfold dQ at Eu;refine wp_region_held_drew (S:=fun w'=>Hc Q L0 w' w bx bc (w.heap.size+1) u.c x) (by kernel_rfl) yh.s (fun bj=>?_);refine aL 10 [(0,73),(1,74),(2,75),(3,76),(4,77),(5,78),(6,79),(7,80),(8,81),(9,82)] (by kernel_rfl) (by kernel_rfl) rfl (fun _ _ _ _ _ h=>h) bj ?_
      iterate 10 (apply aF rfl rfl;(· (intro w9 cL;obtain⟨s1,-,-⟩:=cL.x.facts;obtain⟨s2,-,-⟩:=cL.c.facts;obtain⟨zb',zo',hz',hzl,s3,s4,s5⟩:=dK (HZ.o _ cL.q) k hk;injection hz' with hz';injection hz' with fj fo;subst fj fo;rw[hy] at s3 s4 s5;clear cL;go_simp;(try with_reducible rfl)));simp only[ah,ai,aj])
      refine aK ?_;refine bN 10 83 (R:=fun v w'=>zi Q L0 w pf pw R pv bx bc (w.heap.size+1) u.c x (N+20+3*k+1+1+1) Z3 w') (by kernel_rfl) rfl rfl rfl ?xi ((Eu.o _ NG.o).mono (fun e w' ⟨he,hw⟩=>⟨_,he,hw⟩)) (fun v w' hw=>hw.s) ?_
      case xi=>(go_simp;first|rfl|exact⟨rfl,rfl⟩|exact⟨⟨rfl,rfl⟩,rfl⟩)
      rintro v7 w7 Oa;simp only[ah,ai,aj];refine wpAnyH_done (by kernel_rfl) ?_ _;have BH:=Ux Oa;clear bj yh hbd Oa z1 AH Js;obtain⟨zb',zo',hz',hzl',z0,z1,z2⟩:=dK (HZ.o _ BH.o.s.q) k hk;injection hz' with hz';injection hz' with fj fo;subst fj fo;rw[hy] at z1;have hbt:=qy y.time;have Ks:=Ux (BH.o.call HW.o.2.1 (M':=N+20+3*(k+1)) (Z':=(Z3).cZ (y.time % 256)) (P:=fun e=>∃v,e=.returned (UE UL v)) (f:=24) (args:=#[UH (some ⟨pf,0,none⟩),UE UL (y.time % 256)]) ((BH.o.ok.mono (by omega)).cZ _) (BH.o.now.tick _) (fun R' h1=>(gG h1 (y.time % 256) (by omega) BH.o.now).mono (fun e B ⟨hv,h2,h3⟩=>⟨hv,R',h2,aS.dH (h3.mono (fun q hq=>.inl hq))⟩)));have HEq:=Ux (show Y1.dx u.c x l=((Z3).cZ (y.time % 256)).dx u.c x (l.drop (k+1)) by rw[Ht.o,Ev.o,if_pos Ku.o,if_pos Qr.o,Np.o,TO.o]);have jX:=Ux hk;clear z0 z2;go_wp2_with fail;refine Ks.o.mono ?_;rintro e w9 ⟨⟨v9,rfl⟩,AQ⟩;have KE:=Ux AQ;clear AQ z1 hbt;go_wp2_with fail;go_roundw
      case rel=>exact⟨k+1,_,by have:=jX.o;omega,by go_num,HEq.o,KE.o,gF jU.o _⟩
      case measure=>
       have:=jX.o;simp[intOf];omega
     ·have Ku:=Ux AH;clear AH z1;obtain⟨zb',zo',hz',hzl',z0,z1,z2⟩:=dK (HZ.o _ lL.o.s.q) k hk;injection hz' with hz';injection hz' with fj fo;subst fj fo;rw[hy] at z1;have hbt:=qy y.time;have Ks:=Ux (lL.o.call HW.o.2.1 (M':=N+20+3*(k+1)) (Z':=(Z2).cZ (y.time % 256)) (P:=fun e=>∃v,e=.returned (UE UL v)) (f:=24) (args:=#[UH (some ⟨pf,0,none⟩),UE UL (y.time % 256)]) ((lL.o.ok.mono (by omega)).cZ _) (lL.o.now.tick _) (fun R' h1=>(gG h1 (y.time % 256) (by omega) lL.o.now).mono (fun e B ⟨hv,h2,h3⟩=>⟨hv,R',h2,aS.dH (h3.mono (fun q hq=>.inl hq))⟩)));have HEq:=Ux (show Y1.dx u.c x l=((Z2).cZ (y.time % 256)).dx u.c x (l.drop (k+1)) by rw[Ht.o,Ev.o,if_neg Ku.o,if_pos Qr.o,Np.o]);have jX:=Ux hk;clear z0 z2;go_wp2_with fail;refine Ks.o.mono ?_;rintro e w9 ⟨⟨v9,rfl⟩,AQ⟩;have KE:=Ux AQ;clear AQ z1 hbt;go_wp2_with fail;go_roundw
      case rel=>exact⟨k+1,_,by have:=jX.o;omega,by go_num,HEq.o,KE.o,gF uC.o _⟩
      case measure=>
       have:=jX.o;simp[intOf];omega
    ·have Qr:=Ux hgs;have hv9:(g==0)=true→¬0≤y.size:=fun h h2=>hgs ⟨by simpa using h,h2⟩;by_cases KS:g=0
     ·have uH:¬0≤y.size:=fun h=>hgs ⟨KS,h⟩;have hvg:(g==0)=true:=by simpa using KS
      have hvs:y.size<0:=by omega
      clear hgs hv9 KS;go_upto_region 11 with fail;clear z0 uH hvg hvs;obtain⟨zb',zo',hz',hzl',z0,z1,z2⟩:=dK (HZ.o _ nH.o.s.q) k hk;injection hz' with hz';injection hz' with fj fo;subst fj fo;rw[hy] at z1;clear z0 z2;by_cases AH:0≤y.time
      ·have Ku:=Ux AH;have oT:eJ ((Z1).op (fun S now=>S.file u.c now x.info (y.name++dQ) 384 ByteArray.empty)).1 (N+20+3*k+1+1):=nH.o.ok.op (nH.o.ok.bK.file _ _ _ _ _ _);have oU:=nH.o.now.op (fun S now=>S.file u.c now x.info (y.name++dQ) 384 ByteArray.empty);have Eu:=Ux (fun(A:World) (hA:zi Q L0 w pf pw R pv bx bc (w.heap.size+1) u.c x (N+20+3*k+1) (Z1) A)=>hA.call HW.o.2.1 (M':=N+20+3*k+1+1) (Z':=((Z1).op (fun S now=>S.file u.c now x.info (y.name++dQ) 384 ByteArray.empty)).1) (P:=fun e=>e=.returned (UK #[UE UL ((Z1).op (fun S now=>S.file u.c now x.info (y.name++dQ) 384 ByteArray.empty)).2.1,UE UL ((Z1).op (fun S now=>S.file u.c now x.info (y.name++dQ) 384 ByteArray.empty)).2.2])) (f:=16) (args:=#[UH (some ⟨pf,0,none⟩),UJ #[UE UL u.u,UE UL u.g],UE UL x.info,UF (y.name++dQ),UE UL 384,UF ByteArray.empty]) oT oU
        (fun R' h1=>fS h1 hA.ok.bK.ok (by omega) ⟨hA.ok.c0,by have:=hA.ok.cN;omega⟩ (by have:=hA.ok.pl;omega) u.c x.info (y.name++dQ) 384 ByteArray.empty (by rw[ByteArray.size_append];have:dQ.size=10:=rfl;omega) (by decide)))
       have lr:=fU ow.o (fun S now=>S.file u.c now x.info (y.name++dQ) 384 ByteArray.empty);have jU:=Ux lr;have Js:¬9223372036854775807<y.name.size+10:=by omega
       generalize N1:(Z1).op (fun S now=>S.file u.c now x.info (y.name++dQ) 384 ByteArray.empty)=r3 at oT oU Eu lr jU;have TO:=Ux N1;obtain⟨Z3,d3,g3⟩:=r3;dsimp only at oT oU Eu lr jU;clear lr oT oU N1;go_upto_region 12 with fail;have hbd:UA w5 w5.drew:=(Below.refl _ _).drew;have yh:=nH.o.an HW.o.2.1 hbd;have NG:=Ux yh;unfold dQ at Eu;refine wp_region_held_drew (S:=fun w'=>Hc Q L0 w' w bx bc (w.heap.size+1) u.c x) (by kernel_rfl) yh.s (fun bj=>?_);refine aL 10 [(0,73),(1,74),(2,75),(3,76),(4,77),(5,78),(6,79),(7,80),(8,81),(9,82)] (by kernel_rfl) (by kernel_rfl) rfl (fun _ _ _ _ _ h=>h) bj ?_
       iterate 10 (apply aF rfl rfl;(· (intro w9 cL;obtain⟨s1,-,-⟩:=cL.x.facts;obtain⟨s2,-,-⟩:=cL.c.facts;obtain⟨zb',zo',hz',hzl,s3,s4,s5⟩:=dK (HZ.o _ cL.q) k hk;injection hz' with hz';injection hz' with fj fo;subst fj fo;rw[hy] at s3 s4 s5;clear cL;go_simp;(try with_reducible rfl)));simp only[ah,ai,aj])
       refine aK ?_;refine bN 10 83 (R:=fun v w'=>zi Q L0 w pf pw R pv bx bc (w.heap.size+1) u.c x (N+20+3*k+1+1) Z3 w') (by kernel_rfl) rfl rfl rfl ?xi ((Eu.o _ NG.o).mono (fun e w' ⟨he,hw⟩=>⟨_,he,hw⟩)) (fun v w' hw=>hw.s) ?_
       case xi=>(go_simp;first|rfl|exact⟨rfl,rfl⟩|exact⟨⟨rfl,rfl⟩,rfl⟩)
       rintro v7 w7 Oa;simp only[ah,ai,aj];refine wpAnyH_done (by kernel_rfl) ?_ _;have BH:=Ux Oa;clear bj yh hbd Oa z1 AH Js;obtain⟨zb',zo',hz',hzl',z0,z1,z2⟩:=dK (HZ.o _ BH.o.s.q) k hk;injection hz' with hz';injection hz' with fj fo;subst fj fo;rw[hy] at z1;have hbt:=qy y.time;have Ks:=Ux (BH.o.call HW.o.2.1 (M':=N+20+3*(k+1)) (Z':=(Z3).cZ (y.time % 256)) (P:=fun e=>∃v,e=.returned (UE UL v)) (f:=24) (args:=#[UH (some ⟨pf,0,none⟩),UE UL (y.time % 256)]) ((BH.o.ok.mono (by omega)).cZ _) (BH.o.now.tick _) (fun R' h1=>(gG h1 (y.time % 256) (by omega) BH.o.now).mono (fun e B ⟨hv,h2,h3⟩=>⟨hv,R',h2,aS.dH (h3.mono (fun q hq=>.inl hq))⟩)));have HEq:=Ux (show Y1.dx u.c x l=((Z3).cZ (y.time % 256)).dx u.c x (l.drop (k+1)) by rw[Ht.o,Ev.o,if_pos Ku.o,if_neg Qr.o,TO.o]);have jX:=Ux hk;clear z0 z2;go_wp2_with fail;refine Ks.o.mono ?_;rintro e w9 ⟨⟨v9,rfl⟩,AQ⟩;have KE:=Ux AQ;clear AQ z1 hbt;go_wp2_with fail;go_roundw
       case rel=>exact⟨k+1,_,by have:=jX.o;omega,by go_num,HEq.o,KE.o,gF jU.o _⟩
       case measure=>
        have:=jX.o;simp[intOf];omega
      ·have Ku:=Ux AH;clear AH z1;obtain⟨zb',zo',hz',hzl',z0,z1,z2⟩:=dK (HZ.o _ nH.o.s.q) k hk;injection hz' with hz';injection hz' with fj fo;subst fj fo;rw[hy] at z1;have hbt:=qy y.time;have Ks:=Ux (nH.o.call HW.o.2.1 (M':=N+20+3*(k+1)) (Z':=(Z1).cZ (y.time % 256)) (P:=fun e=>∃v,e=.returned (UE UL v)) (f:=24) (args:=#[UH (some ⟨pf,0,none⟩),UE UL (y.time % 256)]) ((nH.o.ok.mono (by omega)).cZ _) (nH.o.now.tick _) (fun R' h1=>(gG h1 (y.time % 256) (by omega) nH.o.now).mono (fun e B ⟨hv,h2,h3⟩=>⟨hv,R',h2,aS.dH (h3.mono (fun q hq=>.inl hq))⟩)));have HEq:=Ux (show Y1.dx u.c x l=((Z1).cZ (y.time % 256)).dx u.c x (l.drop (k+1)) by rw[Ht.o,Ev.o,if_neg Ku.o,if_neg Qr.o]);have jX:=Ux hk;clear z0 z2;go_wp2_with fail;refine Ks.o.mono ?_;rintro e w9 ⟨⟨v9,rfl⟩,AQ⟩;have KE:=Ux AQ;clear AQ z1 hbt;go_wp2_with fail;go_roundw
       case rel=>exact⟨k+1,_,by have:=jX.o;omega,by go_num,HEq.o,KE.o,gF ow.o _⟩
       case measure=>
        have:=jX.o;simp[intOf];omega
     ·have hvg:(g==0)=false:=by simpa using KS
      clear hgs hv9 KS;go_upto_region 11 with fail;clear z0 hvg;obtain⟨zb',zo',hz',hzl',z0,z1,z2⟩:=dK (HZ.o _ nH.o.s.q) k hk;injection hz' with hz';injection hz' with fj fo;subst fj fo;rw[hy] at z1;clear z0 z2;by_cases AH:0≤y.time
      ·have Ku:=Ux AH;have oT:eJ ((Z1).op (fun S now=>S.file u.c now x.info (y.name++dQ) 384 ByteArray.empty)).1 (N+20+3*k+1+1):=nH.o.ok.op (nH.o.ok.bK.file _ _ _ _ _ _);have oU:=nH.o.now.op (fun S now=>S.file u.c now x.info (y.name++dQ) 384 ByteArray.empty);have Eu:=Ux (fun(A:World) (hA:zi Q L0 w pf pw R pv bx bc (w.heap.size+1) u.c x (N+20+3*k+1) (Z1) A)=>hA.call HW.o.2.1 (M':=N+20+3*k+1+1) (Z':=((Z1).op (fun S now=>S.file u.c now x.info (y.name++dQ) 384 ByteArray.empty)).1) (P:=fun e=>e=.returned (UK #[UE UL ((Z1).op (fun S now=>S.file u.c now x.info (y.name++dQ) 384 ByteArray.empty)).2.1,UE UL ((Z1).op (fun S now=>S.file u.c now x.info (y.name++dQ) 384 ByteArray.empty)).2.2])) (f:=16) (args:=#[UH (some ⟨pf,0,none⟩),UJ #[UE UL u.u,UE UL u.g],UE UL x.info,UF (y.name++dQ),UE UL 384,UF ByteArray.empty]) oT oU
        (fun R' h1=>fS h1 hA.ok.bK.ok (by omega) ⟨hA.ok.c0,by have:=hA.ok.cN;omega⟩ (by have:=hA.ok.pl;omega) u.c x.info (y.name++dQ) 384 ByteArray.empty (by rw[ByteArray.size_append];have:dQ.size=10:=rfl;omega) (by decide)))
       have lr:=fU ow.o (fun S now=>S.file u.c now x.info (y.name++dQ) 384 ByteArray.empty);have jU:=Ux lr;have Js:¬9223372036854775807<y.name.size+10:=by omega
       generalize N1:(Z1).op (fun S now=>S.file u.c now x.info (y.name++dQ) 384 ByteArray.empty)=r3 at oT oU Eu lr jU;have TO:=Ux N1;obtain⟨Z3,d3,g3⟩:=r3;dsimp only at oT oU Eu lr jU;clear lr oT oU N1;go_upto_region 12 with fail;have hbd:UA w5 w5.drew:=(Below.refl _ _).drew;have yh:=nH.o.an HW.o.2.1 hbd;have NG:=Ux yh;unfold dQ at Eu;refine wp_region_held_drew (S:=fun w'=>Hc Q L0 w' w bx bc (w.heap.size+1) u.c x) (by kernel_rfl) yh.s (fun bj=>?_);refine aL 10 [(0,73),(1,74),(2,75),(3,76),(4,77),(5,78),(6,79),(7,80),(8,81),(9,82)] (by kernel_rfl) (by kernel_rfl) rfl (fun _ _ _ _ _ h=>h) bj ?_
       iterate 10 (apply aF rfl rfl;(· (intro w9 cL;obtain⟨s1,-,-⟩:=cL.x.facts;obtain⟨s2,-,-⟩:=cL.c.facts;obtain⟨zb',zo',hz',hzl,s3,s4,s5⟩:=dK (HZ.o _ cL.q) k hk;injection hz' with hz';injection hz' with fj fo;subst fj fo;rw[hy] at s3 s4 s5;clear cL;go_simp;(try with_reducible rfl)));simp only[ah,ai,aj])
       refine aK ?_;refine bN 10 83 (R:=fun v w'=>zi Q L0 w pf pw R pv bx bc (w.heap.size+1) u.c x (N+20+3*k+1+1) Z3 w') (by kernel_rfl) rfl rfl rfl ?xi ((Eu.o _ NG.o).mono (fun e w' ⟨he,hw⟩=>⟨_,he,hw⟩)) (fun v w' hw=>hw.s) ?_
       case xi=>(go_simp;first|rfl|exact⟨rfl,rfl⟩|exact⟨⟨rfl,rfl⟩,rfl⟩)
       rintro v7 w7 Oa;simp only[ah,ai,aj];refine wpAnyH_done (by kernel_rfl) ?_ _;have BH:=Ux Oa;clear bj yh hbd Oa z1 AH Js;obtain⟨zb',zo',hz',hzl',z0,z1,z2⟩:=dK (HZ.o _ BH.o.s.q) k hk;injection hz' with hz';injection hz' with fj fo;subst fj fo;rw[hy] at z1;have hbt:=qy y.time;have Ks:=Ux (BH.o.call HW.o.2.1 (M':=N+20+3*(k+1)) (Z':=(Z3).cZ (y.time % 256)) (P:=fun e=>∃v,e=.returned (UE UL v)) (f:=24) (args:=#[UH (some ⟨pf,0,none⟩),UE UL (y.time % 256)]) ((BH.o.ok.mono (by omega)).cZ _) (BH.o.now.tick _) (fun R' h1=>(gG h1 (y.time % 256) (by omega) BH.o.now).mono (fun e B ⟨hv,h2,h3⟩=>⟨hv,R',h2,aS.dH (h3.mono (fun q hq=>.inl hq))⟩)));have HEq:=Ux (show Y1.dx u.c x l=((Z3).cZ (y.time % 256)).dx u.c x (l.drop (k+1)) by rw[Ht.o,Ev.o,if_pos Ku.o,if_neg Qr.o,TO.o]);have jX:=Ux hk;clear z0 z2;go_wp2_with fail;refine Ks.o.mono ?_;rintro e w9 ⟨⟨v9,rfl⟩,AQ⟩;have KE:=Ux AQ;clear AQ z1 hbt;go_wp2_with fail;go_roundw
       case rel=>exact⟨k+1,_,by have:=jX.o;omega,by go_num,HEq.o,KE.o,gF jU.o _⟩
       case measure=>
        have:=jX.o;simp[intOf];omega
      ·have Ku:=Ux AH;clear AH z1;obtain⟨zb',zo',hz',hzl',z0,z1,z2⟩:=dK (HZ.o _ nH.o.s.q) k hk;injection hz' with hz';injection hz' with fj fo;subst fj fo;rw[hy] at z1;have hbt:=qy y.time;have Ks:=Ux (nH.o.call HW.o.2.1 (M':=N+20+3*(k+1)) (Z':=(Z1).cZ (y.time % 256)) (P:=fun e=>∃v,e=.returned (UE UL v)) (f:=24) (args:=#[UH (some ⟨pf,0,none⟩),UE UL (y.time % 256)]) ((nH.o.ok.mono (by omega)).cZ _) (nH.o.now.tick _) (fun R' h1=>(gG h1 (y.time % 256) (by omega) nH.o.now).mono (fun e B ⟨hv,h2,h3⟩=>⟨hv,R',h2,aS.dH (h3.mono (fun q hq=>.inl hq))⟩)));have HEq:=Ux (show Y1.dx u.c x l=((Z1).cZ (y.time % 256)).dx u.c x (l.drop (k+1)) by rw[Ht.o,Ev.o,if_neg Ku.o,if_neg Qr.o]);have jX:=Ux hk;clear z0 z2;go_wp2_with fail;refine Ks.o.mono ?_;rintro e w9 ⟨⟨v9,rfl⟩,AQ⟩;have KE:=Ux AQ;clear AQ z1 hbt;go_wp2_with fail;go_roundw
       case rel=>exact⟨k+1,_,by have:=jX.o;omega,by go_num,HEq.o,KE.o,gF ow.o _⟩
       case measure=>
        have:=jX.o;simp[intOf];omega
   ·obtain rfl:k=l.length:=by omega
    rw[List.drop_length] at hfl;have HE:=Ux (ag hI (ag hst hfl));obtain⟨xc,xf,xz⟩:=hI.s.x.facts;obtain⟨rc,rf,rz⟩:=hI.s.r.facts;clear hI hst hfl hk;go_wp2_with fail;obtain⟨R9,hy9,Sf,hl9⟩:=HE.o.1.y;have he:=HE.o.2.2;rw[he];exact tW (x:=x) HE.o.1.s.r.eS rfl rfl rfl ⟨rfl,iu.eS ⟨R9,hy9,Sf⟩ HE.o.1.s.r (by omega) _ _ _ _ _ _ _,HE.o.1.now,HE.o.2.1⟩
end
end
section
open Go.RowKit
theorem aA.head{w:World}{a:Option Addr}{n c:Nat}{es:List En}(h:aA w a n c es){k:Nat}(hk:k≤n):aA w a k c (es.take k):=by
 have hl:=h.len;obtain⟨h1,h2,h3,h4⟩:=h.sl;refine⟨⟨by rw[List.length_take];omega,by omega,h3,?_⟩,h.bD⟩;rcases h4 with h0|⟨b,off,ha,hb,hel⟩
 ·exact .inl (by omega)
 ·refine .inr ⟨b,off,ha,hb,fun i hi=>?_⟩;rw[List.length_take] at hi;obtain⟨cs,e1,e2,e3⟩:=hel i (by omega);exact⟨cs,e1,by rw[List.getElem_take];exact e2,e3⟩
theorem aA.from{w:World}{b off n c:Nat}{es:List En}(h:aA w (some ⟨b,off,none⟩) n c es){k:Nat}(hk:k≤n):aA w (if c=k then some ⟨b,off,none⟩ else some ⟨b,off+k*2,none⟩) (n-k) (c-k) (es.drop k):=by
 have hl:=h.len;obtain⟨h1,h2,h3,h4⟩:=h.sl;refine⟨⟨by rw[List.length_drop];omega,by omega,by omega,?_⟩,fun p hp=>?_⟩
 ·by_cases hn:n=k
  ·exact .inl (by omega)
  ·rcases h4 with h0|⟨b',off',ha,hb,hel⟩
   ·omega
   ·injection ha with ha;injection ha with e1 e2;subst e1 e2;refine .inr ⟨b,off+k*2,by rw[if_neg (by omega)],hb,fun i hi=>?_⟩;rw[List.length_drop] at hi;obtain⟨cs,e1,e2,e3⟩:=hel (k+i) (by omega);refine⟨cs,e1,by rw[List.getElem_drop];exact e2,fun j hj=>?_⟩;rw[←e3 j hj];congr 2;rw[Nat.add_mul];omega
 ·obtain⟨b',off',cur,e,hblk⟩:=h.bD _ rfl;injection e with e1 e2;subst e1 e2
  split at hp
  ·injection hp with hp;exact⟨b,off,cur,hp.symm,hblk⟩
  ·injection hp with hp;exact⟨b,off+k*2,cur,hp.symm,hblk⟩
theorem M0{es:List En}(h:fL es){s:ByteArray}{k:Nat}(hk:k<es.length)(hs:es[k].name=s):aM es s=es.take k++es.drop (k+1):=by
 have h0:es=es.take k++es[k]::es.drop (k+1):=by
  rw[←List.drop_eq_getElem_cons hk,List.take_append_drop]
 have hr:=h;rw[h0] at hr;unfold fL at hr;rw[List.pairwise_append] at hr;obtain⟨-,h2,h3⟩:=hr;rw[List.pairwise_cons] at h2;unfold aM
 conv=>lhs;rw[h0]
 rw[List.filter_append,List.filter_cons,if_neg (by simpa using hs)];have hne:∀{a b:En},gA a.name b.name=true→a.name≠b.name:=fun{a b} hab e=>by
  have:=kF hab;rw[e] at this hab;rw[hab] at this
  cases this
 rw[List.filter_eq_self.2 (fun a ha=>by
  have:=hne (h3 a ha _ List.mem_cons_self);rw[hs] at this;simpa using this),List.filter_eq_self.2 (fun a ha=>by
  have:=hne (h2.1 a ha);rw[hs] at this;simpa using fun e=>this e.symm)]
theorem Gt{es:List En}{s:ByteArray}(h:iX es s=false):aM es s=es:=by
 unfold aM;rw[List.filter_eq_self];intro a ha;unfold iX at h;have h2:es.find? (fun x=>decide (x.name=s))=none:=by simpa using h
 rw[List.find?_eq_none] at h2;simpa using h2 a ha
theorem CY{es:List En}(hr:fL es){s:ByteArray}(h:iX es s=true):∃hk:dG es s<es.length,es[dG es s].name=s:=by
 unfold iX at h;rw[mV hr s] at h
 split at h
 ·rename_i hk;refine⟨hk,?_⟩
  split at h
  ·rename_i he;exact he
  ·cases h
 ·cases h
theorem Gs(n:Nat)(hn:n≤3000000)(w:World) :
  Calls Tryz.prog 184 #[UG none 0 0,UE UL n] w fun e w'=>∃v,e=.returned v∧OE w' w.heap.size v []∧UA w w':=by
 obtain⟨i0,hi,kp,fj,fo⟩:=info_parts gY;have mixed:Tryz.prog.follows .mixedOrders=true:=by kernel_rfl
 by_cases h0:0<n
 ·have happ:=Lib.run_append_nil_zeros (P:=Tryz.prog) w 94 3 94 98 i0 (UJ #[UF ByteArray.empty,UE UL 0]) .i64 .i64 Tryz.underlying94 Tryz.underlying3 hi kp n h0 (by omega) (by omega) (by rw[fo];omega);have hcapge:n≤grownCap w n 0 98:=grownCap_ge w _ 0 98;have hcaple:grownCap w n 0 98≤maxLen:=grownCap_le_maxLen w _ 0 98 (by unfold maxLen;omega);generalize grownCap w n 0 98=cap at happ hcapge hcaple;generalize hZ:(Builtin.zeroCells (Value.cells (UJ #[UF ByteArray.empty,UE UL 0])) n++Builtin.zeroCells (Value.cells (UJ #[UF ByteArray.empty,UE UL 0])) (cap-n))=Z at happ;have hZs:Z.size=cap*2:=by rw[←hZ,Array.size_append,kU,kU];omega
  have HO:=Ux (show OE (w.drew.alloc (.cells Z 98)) w.heap.size (.slice (some ⟨w.heap.size,0,none⟩) 0 cap) [] from World.ownsRow_made w.drew Z cap (aa _) hcaple hZs);have HB:=Ux ((UB w).drew.alloc (aa _) (.cells Z 98));have KU:¬(cap=0):=by omega
  unfold maxLen at hcaple;clear hZ hZs hi kp fj fo;go_enter Tryz.func184,Tryz.ntmps184;go_wp2_with (at_builtin;refine Lib.wpList_append_run _ rfl _ _ _ _ rfl _ _ rfl rfl _ _ happ ?_);go_ret;exact⟨_,rfl,HO.o,HB.o⟩
 ·obtain rfl:n=0:=by omega
  clear hi kp fj fo;go_enter Tryz.func184,Tryz.ntmps184;go_wp2_with fail;go_ret;exact⟨_,rfl,⟨rfl,.inl ⟨rfl,rfl⟩⟩,Below.refl _ _⟩
structure Pt where
 a:Option Addr
 n:Nat
 c:Nat
 es:List En
def Pt.v(p:Pt):Value:=UG p.a p.n p.c
def ptC(p:Pt):List Value:=[p.v]
def ptQ(cs:List Value)(p:Pt):Prop:=cs=ptC p
theorem DT{w:World}{sb:Nat}{ps:List Pt}(h:ax w sb (ps.map Pt.v).toArray 94)(k:Nat)(hk:k<ps.length):w.cell? ⟨sb,k,none⟩=some (.slice ps[k].a ps[k].n ps[k].c):=by
 rw[h.cell k];simp[hk,Pt.v]
theorem qV(ps:List Pt)(sb:Nat)(w:World)(hb:ax w sb (ps.map Pt.v).toArray 94)(hp:∀p∈ps,aA w p.a p.n p.c p.es)(hm:ps.length≤9)(hn:∀p∈ps,p.n≤100000) :
  Calls Tryz.prog 151 #[.slice (some ⟨sb,0,none⟩) ps.length ps.length] w fun e w'=>∃v,e=.returned v∧OE w' w.heap.size v (ps.flatMap Pt.es)∧UA w w':=by
 have hsum:∀k,k≤ps.length→((ps.take k).map Pt.n).sum≤k*100000:=fun k=>by
  induction k with
  |zero=>intro _;simp
  |succ k ih=>
   intro hk;have h1:=ih (by omega);rw[List.take_succ_eq_append_getElem (by omega),List.map_append,List.sum_append];have:=hn ps[k] (List.getElem_mem _);rw[List.map_singleton,List.sum_singleton,Nat.succ_mul];omega
 have P9:=Ux hsum;have hlt:=hb.lt;have HP:=Ux hp;have HN:=Ux hn;have HB:=Ux hb;obtain⟨i0,hi,kp,fj,fo⟩:=info_parts gY;have HApp:=Ux (fun(W:World) (v:Value) (xs:List En) (hO:OE W w.heap.size v xs) (a:Option Addr) (n c:Nat) (es:List En) (he:aA W a n c es) (hx:xs.length+n≤1000000) (hs:w.heap.size≤W.heap.size)=>
  show∃v' W',(Builtin.append_ #[94,94] 94 #[v,UG a n c]).run Tryz.prog W=.ok v' W'∧OE W' w.heap.size v' (xs++es)∧Below w.heap.size W W' by
   have hl:=he.len;by_cases h0:0<n
   ·obtain⟨b,off,rfl,hbl⟩:=he.ej h0;obtain⟨g,cap,W',h1,h2,h3,-⟩:=eX 94 Tryz.underlying94 hi kp fj fo rfl (by omega) hO ⟨b,off,none⟩ n c (es.flatMap cP) (by rw[cJ cp,hl]) he.news (ph es) h0 (by unfold maxLen;omega) (by omega) hs;refine⟨_,W',h1,?_,h3.below (fun k hk=>(aH hO hk).1) hs⟩;unfold OE;rw[List.length_append,hl,List.flatMap_append];exact h2
   ·obtain rfl:n=0:=by omega
    obtain rfl:es=[]:=List.eq_nil_of_length_eq_zero hl;refine⟨v,W,jq _ Tryz.underlying94 hi hO a c,?_,Below.refl _ _⟩;rw[List.append_nil];exact hO)
 clear hsum hp hn hb hi kp fj fo;go_enter Tryz.func151,Tryz.ntmps151;go_wp2_with fail
 go_loopw [3,11] (fun t3 t11 wr=>∃k:Nat,k≤ps.length∧t11=UE UL k∧t3=UE UL (((ps.take k).map Pt.n).sum:Nat)∧w=wr) (fun _ t11 _=>ps.length-(intOf t11).toNat)
 case atStart=>exact⟨0,Nat.zero_le _,rfl,rfl,rfl⟩
 case round=>
  obtain⟨k,hkl,rfl,rfl,rfl⟩:=hrel;have ij:=P9.o k hkl;by_cases hk:k<ps.length
  ·have hc:=DT HB.o k hk;have ib:=P9.o (k+1) (by omega);have tH:((ps.take (k+1)).map Pt.n).sum=((ps.take k).map Pt.n).sum+ps[k].n:=by
    rw[List.take_succ_eq_append_getElem hk,List.map_append,List.sum_append];simp
   obtain⟨p,hpk⟩:∃p,ps[k]=p:=⟨_,rfl⟩;rw[hpk] at hc tH;have BD:=Ux tH;have jX:=Ux hk;generalize ((ps.take (k+1)).map Pt.n).sum=s2 at ib tH;generalize ((ps.take k).map Pt.n).sum=s1 at ij tH BD;have av:s1+p.n≤1000000:=by omega
   subst tH;clear hpk;go_wp2_with fail;go_roundw
   case rel=>exact⟨k+1,by have:=jX.o;omega,by go_num,by rw[BD.o];go_num,trivial⟩
   case measure=>
    have:=jX.o;simp[intOf];omega
  ·obtain rfl:k=ps.length:=by omega
   generalize ((ps.take ps.length).map Pt.n).sum=s1 at ij⊢;go_wp2_with fail;refine(Gs s1 (by omega) _).mono ?_;rintro e w1 ⟨v,rfl,hO,av⟩;have HO:=Ux hO;have dX:=Ux av;clear hO av;go_wp2_with fail
   go_loopw [6,27] (fun t6 t27 wr'=>∃k:Nat,k≤ps.length∧t27=UE UL k∧OE wr' w.heap.size t6 ((ps.take k).flatMap Pt.es)∧UA w wr') (fun _ t27 _=>ps.length-(intOf t27).toNat)
   case atStart=>exact⟨0,Nat.zero_le _,rfl,HO.o,dX.o⟩
   case round=>
    obtain⟨k,hkl,rfl,uJ,fR⟩:=hrel;by_cases hk:k<ps.length
    ·have hc:=DT (HB.o.nC fR (Nat.lt_of_lt_of_le HB.o.lt (aa _))) k hk;have he:=(HP.o ps[k] (List.getElem_mem hk)).an fR;have hln:((ps.take k).flatMap Pt.es).length+ps[k].n≤1000000:=by
      have hfl:∀j,j≤ps.length→((ps.take j).flatMap Pt.es).length≤((ps.take j).map Pt.n).sum:=fun j=>by
       induction j with
       |zero=>intro _;simp
       |succ j ih=>
        intro hj;have h1:=ih (by omega);have h2:=(HP.o ps[j] (List.getElem_mem (by omega))).len;rw[List.take_succ_eq_append_getElem (by omega),List.map_append,List.sum_append,List.flatMap_append,List.length_append,List.map_singleton,List.sum_singleton,List.flatMap_cons,List.flatMap_nil,List.append_nil];omega
      have h1:=hfl k hkl;have h2:=P9.o k hkl;have h3:=HN.o ps[k] (List.getElem_mem hk);omega
     have htk:(ps.take (k+1)).flatMap Pt.es=(ps.take k).flatMap Pt.es++ps[k].es:=by
      rw[List.take_succ_eq_append_getElem hk,List.flatMap_append,List.flatMap_cons,List.flatMap_nil,List.append_nil]
     obtain⟨p,hpk⟩:∃p,ps[k]=p:=⟨_,rfl⟩;rw[hpk] at hc he hln htk;obtain⟨v',W',hr,lV,dR⟩:=HApp.o wr u6 _ uJ p.a p.n p.c p.es he hln fR.size;have HR:=Ux hr;have pM:=Ux (ag lV (fR.trans dR));have jX:=Ux hk;have HTk:=Ux htk;clear he hln htk hpk hr lV dR uJ fR;go_wp2_with (at_builtin;refine aT rfl rfl rfl rfl HR.o ?_);go_roundw
     case rel=>exact⟨k+1,by have:=jX.o;omega,by go_num,by rw[HTk.o];exact pM.o.1,pM.o.2⟩
     case measure=>
      have:=jX.o;simp[intOf];omega
    ·obtain rfl:k=ps.length:=by omega
     have Qj:=Ux uJ;have rF:=Ux fR;clear uJ fR;go_wp2_with fail;go_ret;have:=Qj.o;rw[List.take_length] at this;exact⟨_,rfl,this,rF.o⟩
theorem OE.Og{w:World}{base:Nat}{v:Value}{es:List En}(h:OE w base v es):∃a n c,v=UG a n c∧aA w a n c es:=by
 obtain⟨a,c,rfl,-⟩:=bQ h;exact⟨a,es.length,c,rfl,OE.at h⟩
theorem wL(es:List En)(a:Option Addr)(n c:Nat)(s:ByteArray)(w:World)(he:aA w a n c es)(hr:fL es)(hn:n≤100000) :
  Calls Tryz.prog 116 #[UG a n c,UF s] w fun e w'=>∃a' n' c',e=.returned (UK #[UG a' n' c',.bool (iX es s)])∧aA w' a' n' c' (aM es s)∧UA w w':=by
 have HS:=Ux (lf es a n c s w he hr (by omega));have HE:=Ux he;have HR:=Ux hr;have hl:=he.len;generalize hh:iX es s=hv at HS⊢
 cases hv with
 |false=>
  have HD:=Ux (Gt hh);clear hh he hr;go_enter Tryz.func116,Tryz.ntmps116;go_wp2_with fail;refine HS.o.mono ?_;rintro e w1 ⟨rfl,av⟩;have dX:=Ux av;clear av;go_wp2_with fail;go_ret2;exact⟨_,_,_,rfl,by rw[HD.o];exact HE.o.an dX.o,dX.o⟩
 |true=>
  obtain⟨hk,hks⟩:=CY hr hh;have HD:=Ux (M0 hr hk hks);generalize dG es s=k at HS HD hk;obtain⟨b,off,rfl,hbl⟩:=he.ej (by omega);have hcn:n≤c:=he.sl.2.1;have hcm:=he.sl.2.2.1;have yO:=Ux (show k<n by omega);clear hh he hr hks;have gv:(k:Int)+1≤n:=by omega
  have rK:IntKind.i64.wrap ((k:Int)+1)=(k:Int)+1:=by rw[IntKind.wrap_i64];omega
  have htn:((k:Int)+1).toNat=k+1:=by omega
  have hkn:(k:Int)≤(n:Int):=by omega
  have hkc:k≤c:=by omega
  have hkc2:(k:Int)≤(c:Int):=by omega
  have QL:(0:Int)≤(k:Int)+1:=by omega
  go_enter Tryz.func116,Tryz.ntmps116;go_wp2_with fail;refine HS.o.mono ?_;rintro e w1 ⟨rfl,av⟩;have dX:=Ux av;have h1:=(HE.o.an av).head (k:=k) (by omega);have h2:=(HE.o.an av).from (k:=k+1) (by omega);have HH:=Ux (ag h1 h2);clear av h1 h2;go_upto_region 4 with fail;refine wp_region_held_drew (S:=fun _=>True) (by kernel_rfl) trivial (fun bj=>?_);refine aL 7 [(0,17),(1,18),(2,19),(3,20),(4,21),(5,22),(6,23)] (by kernel_rfl) (by kernel_rfl) rfl (fun _ _ _ _ _ h=>h) bj ?_
  iterate 7 (apply aF rfl rfl;(· (intro w9 cL;clear cL;go_simp;(try with_reducible rfl)));simp only[ah,ai,aj])
  refine aK ?_;have hbd:UA w1 w1.drew:=(Below.refl _ _).drew;have hN:=ax.new w1.drew #[.slice (some ⟨b,off,none⟩) k c,.slice (if c=k+1 then some ⟨b,off,none⟩ else some ⟨b,off+(k+1)*2,none⟩) (n-(k+1)) (c-(k+1))] 94;have Jy:=ao hbd (.cells #[.slice (some ⟨b,off,none⟩) k c,.slice (if c=k+1 then some ⟨b,off,none⟩ else some ⟨b,off+(k+1)*2,none⟩) (n-(k+1)) (c-(k+1))] 94);refine eY 7 24 (v:=.slice (some ⟨w1.drew.heap.size,0,none⟩) 2 2) (W:=w1.drew.alloc (.cells #[.slice (some ⟨b,off,none⟩) k c,.slice (if c=k+1 then some ⟨b,off,none⟩ else some ⟨b,off+(k+1)*2,none⟩) (n-(k+1)) (c-(k+1))] 94)) (by kernel_rfl) rfl rfl rfl ?qa trivial ?_
  case qa=>(go_simp;(try rfl))
  simp only[ah,ai,aj];have hcc:=qV [⟨some ⟨b,off,none⟩,k,c,es.take k⟩,⟨(if c=k+1 then some ⟨b,off,none⟩ else some ⟨b,off+(k+1)*2,none⟩),n-(k+1),c-(k+1),es.drop (k+1)⟩] w1.drew.heap.size _ hN (fun p hp=>by
   rcases List.mem_cons.1 hp with rfl|hp
   ·exact HH.o.1.an Jy
   ·rw[List.mem_singleton.1 hp];exact HH.o.2.an Jy) (by simp) (fun p hp=>by
   rcases List.mem_cons.1 hp with rfl|hp
   ·show k≤100000;omega
   ·rw[List.mem_singleton.1 hp];show n-(k+1)≤100000;omega)
  generalize w1.drew.alloc (.cells #[.slice (some ⟨b,off,none⟩) k c,.slice (if c=k+1 then some ⟨b,off,none⟩ else some ⟨b,off+(k+1)*2,none⟩) (n-(k+1)) (c-(k+1))] 94)=W2 at hcc Jy⊢;refine bN 8 25 (R:=fun v w'=>OE w' W2.heap.size v (es.take k++es.drop (k+1))∧UA W2 w') (by kernel_rfl) rfl rfl rfl ?xa (hcc.mono (fun e w' ⟨v,he,ho,hb⟩=>⟨v,he,by simpa using ho,hb⟩)) (fun v w' _=>trivial) ?_
  case xa=>(go_simp;(try rfl))
  rintro v9 W9 ⟨N6,rk⟩;simp only[ah,ai,aj];refine aL 2 [(9,4),(10,5)] (by kernel_rfl) (by kernel_rfl) rfl (fun _ _ _ _ _ h=>h) trivial ?_
  iterate 2 (apply aF rfl rfl;(· (intro w9 cL;clear cL;go_simp;(try with_reducible rfl)));simp only[ah,ai,aj])
  refine aK ?_;refine wpAnyH_done (by kernel_rfl) ?_ _;obtain⟨a9,n9,c9,rfl,Ob⟩:=OE.Og N6;have H9:=Ux (ag Ob (ar dX.o (ar Jy rk)));clear hcc hN Jy hbd N6 rk Ob;go_wp2_with fail
  all_goals
   go_ret2;exact⟨_,_,_,rfl,by rw[HD.o];exact H9.o.1,H9.o.2⟩
end
section
open Go.RowKit
theorem Cd:∀k:Fin 1024,(bits BinOp.and IntKind.i64 (k.val:Int) 512=0)↔k.val<512:=by decide +kernel
theorem sr{m:Int}(h:0≤m∧m≤1023):bits BinOp.and IntKind.i64 m 512=0↔m<512:=by
 have:=Cd ⟨m.toNat,by omega⟩;rw[show((m.toNat:Nat):Int)=m from by omega] at this;rw[this];show m.toNat<512↔_;omega
theorem vR(c:Cr)(d n:An)(da na:Option Addr)(dl dc nl nc:Nat)(h0:0≤d.mode∧d.mode≤1023)(w:World) :
  Calls Tryz.prog 154 #[UJ #[UE UL c.u,UE UL c.g],UJ #[UE UL d.no,UE UL d.dev,UE UL d.kind,UE UL d.mode,UE UL d.uid,UE UL d.gid,UE UL d.mtime,UE UL d.ctime,UE UL d.ak,UE UL d.up,UF d.data,UG da dl dc],UJ #[UE UL n.no,UE UL n.dev,UE UL n.kind,UE UL n.mode,UE UL n.uid,UE UL n.gid,UE UL n.mtime,UE UL n.ctime,UE UL n.ak,UE UL n.up,UF n.data,UG na nl nc]] w fun e w'=>e=.returned (.bool (nE c d n))∧UA w w':=by
 have qC:=Ux (fun w=>pU c d da dl dc w);have pM:=Ux (fun w=>pU c n na nl nc w);unfold Cr.v An.v at qC pM;have hF:nE c d n=(decide (d.mode<512)||gL c d||gL c n):=rfl;generalize nE c d n=fv at hF⊢;generalize gL c d=o1 at qC hF;generalize gL c n=o2 at pM hF;by_cases hm:d.mode<512
 ·have hb:=(sr h0).2 hm;have HF:=Ux (show fv=true by rw[hF,decide_eq_true hm];rfl);clear hF hm;go_enter Tryz.func154,Tryz.ntmps154;go_wp2_with fail;go_ret;exact⟨by rw[HF.o];rfl,ao (ao (ao (Below.refl _ _) _) _) _⟩
 ·have hb:¬bits BinOp.and IntKind.i64 d.mode 512=0:=fun h=>hm ((sr h0).1 h);rw[decide_eq_false hm,Bool.false_or] at hF;clear hm
  cases o1 with
  |true=>
   have HF:=Ux (show fv=true by rw[hF];rfl);clear hF;go_enter Tryz.func154,Tryz.ntmps154;go_wp2_with fail;refine(qC.o _).mono ?_;rintro e w1 ⟨rfl,av⟩;have HB:=Ux (ar (ao (ao (ao (UB w) _) _) _) av);clear av;go_wp2_with fail;go_ret;exact⟨by rw[HF.o];rfl,HB.o⟩
  |false=>
   have HF:=Ux (show fv=o2 by rw[hF];rfl);clear hF;go_enter Tryz.func154,Tryz.ntmps154;have hbx:=ao (ao (ao (UB w) (.cells #[UE UL c.u,UE UL c.g] 64)) (.cells #[UE UL d.no,UE UL d.dev,UE UL d.kind,UE UL d.mode,UE UL d.uid,UE UL d.gid,UE UL d.mtime,UE UL d.ctime,UE UL d.ak,UE UL d.up,UF d.data,UG da dl dc] 149)) (.cells #[UE UL n.no,UE UL n.dev,UE UL n.kind,UE UL n.mode,UE UL n.uid,UE UL n.gid,UE UL n.mtime,UE UL n.ctime,UE UL n.ak,UE UL n.up,UF n.data,UG na nl nc] 149);obtain⟨hC,hD,hN,-⟩:=yG w #[UE UL c.u,UE UL c.g] #[UE UL d.no,UE UL d.dev,UE UL d.kind,UE UL d.mode,UE UL d.uid,UE UL d.gid,UE UL d.mtime,UE UL d.ctime,UE UL d.ak,UE UL d.up,UF d.data,UG da dl dc] #[UE UL n.no,UE UL n.dev,UE UL n.kind,UE UL n.mode,UE UL n.uid,UE UL n.gid,UE UL n.mtime,UE UL n.ctime,UE UL n.ak,UE UL n.up,UF n.data,UG na nl nc] 64 149 149;go_upto_region 1 with fail;generalize World.alloc _ _=X at hbx hC hD hN⊢;obtain⟨cc,cf,cz⟩:=hC.facts;obtain⟨dc',df,dz⟩:=hD.facts;have HX:=Ux (ag hC (ag hN hbx));clear hC hD hN hbx;go_wp2_with fail;refine(qC.o _).mono ?_;rintro e w1 ⟨rfl,av⟩;have wC:=HX.o.1.an av;have hN1:=HX.o.2.1.an av;have dX:=Ux (ar HX.o.2.2 av);clear cc cf cz dc' df dz av;obtain⟨cc,cf,cz⟩:=wC.facts;obtain⟨nc',nf,nz⟩:=hN1.facts;clear wC hN1;go_wp2_with fail;refine(pM.o _).mono ?_;rintro e w2 ⟨rfl,aY⟩;have ei:=Ux (ar dX.o aY);clear aY;go_wp2_with fail;go_ret;exact⟨by rw[HF.o,show(bits BinOp.and IntKind.i64 d.mode 512==0)=false from by simpa using hb];rfl,ei.o⟩
end
end Go.Proofs.YtabbjaomlmnnhaaGreat
