import Derived.Test.YtabbjaomlmnnhaaGreatCS21
import Derived.Test.YtabbjaomlmnnhaaGreatCS7
import Derived.Test.YtabbjaomlmnnhaaGreatCS17
import Derived.Test.YtabbjaomlmnnhaaGreatCS5
import Derived.Test.YtabbjaomlmnnhaaGreatCS6
import Derived.Test.YtabbjaomlmnnhaaGreatCS9
set_option linter.unusedVariables false
set_option linter.unusedSimpArgs false
set_option maxRecDepth 100000
set_option maxHeartbeats 16000000
namespace Go.Proofs.YtabbjaomlmnnhaaGreat
section
open Go.RowKit
attribute [local go_sem] Oper.semAt_some
theorem KW(Y:Sy)(g:Fs→Int→Fs×Int×Int):(Y.op g).1.now=Y.now:=by
 unfold Sy.op;have:=(eO Y).2.1
 split
 ·exact this
 ·exact this
def fk(Y:Sy):Prop:=0≤Y.now∧Y.now≤253402300799
theorem fk.op{Y:Sy}(h:fk Y)(g:Fs→Int→Fs×Int×Int):fk (Y.op g).1:=by
 unfold fk;rw[KW];exact h
theorem fM{Y:Sy}(h:eb Y)(n:Int):eb (Y.dA n):=by
 unfold Sy.dA
 split
 ·exact⟨h.bQ,h.dead⟩
 ·exact h
theorem fk.tick{Y:Sy}(h:fk Y)(n:Int):fk (Y.dA n):=by
 unfold Sy.dA;obtain⟨h0,h1⟩:=h
 split
 ·rename_i hc;exact⟨show 0≤Y.now+n by omega,show Y.now+n≤253402300799 by omega⟩
 ·exact⟨h0,h1⟩
theorem ki{Y:Sy}(h:fk Y)(u:Us)(dir:Int)(n:ByteArray):fk (Y.dR u dir n).1:=by
 unfold Sy.dR
 split
 ·exact h.op _
 ·exact h
theorem po{u:Us}{dir:Int}:∀{l:List ByteArray} {Y:Sy},fk Y→fk (Y.fC u dir l).1
 | [],_,h=>h
 |n::l,Y,h=>by
  rw[Sy.fC]
  split
  ·exact ki h u dir n
  ·exact po (ki h u dir n)
theorem j6{Y:Sy}(h:fk Y)(u:Us)(p:pA):fk (Y.br u p).1:=by
 unfold Sy.br;dsimp only
 split
 ·exact ki h u _ _
 ·split<;>exact po (ki h u _ _)
theorem jW{u:Us}:∀{l:List pA} {Y:Sy} (e:Int),fk Y→fk (Y.cl u l e).1
 | [],_,_,h=>h
 |p::l,Y,e,h=>by
  rw[Sy.cl]
  split
  ·exact j6 h u p
  ·exact jW _ (j6 h u p)
theorem sK{Y:Sy}(h:fk Y)(u:Us)(no:Int):fk (Y.bV u no).1:=by
 unfold Sy.bV;dsimp only;have h2:=jW (u:=u) (l:=Y.jI u (Y.fs.fq no).1) 0 h
 split
 ·exact h
 ·split
  ·exact h2
  ·generalize Y.cl u (Y.jI u (Y.fs.fq no).1) 0=a at h2⊢;have h4:=jW (u:=u) (l:=a.1.fs.cY a.1.dead u (Y.fs.fq no).1 (Y.fs.fq no).2.1) a.2.2.2 h2
   split
   ·exact h4
   ·split
    ·exact h4
    ·exact j6 h4 u _
structure M9(Q:World→Prop)(L0 pf pw:Nat)(pv:Value):Prop where
 b:∀A B,Q A→Qi A B→Q B
 s:∀A B R1 R2 Z,Q A→bg A pf pw R1 pv Z→aR (R1.Y pf pw) (Rp.Y R2 pf pw) A B→(∀k,R1.Y pf pw k→L0≤k)→L0≤A.heap.size→Q B
structure D8(Q:World→Prop)(L0:Nat)(w' w:World)(bx bc bu:Nat)(c:Cr)(x:Cn):Prop where
 x:aw w' bx #[.string x.path,.int .i64 x.dir,.int .i64 x.info,.int .i64 x.files,.int .i64 x.out,.int .i64 x.jm,.string x.top] 48
 c:aw w' bc #[.int .i64 c.u,.int .i64 c.g] 64
 r:aw w' bu #[.string ⟨#[]⟩,.int .i64 0,.int .i64 0,.int .i64 0,.int .i64 0,.int .i64 0,.string ⟨#[]⟩] 48
 q:Q w'
 l:L0≤w'.heap.size
theorem D8.ak{Q:World→Prop}{L0 pf pw:Nat}{pv:Value}(hQ:M9 Q L0 pf pw pv){A B w:World}{bx bc bu:Nat}{c:Cr}{x:Cn}(h:D8 Q L0 A w bx bc bu c x)(hb:Qi A B):D8 Q L0 B w bx bc bu c x:=⟨h.x.ak hb,h.c.ak hb,h.r.ak hb,hQ.b _ _ h.q hb,ae h.l hb.size⟩
theorem D8.sy{Q:World→Prop}{L0:Nat}{A B w:World}{bx bc bu:Nat}{c:Cr}{x:Cn}(h:D8 Q L0 A w bx bc bu c x){pf pw:Nat}{R R2:Rp}{pv:Value}{Z:Sy}(hQ:M9 Q L0 pf pw pv)(hy:bg A pf pw R pv Z)(hs:aR (R.Y pf pw) (R2.Y pf pw) A B)(hl:∀k,R.Y pf pw k→L0≤k):D8 Q L0 B w bx bc bu c x:=
 ⟨h.x.sy hy hs (by decide) (by decide),h.c.sy hy hs (by decide) (by decide),h.r.sy hy hs (by decide) (by decide),hQ.s _ _ _ _ _ h.q hy hs hl h.l,ae h.l hs.mod.size⟩
structure vZ(Q:World→Prop)(L0:Nat)(w:World)(pf pw:Nat)(R:Rp)(pv:Value)(bx bc bu:Nat)(c:Cr)(x:Cn)(M:Nat)(Z:Sy)(wr:World):Prop where
 y:∃R',bg wr pf pw R' pv Z∧aR (R.Y pf pw) (R'.Y pf pw) w wr∧∀k,R'.Y pf pw k→L0≤k
 s:D8 Q L0 wr w bx bc bu c x
 ok:cE Z M
 now:fk Z
section
variable{Q:World→Prop}{L0:Nat}{w A B:World}{pf pw:Nat}{R:Rp}{pv:Value}{bx bc bu:Nat}{c:Cr}{x:Cn}{M:Nat}{Z Z':Sy}
theorem vZ.ak(h:vZ Q L0 w pf pw R pv bx bc bu c x M Z A)(hQ:M9 Q L0 pf pw pv)(hb:Qi A B):vZ Q L0 w pf pw R pv bx bc bu c x M Z B:=by
 obtain⟨R',h1,h2,h3⟩:=h.y;exact⟨⟨R',h1.ak hb,h2.trans (aR.ar hb),h3⟩,h.s.ak hQ hb,h.ok,h.now⟩
theorem vZ.call(h:vZ Q L0 w pf pw R pv bx bc bu c x M Z A)(hQ:M9 Q L0 pf pw pv){M':Nat}(hok:cE Z' M')(hnow:fk Z'){P:Ending→Prop}{f:FuncId}{args:Array Value}
  (hc:∀R':Rp,bg A pf pw R' pv Z→Calls Tryz.prog f args A fun e B=>P e∧∃R2,bg B pf pw R2 pv Z'∧aR (R'.Y pf pw) (R2.Y pf pw) A B) :
  Calls Tryz.prog f args A fun e B=>P e∧vZ Q L0 w pf pw R pv bx bc bu c x M' Z' B:=by
 obtain⟨R',h1,h2,h3⟩:=h.y;refine(hc R' h1).mono ?_;rintro e B ⟨hp,R2,h4,h5⟩;exact⟨hp,⟨R2,h4,h2.trans h5,h5.aX h3 h.s.l⟩,h.s.sy hQ h1 h5 h3,hok,hnow⟩
end
theorem rM{a:Act}{W:World}{B:Nat}{x:Cn}{b:Bool}{P:Ending→World→Prop}(hb:aw W B #[.string x.path,.int .i64 x.dir,.int .i64 x.info,.int .i64 x.files,.int .i64 x.out,.int .i64 x.jm,.string x.top] 48)
  (h8:a.tmps.getD 8 undef=.pointer (some ⟨B,0,none⟩)) (h9:a.tmps.getD 9 undef=.bool b) (hd:a.defers=[]) (hP:P (.returned (.tuple #[.agg #[.string x.path,.int .i64 x.dir,.int .i64 x.info,.int .i64 x.files,.int .i64 x.out,.int .i64 x.jm,.string x.top],.bool b])) W):bodyPost Tryz.prog Tryz.f10 P .ret a W:=by
 have q0:=hb.cell 0;have q1:=hb.cell 1;have q2:=hb.cell 2;have q3:=hb.cell 3;have q4:=hb.cell 4;have q5:=hb.cell 5;have q6:=hb.cell 6;rw[Array.getD_eq_getD_getElem?] at h8 h9;refine bodyPost_ret (v:=.tuple #[.agg #[.string x.path,.int .i64 x.dir,.int .i64 x.info,.int .i64 x.files,.int .i64 x.out,.int .i64 x.jm,.string x.top],.bool b]) ?_ hd hP;simp[results,Tryz.results10,go_sem,h8,h9,q0,q1,q2,q3,q4,q5,q6]
theorem Du(Y:Sy)(c:Cr)(x:Cn)(l:List Ln)(k:Nat)(hk:k<l.length):Y.dx c x (l.drop k)=(Y.nB c x l[k]).dx c x (l.drop (k+1)):=by
 rw[List.drop_eq_getElem_cons hk];rfl
section
variable{w w':World}{pf pw:Nat}{R:Rp}{pv:Value}{Y:Sy}
theorem rN{Q:World→Prop}{L0:Nat}(h:bg w pf pw R pv Y)(hQ:M9 Q L0 pf pw pv)(D2:Q w)(Ji:L0≤w.heap.size)(hlow:∀k,R.Y pf pw k→L0≤k){N:Nat}(hk:cE Y N)(hN:N≤800)(hst:eb Y)(hnow:fk Y)(u:Us)(FB:-9223372036854775808≤u.u)(FA:u.u≤9223372036854775807)(ht:u.data.size≤100000)(no:Int)
  {za:Option Addr} {zn zc:Nat} {l:List Ln} (hz:∀A,Q A→bj A 3 IG za zn zc l) (hz6:l.length≤6) (hzb:∀y∈l,y.name.size≤300) :
  Calls Tryz.prog 10 #[.pointer (some ⟨pf,0,none⟩),.agg #[.int .i64 u.u,.int .i64 u.g,.string u.data],.int .i64 no,.slice za zn zc] w fun e w'=>
   e=.returned (.tuple #[(Y.db u no l).2.1.v,.bool (Y.db u no l).2.2])∧gF w w' pf pw R pv (Y.db u no l).1∧fk (Y.db u no l).1∧eb (Y.db u no l).1:=by
 obtain⟨hU,hR,hb⟩:=jv w #[.int .i64 u.u,.int .i64 u.g,.string u.data] #[.string ⟨#[]⟩,.int .i64 0,.int .i64 0,.int .i64 0,.int .i64 0,.int .i64 0,.string ⟨#[]⟩] 27 48;have uq:=Qf (fun(w3:World) (bK:Qi w w3)=>xD (h.ak bK) hk (by omega) hst.dead u FB FA ht no);have fY:=Qf (hk.bV u no);have yM:=Qf (ju hst u no);have vM:=Qf (sK hnow u no);have uo:=Qf (show Y.db u no l=if(Y.bV u no).2.2≠0 then((Y.bV u no).1,iV,false) else((Y.bV u no).1.dx u.c (Y.bV u no).2.1 l,(Y.bV u no).2.1,true) from rfl);have HZ:=Qf hz;have hzl:l.length=zn:=(hz w D2).1;have HW:=Qf (ag h (ag hQ (ag D2 (ag Ji hlow))));have HB:=Qf hzb;generalize Y.db u no l=fd at uo⊢;generalize Y.bV u no=q at uq fY yM vM uo;obtain⟨Y1,x,qe⟩:=q;unfold Cn.v at uq;dsimp only at uq fY yM vM uo;clear h hk hz hQ D2 Ji hlow hzb hst hnow;go_enter Tryz.func10,Tryz.ntmps10;go_upto_region 1 with fail;generalize (w.alloc (.cells #[.int .i64 u.u,.int .i64 u.g,.string u.data] 27)).alloc (.cells #[.string ⟨#[]⟩,.int .i64 0,.int .i64 0,.int .i64 0,.int .i64 0,.int .i64 0,.string ⟨#[]⟩] 48)=X at hU hR hb⊢;obtain⟨uc,uf,uz⟩:=hU.facts;have H0:=Qf (ag hU (ag hR hb));clear hU hR hb;go_wp2_with fail;refine(uq.o _ H0.o.2.2).mono ?_;rintro e w1 ⟨rfl,R1,eF,je⟩;obtain⟨lL,aI⟩:=Qh w1 #[.string x.path,.int .i64 x.dir,.int .i64 x.info,.int .i64 x.files,.int .i64 x.out,.int .i64 x.jm,.string x.top] 48;have eh:=H0.o.2.1.sy (HW.o.1.ak H0.o.2.2) je (by decide) (by decide);have FT:=H0.o.1.sy (HW.o.1.ak H0.o.2.2) je (by decide) (by decide);have Lp:Q w1∧L0≤w1.heap.size:=⟨HW.o.2.1.s _ _ _ _ _ (HW.o.2.1.b _ _ HW.o.2.2.1 H0.o.2.2) (HW.o.1.ak H0.o.2.2) je HW.o.2.2.2.2 (ae HW.o.2.2.2.1 H0.o.2.2.size),ae (ae HW.o.2.2.2.1 H0.o.2.2.size) je.mod.size⟩;have sm:=(aR.ar (F:=R.Y pf pw) H0.o.2.2).trans je;have Oq:=sm.aX HW.o.2.2.2.2 HW.o.2.2.2.1;have hlr:=eh.lt;clear uc uf uz;go_upto_region 2 with fail;generalize w1.alloc _=w2 at lL aI⊢;have u':=eF.ak aI;have dq:=eh.ak aI;have FR:=FT.ak aI;have Lo:Q w2∧L0≤w2.heap.size:=⟨HW.o.2.1.b _ _ Lp.1 aI,ae Lp.2 aI.size⟩;have iR:=sm.trans (aR.ar (F:=R1.Y pf pw) aI);generalize w1.heap.size=bx at lL hlr⊢;clear eF je eh FT Lp sm aI;by_cases hq:qe≠0
 ·have hv:(qe != 0)=true:=by simpa using hq
  have hE:=uo.o;rw[if_pos hq] at hE;subst hE;obtain⟨rc,rf,rz⟩:=dq.facts;have HE:=Qf (ag dq (ag u' iR));clear hq dq u' iR lL FR Lo;go_wp2_with fail;exact rM (x:=iV) HE.o.1.dV rfl rfl rfl ⟨rfl,gF.dV ⟨R1,HE.o.2.1,HE.o.2.2⟩ HE.o.1 (by omega) _ _ _ _ _ _ _,vM.o,yM.o⟩
 ·obtain rfl:qe=0:=by simpa using hq
  have hE:=uo.o;rw[if_neg (by decide)] at hE;subst hE;obtain⟨uc,uf,uz⟩:=FR.facts;have H2:=Qf (ag dq (ag u' (ag iR (ag lL (ag Lo Oq)))));have hbu:=lL.lt;clear hq dq u' iR lL FR Lo;go_wp2_with fail;refine(eP u.u u.g u.data _).mono ?_;rintro e w3 ⟨rfl,bK⟩;have hC3:=aw.new w3 #[.int .i64 u.u,.int .i64 u.g] 64;have nT:=aq bK (.cells #[.int .i64 u.u,.int .i64 u.g] 64);have hbz:=bK.size;clear uc uf uz bK;go_upto_region 5 with fail;generalize w3.alloc _=w4 at hC3 nT⊢;generalize w3.heap.size=bc at hC3 hbz⊢;have P1:=Qf (show vZ Q L0 w pf pw R pv bx bc (w.heap.size+1) u.c x (N+20) Y1 w4 from
   ⟨⟨R1,H2.o.2.1.ak nT,H2.o.2.2.1.trans (aR.ar nT),H2.o.2.2.2.2.2⟩,⟨H2.o.2.2.2.1.ak nT,hC3,H2.o.1.ak nT,HW.o.2.1.b _ _ H2.o.2.2.2.2.1.1 nT,ae H2.o.2.2.2.2.1.2 nT.size⟩,fY.o.mono (by omega),vM.o⟩)
  clear hC3 nT;go_wp2_with fail
  go_loopw [13] (fun t13 wr=>∃(k:Nat) (Z:Sy),k≤l.length∧t13=.int .i64 k∧Y1.dx u.c x l=Z.dx u.c x (l.drop k)∧vZ Q L0 w pf pw R pv bx bc (w.heap.size+1) u.c x (N+20+3*k) Z wr∧eb Z) (fun t13 _=>l.length-(intOf t13).toNat)
  case atStart=>exact⟨0,Y1,Nat.zero_le _,rfl,rfl,P1.o,yM.o⟩
  case round=>
   obtain⟨k,Z,hkl,rfl,hfl,hI,hst⟩:=hrel;by_cases hk:k<l.length
   ·obtain⟨zb,zo,rfl,hzl1,-,-,-⟩:=cn (HZ.o _ hI.s.q) k hk;have Ef:=Qf (hfl.trans (Du Z u.c x l k hk));generalize hy:l[k]=y at Ef;have hyn:y.name.size≤300:=by have:=HB.o l[k] (List.getElem_mem hk);rw[hy] at this;exact this
    have JX:=Qf (show Z.nB u.c x y=(if 0≤y.time then((if(Z.op (fun S now=>S.aO u.c now x.files y.name 448)).2.2=0∧0≤y.size then((Z.op (fun S now=>S.aO u.c now x.files y.name 448)).1.op (fun S now=>S.file u.c now (Z.op (fun S now=>S.aO u.c now x.files y.name 448)).2.1 mB 384 (ev y.size))).1 else(Z.op (fun S now=>S.aO u.c now x.files y.name 448)).1).op (fun S now=>S.file u.c now x.info (y.name++dm) 384 ByteArray.empty)).1
     else(if(Z.op (fun S now=>S.aO u.c now x.files y.name 448)).2.2=0∧0≤y.size then((Z.op (fun S now=>S.aO u.c now x.files y.name 448)).1.op (fun S now=>S.file u.c now (Z.op (fun S now=>S.aO u.c now x.files y.name 448)).2.1 mB 384 (ev y.size))).1 else(Z.op (fun S now=>S.aO u.c now x.files y.name 448)).1)).dA (y.time % 256) from rfl)
    have hokm:cE (Z.op (fun S now=>S.aO u.c now x.files y.name 448)).1 (N+20+3*k+1):=hI.ok.op (hI.ok.du.aO u.c Z.now x.files y.name 448);have hnom:=hI.now.op (fun S now=>S.aO u.c now x.files y.name 448);have hstm:=eZ hst (fun S now=>S.aO u.c now x.files y.name 448);have jR:=Qf (fun(A:World) (hA:vZ Q L0 w pf pw R pv bx bc (w.heap.size+1) u.c x (N+20+3*k) Z A)=>hA.call HW.o.2.1 (M':=N+20+3*k+1) (Z':=(Z.op (fun S now=>S.aO u.c now x.files y.name 448)).1) (P:=fun e=>e=.returned (.tuple #[.int .i64 (Z.op (fun S now=>S.aO u.c now x.files y.name 448)).2.1,.int .i64 (Z.op (fun S now=>S.aO u.c now x.files y.name 448)).2.2])) (f:=27) (args:=#[.pointer (some ⟨pf,0,none⟩),.agg #[.int .i64 u.u,.int .i64 u.g],.int .i64 x.files,.string y.name,.int .i64 448]) hokm hnom
     (fun R' h1=>j0 h1 hA.ok.du.ok (by omega) ⟨hA.ok.c0,by have:=hA.ok.cN;omega⟩ (by have:=hA.ok.pl;omega) u.c x.files y.name 448 (by omega)))
    generalize Z.op (fun S now=>S.aO u.c now x.files y.name 448)=r at JX hokm hnom hstm jR;obtain⟨Z1,d,g⟩:=r;dsimp only at JX hokm hnom hstm jR;have hbd:Qi wr wr.drew:=(Below.refl _ _).drew;have vh:=hI.ak HW.o.2.1 hbd;have JW:=Qf vh;have mM:=Qf hstm;clear hI hfl hst hokm hnom hstm;go_upto_region 8 with fail;refine wp_region_held_drew (S:=fun w'=>D8 Q L0 w' w bx bc (w.heap.size+1) u.c x) (by kernel_rfl) vh.s (fun be=>?_);refine aK 9 [(0,35),(1,36),(2,37),(3,38),(4,39),(5,40),(6,41),(7,42),(8,43)] (by kernel_rfl) (by kernel_rfl) rfl (fun _ _ _ _ _ h=>h) be ?_
    iterate 9 (apply aE rfl rfl;(· (intro w9 b8;obtain⟨s1,-,-⟩:=b8.x.facts;obtain⟨s2,-,-⟩:=b8.c.facts;obtain⟨zb',zo',hz',hzl,s3,s4,s5⟩:=cn (HZ.o _ b8.q) k hk;injection hz' with hz';injection hz' with ee et;subst ee et;rw[hy] at s3 s4 s5;clear b8;go_simp;(try with_reducible rfl)));simp only[ah,ai,aj])
    refine aJ ?_;refine bB 9 44 (R:=fun v w'=>v=.tuple #[.int .i64 d,.int .i64 g]∧vZ Q L0 w pf pw R pv bx bc (w.heap.size+1) u.c x (N+20+3*k+1) Z1 w') (by kernel_rfl) rfl rfl rfl ?xa ((jR.o _ JW.o).mono (fun e w' ⟨he,hw⟩=>⟨_,he,rfl,hw⟩)) (fun v w' ⟨_,hw⟩=>hw.s) ?_
    case xa=>(go_simp;first|rfl|exact⟨rfl,rfl⟩)
    rintro _ w5 ⟨rfl,Jj⟩;simp only[ah,ai,aj];refine aK 5 [(10,34),(11,45),(12,46),(13,14),(14,15)] (by kernel_rfl) (by kernel_rfl) rfl (fun _ _ _ _ _ h=>h) Jj.s ?_
    iterate 5 (apply aE rfl rfl;(· (intro w9 b8;clear b8;go_simp;(try with_reducible rfl)));simp only[ah,ai,aj])
    refine aJ ?_;refine wpAnyH_done (by kernel_rfl) ?_ _;have l7:=Qf Jj;clear be vh hbd Jj;obtain⟨zb',zo',hz',hzl',z0,z1,z2⟩:=cn (HZ.o _ l7.o.s.q) k hk;injection hz' with hz';injection hz' with ee et;subst ee et;rw[hy] at z0;clear z1 z2;by_cases hgs:g=0∧0≤y.size
    ·have Mj:=Qf hgs;obtain⟨D3,sm⟩:=hgs;subst D3;have mE:cE (Z1.op (fun S now=>S.file u.c now d mB 384 (ev y.size))).1 (N+20+3*k+1+1):=l7.o.ok.op (l7.o.ok.du.file _ _ _ _ _ _);have Ai:=l7.o.now.op (fun S now=>S.file u.c now d mB 384 (ev y.size));have hbs:(ev y.size).size≤1000:=by
      unfold ev;rw[cJ,List.length_replicate];omega
     have BR:=Qf (fun(A:World) (hA:vZ Q L0 w pf pw R pv bx bc (w.heap.size+1) u.c x (N+20+3*k+1) Z1 A)=>hA.call HW.o.2.1 (M':=N+20+3*k+1+1) (Z':=(Z1.op (fun S now=>S.file u.c now d mB 384 (ev y.size))).1) (P:=fun e=>e=.returned (.tuple #[.int .i64 (Z1.op (fun S now=>S.file u.c now d mB 384 (ev y.size))).2.1,.int .i64 (Z1.op (fun S now=>S.file u.c now d mB 384 (ev y.size))).2.2])) (f:=16) (args:=#[.pointer (some ⟨pf,0,none⟩),.agg #[.int .i64 u.u,.int .i64 u.g],.int .i64 d,.string mB,.int .i64 384,.string (ev y.size)]) mE Ai
      (fun R' h1=>fT h1 hA.ok.du.ok (by omega) ⟨hA.ok.c0,by have:=hA.ok.cN;omega⟩ (by have:=hA.ok.pl;omega) u.c d mB 384 (ev y.size) (by decide) (by omega)))
     have IQ:=eZ mM.o (fun S now=>S.file u.c now d mB 384 (ev y.size));have sk:=Qf IQ;have HBy:=Qf (fun w=>yD y.size w);generalize hZ2:Z1.op (fun S now=>S.file u.c now d mB 384 (ev y.size))=r2 at mE Ai BR IQ sk;have JJ:=Qf hZ2;obtain⟨Z2,d2,g2⟩:=r2;dsimp only at mE Ai BR IQ sk;generalize ev y.size=bs at BR HBy hbs JJ JX;clear IQ mE Ai hZ2;go_upto_region 10 with fail;have hbd:Qi w5 w5.drew:=(Below.refl _ _).drew;have vh:=l7.o.ak HW.o.2.1 hbd;have JW:=Qf vh;unfold mB at BR;refine wp_region_held_drew (S:=fun w'=>D8 Q L0 w' w bx bc (w.heap.size+1) u.c x) (by kernel_rfl) vh.s (fun be=>?_);refine aK 8 [(0,57),(1,58),(2,59),(3,60),(4,61),(5,62),(6,63),(7,64)] (by kernel_rfl) (by kernel_rfl) rfl (fun _ _ _ _ _ h=>h) be ?_
     iterate 8 (apply aE rfl rfl;(· (intro w9 b8;obtain⟨s1,-,-⟩:=b8.x.facts;obtain⟨s2,-,-⟩:=b8.c.facts;obtain⟨zb',zo',hz',hzl,s3,s4,s5⟩:=cn (HZ.o _ b8.q) k hk;injection hz' with hz';injection hz' with ee et;subst ee et;rw[hy] at s3 s4 s5;clear b8;go_simp;(try with_reducible rfl)));simp only[ah,ai,aj])
     refine aJ ?_;refine bB 8 65 (R:=fun v w'=>v=.string bs∧w'=w5.drew) (by kernel_rfl) rfl rfl rfl ?xf ((HBy.o _).mono (fun e w' ⟨he,hw⟩=>⟨_,he,rfl,hw.symm⟩)) (fun v w' ⟨_,hw⟩=>by rw[hw];exact be) ?_
     case xf=>(go_simp;(try rfl))
     rintro _ _ ⟨rfl,rfl⟩;simp only[ah,ai,aj];refine bB 9 66 (R:=fun v w'=>vZ Q L0 w pf pw R pv bx bc (w.heap.size+1) u.c x (N+20+3*k+1+1) Z2 w') (by kernel_rfl) rfl rfl rfl ?xg ((BR.o _ JW.o).mono (fun e w' ⟨he,hw⟩=>⟨_,he,hw⟩)) (fun v w' hw=>hw.s) ?_
     case xg=>(go_simp;first|rfl|exact⟨rfl,rfl⟩)
     rintro v6 w6 tQ;simp only[ah,ai,aj];refine wpAnyH_done (by kernel_rfl) ?_ _;have kr:=Qf tQ;clear be vh hbd tQ z0 sm hbs;obtain⟨zb',zo',hz',hzl',z0,z1,z2⟩:=cn (HZ.o _ kr.o.s.q) k hk;injection hz' with hz';injection hz' with ee et;subst ee et;rw[hy] at z1;clear z0 z2;by_cases xI:0≤y.time
     ·have GA:=Qf xI;have nq:cE ((Z2).op (fun S now=>S.file u.c now x.info (y.name++dm) 384 ByteArray.empty)).1 (N+20+3*k+1+1+1):=kr.o.ok.op (kr.o.ok.du.file _ _ _ _ _ _);have nr:=kr.o.now.op (fun S now=>S.file u.c now x.info (y.name++dm) 384 ByteArray.empty);have BQ:=Qf (fun(A:World) (hA:vZ Q L0 w pf pw R pv bx bc (w.heap.size+1) u.c x (N+20+3*k+1+1) (Z2) A)=>hA.call HW.o.2.1 (M':=N+20+3*k+1+1+1) (Z':=((Z2).op (fun S now=>S.file u.c now x.info (y.name++dm) 384 ByteArray.empty)).1) (P:=fun e=>e=.returned (.tuple #[.int .i64 ((Z2).op (fun S now=>S.file u.c now x.info (y.name++dm) 384 ByteArray.empty)).2.1,.int .i64 ((Z2).op (fun S now=>S.file u.c now x.info (y.name++dm) 384 ByteArray.empty)).2.2])) (f:=16) (args:=#[.pointer (some ⟨pf,0,none⟩),.agg #[.int .i64 u.u,.int .i64 u.g],.int .i64 x.info,.string (y.name++dm),.int .i64 384,.string ByteArray.empty]) nq nr
       (fun R' h1=>fT h1 hA.ok.du.ok (by omega) ⟨hA.ok.c0,by have:=hA.ok.cN;omega⟩ (by have:=hA.ok.pl;omega) u.c x.info (y.name++dm) 384 ByteArray.empty (by rw[ByteArray.size_append];have:dm.size=10:=rfl;omega) (by decide)))
      have ka:=eZ sk.o (fun S now=>S.file u.c now x.info (y.name++dm) 384 ByteArray.empty);have iO:=Qf ka;have FC:¬9223372036854775807<y.name.size+10:=by omega
      generalize Ke:(Z2).op (fun S now=>S.file u.c now x.info (y.name++dm) 384 ByteArray.empty)=r3 at nq nr BQ ka iO;have PF:=Qf Ke;obtain⟨Z3,d3,g3⟩:=r3;dsimp only at nq nr BQ ka iO;clear ka nq nr Ke;go_upto_region 12 with fail;have hbd:Qi w6 w6.drew:=(Below.refl _ _).drew;have vh:=kr.o.ak HW.o.2.1 hbd;have JW:=Qf vh;unfold dm at BQ;refine wp_region_held_drew (S:=fun w'=>D8 Q L0 w' w bx bc (w.heap.size+1) u.c x) (by kernel_rfl) vh.s (fun be=>?_);refine aK 10 [(0,73),(1,74),(2,75),(3,76),(4,77),(5,78),(6,79),(7,80),(8,81),(9,82)] (by kernel_rfl) (by kernel_rfl) rfl (fun _ _ _ _ _ h=>h) be ?_
      iterate 10 (apply aE rfl rfl;(· (intro w9 b8;obtain⟨s1,-,-⟩:=b8.x.facts;obtain⟨s2,-,-⟩:=b8.c.facts;obtain⟨zb',zo',hz',hzl,s3,s4,s5⟩:=cn (HZ.o _ b8.q) k hk;injection hz' with hz';injection hz' with ee et;subst ee et;rw[hy] at s3 s4 s5;clear b8;go_simp;(try with_reducible rfl)));simp only[ah,ai,aj])
      refine aJ ?_;refine bB 10 83 (R:=fun v w'=>vZ Q L0 w pf pw R pv bx bc (w.heap.size+1) u.c x (N+20+3*k+1+1+1) Z3 w') (by kernel_rfl) rfl rfl rfl ?xi ((BQ.o _ JW.o).mono (fun e w' ⟨he,hw⟩=>⟨_,he,hw⟩)) (fun v w' hw=>hw.s) ?_
      case xi=>(go_simp;first|rfl|exact⟨rfl,rfl⟩|exact⟨⟨rfl,rfl⟩,rfl⟩)
      rintro v7 w7 Kj;simp only[ah,ai,aj];refine wpAnyH_done (by kernel_rfl) ?_ _;have yS:=Qf Kj;clear be vh hbd Kj z1 xI FC;obtain⟨zb',zo',hz',hzl',z0,z1,z2⟩:=cn (HZ.o _ yS.o.s.q) k hk;injection hz' with hz';injection hz' with ee et;subst ee et;rw[hy] at z1;have hbt:=oM y.time;have Gz:=Qf (yS.o.call HW.o.2.1 (M':=N+20+3*(k+1)) (Z':=(Z3).dA (y.time % 256)) (P:=fun e=>∃v,e=.returned (.int .i64 v)) (f:=24) (args:=#[.pointer (some ⟨pf,0,none⟩),.int .i64 (y.time % 256)]) ((yS.o.ok.mono (by omega)).dA _) (yS.o.now.tick _) (fun R' h1=>(fN h1 (y.time % 256) (by omega) yS.o.now).mono (fun e B ⟨hv,h2,h3⟩=>⟨hv,R',h2,aR.cQ (h3.mono (fun q hq=>.inl hq))⟩)));have HEq:=Qf (show Y1.dx u.c x l=((Z3).dA (y.time % 256)).dx u.c x (l.drop (k+1)) by rw[Ef.o,JX.o,if_pos GA.o,if_pos Mj.o,JJ.o,PF.o]);have iT:=Qf hk;clear z0 z2;go_wp2_with fail;refine Gz.o.mono ?_;rintro e w9 ⟨⟨v9,rfl⟩,xX⟩;have GK:=Qf xX;clear xX z1 hbt;go_wp2_with fail;go_roundw
      case rel=>exact⟨k+1,_,by have:=iT.o;omega,by go_num,HEq.o,GK.o,fM iO.o _⟩
      case measure=>
       have:=iT.o;simp[intOf];omega
     ·have GA:=Qf xI;clear xI z1;obtain⟨zb',zo',hz',hzl',z0,z1,z2⟩:=cn (HZ.o _ kr.o.s.q) k hk;injection hz' with hz';injection hz' with ee et;subst ee et;rw[hy] at z1;have hbt:=oM y.time;have Gz:=Qf (kr.o.call HW.o.2.1 (M':=N+20+3*(k+1)) (Z':=(Z2).dA (y.time % 256)) (P:=fun e=>∃v,e=.returned (.int .i64 v)) (f:=24) (args:=#[.pointer (some ⟨pf,0,none⟩),.int .i64 (y.time % 256)]) ((kr.o.ok.mono (by omega)).dA _) (kr.o.now.tick _) (fun R' h1=>(fN h1 (y.time % 256) (by omega) kr.o.now).mono (fun e B ⟨hv,h2,h3⟩=>⟨hv,R',h2,aR.cQ (h3.mono (fun q hq=>.inl hq))⟩)));have HEq:=Qf (show Y1.dx u.c x l=((Z2).dA (y.time % 256)).dx u.c x (l.drop (k+1)) by rw[Ef.o,JX.o,if_neg GA.o,if_pos Mj.o,JJ.o]);have iT:=Qf hk;clear z0 z2;go_wp2_with fail;refine Gz.o.mono ?_;rintro e w9 ⟨⟨v9,rfl⟩,xX⟩;have GK:=Qf xX;clear xX z1 hbt;go_wp2_with fail;go_roundw
      case rel=>exact⟨k+1,_,by have:=iT.o;omega,by go_num,HEq.o,GK.o,fM sk.o _⟩
      case measure=>
       have:=iT.o;simp[intOf];omega
    ·have Mj:=Qf hgs;have hv9:(g==0)=true→¬0≤y.size:=fun h h2=>hgs ⟨by simpa using h,h2⟩;by_cases D3:g=0
     ·have sm:¬0≤y.size:=fun h=>hgs ⟨D3,h⟩;have hvg:(g==0)=true:=by simpa using D3
      have hvs:y.size<0:=by omega
      clear hgs hv9 D3;go_upto_region 11 with fail;clear z0 sm hvg hvs;obtain⟨zb',zo',hz',hzl',z0,z1,z2⟩:=cn (HZ.o _ l7.o.s.q) k hk;injection hz' with hz';injection hz' with ee et;subst ee et;rw[hy] at z1;clear z0 z2;by_cases xI:0≤y.time
      ·have GA:=Qf xI;have nq:cE ((Z1).op (fun S now=>S.file u.c now x.info (y.name++dm) 384 ByteArray.empty)).1 (N+20+3*k+1+1):=l7.o.ok.op (l7.o.ok.du.file _ _ _ _ _ _);have nr:=l7.o.now.op (fun S now=>S.file u.c now x.info (y.name++dm) 384 ByteArray.empty);have BQ:=Qf (fun(A:World) (hA:vZ Q L0 w pf pw R pv bx bc (w.heap.size+1) u.c x (N+20+3*k+1) (Z1) A)=>hA.call HW.o.2.1 (M':=N+20+3*k+1+1) (Z':=((Z1).op (fun S now=>S.file u.c now x.info (y.name++dm) 384 ByteArray.empty)).1) (P:=fun e=>e=.returned (.tuple #[.int .i64 ((Z1).op (fun S now=>S.file u.c now x.info (y.name++dm) 384 ByteArray.empty)).2.1,.int .i64 ((Z1).op (fun S now=>S.file u.c now x.info (y.name++dm) 384 ByteArray.empty)).2.2])) (f:=16) (args:=#[.pointer (some ⟨pf,0,none⟩),.agg #[.int .i64 u.u,.int .i64 u.g],.int .i64 x.info,.string (y.name++dm),.int .i64 384,.string ByteArray.empty]) nq nr
        (fun R' h1=>fT h1 hA.ok.du.ok (by omega) ⟨hA.ok.c0,by have:=hA.ok.cN;omega⟩ (by have:=hA.ok.pl;omega) u.c x.info (y.name++dm) 384 ByteArray.empty (by rw[ByteArray.size_append];have:dm.size=10:=rfl;omega) (by decide)))
       have ka:=eZ mM.o (fun S now=>S.file u.c now x.info (y.name++dm) 384 ByteArray.empty);have iO:=Qf ka;have FC:¬9223372036854775807<y.name.size+10:=by omega
       generalize Ke:(Z1).op (fun S now=>S.file u.c now x.info (y.name++dm) 384 ByteArray.empty)=r3 at nq nr BQ ka iO;have PF:=Qf Ke;obtain⟨Z3,d3,g3⟩:=r3;dsimp only at nq nr BQ ka iO;clear ka nq nr Ke;go_upto_region 12 with fail;have hbd:Qi w5 w5.drew:=(Below.refl _ _).drew;have vh:=l7.o.ak HW.o.2.1 hbd;have JW:=Qf vh;unfold dm at BQ;refine wp_region_held_drew (S:=fun w'=>D8 Q L0 w' w bx bc (w.heap.size+1) u.c x) (by kernel_rfl) vh.s (fun be=>?_);refine aK 10 [(0,73),(1,74),(2,75),(3,76),(4,77),(5,78),(6,79),(7,80),(8,81),(9,82)] (by kernel_rfl) (by kernel_rfl) rfl (fun _ _ _ _ _ h=>h) be ?_
       iterate 10 (apply aE rfl rfl;(· (intro w9 b8;obtain⟨s1,-,-⟩:=b8.x.facts;obtain⟨s2,-,-⟩:=b8.c.facts;obtain⟨zb',zo',hz',hzl,s3,s4,s5⟩:=cn (HZ.o _ b8.q) k hk;injection hz' with hz';injection hz' with ee et;subst ee et;rw[hy] at s3 s4 s5;clear b8;go_simp;(try with_reducible rfl)));simp only[ah,ai,aj])
       refine aJ ?_;refine bB 10 83 (R:=fun v w'=>vZ Q L0 w pf pw R pv bx bc (w.heap.size+1) u.c x (N+20+3*k+1+1) Z3 w') (by kernel_rfl) rfl rfl rfl ?xi ((BQ.o _ JW.o).mono (fun e w' ⟨he,hw⟩=>⟨_,he,hw⟩)) (fun v w' hw=>hw.s) ?_
       case xi=>(go_simp;first|rfl|exact⟨rfl,rfl⟩|exact⟨⟨rfl,rfl⟩,rfl⟩)
       rintro v7 w7 Kj;simp only[ah,ai,aj];refine wpAnyH_done (by kernel_rfl) ?_ _;have yS:=Qf Kj;clear be vh hbd Kj z1 xI FC;obtain⟨zb',zo',hz',hzl',z0,z1,z2⟩:=cn (HZ.o _ yS.o.s.q) k hk;injection hz' with hz';injection hz' with ee et;subst ee et;rw[hy] at z1;have hbt:=oM y.time;have Gz:=Qf (yS.o.call HW.o.2.1 (M':=N+20+3*(k+1)) (Z':=(Z3).dA (y.time % 256)) (P:=fun e=>∃v,e=.returned (.int .i64 v)) (f:=24) (args:=#[.pointer (some ⟨pf,0,none⟩),.int .i64 (y.time % 256)]) ((yS.o.ok.mono (by omega)).dA _) (yS.o.now.tick _) (fun R' h1=>(fN h1 (y.time % 256) (by omega) yS.o.now).mono (fun e B ⟨hv,h2,h3⟩=>⟨hv,R',h2,aR.cQ (h3.mono (fun q hq=>.inl hq))⟩)));have HEq:=Qf (show Y1.dx u.c x l=((Z3).dA (y.time % 256)).dx u.c x (l.drop (k+1)) by rw[Ef.o,JX.o,if_pos GA.o,if_neg Mj.o,PF.o]);have iT:=Qf hk;clear z0 z2;go_wp2_with fail;refine Gz.o.mono ?_;rintro e w9 ⟨⟨v9,rfl⟩,xX⟩;have GK:=Qf xX;clear xX z1 hbt;go_wp2_with fail;go_roundw
       case rel=>exact⟨k+1,_,by have:=iT.o;omega,by go_num,HEq.o,GK.o,fM iO.o _⟩
       case measure=>
        have:=iT.o;simp[intOf];omega
      ·have GA:=Qf xI;clear xI z1;obtain⟨zb',zo',hz',hzl',z0,z1,z2⟩:=cn (HZ.o _ l7.o.s.q) k hk;injection hz' with hz';injection hz' with ee et;subst ee et;rw[hy] at z1;have hbt:=oM y.time;have Gz:=Qf (l7.o.call HW.o.2.1 (M':=N+20+3*(k+1)) (Z':=(Z1).dA (y.time % 256)) (P:=fun e=>∃v,e=.returned (.int .i64 v)) (f:=24) (args:=#[.pointer (some ⟨pf,0,none⟩),.int .i64 (y.time % 256)]) ((l7.o.ok.mono (by omega)).dA _) (l7.o.now.tick _) (fun R' h1=>(fN h1 (y.time % 256) (by omega) l7.o.now).mono (fun e B ⟨hv,h2,h3⟩=>⟨hv,R',h2,aR.cQ (h3.mono (fun q hq=>.inl hq))⟩)));have HEq:=Qf (show Y1.dx u.c x l=((Z1).dA (y.time % 256)).dx u.c x (l.drop (k+1)) by rw[Ef.o,JX.o,if_neg GA.o,if_neg Mj.o]);have iT:=Qf hk;clear z0 z2;go_wp2_with fail;refine Gz.o.mono ?_;rintro e w9 ⟨⟨v9,rfl⟩,xX⟩;have GK:=Qf xX;clear xX z1 hbt;go_wp2_with fail;go_roundw
       case rel=>exact⟨k+1,_,by have:=iT.o;omega,by go_num,HEq.o,GK.o,fM mM.o _⟩
       case measure=>
        have:=iT.o;simp[intOf];omega
     ·have hvg:(g==0)=false:=by simpa using D3
      clear hgs hv9 D3;go_upto_region 11 with fail;clear z0 hvg;obtain⟨zb',zo',hz',hzl',z0,z1,z2⟩:=cn (HZ.o _ l7.o.s.q) k hk;injection hz' with hz';injection hz' with ee et;subst ee et;rw[hy] at z1;clear z0 z2;by_cases xI:0≤y.time
      ·have GA:=Qf xI;have nq:cE ((Z1).op (fun S now=>S.file u.c now x.info (y.name++dm) 384 ByteArray.empty)).1 (N+20+3*k+1+1):=l7.o.ok.op (l7.o.ok.du.file _ _ _ _ _ _);have nr:=l7.o.now.op (fun S now=>S.file u.c now x.info (y.name++dm) 384 ByteArray.empty);have BQ:=Qf (fun(A:World) (hA:vZ Q L0 w pf pw R pv bx bc (w.heap.size+1) u.c x (N+20+3*k+1) (Z1) A)=>hA.call HW.o.2.1 (M':=N+20+3*k+1+1) (Z':=((Z1).op (fun S now=>S.file u.c now x.info (y.name++dm) 384 ByteArray.empty)).1) (P:=fun e=>e=.returned (.tuple #[.int .i64 ((Z1).op (fun S now=>S.file u.c now x.info (y.name++dm) 384 ByteArray.empty)).2.1,.int .i64 ((Z1).op (fun S now=>S.file u.c now x.info (y.name++dm) 384 ByteArray.empty)).2.2])) (f:=16) (args:=#[.pointer (some ⟨pf,0,none⟩),.agg #[.int .i64 u.u,.int .i64 u.g],.int .i64 x.info,.string (y.name++dm),.int .i64 384,.string ByteArray.empty]) nq nr
        (fun R' h1=>fT h1 hA.ok.du.ok (by omega) ⟨hA.ok.c0,by have:=hA.ok.cN;omega⟩ (by have:=hA.ok.pl;omega) u.c x.info (y.name++dm) 384 ByteArray.empty (by rw[ByteArray.size_append];have:dm.size=10:=rfl;omega) (by decide)))
       have ka:=eZ mM.o (fun S now=>S.file u.c now x.info (y.name++dm) 384 ByteArray.empty);have iO:=Qf ka;have FC:¬9223372036854775807<y.name.size+10:=by omega
       generalize Ke:(Z1).op (fun S now=>S.file u.c now x.info (y.name++dm) 384 ByteArray.empty)=r3 at nq nr BQ ka iO;have PF:=Qf Ke;obtain⟨Z3,d3,g3⟩:=r3;dsimp only at nq nr BQ ka iO;clear ka nq nr Ke;go_upto_region 12 with fail;have hbd:Qi w5 w5.drew:=(Below.refl _ _).drew;have vh:=l7.o.ak HW.o.2.1 hbd;have JW:=Qf vh;unfold dm at BQ;refine wp_region_held_drew (S:=fun w'=>D8 Q L0 w' w bx bc (w.heap.size+1) u.c x) (by kernel_rfl) vh.s (fun be=>?_);refine aK 10 [(0,73),(1,74),(2,75),(3,76),(4,77),(5,78),(6,79),(7,80),(8,81),(9,82)] (by kernel_rfl) (by kernel_rfl) rfl (fun _ _ _ _ _ h=>h) be ?_
       iterate 10 (apply aE rfl rfl;(· (intro w9 b8;obtain⟨s1,-,-⟩:=b8.x.facts;obtain⟨s2,-,-⟩:=b8.c.facts;obtain⟨zb',zo',hz',hzl,s3,s4,s5⟩:=cn (HZ.o _ b8.q) k hk;injection hz' with hz';injection hz' with ee et;subst ee et;rw[hy] at s3 s4 s5;clear b8;go_simp;(try with_reducible rfl)));simp only[ah,ai,aj])
       refine aJ ?_;refine bB 10 83 (R:=fun v w'=>vZ Q L0 w pf pw R pv bx bc (w.heap.size+1) u.c x (N+20+3*k+1+1) Z3 w') (by kernel_rfl) rfl rfl rfl ?xi ((BQ.o _ JW.o).mono (fun e w' ⟨he,hw⟩=>⟨_,he,hw⟩)) (fun v w' hw=>hw.s) ?_
       case xi=>(go_simp;first|rfl|exact⟨rfl,rfl⟩|exact⟨⟨rfl,rfl⟩,rfl⟩)
       rintro v7 w7 Kj;simp only[ah,ai,aj];refine wpAnyH_done (by kernel_rfl) ?_ _;have yS:=Qf Kj;clear be vh hbd Kj z1 xI FC;obtain⟨zb',zo',hz',hzl',z0,z1,z2⟩:=cn (HZ.o _ yS.o.s.q) k hk;injection hz' with hz';injection hz' with ee et;subst ee et;rw[hy] at z1;have hbt:=oM y.time;have Gz:=Qf (yS.o.call HW.o.2.1 (M':=N+20+3*(k+1)) (Z':=(Z3).dA (y.time % 256)) (P:=fun e=>∃v,e=.returned (.int .i64 v)) (f:=24) (args:=#[.pointer (some ⟨pf,0,none⟩),.int .i64 (y.time % 256)]) ((yS.o.ok.mono (by omega)).dA _) (yS.o.now.tick _) (fun R' h1=>(fN h1 (y.time % 256) (by omega) yS.o.now).mono (fun e B ⟨hv,h2,h3⟩=>⟨hv,R',h2,aR.cQ (h3.mono (fun q hq=>.inl hq))⟩)));have HEq:=Qf (show Y1.dx u.c x l=((Z3).dA (y.time % 256)).dx u.c x (l.drop (k+1)) by rw[Ef.o,JX.o,if_pos GA.o,if_neg Mj.o,PF.o]);have iT:=Qf hk;clear z0 z2;go_wp2_with fail;refine Gz.o.mono ?_;rintro e w9 ⟨⟨v9,rfl⟩,xX⟩;have GK:=Qf xX;clear xX z1 hbt;go_wp2_with fail;go_roundw
       case rel=>exact⟨k+1,_,by have:=iT.o;omega,by go_num,HEq.o,GK.o,fM iO.o _⟩
       case measure=>
        have:=iT.o;simp[intOf];omega
      ·have GA:=Qf xI;clear xI z1;obtain⟨zb',zo',hz',hzl',z0,z1,z2⟩:=cn (HZ.o _ l7.o.s.q) k hk;injection hz' with hz';injection hz' with ee et;subst ee et;rw[hy] at z1;have hbt:=oM y.time;have Gz:=Qf (l7.o.call HW.o.2.1 (M':=N+20+3*(k+1)) (Z':=(Z1).dA (y.time % 256)) (P:=fun e=>∃v,e=.returned (.int .i64 v)) (f:=24) (args:=#[.pointer (some ⟨pf,0,none⟩),.int .i64 (y.time % 256)]) ((l7.o.ok.mono (by omega)).dA _) (l7.o.now.tick _) (fun R' h1=>(fN h1 (y.time % 256) (by omega) l7.o.now).mono (fun e B ⟨hv,h2,h3⟩=>⟨hv,R',h2,aR.cQ (h3.mono (fun q hq=>.inl hq))⟩)));have HEq:=Qf (show Y1.dx u.c x l=((Z1).dA (y.time % 256)).dx u.c x (l.drop (k+1)) by rw[Ef.o,JX.o,if_neg GA.o,if_neg Mj.o]);have iT:=Qf hk;clear z0 z2;go_wp2_with fail;refine Gz.o.mono ?_;rintro e w9 ⟨⟨v9,rfl⟩,xX⟩;have GK:=Qf xX;clear xX z1 hbt;go_wp2_with fail;go_roundw
       case rel=>exact⟨k+1,_,by have:=iT.o;omega,by go_num,HEq.o,GK.o,fM mM.o _⟩
       case measure=>
        have:=iT.o;simp[intOf];omega
   ·obtain rfl:k=l.length:=by omega
    rw[List.drop_length] at hfl;have HE:=Qf (ag hI (ag hst hfl));obtain⟨xc,xf,xz⟩:=hI.s.x.facts;obtain⟨rc,rf,rz⟩:=hI.s.r.facts;clear hI hst hfl hk;go_wp2_with fail;obtain⟨R9,hy9,hs9,hl9⟩:=HE.o.1.y;have he:=HE.o.2.2;rw[he];exact rM (x:=x) HE.o.1.s.r.dV rfl rfl rfl ⟨rfl,gF.dV ⟨R9,hy9,hs9⟩ HE.o.1.s.r (by omega) _ _ _ _ _ _ _,HE.o.1.now,HE.o.2.1⟩
end
end
section
open Go.RowKit
theorem aA.head{w:World}{a:Option Addr}{n c:Nat}{es:List En}(h:aA w a n c es){k:Nat}(hk:k≤n):aA w a k c (es.take k):=by
 have hl:=h.len;obtain⟨h1,h2,h3,h4⟩:=h.sl;refine⟨⟨by rw[List.length_take];omega,by omega,h3,?_⟩,h.aZ⟩;rcases h4 with h0|⟨b,off,ha,hb,hel⟩
 ·exact .inl (by omega)
 ·refine .inr ⟨b,off,ha,hb,fun i hi=>?_⟩;rw[List.length_take] at hi;obtain⟨cs,e1,e2,e3⟩:=hel i (by omega);exact⟨cs,e1,by rw[List.getElem_take];exact e2,e3⟩
theorem aA.from{w:World}{b off n c:Nat}{es:List En}(h:aA w (some ⟨b,off,none⟩) n c es){k:Nat}(hk:k≤n):aA w (if c=k then some ⟨b,off,none⟩ else some ⟨b,off+k*2,none⟩) (n-k) (c-k) (es.drop k):=by
 have hl:=h.len;obtain⟨h1,h2,h3,h4⟩:=h.sl;refine⟨⟨by rw[List.length_drop];omega,by omega,by omega,?_⟩,fun p hp=>?_⟩
 ·by_cases hn:n=k
  ·exact .inl (by omega)
  ·rcases h4 with h0|⟨b',off',ha,hb,hel⟩
   ·omega
   ·injection ha with ha;injection ha with e1 e2;subst e1 e2;refine .inr ⟨b,off+k*2,by rw[if_neg (by omega)],hb,fun i hi=>?_⟩;rw[List.length_drop] at hi;obtain⟨cs,e1,e2,e3⟩:=hel (k+i) (by omega);refine⟨cs,e1,by rw[List.getElem_drop];exact e2,fun j hj=>?_⟩;rw[←e3 j hj];congr 2;rw[Nat.add_mul];omega
 ·obtain⟨b',off',cur,e,hblk⟩:=h.aZ _ rfl;injection e with e1 e2;subst e1 e2
  split at hp
  ·injection hp with hp;exact⟨b,off,cur,hp.symm,hblk⟩
  ·injection hp with hp;exact⟨b,off+k*2,cur,hp.symm,hblk⟩
theorem Jw{es:List En}(h:gQ es){s:ByteArray}{k:Nat}(hk:k<es.length)(hs:es[k].name=s):eG es s=es.take k++es.drop (k+1):=by
 have h0:es=es.take k++es[k]::es.drop (k+1):=by
  rw[←List.drop_eq_getElem_cons hk,List.take_append_drop]
 have hr:=h;rw[h0] at hr;unfold gQ at hr;rw[List.pairwise_append] at hr;obtain⟨-,h2,h3⟩:=hr;rw[List.pairwise_cons] at h2;unfold eG
 conv=>lhs;rw[h0]
 rw[List.filter_append,List.filter_cons,if_neg (by simpa using hs)];have hne:∀{a b:En},fZ a.name b.name=true→a.name≠b.name:=fun{a b} hab e=>by
  have:=jG hab;rw[e] at this hab;rw[hab] at this
  cases this
 rw[List.filter_eq_self.2 (fun a ha=>by
  have:=hne (h3 a ha _ List.mem_cons_self);rw[hs] at this;simpa using this),List.filter_eq_self.2 (fun a ha=>by
  have:=hne (h2.1 a ha);rw[hs] at this;simpa using fun e=>this e.symm)]
theorem DD{es:List En}{s:ByteArray}(h:gn es s=false):eG es s=es:=by
 unfold eG;rw[List.filter_eq_self];intro a ha;unfold gn at h;have h2:es.find? (fun x=>decide (x.name=s))=none:=by simpa using h
 rw[List.find?_eq_none] at h2;simpa using h2 a ha
theorem Lr{es:List En}(hr:gQ es){s:ByteArray}(h:gn es s=true):∃hk:cX es s<es.length,es[cX es s].name=s:=by
 unfold gn at h;rw[lH hr s] at h
 split at h
 ·rename_i hk;refine⟨hk,?_⟩
  split at h
  ·rename_i he;exact he
  ·cases h
 ·cases h
theorem DB(n:Nat)(hn:n≤3000000)(w:World) :
  Calls Tryz.prog 184 #[.slice none 0 0,.int .i64 n] w fun e w'=>∃v,e=.returned v∧OE w' w.heap.size v []∧Qi w w':=by
 obtain⟨i0,hi,jy,ee,et⟩:=info_parts gj;have mixed:Tryz.prog.follows .mixedOrders=true:=by kernel_rfl
 by_cases h0:0<n
 ·have happ:=Lib.run_append_nil_zeros (P:=Tryz.prog) w 94 3 94 98 i0 (.agg #[.string ByteArray.empty,.int .i64 0]) .i64 .i64 Tryz.underlying94 Tryz.underlying3 hi jy n h0 (by omega) (by omega) (by rw[et];omega);have hcapge:n≤grownCap w n 0 98:=grownCap_ge w _ 0 98;have hcaple:grownCap w n 0 98≤maxLen:=grownCap_le_maxLen w _ 0 98 (by unfold maxLen;omega);generalize grownCap w n 0 98=cap at happ hcapge hcaple;generalize hZ:(Builtin.zeroCells (Value.cells (.agg #[.string ByteArray.empty,.int .i64 0])) n++Builtin.zeroCells (Value.cells (.agg #[.string ByteArray.empty,.int .i64 0])) (cap-n))=Z at happ;have hZs:Z.size=cap*2:=by rw[←hZ,Array.size_append,jT,jT];omega
  have HO:=Qf (show OE (w.drew.alloc (.cells Z 98)) w.heap.size (.slice (some ⟨w.heap.size,0,none⟩) 0 cap) [] from World.ownsRow_made w.drew Z cap (aa _) hcaple hZs);have HB:=Qf ((Qj w).drew.alloc (aa _) (.cells Z 98));have OK:¬(cap=0):=by omega
  unfold maxLen at hcaple;clear hZ hZs hi jy ee et;go_enter Tryz.func184,Tryz.ntmps184;go_wp2_with (at_builtin;refine Lib.wpList_append_run _ rfl _ _ _ _ rfl _ _ rfl rfl _ _ happ ?_);go_ret;exact⟨_,rfl,HO.o,HB.o⟩
 ·obtain rfl:n=0:=by omega
  clear hi jy ee et;go_enter Tryz.func184,Tryz.ntmps184;go_wp2_with fail;go_ret;exact⟨_,rfl,⟨rfl,.inl ⟨rfl,rfl⟩⟩,Below.refl _ _⟩
structure Pt where
 a:Option Addr
 n:Nat
 c:Nat
 es:List En
def Pt.v(p:Pt):Value:=.slice p.a p.n p.c
def ptC(p:Pt):List Value:=[p.v]
def ptQ(cs:List Value)(p:Pt):Prop:=cs=ptC p
theorem Bk{w:World}{sb:Nat}{ps:List Pt}(h:aw w sb (ps.map Pt.v).toArray 94)(k:Nat)(hk:k<ps.length):w.cell? ⟨sb,k,none⟩=some (.slice ps[k].a ps[k].n ps[k].c):=by
 rw[h.cell k];simp[hk,Pt.v]
theorem yr(ps:List Pt)(sb:Nat)(w:World)(hb:aw w sb (ps.map Pt.v).toArray 94)(hp:∀p∈ps,aA w p.a p.n p.c p.es)(hm:ps.length≤9)(hn:∀p∈ps,p.n≤100000) :
  Calls Tryz.prog 151 #[.slice (some ⟨sb,0,none⟩) ps.length ps.length] w fun e w'=>∃v,e=.returned v∧OE w' w.heap.size v (ps.flatMap Pt.es)∧Qi w w':=by
 have hsum:∀k,k≤ps.length→((ps.take k).map Pt.n).sum≤k*100000:=fun k=>by
  induction k with
  |zero=>intro _;simp
  |succ k ih=>
   intro hk;have h1:=ih (by omega);rw[List.take_succ_eq_append_getElem (by omega),List.map_append,List.sum_append];have:=hn ps[k] (List.getElem_mem _);rw[List.map_singleton,List.sum_singleton,Nat.succ_mul];omega
 have L4:=Qf hsum;have hlt:=hb.lt;have HP:=Qf hp;have HN:=Qf hn;have HB:=Qf hb;obtain⟨i0,hi,jy,ee,et⟩:=info_parts gj;have HApp:=Qf (fun(W:World) (v:Value) (xs:List En) (hO:OE W w.heap.size v xs) (a:Option Addr) (n c:Nat) (es:List En) (he:aA W a n c es) (hx:xs.length+n≤1000000) (hs:w.heap.size≤W.heap.size)=>
  show∃v' W',(Builtin.append_ #[94,94] 94 #[v,.slice a n c]).run Tryz.prog W=.ok v' W'∧OE W' w.heap.size v' (xs++es)∧Below w.heap.size W W' by
   have hl:=he.len;by_cases h0:0<n
   ·obtain⟨b,off,rfl,hbl⟩:=he.dL h0;obtain⟨g,cap,W',h1,h2,h3,-⟩:=ei 94 Tryz.underlying94 hi jy ee et rfl (by omega) hO ⟨b,off,none⟩ n c (es.flatMap b9) (by rw[bW bJ,hl]) he.news (nC es) h0 (by unfold maxLen;omega) (by omega) hs;refine⟨_,W',h1,?_,h3.below (fun k hk=>(aD hO hk).1) hs⟩;unfold OE;rw[List.length_append,hl,List.flatMap_append];exact h2
   ·obtain rfl:n=0:=by omega
    obtain rfl:es=[]:=List.eq_nil_of_length_eq_zero hl;refine⟨v,W,ib _ Tryz.underlying94 hi hO a c,?_,Below.refl _ _⟩;rw[List.append_nil];exact hO)
 clear hsum hp hn hb hi jy ee et;go_enter Tryz.func151,Tryz.ntmps151;go_wp2_with fail
 go_loopw [3,11] (fun t3 t11 wr=>∃k:Nat,k≤ps.length∧t11=.int .i64 k∧t3=.int .i64 (((ps.take k).map Pt.n).sum:Nat)∧w=wr) (fun _ t11 _=>ps.length-(intOf t11).toNat)
 case atStart=>exact⟨0,Nat.zero_le _,rfl,rfl,rfl⟩
 case round=>
  obtain⟨k,hkl,rfl,rfl,rfl⟩:=hrel;have je:=L4.o k hkl;by_cases hk:k<ps.length
  ·have hc:=Bk HB.o k hk;have iR:=L4.o (k+1) (by omega);have pb:((ps.take (k+1)).map Pt.n).sum=((ps.take k).map Pt.n).sum+ps[k].n:=by
    rw[List.take_succ_eq_append_getElem hk,List.map_append,List.sum_append];simp
   obtain⟨p,hpk⟩:∃p,ps[k]=p:=⟨_,rfl⟩;rw[hpk] at hc pb;have yN:=Qf pb;have iT:=Qf hk;generalize ((ps.take (k+1)).map Pt.n).sum=s2 at iR pb;generalize ((ps.take k).map Pt.n).sum=s1 at je pb yN;have av:s1+p.n≤1000000:=by omega
   subst pb;clear hpk;go_wp2_with fail;go_roundw
   case rel=>exact⟨k+1,by have:=iT.o;omega,by go_num,by rw[yN.o];go_num,trivial⟩
   case measure=>
    have:=iT.o;simp[intOf];omega
  ·obtain rfl:k=ps.length:=by omega
   generalize ((ps.take ps.length).map Pt.n).sum=s1 at je⊢;go_wp2_with fail;refine(DB s1 (by omega) _).mono ?_;rintro e w1 ⟨v,rfl,hO,av⟩;have HO:=Qf hO;have dO:=Qf av;clear hO av;go_wp2_with fail
   go_loopw [6,27] (fun t6 t27 wr'=>∃k:Nat,k≤ps.length∧t27=.int .i64 k∧OE wr' w.heap.size t6 ((ps.take k).flatMap Pt.es)∧Qi w wr') (fun _ t27 _=>ps.length-(intOf t27).toNat)
   case atStart=>exact⟨0,Nat.zero_le _,rfl,HO.o,dO.o⟩
   case round=>
    obtain⟨k,hkl,rfl,sn,eU⟩:=hrel;by_cases hk:k<ps.length
    ·have hc:=Bk (HB.o.l4 eU (Nat.lt_of_lt_of_le HB.o.lt (aa _))) k hk;have he:=(HP.o ps[k] (List.getElem_mem hk)).ak eU;have hln:((ps.take k).flatMap Pt.es).length+ps[k].n≤1000000:=by
      have hfl:∀j,j≤ps.length→((ps.take j).flatMap Pt.es).length≤((ps.take j).map Pt.n).sum:=fun j=>by
       induction j with
       |zero=>intro _;simp
       |succ j ih=>
        intro hj;have h1:=ih (by omega);have h2:=(HP.o ps[j] (List.getElem_mem (by omega))).len;rw[List.take_succ_eq_append_getElem (by omega),List.map_append,List.sum_append,List.flatMap_append,List.length_append,List.map_singleton,List.sum_singleton,List.flatMap_cons,List.flatMap_nil,List.append_nil];omega
      have h1:=hfl k hkl;have h2:=L4.o k hkl;have h3:=HN.o ps[k] (List.getElem_mem hk);omega
     have htk:(ps.take (k+1)).flatMap Pt.es=(ps.take k).flatMap Pt.es++ps[k].es:=by
      rw[List.take_succ_eq_append_getElem hk,List.flatMap_append,List.flatMap_cons,List.flatMap_nil,List.append_nil]
     obtain⟨p,hpk⟩:∃p,ps[k]=p:=⟨_,rfl⟩;rw[hpk] at hc he hln htk;obtain⟨v',W',hr,kA,cT⟩:=HApp.o wr u6 _ sn p.a p.n p.c p.es he hln eU.size;have HR:=Qf hr;have nX:=Qf (ag kA (eU.trans cT));have iT:=Qf hk;have HTk:=Qf htk;clear he hln htk hpk hr kA cT sn eU;go_wp2_with (at_builtin;refine aL rfl rfl rfl rfl HR.o ?_);go_roundw
     case rel=>exact⟨k+1,by have:=iT.o;omega,by go_num,by rw[HTk.o];exact nX.o.1,nX.o.2⟩
     case measure=>
      have:=iT.o;simp[intOf];omega
    ·obtain rfl:k=ps.length:=by omega
     have Mb:=Qf sn;have yV:=Qf eU;clear sn eU;go_wp2_with fail;go_ret;have:=Mb.o;rw[List.take_length] at this;exact⟨_,rfl,this,yV.o⟩
theorem OE.Pp{w:World}{base:Nat}{v:Value}{es:List En}(h:OE w base v es):∃a n c,v=.slice a n c∧aA w a n c es:=by
 obtain⟨a,c,rfl,-⟩:=bC h;exact⟨a,es.length,c,rfl,OE.at h⟩
theorem DC(es:List En)(a:Option Addr)(n c:Nat)(s:ByteArray)(w:World)(he:aA w a n c es)(hr:gQ es)(hn:n≤100000) :
  Calls Tryz.prog 116 #[.slice a n c,.string s] w fun e w'=>∃a' n' c',e=.returned (.tuple #[.slice a' n' c',.bool (gn es s)])∧aA w' a' n' c' (eG es s)∧Qi w w':=by
 have HS:=Qf (mh es a n c s w he hr (by omega));have HE:=Qf he;have HR:=Qf hr;have hl:=he.len;generalize hh:gn es s=hv at HS⊢
 cases hv with
 |false=>
  have HD:=Qf (DD hh);clear hh he hr;go_enter Tryz.func116,Tryz.ntmps116;go_wp2_with fail;refine HS.o.mono ?_;rintro e w1 ⟨rfl,av⟩;have dO:=Qf av;clear av;go_wp2_with fail;go_ret2;exact⟨_,_,_,rfl,by rw[HD.o];exact HE.o.ak dO.o,dO.o⟩
 |true=>
  obtain⟨hk,hks⟩:=Lr hr hh;have HD:=Qf (Jw hr hk hks);generalize cX es s=k at HS HD hk;obtain⟨b,off,rfl,hbl⟩:=he.dL (by omega);have hcn:n≤c:=he.sl.2.1;have hcm:=he.sl.2.2.1;have sS:=Qf (show k<n by omega);clear hh he hr hks;have gD:(k:Int)+1≤n:=by omega
  have sD:IntKind.i64.wrap ((k:Int)+1)=(k:Int)+1:=by rw[IntKind.wrap_i64];omega
  have htn:((k:Int)+1).toNat=k+1:=by omega
  have hkn:(k:Int)≤(n:Int):=by omega
  have hkc:k≤c:=by omega
  have hkc2:(k:Int)≤(c:Int):=by omega
  have MG:(0:Int)≤(k:Int)+1:=by omega
  go_enter Tryz.func116,Tryz.ntmps116;go_wp2_with fail;refine HS.o.mono ?_;rintro e w1 ⟨rfl,av⟩;have dO:=Qf av;have h1:=(HE.o.ak av).head (k:=k) (by omega);have h2:=(HE.o.ak av).from (k:=k+1) (by omega);have HH:=Qf (ag h1 h2);clear av h1 h2;go_upto_region 4 with fail;refine wp_region_held_drew (S:=fun _=>True) (by kernel_rfl) trivial (fun be=>?_);refine aK 7 [(0,17),(1,18),(2,19),(3,20),(4,21),(5,22),(6,23)] (by kernel_rfl) (by kernel_rfl) rfl (fun _ _ _ _ _ h=>h) be ?_
  iterate 7 (apply aE rfl rfl;(· (intro w9 b8;clear b8;go_simp;(try with_reducible rfl)));simp only[ah,ai,aj])
  refine aJ ?_;have hbd:Qi w1 w1.drew:=(Below.refl _ _).drew;have hN:=aw.new w1.drew #[.slice (some ⟨b,off,none⟩) k c,.slice (if c=k+1 then some ⟨b,off,none⟩ else some ⟨b,off+(k+1)*2,none⟩) (n-(k+1)) (c-(k+1))] 94;have OM:=aq hbd (.cells #[.slice (some ⟨b,off,none⟩) k c,.slice (if c=k+1 then some ⟨b,off,none⟩ else some ⟨b,off+(k+1)*2,none⟩) (n-(k+1)) (c-(k+1))] 94);refine fU 7 24 (v:=.slice (some ⟨w1.drew.heap.size,0,none⟩) 2 2) (W:=w1.drew.alloc (.cells #[.slice (some ⟨b,off,none⟩) k c,.slice (if c=k+1 then some ⟨b,off,none⟩ else some ⟨b,off+(k+1)*2,none⟩) (n-(k+1)) (c-(k+1))] 94)) (by kernel_rfl) rfl rfl rfl ?qa trivial ?_
  case qa=>(go_simp;(try rfl))
  simp only[ah,ai,aj];have hcc:=yr [⟨some ⟨b,off,none⟩,k,c,es.take k⟩,⟨(if c=k+1 then some ⟨b,off,none⟩ else some ⟨b,off+(k+1)*2,none⟩),n-(k+1),c-(k+1),es.drop (k+1)⟩] w1.drew.heap.size _ hN (fun p hp=>by
   rcases List.mem_cons.1 hp with rfl|hp
   ·exact HH.o.1.ak OM
   ·rw[List.mem_singleton.1 hp];exact HH.o.2.ak OM) (by simp) (fun p hp=>by
   rcases List.mem_cons.1 hp with rfl|hp
   ·show k≤100000;omega
   ·rw[List.mem_singleton.1 hp];show n-(k+1)≤100000;omega)
  generalize w1.drew.alloc (.cells #[.slice (some ⟨b,off,none⟩) k c,.slice (if c=k+1 then some ⟨b,off,none⟩ else some ⟨b,off+(k+1)*2,none⟩) (n-(k+1)) (c-(k+1))] 94)=W2 at hcc OM⊢;refine bB 8 25 (R:=fun v w'=>OE w' W2.heap.size v (es.take k++es.drop (k+1))∧Qi W2 w') (by kernel_rfl) rfl rfl rfl ?xa (hcc.mono (fun e w' ⟨v,he,ho,hb⟩=>⟨v,he,by simpa using ho,hb⟩)) (fun v w' _=>trivial) ?_
  case xa=>(go_simp;(try rfl))
  rintro v9 W9 ⟨O2,lF⟩;simp only[ah,ai,aj];refine aK 2 [(9,4),(10,5)] (by kernel_rfl) (by kernel_rfl) rfl (fun _ _ _ _ _ h=>h) trivial ?_
  iterate 2 (apply aE rfl rfl;(· (intro w9 b8;clear b8;go_simp;(try with_reducible rfl)));simp only[ah,ai,aj])
  refine aJ ?_;refine wpAnyH_done (by kernel_rfl) ?_ _;obtain⟨a9,n9,c9,rfl,Pd⟩:=OE.Pp O2;have H9:=Qf (ag Pd (au dO.o (au OM lF)));clear hcc hN OM hbd O2 lF Pd;go_wp2_with fail
  all_goals
   go_ret2;exact⟨_,_,_,rfl,by rw[HD.o];exact H9.o.1,H9.o.2⟩
end
section
open Go.RowKit
theorem zB:∀k:Fin 1024,(bits BinOp.and IntKind.i64 (k.val:Int) 512=0)↔k.val<512:=by decide +kernel
theorem qA{m:Int}(h:0≤m∧m≤1023):bits BinOp.and IntKind.i64 m 512=0↔m<512:=by
 have:=zB ⟨m.toNat,by omega⟩;rw[show((m.toNat:Nat):Int)=m from by omega] at this;rw[this];show m.toNat<512↔_;omega
theorem CW(c:Cr)(d n:An)(da na:Option Addr)(dl dc nl nc:Nat)(h0:0≤d.mode∧d.mode≤1023)(w:World) :
  Calls Tryz.prog 154 #[.agg #[.int .i64 c.u,.int .i64 c.g],.agg #[.int .i64 d.no,.int .i64 d.dev,.int .i64 d.kind,.int .i64 d.mode,.int .i64 d.uid,.int .i64 d.gid,.int .i64 d.mtime,.int .i64 d.ctime,.int .i64 d.ao,.int .i64 d.up,.string d.data,.slice da dl dc],.agg #[.int .i64 n.no,.int .i64 n.dev,.int .i64 n.kind,.int .i64 n.mode,.int .i64 n.uid,.int .i64 n.gid,.int .i64 n.mtime,.int .i64 n.ctime,.int .i64 n.ao,.int .i64 n.up,.string n.data,.slice na nl nc]] w fun e w'=>e=.returned (.bool (pd c d n))∧Qi w w':=by
 have oQ:=Qf (fun w=>og c d da dl dc w);have nX:=Qf (fun w=>og c n na nl nc w);unfold Cr.v An.v at oQ nX;have hF:pd c d n=(decide (d.mode<512)||fV c d||fV c n):=rfl;generalize pd c d n=fv at hF⊢;generalize fV c d=o1 at oQ hF;generalize fV c n=o2 at nX hF;by_cases hm:d.mode<512
 ·have hb:=(qA h0).2 hm;have HF:=Qf (show fv=true by rw[hF,decide_eq_true hm];rfl);clear hF hm;go_enter Tryz.func154,Tryz.ntmps154;go_wp2_with fail;go_ret;exact⟨by rw[HF.o];rfl,aq (aq (aq (Below.refl _ _) _) _) _⟩
 ·have hb:¬bits BinOp.and IntKind.i64 d.mode 512=0:=fun h=>hm ((qA h0).1 h);rw[decide_eq_false hm,Bool.false_or] at hF;clear hm
  cases o1 with
  |true=>
   have HF:=Qf (show fv=true by rw[hF];rfl);clear hF;go_enter Tryz.func154,Tryz.ntmps154;go_wp2_with fail;refine(oQ.o _).mono ?_;rintro e w1 ⟨rfl,av⟩;have HB:=Qf (au (aq (aq (aq (Qj w) _) _) _) av);clear av;go_wp2_with fail;go_ret;exact⟨by rw[HF.o];rfl,HB.o⟩
  |false=>
   have HF:=Qf (show fv=o2 by rw[hF];rfl);clear hF;go_enter Tryz.func154,Tryz.ntmps154;have hbx:=aq (aq (aq (Qj w) (.cells #[.int .i64 c.u,.int .i64 c.g] 64)) (.cells #[.int .i64 d.no,.int .i64 d.dev,.int .i64 d.kind,.int .i64 d.mode,.int .i64 d.uid,.int .i64 d.gid,.int .i64 d.mtime,.int .i64 d.ctime,.int .i64 d.ao,.int .i64 d.up,.string d.data,.slice da dl dc] 149)) (.cells #[.int .i64 n.no,.int .i64 n.dev,.int .i64 n.kind,.int .i64 n.mode,.int .i64 n.uid,.int .i64 n.gid,.int .i64 n.mtime,.int .i64 n.ctime,.int .i64 n.ao,.int .i64 n.up,.string n.data,.slice na nl nc] 149);obtain⟨hC,hD,hN,-⟩:=AS w #[.int .i64 c.u,.int .i64 c.g] #[.int .i64 d.no,.int .i64 d.dev,.int .i64 d.kind,.int .i64 d.mode,.int .i64 d.uid,.int .i64 d.gid,.int .i64 d.mtime,.int .i64 d.ctime,.int .i64 d.ao,.int .i64 d.up,.string d.data,.slice da dl dc] #[.int .i64 n.no,.int .i64 n.dev,.int .i64 n.kind,.int .i64 n.mode,.int .i64 n.uid,.int .i64 n.gid,.int .i64 n.mtime,.int .i64 n.ctime,.int .i64 n.ao,.int .i64 n.up,.string n.data,.slice na nl nc] 64 149 149;go_upto_region 1 with fail;generalize ((w.alloc (.cells #[.int .i64 c.u,.int .i64 c.g] 64)).alloc (.cells #[.int .i64 d.no,.int .i64 d.dev,.int .i64 d.kind,.int .i64 d.mode,.int .i64 d.uid,.int .i64 d.gid,.int .i64 d.mtime,.int .i64 d.ctime,.int .i64 d.ao,.int .i64 d.up,.string d.data,.slice da dl dc] 149)).alloc (.cells #[.int .i64 n.no,.int .i64 n.dev,.int .i64 n.kind,.int .i64 n.mode,.int .i64 n.uid,.int .i64 n.gid,.int .i64 n.mtime,.int .i64 n.ctime,.int .i64 n.ao,.int .i64 n.up,.string n.data,.slice na nl nc] 149)=X at hbx hC hD hN⊢;obtain⟨cc,cf,cz⟩:=hC.facts;obtain⟨dc',df,dz⟩:=hD.facts;have HX:=Qf (ag hC (ag hN hbx));clear hC hD hN hbx;go_wp2_with fail;refine(oQ.o _).mono ?_;rintro e w1 ⟨rfl,av⟩;have tR:=HX.o.1.ak av;have hN1:=HX.o.2.1.ak av;have dO:=Qf (au HX.o.2.2 av);clear cc cf cz dc' df dz av;obtain⟨cc,cf,cz⟩:=tR.facts;obtain⟨nc',nf,nz⟩:=hN1.facts;clear tR hN1;go_wp2_with fail;refine(nX.o _).mono ?_;rintro e w2 ⟨rfl,aS⟩;have dS:=Qf (au dO.o aS);clear aS;go_wp2_with fail;go_ret;exact⟨by rw[HF.o,show(bits BinOp.and IntKind.i64 d.mode 512==0)=false from by simpa using hb];rfl,dS.o⟩
end
end Go.Proofs.YtabbjaomlmnnhaaGreat
