import Derived.Test.YtabbjaomlmnnhaaGreatCO17
import Derived.Test.YtabbjaomlmnnhaaGreatCO18
import Derived.Test.YtabbjaomlmnnhaaGreatCO11
import Derived.Test.YtabbjaomlmnnhaaGreatCO16
import Derived.Test.YtabbjaomlmnnhaaGreatCO15
import Derived.Test.YtabbjaomlmnnhaaGreatCO10
import Derived.Test.YtabbjaomlmnnhaaGreatCO1
set_option linter.unusedVariables false
set_option linter.unusedSimpArgs false
set_option maxRecDepth 100000
set_option maxHeartbeats 16000000
namespace Go.Proofs.YtabbjaomlmnnhaaGreat
open Go.Value renaming int→UE,string→UF,slice→UG,pointer→UH,agg→UJ,tuple→UK
open Go.IntKind renaming i64→UL
section
open Go.RowKit
def yw(u:Us)(h:Int×Int)(b:Sy×Bool×Cn×Int):Sy×Cn×Int:=
 if b.2.1=true then(b.1,b.2.2) else if h.2≠0 then(b.1,kr,b.2.2.2) else b.1.aZ u ⟨h.1,iw,ByteArray.empty⟩
def z7(u:Us)(h:Int×Int)(top:Int)(path:ByteArray)(a:Sy×Bool×Cn×Int):Sy×Cn×Int:=
 if a.2.1=true then(a.1,a.2.2) else yw u h (a.1.bw u (a.1.fs.cO a.1.dead u top path) a.2.2.2)
theorem GB(Y:Sy)(u:Us)(no:Int):Y.bJ u no=if(Y.fs.dg no).2.2≠0 then(Y,kr,(Y.fs.dg no).2.2) else z7 u (Y.fs.ga Y.dead u) (Y.fs.dg no).1 (Y.fs.dg no).2.1 (Y.bw u (Y.gB u (Y.fs.dg no).1) 0):=rfl
theorem si(Y:Sy)(u:Us)(p:mX)(l:List mX)(e:Int):Y.bw u (p::l) e=if(Y.aZ u p).2.2=0∨(Y.aZ u p).1.dead=true then((Y.aZ u p).1,true,(Y.aZ u p).2.1,(Y.aZ u p).2.2) else(Y.aZ u p).1.bw u l (Y.aZ u p).2.2:=rfl
theorem Ai{S:Fs}{d:Bool}{u:Us}{top:Int}{path:ByteArray}(Jr:-9223372036854775808≤u.u)(Jq:u.u≤9223372036854775807):∀p∈S.cO d u top path,p.name.size≤9223372036854775807:=by
 have hd:(Gw u.u).size≤21:=by
  unfold Gw;rw[dn];exact(kL u.u Jr Jq).1
 intro p hp;unfold Fs.cO at hp;rw[List.mem_append] at hp;rcases hp with hp|hp
 ·split at hp
  ·rw[List.mem_singleton] at hp;subst hp;show(Gw u.u).size≤_;omega
  ·cases hp
 ·rw[List.mem_singleton] at hp;subst hp;show(oP u.u).size≤_;unfold oP;rw[ByteArray.size_append];have:(ByteArray.mk #[46,84,114,97,115,104,45]).size=7:=rfl;omega
theorem iJ(w:World)(a b:Array Value)(A B:TypeId):ax ((w.alloc (.cells a A)).alloc (.cells b B)) w.heap.size a A∧ax ((w.alloc (.cells a A)).alloc (.cells b B)) (w.heap.size+1) b B∧UA w ((w.alloc (.cells a A)).alloc (.cells b B)):=by
 refine⟨(ax.new w a A).bI _,?_,ao (ao (UB w) _) _⟩;have:=ax.new (w.alloc (.cells a A)) b B
 rwa [World.size_alloc] at this
section
variable{w w':World}{pf pw:Nat}{R:Rp}{pv:Value}{Y:Sy}
theorem vg.sy{base:Nat}{v:Value}{l:List mX}(ho:vg 143 w base v l)(h:bm w pf pw R pv Y){F':Nat→Prop}(hs:aS (R.Y pf pw) F' w w'):vg 143 w' base v l:=
 bY ho hs.mod (fun k hk he=>by
  obtain⟨-,cur,hc⟩:=aH ho he;rcases hk with rfl|hk
  ·have hb:=h.bD;unfold ax at hb;rw[hb] at hc
   cases hc
  ·obtain⟨o,ho,hd⟩:=h.wd.kind hk;rw[hc] at ho;injection ho with ho;subst ho
   cases hd)
theorem eJ.len{N:Nat}(h:eJ Y N)(hN:N≤100000):Y.fs.ns.length≤100000:=by
 have h1:=h.bK.pl.len;have h2:=h.bK.ok.lN;omega
theorem dZ{tmps:Array Value}{W:World}{B:Nat}{x:Cn}{e:Int}(hb:ax W B #[UF x.path,UE UL x.dir,UE UL x.info,UE UL x.files,UE UL x.out,UE UL x.jC,UF x.top] 48)
  (h8:tmps.getD 6 undef=UH (some ⟨B,0,none⟩)) (h9:tmps.getD 7 undef=UE UL e):(results Tryz.f26 tmps).run Tryz.prog W=.ok (UK #[x.v,UE UL e]) W:=by
 have q0:=hb.cell 0;have q1:=hb.cell 1;have q2:=hb.cell 2;have q3:=hb.cell 3;have q4:=hb.cell 4;have q5:=hb.cell 5;have q6:=hb.cell 6;rw[Array.getD_eq_getD_getElem?] at h8 h9;simp[results,Tryz.results26,go_sem,Cn.v,h8,h9,q0,q1,q2,q3,q4,q5,q6]
structure H'(w:World)(pf pw:Nat)(R:Rp)(pv:Value)(u:Us)(Z:Sy)(wx:World):Prop where
 g:iu w wx pf pw R pv Z
 us:ax wx w.heap.size #[UE UL u.u,UE UL u.g,UF u.data] 27
 o:ax wx (w.heap.size+1) #[UF ⟨#[]⟩,UE UL 0,UE UL 0,UE UL 0,UE UL 0,UE UL 0,UF ⟨#[]⟩] 48
theorem H'.an{u:Us}{Z:Sy}{wx wy:World}(h:H' w pf pw R pv u Z wx)(hb:UA wx wy):H' w pf pw R pv u Z wy:=⟨h.g.below hb,h.us.an hb,h.o.an hb⟩
theorem H'.step{u:Us}{Z Z':Sy}{wx wy:World}(h:H' w pf pw R pv u Z wx){R1 R2:Rp}(h1:bm wx pf pw R1 pv Z)(hs:aS (R.Y pf pw) (R1.Y pf pw) w wx)(h2:bm wy pf pw R2 pv Z')(ib:aS (R1.Y pf pw) (R2.Y pf pw) wx wy):H' w pf pw R pv u Z' wy:=
 ⟨⟨R2,h2,hs.trans ib⟩,h.us.sy h1 ib (by decide) (by decide),h.o.sy h1 ib (by decide) (by decide)⟩
theorem H'.ready{u:Us}{Z:Sy}{wx:World}(h:H' w pf pw R pv u Z wx){N:Nat}(hk:eJ Z N)(hN:N≤99000)(p:mX)(hn:p.name.size≤9223372036854775807) :
  Calls Tryz.prog 60 #[UH (some ⟨pf,0,none⟩),UJ #[UE UL u.u,UE UL u.g,UF u.data],UJ #[UE UL p.dir,UF p.name,UF p.top]] wx fun e w'=>
   e=.returned (UK #[(Z.aZ u p).2.1.v,UE UL (Z.aZ u p).2.2])∧H' w pf pw R pv u (Z.aZ u p).1 w'∧∀v l,vg 143 wx w.heap.size v l→vg 143 w' w.heap.size v l:=by
 obtain⟨R1,h1,ij⟩:=h.g;refine(CH h1 hk hN u p hn).mono ?_;rintro e w' ⟨he,R2,h2,ib⟩;exact⟨he,h.step h1 ij h2 ib,fun v l ho=>ho.sy h1 ib⟩
theorem Az(h:bm w pf pw R pv Y){N:Nat}(hk:eJ Y N)(hN:N≤90000)(hd:Y.dead=false)(u:Us)(Jr:-9223372036854775808≤u.u)(Jq:u.u≤9223372036854775807)(ht:u.data.size≤100000)(no:Int) :
  Calls Tryz.prog 26 #[UH (some ⟨pf,0,none⟩),UJ #[UE UL u.u,UE UL u.g,UF u.data],UE UL no] w fun e w'=>
   e=.returned (UK #[(Y.bJ u no).2.1.v,UE UL (Y.bJ u no).2.2])∧iu w w' pf pw R pv (Y.bJ u no).1:=by
 obtain⟨F9,fh,aJ⟩:=iJ w #[UE UL u.u,UE UL u.g,UF u.data] #[UF ⟨#[]⟩,UE UL 0,UE UL 0,UE UL 0,UE UL 0,UE UL 0,UF ⟨#[]⟩] 27 48;have HT:=Ux (fun w1 (av:UA w w1)=>Ii (h.an av) hk.bK.ok hk.bK.pl (hk.len (by omega)) hd no);have Rv:=Ux (fun w1 (av:UA w w1)=>GG (h.an av) hk.bK.ok (by omega) hk.bK.pl hk.bK.wy hd u ht);have jY:=Ux (fun w1 (av:UA w w1) k=>jD (h.an av) hk.bK.ok hd k);have uL:=Ux (fun w1 (av:UA w w1) k=>fK (h.wd.an av) hk.bK.ok.d1 k);obtain⟨pc,-,pz⟩:=h.bD.facts;have ni:=Ux (fun w1 (av:UA w w1)=>show w1.cell? ⟨pf,0,none⟩=some (UH (some ⟨pw,0,none⟩)) from(av.cell (p:=⟨pf,0,none⟩) pz).trans (pc 0));have wY:=Ux (fun w1 (av:UA w w1) (hu:ax w1 w.heap.size #[UE UL u.u,UE UL u.g,UF u.data] 27) (ho:ax w1 (w.heap.size+1) #[UF ⟨#[]⟩,UE UL 0,UE UL 0,UE UL 0,UE UL 0,UE UL 0,UF ⟨#[]⟩] 48)=>show H' w pf pw R pv u Y w1 from⟨iu.of h av,hu,ho⟩);have HK:=Ux hk;have HR:=Ux (GB Y u no);have Ox:=Ux (show Y.gB u (Y.fs.dg no).1=if(Y.fs.ga false u).2=0∧Y.fs.root (Y.fs.bG (Y.fs.ga false u).1).dev=(Y.fs.dg no).1 then[⟨(Y.fs.ga false u).1,iw,ByteArray.empty⟩] else[] by unfold Sy.gB;rw[hd]);rw[hd] at HR;have HD:=Ux hd;generalize Y.bJ u no=rd at HR⊢;generalize Y.fs.dg no=tp at HT HR Ox;generalize Y.fs.ga false u=da at Rv HR Ox;obtain⟨top,path,e1⟩:=tp;obtain⟨data,home⟩:=da;dsimp only at HT HR Ox Rv;have HPz:=Ux pz;clear h hk hd pc pz;go_enter Tryz.func26,Tryz.ntmps26;go_upto_region 1 with fail;generalize World.alloc _ _=W0 at F9 fh aJ⊢;have ou:=Ux (ag F9 (ag fh aJ));clear F9 fh aJ;go_wp2_with fail;refine(HT.o _ ou.o.2.2).mono ?_;rintro e w1 ⟨rfl,av⟩;have DD:=Ux (ag (ou.o.1.an av) (ag (ou.o.2.1.an av) (ar ou.o.2.2 av)));clear av;by_cases h1:e1=0
 ·have MU:(e1 != 0)=false:=by simpa using h1
  have HE:=Ux (HR.o.trans (if_neg (by simpa using h1)));subst h1;obtain⟨uc,uf,uz⟩:=DD.o.1.facts;go_wp2_with fail;refine(Rv.o _ DD.o.2.2).mono ?_;rintro e w2 ⟨rfl,aY⟩;have BC:=Ux (ag (DD.o.1.an aY) (ag (DD.o.2.1.an aY) (ar DD.o.2.2 aY)));clear aY uc uf uz;obtain⟨H0,hH0⟩:∃l,Y.gB u top=l:=⟨_,rfl⟩;rw[hH0] at HE Ox;go_upto_if 39 with fail
  go_cut [] from 13 to 70 (fun wx=>∃(Z:Sy) (e0:Int),rd=yw u (data,home) (Z.bw u (Z.fs.cO false u top path) e0)∧eJ Z (N+5)∧Z.dead=false∧H' w pf pw R pv u Z wx)
  case first=>
   by_cases hh:home=0
   ·subst hh;have iZ:=Ux (jY.o _ BC.o.2.2 data);rw[stZ] at iZ;generalize ep (Y.fs.get data)=ne at iZ;generalize Y.fs.bG data=st at iZ Ox;go_wp2_with fail;refine iZ.o.mono ?_;rintro e w3 ⟨rfl,cl⟩;obtain⟨D9,hbS⟩:=Uz w3 #[UE UL st.no,UE UL st.dev,UE UL st.kind,UE UL st.mode,UE UL st.uid,UE UL st.gid,UE UL st.ak,UE UL st.data.size,UE UL st.mtime,UE UL st.ctime] 67;have dM:=cl.trans (hbS.mono cl.size);have yI:=Ux (ag (BC.o.1.an dM) (ag (BC.o.2.1.an dM) (ar BC.o.2.2 dM)));clear cl dM hbS;go_upto_region 7 with fail;generalize w3.alloc _=W4 at D9 yI⊢;have pc:=ni.o _ yI.o.2.2;have hpz:pf<W4.heap.size:=Nat.lt_of_lt_of_le HPz.o yI.o.2.2.size;obtain⟨yc,yf,yz⟩:=D9.facts;clear D9;by_cases hr:Y.fs.root st.dev=top
    ·have hrb:(Y.fs.root st.dev==top)=true:=by simpa using hr
     have GW:=Ux (uL.o _ yI.o.2.2 st.dev);have vq:=Ux (show rd=z7 u (data,0) top path (Y.bw u [⟨data,iw,ByteArray.empty⟩] 0) by rw[HE.o,Ox.o,if_pos ⟨by first|trivial|rfl,hr⟩]);rw[si] at vq;clear hr
     go_region_held3 (fun w'=>(∀b o,b<W4.heap.size→w'.cell? ⟨b,o,none⟩=W4.cell? ⟨b,o,none⟩)∧UA W4 w') (first|with_reducible assumption|with_reducible exact eH _|with_reducible exact dU _|with_reducible exact eb (by assumption) (by assumption)|with_reducible exact dF (by assumption) _|with_reducible exact du (by assumption) _|with_reducible exact cX (by assumption) (by assumption)|with_reducible exact eG (by assumption) (by assumption))
      ((first
       |(go_at_call 59;((with_reducible refine(uL.o _ (yI.o.2.2.trans ((And.right ‹(∀b o,b<W4.heap.size→_)∧UA W4 _›).mono yI.o.2.2.size)) st.dev).mono ?_);rintro e w5 ⟨rfl,rfl⟩))))
     all_goals
      have cK:=And.right ‹(∀b o,b<W4.heap.size→_)∧UA W4 _›;have nH:=Ux ((wY.o _ yI.o.2.2 yI.o.1 yI.o.2.1).an cK);have Nx:=Ux (nH.o.ready HK.o (by omega) ⟨data,iw,ByteArray.empty⟩ (by show iw.size≤_;decide));have Ql:=Ux (HK.o.aZ u ⟨data,iw,ByteArray.empty⟩);generalize Y.aZ u ⟨data,iw,ByteArray.empty⟩=r at Nx Ql vq;obtain⟨Z5,x,e5⟩:=r;unfold Cn.v iw at Nx;dsimp only at Nx Ql vq;obtain⟨uc,uf,uz⟩:=nH.o.us.facts;clear cK pc hpz yc yf yz;go_wp2_with fail;refine Nx.o.mono ?_;rintro e w6 ⟨rfl,wB,-⟩;obtain⟨hC,lP⟩:=Uz w6 #[UF x.path,UE UL x.dir,UE UL x.info,UE UL x.files,UE UL x.out,UE UL x.jC,UF x.top] 48;have lL:=Ux (wB.an lP);clear wB lP uc uf uz;go_upto_region 9 with fail;generalize w6.alloc _=W7 at hC lL⊢;obtain⟨R7,rN,jf⟩:=lL.o.g;have Qy:=Ux (vJ rN);obtain⟨cc,cf,cz⟩:=hC.facts;obtain⟨rc,rf,rz⟩:=lL.o.o.facts;clear hC rN jf;by_cases h5:e5=0
      ·have DI:=Ux (show rd=(Z5,x,0) by rw[vq.o,if_pos (.inl h5),h5];rfl);subst h5;go_wp2_with (exact bodyPost_ret (dZ (x:=x) (e:=0) lL.o.o.eS rfl rfl) rfl ⟨by rw[DI.o],by rw[DI.o];exact lL.o.g.eS lL.o.o (by omega) _ _ _ _ _ _ _⟩)
      ·have h5b:(e5==0)=false:=by simpa using h5
       obtain⟨dd,hdd⟩:∃d,Z5.dead=d:=⟨_,rfl⟩;rw[hdd] at Qy
       cases dd with
       |true=>
        have DI:=Ux (show rd=(Z5,x,e5) by rw[vq.o,if_pos (.inr hdd)];rfl);clear h5 hdd;go_wp2_with fail;refine Qy.o.mono ?_;rintro e w8 ⟨rfl,rfl⟩;go_wp2_with (exact bodyPost_ret (dZ (x:=x) (e:=e5) lL.o.o.eS rfl rfl) rfl ⟨by rw[DI.o],by rw[DI.o];exact lL.o.g.eS lL.o.o (by omega) _ _ _ _ _ _ _⟩)
       |false=>
        have DI:=Ux (show rd=yw u (data,0) (Z5.bw u (Z5.fs.cO false u top path) e5) by rw[vq.o,if_neg (by rintro(h|h);exact h5 h;rw[hdd] at h;cases h)];unfold z7;rw[if_neg (by simp[Sy.bw])];show yw _ _ (Z5.bw u (Z5.fs.cO Z5.dead u top path) e5)=_;rw[hdd]);have HZ5:=Ux hdd;clear h5 hdd;go_wp2_with fail;refine Qy.o.mono ?_;rintro e w8 ⟨rfl,rfl⟩;go_wp2_with fail;go_meet;exact⟨Z5,e5,DI.o,Ql.o,HZ5.o,lL.o⟩
    ·have hrb:(Y.fs.root st.dev==top)=false:=by simpa using hr
     have vq:=Ux (show H0=[] by rw[Ox.o,if_neg (fun h=>hr h.2)]);clear hr
     go_region_held3 (fun w'=>(∀b o,b<W4.heap.size→w'.cell? ⟨b,o,none⟩=W4.cell? ⟨b,o,none⟩)∧UA W4 w') (first|with_reducible assumption|with_reducible exact eH _|with_reducible exact dU _|with_reducible exact eb (by assumption) (by assumption)|with_reducible exact dF (by assumption) _|with_reducible exact du (by assumption) _|with_reducible exact cX (by assumption) (by assumption)|with_reducible exact eG (by assumption) (by assumption))
      ((first
       |(go_at_call 59;((with_reducible refine(uL.o _ (yI.o.2.2.trans ((And.right ‹(∀b o,b<W4.heap.size→_)∧UA W4 _›).mono yI.o.2.2.size)) st.dev).mono ?_);rintro e w5 ⟨rfl,rfl⟩))))
     all_goals
      have cK:=And.right ‹(∀b o,b<W4.heap.size→_)∧UA W4 _›;have oC:=Ux cK;clear cK pc hpz yc yf yz;go_wp2_with fail;go_meet;exact⟨Y,0,by rw[HE.o,vq.o];unfold z7;rw[if_neg (by simp[Sy.bw])];show yw _ _ (Y.bw u (Y.fs.cO Y.dead u top path) 0)=_;rw[HD.o],HK.o.mono (by omega),HD.o,(wY.o _ yI.o.2.2 yI.o.1 yI.o.2.1).an oC.o⟩
   ·have hhb:(home==0)=false:=by simpa using hh
    have vq:=Ux (show H0=[] by rw[Ox.o,if_neg (fun h=>hh h.1)]);clear hh;go_wp2_with fail;go_meet;exact⟨Y,0,by rw[HE.o,vq.o];unfold z7;rw[if_neg (by simp[Sy.bw])];show yw _ _ (Y.bw u (Y.fs.cO Y.dead u top path) 0)=_;rw[HD.o],HK.o.mono (by omega),HD.o,wY.o _ BC.o.2.2 BC.o.1 BC.o.2.1⟩
  case rest=>
   obtain⟨Z,e0,hrd,hok,hzd,hI⟩:=hcut;generalize wc=w3 at hI⊢;have Nx:=Ux hrd;have HI:=Ux hI;obtain⟨R3,pI,iN⟩:=hI.g;have ks:=Ux (A7 pI hok.bK.ok (by omega) hzd u Jr Jq top path);have hps:=lh Z.fs false u top path;have vn:=Ux (Ai (S:=Z.fs) (d:=false) (u:=u) (top:=top) (path:=path) Jr Jq);generalize Z.fs.cO false u top path=ps at ks hps vn Nx;have hsz:w.heap.size≤w3.heap.size:=iN.mod.size;obtain⟨uc,uf,uz⟩:=hI.us.facts;have gQ:=Ux hok;have HZd:=Ux hzd;clear hrd hI pI iN hok hzd;go_wp2_with fail;refine ks.o.mono ?_;rintro e w4 ⟨v,rfl,hP4,dM⟩;obtain⟨qa,qc,rfl,CM,uV,-⟩:=bQ hP4;obtain⟨qb,qo,rfl,-,-⟩:=mG xF hP4.at 0 (by omega);have HP4:=Ux (show vg 143 w4 w.heap.size (.slice (some ⟨qb,qo,none⟩) ps.length qc) ps from xG hP4 hsz);have HI4:=Ux (HI.o.an dM);clear hP4 dM uc uf uz;go_wp2_with fail
   go_loopw [10,77] (fun t10 t77 wr=>∃(k:Nat) (Zk:Sy) (ek:Int),k≤ps.length∧t10=UE UL ek∧t77=UE UL k∧Z.bw u ps e0=Zk.bw u (ps.drop k) ek∧eJ Zk (N+5+5*k)∧Zk.dead=false∧H' w pf pw R pv u Zk wr∧vg 143 wr w.heap.size (.slice (some ⟨qb,qo,none⟩) ps.length qc) ps) (fun _ t77 _=>ps.length-(intOf t77).toNat)
   case atStart=>exact⟨0,Z,0,by omega,rfl,rfl,by cases ps with|nil=>simp at hps|cons p l=>rfl,gQ.o,HZd.o,HI4.o,HP4.o⟩
   case round=>
    obtain⟨k,Zk,ek,hk,rfl,rfl,htr,hok,hzd,hI,hP⟩:=hrel;have HIr:=Ux hI;have HPr:=Ux hP;by_cases hlt:k<ps.length
    ·obtain⟨b,off,he,hbl,hc⟩:=mG xF hP.at k hlt;injection he with he;injection he with D6 lx;subst D6 lx;have c0:wr.cell? ⟨qb,qo+k*3,none⟩=some (UE UL ps[k].dir):=hc 0 (by decide);have c1:wr.cell? ⟨qb,qo+k*3+1,none⟩=some (UF ps[k].name):=hc 1 (by decide);have c2:wr.cell? ⟨qb,qo+k*3+2,none⟩=some (UF ps[k].top):=hc 2 (by decide);have hnm:=vn.o ps[k] (List.getElem_mem hlt);have K3:=Ux (show Z.bw u ps e0=if(Zk.aZ u ps[k]).2.2=0∨(Zk.aZ u ps[k]).1.dead=true then((Zk.aZ u ps[k]).1,true,(Zk.aZ u ps[k]).2.1,(Zk.aZ u ps[k]).2.2) else(Zk.aZ u ps[k]).1.bw u (ps.drop (k+1)) (Zk.aZ u ps[k]).2.2 by rw[htr,List.drop_eq_getElem_cons hlt,si]);generalize ps[k]=p at c0 c1 c2 hnm K3;have hbp:=ao (UB wr) (.cells #[UE UL p.dir,UF p.name,UF p.top] 143);have hBp:=ax.new wr #[UE UL p.dir,UF p.name,UF p.top] 143;have nH:=Ux (hI.an hbp);have zg:=Ux (hP.an hbp);have K6:=Ux (nH.o.ready hok (by omega) p hnm);have Ql:=Ux (hok.aZ u p);generalize Zk.aZ u p=r at K6 Ql K3;obtain⟨Z5,x,e5⟩:=r;unfold Cn.v at K6;dsimp only at K6 Ql K3;obtain⟨uc,uf,uz⟩:=hI.us.facts;clear hc hI hP hok htr hnm hzd;go_upto_region 14 with fail;generalize wr.alloc _=W5 at hbp hBp nH zg K6⊢;obtain⟨bc,bf,bz⟩:=hBp.facts;clear uc uf uz c0 c1 c2;obtain⟨uc,uf,uz⟩:=nH.o.us.facts;clear hbp hBp;go_wp2_with fail;refine K6.o.mono ?_;rintro e w6 ⟨rfl,wB,N5⟩;obtain⟨hC,lP⟩:=Uz w6 #[UF x.path,UE UL x.dir,UE UL x.info,UE UL x.files,UE UL x.out,UE UL x.jC,UF x.top] 48;have lL:=Ux (wB.an lP);have Re:=Ux ((N5 _ _ zg.o).an lP);clear wB N5 lP uc uf uz bc bf bz;go_upto_region 15 with fail;generalize w6.alloc _=W7 at hC lL Re⊢;obtain⟨R7,rN,jf⟩:=lL.o.g;have Qy:=Ux (vJ rN);obtain⟨cc,cf,cz⟩:=hC.facts;obtain⟨rc,rf,rz⟩:=lL.o.o.facts;clear hC rN jf;by_cases h5:e5=0
     ·have DI:=Ux (show rd=(Z5,x,0) by rw[Nx.o,K3.o,if_pos (.inl h5),h5];rfl);subst h5;go_wp2_with (exact bodyPost_ret (dZ (x:=x) (e:=0) lL.o.o.eS rfl rfl) rfl ⟨by rw[DI.o],by rw[DI.o];exact lL.o.g.eS lL.o.o (by omega) _ _ _ _ _ _ _⟩)
     ·have h5b:(e5==0)=false:=by simpa using h5
      obtain⟨dd,hdd⟩:∃d,Z5.dead=d:=⟨_,rfl⟩;rw[hdd] at Qy
      cases dd with
      |true=>
       have DI:=Ux (show rd=(Z5,x,e5) by rw[Nx.o,K3.o,if_pos (.inr hdd)];rfl);clear h5 hdd;go_wp2_with fail;refine Qy.o.mono ?_;rintro e w8 ⟨rfl,rfl⟩;go_wp2_with (exact bodyPost_ret (dZ (x:=x) (e:=e5) lL.o.o.eS rfl rfl) rfl ⟨by rw[DI.o],by rw[DI.o];exact lL.o.g.eS lL.o.o (by omega) _ _ _ _ _ _ _⟩)
      |false=>
       have T4:=Ux (K3.o.trans (if_neg (by rintro(h|h);exact h5 h;rw[hdd] at h;cases h)));have HZ5:=Ux hdd;clear h5 hdd cc cf cz rc rf rz;go_wp2_with fail;refine Qy.o.mono ?_;rintro e w8 ⟨rfl,rfl⟩;go_wp2_with fail;go_roundw
       case measure=>simp[intOf];omega
       case rel=>exact⟨k+1,Z5,e5,by omega,rfl,by go_num,T4.o,Ql.o,HZ5.o,lL.o,Re.o⟩
    ·obtain rfl:k=ps.length:=by omega
     have OF:=Ux (show rd=yw u (data,home) (Zk,false,kr,ek) by rw[Nx.o,htr,List.drop_length];rfl);have HK6:=Ux hok;clear htr hok hP hzd;by_cases hh:home=0
     ·have hhb:(home != 0)=false:=by simpa using hh
      have Ru:=Ux (show rd=Zk.aZ u ⟨data,iw,ByteArray.empty⟩ by rw[OF.o];unfold yw;rw[if_neg (by simp),if_neg (by simpa using hh)]);have K6:=Ux (HIr.o.ready HK6.o (by omega) ⟨data,iw,ByteArray.empty⟩ (by show iw.size≤_;decide));generalize Zk.aZ u ⟨data,iw,ByteArray.empty⟩=r at K6 Ru;obtain⟨Z5,x,e5⟩:=r;unfold Cn.v iw at K6;dsimp only at K6;obtain⟨uc,uf,uz⟩:=hI.us.facts;clear hI hh;go_wp2_with fail;refine K6.o.mono ?_;rintro e w6 ⟨rfl,wB,-⟩;have lL:=Ux wB;obtain⟨rc,rf,rz⟩:=wB.o.facts;clear wB uc uf uz;go_wp2_with (exact bodyPost_ret (dZ (x:=x) (e:=e5) lL.o.o.eS rfl rfl) rfl ⟨by rw[Ru.o],by rw[Ru.o];exact lL.o.g.eS lL.o.o (by omega) _ _ _ _ _ _ _⟩)
     ·have hhb:(home != 0)=true:=by simpa using hh
      have Ru:=Ux (show rd=(Zk,kr,ek) by rw[OF.o];unfold yw;rw[if_neg (by simp),if_pos hh]);obtain⟨rc,rf,rz⟩:=hI.o.facts;clear hI hh;go_wp2_with (exact bodyPost_ret (dZ (x:=kr) (e:=ek) HIr.o.o.eS rfl rfl) rfl ⟨by rw[Ru.o],by rw[Ru.o];exact HIr.o.g.eS HIr.o.o (by omega) _ _ _ _ _ _ _⟩)
 ·have MU:(e1 != 0)=true:=by simpa using h1
  have HE:=Ux (HR.o.trans (if_pos h1));clear h1;obtain⟨rc,rf,rz⟩:=DD.o.2.1.facts;go_wp2_with (exact bodyPost_ret (dZ (x:=kr) (e:=e1) DD.o.2.1.eS rfl rfl) rfl ⟨by rw[HE.o],by rw[HE.o];exact(wY.o _ DD.o.2.2 DD.o.1 DD.o.2.1).g.eS DD.o.2.1 (by omega) _ _ _ _ _ _ _⟩)
end
end
section
open Go.RowKit Go.Shelf
attribute [local go_sem] Oper.semAt_some
theorem vP{w W:World}{tmps:Array Value}{v:Value}{o:Int}{l:List En}{ds:List Deferred}(h6:tmps.getD 6 undef=v)(h7:tmps.getD 7 undef=UE UL o)(hco:KK w.heap.size W ds)(ho:OE W w.heap.size v l)(hb:UA w W) :
  bodyPostM Fence.wide 5 Tryz.prog Tryz.f64 (fun e w'=>∃v,e=.returned (UK #[v,UE UL o])∧OE w' w.heap.size v l∧UA w w') .ret {tmps,defers:=ds} W:=by
 obtain⟨Ds,rfl,h2,h3⟩:=hco;rw[Array.getD_eq_getD_getElem?] at h6 h7;show LeavesInM Fence.wide 5 Tryz.prog Tryz.f64 _ _ _ _ W;refine uj (v:=UK #[v,UE UL o]) (fun W=>?_) Ds W h2 (fun D hD=>(h3 D hD).2) (fun W' hm=>⟨v,rfl,bY ho hm (fun k hk he=>?_),hb.trans (hm.below (fun k hk=>(h3 k hk).1) hb.size)⟩)
 ·simp[results,Tryz.results64,go_sem,h6,h7]
 ·obtain⟨-,cur,hc⟩:=aH ho he;have:=(h3 k hk).2;rw[hc] at this
  cases this
theorem OE.RW(w:World)(n:Nat)(hn:n≤999999):∃M,(Instr.makeSlice 94 (UE UL 0) (UE UL n)).run Tryz.prog w=.ok (.slice (some ⟨w.heap.size,0,none⟩) 0 n) (w.alloc (.cells M 98))∧OE (w.alloc (.cells M 98)) w.heap.size (.slice (some ⟨w.heap.size,0,none⟩) 0 n) []:=by
 obtain⟨i0,hi,kp,fj,fo⟩:=info_parts gY;have hb:i0.bytes*n≤24*999999:=by rw[fo];exact Nat.mul_le_mul (aa _) hn
 have hr:=run_make (P:=Tryz.prog) w 94 98 i0 _ Tryz.underlying94 hi kp .i64 .i64 0 n (Int.le_refl _) (by omega) (by
  have h:((i0.bytes*n:Nat):Int)≤281474976710656:=by omega
  rwa [Int.natCast_mul] at h) (by omega)
 simp only[Int.toNat_zero,Int.toNat_natCast] at hr;refine⟨_,hr,?_⟩;rw[fj];exact World.ownsRow_made w _ n (aa _) (by unfold maxLen;omega) (size_madeCells _ _)
structure LI(w:World)(B0 Bo Bc pw:Nat)(vc:Value)(S:Fs)(pre:List En)(W:World):Prop where
 o:∃g cap,ax W Bo #[.slice (some ⟨g,0,none⟩) pre.length cap] 94∧OE W B0 (.slice (some ⟨g,0,none⟩) pre.length cap) (pre.map S.seen)
 p:ax W w.heap.size #[UH (some ⟨pw,0,none⟩)] 40
 b:UA w W
 n:B0≤W.heap.size
 c:ax W Bc #[vc] 94
theorem LI.gw{w A C:World}{B0 Bo Bc pw N:Nat}{vc:Value}{S:Fs}{pre:List En}(h:LI w B0 Bo Bc pw vc S pre A)(ht:eL qB N fG A C)(hN:w.heap.size≤N):LI w B0 Bo Bc pw vc S pre C:=by
 obtain⟨g,cap,h1,h2⟩:=h.o;refine⟨⟨g,cap,qt h1 ht,?_⟩,qt h.p ht,Bl h.b ht hN (aa _),ae h.n ht.size,qt h.c ht⟩;exact sU h2 (fun k hk=>by
  obtain⟨-,cur,hc⟩:=aH h2 hk;rw[hc];exact ht.block k _ hc (fun h=>h) (fun _=>rfl))
theorem LI.push{w W V:World}{B0 Bo Bc pw:Nat}{vc:Value}{S:Fs}{pre:List En}(h:LI w B0 Bo Bc pw vc S pre W)(e:En){g cap:Nat}(hg:ax W Bo #[.slice (some ⟨g,0,none⟩) pre.length cap] 94)(hb:UA W V)(hl:pre.length≤999999)(hw0:w.heap.size<B0)(yj:B0<Bo)(hBc:Bo<Bc){ea:Option Addr}(hea:∀k off,ea=some ⟨k,off,none⟩→k<B0)(N:Nat) :
  ∃g9 cap9 W9,ax V Bo #[.slice (some ⟨g,0,none⟩) pre.length cap] 94∧(Builtin.append_ #[94,94] 94 #[.slice (some ⟨g,0,none⟩) pre.length cap,.slice (some ⟨V.heap.size,0,none⟩) 1 1]).run Tryz.prog (V.alloc (.cells #[UF e.name,UE UL (S.aB e.no)] 98))=.ok (.slice (some ⟨g9,0,none⟩) (pre.length+1) cap9) W9∧
   ax W9 Bo #[.slice (some ⟨g,0,none⟩) pre.length cap] 94∧ax W9 w.heap.size #[UH (some ⟨pw,0,none⟩)] 40∧ax (W9.setCell ⟨Bo,0,none⟩ (.slice (some ⟨g9,0,none⟩) (pre.length+1) cap9)) w.heap.size #[UH (some ⟨pw,0,none⟩)] 40∧
   KeepsFrom N W (W9.setCell ⟨Bo,0,none⟩ (.slice (some ⟨g9,0,none⟩) (pre.length+1) cap9))∧KT (fun k=>k=Bc∨∃off,ea=some ⟨k,off,none⟩) W (W9.setCell ⟨Bo,0,none⟩ (.slice (some ⟨g9,0,none⟩) (pre.length+1) cap9))∧
   LI w B0 Bo Bc pw vc S (pre++[e]) (W9.setCell ⟨Bo,0,none⟩ (.slice (some ⟨g9,0,none⟩) (pre.length+1) cap9)):=by
 obtain⟨g',cap',h1,h2⟩:=h.o;obtain⟨rfl,rfl⟩:g'=g∧cap'=cap:=by
  unfold ax at h1 hg;rw[h1] at hg;injection hg with hg;injection hg with e1;simpa using e1
 clear hg;have hlm:(pre.map S.seen).length=pre.length:=List.length_map _;have PX:=OE.an (es:=pre.map S.seen) h2 hb;obtain⟨g9,cap9,W9,hr,ho9,Sv,rk⟩:=OE.app2 PX (S.seen e) (by rw[hlm];omega) (ae h.n hb.size);rw[hlm] at hr ho9;have Gg:=h1.an hb;have hPV:=h.p.an hb;have hCV:=h.c.an hb;have yi:=xH PX (by decide) Gg Sv;have MA:=xH PX (by decide) hPV Sv;have hC9:=xH PX (by decide) hCV Sv;have ij:W.heap.size≤V.heap.size:=hb.size;have Ma:Mod (fun k=>k=Bo) W9 (W9.setCell ⟨Bo,0,none⟩ (.slice (some ⟨g9,0,none⟩) (pre.length+1) cap9)):=(Mod.refl (fun k=>k=Bo) W9).setCell (a:=⟨Bo,0,none⟩) (.inl rfl) _;have hM:Mod (fun k=>(Value.slice (some ⟨g',0,none⟩) pre.length cap').ownBlock=some k∨k=Bo) W (W9.setCell ⟨Bo,0,none⟩ (.slice (some ⟨g9,0,none⟩) (pre.length+1) cap9)):=
  ((Mod.aq hb).trans (Sv.mono (fun k hk=>.inl hk))).trans (Ma.mono (fun k hk=>.inr hk))
 have hkind:∀k,((Value.slice (some ⟨g',0,none⟩) pre.length cap').ownBlock=some k∨k=Bo)→∃cur T fz,W.heap[k]?=some (.cells cur T fz):=fun k hk=>by
  rcases hk with hk|rfl
  ·obtain⟨-,cur,hc⟩:=aH h2 hk;exact⟨_,_,_,hc⟩
  ·exact⟨_,_,_,h1⟩
 have hlow:∀k,((Value.slice (some ⟨g',0,none⟩) pre.length cap').ownBlock=some k∨k=Bo)→B0≤k:=fun k hk=>by
  rcases hk with hk|rfl
  ·exact(aH h2 hk).1
  ·omega
 refine⟨g9,cap9,W9,Gg,hr,yi,MA,MA.mod Ma (by omega),(tE hM hkind).from N,KT.dH hM (fun k hk=>?_) (fun k hk hS=>?_),⟨⟨g9,cap9,?_,?_⟩,MA.mod Ma (by omega),h.b.trans (hM.below (fun k hk=>by have:=hlow k hk;omega) h.b.size),ae h.n hM.size,hC9.mod Ma (by omega)⟩⟩
 ·rcases hk with rfl|⟨off,hk⟩
  ·exact h.c.lt
  ·have:=hea k off hk;have:=h.n;omega
 ·rcases hk with rfl|⟨off,hk⟩
  ·rcases hS with hS|hS
   ·obtain⟨-,cur,hc⟩:=aH h2 hS;have h5:=h.c;unfold ax at h5;rw[hc] at h5;injection h5 with h5;injection h5 with e1 e2 e3;revert e2;decide
   ·omega
  ·have:=hea k off hk;have:=hlow k hS;omega
 ·rw[List.length_append,List.length_singleton];exact yi.set 0 _
 ·rw[List.length_append,List.length_singleton,List.map_append];exact LU ho9 (by decide) yi Ma
section
variable{w w':World}{pw:Nat}{R:Rp}{S:Fs}
theorem Fx(h:bB w pw R S){N:Nat}(hk:ay S N)(hN:N≤999999)(c:Cr)(no:Int) :
  Calls Tryz.prog 64 #[UH (some ⟨pw,0,none⟩),UJ #[UE UL c.u,UE UL c.g],UE UL no] w fun e w'=>∃v,e=.returned (UK #[v,UE UL (S.cE false c no).2])∧OE w' w.heap.size v (S.cE false c no).1∧UA w w':=by
 obtain⟨hP,hC,aY⟩:=iJ w #[UH (some ⟨pw,0,none⟩)] #[UE UL c.u,UE UL c.g] 40 64;have HO:=Ux (show Calls Tryz.prog 65 #[UH (some ⟨pw,0,none⟩),UJ #[UE UL c.u,UE UL c.g],UE UL no,UE UL 1,UE UL 4] ((w.alloc (.cells #[UH (some ⟨pw,0,none⟩)] 40)).alloc (.cells #[UE UL c.u,UE UL c.g] 64)) fun e w'=>∃(d:An) (ea:Option Addr) (el ec:Nat) (oe:Int) (L:List En),e=.returned (UK #[d.v ea el ec,UE UL oe])∧aA w' ea el ec d.au∧S.cE false c no=(L,oe)∧(oe=0→d.au.map S.seen=L)∧(oe≠0→L=[])∧d.au.length≤999999∧Below ((w.alloc (.cells #[UH (some ⟨pw,0,none⟩)] 40)).alloc (.cells #[UE UL c.u,UE UL c.g] 64)).heap.size ((w.alloc (.cells #[UH (some ⟨pw,0,none⟩)] 40)).alloc (.cells #[UE UL c.u,UE UL c.g] 64)) w' from
  (sX (h.an aY) hk c no 1 4).mono (by
   rintro e w1 ⟨⟨h0,rfl⟩|⟨h0,d,ea,el,ec,hg,rfl,he⟩,av⟩
   ·refine⟨dD,none,0,0,S.cV c no 1 4,[],rfl,aA.nil _,?_,fun h=>absurd h h0,fun _=>rfl,by decide,av⟩;rw[tw,if_pos h0]
   ·refine⟨d,ea,el,ec,0,d.au.map S.seen,rfl,he.an av,?_,fun _=>rfl,fun h=>absurd rfl h,ae (hk.get hg).1.lR hN,av⟩;rw[tw,if_neg (by simpa using h0)];unfold Fs.aI;rw[hg]))
 have pL:=Ux (fun w1 (av:UA w w1) k=>jB (h.an av) hk.d1 k);have HP:=Ux (ag hP hC);have HB:=Ux aY;generalize S.cE false c no=rd at HO⊢;obtain⟨pc,pf',pz⟩:=hP.facts;obtain⟨cc,cf,cz⟩:=hC.facts;clear h hk hP hC aY;refine(callsIn_wide (n:=5)).1 ?_;refine callsIn_of_wp_marks Tryz.func64 rfl trivial ?_ rfl;simp only[Tryz.ntmps64,List.size_toArray,List.length_cons,List.length_nil,Nat.reduceAdd,Nat.reduceSub,Array.replicate_succ,Array.replicate_zero,List.push_toArray,List.append_toArray,List.nil_append,List.cons_append];refine wpIn_wide.2 ?_;go_upto_region 1 with fail;generalize World.alloc _ _=w0 at HO HP HB pc pf' pz cc cf cz⊢;go_wp2_with fail;refine HO.o.mono ?_;rintro e w1 ⟨d,ea,el,ec,oe,L,rfl,he,rfl,MD,ME,hln,av⟩;obtain⟨hX,aJ⟩:=Uz w1 #[UE UL d.no,UE UL d.dev,UE UL d.kind,UE UL d.mode,UE UL d.uid,UE UL d.gid,UE UL d.mtime,UE UL d.ctime,UE UL d.ak,UE UL d.up,UF d.data,UG ea el ec] 149;have hE:=he.an aJ;have hB:=ar (ar HB.o av) aJ;have MB:=(HP.o.1.an av).an aJ;have hel:=he.len;subst hel;have zd:=he.sl.2.1;have h64:=he.sl.2.2.1;unfold An.v;clear av he pc pf' pz cc cf cz;go_upto_region 2 with fail;generalize w1.alloc _=X at hX aJ hE hB MB⊢;generalize w1.heap.size=Bd at hX;have HX:=Ux hX;have HE:=Ux hE;have dX:=Ux hB;have Ho:=Ux MB;obtain⟨xc,xf,xz⟩:=hX.facts;clear hX aJ hE hB MB;by_cases h0:oe=0
 ·have HL:=Ux (MD h0);subst h0;clear MD ME;have hmk:¬(d.au.length:Int)<0:=by omega
  obtain⟨M,hmr,hmO⟩:=OE.RW X d.au.length hln;go_upto_region 5 with fail;have MR:=ax.new (X.alloc (.cells M 98)) #[.slice (some ⟨X.heap.size,0,none⟩) 0 d.au.length] 94;have hbM:=ao (UB X) (.cells M 98);have cK:=ao hbM (.cells #[.slice (some ⟨X.heap.size,0,none⟩) 0 d.au.length] 94);have C5:=hmO.an (ao (Below.refl _ _) (.cells #[.slice (some ⟨X.heap.size,0,none⟩) 0 d.au.length] 94));rw[World.size_alloc] at MR;have KW:=HX.o.an cK;generalize World.alloc _ _=w5 at MR cK C5 KW⊢;have H5:=Ux (ag MR (ag C5 cK));clear xc xf xz hmr hmO hbM MR C5;obtain⟨xc,xf,xz⟩:=KW.facts;clear KW cK;go_wp2_with fail;refine(A1 ea d.au.length ec w5).mono ?_;rintro e w6 ⟨rfl,NV⟩;have hsz6:w5.heap.size<w6.heap.size:=by rw[NV,World.size_alloc];omega
  have fp:UA w5 w6:=by rw[NV];exact ao (Below.refl _ _) _
  have hA6:ax w6 w5.heap.size #[UG ea d.au.length ec] 94:=by rw[NV];exact ax.new w5 _ _
  have Oc:aA w6 ea d.au.length ec d.au:=(HE.o.an H5.o.2.2).an fp;have hX0:w.heap.size<X.heap.size:=by
   have:=Ho.o.lt;omega
  have hBo6:X.heap.size+1<w5.heap.size:=H5.o.1.lt;have hea:∀k off,ea=some ⟨k,off,none⟩→k<X.heap.size:=fun k off h=>by
   obtain⟨b',off',cur,e1,e2⟩:=HE.o.bD _ h;injection e1 with e1 e3;subst e1;exact(Array.getElem?_eq_some_iff.1 e2).1
  have HEa:=Ux hea;have HLI:=Ux (show LI w X.heap.size (X.heap.size+1) w5.heap.size pw (UG ea d.au.length ec) S [] w6 from⟨⟨X.heap.size,d.au.length,H5.o.1.an fp,H5.o.2.1.an fp⟩,(Ho.o.an H5.o.2.2).an fp,dX.o.trans ((H5.o.2.2.mono dX.o.size).trans (fp.mono (ae dX.o.size H5.o.2.2.size))),ae H5.o.2.2.size fp.size,hA6⟩);have H6:=Ux (ag hA6 (ag Oc fp));clear NV xc xf xz fp hA6 Oc hea;go_wp2_with fail;refine(wpIn_wide (n:=5)).1 ?_;refine' zp (T:=fun k=>k=w5.heap.size∨∃off,ea=some ⟨k,off,none⟩) rfl (by omega) (gf:=145) (lb:=#[UH (some ⟨w5.heap.size,0,none⟩)]) rfl trivial (enters_of Tryz.func145 (by kernel_rfl) rfl)
   (u9 (5-1) (by omega) w5.heap.size w6 H6.o.1 H6.o.2.1) ?hT (KT.refl _ _) (fun _=>rfl)
   (fun pre W=>LI w X.heap.size (X.heap.size+1) w5.heap.size pw (UG ea d.au.length ec) S pre W)
   (fun _ _ _=>False)
   (fun pre A B h ht=>h.gw ht (ae dX.o.size (ae H5.o.2.2.size H6.o.2.2.size))) (fun c pre A B h ht=>h) HLI.o _ ?assign ?body ?done (fun D c pre W _ _ h _=>h.elim)
  case hT=>
   rintro k (rfl|⟨off,hoff⟩)
   ·omega
   ·have:=HEa.o k off hoff;omega
  case assign=>
   intro L e W K hK;gi_wp2;exact hK
  case body=>
   intro L pre e W hL hLW hI hv;have hpl:pre.length≤999999:=by
    obtain⟨t,ht⟩:=hv;have h1:=congrArg List.length ht;simp at h1;omega
   have hbd:UA W W.drew:=(Below.refl _ _).drew;have Ua:=Ux (pL.o W.drew (hI.b.drew) e.no);obtain⟨g,cap,Da,-⟩:=hI.o;have Kx:=Ux (fun(V:World) (hb:UA W V)=>hI.push e (g:=g) (cap:=cap) Da hb hpl hX0 (by omega) hBo6 HEa.o w6.heap.size);have hPd:=hI.p.an hbd;have hBod:=Da.an hbd;have HBod:=Ux hBod;obtain⟨bc,bf,bz⟩:=Da.facts;obtain⟨pc,pf',pz⟩:=hI.p.facts;clear hv hpl hI Da;gi_wp2;clear bc bf bz pc pf' pz;refine kV (S:=fun w'=>ax w' w.heap.size #[UH (some ⟨pw,0,none⟩)] 40) (by kernel_rfl) (by kernel_rfl) (fun h=>by obtain⟨_,_,h⟩:=h;exact h) hPd (fun bj=>?_);refine aL 3 [(1,33),(2,34),(3,35)] (by kernel_rfl) (by kernel_rfl) rfl (fun _ _ _ _ _ h=>h) bj ?_
   iterate 3 (apply aF rfl rfl;(· (intro w9 cL;obtain⟨pc,-,-⟩:=cL.facts;clear cL;go_simp;(try with_reducible rfl)));simp only[ah,ai,aj])
   refine aK ?_;obtain⟨bc,-,bz⟩:=HBod.o.facts;refine nA 0 32 4 36 (vi:=.slice (some ⟨g,0,none⟩) pre.length cap) (Wi:=W.drew) (R:=fun v w'=>v=UE UL (S.aB e.no)∧Below W.drew.heap.size W.drew w') (by kernel_rfl) rfl rfl rfl rfl rfl rfl ?ra bj ?rb (Ua.o.mono (fun e w' ⟨he,hb⟩=>⟨_,he,rfl,hb⟩)) (fun v w' ⟨_,hb⟩=>bj.an hb) ?_ ?_
   case ra=>(go_simp;(try rfl))
   case rb=>(go_simp;(try rfl))
   ·simp only[ah,ai,aj];clear bc bz;refine bN 4 36 (R:=fun v w'=>v=UE UL (S.aB e.no)∧Below W.drew.heap.size W.drew w') (by kernel_rfl) rfl rfl rfl ?xa (Ua.o.mono (fun e w' ⟨he,hb⟩=>⟨_,he,rfl,hb⟩)) (fun v w' ⟨_,hb⟩=>bj.an hb) ?_
    case xa=>(go_simp;(try rfl))
    rintro _ w4 ⟨rfl,dM⟩;simp only[ah,ai,aj];have pJ:=bj.an dM;obtain⟨g9,cap9,W9,Gg,hr,yi,MA,Tb,hkf,hkt,Tg⟩:=Kx.o w4 (ar hbd dM);have GZ:=Ux (ag hr (ag MA (ag Tb (ag hkf (ag hkt Tg)))));have jb:=ao (UB w4) (.cells #[UF e.name,UE UL (S.aB e.no)] 98);obtain⟨sc,sf,sz⟩:=yi.facts;clear hr yi MA Tb hkf hkt Tg;refine aL 1 [(5,37)] (by kernel_rfl) (by kernel_rfl) rfl (fun _ _ _ _ _ h=>h) pJ ?_
    iterate 1 (apply aF rfl rfl;(· (intro w9 cL;clear cL;go_simp;(try with_reducible rfl)));simp only[ah,ai,aj])
    refine aK ?_;refine eY 6 38 (v:=.slice (some ⟨w4.heap.size,0,none⟩) 1 1) (W:=w4.alloc (.cells #[UF e.name,UE UL (S.aB e.no)] 98)) (by kernel_rfl) rfl rfl rfl ?qa (pJ.an jb) ?_
    case qa=>(go_simp;(try rfl))
    simp only[ah,ai,aj];refine xx 7 39 (by kernel_rfl) rfl rfl rfl rfl rfl rfl GZ.o.1 GZ.o.2.1 ?_;simp only[ah,ai,aj];refine dO 8 (W:=W9.setCell ⟨X.heap.size+1,0,none⟩ (.slice (some ⟨g9,0,none⟩) (pre.length+1) cap9)) (by kernel_rfl) rfl rfl rfl ?sa GZ.o.2.2.1 ?_
    case sa=>(go_simp;(try rfl))
    refine wpAnyH_done (by kernel_rfl) ?_ _;exact GZ.o.2.2.2
   ·rintro _ w4 ⟨rfl,dM⟩;simp only[ah,ai,aj];clear bc bz;have pJ:=bj.an dM;obtain⟨g9,cap9,W9,Gg,hr,yi,MA,Tb,hkf,hkt,Tg⟩:=Kx.o w4 (ar hbd dM);have GZ:=Ux (ag hr (ag MA (ag Tb (ag hkf (ag hkt Tg)))));have jb:=ao (UB w4) (.cells #[UF e.name,UE UL (S.aB e.no)] 98);obtain⟨sc,sf,sz⟩:=yi.facts;clear hr yi MA Tb hkf hkt Tg;refine aL 1 [(5,37)] (by kernel_rfl) (by kernel_rfl) rfl (fun _ _ _ _ _ h=>h) pJ ?_
    iterate 1 (apply aF rfl rfl;(· (intro w9 cL;clear cL;go_simp;(try with_reducible rfl)));simp only[ah,ai,aj])
    refine aK ?_;obtain⟨vc,-,vz⟩:=Gg.facts;obtain⟨ac,-,az⟩:=(Gg.an jb).facts;refine LK 0 32 6 38 (v:=.slice (some ⟨g,0,none⟩) pre.length cap) (vj:=.slice (some ⟨w4.heap.size,0,none⟩) 1 1) (Wi:=w4) (W:=w4.alloc (.cells #[UF e.name,UE UL (S.aB e.no)] 98)) (by kernel_rfl) rfl rfl rfl rfl rfl rfl ?ta ?tb pJ (pJ.an jb) ?_ ?_
    case ta=>(go_simp;(try rfl))
    case tb=>(go_simp;(try rfl))
    ·simp only[ah,ai,aj];refine eY 6 38 (v:=.slice (some ⟨w4.heap.size,0,none⟩) 1 1) (W:=w4.alloc (.cells #[UF e.name,UE UL (S.aB e.no)] 98)) (by kernel_rfl) rfl rfl rfl ?qb (pJ.an jb) ?_
     case qb=>(go_simp;(try rfl))
     simp only[ah,ai,aj];refine xx 7 39 (by kernel_rfl) rfl rfl rfl rfl rfl rfl GZ.o.1 GZ.o.2.1 ?_;simp only[ah,ai,aj];refine dO 8 (W:=W9.setCell ⟨X.heap.size+1,0,none⟩ (.slice (some ⟨g9,0,none⟩) (pre.length+1) cap9)) (by kernel_rfl) rfl rfl rfl ?sb GZ.o.2.2.1 ?_
     case sb=>(go_simp;(try rfl))
     refine wpAnyH_done (by kernel_rfl) ?_ _;exact GZ.o.2.2.2
    ·simp only[ah,ai,aj];refine eY 0 32 (v:=.slice (some ⟨g,0,none⟩) pre.length cap) (W:=w4.alloc (.cells #[UF e.name,UE UL (S.aB e.no)] 98)) (by kernel_rfl) rfl rfl rfl ?qd (pJ.an jb) ?_
     case qd=>(go_simp;(try rfl))
     simp only[ah,ai,aj];refine xx 7 39 (by kernel_rfl) rfl rfl rfl rfl rfl rfl GZ.o.1 GZ.o.2.1 ?_;simp only[ah,ai,aj];refine dO 8 (W:=W9.setCell ⟨X.heap.size+1,0,none⟩ (.slice (some ⟨g9,0,none⟩) (pre.length+1) cap9)) (by kernel_rfl) rfl rfl rfl ?sd GZ.o.2.2.1 ?_
     case sd=>(go_simp;(try rfl))
     refine wpAnyH_done (by kernel_rfl) ?_ _;exact GZ.o.2.2.2
  case done=>
   intro D xs W hD hxs hI hK;subst hxs;obtain⟨g,cap,Da,JM⟩:=hI.o;obtain⟨bc,bf,bz⟩:=Da.facts;have hsD:w.heap.size≤D:=ae dX.o.size (ae H5.o.2.2.size (ae H6.o.2.2.size hD));have HD:=Ux (show KK w.heap.size W [{target:=.collected D,args:=#[]}] from⟨[D],rfl,List.pairwise_singleton _ _,fun E hE=>by rw[List.mem_singleton] at hE;subst hE;exact⟨hsD,hK⟩⟩);have Qj:=Ux (show OE W w.heap.size (.slice (some ⟨g,0,none⟩) d.au.length cap) L from by
    rw[←HL.o];exact⟨JM.1,JM.2.imp id fun⟨g,cap,cur,h1,h2,h3⟩=>⟨g,cap,cur,h1,ae dX.o.size h2,h3⟩⟩)
   have zh:=Ux hI.b;clear Da JM hI hK;dsimp only;go_wp2_with fail;exact vP rfl rfl HD.o Qj.o zh.o
 ·have nD:(oe != 0)=true:=by simpa using h0
  have HF:=Ux (ME h0);clear h0 MD ME;go_wp2_with fail;rw[HF.o];exact vP rfl rfl (KK.nil _ _) ⟨rfl,.inl ⟨rfl,rfl⟩⟩ dX.o
end
section
variable{w w':World}{pf pw:Nat}{R:Rp}{pv:Value}{Y:Sy}
theorem vC(h:bm w pf pw R pv Y){N:Nat}(hk:ay Y.fs N)(hN:N≤999999)(c:Cr)(no:Int) :
  Calls Tryz.prog 29 #[UH (some ⟨pf,0,none⟩),UJ #[UE UL c.u,UE UL c.g],UE UL no] w fun e w'=>∃v,e=.returned (UK #[v,UE UL (Y.fs.cE Y.dead c no).2])∧OE w' w.heap.size v (Y.fs.cE Y.dead c no).1∧UA w w':=by
 obtain⟨ir,aJ⟩:=Uz w #[UE UL c.u,UE UL c.g] 64;have HR:=Ux (fun w1 (av:UA w w1)=>iC (h.an av));have HS:=Ux (fun w1 (av:UA w w1)=>Fx (h.wd.an av) hk hN c no);obtain⟨pc,-,pz⟩:=h.bD.facts;have ni:=Ux (fun w1 (av:UA w w1)=>show w1.cell? ⟨pf,0,none⟩=some (UH (some ⟨pw,0,none⟩)) from(av.cell (p:=⟨pf,0,none⟩) pz).trans (pc 0));have mixed:Tryz.prog.follows .mixedOrders=true:=by kernel_rfl
 clear h hk pc pz
 cases hd:Y.dead with
 |true=>
  rw[hd] at HR;clear hd HS;go_enter Tryz.func29,Tryz.ntmps29;go_wp2_with fail;refine(HR.o _ aJ).mono ?_;rintro e w1 ⟨rfl,rfl⟩;have HB:=Ux aJ;clear aJ ir;go_wp2_with fail;go_ret2;exact⟨_,rfl,⟨rfl,.inl ⟨rfl,rfl⟩⟩,HB.o⟩
 |false=>
  rw[hd] at HR;generalize Y.fs.cE false c no=rd at HS⊢;clear hd;go_enter Tryz.func29,Tryz.ntmps29;go_wp2_with fail;refine(HR.o _ aJ).mono ?_;rintro e w1 ⟨rfl,rfl⟩;generalize w.alloc _=W0 at ir aJ⊢;have bC:=Ux aJ;have pc0:=ni.o _ aJ;obtain⟨cc,-,cz⟩:=ir.facts;clear ir aJ;go_wp2_with fail;refine aG 6 mixed (by kernel_rfl) (show cn _ from by repeat (first|exact cS|refine cR ?_|refine cx ?_|refine cG ?_)) ?_;simp only[List.take_succ_cons,List.take_zero,List.drop_succ_cons,List.drop_zero]
  repeat still_step
  refine wpStill_nil ?_;go_wp2_with fail;refine(HS.o _ bC.o.drew).mono ?_;rintro e w1 ⟨v,rfl,hO,av⟩;have HO:=Ux (ag hO (bC.o.drew.trans (av.mono bC.o.size)));have hsz:=bC.o.size;clear av hO;go_wp2_with fail;go_ret2;exact⟨_,rfl,⟨HO.o.1.1,HO.o.1.2.imp id fun⟨g,cap,cur,h1,h2,h3⟩=>⟨g,cap,cur,h1,ae hsz h2,h3⟩⟩,HO.o.2⟩
end
end
section
open Go.RowKit
attribute [local go_sem] Oper.semAt_some
def Sp.v(x:Sp):Value:=UJ #[UE UL x.dir,UF x.name,UE UL x.no,UE UL x.depth]
def stA(a:An):Value:=UJ #[UE UL a.no,UE UL a.dev,UE UL a.kind,UE UL a.mode,UE UL a.uid,UE UL a.gid,UE UL a.ak,UE UL a.data.size,UE UL a.mtime,UE UL a.ctime]
theorem RL(S:Fs)(k:Int):E1 (S.get k)=stA (S.bG k):=by
 cases hg:S.get k with
 |none=>rw[gl hg];rfl
 |some a=>rw[bW hg];rfl
theorem sg{tmps:Array Value}{W:World}{B:Nat}{x:Sp}{e:Int}(hb:ax W B #[UE UL x.dir,UF x.name,UE UL x.no,UE UL x.depth] 108)
  (h8:tmps.getD 8 undef=UH (some ⟨B,0,none⟩)) (h9:tmps.getD 9 undef=UE UL e):(results Tryz.f71 tmps).run Tryz.prog W=.ok (UK #[x.v,UE UL e]) W:=by
 have q0:=hb.cell 0;have q1:=hb.cell 1;have q2:=hb.cell 2;have q3:=hb.cell 3;rw[Array.getD_eq_getD_getElem?] at h8 h9;simp[results,Tryz.results71,go_sem,Sp.v,h8,h9,q0,q1,q2,q3]
section
variable{w w':World}{pf pw:Nat}{R:Rp}{pv:Value}{Y:Sy}
theorem BZ(h:bm w pf pw R pv Y){N:Nat}(hk:ay Y.fs N)(hN:N≤999999)(c:Cr)(dir:Int)(n:ByteArray) :
  Calls Tryz.prog 71 #[UH (some ⟨pf,0,none⟩),UJ #[UE UL c.u,UE UL c.g],UE UL dir,UF n] w fun e w'=>e=.returned (UK #[(⟨dir,n,(Y.fs.aQ Y.dead c dir n).1,0⟩:Sp).v,UE UL (Y.fs.aQ Y.dead c dir n).2])∧UA w w':=by
 obtain⟨hC,hR,hb⟩:=iJ w #[UE UL c.u,UE UL c.g] #[UE UL 0,UF ⟨#[]⟩,UE UL 0,UE UL 0] 64 108;have HL:=Ux (fun w1 (av:UA w w1)=>iD (h.an av) hk hN c dir n);generalize Y.fs.aQ Y.dead c dir n=rd at HL⊢;obtain⟨k,e⟩:=rd;clear h hk;go_enter Tryz.func71,Tryz.ntmps71;go_upto_region 1 with fail;generalize World.alloc _ _=X at hC hR hb⊢;obtain⟨cc,cf,cz⟩:=hC.facts;have HR:=Ux (ag hR hb);clear hC hR hb;go_wp2_with fail;refine(HL.o _ HR.o.2).mono ?_;rintro e' w1 ⟨rfl,av⟩;have ez:=HR.o.1.an av;have fR:=ar HR.o.2 av;obtain⟨nb,aJ⟩:=Uz w1 #[UE UL dir,UF n,UE UL k,UE UL 0] 108;clear av cc cf cz;go_upto_region 3 with fail;have dw:=ez.an aJ;have dR:=ar fR aJ;generalize w1.alloc _=w2 at nb dw dR⊢;obtain⟨xc,xf,xz⟩:=nb.facts;have H2:=Ux (ag dw dR);obtain⟨rc,rf,rz⟩:=dw.facts;clear ez fR aJ nb dw dR;go_wp2_with fail;exact bodyPost_ret (sg (x:=⟨dir,n,k,0⟩) H2.o.1.dA rfl rfl) rfl ⟨rfl,aC H2.o.2 (Nat.le_succ _)⟩
theorem nK(h:bm w pf pw R pv Y){N:Nat}(hk:ay Y.fs N)(hd:Y.dead=false)(k:Int) :
  Calls Tryz.prog 14 #[UH (some ⟨pf,0,none⟩),UE UL k] w fun e w'=>e=.returned (UK #[UJ #[UE UL (Y.fs.bG k).no,UE UL (Y.fs.bG k).dev,UE UL (Y.fs.bG k).kind,UE UL (Y.fs.bG k).mode,UE UL (Y.fs.bG k).uid,UE UL (Y.fs.bG k).gid,UE UL (Y.fs.bG k).ak,UE UL (Y.fs.bG k).data.size,UE UL (Y.fs.bG k).mtime,UE UL (Y.fs.bG k).ctime],UE UL (ep (Y.fs.get k))])∧UA w w':=by
 have:=jD h hk hd k;rw[RL] at this;exact this
theorem Ax{S:Fs}{c:Cr}{no:Int}(h:(S.cE false c no).2≠0):(S.cE false c no).1=[]:=by
 unfold Fs.cE at h⊢;rw[if_neg (by decide)] at h⊢
 split
 ·rfl
 ·rename_i h2;rw[if_neg h2] at h;exact absurd rfl h
theorem Aw{S:Fs}{N:Nat}(hk:ay S N)(c:Cr)(no:Int):(S.cE false c no).1.length≤N:=by
 unfold Fs.cE;rw[if_neg (by decide)]
 split
 ·exact Nat.zero_le _
 ·dsimp only;rw[List.length_map];unfold Fs.aI
  cases hg:S.get no with
  |none=>exact Nat.zero_le _
  |some a=>exact(hk.get hg).1.lR
theorem ko.base{w:World}{B B':Nat}{v:Value}{l:List Sp}(h:ko w B v l)(hb:B'≤B):ko w B' v l:=
 ⟨h.1,h.2.imp id fun⟨g,cap,cur,h1,h2,h3⟩=>⟨g,cap,cur,h1,ae hb h2,h3⟩⟩
def Ch(no depth:Int)(y:En):Sp:=⟨no,y.name,y.no,wrap64 (depth+1)⟩
theorem EE(h:bm w pf pw R pv Y){N:Nat}(hk:ay Y.fs N)(hN:N≤999999)(hd:Y.dead=false)(c:Cr)(x:Sp) :
  Calls Tryz.prog 72 #[UH (some ⟨pf,0,none⟩),UJ #[UE UL c.u,UE UL c.g],UJ #[UE UL x.dir,UF x.name,UE UL x.no,UE UL x.depth]] w fun e w'=>∃v,e=.returned (UK #[v,UE UL (Y.fs.dh c x).2])∧ko w' w.heap.size v (Y.fs.dh c x).1∧UA w w':=by
 obtain⟨dr,nm,no,dp⟩:=x;obtain⟨hC,hX,hb⟩:=iJ w #[UE UL c.u,UE UL c.g] #[UE UL dr,UF nm,UE UL no,UE UL dp] 64 108;have HS:=Ux (fun w1 (av:UA w w1) k=>nK (h.an av) hk hd k);have HL:=Ux (fun w1 (av:UA w w1)=>vC (h.an av) hk hN c no);rw[hd] at HL;have Rj:=Ux (Ax (S:=Y.fs) (c:=c) (no:=no));have uE:=Ux (Aw hk c no);have HI:=Ux (show Y.fs.dh c ⟨dr,nm,no,dp⟩=if ep (Y.fs.get no)≠0 then([],ep (Y.fs.get no)) else if ep (Y.fs.get dr)≠0 then([],ep (Y.fs.get dr))
  else if(Y.fs.bG no).dev≠(Y.fs.bG dr).dev then([],16) else if(Y.fs.bG no).kind≠1 then([],0)
  else((Y.fs.cE false c no).1.map (Ch no dp),(Y.fs.cE false c no).2) from rfl)
 have iZ:=Ux (fun w1 av=>HS.o w1 av no);have oA:=Ux (fun w1 av=>HS.o w1 av dr);generalize Y.fs.dh c ⟨dr,nm,no,dp⟩=rd at HI⊢;generalize Y.fs.cE false c no=L at HL Rj uE HI;obtain⟨L,le⟩:=L;generalize ep (Y.fs.get no)=e1 at HI iZ;generalize ep (Y.fs.get dr)=e2 at HI oA;generalize Y.fs.bG no=a1 at HI iZ;generalize Y.fs.bG dr=a2 at HI oA;dsimp only at HL Rj uE HI;clear h hk HS;go_enter Tryz.func72,Tryz.ntmps72;go_upto_region 1 with fail;generalize World.alloc _ _=X at hC hX hb⊢;obtain⟨xc,xf,xz⟩:=hX.facts;have H0:=Ux (ag hC (ag hX hb));clear hC hX hb;go_wp2_with fail;refine(iZ.o _ H0.o.2.2).mono ?_;rintro e w1 ⟨rfl,av⟩;have hA:=ax.new w1 #[UE UL a1.no,UE UL a1.dev,UE UL a1.kind,UE UL a1.mode,UE UL a1.uid,UE UL a1.gid,UE UL a1.ak,UE UL a1.data.size,UE UL a1.mtime,UE UL a1.ctime] 67;have jb:=ao av (.cells #[UE UL a1.no,UE UL a1.dev,UE UL a1.kind,UE UL a1.mode,UE UL a1.uid,UE UL a1.gid,UE UL a1.ak,UE UL a1.data.size,UE UL a1.mtime,UE UL a1.ctime] 67);clear xc xf xz;go_upto_region 2 with fail;generalize w1.alloc _=w2 at hA jb⊢;generalize w1.heap.size=ba at hA⊢;have mU:=H0.o.2.1.an jb;have H2:=Ux (ag (H0.o.1.an jb) (ag mU (ag hA (ar H0.o.2.2 jb))));obtain⟨xc,xf,xz⟩:=mU.facts;clear hA jb av mU;go_wp2_with fail;refine(oA.o _ H2.o.2.2.2).mono ?_;rintro e w3 ⟨rfl,cl⟩;have hB:=ax.new w3 #[UE UL a2.no,UE UL a2.dev,UE UL a2.kind,UE UL a2.mode,UE UL a2.uid,UE UL a2.gid,UE UL a2.ak,UE UL a2.data.size,UE UL a2.mtime,UE UL a2.ctime] 67;have Jz:=ao cl (.cells #[UE UL a2.no,UE UL a2.dev,UE UL a2.kind,UE UL a2.mode,UE UL a2.uid,UE UL a2.gid,UE UL a2.ak,UE UL a2.data.size,UE UL a2.mtime,UE UL a2.ctime] 67);clear xc xf xz;go_upto_region 3 with fail;generalize w3.alloc _=w4 at hB Jz⊢;generalize w3.heap.size=bb at hB⊢;have PV:=H2.o.2.2.1.an Jz;have xX:=H2.o.2.1.an Jz;have MQ:=H2.o.1.an Jz;have H4:=Ux (ag MQ (ag xX (ar H2.o.2.2.2 Jz)));obtain⟨xc,xf,xz⟩:=xX.facts;obtain⟨ac,af,az⟩:=PV.facts;obtain⟨bc,bf,bz⟩:=hB.facts;obtain⟨cc,cf,cz⟩:=MQ.facts;clear PV xX MQ hB Jz cl;by_cases h1:e1≠0
 ·have hE:=HI.o;rw[if_pos h1] at hE;subst hE;have hv:(e1 != 0)=true:=by simpa using h1
  clear h1;go_wp2_with fail;go_ret2;exact⟨_,rfl,ko.nil _ _,H4.o.2.2⟩
 ·have hv:(e1 != 0)=false:=by simpa using h1
  by_cases h2:e2≠0
  ·have hE:=HI.o;rw[if_neg h1,if_pos h2] at hE;subst hE;have rL:(e2 != 0)=true:=by simpa using h2
   clear h1 h2;go_wp2_with fail;go_ret2;exact⟨_,rfl,ko.nil _ _,H4.o.2.2⟩
  ·have rL:(e2 != 0)=false:=by simpa using h2
   by_cases h3:a1.dev≠a2.dev
   ·have hE:=HI.o;rw[if_neg h1,if_neg h2,if_pos h3] at hE;subst hE;have KQ:(a1.dev != a2.dev)=true:=by simpa using h3
    clear h1 h2 h3;go_wp2_with fail;go_ret2;exact⟨_,rfl,ko.nil _ _,H4.o.2.2⟩
   ·have KQ:(a1.dev != a2.dev)=false:=by simpa using h3
    by_cases h4:a1.kind≠1
    ·have hE:=HI.o;rw[if_neg h1,if_neg h2,if_neg h3,if_pos h4] at hE;subst hE;have Sc:(a1.kind != 1)=true:=by simpa using h4
     clear h1 h2 h3 h4;go_wp2_with fail;go_ret2;exact⟨_,rfl,ko.nil _ _,H4.o.2.2⟩
    ·have Sc:(a1.kind != 1)=false:=by simpa using h4
     have hE:=HI.o;rw[if_neg h1,if_neg h2,if_neg h3,if_neg h4] at hE;subst hE;clear h1 h2 h3 h4;go_wp2_with fail;refine(HL.o _ H4.o.2.2).mono ?_;rintro e w5 ⟨lv,rfl,hO,cK⟩;have HX5:=Ux (H4.o.2.1.an cK);have uF:=Ux H4.o.2.2.size;have hx4:=H4.o.2.1.lt;have h45:=cK.size;have oC:=Ux (ar H4.o.2.2 cK);have HO5:=Ux hO;clear xc xf xz ac af az bc bf bz cc cf cz cK hO;by_cases h5:le≠0
     ·have hv5:(le != 0)=true:=by simpa using h5
      have hL:=Rj.o h5;subst hL;clear h5;go_wp2_with fail;go_ret2;exact⟨_,rfl,ko.nil _ _,oC.o⟩
     ·obtain rfl:le=0:=by simpa using h5
      clear h5;obtain⟨a,ca,rfl,-⟩:=bQ HO5.o;go_wp2_with fail
      go_loopw [13,61] (fun t13 t61 wr=>∃k:Nat,k≤L.length∧t61=UE UL k∧ko wr w4.heap.size t13 ((L.take k).map (Ch no dp))∧OE wr w4.heap.size (UG a L.length ca) L∧ax wr (w.heap.size+1) #[UE UL dr,UF nm,UE UL no,UE UL dp] 108∧UA w wr∧w5.heap.size≤wr.heap.size) (fun _ t61 _=>L.length-(intOf t61).toNat)
      case atStart=>exact⟨0,Nat.zero_le _,rfl,ko.nil _ _,HO5.o,HX5.o,oC.o,aa _⟩
      case round=>
       obtain⟨k,hkl,rfl,uJ,p',nb,fR,h5r⟩:=hrel;by_cases hlt:k<L.length
       ·obtain⟨b,off,rfl,hbl⟩:=(OE.at p').ej (by omega);obtain⟨c1,c2⟩:=(OE.at p').cell k hlt;obtain⟨y,hy⟩:∃y,L[k]=y:=⟨_,rfl⟩;rw[hy] at c1 c2;have hY:=ax.new wr #[UF y.name,UE UL y.no] 98;have eT:=(UB wr).alloc (aa _) (.cells #[UF y.name,UE UL y.no] 98);go_upto_region 18 with fail;generalize wr.alloc _=V at hY eT⊢;have lV:=uJ.an eT;have mu:=OE.an p' eT;have mU:=nb.an eT;have dR:=ar fR eT;have CW:=eT;generalize hyb:wr.heap.size=yb at hY⊢;obtain⟨yc,yf,yz⟩:=hY.facts;obtain⟨xc,xf,xz⟩:=mU.facts;have hlen:((L.take k).map (Ch no dp)).length=k:=by rw[List.length_map,List.length_take];omega
        have h4V:w4.heap.size≤V.heap.size:=by have:=CW.size;omega
        obtain⟨g,cap,W,hr,KZ,BN⟩:=lV.app (Ch no dp y) (by have:=uE.o;omega) h4V;rw[hlen] at hr KZ;have htk:(L.take k).map (Ch no dp)++[Ch no dp y]=(L.take (k+1)).map (Ch no dp):=by
         rw[List.take_succ_eq_append_getElem hlt,List.map_append,hy];rfl
        rw[htk] at KZ;have HA:=Ux hr;have jX:=Ux hlt;have hk9:k≤999999:=by have:=uE.o;omega
        have HW:=Ux (ag KZ (ag (bY mu BN (fun q hq=>vV lV mu (by decide) hq)) (ag (mU.mod BN (fun hq=>by have:=(aH lV hq).1;omega))
         (ag (dR.trans (BN.below (fun q hq=>ae uF.o (aH lV hq).1) dR.size)) (ae h5r (ae CW.size BN.size))))))
        clear hr KZ lV mu mU dR BN htk hlen;go_wp2_with (at_builtin;refine aT rfl rfl rfl rfl HA.o ?_);go_roundw
        case rel=>exact⟨k+1,by have:=jX.o;omega,by go_num,HW.o.1,HW.o.2.1,HW.o.2.2.1,HW.o.2.2.2.1,HW.o.2.2.2.2⟩
        case measure=>
         have:=jX.o;simp[intOf];omega
       ·obtain rfl:k=L.length:=by omega
        have Qj:=Ux uJ;have rF:=Ux fR;clear uJ p' nb fR;go_wp2_with fail;go_ret2;refine⟨_,rfl,?_,rF.o⟩;have:=Qj.o;rw[List.take_length] at this;exact this.base uF.o
end
end
section
open Go.RowKit
def py(_:Obj):Bool:=true
def TD{α:Type}(M T:Nat→Prop)(F:Fence)(n:Nat)(P:Program)(g:Nat)(lb:Array Value)(encs:α→Array Value)(S Sp:List α→Prop)(V:List α→α→Prop)(w:World):Prop:=
 ∀(l:Nat) (J Jx:List α→World→Prop) (W:World),KT T w W→w.heap.size≤W.heap.size→(∀k,M k→k<W.heap.size)→l<W.heap.size→BK qB W.heap.size py J→BK qB W.heap.size py Jx→
  (∀pre x W1,J pre W1→V pre x→YieldAt F (n-1) P l (encs x) W1 fun e W'=>
   (e=.returned (.bool true)∧J (pre++[x]) W'∧KT T W1 W'∧Mod (fun k=>M k∨k=l) W1 W')∨(e=.returned (.bool false)∧Jx (pre++[x]) W'))→
  J [] W→
  CallsIn F n P g (#[.func (.yield l) #[] #[]]++lb) W fun e W'=>(∃v,e=.returned v)∧((∃xs,S xs∧J xs W')∨(∃pre,Sp pre∧Jx pre W'))
end
end Go.Proofs.YtabbjaomlmnnhaaGreat
