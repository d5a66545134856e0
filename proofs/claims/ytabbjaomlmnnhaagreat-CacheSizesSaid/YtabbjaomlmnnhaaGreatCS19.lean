import Derived.Test.YtabbjaomlmnnhaaGreatCS17
import Derived.Test.YtabbjaomlmnnhaaGreatCS18
import Derived.Test.YtabbjaomlmnnhaaGreatCS11
import Derived.Test.YtabbjaomlmnnhaaGreatCS16
import Derived.Test.YtabbjaomlmnnhaaGreatCS15
import Derived.Test.YtabbjaomlmnnhaaGreatCS10
import Derived.Test.YtabbjaomlmnnhaaGreatCS1
set_option linter.unusedVariables false
set_option linter.unusedSimpArgs false
set_option maxRecDepth 100000
set_option maxHeartbeats 16000000
namespace Go.Proofs.YtabbjaomlmnnhaaGreat
section
open Go.RowKit
def vv(u:Us)(h:Int×Int)(b:Sy×Bool×Cn×Int):Sy×Cn×Int:=
 if b.2.1=true then(b.1,b.2.2) else if h.2≠0 then(b.1,iV,b.2.2.2) else b.1.br u ⟨h.1,gq,ByteArray.empty⟩
def wT(u:Us)(h:Int×Int)(top:Int)(path:ByteArray)(a:Sy×Bool×Cn×Int):Sy×Cn×Int:=
 if a.2.1=true then(a.1,a.2.2) else vv u h (a.1.cl u (a.1.fs.cY a.1.dead u top path) a.2.2.2)
theorem DJ(Y:Sy)(u:Us)(no:Int):Y.bV u no=if(Y.fs.fq no).2.2≠0 then(Y,iV,(Y.fs.fq no).2.2) else wT u (Y.fs.fi Y.dead u) (Y.fs.fq no).1 (Y.fs.fq no).2.1 (Y.cl u (Y.jI u (Y.fs.fq no).1) 0):=rfl
theorem qs(Y:Sy)(u:Us)(p:pA)(l:List pA)(e:Int):Y.cl u (p::l) e=if(Y.br u p).2.2=0∨(Y.br u p).1.dead=true then((Y.br u p).1,true,(Y.br u p).2.1,(Y.br u p).2.2) else(Y.br u p).1.cl u l (Y.br u p).2.2:=rfl
theorem xh{S:Fs}{d:Bool}{u:Us}{top:Int}{path:ByteArray}(FB:-9223372036854775808≤u.u)(FA:u.u≤9223372036854775807):∀p∈S.cY d u top path,p.name.size≤9223372036854775807:=by
 have hd:(DG u.u).size≤21:=by
  unfold DG;rw[cJ];exact(jO u.u FB FA).1
 intro p hp;unfold Fs.cY at hp;rw[List.mem_append] at hp;rcases hp with hp|hp
 ·split at hp
  ·rw[List.mem_singleton] at hp;subst hp;show(DG u.u).size≤_;omega
  ·cases hp
 ·rw[List.mem_singleton] at hp;subst hp;show(nj u.u).size≤_;unfold nj;rw[ByteArray.size_append];have:(ByteArray.mk #[46,84,114,97,115,104,45]).size=7:=rfl;omega
theorem jv(w:World)(a b:Array Value)(A B:TypeId):aw ((w.alloc (.cells a A)).alloc (.cells b B)) w.heap.size a A∧aw ((w.alloc (.cells a A)).alloc (.cells b B)) (w.heap.size+1) b B∧Qi w ((w.alloc (.cells a A)).alloc (.cells b B)):=by
 refine⟨(aw.new w a A).old _,?_,aq (aq (Qj w) _) _⟩;have:=aw.new (w.alloc (.cells a A)) b B
 rwa [World.size_alloc] at this
section
variable{w w':World}{pf pw:Nat}{R:Rp}{pv:Value}{Y:Sy}
theorem sL.sy{base:Nat}{v:Value}{l:List pA}(ho:sL 143 w base v l)(h:bg w pf pw R pv Y){F':Nat→Prop}(hs:aR (R.Y pf pw) F' w w'):sL 143 w' base v l:=
 bI ho hs.mod (fun k hk he=>by
  obtain⟨-,cur,hc⟩:=aD ho he;rcases hk with rfl|hk
  ·have hb:=h.aZ;unfold aw at hb;rw[hb] at hc
   cases hc
  ·obtain⟨o,ho,hd⟩:=h.wd.kind hk;rw[hc] at ho;injection ho with ho;subst ho
   cases hd)
theorem cE.len{N:Nat}(h:cE Y N)(hN:N≤100000):Y.fs.ns.length≤100000:=by
 have h1:=h.du.pl.len;have h2:=h.du.ok.lN;omega
theorem de{tmps:Array Value}{W:World}{B:Nat}{x:Cn}{e:Int}(hb:aw W B #[.string x.path,.int .i64 x.dir,.int .i64 x.info,.int .i64 x.files,.int .i64 x.out,.int .i64 x.jm,.string x.top] 48)
  (h8:tmps.getD 6 undef=.pointer (some ⟨B,0,none⟩)) (h9:tmps.getD 7 undef=.int .i64 e):(results Tryz.f26 tmps).run Tryz.prog W=.ok (.tuple #[x.v,.int .i64 e]) W:=by
 have q0:=hb.cell 0;have q1:=hb.cell 1;have q2:=hb.cell 2;have q3:=hb.cell 3;have q4:=hb.cell 4;have q5:=hb.cell 5;have q6:=hb.cell 6;rw[Array.getD_eq_getD_getElem?] at h8 h9;simp[results,Tryz.results26,go_sem,Cn.v,h8,h9,q0,q1,q2,q3,q4,q5,q6]
structure Ei(w:World)(pf pw:Nat)(R:Rp)(pv:Value)(u:Us)(Z:Sy)(wx:World):Prop where
 g:gF w wx pf pw R pv Z
 us:aw wx w.heap.size #[.int .i64 u.u,.int .i64 u.g,.string u.data] 27
 o:aw wx (w.heap.size+1) #[.string ⟨#[]⟩,.int .i64 0,.int .i64 0,.int .i64 0,.int .i64 0,.int .i64 0,.string ⟨#[]⟩] 48
theorem Ei.ak{u:Us}{Z:Sy}{wx wy:World}(h:Ei w pf pw R pv u Z wx)(hb:Qi wx wy):Ei w pf pw R pv u Z wy:=⟨h.g.below hb,h.us.ak hb,h.o.ak hb⟩
theorem Ei.step{u:Us}{Z Z':Sy}{wx wy:World}(h:Ei w pf pw R pv u Z wx){R1 R2:Rp}(h1:bg wx pf pw R1 pv Z)(hs:aR (R.Y pf pw) (R1.Y pf pw) w wx)(h2:bg wy pf pw R2 pv Z')(iR:aR (R1.Y pf pw) (R2.Y pf pw) wx wy):Ei w pf pw R pv u Z' wy:=
 ⟨⟨R2,h2,hs.trans iR⟩,h.us.sy h1 iR (by decide) (by decide),h.o.sy h1 iR (by decide) (by decide)⟩
theorem Ei.ready{u:Us}{Z:Sy}{wx:World}(h:Ei w pf pw R pv u Z wx){N:Nat}(hk:cE Z N)(hN:N≤99000)(p:pA)(hn:p.name.size≤9223372036854775807) :
  Calls Tryz.prog 60 #[.pointer (some ⟨pf,0,none⟩),.agg #[.int .i64 u.u,.int .i64 u.g,.string u.data],.agg #[.int .i64 p.dir,.string p.name,.string p.top]] wx fun e w'=>
   e=.returned (.tuple #[(Z.br u p).2.1.v,.int .i64 (Z.br u p).2.2])∧Ei w pf pw R pv u (Z.br u p).1 w'∧∀v l,sL 143 wx w.heap.size v l→sL 143 w' w.heap.size v l:=by
 obtain⟨R1,h1,je⟩:=h.g;refine(Ab h1 hk hN u p hn).mono ?_;rintro e w' ⟨he,R2,h2,iR⟩;exact⟨he,h.step h1 je h2 iR,fun v l ho=>ho.sy h1 iR⟩
theorem xD(h:bg w pf pw R pv Y){N:Nat}(hk:cE Y N)(hN:N≤90000)(hd:Y.dead=false)(u:Us)(FB:-9223372036854775808≤u.u)(FA:u.u≤9223372036854775807)(ht:u.data.size≤100000)(no:Int) :
  Calls Tryz.prog 26 #[.pointer (some ⟨pf,0,none⟩),.agg #[.int .i64 u.u,.int .i64 u.g,.string u.data],.int .i64 no] w fun e w'=>
   e=.returned (.tuple #[(Y.bV u no).2.1.v,.int .i64 (Y.bV u no).2.2])∧gF w w' pf pw R pv (Y.bV u no).1:=by
 obtain⟨Dm,eu,aI⟩:=jv w #[.int .i64 u.u,.int .i64 u.g,.string u.data] #[.string ⟨#[]⟩,.int .i64 0,.int .i64 0,.int .i64 0,.int .i64 0,.int .i64 0,.string ⟨#[]⟩] 27 48;have HT:=Qf (fun w1 (av:Qi w w1)=>Ev (h.ak av) hk.du.ok hk.du.pl (hk.len (by omega)) hd no);have NC:=Qf (fun w1 (av:Qi w w1)=>DN (h.ak av) hk.du.ok (by omega) hk.du.pl hk.du.wy hd u ht);have ji:=Qf (fun w1 (av:Qi w w1) k=>iv (h.ak av) hk.du.ok hd k);have so:=Qf (fun w1 (av:Qi w w1) k=>fp (h.wd.ak av) hk.du.ok.d1 k);obtain⟨pc,-,pz⟩:=h.aZ.facts;have lP:=Qf (fun w1 (av:Qi w w1)=>show w1.cell? ⟨pf,0,none⟩=some (.pointer (some ⟨pw,0,none⟩)) from(av.cell (p:=⟨pf,0,none⟩) pz).trans (pc 0));have uq:=Qf (fun w1 (av:Qi w w1) (hu:aw w1 w.heap.size #[.int .i64 u.u,.int .i64 u.g,.string u.data] 27) (ho:aw w1 (w.heap.size+1) #[.string ⟨#[]⟩,.int .i64 0,.int .i64 0,.int .i64 0,.int .i64 0,.int .i64 0,.string ⟨#[]⟩] 48)=>show Ei w pf pw R pv u Y w1 from⟨gF.of h av,hu,ho⟩);have HK:=Qf hk;have HR:=Qf (DJ Y u no);have KB:=Qf (show Y.jI u (Y.fs.fq no).1=if(Y.fs.fi false u).2=0∧Y.fs.root (Y.fs.bl (Y.fs.fi false u).1).dev=(Y.fs.fq no).1 then[⟨(Y.fs.fi false u).1,gq,ByteArray.empty⟩] else[] by unfold Sy.jI;rw[hd]);rw[hd] at HR;have HD:=Qf hd;generalize Y.bV u no=rd at HR⊢;generalize Y.fs.fq no=tp at HT HR KB;generalize Y.fs.fi false u=da at NC HR KB;obtain⟨top,path,e1⟩:=tp;obtain⟨data,home⟩:=da;dsimp only at HT HR KB NC;have HPz:=Qf pz;clear h hk hd pc pz;go_enter Tryz.func26,Tryz.ntmps26;go_upto_region 1 with fail;generalize (w.alloc (.cells #[.int .i64 u.u,.int .i64 u.g,.string u.data] 27)).alloc (.cells #[.string ⟨#[]⟩,.int .i64 0,.int .i64 0,.int .i64 0,.int .i64 0,.int .i64 0,.string ⟨#[]⟩] 48)=W0 at Dm eu aI⊢;have mL:=Qf (ag Dm (ag eu aI));clear Dm eu aI;go_wp2_with fail;refine(HT.o _ mL.o.2.2).mono ?_;rintro e w1 ⟨rfl,av⟩;have A3:=Qf (ag (mL.o.1.ak av) (ag (mL.o.2.1.ak av) (au mL.o.2.2 av)));clear av;by_cases h1:e1=0
 ·have Jr:(e1 != 0)=false:=by simpa using h1
  have HE:=Qf (HR.o.trans (if_neg (by simpa using h1)));subst h1;obtain⟨uc,uf,uz⟩:=A3.o.1.facts;go_wp2_with fail;refine(NC.o _ A3.o.2.2).mono ?_;rintro e w2 ⟨rfl,aS⟩;have Gy:=Qf (ag (A3.o.1.ak aS) (ag (A3.o.2.1.ak aS) (au A3.o.2.2 aS)));clear aS uc uf uz;obtain⟨H0,hH0⟩:∃l,Y.jI u top=l:=⟨_,rfl⟩;rw[hH0] at HE KB;go_upto_if 39 with fail
  go_cut [] from 13 to 70 (fun wx=>∃(Z:Sy) (e0:Int),rd=vv u (data,home) (Z.cl u (Z.fs.cY false u top path) e0)∧cE Z (N+5)∧Z.dead=false∧Ei w pf pw R pv u Z wx)
  case first=>
   by_cases hh:home=0
   ·subst hh;have gS:=Qf (ji.o _ Gy.o.2.2 data);rw[stZ] at gS;generalize ep (Y.fs.get data)=ne at gS;generalize Y.fs.bl data=st at gS KB;go_wp2_with fail;refine gS.o.mono ?_;rintro e w3 ⟨rfl,bK⟩;obtain⟨MO,hbS⟩:=Qh w3 #[.int .i64 st.no,.int .i64 st.dev,.int .i64 st.kind,.int .i64 st.mode,.int .i64 st.uid,.int .i64 st.gid,.int .i64 st.ao,.int .i64 st.data.size,.int .i64 st.mtime,.int .i64 st.ctime] 67;have cZ:=bK.trans (hbS.mono bK.size);have vH:=Qf (ag (Gy.o.1.ak cZ) (ag (Gy.o.2.1.ak cZ) (au Gy.o.2.2 cZ)));clear bK cZ hbS;go_upto_region 7 with fail;generalize w3.alloc _=W4 at MO vH⊢;have pc:=lP.o _ vH.o.2.2;have hpz:pf<W4.heap.size:=Nat.lt_of_lt_of_le HPz.o vH.o.2.2.size;obtain⟨yc,yf,yz⟩:=MO.facts;clear MO;by_cases hr:Y.fs.root st.dev=top
    ·have hrb:(Y.fs.root st.dev==top)=true:=by simpa using hr
     have L8:=Qf (so.o _ vH.o.2.2 st.dev);have sR:=Qf (show rd=wT u (data,0) top path (Y.cl u [⟨data,gq,ByteArray.empty⟩] 0) by rw[HE.o,KB.o,if_pos ⟨by first|trivial|rfl,hr⟩]);rw[qs] at sR;clear hr
     go_region_held3 (fun w'=>(∀b o,b<W4.heap.size→w'.cell? ⟨b,o,none⟩=W4.cell? ⟨b,o,none⟩)∧Qi W4 w') (first|with_reducible assumption|with_reducible exact dJ _|with_reducible exact cV _|with_reducible exact dg (by assumption) (by assumption)|with_reducible exact cO (by assumption) _|with_reducible exact cL (by assumption) _|with_reducible exact cq (by assumption) (by assumption)|with_reducible exact dI (by assumption) (by assumption))
      ((first
       |(go_at_call 59;((with_reducible refine(so.o _ (vH.o.2.2.trans ((And.right ‹(∀b o,b<W4.heap.size→_)∧Qi W4 _›).mono vH.o.2.2.size)) st.dev).mono ?_);rintro e w5 ⟨rfl,rfl⟩))))
     all_goals
      have bU:=And.right ‹(∀b o,b<W4.heap.size→_)∧Qi W4 _›;have l7:=Qf ((uq.o _ vH.o.2.2 vH.o.1 vH.o.2.1).ak bU);have JP:=Qf (l7.o.ready HK.o (by omega) ⟨data,gq,ByteArray.empty⟩ (by show gq.size≤_;decide));have Me:=Qf (HK.o.br u ⟨data,gq,ByteArray.empty⟩);generalize Y.br u ⟨data,gq,ByteArray.empty⟩=r at JP Me sR;obtain⟨Z5,x,e5⟩:=r;unfold Cn.v gq at JP;dsimp only at JP Me sR;obtain⟨uc,uf,uz⟩:=l7.o.us.facts;clear bU pc hpz yc yf yz;go_wp2_with fail;refine JP.o.mono ?_;rintro e w6 ⟨rfl,tQ,-⟩;obtain⟨hC,nT⟩:=Qh w6 #[.string x.path,.int .i64 x.dir,.int .i64 x.info,.int .i64 x.files,.int .i64 x.out,.int .i64 x.jm,.string x.top] 48;have kr:=Qf (tQ.ak nT);clear tQ nT uc uf uz;go_upto_region 9 with fail;generalize w6.alloc _=W7 at hC kr⊢;obtain⟨R7,xQ,iU⟩:=kr.o.g;have Mr:=Qf (tk xQ);obtain⟨cc,cf,cz⟩:=hC.facts;obtain⟨rc,rf,rz⟩:=kr.o.o.facts;clear hC xQ iU;by_cases h5:e5=0
      ·have A7:=Qf (show rd=(Z5,x,0) by rw[sR.o,if_pos (.inl h5),h5];rfl);subst h5;go_wp2_with (exact bodyPost_ret (de (x:=x) (e:=0) kr.o.o.dV rfl rfl) rfl ⟨by rw[A7.o],by rw[A7.o];exact kr.o.g.dV kr.o.o (by omega) _ _ _ _ _ _ _⟩)
      ·have h5b:(e5==0)=false:=by simpa using h5
       obtain⟨dd,hdd⟩:∃d,Z5.dead=d:=⟨_,rfl⟩;rw[hdd] at Mr
       cases dd with
       |true=>
        have A7:=Qf (show rd=(Z5,x,e5) by rw[sR.o,if_pos (.inr hdd)];rfl);clear h5 hdd;go_wp2_with fail;refine Mr.o.mono ?_;rintro e w8 ⟨rfl,rfl⟩;go_wp2_with (exact bodyPost_ret (de (x:=x) (e:=e5) kr.o.o.dV rfl rfl) rfl ⟨by rw[A7.o],by rw[A7.o];exact kr.o.g.dV kr.o.o (by omega) _ _ _ _ _ _ _⟩)
       |false=>
        have A7:=Qf (show rd=vv u (data,0) (Z5.cl u (Z5.fs.cY false u top path) e5) by rw[sR.o,if_neg (by rintro(h|h);exact h5 h;rw[hdd] at h;cases h)];unfold wT;rw[if_neg (by simp[Sy.cl])];show vv _ _ (Z5.cl u (Z5.fs.cY Z5.dead u top path) e5)=_;rw[hdd]);have Nb:=Qf hdd;clear h5 hdd;go_wp2_with fail;refine Mr.o.mono ?_;rintro e w8 ⟨rfl,rfl⟩;go_wp2_with fail;go_meet;exact⟨Z5,e5,A7.o,Me.o,Nb.o,kr.o⟩
    ·have hrb:(Y.fs.root st.dev==top)=false:=by simpa using hr
     have sR:=Qf (show H0=[] by rw[KB.o,if_neg (fun h=>hr h.2)]);clear hr
     go_region_held3 (fun w'=>(∀b o,b<W4.heap.size→w'.cell? ⟨b,o,none⟩=W4.cell? ⟨b,o,none⟩)∧Qi W4 w') (first|with_reducible assumption|with_reducible exact dJ _|with_reducible exact cV _|with_reducible exact dg (by assumption) (by assumption)|with_reducible exact cO (by assumption) _|with_reducible exact cL (by assumption) _|with_reducible exact cq (by assumption) (by assumption)|with_reducible exact dI (by assumption) (by assumption))
      ((first
       |(go_at_call 59;((with_reducible refine(so.o _ (vH.o.2.2.trans ((And.right ‹(∀b o,b<W4.heap.size→_)∧Qi W4 _›).mono vH.o.2.2.size)) st.dev).mono ?_);rintro e w5 ⟨rfl,rfl⟩))))
     all_goals
      have bU:=And.right ‹(∀b o,b<W4.heap.size→_)∧Qi W4 _›;have l8:=Qf bU;clear bU pc hpz yc yf yz;go_wp2_with fail;go_meet;exact⟨Y,0,by rw[HE.o,sR.o];unfold wT;rw[if_neg (by simp[Sy.cl])];show vv _ _ (Y.cl u (Y.fs.cY Y.dead u top path) 0)=_;rw[HD.o],HK.o.mono (by omega),HD.o,(uq.o _ vH.o.2.2 vH.o.1 vH.o.2.1).ak l8.o⟩
   ·have hhb:(home==0)=false:=by simpa using hh
    have sR:=Qf (show H0=[] by rw[KB.o,if_neg (fun h=>hh h.1)]);clear hh;go_wp2_with fail;go_meet;exact⟨Y,0,by rw[HE.o,sR.o];unfold wT;rw[if_neg (by simp[Sy.cl])];show vv _ _ (Y.cl u (Y.fs.cY Y.dead u top path) 0)=_;rw[HD.o],HK.o.mono (by omega),HD.o,uq.o _ Gy.o.2.2 Gy.o.1 Gy.o.2.1⟩
  case rest=>
   obtain⟨Z,e0,hrd,hok,hzd,hI⟩:=hcut;generalize wc=w3 at hI⊢;have JP:=Qf hrd;have HI:=Qf hI;obtain⟨R3,nU,gU⟩:=hI.g;have jz:=Qf (yu nU hok.du.ok (by omega) hzd u FB FA top path);have hps:=qQ Z.fs false u top path;have pP:=Qf (xh (S:=Z.fs) (d:=false) (u:=u) (top:=top) (path:=path) FB FA);generalize Z.fs.cY false u top path=ps at jz hps pP JP;have hsz:w.heap.size≤w3.heap.size:=gU.mod.size;obtain⟨uc,uf,uz⟩:=hI.us.facts;have fY:=Qf hok;have HZd:=Qf hzd;clear hrd hI nU gU hok hzd;go_wp2_with fail;refine jz.o.mono ?_;rintro e w4 ⟨v,rfl,hP4,cZ⟩;obtain⟨qa,qc,rfl,Ah,xJ,-⟩:=bC hP4;obtain⟨qb,qo,rfl,-,-⟩:=lh uQ hP4.at 0 (by omega);have HP4:=Qf (show sL 143 w4 w.heap.size (.slice (some ⟨qb,qo,none⟩) ps.length qc) ps from uR hP4 hsz);have HI4:=Qf (HI.o.ak cZ);clear hP4 cZ uc uf uz;go_wp2_with fail
   go_loopw [10,77] (fun t10 t77 wr=>∃(k:Nat) (Zk:Sy) (ek:Int),k≤ps.length∧t10=.int .i64 ek∧t77=.int .i64 k∧Z.cl u ps e0=Zk.cl u (ps.drop k) ek∧cE Zk (N+5+5*k)∧Zk.dead=false∧Ei w pf pw R pv u Zk wr∧sL 143 wr w.heap.size (.slice (some ⟨qb,qo,none⟩) ps.length qc) ps) (fun _ t77 _=>ps.length-(intOf t77).toNat)
   case atStart=>exact⟨0,Z,0,by omega,rfl,rfl,by cases ps with|nil=>simp at hps|cons p l=>rfl,fY.o,HZd.o,HI4.o,HP4.o⟩
   case round=>
    obtain⟨k,Zk,ek,hk,rfl,rfl,htr,hok,hzd,hI,hP⟩:=hrel;have HIr:=Qf hI;have HPr:=Qf hP;by_cases hlt:k<ps.length
    ·obtain⟨b,off,he,hbl,hc⟩:=lh uQ hP.at k hlt;injection he with he;injection he with BB mP;subst BB mP;have c0:wr.cell? ⟨qb,qo+k*3,none⟩=some (.int .i64 ps[k].dir):=hc 0 (by decide);have c1:wr.cell? ⟨qb,qo+k*3+1,none⟩=some (.string ps[k].name):=hc 1 (by decide);have c2:wr.cell? ⟨qb,qo+k*3+2,none⟩=some (.string ps[k].top):=hc 2 (by decide);have hnm:=pP.o ps[k] (List.getElem_mem hlt);have Kt:=Qf (show Z.cl u ps e0=if(Zk.br u ps[k]).2.2=0∨(Zk.br u ps[k]).1.dead=true then((Zk.br u ps[k]).1,true,(Zk.br u ps[k]).2.1,(Zk.br u ps[k]).2.2) else(Zk.br u ps[k]).1.cl u (ps.drop (k+1)) (Zk.br u ps[k]).2.2 by rw[htr,List.drop_eq_getElem_cons hlt,qs]);generalize ps[k]=p at c0 c1 c2 hnm Kt;have hbp:=aq (Qj wr) (.cells #[.int .i64 p.dir,.string p.name,.string p.top] 143);have hBp:=aw.new wr #[.int .i64 p.dir,.string p.name,.string p.top] 143;have l7:=Qf (hI.ak hbp);have Nq:=Qf (hP.ak hbp);have G6:=Qf (l7.o.ready hok (by omega) p hnm);have Me:=Qf (hok.br u p);generalize Zk.br u p=r at G6 Me Kt;obtain⟨Z5,x,e5⟩:=r;unfold Cn.v at G6;dsimp only at G6 Me Kt;obtain⟨uc,uf,uz⟩:=hI.us.facts;clear hc hI hP hok htr hnm hzd;go_upto_region 14 with fail;generalize wr.alloc _=W5 at hbp hBp l7 Nq G6⊢;obtain⟨bc,bf,bz⟩:=hBp.facts;clear uc uf uz c0 c1 c2;obtain⟨uc,uf,uz⟩:=l7.o.us.facts;clear hbp hBp;go_wp2_with fail;refine G6.o.mono ?_;rintro e w6 ⟨rfl,tQ,Kh⟩;obtain⟨hC,nT⟩:=Qh w6 #[.string x.path,.int .i64 x.dir,.int .i64 x.info,.int .i64 x.files,.int .i64 x.out,.int .i64 x.jm,.string x.top] 48;have kr:=Qf (tQ.ak nT);have Np:=Qf ((Kh _ _ Nq.o).ak nT);clear tQ Kh nT uc uf uz bc bf bz;go_upto_region 15 with fail;generalize w6.alloc _=W7 at hC kr Np⊢;obtain⟨R7,xQ,iU⟩:=kr.o.g;have Mr:=Qf (tk xQ);obtain⟨cc,cf,cz⟩:=hC.facts;obtain⟨rc,rf,rz⟩:=kr.o.o.facts;clear hC xQ iU;by_cases h5:e5=0
     ·have A7:=Qf (show rd=(Z5,x,0) by rw[JP.o,Kt.o,if_pos (.inl h5),h5];rfl);subst h5;go_wp2_with (exact bodyPost_ret (de (x:=x) (e:=0) kr.o.o.dV rfl rfl) rfl ⟨by rw[A7.o],by rw[A7.o];exact kr.o.g.dV kr.o.o (by omega) _ _ _ _ _ _ _⟩)
     ·have h5b:(e5==0)=false:=by simpa using h5
      obtain⟨dd,hdd⟩:∃d,Z5.dead=d:=⟨_,rfl⟩;rw[hdd] at Mr
      cases dd with
      |true=>
       have A7:=Qf (show rd=(Z5,x,e5) by rw[JP.o,Kt.o,if_pos (.inr hdd)];rfl);clear h5 hdd;go_wp2_with fail;refine Mr.o.mono ?_;rintro e w8 ⟨rfl,rfl⟩;go_wp2_with (exact bodyPost_ret (de (x:=x) (e:=e5) kr.o.o.dV rfl rfl) rfl ⟨by rw[A7.o],by rw[A7.o];exact kr.o.g.dV kr.o.o (by omega) _ _ _ _ _ _ _⟩)
      |false=>
       have JM:=Qf (Kt.o.trans (if_neg (by rintro(h|h);exact h5 h;rw[hdd] at h;cases h)));have Nb:=Qf hdd;clear h5 hdd cc cf cz rc rf rz;go_wp2_with fail;refine Mr.o.mono ?_;rintro e w8 ⟨rfl,rfl⟩;go_wp2_with fail;go_roundw
       case measure=>simp[intOf];omega
       case rel=>exact⟨k+1,Z5,e5,by omega,rfl,by go_num,JM.o,Me.o,Nb.o,kr.o,Np.o⟩
    ·obtain rfl:k=ps.length:=by omega
     have KE:=Qf (show rd=vv u (data,home) (Zk,false,iV,ek) by rw[JP.o,htr,List.drop_length];rfl);have HK6:=Qf hok;clear htr hok hP hzd;by_cases hh:home=0
     ·have hhb:(home != 0)=false:=by simpa using hh
      have NA:=Qf (show rd=Zk.br u ⟨data,gq,ByteArray.empty⟩ by rw[KE.o];unfold vv;rw[if_neg (by simp),if_neg (by simpa using hh)]);have G6:=Qf (HIr.o.ready HK6.o (by omega) ⟨data,gq,ByteArray.empty⟩ (by show gq.size≤_;decide));generalize Zk.br u ⟨data,gq,ByteArray.empty⟩=r at G6 NA;obtain⟨Z5,x,e5⟩:=r;unfold Cn.v gq at G6;dsimp only at G6;obtain⟨uc,uf,uz⟩:=hI.us.facts;clear hI hh;go_wp2_with fail;refine G6.o.mono ?_;rintro e w6 ⟨rfl,tQ,-⟩;have kr:=Qf tQ;obtain⟨rc,rf,rz⟩:=tQ.o.facts;clear tQ uc uf uz;go_wp2_with (exact bodyPost_ret (de (x:=x) (e:=e5) kr.o.o.dV rfl rfl) rfl ⟨by rw[NA.o],by rw[NA.o];exact kr.o.g.dV kr.o.o (by omega) _ _ _ _ _ _ _⟩)
     ·have hhb:(home != 0)=true:=by simpa using hh
      have NA:=Qf (show rd=(Zk,iV,ek) by rw[KE.o];unfold vv;rw[if_neg (by simp),if_pos hh]);obtain⟨rc,rf,rz⟩:=hI.o.facts;clear hI hh;go_wp2_with (exact bodyPost_ret (de (x:=iV) (e:=ek) HIr.o.o.dV rfl rfl) rfl ⟨by rw[NA.o],by rw[NA.o];exact HIr.o.g.dV HIr.o.o (by omega) _ _ _ _ _ _ _⟩)
 ·have Jr:(e1 != 0)=true:=by simpa using h1
  have HE:=Qf (HR.o.trans (if_pos h1));clear h1;obtain⟨rc,rf,rz⟩:=A3.o.2.1.facts;go_wp2_with (exact bodyPost_ret (de (x:=iV) (e:=e1) A3.o.2.1.dV rfl rfl) rfl ⟨by rw[HE.o],by rw[HE.o];exact(uq.o _ A3.o.2.2 A3.o.1 A3.o.2.1).g.dV A3.o.2.1 (by omega) _ _ _ _ _ _ _⟩)
end
end
section
open Go.RowKit Go.Shelf
attribute [local go_sem] Oper.semAt_some
theorem tw{w W:World}{tmps:Array Value}{v:Value}{o:Int}{l:List En}{ds:List Deferred}(h6:tmps.getD 6 undef=v)(h7:tmps.getD 7 undef=.int .i64 o)(hco:GS w.heap.size W ds)(ho:OE W w.heap.size v l)(hb:Qi w W) :
  bodyPostM Fence.wide 5 Tryz.prog Tryz.f64 (fun e w'=>∃v,e=.returned (.tuple #[v,.int .i64 o])∧OE w' w.heap.size v l∧Qi w w') .ret {tmps,defers:=ds} W:=by
 obtain⟨Ds,rfl,h2,h3⟩:=hco;rw[Array.getD_eq_getD_getElem?] at h6 h7;show LeavesInM Fence.wide 5 Tryz.prog Tryz.f64 _ _ _ _ W;refine rV (v:=.tuple #[v,.int .i64 o]) (fun W=>?_) Ds W h2 (fun D hD=>(h3 D hD).2) (fun W' hm=>⟨v,rfl,bI ho hm (fun k hk he=>?_),hb.trans (hm.below (fun k hk=>(h3 k hk).1) hb.size)⟩)
 ·simp[results,Tryz.results64,go_sem,h6,h7]
 ·obtain⟨-,cur,hc⟩:=aD ho he;have:=(h3 k hk).2;rw[hc] at this
  cases this
theorem OE.N6(w:World)(n:Nat)(hn:n≤999999):∃M,(Instr.makeSlice 94 (.int .i64 0) (.int .i64 n)).run Tryz.prog w=.ok (.slice (some ⟨w.heap.size,0,none⟩) 0 n) (w.alloc (.cells M 98))∧OE (w.alloc (.cells M 98)) w.heap.size (.slice (some ⟨w.heap.size,0,none⟩) 0 n) []:=by
 obtain⟨i0,hi,jy,ee,et⟩:=info_parts gj;have hb:i0.bytes*n≤24*999999:=by rw[et];exact Nat.mul_le_mul (aa _) hn
 have hr:=run_make (P:=Tryz.prog) w 94 98 i0 _ Tryz.underlying94 hi jy .i64 .i64 0 n (Int.le_refl _) (by omega) (by
  have h:((i0.bytes*n:Nat):Int)≤281474976710656:=by omega
  rwa [Int.natCast_mul] at h) (by omega)
 simp only[Int.toNat_zero,Int.toNat_natCast] at hr;refine⟨_,hr,?_⟩;rw[ee];exact World.ownsRow_made w _ n (aa _) (by unfold maxLen;omega) (size_madeCells _ _)
structure LI(w:World)(B0 Bo Bc pw:Nat)(vc:Value)(S:Fs)(pre:List En)(W:World):Prop where
 o:∃g cap,aw W Bo #[.slice (some ⟨g,0,none⟩) pre.length cap] 94∧OE W B0 (.slice (some ⟨g,0,none⟩) pre.length cap) (pre.map S.seen)
 p:aw W w.heap.size #[.pointer (some ⟨pw,0,none⟩)] 40
 b:Qi w W
 n:B0≤W.heap.size
 c:aw W Bc #[vc] 94
theorem LI.fH{w A C:World}{B0 Bo Bc pw N:Nat}{vc:Value}{S:Fs}{pre:List En}(h:LI w B0 Bo Bc pw vc S pre A)(ht:dN oO N eK A C)(hN:w.heap.size≤N):LI w B0 Bo Bc pw vc S pre C:=by
 obtain⟨g,cap,h1,h2⟩:=h.o;refine⟨⟨g,cap,oI h1 ht,?_⟩,oI h.p ht,yE h.b ht hN (aa _),ae h.n ht.size,oI h.c ht⟩;exact qV h2 (fun k hk=>by
  obtain⟨-,cur,hc⟩:=aD h2 hk;rw[hc];exact ht.block k _ hc (fun h=>h) (fun _=>rfl))
theorem LI.push{w W V:World}{B0 Bo Bc pw:Nat}{vc:Value}{S:Fs}{pre:List En}(h:LI w B0 Bo Bc pw vc S pre W)(e:En){g cap:Nat}(hg:aw W Bo #[.slice (some ⟨g,0,none⟩) pre.length cap] 94)(hb:Qi W V)(hl:pre.length≤999999)(hw0:w.heap.size<B0)(tS:B0<Bo)(hBc:Bo<Bc){ea:Option Addr}(hea:∀k off,ea=some ⟨k,off,none⟩→k<B0)(N:Nat) :
  ∃g9 cap9 W9,aw V Bo #[.slice (some ⟨g,0,none⟩) pre.length cap] 94∧(Builtin.append_ #[94,94] 94 #[.slice (some ⟨g,0,none⟩) pre.length cap,.slice (some ⟨V.heap.size,0,none⟩) 1 1]).run Tryz.prog (V.alloc (.cells #[.string e.name,.int .i64 (S.aC e.no)] 98))=.ok (.slice (some ⟨g9,0,none⟩) (pre.length+1) cap9) W9∧
   aw W9 Bo #[.slice (some ⟨g,0,none⟩) pre.length cap] 94∧aw W9 w.heap.size #[.pointer (some ⟨pw,0,none⟩)] 40∧aw (W9.setCell ⟨Bo,0,none⟩ (.slice (some ⟨g9,0,none⟩) (pre.length+1) cap9)) w.heap.size #[.pointer (some ⟨pw,0,none⟩)] 40∧
   KeepsFrom N W (W9.setCell ⟨Bo,0,none⟩ (.slice (some ⟨g9,0,none⟩) (pre.length+1) cap9))∧KT (fun k=>k=Bc∨∃off,ea=some ⟨k,off,none⟩) W (W9.setCell ⟨Bo,0,none⟩ (.slice (some ⟨g9,0,none⟩) (pre.length+1) cap9))∧
   LI w B0 Bo Bc pw vc S (pre++[e]) (W9.setCell ⟨Bo,0,none⟩ (.slice (some ⟨g9,0,none⟩) (pre.length+1) cap9)):=by
 obtain⟨g',cap',h1,h2⟩:=h.o;obtain⟨rfl,rfl⟩:g'=g∧cap'=cap:=by
  unfold aw at h1 hg;rw[h1] at hg;injection hg with hg;injection hg with e1;simpa using e1
 clear hg;have hlm:(pre.map S.seen).length=pre.length:=List.length_map _;have LP:=OE.ak (es:=pre.map S.seen) h2 hb;obtain⟨g9,cap9,W9,hr,ho9,Oo,lF⟩:=OE.app2 LP (S.seen e) (by rw[hlm];omega) (ae h.n hb.size);rw[hlm] at hr ho9;have Dq:=h1.ak hb;have hPV:=h.p.ak hb;have hCV:=h.c.ak hb;have vk:=uS LP (by decide) Dq Oo;have Jd:=uS LP (by decide) hPV Oo;have hC9:=uS LP (by decide) hCV Oo;have je:W.heap.size≤V.heap.size:=hb.size;have IT:Mod (fun k=>k=Bo) W9 (W9.setCell ⟨Bo,0,none⟩ (.slice (some ⟨g9,0,none⟩) (pre.length+1) cap9)):=(Mod.refl (fun k=>k=Bo) W9).setCell (a:=⟨Bo,0,none⟩) (.inl rfl) _;have hM:Mod (fun k=>(Value.slice (some ⟨g',0,none⟩) pre.length cap').ownBlock=some k∨k=Bo) W (W9.setCell ⟨Bo,0,none⟩ (.slice (some ⟨g9,0,none⟩) (pre.length+1) cap9)):=
  ((Mod.ar hb).trans (Oo.mono (fun k hk=>.inl hk))).trans (IT.mono (fun k hk=>.inr hk))
 have hkind:∀k,((Value.slice (some ⟨g',0,none⟩) pre.length cap').ownBlock=some k∨k=Bo)→∃cur T fz,W.heap[k]?=some (.cells cur T fz):=fun k hk=>by
  rcases hk with hk|rfl
  ·obtain⟨-,cur,hc⟩:=aD h2 hk;exact⟨_,_,_,hc⟩
  ·exact⟨_,_,_,h1⟩
 have hlow:∀k,((Value.slice (some ⟨g',0,none⟩) pre.length cap').ownBlock=some k∨k=Bo)→B0≤k:=fun k hk=>by
  rcases hk with hk|rfl
  ·exact(aD h2 hk).1
  ·omega
 refine⟨g9,cap9,W9,Dq,hr,vk,Jd,Jd.mod IT (by omega),(ru hM hkind).from N,KT.cQ hM (fun k hk=>?_) (fun k hk hS=>?_),⟨⟨g9,cap9,?_,?_⟩,Jd.mod IT (by omega),h.b.trans (hM.below (fun k hk=>by have:=hlow k hk;omega) h.b.size),ae h.n hM.size,hC9.mod IT (by omega)⟩⟩
 ·rcases hk with rfl|⟨off,hk⟩
  ·exact h.c.lt
  ·have:=hea k off hk;have:=h.n;omega
 ·rcases hk with rfl|⟨off,hk⟩
  ·rcases hS with hS|hS
   ·obtain⟨-,cur,hc⟩:=aD h2 hS;have h5:=h.c;unfold aw at h5;rw[hc] at h5;injection h5 with h5;injection h5 with e1 e2 e3;revert e2;decide
   ·omega
  ·have:=hea k off hk;have:=hlow k hS;omega
 ·rw[List.length_append,List.length_singleton];exact vk.set 0 _
 ·rw[List.length_append,List.length_singleton,List.map_append];exact IA ho9 (by decide) vk IT
section
variable{w w':World}{pw:Nat}{R:Rp}{S:Fs}
theorem CS(h:bm w pw R S){N:Nat}(hk:ax S N)(hN:N≤999999)(c:Cr)(no:Int) :
  Calls Tryz.prog 64 #[.pointer (some ⟨pw,0,none⟩),.agg #[.int .i64 c.u,.int .i64 c.g],.int .i64 no] w fun e w'=>∃v,e=.returned (.tuple #[v,.int .i64 (S.cp false c no).2])∧OE w' w.heap.size v (S.cp false c no).1∧Qi w w':=by
 obtain⟨hP,hC,aS⟩:=jv w #[.pointer (some ⟨pw,0,none⟩)] #[.int .i64 c.u,.int .i64 c.g] 40 64;have HO:=Qf (show Calls Tryz.prog 65 #[.pointer (some ⟨pw,0,none⟩),.agg #[.int .i64 c.u,.int .i64 c.g],.int .i64 no,.int .i64 1,.int .i64 4] ((w.alloc (.cells #[.pointer (some ⟨pw,0,none⟩)] 40)).alloc (.cells #[.int .i64 c.u,.int .i64 c.g] 64)) fun e w'=>∃(d:An) (ea:Option Addr) (el ec:Nat) (oe:Int) (L:List En),e=.returned (.tuple #[d.v ea el ec,.int .i64 oe])∧aA w' ea el ec d.ay∧S.cp false c no=(L,oe)∧(oe=0→d.ay.map S.seen=L)∧(oe≠0→L=[])∧d.ay.length≤999999∧Below ((w.alloc (.cells #[.pointer (some ⟨pw,0,none⟩)] 40)).alloc (.cells #[.int .i64 c.u,.int .i64 c.g] 64)).heap.size ((w.alloc (.cells #[.pointer (some ⟨pw,0,none⟩)] 40)).alloc (.cells #[.int .i64 c.u,.int .i64 c.g] 64)) w' from
  (qX (h.ak aS) hk c no 1 4).mono (by
   rintro e w1 ⟨⟨h0,rfl⟩|⟨h0,d,ea,el,ec,hg,rfl,he⟩,av⟩
   ·refine⟨cS,none,0,0,S.dY c no 1 4,[],rfl,aA.nil _,?_,fun h=>absurd h h0,fun _=>rfl,by decide,av⟩;rw[rn,if_pos h0]
   ·refine⟨d,ea,el,ec,0,d.ay.map S.seen,rfl,he.ak av,?_,fun _=>rfl,fun h=>absurd rfl h,ae (hk.get hg).1.mJ hN,av⟩;rw[rn,if_neg (by simpa using h0)];unfold Fs.bw;rw[hg]))
 have pO:=Qf (fun w1 (av:Qi w w1) k=>jA (h.ak av) hk.d1 k);have HP:=Qf (ag hP hC);have HB:=Qf aS;generalize S.cp false c no=rd at HO⊢;obtain⟨pc,pf',pz⟩:=hP.facts;obtain⟨cc,cf,cz⟩:=hC.facts;clear h hk hP hC aS;refine(callsIn_wide (n:=5)).1 ?_;refine callsIn_of_wp_marks Tryz.func64 rfl trivial ?_ rfl;simp only[Tryz.ntmps64,List.size_toArray,List.length_cons,List.length_nil,Nat.reduceAdd,Nat.reduceSub,Array.replicate_succ,Array.replicate_zero,List.push_toArray,List.append_toArray,List.nil_append,List.cons_append];refine wpIn_wide.2 ?_;go_upto_region 1 with fail;generalize (w.alloc (.cells #[.pointer (some ⟨pw,0,none⟩)] 40)).alloc (.cells #[.int .i64 c.u,.int .i64 c.g] 64)=w0 at HO HP HB pc pf' pz cc cf cz⊢;go_wp2_with fail;refine HO.o.mono ?_;rintro e w1 ⟨d,ea,el,ec,oe,L,rfl,he,rfl,Jh,Ji,hln,av⟩;obtain⟨hX,aI⟩:=Qh w1 #[.int .i64 d.no,.int .i64 d.dev,.int .i64 d.kind,.int .i64 d.mode,.int .i64 d.uid,.int .i64 d.gid,.int .i64 d.mtime,.int .i64 d.ctime,.int .i64 d.ao,.int .i64 d.up,.string d.data,.slice ea el ec] 149;have hE:=he.ak aI;have hB:=au (au HB.o av) aI;have Je:=(HP.o.1.ak av).ak aI;have hel:=he.len;subst hel;have xZ:=he.sl.2.1;have h64:=he.sl.2.2.1;unfold An.v;clear av he pc pf' pz cc cf cz;go_upto_region 2 with fail;generalize w1.alloc _=X at hX aI hE hB Je⊢;generalize w1.heap.size=Bd at hX;have HX:=Qf hX;have HE:=Qf hE;have dO:=Qf hB;have Ed:=Qf Je;obtain⟨xc,xf,xz⟩:=hX.facts;clear hX aI hE hB Je;by_cases h0:oe=0
 ·have HL:=Qf (Jh h0);subst h0;clear Jh Ji;have hmk:¬(d.ay.length:Int)<0:=by omega
  obtain⟨M,hmr,hmO⟩:=OE.N6 X d.ay.length hln;go_upto_region 5 with fail;have Jo:=aw.new (X.alloc (.cells M 98)) #[.slice (some ⟨X.heap.size,0,none⟩) 0 d.ay.length] 94;have hbM:=aq (Qj X) (.cells M 98);have bU:=aq hbM (.cells #[.slice (some ⟨X.heap.size,0,none⟩) 0 d.ay.length] 94);have Ax:=hmO.ak (aq (Below.refl _ _) (.cells #[.slice (some ⟨X.heap.size,0,none⟩) 0 d.ay.length] 94));rw[World.size_alloc] at Jo;have GX:=HX.o.ak bU;generalize (X.alloc (.cells M 98)).alloc (.cells #[.slice (some ⟨X.heap.size,0,none⟩) 0 d.ay.length] 94)=w5 at Jo bU Ax GX⊢;have H5:=Qf (ag Jo (ag Ax bU));clear xc xf xz hmr hmO hbM Jo Ax;obtain⟨xc,xf,xz⟩:=GX.facts;clear GX bU;go_wp2_with fail;refine(ym ea d.ay.length ec w5).mono ?_;rintro e w6 ⟨rfl,Ka⟩;have hsz6:w5.heap.size<w6.heap.size:=by rw[Ka,World.size_alloc];omega
  have fo:Qi w5 w6:=by rw[Ka];exact aq (Below.refl _ _) _
  have hA6:aw w6 w5.heap.size #[.slice ea d.ay.length ec] 94:=by rw[Ka];exact aw.new w5 _ _
  have F4:aA w6 ea d.ay.length ec d.ay:=(HE.o.ak H5.o.2.2).ak fo;have hX0:w.heap.size<X.heap.size:=by
   have:=Ed.o.lt;omega
  have hBo6:X.heap.size+1<w5.heap.size:=H5.o.1.lt;have hea:∀k off,ea=some ⟨k,off,none⟩→k<X.heap.size:=fun k off h=>by
   obtain⟨b',off',cur,e1,e2⟩:=HE.o.aZ _ h;injection e1 with e1 e3;subst e1;exact(Array.getElem?_eq_some_iff.1 e2).1
  have HEa:=Qf hea;have HLI:=Qf (show LI w X.heap.size (X.heap.size+1) w5.heap.size pw (.slice ea d.ay.length ec) S [] w6 from⟨⟨X.heap.size,d.ay.length,H5.o.1.ak fo,H5.o.2.1.ak fo⟩,(Ed.o.ak H5.o.2.2).ak fo,dO.o.trans ((H5.o.2.2.mono dO.o.size).trans (fo.mono (ae dO.o.size H5.o.2.2.size))),ae H5.o.2.2.size fo.size,hA6⟩);have H6:=Qf (ag hA6 (ag F4 fo));clear Ka xc xf xz fo hA6 F4 hea;go_wp2_with fail;refine(wpIn_wide (n:=5)).1 ?_;refine' wg (T:=fun k=>k=w5.heap.size∨∃off,ea=some ⟨k,off,none⟩) rfl (by omega) (gf:=145) (lb:=#[.pointer (some ⟨w5.heap.size,0,none⟩)]) rfl trivial (enters_of Tryz.func145 (by kernel_rfl) rfl)
   (sJ (5-1) (by omega) w5.heap.size w6 H6.o.1 H6.o.2.1) ?hT (KT.refl _ _) (fun _=>rfl)
   (fun pre W=>LI w X.heap.size (X.heap.size+1) w5.heap.size pw (.slice ea d.ay.length ec) S pre W)
   (fun _ _ _=>False)
   (fun pre A B h ht=>h.fH ht (ae dO.o.size (ae H5.o.2.2.size H6.o.2.2.size))) (fun c pre A B h ht=>h) HLI.o _ ?assign ?body ?done (fun D c pre W _ _ h _=>h.elim)
  case hT=>
   rintro k (rfl|⟨off,hoff⟩)
   ·omega
   ·have:=HEa.o k off hoff;omega
  case assign=>
   intro L e W K hK;gi_wp2;exact hK
  case body=>
   intro L pre e W hL hLW hI hv;have hpl:pre.length≤999999:=by
    obtain⟨t,ht⟩:=hv;have h1:=congrArg List.length ht;simp at h1;omega
   have hbd:Qi W W.drew:=(Below.refl _ _).drew;have PS:=Qf (pO.o W.drew (hI.b.drew) e.no);obtain⟨g,cap,AD,-⟩:=hI.o;have Kw:=Qf (fun(V:World) (hb:Qi W V)=>hI.push e (g:=g) (cap:=cap) AD hb hpl hX0 (by omega) hBo6 HEa.o w6.heap.size);have hPd:=hI.p.ak hbd;have hBod:=AD.ak hbd;have HBod:=Qf hBod;obtain⟨bc,bf,bz⟩:=AD.facts;obtain⟨pc,pf',pz⟩:=hI.p.facts;clear hv hpl hI AD;gi_wp2;clear bc bf bz pc pf' pz;refine jU (S:=fun w'=>aw w' w.heap.size #[.pointer (some ⟨pw,0,none⟩)] 40) (by kernel_rfl) (by kernel_rfl) (fun h=>by obtain⟨_,_,h⟩:=h;exact h) hPd (fun be=>?_);refine aK 3 [(1,33),(2,34),(3,35)] (by kernel_rfl) (by kernel_rfl) rfl (fun _ _ _ _ _ h=>h) be ?_
   iterate 3 (apply aE rfl rfl;(· (intro w9 b8;obtain⟨pc,-,-⟩:=b8.facts;clear b8;go_simp;(try with_reducible rfl)));simp only[ah,ai,aj])
   refine aJ ?_;obtain⟨bc,-,bz⟩:=HBod.o.facts;refine sA 0 32 4 36 (vi:=.slice (some ⟨g,0,none⟩) pre.length cap) (Wi:=W.drew) (R:=fun v w'=>v=.int .i64 (S.aC e.no)∧Below W.drew.heap.size W.drew w') (by kernel_rfl) rfl rfl rfl rfl rfl rfl ?ra be ?rb (PS.o.mono (fun e w' ⟨he,hb⟩=>⟨_,he,rfl,hb⟩)) (fun v w' ⟨_,hb⟩=>be.ak hb) ?_ ?_
   case ra=>(go_simp;(try rfl))
   case rb=>(go_simp;(try rfl))
   ·simp only[ah,ai,aj];clear bc bz;refine bB 4 36 (R:=fun v w'=>v=.int .i64 (S.aC e.no)∧Below W.drew.heap.size W.drew w') (by kernel_rfl) rfl rfl rfl ?xa (PS.o.mono (fun e w' ⟨he,hb⟩=>⟨_,he,rfl,hb⟩)) (fun v w' ⟨_,hb⟩=>be.ak hb) ?_
    case xa=>(go_simp;(try rfl))
    rintro _ w4 ⟨rfl,cZ⟩;simp only[ah,ai,aj];have p6:=be.ak cZ;obtain⟨g9,cap9,W9,Dq,hr,vk,Jd,OZ,hkf,hkt,O7⟩:=Kw.o w4 (au hbd cZ);have DZ:=Qf (ag hr (ag Jd (ag OZ (ag hkf (ag hkt O7)))));have gu:=aq (Qj w4) (.cells #[.string e.name,.int .i64 (S.aC e.no)] 98);obtain⟨sc,sf,sz⟩:=vk.facts;clear hr vk Jd OZ hkf hkt O7;refine aK 1 [(5,37)] (by kernel_rfl) (by kernel_rfl) rfl (fun _ _ _ _ _ h=>h) p6 ?_
    iterate 1 (apply aE rfl rfl;(· (intro w9 b8;clear b8;go_simp;(try with_reducible rfl)));simp only[ah,ai,aj])
    refine aJ ?_;refine fU 6 38 (v:=.slice (some ⟨w4.heap.size,0,none⟩) 1 1) (W:=w4.alloc (.cells #[.string e.name,.int .i64 (S.aC e.no)] 98)) (by kernel_rfl) rfl rfl rfl ?qa (p6.ak gu) ?_
    case qa=>(go_simp;(try rfl))
    simp only[ah,ai,aj];refine uL 7 39 (by kernel_rfl) rfl rfl rfl rfl rfl rfl DZ.o.1 DZ.o.2.1 ?_;simp only[ah,ai,aj];refine dC 8 (W:=W9.setCell ⟨X.heap.size+1,0,none⟩ (.slice (some ⟨g9,0,none⟩) (pre.length+1) cap9)) (by kernel_rfl) rfl rfl rfl ?sa DZ.o.2.2.1 ?_
    case sa=>(go_simp;(try rfl))
    refine wpAnyH_done (by kernel_rfl) ?_ _;exact DZ.o.2.2.2
   ·rintro _ w4 ⟨rfl,cZ⟩;simp only[ah,ai,aj];clear bc bz;have p6:=be.ak cZ;obtain⟨g9,cap9,W9,Dq,hr,vk,Jd,OZ,hkf,hkt,O7⟩:=Kw.o w4 (au hbd cZ);have DZ:=Qf (ag hr (ag Jd (ag OZ (ag hkf (ag hkt O7)))));have gu:=aq (Qj w4) (.cells #[.string e.name,.int .i64 (S.aC e.no)] 98);obtain⟨sc,sf,sz⟩:=vk.facts;clear hr vk Jd OZ hkf hkt O7;refine aK 1 [(5,37)] (by kernel_rfl) (by kernel_rfl) rfl (fun _ _ _ _ _ h=>h) p6 ?_
    iterate 1 (apply aE rfl rfl;(· (intro w9 b8;clear b8;go_simp;(try with_reducible rfl)));simp only[ah,ai,aj])
    refine aJ ?_;obtain⟨vc,-,vz⟩:=Dq.facts;obtain⟨ac,-,az⟩:=(Dq.ak gu).facts;refine Ir 0 32 6 38 (v:=.slice (some ⟨g,0,none⟩) pre.length cap) (vj:=.slice (some ⟨w4.heap.size,0,none⟩) 1 1) (Wi:=w4) (W:=w4.alloc (.cells #[.string e.name,.int .i64 (S.aC e.no)] 98)) (by kernel_rfl) rfl rfl rfl rfl rfl rfl ?ta ?tb p6 (p6.ak gu) ?_ ?_
    case ta=>(go_simp;(try rfl))
    case tb=>(go_simp;(try rfl))
    ·simp only[ah,ai,aj];refine fU 6 38 (v:=.slice (some ⟨w4.heap.size,0,none⟩) 1 1) (W:=w4.alloc (.cells #[.string e.name,.int .i64 (S.aC e.no)] 98)) (by kernel_rfl) rfl rfl rfl ?qb (p6.ak gu) ?_
     case qb=>(go_simp;(try rfl))
     simp only[ah,ai,aj];refine uL 7 39 (by kernel_rfl) rfl rfl rfl rfl rfl rfl DZ.o.1 DZ.o.2.1 ?_;simp only[ah,ai,aj];refine dC 8 (W:=W9.setCell ⟨X.heap.size+1,0,none⟩ (.slice (some ⟨g9,0,none⟩) (pre.length+1) cap9)) (by kernel_rfl) rfl rfl rfl ?sb DZ.o.2.2.1 ?_
     case sb=>(go_simp;(try rfl))
     refine wpAnyH_done (by kernel_rfl) ?_ _;exact DZ.o.2.2.2
    ·simp only[ah,ai,aj];refine fU 0 32 (v:=.slice (some ⟨g,0,none⟩) pre.length cap) (W:=w4.alloc (.cells #[.string e.name,.int .i64 (S.aC e.no)] 98)) (by kernel_rfl) rfl rfl rfl ?qd (p6.ak gu) ?_
     case qd=>(go_simp;(try rfl))
     simp only[ah,ai,aj];refine uL 7 39 (by kernel_rfl) rfl rfl rfl rfl rfl rfl DZ.o.1 DZ.o.2.1 ?_;simp only[ah,ai,aj];refine dC 8 (W:=W9.setCell ⟨X.heap.size+1,0,none⟩ (.slice (some ⟨g9,0,none⟩) (pre.length+1) cap9)) (by kernel_rfl) rfl rfl rfl ?sd DZ.o.2.2.1 ?_
     case sd=>(go_simp;(try rfl))
     refine wpAnyH_done (by kernel_rfl) ?_ _;exact DZ.o.2.2.2
  case done=>
   intro D xs W hD hxs hI hK;subst hxs;obtain⟨g,cap,AD,FW⟩:=hI.o;obtain⟨bc,bf,bz⟩:=AD.facts;have hsD:w.heap.size≤D:=ae dO.o.size (ae H5.o.2.2.size (ae H6.o.2.2.size hD));have HD:=Qf (show GS w.heap.size W [{target:=.collected D,args:=#[]}] from⟨[D],rfl,List.pairwise_singleton _ _,fun E hE=>by rw[List.mem_singleton] at hE;subst hE;exact⟨hsD,hK⟩⟩);have Mb:=Qf (show OE W w.heap.size (.slice (some ⟨g,0,none⟩) d.ay.length cap) L from by
    rw[←HL.o];exact⟨FW.1,FW.2.imp id fun⟨g,cap,cur,h1,h2,h3⟩=>⟨g,cap,cur,h1,ae dO.o.size h2,h3⟩⟩)
   have vY:=Qf hI.b;clear AD FW hI hK;dsimp only;go_wp2_with fail;exact tw rfl rfl HD.o Mb.o vY.o
 ·have nV:(oe != 0)=true:=by simpa using h0
  have HF:=Qf (Ji h0);clear h0 Jh Ji;go_wp2_with fail;rw[HF.o];exact tw rfl rfl (GS.nil _ _) ⟨rfl,.inl ⟨rfl,rfl⟩⟩ dO.o
end
section
variable{w w':World}{pf pw:Nat}{R:Rp}{pv:Value}{Y:Sy}
theorem s8(h:bg w pf pw R pv Y){N:Nat}(hk:ax Y.fs N)(hN:N≤999999)(c:Cr)(no:Int) :
  Calls Tryz.prog 29 #[.pointer (some ⟨pf,0,none⟩),.agg #[.int .i64 c.u,.int .i64 c.g],.int .i64 no] w fun e w'=>∃v,e=.returned (.tuple #[v,.int .i64 (Y.fs.cp Y.dead c no).2])∧OE w' w.heap.size v (Y.fs.cp Y.dead c no).1∧Qi w w':=by
 obtain⟨gp,aI⟩:=Qh w #[.int .i64 c.u,.int .i64 c.g] 64;have HR:=Qf (fun w1 (av:Qi w w1)=>gx (h.ak av));have HS:=Qf (fun w1 (av:Qi w w1)=>CS (h.wd.ak av) hk hN c no);obtain⟨pc,-,pz⟩:=h.aZ.facts;have lP:=Qf (fun w1 (av:Qi w w1)=>show w1.cell? ⟨pf,0,none⟩=some (.pointer (some ⟨pw,0,none⟩)) from(av.cell (p:=⟨pf,0,none⟩) pz).trans (pc 0));have mixed:Tryz.prog.follows .mixedOrders=true:=by kernel_rfl
 clear h hk pc pz
 cases hd:Y.dead with
 |true=>
  rw[hd] at HR;clear hd HS;go_enter Tryz.func29,Tryz.ntmps29;go_wp2_with fail;refine(HR.o _ aI).mono ?_;rintro e w1 ⟨rfl,rfl⟩;have HB:=Qf aI;clear aI gp;go_wp2_with fail;go_ret2;exact⟨_,rfl,⟨rfl,.inl ⟨rfl,rfl⟩⟩,HB.o⟩
 |false=>
  rw[hd] at HR;generalize Y.fs.cp false c no=rd at HS⊢;clear hd;go_enter Tryz.func29,Tryz.ntmps29;go_wp2_with fail;refine(HR.o _ aI).mono ?_;rintro e w1 ⟨rfl,rfl⟩;generalize w.alloc _=W0 at gp aI⊢;have aW:=Qf aI;have pc0:=lP.o _ aI;obtain⟨cc,-,cz⟩:=gp.facts;clear gp aI;go_wp2_with fail;refine aG 6 mixed (by kernel_rfl) (show bL _ from by repeat (first|exact cG|refine cF ?_|refine bR ?_|refine cd ?_)) ?_;simp only[List.take_succ_cons,List.take_zero,List.drop_succ_cons,List.drop_zero]
  repeat still_step
  refine wpStill_nil ?_;go_wp2_with fail;refine(HS.o _ aW.o.drew).mono ?_;rintro e w1 ⟨v,rfl,hO,av⟩;have HO:=Qf (ag hO (aW.o.drew.trans (av.mono aW.o.size)));have hsz:=aW.o.size;clear av hO;go_wp2_with fail;go_ret2;exact⟨_,rfl,⟨HO.o.1.1,HO.o.1.2.imp id fun⟨g,cap,cur,h1,h2,h3⟩=>⟨g,cap,cur,h1,ae hsz h2,h3⟩⟩,HO.o.2⟩
end
end
section
open Go.RowKit
attribute [local go_sem] Oper.semAt_some
def Sp.v(x:Sp):Value:=.agg #[.int .i64 x.dir,.string x.name,.int .i64 x.no,.int .i64 x.depth]
def stA(a:An):Value:=.agg #[.int .i64 a.no,.int .i64 a.dev,.int .i64 a.kind,.int .i64 a.mode,.int .i64 a.uid,.int .i64 a.gid,.int .i64 a.ao,.int .i64 a.data.size,.int .i64 a.mtime,.int .i64 a.ctime]
theorem NS(S:Fs)(k:Int):Cp (S.get k)=stA (S.bl k):=by
 cases hg:S.get k with
 |none=>rw[iB hg];rfl
 |some a=>rw[dE hg];rfl
theorem qk{tmps:Array Value}{W:World}{B:Nat}{x:Sp}{e:Int}(hb:aw W B #[.int .i64 x.dir,.string x.name,.int .i64 x.no,.int .i64 x.depth] 108)
  (h8:tmps.getD 8 undef=.pointer (some ⟨B,0,none⟩)) (h9:tmps.getD 9 undef=.int .i64 e):(results Tryz.f71 tmps).run Tryz.prog W=.ok (.tuple #[x.v,.int .i64 e]) W:=by
 have q0:=hb.cell 0;have q1:=hb.cell 1;have q2:=hb.cell 2;have q3:=hb.cell 3;rw[Array.getD_eq_getD_getElem?] at h8 h9;simp[results,Tryz.results71,go_sem,Sp.v,h8,h9,q0,q1,q2,q3]
section
variable{w w':World}{pf pw:Nat}{R:Rp}{pv:Value}{Y:Sy}
theorem zq(h:bg w pf pw R pv Y){N:Nat}(hk:ax Y.fs N)(hN:N≤999999)(c:Cr)(dir:Int)(n:ByteArray) :
  Calls Tryz.prog 71 #[.pointer (some ⟨pf,0,none⟩),.agg #[.int .i64 c.u,.int .i64 c.g],.int .i64 dir,.string n] w fun e w'=>e=.returned (.tuple #[(⟨dir,n,(Y.fs.bh Y.dead c dir n).1,0⟩:Sp).v,.int .i64 (Y.fs.bh Y.dead c dir n).2])∧Qi w w':=by
 obtain⟨hC,hR,hb⟩:=jv w #[.int .i64 c.u,.int .i64 c.g] #[.int .i64 0,.string ⟨#[]⟩,.int .i64 0,.int .i64 0] 64 108;have HL:=Qf (fun w1 (av:Qi w w1)=>iw (h.ak av) hk hN c dir n);generalize Y.fs.bh Y.dead c dir n=rd at HL⊢;obtain⟨k,e⟩:=rd;clear h hk;go_enter Tryz.func71,Tryz.ntmps71;go_upto_region 1 with fail;generalize (w.alloc (.cells #[.int .i64 c.u,.int .i64 c.g] 64)).alloc (.cells #[.int .i64 0,.string ⟨#[]⟩,.int .i64 0,.int .i64 0] 108)=X at hC hR hb⊢;obtain⟨cc,cf,cz⟩:=hC.facts;have HR:=Qf (ag hR hb);clear hC hR hb;go_wp2_with fail;refine(HL.o _ HR.o.2).mono ?_;rintro e' w1 ⟨rfl,av⟩;have eh:=HR.o.1.ak av;have eU:=au HR.o.2 av;obtain⟨lL,aI⟩:=Qh w1 #[.int .i64 dir,.string n,.int .i64 k,.int .i64 0] 108;clear av cc cf cz;go_upto_region 3 with fail;have dq:=eh.ak aI;have cT:=au eU aI;generalize w1.alloc _=w2 at lL dq cT⊢;obtain⟨xc,xf,xz⟩:=lL.facts;have H2:=Qf (ag dq cT);obtain⟨rc,rf,rz⟩:=dq.facts;clear eh eU aI lL dq cT;go_wp2_with fail;exact bodyPost_ret (qk (x:=⟨dir,n,k,0⟩) H2.o.1.cM rfl rfl) rfl ⟨rfl,aB H2.o.2 (Nat.le_succ _)⟩
theorem jZ(h:bg w pf pw R pv Y){N:Nat}(hk:ax Y.fs N)(hd:Y.dead=false)(k:Int) :
  Calls Tryz.prog 14 #[.pointer (some ⟨pf,0,none⟩),.int .i64 k] w fun e w'=>e=.returned (.tuple #[.agg #[.int .i64 (Y.fs.bl k).no,.int .i64 (Y.fs.bl k).dev,.int .i64 (Y.fs.bl k).kind,.int .i64 (Y.fs.bl k).mode,.int .i64 (Y.fs.bl k).uid,.int .i64 (Y.fs.bl k).gid,.int .i64 (Y.fs.bl k).ao,.int .i64 (Y.fs.bl k).data.size,.int .i64 (Y.fs.bl k).mtime,.int .i64 (Y.fs.bl k).ctime],.int .i64 (ep (Y.fs.get k))])∧Qi w w':=by
 have:=iv h hk hd k;rw[NS] at this;exact this
theorem xA{S:Fs}{c:Cr}{no:Int}(h:(S.cp false c no).2≠0):(S.cp false c no).1=[]:=by
 unfold Fs.cp at h⊢;rw[if_neg (by decide)] at h⊢
 split
 ·rfl
 ·rename_i h2;rw[if_neg h2] at h;exact absurd rfl h
theorem xy{S:Fs}{N:Nat}(hk:ax S N)(c:Cr)(no:Int):(S.cp false c no).1.length≤N:=by
 unfold Fs.cp;rw[if_neg (by decide)]
 split
 ·exact Nat.zero_le _
 ·dsimp only;rw[List.length_map];unfold Fs.bw
  cases hg:S.get no with
  |none=>exact Nat.zero_le _
  |some a=>exact(hk.get hg).1.mJ
theorem jw.base{w:World}{B B':Nat}{v:Value}{l:List Sp}(h:jw w B v l)(hb:B'≤B):jw w B' v l:=
 ⟨h.1,h.2.imp id fun⟨g,cap,cur,h1,h2,h3⟩=>⟨g,cap,cur,h1,ae hb h2,h3⟩⟩
def zE(no depth:Int)(y:En):Sp:=⟨no,y.name,y.no,wrap64 (depth+1)⟩
theorem BY(h:bg w pf pw R pv Y){N:Nat}(hk:ax Y.fs N)(hN:N≤999999)(hd:Y.dead=false)(c:Cr)(x:Sp) :
  Calls Tryz.prog 72 #[.pointer (some ⟨pf,0,none⟩),.agg #[.int .i64 c.u,.int .i64 c.g],.agg #[.int .i64 x.dir,.string x.name,.int .i64 x.no,.int .i64 x.depth]] w fun e w'=>∃v,e=.returned (.tuple #[v,.int .i64 (Y.fs.dn c x).2])∧jw w' w.heap.size v (Y.fs.dn c x).1∧Qi w w':=by
 obtain⟨dr,nm,no,dp⟩:=x;obtain⟨hC,hX,hb⟩:=jv w #[.int .i64 c.u,.int .i64 c.g] #[.int .i64 dr,.string nm,.int .i64 no,.int .i64 dp] 64 108;have HS:=Qf (fun w1 (av:Qi w w1) k=>jZ (h.ak av) hk hd k);have HL:=Qf (fun w1 (av:Qi w w1)=>s8 (h.ak av) hk hN c no);rw[hd] at HL;have Nu:=Qf (xA (S:=Y.fs) (c:=c) (no:=no));have yQ:=Qf (xy hk c no);have HI:=Qf (show Y.fs.dn c ⟨dr,nm,no,dp⟩=if ep (Y.fs.get no)≠0 then([],ep (Y.fs.get no)) else if ep (Y.fs.get dr)≠0 then([],ep (Y.fs.get dr))
  else if(Y.fs.bl no).dev≠(Y.fs.bl dr).dev then([],16) else if(Y.fs.bl no).kind≠1 then([],0)
  else((Y.fs.cp false c no).1.map (zE no dp),(Y.fs.cp false c no).2) from rfl)
 have gS:=Qf (fun w1 av=>HS.o w1 av no);have nW:=Qf (fun w1 av=>HS.o w1 av dr);generalize Y.fs.dn c ⟨dr,nm,no,dp⟩=rd at HI⊢;generalize Y.fs.cp false c no=L at HL Nu yQ HI;obtain⟨L,le⟩:=L;generalize ep (Y.fs.get no)=e1 at HI gS;generalize ep (Y.fs.get dr)=e2 at HI nW;generalize Y.fs.bl no=a1 at HI gS;generalize Y.fs.bl dr=a2 at HI nW;dsimp only at HL Nu yQ HI;clear h hk HS;go_enter Tryz.func72,Tryz.ntmps72;go_upto_region 1 with fail;generalize (w.alloc (.cells #[.int .i64 c.u,.int .i64 c.g] 64)).alloc (.cells #[.int .i64 dr,.string nm,.int .i64 no,.int .i64 dp] 108)=X at hC hX hb⊢;obtain⟨xc,xf,xz⟩:=hX.facts;have H0:=Qf (ag hC (ag hX hb));clear hC hX hb;go_wp2_with fail;refine(gS.o _ H0.o.2.2).mono ?_;rintro e w1 ⟨rfl,av⟩;have hA:=aw.new w1 #[.int .i64 a1.no,.int .i64 a1.dev,.int .i64 a1.kind,.int .i64 a1.mode,.int .i64 a1.uid,.int .i64 a1.gid,.int .i64 a1.ao,.int .i64 a1.data.size,.int .i64 a1.mtime,.int .i64 a1.ctime] 67;have gu:=aq av (.cells #[.int .i64 a1.no,.int .i64 a1.dev,.int .i64 a1.kind,.int .i64 a1.mode,.int .i64 a1.uid,.int .i64 a1.gid,.int .i64 a1.ao,.int .i64 a1.data.size,.int .i64 a1.mtime,.int .i64 a1.ctime] 67);clear xc xf xz;go_upto_region 2 with fail;generalize w1.alloc _=w2 at hA gu⊢;generalize w1.heap.size=ba at hA⊢;have lG:=H0.o.2.1.ak gu;have H2:=Qf (ag (H0.o.1.ak gu) (ag lG (ag hA (au H0.o.2.2 gu))));obtain⟨xc,xf,xz⟩:=lG.facts;clear hA gu av lG;go_wp2_with fail;refine(nW.o _ H2.o.2.2.2).mono ?_;rintro e w3 ⟨rfl,bK⟩;have hB:=aw.new w3 #[.int .i64 a2.no,.int .i64 a2.dev,.int .i64 a2.kind,.int .i64 a2.mode,.int .i64 a2.uid,.int .i64 a2.gid,.int .i64 a2.ao,.int .i64 a2.data.size,.int .i64 a2.mtime,.int .i64 a2.ctime] 67;have FK:=aq bK (.cells #[.int .i64 a2.no,.int .i64 a2.dev,.int .i64 a2.kind,.int .i64 a2.mode,.int .i64 a2.uid,.int .i64 a2.gid,.int .i64 a2.ao,.int .i64 a2.data.size,.int .i64 a2.mtime,.int .i64 a2.ctime] 67);clear xc xf xz;go_upto_region 3 with fail;generalize w3.alloc _=w4 at hB FK⊢;generalize w3.heap.size=bb at hB⊢;have LN:=H2.o.2.2.1.ak FK;have vd:=H2.o.2.1.ak FK;have Jn:=H2.o.1.ak FK;have H4:=Qf (ag Jn (ag vd (au H2.o.2.2.2 FK)));obtain⟨xc,xf,xz⟩:=vd.facts;obtain⟨ac,af,az⟩:=LN.facts;obtain⟨bc,bf,bz⟩:=hB.facts;obtain⟨cc,cf,cz⟩:=Jn.facts;clear LN vd Jn hB FK bK;by_cases h1:e1≠0
 ·have hE:=HI.o;rw[if_pos h1] at hE;subst hE;have hv:(e1 != 0)=true:=by simpa using h1
  clear h1;go_wp2_with fail;go_ret2;exact⟨_,rfl,jw.nil _ _,H4.o.2.2⟩
 ·have hv:(e1 != 0)=false:=by simpa using h1
  by_cases h2:e2≠0
  ·have hE:=HI.o;rw[if_neg h1,if_pos h2] at hE;subst hE;have yY:(e2 != 0)=true:=by simpa using h2
   clear h1 h2;go_wp2_with fail;go_ret2;exact⟨_,rfl,jw.nil _ _,H4.o.2.2⟩
  ·have yY:(e2 != 0)=false:=by simpa using h2
   by_cases h3:a1.dev≠a2.dev
   ·have hE:=HI.o;rw[if_neg h1,if_neg h2,if_pos h3] at hE;subst hE;have My:(a1.dev != a2.dev)=true:=by simpa using h3
    clear h1 h2 h3;go_wp2_with fail;go_ret2;exact⟨_,rfl,jw.nil _ _,H4.o.2.2⟩
   ·have My:(a1.dev != a2.dev)=false:=by simpa using h3
    by_cases h4:a1.kind≠1
    ·have hE:=HI.o;rw[if_neg h1,if_neg h2,if_neg h3,if_pos h4] at hE;subst hE;have hv4:(a1.kind != 1)=true:=by simpa using h4
     clear h1 h2 h3 h4;go_wp2_with fail;go_ret2;exact⟨_,rfl,jw.nil _ _,H4.o.2.2⟩
    ·have hv4:(a1.kind != 1)=false:=by simpa using h4
     have hE:=HI.o;rw[if_neg h1,if_neg h2,if_neg h3,if_neg h4] at hE;subst hE;clear h1 h2 h3 h4;go_wp2_with fail;refine(HL.o _ H4.o.2.2).mono ?_;rintro e w5 ⟨lv,rfl,hO,bU⟩;have HX5:=Qf (H4.o.2.1.ak bU);have uv:=Qf H4.o.2.2.size;have hx4:=H4.o.2.1.lt;have h45:=bU.size;have l8:=Qf (au H4.o.2.2 bU);have Nr:=Qf hO;clear xc xf xz ac af az bc bf bz cc cf cz bU hO;by_cases h5:le≠0
     ·have hv5:(le != 0)=true:=by simpa using h5
      have hL:=Nu.o h5;subst hL;clear h5;go_wp2_with fail;go_ret2;exact⟨_,rfl,jw.nil _ _,l8.o⟩
     ·obtain rfl:le=0:=by simpa using h5
      clear h5;obtain⟨a,ca,rfl,-⟩:=bC Nr.o;go_wp2_with fail
      go_loopw [13,61] (fun t13 t61 wr=>∃k:Nat,k≤L.length∧t61=.int .i64 k∧jw wr w4.heap.size t13 ((L.take k).map (zE no dp))∧OE wr w4.heap.size (.slice a L.length ca) L∧aw wr (w.heap.size+1) #[.int .i64 dr,.string nm,.int .i64 no,.int .i64 dp] 108∧Qi w wr∧w5.heap.size≤wr.heap.size) (fun _ t61 _=>L.length-(intOf t61).toNat)
      case atStart=>exact⟨0,Nat.zero_le _,rfl,jw.nil _ _,Nr.o,HX5.o,l8.o,aa _⟩
      case round=>
       obtain⟨k,hkl,rfl,sn,oA,lL,eU,h5r⟩:=hrel;by_cases hlt:k<L.length
       ·obtain⟨b,off,rfl,hbl⟩:=(OE.at oA).dL (by omega);obtain⟨c1,c2⟩:=(OE.at oA).cell k hlt;obtain⟨y,hy⟩:∃y,L[k]=y:=⟨_,rfl⟩;rw[hy] at c1 c2;have hY:=aw.new wr #[.string y.name,.int .i64 y.no] 98;have dX:=(Qj wr).alloc (aa _) (.cells #[.string y.name,.int .i64 y.no] 98);go_upto_region 18 with fail;generalize wr.alloc _=V at hY dX⊢;have kA:=sn.ak dX;have l5:=OE.ak oA dX;have lG:=lL.ak dX;have cT:=au eU dX;have Ar:=dX;generalize hyb:wr.heap.size=yb at hY⊢;obtain⟨yc,yf,yz⟩:=hY.facts;obtain⟨xc,xf,xz⟩:=lG.facts;have hlen:((L.take k).map (zE no dp)).length=k:=by rw[List.length_map,List.length_take];omega
        have h4V:w4.heap.size≤V.heap.size:=by have:=Ar.size;omega
        obtain⟨g,cap,W,hr,G0,ze⟩:=kA.app (zE no dp y) (by have:=yQ.o;omega) h4V;rw[hlen] at hr G0;have htk:(L.take k).map (zE no dp)++[zE no dp y]=(L.take (k+1)).map (zE no dp):=by
         rw[List.take_succ_eq_append_getElem hlt,List.map_append,hy];rfl
        rw[htk] at G0;have HA:=Qf hr;have iT:=Qf hlt;have hk9:k≤999999:=by have:=yQ.o;omega
        have HW:=Qf (ag G0 (ag (bI l5 ze (fun q hq=>tE kA l5 (by decide) hq)) (ag (lG.mod ze (fun hq=>by have:=(aD kA hq).1;omega))
         (ag (cT.trans (ze.below (fun q hq=>ae uv.o (aD kA hq).1) cT.size)) (ae h5r (ae Ar.size ze.size))))))
        clear hr G0 kA l5 lG cT ze htk hlen;go_wp2_with (at_builtin;refine aL rfl rfl rfl rfl HA.o ?_);go_roundw
        case rel=>exact⟨k+1,by have:=iT.o;omega,by go_num,HW.o.1,HW.o.2.1,HW.o.2.2.1,HW.o.2.2.2.1,HW.o.2.2.2.2⟩
        case measure=>
         have:=iT.o;simp[intOf];omega
       ·obtain rfl:k=L.length:=by omega
        have Mb:=Qf sn;have yV:=Qf eU;clear sn oA lL eU;go_wp2_with fail;go_ret2;refine⟨_,rfl,?_,yV.o⟩;have:=Mb.o;rw[List.take_length] at this;exact this.base uv.o
end
end
section
open Go.RowKit
def nF(_:Obj):Bool:=true
def Py{α:Type}(M T:Nat→Prop)(F:Fence)(n:Nat)(P:Program)(g:Nat)(lb:Array Value)(encs:α→Array Value)(S Sp:List α→Prop)(V:List α→α→Prop)(w:World):Prop:=
 ∀(l:Nat) (J Jx:List α→World→Prop) (W:World),KT T w W→w.heap.size≤W.heap.size→(∀k,M k→k<W.heap.size)→l<W.heap.size→yW oO W.heap.size nF J→yW oO W.heap.size nF Jx→
  (∀pre x W1,J pre W1→V pre x→YieldAt F (n-1) P l (encs x) W1 fun e W'=>
   (e=.returned (.bool true)∧J (pre++[x]) W'∧KT T W1 W'∧Mod (fun k=>M k∨k=l) W1 W')∨(e=.returned (.bool false)∧Jx (pre++[x]) W'))→
  J [] W→
  CallsIn F n P g (#[.func (.yield l) #[] #[]]++lb) W fun e W'=>(∃v,e=.returned v)∧((∃xs,S xs∧J xs W')∨(∃pre,Sp pre∧Jx pre W'))
end
end Go.Proofs.YtabbjaomlmnnhaaGreat
