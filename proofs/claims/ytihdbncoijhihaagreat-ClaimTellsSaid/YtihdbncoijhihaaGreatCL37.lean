import Derived.OrdersHeld
import Derived.Deep.RegionHeld3
import Derived.Test.YtihdbncoijhihaaGreatCL35
import Derived.Test.YtihdbncoijhihaaGreatCL36
import Derived.Test.YtihdbncoijhihaaGreatCL29
import Derived.Test.YtihdbncoijhihaaGreatCL1
import Derived.Test.YtihdbncoijhihaaGreatCL8
import Derived.Test.YtihdbncoijhihaaGreatCL2
set_option linter.unusedVariables false
set_option linter.unusedSimpArgs false
set_option maxRecDepth 100000
set_option maxHeartbeats 16000000
namespace Go.Proofs.YtihdbncoijhihaaGreat
section
open Go.RowKit
def endF (u:Us) (h:Int×Int) (b:Sy×Bool×Cn×Int):Sy×Cn×Int:=
 if b.2.1=true then (b.1,b.2.2) else if h.2≠0 then (b.1,cn0,b.2.2.2) else b.1.readyF u ⟨h.1,nHome,ByteArray.empty⟩
def restF (u:Us) (h:Int×Int) (top:Int) (path:ByteArray) (a:Sy×Bool×Cn×Int):Sy×Cn×Int:=
 if a.2.1=true then (a.1,a.2.2) else endF u h (a.1.triesF u (a.1.fs.placesF a.1.dead u top path) a.2.2.2)
theorem choose_eq (Y:Sy) (u:Us) (no:Int):Y.chooseF u no=if (Y.fs.topF no).2.2≠0 then (Y,cn0,(Y.fs.topF no).2.2) else restF u (Y.fs.dataF Y.dead u) (Y.fs.topF no).1 (Y.fs.topF no).2.1 (Y.triesF u (Y.homeF u (Y.fs.topF no).1) 0):=rfl
theorem tries_cons (Y:Sy) (u:Us) (p:Plc) (l:List Plc) (e:Int):Y.triesF u (p :: l) e=if (Y.readyF u p).2.2=0∨(Y.readyF u p).1.dead=true then ((Y.readyF u p).1,true,(Y.readyF u p).2.1,(Y.readyF u p).2.2) else (Y.readyF u p).1.triesF u l (Y.readyF u p).2.2:=rfl
theorem place_names {S:Fs} {d:Bool} {u:Us} {top:Int} {path:ByteArray} (hu0:-9223372036854775808≤u.u) (hu1:u.u≤9223372036854775807):∀ p∈S.placesF d u top path,p.name.size≤9223372036854775807:=by
 have hd:(decB u.u).size≤21:=by
  unfold decB;rw [str_size];exact (decL_len u.u hu0 hu1).1
 intro p hp;unfold Fs.placesF at hp;rw [List.mem_append] at hp;rcases hp with hp | hp
 ·split at hp
  ·rw [List.mem_singleton] at hp;subst hp;show (decB u.u).size≤_;omega
  ·cases hp
 ·rw [List.mem_singleton] at hp;subst hp;show (nSharedU u.u).size≤_;unfold nSharedU;rw [ByteArray.size_append];have:(ByteArray.mk #[46,84,114,97,115,104,45]).size=7:=rfl;omega
theorem boxes2 (w:World) (a b:Array Value) (A B:TypeId):Blk ((w.alloc (.cells a A)).alloc (.cells b B)) w.heap.size a A∧Blk ((w.alloc (.cells a A)).alloc (.cells b B)) (w.heap.size+1) b B∧Below w.heap.size w ((w.alloc (.cells a A)).alloc (.cells b B)):=by
 refine ⟨(Blk.new w a A).old _,?_,balloc (balloc (Below.refl w.heap.size w) _) _⟩;have:=Blk.new (w.alloc (.cells a A)) b B
 rwa [World.size_alloc] at this
section
variable {w w':World} {pf pw:Nat} {R:Rp} {pv:Value} {Y:Sy}
theorem OPl.sy {base:Nat} {v:Value} {l:List Plc} (ho:OPl 131 w base v l) (h:SyAt w pf pw R pv Y) {F':Nat→Prop} (hs:Stp (R.Y pf pw) F' w w'):OPl 131 w' base v l:=
 own_mod ho hs.mod (fun k hk he=>by
  obtain⟨-,cur,hc⟩:=own_obj1 ho he;rcases hk with rfl | hk
  ·have hb:=h.blk;unfold Blk at hb;rw [hb] at hc
   cases hc
  ·obtain ⟨o,ho,hd⟩:=h.wd.kind hk;rw [hc] at ho;injection ho with ho;subst ho
   cases hd)
theorem SyOk.len {N:Nat} (h:SyOk Y N) (hN:N≤100000):Y.fs.ns.length≤100000:=by
 have h1:=h.fine.pl.len;have h2:=h.fine.ok.lN;omega
theorem lchoose_results {tmps:Array Value} {W:World} {B:Nat} {x:Cn} {e:Int} (hb:Blk W B #[.string x.path,.int .i64 x.dir,.int .i64 x.info,.int .i64 x.files,.int .i64 x.out,.int .i64 x.way,.string x.top] 38)
  (h8:tmps.getD 6 undef=.pointer (some ⟨B,0,none⟩)) (h9:tmps.getD 7 undef=.int .i64 e):(results Tryz.f12 tmps).run Tryz.prog W=.ok (.tuple #[x.v,.int .i64 e]) W:=by
 have q0:=hb.cell 0;have q1:=hb.cell 1;have q2:=hb.cell 2;have q3:=hb.cell 3;have q4:=hb.cell 4;have q5:=hb.cell 5;have q6:=hb.cell 6;rw [Array.getD_eq_getD_getElem?] at h8 h9;simp [results,Tryz.results12,go_sem,Cn.v,h8,h9,q0,q1,q2,q3,q4,q5,q6]
structure ChI (w:World) (pf pw:Nat) (R:Rp) (pv:Value) (u:Us) (Z:Sy) (wx:World):Prop where
 g:Goes w wx pf pw R pv Z
 us:Blk wx w.heap.size #[.int .i64 u.u,.int .i64 u.g,.string u.data] 27
 o:Blk wx (w.heap.size+1) #[.string ⟨#[]⟩,.int .i64 0,.int .i64 0,.int .i64 0,.int .i64 0,.int .i64 0,.string ⟨#[]⟩] 38
theorem ChI.keep {u:Us} {Z:Sy} {wx wy:World} (h:ChI w pf pw R pv u Z wx) (hb:Below wx.heap.size wx wy):ChI w pf pw R pv u Z wy:=⟨h.g.below hb,h.us.keep hb,h.o.keep hb⟩
theorem ChI.step {u:Us} {Z Z':Sy} {wx wy:World} (h:ChI w pf pw R pv u Z wx) {R1 R2:Rp} (h1:SyAt wx pf pw R1 pv Z) (hs:Stp (R.Y pf pw) (R1.Y pf pw) w wx) (h2:SyAt wy pf pw R2 pv Z') (hs2:Stp (R1.Y pf pw) (R2.Y pf pw) wx wy):ChI w pf pw R pv u Z' wy:=
 ⟨⟨R2,h2,hs.trans hs2⟩,h.us.sy h1 hs2 (by decide) (by decide),h.o.sy h1 hs2 (by decide) (by decide)⟩
theorem ChI.ready {u:Us} {Z:Sy} {wx:World} (h:ChI w pf pw R pv u Z wx) {N:Nat} (hk:SyOk Z N) (hN:N≤99000) (p:Plc) (hn:p.name.size≤9223372036854775807) :
  Calls Tryz.prog 56 #[.pointer (some ⟨pf,0,none⟩),.agg #[.int .i64 u.u,.int .i64 u.g,.string u.data],.agg #[.int .i64 p.dir,.string p.name,.string p.top]] wx fun e w'=>
   e=.returned (.tuple #[(Z.readyF u p).2.1.v,.int .i64 (Z.readyF u p).2.2])∧ChI w pf pw R pv u (Z.readyF u p).1 w'∧∀ v l,OPl 131 wx w.heap.size v l→OPl 131 w' w.heap.size v l:=by
 obtain⟨R1,h1,hs1⟩:=h.g;refine (lready_any h1 hk hN u p hn).mono ?_;rintro e w' ⟨he,R2,h2,hs2⟩;exact⟨he,h.step h1 hs1 h2 hs2,fun v l ho=>ho.sy h1 hs2⟩
theorem lchoose_any (h:SyAt w pf pw R pv Y) {N:Nat} (hk:SyOk Y N) (hN:N≤90000) (hd:Y.dead=false) (u:Us) (hu0:-9223372036854775808≤u.u) (hu1:u.u≤9223372036854775807) (ht:u.data.size≤100000) (no:Int) :
  Calls Tryz.prog 12 #[.pointer (some ⟨pf,0,none⟩),.agg #[.int .i64 u.u,.int .i64 u.g,.string u.data],.int .i64 no] w fun e w'=>
   e=.returned (.tuple #[(Y.chooseF u no).2.1.v,.int .i64 (Y.chooseF u no).2.2])∧Goes w w' pf pw R pv (Y.chooseF u no).1:=by
 obtain⟨hUX,hRX,hbX⟩:=boxes2 w #[.int .i64 u.u,.int .i64 u.g,.string u.data] #[.string ⟨#[]⟩,.int .i64 0,.int .i64 0,.int .i64 0,.int .i64 0,.int .i64 0,.string ⟨#[]⟩] 27 38;have HT:=Lib.hid (fun w1 (hb1:Below w.heap.size w w1)=>ttop_any (h.keep hb1) hk.fine.ok hk.fine.pl (hk.len (by omega)) hd no);have HDa:=Lib.hid (fun w1 (hb1:Below w.heap.size w w1)=>cdata_any (h.keep hb1) hk.fine.ok (by omega) hk.fine.pl hk.fine.wy hd u ht);have HSt:=Lib.hid (fun w1 (hb1:Below w.heap.size w w1) k=>sstat_any (h.keep hb1) hk.fine.ok hd k);have HRo:=Lib.hid (fun w1 (hb1:Below w.heap.size w w1) k=>wroot_any (h.wd.keep hb1) hk.fine.ok.d1 k);obtain⟨pc,-,pz⟩:=h.blk.facts;have HPC:=Lib.hid (fun w1 (hb1:Below w.heap.size w w1)=>show w1.cell? ⟨pf,0,none⟩=some (.pointer (some ⟨pw,0,none⟩)) from (hb1.cell (p:=⟨pf,0,none⟩) pz).trans (pc 0));have HCh:=Lib.hid (fun w1 (hb1:Below w.heap.size w w1) (hu:Blk w1 w.heap.size #[.int .i64 u.u,.int .i64 u.g,.string u.data] 27) (ho:Blk w1 (w.heap.size+1) #[.string ⟨#[]⟩,.int .i64 0,.int .i64 0,.int .i64 0,.int .i64 0,.int .i64 0,.string ⟨#[]⟩] 38)=>show ChI w pf pw R pv u Y w1 from ⟨Goes.of h hb1,hu,ho⟩);have HK:=Lib.hid hk;have HR:=Lib.hid (choose_eq Y u no);have HHo:=Lib.hid (show Y.homeF u (Y.fs.topF no).1=if (Y.fs.dataF false u).2=0∧Y.fs.root (Y.fs.getZ (Y.fs.dataF false u).1).dev=(Y.fs.topF no).1 then [⟨(Y.fs.dataF false u).1,nHome,ByteArray.empty⟩] else [] by unfold Sy.homeF;rw [hd]);rw [hd] at HR;have HD:=Lib.hid hd;generalize Y.chooseF u no=rd at HR ⊢;generalize Y.fs.topF no=tp at HT HR HHo;generalize Y.fs.dataF false u=da at HDa HR HHo;obtain⟨top,path,e1⟩:=tp;obtain⟨data,home⟩:=da;dsimp only at HT HR HHo HDa;have HPz:=Lib.hid pz;clear h hk hd pc pz;go_enter Tryz.func12,Tryz.ntmps12;go_upto_region 1 with fail;generalize (w.alloc (.cells #[.int .i64 u.u,.int .i64 u.g,.string u.data] 27)).alloc (.cells #[.string ⟨#[]⟩,.int .i64 0,.int .i64 0,.int .i64 0,.int .i64 0,.int .i64 0,.string ⟨#[]⟩] 38)=W0 at hUX hRX hbX ⊢;have HW0:=Lib.hid (And.intro hUX (And.intro hRX hbX));clear hUX hRX hbX;go_wp2_with fail;refine (HT.out _ HW0.out.2.2).mono ?_;rintro e w1 ⟨rfl,hb1⟩;have HW1:=Lib.hid (And.intro (HW0.out.1.keep hb1) (And.intro (HW0.out.2.1.keep hb1) (bnext HW0.out.2.2 hb1)));clear hb1;by_cases h1:e1=0
 ·have h1b:(e1 != 0)=false:=by simpa using h1
  have HE:=Lib.hid (HR.out.trans (if_neg (by simpa using h1)));subst h1;obtain⟨uc,uf,uz⟩:=HW1.out.1.facts;go_wp2_with fail;refine (HDa.out _ HW1.out.2.2).mono ?_;rintro e w2 ⟨rfl,hb2⟩;have HW2:=Lib.hid (And.intro (HW1.out.1.keep hb2) (And.intro (HW1.out.2.1.keep hb2) (bnext HW1.out.2.2 hb2)));clear hb2 uc uf uz;obtain⟨H0,hH0⟩:∃ l,Y.homeF u top=l:=⟨_,rfl⟩;rw [hH0] at HE HHo;go_upto_if 39 with fail
  go_cut [] from 13 to 70 (fun wx=>∃ (Z:Sy) (e0:Int),rd=endF u (data,home) (Z.triesF u (Z.fs.placesF false u top path) e0)∧SyOk Z (N+5)∧Z.dead=false∧ChI w pf pw R pv u Z wx)
  case first=>
   by_cases hh:home=0
   ·subst hh;have HS1:=Lib.hid (HSt.out _ HW2.out.2.2 data);rw [stZ] at HS1;generalize noneE (Y.fs.get data)=ne at HS1;generalize Y.fs.getZ data=st at HS1 HHo;go_wp2_with fail;refine HS1.out.mono ?_;rintro e w3 ⟨rfl,hb3⟩;have hSt:=Blk.new w3 #[.int .i64 st.no,.int .i64 st.dev,.int .i64 st.kind,.int .i64 st.mode,.int .i64 st.uid,.int .i64 st.gid,.int .i64 st.links,.int .i64 st.data.size,.int .i64 st.mtime,.int .i64 st.ctime] 91;have hbS:=balloc (Below.refl w3.heap.size w3) (.cells #[.int .i64 st.no,.int .i64 st.dev,.int .i64 st.kind,.int .i64 st.mode,.int .i64 st.uid,.int .i64 st.gid,.int .i64 st.links,.int .i64 st.data.size,.int .i64 st.mtime,.int .i64 st.ctime] 91);have hb4:=hb3.trans (hbS.mono hb3.size);have HW4:=Lib.hid (And.intro (HW2.out.1.keep hb4) (And.intro (HW2.out.2.1.keep hb4) (bnext HW2.out.2.2 hb4)));clear hb3 hb4 hbS;go_upto_region 7 with fail;generalize w3.alloc (.cells #[.int .i64 st.no,.int .i64 st.dev,.int .i64 st.kind,.int .i64 st.mode,.int .i64 st.uid,.int .i64 st.gid,.int .i64 st.links,.int .i64 st.data.size,.int .i64 st.mtime,.int .i64 st.ctime] 91)=W4 at hSt HW4 ⊢;have pc:=HPC.out _ HW4.out.2.2;have hpz:pf<W4.heap.size:=Nat.lt_of_lt_of_le HPz.out HW4.out.2.2.size;obtain⟨yc,yf,yz⟩:=hSt.facts;clear hSt;by_cases hr:Y.fs.root st.dev=top
    ·have hrb:(Y.fs.root st.dev == top)=true:=by simpa using hr
     have HR4:=Lib.hid (HRo.out _ HW4.out.2.2 st.dev);have HN4:=Lib.hid (show rd=restF u (data,0) top path (Y.triesF u [⟨data,nHome,ByteArray.empty⟩] 0) by rw [HE.out,HHo.out,if_pos ⟨by first | trivial | rfl,hr⟩]);rw [tries_cons] at HN4;clear hr
     go_region_held3 (fun w'=>(∀ b o,b<W4.heap.size→w'.cell? ⟨b,o,none⟩=W4.cell? ⟨b,o,none⟩)∧Below W4.heap.size W4 w') (first | with_reducible assumption | with_reducible exact keepS_here _ | with_reducible exact keepS_here2 _ | with_reducible exact keepS_call (by assumption) (by assumption) | with_reducible exact keepS_alloc (by assumption) _ | with_reducible exact keepS_allocD (by assumption) _ | with_reducible exact keepS_realloc (by assumption) (by assumption) | with_reducible exact keepS_set4 (by assumption) (by assumption))
      ((first
       | (go_at_call 55;((with_reducible refine (HRo.out _ (HW4.out.2.2.trans ((And.right ‹(∀ b o,b<W4.heap.size→_)∧Below W4.heap.size W4 _›).mono HW4.out.2.2.size)) st.dev).mono ?_);rintro e w5 ⟨rfl,rfl⟩))))
     all_goals
      have hb5:=And.right ‹(∀ b o,b<W4.heap.size→_)∧Below W4.heap.size W4 _›;have HI5:=Lib.hid ((HCh.out _ HW4.out.2.2 HW4.out.1 HW4.out.2.1).keep hb5);have HRd:=Lib.hid (HI5.out.ready HK.out (by omega) ⟨data,nHome,ByteArray.empty⟩ (by show nHome.size≤_;decide));have HK5:=Lib.hid (HK.out.readyF u ⟨data,nHome,ByteArray.empty⟩);generalize Y.readyF u ⟨data,nHome,ByteArray.empty⟩=r at HRd HK5 HN4;obtain⟨Z5,x,e5⟩:=r;unfold Cn.v nHome at HRd;dsimp only at HRd HK5 HN4;obtain⟨uc,uf,uz⟩:=HI5.out.us.facts;clear hb5 pc hpz yc yf yz;go_wp2_with fail;refine HRd.out.mono ?_;rintro e w6 ⟨rfl,hI6,-⟩;have hC:=Blk.new w6 #[.string x.path,.int .i64 x.dir,.int .i64 x.info,.int .i64 x.files,.int .i64 x.out,.int .i64 x.way,.string x.top] 38;have hbC:=balloc (Below.refl w6.heap.size w6) (.cells #[.string x.path,.int .i64 x.dir,.int .i64 x.info,.int .i64 x.files,.int .i64 x.out,.int .i64 x.way,.string x.top] 38);have HI6:=Lib.hid (hI6.keep hbC);clear hI6 hbC uc uf uz;go_upto_region 9 with fail;generalize w6.alloc (.cells #[.string x.path,.int .i64 x.dir,.int .i64 x.info,.int .i64 x.files,.int .i64 x.out,.int .i64 x.way,.string x.top] 38)=W7 at hC HI6 ⊢;obtain⟨R7,hY7,hS7⟩:=HI6.out.g;have HDd:=Lib.hid (sdead_any hY7);obtain⟨cc,cf,cz⟩:=hC.facts;obtain⟨rc,rf,rz⟩:=HI6.out.o.facts;clear hC hY7 hS7;by_cases h5:e5=0
      ·have HE5:=Lib.hid (show rd=(Z5,x,0) by rw [HN4.out,if_pos (.inl h5),h5];rfl);subst h5;go_wp2_with (exact bodyPost_ret (lchoose_results (x:=x) (e:=0) HI6.out.o.set7 rfl rfl) rfl ⟨by rw [HE5.out],by rw [HE5.out];exact HI6.out.g.set7 HI6.out.o (by omega) _ _ _ _ _ _ _⟩)
      ·have h5b:(e5 == 0)=false:=by simpa using h5
       obtain⟨dd,hdd⟩:∃ d,Z5.dead=d:=⟨_,rfl⟩;rw [hdd] at HDd
       cases dd with
       | true=>
        have HE5:=Lib.hid (show rd=(Z5,x,e5) by rw [HN4.out,if_pos (.inr hdd)];rfl);clear h5 hdd;go_wp2_with fail;refine HDd.out.mono ?_;rintro e w8 ⟨rfl,rfl⟩;go_wp2_with (exact bodyPost_ret (lchoose_results (x:=x) (e:=e5) HI6.out.o.set7 rfl rfl) rfl ⟨by rw [HE5.out],by rw [HE5.out];exact HI6.out.g.set7 HI6.out.o (by omega) _ _ _ _ _ _ _⟩)
       | false=>
        have HE5:=Lib.hid (show rd=endF u (data,0) (Z5.triesF u (Z5.fs.placesF false u top path) e5) by rw [HN4.out,if_neg (by rintro (h | h);exact h5 h;rw [hdd] at h;cases h)];unfold restF;rw [if_neg (by simp [Sy.triesF])];show endF _ _ (Z5.triesF u (Z5.fs.placesF Z5.dead u top path) e5)=_;rw [hdd]);have HZ5:=Lib.hid hdd;clear h5 hdd;go_wp2_with fail;refine HDd.out.mono ?_;rintro e w8 ⟨rfl,rfl⟩;go_wp2_with fail;go_meet;exact⟨Z5,e5,HE5.out,HK5.out,HZ5.out,HI6.out⟩
    ·have hrb:(Y.fs.root st.dev == top)=false:=by simpa using hr
     have HN4:=Lib.hid (show H0=[] by rw [HHo.out,if_neg (fun h=>hr h.2)]);clear hr
     go_region_held3 (fun w'=>(∀ b o,b<W4.heap.size→w'.cell? ⟨b,o,none⟩=W4.cell? ⟨b,o,none⟩)∧Below W4.heap.size W4 w') (first | with_reducible assumption | with_reducible exact keepS_here _ | with_reducible exact keepS_here2 _ | with_reducible exact keepS_call (by assumption) (by assumption) | with_reducible exact keepS_alloc (by assumption) _ | with_reducible exact keepS_allocD (by assumption) _ | with_reducible exact keepS_realloc (by assumption) (by assumption) | with_reducible exact keepS_set4 (by assumption) (by assumption))
      ((first
       | (go_at_call 55;((with_reducible refine (HRo.out _ (HW4.out.2.2.trans ((And.right ‹(∀ b o,b<W4.heap.size→_)∧Below W4.heap.size W4 _›).mono HW4.out.2.2.size)) st.dev).mono ?_);rintro e w5 ⟨rfl,rfl⟩))))
     all_goals
      have hb5:=And.right ‹(∀ b o,b<W4.heap.size→_)∧Below W4.heap.size W4 _›;have HB5:=Lib.hid hb5;clear hb5 pc hpz yc yf yz;go_wp2_with fail;go_meet;exact⟨Y,0,by rw [HE.out,HN4.out];unfold restF;rw [if_neg (by simp [Sy.triesF])];show endF _ _ (Y.triesF u (Y.fs.placesF Y.dead u top path) 0)=_;rw [HD.out],HK.out.mono (by omega),HD.out,(HCh.out _ HW4.out.2.2 HW4.out.1 HW4.out.2.1).keep HB5.out⟩
   ·have hhb:(home == 0)=false:=by simpa using hh
    have HN4:=Lib.hid (show H0=[] by rw [HHo.out,if_neg (fun h=>hh h.1)]);clear hh;go_wp2_with fail;go_meet;exact⟨Y,0,by rw [HE.out,HN4.out];unfold restF;rw [if_neg (by simp [Sy.triesF])];show endF _ _ (Y.triesF u (Y.fs.placesF Y.dead u top path) 0)=_;rw [HD.out],HK.out.mono (by omega),HD.out,HCh.out _ HW2.out.2.2 HW2.out.1 HW2.out.2.1⟩
  case rest=>
   obtain⟨Z,e0,hrd,hok,hzd,hI⟩:=hcut;generalize wc=w3 at hI ⊢;have HRd:=Lib.hid hrd;have HI:=Lib.hid hI;obtain⟨R3,hY3,hS3⟩:=hI.g;have HPl:=Lib.hid (cplaces_any hY3 hok.fine.ok (by omega) hzd u hu0 hu1 top path);have hps:=places_len Z.fs false u top path;have HNm:=Lib.hid (place_names (S:=Z.fs) (d:=false) (u:=u) (top:=top) (path:=path) hu0 hu1);generalize Z.fs.placesF false u top path=ps at HPl hps HNm HRd;have hsz:w.heap.size≤w3.heap.size:=hS3.mod.size;obtain⟨uc,uf,uz⟩:=hI.us.facts;have HOk:=Lib.hid hok;have HZd:=Lib.hid hzd;clear hrd hI hY3 hS3 hok hzd;go_wp2_with fail;refine HPl.out.mono ?_;rintro e w4 ⟨v,rfl,hP4,hb4⟩;obtain⟨qa,qc,rfl,hq1,hq2,-⟩:=own_form hP4;obtain⟨qb,qo,rfl,-,-⟩:=slice_row plC_len hP4.at 0 (by omega);have HP4:=Lib.hid (show OPl 131 w4 w.heap.size (.slice (some ⟨qb,qo,none⟩) ps.length qc) ps from own_low hP4 hsz);have HI4:=Lib.hid (HI.out.keep hb4);clear hP4 hb4 uc uf uz;go_wp2_with fail
   go_loopw [10,77] (fun t10 t77 wr=>∃ (k:Nat) (Zk:Sy) (ek:Int),k≤ps.length∧t10=.int .i64 ek∧t77=.int .i64 k∧Z.triesF u ps e0=Zk.triesF u (ps.drop k) ek∧SyOk Zk (N+5+5*k)∧Zk.dead=false∧ChI w pf pw R pv u Zk wr∧OPl 131 wr w.heap.size (.slice (some ⟨qb,qo,none⟩) ps.length qc) ps) (fun _ t77 _=>ps.length - (intOf t77).toNat)
   case atStart=>exact ⟨0,Z,0,by omega,rfl,rfl,by cases ps with | nil=>simp at hps | cons p l=>rfl,HOk.out,HZd.out,HI4.out,HP4.out⟩
   case round=>
    obtain⟨k,Zk,ek,hk,rfl,rfl,htr,hok,hzd,hI,hP⟩:=hrel;have HIr:=Lib.hid hI;have HPr:=Lib.hid hP;by_cases hlt:k<ps.length
    ·obtain ⟨b,off,he,hbl,hc⟩:=slice_row plC_len hP.at k hlt;injection he with he;injection he with he1 he2;subst he1 he2;have c0:wr.cell? ⟨qb,qo+k*3,none⟩=some (.int .i64 ps[k].dir):=hc 0 (by decide);have c1:wr.cell? ⟨qb,qo+k*3+1,none⟩=some (.string ps[k].name):=hc 1 (by decide);have c2:wr.cell? ⟨qb,qo+k*3+2,none⟩=some (.string ps[k].top):=hc 2 (by decide);have hnm:=HNm.out ps[k] (List.getElem_mem hlt);have HT1:=Lib.hid (show Z.triesF u ps e0=if (Zk.readyF u ps[k]).2.2=0∨(Zk.readyF u ps[k]).1.dead=true then ((Zk.readyF u ps[k]).1,true,(Zk.readyF u ps[k]).2.1,(Zk.readyF u ps[k]).2.2) else (Zk.readyF u ps[k]).1.triesF u (ps.drop (k+1)) (Zk.readyF u ps[k]).2.2 by rw [htr,List.drop_eq_getElem_cons hlt,tries_cons]);generalize ps[k]=p at c0 c1 c2 hnm HT1;have hbp:=balloc (Below.refl wr.heap.size wr) (.cells #[.int .i64 p.dir,.string p.name,.string p.top] 131);have hBp:=Blk.new wr #[.int .i64 p.dir,.string p.name,.string p.top] 131;have HI5:=Lib.hid (hI.keep hbp);have HP5:=Lib.hid (hP.keep hbp);have HRy:=Lib.hid (HI5.out.ready hok (by omega) p hnm);have HK5:=Lib.hid (hok.readyF u p);generalize Zk.readyF u p=r at HRy HK5 HT1;obtain⟨Z5,x,e5⟩:=r;unfold Cn.v at HRy;dsimp only at HRy HK5 HT1;obtain⟨uc,uf,uz⟩:=hI.us.facts;clear hc hI hP hok htr hnm hzd;go_upto_region 14 with fail;generalize wr.alloc (.cells #[.int .i64 p.dir,.string p.name,.string p.top] 131)=W5 at hbp hBp HI5 HP5 HRy ⊢;obtain⟨bc,bf,bz⟩:=hBp.facts;clear uc uf uz c0 c1 c2;obtain⟨uc,uf,uz⟩:=HI5.out.us.facts;clear hbp hBp;go_wp2_with fail;refine HRy.out.mono ?_;rintro e w6 ⟨rfl,hI6,hP6⟩;have hC:=Blk.new w6 #[.string x.path,.int .i64 x.dir,.int .i64 x.info,.int .i64 x.files,.int .i64 x.out,.int .i64 x.way,.string x.top] 38;have hbC:=balloc (Below.refl w6.heap.size w6) (.cells #[.string x.path,.int .i64 x.dir,.int .i64 x.info,.int .i64 x.files,.int .i64 x.out,.int .i64 x.way,.string x.top] 38);have HI6:=Lib.hid (hI6.keep hbC);have HP6:=Lib.hid ((hP6 _ _ HP5.out).keep hbC);clear hI6 hP6 hbC uc uf uz bc bf bz;go_upto_region 15 with fail;generalize w6.alloc (.cells #[.string x.path,.int .i64 x.dir,.int .i64 x.info,.int .i64 x.files,.int .i64 x.out,.int .i64 x.way,.string x.top] 38)=W7 at hC HI6 HP6 ⊢;obtain⟨R7,hY7,hS7⟩:=HI6.out.g;have HDd:=Lib.hid (sdead_any hY7);obtain⟨cc,cf,cz⟩:=hC.facts;obtain⟨rc,rf,rz⟩:=HI6.out.o.facts;clear hC hY7 hS7;by_cases h5:e5=0
     ·have HE5:=Lib.hid (show rd=(Z5,x,0) by rw [HRd.out,HT1.out,if_pos (.inl h5),h5];rfl);subst h5;go_wp2_with (exact bodyPost_ret (lchoose_results (x:=x) (e:=0) HI6.out.o.set7 rfl rfl) rfl ⟨by rw [HE5.out],by rw [HE5.out];exact HI6.out.g.set7 HI6.out.o (by omega) _ _ _ _ _ _ _⟩)
     ·have h5b:(e5 == 0)=false:=by simpa using h5
      obtain⟨dd,hdd⟩:∃ d,Z5.dead=d:=⟨_,rfl⟩;rw [hdd] at HDd
      cases dd with
      | true=>
       have HE5:=Lib.hid (show rd=(Z5,x,e5) by rw [HRd.out,HT1.out,if_pos (.inr hdd)];rfl);clear h5 hdd;go_wp2_with fail;refine HDd.out.mono ?_;rintro e w8 ⟨rfl,rfl⟩;go_wp2_with (exact bodyPost_ret (lchoose_results (x:=x) (e:=e5) HI6.out.o.set7 rfl rfl) rfl ⟨by rw [HE5.out],by rw [HE5.out];exact HI6.out.g.set7 HI6.out.o (by omega) _ _ _ _ _ _ _⟩)
      | false=>
       have HT2:=Lib.hid (HT1.out.trans (if_neg (by rintro (h | h);exact h5 h;rw [hdd] at h;cases h)));have HZ5:=Lib.hid hdd;clear h5 hdd cc cf cz rc rf rz;go_wp2_with fail;refine HDd.out.mono ?_;rintro e w8 ⟨rfl,rfl⟩;go_wp2_with fail;go_roundw
       case measure=>simp [intOf];omega
       case rel=>exact ⟨k+1,Z5,e5,by omega,rfl,by go_num,HT2.out,HK5.out,HZ5.out,HI6.out,HP6.out⟩
    ·obtain rfl:k=ps.length:=by omega
     have HE6:=Lib.hid (show rd=endF u (data,home) (Zk,false,cn0,ek) by rw [HRd.out,htr,List.drop_length];rfl);have HK6:=Lib.hid hok;clear htr hok hP hzd;by_cases hh:home=0
     ·have hhb:(home != 0)=false:=by simpa using hh
      have HE7:=Lib.hid (show rd=Zk.readyF u ⟨data,nHome,ByteArray.empty⟩ by rw [HE6.out];unfold endF;rw [if_neg (by simp),if_neg (by simpa using hh)]);have HRy:=Lib.hid (HIr.out.ready HK6.out (by omega) ⟨data,nHome,ByteArray.empty⟩ (by show nHome.size≤_;decide));generalize Zk.readyF u ⟨data,nHome,ByteArray.empty⟩=r at HRy HE7;obtain⟨Z5,x,e5⟩:=r;unfold Cn.v nHome at HRy;dsimp only at HRy;obtain⟨uc,uf,uz⟩:=hI.us.facts;clear hI hh;go_wp2_with fail;refine HRy.out.mono ?_;rintro e w6 ⟨rfl,hI6,-⟩;have HI6:=Lib.hid hI6;obtain⟨rc,rf,rz⟩:=hI6.o.facts;clear hI6 uc uf uz;go_wp2_with (exact bodyPost_ret (lchoose_results (x:=x) (e:=e5) HI6.out.o.set7 rfl rfl) rfl ⟨by rw [HE7.out],by rw [HE7.out];exact HI6.out.g.set7 HI6.out.o (by omega) _ _ _ _ _ _ _⟩)
     ·have hhb:(home != 0)=true:=by simpa using hh
      have HE7:=Lib.hid (show rd=(Zk,cn0,ek) by rw [HE6.out];unfold endF;rw [if_neg (by simp),if_pos hh]);obtain⟨rc,rf,rz⟩:=hI.o.facts;clear hI hh;go_wp2_with (exact bodyPost_ret (lchoose_results (x:=cn0) (e:=ek) HIr.out.o.set7 rfl rfl) rfl ⟨by rw [HE7.out],by rw [HE7.out];exact HIr.out.g.set7 HIr.out.o (by omega) _ _ _ _ _ _ _⟩)
 ·have h1b:(e1 != 0)=true:=by simpa using h1
  have HE:=Lib.hid (HR.out.trans (if_pos h1));clear h1;obtain⟨rc,rf,rz⟩:=HW1.out.2.1.facts;go_wp2_with (exact bodyPost_ret (lchoose_results (x:=cn0) (e:=e1) HW1.out.2.1.set7 rfl rfl) rfl ⟨by rw [HE.out],by rw [HE.out];exact (HCh.out _ HW1.out.2.2 HW1.out.1 HW1.out.2.1).g.set7 HW1.out.2.1 (by omega) _ _ _ _ _ _ _⟩)
end
end
section
open Go.RowKit
theorem openF_err {S:Fs} {d:Bool} {u:Us} {p:Plc} (h:(S.openF d u p).2≠0):(S.openF d u p).1=cn0:=by
 unfold Fs.openF at h ⊢
 split at h
 ·rename_i h1;rw [if_pos h1]
 ·rename_i h1;rw [if_neg h1];unfold Fs.openK4 at h ⊢
  split at h
  ·rename_i h2;rw [if_pos h2]
  ·rename_i h2;rw [if_neg h2];unfold Fs.openK3 at h ⊢
   split at h
   ·rename_i h3;rw [if_pos h3]
   ·rename_i h3;rw [if_neg h3];unfold Fs.openK2 at h ⊢
    split at h
    ·rename_i h4;rw [if_pos h4]
    ·rename_i h4;rw [if_neg h4];unfold Fs.openK1 at h ⊢
     split at h
     ·rename_i h5;rw [if_pos h5]
     ·rename_i h5;rw [if_neg h5];unfold Fs.openK0 at h ⊢
      split at h
      ·rfl
      ·exact absurd rfl h
theorem ready_err {Y:Sy} {u:Us} {p:Plc} (h:(Y.readyF u p).2.2≠0):(Y.readyF u p).2.1=cn0:=by
 unfold Sy.readyF at h ⊢;dsimp only at h ⊢
 split at h
 ·rename_i h1;rw [if_pos h1]
 ·rename_i h1;rw [if_neg h1]
  split at h
  ·rename_i h2;rw [if_pos h2]
  ·rename_i h2;rw [if_neg h2];exact openF_err h
def homeP (h:Int×Int):List Plc:=if h.2=0 then [⟨h.1,nHome,ByteArray.empty⟩] else []
def stL (u:Us) (h:Int×Int) (top:Int) (path:ByteArray) (H0:List Plc) (Z:Sy):Nat→List Plc
 | 0=>H0
 | 1=>Z.fs.placesF Z.dead u top path
 | _=>homeP h
def contF (b:Sy×Bool×Cn×Int) (g:Sy→Int→Sy×Cn×Int):Sy×Cn×Int:=if b.2.1=true then (b.1,b.2.2) else g b.1 b.2.2.2
def stG (u:Us) (h:Int×Int) (top:Int) (path:ByteArray) (H0:List Plc):Nat→Nat→Sy→Int→Sy×Cn×Int
 | 0,_,Z,e=>(Z,cn0,e)
 | n+1,k,Z,e=>contF (Z.triesF u (stL u h top path H0 Z k) e) (stG u h top path H0 n (k+1))
theorem cont_ready (u:Us) (p:Plc) (Z:Sy) (e:Int):contF (Z.triesF u [p] e) (fun Z e=>(Z,cn0,e))=Z.readyF u p:=by
 rw [tries_cons];unfold contF;by_cases h:(Z.readyF u p).2.2=0∨(Z.readyF u p).1.dead=true
 ·rw [if_pos h,if_pos rfl]
 ·rw [if_neg h];have h1:=ready_err (Y:=Z) (u:=u) (p:=p) (fun k=>h (.inl k));rw [Sy.triesF,if_neg (by simp)];show ((Z.readyF u p).1,cn0,(Z.readyF u p).2.2)=_;rw [←h1]
theorem stG_succ (u:Us) (h:Int×Int) (top:Int) (path:ByteArray) (H0:List Plc) (n k:Nat) (Z:Sy) (e:Int):stG u h top path H0 (n+1) k Z e=contF (Z.triesF u (stL u h top path H0 Z k) e) (stG u h top path H0 n (k+1)):=rfl
theorem choose_st (Y:Sy) (u:Us) (no:Int):Y.chooseF u no=if (Y.fs.topF no).2.2≠0 then (Y,cn0,(Y.fs.topF no).2.2) else stG u (Y.fs.dataF Y.dead u) (Y.fs.topF no).1 (Y.fs.topF no).2.1 (Y.homeF u (Y.fs.topF no).1) 3 0 Y 0:=by
 rw [choose_eq];congr 1;generalize Y.fs.dataF Y.dead u=h;generalize Y.homeF u (Y.fs.topF no).1=H0;generalize (Y.fs.topF no).1=top;generalize (Y.fs.topF no).2.1=path;rw [stG_succ,show stL u h top path H0 Y 0=H0 from rfl];generalize Y.triesF u H0 0=a;unfold restF contF;by_cases ha:a.2.1=true
 ·rw [if_pos ha,if_pos ha]
 ·rw [if_neg ha,if_neg ha,stG_succ,show stL u h top path H0 a.1 (0+1)=a.1.fs.placesF a.1.dead u top path from rfl];generalize a.1.triesF u (a.1.fs.placesF a.1.dead u top path) a.2.2.2=b;unfold endF;show _=if b.2.1=true then (b.1,b.2.2) else _;by_cases hb:b.2.1=true
  ·rw [if_pos hb,if_pos hb]
  ·rw [if_neg hb,if_neg hb,stG_succ,show stL u h top path H0 b.1 (0+1+1)=homeP h from rfl];unfold homeP;by_cases h0:h.2=0
   ·rw [if_neg (by simpa using h0),if_pos h0];exact (cont_ready _ _ _ _).symm
   ·rw [if_pos h0,if_neg h0];rfl
end
section
open Go.RowKit
section
variable {w w':World} {B pf:Nat} {R:Rf} {Y:Sy}
theorem OPl.ry {base:Nat} {v:Value} {l:List Plc} (ho:OPl 153 w base v l) (h:RyAt w B pf R Y) {F':Nat→Prop} (hs:Stp (R.F pf) F' w w'):OPl 153 w' base v l:=
 own_mod ho hs.mod (fun k hk he=>by
  obtain⟨-,cur,hc⟩:=own_obj1 ho he;obtain⟨o,ho,hd⟩:=h.r.kind hk;rw [hc] at ho;injection ho with ho;subst ho
  cases hd)
theorem rchoose_results {tmps:Array Value} {W:World} {b:Nat} {x:Cn} {e:Int} (hb:Blk W b #[.string x.path,.int .i64 x.dir,.int .i64 x.info,.int .i64 x.files,.int .i64 x.out,.int .i64 x.way,.string x.top] 38)
  (h8:tmps.getD 6 undef=.pointer (some ⟨b,0,none⟩)) (h9:tmps.getD 7 undef=.int .i64 e):(results Tryz.f21 tmps).run Tryz.prog W=.ok (.tuple #[x.v,.int .i64 e]) W:=by
 have q0:=hb.cell 0;have q1:=hb.cell 1;have q2:=hb.cell 2;have q3:=hb.cell 3;have q4:=hb.cell 4;have q5:=hb.cell 5;have q6:=hb.cell 6;rw [Array.getD_eq_getD_getElem?] at h8 h9;simp [results,Tryz.results21,go_sem,Cn.v,h8,h9,q0,q1,q2,q3,q4,q5,q6]
structure ChR (w:World) (B pf:Nat) (R:Rf) (u:Us) (Z:Sy) (wx:World):Prop where
 g:GoesR w wx B pf R Z
 us:Blk wx w.heap.size #[.int .i64 u.u,.int .i64 u.g,.string u.data] 27
 o:Blk wx (w.heap.size+1) #[.string ⟨#[]⟩,.int .i64 0,.int .i64 0,.int .i64 0,.int .i64 0,.int .i64 0,.string ⟨#[]⟩] 38
theorem ChR.keep {u:Us} {Z:Sy} {wx wy:World} (h:ChR w B pf R u Z wx) (hb:Below wx.heap.size wx wy):ChR w B pf R u Z wy:=⟨h.g.below hb,h.us.keep hb,h.o.keep hb⟩
theorem ChR.size {u:Us} {Z:Sy} {wx:World} (h:ChR w B pf R u Z wx):w.heap.size≤wx.heap.size:=by have:=h.us.lt;omega
theorem ChR.step {u:Us} {Z Z':Sy} {wx wy:World} (h:ChR w B pf R u Z wx) {R1 R2:Rf} (h1:RyAt wx B pf R1 Z) (hs:Stp (R.F pf) (R1.F pf) w wx) (h2:RyAt wy B pf R2 Z') (hs2:Stp (R1.F pf) (R2.F pf) wx wy):ChR w B pf R u Z' wy:=
 ⟨⟨R2,h2,hs.trans hs2⟩,h.us.ry h1 hs2 (by decide),h.o.ry h1 hs2 (by decide)⟩
theorem ChR.ready {u:Us} {Z:Sy} {wx:World} (h:ChR w B pf R u Z wx) {N:Nat} (hk:SyOk Z N) (hN:N≤80000) (p:Plc) (hn:p.name.size≤100000) :
  Calls Tryz.prog 69 #[.pointer (some ⟨pf,0,none⟩),.agg #[.int .i64 u.u,.int .i64 u.g,.string u.data],.agg #[.int .i64 p.dir,.string p.name,.string p.top]] wx fun e w'=>
   e=.returned (.tuple #[(Z.readyF u p).2.1.v,.int .i64 (Z.readyF u p).2.2])∧ChR w B pf R u (Z.readyF u p).1 w'∧(∀ v l,OPl 153 wx w.heap.size v l→OPl 153 w' w.heap.size v l)∧∀ b vs,Blk wx b vs 38→Blk w' b vs 38:=by
 obtain⟨R1,h1,hs1⟩:=h.g;refine (rready_any h1 hk hN u p hn).mono ?_;rintro e w' ⟨he,R2,h2,hs2⟩;exact⟨he,h.step h1 hs1 h2 hs2,fun v l ho=>ho.ry h1 hs2,fun b vs hb=>hb.ry h1 hs2 (by decide)⟩
theorem set7_mod {A:World} {b:Nat} (v0 v1 v2 v3 v4 v5 v6:Value):Mod (fun k=>k=b) A (((((((A.setCell ⟨b,0,none⟩ v0).setCell ⟨b,1,none⟩ v1).setCell ⟨b,2,none⟩ v2).setCell ⟨b,3,none⟩ v3).setCell ⟨b,4,none⟩ v4).setCell ⟨b,5,none⟩ v5).setCell ⟨b,6,none⟩ v6):=
 (((((((Mod.refl (fun k=>k=b) A).setCell (a:=⟨b,0,none⟩) (.inl rfl) v0).setCell (a:=⟨b,1,none⟩) (.inl rfl) v1).setCell (a:=⟨b,2,none⟩) (.inl rfl) v2).setCell (a:=⟨b,3,none⟩) (.inl rfl) v3).setCell (a:=⟨b,4,none⟩) (.inl rfl) v4).setCell (a:=⟨b,5,none⟩) (.inl rfl) v5).setCell (a:=⟨b,6,none⟩) (.inl rfl) v6
theorem ChR.fill {u:Us} {Z:Sy} {wx:World} (h:ChR w B pf R u Z wx) (hBw:B≤w.heap.size) {b:Nat} {vs:Array Value} (hB:Blk wx b vs 38) (hb:w.heap.size+1<b) (v0 v1 v2 v3 v4 v5 v6:Value) :
  ChR w B pf R u Z (((((((wx.setCell ⟨b,0,none⟩ v0).setCell ⟨b,1,none⟩ v1).setCell ⟨b,2,none⟩ v2).setCell ⟨b,3,none⟩ v3).setCell ⟨b,4,none⟩ v4).setCell ⟨b,5,none⟩ v5).setCell ⟨b,6,none⟩ v6):=
 ⟨h.g.set7 hBw hB (by omega) v0 v1 v2 v3 v4 v5 v6,h.us.mod (set7_mod v0 v1 v2 v3 v4 v5 v6) (by omega),h.o.mod (set7_mod v0 v1 v2 v3 v4 v5 v6) (by omega)⟩
theorem OPl.fill {wx:World} {base:Nat} {v:Value} {l:List Plc} (ho:OPl 153 wx base v l) {b:Nat} {vs:Array Value} (hB:Blk wx b vs 38) (v0 v1 v2 v3 v4 v5 v6:Value) :
  OPl 153 (((((((wx.setCell ⟨b,0,none⟩ v0).setCell ⟨b,1,none⟩ v1).setCell ⟨b,2,none⟩ v2).setCell ⟨b,3,none⟩ v3).setCell ⟨b,4,none⟩ v4).setCell ⟨b,5,none⟩ v5).setCell ⟨b,6,none⟩ v6) base v l:=
 own_mod ho (set7_mod v0 v1 v2 v3 v4 v5 v6) (fun k hk he=>by
  obtain⟨-,hc⟩:=own_obj1 ho he;exact rf_apart hc hB (by decide) hk.symm)
structure SRd (w':World) (B b o:Nat) (u:Us) (p:Plc):Prop where
 us:Blk w' B #[.int .i64 u.u,.int .i64 u.g,.string u.data] 27
 c0:w'.cell? ⟨b,o,none⟩=some (.int .i64 p.dir)
 c1:w'.cell? ⟨b,o+1,none⟩=some (.string p.name)
 c2:w'.cell? ⟨b,o+2,none⟩=some (.string p.top)
theorem SRd.of {w':World} {base Bu b off c:Nat} {u:Us} {L:List Plc} (hu:Blk w' Bu #[.int .i64 u.u,.int .i64 u.g,.string u.data] 27) (ho:OPl 153 w' base (.slice (some ⟨b,off,none⟩) L.length c) L) (i:Nat) (hi:i<L.length):SRd w' Bu b (off+i*3) u L[i]:=by
 obtain⟨b',off',he,-,hc⟩:=slice_row plC_len ho.at i hi;injection he with he;injection he with e1 e2;subst e1 e2;exact⟨hu,hc 0 (by decide),hc 1 (by decide),hc 2 (by decide)⟩
theorem plc_names {S:Fs} {d:Bool} {u:Us} {top:Int} {path:ByteArray} (hu0:-9223372036854775808≤u.u) (hu1:u.u≤9223372036854775807):∀ p∈S.placesF d u top path,p.name.size≤100000:=by
 have hd:(decB u.u).size≤21:=by
  unfold decB;rw [str_size];exact (decL_len u.u hu0 hu1).1
 intro p hp;unfold Fs.placesF at hp;rw [List.mem_append] at hp;rcases hp with hp | hp
 ·split at hp
  ·rw [List.mem_singleton] at hp;subst hp;show (decB u.u).size≤_;omega
  ·cases hp
 ·rw [List.mem_singleton] at hp;subst hp;show (nSharedU u.u).size≤_;unfold nSharedU;rw [ByteArray.size_append];have:(ByteArray.mk #[46,84,114,97,115,104,45]).size=7:=rfl;omega
theorem homeP_len (h:Int×Int):(homeP h).length≤1:=by unfold homeP;split <;> simp
theorem homeP_names (h:Int×Int):∀ p∈homeP h,p.name.size≤100000:=by
 intro p hp;unfold homeP at hp
 split at hp
 ·rw [List.mem_singleton] at hp;subst hp;show nHome.size≤_;decide
 ·cases hp
end
end
section
open Go
section
variable {P:Program} {ops:Array Oper} {Q:Exit→Act→World→Prop} {md:Region.Mode} {S:World→Prop}
theorem reg_take (i d:Nat) {oi:Oper} {v:Value} {fuel:Nat} {listed:Array Bool} {tmps:Array Value} {defers:List Deferred} {w:World} (hi:ops[i]? = some oi) (hd:oi.dst=some d)
  (hs:Region.noSelect ops=true) (hf:Region.free md ops listed i=true) (hr:(Region.ready md ops listed).contains i=true)
  (hQ:∀ c a w,Q (.panic c) (a.put oi.dst v) w→Q (.panic c) a w) (hw:Region.wanted oi (yielded ops tmps)=true) (hy:∀ w,S w→(execOp (Act.eval {tmps,defers}) oi).run P w=.ok (.value v) w) (hS:S w)
  (h:wpAnyH P md ops Q S fuel (listed.setIfInBounds i true) {tmps:=tmps.setIfInBounds d v,defers} w):wpAnyH P md ops Q S (fuel+1) listed {tmps,defers} w:=
 wpAnyH_take hi hs hf hr hQ (Or.inl ⟨hw,hy⟩) hS (by rw [hd];exact h)
theorem reg_call (i d:Nat) {oi:Oper} {fuel:Nat} {listed:Array Bool} {tmps:Array Value} {defers:List Deferred} {w:World} (hr:Region.ready md ops listed=[i]) (hi:ops[i]? = some oi) (hd:oi.dst=some d)
  (hw:Region.wanted oi (yielded ops tmps)=true) {f:FuncId} {args:Array Value} (he:(execOp (Act.eval {tmps,defers}) oi).run P w=.ok (.enter f args) w) {R:Value→World→Prop}
  (hc:Calls P f args w fun e w'=>∃ v,e=.returned v∧R v w') (hS:∀ v w',R v w'→S w')
  (h:∀ v w',R v w'→wpAnyH P md ops Q S fuel (listed.setIfInBounds i true) {tmps:=tmps.setIfInBounds d v,defers} w'):wpAnyH P md ops Q S (fuel+1) listed {tmps,defers} w:=by
 refine wpAnyH_ready hr (by simp) (AllReadyH.cons hi (fun K hK=>?_) AllReadyH.nil);rw [if_pos hw];unfold Oper.wp;rw [he];refine hc.mono ?_;rintro e w' ⟨v,rfl,hR⟩;have:=h v w' hR;refine hK.out _ _ (hS v w' hR) (fun _=>?_);rw [hd];exact this
end
end
section
open Go
section
variable {P:Program} {ops:Array Oper} {Q:Exit→Act→World→Prop} {md:Region.Mode} {S:World→Prop}
end
end
section
open Go
section
variable {P:Program} {ops:Array Oper} {md:Region.Mode} {l:Nat} {n:Nat} {Q:Exit→Act→World→Prop}
theorem rowsIn_of {row:String} {args:Array Value} {w:World} {R:Value→World→Prop} (h:Rows P row args w R):RowsIn Fence.wide n P row args w R:=
 fun c cs _=>let ⟨v,w',r,s⟩:=h c cs;⟨v,w',r,stepsIn_wide.2 s⟩
theorem operIn_of {o:Oper} (hd:∀ c,o.op≠.defer c) {a:Act} {w:World} {K K':Act→World→Prop} (hK:∀ a w,K a w→K' a w) (h:o.wp P a w K Q):o.wpIn (Fence.wide.inRound l) n P a w K' Q:=by
 unfold Oper.wp at h;unfold Oper.wpIn;refine ⟨fun _ _=>trivial,?_⟩;rw [Fence.inRound_round,Oper.semAt_some l _ o hd];generalize (execOp a.eval o).run P w=r at *
 cases r with
 | ok m w'=>
  cases m with
  | value v=>exact hK _ _ h
  | skip=>exact hK _ _ h
  | defer d=>exact hK _ _ h
  | enter f args=>
   refine ⟨fun h=>by simp [Fence.wide] at h,?_⟩;refine CallsIn.inRound l (callsIn_wide.2 (Calls.mono h fun e w'' he=>?_))
   cases e with
   | returned v=>exact hK _ _ he
   | panicked c=>exact he
   | outgrown=>exact he
  | row row args=>
   refine ⟨fun h=>by simp [Fence.wide] at h,?_⟩;exact (rowsIn_of h).mono fun v w'' hv=>hK _ _ hv
  | _=>exact h.elim
 | halt x w'=>
  cases x with
  | panic v=>exact h
  | _=>exact h.elim
theorem anyIn_of (hd:noDefer ops=true) (hno:¬ LetsOut Q):∀ (fuel:Nat) (listed:Array Bool) (a:Act) (w:World),wpAny P md ops Q fuel listed a w→wpAnyIn (Fence.wide.inRound l) n P md ops Q fuel listed a w
 | 0,_,_,_,h=>h
 | fuel+1,listed,a,w,h=>by
  refine ⟨h.1,fun i hi=>?_⟩;have h2:=h.2 i hi;unfold wpOp at h2;unfold wpOpIn
  cases ho:ops[i]? with
  | none=>rw [ho] at h2;exact anyIn_of hd hno fuel _ _ _ h2
  | some o=>
   rw [ho] at h2;simp only at h2 ⊢
   split
   ·rename_i hw;rw [if_pos hw] at h2;rcases h2 with h2 | ⟨-,h2⟩
    ·exact operIn_of (noDefer_spec hd ho) (fun a w h=>anyIn_of hd hno fuel _ a w h) h2
    ·exact absurd h2 hno
   ·rename_i hw;rw [if_neg hw] at h2;exact⟨fun _ _=>trivial,anyIn_of hd hno fuel _ _ _ h2⟩
theorem wpIn_region_held_round {S:World→Prop} {id:Nat} {a:Act} {w:World} (hm:P.follows .mixedOrders=true) (hd:noDefer ops=true) (hno:¬ LetsOut Q) (hS:S w.drew)
  (h:S w.drew→wpAnyH P .any ops Q S ops.size (Array.replicate ops.size false) a w.drew):(Code.region id ops true).wpIn (Fence.wide.inRound l) n P Q a w:=
 wpIn_region_any hm (anyIn_of hd hno _ _ _ _ (wpAny_of_held _ _ _ _ (h hS)))
section
variable {S:World→Prop} {oi:Oper} {fuel:Nat} {listed:Array Bool} {tmps:Array Value} {defers:List Deferred} {w W:World} {v:Value}
theorem reg_alone (i d:Nat) (hr:Region.ready md ops listed=[i]) (hi:ops[i]? = some oi) (hd:oi.dst=some d) (hw:Region.wanted oi (yielded ops tmps)=true)
  (he:(execOp (Act.eval {tmps,defers}) oi).run P w=.ok (.value v) W) (hS:S W) (h:wpAnyH P md ops Q S fuel (listed.setIfInBounds i true) {tmps:=tmps.setIfInBounds d v,defers} W):wpAnyH P md ops Q S (fuel+1) listed {tmps,defers} w:=by
 refine wpAnyH_ready hr (by simp) (AllReadyH.cons hi (fun K hK=>?_) AllReadyH.nil);rw [if_pos hw];unfold Oper.wp;rw [he];refine hK.out _ _ hS (fun _=>?_);rw [hd];exact h
theorem reg_store (i:Nat) (hr:Region.ready md ops listed=[i]) (hi:ops[i]? = some oi) (hd:oi.dst=none) (hw:Region.wanted oi (yielded ops tmps)=true)
  (he:(execOp (Act.eval {tmps,defers}) oi).run P w=.ok (.skip) W) (hS:S W) (h:wpAnyH P md ops Q S fuel (listed.setIfInBounds i true) {tmps,defers} W):wpAnyH P md ops Q S (fuel+1) listed {tmps,defers} w:=by
 refine wpAnyH_ready hr (by simp) (AllReadyH.cons hi (fun K hK=>?_) AllReadyH.nil);rw [if_pos hw];unfold Oper.wp;rw [he];refine hK.out _ _ hS (fun _=>?_);rw [hd];exact h
end
end
end
section
open Go.RowKit
section
variable {P:Program} {ops:Array Oper} {Q:Exit→Act→World→Prop} {md:Region.Mode} {S:World→Prop}
theorem reg_call_make (j dj i di:Nat) {oi oj:Oper} {fuel:Nat} {listed:Array Bool} {tmps:Array Value} {defers:List Deferred} {w Wi:World} {vi:Value} (hr:Region.ready md ops listed=[j,i]) (hi:ops[i]? = some oi) (hj:ops[j]? = some oj)
  (hdi:oi.dst=some di) (hdj:oj.dst=some dj) (hwi:Region.wanted oi (yielded ops tmps)=true) (hwj:Region.wanted oj (yielded ops tmps)=true)
  (hei:(execOp (Act.eval {tmps,defers}) oi).run P w=.ok (.value vi) Wi) (hSi:S Wi) {f:FuncId} {args:Array Value} (hej:(execOp (Act.eval {tmps,defers}) oj).run P w=.ok (.enter f args) w) {R:Value→World→Prop}
  (hc:Calls P f args w fun e w'=>∃ v,e=.returned v∧R v w') (hSj:∀ v w',R v w'→S w')
  (h1:wpAnyH P md ops Q S fuel (listed.setIfInBounds i true) {tmps:=tmps.setIfInBounds di vi,defers} Wi)
  (h2:∀ v w',R v w'→wpAnyH P md ops Q S fuel (listed.setIfInBounds j true) {tmps:=tmps.setIfInBounds dj v,defers} w'):wpAnyH P md ops Q S (fuel+1) listed {tmps,defers} w:=by
 refine wpAnyH_ready hr (by simp) (AllReadyH.cons hj (fun K hK=>?_) (AllReadyH.cons hi (fun K hK=>?_) AllReadyH.nil))
 ·rw [if_pos hwj];unfold Oper.wp;rw [hej];refine hc.mono ?_;rintro e w' ⟨v,rfl,hR⟩;have:=h2 v w' hR;refine hK.out _ _ (hSj v w' hR) (fun _=>?_);rw [hdj];exact this
 ·rw [if_pos hwi];unfold Oper.wp;rw [hei];refine hK.out _ _ hSi (fun _=>?_);rw [hdi];exact h1
end
end
end Go.Proofs.YtihdbncoijhihaaGreat
