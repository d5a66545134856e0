import Derived.Test.YtbndfmkgamdgeaaGreatDoorSO1
import Derived.Test.YtbndfmkgamdgeaaGreatDoorSO2
import Derived.Test.YtbndfmkgamdgeaaGreatDoorSO5
import Derived.Test.YtbndfmkgamdgeaaGreatDoorSO6
import Derived.Test.YtbndfmkgamdgeaaGreatDoorSO8
import Derived.Test.YtbndfmkgamdgeaaGreatDoorSO10
import Derived.Test.YtbndfmkgamdgeaaGreatDoorSO13
import Derived.Test.YtbndfmkgamdgeaaGreatDoorSO17
import Derived.Test.YtbndfmkgamdgeaaGreatDoorSO18
import Derived.Test.YtbndfmkgamdgeaaGreatDoorSO24
import Derived.Test.YtbndfmkgamdgeaaGreatDoorSO25
import Derived.Test.YtbndfmkgamdgeaaGreatDoorSO28
import Derived.Test.YtbndfmkgamdgeaaGreatDoorSO30
import Derived.Test.YtbndfmkgamdgeaaGreatDoorSO32
import Derived.Test.YtbndfmkgamdgeaaGreatDoorSO33
import Derived.Test.YtbndfmkgamdgeaaGreatDoorSO35
set_option linter.unusedVariables false
set_option linter.unusedSimpArgs false
set_option maxRecDepth 100000
set_option maxHeartbeats 16000000
namespace Go.Proofs.YtbndfmkgamdgeaaGreatDoor
section
open Go.RowKit
def endF (u:Us) (h:Int×Int) (b:Sy×Bool×Cn×Int):Sy×Cn×Int:=
 if b.2.1=true then (b.1,b.2.2) else if h.2≠0 then (b.1,cn0,b.2.2.2) else b.1.readyF u ⟨h.1,nHome,ByteArray.empty⟩
def restF (u:Us) (h:Int×Int) (top:Int) (path:ByteArray) (a:Sy×Bool×Cn×Int):Sy×Cn×Int:=
 if a.2.1=true then (a.1,a.2.2) else endF u h (a.1.triesF u (a.1.fs.placesF a.1.dead u top path) a.2.2.2)
theorem choose_eq (Y:Sy) (u:Us) (no:Int):Y.chooseF u no=if (Y.fs.topF no).2.2≠0 then (Y,cn0,(Y.fs.topF no).2.2) else restF u (Y.fs.dataF Y.dead u) (Y.fs.topF no).1 (Y.fs.topF no).2.1 (Y.triesF u (Y.homeF u (Y.fs.topF no).1) 0):=rfl
theorem tries_cons (Y:Sy) (u:Us) (p:Plc) (l:List Plc) (e:Int):Y.triesF u (p :: l) e=if (Y.readyF u p).2.2=0∨(Y.readyF u p).1.dead=true then ((Y.readyF u p).1,true,(Y.readyF u p).2.1,(Y.readyF u p).2.2) else (Y.readyF u p).1.triesF u l (Y.readyF u p).2.2:=rfl
theorem place_names {S:Fs} {d:Bool} {u:Us} {top:Int} {path:ByteArray} (hu0:-9223372036854775808≤u.u) (hu1:u.u≤9223372036854775807):∀ p∈S.placesF d u top path,p.name.size≤9223372036854775807:=by
 have hd:(decB u.u).size≤21:=by
  unfold decB;rw [str_size];exact (decL_len u.u hu0 hu1).1
 intro p hp;unfold Fs.placesF at hp;rw [List.mem_append] at hp;rcases hp with hp | hp
 ·split at hp
  ·rw [List.mem_singleton] at hp;subst hp;show (decB u.u).size≤_;omega
  ·cases hp
 ·rw [List.mem_singleton] at hp;subst hp;show (nSharedU u.u).size≤_;unfold nSharedU;rw [ByteArray.size_append];have:(ByteArray.mk #[46,84,114,97,115,104,45]).size=7:=rfl;omega
theorem boxes2 (w:World) (a b:Array Value) (A B:TypeId):Blk ((w.alloc (.cells a A)).alloc (.cells b B)) w.heap.size a A∧Blk ((w.alloc (.cells a A)).alloc (.cells b B)) (w.heap.size+1) b B∧Below w.heap.size w ((w.alloc (.cells a A)).alloc (.cells b B)):=by
 refine ⟨(Blk.new w a A).old _,?_,balloc (balloc (Below.refl w.heap.size w) _) _⟩;have:=Blk.new (w.alloc (.cells a A)) b B
 rwa [World.size_alloc] at this
section
variable {w w':World} {pf pw:Nat} {R:Rp} {pv:Value} {Y:Sy}
theorem OPl.sy {base:Nat} {v:Value} {l:List Plc} (ho:OPl 150 w base v l) (h:SyAt w pf pw R pv Y) {F':Nat→Prop} (hs:Stp (R.Y pf pw) F' w w'):OPl 150 w' base v l:=
 own_mod ho hs.mod (fun k hk he=>by
  obtain⟨-,cur,hc⟩:=own_obj1 ho he;rcases hk with rfl | hk
  ·have hb:=h.blk;unfold Blk at hb;rw [hb] at hc
   cases hc
  ·obtain ⟨o,ho,hd⟩:=h.wd.kind hk;rw [hc] at ho;injection ho with ho;subst ho
   cases hd)
theorem SyOk.len {N:Nat} (h:SyOk Y N) (hN:N≤100000):Y.fs.ns.length≤100000:=by
 have h1:=h.fine.pl.len;have h2:=h.fine.ok.lN;omega
theorem lchoose_results {tmps:Array Value} {W:World} {B:Nat} {x:Cn} {e:Int} (hb:Blk W B #[.string x.path,.int .i64 x.dir,.int .i64 x.info,.int .i64 x.files,.int .i64 x.out,.int .i64 x.way,.string x.top] 45)
  (h8:tmps.getD 6 undef=.pointer (some ⟨B,0,none⟩)) (h9:tmps.getD 7 undef=.int .i64 e):(results Tryz.f28 tmps).run Tryz.prog W=.ok (.tuple #[x.v,.int .i64 e]) W:=by
 have q0:=hb.cell 0;have q1:=hb.cell 1;have q2:=hb.cell 2;have q3:=hb.cell 3;have q4:=hb.cell 4;have q5:=hb.cell 5;have q6:=hb.cell 6;rw [Array.getD_eq_getD_getElem?] at h8 h9;simp [results,Tryz.results28,go_sem,Cn.v,h8,h9,q0,q1,q2,q3,q4,q5,q6]
structure ChI (w:World) (pf pw:Nat) (R:Rp) (pv:Value) (u:Us) (Z:Sy) (wx:World):Prop where
 g:Goes w wx pf pw R pv Z
 us:Blk wx w.heap.size #[.int .i64 u.u,.int .i64 u.g,.string u.data] 33
 o:Blk wx (w.heap.size+1) #[.string ⟨#[]⟩,.int .i64 0,.int .i64 0,.int .i64 0,.int .i64 0,.int .i64 0,.string ⟨#[]⟩] 45
theorem ChI.keep {u:Us} {Z:Sy} {wx wy:World} (h:ChI w pf pw R pv u Z wx) (hb:Below wx.heap.size wx wy):ChI w pf pw R pv u Z wy:=⟨h.g.below hb,h.us.keep hb,h.o.keep hb⟩
theorem ChI.step {u:Us} {Z Z':Sy} {wx wy:World} (h:ChI w pf pw R pv u Z wx) {R1 R2:Rp} (h1:SyAt wx pf pw R1 pv Z) (hs:Stp (R.Y pf pw) (R1.Y pf pw) w wx) (h2:SyAt wy pf pw R2 pv Z') (hs2:Stp (R1.Y pf pw) (R2.Y pf pw) wx wy):ChI w pf pw R pv u Z' wy:=
 ⟨⟨R2,h2,hs.trans hs2⟩,h.us.sy h1 hs2 (by decide) (by decide),h.o.sy h1 hs2 (by decide) (by decide)⟩
theorem ChI.ready {u:Us} {Z:Sy} {wx:World} (h:ChI w pf pw R pv u Z wx) {N:Nat} (hk:SyOk Z N) (hN:N≤99000) (p:Plc) (hn:p.name.size≤9223372036854775807) :
  Calls Tryz.prog 68 #[.pointer (some ⟨pf,0,none⟩),.agg #[.int .i64 u.u,.int .i64 u.g,.string u.data],.agg #[.int .i64 p.dir,.string p.name,.string p.top]] wx fun e w'=>
   e=.returned (.tuple #[(Z.readyF u p).2.1.v,.int .i64 (Z.readyF u p).2.2])∧ChI w pf pw R pv u (Z.readyF u p).1 w'∧∀ v l,OPl 150 wx w.heap.size v l→OPl 150 w' w.heap.size v l:=by
 obtain⟨R1,h1,hs1⟩:=h.g;refine (lready_any h1 hk hN u p hn).mono ?_;rintro e w' ⟨he,R2,h2,hs2⟩;exact⟨he,h.step h1 hs1 h2 hs2,fun v l ho=>ho.sy h1 hs2⟩
theorem lchoose_any (h:SyAt w pf pw R pv Y) {N:Nat} (hk:SyOk Y N) (hN:N≤90000) (hd:Y.dead=false) (u:Us) (hu0:-9223372036854775808≤u.u) (hu1:u.u≤9223372036854775807) (ht:u.data.size≤100000) (no:Int) :
  Calls Tryz.prog 28 #[.pointer (some ⟨pf,0,none⟩),.agg #[.int .i64 u.u,.int .i64 u.g,.string u.data],.int .i64 no] w fun e w'=>
   e=.returned (.tuple #[(Y.chooseF u no).2.1.v,.int .i64 (Y.chooseF u no).2.2])∧Goes w w' pf pw R pv (Y.chooseF u no).1:=by
 obtain⟨hUX,hRX,hbX⟩:=boxes2 w #[.int .i64 u.u,.int .i64 u.g,.string u.data] #[.string ⟨#[]⟩,.int .i64 0,.int .i64 0,.int .i64 0,.int .i64 0,.int .i64 0,.string ⟨#[]⟩] 33 45;have HT:=Lib.hid (fun w1 (hb1:Below w.heap.size w w1)=>ttop_any (h.keep hb1) hk.fine.ok hk.fine.pl (hk.len (by omega)) hd no);have HDa:=Lib.hid (fun w1 (hb1:Below w.heap.size w w1)=>cdata_any (h.keep hb1) hk.fine.ok (by omega) hk.fine.pl hk.fine.wy hd u ht);have HSt:=Lib.hid (fun w1 (hb1:Below w.heap.size w w1) k=>sstat_any (h.keep hb1) hk.fine.ok hd k);have HRo:=Lib.hid (fun w1 (hb1:Below w.heap.size w w1) k=>wroot_any (h.wd.keep hb1) hk.fine.ok.d1 k);obtain⟨pc,-,pz⟩:=h.blk.facts;have HPC:=Lib.hid (fun w1 (hb1:Below w.heap.size w w1)=>show w1.cell? ⟨pf,0,none⟩=some (.pointer (some ⟨pw,0,none⟩)) from (hb1.cell (p:=⟨pf,0,none⟩) pz).trans (pc 0));have HCh:=Lib.hid (fun w1 (hb1:Below w.heap.size w w1) (hu:Blk w1 w.heap.size #[.int .i64 u.u,.int .i64 u.g,.string u.data] 33) (ho:Blk w1 (w.heap.size+1) #[.string ⟨#[]⟩,.int .i64 0,.int .i64 0,.int .i64 0,.int .i64 0,.int .i64 0,.string ⟨#[]⟩] 45)=>show ChI w pf pw R pv u Y w1 from ⟨Goes.of h hb1,hu,ho⟩);have HK:=Lib.hid hk;have HR:=Lib.hid (choose_eq Y u no);have HHo:=Lib.hid (show Y.homeF u (Y.fs.topF no).1=if (Y.fs.dataF false u).2=0∧Y.fs.root (Y.fs.getZ (Y.fs.dataF false u).1).dev=(Y.fs.topF no).1 then [⟨(Y.fs.dataF false u).1,nHome,ByteArray.empty⟩] else [] by unfold Sy.homeF;rw [hd]);rw [hd] at HR;have HD:=Lib.hid hd;generalize Y.chooseF u no=rd at HR ⊢;generalize Y.fs.topF no=tp at HT HR HHo;generalize Y.fs.dataF false u=da at HDa HR HHo;obtain⟨top,path,e1⟩:=tp;obtain⟨data,home⟩:=da;dsimp only at HT HR HHo HDa;have HPz:=Lib.hid pz;clear h hk hd pc pz;go_enter Tryz.func28,Tryz.ntmps28;go_upto_region 1 with fail;generalize (w.alloc (.cells #[.int .i64 u.u,.int .i64 u.g,.string u.data] 33)).alloc (.cells #[.string ⟨#[]⟩,.int .i64 0,.int .i64 0,.int .i64 0,.int .i64 0,.int .i64 0,.string ⟨#[]⟩] 45)=W0 at hUX hRX hbX ⊢;have HW0:=Lib.hid (And.intro hUX (And.intro hRX hbX));clear hUX hRX hbX;go_wp2_with fail;refine (HT.out _ HW0.out.2.2).mono ?_;rintro e w1 ⟨rfl,hb1⟩;have HW1:=Lib.hid (And.intro (HW0.out.1.keep hb1) (And.intro (HW0.out.2.1.keep hb1) (bnext HW0.out.2.2 hb1)));clear hb1;by_cases h1:e1=0
 ·have h1b:(e1 != 0)=false:=by simpa using h1
  have HE:=Lib.hid (HR.out.trans (if_neg (by simpa using h1)));subst h1;obtain⟨uc,uf,uz⟩:=HW1.out.1.facts;go_wp2_with fail;refine (HDa.out _ HW1.out.2.2).mono ?_;rintro e w2 ⟨rfl,hb2⟩;have HW2:=Lib.hid (And.intro (HW1.out.1.keep hb2) (And.intro (HW1.out.2.1.keep hb2) (bnext HW1.out.2.2 hb2)));clear hb2 uc uf uz;obtain⟨H0,hH0⟩:∃ l,Y.homeF u top=l:=⟨_,rfl⟩;rw [hH0] at HE HHo;go_upto_if 39 with fail
  go_cut [] from 13 to 70 (fun wx=>∃ (Z:Sy) (e0:Int),rd=endF u (data,home) (Z.triesF u (Z.fs.placesF false u top path) e0)∧SyOk Z (N+5)∧Z.dead=false∧ChI w pf pw R pv u Z wx)
  case first=>
   by_cases hh:home=0
   ·subst hh;have HS1:=Lib.hid (HSt.out _ HW2.out.2.2 data);rw [stZ] at HS1;generalize noneE (Y.fs.get data)=ne at HS1;generalize Y.fs.getZ data=st at HS1 HHo;go_wp2_with fail;refine HS1.out.mono ?_;rintro e w3 ⟨rfl,hb3⟩;have hSt:=Blk.new w3 #[.int .i64 st.no,.int .i64 st.dev,.int .i64 st.kind,.int .i64 st.mode,.int .i64 st.uid,.int .i64 st.gid,.int .i64 st.links,.int .i64 st.data.size,.int .i64 st.mtime,.int .i64 st.ctime] 115;have hbS:=balloc (Below.refl w3.heap.size w3) (.cells #[.int .i64 st.no,.int .i64 st.dev,.int .i64 st.kind,.int .i64 st.mode,.int .i64 st.uid,.int .i64 st.gid,.int .i64 st.links,.int .i64 st.data.size,.int .i64 st.mtime,.int .i64 st.ctime] 115);have hb4:=hb3.trans (hbS.mono hb3.size);have HW4:=Lib.hid (And.intro (HW2.out.1.keep hb4) (And.intro (HW2.out.2.1.keep hb4) (bnext HW2.out.2.2 hb4)));clear hb3 hb4 hbS;go_upto_region 7 with fail;generalize w3.alloc (.cells #[.int .i64 st.no,.int .i64 st.dev,.int .i64 st.kind,.int .i64 st.mode,.int .i64 st.uid,.int .i64 st.gid,.int .i64 st.links,.int .i64 st.data.size,.int .i64 st.mtime,.int .i64 st.ctime] 115)=W4 at hSt HW4 ⊢;have pc:=HPC.out _ HW4.out.2.2;have hpz:pf<W4.heap.size:=Nat.lt_of_lt_of_le HPz.out HW4.out.2.2.size;obtain⟨yc,yf,yz⟩:=hSt.facts;clear hSt;by_cases hr:Y.fs.root st.dev=top
    ·have hrb:(Y.fs.root st.dev == top)=true:=by simpa using hr
     have HR4:=Lib.hid (HRo.out _ HW4.out.2.2 st.dev);have HN4:=Lib.hid (show rd=restF u (data,0) top path (Y.triesF u [⟨data,nHome,ByteArray.empty⟩] 0) by rw [HE.out,HHo.out,if_pos ⟨by first | trivial | rfl,hr⟩]);rw [tries_cons] at HN4;clear hr
     go_region_held3 (fun w'=>(∀ b o,b<W4.heap.size→w'.cell? ⟨b,o,none⟩=W4.cell? ⟨b,o,none⟩)∧Below W4.heap.size W4 w') (first | with_reducible assumption | with_reducible exact keepS_here _ | with_reducible exact keepS_here2 _ | with_reducible exact keepS_call (by assumption) (by assumption) | with_reducible exact keepS_alloc (by assumption) _ | with_reducible exact keepS_allocD (by assumption) _ | with_reducible exact keepS_realloc (by assumption) (by assumption) | with_reducible exact keepS_set4 (by assumption) (by assumption))
      ((first
       | (go_at_call 67;((with_reducible refine (HRo.out _ (HW4.out.2.2.trans ((And.right ‹(∀ b o,b<W4.heap.size→_)∧Below W4.heap.size W4 _›).mono HW4.out.2.2.size)) st.dev).mono ?_);rintro e w5 ⟨rfl,rfl⟩))))
     all_goals
      have hb5:=And.right ‹(∀ b o,b<W4.heap.size→_)∧Below W4.heap.size W4 _›;have HI5:=Lib.hid ((HCh.out _ HW4.out.2.2 HW4.out.1 HW4.out.2.1).keep hb5);have HRd:=Lib.hid (HI5.out.ready HK.out (by omega) ⟨data,nHome,ByteArray.empty⟩ (by show nHome.size≤_;decide));have HK5:=Lib.hid (HK.out.readyF u ⟨data,nHome,ByteArray.empty⟩);generalize Y.readyF u ⟨data,nHome,ByteArray.empty⟩=r at HRd HK5 HN4;obtain⟨Z5,x,e5⟩:=r;unfold Cn.v nHome at HRd;dsimp only at HRd HK5 HN4;obtain⟨uc,uf,uz⟩:=HI5.out.us.facts;clear hb5 pc hpz yc yf yz;go_wp2_with fail;refine HRd.out.mono ?_;rintro e w6 ⟨rfl,hI6,-⟩;have hC:=Blk.new w6 #[.string x.path,.int .i64 x.dir,.int .i64 x.info,.int .i64 x.files,.int .i64 x.out,.int .i64 x.way,.string x.top] 45;have hbC:=balloc (Below.refl w6.heap.size w6) (.cells #[.string x.path,.int .i64 x.dir,.int .i64 x.info,.int .i64 x.files,.int .i64 x.out,.int .i64 x.way,.string x.top] 45);have HI6:=Lib.hid (hI6.keep hbC);clear hI6 hbC uc uf uz;go_upto_region 9 with fail;generalize w6.alloc (.cells #[.string x.path,.int .i64 x.dir,.int .i64 x.info,.int .i64 x.files,.int .i64 x.out,.int .i64 x.way,.string x.top] 45)=W7 at hC HI6 ⊢;obtain⟨R7,hY7,hS7⟩:=HI6.out.g;have HDd:=Lib.hid (sdead_any hY7);obtain⟨cc,cf,cz⟩:=hC.facts;obtain⟨rc,rf,rz⟩:=HI6.out.o.facts;clear hC hY7 hS7;by_cases h5:e5=0
      ·have HE5:=Lib.hid (show rd=(Z5,x,0) by rw [HN4.out,if_pos (.inl h5),h5];rfl);subst h5;go_wp2_with (exact bodyPost_ret (lchoose_results (x:=x) (e:=0) HI6.out.o.set7 rfl rfl) rfl ⟨by rw [HE5.out],by rw [HE5.out];exact HI6.out.g.set7 HI6.out.o (by omega) _ _ _ _ _ _ _⟩)
      ·have h5b:(e5 == 0)=false:=by simpa using h5
       obtain⟨dd,hdd⟩:∃ d,Z5.dead=d:=⟨_,rfl⟩;rw [hdd] at HDd
       cases dd with
       | true=>
        have HE5:=Lib.hid (show rd=(Z5,x,e5) by rw [HN4.out,if_pos (.inr hdd)];rfl);clear h5 hdd;go_wp2_with fail;refine HDd.out.mono ?_;rintro e w8 ⟨rfl,rfl⟩;go_wp2_with (exact bodyPost_ret (lchoose_results (x:=x) (e:=e5) HI6.out.o.set7 rfl rfl) rfl ⟨by rw [HE5.out],by rw [HE5.out];exact HI6.out.g.set7 HI6.out.o (by omega) _ _ _ _ _ _ _⟩)
       | false=>
        have HE5:=Lib.hid (show rd=endF u (data,0) (Z5.triesF u (Z5.fs.placesF false u top path) e5) by rw [HN4.out,if_neg (by rintro (h | h);exact h5 h;rw [hdd] at h;cases h)];unfold restF;rw [if_neg (by simp [Sy.triesF])];show endF _ _ (Z5.triesF u (Z5.fs.placesF Z5.dead u top path) e5)=_;rw [hdd]);have HZ5:=Lib.hid hdd;clear h5 hdd;go_wp2_with fail;refine HDd.out.mono ?_;rintro e w8 ⟨rfl,rfl⟩;go_wp2_with fail;go_meet;exact⟨Z5,e5,HE5.out,HK5.out,HZ5.out,HI6.out⟩
    ·have hrb:(Y.fs.root st.dev == top)=false:=by simpa using hr
     have HN4:=Lib.hid (show H0=[] by rw [HHo.out,if_neg (fun h=>hr h.2)]);clear hr
     go_region_held3 (fun w'=>(∀ b o,b<W4.heap.size→w'.cell? ⟨b,o,none⟩=W4.cell? ⟨b,o,none⟩)∧Below W4.heap.size W4 w') (first | with_reducible assumption | with_reducible exact keepS_here _ | with_reducible exact keepS_here2 _ | with_reducible exact keepS_call (by assumption) (by assumption) | with_reducible exact keepS_alloc (by assumption) _ | with_reducible exact keepS_allocD (by assumption) _ | with_reducible exact keepS_realloc (by assumption) (by assumption) | with_reducible exact keepS_set4 (by assumption) (by assumption))
      ((first
       | (go_at_call 67;((with_reducible refine (HRo.out _ (HW4.out.2.2.trans ((And.right ‹(∀ b o,b<W4.heap.size→_)∧Below W4.heap.size W4 _›).mono HW4.out.2.2.size)) st.dev).mono ?_);rintro e w5 ⟨rfl,rfl⟩))))
     all_goals
      have hb5:=And.right ‹(∀ b o,b<W4.heap.size→_)∧Below W4.heap.size W4 _›;have HB5:=Lib.hid hb5;clear hb5 pc hpz yc yf yz;go_wp2_with fail;go_meet;exact⟨Y,0,by rw [HE.out,HN4.out];unfold restF;rw [if_neg (by simp [Sy.triesF])];show endF _ _ (Y.triesF u (Y.fs.placesF Y.dead u top path) 0)=_;rw [HD.out],HK.out.mono (by omega),HD.out,(HCh.out _ HW4.out.2.2 HW4.out.1 HW4.out.2.1).keep HB5.out⟩
   ·have hhb:(home == 0)=false:=by simpa using hh
    have HN4:=Lib.hid (show H0=[] by rw [HHo.out,if_neg (fun h=>hh h.1)]);clear hh;go_wp2_with fail;go_meet;exact⟨Y,0,by rw [HE.out,HN4.out];unfold restF;rw [if_neg (by simp [Sy.triesF])];show endF _ _ (Y.triesF u (Y.fs.placesF Y.dead u top path) 0)=_;rw [HD.out],HK.out.mono (by omega),HD.out,HCh.out _ HW2.out.2.2 HW2.out.1 HW2.out.2.1⟩
  case rest=>
   obtain⟨Z,e0,hrd,hok,hzd,hI⟩:=hcut;generalize wc=w3 at hI ⊢;have HRd:=Lib.hid hrd;have HI:=Lib.hid hI;obtain⟨R3,hY3,hS3⟩:=hI.g;have HPl:=Lib.hid (cplaces_any hY3 hok.fine.ok (by omega) hzd u hu0 hu1 top path);have hps:=places_len Z.fs false u top path;have HNm:=Lib.hid (place_names (S:=Z.fs) (d:=false) (u:=u) (top:=top) (path:=path) hu0 hu1);generalize Z.fs.placesF false u top path=ps at HPl hps HNm HRd;have hsz:w.heap.size≤w3.heap.size:=hS3.mod.size;obtain⟨uc,uf,uz⟩:=hI.us.facts;have HOk:=Lib.hid hok;have HZd:=Lib.hid hzd;clear hrd hI hY3 hS3 hok hzd;go_wp2_with fail;refine HPl.out.mono ?_;rintro e w4 ⟨v,rfl,hP4,hb4⟩;obtain⟨qa,qc,rfl,hq1,hq2,-⟩:=own_form hP4;obtain⟨qb,qo,rfl,-,-⟩:=slice_row plC_len hP4.at 0 (by omega);have HP4:=Lib.hid (show OPl 150 w4 w.heap.size (.slice (some ⟨qb,qo,none⟩) ps.length qc) ps from own_low hP4 hsz);have HI4:=Lib.hid (HI.out.keep hb4);clear hP4 hb4 uc uf uz;go_wp2_with fail
   go_loopw [10,77] (fun t10 t77 wr=>∃ (k:Nat) (Zk:Sy) (ek:Int),k≤ps.length∧t10=.int .i64 ek∧t77=.int .i64 k∧Z.triesF u ps e0=Zk.triesF u (ps.drop k) ek∧SyOk Zk (N+5+5*k)∧Zk.dead=false∧ChI w pf pw R pv u Zk wr∧OPl 150 wr w.heap.size (.slice (some ⟨qb,qo,none⟩) ps.length qc) ps) (fun _ t77 _=>ps.length - (intOf t77).toNat)
   case atStart=>exact ⟨0,Z,0,by omega,rfl,rfl,by cases ps with | nil=>simp at hps | cons p l=>rfl,HOk.out,HZd.out,HI4.out,HP4.out⟩
   case round=>
    obtain⟨k,Zk,ek,hk,rfl,rfl,htr,hok,hzd,hI,hP⟩:=hrel;have HIr:=Lib.hid hI;have HPr:=Lib.hid hP;by_cases hlt:k<ps.length
    ·obtain ⟨b,off,he,hbl,hc⟩:=slice_row plC_len hP.at k hlt;injection he with he;injection he with he1 he2;subst he1 he2;have c0:wr.cell? ⟨qb,qo+k*3,none⟩=some (.int .i64 ps[k].dir):=hc 0 (by decide);have c1:wr.cell? ⟨qb,qo+k*3+1,none⟩=some (.string ps[k].name):=hc 1 (by decide);have c2:wr.cell? ⟨qb,qo+k*3+2,none⟩=some (.string ps[k].top):=hc 2 (by decide);have hnm:=HNm.out ps[k] (List.getElem_mem hlt);have HT1:=Lib.hid (show Z.triesF u ps e0=if (Zk.readyF u ps[k]).2.2=0∨(Zk.readyF u ps[k]).1.dead=true then ((Zk.readyF u ps[k]).1,true,(Zk.readyF u ps[k]).2.1,(Zk.readyF u ps[k]).2.2) else (Zk.readyF u ps[k]).1.triesF u (ps.drop (k+1)) (Zk.readyF u ps[k]).2.2 by rw [htr,List.drop_eq_getElem_cons hlt,tries_cons]);generalize ps[k]=p at c0 c1 c2 hnm HT1;have hbp:=balloc (Below.refl wr.heap.size wr) (.cells #[.int .i64 p.dir,.string p.name,.string p.top] 150);have hBp:=Blk.new wr #[.int .i64 p.dir,.string p.name,.string p.top] 150;have HI5:=Lib.hid (hI.keep hbp);have HP5:=Lib.hid (hP.keep hbp);have HRy:=Lib.hid (HI5.out.ready hok (by omega) p hnm);have HK5:=Lib.hid (hok.readyF u p);generalize Zk.readyF u p=r at HRy HK5 HT1;obtain⟨Z5,x,e5⟩:=r;unfold Cn.v at HRy;dsimp only at HRy HK5 HT1;obtain⟨uc,uf,uz⟩:=hI.us.facts;clear hc hI hP hok htr hnm hzd;go_upto_region 14 with fail;generalize wr.alloc (.cells #[.int .i64 p.dir,.string p.name,.string p.top] 150)=W5 at hbp hBp HI5 HP5 HRy ⊢;obtain⟨bc,bf,bz⟩:=hBp.facts;clear uc uf uz c0 c1 c2;obtain⟨uc,uf,uz⟩:=HI5.out.us.facts;clear hbp hBp;go_wp2_with fail;refine HRy.out.mono ?_;rintro e w6 ⟨rfl,hI6,hP6⟩;have hC:=Blk.new w6 #[.string x.path,.int .i64 x.dir,.int .i64 x.info,.int .i64 x.files,.int .i64 x.out,.int .i64 x.way,.string x.top] 45;have hbC:=balloc (Below.refl w6.heap.size w6) (.cells #[.string x.path,.int .i64 x.dir,.int .i64 x.info,.int .i64 x.files,.int .i64 x.out,.int .i64 x.way,.string x.top] 45);have HI6:=Lib.hid (hI6.keep hbC);have HP6:=Lib.hid ((hP6 _ _ HP5.out).keep hbC);clear hI6 hP6 hbC uc uf uz bc bf bz;go_upto_region 15 with fail;generalize w6.alloc (.cells #[.string x.path,.int .i64 x.dir,.int .i64 x.info,.int .i64 x.files,.int .i64 x.out,.int .i64 x.way,.string x.top] 45)=W7 at hC HI6 HP6 ⊢;obtain⟨R7,hY7,hS7⟩:=HI6.out.g;have HDd:=Lib.hid (sdead_any hY7);obtain⟨cc,cf,cz⟩:=hC.facts;obtain⟨rc,rf,rz⟩:=HI6.out.o.facts;clear hC hY7 hS7;by_cases h5:e5=0
     ·have HE5:=Lib.hid (show rd=(Z5,x,0) by rw [HRd.out,HT1.out,if_pos (.inl h5),h5];rfl);subst h5;go_wp2_with (exact bodyPost_ret (lchoose_results (x:=x) (e:=0) HI6.out.o.set7 rfl rfl) rfl ⟨by rw [HE5.out],by rw [HE5.out];exact HI6.out.g.set7 HI6.out.o (by omega) _ _ _ _ _ _ _⟩)
     ·have h5b:(e5 == 0)=false:=by simpa using h5
      obtain⟨dd,hdd⟩:∃ d,Z5.dead=d:=⟨_,rfl⟩;rw [hdd] at HDd
      cases dd with
      | true=>
       have HE5:=Lib.hid (show rd=(Z5,x,e5) by rw [HRd.out,HT1.out,if_pos (.inr hdd)];rfl);clear h5 hdd;go_wp2_with fail;refine HDd.out.mono ?_;rintro e w8 ⟨rfl,rfl⟩;go_wp2_with (exact bodyPost_ret (lchoose_results (x:=x) (e:=e5) HI6.out.o.set7 rfl rfl) rfl ⟨by rw [HE5.out],by rw [HE5.out];exact HI6.out.g.set7 HI6.out.o (by omega) _ _ _ _ _ _ _⟩)
      | false=>
       have HT2:=Lib.hid (HT1.out.trans (if_neg (by rintro (h | h);exact h5 h;rw [hdd] at h;cases h)));have HZ5:=Lib.hid hdd;clear h5 hdd cc cf cz rc rf rz;go_wp2_with fail;refine HDd.out.mono ?_;rintro e w8 ⟨rfl,rfl⟩;go_wp2_with fail;go_roundw
       case measure=>simp [intOf];omega
       case rel=>exact ⟨k+1,Z5,e5,by omega,rfl,by go_num,HT2.out,HK5.out,HZ5.out,HI6.out,HP6.out⟩
    ·obtain rfl:k=ps.length:=by omega
     have HE6:=Lib.hid (show rd=endF u (data,home) (Zk,false,cn0,ek) by rw [HRd.out,htr,List.drop_length];rfl);have HK6:=Lib.hid hok;clear htr hok hP hzd;by_cases hh:home=0
     ·have hhb:(home != 0)=false:=by simpa using hh
      have HE7:=Lib.hid (show rd=Zk.readyF u ⟨data,nHome,ByteArray.empty⟩ by rw [HE6.out];unfold endF;rw [if_neg (by simp),if_neg (by simpa using hh)]);have HRy:=Lib.hid (HIr.out.ready HK6.out (by omega) ⟨data,nHome,ByteArray.empty⟩ (by show nHome.size≤_;decide));generalize Zk.readyF u ⟨data,nHome,ByteArray.empty⟩=r at HRy HE7;obtain⟨Z5,x,e5⟩:=r;unfold Cn.v nHome at HRy;dsimp only at HRy;obtain⟨uc,uf,uz⟩:=hI.us.facts;clear hI hh;go_wp2_with fail;refine HRy.out.mono ?_;rintro e w6 ⟨rfl,hI6,-⟩;have HI6:=Lib.hid hI6;obtain⟨rc,rf,rz⟩:=hI6.o.facts;clear hI6 uc uf uz;go_wp2_with (exact bodyPost_ret (lchoose_results (x:=x) (e:=e5) HI6.out.o.set7 rfl rfl) rfl ⟨by rw [HE7.out],by rw [HE7.out];exact HI6.out.g.set7 HI6.out.o (by omega) _ _ _ _ _ _ _⟩)
     ·have hhb:(home != 0)=true:=by simpa using hh
      have HE7:=Lib.hid (show rd=(Zk,cn0,ek) by rw [HE6.out];unfold endF;rw [if_neg (by simp),if_pos hh]);obtain⟨rc,rf,rz⟩:=hI.o.facts;clear hI hh;go_wp2_with (exact bodyPost_ret (lchoose_results (x:=cn0) (e:=ek) HIr.out.o.set7 rfl rfl) rfl ⟨by rw [HE7.out],by rw [HE7.out];exact HIr.out.g.set7 HIr.out.o (by omega) _ _ _ _ _ _ _⟩)
 ·have h1b:(e1 != 0)=true:=by simpa using h1
  have HE:=Lib.hid (HR.out.trans (if_pos h1));clear h1;obtain⟨rc,rf,rz⟩:=HW1.out.2.1.facts;go_wp2_with (exact bodyPost_ret (lchoose_results (x:=cn0) (e:=e1) HW1.out.2.1.set7 rfl rfl) rfl ⟨by rw [HE.out],by rw [HE.out];exact (HCh.out _ HW1.out.2.2 HW1.out.1 HW1.out.2.1).g.set7 HW1.out.2.1 (by omega) _ _ _ _ _ _ _⟩)
end
end
end Go.Proofs.YtbndfmkgamdgeaaGreatDoor
