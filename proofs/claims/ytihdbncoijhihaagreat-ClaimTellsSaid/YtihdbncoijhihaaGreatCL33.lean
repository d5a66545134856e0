import Derived.Test.YtihdbncoijhihaaGreatCL29
import Derived.Test.YtihdbncoijhihaaGreatCL32
import Derived.Test.YtihdbncoijhihaaGreatCL31
import Derived.Test.YtihdbncoijhihaaGreatCL27
import Derived.Test.YtihdbncoijhihaaGreatCL21
import Derived.Test.YtihdbncoijhihaaGreatCL20
set_option linter.unusedVariables false
set_option linter.unusedSimpArgs false
set_option maxRecDepth 100000
set_option maxHeartbeats 16000000
namespace Go.Proofs.YtihdbncoijhihaaGreat
section
open Go.RowKit Go.Shelf
attribute [local go_sem] Oper.semAt_some
def few30 (ms:List Mt) (is:List It) (dt pt tx:ByteArray) (pl:List (Int×Int)):Bool:=decide (few22 ms is 30=true∧dt.size≤300∧pt.size≤300∧tx.size≤300∧pl.length≤4)
theorem few30_of {ms:List Mt} {is:List It} {dt pt tx:ByteArray} {pl:List (Int×Int)} (h:few30 ms is dt pt tx pl=true):few22 ms is 30=true∧dt.size≤300∧pt.size≤300∧tx.size≤300∧pl.length≤4:=of_decide_eq_true h
theorem few30_any (w:World) {ma:Option Addr} {mn mc:Nat} {ia:Option Addr} {il ic:Nat} {ms:List Mt} {is:List It} (h:SdAt w ma mn mc ia il ic ms is) (u g:Int) (dt pt tx:ByteArray) (no now:Int) {pa:Option Addr} {pn pc:Nat} {pl:List (Int×Int)} (hpl:pl.length=pn) :
  Calls Tryz.prog 9 #[.agg #[.slice ma mn mc,.slice ia il ic,.int .i64 u,.int .i64 g,.string dt,.string pt,.string tx,.int .i64 no,.int .i64 now,.slice pa pn pc]] w fun e w'=>e=.returned (.bool (few30 ms is dt pt tx pl))∧Below w.heap.size w w':=by
 have hB:=Blk.new w #[.slice ma mn mc,.slice ia il ic,.int .i64 u,.int .i64 g,.string dt,.string pt,.string tx,.int .i64 no,.int .i64 now,.slice pa pn pc] 30;have hb:=balloc (Below.refl w.heap.size w) (.cells #[.slice ma mn mc,.slice ia il ic,.int .i64 u,.int .i64 g,.string dt,.string pt,.string tx,.int .i64 no,.int .i64 now,.slice pa pn pc] 30);have HF:=Lib.hid (few22_any _ (h.keep ((Below.refl _ w).alloc (Nat.le_refl _) (.cells #[.slice ma mn mc,.slice ia il ic,.int .i64 u,.int .i64 g,.string dt,.string pt,.string tx,.int .i64 no,.int .i64 now,.slice pa pn pc] 30))) 30);have HE:=Lib.hid (show few30 ms is dt pt tx pl=decide (few22 ms is 30=true∧dt.size≤300∧pt.size≤300∧tx.size≤300∧pl.length≤4) from rfl);rw [hpl] at HE;generalize few30 ms is dt pt tx pl=fb at HE ⊢;clear h hpl;go_enter Tryz.func9,Tryz.ntmps9;go_wp2_with fail;refine HF.out.mono ?_;rintro e w1 ⟨rfl,hb1⟩;have hB1:=hB.keep hb1;have HB:=Lib.hid (bnext hb hb1);obtain⟨bc,bf,bz⟩:=hB1.facts;clear hB hb hb1 hB1
 cases hf:few22 ms is 30 with
 | false=>
  rw [hf] at HE;have HG:=Lib.hid (show fb=false by rw [HE.out];simp);clear hf;go_wp2_with fail;go_ret;exact⟨by rw [HG.out];(try rfl),HB.out⟩
 | true=>
  rw [hf] at HE;clear hf;by_cases h1:dt.size≤300
  ·have h1':(dt.size:Int)≤300:=by omega
   by_cases h2:pt.size≤300
   ·have h2':(pt.size:Int)≤300:=by omega
    by_cases h3:tx.size≤300
    ·have h3':(tx.size:Int)≤300:=by omega
     by_cases hp:pn≤4
     ·have hp1:(pn:Int)≤4:=by omega
      have HG:=Lib.hid (show fb=true by rw [HE.out];simp [h1,h2,h3,hp]);go_wp2_with fail;go_ret;exact⟨by rw [HG.out];(try rfl),HB.out⟩
     ·have hp1:¬ (pn:Int)≤4:=by omega
      have HD:=Lib.hid (decide_eq_false hp1);have HG:=Lib.hid (show fb=false by rw [HE.out];simp [h1,h2,h3,hp]);go_wp2_with fail;go_ret;refine ⟨?_,HB.out⟩;rw [HG.out];show Ending.returned (.bool (decide ((pn:Int)≤4)))=_;rw [HD.out]
    ·have h3':¬ (tx.size:Int)≤300:=by omega
     have HG:=Lib.hid (show fb=false by rw [HE.out];simp [h3]);go_wp2_with fail;go_ret;exact⟨by rw [HG.out];(try rfl),HB.out⟩
   ·have h2':¬ (pt.size:Int)≤300:=by omega
    have HG:=Lib.hid (show fb=false by rw [HE.out];simp [h2]);go_wp2_with fail;go_ret;exact⟨by rw [HG.out];(try rfl),HB.out⟩
  ·have h1':¬ (dt.size:Int)≤300:=by omega
   have HG:=Lib.hid (show fb=false by rw [HE.out];simp [h1]);go_wp2_with fail;go_ret;exact⟨by rw [HG.out];(try rfl),HB.out⟩
section
variable {w w':World} {pf pw:Nat} {R:Rp} {pv:Value} {Y:Sy}
theorem stick_any (h:SyAt w pf pw R pv Y) (hy:0≤Y.now) (n:Int) (h0:0≤n) (h1:n≤253402300799 - Y.now) :
  Calls Tryz.prog 52 #[.pointer (some ⟨pf,0,none⟩),.int .i64 n] w fun e w'=>e=.returned (.int .i64 0)∧SyAt w' pf pw R pv {Y with now:=Y.now+n}∧Mod (fun k=>k=pf) w w':=by
 have HN:=Lib.hid (snone_any h);have HY:=Lib.hid h;obtain⟨pc,pf',pz⟩:=h.blk.facts;have hw:IntKind.i64.wrap (Y.now+n)=Y.now+n:=by simp [IntKind.wrap,IntKind.bits,IntKind.signed];omega
 have hw2:IntKind.i64.wrap (253402300799 - Y.now)=253402300799 - Y.now:=by simp [IntKind.wrap,IntKind.bits,IntKind.signed];omega
 have h2:¬ n<0:=by omega
 have h3:¬ 253402300799 - Y.now<n:=by omega
 clear h;go_enter Tryz.func52,Tryz.ntmps52;go_wp2_with fail;refine HN.out.mono ?_;rintro e w1 ⟨rfl,rfl⟩;go_wp2_with fail;go_ret;exact⟨rfl,HY.out.turnF ((Mod.refl (fun k=>k=pf) w).setCell (a:=⟨pf,1,none⟩) (.inl rfl) _) rfl rfl (HY.out.blk.set 1 _),(Mod.refl (fun k=>k=pf) w).setCell (a:=⟨pf,1,none⟩) (.inl rfl) _⟩
end
theorem RfAt.setNow {w:World} {pf:Nat} {R:Rf} {S:Fs} (h:RfAt w pf R S) (v:Int):RfAt (w.setCell ⟨pf,3,none⟩ (.int .i64 v)) pf {R with now:=v} S:=by
 have hm:Mod (fun k=>k=pf) w (w.setCell ⟨pf,3,none⟩ (.int .i64 v)):=(Mod.refl (fun k=>k=pf) w).setCell (a:=⟨pf,3,none⟩) (.inl rfl) _;have hM:Mod (R.F pf) w (w.setCell ⟨pf,3,none⟩ (.int .i64 v)):=hm.mono (fun k hk=>.inl hk);refine ⟨h.blk.set 3 _,own_mod h.nds hm (fun k hk e=>?_),own_mod h.devs hm (fun k hk e=>?_),h.ns,fun x hx=>(h.ents x hx).rf h (Stp.of_mod hM)⟩
 ·obtain ⟨-,hc⟩:=own_obj1 h.nds e;exact rf_apart hc h.blk (by decide) hk.symm
 ·obtain ⟨-,hc⟩:=own_obj1 h.devs e;exact rf_apart hc h.blk (by decide) hk.symm
def nowI (n:Int):Int:=if 0≤n∧n≤253402300799 then n else 0
structure Both30 (w0 w:World) (S:Fs) (nw:Int) (pl:List (Int×Int)) (vp:Value) (p1 q1:Nat) (R1:Rp) (v1:Value) (pf:Nat) (R2:Rf):Prop where
 y:SyAt w p1 q1 R1 v1 ⟨S,nw,0,pl,false⟩
 r:RfAt w pf R2 S
 now:R2.now=nw
 cnt:R2.cnt=.int .i64 0
 plan:R2.pl=vp
 dd:R2.dd=.bool false
 f1:∀ k,R1.Y p1 q1 k→w0.heap.size≤k
 f2:∀ k,R2.F pf k→w0.heap.size≤k
 below:Below w0.heap.size w0 w
theorem both30_any (w:World) {ma:Option Addr} {mn mc:Nat} {ia:Option Addr} {il ic:Nat} {ms:List Mt} {is:List It} (h:SdAt w ma mn mc ia il ic ms is) (u g:Int) (dt pt tx:ByteArray) (no now:Int) {pa:Option Addr} {pn pc:Nat} {pl:List (Int×Int)} (hpl:SliceAt w 2 fltR pa pn pc pl) (hf:few30 ms is dt pt tx pl=true) :
  Calls Tryz.prog 11 #[.agg #[.slice ma mn mc,.slice ia il ic,.int .i64 u,.int .i64 g,.string dt,.string pt,.string tx,.int .i64 no,.int .i64 now,.slice pa pn pc]] w fun e w'=>∃ p1 q1 R1 v1 pf R2,e=.returned (.tuple #[.pointer (some ⟨p1,0,none⟩),.pointer (some ⟨pf,0,none⟩)])∧Both30 w w' (plantF ms is) (nowI now) pl (.slice pa pn pc) p1 q1 R1 v1 pf R2:=by
 obtain⟨hf2,-,-,-,hp4⟩:=few30_of hf;have hf24:few24 ms is ⟨#[]⟩ pl=true:=decide_eq_true ⟨hf2,by decide,hp4⟩;have hX:=Blk.new w #[.slice ma mn mc,.slice ia il ic,.int .i64 u,.int .i64 g,.string dt,.string pt,.string tx,.int .i64 no,.int .i64 now,.slice pa pn pc] 30;have hbX:=balloc (Below.refl w.heap.size w) (.cells #[.slice ma mn mc,.slice ia il ic,.int .i64 u,.int .i64 g,.string dt,.string pt,.string tx,.int .i64 no,.int .i64 now,.slice pa pn pc] 30);have HBo:=Lib.hid (both24_any _ (h.keep ((Below.refl _ w).alloc (Nat.le_refl _) (.cells #[.slice ma mn mc,.slice ia il ic,.int .i64 u,.int .i64 g,.string dt,.string pt,.string tx,.int .i64 no,.int .i64 now,.slice pa pn pc] 30))) 0 0 0 0 ⟨#[]⟩ (SliceAt.below hpl ((Below.refl _ w).alloc (Nat.le_refl _) (.cells #[.slice ma mn mc,.slice ia il ic,.int .i64 u,.int .i64 g,.string dt,.string pt,.string tx,.int .i64 no,.int .i64 now,.slice pa pn pc] 30)) (Nat.le_refl _)) false hf24);generalize plantF ms is=S at HBo ⊢;clear h hpl hf hf2 hp4 hf24;go_enter Tryz.func11,Tryz.ntmps11;go_upto_region 1 with fail;generalize w.alloc (.cells #[.slice ma mn mc,.slice ia il ic,.int .i64 u,.int .i64 g,.string dt,.string pt,.string tx,.int .i64 no,.int .i64 now,.slice pa pn pc] 30)=w1 at hX hbX HBo ⊢;have HX:=Lib.hid hX;have HB1:=Lib.hid hbX;obtain⟨xc,xf,xz⟩:=hX.facts;clear hX hbX;go_wp2_with fail;refine HBo.out.mono ?_;rintro e w2 ⟨p1,q1,R1,v1,pf,R2,rfl,hBo⟩;have HB:=Lib.hid hBo;have HX2:=Lib.hid (HX.out.keep hBo.below);have hs1:=HB1.out.size;have HW:=Lib.hid (HB1.out.trans (hBo.below.mono hs1));clear hBo xc xf xz;obtain⟨xc,xf,xz⟩:=HX2.out.facts;by_cases hn:0≤now∧now≤253402300799
 ·obtain ⟨h0,h1⟩:=hn;have HE:=Lib.hid (show nowI now=now from if_pos ⟨h0,h1⟩);have HT:=Lib.hid (stick_any HB.out.y (Int.le_refl 0) now h0 (by show now≤253402300799 - 0;omega));dsimp only at HT;have hz:(0:Int)+now=now:=by omega
  rw [hz] at HT;go_wp2_with fail;refine HT.out.mono ?_;rintro e w3 ⟨rfl,hY3,hm3⟩;have hne:p1≠pf:=by
   rintro rfl;have h1:=HB.out.y.blk;have h2:=HB.out.r.blk;unfold Blk at h1 h2;rw [h1] at h2;injection h2 with h2;injection h2 with e1 e2 e3;revert e2;decide
  have hR3:RfAt w3 pf R2 S:=HB.out.r.mod hm3 (fun k o hk ho=>by
   subst hk;have h1:=HB.out.y.blk;unfold Blk at h1;rw [h1] at ho;injection ho with ho;subst ho;exact⟨rfl,fun cur e=>by injection e with e1 e2;revert e2;decide⟩)
  have hX3:=HX2.out.mod hm3 (show ¬ w.heap.size=p1 by have:=HX.out.lt;have:=HB.out.f1 p1 (.inl rfl);omega);have HY:=Lib.hid (And.intro hY3 (And.intro hR3 hm3));obtain⟨gc,gf,gz⟩:=hR3.blk.facts;clear hY3 hm3 hR3 xc xf xz;obtain⟨xc,xf,xz⟩:=hX3.facts;clear hX3;go_wp2_with fail;go_ret2;rw [HE.out];have hm4:Mod (fun k=>k=pf) w3 (w3.setCell ⟨pf,3,none⟩ (.int .i64 now)):=(Mod.refl (fun k=>k=pf) w3).setCell (a:=⟨pf,3,none⟩) (.inl rfl) _;have hp1:=HB.out.f1 p1 (.inl rfl);have hpf:=HB.out.f2 pf (.inl rfl);have hs2:=HB.out.below.size;have hs3:=HY.out.2.2.size;have hsw:=HB1.out.size;refine ⟨p1,q1,R1,v1,pf,{R2 with now:=now},rfl,⟨HY.out.1.other HY.out.2.1.blk rfl (by decide) (by decide) (by decide) hm4,HY.out.2.1.setNow now,rfl,HB.out.cnt,HB.out.plan,HB.out.dd,fun k hk=>Nat.le_trans hsw (HB.out.f1 k hk),fun k hk=>Nat.le_trans hsw (HB.out.f2 k hk),?_⟩⟩;exact HW.out.trans ((HY.out.2.2.below (fun k hk=>by omega) (by omega)).trans (hm4.below (fun k hk=>by omega) (by omega)))
 ·have HE:=Lib.hid (show nowI now=0 from if_neg hn);have hfin:Both30 w w2 S (nowI now) pl (.slice pa pn pc) p1 q1 R1 v1 pf R2:=by
   rw [HE.out];exact⟨HB.out.y,HB.out.r,HB.out.now,HB.out.cnt,HB.out.plan,HB.out.dd,fun k hk=>Nat.le_trans hs1 (HB.out.f1 k hk),fun k hk=>Nat.le_trans hs1 (HB.out.f2 k hk),HW.out⟩
  have HFin:=Lib.hid hfin;clear hfin;by_cases h0:0≤now
  ·have h1:¬ now≤253402300799:=fun h=>hn ⟨h0,h⟩;clear hn;go_wp2_with fail;go_ret2
   first | exact ⟨p1,q1,R1,v1,pf,R2,rfl,HFin.out⟩ | exact ⟨p1,q1,R1,v1,pf,rfl,R2,HFin.out⟩
  ·clear hn;go_wp2_with fail;go_ret2
   first | exact ⟨p1,q1,R1,v1,pf,R2,rfl,HFin.out⟩ | exact ⟨p1,q1,R1,v1,pf,rfl,R2,HFin.out⟩
theorem cn_neq (x:Cn) (w:World):(binOp .neq 38 (.agg #[.string x.path,.int .i64 x.dir,.int .i64 x.info,.int .i64 x.files,.int .i64 x.out,.int .i64 x.way,.string x.top]) (.agg #[.string x.path,.int .i64 x.dir,.int .i64 x.info,.int .i64 x.files,.int .i64 x.out,.int .i64 x.way,.string x.top])).run Tryz.prog w=.ok (.bool false) w:=by
 have u1:=Tryz.underlying9;have u2:=Tryz.underlying3;have a1:=Tryz.isAgg9;have z1:=Tryz.sizeOf9;have a2:=Tryz.isAgg3;have z2:=Tryz.sizeOf3;have hS:Tryz.prog.underlying 38=some (.struct (Tryz.prog.fieldsOf 38)):=by kernel_rfl
 have hp:Tryz.prog.stoodInHeld 38=false:=by kernel_rfl
 rw [run_neq_struct,show (10000:Nat)=9999+1 from rfl,run_equalIn_agg w 9999 38 _ _ hS hp];simp only [Program.fieldsOf,Tryz.underlying38];go_simp
end
section
open Go.RowKit
def Sy.dirF (Y:Sy) (u:Us) (dir:Int) (n:ByteArray):Sy×Int×Int:=
 if (Y.fs.ownF Y.dead u.c dir n).2=0∧(Y.fs.ownF Y.dead u.c dir n).1=0 then Y.op (fun S now=>S.mkdir u.c now dir n 448) else (Y,Y.fs.ownF Y.dead u.c dir n)
def Sy.dirsF (Y:Sy) (u:Us) (dir:Int):List ByteArray→Sy×Int
 | []=>(Y,0)
 | n :: l=>if (Y.dirF u dir n).2.2≠0 then ((Y.dirF u dir n).1,(Y.dirF u dir n).2.2) else (Y.dirF u dir n).1.dirsF u dir l
def partNs:List ByteArray:=[nInfo,nFiles,nOut,nWay]
def Sy.readyF (Y:Sy) (u:Us) (p:Plc):Sy×Cn×Int:=
 let r:=Y.dirF u p.dir p.name
 if r.2.2≠0 then (r.1,cn0,r.2.2) else
 let q:=r.1.dirsF u r.2.1 partNs
 if q.2≠0 then (q.1,cn0,q.2) else (q.1,q.1.fs.openF q.1.dead u p)
def Sy.triesF (Y:Sy) (u:Us):List Plc→Int→Sy×Bool×Cn×Int
 | [],e=>(Y,false,cn0,e)
 | p :: l,_=>if (Y.readyF u p).2.2=0∨(Y.readyF u p).1.dead=true then ((Y.readyF u p).1,true,(Y.readyF u p).2.1,(Y.readyF u p).2.2) else (Y.readyF u p).1.triesF u l (Y.readyF u p).2.2
def Sy.homeF (Y:Sy) (u:Us) (top:Int):List Plc:=
 if (Y.fs.dataF Y.dead u).2=0∧Y.fs.root (Y.fs.getZ (Y.fs.dataF Y.dead u).1).dev=top then [⟨(Y.fs.dataF Y.dead u).1,nHome,ByteArray.empty⟩] else []
def Sy.chooseF (Y:Sy) (u:Us) (no:Int):Sy×Cn×Int:=
 let t:=Y.fs.topF no
 if t.2.2≠0 then (Y,cn0,t.2.2) else
 let h:=Y.fs.dataF Y.dead u
 let a:=Y.triesF u (Y.homeF u t.1) 0
 if a.2.1=true then (a.1,a.2.2) else
 let b:=a.1.triesF u (a.1.fs.placesF a.1.dead u t.1 t.2.1) a.2.2.2
 if b.2.1=true then (b.1,b.2.2) else
 if h.2≠0 then (b.1,cn0,b.2.2.2) else b.1.readyF u ⟨h.1,nHome,ByteArray.empty⟩
structure SyOk (Y:Sy) (N:Nat):Prop where
 fine:Fine Y.fs N
 c0:0≤Y.count
 cN:Y.count≤N
 pl:Y.plan.length≤1000
theorem SyOk.mono {Y:Sy} {N M:Nat} (h:SyOk Y N) (hM:N≤M):SyOk Y M:=⟨h.fine.mono hM,h.c0,by have:=h.cN;omega,h.pl⟩
theorem change_count (Y:Sy):Y.change.1.count=Y.count∨Y.change.1.count=Y.count+1:=by
 unfold Sy.change
 split
 ·exact .inl rfl
 ·split <;> exact .inr rfl
theorem SyOk.change {Y:Sy} {N:Nat} (h:SyOk Y N):SyOk Y.change.1 (N+1):=by
 obtain⟨h1,h2,h3⟩:=change_fs Y;refine ⟨by rw [h1];exact h.fine.mono (by omega),?_,?_,by rw [h3];exact h.pl⟩ <;>
 ·have:=h.c0;have:=h.cN;rcases change_count Y with e | e <;> rw [e] <;> omega
theorem SyOk.op {Y:Sy} {N:Nat} (h:SyOk Y N) {g:Fs→Int→Fs×Int×Int} (hg:Fine (g Y.fs Y.now).1 (N+1)):SyOk (Y.op g).1 (N+1):=by
 have hc:=h.change;unfold Sy.op
 split
 ·exact hc
 ·exact ⟨hg,hc.c0,hc.cN,hc.pl⟩
theorem SyOk.dirF {Y:Sy} {N:Nat} (h:SyOk Y N) (u:Us) (dir:Int) (n:ByteArray):SyOk (Y.dirF u dir n).1 (N+1):=by
 unfold Sy.dirF
 split
 ·exact h.op (h.fine.mkdir _ _ _ _ _)
 ·exact h.mono (by omega)
theorem SyOk.dirsF {u:Us} {dir:Int}:∀ {l:List ByteArray} {Y:Sy} {N:Nat},SyOk Y N→SyOk (Y.dirsF u dir l).1 (N+l.length)
 | [],_,_,h=>h
 | n :: l,Y,N,h=>by
  rw [Sy.dirsF]
  split
  ·exact (h.dirF u dir n).mono (by simp)
  ·have:=(h.dirF u dir n).dirsF (u:=u) (dir:=dir) (l:=l);exact this.mono (by simp;omega)
theorem SyOk.readyF {Y:Sy} {N:Nat} (h:SyOk Y N) (u:Us) (p:Plc):SyOk (Y.readyF u p).1 (N+5):=by
 unfold Sy.readyF;dsimp only;have h1:=h.dirF u p.dir p.name
 split
 ·exact h1.mono (by omega)
 ·have h2:=h1.dirsF (u:=u) (dir:=(Y.dirF u p.dir p.name).2.1) (l:=partNs);have h3:N+1+partNs.length=N+5:=rfl;rw [h3] at h2
  split <;> exact h2
theorem SyOk.triesF {u:Us}:∀ {l:List Plc} {Y:Sy} {N:Nat} (e:Int),SyOk Y N→SyOk (Y.triesF u l e).1 (N+5*l.length)
 | [],_,_,_,h=>h
 | p :: l,Y,N,e,h=>by
  rw [Sy.triesF]
  split
  ·exact (h.readyF u p).mono (by simp;omega)
  ·exact ((h.readyF u p).triesF (u:=u) (l:=l) _).mono (by simp;omega)
theorem places_len (S:Fs) (d:Bool) (u:Us) (top:Int) (path:ByteArray):1≤(S.placesF d u top path).length∧(S.placesF d u top path).length≤2:=by
 unfold Fs.placesF
 split <;> simp
theorem home_len (Y:Sy) (u:Us) (top:Int):(Y.homeF u top).length≤1:=by
 unfold Sy.homeF
 split <;> simp
theorem SyOk.chooseF {Y:Sy} {N:Nat} (h:SyOk Y N) (u:Us) (no:Int):SyOk (Y.chooseF u no).1 (N+20):=by
 unfold Sy.chooseF;dsimp only;have h1:=home_len Y u (Y.fs.topF no).1;have h2:=h.triesF (u:=u) (l:=Y.homeF u (Y.fs.topF no).1) 0
 split
 ·exact h.mono (by omega)
 ·split
  ·exact h2.mono (by omega)
  ·generalize Y.triesF u (Y.homeF u (Y.fs.topF no).1) 0=a at h2 ⊢;have h3:=(places_len a.1.fs a.1.dead u (Y.fs.topF no).1 (Y.fs.topF no).2.1).2;have h4:=h2.triesF (u:=u) (l:=a.1.fs.placesF a.1.dead u (Y.fs.topF no).1 (Y.fs.topF no).2.1) a.2.2.2
   split
   ·exact h4.mono (by omega)
   ·split
    ·exact h4.mono (by omega)
    ·exact (h4.readyF u _).mono (by omega)
structure Keep1 (a b:An):Prop where
 kind:b.kind=a.kind
 mode:b.mode=a.mode
 uid:b.uid=a.uid
 data:b.data=a.data
 links:b.links=a.links
 ents:a.ents.length≤b.ents.length
 ctime:a.kind≠1→b.ctime=a.ctime
def Keep (S S':Fs):Prop:=∀ k a,S.get k=some a→∃ b,S'.get k=some b∧Keep1 a b
end
section
open Go.RowKit
def Goes (w w':World) (pf pw:Nat) (R:Rp) (pv:Value) (Z:Sy):Prop:=∃ R',SyAt w' pf pw R' pv Z∧Stp (R.Y pf pw) (R'.Y pf pw) w w'
section
variable {w w' w'':World} {pf pw:Nat} {R R':Rp} {pv:Value} {Y Z:Sy}
theorem Goes.of (h:SyAt w pf pw R pv Y) (hb:Below w.heap.size w w'):Goes w w' pf pw R pv Y:=⟨R,h.keep hb,Stp.of_below hb⟩
theorem Goes.below (h:Goes w w' pf pw R pv Z) (hb:Below w'.heap.size w' w''):Goes w w'' pf pw R pv Z:=by
 obtain⟨R',h1,h2⟩:=h;exact⟨R',h1.keep hb,h2.trans (Stp.of_below hb)⟩
end
end
section
open Go.RowKit
section
variable {w w':World} {pf pw:Nat} {R:Rp} {pv:Value} {Y:Sy}
theorem ldir_any (h:SyAt w pf pw R pv Y) {N:Nat} (hk:SyOk Y N) (hN:N≤900000) (u:Us) (dir:Int) (n:ByteArray) (hn:n.size≤9223372036854775807) :
  Calls Tryz.prog 116 #[.pointer (some ⟨pf,0,none⟩),.agg #[.int .i64 u.u,.int .i64 u.g,.string u.data],.int .i64 dir,.string n] w fun e w'=>
   e=.returned (.tuple #[.int .i64 (Y.dirF u dir n).2.1,.int .i64 (Y.dirF u dir n).2.2])∧Goes w w' pf pw R pv (Y.dirF u dir n).1:=by
 obtain⟨u,g,t⟩:=u;dsimp only;have hX:=Blk.new w #[.int .i64 u,.int .i64 g,.string t] 27;have hbX:=balloc (Below.refl w.heap.size w) (.cells #[.int .i64 u,.int .i64 g,.string t] 27);have HC:=Lib.hid (ccred_any u g t);have HO:=Lib.hid (fun w1 (hb1:Below w.heap.size w w1)=>cown_any (h.keep hb1) hk.fine.ok (by omega) u g t dir n);have HM:=Lib.hid (fun w1 (hb1:Below w.heap.size w w1)=>smkdir_any (h.keep hb1) hk.fine.ok (by omega) ⟨hk.c0,by have:=hk.cN;omega⟩ (by have:=hk.pl;omega) ⟨u,g⟩ dir n 448 hn);have HG:=Lib.hid (fun w1 (hb1:Below w.heap.size w w1)=>Goes.of h hb1);have HR:=Lib.hid (show Y.dirF ⟨u,g,t⟩ dir n=if (Y.fs.ownF Y.dead ⟨u,g⟩ dir n).2=0∧(Y.fs.ownF Y.dead ⟨u,g⟩ dir n).1=0 then Y.op (fun S now=>S.mkdir ⟨u,g⟩ now dir n 448) else (Y,Y.fs.ownF Y.dead ⟨u,g⟩ dir n) from rfl);generalize Y.dirF ⟨u,g,t⟩ dir n=rd at HR ⊢;generalize Y.fs.ownF Y.dead ⟨u,g⟩ dir n=r at HR HO;generalize Y.op (fun S now=>S.mkdir ⟨u,g⟩ now dir n 448)=q at HR HM;obtain⟨no,e1⟩:=r;dsimp only at HR HO;clear h hk;go_enter Tryz.func116,Tryz.ntmps116;go_upto_region 1 with fail;generalize w.alloc (.cells #[.int .i64 u,.int .i64 g,.string t] 27)=W0 at hX hbX ⊢;have HX:=Lib.hid hX;have HBX:=Lib.hid hbX;obtain⟨xc,xf,xz⟩:=hX.facts;clear hX hbX;go_wp2_with fail;refine (HO.out _ HBX.out).mono ?_;rintro e w1 ⟨rfl,hb1⟩;have HB1:=Lib.hid (bnext HBX.out hb1);have HX1:=Lib.hid (HX.out.keep hb1);clear hb1 xc xf xz;by_cases h0:e1=0
 ·by_cases h1:no=0
  ·have HE:=Lib.hid (HR.out.trans (if_pos ⟨h0,h1⟩));subst h0 h1;obtain⟨xc,xf,xz⟩:=HX1.out.facts;go_wp2_with fail;refine (HC.out _).mono ?_;rintro e w2 ⟨rfl,hb2⟩;have HB2:=Lib.hid (bnext HB1.out hb2);clear hb2 xc xf xz;go_wp2_with fail;refine (HM.out _ HB2.out).mono ?_;rintro e w3 ⟨rfl,R3,hY3,hS3⟩;have HG3:=Lib.hid (show Goes w w3 pf pw R pv q.1 from ⟨R3,hY3,(Stp.of_below HB2.out).trans hS3⟩);clear hY3 hS3;go_wp2_with fail;go_ret2;rw [HE.out];exact⟨rfl,HG3.out⟩
  ·have h1b:(no == 0)=false:=by simpa using h1
   have HE:=Lib.hid (HR.out.trans (if_neg (fun h=>h1 h.2)));subst h0;clear h1;go_wp2_with fail;go_ret2;rw [HE.out];exact⟨rfl,HG.out _ HB1.out⟩
 ·have h0b:(e1 == 0)=false:=by simpa using h0
  have HE:=Lib.hid (HR.out.trans (if_neg (fun h=>h0 h.1)));clear h0;go_wp2_with fail;go_ret2;rw [HE.out];exact⟨rfl,HG.out _ HB1.out⟩
end
end
section
open Go.RowKit
structure RyAt (w:World) (B pf:Nat) (R:Rf) (Y:Sy):Prop where
 r:RfAt w pf R Y.fs
 now:R.now=Y.now
 cnt:R.cnt=.int .i64 Y.count
 dd:R.dd=.bool Y.dead
 pl:∃ pa pn pc w0,R.pl=.slice pa pn pc∧w0.heap.size=B∧SliceAt w0 2 fltR pa pn pc Y.plan∧Below B w0 w
 low:∀ k,R.F pf k→B≤k
section
variable {w w':World} {B pf:Nat} {R R':Rf} {Y:Sy} {S:Fs}
theorem RyAt.size (h:RyAt w B pf R Y):B≤w.heap.size:=by
 obtain⟨pa,pn,pc,w0,-,h1,-,h2⟩:=h.pl;rw [←h1];exact h2.size
theorem RyAt.to (h:RyAt w B pf R Y) (hr:RfAt w' pf R' S) (hb:Below B w w') (hF:∀ k,R'.F pf k→B≤k) (hp:R'.pl=R.pl) {Z:Sy} (hz:Z.fs=S) (hn:R'.now=Z.now) (hc:R'.cnt=.int .i64 Z.count) (hd:R'.dd=.bool Z.dead) (hpl:Z.plan=Y.plan):RyAt w' B pf R' Z:=by
 obtain⟨pa,pn,pc,w0,h0,h1,h2,h3⟩:=h.pl;refine ⟨by rw [hz];exact hr,hn,hc,hd,⟨pa,pn,pc,w0,hp.trans h0,h1,by rw [hpl];exact h2,h3.trans hb⟩,hF⟩
theorem RyAt.keep (h:RyAt w B pf R Y) (hb:Below w.heap.size w w'):RyAt w' B pf R Y:=h.to (h.r.keep hb) (hb.mono h.size) h.low rfl rfl h.now h.cnt h.dd rfl
theorem RyAt.step (h:RyAt w B pf R Y) (hr:RfAt w' pf R' S) (hs:Stp (R.F pf) (R'.F pf) w w') (hl:Rf.Like R R'):RyAt w' B pf R' {Y with fs:=S}:=
 h.to hr (hs.below h.low h.size) (hs.above h.low h.size) hl.pl rfl (hl.now.trans h.now) (hl.cnt.trans h.cnt) (hl.dd.trans h.dd) rfl
theorem RfAt.turnC (h:RfAt w pf R S) (hm:Mod (fun k=>k=pf) w w') {c d:Value} (hb:Blk w' pf #[R.nv,R.dv,.int .i64 S.last,.int .i64 R.now,c,R.pl,d] 46):RfAt w' pf {R with cnt:=c,dd:=d} S:=by
 have hM:Mod (R.F pf) w w':=hm.mono (fun k hk=>.inl hk);refine ⟨hb,own_mod h.nds hm (fun k hk e=>?_),own_mod h.devs hm (fun k hk e=>?_),h.ns,fun x hx=>(h.ents x hx).rf h (Stp.of_mod hM)⟩
 ·obtain ⟨-,hc⟩:=own_obj1 h.nds e;exact rf_apart hc h.blk (by decide) hk.symm
 ·obtain ⟨-,hc⟩:=own_obj1 h.devs e;exact rf_apart hc h.blk (by decide) hk.symm
def GoesR (w w':World) (B pf:Nat) (R:Rf) (Z:Sy):Prop:=∃ R',RyAt w' B pf R' Z∧Stp (R.F pf) (R'.F pf) w w'
theorem GoesR.of (h:RyAt w B pf R Y) (hb:Below w.heap.size w w'):GoesR w w' B pf R Y:=⟨R,h.keep hb,Stp.of_below hb⟩
theorem GoesR.below {w'':World} (h:GoesR w w' B pf R Y) (hb:Below w'.heap.size w' w''):GoesR w w'' B pf R Y:=by
 obtain⟨R',h1,h2⟩:=h;exact⟨R',h1.keep hb,h2.trans (Stp.of_below hb)⟩
theorem GoesR.next {w'':World} (hs:Stp (R.F pf) (R'.F pf) w w') (h:GoesR w' w'' B pf R' Y):GoesR w w'' B pf R Y:=by
 obtain⟨R1,h1,h2⟩:=h;exact⟨R1,h1,hs.trans h2⟩
theorem GoesR.after {w'':World} (hb:Below w.heap.size w w') (h:GoesR w' w'' B pf R Y):GoesR w w'' B pf R Y:=GoesR.next (Stp.of_below hb) h
end
end
section
open Go.RowKit
section
variable {w w':World} {B pf:Nat} {R:Rf} {Y:Sy}
theorem RyAt.turn (h:RyAt w B pf R Y) (hm:Mod (fun k=>k=pf) w w') {Z:Sy} (hz:Z.fs=Y.fs) (hn:Z.now=Y.now) (hp:Z.plan=Y.plan) (hb:Blk w' pf #[R.nv,R.dv,.int .i64 Y.fs.last,.int .i64 R.now,.int .i64 Z.count,R.pl,.bool Z.dead] 46):GoesR w w' B pf R Z:=by
 have hs:Stp (R.F pf) (R.F pf) w w':=Stp.of_mod (hm.mono (fun k hk=>.inl hk));exact⟨{R with cnt:=.int .i64 Z.count,dd:=.bool Z.dead},h.to (h.r.turnC hm hb) (hs.below h.low h.size) h.low rfl hz (h.now.trans hn.symm) rfl rfl hp,hs⟩
theorem rgoes_any (h:RyAt w B pf R Y) (hc:0≤Y.count∧Y.count≤4611686018427387904) (hl:Y.plan.length≤1000000) :
  Calls Tryz.prog 131 #[.pointer (some ⟨pf,0,none⟩)] w fun e w'=>e=.returned (.int .i64 Y.change.2)∧GoesR w w' B pf R Y.change.1:=by
 have HY:=Lib.hid h;obtain⟨hc0,hc1⟩:=hc;obtain⟨pa,pn,pcap,w0,hpl0,hsz0,hSl0,hbw0⟩:=h.pl;have hbf:B≤pf:=h.low pf (.inl rfl);have HPn:=Lib.hid (fun wr (hm:Mod (fun x=>x=pf) w wr)=>hSl0.below (hbw0.trans ((Stp.of_mod (F:=R.F pf) (hm.mono (fun k hk=>.inl hk))).below h.low h.size)) (Nat.le_of_eq hsz0));obtain⟨rfl,hle,h63,hor⟩:=hSl0;have HBp:=Lib.hid (show ∀ b off,pa=some ⟨b,off,none⟩→Y.plan.length=0∨¬ b=pf from fun b off e=>by
  rcases hor with h0 | ⟨b',off',e',hlt,-⟩
  ·exact .inl h0
  ·rw [e'] at e;injection e with e;injection e with e1 e2;right;omega)
 clear hor;have hB:=h.r.blk;rw [h.cnt,h.dd,hpl0] at hB;have HPl:=Lib.hid hpl0;generalize hnw:R.now=now at hB;have HNw:=Lib.hid hnw;obtain⟨pc,pf',pz⟩:=hB.facts
 cases hd:Y.dead with
 | true=>
  have HE:=Lib.hid (change_dead hd);rw [hd] at pc;clear h hd hB hbw0 hpl0 hnw hsz0 hbf;go_enter Tryz.func131,Tryz.ntmps131;go_wp2_with fail;go_ret;rw [HE.out];exact⟨rfl,GoesR.of HY.out (Below.refl _ _)⟩
 | false=>
  rw [hd] at pc hB;have HD:=Lib.hid hd;have HB1:=Lib.hid (hB.set 4 (.int .i64 (Y.count+1)));clear h hd hB hbw0 hpl0 hnw hsz0 hbf;go_enter Tryz.func131,Tryz.ntmps131;go_wp2_with fail
  go_loopw [3] (fun t3 wr=>∃ k:Nat,k≤Y.plan.length∧t3=.int .i64 k∧Blk wr pf #[R.nv,R.dv,.int .i64 Y.fs.last,.int .i64 now,.int .i64 (Y.count+1),.slice pa Y.plan.length pcap,.bool false] 46∧Mod (fun x=>x=pf) w wr∧(∀ j (hj:j<Y.plan.length),j<k→Y.plan[j].1≠Y.count+1)) (fun t3 _=>Y.plan.length - (intOf t3).toNat)
  case atStart=>exact ⟨0,Nat.zero_le _,rfl,HB1.out,(Mod.refl (fun x=>x=pf) w).setCell (a:=⟨pf,4,none⟩) (.inl rfl) _,fun j _ h=>absurd h (Nat.not_lt_zero _)⟩
  case round=>
   obtain⟨k,hk,rfl,hb,hm,hbef⟩:=hrel;have HBw:=Lib.hid hb;have HMw:=Lib.hid hm;have HBe:=Lib.hid hbef;obtain⟨bc,bf,bz⟩:=hb.facts;have hpl:=HPn.out wr hm;clear hb hbef;by_cases hlt:k<Y.plan.length
   ·obtain ⟨-,-,-,h0 | ⟨b,off,he,hbl,hel⟩⟩:=hpl
    ·omega
    ·subst he;obtain⟨cs,e1,e2,e3⟩:=hel k hlt;unfold fltR at e2;subst e2;have c0:=e3 0 (by rw [fltC_len];omega);have c1:=e3 1 (by rw [fltC_len];omega);obtain⟨fa,fw,hfe⟩:∃ fa fw,Y.plan[k]=(fa,fw):=⟨_,_,rfl⟩;have HFe:=Lib.hid hfe;have c0':wr.cell? ⟨b,off+k*2,none⟩=some (.int .i64 fa):=by rw [hfe] at c0;exact c0
     have c1':wr.cell? ⟨b,off+k*2+1,none⟩=some (.int .i64 fw):=by rw [hfe] at c1;exact c1
     have mixed:Tryz.prog.follows .mixedOrders=true:=by kernel_rfl
     clear hel e1 e3 c0 c1 hm hfe;go_upto_region 7 with fail;refine wp_region_lex 12 mixed (by kernel_rfl) (show PanicOk _ from by repeat (first | exact pk_body | refine pk_then ?_ | refine pk_block ?_ | refine pk_scope ?_)) ?_;simp only [List.take_succ_cons,List.take_zero,List.drop_succ_cons,List.drop_zero]
     repeat still_step
     refine wpStill_nil ?_;have hbp:¬ b=pf:=(HBp.out b off rfl).resolve_left (by omega);by_cases he:fa=Y.count+1
     ·have HE:=Lib.hid (change_at HD.out hlt HBe.out (by rw [HFe.out];exact he));rw [HFe.out] at HE;have heb:(fa == Y.count+1)=true:=by simpa using he
      clear he;by_cases h20:fw=20
      ·have h20':(fw == 20)=true:=by simpa using h20
       have HV:=Lib.hid (show (fw == 20)=true from h20');clear h20;go_wp2_with fail;go_ret;rw [HE.out];exact⟨rfl,HY.out.turn (HMw.out.drew.setCell (a:=⟨pf,6,none⟩) (.inl rfl) _) rfl rfl rfl (by dsimp only;rw [HV.out,HPl.out,HNw.out];exact HBw.out.drew.set 6 _)⟩
      ·have h20':(fw == 20)=false:=by simpa using h20
       have HV:=Lib.hid (show (fw == 20)=false from h20');clear h20;go_wp2_with fail;go_ret;rw [HE.out];exact⟨rfl,HY.out.turn HMw.out.drew rfl rfl rfl (by dsimp only;rw [HV.out,HPl.out,HNw.out];exact HBw.out.drew)⟩
     ·have heb:(fa == Y.count+1)=false:=by simpa using he
      have HN:=Lib.hid he;clear he;go_wp2_with fail;go_roundw
      case rel=>exact ⟨k+1,by omega,by go_num,HBw.out.drew,HMw.out.drew,fun j hj hlt2=>by
       by_cases hjk:j=k
       ·subst hjk;rw [HFe.out];exact HN.out
       ·exact HBe.out j hj (by omega)⟩
      case measure=>simp [intOf];omega
   ·obtain rfl:k=Y.plan.length:=by omega
    have HE:=Lib.hid (change_none HD.out (fun x hx=>by obtain ⟨j,hj,rfl⟩:=List.mem_iff_getElem.1 hx;exact HBe.out j hj hj));clear hm hpl;go_wp2_with fail;go_ret;rw [HE.out];exact⟨rfl,HY.out.turn HMw.out rfl rfl rfl (by rw [HD.out,HPl.out,HNw.out];exact HBw.out)⟩
end
end
section
open Go.RowKit
section
variable {w w':World} {B pf:Nat} {R:Rf} {Y:Sy}
theorem rmkdir21_any (h:RyAt w B pf R Y) {N:Nat} (hk:FsOk Y.fs N) (hN:N≤100000) (hgl:Y.fs.ns.length≤100000) (hc:0≤Y.count∧Y.count≤4611686018427387904) (hl:Y.plan.length≤1000000) (c:Cr) (dir:Int) (s:ByteArray) (hs:s.size≤100000) (mode:Int) :
  Calls Tryz.prog 192 #[.pointer (some ⟨pf,0,none⟩),.agg #[.int .i64 c.u,.int .i64 c.g],.int .i64 dir,.string s,.int .i64 mode] w fun e w'=>
   e=.returned (.tuple #[.int .i64 (Y.op (fun S now=>S.mkdir c now dir s mode)).2.1,.int .i64 (Y.op (fun S now=>S.mkdir c now dir s mode)).2.2])∧GoesR w w' B pf R (Y.op (fun S now=>S.mkdir c now dir s mode)).1:=by
 have hb0:=balloc (Below.refl w.heap.size w) (.cells #[.int .i64 c.u,.int .i64 c.g] 67);have HC:=Lib.hid (rgoes_any (h.keep hb0) hc hl);obtain⟨hf1,hf2,hf3⟩:=change_fs Y;have HF:=Lib.hid (And.intro hf1 hf2);have hk1:FsOk Y.change.1.fs N:=by rw [hf1];exact hk
 have hgl1:Y.change.1.fs.ns.length≤100000:=by rw [hf1];exact hgl
 have hnF:¬ R.F pf w.heap.size:=fun hf=>by have:=h.r.lt hf;omega
 have HK:=Lib.hid (And.intro hk1 hgl1);have HS0:=Lib.hid (Stp.of_below (F:=R.F pf) hb0);clear h hk hf1 hf2 hf3 hb0 hk1 hgl1 hgl;go_enter Tryz.func192,Tryz.ntmps192;go_wp2_with fail;refine HC.out.mono ?_;rintro e w1 ⟨rfl,R1,hY1,hm1⟩;have HS1:=Lib.hid (HS0.out.trans hm1);by_cases h0:Y.change.2=0
 ·have h0b:(Y.change.2 == 0)=true:=by simpa using h0
  have HE:=Lib.hid (show Y.op (fun S now=>S.mkdir c now dir s mode)=_ from if_neg (by simp [h0]));have hcr:=(Blk.new w #[.int .i64 c.u,.int .i64 c.g] 67).mod hm1.mod hnF;obtain⟨cc,-,cz⟩:=hcr.facts;have HD:=Lib.hid (rdirC_any hY1.r c HK.out.1 hN HK.out.2 dir s hs mode);have HY1:=Lib.hid hY1;clear h0 hcr hY1 hm1;go_wp2_with fail;refine HD.out.mono ?_;rintro e w5 ⟨rfl,R5,hR5,hS5,hL5⟩;have HY5:=Lib.hid (HY1.out.step hR5 hS5 hL5);have HS5:=Lib.hid (HS1.out.trans hS5);clear hR5 hS5 hL5;go_wp2_with fail;go_ret2;have h5:=HY5.out;rw [HY1.out.now] at h5;rw [HE.out,HF.out.1.symm,HF.out.2.symm,HY1.out.now];exact⟨rfl,R5,h5,HS5.out⟩
 ·have h0b:(Y.change.2 == 0)=false:=by simpa using h0
  have HE:=Lib.hid (show Y.op (fun S now=>S.mkdir c now dir s mode)=_ from if_pos h0);have HY1:=Lib.hid hY1;clear hY1 h0 hm1;generalize Y.change.2=ce at HE h0b ⊢;go_wp2_with fail;go_ret2;rw [HE.out];exact⟨rfl,R1,HY1.out,HS1.out⟩
theorem rcreate21_any (h:RyAt w B pf R Y) {N:Nat} (hk:FsOk Y.fs N) (hN:N≤100000) (hgl:Y.fs.ns.length≤100000) (hc:0≤Y.count∧Y.count≤4611686018427387904) (hl:Y.plan.length≤1000000) (c:Cr) (dir:Int) (s:ByteArray) (hs:s.size≤100000) (mode:Int) (data:ByteArray) :
  Calls Tryz.prog 72 #[.pointer (some ⟨pf,0,none⟩),.agg #[.int .i64 c.u,.int .i64 c.g],.int .i64 dir,.string s,.int .i64 mode,.string data] w fun e w'=>
   e=.returned (.tuple #[.int .i64 (Y.op (fun S now=>S.file c now dir s mode data)).2.1,.int .i64 (Y.op (fun S now=>S.file c now dir s mode data)).2.2])∧GoesR w w' B pf R (Y.op (fun S now=>S.file c now dir s mode data)).1:=by
 have hb0:=balloc (Below.refl w.heap.size w) (.cells #[.int .i64 c.u,.int .i64 c.g] 67);have HC:=Lib.hid (rgoes_any (h.keep hb0) hc hl);obtain⟨hf1,hf2,hf3⟩:=change_fs Y;have HF:=Lib.hid (And.intro hf1 hf2);have hk1:FsOk Y.change.1.fs N:=by rw [hf1];exact hk
 have hgl1:Y.change.1.fs.ns.length≤100000:=by rw [hf1];exact hgl
 have hnF:¬ R.F pf w.heap.size:=fun hf=>by have:=h.r.lt hf;omega
 have HK:=Lib.hid (And.intro hk1 hgl1);have HS0:=Lib.hid (Stp.of_below (F:=R.F pf) hb0);clear h hk hf1 hf2 hf3 hb0 hk1 hgl1 hgl;go_enter Tryz.func72,Tryz.ntmps72;go_wp2_with fail;refine HC.out.mono ?_;rintro e w1 ⟨rfl,R1,hY1,hm1⟩;have HS1:=Lib.hid (HS0.out.trans hm1);by_cases h0:Y.change.2=0
 ·have h0b:(Y.change.2 == 0)=true:=by simpa using h0
  have HE:=Lib.hid (show Y.op (fun S now=>S.file c now dir s mode data)=_ from if_neg (by simp [h0]));have hcr:=(Blk.new w #[.int .i64 c.u,.int .i64 c.g] 67).mod hm1.mod hnF;obtain⟨cc,-,cz⟩:=hcr.facts;have HD:=Lib.hid (rfileC_any hY1.r c HK.out.1 hN HK.out.2 dir s hs mode data);have HY1:=Lib.hid hY1;clear h0 hcr hY1 hm1;go_wp2_with fail;refine HD.out.mono ?_;rintro e w5 ⟨rfl,R5,hR5,hS5,hL5⟩;have HY5:=Lib.hid (HY1.out.step hR5 hS5 hL5);have HS5:=Lib.hid (HS1.out.trans hS5);clear hR5 hS5 hL5;go_wp2_with fail;go_ret2;have h5:=HY5.out;rw [HY1.out.now] at h5;rw [HE.out,HF.out.1.symm,HF.out.2.symm,HY1.out.now];exact⟨rfl,R5,h5,HS5.out⟩
 ·have h0b:(Y.change.2 == 0)=false:=by simpa using h0
  have HE:=Lib.hid (show Y.op (fun S now=>S.file c now dir s mode data)=_ from if_pos h0);have HY1:=Lib.hid hY1;clear hY1 h0 hm1;generalize Y.change.2=ce at HE h0b ⊢;go_wp2_with fail;go_ret2;rw [HE.out];exact⟨rfl,R1,HY1.out,HS1.out⟩
end
end
end Go.Proofs.YtihdbncoijhihaaGreat
