import Derived.Test.YtbndfmkgamdgeaaGreatDoorSO1
import Derived.Test.YtbndfmkgamdgeaaGreatDoorSO2
import Derived.Test.YtbndfmkgamdgeaaGreatDoorSO5
import Derived.Test.YtbndfmkgamdgeaaGreatDoorSO6
import Derived.Test.YtbndfmkgamdgeaaGreatDoorSO7
import Derived.Test.YtbndfmkgamdgeaaGreatDoorSO8
import Derived.Test.YtbndfmkgamdgeaaGreatDoorSO9
import Derived.Test.YtbndfmkgamdgeaaGreatDoorSO10
import Derived.Test.YtbndfmkgamdgeaaGreatDoorSO11
import Derived.Test.YtbndfmkgamdgeaaGreatDoorSO12
import Derived.Test.YtbndfmkgamdgeaaGreatDoorSO13
import Derived.Test.YtbndfmkgamdgeaaGreatDoorSO19
import Derived.Test.YtbndfmkgamdgeaaGreatDoorSO27
set_option linter.unusedVariables false
set_option linter.unusedSimpArgs false
set_option maxRecDepth 100000
set_option maxHeartbeats 16000000
namespace Go.Proofs.YtbndfmkgamdgeaaGreatDoor
section
open Go.RowKit
def Fd.v (x:Fd):Value:=.agg #[.int .i64 x.dir,.string x.name,.int .i64 x.no,.bool x.slash]
def tripM (Bt:Nat) (w:World):Nat:=match w.cell? ⟨Bt,4,none⟩,w.cell? ⟨Bt,5,none⟩ with
 | some (.slice _ n _),some (.int _ h)=>n+(8 - h).toNat*5000
 | _,_=>0
theorem tripM_of {w:World} {Bt pw:Nat} {c:Cr} {k:Int} {ta:Option Addr} {tl tc:Nat} {hops:Int} {must:Bool} (h:TripAt w Bt pw c k ta tl tc hops must):tripM Bt w=tl+(8 - hops).toNat*5000:=by
 unfold TripAt at h;have e4:=h.cell 4;have e5:=h.cell 5;unfold tripM;rw [e4,e5];rfl
theorem seek_results {tmps:Array Value} {W:World} {B:Nat} {x:Fd} {e:Int} (hb:Blk W B #[.int .i64 x.dir,.string x.name,.int .i64 x.no,.bool x.slash] 189)
  (h8:tmps.getD 8 undef=.pointer (some ⟨B,0,none⟩)) (h9:tmps.getD 9 undef=.int .i64 e):(results Tryz.f152 tmps).run Tryz.prog W=.ok (.tuple #[x.v,.int .i64 e]) W:=by
 have q0:=hb.cell 0;have q1:=hb.cell 1;have q2:=hb.cell 2;have q3:=hb.cell 3;rw [Array.getD_eq_getD_getElem?] at h8 h9;simp [results,Tryz.results152,go_sem,Fd.v,h8,h9,q0,q1,q2,q3]
theorem keepT_set4 {w:World} {A B:Nat} {x y v0 v1 v2 v3:Value} (h:w.cell? ⟨A,3,none⟩=some x∧w.cell? ⟨A,6,none⟩=some y) (hne:A≠B) :
  ((((w.setCell ⟨B,0,none⟩ v0).setCell ⟨B,1,none⟩ v1).setCell ⟨B,2,none⟩ v2).setCell ⟨B,3,none⟩ v3).cell? ⟨A,3,none⟩=some x∧
  ((((w.setCell ⟨B,0,none⟩ v0).setCell ⟨B,1,none⟩ v1).setCell ⟨B,2,none⟩ v2).setCell ⟨B,3,none⟩ v3).cell? ⟨A,6,none⟩=some y:=by
 have key:((((w.setCell ⟨B,0,none⟩ v0).setCell ⟨B,1,none⟩ v1).setCell ⟨B,2,none⟩ v2).setCell ⟨B,3,none⟩ v3).heap[A]? = w.heap[A]?:=by
  rw [Below.heap_setCell _ _ _ _ hne,Below.heap_setCell _ _ _ _ hne,Below.heap_setCell _ _ _ _ hne,Below.heap_setCell _ _ _ _ hne]
 constructor
 ·rw [←h.1];simp only [World.cell?,key]
 ·rw [←h.2];simp only [World.cell?,key]
section
variable {w w':World} {pw:Nat} {R:Rp} {S:Fs}
def TrR (w:World) (pw Br Bt:Nat) (S:Fs) (c:Cr) (path:ByteArray) (f:Bool) (wr:World):Prop:=
 ∃ (k:Int) (l:List (List UInt8)) (must:Bool) (hp:Nat) (ta:Option Addr) (tl tc:Nat),TripAt wr Bt pw c k ta tl tc hp must∧SA wr ta tl tc l∧(∀ b off,ta=some ⟨b,off,none⟩→b≠Bt)∧hp≤8∧l.length≤4097*(hp+1)∧
  S.path c path f=S.seekH c f (8 - hp) k must l∧Blk wr Br #[.int .i64 0,.string ⟨#[]⟩,.int .i64 0,.bool false] 189∧Below w.heap.size w wr
theorem path_any (h:WdAt w pw R S) {N:Nat} (hk:FsOk S N) (hN:N≤999999) (c:Cr) (path:ByteArray) (hp:path.size≤100000) (f:Bool) :
  Calls Tryz.prog 152 #[.pointer (some ⟨pw,0,none⟩),.agg #[.int .i64 c.u,.int .i64 c.g],.string path,.bool f] w fun e w'=>e=.returned (.tuple #[(S.path c path f).1.v,.int .i64 (S.path c path f).2])∧Below w.heap.size w w':=by
 have HW:=Lib.hid h;have HK:=Lib.hid hk;have HDv:=Lib.hid (fun w1 (hb1:Below w.heap.size w w1)=>wdevs_any (h.keep hb1) hk.d1);have hnz:=hk.d1;generalize S.ds.length=n at HDv hnz;have hz:((n:Int) == 0)=false:=by simp;omega
 have mixed:Tryz.prog.follows .mixedOrders=true:=by kernel_rfl
 obtain⟨pc,-,pz⟩:=h.blk.facts;have HPC:=Lib.hid pc;have HPn:=Lib.hid (fun w=>npath_any path w (by omega));have HPE:=Lib.hid (show S.path c path f=if pathE path≠0 then (fd0,pathE path) else S.seekH c f 8 1 (slashB path.data.toList) (partsL path.data.toList) from rfl);have HSz:=Lib.hid (show pathE path=0→path.size≤4096 by
  unfold pathE
  split
  ·intro h;cases h
  ·split
   ·intro h;cases h
   ·split
    ·intro h;cases h
    ·intro _;omega)
 generalize pathE path=pe at HPn HPE HSz;clear h hk pc;have hBr:Blk ((w.alloc (.cells #[.int .i64 c.u,.int .i64 c.g] 54)).alloc (.cells #[.int .i64 0,.string ⟨#[]⟩,.int .i64 0,.bool false] 189)) (w.heap.size+1) #[.int .i64 0,.string ⟨#[]⟩,.int .i64 0,.bool false] 189:=by
  have:=Blk.new (w.alloc (.cells #[.int .i64 c.u,.int .i64 c.g] 54)) #[.int .i64 0,.string ⟨#[]⟩,.int .i64 0,.bool false] 189
  rwa [World.size_alloc] at this
 have hCr:=(Blk.new w #[.int .i64 c.u,.int .i64 c.g] 54).old (.cells #[.int .i64 0,.string ⟨#[]⟩,.int .i64 0,.bool false] 189);have hb0:=balloc (balloc (Below.refl w.heap.size w) (.cells #[.int .i64 c.u,.int .i64 c.g] 54)) (.cells #[.int .i64 0,.string ⟨#[]⟩,.int .i64 0,.bool false] 189);go_enter Tryz.func152,Tryz.ntmps152;go_wp2_with fail;generalize (w.alloc (.cells #[.int .i64 c.u,.int .i64 c.g] 54)).alloc (.cells #[.int .i64 0,.string ⟨#[]⟩,.int .i64 0,.bool false] 189)=W0 at hBr hCr hb0 ⊢;refine wp_scope_straight ?_;have HB0:=Lib.hid hb0;have HBr:=Lib.hid hBr;have HCr:=Lib.hid hCr;clear hb0 hBr hCr;go_wp2_with fail;refine (HDv.out _ HB0.out).mono ?_;rintro e w1 ⟨rfl,rfl⟩;go_wp2_with fail;refine (HPn.out _).mono ?_;rintro e w1 ⟨rfl,rfl⟩;by_cases hpe:pe=0
 ·have hp4:=HSz.out hpe;have HPE2:=Lib.hid (HPE.out.trans (if_neg (by simp [hpe])));subst hpe;have HPs:=Lib.hid (fun w=>nparts_any path w);have HSl:=Lib.hid (fun w=>slash_any path w (by omega));clear HPE HSz HPn;have HCl:=Lib.hid (show Calls Tryz.prog 198 #[.func (.func 104) #[] #[.pointer (some ⟨W0.heap.size,0,none⟩)]] (W0.alloc (.cells #[.string path] 9)).drew (fun e w'=>(∃ v,e=.returned v∧OS w' W0.heap.size v (partsL path.data.toList))∧Below W0.heap.size W0 w') from (pcollect_any path (by omega) W0.drew).mono (fun e w' h=>⟨h.1,(Below.refl _ _).drew.trans h.2⟩));have HPl:=Lib.hid (show (partsL path.data.toList).length≤4097 by
   have h1:=parts_len path.data.toList;have h2:path.data.toList.length=path.size:=Array.length_toList;omega)
  generalize partsL path.data.toList=ps at HPE2 HCl HPl;generalize slashB path.data.toList=sl at HPE2 HSl;have hCr:=HCr.out;obtain⟨cc,-,cz⟩:=hCr.facts;clear hCr;go_upto_region 6 with fail
  go_cut [11] (fun t11 wx=>∃ (Bt:Nat) (ta:Option Addr) (tc:Nat),t11=.pointer (some ⟨Bt,0,none⟩)∧TripAt wx Bt pw c 1 ta ps.length tc ((0:Nat):Int) sl∧SA wx ta ps.length tc ps∧(∀ b off,ta=some ⟨b,off,none⟩→b≠Bt)∧W0.heap.size≤Bt∧Below W0.heap.size W0 wx)
  case first=>
   go_wp2_with fail;have hzz:W0.heap.size≤W0.heap.size:=Nat.le_refl _
   go_region_held3 (fun w'=>(∀ b o,b<W0.heap.size→w'.cell? ⟨b,o,none⟩=W0.cell? ⟨b,o,none⟩)∧Below W0.heap.size W0 w') (first | with_reducible assumption | with_reducible exact keepS_here _ | with_reducible exact keepS_here2 _ | with_reducible exact keepS_call (by assumption) (by assumption) | with_reducible exact keepS_alloc (by assumption) _ | with_reducible exact keepS_allocD (by assumption) _ | with_reducible exact keepS_realloc (by assumption) (by assumption) | with_reducible exact keepS_set4 (by assumption) (by assumption))
    ((first
     | (go_at_call 55;((with_reducible refine (HPs.out _).mono ?_);rintro e w3 ⟨rfl,rfl⟩))
     | (go_at_call 198;((with_reducible refine HCl.out.mono ?_);rintro e w4 ⟨⟨v,rfl,hO4⟩,hb4⟩;obtain ⟨a4,c4,rfl,-,-,hf4⟩:=own_form hO4;have hS4:=keepS_of hb4;have HX:=Lib.hid (And.intro (SA.of_own hO4) (And.intro hf4 hb4));clear hO4 hb4 hf4))
     | (go_at_call 199;((with_reducible refine (HSl.out _).mono ?_);rintro e w5 ⟨rfl,rfl⟩))))
   all_goals
    clear hS4;go_wp2_with fail;go_meet;obtain⟨hSA,hf,hb⟩:=HX.out;refine ⟨_,a4,c4,rfl,Blk.new _ _ _,hSA.keep ((Below.refl _ _).alloc (Nat.le_refl _) _),fun b off h=>?_,hb.size,hb.alloc hb.size _⟩;rcases hf with ⟨h0,-⟩|⟨g,h0,-,hg⟩
    ·rw [h0] at h;cases h
    ·rw [h0] at h;injection h with h;injection h with h1 h2;omega
  case rest=>
   obtain⟨Bt,ta,tc,rfl,hT,hS,hta,hBt,hb⟩:=hcut;generalize wc=W1 at hT hS hb ⊢;have HB1:=Lib.hid (HB0.out.trans (hb.mono HB0.out.size));have HBt:=Lib.hid (show w.heap.size+2≤Bt by have:=HBr.out.lt;omega);have HR1:=Lib.hid (show TrR w pw (w.heap.size+1) Bt S c path f W1 from ⟨1,ps,sl,0,ta,ps.length,tc,hT,hS,hta,by omega,by have:=HPl.out;omega,HPE2.out,HBr.out.keep hb,HB1.out⟩);clear hT hS hta hBt hb cc cz HCl HPl HPE2 HPs HSl;go_wp2_with fail;refine wp_label ?_;go_wp2_with fail
   go_loopw [] (fun wr=>TrR w pw (w.heap.size+1) Bt S c path f wr) (fun wr=>tripM Bt wr)
   case atStart=>exact HR1.out
   case round=>
    obtain⟨k,l,must,hp,ta,tl,tc,hT,hS,hta,hp8,hll,hE,hBr,hb⟩:=hrel;have HT:=Lib.hid hT;have HS:=Lib.hid hS;have HTa:=Lib.hid hta;have HE:=Lib.hid hE;have HBR:=Lib.hid hBr;have HB:=Lib.hid hb;have HM:=Lib.hid (tripM_of hT);unfold TripAt at hT;obtain⟨bc,bf,bz⟩:=hT.facts;have hln:=hS.len;clear hS hta hE hb hT
    cases l with
    | nil=>
     obtain rfl:tl=0:=by simpa using hln.symm
     have HE2:=Lib.hid (HE.out.trans seek_nil);obtain⟨rc,rf,rz⟩:=hBr.facts;clear hBr;go_wp2_with (first | exact bodyPost_ret (seek_results (x:=⟨0,ByteArray.empty,k,true⟩) (e:=0) HBR.out.set4 rfl rfl) rfl ⟨by rw [HE2.out],below_set4 HB.out (Nat.le_succ _)⟩ | exact scope_end (seek_results (x:=⟨0,ByteArray.empty,k,true⟩) (e:=0) HBR.out.set4 rfl rfl) ⟨by rw [HE2.out],below_set4 HB.out (Nat.le_succ _)⟩)
    | cons p l=>
     obtain⟨m,rfl⟩:∃ m,tl=m+1:=⟨l.length,by simpa using hln.symm⟩;have hlm:l.length=m:=by simpa using hln
     have HLm:=Lib.hid hlm;obtain⟨b,off,rfl,hbl⟩:=HS.out.some_of (Nat.succ_pos m);have hpc:wr.cell? ⟨b,off,none⟩=some (.string (str p)):=HS.out.cell rfl 0 (by simp);have htc:m+1≤tc∧tc≤9223372036854775807:=⟨HS.out.2.1,HS.out.2.2.1⟩;obtain⟨htc1,htc2⟩:=htc;have HLl:=Lib.hid hll;clear hln hlm hBr hll;go_upto_region 9 with fail
     go_cut [] (fun wx=>∃ (ta2:Option Addr) (tc2:Nat),TripAt wx Bt pw c k ta2 m tc2 hp must∧SA wx ta2 m tc2 l∧(∀ b off,ta2=some ⟨b,off,none⟩→b≠Bt)∧Blk wx (w.heap.size+1) #[.int .i64 0,.string ⟨#[]⟩,.int .i64 0,.bool false] 189∧Below w.heap.size w wx)
     case first=>
      by_cases h1:tc=1
      ·obtain rfl:m=0:=by omega
       subst h1;go_wp2_with fail;go_meet;exact⟨_,_,HT.out.set 4 _,(show SA wr (some ⟨b,off,none⟩) 0 0 l from by have h:=HS.out.tail rfl;simpa using h).setA HTa.out 4 _,HTa.out,HBR.out.setOther ⟨Bt,4,none⟩ _ (by have:=HBt.out;show Bt≠_;omega),HB.out.setCell (show w.heap.size≤Bt by have:=HBt.out;omega) _⟩
      ·have h1a:¬ (tc:Int)=1:=by omega
       have HS3:=Lib.hid (show SA wr (some ⟨b,off+1,none⟩) m (tc - 1) l from by have h:=HS.out.tail rfl;rw [if_neg h1] at h;exact h);have HT3:=Lib.hid (show ∀ b' off',some (⟨b,off+1,none⟩:Addr)=some ⟨b',off',none⟩→b'≠Bt from fun b' off' h=>by injection h with h;injection h with h3 h4;rw [←h3];exact HTa.out b off rfl);go_wp2_with fail;go_meet;exact⟨_,_,HT.out.set 4 _,HS3.out.setA HT3.out 4 _,HT3.out,HBR.out.setOther ⟨Bt,4,none⟩ _ (by have:=HBt.out;show Bt≠_;omega),HB.out.setCell (show w.heap.size≤Bt by have:=HBt.out;omega) _⟩
     case rest=>
      obtain⟨ta2,tc2,hT2,hS2,hta2,hBr2,hb2⟩:=hcut;generalize wc=W2 at hT2 hS2 hBr2 hb2 ⊢;clear bc bf bz hpc hbl htc1 htc2;have HT2:=Lib.hid hT2;have HS2:=Lib.hid hS2;have HTa2:=Lib.hid hta2;have HBR2:=Lib.hid hBr2;have HB2:=Lib.hid hb2;have HSt:=Lib.hid (step_any (HW.out.keep hb2) HK.out hN c k hT2 (str p));rw [str_list] at HSt;unfold TripAt at hT2;obtain⟨bc,bf,bz⟩:=hT2.facts;obtain⟨lb,hlb⟩:∃ x:Bool,((m:Int) == 0)=x:=⟨_,rfl⟩;have HLb:=Lib.hid (show lb=decide (l=[]) by
       rw [←hlb,←HLm.out]
       cases l with
       | nil=>rfl
       | cons x l=>simp;omega)
      have HErr:=Lib.hid (fun he=>HE.out.trans (seek_err (h:=8 - hp) (l:=l) (must:=must) (f:=f) (c:=c) (S:=S) (at':=k) (p:=p) he));have HStp:=Lib.hid (show S.step c k p=((S.step c k p).1,(S.step c k p).2) from rfl);generalize hno:(S.step c k p).1=no at HSt;generalize her:(S.step c k p).2=er at HSt HErr;have HNo:=Lib.hid hno;have HEr:=Lib.hid her;clear hS2 hta2 hBr2 hb2 hT2 hno her HStp;go_upto_region 12 with (go_at_call 200;((with_reducible refine HSt.out.mono ?_);rintro e w3 ⟨rfl,hb3⟩;have HB3:=Lib.hid hb3;clear hb3));have hb3:=HB3.out;have hBw3:=HB2.out.trans (hb3.mono HB2.out.size);have HBw3:=Lib.hid hBw3;have hT3:=HT2.out.keep hb3;have HT3:=Lib.hid hT3;have HS3:=Lib.hid (HS2.out.keep hb3);have hBr3:=HBR2.out.keep hb3;have HBR3:=Lib.hid hBr3;have pc3:w3.cell? ⟨pw,0,none⟩=some (.pointer (some ⟨R.pt,0,none⟩)):=(hBw3.cell (p:=⟨pw,0,none⟩) pz).trans (HPC.out 0);clear bc bf bz hb3 hBw3 hBr3;unfold TripAt at hT3;clear hT3
      cases hg:S.get no with
      | none=>
       have HG:=Lib.hid (wget_no (HW.out.keep HBw3.out) hg);unfold An.v an0 at HG;have HGn:=Lib.hid hg;clear hg;go_wp2_with fail;refine HG.out.mono ?_;rintro e w4 ⟨rfl,hb4⟩;have hbX:=balloc hb4 (.cells #[.int .i64 0,.int .i64 0,.int .i64 0,.int .i64 0,.int .i64 0,.int .i64 0,.int .i64 0,.int .i64 0,.int .i64 0,.int .i64 0,.string ByteArray.empty,.slice none 0 0] 163);clear hb4 pc3;go_upto_region 13 with fail;generalize w4.alloc (.cells #[.int .i64 0,.int .i64 0,.int .i64 0,.int .i64 0,.int .i64 0,.int .i64 0,.int .i64 0,.int .i64 0,.int .i64 0,.int .i64 0,.string ByteArray.empty,.slice none 0 0] 163)=X at hbX ⊢;have HBX:=Lib.hid (HBw3.out.trans (hbX.mono HBw3.out.size));have HTX:=Lib.hid (Blk.keep HT3.out hbX);have HSX:=Lib.hid (HS3.out.keep hbX);have HRX:=Lib.hid (HBR3.out.keep hbX);clear hbX;by_cases he:er=0
       ·have heb:(er != 0)=false:=by simpa using he
        have HE0:=Lib.hid (show (S.step c k p).2=0 by rw [HEr.out];exact he);subst he;clear HErr;by_cases hup:p=[46,46]
        ·have hup':(str p).toList=[46,46]:=by rw [ba_list,str_list];exact hup
         have HUp:=Lib.hid (HE.out.trans (seek_up HE0.out hup));rw [HNo.out] at HUp;clear hup;have hTX:=HTX.out;obtain⟨bc,bf,bz⟩:=Blk.facts hTX;clear hTX;go_wp2_with fail;have HTN:=Lib.hid (show TripAt (X.setCell ⟨Bt,3,none⟩ (.int .i64 no)) Bt pw c no ta2 m tc2 hp must from HTX.out.set 3 _);go_roundw
         case rel=>exact ⟨no,l,must,hp,ta2,m,tc2,HTN.out,HSX.out.setA HTa2.out 3 _,HTa2.out,hp8,by have:=HLl.out;simp at this;omega,HUp.out,HRX.out.setOther ⟨Bt,3,none⟩ _ (by have:=HBt.out;show Bt≠_;omega),HBX.out.setCell (show w.heap.size≤Bt by have:=HBt.out;omega) _⟩
         case measure=>rw [HM.out,tripM_of HTN.out];omega
        ·have hup':((str p).toList == [46,46])=false:=by rw [ba_list,str_list];simpa using hup
         have HUp:=Lib.hid hup;clear hup;have hTX:=HTX.out;obtain⟨bc,bf,bz⟩:=Blk.facts hTX;have hRX:=HRX.out;obtain⟨rc,rf,rz⟩:=hRX.facts;clear hTX hRX
         cases lb with
         | true=>
          have hl0:l=[]:=by have:=HLb.out;simpa using this.symm
          have HE2:=Lib.hid (HE.out.trans (seek_new HE0.out HUp.out (by rw [HNo.out];exact HGn.out) hl0));clear hl0;go_wp2_with fail;have hne:Bt≠w.heap.size+1:=by have:=HBt.out;omega
          have b3:X.drew.cell? ⟨Bt,3,none⟩=some (.int .i64 k):=bc 3;have b6:X.drew.cell? ⟨Bt,6,none⟩=some (.bool must):=bc 6
          go_region_held3 (fun w'=>w'.cell? ⟨Bt,3,none⟩=some (.int .i64 k)∧w'.cell? ⟨Bt,6,none⟩=some (.bool must)) (first | exact ⟨b3,b6⟩ | exact keepT_set4 ⟨b3,b6⟩ hne) (fail)
          go_wp2_with (first | exact bodyPost_ret (seek_results (x:=⟨k,str p,0,must⟩) (e:=0) HRX.out.drew.set4 rfl rfl) rfl ⟨by rw [HE2.out],below_set4 HBX.out.drew (Nat.le_succ _)⟩ | exact scope_end (seek_results (x:=⟨k,str p,0,must⟩) (e:=0) HRX.out.drew.set4 rfl rfl) ⟨by rw [HE2.out],below_set4 HBX.out.drew (Nat.le_succ _)⟩)
         | false=>
          have hl0:l≠[]:=by have:=HLb.out;simpa using this.symm
          have HE2:=Lib.hid (HE.out.trans (seek_gone HE0.out HUp.out (by rw [HNo.out];exact HGn.out) hl0));clear hl0;go_wp2_with (first | exact bodyPost_ret (seek_results (x:=fd0) (e:=5) HRX.out.set4 rfl rfl) rfl ⟨by rw [HE2.out],below_set4 HBX.out (Nat.le_succ _)⟩ | exact scope_end (seek_results (x:=fd0) (e:=5) HRX.out.set4 rfl rfl) ⟨by rw [HE2.out],below_set4 HBX.out (Nat.le_succ _)⟩)
       ·have heb:(er != 0)=true:=by simpa using he
        have HE2:=Lib.hid (HErr.out he);have hRX:=HRX.out;obtain⟨rc,rf,rz⟩:=hRX.facts;clear hRX he;go_wp2_with (first | exact bodyPost_ret (seek_results (x:=fd0) (e:=er) HRX.out.set4 rfl rfl) rfl ⟨by rw [HE2.out],below_set4 HBX.out (Nat.le_succ _)⟩ | exact scope_end (seek_results (x:=fd0) (e:=er) HRX.out.set4 rfl rfl) ⟨by rw [HE2.out],below_set4 HBX.out (Nat.le_succ _)⟩)
      | some nd=>
       obtain⟨ea,el,ec,-,hG⟩:=wget_fix HW.out hg;have HG:=Lib.hid (hG w3 HBw3.out);unfold An.v at HG;have HGn:=Lib.hid hg;have HSy:=Lib.hid ((HK.out.get hg).1.sy);clear hg hG;go_wp2_with fail;refine HG.out.mono ?_;rintro e w4 ⟨rfl,hb4⟩;have hbX:=balloc hb4 (.cells #[.int .i64 nd.no,.int .i64 nd.dev,.int .i64 nd.kind,.int .i64 nd.mode,.int .i64 nd.uid,.int .i64 nd.gid,.int .i64 nd.mtime,.int .i64 nd.ctime,.int .i64 nd.links,.int .i64 nd.up,.string nd.data,.slice ea el ec] 163);have hNX:=Blk.new w4 #[.int .i64 nd.no,.int .i64 nd.dev,.int .i64 nd.kind,.int .i64 nd.mode,.int .i64 nd.uid,.int .i64 nd.gid,.int .i64 nd.mtime,.int .i64 nd.ctime,.int .i64 nd.links,.int .i64 nd.up,.string nd.data,.slice ea el ec] 163;clear hb4 pc3;go_upto_region 13 with fail;generalize w4.alloc (.cells #[.int .i64 nd.no,.int .i64 nd.dev,.int .i64 nd.kind,.int .i64 nd.mode,.int .i64 nd.uid,.int .i64 nd.gid,.int .i64 nd.mtime,.int .i64 nd.ctime,.int .i64 nd.links,.int .i64 nd.up,.string nd.data,.slice ea el ec] 163)=X at hbX hNX ⊢;have HBX:=Lib.hid (HBw3.out.trans (hbX.mono HBw3.out.size));have HTX:=Lib.hid (Blk.keep HT3.out hbX);have HSX:=Lib.hid (HS3.out.keep hbX);have HRX:=Lib.hid (HBR3.out.keep hbX);have HNX:=Lib.hid hNX;clear hbX hNX;by_cases he:er=0
       ·have heb:(er != 0)=false:=by simpa using he
        have HE0:=Lib.hid (show (S.step c k p).2=0 by rw [HEr.out];exact he);subst he;clear HErr;by_cases hup:p=[46,46]
        ·have hup':(str p).toList=[46,46]:=by rw [ba_list,str_list];exact hup
         have HUp:=Lib.hid (HE.out.trans (seek_up HE0.out hup));rw [HNo.out] at HUp;clear hup;have hTX:=HTX.out;obtain⟨bc,bf,bz⟩:=Blk.facts hTX;clear hTX;go_wp2_with fail;have HTN:=Lib.hid (show TripAt (X.setCell ⟨Bt,3,none⟩ (.int .i64 no)) Bt pw c no ta2 m tc2 hp must from HTX.out.set 3 _);go_roundw
         case rel=>exact ⟨no,l,must,hp,ta2,m,tc2,HTN.out,HSX.out.setA HTa2.out 3 _,HTa2.out,hp8,by have:=HLl.out;simp at this;omega,HUp.out,HRX.out.setOther ⟨Bt,3,none⟩ _ (by have:=HBt.out;show Bt≠_;omega),HBX.out.setCell (show w.heap.size≤Bt by have:=HBt.out;omega) _⟩
         case measure=>rw [HM.out,tripM_of HTN.out];omega
        ·have hup':((str p).toList == [46,46])=false:=by rw [ba_list,str_list];simpa using hup
         have HUp:=Lib.hid hup;clear hup;have hTX:=HTX.out;obtain⟨bc,bf,bz⟩:=Blk.facts hTX;have hRX:=HRX.out;obtain⟨rc,rf,rz⟩:=hRX.facts;have hNX:=HNX.out;obtain⟨nc,nf,nz⟩:=hNX.facts;clear hTX hRX hNX;obtain⟨lk,hlk⟩:∃ x:Bool,x=((nd.kind == 3) && (!lb || must || f)):=⟨_,rfl⟩;have HLk:=Lib.hid hlk;have HLk2:=Lib.hid (show lk=true↔nd.kind=3∧(l≠[]∨must=true∨f=true) by
          rw [hlk,HLb.out];simp [or_assoc])
         clear hlk;go_upto_region 21 with fail
         go_cut [111] (fun t111 wx=>t111=.bool lk∧X=wx)
         case first=>
          by_cases h3:nd.kind=3
          ·have h3':(nd.kind == 3)=true:=by simpa using h3
           clear h3
           cases lb <;> cases must <;> cases f
           all_goals
            have HV:=Lib.hid HLk.out;rw [h3'] at HV;go_wp2_with fail;go_meet;exact⟨by rw [HV.out];rfl,rfl⟩
          ·have h3':(nd.kind == 3)=false:=by simpa using h3
           have HV:=Lib.hid HLk.out;rw [h3',Bool.false_and] at HV;clear h3;go_wp2_with fail;go_meet;exact⟨by rw [HV.out],rfl⟩
         case rest=>
          obtain⟨rfl,hwc⟩:=hcut;subst hwc;have hll9:l.length≤36873:=by have h1:=HLl.out;simp only [List.length_cons] at h1;omega
          cases lk with
          | true=>
           have hlk:=HLk2.out.1 rfl;have hdz:=HSy.out hlk.1;have HKd:=Lib.hid hlk;have HDz:=Lib.hid hdz;have HF:=Lib.hid (follow_any HTX.out HSX.out HTa2.out nd.data hdz (by omega) ⟨by omega,by omega⟩);clear hlk hdz;go_wp2_with fail;refine HF.out.mono ?_;rintro e w5 ⟨hm5,⟨h8,rfl⟩|⟨h8,hd,rfl⟩|⟨h8,hd,rfl,ta5,tl5,tc5,hT5,hS5,ha5⟩⟩
           ·have HE2:=Lib.hid (show S.path c path f=(fd0,12) from HE.out.trans (by rw [show 8 - hp=0 by omega];exact seek_loop HE0.out HUp.out (by rw [HNo.out];exact HGn.out) HKd.out));have hR5:=HRX.out.mod hm5 (show ¬ (w.heap.size+1=Bt) by have:=HBt.out;omega);have HR5:=Lib.hid hR5;have HB5:=Lib.hid (HBX.out.trans (hm5.below (fun k hk=>by have:=HBt.out;omega) HBX.out.size));clear rc rf rz nc nf nz bc bf bz hm5;obtain⟨rc,rf,rz⟩:=hR5.facts;clear hR5 h8;go_wp2_with (first | exact bodyPost_ret (seek_results (x:=fd0) (e:=12) HR5.out.set4 rfl rfl) rfl ⟨by rw [HE2.out],below_set4 HB5.out (Nat.le_succ _)⟩ | exact scope_end (seek_results (x:=fd0) (e:=12) HR5.out.set4 rfl rfl) ⟨by rw [HE2.out],below_set4 HB5.out (Nat.le_succ _)⟩)
           ·have HE2:=Lib.hid (show S.path c path f=(fd0,5) from HE.out.trans (by rw [show 8 - hp=(7 - hp)+1 by omega];exact seek_void HE0.out HUp.out (by rw [HNo.out];exact HGn.out) HKd.out hd));have hR5:=HRX.out.mod hm5 (show ¬ (w.heap.size+1=Bt) by have:=HBt.out;omega);have HR5:=Lib.hid hR5;have HB5:=Lib.hid (HBX.out.trans (hm5.below (fun k hk=>by have:=HBt.out;omega) HBX.out.size));clear rc rf rz nc nf nz bc bf bz hm5;obtain⟨rc,rf,rz⟩:=hR5.facts;clear hR5 h8 hd;go_wp2_with (first | exact bodyPost_ret (seek_results (x:=fd0) (e:=5) HR5.out.set4 rfl rfl) rfl ⟨by rw [HE2.out],below_set4 HB5.out (Nat.le_succ _)⟩ | exact scope_end (seek_results (x:=fd0) (e:=5) HR5.out.set4 rfl rfl) ⟨by rw [HE2.out],below_set4 HB5.out (Nat.le_succ _)⟩)
           ·have HE2:=Lib.hid (show S.path c path f=S.seekH c f (8 - (hp+1)) (if nd.data.data.toList.head? = some 47 then 1 else k) (if l=[] then must || slashB nd.data.data.toList else must) (partsL nd.data.data.toList ++ l) from HE.out.trans (by rw [show 8 - hp=(8 - (hp+1))+1 by omega];exact seek_link HE0.out HUp.out (by rw [HNo.out];exact HGn.out) HKd.out hd));have HR5:=Lib.hid (HRX.out.mod hm5 (show ¬ (w.heap.size+1=Bt) by have:=HBt.out;omega));have HB5:=Lib.hid (HBX.out.trans (hm5.below (fun k hk=>by have:=HBt.out;omega) HBX.out.size));have hpl:(partsL nd.data.data.toList).length≤4097:=by
             have h1:=parts_len nd.data.data.toList;have h2:nd.data.data.toList.length=nd.data.size:=Array.length_toList;have:=HDz.out;omega
            have hl5:=hS5.len;rw [List.length_append] at hl5;have HT5:=Lib.hid (show TripAt w5 Bt pw c (if nd.data.data.toList.head? = some 47 then 1 else k) ta5 tl5 tc5 ((hp+1:Nat):Int) (if l=[] then must || slashB nd.data.data.toList else must) from hT5);have HS5:=Lib.hid hS5;have HA5:=Lib.hid (show ∀ b off,ta5=some ⟨b,off,none⟩→b≠Bt from fun b off h=>by have q1:=ha5 b off h;have q2:=HTX.out.lt;omega);have h8':hp+1≤8:=by omega
            clear hm5 hT5 hS5 ha5 h8 hd rc rf rz nc nf nz bc bf bz;go_wp2_with fail;go_roundw
            case rel=>exact ⟨_,_,_,hp+1,ta5,tl5,tc5,HT5.out,HS5.out,HA5.out,h8',by rw [List.length_append];have h1:=HLl.out;simp only [List.length_cons] at h1;omega,HE2.out,HR5.out,HB5.out⟩
            case measure=>rw [HM.out,tripM_of HT5.out];have:=HLm.out;omega
          | false=>
           have hlk:¬ (nd.kind=3∧(l≠[]∨must=true∨f=true)):=fun h=>by have:=HLk2.out.2 h;cases this
           have HNk:=Lib.hid hlk;clear HLk HLk2;by_cases h3:nd.kind=1
           ·have h3':(nd.kind != 1)=false:=by simpa using h3
            have HNd:=Lib.hid (show ¬ (nd.kind≠1∧(l≠[]∨must=true)) from fun h=>h.1 h3);clear h3
            cases lb with
            | true=>
             have hl0:l=[]:=by have:=HLb.out;simpa using this.symm
             have HE2:=Lib.hid (HE.out.trans (seek_last HE0.out HUp.out (by rw [HNo.out];exact HGn.out) HNk.out HNd.out hl0));rw [HNo.out] at HE2;clear hl0;go_wp2_with fail;have hne:Bt≠w.heap.size+1:=by have:=HBt.out;omega
             have b3:X.drew.cell? ⟨Bt,3,none⟩=some (.int .i64 k):=bc 3;have b6:X.drew.cell? ⟨Bt,6,none⟩=some (.bool must):=bc 6
             go_region_held3 (fun w'=>w'.cell? ⟨Bt,3,none⟩=some (.int .i64 k)∧w'.cell? ⟨Bt,6,none⟩=some (.bool must)) (first | exact ⟨b3,b6⟩ | exact keepT_set4 ⟨b3,b6⟩ hne) (fail)
             go_wp2_with (first | exact bodyPost_ret (seek_results (x:=⟨k,str p,no,must⟩) (e:=0) HRX.out.drew.set4 rfl rfl) rfl ⟨by rw [HE2.out],below_set4 HBX.out.drew (Nat.le_succ _)⟩ | exact scope_end (seek_results (x:=⟨k,str p,no,must⟩) (e:=0) HRX.out.drew.set4 rfl rfl) ⟨by rw [HE2.out],below_set4 HBX.out.drew (Nat.le_succ _)⟩)
            | false=>
             have hl0:l≠[]:=by have:=HLb.out;simpa using this.symm
             have HE2:=Lib.hid (HE.out.trans (seek_on HE0.out HUp.out (by rw [HNo.out];exact HGn.out) HNk.out HNd.out hl0));rw [HNo.out] at HE2;clear hl0;go_wp2_with fail;have HTN:=Lib.hid (show TripAt (X.setCell ⟨Bt,3,none⟩ (.int .i64 no)) Bt pw c no ta2 m tc2 hp must from HTX.out.set 3 _);go_roundw
             case rel=>exact ⟨no,l,must,hp,ta2,m,tc2,HTN.out,HSX.out.setA HTa2.out 3 _,HTa2.out,hp8,by have:=HLl.out;simp at this;omega,HE2.out,HRX.out.setOther ⟨Bt,3,none⟩ _ (by have:=HBt.out;show Bt≠_;omega),HBX.out.setCell (show w.heap.size≤Bt by have:=HBt.out;omega) _⟩
             case measure=>rw [HM.out,tripM_of HTN.out];omega
           ·have h3':(nd.kind != 1)=true:=by simpa using h3
            have HK3:=Lib.hid h3;clear h3
            cases lb with
            | false=>
             have hl0:l≠[]:=by have:=HLb.out;simpa using this.symm
             have HE2:=Lib.hid (HE.out.trans (seek_file HE0.out HUp.out (by rw [HNo.out];exact HGn.out) HNk.out ⟨HK3.out,.inl hl0⟩));clear hl0;go_wp2_with (first | exact bodyPost_ret (seek_results (x:=fd0) (e:=9) HRX.out.set4 rfl rfl) rfl ⟨by rw [HE2.out],below_set4 HBX.out (Nat.le_succ _)⟩ | exact scope_end (seek_results (x:=fd0) (e:=9) HRX.out.set4 rfl rfl) ⟨by rw [HE2.out],below_set4 HBX.out (Nat.le_succ _)⟩)
            | true=>
             have hl0:l=[]:=by have:=HLb.out;simpa using this.symm
             cases must with
             | true=>
              have HE2:=Lib.hid (HE.out.trans (seek_file HE0.out HUp.out (by rw [HNo.out];exact HGn.out) HNk.out ⟨HK3.out,.inr rfl⟩));clear hl0;go_wp2_with (first | exact bodyPost_ret (seek_results (x:=fd0) (e:=9) HRX.out.set4 rfl rfl) rfl ⟨by rw [HE2.out],below_set4 HBX.out (Nat.le_succ _)⟩ | exact scope_end (seek_results (x:=fd0) (e:=9) HRX.out.set4 rfl rfl) ⟨by rw [HE2.out],below_set4 HBX.out (Nat.le_succ _)⟩)
             | false=>
              have HE2:=Lib.hid (HE.out.trans (seek_last HE0.out HUp.out (by rw [HNo.out];exact HGn.out) HNk.out (fun h=>h.2.elim (fun h=>h hl0) (fun h=>by cases h)) hl0));rw [HNo.out] at HE2;clear hl0;go_wp2_with fail;have hne:Bt≠w.heap.size+1:=by have:=HBt.out;omega
              have b3:X.drew.cell? ⟨Bt,3,none⟩=some (.int .i64 k):=bc 3;have b6:X.drew.cell? ⟨Bt,6,none⟩=some (.bool false):=bc 6
              go_region_held3 (fun w'=>w'.cell? ⟨Bt,3,none⟩=some (.int .i64 k)∧w'.cell? ⟨Bt,6,none⟩=some (.bool false)) (first | exact ⟨b3,b6⟩ | exact keepT_set4 ⟨b3,b6⟩ hne) (fail)
              go_wp2_with (first | exact bodyPost_ret (seek_results (x:=⟨k,str p,no,false⟩) (e:=0) HRX.out.drew.set4 rfl rfl) rfl ⟨by rw [HE2.out],below_set4 HBX.out.drew (Nat.le_succ _)⟩ | exact scope_end (seek_results (x:=⟨k,str p,no,false⟩) (e:=0) HRX.out.drew.set4 rfl rfl) ⟨by rw [HE2.out],below_set4 HBX.out.drew (Nat.le_succ _)⟩)
       ·have heb:(er != 0)=true:=by simpa using he
        have HE2:=Lib.hid (HErr.out he);have hRX:=HRX.out;obtain⟨rc,rf,rz⟩:=hRX.facts;clear hRX he;go_wp2_with (first | exact bodyPost_ret (seek_results (x:=fd0) (e:=er) HRX.out.set4 rfl rfl) rfl ⟨by rw [HE2.out],below_set4 HBX.out (Nat.le_succ _)⟩ | exact scope_end (seek_results (x:=fd0) (e:=er) HRX.out.set4 rfl rfl) ⟨by rw [HE2.out],below_set4 HBX.out (Nat.le_succ _)⟩)
 ·have hpb:(pe == 0)=false:=by simpa using hpe
  have HPE2:=Lib.hid (HPE.out.trans (if_pos hpe));have hBr:=HBr.out;obtain⟨rc,rf,rz⟩:=hBr.facts;clear hpe hBr;go_wp2_with (first | exact bodyPost_ret (seek_results (x:=fd0) (e:=pe) HBr.out.set4 rfl rfl) rfl ⟨by rw [HPE2.out],below_set4 HB0.out (Nat.le_succ _)⟩ | exact scope_end (seek_results (x:=fd0) (e:=pe) HBr.out.set4 rfl rfl) ⟨by rw [HPE2.out],below_set4 HB0.out (Nat.le_succ _)⟩)
end
end
end Go.Proofs.YtbndfmkgamdgeaaGreatDoor
