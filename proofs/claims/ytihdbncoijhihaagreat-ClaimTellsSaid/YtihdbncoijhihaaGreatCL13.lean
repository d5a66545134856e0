import Derived.Test.YtihdbncoijhihaaGreatCL12
import Derived.Test.YtihdbncoijhihaaGreatCL7
import Derived.Test.YtihdbncoijhihaaGreatCL6
import Derived.Test.YtihdbncoijhihaaGreatCL9
set_option linter.unusedVariables false
set_option linter.unusedSimpArgs false
set_option maxRecDepth 100000
set_option maxHeartbeats 16000000
namespace Go.Proofs.YtihdbncoijhihaaGreat
section
open Go.RowKit
theorem rbit_any (m:Int) (n:Nat) (hn:n≤100) (w:World) :
  Calls Tryz.prog 264 #[.int .i64 m,.int .i64 n] w fun e w'=>(∃ b,e=.returned (.bool b))∧w'=w:=by
 go_enter Tryz.func264,Tryz.ntmps264;go_wp2_with fail
 go_loopw [0,5] (fun t0 t5 wr=>∃ (x:Int) (k:Nat),k≤n∧t0=.int .i64 x∧t5=.int .i64 k∧wr=w) (fun _ t5 _=>n - (intOf t5).toNat)
 case atStart=>exact ⟨m,0,Nat.zero_le _,rfl,rfl,rfl⟩
 case round=>
  obtain⟨x,k,hk,rfl,rfl,rfl⟩:=hrel;by_cases hlt:k<n
  ·go_wp2_with fail;go_roundw
   case measure=>simp [intOf];omega
   case rel=>exact ⟨_,k+1,by omega,rfl,by go_num,by trivial⟩
  ·obtain rfl:k=n:=by omega
   go_wp2_with fail;go_ret;exact⟨⟨_,rfl⟩,rfl⟩
theorem rmay00_any (uid gid mode want:Int) (w:World) :
  Calls Tryz.prog 262 #[.agg #[.int .i64 0,.int .i64 0],.int .i64 uid,.int .i64 gid,.int .i64 mode,.int .i64 want] w fun e w'=>e=.returned (.bool true)∧Below w.heap.size w w':=by
 have HBit:=Lib.hid (fun m (n:Nat) hn w=>rbit_any m n hn w);have hB:=Blk.new w #[.int .i64 0,.int .i64 0] 67;have HB0:=Lib.hid (balloc (Below.refl w.heap.size w) (.cells #[.int .i64 0,.int .i64 0] 67));obtain⟨qc,qf,qz⟩:=hB.facts;clear hB;have key:∀ x:Int,(0 == x)=true∨(0 == x)=false:=fun x=>by cases (0 == x) <;> simp
 go_enter Tryz.func262,Tryz.ntmps262;go_upto_region 2 with fail;generalize w.alloc (.cells #[.int .i64 0,.int .i64 0] 67)=X at HB0 qc qf qz ⊢;rcases key uid with h1 | h1
 ·go_wp2_with fail
  go_loopw [12] (fun t12 wr=>∃ k:Nat,k≤3∧t12=.int .i64 k∧wr=X) (fun t12 _=>3 - (intOf t12).toNat)
  case atStart=>exact ⟨0,Nat.zero_le _,rfl,rfl⟩
  case round=>
   obtain⟨k,hk,rfl,rfl⟩:=hrel;by_cases hlt:k<3
   ·have hk3:(k:Int)<3:=by omega
    go_wp2_with fail;refine (HBit.out _ k (by omega) _).mono ?_;rintro e w2 ⟨⟨b,rfl⟩,rfl⟩
    cases b with
    | false=>
     go_wp2_with fail;go_roundw
     case measure=>simp [intOf];omega
     case rel=>exact ⟨k+1,by omega,by go_num,by trivial⟩
    | true=>
     have hfk:IntKind.i64.wrap ((6:Int)+(k:Int))=(6:Int)+(k:Int):=by rw [IntKind.wrap_i64];omega
     go_wp2_with fail;have h2:=HBit.out mode (6+k) (by omega);rw [show ((6+k:Nat):Int)=(6:Int)+(k:Int) from by omega] at h2;refine (h2 _).mono ?_;rintro e w3 ⟨⟨b2,rfl⟩,rfl⟩
     cases b2 with
     | false=>
      go_wp2_with fail;go_ret;exact⟨rfl,HB0.out⟩
     | true=>
      go_wp2_with fail;go_roundw
      case measure=>simp [intOf];omega
      case rel=>exact ⟨k+1,by omega,by go_num,by trivial⟩
   ·obtain rfl:k=3:=by omega
    go_wp2_with fail;go_ret;exact⟨rfl,HB0.out⟩
 ·rcases key gid with h2 | h2
  ·go_wp2_with fail
   go_loopw [12] (fun t12 wr=>∃ k:Nat,k≤3∧t12=.int .i64 k∧wr=X) (fun t12 _=>3 - (intOf t12).toNat)
   case atStart=>exact ⟨0,Nat.zero_le _,rfl,rfl⟩
   case round=>
    obtain⟨k,hk,rfl,rfl⟩:=hrel;by_cases hlt:k<3
    ·have hk3:(k:Int)<3:=by omega
     go_wp2_with fail;refine (HBit.out _ k (by omega) _).mono ?_;rintro e w2 ⟨⟨b,rfl⟩,rfl⟩
     cases b with
     | false=>
      go_wp2_with fail;go_roundw
      case measure=>simp [intOf];omega
      case rel=>exact ⟨k+1,by omega,by go_num,by trivial⟩
     | true=>
      have hfk:IntKind.i64.wrap ((3:Int)+(k:Int))=(3:Int)+(k:Int):=by rw [IntKind.wrap_i64];omega
      go_wp2_with fail;have h2:=HBit.out mode (3+k) (by omega);rw [show ((3+k:Nat):Int)=(3:Int)+(k:Int) from by omega] at h2;refine (h2 _).mono ?_;rintro e w3 ⟨⟨b2,rfl⟩,rfl⟩
      cases b2 with
      | false=>
       go_wp2_with fail;go_ret;exact⟨rfl,HB0.out⟩
      | true=>
       go_wp2_with fail;go_roundw
       case measure=>simp [intOf];omega
       case rel=>exact ⟨k+1,by omega,by go_num,by trivial⟩
    ·obtain rfl:k=3:=by omega
     go_wp2_with fail;go_ret;exact⟨rfl,HB0.out⟩
  ·go_wp2_with fail
   go_loopw [12] (fun t12 wr=>∃ k:Nat,k≤3∧t12=.int .i64 k∧wr=X) (fun t12 _=>3 - (intOf t12).toNat)
   case atStart=>exact ⟨0,Nat.zero_le _,rfl,rfl⟩
   case round=>
    obtain⟨k,hk,rfl,rfl⟩:=hrel;by_cases hlt:k<3
    ·have hk3:(k:Int)<3:=by omega
     go_wp2_with fail;refine (HBit.out _ k (by omega) _).mono ?_;rintro e w2 ⟨⟨b,rfl⟩,rfl⟩
     cases b with
     | false=>
      go_wp2_with fail;go_roundw
      case measure=>simp [intOf];omega
      case rel=>exact ⟨k+1,by omega,by go_num,by trivial⟩
     | true=>
      have hfk:IntKind.i64.wrap ((0:Int)+(k:Int))=(0:Int)+(k:Int):=by rw [IntKind.wrap_i64];omega
      go_wp2_with fail;have h2:=HBit.out mode (0+k) (by omega);rw [show ((0+k:Nat):Int)=(0:Int)+(k:Int) from by omega] at h2;refine (HBit.out mode k (by omega) _).mono ?_;rintro e w3 ⟨⟨b2,rfl⟩,rfl⟩
      cases b2 with
      | false=>
       go_wp2_with fail;go_ret;exact⟨rfl,HB0.out⟩
      | true=>
       go_wp2_with fail;go_roundw
       case measure=>simp [intOf];omega
       case rel=>exact ⟨k+1,by omega,by go_num,by trivial⟩
    ·obtain rfl:k=3:=by omega
     go_wp2_with fail;go_ret;exact⟨rfl,HB0.out⟩
theorem rnode00_any (a:An) (ea:Option Addr) (el ec:Nat) (want:Int) (w:World) :
  Calls Tryz.prog 214 #[.agg #[.int .i64 0,.int .i64 0],a.v ea el ec,.int .i64 want] w fun e w'=>e=.returned (.bool true)∧Below w.heap.size w w':=by
 unfold An.v;go_enter Tryz.func214,Tryz.ntmps214;go_wp2_with fail;refine (rmay00_any _ _ _ _ _).mono ?_;rintro e w1 ⟨rfl,hb1⟩;go_wp2_with fail;go_ret;exact⟨rfl,bnext (balloc (balloc (Below.refl _ _) _) _) hb1⟩
theorem rowns00_any (a:An) (ea:Option Addr) (el ec:Nat) (w:World) :
  Calls Tryz.prog 265 #[.agg #[.int .i64 0,.int .i64 0],a.v ea el ec] w fun e w'=>e=.returned (.bool true)∧Below w.heap.size w w':=by
 unfold An.v;go_enter Tryz.func265,Tryz.ntmps265
 go_wp2
 go_ret;exact⟨rfl,by go_grown⟩
theorem rfineC_any (u g:Int) (w:World) :
  Calls Tryz.prog 244 #[.agg #[.int .i64 u,.int .i64 g]] w fun e w'=>e=.returned (.bool (idB u g))∧Below w.heap.size w w':=by
 have HI:=Lib.hid (show idB u g=decide (0≤u∧u≤2147483648∧0≤g∧g≤2147483648) from rfl);generalize idB u g=r at HI ⊢;by_cases h1:0≤u
 ·by_cases h2:u≤2147483648
  ·by_cases h3:0≤g
   ·by_cases h4:g≤2147483648
    ·go_enter Tryz.func244,Tryz.ntmps244
     go_wp2
     go_ret;exact⟨ret_bool (by rw [HI.out];exact (decide_eq_true (by omega)).symm),by go_grown⟩
    ·go_enter Tryz.func244,Tryz.ntmps244
     go_wp2
     go_ret;exact⟨ret_bool (by rw [HI.out];exact (decide_eq_false (by omega)).symm),by go_grown⟩
   ·go_enter Tryz.func244,Tryz.ntmps244
    go_wp2
    go_ret;exact⟨ret_bool (by rw [HI.out];exact (decide_eq_false (by omega)).symm),by go_grown⟩
  ·go_enter Tryz.func244,Tryz.ntmps244
   go_wp2
   go_ret;exact⟨ret_bool (by rw [HI.out];exact (decide_eq_false (by omega)).symm),by go_grown⟩
 ·go_enter Tryz.func244,Tryz.ntmps244
  go_wp2
  go_ret;exact⟨ret_bool (by rw [HI.out];exact (decide_eq_false (by omega)).symm),by go_grown⟩
theorem rcheck_any (s:ByteArray) (w:World) (hs:s.size≤100000) :
  Calls Tryz.prog 217 #[.string s] w fun e w'=>e=.returned (.int .i64 (checkE s))∧w'=w:=by
 have hl:s.toList=s.data.toList:=ba_list s;have HC:=Lib.hid (show checkE s=if s.toList=[]∨s.toList=[46]∨s.toList=[46,46]∨hasB s 47=true∨hasB s 0=true then 1 else if 255<s.size then 13 else 0 by
  unfold checkE hasB;rw [hl];simp only [decide_eq_true_eq])
 have H47:=Lib.hid (fun w=>has_any s 47 w hs);have H0:=Lib.hid (fun w=>has_any s 0 w hs);generalize hasB s 47=b47 at HC H47;generalize hasB s 0=b0 at HC H0;clear hl;by_cases h1:s.toList=[]
 ·have HE:=Lib.hid (HC.out.trans (if_pos (.inl h1)));go_enter Tryz.func217,Tryz.ntmps217;go_wp2_with fail;go_ret;exact⟨by rw [HE.out];rfl,rfl⟩
 ·have h1':s.toList.isEmpty=false:=by simpa using h1
  by_cases h2:s.toList=[46]
  ·have HE:=Lib.hid (HC.out.trans (if_pos (.inr (.inl h2))));go_enter Tryz.func217,Tryz.ntmps217;go_wp2_with fail;go_ret;exact⟨by rw [HE.out];rfl,rfl⟩
  ·have h2':(s.toList == [46])=false:=by simpa using h2
   by_cases h3:s.toList=[46,46]
   ·have HE:=Lib.hid (HC.out.trans (if_pos (.inr (.inr (.inl h3)))));go_enter Tryz.func217,Tryz.ntmps217;go_wp2_with fail;go_ret;exact⟨by rw [HE.out];rfl,rfl⟩
   ·have h3':(s.toList == [46,46])=false:=by simpa using h3
    cases b47 with
    | true=>
     have HE:=Lib.hid (HC.out.trans (if_pos (.inr (.inr (.inr (.inl rfl))))));clear h1 h2 h3;go_enter Tryz.func217,Tryz.ntmps217;go_wp2_with fail;refine (H47.out _).mono ?_;rintro e w1 ⟨rfl,rfl⟩;go_wp2_with fail;go_ret;exact⟨by rw [HE.out];rfl,rfl⟩
    | false=>
     cases b0 with
     | true=>
      have HE:=Lib.hid (HC.out.trans (if_pos (.inr (.inr (.inr (.inr rfl))))));clear h1 h2 h3;go_enter Tryz.func217,Tryz.ntmps217;go_wp2_with fail;refine (H47.out _).mono ?_;rintro e w1 ⟨rfl,rfl⟩;go_wp2_with fail;refine (H0.out _).mono ?_;rintro e w1 ⟨rfl,rfl⟩;go_wp2_with fail;go_ret;exact⟨by rw [HE.out];rfl,rfl⟩
     | false=>
      have HE:=Lib.hid (HC.out.trans (if_neg (by simp [h1,h2,h3])));clear h1 h2 h3;by_cases h4:255<s.size
      ·have HE2:=Lib.hid (HE.out.trans (if_pos h4));have h4':(255:Int)<(s.size:Int):=by omega
       go_enter Tryz.func217,Tryz.ntmps217;go_wp2_with fail;refine (H47.out _).mono ?_;rintro e w1 ⟨rfl,rfl⟩;go_wp2_with fail;refine (H0.out _).mono ?_;rintro e w1 ⟨rfl,rfl⟩;go_wp2_with fail;go_ret;exact⟨by rw [HE2.out];rfl,rfl⟩
      ·have HE2:=Lib.hid (HE.out.trans (if_neg h4));have h4':¬ (255:Int)<(s.size:Int):=by omega
       go_enter Tryz.func217,Tryz.ntmps217;go_wp2_with fail;refine (H47.out _).mono ?_;rintro e w1 ⟨rfl,rfl⟩;go_wp2_with fail;refine (H0.out _).mono ?_;rintro e w1 ⟨rfl,rfl⟩;go_wp2_with fail;go_ret;exact⟨by rw [HE2.out];rfl,rfl⟩
end
section
open Go.RowKit
theorem rplace_results {tmps:Array Value} {W:World} {B:Nat} {a:An} {ea:Option Addr} {el ec:Nat} {e:Int} (hb:Blk W B #[.int .i64 a.no,.int .i64 a.dev,.int .i64 a.kind,.int .i64 a.mode,.int .i64 a.uid,.int .i64 a.gid,.int .i64 a.mtime,.int .i64 a.ctime,.int .i64 a.links,.int .i64 a.up,.string a.data,.slice ea el ec] 49)
  (h8:tmps.getD 8 undef=.pointer (some ⟨B,0,none⟩)) (h9:tmps.getD 9 undef=.int .i64 e):(results Tryz.f220 tmps).run Tryz.prog W=.ok (.tuple #[a.v ea el ec,.int .i64 e]) W:=by
 obtain⟨q0,q1,q2,q3,q4,q5,q6,q7,q8,q9,q10,q11⟩:=hb.cells12;rw [Array.getD_eq_getD_getElem?] at h8 h9;simp [results,Tryz.results220,go_sem,An.v,h8,h9,q0,q1,q2,q3,q4,q5,q6,q7,q8,q9,q10,q11]
section
variable {w w':World} {pf:Nat} {R:Rf} {S:Fs}
theorem rplace_none (h:RfAt w pf R S) (dir:Int) (s:ByteArray) (hg:S.get dir=none) :
  Calls Tryz.prog 220 #[.pointer (some ⟨pf,0,none⟩),.agg #[.int .i64 0,.int .i64 0],.int .i64 dir,.string s] w fun e w'=>e=.returned (.tuple #[an0.v none 0 0,.int .i64 5])∧Below w.heap.size w w':=by
 have HG:=Lib.hid (fun w1 (hb1:Below w.heap.size w w1)=>rget_no (h.keep hb1) hg);unfold An.v an0 at HG;clear h hg;go_enter Tryz.func220,Tryz.ntmps220;go_wp2_with fail;refine (HG.out _ (balloc (balloc (Below.refl _ _) _) _)).mono ?_;rintro e w1 ⟨rfl,hb1⟩;have hb2:=bnext (balloc (balloc (Below.refl w.heap.size w) _) _) hb1;have hR:Blk w1 (w.heap.size+1) #[.int .i64 0,.int .i64 0,.int .i64 0,.int .i64 0,.int .i64 0,.int .i64 0,.int .i64 0,.int .i64 0,.int .i64 0,.int .i64 0,.string ByteArray.empty,.slice none 0 0] 49:=by
  have:=((Blk.new (w.alloc (.cells #[.int .i64 0,.int .i64 0] 67)) #[.int .i64 0,.int .i64 0,.int .i64 0,.int .i64 0,.int .i64 0,.int .i64 0,.int .i64 0,.int .i64 0,.int .i64 0,.int .i64 0,.string ByteArray.empty,.slice none 0 0] 49).keep hb1)
  rwa [World.size_alloc] at this
 have hRX:=hR.old (.cells #[.int .i64 0,.int .i64 0,.int .i64 0,.int .i64 0,.int .i64 0,.int .i64 0,.int .i64 0,.int .i64 0,.int .i64 0,.int .i64 0,.string ByteArray.empty,.slice none 0 0] 49);have hbX:=balloc hb2 (.cells #[.int .i64 0,.int .i64 0,.int .i64 0,.int .i64 0,.int .i64 0,.int .i64 0,.int .i64 0,.int .i64 0,.int .i64 0,.int .i64 0,.string ByteArray.empty,.slice none 0 0] 49);have hDX:=Blk.new w1 #[.int .i64 0,.int .i64 0,.int .i64 0,.int .i64 0,.int .i64 0,.int .i64 0,.int .i64 0,.int .i64 0,.int .i64 0,.int .i64 0,.string ByteArray.empty,.slice none 0 0] 49;clear hR hb1 hb2;go_upto_region 2 with fail;generalize w1.alloc (.cells #[.int .i64 0,.int .i64 0,.int .i64 0,.int .i64 0,.int .i64 0,.int .i64 0,.int .i64 0,.int .i64 0,.int .i64 0,.int .i64 0,.string ByteArray.empty,.slice none 0 0] 49)=X at hRX hbX hDX ⊢;obtain⟨dc,df,dz⟩:=hDX.facts;have HRX:=Lib.hid hRX;have HBX:=Lib.hid hbX;obtain⟨rc,rf,rz⟩:=hRX.facts;clear hRX hbX;go_wp2_with fail;exact bodyPost_ret (rplace_results (a:=an0) HRX.out.set12 rfl rfl) rfl ⟨rfl,below_set12 HBX.out (Nat.le_succ _)⟩
theorem rplace_some (h:RfAt w pf R S) {N:Nat} (hk:FsOk S N) (dir:Int) (s:ByteArray) (hs:s.size≤100000) (d:An) (hg:S.get dir=some d) :
  ∃ ea el ec,EntsAt w ea el ec d.ents∧Calls Tryz.prog 220 #[.pointer (some ⟨pf,0,none⟩),.agg #[.int .i64 0,.int .i64 0],.int .i64 dir,.string s] w fun e w'=>((S.placeE c00 dir s≠0∧e=.returned (.tuple #[an0.v none 0 0,.int .i64 (S.placeE c00 dir s)]))∨(S.placeE c00 dir s=0∧e=.returned (.tuple #[d.v ea el ec,.int .i64 0])))∧Below w.heap.size w w':=by
 obtain⟨-,hno,hn1,-⟩:=hk.get hg;have hz:(d.no == 0)=false:=by simp only [beq_eq_false_iff_ne,ne_eq];omega
 obtain⟨ea,el,ec,he,hG⟩:=rget_fix h hg;refine ⟨ea,el,ec,he,?_⟩;have HG:=Lib.hid hG;unfold An.v at HG;have HCk:=Lib.hid (fun w=>rcheck_any s w hs);have HPl:=Lib.hid (show S.placeE c00 dir s=if d.kind≠1 then 9 else if checkE s≠0 then checkE s else 0 by unfold Fs.placeE;rw [hg];rfl);have HNd:=Lib.hid (fun w=>rnode00_any d ea el ec 3 w);unfold An.v at HNd;generalize checkE s=ce at HCk HPl;generalize S.placeE c00 dir s=pe at HPl ⊢;clear h hk hg he hG hno;go_enter Tryz.func220,Tryz.ntmps220;go_wp2_with fail;refine (HG.out _ (balloc (balloc (Below.refl _ _) _) _)).mono ?_;rintro e w1 ⟨rfl,hb1⟩;have hb2:=bnext (balloc (balloc (Below.refl w.heap.size w) _) _) hb1;have hR:Blk w1 (w.heap.size+1) #[.int .i64 0,.int .i64 0,.int .i64 0,.int .i64 0,.int .i64 0,.int .i64 0,.int .i64 0,.int .i64 0,.int .i64 0,.int .i64 0,.string ByteArray.empty,.slice none 0 0] 49:=by
  have:=((Blk.new (w.alloc (.cells #[.int .i64 0,.int .i64 0] 67)) #[.int .i64 0,.int .i64 0,.int .i64 0,.int .i64 0,.int .i64 0,.int .i64 0,.int .i64 0,.int .i64 0,.int .i64 0,.int .i64 0,.string ByteArray.empty,.slice none 0 0] 49).keep hb1)
  rwa [World.size_alloc] at this
 have hCr:Blk w1 w.heap.size #[.int .i64 0,.int .i64 0] 67:=((Blk.new w #[.int .i64 0,.int .i64 0] 67).old (.cells #[.int .i64 0,.int .i64 0,.int .i64 0,.int .i64 0,.int .i64 0,.int .i64 0,.int .i64 0,.int .i64 0,.int .i64 0,.int .i64 0,.string ByteArray.empty,.slice none 0 0] 49)).keep hb1;have hRX:=hR.old (.cells #[.int .i64 d.no,.int .i64 d.dev,.int .i64 d.kind,.int .i64 d.mode,.int .i64 d.uid,.int .i64 d.gid,.int .i64 d.mtime,.int .i64 d.ctime,.int .i64 d.links,.int .i64 d.up,.string d.data,.slice ea el ec] 49);have hCX:=hCr.old (.cells #[.int .i64 d.no,.int .i64 d.dev,.int .i64 d.kind,.int .i64 d.mode,.int .i64 d.uid,.int .i64 d.gid,.int .i64 d.mtime,.int .i64 d.ctime,.int .i64 d.links,.int .i64 d.up,.string d.data,.slice ea el ec] 49);have hDX:=Blk.new w1 #[.int .i64 d.no,.int .i64 d.dev,.int .i64 d.kind,.int .i64 d.mode,.int .i64 d.uid,.int .i64 d.gid,.int .i64 d.mtime,.int .i64 d.ctime,.int .i64 d.links,.int .i64 d.up,.string d.data,.slice ea el ec] 49;have hbX:=balloc hb2 (.cells #[.int .i64 d.no,.int .i64 d.dev,.int .i64 d.kind,.int .i64 d.mode,.int .i64 d.uid,.int .i64 d.gid,.int .i64 d.mtime,.int .i64 d.ctime,.int .i64 d.links,.int .i64 d.up,.string d.data,.slice ea el ec] 49);clear hR hCr hb1 hb2;go_upto_region 2 with fail;generalize w1.alloc (.cells #[.int .i64 d.no,.int .i64 d.dev,.int .i64 d.kind,.int .i64 d.mode,.int .i64 d.uid,.int .i64 d.gid,.int .i64 d.mtime,.int .i64 d.ctime,.int .i64 d.links,.int .i64 d.up,.string d.data,.slice ea el ec] 49)=X at hRX hCX hDX hbX ⊢;have HRX:=Lib.hid hRX;have HBX:=Lib.hid hbX;have HDX:=Lib.hid hDX;have HCX:=Lib.hid hCX;obtain⟨rc,rf,rz⟩:=hRX.facts;obtain⟨dc,df,dz⟩:=hDX.facts;obtain⟨cc,-,-⟩:=hCX.facts;clear hRX hbX hDX hCX;by_cases h1:d.kind=1
 ·have q1:(d.kind == 1)=true:=by simpa using h1
  have q2:(d.kind != 1)=false:=by simpa using h1
  by_cases h2:ce=0
  ·have q3:(ce != 0)=false:=by simpa using h2
   have HE0:=Lib.hid (show pe=0 by rw [HPl.out];simp [h1,h2]);clear h1 h2;go_wp2_with fail;refine (HCk.out _).mono ?_;rintro e w2 ⟨rfl,rfl⟩;go_wp2_with fail;refine (HNd.out _).mono ?_;rintro e w5 ⟨rfl,hb5⟩;have hRX5:=HRX.out.keep hb5;have hDX5:=HDX.out.keep hb5;have hBX5:=HBX.out.trans (hb5.mono HBX.out.size);have HRX5:=Lib.hid hRX5;have HBX5:=Lib.hid hBX5;clear rc rf rz dc df dz cc;obtain⟨rc,rf,rz⟩:=hRX5.facts;obtain⟨dc,-,-⟩:=hDX5.facts;clear hRX5 hBX5 hb5 hDX5;go_wp2_with fail;exact bodyPost_ret (rplace_results (a:=d) (ea:=ea) (el:=el) (ec:=ec) HRX5.out.set12 rfl rfl) rfl ⟨.inr ⟨HE0.out,rfl⟩,below_set12 HBX5.out (Nat.le_succ _)⟩
  ·have q3:(ce != 0)=true:=by simpa using h2
   have HEc:=Lib.hid (show pe=ce∧ce≠0 by refine ⟨?_,h2⟩;rw [HPl.out];simp [h1,h2]);clear h1 h2;go_wp2_with fail;refine (HCk.out _).mono ?_;rintro e w2 ⟨rfl,rfl⟩;go_wp2_with fail;exact bodyPost_ret (rplace_results (a:=an0) HRX.out.set12 rfl rfl) rfl ⟨.inl ⟨by rw [HEc.out.1];exact HEc.out.2,by rw [HEc.out.1]⟩,below_set12 HBX.out (Nat.le_succ _)⟩
 ·have q1:(d.kind == 1)=false:=by simpa using h1
  have q2:(d.kind != 1)=true:=by simpa using h1
  have HE9:=Lib.hid (show pe=9 by rw [HPl.out];simp [h1]);clear h1;go_wp2_with fail;exact bodyPost_ret (rplace_results (a:=an0) HRX.out.set12 rfl rfl) rfl ⟨.inl ⟨by rw [HE9.out];decide,by rw [HE9.out]⟩,below_set12 HBX.out (Nat.le_succ _)⟩
end
end
section
open Go.RowKit
theorem entFind_cons (x:En) (l:List En) (s:ByteArray):entFind (x :: l) s=if x.name=s then x.no else entFind l s:=by
 unfold entFind;rw [List.find?_cons];by_cases h:x.name=s
 ·rw [if_pos h,decide_eq_true h]
 ·rw [if_neg h,decide_eq_false h]
theorem ba_beq (a b:ByteArray):(a.toList == b.toList)=decide (a=b):=by
 rw [ByteArray.toList_eq,ByteArray.toList_eq];by_cases h:a=b
 ·subst h;simp
 ·rw [decide_eq_false h];simp only [beq_eq_false_iff_ne,ne_eq];exact fun e=>h (ba_eq e)
theorem rfind_any (es:List En) (a:Option Addr) (n c:Nat) (s:ByteArray) (w:World) (he:EntsAt w a n c es) :
  Calls Tryz.prog 20 #[.slice a n c,.string s] w fun e w'=>e=.returned (.int .i64 (entFind es s))∧Below w.heap.size w w':=by
 have hl:=he.len;subst hl;have hc1:=he.sl.2.1;have hc2:=he.sl.2.2.1;have HE:=Lib.hid he;clear he;go_enter Tryz.func20,Tryz.ntmps20;go_wp2_with fail
 go_loopw [5] (fun t3 wr=>∃ k:Nat,k≤es.length∧t3=.int .i64 k∧entFind es s=entFind (es.drop k) s∧Below w.heap.size w wr) (fun t3 _=>es.length - (intOf t3).toNat)
 case atStart=>exact ⟨0,Nat.zero_le _,rfl,by rw [List.drop_zero],Below.refl _ _⟩
 case round=>
  obtain⟨k,hk,rfl,hf,hb⟩:=hrel;by_cases hlt:k<es.length
  ·have he2:=HE.out.keep hb;obtain⟨b,off,rfl,hbl⟩:=he2.some_of (by omega);obtain⟨c0,c1⟩:=he2.cell k hlt;rw [List.drop_eq_getElem_cons hlt,entFind_cons] at hf;have HF:=Lib.hid hf;have HB:=Lib.hid hb;have hcmp:=ba_beq es[k].name s;generalize es[k]=x at c0 c1 hcmp HF;clear hf hb he2;by_cases hx:x.name=s
   ·have HR:=Lib.hid (HF.out.trans (if_pos hx));rw [decide_eq_true hx] at hcmp;clear hx;go_wp2_with fail;go_ret;exact⟨by rw [HR.out];rfl,HB.out⟩
   ·have HR:=Lib.hid (HF.out.trans (if_neg hx));rw [decide_eq_false hx] at hcmp;clear hx;go_wp2_with fail;go_roundw
    case measure=>simp [intOf];omega
    case rel=>exact ⟨k+1,by omega,by go_num,HR.out,HB.out⟩
  ·obtain rfl:k=es.length:=by omega
   rw [List.drop_length] at hf;have HR:=Lib.hid (show entFind es s=0 from hf);have HB:=Lib.hid hb;clear hf hb;go_wp2_with fail;go_ret;exact⟨by rw [HR.out];rfl,HB.out⟩
theorem OE.appOne {w:World} {base:Nat} {v:Value} {es:List En} (h:OE w base v es) (x:En) (hl:es.length≤1000000) (hb:base≤w.heap.size) :
  ∃ g cap W,(Builtin.append_ #[47,47] 47 #[v,.slice (some ⟨w.heap.size,0,none⟩) 1 1]).run Tryz.prog (w.alloc (.cells #[.string x.name,.int .i64 x.no] 146))=.ok (.slice (some ⟨g,0,none⟩) (es.length+1) cap) W∧
   OE W base (.slice (some ⟨g,0,none⟩) (es.length+1) cap) (es ++ [x])∧Below base w W:=by
 obtain⟨i0,hi,hz0,hz1,hz2⟩:=info_parts ent_info;have ho:=World.ownsRow.alloc h (.cells #[.string x.name,.int .i64 x.no] 146);obtain⟨g,cap,W,h1,h2,h3,h4⟩:=step_app 47 Tryz.underlying47 hi hz0 hz1 hz2 rfl (by omega) ho ⟨w.heap.size,0,none⟩ 1 1 [.string x.name,.int .i64 x.no] rfl (World.news_of_block (Blk.new w #[.string x.name,.int .i64 x.no] 146)) (by intro u hu;simp at hu;rcases hu with rfl | rfl <;> rfl) (by omega) (by unfold maxLen;omega) (by omega) (by simp;omega);refine ⟨g,cap,W,h1,?_,(((Below.refl base w).alloc hb _)).trans (h3.below (fun k hk=>(h.lt k hk).1) (by simp;omega))⟩;unfold OE;rw [List.length_append,List.length_singleton,List.flatMap_append];exact h2
theorem OE.form {w:World} {base:Nat} {v:Value} {es:List En} (h:OE w base v es):∃ a c,v=.slice a es.length c∧EntsAt w a es.length c es:=by
 obtain⟨a,c,rfl,-⟩:=own_form h;exact⟨a,c,rfl,h.at⟩
theorem gt_cases (a s:ByteArray):(ltB s a=true∧Op.bytesLess a.toList s.toList=false∧(a.toList == s.toList)=false)∨(ltB s a=false∧Op.bytesLess a.toList s.toList=true)∨(ltB s a=false∧Op.bytesLess a.toList s.toList=false∧(a.toList == s.toList)=true):=by
 rw [ltB_mk,ba_beq]
 cases h1:ltB a s with
 | true=>exact .inr (.inl ⟨ltB_asymm h1,rfl⟩)
 | false=>
  cases h2:ltB s a with
  | true=>exact .inl ⟨rfl,rfl,decide_eq_false (Ne.symm (ltB_ne h2))⟩
  | false=>exact .inr (.inr ⟨rfl,rfl,decide_eq_true (ltB_total h1 h2)⟩)
def belowL (n:ByteArray) (x:En):Bool:=ltB x.name n
def aboveL (n:ByteArray) (x:En):Bool:=ltB n x.name
theorem filterE_yes {p:En→Bool} (l:List En) (k:Nat) (hk:k<l.length) (h:p l[k]=true):(l.take (k+1)).filter p=(l.take k).filter p ++ [l[k]]:=by
 rw [List.take_succ_eq_append_getElem hk,List.filter_append];simp [h]
theorem filterE_no {p:En→Bool} (l:List En) (k:Nat) (hk:k<l.length) (h:p l[k]=false):(l.take (k+1)).filter p=(l.take k).filter p:=by
 rw [List.take_succ_eq_append_getElem hk,List.filter_append];simp [h]
theorem filterE_len (p:En→Bool) (l:List En) (k:Nat):((l.take k).filter p).length≤l.length:=by
 have h1:=List.length_filter_le p (l.take k);have h2:(l.take k).length≤l.length:=by rw [List.length_take];omega
 omega
theorem rput_any (es:List En) (a:Option Addr) (n c:Nat) (s:ByteArray) (no:Int) (w:World) (he:EntsAt w a n c es) (hn:n≤400000) :
  Calls Tryz.prog 226 #[.slice a n c,.string s,.int .i64 no] w fun e w'=>(∃ a' n' c',e=.returned (.slice a' n' c')∧EntsAt w' a' n' c' (entPut es s no))∧Below w.heap.size w w':=by
 have hl:=he.len;subst hl;have hc1:=he.sl.2.1;have hc2:=he.sl.2.2.1;have HE:=Lib.hid he;have HP:=Lib.hid (show entPut es s no=es.filter (belowL s) ++ ⟨s,no⟩ :: es.filter (aboveL s) from rfl);clear he;generalize entPut es s no=R at HP ⊢;go_enter Tryz.func226,Tryz.ntmps226;go_wp2_with fail
 go_loopw [7,8] (fun t4 t5 wr=>∃ k:Nat,k≤es.length∧t5=.int .i64 k∧OE wr w.heap.size t4 ((es.take k).filter (belowL s))∧Below w.heap.size w wr) (fun _ t5 _=>es.length - (intOf t5).toNat)
 case atStart=>exact ⟨0,Nat.zero_le _,rfl,⟨rfl,.inl ⟨rfl,rfl⟩⟩,Below.refl _ _⟩
 case round=>
  obtain⟨k,hk,rfl,hO,hb⟩:=hrel;have HO:=Lib.hid hO;have HB:=Lib.hid hb;by_cases hlt:k<es.length
  ·have he2:=HE.out.keep hb;obtain⟨b,off,rfl,hbl⟩:=he2.some_of (by omega);obtain⟨c0,c1⟩:=he2.cell k hlt;have HY:=Lib.hid (filterE_yes (p:=belowL s) es k hlt);have HN:=Lib.hid (filterE_no (p:=belowL s) es k hlt);have hfl:=filterE_len (belowL s) es k;have hcmp:=ltB_mk es[k].name s;obtain⟨g,cap,W,hrun,hO2,hB2⟩:=hO.appOne es[k] (by omega) hb.size;have HX:=Lib.hid (And.intro hO2 hB2);generalize es[k]=x at c0 c1 hcmp HY HN hrun HX;clear hO hb he2 hO2 hB2 hfl
   cases hx:ltB x.name s with
   | true=>
    rw [hx] at hcmp;have HY2:=Lib.hid (HY.out hx);have HR:=Lib.hid hrun;clear hx hrun;go_wp2_with (at_builtin;refine wpList_app_run rfl rfl rfl rfl HR.out ?_);go_roundw
    case measure=>simp [intOf];omega
    case rel=>exact ⟨k+1,by omega,by go_num,by rw [HY2.out];exact HX.out.1,HB.out.trans HX.out.2⟩
   | false=>
    rw [hx] at hcmp;have HN2:=Lib.hid (HN.out hx);clear hx hrun;go_wp2_with fail;go_roundw
    case measure=>simp [intOf];omega
    case rel=>exact ⟨k+1,by omega,by go_num,by rw [HN2.out];exact HO.out,HB.out⟩
  ·obtain rfl:k=es.length:=by omega
   have hfl:=filterE_len (belowL s) es es.length;rw [List.take_length] at hO hfl;obtain⟨g,cap,W,hrun,hO2,hB2⟩:=hO.appOne ⟨s,no⟩ (by omega) hb.size;have HX:=Lib.hid (And.intro hO2 (hb.trans hB2));have HR:=Lib.hid hrun;generalize hlo:es.filter (belowL s)=lo at HP HX HR hfl;clear hO hb hO2 hB2 hrun HO HB hlo;go_wp2_with (at_builtin;refine wpList_app_run rfl rfl rfl rfl HR.out ?_)
   go_loopw [7,9] (fun t4 t6 wr=>∃ k:Nat,k≤es.length∧t6=.int .i64 k∧OE wr w.heap.size t4 (lo ++ [⟨s,no⟩] ++ (es.take k).filter (aboveL s))∧Below w.heap.size w wr) (fun _ t6 _=>es.length - (intOf t6).toNat)
   case atStart=>exact ⟨0,Nat.zero_le _,rfl,by simpa using HX.out.1,HX.out.2⟩
   case round=>
    obtain⟨k,hk,rfl,hO,hb⟩:=hrel;have HO:=Lib.hid hO;have HB:=Lib.hid hb;have hfl2:=filterE_len (aboveL s) es k;have hln:(lo ++ [(⟨s,no⟩:En)] ++ (es.take k).filter (aboveL s)).length≤1000000:=by
     rw [List.length_append,List.length_append,List.length_singleton];omega
    by_cases hlt:k<es.length
    ·have he2:=HE.out.keep hb;obtain⟨b,off,rfl,hbl⟩:=he2.some_of (by omega);obtain⟨c0,c1⟩:=he2.cell k hlt;have HY:=Lib.hid (filterE_yes (p:=aboveL s) es k hlt);have HN:=Lib.hid (filterE_no (p:=aboveL s) es k hlt);have hcmp:=gt_cases es[k].name s;obtain⟨g,cap,W,hrun,hO2,hB2⟩:=hO.appOne es[k] hln hb.size;have HX2:=Lib.hid (And.intro hO2 hB2);generalize es[k]=x at c0 c1 hcmp HY HN hrun HX2;clear hO hb he2 hO2 hB2 hfl2 hln;generalize hcur:lo ++ [(⟨s,no⟩:En)] ++ (es.take k).filter (aboveL s)=cur at hrun HX2 HO;have HCur:=Lib.hid hcur;clear hcur;rcases hcmp with ⟨hx,hq1,hq2⟩|⟨hx,hq1⟩|⟨hx,hq1,hq2⟩
     ·have HY2:=Lib.hid (HY.out hx);have HR:=Lib.hid hrun;clear hx hrun;go_wp2_with (at_builtin;refine wpList_app_run rfl rfl rfl rfl HR.out ?_);go_roundw
      case measure=>simp [intOf];omega
      case rel=>exact ⟨k+1,by omega,by go_num,by rw [HY2.out,←List.append_assoc,HCur.out];exact HX2.out.1,HB.out.trans HX2.out.2⟩
     ·have HN2:=Lib.hid (HN.out hx);clear hx hrun;go_wp2_with fail;go_roundw
      case measure=>simp [intOf];omega
      case rel=>exact ⟨k+1,by omega,by go_num,by rw [HN2.out,HCur.out];exact HO.out,HB.out⟩
     ·have HN2:=Lib.hid (HN.out hx);clear hx hrun;go_wp2_with fail;go_roundw
      case measure=>simp [intOf];omega
      case rel=>exact ⟨k+1,by omega,by go_num,by rw [HN2.out,HCur.out];exact HO.out,HB.out⟩
    ·obtain rfl:k=es.length:=by omega
     rw [List.take_length] at hO;obtain⟨a2,c2,rfl,hE2⟩:=hO.form;have HR2:=Lib.hid (show EntsAt wr a2 (lo ++ [(⟨s,no⟩:En)] ++ es.filter (aboveL s)).length c2 R by
      rw [HP.out];simpa using hE2)
     clear hO hb hE2 HO hln;go_wp2_with fail;go_ret;exact⟨⟨_,_,_,rfl,HR2.out⟩,HB.out⟩
end
section
open Go.RowKit
theorem nums_make {S:Fs} {N:Nat} (hk:FsOk S N) (a:An):Nums (S.make a).1:=by
 unfold Fs.make
 split
 ·exact hk.nums
 ·split
  ·exact hk.nums
  ·rename_i v hv;simp only
   split
   ·have hk2:=hk.setDev (u:={v with b:=v.b+blkI a.kind a.data.size,n:=v.n+1}) hv rfl;exact hk2.nums.add hk2.l0 a
   ·exact hk.nums
section
variable {w w':World} {pf:Nat} {R:Rf} {S:Fs}
theorem RfAt.asideM (h:RfAt w pf R S) {B:Nat} {vs:Array Value} {T:TypeId} (hB:Blk w B vs T) (hF:¬ R.F pf B) (hT:T≠146) (hm:Mod (fun k=>k=B) w w'):RfAt w' pf R S:=by
 refine h.turn (fun k hk=>hm.block k (h.lt hk) (fun e=>hF (e ▸ hk))) (fun b cur hc=>hm.block b (Array.getElem?_eq_some_iff.1 hc).1 (fun e=>?_)) hm.size;subst e;unfold Blk at hB;rw [hB] at hc;injection hc with hc;injection hc with _ hc;exact hT hc
theorem rtouch_any (h:RfAt w pf R S) (hn:Nums S) (dir:Int) {d:An} (hg:S.get dir=some d) {a:Option Addr} {n c:Nat} {l:List En} (hl:EntsAt w a n c l) :
  Calls Tryz.prog 224 #[.pointer (some ⟨pf,0,none⟩),.int .i64 dir,.slice a n c] w fun e w'=>e=.returned (.tuple #[])∧∃ R',RfAt w' pf R' (S.touch R.now dir l)∧Stp (R.F pf) (R'.F pf) w w'∧Rf.Like R R':=by
 obtain⟨ea,el,ec,-,hG⟩:=rget_fix h hg;have HT:=Lib.hid (show S.touch R.now dir l=S.set {d with ents:=l,mtime:=R.now,ctime:=R.now} by unfold Fs.touch;rw [hg]);have hno:=an_no hg;have HSet:=Lib.hid (fun w1 (hb:Below w.heap.size w w1)=>rset_any (h.keep hb) hn (a:={d with ents:=l,mtime:=R.now,ctime:=R.now}) (hl.keep hb) (b:=d) (by show S.get d.no=some d;rw [hno];exact hg));have HG:=Lib.hid (hG w (Below.refl _ _));unfold An.v at HG HSet;obtain⟨pc,-,pz⟩:=h.blk.facts;generalize hnow:R.now=now at HT HSet pc;clear h hn hg hl hG hno hnow;go_enter Tryz.func224,Tryz.ntmps224;go_wp2_with fail;refine HG.out.mono ?_;rintro e w1 ⟨rfl,hb1⟩;have pc3:=(hb1.cell (p:=⟨pf,3,none⟩) pz).trans (pc 3);have hp1:pf<w1.heap.size:=Nat.lt_of_lt_of_le pz hb1.size;have hbX:=balloc hb1 (.cells #[.int .i64 d.no,.int .i64 d.dev,.int .i64 d.kind,.int .i64 d.mode,.int .i64 d.uid,.int .i64 d.gid,.int .i64 now,.int .i64 now,.int .i64 d.links,.int .i64 d.up,.string d.data,.slice a n c] 49);have HS:=Lib.hid (HSet.out _ hbX);have HBX:=Lib.hid hbX;clear hb1 hbX pc;go_wp2_with fail;refine HS.out.mono ?_;rintro e w5 ⟨rfl,R',hR1,hR2,hR3,-⟩;have HR:=Lib.hid (And.intro hR1 (And.intro hR2 hR3));clear hR1 hR2 hR3;go_wp2_with fail
 go_end0
 rw [HT.out];exact⟨rfl,R',HR.out.1,(Stp.of_below HBX.out).trans HR.out.2.1,HR.out.2.2⟩
end
end
end Go.Proofs.YtihdbncoijhihaaGreat
