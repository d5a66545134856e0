import Derived.Test.YtbndfmkgamdgeaaGreatDoorSO1
import Derived.Test.YtbndfmkgamdgeaaGreatDoorSO2
import Derived.Test.YtbndfmkgamdgeaaGreatDoorSO3
import Derived.Test.YtbndfmkgamdgeaaGreatDoorSO7
import Derived.Test.YtbndfmkgamdgeaaGreatDoorSO8
import Derived.Test.YtbndfmkgamdgeaaGreatDoorSO11
set_option linter.unusedVariables false
set_option linter.unusedSimpArgs false
set_option maxRecDepth 100000
set_option maxHeartbeats 16000000
namespace Go.Proofs.YtbndfmkgamdgeaaGreatDoor
section
open Go.RowKit Go.Shelf
attribute [local go_sem] Oper.semAt_some
def PSt (l:List UInt8) (pre:List (List UInt8)) (fr k:Nat):Prop:=
 fr≤l.length+1∧((k≤l.length∧fr≤k∧partsL l=pre ++ partsL (l.drop fr)∧∀ x∈(l.take k).drop fr,x≠47)∨(k=l.length+1∧partsL l=pre))
theorem pst_start (l:List UInt8):PSt l [] 0 0:=⟨by omega,.inl ⟨by omega,Nat.le_refl _,by simp,by simp⟩⟩
theorem pst_skip {l:List UInt8} {pre:List (List UInt8)} {fr k:Nat} (h:PSt l pre fr k) (hk:k<l.length) (hx:l[k]≠47):PSt l pre fr (k+1):=by
 obtain⟨h1,⟨h2,h3,h4,h5⟩|⟨h2,-⟩⟩:=h
 ·refine ⟨h1,.inl ⟨hk,by omega,h4,fun x hxm=>?_⟩⟩;rw [List.take_succ_eq_append_getElem hk,List.drop_append_of_le_length (by rw [List.length_take];omega)] at hxm;rcases List.mem_append.1 hxm with hxm | hxm
  ·exact h5 x hxm
  ·rw [List.mem_singleton] at hxm;subst hxm;exact hx
 ·omega
theorem pst_end {l:List UInt8} {pre:List (List UInt8)} {fr k:Nat} (h:PSt l pre fr k) (hk:l.length<k):partsL l=pre:=by
 obtain⟨-,⟨h2,-⟩|⟨-,h3⟩⟩:=h
 ·omega
 ·exact h3
def segP (l:List UInt8) (fr k:Nat):List UInt8:=(l.take k).drop fr
theorem pst_split {l:List UInt8} {fr k:Nat} (hk:k<l.length) (hf:fr≤k) (hx:l[k]=47):l.drop fr=segP l fr k ++ 47 :: l.drop (k+1):=by
 unfold segP
 conv=>lhs;rw [←List.take_append_drop k l]
 rw [List.drop_append_of_le_length (by rw [List.length_take];omega),List.drop_eq_getElem_cons hk,hx]
theorem pst_cut {l:List UInt8} {pre:List (List UInt8)} {fr k:Nat} (h:PSt l pre fr k) (hk:k≤l.length) (hx:∀ (h:k<l.length),l[k]=47) :
  fr≤k∧partsL l=pre ++ ((if segP l fr k=[]∨segP l fr k=[46] then [] else [segP l fr k]) ++ (if k<l.length then partsL (l.drop (k+1)) else []))∧
   ∀ pre',(partsL l=pre' ++ (if k<l.length then partsL (l.drop (k+1)) else []))→PSt l pre' (k+1) (k+1):=by
 obtain⟨h1,⟨h2,h3,h4,h5⟩|⟨h2,-⟩⟩:=h
 ·by_cases hlt:k<l.length
  ·refine ⟨h3,?_,fun pre' hp=>⟨by omega,.inl ⟨by omega,Nat.le_refl _,?_,?_⟩⟩⟩
   ·rw [h4,pst_split hlt h3 (hx hlt),parts_app (segP l fr k) _ h5,if_pos hlt]
   ·rw [if_pos hlt] at hp;exact hp
   ·rw [List.drop_eq_nil_of_le (by rw [List.length_take];omega)];simp
  ·refine ⟨h3,?_,fun pre' hp=>⟨by omega,.inr ⟨by omega,?_⟩⟩⟩
   ·obtain rfl:k=l.length:=by omega
    rw [h4,if_neg hlt,List.append_nil];have:l.drop fr=segP l fr l.length:=by unfold segP;rw [List.take_length]
    rw [this,parts_one (segP l fr l.length) h5]
   ·rw [if_neg hlt,List.append_nil] at hp;exact hp
 ·omega
theorem pst_none {l:List UInt8} {pre:List (List UInt8)} {fr k:Nat} (h:PSt l pre fr k) (hk:k≤l.length) (hx:∀ (h:k<l.length),l[k]=47) (hs:segP l fr k=[]∨segP l fr k=[46]):PSt l pre (k+1) (k+1):=by
 obtain⟨-,h2,h3⟩:=pst_cut h hk hx;refine h3 pre ?_;rw [h2,if_pos hs,List.nil_append]
theorem pst_some {l:List UInt8} {pre:List (List UInt8)} {fr k:Nat} (h:PSt l pre fr k) (hk:k≤l.length) (hx:∀ (h:k<l.length),l[k]=47) (hs:¬ (segP l fr k=[]∨segP l fr k=[46])) :
  PSt l (pre ++ [segP l fr k]) (k+1) (k+1)∧(pre ++ [segP l fr k]) <+: partsL l:=by
 obtain⟨-,h2,h3⟩:=pst_cut h hk hx;rw [if_neg hs,←List.append_assoc] at h2;exact⟨h3 _ h2,⟨_,h2.symm⟩⟩
theorem pst_le {l:List UInt8} {pre:List (List UInt8)} {fr k:Nat} (h:PSt l pre fr k) (hk:k≤l.length):fr≤k:=by
 obtain⟨h1,⟨h2,h3,h4,h5⟩|⟨h2,-⟩⟩:=h
 ·exact h3
 ·omega
theorem pst_size {l:List UInt8} {pre:List (List UInt8)} {fr k:Nat} (h:PSt l pre fr k):k≤l.length+1:=by
 obtain⟨h1,⟨h2,h3,h4,h5⟩|⟨h2,-⟩⟩:=h
 ·omega
 ·omega
theorem str_extr (l:List UInt8) (a b:Nat):(str l).extract a b=str ((l.take b).drop a):=by
 have:((str l).extract a b).data.toList=(str ((l.take b).drop a)).data.toList:=by rw [extract_list,str_list,str_list]
 rw [←str_of ((str l).extract a b),this,str_list]
theorem prefix_take {α:Type} {a b:List α} (h:a <+: b):∃ m,a=b.take m:=⟨a.length,(List.prefix_iff_eq_take.1 h)⟩
theorem scope_end {P:Program} {fn:Func} {R:Ending→World→Prop} {tmps:Array Value} {W:World} {v:Value} (h:(results fn tmps).run P W=.ok v W) (hR:R (.returned v) W):Exit.noGoto (bodyPost P fn R) .ret {tmps,defers:=[]} W:=
 bodyPost_ret h rfl hR
theorem seg_str (s:ByteArray) (a b:Nat):s.extract a b=str (segP s.data.toList a b):=by
 show s.extract a b=str ((s.data.toList.take b).drop a);rw [←str_extr,str_of]
theorem parts_stops (n:Nat) (hn:1≤n) (Bs:Nat) (s:ByteArray) (hl:s.size≤100000) (w:World) (hs:Blk w Bs #[.string s] 9) :
  SeqT (fun k=>k=Bs) Fence.wide n Tryz.prog 104 #[.pointer (some ⟨Bs,0,none⟩)] (fun x:List UInt8=>#[.string (str x)])
   (fun xs=>xs=partsL s.data.toList) (fun pre=>∃ m,pre=(partsL s.data.toList).take m) (fun pre x=>(pre ++ [x]) <+: partsL s.data.toList) w:=fun L J Jx W hW hWs hJ hJx hY h0=>by
 have Hs:=Lib.hid (show Blk W Bs #[.string s] 9 from (hW.2 Bs rfl).trans hs);have HSz:=Lib.hid (show s.data.toList.length=s.size from Array.length_toList);have HCh:=Lib.hid (fun (k:Nat) (hk:k<s.data.toList.length) (hk2:k<s.size)=>show s.data.toList[k]=s[k] from rfl);have HY:=Lib.hid hY;clear hs hW hWs hY;refine callsIn_of_wp Tryz.func104 rfl trivial ?_ rfl;simp only [Tryz.ntmps104,List.size_toArray,List.length_cons,List.length_nil,Nat.reduceAdd,Nat.reduceSub,Array.replicate_succ,Array.replicate_zero,List.push_toArray,List.append_toArray,List.nil_append,List.cons_append];refine (wpIn_wide (n:=n)).2 (wp_scope_straight ((wpIn_wide (n:=n)).1 ?_));refine wpIn_seq ?_;gi_wp2;refine wpIn_label ?_;gi_wp2
 gi_loopw [3,4] (fun f a wr=>∃ (pre:List (List UInt8)) (fr k:Nat),f=.int .i64 fr∧a=.int .i64 k∧PSt s.data.toList pre fr k∧J pre wr∧Blk wr Bs #[.string s] 9) (fun _ a _=>s.size+1 - (intOf a).toNat)
 case atStart=>exact ⟨[],0,0,rfl,rfl,pst_start _,h0,Hs.out⟩
 case round=>
  obtain⟨pre,fr,k,rfl,rfl,hp,hJp,hbs⟩:=hrel;have HP:=Lib.hid hp;have HJ0:=Lib.hid hJp;have HBs:=Lib.hid hbs;have hks:k≤s.size+1:=by have:=pst_size hp;rw [HSz.out] at this;exact this
  obtain⟨cs,fs,ls⟩:=hbs.facts;clear hp hJp hbs;by_cases hk:k≤s.size
  ·have hfr:fr≤k:=pst_le HP.out (by rw [HSz.out];exact hk);by_cases hc:∃ h:k<s.size,s[k]≠47
   ·obtain ⟨hkl,hc⟩:=hc;have HN:=Lib.hid (pst_skip HP.out (by rw [HSz.out];exact hkl) hc);have hc1:((s[k].toNat:Int) != 47)=true:=by
     simp only [bne_iff_ne,ne_eq];intro h;exact hc (by rw [u8_eq];show s[k].toNat=47;omega)
    clear hc;gi_wp2;go_roundw
    case rel=>exact ⟨pre,fr,k+1,rfl,by go_num,HN.out,HJ0.out,HBs.out⟩
    case measure=>simp [intOf];omega
   ·have HX:=Lib.hid (show ∀ (h:k<s.data.toList.length),s.data.toList[k]=47 from fun h=>Decidable.not_not.1 (fun h2=>hc ⟨by rw [←HSz.out];exact h,h2⟩));have HK:=Lib.hid (show k≤s.data.toList.length by rw [HSz.out];exact hk);obtain⟨p,hp⟩:∃ p,s.extract fr k=p:=⟨_,rfl⟩;have HPe:=Lib.hid (show p=str (segP s.data.toList fr k) by rw [←hp,seg_str]);have hpl:p.toList=segP s.data.toList fr k:=by rw [HPe.out,ba_list,str_list]
    have HPl:=Lib.hid hpl;clear hpl;have htest:((k:Int)<(s.size:Int)→∀ h:k<s.size,((s[k].toNat:Int) != 47)=false):=fun _ h=>by
     have:=HX.out (by rw [HSz.out];exact h);have h2:s[k]=47:=this;rw [h2];rfl
    by_cases he:segP s.data.toList fr k=[]
    ·have HN:=Lib.hid (pst_none HP.out HK.out HX.out (.inl he));have hp1:p.toList=[]:=by rw [HPl.out];exact he
     clear he;by_cases hkl:k<s.size
     ·have hc1:=htest (by omega) hkl;clear htest;gi_wp2;go_roundw
      case rel=>exact ⟨pre,k+1,k+1,by go_num,by go_num,HN.out,HJ0.out,HBs.out⟩
      case measure=>simp [intOf];omega
     ·obtain rfl:k=s.size:=by omega
      clear htest;gi_wp2;go_roundw
      case rel=>exact ⟨pre,_,_,by go_num,by go_num,HN.out,HJ0.out,HBs.out⟩
      case measure=>simp [intOf]
    ·by_cases hd:segP s.data.toList fr k=[46]
     ·have HN:=Lib.hid (pst_none HP.out HK.out HX.out (.inr hd));have hp1:p.toList=[46]:=by rw [HPl.out];exact hd
      clear he hd;by_cases hkl:k<s.size
      ·have hc1:=htest (by omega) hkl;clear htest;gi_wp2;go_roundw
       case rel=>exact ⟨pre,k+1,k+1,by go_num,by go_num,HN.out,HJ0.out,HBs.out⟩
       case measure=>simp [intOf];omega
      ·obtain rfl:k=s.size:=by omega
       clear htest;gi_wp2;go_roundw
       case rel=>exact ⟨pre,_,_,by go_num,by go_num,HN.out,HJ0.out,HBs.out⟩
       case measure=>simp [intOf]
     ·have hN:=pst_some HP.out HK.out HX.out (by rintro (h | h);exact he h;exact hd h);have HN:=Lib.hid hN.1;have HV:=Lib.hid hN.2;have hp1:p.toList.isEmpty=false:=by rw [HPl.out];simpa using he
      have hp2:(p.toList == [46])=false:=by rw [HPl.out];simpa using hd
      clear he hd hN;by_cases hkl:k<s.size
      ·have hc1:=htest (by omega) hkl;clear htest;obtain⟨fn,tmps,assign,body,hy,hR⟩:=HY.out pre _ wr HJ0.out HV.out;have hy2:(Instr.yield L #[.string p]).run Tryz.prog wr=.ok (.round L fn tmps assign body) wr:=by rw [HPe.out];exact hy
       have HR:=Lib.hid hR;clear hy hR;gi_wp2;refine HR.out.mono ?_;rintro e W3 (⟨rfl,hJ3,hk3⟩|⟨rfl,hJx3⟩)
       ·have HJ3:=Lib.hid hJ3;have HB3:=Lib.hid (show Blk W3 Bs #[.string s] 9 from (hk3.2 Bs rfl).trans HBs.out);clear hJ3 hk3 hy2;gi_wp2;go_roundw
        case rel=>exact ⟨_,k+1,k+1,by go_num,by go_num,HN.out,HJ3.out,HB3.out⟩
        case measure=>simp [intOf];omega
       ·have HJx:=Lib.hid hJx3;clear hJx3 hy2;gi_wp2;exact scope_end (results_none rfl _ _ _) ⟨⟨_,rfl⟩,.inr ⟨_,prefix_take HV.out,HJx.out⟩⟩
      ·obtain rfl:k=s.size:=by omega
       clear htest;obtain⟨fn,tmps,assign,body,hy,hR⟩:=HY.out pre _ wr HJ0.out HV.out;have hy2:(Instr.yield L #[.string p]).run Tryz.prog wr=.ok (.round L fn tmps assign body) wr:=by rw [HPe.out];exact hy
       have HR:=Lib.hid hR;clear hy hR;gi_wp2;refine HR.out.mono ?_;rintro e W3 (⟨rfl,hJ3,hk3⟩|⟨rfl,hJx3⟩)
       ·have HJ3:=Lib.hid hJ3;have HB3:=Lib.hid (show Blk W3 Bs #[.string s] 9 from (hk3.2 Bs rfl).trans HBs.out);clear hJ3 hk3 hy2;gi_wp2;go_roundw
        case rel=>exact ⟨_,_,_,by go_num,by go_num,HN.out,HJ3.out,HB3.out⟩
        case measure=>simp [intOf]
       ·have HJx:=Lib.hid hJx3;clear hJx3 hy2;gi_wp2;exact scope_end (results_none rfl _ _ _) ⟨⟨_,rfl⟩,.inr ⟨_,prefix_take HV.out,HJx.out⟩⟩
  ·have HE:=Lib.hid (pst_end HP.out (by rw [HSz.out];omega));have hk':¬ (k:Int)≤(s.size:Int):=by omega
   gi_wp2
   go_end0
   exact⟨⟨_,rfl⟩,.inl (by rw [HE.out];exact HJ0.out)⟩
end
end Go.Proofs.YtbndfmkgamdgeaaGreatDoor
