import Derived.Test.YtinflmadpnigfaaGreatDoorDY17
set_option linter.unusedVariables false
set_option linter.unusedSimpArgs false
set_option maxRecDepth 100000
set_option maxHeartbeats 16000000
namespace Go.Proofs.YtinflmadpnigfaaGreatDoor
section
open Go.RowKit
theorem um(c:UInt8):(A' c=16∧dP c=-1)∨(A' c=dP c∧0≤dP c∧dP c≤15):=by
 have h:=jH c;have h1:=o8 c;unfold A'
 split<;>omega
theorem As(s:ByteArray)(w:World)(hs:s.size≤2000000) :
  Calls Tryz.prog 194 #[.string s] w fun e w'=>e=.returned (ra (cF s.data.toList))∧Up w w':=by
 go_enter Tryz.func194,Tryz.ntmps194;go_wp2_with fail
 go_loopw [4,5] (fun t4 t5 wr=>∃(k:Nat) (o:List UInt8) (t:ByteArray),k≤s.size∧t5=.int .i64 k∧t4=.string t∧t=str o∧o.length≤k∧jb s k o∧Up w wr) (fun _ t5 _=>s.size-(intOf t5).toNat)
 case atStart=>exact⟨0,[],_,Nat.zero_le _,rfl,rfl,rfl,aa _,rY s,Below.refl _ _⟩
 case round=>
  obtain⟨k,o,t,hk,rfl,rfl,ht,hol,hd,hW⟩:=hrel;have hts:t.size≤2000000:=by rw[ht,aP];omega
  have HT:=Um ht;have HD:=Um hd;have HW:=Um hW;clear ht hd hW;by_cases hlt:k<s.size
  ·by_cases hc:s[k]=37
   ·have eS:((s[k].toNat:Int)==37)=true:=by rw[hc];rfl
    have eh:((s[k].toNat:Int) != 37)=false:=by rw[bne,eS];rfl
    have HC:=Um hc;clear hc;by_cases h3:k+2<s.size
    ·have hk7:(k:Int)+1<(s.size:Int):=by omega
     have QM:(k:Int)+2<(s.size:Int):=by omega
     have hk9:k+1<s.size:=by omega
     have mD:((k:Int)+1).toNat=k+1:=by omega
     have Sx:((k:Int)+2).toNat=k+2:=by omega
     have ru:=Um (xx HD.o h3 HC.o);have BX:=Um (xv HD.o h3 HC.o);have Ka:=Um (fun w=>tE s[k+1] w);have Nk:=Um (fun w=>tE s[k+2] w);rcases um s[k+1] with⟨hA,jk⟩|⟨hA,Ko,PZ⟩
     ·have HN:=Um (ru.o (.inl jk));have HA:=Um hA;clear hA jk;rw[HA.o] at Ka;go_wp2_with (go_at_call 231;refine(Ka.out _).mono ?_;rintro e w1 ⟨rfl,rfl⟩);go_ret2;exact⟨by rw[HN.o];rfl,HW.o⟩
     ·rw[hA] at Ka;generalize dP s[k+1]=A at Ko PZ ru BX Ka;clear hA;rcases um s[k+2] with⟨hB,eM⟩|⟨hB,pR,gm⟩
      ·have HN:=Um (ru.o (.inr eM));rw[hB] at Nk;clear hB eM;go_wp2_with (first|(go_at_call 231;((with_reducible refine(Ka.out _).mono ?_);rintro e w1 ⟨rfl,rfl⟩))|(go_at_call 231;((with_reducible refine(Nk.out _).mono ?_);rintro e w1 ⟨rfl,rfl⟩)));go_ret2;exact⟨by rw[HN.o];rfl,HW.o⟩
      ·rw[hB] at Nk;generalize dP s[k+2]=B at pR gm ru BX Nk;clear hB ru;have HTT:=Um (BX.o (by omega) (by omega));clear BX;go_wp2_with (first|(go_at_call 231;((with_reducible refine(Ka.out _).mono ?_);rintro e w1 ⟨rfl,rfl⟩))|(go_at_call 231;((with_reducible refine(Nk.out _).mono ?_);rintro e w1 ⟨rfl,rfl⟩)));have gP:IntKind.i64.wrap ((k:Int)+1)=(k:Int)+1:=by simp[IntKind.wrap,IntKind.bits,IntKind.signed];omega
       have ig:IntKind.i64.wrap ((k:Int)+2)=(k:Int)+2:=by simp[IntKind.wrap,IntKind.bits,IntKind.signed];omega
       have m1:IntKind.i64.wrap (16*A)=16*A:=by simp[IntKind.wrap,IntKind.bits,IntKind.signed];omega
       have m2:IntKind.i64.wrap (16*A+B)=16*A+B:=by simp[IntKind.wrap,IntKind.bits,IntKind.signed];omega
       have m3:IntKind.u8.wrap (16*A+B)=16*A+B:=by simp[IntKind.wrap,IntKind.bits,IntKind.signed];omega
       have hk5:(0:Int)≤(k:Int)+1:=by omega
       have vl:(0:Int)≤(k:Int)+2:=by omega
       have gO:¬9223372036854775807<t.size+1:=by omega
       have hss:(str [UInt8.ofNat (16*A+B).toNat]).size=1:=rfl;have hcv:(convert 121 9 (.slice (some ⟨wr.heap.size,0,none⟩) 1 1)).run Tryz.prog (wr.alloc (.cells #[.int .u8 (16*A+B)] 5)).drew=.ok (.string (str [UInt8.ofNat (16*A+B).toNat])) (wr.alloc (.cells #[.int .u8 (16*A+B)] 5)).drew:=
        BJ Tryz.underlying121 Tryz.underlying5 Tryz.underlying9 wr.drew (16*A+B) 5
       refine wp_region_held_drew (S:=fun _=>True) (by kernel_rfl) trivial (fun _=>?_);refine cI 0 44 (v:=?v0) rfl rfl (by kernel_rfl) (by kernel_rfl) (by kernel_rfl) (fun _ _ _ h=>h) rfl ?y0 trivial ?_
       case y0=>(intro w dG;(try dsimp only at dG);go_simp;(try with_reducible rfl))
       simp only[ah,ai,aj];refine cI 1 45 (v:=?v1) rfl rfl (by kernel_rfl) (by kernel_rfl) (by kernel_rfl) (fun _ _ _ h=>h) rfl ?y1 trivial ?_
       case y1=>(intro w dG;(try dsimp only at dG);go_simp;(try with_reducible rfl))
       simp only[ah,ai,aj];refine cI 2 46 (v:=?v2) rfl rfl (by kernel_rfl) (by kernel_rfl) (by kernel_rfl) (fun _ _ _ h=>h) rfl ?y2 trivial ?_
       case y2=>(intro w dG;(try dsimp only at dG);go_simp;(try with_reducible rfl))
       simp only[ah,ai,aj];refine cI 3 47 (v:=?v3) rfl rfl (by kernel_rfl) (by kernel_rfl) (by kernel_rfl) (fun _ _ _ h=>h) rfl ?y3 trivial ?_
       case y3=>(intro w dG;(try dsimp only at dG);go_simp;(try with_reducible rfl))
       simp only[ah,ai,aj];refine cI 4 48 (v:=?v4) rfl rfl (by kernel_rfl) (by kernel_rfl) (by kernel_rfl) (fun _ _ _ h=>h) rfl ?y4 trivial ?_
       case y4=>(intro w dG;(try dsimp only at dG);go_simp;(try with_reducible rfl))
       simp only[ah,ai,aj];refine cI 7 51 (v:=?v7) rfl rfl (by kernel_rfl) (by kernel_rfl) (by kernel_rfl) (fun _ _ _ h=>h) rfl ?y7 trivial ?_
       case y7=>(intro w dG;(try dsimp only at dG);go_simp;(try with_reducible rfl))
       simp only[ah,ai,aj];refine cI 8 52 (v:=?v8) rfl rfl (by kernel_rfl) (by kernel_rfl) (by kernel_rfl) (fun _ _ _ h=>h) rfl ?y8 trivial ?_
       case y8=>(intro w dG;(try dsimp only at dG);go_simp;(try with_reducible rfl))
       simp only[ah,ai,aj];refine cI 9 53 (v:=?v9) rfl rfl (by kernel_rfl) (by kernel_rfl) (by kernel_rfl) (fun _ _ _ h=>h) rfl ?y9 trivial ?_
       case y9=>(intro w dG;(try dsimp only at dG);go_simp;(try with_reducible rfl))
       simp only[ah,ai,aj];refine cI 10 54 (v:=?v10) rfl rfl (by kernel_rfl) (by kernel_rfl) (by kernel_rfl) (fun _ _ _ h=>h) rfl ?y10 trivial ?_
       case y10=>(intro w dG;(try dsimp only at dG);go_simp;(try with_reducible rfl))
       simp only[ah,ai,aj];refine dw 5 49 (R:=fun v w'=>v=.int .i64 A∧wr.drew=w') (by kernel_rfl) rfl rfl rfl ?x5 ((Ka.out _).mono (fun e w' ⟨he,hb⟩=>⟨_,he,rfl,hb⟩)) (fun _ _ _=>trivial) ?_
       case x5=>(go_simp;(try rfl))
       rintro _ _ ⟨rfl,rfl⟩;simp only[ah,ai,aj];refine cI 6 50 (v:=?v6) rfl rfl (by kernel_rfl) (by kernel_rfl) (by kernel_rfl) (fun _ _ _ h=>h) rfl ?y6 trivial ?_
       case y6=>(intro w dG;(try dsimp only at dG);go_simp;(try with_reducible rfl))
       simp only[ah,ai,aj];refine dw 11 55 (R:=fun v w'=>v=.int .i64 B∧wr.drew=w') (by kernel_rfl) rfl rfl rfl ?x11 ((Nk.out _).mono (fun e w' ⟨he,hb⟩=>⟨_,he,rfl,hb⟩)) (fun _ _ _=>trivial) ?_
       case x11=>(go_simp;(try rfl))
       rintro _ _ ⟨rfl,rfl⟩;simp only[ah,ai,aj];refine cI 12 56 (v:=?v12) rfl rfl (by kernel_rfl) (by kernel_rfl) (by kernel_rfl) (fun _ _ _ h=>h) rfl ?y12 trivial ?_
       case y12=>(intro w dG;(try dsimp only at dG);go_simp;(try with_reducible rfl))
       simp only[ah,ai,aj];refine cI 13 57 (v:=?v13) rfl rfl (by kernel_rfl) (by kernel_rfl) (by kernel_rfl) (fun _ _ _ h=>h) rfl ?y13 trivial ?_
       case y13=>(intro w dG;(try dsimp only at dG);go_simp;(try with_reducible rfl))
       simp only[ah,ai,aj];refine pq 14 58 (v:=.slice (some ⟨wr.heap.size,0,none⟩) 1 1) (W:=(wr.alloc (.cells #[.int .u8 (16*A+B)] 5)).drew) (by kernel_rfl) rfl rfl rfl ?z14 trivial ?_
       case z14=>(go_simp;(try rfl))
       simp only[ah,ai,aj];refine pq 15 59 (v:=.string (str [UInt8.ofNat (16*A+B).toNat])) (W:=(wr.alloc (.cells #[.int .u8 (16*A+B)] 5)).drew) (by kernel_rfl) rfl rfl rfl ?z15 trivial ?_
       case z15=>(go_simp;(try rfl))
       simp only[ah,ai,aj];refine cI 16 60 (v:=?v16) rfl rfl (by kernel_rfl) (by kernel_rfl) (by kernel_rfl) (fun _ _ _ h=>h) rfl ?y16 trivial ?_
       case y16=>(intro w dG;(try dsimp only at dG);go_simp;(try with_reducible rfl))
       simp only[ah,ai,aj];refine cI 17 4 (v:=?v17) rfl rfl (by kernel_rfl) (by kernel_rfl) (by kernel_rfl) (fun _ _ _ h=>h) rfl ?y17 trivial ?_
       case y17=>(intro w dG;(try dsimp only at dG);go_simp;(try with_reducible rfl))
       simp only[ah,ai,aj];refine wpAnyH_done (by kernel_rfl) ?_ _
       all_goals
        go_wp2_with fail;go_roundw
        case measure=>simp[intOf];omega
        case rel=>exact⟨k+3,_,_,by omega,by go_num,rfl,by rw[HT.o,aY],by simp;omega,HTT.o,HW.o.trans (((Below.refl w.heap.size wr).alloc HW.o.size _).drew)⟩
    ·have HN:=Um (rZ HD.o hlt HC.o (by omega));go_wp2_with fail;go_ret2;exact⟨by rw[HN.o];rfl,HW.o⟩
   ·have eS:((s[k].toNat:Int)==37)=false:=by
     simp only[beq_eq_false_iff_ne,ne_eq];intro h;exact hc (by rw[gE];show s[k].toNat=37;omega)
    have eh:((s[k].toNat:Int) != 37)=true:=by rw[bne,eS];rfl
    have hx:=Ky s k hlt;have hxs:(str [s[k]]).size=1:=rfl;have HC:=Um hc;clear hc;go_wp2_with fail;go_roundw
    case measure=>simp[intOf];omega
    case rel=>exact⟨k+1,o++[s[k]],_,by omega,by go_num,rfl,by rw[HT.o,aY],by simp;omega,r9 HD.o hlt HC.o,HW.o⟩
  ·obtain rfl:k=s.size:=by omega
   have HE:=Um (xw HD.o);go_wp2_with fail;go_ret2;exact⟨by rw[HE.o,HT.o];rfl,HW.o⟩
end
section
open Go.RowKit
def uY(ps:List (List UInt8))(base:Nat)(e:Ending)(w':World):Prop:=
 (ps.mapM cF=none∧e=.returned (.tuple #[.slice none 0 0,.bool false]))∨
 ∃ds g cap,ps.mapM cF=some ds∧e=.returned (.tuple #[.slice (some ⟨g,0,none⟩) ps.length cap,.bool true])∧OS w' base (.slice (some ⟨g,0,none⟩) ps.length cap) ds
theorem zD{ps:List (List UInt8)}{base:Nat}{w':World}(h:ps.mapM cF=none):uY ps base (.returned (.tuple #[.slice none 0 0,.bool false])) w':=.inl ⟨h,rfl⟩
theorem xL{ps ds:List (List UInt8)}{base g cap:Nat}{w':World}(h:ps.mapM cF=some ds)(ho:OS w' base (.slice (some ⟨g,0,none⟩) ps.length cap) ds):uY ps base (.returned (.tuple #[.slice (some ⟨g,0,none⟩) ps.length cap,.bool true])) w':=.inr ⟨ds,g,cap,h,rfl,ho⟩
theorem E5(s:ByteArray)(w:World)(hs:s.size≤2000000) :
  Calls Tryz.prog 126 #[.string s] w fun e w'=>uY (dB 32 s.data.toList) w.heap.size e w'∧Up w w':=by
 go_enter Tryz.func126,Tryz.ntmps126;go_wp2_with fail
 go_loopw [4,5] (fun t3 t4 wr=>∃(k g cap:Nat) (ls:List (List UInt8)),k≤s.size∧t4=.int .i64 k∧t3=.slice (some ⟨g,0,none⟩) ls.length cap∧OS wr w.heap.size (.slice (some ⟨g,0,none⟩) ls.length cap) ls∧ls=dB 32 (s.data.toList.take k)∧Up w wr) (fun _ t4 _=>s.size-(intOf t4).toNat)
 case atStart=>exact⟨0,w.heap.size,1,[[]],Nat.zero_le _,rfl,rfl,OS.one w _ [] (aa _),by simp[dB],al (Below.refl _ _) _⟩
 case round=>
  obtain⟨k,g,cap,ls,hk,rfl,rfl,hO,hls,hW⟩:=hrel;have hll:0<ls.length∧ls.length≤2000001:=by
   have h1:=dM 32 (s.data.toList.take k);have h2:(s.data.toList.take k).length≤k:=List.length_take_le _ _;rw[hls];omega
  have HO:=Um hO;have sA:=Um hls;have HW:=Um hW;obtain⟨dL,qk⟩:=hll;by_cases hlt:k<s.size
  ·have mW:=Um (gF s k hlt);by_cases hc:s[k]=32
   ·have eS:((s[k].toNat:Int)==32)=true:=by rw[hc];rfl
    have HC:=Um hc;obtain⟨g2,cap2,W,hrun,iW,eM⟩:=hO.app [] (by omega) hW.size;have HR:=Um hrun;have HX:=Um (ag iW eM);clear hc hO hls hW hrun iW eM;go_wp2_with (at_builtin;refine aG rfl rfl rfl rfl HR.o ?_);go_roundw
    case measure=>simp[intOf];omega
    case rel=>exact⟨k+1,g2,cap2,ls++[[]],by omega,by go_num,by simp,by simpa using HX.o.1,by rw[mW.o,ei,dX,if_pos HC.o,←sA.o],HW.o.trans HX.o.2⟩
   ·have eS:((s[k].toNat:Int)==32)=false:=by
     simp only[beq_eq_false_iff_ne,ne_eq];intro h;exact hc (by rw[gE];show s[k].toNat=32;omega)
    have HC:=Um hc;have hcl:=hO.cell (ls.length-1) (by omega);obtain⟨hfz,-,-⟩:=cd hO;have hts:(str ls[ls.length-1]).size≤2000000:=by
     rw[aP];have h1:=fA 32 (s.data.toList.take k) ls[ls.length-1] (by rw[←hls];exact List.getElem_mem _);have h2:(s.data.toList.take k).length≤k:=List.length_take_le _ _;omega
    have HX:=Um (fun(t:ByteArray) (ht:t=str (ls[ls.length-1]++[s[k]]))=>(show OS (wr.drew.setCell ⟨g,ls.length-1,none⟩ (.string t)) w.heap.size (.slice (some ⟨g,0,none⟩) ls.length cap) (ls.set (ls.length-1) (ls[ls.length-1]++[s[k]])) from by rw[ht];exact OS.put (w:=wr.drew) hO _ (by omega) _));have HEq:=Um (show dX 32 ls s[k]=ls.set (ls.length-1) (ls[ls.length-1]++[s[k]]) by
     unfold dX;rw[if_neg HC.o,List.getD_eq_getElem?_getD,List.getElem?_eq_getElem (show ls.length-1<ls.length by omega)];rfl)
    have hx:=Ky s k hlt;have HT:=Um (aY ls[ls.length-1] [s[k]]);have hbg:=Um (cd hO).2;generalize str ls[ls.length-1]=t at hcl hts HT;have HN:=Um (show(1:Int)≤(ls.length:Int)∧(0:Int)≤(ls.length:Int)-1∧(ls.length:Int)-1<(ls.length:Int)∧((ls.length:Int)-1).toNat=ls.length-1∧(0:Int)≤(k:Int)+1∧(k:Int)≤(k:Int)+1∧(k:Int)+1≤(s.size:Int)∧((k:Int)+1).toNat=k+1 by omega);have hss:(str [s[k]]).size=1:=rfl;have kB:=Um (ag (show IntKind.i64.wrap ((ls.length:Int)-1)=(ls.length:Int)-1 by simp[IntKind.wrap,IntKind.bits,IntKind.signed];omega) (ag (show IntKind.i64.wrap ((k:Int)+1)=(k:Int)+1 by simp[IntKind.wrap,IntKind.bits,IntKind.signed];omega) (show¬9223372036854775807<t.size+1 by omega)));clear hc hO hls hW;go_wp2_with fail;obtain⟨g1,g2,g3⟩:=kB.o;obtain⟨n0,n1,n2,n3,n4,n5,n6,n7⟩:=HN.o;refine fh 17 (by kernel_rfl) (by kernel_rfl) ?_;simp only[List.take_succ_cons,List.take_zero,List.drop_succ_cons,List.drop_zero]
    repeat still_step
    refine wpStill_nil ?_;clear g1 g2 g3;go_wp2_with fail;go_roundw
    case measure=>simp[intOf];omega
    case rel=>exact⟨k+1,g,cap,ls.set (ls.length-1) (ls[ls.length-1]++[s[k]]),by omega,by go_num,by rw[List.length_set],by rw[List.length_set];exact HX.o _ HT.o,by rw[mW.o,ei,←sA.o,HEq.o],HW.o.trans ((Below.refl _ _).drew.setCell hbg.out.1 _)⟩
  ·obtain rfl:k=s.size:=by omega
   have mW:=Um (iK s);rw[mW.o] at sA;have Ck:=Um (show dB 32 s.data.toList=ls from sA.o.symm);have HPz:=Um (fun(p:List UInt8) (hp:p∈ls)=>(show p.length≤2000000 from by
    have h1:=fA 32 s.data.toList p (by rw[Ck.o];exact hp);have h2:s.data.toList.length=s.size:=Array.length_toList;omega))
   clear hO hls hW mW sA;go_wp2_with fail
   go_loopw [6] (fun t6 wq=>∃(k:Nat) (ds:List (List UInt8)),k≤ls.length∧t6=.int .i64 k∧(ls.take k).mapM cF=some ds∧OS wq w.heap.size (.slice (some ⟨g,0,none⟩) ls.length cap) (ds++ls.drop k)∧Up w wq) (fun t6 _=>ls.length-(intOf t6).toNat)
   case atStart=>exact⟨0,[],Nat.zero_le _,rfl,rfl,HO.o,HW.o⟩
   case round=>
    obtain⟨k,ds,hk,rfl,hds,hO,hW⟩:=hrel;have HO:=Um hO;have HW:=Um hW;have HD:=Um hds;have hdl:ds.length=k:=by rw[tZ hds,List.length_take];omega
    have L8:=Um hdl;obtain⟨hfz,vm,A9⟩:=hO.free;clear hW hds;by_cases hlt:k<ls.length
    ·have hcl:=hO.fJ k (by rw[List.length_append,List.length_drop];omega);rw[List.getElem_append_right (by omega),List.getElem_drop] at hcl;have hkk:(ls[k+(k-ds.length)]'(by omega))=ls[k]:=by congr 1;omega
     rw[hkk] at hcl;have o0:=Um (fun w=>As (str ls[k]) w (by rw[aP];exact HPz.o _ (List.getElem_mem _)));have HT:=Um (wS (f:=cF) ls k hlt HD.o);rw[aH] at o0;generalize str ls[k]=pk at hcl o0;generalize cF ls[k]=r at o0 HT;clear hO hdl hkk
     cases r with
     |none=>
      have HN:=Um (mapM_none ls (k+1) HT.o);simp only[ra] at o0;clear hfz vm;go_wp2_with (go_at_call 194;refine(o0.o _).mono ?_;rintro e w2 ⟨rfl,aD⟩);go_ret2;exact⟨zD (by rw[Ck.o];exact HN.o),HW.o.trans (aD.mono HW.o.size)⟩
     |some t=>
      simp only[ra] at o0;have Qg:=Um (show(ls.take (k+1)).mapM cF=some (ds++[t]) from HT.o);have va:=Um (show k<(ds++ls.drop k).length by rw[List.length_append,List.length_drop,L8.o];omega);have EW:=Um HW.o.size;go_wp2_with (go_at_call 194;refine(o0.o _).mono ?_;rintro e w2 ⟨rfl,aD⟩;have jc:=Um (HW.o.trans (aD.mono EW.o));have l8:=Um (HO.o.ak aD);have vB:=l8.o.free;obtain⟨hfz2,-,J7⟩:=vB;obtain⟨v2,Nn⟩:∃v,w2.cell? ⟨g,k,none⟩=some v:=⟨_,l8.o.fJ k va.o⟩;clear aD);go_roundw
      case measure=>simp[intOf];omega
      case rel=>exact⟨k+1,ds++[t],by omega,by go_num,Qg.o,by rw[←Ee ds ls k L8.o hlt t];exact l8.o.RU k va.o t,jc.o.setCell (show w.heap.size≤g by omega) _⟩
    ·obtain rfl:k=ls.length:=by omega
     have NW:=Um (show ls.mapM cF=some ds by have:=HD.o;rwa [List.take_length] at this);have Qk:=Um (show OS wr w.heap.size (.slice (some ⟨g,0,none⟩) ls.length cap) ds by have:=HO.o;rwa [List.drop_length,List.append_nil] at this);clear hO hdl hfz vm A9;go_wp2_with fail;go_ret2;exact⟨by rw[Ck.o];exact xL NW.o Qk.o,HW.o⟩
end
section
open Go.RowKit
def QF:List (List UInt8)→Nt
 |k::n::r=>match iT n with
  |some no=>if 1<r.length then sk k no r else Nt.zero
  |none=>Nt.zero
 |_=>Nt.zero
def fE(l:List UInt8):Nt:=match(dB 32 l).mapM cF with
 |some ws=>QF ws
 |none=>Nt.zero
theorem Et{k:List UInt8}{no:Int}{r:List (List UInt8)}(h:k.length≠1∨3<r.length∨r.length<2):sk k no r=Nt.zero:=by
 rcases r with _|⟨a,_|⟨b,_|⟨c,_|⟨d,r⟩⟩⟩⟩
 ·rfl
 ·rfl
 ·have hk:k.length≠1:=by simp at h;exact h
  exact fG (fun e=>hk (by rw[e.1];rfl)) (fun e=>hk (by rw[e.1];rfl)) (fun e=>by simp at e)
 ·have hk:k.length≠1:=by simp at h;exact h
  exact fG (fun e=>by simp at e) (fun e=>by simp at e) (fun e=>hk (by rw[e.1];rfl))
 ·rfl
theorem wM(l:List UInt8):ib l=if dZ (fE l) then some (fE l) else none:=by
 unfold ib fE
 cases (dB 32 l).mapM cF with
 |none=>rfl
 |some ws=>
  rcases ws with _|⟨k,_|⟨n,r⟩⟩
  ·rfl
  ·rfl
  ·show(if r.length<2 then none else match iT n with|some no=>chk (sk k no r)|none=>none)=_;show _=if dZ (match iT n with|some no=>if 1<r.length then sk k no r else Nt.zero|none=>Nt.zero)=true then some (match iT n with|some no=>if 1<r.length then sk k no r else Nt.zero|none=>Nt.zero) else none
   cases iT n with
   |none=>by_cases h:r.length<2<;>simp[h,JN]
   |some no=>
    by_cases h:r.length<2
    ·rw[if_pos h];simp only[if_neg (show¬1<r.length by omega)];rfl
    ·rw[if_neg h];simp only[if_pos (show 1<r.length by omega)];rfl
theorem bZ{tmps:Array Value}{W:World}{B2:Nat}{x:Nt}(hb:au W B2 #[.int .u8 x.kind.toNat,.int .i64 x.no,.string x.src,.string x.dst,.string x.tmp] 63)
  (h2:tmps.getD 2 undef=.pointer (some ⟨B2,0,none⟩)):(results Tryz.f79 tmps).run Tryz.prog W=.ok (Nt.v x) W:=by
 have q0:=hb.cell 0;have q1:=hb.cell 1;have q2:=hb.cell 2;have q3:=hb.cell 3;have q4:=hb.cell 4;simp only[List.getElem?_toArray,List.getElem?_cons_zero,List.getElem?_cons_succ] at q0 q1 q2 q3 q4;rw[Array.getD_eq_getD_getElem?] at h2;simp[results,Tryz.results79,go_sem,Nt.v,h2,q0,q1,q2,q3,q4]
theorem I4(s:ByteArray)(w:World)(hs:s.size≤2000000):Calls Tryz.prog 127 #[.string s] w fun e w'=>e=.returned (oH (iT s.data.toList))∧Up w w':=
 (I5 s w hs).mono fun e w' ⟨⟨r,he,hr⟩,hb⟩=>⟨by rw[he,yo hr],hb⟩
theorem Mi{c:UInt8}{h:0<(str [c]).size}:(str [c])[0]'h=c:=rfl
theorem au.GV{w:World}{B:Nat}{v0 v1 v2 v3 v4:Value}{T:TypeId}(h:au w B #[v0,v1,v2,v3,v4] T) :
  w.cell? ⟨B,0,none⟩=some v0∧w.cell? ⟨B,1,none⟩=some v1∧w.cell? ⟨B,2,none⟩=some v2∧w.cell? ⟨B,3,none⟩=some v3∧w.cell? ⟨B,4,none⟩=some v4:=by
 rw[h.cell,h.cell,h.cell,h.cell,h.cell];exact⟨rfl,rfl,rfl,rfl,rfl⟩
theorem K0{c:UInt8}{n:Nat}(h:(c.toNat:Int)=n)(hn:n<256:=by decide):c=UInt8.ofNat n:=by
 rw[gE];simp[UInt8.toNat_ofNat'];omega
theorem K5{c:UInt8}{n:Nat}(h:¬(c.toNat:Int)=n)(e:[c]=[UInt8.ofNat n])(hn:n<256:=by decide):False:=by
 injection e with e;rw[e] at h;simp[UInt8.toNat_ofNat'] at h;omega
theorem OC{c a b:UInt8}(h:c=a)(h2:[c]=[b])(h3:a≠b):False:=by
 injection h2 with h2;exact h3 (h.symm.trans h2)
theorem iw{x y:Nt}(h:x=y):Ending.returned (Nt.v x)=.returned (Nt.v y):=by rw[h]
theorem FG(s:ByteArray)(w:World)(hs:s.size≤2000000) :
  Calls Tryz.prog 79 #[.string s] w fun e w'=>e=.returned (Nt.v (fE s.data.toList))∧Up w w':=by
 have pR:=au.new w #[.int .u8 0,.int .i64 0,.string ByteArray.empty,.string ByteArray.empty,.string ByteArray.empty] 63;have bP:=Um pR;have oc:=Um (al (Uq w) (.cells #[.int .u8 0,.int .i64 0,.string ByteArray.empty,.string ByteArray.empty,.string ByteArray.empty] 63));have HS:=Um (E5 s (w.alloc (.cells #[.int .u8 0,.int .i64 0,.string ByteArray.empty,.string ByteArray.empty,.string ByteArray.empty] 63)) hs);clear pR;have hpl:=(dM 32 s.data.toList).2;have Sm:(dB 32 s.data.toList).length≤2000001:=by
  have h2:s.data.toList.length=s.size:=Array.length_toList;omega
 generalize hps:dB 32 s.data.toList=ps at HS Sm;have Ck:=Um hps;clear hps hpl
 cases hws:ps.mapM cF with
 |none=>
  have HN:=Um (show fE s.data.toList=Nt.zero by unfold fE;rw[Ck.o,hws]);have o4:=Um (HS.o.mono fun e w' h=>show e=.returned (.tuple #[.slice none 0 0,.bool false])∧Below _ _ w' from ag (by
   rcases h.1 with⟨-,h⟩|⟨ds,g,cap,h,-⟩
   ·exact h
   ·rw[hws] at h;cases h) h.2)
  clear HS hws;go_enter Tryz.func79,Tryz.ntmps79;go_wp2_with (go_at_call 126;refine o4.o.mono ?_;rintro e w1 ⟨rfl,ar⟩;have cM:=Um (bP.o.ak ar);have kB:=Um (ao oc.o ar);have gm:=cM.o;obtain⟨q0,qf,ql⟩:=gm.facts;clear ar gm);exact bodyPost_ret (bZ (x:=Nt.zero) cM.o.kM rfl) rfl ⟨iw HN.o.symm,bF kB.o (aa _)⟩
 |some ds=>
  have D0:=Um (show(dB 32 s.data.toList).mapM cF=some ds by rw[Ck.o];exact hws);have hdl:ds.length=ps.length:=tZ hws;have jU:=Um (show fE s.data.toList=QF ds by unfold fE;rw[Ck.o,hws]);have o4:=Um (HS.o.mono fun e w' h=>show(∃g cap,e=.returned (.tuple #[.slice (some ⟨g,0,none⟩) ps.length cap,.bool true])∧OS w' _ (.slice (some ⟨g,0,none⟩) ps.length cap) ds)∧Below _ _ w' from ag (by
   rcases h.1 with⟨h,-⟩|⟨ds',g,cap,h,h2⟩
   ·rw[hws] at h;cases h
   ·rw[hws] at h;injection h with h;subst h;exact⟨g,cap,h2⟩) h.2)
  clear HS hws;by_cases hfar:ps.length<4∨5<ps.length
  ·have HN:=Um (show fE s.data.toList=Nt.zero by
    rw[jU.o];rcases ds with _|⟨k,_|⟨n,r⟩⟩
    ·rfl
    ·rfl
    ·show(match iT n with|some no=>if 1<r.length then sk k no r else Nt.zero|none=>Nt.zero)=_;simp only[List.length_cons] at hdl
     cases iT n with
     |none=>rfl
     |some no=>
      show(if _ then _ else _)=_
      split
      ·exact Et (by omega)
      ·rfl)
   go_enter Tryz.func79,Tryz.ntmps79;rcases hfar with h1|h1
   ·have h2:(ps.length:Int)<4:=by omega
    clear h1 hdl;go_wp2_with (go_at_call 126;refine o4.o.mono ?_;rintro e w1 ⟨⟨g,cap,rfl,hO⟩,ar⟩;have cM:=Um (bP.o.ak ar);have kB:=Um (ao oc.o ar);have gm:=cM.o;obtain⟨q0,qf,ql⟩:=gm.facts;clear ar gm hO);exact bodyPost_ret (bZ (x:=Nt.zero) cM.o.kM rfl) rfl ⟨iw HN.o.symm,bF kB.o (aa _)⟩
   ·have h2:(5:Int)<ps.length:=by omega
    have h3:(4:Int)≤ps.length:=by omega
    clear h1 hdl;go_wp2_with (go_at_call 126;refine o4.o.mono ?_;rintro e w1 ⟨⟨g,cap,rfl,hO⟩,ar⟩;have cM:=Um (bP.o.ak ar);have kB:=Um (ao oc.o ar);have gm:=cM.o;obtain⟨q0,qf,ql⟩:=gm.facts;clear ar gm hO);exact bodyPost_ret (bZ (x:=Nt.zero) cM.o.kM rfl) rfl ⟨iw HN.o.symm,bF kB.o (aa _)⟩
  ·have h4:(4:Int)≤ps.length:=by omega
   have h5:(ps.length:Int)≤5:=by omega
   have h4n:4≤ps.length:=by omega
   have HL5:=Um (show ps.length≤5 by omega);clear hfar;obtain⟨k0,n0,a,b,r,rfl⟩:∃k0 n0 a b r,ds=k0::n0::a::b::r:=by
    rcases ds with _|⟨a,_|⟨b,_|⟨c,_|⟨d,r⟩⟩⟩⟩
    ·simp at hdl;omega
    ·simp at hdl;omega
    ·simp at hdl;omega
    ·simp at hdl;omega
    ·exact⟨a,b,c,d,r,rfl⟩
   simp only[List.length_cons] at hdl;have lD:=Um hdl;have Qc:=Um (show∀y∈(k0::n0::a::b::r),y.length≤2000000 from fun y hy=>by
    have h1:=om (l:=s.data.toList) (ws:=k0::n0::a::b::r) D0.o y hy;have h2:s.data.toList.length=s.size:=Array.length_toList;omega)
   have hgg:0<(k0::n0::a::b::r).length:=by simp
   clear hdl;by_cases gP:k0.length=1
   ·obtain⟨c,rfl⟩:=List.length_eq_one_iff.1 gP;have BZ:=Um (fun w=>I4 (str n0) w (by rw[aP];exact Qc.o n0 (by simp)));rw[aH] at BZ;have hks:(str [c]).size=1:=rfl;clear gP hgg
    cases hno:iT n0 with
    |none=>
     have HN:=Um (show fE s.data.toList=Nt.zero by
      rw[jU.o];show(match iT n0 with|some no=>if 1<(a::b::r).length then sk [c] no (a::b::r) else Nt.zero|none=>Nt.zero)=_;rw[hno])
     rw[hno] at BZ;simp only[oH] at BZ;clear hno;go_enter Tryz.func79,Tryz.ntmps79;go_wp2_with (first|(go_at_call 126;refine o4.o.mono ?_;rintro e w1 ⟨⟨g,cap,rfl,hO⟩,ar⟩;have cM:=Um (bP.o.ak ar);have kB:=Um (ao oc.o ar);have gm:=cM.o;obtain⟨q0,qf,ql⟩:=gm.facts;have o5:=Um hO;have c0:=hO.fJ 0 (by simp);have c1:=hO.fJ 1 (by simp);simp only[List.getElem_cons_zero,List.getElem_cons_succ] at c0 c1;have hgf:=hO.free.2.2;clear ar gm hO)|(go_at_call 127;refine(BZ.o _).mono ?_;rintro e w2 ⟨rfl,aD⟩;have jc:=Um (ao kB.o aD);have cV:=Um (cM.o.ak aD);have eM:=cV.o;obtain⟨q20,q2f,q2l⟩:=eM.facts;clear aD q0 qf ql eM));exact bodyPost_ret (bZ (x:=Nt.zero) cV.o.kM rfl) rfl ⟨iw HN.o.symm,bF jc.o (aa _)⟩
    |some no=>
     have HN:=Um (show fE s.data.toList=sk [c] no (a::b::r) by
      rw[jU.o];show(match iT n0 with|some no=>if 1<(a::b::r).length then sk [c] no (a::b::r) else Nt.zero|none=>Nt.zero)=_;rw[hno];exact if_pos (by simp))
     rw[hno] at BZ;simp only[oH] at BZ;clear hno;go_enter Tryz.func79,Tryz.ntmps79;go_upto_region 7 with(first|(go_at_call 126;refine o4.o.mono ?_;rintro e w1 ⟨⟨g,cap,rfl,hO⟩,ar⟩;have cM:=Um (bP.o.ak ar);have kB:=Um (ao oc.o ar);have gm:=cM.o;obtain⟨q0,qf,ql⟩:=gm.facts;have o5:=Um hO;have c0:=hO.fJ 0 (by simp);have c1:=hO.fJ 1 (by simp);simp only[List.getElem_cons_zero,List.getElem_cons_succ] at c0 c1;have hgf:=hO.free.2.2;clear ar gm hO)|(go_at_call 127;refine(BZ.o _).mono ?_;rintro e w2 ⟨rfl,aD⟩;have jc:=Um (ao kB.o aD);have cV:=Um (cM.o.ak aD);have l8:=Um (o5.o.ak aD);have si:=Um (o5.o.free.2.1);clear aD q0 qf ql c0 c1));have c0:=l8.o.fJ 0 (by simp);simp only[List.getElem_cons_zero,List.getElem_cons_succ] at c0;have hw2l:w.heap.size<w2.heap.size:=cV.o.lt;obtain⟨gfz,-,gfl⟩:=l8.o.free;clear gfz;go_upto_region 8 with(fail);simp only[Mi];show Code.wp Tryz.prog _ _ _ (w2.alloc (.cells #[.int .u8 c.toNat,.int .i64 no,.string ByteArray.empty,.string ByteArray.empty,.string ByteArray.empty] 63));have sC:=Um (au.new w2 #[.int .u8 c.toNat,.int .i64 no,.string ByteArray.empty,.string ByteArray.empty,.string ByteArray.empty] 63);have EY:=Um (al jc.o (.cells #[.int .u8 c.toNat,.int .i64 no,.string ByteArray.empty,.string ByteArray.empty,.string ByteArray.empty] 63));have ez:=Um (cV.o.eE (.cells #[.int .u8 c.toNat,.int .i64 no,.string ByteArray.empty,.string ByteArray.empty,.string ByteArray.empty] 63));have D7:=Um (l8.o.ak (al (Below.refl _ _) (.cells #[.int .u8 c.toNat,.int .i64 no,.string ByteArray.empty,.string ByteArray.empty,.string ByteArray.empty] 63)));have Ln:=Um (show w2.heap.size≠w.heap.size∧w2.heap.size≠g∧g≠w.heap.size by have h:=si.o;simp at h;omega);have Dr:w.heap.size≤w2.heap.size:=by omega
     clear c0 hw2l gfl;generalize w2.alloc _=W at EY ez sC D7⊢;generalize w2.heap.size=B7 at sC Ln Dr⊢;generalize eM:w.heap.size=B2 at ez Ln Dr⊢;clear cV jc l8 cM kB o5 si;have LN:=D7.o;have rW:=ez.o;have PW:=sC.o;have qf:=rW.frozen;have ql:=rW.lt;have rf:=PW.frozen;have rl:=PW.lt;obtain⟨q0,q1,q2,q3,q4⟩:=rW.GV;obtain⟨r0,r1,r2,r3,r4⟩:=PW.GV;have d2:=LN.fJ 2 (by simp);have d3:=LN.fJ 3 (by simp);simp only[List.getElem_cons_zero,List.getElem_cons_succ] at d2 d3;obtain⟨-,-,hgl⟩:=LN.free;obtain⟨gO,jj,J6⟩:=Ln.o;have Dn:=Ne.symm gO;have QL:=Ne.symm jj;have Cb:(2:Int)<ps.length:=by omega
     have J2:(3:Int)<ps.length:=by omega
     clear LN rW PW;rcases r with _|⟨x,r⟩
     ·obtain hln:4=ps.length:=by have:=lD.o;simpa using this
      have dI:((ps.length:Int)==4)=true:=by rw[←hln];rfl
      have b9:((ps.length:Int)==5)=false:=by rw[←hln];rfl
      clear hln;have h0:=Um (show w.heap.size≤B2∧w.heap.size≤B7 by omega);go_wp2_with fail
      ·obtain rfl:c=109:=K0 ‹(c.toNat:Int)=109›;exact bodyPost_ret (bZ (x:=⟨109,no,str a,str b,ByteArray.empty⟩) ((ez.o.setOther _ _ gO).setOther _ _ gO).kM rfl) rfl ⟨iw ((JL ..).symm.trans HN.o.symm),bF ((EY.o.setCell h0.out.2 _).setCell h0.out.2 _) h0.out.1⟩
      ·obtain rfl:c=99:=K0 ‹(c.toNat:Int)=99›;exact bodyPost_ret (bZ (x:=⟨99,no,ByteArray.empty,str a,str b⟩) ((ez.o.setOther _ _ gO).setOther _ _ gO).kM rfl) rfl ⟨iw ((JM ..).symm.trans HN.o.symm),bF ((EY.o.setCell h0.out.2 _).setCell h0.out.2 _) h0.out.1⟩
      ·have hz:=fG (k:=[c]) (no:=no) (a:=a) (b:=b) (r:=[]) (fun h=>K5 ‹¬(c.toNat:Int)=109› h.1) (fun h=>K5 ‹¬(c.toNat:Int)=99› h.1) (fun h=>by cases h.2);exact bodyPost_ret (bZ (x:=Nt.zero) ez.o.kM rfl) rfl ⟨iw (hz.symm.trans HN.o.symm),bF EY.o h0.out.1⟩
      ·have hz:=fG (k:=[c]) (no:=no) (a:=a) (b:=b) (r:=[]) (fun h=>K5 ‹¬(c.toNat:Int)=109› h.1) (fun h=>K5 ‹¬(c.toNat:Int)=99› h.1) (fun h=>by cases h.2);exact bodyPost_ret (bZ (x:=Nt.zero) ez.o.kM rfl) rfl ⟨iw (hz.symm.trans HN.o.symm),bF EY.o h0.out.1⟩
     ·obtain rfl:r=[]:=by have h:=lD.o;have h2:=HL5.o;simp at h;exact List.eq_nil_of_length_eq_zero (by omega)
      have hln:5=ps.length:=by have:=lD.o;simpa using this
      have dI:((ps.length:Int)==4)=false:=by rw[←hln];rfl
      have b9:((ps.length:Int)==5)=true:=by rw[←hln];rfl
      have J1:(4:Int)<ps.length:=by omega
      have d4:=D7.o.fJ 4 (by simp);simp only[List.getElem_cons_zero,List.getElem_cons_succ] at d4;clear hln;have h0:=Um (show w.heap.size≤B2∧w.heap.size≤B7 by omega);go_wp2_with fail
      ·have hz:=fG (k:=[c]) (no:=no) (a:=a) (b:=b) (r:=[x]) (fun h=>by cases h.2) (fun h=>by cases h.2) (fun h=>OC (K0 ‹(c.toNat:Int)=109›) h.1 (by decide));exact bodyPost_ret (bZ (x:=Nt.zero) ez.o.kM rfl) rfl ⟨iw (hz.symm.trans HN.o.symm),bF EY.o h0.out.1⟩
      ·have hz:=fG (k:=[c]) (no:=no) (a:=a) (b:=b) (r:=[x]) (fun h=>by cases h.2) (fun h=>by cases h.2) (fun h=>OC (K0 ‹(c.toNat:Int)=99›) h.1 (by decide));exact bodyPost_ret (bZ (x:=Nt.zero) ez.o.kM rfl) rfl ⟨iw (hz.symm.trans HN.o.symm),bF EY.o h0.out.1⟩
      ·obtain rfl:c=120:=K0 ‹(c.toNat:Int)=120›;exact bodyPost_ret (bZ (x:=⟨120,no,str a,str b,str x⟩) (((ez.o.setOther _ _ gO).setOther _ _ gO).setOther _ _ gO).kM rfl) rfl ⟨iw ((JI ..).symm.trans HN.o.symm),bF (((EY.o.setCell h0.out.2 _).setCell h0.out.2 _).setCell h0.out.2 _) h0.out.1⟩
      ·have hz:=fG (k:=[c]) (no:=no) (a:=a) (b:=b) (r:=[x]) (fun h=>by cases h.2) (fun h=>by cases h.2) (fun h=>K5 ‹¬(c.toNat:Int)=120› h.1);exact bodyPost_ret (bZ (x:=Nt.zero) ez.o.kM rfl) rfl ⟨iw (hz.symm.trans HN.o.symm),bF EY.o h0.out.1⟩
   ·have HN:=Um (show fE s.data.toList=Nt.zero by
     rw[jU.o];show(match iT n0 with|some no=>if 1<(a::b::r).length then sk k0 no (a::b::r) else Nt.zero|none=>Nt.zero)=_
     cases iT n0 with
     |none=>rfl
     |some no=>
      show(if _ then _ else _)=_
      split
      ·exact Et (.inl gP)
      ·rfl)
    have ig:¬((str k0).size:Int)=1:=by rw[aP];omega
    have mD:(((str k0).size:Int) != 1)=true:=by simpa using ig
    clear gP;go_enter Tryz.func79,Tryz.ntmps79;go_wp2_with (go_at_call 126;refine o4.o.mono ?_;rintro e w1 ⟨⟨g,cap,rfl,hO⟩,ar⟩;have cM:=Um (bP.o.ak ar);have kB:=Um (ao oc.o ar);have gm:=cM.o;obtain⟨q0,qf,ql⟩:=gm.facts;have o5:=Um hO;have c0:=hO.fJ 0 (by simp);have c1:=hO.fJ 1 (by simp);simp only[List.getElem_cons_zero,List.getElem_cons_succ] at c0 c1;have hgf:=hO.free.2.2;clear ar gm hO);exact bodyPost_ret (bZ (x:=Nt.zero) cM.o.kM rfl) rfl ⟨iw HN.o.symm,bF kB.o (aa _)⟩
end
section
open Go.RowKit
theorem KF:∀n:Fin 256,(32:UInt8)∉lY (UInt8.ofNat n.val)∧(10:UInt8)∉lY (UInt8.ofNat n.val):=by decide +kernel
theorem EM(c:UInt8):(32:UInt8)∉lY c∧(10:UInt8)∉lY c:=by
 have:=KF ⟨c.toNat,UInt8.toNat_lt c⟩;simpa using this
theorem nK(l:List UInt8):(32:UInt8)∉dC l∧(10:UInt8)∉dC l:=by
 unfold dC;constructor<;>(intro h;obtain⟨c,-,hc⟩:=List.mem_flatMap.1 h)
 ·exact(EM c).1 hc
 ·exact(EM c).2 hc
theorem J8:∀n:Fin 256,lY (UInt8.ofNat n.val)=[UInt8.ofNat n.val]∧UInt8.ofNat n.val≠37∨
  ∃a b,lY (UInt8.ofNat n.val)=[37,a,b]∧dP a≠-1∧dP b≠-1∧UInt8.ofNat (16*dP a+dP b).toNat=UInt8.ofNat n.val:=by
 have key:∀n:Fin 256,((lY (UInt8.ofNat n.val)==[UInt8.ofNat n.val]&&UInt8.ofNat n.val != 37)||(lY (UInt8.ofNat n.val)==[37,kj (n.val / 16),kj (n.val % 16)]&&dP (kj (n.val / 16)) != -1&&dP (kj (n.val % 16)) != -1&&UInt8.ofNat (16*dP (kj (n.val / 16))+dP (kj (n.val % 16))).toNat==UInt8.ofNat n.val))=true:=by decide +kernel
 intro n;have:=key n;simp only[Bool.or_eq_true,Bool.and_eq_true,beq_iff_eq,bne_iff_ne,ne_eq] at this;rcases this with⟨h1,h2⟩|⟨⟨⟨h1,h2⟩,h3⟩,h4⟩
 ·exact .inl ⟨h1,h2⟩
 ·exact .inr ⟨_,_,h1,h2,h3,h4⟩
theorem jv:∀l:List UInt8,cF (dC l)=some l
 | []=>by simp[dC,cF]
 |c::l=>by
  have ih:=jv l;have h:=J8 ⟨c.toNat,UInt8.toNat_lt c⟩;simp only[UInt8.ofNat_toNat] at h;have e:dC (c::l)=lY c++dC l:=rfl;rw[e];rcases h with⟨h1,h2⟩|⟨a,b,h1,h2,h3,h4⟩
  ·rw[h1,List.singleton_append,ly h2,ih];rfl
  ·rw[h1];show cF (37::a::b::dC l)=_;rw[p6,if_neg (by rintro(e|e);exact h2 e;exact h3 e),ih,h4];rfl
theorem G5(n:Int):∀c∈cG n,c=45∨(48≤c.toNat∧c.toNat≤57):=by
 intro c hc;unfold cG at hc
 split at hc
 ·rcases List.mem_cons.1 hc with rfl|hc
  ·exact .inl rfl
  ·exact .inr (fm 10 (by omega) (by omega) _ c hc)
 ·exact .inr (fm 10 (by omega) (by omega) _ c hc)
theorem p7(n:Int):(32:UInt8)∉cG n∧(10:UInt8)∉cG n∧(37:UInt8)∉cG n:=by
 refine⟨fun h=>?_,fun h=>?_,fun h=>?_⟩<;>rcases G5 n _ h with e|⟨e1,e2⟩<;>first|(exact absurd e (by decide))|(exact absurd e1 (by decide))
theorem kv:∀l:List UInt8,(37:UInt8)∉l→cF l=some l
 | [],_=>by simp[cF]
 |c::l,h=>by
  rw[List.mem_cons,not_or] at h;rw[ly (fun e=>h.1 e.symm),kv l h.2];rfl
def ee(x:Nt):List UInt8:=x.kind::32::(cG x.no++(bx x.src++(bx x.dst++bx x.tmp)))
theorem JT(x:Nt):dU x=ee x++[10]:=by simp[dU,ee,List.append_assoc]
theorem gv{s:ByteArray}(h:s.size≠0):bx s=32::dC s.data.toList:=by unfold bx;rw[if_neg h]
theorem sV{s:ByteArray}(h:s.size=0):bx s=[]:=by unfold bx;rw[if_pos h]
theorem sW(s:ByteArray):(10:UInt8)∉bx s:=by
 unfold bx
 split
 ·simp
 ·rw[List.mem_cons,not_or];exact⟨by decide,(nK _).2⟩
theorem JS{x:Nt}(h:dZ x=true):(10:UInt8)∉ee x:=by
 have hk:(10:UInt8)≠x.kind:=fun e=>by
  have:=AR h;rw[←e] at this;simp at this
 unfold ee;simp only[List.mem_cons,List.mem_append,not_or];exact⟨hk,by decide,(p7 _).2.1,sW _,sW _,sW _⟩
theorem ow{s:ByteArray}(h:eQ s=true):s.size≠0:=fun e=>by
 unfold eQ at h;rw[qG e] at h;simp at h
theorem vR{s:ByteArray}(h:s.toList.isEmpty=true):s=ByteArray.empty:=by
 rw[aC] at h;have:s.data.toList=[]:=by simpa using h
 rw[←eC s,this];rfl
theorem RZ{a b c d:List UInt8}{a' b' c' d':List UInt8}(h1:cF a=some a')(h2:cF b=some b')(h3:cF c=some c')(h4:cF d=some d'):[a,b,c,d].mapM cF=some [a',b',c',d']:=by
 simp[List.mapM_cons,h1,h2,h3,h4]
theorem RY{a b c d e:List UInt8}{a' b' c' d' e':List UInt8}(h1:cF a=some a')(h2:cF b=some b')(h3:cF c=some c')(h4:cF d=some d')(h5:cF e=some e'):[a,b,c,d,e].mapM cF=some [a',b',c',d',e']:=by
 simp[List.mapM_cons,h1,h2,h3,h4,h5]
theorem Ft{k n a b:List UInt8}(hk:(32:UInt8)∉k)(hn:(32:UInt8)∉n)(ha:(32:UInt8)∉a)(hb:(32:UInt8)∉b):dB 32 (k++32::(n++32::(a++32::b)))=[k,n,a,b]:=by
 rw[gu,gu,gu,dK _ _ hk,dK _ _ hn,dK _ _ ha,dK _ _ hb];rfl
theorem Fq{k n a b c:List UInt8}(hk:(32:UInt8)∉k)(hn:(32:UInt8)∉n)(ha:(32:UInt8)∉a)(hb:(32:UInt8)∉b)(hc:(32:UInt8)∉c):dB 32 (k++32::(n++32::(a++32::(b++32::c))))=[k,n,a,b,c]:=by
 rw[gu,gu,gu,gu,dK _ _ hk,dK _ _ hn,dK _ _ ha,dK _ _ hb,dK _ _ hc];rfl
theorem rN(k:UInt8)(no:Int)(a b:ByteArray)(hk:k≠32)(ig:k≠37)(l:List UInt8)(hl:l=k::32::(cG no++(32::dC a.data.toList++(32::dC b.data.toList)))) :
  (dB 32 l).mapM cF=some [[k],cG no,a.data.toList,b.data.toList]:=by
 have e:l=[k]++32::(cG no++32::(dC a.data.toList++32::dC b.data.toList)):=by rw[hl];simp
 rw[e,Ft (by simpa using Ne.symm hk) (p7 _).1 (nK _).1 (nK _).1];exact RZ (kv _ (by simpa using Ne.symm ig)) (kv _ (p7 _).2.2) (jv _) (jv _)
theorem AU(k:UInt8)(no:Int)(a b c:ByteArray)(hk:k≠32)(ig:k≠37)(l:List UInt8)(hl:l=k::32::(cG no++(32::dC a.data.toList++(32::dC b.data.toList++(32::dC c.data.toList))))) :
  (dB 32 l).mapM cF=some [[k],cG no,a.data.toList,b.data.toList,c.data.toList]:=by
 have e:l=[k]++32::(cG no++32::(dC a.data.toList++32::(dC b.data.toList++32::dC c.data.toList))):=by rw[hl];simp
 rw[e,Fq (by simpa using Ne.symm hk) (p7 _).1 (nK _).1 (nK _).1 (nK _).1];exact RY (kv _ (by simpa using Ne.symm ig)) (kv _ (p7 _).2.2) (jv _) (jv _) (jv _)
theorem tS{x:Nt}(h:dZ x=true)(h0:-9223372036854775808≤x.no)(h1:x.no≤9223372036854775807):fE (ee x)=x:=by
 obtain⟨k,no,src,dst,tmp⟩:=x;simp only at h0 h1;have hm:=h;unfold dZ at h;simp only at h
 split at h
 ·rename_i hk;simp only[Bool.and_eq_true] at h;obtain⟨⟨⟨h2,h3⟩,h4⟩,-⟩:=h;obtain rfl:=vR h4;obtain rfl:k=109:=UInt8.toNat_inj.1 hk;have hw:=rN 109 no src dst (by decide) (by decide) (ee ⟨109,no,src,dst,ByteArray.empty⟩) (by
   unfold ee;simp only[gv (ow h2),gv (ow h3),sV (s:=ByteArray.empty) rfl,List.append_nil])
  unfold fE;rw[hw];simp only[QF,nu no h0 h1];rw[if_pos (by simp),JL,eC,eC]
 ·split at h
  ·rename_i hk;simp only[Bool.and_eq_true] at h;obtain⟨⟨⟨h2,h3⟩,h4⟩,-⟩:=h;obtain rfl:=vR h2;obtain rfl:k=99:=UInt8.toNat_inj.1 hk;have hw:=rN 99 no dst tmp (by decide) (by decide) (ee ⟨99,no,ByteArray.empty,dst,tmp⟩) (by
    unfold ee;simp only[gv (ow h3),gv (ow h4),sV (s:=ByteArray.empty) rfl,List.nil_append])
   unfold fE;rw[hw];simp only[QF,nu no h0 h1];rw[if_pos (by simp),JM,eC,eC]
  ·simp only[Bool.and_eq_true,decide_eq_true_eq] at h;obtain⟨⟨⟨⟨hk,h2⟩,h3⟩,h4⟩,-⟩:=h;obtain rfl:k=120:=UInt8.toNat_inj.1 hk;have hw:=AU 120 no src dst tmp (by decide) (by decide) (ee ⟨120,no,src,dst,tmp⟩) (by
    unfold ee;simp only[gv (ow h2),gv (ow h3),gv (ow h4)])
   unfold fE;rw[hw];simp only[QF,nu no h0 h1];rw[if_pos (by simp),JI,eC,eC,eC]
theorem Dc{x:Nt}(h:dZ x=true)(h0:-9223372036854775808≤x.no)(h1:x.no≤9223372036854775807):ib (ee x)=some x:=by
 rw[wM,tS h h0 h1,if_pos h]
end
section
open Go.RowKit
def jG(out:List (List Nt×UInt8))(h:0<out.length)(f:List Nt×UInt8→List Nt×UInt8):List (List Nt×UInt8):=out.set (out.length-1) (f out[out.length-1])
def eN(out:List (List Nt×UInt8))(t:List UInt8):Option (List (List Nt×UInt8)):=
 if t=[103] then some (out++[([],0)])
 else if h:0<out.length then
  if out[out.length-1].2≠0 then none
  else if t=[101]∨t=[100]∨t=[117] then some (jG out h fun g=>(g.1,t.headD 0))
  else(ib t).map fun x=>jG out h fun g=>(g.1++[x],g.2)
 else none
def fu(out:List (List Nt×UInt8))(t:List UInt8):Option (List (List Nt×UInt8)):=
 if t=[103] then some (out++[([],0)])
 else if t=[] then some out
 else if h:0<out.length then
  if t.length=1 then some (jG out h fun g=>(g.1,t.headD 0))
  else some (jG out h fun g=>(g.1++[fE t],g.2))
 else none
theorem iD(out:List (List Nt×UInt8))(g:List Nt×UInt8)(f:List Nt×UInt8→List Nt×UInt8)(h:0<(out++[g]).length):jG (out++[g]) h f=out++[f g]:=by
 unfold jG;simp
theorem Eb(out:List (List Nt×UInt8))(h:0<out.length):∃o g,out=o++[g]:=⟨out.dropLast,out.getLast (by rintro rfl;simp at h),(List.dropLast_concat_getLast _).symm⟩
theorem nH{α β:Type}(f:β→α→Option β)(b:β)(l:List α)(x:α):(l++[x]).foldlM f b=(l.foldlM f b).bind fun y=>f y x:=by
 rw[List.foldlM_append]
 cases List.foldlM f b l with
 |none=>rfl
 |some y=>simp
def lO(ls:List (List UInt8)):Nat:=(ls.map fun t=>t.length+1).sum
theorem qs(ls:List (List UInt8))(t:List UInt8):lO (ls++[t])=lO ls+(t.length+1):=by simp[lO]
theorem j1(a b:List (List UInt8)):lO (a++b)=lO a+lO b:=by simp[lO]
theorem sR(c:UInt8)(l:List UInt8):lO (dB c l)=l.length+1:=by
 refine gU (P:=fun l=>lO (dB c l)=l.length+1) rfl (fun l x ih=>?_) l;have h0:=(dM c l).1;rw[ei];unfold dX
 split
 ·rw[qs,ih];simp
 ·obtain⟨o,g,hg⟩:∃o g,dB c l=o++[g]:=⟨(dB c l).dropLast,(dB c l).getLast (by intro e;rw[e] at h0;simp at h0),(List.dropLast_concat_getLast _).symm⟩;rw[hg] at ih⊢;rw[List.length_append,List.length_singleton,List.getD_eq_getElem?_getD];simp only[Nat.add_sub_cancel,List.getElem?_concat_length,Option.getD_some];rw[List.set_append_right _ _ (aa _)];simp only[Nat.sub_self,ai];rw[qs] at ih⊢;simp;omega
structure fV(n:Nat)(out:List (List Nt×UInt8)):Prop where
 len:out.length≤n
 notes:∀g∈out,g.1.length≤n∧∀x∈g.1,x.Ok
 text:(aI out).length≤40*n
theorem ou(out:List (List Nt×UInt8))(g:List Nt×UInt8):aI (out++[g])=aI out++fq g:=by simp[aI]
theorem qv(s:ByteArray):(bx s).length≤1+3*s.size:=by
 unfold bx
 split
 ·simp
 ·have:=gW s.data.toList;rw[show s.data.toList.length=s.size from Array.length_toList] at this;rw[List.length_cons];omega
theorem wU{x:Nt}{m:Nat}(h:x.Ok)(h1:x.src.size≤m)(h2:x.dst.size≤m)(h3:x.tmp.size≤m):(dU x).length≤27+9*m:=by
 have a:=qv x.src;have b:=qv x.dst;have c:=qv x.tmp;have d:=(p8 x.no h.n0 h.n1).1;unfold dU;simp only[List.length_cons,List.length_append,List.length_nil];omega
def TB(m:Nat)(x:Nt):Prop:=x.src.size≤m∧x.dst.size≤m∧x.tmp.size≤m
theorem JJ{k:List UInt8}{no:Int}{m:Nat}:∀{r:List (List UInt8)},(∀y∈r,y.length≤m)→TB m (sk k no r):=by
 intro r h;have hz:TB m ⟨0,0,ByteArray.empty,ByteArray.empty,ByteArray.empty⟩:=⟨Nat.zero_le _,Nat.zero_le _,Nat.zero_le _⟩;have hs:∀y∈r,(str y).size≤m:=fun y hy=>by rw[aP];exact h y hy
 rcases r with _|⟨a,_|⟨b,_|⟨c,_|⟨d,r⟩⟩⟩⟩
 ·exact hz
 ·exact hz
 ·have ha:=hs a (by simp);have hb:=hs b (by simp);show TB m (if _ then _ else if _ then _ else _)
  split
  ·exact⟨ha,hb,Nat.zero_le _⟩
  ·split
   ·exact⟨Nat.zero_le _,ha,hb⟩
   ·exact hz
 ·show TB m (if _ then _ else _)
  split
  ·exact⟨hs a (by simp),hs b (by simp),hs c (by simp)⟩
  ·exact hz
 ·exact hz
theorem oJ(t:List UInt8)(ht:t.length≤2000000):(fE t).Ok∧(fE t).src.size≤t.length∧(fE t).dst.size≤t.length∧(fE t).tmp.size≤t.length:=by
 have hz:Nt.zero.Ok∧Nt.zero.src.size≤t.length∧Nt.zero.dst.size≤t.length∧Nt.zero.tmp.size≤t.length:=⟨⟨Nat.zero_le _,Nat.zero_le _,Nat.zero_le _,by decide,by decide⟩,Nat.zero_le _,Nat.zero_le _,Nat.zero_le _⟩;unfold fE
 cases hw:(dB 32 t).mapM cF with
 |none=>exact hz
 |some ws=>
  have hs:=om hw;rcases ws with _|⟨k,_|⟨n,r⟩⟩
  ·exact hz
  ·exact hz
  ·have hr:∀y∈r,y.length≤t.length:=fun y hy=>hs y (List.mem_cons_of_mem _ (List.mem_cons_of_mem _ hy));simp only[QF]
   cases hn:iT n with
   |none=>exact hz
   |some no=>
    obtain⟨n0,n1,-⟩:=Da hn;show(if 1<r.length then sk k no r else Nt.zero).Ok∧TB t.length (if 1<r.length then sk k no r else Nt.zero)
    split
    ·exact⟨JK (fun y hy=>ae (hr y hy) ht) n0 n1,JJ hr⟩
    ·exact hz
theorem fV.new{n:Nat}{out:List (List Nt×UInt8)}(h:fV n out)(m:Nat)(hm:1≤m):fV (n+m) (out++[([],0)]):=by
 refine⟨by have:=h.len;simp;omega,fun g hg=>?_,?_⟩
 ·rcases List.mem_append.1 hg with hg|hg
  ·have:=h.notes g hg;exact⟨ae this.1 (by omega),this.2⟩
  ·simp at hg;subst hg;exact⟨Nat.zero_le _,fun x hx=>by simp at hx⟩
 ·have:=h.text;rw[ou,List.length_append];have e:(fq ([],0)).length=2:=rfl;omega
theorem fV.mono{n m:Nat}{out:List (List Nt×UInt8)}(h:fV n out)(hm:n≤m):fV m out:=⟨ae h.len hm,fun g hg=>⟨ae (h.notes g hg).1 hm,(h.notes g hg).2⟩,by have:=h.text;omega⟩
theorem uG(f:UInt8):(iG f).length≤2:=by unfold iG;split<;>simp
theorem fV.fin{n:Nat}{out:List (List Nt×UInt8)}(h:fV n out)(m:Nat)(hm:1≤m)(h0:0<out.length)(f:UInt8):fV (n+m) (jG out h0 fun g=>(g.1,f)):=by
 obtain⟨o,g,rfl⟩:=Eb out h0;rw[iD];refine⟨by have:=h.len;simp at this⊢;omega,fun x hx=>?_,?_⟩
 ·rcases List.mem_append.1 hx with hx|hx
  ·have:=h.notes x (List.mem_append.2 (.inl hx));exact⟨ae this.1 (by omega),this.2⟩
  ·simp at hx;subst hx;have:=h.notes g (by simp);exact⟨ae this.1 (by omega),this.2⟩
 ·have:=h.text;rw[ou,List.length_append] at this⊢;have e1:=uG f;unfold fq at this⊢;simp only[List.length_cons,List.length_append] at this⊢;omega
theorem fV.note{n:Nat}{out:List (List Nt×UInt8)}(h:fV n out)(m:Nat)(h0:0<out.length)(x:Nt)(hx:x.Ok)(h1:x.src.size≤m)(h2:x.dst.size≤m)(h3:x.tmp.size≤m):fV (n+(m+1)) (jG out h0 fun g=>(g.1++[x],g.2)):=by
 obtain⟨o,g,rfl⟩:=Eb out h0;rw[iD];refine⟨by have:=h.len;simp at this⊢;omega,fun y hy=>?_,?_⟩
 ·rcases List.mem_append.1 hy with hy|hy
  ·have:=h.notes y (List.mem_append.2 (.inl hy));exact⟨ae this.1 (by omega),this.2⟩
  ·simp at hy;subst hy;have:=h.notes g (by simp);refine⟨by have:=this.1;simp;omega,fun z hz=>?_⟩;rcases List.mem_append.1 hz with hz|hz
   ·exact this.2 z hz
   ·simp at hz;subst hz;exact hx
 ·have:=h.text;have hl:=wU hx h1 h2 h3;rw[ou,List.length_append] at this⊢;unfold fq at this⊢;simp only[List.length_cons,List.length_append,List.flatMap_append,List.flatMap_cons,List.flatMap_nil,List.append_nil] at this⊢;omega
theorem s8{n:Nat}{out out':List (List Nt×UInt8)}{t:List UInt8}(ht:t.length≤2000000)(h:fV n out)(hs:eN out t=some out'):fV (n+(t.length+1)) out':=by
 unfold eN at hs
 split at hs
 ·injection hs with hs;subst hs;exact h.new _ (by omega)
 ·split at hs
  ·rename_i h0
   split at hs
   ·cases hs
   ·split at hs
    ·injection hs with hs;subst hs;exact h.fin _ (by omega) h0 _
    ·rw[wM] at hs
     split at hs
     ·simp only[Option.map_some] at hs;injection hs with hs;subst hs;obtain⟨a,b,c,d⟩:=oJ t ht;exact h.note _ h0 _ a b c d
     ·cases hs
  ·cases hs
theorem zS{n:Nat}{out out':List (List Nt×UInt8)}{t:List UInt8}(ht:t.length≤2000000)(h:fV n out)(hs:fu out t=some out'):fV (n+(t.length+1)) out':=by
 unfold fu at hs
 split at hs
 ·injection hs with hs;subst hs;exact h.new _ (by omega)
 ·split at hs
  ·injection hs with hs;subst hs;exact h.mono (by omega)
  ·split at hs
   ·rename_i h0
    split at hs
    ·injection hs with hs;subst hs;exact h.fin _ (by omega) h0 _
    ·injection hs with hs;subst hs;obtain⟨a,b,c,d⟩:=oJ t ht;exact h.note _ h0 _ a b c d
   ·cases hs
theorem pT{step:List (List Nt×UInt8)→List UInt8→Option (List (List Nt×UInt8))}(hstep:∀{n out out' t},t.length≤2000000→fV n out→step out t=some out'→fV (n+(t.length+1)) out')(ls:List (List UInt8)):(∀t∈ls,t.length≤2000000)→∀{out},ls.foldlM step []=some out→fV (lO ls) out:=by
 refine gU (P:=fun ls=>(∀t∈ls,t.length≤2000000)→∀{out},ls.foldlM step []=some out→fV (lO ls) out) (fun _ {out} h=>?_) (fun ls t ih hl {out} h=>?_) ls
 ·simp at h;subst h;exact⟨Nat.zero_le _,fun g hg=>by simp at hg,by simp[aI]⟩
 ·rw[nH] at h
  cases hf:ls.foldlM step [] with
  |none=>rw[hf] at h;cases h
  |some o=>
   rw[hf] at h;rw[qs];exact hstep (hl t (by simp)) (ih (fun t ht=>hl t (by simp[ht])) hf) h
end
section
open Go.RowKit
def oL(g:List Nt×UInt8):List (List UInt8):=[103]::(g.1.map ee++(if g.2.toNat=0 then[] else[[g.2]]))
def eU(gs:List (List Nt×UInt8)):List (List UInt8):=gs.flatMap oL
def ends(ls:List (List UInt8)):List UInt8:=ls.flatMap fun t=>t++[10]
theorem mM(a b:List (List UInt8)):ends (a++b)=ends a++ends b:=by simp[ends]
theorem DI(g:List Nt×UInt8):ends (oL g)=fq g:=by
 have h1:∀xs:List Nt,ends (xs.map ee)=xs.flatMap dU:=fun xs=>by
  induction xs with
  |nil=>rfl
  |cons x xs ih=>
   have:ends ((x::xs).map ee)=(ee x++[10])++ends (xs.map ee):=rfl;rw[this,ih,←JT,List.flatMap_cons]
 have h2:ends (if g.2.toNat=0 then[] else[[g.2]])=iG g.2:=by
  unfold iG
  split<;>rfl
 have h3:ends (oL g)=[103,10]++ends (g.1.map ee++(if g.2.toNat=0 then[] else[[g.2]])):=rfl;rw[h3,mM,h1,h2];rfl
theorem nI(gs:List (List Nt×UInt8)):ends (eU gs)=aI gs:=by
 induction gs with
 |nil=>rfl
 |cons g gs ih=>
  have:eU (g::gs)=oL g++eU gs:=by simp[eU]
  rw[this,mM,DI,ih];simp[aI]
theorem td:∀ls:List (List UInt8),(∀t∈ls,(10:UInt8)∉t)→dB 10 (ends ls)=ls++[[]]
 | [],_=>rfl
 |t::ls,h=>by
  have:ends (t::ls)=t++10::ends ls:=by simp[ends]
  rw[this,gu,dK _ _ (h t (by simp)),td ls (fun t ht=>h t (by simp[ht]))];rfl
theorem AT{gs:List (List Nt×UInt8)}(h:bU gs=true):∀t∈eU gs,(10:UInt8)∉t:=by
 intro t ht;obtain⟨g,hg,ht⟩:=List.mem_flatMap.1 ht;obtain⟨h1,h2,h3⟩:=eW h g hg;unfold oL at ht;rcases List.mem_cons.1 ht with rfl|ht
 ·decide
 ·rcases List.mem_append.1 ht with ht|ht
  ·obtain⟨x,hx,rfl⟩:=List.mem_map.1 ht;exact JS (List.all_eq_true.1 h1 x hx)
  ·split at ht
   ·simp at ht
   ·simp at ht;subst ht;intro e;simp at e;rw[←e] at h3;simp at h3
def mV(gs:List (List Nt×UInt8)):Prop:=∀g∈gs,∀x∈g.1,-9223372036854775808≤x.no∧x.no≤9223372036854775807
theorem uc(x:Nt):2≤(ee x).length:=by unfold ee;simp
theorem CF{o:List (List Nt×UInt8)}{ns:List Nt}{x:Nt}(h:dZ x=true)(h0:-9223372036854775808≤x.no)(h1:x.no≤9223372036854775807):eN (o++[(ns,0)]) (ee x)=some (o++[(ns++[x],0)]):=by
 have hl:=uc x;have hne:∀c:UInt8,ee x≠[c]:=fun c e=>by rw[e] at hl;simp at hl
 unfold eN;rw[if_neg (hne _),dif_pos (by simp),if_neg (by simp),if_neg (by rintro(e|e|e)<;>exact hne _ e),Dc h h0 h1];simp only[Option.map_some,iD]
theorem CE{o:List (List Nt×UInt8)}{ns:List Nt}{x:Nt}(h:dZ x=true)(h0:-9223372036854775808≤x.no)(h1:x.no≤9223372036854775807):fu (o++[(ns,0)]) (ee x)=some (o++[(ns++[x],0)]):=by
 have hl:=uc x;have hne:∀c:UInt8,ee x≠[c]:=fun c e=>by rw[e] at hl;simp at hl
 unfold fu;rw[if_neg (hne _),if_neg (fun e=>by rw[e] at hl;simp at hl),dif_pos (by simp),if_neg (by omega),tS h h0 h1];simp only[iD]
theorem Fl{o:List (List Nt×UInt8)}{ns:List Nt}{f:UInt8}(h:f.toNat=101∨f.toNat=100∨f.toNat=117):eN (o++[(ns,0)]) [f]=some (o++[(ns,f)]):=by
 have hf:f=101∨f=100∨f=117:=h.imp UInt8.toNat_inj.1 (Or.imp UInt8.toNat_inj.1 UInt8.toNat_inj.1);unfold eN;rw[if_neg (by rcases hf with rfl|rfl|rfl<;>decide),dif_pos (by simp),if_neg (by simp),if_pos (by rcases hf with rfl|rfl|rfl<;>decide)];simp only[iD,List.headD_cons]
theorem stepR_end{o:List (List Nt×UInt8)}{ns:List Nt}{f:UInt8}(h:f.toNat=101∨f.toNat=100∨f.toNat=117):fu (o++[(ns,0)]) [f]=some (o++[(ns,f)]):=by
 have hf:f=101∨f=100∨f=117:=h.imp UInt8.toNat_inj.1 (Or.imp UInt8.toNat_inj.1 UInt8.toNat_inj.1);unfold fu;rw[if_neg (by rcases hf with rfl|rfl|rfl<;>decide),if_neg (by simp),dif_pos (by simp),if_pos (show[f].length=1 from rfl)];simp only[iD,List.headD_cons]
section
variable{step:List (List Nt×UInt8)→List UInt8→Option (List (List Nt×UInt8))}
theorem uw(hn:∀{o ns x},dZ x=true→-9223372036854775808≤x.no→x.no≤9223372036854775807→step (o++[(ns,0)]) (ee x)=some (o++[(ns++[x],0)]))(o:List (List Nt×UInt8)) :
  ∀(xs ns:List Nt),xs.all dZ=true→(∀x∈xs,-9223372036854775808≤x.no∧x.no≤9223372036854775807)→(xs.map ee).foldlM step (o++[(ns,0)])=some (o++[(ns++xs,0)])
 | [],ns,_,_=>by simp
 |x::xs,ns,h,hr=>by
  rw[List.all_cons,Bool.and_eq_true] at h;have hx:=hr x (by simp);rw[List.map_cons,List.foldlM_cons,hn h.1 hx.1 hx.2];show(xs.map ee).foldlM step (o++[(ns++[x],0)])=_;rw[uw hn o xs (ns++[x]) h.2 (fun y hy=>hr y (by simp[hy]))];simp
theorem lq(hg:∀o,step o [103]=some (o++[([],0)]))(hn:∀{o ns x},dZ x=true→-9223372036854775808≤x.no→x.no≤9223372036854775807→step (o++[(ns,0)]) (ee x)=some (o++[(ns++[x],0)]))
  (he:∀{o ns f},f.toNat=101∨f.toNat=100∨f.toNat=117→step (o++[(ns,0)]) [f]=some (o++[(ns,f)])) :
  ∀(gs o:List (List Nt×UInt8)),(∀g∈gs,g.1.all dZ=true∧(g.2.toNat=101∨g.2.toNat=0∨g.2.toNat=100∨g.2.toNat=117))→mV gs→(eU gs).foldlM step o=some (o++gs)
 | [],o,_,_=>by simp[eU]
 |(ns,f)::gs,o,h,hr=>by
  have hL:eU ((ns,f)::gs)=[103]::(ns.map ee++((if f.toNat=0 then[] else[[f]])++eU gs)):=by simp[eU,oL]
  obtain⟨h1,h2⟩:=h (ns,f) (by simp);rw[hL,List.foldlM_cons,hg];show(ns.map ee++_).foldlM step (o++[([],0)])=_;rw[List.foldlM_append,uw hn o ns [] h1 (hr (ns,f) (by simp))];show(_++eU gs).foldlM step (o++[([]++ns,0)])=_;rw[List.nil_append];by_cases hf:f.toNat=0
  ·rw[if_pos hf,List.nil_append,lq hg hn he gs _ (fun g hg=>h g (by simp[hg])) (fun g hg=>hr g (by simp[hg]))];have:f=0:=UInt8.toNat_inj.1 hf;subst this;simp
  ·rw[if_neg hf,List.singleton_append,List.foldlM_cons,he (by simp only at h2;omega)];show(eU gs).foldlM step (o++[(ns,f)])=_;rw[lq hg hn he gs _ (fun g hg=>h g (by simp[hg])) (fun g hg=>hr g (by simp[hg]))];simp
end
theorem Bk{gs:List (List Nt×UInt8)}(h:bU gs=true)(hr:mV gs):(eU gs).foldlM eN []=some gs:=by
 have:=lq (step:=eN) (fun o=>by unfold eN;rw[if_pos rfl]) CF Fl gs [] (fun g hg=>⟨(eW h g hg).1,(eW h g hg).2.2⟩) hr;simpa using this
theorem Bj{gs:List (List Nt×UInt8)}(h:bU gs=true)(hr:mV gs):(eU gs).foldlM fu []=some gs:=by
 have:=lq (step:=fu) (fun o=>by unfold fu;rw[if_pos rfl]) CE stepR_end gs [] (fun g hg=>⟨(eW h g hg).1,(eW h g hg).2.2⟩) hr;simpa using this
def dm(s:List UInt8):Option (List (List Nt×UInt8)):=
 if s=[] then some [] else((dB 10 (Lib.trimSuffix s [10])).foldlM eN []).bind fun out=>if ca out=s then some out else none
def iS(s:List UInt8):Option (List (List Nt×UInt8)):=((dB 10 s).foldlM fu []).bind fun out=>if ca out=s then some out else none
theorem rK{gs:List (List Nt×UInt8)}(h:bU gs=true)(hr:mV gs):dm (aI gs)=some gs:=by
 unfold dm;by_cases h0:gs=[]
 ·subst h0;rfl
 ·obtain⟨ls,t,hl⟩:∃ls t,eU gs=ls++[t]:=by
   have hne:eU gs≠[]:=by
    cases gs with
    |nil=>exact absurd rfl h0
    |cons g gs=>simp[eU,oL]
   exact⟨_,_,(List.dropLast_concat_getLast hne).symm⟩
  have hno:=AT h;have ht:aI gs=(ends ls++t)++[10]:=by
   rw[←nI,hl,mM];simp[ends]
  rw[if_neg (by rw[ht];simp)];have h1:Lib.trimSuffix (aI gs) [10]=ends ls++t:=by
   rw[ht];unfold Lib.trimSuffix Lib.hasSuffix;rw[if_pos (List.isSuffixOf_iff_suffix.2 (List.suffix_append _ _)),List.take_left' (by simp)]
  have h2:dB 10 (ends ls++t)=eU gs:=by
   have h3:=td (eU gs) hno;rw[nI,ht,gu] at h3;exact(List.append_inj' h3 rfl).1
  rw[h1,h2,Bk h hr];show(if ca gs=aI gs then some gs else none)=_;rw[if_pos (by unfold ca;rw[h];rfl)]
theorem AA{gs:List (List Nt×UInt8)}(h:bU gs=true)(hr:mV gs):iS (aI gs)=some gs:=by
 unfold iS;rw[←nI,td _ (AT h),nH,Bj h hr,nI];show(Option.bind (fu gs []) _)=_;have:fu gs []=some gs:=by unfold fu;rw[if_neg (by simp),if_pos rfl]
 rw[this];show(if ca gs=aI gs then some gs else none)=_;rw[if_pos (by unfold ca;rw[h];rfl)]
theorem ox{s:List UInt8}(hs:s.length≤2000000):∀t∈dB 10 s,t.length≤2000000:=fun t ht=>ae (fA 10 s t ht) hs
theorem Ep{n:Nat}{out:List (List Nt×UInt8)}(h:fV n out):mV out:=fun g hg x hx=>⟨((h.notes g hg).2 x hx).n0,((h.notes g hg).2 x hx).n1⟩
theorem zL(s:List UInt8):(Lib.trimSuffix s [10]).length≤s.length:=by
 unfold Lib.trimSuffix
 split
 ·rw[List.length_take];omega
 ·omega
theorem tL(s:List UInt8)(hs:s.length≤2000000):dm s=iS s:=by
 by_cases h0:s=[]
 ·subst h0;rfl
 have keyP:∀out,dm s=some out→ca out=s∧mV out:=fun out h=>by
  unfold dm at h;rw[if_neg h0] at h
  cases hf:(dB 10 (Lib.trimSuffix s [10])).foldlM eN [] with
  |none=>rw[hf] at h;cases h
  |some o=>
   rw[hf] at h;simp only[Option.bind_some] at h
   split at h
   ·rename_i hw;injection h with h;subst h;exact⟨hw,Ep (pT s8 _ (ox (ae (zL s) hs)) hf)⟩
   ·cases h
 have keyR:∀out,iS s=some out→ca out=s∧mV out:=fun out h=>by
  unfold iS at h
  cases hf:(dB 10 s).foldlM fu [] with
  |none=>rw[hf] at h;cases h
  |some o=>
   rw[hf] at h;simp only[Option.bind_some] at h
   split at h
   ·rename_i hw;injection h with h;subst h;exact⟨hw,Ep (pT zS _ (ox hs) hf)⟩
   ·cases h
 have fg:∀out,ca out=s→bU out=true∧aI out=s:=fun out h=>by
  unfold ca at h
  split at h
  ·rename_i hf;exact⟨hf,h⟩
  ·exact absurd h.symm h0
 cases hp:dm s with
 |some out=>
  obtain⟨h1,h2⟩:=keyP out hp;obtain⟨h3,h4⟩:=fg out h1;rw[←h4,AA h3 h2]
 |none=>
  cases hr:iS s with
  |none=>rfl
  |some out=>
   obtain⟨h1,h2⟩:=keyR out hr;obtain⟨h3,h4⟩:=fg out h1;rw[←h4,rK h3 h2] at hp
   cases hp
end
section
open Go.RowKit
def pX(x:Nt):Bool:=decide (x.src.size≤300)&&decide (x.dst.size≤300)&&decide (x.tmp.size≤300)
def mJ(g:Gr):Bool:=decide (g.notes.length≤4)&&g.notes.all pX
def qU(gs:List Gr):Bool:=gs.all mJ&&decide (gs.length≤8)
theorem DG(x:Nt):((300:Int)<x.src.size∧pX x=false)∨(¬(300:Int)<x.src.size∧(300:Int)<x.dst.size∧pX x=false)∨(¬(300:Int)<x.src.size∧¬(300:Int)<x.dst.size∧(300:Int)<x.tmp.size∧pX x=false)∨
  (¬(300:Int)<x.src.size∧¬(300:Int)<x.dst.size∧¬(300:Int)<x.tmp.size∧pX x=true):=by
 unfold pX;simp only[Bool.and_eq_true,Bool.and_eq_false_iff,decide_eq_true_eq,decide_eq_false_iff_not];omega
theorem Kv(gs:List Gr)(k:Nat)(hk:k<gs.length):(gs.drop k).all mJ=(mJ gs[k]&&(gs.drop (k+1)).all mJ):=by
 rw[List.drop_eq_getElem_cons hk,List.all_cons]
theorem GX(gs:List Nt)(k:Nat)(hk:k<gs.length):(gs.drop k).all pX=(pX gs[k]&&(gs.drop (k+1)).all pX):=by
 rw[List.drop_eq_getElem_cons hk,List.all_cons]
theorem ND(a:Option Addr)(c:Nat)(gs:List Gr)(w:World)(hG:j0 w a c gs) :
  Calls Tryz.prog 7 #[.slice a gs.length c] w fun e w'=>e=.returned (.bool (qU gs))∧Up w w':=by
 have HG:=Um hG;have hlen:gs.length≤9223372036854775807:=ae hG.sl.2.1 hG.sl.2.2.1;clear hG;go_enter Tryz.func7,Tryz.ntmps7;go_wp2_with fail
 go_loopw [3] (fun t9 wr=>∃(k:Nat),k≤gs.length∧t9=.int .i64 k∧gs.all mJ=(gs.drop k).all mJ∧Up w wr) (fun t9 _=>gs.length-(intOf t9).toNat)
 case atStart=>exact⟨0,Nat.zero_le _,rfl,rfl,Below.refl _ _⟩
 case round=>
  obtain⟨k,hk,rfl,hfin,hW⟩:=hrel;have HF:=Um hfin;have HW:=Um hW;clear hfin;by_cases hlt:k<gs.length
  ·have km:=HG.o.below hW (aa _);obtain⟨b,off,rfl⟩:=km.addr (by omega);obtain⟨c0,c1,cl⟩:=km.cells k hlt;have L4:=Um km;have hA:=km.at' gs[k] (List.getElem_mem _);have HS:=Um (Kv gs k hlt);have HC:=Um (fun W (h:j0 W (some ⟨b,off,none⟩) c gs)=>h.cells k hlt);generalize gs[k]=g at c0 c1 hA HS HC;have hn:g.notes.length≤9223372036854775807:=ae hA.2.1 hA.2.2.1;have HA:=Um hA;clear km hA hW;by_cases hz:(4:Int)<g.notes.length
   ·have HZ:=Um (show mJ g=false by unfold mJ;rw[decide_eq_false (by omega)];rfl);go_wp2_with fail;go_ret;refine⟨aZ ?_,HW.o⟩;unfold qU;rw[HF.o,HS.o,HZ.o];rfl
   ·have HZ:=Um (show mJ g=g.notes.all pX by unfold mJ;rw[decide_eq_true (by omega)];rfl);go_wp2_with fail;clear c0 c1 cl
    go_loopw [4] (fun t17 w2=>∃(j:Nat),j≤g.notes.length∧t17=.int .i64 j∧g.notes.all pX=(g.notes.drop j).all pX∧Up wr w2) (fun t17 _=>g.notes.length-(intOf t17).toNat)
    case atStart=>exact⟨0,Nat.zero_le _,rfl,rfl,Below.refl _ _⟩
    case round=>
     obtain⟨j,hj,rfl,hall,nF⟩:=hrel;have jZ:=Um hall;have jc:=Um nF;clear hall;obtain⟨c0,c1,cl⟩:=HC.o _ (L4.o.below nF (aa _));have jk:=HA.o.below nF (aa _);by_cases hjl:j<g.notes.length
     ·obtain⟨nb,no,hna⟩:=jk.addr (by omega);obtain⟨d0,d1,d2,d3,d4,dl⟩:=jk.cells hna j hjl;have gr:=Um (GX g.notes j hjl);generalize g.notes[j]=x at d0 d1 d2 d3 d4 gr;clear jk nF;rw[hna] at c0;clear hna;rcases DG x with⟨e1,hr⟩|⟨e1,e2,hr⟩|⟨e1,e2,e3,hr⟩|⟨e1,e2,e3,hr⟩
      all_goals
       have HM:=Um hr;clear hr;go_wp2_with fail
       first
       |(go_ret
         refine⟨aZ ?_,ao HW.o (ao jc.o (al (Below.refl _ _) _))⟩;unfold qU;rw[HF.o,HS.o,HZ.o,jZ.o,gr.o,HM.o];rfl)
       |(go_roundw
         case measure=>simp[intOf];omega
         case rel=>exact⟨j+1,by omega,by go_num,by rw[jZ.o,gr.o,HM.o];rfl,ao jc.o (al (Below.refl _ _) _)⟩)
     ·obtain rfl:j=g.notes.length:=by omega
      have Lf:=Um (show mJ g=true by rw[HZ.o,jZ.o];simp);have Hq:=Um (ao HW.o jc.o);clear nF jk jc jZ;go_wp2_with fail;go_roundw
      case measure=>simp[intOf];omega
      case rel=>exact⟨k+1,by omega,by go_num,by rw[HF.o,HS.o,Lf.o];rfl,Hq.o⟩
  ·obtain rfl:k=gs.length:=by omega
   have Ob:=Um (show gs.all mJ=true by rw[HF.o];simp);by_cases h8:(gs.length:Int)≤8
   all_goals
    have H8:=Um h8;go_wp2_with fail;go_ret;refine⟨aZ ?_,HW.o⟩;unfold qU;rw[Ob.o];have:=H8.o;simp;omega
end
end Go.Proofs.YtinflmadpnigfaaGreatDoor
