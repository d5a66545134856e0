import Derived.Test.YtihdbncoijhihaaGreatDoorSN25
import Derived.Test.YtihdbncoijhihaaGreatDoorSN20
import Derived.Test.YtihdbncoijhihaaGreatDoorSN15
import Derived.Test.YtihdbncoijhihaaGreatDoorSN21
set_option linter.unusedVariables false
set_option linter.unusedSimpArgs false
set_option maxRecDepth 100000
set_option maxHeartbeats 16000000
namespace Go.Proofs.YtihdbncoijhihaaGreatDoor
section
open Go.RowKit
theorem rslash_any (s:ByteArray) (w:World) (hs:s.size≤100000) :
  Calls Tryz.prog 223 #[.string s] w fun e w'=>e=.returned (.bool (slashB s.data.toList))∧Below w.heap.size w w':=by
 have HPc:=Lib.hid (pieces_any s w hs);have hlp:=(spl_len 47 s.data.toList).1;have hlq:=(spl_len 47 s.data.toList).2;have hsz:s.data.toList.length=s.size:=Array.length_toList;have HL:=Lib.hid (spl_last s.data.toList);have HS:=Lib.hid (show slashB s.data.toList=(segL s.data.toList == [] || segL s.data.toList == [46] || segL s.data.toList == [46,46]) from rfl);generalize slashB s.data.toList=r at HS ⊢;generalize segL s.data.toList=t at HL HS;generalize spl 47 s.data.toList=ls at HPc hlp hlq HL;go_enter Tryz.func223,Tryz.ntmps223;go_wp2_with fail;refine HPc.out.mono ?_;rintro e w1 ⟨⟨g,cap,rfl,hO⟩,hb1⟩;obtain⟨g',hg',hgl,hcl⟩:=hO.at' (ls.length - 1) (by omega);injection hg' with hg';injection hg' with e1;subst e1;have hlast:ls[ls.length - 1]=t:=by
  have h1:=HL.out;rw [List.getLast?_eq_getElem?,List.getElem?_eq_getElem (by omega)] at h1;injection h1
 rw [hlast] at hcl;have HT:=Lib.hid (show (str t).toList=t by rw [ba_list,str_list]);have HB:=Lib.hid hb1;have hz:(0:Int)≤(ls.length:Int) - 1∧(ls.length:Int) - 1<(ls.length:Int)∧((ls.length:Int) - 1).toNat=ls.length - 1:=by omega
 obtain⟨hz1,hz2,hz3⟩:=hz;have hwr:IntKind.i64.wrap ((ls.length:Int) - 1)=(ls.length:Int) - 1:=by rw [IntKind.wrap_i64];omega
 generalize str t=q at hcl HT;clear hO hb1 hlast;by_cases h1:t=[]
 ·have hq:q.toList=[]:=by rw [HT.out];exact h1
  have hr:r=true:=by rw [HS.out,h1];rfl
  subst hr;go_wp2_with fail;go_ret;exact⟨rfl,HB.out⟩
 ·have hq:q.toList.isEmpty=false:=by rw [HT.out];simpa using h1
  by_cases h2:t=[46]
  ·have hq2:(q.toList == [46])=true:=by rw [HT.out,h2];rfl
   have hr:r=true:=by rw [HS.out,h2];rfl
   subst hr;go_wp2_with fail;go_ret;exact⟨rfl,HB.out⟩
  ·have hq2:(q.toList == [46])=false:=by rw [HT.out];simpa using h2
   by_cases h3:t=[46,46]
   ·have hq3:(q.toList == [46,46])=true:=by rw [HT.out,h3];rfl
    have hr:r=true:=by rw [HS.out,h3];rfl
    subst hr;go_wp2_with fail;go_ret;exact⟨rfl,HB.out⟩
   ·have hq3:(q.toList == [46,46])=false:=by rw [HT.out];simpa using h3
    have hr:r=false:=by rw [HS.out];simp [h1,h2,h3]
    subst hr;clear h1 h2 h3;go_wp2_with fail;go_ret;exact⟨rfl,HB.out⟩
theorem step_Z (S:Fs) (at':Int) (p:List UInt8):S.step c00 at' p=if (S.getZ at').kind≠1 then (0,9) else if p=[46,46] then (S.above at',0) else if 255<p.length then (0,13) else (S.over (entFind (S.getZ at').ents (str p)),0):=by
 unfold Fs.step Fs.getZ
 cases S.get at' with
 | none=>rfl
 | some d=>
  simp only [Option.getD_some];rfl
theorem rpath_results {tmps:Array Value} {W:World} {B:Nat} {x:Fd} {e:Int} (hb:Blk W B #[.int .i64 x.dir,.string x.name,.int .i64 x.no,.bool x.slash] 58)
  (h8:tmps.getD 8 undef=.pointer (some ⟨B,0,none⟩)) (h9:tmps.getD 9 undef=.int .i64 e):(results Tryz.f162 tmps).run Tryz.prog W=.ok (.tuple #[x.v,.int .i64 e]) W:=by
 have q0:=hb.cell 0;have q1:=hb.cell 1;have q2:=hb.cell 2;have q3:=hb.cell 3;rw [Array.getD_eq_getD_getElem?] at h8 h9;simp only [List.getElem?_toArray,List.getElem?_cons_zero,List.getElem?_cons_succ] at q0 q1 q2 q3;simp [results,Tryz.results162,go_sem,Fd.v,h8,h9,q0,q1,q2,q3]
def sliceN:Value→Nat | .slice _ n _=>n | _=>0
section
variable {w w':World} {pf:Nat} {R:Rf} {S:Fs}
theorem rpathF_any (h:RfAt w pf R S) {N:Nat} (hk:FsOk S N) (path:ByteArray) (hs:path.size≤100000) (f:Bool) :
  Calls Tryz.prog 162 #[.pointer (some ⟨pf,0,none⟩),.agg #[.int .i64 0,.int .i64 0],.string path,.bool f] w fun e w'=>e=.returned (.tuple #[(S.path c00 path f).1.v,.int .i64 (S.path c00 path f).2])∧Below w.heap.size w w':=by
 have hb0:=balloc (balloc (Below.refl w.heap.size w) (.cells #[.int .i64 0,.int .i64 0] 27)) (.cells #[.int .i64 0,.string ⟨#[]⟩,.int .i64 0,.bool false] 58);have hf0:=Blk.new (w.alloc (.cells #[.int .i64 0,.int .i64 0] 27)) #[.int .i64 0,.string ⟨#[]⟩,.int .i64 0,.bool false] 58;rw [World.size_alloc] at hf0;have hc0:=(Blk.new w #[.int .i64 0,.int .i64 0] 27).old (.cells #[.int .i64 0,.string ⟨#[]⟩,.int .i64 0,.bool false] 58);have HPa:=Lib.hid (fun w=>rpath_any path w hs);have HPt:=Lib.hid (fun w=>rparts_any path w hs);have HSl:=Lib.hid (fun w=>rslash_any path w hs);have HH:=Lib.hid h;have HK:=Lib.hid hk;have hps:(partsL path.data.toList).length≤100001:=by
  have h1:=parts_len path.data.toList;have h2:path.data.toList.length=path.size:=Array.length_toList;omega
 have HE0:=Lib.hid (show S.path c00 path f=if pathE path≠0 then (fd0,pathE path) else S.seekH c00 f 8 1 (slashB path.data.toList) (partsL path.data.toList) from rfl);generalize S.path c00 path f=Z at HE0 ⊢;generalize pathE path=pe at HPa HE0;generalize slashB path.data.toList=sl at HSl HE0;generalize partsL path.data.toList=ps at HPt HE0 hps;clear h hk;go_enter Tryz.func162,Tryz.ntmps162;go_upto_region 1 with fail;generalize (w.alloc (.cells #[.int .i64 0,.int .i64 0] 27)).alloc (.cells #[.int .i64 0,.string ⟨#[]⟩,.int .i64 0,.bool false] 58)=X0 at hb0 hf0 hc0 ⊢;have HB0:=Lib.hid hb0;have HFb:=Lib.hid hf0;have HCr:=Lib.hid hc0;clear hb0 hf0 hc0;go_wp2_with fail;refine (HPa.out _).mono ?_;rintro e w1 ⟨rfl,rfl⟩;have HCk:=Lib.hid (Below.refl X0.heap.size X0);by_cases hpe:pe=0
 ·have HE1:=Lib.hid (HE0.out.trans (if_neg (by simpa using hpe)));have hpb:(pe != 0)=false:=by simpa using hpe
  clear hpe;go_wp2_with fail;refine (HPt.out _).mono ?_;rintro e w2 ⟨⟨pv,rfl,hO⟩,hb2⟩;obtain⟨pa,pcap,rfl,-,-⟩:=hO.len;have HSa:=Lib.hid (SA.of_own hO);have HC2:=Lib.hid hb2;clear hO hb2;go_wp2_with fail;refine (HSl.out _).mono ?_;rintro e w3 ⟨rfl,hb3⟩;have HSa3:=Lib.hid (HSa.out.keep hb3);have HC3:=Lib.hid (bnext HC2.out hb3);clear hb3;go_wp2_with fail
  go_loopw [11,12,13,14] (fun t11 t12 t13 t14 wr=>∃ (at':Int) (l:List (List UInt8)) (must:Bool) (hp:Nat) (ta:Option Addr) (tl tc:Nat),t11=.slice ta tl tc∧t12=.bool must∧t13=.int .i64 at'∧t14=.int .i64 hp∧SA wr ta tl tc l∧hp≤8∧l.length≤100001+hp*4097∧Z=S.seekH c00 f (8 - hp) at' must l∧Below X0.heap.size X0 wr) (fun t11 _ _ t14 _=>(8 - (intOf t14).toNat)*10000+sliceN t11)
  case atStart=>exact ⟨1,ps,sl,0,pa,_,pcap,rfl,rfl,rfl,rfl,HSa3.out,by omega,by omega,HE1.out,HC3.out⟩
  case round=>
   obtain⟨at',l,must,hp,ta,tl,tc,rfl,rfl,rfl,rfl,hS,hp8,hll,hE,hb⟩:=hrel;have hln:=hS.len;have HS:=Lib.hid hS;have HE:=Lib.hid hE;have HCk:=Lib.hid hb;clear hS hE hb
   cases l with
   | nil=>
    obtain rfl:tl=0:=by simpa using hln.symm
    have HE2:=Lib.hid (HE.out.trans seek_nil);obtain⟨fc,ff,fz⟩:=(HFb.out.keep HCk.out).facts;go_wp2_with (first | exact bodyPost_ret (rpath_results (x:=⟨0,ByteArray.empty,at',true⟩) (e:=0) (HFb.out.keep HCk.out).set4 rfl rfl) rfl ⟨by rw [HE2.out],below_set4 (HB0.out.trans (HCk.out.mono HB0.out.size)) (Nat.le_succ _)⟩ | exact scope_end (rpath_results (x:=⟨0,ByteArray.empty,at',true⟩) (e:=0) (HFb.out.keep HCk.out).set4 rfl rfl) ⟨by rw [HE2.out],below_set4 (HB0.out.trans (HCk.out.mono HB0.out.size)) (Nat.le_succ _)⟩)
   | cons p l=>
    obtain⟨m,rfl⟩:∃ m,tl=m+1:=⟨l.length,by simpa using hln.symm⟩;have hlm:l.length=m:=by simpa using hln
    have HLm:=Lib.hid hlm;obtain⟨b,off,rfl,hbl⟩:=HS.out.some_of (Nat.succ_pos m);have hpc:wr.cell? ⟨b,off,none⟩=some (.string (str p)):=HS.out.cell rfl 0 (by simp);have htc1:m+1≤tc:=HS.out.2.1;have htc2:tc≤9223372036854775807:=HS.out.2.2.1;have HLl:=Lib.hid hll;have hm8:m≤200000:=by simp at hll;omega
    clear hln hlm hll;obtain⟨lb,hlb⟩:∃ x:Bool,((m:Int)+1 == 1)=x:=⟨_,rfl⟩;have HLb:=Lib.hid (show lb=decide (l=[]) by
     rw [←hlb,←HLm.out]
     cases l with
     | nil=>rfl
     | cons y l=>simp;omega)
    go_upto_region 7 with fail
    go_cut [11] (fun t11 wx=>∃ (ta2:Option Addr) (tc2:Nat),t11=.slice ta2 m tc2∧SA wr ta2 m tc2 l∧wx=wr)
    case first=>
     by_cases h1:tc=1
     ·obtain rfl:m=0:=by omega
      subst h1;go_wp2_with fail;go_meet;exact⟨_,_,rfl,(show SA wr (some ⟨b,off,none⟩) 0 0 l from by have h:=HS.out.tail rfl;simpa using h),rfl⟩
     ·have h1a:¬ (tc:Int)=1:=by omega
      have HS3:=Lib.hid (show SA wr (some ⟨b,off+1,none⟩) m (tc - 1) l from by have h:=HS.out.tail rfl;rw [if_neg h1] at h;exact h);go_wp2_with fail;go_meet;exact⟨_,_,rfl,HS3.out,rfl⟩
    case rest=>
     obtain⟨ta2,tc2,rfl,hS2,rfl⟩:=hcut;have HS2:=Lib.hid hS2;clear hS2 hpc hbl htc1 htc2 HS;have hbw:=HB0.out.trans (HCk.out.mono HB0.out.size);obtain⟨da,dl,dc,hDE,hG⟩:=rgetZ_fix HH.out at';have HG:=Lib.hid (hG wc hbw);have HDE:=Lib.hid (hDE.keepB hbw (Nat.le_refl _));have HSt:=Lib.hid (step_Z S at' p);have hpz:(str p).size=p.length:=str_size p;have HPt3:=Lib.hid (show (str p).toList=p by rw [ba_list,str_list]);unfold An.v at HG;obtain⟨d,hd⟩:∃ d,S.getZ at'=d:=⟨_,rfl⟩;rw [hd] at HG HDE HSt;clear hd hDE hG hbw;have HNd:=Lib.hid (fun w=>rnode00_any d da dl dc 1 w);unfold An.v at HNd;go_wp2_with fail;refine HG.out.mono ?_;rintro e w4 ⟨rfl,hb4⟩;have hbX:=balloc (bnext HCk.out hb4) (.cells #[.int .i64 d.no,.int .i64 d.dev,.int .i64 d.kind,.int .i64 d.mode,.int .i64 d.uid,.int .i64 d.gid,.int .i64 d.mtime,.int .i64 d.ctime,.int .i64 d.links,.int .i64 d.up,.string d.data,.slice da dl dc] 109);have hd4:=Blk.new w4 #[.int .i64 d.no,.int .i64 d.dev,.int .i64 d.kind,.int .i64 d.mode,.int .i64 d.uid,.int .i64 d.gid,.int .i64 d.mtime,.int .i64 d.ctime,.int .i64 d.links,.int .i64 d.up,.string d.data,.slice da dl dc] 109;have hb5:=balloc hb4 (.cells #[.int .i64 d.no,.int .i64 d.dev,.int .i64 d.kind,.int .i64 d.mode,.int .i64 d.uid,.int .i64 d.gid,.int .i64 d.mtime,.int .i64 d.ctime,.int .i64 d.links,.int .i64 d.up,.string d.data,.slice da dl dc] 109);go_upto_region 9 with fail;generalize w4.alloc (.cells #[.int .i64 d.no,.int .i64 d.dev,.int .i64 d.kind,.int .i64 d.mode,.int .i64 d.uid,.int .i64 d.gid,.int .i64 d.mtime,.int .i64 d.ctime,.int .i64 d.links,.int .i64 d.up,.string d.data,.slice da dl dc] 109)=X at hbX hd4 hb5 ⊢
     replace HCk:=Lib.hid hbX
     have HS3:=Lib.hid (HS2.out.keep hb5);have HDE3:=Lib.hid (HDE.out.keep hb5);have HD3:=Lib.hid hd4;obtain⟨dcc,dcf,dcz⟩:=hd4.facts;clear hb4 hbX hd4 hb5 HS2 HDE HG;by_cases hk1:d.kind=1
     ·have q1:(d.kind != 1)=false:=by simpa using hk1
      have q1':(d.kind == 1)=true:=by simpa using hk1
      have HSt1:=Lib.hid (HSt.out.trans (if_neg (by simpa using hk1)));obtain⟨cc,cf,cz⟩:=(HCr.out.keep HCk.out).facts;clear hk1;go_wp2_with fail;refine (HNd.out _).mono ?_;rintro e w5 ⟨rfl,hb5⟩;have hC5:=bnext HCk.out hb5
      replace HCk:=Lib.hid hC5
      have HS5:=Lib.hid (HS3.out.keep hb5);have HDE5:=Lib.hid (HDE3.out.keep hb5);have hd5:=HD3.out.keep hb5;have HD5:=Lib.hid hd5;clear dcc dcf dcz cc cf cz;obtain⟨dcc,dcf,dcz⟩:=hd5.facts;clear hb5 hC5 hd5 HS3 HDE3 HD3;have hw5:=HB0.out.trans (HCk.out.mono HB0.out.size);by_cases hpp:p=[46,46]
      ·have HSt2:=Lib.hid (HSt1.out.trans (if_pos hpp));have hpb:((str p).toList == [46,46])=true:=by rw [HPt3.out,hpp];rfl
       have HAb:=Lib.hid (rabove_any (HH.out.keep hw5) HK.out at');have HE2:=Lib.hid (HE.out.trans (seek_up (by rw [HSt2.out]) hpp));rw [HSt2.out] at HE2;clear hpp hw5;go_wp2_with fail;refine HAb.out.mono ?_;rintro e w6 ⟨rfl,hb6⟩;have HS6:=Lib.hid (HS5.out.keep hb6);have HC6:=Lib.hid (bnext HCk.out hb6);clear hb6 dcc dcf dcz;go_wp2_with fail;go_roundw
       case measure=>simp [intOf,sliceN]
       case rel=>exact ⟨_,l,must,hp,ta2,m,tc2,rfl,rfl,rfl,rfl,HS6.out,hp8,by have:=HLl.out;simp at this;omega,HE2.out,HC6.out⟩
      ·have HSt2:=Lib.hid (HSt1.out.trans (if_neg hpp));have hpb:((str p).toList == [46,46])=false:=by rw [HPt3.out];simpa using hpp
       have HPP:=Lib.hid hpp;clear hpp;by_cases h255:255<p.length
       ·have HE2:=Lib.hid (HE.out.trans (seek_err (by rw [HSt2.out,if_pos h255];decide)));rw [HSt2.out,if_pos h255] at HE2;have h255a:(255:Int)<((str p).size:Int):=by rw [hpz];omega
        obtain⟨fc,ff,fz⟩:=(HFb.out.keep HCk.out).facts;go_wp2_with (first | exact bodyPost_ret (rpath_results (x:=fd0) (e:=13) (HFb.out.keep HCk.out).set4 rfl rfl) rfl ⟨by rw [HE2.out],below_set4 (HB0.out.trans (HCk.out.mono HB0.out.size)) (Nat.le_succ _)⟩ | exact scope_end (rpath_results (x:=fd0) (e:=13) (HFb.out.keep HCk.out).set4 rfl rfl) ⟨by rw [HE2.out],below_set4 (HB0.out.trans (HCk.out.mono HB0.out.size)) (Nat.le_succ _)⟩)
       ·have HSt3:=Lib.hid (HSt2.out.trans (if_neg h255));have h255a:¬ (255:Int)<((str p).size:Int):=by rw [hpz];omega
        have HFd:=Lib.hid (rfind_any d.ents da dl dc (str p) w5 HDE5.out);obtain⟨ef,hef⟩:∃ x,entFind d.ents (str p)=x:=⟨_,rfl⟩;rw [hef] at HSt3 HFd;have HOv:=Lib.hid (fun w1 hb=>rover_any (HH.out.keep (w':=w1) hb) ef);obtain⟨ov,hov⟩:∃ x,S.over ef=x:=⟨_,rfl⟩;rw [hov] at HSt3 HOv;obtain⟨na,nl,nc,-,hGn⟩:=rgetZ_fix HH.out ov;have hnz:=getZ_no HK.out ov;have HGn:=Lib.hid hGn;unfold An.v at HGn;clear h255 hef hov hGn hw5;go_wp2_with fail;refine HFd.out.mono ?_;rintro e w6 ⟨rfl,hb6⟩;have hC6:=bnext HCk.out hb6
        replace HCk:=Lib.hid hC6
        have HS6:=Lib.hid (HS5.out.keep hb6);have hw6:=HB0.out.trans (hC6.mono HB0.out.size);clear hb6 hC6 HS5 dcc dcf dcz;go_wp2_with fail;refine (HOv.out _ hw6).mono ?_;rintro e w7 ⟨rfl,rfl⟩;go_wp2_with fail;refine (HGn.out _ hw6).mono ?_;rintro e w8 ⟨rfl,hb8⟩;obtain⟨n,hn⟩:∃ n,S.getZ ov=n:=⟨_,rfl⟩;rw [hn] at hnz ⊢;have hC8:=balloc (bnext HCk.out hb8) (.cells #[.int .i64 n.no,.int .i64 n.dev,.int .i64 n.kind,.int .i64 n.mode,.int .i64 n.uid,.int .i64 n.gid,.int .i64 n.mtime,.int .i64 n.ctime,.int .i64 n.links,.int .i64 n.up,.string n.data,.slice na nl nc] 109);have hn8:=Blk.new w8 #[.int .i64 n.no,.int .i64 n.dev,.int .i64 n.kind,.int .i64 n.mode,.int .i64 n.uid,.int .i64 n.gid,.int .i64 n.mtime,.int .i64 n.ctime,.int .i64 n.links,.int .i64 n.up,.string n.data,.slice na nl nc] 109;have hb9:=balloc hb8 (.cells #[.int .i64 n.no,.int .i64 n.dev,.int .i64 n.kind,.int .i64 n.mode,.int .i64 n.uid,.int .i64 n.gid,.int .i64 n.mtime,.int .i64 n.ctime,.int .i64 n.links,.int .i64 n.up,.string n.data,.slice na nl nc] 109);go_upto_region 18 with fail;generalize w8.alloc (.cells #[.int .i64 n.no,.int .i64 n.dev,.int .i64 n.kind,.int .i64 n.mode,.int .i64 n.uid,.int .i64 n.gid,.int .i64 n.mtime,.int .i64 n.ctime,.int .i64 n.links,.int .i64 n.up,.string n.data,.slice na nl nc] 109)=Y at hC8 hn8 hb9 ⊢
        replace HCk:=Lib.hid hC8
        have HS9:=Lib.hid (HS6.out.keep hb9);obtain⟨ncc,ncf,ncz⟩:=hn8.facts;have HN9:=Lib.hid hn8;clear hb8 hC8 hn8 hb9 HS6 hw6 HGn HOv HFd HNd;have HHn:=Lib.hid hn;clear hn
        cases hgn:S.get ov with
        | none=>
         rw [hgn] at hnz;have hnz2:(n.no == 0)=true:=hnz;have HSg:=Lib.hid (show S.get (S.step c00 at' p).1=none by rw [HSt3.out];exact hgn);clear hgn hnz
         cases lb with
         | true=>
          have hl0:l=[]:=of_decide_eq_true HLb.out.symm;have HE2:=Lib.hid (HE.out.trans (seek_new (by rw [HSt3.out]) HPP.out HSg.out hl0));obtain⟨fc,ff,fz⟩:=(HFb.out.keep HCk.out).facts;go_wp2_with (first | exact bodyPost_ret (rpath_results (x:=⟨at',str p,0,must⟩) (e:=0) (HFb.out.keep HCk.out).set4 rfl rfl) rfl ⟨by rw [HE2.out],below_set4 (HB0.out.trans (HCk.out.mono HB0.out.size)) (Nat.le_succ _)⟩ | exact scope_end (rpath_results (x:=⟨at',str p,0,must⟩) (e:=0) (HFb.out.keep HCk.out).set4 rfl rfl) ⟨by rw [HE2.out],below_set4 (HB0.out.trans (HCk.out.mono HB0.out.size)) (Nat.le_succ _)⟩)
         | false=>
          have hl0:l≠[]:=of_decide_eq_false HLb.out.symm;have HE2:=Lib.hid (HE.out.trans (seek_gone (by rw [HSt3.out]) HPP.out HSg.out hl0));obtain⟨fc,ff,fz⟩:=(HFb.out.keep HCk.out).facts;go_wp2_with (first | exact bodyPost_ret (rpath_results (x:=fd0) (e:=5) (HFb.out.keep HCk.out).set4 rfl rfl) rfl ⟨by rw [HE2.out],below_set4 (HB0.out.trans (HCk.out.mono HB0.out.size)) (Nat.le_succ _)⟩ | exact scope_end (rpath_results (x:=fd0) (e:=5) (HFb.out.keep HCk.out).set4 rfl rfl) ⟨by rw [HE2.out],below_set4 (HB0.out.trans (HCk.out.mono HB0.out.size)) (Nat.le_succ _)⟩)
        | some n2=>
         have hnn:n2=n:=by rw [←HHn.out,getZ_some hgn]
         subst hnn;rw [hgn] at hnz;have hnz2:(n2.no == 0)=false:=hnz;have HNo:=Lib.hid (an_no hgn);have HSy:=Lib.hid (HK.out.get hgn).1.sy;have HSg:=Lib.hid (show S.get (S.step c00 at' p).1=some n2 by rw [HSt3.out];exact hgn);clear hgn hnz;have HLk:=Lib.hid (show ((n2.kind == 3) && (!lb || (must || f)))=decide (n2.kind=3∧(l≠[]∨must=true∨f=true)) by
          rw [HLb.out];by_cases h1:n2.kind=3 <;> by_cases h2:l=[] <;> cases must <;> cases f <;> simp [h1,h2])
         obtain⟨lk,hlk⟩:∃ x,((n2.kind == 3) && (!lb || (must || f)))=x:=⟨_,rfl⟩;have Hlk:=Lib.hid hlk;rw [hlk] at HLk;go_upto_region 22 with fail
         go_cut [96] (fun t96 wx=>t96=.bool lk∧wx=Y)
         case first=>
          clear hlk
          cases hk3:(n2.kind == 3) with
          | false=>
           have:lk=false:=by rw [←Hlk.out,hk3];rfl
           subst this;go_wp2_with fail;go_meet;exact⟨rfl,rfl⟩
          | true=>
           cases lb with
           | false=>
            have:lk=true:=by rw [←Hlk.out,hk3];rfl
            subst this;go_wp2_with fail;go_meet;exact⟨rfl,rfl⟩
           | true=>
            cases must with
            | true=>
             have:lk=true:=by rw [←Hlk.out,hk3];rfl
             subst this;go_wp2_with fail;go_meet;exact⟨rfl,rfl⟩
            | false=>
             have:lk=f:=by rw [←Hlk.out,hk3];rfl
             subst this;go_wp2_with fail;go_meet;exact⟨rfl,rfl⟩
         case rest=>
          obtain⟨rfl,rfl⟩:=hcut;clear hlk
          cases lk with
          | true=>
           have HLk2:=Lib.hid (of_decide_eq_true HLk.out.symm);have hkd3:n2.kind=3:=HLk2.out.1;have hsz:=HSy.out hkd3;have hstep:(S.step c00 at' p).2=0:=by rw [HSt3.out]
           have HStep:=Lib.hid hstep;clear hkd3 hstep;by_cases hp9:hp=8
           ·subst hp9;have HE2:=Lib.hid (HE.out.trans (seek_loop HStep.out HPP.out HSg.out HLk2.out));obtain⟨fc,ff,fz⟩:=(HFb.out.keep HCk.out).facts;go_wp2_with (first | exact bodyPost_ret (rpath_results (x:=fd0) (e:=12) (HFb.out.keep HCk.out).set4 rfl rfl) rfl ⟨by rw [HE2.out],below_set4 (HB0.out.trans (HCk.out.mono HB0.out.size)) (Nat.le_succ _)⟩ | exact scope_end (rpath_results (x:=fd0) (e:=12) (HFb.out.keep HCk.out).set4 rfl rfl) ⟨by rw [HE2.out],below_set4 (HB0.out.trans (HCk.out.mono HB0.out.size)) (Nat.le_succ _)⟩)
           ·have hp7:¬ (8:Int)<(hp:Int)+1:=by omega
            have hq8:8 - hp=(8 - (hp+1))+1:=by omega
            rw [hq8] at HE;by_cases hde:n2.data.data.toList=[]
            ·have HE2:=Lib.hid (HE.out.trans (seek_void HStep.out HPP.out HSg.out HLk2.out hde));have hde1:n2.data.toList=[]:=by rw [ba_list];exact hde
             clear hde;obtain⟨fc,ff,fz⟩:=(HFb.out.keep HCk.out).facts;go_wp2_with (first | exact bodyPost_ret (rpath_results (x:=fd0) (e:=5) (HFb.out.keep HCk.out).set4 rfl rfl) rfl ⟨by rw [HE2.out],below_set4 (HB0.out.trans (HCk.out.mono HB0.out.size)) (Nat.le_succ _)⟩ | exact scope_end (rpath_results (x:=fd0) (e:=5) (HFb.out.keep HCk.out).set4 rfl rfl) ⟨by rw [HE2.out],below_set4 (HB0.out.trans (HCk.out.mono HB0.out.size)) (Nat.le_succ _)⟩)
            ·have HE2:=Lib.hid (HE.out.trans (seek_link HStep.out HPP.out HSg.out HLk2.out hde));have hde1:n2.data.toList.isEmpty=false:=by rw [ba_list];simpa using hde
             have hpos:0<n2.data.size:=by
              have h1:n2.data.data.toList.length=n2.data.size:=Array.length_toList;rcases Nat.eq_zero_or_pos n2.data.size with h0 | h0
              ·exact absurd (List.eq_nil_of_length_eq_zero (by omega)) hde
              ·exact h0
             have HHead:=Lib.hid (show (n2.data.data.toList.head? = some 47)=(n2.data[0]=47) by
              have h1:n2.data.data.toList.head? = some n2.data[0]:=by
               rw [List.head?_eq_getElem?,List.getElem?_eq_getElem (by rw [Array.length_toList];exact hpos)];rfl
              rw [h1];simp)
             have HPt4:=Lib.hid (fun w=>rparts_any n2.data w (by omega));have HSl4:=Lib.hid (fun w=>rslash_any n2.data w (by omega));have HPl4:=Lib.hid (show (partsL n2.data.data.toList).length≤4097 by
              have h1:=parts_len n2.data.data.toList;have h2:n2.data.data.toList.length=n2.data.size:=Array.length_toList;omega)
             clear hde;obtain⟨ps2,hps2⟩:∃ x,partsL n2.data.data.toList=x:=⟨_,rfl⟩;obtain⟨sl2,hsl2⟩:∃ x,slashB n2.data.data.toList=x:=⟨_,rfl⟩;rw [hps2] at HE2 HPt4 HPl4;rw [hsl2] at HE2 HSl4;clear hps2 hsl2;have hwrap:IntKind.i64.wrap ((hp:Int)+1)=(hp:Int)+1:=by rw [IntKind.wrap_i64];omega
             obtain⟨a2,ha2⟩:∃ x,(if n2.data.data.toList.head? = some 47 then (1:Int) else at')=x:=⟨_,rfl⟩;obtain⟨m2,hm2⟩:∃ x,(if l=[] then must || sl2 else must)=x:=⟨_,rfl⟩;rw [ha2,hm2] at HE2;have HM2:=Lib.hid hm2;obtain⟨q47,hq47⟩:∃ x,(((n2.data[0]:UInt8).toNat:Int) == 47)=x:=⟨_,rfl⟩;have HA2:=Lib.hid (show a2=if q47=true then (1:Int) else at' by
              rw [←ha2,←hq47];by_cases h47:n2.data[0]=47
              ·rw [if_pos (HHead.out.mpr h47),if_pos (by rw [h47];rfl)]
              ·rw [if_neg (fun h=>h47 (HHead.out.mp h)),if_neg];simp only [beq_iff_eq];intro h;exact h47 (by rw [u8_eq];show (n2.data[0]:UInt8).toNat=47;omega))
             clear ha2 hm2;go_upto_region 28 with fail
             go_cut [109] (fun t109 wx=>t109=.bool q47∧wx=wc)
             case first=>
              go_wp2_with fail;go_meet;exact⟨rfl,rfl⟩
             case rest=>
              obtain⟨rfl,hwc⟩:=hcut;subst hwc;clear hq47
              go_step
              go_cut [13] (fun t13 wx=>t13=.int .i64 a2∧wx=wc)
              case first=>
               cases q47 with
               | true=>
                obtain rfl:a2=1:=HA2.out;go_wp2_with fail;go_meet;exact⟨rfl,rfl⟩
               | false=>
                obtain rfl:a2=at':=HA2.out;go_wp2_with fail;go_meet;exact⟨rfl,rfl⟩
              case rest=>
               obtain⟨rfl,hwc⟩:=hcut;subst hwc;clear HA2
               cases must with
               | true=>
                have hm3:m2=true:=by rw [←HM2.out];split <;> rfl
                subst hm3;go_wp2_with fail;refine (HPt4.out _).mono ?_;rintro e w12 ⟨⟨pv2,rfl,hO12⟩,hb12⟩;obtain⟨a',n',c',W,hrun,hSA,hab,hBW⟩:=sa_app hO12 (HS9.out.keep hb12) (by have h1:=HPl4.out;have h2:=HLl.out;simp at h2;omega) hb12.size;have HR:=Lib.hid hrun;have hnl:=hSA.len;rw [List.length_append,HLm.out] at hnl;have HX:=Lib.hid (And.intro hSA (bnext HCk.out (hb12.trans hBW)));clear hO12 hb12 hrun hSA hab hBW ncc ncf ncz;go_wp2_with (at_builtin;refine wpList_app_run rfl rfl rfl rfl HR.out ?_);go_roundw
                case measure=>have h1:=HPl4.out;simp [intOf,sliceN];omega
                case rel=>exact ⟨_,ps2 ++ l,_,hp+1,a',n',c',rfl,rfl,rfl,by go_num,HX.out.1,by omega,by have h1:=HPl4.out;have h2:=HLl.out;simp at h2;rw [List.length_append];omega,HE2.out,HX.out.2⟩
               | false=>
                cases lb with
                | false=>
                 have hl0:l≠[]:=of_decide_eq_false HLb.out.symm;have hm3:m2=false:=by rw [←HM2.out,if_neg hl0]
                 subst hm3;clear hl0;go_wp2_with fail;refine (HPt4.out _).mono ?_;rintro e w12 ⟨⟨pv2,rfl,hO12⟩,hb12⟩;obtain⟨a',n',c',W,hrun,hSA,hab,hBW⟩:=sa_app hO12 (HS9.out.keep hb12) (by have h1:=HPl4.out;have h2:=HLl.out;simp at h2;omega) hb12.size;have HR:=Lib.hid hrun;have hnl:=hSA.len;rw [List.length_append,HLm.out] at hnl;have HX:=Lib.hid (And.intro hSA (bnext HCk.out (hb12.trans hBW)));clear hO12 hb12 hrun hSA hab hBW ncc ncf ncz;go_wp2_with (at_builtin;refine wpList_app_run rfl rfl rfl rfl HR.out ?_);go_roundw
                 case measure=>have h1:=HPl4.out;simp [intOf,sliceN];omega
                 case rel=>exact ⟨_,ps2 ++ l,_,hp+1,a',n',c',rfl,rfl,rfl,by go_num,HX.out.1,by omega,by have h1:=HPl4.out;have h2:=HLl.out;simp at h2;rw [List.length_append];omega,HE2.out,HX.out.2⟩
                | true=>
                 have hl0:l=[]:=of_decide_eq_true HLb.out.symm;have hm3:m2=sl2:=by rw [←HM2.out,if_pos hl0,Bool.false_or]
                 subst hm3;clear hl0;go_wp2_with fail;refine (HSl4.out _).mono ?_;rintro e w11 ⟨rfl,hb11⟩
                 replace HCk:=Lib.hid (bnext HCk.out hb11)
                 replace HS9:=Lib.hid (HS9.out.keep hb11)
                 have hn11:=HN9.out.keep hb11;clear hb11 ncc ncf ncz;obtain⟨ncc,ncf,ncz⟩:=hn11.facts;clear hn11;go_wp2_with fail;refine (HPt4.out _).mono ?_;rintro e w12 ⟨⟨pv2,rfl,hO12⟩,hb12⟩;obtain⟨a',n',c',W,hrun,hSA,hab,hBW⟩:=sa_app hO12 (HS9.out.keep hb12) (by have h1:=HPl4.out;have h2:=HLl.out;simp at h2;omega) hb12.size;have HR:=Lib.hid hrun;have hnl:=hSA.len;rw [List.length_append,HLm.out] at hnl;have HX:=Lib.hid (And.intro hSA (bnext HCk.out (hb12.trans hBW)));clear hO12 hb12 hrun hSA hab hBW ncc ncf ncz;go_wp2_with (at_builtin;refine wpList_app_run rfl rfl rfl rfl HR.out ?_);go_roundw
                 case measure=>have h1:=HPl4.out;simp [intOf,sliceN];omega
                 case rel=>exact ⟨_,ps2 ++ l,_,hp+1,a',n',c',rfl,rfl,rfl,by go_num,HX.out.1,by omega,by have h1:=HPl4.out;have h2:=HLl.out;simp at h2;rw [List.length_append];omega,HE2.out,HX.out.2⟩
          | false=>
           have HLk2:=Lib.hid (of_decide_eq_false HLk.out.symm);have hstep:(S.step c00 at' p).2=0:=by rw [HSt3.out]
           have HStep:=Lib.hid hstep;clear hstep;by_cases hk2:n2.kind=1
           ·have q2:(n2.kind != 1)=false:=by simpa using hk2
            have HD:=Lib.hid (show ¬ (n2.kind≠1∧(l≠[]∨must=true)) from fun h=>h.1 hk2);clear hk2
            cases lb with
            | true=>
             have hl0:l=[]:=of_decide_eq_true HLb.out.symm;have HE2:=Lib.hid (HE.out.trans (seek_last HStep.out HPP.out HSg.out HLk2.out HD.out hl0));rw [HSt3.out] at HE2;have hno2:=HNo.out;obtain⟨fc,ff,fz⟩:=(HFb.out.keep HCk.out).facts;go_wp2_with (first | exact bodyPost_ret (rpath_results (x:=⟨at',str p,ov,must⟩) (e:=0) (HFb.out.keep HCk.out).set4 rfl rfl) rfl ⟨by rw [HE2.out],below_set4 (HB0.out.trans (HCk.out.mono HB0.out.size)) (Nat.le_succ _)⟩ | exact scope_end (rpath_results (x:=⟨at',str p,ov,must⟩) (e:=0) (HFb.out.keep HCk.out).set4 rfl rfl) ⟨by rw [HE2.out],below_set4 (HB0.out.trans (HCk.out.mono HB0.out.size)) (Nat.le_succ _)⟩)
            | false=>
             have hl0:l≠[]:=of_decide_eq_false HLb.out.symm;have HE2:=Lib.hid (HE.out.trans (seek_on HStep.out HPP.out HSg.out HLk2.out HD.out hl0));rw [HSt3.out] at HE2;have hno2:=HNo.out;clear hl0;go_wp2_with fail;go_roundw
             case measure=>simp [intOf,sliceN]
             case rel=>exact ⟨_,l,must,hp,ta2,m,tc2,rfl,rfl,rfl,rfl,HS9.out,hp8,by have:=HLl.out;simp at this;omega,HE2.out,HCk.out⟩
           ·have q2:(n2.kind != 1)=true:=by simpa using hk2
            have HK2:=Lib.hid hk2;clear hk2
            cases lb with
            | false=>
             have hl0:l≠[]:=of_decide_eq_false HLb.out.symm;have HE2:=Lib.hid (HE.out.trans (seek_file HStep.out HPP.out HSg.out HLk2.out ⟨HK2.out,.inl hl0⟩));clear hl0;obtain⟨fc,ff,fz⟩:=(HFb.out.keep HCk.out).facts;go_wp2_with (first | exact bodyPost_ret (rpath_results (x:=fd0) (e:=9) (HFb.out.keep HCk.out).set4 rfl rfl) rfl ⟨by rw [HE2.out],below_set4 (HB0.out.trans (HCk.out.mono HB0.out.size)) (Nat.le_succ _)⟩ | exact scope_end (rpath_results (x:=fd0) (e:=9) (HFb.out.keep HCk.out).set4 rfl rfl) ⟨by rw [HE2.out],below_set4 (HB0.out.trans (HCk.out.mono HB0.out.size)) (Nat.le_succ _)⟩)
            | true=>
             have hl0:l=[]:=of_decide_eq_true HLb.out.symm
             cases must with
             | true=>
              have HE2:=Lib.hid (HE.out.trans (seek_file HStep.out HPP.out HSg.out HLk2.out ⟨HK2.out,.inr rfl⟩));clear hl0;obtain⟨fc,ff,fz⟩:=(HFb.out.keep HCk.out).facts;go_wp2_with (first | exact bodyPost_ret (rpath_results (x:=fd0) (e:=9) (HFb.out.keep HCk.out).set4 rfl rfl) rfl ⟨by rw [HE2.out],below_set4 (HB0.out.trans (HCk.out.mono HB0.out.size)) (Nat.le_succ _)⟩ | exact scope_end (rpath_results (x:=fd0) (e:=9) (HFb.out.keep HCk.out).set4 rfl rfl) ⟨by rw [HE2.out],below_set4 (HB0.out.trans (HCk.out.mono HB0.out.size)) (Nat.le_succ _)⟩)
             | false=>
              have HE2:=Lib.hid (HE.out.trans (seek_last HStep.out HPP.out HSg.out HLk2.out (fun h=>h.2.elim (fun h=>h hl0) (fun h=>by cases h)) hl0));rw [HSt3.out] at HE2;have hno2:=HNo.out;clear hl0;obtain⟨fc,ff,fz⟩:=(HFb.out.keep HCk.out).facts;go_wp2_with (first | exact bodyPost_ret (rpath_results (x:=⟨at',str p,ov,false⟩) (e:=0) (HFb.out.keep HCk.out).set4 rfl rfl) rfl ⟨by rw [HE2.out],below_set4 (HB0.out.trans (HCk.out.mono HB0.out.size)) (Nat.le_succ _)⟩ | exact scope_end (rpath_results (x:=⟨at',str p,ov,false⟩) (e:=0) (HFb.out.keep HCk.out).set4 rfl rfl) ⟨by rw [HE2.out],below_set4 (HB0.out.trans (HCk.out.mono HB0.out.size)) (Nat.le_succ _)⟩)
     ·have q1:(d.kind != 1)=true:=by simpa using hk1
      have q1':(d.kind == 1)=false:=by simpa using hk1
      have HSt1:=Lib.hid (HSt.out.trans (if_pos (by simpa using hk1)));have HE2:=Lib.hid (HE.out.trans (seek_err (by rw [HSt1.out];decide)));rw [HSt1.out] at HE2;clear hk1;obtain⟨fc,ff,fz⟩:=(HFb.out.keep HCk.out).facts;go_wp2_with (first | exact bodyPost_ret (rpath_results (x:=fd0) (e:=9) (HFb.out.keep HCk.out).set4 rfl rfl) rfl ⟨by rw [HE2.out],below_set4 (HB0.out.trans (HCk.out.mono HB0.out.size)) (Nat.le_succ _)⟩ | exact scope_end (rpath_results (x:=fd0) (e:=9) (HFb.out.keep HCk.out).set4 rfl rfl) ⟨by rw [HE2.out],below_set4 (HB0.out.trans (HCk.out.mono HB0.out.size)) (Nat.le_succ _)⟩)
 ·have HE1:=Lib.hid (HE0.out.trans (if_pos hpe));have hpb:(pe != 0)=true:=by simpa using hpe
  clear hpe;obtain⟨fc,ff,fz⟩:=(HFb.out.keep HCk.out).facts;go_wp2_with (first | exact bodyPost_ret (rpath_results (x:=fd0) (e:=pe) (HFb.out.keep HCk.out).set4 rfl rfl) rfl ⟨by rw [HE1.out],below_set4 (HB0.out.trans (HCk.out.mono HB0.out.size)) (Nat.le_succ _)⟩ | exact scope_end (rpath_results (x:=fd0) (e:=pe) (HFb.out.keep HCk.out).set4 rfl rfl) ⟨by rw [HE1.out],below_set4 (HB0.out.trans (HCk.out.mono HB0.out.size)) (Nat.le_succ _)⟩)
end
end
end Go.Proofs.YtihdbncoijhihaaGreatDoor
