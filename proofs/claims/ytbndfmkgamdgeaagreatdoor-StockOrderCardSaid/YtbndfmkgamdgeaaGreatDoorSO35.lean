import Derived.Test.YtbndfmkgamdgeaaGreatDoorSO1
import Derived.Test.YtbndfmkgamdgeaaGreatDoorSO2
import Derived.Test.YtbndfmkgamdgeaaGreatDoorSO5
import Derived.Test.YtbndfmkgamdgeaaGreatDoorSO6
import Derived.Test.YtbndfmkgamdgeaaGreatDoorSO8
import Derived.Test.YtbndfmkgamdgeaaGreatDoorSO10
import Derived.Test.YtbndfmkgamdgeaaGreatDoorSO13
import Derived.Test.YtbndfmkgamdgeaaGreatDoorSO16
import Derived.Test.YtbndfmkgamdgeaaGreatDoorSO17
import Derived.Test.YtbndfmkgamdgeaaGreatDoorSO24
import Derived.Test.YtbndfmkgamdgeaaGreatDoorSO25
import Derived.Test.YtbndfmkgamdgeaaGreatDoorSO28
import Derived.Test.YtbndfmkgamdgeaaGreatDoorSO29
import Derived.Test.YtbndfmkgamdgeaaGreatDoorSO30
set_option linter.unusedVariables false
set_option linter.unusedSimpArgs false
set_option maxRecDepth 100000
set_option maxHeartbeats 16000000
namespace Go.Proofs.YtbndfmkgamdgeaaGreatDoor
section
open Go.RowKit
def plC (p:Plc):List Value:=[.int .i64 p.dir,.string p.name,.string p.top]
theorem plC_len (p:Plc):(plC p).length=3:=rfl
def plQ (cs:List Value) (p:Plc):Prop:=cs=plC p
def OPl (E:TypeId) (w:World) (base:Nat) (v:Value) (l:List Plc):Prop:=w.ownsRow base E 3 v l.length (l.flatMap plC)
theorem OPl.nil (E:TypeId) (w:World) (base:Nat):OPl E w base (.slice none 0 0) []:=⟨rfl,.inl ⟨rfl,rfl⟩⟩
theorem OPl.at {E:TypeId} {w:World} {base c:Nat} {a:Option Addr} {l:List Plc} (h:OPl E w base (.slice a l.length c) l):SliceAt w 3 plQ a l.length c l:=own_slice (R:=plQ) (by omega) plC_len (fun _=>rfl) h
theorem OPl.keep {E:TypeId} {w w':World} {base:Nat} {v:Value} {l:List Plc} (h:OPl E w base v l) (hb:Below w.heap.size w w'):OPl E w' base v l:=own_below h hb (Nat.le_refl _)
theorem OPl.app {E SE:TypeId} (hs:Tryz.prog.underlying SE=some (.slice E)) (hinf:(Tryz.prog.info? E).map (fun i=>(i.zero,i.size,i.bytes))=some (some (.agg #[.int .i64 0,.string ByteArray.empty,.string ByteArray.empty]),3,40))
  {w:World} {base:Nat} {v:Value} {l:List Plc} (h:OPl E w base v l) (p:Plc) (hn:l.length≤1000) (hb:base≤w.heap.size) :
  ∃ g cap W,(Builtin.append_ #[SE,SE] SE #[v,.slice (some ⟨w.heap.size,0,none⟩) 1 1]).run Tryz.prog (w.alloc (.cells #[.int .i64 p.dir,.string p.name,.string p.top] E))=.ok (.slice (some ⟨g,0,none⟩) (l.length+1) cap) W∧
   OPl E W base (.slice (some ⟨g,0,none⟩) (l.length+1) cap) (l ++ [p])∧Below base w W:=by
 obtain⟨g,cap,W,h1,h2,h3,-⟩:=own_app1 hs hinf rfl (by decide) h (plC p) rfl (by intro u hu;simp [plC] at hu;rcases hu with rfl | rfl | rfl <;> rfl) (by omega) (by decide) hb;refine ⟨g,cap,W,h1,?_,h3.below (fun k hk=>(own_obj1 h hk).1) hb⟩;unfold OPl;rw [List.length_append,List.length_singleton,List.flatMap_append];exact (by simpa using h2)
section
variable {w w':World} {pf pw:Nat} {R:Rp} {pv:Value} {Y:Sy}
theorem sfind_dead (h:SyAt w pf pw R pv Y) (hd:Y.dead=true) (c:Cr) (path:ByteArray) (f:Bool) :
  Calls Tryz.prog 94 #[.pointer (some ⟨pf,0,none⟩),.agg #[.int .i64 c.u,.int .i64 c.g],.string path,.bool f] w fun e w'=>e=.returned (.tuple #[fd0.v,.int .i64 20])∧Below w.heap.size w w':=by
 have hRX:Blk ((w.alloc (.cells #[.int .i64 c.u,.int .i64 c.g] 54)).alloc (.cells #[.int .i64 0,.string ⟨#[]⟩,.int .i64 0,.bool false] 189)) (w.heap.size+1) #[.int .i64 0,.string ⟨#[]⟩,.int .i64 0,.bool false] 189:=by
  have:=Blk.new (w.alloc (.cells #[.int .i64 c.u,.int .i64 c.g] 54)) #[.int .i64 0,.string ⟨#[]⟩,.int .i64 0,.bool false] 189
  rwa [World.size_alloc] at this
 have hbX:=balloc (balloc (Below.refl w.heap.size w) (.cells #[.int .i64 c.u,.int .i64 c.g] 54)) (.cells #[.int .i64 0,.string ⟨#[]⟩,.int .i64 0,.bool false] 189);have HR:=Lib.hid (fun w1 (hb1:Below w.heap.size w w1)=>sread_any (h.keep hb1));rw [hd] at HR;clear h hd;go_enter Tryz.func94,Tryz.ntmps94;go_wp2_with fail;refine (HR.out _ hbX).mono ?_;rintro e w1 ⟨rfl,rfl⟩;generalize (w.alloc (.cells #[.int .i64 c.u,.int .i64 c.g] 54)).alloc (.cells #[.int .i64 0,.string ⟨#[]⟩,.int .i64 0,.bool false] 189)=W0 at hRX hbX ⊢;have HRX:=Lib.hid hRX;have HBX:=Lib.hid hbX;obtain⟨rc,rf,rz⟩:=hRX.facts;clear hbX hRX;go_wp2_with fail;exact bodyPost_ret (sfind_results (x:=fd0) HRX.out.set4 rfl rfl) rfl ⟨rfl,below_set4 HBX.out (Nat.le_succ _)⟩
theorem cdata_core (S:Fs) (u:Us) (x:Fd×Int) (rd:Int×Int)
  (hF:∀ w1,Below w.heap.size w w1→Calls Tryz.prog 94 #[.pointer (some ⟨pf,0,none⟩),.agg #[.int .i64 u.c.u,.int .i64 u.c.g],.string u.data,.bool true] w1 fun e w'=>e=.returned (.tuple #[x.1.v,.int .i64 x.2])∧Below w1.heap.size w1 w')
  (hSt:x.2=0→∀ w1,Below w.heap.size w w1→∀ no,Calls Tryz.prog 43 #[.pointer (some ⟨pf,0,none⟩),.int .i64 no] w1 fun e w'=>e=.returned (.tuple #[stV (S.get no),.int .i64 (noneE (S.get no))])∧Below w1.heap.size w1 w')
  (hEn:Ends S x) (hR:rd=if x.2≠0 then (0,x.2) else if x.1.no=0 then (0,5) else if (S.getZ x.1.no).kind≠1 then (0,9) else (x.1.no,0)) :
  Calls Tryz.prog 66 #[.pointer (some ⟨pf,0,none⟩),.agg #[.int .i64 u.u,.int .i64 u.g,.string u.data]] w fun e w'=>e=.returned (.tuple #[.int .i64 rd.1,.int .i64 rd.2])∧Below w.heap.size w w':=by
 have hX:=Blk.new w #[.int .i64 u.u,.int .i64 u.g,.string u.data] 33;have hbX:=balloc (Below.refl w.heap.size w) (.cells #[.int .i64 u.u,.int .i64 u.g,.string u.data] 33);have HC:=Lib.hid (ccred_any u.u u.g u.data);have HF:=Lib.hid hF;have HSt:=Lib.hid hSt;have HEn:=Lib.hid hEn;have HR:=Lib.hid hR;clear hF hSt hEn hR;obtain⟨⟨x1,x2,x3,x4⟩,x5⟩:=x;unfold Fd.v Us.c at HF;dsimp only at HR HF HSt;go_enter Tryz.func66,Tryz.ntmps66;go_upto_region 1 with fail;generalize w.alloc (.cells #[.int .i64 u.u,.int .i64 u.g,.string u.data] 33)=W0 at hX hbX ⊢;have HBX:=Lib.hid hbX;obtain⟨xc,xf,xz⟩:=hX.facts;clear hX
 go_cut [6,7] (fun t6 t7 wx=>∃ Bd:Nat,t6=.pointer (some ⟨Bd,0,none⟩)∧t7=.int .i64 x5∧Blk wx Bd #[.int .i64 x1,.string x2,.int .i64 x3,.bool x4] 189∧Below w.heap.size w wx)
 case first=>
  go_wp2_with fail;have hzz:W0.heap.size≤W0.heap.size:=Nat.le_refl _
  go_region_held3 (fun w'=>(∀ b o,b<W0.heap.size→w'.cell? ⟨b,o,none⟩=W0.cell? ⟨b,o,none⟩)∧Below W0.heap.size W0 w') (first | with_reducible assumption | with_reducible exact keepS_here _ | with_reducible exact keepS_here2 _ | with_reducible exact keepS_call (by assumption) (by assumption) | with_reducible exact keepS_alloc (by assumption) _ | with_reducible exact keepS_allocD (by assumption) _ | with_reducible exact keepS_realloc (by assumption) (by assumption) | with_reducible exact keepS_set4 (by assumption) (by assumption))
   ((first
    | (go_at_call 12;((with_reducible refine (HC.out _).mono ?_);rintro e w4 ⟨rfl,hb4⟩;have hz4:=Nat.le_trans (And.right ‹(∀ b o,b<W0.heap.size→_)∧Below W0.heap.size W0 _›).size hb4.size;try (have hbq:=new_drew hb4;obtain ⟨bqc,bqf,bqz⟩:=hbq.facts)))
    | (go_at_call 94;((with_reducible refine (HF.out _ (HBX.out.trans ((And.right ‹(∀ b o,b<W0.heap.size→_)∧Below W0.heap.size W0 _›).mono HBX.out.size))).mono ?_);rintro e w5 ⟨rfl,hb5⟩;have hz5:=Nat.le_trans (And.right ‹(∀ b o,b<W0.heap.size→_)∧Below W0.heap.size W0 _›).size hb5.size;first | (have hbr:=hbq.keep hb5;obtain ⟨brc,brf,brz⟩:=hbr.facts) | (have hbr:=new_drew hb5;obtain ⟨brc,brf,brz⟩:=hbr.facts) | (have hbr:=new_keep hb5;obtain ⟨brc,brf,brz⟩:=hbr.facts) | skip))))
  all_goals
   obtain⟨-,hS4⟩:=‹_∧Below W0.heap.size W0 _›;have HS4:=Lib.hid hS4
   try (have HQ4:=Lib.hid hbr)
   clear hS4;go_wp2_with fail;go_meet;exact⟨_,rfl,rfl,by first | exact HQ4.out.set4 | exact Blk.new _ _ _,HBX.out.trans (HS4.out.mono HBX.out.size)⟩
 case rest=>
  obtain⟨Bd,rfl,rfl,hDX,hbY⟩:=hcut;generalize wc=X at hDX hbY ⊢;have HBY:=Lib.hid hbY;have HDX:=Lib.hid hDX;obtain⟨dc,df,dz⟩:=hDX.facts;clear hbX hDX hbY xc xf xz;by_cases h5:x5=0
  ·subst h5;have HR1:=Lib.hid (HR.out.trans (if_neg (by decide)));by_cases hn:x3=0
   ·have hnb:(x3 == 0)=true:=by simpa using hn
    have HR2:=Lib.hid (HR1.out.trans (if_pos hn));clear hn;go_wp2_with fail;go_ret2;rw [HR2.out];exact⟨rfl,HBY.out⟩
   ·have hnb:(x3 == 0)=false:=by simpa using hn
    have HR2:=Lib.hid (HR1.out.trans (if_neg hn));obtain⟨a,ha⟩:=HEn.out rfl hn;have HS2:=Lib.hid (HSt.out rfl _ HBY.out x3);dsimp only at ha;rw [getZ_some ha] at HR2;rw [ha] at HS2;unfold stV noneE at HS2;clear hn ha HEn;go_wp2_with fail;refine HS2.out.mono ?_;rintro e w6 ⟨rfl,hb6⟩;have hY:=Blk.new w6 #[.int .i64 a.no,.int .i64 a.dev,.int .i64 a.kind,.int .i64 a.mode,.int .i64 a.uid,.int .i64 a.gid,.int .i64 a.links,.int .i64 a.data.size,.int .i64 a.mtime,.int .i64 a.ctime] 115;have hD6:=(HDX.out.keep hb6).old (.cells #[.int .i64 a.no,.int .i64 a.dev,.int .i64 a.kind,.int .i64 a.mode,.int .i64 a.uid,.int .i64 a.gid,.int .i64 a.links,.int .i64 a.data.size,.int .i64 a.mtime,.int .i64 a.ctime] 115);have hbY:=balloc (bnext HBY.out hb6) (.cells #[.int .i64 a.no,.int .i64 a.dev,.int .i64 a.kind,.int .i64 a.mode,.int .i64 a.uid,.int .i64 a.gid,.int .i64 a.links,.int .i64 a.data.size,.int .i64 a.mtime,.int .i64 a.ctime] 115);clear hb6 dc df dz;go_upto_region 7 with fail;generalize w6.alloc (.cells #[.int .i64 a.no,.int .i64 a.dev,.int .i64 a.kind,.int .i64 a.mode,.int .i64 a.uid,.int .i64 a.gid,.int .i64 a.links,.int .i64 a.data.size,.int .i64 a.mtime,.int .i64 a.ctime] 115)=W7 at hY hD6 hbY ⊢;have HBZ:=Lib.hid hbY;obtain⟨dc,df,dz⟩:=hD6.facts;obtain⟨yc,yf,yz⟩:=hY.facts;clear hY hD6 hbY;by_cases h1:a.kind=1
    ·have h1':(a.kind != 1)=false:=by simpa using h1
     have HR3:=Lib.hid (HR2.out.trans (if_neg (by simpa using h1)));clear h1;go_wp2_with fail;go_ret2;rw [HR3.out];exact⟨rfl,HBZ.out⟩
    ·have h1':(a.kind != 1)=true:=by simpa using h1
     have HR3:=Lib.hid (HR2.out.trans (if_pos h1));clear h1;go_wp2_with fail;go_ret2;rw [HR3.out];exact⟨rfl,HBZ.out⟩
  ·have h5':(x5 != 0)=true:=by simpa using h5
   have HR1:=Lib.hid (HR.out.trans (if_pos h5));clear h5;go_wp2_with fail;go_ret2;rw [HR1.out];exact⟨rfl,HBY.out⟩
theorem cdataA_any (h:SyAt w pf pw R pv Y) {N:Nat} (hk:FsOk Y.fs N) (hN:N≤999999) (hp:Pl Y.fs) (hw:Wy Y.fs) (u:Us) (ht:u.data.size≤100000) :
  Calls Tryz.prog 66 #[.pointer (some ⟨pf,0,none⟩),.agg #[.int .i64 u.u,.int .i64 u.g,.string u.data]] w fun e w'=>e=.returned (.tuple #[.int .i64 (Y.fs.dataF Y.dead u).1,.int .i64 (Y.fs.dataF Y.dead u).2])∧Below w.heap.size w w':=by
 cases hd:Y.dead with
 | false=>exact cdata_core Y.fs u _ _ (fun w1 hb=>sfind_any (h.keep hb) hk hN hd u.c u.data ht true) (fun _ w1 hb no=>sstat_any (h.keep hb) hk hd no) (path_ends hk hp hw u.c u.data true) (by unfold Fs.dataF;rw [if_neg (by decide)])
 | true=>exact cdata_core Y.fs u (fd0,20) _ (fun w1 hb=>sfind_dead (h.keep hb) hd u.c u.data true) (fun h0=>absurd h0 (by decide)) (fun h0=>absurd h0 (by decide)) (by unfold Fs.dataF;rw [if_pos rfl];rfl)
theorem cdata_any (h:SyAt w pf pw R pv Y) {N:Nat} (hk:FsOk Y.fs N) (hN:N≤999999) (hp:Pl Y.fs) (hw:Wy Y.fs) (hd:Y.dead=false) (u:Us) (ht:u.data.size≤100000) :
  Calls Tryz.prog 66 #[.pointer (some ⟨pf,0,none⟩),.agg #[.int .i64 u.u,.int .i64 u.g,.string u.data]] w fun e w'=>e=.returned (.tuple #[.int .i64 (Y.fs.dataF false u).1,.int .i64 (Y.fs.dataF false u).2])∧Below w.heap.size w w':=by
 have h1:=cdataA_any h hk hN hp hw u ht;rw [hd] at h1;exact h1
theorem stZ (S:Fs) (k:Int):stV (S.get k)=.agg #[.int .i64 (S.getZ k).no,.int .i64 (S.getZ k).dev,.int .i64 (S.getZ k).kind,.int .i64 (S.getZ k).mode,.int .i64 (S.getZ k).uid,.int .i64 (S.getZ k).gid,.int .i64 (S.getZ k).links,.int .i64 (S.getZ k).data.size,.int .i64 (S.getZ k).mtime,.int .i64 (S.getZ k).ctime]:=by
 rcases getZ_cases S k with ⟨a,h1,h2⟩|⟨h1,h2⟩
 ·rw [h1,h2];rfl
 ·rw [h1,h2];rfl
theorem sticky_and (m:Int) (h:0≤m∧m≤1023):(bits .and .i64 m 512 == 0)=decide (m<512):=by
 have key:∀ k:Fin 1024,(bits .and .i64 (k.val:Int) 512 == 0)=decide ((k.val:Int)<512):=by decide +kernel
 have:=key ⟨m.toNat,by omega⟩;have hm:((m.toNat:Nat):Int)=m:=by omega
 simpa [hm] using this
theorem ccommon_any (h:SyAt w pf pw R pv Y) {N:Nat} (hk:FsOk Y.fs N) (hN:N≤999999) (hd:Y.dead=false) (u g:Int) (t:ByteArray) (top:Int) :
  Calls Tryz.prog 119 #[.pointer (some ⟨pf,0,none⟩),.agg #[.int .i64 u,.int .i64 g,.string t],.int .i64 top] w fun e w'=>e=.returned (.tuple #[.int .i64 (Y.fs.commonF false ⟨u,g⟩ top).1,.int .i64 (Y.fs.commonF false ⟨u,g⟩ top).2])∧Below w.heap.size w w':=by
 have hX:=Blk.new w #[.int .i64 u,.int .i64 g,.string t] 33;have hbX:=balloc (Below.refl w.heap.size w) (.cells #[.int .i64 u,.int .i64 g,.string t] 33);have HC:=Lib.hid (ccred_any u g t);have HL:=Lib.hid (fun w1 (hb1:Below w.heap.size w w1)=>slook_any (h.keep hb1) hk hN ⟨u,g⟩ top nShared);have HSt:=Lib.hid (fun w1 (hb:Below w.heap.size w w1) no=>sstat_any (h.keep hb) hk hd no);obtain⟨S,hS⟩:∃ S,Y.fs=S:=⟨_,rfl⟩;rw [hd] at HL;rw [hS] at HL HSt ⊢;have HMo:=Lib.hid (fun k=>sticky_and _ (show 0≤(S.getZ k).mode∧(S.getZ k).mode≤1023 from by
  rcases getZ_cases S k with ⟨a,h1,h2⟩|⟨-,h2⟩
  ·rw [h2];rw [←hS] at h1;exact (hk.get h1).1.mode
  ·rw [h2];decide))
 have HR:=Lib.hid (show S.commonF false ⟨u,g⟩ top=if (S.lookF false ⟨u,g⟩ top nShared).2≠0 then (0,(S.lookF false ⟨u,g⟩ top nShared).2) else comV (S.getZ (S.lookF false ⟨u,g⟩ top nShared).1) (S.getZ top) (S.lookF false ⟨u,g⟩ top nShared).1 from rfl);generalize S.commonF false ⟨u,g⟩ top=rd at HR ⊢;generalize S.lookF false ⟨u,g⟩ top nShared=r at HR HL;obtain⟨no,e1⟩:=r;unfold nShared at HL;dsimp only at HR HL;clear h hk hS hd;go_enter Tryz.func119,Tryz.ntmps119;go_upto_region 1 with fail;generalize w.alloc (.cells #[.int .i64 u,.int .i64 g,.string t] 33)=W0 at hX hbX ⊢;have HBX:=Lib.hid hbX;obtain⟨xc,xf,xz⟩:=hX.facts;clear hX hbX;go_wp2_with fail;refine (HC.out _).mono ?_;rintro e w1 ⟨rfl,hb1⟩;have HB1:=Lib.hid (bnext HBX.out hb1);clear hb1 xc xf xz;go_wp2_with fail;refine (HL.out _ HB1.out).mono ?_;rintro e w2 ⟨rfl,hb2⟩;have HB2:=Lib.hid (bnext HB1.out hb2);clear hb2;by_cases h0:e1=0
 ·subst h0;have HE:=Lib.hid (HR.out.trans (if_neg (by decide)));have HS1:=Lib.hid (HSt.out _ HB2.out no);have HM:=Lib.hid (HMo.out no);rw [stZ] at HS1;generalize noneE (S.get no)=ne at HS1;generalize S.getZ no=x at HE HS1 HM;go_wp2_with fail;refine HS1.out.mono ?_;rintro e w3 ⟨rfl,hb3⟩;have hb4:=balloc (bnext HB2.out hb3) (.cells #[.int .i64 x.no,.int .i64 x.dev,.int .i64 x.kind,.int .i64 x.mode,.int .i64 x.uid,.int .i64 x.gid,.int .i64 x.links,.int .i64 x.data.size,.int .i64 x.mtime,.int .i64 x.ctime] 115);have hN4:=Blk.new w3 #[.int .i64 x.no,.int .i64 x.dev,.int .i64 x.kind,.int .i64 x.mode,.int .i64 x.uid,.int .i64 x.gid,.int .i64 x.links,.int .i64 x.data.size,.int .i64 x.mtime,.int .i64 x.ctime] 115;clear hb3;go_upto_region 5 with fail;generalize w3.alloc (.cells #[.int .i64 x.no,.int .i64 x.dev,.int .i64 x.kind,.int .i64 x.mode,.int .i64 x.uid,.int .i64 x.gid,.int .i64 x.links,.int .i64 x.data.size,.int .i64 x.mtime,.int .i64 x.ctime] 115)=W4 at hb4 hN4 ⊢;have HB4:=Lib.hid hb4;have HN4:=Lib.hid hN4;have HS2:=Lib.hid (HSt.out _ HB4.out top);rw [stZ] at HS2;generalize noneE (S.get top)=nf at HS2;generalize S.getZ top=y at HE HS2;clear hb4 hN4;go_wp2_with fail;refine HS2.out.mono ?_;rintro e w5 ⟨rfl,hb5⟩;have hb6:=balloc (bnext HB4.out hb5) (.cells #[.int .i64 y.no,.int .i64 y.dev,.int .i64 y.kind,.int .i64 y.mode,.int .i64 y.uid,.int .i64 y.gid,.int .i64 y.links,.int .i64 y.data.size,.int .i64 y.mtime,.int .i64 y.ctime] 115);have hM6:=Blk.new w5 #[.int .i64 y.no,.int .i64 y.dev,.int .i64 y.kind,.int .i64 y.mode,.int .i64 y.uid,.int .i64 y.gid,.int .i64 y.links,.int .i64 y.data.size,.int .i64 y.mtime,.int .i64 y.ctime] 115;have hN6:=(HN4.out.keep hb5).old (.cells #[.int .i64 y.no,.int .i64 y.dev,.int .i64 y.kind,.int .i64 y.mode,.int .i64 y.uid,.int .i64 y.gid,.int .i64 y.links,.int .i64 y.data.size,.int .i64 y.mtime,.int .i64 y.ctime] 115);clear hb5;go_upto_region 6 with fail;generalize w5.alloc (.cells #[.int .i64 y.no,.int .i64 y.dev,.int .i64 y.kind,.int .i64 y.mode,.int .i64 y.uid,.int .i64 y.gid,.int .i64 y.links,.int .i64 y.data.size,.int .i64 y.mtime,.int .i64 y.ctime] 115)=W6 at hb6 hM6 hN6 ⊢;have HB6:=Lib.hid hb6;obtain⟨mc,mf,mz⟩:=hM6.facts;obtain⟨nc,nf',nz⟩:=hN6.facts;clear hb6 hM6 hN6;unfold comV at HE;by_cases h1:x.kind=1
  ·have h1':(x.kind != 1)=false:=by simpa using h1
   have HE1:=Lib.hid (HE.out.trans (if_neg (by simpa using h1)));by_cases h2:x.dev=y.dev
   ·have h2':(x.dev != y.dev)=false:=by simpa using h2
    have HE2:=Lib.hid (HE1.out.trans (if_neg (by simpa using h2)));by_cases h3:x.mode<512
    ·have h3':(bits .and .i64 x.mode 512 == 0)=true:=by rw [HM.out];simpa using h3
     have HE3:=Lib.hid (HE2.out.trans (if_pos h3));clear h1 h2 h3;go_wp2_with fail;go_ret2;rw [HE3.out];exact⟨rfl,HB6.out⟩
    ·have h3':(bits .and .i64 x.mode 512 == 0)=false:=by rw [HM.out];simpa using h3
     have HE3:=Lib.hid (HE2.out.trans (if_neg h3));clear h1 h2 h3;go_wp2_with fail;go_ret2;rw [HE3.out];exact⟨rfl,HB6.out⟩
   ·have h2':(x.dev != y.dev)=true:=by simpa using h2
    have HE2:=Lib.hid (HE1.out.trans (if_pos h2));clear h1 h2;go_wp2_with fail;go_ret2;rw [HE2.out];exact⟨rfl,HB6.out⟩
  ·have h1':(x.kind != 1)=true:=by simpa using h1
   have HE2:=Lib.hid (HE.out.trans (if_pos h1));clear h1;go_wp2_with fail;go_ret2;rw [HE2.out];exact⟨rfl,HB6.out⟩
 ·have h0':(e1 != 0)=true:=by simpa using h0
  have HE:=Lib.hid (HR.out.trans (if_pos h0));clear h0;go_wp2_with fail;go_ret2;rw [HE.out];exact⟨rfl,HB2.out⟩
theorem place_info:(Tryz.prog.info? 150).map (fun i=>(i.zero,i.size,i.bytes))=some (some (.agg #[.int .i64 0,.string ByteArray.empty,.string ByteArray.empty]),3,40):=by kernel_rfl
theorem cplaces_any (h:SyAt w pf pw R pv Y) {N:Nat} (hk:FsOk Y.fs N) (hN:N≤999999) (hd:Y.dead=false) (u:Us) (hu0:-9223372036854775808≤u.u) (hu1:u.u≤9223372036854775807) (top:Int) (path:ByteArray) :
  Calls Tryz.prog 70 #[.pointer (some ⟨pf,0,none⟩),.agg #[.int .i64 u.u,.int .i64 u.g,.string u.data],.int .i64 top,.string path] w fun e w'=>∃ v,e=.returned v∧OPl 150 w' w.heap.size v (Y.fs.placesF false u top path)∧Below w.heap.size w w':=by
 have hX:=Blk.new w #[.int .i64 u.u,.int .i64 u.g,.string u.data] 33;have hbX:=balloc (Below.refl w.heap.size w) (.cells #[.int .i64 u.u,.int .i64 u.g,.string u.data] 33);have HD:=Lib.hid (fun w=>dec_any u.u w hu0 hu1);have HC:=Lib.hid (fun w1 (hb1:Below w.heap.size w w1)=>ccommon_any (h.keep hb1) hk hN hd u.u u.g u.data top);have HR:=Lib.hid (show Y.fs.placesF false u top path=(if (Y.fs.commonF false ⟨u.u,u.g⟩ top).2=0 then [⟨(Y.fs.commonF false ⟨u.u,u.g⟩ top).1,str (decL u.u),path⟩] else []) ++ [⟨top,ByteArray.mk #[46,84,114,97,115,104,45] ++ str (decL u.u),path⟩] from rfl);generalize Y.fs.placesF false u top path=rd at HR ⊢;generalize Y.fs.commonF false ⟨u.u,u.g⟩ top=r at HR HC;have hid:(str (decL u.u)).size≤21:=by
  rw [str_size];exact (decL_len u.u hu0 hu1).1
 generalize str (decL u.u)=id at HR HD hid;obtain⟨no,e1⟩:=r;dsimp only at HR HC;clear h hk hd;go_enter Tryz.func70,Tryz.ntmps70;go_upto_region 1 with fail;generalize w.alloc (.cells #[.int .i64 u.u,.int .i64 u.g,.string u.data] 33)=W0 at hX hbX ⊢;have HX:=Lib.hid hX;have HBX:=Lib.hid hbX;obtain⟨xc,xf,xz⟩:=hX.facts;clear hX hbX;go_wp2_with fail;refine (HD.out _).mono ?_;rintro e w1 ⟨rfl,hb1⟩;have HB1:=Lib.hid (bnext HBX.out hb1);have hX1:=HX.out.keep hb1;clear hb1 xc xf xz;obtain⟨xc,xf,xz⟩:=hX1.facts;clear hX1;go_wp2_with fail;refine (HC.out _ HB1.out).mono ?_;rintro e w2 ⟨rfl,hb2⟩;have hB2:=bnext HB1.out hb2;have HB2:=Lib.hid hB2;clear hb2 xc xf xz;by_cases h0:e1=0
 ·subst h0;obtain⟨g1,c1,W1,r1,o1,b1⟩:=(OPl.nil 150 w2 w.heap.size).app (SE:=151) Tryz.underlying151 place_info ⟨no,id,path⟩ (by simp) hB2.size;obtain⟨g2,c2,W2,r2,o2,b2⟩:=o1.app (SE:=151) Tryz.underlying151 place_info ⟨top,ByteArray.mk #[46,84,114,97,115,104,45] ++ id,path⟩ (by simp) (Nat.le_trans hB2.size b1.size);have HR1:=Lib.hid r1;have HR2:=Lib.hid r2;have HO:=Lib.hid (And.intro o2 (And.intro b1 b2));have HE:=Lib.hid (show rd=[⟨no,id,path⟩] ++ [⟨top,ByteArray.mk #[46,84,114,97,115,104,45] ++ id,path⟩] by rw [HR.out];rfl);clear r1 r2 o1 o2 b1 b2 hB2;go_wp2_with (at_builtin;refine wpList_app_run rfl rfl rfl rfl (by first | exact HR1.out | exact HR2.out) ?_);go_ret;rw [HE.out];exact⟨_,rfl,HO.out.1,HB2.out.trans (HO.out.2.1.trans HO.out.2.2)⟩
 ·have h0':(e1 == 0)=false:=by simpa using h0
  obtain⟨g2,c2,W2,r2,o2,b2⟩:=(OPl.nil 150 w2 w.heap.size).app (SE:=151) Tryz.underlying151 place_info ⟨top,ByteArray.mk #[46,84,114,97,115,104,45] ++ id,path⟩ (by simp) hB2.size;have HR2:=Lib.hid r2;have HO:=Lib.hid (And.intro o2 b2);have HE:=Lib.hid (show rd=[] ++ [⟨top,ByteArray.mk #[46,84,114,97,115,104,45] ++ id,path⟩] by rw [HR.out,if_neg h0]);clear r2 o2 b2 hB2 h0;go_wp2_with (at_builtin;refine wpList_app_run rfl rfl rfl rfl HR2.out ?_);go_ret;rw [HE.out];exact⟨_,rfl,HO.out.1,HB2.out.trans HO.out.2⟩
end
end
end Go.Proofs.YtbndfmkgamdgeaaGreatDoor
