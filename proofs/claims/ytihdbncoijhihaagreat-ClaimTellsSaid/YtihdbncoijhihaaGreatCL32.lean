import Derived.Test.YtihdbncoijhihaaGreatCL31
import Derived.Test.YtihdbncoijhihaaGreatCL23
import Derived.Test.YtihdbncoijhihaaGreatCL30
import Derived.Test.YtihdbncoijhihaaGreatCL27
set_option linter.unusedVariables false
set_option linter.unusedSimpArgs false
set_option maxRecDepth 100000
set_option maxHeartbeats 16000000
namespace Go.Proofs.YtihdbncoijhihaaGreat
section
open Go.RowKit
theorem own_app1 {E SE:TypeId} {sz by_:Nat} {z:Value} (hs:Tryz.prog.underlying SE=some (.slice E)) (hinf:(Tryz.prog.info? E).map (fun i=>(i.zero,i.size,i.bytes))=some (some z,sz,by_)) (hz:z.cells.size=sz) (hsz:0<sz)
  {w:World} {base n:Nat} {v:Value} {xs:List Value} (h:w.ownsRow base E sz v n xs) (cs:List Value) (hl:cs.length=sz) (h1:∀ u∈cs,u.oneCell'=true) (hn:n≤1000000) (hby:by_≤1000) (hb:base≤w.heap.size) :
  ∃ g cap W,(Builtin.append_ #[SE,SE] SE #[v,.slice (some ⟨w.heap.size,0,none⟩) 1 1]).run Tryz.prog (w.alloc (.cells cs.toArray E))=.ok (.slice (some ⟨g,0,none⟩) (n+1) cap) W∧
   W.ownsRow base E sz (.slice (some ⟨g,0,none⟩) (n+1) cap) (n+1) (xs ++ cs)∧Mod (fun k=>v.ownBlock=some k) w W∧(v.ownBlock=some g∨w.heap.size<g):=by
 obtain⟨i0,hi,hz0,hz1,hz2⟩:=info_parts hinf;have ho:=World.ownsRow.alloc h (.cells cs.toArray E);have hm:(n+1)*by_≤(1000000+1)*1000:=Nat.mul_le_mul (by omega) hby;obtain⟨g,cap,W,h1,h2,h3,h4⟩:=step_app SE hs hi hz0 hz1 hz2 hz hsz ho ⟨w.heap.size,0,none⟩ 1 1 cs (by omega) (World.news_of_block (Blk.new w cs.toArray E)) h1 (by omega) (by unfold maxLen;omega) (by omega) (by rw [World.size_alloc];omega);exact⟨g,cap,W,h1,h2,((Mod.refl (fun j=>v.ownBlock=some j) w).alloc _).trans h3,h4.imp id (fun h=>by rw [h,World.size_alloc];omega)⟩
def plC (p:Plc):List Value:=[.int .i64 p.dir,.string p.name,.string p.top]
theorem plC_len (p:Plc):(plC p).length=3:=rfl
def plQ (cs:List Value) (p:Plc):Prop:=cs=plC p
def OPl (E:TypeId) (w:World) (base:Nat) (v:Value) (l:List Plc):Prop:=w.ownsRow base E 3 v l.length (l.flatMap plC)
theorem OPl.nil (E:TypeId) (w:World) (base:Nat):OPl E w base (.slice none 0 0) []:=⟨rfl,.inl ⟨rfl,rfl⟩⟩
theorem OPl.at {E:TypeId} {w:World} {base c:Nat} {a:Option Addr} {l:List Plc} (h:OPl E w base (.slice a l.length c) l):SliceAt w 3 plQ a l.length c l:=own_slice (R:=plQ) (by omega) plC_len (fun _=>rfl) h
theorem OPl.keep {E:TypeId} {w w':World} {base:Nat} {v:Value} {l:List Plc} (h:OPl E w base v l) (hb:Below w.heap.size w w'):OPl E w' base v l:=own_below h hb (Nat.le_refl _)
theorem OPl.app {E SE:TypeId} (hs:Tryz.prog.underlying SE=some (.slice E)) (hinf:(Tryz.prog.info? E).map (fun i=>(i.zero,i.size,i.bytes))=some (some (.agg #[.int .i64 0,.string ByteArray.empty,.string ByteArray.empty]),3,40))
  {w:World} {base:Nat} {v:Value} {l:List Plc} (h:OPl E w base v l) (p:Plc) (hn:l.length≤1000) (hb:base≤w.heap.size) :
  ∃ g cap W,(Builtin.append_ #[SE,SE] SE #[v,.slice (some ⟨w.heap.size,0,none⟩) 1 1]).run Tryz.prog (w.alloc (.cells #[.int .i64 p.dir,.string p.name,.string p.top] E))=.ok (.slice (some ⟨g,0,none⟩) (l.length+1) cap) W∧
   OPl E W base (.slice (some ⟨g,0,none⟩) (l.length+1) cap) (l ++ [p])∧Below base w W:=by
 obtain⟨g,cap,W,h1,h2,h3,-⟩:=own_app1 hs hinf rfl (by decide) h (plC p) rfl (by intro u hu;simp [plC] at hu;rcases hu with rfl | rfl | rfl <;> rfl) (by omega) (by decide) hb;refine ⟨g,cap,W,h1,?_,h3.below (fun k hk=>(own_obj1 h hk).1) hb⟩;unfold OPl;rw [List.length_append,List.length_singleton,List.flatMap_append];exact (by simpa using h2)
section
variable {w w':World} {pf pw:Nat} {R:Rp} {pv:Value} {Y:Sy}
theorem cdata_any (h:SyAt w pf pw R pv Y) {N:Nat} (hk:FsOk Y.fs N) (hN:N≤999999) (hp:Pl Y.fs) (hw:Wy Y.fs) (hd:Y.dead=false) (u:Us) (ht:u.data.size≤100000) :
  Calls Tryz.prog 54 #[.pointer (some ⟨pf,0,none⟩),.agg #[.int .i64 u.u,.int .i64 u.g,.string u.data]] w fun e w'=>e=.returned (.tuple #[.int .i64 (Y.fs.dataF false u).1,.int .i64 (Y.fs.dataF false u).2])∧Below w.heap.size w w':=by
 have hX:=Blk.new w #[.int .i64 u.u,.int .i64 u.g,.string u.data] 27;have hbX:=balloc (Below.refl w.heap.size w) (.cells #[.int .i64 u.u,.int .i64 u.g,.string u.data] 27);have HC:=Lib.hid (ccred_any u.u u.g u.data);have HF:=Lib.hid (fun w1 (hb:Below w.heap.size w w1)=>sfind_any (h.keep hb) hk hN hd u.c u.data ht true);have HSt:=Lib.hid (fun w1 (hb:Below w.heap.size w w1) no=>sstat_any (h.keep hb) hk hd no);obtain⟨S,hS⟩:∃ S,Y.fs=S:=⟨_,rfl⟩;have HEn:=Lib.hid (path_ends hk hp hw u.c u.data true);rw [hS] at HF HSt HEn ⊢;have HR:=Lib.hid (show S.dataF false u=if (S.path u.c u.data true).2≠0 then (0,(S.path u.c u.data true).2) else if (S.path u.c u.data true).1.no=0 then (0,5) else if (S.getZ (S.path u.c u.data true).1.no).kind≠1 then (0,9) else ((S.path u.c u.data true).1.no,0) by unfold Fs.dataF;rw [if_neg (by decide)]);generalize S.dataF false u=rd at HR ⊢;generalize S.path u.c u.data true=x at HR HF HEn;obtain⟨⟨x1,x2,x3,x4⟩,x5⟩:=x;unfold Fd.v Us.c at HF;dsimp only at HR HF;clear h hk hd hS hp hw;go_enter Tryz.func54,Tryz.ntmps54;go_upto_region 1 with fail;generalize w.alloc (.cells #[.int .i64 u.u,.int .i64 u.g,.string u.data] 27)=W0 at hX hbX ⊢;have HBX:=Lib.hid hbX;obtain⟨xc,xf,xz⟩:=hX.facts;clear hX
 go_cut [6,7] (fun t6 t7 wx=>∃ Bd:Nat,t6=.pointer (some ⟨Bd,0,none⟩)∧t7=.int .i64 x5∧Blk wx Bd #[.int .i64 x1,.string x2,.int .i64 x3,.bool x4] 118∧Below w.heap.size w wx)
 case first=>
  go_wp2_with fail;have hzz:W0.heap.size≤W0.heap.size:=Nat.le_refl _
  go_region_held3 (fun w'=>(∀ b o,b<W0.heap.size→w'.cell? ⟨b,o,none⟩=W0.cell? ⟨b,o,none⟩)∧Below W0.heap.size W0 w') (first | with_reducible assumption | with_reducible exact keepS_here _ | with_reducible exact keepS_here2 _ | with_reducible exact keepS_call (by assumption) (by assumption) | with_reducible exact keepS_alloc (by assumption) _ | with_reducible exact keepS_allocD (by assumption) _ | with_reducible exact keepS_realloc (by assumption) (by assumption) | with_reducible exact keepS_set4 (by assumption) (by assumption))
   ((first
    | (go_at_call 18;((with_reducible refine (HC.out _).mono ?_);rintro e w4 ⟨rfl,hb4⟩;have hz4:=Nat.le_trans (And.right ‹(∀ b o,b<W0.heap.size→_)∧Below W0.heap.size W0 _›).size hb4.size;try (have hbq:=new_drew hb4;obtain ⟨bqc,bqf,bqz⟩:=hbq.facts)))
    | (go_at_call 50;((with_reducible refine (HF.out _ (HBX.out.trans ((And.right ‹(∀ b o,b<W0.heap.size→_)∧Below W0.heap.size W0 _›).mono HBX.out.size))).mono ?_);rintro e w5 ⟨rfl,hb5⟩;have hz5:=Nat.le_trans (And.right ‹(∀ b o,b<W0.heap.size→_)∧Below W0.heap.size W0 _›).size hb5.size;first | (have hbr:=hbq.keep hb5;obtain ⟨brc,brf,brz⟩:=hbr.facts) | (have hbr:=new_drew hb5;obtain ⟨brc,brf,brz⟩:=hbr.facts) | (have hbr:=new_keep hb5;obtain ⟨brc,brf,brz⟩:=hbr.facts) | skip))))
  all_goals
   obtain⟨-,hS4⟩:=‹_∧Below W0.heap.size W0 _›;have HS4:=Lib.hid hS4
   try (have HQ4:=Lib.hid hbr)
   clear hS4;go_wp2_with fail;go_meet;exact⟨_,rfl,rfl,by first | exact HQ4.out.set4 | exact Blk.new _ _ _,HBX.out.trans (HS4.out.mono HBX.out.size)⟩
 case rest=>
  obtain⟨Bd,rfl,rfl,hDX,hbY⟩:=hcut;generalize wc=X at hDX hbY ⊢;have HBY:=Lib.hid hbY;have HDX:=Lib.hid hDX;obtain⟨dc,df,dz⟩:=hDX.facts;clear hbX hDX hbY xc xf xz;by_cases h5:x5=0
  ·subst h5;have HR1:=Lib.hid (HR.out.trans (if_neg (by decide)));by_cases hn:x3=0
   ·have hnb:(x3 == 0)=true:=by simpa using hn
    have HR2:=Lib.hid (HR1.out.trans (if_pos hn));clear hn;go_wp2_with fail;go_ret2;rw [HR2.out];exact⟨rfl,HBY.out⟩
   ·have hnb:(x3 == 0)=false:=by simpa using hn
    have HR2:=Lib.hid (HR1.out.trans (if_neg hn));obtain⟨a,ha⟩:=HEn.out rfl hn;have HS2:=Lib.hid (HSt.out _ HBY.out x3);dsimp only at ha;rw [getZ_some ha] at HR2;rw [ha] at HS2;unfold stV noneE at HS2;clear hn ha HEn;go_wp2_with fail;refine HS2.out.mono ?_;rintro e w6 ⟨rfl,hb6⟩;have hY:=Blk.new w6 #[.int .i64 a.no,.int .i64 a.dev,.int .i64 a.kind,.int .i64 a.mode,.int .i64 a.uid,.int .i64 a.gid,.int .i64 a.links,.int .i64 a.data.size,.int .i64 a.mtime,.int .i64 a.ctime] 91;have hD6:=(HDX.out.keep hb6).old (.cells #[.int .i64 a.no,.int .i64 a.dev,.int .i64 a.kind,.int .i64 a.mode,.int .i64 a.uid,.int .i64 a.gid,.int .i64 a.links,.int .i64 a.data.size,.int .i64 a.mtime,.int .i64 a.ctime] 91);have hbY:=balloc (bnext HBY.out hb6) (.cells #[.int .i64 a.no,.int .i64 a.dev,.int .i64 a.kind,.int .i64 a.mode,.int .i64 a.uid,.int .i64 a.gid,.int .i64 a.links,.int .i64 a.data.size,.int .i64 a.mtime,.int .i64 a.ctime] 91);clear hb6 dc df dz;go_upto_region 7 with fail;generalize w6.alloc (.cells #[.int .i64 a.no,.int .i64 a.dev,.int .i64 a.kind,.int .i64 a.mode,.int .i64 a.uid,.int .i64 a.gid,.int .i64 a.links,.int .i64 a.data.size,.int .i64 a.mtime,.int .i64 a.ctime] 91)=W7 at hY hD6 hbY ⊢;have HBZ:=Lib.hid hbY;obtain⟨dc,df,dz⟩:=hD6.facts;obtain⟨yc,yf,yz⟩:=hY.facts;clear hY hD6 hbY;by_cases h1:a.kind=1
    ·have h1':(a.kind != 1)=false:=by simpa using h1
     have HR3:=Lib.hid (HR2.out.trans (if_neg (by simpa using h1)));clear h1;go_wp2_with fail;go_ret2;rw [HR3.out];exact⟨rfl,HBZ.out⟩
    ·have h1':(a.kind != 1)=true:=by simpa using h1
     have HR3:=Lib.hid (HR2.out.trans (if_pos h1));clear h1;go_wp2_with fail;go_ret2;rw [HR3.out];exact⟨rfl,HBZ.out⟩
  ·have h5':(x5 != 0)=true:=by simpa using h5
   have HR1:=Lib.hid (HR.out.trans (if_pos h5));clear h5;go_wp2_with fail;go_ret2;rw [HR1.out];exact⟨rfl,HBY.out⟩
theorem stZ (S:Fs) (k:Int):stV (S.get k)=.agg #[.int .i64 (S.getZ k).no,.int .i64 (S.getZ k).dev,.int .i64 (S.getZ k).kind,.int .i64 (S.getZ k).mode,.int .i64 (S.getZ k).uid,.int .i64 (S.getZ k).gid,.int .i64 (S.getZ k).links,.int .i64 (S.getZ k).data.size,.int .i64 (S.getZ k).mtime,.int .i64 (S.getZ k).ctime]:=by
 rcases getZ_cases S k with ⟨a,h1,h2⟩|⟨h1,h2⟩
 ·rw [h1,h2];rfl
 ·rw [h1,h2];rfl
theorem sticky_and (m:Int) (h:0≤m∧m≤1023):(bits .and .i64 m 512 == 0)=decide (m<512):=by
 have key:∀ k:Fin 1024,(bits .and .i64 (k.val:Int) 512 == 0)=decide ((k.val:Int)<512):=by decide +kernel
 have:=key ⟨m.toNat,by omega⟩;have hm:((m.toNat:Nat):Int)=m:=by omega
 simpa [hm] using this
theorem ccommon_any (h:SyAt w pf pw R pv Y) {N:Nat} (hk:FsOk Y.fs N) (hN:N≤999999) (hd:Y.dead=false) (u g:Int) (t:ByteArray) (top:Int) :
  Calls Tryz.prog 117 #[.pointer (some ⟨pf,0,none⟩),.agg #[.int .i64 u,.int .i64 g,.string t],.int .i64 top] w fun e w'=>e=.returned (.tuple #[.int .i64 (Y.fs.commonF false ⟨u,g⟩ top).1,.int .i64 (Y.fs.commonF false ⟨u,g⟩ top).2])∧Below w.heap.size w w':=by
 have hX:=Blk.new w #[.int .i64 u,.int .i64 g,.string t] 27;have hbX:=balloc (Below.refl w.heap.size w) (.cells #[.int .i64 u,.int .i64 g,.string t] 27);have HC:=Lib.hid (ccred_any u g t);have HL:=Lib.hid (fun w1 (hb1:Below w.heap.size w w1)=>slook_any (h.keep hb1) hk hN ⟨u,g⟩ top nShared);have HSt:=Lib.hid (fun w1 (hb:Below w.heap.size w w1) no=>sstat_any (h.keep hb) hk hd no);obtain⟨S,hS⟩:∃ S,Y.fs=S:=⟨_,rfl⟩;rw [hd] at HL;rw [hS] at HL HSt ⊢;have HMo:=Lib.hid (fun k=>sticky_and _ (show 0≤(S.getZ k).mode∧(S.getZ k).mode≤1023 from by
  rcases getZ_cases S k with ⟨a,h1,h2⟩|⟨-,h2⟩
  ·rw [h2];rw [←hS] at h1;exact (hk.get h1).1.mode
  ·rw [h2];decide))
 have HR:=Lib.hid (show S.commonF false ⟨u,g⟩ top=if (S.lookF false ⟨u,g⟩ top nShared).2≠0 then (0,(S.lookF false ⟨u,g⟩ top nShared).2) else comV (S.getZ (S.lookF false ⟨u,g⟩ top nShared).1) (S.getZ top) (S.lookF false ⟨u,g⟩ top nShared).1 from rfl);generalize S.commonF false ⟨u,g⟩ top=rd at HR ⊢;generalize S.lookF false ⟨u,g⟩ top nShared=r at HR HL;obtain⟨no,e1⟩:=r;unfold nShared at HL;dsimp only at HR HL;clear h hk hS hd;go_enter Tryz.func117,Tryz.ntmps117;go_upto_region 1 with fail;generalize w.alloc (.cells #[.int .i64 u,.int .i64 g,.string t] 27)=W0 at hX hbX ⊢;have HBX:=Lib.hid hbX;obtain⟨xc,xf,xz⟩:=hX.facts;clear hX hbX;go_wp2_with fail;refine (HC.out _).mono ?_;rintro e w1 ⟨rfl,hb1⟩;have HB1:=Lib.hid (bnext HBX.out hb1);clear hb1 xc xf xz;go_wp2_with fail;refine (HL.out _ HB1.out).mono ?_;rintro e w2 ⟨rfl,hb2⟩;have HB2:=Lib.hid (bnext HB1.out hb2);clear hb2;by_cases h0:e1=0
 ·subst h0;have HE:=Lib.hid (HR.out.trans (if_neg (by decide)));have HS1:=Lib.hid (HSt.out _ HB2.out no);have HM:=Lib.hid (HMo.out no);rw [stZ] at HS1;generalize noneE (S.get no)=ne at HS1;generalize S.getZ no=x at HE HS1 HM;go_wp2_with fail;refine HS1.out.mono ?_;rintro e w3 ⟨rfl,hb3⟩;have hb4:=balloc (bnext HB2.out hb3) (.cells #[.int .i64 x.no,.int .i64 x.dev,.int .i64 x.kind,.int .i64 x.mode,.int .i64 x.uid,.int .i64 x.gid,.int .i64 x.links,.int .i64 x.data.size,.int .i64 x.mtime,.int .i64 x.ctime] 91);have hN4:=Blk.new w3 #[.int .i64 x.no,.int .i64 x.dev,.int .i64 x.kind,.int .i64 x.mode,.int .i64 x.uid,.int .i64 x.gid,.int .i64 x.links,.int .i64 x.data.size,.int .i64 x.mtime,.int .i64 x.ctime] 91;clear hb3;go_upto_region 5 with fail;generalize w3.alloc (.cells #[.int .i64 x.no,.int .i64 x.dev,.int .i64 x.kind,.int .i64 x.mode,.int .i64 x.uid,.int .i64 x.gid,.int .i64 x.links,.int .i64 x.data.size,.int .i64 x.mtime,.int .i64 x.ctime] 91)=W4 at hb4 hN4 ⊢;have HB4:=Lib.hid hb4;have HN4:=Lib.hid hN4;have HS2:=Lib.hid (HSt.out _ HB4.out top);rw [stZ] at HS2;generalize noneE (S.get top)=nf at HS2;generalize S.getZ top=y at HE HS2;clear hb4 hN4;go_wp2_with fail;refine HS2.out.mono ?_;rintro e w5 ⟨rfl,hb5⟩;have hb6:=balloc (bnext HB4.out hb5) (.cells #[.int .i64 y.no,.int .i64 y.dev,.int .i64 y.kind,.int .i64 y.mode,.int .i64 y.uid,.int .i64 y.gid,.int .i64 y.links,.int .i64 y.data.size,.int .i64 y.mtime,.int .i64 y.ctime] 91);have hM6:=Blk.new w5 #[.int .i64 y.no,.int .i64 y.dev,.int .i64 y.kind,.int .i64 y.mode,.int .i64 y.uid,.int .i64 y.gid,.int .i64 y.links,.int .i64 y.data.size,.int .i64 y.mtime,.int .i64 y.ctime] 91;have hN6:=(HN4.out.keep hb5).old (.cells #[.int .i64 y.no,.int .i64 y.dev,.int .i64 y.kind,.int .i64 y.mode,.int .i64 y.uid,.int .i64 y.gid,.int .i64 y.links,.int .i64 y.data.size,.int .i64 y.mtime,.int .i64 y.ctime] 91);clear hb5;go_upto_region 6 with fail;generalize w5.alloc (.cells #[.int .i64 y.no,.int .i64 y.dev,.int .i64 y.kind,.int .i64 y.mode,.int .i64 y.uid,.int .i64 y.gid,.int .i64 y.links,.int .i64 y.data.size,.int .i64 y.mtime,.int .i64 y.ctime] 91)=W6 at hb6 hM6 hN6 ⊢;have HB6:=Lib.hid hb6;obtain⟨mc,mf,mz⟩:=hM6.facts;obtain⟨nc,nf',nz⟩:=hN6.facts;clear hb6 hM6 hN6;unfold comV at HE;by_cases h1:x.kind=1
  ·have h1':(x.kind != 1)=false:=by simpa using h1
   have HE1:=Lib.hid (HE.out.trans (if_neg (by simpa using h1)));by_cases h2:x.dev=y.dev
   ·have h2':(x.dev != y.dev)=false:=by simpa using h2
    have HE2:=Lib.hid (HE1.out.trans (if_neg (by simpa using h2)));by_cases h3:x.mode<512
    ·have h3':(bits .and .i64 x.mode 512 == 0)=true:=by rw [HM.out];simpa using h3
     have HE3:=Lib.hid (HE2.out.trans (if_pos h3));clear h1 h2 h3;go_wp2_with fail;go_ret2;rw [HE3.out];exact⟨rfl,HB6.out⟩
    ·have h3':(bits .and .i64 x.mode 512 == 0)=false:=by rw [HM.out];simpa using h3
     have HE3:=Lib.hid (HE2.out.trans (if_neg h3));clear h1 h2 h3;go_wp2_with fail;go_ret2;rw [HE3.out];exact⟨rfl,HB6.out⟩
   ·have h2':(x.dev != y.dev)=true:=by simpa using h2
    have HE2:=Lib.hid (HE1.out.trans (if_pos h2));clear h1 h2;go_wp2_with fail;go_ret2;rw [HE2.out];exact⟨rfl,HB6.out⟩
  ·have h1':(x.kind != 1)=true:=by simpa using h1
   have HE2:=Lib.hid (HE.out.trans (if_pos h1));clear h1;go_wp2_with fail;go_ret2;rw [HE2.out];exact⟨rfl,HB6.out⟩
 ·have h0':(e1 != 0)=true:=by simpa using h0
  have HE:=Lib.hid (HR.out.trans (if_pos h0));clear h0;go_wp2_with fail;go_ret2;rw [HE.out];exact⟨rfl,HB2.out⟩
theorem place_info:(Tryz.prog.info? 131).map (fun i=>(i.zero,i.size,i.bytes))=some (some (.agg #[.int .i64 0,.string ByteArray.empty,.string ByteArray.empty]),3,40):=by kernel_rfl
theorem cplaces_any (h:SyAt w pf pw R pv Y) {N:Nat} (hk:FsOk Y.fs N) (hN:N≤999999) (hd:Y.dead=false) (u:Us) (hu0:-9223372036854775808≤u.u) (hu1:u.u≤9223372036854775807) (top:Int) (path:ByteArray) :
  Calls Tryz.prog 58 #[.pointer (some ⟨pf,0,none⟩),.agg #[.int .i64 u.u,.int .i64 u.g,.string u.data],.int .i64 top,.string path] w fun e w'=>∃ v,e=.returned v∧OPl 131 w' w.heap.size v (Y.fs.placesF false u top path)∧Below w.heap.size w w':=by
 have hX:=Blk.new w #[.int .i64 u.u,.int .i64 u.g,.string u.data] 27;have hbX:=balloc (Below.refl w.heap.size w) (.cells #[.int .i64 u.u,.int .i64 u.g,.string u.data] 27);have HD:=Lib.hid (fun w=>dec_any u.u w hu0 hu1);have HC:=Lib.hid (fun w1 (hb1:Below w.heap.size w w1)=>ccommon_any (h.keep hb1) hk hN hd u.u u.g u.data top);have HR:=Lib.hid (show Y.fs.placesF false u top path=(if (Y.fs.commonF false ⟨u.u,u.g⟩ top).2=0 then [⟨(Y.fs.commonF false ⟨u.u,u.g⟩ top).1,str (decL u.u),path⟩] else []) ++ [⟨top,ByteArray.mk #[46,84,114,97,115,104,45] ++ str (decL u.u),path⟩] from rfl);generalize Y.fs.placesF false u top path=rd at HR ⊢;generalize Y.fs.commonF false ⟨u.u,u.g⟩ top=r at HR HC;have hid:(str (decL u.u)).size≤21:=by
  rw [str_size];exact (decL_len u.u hu0 hu1).1
 generalize str (decL u.u)=id at HR HD hid;obtain⟨no,e1⟩:=r;dsimp only at HR HC;clear h hk hd;go_enter Tryz.func58,Tryz.ntmps58;go_upto_region 1 with fail;generalize w.alloc (.cells #[.int .i64 u.u,.int .i64 u.g,.string u.data] 27)=W0 at hX hbX ⊢;have HX:=Lib.hid hX;have HBX:=Lib.hid hbX;obtain⟨xc,xf,xz⟩:=hX.facts;clear hX hbX;go_wp2_with fail;refine (HD.out _).mono ?_;rintro e w1 ⟨rfl,hb1⟩;have HB1:=Lib.hid (bnext HBX.out hb1);have hX1:=HX.out.keep hb1;clear hb1 xc xf xz;obtain⟨xc,xf,xz⟩:=hX1.facts;clear hX1;go_wp2_with fail;refine (HC.out _ HB1.out).mono ?_;rintro e w2 ⟨rfl,hb2⟩;have hB2:=bnext HB1.out hb2;have HB2:=Lib.hid hB2;clear hb2 xc xf xz;by_cases h0:e1=0
 ·subst h0;obtain⟨g1,c1,W1,r1,o1,b1⟩:=(OPl.nil 131 w2 w.heap.size).app (SE:=132) Tryz.underlying132 place_info ⟨no,id,path⟩ (by simp) hB2.size;obtain⟨g2,c2,W2,r2,o2,b2⟩:=o1.app (SE:=132) Tryz.underlying132 place_info ⟨top,ByteArray.mk #[46,84,114,97,115,104,45] ++ id,path⟩ (by simp) (Nat.le_trans hB2.size b1.size);have HR1:=Lib.hid r1;have HR2:=Lib.hid r2;have HO:=Lib.hid (And.intro o2 (And.intro b1 b2));have HE:=Lib.hid (show rd=[⟨no,id,path⟩] ++ [⟨top,ByteArray.mk #[46,84,114,97,115,104,45] ++ id,path⟩] by rw [HR.out];rfl);clear r1 r2 o1 o2 b1 b2 hB2;go_wp2_with (at_builtin;refine wpList_app_run rfl rfl rfl rfl (by first | exact HR1.out | exact HR2.out) ?_);go_ret;rw [HE.out];exact⟨_,rfl,HO.out.1,HB2.out.trans (HO.out.2.1.trans HO.out.2.2)⟩
 ·have h0':(e1 == 0)=false:=by simpa using h0
  obtain⟨g2,c2,W2,r2,o2,b2⟩:=(OPl.nil 131 w2 w.heap.size).app (SE:=132) Tryz.underlying132 place_info ⟨top,ByteArray.mk #[46,84,114,97,115,104,45] ++ id,path⟩ (by simp) hB2.size;have HR2:=Lib.hid r2;have HO:=Lib.hid (And.intro o2 b2);have HE:=Lib.hid (show rd=[] ++ [⟨top,ByteArray.mk #[46,84,114,97,115,104,45] ++ id,path⟩] by rw [HR.out,if_neg h0]);clear r2 o2 b2 hB2 h0;go_wp2_with (at_builtin;refine wpList_app_run rfl rfl rfl rfl HR2.out ?_);go_ret;rw [HE.out];exact⟨_,rfl,HO.out.1,HB2.out.trans HO.out.2⟩
end
end
section
open Go.RowKit
theorem slice_row {α:Type} {enc:α→List Value} {w:World} {sz n c:Nat} {a:Option Addr} {l:List α} (hl:∀ x,(enc x).length=sz) (h:SliceAt w sz (fun cs x=>cs=enc x) a n c l) (k:Nat) (hk:k<l.length) :
  ∃ b off,a=some ⟨b,off,none⟩∧b<w.heap.size∧∀ j (hj:j<sz),w.cell? ⟨b,off+k*sz+j,none⟩=some ((enc l[k])[j]'(by rw [hl];exact hj)):=by
 obtain⟨h1,-,-,h0 | ⟨b,off,he,hb,hel⟩⟩:=h
 ·omega
 ·obtain ⟨cs,k1,k2,k3⟩:=hel k hk;subst k2;exact⟨b,off,he,hb,fun j hj=>k3 j (by rw [hl];exact hj)⟩
def cnC (x:Cn):List Value:=[.string x.path,.int .i64 x.dir,.int .i64 x.info,.int .i64 x.files,.int .i64 x.out,.int .i64 x.way,.string x.top]
def cnQ (cs:List Value) (x:Cn):Prop:=cs=cnC x
def Cn.v (x:Cn):Value:=.agg #[.string x.path,.int .i64 x.dir,.int .i64 x.info,.int .i64 x.files,.int .i64 x.out,.int .i64 x.way,.string x.top]
def OCn (w:World) (base:Nat) (v:Value) (l:List Cn):Prop:=w.ownsRow base 38 7 v l.length (l.flatMap cnC)
theorem Blk.set7 {w:World} {B:Nat} {x0 x1 x2 x3 x4 x5 x6 v0 v1 v2 v3 v4 v5 v6:Value} {T:TypeId} (h:Blk w B #[x0,x1,x2,x3,x4,x5,x6] T):Blk (((((((w.setCell ⟨B,0,none⟩ v0).setCell ⟨B,1,none⟩ v1).setCell ⟨B,2,none⟩ v2).setCell ⟨B,3,none⟩ v3).setCell ⟨B,4,none⟩ v4).setCell ⟨B,5,none⟩ v5).setCell ⟨B,6,none⟩ v6) B #[v0,v1,v2,v3,v4,v5,v6] T:=
 ((((((h.set 0 v0).set 1 v1).set 2 v2).set 3 v3).set 4 v4).set 5 v5).set 6 v6
theorem below_set7 {N:Nat} {w0 w:World} {B:Nat} {v0 v1 v2 v3 v4 v5 v6:Value} (h:Below N w0 w) (hB:N≤B):Below N w0 (((((((w.setCell ⟨B,0,none⟩ v0).setCell ⟨B,1,none⟩ v1).setCell ⟨B,2,none⟩ v2).setCell ⟨B,3,none⟩ v3).setCell ⟨B,4,none⟩ v4).setCell ⟨B,5,none⟩ v5).setCell ⟨B,6,none⟩ v6):=
 ((((((h.setCell hB v0).setCell hB v1).setCell hB v2).setCell hB v3).setCell hB v4).setCell hB v5).setCell hB v6
theorem copen_results {tmps:Array Value} {W:World} {B:Nat} {x:Cn} {e:Int} (hb:Blk W B #[.string x.path,.int .i64 x.dir,.int .i64 x.info,.int .i64 x.files,.int .i64 x.out,.int .i64 x.way,.string x.top] 38)
  (h8:tmps.getD 6 undef=.pointer (some ⟨B,0,none⟩)) (h9:tmps.getD 7 undef=.int .i64 e):(results Tryz.f90 tmps).run Tryz.prog W=.ok (.tuple #[x.v,.int .i64 e]) W:=by
 have q0:=hb.cell 0;have q1:=hb.cell 1;have q2:=hb.cell 2;have q3:=hb.cell 3;have q4:=hb.cell 4;have q5:=hb.cell 5;have q6:=hb.cell 6;rw [Array.getD_eq_getD_getElem?] at h8 h9;simp [results,Tryz.results90,go_sem,Cn.v,h8,h9,q0,q1,q2,q3,q4,q5,q6]
theorem part_idx (s0 s1 s2 s3:ByteArray) (w:World):(Instr.index 216 (.agg #[.string s0,.string s1,.string s2,.string s3]) (.int .i64 0)).run Tryz.prog w=.ok (.string s0) w∧(Instr.index 216 (.agg #[.string s0,.string s1,.string s2,.string s3]) (.int .i64 1)).run Tryz.prog w=.ok (.string s1) w∧
  (Instr.index 216 (.agg #[.string s0,.string s1,.string s2,.string s3]) (.int .i64 2)).run Tryz.prog w=.ok (.string s2) w∧(Instr.index 216 (.agg #[.string s0,.string s1,.string s2,.string s3]) (.int .i64 3)).run Tryz.prog w=.ok (.string s3) w:=by
 refine ⟨?_,?_,?_,?_⟩ <;> first | kernel_rfl | rfl
inductive OpSt (S:Fs) (d:Bool) (c:Cr) (dir:Int) (top:ByteArray) (rd:Cn×Int):Value→Value→Value→Value→Value→Prop
 | s0:rd=S.openK4 d c dir top→OpSt S d c dir top rd (.int .i64 0) (.int .i64 0) (.int .i64 0) (.int .i64 0) (.int .i64 0)
 | s1 (i:Int):rd=S.openK3 d c dir top i→OpSt S d c dir top rd (.int .i64 1) (.int .i64 i) (.int .i64 0) (.int .i64 0) (.int .i64 0)
 | s2 (i f:Int):rd=S.openK2 d c dir top i f→OpSt S d c dir top rd (.int .i64 2) (.int .i64 i) (.int .i64 f) (.int .i64 0) (.int .i64 0)
 | s3 (i f o:Int):rd=S.openK1 d c dir top i f o→OpSt S d c dir top rd (.int .i64 3) (.int .i64 i) (.int .i64 f) (.int .i64 o) (.int .i64 0)
 | s4 (i f o y:Int):rd=S.openK0 dir top i f o y→OpSt S d c dir top rd (.int .i64 4) (.int .i64 i) (.int .i64 f) (.int .i64 o) (.int .i64 y)
section
variable {w w':World} {pf pw:Nat} {R:Rp} {pv:Value} {Y:Sy}
theorem copen_any (h:SyAt w pf pw R pv Y) {N:Nat} (hk:FsOk Y.fs N) (hN:N≤999999) (hp:Pl Y.fs) (hl:Y.fs.ns.length≤100000) (u:Us) (p:Plc) :
  Calls Tryz.prog 90 #[.pointer (some ⟨pf,0,none⟩),.agg #[.int .i64 u.u,.int .i64 u.g,.string u.data],.agg #[.int .i64 p.dir,.string p.name,.string p.top]] w fun e w'=>e=.returned (.tuple #[(Y.fs.openF Y.dead u p).1.v,.int .i64 (Y.fs.openF Y.dead u p).2])∧Below w.heap.size w w':=by
 have HO:=Lib.hid (fun w1 (hb1:Below w.heap.size w w1) dir n=>cown_any (h.keep hb1) hk hN u.u u.g u.data dir n);have HWh:=Lib.hid (fun w1 (hb1:Below w.heap.size w w1) d=>wwhere_any (h.wd.keep hb1) hk hp hl d);obtain⟨pc,-,pz⟩:=h.blk.facts;have HPC:=Lib.hid (fun w1 (hb1:Below w.heap.size w w1)=>show w1.cell? ⟨pf,0,none⟩=some (.pointer (some ⟨pw,0,none⟩)) from (hb1.cell (p:=⟨pf,0,none⟩) pz).trans (pc 0));obtain⟨S,hS⟩:∃ S,Y.fs=S:=⟨_,rfl⟩;obtain⟨b,hd⟩:∃ b,Y.dead=b:=⟨_,rfl⟩;rw [hS,hd] at HO;rw [hS] at HWh;rw [hS,hd];have HR:=Lib.hid (show S.openF b u p=if (thereV (S.ownF b ⟨u.u,u.g⟩ p.dir p.name)).2≠0 then (cn0,(thereV (S.ownF b ⟨u.u,u.g⟩ p.dir p.name)).2) else S.openK4 b ⟨u.u,u.g⟩ (thereV (S.ownF b ⟨u.u,u.g⟩ p.dir p.name)).1 p.top from rfl);generalize S.openF b u p=rd at HR ⊢;have hUX:=((Blk.new w #[.int .i64 u.u,.int .i64 u.g,.string u.data] 27).old (.cells #[.int .i64 p.dir,.string p.name,.string p.top] 131)).old (.cells #[.string ⟨#[]⟩,.int .i64 0,.int .i64 0,.int .i64 0,.int .i64 0,.int .i64 0,.string ⟨#[]⟩] 38);have hPX:Blk (((w.alloc (.cells #[.int .i64 u.u,.int .i64 u.g,.string u.data] 27)).alloc (.cells #[.int .i64 p.dir,.string p.name,.string p.top] 131)).alloc (.cells #[.string ⟨#[]⟩,.int .i64 0,.int .i64 0,.int .i64 0,.int .i64 0,.int .i64 0,.string ⟨#[]⟩] 38)) (w.heap.size+1) #[.int .i64 p.dir,.string p.name,.string p.top] 131:=by
  have:=(Blk.new (w.alloc (.cells #[.int .i64 u.u,.int .i64 u.g,.string u.data] 27)) #[.int .i64 p.dir,.string p.name,.string p.top] 131).old (.cells #[.string ⟨#[]⟩,.int .i64 0,.int .i64 0,.int .i64 0,.int .i64 0,.int .i64 0,.string ⟨#[]⟩] 38)
  rwa [World.size_alloc] at this
 have hRX:Blk (((w.alloc (.cells #[.int .i64 u.u,.int .i64 u.g,.string u.data] 27)).alloc (.cells #[.int .i64 p.dir,.string p.name,.string p.top] 131)).alloc (.cells #[.string ⟨#[]⟩,.int .i64 0,.int .i64 0,.int .i64 0,.int .i64 0,.int .i64 0,.string ⟨#[]⟩] 38)) (w.heap.size+1+1) #[.string ⟨#[]⟩,.int .i64 0,.int .i64 0,.int .i64 0,.int .i64 0,.int .i64 0,.string ⟨#[]⟩] 38:=by
  have:=Blk.new ((w.alloc (.cells #[.int .i64 u.u,.int .i64 u.g,.string u.data] 27)).alloc (.cells #[.int .i64 p.dir,.string p.name,.string p.top] 131)) #[.string ⟨#[]⟩,.int .i64 0,.int .i64 0,.int .i64 0,.int .i64 0,.int .i64 0,.string ⟨#[]⟩] 38
  rwa [World.size_alloc,World.size_alloc] at this
 have hbX:=balloc (balloc (balloc (Below.refl w.heap.size w) (.cells #[.int .i64 u.u,.int .i64 u.g,.string u.data] 27)) (.cells #[.int .i64 p.dir,.string p.name,.string p.top] 131)) (.cells #[.string ⟨#[]⟩,.int .i64 0,.int .i64 0,.int .i64 0,.int .i64 0,.int .i64 0,.string ⟨#[]⟩] 38);clear h hk hS hd pc pz hp hl;go_enter Tryz.func90,Tryz.ntmps90;go_upto_region 1 with fail;generalize ((w.alloc (.cells #[.int .i64 u.u,.int .i64 u.g,.string u.data] 27)).alloc (.cells #[.int .i64 p.dir,.string p.name,.string p.top] 131)).alloc (.cells #[.string ⟨#[]⟩,.int .i64 0,.int .i64 0,.int .i64 0,.int .i64 0,.int .i64 0,.string ⟨#[]⟩] 38)=W0 at hUX hPX hRX hbX ⊢;have HB0:=Lib.hid hbX;have HU0:=Lib.hid hUX;have HP0:=Lib.hid hPX;have HR0:=Lib.hid hRX;obtain⟨uc,uf,uz⟩:=hUX.facts;obtain⟨qc,qf,qz⟩:=hPX.facts;clear hUX hPX hRX hbX;have HO1:=Lib.hid (HO.out _ HB0.out p.dir p.name);generalize S.ownF b ⟨u.u,u.g⟩ p.dir p.name=r at HO1 HR;obtain⟨no,e1⟩:=r;dsimp only at HO1;go_wp2_with fail;refine HO1.out.mono ?_;rintro e w1 ⟨rfl,hb1⟩;have HB1:=Lib.hid (bnext HB0.out hb1);have HU1:=Lib.hid (HU0.out.keep hb1);have HP1:=Lib.hid (HP0.out.keep hb1);have HR1:=Lib.hid (HR0.out.keep hb1);have hwz:=HB0.out.size;obtain⟨rc,rf,rz⟩:=HR1.out.facts;clear hb1 uc uf uz qc qf qz;by_cases h0:e1=0
 ·subst h0;by_cases hn:no=0
  ·subst hn;have HE:=Lib.hid (show rd=(cn0,5) by rw [HR.out,thereV_z];rfl);go_wp2_with (exact bodyPost_ret (copen_results (x:=cn0) (e:=5) HR1.out.set7 rfl rfl) rfl ⟨by rw [HE.out],below_set7 HB1.out (by omega)⟩)
  ·have hn':(no == 0)=false:=by simpa using hn
   have HE:=Lib.hid (show rd=S.openK4 b ⟨u.u,u.g⟩ no p.top by rw [HR.out,thereV_0 hn,if_neg (by simp)]);clear HR HO1;go_upto_region 7 with fail;have hAX:=Blk.new w1 #[.int .i64 0,.int .i64 0,.int .i64 0,.int .i64 0] 252;have hbA:=balloc (Below.refl w1.heap.size w1) (.cells #[.int .i64 0,.int .i64 0,.int .i64 0,.int .i64 0] 252);generalize w1.alloc (.cells #[.int .i64 0,.int .i64 0,.int .i64 0,.int .i64 0] 252)=W2 at hAX hbA ⊢;have HA:=Lib.hid (And.intro hAX hbA);have hne1:w.heap.size+1+1≠w1.heap.size:=by
    have:=HR1.out.lt;omega
   clear hAX hbA rc rf rz hwz;go_wp2_with fail
   go_loopw [36] (fun t36 wr=>∃ v0 v1 v2 v3,OpSt S b ⟨u.u,u.g⟩ no p.top rd t36 v0 v1 v2 v3∧Blk wr w1.heap.size #[v0,v1,v2,v3] 252∧Below w1.heap.size w1 wr) (fun t36 _=>4 - (intOf t36).toNat)
   case atStart=>exact ⟨_,_,_,_,.s0 HE.out,HA.out.1,HA.out.2⟩
   case round=>
    obtain⟨v0,v1,v2,v3,hst,hba,hbr⟩:=hrel;have HAr:=Lib.hid hba;have HBr:=Lib.hid hbr;have HBW:=Lib.hid (HB1.out.trans (hbr.mono HB1.out.size));have hU:=HU1.out.keepB hbr HU1.out.lt;have hP:=HP1.out.keepB hbr HP1.out.lt;have hR:=HR1.out.keepB hbr HR1.out.lt;have HRr:=Lib.hid hR;have HPr:=Lib.hid hP;obtain⟨uc,uf,uz⟩:=hU.facts;obtain⟨ac,af,az⟩:=hba.facts;clear hba hbr hU hP hR
    cases hst with
    | s0 hE=>
     have HE1:=Lib.hid hE;have HOk:=Lib.hid (HO.out _ HBW.out no nInfo);have hix:=fun w=>(part_idx nInfo nFiles nOut nWay w).1;unfold Fs.openK4 at HE1;generalize S.ownF b ⟨u.u,u.g⟩ no nInfo=r at HOk HE1;obtain⟨n1,e1⟩:=r;dsimp only at HOk HE1;unfold nInfo nFiles nOut nWay at hix;unfold nInfo at HOk;clear hE;go_wp2_with fail;refine HOk.out.mono ?_;rintro e w2 ⟨rfl,hb2⟩;have hA2:=HAr.out.keep hb2;have hR2:=HRr.out.keep hb2;have hB2:=bnext HBr.out hb2;have HA2:=Lib.hid hA2;have HB2:=Lib.hid hB2;have HR3:=Lib.hid (hR2.setOther ⟨w1.heap.size,0,none⟩ (.int .i64 n1) hne1.symm);have HB3:=Lib.hid (show Below w1.heap.size w1 (w2.setCell ⟨w1.heap.size,0,none⟩ (.int .i64 n1)) from hB2.setCell (Nat.le_refl _) _);obtain⟨ac,af,az⟩:=hA2.facts;obtain⟨rc,rf,rz⟩:=hR2.facts;clear hb2 hA2 hR2 hB2 uc uf uz;by_cases h0:e1=0
     ·subst h0;by_cases hn1:n1=0
      ·subst hn1;have HE2:=Lib.hid (show rd=(cn0,5) by rw [HE1.out,thereV_z];rfl);go_wp2_with (exact bodyPost_ret (copen_results (x:=cn0) (e:=5) HR3.out.set7 rfl rfl) rfl ⟨by rw [HE2.out],below_set7 (HB1.out.trans (HB3.out.mono HB1.out.size)) (by omega)⟩)
      ·have hn1':(n1 == 0)=false:=by simpa using hn1
       have HE2:=Lib.hid (show rd=S.openK3 b ⟨u.u,u.g⟩ no p.top n1 by rw [HE1.out,thereV_0 hn1,if_neg (by simp)]);clear HE1 hn1;go_wp2_with fail;go_roundw
       case measure=>simp [intOf]
       case rel=>exact ⟨_,_,_,_,.s1 n1 HE2.out,HA2.out.set 0 _,HB3.out⟩
     ·have h0':(e1 == 0)=false:=by simpa using h0
      have h0'':(e1 != 0)=true:=by simpa using h0
      have HE2:=Lib.hid (show rd=(cn0,e1) by rw [HE1.out,thereV_e n1 h0,if_pos h0]);clear h0;go_wp2_with (exact bodyPost_ret (copen_results (x:=cn0) (e:=e1) HR3.out.set7 rfl rfl) rfl ⟨by rw [HE2.out],below_set7 (HB1.out.trans (HB3.out.mono HB1.out.size)) (by omega)⟩)
    | s1 i0 hE=>
     have HE1:=Lib.hid hE;have HOk:=Lib.hid (HO.out _ HBW.out no nFiles);have hix:=fun w=>(part_idx nInfo nFiles nOut nWay w).2.1;unfold Fs.openK3 at HE1;generalize S.ownF b ⟨u.u,u.g⟩ no nFiles=r at HOk HE1;obtain⟨n1,e1⟩:=r;dsimp only at HOk HE1;unfold nInfo nFiles nOut nWay at hix;unfold nFiles at HOk;clear hE;go_wp2_with fail;refine HOk.out.mono ?_;rintro e w2 ⟨rfl,hb2⟩;have hA2:=HAr.out.keep hb2;have hR2:=HRr.out.keep hb2;have hB2:=bnext HBr.out hb2;have HA2:=Lib.hid hA2;have HB2:=Lib.hid hB2;have HR3:=Lib.hid (hR2.setOther ⟨w1.heap.size,1,none⟩ (.int .i64 n1) hne1.symm);have HB3:=Lib.hid (show Below w1.heap.size w1 (w2.setCell ⟨w1.heap.size,1,none⟩ (.int .i64 n1)) from hB2.setCell (Nat.le_refl _) _);obtain⟨ac,af,az⟩:=hA2.facts;obtain⟨rc,rf,rz⟩:=hR2.facts;clear hb2 hA2 hR2 hB2 uc uf uz;by_cases h0:e1=0
     ·subst h0;by_cases hn1:n1=0
      ·subst hn1;have HE2:=Lib.hid (show rd=(cn0,5) by rw [HE1.out,thereV_z];rfl);go_wp2_with (exact bodyPost_ret (copen_results (x:=cn0) (e:=5) HR3.out.set7 rfl rfl) rfl ⟨by rw [HE2.out],below_set7 (HB1.out.trans (HB3.out.mono HB1.out.size)) (by omega)⟩)
      ·have hn1':(n1 == 0)=false:=by simpa using hn1
       have HE2:=Lib.hid (show rd=S.openK2 b ⟨u.u,u.g⟩ no p.top i0 n1 by rw [HE1.out,thereV_0 hn1,if_neg (by simp)]);clear HE1 hn1;go_wp2_with fail;go_roundw
       case measure=>simp [intOf]
       case rel=>exact ⟨_,_,_,_,.s2 i0 n1 HE2.out,HA2.out.set 1 _,HB3.out⟩
     ·have h0':(e1 == 0)=false:=by simpa using h0
      have h0'':(e1 != 0)=true:=by simpa using h0
      have HE2:=Lib.hid (show rd=(cn0,e1) by rw [HE1.out,thereV_e n1 h0,if_pos h0]);clear h0;go_wp2_with (exact bodyPost_ret (copen_results (x:=cn0) (e:=e1) HR3.out.set7 rfl rfl) rfl ⟨by rw [HE2.out],below_set7 (HB1.out.trans (HB3.out.mono HB1.out.size)) (by omega)⟩)
    | s2 i0 f0 hE=>
     have HE1:=Lib.hid hE;have HOk:=Lib.hid (HO.out _ HBW.out no nOut);have hix:=fun w=>(part_idx nInfo nFiles nOut nWay w).2.2.1;unfold Fs.openK2 at HE1;generalize S.ownF b ⟨u.u,u.g⟩ no nOut=r at HOk HE1;obtain⟨n1,e1⟩:=r;dsimp only at HOk HE1;unfold nInfo nFiles nOut nWay at hix;unfold nOut at HOk;clear hE;go_wp2_with fail;refine HOk.out.mono ?_;rintro e w2 ⟨rfl,hb2⟩;have hA2:=HAr.out.keep hb2;have hR2:=HRr.out.keep hb2;have hB2:=bnext HBr.out hb2;have HA2:=Lib.hid hA2;have HB2:=Lib.hid hB2;have HR3:=Lib.hid (hR2.setOther ⟨w1.heap.size,2,none⟩ (.int .i64 n1) hne1.symm);have HB3:=Lib.hid (show Below w1.heap.size w1 (w2.setCell ⟨w1.heap.size,2,none⟩ (.int .i64 n1)) from hB2.setCell (Nat.le_refl _) _);obtain⟨ac,af,az⟩:=hA2.facts;obtain⟨rc,rf,rz⟩:=hR2.facts;clear hb2 hA2 hR2 hB2 uc uf uz;by_cases h0:e1=0
     ·subst h0;have HE2:=Lib.hid (show rd=S.openK1 b ⟨u.u,u.g⟩ no p.top i0 f0 n1 by rw [HE1.out,if_neg (by simp)]);clear HE1
      cases hz:(n1 == 0) with
      | true=>
       go_wp2_with fail;go_roundw
       case measure=>simp [intOf]
       case rel=>exact ⟨_,_,_,_,.s3 i0 f0 n1 HE2.out,HA2.out.set 2 _,HB3.out⟩
      | false=>
       go_wp2_with fail;go_roundw
       case measure=>simp [intOf]
       case rel=>exact ⟨_,_,_,_,.s3 i0 f0 n1 HE2.out,HA2.out.set 2 _,HB3.out⟩
     ·have h0':(e1 == 0)=false:=by simpa using h0
      have h0'':(e1 != 0)=true:=by simpa using h0
      have HE2:=Lib.hid (show rd=(cn0,e1) by rw [HE1.out,if_pos h0]);clear h0;go_wp2_with (exact bodyPost_ret (copen_results (x:=cn0) (e:=e1) HR3.out.set7 rfl rfl) rfl ⟨by rw [HE2.out],below_set7 (HB1.out.trans (HB3.out.mono HB1.out.size)) (by omega)⟩)
    | s3 i0 f0 o0 hE=>
     have HE1:=Lib.hid hE;have HOk:=Lib.hid (HO.out _ HBW.out no nWay);have hix:=fun w=>(part_idx nInfo nFiles nOut nWay w).2.2.2;unfold Fs.openK1 at HE1;generalize S.ownF b ⟨u.u,u.g⟩ no nWay=r at HOk HE1;obtain⟨n1,e1⟩:=r;dsimp only at HOk HE1;unfold nInfo nFiles nOut nWay at hix;unfold nWay at HOk;clear hE;go_wp2_with fail;refine HOk.out.mono ?_;rintro e w2 ⟨rfl,hb2⟩;have hA2:=HAr.out.keep hb2;have hR2:=HRr.out.keep hb2;have hB2:=bnext HBr.out hb2;have HA2:=Lib.hid hA2;have HB2:=Lib.hid hB2;have HR3:=Lib.hid (hR2.setOther ⟨w1.heap.size,3,none⟩ (.int .i64 n1) hne1.symm);have HB3:=Lib.hid (show Below w1.heap.size w1 (w2.setCell ⟨w1.heap.size,3,none⟩ (.int .i64 n1)) from hB2.setCell (Nat.le_refl _) _);obtain⟨ac,af,az⟩:=hA2.facts;obtain⟨rc,rf,rz⟩:=hR2.facts;clear hb2 hA2 hR2 hB2 uc uf uz;by_cases h0:e1=0
     ·subst h0;have HE2:=Lib.hid (show rd=S.openK0 no p.top i0 f0 o0 n1 by rw [HE1.out,if_neg (by simp)]);clear HE1
      cases hz:(n1 == 0) with
      | true=>
       go_wp2_with fail;go_roundw
       case measure=>simp [intOf]
       case rel=>exact ⟨_,_,_,_,.s4 i0 f0 o0 n1 HE2.out,HA2.out.set 3 _,HB3.out⟩
      | false=>
       go_wp2_with fail;go_roundw
       case measure=>simp [intOf]
       case rel=>exact ⟨_,_,_,_,.s4 i0 f0 o0 n1 HE2.out,HA2.out.set 3 _,HB3.out⟩
     ·have h0':(e1 == 0)=false:=by simpa using h0
      have h0'':(e1 != 0)=true:=by simpa using h0
      have HE2:=Lib.hid (show rd=(cn0,e1) by rw [HE1.out,if_pos h0]);clear h0;go_wp2_with (exact bodyPost_ret (copen_results (x:=cn0) (e:=e1) HR3.out.set7 rfl rfl) rfl ⟨by rw [HE2.out],below_set7 (HB1.out.trans (HB3.out.mono HB1.out.size)) (by omega)⟩)
    | s4 i0 f0 o0 y0 hE=>
     have HE1:=Lib.hid hE;have HWk:=Lib.hid (HWh.out _ HBW.out no);have pc0:=HPC.out _ HBW.out;unfold Fs.openK0 at HE1;unfold whereV at HWk;clear hE uc uf uz ac af az
     cases hpl:S.place_ no with
     | none=>
      rw [hpl] at HE1 HWk;clear hpl;go_wp2_with fail;refine HWk.out.mono ?_;rintro e w2 ⟨rfl,hb2⟩;have hR2:=HRr.out.keep hb2;have HR2:=Lib.hid hR2;have HB2:=Lib.hid (bnext HBW.out hb2);obtain⟨rc,rf,rz⟩:=hR2.facts;clear hb2 hR2 pc0;go_wp2_with (exact bodyPost_ret (copen_results (x:=cn0) (e:=5) HR2.out.set7 rfl rfl) rfl ⟨by rw [HE1.out],below_set7 HB2.out (by omega)⟩)
     | some s=>
      rw [hpl] at HE1 HWk;clear hpl;go_wp2_with fail;refine HWk.out.mono ?_;rintro e w2 ⟨rfl,hb2⟩;have hR2:=HRr.out.keep hb2;have hA2:=HAr.out.keep hb2;have hP2:=HPr.out.keep hb2;have HR2:=Lib.hid hR2;have HB2:=Lib.hid (bnext HBW.out hb2);obtain⟨rc,rf,rz⟩:=hR2.facts;obtain⟨ac,af,az⟩:=hA2.facts;obtain⟨qc,qf,qz⟩:=hP2.facts;clear hb2 hR2 hA2 hP2 pc0;go_wp2_with (exact bodyPost_ret (copen_results (x:=⟨s,no,i0,f0,o0,y0,p.top⟩) (e:=0) HR2.out.set7 rfl rfl) rfl ⟨by rw [HE1.out],below_set7 HB2.out (by omega)⟩)
 ·have h0':(e1 == 0)=false:=by simpa using h0
  have h0'':(e1 != 0)=true:=by simpa using h0
  have HE:=Lib.hid (show rd=(cn0,e1) by rw [HR.out,thereV_e no h0,if_pos h0]);clear h0;go_wp2_with (exact bodyPost_ret (copen_results (x:=cn0) (e:=e1) HR1.out.set7 rfl rfl) rfl ⟨by rw [HE.out],below_set7 HB1.out (by omega)⟩)
end
end
end Go.Proofs.YtihdbncoijhihaaGreat
