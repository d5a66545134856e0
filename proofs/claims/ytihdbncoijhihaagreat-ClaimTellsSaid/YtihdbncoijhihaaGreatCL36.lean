import Derived.Test.YtihdbncoijhihaaGreatCL35
import Derived.Test.YtihdbncoijhihaaGreatCL29
import Derived.Test.YtihdbncoijhihaaGreatCL25
import Derived.Test.YtihdbncoijhihaaGreatCL33
set_option linter.unusedVariables false
set_option linter.unusedSimpArgs false
set_option maxRecDepth 100000
set_option maxHeartbeats 16000000
namespace Go.Proofs.YtihdbncoijhihaaGreat
section
open Go.RowKit
section
variable {w w' w'':World} {B pf:Nat} {R:Rf} {Y:Sy}
theorem rpart_at (k:Nat) (hk:k<4):∃ s,partNs.drop k=s :: partNs.drop (k+1)∧s.size≤100000∧(#[.string (ByteArray.mk #[105,110,102,111]),.string (ByteArray.mk #[102,105,108,101,115]),.string (ByteArray.mk #[101,120,112,117,110,103,101,100]),.string (ByteArray.mk #[109,111,118,105,110,103])]:Array Value)[k]? = some (.string s):=by
 rcases (by omega:k=0∨k=1∨k=2∨k=3) with rfl | rfl | rfl | rfl
 ·exact ⟨_,rfl,by decide,rfl⟩
 ·exact ⟨_,rfl,by decide,rfl⟩
 ·exact ⟨_,rfl,by decide,rfl⟩
 ·exact ⟨_,rfl,by decide,rfl⟩
theorem rready_any (h:RyAt w B pf R Y) {N:Nat} (hk:SyOk Y N) (hN:N≤80000) (u:Us) (p:Plc) (hn:p.name.size≤100000) :
  Calls Tryz.prog 69 #[.pointer (some ⟨pf,0,none⟩),.agg #[.int .i64 u.u,.int .i64 u.g,.string u.data],.agg #[.int .i64 p.dir,.string p.name,.string p.top]] w fun e w'=>
   e=.returned (.tuple #[(Y.readyF u p).2.1.v,.int .i64 (Y.readyF u p).2.2])∧GoesR w w' B pf R (Y.readyF u p).1:=by
 obtain⟨hUX,hPX,hRX,hbX⟩:=boxes3 w #[.int .i64 u.u,.int .i64 u.g,.string u.data] #[.int .i64 p.dir,.string p.name,.string p.top] #[.string ⟨#[]⟩,.int .i64 0,.int .i64 0,.int .i64 0,.int .i64 0,.int .i64 0,.string ⟨#[]⟩] 27 153 38;have hD:=fun w1 (hb1:Below w.heap.size w w1)=>rdir30_any (h.keep hb1) hk (by omega) u p.dir p.name hn;have HH:=Lib.hid (fun w1 (hb1:Below w.heap.size w w1)=>h.keep hb1);have HR:=Lib.hid (show Y.readyF u p=if (Y.dirF u p.dir p.name).2.2≠0 then ((Y.dirF u p.dir p.name).1,cn0,(Y.dirF u p.dir p.name).2.2) else if ((Y.dirF u p.dir p.name).1.dirsF u (Y.dirF u p.dir p.name).2.1 partNs).2≠0 then (((Y.dirF u p.dir p.name).1.dirsF u (Y.dirF u p.dir p.name).2.1 partNs).1,cn0,((Y.dirF u p.dir p.name).1.dirsF u (Y.dirF u p.dir p.name).2.1 partNs).2) else (((Y.dirF u p.dir p.name).1.dirsF u (Y.dirF u p.dir p.name).2.1 partNs).1,((Y.dirF u p.dir p.name).1.dirsF u (Y.dirF u p.dir p.name).2.1 partNs).1.fs.openF ((Y.dirF u p.dir p.name).1.dirsF u (Y.dirF u p.dir p.name).2.1 partNs).1.dead u p) from rfl);have HBw:=Lib.hid h.size;have HK1:=Lib.hid (hk.dirF u p.dir p.name);have HP3:=Lib.hid (rpart_at);generalize Y.readyF u p=rd at HR ⊢;generalize Y.dirF u p.dir p.name=r at HR HK1 hD;obtain⟨Y1,no,e1⟩:=r;dsimp only at HR HK1 hD;have HD:=Lib.hid hD;clear h hk hD;go_enter Tryz.func69,Tryz.ntmps69;go_upto_region 1 with fail;generalize ((w.alloc (.cells #[.int .i64 u.u,.int .i64 u.g,.string u.data] 27)).alloc (.cells #[.int .i64 p.dir,.string p.name,.string p.top] 153)).alloc (.cells #[.string ⟨#[]⟩,.int .i64 0,.int .i64 0,.int .i64 0,.int .i64 0,.int .i64 0,.string ⟨#[]⟩] 38)=W0 at hUX hPX hRX hbX ⊢;have HB0:=Lib.hid hbX;have HW0:=Lib.hid (And.intro hUX (And.intro hPX hRX));obtain⟨uc,uf,uz⟩:=hUX.facts;obtain⟨qc,qf,qz⟩:=hPX.facts;clear hUX hPX hRX hbX;go_wp2_with fail;refine (HD.out _ HB0.out).mono ?_;rintro e w1 ⟨rfl,R1,hY1,hS1⟩;have hy0:=HH.out _ HB0.out;have hU1:=HW0.out.1.ry hy0 hS1 (by decide);have hP1:=HW0.out.2.1.ry hy0 hS1 (by decide);have hR1:=HW0.out.2.2.ry hy0 hS1 (by decide);have HG1:=Lib.hid (show GoesR w w1 B pf R Y1 from ⟨R1,hY1,(Stp.of_below HB0.out).trans hS1⟩);have HB1:=Lib.hid (And.intro hU1 (And.intro hP1 hR1));obtain⟨rc,rf,rz⟩:=hR1.facts;clear hy0 hY1 hS1 hU1 hP1 hR1 uc uf uz qc qf qz;by_cases h0:e1=0
 ·have h0b:(e1 != 0)=false:=by simpa using h0
  have HE:=Lib.hid (HR.out.trans (if_neg (by simpa using h0)));subst h0;clear rc rf rz;have mixed:Tryz.prog.follows .mixedOrders=true:=by kernel_rfl
  have HA:=Lib.hid (balloc (Below.refl w1.heap.size w1) (.cells #[.string (ByteArray.mk #[105,110,102,111]),.string (ByteArray.mk #[102,105,108,101,115]),.string (ByteArray.mk #[101,120,112,117,110,103,101,100]),.string (ByteArray.mk #[109,111,118,105,110,103])] 9));have HSl:=Lib.hid (Blk.new w1 #[.string (ByteArray.mk #[105,110,102,111]),.string (ByteArray.mk #[102,105,108,101,115]),.string (ByteArray.mk #[101,120,112,117,110,103,101,100]),.string (ByteArray.mk #[109,111,118,105,110,103])] 9);have hsz1:w.heap.size≤w1.heap.size:=by have:=HB1.out.1.lt;omega
  go_wp2_with fail
  go_loopw [11] (fun t11 wr=>∃ (k:Nat) (Z:Sy),k≤4∧t11=.int .i64 k∧Y1.dirsF u no partNs=Z.dirsF u no (partNs.drop k)∧SyOk Z (N+1+k)∧GoesR w wr B pf R Z∧Blk wr w.heap.size #[.int .i64 u.u,.int .i64 u.g,.string u.data] 27∧Blk wr (w.heap.size+1) #[.int .i64 p.dir,.string p.name,.string p.top] 153∧Blk wr (w.heap.size+1+1) #[.string ⟨#[]⟩,.int .i64 0,.int .i64 0,.int .i64 0,.int .i64 0,.int .i64 0,.string ⟨#[]⟩] 38∧Blk wr w1.heap.size #[.string (ByteArray.mk #[105,110,102,111]),.string (ByteArray.mk #[102,105,108,101,115]),.string (ByteArray.mk #[101,120,112,117,110,103,101,100]),.string (ByteArray.mk #[109,111,118,105,110,103])] 9) (fun t11 _=>4 - (intOf t11).toNat)
  case atStart=>exact ⟨0,Y1,by omega,rfl,rfl,HK1.out,HG1.out.below HA.out,HB1.out.1.keep HA.out,HB1.out.2.1.keep HA.out,HB1.out.2.2.keep HA.out,HSl.out⟩
  case round=>
   obtain⟨k,Z,hk,rfl,hd,hok,hg,hu,hp,hr,hs⟩:=hrel;obtain⟨Rk,hYk,hSk⟩:=hg;by_cases hlt:k<4
   ·obtain ⟨s,hs1,hs2,hix⟩:=HP3.out k hlt;have hdr:Below wr.heap.size wr wr.drew:=(Below.refl wr.heap.size wr).drew;have HU:=Lib.hid (And.intro (hYk.keep hdr) (And.intro (hSk.trans (Stp.of_below hdr)) (And.intro (hu.keep hdr) (And.intro (hp.keep hdr) (And.intro (hr.keep hdr) (hs.keep hdr))))));have HDk:=Lib.hid (rdir30_any (hYk.keep hdr) hok (by omega) u no s hs2);have HOK2:=Lib.hid (hok.dirF u no s);have HDr:=Lib.hid (show Y1.dirsF u no partNs=if (Z.dirF u no s).2.2≠0 then ((Z.dirF u no s).1,(Z.dirF u no s).2.2) else (Z.dirF u no s).1.dirsF u no (partNs.drop (k+1)) by rw [hd,hs1];rfl);generalize Z.dirF u no s=r at HDk HOK2 HDr;obtain⟨Z2,n2,e2⟩:=r;dsimp only at HDk HOK2 HDr;obtain⟨uc,uf,uz⟩:=hu.facts;have hsc:wr.cell? ⟨w1.heap.size,k,none⟩=some (.string s):=by
     have:=hs.cell k;rw [this];exact hix
    have hsz:w1.heap.size<wr.heap.size:=hs.lt;clear hYk hSk hu hp hr hs hd hok hs1 hdr;go_upto_region 8 with fail;refine wp_region_lex 7 mixed (by kernel_rfl) (show PanicOk _ from by repeat (first | exact pk_body | refine pk_then ?_ | refine pk_block ?_ | refine pk_scope ?_)) ?_;simp only [List.take_succ_cons,List.take_zero,List.drop_succ_cons,List.drop_zero]
    repeat still_step
    refine wpStill_nil ?_;go_wp2_with fail;refine HDk.out.mono ?_;rintro e w2 ⟨rfl,R2,hY2,hS2⟩;obtain⟨hYk,hSk,hu,hp,hr,hs⟩:=HU.out;have hu2:=hu.ry hYk hS2 (by decide);have hp2:=hp.ry hYk hS2 (by decide);have hr2:=hr.ry hYk hS2 (by decide);have hs2':=hs.ry hYk hS2 (by decide);have HG2:=Lib.hid (show GoesR w w2 B pf R Z2 from ⟨R2,hY2,hSk.trans hS2⟩);have HB2:=Lib.hid (And.intro hu2 (And.intro hp2 hr2));have HS2:=Lib.hid hs2';obtain⟨rc,rf,rz⟩:=hr2.facts;clear hYk hSk hu hp hr hs hu2 hp2 hr2 hs2' hY2 hS2 uc uf uz hix hsc hsz;by_cases h2:e2=0
    ·have h2b:(e2 != 0)=false:=by simpa using h2
     have HD2:=Lib.hid (HDr.out.trans (if_neg (by simpa using h2)));subst h2;clear rc rf rz;go_wp2_with fail;go_roundw
     case measure=>simp [intOf];omega
     case rel=>exact ⟨k+1,Z2,by omega,by go_num,HD2.out,HOK2.out,HG2.out,HB2.out.1,HB2.out.2.1,HB2.out.2.2,HS2.out⟩
    ·have h2b:(e2 != 0)=true:=by simpa using h2
     have HD2:=Lib.hid (HDr.out.trans (if_pos h2));have HE2:=Lib.hid (HE.out.trans (if_pos (by rw [HD2.out];exact h2)));clear h2;go_wp2_with (exact bodyPost_ret (rready_results (x:=cn0) (e:=e2) HB2.out.2.2.set7 rfl rfl) rfl ⟨by rw [HE2.out,HD2.out],by rw [HE2.out,HD2.out];exact HG2.out.set7 HBw.out HB2.out.2.2 (by omega) _ _ _ _ _ _ _⟩)
   ·obtain rfl:k=4:=by omega
    have hd4:Y1.dirsF u no partNs=(Z,0):=hd;have HE3:=Lib.hid (show rd=(Z,Z.fs.openF Z.dead u p) by rw [HE.out,hd4];rfl);have hlen:Z.fs.ns.length≤100000:=by
     have h1:=hok.fine.pl.len;have h2:=hok.fine.ok.lN;omega
    have HU:=Lib.hid (And.intro hYk (And.intro hSk (And.intro hu (And.intro hp hr))));have HOp:=Lib.hid (ropen30_any hYk.r hok.fine.ok hok.fine.pl hlen hYk.dd u p);unfold Cn.v at HOp;generalize Z.fs.openF Z.dead u p=o at HOp HE3;obtain⟨x,e3⟩:=o;dsimp only at HOp;obtain⟨uc,uf,uz⟩:=hu.facts;obtain⟨qc,qf,qz⟩:=hp.facts;clear hYk hSk hu hp hr hs hd hok hd4 hlen;go_wp2_with fail;refine HOp.out.mono ?_;rintro e w2 ⟨rfl,hb2⟩;obtain⟨hYk,hSk,hu,hp,hr⟩:=HU.out;have hr2:=hr.keep hb2;have HG2:=Lib.hid (show GoesR w w2 B pf R Z from ⟨Rk,hYk.keep hb2,hSk.trans (Stp.of_below hb2)⟩);have HB2:=Lib.hid hr2;obtain⟨rc,rf,rz⟩:=hr2.facts;clear hYk hSk hu hp hr hr2 hb2 uc uf uz qc qf qz;go_wp2_with (exact bodyPost_ret (rready_results (x:=x) (e:=e3) HB2.out.set7 rfl rfl) rfl ⟨by rw [HE3.out],by rw [HE3.out];exact HG2.out.set7 HBw.out HB2.out (by omega) _ _ _ _ _ _ _⟩)
 ·have h0b:(e1 != 0)=true:=by simpa using h0
  have HE:=Lib.hid (HR.out.trans (if_pos h0));clear h0;go_wp2_with (exact bodyPost_ret (rready_results (x:=cn0) (e:=e1) HB1.out.2.2.set7 rfl rfl) rfl ⟨by rw [HE.out],by rw [HE.out];exact HG1.out.set7 HBw.out HB1.out.2.2 (by omega) _ _ _ _ _ _ _⟩)
end
end
section
open Go.RowKit
theorem en_eq (s:ByteArray) (k:Int) (w:World):(Op.equalIn 10000 146 (.agg #[.string s,.int .i64 k]) (.agg #[.string s,.int .i64 k])).run Tryz.prog w=.ok true w:=by
 have u1:=Tryz.underlying9;have u2:=Tryz.underlying3;have a1:=Tryz.isAgg9;have z1:=Tryz.sizeOf9;have a2:=Tryz.isAgg3;have z2:=Tryz.sizeOf3;have hS:Tryz.prog.underlying 146=some (.struct (Tryz.prog.fieldsOf 146)):=by kernel_rfl
 have hp:Tryz.prog.stoodInHeld 146=false:=by kernel_rfl
 rw [show (10000:Nat)=9999+1 from rfl,run_equalIn_agg w 9999 146 _ _ hS hp];simp only [Program.fieldsOf,Tryz.underlying146];go_simp
theorem en_neq (s:ByteArray) (k:Int) (w:World):(binOp .neq 146 (.agg #[.string s,.int .i64 k]) (.agg #[.string s,.int .i64 k])).run Tryz.prog w=.ok (.bool false) w:=by
 rw [run_neq_struct,en_eq];rfl
theorem sp_eq (b n mb mn:Int) (w:World):(Op.equalIn 10000 212 (.agg #[.int .i64 b,.int .i64 n,.int .i64 mb,.int .i64 mn]) (.agg #[.int .i64 b,.int .i64 n,.int .i64 mb,.int .i64 mn])).run Tryz.prog w=.ok true w:=by
 have u2:=Tryz.underlying3;have a2:=Tryz.isAgg3;have z2:=Tryz.sizeOf3;have hS:Tryz.prog.underlying 212=some (.struct (Tryz.prog.fieldsOf 212)):=by kernel_rfl
 have hp:Tryz.prog.stoodInHeld 212=false:=by kernel_rfl
 rw [show (10000:Nat)=9999+1 from rfl,run_equalIn_agg w 9999 212 _ _ hS hp];simp only [Program.fieldsOf,Tryz.underlying212];go_simp
theorem sp_neq (b n mb mn:Int) (w:World):(binOp .neq 212 (.agg #[.int .i64 b,.int .i64 n,.int .i64 mb,.int .i64 mn]) (.agg #[.int .i64 b,.int .i64 n,.int .i64 mb,.int .i64 mn])).run Tryz.prog w=.ok (.bool false) w:=by
 rw [run_neq_struct,sp_eq];rfl
theorem sameN_any (a:An) {ea fa:Option Addr} {el ec fl fc:Nat} (w:World) (he:EntsAt w ea el ec a.ents) (hf:EntsAt w fa fl fc a.ents) :
  Calls Tryz.prog 195 #[.agg #[.int .i64 a.no,.int .i64 a.dev,.int .i64 a.kind,.int .i64 a.mode,.int .i64 a.uid,.int .i64 a.gid,.int .i64 a.mtime,.int .i64 a.ctime,.int .i64 a.links,.int .i64 a.up,.string a.data,.slice ea el ec],.agg #[.int .i64 a.no,.int .i64 a.dev,.int .i64 a.kind,.int .i64 a.mode,.int .i64 a.uid,.int .i64 a.gid,.int .i64 a.mtime,.int .i64 a.ctime,.int .i64 a.links,.int .i64 a.up,.string a.data,.slice fa fl fc]] w fun e w'=>e=.returned (.bool true)∧Below w.heap.size w w':=by
 have h1:=he.len;have h2:=hf.len;subst h1 h2;have hlen:a.ents.length≤9223372036854775807:=by have:=he.sl.2.1;have:=he.sl.2.2.1;omega
 have q0:=(Blk.new w #[.int .i64 a.no,.int .i64 a.dev,.int .i64 a.kind,.int .i64 a.mode,.int .i64 a.uid,.int .i64 a.gid,.int .i64 a.mtime,.int .i64 a.ctime,.int .i64 a.links,.int .i64 a.up,.string a.data,.slice ea a.ents.length ec] 49).old (.cells #[.int .i64 a.no,.int .i64 a.dev,.int .i64 a.kind,.int .i64 a.mode,.int .i64 a.uid,.int .i64 a.gid,.int .i64 a.mtime,.int .i64 a.ctime,.int .i64 a.links,.int .i64 a.up,.string a.data,.slice fa a.ents.length fc] 49);have q1:=Blk.new (w.alloc (.cells #[.int .i64 a.no,.int .i64 a.dev,.int .i64 a.kind,.int .i64 a.mode,.int .i64 a.uid,.int .i64 a.gid,.int .i64 a.mtime,.int .i64 a.ctime,.int .i64 a.links,.int .i64 a.up,.string a.data,.slice ea a.ents.length ec] 49)) #[.int .i64 a.no,.int .i64 a.dev,.int .i64 a.kind,.int .i64 a.mode,.int .i64 a.uid,.int .i64 a.gid,.int .i64 a.mtime,.int .i64 a.ctime,.int .i64 a.links,.int .i64 a.up,.string a.data,.slice fa a.ents.length fc] 49;have hB:=balloc (balloc (Below.refl w.heap.size w) (.cells #[.int .i64 a.no,.int .i64 a.dev,.int .i64 a.kind,.int .i64 a.mode,.int .i64 a.uid,.int .i64 a.gid,.int .i64 a.mtime,.int .i64 a.ctime,.int .i64 a.links,.int .i64 a.up,.string a.data,.slice ea a.ents.length ec] 49)) (.cells #[.int .i64 a.no,.int .i64 a.dev,.int .i64 a.kind,.int .i64 a.mode,.int .i64 a.uid,.int .i64 a.gid,.int .i64 a.mtime,.int .i64 a.ctime,.int .i64 a.links,.int .i64 a.up,.string a.data,.slice fa a.ents.length fc] 49);have HE:=Lib.hid he;have HF:=Lib.hid hf;rw [World.size_alloc] at q1;clear he hf;obtain⟨es,hes⟩:∃ es,a.ents=es:=⟨_,rfl⟩;rw [hes] at HE HF hlen q0 q1 hB ⊢;clear hes;go_enter Tryz.func195,Tryz.ntmps195;go_wp2_with fail;generalize (w.alloc (.cells #[.int .i64 a.no,.int .i64 a.dev,.int .i64 a.kind,.int .i64 a.mode,.int .i64 a.uid,.int .i64 a.gid,.int .i64 a.mtime,.int .i64 a.ctime,.int .i64 a.links,.int .i64 a.up,.string a.data,.slice ea es.length ec] 49)).alloc (.cells #[.int .i64 a.no,.int .i64 a.dev,.int .i64 a.kind,.int .i64 a.mode,.int .i64 a.uid,.int .i64 a.gid,.int .i64 a.mtime,.int .i64 a.ctime,.int .i64 a.links,.int .i64 a.up,.string a.data,.slice fa es.length fc] 49)=W at q0 q1 hB ⊢;have Q0:=Lib.hid q0;have Q1:=Lib.hid q1;have HB:=Lib.hid hB;clear hB;obtain⟨c0,-,z0⟩:=q0.facts;obtain⟨c1,-,z1⟩:=q1.facts;clear q0 q1
 go_loopw [5] (fun t5 wr=>∃ k:Nat,k≤es.length∧t5=.int .i64 k∧Below W.heap.size W wr) (fun t5 _=>es.length - (intOf t5).toNat)
 case atStart=>exact ⟨0,Nat.zero_le _,rfl,Below.refl _ _⟩
 case round=>
  obtain⟨k,hk,rfl,hb⟩:=hrel;have Hb:=Lib.hid hb;have HBb:=Lib.hid (HB.out.trans (hb.mono HB.out.size));clear c0 z0 c1 z1;obtain⟨c0,-,z0⟩:=(Q0.out.keep hb).facts;obtain⟨c1,-,z1⟩:=(Q1.out.keep hb).facts;clear hb;by_cases hlt:k<es.length
  ·have he:=HE.out.keep HBb.out;have hf:=HF.out.keep HBb.out;obtain⟨b,off,rfl,hbl⟩:=he.some_of (by omega);obtain⟨b2,off2,rfl,hbl2⟩:=hf.some_of (by omega);obtain⟨d0,d1⟩:=he.cell k hlt;obtain⟨d2,d3⟩:=hf.cell k hlt;generalize es[k]=x at d0 d1 d2 d3;have hnq:=en_neq x.name x.no;have hk2:(k:Int)<(es.length:Int):=by omega
   clear he hf;go_wp2_with fail
   go_quiet (fail)
   go_wp2_with fail;go_roundw
   case measure=>simp [intOf];omega
   case rel=>exact ⟨k+1,by omega,by go_num,below_drewN Hb.out _⟩
  ·obtain rfl:k=es.length:=by omega
   go_wp2_with fail;go_ret;exact⟨rfl,HBb.out⟩
end
section
open Go.RowKit
section
variable {w w':World} {pw pf:Nat} {R:Rp} {Q:Rf} {S:Fs}
theorem both_get (h:WdAt w pw R S) (hq:RfAt w pf Q S) (k:Int):∃ (a:An) (ea:Option Addr) (el ec:Nat) (fa:Option Addr) (fl fc:Nat) (b:Bool),EntsAt w ea el ec a.ents∧EntsAt w fa fl fc a.ents∧
  (∀ w1,Below w.heap.size w w1→Calls Tryz.prog 13 #[.pointer (some ⟨R.pt,0,none⟩),.int .i64 k] w1 fun e w'=>e=.returned (.tuple #[.agg #[.int .i64 a.no,.int .i64 a.dev,.int .i64 a.kind,.int .i64 a.mode,.int .i64 a.uid,.int .i64 a.gid,.int .i64 a.mtime,.int .i64 a.ctime,.int .i64 a.links,.int .i64 a.up,.string a.data,.slice ea el ec],.bool b])∧Below w1.heap.size w1 w')∧
  ∀ w1,Below w.heap.size w w1→Calls Tryz.prog 67 #[.pointer (some ⟨pf,0,none⟩),.int .i64 k] w1 fun e w'=>e=.returned (.agg #[.int .i64 a.no,.int .i64 a.dev,.int .i64 a.kind,.int .i64 a.mode,.int .i64 a.uid,.int .i64 a.gid,.int .i64 a.mtime,.int .i64 a.ctime,.int .i64 a.links,.int .i64 a.up,.string a.data,.slice fa fl fc])∧Below w1.heap.size w1 w':=by
 cases hg:S.get k with
 | none=>exact ⟨an0,none,0,0,none,0,0,false,EntsAt.nil w,EntsAt.nil w,fun w1 hb=>wget_no (h.keep hb) hg,fun w1 hb=>rget_no (hq.keep hb) hg⟩
 | some a=>
  obtain⟨ea,el,ec,he,hc⟩:=wget_fix h hg;obtain⟨fa,fl,fc,hf,hd⟩:=rget_fix hq hg;exact⟨a,ea,el,ec,fa,fl,fc,true,he,hf,hc,hd⟩
theorem same14_any (h:WdAt w pw R S) (hq:RfAt w pf Q S) {N:Nat} (hk:FsOk S N) (hp:Pl S) (hl:S.ns.length≤100000) :
  Calls Tryz.prog 133 #[.pointer (some ⟨pw,0,none⟩),.pointer (some ⟨pf,0,none⟩)] w fun e w'=>e=.returned (.bool true)∧Below w.heap.size w w':=by
 obtain⟨na,nc,hnv,hn1,hn2⟩:=hq.nform;obtain⟨g,cap,hdv,hle,h63,hgl,hcd,-,-⟩:=hq.devF hk.d1;have hd1:=hk.d1;have hd8:=hk.d8;have hlen:=hq.len;have HLl:=Lib.hid hp.len;have HDv:=Lib.hid (fun w1 (hb1:Below w.heap.size w w1)=>wdevs_any (h.keep hb1) hk.d1);have HLn:=Lib.hid (fun w1 (hb1:Below w.heap.size w w1)=>wlen_any (h.keep hb1));have HRw:=Lib.hid (fun w1 (hb1:Below w.heap.size w w1) x=>wroot_any (h.keep hb1) hk.d1 x);have HRf:=Lib.hid (fun w1 (hb1:Below w.heap.size w w1) x=>rroot_any (hq.keep hb1) x);have HUs:=Lib.hid (fun w1 (hb1:Below w.heap.size w w1) x=>wuse_any (h.keep hb1) hk x);have HG:=Lib.hid (fun x=>both_get h hq x);have HWw:=Lib.hid (fun w1 (hb1:Below w.heap.size w w1) x=>wwhere_any (h.keep hb1) hk hp hl x);have HWf:=Lib.hid (fun w1 (hb1:Below w.heap.size w w1) x=>rwhere_any (hq.keep hb1) hk hp hl x);have HOw:=Lib.hid (fun w1 (hb1:Below w.heap.size w w1) x=>wover_any (h.keep hb1) hk.d1 x);have HOf:=Lib.hid (fun w1 (hb1:Below w.heap.size w w1) x=>rover_any (hq.keep hb1) x);have HAw:=Lib.hid (fun w1 (hb1:Below w.heap.size w w1) x=>wabove_any (h.keep hb1) hk x);have HAf:=Lib.hid (fun w1 (hb1:Below w.heap.size w w1) x=>rabove_any (hq.keep hb1) hk x);have HBw:=Lib.hid (fun w1 (hb1:Below w.heap.size w w1) x=>wbusy_any (h.keep hb1) hk hp x);have HBf:=Lib.hid (fun w1 (hb1:Below w.heap.size w w1) x=>rbusy_any (hq.keep hb1) hk hl x);have hb:=hq.blk;rw [hnv,hdv,←hlen] at hb;have HB:=Lib.hid hb;have HWb:=Lib.hid h.blk;have HC:=Lib.hid hcd;have HK:=Lib.hid hk;obtain⟨pc,-,pz⟩:=h.blk.facts;obtain⟨bc,bf,bz⟩:=hb.facts;obtain⟨m,hm⟩:∃ m,S.ds.length=m:=⟨_,rfl⟩;have HM:=Lib.hid hm;rw [←hlen] at hn1;rw [hm] at HDv HB bc hle hd1 hd8;generalize S.ns.length=n at HLn HB bc hn1 hl HLl;clear h hk hp hq hnv hdv hb hcd hm hlen;go_enter Tryz.func133,Tryz.ntmps133;go_wp2_with fail
 go_region_held3 (fun w'=>(∀ b o,b<w.heap.size→w'.cell? ⟨b,o,none⟩=w.cell? ⟨b,o,none⟩)∧Below w.heap.size w w') (first | with_reducible assumption | with_reducible exact keepS_here _ | with_reducible exact keepS_here2 _ | with_reducible exact keepS_call (by assumption) (by assumption) | with_reducible exact keepS_alloc (by assumption) _ | with_reducible exact keepS_allocD (by assumption) _ | with_reducible exact keepS_realloc (by assumption) (by assumption) | with_reducible exact keepS_set4 (by assumption) (by assumption))
  (first
   | (go_at_call 136;((with_reducible refine (HDv.out _ (And.right (by assumption))).mono ?_);rintro e w5 ⟨rfl,rfl⟩))
   | (go_at_call 30;((with_reducible refine (HLn.out _ (And.right (by assumption))).mono ?_);rintro e w4 ⟨rfl,rfl⟩)))
 have HK0:=Lib.hid (show Below w.heap.size w w.drew from (Below.refl _ _).drew);generalize w.drew=w0 at HK0 ⊢;clear pc pz bc bf bz;go_wp2_with fail
 go_loopw [5] (fun t5 wr=>∃ k:Nat,k≤m+2∧t5=.int .i64 k∧Below w.heap.size w wr) (fun t5 _=>m+2 - (intOf t5).toNat)
 case atStart=>exact ⟨0,Nat.zero_le _,rfl,HK0.out⟩
 case round=>
  obtain⟨k,hk,rfl,hbw⟩:=hrel;have HBk:=Lib.hid hbw;obtain⟨bc,bf,bz⟩:=(HB.out.keep hbw).facts;by_cases hlt:k≤m+1
  ·have hle1:(k:Int)≤(m:Int)+1:=by omega
   have hbX:=balloc hbw (.cells #[.int .i64 0,.int .i64 0,.int .i64 0,.int .i64 0] 212);have hX:=Blk.new wr #[.int .i64 0,.int .i64 0,.int .i64 0,.int .i64 0] 212;clear hbw;go_upto_region 7 with fail;clear bc bf bz;generalize wr.alloc (.cells #[.int .i64 0,.int .i64 0,.int .i64 0,.int .i64 0] 212)=X at hbX hX ⊢;have hRf:=HRf.out X hbX (k:Int);obtain⟨bc,bf,bz⟩:=(HB.out.keep hbX).facts;obtain⟨xc,xf,xz⟩:=hX.facts;have HX:=Lib.hid hX;have HBX:=Lib.hid hbX;by_cases hin:1≤k∧k≤m
   ·obtain ⟨j,rfl⟩:∃ j,k=j+1:=⟨k - 1,by omega⟩;have hjl:j<S.ds.length:=by rw [HM.out];omega
    have hjm:(j:Int)<(m:Int):=by omega
    obtain⟨e1,e2,e3⟩:=dev_in HK.out hjl;have HU:=Lib.hid (show useV S ((j:Int)+1)=.agg #[.int .i64 S.ds[j].b,.int .i64 S.ds[j].n,.int .i64 S.ds[j].mb,.int .i64 S.ds[j].mn] by
     unfold useV;rw [e1])
    obtain⟨c0,c1,c2,c3,c4,c5⟩:=HC.out j hjl;rw [←hbX.cell (p:=⟨g,j*6+2,none⟩) hgl] at c2;rw [←hbX.cell (p:=⟨g,j*6+3,none⟩) hgl] at c3;rw [←hbX.cell (p:=⟨g,j*6+4,none⟩) hgl] at c4;rw [←hbX.cell (p:=⟨g,j*6+5,none⟩) hgl] at c5;rw [show ((j+1:Nat):Int)=(j:Int)+1 by omega] at hRf;have hq0:(S.root ((j:Int)+1) != 0)=true:=by
     rw [e2];simpa using e3
    have HRt:=Lib.hid hRf;generalize S.ds[j]=v at c2 c3 c4 c5 HU;obtain⟨rt,hrt⟩:∃ x,S.root ((j:Int)+1)=x:=⟨_,rfl⟩;rw [hrt] at HRt hq0;have HRtE:=Lib.hid hrt;clear hRf hbX hX e1 e2 e3 c0 c1 hrt hin;go_wp2_with fail;refine HRt.out.mono ?_;rintro e w5 ⟨rfl,rfl⟩;go_upto_region 9 with fail;have hY:=HX.out.set4 (v0:=.int .i64 v.b) (v1:=.int .i64 v.n) (v2:=.int .i64 v.mb) (v3:=.int .i64 v.mn);have hbY:=below_set4 (v0:=.int .i64 v.b) (v1:=.int .i64 v.n) (v2:=.int .i64 v.mb) (v3:=.int .i64 v.mn) HBX.out HBk.out.size;generalize (((w5.setCell ⟨wr.heap.size,0,none⟩ (.int .i64 v.b)).setCell ⟨wr.heap.size,1,none⟩ (.int .i64 v.n)).setCell ⟨wr.heap.size,2,none⟩ (.int .i64 v.mb)).setCell ⟨wr.heap.size,3,none⟩ (.int .i64 v.mn)=Y at hY hbY ⊢;have HY1:=Lib.hid (fun w1 (hb:Below Y.heap.size Y w1)=>HRw.out w1 (bnext hbY hb) ((j:Int)+1));have HY2:=Lib.hid (fun w1 (hb:Below Y.heap.size Y w1)=>HRf.out w1 (bnext hbY hb) ((j:Int)+1));have HY3:=Lib.hid (fun w1 (hb:Below Y.heap.size Y w1)=>HUs.out w1 (bnext hbY hb) ((j:Int)+1));rw [HRtE.out] at HY1 HY2;rw [HU.out] at HY3;have HBY:=Lib.hid hbY;have hnq:=sp_neq v.b v.n v.mb v.mn;clear c2 c3 c4 c5 xc xf xz bc bf bz hbY;obtain⟨xc,xf,xz⟩:=hY.facts;clear hY
    go_region_held3 (fun w'=>(∀ b o,b<Y.heap.size→w'.cell? ⟨b,o,none⟩=Y.cell? ⟨b,o,none⟩)∧Below Y.heap.size Y w') (first | with_reducible assumption | with_reducible exact keepS_here _ | with_reducible exact keepS_here2 _ | with_reducible exact keepS_call (by assumption) (by assumption) | with_reducible exact keepS_alloc (by assumption) _ | with_reducible exact keepS_allocD (by assumption) _ | with_reducible exact keepS_realloc (by assumption) (by assumption) | with_reducible exact keepS_set4 (by assumption) (by assumption))
     (first
      | (go_at_call 55;((with_reducible refine (HY1.out _ (And.right (by assumption))).mono ?_);rintro e w6 ⟨rfl,rfl⟩))
      | (go_at_call 66;((with_reducible refine (HY2.out _ (And.right (by assumption))).mono ?_);rintro e w7 ⟨rfl,rfl⟩))
      | (go_at_call 194;((with_reducible refine (HY3.out _ (And.right (by assumption))).mono ?_);rintro e w8 ⟨rfl,hb8⟩)))
    all_goals
     have hbz:Below Y.heap.size Y w8:=And.right (by assumption);have HBZ:=Lib.hid (bnext HBY.out hbz);go_wp2_with fail;go_roundw
     case measure=>simp [intOf];omega
     case rel=>exact ⟨j+2,by omega,by go_num,HBZ.out⟩
   ·have hout:¬ (1≤(k:Int)∧(k:Int)≤S.ds.length):=by rw [HM.out];omega
    obtain⟨e1,e2⟩:=dev_out hout;have HU:=Lib.hid (show useV S (k:Int)=.agg #[.int .i64 0,.int .i64 0,.int .i64 0,.int .i64 0] by unfold useV;rw [e1]);rw [e2] at hRf;have HRt:=Lib.hid hRf;have HY1:=Lib.hid (fun w1 (hb:Below X.heap.size X w1)=>HRw.out w1 (bnext hbX hb) (k:Int));have HY2:=Lib.hid (fun w1 (hb:Below X.heap.size X w1)=>HRf.out w1 (bnext hbX hb) (k:Int));have HY3:=Lib.hid (fun w1 (hb:Below X.heap.size X w1)=>HUs.out w1 (bnext hbX hb) (k:Int));rw [e2] at HY1 HY2;rw [HU.out] at HY3;have hnq:=sp_neq 0 0 0 0;clear hRf hbX hX e1 e2 hin hout;go_wp2_with fail;refine HRt.out.mono ?_;rintro e w5 ⟨rfl,rfl⟩;go_upto_region 9 with fail
    go_region_held3 (fun w'=>(∀ b o,b<w5.heap.size→w'.cell? ⟨b,o,none⟩=w5.cell? ⟨b,o,none⟩)∧Below w5.heap.size w5 w') (first | with_reducible assumption | with_reducible exact keepS_here _ | with_reducible exact keepS_here2 _ | with_reducible exact keepS_call (by assumption) (by assumption) | with_reducible exact keepS_alloc (by assumption) _ | with_reducible exact keepS_allocD (by assumption) _ | with_reducible exact keepS_realloc (by assumption) (by assumption) | with_reducible exact keepS_set4 (by assumption) (by assumption))
     (first
      | (go_at_call 55;((with_reducible refine (HY1.out _ (And.right (by assumption))).mono ?_);rintro e w6 ⟨rfl,rfl⟩))
      | (go_at_call 66;((with_reducible refine (HY2.out _ (And.right (by assumption))).mono ?_);rintro e w7 ⟨rfl,rfl⟩))
      | (go_at_call 194;((with_reducible refine (HY3.out _ (And.right (by assumption))).mono ?_);rintro e w8 ⟨rfl,hb8⟩)))
    all_goals
     have hbz:Below w5.heap.size w5 w8:=And.right (by assumption);have HBZ:=Lib.hid (bnext HBX.out hbz);go_wp2_with fail;go_roundw
     case measure=>simp [intOf];omega
     case rel=>exact ⟨k+1,by omega,by go_num,HBZ.out⟩
  ·obtain rfl:k=m+2:=by omega
   obtain⟨w1,hw1⟩:∃ w1,w1=wr:=⟨_,rfl⟩;subst hw1;have hge:¬ (m:Int)+2≤(m:Int)+1:=by omega
   have hl0:(0:Int)≤S.last∧S.last≤100000:=by have:=HLl.out;omega
   obtain⟨hl1,hl2⟩:=hl0;clear hlt hk hbw HRw HRf HUs HDv HLn HC;generalize S.last=last at HB bc HLl hl1 hl2;go_wp2_with fail;clear bc bf bz
   go_loopw [7] (fun t7 wr=>∃ no:Int,-1≤no∧no≤last+2∧t7=.int .i64 no∧Below w.heap.size w wr) (fun t7 _=>(last+2 - intOf t7).toNat)
   case atStart=>exact ⟨-1,by omega,by omega,rfl,HBk.out⟩
   case round=>
    obtain⟨no,hno1,hno2,rfl,hbw⟩:=hrel;have HBk:=Lib.hid hbw;obtain⟨bc,bf,bz⟩:=(HB.out.keep hbw).facts;by_cases hlt:no≤last+1
    ·obtain ⟨a,ea,el,ec,fa,fl,fc,b,he,hf,hc,hd⟩:=HG.out no;have HGw:=Lib.hid hc;have HGf:=Lib.hid hd;have HE:=Lib.hid (And.intro he hf);have HWhw:=Lib.hid (fun w1 hb=>HWw.out w1 hb no);have HWhf:=Lib.hid (fun w1 hb=>HWf.out w1 hb no);unfold whereV at HWhw HWhf;have HOvw:=Lib.hid (fun w1 hb=>HOw.out w1 hb no);have HOvf:=Lib.hid (fun w1 hb=>HOf.out w1 hb no);have HAbw:=Lib.hid (fun w1 hb=>HAw.out w1 hb no);have HAbf:=Lib.hid (fun w1 hb=>HAf.out w1 hb no);have HBuw:=Lib.hid (fun w1 hb=>HBw.out w1 hb no);have HBuf:=Lib.hid (fun w1 hb=>HBf.out w1 hb no);generalize (S.place_ no).getD ByteArray.empty=ps at HWhw HWhf;generalize (S.place_ no).isSome=is at HWhw HWhf;generalize S.over no=ov at HOvw HOvf;generalize S.above no=ab at HAbw HAbf;generalize S.busy no=bs at HBuw HBuf;obtain⟨pc,-,pz⟩:=(HWb.out.keep hbw).facts;clear he hf hc hd hbw;go_wp2_with fail;refine (HGw.out _ HBk.out).mono ?_;rintro e w3 ⟨rfl,hb3⟩;have hbX:=balloc (bnext HBk.out hb3) (.cells #[.int .i64 a.no,.int .i64 a.dev,.int .i64 a.kind,.int .i64 a.mode,.int .i64 a.uid,.int .i64 a.gid,.int .i64 a.mtime,.int .i64 a.ctime,.int .i64 a.links,.int .i64 a.up,.string a.data,.slice ea el ec] 49);have hX:=Blk.new w3 #[.int .i64 a.no,.int .i64 a.dev,.int .i64 a.kind,.int .i64 a.mode,.int .i64 a.uid,.int .i64 a.gid,.int .i64 a.mtime,.int .i64 a.ctime,.int .i64 a.links,.int .i64 a.up,.string a.data,.slice ea el ec] 49;go_upto_region 15 with fail;generalize w3.alloc (.cells #[.int .i64 a.no,.int .i64 a.dev,.int .i64 a.kind,.int .i64 a.mode,.int .i64 a.uid,.int .i64 a.gid,.int .i64 a.mtime,.int .i64 a.ctime,.int .i64 a.links,.int .i64 a.up,.string a.data,.slice ea el ec] 49)=X at hbX hX ⊢;have HX:=Lib.hid hX;have HBX:=Lib.hid hbX;clear bc bf bz pc pz hb3 hX hbX;go_wp2_with fail;refine (HWhw.out _ HBX.out).mono ?_;rintro e w4 ⟨rfl,hb4⟩;have HB4:=Lib.hid (bnext HBX.out hb4);have HX4:=Lib.hid (HX.out.keep hb4);clear hb4;go_wp2_with fail;refine (HWhf.out _ HB4.out).mono ?_;rintro e w5 ⟨rfl,hb5⟩;have HB5:=Lib.hid (bnext HB4.out hb5);obtain⟨xc,xf,xz⟩:=(HX4.out.keep hb5).facts;clear hb5;go_upto_region 17 with fail;have HZ0:=Lib.hid (fun w1 (hb:Below w5.heap.size w5 w1)=>HGf.out w1 (bnext HB5.out hb));have HZ1:=Lib.hid (fun w1 (hb:Below w5.heap.size w5 w1)=>sameN_any a w1 (HE.out.1.keepB (bnext HB5.out hb) (Nat.le_refl _)) (HE.out.2.keepB (bnext HB5.out hb) (Nat.le_refl _)));have HZ2:=Lib.hid (fun w1 (hb:Below w5.heap.size w5 w1)=>HOvw.out w1 (bnext HB5.out hb));have HZ3:=Lib.hid (fun w1 (hb:Below w5.heap.size w5 w1)=>HOvf.out w1 (bnext HB5.out hb));have HZ4:=Lib.hid (fun w1 (hb:Below w5.heap.size w5 w1)=>HAbw.out w1 (bnext HB5.out hb));have HZ5:=Lib.hid (fun w1 (hb:Below w5.heap.size w5 w1)=>HAbf.out w1 (bnext HB5.out hb));have HZ6:=Lib.hid (fun w1 (hb:Below w5.heap.size w5 w1)=>HBuw.out w1 (bnext HB5.out hb));have HZ7:=Lib.hid (fun w1 (hb:Below w5.heap.size w5 w1)=>HBuf.out w1 (bnext HB5.out hb))
     go_region_held3 (fun w'=>(∀ b o,b<w5.heap.size→w'.cell? ⟨b,o,none⟩=w5.cell? ⟨b,o,none⟩)∧Below w5.heap.size w5 w') (first | with_reducible assumption | with_reducible exact keepS_here _ | with_reducible exact keepS_here2 _ | with_reducible exact keepS_call (by assumption) (by assumption) | with_reducible exact keepS_alloc (by assumption) _ | with_reducible exact keepS_allocD (by assumption) _ | with_reducible exact keepS_realloc (by assumption) (by assumption) | with_reducible exact keepS_set4 (by assumption) (by assumption))
      (first
       | (go_at_call 67;((with_reducible refine (HZ0.out _ (And.right (by assumption))).mono ?_);rintro e u0 ⟨rfl,hu0⟩))
       | (go_at_call 195;((with_reducible refine (HZ1.out _ (And.right (by assumption))).mono ?_);rintro e u1 ⟨rfl,hu1⟩))
       | (go_at_call 124;((with_reducible refine (HZ2.out _ (And.right (by assumption))).mono ?_);rintro e u2 ⟨rfl,hu2⟩))
       | (go_at_call 118;((with_reducible refine (HZ3.out _ (And.right (by assumption))).mono ?_);rintro e u3 ⟨rfl,rfl⟩))
       | (go_at_call 182;((with_reducible refine (HZ4.out _ (And.right (by assumption))).mono ?_);rintro e u4 ⟨rfl,hu4⟩))
       | (go_at_call 153;((with_reducible refine (HZ5.out _ (And.right (by assumption))).mono ?_);rintro e u5 ⟨rfl,hu5⟩))
       | (go_at_call 196;((with_reducible refine (HZ6.out _ (And.right (by assumption))).mono ?_);rintro e u6 ⟨rfl,hu6⟩))
       | (go_at_call 197;((with_reducible refine (HZ7.out _ (And.right (by assumption))).mono ?_);rintro e u7 ⟨rfl,hu7⟩)))
     all_goals
      have hbz:Below w5.heap.size w5 u7:=And.right (by assumption);have HBZ:=Lib.hid (bnext HB5.out hbz);go_wp2_with fail;go_roundw
      case measure=>simp [intOf];omega
      case rel=>exact ⟨no+1,by omega,by omega,by go_num,HBZ.out⟩
    ·go_wp2_with fail;go_ret;exact⟨rfl,HBk.out⟩
theorem alike_any (h:WdAt w pw R S) (hq:RfAt w pf Q S) {N:Nat} (hk:FsOk S N) (hp:Pl S) (hl:S.ns.length≤100000) :
  Calls Tryz.prog 73 #[.pointer (some ⟨pw,0,none⟩),.pointer (some ⟨pf,0,none⟩)] w fun e w'=>e=.returned (.bool true)∧Below w.heap.size w w':=by
 have HS:=Lib.hid (same14_any h hq hk hp hl);clear h hq hk hp hl;go_enter Tryz.func73,Tryz.ntmps73;go_wp2_with fail;refine HS.out.mono ?_;rintro e w1 ⟨rfl,hb⟩;have HB:=Lib.hid hb;clear hb;go_wp2_with fail;go_ret;exact⟨rfl,HB.out⟩
end
end
section
open Go.RowKit Go.Shelf
section
variable {w w':World} {pf pw:Nat} {R:Rp} {pv:Value} {Y:Sy}
theorem scount_any (h:SyAt w pf pw R pv Y) :
  Calls Tryz.prog 38 #[.pointer (some ⟨pf,0,none⟩)] w fun e w'=>e=.returned (.int .i64 Y.count)∧w=w':=by
 have HN:=Lib.hid (snone_any h);obtain⟨pc,-,pz⟩:=h.blk.facts;clear h;go_enter Tryz.func38,Tryz.ntmps38;go_wp2_with fail;refine HN.out.mono ?_;rintro e w1 ⟨rfl,rfl⟩;go_wp2_with fail;go_ret;exact⟨rfl,rfl⟩
theorem sdead_any (h:SyAt w pf pw R pv Y) :
  Calls Tryz.prog 57 #[.pointer (some ⟨pf,0,none⟩)] w fun e w'=>e=.returned (.bool Y.dead)∧w=w':=by
 have HN:=Lib.hid (snone_any h);obtain⟨pc,-,pz⟩:=h.blk.facts;clear h;go_enter Tryz.func57,Tryz.ntmps57;go_wp2_with fail;refine HN.out.mono ?_;rintro e w1 ⟨rfl,rfl⟩;go_wp2_with fail;go_ret;exact⟨rfl,rfl⟩
theorem alike24_any (h:SyAt w pf pw R pv Y) {pr:Nat} {Q:Rf} (hq:RfAt w pr Q Y.fs) (hc:Q.cnt=.int .i64 Y.count) (hd:Q.dd=.bool Y.dead) {N:Nat} (hk:FsOk Y.fs N) (hp:Pl Y.fs) (hl:Y.fs.ns.length≤100000) :
  Calls Tryz.prog 27 #[.pointer (some ⟨pf,0,none⟩),.pointer (some ⟨pr,0,none⟩)] w fun e w'=>e=.returned (.bool true)∧Below w.heap.size w w':=by
 have HCo:=Lib.hid (fun w1 (hb:Below w.heap.size w w1)=>scount_any (h.keep hb));have HDe:=Lib.hid (fun w1 (hb:Below w.heap.size w w1)=>sdead_any (h.keep hb));have HAl:=Lib.hid (fun w1 (hb:Below w.heap.size w w1)=>alike_any (h.wd.keep hb) (hq.keep hb) hk hp hl);obtain⟨pc,-,pz⟩:=h.blk.facts;have hblk:=hq.blk;rw [hc,hd] at hblk;obtain⟨qc,-,qz⟩:=hblk.facts;clear h hq hc hd hk hp hl hblk;go_enter Tryz.func27,Tryz.ntmps27;go_wp2_with fail
 go_region_held3 (fun w'=>(∀ b o,b<w.heap.size→w'.cell? ⟨b,o,none⟩=w.cell? ⟨b,o,none⟩)∧Below w.heap.size w w') (first | with_reducible assumption | with_reducible exact keepS_here _ | with_reducible exact keepS_here2 _ | with_reducible exact keepS_call (by assumption) (by assumption) | with_reducible exact keepS_alloc (by assumption) _ | with_reducible exact keepS_allocD (by assumption) _ | with_reducible exact keepS_realloc (by assumption) (by assumption) | with_reducible exact keepS_set4 (by assumption) (by assumption))
  ((first
   | (go_at_call 38;((with_reducible refine (HCo.out _ (And.right (by assumption))).mono ?_);rintro e w2 ⟨rfl,rfl⟩))
   | (go_at_call 57;((with_reducible refine (HDe.out _ (And.right (by assumption))).mono ?_);rintro e w3 ⟨rfl,rfl⟩))
   | (go_at_call 73;((with_reducible refine (HAl.out _ (And.right (by assumption))).mono ?_);rintro e w4 ⟨rfl,hb4⟩))))
 all_goals
  have hbz:Below w.heap.size w w4:=And.right (by assumption);have HBZ:=Lib.hid hbz;clear hbz;go_wp2_with fail;go_ret;exact⟨rfl,HBZ.out⟩
end
end
end Go.Proofs.YtihdbncoijhihaaGreat
