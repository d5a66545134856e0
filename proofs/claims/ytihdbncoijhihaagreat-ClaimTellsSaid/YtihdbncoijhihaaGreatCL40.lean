import Derived.Test.YtihdbncoijhihaaGreatCL39
import Derived.Test.YtihdbncoijhihaaGreatCL36
import Derived.Test.YtihdbncoijhihaaGreatCL35
import Derived.Test.YtihdbncoijhihaaGreatCL37
set_option linter.unusedVariables false
set_option linter.unusedSimpArgs false
set_option maxRecDepth 100000
set_option maxHeartbeats 16000000
namespace Go.Proofs.YtihdbncoijhihaaGreat
section
open Go.RowKit Go.Shelf
attribute [local go_sem] Oper.semAt_some
theorem boxes6 (w:World) (a b c d e f:Array Value) (A B C D E F:TypeId):Blk ((((((w.alloc (.cells a A)).alloc (.cells b B)).alloc (.cells c C)).alloc (.cells d D)).alloc (.cells e E)).alloc (.cells f F)) w.heap.size a A∧
  Blk ((((((w.alloc (.cells a A)).alloc (.cells b B)).alloc (.cells c C)).alloc (.cells d D)).alloc (.cells e E)).alloc (.cells f F)) (w.heap.size+1) b B∧
  Blk ((((((w.alloc (.cells a A)).alloc (.cells b B)).alloc (.cells c C)).alloc (.cells d D)).alloc (.cells e E)).alloc (.cells f F)) (w.heap.size+1+1) c C∧
  Blk ((((((w.alloc (.cells a A)).alloc (.cells b B)).alloc (.cells c C)).alloc (.cells d D)).alloc (.cells e E)).alloc (.cells f F)) (w.heap.size+1+1+1) d D∧
  Blk ((((((w.alloc (.cells a A)).alloc (.cells b B)).alloc (.cells c C)).alloc (.cells d D)).alloc (.cells e E)).alloc (.cells f F)) (w.heap.size+1+1+1+1) e E∧
  Blk ((((((w.alloc (.cells a A)).alloc (.cells b B)).alloc (.cells c C)).alloc (.cells d D)).alloc (.cells e E)).alloc (.cells f F)) (w.heap.size+1+1+1+1+1) f F∧
  Below w.heap.size w ((((((w.alloc (.cells a A)).alloc (.cells b B)).alloc (.cells c C)).alloc (.cells d D)).alloc (.cells e E)).alloc (.cells f F)):=by
 obtain⟨h1,h2,h3,h4⟩:=boxes3 w a b c A B C;obtain⟨k1,k2,k3,k4⟩:=boxes3 (((w.alloc (.cells a A)).alloc (.cells b B)).alloc (.cells c C)) d e f D E F;simp only [World.size_alloc] at k1 k2 k3;exact⟨((h1.old _).old _).old _,((h2.old _).old _).old _,((h3.old _).old _).old _,k1,k2,k3,bnext h4 k4⟩
theorem names_len (base:ByteArray):(namesL base).length=1000:=by
 unfold namesL;rw [List.length_map,List.length_range]
theorem names_at (base:ByteArray) {k:Nat} (hk:k<1000):(namesL base).drop k=nthS base ((k:Nat)+1) :: (namesL base).drop (k+1):=by
 have hl:=names_len base;have he:(namesL base)[k]'(by omega)=nthS base ((k:Nat)+1):=by
  unfold namesL;rw [List.getElem_map,List.getElem_range]
 rw [List.drop_eq_getElem_cons (by omega),he]
theorem names_end (base:ByteArray):(namesL base).drop 1000=[]:=List.drop_eq_nil_of_le (Nat.le_of_eq (names_len base))
theorem nthS_le (base:ByteArray) (n:Int) (h1:n≤9223372036854775807):(nthS base n).size≤245:=by
 unfold nthS;have:=tailL_len n h1;rw [ByteArray.size_append,str_size];simp;omega
theorem three_at (x:Cn) (j:Nat) (hj:j<3):∃ d,x.three.drop j=d :: x.three.drop (j+1)∧∀ w,(Instr.index 141 (.agg #[.int .i64 x.files,.int .i64 x.way,.int .i64 x.out]) (.int .i64 j)).run Tryz.prog w=.ok (.int .i64 d) w:=by
 rcases (by omega:j=0∨j=1∨j=2) with rfl | rfl | rfl
 ·exact ⟨_,rfl,fun w=>by first | kernel_rfl | rfl⟩
 ·exact ⟨_,rfl,fun w=>by first | kernel_rfl | rfl⟩
 ·exact ⟨_,rfl,fun w=>by first | kernel_rfl | rfl⟩
theorem KeepsV.setCell (B:Nat) (W:World) (a:Addr) (v:Value):KeepsV B W (W.setCell a v):=fun k o _ h ho=>(KeepsOthers.setCell W a v).same k o h (by cases o <;> simp_all [offTree,Obj.isCells])
theorem Goes.setc {w A:World} {pf pw:Nat} {R:Rp} {pv:Value} {Z:Sy} (h:Goes w A pf pw R pv Z) {b:Nat} {vs:Array Value} {T:TypeId} (hB:Blk A b vs T) (hw:w.heap.size≤b) (hT:wdKind (.cells #[] T (0,0))=false) (h1:T≠54) (h2:T≠146) (h3:T≠242) (i:Nat) (v:Value):Goes w (A.setCell ⟨b,i,none⟩ v) pf pw R pv Z:=by
 obtain⟨R',k1,k2⟩:=h;exact⟨R',k1.other hB hT h1 h2 h3 ((Mod.refl (fun k=>k=b) A).setCell (a:=⟨b,i,none⟩) (.inl rfl) v),k2.newCell hw i v⟩
structure SNm (w':World) (B pf:Nat) (u:Us) (x:Cn) (text:ByteArray) (bc:Nat):Prop where
 f:Blk w' B #[.pointer (some ⟨pf,0,none⟩)] 33
 c:Blk w' bc #[.int .i64 u.u,.int .i64 u.g] 67
 x:Blk w' (B+1+1) #[.string x.path,.int .i64 x.dir,.int .i64 x.info,.int .i64 x.files,.int .i64 x.out,.int .i64 x.way,.string x.top] 38
 t:Blk w' (B+1+1+1) #[.string text] 9
theorem cname_leave {N:Nat} {a:Act} {W:World} {D p10 p11:Nat} {s:ByteArray} {e:Int} {R:Ending→World→Prop}
  (hK:W.heap[D]? = some (.deferred (some []))) (b1:Blk W p10 #[.string s] 9) (b2:Blk W p11 #[.int .i64 e] 39)
  (h10:a.tmps[10]? = some (.pointer (some ⟨p10,0,none⟩))) (h11:a.tmps[11]? = some (.pointer (some ⟨p11,0,none⟩))) (hd:a.defers=[{target:=.collected D,args:=#[]}])
  (hR:R (.returned (.tuple #[.string s,.int .i64 e])) (W.putObj D (.deferred none))) :
  Exit.noGoto (bodyPostM Fence.wide N Tryz.prog Tryz.f16 R) .ret a W:=by
 obtain⟨tmps,defers⟩:=a;subst hd;have e1:=(b1.put hK rfl (.deferred none)).cell;have e2:=(b2.put hK rfl (.deferred none)).cell;show LeavesInM Fence.wide N Tryz.prog Tryz.f16 _ _ _ _ W;refine ⟨by simp,.inl ⟨_,_,rfl,run_takeDeferred hK,?_⟩⟩;refine ⟨.tuple #[.string s,.int .i64 e],?_,hR⟩;simp at h10 h11;simp [results,Tryz.results16,go_sem,e1,e2,h10,h11]
section
variable {w w':World} {pf pw:Nat} {R:Rp} {pv:Value} {Y:Sy}
theorem cname_any (h:SyAt w pf pw R pv Y) {N:Nat} (hk:SyOk Y N) (hN:N≤80000) (u:Us) (x:Cn) (base text:ByteArray) (hs:base.size≤9223372036854775807) (ht:text.size≤9223372036854775807) :
  Calls Tryz.prog 16 #[.pointer (some ⟨pf,0,none⟩),.agg #[.int .i64 u.u,.int .i64 u.g,.string u.data],.agg #[.string x.path,.int .i64 x.dir,.int .i64 x.info,.int .i64 x.files,.int .i64 x.out,.int .i64 x.way,.string x.top],.string base,.string text] w fun e w'=>
   e=.returned (.tuple #[.string (Y.nameF u.c x base text).2.1,.int .i64 (Y.nameF u.c x base text).2.2])∧Goes w w' pf pw R pv (Y.nameF u.c x base text).1:=by
 obtain⟨b0,b1,b2,b3,b4,b5,hbX⟩:=boxes6 w #[.pointer (some ⟨pf,0,none⟩)] #[.int .i64 u.u,.int .i64 u.g,.string u.data] #[.string x.path,.int .i64 x.dir,.int .i64 x.info,.int .i64 x.files,.int .i64 x.out,.int .i64 x.way,.string x.top] #[.string text] #[.string ⟨#[]⟩] #[.int .i64 0] 33 27 38 9 9 39;have HC:=Lib.hid (ccred_any u.u u.g u.data);have HH:=Lib.hid (fun w1 (hb1:Below w.heap.size w w1)=>Goes.of h hb1);have HK:=Lib.hid hk;have HNa:=Lib.hid (fun w=>names_any base w);have HNm:=Lib.hid (show Y.nameF u.c x base text=Y.nameL u.c x text (namesL base) from rfl);generalize Y.nameF u.c x base text=rd at HNm ⊢;clear h hk;refine (callsIn_wide (n:=5)).1 ?_;refine callsIn_of_wp_marks Tryz.func16 rfl trivial ?_ rfl;simp only [Tryz.ntmps16,List.size_toArray,List.length_cons,List.length_nil,Nat.reduceAdd,Nat.reduceSub,Array.replicate_succ,Array.replicate_zero,List.push_toArray,List.append_toArray,List.nil_append,List.cons_append];refine wpIn_wide.2 ?_;go_upto_region 1 with fail;generalize (((((w.alloc (.cells #[.pointer (some ⟨pf,0,none⟩)] 33)).alloc (.cells #[.int .i64 u.u,.int .i64 u.g,.string u.data] 27)).alloc (.cells #[.string x.path,.int .i64 x.dir,.int .i64 x.info,.int .i64 x.files,.int .i64 x.out,.int .i64 x.way,.string x.top] 38)).alloc (.cells #[.string text] 9)).alloc (.cells #[.string ⟨#[]⟩] 9)).alloc (.cells #[.int .i64 0] 39)=W0 at b0 b1 b2 b3 b4 b5 hbX ⊢;have HW0:=Lib.hid (And.intro b0 (And.intro b2 (And.intro b3 (And.intro b4 (And.intro b5 hbX)))));obtain⟨uc,uf,uz⟩:=b1.facts;clear b0 b1 b2 b3 b4 b5 hbX;go_step3;go_wp2_with fail;refine (HC.out _).mono ?_;rintro e w1 ⟨rfl,hb1⟩;have hc:=Blk.new w1 #[.int .i64 u.u,.int .i64 u.g] 67;have hb2:=hb1.trans ((balloc (Below.refl w1.heap.size w1) (.cells #[.int .i64 u.u,.int .i64 u.g] 67)).mono hb1.size);have HI2:=Lib.hid (show NmI w pf pw R pv u x text w1.heap.size Y (w1.alloc (.cells #[.int .i64 u.u,.int .i64 u.g] 67)) from
  ⟨HH.out _ (bnext HW0.out.2.2.2.2.2 hb2),HW0.out.1.keep hb2,HW0.out.2.1.keep hb2,HW0.out.2.2.1.keep hb2,hc,HW0.out.2.2.2.1.keep hb2,HW0.out.2.2.2.2.1.keep hb2⟩)
 clear hc hb1 hb2 uc uf uz;go_wp2_with fail;go_step3;go_wp2_with fail;refine (HNa.out _).mono ?_;rintro e w3 ⟨rfl,hw3⟩;generalize w1.alloc (.cells #[.int .i64 u.u,.int .i64 u.g] 67)=W2 at HI2 hw3 ⊢;generalize w1.heap.size=bc at HI2 ⊢;have hbn:Blk w3 W2.heap.size #[.string base] 9:=by rw [←hw3];exact Blk.new W2 _ _
 have hI3:NmI w pf pw R pv u x text bc Y w3:=by rw [←hw3];exact HI2.out.keep (balloc (Below.refl _ _) _)
 have hz3:W2.heap.size<w3.heap.size:=hbn.lt;have hsz:w.heap.size≤w3.heap.size:=by
  obtain⟨R1,-,h1⟩:=hI3.g;exact h1.mod.size
 have hs6:w.heap.size+1+1+1+1+1<w3.heap.size:=hI3.e.lt;generalize W2.heap.size=Bn at hbn hz3 ⊢;clear hw3 HI2;go_wp2_with fail;refine (wpIn_wide (n:=5)).1 ?_;refine' wpIn_rangeV (T:=fun k=>k=Bn) rfl (by omega) (gf:=120) (lb:=#[.pointer (some ⟨Bn,0,none⟩)]) rfl trivial (enters_of Tryz.func120 (by kernel_rfl) rfl)
   (names_stopsV 4 (by omega) Bn base hs w3 hbn) (fun k hk=>by rw [hk];exact hz3) (KT.refl _ _) (fun _=>rfl)
   (fun pre W=>∃ Z,Y.nameL u.c x text (namesL base)=Z.nameL u.c x text ((namesL base).drop pre.length)∧SyOk Z (N+pre.length)∧NmI w pf pw R pv u x text bc Z W∧Blk W Bn #[.string base] 9)
   (fun c pre W=>c=.ret∧∃ Z s e,rd=(Z,s,e)∧Goes w W pf pw R pv Z∧Blk W (w.heap.size+1+1+1+1) #[.string s] 9∧Blk W (w.heap.size+1+1+1+1+1) #[.int .i64 e] 39)
   (fun pre A B h ht=>by obtain ⟨Z,h1,h2,h3,h4⟩:=h;exact ⟨Z,h1,h2,h3.turn ht hsz,ht.blkV h4⟩)
   (fun c pre A B h ht=>by obtain ⟨h0,Z,s,e,h1,h2,h3,h4⟩:=h;exact ⟨h0,Z,s,e,h1,h2.turnV ht hsz,ht.blkV h3,ht.blkV h4⟩) ⟨Y,rfl,HK.out,hI3,hbn⟩ _ ?assign ?body ?done ?stop
 case assign=>
  intro L e W K hK;gi_wp2;exact hK
 case body=>
  intro L pre k W hL hLW hI hv;obtain⟨hpre,hk1⟩:=hv;obtain⟨Z,hnm,hok,hI,hBn⟩:=hI;have HBk:=Lib.hid hBn;have hpl:pre.length=k:=by rw [hpre,List.length_range]
  have hnx2:(pre ++ [k]).length=k+1:=by rw [List.length_append,List.length_singleton,hpl]
  rw [hpl,names_at base hk1] at hnm;rw [hpl] at hok;have hnl:(nthS base ((k:Nat)+1)).size≤245:=nthS_le base _ (by omega);generalize nthS base ((k:Nat)+1)=n at hnm hnl ⊢;have HNm2:=Lib.hid hnm;have HI:=Lib.hid hI;have HOk:=Lib.hid hok;obtain⟨R1,hY1,hS1⟩:=hI.g;have HLk:=Lib.hid (fun w1 (hb1:Below W.heap.size W w1) d=>slook_any (hY1.keep hb1) hok.fine.ok (by omega) u.c d n);obtain⟨fc,ff,fz⟩:=hI.f.facts;obtain⟨xc,xf,xz⟩:=hI.x.facts;clear hI hnm hok hY1 hS1 hpre hpl hBn;gi_wp2
  gi_loopw [32] (fun t32 wr=>∃ j:Nat,j≤3∧t32=.int .i64 j∧Z.fs.takenF Z.dead u.c n x.three=Z.fs.takenF Z.dead u.c n (x.three.drop j)∧Below W.heap.size W wr) (fun t32 _=>3 - (intOf t32).toNat)
  case atStart=>exact ⟨0,by omega,rfl,rfl,Below.refl _ _⟩
  case round=>
   obtain⟨j,hj,rfl,htk,hb⟩:=hrel;have hIr:=HI.out.keep hb;have HIr:=Lib.hid hIr;have HB:=Lib.hid hb;obtain⟨fc,ff,fz⟩:=hIr.f.facts;obtain⟨cc,cf,cz⟩:=hIr.c.facts;by_cases hlt:j<3
   ·obtain ⟨d,hd,hix⟩:=three_at x j hlt;have HLd:=Lib.hid (HLk.out _ hb d);have HTk:=Lib.hid (show Z.fs.takenF Z.dead u.c n x.three=if (Z.fs.lookF Z.dead u.c d n).2=0 then (true,0) else if (Z.fs.lookF Z.dead u.c d n).2≠5 then (false,(Z.fs.lookF Z.dead u.c d n).2) else Z.fs.takenF Z.dead u.c n (x.three.drop (j+1)) by rw [htk,hd];rfl);unfold Us.c at HLd;dsimp only at HLd;generalize hlk:Z.fs.lookF Z.dead u.c d n=r at HTk;have hlk2:Z.fs.lookF Z.dead ⟨u.u,u.g⟩ d n=r:=hlk;rw [hlk2] at HLd;obtain⟨no,e1⟩:=r;dsimp only at HLd HTk;clear hIr htk hd hlk hlk2 hb;gi_wp2;refine ⟨trivial,callsIn_wide.2 (HLd.out.mono ?_)⟩;rintro e w5 ⟨rfl,hb5⟩;have hI5:=HIr.out.keep hb5;have HB5:=Lib.hid (HB.out.trans (hb5.mono HB.out.size));have HI5:=Lib.hid hI5;obtain⟨oc,of,oz⟩:=hI5.o.facts;obtain⟨ec,ef,ez⟩:=hI5.e.facts;clear hI5 hb5 fc ff fz cc cf cz hix;by_cases h0:e1=0
    ·subst h0;have HT2:=Lib.hid (HTk.out.trans (if_pos rfl));clear oc of oz ec ef ez;gi_wp2;exact⟨KeepsV.of_below HB5.out,KT.of_below HB5.out (fun k hk=>by rw [hk];exact HBk.out.lt),Z,by
      rw [hnx2,HNm2.out,Sy.nameL,if_neg (by rw [HT2.out];decide),if_pos (by rw [HT2.out])],by rw [hnx2];exact HOk.out.mono (by omega),HI5.out,HBk.out.keep HB5.out⟩
    ·by_cases h5:e1=5
     ·subst h5;have HT2:=Lib.hid (HTk.out.trans ((if_neg (by decide)).trans (if_neg (by decide))));gi_wp2;go_roundw
      case measure=>simp [intOf];omega
      case rel=>exact ⟨j+1,by omega,by go_num,HT2.out,HB5.out⟩
     ·have h0b:(e1 == 0)=false:=by simpa using h0
      have h5b:(e1 == 5)=false:=by simpa using h5
      have HT2:=Lib.hid (HTk.out.trans ((if_neg h0).trans (if_pos h5)));gi_wp2;exact⟨(KeepsV.of_below HB5.out).trans ((KeepsV.setCell _ _ _ _).trans (KeepsV.setCell _ _ _ _)),rfl,Z,ByteArray.empty,e1,by
       rw [HNm.out,HNm2.out,Sy.nameL,if_pos (by rw [HT2.out];exact h0),HT2.out],
       (HI5.out.g.setc HI5.out.o (by omega) (by decide) (by decide) (by decide) (by decide) 0 _).setc (HI5.out.e.setOther _ _ (by simp)) (by omega) (by decide) (by decide) (by decide) (by decide) 0 _,
       (HI5.out.o.set 0 _).setOther _ _ (by simp),(HI5.out.e.setOther _ _ (by simp)).set 0 _⟩
   ·obtain rfl:j=3:=by omega
    have HT3:=Lib.hid (show Z.fs.takenF Z.dead u.c n x.three=(false,0) from htk);clear hIr htk fc ff fz cc cf cz;gi_wp2;have hIr:=HIr.out;obtain⟨R2,hY2,hS2⟩:=hIr.g;have hbd:Below wr.heap.size wr wr.drew:=(Below.refl _ _).drew;have hSb:∀ w':World,Below wr.heap.size wr w'→SNm w' w.heap.size pf u x text bc:=fun w' hb=>⟨hIr.f.keep hb,hIr.c.keep hb,hIr.x.keep hb,hIr.t.keep hb⟩;have HSb:=Lib.hid hSb;have HFi:=Lib.hid (cfile_any n (by omega));have HCr:=Lib.hid (screate_any (hY2.keep hbd) HOk.out.fine.ok (by omega) ⟨HOk.out.c0,by have:=HOk.out.cN;omega⟩ (by have:=HOk.out.pl;omega) u.c x.info (n ++ nSfx) 384 text (by rw [ByteArray.size_append];have:nSfx.size=10:=rfl;omega) ht);have HIs:=Lib.hid (fun (R3:Rp) (Z':Sy) (w':World) (h3:SyAt w' pf pw R3 pv Z') (hs3:Stp (R2.Y pf pw) (R3.Y pf pw) wr.drew w')=>And.intro ((HIr.out.keep hbd).step (hY2.keep hbd) (hS2.trans (Stp.of_below hbd)) h3 hs3) (And.intro hs3 (hY2.keep hbd)));refine wpIn_region_held_round (S:=fun w'=>SNm w' w.heap.size pf u x text bc) (by kernel_rfl) (by kernel_rfl) (fun h=>by obtain ⟨_,_,h⟩:=h;exact h) (hSb _ hbd) (fun hHeld=>?_);have HBn:=Lib.hid (fun (w9:World) (hb9:Below wr.heap.size wr w9)=>show ¬ R2.Y pf pw Bn from fun hy=>by
     have h1:=HBk.out.keep HB.out;obtain⟨o,ho,hd⟩:∃ o,wr.heap[Bn]? = some o∧o=.cells #[.string base] 9 (0,0):=⟨_,h1,rfl⟩;subst hd;rcases hy with rfl | hy
     ·have h2:=hY2.blk;unfold Blk at h2;rw [ho] at h2;injection h2 with h2;injection h2 with h2 h3;exact absurd h3 (by decide)
     ·obtain ⟨o',ho',hd'⟩:=hY2.wd.kind hy;rw [ho] at ho';injection ho' with ho';subst ho'
      cases hd')
    clear hY2 hS2 hSb hIr;refine reg_take 0 51 (v:=?vz1) rfl rfl (by kernel_rfl) (by kernel_rfl) (by kernel_rfl) (fun _ _ _ h=>h) rfl ?yz1 hHeld ?_
    case yz1=>(intro w9 hSw;obtain ⟨a1,-,-⟩:=hSw.f.facts;go_simp;(try with_reducible rfl))
    simp only [List.setIfInBounds_toArray,List.set_cons_zero,List.set_cons_succ];refine reg_take 1 52 (v:=?vz2) rfl rfl (by kernel_rfl) (by kernel_rfl) (by kernel_rfl) (fun _ _ _ h=>h) rfl ?yz2 hHeld ?_
    case yz2=>(intro w9 hSw;obtain ⟨a1,-,-⟩:=hSw.c.facts;go_simp;(try with_reducible rfl))
    simp only [List.setIfInBounds_toArray,List.set_cons_zero,List.set_cons_succ];refine reg_take 2 53 (v:=?vz3) rfl rfl (by kernel_rfl) (by kernel_rfl) (by kernel_rfl) (fun _ _ _ h=>h) rfl ?yz3 hHeld ?_
    case yz3=>(intro w9 hSw;go_simp;(try with_reducible rfl))
    simp only [List.setIfInBounds_toArray,List.set_cons_zero,List.set_cons_succ];refine reg_take 3 54 (v:=?vz4) rfl rfl (by kernel_rfl) (by kernel_rfl) (by kernel_rfl) (fun _ _ _ h=>h) rfl ?yz4 hHeld ?_
    case yz4=>(intro w9 hSw;obtain ⟨a1,-,-⟩:=hSw.x.facts;go_simp;(try with_reducible rfl))
    simp only [List.setIfInBounds_toArray,List.set_cons_zero,List.set_cons_succ];refine reg_take 4 55 (v:=?vz5) rfl rfl (by kernel_rfl) (by kernel_rfl) (by kernel_rfl) (fun _ _ _ h=>h) rfl ?yz5 hHeld ?_
    case yz5=>(intro w9 hSw;go_simp;(try with_reducible rfl))
    simp only [List.setIfInBounds_toArray,List.set_cons_zero,List.set_cons_succ];refine reg_take 6 57 (v:=?vz6) rfl rfl (by kernel_rfl) (by kernel_rfl) (by kernel_rfl) (fun _ _ _ h=>h) rfl ?yz6 hHeld ?_
    case yz6=>(intro w9 hSw;obtain ⟨a1,-,-⟩:=hSw.t.facts;go_simp;(try with_reducible rfl))
    simp only [List.setIfInBounds_toArray,List.set_cons_zero,List.set_cons_succ];refine reg_call 5 56 (R:=fun v w'=>v=.string (n ++ nSfx)∧wr.drew=w') (by kernel_rfl) rfl rfl rfl ?xc8 ((HFi.out wr.drew).mono (fun e w' ⟨he,hw⟩=>⟨_,he,rfl,hw⟩)) (fun v w' ⟨_,hw⟩=>by rw [←hw];exact hHeld) ?_
    case xc8=>(go_simp;(try rfl))
    rintro _ _ ⟨rfl,rfl⟩;simp only [List.setIfInBounds_toArray,List.set_cons_zero,List.set_cons_succ];have hq:Z.op (fun S now=>S.file u.c now x.info (n ++ nSfx) 384 text)=Z.tryF u.c x.info text n:=rfl;rw [hq] at HCr;have HOk2:=Lib.hid (HOk.out.tryF u.c x.info text n);have HNm3:=Lib.hid (show Y.nameL u.c x text (namesL base)=if (Z.tryF u.c x.info text n).2.2=7 then (Z.tryF u.c x.info text n).1.nameL u.c x text ((namesL base).drop (k+1)) else if (Z.tryF u.c x.info text n).2.2≠0 then ((Z.tryF u.c x.info text n).1,ByteArray.empty,(Z.tryF u.c x.info text n).2.2) else ((Z.tryF u.c x.info text n).1,n,0) by
     rw [HNm2.out,Sy.nameL,if_neg (by rw [HT3.out];decide),if_neg (by rw [HT3.out];decide)])
    generalize Z.tryF u.c x.info text n=q at HCr HOk2 HNm3;obtain⟨Z2,no2,e2⟩:=q;unfold Us.c at HCr;dsimp only at HCr HOk2 HNm3;clear hq;refine reg_call 7 58 (R:=fun v w'=>v=.tuple #[.int .i64 no2,.int .i64 e2]∧∃ R',SyAt w' pf pw R' pv Z2∧Stp (R2.Y pf pw) (R'.Y pf pw) wr.drew w') (by kernel_rfl) rfl rfl rfl ?xc9 (HCr.out.mono (fun e w' ⟨he,hw⟩=>⟨_,he,rfl,hw⟩)) (fun v w' ⟨_,R',h3,hs3⟩=>by
     have hI9:=(HIs.out R' Z2 w' h3 hs3).1;exact⟨hI9.f,hI9.c,hI9.x,hI9.t⟩) ?_
    case xc9=>(go_simp;(try rfl))
    rintro _ w6 ⟨rfl,R6,hY6,hS6⟩;obtain⟨hI6,-,hY2⟩:=HIs.out R6 Z2 w6 hY6 hS6;have hS6':SNm w6 w.heap.size pf u x text bc:=⟨hI6.f,hI6.c,hI6.x,hI6.t⟩;have HI6:=Lib.hid hI6;have HKv:=Lib.hid (show KeepsV w3.heap.size W w6 from ((KeepsV.of_below HB.out).trans (KeepsV.of_below hbd)).trans (KeepsV.of_mod hS6.mod (fun i o hi ho=>hY2.offY hi ho)));have HKt:=Lib.hid (show KT (fun i=>i=Bn) W w6 from (KT.of_below (HB.out.trans (hbd.mono HB.out.size)) (fun i hi=>by rw [hi];exact HBk.out.lt)).trans (KT.of_mod hS6.mod (fun i hi=>by rw [hi];exact Nat.lt_of_lt_of_le HBk.out.lt (Nat.le_trans HB.out.size hbd.size)) (fun i hi hy=>by rw [hi] at hy;exact HBn.out _ hbd hy)));obtain⟨oc,of,oz⟩:=hI6.o.facts;obtain⟨ec,ef,ez⟩:=hI6.e.facts;clear hY6 hS6 hI6 hY2;simp only [List.setIfInBounds_toArray,List.set_cons_zero,List.set_cons_succ];refine reg_take 8 50 (v:=?vz10) rfl rfl (by kernel_rfl) (by kernel_rfl) (by kernel_rfl) (fun _ _ _ h=>h) rfl ?yz10 hS6' ?_
    case yz10=>(intro w9 hSw;go_simp;(try with_reducible rfl))
    simp only [List.setIfInBounds_toArray,List.set_cons_zero,List.set_cons_succ];refine reg_take 9 59 (v:=?vz11) rfl rfl (by kernel_rfl) (by kernel_rfl) (by kernel_rfl) (fun _ _ _ h=>h) rfl ?yz11 hS6' ?_
    case yz11=>(intro w9 hSw;go_simp;(try with_reducible rfl))
    simp only [List.setIfInBounds_toArray,List.set_cons_zero,List.set_cons_succ];refine reg_take 10 60 (v:=?vz12) rfl rfl (by kernel_rfl) (by kernel_rfl) (by kernel_rfl) (fun _ _ _ h=>h) rfl ?yz12 hS6' ?_
    case yz12=>(intro w9 hSw;go_simp;(try with_reducible rfl))
    simp only [List.setIfInBounds_toArray,List.set_cons_zero,List.set_cons_succ];refine reg_take 11 18 (v:=?vz13) rfl rfl (by kernel_rfl) (by kernel_rfl) (by kernel_rfl) (fun _ _ _ h=>h) rfl ?yz13 hS6' ?_
    case yz13=>(intro w9 hSw;go_simp;(try with_reducible rfl))
    simp only [List.setIfInBounds_toArray,List.set_cons_zero,List.set_cons_succ];refine reg_take 12 19 (v:=?vz14) rfl rfl (by kernel_rfl) (by kernel_rfl) (by kernel_rfl) (fun _ _ _ h=>h) rfl ?yz14 hS6' ?_
    case yz14=>(intro w9 hSw;go_simp;(try with_reducible rfl))
    simp only [List.setIfInBounds_toArray,List.set_cons_zero,List.set_cons_succ];refine wpAnyH_done (by kernel_rfl) ?_ _;clear hS6' hHeld;by_cases h7:e2=7
    ·have h7b:(e2 != 7)=false:=by simpa using h7
     have HN4:=Lib.hid (HNm3.out.trans (if_pos h7));clear oc of oz ec ef ez h7;gi_wp2;exact⟨HKv.out,HKt.out,Z2,by rw [hnx2];exact HN4.out,by rw [hnx2];exact HOk2.out,HI6.out,(HKt.out.2 Bn rfl).trans HBk.out⟩
    ·have h7b:(e2 != 7)=true:=by simpa using h7
     have HN4:=Lib.hid (HNm3.out.trans (if_neg h7));by_cases h0:e2=0
     ·have h0b:(e2 != 0)=false:=by simpa using h0
      have HE5:=Lib.hid (show rd=(Z2,n,e2) by rw [HNm.out,HN4.out,if_neg (by simpa using h0),h0]);clear h7 h0;gi_wp2;exact⟨HKv.out.trans ((KeepsV.setCell _ _ _ _).trans (KeepsV.setCell _ _ _ _)),rfl,Z2,n,e2,HE5.out,
       (HI6.out.g.setc HI6.out.o (by omega) (by decide) (by decide) (by decide) (by decide) 0 _).setc (HI6.out.e.setOther _ _ (by simp)) (by omega) (by decide) (by decide) (by decide) (by decide) 0 _,
       (HI6.out.o.set 0 _).setOther _ _ (by simp),(HI6.out.e.setOther _ _ (by simp)).set 0 _⟩
     ·have h0b:(e2 != 0)=true:=by simpa using h0
      have HE5:=Lib.hid (show rd=(Z2,ByteArray.empty,e2) by rw [HNm.out,HN4.out,if_pos h0]);clear h7 h0;gi_wp2;exact⟨HKv.out.trans ((KeepsV.setCell _ _ _ _).trans (KeepsV.setCell _ _ _ _)),rfl,Z2,ByteArray.empty,e2,HE5.out,
       (HI6.out.g.setc HI6.out.o (by omega) (by decide) (by decide) (by decide) (by decide) 0 _).setc (HI6.out.e.setOther _ _ (by simp)) (by omega) (by decide) (by decide) (by decide) (by decide) 0 _,
       (HI6.out.o.set 0 _).setOther _ _ (by simp),(HI6.out.e.setOther _ _ (by simp)).set 0 _⟩
 case done=>
  intro D xs W hD hxs hI hK;subst hxs;obtain⟨Z,hnm,hok,hI,-⟩:=hI;rw [List.length_range,names_end] at hnm;have HE:=Lib.hid (show rd=(Z,ByteArray.empty,7) from HNm.out.trans hnm);obtain⟨oc,of,oz⟩:=hI.o.facts;obtain⟨ec,ef,ez⟩:=hI.e.facts;have HI:=Lib.hid hI;clear hI hnm hok;have HK2:=Lib.hid (((KeepsOthers.setCell W ⟨w.heap.size+1+1+1+1,0,none⟩ (.string ⟨#[]⟩)).trans (KeepsOthers.setCell _ ⟨w.heap.size+1+1+1+1+1,0,none⟩ (.int .i64 7))).same D _ hK rfl);have HG:=Lib.hid ((HI.out.g.setc HI.out.o (by omega) (by decide) (by decide) (by decide) (by decide) 0 (.string ⟨#[]⟩)).setc (HI.out.e.setOther _ _ (by simp)) (by omega) (by decide) (by decide) (by decide) (by decide) 0 (.int .i64 7));go_wp2_with fail;refine cname_leave HK2.out ((HI.out.o.set 0 _).setOther _ _ (by simp)) ((HI.out.e.setOther _ _ (by simp)).set 0 _) rfl rfl rfl ⟨by rw [HE.out];rfl,?_⟩;rw [HE.out];exact HG.out.turnV (Turn.put (B:=D) (Nat.le_refl _) HK2.out rfl) (by omega)
 case stop=>
  intro D c pre W hD hSp hIx hK;obtain⟨rfl,Z,s,e,hrd,hg,ho,he⟩:=hIx;gi_wp2;refine cname_leave hK ho he rfl rfl rfl ⟨by rw [hrd],?_⟩;rw [hrd];exact hg.turnV (Turn.put (B:=D) (Nat.le_refl _) hK rfl) (by omega)
end
end
section
open Go.RowKit
section
variable {w w':World} {pf:Nat} {R:Rf} {S:Fs}
theorem rfree_any (h:RfAt w pf R S) {N:Nat} (hk:FsOk S N) {d:Bool} (hd:R.dd=.bool d) (c:Cr) (base:ByteArray) (hbs:base.size≤9223372036854775807) {a:Option Addr} {m cp:Nat} (ds:List Int) (hs:SliceAt w 1 numR a m cp ds) :
  Calls Tryz.prog 24 #[.pointer (some ⟨pf,0,none⟩),.agg #[.int .i64 c.u,.int .i64 c.g],.string base,.slice a m cp] w fun e w'=>e=.returned (.tuple #[.string (S.freeL d c ds (namesL base)).1,.int .i64 (S.freeL d c ds (namesL base)).2])∧Below w.heap.size w w':=by
 have hX:=Blk.new w #[.int .i64 c.u,.int .i64 c.g] 67;have hbX:=balloc (Below.refl w.heap.size w) (.cells #[.int .i64 c.u,.int .i64 c.g] 67);have HT:=Lib.hid (fun w1 (hb1:Below w.heap.size w w1) n=>rtaken_any (h.keep hb1) hk hd c n ds (hs.below hb1 (Nat.le_refl _)));have HNt:=Lib.hid (fun k (h0:0≤k) (h1:k≤1000) w1=>rnth30_any base k w1 hbs (by omega) (by omega));have HNa:=Lib.hid (fun k (hk:k<1000)=>names_at base hk);have HNe:=Lib.hid (names_end base);obtain⟨L0,hL0⟩:∃ l,namesL base=l:=⟨_,rfl⟩;rw [hL0] at HNa HNe ⊢;clear h hk hd hL0 hs;go_enter Tryz.func24,Tryz.ntmps24;go_upto_region 1 with fail;generalize w.alloc (.cells #[.int .i64 c.u,.int .i64 c.g] 67)=W0 at hX hbX ⊢;have HX:=Lib.hid (And.intro hX hbX);clear hX hbX;go_wp2_with fail
 go_loopw [10] (fun t10 wr=>∃ j:Nat,j≤1000∧t10=.int .i64 (j+1)∧S.freeL d c ds L0=S.freeL d c ds (L0.drop j)∧Below w.heap.size w wr∧Blk wr w.heap.size #[.int .i64 c.u,.int .i64 c.g] 67) (fun t10 _=>1001 - (intOf t10).toNat)
 case atStart=>exact ⟨0,by omega,rfl,rfl,HX.out.2,HX.out.1⟩
 case round=>
  obtain⟨j,hj,rfl,hfr,hb,hc⟩:=hrel;have HB:=Lib.hid (And.intro hb hc);by_cases hlt:j<1000
  ·have HF:=Lib.hid (show S.freeL d c ds L0=if (S.takenF d c (nthS base ((j:Nat)+1)) ds).2≠0 then (ByteArray.empty,(S.takenF d c (nthS base ((j:Nat)+1)) ds).2) else if (S.takenF d c (nthS base ((j:Nat)+1)) ds).1=true then S.freeL d c ds (L0.drop (j+1)) else (nthS base ((j:Nat)+1),0) by rw [hfr,HNa.out j hlt];rfl);have hN1:=HNt.out ((j:Int)+1) (by omega) (by omega);have hT1:=fun w1 hb1=>HT.out w1 hb1 (nthS base ((j:Int)+1));generalize nthS base ((j:Int)+1)=nm at HF hN1 hT1;generalize S.takenF d c nm ds=r at HF hT1;obtain⟨is,e4⟩:=r;dsimp only at HF hT1;have HN1:=Lib.hid hN1;have HT1:=Lib.hid hT1;obtain⟨xc,xf,xz⟩:=hc.facts;clear hfr hb hc hN1 hT1;go_upto_region 4 with fail;have hbd:Below wr.heap.size wr wr.drew:=(Below.refl _ _).drew;have hb0:Below w.heap.size w wr.drew:=HB.out.1.drew;refine wp_region_held_drew (S:=fun w'=>Blk w' w.heap.size #[.int .i64 c.u,.int .i64 c.g] 67) (by kernel_rfl) (HB.out.2.keep hbd) (fun hHeld=>?_);refine reg_take 0 18 (v:=?va0) rfl rfl (by kernel_rfl) (by kernel_rfl) (by kernel_rfl) (fun _ _ _ h=>h) rfl ?ya0 hHeld ?_
   case ya0=>(intro w9 hSw;obtain ⟨xc,-,-⟩:=hSw.facts;clear hSw;go_simp;(try with_reducible rfl))
   simp only [List.setIfInBounds_toArray,List.set_cons_zero,List.set_cons_succ];refine reg_take 1 19 (v:=?va1) rfl rfl (by kernel_rfl) (by kernel_rfl) (by kernel_rfl) (fun _ _ _ h=>h) rfl ?ya1 hHeld ?_
   case ya1=>(intro w9 hSw;obtain ⟨xc,-,-⟩:=hSw.facts;clear hSw;go_simp;(try with_reducible rfl))
   simp only [List.setIfInBounds_toArray,List.set_cons_zero,List.set_cons_succ];refine reg_take 2 20 (v:=?va2) rfl rfl (by kernel_rfl) (by kernel_rfl) (by kernel_rfl) (fun _ _ _ h=>h) rfl ?ya2 hHeld ?_
   case ya2=>(intro w9 hSw;obtain ⟨xc,-,-⟩:=hSw.facts;clear hSw;go_simp;(try with_reducible rfl))
   simp only [List.setIfInBounds_toArray,List.set_cons_zero,List.set_cons_succ];refine reg_take 3 21 (v:=?va3) rfl rfl (by kernel_rfl) (by kernel_rfl) (by kernel_rfl) (fun _ _ _ h=>h) rfl ?ya3 hHeld ?_
   case ya3=>(intro w9 hSw;obtain ⟨xc,-,-⟩:=hSw.facts;clear hSw;go_simp;(try with_reducible rfl))
   simp only [List.setIfInBounds_toArray,List.set_cons_zero,List.set_cons_succ];refine reg_take 5 23 (v:=?va5) rfl rfl (by kernel_rfl) (by kernel_rfl) (by kernel_rfl) (fun _ _ _ h=>h) rfl ?ya5 hHeld ?_
   case ya5=>(intro w9 hSw;obtain ⟨xc,-,-⟩:=hSw.facts;clear hSw;go_simp;(try with_reducible rfl))
   simp only [List.setIfInBounds_toArray,List.set_cons_zero,List.set_cons_succ];refine reg_call 4 22 (R:=fun v w'=>v=.string nm∧Below wr.drew.heap.size wr.drew w') (by kernel_rfl) rfl rfl rfl ?xa4 ((HN1.out wr.drew).mono (fun e w' ⟨he,hb⟩=>⟨_,he,rfl,hb⟩)) (fun v w' ⟨_,hb⟩=>hHeld.keep hb) ?_
   case xa4=>(go_simp;(try rfl))
   rintro _ w2 ⟨rfl,hb2⟩;simp only [List.setIfInBounds_toArray,List.set_cons_zero,List.set_cons_succ];have hH2:=hHeld.keep hb2;have hbw2:Below w.heap.size w w2:=bnext hb0 hb2;refine reg_call 6 24 (R:=fun v w'=>v=.tuple #[.bool is,.int .i64 e4]∧Below w2.heap.size w2 w') (by kernel_rfl) rfl rfl rfl ?xa6 ((HT1.out w2 hbw2).mono (fun e w' ⟨he,hb⟩=>⟨_,he,rfl,hb⟩)) (fun v w' ⟨_,hb⟩=>hH2.keep hb) ?_
   case xa6=>(go_simp;(try rfl))
   rintro _ w3 ⟨rfl,hb3⟩;simp only [List.setIfInBounds_toArray,List.set_cons_zero,List.set_cons_succ];have hH3:=hH2.keep hb3;have HB3:=Lib.hid (And.intro (bnext hbw2 hb3) hH3);refine reg_take 7 17 (v:=?vb7) rfl rfl (by kernel_rfl) (by kernel_rfl) (by kernel_rfl) (fun _ _ _ h=>h) rfl ?yb7 hH3 ?_
   case yb7=>(intro w9 hSw;obtain ⟨xc,-,-⟩:=hSw.facts;clear hSw;go_simp;(try with_reducible rfl))
   simp only [List.setIfInBounds_toArray,List.set_cons_zero,List.set_cons_succ];refine reg_take 8 25 (v:=?vb8) rfl rfl (by kernel_rfl) (by kernel_rfl) (by kernel_rfl) (fun _ _ _ h=>h) rfl ?yb8 hH3 ?_
   case yb8=>(intro w9 hSw;obtain ⟨xc,-,-⟩:=hSw.facts;clear hSw;go_simp;(try with_reducible rfl))
   simp only [List.setIfInBounds_toArray,List.set_cons_zero,List.set_cons_succ];refine reg_take 9 26 (v:=?vb9) rfl rfl (by kernel_rfl) (by kernel_rfl) (by kernel_rfl) (fun _ _ _ h=>h) rfl ?yb9 hH3 ?_
   case yb9=>(intro w9 hSw;obtain ⟨xc,-,-⟩:=hSw.facts;clear hSw;go_simp;(try with_reducible rfl))
   simp only [List.setIfInBounds_toArray,List.set_cons_zero,List.set_cons_succ];refine reg_take 10 11 (v:=?vb10) rfl rfl (by kernel_rfl) (by kernel_rfl) (by kernel_rfl) (fun _ _ _ h=>h) rfl ?yb10 hH3 ?_
   case yb10=>(intro w9 hSw;obtain ⟨xc,-,-⟩:=hSw.facts;clear hSw;go_simp;(try with_reducible rfl))
   simp only [List.setIfInBounds_toArray,List.set_cons_zero,List.set_cons_succ];refine reg_take 11 12 (v:=?vb11) rfl rfl (by kernel_rfl) (by kernel_rfl) (by kernel_rfl) (fun _ _ _ h=>h) rfl ?yb11 hH3 ?_
   case yb11=>(intro w9 hSw;obtain ⟨xc,-,-⟩:=hSw.facts;clear hSw;go_simp;(try with_reducible rfl))
   simp only [List.setIfInBounds_toArray,List.set_cons_zero,List.set_cons_succ];refine wpAnyH_done (by kernel_rfl) ?_ _;clear hHeld hH2 hb2 hb3 hbw2 hH3 hbd hb0 xc xf xz;by_cases h4:e4=0
   ·have h4b:(e4 != 0)=false:=by simpa using h4
    have HF2:=Lib.hid (HF.out.trans (if_neg (by simpa using h4)));subst h4
    cases is with
    | true=>
     have HF3:=Lib.hid (HF2.out.trans (if_pos rfl));go_wp2_with fail;go_roundw
     case measure=>simp [intOf];omega
     case rel=>exact ⟨j+1,by omega,by go_num,HF3.out,HB3.out.1,HB3.out.2⟩
    | false=>
     have HF3:=Lib.hid (HF2.out.trans (if_neg (by decide)));go_wp2_with fail;refine (HN1.out _).mono ?_;rintro e w4 ⟨rfl,hb4⟩;have HB4:=Lib.hid (bnext HB3.out.1 hb4);clear hb4;go_wp2_with fail;go_ret2;rw [HF3.out];exact⟨rfl,HB4.out⟩
   ·have h4b:(e4 != 0)=true:=by simpa using h4
    have HF2:=Lib.hid (HF.out.trans (if_pos h4));clear h4;go_wp2_with fail;go_ret2;rw [HF2.out];exact⟨rfl,HB3.out.1⟩
  ·obtain rfl:j=1000:=by omega
   have HE:=Lib.hid (show S.freeL d c ds L0=(ByteArray.empty,7) by rw [hfr,HNe.out];rfl);clear hb hc hfr;go_wp2_with fail;go_ret2;rw [HE.out];exact⟨rfl,HB.out.1⟩
end
end
section
open Go
section
variable {P:Program} {ops:Array Oper} {Q:Exit→Act→World→Prop} {md:Region.Mode} {S:World→Prop}
def takesB (md:Region.Mode) (ops:Array Oper):List (Nat×Nat)→Array Bool→Bool
 | [],_=>true
 | (i,d) :: l,listed=>(match ops[i]? with | some o=>decide (o.dst=some d) | none=>false) && Region.free md ops listed i && (Region.ready md ops listed).contains i && takesB md ops l (listed.setIfInBounds i true)
def takesL:List (Nat×Nat)→Array Bool→Array Bool
 | [],x=>x
 | (i,_) :: l,x=>takesL l (x.setIfInBounds i true)
def Takes (P:Program) (ops:Array Oper) (S:World→Prop) (defers:List Deferred):List (Nat×Nat)→Array Value→(Array Value→Prop)→Prop
 | [],t,K=>K t
 | (i,d) :: l,t,K=>∃ oi v,ops[i]? = some oi∧((Region.wanted oi (yielded ops t)=true∧∀ w,S w→(execOp (Act.eval {tmps:=t,defers}) oi).run P w=.ok (.value v) w)∨(Region.wanted oi (yielded ops t)=false∧v=undef))∧Takes P ops S defers l (t.setIfInBounds d v) K
theorem takes_cons {defers:List Deferred} {i d:Nat} {l:List (Nat×Nat)} {t:Array Value} {K:Array Value→Prop} {oi:Oper} {v:Value} (h0:ops[i]? = some oi) (hw:Region.wanted oi (yielded ops t)=true)
  (hy:∀ w,S w→(execOp (Act.eval {tmps:=t,defers}) oi).run P w=.ok (.value v) w) (h:Takes P ops S defers l (t.setIfInBounds d v) K):Takes P ops S defers ((i,d) :: l) t K:=⟨oi,v,h0,.inl ⟨hw,hy⟩,h⟩
theorem takes_nil {defers:List Deferred} {t:Array Value} {K:Array Value→Prop} (h:K t):Takes P ops S defers [] t K:=h
theorem reg_takesL (hs:Region.noSelect ops=true) (hQ:∀ c a (d:Nat) v w,Q (.panic c) (Act.put a (some d) v) w→Q (.panic c) a w) {defers:List Deferred} {w:World} (hS:S w) {fuel:Nat} :
  ∀ (l:List (Nat×Nat)) (listed:Array Bool) (t:Array Value),takesB md ops l listed=true→Takes P ops S defers l t (fun t'=>wpAnyH P md ops Q S fuel (takesL l listed) {tmps:=t',defers} w)→wpAnyH P md ops Q S (fuel+l.length) listed {tmps:=t,defers} w
 | [],_,_,_,h=>h
 | (i,d) :: l,listed,t,hB,h=>by
  obtain⟨oi,v,h0,hv,h⟩:=h;simp only [takesB,h0,Bool.and_eq_true,decide_eq_true_eq] at hB;obtain⟨⟨⟨hd,hf⟩,hr⟩,hB⟩:=hB;refine wpAnyH_take h0 hs hf hr (fun c a w=>?_) hv hS ?_
  ·rw [hd];exact hQ c a d v w
  ·rw [hd];exact reg_takesL hs hQ hS l _ _ hB h
theorem reg_takes (n:Nat) (l:List (Nat×Nat)) {listed:Array Bool} {tmps:Array Value} {defers:List Deferred} {w:World} {fuel:Nat} (hB:takesB md ops l listed=true) (hs:Region.noSelect ops=true) (hn:l.length=n)
  (hQ:∀ c a (d:Nat) v w,Q (.panic c) (Act.put a (some d) v) w→Q (.panic c) a w) (hS:S w) (h:Takes P ops S defers l tmps (fun t'=>wpAnyH P md ops Q S fuel (takesL l listed) {tmps:=t',defers} w)) :
  wpAnyH P md ops Q S (fuel+n) listed {tmps,defers} w:=by
 subst hn;exact reg_takesL hs hQ hS l listed tmps hB h
end
end
end Go.Proofs.YtihdbncoijhihaaGreat
