import Derived.Test.YtbndfmkgamdgeaaGreatDoorSO1
import Derived.Test.YtbndfmkgamdgeaaGreatDoorSO2
import Derived.Test.YtbndfmkgamdgeaaGreatDoorSO5
import Derived.Test.YtbndfmkgamdgeaaGreatDoorSO6
import Derived.Test.YtbndfmkgamdgeaaGreatDoorSO7
import Derived.Test.YtbndfmkgamdgeaaGreatDoorSO8
import Derived.Test.YtbndfmkgamdgeaaGreatDoorSO9
import Derived.Test.YtbndfmkgamdgeaaGreatDoorSO10
import Derived.Test.YtbndfmkgamdgeaaGreatDoorSO11
import Derived.Test.YtbndfmkgamdgeaaGreatDoorSO13
import Derived.Test.YtbndfmkgamdgeaaGreatDoorSO14
import Derived.Test.YtbndfmkgamdgeaaGreatDoorSO17
import Derived.Test.YtbndfmkgamdgeaaGreatDoorSO19
import Derived.Test.YtbndfmkgamdgeaaGreatDoorSO21
import Derived.Test.YtbndfmkgamdgeaaGreatDoorSO24
import Derived.Test.YtbndfmkgamdgeaaGreatDoorSO25
import Derived.Test.YtbndfmkgamdgeaaGreatDoorSO28
import Derived.Test.YtbndfmkgamdgeaaGreatDoorSO31
import Derived.Test.YtbndfmkgamdgeaaGreatDoorSO36
set_option linter.unusedVariables false
set_option linter.unusedSimpArgs false
set_option maxRecDepth 100000
set_option maxHeartbeats 16000000
namespace Go.Proofs.YtbndfmkgamdgeaaGreatDoor
section
open Go.RowKit Go.Shelf
attribute [local go_sem] Oper.semAt_some
theorem plist_ret {w W:World} {tmps:Array Value} {v:Value} {o:Int} {l:List En} {ds:List Deferred} (h6:tmps.getD 6 undef=v) (h7:tmps.getD 7 undef=.int .i64 o) (hco:Coll w.heap.size W ds) (ho:OE W w.heap.size v l) (hb:Below w.heap.size w W) :
  bodyPostM Fence.wide 5 Tryz.prog Tryz.f73 (fun e w'=>∃ v,e=.returned (.tuple #[v,.int .i64 o])∧OE w' w.heap.size v l∧Below w.heap.size w w') .ret {tmps,defers:=ds} W:=by
 obtain⟨Ds,rfl,h2,h3⟩:=hco;rw [Array.getD_eq_getD_getElem?] at h6 h7;show LeavesInM Fence.wide 5 Tryz.prog Tryz.f73 _ _ _ _ W;refine coll_leave (v:=.tuple #[v,.int .i64 o]) (fun W=>?_) Ds W h2 (fun D hD=>(h3 D hD).2) (fun W' hm=>⟨v,rfl,own_mod ho hm (fun k hk he=>?_),hb.trans (hm.below (fun k hk=>(h3 k hk).1) hb.size)⟩)
 ·simp [results,Tryz.results73,go_sem,h6,h7]
 ·obtain ⟨-,cur,hc⟩:=own_obj1 ho he;have:=(h3 k hk).2;rw [hc] at this
  cases this
theorem OE.mkcap (w:World) (n:Nat) (hn:n≤999999):∃ M,(Instr.makeSlice 88 (.int .i64 0) (.int .i64 n)).run Tryz.prog w=.ok (.slice (some ⟨w.heap.size,0,none⟩) 0 n) (w.alloc (.cells M 92))∧OE (w.alloc (.cells M 92)) w.heap.size (.slice (some ⟨w.heap.size,0,none⟩) 0 n) []:=by
 obtain⟨i0,hi,hz0,hz1,hz2⟩:=info_parts ent_info;have hb:i0.bytes*n≤24*999999:=by rw [hz2];exact Nat.mul_le_mul (Nat.le_refl _) hn
 have hr:=run_make (P:=Tryz.prog) w 88 92 i0 _ Tryz.underlying88 hi hz0 .i64 .i64 0 n (Int.le_refl _) (by omega) (by
  have h:((i0.bytes*n:Nat):Int)≤281474976710656:=by omega
  rwa [Int.natCast_mul] at h) (by omega)
 simp only [Int.toNat_zero,Int.toNat_natCast] at hr;refine ⟨_,hr,?_⟩;rw [hz1];exact World.ownsRow_made w _ n (Nat.le_refl _) (by unfold maxLen;omega) (size_madeCells _ _)
structure LI (w:World) (B0 Bo Bc pw:Nat) (vc:Value) (S:Fs) (pre:List En) (W:World):Prop where
 o:∃ g cap,Blk W Bo #[.slice (some ⟨g,0,none⟩) pre.length cap] 88∧OE W B0 (.slice (some ⟨g,0,none⟩) pre.length cap) (pre.map S.seen)
 p:Blk W w.heap.size #[.pointer (some ⟨pw,0,none⟩)] 98
 b:Below w.heap.size w W
 n:B0≤W.heap.size
 c:Blk W Bc #[vc] 88
theorem LI.turn {w A C:World} {B0 Bo Bc pw N:Nat} {vc:Value} {S:Fs} {pre:List En} (h:LI w B0 Bo Bc pw vc S pre A) (ht:Turn NoT N notCells A C) (hN:w.heap.size≤N):LI w B0 Bo Bc pw vc S pre C:=by
 obtain⟨g,cap,h1,h2⟩:=h.o;refine ⟨⟨g,cap,blk_turnN h1 ht,?_⟩,blk_turnN h.p ht,below_turnN h.b ht hN (Nat.le_refl _),Nat.le_trans h.n ht.size,blk_turnN h.c ht⟩;exact own_turn h2 (fun k hk=>by
  obtain⟨-,cur,hc⟩:=own_obj1 h2 hk;rw [hc];exact ht.block k _ hc (fun h=>h) (fun _=>rfl))
theorem LI.push {w W V:World} {B0 Bo Bc pw:Nat} {vc:Value} {S:Fs} {pre:List En} (h:LI w B0 Bo Bc pw vc S pre W) (e:En) {g cap:Nat} (hg:Blk W Bo #[.slice (some ⟨g,0,none⟩) pre.length cap] 88) (hb:Below W.heap.size W V) (hl:pre.length≤999999) (hw0:w.heap.size<B0) (hBo:B0<Bo) (hBc:Bo<Bc) {ea:Option Addr} (hea:∀ k off,ea=some ⟨k,off,none⟩→k<B0) (N:Nat) :
  ∃ g9 cap9 W9,Blk V Bo #[.slice (some ⟨g,0,none⟩) pre.length cap] 88∧(Builtin.append_ #[88,88] 88 #[.slice (some ⟨g,0,none⟩) pre.length cap,.slice (some ⟨V.heap.size,0,none⟩) 1 1]).run Tryz.prog (V.alloc (.cells #[.string e.name,.int .i64 (S.over e.no)] 92))=.ok (.slice (some ⟨g9,0,none⟩) (pre.length+1) cap9) W9∧
   Blk W9 Bo #[.slice (some ⟨g,0,none⟩) pre.length cap] 88∧Blk W9 w.heap.size #[.pointer (some ⟨pw,0,none⟩)] 98∧Blk (W9.setCell ⟨Bo,0,none⟩ (.slice (some ⟨g9,0,none⟩) (pre.length+1) cap9)) w.heap.size #[.pointer (some ⟨pw,0,none⟩)] 98∧
   KeepsFrom N W (W9.setCell ⟨Bo,0,none⟩ (.slice (some ⟨g9,0,none⟩) (pre.length+1) cap9))∧KT (fun k=>k=Bc∨∃ off,ea=some ⟨k,off,none⟩) W (W9.setCell ⟨Bo,0,none⟩ (.slice (some ⟨g9,0,none⟩) (pre.length+1) cap9))∧
   LI w B0 Bo Bc pw vc S (pre ++ [e]) (W9.setCell ⟨Bo,0,none⟩ (.slice (some ⟨g9,0,none⟩) (pre.length+1) cap9)):=by
 obtain⟨g',cap',h1,h2⟩:=h.o;obtain⟨rfl,rfl⟩:g'=g∧cap'=cap:=by
  unfold Blk at h1 hg;rw [h1] at hg;injection hg with hg;injection hg with e1;simpa using e1
 clear hg;have hlm:(pre.map S.seen).length=pre.length:=List.length_map _;have h2V:=OE.keep (es:=pre.map S.seen) h2 hb;obtain⟨g9,cap9,W9,hr,ho9,hm9,hb9⟩:=OE.app2 h2V (S.seen e) (by rw [hlm];omega) (Nat.le_trans h.n hb.size);rw [hlm] at hr ho9;have hBoV:=h1.keep hb;have hPV:=h.p.keep hb;have hCV:=h.c.keep hb;have hBo9:=own_blk h2V (by decide) hBoV hm9;have hP9:=own_blk h2V (by decide) hPV hm9;have hC9:=own_blk h2V (by decide) hCV hm9;have hs1:W.heap.size≤V.heap.size:=hb.size;have hsW:Mod (fun k=>k=Bo) W9 (W9.setCell ⟨Bo,0,none⟩ (.slice (some ⟨g9,0,none⟩) (pre.length+1) cap9)):=(Mod.refl (fun k=>k=Bo) W9).setCell (a:=⟨Bo,0,none⟩) (.inl rfl) _;have hM:Mod (fun k=>(Value.slice (some ⟨g',0,none⟩) pre.length cap').ownBlock=some k∨k=Bo) W (W9.setCell ⟨Bo,0,none⟩ (.slice (some ⟨g9,0,none⟩) (pre.length+1) cap9)):=
  ((Mod.of_below hb).trans (hm9.mono (fun k hk=>.inl hk))).trans (hsW.mono (fun k hk=>.inr hk))
 have hkind:∀ k,((Value.slice (some ⟨g',0,none⟩) pre.length cap').ownBlock=some k∨k=Bo)→∃ cur T fz,W.heap[k]? = some (.cells cur T fz):=fun k hk=>by
  rcases hk with hk | rfl
  ·obtain ⟨-,cur,hc⟩:=own_obj1 h2 hk;exact⟨_,_,_,hc⟩
  ·exact ⟨_,_,_,h1⟩
 have hlow:∀ k,((Value.slice (some ⟨g',0,none⟩) pre.length cap').ownBlock=some k∨k=Bo)→B0≤k:=fun k hk=>by
  rcases hk with hk | rfl
  ·exact (own_obj1 h2 hk).1
  ·omega
 refine ⟨g9,cap9,W9,hBoV,hr,hBo9,hP9,hP9.mod hsW (by omega),(keeps_mod1 hM hkind).from N,KT.of_mod hM (fun k hk=>?_) (fun k hk hS=>?_),⟨⟨g9,cap9,?_,?_⟩,hP9.mod hsW (by omega),h.b.trans (hM.below (fun k hk=>by have:=hlow k hk;omega) h.b.size),Nat.le_trans h.n hM.size,hC9.mod hsW (by omega)⟩⟩
 ·rcases hk with rfl | ⟨off,hk⟩
  ·exact h.c.lt
  ·have:=hea k off hk;have:=h.n;omega
 ·rcases hk with rfl | ⟨off,hk⟩
  ·rcases hS with hS | hS
   ·obtain ⟨-,cur,hc⟩:=own_obj1 h2 hS;have h5:=h.c;unfold Blk at h5;rw [hc] at h5;injection h5 with h5;injection h5 with e1 e2 e3;revert e2;decide
   ·omega
  ·have:=hea k off hk;have:=hlow k hS;omega
 ·rw [List.length_append,List.length_singleton];exact hBo9.set 0 _
 ·rw [List.length_append,List.length_singleton,List.map_append];exact own_box ho9 (by decide) hBo9 hsW
section
variable {w w':World} {pw:Nat} {R:Rp} {S:Fs}
theorem plist_any (h:WdAt w pw R S) {N:Nat} (hk:FsOk S N) (hN:N≤999999) (c:Cr) (no:Int) :
  Calls Tryz.prog 73 #[.pointer (some ⟨pw,0,none⟩),.agg #[.int .i64 c.u,.int .i64 c.g],.int .i64 no] w fun e w'=>∃ v,e=.returned (.tuple #[v,.int .i64 (S.listF false c no).2])∧OE w' w.heap.size v (S.listF false c no).1∧Below w.heap.size w w':=by
 obtain⟨hP,hC,hb2⟩:=boxes2 w #[.pointer (some ⟨pw,0,none⟩)] #[.int .i64 c.u,.int .i64 c.g] 98 54;have HO:=Lib.hid (show Calls Tryz.prog 120 #[.pointer (some ⟨pw,0,none⟩),.agg #[.int .i64 c.u,.int .i64 c.g],.int .i64 no,.int .i64 1,.int .i64 4] ((w.alloc (.cells #[.pointer (some ⟨pw,0,none⟩)] 98)).alloc (.cells #[.int .i64 c.u,.int .i64 c.g] 54)) fun e w'=>∃ (d:An) (ea:Option Addr) (el ec:Nat) (oe:Int) (L:List En),e=.returned (.tuple #[d.v ea el ec,.int .i64 oe])∧EntsAt w' ea el ec d.ents∧S.listF false c no=(L,oe)∧(oe=0→d.ents.map S.seen=L)∧(oe≠0→L=[])∧d.ents.length≤999999∧Below ((w.alloc (.cells #[.pointer (some ⟨pw,0,none⟩)] 98)).alloc (.cells #[.int .i64 c.u,.int .i64 c.g] 54)).heap.size ((w.alloc (.cells #[.pointer (some ⟨pw,0,none⟩)] 98)).alloc (.cells #[.int .i64 c.u,.int .i64 c.g] 54)) w' from
  (open_any (h.keep hb2) hk c no 1 4).mono (by
   rintro e w1 ⟨⟨h0,rfl⟩|⟨h0,d,ea,el,ec,hg,rfl,he⟩,hb1⟩
   ·refine ⟨an0,none,0,0,S.openE c no 1 4,[],rfl,EntsAt.nil _,?_,fun h=>absurd h h0,fun _=>rfl,by decide,hb1⟩;rw [listF_seen,if_pos h0]
   ·refine ⟨d,ea,el,ec,0,d.ents.map S.seen,rfl,he.keep hb1,?_,fun _=>rfl,fun h=>absurd rfl h,Nat.le_trans (hk.get hg).1.few hN,hb1⟩;rw [listF_seen,if_neg (by simpa using h0)];unfold Fs.entsOf;rw [hg]))
 have HOv:=Lib.hid (fun w1 (hb1:Below w.heap.size w w1) k=>wover_any (h.keep hb1) hk.d1 k);have HP:=Lib.hid (And.intro hP hC);have HB:=Lib.hid hb2;generalize S.listF false c no=rd at HO ⊢;obtain⟨pc,pf',pz⟩:=hP.facts;obtain⟨cc,cf,cz⟩:=hC.facts;clear h hk hP hC hb2;refine (callsIn_wide (n:=5)).1 ?_;refine callsIn_of_wp_marks Tryz.func73 rfl trivial ?_ rfl;simp only [Tryz.ntmps73,List.size_toArray,List.length_cons,List.length_nil,Nat.reduceAdd,Nat.reduceSub,Array.replicate_succ,Array.replicate_zero,List.push_toArray,List.append_toArray,List.nil_append,List.cons_append];refine wpIn_wide.2 ?_;go_upto_region 1 with fail;generalize (w.alloc (.cells #[.pointer (some ⟨pw,0,none⟩)] 98)).alloc (.cells #[.int .i64 c.u,.int .i64 c.g] 54)=w0 at HO HP HB pc pf' pz cc cf cz ⊢;go_wp2_with fail;refine HO.out.mono ?_;rintro e w1 ⟨d,ea,el,ec,oe,L,rfl,he,rfl,hL1,hL0,hln,hb1⟩;have hX:=Blk.new w1 #[.int .i64 d.no,.int .i64 d.dev,.int .i64 d.kind,.int .i64 d.mode,.int .i64 d.uid,.int .i64 d.gid,.int .i64 d.mtime,.int .i64 d.ctime,.int .i64 d.links,.int .i64 d.up,.string d.data,.slice ea el ec] 163;have hbX:=balloc (Below.refl w1.heap.size w1) (.cells #[.int .i64 d.no,.int .i64 d.dev,.int .i64 d.kind,.int .i64 d.mode,.int .i64 d.uid,.int .i64 d.gid,.int .i64 d.mtime,.int .i64 d.ctime,.int .i64 d.links,.int .i64 d.up,.string d.data,.slice ea el ec] 163);have hE:=he.keep hbX;have hB:=bnext (bnext HB.out hb1) hbX;have hP1:=(HP.out.1.keep hb1).keep hbX;have hel:=he.len;subst hel;have h63:=he.sl.2.1;have h64:=he.sl.2.2.1;unfold An.v;clear hb1 he pc pf' pz cc cf cz;go_upto_region 2 with fail;generalize w1.alloc (.cells #[.int .i64 d.no,.int .i64 d.dev,.int .i64 d.kind,.int .i64 d.mode,.int .i64 d.uid,.int .i64 d.gid,.int .i64 d.mtime,.int .i64 d.ctime,.int .i64 d.links,.int .i64 d.up,.string d.data,.slice ea d.ents.length ec] 163)=X at hX hbX hE hB hP1 ⊢;generalize w1.heap.size=Bd at hX;have HX:=Lib.hid hX;have HE:=Lib.hid hE;have HB1:=Lib.hid hB;have HP1:=Lib.hid hP1;obtain⟨xc,xf,xz⟩:=hX.facts;clear hX hbX hE hB hP1;by_cases h0:oe=0
 ·have HL:=Lib.hid (hL1 h0);subst h0;clear hL1 hL0;have hmk:¬ (d.ents.length:Int)<0:=by omega
  obtain⟨M,hmr,hmO⟩:=OE.mkcap X d.ents.length hln;go_upto_region 5 with fail;have hBo5:=Blk.new (X.alloc (.cells M 92)) #[.slice (some ⟨X.heap.size,0,none⟩) 0 d.ents.length] 88;have hbM:=balloc (Below.refl X.heap.size X) (.cells M 92);have hb5:=balloc hbM (.cells #[.slice (some ⟨X.heap.size,0,none⟩) 0 d.ents.length] 88);have hO5:=hmO.keep (balloc (Below.refl _ _) (.cells #[.slice (some ⟨X.heap.size,0,none⟩) 0 d.ents.length] 88));rw [World.size_alloc] at hBo5;have hX5:=HX.out.keep hb5;generalize (X.alloc (.cells M 92)).alloc (.cells #[.slice (some ⟨X.heap.size,0,none⟩) 0 d.ents.length] 88)=w5 at hBo5 hb5 hO5 hX5 ⊢;have H5:=Lib.hid (And.intro hBo5 (And.intro hO5 hb5));clear xc xf xz hmr hmO hbM hBo5 hO5;obtain⟨xc,xf,xz⟩:=hX5.facts;clear hX5 hb5;go_wp2_with fail;refine (entsall_any ea d.ents.length ec w5).mono ?_;rintro e w6 ⟨rfl,hw6⟩;have hsz6:w5.heap.size<w6.heap.size:=by rw [hw6,World.size_alloc];omega
  have hb6:Below w5.heap.size w5 w6:=by rw [hw6];exact balloc (Below.refl _ _) _
  have hA6:Blk w6 w5.heap.size #[.slice ea d.ents.length ec] 88:=by rw [hw6];exact Blk.new w5 _ _
  have hE6:EntsAt w6 ea d.ents.length ec d.ents:=(HE.out.keep H5.out.2.2).keep hb6;have hX0:w.heap.size<X.heap.size:=by
   have:=HP1.out.lt;omega
  have hBo6:X.heap.size+1<w5.heap.size:=H5.out.1.lt;have hea:∀ k off,ea=some ⟨k,off,none⟩→k<X.heap.size:=fun k off h=>by
   obtain⟨b',off',cur,e1,e2⟩:=HE.out.blk _ h;injection e1 with e1 e3;subst e1;exact (Array.getElem?_eq_some_iff.1 e2).1
  have HEa:=Lib.hid hea;have HLI:=Lib.hid (show LI w X.heap.size (X.heap.size+1) w5.heap.size pw (.slice ea d.ents.length ec) S [] w6 from ⟨⟨X.heap.size,d.ents.length,H5.out.1.keep hb6,H5.out.2.1.keep hb6⟩,(HP1.out.keep H5.out.2.2).keep hb6,HB1.out.trans ((H5.out.2.2.mono HB1.out.size).trans (hb6.mono (Nat.le_trans HB1.out.size H5.out.2.2.size))),Nat.le_trans H5.out.2.2.size hb6.size,hA6⟩);have H6:=Lib.hid (And.intro hA6 (And.intro hE6 hb6));clear hw6 xc xf xz hb6 hA6 hE6 hea;go_wp2_with fail;refine (wpIn_wide (n:=5)).1 ?_;refine' wpIn_rangeU (T:=fun k=>k=w5.heap.size∨∃ off,ea=some ⟨k,off,none⟩) rfl (by omega) (gf:=177) (lb:=#[.pointer (some ⟨w5.heap.size,0,none⟩)]) rfl trivial (enters_of Tryz.func177 (by kernel_rfl) rfl)
   (entsall_stops (5 - 1) (by omega) w5.heap.size w6 H6.out.1 H6.out.2.1) ?hT (KT.refl _ _) (fun _=>rfl)
   (fun pre W=>LI w X.heap.size (X.heap.size+1) w5.heap.size pw (.slice ea d.ents.length ec) S pre W)
   (fun _ _ _=>False)
   (fun pre A B h ht=>h.turn ht (Nat.le_trans HB1.out.size (Nat.le_trans H5.out.2.2.size H6.out.2.2.size))) (fun c pre A B h ht=>h) HLI.out _ ?assign ?body ?done (fun D c pre W _ _ h _=>h.elim)
  case hT=>
   rintro k (rfl | ⟨off,hoff⟩)
   ·omega
   ·have:=HEa.out k off hoff;omega
  case assign=>
   intro L e W K hK;gi_wp2;exact hK
  case body=>
   intro L pre e W hL hLW hI hv;have hpl:pre.length≤999999:=by
    obtain⟨t,ht⟩:=hv;have h1:=congrArg List.length ht;simp at h1;omega
   have hbd:Below W.heap.size W W.drew:=(Below.refl _ _).drew;have HOv1:=Lib.hid (HOv.out W.drew (hI.b.drew) e.no);obtain⟨g,cap,hBoW,-⟩:=hI.o;have HPu:=Lib.hid (fun (V:World) (hb:Below W.heap.size W V)=>hI.push e (g:=g) (cap:=cap) hBoW hb hpl hX0 (by omega) hBo6 HEa.out w6.heap.size);have hPd:=hI.p.keep hbd;have hBod:=hBoW.keep hbd;have HBod:=Lib.hid hBod;obtain⟨bc,bf,bz⟩:=hBoW.facts;obtain⟨pc,pf',pz⟩:=hI.p.facts;clear hv hpl hI hBoW;gi_wp2;clear bc bf bz pc pf' pz;refine wpIn_region_held_round (S:=fun w'=>Blk w' w.heap.size #[.pointer (some ⟨pw,0,none⟩)] 98) (by kernel_rfl) (by kernel_rfl) (fun h=>by obtain ⟨_,_,h⟩:=h;exact h) hPd (fun hHeld=>?_);refine reg_takes 3 [(1,33),(2,34),(3,35)] (by kernel_rfl) (by kernel_rfl) rfl (fun _ _ _ _ _ h=>h) hHeld ?_
   iterate 3 (apply takes_cons rfl rfl;(· (intro w9 hSw;obtain ⟨pc,-,-⟩:=hSw.facts;clear hSw;go_simp;(try with_reducible rfl)));simp only [List.setIfInBounds_toArray,List.set_cons_zero,List.set_cons_succ])
   refine takes_nil ?_;obtain⟨bc,-,bz⟩:=HBod.out.facts;refine reg_make_call 0 32 4 36 (vi:=.slice (some ⟨g,0,none⟩) pre.length cap) (Wi:=W.drew) (R:=fun v w'=>v=.int .i64 (S.over e.no)∧Below W.drew.heap.size W.drew w') (by kernel_rfl) rfl rfl rfl rfl rfl rfl ?ra hHeld ?rb (HOv1.out.mono (fun e w' ⟨he,hb⟩=>⟨_,he,rfl,hb⟩)) (fun v w' ⟨_,hb⟩=>hHeld.keep hb) ?_ ?_
   case ra=>(go_simp;(try rfl))
   case rb=>(go_simp;(try rfl))
   ·simp only [List.setIfInBounds_toArray,List.set_cons_zero,List.set_cons_succ];clear bc bz;refine reg_call 4 36 (R:=fun v w'=>v=.int .i64 (S.over e.no)∧Below W.drew.heap.size W.drew w') (by kernel_rfl) rfl rfl rfl ?xa (HOv1.out.mono (fun e w' ⟨he,hb⟩=>⟨_,he,rfl,hb⟩)) (fun v w' ⟨_,hb⟩=>hHeld.keep hb) ?_
    case xa=>(go_simp;(try rfl))
    rintro _ w4 ⟨rfl,hb4⟩;simp only [List.setIfInBounds_toArray,List.set_cons_zero,List.set_cons_succ];have hH4:=hHeld.keep hb4;obtain⟨g9,cap9,W9,hBoV,hr,hBo9,hP9,hPs,hkf,hkt,hLI⟩:=HPu.out w4 (bnext hbd hb4);have HPq:=Lib.hid (And.intro hr (And.intro hP9 (And.intro hPs (And.intro hkf (And.intro hkt hLI)))));have hbA:=balloc (Below.refl w4.heap.size w4) (.cells #[.string e.name,.int .i64 (S.over e.no)] 92);obtain⟨sc,sf,sz⟩:=hBo9.facts;clear hr hBo9 hP9 hPs hkf hkt hLI;refine reg_takes 1 [(5,37)] (by kernel_rfl) (by kernel_rfl) rfl (fun _ _ _ _ _ h=>h) hH4 ?_
    iterate 1 (apply takes_cons rfl rfl;(· (intro w9 hSw;clear hSw;go_simp;(try with_reducible rfl)));simp only [List.setIfInBounds_toArray,List.set_cons_zero,List.set_cons_succ])
    refine takes_nil ?_;refine reg_alone 6 38 (v:=.slice (some ⟨w4.heap.size,0,none⟩) 1 1) (W:=w4.alloc (.cells #[.string e.name,.int .i64 (S.over e.no)] 92)) (by kernel_rfl) rfl rfl rfl ?qa (hH4.keep hbA) ?_
    case qa=>(go_simp;(try rfl))
    simp only [List.setIfInBounds_toArray,List.set_cons_zero,List.set_cons_succ];refine reg_app 7 39 (by kernel_rfl) rfl rfl rfl rfl rfl rfl HPq.out.1 HPq.out.2.1 ?_;simp only [List.setIfInBounds_toArray,List.set_cons_zero,List.set_cons_succ];refine reg_store 8 (W:=W9.setCell ⟨X.heap.size+1,0,none⟩ (.slice (some ⟨g9,0,none⟩) (pre.length+1) cap9)) (by kernel_rfl) rfl rfl rfl ?sa HPq.out.2.2.1 ?_
    case sa=>(go_simp;(try rfl))
    refine wpAnyH_done (by kernel_rfl) ?_ _;exact HPq.out.2.2.2
   ·rintro _ w4 ⟨rfl,hb4⟩;simp only [List.setIfInBounds_toArray,List.set_cons_zero,List.set_cons_succ];clear bc bz;have hH4:=hHeld.keep hb4;obtain⟨g9,cap9,W9,hBoV,hr,hBo9,hP9,hPs,hkf,hkt,hLI⟩:=HPu.out w4 (bnext hbd hb4);have HPq:=Lib.hid (And.intro hr (And.intro hP9 (And.intro hPs (And.intro hkf (And.intro hkt hLI)))));have hbA:=balloc (Below.refl w4.heap.size w4) (.cells #[.string e.name,.int .i64 (S.over e.no)] 92);obtain⟨sc,sf,sz⟩:=hBo9.facts;clear hr hBo9 hP9 hPs hkf hkt hLI;refine reg_takes 1 [(5,37)] (by kernel_rfl) (by kernel_rfl) rfl (fun _ _ _ _ _ h=>h) hH4 ?_
    iterate 1 (apply takes_cons rfl rfl;(· (intro w9 hSw;clear hSw;go_simp;(try with_reducible rfl)));simp only [List.setIfInBounds_toArray,List.set_cons_zero,List.set_cons_succ])
    refine takes_nil ?_;obtain⟨vc,-,vz⟩:=hBoV.facts;obtain⟨ac,-,az⟩:=(hBoV.keep hbA).facts;refine reg_two 0 32 6 38 (v:=.slice (some ⟨g,0,none⟩) pre.length cap) (vj:=.slice (some ⟨w4.heap.size,0,none⟩) 1 1) (Wi:=w4) (W:=w4.alloc (.cells #[.string e.name,.int .i64 (S.over e.no)] 92)) (by kernel_rfl) rfl rfl rfl rfl rfl rfl ?ta ?tb hH4 (hH4.keep hbA) ?_ ?_
    case ta=>(go_simp;(try rfl))
    case tb=>(go_simp;(try rfl))
    ·simp only [List.setIfInBounds_toArray,List.set_cons_zero,List.set_cons_succ];refine reg_alone 6 38 (v:=.slice (some ⟨w4.heap.size,0,none⟩) 1 1) (W:=w4.alloc (.cells #[.string e.name,.int .i64 (S.over e.no)] 92)) (by kernel_rfl) rfl rfl rfl ?qb (hH4.keep hbA) ?_
     case qb=>(go_simp;(try rfl))
     simp only [List.setIfInBounds_toArray,List.set_cons_zero,List.set_cons_succ];refine reg_app 7 39 (by kernel_rfl) rfl rfl rfl rfl rfl rfl HPq.out.1 HPq.out.2.1 ?_;simp only [List.setIfInBounds_toArray,List.set_cons_zero,List.set_cons_succ];refine reg_store 8 (W:=W9.setCell ⟨X.heap.size+1,0,none⟩ (.slice (some ⟨g9,0,none⟩) (pre.length+1) cap9)) (by kernel_rfl) rfl rfl rfl ?sb HPq.out.2.2.1 ?_
     case sb=>(go_simp;(try rfl))
     refine wpAnyH_done (by kernel_rfl) ?_ _;exact HPq.out.2.2.2
    ·simp only [List.setIfInBounds_toArray,List.set_cons_zero,List.set_cons_succ];refine reg_alone 0 32 (v:=.slice (some ⟨g,0,none⟩) pre.length cap) (W:=w4.alloc (.cells #[.string e.name,.int .i64 (S.over e.no)] 92)) (by kernel_rfl) rfl rfl rfl ?qd (hH4.keep hbA) ?_
     case qd=>(go_simp;(try rfl))
     simp only [List.setIfInBounds_toArray,List.set_cons_zero,List.set_cons_succ];refine reg_app 7 39 (by kernel_rfl) rfl rfl rfl rfl rfl rfl HPq.out.1 HPq.out.2.1 ?_;simp only [List.setIfInBounds_toArray,List.set_cons_zero,List.set_cons_succ];refine reg_store 8 (W:=W9.setCell ⟨X.heap.size+1,0,none⟩ (.slice (some ⟨g9,0,none⟩) (pre.length+1) cap9)) (by kernel_rfl) rfl rfl rfl ?sd HPq.out.2.2.1 ?_
     case sd=>(go_simp;(try rfl))
     refine wpAnyH_done (by kernel_rfl) ?_ _;exact HPq.out.2.2.2
  case done=>
   intro D xs W hD hxs hI hK;subst hxs;obtain⟨g,cap,hBoW,hOW⟩:=hI.o;obtain⟨bc,bf,bz⟩:=hBoW.facts;have hsD:w.heap.size≤D:=Nat.le_trans HB1.out.size (Nat.le_trans H5.out.2.2.size (Nat.le_trans H6.out.2.2.size hD));have HD:=Lib.hid (show Coll w.heap.size W [{target:=.collected D,args:=#[]}] from ⟨[D],rfl,List.pairwise_singleton _ _,fun E hE=>by rw [List.mem_singleton] at hE;subst hE;exact ⟨hsD,hK⟩⟩);have HO9:=Lib.hid (show OE W w.heap.size (.slice (some ⟨g,0,none⟩) d.ents.length cap) L from by
    rw [←HL.out];exact⟨hOW.1,hOW.2.imp id fun ⟨g,cap,cur,h1,h2,h3⟩=>⟨g,cap,cur,h1,Nat.le_trans HB1.out.size h2,h3⟩⟩)
   have HBW:=Lib.hid hI.b;clear hBoW hOW hI hK;dsimp only;go_wp2_with fail;exact plist_ret rfl rfl HD.out HO9.out HBW.out
 ·have h0b:(oe != 0)=true:=by simpa using h0
  have HF:=Lib.hid (hL0 h0);clear h0 hL1 hL0;go_wp2_with fail;rw [HF.out];exact plist_ret rfl rfl (Coll.nil _ _) ⟨rfl,.inl ⟨rfl,rfl⟩⟩ HB1.out
end
section
variable {w w':World} {pf pw:Nat} {R:Rp} {pv:Value} {Y:Sy}
theorem slist_any (h:SyAt w pf pw R pv Y) {N:Nat} (hk:FsOk Y.fs N) (hN:N≤999999) (c:Cr) (no:Int) :
  Calls Tryz.prog 31 #[.pointer (some ⟨pf,0,none⟩),.agg #[.int .i64 c.u,.int .i64 c.g],.int .i64 no] w fun e w'=>∃ v,e=.returned (.tuple #[v,.int .i64 (Y.fs.listF Y.dead c no).2])∧OE w' w.heap.size v (Y.fs.listF Y.dead c no).1∧Below w.heap.size w w':=by
 have hCX:=Blk.new w #[.int .i64 c.u,.int .i64 c.g] 54;have hbX:=balloc (Below.refl w.heap.size w) (.cells #[.int .i64 c.u,.int .i64 c.g] 54);have HR:=Lib.hid (fun w1 (hb1:Below w.heap.size w w1)=>sread_any (h.keep hb1));have HS:=Lib.hid (fun w1 (hb1:Below w.heap.size w w1)=>plist_any (h.wd.keep hb1) hk hN c no);obtain⟨pc,-,pz⟩:=h.blk.facts;have HPC:=Lib.hid (fun w1 (hb1:Below w.heap.size w w1)=>show w1.cell? ⟨pf,0,none⟩=some (.pointer (some ⟨pw,0,none⟩)) from (hb1.cell (p:=⟨pf,0,none⟩) pz).trans (pc 0));have mixed:Tryz.prog.follows .mixedOrders=true:=by kernel_rfl
 clear h hk pc pz
 cases hd:Y.dead with
 | true=>
  rw [hd] at HR;clear hd HS;go_enter Tryz.func31,Tryz.ntmps31;go_wp2_with fail;refine (HR.out _ hbX).mono ?_;rintro e w1 ⟨rfl,rfl⟩;have HB:=Lib.hid hbX;clear hbX hCX;go_wp2_with fail;go_ret2;exact⟨_,rfl,⟨rfl,.inl ⟨rfl,rfl⟩⟩,HB.out⟩
 | false=>
  rw [hd] at HR;generalize Y.fs.listF false c no=rd at HS ⊢;clear hd;go_enter Tryz.func31,Tryz.ntmps31;go_wp2_with fail;refine (HR.out _ hbX).mono ?_;rintro e w1 ⟨rfl,rfl⟩;generalize w.alloc (.cells #[.int .i64 c.u,.int .i64 c.g] 54)=W0 at hCX hbX ⊢;have HBX:=Lib.hid hbX;have pc0:=HPC.out _ hbX;obtain⟨cc,-,cz⟩:=hCX.facts;clear hCX hbX;go_wp2_with fail;refine wp_region_lex 6 mixed (by kernel_rfl) (show PanicOk _ from by repeat (first | exact pk_body | refine pk_then ?_ | refine pk_block ?_ | refine pk_scope ?_)) ?_;simp only [List.take_succ_cons,List.take_zero,List.drop_succ_cons,List.drop_zero]
  repeat still_step
  refine wpStill_nil ?_;go_wp2_with fail;refine (HS.out _ HBX.out.drew).mono ?_;rintro e w1 ⟨v,rfl,hO,hb1⟩;have HO:=Lib.hid (And.intro hO (HBX.out.drew.trans (hb1.mono HBX.out.size)));have hsz:=HBX.out.size;clear hb1 hO;go_wp2_with fail;go_ret2;exact⟨_,rfl,⟨HO.out.1.1,HO.out.1.2.imp id fun ⟨g,cap,cur,h1,h2,h3⟩=>⟨g,cap,cur,h1,Nat.le_trans hsz h2,h3⟩⟩,HO.out.2⟩
end
end
end Go.Proofs.YtbndfmkgamdgeaaGreatDoor
