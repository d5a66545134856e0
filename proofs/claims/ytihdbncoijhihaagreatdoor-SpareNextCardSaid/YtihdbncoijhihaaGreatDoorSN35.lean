import Derived.Test.YtihdbncoijhihaaGreatDoorSN31
import Derived.Test.YtihdbncoijhihaaGreatDoorSN34
import Derived.Test.YtihdbncoijhihaaGreatDoorSN21
import Derived.Test.YtihdbncoijhihaaGreatDoorSN6
import Derived.Test.YtihdbncoijhihaaGreatDoorSN15
import Derived.Test.YtihdbncoijhihaaGreatDoorSN22
import Derived.Test.YtihdbncoijhihaaGreatDoorSN29
set_option linter.unusedVariables false
set_option linter.unusedSimpArgs false
set_option maxRecDepth 100000
set_option maxHeartbeats 16000000
namespace Go.Proofs.YtihdbncoijhihaaGreatDoor
section
open Go.RowKit Go.Shelf
attribute [local go_sem] Oper.semAt_some
theorem plist_ret {w W:World} {tmps:Array Value} {v:Value} {o:Int} {l:List En} {ds:List Deferred} (h6:tmps.getD 6 undef=v) (h7:tmps.getD 7 undef=.int .i64 o) (hco:Coll w.heap.size W ds) (ho:OE W w.heap.size v l) (hb:Below w.heap.size w W) :
  bodyPostM Fence.wide 5 Tryz.prog Tryz.f171 (fun e w'=>∃ v,e=.returned (.tuple #[v,.int .i64 o])∧OE w' w.heap.size v l∧Below w.heap.size w w') .ret {tmps,defers:=ds} W:=by
 obtain⟨Ds,rfl,h2,h3⟩:=hco;rw [Array.getD_eq_getD_getElem?] at h6 h7;show LeavesInM Fence.wide 5 Tryz.prog Tryz.f171 _ _ _ _ W;refine coll_leave (v:=.tuple #[v,.int .i64 o]) (fun W=>?_) Ds W h2 (fun D hD=>(h3 D hD).2) (fun W' hm=>⟨v,rfl,own_mod ho hm (fun k hk he=>?_),hb.trans (hm.below (fun k hk=>(h3 k hk).1) hb.size)⟩)
 ·simp [results,Tryz.results171,go_sem,h6,h7]
 ·obtain ⟨-,cur,hc⟩:=own_obj1 ho he;have:=(h3 k hk).2;rw [hc] at this
  cases this
theorem OE.mkcap (w:World) (n:Nat) (hn:n≤999999):∃ M,(Instr.makeSlice 107 (.int .i64 0) (.int .i64 n)).run Tryz.prog w=.ok (.slice (some ⟨w.heap.size,0,none⟩) 0 n) (w.alloc (.cells M 113))∧OE (w.alloc (.cells M 113)) w.heap.size (.slice (some ⟨w.heap.size,0,none⟩) 0 n) []:=by
 obtain⟨i0,hi,hz0,hz1,hz2⟩:=info_parts ent_info;have hb:i0.bytes*n≤24*999999:=by rw [hz2];exact Nat.mul_le_mul (Nat.le_refl _) hn
 have hr:=run_make (P:=Tryz.prog) w 107 113 i0 _ Tryz.underlying107 hi hz0 .i64 .i64 0 n (Int.le_refl _) (by omega) (by
  have h:((i0.bytes*n:Nat):Int)≤281474976710656:=by omega
  rwa [Int.natCast_mul] at h) (by omega)
 simp only [Int.toNat_zero,Int.toNat_natCast] at hr;refine ⟨_,hr,?_⟩;rw [hz1];exact World.ownsRow_made w _ n (Nat.le_refl _) (by unfold maxLen;omega) (size_madeCells _ _)
structure LI (w:World) (B0 Bo Bc pw:Nat) (vc:Value) (S:Fs) (pre:List En) (W:World):Prop where
 o:∃ g cap,Blk W Bo #[.slice (some ⟨g,0,none⟩) pre.length cap] 107∧OE W B0 (.slice (some ⟨g,0,none⟩) pre.length cap) (pre.map S.seen)
 p:Blk W w.heap.size #[.pointer (some ⟨pw,0,none⟩)] 175
 b:Below w.heap.size w W
 n:B0≤W.heap.size
 c:Blk W Bc #[vc] 107
theorem LI.turn {w A C:World} {B0 Bo Bc pw N:Nat} {vc:Value} {S:Fs} {pre:List En} (h:LI w B0 Bo Bc pw vc S pre A) (ht:Turn NoT N notCells A C) (hN:w.heap.size≤N):LI w B0 Bo Bc pw vc S pre C:=by
 obtain⟨g,cap,h1,h2⟩:=h.o;refine ⟨⟨g,cap,blk_turnN h1 ht,?_⟩,blk_turnN h.p ht,below_turnN h.b ht hN (Nat.le_refl _),Nat.le_trans h.n ht.size,blk_turnN h.c ht⟩;exact own_turn h2 (fun k hk=>by
  obtain⟨-,cur,hc⟩:=own_obj1 h2 hk;rw [hc];exact ht.block k _ hc (fun h=>h) (fun _=>rfl))
theorem LI.push {w W V:World} {B0 Bo Bc pw:Nat} {vc:Value} {S:Fs} {pre:List En} (h:LI w B0 Bo Bc pw vc S pre W) (e:En) {g cap:Nat} (hg:Blk W Bo #[.slice (some ⟨g,0,none⟩) pre.length cap] 107) (hb:Below W.heap.size W V) (hl:pre.length≤999999) (hw0:w.heap.size<B0) (hBo:B0<Bo) (hBc:Bo<Bc) {ea:Option Addr} (hea:∀ k off,ea=some ⟨k,off,none⟩→k<B0) (N:Nat) :
  ∃ g9 cap9 W9,Blk V Bo #[.slice (some ⟨g,0,none⟩) pre.length cap] 107∧(Builtin.append_ #[107,107] 107 #[.slice (some ⟨g,0,none⟩) pre.length cap,.slice (some ⟨V.heap.size,0,none⟩) 1 1]).run Tryz.prog (V.alloc (.cells #[.string e.name,.int .i64 (S.over e.no)] 113))=.ok (.slice (some ⟨g9,0,none⟩) (pre.length+1) cap9) W9∧
   Blk W9 Bo #[.slice (some ⟨g,0,none⟩) pre.length cap] 107∧Blk W9 w.heap.size #[.pointer (some ⟨pw,0,none⟩)] 175∧Blk (W9.setCell ⟨Bo,0,none⟩ (.slice (some ⟨g9,0,none⟩) (pre.length+1) cap9)) w.heap.size #[.pointer (some ⟨pw,0,none⟩)] 175∧
   KeepsFrom N W (W9.setCell ⟨Bo,0,none⟩ (.slice (some ⟨g9,0,none⟩) (pre.length+1) cap9))∧KT (fun k=>k=Bc∨∃ off,ea=some ⟨k,off,none⟩) W (W9.setCell ⟨Bo,0,none⟩ (.slice (some ⟨g9,0,none⟩) (pre.length+1) cap9))∧
   LI w B0 Bo Bc pw vc S (pre ++ [e]) (W9.setCell ⟨Bo,0,none⟩ (.slice (some ⟨g9,0,none⟩) (pre.length+1) cap9)):=by
 obtain⟨g',cap',h1,h2⟩:=h.o;obtain⟨rfl,rfl⟩:g'=g∧cap'=cap:=by
  unfold Blk at h1 hg;rw [h1] at hg;injection hg with hg;injection hg with e1;simpa using e1
 clear hg;have hlm:(pre.map S.seen).length=pre.length:=List.length_map _;have h2V:=OE.keep (es:=pre.map S.seen) h2 hb;obtain⟨g9,cap9,W9,hr,ho9,hm9,hb9⟩:=OE.app2 h2V (S.seen e) (by rw [hlm];omega) (Nat.le_trans h.n hb.size);rw [hlm] at hr ho9;have hBoV:=h1.keep hb;have hPV:=h.p.keep hb;have hCV:=h.c.keep hb;have hBo9:=own_blk h2V (by decide) hBoV hm9;have hP9:=own_blk h2V (by decide) hPV hm9;have hC9:=own_blk h2V (by decide) hCV hm9;have hs1:W.heap.size≤V.heap.size:=hb.size;have hsW:Mod (fun k=>k=Bo) W9 (W9.setCell ⟨Bo,0,none⟩ (.slice (some ⟨g9,0,none⟩) (pre.length+1) cap9)):=(Mod.refl (fun k=>k=Bo) W9).setCell (a:=⟨Bo,0,none⟩) (.inl rfl) _;have hM:Mod (fun k=>(Value.slice (some ⟨g',0,none⟩) pre.length cap').ownBlock=some k∨k=Bo) W (W9.setCell ⟨Bo,0,none⟩ (.slice (some ⟨g9,0,none⟩) (pre.length+1) cap9)):=
  ((Mod.of_below hb).trans (hm9.mono (fun k hk=>.inl hk))).trans (hsW.mono (fun k hk=>.inr hk))
 have hkind:∀ k,((Value.slice (some ⟨g',0,none⟩) pre.length cap').ownBlock=some k∨k=Bo)→∃ cur T fz,W.heap[k]? = some (.cells cur T fz):=fun k hk=>by
  rcases hk with hk | rfl
  ·obtain ⟨-,cur,hc⟩:=own_obj1 h2 hk;exact⟨_,_,_,hc⟩
  ·exact ⟨_,_,_,h1⟩
 have hlow:∀ k,((Value.slice (some ⟨g',0,none⟩) pre.length cap').ownBlock=some k∨k=Bo)→B0≤k:=fun k hk=>by
  rcases hk with hk | rfl
  ·exact (own_obj1 h2 hk).1
  ·omega
 refine ⟨g9,cap9,W9,hBoV,hr,hBo9,hP9,hP9.mod hsW (by omega),(keeps_mod1 hM hkind).from N,KT.of_mod hM (fun k hk=>?_) (fun k hk hS=>?_),⟨⟨g9,cap9,?_,?_⟩,hP9.mod hsW (by omega),h.b.trans (hM.below (fun k hk=>by have:=hlow k hk;omega) h.b.size),Nat.le_trans h.n hM.size,hC9.mod hsW (by omega)⟩⟩
 ·rcases hk with rfl | ⟨off,hk⟩
  ·exact h.c.lt
  ·have:=hea k off hk;have:=h.n;omega
 ·rcases hk with rfl | ⟨off,hk⟩
  ·rcases hS with hS | hS
   ·obtain ⟨-,cur,hc⟩:=own_obj1 h2 hS;have h5:=h.c;unfold Blk at h5;rw [hc] at h5;injection h5 with h5;injection h5 with e1 e2 e3;revert e2;decide
   ·omega
  ·have:=hea k off hk;have:=hlow k hS;omega
 ·rw [List.length_append,List.length_singleton];exact hBo9.set 0 _
 ·rw [List.length_append,List.length_singleton,List.map_append];exact own_box ho9 (by decide) hBo9 hsW
section
variable {w w':World} {pw:Nat} {R:Rp} {S:Fs}
theorem plist_any (h:WdAt w pw R S) {N:Nat} (hk:FsOk S N) (hN:N≤999999) (c:Cr) (no:Int) :
  Calls Tryz.prog 171 #[.pointer (some ⟨pw,0,none⟩),.agg #[.int .i64 c.u,.int .i64 c.g],.int .i64 no] w fun e w'=>∃ v,e=.returned (.tuple #[v,.int .i64 (S.listF false c no).2])∧OE w' w.heap.size v (S.listF false c no).1∧Below w.heap.size w w':=by
 obtain⟨hP,hC,hb2⟩:=boxes2 w #[.pointer (some ⟨pw,0,none⟩)] #[.int .i64 c.u,.int .i64 c.g] 175 27;have HO:=Lib.hid (show Calls Tryz.prog 224 #[.pointer (some ⟨pw,0,none⟩),.agg #[.int .i64 c.u,.int .i64 c.g],.int .i64 no,.int .i64 1,.int .i64 4] ((w.alloc (.cells #[.pointer (some ⟨pw,0,none⟩)] 175)).alloc (.cells #[.int .i64 c.u,.int .i64 c.g] 27)) fun e w'=>∃ (d:An) (ea:Option Addr) (el ec:Nat) (oe:Int) (L:List En),e=.returned (.tuple #[d.v ea el ec,.int .i64 oe])∧EntsAt w' ea el ec d.ents∧S.listF false c no=(L,oe)∧(oe=0→d.ents.map S.seen=L)∧(oe≠0→L=[])∧d.ents.length≤999999∧Below ((w.alloc (.cells #[.pointer (some ⟨pw,0,none⟩)] 175)).alloc (.cells #[.int .i64 c.u,.int .i64 c.g] 27)).heap.size ((w.alloc (.cells #[.pointer (some ⟨pw,0,none⟩)] 175)).alloc (.cells #[.int .i64 c.u,.int .i64 c.g] 27)) w' from
  (open_any (h.keep hb2) hk c no 1 4).mono (by
   rintro e w1 ⟨⟨h0,rfl⟩|⟨h0,d,ea,el,ec,hg,rfl,he⟩,hb1⟩
   ·refine ⟨an0,none,0,0,S.openE c no 1 4,[],rfl,EntsAt.nil _,?_,fun h=>absurd h h0,fun _=>rfl,by decide,hb1⟩;rw [listF_seen,if_pos h0]
   ·refine ⟨d,ea,el,ec,0,d.ents.map S.seen,rfl,he.keep hb1,?_,fun _=>rfl,fun h=>absurd rfl h,Nat.le_trans (hk.get hg).1.few hN,hb1⟩;rw [listF_seen,if_neg (by simpa using h0)];unfold Fs.entsOf;rw [hg]))
 have HOv:=Lib.hid (fun w1 (hb1:Below w.heap.size w w1) k=>wover_any (h.keep hb1) hk.d1 k);have HP:=Lib.hid (And.intro hP hC);have HB:=Lib.hid hb2;generalize S.listF false c no=rd at HO ⊢;obtain⟨pc,pf',pz⟩:=hP.facts;obtain⟨cc,cf,cz⟩:=hC.facts;clear h hk hP hC hb2;refine (callsIn_wide (n:=5)).1 ?_;refine callsIn_of_wp_marks Tryz.func171 rfl trivial ?_ rfl;simp only [Tryz.ntmps171,List.size_toArray,List.length_cons,List.length_nil,Nat.reduceAdd,Nat.reduceSub,Array.replicate_succ,Array.replicate_zero,List.push_toArray,List.append_toArray,List.nil_append,List.cons_append];refine wpIn_wide.2 ?_;go_upto_region 1 with fail;generalize (w.alloc (.cells #[.pointer (some ⟨pw,0,none⟩)] 175)).alloc (.cells #[.int .i64 c.u,.int .i64 c.g] 27)=w0 at HO HP HB pc pf' pz cc cf cz ⊢;go_wp2_with fail;refine HO.out.mono ?_;rintro e w1 ⟨d,ea,el,ec,oe,L,rfl,he,rfl,hL1,hL0,hln,hb1⟩;have hX:=Blk.new w1 #[.int .i64 d.no,.int .i64 d.dev,.int .i64 d.kind,.int .i64 d.mode,.int .i64 d.uid,.int .i64 d.gid,.int .i64 d.mtime,.int .i64 d.ctime,.int .i64 d.links,.int .i64 d.up,.string d.data,.slice ea el ec] 109;have hbX:=balloc (Below.refl w1.heap.size w1) (.cells #[.int .i64 d.no,.int .i64 d.dev,.int .i64 d.kind,.int .i64 d.mode,.int .i64 d.uid,.int .i64 d.gid,.int .i64 d.mtime,.int .i64 d.ctime,.int .i64 d.links,.int .i64 d.up,.string d.data,.slice ea el ec] 109);have hE:=he.keep hbX;have hB:=bnext (bnext HB.out hb1) hbX;have hP1:=(HP.out.1.keep hb1).keep hbX;have hel:=he.len;subst hel;have h63:=he.sl.2.1;have h64:=he.sl.2.2.1;unfold An.v;clear hb1 he pc pf' pz cc cf cz;go_upto_region 2 with fail;generalize w1.alloc (.cells #[.int .i64 d.no,.int .i64 d.dev,.int .i64 d.kind,.int .i64 d.mode,.int .i64 d.uid,.int .i64 d.gid,.int .i64 d.mtime,.int .i64 d.ctime,.int .i64 d.links,.int .i64 d.up,.string d.data,.slice ea d.ents.length ec] 109)=X at hX hbX hE hB hP1 ⊢;generalize w1.heap.size=Bd at hX;have HX:=Lib.hid hX;have HE:=Lib.hid hE;have HB1:=Lib.hid hB;have HP1:=Lib.hid hP1;obtain⟨xc,xf,xz⟩:=hX.facts;clear hX hbX hE hB hP1;by_cases h0:oe=0
 ·have HL:=Lib.hid (hL1 h0);subst h0;clear hL1 hL0;have hmk:¬ (d.ents.length:Int)<0:=by omega
  obtain⟨M,hmr,hmO⟩:=OE.mkcap X d.ents.length hln;go_upto_region 5 with fail;have hBo5:=Blk.new (X.alloc (.cells M 113)) #[.slice (some ⟨X.heap.size,0,none⟩) 0 d.ents.length] 107;have hbM:=balloc (Below.refl X.heap.size X) (.cells M 113);have hb5:=balloc hbM (.cells #[.slice (some ⟨X.heap.size,0,none⟩) 0 d.ents.length] 107);have hO5:=hmO.keep (balloc (Below.refl _ _) (.cells #[.slice (some ⟨X.heap.size,0,none⟩) 0 d.ents.length] 107));rw [World.size_alloc] at hBo5;have hX5:=HX.out.keep hb5;generalize (X.alloc (.cells M 113)).alloc (.cells #[.slice (some ⟨X.heap.size,0,none⟩) 0 d.ents.length] 107)=w5 at hBo5 hb5 hO5 hX5 ⊢;have H5:=Lib.hid (And.intro hBo5 (And.intro hO5 hb5));clear xc xf xz hmr hmO hbM hBo5 hO5;obtain⟨xc,xf,xz⟩:=hX5.facts;clear hX5 hb5;go_wp2_with fail;refine (entsall_any ea d.ents.length ec w5).mono ?_;rintro e w6 ⟨rfl,hw6⟩;have hsz6:w5.heap.size<w6.heap.size:=by rw [hw6,World.size_alloc];omega
  have hb6:Below w5.heap.size w5 w6:=by rw [hw6];exact balloc (Below.refl _ _) _
  have hA6:Blk w6 w5.heap.size #[.slice ea d.ents.length ec] 107:=by rw [hw6];exact Blk.new w5 _ _
  have hE6:EntsAt w6 ea d.ents.length ec d.ents:=(HE.out.keep H5.out.2.2).keep hb6;have hX0:w.heap.size<X.heap.size:=by
   have:=HP1.out.lt;omega
  have hBo6:X.heap.size+1<w5.heap.size:=H5.out.1.lt;have hea:∀ k off,ea=some ⟨k,off,none⟩→k<X.heap.size:=fun k off h=>by
   obtain⟨b',off',cur,e1,e2⟩:=HE.out.blk _ h;injection e1 with e1 e3;subst e1;exact (Array.getElem?_eq_some_iff.1 e2).1
  have HEa:=Lib.hid hea;have HLI:=Lib.hid (show LI w X.heap.size (X.heap.size+1) w5.heap.size pw (.slice ea d.ents.length ec) S [] w6 from ⟨⟨X.heap.size,d.ents.length,H5.out.1.keep hb6,H5.out.2.1.keep hb6⟩,(HP1.out.keep H5.out.2.2).keep hb6,HB1.out.trans ((H5.out.2.2.mono HB1.out.size).trans (hb6.mono (Nat.le_trans HB1.out.size H5.out.2.2.size))),Nat.le_trans H5.out.2.2.size hb6.size,hA6⟩);have H6:=Lib.hid (And.intro hA6 (And.intro hE6 hb6));clear hw6 xc xf xz hb6 hA6 hE6 hea;go_wp2_with fail;refine (wpIn_wide (n:=5)).1 ?_;refine' wpIn_rangeU (T:=fun k=>k=w5.heap.size∨∃ off,ea=some ⟨k,off,none⟩) rfl (by omega) (gf:=271) (lb:=#[.pointer (some ⟨w5.heap.size,0,none⟩)]) rfl trivial (enters_of Tryz.func271 (by kernel_rfl) rfl)
   (entsall_stops (5 - 1) (by omega) w5.heap.size w6 H6.out.1 H6.out.2.1) ?hT (KT.refl _ _) (fun _=>rfl)
   (fun pre W=>LI w X.heap.size (X.heap.size+1) w5.heap.size pw (.slice ea d.ents.length ec) S pre W)
   (fun _ _ _=>False)
   (fun pre A B h ht=>h.turn ht (Nat.le_trans HB1.out.size (Nat.le_trans H5.out.2.2.size H6.out.2.2.size))) (fun c pre A B h ht=>h) HLI.out _ ?assign ?body ?done (fun D c pre W _ _ h _=>h.elim)
  case hT=>
   rintro k (rfl | ⟨off,hoff⟩)
   ·omega
   ·have:=HEa.out k off hoff;omega
  case assign=>
   intro L e W K hK;gi_wp2;exact hK
  case body=>
   intro L pre e W hL hLW hI hv;have hpl:pre.length≤999999:=by
    obtain⟨t,ht⟩:=hv;have h1:=congrArg List.length ht;simp at h1;omega
   have hbd:Below W.heap.size W W.drew:=(Below.refl _ _).drew;have HOv1:=Lib.hid (HOv.out W.drew (hI.b.drew) e.no);obtain⟨g,cap,hBoW,-⟩:=hI.o;have HPu:=Lib.hid (fun (V:World) (hb:Below W.heap.size W V)=>hI.push e (g:=g) (cap:=cap) hBoW hb hpl hX0 (by omega) hBo6 HEa.out w6.heap.size);have hPd:=hI.p.keep hbd;have hBod:=hBoW.keep hbd;have HBod:=Lib.hid hBod;obtain⟨bc,bf,bz⟩:=hBoW.facts;obtain⟨pc,pf',pz⟩:=hI.p.facts;clear hv hpl hI hBoW;gi_wp2;clear bc bf bz pc pf' pz;refine wpIn_region_held_round (S:=fun w'=>Blk w' w.heap.size #[.pointer (some ⟨pw,0,none⟩)] 175) (by kernel_rfl) (by kernel_rfl) (fun h=>by obtain ⟨_,_,h⟩:=h;exact h) hPd (fun hHeld=>?_);refine reg_takes 3 [(1,33),(2,34),(3,35)] (by kernel_rfl) (by kernel_rfl) rfl (fun _ _ _ _ _ h=>h) hHeld ?_
   iterate 3 (apply takes_cons rfl rfl;(· (intro w9 hSw;obtain ⟨pc,-,-⟩:=hSw.facts;clear hSw;go_simp;(try with_reducible rfl)));simp only [List.setIfInBounds_toArray,List.set_cons_zero,List.set_cons_succ])
   refine takes_nil ?_;obtain⟨bc,-,bz⟩:=HBod.out.facts;refine reg_make_call 0 32 4 36 (vi:=.slice (some ⟨g,0,none⟩) pre.length cap) (Wi:=W.drew) (R:=fun v w'=>v=.int .i64 (S.over e.no)∧Below W.drew.heap.size W.drew w') (by kernel_rfl) rfl rfl rfl rfl rfl rfl ?ra hHeld ?rb (HOv1.out.mono (fun e w' ⟨he,hb⟩=>⟨_,he,rfl,hb⟩)) (fun v w' ⟨_,hb⟩=>hHeld.keep hb) ?_ ?_
   case ra=>(go_simp;(try rfl))
   case rb=>(go_simp;(try rfl))
   ·simp only [List.setIfInBounds_toArray,List.set_cons_zero,List.set_cons_succ];clear bc bz;refine reg_call 4 36 (R:=fun v w'=>v=.int .i64 (S.over e.no)∧Below W.drew.heap.size W.drew w') (by kernel_rfl) rfl rfl rfl ?xa (HOv1.out.mono (fun e w' ⟨he,hb⟩=>⟨_,he,rfl,hb⟩)) (fun v w' ⟨_,hb⟩=>hHeld.keep hb) ?_
    case xa=>(go_simp;(try rfl))
    rintro _ w4 ⟨rfl,hb4⟩;simp only [List.setIfInBounds_toArray,List.set_cons_zero,List.set_cons_succ];have hH4:=hHeld.keep hb4;obtain⟨g9,cap9,W9,hBoV,hr,hBo9,hP9,hPs,hkf,hkt,hLI⟩:=HPu.out w4 (bnext hbd hb4);have HPq:=Lib.hid (And.intro hr (And.intro hP9 (And.intro hPs (And.intro hkf (And.intro hkt hLI)))));have hbA:=balloc (Below.refl w4.heap.size w4) (.cells #[.string e.name,.int .i64 (S.over e.no)] 113);obtain⟨sc,sf,sz⟩:=hBo9.facts;clear hr hBo9 hP9 hPs hkf hkt hLI;refine reg_takes 1 [(5,37)] (by kernel_rfl) (by kernel_rfl) rfl (fun _ _ _ _ _ h=>h) hH4 ?_
    iterate 1 (apply takes_cons rfl rfl;(· (intro w9 hSw;clear hSw;go_simp;(try with_reducible rfl)));simp only [List.setIfInBounds_toArray,List.set_cons_zero,List.set_cons_succ])
    refine takes_nil ?_;refine reg_alone 6 38 (v:=.slice (some ⟨w4.heap.size,0,none⟩) 1 1) (W:=w4.alloc (.cells #[.string e.name,.int .i64 (S.over e.no)] 113)) (by kernel_rfl) rfl rfl rfl ?qa (hH4.keep hbA) ?_
    case qa=>(go_simp;(try rfl))
    simp only [List.setIfInBounds_toArray,List.set_cons_zero,List.set_cons_succ];refine reg_app 7 39 (by kernel_rfl) rfl rfl rfl rfl rfl rfl HPq.out.1 HPq.out.2.1 ?_;simp only [List.setIfInBounds_toArray,List.set_cons_zero,List.set_cons_succ];refine reg_store 8 (W:=W9.setCell ⟨X.heap.size+1,0,none⟩ (.slice (some ⟨g9,0,none⟩) (pre.length+1) cap9)) (by kernel_rfl) rfl rfl rfl ?sa HPq.out.2.2.1 ?_
    case sa=>(go_simp;(try rfl))
    refine wpAnyH_done (by kernel_rfl) ?_ _;exact HPq.out.2.2.2
   ·rintro _ w4 ⟨rfl,hb4⟩;simp only [List.setIfInBounds_toArray,List.set_cons_zero,List.set_cons_succ];clear bc bz;have hH4:=hHeld.keep hb4;obtain⟨g9,cap9,W9,hBoV,hr,hBo9,hP9,hPs,hkf,hkt,hLI⟩:=HPu.out w4 (bnext hbd hb4);have HPq:=Lib.hid (And.intro hr (And.intro hP9 (And.intro hPs (And.intro hkf (And.intro hkt hLI)))));have hbA:=balloc (Below.refl w4.heap.size w4) (.cells #[.string e.name,.int .i64 (S.over e.no)] 113);obtain⟨sc,sf,sz⟩:=hBo9.facts;clear hr hBo9 hP9 hPs hkf hkt hLI;refine reg_takes 1 [(5,37)] (by kernel_rfl) (by kernel_rfl) rfl (fun _ _ _ _ _ h=>h) hH4 ?_
    iterate 1 (apply takes_cons rfl rfl;(· (intro w9 hSw;clear hSw;go_simp;(try with_reducible rfl)));simp only [List.setIfInBounds_toArray,List.set_cons_zero,List.set_cons_succ])
    refine takes_nil ?_;obtain⟨vc,-,vz⟩:=hBoV.facts;obtain⟨ac,-,az⟩:=(hBoV.keep hbA).facts;refine reg_two 0 32 6 38 (v:=.slice (some ⟨g,0,none⟩) pre.length cap) (vj:=.slice (some ⟨w4.heap.size,0,none⟩) 1 1) (Wi:=w4) (W:=w4.alloc (.cells #[.string e.name,.int .i64 (S.over e.no)] 113)) (by kernel_rfl) rfl rfl rfl rfl rfl rfl ?ta ?tb hH4 (hH4.keep hbA) ?_ ?_
    case ta=>(go_simp;(try rfl))
    case tb=>(go_simp;(try rfl))
    ·simp only [List.setIfInBounds_toArray,List.set_cons_zero,List.set_cons_succ];refine reg_alone 6 38 (v:=.slice (some ⟨w4.heap.size,0,none⟩) 1 1) (W:=w4.alloc (.cells #[.string e.name,.int .i64 (S.over e.no)] 113)) (by kernel_rfl) rfl rfl rfl ?qb (hH4.keep hbA) ?_
     case qb=>(go_simp;(try rfl))
     simp only [List.setIfInBounds_toArray,List.set_cons_zero,List.set_cons_succ];refine reg_app 7 39 (by kernel_rfl) rfl rfl rfl rfl rfl rfl HPq.out.1 HPq.out.2.1 ?_;simp only [List.setIfInBounds_toArray,List.set_cons_zero,List.set_cons_succ];refine reg_store 8 (W:=W9.setCell ⟨X.heap.size+1,0,none⟩ (.slice (some ⟨g9,0,none⟩) (pre.length+1) cap9)) (by kernel_rfl) rfl rfl rfl ?sb HPq.out.2.2.1 ?_
     case sb=>(go_simp;(try rfl))
     refine wpAnyH_done (by kernel_rfl) ?_ _;exact HPq.out.2.2.2
    ·simp only [List.setIfInBounds_toArray,List.set_cons_zero,List.set_cons_succ];refine reg_alone 0 32 (v:=.slice (some ⟨g,0,none⟩) pre.length cap) (W:=w4.alloc (.cells #[.string e.name,.int .i64 (S.over e.no)] 113)) (by kernel_rfl) rfl rfl rfl ?qd (hH4.keep hbA) ?_
     case qd=>(go_simp;(try rfl))
     simp only [List.setIfInBounds_toArray,List.set_cons_zero,List.set_cons_succ];refine reg_app 7 39 (by kernel_rfl) rfl rfl rfl rfl rfl rfl HPq.out.1 HPq.out.2.1 ?_;simp only [List.setIfInBounds_toArray,List.set_cons_zero,List.set_cons_succ];refine reg_store 8 (W:=W9.setCell ⟨X.heap.size+1,0,none⟩ (.slice (some ⟨g9,0,none⟩) (pre.length+1) cap9)) (by kernel_rfl) rfl rfl rfl ?sd HPq.out.2.2.1 ?_
     case sd=>(go_simp;(try rfl))
     refine wpAnyH_done (by kernel_rfl) ?_ _;exact HPq.out.2.2.2
  case done=>
   intro D xs W hD hxs hI hK;subst hxs;obtain⟨g,cap,hBoW,hOW⟩:=hI.o;obtain⟨bc,bf,bz⟩:=hBoW.facts;have hsD:w.heap.size≤D:=Nat.le_trans HB1.out.size (Nat.le_trans H5.out.2.2.size (Nat.le_trans H6.out.2.2.size hD));have HD:=Lib.hid (show Coll w.heap.size W [{target:=.collected D,args:=#[]}] from ⟨[D],rfl,List.pairwise_singleton _ _,fun E hE=>by rw [List.mem_singleton] at hE;subst hE;exact ⟨hsD,hK⟩⟩);have HO9:=Lib.hid (show OE W w.heap.size (.slice (some ⟨g,0,none⟩) d.ents.length cap) L from by
    rw [←HL.out];exact⟨hOW.1,hOW.2.imp id fun ⟨g,cap,cur,h1,h2,h3⟩=>⟨g,cap,cur,h1,Nat.le_trans HB1.out.size h2,h3⟩⟩)
   have HBW:=Lib.hid hI.b;clear hBoW hOW hI hK;dsimp only;go_wp2_with fail;exact plist_ret rfl rfl HD.out HO9.out HBW.out
 ·have h0b:(oe != 0)=true:=by simpa using h0
  have HF:=Lib.hid (hL0 h0);clear h0 hL1 hL0;go_wp2_with fail;rw [HF.out];exact plist_ret rfl rfl (Coll.nil _ _) ⟨rfl,.inl ⟨rfl,rfl⟩⟩ HB1.out
end
section
variable {w w':World} {pf pw:Nat} {R:Rp} {pv:Value} {Y:Sy}
theorem slist_any (h:SyAt w pf pw R pv Y) {N:Nat} (hk:FsOk Y.fs N) (hN:N≤999999) (c:Cr) (no:Int) :
  Calls Tryz.prog 111 #[.pointer (some ⟨pf,0,none⟩),.agg #[.int .i64 c.u,.int .i64 c.g],.int .i64 no] w fun e w'=>∃ v,e=.returned (.tuple #[v,.int .i64 (Y.fs.listF Y.dead c no).2])∧OE w' w.heap.size v (Y.fs.listF Y.dead c no).1∧Below w.heap.size w w':=by
 have hCX:=Blk.new w #[.int .i64 c.u,.int .i64 c.g] 27;have hbX:=balloc (Below.refl w.heap.size w) (.cells #[.int .i64 c.u,.int .i64 c.g] 27);have HR:=Lib.hid (fun w1 (hb1:Below w.heap.size w w1)=>sread_any (h.keep hb1));have HS:=Lib.hid (fun w1 (hb1:Below w.heap.size w w1)=>plist_any (h.wd.keep hb1) hk hN c no);obtain⟨pc,-,pz⟩:=h.blk.facts;have HPC:=Lib.hid (fun w1 (hb1:Below w.heap.size w w1)=>show w1.cell? ⟨pf,0,none⟩=some (.pointer (some ⟨pw,0,none⟩)) from (hb1.cell (p:=⟨pf,0,none⟩) pz).trans (pc 0));have mixed:Tryz.prog.follows .mixedOrders=true:=by kernel_rfl
 clear h hk pc pz
 cases hd:Y.dead with
 | true=>
  rw [hd] at HR;clear hd HS;go_enter Tryz.func111,Tryz.ntmps111;go_wp2_with fail;refine (HR.out _ hbX).mono ?_;rintro e w1 ⟨rfl,rfl⟩;have HB:=Lib.hid hbX;clear hbX hCX;go_wp2_with fail;go_ret2;exact⟨_,rfl,⟨rfl,.inl ⟨rfl,rfl⟩⟩,HB.out⟩
 | false=>
  rw [hd] at HR;generalize Y.fs.listF false c no=rd at HS ⊢;clear hd;go_enter Tryz.func111,Tryz.ntmps111;go_wp2_with fail;refine (HR.out _ hbX).mono ?_;rintro e w1 ⟨rfl,rfl⟩;generalize w.alloc (.cells #[.int .i64 c.u,.int .i64 c.g] 27)=W0 at hCX hbX ⊢;have HBX:=Lib.hid hbX;have pc0:=HPC.out _ hbX;obtain⟨cc,-,cz⟩:=hCX.facts;clear hCX hbX;go_wp2_with fail;refine wp_region_lex 6 mixed (by kernel_rfl) (show PanicOk _ from by repeat (first | exact pk_body | refine pk_then ?_ | refine pk_block ?_ | refine pk_scope ?_)) ?_;simp only [List.take_succ_cons,List.take_zero,List.drop_succ_cons,List.drop_zero]
  repeat still_step
  refine wpStill_nil ?_;go_wp2_with fail;refine (HS.out _ HBX.out.drew).mono ?_;rintro e w1 ⟨v,rfl,hO,hb1⟩;have HO:=Lib.hid (And.intro hO (HBX.out.drew.trans (hb1.mono HBX.out.size)));have hsz:=HBX.out.size;clear hb1 hO;go_wp2_with fail;go_ret2;exact⟨_,rfl,⟨HO.out.1.1,HO.out.1.2.imp id fun ⟨g,cap,cur,h1,h2,h3⟩=>⟨g,cap,cur,h1,Nat.le_trans hsz h2,h3⟩⟩,HO.out.2⟩
end
end
section
open Go.RowKit
structure Nt where
 kind:UInt8
 no:Int
 src:ByteArray
 dst:ByteArray
 tmp:ByteArray
def Nt.cs (x:Nt):List Value:=[.int .u8 x.kind.toNat,.int .i64 x.no,.string x.src,.string x.dst,.string x.tmp]
def Nt.v (x:Nt):Value:=.agg #[.int .u8 x.kind.toNat,.int .i64 x.no,.string x.src,.string x.dst,.string x.tmp]
structure Nt.Ok (x:Nt):Prop where
 src:x.src.size≤100000
 dst:x.dst.size≤100000
 tmp:x.tmp.size≤100000
 n0:-9223372036854775808≤x.no
 n1:x.no≤9223372036854775807
def mayB (x:Nt):Bool:=
 if x.kind.toNat=109 then pathB x.src && pathB x.dst && x.tmp.toList.isEmpty && decide (1≤x.no)
 else if x.kind.toNat=99 then x.src.toList.isEmpty && pathB x.dst && pathB x.tmp && decide (0≤x.no)
 else decide (x.kind.toNat=120) && pathB x.src && pathB x.dst && pathB x.tmp && decide (1≤x.no)
end
section
open Go.RowKit
theorem check_len {s:ByteArray} (h:checkE s=0):s.size≤255:=by
 unfold checkE at h
 split at h
 ·exact absurd h (by decide)
 ·split at h
  ·exact absurd h (by decide)
  ·omega
theorem listF_names {S:Fs} (hm:Nm S) (d:Bool) (c:Cr) (no:Int):∀ e∈(S.listF d c no).1,e.name.size≤255:=by
 unfold Fs.listF
 split
 ·intro e he;cases he
 ·split
  ·intro e he;cases he
  ·intro e he;obtain⟨x,hx,rfl⟩:=List.mem_map.1 he;unfold Fs.entsOf at hx
   split at hx
   ·rename_i a ha;exact check_len (hm a (an_mem ha) x hx)
   ·cases hx
theorem listF_few {S:Fs} {N:Nat} (hk:FsOk S N) (d:Bool) (c:Cr) (no:Int):(S.listF d c no).1.length≤N:=by
 unfold Fs.listF
 split
 ·exact Nat.zero_le _
 ·split
  ·exact Nat.zero_le _
  ·rw [List.length_map];unfold Fs.entsOf
   split
   ·rename_i a ha;exact (hk.get ha).1.few
   ·exact Nat.zero_le _
theorem OS.sl {w:World} {base c:Nat} {a:Option Addr} {ls:List (List UInt8)} (h:OS w base (.slice a ls.length c) ls) (hz:∀ l∈ls,l.length≤9223372036854775807):SliceAt w 1 strR a ls.length c (ls.map str):=by
 have h1:=own_slice (R:=fun cs l=>cs=encS l) (by omega) encS_len (fun _=>rfl) h;refine ⟨by simp,h1.2.1,h1.2.2.1,h1.2.2.2.imp id ?_⟩;rintro ⟨b,off,he,hb,hel⟩;refine ⟨b,off,he,hb,fun i hi=>?_⟩;have hi':i<ls.length:=by simpa using hi
 obtain⟨cs,e1,e2,e3⟩:=hel i hi';refine ⟨cs,e1,?_,e3⟩;rw [List.getElem_map];exact⟨e2,by rw [str_size];exact hz _ (List.getElem_mem hi')⟩
theorem tilN_ok {n s:ByteArray} {k:Int} (h:tilN n k=(s,0)):checkE n=0∧1≤k∧k≤999999999∧s=tilB n k:=by
 unfold tilN at h
 split at h
 ·rename_i h1;injection h with e1 e2;exact absurd e2 h1
 ·rename_i h1
  split at h
  ·injection h with e1 e2;exact absurd e2 (by decide)
  ·rename_i h2
   split at h
   ·injection h with e1 e2;exact absurd e2 (by decide)
   ·injection h with e1 e2;exact⟨by simpa using h1,by omega,by omega,e1.symm⟩
theorem spare_next {S:Fs} {c:Cr} {dir:Int} {n s:ByteArray} (h:S.spareF false c dir n=(s,0)) :
  idxB n s=mostB n 0 ((S.entsOf dir).map (·.name))+1∧entFind (S.entsOf dir) s=0:=by
 unfold Fs.spareF at h
 split at h
 ·rename_i h1;injection h with e1 e2;exact absurd e2 h1
 ·rename_i h1;have hl:(S.listF false c dir).1.map (·.name)=(S.entsOf dir).map (·.name):=by
   rw [listF_seen] at h1 ⊢
   split at h1
   ·exact absurd (by assumption) h1
   ·rename_i h2;rw [if_neg h2,List.map_map];rfl
  rw [hl] at h;obtain⟨hc,hk1,hk2,rfl⟩:=tilN_ok h;have hn:n≠ByteArray.empty:=by
   rintro rfl;exact absurd hc (by decide)
  have hi:=idxB_til hn hk1 hk2;refine ⟨hi,?_⟩;have key:∀ x∈S.entsOf dir,x.name≠tilB n (mostB n 0 ((S.entsOf dir).map (·.name))+1):=fun x hx he=>by
   have hm:=mostB_mem n ((S.entsOf dir).map (·.name)) 0 (Int.le_refl _) (by decide) x.name (List.mem_map.2 ⟨x,hx,rfl⟩);rw [he,hi] at hm;omega
  unfold entFind;rw [List.find?_eq_none.2 (fun x hx=>by simpa using key x hx)]
structure Gl where
 dir:Int
 name:ByteArray
 no:Int
def Gl.v (g:Gl):Value:=.agg #[.int .i64 g.dir,.string g.name,.int .i64 g.no]
def gl0:Gl:=⟨0,ByteArray.empty,0⟩
def Fs.intoG (S:Fs) (c:Cr) (dir:Int) (n:ByteArray):Gl×Int:=
 if (S.lookF false c dir n).2≠0∧(S.lookF false c dir n).2≠5 then (gl0,(S.lookF false c dir n).2) else (⟨dir,n,(S.lookF false c dir n).1⟩,0)
def Fs.intoF (S:Fs) (c:Cr) (path n:ByteArray):Gl×Int:=
 if (S.path c path true).2=0∧(S.getZ (S.path c path true).1.no).kind=1 then S.intoG c (S.path c path true).1.no n
 else if (S.path c path true).2=20 then (gl0,20)
 else if (S.path c path false).2≠0 then (gl0,(S.path c path false).2)
 else if (S.path c path false).1.slash=true∨(S.path c path false).1.name=ByteArray.empty then (gl0,9)
 else S.intoG c (S.path c path false).1.dir (S.path c path false).1.name
noncomputable def Fs.asideF (S:Fs) (d:Bool) (c:Cr) (g:Gl) (backup:Bool):ByteArray×Int:=
 if g.no=0 then (ByteArray.empty,0) else if backup=false then (ByteArray.empty,7) else if S.busy g.no=true then (ByteArray.empty,16) else S.spareF d c g.dir g.name
def nt0:Nt:=⟨0,0,ByteArray.empty,ByteArray.empty,ByteArray.empty⟩
def Fs.note40 (S:Fs) (no dir:Int) (a:ByteArray) (to':Int) (b:ByteArray):Nt×Int:=
 if (S.pathF dir a).2≠0 then (nt0,(S.pathF dir a).2) else if (S.pathF to' b).2≠0 then (nt0,(S.pathF to' b).2) else (⟨109,no,(S.pathF dir a).1,(S.pathF to' b).1,ByteArray.empty⟩,0)
theorem intoG_size (S:Fs) (c:Cr) (dir:Int) (n:ByteArray) {B:Nat} (h:n.size≤B):(S.intoG c dir n).1.name.size≤B:=by
 unfold Fs.intoG
 split
 ·exact Nat.zero_le _
 ·exact h
theorem intoF_size {S:Fs} {N:Nat} (hk:FsOk S N) (c:Cr) (path n:ByteArray) (hp:path.size≤100000) (hn:n.size≤100000):(S.intoF c path n).1.name.size≤100000:=by
 unfold Fs.intoF
 split
 ·exact intoG_size S c _ _ hn
 ·split
  ·exact Nat.zero_le _
  ·split
   ·exact Nat.zero_le _
   ·split
    ·exact Nat.zero_le _
    ·exact intoG_size S c _ _ (path_size2 hk c path hp false)
theorem whereZ_size {S:Fs} (h:Pl S):∀ (n:Nat) (no:Int) (s t:ByteArray),S.whereN n no s=some t→t.size≤s.size+256*n+1
 | 0,_,_,_,e=>by cases e
 | n+1,no,s,t,e=>by
  unfold Fs.whereN at e;by_cases h1:no=1
  ·rw [if_pos h1] at e;injection e with e;subst e
   split
   ·show (1:Nat)≤_;omega
   ·omega
  ·rw [if_neg h1] at e
   cases hn:entName (S.entsOf (S.above no)) (S.child no) with
   | none=>rw [hn] at e;cases e
   | some nm=>
    rw [hn] at e;have h2:=whereZ_size h n _ _ _ e;have h3:nm.size≤255:=by
     obtain⟨x,hx,rfl⟩:=entName_mem hn;unfold Fs.entsOf at hx
     cases hg:S.get (S.above no) with
     | none=>rw [hg] at hx;cases hx
     | some a=>rw [hg] at hx;exact (h.names a (an_mem hg) x hx).2
    rw [ByteArray.size_append,ByteArray.size_append] at h2;have h4:topB.size=1:=rfl;omega
theorem placeZ_size {S:Fs} (h:Pl S) {no:Int} {s:ByteArray} (hs:S.place_ no=some s):s.size≤256*S.ns.length+257:=by
 have h1:s.size≤0+256*(S.ns.length+1)+1:=whereZ_size h (S.ns.length+1) no ByteArray.empty s hs;rw [Nat.zero_add,Nat.mul_add,Nat.add_assoc] at h1;exact h1
theorem Blk.fill3 {w:World} {B:Nat} {x0 x1 x2 v0 v1 v2:Value} {T:TypeId} (h:Blk w B #[x0,x1,x2] T):Blk (((w.setCell ⟨B,0,none⟩ v0).setCell ⟨B,1,none⟩ v1).setCell ⟨B,2,none⟩ v2) B #[v0,v1,v2] T:=((h.set 0 v0).set 1 v1).set 2 v2
theorem Blk.fill5 {w:World} {B:Nat} {x0 x1 x2 x3 x4 v0 v1 v2 v3 v4:Value} {T:TypeId} (h:Blk w B #[x0,x1,x2,x3,x4] T):Blk (((((w.setCell ⟨B,0,none⟩ v0).setCell ⟨B,1,none⟩ v1).setCell ⟨B,2,none⟩ v2).setCell ⟨B,3,none⟩ v3).setCell ⟨B,4,none⟩ v4) B #[v0,v1,v2,v3,v4] T:=((((h.set 0 v0).set 1 v1).set 2 v2).set 3 v3).set 4 v4
theorem below_fill3 {N:Nat} {w0 w:World} {B:Nat} {v0 v1 v2:Value} (h:Below N w0 w) (hB:N≤B):Below N w0 (((w.setCell ⟨B,0,none⟩ v0).setCell ⟨B,1,none⟩ v1).setCell ⟨B,2,none⟩ v2):=((h.setCell hB v0).setCell hB v1).setCell hB v2
theorem below_fill5 {N:Nat} {w0 w:World} {B:Nat} {v0 v1 v2 v3 v4:Value} (h:Below N w0 w) (hB:N≤B):Below N w0 (((((w.setCell ⟨B,0,none⟩ v0).setCell ⟨B,1,none⟩ v1).setCell ⟨B,2,none⟩ v2).setCell ⟨B,3,none⟩ v3).setCell ⟨B,4,none⟩ v4):=((((h.setCell hB v0).setCell hB v1).setCell hB v2).setCell hB v3).setCell hB v4
end
section
open Go.RowKit Go.Shelf
theorem snote_end {a:Act} {W w0:World} {N B:Nat} {k:UInt8} {no e:Int} {s t x:ByteArray} {rd:Nt×Int} (hb:Blk W B #[.int .u8 k.toNat,.int .i64 no,.string s,.string t,.string x] 128)
  (h8:a.tmps.getD 12 undef=.pointer (some ⟨B,0,none⟩)) (h9:a.tmps.getD 13 undef=.int .i64 e) (hr:rd=((⟨k,no,s,t,x⟩:Nt),e)) (hd:a.defers=[]) (hB:Below N w0 W) :
  bodyPost Tryz.prog Tryz.f55 (fun z w'=>z=.returned (.tuple #[rd.1.v,.int .i64 rd.2])∧Below N w0 w') .ret a W:=by
 subst hr;have q0:=hb.cell 0;have q1:=hb.cell 1;have q2:=hb.cell 2;have q3:=hb.cell 3;have q4:=hb.cell 4;rw [Array.getD_eq_getD_getElem?] at h8 h9;refine bodyPost_ret (v:=.tuple #[(⟨k,no,s,t,x⟩:Nt).v,.int .i64 e]) ?_ hd ⟨rfl,hB⟩;simp [results,Tryz.results55,go_sem,Nt.v,h8,h9,q0,q1,q2,q3,q4]
section
variable {w w':World} {pf pw:Nat} {R:Rp} {pv:Value} {Y:Sy}
theorem sname_any (h:SyAt w pf pw R pv Y) {N:Nat} (hk:FsOk Y.fs N) (hN:N≤999999) (hm:Nm Y.fs) (c:Cr) (dir:Int) (n:ByteArray) (hn:n.size≤100000) :
  Calls Tryz.prog 45 #[.pointer (some ⟨pf,0,none⟩),.agg #[.int .i64 c.u,.int .i64 c.g],.int .i64 dir,.string n] w fun e w'=>e=.returned (.tuple #[.string (Y.fs.spareF Y.dead c dir n).1,.int .i64 (Y.fs.spareF Y.dead c dir n).2])∧Below w.heap.size w w':=by
 have hX:=Blk.new w #[.int .i64 c.u,.int .i64 c.g] 27;have hbX:=balloc (Below.refl w.heap.size w) (.cells #[.int .i64 c.u,.int .i64 c.g] 27);have HL:=Lib.hid (slist_any (h.keep hbX) hk hN c dir);have hsz:=listF_names hm Y.dead c dir;have hfew:=listF_few hk Y.dead c dir;have HR:=Lib.hid (show Y.fs.spareF Y.dead c dir n=if (Y.fs.listF Y.dead c dir).2≠0 then (ByteArray.empty,(Y.fs.listF Y.dead c dir).2) else tilN n (mostB n 0 ((Y.fs.listF Y.dead c dir).1.map (·.name))+1) from rfl);generalize Y.fs.spareF Y.dead c dir n=rd at HR ⊢;generalize Y.fs.listF Y.dead c dir=L at HL HR hsz hfew;obtain⟨es,le⟩:=L;dsimp only at HL HR hsz hfew;have HNx:=Lib.hid (fun (w1:World) {a:Option Addr} {m cp:Nat} (hl:SliceAt w1 1 strR a m cp (es.map (·.name)))=>tnext_any n hn (es.map (·.name)) (fun s hs=>by
  obtain⟨e,he,rfl⟩:=List.mem_map.1 hs;exact Nat.le_trans (hsz e he) (by decide)) w1 hl)
 clear h hk hm;go_enter Tryz.func45,Tryz.ntmps45;go_upto_region 1 with fail;generalize w.alloc (.cells #[.int .i64 c.u,.int .i64 c.g] 27)=X at hX hbX HL ⊢;obtain⟨xc,xf,xz⟩:=hX.facts;have HB:=Lib.hid hbX;clear hX hbX;go_wp2_with fail;refine HL.out.mono ?_;rintro e w2 ⟨v,rfl,hO,hb2⟩;obtain⟨a,cp,rfl,hE⟩:=hO.form;have HB2:=Lib.hid (bnext HB.out hb2);have HE:=Lib.hid (fun w' (hb:Below w2.heap.size w2 w')=>hE.keep hb);have h63:=hE.sl.2.1;have h64:=hE.sl.2.2.1;clear hO hE hb2 xc xf xz;by_cases h0:le=0
 ·have HR1:=Lib.hid (HR.out.trans (if_neg (by simpa using h0)));subst h0;go_wp2_with fail
  go_loopw [12,27] (fun t12 t27 wr=>∃ i:Nat,i≤es.length∧t27=.int .i64 i∧OS wr w2.heap.size t12 ((es.take i).map (·.name.data.toList))∧Below w2.heap.size w2 wr) (fun _ t27 _=>es.length - (intOf t27).toNat)
  case atStart=>exact ⟨0,Nat.zero_le _,rfl,OS.nil _ _,Below.refl _ _⟩
  case round=>
   obtain⟨i,hi,rfl,ho,hb⟩:=hrel;obtain⟨a2,c3,rfl,-,-,-⟩:=own_form ho;by_cases hlt:i<es.length
   ·have hlt2:(i:Int)<(es.length:Int):=by omega
    have hi0:¬ (i:Int)<0:=by omega
    obtain⟨b,off,rfl,hbl⟩:=(HE.out _ hb).some_of (by omega);obtain⟨c1,c2⟩:=(HE.out _ hb).cell i hlt;have HT:=Lib.hid (List.take_succ_eq_append_getElem hlt);generalize es[i]=x at c1 c2 HT;have hbA:=balloc hb (.cells #[.string x.name,.int .i64 x.no] 113);have hoA:=OS.keep2 ho (balloc (Below.refl _ wr) (.cells #[.string x.name,.int .i64 x.no] 113));have hll:((es.take i).map (·.name.data.toList)).length≤1000000:=by
     rw [List.length_map,List.length_take];omega
    obtain⟨g,cap,W9,hrun,hO9,hb9,-,-⟩:=OS.appK hoA x.name.data.toList hll hbA.size;rw [str_of,World.size_alloc] at hrun;have HR9:=Lib.hid hrun;have HO9:=Lib.hid (And.intro hO9 (hbA.trans hb9));generalize ((es.take i).map (·.name.data.toList)).length=n0 at HR9 HO9 ⊢;clear hrun hO9 hb9 ho hll hoA hbA hb;go_wp2_with (at_builtin;refine wpList_app_run rfl rfl rfl rfl HR9.out ?_);go_roundw
    case measure=>simp [intOf];omega
    case rel=>exact ⟨i+1,by omega,by go_num,by rw [HT.out,List.map_append];exact HO9.out.1,HO9.out.2⟩
   ·obtain rfl:i=es.length:=by omega
    rw [List.take_length] at ho ⊢;have hS:=ho.sl (fun l hl=>by
     obtain⟨e,he,rfl⟩:=List.mem_map.1 hl;exact Nat.le_trans (hsz e he) (by decide))
    rw [List.map_map,show (str ∘ fun e:En=>e.name.data.toList)=fun e:En=>e.name from funext fun e=>str_of e.name] at hS;rw [List.length_map] at hS ⊢;have HNx1:=Lib.hid (HNx.out _ hS);have HB3:=Lib.hid hb;clear ho hb hS;go_wp2_with fail;refine HNx1.out.mono ?_;rintro e w4 ⟨rfl,hb4⟩;have HB4:=Lib.hid (HB2.out.trans ((bnext HB3.out hb4).mono HB2.out.size));clear hb4;go_wp2_with fail;go_ret2;rw [HR1.out];exact⟨rfl,HB4.out⟩
 ·have h0b:(le != 0)=true:=by simpa using h0
  have HR1:=Lib.hid (HR.out.trans (if_pos h0));clear h0;go_wp2_with fail;go_ret2;rw [HR1.out];exact⟨rfl,HB2.out⟩
theorem snote40_any (h:SyAt w pf pw R pv Y) {N:Nat} (hk:FsOk Y.fs N) (hp:Pl Y.fs) (hl:Y.fs.ns.length≤100000) (hd:Y.dead=false) (no dir:Int) (a:ByteArray) (to':Int) (b:ByteArray) (ha:a.size≤100000) (hb:b.size≤100000) (hpz:∀ k s,Y.fs.place_ k=some s→s.size≤100000) :
  Calls Tryz.prog 55 #[.pointer (some ⟨pf,0,none⟩),.int .i64 no,.int .i64 dir,.string a,.int .i64 to',.string b] w fun e w'=>e=.returned (.tuple #[(Y.fs.note40 no dir a to' b).1.v,.int .i64 (Y.fs.note40 no dir a to' b).2])∧Below w.heap.size w w':=by
 have HP:=Lib.hid (fun w1 (hb1:Below w.heap.size w w1) d n (hn:n.size≤100000)=>tpath_any (h.keep hb1) hk hp hl hd d n hn (hpz d));have HN:=Lib.hid (show Y.fs.note40 no dir a to' b=if (Y.fs.pathF dir a).2≠0 then (nt0,(Y.fs.pathF dir a).2) else if (Y.fs.pathF to' b).2≠0 then (nt0,(Y.fs.pathF to' b).2) else (⟨109,no,(Y.fs.pathF dir a).1,(Y.fs.pathF to' b).1,ByteArray.empty⟩,0) from rfl);have HP1:=Lib.hid (fun w1 hb1=>HP.out w1 hb1 dir a ha);have HP2:=Lib.hid (fun w1 hb1=>HP.out w1 hb1 to' b hb);generalize Y.fs.note40 no dir a to' b=rd at HN ⊢;generalize Y.fs.pathF dir a=p1 at HN HP1;generalize Y.fs.pathF to' b=p2 at HN HP2;obtain⟨s1,e1⟩:=p1;obtain⟨s2,e2⟩:=p2;dsimp only at HN HP1 HP2;have hX:=Blk.new w #[.int .u8 0,.int .i64 0,.string ⟨#[]⟩,.string ⟨#[]⟩,.string ⟨#[]⟩] 128;have hbX:=balloc (Below.refl w.heap.size w) (.cells #[.int .u8 0,.int .i64 0,.string ⟨#[]⟩,.string ⟨#[]⟩,.string ⟨#[]⟩] 128);clear h hk hp HP;go_enter Tryz.func55,Tryz.ntmps55;go_upto_region 1 with fail;generalize w.alloc (.cells #[.int .u8 0,.int .i64 0,.string ⟨#[]⟩,.string ⟨#[]⟩,.string ⟨#[]⟩] 128)=X at hX hbX ⊢;have HX:=Lib.hid (And.intro hX hbX);clear hX hbX;go_wp2_with fail;refine (HP1.out _ HX.out.2).mono ?_;rintro e w1 ⟨rfl,hb1⟩;have HX1:=Lib.hid (And.intro (HX.out.1.keep hb1) (bnext HX.out.2 hb1));clear hb1;by_cases h1:e1=0
 ·have HN1:=Lib.hid (HN.out.trans (if_neg (by simpa using h1)));subst h1;go_wp2_with fail;refine (HP2.out _ HX1.out.2).mono ?_;rintro e w2 ⟨rfl,hb2⟩;have HX2:=Lib.hid (And.intro (HX1.out.1.keep hb2) (bnext HX1.out.2 hb2));clear hb2;obtain⟨xc,xf,xz⟩:=HX2.out.1.facts;by_cases h2:e2=0
  ·have HN2:=Lib.hid (HN1.out.trans (if_neg (by simpa using h2)));subst h2;go_wp2_with fail;exact snote_end HX2.out.1.fill5 rfl rfl HN2.out rfl (below_fill5 HX2.out.2 (Nat.le_refl _))
  ·have h2b:(e2 != 0)=true:=by simpa using h2
   have HN2:=Lib.hid (HN1.out.trans (if_pos h2));clear h2;go_wp2_with fail;exact snote_end HX2.out.1.fill5 rfl rfl HN2.out rfl (below_fill5 HX2.out.2 (Nat.le_refl _))
 ·have h1b:(e1 != 0)=true:=by simpa using h1
  have HN1:=Lib.hid (HN.out.trans (if_pos h1));obtain⟨xc,xf,xz⟩:=HX1.out.1.facts;clear h1;go_wp2_with fail;exact snote_end HX1.out.1.fill5 rfl rfl HN1.out rfl (below_fill5 HX1.out.2 (Nat.le_refl _))
end
end
end Go.Proofs.YtihdbncoijhihaaGreatDoor
