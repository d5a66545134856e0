import Derived.Deep.RegionHeld3
import Derived.Test.YtihdbncoijhihaaGreatDoorCT5
import Derived.Test.YtihdbncoijhihaaGreatDoorCT47
import Derived.Test.YtihdbncoijhihaaGreatDoorCT3
import Derived.Test.YtihdbncoijhihaaGreatDoorCT46
import Derived.Test.YtihdbncoijhihaaGreatDoorCT35
set_option linter.unusedVariables false
set_option linter.unusedSimpArgs false
namespace Go.Proofs.YtihdbncoijhihaaGreatDoor
open Go
section
variable {P : Program} {ops : Array Oper} {md : Region.Mode} {l : Nat} {n : Nat} {Q : Exit→Act→World→Prop}
theorem rowsIn_of {row : String} {args : Array Value} {w : World} {R : Value→World→Prop} (h : Rows P row args w R) : RowsIn Fence.wide n P row args w R:=
 fun c cs _=>let ⟨v,w',r,s⟩:=h c cs;⟨v,w',r,stepsIn_wide.2 s⟩
theorem operIn_of {o : Oper} (hd : ∀ c,o.op≠.defer c) {a : Act} {w : World} {K K' : Act→World→Prop} (hK : ∀ a w,K a w→K' a w) (h : o.wp P a w K Q) : o.wpIn (Fence.wide.inRound l) n P a w K' Q:=by
 unfold Oper.wp at h
 unfold Oper.wpIn
 refine ⟨fun _ _=>trivial,?_⟩
 rw [Fence.inRound_round,Oper.semAt_some l _ o hd]
 generalize (execOp a.eval o).run P w=r at *
 cases r with
 | ok m w'=>
  cases m with
  | value v=>exact hK _ _ h
  | skip=>exact hK _ _ h
  | defer d=>exact hK _ _ h
  | enter f args=>
   refine ⟨fun h=>by simp [Fence.wide] at h,?_⟩
   refine CallsIn.inRound l (callsIn_wide.2 (Calls.mono h fun e w'' he=>?_))
   cases e with
   | returned v=>exact hK _ _ he
   | panicked c=>exact he
   | outgrown=>exact he
  | row row args=>
   refine ⟨fun h=>by simp [Fence.wide] at h,?_⟩
   exact (rowsIn_of h).mono fun v w'' hv=>hK _ _ hv
  | _=>exact h.elim
 | halt x w'=>
  cases x with
  | panic v=>exact h
  | _=>exact h.elim
theorem anyIn_of (hd : noDefer ops=true) (hno : ¬ LetsOut Q) : ∀ (fuel : Nat) (listed : Array Bool) (a : Act) (w : World),wpAny P md ops Q fuel listed a w→wpAnyIn (Fence.wide.inRound l) n P md ops Q fuel listed a w
 | 0,_,_,_,h=>h
 | fuel + 1,listed,a,w,h=>by
  refine ⟨h.1,fun i hi=>?_⟩
  have h2:=h.2 i hi
  unfold wpOp at h2
  unfold wpOpIn
  cases ho : ops[i]? with
  | none=>rw [ho] at h2;exact anyIn_of hd hno fuel _ _ _ h2
  | some o=>
   rw [ho] at h2
   simp only at h2 ⊢
   split
   ·rename_i hw
    rw [if_pos hw] at h2
    rcases h2 with h2 | ⟨-,h2⟩
    ·exact operIn_of (noDefer_spec hd ho) (fun a w h=>anyIn_of hd hno fuel _ a w h) h2
    ·exact absurd h2 hno
   ·rename_i hw
    rw [if_neg hw] at h2
    exact⟨fun _ _=>trivial,anyIn_of hd hno fuel _ _ _ h2⟩
theorem wpIn_region_held_round {S : World→Prop} {id : Nat} {a : Act} {w : World} (hm : P.follows .mixedOrders=true) (hd : noDefer ops=true) (hno : ¬ LetsOut Q) (hS : S w.drew)
  (h : S w.drew→wpAnyH P .any ops Q S ops.size (Array.replicate ops.size false) a w.drew) : (Code.region id ops true).wpIn (Fence.wide.inRound l) n P Q a w:=
 wpIn_region_any hm (anyIn_of hd hno _ _ _ _ (wpAny_of_held _ _ _ _ (h hS)))
section
variable {S : World→Prop} {oi : Oper} {fuel : Nat} {listed : Array Bool} {tmps : Array Value} {defers : List Deferred} {w W : World} {v : Value}
theorem reg_alone (i d : Nat) (hr : Region.ready md ops listed=[i]) (hi : ops[i]? = some oi) (hd : oi.dst=some d) (hw : Region.wanted oi (yielded ops tmps)=true)
  (he : (execOp (Act.eval { tmps,defers }) oi).run P w=.ok (.value v) W) (hS : S W) (h : wpAnyH P md ops Q S fuel (listed.setIfInBounds i true) { tmps:=tmps.setIfInBounds d v,defers } W) : wpAnyH P md ops Q S (fuel + 1) listed { tmps,defers } w:=by
 refine wpAnyH_ready hr (by simp) (AllReadyH.cons hi (fun K hK=>?_) AllReadyH.nil)
 rw [if_pos hw]
 unfold Oper.wp
 rw [he]
 refine hK.out _ _ hS (fun _=>?_)
 rw [hd]
 exact h
theorem reg_two (i di j dj : Nat) {oj : Oper} {vj : Value} (hr : Region.ready md ops listed=[i,j]) (hi : ops[i]? = some oi) (hj : ops[j]? = some oj) (hdi : oi.dst=some di) (hdj : oj.dst=some dj)
  (hwi : Region.wanted oi (yielded ops tmps)=true) (hwj : Region.wanted oj (yielded ops tmps)=true) {Wi : World}
  (hei : (execOp (Act.eval { tmps,defers }) oi).run P w=.ok (.value v) Wi) (hej : (execOp (Act.eval { tmps,defers }) oj).run P w=.ok (.value vj) W) (hSi : S Wi) (hSj : S W)
  (h1 : wpAnyH P md ops Q S fuel (listed.setIfInBounds i true) { tmps:=tmps.setIfInBounds di v,defers } Wi) (h2 : wpAnyH P md ops Q S fuel (listed.setIfInBounds j true) { tmps:=tmps.setIfInBounds dj vj,defers } W) :
  wpAnyH P md ops Q S (fuel + 1) listed { tmps,defers } w:=by
 refine wpAnyH_ready hr (by simp) (AllReadyH.cons hi (fun K hK=>?_) (AllReadyH.cons hj (fun K hK=>?_) AllReadyH.nil))
 ·rw [if_pos hwi]
  unfold Oper.wp
  rw [hei]
  refine hK.out _ _ hSi (fun _=>?_)
  rw [hdi]
  exact h1
 ·rw [if_pos hwj]
  unfold Oper.wp
  rw [hej]
  refine hK.out _ _ hSj (fun _=>?_)
  rw [hdj]
  exact h2
theorem reg_app (i d : Nat) {y r : Value} {s x : Operand} {t : TypeId} (hr : Region.ready md ops listed=[i]) (hi : ops[i]? = some oi) (hd : oi.dst=some d)
  (hgd : oi.guard=none) (ho : oi.op=.call { callee:=.builtin .append,args:=#[s,x],argTypes:=#[t,t] }) (hs : (Act.eval { tmps,defers }) s=v) (hx : (Act.eval { tmps,defers }) x=y)
  (hrun : (Builtin.append_ #[t,t] oi.type #[v,y]).run P w=.ok r W) (hS : S W)
  (h : wpAnyH P md ops Q S fuel (listed.setIfInBounds i true) { tmps:=tmps.setIfInBounds d r,defers } W) : wpAnyH P md ops Q S (fuel + 1) listed { tmps,defers } w:=by
 refine reg_alone i d hr hi hd (by simp [Region.wanted,hgd]) ?_ hS h
 unfold execOp
 simp only [ho,resolve,invoke,builtin,Sem.run_bind,Sem.run_pure,Result.andThen_ok,List.map_toArray,List.map_cons,List.map_nil,hs,hx,hrun]
theorem reg_store (i : Nat) (hr : Region.ready md ops listed=[i]) (hi : ops[i]? = some oi) (hd : oi.dst=none) (hw : Region.wanted oi (yielded ops tmps)=true)
  (he : (execOp (Act.eval { tmps,defers }) oi).run P w=.ok (.skip) W) (hS : S W) (h : wpAnyH P md ops Q S fuel (listed.setIfInBounds i true) { tmps,defers } W) : wpAnyH P md ops Q S (fuel + 1) listed { tmps,defers } w:=by
 refine wpAnyH_ready hr (by simp) (AllReadyH.cons hi (fun K hK=>?_) AllReadyH.nil)
 rw [if_pos hw]
 unfold Oper.wp
 rw [he]
 refine hK.out _ _ hS (fun _=>?_)
 rw [hd]
 exact h
end
end
end Go.Proofs.YtihdbncoijhihaaGreatDoor
namespace Go.Proofs.YtihdbncoijhihaaGreatDoor
open Go
section
variable {P : Program} {ops : Array Oper} {Q : Exit→Act→World→Prop} {md : Region.Mode} {S : World→Prop}
theorem reg_make_call (i di j dj : Nat) {oi oj : Oper} {fuel : Nat} {listed : Array Bool} {tmps : Array Value} {defers : List Deferred} {w Wi : World} {vi : Value} (hr : Region.ready md ops listed=[i,j]) (hi : ops[i]? = some oi) (hj : ops[j]? = some oj)
  (hdi : oi.dst=some di) (hdj : oj.dst=some dj) (hwi : Region.wanted oi (yielded ops tmps)=true) (hwj : Region.wanted oj (yielded ops tmps)=true)
  (hei : (execOp (Act.eval { tmps,defers }) oi).run P w=.ok (.value vi) Wi) (hSi : S Wi) {f : FuncId} {args : Array Value} (hej : (execOp (Act.eval { tmps,defers }) oj).run P w=.ok (.enter f args) w) {R : Value→World→Prop}
  (hc : Calls P f args w fun e w'=>∃ v,e=.returned v∧R v w') (hSj : ∀ v w',R v w'→S w')
  (h1 : wpAnyH P md ops Q S fuel (listed.setIfInBounds i true) { tmps:=tmps.setIfInBounds di vi,defers } Wi)
  (h2 : ∀ v w',R v w'→wpAnyH P md ops Q S fuel (listed.setIfInBounds j true) { tmps:=tmps.setIfInBounds dj v,defers } w') : wpAnyH P md ops Q S (fuel + 1) listed { tmps,defers } w:=by
 refine wpAnyH_ready hr (by simp) (AllReadyH.cons hi (fun K hK=>?_) (AllReadyH.cons hj (fun K hK=>?_) AllReadyH.nil))
 ·rw [if_pos hwi]
  unfold Oper.wp
  rw [hei]
  refine hK.out _ _ hSi (fun _=>?_)
  rw [hdi]
  exact h1
 ·rw [if_pos hwj]
  unfold Oper.wp
  rw [hej]
  refine hc.mono ?_
  rintro e w' ⟨v,rfl,hR⟩
  have:=h2 v w' hR
  refine hK.out _ _ (hSj v w' hR) (fun _=>?_)
  rw [hdj]
  exact this
end
end Go.Proofs.YtihdbncoijhihaaGreatDoor
namespace Go.Proofs.YtihdbncoijhihaaGreatDoor
open Go.RowKit Go.Shelf
attribute [local go_sem] Oper.semAt_some
theorem whereN_size {S : Fs} (h : Pl S) : ∀ (n : Nat) (no : Int) (s t : ByteArray),S.whereN n no s=some t→t.size≤s.size + 256 * n + 1
 | 0,_,_,_,e=>by cases e
 | n + 1,no,s,t,e=>by
  unfold Fs.whereN at e
  by_cases h1 : no=1
  ·rw [if_pos h1] at e
   injection e with e
   subst e
   split
   ·show (1 : Nat)≤_;omega
   ·omega
  ·rw [if_neg h1] at e
   cases hn : entName (S.entsOf (S.above no)) (S.child no) with
   | none=>rw [hn] at e;cases e
   | some nm=>
    rw [hn] at e
    have h2:=whereN_size h n _ _ _ e
    have h3 : nm.size≤255:=by
     obtain⟨x,hx,rfl⟩:=entName_mem hn
     unfold Fs.entsOf at hx
     cases hg : S.get (S.above no) with
     | none=>rw [hg] at hx;cases hx
     | some a=>rw [hg] at hx;exact (h.names a (an_mem hg) x hx).2
    rw [ByteArray.size_append,ByteArray.size_append] at h2
    have h4 : topB.size=1:=rfl
    omega
theorem place_size {S : Fs} (h : Pl S) {no : Int} {s : ByteArray} (hs : S.place_ no=some s) : s.size≤256 * S.ns.length + 257:=by
 have h1 : s.size≤0 + 256 * (S.ns.length + 1) + 1:=whereN_size h (S.ns.length + 1) no ByteArray.empty s hs
 rw [Nat.zero_add,Nat.mul_add,Nat.add_assoc] at h1
 exact h1
def m29 : ByteArray:=ByteArray.mk #[47,109]
def x29 : ByteArray:=ByteArray.mk #[47,109,47,120]
def y29 : ByteArray:=ByteArray.mk #[47,109,47,46,46,47,109,47,120]
def ms29 : List Mt:=[⟨m29,9,9⟩]
def is29 : List It:=[⟨x29,2,0,0,0,0,⟨#[]⟩⟩]
end Go.Proofs.YtihdbncoijhihaaGreatDoor
namespace Go.Proofs.YtihdbncoijhihaaGreatDoor
open Go.RowKit
theorem OS.appN {w : World} {base : Nat} {v : Value} {ls : List (List UInt8)} (h : OS w base v ls) (ns : List (List UInt8)) (hn : 0 < ns.length) (hl : ls.length + ns.length≤1000000) (hb : base≤w.heap.size) :
  ∃ g cap W,(Builtin.append_ #[38,38] 38 #[v,.slice (some ⟨w.heap.size,0,none⟩) ns.length ns.length]).run Tryz.prog (w.alloc (.cells (ns.flatMap encS).toArray 9))=.ok (.slice (some ⟨g,0,none⟩) (ls.length + ns.length) cap) W∧
   OS W base (.slice (some ⟨g,0,none⟩) (ls.length + ns.length) cap) (ls ++ ns)∧Mod (fun k=>v.ownBlock=some k) w W:=by
 obtain⟨i0,hi,hz0,hz1,hz2⟩:=info_parts str_info
 have ho:=World.ownsRow.alloc h (.cells (ns.flatMap encS).toArray 9)
 have hfl : (ns.flatMap encS).length=ns.length * 1:=by
  induction ns with
  | nil=>rfl
  | cons x l ih=>
   rw [List.flatMap_cons,List.length_append,List.length_cons]
   by_cases hz : 0 < l.length
   ·have:=ih hz (by simp at hl;omega) (World.ownsRow.alloc h _)
    rw [this]
    show 1 + l.length * 1=(l.length + 1) * 1
    omega
   ·have : l=[]:=List.eq_nil_of_length_eq_zero (by omega)
    subst this
    rfl
 have h1c : ∀ u ∈ ns.flatMap encS,u.oneCell'=true:=by
  intro u hu
  obtain⟨x,-,hx⟩:=List.mem_flatMap.1 hu
  simp [encS] at hx
  subst hx
  rfl
 obtain⟨g,cap,W,h1,h2,h3,h4⟩:=step_app 38 Tryz.underlying38 hi hz0 hz1 hz2 rfl (by omega) ho ⟨w.heap.size,0,none⟩ ns.length ns.length (ns.flatMap encS) hfl (World.news_of_block (Blk.new w (ns.flatMap encS).toArray 9)) h1c hn (by unfold maxLen;omega) (by omega) (by rw [World.size_alloc];omega)
 refine ⟨g,cap,W,h1,?_,((Mod.refl (fun j=>v.ownBlock=some j) w).alloc _).trans h3⟩
 unfold OS
 rw [List.length_append,List.flatMap_append]
 exact h2
structure CPI (w : World) (u : Us) (l : List (List UInt8)) (W : World) : Prop where
 us : Blk W w.heap.size #[.int .i64 u.u,.int .i64 u.g,.string u.data] 70
 o : ∃ v,Blk W (w.heap.size + 2) #[v] 38∧OS W (w.heap.size + 1) v l
 below : Below w.heap.size w W
section
variable {w W W' : World} {u : Us} {l : List (List UInt8)}
theorem CPI.keep (h : CPI w u l W) (hb : Below W.heap.size W W') : CPI w u l W':=by
 obtain⟨v,h1,h2⟩:=h.o
 exact⟨h.us.keep hb,⟨v,h1.keep hb,own_below h2 hb (Nat.le_refl _)⟩,bnext h.below hb⟩
theorem CPI.turn {N : Nat} (h : CPI w u l W) (ht : Turn NoT N notCells W W') (hN : w.heap.size≤N) : CPI w u l W':=by
 obtain⟨v,h1,h2⟩:=h.o
 refine ⟨blk_tN h.us ht,⟨v,blk_tN h1 ht,own_turn h2 (fun k hk=>?_)⟩,below_tN h.below ht hN (Nat.le_refl _)⟩
 obtain⟨-,cur,hc⟩:=own_obj1 h2 hk
 exact (ht.block k _ hc (fun h=>h) (fun _=>rfl)).trans hc.symm
theorem CPI.push (h : CPI w u l W) {v : Value} (hv : Blk W (w.heap.size + 2) #[v] 38) (ns : List (List UInt8)) (hn : 0 < ns.length) (hl : l.length + ns.length≤1000) (hW : w.heap.size + 3≤W.heap.size) {w4 : World} (hk : KT (TK w4) w4 W) :
  ∃ g c W1,(Builtin.append_ #[38,38] 38 #[v,.slice (some ⟨W.heap.size,0,none⟩) ns.length ns.length]).run Tryz.prog (W.alloc (.cells (ns.flatMap encS).toArray 9))=.ok (.slice (some ⟨g,0,none⟩) (l.length + ns.length) c) W1∧
   Blk W1 (w.heap.size + 2) #[v] 38∧Blk W1 w.heap.size #[.int .i64 u.u,.int .i64 u.g,.string u.data] 70∧
   CPI w u (l ++ ns) (W1.setCell ⟨w.heap.size + 2,0,none⟩ (.slice (some ⟨g,0,none⟩) (l.length + ns.length) c))∧
   KeepsOthers W (W1.setCell ⟨w.heap.size + 2,0,none⟩ (.slice (some ⟨g,0,none⟩) (l.length + ns.length) c))∧KT (TK w4) w4 (W1.setCell ⟨w.heap.size + 2,0,none⟩ (.slice (some ⟨g,0,none⟩) (l.length + ns.length) c)):=by
 obtain⟨v',h1,h2⟩:=h.o
 obtain rfl : v'=v:=by
  unfold Blk at h1 hv
  rw [h1] at hv
  injection hv with hv
  injection hv with hv
  injection hv with hv
  injection hv with hv
 obtain⟨g,c,W1,k1,k2,k3⟩:=h2.appN ns hn (by omega) (by omega)
 have hu:=own_blk h2 (by decide) h.us k3
 have ho:=own_blk h2 (by decide) h1 k3
 have hb : Below w.heap.size w W1:=h.below.trans (k3.below (fun k hk=>by have:=(own_obj1 h2 hk).1;omega) (by omega))
 have hm : Mod (fun k=>k=w.heap.size + 2) W1 (W1.setCell ⟨w.heap.size + 2,0,none⟩ (.slice (some ⟨g,0,none⟩) (l.length + ns.length) c)):=(Mod.refl (fun k=>k=w.heap.size + 2) W1).setCell (a:=⟨w.heap.size + 2,0,none⟩) (.inl rfl) _
 have hs1:=k3.size
 refine ⟨g,c,W1,k1,ho,hu,⟨hu.mod hm (by omega),⟨_,ho.set 0 _,?_⟩,hb.trans (hm.below (fun k hk=>by omega) (by omega))⟩,?_,?_⟩
 ·refine own_mod (by rw [List.length_append];exact (by unfold OS at k2;rw [List.length_append] at k2;exact k2)) hm (fun k hk he=>?_)
  obtain⟨-,cur,hc⟩:=own_obj1 k2 (by simpa using he)
  subst hk
  unfold Blk at ho
  rw [ho] at hc
  injection hc with hc
  injection hc with e1 e2 e3
  revert e2
  decide
 ·exact (keeps_mod1 k3 (fun k hk=>by obtain ⟨-,cur,hc⟩:=own_obj1 h2 hk;exact ⟨_,_,_,hc⟩)).trans (KeepsOthers.setCell _ _ _)
 ·refine (hk.trans (KT.of_mod k3 (fun k h=>Nat.lt_of_lt_of_le (tk_lt h) hk.1) (fun k h hv=>?_))).trans (KT.of_mod hm (fun k h=>Nat.lt_of_lt_of_le (tk_lt h) (Nat.le_trans hk.1 hs1)) (fun k h he=>?_))
  ·obtain ⟨-,cur,hc⟩:=own_obj1 h2 hv
   exact tk_not hk hc (by rfl) h
  ·subst he
   exact tk_not hk h1 (by rfl) h
end
end Go.Proofs.YtihdbncoijhihaaGreatDoor
namespace Go.Proofs.YtihdbncoijhihaaGreatDoor
open Go.RowKit
theorem shared_below (s id : ByteArray) : belowB s nShared ++ ByteArray.mk #[47] ++ id=belowB (belowB s nShared) id:=by
 rw [← below_str (belowB s nShared) id]
 congr 2
 have h : (belowB s nShared).data.toList=(trimL s.data.toList ++ [47,46,84,114,97,115]) ++ [104]:=by
  unfold belowB str nShared
  simp
 rw [h,trimL_snoc,if_neg (by decide),← h,str_of]
section
variable {w w' : World} {pf : Nat} {R : Rf} {S : Fs}
set_option maxRecDepth 100000 in
set_option maxHeartbeats 8000000 in
theorem rpaths_any (h : RfAt w pf R S) {N : Nat} (hk : FsOk S N) (hp : Pl S) (hl : S.ns.length≤200) (hd : R.dd=.bool false) (u : Us) (ht : u.data.size≤100000) (hu0 : -9223372036854775808≤u.u) (hu1 : u.u≤9223372036854775807) :
  Calls Tryz.prog 40 #[.pointer (some ⟨pf,0,none⟩),.agg #[.int .i64 u.u,.int .i64 u.g,.string u.data]] w fun e w'=>∃ v,e=.returned v∧OS w' w.heap.size v ((S.pathsF false u).map fun s=>s.data.toList)∧Below w.heap.size w w':=by
 have hX:=Blk.new w #[.int .i64 u.u,.int .i64 u.g,.string u.data] 70
 have hbX:=balloc (Below.refl w.heap.size w) (.cells #[.int .i64 u.u,.int .i64 u.g,.string u.data] 70)
 have HD:=Lib.hid (fun w1 (hb1 : Below w.heap.size w w1)=>rdata_any (h.keep hb1) hk hd u ht)
 have HRo:=Lib.hid (fun w1 (hb1 : Below w.heap.size w w1) d=>rroot_any (h.keep hb1) d)
 have HWh:=Lib.hid (fun w1 (hb1 : Below w.heap.size w w1) no=>rwhere_any (h.keep hb1) hk hp (by omega) no)
 have HDc:=Lib.hid (fun w=>rdec_any u.u w hu0 hu1)
 have HSz:=Lib.hid (fun k s (hs : S.place_ k=some s)=>show s.size≤60000 from by
  have h1:=place_size hp hs
  have h3 : 256 * S.ns.length≤256 * 200:=Nat.mul_le_mul (Nat.le_refl _) hl
  omega)
 obtain⟨da,dc,hdv,hdc1,hdc2⟩:=h.dform
 have hblk:=h.blk
 rw [hdv] at hblk
 obtain⟨pc,-,pz⟩:=hblk.facts
 have HPC:=Lib.hid (fun w1 (hb1 : Below w.heap.size w w1)=>show w1.cell? ⟨pf,1,none⟩=some (.slice da S.ds.length dc) from (hb1.cell (p:=⟨pf,1,none⟩) pz).trans (pc 1))
 have HAll:=Lib.hid (show (S.pathsF false u).map (fun s=>s.data.toList)=(S.homeP false u).map (fun s=>s.data.toList) ++ (S.topsK S.ds.length).flatMap (fun x=>(pathP u x).map fun s=>s.data.toList) by unfold Fs.pathsF;rw [List.map_append,List.map_flatMap];rfl)
 have hd8:=hk.d8
 generalize (S.pathsF false u).map (fun s=>s.data.toList)=out at HAll ⊢
 have HH:=Lib.hid (show (S.homeP false u).map (fun s=>s.data.toList)=if (S.dataF false u).2=0 then (match S.place_ (S.dataF false u).1 with | some s=>[(belowB s nHome).data.toList] | none=>[]) else [] by
  unfold Fs.homeP
  split
  ·cases S.place_ (S.dataF false u).1 <;> rfl
  ·rfl)
 generalize (S.homeP false u).map (fun s=>s.data.toList)=L0 at HAll HH
 generalize S.dataF false u=r at HD HH
 obtain⟨no,e1⟩:=r
 dsimp only at HD HH
 have hid : (str (decL u.u)).size≤21:=by
  rw [str_size]
  exact (decL_len u.u hu0 hu1).1
 have HPP:=Lib.hid (fun (x : Int × ByteArray)=>show (pathP u x).map (fun s=>s.data.toList)=[(belowB x.2 nShared ++ ByteArray.mk #[47] ++ str (decL u.u)).data.toList,(belowB x.2 (ByteArray.mk #[46,84,114,97,115,104,45] ++ str (decL u.u))).data.toList] by rw [shared_below];rfl)
 generalize str (decL u.u)=id at HDc hid HPP
 clear h hk hp hl hd hblk pc pz hdv ht
 go_enter Tryz.func40,Tryz.ntmps40
 go_upto_region 1 with fail
 generalize w.alloc (.cells #[.int .i64 u.u,.int .i64 u.g,.string u.data] 70)=w0 at hX hbX ⊢
 have HX:=Lib.hid hX
 have HB0:=Lib.hid hbX
 obtain⟨xc,xf,xz⟩:=hX.facts
 clear hX hbX
 go_wp2_with fail
 refine (HD.out _ HB0.out).mono ?_
 rintro e w1 ⟨rfl,hb1⟩
 have HB1:=Lib.hid (bnext HB0.out hb1)
 have HX1:=Lib.hid (HX.out.keep hb1)
 clear hb1 xc xf xz
 go_upto_if 20 with fail
 go_cut [5] (fun t5 wx=>OS wx w.heap.size t5 L0∧L0.length≤1∧Below w1.heap.size w1 wx)
 case first=>
  by_cases h0 : e1=0
  ·subst h0
   have HH1:=Lib.hid (HH.out.trans (if_pos rfl))
   have HWk:=Lib.hid (HWh.out _ HB1.out no)
   unfold whereV at HWk
   cases hpl : S.place_ no with
   | none=>
    rw [hpl] at HH1 HWk
    clear hpl
    go_wp2_with fail
    refine HWk.out.mono ?_
    rintro e w2 ⟨rfl,hb2⟩
    have HB2:=Lib.hid hb2
    clear hb2
    go_wp2_with fail
    go_meet
    rw [HH1.out]
    exact⟨OS.nil _ _,by simp,HB2.out⟩
   | some s=>
    have hss:=HSz.out _ _ hpl
    rw [hpl] at HH1 HWk
    have HP0:=Lib.hid (show L0=[(belowB s nHome).data.toList] from HH1.out)
    have HBl:=Lib.hid (fun w=>rbelow_any s nHome w (by omega) (by decide))
    clear hpl
    obtain⟨t,htb⟩ : ∃ t,belowB s nHome=t:=⟨_,rfl⟩
    rw [htb] at HP0 HBl
    unfold nHome at HBl
    clear htb
    go_wp2_with fail
    refine HWk.out.mono ?_
    rintro e w2 ⟨rfl,hb2⟩
    have HB2:=Lib.hid hb2
    clear hb2
    go_wp2_with fail
    refine (HBl.out _).mono ?_
    rintro e w3 ⟨rfl,rfl⟩
    obtain⟨g,cap,W,k1,k2,k3,-,k5,-⟩:=(OS.nil w3 w.heap.size).appM t.data.toList (by decide) (Nat.le_trans HB1.out.size HB2.out.size)
    rw [str_of] at k1
    have HA:=Lib.hid k1
    have HZ:=Lib.hid (And.intro k2 k5)
    clear k1 k2 k3 k5
    go_wp2_with (at_builtin;refine wpList_app_run rfl rfl rfl rfl HA.out ?_)
    go_meet
    rw [HP0.out]
    exact⟨HZ.out.1,by simp,HB2.out.trans (HZ.out.2.below (fun k hk=>by cases hk) HB2.out.size)⟩
  ·have h0' : (e1 == 0)=false:=by simpa using h0
   have HH1:=Lib.hid (HH.out.trans (if_neg h0))
   clear h0
   go_wp2_with fail
   go_meet
   rw [HH1.out]
   exact⟨OS.nil _ _,by simp,Below.refl _ _⟩
 case rest=>
  obtain⟨hO2,hL1,hb2⟩:=hcut
  generalize wc=w2 at hO2 hb2 ⊢
  have HO2:=Lib.hid hO2
  have HL1:=Lib.hid hL1
  have HB2:=Lib.hid (HB1.out.trans (hb2.mono HB1.out.size))
  have HX2:=Lib.hid (HX1.out.keep hb2)
  clear hO2 hL1 hb2
  go_wp2_with fail
  go_loopw [5,10] (fun t5 t10 wr=>∃ j : Nat,j≤S.ds.length∧t10=.int .i64 ((j : Int) + 1)∧OS wr w.heap.size t5 (L0 ++ (S.topsK j).flatMap (fun x=>(pathP u x).map fun s=>s.data.toList))∧Blk wr w.heap.size #[.int .i64 u.u,.int .i64 u.g,.string u.data] 70∧Below w.heap.size w wr) (fun _ t10 _=>S.ds.length + 1 - (intOf t10).toNat)
  case atStart=>exact ⟨0,Nat.zero_le _,rfl,by simpa [Fs.topsK] using HO2.out,HX2.out,HB2.out⟩
  case round=>
   obtain⟨j,hj,rfl,hO,hX,hb⟩:=hrel
   have hOl : (L0 ++ (S.topsK j).flatMap (fun x=>(pathP u x).map fun s=>s.data.toList)).length≤20:=by
    rw [List.length_append]
    have h1 : ((S.topsK j).flatMap (fun x=>(pathP u x).map fun s=>s.data.toList)).length=(S.topsK j).length * 2:=by
     generalize S.topsK j=l
     clear hO hX hb
     induction l with
     | nil=>rfl
     | cons y l ih=>rw [List.flatMap_cons,List.length_append,ih,HPP.out];simp;omega
    have h2:=topsK_len S j
    have h3:=HL1.out
    omega
   have HK:=Lib.hid (topsK_succ S j)
   obtain⟨lj,hlj⟩ : ∃ l,L0 ++ (S.topsK j).flatMap (fun x=>(pathP u x).map fun s=>s.data.toList)=l:=⟨_,rfl⟩
   have HLj:=Lib.hid hlj
   rw [hlj] at hO hOl
   have HO:=Lib.hid hO
   have HXr:=Lib.hid hX
   have HB:=Lib.hid hb
   have pc1:=HPC.out _ hb
   clear hO hX hb hlj
   by_cases hlt : j < S.ds.length
   ·have hlt2 : (j : Int) + 1≤(S.ds.length : Int):=by omega
    have HAt:=Lib.hid (show S.topAt j=(S.place_ (S.root ((j : Int) + 1))).map fun s=>(S.root ((j : Int) + 1),s) from rfl)
    have HRo1:=Lib.hid (HRo.out wr HB.out ((j : Int) + 1))
    go_wp2_with fail
    refine HRo1.out.mono ?_
    rintro e w4 ⟨rfl,rfl⟩
    have HWh1:=Lib.hid (HWh.out _ HB.out (S.root ((j : Int) + 1)))
    unfold whereV at HWh1
    clear pc1
    go_wp2_with fail
    refine HWh1.out.mono ?_
    rintro e w5 ⟨rfl,hb5⟩
    have HB5:=Lib.hid (bnext HB.out hb5)
    have HO5:=Lib.hid (own_below HO.out hb5 (Nat.le_refl _))
    have HX5:=Lib.hid (HXr.out.keep hb5)
    clear hb5
    cases hpl : S.place_ (S.root ((j : Int) + 1)) with
    | none=>
     rw [hpl] at HAt
     have HLn:=Lib.hid (show L0 ++ (S.topsK (j + 1)).flatMap (fun x=>(pathP u x).map fun s=>s.data.toList)=lj by rw [HK.out,HAt.out,← HLj.out];simp)
     clear hpl
     go_wp2_with fail
     go_roundw
     case measure=>simp [intOf];omega
     case rel=>exact ⟨j + 1,by omega,by go_num,by rw [HLn.out];exact HO5.out,HX5.out,HB5.out⟩
    | some s=>
     have hss:=HSz.out _ _ hpl
     rw [hpl] at HAt
     have HLn:=Lib.hid (show L0 ++ (S.topsK (j + 1)).flatMap (fun x=>(pathP u x).map fun s=>s.data.toList)=(lj ++ [(belowB s nShared ++ ByteArray.mk #[47] ++ id).data.toList]) ++ [(belowB s (ByteArray.mk #[46,84,114,97,115,104,45] ++ id)).data.toList] by
      rw [HK.out,HAt.out,← HLj.out,List.flatMap_append,List.append_assoc,List.append_assoc]
      show L0 ++ (_ ++ ((pathP u (S.root ((j : Int) + 1),s)).map (fun s=>s.data.toList) ++ []))=_
      rw [HPP.out,List.append_nil]
      simp)
     have z1:=below_size s nShared
     have hsh : nShared.size=6:=rfl
     have HC1:=Lib.hid (fun w=>rbelow_any s nShared w (by omega) (by decide))
     obtain⟨s1,hs1'⟩ : ∃ t,belowB s nShared=t:=⟨_,rfl⟩
     rw [hs1'] at z1 HC1 HLn
     have hcat : (ByteArray.mk #[46,84,114,97,115,104,45] ++ id).size≤100:=by
      rw [ByteArray.size_append]
      show 7 + id.size≤100
      omega
     have HC3:=Lib.hid (fun w=>rbelow_any s (ByteArray.mk #[46,84,114,97,115,104,45] ++ id) w (by omega) (by omega))
     obtain⟨s3,hs3'⟩ : ∃ t,belowB s (ByteArray.mk #[46,84,114,97,115,104,45] ++ id)=t:=⟨_,rfl⟩
     rw [hs3'] at HC3 HLn
     unfold nShared at HC1
     have hn1 : s1.size≤70000:=by omega
     have hcat2 : (s1 ++ ByteArray.mk #[47]).size=s1.size + 1:=by rw [ByteArray.size_append];rfl
     clear hpl hs1' hs3' z1 hsh
     obtain⟨xc,xf,xz⟩:=HX5.out.facts
     go_upto_region 12 with fail
     obtain⟨q,hq⟩ : ∃ t,s1 ++ ByteArray.mk #[47] ++ id=t:=⟨_,rfl⟩
     rw [hq] at HLn
     have hno1 : ¬ 9223372036854775807 < s1.size + 1:=by omega
     have hno2 : ¬ 9223372036854775807 < s1.size + 1 + id.size:=by omega
     have hno3 : ¬ 9223372036854775807 < 7 + id.size:=by omega
     go_cut [5] (fun t5 wx=>OS wx w.heap.size t5 (lj ++ [q.data.toList])∧Blk wx w.heap.size #[.int .i64 u.u,.int .i64 u.g,.string u.data] 70∧Below w.heap.size w wx)
     case first=>
      go_wp2_with fail
      go_region_held3 (fun w'=>w'.cell? ⟨w.heap.size,0,none⟩=some (.int .i64 u.u)) (first | with_reducible assumption | exact xc 0)
       ((first
        | (go_at_call 83;((with_reducible refine (HC1.out _).mono ?_);rintro e w6 ⟨rfl,rfl⟩))
        | (go_at_call 104;((with_reducible refine (HDc.out _).mono ?_);rintro e w7 ⟨rfl,hb7⟩;have hb8:=((Below.refl w5.heap.size w5).drew).trans hb7;obtain ⟨g,cap,W9,k1,k2,-,-,k5,-⟩:=OS.appM (own_below HO5.out hb8 (Nat.le_refl _)) q.data.toList (by omega) (Nat.le_trans HB5.out.size hb8.size);rw [str_of] at k1;have HR9:=Lib.hid k1;have hS7 : w7.cell? ⟨w.heap.size,0,none⟩=some (.int .i64 u.u):=(HX5.out.keep hb8).cell 0;have hSA : (w7.alloc (.cells #[.string q] 9)).cell? ⟨w.heap.size,0,none⟩=some (.int .i64 u.u):=((HX5.out.keep hb8).old (.cells #[.string q] 9)).cell 0;have HX9:=Lib.hid (own_blk (own_below HO5.out hb8 (Nat.le_refl _)) (by decide) (HX5.out.keep hb8) k5);have hS9 : W9.cell? ⟨w.heap.size,0,none⟩=some (.int .i64 u.u):=HX9.out.cell 0;have HZ:=Lib.hid (And.intro k2 (And.intro k5 hb8));clear k1 k2 k5))
        | (refine step_app_run (by rfl) (by rfl) (by rfl) (by rfl) HR9.out ?_)))
      all_goals
       go_wp2_with fail
       go_meet
       exact⟨HZ.out.1,HX9.out,(bnext HB5.out HZ.out.2.2).trans (HZ.out.2.1.below (fun k hk=>(own_obj1 (own_below HO5.out HZ.out.2.2 (Nat.le_refl _)) hk).1) (Nat.le_trans HB5.out.size HZ.out.2.2.size))⟩
     case rest=>
      obtain⟨hO6,hX6,hb6⟩:=hcut
      generalize wc=w6 at hO6 hX6 hb6 ⊢
      have HO6:=Lib.hid hO6
      have HX6:=Lib.hid hX6
      have HB6:=Lib.hid hb6
      clear hO6 hX6 hb6 xc xf xz
      obtain⟨xc,xf,xz⟩:=HX6.out.facts
      go_wp2_with fail
      refine (HDc.out _).mono ?_
      rintro e w7 ⟨rfl,hb7⟩
      have HX7:=Lib.hid (HX6.out.keep hb7)
      have HB7:=Lib.hid (bnext HB6.out hb7)
      obtain⟨g,cap,W9,k1,k2,-,-,k5,-⟩:=OS.appM (own_below HO6.out hb7 (Nat.le_refl _)) s3.data.toList (by simp;omega) HB7.out.size
      rw [str_of] at k1
      have HR9:=Lib.hid k1
      have HX9:=Lib.hid (own_blk (own_below HO6.out hb7 (Nat.le_refl _)) (by decide) HX7.out k5)
      have HB9:=Lib.hid (HB7.out.trans (k5.below (fun k hk=>(own_obj1 (own_below HO6.out hb7 (Nat.le_refl _)) hk).1) HB7.out.size))
      have HO9:=Lib.hid k2
      clear k1 k2 k5 hb7 xc xf xz
      go_wp2_with fail
      refine (HC3.out _).mono ?_
      rintro e w8 ⟨rfl,rfl⟩
      go_wp2_with (at_builtin;refine wpList_app_run rfl rfl rfl rfl HR9.out ?_)
      go_roundw
      case measure=>simp [intOf];omega
      case rel=>exact ⟨j + 1,by omega,by go_num,by rw [HLn.out];have h:=HO9.out;simp only [List.length_append,List.length_cons,List.length_nil] at h;exact h,HX9.out,HB9.out⟩
   ·obtain rfl : j=S.ds.length:=by omega
    have hlt2 : ¬ (S.ds.length : Int) + 1≤(S.ds.length : Int):=by omega
    have HE:=Lib.hid (show out=lj by rw [HAll.out,HLj.out])
    go_wp2_with fail
    go_ret
    rw [HE.out]
    exact⟨_,rfl,HO.out,HB.out⟩
end
end Go.Proofs.YtihdbncoijhihaaGreatDoor
