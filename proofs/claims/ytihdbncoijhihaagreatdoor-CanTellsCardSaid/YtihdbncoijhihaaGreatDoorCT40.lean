import Derived.Test.YtihdbncoijhihaaGreatDoorCT39
import Derived.Test.YtihdbncoijhihaaGreatDoorCT32
set_option linter.unusedVariables false
set_option linter.unusedSimpArgs false
namespace Go.Proofs.YtihdbncoijhihaaGreatDoor
open Go.RowKit
theorem slice_row {α : Type} {enc : α→List Value} {w : World} {sz n c : Nat} {a : Option Addr} {l : List α} (hl : ∀ x,(enc x).length=sz) (h : SliceAt w sz (fun cs x=>cs=enc x) a n c l) (k : Nat) (hk : k < l.length) :
  ∃ b off,a=some ⟨b,off,none⟩∧b < w.heap.size∧∀ j (hj : j < sz),w.cell? ⟨b,off + k * sz + j,none⟩=some ((enc l[k])[j]'(by rw [hl];exact hj)):=by
 obtain⟨h1,-,-,h0 | ⟨b,off,he,hb,hel⟩⟩:=h
 ·omega
 ·obtain ⟨cs,k1,k2,k3⟩:=hel k hk
  subst k2
  exact⟨b,off,he,hb,fun j hj=>k3 j (by rw [hl];exact hj)⟩
def cnC (x : Cn) : List Value:=[.string x.path,.int .i64 x.dir,.int .i64 x.info,.int .i64 x.files,.int .i64 x.out,.int .i64 x.way,.string x.top]
theorem cnC_len (x : Cn) : (cnC x).length=7:=rfl
def cnQ (cs : List Value) (x : Cn) : Prop:=cs=cnC x
def Cn.v (x : Cn) : Value:=.agg #[.string x.path,.int .i64 x.dir,.int .i64 x.info,.int .i64 x.files,.int .i64 x.out,.int .i64 x.way,.string x.top]
theorem can_info : (Tryz.prog.info? 93).map (fun i=>(i.zero,i.size,i.bytes))=some (some (.agg #[.string ByteArray.empty,.int .i64 0,.int .i64 0,.int .i64 0,.int .i64 0,.int .i64 0,.string ByteArray.empty]),7,72):=by kernel_rfl
def OCn (w : World) (base : Nat) (v : Value) (l : List Cn) : Prop:=w.ownsRow base 93 7 v l.length (l.flatMap cnC)
theorem OCn.nil (w : World) (base : Nat) : OCn w base (.slice none 0 0) []:=⟨rfl,.inl ⟨rfl,rfl⟩⟩
theorem OCn.at {w : World} {base c : Nat} {a : Option Addr} {l : List Cn} (h : OCn w base (.slice a l.length c) l) : SliceAt w 7 cnQ a l.length c l:=own_slice (R:=cnQ) (by omega) cnC_len (fun _=>rfl) h
theorem OCn.keep {w w' : World} {base : Nat} {v : Value} {l : List Cn} (h : OCn w base v l) (hb : Below w.heap.size w w') : OCn w' base v l:=own_below h hb (Nat.le_refl _)
theorem OCn.app {w : World} {base : Nat} {v : Value} {l : List Cn} (h : OCn w base v l) (x : Cn) (hn : l.length≤1000000) (hb : base≤w.heap.size) :
  ∃ g cap W,(Builtin.append_ #[85,85] 85 #[v,.slice (some ⟨w.heap.size,0,none⟩) 1 1]).run Tryz.prog (w.alloc (.cells #[.string x.path,.int .i64 x.dir,.int .i64 x.info,.int .i64 x.files,.int .i64 x.out,.int .i64 x.way,.string x.top] 93))=.ok (.slice (some ⟨g,0,none⟩) (l.length + 1) cap) W∧
   OCn W base (.slice (some ⟨g,0,none⟩) (l.length + 1) cap) (l ++ [x])∧Mod (fun k=>v.ownBlock=some k) w W:=by
 obtain⟨g,cap,W,h1,h2,h3,-⟩:=own_app1 (SE:=85) Tryz.underlying85 can_info rfl (by decide) h (cnC x) rfl (by intro u hu;simp [cnC] at hu;rcases hu with rfl | rfl | rfl | rfl | rfl | rfl | rfl <;> rfl) hn (by decide) hb
 refine ⟨g,cap,W,h1,?_,h3⟩
 unfold OCn
 rw [List.length_append,List.length_singleton,List.flatMap_append]
 exact (by simpa using h2)
theorem cn_cells {w : World} {n c : Nat} {a : Option Addr} {l : List Cn} (h : SliceAt w 7 cnQ a n c l) (k : Nat) (hk : k < l.length) : ∃ b off,a=some ⟨b,off,none⟩∧b < w.heap.size∧
  w.cell? ⟨b,off + k * 7,none⟩=some (.string l[k].path)∧w.cell? ⟨b,off + k * 7 + 1,none⟩=some (.int .i64 l[k].dir)∧w.cell? ⟨b,off + k * 7 + 2,none⟩=some (.int .i64 l[k].info)∧w.cell? ⟨b,off + k * 7 + 3,none⟩=some (.int .i64 l[k].files)∧
  w.cell? ⟨b,off + k * 7 + 4,none⟩=some (.int .i64 l[k].out)∧w.cell? ⟨b,off + k * 7 + 5,none⟩=some (.int .i64 l[k].way)∧w.cell? ⟨b,off + k * 7 + 6,none⟩=some (.string l[k].top):=by
 obtain⟨b,off,ha,hb,hc⟩:=slice_row cnC_len h k hk
 exact⟨b,off,ha,hb,hc 0 (by decide),hc 1 (by decide),hc 2 (by decide),hc 3 (by decide),hc 4 (by decide),hc 5 (by decide),hc 6 (by decide)⟩
set_option maxRecDepth 100000 in
set_option maxHeartbeats 1000000 in
theorem chas_any (l : List Cn) (a : Option Addr) (n c : Nat) (dir : Int) (w : World) (h : SliceAt w 7 cnQ a n c l) :
  Calls Tryz.prog 101 #[.slice a n c,.int .i64 dir] w fun e w'=>e=.returned (.bool (l.any (fun y=>y.dir == dir)))∧Below w.heap.size w w':=by
 obtain rfl : l.length=n:=h.1
 have hc1:=h.2.1
 have hc2:=h.2.2.1
 have HE:=Lib.hid h
 have HS:=Lib.hid (show l.any (fun y=>y.dir == dir)=(l.drop 0).any (fun y=>y.dir == dir) from rfl)
 generalize l.any (fun y=>y.dir == dir)=out at HS ⊢
 clear h
 go_enter Tryz.func101,Tryz.ntmps101
 go_wp2_with fail
 go_loopw [9] (fun t9 wr=>∃ k : Nat,k≤l.length∧t9=.int .i64 k∧out=(l.drop k).any (fun y=>y.dir == dir)∧Below w.heap.size w wr) (fun t9 _=>l.length - (intOf t9).toNat)
 case atStart=>exact ⟨0,Nat.zero_le _,rfl,HS.out,Below.refl _ _⟩
 case round=>
  obtain⟨k,hk,rfl,hf,hb⟩:=hrel
  by_cases hlt : k < l.length
  ·obtain ⟨b,off,rfl,hbl,c0,c1,c2,c3,c4,c5,c6⟩:=cn_cells (SliceAt.below HE.out hb (Nat.le_refl _)) k hlt
   rw [List.drop_eq_getElem_cons hlt,List.any_cons] at hf
   have HF:=Lib.hid hf
   have HB:=Lib.hid hb
   generalize l[k]=x at c0 c1 c2 c3 c4 c5 c6 HF
   clear hf hb
   by_cases hx : x.dir=dir
   ·have hq : (x.dir == dir)=true:=by simpa using hx
    have HR:=Lib.hid (show out=true by rw [HF.out,hq];rfl)
    clear hx
    go_wp2_with fail
    go_ret
    exact⟨by rw [HR.out];rfl,balloc HB.out _⟩
   ·have hq : (x.dir == dir)=false:=by simpa using hx
    have HR:=Lib.hid (show out=(l.drop (k + 1)).any (fun y=>y.dir == dir) by rw [HF.out,hq];rfl)
    clear hx
    go_wp2_with fail
    go_roundw
    case measure=>simp [intOf];omega
    case rel=>exact ⟨k + 1,by omega,by go_num,HR.out,balloc HB.out _⟩
  ·obtain rfl : k=l.length:=by omega
   rw [List.drop_length] at hf
   have HR:=Lib.hid (show out=false from hf)
   have HB:=Lib.hid hb
   clear hf hb
   go_wp2_with fail
   go_ret
   exact⟨by rw [HR.out];rfl,HB.out⟩
set_option maxHeartbeats 4000000 in
theorem Blk.set7 {w : World} {B : Nat} {x0 x1 x2 x3 x4 x5 x6 v0 v1 v2 v3 v4 v5 v6 : Value} {T : TypeId} (h : Blk w B #[x0,x1,x2,x3,x4,x5,x6] T) : Blk (((((((w.setCell ⟨B,0,none⟩ v0).setCell ⟨B,1,none⟩ v1).setCell ⟨B,2,none⟩ v2).setCell ⟨B,3,none⟩ v3).setCell ⟨B,4,none⟩ v4).setCell ⟨B,5,none⟩ v5).setCell ⟨B,6,none⟩ v6) B #[v0,v1,v2,v3,v4,v5,v6] T:=
 ((((((h.set 0 v0).set 1 v1).set 2 v2).set 3 v3).set 4 v4).set 5 v5).set 6 v6
theorem below_set7 {N : Nat} {w0 w : World} {B : Nat} {v0 v1 v2 v3 v4 v5 v6 : Value} (h : Below N w0 w) (hB : N≤B) : Below N w0 (((((((w.setCell ⟨B,0,none⟩ v0).setCell ⟨B,1,none⟩ v1).setCell ⟨B,2,none⟩ v2).setCell ⟨B,3,none⟩ v3).setCell ⟨B,4,none⟩ v4).setCell ⟨B,5,none⟩ v5).setCell ⟨B,6,none⟩ v6):=
 ((((((h.setCell hB v0).setCell hB v1).setCell hB v2).setCell hB v3).setCell hB v4).setCell hB v5).setCell hB v6
set_option maxRecDepth 100000 in
set_option maxHeartbeats 1000000 in
theorem copen_results {tmps : Array Value} {W : World} {B : Nat} {x : Cn} {e : Int} (hb : Blk W B #[.string x.path,.int .i64 x.dir,.int .i64 x.info,.int .i64 x.files,.int .i64 x.out,.int .i64 x.way,.string x.top] 93)
  (h8 : tmps.getD 6 undef=.pointer (some ⟨B,0,none⟩)) (h9 : tmps.getD 7 undef=.int .i64 e) : (results Tryz.f37 tmps).run Tryz.prog W=.ok (.tuple #[x.v,.int .i64 e]) W:=by
 have q0:=hb.cell 0
 have q1:=hb.cell 1
 have q2:=hb.cell 2
 have q3:=hb.cell 3
 have q4:=hb.cell 4
 have q5:=hb.cell 5
 have q6:=hb.cell 6
 rw [Array.getD_eq_getD_getElem?] at h8 h9
 simp [results,Tryz.results37,go_sem,Cn.v,h8,h9,q0,q1,q2,q3,q4,q5,q6]
theorem part_idx (s0 s1 s2 s3 : ByteArray) (w : World) : (Instr.index 202 (.agg #[.string s0,.string s1,.string s2,.string s3]) (.int .i64 0)).run Tryz.prog w=.ok (.string s0) w∧(Instr.index 202 (.agg #[.string s0,.string s1,.string s2,.string s3]) (.int .i64 1)).run Tryz.prog w=.ok (.string s1) w∧
  (Instr.index 202 (.agg #[.string s0,.string s1,.string s2,.string s3]) (.int .i64 2)).run Tryz.prog w=.ok (.string s2) w∧(Instr.index 202 (.agg #[.string s0,.string s1,.string s2,.string s3]) (.int .i64 3)).run Tryz.prog w=.ok (.string s3) w:=by
 refine ⟨?_,?_,?_,?_⟩ <;> first | kernel_rfl | rfl
inductive OpSt (S : Fs) (d : Bool) (c : Cr) (dir : Int) (top : ByteArray) (rd : Cn × Int) : Value→Value→Value→Value→Value→Prop
 | s0 : rd=S.openK4 d c dir top→OpSt S d c dir top rd (.int .i64 0) (.int .i64 0) (.int .i64 0) (.int .i64 0) (.int .i64 0)
 | s1 (i : Int) : rd=S.openK3 d c dir top i→OpSt S d c dir top rd (.int .i64 1) (.int .i64 i) (.int .i64 0) (.int .i64 0) (.int .i64 0)
 | s2 (i f : Int) : rd=S.openK2 d c dir top i f→OpSt S d c dir top rd (.int .i64 2) (.int .i64 i) (.int .i64 f) (.int .i64 0) (.int .i64 0)
 | s3 (i f o : Int) : rd=S.openK1 d c dir top i f o→OpSt S d c dir top rd (.int .i64 3) (.int .i64 i) (.int .i64 f) (.int .i64 o) (.int .i64 0)
 | s4 (i f o y : Int) : rd=S.openK0 dir top i f o y→OpSt S d c dir top rd (.int .i64 4) (.int .i64 i) (.int .i64 f) (.int .i64 o) (.int .i64 y)
section
variable {w w' : World} {pf pw : Nat} {R : Rp} {pv : Value} {Y : Sy}
set_option maxRecDepth 100000 in
set_option maxHeartbeats 8000000 in
theorem copen_any (h : SyAt w pf pw R pv Y) {N : Nat} (hk : FsOk Y.fs N) (hN : N≤999999) (hp : Pl Y.fs) (hl : Y.fs.ns.length≤100000) (u : Us) (p : Plc) :
  Calls Tryz.prog 37 #[.pointer (some ⟨pf,0,none⟩),.agg #[.int .i64 u.u,.int .i64 u.g,.string u.data],.agg #[.int .i64 p.dir,.string p.name,.string p.top]] w fun e w'=>e=.returned (.tuple #[(Y.fs.openF Y.dead u p).1.v,.int .i64 (Y.fs.openF Y.dead u p).2])∧Below w.heap.size w w':=by
 have HO:=Lib.hid (fun w1 (hb1 : Below w.heap.size w w1) dir n=>cown_any (h.keep hb1) hk hN u.u u.g u.data dir n)
 have HWh:=Lib.hid (fun w1 (hb1 : Below w.heap.size w w1) d=>wwhere_any (h.wd.keep hb1) hk hp hl d)
 obtain⟨pc,-,pz⟩:=h.blk.facts
 have HPC:=Lib.hid (fun w1 (hb1 : Below w.heap.size w w1)=>show w1.cell? ⟨pf,0,none⟩=some (.pointer (some ⟨pw,0,none⟩)) from (hb1.cell (p:=⟨pf,0,none⟩) pz).trans (pc 0))
 obtain⟨S,hS⟩ : ∃ S,Y.fs=S:=⟨_,rfl⟩
 obtain⟨b,hd⟩ : ∃ b,Y.dead=b:=⟨_,rfl⟩
 rw [hS,hd] at HO
 rw [hS] at HWh
 rw [hS,hd]
 have HR:=Lib.hid (show S.openF b u p=if (thereV (S.ownF b ⟨u.u,u.g⟩ p.dir p.name)).2≠0 then (cn0,(thereV (S.ownF b ⟨u.u,u.g⟩ p.dir p.name)).2) else S.openK4 b ⟨u.u,u.g⟩ (thereV (S.ownF b ⟨u.u,u.g⟩ p.dir p.name)).1 p.top from rfl)
 generalize S.openF b u p=rd at HR ⊢
 have hUX:=((Blk.new w #[.int .i64 u.u,.int .i64 u.g,.string u.data] 70).old (.cells #[.int .i64 p.dir,.string p.name,.string p.top] 97)).old (.cells #[.string ⟨#[]⟩,.int .i64 0,.int .i64 0,.int .i64 0,.int .i64 0,.int .i64 0,.string ⟨#[]⟩] 93)
 have hPX : Blk (((w.alloc (.cells #[.int .i64 u.u,.int .i64 u.g,.string u.data] 70)).alloc (.cells #[.int .i64 p.dir,.string p.name,.string p.top] 97)).alloc (.cells #[.string ⟨#[]⟩,.int .i64 0,.int .i64 0,.int .i64 0,.int .i64 0,.int .i64 0,.string ⟨#[]⟩] 93)) (w.heap.size + 1) #[.int .i64 p.dir,.string p.name,.string p.top] 97:=by
  have:=(Blk.new (w.alloc (.cells #[.int .i64 u.u,.int .i64 u.g,.string u.data] 70)) #[.int .i64 p.dir,.string p.name,.string p.top] 97).old (.cells #[.string ⟨#[]⟩,.int .i64 0,.int .i64 0,.int .i64 0,.int .i64 0,.int .i64 0,.string ⟨#[]⟩] 93)
  rwa [World.size_alloc] at this
 have hRX : Blk (((w.alloc (.cells #[.int .i64 u.u,.int .i64 u.g,.string u.data] 70)).alloc (.cells #[.int .i64 p.dir,.string p.name,.string p.top] 97)).alloc (.cells #[.string ⟨#[]⟩,.int .i64 0,.int .i64 0,.int .i64 0,.int .i64 0,.int .i64 0,.string ⟨#[]⟩] 93)) (w.heap.size + 1 + 1) #[.string ⟨#[]⟩,.int .i64 0,.int .i64 0,.int .i64 0,.int .i64 0,.int .i64 0,.string ⟨#[]⟩] 93:=by
  have:=Blk.new ((w.alloc (.cells #[.int .i64 u.u,.int .i64 u.g,.string u.data] 70)).alloc (.cells #[.int .i64 p.dir,.string p.name,.string p.top] 97)) #[.string ⟨#[]⟩,.int .i64 0,.int .i64 0,.int .i64 0,.int .i64 0,.int .i64 0,.string ⟨#[]⟩] 93
  rwa [World.size_alloc,World.size_alloc] at this
 have hbX:=balloc (balloc (balloc (Below.refl w.heap.size w) (.cells #[.int .i64 u.u,.int .i64 u.g,.string u.data] 70)) (.cells #[.int .i64 p.dir,.string p.name,.string p.top] 97)) (.cells #[.string ⟨#[]⟩,.int .i64 0,.int .i64 0,.int .i64 0,.int .i64 0,.int .i64 0,.string ⟨#[]⟩] 93)
 clear h hk hS hd pc pz hp hl
 go_enter Tryz.func37,Tryz.ntmps37
 go_upto_region 1 with fail
 generalize ((w.alloc (.cells #[.int .i64 u.u,.int .i64 u.g,.string u.data] 70)).alloc (.cells #[.int .i64 p.dir,.string p.name,.string p.top] 97)).alloc (.cells #[.string ⟨#[]⟩,.int .i64 0,.int .i64 0,.int .i64 0,.int .i64 0,.int .i64 0,.string ⟨#[]⟩] 93)=W0 at hUX hPX hRX hbX ⊢
 have HB0:=Lib.hid hbX
 have HU0:=Lib.hid hUX
 have HP0:=Lib.hid hPX
 have HR0:=Lib.hid hRX
 obtain⟨uc,uf,uz⟩:=hUX.facts
 obtain⟨qc,qf,qz⟩:=hPX.facts
 clear hUX hPX hRX hbX
 have HO1:=Lib.hid (HO.out _ HB0.out p.dir p.name)
 generalize S.ownF b ⟨u.u,u.g⟩ p.dir p.name=r at HO1 HR
 obtain⟨no,e1⟩:=r
 dsimp only at HO1
 go_wp2_with fail
 refine HO1.out.mono ?_
 rintro e w1 ⟨rfl,hb1⟩
 have HB1:=Lib.hid (bnext HB0.out hb1)
 have HU1:=Lib.hid (HU0.out.keep hb1)
 have HP1:=Lib.hid (HP0.out.keep hb1)
 have HR1:=Lib.hid (HR0.out.keep hb1)
 have hwz:=HB0.out.size
 obtain⟨rc,rf,rz⟩:=HR1.out.facts
 clear hb1 uc uf uz qc qf qz
 by_cases h0 : e1=0
 ·subst h0
  by_cases hn : no=0
  ·subst hn
   have HE:=Lib.hid (show rd=(cn0,5) by rw [HR.out,thereV_z];rfl)
   go_wp2_with (exact bodyPost_ret (copen_results (x:=cn0) (e:=5) HR1.out.set7 rfl rfl) rfl ⟨by rw [HE.out],below_set7 HB1.out (by omega)⟩)
  ·have hn' : (no == 0)=false:=by simpa using hn
   have HE:=Lib.hid (show rd=S.openK4 b ⟨u.u,u.g⟩ no p.top by rw [HR.out,thereV_0 hn,if_neg (by simp)])
   clear HR HO1
   go_upto_region 7 with fail
   have hAX:=Blk.new w1 #[.int .i64 0,.int .i64 0,.int .i64 0,.int .i64 0] 201
   have hbA:=balloc (Below.refl w1.heap.size w1) (.cells #[.int .i64 0,.int .i64 0,.int .i64 0,.int .i64 0] 201)
   generalize w1.alloc (.cells #[.int .i64 0,.int .i64 0,.int .i64 0,.int .i64 0] 201)=W2 at hAX hbA ⊢
   have HA:=Lib.hid (And.intro hAX hbA)
   have hne1 : w.heap.size + 1 + 1≠w1.heap.size:=by
    have:=HR1.out.lt
    omega
   clear hAX hbA rc rf rz hwz
   go_wp2_with fail
   go_loopw [36] (fun t36 wr=>∃ v0 v1 v2 v3,OpSt S b ⟨u.u,u.g⟩ no p.top rd t36 v0 v1 v2 v3∧Blk wr w1.heap.size #[v0,v1,v2,v3] 201∧Below w1.heap.size w1 wr) (fun t36 _=>4 - (intOf t36).toNat)
   case atStart=>exact ⟨_,_,_,_,.s0 HE.out,HA.out.1,HA.out.2⟩
   case round=>
    obtain⟨v0,v1,v2,v3,hst,hba,hbr⟩:=hrel
    have HAr:=Lib.hid hba
    have HBr:=Lib.hid hbr
    have HBW:=Lib.hid (HB1.out.trans (hbr.mono HB1.out.size))
    have hU:=HU1.out.keepB hbr HU1.out.lt
    have hP:=HP1.out.keepB hbr HP1.out.lt
    have hR:=HR1.out.keepB hbr HR1.out.lt
    have HRr:=Lib.hid hR
    have HPr:=Lib.hid hP
    obtain⟨uc,uf,uz⟩:=hU.facts
    obtain⟨ac,af,az⟩:=hba.facts
    clear hba hbr hU hP hR
    cases hst with
    | s0 hE=>
     have HE1:=Lib.hid hE
     have HOk:=Lib.hid (HO.out _ HBW.out no nInfo)
     have hix:=fun w=>(part_idx nInfo nFiles nOut nWay w).1
     unfold Fs.openK4 at HE1
     generalize S.ownF b ⟨u.u,u.g⟩ no nInfo=r at HOk HE1
     obtain⟨n1,e1⟩:=r
     dsimp only at HOk HE1
     unfold nInfo nFiles nOut nWay at hix
     unfold nInfo at HOk
     clear hE
     go_wp2_with fail
     refine HOk.out.mono ?_
     rintro e w2 ⟨rfl,hb2⟩
     have hA2:=HAr.out.keep hb2
     have hR2:=HRr.out.keep hb2
     have hB2:=bnext HBr.out hb2
     have HA2:=Lib.hid hA2
     have HB2:=Lib.hid hB2
     have HR3:=Lib.hid (hR2.setOther ⟨w1.heap.size,0,none⟩ (.int .i64 n1) hne1.symm)
     have HB3:=Lib.hid (show Below w1.heap.size w1 (w2.setCell ⟨w1.heap.size,0,none⟩ (.int .i64 n1)) from hB2.setCell (Nat.le_refl _) _)
     obtain⟨ac,af,az⟩:=hA2.facts
     obtain⟨rc,rf,rz⟩:=hR2.facts
     clear hb2 hA2 hR2 hB2 uc uf uz
     by_cases h0 : e1=0
     ·subst h0
      by_cases hn1 : n1=0
      ·subst hn1
       have HE2:=Lib.hid (show rd=(cn0,5) by rw [HE1.out,thereV_z];rfl)
       go_wp2_with (exact bodyPost_ret (copen_results (x:=cn0) (e:=5) HR3.out.set7 rfl rfl) rfl ⟨by rw [HE2.out],below_set7 (HB1.out.trans (HB3.out.mono HB1.out.size)) (by omega)⟩)
      ·have hn1' : (n1 == 0)=false:=by simpa using hn1
       have HE2:=Lib.hid (show rd=S.openK3 b ⟨u.u,u.g⟩ no p.top n1 by rw [HE1.out,thereV_0 hn1,if_neg (by simp)])
       clear HE1 hn1
       go_wp2_with fail
       go_roundw
       case measure=>simp [intOf]
       case rel=>exact ⟨_,_,_,_,.s1 n1 HE2.out,HA2.out.set 0 _,HB3.out⟩
     ·have h0' : (e1 == 0)=false:=by simpa using h0
      have h0'' : (e1 != 0)=true:=by simpa using h0
      have HE2:=Lib.hid (show rd=(cn0,e1) by rw [HE1.out,thereV_e n1 h0,if_pos h0])
      clear h0
      go_wp2_with (exact bodyPost_ret (copen_results (x:=cn0) (e:=e1) HR3.out.set7 rfl rfl) rfl ⟨by rw [HE2.out],below_set7 (HB1.out.trans (HB3.out.mono HB1.out.size)) (by omega)⟩)
    | s1 i0 hE=>
     have HE1:=Lib.hid hE
     have HOk:=Lib.hid (HO.out _ HBW.out no nFiles)
     have hix:=fun w=>(part_idx nInfo nFiles nOut nWay w).2.1
     unfold Fs.openK3 at HE1
     generalize S.ownF b ⟨u.u,u.g⟩ no nFiles=r at HOk HE1
     obtain⟨n1,e1⟩:=r
     dsimp only at HOk HE1
     unfold nInfo nFiles nOut nWay at hix
     unfold nFiles at HOk
     clear hE
     go_wp2_with fail
     refine HOk.out.mono ?_
     rintro e w2 ⟨rfl,hb2⟩
     have hA2:=HAr.out.keep hb2
     have hR2:=HRr.out.keep hb2
     have hB2:=bnext HBr.out hb2
     have HA2:=Lib.hid hA2
     have HB2:=Lib.hid hB2
     have HR3:=Lib.hid (hR2.setOther ⟨w1.heap.size,1,none⟩ (.int .i64 n1) hne1.symm)
     have HB3:=Lib.hid (show Below w1.heap.size w1 (w2.setCell ⟨w1.heap.size,1,none⟩ (.int .i64 n1)) from hB2.setCell (Nat.le_refl _) _)
     obtain⟨ac,af,az⟩:=hA2.facts
     obtain⟨rc,rf,rz⟩:=hR2.facts
     clear hb2 hA2 hR2 hB2 uc uf uz
     by_cases h0 : e1=0
     ·subst h0
      by_cases hn1 : n1=0
      ·subst hn1
       have HE2:=Lib.hid (show rd=(cn0,5) by rw [HE1.out,thereV_z];rfl)
       go_wp2_with (exact bodyPost_ret (copen_results (x:=cn0) (e:=5) HR3.out.set7 rfl rfl) rfl ⟨by rw [HE2.out],below_set7 (HB1.out.trans (HB3.out.mono HB1.out.size)) (by omega)⟩)
      ·have hn1' : (n1 == 0)=false:=by simpa using hn1
       have HE2:=Lib.hid (show rd=S.openK2 b ⟨u.u,u.g⟩ no p.top i0 n1 by rw [HE1.out,thereV_0 hn1,if_neg (by simp)])
       clear HE1 hn1
       go_wp2_with fail
       go_roundw
       case measure=>simp [intOf]
       case rel=>exact ⟨_,_,_,_,.s2 i0 n1 HE2.out,HA2.out.set 1 _,HB3.out⟩
     ·have h0' : (e1 == 0)=false:=by simpa using h0
      have h0'' : (e1 != 0)=true:=by simpa using h0
      have HE2:=Lib.hid (show rd=(cn0,e1) by rw [HE1.out,thereV_e n1 h0,if_pos h0])
      clear h0
      go_wp2_with (exact bodyPost_ret (copen_results (x:=cn0) (e:=e1) HR3.out.set7 rfl rfl) rfl ⟨by rw [HE2.out],below_set7 (HB1.out.trans (HB3.out.mono HB1.out.size)) (by omega)⟩)
    | s2 i0 f0 hE=>
     have HE1:=Lib.hid hE
     have HOk:=Lib.hid (HO.out _ HBW.out no nOut)
     have hix:=fun w=>(part_idx nInfo nFiles nOut nWay w).2.2.1
     unfold Fs.openK2 at HE1
     generalize S.ownF b ⟨u.u,u.g⟩ no nOut=r at HOk HE1
     obtain⟨n1,e1⟩:=r
     dsimp only at HOk HE1
     unfold nInfo nFiles nOut nWay at hix
     unfold nOut at HOk
     clear hE
     go_wp2_with fail
     refine HOk.out.mono ?_
     rintro e w2 ⟨rfl,hb2⟩
     have hA2:=HAr.out.keep hb2
     have hR2:=HRr.out.keep hb2
     have hB2:=bnext HBr.out hb2
     have HA2:=Lib.hid hA2
     have HB2:=Lib.hid hB2
     have HR3:=Lib.hid (hR2.setOther ⟨w1.heap.size,2,none⟩ (.int .i64 n1) hne1.symm)
     have HB3:=Lib.hid (show Below w1.heap.size w1 (w2.setCell ⟨w1.heap.size,2,none⟩ (.int .i64 n1)) from hB2.setCell (Nat.le_refl _) _)
     obtain⟨ac,af,az⟩:=hA2.facts
     obtain⟨rc,rf,rz⟩:=hR2.facts
     clear hb2 hA2 hR2 hB2 uc uf uz
     by_cases h0 : e1=0
     ·subst h0
      have HE2:=Lib.hid (show rd=S.openK1 b ⟨u.u,u.g⟩ no p.top i0 f0 n1 by rw [HE1.out,if_neg (by simp)])
      clear HE1
      cases hz : (n1 == 0) with
      | true=>
       go_wp2_with fail
       go_roundw
       case measure=>simp [intOf]
       case rel=>exact ⟨_,_,_,_,.s3 i0 f0 n1 HE2.out,HA2.out.set 2 _,HB3.out⟩
      | false=>
       go_wp2_with fail
       go_roundw
       case measure=>simp [intOf]
       case rel=>exact ⟨_,_,_,_,.s3 i0 f0 n1 HE2.out,HA2.out.set 2 _,HB3.out⟩
     ·have h0' : (e1 == 0)=false:=by simpa using h0
      have h0'' : (e1 != 0)=true:=by simpa using h0
      have HE2:=Lib.hid (show rd=(cn0,e1) by rw [HE1.out,if_pos h0])
      clear h0
      go_wp2_with (exact bodyPost_ret (copen_results (x:=cn0) (e:=e1) HR3.out.set7 rfl rfl) rfl ⟨by rw [HE2.out],below_set7 (HB1.out.trans (HB3.out.mono HB1.out.size)) (by omega)⟩)
    | s3 i0 f0 o0 hE=>
     have HE1:=Lib.hid hE
     have HOk:=Lib.hid (HO.out _ HBW.out no nWay)
     have hix:=fun w=>(part_idx nInfo nFiles nOut nWay w).2.2.2
     unfold Fs.openK1 at HE1
     generalize S.ownF b ⟨u.u,u.g⟩ no nWay=r at HOk HE1
     obtain⟨n1,e1⟩:=r
     dsimp only at HOk HE1
     unfold nInfo nFiles nOut nWay at hix
     unfold nWay at HOk
     clear hE
     go_wp2_with fail
     refine HOk.out.mono ?_
     rintro e w2 ⟨rfl,hb2⟩
     have hA2:=HAr.out.keep hb2
     have hR2:=HRr.out.keep hb2
     have hB2:=bnext HBr.out hb2
     have HA2:=Lib.hid hA2
     have HB2:=Lib.hid hB2
     have HR3:=Lib.hid (hR2.setOther ⟨w1.heap.size,3,none⟩ (.int .i64 n1) hne1.symm)
     have HB3:=Lib.hid (show Below w1.heap.size w1 (w2.setCell ⟨w1.heap.size,3,none⟩ (.int .i64 n1)) from hB2.setCell (Nat.le_refl _) _)
     obtain⟨ac,af,az⟩:=hA2.facts
     obtain⟨rc,rf,rz⟩:=hR2.facts
     clear hb2 hA2 hR2 hB2 uc uf uz
     by_cases h0 : e1=0
     ·subst h0
      have HE2:=Lib.hid (show rd=S.openK0 no p.top i0 f0 o0 n1 by rw [HE1.out,if_neg (by simp)])
      clear HE1
      cases hz : (n1 == 0) with
      | true=>
       go_wp2_with fail
       go_roundw
       case measure=>simp [intOf]
       case rel=>exact ⟨_,_,_,_,.s4 i0 f0 o0 n1 HE2.out,HA2.out.set 3 _,HB3.out⟩
      | false=>
       go_wp2_with fail
       go_roundw
       case measure=>simp [intOf]
       case rel=>exact ⟨_,_,_,_,.s4 i0 f0 o0 n1 HE2.out,HA2.out.set 3 _,HB3.out⟩
     ·have h0' : (e1 == 0)=false:=by simpa using h0
      have h0'' : (e1 != 0)=true:=by simpa using h0
      have HE2:=Lib.hid (show rd=(cn0,e1) by rw [HE1.out,if_pos h0])
      clear h0
      go_wp2_with (exact bodyPost_ret (copen_results (x:=cn0) (e:=e1) HR3.out.set7 rfl rfl) rfl ⟨by rw [HE2.out],below_set7 (HB1.out.trans (HB3.out.mono HB1.out.size)) (by omega)⟩)
    | s4 i0 f0 o0 y0 hE=>
     have HE1:=Lib.hid hE
     have HWk:=Lib.hid (HWh.out _ HBW.out no)
     have pc0:=HPC.out _ HBW.out
     unfold Fs.openK0 at HE1
     unfold whereV at HWk
     clear hE uc uf uz ac af az
     cases hpl : S.place_ no with
     | none=>
      rw [hpl] at HE1 HWk
      clear hpl
      go_wp2_with fail
      refine HWk.out.mono ?_
      rintro e w2 ⟨rfl,hb2⟩
      have hR2:=HRr.out.keep hb2
      have HR2:=Lib.hid hR2
      have HB2:=Lib.hid (bnext HBW.out hb2)
      obtain⟨rc,rf,rz⟩:=hR2.facts
      clear hb2 hR2 pc0
      go_wp2_with (exact bodyPost_ret (copen_results (x:=cn0) (e:=5) HR2.out.set7 rfl rfl) rfl ⟨by rw [HE1.out],below_set7 HB2.out (by omega)⟩)
     | some s=>
      rw [hpl] at HE1 HWk
      clear hpl
      go_wp2_with fail
      refine HWk.out.mono ?_
      rintro e w2 ⟨rfl,hb2⟩
      have hR2:=HRr.out.keep hb2
      have hA2:=HAr.out.keep hb2
      have hP2:=HPr.out.keep hb2
      have HR2:=Lib.hid hR2
      have HB2:=Lib.hid (bnext HBW.out hb2)
      obtain⟨rc,rf,rz⟩:=hR2.facts
      obtain⟨ac,af,az⟩:=hA2.facts
      obtain⟨qc,qf,qz⟩:=hP2.facts
      clear hb2 hR2 hA2 hP2 pc0
      go_wp2_with (exact bodyPost_ret (copen_results (x:=⟨s,no,i0,f0,o0,y0,p.top⟩) (e:=0) HR2.out.set7 rfl rfl) rfl ⟨by rw [HE1.out],below_set7 HB2.out (by omega)⟩)
 ·have h0' : (e1 == 0)=false:=by simpa using h0
  have h0'' : (e1 != 0)=true:=by simpa using h0
  have HE:=Lib.hid (show rd=(cn0,e1) by rw [HR.out,thereV_e no h0,if_pos h0])
  clear h0
  go_wp2_with (exact bodyPost_ret (copen_results (x:=cn0) (e:=e1) HR1.out.set7 rfl rfl) rfl ⟨by rw [HE.out],below_set7 HB1.out (by omega)⟩)
end
end Go.Proofs.YtihdbncoijhihaaGreatDoor
