import Derived.Test.YtbndfmkgamdgeaaGreatDoorSO1
import Derived.Test.YtbndfmkgamdgeaaGreatDoorSO2
import Derived.Test.YtbndfmkgamdgeaaGreatDoorSO3
import Derived.Test.YtbndfmkgamdgeaaGreatDoorSO5
import Derived.Test.YtbndfmkgamdgeaaGreatDoorSO7
import Derived.Test.YtbndfmkgamdgeaaGreatDoorSO8
import Derived.Test.YtbndfmkgamdgeaaGreatDoorSO11
import Derived.Test.YtbndfmkgamdgeaaGreatDoorSO13
import Derived.Test.YtbndfmkgamdgeaaGreatDoorSO19
set_option linter.unusedVariables false
set_option linter.unusedSimpArgs false
set_option maxRecDepth 100000
set_option maxHeartbeats 16000000
namespace Go.Proofs.YtbndfmkgamdgeaaGreatDoor
section
open Go.RowKit
def saR (cs:List Value) (x:List UInt8):Prop:=cs=encS x
def SA (w:World) (a:Option Addr) (n c:Nat) (l:List (List UInt8)):Prop:=SliceAt w 1 saR a n c l
theorem SA.len {w:World} {a:Option Addr} {n c:Nat} {l:List (List UInt8)} (h:SA w a n c l):l.length=n:=h.1
theorem SA.of_own {w:World} {base c:Nat} {a:Option Addr} {l:List (List UInt8)} (h:OS w base (.slice a l.length c) l):SA w a l.length c l:=own_slice (R:=saR) (by omega) encS_len (fun _=>rfl) h
theorem SA.cell {w:World} {a:Option Addr} {n c:Nat} {l:List (List UInt8)} (h:SA w a n c l) {b off:Nat} (ha:a=some ⟨b,off,none⟩) (k:Nat) (hk:k<l.length):w.cell? ⟨b,off+k,none⟩=some (.string (str l[k])):=by
 obtain⟨h1,-,-,h0 | ⟨b',off',he,hb,hel⟩⟩:=h
 ·omega
 ·rw [ha] at he;injection he with he;injection he with e1 e2;subst e1 e2;obtain⟨cs,h1,h2,h3⟩:=hel k hk;subst h2;have:=h3 0 (by simp [encS]);rw [Nat.mul_one,Nat.add_zero] at this;exact this
theorem SA.some_of {w:World} {a:Option Addr} {n c:Nat} {l:List (List UInt8)} (h:SA w a n c l) (hn:0<n):∃ b off,a=some ⟨b,off,none⟩∧b<w.heap.size:=by
 obtain⟨h1,-,-,h0 | ⟨b',off',he,hb,hel⟩⟩:=h
 ·omega
 ·exact ⟨b',off',he,hb⟩
theorem SA.keep {w w':World} {a:Option Addr} {n c:Nat} {l:List (List UInt8)} (h:SA w a n c l) (hb:Below w.heap.size w w'):SA w' a n c l:=by
 refine ⟨h.1,h.2.1,h.2.2.1,h.2.2.2.imp id ?_⟩;rintro ⟨b,off,rfl,hlt,hel⟩;refine ⟨b,off,rfl,Nat.lt_of_lt_of_le hlt hb.size,fun i hi=>?_⟩;obtain⟨cs,h1,h2,h3⟩:=hel i hi;exact⟨cs,h1,h2,fun j hj=>(hb.cell (p:=⟨b,_,none⟩) hlt).trans (h3 j hj)⟩
theorem SA.setA {w:World} {a:Option Addr} {n c:Nat} {l:List (List UInt8)} (h:SA w a n c l) {B:Nat} (hB:∀ b off,a=some ⟨b,off,none⟩→b≠B) (i:Nat) (v:Value):SA (w.setCell ⟨B,i,none⟩ v) a n c l:=by
 refine ⟨h.1,h.2.1,h.2.2.1,h.2.2.2.imp id ?_⟩;rintro ⟨b,off,rfl,hlt,hel⟩;have hq:=Below.heap_setCell w ⟨B,i,none⟩ v b (hB b off rfl);refine ⟨b,off,rfl,by simpa [World.setCell] using hlt,fun i hi=>?_⟩;obtain⟨cs,h1,h2,h3⟩:=hel i hi;refine ⟨cs,h1,h2,fun j hj=>?_⟩;rw [←h3 j hj];simp only [World.cell?,hq]
theorem SA.tail {w:World} {a:Option Addr} {n c:Nat} {x:List UInt8} {l:List (List UInt8)} (h:SA w a n c (x :: l)) {b off:Nat} (ha:a=some ⟨b,off,none⟩):SA w (if c=1 then a else some ⟨b,off+1,none⟩) (n - 1) (c - 1) l:=by
 have hl:=h.1;obtain⟨-,h1,h2,h0 | ⟨b',off',he,hb,hel⟩⟩:=h
 ·simp at hl;omega
 ·rw [ha] at he;injection he with he;injection he with e1 e2;subst e1 e2;have hl':l.length=n - 1:=by simp at hl;omega
  have hn1:1≤n:=by rw [←hl];simp
  refine ⟨hl',by omega,by omega,?_⟩;by_cases hn:n=1
  ·exact .inl (by omega)
  ·refine .inr ⟨b,off+1,by rw [if_neg (by omega)],hb,fun i hi=>?_⟩;obtain⟨cs,h3,h4,h5⟩:=hel (i+1) (by simp;omega);refine ⟨cs,h3,by simpa using h4,fun j hj=>?_⟩;rw [←h5 j hj];congr 2;omega
theorem sa_app {w:World} {base:Nat} {v:Value} {ps:List (List UInt8)} {a:Option Addr} {n c:Nat} {l:List (List UInt8)} (hO:OS w base v ps) (hS:SA w a n c l) (hl:ps.length+l.length≤1000000) (hbase:base≤w.heap.size) :
  ∃ a' n' c' W,(Builtin.append_ #[201,201] 201 #[v,.slice a n c]).run Tryz.prog w=.ok (.slice a' n' c') W∧SA W a' n' c' (ps ++ l)∧(∀ b off,a'=some ⟨b,off,none⟩→base≤b)∧Below base w W:=by
 obtain⟨i0,hi,hz0,hz1,hz2⟩:=info_parts str_info;have hln:=hS.len
 cases l with
 | nil=>
  obtain rfl:n=0:=by simpa using hln.symm
  obtain⟨a1,c1,rfl,-,-,hf⟩:=own_form hO;refine ⟨a1,ps.length,c1,w,step_app_nil _ Tryz.underlying201 hi hO a c,?_,?_,Below.refl _ _⟩
  ·rw [List.append_nil];exact SA.of_own hO
  ·rintro b off rfl;rcases hf with ⟨h,-⟩|⟨g,h,hb,-⟩
   ·cases h
   ·injection h with h;injection h with h1 h2;omega
 | cons x l=>
  have hn:0<n:=by rw [←hln];simp
  obtain⟨b,off,rfl,hb⟩:=hS.some_of hn;obtain⟨g,cap,W,h1,h2,h3,h4⟩:=step_app 201 Tryz.underlying201 hi hz0 hz1 hz2 rfl (by omega) hO ⟨b,off,none⟩ n c ((x :: l).flatMap encS) (by rw [flat_len encS_len,hln])
   (fun j u hu=>by
    have he:(x :: l).flatMap encS=(x :: l).map (fun y=>Value.string (str y)):=by
     generalize (x :: l)=m
     induction m with
     | nil=>rfl
     | cons y m ih=>simp only [List.flatMap_cons,encS,List.map_cons,ih];rfl
    rw [he,List.getElem?_map] at hu;obtain⟨y,hy,rfl⟩:=Option.map_eq_some_iff.1 hu;obtain⟨hj,rfl⟩:=List.getElem?_eq_some_iff.1 hy;have:=hS.cell rfl j hj;by_cases h0:j=0
    ·subst h0;simpa [Addr.add] using this
    ·simpa [Addr.add,h0] using this)
   (by intro u hu;obtain ⟨y,-,hy⟩:=List.mem_flatMap.1 hu;simp [encS] at hy;subst hy;rfl) hn (by unfold maxLen;omega) (by omega) hbase
  have hO2:OS W base (.slice (some ⟨g,0,none⟩) (ps ++ x :: l).length cap) (ps ++ x :: l):=by
   unfold OS;rw [List.length_append,List.flatMap_append,hln];exact h2
  refine ⟨_,_,_,W,h1,?_,?_,h3.below (fun k hk=>(hO.lt k hk).1) hbase⟩
  ·have:=SA.of_own hO2
   rwa [List.length_append,hln] at this
  ·rintro b' off' h;injection h with h;injection h with h;subst h;exact (own_frozen h2).2.1
def TripAt (w:World) (Bt pw:Nat) (c:Cr) (k:Int) (ta:Option Addr) (tl tc:Nat) (hops:Int) (must:Bool):Prop:=
 Blk w Bt #[.pointer (some ⟨pw,0,none⟩),.int .i64 c.u,.int .i64 c.g,.int .i64 k,.slice ta tl tc,.int .i64 hops,.bool must] 308
theorem below_mod {B:Nat} {w w':World} (h:Below w.heap.size w w'):Mod (fun k=>k=B) w w':=Mod.of_below h
def FlP (w:World) (Bt pw:Nat) (c:Cr) (k hops:Int) (must:Bool) (l:List (List UInt8)) (s:ByteArray) (e:Ending) (w':World):Prop:=
 Mod (fun k=>k=Bt) w w'∧
   ((8<hops+1∧e=.returned (.int .i64 12))∨(hops+1≤8∧s.data.toList=[]∧e=.returned (.int .i64 5))∨
    (hops+1≤8∧s.data.toList≠[]∧e=.returned (.int .i64 0)∧∃ ta' tl' tc',TripAt w' Bt pw c (if s.data.toList.head? = some 47 then 1 else k) ta' tl' tc' (hops+1) (if l=[] then must || slashB s.data.toList else must)∧
     SA w' ta' tl' tc' (partsL s.data.toList ++ l)∧∀ b off,ta'=some ⟨b,off,none⟩→w.heap.size≤b))
theorem follow_any {w:World} {Bt pw:Nat} {c:Cr} {k:Int} {ta:Option Addr} {tl tc:Nat} {hops:Int} {must:Bool} (hb:TripAt w Bt pw c k ta tl tc hops must) {l:List (List UInt8)} (hl:SA w ta tl tc l) (hta:∀ b off,ta=some ⟨b,off,none⟩→b≠Bt) (s:ByteArray) (hs:s.size≤4096) (hll:l.length≤900000) (hh:0≤hops∧hops≤100) :
  Calls Tryz.prog 201 #[.pointer (some ⟨Bt,0,none⟩),.string s] w fun e w'=>FlP w Bt pw c k hops must l s e w':=by
 unfold TripAt at hb;have HB:=Lib.hid hb;have HL:=Lib.hid hl;obtain⟨bc,bf,bz⟩:=hb.facts;obtain⟨hh0,hh1⟩:=hh;have hlen:=hl.len;have htl:tl≤900000:=by omega
 have HTa:=Lib.hid hta;have HLen:=Lib.hid hlen;clear hb hl hta hlen;by_cases h1:8<hops+1
 ·have h1a:(8:Int)<hops+1:=h1;have h1b:(7:Int)<hops:=by omega
  have h1c:(8:Int)≤hops:=by omega
  go_enter Tryz.func201,Tryz.ntmps201;go_wp2_with fail;go_ret;exact⟨(Mod.refl (fun k=>k=Bt) w).setCell (a:=⟨Bt,5,none⟩) (.inl rfl) _,.inl ⟨h1,rfl⟩⟩
 ·have h2':hops+1≤8:=by omega
  have h2a:hops≤7:=by omega
  by_cases h3:s.data.toList=[]
  ·have h3':s.toList=[]:=by rw [ba_list];exact h3
   have HE:=Lib.hid h3;clear h1 h3;go_enter Tryz.func201,Tryz.ntmps201;go_wp2_with fail;go_ret;exact⟨(Mod.refl (fun k=>k=Bt) w).setCell (a:=⟨Bt,5,none⟩) (.inl rfl) _,.inr (.inl ⟨h2',HE.out,rfl⟩)⟩
  ·have h3':s.toList.isEmpty=false:=by rw [ba_list];simpa using h3
   have hs0:0<s.size:=by
    have:s.data.toList.length=s.size:=Array.length_toList;rcases Nat.eq_zero_or_pos s.size with h | h
    ·exact absurd (List.eq_nil_of_length_eq_zero (by omega)) h3
    ·exact h
   have HE:=Lib.hid h3;have hhd:s.data.toList.head? = some s[0]:=by
    rw [List.head?_eq_getElem?,List.getElem?_eq_getElem (by rw [Array.length_toList];exact hs0)];rfl
   obtain⟨at2,hat2⟩:∃ x:Int,x=if s.data.toList.head? = some 47 then 1 else k:=⟨_,rfl⟩;have HAt:=Lib.hid hat2;have HHd:=Lib.hid hhd;have h1n:¬ (8:Int)<hops+1:=h1;clear h1 h3 hat2 hhd;go_enter Tryz.func201,Tryz.ntmps201;go_upto_if 21 with fail
   go_cut [] (fun wx=>TripAt wx Bt pw c at2 ta tl tc (hops+1) must∧SA wx ta tl tc l∧Mod (fun k=>k=Bt) w wx)
   case first=>
    by_cases h47:s[0]=47
    ·have hc1:((s[0].toNat:Int) == 47)=true:=by rw [h47];rfl
     have HA2:=Lib.hid (show at2=1 by rw [HAt.out,HHd.out,h47];rfl);clear h47;go_wp2_with fail;go_meet;rw [HA2.out];exact⟨(HB.out.set 5 _).set 3 _,(HL.out.setA HTa.out 5 _).setA HTa.out 3 _,((Mod.refl (fun k=>k=Bt) w).setCell (a:=⟨Bt,5,none⟩) (.inl rfl) _).setCell (a:=⟨Bt,3,none⟩) (.inl rfl) _⟩
    ·have hc1:((s[0].toNat:Int) == 47)=false:=by
      simp only [beq_eq_false_iff_ne,ne_eq];intro h;exact h47 (by rw [u8_eq];show s[0].toNat=47;omega)
     have HA2:=Lib.hid (show at2=k by rw [HAt.out,HHd.out,if_neg (by intro e;injection e with e;exact h47 e)]);clear h47;go_wp2_with fail;go_meet;rw [HA2.out];exact⟨HB.out.set 5 _,HL.out.setA HTa.out 5 _,(Mod.refl (fun k=>k=Bt) w).setCell (a:=⟨Bt,5,none⟩) (.inl rfl) _⟩
   case rest=>
    obtain⟨hb,hl,hm⟩:=hcut;generalize wc=wa at hb hl hm ⊢;unfold TripAt at hb;have HB1:=Lib.hid hb;have HL1:=Lib.hid hl;have HM1:=Lib.hid hm;have hsz1:=hm.size;obtain⟨m2,hm2⟩:∃ x:Bool,x=if l=[] then must || slashB s.data.toList else must:=⟨_,rfl⟩;have HM2:=Lib.hid hm2;have HSl:=Lib.hid (fun w=>slash_any s w (by omega));clear bc bf bz;obtain⟨bc,bf,bz⟩:=hb.facts;clear hb hl hm hm2;generalize hsl:slashB s.data.toList=sl at HSl HM2;have HSLe:=Lib.hid hsl;clear hsl;go_upto_if 30 with fail
    go_cut [] (fun wx=>TripAt wx Bt pw c at2 ta tl tc (hops+1) m2∧SA wx ta tl tc l∧Mod (fun k=>k=Bt) w wx)
    case first=>
     by_cases hl0:l=[]
     ·have HA2:=Lib.hid (show m2=(must || sl) by rw [HM2.out,if_pos hl0]);have ht0:tl=0:=by rw [←HLen.out,hl0];rfl
      subst ht0;clear hl0
      cases must with
      | true=>
       go_wp2_with fail;go_meet;rw [HA2.out];exact⟨HB1.out.set 6 _,HL1.out.setA HTa.out 6 _,HM1.out.setCell (a:=⟨Bt,6,none⟩) (.inl rfl) _⟩
      | false=>
       go_wp2_with (refine (HSl.out _).mono ?_;rintro e w1 ⟨rfl,rfl⟩);go_meet;rw [HA2.out];exact⟨HB1.out.set 6 _,HL1.out.setA HTa.out 6 _,HM1.out.setCell (a:=⟨Bt,6,none⟩) (.inl rfl) _⟩
     ·have HA2:=Lib.hid (show m2=must by rw [HM2.out,if_neg hl0]);have ht0:0<tl:=by rw [←HLen.out];exact List.length_pos_iff.2 hl0
      have ht1:((tl:Int) == 0)=false:=by simp;omega
      clear hl0;go_wp2_with fail;go_meet;rw [HA2.out];exact⟨HB1.out,HL1.out,HM1.out⟩
    case rest=>
     obtain⟨hb,hl,hm⟩:=hcut;generalize wc=wb at hb hl hm ⊢;unfold TripAt at hb;have HB2:=Lib.hid hb;have HL2:=Lib.hid hl;have HM3:=Lib.hid hm;have HPs:=Lib.hid (fun w=>nparts_any s w);have HCl:=Lib.hid (show Calls Tryz.prog 198 #[.func (.func 104) #[] #[.pointer (some ⟨wb.heap.size,0,none⟩)]] (wb.alloc (.cells #[.string s] 9)).drew (fun e w'=>(∃ v,e=.returned v∧OS w' wb.heap.size v (partsL s.data.toList))∧Below wb.heap.size wb w') from (pcollect_any s (by omega) wb.drew).mono (fun e w' h=>⟨h.1,(Below.refl _ _).drew.trans h.2⟩));have HPl:=Lib.hid (show (partsL s.data.toList).length+l.length≤1000000 by
      have h1:=parts_len s.data.toList;have h2:s.data.toList.length=s.size:=Array.length_toList;omega)
     clear bc bf bz;obtain⟨bc,bf,bz⟩:=hb.facts;clear hb hl hm;go_wp2_with fail;have mixed:Tryz.prog.follows .mixedOrders=true:=by kernel_rfl
     go_region_law_o (first
      | (refine step_app_run rfl rfl rfl rfl hrun ?_)
      | (go_simp;go_at_call 55;((with_reducible refine (HPs.out _).mono ?_);rintro e w3 ⟨rfl,rfl⟩))
      | (go_simp;go_at_call 198;((with_reducible refine HCl.out.mono ?_);rintro e w4 ⟨⟨v,rfl,hO4⟩,hb4'⟩;have k4:=HB2.out.keep hb4';obtain ⟨a',n',c',W,hrun,hSA,hab,hBW⟩:=sa_app hO4 (HL2.out.keep hb4') HPl.out hb4'.size;have kW:=k4.keepB hBW HB2.out.lt;obtain ⟨c4,f4,z4⟩:=k4.facts;obtain ⟨cW,fW,zW⟩:=kW.facts;have HX:=Lib.hid (And.intro hSA (And.intro hab (And.intro kW (hb4'.trans hBW))));clear hSA hab kW k4 hb4' hBW hO4)))
     all_goals
      go_wp2_with fail;go_ret;obtain⟨hSA,hab,kW,hbW⟩:=HX.out;refine ⟨HM3.out.trans ((below_mod hbW).setCell (a:=⟨Bt,4,none⟩) (.inl rfl) _),.inr (.inr ⟨h2',HE.out,rfl,a',n',c',?_,hSA.setA (fun b off h=>by have q1:=hab b off h;have q2:=HB2.out.lt;omega) 4 _,fun b off h=>Nat.le_trans HM3.out.size (hab b off h)⟩)⟩;rw [←HAt.out,HSLe.out,←HM2.out];exact kW.set 4 _
end
end Go.Proofs.YtbndfmkgamdgeaaGreatDoor
