import Derived.Test.YtbndfmkgamdgeaaGreatDoorSO1
import Derived.Test.YtbndfmkgamdgeaaGreatDoorSO3
import Derived.Test.YtbndfmkgamdgeaaGreatDoorSO21
import Derived.Test.YtbndfmkgamdgeaaGreatDoorSO33
import Derived.Test.YtbndfmkgamdgeaaGreatDoorSO34
import Derived.Test.YtbndfmkgamdgeaaGreatDoorSO43
import Derived.Test.YtbndfmkgamdgeaaGreatDoorSO48
set_option linter.unusedVariables false
set_option linter.unusedSimpArgs false
set_option maxRecDepth 100000
set_option maxHeartbeats 16000000
namespace Go.Proofs.YtbndfmkgamdgeaaGreatDoor
section
open Go.RowKit
attribute [local go_sem] Oper.semAt_some
theorem stockOrder_any (a b c:Ey) (w:World):Calls Tryz.prog 3 #[.agg (eyC a).toArray,.agg (eyC b).toArray,.agg (eyC c).toArray] w fun e w'=>e=.returned (.bool true)∧Below w.heap.size w w':=by
 have HAw:=Lib.hid awake34_any;have HE:=Lib.hid (fun (x y:Ey) (w:World)=>show Calls Tryz.prog 5 #[.agg #[.string x.can,.string x.name,.string x.path,.int .i64 x.date,.int .i64 x.size,.bool x.good],.agg #[.string y.can,.string y.name,.string y.path,.int .i64 y.date,.int .i64 y.size,.bool y.good]] w fun e w'=>e=.returned (.int .i64 (earF x y))∧Below w.heap.size w w' from (earlier_any x y w).mono fun e w' ⟨h1,h2⟩=>⟨h1,grow_belowE h2⟩);have HL:=Lib.hid (order_law a b c);have HN:=Lib.hid (earF_neg a b);have HS:=Lib.hid (earF_self a);have hr1:=earF_rng a b;have hr2:=earF_rng b c;have hr3:=earF_rng a c;have H1:=Lib.hid (fun w=>HE.out a b w);have H2:=Lib.hid (fun w=>HE.out b c w);have H3:=Lib.hid (fun w=>HE.out a c w);have H4:=Lib.hid (fun w=>HE.out b a w);have H5:=Lib.hid (fun w=>HE.out a a w);have H6:=Lib.hid (fun w=>ahead_any a b w);rw [HN.out] at H4;rw [HS.out] at H5;generalize earF a b=x at H1 H4 HL hr1;generalize earF b c=y at H2 HL hr2;generalize earF a c=z at H3 HL hr3;generalize aheadB a b=g at H6 HL;unfold eyC;obtain⟨hA,hB,hC,hb⟩:=boxes3 w #[.string a.can,.string a.name,.string a.path,.int .i64 a.date,.int .i64 a.size,.bool a.good] #[.string b.can,.string b.name,.string b.path,.int .i64 b.date,.int .i64 b.size,.bool b.good] #[.string c.can,.string c.name,.string c.path,.int .i64 c.date,.int .i64 c.size,.bool c.good] 23 23 23;clear HE HN HS;go_enter Tryz.func3,Tryz.ntmps3;go_upto_region 1 with fail;generalize ((w.alloc (.cells #[.string a.can,.string a.name,.string a.path,.int .i64 a.date,.int .i64 a.size,.bool a.good] 23)).alloc (.cells #[.string b.can,.string b.name,.string b.path,.int .i64 b.date,.int .i64 b.size,.bool b.good] 23)).alloc (.cells #[.string c.can,.string c.name,.string c.path,.int .i64 c.date,.int .i64 c.size,.bool c.good] 23)=W at hA hB hC hb ⊢;have HW:=Lib.hid (And.intro hA (And.intro hB (And.intro hC hb)));obtain⟨ac,af,az⟩:=hA.facts;obtain⟨bc,bf,bz⟩:=hB.facts;obtain⟨cc,cf,cz⟩:=hC.facts;clear hA hB hC hb
 go_cut [7,8,9] (fun t7 t8 t9 wx=>t7=.int .i64 x∧t8=.int .i64 y∧t9=.int .i64 z∧Below W.heap.size W wx)
 case first=>
  go_region_held3 (fun w'=>(∀ b o,b<W.heap.size→w'.cell? ⟨b,o,none⟩=W.cell? ⟨b,o,none⟩)∧Below W.heap.size W w') (first | with_reducible assumption | with_reducible exact keepS_here _ | with_reducible exact keepS_here2 _ | with_reducible exact keepS_call (by assumption) (by assumption) | with_reducible exact keepS_alloc (by assumption) _ | with_reducible exact keepS_allocD (by assumption) _ | with_reducible exact keepS_realloc (by assumption) (by assumption) | with_reducible exact keepS_set4 (by assumption) (by assumption))
   ((first
    | (go_at_call 5;((with_reducible refine (H1.out _).mono ?_);rintro e w4 ⟨rfl,hb4⟩))
    | (go_at_call 5;((with_reducible refine (H2.out _).mono ?_);rintro e w5 ⟨rfl,hb5⟩))
    | (go_at_call 5;((with_reducible refine (H3.out _).mono ?_);rintro e w6 ⟨rfl,hb6⟩))))
  all_goals
   go_wp2_with fail;go_meet;exact⟨rfl,rfl,rfl,And.right (by assumption)⟩
 case rest=>
  obtain⟨rfl,rfl,rfl,hb2⟩:=hcut;generalize wc=V at hb2 ⊢;have HW2:=Lib.hid (And.intro (HW.out.1.keep hb2) (And.intro (HW.out.2.1.keep hb2) (bnext HW.out.2.2.2 hb2)));clear hb2 ac af az bc bf bz cc cf cz;obtain⟨ac,af,az⟩:=HW2.out.1.facts;obtain⟨bc,bf,bz⟩:=HW2.out.2.1.facts;have hl1:=HL.out.1;have hl2:=HL.out.2;have i1:¬ x < -1:=by omega
  have i2:¬ 1<x:=by omega
  have i3:IntKind.i64.wrap (0 - x)=-x:=by rw [IntKind.wrap_i64];omega
  clear HL hr1 hr2 hr3;go_wp2_with fail;refine (H4.out _).mono ?_;rintro e w2 ⟨rfl,hb2⟩;have hA2:=HW2.out.1.keep hb2;have hB2:=HW2.out.2.1.keep hb2;have HW3:=Lib.hid (And.intro hA2 (And.intro hB2 (bnext HW2.out.2.2 hb2)));clear ac af az bc bf bz hb2 hA2 hB2;obtain⟨ac,af,az⟩:=HW3.out.1.facts;obtain⟨bc,bf,bz⟩:=HW3.out.2.1.facts;go_wp2_with fail;refine (H5.out _).mono ?_;rintro e w3 ⟨rfl,hb3⟩;have hA3:=HW3.out.1.keep hb3;have hB3:=HW3.out.2.1.keep hb3;have HW4:=Lib.hid (And.intro hA3 (And.intro hB3 (bnext HW3.out.2.2 hb3)));clear ac af az bc bf bz hb3 hA3 hB3;obtain⟨ac,af,az⟩:=HW4.out.1.facts;obtain⟨bc,bf,bz⟩:=HW4.out.2.1.facts;have HF:=Lib.hid (show ∀ V,Below w.heap.size w V→Calls Tryz.prog 7 #[] V fun e w'=>e=.returned (.bool true)∧Below w.heap.size w w' from fun V hV=>(HAw.out V).mono fun e w' ⟨h1,h2⟩=>⟨h1,bnext hV h2⟩);have hx:0<x∨(¬ 0<x∧0<y)∨(¬ 0<x∧¬ 0<y∧z≤0):=by
   simp only [Bool.or_eq_true,decide_eq_true_eq] at hl1;omega
  have hg:(0≤x∧g=false)∨(x<0∧g=true):=by
   cases g
   ·left;exact⟨by simpa using hl2,rfl⟩
   ·right;exact⟨by simpa using hl2,rfl⟩
  clear hl1 hl2;rcases hg with ⟨hg1,rfl⟩|⟨hg1,rfl⟩
  all_goals
   rcases hx with hx | ⟨hx,hy⟩|⟨hx,hy,hz⟩
   all_goals first
    | (exfalso;omega)
    | (go_wp2_with fail;refine (H6.out _).mono ?_;rintro e w5 ⟨rfl,hb5⟩;have HW5:=Lib.hid (bnext HW4.out.2.2 hb5);clear ac af az bc bf bz hb5;go_wp2_with fail;refine (HF.out _ HW5.out).mono ?_;rintro e w6 ⟨rfl,hb6⟩;go_wp2_with fail;go_ret;exact⟨by first | rfl | exact ret_bool (by simp;omega),hb6⟩)
end
end Go.Proofs.YtbndfmkgamdgeaaGreatDoor
