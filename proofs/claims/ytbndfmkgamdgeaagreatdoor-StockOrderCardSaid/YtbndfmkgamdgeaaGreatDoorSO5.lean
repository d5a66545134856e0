import Derived.Test.YtbndfmkgamdgeaaGreatDoorSO1
import Derived.Test.YtbndfmkgamdgeaaGreatDoorSO2
set_option linter.unusedVariables false
set_option linter.unusedSimpArgs false
set_option maxRecDepth 100000
set_option maxHeartbeats 16000000
namespace Go.Proofs.YtbndfmkgamdgeaaGreatDoor
section
open Go.RowKit
theorem snoc_ind {α:Type} {P:List α→Prop} (h0:P []) (h1:∀ l x,P l→P (l ++ [x])) (l:List α):P l:=by
 have key:∀ r:List α,P r.reverse:=by
  intro r
  induction r with
  | nil=>exact h0
  | cons x r ih=>rw [List.reverse_cons];exact h1 _ _ ih
 have:=key l.reverse
 rwa [List.reverse_reverse] at this
def splStep (c:UInt8) (acc:List (List UInt8)) (x:UInt8):List (List UInt8):=if x=c then acc ++ [[]] else acc.set (acc.length - 1) (acc.getD (acc.length - 1) [] ++ [x])
def spl (c:UInt8) (l:List UInt8):List (List UInt8):=l.foldl (splStep c) [[]]
theorem spl_snoc (c:UInt8) (l:List UInt8) (x:UInt8):spl c (l ++ [x])=splStep c (spl c l) x:=by simp [spl]
theorem spl_len (c:UInt8) (l:List UInt8):0<(spl c l).length∧(spl c l).length≤l.length+1:=by
 refine snoc_ind (P:=fun l=>0<(spl c l).length∧(spl c l).length≤l.length+1) (by simp [spl]) (fun l x ih=>?_) l;rw [spl_snoc,List.length_append];unfold splStep
 split
 ·simp;omega
 ·simp;omega
theorem spl_size (c:UInt8) (l:List UInt8):∀ p∈spl c l,p.length≤l.length:=by
 refine snoc_ind (P:=fun l=>∀ p∈spl c l,p.length≤l.length) (by simp [spl]) (fun l x ih=>?_) l
 ·intro p hp;rw [spl_snoc] at hp;unfold splStep at hp;rw [List.length_append,List.length_singleton]
  split at hp
  ·rcases List.mem_append.1 hp with h | h
   ·have:=ih p h;omega
   ·simp at h;subst h;simp
  ·rcases List.mem_or_eq_of_mem_set hp with h | rfl
   ·have:=ih p h;omega
   ·rw [List.length_append,List.length_singleton];have hl:=(spl_len c l).1;rw [List.getD_eq_getElem?_getD,List.getElem?_eq_getElem (by omega)];have:=ih _ (List.getElem_mem (l:=spl c l) (n:=(spl c l).length - 1) (by omega));simp only [Option.getD_some];omega
def encS (l:List UInt8):List Value:=[.string (str l)]
theorem encS_len (l:List UInt8):(encS l).length=1:=rfl
def OS (w:World) (base:Nat) (v:Value) (ls:List (List UInt8)):Prop:=w.ownsRow base 9 1 v ls.length (ls.flatMap encS)
theorem str_info:(Tryz.prog.info? 9).map (fun i=>(i.zero,i.size,i.bytes))=some (some (.string ByteArray.empty),1,16):=by kernel_rfl
theorem OS.app {w:World} {base:Nat} {v:Value} {ls:List (List UInt8)} (h:OS w base v ls) (l:List UInt8) (hl:ls.length≤10000000) (hb:base≤w.heap.size) :
  ∃ g cap W,(Builtin.append_ #[201,201] 201 #[v,.slice (some ⟨w.heap.size,0,none⟩) 1 1]).run Tryz.prog (w.alloc (.cells #[.string (str l)] 9))=.ok (.slice (some ⟨g,0,none⟩) (ls.length+1) cap) W∧
   OS W base (.slice (some ⟨g,0,none⟩) (ls.length+1) cap) (ls ++ [l])∧Below base w W:=by
 obtain⟨i0,hi,hz0,hz1,hz2⟩:=info_parts str_info;have ho:=World.ownsRow.alloc h (.cells #[.string (str l)] 9);obtain⟨g,cap,W,h1,h2,h3,h4⟩:=step_app 201 Tryz.underlying201 hi hz0 hz1 hz2 rfl (by omega) ho ⟨w.heap.size,0,none⟩ 1 1 [.string (str l)] rfl (World.news_of_block (Blk.new w #[.string (str l)] 9)) (by intro u hu;simp at hu;subst hu;rfl) (by omega) (by unfold maxLen;omega) (by omega) (by simp;omega);refine ⟨g,cap,W,h1,?_,?_⟩
 ·unfold OS;rw [List.length_append,List.length_singleton,List.flatMap_append];exact h2
 ·refine (((Below.refl base w).alloc hb _)).trans (h3.below (fun k hk=>(h.lt k hk).1) (by simp;omega))
theorem OS.cell {w:World} {base g cap:Nat} {ls:List (List UInt8)} (h:OS w base (.slice (some ⟨g,0,none⟩) ls.length cap) ls) (k:Nat) (hk:k<ls.length):w.cell? ⟨g,k,none⟩=some (.string (str ls[k])):=by
 obtain⟨-,-,-,h0 | ⟨b,off,he,hb,hel⟩⟩:=own_slice (R:=fun cs x=>cs=encS x) (by omega) encS_len (fun _=>rfl) h
 ·omega
 ·injection he with he;injection he with e1 e2;subst e1 e2;obtain⟨cs,h1,h2,h3⟩:=hel k hk;subst h2;have:=h3 0 (by simp [encS]);simpa [encS] using this
theorem own_frozen {w:World} {base g cap n sz:Nat} {e:TypeId} {xs:List Value} (h:w.ownsRow base e sz (.slice (some ⟨g,0,none⟩) n cap) n xs):(∀ i,w.frozen? ⟨g,i,none⟩=false)∧base≤g∧g<w.heap.size:=by
 rcases h.2 with ⟨hv,-⟩|⟨g',cap',cur,hv,hb,hg,-⟩
 ·cases hv
 ·injection hv with hv;injection hv with hv;injection hv with hv;subst hv;exact⟨Blk.frozen (w:=w) (vs:=cur) hg,hb,(Array.getElem?_eq_some_iff.1 hg).1⟩
theorem wp_still_tail {P:Program} {id:Nat} {Q:Exit→Act→World→Prop} {a:Act} {w:World} {L:List Oper} (n:Nat) (hm:P.follows .mixedOrders=true) (hB:Region.lexTailB .any L.toArray n=true)
  (h:wpStill P L.toArray w.drew (fun a'=>wpList P L.toArray Q (L.drop n) a' w.drew) (L.take n) a):(Code.region id L.toArray true).wp P Q a w:=wp_region_still_tail n hm hB h
end
section
open Go.RowKit
def NumOk (s:ByteArray):Option Int→Prop
 | some n=>str (decL n)=s∧-9223372036854775808≤n∧n≤9223372036854775807
 | none=>∀ n:Int,-9223372036854775808≤n→n≤9223372036854775807→str (decL n)≠s
def numRes:Option Int→Value
 | some n=>.tuple #[.int .i64 n,.bool true]
 | none=>.tuple #[.int .i64 0,.bool false]
def NInv (l:List UInt8) (n:Int):Prop:=-9223372036854775808≤n∧n≤9223372036854775807∧∃ q:Int,n=-(valD 10 l:Int)+q*18446744073709551616
end
section
open Go.RowKit
structure En where
 name:ByteArray
 no:Int
 deriving DecidableEq
structure An where
 no:Int
 dev:Int
 kind:Int
 mode:Int
 uid:Int
 gid:Int
 mtime:Int
 ctime:Int
 links:Int
 up:Int
 data:ByteArray
 ents:List En
 deriving DecidableEq
def an0:An:=⟨0,0,0,0,0,0,0,0,0,0,ByteArray.empty,[]⟩
structure Dv where
 root:Int
 over:Int
 b:Int
 n:Int
 mb:Int
 mn:Int
 deriving DecidableEq
structure Fs where
 ns:List An
 ds:List Dv
 last:Int
 deriving DecidableEq
def ltB (a b:ByteArray):Bool:=Op.bytesLess a.data.toList b.data.toList
theorem ltB_mk (a b:ByteArray):Op.bytesLess a.toList b.toList=ltB a b:=by unfold ltB;rw [ByteArray.toList_eq,ByteArray.toList_eq]
theorem less_irrefl:∀ l:List UInt8,Op.bytesLess l l=false
 | []=>rfl
 | a :: l=>by simp [Op.bytesLess,less_irrefl l]
theorem less_trans:∀ a b c:List UInt8,Op.bytesLess a b=true→Op.bytesLess b c=true→Op.bytesLess a c=true
 | [],[],_,h,_=>by simp [Op.bytesLess] at h
 | [],_ :: _,[],_,h=>by simp [Op.bytesLess] at h
 | [],_ :: _,_ :: _,_,_=>rfl
 | _ :: _,[],_,h,_=>by simp [Op.bytesLess] at h
 | _ :: _,_ :: _,[],_,h=>by simp [Op.bytesLess] at h
 | x :: a,y :: b,z :: c,h,k=>by
  simp only [Op.bytesLess,Bool.or_eq_true,Bool.and_eq_true,decide_eq_true_eq,beq_iff_eq] at h k ⊢;rcases h with h | ⟨rfl,h⟩
  ·rcases k with k | ⟨rfl,k⟩
   ·exact .inl (UInt8.lt_trans h k)
   ·exact .inl h
  ·rcases k with k | ⟨rfl,k⟩
   ·exact .inl k
   ·exact .inr ⟨rfl,less_trans a b c h k⟩
theorem less_total:∀ a b:List UInt8,Op.bytesLess a b=false→Op.bytesLess b a=false→a=b
 | [],[],_,_=>rfl
 | [],_ :: _,h,_=>by simp [Op.bytesLess] at h
 | _ :: _,[],_,h=>by simp [Op.bytesLess] at h
 | x :: a,y :: b,h,k=>by
  simp only [Op.bytesLess,Bool.or_eq_false_iff,Bool.and_eq_false_iff,decide_eq_false_iff_not,beq_eq_false_iff_ne] at h k;have hxy:x=y:=by
   have h1:=h.1;have h2:=k.1;rw [UInt8.not_lt] at h1 h2;exact UInt8.le_antisymm h2 h1
  subst hxy;have h1:=h.2.resolve_left (by simp);have h2:=k.2.resolve_left (by simp);rw [less_total a b h1 h2]
theorem ba_eq {a b:ByteArray} (h:a.data.toList=b.data.toList):a=b:=by
 cases a;cases b
 simp at h ⊢;exact h
theorem ltB_irrefl (a:ByteArray):ltB a a=false:=less_irrefl _
theorem ltB_trans {a b c:ByteArray} (h:ltB a b=true) (k:ltB b c=true):ltB a c=true:=less_trans _ _ _ h k
theorem ltB_total {a b:ByteArray} (h:ltB a b=false) (k:ltB b a=false):a=b:=ba_eq (less_total _ _ h k)
theorem ltB_asymm {a b:ByteArray} (h:ltB a b=true):ltB b a=false:=by
 cases k:ltB b a with
 | false=>rfl
 | true=>have:=ltB_trans h k;rw [ltB_irrefl] at this;cases this
theorem ltB_ne {a b:ByteArray} (h:ltB a b=true):a≠b:=by
 rintro rfl;rw [ltB_irrefl] at h
 cases h
def entFind (l:List En) (n:ByteArray):Int:=match l.find? (fun x=>decide (x.name=n)) with | some x=>x.no | none=>0
def entPut (l:List En) (n:ByteArray) (no:Int):List En:=l.filter (fun x=>ltB x.name n) ++ ⟨n,no⟩ :: l.filter (fun x=>ltB n x.name)
def entDrop (l:List En) (n:ByteArray):List En:=l.filter (fun x=>!decide (x.name=n))
def Rise (l:List En):Prop:=l.Pairwise (fun a b=>ltB a.name b.name=true)
def entAt (l:List En) (n:ByteArray):Nat:=(l.filter (fun x=>ltB x.name n)).length
theorem entAt_le (l:List En) (n:ByteArray):entAt l n≤l.length:=List.length_filter_le _ _
theorem rise_take {l:List En} (h:Rise l) (n:ByteArray):l.filter (fun x=>ltB x.name n)=l.take (entAt l n):=by
 unfold entAt
 induction l with
 | nil=>rfl
 | cons x l ih=>
  have hx:=List.pairwise_cons.1 h;by_cases hc:ltB x.name n=true
  ·rw [List.filter_cons_of_pos (by simpa using hc),List.length_cons,List.take_succ_cons,←ih hx.2]
  ·rw [List.filter_cons_of_neg (by simpa using hc)];have:l.filter (fun x=>ltB x.name n)=[]:=by
    rw [List.filter_eq_nil_iff];intro y hy hyn;exact hc (ltB_trans (hx.1 y hy) hyn)
   rw [this];rfl
theorem rise_lt {l:List En} (h:Rise l) (n:ByteArray) (k:Nat) (hk:k<l.length):ltB l[k].name n=decide (k<entAt l n):=by
 unfold entAt
 induction l generalizing k with
 | nil=>simp at hk
 | cons x l ih=>
  have hx:=List.pairwise_cons.1 h;by_cases hc:ltB x.name n=true
  ·rw [List.filter_cons_of_pos (by simpa using hc),List.length_cons]
   cases k with
   | zero=>simp [hc]
   | succ k=>simpa using ih hx.2 k (by simpa using hk)
  ·rw [List.filter_cons_of_neg (by simpa using hc)];have:l.filter (fun x=>ltB x.name n)=[]:=by
    rw [List.filter_eq_nil_iff];intro y hy hyn;exact hc (ltB_trans (hx.1 y hy) hyn)
   rw [this]
   cases k with
   | zero=>simpa using hc
   | succ k=>
    have hm:l[k]'(by simpa using hk)∈l:=List.getElem_mem _;simp only [List.getElem_cons_succ,List.length_nil,Nat.not_lt_zero,decide_false]
    cases hq:ltB (l[k]'(by simpa using hk)).name n with
    | false=>rfl
    | true=>exact absurd (ltB_trans (hx.1 _ hm) hq) hc
theorem find_at {l:List En} (h:Rise l) (n:ByteArray):l.find? (fun x=>decide (x.name=n))=if hk:entAt l n<l.length then (if l[entAt l n].name=n then some l[entAt l n] else none) else none:=by
 have key:∀ (k:Nat) (hk:k<l.length),l[k].name=n→k=entAt l n:=by
  intro k hk he;have h1:=rise_lt h n k hk;rw [he,ltB_irrefl] at h1;have h2:¬ k<entAt l n:=by simpa using h1.symm
  by_cases h3:k=entAt l n
  ·exact h3
  ·exfalso;have hlt:entAt l n<k:=by omega
   have h4:=List.pairwise_iff_getElem.1 h (entAt l n) k (by omega) hk hlt;rw [he] at h4;have h5:=rise_lt h n (entAt l n) (by omega);rw [h4] at h5;simp at h5
 split
 ·rename_i hk
  split
  ·rename_i he;rw [List.find?_eq_some_iff_getElem];refine ⟨by simpa using he,entAt l n,hk,rfl,fun j hj=>?_⟩;simp only [Bool.not_eq_eq_eq_not,Bool.not_true,decide_eq_false_iff_not];intro hj2;have:=key j (by omega) hj2;omega
  ·rename_i he;rw [List.find?_eq_none];intro x hx;simp only [decide_eq_true_eq];intro hxn;obtain⟨j,hj,rfl⟩:=List.mem_iff_getElem.1 hx;have:=key j hj hxn;subst this;exact he hxn
 ·rename_i hk;rw [List.find?_eq_none];intro x hx;simp only [decide_eq_true_eq];intro hxn;obtain⟨j,hj,rfl⟩:=List.mem_iff_getElem.1 hx;have:=key j hj hxn;subst this;exact hk hj
theorem rise_drop {l:List En} (h:Rise l) (n:ByteArray):l.filter (fun x=>ltB n x.name)=l.drop (entAt l n+(if (∃ hk:entAt l n<l.length,l[entAt l n].name=n) then 1 else 0)):=by
 unfold entAt
 induction l with
 | nil=>simp
 | cons x l ih=>
  have hx:=List.pairwise_cons.1 h;by_cases hc:ltB x.name n=true
  ·have h1:ltB n x.name=false:=ltB_asymm hc;rw [List.filter_cons_of_neg (by simp [h1])];simp only [List.filter_cons_of_pos (p:=fun x:En=>ltB x.name n) (a:=x) (l:=l) (by simpa using hc),List.length_cons];rw [ih hx.2];have:(∃ hk:(l.filter fun x=>ltB x.name n).length+1<l.length+1,((x :: l)[(l.filter fun x=>ltB x.name n).length+1]'hk).name=n)↔(∃ hk:(l.filter fun x=>ltB x.name n).length<l.length,(l[(l.filter fun x=>ltB x.name n).length]'hk).name=n):=by
    constructor
    ·rintro ⟨hk,he⟩;exact ⟨by omega,by simpa using he⟩
    ·rintro ⟨hk,he⟩;exact ⟨by omega,by simpa using he⟩
   simp only [this];rw [Nat.add_right_comm,List.drop_succ_cons]
  ·have he:l.filter (fun x=>ltB x.name n)=[]:=by
    rw [List.filter_eq_nil_iff];intro y hy hyn;exact hc (ltB_trans (hx.1 y hy) hyn)
   have hall:∀ y∈l,ltB n x.name=true∨x.name=n→ltB n y.name=true:=by
    rintro y hy (h1 | rfl)
    ·exact ltB_trans h1 (hx.1 y hy)
    ·exact hx.1 y hy
   have hor:ltB n x.name=true∨x.name=n:=by
    cases hq:ltB n x.name with
    | true=>exact .inl rfl
    | false=>exact .inr (ltB_total (by simpa using hc) hq)
   have hrest:l.filter (fun x=>ltB n x.name)=l:=by
    rw [List.filter_eq_self];intro y hy;exact hall y hy hor
   rw [List.filter_cons_of_neg (p:=fun x:En=>ltB x.name n) (by simpa using hc),he];rcases hor with h1 | h1
   ·rw [List.filter_cons_of_pos (by simpa using h1),hrest,if_neg]
    ·rfl
    ·rintro ⟨hk,he⟩;simp only [List.length_nil,List.getElem_cons_zero] at he;rw [he,ltB_irrefl] at h1
     cases h1
   ·rw [List.filter_cons_of_neg (by rw [h1];simp [ltB_irrefl]),hrest,if_pos ⟨by simp,by simpa using h1⟩];rfl
theorem put_at {l:List En} (h:Rise l) (n:ByteArray) (no:Int):entPut l n no=l.take (entAt l n) ++ ⟨n,no⟩ :: l.drop (entAt l n+(if (∃ hk:entAt l n<l.length,l[entAt l n].name=n) then 1 else 0)):=by
 unfold entPut;rw [rise_take h,rise_drop h]
theorem rise_put {l:List En} (h:Rise l) (n:ByteArray) (no:Int):Rise (entPut l n no):=by
 unfold entPut Rise;rw [List.pairwise_append];refine ⟨List.Pairwise.filter _ h,?_,?_⟩
 ·rw [List.pairwise_cons];refine ⟨fun y hy=>?_,List.Pairwise.filter _ h⟩;simpa using (List.mem_filter.1 hy).2
 ·intro a ha b hb;have h1:ltB a.name n=true:=by simpa using (List.mem_filter.1 ha).2
  rcases List.mem_cons.1 hb with rfl | hb
  ·exact h1
  ·have h2:ltB n b.name=true:=by simpa using (List.mem_filter.1 hb).2
   exact ltB_trans h1 h2
def Fs.get (S:Fs) (k:Int):Option An:=S.ns.find? (fun x=>x.no == k)
def Fs.set (S:Fs) (a:An):Fs:={S with ns:=S.ns.map fun x=>if x.no == a.no then a else x}
def Fs.add (S:Fs) (a:An):Fs:={S with ns:=S.ns ++ [{a with no:=S.last+1}],last:=S.last+1}
def Fs.del (S:Fs) (k:Int):Fs:={S with ns:=S.ns.filter fun x=>!(x.no == k)}
def Fs.root (S:Fs) (d:Int):Int:=if 1≤d∧d≤S.ds.length then (match S.ds[(d - 1).toNat]? with | some v=>v.root | none=>0) else 0
def Fs.over (S:Fs) (k:Int):Int:=if 0<k then (match S.ds.find? (fun d=>d.over == k) with | some d=>d.root | none=>k) else k
theorem an_no {S:Fs} {k:Int} {a:An} (h:S.get k=some a):a.no=k:=by
 have:=List.find?_some h;simpa using this
theorem an_mem {S:Fs} {k:Int} {a:An} (h:S.get k=some a):a∈S.ns:=List.mem_of_find?_eq_some h
structure Nums (S:Fs):Prop where
 rise:(S.ns.map (·.no)).Pairwise (· < ·)
 low:∀ x∈S.ns,1≤x.no∧x.no≤S.last
theorem an_set {S:Fs} {a b:An} (h:S.get a.no=some b) (k:Int):(S.set a).get k=if k=a.no then some a else S.get k:=by
 unfold Fs.get Fs.set at *;simp only;rw [List.find?_map];by_cases hk:k=a.no
 ·subst hk;rw [if_pos rfl];have:((fun x:An=>x.no == a.no) ∘ fun x:An=>if x.no == a.no then a else x)=fun x:An=>x.no == a.no:=by
   funext x;simp only [Function.comp_apply]
   split
   ·rename_i he;rw [he];simp
   ·rfl
  rw [this,h];have hb:b.no=a.no:=by simpa using List.find?_some h
  simp [hb]
 ·rw [if_neg hk];have:((fun x:An=>x.no == k) ∘ fun x:An=>if x.no == a.no then a else x)=fun x:An=>x.no == k:=by
   funext x;simp only [Function.comp_apply]
   split
   ·rename_i he;have:x.no=a.no:=by simpa using he
    rw [this]
   ·rfl
  rw [this]
  cases hf:List.find? (fun x:An=>x.no == k) S.ns with
  | none=>rfl
  | some x=>
   have hx:x.no=k:=by simpa using List.find?_some hf
   simp [hx,hk]
theorem an_add {S:Fs} (h:Nums S) (a:An) (k:Int):(S.add a).get k=if k=S.last+1 then some {a with no:=S.last+1} else S.get k:=by
 unfold Fs.get Fs.add;simp only [List.find?_append];by_cases hk:k=S.last+1
 ·subst hk;have:S.ns.find? (fun x=>x.no == S.last+1)=none:=by
   rw [List.find?_eq_none];intro x hx;have:=h.low x hx;simp;omega
  rw [if_pos rfl,this];simp
 ·rw [if_neg hk];have hne:¬ S.last+1=k:=fun e=>hk e.symm;simp [hne]
theorem an_nos {S:Fs} (a:An):(S.set a).ns.map (·.no)=S.ns.map (·.no):=by
 unfold Fs.set;simp only [List.map_map];apply List.map_congr_left;intro x _;simp only [Function.comp_apply]
 split
 ·rename_i he;simpa using (beq_iff_eq.1 he).symm
 ·rfl
theorem Nums.set {S:Fs} (h:Nums S) (a:An):Nums (S.set a):=by
 refine ⟨by rw [an_nos];exact h.rise,fun x hx=>?_⟩;have hm:x.no∈(S.set a).ns.map (·.no):=List.mem_map_of_mem hx;rw [an_nos] at hm;obtain⟨y,hy,he⟩:=List.mem_map.1 hm;have:=h.low y hy;show 1≤x.no∧x.no≤S.last;omega
theorem Nums.add {S:Fs} (h:Nums S) (h0:0≤S.last) (a:An):Nums (S.add a):=by
 refine ⟨?_,fun x hx=>?_⟩
 ·show ((S.ns ++ [_]).map _).Pairwise _;rw [List.map_append,List.pairwise_append];refine ⟨h.rise,by simp,fun x hx y hy=>?_⟩;obtain⟨z,hz,rfl⟩:=List.mem_map.1 hx;have:=h.low z hz;simp at hy;omega
 ·show 1≤x.no∧x.no≤S.last+1;rcases List.mem_append.1 hx with hx | hx
  ·have:=h.low x hx;omega
  ·simp at hx;subst hx;simp;omega
end
section
open Go.RowKit
structure Nd where
 no:Int
 dev:Int
 kind:Int
 mode:Int
 uid:Int
 gid:Int
 mtime:Int
 ctime:Int
 links:Int
 up:Int
 data:ByteArray
 ea:Option Addr
 el:Nat
 ec:Nat
def Nd.v (n:Nd):Value:=.agg #[.int .i64 n.no,.int .i64 n.dev,.int .i64 n.kind,.int .i64 n.mode,.int .i64 n.uid,.int .i64 n.gid,.int .i64 n.mtime,.int .i64 n.ctime,.int .i64 n.links,.int .i64 n.up,.string n.data,.slice n.ea n.el n.ec]
def nd0:Nd:=⟨0,0,0,0,0,0,0,0,0,0,ByteArray.empty,none,0,0⟩
def tabEnt (x:Nd×Nat):Int×Value×Nat:=(x.1.no,x.1.v,x.2)
def findNd (L:List (Nd×Nat)) (k:Int):Option Nd:=(L.find? (fun x=>x.1.no == k)).map (·.1)
structure Tab (w:World) (p m:Nat) (last:Int) (L:List (Nd×Nat)) (clk:Nat):Prop where
 blk:Blk w p #[.map (some m),.int .i64 last] 290
 map:MapB w m (L.map tabEnt) clk
 once:KeysOnce (L.map tabEnt)
 low:∀ x∈L,x.1.no≤last
theorem find_none_of_low {L:List (Nd×Nat)} {last:Int} (h:∀ x∈L,x.1.no≤last):mapFind (L.map tabEnt) (last+1)=none:=by
 rw [mapFind_none,List.findIdx?_eq_none_iff];simp only [List.mem_map,forall_exists_index,and_imp];rintro _ x hx rfl;have:=h x hx;simp [tabEnt];omega
theorem add_any (n:Nd) (w:World) (p m:Nat) (last:Int) (L:List (Nd×Nat)) (clk:Nat) (hT:Tab w p m last L clk) (hl0:0≤last) (hl1:last≤1000000) :
  Calls Tryz.prog 191 #[.pointer (some ⟨p,0,none⟩),n.v] w fun e w'=>e=.returned (.int .i64 (last+1))∧Tab w' p m (last+1) (L ++ [({n with no:=last+1},clk)]) (clk+1)∧Mod (fun k=>k=p∨k=m) w w':=by
 obtain⟨pc,pf,pz⟩:=hT.blk.facts;have mz:=hT.map.lt;have hpm:p≠m:=by
  rintro rfl;have h1:=hT.blk;have h2:=hT.map;unfold Blk at h1;unfold MapB at h2;rw [h1] at h2
  cases h2
 have hfn:=find_none_of_low hT.low;have pw:p≠w.heap.size:=by omega
 have wp':w.heap.size≠p:=by omega
 have hq:∀ (w:World) (r:Option Nat),(binOp .eql 288 (.map r) (.map none)).run Tryz.prog w=.ok (.bool r.isNone) w:=fun w r=>run_eql_map_nil w _ _ _ r Tryz.underlying288;unfold Nd.v;go_enter Tryz.func191,Tryz.ntmps191;go_wp2_with fail;have b1:=(hT.blk.set 1 (.int .i64 (last+1))).old (.cells #[.int .i64 (last+1),.int .i64 n.dev,.int .i64 n.kind,.int .i64 n.mode,.int .i64 n.uid,.int .i64 n.gid,.int .i64 n.mtime,.int .i64 n.ctime,.int .i64 n.links,.int .i64 n.up,.string n.data,.slice n.ea n.el n.ec] 163);have b2:=Blk.new (w.setCell ⟨p,1,none⟩ (.int .i64 (last+1))) #[.int .i64 (last+1),.int .i64 n.dev,.int .i64 n.kind,.int .i64 n.mode,.int .i64 n.uid,.int .i64 n.gid,.int .i64 n.mtime,.int .i64 n.ctime,.int .i64 n.links,.int .i64 n.up,.string n.data,.slice n.ea n.el n.ec] 163;have b3:=(hT.map.setOther ⟨p,1,none⟩ (.int .i64 (last+1)) hpm).old (.cells #[.int .i64 (last+1),.int .i64 n.dev,.int .i64 n.kind,.int .i64 n.mode,.int .i64 n.uid,.int .i64 n.gid,.int .i64 n.mtime,.int .i64 n.ctime,.int .i64 n.links,.int .i64 n.up,.string n.data,.slice n.ea n.el n.ec] 163);have b4:=((Mod.refl (fun k=>k=p∨k=m) w).setCell (a:=⟨p,1,none⟩) (.inl (.inl rfl)) (.int .i64 (last+1))).alloc (.cells #[.int .i64 (last+1),.int .i64 n.dev,.int .i64 n.kind,.int .i64 n.mode,.int .i64 n.uid,.int .i64 n.gid,.int .i64 n.mtime,.int .i64 n.ctime,.int .i64 n.links,.int .i64 n.up,.string n.data,.slice n.ea n.el n.ec] 163);rw [World.size_setCell] at b2;generalize (w.setCell ⟨p,1,none⟩ (.int .i64 (last+1))).alloc (.cells #[.int .i64 (last+1),.int .i64 n.dev,.int .i64 n.kind,.int .i64 n.mode,.int .i64 n.uid,.int .i64 n.gid,.int .i64 n.mtime,.int .i64 n.ctime,.int .i64 n.links,.int .i64 n.up,.string n.data,.slice n.ea n.el n.ec] 163)=W at b1 b2 b3 b4 ⊢;obtain⟨pc',-,-⟩:=b1.facts;obtain⟨nc,-,-⟩:=b2.facts;obtain⟨W2,hrun,b5,b6,b7⟩:=step_add (w:=W.drew) Tryz.underlying288 Tryz.underlying3 b3 (.agg #[.int .i64 (last+1),.int .i64 n.dev,.int .i64 n.kind,.int .i64 n.mode,.int .i64 n.uid,.int .i64 n.gid,.int .i64 n.mtime,.int .i64 n.ctime,.int .i64 n.links,.int .i64 n.up,.string n.data,.slice n.ea n.el n.ec]) hfn;obtain⟨nc2,-,-⟩:=(b6 _ _ _ b2).facts;clear pc pf
 go_region
 go_wp2_with fail;go_ret;refine ⟨rfl,⟨b6 _ _ _ b1,by rw [List.map_append];exact b5,?_,?_⟩,(b4.drew).trans (b7.mono fun k hk=>.inr hk)⟩
 ·have:=hT.once;unfold KeysOnce at this ⊢;rw [List.map_append,List.map_append,List.nodup_append];refine ⟨this,by simp,?_⟩;simp only [List.mem_map,List.mem_cons,List.not_mem_nil,or_false,forall_exists_index,and_imp];rintro a y x hx rfl rfl b y' x' rfl rfl rfl;have:=hT.low x hx;simp only [tabEnt];omega
 ·intro x hx;rcases List.mem_append.1 hx with hx | hx
  ·have:=hT.low x hx;omega
  ·simp only [List.mem_cons,List.not_mem_nil,or_false] at hx;subst hx;exact Int.le_refl _
theorem mapFind_tab (L:List (Nd×Nat)) (k:Int):mapFind (L.map tabEnt) k=(findNd L k).map Nd.v:=by
 unfold mapFind findNd;rw [List.find?_map];have:(fun x:Int×Value×Nat=>x.1 == k) ∘ tabEnt=fun x:Nd×Nat=>x.1.no == k:=rfl;rw [this]
 cases List.find? (fun x:Nd×Nat=>x.1.no == k) L <;> rfl
theorem new_table (w:World) :
  Calls Tryz.prog 150 #[] w fun e w'=>e=.returned (.pointer (some ⟨w.heap.size+1,0,none⟩))∧Tab w' (w.heap.size+1) w.heap.size 0 [] 0∧Below w.heap.size w w':=by
 have hmm:=@run_makeMap Tryz.prog;go_enter Tryz.func150,Tryz.ntmps150
 go_wp2
 go_ret;refine ⟨rfl,⟨?_,?_,List.nodup_nil,by simp⟩,by go_grown⟩
 ·have:=Blk.new (w.alloc (.map #[] 0)) #[.map (some w.heap.size),.int .i64 0] 290
  rwa [World.size_alloc] at this
 ·unfold MapB;rw [Below.heap_alloc _ _ _ (by simp)];show (w.heap.push _)[w.heap.size]? = _;simp
theorem get_yes (n:Nd) (k:Int) (w:World) (p m:Nat) (last:Int) (L:List (Nd×Nat)) (clk:Nat) (hT:Tab w p m last L clk) (hf:findNd L k=some n) :
  Calls Tryz.prog 132 #[.pointer (some ⟨p,0,none⟩),.int .i64 k] w fun e w'=>e=.returned (.tuple #[n.v,.bool true])∧Below w.heap.size w w':=by
 obtain⟨pc,pf,pz⟩:=hT.blk.facts;have hr:∀ o,(Instr.lookup 288 (.map (some m)) (.int .i64 k) true).run Tryz.prog (w.alloc o)=.ok (.tuple #[.agg #[.int .i64 n.no,.int .i64 n.dev,.int .i64 n.kind,.int .i64 n.mode,.int .i64 n.uid,.int .i64 n.gid,.int .i64 n.mtime,.int .i64 n.ctime,.int .i64 n.links,.int .i64 n.up,.string n.data,.slice n.ea n.el n.ec],.bool true]) (w.alloc o):=fun o=>
  run_lookup_yes Tryz.underlying288 Tryz.underlying3 (hT.map.old o) (by rw [mapFind_tab,hf];rfl)
 clear hf;unfold Nd.v;go_enter Tryz.func132,Tryz.ntmps132
 go_wp2
 go_returns
 exact⟨rfl,by go_grown⟩
theorem zero_node (w:World):(zeroValue 163).run Tryz.prog w=.ok nd0.v w:=by kernel_rfl
theorem get_no (k:Int) (w:World) (p m:Nat) (last:Int) (L:List (Nd×Nat)) (clk:Nat) (hT:Tab w p m last L clk) (hf:findNd L k=none) :
  Calls Tryz.prog 132 #[.pointer (some ⟨p,0,none⟩),.int .i64 k] w fun e w'=>e=.returned (.tuple #[nd0.v,.bool false])∧Below w.heap.size w w':=by
 obtain⟨pc,pf,pz⟩:=hT.blk.facts;have hr:∀ o,(Instr.lookup 288 (.map (some m)) (.int .i64 k) true).run Tryz.prog (w.alloc o)=.ok (.tuple #[.agg #[.int .i64 0,.int .i64 0,.int .i64 0,.int .i64 0,.int .i64 0,.int .i64 0,.int .i64 0,.int .i64 0,.int .i64 0,.int .i64 0,.string ByteArray.empty,.slice none 0 0],.bool false]) (w.alloc o):=fun o=>
  run_lookup_no Tryz.underlying288 Tryz.underlying3 (hT.map.old o) (by rw [mapFind_tab,hf];rfl) (zero_node _)
 clear hf;unfold Nd.v nd0;go_enter Tryz.func132,Tryz.ntmps132
 go_wp2
 go_returns
 exact⟨rfl,by go_grown⟩
end
end Go.Proofs.YtbndfmkgamdgeaaGreatDoor
