import Derived.Lib.LastIndexByte
import Derived.Test.YtihdbncoijhihaaGreatDoorCT3
import Derived.Test.YtihdbncoijhihaaGreatDoorCT1
import Derived.Test.YtihdbncoijhihaaGreatDoorCT2
set_option linter.unusedVariables false
set_option linter.unusedSimpArgs false
namespace Go.Proofs.YtihdbncoijhihaaGreatDoor
open Go.RowKit
def segL (l : List UInt8) : List UInt8:=(l.reverse.takeWhile (· != 47)).reverse
def trimL (l : List UInt8) : List UInt8:=(l.reverse.dropWhile (· == 47)).reverse
def lastL (l : List UInt8) : List UInt8:=if segL (trimL l)=[46]∨segL (trimL l)=[46,46] then [] else segL (trimL l)
def pathE (s : ByteArray) : Int:=if s.data.toList=[] then 5 else if s.data.toList.head?≠some 47∨(0 : UInt8) ∈ s.data.toList then 1 else if 4096 < s.size then 13 else 0
def pathB (s : ByteArray) : Bool:=pathE s == 0 && lastL s.data.toList != []
theorem segL_snoc (l : List UInt8) (x : UInt8) : segL (l ++ [x])=if x=47 then [] else segL l ++ [x]:=by
 unfold segL
 rw [List.reverse_append,List.reverse_singleton,List.singleton_append,List.takeWhile_cons]
 by_cases h : x=47
 ·subst h;simp
 ·have : (x != 47)=true:=by simpa using h
  rw [this,if_neg h]
  simp
theorem spl_last (l : List UInt8) : (spl 47 l).getLast? = some (segL l):=by
 refine snoc_ind (P:=fun l=>(spl 47 l).getLast? = some (segL l)) rfl (fun l x ih=>?_) l
 rw [spl_snoc,segL_snoc]
 unfold splStep
 have hl:=(spl_len 47 l).1
 by_cases h : x=47
 ·rw [if_pos h,if_pos h];simp
 ·rw [if_neg h,if_neg h]
  rw [List.getLast?_eq_getElem?] at ih ⊢
  rw [List.length_set,List.getElem?_set_self (by omega)]
  rw [List.getD_eq_getElem?_getD,ih]
  rfl
def hasB (s : ByteArray) (c : UInt8) : Bool:=decide (c ∈ s.data.toList)
set_option maxRecDepth 100000 in
set_option maxHeartbeats 400000 in
theorem has_any (s : ByteArray) (c : UInt8) (w : World) (hs : s.size≤100000) :
  Calls Tryz.prog 158 #[.string s,.int .u8 c.toNat] w fun e w'=>e=.returned (.bool (hasB s c))∧w=w':=by
 go_enter Tryz.func158,Tryz.ntmps158
 go_wp2_with fail
 go_loop [5] (fun t5=>∃ k : Nat,k≤s.size∧t5=.int .i64 k∧∀ j (h : j < s.size),j < k→s[j]≠c) (fun t5=>s.size - (intOf t5).toNat)
 case atStart=>exact ⟨0,Nat.zero_le _,rfl,fun j _ h=>absurd h (Nat.not_lt_zero _)⟩
 case round=>
  obtain⟨k,hk,rfl,hn⟩:=hrel
  have Hn:=Lib.hid hn
  clear hn
  by_cases hlt : k < s.size
  ·by_cases he : s[k]=c
   ·have HE:=Lib.hid he
    have he1 : ((s[k].toNat : Int) == (c.toNat : Int))=true:=by rw [he];simp
    clear he
    go_wp2_with fail
    go_ret
    refine ⟨ret_bool ?_,rfl⟩
    have : c ∈ s.data.toList:=by
     rw [← HE.out]
     exact List.getElem_mem (l:=s.data.toList) (n:=k) (by simpa using hlt)
    exact (decide_eq_true this).symm
   ·have HE:=Lib.hid he
    have he1 : ((s[k].toNat : Int) == (c.toNat : Int))=false:=by
     simp only [beq_eq_false_iff_ne,ne_eq]
     intro h
     exact he (by rw [u8_eq];omega)
    clear he
    go_wp2_with fail
    go_round
    case measure=>simp [intOf];omega
    case rel=>
     refine ⟨k + 1,by omega,by go_num,fun j hj hjk=>?_⟩
     by_cases e : j=k
     ·subst e;exact HE.out
     ·exact Hn.out j hj (by omega)
  ·obtain rfl : k=s.size:=by omega
   go_wp2_with fail
   go_ret
   refine ⟨ret_bool ?_,rfl⟩
   have : ¬ c ∈ s.data.toList:=by
    intro h
    obtain⟨j,hj,rfl⟩:=List.getElem_of_mem h
    have hj' : j < s.size:=by simpa using hj
    exact Hn.out j hj' hj' rfl
   exact (decide_eq_false this).symm
theorem segL_app (a b : List UInt8) (hb : ∀ x ∈ b,x≠47) : segL (a ++ b)=segL a ++ b:=by
 revert hb
 refine snoc_ind (P:=fun b=>(∀ x ∈ b,x≠47)→segL (a ++ b)=segL a ++ b) (by simp) (fun b x ih hb=>?_) b
 rw [← List.append_assoc,segL_snoc,if_neg (hb x (by simp)),ih (fun y hy=>hb y (List.mem_append_left _ hy)),List.append_assoc]
theorem seg_idx (s : ByteArray) : ∃ i : Nat,Lib.lastIndexByte s 47=(i : Int) - 1∧i≤s.size∧s.data.toList.drop i=segL s.data.toList:=by
 have hg : ∀ j (h : j < s.size),s.data[j]! = s.data.toList[j]'(by simpa using h):=fun j h=>by
  rw [getElem!_pos s.data j h];rfl
 rcases Lib.lastIdx_spec s 47 s.size with ⟨h1,h2⟩ | ⟨i,hi,h1,h2,h3⟩
 ·refine ⟨0,by unfold Lib.lastIndexByte;rw [h1];rfl,Nat.zero_le _,?_⟩
  have hb : ∀ x ∈ s.data.toList,x≠47:=by
   intro x hx
   obtain⟨j,hj,rfl⟩:=List.getElem_of_mem hx
   have hj' : j < s.size:=by simpa using hj
   have:=h2 j hj'
   rw [hg j hj'] at this
   intro e
   rw [e] at this
   exact this rfl
  have:=segL_app [] s.data.toList hb
  rw [List.nil_append] at this
  rw [this]
  rfl
 ·refine ⟨i + 1,by unfold Lib.lastIndexByte;rw [h1];omega,hi,?_⟩
  have hi' : i < s.data.toList.length:=by simpa using hi
  have hb : ∀ x ∈ s.data.toList.drop (i + 1),x≠47:=by
   intro x hx
   obtain⟨j,hj,rfl⟩:=List.getElem_of_mem hx
   rw [List.length_drop] at hj
   have hj' : i + 1 + j < s.size:=by
    have : s.data.toList.length=s.size:=Array.length_toList
    omega
   have:=h3 (i + 1 + j) (by omega) hj'
   rw [hg _ hj'] at this
   intro e
   rw [List.getElem_drop] at e
   rw [e] at this
   exact this rfl
  have h47 : s.data.toList[i]=47:=by
   rw [hg i hi] at h2
   rw [u8_eq]
   show (s.data.toList[i]).toNat=47
   omega
  have hsp : s.data.toList=(s.data.toList.take i ++ [47]) ++ s.data.toList.drop (i + 1):=by
   rw [← h47,← List.take_succ_eq_append_getElem,List.take_append_drop]
  have h5:=segL_app (s.data.toList.take i ++ [47]) (s.data.toList.drop (i + 1)) hb
  rw [← hsp,segL_snoc,if_pos rfl,List.nil_append] at h5
  exact h5.symm
set_option maxRecDepth 100000 in
set_option maxHeartbeats 400000 in
theorem tail_any (s : ByteArray) (w : World) (hs : s.size≤100000) :
  Calls Tryz.prog 159 #[.string s] w fun e w'=>e=.returned (.string (str (segL s.data.toList)))∧w=w':=by
 obtain⟨i,h1,h2,h3⟩:=seg_idx s
 have hc:=Lib.hid (show ∀ w,Calls Tryz.prog 216 #[.string s,.int .u8 47] w fun e w'=>e=.returned (.int .i64 ((i : Int) - 1))∧w=w' from fun w=>by
  refine (Tryz.strings_LastIndexByte s 47 (by omega) w).mono ?_
  rintro e w' ⟨rfl,rfl⟩
  exact⟨by rw [h1],rfl⟩)
 have hx:=Lib.hid (show s.extract i s.size=str (segL s.data.toList) by
  rw [← h3]
  apply ba_ext
  rw [ByteArray.toList_eq,ByteArray.toList_eq,ByteArray.data_extract]
  show (s.data.extract i s.data.size).toList=_
  rw [Array.toList_extract,List.extract_eq_take_drop]
  show List.take (s.data.size - i) (List.drop i s.data.toList)=List.drop i s.data.toList
  exact List.take_of_length_le (by rw [List.length_drop,Array.length_toList];omega))
 clear h1 h3
 go_enter Tryz.func159,Tryz.ntmps159
 go_wp2_with (go_at_call 216;refine (hc.out _).mono ?_;rintro e w1 ⟨rfl,rfl⟩)
 go_ret
 exact⟨by rw [← hx.out];rfl,rfl⟩
end Go.Proofs.YtihdbncoijhihaaGreatDoor
namespace Go.Proofs.YtihdbncoijhihaaGreatDoor
open Go.RowKit
theorem str_list (l : List UInt8) : (str l).data.toList=l:=by simp [str]
theorem ba_list (t : ByteArray) : t.toList=t.data.toList:=ByteArray.toList_eq t
theorem trimL_len (l : List UInt8) : (trimL l).length≤l.length:=by
 unfold trimL
 rw [List.length_reverse]
 have:=(List.dropWhile_sublist (l:=l.reverse) (fun x=>x == 47)).length_le
 rwa [List.length_reverse] at this
theorem trimL_snoc (l : List UInt8) (x : UInt8) : trimL (l ++ [x])=if x=47 then trimL l else l ++ [x]:=by
 unfold trimL
 rw [List.reverse_append,List.reverse_singleton,List.singleton_append,List.dropWhile_cons]
 by_cases h : x=47
 ·subst h;simp
 ·have : (x == 47)=false:=by simpa using h
  rw [this,if_neg h]
  simp
end Go.Proofs.YtihdbncoijhihaaGreatDoor
namespace Go.Proofs.YtihdbncoijhihaaGreatDoor
open Go.RowKit
def permB (cu cg uid gid mode want : Int) : Bool:=
 if cu=0 then true else
  (bits .and .i64 (bits .and .i64 (if cu=uid then mode / 64 else if cg=gid then mode / 8 else mode) want) 7 == bits .and .i64 want 7)
structure Cr where
 u : Int
 g : Int
def An.may (a : An) (c : Cr) (want : Int) : Bool:=permB c.u c.g a.uid a.gid a.mode want
def ownsB (c : Cr) (a : An) : Bool:=(c.u == 0) || (c.u == a.uid)
def idB (u g : Int) : Bool:=decide (0≤u∧u≤2147483648∧0≤g∧g≤2147483648)
def Fs.dev (S : Fs) (d : Int) : Option Dv:=if 1≤d then S.ds[(d - 1).toNat]? else none
def Fs.setDev (S : Fs) (d : Int) (v : Dv) : Fs:={ S with ds:=S.ds.set (d - 1).toNat v }
def Fs.addRoot (S : Fs) (over blocks nodes : Int) : Fs:=
 {ns:=S.ns ++ [{ an0 with no:=S.last + 1,dev:=S.ds.length + 1,kind:=1,mode:=493,links:=1,up:=S.last + 1 }]
  ds:=S.ds ++ [⟨S.last + 1,over,1,1,blocks,nodes⟩]
  last:=S.last + 1 }
def fs0 : Fs:=⟨[],[],0⟩
def Fs.mount (S : Fs) (k blocks nodes : Int) : Fs × Int × Int:=
 match S.get k with
 | none=>(S,0,5)
 | some a=>
  if a.kind≠1 then (S,0,9)
  else if S.over k≠k∨S.root a.dev=k then (S,0,16)
  else if 8≤S.ds.length∨limB blocks nodes=false then (S,0,3)
  else (S.addRoot k blocks nodes,S.last + 1,0)
def Fs.above (S : Fs) (k : Int) : Int:=
 match S.get k with
 | none=>0
 | some a=>
  if a.kind≠1 then 0
  else if S.root a.dev=k∧1 < a.dev then
   (match S.dev a.dev with
    | none=>0
    | some v=>match S.get v.over with | none=>0 | some b=>b.up)
  else a.up
def Fs.make (S : Fs) (a : An) : Fs × Int × Int:=
 if S.root a.dev=0 then (S,0,1) else
 match S.dev a.dev with
 | none=>(S,0,1)
 | some v=>
  let e:=tkE v.b v.n v.mb v.mn (blkI a.kind a.data.size) 1
  if e=0 then (((S.setDev a.dev { v with b:=v.b + blkI a.kind a.data.size,n:=v.n + 1 }).add a),S.last + 1,0)
  else (S,0,e)
def partsL (l : List UInt8) : List (List UInt8):=(spl 47 l).filter fun p=>!(p == []) && !(p == [46])
def slashB (l : List UInt8) : Bool:=segL l == [] || segL l == [46] || segL l == [46,46]
structure Fd where
 dir : Int
 name : ByteArray
 no : Int
 slash : Bool
def fd0 : Fd:=⟨0,ByteArray.empty,0,false⟩
def Fs.step (S : Fs) (c : Cr) (at' : Int) (p : List UInt8) : Int × Int:=
 match S.get at' with
 | none=>(0,9)
 | some d=>
  if d.kind≠1 then (0,9)
  else if d.may c 1=false then (0,6)
  else if p=[46,46] then (S.above at',0)
  else if 255 < p.length then (0,13)
  else (S.over (entFind d.ents (str p)),0)
def Fs.seekL (S : Fs) (c : Cr) (follow : Bool) (k : Option (Int→Bool→List (List UInt8)→Fd × Int)) : List (List UInt8)→Int→Bool→Fd × Int
 | [],at',_=>(⟨0,ByteArray.empty,at',true⟩,0)
 | p :: l,at',must=>
  let r:=S.step c at' p
  if r.2≠0 then (fd0,r.2)
  else if p=[46,46] then S.seekL c follow k l r.1 must
  else match S.get r.1 with
  | none=>if l=[] then (⟨at',str p,0,must⟩,0) else (fd0,5)
  | some n=>
   if n.kind=3∧(l≠[]∨must=true∨follow=true) then
    (match k with
     | none=>(fd0,12)
     | some k=>
      if n.data.data.toList=[] then (fd0,5)
      else k (if n.data.data.toList.head? = some 47 then 1 else at') (if l=[] then must || slashB n.data.data.toList else must) (partsL n.data.data.toList ++ l))
   else if n.kind≠1∧(l≠[]∨must=true) then (fd0,9)
   else if l=[] then (⟨at',str p,r.1,must⟩,0)
   else S.seekL c follow k l r.1 must
def Fs.seekH (S : Fs) (c : Cr) (follow : Bool) : Nat→Int→Bool→List (List UInt8)→Fd × Int
 | 0,at',must,l=>S.seekL c follow none l at' must
 | h + 1,at',must,l=>S.seekL c follow (some (S.seekH c follow h)) l at' must
def Fs.path (S : Fs) (c : Cr) (s : ByteArray) (follow : Bool) : Fd × Int:=
 if pathE s≠0 then (fd0,pathE s) else S.seekH c follow 8 1 (slashB s.data.toList) (partsL s.data.toList)
def checkE (s : ByteArray) : Int:=
 if s.data.toList=[]∨s.data.toList=[46]∨s.data.toList=[46,46]∨(47 : UInt8) ∈ s.data.toList∨(0 : UInt8) ∈ s.data.toList then 1 else if 255 < s.size then 13 else 0
def Fs.placeE (S : Fs) (c : Cr) (dir : Int) (s : ByteArray) : Int:=
 match S.get dir with
 | none=>5
 | some d=>if d.kind≠1 then 9 else if checkE s≠0 then checkE s else if d.may c 3=false then 6 else 0
def Fs.touch (S : Fs) (now dir : Int) (l : List En) : Fs:=
 match S.get dir with
 | none=>S
 | some d=>S.set { d with ents:=l,mtime:=now,ctime:=now }
def Fs.come (S : Fs) (c : Cr) (now dir : Int) (s : ByteArray) (a : An) : Fs × Int × Int:=
 if S.placeE c dir s≠0 then (S,0,S.placeE c dir s) else
 match S.get dir with
 | none=>(S,0,5)
 | some d=>
  if entFind d.ents s≠0 then (S,0,7)
  else
   let r:=S.make { a with dev:=d.dev,uid:=c.u,gid:=c.g,mtime:=now,ctime:=now,links:=1 }
   if r.2.2≠0 then (S,0,r.2.2)
   else (r.1.touch now dir (entPut d.ents s r.2.1),r.2.1,0)
def Fs.mkdir (S : Fs) (c : Cr) (now dir : Int) (s : ByteArray) (mode : Int) : Fs × Int × Int:=
 if mode < 0∨1023 < mode then (S,0,1) else S.come c now dir s { an0 with kind:=1,mode:=mode,up:=dir }
def Fs.file (S : Fs) (c : Cr) (now dir : Int) (s : ByteArray) (mode : Int) (data : ByteArray) : Fs × Int × Int:=
 if mode < 0∨1023 < mode then (S,0,1) else if 1048576 < data.size then (S,0,3) else S.come c now dir s { an0 with kind:=2,mode:=mode,data:=data }
def Fs.sym (S : Fs) (c : Cr) (now dir : Int) (s text : ByteArray) : Fs × Int × Int:=
 if text.data.toList=[]∨(0 : UInt8) ∈ text.data.toList then (S,0,1) else if 4096 < text.size then (S,0,13) else S.come c now dir s { an0 with kind:=3,mode:=511,data:=text }
def Fs.hard (S : Fs) (c : Cr) (now no dir : Int) (s : ByteArray) : Fs × Int:=
 if S.placeE c dir s≠0 then (S,S.placeE c dir s) else
 match S.get dir,S.get no with
 | some d,some n=>
  if n.kind=1 then (S,4)
  else if entFind d.ents s≠0 then (S,7)
  else if n.dev≠d.dev then (S,11)
  else if 1000≤n.links then (S,18)
  else ((S.set { n with links:=n.links + 1,ctime:=now }).touch now dir (entPut d.ents s no),0)
 | _,_=>(S,5)
def Fs.chmod (S : Fs) (c : Cr) (now no mode : Int) : Fs × Int:=
 match S.get no with
 | none=>(S,5)
 | some n=>if ownsB c n=false then (S,4) else if mode < 0∨1023 < mode∨n.kind=3 then (S,1) else (S.set { n with mode:=mode,ctime:=now },0)
def Fs.chown (S : Fs) (c : Cr) (now no u g : Int) : Fs × Int:=
 match S.get no with
 | none=>(S,5)
 | some n=>if ownsB c n=false then (S,4) else if c.u≠0 then (S,4) else if idB u g=false then (S,1) else (S.set { n with uid:=u,gid:=g,ctime:=now },0)
def Fs.utime (S : Fs) (c : Cr) (now no t : Int) : Fs × Int:=
 match S.get no with
 | none=>(S,5)
 | some n=>if ownsB c n=false then (S,4) else if t < 0∨253402300799 < t then (S,1) else (S.set { n with mtime:=t,ctime:=now },0)
structure Sy where
 fs : Fs
 now : Int
 count : Int
 plan : List (Int × Int)
 dead : Bool
def Sy.change (Y : Sy) : Sy × Int:=
 if Y.dead then (Y,20) else
 match Y.plan.find? (fun x=>x.1 == Y.count + 1) with
 | none=>({ Y with count:=Y.count + 1 },0)
 | some x=>({ Y with count:=Y.count + 1,dead:=x.2 == 20 },x.2)
end Go.Proofs.YtihdbncoijhihaaGreatDoor
namespace Go.Proofs.YtihdbncoijhihaaGreatDoor
open Go.RowKit
theorem put_len (l : List En) (n : ByteArray) (no : Int) (h : Rise l) : (entPut l n no).length≤l.length + 1:=by
 rw [put_at h,List.length_append,List.length_take,List.length_cons,List.length_drop]
 have:=entAt_le l n
 omega
structure AnOk (a : An) (D N : Nat) : Prop where
 rise : Rise a.ents
 few : a.ents.length≤N
 dev : 1≤a.dev∧a.dev≤D
 links : 0≤a.links∧a.links≤1000
 data : a.data.size≤1048576
 mode : 0≤a.mode∧a.mode≤1023
 kind : 1≤a.kind∧a.kind≤3
 nz : ∀ x ∈ a.ents,1≤x.no
 sy : a.kind=3→a.data.size≤4096
theorem put_nz {l : List En} (h : ∀ x ∈ l,1≤x.no) (n : ByteArray) {no : Int} (hn : 1≤no) : ∀ x ∈ entPut l n no,1≤x.no:=by
 intro x hx
 unfold entPut at hx
 rcases List.mem_append.1 hx with hx | hx
 ·exact h x (List.mem_filter.1 hx).1
 ·rcases List.mem_cons.1 hx with rfl | hx
  ·exact hn
  ·exact h x (List.mem_filter.1 hx).1
structure FsOk (S : Fs) (N : Nat) : Prop where
 nums : Nums S
 l0 : 0≤S.last
 lN : S.last≤N
 all : ∀ a ∈ S.ns,AnOk a S.ds.length N
 d1 : 1≤S.ds.length
 d8 : S.ds.length≤8
 root : ∀ d ∈ S.ds,1≤d.root∧d.root≤S.last
theorem AnOk.mono {a : An} {D D' N N' : Nat} (h : AnOk a D N) (hD : D≤D') (hN : N≤N') : AnOk a D' N':=
 ⟨h.rise,Nat.le_trans h.few hN,⟨h.dev.1,by have:=h.dev.2;omega⟩,h.links,h.data,h.mode,h.kind,h.nz,h.sy⟩
theorem FsOk.mono {S : Fs} {N N' : Nat} (h : FsOk S N) (hN : N≤N') : FsOk S N':=
 ⟨h.nums,h.l0,by have:=h.lN;omega,fun a ha=>(h.all a ha).mono (Nat.le_refl _) hN,h.d1,h.d8,h.root⟩
theorem FsOk.get {S : Fs} {N : Nat} (h : FsOk S N) {k : Int} {a : An} (hg : S.get k=some a) : AnOk a S.ds.length N∧a.no=k∧1≤k∧k≤S.last:=by
 have hm:=an_mem hg
 have hn:=an_no hg
 have:=h.nums.low a hm
 exact⟨h.all a hm,hn,by omega,by omega⟩
theorem FsOk.set {S : Fs} {N : Nat} (h : FsOk S N) {a : An} (ha : AnOk a S.ds.length N) : FsOk (S.set a) N:=by
 refine ⟨h.nums.set a,h.l0,h.lN,fun x hx=>?_,h.d1,h.d8,h.root⟩
 unfold Fs.set at hx
 simp only [List.mem_map] at hx
 obtain⟨y,hy,rfl⟩:=hx
 split
 ·exact ha
 ·exact h.all y hy
theorem FsOk.add {S : Fs} {N : Nat} (h : FsOk S N) {a : An} (ha : AnOk a S.ds.length (N + 1)) : FsOk (S.add a) (N + 1):=by
 refine ⟨h.nums.add h.l0 a,?_,?_,fun x hx=>?_,h.d1,h.d8,fun d hd=>?_⟩
 ·show 0≤S.last + 1;have:=h.l0;omega
 ·show S.last + 1≤((N + 1 : Nat) : Int);have:=h.lN;omega
 ·rcases List.mem_append.1 hx with hx | hx
  ·exact (h.all x hx).mono (Nat.le_refl _) (by omega)
  ·simp at hx;subst hx;exact ⟨ha.rise,ha.few,ha.dev,ha.links,ha.data,ha.mode,ha.kind,ha.nz,ha.sy⟩
 ·have:=h.root d hd
  show 1≤d.root∧d.root≤S.last + 1
  omega
theorem FsOk.setDev {S : Fs} {N : Nat} (h : FsOk S N) {d : Int} {v u : Dv} (hv : S.dev d=some v) (hu : u.root=v.root) : FsOk (S.setDev d u) N:=by
 unfold Fs.dev at hv
 split at hv
 ·refine ⟨⟨h.nums.rise,h.nums.low⟩,h.l0,h.lN,fun a ha=>?_,?_,?_,fun x hx=>?_⟩
  ·unfold Fs.setDev;simp only [List.length_set];exact h.all a ha
  ·unfold Fs.setDev;simp only [List.length_set];exact h.d1
  ·unfold Fs.setDev;simp only [List.length_set];exact h.d8
  ·rcases List.mem_or_eq_of_mem_set hx with hx | rfl
   ·exact h.root x hx
   ·rw [hu];exact h.root v (List.mem_of_getElem? hv)
 ·cases hv
theorem dev_of {S : Fs} {d : Int} (h1 : 1≤d) (h2 : d≤S.ds.length) : ∃ v,S.dev d=some v∧S.ds[(d - 1).toNat]? = some v:=by
 unfold Fs.dev
 rw [if_pos h1]
 have : (d - 1).toNat < S.ds.length:=by omega
 exact⟨_,List.getElem?_eq_getElem this,List.getElem?_eq_getElem this⟩
theorem root_of {S : Fs} {N : Nat} (h : FsOk S N) {d : Int} (h1 : 1≤d) (h2 : d≤S.ds.length) : ∃ v,S.dev d=some v∧S.root d=v.root∧1≤v.root∧v ∈ S.ds:=by
 obtain⟨v,hv,hg⟩:=dev_of h1 h2
 refine ⟨v,hv,?_,(h.root v (List.mem_of_getElem? hg)).1,List.mem_of_getElem? hg⟩
 unfold Fs.root
 rw [if_pos ⟨h1,h2⟩,hg]
theorem root_no {S : Fs} {d : Int} (h : ¬ (1≤d∧d≤S.ds.length)) : S.root d=0:=by
 unfold Fs.root
 rw [if_neg h]
theorem rise_nil : Rise []:=List.Pairwise.nil
theorem FsOk.addRoot {S : Fs} {N : Nat} (hn : Nums S) (l0 : 0≤S.last) (lN : S.last≤N) (hall : ∀ a ∈ S.ns,AnOk a S.ds.length N) (d8 : S.ds.length≤7) (hroot : ∀ d ∈ S.ds,1≤d.root∧d.root≤S.last) (over b n : Int) : FsOk (S.addRoot over b n) (N + 1):=by
 refine ⟨?_,?_,?_,fun x hx=>?_,?_,?_,fun d hd=>?_⟩
 ·have:=hn.add l0 { an0 with dev:=S.ds.length + 1,kind:=1,mode:=493,links:=1,up:=S.last + 1 }
  exact⟨this.rise,this.low⟩
 ·show 0≤S.last + 1;omega
 ·show S.last + 1≤((N + 1 : Nat) : Int);omega
 ·show AnOk x (S.ds ++ [_]).length (N + 1)
  rw [List.length_append,List.length_singleton]
  rcases List.mem_append.1 hx with hx | hx
  ·exact (hall x hx).mono (by omega) (by omega)
  ·simp at hx;subst hx
   exact⟨rise_nil,Nat.zero_le _,⟨by show 1≤(S.ds.length : Int) + 1;omega,by show (S.ds.length : Int) + 1≤((S.ds.length + 1 : Nat) : Int);omega⟩,⟨by dsimp only;decide,by dsimp only;decide⟩,by show (0 : Nat)≤_;omega,⟨by dsimp only;decide,by dsimp only;decide⟩,⟨by dsimp only;decide,by dsimp only;decide⟩,fun x hx=>(by simp [an0] at hx),fun h=>absurd h (by dsimp only;decide)⟩
 ·show 1≤(S.ds ++ [_]).length;rw [List.length_append,List.length_singleton];omega
 ·show (S.ds ++ [_]).length≤8;rw [List.length_append,List.length_singleton];omega
 ·show 1≤d.root∧d.root≤S.last + 1
  rcases List.mem_append.1 hd with hd | hd
  ·have:=hroot d hd;omega
  ·simp at hd;subst hd;simp;omega
theorem FsOk.new (b n : Int) : FsOk (fs0.addRoot 0 b n) 1:=
 FsOk.addRoot (S:=fs0) (N:=0) ⟨List.Pairwise.nil,fun x hx=>by simp [fs0] at hx⟩ (by decide) (by decide) (fun x hx=>by simp [fs0] at hx) (by decide) (fun x hx=>by simp [fs0] at hx) 0 b n
theorem FsOk.mount {S : Fs} {N : Nat} (h : FsOk S N) (k b n : Int) : FsOk (S.mount k b n).1 (N + 1):=by
 have h1:=h.mono (Nat.le_succ N)
 unfold Fs.mount
 split
 ·exact h1
 ·split
  ·exact h1
  ·split
   ·exact h1
   ·split
    ·exact h1
    ·rename_i hd
     exact FsOk.addRoot h.nums h.l0 h.lN h.all (by omega) h.root k b n
theorem FsOk.make {S : Fs} {N : Nat} (h : FsOk S N) {a : An} (ha : AnOk a S.ds.length (N + 1)) : FsOk (S.make a).1 (N + 1):=by
 have h1:=h.mono (Nat.le_succ N)
 unfold Fs.make
 split
 ·exact h1
 ·split
  ·exact h1
  ·rename_i v hv
   simp only
   split
   ·have h2:=h.setDev (u:={ v with b:=v.b + blkI a.kind a.data.size,n:=v.n + 1 }) hv rfl
    exact h2.add (by unfold Fs.setDev;simp only [List.length_set];exact ha)
   ·exact h1
theorem FsOk.touch {S : Fs} {N : Nat} (h : FsOk S N) (now dir : Int) (l : List En) (hl : Rise l) (hN : l.length≤N) (hz : ∀ x ∈ l,1≤x.no) : FsOk (S.touch now dir l) N:=by
 unfold Fs.touch
 split
 ·exact h
 ·rename_i d hd
  have:=h.get hd
  exact h.set ⟨hl,hN,this.1.dev,this.1.links,this.1.data,this.1.mode,this.1.kind,hz,this.1.sy⟩
theorem make_nz {S : Fs} (h : 0≤S.last) (a : An) (hz : (S.make a).2.2=0) : 1≤(S.make a).2.1:=by
 revert hz
 unfold Fs.make
 split
 ·intro hz;cases hz
 ·split
  ·intro hz;cases hz
  ·simp only
   split
   ·intro _;show 1≤S.last + 1;omega
   ·rename_i hz;intro hz2;exact absurd hz2 hz
theorem come_ok {S : Fs} {N : Nat} (h : FsOk S N) {a : An} (c : Cr) (now dir : Int) (s : ByteArray) (hr : a.ents=[]) (hd : a.data.size≤1048576) (hm : 0≤a.mode∧a.mode≤1023) (hk : 1≤a.kind∧a.kind≤3) (hsy : a.kind=3→a.data.size≤4096) : FsOk (S.come c now dir s a).1 (N + 1):=by
 have h1:=h.mono (Nat.le_succ N)
 unfold Fs.come
 split
 ·exact h1
 ·split
  ·exact h1
  ·rename_i d hg
   split
   ·exact h1
   ·obtain ⟨hdo,-,-,-⟩:=h.get hg
    have h2:=h.make (a:={ a with dev:=d.dev,uid:=c.u,gid:=c.g,mtime:=now,ctime:=now,links:=1 }) ⟨by rw [show ({ a with dev:=d.dev,uid:=c.u,gid:=c.g,mtime:=now,ctime:=now,links:=1 } : An).ents=a.ents from rfl,hr];exact rise_nil,by show a.ents.length≤N + 1;rw [hr];exact Nat.zero_le _,hdo.dev,⟨by dsimp only;decide,by dsimp only;decide⟩,hd,hm,hk,fun x hx=>(by rw [show ({ a with dev:=d.dev,uid:=c.u,gid:=c.g,mtime:=now,ctime:=now,links:=1 } : An).ents=a.ents from rfl,hr] at hx;cases hx),hsy⟩
    simp only
    split
    ·exact h1
    ·refine h2.touch _ _ _ (rise_put hdo.rise _ _) ?_ (put_nz hdo.nz _ (make_nz h.l0 _ (by rename_i hz;simpa using hz)))
     have:=put_len d.ents s (S.make { a with dev:=d.dev,uid:=c.u,gid:=c.g,mtime:=now,ctime:=now,links:=1 }).2.1 hdo.rise
     have:=hdo.few
     omega
theorem mkdir_ok {S : Fs} {N : Nat} (h : FsOk S N) (c : Cr) (now dir : Int) (s : ByteArray) (m : Int) : FsOk (S.mkdir c now dir s m).1 (N + 1):=by
 unfold Fs.mkdir
 split
 ·exact h.mono (Nat.le_succ N)
 ·exact come_ok h c now dir s rfl (by show (0 : Nat)≤1048576;decide) ⟨by show 0≤m;omega,by show m≤1023;omega⟩ ⟨by dsimp only;decide,by dsimp only;decide⟩ (fun h=>absurd h (by dsimp only;decide))
theorem file_ok {S : Fs} {N : Nat} (h : FsOk S N) (c : Cr) (now dir : Int) (s : ByteArray) (m : Int) (t : ByteArray) : FsOk (S.file c now dir s m t).1 (N + 1):=by
 unfold Fs.file
 split
 ·exact h.mono (Nat.le_succ N)
 ·split
  ·exact h.mono (Nat.le_succ N)
  ·exact come_ok h c now dir s rfl (by show t.size≤_;omega) ⟨by show 0≤m;omega,by show m≤1023;omega⟩ ⟨by show (1 : Int)≤2;decide,by show (2 : Int)≤3;decide⟩ (fun h=>absurd h (by dsimp only;decide))
theorem sym_ok {S : Fs} {N : Nat} (h : FsOk S N) (c : Cr) (now dir : Int) (s t : ByteArray) : FsOk (S.sym c now dir s t).1 (N + 1):=by
 unfold Fs.sym
 split
 ·exact h.mono (Nat.le_succ N)
 ·split
  ·exact h.mono (Nat.le_succ N)
  ·exact come_ok h c now dir s rfl (by show t.size≤_;omega) ⟨by show (0 : Int)≤511;decide,by show (511 : Int)≤1023;decide⟩ ⟨by show (1 : Int)≤3;decide,by show (3 : Int)≤3;decide⟩ (fun _=>by show t.size≤4096;omega)
theorem hard_ok {S : Fs} {N : Nat} (h : FsOk S N) (c : Cr) (now no dir : Int) (s : ByteArray) : FsOk (S.hard c now no dir s).1 (N + 1):=by
 have h1:=h.mono (Nat.le_succ N)
 unfold Fs.hard
 split
 ·exact h1
 ·split
  ·rename_i d n hd hn
   split
   ·exact h1
   ·split
    ·exact h1
    ·split
     ·exact h1
     ·split
      ·exact h1
      ·obtain ⟨ho,-,-,-⟩:=h.get hd
       obtain⟨hm,-,-,-⟩:=h.get hn
       have hm1:=hm.mono (Nat.le_refl _) (Nat.le_succ N)
       refine FsOk.touch (h1.set (a:={ n with links:=n.links + 1,ctime:=now }) ⟨hm1.rise,hm1.few,hm1.dev,⟨by have:=hm1.links.1;show 0≤n.links + 1;omega,by show n.links + 1≤1000;omega⟩,hm1.data,hm1.mode,hm1.kind,hm1.nz,hm1.sy⟩) _ _ _ (rise_put ho.rise _ _) ?_ (put_nz ho.nz _ (h.get hn).2.2.1)
       have:=put_len d.ents s no ho.rise
       have:=ho.few
       omega
  ·exact h1
theorem chmod_ok {S : Fs} {N : Nat} (h : FsOk S N) (c : Cr) (now no m : Int) : FsOk (S.chmod c now no m).1 N:=by
 unfold Fs.chmod
 split
 ·exact h
 ·rename_i n hn
  split
  ·exact h
  ·split
   ·exact h
   ·obtain ⟨hm,-,-,-⟩:=h.get hn
    exact h.set ⟨hm.rise,hm.few,hm.dev,hm.links,hm.data,⟨by show 0≤m;omega,by show m≤1023;omega⟩,hm.kind,hm.nz,hm.sy⟩
theorem chown_ok {S : Fs} {N : Nat} (h : FsOk S N) (c : Cr) (now no u g : Int) : FsOk (S.chown c now no u g).1 N:=by
 unfold Fs.chown
 split
 ·exact h
 ·rename_i n hn
  split
  ·exact h
  ·split
   ·exact h
   ·split
    ·exact h
    ·obtain ⟨hm,-,-,-⟩:=h.get hn
     exact h.set ⟨hm.rise,hm.few,hm.dev,hm.links,hm.data,hm.mode,hm.kind,hm.nz,hm.sy⟩
theorem utime_ok {S : Fs} {N : Nat} (h : FsOk S N) (c : Cr) (now no t : Int) : FsOk (S.utime c now no t).1 N:=by
 unfold Fs.utime
 split
 ·exact h
 ·rename_i n hn
  split
  ·exact h
  ·split
   ·exact h
   ·obtain ⟨hm,-,-,-⟩:=h.get hn
    exact h.set ⟨hm.rise,hm.few,hm.dev,hm.links,hm.data,hm.mode,hm.kind,hm.nz,hm.sy⟩
end Go.Proofs.YtihdbncoijhihaaGreatDoor
namespace Go.Proofs.YtihdbncoijhihaaGreatDoor
open Go.RowKit
theorem spl_app (c : UInt8) (a m : List UInt8) : spl c (a ++ c :: m)=spl c a ++ spl c m:=by
 refine snoc_ind (P:=fun m=>spl c (a ++ c :: m)=spl c a ++ spl c m) ?_ (fun m x ih=>?_) m
 ·rw [spl_snoc,splStep,if_pos rfl];rfl
 ·rw [show a ++ c :: (m ++ [x])=(a ++ c :: m) ++ [x] by simp,spl_snoc,ih,spl_snoc]
  have h0:=(spl_len c m).1
  unfold splStep
  split
  ·simp
  ·rw [List.length_append,List.getD_eq_getElem?_getD,List.getD_eq_getElem?_getD,List.getElem?_append_right (by omega),List.set_append_right _ _ (by omega),show (spl c a).length + (spl c m).length - 1 - (spl c a).length=(spl c m).length - 1 by omega]
theorem spl_none (c : UInt8) (l : List UInt8) : c ∉ l→spl c l=[l]:=by
 refine snoc_ind (P:=fun l=>c ∉ l→spl c l=[l]) (fun _=>rfl) (fun l x ih h=>?_) l
 rw [List.mem_append,List.mem_singleton,not_or] at h
 rw [spl_snoc,ih h.1,splStep,if_neg (fun e=>h.2 e.symm)]
 rfl
theorem extract_list (s : ByteArray) (a b : Nat) : (s.extract a b).data.toList=(s.data.toList.take b).drop a:=by
 rw [Lib.extract_data,List.drop_take]
end Go.Proofs.YtihdbncoijhihaaGreatDoor
namespace Go.Proofs.YtihdbncoijhihaaGreatDoor
open Go.RowKit
section
variable {S : Fs} {c : Cr} {f must : Bool} {h : Nat} {at' : Int} {p : List UInt8} {l : List (List UInt8)} {n : An}
theorem seek_nil : S.seekH c f h at' must []=(⟨0,ByteArray.empty,at',true⟩,0):=by cases h <;> rfl
theorem seek_err (he : (S.step c at' p).2≠0) : S.seekH c f h at' must (p :: l)=(fd0,(S.step c at' p).2):=by
 cases h
 ·show S.seekL c f none (p :: l) at' must=_
  rw [Fs.seekL];simp only;rw [if_pos he]
 ·show S.seekL c f (some _) (p :: l) at' must=_
  rw [Fs.seekL];simp only;rw [if_pos he]
theorem seek_up (he : (S.step c at' p).2=0) (hp : p=[46,46]) : S.seekH c f h at' must (p :: l)=S.seekH c f h (S.step c at' p).1 must l:=by
 cases h
 ·show S.seekL c f none (p :: l) at' must=_
  rw [Fs.seekL];simp only;rw [if_neg (by simp [he]),if_pos hp];rfl
 ·show S.seekL c f (some _) (p :: l) at' must=_
  rw [Fs.seekL];simp only;rw [if_neg (by simp [he]),if_pos hp];rfl
theorem seek_new (he : (S.step c at' p).2=0) (hp : p≠[46,46]) (hg : S.get (S.step c at' p).1=none) (hl : l=[]) : S.seekH c f h at' must (p :: l)=(⟨at',str p,0,must⟩,0):=by
 cases h
 ·show S.seekL c f none (p :: l) at' must=_
  rw [Fs.seekL];simp only;rw [if_neg (by simp [he]),if_neg hp,hg];simp only;rw [if_pos hl]
 ·show S.seekL c f (some _) (p :: l) at' must=_
  rw [Fs.seekL];simp only;rw [if_neg (by simp [he]),if_neg hp,hg];simp only;rw [if_pos hl]
theorem seek_gone (he : (S.step c at' p).2=0) (hp : p≠[46,46]) (hg : S.get (S.step c at' p).1=none) (hl : l≠[]) : S.seekH c f h at' must (p :: l)=(fd0,5):=by
 cases h
 ·show S.seekL c f none (p :: l) at' must=_
  rw [Fs.seekL];simp only;rw [if_neg (by simp [he]),if_neg hp,hg];simp only;rw [if_neg hl]
 ·show S.seekL c f (some _) (p :: l) at' must=_
  rw [Fs.seekL];simp only;rw [if_neg (by simp [he]),if_neg hp,hg];simp only;rw [if_neg hl]
theorem seek_loop (he : (S.step c at' p).2=0) (hp : p≠[46,46]) (hg : S.get (S.step c at' p).1=some n) (hk : n.kind=3∧(l≠[]∨must=true∨f=true)) : S.seekH c f 0 at' must (p :: l)=(fd0,12):=by
 show S.seekL c f none (p :: l) at' must=_
 rw [Fs.seekL];simp only;rw [if_neg (by simp [he]),if_neg hp,hg];simp only;rw [if_pos hk]
theorem seek_void (he : (S.step c at' p).2=0) (hp : p≠[46,46]) (hg : S.get (S.step c at' p).1=some n) (hk : n.kind=3∧(l≠[]∨must=true∨f=true)) (hd : n.data.data.toList=[]) : S.seekH c f (h + 1) at' must (p :: l)=(fd0,5):=by
 show S.seekL c f (some _) (p :: l) at' must=_
 rw [Fs.seekL];simp only;rw [if_neg (by simp [he]),if_neg hp,hg];simp only;rw [if_pos hk,if_pos hd]
theorem seek_link (he : (S.step c at' p).2=0) (hp : p≠[46,46]) (hg : S.get (S.step c at' p).1=some n) (hk : n.kind=3∧(l≠[]∨must=true∨f=true)) (hd : n.data.data.toList≠[]) :
  S.seekH c f (h + 1) at' must (p :: l)=S.seekH c f h (if n.data.data.toList.head? = some 47 then 1 else at') (if l=[] then must || slashB n.data.data.toList else must) (partsL n.data.data.toList ++ l):=by
 show S.seekL c f (some _) (p :: l) at' must=_
 rw [Fs.seekL];simp only;rw [if_neg (by simp [he]),if_neg hp,hg];simp only;rw [if_pos hk,if_neg hd]
theorem seek_file (he : (S.step c at' p).2=0) (hp : p≠[46,46]) (hg : S.get (S.step c at' p).1=some n) (hk : ¬ (n.kind=3∧(l≠[]∨must=true∨f=true))) (hd : n.kind≠1∧(l≠[]∨must=true)) : S.seekH c f h at' must (p :: l)=(fd0,9):=by
 cases h
 ·show S.seekL c f none (p :: l) at' must=_
  rw [Fs.seekL];simp only;rw [if_neg (by simp [he]),if_neg hp,hg];simp only;rw [if_neg hk,if_pos hd]
 ·show S.seekL c f (some _) (p :: l) at' must=_
  rw [Fs.seekL];simp only;rw [if_neg (by simp [he]),if_neg hp,hg];simp only;rw [if_neg hk,if_pos hd]
theorem seek_last (he : (S.step c at' p).2=0) (hp : p≠[46,46]) (hg : S.get (S.step c at' p).1=some n) (hk : ¬ (n.kind=3∧(l≠[]∨must=true∨f=true))) (hd : ¬ (n.kind≠1∧(l≠[]∨must=true))) (hl : l=[]) : S.seekH c f h at' must (p :: l)=(⟨at',str p,(S.step c at' p).1,must⟩,0):=by
 cases h
 ·show S.seekL c f none (p :: l) at' must=_
  rw [Fs.seekL];simp only;rw [if_neg (by simp [he]),if_neg hp,hg];simp only;rw [if_neg hk,if_neg hd,if_pos hl]
 ·show S.seekL c f (some _) (p :: l) at' must=_
  rw [Fs.seekL];simp only;rw [if_neg (by simp [he]),if_neg hp,hg];simp only;rw [if_neg hk,if_neg hd,if_pos hl]
theorem seek_on (he : (S.step c at' p).2=0) (hp : p≠[46,46]) (hg : S.get (S.step c at' p).1=some n) (hk : ¬ (n.kind=3∧(l≠[]∨must=true∨f=true))) (hd : ¬ (n.kind≠1∧(l≠[]∨must=true))) (hl : l≠[]) : S.seekH c f h at' must (p :: l)=S.seekH c f h (S.step c at' p).1 must l:=by
 cases h
 ·show S.seekL c f none (p :: l) at' must=_
  rw [Fs.seekL];simp only;rw [if_neg (by simp [he]),if_neg hp,hg];simp only;rw [if_neg hk,if_neg hd,if_neg hl];rfl
 ·show S.seekL c f (some _) (p :: l) at' must=_
  rw [Fs.seekL];simp only;rw [if_neg (by simp [he]),if_neg hp,hg];simp only;rw [if_neg hk,if_neg hd,if_neg hl];rfl
end
theorem parts_len (l : List UInt8) : (partsL l).length≤l.length + 1:=Nat.le_trans (List.length_filter_le _ _) (spl_len 47 l).2
theorem parts_app (a b : List UInt8) (ha : ∀ x ∈ a,x≠47) : partsL (a ++ 47 :: b)=(if a=[]∨a=[46] then [] else [a]) ++ partsL b:=by
 unfold partsL
 rw [spl_app,spl_none 47 a (fun h=>ha 47 h rfl),List.filter_append]
 congr 1
 by_cases h1 : a=[]
 ·subst h1;rfl
 ·by_cases h2 : a=[46]
  ·subst h2;rfl
  ·rw [if_neg (by rintro (h | h);exact h1 h;exact h2 h)]
   have e1 : (a == [])=false:=by simpa using h1
   have e2 : (a == [46])=false:=by simpa using h2
   simp [h1,h2]
theorem parts_one (a : List UInt8) (ha : ∀ x ∈ a,x≠47) : partsL a=if a=[]∨a=[46] then [] else [a]:=by
 unfold partsL
 rw [spl_none 47 a (fun h=>ha 47 h rfl)]
 by_cases h1 : a=[]
 ·subst h1;rfl
 ·by_cases h2 : a=[46]
  ·subst h2;rfl
  ·rw [if_neg (by rintro (h | h);exact h1 h;exact h2 h)]
   have e1 : (a == [])=false:=by simpa using h1
   have e2 : (a == [46])=false:=by simpa using h2
   simp [h1,h2]
end Go.Proofs.YtihdbncoijhihaaGreatDoor
