import Derived.Deep.LoopGhost
import Derived.Test.YtihdbncoijhihaaGreatCL27
import Derived.Test.YtihdbncoijhihaaGreatProg
import Derived.Test.YtihdbncoijhihaaGreatCL1
import Derived.Test.YtihdbncoijhihaaGreatCL3
set_option linter.unusedVariables false
set_option linter.unusedSimpArgs false
set_option maxRecDepth 100000
set_option maxHeartbeats 16000000
namespace Go.Proofs.YtihdbncoijhihaaGreat
section
open Go.RowKit
structure Wy (S:Fs):Prop where
 ud:∀ a∈S.ns,a.kind=1→∃ b,S.get a.up=some b∧b.kind=1
 sd:∀ a∈S.ns,∀ x∈a.ents,∃ b,S.get x.no=some b∧b.dev=a.dev
 mp:∀ d∈S.ds,d.over≠0→∃ b,S.get d.over=some b∧S.root b.dev≠b.no
theorem Sub.up {S S':Fs} (h:Sub S S') {k:Int} (hk:∃ b,S.get k=some b∧b.kind=1):∃ b,S'.get k=some b∧b.kind=1:=by
 obtain⟨b,hb,h1⟩:=hk;obtain⟨c,hc,e1,-⟩:=h _ _ hb;exact⟨c,hc,by rw [e1];exact h1⟩
theorem Sub.dev {S S':Fs} (h:Sub S S') {k d:Int} (hk:∃ b,S.get k=some b∧b.dev=d):∃ b,S'.get k=some b∧b.dev=d:=by
 obtain⟨b,hb,h1⟩:=hk;obtain⟨c,hc,-,-,e3,-⟩:=h _ _ hb;exact⟨c,hc,by rw [e3];exact h1⟩
theorem Sub.mp {S S':Fs} (h:Sub S S') {k:Int} (hk:∃ b,S.get k=some b∧S.root b.dev≠b.no):∃ b,S'.get k=some b∧S'.root b.dev≠b.no:=by
 obtain⟨b,hb,h1⟩:=hk;obtain⟨c,hc,-,-,e3,e4⟩:=h _ _ hb;refine ⟨c,hc,?_⟩;rw [e3,e4,an_no hc,←an_no hb];exact h1
theorem Wy.set {S:Fs} (h:Wy S) {a b:An} (hb:S.get a.no=some b) (hk:a.kind=b.kind) (hd:a.dev=b.dev) (hu:a.up=b.up) (hr:∀ x∈a.ents,∃ c,S.get x.no=some c∧c.dev=a.dev):Wy (S.set a):=by
 have hsub:Sub S (S.set a):=fun k c hc=>by
  rw [an_set hb];by_cases hka:k=a.no
  ·rw [if_pos hka];rw [hka,hb] at hc;injection hc with hc;subst hc;exact⟨a,rfl,hk,hu,hd,rfl⟩
  ·rw [if_neg hka];exact⟨c,hc,rfl,rfl,rfl,rfl⟩
 refine ⟨fun y hy hyk=>?_,fun y hy x hx=>?_,fun d hd0 ho=>hsub.mp (h.mp d hd0 ho)⟩
 ·unfold Fs.set at hy;simp only [List.mem_map] at hy;obtain⟨z,hz,rfl⟩:=hy
  split at hyk
  ·rename_i he;rw [if_pos he];have:=h.ud b (an_mem hb) (by rw [←hk];exact hyk);rw [←hu] at this;exact hsub.up this
  ·rename_i he;rw [if_neg he];exact hsub.up (h.ud z hz hyk)
 ·unfold Fs.set at hy;simp only [List.mem_map] at hy;obtain⟨z,hz,rfl⟩:=hy
  split at hx
  ·rename_i he;rw [if_pos he];exact hsub.dev (hr x hx)
  ·rename_i he;rw [if_neg he];exact hsub.dev (h.sd z hz x hx)
theorem Wy.setDev {S:Fs} (h:Wy S) {d:Int} {v u:Dv} (hv:S.dev d=some v) (hr:u.root=v.root) (ho:u.over=v.over):Wy (S.setDev d u):=by
 have hsub:Sub S (S.setDev d u):=fun k c hc=>⟨c,hc,rfl,rfl,rfl,setDev_root hv hr _⟩;refine ⟨h.ud,h.sd,fun e he h0=>?_⟩;have hvm:v∈S.ds:=by
  unfold Fs.dev at hv
  split at hv
  ·exact List.mem_of_getElem? hv
  ·cases hv
 unfold Fs.setDev at he;rcases List.mem_or_eq_of_mem_set he with he | rfl
 ·exact hsub.mp (h.mp e he h0)
 ·rw [ho] at h0 ⊢;exact hsub.mp (h.mp v hvm h0)
theorem Wy.add {S:Fs} {N:Nat} (hk:FsOk S N) (h:Wy S) {a:An} (he:a.ents=[]) (hu:a.kind=1→∃ b,S.get a.up=some b∧b.kind=1):Wy (S.add a):=by
 have hsub:=sub_add hk a;refine ⟨fun y hy hyk=>?_,fun y hy x hx=>?_,fun d hd0 ho=>hsub.mp (h.mp d hd0 ho)⟩
 ·rcases List.mem_append.1 hy with hy | hy
  ·exact hsub.up (h.ud y hy hyk)
  ·simp at hy;subst hy;exact hsub.up (hu hyk)
 ·rcases List.mem_append.1 hy with hy | hy
  ·exact hsub.dev (h.sd y hy x hx)
  ·simp at hy;subst hy;rw [show ({a with no:=S.last+1}:An).ents=a.ents from rfl,he] at hx
   cases hx
theorem Wy.addRoot {S:Fs} (hn:Nums S) (hdev:∀ a∈S.ns,a.dev≤S.ds.length) (h:Wy S) (k b n:Int) (h0:k≠0→∃ b,S.get k=some b∧S.root b.dev≠b.no):Wy (S.addRoot k b n):=by
 have hsub:Sub S (S.addRoot k b n):=fun q c hq=>by
  refine ⟨c,?_,rfl,rfl,rfl,addRoot_root S k b n (hdev c (an_mem hq))⟩;unfold Fs.get Fs.addRoot at *;simp only [List.find?_append,hq,Option.some_or]
 refine ⟨fun y hy hyk=>?_,fun y hy x hx=>?_,fun d hd0 ho=>?_⟩
 ·rcases List.mem_append.1 hy with hy | hy
  ·exact hsub.up (h.ud y hy hyk)
  ·simp at hy;subst hy;exact⟨_,addRoot_get hn k b n,rfl⟩
 ·rcases List.mem_append.1 hy with hy | hy
  ·exact hsub.dev (h.sd y hy x hx)
  ·simp at hy;subst hy;simp [an0] at hx
 ·unfold Fs.addRoot at hd0;rcases List.mem_append.1 hd0 with hd0 | hd0
  ·exact hsub.mp (h.mp d hd0 ho)
  ·simp at hd0;subst hd0;exact hsub.mp (h0 ho)
theorem Wy.new (b n:Int):Wy (fs0.addRoot 0 b n):=
 Wy.addRoot ⟨List.Pairwise.nil,fun x hx=>by cases hx⟩ (fun x hx=>by cases hx) ⟨fun x hx=>(by cases hx),fun x hx=>(by cases hx),fun d hd=>(by cases hd)⟩ 0 b n (fun h=>absurd rfl h)
theorem Wy.make {S:Fs} {N:Nat} (hk:FsOk S N) (h:Wy S) {a:An} (he:a.ents=[]) (hu:a.kind=1→∃ b,S.get a.up=some b∧b.kind=1):Wy (S.make a).1:=by
 unfold Fs.make
 split
 ·exact h
 ·split
  ·exact h
  ·rename_i v hv;simp only
   split
   ·have h2:=h.setDev (u:={v with b:=v.b+blkI a.kind a.data.size,n:=v.n+1}) hv rfl rfl;have hk2:=hk.setDev (u:={v with b:=v.b+blkI a.kind a.data.size,n:=v.n+1}) hv rfl;exact h2.add hk2 he hu
   ·exact h
theorem Wy.touch {S:Fs} (h:Wy S) (now dir:Int) (l:List En) (hl:∀ d,S.get dir=some d→∀ x∈l,∃ c,S.get x.no=some c∧c.dev=d.dev):Wy (S.touch now dir l):=by
 unfold Fs.touch
 split
 ·exact h
 ·rename_i d hd;exact h.set (b:=d) (by show S.get d.no=_;rw [an_no hd];exact hd) rfl rfl rfl (hl d hd)
theorem put_dev {S:Fs} {l:List En} {q:Int} (h:∀ x∈l,∃ c,S.get x.no=some c∧c.dev=q) {s:ByteArray} {k:Int} (hk:∃ c,S.get k=some c∧c.dev=q):∀ x∈entPut l s k,∃ c,S.get x.no=some c∧c.dev=q:=by
 intro x hx;unfold entPut at hx;rcases List.mem_append.1 hx with hx | hx
 ·exact h x (List.mem_filter.1 hx).1
 ·rcases List.mem_cons.1 hx with rfl | hx
  ·exact hk
  ·exact h x (List.mem_filter.1 hx).1
theorem Wy.come {S:Fs} {N:Nat} (hk:FsOk S N) (ht:Tr S) (h:Wy S) {a:An} (c:Cr) (now dir:Int) (s:ByteArray) (he:a.ents=[]) (hu:a.kind=1→a.up=dir):Wy (S.come c now dir s a).1:=by
 unfold Fs.come
 split
 ·exact h
 ·rename_i hpl;obtain⟨d,hd,hdk,hce⟩:=place_check (by simpa using hpl);rw [hd];simp only
  split
  ·exact h
  ·obtain ⟨m1,m2,m3⟩:=ht.make hk (a:={a with dev:=d.dev,uid:=c.u,gid:=c.g,mtime:=now,ctime:=now,links:=1}) he;have hm:=h.make hk (a:={a with dev:=d.dev,uid:=c.u,gid:=c.g,mtime:=now,ctime:=now,links:=1}) he (fun hq=>⟨d,by rw [show ({a with dev:=d.dev,uid:=c.u,gid:=c.g,mtime:=now,ctime:=now,links:=1}:An).up=dir from hu hq];exact hd,hdk⟩)
   split
   ·exact h
   ·rename_i h0;obtain⟨e1,e2,e3⟩:=m3 (by simpa using h0);refine hm.touch _ _ _ fun d2 hd2=>?_;obtain⟨d3,hd3,-,-,hv3,-⟩:=m2 _ _ hd;rw [hd2] at hd3;injection hd3 with hd3;subst hd3;rw [e1,hv3];exact put_dev (fun x hx=>m2.dev (h.sd d (an_mem hd) x hx)) ⟨_,e2,rfl⟩
theorem Wy.mkdir {S:Fs} {N:Nat} (hk:FsOk S N) (ht:Tr S) (h:Wy S) (c:Cr) (now dir:Int) (s:ByteArray) (m:Int):Wy (S.mkdir c now dir s m).1:=by
 unfold Fs.mkdir
 split
 ·exact h
 ·exact h.come hk ht c now dir s rfl (fun _=>rfl)
theorem Wy.file {S:Fs} {N:Nat} (hk:FsOk S N) (ht:Tr S) (h:Wy S) (c:Cr) (now dir:Int) (s:ByteArray) (m:Int) (t:ByteArray):Wy (S.file c now dir s m t).1:=by
 unfold Fs.file
 split
 ·exact h
 ·split
  ·exact h
  ·exact h.come hk ht c now dir s rfl (fun hq=>absurd hq (by dsimp only;decide))
theorem Wy.sym {S:Fs} {N:Nat} (hk:FsOk S N) (ht:Tr S) (h:Wy S) (c:Cr) (now dir:Int) (s t:ByteArray):Wy (S.sym c now dir s t).1:=by
 unfold Fs.sym
 split
 ·exact h
 ·split
  ·exact h
  ·exact h.come hk ht c now dir s rfl (fun hq=>absurd hq (by dsimp only;decide))
theorem Wy.same {S:Fs} (h:Wy S) {n m:An} (hn:S.get n.no=some n) (h0:m.no=n.no) (h1:m.kind=n.kind) (h2:m.dev=n.dev) (h3:m.up=n.up) (h4:m.ents=n.ents):Wy (S.set m):=
 h.set (b:=n) (by rw [h0];exact hn) h1 h2 h3 (by rw [h2,h4];exact h.sd n (an_mem hn))
theorem Wy.hard {S:Fs} (h:Wy S) (c:Cr) (now no dir:Int) (s:ByteArray):Wy (S.hard c now no dir s).1:=by
 unfold Fs.hard
 split
 ·exact h
 ·rename_i hpl;obtain⟨d0,hd0,hdk,hce⟩:=place_check (by simpa using hpl)
  split
  ·rename_i d n hd hn;rw [hd] at hd0;injection hd0 with hd0;subst hd0
   split
   ·exact h
   ·rename_i hnk
    split
    ·exact h
    ·split
     ·exact h
     ·rename_i hdv
      split
      ·exact h
      ·have hs:=h.same (m:={n with links:=n.links+1,ctime:=now}) (get_self hn) rfl rfl rfl rfl rfl;have hset:S.get ({n with links:=n.links+1,ctime:=now}:An).no=some n:=get_self hn;have hno:=an_no hn;have hsub:Sub S (S.set {n with links:=n.links+1,ctime:=now}):=fun k c hc=>by
        rw [an_set hset]
        split
        ·rename_i hkn;rw [hkn,hset] at hc;injection hc with hc;subst hc;exact⟨_,rfl,rfl,rfl,rfl,rfl⟩
        ·exact ⟨c,hc,rfl,rfl,rfl,rfl⟩
       refine hs.touch _ _ _ fun d2 hd2=>?_;obtain⟨d3,hd3,-,-,hv3,-⟩:=hsub _ _ hd;rw [hd2] at hd3;injection hd3 with hd3;subst hd3;rw [hv3];exact put_dev (fun x hx=>hsub.dev (h.sd d (an_mem hd) x hx)) (hsub.dev ⟨n,hn,by simpa using hdv⟩)
  ·exact h
theorem Wy.mount {S:Fs} {N:Nat} (hk:FsOk S N) (h:Wy S) (k b n:Int):Wy (S.mount k b n).1:=by
 unfold Fs.mount
 split
 ·exact h
 ·rename_i a ha
  split
  ·exact h
  ·split
   ·exact h
   ·rename_i hr
    split
    ·exact h
    ·exact h.addRoot hk.nums (fun a ha=>(hk.all a ha).dev.2) k b n (fun _=>⟨a,ha,by rw [an_no ha];exact fun e=>hr (.inr e)⟩)
theorem Wy.chmod {S:Fs} (h:Wy S) (c:Cr) (now no m:Int):Wy (S.chmod c now no m).1:=by
 unfold Fs.chmod
 split
 ·exact h
 ·rename_i n hn
  split
  ·exact h
  ·split
   ·exact h
   ·exact h.same (get_self hn) rfl rfl rfl rfl rfl
theorem Wy.chown {S:Fs} (h:Wy S) (c:Cr) (now no u g:Int):Wy (S.chown c now no u g).1:=by
 unfold Fs.chown
 split
 ·exact h
 ·rename_i n hn
  split
  ·exact h
  ·split
   ·exact h
   ·split
    ·exact h
    ·exact h.same (get_self hn) rfl rfl rfl rfl rfl
theorem Wy.utime {S:Fs} (h:Wy S) (c:Cr) (now no t:Int):Wy (S.utime c now no t).1:=by
 unfold Fs.utime
 split
 ·exact h
 ·rename_i n hn
  split
  ·exact h
  ·split
   ·exact h
   ·exact h.same (get_self hn) rfl rfl rfl rfl rfl
theorem Wy.mountF {S:Fs} {N:Nat} (hk:FsOk S N) (ht:Tr S) (h:Wy S) (m:Mt):Wy (mountF S m):=by
 unfold Go.Proofs.YtihdbncoijhihaaGreat.mountF
 split
 ·exact h
 ·split
  ·have h1:=h.mkdir hk ht c00 0 (S.path c00 m.path false).1.dir (S.path c00 m.path false).1.name 493;have hk1:=mkdir_ok hk c00 0 (S.path c00 m.path false).1.dir (S.path c00 m.path false).1.name 493;simp only
   split
   ·exact h1
   ·exact h1.mount hk1 _ _ _
  ·exact h.mount hk _ _ _
theorem Wy.mountsF {S:Fs} {N:Nat} (hk:FsOk S N) (ht:Tr S) (h:Wy S) (l:List Mt):Wy (mountsF S l):=by
 induction l generalizing S N with
 | nil=>exact h
 | cons m l ih=>
  unfold Go.Proofs.YtihdbncoijhihaaGreat.mountsF;by_cases hm:m.path=topB
  ·rw [if_pos hm];exact ih hk ht h
  ·rw [if_neg hm];exact ih (mountF_ok hk m) (ht.mountF hk m) (h.mountF hk ht m)
theorem Wy.nodeF {S:Fs} {N:Nat} (hk:FsOk S N) (ht:Tr S) (h:Wy S) (it:It):Wy (nodeF S it).1:=by
 unfold Go.Proofs.YtihdbncoijhihaaGreat.nodeF;simp only
 split
 ·exact h
 ·split
  ·split <;> exact h
  ·split
   ·exact h.mkdir hk ht _ _ _ _ _
   ·split
    ·exact h.file hk ht _ _ _ _ _ _
    ·split
     ·exact h.sym hk ht _ _ _ _ _
     ·split
      ·split
       ·exact h.hard _ _ _ _ _
       ·exact h
      ·exact h
theorem Wy.itemF {S:Fs} {N:Nat} (hk:FsOk S N) (ht:Tr S) (h:Wy S) (it:It):Wy (itemF S it).1:=by
 unfold Go.Proofs.YtihdbncoijhihaaGreat.itemF;have h1:=h.nodeF hk ht it;simp only
 split
 ·exact (h1.chown _ _ _ _ _).chmod _ _ _ _
 ·exact h1
theorem Wy.itemsF {S:Fs} {N:Nat} (hk:FsOk S N) (ht:Tr S) (h:Wy S) (l:List It):Wy (itemsF S l).1:=by
 induction l generalizing S N with
 | nil=>exact h
 | cons x l ih=>exact ih (itemF_ok2 hk x) (ht.itemF hk x) (h.itemF hk ht x)
theorem Wy.timesF {S:Fs} (h:Wy S) (l:List (It×Int)):Wy (timesF S l):=by
 induction l generalizing S with
 | nil=>exact h
 | cons x l ih=>
  unfold Go.Proofs.YtihdbncoijhihaaGreat.timesF;refine ih ?_
  split
  ·exact h.utime _ _ _ _
  ·exact h
theorem plant_wy (ms:List Mt) (is:List It):Wy (plantF ms is):=by
 unfold plantF;simp only;have hk:=FsOk.new (limitsF ms).1 (limitsF ms).2;exact Wy.timesF (Wy.itemsF (mountsF_ok hk ms) (Tr.mountsF hk (Tr.new _ _) ms) (Wy.mountsF hk (Tr.new _ _) (Wy.new _ _) ms) is) _
end
section
open Go.RowKit
theorem toNat_div {m b:Int} (hm:0≤m) (hb:0≤b):(m / b).toNat=m.toNat / b.toNat:=by
 obtain⟨m,rfl⟩:=Int.eq_ofNat_of_zero_le hm;obtain⟨b,rfl⟩:=Int.eq_ofNat_of_zero_le hb;rfl
theorem toNat_mod {m b:Int} (hm:0≤m) (hb:0≤b):(m % b).toNat=m.toNat % b.toNat:=by
 obtain⟨m,rfl⟩:=Int.eq_ofNat_of_zero_le hm;obtain⟨b,rfl⟩:=Int.eq_ofNat_of_zero_le hb;rfl
theorem u8_mod {b m:Int} (hb0:2≤b) (hb1:b≤10):0≤m % b∧m % b≤9:=by
 have:=Int.emod_nonneg m (show b≠0 by omega);have:=Int.emod_lt_of_pos m (show 0<b by omega);omega
theorem base_any (n b:Int) (w:World) (hn0:0≤n) (hn1:n≤18446744073709551615) (hb0:2≤b) (hb1:b≤10) :
  Calls Tryz.prog 191 #[.int .u64 n,.int .u64 b] w fun e w'=>e=.returned (.string (str (dig b.toNat n.toNat)))∧Below w.heap.size w w':=by
 have kc:=fun (w:World) (v:Int)=>conv_one (P:=Tryz.prog) Tryz.underlying177 Tryz.underlying5 Tryz.underlying9 w v 5;go_enter Tryz.func191,Tryz.ntmps191;go_wp2_with fail
 go_loopg [0,5] n.toNat (fun g t0 t5 wr=>∃ (m:Int) (s:List UInt8) (k:Nat),0≤m∧m≤n∧g=m.toNat∧t0=.int .u64 m∧t5=.string (str s)∧s.length+k=64∧m<2 ^ k∧dig b.toNat n.toNat=dig b.toNat m.toNat ++ s∧Below w.heap.size w wr)
 case atStart=>exact ⟨n,[],64,hn0,Int.le_refl _,rfl,rfl,rfl,rfl,by omega,by simp,Below.refl _ _⟩
 case round=>
  obtain⟨m,s,k,hm0,hm1,hg,rfl,rfl,hs,hk,hd,hB⟩:=hrel;have Hg:=Lib.hid hg;have Hd:=Lib.hid hd;have Hs:=Lib.hid hs;have Hk:=Lib.hid hk;have hsz:(str s).size≤64:=by rw [str_size];omega
  clear hg hd hs hk;by_cases hlt:b≤m
  ·obtain ⟨r0,r1⟩:=u8_mod (m:=m) hb0 hb1;have d0:0≤m / b:=Int.ediv_nonneg hm0 (by omega);have d1:m / b≤m:=Int.ediv_le_self _ hm0;have hne:(b == 0)=false:=by simp;omega
   have hsz1:(str [UInt8.ofNat (48+m % b).toNat]).size≤1:=by rw [str_size];simp
   have hlo:m / b<m:=Int.ediv_lt_self_of_pos_of_ne_one (by omega) (by omega);go_wp2_with fail;go_roundg (m / b).toNat
   case measure=>rw [Hg.out];omega
   case rel=>
    have hk:=Hk.out;have hs:=Hs.out;obtain⟨k',rfl⟩:∃ k',k=k'+1:=by
     cases k with
     | zero=>simp at hk;omega
     | succ k'=>exact ⟨k',rfl⟩
    refine ⟨m / b,UInt8.ofNat (48+m % b).toNat :: s,k',d0,by omega,rfl,rfl,?_,by simp;omega,?_,?_,balloc hB _⟩
    ·rw [str_append];rfl
    ·have h2:m / b≤m / 2:=by
      have h3:=Int.ediv_mul_le m (show b≠0 by omega);have h4:m / b*2≤m / b*b:=Int.mul_le_mul_of_nonneg_left hb0 d0;omega
     have h5:(2:Int) ^ (k'+1)=2 ^ k'*2:=Int.pow_succ ..;omega
    ·rw [Hd.out,dig_step (b:=b.toNat) (n:=m.toNat) (by omega) (by omega),toNat_div hm0 (by omega),List.append_assoc];congr 2;rw [←toNat_mod hm0 (by omega)];show _=UInt8.ofNat (48+m % b).toNat :: s;rw [show (48+m % b).toNat=48+(m % b).toNat by omega];rfl
  ·have hsz2:(str [UInt8.ofNat (48+m).toNat]).size≤1:=by rw [str_size];simp
   go_wp2_with fail;go_ret;refine ⟨?_,balloc hB _⟩;show Ending.returned (.string (str [UInt8.ofNat (48+m).toNat] ++ str s))=_;rw [Hd.out,str_append,dig_small (by omega),show (48+m).toNat=48+m.toNat by omega]
theorem rdec_any (n:Int) (w:World) (h0:-9223372036854775808≤n) (h1:n≤9223372036854775807) :
  Calls Tryz.prog 128 #[.int .i64 n] w fun e w'=>e=.returned (.string (str (decL n)))∧Below w.heap.size w w':=by
 by_cases hn:n<0
 ·have Hv:=Lib.hid (show decL n=45 :: dig 10 n.natAbs by unfold decL;rw [if_pos hn]);have hsz:=dig_len 10 (by decide) 19 n.natAbs (by have e:(10:Nat) ^ (19+1)=100000000000000000000:=(by decide);rw [e];omega)
  have hsz':(str (dig 10 n.natAbs)).size≤20:=by rw [str_size];exact hsz
  clear hsz;go_enter Tryz.func128,Tryz.ntmps128;have Hw:=Lib.hid (show IntKind.u64.wrap (-IntKind.u64.wrap n)=-n by rw [IntKind.wrap_u64,IntKind.wrap_u64];omega);go_wp2_with fail;rw [Hw.out];refine (base_any (-n) 10 _ (by omega) (by omega) (by decide) (by decide)).mono ?_;rw [show dig (10:Int).toNat (-n).toNat=dig 10 n.natAbs by rw [show (-n).toNat=n.natAbs by omega];rfl];rintro e w1 ⟨rfl,hb1⟩;go_wp2_with fail;go_ret;refine ⟨?_,hb1⟩;rw [Hv.out];show Ending.returned (.string (str [45] ++ str _))=_;rw [str_append];rfl
 ·have Hv:=Lib.hid (show decL n=dig 10 n.toNat by unfold decL;rw [if_neg hn]);go_enter Tryz.func128,Tryz.ntmps128;go_wp2_with fail;refine (base_any n 10 _ (by omega) (by omega) (by decide) (by decide)).mono ?_;rintro e w1 ⟨rfl,hb1⟩;go_wp2_with fail;go_ret;exact⟨by rw [Hv.out];rfl,hb1⟩
end
section
open Go.RowKit
theorem info_u8:(Tryz.prog.info? 5).map (fun i=>(i.zero,i.size,i.bytes))=some (some (.int .u8 0),1,1):=by kernel_rfl
theorem dig_idx (r:Nat) (h:r<10) (hb:r<(ByteArray.mk #[48,49,50,51,52,53,54,55,56,57]).size):((ByteArray.mk #[48,49,50,51,52,53,54,55,56,57])[r]'hb).toNat=48+r:=by
 match r,h with
 | 0,_=>rfl
 | 1,_=>rfl
 | 2,_=>rfl
 | 3,_=>rfl
 | 4,_=>rfl
 | 5,_=>rfl
 | 6,_=>rfl
 | 7,_=>rfl
 | 8,_=>rfl
 | 9,_=>rfl
def digZ (b n:Nat):List UInt8:=if n=0 then [] else dig b n
theorem digZ_step {b n:Nat} (hb:2≤b) (hn:0<n):digZ b n=digZ b (n / b) ++ [UInt8.ofNat (48+n % b)]:=by
 unfold digZ;rw [if_neg (by omega)];by_cases h:n<b
 ·rw [dig_small h,if_pos (Nat.div_eq_of_lt h),Nat.mod_eq_of_lt h];rfl
 ·have:0<n / b:=Nat.div_pos (by omega) (by omega);rw [if_neg (by omega),dig_step hb (by omega)]
theorem digits_any (n b:Int) (w:World) (hn0:0≤n) (hn1:n≤18446744073709551615) (hb0:2≤b) (hb1:b≤10) :
  Calls Tryz.prog 146 #[.int .u64 n,.int .u64 b] w fun e w'=>e=.returned (.string (str (dig b.toNat n.toNat)))∧Below w.heap.size w w':=by
 by_cases hz:n=0
 ·subst hz;have Hv:=Lib.hid (show dig b.toNat (0:Int).toNat=[48] by rw [dig_small (by omega)];rfl);go_enter Tryz.func146,Tryz.ntmps146;go_wp2_with fail;go_ret;exact⟨by rw [Hv.out];rfl,Below.refl _ _⟩
 ·have hz0:(n == 0)=false:=by simpa using hz
  obtain⟨i0,hi,hzz,hz1,hz2⟩:=info_parts info_u8;go_enter Tryz.func146,Tryz.ntmps146;go_wp2_with fail
  go_loopg [0,5] n.toNat (fun g t0 t5 wr=>∃ (m:Int) (acc:List Int) (k:Nat),0≤m∧m≤n∧g=m.toNat∧t0=.int .u64 m∧wr.ownsRow w.heap.size 5 1 t5 acc.length (acc.map (Value.int .u8))∧
   (∀ x∈acc,48≤x∧x≤57)∧acc.length+k=64∧m<2 ^ k∧digZ b.toNat n.toNat=digZ b.toNat m.toNat ++ (acc.map fun x=>UInt8.ofNat x.toNat).reverse∧Below w.heap.size w wr)
  case atStart=>exact ⟨n,[],64,hn0,Int.le_refl _,rfl,rfl,World.ownsRow_nil _ _ _ _,by simp,rfl,by omega,by simp,Below.refl _ _⟩
  case round=>
   obtain⟨m,acc,k,hm0,hm1,hg,rfl,hown,hac,hs,hk,hd,hB⟩:=hrel;have Hg:=Lib.hid hg;have Hd:=Lib.hid hd;have Hs:=Lib.hid hs;have Hk:=Lib.hid hk;have Ha:=Lib.hid hac;clear hg hd hs hk hac;by_cases hlt:0<m
   ·obtain ⟨r0,r1⟩:=u8_mod (m:=m) hb0 hb1;have d0:0≤m / b:=Int.ediv_nonneg hm0 (by omega);have d1:m / b≤m:=Int.ediv_le_self _ hm0;have hne:(b == 0)=false:=by simp;omega
    have hidx:∀ h,(((ByteArray.mk #[48,49,50,51,52,53,54,55,56,57])[(m % b).toNat]'h).toNat:Int)=48+m % b:=fun h=>by
     rw [dig_idx _ (by omega)];omega
    have hacc:acc.length+1≤64:=by
     have hk:=Hk.out;have hs:=Hs.out
     cases k with
     | zero=>simp at hk;omega
     | succ k'=>omega
    have hlo:m / b<m:=Int.ediv_lt_self_of_pos_of_ne_one (by omega) (by omega);go_wp2_with (at_builtin;refine wpList_append_own _ rfl _ _ 177 rfl w.heap.size 5 i0 (.int .u8 0) 1 1 Tryz.underlying177 hi hzz hz1 hz2 rfl (by decide) _ _ _ rfl (hown.alloc _) ⟨wr.heap.size,0,none⟩ 1 1 [.int .u8 (48+m % b)] rfl rfl ?c1 ?c2 ?c3 ?c4 ?c5 ?_)
    case c1=>exact cell_one_new _ _ _
    case c2=>intro u hu;simp at hu;subst hu;rfl
    case c3=>unfold maxLen;omega
    case c4=>omega
    case c5=>have:=hB.size;simp;omega
    intro v' w1 hown' hgrow _;have hB1:Below w.heap.size w w1:=(balloc hB _).grown hgrow (by have:=hB.size;simp;omega) (fun k hk=>((hown.alloc (.cells #[.int .u8 (48+m % b)] 5)).lt k hk).1);go_wp2_with fail;go_roundg (m / b).toNat
    case measure=>rw [Hg.out];omega
    case rel=>
     have hk:=Hk.out;have hs:=Hs.out;obtain⟨k',rfl⟩:∃ k',k=k'+1:=by
      cases k with
      | zero=>simp at hk;omega
      | succ k'=>exact ⟨k',rfl⟩
     refine ⟨m / b,acc ++ [48+m % b],k',d0,by omega,rfl,rfl,by simpa using hown',?_,by simp;omega,?_,?_,hB1⟩
     ·intro x hx;rcases List.mem_append.1 hx with hx | hx
      ·exact Ha.out x hx
      ·simp at hx;omega
     ·have h2:m / b≤m / 2:=by
       have h3:=Int.ediv_mul_le m (show b≠0 by omega);have h4:m / b*2≤m / b*b:=Int.mul_le_mul_of_nonneg_left hb0 d0;omega
      have h5:(2:Int) ^ (k'+1)=2 ^ k'*2:=Int.pow_succ ..;omega
     ·rw [Hd.out,digZ_step (b:=b.toNat) (n:=m.toNat) (by omega) (by omega),toNat_div hm0 (by omega),List.append_assoc];congr 1;rw [←toNat_mod hm0 (by omega),List.map_append,List.reverse_append];show _=UInt8.ofNat (48+m % b).toNat :: _;rw [show (48+m % b).toNat=48+(m % b).toNat by omega];rfl
   ·obtain rfl:m=0:=by omega
    have hd0:dig b.toNat n.toNat=(acc.map fun x=>UInt8.ofNat x.toNat).reverse:=by
     have h:=Hd.out;unfold digZ at h;rw [if_neg (by omega)] at h;simpa using h
    have hne:0<acc.length:=by
     have h1:=dig_pos b.toNat n.toNat (by omega);rw [hd0] at h1;simpa using h1
    obtain⟨hl,hf⟩:=hown;rcases hf with ⟨-,h⟩|⟨g,cap,cur,rfl,hg0,hh,hc1,hc2,hc3,hc4⟩
    ·omega
    have hown:wr.ownsRow w.heap.size 5 1 (.slice (some ⟨g,0,none⟩) acc.length cap) acc.length (acc.map (Value.int .u8)):=⟨hl,.inr ⟨g,cap,cur,rfl,hg0,hh,hc1,hc2,hc3,hc4⟩⟩;have Hd0:=Lib.hid hd0;have hL:acc.length≤64:=by have:=Hs.out;omega
    clear hl hh hc1 hc3 hc4 hd0 Hd;go_wp2_with fail
    go_loopg [6,7] (acc.length+1) (fun gg t6 t7 wr=>∃ (k j:Nat) (cr:List Int),gg+k=acc.length+1∧j+k+1=acc.length∧k≤j+2∧t6=.int .i64 k∧t7=.int .i64 j∧
     wr.ownsRow w.heap.size 5 1 (.slice (some ⟨g,0,none⟩) acc.length cap) acc.length (cr.map (Value.int .u8))∧cr.length=acc.length∧
     (∀ x,x<acc.length→cr.getD x 0=if x<k∨j<x then acc.getD (acc.length - 1 - x) 0 else acc.getD x 0)∧Below w.heap.size w wr)
    case atStart=>exact ⟨0,acc.length - 1,acc,by omega,by omega,by omega,rfl,by go_num,hown,rfl,fun x hx=>by rw [if_neg (by omega)],hB⟩
    case round=>
     obtain⟨k,j,cr,hg1,hkj,hk2,rfl,rfl,hown,hcl,hcr,hB⟩:=hrel;have Hcr:=Lib.hid hcr;have Hcl:=Lib.hid hcl;have Hg1:=Lib.hid hg1;have Hkj:=Lib.hid hkj;clear hcr hcl hg1;by_cases hlt:k<j
     ·have hck:wr.cell? ⟨g,k,none⟩=some (.int .u8 (cr.getD k 0)):=by
       rw [hown.cellAt k (by omega),List.getElem?_map,List.getElem?_eq_getElem (by have:=Hcl.out;omega),List.getD_eq_getElem?_getD,List.getElem?_eq_getElem (by have:=Hcl.out;omega)];rfl
      have hcj:wr.cell? ⟨g,j,none⟩=some (.int .u8 (cr.getD j 0)):=by
       rw [hown.cellAt j (by omega),List.getElem?_map,List.getElem?_eq_getElem (by have:=Hcl.out;omega),List.getD_eq_getElem?_getD,List.getElem?_eq_getElem (by have:=Hcl.out;omega)];rfl
      have hf:=hown.frozenAt;have hne:¬ k=j:=by omega
      have hne':¬ j=k:=by omega
      have hkL:(k:Int)<acc.length:=by omega
      have hjL:(j:Int)<acc.length:=by omega
      have hj0:(0:Int)≤j:=by omega
      have hk0:(0:Int)≤k:=by omega
      have Hown:=Lib.hid hown;clear hown hkj;generalize hu:cr.getD k 0=u at hck;generalize hv:cr.getD j 0=v at hcj;have Hu:=Lib.hid hu;have Hv:=Lib.hid hv;clear hu hv;go_wp2_with fail
      go_region
      go_wp2_with fail;go_roundg (gk - 1)
      case measure=>have:=Hg1.out;have:=Hkj.out;omega
      case rel=>
       have hcr:=Hcr.out;have hcl:=Hcl.out;have hkj:=Hkj.out;have s1:=(Hown.out.stored k (.int .u8 v)).1;have s2:=(s1.stored j (.int .u8 u)).1;have hg:=hg0;refine ⟨k+1,j - 1,(cr.set k v).set j u,by have:=Hg1.out;omega,by omega,by omega,by go_num,by go_num,?_,by simp [hcl],?_,?_⟩
       ·rw [List.map_set,List.map_set];exact s2
       ·intro x hx;have hx':=hcr x hx;have hk':=hcr k (by omega);have hj':=hcr j (by omega);rw [if_neg (by omega),Hu.out] at hk';rw [if_neg (by omega),Hv.out] at hj';simp only [List.getD_eq_getElem?_getD] at hx' hk' hj' ⊢;by_cases e1:x=j
        ·subst e1;rw [List.getElem?_set_self (by simp;omega),if_pos (by omega),show acc.length - 1 - x=k by omega];exact hk'
        ·rw [List.getElem?_set_ne (by omega)];by_cases e2:x=k
         ·subst e2;rw [List.getElem?_set_self (by omega),if_pos (by omega),show acc.length - 1 - x=j by omega];exact hj'
         ·rw [List.getElem?_set_ne (by omega),hx'];by_cases e3:x<k∨j<x
          ·rw [if_pos e3,if_pos (by omega)]
          ·rw [if_neg e3,if_neg (by omega)]
       ·exact ((hB.setCell (p:=⟨g,k,none⟩) hg _).setCell (p:=⟨g,j,none⟩) hg _).drew
     ·have hcr:cr=acc.reverse:=by
       have hcl:=Hcl.out;apply List.ext_getElem (by simp [hcl]);intro x h1 h2;have hx:=Hcr.out x (by omega);rw [List.getD_eq_getElem?_getD,List.getElem?_eq_getElem h1] at hx;rw [List.getElem_reverse];by_cases e:x<k∨j<x
       ·rw [if_pos e,List.getD_eq_getElem?_getD,List.getElem?_eq_getElem (by omega)] at hx;exact hx
       ·rw [if_neg e,List.getD_eq_getElem?_getD,List.getElem?_eq_getElem (by omega)] at hx;have e2:x=acc.length - 1 - x:=by omega
        simp only [Option.getD_some] at hx;rw [hx];congr 1
      have kc:=conv_bytes (P:=Tryz.prog) Tryz.underlying177 Tryz.underlying5 Tryz.underlying9 wr g 0 cap cr (by
       intro x hx;have hcl:=Hcl.out;rw [Nat.zero_add,hown.cellAt x (by omega),List.getElem?_map,List.getElem?_eq_getElem hx];rfl)
      rw [Hcl.out] at kc;have Hcr2:=Lib.hid hcr;clear hcr;go_wp2_with fail;go_ret;refine ⟨?_,hB⟩;rw [Hd0.out,Hcr2.out,List.map_reverse];rfl
end
section
open Go.RowKit
theorem dec_any (n:Int) (w:World) (h0:-9223372036854775808≤n) (h1:n≤9223372036854775807) :
  Calls Tryz.prog 87 #[.int .i64 n] w fun e w'=>e=.returned (.string (str (decL n)))∧Below w.heap.size w w':=by
 by_cases hn:n<0
 ·have Hv:=Lib.hid (show decL n=45 :: dig 10 n.natAbs by unfold decL;rw [if_pos hn]);have hsz:=dig_len 10 (by decide) 19 n.natAbs (by have e:(10:Nat) ^ (19+1)=100000000000000000000:=(by decide);rw [e];omega)
  have hsz':(str (dig 10 n.natAbs)).size≤20:=by rw [str_size];exact hsz
  clear hsz;go_enter Tryz.func87,Tryz.ntmps87;have Hw:=Lib.hid (show IntKind.u64.wrap (-IntKind.u64.wrap n)=-n by rw [IntKind.wrap_u64,IntKind.wrap_u64];omega);go_wp2_with fail;rw [Hw.out];refine (digits_any (-n) 10 _ (by omega) (by omega) (by decide) (by decide)).mono ?_;rw [show dig (10:Int).toNat (-n).toNat=dig 10 n.natAbs by rw [show (-n).toNat=n.natAbs by omega];rfl];rintro e w1 ⟨rfl,hb1⟩;go_wp2_with fail;go_ret;refine ⟨?_,hb1⟩;rw [Hv.out];show Ending.returned (.string (str [45] ++ str _))=_;rw [str_append];rfl
 ·have Hv:=Lib.hid (show decL n=dig 10 n.toNat by unfold decL;rw [if_neg hn]);go_enter Tryz.func87,Tryz.ntmps87;go_wp2_with fail;refine (digits_any n 10 _ (by omega) (by omega) (by decide) (by decide)).mono ?_;rintro e w1 ⟨rfl,hb1⟩;go_wp2_with fail;go_ret;exact⟨by rw [Hv.out];rfl,hb1⟩
end
section
open Go.RowKit
def tailL (n:Int):List UInt8:=if n<2 then [] else 46 :: decL n
def nthS (base:ByteArray) (n:Int):ByteArray:=base.extract 0 (min base.size (245 - (tailL n).length)) ++ str (tailL n)
theorem tailL_len (n:Int) (h1:n≤9223372036854775807):(tailL n).length≤22:=by
 unfold tailL
 split
 ·simp
 ·have:=(decL_len n (by omega) h1).1;simp;omega
theorem ba_size_zero {b:ByteArray} (h:b.size=0):b=ByteArray.empty:=by
 cases b with
 | mk d=>simp [ByteArray.size] at h;subst h;rfl
theorem extract_all (b:ByteArray):b.extract 0 b.size=b:=by simp
theorem nthS_small1 (base:ByteArray) (n:Int) (hn:n<2) (h:245<base.size):base.extract 0 245 ++ str []=nthS base n:=by
 unfold nthS tailL;rw [if_pos hn];rw [show min base.size (245 - ([]:List UInt8).length)=245 by simp;omega]
theorem nthS_small2 (base:ByteArray) (n:Int) (hn:n<2) (h:base.size≤245):base ++ str []=nthS base n:=by
 unfold nthS tailL;rw [if_pos hn];rw [show min base.size (245 - ([]:List UInt8).length)=base.size by simp;omega,extract_all]
theorem nthS_small3 (base:ByteArray) (n:Int) (hn:n<2) (h:base.size=0):str []=nthS base n:=by
 rw [←nthS_small2 base n hn (by omega),ba_size_zero h];rfl
theorem nthS_big1 (base:ByteArray) (n:Int) (hn:2≤n) (h1:n≤9223372036854775807) (h:245 - (1+(str (decL n)).size)<base.size) :
  base.extract 0 (245 - (1+((str (decL n)).size:Int))).toNat ++ (ByteArray.mk #[46] ++ str (decL n))=nthS base n:=by
 have hl:=(decL_len n (by omega) h1).1;unfold nthS tailL;rw [if_neg (by omega)];rw [str_size] at h ⊢;rw [show min base.size (245 - (46 :: decL n).length)=245 - (1+(decL n).length) by simp;omega,show (245 - (1+((decL n).length:Int))).toNat=245 - (1+(decL n).length) by omega];show _ ++ (str [46] ++ str (decL n))=_;rw [str_append];rfl
theorem nthS_big2 (base:ByteArray) (n:Int) (hn:2≤n) (h1:n≤9223372036854775807) (h:base.size≤245 - (1+(str (decL n)).size)) :
  base ++ (ByteArray.mk #[46] ++ str (decL n))=nthS base n:=by
 have hl:=(decL_len n (by omega) h1).1;unfold nthS tailL;rw [if_neg (by omega)];rw [str_size] at h;rw [show min base.size (245 - (46 :: decL n).length)=base.size by simp;omega,extract_all];show _ ++ (str [46] ++ str (decL n))=_;rw [str_append];rfl
theorem nthS_big3 (base:ByteArray) (n:Int) (hn:2≤n) (h1:n≤9223372036854775807) (h:base.size=0) :
  ByteArray.mk #[46] ++ str (decL n)=nthS base n:=by
 have hl:=(decL_len n (by omega) h1).1;rw [←nthS_big2 base n hn h1 (by rw [str_size];omega),ba_size_zero h];show _=str [] ++ (str [46] ++ str (decL n));rw [str_append,str_append,List.nil_append];exact str_append [46] (decL n)
theorem nthS_all1 (base:ByteArray) (n:Int) (hn:n<2) (k:Nat) (h:k=min base.size 245):base.extract 0 k ++ str []=nthS base n:=by
 unfold nthS tailL;rw [if_pos hn,h];rfl
theorem nthS_all2 (base:ByteArray) (n:Int) (hn:2≤n) (k:Nat) (h:k=min base.size (245 - (1+(decL n).length))):base.extract 0 k ++ (ByteArray.mk #[46] ++ str (decL n))=nthS base n:=by
 unfold nthS tailL;rw [if_neg (by omega),h,show (46 :: decL n).length=1+(decL n).length by simp;omega];show _ ++ (str [46] ++ str (decL n))=_;rw [str_append];rfl
theorem nth_any (base:ByteArray) (n:Int) (w:World) (hs:base.size≤9223372036854775807) (h0:-9223372036854775808≤n) (h1:n≤9223372036854775807) :
  Calls Tryz.prog 121 #[.string base,.int .i64 n] w fun e w'=>e=.returned (.string (nthS base n))∧Below w.heap.size w w':=by
 by_cases hn:n<2
 ·have E1:=Lib.hid (nthS_small1 base n hn);have E2:=Lib.hid (nthS_small2 base n hn);have E3:=Lib.hid (nthS_small3 base n hn);have E4:=Lib.hid (nthS_all1 base n hn);go_enter Tryz.func121,Tryz.ntmps121;go_wp2_with fail
  all_goals (go_ret;refine ⟨?_,Below.refl _ _⟩;first | (refine congrArg (fun s=>Ending.returned (Value.string s)) (E1.out ?_);omega) | (refine congrArg (fun s=>Ending.returned (Value.string s)) (E2.out ?_);omega) | (refine congrArg (fun s=>Ending.returned (Value.string s)) (E3.out ?_);omega) | (refine congrArg (fun s=>Ending.returned (Value.string s)) (E4.out _ ?_);omega) | (exfalso;omega))
 ·have E1:=Lib.hid (nthS_big1 base n (by omega) h1);have E2:=Lib.hid (nthS_big2 base n (by omega) h1);have E3:=Lib.hid (nthS_big3 base n (by omega) h1);have E4:=Lib.hid (nthS_all2 base n (by omega));have hl:=decL_len n (by omega) h1;have hsz:(str (decL n)).size≤21:=by rw [str_size];exact hl.1
  have hsy:(str (decL n)).size=(decL n).length:=str_size _;go_enter Tryz.func121,Tryz.ntmps121;go_wp2_with fail;refine (dec_any n _ h0 h1).mono ?_;rintro e w1 ⟨rfl,hb1⟩;go_wp2_with fail
  all_goals (go_ret;refine ⟨?_,hb1⟩;first | (refine congrArg (fun s=>Ending.returned (Value.string s)) (E1.out ?_);omega) | (refine congrArg (fun s=>Ending.returned (Value.string s)) (E2.out ?_);omega) | (refine congrArg (fun s=>Ending.returned (Value.string s)) (E3.out ?_);omega) | (refine congrArg (fun s=>Ending.returned (Value.string s)) (E4.out _ ?_);omega) | (exfalso;omega))
end
end Go.Proofs.YtihdbncoijhihaaGreat
