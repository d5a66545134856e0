import Derived.Deep.CutBlock
import Derived.Deep.DeepCutAuto
import Derived.RegionTactic
import Derived.BigRegion
import Derived.Test.YtihdbncoijhihaaGreatCL9
import Derived.Test.YtihdbncoijhihaaGreatCL8
import Derived.Test.YtihdbncoijhihaaGreatCL7
set_option linter.unusedVariables false
set_option linter.unusedSimpArgs false
set_option maxRecDepth 100000
set_option maxHeartbeats 16000000
namespace Go.Proofs.YtihdbncoijhihaaGreat
section
open Go.RowKit
section
variable {w w':World} {pw:Nat} {R:Rp} {S:Fs}
theorem EntsAt.setA {a:Option Addr} {n c:Nat} {es:List En} (h:EntsAt w a n c es) {B:Nat} {vs:Array Value} {T:TypeId} (hb:Blk w B vs T) (hT:T≠146) (i:Nat) (v:Value):EntsAt (w.setCell ⟨B,i,none⟩ v) a n c es:=
 h.turn (fun b cur hc=>by
  have hne:b≠B:=by
   intro e;subst e;unfold Blk at hb;rw [hb] at hc;injection hc with hc;injection hc with _ hc _;exact hT hc
  exact ((Mod.refl (fun k=>k=B) w).setCell (a:=⟨B,i,none⟩) (.inl rfl) v).block b (Array.getElem?_eq_some_iff.1 hc).1 hne) (by simp)
theorem find_has {es:List En} {s:ByteArray} (hz:∀ x∈es,1≤x.no) (h:entFind es s=0):hasE es s=false:=by
 unfold entFind at h;unfold hasE
 split at h
 ·rename_i x hx;have:=hz x (List.mem_of_find?_eq_some hx);omega
 ·rename_i hx;rw [hx];rfl
theorem make_same {S:Fs} {a:An} (h:(S.make a).2.2≠0):(S.make a).1=S∧(S.make a).2.1=0:=by
 revert h;unfold Fs.make
 split
 ·intro _;exact ⟨rfl,rfl⟩
 ·split
  ·intro _;exact ⟨rfl,rfl⟩
  ·simp only
   split
   ·intro h;exact absurd rfl h
   ·intro _;exact ⟨rfl,rfl⟩
theorem make_get {S:Fs} (hn:Nums S) (a:An) {k:Int} {d:An} (hg:S.get k=some d):(S.make a).1.get k=some d:=by
 have hk:k≤S.last:=by
  have:=hn.low d (an_mem hg);rw [an_no hg] at this;exact this.2
 unfold Fs.make
 split
 ·exact hg
 ·split
  ·exact hg
  ·rename_i v hv;simp only
   split
   ·rw [an_add (S:=S.setDev a.dev {v with b:=v.b+blkI a.kind a.data.size,n:=v.n+1}) ⟨hn.rise,hn.low⟩,if_neg (by show ¬ k=S.last+1;omega)];exact hg
   ·exact hg
theorem come_no {S:Fs} {c:Cr} {now dir:Int} {s:ByteArray} {a:An} (h:S.placeE c dir s≠0):S.come c now dir s a=(S,0,S.placeE c dir s):=by unfold Fs.come;rw [if_pos h]
theorem come_had {S:Fs} {c:Cr} {now dir:Int} {s:ByteArray} {a d:An} (h:S.placeE c dir s=0) (hg:S.get dir=some d) (hf:entFind d.ents s≠0):S.come c now dir s a=(S,0,7):=by
 unfold Fs.come;rw [if_neg (by simp [h]),hg];simp only;rw [if_pos hf]
theorem come_full {S:Fs} {c:Cr} {now dir:Int} {s:ByteArray} {a d:An} (h:S.placeE c dir s=0) (hg:S.get dir=some d) (hf:entFind d.ents s=0) (hm:(S.make {a with dev:=d.dev,uid:=c.u,gid:=c.g,mtime:=now,ctime:=now,links:=1}).2.2≠0) :
  S.come c now dir s a=(S,0,(S.make {a with dev:=d.dev,uid:=c.u,gid:=c.g,mtime:=now,ctime:=now,links:=1}).2.2):=by
 unfold Fs.come;rw [if_neg (by simp [h]),hg];simp only;rw [if_neg (by simp [hf]),if_pos hm]
theorem come_yes {S:Fs} {c:Cr} {now dir:Int} {s:ByteArray} {a d:An} (h:S.placeE c dir s=0) (hg:S.get dir=some d) (hf:entFind d.ents s=0) (hm:(S.make {a with dev:=d.dev,uid:=c.u,gid:=c.g,mtime:=now,ctime:=now,links:=1}).2.2=0) :
  S.come c now dir s a=((S.make {a with dev:=d.dev,uid:=c.u,gid:=c.g,mtime:=now,ctime:=now,links:=1}).1.touch now dir (entPut d.ents s (S.make {a with dev:=d.dev,uid:=c.u,gid:=c.g,mtime:=now,ctime:=now,links:=1}).2.1),(S.make {a with dev:=d.dev,uid:=c.u,gid:=c.g,mtime:=now,ctime:=now,links:=1}).2.1,0):=by
 unfold Fs.come;rw [if_neg (by simp [h]),hg];simp only;rw [if_neg (by simp [hf]),if_neg (by simp [hm])]
theorem Blk.setPut {w:World} {B:Nat} {x0 x1 x2 x3 x4 x5 x6 x7 x8 x9 x10 x11 v1 v4 v5 v6 v7 v8:Value} {T:TypeId} (h:Blk w B #[x0,x1,x2,x3,x4,x5,x6,x7,x8,x9,x10,x11] T) :
  Blk ((((((w.setCell ⟨B,1,none⟩ v1).setCell ⟨B,4,none⟩ v4).setCell ⟨B,5,none⟩ v5).setCell ⟨B,6,none⟩ v6).setCell ⟨B,7,none⟩ v7).setCell ⟨B,8,none⟩ v8) B #[x0,v1,x2,x3,v4,v5,v6,v7,v8,x9,x10,x11] T:=
 (((((h.set 1 v1).set 4 v4).set 5 v5).set 6 v6).set 7 v7).set 8 v8
theorem put_any (h:WdAt w pw R S) {N:Nat} (hk:FsOk S N) (hN:N≤999999) (c:Cr) (now dir:Int) (s:ByteArray) (hs:s.size≤9223372036854775807) (a:An) (ha:a.ents=[]) (had:a.data.size≤9223372036854775807) :
  Calls Tryz.prog 140 #[.pointer (some ⟨pw,0,none⟩),.agg #[.int .i64 c.u,.int .i64 c.g],.int .i64 now,.int .i64 dir,.string s,a.v none 0 0] w fun e w'=>
   e=.returned (.tuple #[.int .i64 (S.come c now dir s a).2.1,.int .i64 (S.come c now dir s a).2.2])∧∃ R',WdAt w' pw R' (S.come c now dir s a).1∧Stp (R.F pw) (R'.F pw) w w':=by
 have HP:=Lib.hid (fun w1 (hb1:Below w.heap.size w w1)=>place_any (h.keep hb1) hk c dir s hs);unfold An.v;have HW:=Lib.hid h;clear h;go_enter Tryz.func140,Tryz.ntmps140;go_wp2_with fail;refine (HP.out _ (balloc (balloc (Below.refl _ _) _) _)).mono ?_;rintro e w1 ⟨⟨h0,rfl⟩|⟨h0,d,ea,el,ec,hg,rfl,he⟩,hb1⟩
 ·have hbX:=bnext (balloc (balloc (Below.refl w.heap.size w) _) _) hb1;have HB:=Lib.hid hbX;have HC:=Lib.hid (come_no (now:=now) (a:=a) h0);have hz:(S.placeE c dir s == 0)=false:=by simpa using h0
  generalize S.placeE c dir s=pe at HC hz ⊢;unfold An.v an0;clear h0 hb1 hbX;go_wp2_with fail;go_ret2;rw [HC.out];exact⟨rfl,R,HW.out.keep (balloc HB.out _),Stp.of_below (balloc HB.out _)⟩
 ·have hbX:=bnext (balloc (balloc (Below.refl w.heap.size w) _) _) hb1;have hCr:Blk w1 w.heap.size #[.int .i64 c.u,.int .i64 c.g] 67:=((Blk.new w #[.int .i64 c.u,.int .i64 c.g] 67).old (.cells #[.int .i64 a.no,.int .i64 a.dev,.int .i64 a.kind,.int .i64 a.mode,.int .i64 a.uid,.int .i64 a.gid,.int .i64 a.mtime,.int .i64 a.ctime,.int .i64 a.links,.int .i64 a.up,.string a.data,.slice none 0 0] 49)).keep hb1;have hAr:Blk w1 (w.heap.size+1) #[.int .i64 a.no,.int .i64 a.dev,.int .i64 a.kind,.int .i64 a.mode,.int .i64 a.uid,.int .i64 a.gid,.int .i64 a.mtime,.int .i64 a.ctime,.int .i64 a.links,.int .i64 a.up,.string a.data,.slice none 0 0] 49:=by
   have:=((Blk.new (w.alloc (.cells #[.int .i64 c.u,.int .i64 c.g] 67)) #[.int .i64 a.no,.int .i64 a.dev,.int .i64 a.kind,.int .i64 a.mode,.int .i64 a.uid,.int .i64 a.gid,.int .i64 a.mtime,.int .i64 a.ctime,.int .i64 a.links,.int .i64 a.up,.string a.data,.slice none 0 0] 49).keep hb1)
   rwa [World.size_alloc] at this
  have hCX:=hCr.old (.cells #[.int .i64 d.no,.int .i64 d.dev,.int .i64 d.kind,.int .i64 d.mode,.int .i64 d.uid,.int .i64 d.gid,.int .i64 d.mtime,.int .i64 d.ctime,.int .i64 d.links,.int .i64 d.up,.string d.data,.slice ea el ec] 49);have hAX:=hAr.old (.cells #[.int .i64 d.no,.int .i64 d.dev,.int .i64 d.kind,.int .i64 d.mode,.int .i64 d.uid,.int .i64 d.gid,.int .i64 d.mtime,.int .i64 d.ctime,.int .i64 d.links,.int .i64 d.up,.string d.data,.slice ea el ec] 49);have hDX:=Blk.new w1 #[.int .i64 d.no,.int .i64 d.dev,.int .i64 d.kind,.int .i64 d.mode,.int .i64 d.uid,.int .i64 d.gid,.int .i64 d.mtime,.int .i64 d.ctime,.int .i64 d.links,.int .i64 d.up,.string d.data,.slice ea el ec] 49;have hbY:=balloc hbX (.cells #[.int .i64 d.no,.int .i64 d.dev,.int .i64 d.kind,.int .i64 d.mode,.int .i64 d.uid,.int .i64 d.gid,.int .i64 d.mtime,.int .i64 d.ctime,.int .i64 d.links,.int .i64 d.up,.string d.data,.slice ea el ec] 49);have hsz:w.heap.size+2≤w1.heap.size:=by have:=hb1.size;simp at this;omega
  have heX:=(he.keep hb1).keep ((Below.refl _ w1).alloc (Nat.le_refl _) (.cells #[.int .i64 d.no,.int .i64 d.dev,.int .i64 d.kind,.int .i64 d.mode,.int .i64 d.uid,.int .i64 d.gid,.int .i64 d.mtime,.int .i64 d.ctime,.int .i64 d.links,.int .i64 d.up,.string d.data,.slice ea el ec] 49));obtain⟨hdo,-,-,-⟩:=hk.get hg;have hel:=he.len;unfold An.v;clear hCr he hAr hb1 hbX;go_wp2_with fail;generalize w1.alloc (.cells #[.int .i64 d.no,.int .i64 d.dev,.int .i64 d.kind,.int .i64 d.mode,.int .i64 d.uid,.int .i64 d.gid,.int .i64 d.mtime,.int .i64 d.ctime,.int .i64 d.links,.int .i64 d.up,.string d.data,.slice ea el ec] 49)=X at hCX hAX hDX hbY heX ⊢;have HX:=Lib.hid hbY;have HC:=Lib.hid hCX;have HA:=Lib.hid hAX;have HD:=Lib.hid hDX;have HE:=Lib.hid heX;have hfew:el≤1000000:=by rw [←hel];exact Nat.le_trans hdo.few (by omega)
  have HF:=Lib.hid (efind_any d.ents ea el ec s X heX hdo.rise hfew);clear hbY hCX hAX hDX heX hel;refine HF.out.mono ?_;rintro e w2 ⟨rfl,hb2⟩;have hX2:=bnext HX.out hb2;have hC2:=HC.out.keep hb2;have hA2:=HA.out.keep hb2;have hD2:=HD.out.keep hb2;clear HX HC HA HD HF;by_cases hf:entFind d.ents s=0
  ·have hfz:(entFind d.ents s == 0)=true:=by simpa using hf
   have mixed:Tryz.prog.follows .mixedOrders=true:=by kernel_rfl
   have HZ1:=Lib.hid (come_full (a:=a) (now:=now) h0 hg hf);have HZ2:=Lib.hid (come_yes (a:=a) (now:=now) h0 hg hf);generalize entFind d.ents s=f at hfz;go_wp2_with fail;obtain⟨cc,cf,cz⟩:=hC2.facts;obtain⟨dc,df,dz⟩:=hD2.facts;have hA3:=(hA2.setPut (v1:=.int .i64 d.dev) (v4:=.int .i64 c.u) (v5:=.int .i64 c.g) (v6:=.int .i64 now) (v7:=.int .i64 now) (v8:=.int .i64 1)).drew;have hB3:Below w.heap.size w ((((((w2.setCell ⟨w.heap.size+1,1,none⟩ (.int .i64 d.dev)).setCell ⟨w.heap.size+1,4,none⟩ (.int .i64 c.u)).setCell ⟨w.heap.size+1,5,none⟩ (.int .i64 c.g)).setCell ⟨w.heap.size+1,6,none⟩ (.int .i64 now)).setCell ⟨w.heap.size+1,7,none⟩ (.int .i64 now)).setCell ⟨w.heap.size+1,8,none⟩ (.int .i64 1)).drew:=
    ((((((hX2.setCell (Nat.le_succ _) _).setCell (Nat.le_succ _) _).setCell (Nat.le_succ _) _).setCell (Nat.le_succ _) _).setCell (Nat.le_succ _) _).setCell (Nat.le_succ _) _).drew
   have hne:w.heap.size+1≠w1.heap.size:=by omega
   have hD3:Blk ((((((w2.setCell ⟨w.heap.size+1,1,none⟩ (.int .i64 d.dev)).setCell ⟨w.heap.size+1,4,none⟩ (.int .i64 c.u)).setCell ⟨w.heap.size+1,5,none⟩ (.int .i64 c.g)).setCell ⟨w.heap.size+1,6,none⟩ (.int .i64 now)).setCell ⟨w.heap.size+1,7,none⟩ (.int .i64 now)).setCell ⟨w.heap.size+1,8,none⟩ (.int .i64 1)).drew w1.heap.size _ _:=
    ((((((hD2.setOther ⟨w.heap.size+1,1,none⟩ (.int .i64 d.dev) hne).setOther ⟨w.heap.size+1,4,none⟩ (.int .i64 c.u) hne).setOther ⟨w.heap.size+1,5,none⟩ (.int .i64 c.g) hne).setOther ⟨w.heap.size+1,6,none⟩ (.int .i64 now) hne).setOther ⟨w.heap.size+1,7,none⟩ (.int .i64 now) hne).setOther ⟨w.heap.size+1,8,none⟩ (.int .i64 1) hne).drew
   have hT:49≠146:=by decide
   have hE3:EntsAt ((((((w2.setCell ⟨w.heap.size+1,1,none⟩ (.int .i64 d.dev)).setCell ⟨w.heap.size+1,4,none⟩ (.int .i64 c.u)).setCell ⟨w.heap.size+1,5,none⟩ (.int .i64 c.g)).setCell ⟨w.heap.size+1,6,none⟩ (.int .i64 now)).setCell ⟨w.heap.size+1,7,none⟩ (.int .i64 now)).setCell ⟨w.heap.size+1,8,none⟩ (.int .i64 1)).drew ea el ec d.ents:=
    (((((((HE.out.keep hb2).setA hA2 hT 1 (.int .i64 d.dev)).setA (hA2.set 1 _) hT 4 (.int .i64 c.u)).setA ((hA2.set 1 _).set 4 _) hT 5 (.int .i64 c.g)).setA (((hA2.set 1 _).set 4 _).set 5 _) hT 6 (.int .i64 now)).setA ((((hA2.set 1 _).set 4 _).set 5 _).set 6 _) hT 7 (.int .i64 now)).setA (((((hA2.set 1 _).set 4 _).set 5 _).set 6 _).set 7 _) hT 8 (.int .i64 1)).keep (Below.refl _ _).drew
   have HE3:=Lib.hid hE3;have HA3:=Lib.hid hA3;have HB3:=Lib.hid hB3;have HD3:=Lib.hid hD3;obtain⟨ac,af,az⟩:=hA2.facts;clear hA3 hB3 hD3 hE3 hT
   go_region
   have hA4:=HA3.out;have hB4:=HB3.out;have hD4:=HD3.out;have hE4:=HE3.out;clear HE3 HA3 HB3 HD3 hX2 hA2 hC2 hD2 ac af az cc cf cz dc df dz;generalize ((((((w2.setCell ⟨w.heap.size+1,1,none⟩ (.int .i64 d.dev)).setCell ⟨w.heap.size+1,4,none⟩ (.int .i64 c.u)).setCell ⟨w.heap.size+1,5,none⟩ (.int .i64 c.g)).setCell ⟨w.heap.size+1,6,none⟩ (.int .i64 now)).setCell ⟨w.heap.size+1,7,none⟩ (.int .i64 now)).setCell ⟨w.heap.size+1,8,none⟩ (.int .i64 1)).drew=Y at hA4 hB4 hD4 hE4 ⊢;have HA:=Lib.hid hA4;have HB:=Lib.hid hB4;have HD:=Lib.hid hD4;have HE5:=Lib.hid hE4;obtain⟨q0,q1,q2,q3,q4,q5,q6,q7,q8,q9,q10,q11⟩:=hA4.cells12;clear hA4 hB4 hD4 hE4;go_wp2_with fail;have HMk:=wmake_any (HW.out.keep HB.out) hk (by omega) {a with dev:=d.dev,uid:=c.u,gid:=c.g,mtime:=now,ctime:=now,links:=1} none 0 0 (by rw [show ({a with dev:=d.dev,uid:=c.u,gid:=c.g,mtime:=now,ctime:=now,links:=1}:An).ents=a.ents from rfl,ha];exact EntsAt.nil _) had;unfold An.v at HMk;refine HMk.mono ?_;clear HMk;rintro e w4 ⟨rfl,R4,hR4,hS4⟩;have hst:Stp (R.F pw) (R4.F pw) w w4:=(Stp.of_below HB.out).trans hS4;by_cases hm:(S.make {a with dev:=d.dev,uid:=c.u,gid:=c.g,mtime:=now,ctime:=now,links:=1}).2.2=0
   ·have hmz:((S.make {a with dev:=d.dev,uid:=c.u,gid:=c.g,mtime:=now,ctime:=now,links:=1}).2.2 == 0)=true:=by simpa using hm
    have HZ:=Lib.hid (HZ2.out hm);have hd4:=HD.out.wd (HW.out.keep HB.out) hS4 rfl;have he4:=HE5.out.wd (HW.out.keep HB.out) hS4;have hg4:=make_get hk.nums ({a with dev:=d.dev,uid:=c.u,gid:=c.g,mtime:=now,ctime:=now,links:=1}) hg;have HPut:=Lib.hid (eput_new d.ents ea el ec s (S.make {a with dev:=d.dev,uid:=c.u,gid:=c.g,mtime:=now,ctime:=now,links:=1}).2.1 w4 he4 hdo.rise hfew (find_has hdo.nz hf));have HTo:=Lib.hid (fun l a n c w5 (hb5:Below w4.heap.size w4 w5) (hl:EntsAt w5 a n c l)=>touch_any (hR4.keep hb5) dir now d hg4 l a n c hl);have HST:=Lib.hid hst;obtain⟨dc4,df4,dz4⟩:=hd4.facts;generalize S.make {a with dev:=d.dev,uid:=c.u,gid:=c.g,mtime:=now,ctime:=now,links:=1}=Mk at HZ hmz HPut HTo HST ⊢;clear hm hd4 he4 hg4 hR4 hst hS4 HZ1 HZ2 q0 q1 q2 q3 q4 q5 q6 q7 q8 q9 q10 q11;go_wp2_with fail;refine HPut.out.mono ?_;rintro e w5 ⟨⟨a',n',c',rfl,he5⟩,hb5⟩;have HT:=Lib.hid (HTo.out _ _ _ _ w5 hb5 he5);have HB5:=Lib.hid hb5;clear he5 hb5 HTo HPut;go_wp2_with fail;refine HT.out.mono ?_;rintro e w6 ⟨rfl,R6,hR6,hS6⟩;have HR6:=Lib.hid (And.intro hR6 hS6);clear hR6 hS6 HT;go_wp2_with fail;go_ret2;rw [HZ.out];exact⟨rfl,R6,HR6.out.1,(HST.out.trans (Stp.of_below HB5.out)).trans HR6.out.2⟩
   ·have HZ:=Lib.hid (HZ1.out hm);have HR4:=Lib.hid hR4;have HST:=Lib.hid hst;have hmz:((S.make {a with dev:=d.dev,uid:=c.u,gid:=c.g,mtime:=now,ctime:=now,links:=1}).2.2 == 0)=false:=by simpa using hm
    obtain⟨hsm,hs0⟩:=make_same hm;rw [hsm] at HR4;rw [hs0];generalize (S.make {a with dev:=d.dev,uid:=c.u,gid:=c.g,mtime:=now,ctime:=now,links:=1}).2.2=me at HZ hmz ⊢;clear hm hsm hs0 hR4 hst hS4;go_wp2_with fail;go_ret2;rw [HZ.out];exact⟨rfl,R4,HR4.out,HST.out⟩
  ·have hfz:(entFind d.ents s == 0)=false:=by simpa using hf
   have HZ:=Lib.hid (come_had (a:=a) (now:=now) h0 hg hf);generalize entFind d.ents s=f at hfz;have HB:=Lib.hid hX2;clear hX2 hC2 hA2 hD2;go_wp2_with fail;go_ret2;rw [HZ.out];exact⟨rfl,R,HW.out.keep HB.out,Stp.of_below HB.out⟩
end
end
section
open Go.RowKit
theorem slash_any (s:ByteArray) (w:World) (hs:s.size≤100000) :
  Calls Tryz.prog 172 #[.string s] w fun e w'=>e=.returned (.bool (slashB s.data.toList))∧w=w':=by
 have HT:=Lib.hid (tail_any s w hs);have HS:=Lib.hid (show slashB s.data.toList=(segL s.data.toList == [] || segL s.data.toList == [46] || segL s.data.toList == [46,46]) from rfl);generalize segL s.data.toList=t at HT HS;generalize slashB s.data.toList=b at HS;have htl:(str t).toList=t:=by rw [ba_list,str_list]
 by_cases h1:t=[]
 ·subst h1;have hb:b=true:=by rw [HS.out];rfl
  subst hb;go_enter Tryz.func172,Tryz.ntmps172;go_wp2_with (refine HT.out.mono ?_;rintro e w1 ⟨rfl,rfl⟩);go_ret;exact⟨rfl,rfl⟩
 ·have n1:t.isEmpty=false:=by simpa using h1
  by_cases h2:t=[46]
  ·subst h2;have hb:b=true:=by rw [HS.out];rfl
   subst hb;go_enter Tryz.func172,Tryz.ntmps172;go_wp2_with (refine HT.out.mono ?_;rintro e w1 ⟨rfl,rfl⟩);go_ret;exact⟨rfl,rfl⟩
  ·have n2:(t == [46])=false:=by simpa using h2
   by_cases h3:t=[46,46]
   ·subst h3;have hb:b=true:=by rw [HS.out];rfl
    subst hb;go_enter Tryz.func172,Tryz.ntmps172;go_wp2_with (refine HT.out.mono ?_;rintro e w1 ⟨rfl,rfl⟩);go_ret;exact⟨rfl,rfl⟩
   ·have n3:(t == [46,46])=false:=by simpa using h3
    have hb:b=false:=by rw [HS.out,n2,n3];simpa using h1
    subst hb;clear h1 h2 h3;go_enter Tryz.func172,Tryz.ntmps172;go_wp2_with (refine HT.out.mono ?_;rintro e w1 ⟨rfl,rfl⟩);go_ret;exact⟨rfl,rfl⟩
def PanicOk (Q:Exit→Act→World→Prop):Prop:=∀ c d v a w,Q (.panic c) (Act.put a d v) w→Q (.panic c) a w
theorem pk_body {P:Program} {fn:Func} {R:Ending→World→Prop}:PanicOk (bodyPost P fn R):=body_panic
theorem pk_then {K:Act→World→Prop} {Q:Exit→Act→World→Prop} (h:PanicOk Q):PanicOk (Exit.then K Q):=fun c d v a w hq=>h c d v a w hq
theorem pk_block {i:Nat} {Q:Exit→Act→World→Prop} (h:PanicOk Q):PanicOk (Exit.inBlock i Q):=fun c d v a w hq=>h c d v a w hq
theorem pk_scope {Q:Exit→Act→World→Prop} (h:PanicOk Q):PanicOk (Exit.noGoto Q):=fun c d v a w hq=>h c d v a w hq
theorem keepS_set12 {W w:World} {B:Nat} {v0 v1 v2 v3 v4 v5 v6 v7 v8 v9 v10 v11:Value} (h:(∀ b o,b<W.heap.size→w.cell? ⟨b,o,none⟩=W.cell? ⟨b,o,none⟩)∧Below W.heap.size W w) (hB:W.heap.size≤B) :
  (∀ b o,b<W.heap.size→((((((((((((w.setCell ⟨B,0,none⟩ v0).setCell ⟨B,1,none⟩ v1).setCell ⟨B,2,none⟩ v2).setCell ⟨B,3,none⟩ v3).setCell ⟨B,4,none⟩ v4).setCell ⟨B,5,none⟩ v5).setCell ⟨B,6,none⟩ v6).setCell ⟨B,7,none⟩ v7).setCell ⟨B,8,none⟩ v8).setCell ⟨B,9,none⟩ v9).setCell ⟨B,10,none⟩ v10).setCell ⟨B,11,none⟩ v11).cell? ⟨b,o,none⟩=W.cell? ⟨b,o,none⟩)∧
   Below W.heap.size W ((((((((((((w.setCell ⟨B,0,none⟩ v0).setCell ⟨B,1,none⟩ v1).setCell ⟨B,2,none⟩ v2).setCell ⟨B,3,none⟩ v3).setCell ⟨B,4,none⟩ v4).setCell ⟨B,5,none⟩ v5).setCell ⟨B,6,none⟩ v6).setCell ⟨B,7,none⟩ v7).setCell ⟨B,8,none⟩ v8).setCell ⟨B,9,none⟩ v9).setCell ⟨B,10,none⟩ v10).setCell ⟨B,11,none⟩ v11):=
 keepS_of (below_set12 h.2 hB)
section
variable {w w':World} {pw:Nat} {R:Rp} {S:Fs}
theorem step_gone {S:Fs} {c:Cr} {k:Int} {p:List UInt8} (h:S.get k=none):S.step c k p=(0,9):=by unfold Fs.step;rw [h]
theorem step_eq {S:Fs} {c:Cr} {k:Int} {p:List UInt8} {d:An} (h:S.get k=some d):S.step c k p=if d.kind≠1 then (0,9) else if d.may c 1=false then (0,6) else if p=[46,46] then (S.above k,0) else if 255<p.length then (0,13) else (S.over (entFind d.ents (str p)),0):=by
 unfold Fs.step;rw [h]
theorem step_any (h:WdAt w pw R S) {N:Nat} (hk:FsOk S N) (hN:N≤999999) {Bt:Nat} (c:Cr) (k:Int) {ta:Option Addr} {tl tc:Nat} {hops:Int} {must:Bool}
  (hb:Blk w Bt #[.pointer (some ⟨pw,0,none⟩),.int .i64 c.u,.int .i64 c.g,.int .i64 k,.slice ta tl tc,.int .i64 hops,.bool must] 271) (p:ByteArray) :
  Calls Tryz.prog 173 #[.pointer (some ⟨Bt,0,none⟩),.string p] w fun e w'=>e=.returned (.tuple #[.int .i64 (S.step c k p.data.toList).1,.int .i64 (S.step c k p.data.toList).2])∧Below w.heap.size w w':=by
 have HW:=Lib.hid h;have HK:=Lib.hid hk;have HBT:=Lib.hid hb;have mixed:Tryz.prog.follows .mixedOrders=true:=by kernel_rfl
 obtain⟨bc,bf,bz⟩:=hb.facts;obtain⟨pc,-,pz⟩:=h.blk.facts;have HBC:=Lib.hid bc;have HPC:=Lib.hid pc;clear h hk hb
 cases hg:S.get k with
 | none=>
  have HG:=Lib.hid (fun w1 (hb1:Below w.heap.size w w1)=>wget_no (HW.out.keep hb1) hg);have HE:=Lib.hid (step_gone (c:=c) (p:=p.data.toList) hg);unfold An.v an0 at HG;clear hg;go_enter Tryz.func173,Tryz.ntmps173;go_upto_region 1 with fail
  go_cut [6,7] (fun t6 t7 wx=>∃ Bd:Nat,t6=.pointer (some ⟨Bd,0,none⟩)∧t7=.bool false∧Below w.heap.size w wx)
  case first=>
   go_wp2_with fail;have hzz:w.heap.size≤w.heap.size:=Nat.le_refl _
   go_region_held3 (fun w'=>(∀ b o,b<w.heap.size→w'.cell? ⟨b,o,none⟩=w.cell? ⟨b,o,none⟩)∧Below w.heap.size w w') (first | with_reducible exact keepS_set12 (by assumption) (by assumption) | (first | with_reducible assumption | with_reducible exact keepS_here _ | with_reducible exact keepS_here2 _ | with_reducible exact keepS_call (by assumption) (by assumption) | with_reducible exact keepS_alloc (by assumption) _ | with_reducible exact keepS_allocD (by assumption) _ | with_reducible exact keepS_realloc (by assumption) (by assumption) | with_reducible exact keepS_set4 (by assumption) (by assumption)))
    ((go_at_call 13;((with_reducible refine (HG.out _ (And.right ‹(∀ b o,b<w.heap.size→_)∧Below w.heap.size w _›)).mono ?_);rintro e w4 ⟨rfl,hb5⟩;have hz5:=Nat.le_trans (And.right ‹(∀ b o,b<w.heap.size→_)∧Below w.heap.size w _›).size hb5.size;try (have hbq:=new_drew hb5;obtain ⟨bqc,bqf,bqz⟩:=hbq.facts))))
   all_goals
    obtain⟨-,hS4⟩:=‹_∧Below w.heap.size w _›;have HS4:=Lib.hid hS4;clear hS4;go_wp2_with fail;go_meet;exact⟨_,rfl,rfl,HS4.out⟩
  case rest=>
   obtain⟨Bd,rfl,rfl,hS⟩:=hcut;have HB:=Lib.hid hS;clear hS bc bf bz pc pz;go_wp2_with fail;go_ret2;rw [HE.out];exact⟨rfl,HB.out⟩
 | some d=>
  obtain⟨ea,el,ec,he,hG⟩:=wget_fix HW.out hg;have HE0:=Lib.hid he;have HG:=Lib.hid hG;have HQ:=Lib.hid (step_eq (c:=c) (p:=p.data.toList) hg);have HHG:=Lib.hid hg;have hfew:el≤1000000:=by rw [←he.len];exact Nat.le_trans (HK.out.get hg).1.few (by omega)
  have HFew:=Lib.hid hfew;unfold An.v at HG;clear hg he hG hfew;go_enter Tryz.func173,Tryz.ntmps173;go_upto_region 1 with fail
  go_cut [6,7] (fun t6 t7 wx=>∃ Bd:Nat,t6=.pointer (some ⟨Bd,0,none⟩)∧t7=.bool true∧Blk wx Bd #[.int .i64 d.no,.int .i64 d.dev,.int .i64 d.kind,.int .i64 d.mode,.int .i64 d.uid,.int .i64 d.gid,.int .i64 d.mtime,.int .i64 d.ctime,.int .i64 d.links,.int .i64 d.up,.string d.data,.slice ea el ec] 49∧Below w.heap.size w wx)
  case first=>
   go_wp2_with fail;have hzz:w.heap.size≤w.heap.size:=Nat.le_refl _
   go_region_held3 (fun w'=>(∀ b o,b<w.heap.size→w'.cell? ⟨b,o,none⟩=w.cell? ⟨b,o,none⟩)∧Below w.heap.size w w') (first | with_reducible exact keepS_set12 (by assumption) (by assumption) | (first | with_reducible assumption | with_reducible exact keepS_here _ | with_reducible exact keepS_here2 _ | with_reducible exact keepS_call (by assumption) (by assumption) | with_reducible exact keepS_alloc (by assumption) _ | with_reducible exact keepS_allocD (by assumption) _ | with_reducible exact keepS_realloc (by assumption) (by assumption) | with_reducible exact keepS_set4 (by assumption) (by assumption)))
    ((go_at_call 13;((with_reducible refine (HG.out _ (And.right ‹(∀ b o,b<w.heap.size→_)∧Below w.heap.size w _›)).mono ?_);rintro e w4 ⟨rfl,hb5⟩;have hz5:=Nat.le_trans (And.right ‹(∀ b o,b<w.heap.size→_)∧Below w.heap.size w _›).size hb5.size;try (have hbq:=new_drew hb5;obtain ⟨bqc,bqf,bqz⟩:=hbq.facts))))
   all_goals
    obtain⟨-,hS4⟩:=‹_∧Below w.heap.size w _›;have HS4:=Lib.hid hS4
    try (have HQ4:=Lib.hid hbq)
    clear hS4;go_wp2_with fail;go_meet;exact⟨_,rfl,rfl,by first | exact HQ4.out.set12 | exact Blk.new _ _ _,HS4.out⟩
  case rest=>
   obtain⟨Bd,rfl,rfl,hDX,hbX⟩:=hcut;generalize wc=X at hDX hbX ⊢;have HBX:=Lib.hid hbX;have HDX:=Lib.hid hDX;have hTX:=HBT.out.keep hbX;clear bc bf bz;obtain⟨bc,bf,bz⟩:=hTX.facts;obtain⟨dc,df,dz⟩:=hDX.facts;clear hbX hDX hTX pc;by_cases h1:d.kind=1
   ·have h1':(d.kind != 1)=false:=by simpa using h1
    have HQ1:=Lib.hid (HQ.out.trans (if_neg (by simp [h1])));have HNd:=Lib.hid (fun w=>pnode_any c d ea el ec 1 w);unfold Cr.v An.v at HNd;clear h1 HQ;go_wp2_with fail;refine wp_region_lex 5 mixed (by kernel_rfl) (show PanicOk _ from by repeat (first | exact pk_body | refine pk_then ?_ | refine pk_block ?_)) ?_;simp only [List.take_succ_cons,List.take_zero,List.drop_succ_cons,List.drop_zero]
    repeat still_step
    refine wpStill_nil ?_;go_wp2_with fail;refine (HNd.out _).mono ?_;rintro e w2 ⟨rfl,hb2⟩;have hb3:=HBX.out.drew.trans (hb2.mono HBX.out.size);have HB2:=Lib.hid hb3;have hT2:=HBT.out.keep hb3;have hD2:=HDX.out.drew.keep hb2;have HD2:=Lib.hid hD2;have pc2:w2.cell? ⟨pw,0,none⟩=some (.pointer (some ⟨R.pt,0,none⟩)):=(hb3.cell (p:=⟨pw,0,none⟩) pz).trans (HPC.out 0);clear bc bf bz dc df dz hb2;obtain⟨bc,bf,bz⟩:=hT2.facts;obtain⟨dc,df,dz⟩:=hD2.facts;clear hT2 hD2 hb3
    cases hm:d.may c 1 with
    | false=>
     have HE:=Lib.hid (HQ1.out.trans (if_pos hm));clear hm;go_wp2_with fail;go_ret2;rw [HE.out];exact⟨rfl,HB2.out⟩
    | true=>
     have HQ2:=Lib.hid (HQ1.out.trans (if_neg (by rw [hm];decide)));clear hm HQ1;by_cases h2:p.data.toList=[46,46]
     ·have h2':p.toList=[46,46]:=by rw [ba_list];exact h2
      have HE:=Lib.hid (HQ2.out.trans (if_pos h2));have HAb:=Lib.hid (fun w1 (hb1:Below w.heap.size w w1)=>wabove_any (HW.out.keep hb1) HK.out k);clear h2 HQ2;go_wp2_with fail;refine wp_region_lex 8 mixed (by kernel_rfl) (show PanicOk _ from by repeat (first | exact pk_body | refine pk_then ?_ | refine pk_block ?_)) ?_;simp only [List.take_succ_cons,List.take_zero,List.drop_succ_cons,List.drop_zero]
      repeat still_step
      refine wpStill_nil ?_;go_wp2_with fail;refine (HAb.out _ HB2.out.drew).mono ?_;rintro e w3 ⟨rfl,hb3⟩;have HB3:=Lib.hid (HB2.out.drew.trans (hb3.mono HB2.out.size));clear hb3;go_wp2_with fail;go_ret2;rw [HE.out];exact⟨rfl,HB3.out⟩
     ·have h2':(p.toList == [46,46])=false:=by rw [ba_list];simpa using h2
      have HQ3:=Lib.hid (HQ2.out.trans (if_neg h2));have hpl:p.data.toList.length=p.size:=Array.length_toList;clear h2 HQ2;by_cases h3:255<p.size
      ·have HE:=Lib.hid (HQ3.out.trans (if_pos (by rw [hpl];exact h3)));have h3':(255:Int)<(p.size:Int):=by omega
       clear hpl;go_wp2_with fail;go_ret2;rw [HE.out];exact⟨rfl,HB2.out⟩
      ·have HE:=Lib.hid (HQ3.out.trans (if_neg (by rw [hpl];exact h3)));rw [str_of] at HE;have h3':¬ (255:Int)<(p.size:Int):=by omega
       have HF:=Lib.hid (fun w1 (hb1:Below w.heap.size w w1)=>efind_any d.ents ea el ec p w1 (HE0.out.keep hb1) (HK.out.get HHG.out).1.rise HFew.out);have HOv:=Lib.hid (fun w1 (hb1:Below w.heap.size w w1)=>wover_any (HW.out.keep hb1) HK.out.d1 (entFind d.ents p));clear hpl HQ3 h3;generalize entFind d.ents p=f at HE HF HOv;go_wp2_with fail;have hzz:w2.heap.size≤w2.heap.size:=Nat.le_refl _;have hsz2:=HB2.out.size
       go_region_held3 (fun w'=>(∀ b o,b<w2.heap.size→w'.cell? ⟨b,o,none⟩=w2.cell? ⟨b,o,none⟩)∧Below w2.heap.size w2 w') (first | with_reducible assumption | with_reducible exact keepS_here _ | with_reducible exact keepS_here2 _ | with_reducible exact keepS_call (by assumption) (by assumption) | with_reducible exact keepS_alloc (by assumption) _ | with_reducible exact keepS_allocD (by assumption) _ | with_reducible exact keepS_realloc (by assumption) (by assumption) | with_reducible exact keepS_set4 (by assumption) (by assumption))
        ((first | (go_at_call 123;((with_reducible refine (HF.out _ (HB2.out.trans ((And.right ‹(∀ b o,b<w2.heap.size→_)∧Below w2.heap.size w2 _›).mono hsz2))).mono ?_);rintro e w4 ⟨rfl,hb5⟩)) | (go_at_call 124;((with_reducible refine (HOv.out _ (HB2.out.trans ((And.right ‹(∀ b o,b<w2.heap.size→_)∧Below w2.heap.size w2 _›).mono hsz2))).mono ?_);rintro e w4 ⟨rfl,hb5⟩))))
       all_goals
        obtain⟨-,hS4⟩:=‹_∧Below w2.heap.size w2 _›;have HB4:=Lib.hid (HB2.out.trans (hS4.mono hsz2));clear hS4;go_wp2_with fail;go_ret2;rw [HE.out];exact⟨rfl,HB4.out⟩
   ·have h1':(d.kind != 1)=true:=by simpa using h1
    have HE:=Lib.hid (HQ.out.trans (if_pos h1));clear h1;go_wp2_with fail;go_ret2;rw [HE.out];exact⟨rfl,HBX.out⟩
end
end
section
open Go.RowKit
structure Rf.Like (R R':Rf):Prop where
 now:R'.now=R.now
 cnt:R'.cnt=R.cnt
 pl:R'.pl=R.pl
 dd:R'.dd=R.dd
theorem Rf.Like.refl (R:Rf):Rf.Like R R:=⟨rfl,rfl,rfl,rfl⟩
theorem Rf.Like.trans {A B C:Rf} (h:Rf.Like A B) (k:Rf.Like B C):Rf.Like A C:=⟨k.now.trans h.now,k.cnt.trans h.cnt,k.pl.trans h.pl,k.dd.trans h.dd⟩
theorem map_put {S:Fs} (hn:Nums S) {G:List Gn} (hG:S.ns=G.map (·.a)) {i:Nat} (hi:i<G.length) {a:An} (hno:G[i].a.no=a.no) {y:Gn} (hy:y.a=a):(S.set a).ns=(G.set i y).map (·.a):=by
 have hr:=hn.rise;rw [hG] at hr;show (S.ns.map _)=_;rw [hG];apply List.ext_getElem
 ·simp
 ·intro j h1 h2;have hj:j<G.length:=by simpa using h1
  simp only [List.getElem_map,List.getElem_set];by_cases hij:i=j
  ·subst hij;rw [if_pos rfl,hno];simp [hy]
  ·rw [if_neg hij,if_neg];have key:=List.pairwise_iff_getElem.1 hr;simp only [List.length_map,List.getElem_map] at key;simp only [beq_iff_eq];rcases Nat.lt_or_gt_of_ne hij with h | h
   ·have:=key i j (by simpa using hi) (by simpa using hj) h;omega
   ·have:=key j i (by simpa using hj) (by simpa using hi) h;omega
theorem putRow12 (w:World) (g o:Nat) (v0 v1 v2 v3 v4 v5 v6 v7 v8 v9 v10 v11:Value):putRow w g o [v0,v1,v2,v3,v4,v5,v6,v7,v8,v9,v10,v11]=(((((((((((w.setCell ⟨g,o,none⟩ v0).setCell ⟨g,o+1,none⟩ v1).setCell ⟨g,o+2,none⟩ v2).setCell ⟨g,o+3,none⟩ v3).setCell ⟨g,o+4,none⟩ v4).setCell ⟨g,o+5,none⟩ v5).setCell ⟨g,o+6,none⟩ v6).setCell ⟨g,o+7,none⟩ v7).setCell ⟨g,o+8,none⟩ v8).setCell ⟨g,o+9,none⟩ v9).setCell ⟨g,o+10,none⟩ v10).setCell ⟨g,o+11,none⟩ v11:=rfl
section
variable {w w':World} {pf:Nat} {R:Rf} {S:Fs}
theorem rf_apart {g:Nat} {e:TypeId} (hk:∃ cur,w.heap[g]? = some (.cells cur e (0,0))) {x:Nat} {vs:Array Value} {T:TypeId} (hx:Blk w x vs T) (hT:T≠e):x≠g:=by
 rintro rfl;obtain⟨cur,hc⟩:=hk;unfold Blk at hx;rw [hx] at hc;injection hc with hc;injection hc with _ hc;exact hT hc
theorem RfAt.put (h:RfAt w pf R S) (hn:Nums S) {g cap:Nat} (hv:R.nv=.slice (some ⟨g,0,none⟩) R.G.length cap) {i:Nat} (hi:i<R.G.length) {a:An} {ea:Option Addr} {el ec:Nat} (hno:R.G[i].a.no=a.no) (he:EntsAt w ea el ec a.ents) :
  RfAt (putRow w g (i*12) [.int .i64 a.no,.int .i64 a.dev,.int .i64 a.kind,.int .i64 a.mode,.int .i64 a.uid,.int .i64 a.gid,.int .i64 a.mtime,.int .i64 a.ctime,.int .i64 a.links,.int .i64 a.up,.string a.data,.slice ea el ec]) pf {R with G:=R.G.set i ⟨a,ea,el,ec,0⟩} (S.set a)∧Mod (R.F pf) w (putRow w g (i*12) [.int .i64 a.no,.int .i64 a.dev,.int .i64 a.kind,.int .i64 a.mode,.int .i64 a.uid,.int .i64 a.gid,.int .i64 a.mtime,.int .i64 a.ctime,.int .i64 a.links,.int .i64 a.up,.string a.data,.slice ea el ec]):=by
 have hgb:R.nv.ownBlock=some g:=by rw [hv];rfl
 have hm:=putRow_mod (g:=g) [.int .i64 a.no,.int .i64 a.dev,.int .i64 a.kind,.int .i64 a.mode,.int .i64 a.uid,.int .i64 a.gid,.int .i64 a.mtime,.int .i64 a.ctime,.int .i64 a.links,.int .i64 a.up,.string a.data,.slice ea el ec] w (i*12);have hM:Mod (R.F pf) w (putRow w g (i*12) [.int .i64 a.no,.int .i64 a.dev,.int .i64 a.kind,.int .i64 a.mode,.int .i64 a.uid,.int .i64 a.gid,.int .i64 a.mtime,.int .i64 a.ctime,.int .i64 a.links,.int .i64 a.up,.string a.data,.slice ea el ec]):=hm.mono (fun k hk=>.inr (.inl (by rw [hk];exact hgb)));obtain⟨-,hcur⟩:=own_obj1 h.nds hgb;have hst:Stp (R.F pf) (R.F pf) w (putRow w g (i*12) [.int .i64 a.no,.int .i64 a.dev,.int .i64 a.kind,.int .i64 a.mode,.int .i64 a.uid,.int .i64 a.gid,.int .i64 a.mtime,.int .i64 a.ctime,.int .i64 a.links,.int .i64 a.up,.string a.data,.slice ea el ec]):=Stp.of_mod hM;refine ⟨⟨h.blk.mod hm (rf_apart hcur h.blk (by decide)),?_,own_mod h.devs hm (fun k hk e=>?_),map_put hn h.ns hi hno rfl,fun x hx=>?_⟩,hM⟩
 ·show World.ownsRow _ 0 49 12 R.nv (R.G.set i _).length ((R.G.set i _).flatMap Gn.cs);rw [List.length_set];have h0:=h.nds;rw [hv] at h0 ⊢;exact own_put (enc:=Gn.cs) (by omega) Gn.cs_len h0 i hi ⟨a,ea,el,ec,0⟩
 ·obtain ⟨-,cur2,hc2⟩:=own_obj1 h.devs e;rw [hk] at hc2;exact rf_apart hcur (show Blk w g cur2 229 from hc2) (by decide) rfl
 ·rcases List.mem_or_eq_of_mem_set hx with hx | rfl
  ·exact (h.ents x hx).rf h hst
  ·exact he.rf h hst
theorem rset_any (h:RfAt w pf R S) (hn:Nums S) {a:An} {ea:Option Addr} {el ec:Nat} (he:EntsAt w ea el ec a.ents) {b:An} (hb:S.get a.no=some b) :
  Calls Tryz.prog 227 #[.pointer (some ⟨pf,0,none⟩),a.v ea el ec] w fun e w'=>e=.returned (.tuple #[])∧∃ R',RfAt w' pf R' (S.set a)∧Stp (R.F pf) (R'.F pf) w w'∧Rf.Like R R'∧R'.dv=R.dv:=by
 rcases place_get h a.no with ⟨i,hi,hp,-,hno⟩|⟨-,hg2⟩
 ·have hb0:=balloc (Below.refl w.heap.size w) (.cells #[.int .i64 a.no,.int .i64 a.dev,.int .i64 a.kind,.int .i64 a.mode,.int .i64 a.uid,.int .i64 a.gid,.int .i64 a.mtime,.int .i64 a.ctime,.int .i64 a.links,.int .i64 a.up,.string a.data,.slice ea el ec] 49);have hq0:=Blk.new w #[.int .i64 a.no,.int .i64 a.dev,.int .i64 a.kind,.int .i64 a.mode,.int .i64 a.uid,.int .i64 a.gid,.int .i64 a.mtime,.int .i64 a.ctime,.int .i64 a.links,.int .i64 a.up,.string a.data,.slice ea el ec] 49;have HAt:=Lib.hid (rat_any (h.keep ((Below.refl _ w).alloc (Nat.le_refl _) (.cells #[.int .i64 a.no,.int .i64 a.dev,.int .i64 a.kind,.int .i64 a.mode,.int .i64 a.uid,.int .i64 a.gid,.int .i64 a.mtime,.int .i64 a.ctime,.int .i64 a.links,.int .i64 a.up,.string a.data,.slice ea el ec] 49))) a.no);rw [hp] at HAt;obtain⟨g,cap,hnv,hcap,hcap2,hgl,hc,hfz,cur,hcur⟩:=h.nodeF (by omega);have HP:=Lib.hid (fun w1 (hb:Below w.heap.size w w1)=>(h.keep hb).put hn hnv hi hno (he.keep hb));obtain⟨pc,-,pz⟩:=h.blk.facts;rw [hnv] at pc;have HCur:=Lib.hid hcur;obtain⟨n,hn2⟩:∃ n,R.G.length=n:=⟨_,rfl⟩;rw [hn2] at pc hcap;have hin:i<n:=by omega
  have HQ0:=Lib.hid hq0;have HB0:=Lib.hid hb0;have mixed:Tryz.prog.follows .mixedOrders=true:=by kernel_rfl
  obtain⟨y,y1,y2,y3,c0,c1,c2,c3,c4,c5,c6,c7,c8,c9,c10,c11⟩:∃ (y:An) (y1:Option Addr) (y2 y3:Nat),NdC w g (i*12) y y1 y2 y3:=⟨_,_,_,_,hc i hi⟩;have HC:=Lib.hid (fun w1 (hb:Below w.heap.size w w1)=>And.intro (hb.cell (p:=⟨g,i*12,none⟩) hgl) (fun j=>hb.cell (p:=⟨g,i*12+j,none⟩) hgl));unfold An.v;clear h hn he hb hp hnv hc hi hno hn2 hq0 hb0 hcur hfz;go_enter Tryz.func227,Tryz.ntmps227;have hq0:=HQ0.out;obtain⟨qc,qf,qz⟩:=hq0.facts;clear hq0;go_wp2_with fail;refine HAt.out.mono ?_;rintro e w1 ⟨rfl,hb1⟩;have hq1:=HQ0.out.keep hb1;have hb2:=bnext HB0.out hb1;obtain⟨d0,dd⟩:=HC.out w1 hb2;rw [←d0] at c0;rw [←dd 1] at c1;rw [←dd 2] at c2;rw [←dd 3] at c3;rw [←dd 4] at c4;rw [←dd 5] at c5;rw [←dd 6] at c6;rw [←dd 7] at c7;rw [←dd 8] at c8;rw [←dd 9] at c9;rw [←dd 10] at c10;rw [←dd 11] at c11;have hg1:g<w1.heap.size:=Nat.lt_of_lt_of_le hgl hb2.size;have hfz1:=(HCur.out.keep hb2).frozen;have pc2:=fun i=>(hb2.cell (p:=⟨pf,i,none⟩) pz).trans (pc i);have HB2:=Lib.hid hb2;clear qc qf qz;obtain⟨qc,qf,qz⟩:=hq1.facts;clear hq1 hb1 hb2 d0 dd pc;go_wp2_with fail;refine wp_region_lex 7 mixed (by kernel_rfl) (show PanicOk _ from by repeat (first | exact pk_body | refine pk_then ?_ | refine pk_block ?_ | refine pk_scope ?_)) ?_;simp only [List.take_succ_cons,List.take_zero,List.drop_succ_cons,List.drop_zero]
  repeat still_step
  refine wpStill_nil ?_;go_wp2_with fail
  go_end0
  obtain⟨hR,hM⟩:=HP.out _ HB2.out;rw [putRow12] at hR hM;exact⟨rfl,_,hR.keep ((Below.refl _ _).drew),(Stp.of_below HB2.out).trans (Stp.of_mod hM.drew),⟨rfl,rfl,rfl,rfl⟩,rfl⟩
 ·rw [hb] at hg2;cases hg2
end
end
end Go.Proofs.YtihdbncoijhihaaGreat
