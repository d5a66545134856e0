import Derived.RangeFuncOwn
import Derived.Test.YtinflmadpnigfaaGreatDoorDY18
import Derived.Test.YtinflmadpnigfaaGreatDoorDY16
import Derived.Test.YtinflmadpnigfaaGreatDoorDY2
import Derived.Test.YtinflmadpnigfaaGreatDoorDY17
import Derived.Test.YtinflmadpnigfaaGreatDoorDY6
set_option linter.unusedVariables false
set_option linter.unusedSimpArgs false
set_option maxRecDepth 100000
set_option maxHeartbeats 16000000
namespace Go.Proofs.YtinflmadpnigfaaGreatDoor
section
open Go.RowKit
deriving instance DecidableEq for Nt
def tm(xs ys:List Gr):Bool:=decide (xs.map Gr.p=ys.map Gr.p)
theorem FA{xs ys:List Gr}(h:xs.length≠ys.length):tm xs ys=false:=decide_eq_false fun e=>h (by simpa using congrArg List.length e)
def vS(xs ys:List Gr)(k:Nat):Prop:=(xs.take k).map Gr.p=(ys.take k).map Gr.p
theorem CL{xs ys:List Gr}{k:Nat}(h:vS xs ys k)(h1:k<xs.length)(h2:k<ys.length)(he:xs[k].p=ys[k].p):vS xs ys (k+1):=by
 unfold vS at *;rw[List.take_add_one,List.take_add_one,List.map_append,List.map_append,h,List.getElem?_eq_getElem h1,List.getElem?_eq_getElem h2];simp[he]
theorem Fu{xs ys:List Gr}(h:vS xs ys xs.length)(hl:xs.length=ys.length):tm xs ys=true:=by
 unfold vS at h;rw[List.take_length,hl,List.take_length] at h;exact decide_eq_true h
theorem Ms{xs ys:List Gr}{k:Nat}(h1:k<xs.length)(h2:k<ys.length)(he:xs[k].p≠ys[k].p):tm xs ys=false:=decide_eq_false fun e=>he (by
 have:=congrArg (fun l=>l[k]?) e;simpa [List.getElem?_eq_getElem h1,List.getElem?_eq_getElem h2] using this)
def qH(xs ys:List Nt)(k:Nat):Prop:=xs.take k=ys.take k
theorem AJ{xs ys:List Nt}{k:Nat}(h:qH xs ys k)(h1:k<xs.length)(h2:k<ys.length)(he:xs[k]=ys[k]):qH xs ys (k+1):=by
 unfold qH at *;rw[List.take_add_one,List.take_add_one,h,List.getElem?_eq_getElem h1,List.getElem?_eq_getElem h2,he]
theorem Db{xs ys:List Nt}(h:qH xs ys xs.length)(hl:xs.length=ys.length):xs=ys:=by
 unfold qH at h;rw[List.take_length,hl,List.take_length] at h;exact h
theorem Jz{xs ys:List Nt}{k:Nat}(h1:k<xs.length)(h2:k<ys.length)(he:xs[k]≠ys[k]):xs≠ys:=fun e=>he (by subst e;rfl)
theorem Jy(m n:Nt):m=n∨(m≠n∧¬(m.kind.toNat:Int)=n.kind.toNat)∨(m≠n∧(m.kind.toNat:Int)=n.kind.toNat∧¬m.no=n.no)∨
  (m≠n∧(m.kind.toNat:Int)=n.kind.toNat∧m.no=n.no∧¬m.src.toList=n.src.toList)∨(m≠n∧(m.kind.toNat:Int)=n.kind.toNat∧m.no=n.no∧m.src.toList=n.src.toList∧¬m.dst.toList=n.dst.toList)∨
  (m≠n∧(m.kind.toNat:Int)=n.kind.toNat∧m.no=n.no∧m.src.toList=n.src.toList∧m.dst.toList=n.dst.toList∧¬m.tmp.toList=n.tmp.toList):=by
 have tl:∀{s t:ByteArray},s.toList=t.toList→s=t:=fun{s t} h=>by
  rw[aC,aC] at h
  cases s;cases t
  congr 1;exact Array.toList_inj.1 h
 obtain⟨k,o,s,d,t⟩:=m;obtain⟨k',o',s',d',t'⟩:=n;by_cases e1:(k.toNat:Int)=k'.toNat
 ·have e1':k=k':=UInt8.toNat_inj.1 (by omega);subst e1';by_cases e2:o=o'
  ·subst e2;by_cases e3:s.toList=s'.toList
   ·by_cases e4:d.toList=d'.toList
    ·by_cases e5:t.toList=t'.toList
     ·left;rw[tl e3,tl e4,tl e5]
     ·right;right;right;right;right;exact⟨fun e=>e5 (by injection e with _ _ _ _ h;rw[h]),rfl,rfl,e3,e4,e5⟩
    ·right;right;right;right;left;exact⟨fun e=>e4 (by injection e with _ _ _ h;rw[h]),rfl,rfl,e3,e4⟩
   ·right;right;right;left;exact⟨fun e=>e3 (by injection e with _ _ h;rw[h]),rfl,rfl,e3⟩
  ·right;right;left;exact⟨fun e=>e2 (by injection e),rfl,e2⟩
 ·right;left;exact⟨fun e=>e1 (by injection e with h;rw[h]),e1⟩
theorem z8(a b:Option Addr)(c d:Nat)(xs ys:List Gr)(w:World)(hA:j0 w a c xs)(hB:j0 w b d ys) :
  Calls Tryz.prog 18 #[.slice a xs.length c,.slice b ys.length d] w fun e w'=>e=.returned (.bool (tm xs ys))∧Up w w':=by
 have HA:=Um hA;have HB:=Um hB;have hlx:xs.length≤9223372036854775807:=ae hA.sl.2.1 hA.sl.2.2.1;have hly:ys.length≤9223372036854775807:=ae hB.sl.2.1 hB.sl.2.2.1;clear hA hB;by_cases hlen:xs.length=ys.length
 ·have qk:=(nC (xs.length:Int) ys.length (by omega)).2;have va:=Um hlen;clear hlen;go_enter Tryz.func18,Tryz.ntmps18;go_wp2_with fail
  go_loopw [5] (fun t5 wr=>∃(k:Nat),k≤xs.length∧t5=.int .i64 k∧vS xs ys k∧Up w wr) (fun t5 _=>xs.length-(intOf t5).toNat)
  case atStart=>exact⟨0,Nat.zero_le _,rfl,rfl,Below.refl _ _⟩
  case round=>
   obtain⟨k,hk,rfl,hso,hW⟩:=hrel;have HS:=Um hso;have HW:=Um hW;clear hso;by_cases hlt:k<xs.length
   ·have uk:k<ys.length:=by have:=va.o;omega
    have jk:=HA.o.below hW (aa _);have eM:=HB.o.below hW (aa _);obtain⟨ba,oa,rfl⟩:=jk.addr (by omega);obtain⟨bb,ob,rfl⟩:=eM.addr (by omega);obtain⟨c0,c1,cl⟩:=jk.cells k hlt;obtain⟨d0,d1,dl⟩:=eM.cells k uk;have vL:=Um jk;have cV:=Um eM;have hx:=jk.at' xs[k] (List.getElem_mem _);have hy:=eM.at' ys[k] (List.getElem_mem _);have HC:=Um (fun W (h:j0 W (some ⟨ba,oa,none⟩) c xs)=>h.cells k hlt);have HD:=Um (fun W (h:j0 W (some ⟨bb,ob,none⟩) d ys)=>h.cells k uk);have fx:=Um (CL HS.o hlt uk);have fL:=Um (Ms hlt uk);generalize xs[k]=x at c0 c1 hx HC fx fL;generalize ys[k]=y at d0 d1 hy HD fx fL;have hnx:x.notes.length≤9223372036854775807:=ae hx.2.1 hx.2.2.1;have hny:y.notes.length≤9223372036854775807:=ae hy.2.1 hy.2.2.1;have HX:=Um hx;have HY:=Um hy;clear jk eM hx hy hW;by_cases hf:x.fin.toNat=y.fin.toNat
    ·have gd:=(nC (x.fin.toNat:Int) y.fin.toNat (by omega)).2;have ve:=Um hf;clear hf;by_cases hn:x.notes.length=y.notes.length
     ·have gO:=(nC (x.notes.length:Int) y.notes.length (by omega)).2;go_wp2_with fail
      go_region
      go_wp2_with fail;clear c0 c1 d0 d1 gd
      go_loopw [6] (fun t6 w2=>∃(j:Nat),j≤x.notes.length∧t6=.int .i64 j∧qH x.notes y.notes j∧Up wr w2) (fun t6 _=>x.notes.length-(intOf t6).toNat)
      case atStart=>exact⟨0,Nat.zero_le _,rfl,rfl,(Below.refl _ _).drew⟩
      case round=>
       obtain⟨j,hj,rfl,hns,nF⟩:=hrel;have TT:=Um hns;have jc:=Um nF;clear hns;obtain⟨c0,c1,cl⟩:=HC.o _ (vL.o.below nF (aa _));obtain⟨d0,d1,dl⟩:=HD.o _ (cV.o.below nF (aa _));have Cb:=HX.o.below nF (aa _);have A5:=HY.o.below nF (aa _);by_cases hjl:j<x.notes.length
       ·have Pu:j<y.notes.length:=by omega
        obtain⟨na,pa,hna⟩:=Cb.addr (by omega);obtain⟨nb,pb,hnb⟩:=A5.addr (by omega);obtain⟨e0,e1,e2,e3,e4,el⟩:=Cb.cells hna j hjl;obtain⟨f0,f1,f2,f3,f4,fl⟩:=A5.cells hnb j Pu;have zb:=Um (AJ TT.o hjl Pu);have N6:=Um (Jz hjl Pu);generalize x.notes[j]=m at e0 e1 e2 e3 e4 zb N6;generalize y.notes[j]=n at f0 f1 f2 f3 f4 zb N6;clear Cb A5 nF;rw[hna] at c0;rw[hnb] at d0;clear hna hnb;rcases Jy m n with rfl|⟨g1,g2⟩|⟨g1,g2,g3⟩|⟨g1,g2,g3,g4⟩|⟨g1,g2,g3,g4,g5⟩|⟨g1,g2,g3,g4,g5,g6⟩
        ·go_wp2_with fail
         go_region
         go_wp2_with fail;go_roundw
         case measure=>simp[intOf];omega
         case rel=>exact⟨j+1,by omega,by go_num,zb.o trivial,jc.o.drew⟩
        all_goals
         have HR:=Um (fL.o (fun e=>N6.o g1 (congrArg (fun g:List Nt×UInt8=>g.1) e)));clear g1 N6 zb;go_wp2_with fail
         go_region
         go_wp2_with fail;go_ret;exact⟨aZ (by rw[HR.o]),ao HW.o jc.o.drew⟩
       ·obtain rfl:j=x.notes.length:=by omega
        have HEq:=Um (Db TT.o hn);have Hq:=Um (ao HW.o jc.o);clear Cb A5 nF jc TT;go_wp2_with fail;go_roundw
        case measure=>simp[intOf];omega
        case rel=>exact⟨k+1,by omega,by go_num,fx.o (Prod.ext HEq.o (UInt8.toNat_inj.1 ve.o)),Hq.o⟩
     ·have gO:=(nB (x.notes.length:Int) y.notes.length (by omega)).2;go_wp2_with fail
      go_region
      go_wp2_with fail;go_ret;exact⟨aZ (by rw[fL.o (fun e=>hn (congrArg (fun g:List Nt×UInt8=>g.1.length) e))]),HW.o.drew⟩
    ·have gd:=(nB (x.fin.toNat:Int) y.fin.toNat (by omega)).2;have ve:=Um hf;clear hf;go_wp2_with fail
     go_region
     go_wp2_with fail;go_ret;exact⟨aZ (by rw[fL.o (fun e=>ve.o (congrArg (fun g:List Nt×UInt8=>g.2.toNat) e))]),HW.o.drew⟩
   ·obtain rfl:k=xs.length:=by omega
    go_wp2_with fail;go_ret;exact⟨aZ (by rw[Fu HS.o va.o]),HW.o⟩
 ·have qk:=(nB (xs.length:Int) ys.length (by omega)).2;go_enter Tryz.func18,Tryz.ntmps18;go_wp2_with fail;go_ret;exact⟨aZ (by rw[FA hlen]),Below.refl _ _⟩
end
section
open Go.RowKit
abbrev Gs:=List (List Nt×UInt8)
def Fs.Se(S:Fs)(d:Bool)(u:Us)(no:Int):Gs×Int×Int:=
 if(S.cC no).kind≠2 then([],0,1) else if(S.cC no).uid≠u.u then([],0,4)
 else if(S.jD d u.c no).2≠0 then([],0,(S.jD d u.c no).2)
 else match dm (S.jD d u.c no).1.data.toList with
  |none=>([],0,2)
  |some gs=>(gs,no,0)
def Fs.aV(S:Fs)(d:Bool)(u:Us):Gs×Int×Int:=
 if(S.bL d u).2≠0 then([],0,(S.bL d u).2)
 else if(S.cR d u.c (S.bL d u).1 dq).2=5 then([],0,0)
 else if(S.cR d u.c (S.bL d u).1 dq).2≠0 then([],0,(S.cR d u.c (S.bL d u).1 dq).2)
 else S.Se d u (S.cR d u.c (S.bL d u).1 dq).1
def Sy.yp(Y:Sy)(u:Us)(data:ByteArray):Sy×Int:=
 if(Y.fs.bL Y.dead u).2≠0 then(Y,(Y.fs.bL Y.dead u).2)
 else((Y.op (fun S now=>S.file u.c now (Y.fs.bL Y.dead u).1 dq 384 data)).1,(Y.op (fun S now=>S.file u.c now (Y.fs.bL Y.dead u).1 dq 384 data)).2.2)
def Sy.du(Y:Sy)(u:Us)(gs:Gs):Sy×Int:=
 if(Y.fs.aV Y.dead u).2.2≠0 then(Y,(Y.fs.aV Y.dead u).2.2)
 else if bU gs=false then(Y,1)
 else if(Y.fs.aV Y.dead u).2.1≠0 then Y.pW u.c (Y.fs.aV Y.dead u).2.1 (str (aI gs))
 else Y.yp u (str (aI gs))
def Sy.iZ(Y:Sy)(u:Us)(ns:List Nt):Sy×Int:=
 if(Y.fs.aV Y.dead u).2.2≠0 then(Y,(Y.fs.aV Y.dead u).2.2)
 else if(Y.fs.aV Y.dead u).1.getLast?.any (fun g=>g.2 != 101)=true then(Y,16)
 else Y.du u ((Y.fs.aV Y.dead u).1++[(ns,0)])
def Nt.fU(x:Nt)(no:Int):Nt:={x with no:=no,tmp:=if x.tmp.size=0 then x.tmp else x.dst}
def dN(ns:List Nt)(no:Int):List Nt:=if no=0 then ns else match ns.getLast? with|none=>ns|some x=>ns.dropLast++[x.fU no]
def Sy.iX(Y:Sy)(u:Us)(b:UInt8)(no:Int):Sy×Int:=
 if(Y.fs.aV Y.dead u).2.2≠0 then(Y,(Y.fs.aV Y.dead u).2.2)
 else match(Y.fs.aV Y.dead u).1.getLast? with
  |none=>(Y,5)
  |some g=>Y.du u ((Y.fs.aV Y.dead u).1.dropLast++[(dN g.1 no,b)])
def Sy.jA(Y:Sy)(u:Us):Sy×Int:=
 if(Y.fs.aV Y.dead u).2.2≠0 then(Y,(Y.fs.aV Y.dead u).2.2)
 else match(Y.fs.aV Y.dead u).1.getLast? with
  |none=>(Y,5)
  |some _=>Y.du u (Y.fs.aV Y.dead u).1.dropLast
theorem eb.yp{Y:Sy}{N:Nat}(h:eb Y N)(u:Us)(data:ByteArray):eb (Y.yp u data).1 (N+1):=by
 unfold Sy.yp
 split
 ·exact h.mono (by omega)
 ·exact h.op (h.fg.file _ _ _ _ _ _)
theorem eb.du{Y:Sy}{N:Nat}(h:eb Y N)(u:Us)(gs:Gs):eb (Y.du u gs).1 (N+1):=by
 unfold Sy.du
 split
 ·exact h.mono (by omega)
 ·split
  ·exact h.mono (by omega)
  ·split
   ·exact h.pW _ _ _
   ·exact h.yp u _
theorem eb.iZ{Y:Sy}{N:Nat}(h:eb Y N)(u:Us)(ns:List Nt):eb (Y.iZ u ns).1 (N+1):=by
 unfold Sy.iZ
 split
 ·exact h.mono (by omega)
 ·split
  ·exact h.mono (by omega)
  ·exact h.du u _
theorem eb.iX{Y:Sy}{N:Nat}(h:eb Y N)(u:Us)(b:UInt8)(no:Int):eb (Y.iX u b no).1 (N+1):=by
 unfold Sy.iX
 split
 ·exact h.mono (by omega)
 ·split
  ·exact h.mono (by omega)
  ·exact h.du u _
theorem eb.jA{Y:Sy}{N:Nat}(h:eb Y N)(u:Us):eb (Y.jA u).1 (N+1):=by
 unfold Sy.jA
 split
 ·exact h.mono (by omega)
 ·split
  ·exact h.mono (by omega)
  ·exact h.du u _
end
section
open Go.RowKit
def NR(w:World)(base:Nat)(g:Gr):Prop:=w.ownsRow base 63 5 (.slice g.a g.notes.length g.c) g.notes.length (g.notes.flatMap Nt.cs)
structure OG(w:World)(base:Nat)(v:Value)(gs:List Gr):Prop where
 own:w.ownsRow base 45 2 v gs.length (gs.flatMap Gr.cs)
 notes:∀i (h:i<gs.length),NR w base gs[i]
 sep:∀i j (hi:i<gs.length) (hj:j<gs.length),i≠j→gs[i].a=gs[j].a→gs[i].a=none
theorem fP{w:World}{base sz n k:Nat}{e:TypeId}{v:Value}{xs:List Value}(h:w.ownsRow base e sz v n xs)(hk:v.ownBlock=some k):base≤k∧∃cur,w.heap[k]?=some (.cells cur e (0,0)):=by
 rcases h.2 with⟨rfl,-⟩|⟨g,cap,cur,rfl,hb,hg,-⟩
 ·cases hk
 ·simp only[Value.ownBlock,Option.some.injEq] at hk;subst hk;exact⟨hb,cur,hg⟩
theorem fD{w:World}{base base' sz sz' n n' k:Nat}{e e':TypeId}{v v':Value}{xs xs':List Value}(he:e≠e')(h:w.ownsRow base e sz v n xs)(h':w.ownsRow base' e' sz' v' n' xs')(hk:v.ownBlock=some k):v'.ownBlock≠some k:=fun hk'=>by
 obtain⟨-,cur,h1⟩:=fP h hk;obtain⟨-,cur',h2⟩:=fP h' hk';rw[h1] at h2;injection h2 with h2;injection h2 with _ h2;exact he h2
theorem rL:45≠63:=by decide
theorem OG.nil(w:World)(base:Nat):OG w base (.slice none 0 0) []:=⟨World.ownsRow_nil _ _ _ _,fun i h=>by simp at h,fun i j hi=>by simp at hi⟩
theorem OG.ak{w w':World}{base:Nat}{v:Value}{gs:List Gr}(h:OG w base v gs)(hb:Up w w'):OG w' base v gs:=
 ⟨bY h.own hb (aa _),fun i hi=>bY (h.notes i hi) hb (aa _),h.sep⟩
theorem OG.eB{w w':World}{base:Nat}{v:Value}{gs:List Gr}(h:OG w base v gs)(ht:∀k cur T,base≤k→w.heap[k]?=some (.cells cur T (0,0))→w'.heap[k]?=some (.cells cur T (0,0))):OG w' base v gs:=by
 have key:∀{e:TypeId} {sz n:Nat} {v:Value} {xs:List Value},w.ownsRow base e sz v n xs→w'.ownsRow base e sz v n xs:=fun h=>
  ⟨h.1,h.2.imp id fun⟨g,cap,cur,hv,hb,hg,rest⟩=>⟨g,cap,cur,hv,hb,ht _ _ _ hb hg,rest⟩⟩
 exact⟨key h.own,fun i hi=>key (h.notes i hi),h.sep⟩
theorem OG.form{w:World}{base:Nat}{v:Value}{gs:List Gr}(h:OG w base v gs):∃a c,v=.slice a gs.length c∧gs.length≤c∧c≤9223372036854775807∧((a=none∧gs.length=0∧c=0)∨∃g,a=some ⟨g,0,none⟩∧base≤g∧g<w.heap.size):=bw h.own
theorem OG.n8{w:World}{base c:Nat}{a:Option Addr}{gs:List Gr}(h:OG w base (.slice a gs.length c) gs):j0 w a c gs:=
 ⟨bW (R:=P4) (by omega) Gr.bt (fun _=>rfl) h.own,fun g hg=>by
  obtain⟨i,hi,rfl⟩:=List.mem_iff_getElem.1 hg;exact bW (R:=Ig) (by omega) Nt.bt (fun _=>rfl) (h.notes i hi)⟩
theorem pS:(Tryz.prog.info? 45).map (fun i=>(i.zero,i.size,i.bytes))=some (some (.agg #[.slice none 0 0,.int .u8 0]),2,32):=by kernel_rfl
theorem Er:(Tryz.prog.info? 63).map (fun i=>(i.zero,i.size,i.bytes))=some (some (.agg #[.int .u8 0,.int .i64 0,.string ByteArray.empty,.string ByteArray.empty,.string ByteArray.empty]),5,64):=by kernel_rfl
def Gr.zero:Gr:=⟨none,0,[],0⟩
theorem wW{S:Nat→Prop}{w W:World}(h:Mod S w W)(hS:∀k,S k→∃cur T fz,w.heap[k]?=some (.cells cur T fz)):KeepsOthers w W:=
 ⟨h.size,fun k o hk ho=>(h.block k (Array.getElem?_eq_some_iff.1 hk).1 (fun hs=>by obtain⟨cur,T,fz,hc⟩:=hS k hs;rw[hc] at hk;injection hk with hk;subst hk;cases ho)).trans hk⟩
theorem OG.app{w:World}{base:Nat}{v:Value}{gs:List Gr}(h:OG w base v gs)(hl:gs.length≤10000000)(hb:base≤w.heap.size) :
  ∃g cap W,(Builtin.append_ #[38,38] 38 #[v,.slice (some ⟨w.heap.size,0,none⟩) 1 1]).run Tryz.prog (w.alloc (.cells #[.slice none 0 0,.int .u8 0] 45))=.ok (.slice (some ⟨g,0,none⟩) (gs.length+1) cap) W∧
   OG W base (.slice (some ⟨g,0,none⟩) (gs.length+1) cap) (gs++[Gr.zero])∧Below base w W∧KeepsOthers w W:=by
 obtain⟨i0,hi,iU,gx,fT⟩:=info_parts pS;have h2:=h.ak ((Below.refl _ w).alloc (aa _) (.cells #[.slice none 0 0,.int .u8 0] 45));obtain⟨g,cap,W,h3,h4,h5,h6⟩:=cX 38 Tryz.underlying38 hi iU gx fT rfl (by omega) h2.own ⟨w.heap.size,0,none⟩ 1 1 [.slice none 0 0,.int .u8 0] rfl (World.news_of_block (au.new w #[.slice none 0 0,.int .u8 0] 45)) (by intro u hu;simp at hu;rcases hu with rfl|rfl<;>rfl) (by omega) (by unfold maxLen;omega) (by omega) (by simp;omega);refine⟨g,cap,W,h3,⟨?_,fun i hi=>?_,fun i j hi hj hij he=>?_⟩,?_,(KeepsOthers.alloc _ _).trans (wW h5 (fun k hk=>by obtain⟨-,cur,hc⟩:=fP h2.own hk;exact⟨_,_,_,hc⟩))⟩
 ·rw[List.length_append,List.length_singleton,List.flatMap_append];exact h4
 ·by_cases hlt:i<gs.length
  ·rw[List.getElem_append_left hlt];exact bq (h2.notes i hlt) h5 (fun k hk=>fD rL h2.own (h2.notes i hlt) hk)
  ·have:i=gs.length:=by simp at hi;omega
   subst this;rw[List.getElem_append_right (by omega)];simp only[Nat.sub_self,List.getElem_singleton];exact World.ownsRow_nil _ _ _ _
 ·by_cases h1:i<gs.length
  ·rw[List.getElem_append_left h1] at he⊢;by_cases h2:j<gs.length
   ·rw[List.getElem_append_left h2] at he;exact h.sep i j h1 h2 hij he
   ·have:j=gs.length:=by simp at hj;omega
    subst this;rw[List.getElem_append_right (by omega)] at he;simpa [Gr.zero] using he
  ·have:i=gs.length:=by simp at hi;omega
   subst this;rw[List.getElem_append_right (by omega)];simp[Gr.zero]
 ·exact((Below.refl base w).alloc hb _).trans (h5.below (fun k hk=>(fP h2.own hk).1) (by simp;omega))
theorem tN{w:World}{base sz n g cap:Nat}{e:TypeId}{xs:List Value}(h:w.ownsRow base e sz (.slice (some ⟨g,0,none⟩) n cap) n xs)(j:Nat)(hj:j<xs.length)(v:Value) :
  (w.setCell ⟨g,j,none⟩ v).ownsRow base e sz (.slice (some ⟨g,0,none⟩) n cap) n (xs.set j v):=by
 rcases h.2 with⟨hv,-⟩|⟨g',cap',cur,hv,hb,hg,h1,h2,h3,h4⟩
 ·cases hv
 ·injection hv with e1 e2 e3;injection e1 with e1;injection e1 with e1;subst e1 e3;refine⟨by rw[List.length_set];exact h.1,.inr ⟨g,cap,_,rfl,hb,au.set hg j v,h1,h2,by rw[Array.size_setIfInBounds];exact h3,?_⟩⟩;rw[Array.toList_setIfInBounds,List.take_set,h4]
theorem GU(gs:List Gr)(k:Nat)(hk:k<gs.length)(g':Gr)(h:g'.fin=gs[k].fin):(gs.flatMap Gr.cs).set (k*2) (.slice g'.a g'.notes.length g'.c)=(gs.set k g').flatMap Gr.cs:=by
 have h1:=fB Gr.bt g' gs k hk;have h2:=fH Gr.bt gs k 1 hk (by omega);rw[←h1];show _=((gs.flatMap Gr.cs).set (k*2) _).set (k*2+1) (.int .u8 g'.fin.toNat);have hlt:k*2+1<(gs.flatMap Gr.cs).length:=by rw[bC Gr.bt];omega
 have h3:(gs.flatMap Gr.cs)[k*2+1]=.int .u8 g'.fin.toNat:=by
  rw[List.getElem?_eq_getElem hlt] at h2;rw[h];simpa [Gr.cs] using h2
 have h4:((gs.flatMap Gr.cs).set (k*2) (.slice g'.a g'.notes.length g'.c))[k*2+1]'(by rw[List.length_set];exact hlt)=.int .u8 g'.fin.toNat:=by
  rw[List.getElem_set_ne (by omega)];exact h3
 rw[←h4,List.set_getElem_self]
theorem GS(gs:List Gr)(k:Nat)(hk:k<gs.length)(f:UInt8):(gs.flatMap Gr.cs).set (k*2+1) (.int .u8 f.toNat)=(gs.set k {gs[k] with fin:=f}).flatMap Gr.cs:=by
 have h1:=fB Gr.bt {gs[k] with fin:=f} gs k hk;have h2:=fH Gr.bt gs k 0 hk (by omega);rw[←h1];show _=((gs.flatMap Gr.cs).set (k*2) (.slice gs[k].a gs[k].notes.length gs[k].c)).set (k*2+1) (.int .u8 f.toNat);have hlt:k*2<(gs.flatMap Gr.cs).length:=by rw[bC Gr.bt];omega
 have h3:(gs.flatMap Gr.cs)[k*2]=.slice gs[k].a gs[k].notes.length gs[k].c:=by
  rw[Nat.add_zero,List.getElem?_eq_getElem hlt] at h2;simpa [Gr.cs] using h2
 rw[←h3,List.set_getElem_self]
theorem xi(gs:List Gr):(gs.flatMap Gr.cs).length=gs.length*2:=bC Gr.bt gs
theorem OG.fin{w:World}{base g cap:Nat}{gs:List Gr}(h:OG w base (.slice (some ⟨g,0,none⟩) gs.length cap) gs)(k:Nat)(hk:k<gs.length)(f:UInt8) :
  OG (w.setCell ⟨g,k*2+1,none⟩ (.int .u8 f.toNat)) base (.slice (some ⟨g,0,none⟩) gs.length cap) (gs.set k {gs[k] with fin:=f}):=by
 refine⟨?_,fun i hi=>?_,fun i j hi hj hij he=>?_⟩
 ·rw[List.length_set,←GS];exact tN h.own _ (by rw[xi];omega) _
 ·rw[List.length_set] at hi;have key:=bq (h.notes i hi) ((Mod.refl (fun k=>k=g) w).setCell (a:=⟨g,k*2+1,none⟩) (.inl rfl) (.int .u8 f.toNat)) (fun k hk=>by subst hk;exact fD rL h.own (h.notes i hi) rfl);rw[List.getElem_set]
  split
  ·rename_i e;subst e;exact key
  ·exact key
 ·rw[List.length_set] at hi hj;have key:∀i (hi:i<gs.length),((gs.set k {gs[k] with fin:=f})[i]'(by rw[List.length_set];exact hi)).a=gs[i].a:=fun i hi=>by
   rw[List.getElem_set];split
   ·rename_i e;subst e;rfl
   ·rfl
  rw[key i hi,key j hj] at he;rw[key i hi];exact h.sep i j hi hj hij he
theorem OG.put{w:World}{base g cap:Nat}{gs:List Gr}(k:Nat)(hk:k<gs.length)(gn:Gr)
  (ho:w.ownsRow base 45 2 (.slice (some ⟨g,0,none⟩) gs.length cap) gs.length (gs.flatMap Gr.cs)) (hn:∀i (hi:i<gs.length),i≠k→NR w base gs[i])
  (hs:∀i j (hi:i<gs.length) (hj:j<gs.length),i≠j→gs[i].a=gs[j].a→gs[i].a=none) (hr:NR w base gn) (sm:∀i (hi:i<gs.length),i≠k→gs[i].a=gn.a→gn.a=none) (hf:gn.fin=gs[k].fin) :
  OG (w.setCell ⟨g,k*2,none⟩ (.slice gn.a gn.notes.length gn.c)) base (.slice (some ⟨g,0,none⟩) gs.length cap) (gs.set k gn):=by
 have hm:=(Mod.refl (fun k=>k=g) w).setCell (a:=⟨g,k*2,none⟩) (.inl rfl) (.slice gn.a gn.notes.length gn.c);refine⟨?_,fun i hi=>?_,fun i j hi hj hij he=>?_⟩
 ·rw[List.length_set,←GU gs k hk gn hf];exact tN ho _ (by rw[xi];omega) _
 ·rw[List.length_set] at hi;rw[List.getElem_set]
  split
  ·exact bq hr hm (fun k hk=>by subst hk;exact fD rL ho hr rfl)
  ·rename_i e;exact bq (hn i hi (fun e2=>e e2.symm)) hm (fun k hk=>by subst hk;exact fD rL ho (hn i hi (fun e2=>e e2.symm)) rfl)
 ·rw[List.length_set] at hi hj;simp only[List.getElem_set] at he⊢;by_cases h1:k=i
  ·rw[if_pos h1] at he⊢;rw[if_neg (by omega)] at he;exact sm j hj (by omega) he.symm
  ·rw[if_neg h1] at he⊢;by_cases h2:k=j
   ·rw[if_pos h2] at he;rw[he];exact sm i hi (by omega) he
   ·rw[if_neg h2] at he;exact hs i j hi hj hij he
end
section
open Go.RowKit
theorem tP(x:Nt):∀u∈x.cs,u.oneCell'=true:=by
 intro u hu;simp[Nt.cs] at hu;rcases hu with rfl|rfl|rfl|rfl|rfl<;>rfl
theorem NR.app{w:World}{base:Nat}{g:Gr}(h:NR w base g)(x:Nt)(hl:g.notes.length≤10000000)(hb:base≤w.heap.size) :
  ∃b cap W,(Builtin.append_ #[43,43] 43 #[.slice g.a g.notes.length g.c,.slice (some ⟨w.heap.size,0,none⟩) 1 1]).run Tryz.prog (w.alloc (.cells x.cs.toArray 63))=.ok (.slice (some ⟨b,0,none⟩) (g.notes.length+1) cap) W∧
   NR W base ⟨some ⟨b,0,none⟩,cap,g.notes++[x],g.fin⟩∧Mod (fun k=>(Value.slice g.a g.notes.length g.c).ownBlock=some k) (w.alloc (.cells x.cs.toArray 63)) W∧(g.a=some ⟨b,0,none⟩∨b=w.heap.size+1)∧base≤b:=by
 obtain⟨i0,hi,iU,gx,fT⟩:=info_parts Er;have h2:NR (w.alloc (.cells x.cs.toArray 63)) base g:=bY h ((Below.refl _ w).alloc (aa _) _) (aa _);obtain⟨b,cap,W,h3,h4,h5,h6⟩:=cX 43 Tryz.underlying43 hi iU gx fT rfl (by omega) h2 ⟨w.heap.size,0,none⟩ 1 1 x.cs rfl (World.news_of_block (au.new w x.cs.toArray 63)) (tP x) (by omega) (by unfold maxLen;omega) (by omega) (by simp;omega);refine⟨b,cap,W,h3,?_,h5,?_,?_⟩
 ·unfold NR;simp only[List.length_append,List.length_singleton,List.flatMap_append];exact h4
 ·rcases h6 with h6|h6
  ·left;have:=bw h2;obtain⟨a,c,hv,-,-,h7⟩:=this;injection hv with e1 e2 e3;rw[e1] at h6⊢;rcases h7 with⟨rfl,-⟩|⟨b',rfl,-⟩
   ·cases h6
   ·simp only[Value.ownBlock,Option.some.injEq] at h6;rw[h6]
  ·right;rw[h6];simp
 ·exact(fP h4 rfl).1
theorem OG.note{w:World}{base b c:Nat}{gs:List Gr}(h:OG w base (.slice (some ⟨b,0,none⟩) gs.length c) gs)(k:Nat)(hk:k<gs.length)(x:Nt)(hl:gs[k].notes.length≤10000000)(hb:base≤w.heap.size) :
  ∃g cap W,(Builtin.append_ #[43,43] 43 #[.slice gs[k].a gs[k].notes.length gs[k].c,.slice (some ⟨w.heap.size,0,none⟩) 1 1]).run Tryz.prog (w.alloc (.cells x.cs.toArray 63))=.ok (.slice (some ⟨g,0,none⟩) (gs[k].notes.length+1) cap) W∧
   OG (W.setCell ⟨b,k*2,none⟩ (.slice (some ⟨g,0,none⟩) (gs[k].notes.length+1) cap)) base (.slice (some ⟨b,0,none⟩) gs.length c) (gs.set k ⟨some ⟨g,0,none⟩,cap,gs[k].notes++[x],gs[k].fin⟩)∧
   Below base w W∧(∀i,W.cell? ⟨b,i,none⟩=w.cell? ⟨b,i,none⟩)∧(∀i,W.frozen? ⟨b,i,none⟩=false)∧base≤b∧KeepsOthers w W∧(∀j,j<w.heap.size→(∀a,gs[k].a=some a→a.block≠j)→W.heap[j]?=w.heap[j]?):=by
 have hA:=(Below.refl _ w).alloc (aa _) (.cells x.cs.toArray 63);have h2:=h.ak hA;obtain⟨g,cap,W,h3,h4,h5,h6,h7⟩:=(h.notes k hk).app x hl hb;have hnk:=h2.notes k hk;have hoW:=bq h2.own h5 (fun i hi=>fD (Ne.symm rL) hnk h2.own hi);have hbm:b<w.heap.size:=by
  obtain⟨-,cur,hc⟩:=fP h.own rfl;exact(Array.getElem?_eq_some_iff.1 hc).1
 refine⟨g,cap,W,h3,?_,?_,?_,?_,(fP h.own rfl).1,(KeepsOthers.alloc _ _).trans (wW h5 (fun k hk=>by obtain⟨-,cur,hc⟩:=fP hnk hk;exact⟨_,_,_,hc⟩)),fun j hj hne=>(h5.block j (by simp;omega) (fun hs=>by
  cases ha:gs[k].a with
  |none=>rw[ha] at hs;cases hs
  |some a=>
   rw[ha] at hs;simp only[Value.ownBlock,Option.some.injEq] at hs;exact hne a ha hs)).trans (Below.heap_alloc _ _ _ hj)⟩
 ·have hp:=OG.put (w:=W) (base:=base) (g:=b) (cap:=c) (gs:=gs) k hk ⟨some ⟨g,0,none⟩,cap,gs[k].notes++[x],gs[k].fin⟩ hoW (fun i hi hik=>?_) h.sep h4 (fun i hi hik he=>?_) rfl
  ·simp only[List.length_append,List.length_singleton] at hp;exact hp
  ·refine bq (h2.notes i hi) h5 (fun j hj=>?_);intro Ds;have:=h.sep i k hi hk hik
   cases ha:gs[i].a with
   |none=>rw[ha] at Ds;cases Ds
   |some a1=>
    cases Oq:gs[k].a with
    |none=>rw[Oq] at hj;cases hj
    |some a2=>
     rw[ha,Oq] at this;rw[ha] at Ds;rw[Oq] at hj;have f1:=bw (h.notes i hi);have f2:=bw (h.notes k hk);obtain⟨_,_,e1,-,-,f1⟩:=f1;obtain⟨_,_,e2,-,-,f2⟩:=f2;injection e1 with e1;injection e2 with e2;subst e1 e2;rw[ha] at f1;rw[Oq] at f2;rcases f1 with⟨f1,-⟩|⟨b1,f1,-⟩
     ·cases f1
     ·rcases f2 with⟨f2,-⟩|⟨b2,f2,-⟩
      ·cases f2
      ·injection f1 with f1;injection f2 with f2;subst f1 f2;simp only[Value.ownBlock,Option.some.injEq] at hj Ds;subst hj Ds;exact absurd (this rfl) (by simp)
  ·rcases h6 with h6|h6
   ·have:=h.sep i k hi hk hik (by rw[h6];exact he);rw[this] at he;exact absurd he (by simp)
   ·exfalso;have f1:=bw (h.notes i hi);obtain⟨_,_,e1,-,-,f1⟩:=f1;injection e1 with e1;subst e1;rcases f1 with⟨f1,-⟩|⟨b1,f1,-,f3⟩
    ·rw[f1] at he;cases he
    ·rw[f1] at he;injection he with he;injection he with he;omega
 ·exact((Below.refl base w).alloc hb _).trans (h5.below (fun j hj=>(fP hnk hj).1) (by simp;omega))
 ·intro i;have e:W.heap[b]?=w.heap[b]?:=by
   rw[h5.block b (by simp;omega) (fun hs=>fD (Ne.symm rL) hnk h2.own hs rfl)];exact Below.heap_alloc _ _ _ hbm
  simp only[World.cell?,e]
 ·intro i;obtain⟨-,cur,hc⟩:=fP hoW rfl;exact au.frozen (w:=W) hc i
theorem OG.copy{w:World}{base b c:Nat}{gs:List Gr}(h:OG w base (.slice (some ⟨b,0,none⟩) gs.length c) gs)(k:Nat)(hk:k<gs.length)(hl:gs[k].notes.length≤10000000)(hb:base≤w.heap.size) :
  ∃a' c' W,(Builtin.append_ #[43,43] 43 #[.slice none 0 0,.slice gs[k].a gs[k].notes.length gs[k].c]).run Tryz.prog w=.ok (.slice a' gs[k].notes.length c') W∧
   NR W base ⟨a',c',gs[k].notes,gs[k].fin⟩∧Up w W∧(∀a,a'=some a→w.heap.size≤a.block):=by
 obtain⟨i0,hi,iU,gx,fT⟩:=info_parts Er;rcases Nat.eq_zero_or_pos gs[k].notes.length with h0|hpos
 ·have hn:gs[k].notes=[]:=List.eq_nil_of_length_eq_zero h0;refine⟨none,0,w,?_,?_,Below.refl _ _,fun a e=>by cases e⟩
  ·rw[h0];exact gT (base:=base) (sz:=5) (n:=0) (xs:=[]) 43 Tryz.underlying43 hi (World.ownsRow_nil _ _ _ _) _ _
  ·unfold NR;simp only[hn];exact World.ownsRow_nil _ _ _ _
 ·obtain⟨-,-,-,h1|⟨b1,off,ha,hlt,hel⟩⟩:=bW (R:=fun cs x=>cs=Nt.cs x) (by omega) Nt.bt (fun _=>rfl) (h.notes k hk)
  ·omega
  ·have hf:=bw (h.notes k hk);obtain⟨_,_,e1,-,-,f1⟩:=hf;injection e1 with e1;subst e1;rcases f1 with⟨f1,f2,-⟩|⟨b2,f1,-⟩
   ·omega
   ·have hoff:b2=b1∧off=0:=by rw[f1] at ha;injection ha with ha;injection ha with e1 e2;exact⟨e1,e2.symm⟩
    obtain⟨rfl,rfl⟩:=hoff;have hnews:∀j u,(gs[k].notes.flatMap Nt.cs)[j]?=some u→w.cell? ((⟨b2,0,none⟩:Addr).add j)=some u:=by
     have:=tM (enc:=Nt.cs) (by omega) Nt.bt (show w.ownsRow base 63 5 (.slice (some ⟨b2,0,none⟩) gs[k].notes.length gs[k].c) gs[k].notes.length (gs[k].notes.flatMap Nt.cs) by have:=h.notes k hk;unfold NR at this;rw[f1] at this;exact this) 0 gs[k].notes.length (by omega);simpa using this
    obtain⟨g,cap,W,h3,h4,h5,h6⟩:=cX 43 Tryz.underlying43 hi iU gx fT rfl (by omega) (World.ownsRow_nil w base 63 5) ⟨b2,0,none⟩ gs[k].notes.length gs[k].c (gs[k].notes.flatMap Nt.cs) (bC Nt.bt _) hnews
     (by intro u hu;obtain⟨x,-,hx⟩:=List.mem_flatMap.1 hu;exact tP x u hx) hpos (by unfold maxLen;omega) (by omega) hb
    rw[Nat.zero_add,List.nil_append] at h4;rw[Nat.zero_add] at h3;refine⟨some ⟨g,0,none⟩,cap,W,by rw[f1];exact h3,h4,?_,fun a e=>?_⟩
    ·exact h5.below (fun j hj=>by cases hj) (aa _)
    ·injection e with e;subst e;rcases h6 with h6|h6
     ·cases h6
     ·exact Nat.le_of_eq h6.symm
theorem NR.block{w:World}{base:Nat}{g:Gr}(h:NR w base g){a:Addr}(ha:g.a=some a):a=⟨a.block,0,none⟩∧a.block<w.heap.size:=by
 obtain⟨_,_,e1,-,-,f1⟩:=bw h;injection e1 with e1;subst e1;rcases f1 with⟨f1,-⟩|⟨b1,f1,-,f3⟩
 ·rw[f1] at ha;cases ha
 ·rw[f1] at ha;injection ha with ha;subst ha;exact⟨rfl,f3⟩
theorem OG.O9{w W2 W:World}{base b c:Nat}{gs:List Gr}(h:OG w base (.slice (some ⟨b,0,none⟩) gs.length c) gs)(k:Nat)(hk:k<gs.length)(gL gn:Gr)(hb:Up w W2)(hL:NR W2 base gL)
  (hfr:∀a,gL.a=some a→w.heap.size≤a.block) (hm:Mod (fun j=>(Value.slice gL.a gL.notes.length gL.c).ownBlock=some j) W2 W) (hn:NR W base gn) (hor:gL.a=gn.a∨∃b2,gn.a=some ⟨b2,0,none⟩∧w.heap.size≤b2) (hf:gn.fin=gs[k].fin) :
  OG (W.setCell ⟨b,k*2,none⟩ (.slice gn.a gn.notes.length gn.c)) base (.slice (some ⟨b,0,none⟩) gs.length c) (gs.set k gn)∧(∀i,W.cell? ⟨b,i,none⟩=w.cell? ⟨b,i,none⟩)∧(∀i,W.frozen? ⟨b,i,none⟩=false)∧b<W.heap.size:=by
 have hS:∀j,(Value.slice gL.a gL.notes.length gL.c).ownBlock=some j→w.heap.size≤j:=fun j hj=>by
  cases ha:gL.a with
  |none=>rw[ha] at hj;cases hj
  |some a=>
   rw[ha] at hj;simp only[Value.ownBlock,Option.some.injEq] at hj;subst hj;exact hfr a ha
 have lW:Up w W:=hb.trans (hm.below hS hb.size);have h2:=h.ak lW;obtain⟨-,cur,hc⟩:=fP h.own rfl;have hbm:=(Array.getElem?_eq_some_iff.1 hc).1;refine⟨OG.put k hk gn h2.own (fun i hi _=>h2.notes i hi) h.sep hn (fun i hi _ he=>?_) hf,fun i=>lW.cell (p:=⟨b,i,none⟩) hbm,fun i=>?_,Nat.lt_of_lt_of_le hbm lW.size⟩
 ·cases ha:gn.a with
  |none=>rfl
  |some a=>
   exfalso;have h3:=((h.notes i hi).block (he.trans ha)).2;rcases hor with hor|⟨b2,aD,bJ⟩
   ·have:=hfr a (hor.trans ha);omega
   ·rw[ha] at aD;injection aD with aD;subst aD;exact absurd h3 (by simpa using bJ)
 ·rw[lW.frozen (p:=⟨b,i,none⟩) hbm];exact au.frozen (w:=w) hc i
end
section
open Go.RowKit
theorem Gx(s:ByteArray)(w:World)(hs:s.size≤2000000) :
  Calls Tryz.prog 78 #[.string s] w fun e w'=>(∃g cap,e=.returned (.slice (some ⟨g,0,none⟩) (dB 10 s.data.toList).length cap)∧OS w' w.heap.size (.slice (some ⟨g,0,none⟩) (dB 10 s.data.toList).length cap) (dB 10 s.data.toList))∧Up w w':=by
 go_enter Tryz.func78,Tryz.ntmps78;go_wp2_with fail
 go_loopw [3,4] (fun t3 t4 wr=>∃(k g cap:Nat) (ls:List (List UInt8)),k≤s.size∧t4=.int .i64 k∧t3=.slice (some ⟨g,0,none⟩) ls.length cap∧OS wr w.heap.size (.slice (some ⟨g,0,none⟩) ls.length cap) ls∧ls=dB 10 (s.data.toList.take k)∧Up w wr) (fun _ t4 _=>s.size-(intOf t4).toNat)
 case atStart=>exact⟨0,w.heap.size,1,[[]],Nat.zero_le _,rfl,rfl,OS.one w _ [] (aa _),by simp[dB],al (Below.refl _ _) _⟩
 case round=>
  obtain⟨k,g,cap,ls,hk,rfl,rfl,hO,hls,hW⟩:=hrel;have hll:0<ls.length∧ls.length≤2000001:=by
   have h1:=dM 10 (s.data.toList.take k);have h2:(s.data.toList.take k).length≤k:=List.length_take_le _ _;rw[hls];omega
  have HO:=Um hO;have sA:=Um hls;have HW:=Um hW;obtain⟨dL,qk⟩:=hll;by_cases hlt:k<s.size
  ·have mW:=Um (gF s k hlt);by_cases hc:s[k]=10
   ·have eS:((s[k].toNat:Int)==10)=true:=by rw[hc];rfl
    have HC:=Um hc;obtain⟨g2,cap2,W,hrun,iW,eM⟩:=hO.app [] (by omega) hW.size;have HR:=Um hrun;have HX:=Um (ag iW eM);clear hc hO hls hW hrun iW eM;go_wp2_with (at_builtin;refine aG rfl rfl rfl rfl HR.o ?_);go_roundw
    case measure=>simp[intOf];omega
    case rel=>exact⟨k+1,g2,cap2,ls++[[]],by omega,by go_num,by simp,by simpa using HX.o.1,by rw[mW.o,ei,dX,if_pos HC.o,←sA.o],HW.o.trans HX.o.2⟩
   ·have eS:((s[k].toNat:Int)==10)=false:=by
     simp only[beq_eq_false_iff_ne,ne_eq];intro h;exact hc (by rw[gE];show s[k].toNat=10;omega)
    have HC:=Um hc;have hcl:=hO.cell (ls.length-1) (by omega);obtain⟨hfz,-,-⟩:=cd hO;have hts:(str ls[ls.length-1]).size≤2000000:=by
     rw[aP];have h1:=fA 10 (s.data.toList.take k) ls[ls.length-1] (by rw[←hls];exact List.getElem_mem _);have h2:(s.data.toList.take k).length≤k:=List.length_take_le _ _;omega
    have HX:=Um (fun(t:ByteArray) (ht:t=str (ls[ls.length-1]++[s[k]]))=>(show OS (wr.drew.setCell ⟨g,ls.length-1,none⟩ (.string t)) w.heap.size (.slice (some ⟨g,0,none⟩) ls.length cap) (ls.set (ls.length-1) (ls[ls.length-1]++[s[k]])) from by rw[ht];exact OS.put (w:=wr.drew) hO _ (by omega) _));have HEq:=Um (show dX 10 ls s[k]=ls.set (ls.length-1) (ls[ls.length-1]++[s[k]]) by
     unfold dX;rw[if_neg HC.o,List.getD_eq_getElem?_getD,List.getElem?_eq_getElem (show ls.length-1<ls.length by omega)];rfl)
    have hx:=Ky s k hlt;have HT:=Um (aY ls[ls.length-1] [s[k]]);have hbg:=Um (cd hO).2;generalize str ls[ls.length-1]=t at hcl hts HT;have HN:=Um (show(1:Int)≤(ls.length:Int)∧(0:Int)≤(ls.length:Int)-1∧(ls.length:Int)-1<(ls.length:Int)∧((ls.length:Int)-1).toNat=ls.length-1∧(0:Int)≤(k:Int)+1∧(k:Int)≤(k:Int)+1∧(k:Int)+1≤(s.size:Int)∧((k:Int)+1).toNat=k+1 by omega);have hss:(str [s[k]]).size=1:=rfl;have kB:=Um (ag (show IntKind.i64.wrap ((ls.length:Int)-1)=(ls.length:Int)-1 by simp[IntKind.wrap,IntKind.bits,IntKind.signed];omega) (ag (show IntKind.i64.wrap ((k:Int)+1)=(k:Int)+1 by simp[IntKind.wrap,IntKind.bits,IntKind.signed];omega) (show¬9223372036854775807<t.size+1 by omega)));clear hc hO hls hW;go_wp2_with fail;obtain⟨g1,g2,g3⟩:=kB.o;obtain⟨n0,n1,n2,n3,n4,n5,n6,n7⟩:=HN.o;refine fh 17 (by kernel_rfl) (by kernel_rfl) ?_;simp only[List.take_succ_cons,List.take_zero,List.drop_succ_cons,List.drop_zero]
    repeat still_step
    refine wpStill_nil ?_;clear g1 g2 g3;go_wp2_with fail;go_roundw
    case measure=>simp[intOf];omega
    case rel=>exact⟨k+1,g,cap,ls.set (ls.length-1) (ls[ls.length-1]++[s[k]]),by omega,by go_num,by rw[List.length_set],by rw[List.length_set];exact HX.o _ HT.o,by rw[mW.o,ei,←sA.o,HEq.o],HW.o.trans ((Below.refl _ _).drew.setCell hbg.out.1 _)⟩
  ·obtain rfl:k=s.size:=by omega
   have mW:=Um (iK s);clear hO hls hW;go_wp2_with fail;go_ret;rw[mW.o] at sA;have hls:=sA.o;subst hls;exact⟨⟨g,cap,rfl,HO.o⟩,HW.o⟩
end
section
open Go
section
variable{P:Program}{ops:Array Oper}{md:Region.Mode}{l:Nat}{n:Nat}{Q:Exit→Act→World→Prop}
theorem FF{row:String}{args:Array Value}{w:World}{R:Value→World→Prop}(h:Rows P row args w R):RowsIn Fence.wide n P row args w R:=
 fun c cs _=>let⟨v,w',r,s⟩:=h c cs;⟨v,w',r,stepsIn_wide.2 s⟩
theorem Ge{o:Oper}(hd:∀c,o.op≠.defer c){a:Act}{w:World}{K K':Act→World→Prop}(hK:∀a w,K a w→K' a w)(h:o.wp P a w K Q):o.wpIn (Fence.wide.inRound l) n P a w K' Q:=by
 unfold Oper.wp at h;unfold Oper.wpIn;refine⟨fun _ _=>trivial,?_⟩;rw[Fence.inRound_round,Oper.semAt_some l _ o hd];generalize (execOp a.eval o).run P w=r at *
 cases r with
 |ok m w'=>
  cases m with
  |value v=>exact hK _ _ h
  |skip=>exact hK _ _ h
  |defer d=>exact hK _ _ h
  |enter f args=>
   refine⟨fun h=>by simp[Fence.wide] at h,?_⟩;refine CallsIn.inRound l (callsIn_wide.2 (Calls.mono h fun e w'' he=>?_))
   cases e with
   |returned v=>exact hK _ _ he
   |panicked c=>exact he
   |outgrown=>exact he
  |row row args=>
   refine⟨fun h=>by simp[Fence.wide] at h,?_⟩;exact(FF h).mono fun v w'' hv=>hK _ _ hv
  |_=>exact h.elim
 |halt x w'=>
  cases x with
  |panic v=>exact h
  |_=>exact h.elim
theorem qa(hd:kY ops=true)(hno:¬LetsOut Q):∀(fuel:Nat) (listed:Array Bool) (a:Act) (w:World),wpAny P md ops Q fuel listed a w→wpAnyIn (Fence.wide.inRound l) n P md ops Q fuel listed a w
 |0,_,_,_,h=>h
 |fuel+1,listed,a,w,h=>by
  refine⟨h.1,fun i hi=>?_⟩;have h2:=h.2 i hi;unfold wpOp at h2;unfold wpOpIn
  cases ho:ops[i]? with
  |none=>rw[ho] at h2;exact qa hd hno fuel _ _ _ h2
  |some o=>
   rw[ho] at h2;simp only at h2⊢
   split
   ·rename_i hw;rw[if_pos hw] at h2;rcases h2 with h2|⟨-,h2⟩
    ·exact Ge (pH hd ho) (fun a w h=>qa hd hno fuel _ a w h) h2
    ·exact absurd h2 hno
   ·rename_i hw;rw[if_neg hw] at h2;exact⟨fun _ _=>trivial,qa hd hno fuel _ _ _ h2⟩
theorem kF{S:World→Prop}{id:Nat}{a:Act}{w:World}(hm:P.follows .mixedOrders=true)(hd:kY ops=true)(hno:¬LetsOut Q)(hS:S w.drew)
  (h:S w.drew→wpAnyH P .any ops Q S ops.size (Array.replicate ops.size false) a w.drew):(Code.region id ops true).wpIn (Fence.wide.inRound l) n P Q a w:=
 wpIn_region_any hm (qa hd hno _ _ _ _ (wpAny_of_held _ _ _ _ (h hS)))
section
variable{S:World→Prop}{oi:Oper}{fuel:Nat}{listed:Array Bool}{tmps:Array Value}{defers:List Deferred}{w W:World}{v:Value}
theorem iA(i d:Nat)(hr:Region.ready md ops listed=[i])(hi:ops[i]?=some oi)(hd:oi.dst=some d)(hw:Region.wanted oi (yielded ops tmps)=true)
  (he:(execOp (Act.eval {tmps,defers}) oi).run P w=.ok (.value v) W) (hS:S W) (h:wpAnyH P md ops Q S fuel (listed.setIfInBounds i true) {tmps:=tmps.setIfInBounds d v,defers} W):wpAnyH P md ops Q S (fuel+1) listed {tmps,defers} w:=by
 refine wpAnyH_ready hr (by simp) (AllReadyH.cons hi (fun K hK=>?_) AllReadyH.nil);rw[if_pos hw];unfold Oper.wp;rw[he];refine hK.out _ _ hS (fun _=>?_);rw[hd];exact h
theorem MA(i di j dj:Nat){oj:Oper}{vj:Value}(hr:Region.ready md ops listed=[i,j])(hi:ops[i]?=some oi)(hj:ops[j]?=some oj)(hdi:oi.dst=some di)(hdj:oj.dst=some dj)
  (hwi:Region.wanted oi (yielded ops tmps)=true) (hwj:Region.wanted oj (yielded ops tmps)=true) {Wi:World}
  (hei:(execOp (Act.eval {tmps,defers}) oi).run P w=.ok (.value v) Wi) (hej:(execOp (Act.eval {tmps,defers}) oj).run P w=.ok (.value vj) W) (hSi:S Wi) (hSj:S W)
  (h1:wpAnyH P md ops Q S fuel (listed.setIfInBounds i true) {tmps:=tmps.setIfInBounds di v,defers} Wi) (h2:wpAnyH P md ops Q S fuel (listed.setIfInBounds j true) {tmps:=tmps.setIfInBounds dj vj,defers} W) :
  wpAnyH P md ops Q S (fuel+1) listed {tmps,defers} w:=by
 refine wpAnyH_ready hr (by simp) (AllReadyH.cons hi (fun K hK=>?_) (AllReadyH.cons hj (fun K hK=>?_) AllReadyH.nil))
 ·rw[if_pos hwi];unfold Oper.wp;rw[hei];refine hK.out _ _ hSi (fun _=>?_);rw[hdi];exact h1
 ·rw[if_pos hwj];unfold Oper.wp;rw[hej];refine hK.out _ _ hSj (fun _=>?_);rw[hdj];exact h2
theorem sE(i d:Nat){y r:Value}{s x:Operand}{t:TypeId}(hr:Region.ready md ops listed=[i])(hi:ops[i]?=some oi)(hd:oi.dst=some d)
  (hgd:oi.guard=none) (ho:oi.op=.call {callee:=.builtin .append,args:=#[s,x],argTypes:=#[t,t]}) (hs:(Act.eval {tmps,defers}) s=v) (hx:(Act.eval {tmps,defers}) x=y)
  (hrun:(Builtin.append_ #[t,t] oi.type #[v,y]).run P w=.ok r W) (hS:S W)
  (h:wpAnyH P md ops Q S fuel (listed.setIfInBounds i true) {tmps:=tmps.setIfInBounds d r,defers} W):wpAnyH P md ops Q S (fuel+1) listed {tmps,defers} w:=by
 refine iA i d hr hi hd (by simp[Region.wanted,hgd]) ?_ hS h;unfold execOp;simp only[ho,resolve,invoke,builtin,Sem.run_bind,Sem.run_pure,Result.andThen_ok,List.map_toArray,List.map_cons,List.map_nil,hs,hx,hrun]
theorem wi(i:Nat)(hr:Region.ready md ops listed=[i])(hi:ops[i]?=some oi)(hd:oi.dst=none)(hw:Region.wanted oi (yielded ops tmps)=true)
  (he:(execOp (Act.eval {tmps,defers}) oi).run P w=.ok (.skip) W) (hS:S W) (h:wpAnyH P md ops Q S fuel (listed.setIfInBounds i true) {tmps,defers} W):wpAnyH P md ops Q S (fuel+1) listed {tmps,defers} w:=by
 refine wpAnyH_ready hr (by simp) (AllReadyH.cons hi (fun K hK=>?_) AllReadyH.nil);rw[if_pos hw];unfold Oper.wp;rw[he];refine hK.out _ _ hS (fun _=>?_);rw[hd];exact h
end
end
end
section
open Go.RowKit
section
variable{P:Program}{ops:Array Oper}{Q:Exit→Act→World→Prop}{md:Region.Mode}{S:World→Prop}
end
end
section
open Go
section
variable{P:Program}{ops:Array Oper}{Q:Exit→Act→World→Prop}{md:Region.Mode}{S:World→Prop}
def xO(md:Region.Mode)(ops:Array Oper):List (Nat×Nat)→Array Bool→Bool
 | [],_=>true
 |(i,d)::l,listed=>(match ops[i]? with|some o=>decide (o.dst=some d)|none=>false)&&Region.free md ops listed i&&(Region.ready md ops listed).contains i&&xO md ops l (listed.setIfInBounds i true)
def CA:List (Nat×Nat)→Array Bool→Array Bool
 | [],x=>x
 |(i,_)::l,x=>CA l (x.setIfInBounds i true)
def xH(P:Program)(ops:Array Oper)(S:World→Prop)(defers:List Deferred):List (Nat×Nat)→Array Value→(Array Value→Prop)→Prop
 | [],t,K=>K t
 |(i,d)::l,t,K=>∃oi v,ops[i]?=some oi∧((Region.wanted oi (yielded ops t)=true∧∀w,S w→(execOp (Act.eval {tmps:=t,defers}) oi).run P w=.ok (.value v) w)∨(Region.wanted oi (yielded ops t)=false∧v=undef))∧xH P ops S defers l (t.setIfInBounds d v) K
theorem bo{defers:List Deferred}{i d:Nat}{l:List (Nat×Nat)}{t:Array Value}{K:Array Value→Prop}{oi:Oper}{v:Value}(h0:ops[i]?=some oi)(hw:Region.wanted oi (yielded ops t)=true)
  (hy:∀w,S w→(execOp (Act.eval {tmps:=t,defers}) oi).run P w=.ok (.value v) w) (h:xH P ops S defers l (t.setIfInBounds d v) K):xH P ops S defers ((i,d)::l) t K:=⟨oi,v,h0,.inl ⟨hw,hy⟩,h⟩
theorem bG{defers:List Deferred}{t:Array Value}{K:Array Value→Prop}(h:K t):xH P ops S defers [] t K:=h
theorem tB(hs:Region.noSelect ops=true)(hQ:∀c a (d:Nat) v w,Q (.panic c) (Act.put a (some d) v) w→Q (.panic c) a w){defers:List Deferred}{w:World}(hS:S w){fuel:Nat} :
  ∀(l:List (Nat×Nat)) (listed:Array Bool) (t:Array Value),xO md ops l listed=true→xH P ops S defers l t (fun t'=>wpAnyH P md ops Q S fuel (CA l listed) {tmps:=t',defers} w)→wpAnyH P md ops Q S (fuel+l.length) listed {tmps:=t,defers} w
 | [],_,_,_,h=>h
 |(i,d)::l,listed,t,hB,h=>by
  obtain⟨oi,v,h0,hv,h⟩:=h;simp only[xO,h0,Bool.and_eq_true,decide_eq_true_eq] at hB;obtain⟨⟨⟨hd,hf⟩,hr⟩,hB⟩:=hB;refine wpAnyH_take h0 hs hf hr (fun c a w=>?_) hv hS ?_
  ·rw[hd];exact hQ c a d v w
  ·rw[hd];exact tB hs hQ hS l _ _ hB h
theorem bH(n:Nat)(l:List (Nat×Nat)){listed:Array Bool}{tmps:Array Value}{defers:List Deferred}{w:World}{fuel:Nat}(hB:xO md ops l listed=true)(hs:Region.noSelect ops=true)(hn:l.length=n)
  (hQ:∀c a (d:Nat) v w,Q (.panic c) (Act.put a (some d) v) w→Q (.panic c) a w) (hS:S w) (h:xH P ops S defers l tmps (fun t'=>wpAnyH P md ops Q S fuel (CA l listed) {tmps:=t',defers} w)) :
  wpAnyH P md ops Q S (fuel+n) listed {tmps,defers} w:=by
 subst hn;exact tB hs hQ hS l listed tmps hB h
end
end
section
open Go.RowKit
theorem sU(s:ByteArray)(w:World)(hs:s.size≤2000000) :
  Calls Tryz.prog 68 #[.string s] w fun e w'=>e=.returned (.string (str (bx s)))∧Up w w':=by
 have hc:=Um (fun w=>Am s w hs);by_cases h0:s.size=0
 ·have HV:=Um (show bx s=[] by unfold bx;rw[if_pos h0]);have hn:s.toList=[]:=by rw[aC];exact List.eq_nil_of_length_eq_zero (by rw[Array.length_toList];exact h0)
  clear h0;go_enter Tryz.func68,Tryz.ntmps68;go_wp2_with fail;go_ret;exact⟨by rw[HV.o];rfl,Below.refl _ _⟩
 ·have HV:=Um (show bx s=32::dC s.data.toList by unfold bx;rw[if_neg h0]);have hn:¬s.toList=[]:=by
   rw[aC];intro e;have:s.data.toList.length=s.size:=Array.length_toList;rw[e] at this;simp at this;omega
  have jj:s.toList.isEmpty=false:=by simpa using hn
  have hl:=gW s.data.toList;rw[show s.data.toList.length=s.size from Array.length_toList] at hl;have zk:(str (dC s.data.toList)).size≤6000000:=by rw[aP];omega
  clear h0 hl;go_enter Tryz.func68,Tryz.ntmps68;go_wp2_with (go_at_call 117;refine(hc.out _).mono ?_;rintro e w1 ⟨rfl,ar⟩);go_ret;refine⟨?_,ar⟩;rw[HV.o];show Ending.returned (.string (str [32]++str _))=_;rw[aY];rfl
theorem vN{l:List UInt8}{n:Nat}(h:l.length≤n):(str l).size≤n:=by rw[aP];exact h
theorem oq(s:ByteArray)(h:s.size≤2000000):(str (bx s)).size≤6000001:=by
 rw[aP];unfold bx
 split
 ·simp
 ·have:=gW s.data.toList;rw[show s.data.toList.length=s.size from Array.length_toList] at this;rw[List.length_cons];omega
theorem xy(c:UInt8)(W:World)(g:Nat)(h:W.cell? ⟨g,0,none⟩=some (.int .u8 c.toNat)):(convert 121 9 (.slice (some ⟨g,0,none⟩) 1 1)).run Tryz.prog W=.ok (.string (str [c])) W:=by
 have:=lz (P:=Tryz.prog) (src:=121) (dst:=9) Tryz.underlying121 Tryz.underlying5 Tryz.underlying9 W g 0 1 [(c.toNat:Int)] (by
  intro j hj;simp only[List.length_cons,List.length_nil,Nat.zero_add,Nat.lt_one_iff] at hj;subst hj;exact h)
 simpa using this
section
variable{P:Program}{ops:Array Oper}{o:Oper}{a:Act}{w:World}{Q:Exit→Act→World→Prop}{x:Operand}{src dst:TypeId}{v r:Value}
end
theorem JR(o:ByteArray)(x:Nt)(l:List UInt8)(h:o=str l):o++str [x.kind]++ByteArray.mk #[32]++str (cG x.no)++str (bx x.src)++str (bx x.dst)++str (bx x.tmp)++ByteArray.mk #[10]=str (l++dU x):=by
 subst h;show str l++str [x.kind]++str [32]++str (cG x.no)++str (bx x.src)++str (bx x.dst)++str (bx x.tmp)++str [10]=_;simp only[aY];congr 1;simp[dU]
theorem tn(a:Option Addr)(c:Nat)(gs:List Gr)(w:World)(hG:j0 w a c gs)(hO:rv gs)(hT:(aI (gs.map Gr.p)).length≤200000000) :
  Calls Tryz.prog 34 #[.slice a gs.length c] w fun e w'=>e=.returned (.string (str (ca (gs.map Gr.p))))∧Up w w':=by
 have HG:=Um hG;have HO:=Um hO;have hlen:gs.length≤9223372036854775807:=ae hG.sl.2.1 hG.sl.2.2.1;have HF:=Um (uH a c gs w hG hO);clear hG hO
 cases hf:bU (gs.map Gr.p)
 ·rw[hf] at HF;have HV:=Um (show ca (gs.map Gr.p)=[] by unfold ca;rw[hf];rfl);clear hf;go_enter Tryz.func34,Tryz.ntmps34;go_wp2_with (go_at_call 31;refine HF.o.mono ?_;rintro e w1 ⟨rfl,ar⟩);go_ret;exact⟨by rw[HV.o];rfl,ar⟩
 ·rw[hf] at HF;have HV:=Um (show ca (gs.map Gr.p)=aI (gs.map Gr.p) by unfold ca;rw[hf];rfl);have jZ:=Um (eW hf);clear hf;go_enter Tryz.func34,Tryz.ntmps34;go_wp2_with (go_at_call 31;refine HF.o.mono ?_;rintro e w1 ⟨rfl,ar⟩);have cM:=Um ar;clear ar
  go_loopw [3,4] (fun t3 t4 wr=>∃(k:Nat) (o:ByteArray) (l:List UInt8),k≤gs.length∧t4=.int .i64 k∧t3=.string o∧o=str l∧l++aI ((gs.drop k).map Gr.p)=aI (gs.map Gr.p)∧Up w wr) (fun _ t4 _=>gs.length-(intOf t4).toNat)
  case atStart=>exact⟨0,_,[],Nat.zero_le _,rfl,rfl,rfl,rfl,cM.o⟩
  case round=>
   obtain⟨k,o,l,hk,rfl,rfl,ho,htx,hW⟩:=hrel;have HX:=Um htx;have Ho:=Um ho;have HW:=Um hW;have hos:o.size≤200000000:=by
    have:=congrArg List.length htx;rw[List.length_append] at this;rw[ho,aP];omega
   by_cases hlt:k<gs.length
   ·have km:=HG.o.below hW (aa _);obtain⟨b,off,rfl⟩:=km.addr (by omega);obtain⟨c0,c1,cl⟩:=km.cells k hlt;have L4:=Um km;have hA:=km.at' gs[k] (List.getElem_mem _);have vo:=Um (HO.o gs[k] (List.getElem_mem _));have Lp:=Um (jZ.o gs[k].p (List.mem_map_of_mem (List.getElem_mem _)));have HS:=Um (vQ gs k hlt);have HC:=Um (fun W (h:j0 W (some ⟨b,off,none⟩) c gs)=>h.cells k hlt);generalize gs[k]=g at c0 c1 hA vo HS HC Lp;have hn:g.notes.length≤9223372036854775807:=ae hA.2.1 hA.2.2.1;have HA:=Um hA;have gO:¬9223372036854775807<o.size+2:=by omega
    have lZ:=Um (show(l++[103,10])++(g.notes.flatMap dU++(iG g.fin++aI ((gs.drop (k+1)).map Gr.p)))=aI (gs.map Gr.p) by rw[←HX.o,HS.o];simp);have Ho2:=Um (show o++ByteArray.mk #[103,10]=str (l++[103,10]) by rw[Ho.o];show str l++str [103,10]=_;rw[aY]);clear km hA hW htx ho c0 c1;go_wp2_with fail
    go_loopw [3,5] (fun t3 t5 w2=>∃(j:Nat) (o:ByteArray) (l:List UInt8),j≤g.notes.length∧t5=.int .i64 j∧t3=.string o∧o=str l∧l++((g.notes.drop j).flatMap dU++(iG g.fin++aI ((gs.drop (k+1)).map Gr.p)))=aI (gs.map Gr.p)∧Up wr w2) (fun _ t5 _=>g.notes.length-(intOf t5).toNat)
    case atStart=>exact⟨0,_,_,Nat.zero_le _,rfl,rfl,Ho2.o,lZ.o,Below.refl _ _⟩
    case round=>
     obtain⟨j,o,l,hj,rfl,rfl,ho,htx,nF⟩:=hrel;have HX:=Um htx;have Ho:=Um ho;have jc:=Um nF;have hos:o.size≤200000000:=by
      have:=congrArg List.length htx;rw[List.length_append] at this;rw[ho,aP];omega
     obtain⟨c0,c1,cl⟩:=HC.o _ (L4.o.below nF (aa _));have jk:=HA.o.below nF (aa _);by_cases hjl:j<g.notes.length
     ·obtain⟨nb,no,hna⟩:=jk.addr (by omega);obtain⟨d0,d1,d2,d3,d4,dl⟩:=jk.cells hna j hjl;have gM:=Um (vo.out g.notes[j] (List.getElem_mem _));have gr:=Um (ub g.notes j hjl);generalize g.notes[j]=x at d0 d1 d2 d3 d4 gM gr;clear jk nF htx ho;rw[hna] at c0;clear hna;go_wp2_with fail;have hB:=au.new wr #[.int .u8 x.kind.toNat,.int .i64 x.no,.string x.src,.string x.dst,.string x.tmp] 63;have EY:=Um (ao jc.o (al (Below.refl _ _) (.cells #[.int .u8 x.kind.toNat,.int .i64 x.no,.string x.src,.string x.dst,.string x.tmp] 63)));generalize wr.alloc _=W at hB EY⊢;generalize wr.heap.size=B at hB⊢;have pR:=hB;obtain⟨b0,-,bz⟩:=hB.facts;have cD:=Um (fun W=>tF x.no W gM.o.n0 gM.o.n1);have c1:=Um (fun W=>sU x.src W gM.o.src);have c2:=Um (fun W=>sU x.dst W gM.o.dst);have c3:=Um (fun W=>sU x.tmp W gM.o.tmp);have hK:=xy x.kind;have HL:=Um (JR o x);have hDs:=vN (p8 x.no gM.o.n0 gM.o.n1).1;have Dl:=oq x.src gM.o.src;have sm:=oq x.dst gM.o.dst;have vh:=oq x.tmp gM.o.tmp;have hks:(str [x.kind]).size=1:=rfl;generalize str [x.kind]=Kb at hK HL hks;generalize str (cG x.no)=D at cD HL hDs;generalize str (bx x.src)=S1 at c1 HL Dl;generalize str (bx x.dst)=S2 at c2 HL sm;generalize str (bx x.tmp)=S3 at c3 HL vh;have HN:=Um (show¬9223372036854775807<o.size+1∧¬9223372036854775807<o.size+2∧¬9223372036854775807<o.size+2+D.size∧¬9223372036854775807<o.size+2+D.size+S1.size∧¬9223372036854775807<o.size+2+D.size+S1.size+S2.size∧¬9223372036854775807<o.size+2+D.size+S1.size+S2.size+S3.size∧¬9223372036854775807<o.size+2+D.size+S1.size+S2.size+S3.size+1 by omega);clear hB hDs Dl sm vh d0 d1 d2 d3 d4 dl;obtain⟨n1,n2,n3,n4,n5,n6,n7⟩:=HN.o;have bP:=Um pR;clear pR b0 bz;refine wp_region_held_drew (S:=fun w'=>Up W w') (by kernel_rfl) (Below.refl _ W).drew (fun hv=>?_);refine bH 11 [(0,36),(1,37),(2,38),(7,43),(8,44),(11,47),(12,48),(15,51),(16,52),(19,55),(20,56)] (by kernel_rfl) (by kernel_rfl) rfl (fun _ _ _ _ _ h=>h) hv ?_
      iterate 11 (apply bo rfl rfl;(· (intro w dG;obtain⟨q,-,-⟩:=(bP.o.ak dG).facts;clear dG;go_simp;(try with_reducible rfl)));simp only[ah,ai,aj])
      refine bG ?_;generalize W.drew=v at hv⊢;refine iI 3 39 9 45 (vi:=.slice (some ⟨v.heap.size,0,none⟩) 1 1) (Wi:=v.alloc (.cells #[.int .u8 x.kind.toNat] 5)) (R:=fun r w'=>r=.string D∧Up v w') (by kernel_rfl) rfl rfl rfl rfl rfl rfl ?ea9 (ao hv ((Below.refl _ v).alloc (aa _) _)) ?eb9 ((cD.out _).mono (fun e w' ⟨he,hb⟩=>⟨_,he,rfl,hb⟩)) (fun _ w' ⟨_,hb⟩=>ao hv hb) ?mk9 ?ck9
      case ea9=>(go_simp;(try rfl))
      case eb9=>(go_simp;(try rfl))
      focus
       simp only[ah,ai,aj];refine jw (S':=fun w'=>Up W w'∧au w' v.heap.size #[.int .u8 x.kind.toNat] 5) (fun _ h=>h.1) _ _ _ _ ?_;have hm:=ag (ao hv ((Below.refl _ v).alloc (aa _) (.cells #[.int .u8 x.kind.toNat] 5))) (au.new v #[.int .u8 x.kind.toNat] 5);generalize v.alloc _=x1 at hm⊢;generalize v.heap.size=p at hm⊢
      rotate_left
      rintro _ v2 ⟨rfl,hb⟩;simp only[ah,ai,aj];have qM:=ao hv hb;clear hv hb;revert v2;intro v hv;refine iI 3 39 13 49 (vi:=.slice (some ⟨v.heap.size,0,none⟩) 1 1) (Wi:=v.alloc (.cells #[.int .u8 x.kind.toNat] 5)) (R:=fun r w'=>r=.string S1∧Up v w') (by kernel_rfl) rfl rfl rfl rfl rfl rfl ?ea13 (ao hv ((Below.refl _ v).alloc (aa _) _)) ?eb13 ((c1.out _).mono (fun e w' ⟨he,hb⟩=>⟨_,he,rfl,hb⟩)) (fun _ w' ⟨_,hb⟩=>ao hv hb) ?mk13 ?ck13
      case ea13=>(go_simp;(try rfl))
      case eb13=>(go_simp;(try rfl))
      focus
       simp only[ah,ai,aj];refine jw (S':=fun w'=>Up W w'∧au w' v.heap.size #[.int .u8 x.kind.toNat] 5) (fun _ h=>h.1) _ _ _ _ ?_;have hm:=ag (ao hv ((Below.refl _ v).alloc (aa _) (.cells #[.int .u8 x.kind.toNat] 5))) (au.new v #[.int .u8 x.kind.toNat] 5);generalize v.alloc _=x1 at hm⊢;generalize v.heap.size=p at hm⊢
      rotate_left
      rintro _ v2 ⟨rfl,hb⟩;simp only[ah,ai,aj];have qM:=ao hv hb;clear hv hb;revert v2;intro v hv;refine iI 3 39 17 53 (vi:=.slice (some ⟨v.heap.size,0,none⟩) 1 1) (Wi:=v.alloc (.cells #[.int .u8 x.kind.toNat] 5)) (R:=fun r w'=>r=.string S2∧Up v w') (by kernel_rfl) rfl rfl rfl rfl rfl rfl ?ea17 (ao hv ((Below.refl _ v).alloc (aa _) _)) ?eb17 ((c2.out _).mono (fun e w' ⟨he,hb⟩=>⟨_,he,rfl,hb⟩)) (fun _ w' ⟨_,hb⟩=>ao hv hb) ?mk17 ?ck17
      case ea17=>(go_simp;(try rfl))
      case eb17=>(go_simp;(try rfl))
      focus
       simp only[ah,ai,aj];refine jw (S':=fun w'=>Up W w'∧au w' v.heap.size #[.int .u8 x.kind.toNat] 5) (fun _ h=>h.1) _ _ _ _ ?_;have hm:=ag (ao hv ((Below.refl _ v).alloc (aa _) (.cells #[.int .u8 x.kind.toNat] 5))) (au.new v #[.int .u8 x.kind.toNat] 5);generalize v.alloc _=x1 at hm⊢;generalize v.heap.size=p at hm⊢
      rotate_left
      rintro _ v2 ⟨rfl,hb⟩;simp only[ah,ai,aj];have qM:=ao hv hb;clear hv hb;revert v2;intro v hv;refine iI 3 39 21 57 (vi:=.slice (some ⟨v.heap.size,0,none⟩) 1 1) (Wi:=v.alloc (.cells #[.int .u8 x.kind.toNat] 5)) (R:=fun r w'=>r=.string S3∧Up v w') (by kernel_rfl) rfl rfl rfl rfl rfl rfl ?ea21 (ao hv ((Below.refl _ v).alloc (aa _) _)) ?eb21 ((c3.out _).mono (fun e w' ⟨he,hb⟩=>⟨_,he,rfl,hb⟩)) (fun _ w' ⟨_,hb⟩=>ao hv hb) ?mk21 ?ck21
      case ea21=>(go_simp;(try rfl))
      case eb21=>(go_simp;(try rfl))
      focus
       simp only[ah,ai,aj];refine jw (S':=fun w'=>Up W w'∧au w' v.heap.size #[.int .u8 x.kind.toNat] 5) (fun _ h=>h.1) _ _ _ _ ?_;have hm:=ag (ao hv ((Below.refl _ v).alloc (aa _) (.cells #[.int .u8 x.kind.toNat] 5))) (au.new v #[.int .u8 x.kind.toNat] 5);generalize v.alloc _=x1 at hm⊢;generalize v.heap.size=p at hm⊢
      rotate_left
      rintro _ v2 ⟨rfl,hb⟩;simp only[ah,ai,aj];have qM:=ao hv hb;clear hv hb;revert v2;intro v hv;refine pq 3 39 (v:=.slice (some ⟨v.heap.size,0,none⟩) 1 1) (W:=v.alloc (.cells #[.int .u8 x.kind.toNat] 5)) (by kernel_rfl) rfl rfl rfl ?ea (ao hv ((Below.refl _ v).alloc (aa _) _)) ?_
      case ea=>(go_simp;(try rfl))
      focus
       simp only[ah,ai,aj];refine jw (S':=fun w'=>Up W w'∧au w' v.heap.size #[.int .u8 x.kind.toNat] 5) (fun _ h=>h.1) _ _ _ _ ?_;have hm:=ag (ao hv ((Below.refl _ v).alloc (aa _) (.cells #[.int .u8 x.kind.toNat] 5))) (au.new v #[.int .u8 x.kind.toNat] 5);generalize v.alloc _=x1 at hm⊢;generalize v.heap.size=p at hm⊢
      rotate_left
      all_goals
       refine bH 3 [(4,40),(5,41),(6,42)] (by kernel_rfl) (by kernel_rfl) rfl (fun _ _ _ _ _ h=>h) hm ?_
       iterate 3 (apply bo rfl rfl;(· (intro w dG;have hcv:=hK _ _ (dG.2.cell 0);clear dG;go_simp;(try with_reducible rfl)));simp only[ah,ai,aj])
       refine bG ?_
      all_goals first
       |(
        refine dw 9 45 (R:=fun r w'=>r=.string D∧Up x1 w') (by decide +kernel) rfl rfl rfl ?xc9 ((cD.out _).mono (fun e w' ⟨he,hb⟩=>⟨_,he,rfl,hb⟩)) (fun _ w' ⟨_,hb⟩=>⟨ao hm.1 hb,hm.2.ak hb⟩) ?_
        case xc9=>(go_simp;(try rfl))
        rintro _ x2 ⟨rfl,hb⟩;simp only[ah,ai,aj];have lR:=ag (ao hm.1 hb) (hm.2.ak hb);clear hm hb;revert x2;intro x1 hm
        skip)
       |skip
      all_goals
       refine bH 1 [(10,46)] (by kernel_rfl) (by kernel_rfl) rfl (fun _ _ _ _ _ h=>h) hm ?_
       iterate 1 (apply bo rfl rfl;(· (intro w dG;clear dG;go_simp;(try with_reducible rfl)));simp only[ah,ai,aj])
       refine bG ?_
      all_goals first
       |(
        refine dw 13 49 (R:=fun r w'=>r=.string S1∧Up x1 w') (by decide +kernel) rfl rfl rfl ?xc13 ((c1.out _).mono (fun e w' ⟨he,hb⟩=>⟨_,he,rfl,hb⟩)) (fun _ w' ⟨_,hb⟩=>⟨ao hm.1 hb,hm.2.ak hb⟩) ?_
        case xc13=>(go_simp;(try rfl))
        rintro _ x2 ⟨rfl,hb⟩;simp only[ah,ai,aj];have lR:=ag (ao hm.1 hb) (hm.2.ak hb);clear hm hb;revert x2;intro x1 hm
        skip)
       |skip
      all_goals
       refine bH 1 [(14,50)] (by kernel_rfl) (by kernel_rfl) rfl (fun _ _ _ _ _ h=>h) hm ?_
       iterate 1 (apply bo rfl rfl;(· (intro w dG;clear dG;go_simp;(try with_reducible rfl)));simp only[ah,ai,aj])
       refine bG ?_
      all_goals first
       |(
        refine dw 17 53 (R:=fun r w'=>r=.string S2∧Up x1 w') (by decide +kernel) rfl rfl rfl ?xc17 ((c2.out _).mono (fun e w' ⟨he,hb⟩=>⟨_,he,rfl,hb⟩)) (fun _ w' ⟨_,hb⟩=>⟨ao hm.1 hb,hm.2.ak hb⟩) ?_
        case xc17=>(go_simp;(try rfl))
        rintro _ x2 ⟨rfl,hb⟩;simp only[ah,ai,aj];have lR:=ag (ao hm.1 hb) (hm.2.ak hb);clear hm hb;revert x2;intro x1 hm
        skip)
       |skip
      all_goals
       refine bH 1 [(18,54)] (by kernel_rfl) (by kernel_rfl) rfl (fun _ _ _ _ _ h=>h) hm ?_
       iterate 1 (apply bo rfl rfl;(· (intro w dG;clear dG;go_simp;(try with_reducible rfl)));simp only[ah,ai,aj])
       refine bG ?_
      all_goals first
       |(
        refine dw 21 57 (R:=fun r w'=>r=.string S3∧Up x1 w') (by decide +kernel) rfl rfl rfl ?xc21 ((c3.out _).mono (fun e w' ⟨he,hb⟩=>⟨_,he,rfl,hb⟩)) (fun _ w' ⟨_,hb⟩=>⟨ao hm.1 hb,hm.2.ak hb⟩) ?_
        case xc21=>(go_simp;(try rfl))
        rintro _ x2 ⟨rfl,hb⟩;simp only[ah,ai,aj];have lR:=ag (ao hm.1 hb) (hm.2.ak hb);clear hm hb;revert x2;intro x1 hm
        skip)
       |skip
      all_goals
       refine bH 1 [(22,58)] (by kernel_rfl) (by kernel_rfl) rfl (fun _ _ _ _ _ h=>h) hm ?_
       iterate 1 (apply bo rfl rfl;(· (intro w dG;clear dG;go_simp;(try with_reducible rfl)));simp only[ah,ai,aj])
       refine bG ?_
      all_goals
       refine bH 2 [(23,59),(24,3)] (by kernel_rfl) (by kernel_rfl) rfl (fun _ _ _ _ _ h=>h) hm ?_
       iterate 2 (apply bo rfl rfl;(· (intro w dG;clear dG;go_simp;(try with_reducible rfl)));simp only[ah,ai,aj])
       refine bG ?_;refine wpAnyH_done (by kernel_rfl) ?_ _;have sO:=Um (ao EY.o hm.1);go_wp2_with fail;go_roundw
       case measure=>simp[intOf];omega
       case rel=>exact⟨j+1,_,l++dU x,by omega,by go_num,rfl,HL.o _ Ho.o,by rw[←HX.o,gr.o];simp,sO.o⟩
     ·obtain rfl:j=g.notes.length:=by omega
      have qp:=Um (show l++(iG g.fin++aI ((gs.drop (k+1)).map Gr.p))=aI (gs.map Gr.p) by have:=HX.o;simpa using this);have Hq:=Um (ao HW.o jc.o);clear jk nF htx ho HX;by_cases hf:g.fin.toNat=0
      ·have gd:=(nC (g.fin.toNat:Int) 0 (by omega)).2;have HE:=Um (show iG g.fin=[] by unfold iG;rw[if_pos hf]);clear hf;go_wp2_with fail;go_roundw
       case measure=>simp[intOf];omega
       case rel=>exact⟨k+1,o,l,by omega,by go_num,rfl,Ho.o,by have:=qp.o;rw[HE.o] at this;exact this,Hq.o⟩
      ·have gd:=(nB (g.fin.toNat:Int) 0 (by omega)).2;have HE:=Um (show iG g.fin=[g.fin,10] by unfold iG;rw[if_neg hf]);have kc:=xy g.fin (wr.alloc (.cells #[.int .u8 g.fin.toNat] 5)) wr.heap.size (by simp);have hks:(str [g.fin]).size=1:=rfl;have HT:=Um (show o++str [g.fin]++ByteArray.mk #[10]=str (l++[g.fin,10]) by rw[Ho.o];show str l++str [g.fin]++str [10]=_;rw[aY,aY];simp);generalize str [g.fin]=Kb at kc hks HT;have jj:¬9223372036854775807<o.size+1:=by omega
       have J6:¬9223372036854775807<o.size+2:=by omega
       clear hf;go_wp2_with fail;go_roundw
       case measure=>simp[intOf];omega
       case rel=>exact⟨k+1,_,l++[g.fin,10],by omega,by go_num,rfl,HT.o,by rw[←qp.o,HE.o];simp,al Hq.o _⟩
   ·obtain rfl:k=gs.length:=by omega
    have lZ:=Um (show l=aI (gs.map Gr.p) by have:=HX.o;rw[zO,List.append_nil] at this;exact this);go_wp2_with fail;go_ret;exact⟨show Ending.returned (.string o)=_ from by rw[HV.o,←lZ.o,Ho.o],HW.o⟩
end
end Go.Proofs.YtinflmadpnigfaaGreatDoor
