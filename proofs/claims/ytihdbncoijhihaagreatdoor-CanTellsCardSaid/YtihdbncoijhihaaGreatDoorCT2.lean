import Derived.Shelf.Strings.Builder2
import Derived.Shelf.Strings.OnBuilder
import Derived.Shelf.Strings.Builder1
import Derived.Shelf.Strings.Trim
import Derived.Shelf.Small.Utf8
import Derived.Shelf.Small.Strs
import Derived.Shelf.Small.Wraps
import Derived.Shelf.Strings.BuilderF
import Derived.Shelf.Strings.BuilderK
import Derived.Shelf.Strings.Search1
import Derived.Shelf.Strings.Search2
import Derived.Shelf.Strings.Search3
import Derived.Shelf.Strings.Count
import Derived.Shelf.LaysM
import Derived.Shelf.Strings.Shaped
import Derived.Shelf.Strings.LastIndex
import Derived.Shelf.Strings.Prefix
import Derived.Shelf.Strings.Split
import Derived.Shelf.Strings.SplitShaped
import Derived.Shelf.Unicode.Decode
import Derived.Shelf.Strings.Runes
import Derived.Shelf.Strings.AsciiSet
import Derived.Shelf.Unicode.DecodeSlow
import Derived.Shelf.Unicode.DecodeAny
import Derived.Shelf.Unicode.DecodeLast
import Derived.Shelf.Strings.BuilderCap
import Derived.Ground.PaProg
import Derived.Shelf.Path.Small
import Derived.Laws.BitsAllLaws
import Derived.ProofKit
import Derived.OpenShut
import Derived.Lib.SmallJoins
import Derived.Test.YtihdbncoijhihaaGreatDoorCT1
import Derived.Test.YtihdbncoijhihaaGreatDoorProg
set_option linter.unusedVariables false
set_option linter.unusedSimpArgs false
namespace Go.Proofs.YtihdbncoijhihaaGreatDoor
open Go.RowKit
set_option maxHeartbeats 1000000 in
theorem rtake_any (b n mb mn x y : Int) (w : World) :
  Calls Tryz.prog 287 #[.agg #[.int .i64 b,.int .i64 n,.int .i64 mb,.int .i64 mn],.int .i64 x,.int .i64 y] w fun e w'=>e=.returned (tkV b n mb mn x y)∧Below w.heap.size w w':=by
 by_cases hf : fineB b n mb mn=true
 ·have hf':=hf
  unfold fineB at hf'
  simp only [decide_eq_true_eq] at hf'
  obtain⟨f1,f2,f3,f4,f5,f6⟩:=hf'
  by_cases hx : x < -1073741824∨1073741824 < x∨y < -1073741824∨1073741824 < y
  ·have hv:=tkV_of b n mb mn x y 1 (by unfold tkE tkBad;rw [if_pos];simp;omega) (by decide)
   have Hv:=Lib.hid hv
   clear hv
   have hd : (decide (1073741824 < x) || decide (x < -1073741824) || decide (1073741824 < y) || decide (y < -1073741824))=true:=by simp;omega
   go_enter Tryz.func287,Tryz.ntmps287
   go_wp2_with (go_at_call 311;refine (rfine_any _ _ _ _ _).mono ?_;rintro e w' ⟨rfl,rfl⟩)
   all_goals (first | (exfalso;omega) | (go_returns;exact ⟨by rw [Hv.out],by go_grown⟩))
  ·obtain ⟨x1,x2,y1,y2⟩ : -1073741824≤x∧x≤1073741824∧-1073741824≤y∧y≤1073741824:=by omega
   clear hx
   have Hb:=Lib.hid (tkBad_eq b n mb mn x y hf x1 x2 y1 y2)
   by_cases g1 : mn < n + y
   ·have Hv:=Lib.hid (tkV_of b n mb mn x y 15 (by unfold tkE;rw [Hb.out];simp [g1]) (by decide))
    go_enter Tryz.func287,Tryz.ntmps287
    go_wp2_with (go_at_call 311;refine (rfine_any _ _ _ _ _).mono ?_;rintro e w' ⟨rfl,rfl⟩)
    go_returns;exact ⟨by rw [Hv.out],by go_grown⟩
   ·by_cases g2 : mb < b + x
    ·have Hv:=Lib.hid (tkV_of b n mb mn x y 14 (by unfold tkE;rw [Hb.out];simp [g1,g2]) (by decide))
     go_enter Tryz.func287,Tryz.ntmps287
     go_wp2_with (go_at_call 311;refine (rfine_any _ _ _ _ _).mono ?_;rintro e w' ⟨rfl,rfl⟩)
     go_returns;exact ⟨by rw [Hv.out],by go_grown⟩
    ·by_cases g3 : fineB (b+x) (n+y) mb mn=true
     ·have Hv:=Lib.hid (tkV_ok b n mb mn x y (by unfold tkE;rw [Hb.out];simp [g1,g2,g3]))
      have g3':=g3
      unfold fineB at g3'
      simp only [decide_eq_true_eq] at g3'
      obtain⟨k1,k2,-⟩:=g3'
      go_enter Tryz.func287,Tryz.ntmps287
      go_wp2_with (go_at_call 311;refine (rfine_any _ _ _ _ _).mono ?_;rintro e w' ⟨rfl,rfl⟩)
      go_returns;exact ⟨by rw [Hv.out],by go_grown⟩
     ·have Hv:=Lib.hid (tkV_of b n mb mn x y 1 (by unfold tkE;rw [Hb.out];simp [g1,g2,g3]) (by decide))
      have k : n + y < 0∨b + x < 0:=by
       unfold fineB at g3
       simp only [decide_eq_true_eq] at g3
       omega
      clear g3
      by_cases k1 : n + y < 0
      ·clear k
       go_enter Tryz.func287,Tryz.ntmps287
       go_wp2_with (go_at_call 311;refine (rfine_any _ _ _ _ _).mono ?_;rintro e w' ⟨rfl,rfl⟩)
       go_returns;exact ⟨by rw [Hv.out],by go_grown⟩
      ·have k2 : b + x < 0:=by omega
       clear k
       go_enter Tryz.func287,Tryz.ntmps287
       go_wp2_with (go_at_call 311;refine (rfine_any _ _ _ _ _).mono ?_;rintro e w' ⟨rfl,rfl⟩)
       go_returns;exact ⟨by rw [Hv.out],by go_grown⟩
 ·simp only [Bool.not_eq_true] at hf
  have Hv:=Lib.hid (tkV_of b n mb mn x y 1 (by unfold tkE tkBad;simp [hf]) (by decide))
  go_enter Tryz.func287,Tryz.ntmps287
  go_wp2_with (go_at_call 311;refine (rfine_any _ _ _ _ _).mono ?_;rintro e w' ⟨rfl,rfl⟩)
  go_returns;exact ⟨by rw [Hv.out],by go_grown⟩
def limB (b n : Int) : Bool:=decide (1≤b∧b≤1073741824∧1≤n∧n≤65536)
theorem lim_mk (b n : Int) (h1 : 1≤b) (h2 : b≤1073741824) (h3 : 1≤n) (h4 : n≤65536) : limB b n=true:=by
 unfold limB;simp [h1,h2,h3,h4]
theorem lim_of {b n : Int} (h : limB b n=true) : 1≤b∧b≤1073741824∧1≤n∧n≤65536:=by
 unfold limB at h;simpa using h
set_option maxHeartbeats 400000 in
theorem limits_any (b n : Int) (w : World) :
  Calls Tryz.prog 201 #[.int .i64 b,.int .i64 n] w fun e w'=>e=.returned (.bool (limB b n))∧w=w':=by
 unfold limB
 go_enter Tryz.func201,Tryz.ntmps201
 go_wp2
 all_goals (go_ret;simp [*];try omega)
set_option maxHeartbeats 400000 in
theorem new_yes (b n : Int) (h : limB b n=true) (w : World) :
  Calls Tryz.prog 292 #[.int .i64 b,.int .i64 n] w fun e w'=>e=.returned (.tuple #[.agg #[.int .i64 0,.int .i64 0,.int .i64 b,.int .i64 n],.int .i64 0])∧Below w.heap.size w w':=by
 obtain⟨h1,h2,h3,h4⟩:=lim_of h
 clear h
 go_enter Tryz.func292,Tryz.ntmps292
 go_wp2
 go_returns;exact ⟨rfl,by go_grown⟩
set_option maxHeartbeats 400000 in
theorem new_no (b n : Int) (h : limB b n=false) (w : World) :
  Calls Tryz.prog 292 #[.int .i64 b,.int .i64 n] w fun e w'=>e=.returned (.tuple #[.agg #[.int .i64 0,.int .i64 0,.int .i64 0,.int .i64 0],.int .i64 3])∧Below w.heap.size w w':=by
 have hd : (decide (b < 1) || decide (1073741824 < b) || decide (n < 1) || decide (65536 < n))=true:=by
  unfold limB at h;simp at h ⊢;omega
 have hn : ¬ (1≤b∧b≤1073741824∧1≤n∧n≤65536):=by unfold limB at h;simpa using h
 clear h
 go_enter Tryz.func292,Tryz.ntmps292
 go_wp2
 all_goals (first | (exfalso;omega) | (go_returns;exact ⟨rfl,by go_grown⟩))
def blkI (kind size : Int) : Int:=if kind=1 then 1 else if kind=2∧0 < size then (size - 1) / 512 + 1 else 0
set_option maxHeartbeats 400000 in
theorem blocks_any (k s : Int) (hs : s≤9223372036854775807) (w : World) :
  Calls Tryz.prog 282 #[.int .i64 k,.int .i64 s] w fun e w'=>e=.returned (.int .i64 (blkI k s))∧w=w':=by
 by_cases h1 : k=1
 ·have Hv:=Lib.hid (show blkI k s=1 by unfold blkI;rw [if_pos h1])
  subst h1
  go_enter Tryz.func282,Tryz.ntmps282
  go_wp2
  go_ret;exact ⟨by rw [Hv.out];rfl,rfl⟩
 ·have e1 : (k == 1)=false:=by simpa using h1
  by_cases h2 : k=2
  ·subst h2
   by_cases h3 : 0 < s
   ·have Hv:=Lib.hid (show blkI 2 s=(s - 1) / 512 + 1 by unfold blkI;rw [if_neg h1,if_pos ⟨rfl,h3⟩])
    go_enter Tryz.func282,Tryz.ntmps282
    go_wp2
    go_ret;exact ⟨by rw [Hv.out];rfl,rfl⟩
   ·have Hv:=Lib.hid (show blkI 2 s=0 by unfold blkI;rw [if_neg h1,if_neg (by omega)])
    go_enter Tryz.func282,Tryz.ntmps282
    go_wp2
    go_ret;exact ⟨by rw [Hv.out];rfl,rfl⟩
  ·have e2 : (k == 2)=false:=by simpa using h2
   have Hv:=Lib.hid (show blkI k s=0 by unfold blkI;rw [if_neg h1,if_neg (by omega)])
   clear h1 h2
   go_enter Tryz.func282,Tryz.ntmps282
   go_wp2
   go_ret;exact ⟨by rw [Hv.out];rfl,rfl⟩
set_option maxHeartbeats 400000 in
theorem rblocks_any (k s : Int) (hs : s≤2000000) (w : World) :
  Calls Tryz.prog 288 #[.int .i64 k,.int .i64 s] w fun e w'=>e=.returned (.int .i64 (blkI k s))∧w=w':=by
 by_cases h1 : k=1
 ·have Hv:=Lib.hid (show blkI k s=1 by unfold blkI;rw [if_pos h1])
  subst h1
  go_enter Tryz.func288,Tryz.ntmps288
  go_wp2
  go_ret;exact ⟨by rw [Hv.out];rfl,rfl⟩
 ·have e1 : (k == 1)=false:=by simpa using h1
  by_cases h2 : k=2
  ·subst h2
   clear h1
   go_enter Tryz.func288,Tryz.ntmps288
   go_wp2
   go_loop [5] (fun t=>∃ n : Int,0≤n∧n≤4000∧(n=0∨512 * (n - 1) < s)∧t=.int .i64 n) (fun t=>(4000 - intOf t).toNat)
   case atStart=>exact ⟨0,by omega,by omega,.inl rfl,rfl⟩
   case round=>
    obtain⟨n,hn0,hn1,hn2,rfl⟩:=hrel
    by_cases hc : 512 * n < s
    ·go_wp2
     go_round
     case rel=>exact ⟨n + 1,by omega,by omega,.inr (by omega),rfl⟩
     case measure=>simp [intOf];omega
    ·have Hv:=Lib.hid (show blkI 2 s=n by unfold blkI;rw [if_neg (by decide)];split <;> omega)
     go_wp2
     go_ret;exact ⟨by rw [Hv.out];rfl,rfl⟩
  ·have e2 : (k == 2)=false:=by simpa using h2
   have Hv:=Lib.hid (show blkI k s=0 by unfold blkI;rw [if_neg h1,if_neg (by omega)])
   clear h1 h2
   go_enter Tryz.func288,Tryz.ntmps288
   go_wp2
   refine wp_loop_rounds 1 ?_
   rw [rounds_succ]
   go_wp2
   go_ret;exact ⟨by rw [Hv.out];rfl,rfl⟩
end Go.Proofs.YtihdbncoijhihaaGreatDoor
namespace Go.Proofs
open Go.Shelf
def Tryz.lays170_ren : Go.Shelf.Ren:=⟨fun | 170=>153 | n=>n,fun | 70=>245 | 3=>3 | 0=>0 | 72=>248 | 37=>246 | 5=>5 | n=>n,fun | n=>n⟩
theorem Tryz.lays170 : Go.Proofs.Lays.n170 Tryz.prog Tryz.lays170_ren:={
 mixed:=by kernel_rfl
 f170:=Tryz.func153.trans (congrArg some (by kernel_rfl))
 t0:=Tryz.underlying0
 a0:=Tryz.isAgg0
 z0:=Tryz.sizeOf0
 v0:=Tryz.zeroValue0
 t3:=Tryz.underlying3
 a3:=Tryz.isAgg3
 z3:=Tryz.sizeOf3
 v3:=Tryz.zeroValue3
 t37:=Tryz.underlying246
 a37:=Tryz.isAgg246
 z37:=Tryz.sizeOf246
 v37:=Tryz.zeroValue246
 t70:=Tryz.underlying245
 a70:=Tryz.isAgg245
 z70:=Tryz.sizeOf245
 v70:=Tryz.zeroValue245
 t72:=Tryz.underlying248
 a72:=Tryz.isAgg248
 z72:=Tryz.sizeOf248
 v72:=Tryz.zeroValue248 }
def Tryz.lays169_ren : Go.Shelf.Ren:=⟨fun | 169=>154 | n=>n,fun | 70=>245 | 9=>9 | 0=>0 | 72=>248 | 37=>246 | 127=>302 | 3=>3 | 5=>5 | n=>n,fun | n=>n⟩
theorem Tryz.lays169 : Go.Proofs.Lays.n169 Tryz.prog Tryz.lays169_ren:={
 mixed:=by kernel_rfl
 f169:=Tryz.func154.trans (congrArg some (by kernel_rfl))
 t0:=Tryz.underlying0
 a0:=Tryz.isAgg0
 z0:=Tryz.sizeOf0
 v0:=Tryz.zeroValue0
 t3:=Tryz.underlying3
 a3:=Tryz.isAgg3
 z3:=Tryz.sizeOf3
 v3:=Tryz.zeroValue3
 t9:=Tryz.underlying9
 a9:=Tryz.isAgg9
 z9:=Tryz.sizeOf9
 v9:=Tryz.zeroValue9
 t37:=Tryz.underlying246
 a37:=Tryz.isAgg246
 z37:=Tryz.sizeOf246
 v37:=Tryz.zeroValue246
 t70:=Tryz.underlying245
 a70:=Tryz.isAgg245
 z70:=Tryz.sizeOf245
 v70:=Tryz.zeroValue245
 t72:=Tryz.underlying248
 a72:=Tryz.isAgg248
 z72:=Tryz.sizeOf248
 v72:=Tryz.zeroValue248
 t127:=Tryz.underlying302
 a127:=Tryz.isAgg302
 z127:=Tryz.sizeOf302
 v127:=Tryz.zeroValue302 }
theorem Tryz.Builder_Extra_169 : Builder.Extra Tryz.prog Tryz.lays169_ren:={
 sizeBuilder:=by kernel_rfl
 liesBuilder:=by kernel_rfl
 t5:=Tryz.underlying5
 a5:=Tryz.isAgg5
 z5:=Tryz.sizeOf5
 v5:=Tryz.zeroValue5
 infoByte:=by kernel_rfl
 cellsByte:=by kernel_rfl
 sizeByte:=by kernel_rfl
 neB5:=by decide }
open Go.RowKit in
theorem Tryz.Builder_String_any (B b : Nat) (l : List UInt8) (w : World) (h : Lib.IsBuilder 248 5 B b (Lib.byteCells l) w) (hBw : B≤w.heap.size) :
  Calls Tryz.prog 154 #[.pointer (some ⟨b,0,none⟩)] w fun e w'=>e=.returned (.string ⟨l.toArray⟩)∧Below B w w':=Any.Builder_String_any Tryz.lays169 Tryz.Builder_Extra_169 B b l w h hBw
def Tryz.lays162_ren : Go.Shelf.Ren:=⟨fun | 162=>157 | 232=>212 | 227=>213 | 234=>214 | 236=>215 | 228=>263 | 271=>264 | 151=>265 | 120=>299 | 197=>275 | 152=>300 | 260=>304 | 137=>280 | 119=>315 | 224=>297 | 225=>296 | 217=>295 | 266=>313 | n=>n,fun | 9=>9 | 4=>4 | 3=>3 | 5=>5 | 117=>306 | 116=>305 | 0=>0 | 124=>309 | 21=>21 | 105=>353 | 46=>75 | 119=>387 | 139=>390 | 138=>389 | n=>n,fun | 3=>1 | 4=>2 | n=>n⟩
theorem Tryz.lays162 : Go.Proofs.Lays.n162 Tryz.prog Tryz.lays162_ren:={
 mixed:=by kernel_rfl
 f119:=Tryz.func315.trans (congrArg some (by kernel_rfl))
 f120:=Tryz.func299.trans (congrArg some (by kernel_rfl))
 f137:=Tryz.func280.trans (congrArg some (by kernel_rfl))
 f151:=Tryz.func265.trans (congrArg some (by kernel_rfl))
 f152:=Tryz.func300.trans (congrArg some (by kernel_rfl))
 f162:=Tryz.func157.trans (congrArg some (by kernel_rfl))
 f197:=Tryz.func275.trans (congrArg some (by kernel_rfl))
 f217:=Tryz.func295.trans (congrArg some (by kernel_rfl))
 f224:=Tryz.func297.trans (congrArg some (by kernel_rfl))
 f225:=Tryz.func296.trans (congrArg some (by kernel_rfl))
 f227:=Tryz.func213.trans (congrArg some (by kernel_rfl))
 f228:=Tryz.func263.trans (congrArg some (by kernel_rfl))
 f232:=Tryz.func212.trans (congrArg some (by kernel_rfl))
 f234:=Tryz.func214.trans (congrArg some (by kernel_rfl))
 f236:=Tryz.func215.trans (congrArg some (by kernel_rfl))
 f260:=Tryz.func304.trans (congrArg some (by kernel_rfl))
 f266:=Tryz.func313.trans (congrArg some (by kernel_rfl))
 f271:=Tryz.func264.trans (congrArg some (by kernel_rfl))
 t0:=Tryz.underlying0
 a0:=Tryz.isAgg0
 z0:=Tryz.sizeOf0
 v0:=Tryz.zeroValue0
 t3:=Tryz.underlying3
 a3:=Tryz.isAgg3
 z3:=Tryz.sizeOf3
 v3:=Tryz.zeroValue3
 t4:=Tryz.underlying4
 a4:=Tryz.isAgg4
 z4:=Tryz.sizeOf4
 v4:=Tryz.zeroValue4
 t5:=Tryz.underlying5
 a5:=Tryz.isAgg5
 z5:=Tryz.sizeOf5
 v5:=Tryz.zeroValue5
 t9:=Tryz.underlying9
 a9:=Tryz.isAgg9
 z9:=Tryz.sizeOf9
 v9:=Tryz.zeroValue9
 t21:=Tryz.underlying21
 a21:=Tryz.isAgg21
 z21:=Tryz.sizeOf21
 v21:=Tryz.zeroValue21
 t46:=Tryz.underlying75
 a46:=Tryz.isAgg75
 z46:=Tryz.sizeOf75
 v46:=Tryz.zeroValue75
 t105:=Tryz.underlying353
 a105:=Tryz.isAgg353
 z105:=Tryz.sizeOf353
 v105:=Tryz.zeroValue353
 t116:=Tryz.underlying305
 a116:=Tryz.isAgg305
 z116:=Tryz.sizeOf305
 t117:=Tryz.underlying306
 a117:=Tryz.isAgg306
 z117:=Tryz.sizeOf306
 v117:=Tryz.zeroValue306
 t119:=Tryz.underlying387
 a119:=Tryz.isAgg387
 z119:=Tryz.sizeOf387
 t124:=Tryz.underlying309
 a124:=Tryz.isAgg309
 z124:=Tryz.sizeOf309
 v124:=Tryz.zeroValue309
 t138:=Tryz.underlying389
 a138:=Tryz.isAgg389
 z138:=Tryz.sizeOf389
 v138:=Tryz.zeroValue389
 t139:=Tryz.underlying390
 a139:=Tryz.isAgg390
 z139:=Tryz.sizeOf390
 v139:=Tryz.zeroValue390
 g3:=by kernel_rfl
 g4:=by kernel_rfl }
open Go.RowKit in
theorem Tryz.strings_TrimRight_one (s : ByteArray) (c : UInt8) (hc : c.toNat < 128) (w : World) (hs : s.size≤9223372036854775807) :
  Calls Tryz.prog 157 #[.string s,.string ⟨#[c]⟩] w fun e w'=>e=.returned (.string ⟨(Lib.trimRightB s.data.toList c).toArray⟩)∧w'=w:=Any.strings_TrimRight_one Tryz.lays162 s c hc w hs
open Go.RowKit in
theorem Tryz.Builder_Len_f (B b : Nat) (bs : List Value) (w : World) (h : Lib.IsBuilderF 248 5 B b bs w) :
  Calls Tryz.prog 153 #[.pointer (some ⟨b,0,none⟩)] w fun e w'=>e=.returned (.int .i64 bs.length)∧w'=w:=Any.Builder_Len_f Tryz.lays170 B b bs w h
open Go.RowKit in
theorem Tryz.Builder_String_k (B b : Nat) (l : List UInt8) (w : World) (h : Lib.IsBuilderF 248 5 B b (Lib.byteCells l) w) (h0 : l≠[]) :
  Calls Tryz.prog 154 #[.pointer (some ⟨b,0,none⟩)] w fun e w'=>e=.returned (.string ⟨l.toArray⟩)∧(Lib.IsBuilderF 248 5 B b (Lib.byteCells l) w'∧Below B w w'∧Lib.OthersKept 5 (some b) w w'):=Any.Builder_String_k Tryz.lays169 Tryz.Builder_Extra_169 B b l w h h0
def Tryz.lays143_ren : Go.Shelf.Ren:=⟨fun | 143=>211 | 219=>262 | 217=>295 | 225=>296 | 224=>297 | 267=>298 | 266=>313 | 314=>314 | n=>n,fun | 9=>9 | 3=>3 | 4=>4 | 5=>5 | 46=>75 | 146=>384 | 51=>383 | n=>n,fun | 1=>0 | n=>n⟩
theorem Tryz.lays143 : Go.Proofs.Lays.n143 Tryz.prog Tryz.lays143_ren:={
 mixed:=by kernel_rfl
 f143:=Tryz.func211.trans (congrArg some (by kernel_rfl))
 f217:=Tryz.func295.trans (congrArg some (by kernel_rfl))
 f219:=Tryz.func262.trans (congrArg some (by kernel_rfl))
 f224:=Tryz.func297.trans (congrArg some (by kernel_rfl))
 f225:=Tryz.func296.trans (congrArg some (by kernel_rfl))
 f266:=Tryz.func313.trans (congrArg some (by kernel_rfl))
 f267:=Tryz.func298.trans (congrArg some (by kernel_rfl))
 f314:=Tryz.func314.trans (congrArg some (by kernel_rfl))
 t3:=Tryz.underlying3
 a3:=Tryz.isAgg3
 z3:=Tryz.sizeOf3
 v3:=Tryz.zeroValue3
 t4:=Tryz.underlying4
 a4:=Tryz.isAgg4
 z4:=Tryz.sizeOf4
 v4:=Tryz.zeroValue4
 t5:=Tryz.underlying5
 a5:=Tryz.isAgg5
 z5:=Tryz.sizeOf5
 v5:=Tryz.zeroValue5
 t9:=Tryz.underlying9
 a9:=Tryz.isAgg9
 z9:=Tryz.sizeOf9
 v9:=Tryz.zeroValue9
 t46:=Tryz.underlying75
 a46:=Tryz.isAgg75
 z46:=Tryz.sizeOf75
 v46:=Tryz.zeroValue75
 t51:=Tryz.underlying383
 a51:=Tryz.isAgg383
 z51:=Tryz.sizeOf383
 v51:=Tryz.zeroValue383
 t146:=Tryz.underlying384
 a146:=Tryz.isAgg384
 z146:=Tryz.sizeOf384
 v146:=Tryz.zeroValue384
 g1:=by kernel_rfl }
open Go.RowKit Go.Lib in
theorem Tryz.strings_Index_one (s : ByteArray) (c : UInt8) (w : World) :
  Calls Tryz.prog 211 #[.string s,.string ⟨#[c]⟩] w fun e w'=>e=.returned (.int .i64 (Lib.indexByte s.data.toList c))∧w'=w:=Any.strings_Index_one Tryz.lays143 s c w
def Tryz.lays144_ren : Go.Shelf.Ren:=⟨fun | 144=>156 | 143=>211 | 219=>262 | 217=>295 | 225=>296 | 224=>297 | 267=>298 | 266=>313 | 314=>314 | n=>n,fun | 9=>9 | 4=>4 | 3=>3 | 5=>5 | 46=>75 | 146=>384 | 51=>383 | n=>n,fun | 1=>0 | n=>n⟩
theorem Tryz.lays144 : Go.Proofs.Lays.n144 Tryz.prog Tryz.lays144_ren:={
 mixed:=by kernel_rfl
 f143:=Tryz.func211.trans (congrArg some (by kernel_rfl))
 f144:=Tryz.func156.trans (congrArg some (by kernel_rfl))
 f217:=Tryz.func295.trans (congrArg some (by kernel_rfl))
 f219:=Tryz.func262.trans (congrArg some (by kernel_rfl))
 f224:=Tryz.func297.trans (congrArg some (by kernel_rfl))
 f225:=Tryz.func296.trans (congrArg some (by kernel_rfl))
 f266:=Tryz.func313.trans (congrArg some (by kernel_rfl))
 f267:=Tryz.func298.trans (congrArg some (by kernel_rfl))
 f314:=Tryz.func314.trans (congrArg some (by kernel_rfl))
 t3:=Tryz.underlying3
 a3:=Tryz.isAgg3
 z3:=Tryz.sizeOf3
 v3:=Tryz.zeroValue3
 t4:=Tryz.underlying4
 a4:=Tryz.isAgg4
 z4:=Tryz.sizeOf4
 v4:=Tryz.zeroValue4
 t5:=Tryz.underlying5
 a5:=Tryz.isAgg5
 z5:=Tryz.sizeOf5
 v5:=Tryz.zeroValue5
 t9:=Tryz.underlying9
 a9:=Tryz.isAgg9
 z9:=Tryz.sizeOf9
 v9:=Tryz.zeroValue9
 t46:=Tryz.underlying75
 a46:=Tryz.isAgg75
 z46:=Tryz.sizeOf75
 v46:=Tryz.zeroValue75
 t51:=Tryz.underlying383
 a51:=Tryz.isAgg383
 z51:=Tryz.sizeOf383
 v51:=Tryz.zeroValue383
 t146:=Tryz.underlying384
 a146:=Tryz.isAgg384
 z146:=Tryz.sizeOf384
 v146:=Tryz.zeroValue384
 g1:=by kernel_rfl }
open Go.RowKit Go.Lib in
theorem Tryz.strings_Contains_one (s : ByteArray) (c : UInt8) (w : World) :
  Calls Tryz.prog 156 #[.string s,.string ⟨#[c]⟩] w fun e w'=>e=.returned (.bool (decide (0≤Lib.indexByte s.data.toList c)))∧w'=w:=Any.strings_Contains_one Tryz.lays144 s c w
def Tryz.lays149_ren : Go.Shelf.Ren:=⟨fun | 149=>216 | 222=>266 | n=>n,fun | 9=>9 | 5=>5 | 3=>3 | 4=>4 | n=>n,fun | n=>n⟩
theorem Tryz.lays149 : Go.Proofs.Lays.n149 Tryz.prog Tryz.lays149_ren:={
 mixed:=by kernel_rfl
 f149:=Tryz.func216.trans (congrArg some (by kernel_rfl))
 f222:=Tryz.func266.trans (congrArg some (by kernel_rfl))
 t3:=Tryz.underlying3
 a3:=Tryz.isAgg3
 z3:=Tryz.sizeOf3
 v3:=Tryz.zeroValue3
 t4:=Tryz.underlying4
 a4:=Tryz.isAgg4
 z4:=Tryz.sizeOf4
 v4:=Tryz.zeroValue4
 t5:=Tryz.underlying5
 a5:=Tryz.isAgg5
 z5:=Tryz.sizeOf5
 v5:=Tryz.zeroValue5
 t9:=Tryz.underlying9
 a9:=Tryz.isAgg9
 z9:=Tryz.sizeOf9
 v9:=Tryz.zeroValue9 }
open Go.RowKit Go.Lib in
theorem Tryz.strings_LastIndexByte (s : ByteArray) (c : Int) (hs : s.size < 4611686018427387904) (w : World) :
  Calls Tryz.prog 216 #[.string s,.int .u8 c] w fun e w'=>e=.returned (.int .i64 (Lib.lastIndexByte s c))∧w'=w:=Any.strings_LastIndexByte Tryz.lays149 s c hs w
def Tryz.lays166_ren : Go.Shelf.Ren:=⟨fun | 166=>152 | 240=>210 | 276=>261 | n=>n,fun | 0=>0 | 3=>3 | 4=>4 | 5=>5 | 9=>9 | 20=>20 | 37=>246 | 70=>245 | 72=>248 | 75=>250 | 80=>253 | 164=>351 | n=>n,fun n=>n⟩
set_option maxRecDepth 100000 in
theorem Tryz.lays166 : Go.Proofs.Lays.n166 Tryz.prog Tryz.lays166_ren:={
 mixed:=by kernel_rfl
 f166:=Tryz.func152.trans (congrArg some (by kernel_rfl))
 f240:=Tryz.func210.trans (congrArg some (by kernel_rfl))
 f276:=Tryz.func261.trans (congrArg some (by kernel_rfl))
 t0:=Tryz.underlying0
 a0:=Tryz.isAgg0
 z0:=Tryz.sizeOf0
 v0:=Tryz.zeroValue0
 t3:=Tryz.underlying3
 a3:=Tryz.isAgg3
 z3:=Tryz.sizeOf3
 v3:=Tryz.zeroValue3
 t4:=Tryz.underlying4
 a4:=Tryz.isAgg4
 z4:=Tryz.sizeOf4
 v4:=Tryz.zeroValue4
 t9:=Tryz.underlying9
 a9:=Tryz.isAgg9
 z9:=Tryz.sizeOf9
 v9:=Tryz.zeroValue9
 t20:=Tryz.underlying20
 a20:=Tryz.isAgg20
 z20:=Tryz.sizeOf20
 v20:=Tryz.zeroValue20
 t37:=Tryz.underlying246
 a37:=Tryz.isAgg246
 z37:=Tryz.sizeOf246
 v37:=Tryz.zeroValue246
 t70:=Tryz.underlying245
 a70:=Tryz.isAgg245
 z70:=Tryz.sizeOf245
 v70:=Tryz.zeroValue245
 t72:=Tryz.underlying248
 a72:=Tryz.isAgg248
 z72:=Tryz.sizeOf248
 v72:=Tryz.zeroValue248
 t75:=Tryz.underlying250
 a75:=Tryz.isAgg250
 z75:=Tryz.sizeOf250
 v75:=Tryz.zeroValue250
 t164:=Tryz.underlying351
 a164:=Tryz.isAgg351
 z164:=Tryz.sizeOf351
 v164:=Tryz.zeroValue351 }
theorem Tryz.Builder_Extra_166 : Builder.Extra Tryz.prog Tryz.lays166_ren:={
 sizeBuilder:=by kernel_rfl
 liesBuilder:=by kernel_rfl
 t5:=Tryz.underlying5
 a5:=Tryz.isAgg5
 z5:=Tryz.sizeOf5
 v5:=Tryz.zeroValue5
 infoByte:=by kernel_rfl
 cellsByte:=by kernel_rfl
 sizeByte:=by kernel_rfl
 neB5:=by decide }
end Go.Proofs
namespace Go.Proofs.YtihdbncoijhihaaGreatDoor
def str (l : List UInt8) : ByteArray:=⟨l.toArray⟩
theorem str_size (l : List UInt8) : (str l).size=l.length:=by simp [str,ByteArray.size]
theorem str_append (a b : List UInt8) : str a ++ str b=str (a ++ b):=ByteArray.mk_append_mk a b
theorem str_of (s : ByteArray) : str s.data.toList=s:=by
 unfold str
 cases s
 simp
def digF : Nat→Nat→Nat→List UInt8
 | 0,_,_=>[]
 | f + 1,b,n=>if n < b then [UInt8.ofNat (48 + n)] else digF f b (n / b) ++ [UInt8.ofNat (48 + n % b)]
def dig (b n : Nat) : List UInt8:=digF (n + 1) b n
theorem digF_more (b : Nat) (hb : 2≤b) : ∀ (f n : Nat),n < f→digF f b n=digF (n + 1) b n
 | 0,n,h=>by omega
 | f + 1,n,h=>by
  unfold digF
  by_cases hn : n < b
  ·rw [if_pos hn,if_pos hn]
  ·rw [if_neg hn,if_neg hn]
   have h0 : 0 < n:=by omega
   have h1 : n / b < n:=Nat.div_lt_self h0 (by omega)
   rw [digF_more b hb f (n / b) (by omega)]
   cases n with
   | zero=>omega
   | succ m=>rw [digF_more b hb (m + 1) ((m + 1) / b) h1]
theorem dig_small {b n : Nat} (h : n < b) : dig b n=[UInt8.ofNat (48 + n)]:=by
 unfold dig digF;rw [if_pos h]
theorem dig_step {b n : Nat} (hb : 2≤b) (h : b≤n) : dig b n=dig b (n / b) ++ [UInt8.ofNat (48 + n % b)]:=by
 have h1 : n / b < n:=Nat.div_lt_self (by omega) (by omega)
 unfold dig
 conv=>lhs;unfold digF
 rw [if_neg (by omega),digF_more b hb n (n / b) h1]
theorem dig_len (b : Nat) (hb : 2≤b) : ∀ (k n : Nat),n < b ^ (k + 1)→(dig b n).length≤k + 1
 | 0,n,h=>by rw [dig_small (by simpa using h)];simp
 | k + 1,n,h=>by
  by_cases hn : n < b
  ·rw [dig_small hn];simp
  ·rw [dig_step hb (by omega)]
   have : n / b < b ^ (k + 1):=by rw [Nat.div_lt_iff_lt_mul (by omega)];rwa [Nat.pow_succ] at h
   have:=dig_len b hb k (n / b) this
   simp;omega
theorem dig_pos (b n : Nat) (hb : 2≤b) : 0 < (dig b n).length:=by
 by_cases hn : n < b
 ·rw [dig_small hn];simp
 ·rw [dig_step hb (by omega)];simp
def valD (b : Nat) (l : List UInt8) : Nat:=l.foldl (fun a c=>a * b + (c.toNat - 48)) 0
def decL (n : Int) : List UInt8:=if n < 0 then 45 :: dig 10 n.natAbs else dig 10 n.toNat
theorem decL_len (n : Int) (h0 : -9223372036854775808≤n) (h1 : n≤9223372036854775807) : (decL n).length≤21∧0 < (decL n).length:=by
 unfold decL
 have e : (10 : Nat) ^ (19 + 1)=100000000000000000000:=by decide
 split
 ·have:=dig_len 10 (by decide) 19 n.natAbs (by rw [e];omega)
  simp;omega
 ·have:=dig_len 10 (by decide) 19 n.toNat (by rw [e];omega)
  have:=dig_pos 10 n.toNat (by decide)
  omega
theorem foldl_push (ns : List Int) : ∀ (s : List UInt8),ns.foldl (fun (r : ByteArray) n=>r.push (UInt8.ofNat n.toNat)) (str s)=str (s ++ ns.map fun n=>UInt8.ofNat n.toNat):=by
 induction ns with
 | nil=>intro s;simp
 | cons n ns ih=>
  intro s
  rw [List.foldl_cons]
  have : (str s).push (UInt8.ofNat n.toNat)=str (s ++ [UInt8.ofNat n.toNat]):=by
   unfold str
   show ByteArray.mk (s.toArray.push _)=_
   simp
  rw [this,ih]
  simp
theorem conv_bytes {P : Program} {src dst e : TypeId} (hs : P.underlying src=some (.slice e)) (he : P.underlying e=some (.int .u8)) (hd : P.underlying dst=some .string)
  (w : World) (B o c : Nat) (ns : List Int) (h : ∀ j,(hj : j < ns.length)→w.cell? ⟨B,o + j,none⟩=some (.int .u8 ns[j])) :
  (convert src dst (.slice (some ⟨B,o,none⟩) ns.length c)).run P w=.ok (.string (str (ns.map fun n=>UInt8.ofNat n.toNat))) w:=by
 rw [run_convert_bytes_string w src dst e _ _ _ hs he hd]
 have hl : (loadCells ⟨B,o,none⟩ ns.length).run P w=.ok (ns.map (Value.int .u8)).toArray w:=by
  have:=run_loadCells_list (P:=P) w ⟨B,o,none⟩ (ns.map (Value.int .u8)) (by
   intro j v hv
   have hj : j < ns.length:=by
    have:=(List.getElem?_eq_some_iff.1 hv).1
    simpa using this
   have ha : (⟨B,o,none⟩ : Addr).add j=⟨B,o + j,none⟩:=by
    unfold Addr.add
    split
    ·rename_i h0;subst h0;rfl
    ·rfl
   rw [ha,h j hj]
   simpa [List.getElem?_eq_getElem hj] using hv)
  rwa [List.length_map] at this
 rw [run_bytesToString w _ _ _ ns hl]
 have:=foldl_push ns []
 rw [show str []=ByteArray.empty from rfl] at this
 rw [this,List.nil_append]
theorem conv_one {P : Program} {src dst e : TypeId} (hs : P.underlying src=some (.slice e)) (he : P.underlying e=some (.int .u8)) (hd : P.underlying dst=some .string)
  (w : World) (v : Int) (E : TypeId) : (convert src dst (.slice (some ⟨w.heap.size,0,none⟩) 1 1)).run P (w.alloc (.cells #[.int .u8 v] E))=.ok (.string (str [UInt8.ofNat v.toNat])) (w.alloc (.cells #[.int .u8 v] E)):=
 conv_bytes hs he hd (w.alloc (.cells #[.int .u8 v] E)) w.heap.size 0 1 [v] (by
  intro j hj
  simp only [List.length_cons,List.length_nil,Nat.zero_add,Nat.lt_one_iff] at hj
  subst hj
  simp)
theorem ba_ext {a b : ByteArray} (h : a.toList=b.toList) : a=b:=by
 rw [ByteArray.toList_eq,ByteArray.toList_eq] at h
 cases a;cases b
 simp at h
 subst h;rfl
theorem str_bne {a b : ByteArray} (h : a≠b) : (a.toList == b.toList)=false:=by
 simp only [beq_eq_false_iff_ne]
 exact fun e=>h (ba_ext e)
end Go.Proofs.YtihdbncoijhihaaGreatDoor
namespace Go.Proofs.YtihdbncoijhihaaGreatDoor
open Go.RowKit
def plB (c : UInt8) : Bool:=(97≤c && c≤122) || (65≤c && c≤90) || (48≤c && c≤57) || c == 45 || c == 46 || c == 95 || c == 126 || c == 47
def hexV (c : UInt8) : Int:=if 48≤c∧c≤57 then c.toNat - 48 else if 97≤c∧c≤102 then c.toNat - 87 else if 65≤c∧c≤70 then c.toNat - 55 else -1
theorem u8_eq (a b : UInt8) : a=b ↔ a.toNat=b.toNat:=UInt8.toNat_inj.symm
theorem ret_bool {a b : Bool} (h : a=b) : Ending.returned (.bool a)=.returned (.bool b):=by rw [h]
theorem idx_pos (c : UInt8) : ∀ (l : List UInt8),0≤Lib.indexByte l c ↔ c ∈ l
 | []=>by simp [Lib.indexByte]
 | b :: l=>by
  have ih:=idx_pos c l
  have hg:=Lib.indexByte_ge l c
  unfold Lib.indexByte
  by_cases h : b=c
  ·subst h;simp
  ·have h1 : (b == c)=false:=by simpa using h
   have h2 : ¬ c=b:=fun e=>h e.symm
   rw [h1]
   by_cases hm : Lib.indexByte l c=-1
   ·have : ¬ c ∈ l:=by rw [← ih,hm];omega
    simp [hm,h2,this]
   ·have hm1 : (Lib.indexByte l c == -1)=false:=by simpa using hm
    rw [hm1]
    have : c ∈ l:=by rw [← ih];omega
    simp [this]
    omega
end Go.Proofs.YtihdbncoijhihaaGreatDoor
namespace Go.Proofs.YtihdbncoijhihaaGreatDoor
open Go.RowKit
def hexU (k : Nat) : UInt8:=UInt8.ofNat (if k < 10 then 48 + k else 55 + k)
def encB (c : UInt8) : List UInt8:=if plB c then [c] else [37,hexU (c.toNat / 16),hexU (c.toNat % 16)]
def encL (l : List UInt8) : List UInt8:=l.flatMap encB
def Bld (b : Nat) (l : List UInt8) (w : World) : Prop:=Lib.IsBuilder 248 5 b b (Lib.byteCells l) w
theorem Bld.lt {b : Nat} {l : List UInt8} {w : World} (h : Bld b l w) : b < w.heap.size:=by
 rcases h with h | h <;> exact h.lt
theorem Bld.new (w : World) : Bld w.heap.size [] (w.alloc (.cells #[.pointer none,.slice none 0 0] 248)):=
 .inl ⟨Nat.le_refl _,.slice none 0 0,Blk.new w _ _,World.ownsRow_nil _ _ _ _,by simp [Value.ownBlock]⟩
theorem byteCells_len (l : List UInt8) : (Lib.byteCells l).length=l.length:=by simp [Lib.byteCells]
end Go.Proofs.YtihdbncoijhihaaGreatDoor
namespace Go.Proofs.YtihdbncoijhihaaGreatDoor
open Go.RowKit
theorem ext1 (s : ByteArray) (k : Nat) (h : k < s.size) : s.extract k (k + 1)=str [s[k]]:=by
 apply ba_ext
 have h1 : (s.extract k (k + 1)).data.toList=[s[k]]:=by
  rw [ByteArray.data_extract,Array.toList_extract,List.extract_eq_take_drop]
  rw [show k + 1 - k=1 by omega,List.drop_eq_getElem_cons (by simpa using h)]
  rfl
 generalize s.extract k (k + 1)=x at h1
 obtain⟨⟨x⟩⟩:=x
 simp only at h1
 subst h1
 rfl
theorem take_step (s : ByteArray) (k : Nat) (h : k < s.size) : s.data.toList.take (k + 1)=s.data.toList.take k ++ [s[k]]:=by
 rw [List.take_succ_eq_append_getElem (by simpa using h)];rfl
theorem take_end (s : ByteArray) : s.data.toList.take s.size=s.data.toList:=List.take_of_length_le (Nat.le_of_eq (Array.length_toList))
end Go.Proofs.YtihdbncoijhihaaGreatDoor
namespace Go.Proofs.YtihdbncoijhihaaGreatDoor
open Go.RowKit Go.ChangeShapes Go.WideShapes Go.ChangeAt
section
variable {H : Type} {enc : TypeId × Value→H} {P : Program}
theorem trodAll_below (hl : laidOutB P=true) {W W' : World} (bel : Below W.heap.size W W') :
  ∀ (ts : List TypeId) (vs : List Value) (ds : List (DataW H)) (p : List MemPlace),(ts.all fun t=>P.readableRec t && decide (t < P.types.size))=true→
   DataW.TrodAll enc P W 0 (fun _=>true) true ts vs ds p→DataW.TrodAll enc P W' 0 (fun b=>decide (b < W.heap.size)) true ts vs ds p
 | [],vs,ds,p,_,h=>by
  obtain⟨rfl,rfl,rfl⟩:=trodAll_nil h
  exact trodAll_mk0
 | t :: ts,vs,ds,p,hr,h=>by
  obtain⟨v,vs',d,ds',p1,p2,rfl,rfl,rfl,h1,h2⟩:=trodAll_cons h
  simp only [List.all_cons,Bool.and_eq_true,decide_eq_true_eq] at hr
  obtain⟨⟨hr1,hr2⟩,hr3⟩:=hr
  have lt : ∀ x ∈ p1,x.block < W.heap.size:=by obtain ⟨m,hm⟩:=h1;exact DataW.trod_lt m _ _ _ hm
  exact trodAll_cons_mk (Below.trod hl hr1 hr2 h1 bel lt) (trodAll_below hl bel ts vs' ds' p2 hr3 h2)
end
section
variable {P : Program} {w : World} {r : Reach} {base : Nat} {t : TypeId}
def I64 (a : Int) : Prop:=-9223372036854775808≤a∧a≤9223372036854775807
theorem struct_ok {v : Value} {fs : Array Field} (ht : P.underlying t=some (.struct fs)) (h : Value.okWide P w r base t v) : ∃ cs,v=.agg cs∧cs.size=P.cellsOf t∧Row.okWide P w r base t cs:=by
 simpa only [Value.okWide,ht] using h
theorem i64_of_wf {a : Int} (h : (Lit.int .i64 a).wf=true) : I64 a:=by
 simp [Lit.wf,IntKind.min,IntKind.max,IntKind.signed,IntKind.bits] at h
 unfold I64;omega
end
end Go.Proofs.YtihdbncoijhihaaGreatDoor
