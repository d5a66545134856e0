import Derived.Shelf.Strings.Builder2
import Derived.Shelf.Strings.OnBuilder
import Derived.Shelf.Strings.Builder1
import Derived.Shelf.Strings.Trim
import Derived.Shelf.Small.Utf8
import Derived.Shelf.Small.Strs
import Derived.Shelf.Small.Wraps
import Derived.Shelf.Strings.BuilderF
import Derived.Shelf.Strings.BuilderK
import Derived.Shelf.Strings.Search1
import Derived.Shelf.Strings.Search2
import Derived.Shelf.Strings.Search3
import Derived.Shelf.Strings.Count
import Derived.Shelf.LaysM
import Derived.Shelf.Strings.Shaped
import Derived.Shelf.Strings.LastIndex
import Derived.Shelf.Strings.Prefix
import Derived.Shelf.Strings.Split
import Derived.Shelf.Strings.SplitShaped
import Derived.Shelf.Unicode.Decode
import Derived.Shelf.Strings.Runes
import Derived.Shelf.Strings.AsciiSet
import Derived.Shelf.Unicode.DecodeSlow
import Derived.Shelf.Unicode.DecodeAny
import Derived.Shelf.Unicode.DecodeLast
import Derived.Shelf.Strings.BuilderCap
import Derived.Ground.PaProg
import Derived.Shelf.Path.Small
import Derived.WalkKit
import Derived.WalkSpells
import Derived.WalkLawsBesides
import Derived.Outline
import Derived.Deep.QuietTactic
import Derived.BigQuiet
import Derived.Handy
import Derived.Lib.Hide
import Derived.Deep.RegionHeld3
import Derived.StillTactics
import Derived.Deep.LoopGhost
import Derived.Test.YtihdbncoijhihaaGreatDoorProg
set_option linter.unusedVariables false
set_option linter.unusedSimpArgs false
set_option maxRecDepth 100000
set_option maxHeartbeats 16000000
namespace Go.Proofs
section
open Go.Shelf
def Tryz.lays170_ren:Go.Shelf.Ren:=⟨fun | 170=>153 | n=>n,fun | 70=>245 | 3=>3 | 0=>0 | 72=>248 | 37=>246 | 5=>5 | n=>n,fun | n=>n⟩
theorem Tryz.lays170:Go.Proofs.Lays.n170 Tryz.prog Tryz.lays170_ren:={
 mixed:=by kernel_rfl
 f170:=Tryz.func153.trans (congrArg some (by kernel_rfl))
 t0:=Tryz.underlying0
 a0:=Tryz.isAgg0
 z0:=Tryz.sizeOf0
 v0:=Tryz.zeroValue0
 t3:=Tryz.underlying3
 a3:=Tryz.isAgg3
 z3:=Tryz.sizeOf3
 v3:=Tryz.zeroValue3
 t37:=Tryz.underlying246
 a37:=Tryz.isAgg246
 z37:=Tryz.sizeOf246
 v37:=Tryz.zeroValue246
 t70:=Tryz.underlying245
 a70:=Tryz.isAgg245
 z70:=Tryz.sizeOf245
 v70:=Tryz.zeroValue245
 t72:=Tryz.underlying248
 a72:=Tryz.isAgg248
 z72:=Tryz.sizeOf248
 v72:=Tryz.zeroValue248}
def Tryz.lays169_ren:Go.Shelf.Ren:=⟨fun | 169=>154 | n=>n,fun | 70=>245 | 9=>9 | 0=>0 | 72=>248 | 37=>246 | 127=>302 | 3=>3 | 5=>5 | n=>n,fun | n=>n⟩
theorem Tryz.lays169:Go.Proofs.Lays.n169 Tryz.prog Tryz.lays169_ren:={
 mixed:=by kernel_rfl
 f169:=Tryz.func154.trans (congrArg some (by kernel_rfl))
 t0:=Tryz.underlying0
 a0:=Tryz.isAgg0
 z0:=Tryz.sizeOf0
 v0:=Tryz.zeroValue0
 t3:=Tryz.underlying3
 a3:=Tryz.isAgg3
 z3:=Tryz.sizeOf3
 v3:=Tryz.zeroValue3
 t9:=Tryz.underlying9
 a9:=Tryz.isAgg9
 z9:=Tryz.sizeOf9
 v9:=Tryz.zeroValue9
 t37:=Tryz.underlying246
 a37:=Tryz.isAgg246
 z37:=Tryz.sizeOf246
 v37:=Tryz.zeroValue246
 t70:=Tryz.underlying245
 a70:=Tryz.isAgg245
 z70:=Tryz.sizeOf245
 v70:=Tryz.zeroValue245
 t72:=Tryz.underlying248
 a72:=Tryz.isAgg248
 z72:=Tryz.sizeOf248
 v72:=Tryz.zeroValue248
 t127:=Tryz.underlying302
 a127:=Tryz.isAgg302
 z127:=Tryz.sizeOf302
 v127:=Tryz.zeroValue302}
theorem Tryz.Builder_Extra_169:Builder.Extra Tryz.prog Tryz.lays169_ren:={
 sizeBuilder:=by kernel_rfl
 liesBuilder:=by kernel_rfl
 t5:=Tryz.underlying5
 a5:=Tryz.isAgg5
 z5:=Tryz.sizeOf5
 v5:=Tryz.zeroValue5
 infoByte:=by kernel_rfl
 cellsByte:=by kernel_rfl
 sizeByte:=by kernel_rfl
 neB5:=by decide}
def Tryz.lays162_ren:Go.Shelf.Ren:=⟨fun | 162=>157 | 232=>212 | 227=>213 | 234=>214 | 236=>215 | 228=>263 | 271=>264 | 151=>265 | 120=>299 | 197=>275 | 152=>300 | 260=>304 | 137=>280 | 119=>315 | 224=>297 | 225=>296 | 217=>295 | 266=>313 | n=>n,fun | 9=>9 | 4=>4 | 3=>3 | 5=>5 | 117=>306 | 116=>305 | 0=>0 | 124=>309 | 21=>21 | 105=>353 | 46=>75 | 119=>387 | 139=>390 | 138=>389 | n=>n,fun | 3=>1 | 4=>2 | n=>n⟩
theorem Tryz.lays162:Go.Proofs.Lays.n162 Tryz.prog Tryz.lays162_ren:={
 mixed:=by kernel_rfl
 f119:=Tryz.func315.trans (congrArg some (by kernel_rfl))
 f120:=Tryz.func299.trans (congrArg some (by kernel_rfl))
 f137:=Tryz.func280.trans (congrArg some (by kernel_rfl))
 f151:=Tryz.func265.trans (congrArg some (by kernel_rfl))
 f152:=Tryz.func300.trans (congrArg some (by kernel_rfl))
 f162:=Tryz.func157.trans (congrArg some (by kernel_rfl))
 f197:=Tryz.func275.trans (congrArg some (by kernel_rfl))
 f217:=Tryz.func295.trans (congrArg some (by kernel_rfl))
 f224:=Tryz.func297.trans (congrArg some (by kernel_rfl))
 f225:=Tryz.func296.trans (congrArg some (by kernel_rfl))
 f227:=Tryz.func213.trans (congrArg some (by kernel_rfl))
 f228:=Tryz.func263.trans (congrArg some (by kernel_rfl))
 f232:=Tryz.func212.trans (congrArg some (by kernel_rfl))
 f234:=Tryz.func214.trans (congrArg some (by kernel_rfl))
 f236:=Tryz.func215.trans (congrArg some (by kernel_rfl))
 f260:=Tryz.func304.trans (congrArg some (by kernel_rfl))
 f266:=Tryz.func313.trans (congrArg some (by kernel_rfl))
 f271:=Tryz.func264.trans (congrArg some (by kernel_rfl))
 t0:=Tryz.underlying0
 a0:=Tryz.isAgg0
 z0:=Tryz.sizeOf0
 v0:=Tryz.zeroValue0
 t3:=Tryz.underlying3
 a3:=Tryz.isAgg3
 z3:=Tryz.sizeOf3
 v3:=Tryz.zeroValue3
 t4:=Tryz.underlying4
 a4:=Tryz.isAgg4
 z4:=Tryz.sizeOf4
 v4:=Tryz.zeroValue4
 t5:=Tryz.underlying5
 a5:=Tryz.isAgg5
 z5:=Tryz.sizeOf5
 v5:=Tryz.zeroValue5
 t9:=Tryz.underlying9
 a9:=Tryz.isAgg9
 z9:=Tryz.sizeOf9
 v9:=Tryz.zeroValue9
 t21:=Tryz.underlying21
 a21:=Tryz.isAgg21
 z21:=Tryz.sizeOf21
 v21:=Tryz.zeroValue21
 t46:=Tryz.underlying75
 a46:=Tryz.isAgg75
 z46:=Tryz.sizeOf75
 v46:=Tryz.zeroValue75
 t105:=Tryz.underlying353
 a105:=Tryz.isAgg353
 z105:=Tryz.sizeOf353
 v105:=Tryz.zeroValue353
 t116:=Tryz.underlying305
 a116:=Tryz.isAgg305
 z116:=Tryz.sizeOf305
 t117:=Tryz.underlying306
 a117:=Tryz.isAgg306
 z117:=Tryz.sizeOf306
 v117:=Tryz.zeroValue306
 t119:=Tryz.underlying387
 a119:=Tryz.isAgg387
 z119:=Tryz.sizeOf387
 t124:=Tryz.underlying309
 a124:=Tryz.isAgg309
 z124:=Tryz.sizeOf309
 v124:=Tryz.zeroValue309
 t138:=Tryz.underlying389
 a138:=Tryz.isAgg389
 z138:=Tryz.sizeOf389
 v138:=Tryz.zeroValue389
 t139:=Tryz.underlying390
 a139:=Tryz.isAgg390
 z139:=Tryz.sizeOf390
 v139:=Tryz.zeroValue390
 g3:=by kernel_rfl
 g4:=by kernel_rfl}
open Go.RowKit in
theorem Tryz.strings_TrimRight_one (s:ByteArray) (c:UInt8) (hc:c.toNat<128) (w:World) (hs:s.size≤9223372036854775807) :
  Calls Tryz.prog 157 #[.string s,.string ⟨#[c]⟩] w fun e w'=>e=.returned (.string ⟨(Lib.trimRightB s.data.toList c).toArray⟩)∧w'=w:=Any.strings_TrimRight_one Tryz.lays162 s c hc w hs
open Go.RowKit in
theorem Tryz.Builder_Len_f (B b:Nat) (bs:List Value) (w:World) (h:Lib.IsBuilderF 248 5 B b bs w) :
  Calls Tryz.prog 153 #[.pointer (some ⟨b,0,none⟩)] w fun e w'=>e=.returned (.int .i64 bs.length)∧w'=w:=Any.Builder_Len_f Tryz.lays170 B b bs w h
def Tryz.lays143_ren:Go.Shelf.Ren:=⟨fun | 143=>211 | 219=>262 | 217=>295 | 225=>296 | 224=>297 | 267=>298 | 266=>313 | 314=>314 | n=>n,fun | 9=>9 | 3=>3 | 4=>4 | 5=>5 | 46=>75 | 146=>384 | 51=>383 | n=>n,fun | 1=>0 | n=>n⟩
def Tryz.lays144_ren:Go.Shelf.Ren:=⟨fun | 144=>156 | 143=>211 | 219=>262 | 217=>295 | 225=>296 | 224=>297 | 267=>298 | 266=>313 | 314=>314 | n=>n,fun | 9=>9 | 4=>4 | 3=>3 | 5=>5 | 46=>75 | 146=>384 | 51=>383 | n=>n,fun | 1=>0 | n=>n⟩
theorem Tryz.lays144:Go.Proofs.Lays.n144 Tryz.prog Tryz.lays144_ren:={
 mixed:=by kernel_rfl
 f143:=Tryz.func211.trans (congrArg some (by kernel_rfl))
 f144:=Tryz.func156.trans (congrArg some (by kernel_rfl))
 f217:=Tryz.func295.trans (congrArg some (by kernel_rfl))
 f219:=Tryz.func262.trans (congrArg some (by kernel_rfl))
 f224:=Tryz.func297.trans (congrArg some (by kernel_rfl))
 f225:=Tryz.func296.trans (congrArg some (by kernel_rfl))
 f266:=Tryz.func313.trans (congrArg some (by kernel_rfl))
 f267:=Tryz.func298.trans (congrArg some (by kernel_rfl))
 f314:=Tryz.func314.trans (congrArg some (by kernel_rfl))
 t3:=Tryz.underlying3
 a3:=Tryz.isAgg3
 z3:=Tryz.sizeOf3
 v3:=Tryz.zeroValue3
 t4:=Tryz.underlying4
 a4:=Tryz.isAgg4
 z4:=Tryz.sizeOf4
 v4:=Tryz.zeroValue4
 t5:=Tryz.underlying5
 a5:=Tryz.isAgg5
 z5:=Tryz.sizeOf5
 v5:=Tryz.zeroValue5
 t9:=Tryz.underlying9
 a9:=Tryz.isAgg9
 z9:=Tryz.sizeOf9
 v9:=Tryz.zeroValue9
 t46:=Tryz.underlying75
 a46:=Tryz.isAgg75
 z46:=Tryz.sizeOf75
 v46:=Tryz.zeroValue75
 t51:=Tryz.underlying383
 a51:=Tryz.isAgg383
 z51:=Tryz.sizeOf383
 v51:=Tryz.zeroValue383
 t146:=Tryz.underlying384
 a146:=Tryz.isAgg384
 z146:=Tryz.sizeOf384
 v146:=Tryz.zeroValue384
 g1:=by kernel_rfl}
open Go.RowKit Go.Lib in
theorem Tryz.strings_Contains_one (s:ByteArray) (c:UInt8) (w:World) :
  Calls Tryz.prog 156 #[.string s,.string ⟨#[c]⟩] w fun e w'=>e=.returned (.bool (decide (0≤Lib.indexByte s.data.toList c)))∧w'=w:=Any.strings_Contains_one Tryz.lays144 s c w
def Tryz.lays149_ren:Go.Shelf.Ren:=⟨fun | 149=>216 | 222=>266 | n=>n,fun | 9=>9 | 5=>5 | 3=>3 | 4=>4 | n=>n,fun | n=>n⟩
theorem Tryz.lays149:Go.Proofs.Lays.n149 Tryz.prog Tryz.lays149_ren:={
 mixed:=by kernel_rfl
 f149:=Tryz.func216.trans (congrArg some (by kernel_rfl))
 f222:=Tryz.func266.trans (congrArg some (by kernel_rfl))
 t3:=Tryz.underlying3
 a3:=Tryz.isAgg3
 z3:=Tryz.sizeOf3
 v3:=Tryz.zeroValue3
 t4:=Tryz.underlying4
 a4:=Tryz.isAgg4
 z4:=Tryz.sizeOf4
 v4:=Tryz.zeroValue4
 t5:=Tryz.underlying5
 a5:=Tryz.isAgg5
 z5:=Tryz.sizeOf5
 v5:=Tryz.zeroValue5
 t9:=Tryz.underlying9
 a9:=Tryz.isAgg9
 z9:=Tryz.sizeOf9
 v9:=Tryz.zeroValue9}
open Go.RowKit Go.Lib in
theorem Tryz.strings_LastIndexByte (s:ByteArray) (c:Int) (hs:s.size<4611686018427387904) (w:World) :
  Calls Tryz.prog 216 #[.string s,.int .u8 c] w fun e w'=>e=.returned (.int .i64 (Lib.lastIndexByte s c))∧w'=w:=Any.strings_LastIndexByte Tryz.lays149 s c hs w
def Tryz.lays166_ren:Go.Shelf.Ren:=⟨fun | 166=>152 | 240=>210 | 276=>261 | n=>n,fun | 0=>0 | 3=>3 | 4=>4 | 5=>5 | 9=>9 | 20=>20 | 37=>246 | 70=>245 | 72=>248 | 75=>250 | 80=>253 | 164=>351 | n=>n,fun n=>n⟩
theorem Tryz.lays166:Go.Proofs.Lays.n166 Tryz.prog Tryz.lays166_ren:={
 mixed:=by kernel_rfl
 f166:=Tryz.func152.trans (congrArg some (by kernel_rfl))
 f240:=Tryz.func210.trans (congrArg some (by kernel_rfl))
 f276:=Tryz.func261.trans (congrArg some (by kernel_rfl))
 t0:=Tryz.underlying0
 a0:=Tryz.isAgg0
 z0:=Tryz.sizeOf0
 v0:=Tryz.zeroValue0
 t3:=Tryz.underlying3
 a3:=Tryz.isAgg3
 z3:=Tryz.sizeOf3
 v3:=Tryz.zeroValue3
 t4:=Tryz.underlying4
 a4:=Tryz.isAgg4
 z4:=Tryz.sizeOf4
 v4:=Tryz.zeroValue4
 t9:=Tryz.underlying9
 a9:=Tryz.isAgg9
 z9:=Tryz.sizeOf9
 v9:=Tryz.zeroValue9
 t20:=Tryz.underlying20
 a20:=Tryz.isAgg20
 z20:=Tryz.sizeOf20
 v20:=Tryz.zeroValue20
 t37:=Tryz.underlying246
 a37:=Tryz.isAgg246
 z37:=Tryz.sizeOf246
 v37:=Tryz.zeroValue246
 t70:=Tryz.underlying245
 a70:=Tryz.isAgg245
 z70:=Tryz.sizeOf245
 v70:=Tryz.zeroValue245
 t72:=Tryz.underlying248
 a72:=Tryz.isAgg248
 z72:=Tryz.sizeOf248
 v72:=Tryz.zeroValue248
 t75:=Tryz.underlying250
 a75:=Tryz.isAgg250
 z75:=Tryz.sizeOf250
 v75:=Tryz.zeroValue250
 t164:=Tryz.underlying351
 a164:=Tryz.isAgg351
 z164:=Tryz.sizeOf351
 v164:=Tryz.zeroValue351}
theorem Tryz.Builder_Extra_166:Builder.Extra Tryz.prog Tryz.lays166_ren:={
 sizeBuilder:=by kernel_rfl
 liesBuilder:=by kernel_rfl
 t5:=Tryz.underlying5
 a5:=Tryz.isAgg5
 z5:=Tryz.sizeOf5
 v5:=Tryz.zeroValue5
 infoByte:=by kernel_rfl
 cellsByte:=by kernel_rfl
 sizeByte:=by kernel_rfl
 neB5:=by decide}
def Tryz.lays103_ren:Go.Shelf.Ren:=⟨fun | 103=>272 | 210=>302 | 206=>317 | n=>n,fun | 9=>9 | 4=>4 | 24=>45 | 3=>3 | n=>n,fun | n=>n⟩
theorem Tryz.lays103:Go.Proofs.Lays.n103 Tryz.prog Tryz.lays103_ren:={
 mixed:=by kernel_rfl
 f103:=Tryz.func272.trans (congrArg some (by kernel_rfl))
 f206:=Tryz.func317.trans (congrArg some (by kernel_rfl))
 f210:=Tryz.func302.trans (congrArg some (by kernel_rfl))
 t3:=Tryz.underlying3
 a3:=Tryz.isAgg3
 z3:=Tryz.sizeOf3
 v3:=Tryz.zeroValue3
 t4:=Tryz.underlying4
 a4:=Tryz.isAgg4
 z4:=Tryz.sizeOf4
 v4:=Tryz.zeroValue4
 t9:=Tryz.underlying9
 a9:=Tryz.isAgg9
 z9:=Tryz.sizeOf9
 v9:=Tryz.zeroValue9
 t24:=Tryz.underlying45
 a24:=Tryz.isAgg45
 z24:=Tryz.sizeOf45
 v24:=Tryz.zeroValue45}
open Go.RowKit in
theorem Tryz.strings_CutPrefix (s p:ByteArray) (w:World) :
  Calls Tryz.prog 272 #[.string s,.string p] w fun e w'=>e=.returned (.tuple #[.string ⟨(Lib.trimPrefix s.data.toList p.data.toList).toArray⟩,.bool (Lib.hasPrefix s.data.toList p.data.toList)])∧w'=w:=Any.strings_CutPrefix Tryz.lays103 s p w
def Tryz.lays104_ren:Go.Shelf.Ren:=⟨fun | 104=>273 | 211=>303 | 207=>276 | n=>n,fun | 9=>9 | 4=>4 | 24=>45 | 3=>3 | n=>n,fun | n=>n⟩
theorem Tryz.lays104:Go.Proofs.Lays.n104 Tryz.prog Tryz.lays104_ren:={
 mixed:=by kernel_rfl
 f104:=Tryz.func273.trans (congrArg some (by kernel_rfl))
 f207:=Tryz.func276.trans (congrArg some (by kernel_rfl))
 f211:=Tryz.func303.trans (congrArg some (by kernel_rfl))
 t3:=Tryz.underlying3
 a3:=Tryz.isAgg3
 z3:=Tryz.sizeOf3
 v3:=Tryz.zeroValue3
 t4:=Tryz.underlying4
 a4:=Tryz.isAgg4
 z4:=Tryz.sizeOf4
 v4:=Tryz.zeroValue4
 t9:=Tryz.underlying9
 a9:=Tryz.isAgg9
 z9:=Tryz.sizeOf9
 v9:=Tryz.zeroValue9
 t24:=Tryz.underlying45
 a24:=Tryz.isAgg45
 z24:=Tryz.sizeOf45
 v24:=Tryz.zeroValue45}
open Go.RowKit in
theorem Tryz.strings_CutSuffix (s p:ByteArray) (w:World) (hs:s.size≤9223372036854775807) :
  Calls Tryz.prog 273 #[.string s,.string p] w fun e w'=>e=.returned (.tuple #[.string ⟨(Lib.trimSuffix s.data.toList p.data.toList).toArray⟩,.bool (Lib.hasSuffix s.data.toList p.data.toList)])∧w'=w:=Any.strings_CutSuffix Tryz.lays104 s p w hs
end
namespace YtihdbncoijhihaaGreatDoor
open Go.RowKit
def Blk (w:World) (B:Nat) (vs:Array Value) (T:TypeId):Prop:=w.heap[B]? = some (.cells vs T (0,0))
theorem Blk.lt {w:World} {B:Nat} {vs:Array Value} {T:TypeId} (h:Blk w B vs T):B<w.heap.size:=by
 unfold Blk at h;exact (Array.getElem?_eq_some_iff.1 h).1
theorem Blk.new (w:World) (vs:Array Value) (T:TypeId):Blk (w.alloc (.cells vs T)) w.heap.size vs T:=by
 show (w.heap.push _)[w.heap.size]? = _;simp
theorem Blk.old {w:World} {B:Nat} {vs:Array Value} {T:TypeId} (h:Blk w B vs T) (o:Obj):Blk (w.alloc o) B vs T:=
 (Below.heap_alloc w o B h.lt).trans h
theorem Blk.keep {w w':World} {B:Nat} {vs:Array Value} {T:TypeId} (h:Blk w B vs T) (hb:Below w.heap.size w w'):Blk w' B vs T:=
 (hb.block B h.lt).trans h
theorem Blk.keepB {w w':World} {B N:Nat} {vs:Array Value} {T:TypeId} (h:Blk w B vs T) (hb:Below N w w') (hN:B<N):Blk w' B vs T:=
 (hb.block B hN).trans h
theorem Blk.drew {w:World} {B:Nat} {vs:Array Value} {T:TypeId} (h:Blk w B vs T):Blk w.drew B vs T:=h
theorem Blk.cell {w:World} {B:Nat} {vs:Array Value} {T:TypeId} (h:Blk w B vs T) (i:Nat):w.cell? ⟨B,i,none⟩=vs[i]?:=by
 unfold Blk at h;simp [World.cell?,h]
theorem Blk.frozen {w:World} {B:Nat} {vs:Array Value} {T:TypeId} (h:Blk w B vs T) (i:Nat):w.frozen? ⟨B,i,none⟩=false:=by
 unfold Blk at h;simp [World.frozen?,h]
theorem Blk.facts {w:World} {B:Nat} {vs:Array Value} {T:TypeId} (h:Blk w B vs T) :
  (∀ i,w.cell? ⟨B,i,none⟩=vs[i]?)∧(∀ i,w.frozen? ⟨B,i,none⟩=false)∧B<w.heap.size:=⟨h.cell,h.frozen,h.lt⟩
theorem Blk.set {w:World} {B:Nat} {vs:Array Value} {T:TypeId} (h:Blk w B vs T) (i:Nat) (v:Value):Blk (w.setCell ⟨B,i,none⟩ v) B (vs.setIfInBounds i v) T:=by
 unfold Blk at h ⊢;simp only [World.setCell,Array.getElem?_modify,if_true,h];simp
theorem Blk.setOther {w:World} {B:Nat} {vs:Array Value} {T:TypeId} (h:Blk w B vs T) (a:Addr) (v:Value) (hne:a.block≠B):Blk (w.setCell a v) B vs T:=
 (Below.heap_setCell w a v B (fun e=>hne e.symm)).trans h
theorem bnext {w W w2:World} (h:Below w.heap.size w W) (h2:Below W.heap.size W w2):Below w.heap.size w w2:=h.trans (h2.mono h.size)
theorem balloc {w W:World} (h:Below w.heap.size w W) (o:Obj):Below w.heap.size w (W.alloc o):=h.alloc h.size o
theorem keepS_here (W:World):(∀ b o,b<W.heap.size→W.drew.cell? ⟨b,o,none⟩=W.cell? ⟨b,o,none⟩)∧Below W.heap.size W W.drew:=
 ⟨fun _ _ _=>rfl,(Below.refl _ _).drew⟩
theorem keepS_call {W p w4:World} (h:(∀ b o,b<W.heap.size→p.cell? ⟨b,o,none⟩=W.cell? ⟨b,o,none⟩)∧Below W.heap.size W p) (h2:Below p.heap.size p w4) :
  (∀ b o,b<W.heap.size→w4.cell? ⟨b,o,none⟩=W.cell? ⟨b,o,none⟩)∧Below W.heap.size W w4:=
 ⟨fun b o hb=>(h2.cell (p:=⟨b,o,none⟩) (Nat.lt_of_lt_of_le hb h.2.size)).trans (h.1 b o hb),bnext h.2 h2⟩
theorem keepS_alloc {W p:World} (h:(∀ b o,b<W.heap.size→p.cell? ⟨b,o,none⟩=W.cell? ⟨b,o,none⟩)∧Below W.heap.size W p) (o:Obj) :
  (∀ b i,b<W.heap.size→(p.alloc o).cell? ⟨b,i,none⟩=W.cell? ⟨b,i,none⟩)∧Below W.heap.size W (p.alloc o):=
 keepS_call h ((Below.refl _ _).alloc (Nat.le_refl _) _)
end YtihdbncoijhihaaGreatDoor
namespace YtihdbncoijhihaaGreatDoor
open Go.RowKit
structure Mod (S:Nat→Prop) (w w':World):Prop where
 os:w'.os=w.os
 tape:w'.tape=w.tape
 output:w'.output=w.output
 size:w.heap.size≤w'.heap.size
 block:∀ k,k<w.heap.size→¬ S k→w'.heap[k]? = w.heap[k]?
section
variable {S:Nat→Prop} {w w' w'':World}
theorem Mod.refl (S:Nat→Prop) (w:World):Mod S w w:=⟨rfl,rfl,rfl,Nat.le_refl _,fun _ _ _=>rfl⟩
theorem Mod.trans (h:Mod S w w') (k:Mod S w' w''):Mod S w w'':=
 ⟨k.os.trans h.os,k.tape.trans h.tape,k.output.trans h.output,Nat.le_trans h.size k.size,fun i hi hs=>(k.block i (Nat.lt_of_lt_of_le hi h.size) hs).trans (h.block i hi hs)⟩
theorem Mod.of_below (h:Below w.heap.size w w'):Mod S w w':=⟨h.os,h.tape,h.output,h.size,fun k hk _=>h.block k hk⟩
theorem Mod.below (h:Mod S w w') {B:Nat} (hS:∀ k,S k→B≤k) (hB:B≤w.heap.size):Below B w w':=
 ⟨h.os,h.tape,h.output,h.size,fun k hk=>h.block k (Nat.lt_of_lt_of_le hk hB) (fun hs=>by have:=hS k hs;omega)⟩
theorem Mod.mono {S':Nat→Prop} (h:Mod S w w') (hS:∀ k,S k→S' k):Mod S' w w':=⟨h.os,h.tape,h.output,h.size,fun k hk hs=>h.block k hk (fun h'=>hs (hS k h'))⟩
theorem Mod.alloc (h:Mod S w w') (o:Obj):Mod S w (w'.alloc o):=h.trans (.of_below ((Below.refl _ _).alloc (Nat.le_refl _) o))
theorem Mod.drew (h:Mod S w w'):Mod S w w'.drew:=⟨h.os,h.tape,h.output,h.size,h.block⟩
theorem Mod.setCell (h:Mod S w w') {a:Addr} (ha:S a.block∨w.heap.size≤a.block) (v:Value):Mod S w (w'.setCell a v):=
 ⟨h.os,h.tape,h.output,by simpa [World.setCell] using h.size,fun k hk hs=>by
  rw [Below.heap_setCell _ _ _ _ (by rintro rfl;rcases ha with ha | ha;exact hs ha;omega)];exact h.block k hk hs⟩
theorem Mod.setBlock (h:Mod S w w') {b:Nat} (hb:S b∨w.heap.size≤b) (o:Obj):Mod S w (ChangeMaps.setBlock w' b o):=
 ⟨h.os,h.tape,h.output,by simpa [ChangeMaps.setBlock] using h.size,fun k hk hs=>by
  have:b≠k:=by rintro rfl;rcases hb with hb | hb;exact hs hb;omega
  simp only [ChangeMaps.setBlock,Array.getElem?_setIfInBounds,if_neg this];exact h.block k hk hs⟩
theorem Blk.mod {B:Nat} {vs:Array Value} {T:TypeId} (h:Blk w B vs T) (hm:Mod S w w') (hs:¬ S B):Blk w' B vs T:=(hm.block B h.lt hs).trans h
theorem Blk.setBlock {B b:Nat} {vs:Array Value} {T:TypeId} (h:Blk w B vs T) (hb:b≠B) (o:Obj):Blk (ChangeMaps.setBlock w b o) B vs T:=by
 unfold Blk at h ⊢;simp only [ChangeMaps.setBlock,Array.getElem?_setIfInBounds,if_neg hb];exact h
end
theorem keepS_of {W p:World} (h:Below W.heap.size W p):(∀ b o,b<W.heap.size→p.cell? ⟨b,o,none⟩=W.cell? ⟨b,o,none⟩)∧Below W.heap.size W p:=
 ⟨fun b o hb=>h.cell (p:=⟨b,o,none⟩) hb,h⟩
theorem keepS_realloc {W p:World} {O X:Obj} (h:(∀ b o,b<W.heap.size→(p.alloc O).cell? ⟨b,o,none⟩=W.cell? ⟨b,o,none⟩)∧Below W.heap.size W (p.alloc O)) (hs:W.heap.size≤p.heap.size) :
  (∀ b o,b<W.heap.size→(p.alloc X).cell? ⟨b,o,none⟩=W.cell? ⟨b,o,none⟩)∧Below W.heap.size W (p.alloc X):=by
 obtain⟨-,h⟩:=h;refine keepS_of ⟨h.os,h.tape,h.output,by rw [World.size_alloc];omega,fun k hk=>?_⟩;have:=h.block k hk;rw [Below.heap_alloc _ _ _ (by omega)] at this ⊢;exact this
theorem keepS_set {W p:World} (h:(∀ b o,b<W.heap.size→p.cell? ⟨b,o,none⟩=W.cell? ⟨b,o,none⟩)∧Below W.heap.size W p) {a:Addr} (ha:W.heap.size≤a.block) (v:Value) :
  (∀ b o,b<W.heap.size→(p.setCell a v).cell? ⟨b,o,none⟩=W.cell? ⟨b,o,none⟩)∧Below W.heap.size W (p.setCell a v):=
 keepS_of (h.2.setCell ha v)
theorem keepS_set4 {W p:World} {B:Nat} {v0 v1 v2 v3:Value} (h:(∀ b o,b<W.heap.size→p.cell? ⟨b,o,none⟩=W.cell? ⟨b,o,none⟩)∧Below W.heap.size W p) (hB:W.heap.size≤B) :
  (∀ b o,b<W.heap.size→((((p.setCell ⟨B,0,none⟩ v0).setCell ⟨B,1,none⟩ v1).setCell ⟨B,2,none⟩ v2).setCell ⟨B,3,none⟩ v3).cell? ⟨b,o,none⟩=W.cell? ⟨b,o,none⟩)∧
   Below W.heap.size W ((((p.setCell ⟨B,0,none⟩ v0).setCell ⟨B,1,none⟩ v1).setCell ⟨B,2,none⟩ v2).setCell ⟨B,3,none⟩ v3):=
 keepS_set (keepS_set (keepS_set (keepS_set h hB v0) hB v1) hB v2) hB v3
theorem keepS_here2 (W:World):(∀ b o,b<W.heap.size→W.drew.drew.cell? ⟨b,o,none⟩=W.cell? ⟨b,o,none⟩)∧Below W.heap.size W W.drew.drew:=keepS_of ((Below.refl _ _).drew).drew
theorem new_drew {w w4:World} {vs:Array Value} {T:TypeId} (h:Below (w.alloc (.cells vs T)).drew.heap.size (w.alloc (.cells vs T)).drew w4):Blk w4 w.heap.size vs T:=((Blk.new w vs T).drew).keep h
theorem new_keep {w w4:World} {vs:Array Value} {T:TypeId} (h:Below (w.alloc (.cells vs T)).heap.size (w.alloc (.cells vs T)) w4):Blk w4 w.heap.size vs T:=(Blk.new w vs T).keep h
theorem keepS_allocD {W p:World} (h:(∀ b o,b<W.heap.size→p.drew.cell? ⟨b,o,none⟩=W.cell? ⟨b,o,none⟩)∧Below W.heap.size W p.drew) (o:Obj) :
  (∀ b i,b<W.heap.size→(p.alloc o).drew.cell? ⟨b,i,none⟩=W.cell? ⟨b,i,none⟩)∧Below W.heap.size W (p.alloc o).drew:=keepS_alloc (p:=p.drew) h o
theorem Blk.set4 {w:World} {B:Nat} {x0 x1 x2 x3 v0 v1 v2 v3:Value} {T:TypeId} (h:Blk w B #[x0,x1,x2,x3] T) :
  Blk ((((w.setCell ⟨B,0,none⟩ v0).setCell ⟨B,1,none⟩ v1).setCell ⟨B,2,none⟩ v2).setCell ⟨B,3,none⟩ v3) B #[v0,v1,v2,v3] T:=(((h.set 0 v0).set 1 v1).set 2 v2).set 3 v3
theorem below_set4 {N:Nat} {w0 w:World} {B:Nat} {v0 v1 v2 v3:Value} (h:Below N w0 w) (hB:N≤B) :
  Below N w0 ((((w.setCell ⟨B,0,none⟩ v0).setCell ⟨B,1,none⟩ v1).setCell ⟨B,2,none⟩ v2).setCell ⟨B,3,none⟩ v3):=(((h.setCell hB v0).setCell hB v1).setCell hB v2).setCell hB v3
end YtihdbncoijhihaaGreatDoor
namespace YtihdbncoijhihaaGreatDoor
def str (l:List UInt8):ByteArray:=⟨l.toArray⟩
theorem str_size (l:List UInt8):(str l).size=l.length:=by simp [str,ByteArray.size]
theorem str_append (a b:List UInt8):str a ++ str b=str (a ++ b):=ByteArray.mk_append_mk a b
theorem str_inj {a b:List UInt8} (h:str a=str b):a=b:=by
 unfold str at h;have h2:a.toArray=b.toArray:=by injection h
 simpa using congrArg Array.toList h2
theorem str_of (s:ByteArray):str s.data.toList=s:=by
 unfold str
 cases s
 simp
def digF:Nat→Nat→Nat→List UInt8
 | 0,_,_=>[]
 | f+1,b,n=>if n<b then [UInt8.ofNat (48+n)] else digF f b (n / b) ++ [UInt8.ofNat (48+n % b)]
def dig (b n:Nat):List UInt8:=digF (n+1) b n
theorem digF_more (b:Nat) (hb:2≤b):∀ (f n:Nat),n<f→digF f b n=digF (n+1) b n
 | 0,n,h=>by omega
 | f+1,n,h=>by
  unfold digF;by_cases hn:n<b
  ·rw [if_pos hn,if_pos hn]
  ·rw [if_neg hn,if_neg hn];have h0:0<n:=by omega
   have h1:n / b<n:=Nat.div_lt_self h0 (by omega);rw [digF_more b hb f (n / b) (by omega)]
   cases n with
   | zero=>omega
   | succ m=>rw [digF_more b hb (m+1) ((m+1) / b) h1]
theorem dig_small {b n:Nat} (h:n<b):dig b n=[UInt8.ofNat (48+n)]:=by
 unfold dig digF;rw [if_pos h]
theorem dig_step {b n:Nat} (hb:2≤b) (h:b≤n):dig b n=dig b (n / b) ++ [UInt8.ofNat (48+n % b)]:=by
 have h1:n / b<n:=Nat.div_lt_self (by omega) (by omega);unfold dig
 conv=>lhs;unfold digF
 rw [if_neg (by omega),digF_more b hb n (n / b) h1]
theorem dig_len (b:Nat) (hb:2≤b):∀ (k n:Nat),n<b ^ (k+1)→(dig b n).length≤k+1
 | 0,n,h=>by rw [dig_small (by simpa using h)];simp
 | k+1,n,h=>by
  by_cases hn:n<b
  ·rw [dig_small hn];simp
  ·rw [dig_step hb (by omega)];have:n / b<b ^ (k+1):=by rw [Nat.div_lt_iff_lt_mul (by omega)];rwa [Nat.pow_succ] at h
   have:=dig_len b hb k (n / b) this;simp;omega
theorem dig_pos (b n:Nat) (hb:2≤b):0<(dig b n).length:=by
 by_cases hn:n<b
 ·rw [dig_small hn];simp
 ·rw [dig_step hb (by omega)];simp
theorem dig_bytes (b:Nat) (hb:2≤b) (hb':b≤10) (n:Nat):∀ c∈dig b n,48≤c.toNat∧c.toNat≤57:=by
 induction n using Nat.strongRecOn with
 | _ n ih=>
  by_cases hn:n<b
  ·rw [dig_small hn];simp only [List.mem_cons,List.not_mem_nil,or_false];rintro c rfl;simp [UInt8.toNat_ofNat];omega
  ·rw [dig_step hb (by omega)];intro c hc;rcases List.mem_append.1 hc with hc | hc
   ·exact ih (n / b) (Nat.div_lt_self (by omega) (by omega)) c hc
   ·simp only [List.mem_cons,List.not_mem_nil,or_false] at hc;subst hc;have:n % b<b:=Nat.mod_lt _ (by omega);simp [UInt8.toNat_ofNat];omega
def valD (b:Nat) (l:List UInt8):Nat:=l.foldl (fun a c=>a*b+(c.toNat - 48)) 0
theorem valD_snoc (b:Nat) (l:List UInt8) (c:UInt8):valD b (l ++ [c])=valD b l*b+(c.toNat - 48):=by
 unfold valD;rw [List.foldl_append];rfl
theorem valD_dig (b:Nat) (hb:2≤b) (hb':b≤10) (n:Nat):valD b (dig b n)=n:=by
 induction n using Nat.strongRecOn with
 | _ n ih=>
  by_cases hn:n<b
  ·rw [dig_small hn];simp [valD,UInt8.toNat_ofNat];omega
  ·rw [dig_step hb (by omega),valD_snoc,ih (n / b) (Nat.div_lt_self (by omega) (by omega))];have h1:n % b<b:=Nat.mod_lt _ (by omega);have h2:=Nat.div_add_mod n b;have h3:(UInt8.ofNat (48+n % b)).toNat - 48=n % b:=by simp [UInt8.toNat_ofNat];omega
   rw [h3,Nat.mul_comm];exact h2
theorem dig_inj (b:Nat) (hb:2≤b) (hb':b≤10) {n m:Nat} (h:dig b n=dig b m):n=m:=by
 rw [←valD_dig b hb hb' n,h,valD_dig b hb hb' m]
def decL (n:Int):List UInt8:=if n<0 then 45 :: dig 10 n.natAbs else dig 10 n.toNat
theorem foldl_push (ns:List Int):∀ (s:List UInt8),ns.foldl (fun (r:ByteArray) n=>r.push (UInt8.ofNat n.toNat)) (str s)=str (s ++ ns.map fun n=>UInt8.ofNat n.toNat):=by
 induction ns with
 | nil=>intro s;simp
 | cons n ns ih=>
  intro s;rw [List.foldl_cons];have:(str s).push (UInt8.ofNat n.toNat)=str (s ++ [UInt8.ofNat n.toNat]):=by
   unfold str;show ByteArray.mk (s.toArray.push _)=_;simp
  rw [this,ih];simp
theorem conv_bytes {P:Program} {src dst e:TypeId} (hs:P.underlying src=some (.slice e)) (he:P.underlying e=some (.int .u8)) (hd:P.underlying dst=some .string)
  (w:World) (B o c:Nat) (ns:List Int) (h:∀ j,(hj:j<ns.length)→w.cell? ⟨B,o+j,none⟩=some (.int .u8 ns[j])) :
  (convert src dst (.slice (some ⟨B,o,none⟩) ns.length c)).run P w=.ok (.string (str (ns.map fun n=>UInt8.ofNat n.toNat))) w:=by
 rw [run_convert_bytes_string w src dst e _ _ _ hs he hd];have hl:(loadCells ⟨B,o,none⟩ ns.length).run P w=.ok (ns.map (Value.int .u8)).toArray w:=by
  have:=run_loadCells_list (P:=P) w ⟨B,o,none⟩ (ns.map (Value.int .u8)) (by
   intro j v hv;have hj:j<ns.length:=by
    have:=(List.getElem?_eq_some_iff.1 hv).1;simpa using this
   have ha:(⟨B,o,none⟩:Addr).add j=⟨B,o+j,none⟩:=by
    unfold Addr.add
    split
    ·rename_i h0;subst h0;rfl
    ·rfl
   rw [ha,h j hj];simpa [List.getElem?_eq_getElem hj] using hv)
  rwa [List.length_map] at this
 rw [run_bytesToString w _ _ _ ns hl];have:=foldl_push ns [];rw [show str []=ByteArray.empty from rfl] at this;rw [this,List.nil_append]
theorem conv_one {P:Program} {src dst e:TypeId} (hs:P.underlying src=some (.slice e)) (he:P.underlying e=some (.int .u8)) (hd:P.underlying dst=some .string)
  (w:World) (v:Int) (E:TypeId):(convert src dst (.slice (some ⟨w.heap.size,0,none⟩) 1 1)).run P (w.alloc (.cells #[.int .u8 v] E))=.ok (.string (str [UInt8.ofNat v.toNat])) (w.alloc (.cells #[.int .u8 v] E)):=
 conv_bytes hs he hd (w.alloc (.cells #[.int .u8 v] E)) w.heap.size 0 1 [v] (by
  intro j hj;simp only [List.length_cons,List.length_nil,Nat.zero_add,Nat.lt_one_iff] at hj;subst hj;simp)
theorem ba_ext {a b:ByteArray} (h:a.toList=b.toList):a=b:=by
 rw [ByteArray.toList_eq,ByteArray.toList_eq] at h
 cases a;cases b
 simp at h;subst h;rfl
theorem str_bne {a b:ByteArray} (h:a≠b):(a.toList == b.toList)=false:=by
 simp only [beq_eq_false_iff_ne];exact fun e=>h (ba_ext e)
end YtihdbncoijhihaaGreatDoor
namespace YtihdbncoijhihaaGreatDoor
open Go.RowKit
theorem toNat_div {m b:Int} (hm:0≤m) (hb:0≤b):(m / b).toNat=m.toNat / b.toNat:=by
 obtain⟨m,rfl⟩:=Int.eq_ofNat_of_zero_le hm;obtain⟨b,rfl⟩:=Int.eq_ofNat_of_zero_le hb;rfl
theorem toNat_mod {m b:Int} (hm:0≤m) (hb:0≤b):(m % b).toNat=m.toNat % b.toNat:=by
 obtain⟨m,rfl⟩:=Int.eq_ofNat_of_zero_le hm;obtain⟨b,rfl⟩:=Int.eq_ofNat_of_zero_le hb;rfl
theorem u8_mod {b m:Int} (hb0:2≤b) (hb1:b≤10):0≤m % b∧m % b≤9:=by
 have:=Int.emod_nonneg m (show b≠0 by omega);have:=Int.emod_lt_of_pos m (show 0<b by omega);omega
theorem base_any (n b:Int) (w:World) (hn0:0≤n) (hn1:n≤18446744073709551615) (hb0:2≤b) (hb1:b≤10) :
  Calls Tryz.prog 169 #[.int .u64 n,.int .u64 b] w fun e w'=>e=.returned (.string (str (dig b.toNat n.toNat)))∧Below w.heap.size w w':=by
 have kc:=fun (w:World) (v:Int)=>conv_one (P:=Tryz.prog) Tryz.underlying246 Tryz.underlying5 Tryz.underlying9 w v 5;go_enter Tryz.func169,Tryz.ntmps169;go_wp2_with fail
 go_loopg [0,5] n.toNat (fun g t0 t5 wr=>∃ (m:Int) (s:List UInt8) (k:Nat),0≤m∧m≤n∧g=m.toNat∧t0=.int .u64 m∧t5=.string (str s)∧s.length+k=64∧m<2 ^ k∧dig b.toNat n.toNat=dig b.toNat m.toNat ++ s∧Below w.heap.size w wr)
 case atStart=>exact ⟨n,[],64,hn0,Int.le_refl _,rfl,rfl,rfl,rfl,by omega,by simp,Below.refl _ _⟩
 case round=>
  obtain⟨m,s,k,hm0,hm1,hg,rfl,rfl,hs,hk,hd,hB⟩:=hrel;have Hg:=Lib.hid hg;have Hd:=Lib.hid hd;have Hs:=Lib.hid hs;have Hk:=Lib.hid hk;have hsz:(str s).size≤64:=by rw [str_size];omega
  clear hg hd hs hk;by_cases hlt:b≤m
  ·obtain ⟨r0,r1⟩:=u8_mod (m:=m) hb0 hb1;have d0:0≤m / b:=Int.ediv_nonneg hm0 (by omega);have d1:m / b≤m:=Int.ediv_le_self _ hm0;have hne:(b == 0)=false:=by simp;omega
   have hsz1:(str [UInt8.ofNat (48+m % b).toNat]).size≤1:=by rw [str_size];simp
   have hlo:m / b<m:=Int.ediv_lt_self_of_pos_of_ne_one (by omega) (by omega);go_wp2_with fail;go_roundg (m / b).toNat
   case measure=>rw [Hg.out];omega
   case rel=>
    have hk:=Hk.out;have hs:=Hs.out;obtain⟨k',rfl⟩:∃ k',k=k'+1:=by
     cases k with
     | zero=>simp at hk;omega
     | succ k'=>exact ⟨k',rfl⟩
    refine ⟨m / b,UInt8.ofNat (48+m % b).toNat :: s,k',d0,by omega,rfl,rfl,?_,by simp;omega,?_,?_,balloc hB _⟩
    ·rw [str_append];rfl
    ·have h2:m / b≤m / 2:=by
      have h3:=Int.ediv_mul_le m (show b≠0 by omega);have h4:m / b*2≤m / b*b:=Int.mul_le_mul_of_nonneg_left hb0 d0;omega
     have h5:(2:Int) ^ (k'+1)=2 ^ k'*2:=Int.pow_succ ..;omega
    ·rw [Hd.out,dig_step (b:=b.toNat) (n:=m.toNat) (by omega) (by omega),toNat_div hm0 (by omega),List.append_assoc];congr 2;rw [←toNat_mod hm0 (by omega)];show _=UInt8.ofNat (48+m % b).toNat :: s;rw [show (48+m % b).toNat=48+(m % b).toNat by omega];rfl
  ·have hsz2:(str [UInt8.ofNat (48+m).toNat]).size≤1:=by rw [str_size];simp
   go_wp2_with fail;go_ret;refine ⟨?_,balloc hB _⟩;show Ending.returned (.string (str [UInt8.ofNat (48+m).toNat] ++ str s))=_;rw [Hd.out,str_append,dig_small (by omega),show (48+m).toNat=48+m.toNat by omega]
theorem rdec_any (n:Int) (w:World) (h0:-9223372036854775808≤n) (h1:n≤9223372036854775807) :
  Calls Tryz.prog 104 #[.int .i64 n] w fun e w'=>e=.returned (.string (str (decL n)))∧Below w.heap.size w w':=by
 by_cases hn:n<0
 ·have Hv:=Lib.hid (show decL n=45 :: dig 10 n.natAbs by unfold decL;rw [if_pos hn]);have hsz:=dig_len 10 (by decide) 19 n.natAbs (by
                            have e:(10:Nat) ^ (19+1)=100000000000000000000:=by decide
                            rw [e];omega)
  have hsz':(str (dig 10 n.natAbs)).size≤20:=by rw [str_size];exact hsz
  clear hsz;go_enter Tryz.func104,Tryz.ntmps104;have Hw:=Lib.hid (show IntKind.u64.wrap (-IntKind.u64.wrap n)=-n by rw [IntKind.wrap_u64,IntKind.wrap_u64];omega);go_wp2_with fail;rw [Hw.out];refine (base_any (-n) 10 _ (by omega) (by omega) (by decide) (by decide)).mono ?_;rw [show dig (10:Int).toNat (-n).toNat=dig 10 n.natAbs by rw [show (-n).toNat=n.natAbs by omega];rfl];rintro e w1 ⟨rfl,hb1⟩;go_wp2_with fail;go_ret;refine ⟨?_,hb1⟩;rw [Hv.out];show Ending.returned (.string (str [45] ++ str _))=_;rw [str_append];rfl
 ·have Hv:=Lib.hid (show decL n=dig 10 n.toNat by unfold decL;rw [if_neg hn]);go_enter Tryz.func104,Tryz.ntmps104;go_wp2_with fail;refine (base_any n 10 _ (by omega) (by omega) (by decide) (by decide)).mono ?_;rintro e w1 ⟨rfl,hb1⟩;go_wp2_with fail;go_ret;exact⟨by rw [Hv.out];rfl,hb1⟩
end YtihdbncoijhihaaGreatDoor
end Go.Proofs
