import Derived.Test.YtbndfmkgamdgeaaGreatDoorSO1
set_option linter.unusedVariables false
set_option linter.unusedSimpArgs false
set_option maxRecDepth 100000
set_option maxHeartbeats 16000000
namespace Go.Proofs
section
open Go.Shelf
def Tryz.lays170_ren:Go.Shelf.Ren:=⟨fun | 170=>176 | n=>n,fun | 70=>168 | 3=>3 | 0=>0 | 72=>171 | 37=>169 | 5=>5 | n=>n,fun | n=>n⟩
theorem Tryz.lays170:Go.Proofs.Lays.n170 Tryz.prog Tryz.lays170_ren:={
 mixed:=by kernel_rfl
 f170:=Tryz.func176.trans (congrArg some (by kernel_rfl))
 t0:=Tryz.underlying0
 a0:=Tryz.isAgg0
 z0:=Tryz.sizeOf0
 v0:=Tryz.zeroValue0
 t3:=Tryz.underlying3
 a3:=Tryz.isAgg3
 z3:=Tryz.sizeOf3
 v3:=Tryz.zeroValue3
 t37:=Tryz.underlying169
 a37:=Tryz.isAgg169
 z37:=Tryz.sizeOf169
 v37:=Tryz.zeroValue169
 t70:=Tryz.underlying168
 a70:=Tryz.isAgg168
 z70:=Tryz.sizeOf168
 v70:=Tryz.zeroValue168
 t72:=Tryz.underlying171
 a72:=Tryz.isAgg171
 z72:=Tryz.sizeOf171
 v72:=Tryz.zeroValue171}
def Tryz.lays169_ren:Go.Shelf.Ren:=⟨fun | 169=>86 | n=>n,fun | 70=>168 | 9=>9 | 0=>0 | 72=>171 | 37=>169 | 127=>250 | 3=>3 | 5=>5 | n=>n,fun | n=>n⟩
theorem Tryz.lays169:Go.Proofs.Lays.n169 Tryz.prog Tryz.lays169_ren:={
 mixed:=by kernel_rfl
 f169:=Tryz.func86.trans (congrArg some (by kernel_rfl))
 t0:=Tryz.underlying0
 a0:=Tryz.isAgg0
 z0:=Tryz.sizeOf0
 v0:=Tryz.zeroValue0
 t3:=Tryz.underlying3
 a3:=Tryz.isAgg3
 z3:=Tryz.sizeOf3
 v3:=Tryz.zeroValue3
 t9:=Tryz.underlying9
 a9:=Tryz.isAgg9
 z9:=Tryz.sizeOf9
 v9:=Tryz.zeroValue9
 t37:=Tryz.underlying169
 a37:=Tryz.isAgg169
 z37:=Tryz.sizeOf169
 v37:=Tryz.zeroValue169
 t70:=Tryz.underlying168
 a70:=Tryz.isAgg168
 z70:=Tryz.sizeOf168
 v70:=Tryz.zeroValue168
 t72:=Tryz.underlying171
 a72:=Tryz.isAgg171
 z72:=Tryz.sizeOf171
 v72:=Tryz.zeroValue171
 t127:=Tryz.underlying250
 a127:=Tryz.isAgg250
 z127:=Tryz.sizeOf250
 v127:=Tryz.zeroValue250}
theorem Tryz.Builder_Extra_169:Builder.Extra Tryz.prog Tryz.lays169_ren:={
 sizeBuilder:=by kernel_rfl
 liesBuilder:=by kernel_rfl
 t5:=Tryz.underlying5
 a5:=Tryz.isAgg5
 z5:=Tryz.sizeOf5
 v5:=Tryz.zeroValue5
 infoByte:=by kernel_rfl
 cellsByte:=by kernel_rfl
 sizeByte:=by kernel_rfl
 neB5:=by decide}
def Tryz.lays106_ren:Go.Shelf.Ren:=⟨fun | 106=>40 | 213=>87 | 265=>144 | n=>n,fun | 9=>9 | 3=>3 | n=>n,fun | n=>n⟩
def Tryz.lays137_ren:Go.Shelf.Ren:=⟨fun | 137=>195 | 217=>237 | 266=>254 | n=>n,fun | 9=>9 | 5=>5 | 3=>3 | n=>n,fun | n=>n⟩
open Go.RowKit in
theorem Tryz.Builder_Len_f (B b:Nat) (bs:List Value) (w:World) (h:Lib.IsBuilderF 171 5 B b bs w) :
  Calls Tryz.prog 176 #[.pointer (some ⟨b,0,none⟩)] w fun e w'=>e=.returned (.int .i64 bs.length)∧w'=w:=Any.Builder_Len_f Tryz.lays170 B b bs w h
def Tryz.lays143_ren:Go.Shelf.Ren:=⟨fun | 143=>161 | 219=>203 | 217=>237 | 225=>241 | 224=>242 | 267=>243 | 266=>254 | 314=>255 | n=>n,fun | 9=>9 | 3=>3 | 4=>4 | 5=>5 | 46=>48 | 146=>338 | 51=>337 | n=>n,fun | 1=>0 | n=>n⟩
theorem Tryz.lays143:Go.Proofs.Lays.n143 Tryz.prog Tryz.lays143_ren:={
 mixed:=by kernel_rfl
 f143:=Tryz.func161.trans (congrArg some (by kernel_rfl))
 f217:=Tryz.func237.trans (congrArg some (by kernel_rfl))
 f219:=Tryz.func203.trans (congrArg some (by kernel_rfl))
 f224:=Tryz.func242.trans (congrArg some (by kernel_rfl))
 f225:=Tryz.func241.trans (congrArg some (by kernel_rfl))
 f266:=Tryz.func254.trans (congrArg some (by kernel_rfl))
 f267:=Tryz.func243.trans (congrArg some (by kernel_rfl))
 f314:=Tryz.func255.trans (congrArg some (by kernel_rfl))
 t3:=Tryz.underlying3
 a3:=Tryz.isAgg3
 z3:=Tryz.sizeOf3
 v3:=Tryz.zeroValue3
 t4:=Tryz.underlying4
 a4:=Tryz.isAgg4
 z4:=Tryz.sizeOf4
 v4:=Tryz.zeroValue4
 t5:=Tryz.underlying5
 a5:=Tryz.isAgg5
 z5:=Tryz.sizeOf5
 v5:=Tryz.zeroValue5
 t9:=Tryz.underlying9
 a9:=Tryz.isAgg9
 z9:=Tryz.sizeOf9
 v9:=Tryz.zeroValue9
 t46:=Tryz.underlying48
 a46:=Tryz.isAgg48
 z46:=Tryz.sizeOf48
 v46:=Tryz.zeroValue48
 t51:=Tryz.underlying337
 a51:=Tryz.isAgg337
 z51:=Tryz.sizeOf337
 v51:=Tryz.zeroValue337
 t146:=Tryz.underlying338
 a146:=Tryz.isAgg338
 z146:=Tryz.sizeOf338
 v146:=Tryz.zeroValue338
 g1:=by kernel_rfl}
open Go.RowKit Go.Lib in
theorem Tryz.strings_Index_one (s:ByteArray) (c:UInt8) (w:World) :
  Calls Tryz.prog 161 #[.string s,.string ⟨#[c]⟩] w fun e w'=>e=.returned (.int .i64 (Lib.indexByte s.data.toList c))∧w'=w:=Any.strings_Index_one Tryz.lays143 s c w
def Tryz.lays144_ren:Go.Shelf.Ren:=⟨fun | 144=>108 | 143=>161 | 219=>203 | 217=>237 | 225=>241 | 224=>242 | 267=>243 | 266=>254 | 314=>255 | n=>n,fun | 9=>9 | 4=>4 | 3=>3 | 5=>5 | 46=>48 | 146=>338 | 51=>337 | n=>n,fun | 1=>0 | n=>n⟩
theorem Tryz.lays144:Go.Proofs.Lays.n144 Tryz.prog Tryz.lays144_ren:={
 mixed:=by kernel_rfl
 f143:=Tryz.func161.trans (congrArg some (by kernel_rfl))
 f144:=Tryz.func108.trans (congrArg some (by kernel_rfl))
 f217:=Tryz.func237.trans (congrArg some (by kernel_rfl))
 f219:=Tryz.func203.trans (congrArg some (by kernel_rfl))
 f224:=Tryz.func242.trans (congrArg some (by kernel_rfl))
 f225:=Tryz.func241.trans (congrArg some (by kernel_rfl))
 f266:=Tryz.func254.trans (congrArg some (by kernel_rfl))
 f267:=Tryz.func243.trans (congrArg some (by kernel_rfl))
 f314:=Tryz.func255.trans (congrArg some (by kernel_rfl))
 t3:=Tryz.underlying3
 a3:=Tryz.isAgg3
 z3:=Tryz.sizeOf3
 v3:=Tryz.zeroValue3
 t4:=Tryz.underlying4
 a4:=Tryz.isAgg4
 z4:=Tryz.sizeOf4
 v4:=Tryz.zeroValue4
 t5:=Tryz.underlying5
 a5:=Tryz.isAgg5
 z5:=Tryz.sizeOf5
 v5:=Tryz.zeroValue5
 t9:=Tryz.underlying9
 a9:=Tryz.isAgg9
 z9:=Tryz.sizeOf9
 v9:=Tryz.zeroValue9
 t46:=Tryz.underlying48
 a46:=Tryz.isAgg48
 z46:=Tryz.sizeOf48
 v46:=Tryz.zeroValue48
 t51:=Tryz.underlying337
 a51:=Tryz.isAgg337
 z51:=Tryz.sizeOf337
 v51:=Tryz.zeroValue337
 t146:=Tryz.underlying338
 a146:=Tryz.isAgg338
 z146:=Tryz.sizeOf338
 v146:=Tryz.zeroValue338
 g1:=by kernel_rfl}
open Go.RowKit Go.Lib in
theorem Tryz.strings_Contains_one (s:ByteArray) (c:UInt8) (w:World) :
  Calls Tryz.prog 108 #[.string s,.string ⟨#[c]⟩] w fun e w'=>e=.returned (.bool (decide (0≤Lib.indexByte s.data.toList c)))∧w'=w:=Any.strings_Contains_one Tryz.lays144 s c w
def Tryz.lays149_ren:Go.Shelf.Ren:=⟨fun | 149=>107 | 222=>160 | n=>n,fun | 9=>9 | 5=>5 | 3=>3 | 4=>4 | n=>n,fun | n=>n⟩
theorem Tryz.lays149:Go.Proofs.Lays.n149 Tryz.prog Tryz.lays149_ren:={
 mixed:=by kernel_rfl
 f149:=Tryz.func107.trans (congrArg some (by kernel_rfl))
 f222:=Tryz.func160.trans (congrArg some (by kernel_rfl))
 t3:=Tryz.underlying3
 a3:=Tryz.isAgg3
 z3:=Tryz.sizeOf3
 v3:=Tryz.zeroValue3
 t4:=Tryz.underlying4
 a4:=Tryz.isAgg4
 z4:=Tryz.sizeOf4
 v4:=Tryz.zeroValue4
 t5:=Tryz.underlying5
 a5:=Tryz.isAgg5
 z5:=Tryz.sizeOf5
 v5:=Tryz.zeroValue5
 t9:=Tryz.underlying9
 a9:=Tryz.isAgg9
 z9:=Tryz.sizeOf9
 v9:=Tryz.zeroValue9}
open Go.RowKit Go.Lib in
theorem Tryz.strings_LastIndexByte (s:ByteArray) (c:Int) (hs:s.size<4611686018427387904) (w:World) :
  Calls Tryz.prog 107 #[.string s,.int .u8 c] w fun e w'=>e=.returned (.int .i64 (Lib.lastIndexByte s c))∧w'=w:=Any.strings_LastIndexByte Tryz.lays149 s c hs w
def Tryz.lays166_ren:Go.Shelf.Ren:=⟨fun | 166=>83 | 240=>140 | 276=>194 | n=>n,fun | 0=>0 | 3=>3 | 4=>4 | 5=>5 | 9=>9 | 20=>20 | 37=>169 | 70=>168 | 72=>171 | 75=>174 | 80=>177 | 164=>301 | n=>n,fun n=>n⟩
theorem Tryz.lays166:Go.Proofs.Lays.n166 Tryz.prog Tryz.lays166_ren:={
 mixed:=by kernel_rfl
 f166:=Tryz.func83.trans (congrArg some (by kernel_rfl))
 f240:=Tryz.func140.trans (congrArg some (by kernel_rfl))
 f276:=Tryz.func194.trans (congrArg some (by kernel_rfl))
 t0:=Tryz.underlying0
 a0:=Tryz.isAgg0
 z0:=Tryz.sizeOf0
 v0:=Tryz.zeroValue0
 t3:=Tryz.underlying3
 a3:=Tryz.isAgg3
 z3:=Tryz.sizeOf3
 v3:=Tryz.zeroValue3
 t4:=Tryz.underlying4
 a4:=Tryz.isAgg4
 z4:=Tryz.sizeOf4
 v4:=Tryz.zeroValue4
 t9:=Tryz.underlying9
 a9:=Tryz.isAgg9
 z9:=Tryz.sizeOf9
 v9:=Tryz.zeroValue9
 t20:=Tryz.underlying20
 a20:=Tryz.isAgg20
 z20:=Tryz.sizeOf20
 v20:=Tryz.zeroValue20
 t37:=Tryz.underlying169
 a37:=Tryz.isAgg169
 z37:=Tryz.sizeOf169
 v37:=Tryz.zeroValue169
 t70:=Tryz.underlying168
 a70:=Tryz.isAgg168
 z70:=Tryz.sizeOf168
 v70:=Tryz.zeroValue168
 t72:=Tryz.underlying171
 a72:=Tryz.isAgg171
 z72:=Tryz.sizeOf171
 v72:=Tryz.zeroValue171
 t75:=Tryz.underlying174
 a75:=Tryz.isAgg174
 z75:=Tryz.sizeOf174
 v75:=Tryz.zeroValue174
 t164:=Tryz.underlying301
 a164:=Tryz.isAgg301
 z164:=Tryz.sizeOf301
 v164:=Tryz.zeroValue301}
def Tryz.lays167_ren:Go.Shelf.Ren:=⟨fun | 167=>143 | 240=>140 | 276=>194 | n=>n,fun | 0=>0 | 4=>4 | 5=>5 | 9=>9 | 20=>20 | 37=>169 | 70=>168 | 72=>171 | 75=>174 | 80=>177 | 164=>301 | n=>n,fun n=>n⟩
theorem Tryz.Builder_Extra_166:Builder.Extra Tryz.prog Tryz.lays166_ren:={
 sizeBuilder:=by kernel_rfl
 liesBuilder:=by kernel_rfl
 t5:=Tryz.underlying5
 a5:=Tryz.isAgg5
 z5:=Tryz.sizeOf5
 v5:=Tryz.zeroValue5
 infoByte:=by kernel_rfl
 cellsByte:=by kernel_rfl
 sizeByte:=by kernel_rfl
 neB5:=by decide}
def Tryz.lays160_ren:Go.Shelf.Ren:=⟨fun | 119=>263 | 120=>260 | 137=>195 | 151=>249 | 152=>259 | 160=>178 | 197=>229 | 217=>237 | 224=>242 | 225=>241 | 227=>222 | 228=>248 | 231=>220 | 232=>221 | 233=>223 | 234=>224 | 235=>225 | 236=>226 | 260=>251 | 266=>254 | 271=>250 | n=>n,fun | 0=>0 | 3=>3 | 4=>4 | 5=>5 | 9=>9 | 21=>21 | 46=>48 | 105=>325 | 116=>320 | 117=>321 | 119=>343 | 124=>324 | 138=>345 | 139=>346 | n=>n,fun | 3=>1 | 4=>2 | n=>n⟩
theorem Tryz.lays160:Go.Proofs.Lays.n160 Tryz.prog Tryz.lays160_ren:={
 mixed:=by kernel_rfl
 f119:=Tryz.func263.trans (congrArg some (by kernel_rfl))
 f120:=Tryz.func260.trans (congrArg some (by kernel_rfl))
 f137:=Tryz.func195.trans (congrArg some (by kernel_rfl))
 f151:=Tryz.func249.trans (congrArg some (by kernel_rfl))
 f152:=Tryz.func259.trans (congrArg some (by kernel_rfl))
 f160:=Tryz.func178.trans (congrArg some (by kernel_rfl))
 f197:=Tryz.func229.trans (congrArg some (by kernel_rfl))
 f217:=Tryz.func237.trans (congrArg some (by kernel_rfl))
 f224:=Tryz.func242.trans (congrArg some (by kernel_rfl))
 f225:=Tryz.func241.trans (congrArg some (by kernel_rfl))
 f227:=Tryz.func222.trans (congrArg some (by kernel_rfl))
 f228:=Tryz.func248.trans (congrArg some (by kernel_rfl))
 f231:=Tryz.func220.trans (congrArg some (by kernel_rfl))
 f232:=Tryz.func221.trans (congrArg some (by kernel_rfl))
 f233:=Tryz.func223.trans (congrArg some (by kernel_rfl))
 f234:=Tryz.func224.trans (congrArg some (by kernel_rfl))
 f235:=Tryz.func225.trans (congrArg some (by kernel_rfl))
 f236:=Tryz.func226.trans (congrArg some (by kernel_rfl))
 f260:=Tryz.func251.trans (congrArg some (by kernel_rfl))
 f266:=Tryz.func254.trans (congrArg some (by kernel_rfl))
 f271:=Tryz.func250.trans (congrArg some (by kernel_rfl))
 t0:=Tryz.underlying0
 a0:=Tryz.isAgg0
 z0:=Tryz.sizeOf0
 v0:=Tryz.zeroValue0
 t3:=Tryz.underlying3
 a3:=Tryz.isAgg3
 z3:=Tryz.sizeOf3
 v3:=Tryz.zeroValue3
 t4:=Tryz.underlying4
 a4:=Tryz.isAgg4
 z4:=Tryz.sizeOf4
 v4:=Tryz.zeroValue4
 t5:=Tryz.underlying5
 a5:=Tryz.isAgg5
 z5:=Tryz.sizeOf5
 v5:=Tryz.zeroValue5
 t9:=Tryz.underlying9
 a9:=Tryz.isAgg9
 z9:=Tryz.sizeOf9
 v9:=Tryz.zeroValue9
 t21:=Tryz.underlying21
 a21:=Tryz.isAgg21
 z21:=Tryz.sizeOf21
 v21:=Tryz.zeroValue21
 t46:=Tryz.underlying48
 a46:=Tryz.isAgg48
 z46:=Tryz.sizeOf48
 v46:=Tryz.zeroValue48
 t105:=Tryz.underlying325
 a105:=Tryz.isAgg325
 z105:=Tryz.sizeOf325
 v105:=Tryz.zeroValue325
 t116:=Tryz.underlying320
 a116:=Tryz.isAgg320
 z116:=Tryz.sizeOf320
 t117:=Tryz.underlying321
 a117:=Tryz.isAgg321
 z117:=Tryz.sizeOf321
 v117:=Tryz.zeroValue321
 t119:=Tryz.underlying343
 a119:=Tryz.isAgg343
 z119:=Tryz.sizeOf343
 t124:=Tryz.underlying324
 a124:=Tryz.isAgg324
 z124:=Tryz.sizeOf324
 v124:=Tryz.zeroValue324
 t138:=Tryz.underlying345
 a138:=Tryz.isAgg345
 z138:=Tryz.sizeOf345
 v138:=Tryz.zeroValue345
 t139:=Tryz.underlying346
 a139:=Tryz.isAgg346
 z139:=Tryz.sizeOf346
 v139:=Tryz.zeroValue346
 g3:=by kernel_rfl
 g4:=by kernel_rfl}
theorem Tryz.strings_Trim_laid (s cutset:ByteArray) (w:World) (hs:s.size≤9223372036854775807) (hcs:cutset.size<4294967281)
  (hascii:∀ (j:Nat) b,cutset.data.toList[j]? = some b→b.toNat<128) :
  Calls Tryz.prog 178 #[.string s,.string cutset] w fun e w'=>e=.returned (.string ⟨(Lib.trimS s.data.toList cutset.data.toList).toArray⟩)∧RowKit.Below w.heap.size w w':=Any.strings_Trim_laid Tryz.lays160 (by kernel_rfl) s cutset w hs hcs hascii
theorem Tryz.stringslite_Index_one (s:ByteArray) (c:UInt8) (w:World) :
  Calls Tryz.prog 203 #[.string s,.string ⟨#[c]⟩] w fun e w'=>e=.returned (.int .i64 (Lib.indexByte s.data.toList c))∧w'=w:=Any.stringslite_Index_one {Tryz.lays143 with} s c w
end
namespace YtbndfmkgamdgeaaGreatDoor
open Go.RowKit
def plB (c:UInt8):Bool:=(97≤c && c≤122) || (65≤c && c≤90) || (48≤c && c≤57) || c == 45 || c == 46 || c == 95 || c == 126 || c == 47
def hexV (c:UInt8):Int:=if 48≤c∧c≤57 then c.toNat - 48 else if 97≤c∧c≤102 then c.toNat - 87 else if 65≤c∧c≤70 then c.toNat - 55 else -1
theorem u8_le (a b:UInt8):a≤b↔a.toNat≤b.toNat:=UInt8.le_iff_toNat_le
theorem u8_lt (c:UInt8):c.toNat<256:=UInt8.toNat_lt c
theorem u8_eq (a b:UInt8):a=b↔a.toNat=b.toNat:=UInt8.toNat_inj.symm
theorem ret_bool {a b:Bool} (h:a=b):Ending.returned (.bool a)=.returned (.bool b):=by rw [h]
theorem ret_int64 {a b:Int} (h:a=b):Ending.returned (.int .i64 a)=.returned (.int .i64 b):=by rw [h]
theorem idx_pos (c:UInt8):∀ (l:List UInt8),0≤Lib.indexByte l c↔c∈l
 | []=>by simp [Lib.indexByte]
 | b :: l=>by
  have ih:=idx_pos c l;have hg:=Lib.indexByte_ge l c;unfold Lib.indexByte;by_cases h:b=c
  ·subst h;simp
  ·have h1:(b == c)=false:=by simpa using h
   have h2:¬ c=b:=fun e=>h e.symm;rw [h1];by_cases hm:Lib.indexByte l c=-1
   ·have:¬ c∈l:=by rw [←ih,hm];omega
    simp [hm,h2,this]
   ·have hm1:(Lib.indexByte l c == -1)=false:=by simpa using hm
    rw [hm1];have:c∈l:=by rw [←ih];omega
    simp [this];omega
theorem hexdigit_any (c:UInt8) (w:World) :
  Calls Tryz.prog 181 #[.int .u8 c.toNat] w fun e w'=>e=.returned (.int .i64 (hexV c))∧w=w':=by
 have hc:=u8_lt c;have hv:=Lib.hid (show hexV c=if 48≤c.toNat∧c.toNat≤57 then (c.toNat:Int) - 48 else if 97≤c.toNat∧c.toNat≤102 then (c.toNat:Int) - 87 else if 65≤c.toNat∧c.toNat≤70 then (c.toNat:Int) - 55 else -1 from by
  unfold hexV;simp only [u8_le];rfl)
 generalize c.toNat=n at hv hc ⊢;go_enter Tryz.func181,Tryz.ntmps181;go_wp2_with fail
 all_goals
  go_ret;refine ⟨ret_int64 ?_,rfl⟩;rw [hv.out]
  (repeat' split) <;> omega
end YtbndfmkgamdgeaaGreatDoor
namespace YtbndfmkgamdgeaaGreatDoor
open Go.RowKit
def fineB (b n mb mn:Int):Bool:=decide (0≤b∧0≤n∧b≤mb∧n≤mn∧mb≤1073741824∧mn≤65536)
theorem fine_any (b n mb mn:Int) (w:World) :
  Calls Tryz.prog 234 #[.agg #[.int .i64 b,.int .i64 n,.int .i64 mb,.int .i64 mn]] w fun e w'=>e=.returned (.bool (fineB b n mb mn))∧w.alloc (.cells #[.int .i64 b,.int .i64 n,.int .i64 mb,.int .i64 mn] 215)=w':=by
 unfold fineB;go_enter Tryz.func234,Tryz.ntmps234
 go_wp2
 all_goals (go_ret;simp [*];try omega)
def tkBad (b n mb mn x y:Int):Bool:=!fineB b n mb mn || decide (x < -1073741824) || decide (1073741824<x) || decide (y < -1073741824) || decide (1073741824<y)
def tkE (b n mb mn x y:Int):Int:=if tkBad b n mb mn x y then 1 else if mn<n+y then 15 else if mb<b+x then 14 else if fineB (b+x) (n+y) mb mn then 0 else 1
def tkB (b n mb mn x y:Int):Int:=if tkE b n mb mn x y=0 then b+x else b
def tkN (b n mb mn x y:Int):Int:=if tkE b n mb mn x y=0 then n+y else n
def tkV (b n mb mn x y:Int):Value:=.tuple #[.agg #[.int .i64 (tkB b n mb mn x y),.int .i64 (tkN b n mb mn x y),.int .i64 mb,.int .i64 mn],.int .i64 (tkE b n mb mn x y)]
theorem tkBad_eq (b n mb mn x y:Int) (hf:fineB b n mb mn=true) (h1:-1073741824≤x) (h2:x≤1073741824) (h3:-1073741824≤y) (h4:y≤1073741824):tkBad b n mb mn x y=false:=by
 unfold tkBad;simp [hf];omega
theorem tkV_of (b n mb mn x y e:Int) (h:tkE b n mb mn x y=e) (he:e≠0):tkV b n mb mn x y=.tuple #[.agg #[.int .i64 b,.int .i64 n,.int .i64 mb,.int .i64 mn],.int .i64 e]:=by
 unfold tkV tkB tkN;rw [h];simp [he]
theorem tkV_ok (b n mb mn x y:Int) (h:tkE b n mb mn x y=0):tkV b n mb mn x y=.tuple #[.agg #[.int .i64 (b+x),.int .i64 (n+y),.int .i64 mb,.int .i64 mn],.int .i64 0]:=by
 unfold tkV tkB tkN;rw [h];simp
theorem take_any (b n mb mn x y:Int) (w:World) :
  Calls Tryz.prog 189 #[.agg #[.int .i64 b,.int .i64 n,.int .i64 mb,.int .i64 mn],.int .i64 x,.int .i64 y] w fun e w'=>e=.returned (tkV b n mb mn x y)∧Below w.heap.size w w':=by
 by_cases hf:fineB b n mb mn=true
 ·have hf':=hf;unfold fineB at hf';simp only [decide_eq_true_eq] at hf';obtain⟨f1,f2,f3,f4,f5,f6⟩:=hf';by_cases hx:x < -1073741824∨1073741824<x∨y < -1073741824∨1073741824<y
  ·have hv:=tkV_of b n mb mn x y 1 (by unfold tkE tkBad;rw [if_pos];simp;omega) (by decide);have Hv:=Lib.hid hv;clear hv;have hd:(decide (x < -1073741824) || decide (1073741824<x) || decide (y < -1073741824) || decide (1073741824<y))=true:=by simp;omega
   go_enter Tryz.func189,Tryz.ntmps189;go_wp2_with (go_at_call 234;refine (fine_any _ _ _ _ _).mono ?_;rintro e w' ⟨rfl,rfl⟩)
   all_goals (first | (exfalso;omega) | (go_returns;exact ⟨by rw [Hv.out],by go_grown⟩))
  ·obtain ⟨x1,x2,y1,y2⟩:-1073741824≤x∧x≤1073741824∧-1073741824≤y∧y≤1073741824:=by omega
   clear hx;have Hb:=Lib.hid (tkBad_eq b n mb mn x y hf x1 x2 y1 y2);by_cases g1:mn<n+y
   ·have Hv:=Lib.hid (tkV_of b n mb mn x y 15 (by unfold tkE;rw [Hb.out];simp [g1]) (by decide));go_enter Tryz.func189,Tryz.ntmps189;go_wp2_with (go_at_call 234;refine (fine_any _ _ _ _ _).mono ?_;rintro e w' ⟨rfl,rfl⟩)
    go_returns;exact ⟨by rw [Hv.out],by go_grown⟩
   ·by_cases g2:mb<b+x
    ·have Hv:=Lib.hid (tkV_of b n mb mn x y 14 (by unfold tkE;rw [Hb.out];simp [g1,g2]) (by decide));go_enter Tryz.func189,Tryz.ntmps189;go_wp2_with (go_at_call 234;refine (fine_any _ _ _ _ _).mono ?_;rintro e w' ⟨rfl,rfl⟩)
     go_returns;exact ⟨by rw [Hv.out],by go_grown⟩
    ·by_cases g3:fineB (b+x) (n+y) mb mn=true
     ·have Hv:=Lib.hid (tkV_ok b n mb mn x y (by unfold tkE;rw [Hb.out];simp [g1,g2,g3]));go_enter Tryz.func189,Tryz.ntmps189;go_wp2_with (go_at_call 234;refine (fine_any _ _ _ _ _).mono ?_;rintro e w' ⟨rfl,rfl⟩)
      go_returns;exact ⟨by rw [Hv.out],by go_grown⟩
     ·have Hv:=Lib.hid (tkV_of b n mb mn x y 1 (by unfold tkE;rw [Hb.out];simp [g1,g2,g3]) (by decide));simp only [Bool.not_eq_true] at g3;go_enter Tryz.func189,Tryz.ntmps189;go_wp2_with (go_at_call 234;refine (fine_any _ _ _ _ _).mono ?_;rintro e w' ⟨rfl,rfl⟩)
      go_returns;exact ⟨by rw [Hv.out],by go_grown⟩
 ·simp only [Bool.not_eq_true] at hf;have Hv:=Lib.hid (tkV_of b n mb mn x y 1 (by unfold tkE tkBad;simp [hf]) (by decide));go_enter Tryz.func189,Tryz.ntmps189;go_wp2_with (go_at_call 234;refine (fine_any _ _ _ _ _).mono ?_;rintro e w' ⟨rfl,rfl⟩)
  go_returns;exact ⟨by rw [Hv.out],by go_grown⟩
end YtbndfmkgamdgeaaGreatDoor
end Go.Proofs
