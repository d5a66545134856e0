import Derived.Shelf.Strings.Builder2
import Derived.Shelf.Strings.OnBuilder
import Derived.Shelf.Strings.Builder1
import Derived.Shelf.Strings.Trim
import Derived.Shelf.Small.Utf8
import Derived.Shelf.Small.Strs
import Derived.Shelf.Small.Wraps
import Derived.Shelf.Strings.BuilderF
import Derived.Shelf.Strings.BuilderK
import Derived.Shelf.Strings.Search1
import Derived.Shelf.Strings.Search2
import Derived.Shelf.Strings.Search3
import Derived.Shelf.Strings.Count
import Derived.Shelf.LaysM
import Derived.Shelf.Strings.Shaped
import Derived.Shelf.Strings.LastIndex
import Derived.Shelf.Strings.Prefix
import Derived.Shelf.Strings.Split
import Derived.Shelf.Strings.SplitShaped
import Derived.Shelf.Unicode.Decode
import Derived.Shelf.Strings.Runes
import Derived.Shelf.Strings.AsciiSet
import Derived.Shelf.Unicode.DecodeSlow
import Derived.Shelf.Unicode.DecodeAny
import Derived.Shelf.Unicode.DecodeLast
import Derived.Shelf.Strings.BuilderCap
import Derived.Ground.PaProg
import Derived.Shelf.Path.Small
import Derived.Laws.BitsAllLaws
import Derived.StillTailTactics
import Derived.Lib.LastIndexByte
import Derived.Test.YtihdbncoijhihaaGreatProg
import Derived.Test.YtihdbncoijhihaaGreatCL1
import Derived.Test.YtihdbncoijhihaaGreatCL2
set_option linter.unusedVariables false
set_option linter.unusedSimpArgs false
set_option maxRecDepth 100000
set_option maxHeartbeats 16000000
namespace Go.Proofs
section
open Go.Shelf
def Tryz.lays170_ren:Go.Shelf.Ren:=⟨fun | 170=>184 | n=>n,fun | 70=>176 | 3=>3 | 0=>0 | 72=>179 | 37=>177 | 5=>5 | n=>n,fun | n=>n⟩
theorem Tryz.lays170:Go.Proofs.Lays.n170 Tryz.prog Tryz.lays170_ren:={
 mixed:=by kernel_rfl
 f170:=Tryz.func184.trans (congrArg some (by kernel_rfl))
 t0:=Tryz.underlying0
 a0:=Tryz.isAgg0
 z0:=Tryz.sizeOf0
 v0:=Tryz.zeroValue0
 t3:=Tryz.underlying3
 a3:=Tryz.isAgg3
 z3:=Tryz.sizeOf3
 v3:=Tryz.zeroValue3
 t37:=Tryz.underlying177
 a37:=Tryz.isAgg177
 z37:=Tryz.sizeOf177
 v37:=Tryz.zeroValue177
 t70:=Tryz.underlying176
 a70:=Tryz.isAgg176
 z70:=Tryz.sizeOf176
 v70:=Tryz.zeroValue176
 t72:=Tryz.underlying179
 a72:=Tryz.isAgg179
 z72:=Tryz.sizeOf179
 v72:=Tryz.zeroValue179}
def Tryz.lays169_ren:Go.Shelf.Ren:=⟨fun | 169=>89 | n=>n,fun | 70=>176 | 9=>9 | 0=>0 | 72=>179 | 37=>177 | 127=>251 | 3=>3 | 5=>5 | n=>n,fun | n=>n⟩
theorem Tryz.lays169:Go.Proofs.Lays.n169 Tryz.prog Tryz.lays169_ren:={
 mixed:=by kernel_rfl
 f169:=Tryz.func89.trans (congrArg some (by kernel_rfl))
 t0:=Tryz.underlying0
 a0:=Tryz.isAgg0
 z0:=Tryz.sizeOf0
 v0:=Tryz.zeroValue0
 t3:=Tryz.underlying3
 a3:=Tryz.isAgg3
 z3:=Tryz.sizeOf3
 v3:=Tryz.zeroValue3
 t9:=Tryz.underlying9
 a9:=Tryz.isAgg9
 z9:=Tryz.sizeOf9
 v9:=Tryz.zeroValue9
 t37:=Tryz.underlying177
 a37:=Tryz.isAgg177
 z37:=Tryz.sizeOf177
 v37:=Tryz.zeroValue177
 t70:=Tryz.underlying176
 a70:=Tryz.isAgg176
 z70:=Tryz.sizeOf176
 v70:=Tryz.zeroValue176
 t72:=Tryz.underlying179
 a72:=Tryz.isAgg179
 z72:=Tryz.sizeOf179
 v72:=Tryz.zeroValue179
 t127:=Tryz.underlying251
 a127:=Tryz.isAgg251
 z127:=Tryz.sizeOf251
 v127:=Tryz.zeroValue251}
theorem Tryz.Builder_Extra_169:Builder.Extra Tryz.prog Tryz.lays169_ren:={
 sizeBuilder:=by kernel_rfl
 liesBuilder:=by kernel_rfl
 t5:=Tryz.underlying5
 a5:=Tryz.isAgg5
 z5:=Tryz.sizeOf5
 v5:=Tryz.zeroValue5
 infoByte:=by kernel_rfl
 cellsByte:=by kernel_rfl
 sizeByte:=by kernel_rfl
 neB5:=by decide}
open Go.RowKit in
open Go.RowKit in
theorem Tryz.Builder_Len_f (B b:Nat) (bs:List Value) (w:World) (h:Lib.IsBuilderF 179 5 B b bs w) :
  Calls Tryz.prog 184 #[.pointer (some ⟨b,0,none⟩)] w fun e w'=>e=.returned (.int .i64 bs.length)∧w'=w:=Any.Builder_Len_f Tryz.lays170 B b bs w h
def Tryz.lays143_ren:Go.Shelf.Ren:=⟨fun | 143=>260 | 219=>280 | 217=>261 | 225=>286 | 224=>287 | 267=>288 | 266=>281 | 314=>290 | n=>n,fun | 9=>9 | 3=>3 | 4=>4 | 5=>5 | 46=>42 | 146=>360 | 51=>359 | n=>n,fun | 1=>0 | n=>n⟩
def Tryz.lays144_ren:Go.Shelf.Ren:=⟨fun | 144=>211 | 143=>260 | 219=>280 | 217=>261 | 225=>286 | 224=>287 | 267=>288 | 266=>281 | 314=>290 | n=>n,fun | 9=>9 | 4=>4 | 3=>3 | 5=>5 | 46=>42 | 146=>360 | 51=>359 | n=>n,fun | 1=>0 | n=>n⟩
theorem Tryz.lays144:Go.Proofs.Lays.n144 Tryz.prog Tryz.lays144_ren:={
 mixed:=by kernel_rfl
 f143:=Tryz.func260.trans (congrArg some (by kernel_rfl))
 f144:=Tryz.func211.trans (congrArg some (by kernel_rfl))
 f217:=Tryz.func261.trans (congrArg some (by kernel_rfl))
 f219:=Tryz.func280.trans (congrArg some (by kernel_rfl))
 f224:=Tryz.func287.trans (congrArg some (by kernel_rfl))
 f225:=Tryz.func286.trans (congrArg some (by kernel_rfl))
 f266:=Tryz.func281.trans (congrArg some (by kernel_rfl))
 f267:=Tryz.func288.trans (congrArg some (by kernel_rfl))
 f314:=Tryz.func290.trans (congrArg some (by kernel_rfl))
 t3:=Tryz.underlying3
 a3:=Tryz.isAgg3
 z3:=Tryz.sizeOf3
 v3:=Tryz.zeroValue3
 t4:=Tryz.underlying4
 a4:=Tryz.isAgg4
 z4:=Tryz.sizeOf4
 v4:=Tryz.zeroValue4
 t5:=Tryz.underlying5
 a5:=Tryz.isAgg5
 z5:=Tryz.sizeOf5
 v5:=Tryz.zeroValue5
 t9:=Tryz.underlying9
 a9:=Tryz.isAgg9
 z9:=Tryz.sizeOf9
 v9:=Tryz.zeroValue9
 t46:=Tryz.underlying42
 a46:=Tryz.isAgg42
 z46:=Tryz.sizeOf42
 v46:=Tryz.zeroValue42
 t51:=Tryz.underlying359
 a51:=Tryz.isAgg359
 z51:=Tryz.sizeOf359
 v51:=Tryz.zeroValue359
 t146:=Tryz.underlying360
 a146:=Tryz.isAgg360
 z146:=Tryz.sizeOf360
 v146:=Tryz.zeroValue360
 g1:=by kernel_rfl}
open Go.RowKit Go.Lib in
theorem Tryz.strings_Contains_one (s:ByteArray) (c:UInt8) (w:World) :
  Calls Tryz.prog 211 #[.string s,.string ⟨#[c]⟩] w fun e w'=>e=.returned (.bool (decide (0≤Lib.indexByte s.data.toList c)))∧w'=w:=Any.strings_Contains_one Tryz.lays144 s c w
def Tryz.lays149_ren:Go.Shelf.Ren:=⟨fun | 149=>269 | 222=>283 | n=>n,fun | 9=>9 | 5=>5 | 3=>3 | 4=>4 | n=>n,fun | n=>n⟩
theorem Tryz.lays149:Go.Proofs.Lays.n149 Tryz.prog Tryz.lays149_ren:={
 mixed:=by kernel_rfl
 f149:=Tryz.func269.trans (congrArg some (by kernel_rfl))
 f222:=Tryz.func283.trans (congrArg some (by kernel_rfl))
 t3:=Tryz.underlying3
 a3:=Tryz.isAgg3
 z3:=Tryz.sizeOf3
 v3:=Tryz.zeroValue3
 t4:=Tryz.underlying4
 a4:=Tryz.isAgg4
 z4:=Tryz.sizeOf4
 v4:=Tryz.zeroValue4
 t5:=Tryz.underlying5
 a5:=Tryz.isAgg5
 z5:=Tryz.sizeOf5
 v5:=Tryz.zeroValue5
 t9:=Tryz.underlying9
 a9:=Tryz.isAgg9
 z9:=Tryz.sizeOf9
 v9:=Tryz.zeroValue9}
open Go.RowKit Go.Lib in
theorem Tryz.strings_LastIndexByte (s:ByteArray) (c:Int) (hs:s.size<4611686018427387904) (w:World) :
  Calls Tryz.prog 269 #[.string s,.int .u8 c] w fun e w'=>e=.returned (.int .i64 (Lib.lastIndexByte s c))∧w'=w:=Any.strings_LastIndexByte Tryz.lays149 s c hs w
def Tryz.lays166_ren:Go.Shelf.Ren:=⟨fun | 166=>86 | 240=>145 | 276=>212 | n=>n,fun | 0=>0 | 3=>3 | 4=>4 | 5=>5 | 9=>9 | 20=>20 | 37=>177 | 70=>176 | 72=>179 | 75=>182 | 80=>185 | 164=>307 | n=>n,fun n=>n⟩
theorem Tryz.lays166:Go.Proofs.Lays.n166 Tryz.prog Tryz.lays166_ren:={
 mixed:=by kernel_rfl
 f166:=Tryz.func86.trans (congrArg some (by kernel_rfl))
 f240:=Tryz.func145.trans (congrArg some (by kernel_rfl))
 f276:=Tryz.func212.trans (congrArg some (by kernel_rfl))
 t0:=Tryz.underlying0
 a0:=Tryz.isAgg0
 z0:=Tryz.sizeOf0
 v0:=Tryz.zeroValue0
 t3:=Tryz.underlying3
 a3:=Tryz.isAgg3
 z3:=Tryz.sizeOf3
 v3:=Tryz.zeroValue3
 t4:=Tryz.underlying4
 a4:=Tryz.isAgg4
 z4:=Tryz.sizeOf4
 v4:=Tryz.zeroValue4
 t9:=Tryz.underlying9
 a9:=Tryz.isAgg9
 z9:=Tryz.sizeOf9
 v9:=Tryz.zeroValue9
 t20:=Tryz.underlying20
 a20:=Tryz.isAgg20
 z20:=Tryz.sizeOf20
 v20:=Tryz.zeroValue20
 t37:=Tryz.underlying177
 a37:=Tryz.isAgg177
 z37:=Tryz.sizeOf177
 v37:=Tryz.zeroValue177
 t70:=Tryz.underlying176
 a70:=Tryz.isAgg176
 z70:=Tryz.sizeOf176
 v70:=Tryz.zeroValue176
 t72:=Tryz.underlying179
 a72:=Tryz.isAgg179
 z72:=Tryz.sizeOf179
 v72:=Tryz.zeroValue179
 t75:=Tryz.underlying182
 a75:=Tryz.isAgg182
 z75:=Tryz.sizeOf182
 v75:=Tryz.zeroValue182
 t164:=Tryz.underlying307
 a164:=Tryz.isAgg307
 z164:=Tryz.sizeOf307
 v164:=Tryz.zeroValue307}
theorem Tryz.Builder_Extra_166:Builder.Extra Tryz.prog Tryz.lays166_ren:={
 sizeBuilder:=by kernel_rfl
 liesBuilder:=by kernel_rfl
 t5:=Tryz.underlying5
 a5:=Tryz.isAgg5
 z5:=Tryz.sizeOf5
 v5:=Tryz.zeroValue5
 infoByte:=by kernel_rfl
 cellsByte:=by kernel_rfl
 sizeByte:=by kernel_rfl
 neB5:=by decide}
end
namespace YtihdbncoijhihaaGreat
def str (l:List UInt8):ByteArray:=⟨l.toArray⟩
theorem str_size (l:List UInt8):(str l).size=l.length:=by simp [str,ByteArray.size]
theorem str_append (a b:List UInt8):str a ++ str b=str (a ++ b):=ByteArray.mk_append_mk a b
theorem str_of (s:ByteArray):str s.data.toList=s:=by
 unfold str
 cases s
 simp
def digF:Nat→Nat→Nat→List UInt8
 | 0,_,_=>[]
 | f+1,b,n=>if n<b then [UInt8.ofNat (48+n)] else digF f b (n / b) ++ [UInt8.ofNat (48+n % b)]
def dig (b n:Nat):List UInt8:=digF (n+1) b n
theorem digF_more (b:Nat) (hb:2≤b):∀ (f n:Nat),n<f→digF f b n=digF (n+1) b n
 | 0,n,h=>by omega
 | f+1,n,h=>by
  unfold digF;by_cases hn:n<b
  ·rw [if_pos hn,if_pos hn]
  ·rw [if_neg hn,if_neg hn];have h0:0<n:=by omega
   have h1:n / b<n:=Nat.div_lt_self h0 (by omega);rw [digF_more b hb f (n / b) (by omega)]
   cases n with
   | zero=>omega
   | succ m=>rw [digF_more b hb (m+1) ((m+1) / b) h1]
theorem dig_small {b n:Nat} (h:n<b):dig b n=[UInt8.ofNat (48+n)]:=by
 unfold dig digF;rw [if_pos h]
theorem dig_step {b n:Nat} (hb:2≤b) (h:b≤n):dig b n=dig b (n / b) ++ [UInt8.ofNat (48+n % b)]:=by
 have h1:n / b<n:=Nat.div_lt_self (by omega) (by omega);unfold dig
 conv=>lhs;unfold digF
 rw [if_neg (by omega),digF_more b hb n (n / b) h1]
theorem dig_len (b:Nat) (hb:2≤b):∀ (k n:Nat),n<b ^ (k+1)→(dig b n).length≤k+1
 | 0,n,h=>by rw [dig_small (by simpa using h)];simp
 | k+1,n,h=>by
  by_cases hn:n<b
  ·rw [dig_small hn];simp
  ·rw [dig_step hb (by omega)];have:n / b<b ^ (k+1):=by rw [Nat.div_lt_iff_lt_mul (by omega)];rwa [Nat.pow_succ] at h
   have:=dig_len b hb k (n / b) this;simp;omega
theorem dig_pos (b n:Nat) (hb:2≤b):0<(dig b n).length:=by
 by_cases hn:n<b
 ·rw [dig_small hn];simp
 ·rw [dig_step hb (by omega)];simp
def valD (b:Nat) (l:List UInt8):Nat:=l.foldl (fun a c=>a*b+(c.toNat - 48)) 0
def decL (n:Int):List UInt8:=if n<0 then 45 :: dig 10 n.natAbs else dig 10 n.toNat
theorem decL_len (n:Int) (h0:-9223372036854775808≤n) (h1:n≤9223372036854775807):(decL n).length≤21∧0<(decL n).length:=by
 unfold decL;have e:(10:Nat) ^ (19+1)=100000000000000000000:=by decide
 split
 ·have:=dig_len 10 (by decide) 19 n.natAbs (by rw [e];omega);simp;omega
 ·have:=dig_len 10 (by decide) 19 n.toNat (by rw [e];omega);have:=dig_pos 10 n.toNat (by decide);omega
theorem foldl_push (ns:List Int):∀ (s:List UInt8),ns.foldl (fun (r:ByteArray) n=>r.push (UInt8.ofNat n.toNat)) (str s)=str (s ++ ns.map fun n=>UInt8.ofNat n.toNat):=by
 induction ns with
 | nil=>intro s;simp
 | cons n ns ih=>
  intro s;rw [List.foldl_cons];have:(str s).push (UInt8.ofNat n.toNat)=str (s ++ [UInt8.ofNat n.toNat]):=by
   unfold str;show ByteArray.mk (s.toArray.push _)=_;simp
  rw [this,ih];simp
theorem conv_bytes {P:Program} {src dst e:TypeId} (hs:P.underlying src=some (.slice e)) (he:P.underlying e=some (.int .u8)) (hd:P.underlying dst=some .string)
  (w:World) (B o c:Nat) (ns:List Int) (h:∀ j,(hj:j<ns.length)→w.cell? ⟨B,o+j,none⟩=some (.int .u8 ns[j])) :
  (convert src dst (.slice (some ⟨B,o,none⟩) ns.length c)).run P w=.ok (.string (str (ns.map fun n=>UInt8.ofNat n.toNat))) w:=by
 rw [run_convert_bytes_string w src dst e _ _ _ hs he hd];have hl:(loadCells ⟨B,o,none⟩ ns.length).run P w=.ok (ns.map (Value.int .u8)).toArray w:=by
  have:=run_loadCells_list (P:=P) w ⟨B,o,none⟩ (ns.map (Value.int .u8)) (by
   intro j v hv;have hj:j<ns.length:=by
    have:=(List.getElem?_eq_some_iff.1 hv).1;simpa using this
   have ha:(⟨B,o,none⟩:Addr).add j=⟨B,o+j,none⟩:=by
    unfold Addr.add
    split
    ·rename_i h0;subst h0;rfl
    ·rfl
   rw [ha,h j hj];simpa [List.getElem?_eq_getElem hj] using hv)
  rwa [List.length_map] at this
 rw [run_bytesToString w _ _ _ ns hl];have:=foldl_push ns [];rw [show str []=ByteArray.empty from rfl] at this;rw [this,List.nil_append]
theorem conv_one {P:Program} {src dst e:TypeId} (hs:P.underlying src=some (.slice e)) (he:P.underlying e=some (.int .u8)) (hd:P.underlying dst=some .string)
  (w:World) (v:Int) (E:TypeId):(convert src dst (.slice (some ⟨w.heap.size,0,none⟩) 1 1)).run P (w.alloc (.cells #[.int .u8 v] E))=.ok (.string (str [UInt8.ofNat v.toNat])) (w.alloc (.cells #[.int .u8 v] E)):=
 conv_bytes hs he hd (w.alloc (.cells #[.int .u8 v] E)) w.heap.size 0 1 [v] (by
  intro j hj;simp only [List.length_cons,List.length_nil,Nat.zero_add,Nat.lt_one_iff] at hj;subst hj;simp)
theorem ba_ext {a b:ByteArray} (h:a.toList=b.toList):a=b:=by
 rw [ByteArray.toList_eq,ByteArray.toList_eq] at h
 cases a;cases b
 simp at h;subst h;rfl
theorem str_beq {a b:ByteArray} (h:a=b):(a.toList == b.toList)=true:=by subst h;simp
end YtihdbncoijhihaaGreat
namespace YtihdbncoijhihaaGreat
open Go.RowKit
def plB (c:UInt8):Bool:=(97≤c && c≤122) || (65≤c && c≤90) || (48≤c && c≤57) || c == 45 || c == 46 || c == 95 || c == 126 || c == 47
def hexV (c:UInt8):Int:=if 48≤c∧c≤57 then c.toNat - 48 else if 97≤c∧c≤102 then c.toNat - 87 else if 65≤c∧c≤70 then c.toNat - 55 else -1
theorem u8_eq (a b:UInt8):a=b↔a.toNat=b.toNat:=UInt8.toNat_inj.symm
theorem ret_bool {a b:Bool} (h:a=b):Ending.returned (.bool a)=.returned (.bool b):=by rw [h]
theorem idx_pos (c:UInt8):∀ (l:List UInt8),0≤Lib.indexByte l c↔c∈l
 | []=>by simp [Lib.indexByte]
 | b :: l=>by
  have ih:=idx_pos c l;have hg:=Lib.indexByte_ge l c;unfold Lib.indexByte;by_cases h:b=c
  ·subst h;simp
  ·have h1:(b == c)=false:=by simpa using h
   have h2:¬ c=b:=fun e=>h e.symm;rw [h1];by_cases hm:Lib.indexByte l c=-1
   ·have:¬ c∈l:=by rw [←ih,hm];omega
    simp [hm,h2,this]
   ·have hm1:(Lib.indexByte l c == -1)=false:=by simpa using hm
    rw [hm1];have:c∈l:=by rw [←ih];omega
    simp [this];omega
end YtihdbncoijhihaaGreat
namespace YtihdbncoijhihaaGreat
open Go.RowKit
def hexU (k:Nat):UInt8:=UInt8.ofNat (if k<10 then 48+k else 55+k)
def encB (c:UInt8):List UInt8:=if plB c then [c] else [37,hexU (c.toNat / 16),hexU (c.toNat % 16)]
def encL (l:List UInt8):List UInt8:=l.flatMap encB
def Bld (b:Nat) (l:List UInt8) (w:World):Prop:=Lib.IsBuilder 179 5 b b (Lib.byteCells l) w
theorem Bld.new (w:World):Bld w.heap.size [] (w.alloc (.cells #[.pointer none,.slice none 0 0] 179)):=
 .inl ⟨Nat.le_refl _,.slice none 0 0,Blk.new w _ _,World.ownsRow_nil _ _ _ _,by simp [Value.ownBlock]⟩
theorem byteCells_len (l:List UInt8):(Lib.byteCells l).length=l.length:=by simp [Lib.byteCells]
end YtihdbncoijhihaaGreat
namespace YtihdbncoijhihaaGreat
open Go.RowKit
theorem ext1 (s:ByteArray) (k:Nat) (h:k<s.size):s.extract k (k+1)=str [s[k]]:=by
 apply ba_ext;have h1:(s.extract k (k+1)).data.toList=[s[k]]:=by
  rw [ByteArray.data_extract,Array.toList_extract,List.extract_eq_take_drop];rw [show k+1 - k=1 by omega,List.drop_eq_getElem_cons (by simpa using h)];rfl
 generalize s.extract k (k+1)=x at h1;obtain⟨⟨x⟩⟩:=x;simp only at h1;subst h1;rfl
theorem take_step (s:ByteArray) (k:Nat) (h:k<s.size):s.data.toList.take (k+1)=s.data.toList.take k ++ [s[k]]:=by
 rw [List.take_succ_eq_append_getElem (by simpa using h)];rfl
theorem take_end (s:ByteArray):s.data.toList.take s.size=s.data.toList:=List.take_of_length_le (Nat.le_of_eq (Array.length_toList))
end YtihdbncoijhihaaGreat
namespace YtihdbncoijhihaaGreat
open Go.RowKit
theorem snoc_ind {α:Type} {P:List α→Prop} (h0:P []) (h1:∀ l x,P l→P (l ++ [x])) (l:List α):P l:=by
 have key:∀ r:List α,P r.reverse:=by
  intro r
  induction r with
  | nil=>exact h0
  | cons x r ih=>rw [List.reverse_cons];exact h1 _ _ ih
 have:=key l.reverse
 rwa [List.reverse_reverse] at this
def splStep (c:UInt8) (acc:List (List UInt8)) (x:UInt8):List (List UInt8):=if x=c then acc ++ [[]] else acc.set (acc.length - 1) (acc.getD (acc.length - 1) [] ++ [x])
def spl (c:UInt8) (l:List UInt8):List (List UInt8):=l.foldl (splStep c) [[]]
theorem spl_snoc (c:UInt8) (l:List UInt8) (x:UInt8):spl c (l ++ [x])=splStep c (spl c l) x:=by simp [spl]
theorem spl_len (c:UInt8) (l:List UInt8):0<(spl c l).length∧(spl c l).length≤l.length+1:=by
 refine snoc_ind (P:=fun l=>0<(spl c l).length∧(spl c l).length≤l.length+1) (by simp [spl]) (fun l x ih=>?_) l;rw [spl_snoc,List.length_append];unfold splStep
 split
 ·simp;omega
 ·simp;omega
theorem spl_size (c:UInt8) (l:List UInt8):∀ p∈spl c l,p.length≤l.length:=by
 refine snoc_ind (P:=fun l=>∀ p∈spl c l,p.length≤l.length) (by simp [spl]) (fun l x ih=>?_) l
 ·intro p hp;rw [spl_snoc] at hp;unfold splStep at hp;rw [List.length_append,List.length_singleton]
  split at hp
  ·rcases List.mem_append.1 hp with h | h
   ·have:=ih p h;omega
   ·simp at h;subst h;simp
  ·rcases List.mem_or_eq_of_mem_set hp with h | rfl
   ·have:=ih p h;omega
   ·rw [List.length_append,List.length_singleton];have hl:=(spl_len c l).1;rw [List.getD_eq_getElem?_getD,List.getElem?_eq_getElem (by omega)];have:=ih _ (List.getElem_mem (l:=spl c l) (n:=(spl c l).length - 1) (by omega));simp only [Option.getD_some];omega
def encS (l:List UInt8):List Value:=[.string (str l)]
theorem encS_len (l:List UInt8):(encS l).length=1:=rfl
def OS (w:World) (base:Nat) (v:Value) (ls:List (List UInt8)):Prop:=w.ownsRow base 9 1 v ls.length (ls.flatMap encS)
theorem str_info:(Tryz.prog.info? 9).map (fun i=>(i.zero,i.size,i.bytes))=some (some (.string ByteArray.empty),1,16):=by kernel_rfl
theorem OS.one (w:World) (base:Nat) (l:List UInt8) (hb:base≤w.heap.size):OS (w.alloc (.cells #[.string (str l)] 9)) base (.slice (some ⟨w.heap.size,0,none⟩) 1 1) [l]:=
 ⟨rfl,.inr ⟨w.heap.size,1,_,rfl,hb,Blk.new w _ _,Nat.le_refl _,by unfold maxLen;omega,rfl,rfl⟩⟩
theorem OS.app {w:World} {base:Nat} {v:Value} {ls:List (List UInt8)} (h:OS w base v ls) (l:List UInt8) (hl:ls.length≤1000000) (hb:base≤w.heap.size) :
  ∃ g cap W,(Builtin.append_ #[61,61] 61 #[v,.slice (some ⟨w.heap.size,0,none⟩) 1 1]).run Tryz.prog (w.alloc (.cells #[.string (str l)] 9))=.ok (.slice (some ⟨g,0,none⟩) (ls.length+1) cap) W∧
   OS W base (.slice (some ⟨g,0,none⟩) (ls.length+1) cap) (ls ++ [l])∧Below base w W:=by
 obtain⟨i0,hi,hz0,hz1,hz2⟩:=info_parts str_info;have ho:=World.ownsRow.alloc h (.cells #[.string (str l)] 9);obtain⟨g,cap,W,h1,h2,h3,h4⟩:=step_app 61 Tryz.underlying61 hi hz0 hz1 hz2 rfl (by omega) ho ⟨w.heap.size,0,none⟩ 1 1 [.string (str l)] rfl (World.news_of_block (Blk.new w #[.string (str l)] 9)) (by intro u hu;simp at hu;subst hu;rfl) (by omega) (by unfold maxLen;omega) (by omega) (by simp;omega);refine ⟨g,cap,W,h1,?_,?_⟩
 ·unfold OS;rw [List.length_append,List.length_singleton,List.flatMap_append];exact h2
 ·refine (((Below.refl base w).alloc hb _)).trans (h3.below (fun k hk=>(h.lt k hk).1) (by simp;omega))
theorem OS.put {w:World} {base g cap:Nat} {ls:List (List UInt8)} (h:OS w base (.slice (some ⟨g,0,none⟩) ls.length cap) ls) (k:Nat) (hk:k<ls.length) (l:List UInt8) :
  OS (w.setCell ⟨g,k,none⟩ (.string (str l))) base (.slice (some ⟨g,0,none⟩) ls.length cap) (ls.set k l):=by
 have:=own_put (enc:=encS) (by omega) encS_len h k hk l;rw [Nat.mul_one] at this;unfold OS;rw [List.length_set];exact this
theorem OS.cell {w:World} {base g cap:Nat} {ls:List (List UInt8)} (h:OS w base (.slice (some ⟨g,0,none⟩) ls.length cap) ls) (k:Nat) (hk:k<ls.length):w.cell? ⟨g,k,none⟩=some (.string (str ls[k])):=by
 obtain⟨-,-,-,h0 | ⟨b,off,he,hb,hel⟩⟩:=own_slice (R:=fun cs x=>cs=encS x) (by omega) encS_len (fun _=>rfl) h
 ·omega
 ·injection he with he;injection he with e1 e2;subst e1 e2;obtain⟨cs,h1,h2,h3⟩:=hel k hk;subst h2;have:=h3 0 (by simp [encS]);simpa [encS] using this
theorem own_frozen {w:World} {base g cap n sz:Nat} {e:TypeId} {xs:List Value} (h:w.ownsRow base e sz (.slice (some ⟨g,0,none⟩) n cap) n xs):(∀ i,w.frozen? ⟨g,i,none⟩=false)∧base≤g∧g<w.heap.size:=by
 rcases h.2 with ⟨hv,-⟩|⟨g',cap',cur,hv,hb,hg,-⟩
 ·cases hv
 ·injection hv with hv;injection hv with hv;injection hv with hv;subst hv;exact⟨Blk.frozen (w:=w) (vs:=cur) hg,hb,(Array.getElem?_eq_some_iff.1 hg).1⟩
theorem wp_still_tail {P:Program} {id:Nat} {Q:Exit→Act→World→Prop} {a:Act} {w:World} {L:List Oper} (n:Nat) (hm:P.follows .mixedOrders=true) (hB:Region.lexTailB .any L.toArray n=true)
  (h:wpStill P L.toArray w.drew (fun a'=>wpList P L.toArray Q (L.drop n) a' w.drew) (L.take n) a):(Code.region id L.toArray true).wp P Q a w:=wp_region_still_tail n hm hB h
theorem pieces_any (s:ByteArray) (w:World) (hs:s.size≤100000) :
  Calls Tryz.prog 272 #[.string s] w fun e w'=>(∃ g cap,e=.returned (.slice (some ⟨g,0,none⟩) (spl 47 s.data.toList).length cap)∧OS w' w.heap.size (.slice (some ⟨g,0,none⟩) (spl 47 s.data.toList).length cap) (spl 47 s.data.toList))∧Below w.heap.size w w':=by
 go_enter Tryz.func272,Tryz.ntmps272;go_wp2_with fail
 go_loopw [3,4] (fun t3 t4 wr=>∃ (k g cap:Nat) (ls:List (List UInt8)),k≤s.size∧t4=.int .i64 k∧t3=.slice (some ⟨g,0,none⟩) ls.length cap∧OS wr w.heap.size (.slice (some ⟨g,0,none⟩) ls.length cap) ls∧ls=spl 47 (s.data.toList.take k)∧Below w.heap.size w wr) (fun _ t4 _=>s.size - (intOf t4).toNat)
 case atStart=>exact ⟨0,w.heap.size,1,[[]],Nat.zero_le _,rfl,rfl,OS.one w _ [] (Nat.le_refl _),by simp [spl],balloc (Below.refl _ _) _⟩
 case round=>
  obtain⟨k,g,cap,ls,hk,rfl,rfl,hO,hls,hW⟩:=hrel;have hll:0<ls.length∧ls.length≤100001:=by
   have h1:=spl_len 47 (s.data.toList.take k);have h2:(s.data.toList.take k).length≤k:=List.length_take_le _ _;rw [hls];omega
  have HO:=Lib.hid hO;have HLs:=Lib.hid hls;have HW:=Lib.hid hW;obtain⟨hl0,hl1⟩:=hll;by_cases hlt:k<s.size
  ·have Hst:=Lib.hid (take_step s k hlt);by_cases hc:s[k]=47
   ·have hc1:((s[k].toNat:Int) == 47)=true:=by rw [hc];rfl
    have HC:=Lib.hid hc;obtain⟨g2,cap2,W,hrun,hO2,hB2⟩:=hO.app [] (by omega) hW.size;have HR:=Lib.hid hrun;have HX:=Lib.hid (And.intro hO2 hB2);clear hc hO hls hW hrun hO2 hB2;go_wp2_with (at_builtin;refine wpList_app_run rfl rfl rfl rfl HR.out ?_);go_roundw
    case measure=>simp [intOf];omega
    case rel=>exact ⟨k+1,g2,cap2,ls ++ [[]],by omega,by go_num,by simp,by simpa using HX.out.1,by rw [Hst.out,spl_snoc,splStep,if_pos HC.out,←HLs.out],HW.out.trans HX.out.2⟩
   ·have hc1:((s[k].toNat:Int) == 47)=false:=by
     simp only [beq_eq_false_iff_ne,ne_eq];intro h;exact hc (by rw [u8_eq];show s[k].toNat=47;omega)
    have HC:=Lib.hid hc;have hcl:=hO.cell (ls.length - 1) (by omega);obtain⟨hfz,-,-⟩:=own_frozen hO;have hts:(str ls[ls.length - 1]).size≤100000:=by
     rw [str_size];have h1:=spl_size 47 (s.data.toList.take k) ls[ls.length - 1] (by rw [←hls];exact List.getElem_mem _);have h2:(s.data.toList.take k).length≤k:=List.length_take_le _ _;omega
    have HX:=Lib.hid (fun (t:ByteArray) (ht:t=str (ls[ls.length - 1] ++ [s[k]]))=>(show OS (wr.drew.setCell ⟨g,ls.length - 1,none⟩ (.string t)) w.heap.size (.slice (some ⟨g,0,none⟩) ls.length cap) (ls.set (ls.length - 1) (ls[ls.length - 1] ++ [s[k]])) from by rw [ht];exact OS.put (w:=wr.drew) hO _ (by omega) _));have HEq:=Lib.hid (show splStep 47 ls s[k]=ls.set (ls.length - 1) (ls[ls.length - 1] ++ [s[k]]) by
     unfold splStep;rw [if_neg HC.out,List.getD_eq_getElem?_getD,List.getElem?_eq_getElem (show ls.length - 1<ls.length by omega)];rfl)
    have hx:=ext1 s k hlt;have HT:=Lib.hid (str_append ls[ls.length - 1] [s[k]]);have hbg:=Lib.hid (own_frozen hO).2;generalize str ls[ls.length - 1]=t at hcl hts HT;have HN:=Lib.hid (show (1:Int)≤(ls.length:Int)∧(0:Int)≤(ls.length:Int) - 1∧(ls.length:Int) - 1<(ls.length:Int)∧((ls.length:Int) - 1).toNat=ls.length - 1∧(0:Int)≤(k:Int)+1∧(k:Int)≤(k:Int)+1∧(k:Int)+1≤(s.size:Int)∧((k:Int)+1).toNat=k+1 by omega);have hss:(str [s[k]]).size=1:=rfl;have HW1:=Lib.hid (And.intro (show IntKind.i64.wrap ((ls.length:Int) - 1)=(ls.length:Int) - 1 by simp [IntKind.wrap,IntKind.bits,IntKind.signed];omega) (And.intro (show IntKind.i64.wrap ((k:Int)+1)=(k:Int)+1 by simp [IntKind.wrap,IntKind.bits,IntKind.signed];omega) (show ¬ 9223372036854775807<t.size+1 by omega)));clear hc hO hls hW;go_wp2_with fail;obtain⟨g1,g2,g3⟩:=HW1.out;obtain⟨n0,n1,n2,n3,n4,n5,n6,n7⟩:=HN.out;refine wp_still_tail 17 (by kernel_rfl) (by kernel_rfl) ?_;simp only [List.take_succ_cons,List.take_zero,List.drop_succ_cons,List.drop_zero]
    repeat still_step
    refine wpStill_nil ?_;clear g1 g2 g3;go_wp2_with fail;go_roundw
    case measure=>simp [intOf];omega
    case rel=>exact ⟨k+1,g,cap,ls.set (ls.length - 1) (ls[ls.length - 1] ++ [s[k]]),by omega,by go_num,by rw [List.length_set],by rw [List.length_set];exact HX.out _ HT.out,by rw [Hst.out,spl_snoc,←HLs.out,HEq.out],HW.out.trans ((Below.refl _ _).drew.setCell hbg.out.1 _)⟩
  ·obtain rfl:k=s.size:=by omega
   have Hst:=Lib.hid (take_end s);clear hO hls hW;go_wp2_with fail;go_ret;rw [Hst.out] at HLs;have hls:=HLs.out;subst hls;exact⟨⟨g,cap,rfl,HO.out⟩,HW.out⟩
end YtihdbncoijhihaaGreat
namespace YtihdbncoijhihaaGreat
open Go.RowKit
def segL (l:List UInt8):List UInt8:=(l.reverse.takeWhile (· != 47)).reverse
def trimL (l:List UInt8):List UInt8:=(l.reverse.dropWhile (· == 47)).reverse
def lastL (l:List UInt8):List UInt8:=if segL (trimL l)=[46]∨segL (trimL l)=[46,46] then [] else segL (trimL l)
def pathE (s:ByteArray):Int:=if s.data.toList=[] then 5 else if s.data.toList.head?≠some 47∨(0:UInt8)∈s.data.toList then 1 else if 4096<s.size then 13 else 0
def pathB (s:ByteArray):Bool:=pathE s == 0 && lastL s.data.toList != []
theorem segL_snoc (l:List UInt8) (x:UInt8):segL (l ++ [x])=if x=47 then [] else segL l ++ [x]:=by
 unfold segL;rw [List.reverse_append,List.reverse_singleton,List.singleton_append,List.takeWhile_cons];by_cases h:x=47
 ·subst h;simp
 ·have:(x != 47)=true:=by simpa using h
  rw [this,if_neg h];simp
theorem spl_last (l:List UInt8):(spl 47 l).getLast? = some (segL l):=by
 refine snoc_ind (P:=fun l=>(spl 47 l).getLast? = some (segL l)) rfl (fun l x ih=>?_) l;rw [spl_snoc,segL_snoc];unfold splStep;have hl:=(spl_len 47 l).1;by_cases h:x=47
 ·rw [if_pos h,if_pos h];simp
 ·rw [if_neg h,if_neg h];rw [List.getLast?_eq_getElem?] at ih ⊢;rw [List.length_set,List.getElem?_set_self (by omega)];rw [List.getD_eq_getElem?_getD,ih];rfl
def hasB (s:ByteArray) (c:UInt8):Bool:=decide (c∈s.data.toList)
theorem has_any (s:ByteArray) (c:UInt8) (w:World) (hs:s.size≤100000) :
  Calls Tryz.prog 263 #[.string s,.int .u8 c.toNat] w fun e w'=>e=.returned (.bool (hasB s c))∧w=w':=by
 go_enter Tryz.func263,Tryz.ntmps263;go_wp2_with fail
 go_loop [5] (fun t5=>∃ k:Nat,k≤s.size∧t5=.int .i64 k∧∀ j (h:j<s.size),j<k→s[j]≠c) (fun t5=>s.size - (intOf t5).toNat)
 case atStart=>exact ⟨0,Nat.zero_le _,rfl,fun j _ h=>absurd h (Nat.not_lt_zero _)⟩
 case round=>
  obtain⟨k,hk,rfl,hn⟩:=hrel;have Hn:=Lib.hid hn;clear hn;by_cases hlt:k<s.size
  ·by_cases he:s[k]=c
   ·have HE:=Lib.hid he;have he1:((s[k].toNat:Int) == (c.toNat:Int))=true:=by rw [he];simp
    clear he;go_wp2_with fail;go_ret;refine ⟨ret_bool ?_,rfl⟩;have:c∈s.data.toList:=by
     rw [←HE.out];exact List.getElem_mem (l:=s.data.toList) (n:=k) (by simpa using hlt)
    exact (decide_eq_true this).symm
   ·have HE:=Lib.hid he;have he1:((s[k].toNat:Int) == (c.toNat:Int))=false:=by
     simp only [beq_eq_false_iff_ne,ne_eq];intro h;exact he (by rw [u8_eq];omega)
    clear he;go_wp2_with fail
    go_round
    case measure=>simp [intOf];omega
    case rel=>
     refine ⟨k+1,by omega,by go_num,fun j hj hjk=>?_⟩;by_cases e:j=k
     ·subst e;exact HE.out
     ·exact Hn.out j hj (by omega)
  ·obtain rfl:k=s.size:=by omega
   go_wp2_with fail;go_ret;refine ⟨ret_bool ?_,rfl⟩;have:¬ c∈s.data.toList:=by
    intro h;obtain⟨j,hj,rfl⟩:=List.getElem_of_mem h;have hj':j<s.size:=by simpa using hj
    exact Hn.out j hj' hj' rfl
   exact (decide_eq_false this).symm
theorem segL_app (a b:List UInt8) (hb:∀ x∈b,x≠47):segL (a ++ b)=segL a ++ b:=by
 revert hb;refine snoc_ind (P:=fun b=>(∀ x∈b,x≠47)→segL (a ++ b)=segL a ++ b) (by simp) (fun b x ih hb=>?_) b;rw [←List.append_assoc,segL_snoc,if_neg (hb x (by simp)),ih (fun y hy=>hb y (List.mem_append_left _ hy)),List.append_assoc]
theorem seg_idx (s:ByteArray):∃ i:Nat,Lib.lastIndexByte s 47=(i:Int) - 1∧i≤s.size∧s.data.toList.drop i=segL s.data.toList:=by
 have hg:∀ j (h:j<s.size),s.data[j]! = s.data.toList[j]'(by simpa using h):=fun j h=>by
  rw [getElem!_pos s.data j h];rfl
 rcases Lib.lastIdx_spec s 47 s.size with ⟨h1,h2⟩|⟨i,hi,h1,h2,h3⟩
 ·refine ⟨0,by unfold Lib.lastIndexByte;rw [h1];rfl,Nat.zero_le _,?_⟩;have hb:∀ x∈s.data.toList,x≠47:=by
   intro x hx;obtain⟨j,hj,rfl⟩:=List.getElem_of_mem hx;have hj':j<s.size:=by simpa using hj
   have:=h2 j hj';rw [hg j hj'] at this;intro e;rw [e] at this;exact this rfl
  have:=segL_app [] s.data.toList hb;rw [List.nil_append] at this;rw [this];rfl
 ·refine ⟨i+1,by unfold Lib.lastIndexByte;rw [h1];omega,hi,?_⟩;have hi':i<s.data.toList.length:=by simpa using hi
  have hb:∀ x∈s.data.toList.drop (i+1),x≠47:=by
   intro x hx;obtain⟨j,hj,rfl⟩:=List.getElem_of_mem hx;rw [List.length_drop] at hj;have hj':i+1+j<s.size:=by
    have:s.data.toList.length=s.size:=Array.length_toList;omega
   have:=h3 (i+1+j) (by omega) hj';rw [hg _ hj'] at this;intro e;rw [List.getElem_drop] at e;rw [e] at this;exact this rfl
  have h47:s.data.toList[i]=47:=by
   rw [hg i hi] at h2;rw [u8_eq];show (s.data.toList[i]).toNat=47;omega
  have hsp:s.data.toList=(s.data.toList.take i ++ [47]) ++ s.data.toList.drop (i+1):=by
   rw [←h47,←List.take_succ_eq_append_getElem,List.take_append_drop]
  have h5:=segL_app (s.data.toList.take i ++ [47]) (s.data.toList.drop (i+1)) hb;rw [←hsp,segL_snoc,if_pos rfl,List.nil_append] at h5;exact h5.symm
theorem tail_any (s:ByteArray) (w:World) (hs:s.size≤100000) :
  Calls Tryz.prog 236 #[.string s] w fun e w'=>e=.returned (.string (str (segL s.data.toList)))∧w=w':=by
 obtain⟨i,h1,h2,h3⟩:=seg_idx s;have hc:=Lib.hid (show ∀ w,Calls Tryz.prog 269 #[.string s,.int .u8 47] w fun e w'=>e=.returned (.int .i64 ((i:Int) - 1))∧w=w' from fun w=>by
  refine (Tryz.strings_LastIndexByte s 47 (by omega) w).mono ?_;rintro e w' ⟨rfl,rfl⟩;exact⟨by rw [h1],rfl⟩)
 have hx:=Lib.hid (show s.extract i s.size=str (segL s.data.toList) by
  rw [←h3];apply ba_ext;rw [ByteArray.toList_eq,ByteArray.toList_eq,ByteArray.data_extract];show (s.data.extract i s.data.size).toList=_;rw [Array.toList_extract,List.extract_eq_take_drop];show List.take (s.data.size - i) (List.drop i s.data.toList)=List.drop i s.data.toList;exact List.take_of_length_le (by rw [List.length_drop,Array.length_toList];omega))
 clear h1 h3;go_enter Tryz.func236,Tryz.ntmps236;go_wp2_with (go_at_call 269;refine (hc.out _).mono ?_;rintro e w1 ⟨rfl,rfl⟩);go_ret;exact⟨by rw [←hx.out];rfl,rfl⟩
end YtihdbncoijhihaaGreat
namespace YtihdbncoijhihaaGreat
open Go.RowKit
theorem str_list (l:List UInt8):(str l).data.toList=l:=by simp [str]
theorem ba_list (t:ByteArray):t.toList=t.data.toList:=ByteArray.toList_eq t
end YtihdbncoijhihaaGreat
namespace YtihdbncoijhihaaGreat
open Go.RowKit
def permB (cu cg uid gid mode want:Int):Bool:=
 if cu=0 then true else
  (bits .and .i64 (bits .and .i64 (if cu=uid then mode / 64 else if cg=gid then mode / 8 else mode) want) 7 == bits .and .i64 want 7)
structure Cr where
 u:Int
 g:Int
def An.may (a:An) (c:Cr) (want:Int):Bool:=permB c.u c.g a.uid a.gid a.mode want
def ownsB (c:Cr) (a:An):Bool:=(c.u == 0) || (c.u == a.uid)
def idB (u g:Int):Bool:=decide (0≤u∧u≤2147483648∧0≤g∧g≤2147483648)
def Fs.dev (S:Fs) (d:Int):Option Dv:=if 1≤d then S.ds[(d - 1).toNat]? else none
def Fs.setDev (S:Fs) (d:Int) (v:Dv):Fs:={S with ds:=S.ds.set (d - 1).toNat v}
def Fs.addRoot (S:Fs) (over blocks nodes:Int):Fs:=
 {ns:=S.ns ++ [{an0 with no:=S.last+1,dev:=S.ds.length+1,kind:=1,mode:=493,links:=1,up:=S.last+1}]
  ds:=S.ds ++ [⟨S.last+1,over,1,1,blocks,nodes⟩]
  last:=S.last+1}
def fs0:Fs:=⟨[],[],0⟩
def Fs.mount (S:Fs) (k blocks nodes:Int):Fs×Int×Int:=
 match S.get k with
 | none=>(S,0,5)
 | some a=>
  if a.kind≠1 then (S,0,9)
  else if S.over k≠k∨S.root a.dev=k then (S,0,16)
  else if 8≤S.ds.length∨limB blocks nodes=false then (S,0,3)
  else (S.addRoot k blocks nodes,S.last+1,0)
def Fs.above (S:Fs) (k:Int):Int:=
 match S.get k with
 | none=>0
 | some a=>
  if a.kind≠1 then 0
  else if S.root a.dev=k∧1<a.dev then
   (match S.dev a.dev with
    | none=>0
    | some v=>match S.get v.over with | none=>0 | some b=>b.up)
  else a.up
def Fs.make (S:Fs) (a:An):Fs×Int×Int:=
 if S.root a.dev=0 then (S,0,1) else
 match S.dev a.dev with
 | none=>(S,0,1)
 | some v=>
  let e:=tkE v.b v.n v.mb v.mn (blkI a.kind a.data.size) 1
  if e=0 then (((S.setDev a.dev {v with b:=v.b+blkI a.kind a.data.size,n:=v.n+1}).add a),S.last+1,0)
  else (S,0,e)
def partsL (l:List UInt8):List (List UInt8):=(spl 47 l).filter fun p=>!(p == []) && !(p == [46])
def slashB (l:List UInt8):Bool:=segL l == [] || segL l == [46] || segL l == [46,46]
structure Fd where
 dir:Int
 name:ByteArray
 no:Int
 slash:Bool
def fd0:Fd:=⟨0,ByteArray.empty,0,false⟩
def Fs.step (S:Fs) (c:Cr) (at':Int) (p:List UInt8):Int×Int:=
 match S.get at' with
 | none=>(0,9)
 | some d=>
  if d.kind≠1 then (0,9)
  else if d.may c 1=false then (0,6)
  else if p=[46,46] then (S.above at',0)
  else if 255<p.length then (0,13)
  else (S.over (entFind d.ents (str p)),0)
def Fs.seekL (S:Fs) (c:Cr) (follow:Bool) (k:Option (Int→Bool→List (List UInt8)→Fd×Int)):List (List UInt8)→Int→Bool→Fd×Int
 | [],at',_=>(⟨0,ByteArray.empty,at',true⟩,0)
 | p :: l,at',must=>
  let r:=S.step c at' p
  if r.2≠0 then (fd0,r.2)
  else if p=[46,46] then S.seekL c follow k l r.1 must
  else match S.get r.1 with
  | none=>if l=[] then (⟨at',str p,0,must⟩,0) else (fd0,5)
  | some n=>
   if n.kind=3∧(l≠[]∨must=true∨follow=true) then
    (match k with
     | none=>(fd0,12)
     | some k=>
      if n.data.data.toList=[] then (fd0,5)
      else k (if n.data.data.toList.head? = some 47 then 1 else at') (if l=[] then must || slashB n.data.data.toList else must) (partsL n.data.data.toList ++ l))
   else if n.kind≠1∧(l≠[]∨must=true) then (fd0,9)
   else if l=[] then (⟨at',str p,r.1,must⟩,0)
   else S.seekL c follow k l r.1 must
def Fs.seekH (S:Fs) (c:Cr) (follow:Bool):Nat→Int→Bool→List (List UInt8)→Fd×Int
 | 0,at',must,l=>S.seekL c follow none l at' must
 | h+1,at',must,l=>S.seekL c follow (some (S.seekH c follow h)) l at' must
def Fs.path (S:Fs) (c:Cr) (s:ByteArray) (follow:Bool):Fd×Int:=
 if pathE s≠0 then (fd0,pathE s) else S.seekH c follow 8 1 (slashB s.data.toList) (partsL s.data.toList)
def checkE (s:ByteArray):Int:=
 if s.data.toList=[]∨s.data.toList=[46]∨s.data.toList=[46,46]∨(47:UInt8)∈s.data.toList∨(0:UInt8)∈s.data.toList then 1 else if 255<s.size then 13 else 0
def Fs.placeE (S:Fs) (c:Cr) (dir:Int) (s:ByteArray):Int:=
 match S.get dir with
 | none=>5
 | some d=>if d.kind≠1 then 9 else if checkE s≠0 then checkE s else if d.may c 3=false then 6 else 0
def Fs.touch (S:Fs) (now dir:Int) (l:List En):Fs:=
 match S.get dir with
 | none=>S
 | some d=>S.set {d with ents:=l,mtime:=now,ctime:=now}
def Fs.come (S:Fs) (c:Cr) (now dir:Int) (s:ByteArray) (a:An):Fs×Int×Int:=
 if S.placeE c dir s≠0 then (S,0,S.placeE c dir s) else
 match S.get dir with
 | none=>(S,0,5)
 | some d=>
  if entFind d.ents s≠0 then (S,0,7)
  else
   let r:=S.make {a with dev:=d.dev,uid:=c.u,gid:=c.g,mtime:=now,ctime:=now,links:=1}
   if r.2.2≠0 then (S,0,r.2.2)
   else (r.1.touch now dir (entPut d.ents s r.2.1),r.2.1,0)
def Fs.mkdir (S:Fs) (c:Cr) (now dir:Int) (s:ByteArray) (mode:Int):Fs×Int×Int:=
 if mode<0∨1023<mode then (S,0,1) else S.come c now dir s {an0 with kind:=1,mode:=mode,up:=dir}
def Fs.file (S:Fs) (c:Cr) (now dir:Int) (s:ByteArray) (mode:Int) (data:ByteArray):Fs×Int×Int:=
 if mode<0∨1023<mode then (S,0,1) else if 1048576<data.size then (S,0,3) else S.come c now dir s {an0 with kind:=2,mode:=mode,data:=data}
def Fs.sym (S:Fs) (c:Cr) (now dir:Int) (s text:ByteArray):Fs×Int×Int:=
 if text.data.toList=[]∨(0:UInt8)∈text.data.toList then (S,0,1) else if 4096<text.size then (S,0,13) else S.come c now dir s {an0 with kind:=3,mode:=511,data:=text}
def Fs.hard (S:Fs) (c:Cr) (now no dir:Int) (s:ByteArray):Fs×Int:=
 if S.placeE c dir s≠0 then (S,S.placeE c dir s) else
 match S.get dir,S.get no with
 | some d,some n=>
  if n.kind=1 then (S,4)
  else if entFind d.ents s≠0 then (S,7)
  else if n.dev≠d.dev then (S,11)
  else if 1000≤n.links then (S,18)
  else ((S.set {n with links:=n.links+1,ctime:=now}).touch now dir (entPut d.ents s no),0)
 | _,_=>(S,5)
def Fs.chmod (S:Fs) (c:Cr) (now no mode:Int):Fs×Int:=
 match S.get no with
 | none=>(S,5)
 | some n=>if ownsB c n=false then (S,4) else if mode<0∨1023<mode∨n.kind=3 then (S,1) else (S.set {n with mode:=mode,ctime:=now},0)
def Fs.chown (S:Fs) (c:Cr) (now no u g:Int):Fs×Int:=
 match S.get no with
 | none=>(S,5)
 | some n=>if ownsB c n=false then (S,4) else if c.u≠0 then (S,4) else if idB u g=false then (S,1) else (S.set {n with uid:=u,gid:=g,ctime:=now},0)
def Fs.utime (S:Fs) (c:Cr) (now no t:Int):Fs×Int:=
 match S.get no with
 | none=>(S,5)
 | some n=>if ownsB c n=false then (S,4) else if t<0∨253402300799<t then (S,1) else (S.set {n with mtime:=t,ctime:=now},0)
structure Sy where
 fs:Fs
 now:Int
 count:Int
 plan:List (Int×Int)
 dead:Bool
def Sy.change (Y:Sy):Sy×Int:=
 if Y.dead then (Y,20) else
 match Y.plan.find? (fun x=>x.1 == Y.count+1) with
 | none=>({Y with count:=Y.count+1},0)
 | some x=>({Y with count:=Y.count+1,dead:=x.2 == 20},x.2)
end YtihdbncoijhihaaGreat
end Go.Proofs
