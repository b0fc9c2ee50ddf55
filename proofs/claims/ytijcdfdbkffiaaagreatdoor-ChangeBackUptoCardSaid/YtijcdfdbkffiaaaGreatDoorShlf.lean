/-
  DERIVED: THE SHELF's CONTRACTS AT THIS DUMP, IN PLAIN WORDS (tools/lay-plain.mjs out of 'TryzShelf.lean', which tools/lay-shelf.mjs wrote): THE SAME DECLARATIONS UNDER THE SAME NAMES: 'import', 'namespace', 'open', 'def', 'theorem' AND NOTHING ELSE: no command of the shelf's: FOR A HAND-IN. Each laying: the table of numbers ('.._ren') and one theorem, a field a fact of the dump's own or the kernel's comparison; each contract: ONE APPLICATION.
-/
import Derived.Shelf.Strings.Builder1
import Derived.Shelf.Strings.Builder2
import Derived.Shelf.Strings.OnBuilder
import Derived.Shelf.Strings.Trim
import Derived.Shelf.Small.Utf8
import Derived.Shelf.Small.Strs
import Derived.Shelf.Small.Wraps
import Derived.Shelf.Strings.BuilderF
import Derived.Shelf.Strings.BuilderK
import Derived.Shelf.Strconv.Atoi
import Derived.Shelf.Strconv.Itoa0
import Derived.Shelf.Strconv.Itoa1
import Derived.Shelf.LaysM
import Derived.Shelf.Strconv.Itoa2
import Derived.Shelf.Strconv.Itoa3
import Derived.Shelf.Strconv.Clone
import Derived.Shelf.Strconv.SyntaxError
import Derived.Shelf.LaysC
import Derived.Shelf.Strconv.ToError
import Derived.Shelf.Strconv.Lower
import Derived.Shelf.Strconv.ParseUint10
import Derived.Shelf.Strconv.RangeError
import Derived.Shelf.Strconv.ToErrorRange
import Derived.Shelf.Strconv.ParseUintEmpty
import Derived.Shelf.Strconv.ParseUint10b64
import Derived.Shelf.Strconv.ParseUint10b32
import Derived.Shelf.Strconv.ParseUint10b16
import Derived.Shelf.Strconv.ParseUint10b8
import Derived.Shelf.Strconv.ParseUint10At
import Derived.Ground.MpProg
import Derived.Shelf.Pu.ParseUintPublic10
import Derived.Shelf.Pu.ErrVarParseUint
import Derived.Shelf.Strings.Search1
import Derived.Shelf.Strings.Search2
import Derived.Shelf.Strings.Search3
import Derived.Shelf.Strings.Cut
import Derived.Shelf.Strings.Count
import Derived.Shelf.Strings.Shaped
import Derived.Shelf.Strings.LastIndex
import Derived.Shelf.Strings.Prefix
import Derived.Shelf.Strings.Split
import Derived.Shelf.Strings.SplitShaped
import Derived.Shelf.Unicode.Latin
import Derived.Shelf.Strings.Runes
import Derived.Shelf.Strings.AsciiSet
import Derived.Shelf.Bits.Mul64
import Derived.Shelf.Unicode.DecodeSlow
import Derived.Shelf.Unicode.CaseLookup
import Derived.Shelf.Unicode.CaseConvert
import Derived.Shelf.Unicode.CaseTo
import Derived.Shelf.Unicode.CaseLaid
import Derived.Shelf.Slices.Turned
import Derived.Test.YtijcdfdbkffiaaaGreatDoorProg
namespace Go.Proofs
open Go.Shelf
def Tryz.lays169_ren:Go.Shelf.Ren:=⟨fun|169=>242|n=>n,fun|70=>285|9=>9|0=>0|72=>287|37=>86|127=>270|3=>3|5=>5|n=>n,fun|n=>n⟩
theorem Tryz.lays169:Go.Proofs.Lays.n169 Tryz.prog Tryz.lays169_ren:= {
  mixed:=by kernel_rfl
  f169:=Tryz.func242.trans (congrArg some (by kernel_rfl))
  t0:=Tryz.underlying0
  a0:=Tryz.isAgg0
  z0:=Tryz.sizeOf0
  v0:=Tryz.zeroValue0
  t3:=Tryz.underlying3
  a3:=Tryz.isAgg3
  z3:=Tryz.sizeOf3
  v3:=Tryz.zeroValue3
  t9:=Tryz.underlying9
  a9:=Tryz.isAgg9
  z9:=Tryz.sizeOf9
  v9:=Tryz.zeroValue9
  t37:=Tryz.underlying86
  a37:=Tryz.isAgg86
  z37:=Tryz.sizeOf86
  v37:=Tryz.zeroValue86
  t70:=Tryz.underlying285
  a70:=Tryz.isAgg285
  z70:=Tryz.sizeOf285
  v70:=Tryz.zeroValue285
  t72:=Tryz.underlying287
  a72:=Tryz.isAgg287
  z72:=Tryz.sizeOf287
  v72:=Tryz.zeroValue287
  t127:=Tryz.underlying270
  a127:=Tryz.isAgg270
  z127:=Tryz.sizeOf270
  v127:=Tryz.zeroValue270}
theorem Tryz.Builder_Extra_169:Builder.Extra Tryz.prog Tryz.lays169_ren:= {
  sizeBuilder:=by kernel_rfl
  liesBuilder:=by kernel_rfl
  t5:=Tryz.underlying5
  a5:=Tryz.isAgg5
  z5:=Tryz.sizeOf5
  v5:=Tryz.zeroValue5
  infoByte:=by kernel_rfl
  cellsByte:=by kernel_rfl
  sizeByte:=by kernel_rfl
  neB5:=by decide}
open Go.RowKit in
/-- (*strings.Builder).String: "String returns the accumulated string.": WHATEVER THE BUILDER HOLDS. (LAID: no walk: one application.) -/
theorem Tryz.Builder_String_any (B b:Nat) (l:List UInt8) (w:World) (h:Lib.IsBuilder 287 5 B b (Lib.byteCells l) w) (hBw:B≤w.heap.size):
    Calls Tryz.prog 242 #[.pointer (some ⟨b,0,none⟩)] w fun e w'=>e=.returned (.string ⟨l.toArray⟩)∧Below B w w':=Any.Builder_String_any Tryz.lays169 Tryz.Builder_Extra_169 B b l w h hBw
def Tryz.lays159_ren:Go.Shelf.Ren:=⟨fun|159=>229|165=>239|166=>240|167=>241|169=>242|230=>243|204=>244|240=>256|241=>257|197=>175|118=>258|168=>259|270=>260|262=>261|276=>265|277=>266|260=>199|242=>267|313=>268|278=>270|274=>271|275=>272|n=>n,fun|9=>9|4=>4|3=>3|5=>5|72=>287|0=>0|76=>170|75=>169|107=>292|70=>285|20=>20|37=>86|127=>270|21=>21|105=>221|164=>311|162=>317|203=>315|119=>265|46=>203|139=>268|138=>267|51=>218|160=>318|208=>324|206=>322|80=>290|n=>n,fun|13=>8|3=>3|4=>4|n=>n⟩
theorem Tryz.lays159:Go.Proofs.Lays.n159 Tryz.prog Tryz.lays159_ren:= {
  mixed:=by kernel_rfl
  f118:=Tryz.func258.trans (congrArg some (by kernel_rfl))
  f159:=Tryz.func229.trans (congrArg some (by kernel_rfl))
  f165:=Tryz.func239.trans (congrArg some (by kernel_rfl))
  f166:=Tryz.func240.trans (congrArg some (by kernel_rfl))
  f167:=Tryz.func241.trans (congrArg some (by kernel_rfl))
  f168:=Tryz.func259.trans (congrArg some (by kernel_rfl))
  f169:=Tryz.func242.trans (congrArg some (by kernel_rfl))
  f197:=Tryz.func175.trans (congrArg some (by kernel_rfl))
  f204:=Tryz.func244.trans (congrArg some (by kernel_rfl))
  f230:=Tryz.func243.trans (congrArg some (by kernel_rfl))
  f240:=Tryz.func256.trans (congrArg some (by kernel_rfl))
  f241:=Tryz.func257.trans (congrArg some (by kernel_rfl))
  f242:=Tryz.func267.trans (congrArg some (by kernel_rfl))
  f260:=Tryz.func199.trans (congrArg some (by kernel_rfl))
  f262:=Tryz.func261.trans (congrArg some (by kernel_rfl))
  f270:=Tryz.func260.trans (congrArg some (by kernel_rfl))
  f274:=Tryz.func271.trans (congrArg some (by kernel_rfl))
  f275:=Tryz.func272.trans (congrArg some (by kernel_rfl))
  f276:=Tryz.func265.trans (congrArg some (by kernel_rfl))
  f277:=Tryz.func266.trans (congrArg some (by kernel_rfl))
  f278:=Tryz.func270.trans (congrArg some (by kernel_rfl))
  f313:=Tryz.func268.trans (congrArg some (by kernel_rfl))
  t0:=Tryz.underlying0
  a0:=Tryz.isAgg0
  z0:=Tryz.sizeOf0
  v0:=Tryz.zeroValue0
  t3:=Tryz.underlying3
  a3:=Tryz.isAgg3
  z3:=Tryz.sizeOf3
  v3:=Tryz.zeroValue3
  t4:=Tryz.underlying4
  a4:=Tryz.isAgg4
  z4:=Tryz.sizeOf4
  v4:=Tryz.zeroValue4
  t5:=Tryz.underlying5
  a5:=Tryz.isAgg5
  z5:=Tryz.sizeOf5
  v5:=Tryz.zeroValue5
  t9:=Tryz.underlying9
  a9:=Tryz.isAgg9
  z9:=Tryz.sizeOf9
  v9:=Tryz.zeroValue9
  t20:=Tryz.underlying20
  a20:=Tryz.isAgg20
  z20:=Tryz.sizeOf20
  v20:=Tryz.zeroValue20
  t21:=Tryz.underlying21
  a21:=Tryz.isAgg21
  z21:=Tryz.sizeOf21
  v21:=Tryz.zeroValue21
  t37:=Tryz.underlying86
  a37:=Tryz.isAgg86
  z37:=Tryz.sizeOf86
  v37:=Tryz.zeroValue86
  t46:=Tryz.underlying203
  a46:=Tryz.isAgg203
  z46:=Tryz.sizeOf203
  v46:=Tryz.zeroValue203
  t51:=Tryz.underlying218
  a51:=Tryz.isAgg218
  z51:=Tryz.sizeOf218
  v51:=Tryz.zeroValue218
  t70:=Tryz.underlying285
  a70:=Tryz.isAgg285
  z70:=Tryz.sizeOf285
  v70:=Tryz.zeroValue285
  t72:=Tryz.underlying287
  a72:=Tryz.isAgg287
  z72:=Tryz.sizeOf287
  v72:=Tryz.zeroValue287
  t75:=Tryz.underlying169
  a75:=Tryz.isAgg169
  z75:=Tryz.sizeOf169
  v75:=Tryz.zeroValue169
  t76:=Tryz.underlying170
  a76:=Tryz.isAgg170
  z76:=Tryz.sizeOf170
  v76:=Tryz.zeroValue170
  t105:=Tryz.underlying221
  a105:=Tryz.isAgg221
  z105:=Tryz.sizeOf221
  v105:=Tryz.zeroValue221
  t107:=Tryz.underlying292
  a107:=Tryz.isAgg292
  z107:=Tryz.sizeOf292
  v107:=Tryz.zeroValue292
  t119:=Tryz.underlying265
  a119:=Tryz.isAgg265
  z119:=Tryz.sizeOf265
  t127:=Tryz.underlying270
  a127:=Tryz.isAgg270
  z127:=Tryz.sizeOf270
  v127:=Tryz.zeroValue270
  t138:=Tryz.underlying267
  a138:=Tryz.isAgg267
  z138:=Tryz.sizeOf267
  v138:=Tryz.zeroValue267
  t139:=Tryz.underlying268
  a139:=Tryz.isAgg268
  z139:=Tryz.sizeOf268
  v139:=Tryz.zeroValue268
  t160:=Tryz.underlying318
  a160:=Tryz.isAgg318
  z160:=Tryz.sizeOf318
  v160:=Tryz.zeroValue318
  t162:=Tryz.underlying317
  a162:=Tryz.isAgg317
  z162:=Tryz.sizeOf317
  v162:=Tryz.zeroValue317
  t164:=Tryz.underlying311
  a164:=Tryz.isAgg311
  z164:=Tryz.sizeOf311
  v164:=Tryz.zeroValue311
  t203:=Tryz.underlying315
  a203:=Tryz.isAgg315
  z203:=Tryz.sizeOf315
  v203:=Tryz.zeroValue315
  t206:=Tryz.underlying322
  a206:=Tryz.isAgg322
  z206:=Tryz.sizeOf322
  v206:=Tryz.zeroValue322
  t208:=Tryz.underlying324
  a208:=Tryz.isAgg324
  z208:=Tryz.sizeOf324
  v208:=Tryz.zeroValue324
  g3:=by kernel_rfl
  g4:=by kernel_rfl
  g13:=by kernel_rfl}
theorem Tryz.Builder_Extra_159:Builder.Extra Tryz.prog Tryz.lays159_ren:= {
  sizeBuilder:=by kernel_rfl
  liesBuilder:=by kernel_rfl
  t5:=Tryz.underlying5
  a5:=Tryz.isAgg5
  z5:=Tryz.sizeOf5
  v5:=Tryz.zeroValue5
  infoByte:=by kernel_rfl
  cellsByte:=by kernel_rfl
  sizeByte:=by kernel_rfl
  neB5:=by decide}
open Go.RowKit in
/-- strings.ToLower: "ToLower returns s with all Unicode letters mapped to their lower case.": ON ASCII TEXT OF AT MOST 2^47 BYTES. Below the heap's end the world is as it was: where a letter turns, the call makes a builder and its buffer. (LAID: no walk: one application.) -/
theorem Tryz.strings_ToLower_ascii (s:ByteArray) (w:World) (hs:s.size≤140737488355328) (hascii:∀ (j:Nat) (b:UInt8),s.data.toList[j]? =some b→b.toNat<128):
    Calls Tryz.prog 229 #[.string s] w fun e w'=>e=.returned (.string ⟨(Lib.toLowerA s.data.toList).toArray⟩)∧Below w.heap.size w w':=Any.strings_ToLower_ascii Tryz.lays159 Tryz.Builder_Extra_159 s w hs hascii
def Tryz.lays160_ren:Go.Shelf.Ren:=⟨fun|160=>230|232=>246|231=>245|227=>247|234=>249|233=>248|236=>251|235=>250|228=>262|271=>264|151=>263|197=>175|120=>269|152=>232|260=>199|137=>124|119=>254|224=>152|225=>151|217=>150|266=>173|n=>n,fun|9=>9|4=>4|3=>3|5=>5|117=>296|116=>295|0=>0|124=>299|21=>21|105=>221|46=>203|119=>265|139=>268|138=>267|n=>n,fun|3=>3|4=>4|n=>n⟩
theorem Tryz.lays160:Go.Proofs.Lays.n160 Tryz.prog Tryz.lays160_ren:= {
  mixed:=by kernel_rfl
  f119:=Tryz.func254.trans (congrArg some (by kernel_rfl))
  f120:=Tryz.func269.trans (congrArg some (by kernel_rfl))
  f137:=Tryz.func124.trans (congrArg some (by kernel_rfl))
  f151:=Tryz.func263.trans (congrArg some (by kernel_rfl))
  f152:=Tryz.func232.trans (congrArg some (by kernel_rfl))
  f160:=Tryz.func230.trans (congrArg some (by kernel_rfl))
  f197:=Tryz.func175.trans (congrArg some (by kernel_rfl))
  f217:=Tryz.func150.trans (congrArg some (by kernel_rfl))
  f224:=Tryz.func152.trans (congrArg some (by kernel_rfl))
  f225:=Tryz.func151.trans (congrArg some (by kernel_rfl))
  f227:=Tryz.func247.trans (congrArg some (by kernel_rfl))
  f228:=Tryz.func262.trans (congrArg some (by kernel_rfl))
  f231:=Tryz.func245.trans (congrArg some (by kernel_rfl))
  f232:=Tryz.func246.trans (congrArg some (by kernel_rfl))
  f233:=Tryz.func248.trans (congrArg some (by kernel_rfl))
  f234:=Tryz.func249.trans (congrArg some (by kernel_rfl))
  f235:=Tryz.func250.trans (congrArg some (by kernel_rfl))
  f236:=Tryz.func251.trans (congrArg some (by kernel_rfl))
  f260:=Tryz.func199.trans (congrArg some (by kernel_rfl))
  f266:=Tryz.func173.trans (congrArg some (by kernel_rfl))
  f271:=Tryz.func264.trans (congrArg some (by kernel_rfl))
  t0:=Tryz.underlying0
  a0:=Tryz.isAgg0
  z0:=Tryz.sizeOf0
  v0:=Tryz.zeroValue0
  t3:=Tryz.underlying3
  a3:=Tryz.isAgg3
  z3:=Tryz.sizeOf3
  v3:=Tryz.zeroValue3
  t4:=Tryz.underlying4
  a4:=Tryz.isAgg4
  z4:=Tryz.sizeOf4
  v4:=Tryz.zeroValue4
  t5:=Tryz.underlying5
  a5:=Tryz.isAgg5
  z5:=Tryz.sizeOf5
  v5:=Tryz.zeroValue5
  t9:=Tryz.underlying9
  a9:=Tryz.isAgg9
  z9:=Tryz.sizeOf9
  v9:=Tryz.zeroValue9
  t21:=Tryz.underlying21
  a21:=Tryz.isAgg21
  z21:=Tryz.sizeOf21
  v21:=Tryz.zeroValue21
  t46:=Tryz.underlying203
  a46:=Tryz.isAgg203
  z46:=Tryz.sizeOf203
  v46:=Tryz.zeroValue203
  t105:=Tryz.underlying221
  a105:=Tryz.isAgg221
  z105:=Tryz.sizeOf221
  v105:=Tryz.zeroValue221
  t116:=Tryz.underlying295
  a116:=Tryz.isAgg295
  z116:=Tryz.sizeOf295
  t117:=Tryz.underlying296
  a117:=Tryz.isAgg296
  z117:=Tryz.sizeOf296
  v117:=Tryz.zeroValue296
  t119:=Tryz.underlying265
  a119:=Tryz.isAgg265
  z119:=Tryz.sizeOf265
  t124:=Tryz.underlying299
  a124:=Tryz.isAgg299
  z124:=Tryz.sizeOf299
  v124:=Tryz.zeroValue299
  t138:=Tryz.underlying267
  a138:=Tryz.isAgg267
  z138:=Tryz.sizeOf267
  v138:=Tryz.zeroValue267
  t139:=Tryz.underlying268
  a139:=Tryz.isAgg268
  z139:=Tryz.sizeOf268
  v139:=Tryz.zeroValue268
  g3:=by kernel_rfl
  g4:=by kernel_rfl}
def Tryz.lays137_ren:Go.Shelf.Ren:=⟨fun|137=>124|217=>150|266=>173|n=>n,fun|9=>9|5=>5|3=>3|n=>n,fun|n=>n⟩
theorem Tryz.lays137:Go.Proofs.Lays.n137 Tryz.prog Tryz.lays137_ren:= {
  mixed:=by kernel_rfl
  f137:=Tryz.func124.trans (congrArg some (by kernel_rfl))
  f217:=Tryz.func150.trans (congrArg some (by kernel_rfl))
  f266:=Tryz.func173.trans (congrArg some (by kernel_rfl))
  t3:=Tryz.underlying3
  a3:=Tryz.isAgg3
  z3:=Tryz.sizeOf3
  v3:=Tryz.zeroValue3
  t5:=Tryz.underlying5
  a5:=Tryz.isAgg5
  z5:=Tryz.sizeOf5
  v5:=Tryz.zeroValue5
  t9:=Tryz.underlying9
  a9:=Tryz.isAgg9
  z9:=Tryz.sizeOf9
  v9:=Tryz.zeroValue9}
open Go.RowKit in
/-- strings.IndexByte: "IndexByte returns the index of the first instance of c in s, or -1 if c is not present in s.": IT RETURNS 'Lib.indexByte s c'; the world is as it was. (LAID: no walk: one application.) -/
theorem Tryz.strings_IndexByte (s:ByteArray) (c:Int) (w:World):
    Calls Tryz.prog 124 #[.string s,.int .u8 c] w fun e w'=>e=.returned (.int .i64 (Lib.indexByte s.data.toList c.toNat.toUInt8))∧w'=w:=Any.strings_IndexByte Tryz.lays137 s c w
def Tryz.lays103_ren:Go.Shelf.Ren:=⟨fun|103=>228|210=>238|206=>207|n=>n,fun|9=>9|4=>4|24=>130|3=>3|n=>n,fun|n=>n⟩
theorem Tryz.lays103:Go.Proofs.Lays.n103 Tryz.prog Tryz.lays103_ren:= {
  mixed:=by kernel_rfl
  f103:=Tryz.func228.trans (congrArg some (by kernel_rfl))
  f206:=Tryz.func207.trans (congrArg some (by kernel_rfl))
  f210:=Tryz.func238.trans (congrArg some (by kernel_rfl))
  t3:=Tryz.underlying3
  a3:=Tryz.isAgg3
  z3:=Tryz.sizeOf3
  v3:=Tryz.zeroValue3
  t4:=Tryz.underlying4
  a4:=Tryz.isAgg4
  z4:=Tryz.sizeOf4
  v4:=Tryz.zeroValue4
  t9:=Tryz.underlying9
  a9:=Tryz.isAgg9
  z9:=Tryz.sizeOf9
  v9:=Tryz.zeroValue9
  t24:=Tryz.underlying130
  a24:=Tryz.isAgg130
  z24:=Tryz.sizeOf130
  v24:=Tryz.zeroValue130}
open Go.RowKit in
/-- strings.CutPrefix: "CutPrefix returns s without the provided leading prefix string and reports whether it found the prefix. If s doesn't start with prefix, CutPrefix returns s, false. If prefix is the empty string, CutPrefix returns s, true.": IT RETURNS '(Lib.trimPrefix s p, Lib.hasPrefix s p)'; the world is as it was. (LAID: no walk: one application.) -/
theorem Tryz.strings_CutPrefix (s p:ByteArray) (w:World):
    Calls Tryz.prog 228 #[.string s,.string p] w fun e w'=>e=.returned (.tuple #[.string ⟨(Lib.trimPrefix s.data.toList p.data.toList).toArray⟩,.bool (Lib.hasPrefix s.data.toList p.data.toList)])∧w'=w:=Any.strings_CutPrefix Tryz.lays103 s p w
def Tryz.lays104_ren:Go.Shelf.Ren:=⟨fun|104=>65|211=>117|207=>155|n=>n,fun|9=>9|4=>4|24=>130|3=>3|n=>n,fun|n=>n⟩
theorem Tryz.lays104:Go.Proofs.Lays.n104 Tryz.prog Tryz.lays104_ren:= {
  mixed:=by kernel_rfl
  f104:=Tryz.func65.trans (congrArg some (by kernel_rfl))
  f207:=Tryz.func155.trans (congrArg some (by kernel_rfl))
  f211:=Tryz.func117.trans (congrArg some (by kernel_rfl))
  t3:=Tryz.underlying3
  a3:=Tryz.isAgg3
  z3:=Tryz.sizeOf3
  v3:=Tryz.zeroValue3
  t4:=Tryz.underlying4
  a4:=Tryz.isAgg4
  z4:=Tryz.sizeOf4
  v4:=Tryz.zeroValue4
  t9:=Tryz.underlying9
  a9:=Tryz.isAgg9
  z9:=Tryz.sizeOf9
  v9:=Tryz.zeroValue9
  t24:=Tryz.underlying130
  a24:=Tryz.isAgg130
  z24:=Tryz.sizeOf130
  v24:=Tryz.zeroValue130}
open Go.RowKit in
/-- strings.CutSuffix: "CutSuffix returns s without the provided ending suffix string and reports whether it found the suffix. If s doesn't end with suffix, CutSuffix returns s, false. If suffix is the empty string, CutSuffix returns s, true.": IT RETURNS '(Lib.trimSuffix s p, Lib.hasSuffix s p)'; the world is as it was. (LAID: no walk: one application.) -/
theorem Tryz.strings_CutSuffix (s p:ByteArray) (w:World) (hs:s.size≤9223372036854775807):
    Calls Tryz.prog 65 #[.string s,.string p] w fun e w'=>e=.returned (.tuple #[.string ⟨(Lib.trimSuffix s.data.toList p.data.toList).toArray⟩,.bool (Lib.hasSuffix s.data.toList p.data.toList)])∧w'=w:=Any.strings_CutSuffix Tryz.lays104 s p w hs
def Tryz.lays172_ren:Go.Shelf.Ren:=⟨fun|172=>118|244=>156|245=>157|247=>176|279=>177|280=>178|281=>179|282=>180|287=>200|316=>201|171=>119|205=>202|321=>221|322=>222|243=>158|246=>181|283=>203|284=>204|285=>205|286=>206|129=>224|317=>223|318=>225|319=>226|320=>227|337=>236|338=>237|n=>n,fun|9=>9|3=>3|75=>169|76=>170|4=>4|5=>5|167=>223|37=>86|0=>0|85=>224|2=>2|168=>226|53=>94|175=>244|46=>203|210=>247|127=>270|145=>273|143=>271|21=>21|171=>249|173=>252|212=>275|51=>218|20=>20|213=>276|232=>305|233=>306|80=>290|n=>n,fun|15=>1|16=>2|17=>5|18=>6|19=>7|n=>n⟩
theorem Tryz.lays172:Go.Proofs.Lays.n172 Tryz.prog Tryz.lays172_ren:= {
  mixed:=by kernel_rfl
  f129:=Tryz.func224.trans (congrArg some (by kernel_rfl))
  f171:=Tryz.func119.trans (congrArg some (by kernel_rfl))
  f172:=Tryz.func118.trans (congrArg some (by kernel_rfl))
  f205:=Tryz.func202.trans (congrArg some (by kernel_rfl))
  f243:=Tryz.func158.trans (congrArg some (by kernel_rfl))
  f244:=Tryz.func156.trans (congrArg some (by kernel_rfl))
  f245:=Tryz.func157.trans (congrArg some (by kernel_rfl))
  f246:=Tryz.func181.trans (congrArg some (by kernel_rfl))
  f247:=Tryz.func176.trans (congrArg some (by kernel_rfl))
  f279:=Tryz.func177.trans (congrArg some (by kernel_rfl))
  f280:=Tryz.func178.trans (congrArg some (by kernel_rfl))
  f281:=Tryz.func179.trans (congrArg some (by kernel_rfl))
  f282:=Tryz.func180.trans (congrArg some (by kernel_rfl))
  f283:=Tryz.func203.trans (congrArg some (by kernel_rfl))
  f284:=Tryz.func204.trans (congrArg some (by kernel_rfl))
  f285:=Tryz.func205.trans (congrArg some (by kernel_rfl))
  f286:=Tryz.func206.trans (congrArg some (by kernel_rfl))
  f287:=Tryz.func200.trans (congrArg some (by kernel_rfl))
  f316:=Tryz.func201.trans (congrArg some (by kernel_rfl))
  f317:=Tryz.func223.trans (congrArg some (by kernel_rfl))
  f318:=Tryz.func225.trans (congrArg some (by kernel_rfl))
  f319:=Tryz.func226.trans (congrArg some (by kernel_rfl))
  f320:=Tryz.func227.trans (congrArg some (by kernel_rfl))
  f321:=Tryz.func221.trans (congrArg some (by kernel_rfl))
  f322:=Tryz.func222.trans (congrArg some (by kernel_rfl))
  f337:=Tryz.func236.trans (congrArg some (by kernel_rfl))
  f338:=Tryz.func237.trans (congrArg some (by kernel_rfl))
  t0:=Tryz.underlying0
  a0:=Tryz.isAgg0
  z0:=Tryz.sizeOf0
  v0:=Tryz.zeroValue0
  t2:=Tryz.underlying2
  a2:=Tryz.isAgg2
  z2:=Tryz.sizeOf2
  v2:=Tryz.zeroValue2
  t3:=Tryz.underlying3
  a3:=Tryz.isAgg3
  z3:=Tryz.sizeOf3
  v3:=Tryz.zeroValue3
  t4:=Tryz.underlying4
  a4:=Tryz.isAgg4
  z4:=Tryz.sizeOf4
  v4:=Tryz.zeroValue4
  t5:=Tryz.underlying5
  a5:=Tryz.isAgg5
  z5:=Tryz.sizeOf5
  v5:=Tryz.zeroValue5
  t9:=Tryz.underlying9
  a9:=Tryz.isAgg9
  z9:=Tryz.sizeOf9
  v9:=Tryz.zeroValue9
  t20:=Tryz.underlying20
  a20:=Tryz.isAgg20
  z20:=Tryz.sizeOf20
  v20:=Tryz.zeroValue20
  t21:=Tryz.underlying21
  a21:=Tryz.isAgg21
  z21:=Tryz.sizeOf21
  v21:=Tryz.zeroValue21
  t37:=Tryz.underlying86
  a37:=Tryz.isAgg86
  z37:=Tryz.sizeOf86
  v37:=Tryz.zeroValue86
  t46:=Tryz.underlying203
  a46:=Tryz.isAgg203
  z46:=Tryz.sizeOf203
  v46:=Tryz.zeroValue203
  t51:=Tryz.underlying218
  a51:=Tryz.isAgg218
  z51:=Tryz.sizeOf218
  v51:=Tryz.zeroValue218
  t53:=Tryz.underlying94
  a53:=Tryz.isAgg94
  z53:=Tryz.sizeOf94
  v53:=Tryz.zeroValue94
  t75:=Tryz.underlying169
  a75:=Tryz.isAgg169
  z75:=Tryz.sizeOf169
  v75:=Tryz.zeroValue169
  t76:=Tryz.underlying170
  a76:=Tryz.isAgg170
  z76:=Tryz.sizeOf170
  v76:=Tryz.zeroValue170
  t85:=Tryz.underlying224
  a85:=Tryz.isAgg224
  z85:=Tryz.sizeOf224
  v85:=Tryz.zeroValue224
  t127:=Tryz.underlying270
  a127:=Tryz.isAgg270
  z127:=Tryz.sizeOf270
  v127:=Tryz.zeroValue270
  t143:=Tryz.underlying271
  a143:=Tryz.isAgg271
  z143:=Tryz.sizeOf271
  v143:=Tryz.zeroValue271
  t145:=Tryz.underlying273
  a145:=Tryz.isAgg273
  z145:=Tryz.sizeOf273
  v145:=Tryz.zeroValue273
  t167:=Tryz.underlying223
  a167:=Tryz.isAgg223
  z167:=Tryz.sizeOf223
  v167:=Tryz.zeroValue223
  t168:=Tryz.underlying226
  a168:=Tryz.isAgg226
  z168:=Tryz.sizeOf226
  v168:=Tryz.zeroValue226
  t171:=Tryz.underlying249
  a171:=Tryz.isAgg249
  z171:=Tryz.sizeOf249
  v171:=Tryz.zeroValue249
  t173:=Tryz.underlying252
  a173:=Tryz.isAgg252
  z173:=Tryz.sizeOf252
  v173:=Tryz.zeroValue252
  t175:=Tryz.underlying244
  a175:=Tryz.isAgg244
  z175:=Tryz.sizeOf244
  v175:=Tryz.zeroValue244
  t210:=Tryz.underlying247
  a210:=Tryz.isAgg247
  z210:=Tryz.sizeOf247
  v210:=Tryz.zeroValue247
  t212:=Tryz.underlying275
  a212:=Tryz.isAgg275
  z212:=Tryz.sizeOf275
  v212:=Tryz.zeroValue275
  t213:=Tryz.underlying276
  a213:=Tryz.isAgg276
  z213:=Tryz.sizeOf276
  t232:=Tryz.underlying305
  a232:=Tryz.isAgg305
  z232:=Tryz.sizeOf305
  v232:=Tryz.zeroValue305
  t233:=Tryz.underlying306
  a233:=Tryz.isAgg306
  z233:=Tryz.sizeOf306
  v233:=Tryz.zeroValue306
  g15:=by kernel_rfl
  g16:=by kernel_rfl
  g17:=by kernel_rfl
  g18:=by kernel_rfl
  g19:=by kernel_rfl}
open Go.RowKit in
/-- strconv.Atoi: "Atoi is equivalent to ParseInt(s, 10, 0), converted to type int.": AT A DECIMAL NUMERAL OF AT MOST 18 BYTES: its value, and a nil error. The world behind the call: the one new row that the library's '[]byte(s)' lays. (LAID: no walk: one application.) -/
theorem Tryz.strconv_Atoi (s:ByteArray) (n:Int) (hl:s.size≤18) (h:Lib.atoi s.data.toList=some n) (w:World):
    Calls Tryz.prog 118 #[.string s] w fun e w'=>e=.returned (.tuple #[.int .i64 n,.nilIface])∧∃ t,w'=Lib.bytesWorld w 5 t:=Any.strconv_Atoi Tryz.lays172 s n hl h w
def Tryz.lays171_ren:Go.Shelf.Ren:=⟨fun|171=>119|243=>158|246=>181|283=>203|284=>204|285=>205|286=>206|129=>224|317=>223|318=>225|319=>226|320=>227|337=>236|338=>237|n=>n,fun|3=>3|9=>9|2=>2|4=>4|171=>249|0=>0|53=>94|37=>86|5=>5|173=>252|212=>275|51=>218|20=>20|213=>276|46=>203|232=>305|233=>306|n=>n,fun|17=>5|18=>6|19=>7|n=>n⟩
theorem Tryz.lays171:Go.Proofs.Lays.n171 Tryz.prog Tryz.lays171_ren:= {
  mixed:=by kernel_rfl
  f129:=Tryz.func224.trans (congrArg some (by kernel_rfl))
  f171:=Tryz.func119.trans (congrArg some (by kernel_rfl))
  f243:=Tryz.func158.trans (congrArg some (by kernel_rfl))
  f246:=Tryz.func181.trans (congrArg some (by kernel_rfl))
  f283:=Tryz.func203.trans (congrArg some (by kernel_rfl))
  f284:=Tryz.func204.trans (congrArg some (by kernel_rfl))
  f285:=Tryz.func205.trans (congrArg some (by kernel_rfl))
  f286:=Tryz.func206.trans (congrArg some (by kernel_rfl))
  f317:=Tryz.func223.trans (congrArg some (by kernel_rfl))
  f318:=Tryz.func225.trans (congrArg some (by kernel_rfl))
  f319:=Tryz.func226.trans (congrArg some (by kernel_rfl))
  f320:=Tryz.func227.trans (congrArg some (by kernel_rfl))
  f337:=Tryz.func236.trans (congrArg some (by kernel_rfl))
  f338:=Tryz.func237.trans (congrArg some (by kernel_rfl))
  t0:=Tryz.underlying0
  a0:=Tryz.isAgg0
  z0:=Tryz.sizeOf0
  v0:=Tryz.zeroValue0
  t2:=Tryz.underlying2
  a2:=Tryz.isAgg2
  z2:=Tryz.sizeOf2
  v2:=Tryz.zeroValue2
  t3:=Tryz.underlying3
  a3:=Tryz.isAgg3
  z3:=Tryz.sizeOf3
  v3:=Tryz.zeroValue3
  t4:=Tryz.underlying4
  a4:=Tryz.isAgg4
  z4:=Tryz.sizeOf4
  v4:=Tryz.zeroValue4
  t5:=Tryz.underlying5
  a5:=Tryz.isAgg5
  z5:=Tryz.sizeOf5
  v5:=Tryz.zeroValue5
  t9:=Tryz.underlying9
  a9:=Tryz.isAgg9
  z9:=Tryz.sizeOf9
  v9:=Tryz.zeroValue9
  t20:=Tryz.underlying20
  a20:=Tryz.isAgg20
  z20:=Tryz.sizeOf20
  v20:=Tryz.zeroValue20
  t37:=Tryz.underlying86
  a37:=Tryz.isAgg86
  z37:=Tryz.sizeOf86
  v37:=Tryz.zeroValue86
  t46:=Tryz.underlying203
  a46:=Tryz.isAgg203
  z46:=Tryz.sizeOf203
  v46:=Tryz.zeroValue203
  t51:=Tryz.underlying218
  a51:=Tryz.isAgg218
  z51:=Tryz.sizeOf218
  v51:=Tryz.zeroValue218
  t53:=Tryz.underlying94
  a53:=Tryz.isAgg94
  z53:=Tryz.sizeOf94
  v53:=Tryz.zeroValue94
  t171:=Tryz.underlying249
  a171:=Tryz.isAgg249
  z171:=Tryz.sizeOf249
  v171:=Tryz.zeroValue249
  t173:=Tryz.underlying252
  a173:=Tryz.isAgg252
  z173:=Tryz.sizeOf252
  v173:=Tryz.zeroValue252
  t212:=Tryz.underlying275
  a212:=Tryz.isAgg275
  z212:=Tryz.sizeOf275
  v212:=Tryz.zeroValue275
  t213:=Tryz.underlying276
  a213:=Tryz.isAgg276
  z213:=Tryz.sizeOf276
  t232:=Tryz.underlying305
  a232:=Tryz.isAgg305
  z232:=Tryz.sizeOf305
  v232:=Tryz.zeroValue305
  t233:=Tryz.underlying306
  a233:=Tryz.isAgg306
  z233:=Tryz.sizeOf306
  v233:=Tryz.zeroValue306
  g17:=by kernel_rfl
  g18:=by kernel_rfl
  g19:=by kernel_rfl}
open Go.RowKit Go.Sort Go.Lib in
/-- THE ROAD WITHOUT THE TABLE: 0 <= i < 100: NO PREMISE ON THE WORLD, AND THE WORLD IS AS IT WAS: a row that keeps its argument in that range need list no table ('laid = []'). (LAID: no walk: one application.) -/
theorem Tryz.strconv_Itoa_small (i:Nat) (hi:i<100) (w:World):
    Calls Tryz.prog 119 #[.int .i64 i] w fun e w'=>e=.returned (.string ⟨(Lib.decDigits i).toArray⟩)∧w'=w:=Any.strconv_Itoa_small Tryz.lays171 i hi w
def Tryz.laysPu14_ren:Go.Shelf.Ren:=⟨fun|14=>210|16=>200|17=>157|19=>221|20=>222|21=>177|22=>178|23=>179|24=>180|25=>201|27=>119|26=>202|28=>158|29=>181|30=>203|31=>204|32=>205|33=>206|35=>224|34=>223|36=>225|37=>226|38=>227|39=>236|40=>237|n=>n,fun|9=>9|3=>3|22=>94|24=>169|25=>244|4=>4|34=>223|5=>5|36=>203|37=>86|0=>0|39=>226|21=>21|44=>247|47=>270|50=>273|48=>271|2=>2|52=>249|55=>252|59=>275|60=>218|20=>20|61=>276|65=>305|66=>306|67=>290|n=>n,fun|0=>1|1=>2|2=>5|3=>6|4=>7|n=>n⟩
theorem Tryz.laysPu14:Go.Proofs.LaysPu.n14 Tryz.prog Tryz.laysPu14_ren:= {
  mixed:=by kernel_rfl
  f14:=Tryz.func210.trans (congrArg some (by kernel_rfl))
  f16:=Tryz.func200.trans (congrArg some (by kernel_rfl))
  f17:=Tryz.func157.trans (congrArg some (by kernel_rfl))
  f19:=Tryz.func221.trans (congrArg some (by kernel_rfl))
  f20:=Tryz.func222.trans (congrArg some (by kernel_rfl))
  f21:=Tryz.func177.trans (congrArg some (by kernel_rfl))
  f22:=Tryz.func178.trans (congrArg some (by kernel_rfl))
  f23:=Tryz.func179.trans (congrArg some (by kernel_rfl))
  f24:=Tryz.func180.trans (congrArg some (by kernel_rfl))
  f25:=Tryz.func201.trans (congrArg some (by kernel_rfl))
  f26:=Tryz.func202.trans (congrArg some (by kernel_rfl))
  f27:=Tryz.func119.trans (congrArg some (by kernel_rfl))
  f28:=Tryz.func158.trans (congrArg some (by kernel_rfl))
  f29:=Tryz.func181.trans (congrArg some (by kernel_rfl))
  f30:=Tryz.func203.trans (congrArg some (by kernel_rfl))
  f31:=Tryz.func204.trans (congrArg some (by kernel_rfl))
  f32:=Tryz.func205.trans (congrArg some (by kernel_rfl))
  f33:=Tryz.func206.trans (congrArg some (by kernel_rfl))
  f34:=Tryz.func223.trans (congrArg some (by kernel_rfl))
  f35:=Tryz.func224.trans (congrArg some (by kernel_rfl))
  f36:=Tryz.func225.trans (congrArg some (by kernel_rfl))
  f37:=Tryz.func226.trans (congrArg some (by kernel_rfl))
  f38:=Tryz.func227.trans (congrArg some (by kernel_rfl))
  f39:=Tryz.func236.trans (congrArg some (by kernel_rfl))
  f40:=Tryz.func237.trans (congrArg some (by kernel_rfl))
  t0:=Tryz.underlying0
  a0:=Tryz.isAgg0
  z0:=Tryz.sizeOf0
  v0:=Tryz.zeroValue0
  i0:=by kernel_rfl
  t2:=Tryz.underlying2
  a2:=Tryz.isAgg2
  z2:=Tryz.sizeOf2
  v2:=Tryz.zeroValue2
  i2:=by kernel_rfl
  t3:=Tryz.underlying3
  a3:=Tryz.isAgg3
  z3:=Tryz.sizeOf3
  v3:=Tryz.zeroValue3
  i3:=by kernel_rfl
  t4:=Tryz.underlying4
  a4:=Tryz.isAgg4
  z4:=Tryz.sizeOf4
  v4:=Tryz.zeroValue4
  i4:=by kernel_rfl
  t5:=Tryz.underlying5
  a5:=Tryz.isAgg5
  z5:=Tryz.sizeOf5
  v5:=Tryz.zeroValue5
  i5:=by kernel_rfl
  t9:=Tryz.underlying9
  a9:=Tryz.isAgg9
  z9:=Tryz.sizeOf9
  v9:=Tryz.zeroValue9
  i9:=by kernel_rfl
  t20:=Tryz.underlying20
  a20:=Tryz.isAgg20
  z20:=Tryz.sizeOf20
  v20:=Tryz.zeroValue20
  i20:=by kernel_rfl
  t21:=Tryz.underlying21
  a21:=Tryz.isAgg21
  z21:=Tryz.sizeOf21
  v21:=Tryz.zeroValue21
  i21:=by kernel_rfl
  t22:=Tryz.underlying94
  a22:=Tryz.isAgg94
  z22:=Tryz.sizeOf94
  v22:=Tryz.zeroValue94
  i22:=by kernel_rfl
  t24:=Tryz.underlying169
  a24:=Tryz.isAgg169
  z24:=Tryz.sizeOf169
  v24:=Tryz.zeroValue169
  i24:=by kernel_rfl
  t25:=Tryz.underlying244
  a25:=Tryz.isAgg244
  z25:=Tryz.sizeOf244
  v25:=Tryz.zeroValue244
  i25:=by kernel_rfl
  t34:=Tryz.underlying223
  a34:=Tryz.isAgg223
  z34:=Tryz.sizeOf223
  v34:=Tryz.zeroValue223
  i34:=by kernel_rfl
  c34:=by kernel_rfl
  t36:=Tryz.underlying203
  a36:=Tryz.isAgg203
  z36:=Tryz.sizeOf203
  v36:=Tryz.zeroValue203
  i36:=by kernel_rfl
  t37:=Tryz.underlying86
  a37:=Tryz.isAgg86
  z37:=Tryz.sizeOf86
  v37:=Tryz.zeroValue86
  i37:=by kernel_rfl
  t39:=Tryz.underlying226
  a39:=Tryz.isAgg226
  z39:=Tryz.sizeOf226
  v39:=Tryz.zeroValue226
  i39:=by kernel_rfl
  t44:=Tryz.underlying247
  a44:=Tryz.isAgg247
  z44:=Tryz.sizeOf247
  v44:=Tryz.zeroValue247
  i44:=by kernel_rfl
  t47:=Tryz.underlying270
  a47:=Tryz.isAgg270
  z47:=Tryz.sizeOf270
  v47:=Tryz.zeroValue270
  i47:=by kernel_rfl
  t48:=Tryz.underlying271
  a48:=Tryz.isAgg271
  z48:=Tryz.sizeOf271
  v48:=Tryz.zeroValue271
  i48:=by kernel_rfl
  t50:=Tryz.underlying273
  a50:=Tryz.isAgg273
  z50:=Tryz.sizeOf273
  v50:=Tryz.zeroValue273
  i50:=by kernel_rfl
  t52:=Tryz.underlying249
  a52:=Tryz.isAgg249
  z52:=Tryz.sizeOf249
  v52:=Tryz.zeroValue249
  i52:=by kernel_rfl
  t55:=Tryz.underlying252
  a55:=Tryz.isAgg252
  z55:=Tryz.sizeOf252
  v55:=Tryz.zeroValue252
  i55:=by kernel_rfl
  t59:=Tryz.underlying275
  a59:=Tryz.isAgg275
  z59:=Tryz.sizeOf275
  v59:=Tryz.zeroValue275
  i59:=by kernel_rfl
  t60:=Tryz.underlying218
  a60:=Tryz.isAgg218
  z60:=Tryz.sizeOf218
  v60:=Tryz.zeroValue218
  i60:=by kernel_rfl
  t61:=Tryz.underlying276
  a61:=Tryz.isAgg276
  z61:=Tryz.sizeOf276
  t65:=Tryz.underlying305
  a65:=Tryz.isAgg305
  z65:=Tryz.sizeOf305
  v65:=Tryz.zeroValue305
  i65:=by kernel_rfl
  t66:=Tryz.underlying306
  a66:=Tryz.isAgg306
  z66:=Tryz.sizeOf306
  v66:=Tryz.zeroValue306
  i66:=by kernel_rfl
  t67:=Tryz.underlying290
  a67:=Tryz.isAgg290
  z67:=Tryz.sizeOf290
  v67:=Tryz.zeroValue290
  i67:=by kernel_rfl
  g0:=by kernel_rfl
  m0:=by kernel_rfl
  g1:=by kernel_rfl
  m1:=by kernel_rfl
  g2:=by kernel_rfl
  m2:=by kernel_rfl
  g3:=by kernel_rfl
  m3:=by kernel_rfl
  g4:=by kernel_rfl
  m4:=by kernel_rfl}
open Go.RowKit in
/-- strconv.ParseUint(s, 10, 16), AT EVERY STRING THAT SPELLS A uint16 ('Lib.parseUintB 16 s.data.toList = .ok u'): u, AND NO ERROR. (LAID: no walk: one application.) -/
theorem Tryz.strconv_ParseUint_10_at16_ok (s:ByteArray) (hmax:s.size≤9223372036854775806) (u:Nat) (h:Lib.parseUintB 16 s.data.toList=.ok u) (w:World):
    Calls Tryz.prog 210 #[.string s,.int .i64 10,.int .i64 16] w fun e w'=>e=.returned (.tuple #[.int .u64 u,.nilIface])∧(w'=w∨w'=Lib.bytesWorld w 5 s):=Any.strconv_ParseUint_10_at16_ok Tryz.laysPu14 s hmax u h w
open Go.RowKit in
/-- strconv.ParseUint(s, 10, 16), AT EVERY STRING THAT IS NO ROW OF DECIMAL DIGITS (a sign is a fault): 0, AND AN ERROR THAT IS NOT nil: a *NumError in a new block N: {Func: "ParseUint", Num: s's bytes, Err: what the variable ErrSyntax holds}. Of what was there nothing has turned. (LAID: no walk: one application.) -/
theorem Tryz.strconv_ParseUint_10_at16_syntax (s:ByteArray) (hlim:s.size≤281474976710656) (h:Lib.parseUintB 16 s.data.toList=Lib.NumEnd.syntax) (ev:Value) (w:World) (hv:w.cell? ⟨1,0,none⟩=some ev) (hev:ev=.nilIface∨∃ te pe,ev=.iface te pe):
    Calls Tryz.prog 210 #[.string s,.int .i64 10,.int .i64 16] w fun e w'=>∃ N,e=.returned (.tuple #[.int .u64 0,.iface 226 (.pointer (some ⟨N,0,none⟩))])∧w.heap.size≤N∧w'.heap[N]? =some (.cells #[.string ⟨#[80,97,114,115,101,85,105,110,116]⟩,.string s,ev] 247 (0,0))∧Below w.heap.size w w':=Any.strconv_ParseUint_10_at16_syntax Tryz.laysPu14 s hlim h ev w hv hev
open Go.RowKit in
/-- strconv.ParseUint(s, 10, 16), AT EVERY NUMERAL THAT NO uint16 HOLDS: THE GREATEST uint16, AND AN ERROR THAT IS NOT nil: a *NumError in a new block N: {Func: "ParseUint", Num: s's bytes, Err: what the variable ErrRange holds}. Of what was there nothing has turned. (LAID: no walk: one application.) -/
theorem Tryz.strconv_ParseUint_10_at16_range (s:ByteArray) (hlim:s.size≤281474976710656) (h:Lib.parseUintB 16 s.data.toList=.range) (ev:Value) (w:World) (hv:w.cell? ⟨2,0,none⟩=some ev) (hev:ev=.nilIface∨∃ te pe,ev=.iface te pe):
    Calls Tryz.prog 210 #[.string s,.int .i64 10,.int .i64 16] w fun e w'=>∃ N,e=.returned (.tuple #[.int .u64 65535,.iface 226 (.pointer (some ⟨N,0,none⟩))])∧w.heap.size≤N∧w'.heap[N]? =some (.cells #[.string ⟨#[80,97,114,115,101,85,105,110,116]⟩,.string s,ev] 247 (0,0))∧Below w.heap.size w w':=Any.strconv_ParseUint_10_at16_range Tryz.laysPu14 s hlim h ev w hv hev
def Tryz.lays144_ren:Go.Shelf.Ren:=⟨fun|144=>209|143=>149|219=>115|217=>150|225=>151|224=>152|267=>153|266=>173|314=>174|n=>n,fun|9=>9|4=>4|3=>3|5=>5|46=>203|146=>219|51=>218|n=>n,fun|1=>0|n=>n⟩
theorem Tryz.lays144:Go.Proofs.Lays.n144 Tryz.prog Tryz.lays144_ren:= {
  mixed:=by kernel_rfl
  f143:=Tryz.func149.trans (congrArg some (by kernel_rfl))
  f144:=Tryz.func209.trans (congrArg some (by kernel_rfl))
  f217:=Tryz.func150.trans (congrArg some (by kernel_rfl))
  f219:=Tryz.func115.trans (congrArg some (by kernel_rfl))
  f224:=Tryz.func152.trans (congrArg some (by kernel_rfl))
  f225:=Tryz.func151.trans (congrArg some (by kernel_rfl))
  f266:=Tryz.func173.trans (congrArg some (by kernel_rfl))
  f267:=Tryz.func153.trans (congrArg some (by kernel_rfl))
  f314:=Tryz.func174.trans (congrArg some (by kernel_rfl))
  t3:=Tryz.underlying3
  a3:=Tryz.isAgg3
  z3:=Tryz.sizeOf3
  v3:=Tryz.zeroValue3
  t4:=Tryz.underlying4
  a4:=Tryz.isAgg4
  z4:=Tryz.sizeOf4
  v4:=Tryz.zeroValue4
  t5:=Tryz.underlying5
  a5:=Tryz.isAgg5
  z5:=Tryz.sizeOf5
  v5:=Tryz.zeroValue5
  t9:=Tryz.underlying9
  a9:=Tryz.isAgg9
  z9:=Tryz.sizeOf9
  v9:=Tryz.zeroValue9
  t46:=Tryz.underlying203
  a46:=Tryz.isAgg203
  z46:=Tryz.sizeOf203
  v46:=Tryz.zeroValue203
  t51:=Tryz.underlying218
  a51:=Tryz.isAgg218
  z51:=Tryz.sizeOf218
  v51:=Tryz.zeroValue218
  t146:=Tryz.underlying219
  a146:=Tryz.isAgg219
  z146:=Tryz.sizeOf219
  v146:=Tryz.zeroValue219
  g1:=by kernel_rfl}
open Go.RowKit Go.Lib in
/-- strings.Contains: "Contains reports whether substr is within s.": AT A substr OF ONE BYTE c: IT RETURNS 'decide (0 ≤ Lib.indexByte s c)'; the world is as it was. (LAID: no walk: one application.) -/
theorem Tryz.strings_Contains_one (s:ByteArray) (c:UInt8) (w:World):
    Calls Tryz.prog 209 #[.string s,.string ⟨#[c]⟩] w fun e w'=>e=.returned (.bool (decide (0≤Lib.indexByte s.data.toList c)))∧w'=w:=Any.strings_Contains_one Tryz.lays144 s c w
open Go.RowKit Go.Lib in
/-- strings.Contains: "Contains reports whether substr is within s.": IT RETURNS 'Lib.contains s substr'; the world is as it was. (LAID: no walk: one application.) -/
theorem Tryz.strings_Contains (s sub:ByteArray) (m:Int) (w:World) (hs:s.size<4294967281) (hm:w.cell? ⟨0,0,none⟩=some (.int .i64 m)):
    Calls Tryz.prog 209 #[.string s,.string sub] w fun e w'=>e=.returned (.bool (Lib.contains s.data.toList sub.data.toList))∧w'=w:=Any.strings_Contains Tryz.lays144 s sub m w hs hm
def Tryz.lays145_ren:Go.Shelf.Ren:=⟨fun|145=>28|220=>60|219=>115|217=>150|225=>151|224=>152|267=>153|266=>173|314=>174|n=>n,fun|9=>9|4=>4|59=>90|3=>3|5=>5|46=>203|146=>219|51=>218|n=>n,fun|1=>0|n=>n⟩
theorem Tryz.lays145:Go.Proofs.Lays.n145 Tryz.prog Tryz.lays145_ren:= {
  mixed:=by kernel_rfl
  f145:=Tryz.func28.trans (congrArg some (by kernel_rfl))
  f217:=Tryz.func150.trans (congrArg some (by kernel_rfl))
  f219:=Tryz.func115.trans (congrArg some (by kernel_rfl))
  f220:=Tryz.func60.trans (congrArg some (by kernel_rfl))
  f224:=Tryz.func152.trans (congrArg some (by kernel_rfl))
  f225:=Tryz.func151.trans (congrArg some (by kernel_rfl))
  f266:=Tryz.func173.trans (congrArg some (by kernel_rfl))
  f267:=Tryz.func153.trans (congrArg some (by kernel_rfl))
  f314:=Tryz.func174.trans (congrArg some (by kernel_rfl))
  t3:=Tryz.underlying3
  a3:=Tryz.isAgg3
  z3:=Tryz.sizeOf3
  v3:=Tryz.zeroValue3
  t4:=Tryz.underlying4
  a4:=Tryz.isAgg4
  z4:=Tryz.sizeOf4
  v4:=Tryz.zeroValue4
  t5:=Tryz.underlying5
  a5:=Tryz.isAgg5
  z5:=Tryz.sizeOf5
  v5:=Tryz.zeroValue5
  t9:=Tryz.underlying9
  a9:=Tryz.isAgg9
  z9:=Tryz.sizeOf9
  v9:=Tryz.zeroValue9
  t46:=Tryz.underlying203
  a46:=Tryz.isAgg203
  z46:=Tryz.sizeOf203
  v46:=Tryz.zeroValue203
  t51:=Tryz.underlying218
  a51:=Tryz.isAgg218
  z51:=Tryz.sizeOf218
  v51:=Tryz.zeroValue218
  t59:=Tryz.underlying90
  a59:=Tryz.isAgg90
  z59:=Tryz.sizeOf90
  v59:=Tryz.zeroValue90
  t146:=Tryz.underlying219
  a146:=Tryz.isAgg219
  z146:=Tryz.sizeOf219
  v146:=Tryz.zeroValue219
  g1:=by kernel_rfl}
open Go.RowKit Go.Lib in
/-- strings.Cut: "Cut slices s around the first instance of sep, returning the text before and after sep. The found result reports whether sep appears in s. If sep does not appear in s, cut returns s, "", false.": IT RETURNS 'Lib.cut s sep'; the world is as it was but for the count of draws. (LAID: no walk: one application.) -/
theorem Tryz.strings_Cut (s sep:ByteArray) (m:Int) (w:World) (hs:s.size<4294967281) (hm:w.cell? ⟨0,0,none⟩=some (.int .i64 m)):
    Calls Tryz.prog 28 #[.string s,.string sep] w fun e w'=>e=.returned (.tuple #[.string ⟨(Lib.cut s.data.toList sep.data.toList).1.toArray⟩,.string ⟨(Lib.cut s.data.toList sep.data.toList).2.1.toArray⟩,.bool (Lib.cut s.data.toList sep.data.toList).2.2])∧∃ n,w'=w.drewN n:=Any.strings_Cut Tryz.lays145 s sep m w hs hm
def Tryz.lays138_ren:Go.Shelf.Ren:=⟨fun|138=>114|195=>147|218=>148|143=>149|219=>115|217=>150|225=>151|224=>152|267=>153|266=>173|314=>174|n=>n,fun|9=>9|3=>3|4=>4|5=>5|0=>0|46=>203|146=>219|51=>218|n=>n,fun|1=>0|n=>n⟩
theorem Tryz.lays138:Go.Proofs.Lays.n138 Tryz.prog Tryz.lays138_ren:= {
  mixed:=by kernel_rfl
  f138:=Tryz.func114.trans (congrArg some (by kernel_rfl))
  f143:=Tryz.func149.trans (congrArg some (by kernel_rfl))
  f195:=Tryz.func147.trans (congrArg some (by kernel_rfl))
  f217:=Tryz.func150.trans (congrArg some (by kernel_rfl))
  f218:=Tryz.func148.trans (congrArg some (by kernel_rfl))
  f219:=Tryz.func115.trans (congrArg some (by kernel_rfl))
  f224:=Tryz.func152.trans (congrArg some (by kernel_rfl))
  f225:=Tryz.func151.trans (congrArg some (by kernel_rfl))
  f266:=Tryz.func173.trans (congrArg some (by kernel_rfl))
  f267:=Tryz.func153.trans (congrArg some (by kernel_rfl))
  f314:=Tryz.func174.trans (congrArg some (by kernel_rfl))
  t0:=Tryz.underlying0
  a0:=Tryz.isAgg0
  z0:=Tryz.sizeOf0
  v0:=Tryz.zeroValue0
  t3:=Tryz.underlying3
  a3:=Tryz.isAgg3
  z3:=Tryz.sizeOf3
  v3:=Tryz.zeroValue3
  t4:=Tryz.underlying4
  a4:=Tryz.isAgg4
  z4:=Tryz.sizeOf4
  v4:=Tryz.zeroValue4
  t5:=Tryz.underlying5
  a5:=Tryz.isAgg5
  z5:=Tryz.sizeOf5
  v5:=Tryz.zeroValue5
  t9:=Tryz.underlying9
  a9:=Tryz.isAgg9
  z9:=Tryz.sizeOf9
  v9:=Tryz.zeroValue9
  t46:=Tryz.underlying203
  a46:=Tryz.isAgg203
  z46:=Tryz.sizeOf203
  v46:=Tryz.zeroValue203
  t51:=Tryz.underlying218
  a51:=Tryz.isAgg218
  z51:=Tryz.sizeOf218
  v51:=Tryz.zeroValue218
  t146:=Tryz.underlying219
  a146:=Tryz.isAgg219
  z146:=Tryz.sizeOf219
  v146:=Tryz.zeroValue219
  g1:=by kernel_rfl}
open Go.RowKit Go.Lib in
/-- strings.Count AT A substr OF ONE BYTE ('hp'): "Count counts the number of non-overlapping instances of substr in s.": IT RETURNS 'Lib.countByte s (that byte)'; the world is as it was. ✋ NO CONTRACT HERE YET at an empty substr (utf8.RuneCountInString) or at a longer one (a loop over strings.Index). (LAID: no walk: one application.) -/
theorem Tryz.strings_Count_one (s:ByteArray) (c:UInt8) (w:World):
    Calls Tryz.prog 114 #[.string s,.string ⟨#[c]⟩] w fun e w'=>e=.returned (.int .i64 (Lib.countByte s.data.toList c))∧w'=w:=Any.strings_Count_one Tryz.lays138 s c w
def Tryz.lays149_ren:Go.Shelf.Ren:=⟨fun|149=>113|222=>146|n=>n,fun|9=>9|5=>5|3=>3|4=>4|n=>n,fun|n=>n⟩
theorem Tryz.lays149:Go.Proofs.Lays.n149 Tryz.prog Tryz.lays149_ren:= {
  mixed:=by kernel_rfl
  f149:=Tryz.func113.trans (congrArg some (by kernel_rfl))
  f222:=Tryz.func146.trans (congrArg some (by kernel_rfl))
  t3:=Tryz.underlying3
  a3:=Tryz.isAgg3
  z3:=Tryz.sizeOf3
  v3:=Tryz.zeroValue3
  t4:=Tryz.underlying4
  a4:=Tryz.isAgg4
  z4:=Tryz.sizeOf4
  v4:=Tryz.zeroValue4
  t5:=Tryz.underlying5
  a5:=Tryz.isAgg5
  z5:=Tryz.sizeOf5
  v5:=Tryz.zeroValue5
  t9:=Tryz.underlying9
  a9:=Tryz.isAgg9
  z9:=Tryz.sizeOf9
  v9:=Tryz.zeroValue9}
open Go.RowKit Go.Lib in
/-- strings.LastIndexByte: "LastIndexByte returns the index of the last instance of c in s, or -1 if c is not present in s." (LAID: no walk: one application.) -/
theorem Tryz.strings_LastIndexByte (s:ByteArray) (c:Int) (hs:s.size<4611686018427387904) (w:World):
    Calls Tryz.prog 113 #[.string s,.int .u8 c] w fun e w'=>e=.returned (.int .i64 (Lib.lastIndexByte s c))∧w'=w:=Any.strings_LastIndexByte Tryz.lays149 s c hs w
def Tryz.lays99_ren:Go.Shelf.Ren:=⟨fun|99=>182|206=>207|n=>n,fun|9=>9|4=>4|3=>3|n=>n,fun|n=>n⟩
theorem Tryz.lays99:Go.Proofs.Lays.n99 Tryz.prog Tryz.lays99_ren:= {
  mixed:=by kernel_rfl
  f99:=Tryz.func182.trans (congrArg some (by kernel_rfl))
  f206:=Tryz.func207.trans (congrArg some (by kernel_rfl))
  t3:=Tryz.underlying3
  a3:=Tryz.isAgg3
  z3:=Tryz.sizeOf3
  v3:=Tryz.zeroValue3
  t4:=Tryz.underlying4
  a4:=Tryz.isAgg4
  z4:=Tryz.sizeOf4
  v4:=Tryz.zeroValue4
  t9:=Tryz.underlying9
  a9:=Tryz.isAgg9
  z9:=Tryz.sizeOf9
  v9:=Tryz.zeroValue9}
open Go.RowKit Go.Lib in
/-- strings.HasPrefix: "HasPrefix reports whether the string s begins with prefix.": IT RETURNS 'Lib.hasPrefix s prefix'; the world is as it was. (LAID: no walk: one application.) -/
theorem Tryz.strings_HasPrefix (s p:ByteArray) (w:World):
    Calls Tryz.prog 182 #[.string s,.string p] w fun e w'=>e=.returned (.bool (Lib.hasPrefix s.data.toList p.data.toList))∧w'=w:=Any.strings_HasPrefix Tryz.lays99 s p w
def Tryz.lays147_ren:Go.Shelf.Ren:=⟨fun|147=>62|221=>116|268=>154|138=>114|143=>149|195=>147|197=>175|218=>148|219=>115|260=>199|217=>150|225=>151|224=>152|267=>153|266=>173|314=>174|n=>n,fun|9=>9|3=>3|31=>28|4=>4|0=>0|105=>221|21=>21|5=>5|46=>203|119=>265|139=>268|138=>267|146=>219|51=>218|n=>n,fun|1=>0|3=>3|4=>4|n=>n⟩
theorem Tryz.lays147:Go.Proofs.Lays.n147 Tryz.prog Tryz.lays147_ren:= {
  mixed:=by kernel_rfl
  f138:=Tryz.func114.trans (congrArg some (by kernel_rfl))
  f143:=Tryz.func149.trans (congrArg some (by kernel_rfl))
  f147:=Tryz.func62.trans (congrArg some (by kernel_rfl))
  f195:=Tryz.func147.trans (congrArg some (by kernel_rfl))
  f197:=Tryz.func175.trans (congrArg some (by kernel_rfl))
  f217:=Tryz.func150.trans (congrArg some (by kernel_rfl))
  f218:=Tryz.func148.trans (congrArg some (by kernel_rfl))
  f219:=Tryz.func115.trans (congrArg some (by kernel_rfl))
  f221:=Tryz.func116.trans (congrArg some (by kernel_rfl))
  f224:=Tryz.func152.trans (congrArg some (by kernel_rfl))
  f225:=Tryz.func151.trans (congrArg some (by kernel_rfl))
  f260:=Tryz.func199.trans (congrArg some (by kernel_rfl))
  f266:=Tryz.func173.trans (congrArg some (by kernel_rfl))
  f267:=Tryz.func153.trans (congrArg some (by kernel_rfl))
  f268:=Tryz.func154.trans (congrArg some (by kernel_rfl))
  f314:=Tryz.func174.trans (congrArg some (by kernel_rfl))
  t0:=Tryz.underlying0
  a0:=Tryz.isAgg0
  z0:=Tryz.sizeOf0
  v0:=Tryz.zeroValue0
  t3:=Tryz.underlying3
  a3:=Tryz.isAgg3
  z3:=Tryz.sizeOf3
  v3:=Tryz.zeroValue3
  t4:=Tryz.underlying4
  a4:=Tryz.isAgg4
  z4:=Tryz.sizeOf4
  v4:=Tryz.zeroValue4
  t5:=Tryz.underlying5
  a5:=Tryz.isAgg5
  z5:=Tryz.sizeOf5
  v5:=Tryz.zeroValue5
  t9:=Tryz.underlying9
  a9:=Tryz.isAgg9
  z9:=Tryz.sizeOf9
  v9:=Tryz.zeroValue9
  t21:=Tryz.underlying21
  a21:=Tryz.isAgg21
  z21:=Tryz.sizeOf21
  v21:=Tryz.zeroValue21
  t31:=Tryz.underlying28
  a31:=Tryz.isAgg28
  z31:=Tryz.sizeOf28
  v31:=Tryz.zeroValue28
  t46:=Tryz.underlying203
  a46:=Tryz.isAgg203
  z46:=Tryz.sizeOf203
  v46:=Tryz.zeroValue203
  t51:=Tryz.underlying218
  a51:=Tryz.isAgg218
  z51:=Tryz.sizeOf218
  v51:=Tryz.zeroValue218
  t105:=Tryz.underlying221
  a105:=Tryz.isAgg221
  z105:=Tryz.sizeOf221
  v105:=Tryz.zeroValue221
  t119:=Tryz.underlying265
  a119:=Tryz.isAgg265
  z119:=Tryz.sizeOf265
  t138:=Tryz.underlying267
  a138:=Tryz.isAgg267
  z138:=Tryz.sizeOf267
  v138:=Tryz.zeroValue267
  t139:=Tryz.underlying268
  a139:=Tryz.isAgg268
  z139:=Tryz.sizeOf268
  v139:=Tryz.zeroValue268
  t146:=Tryz.underlying219
  a146:=Tryz.isAgg219
  z146:=Tryz.sizeOf219
  v146:=Tryz.zeroValue219
  g1:=by kernel_rfl
  g3:=by kernel_rfl
  g4:=by kernel_rfl}
open Go.RowKit Go.Lib in
/-- strings.SplitN, n > 0. (LAID: no walk: one application.) -/
theorem Tryz.strings_SplitN (s sep:ByteArray) (n:Nat) (m:Int) (w:World) (hs:s.size<4294967281) (hm:w.cell? ⟨0,0,none⟩=some (.int .i64 m)) (h1:1≤sep.size) (hn:1≤n) (hn63:n≤9223372036854775807):
    Calls Tryz.prog 62 #[.string s,.string sep,.int .i64 n] w fun e w'=>
      e=.returned (.slice (some ⟨w.heap.size,0,none⟩) (Lib.splitB sep 0 (min n (s.size+1)-1) s).length (min n (s.size+1)))∧w'=w.alloc (.cells (Lib.cellsOf (Lib.splitB sep 0 (min n (s.size+1)-1) s) (min n (s.size+1))) 9):=Any.strings_SplitN Tryz.lays147 (by kernel_rfl) s sep n m w hs hm h1 hn hn63
def Tryz.lays152_ren:Go.Shelf.Ren:=⟨fun|152=>232|137=>124|119=>254|224=>152|225=>151|217=>150|266=>173|n=>n,fun|9=>9|21=>21|3=>3|4=>4|5=>5|0=>0|46=>203|n=>n,fun|n=>n⟩
theorem Tryz.lays152:Go.Proofs.Lays.n152 Tryz.prog Tryz.lays152_ren:= {
  mixed:=by kernel_rfl
  f119:=Tryz.func254.trans (congrArg some (by kernel_rfl))
  f137:=Tryz.func124.trans (congrArg some (by kernel_rfl))
  f152:=Tryz.func232.trans (congrArg some (by kernel_rfl))
  f217:=Tryz.func150.trans (congrArg some (by kernel_rfl))
  f224:=Tryz.func152.trans (congrArg some (by kernel_rfl))
  f225:=Tryz.func151.trans (congrArg some (by kernel_rfl))
  f266:=Tryz.func173.trans (congrArg some (by kernel_rfl))
  t0:=Tryz.underlying0
  a0:=Tryz.isAgg0
  z0:=Tryz.sizeOf0
  v0:=Tryz.zeroValue0
  t3:=Tryz.underlying3
  a3:=Tryz.isAgg3
  z3:=Tryz.sizeOf3
  v3:=Tryz.zeroValue3
  t4:=Tryz.underlying4
  a4:=Tryz.isAgg4
  z4:=Tryz.sizeOf4
  v4:=Tryz.zeroValue4
  t5:=Tryz.underlying5
  a5:=Tryz.isAgg5
  z5:=Tryz.sizeOf5
  v5:=Tryz.zeroValue5
  t9:=Tryz.underlying9
  a9:=Tryz.isAgg9
  z9:=Tryz.sizeOf9
  v9:=Tryz.zeroValue9
  t21:=Tryz.underlying21
  a21:=Tryz.isAgg21
  z21:=Tryz.sizeOf21
  v21:=Tryz.zeroValue21
  t46:=Tryz.underlying203
  a46:=Tryz.isAgg203
  z46:=Tryz.sizeOf203
  v46:=Tryz.zeroValue203}
open Go.RowKit Go.Lib in
theorem Tryz.strings_IndexRune_ascii (s:ByteArray) (r:Int) (w:World) (h0:0≤r) (h1:r<128):
    Calls Tryz.prog 232 #[.string s,.int .i32 r] w fun e w'=>e=.returned (.int .i64 (Lib.indexByte s.data.toList r.toNat.toUInt8))∧w'=w:=Any.strings_IndexRune_ascii Tryz.lays152 s r w h0 h1
def Tryz.lays264_ren:Go.Shelf.Ren:=⟨fun|264=>252|n=>n,fun|53=>94|46=>203|n=>n,fun|n=>n⟩
theorem Tryz.lays264:Go.Proofs.Lays.n264 Tryz.prog Tryz.lays264_ren:= {
  mixed:=by kernel_rfl
  f264:=Tryz.func252.trans (congrArg some (by kernel_rfl))
  t46:=Tryz.underlying203
  a46:=Tryz.isAgg203
  z46:=Tryz.sizeOf203
  v46:=Tryz.zeroValue203
  t53:=Tryz.underlying94
  a53:=Tryz.isAgg94
  z53:=Tryz.sizeOf94
  v53:=Tryz.zeroValue94}
open Go.RowKit Go.Lib in
theorem Tryz.bits_Mul64 (x y:Nat) (hx:x<18446744073709551616) (hy:y<18446744073709551616) (w:World):
    Calls Tryz.prog 252 #[.int .u64 x,.int .u64 y] w fun e w'=>e=.returned (.tuple #[.int .u64 ((x*y / 18446744073709551616:Nat):Int),.int .u64 ((x*y % 18446744073709551616:Nat):Int)])∧w'=w:=Any.bits_Mul64 Tryz.lays264 x y hx hy w
end Go.Proofs
