import Derived.Test.YtbcdaaobbebooaaGreatDoorMgd
import Derived.Shelf.Strings.Builder1
import Derived.Shelf.Strings.Builder2
import Derived.Shelf.Strings.Trim
import Derived.Shelf.Small.Utf8
import Derived.Shelf.Small.Strs
import Derived.Shelf.Small.Wraps
import Derived.Shelf.Strings.BuilderF
import Derived.Shelf.LaysM
import Derived.Shelf.Strconv.Clone
import Derived.Shelf.Strings.Search1
import Derived.Shelf.Strings.Search2
import Derived.Shelf.Strings.Search3
import Derived.Shelf.Strings.Count
import Derived.Shelf.Strings.Shaped
import Derived.Shelf.Strings.Prefix
import Derived.Shelf.Strings.Runes
import Derived.Shelf.Strings.IndexAny
import Derived.Shelf.Strings.AsciiSet
import Derived.Shelf.Strings.IndexAnyAll
import Derived.Shelf.Bits.Mul64
import Derived.Shelf.Strings.Repeat
import Derived.Shelf.Unicode.DecodeSlow
import Derived.Test.YtbcdaaobbebooaaGreatDoorProg
import Derived.Lib.IndexAny
import Derived.Lib.Bytealg
import Derived.Lib.LaidTab
import Derived.IntWalk
import Derived.Lib.IndexLaws
import Derived.Shelf.Strings.SlTrimAscii
set_option linter.unusedSimpArgs false
set_option linter.unusedVariables false
set_option maxRecDepth 100000
set_option maxHeartbeats 20000000
namespace Go.Proofs
open Go.Shelf
def Tryz.lays161_ren:Go.Shelf.Ren:=⟨fun|161=>179|231=>204|227=>186|233=>205|235=>206|228=>198|197=>225|151=>211|260=>235|152=>196|137=>87|119=>224|224=>214|225=>213|217=>121|266=>151|n=>n,fun|9=>9|4=>4|3=>3|5=>5|117=>211|116=>210|0=>0|124=>214|105=>228|21=>21|119=>236|46=>167|139=>239|138=>238|n=>n,fun|3=>4|4=>5|n=>n⟩
theorem Tryz.lays161:Go.Proofs.Lays.n161 Tryz.prog Tryz.lays161_ren:={
 mixed:=by kernel_rfl
 f119:=Tryz.func224.trans (congrArg some (by kernel_rfl))
 f137:=Tryz.func87.trans (congrArg some (by kernel_rfl))
 f151:=Tryz.func211.trans (congrArg some (by kernel_rfl))
 f152:=Tryz.func196.trans (congrArg some (by kernel_rfl))
 f161:=Tryz.func179.trans (congrArg some (by kernel_rfl))
 f197:=Tryz.func225.trans (congrArg some (by kernel_rfl))
 f217:=Tryz.func121.trans (congrArg some (by kernel_rfl))
 f224:=Tryz.func214.trans (congrArg some (by kernel_rfl))
 f225:=Tryz.func213.trans (congrArg some (by kernel_rfl))
 f227:=Tryz.func186.trans (congrArg some (by kernel_rfl))
 f228:=Tryz.func198.trans (congrArg some (by kernel_rfl))
 f231:=Tryz.func204.trans (congrArg some (by kernel_rfl))
 f233:=Tryz.func205.trans (congrArg some (by kernel_rfl))
 f235:=Tryz.func206.trans (congrArg some (by kernel_rfl))
 f260:=Tryz.func235.trans (congrArg some (by kernel_rfl))
 f266:=Tryz.func151.trans (congrArg some (by kernel_rfl))
 t0:=Tryz.underlying0
 a0:=Tryz.isAgg0
 z0:=Tryz.sizeOf0
 v0:=Tryz.zeroValue0
 t3:=Tryz.underlying3
 a3:=Tryz.isAgg3
 z3:=Tryz.sizeOf3
 v3:=Tryz.zeroValue3
 t4:=Tryz.underlying4
 a4:=Tryz.isAgg4
 z4:=Tryz.sizeOf4
 v4:=Tryz.zeroValue4
 t5:=Tryz.underlying5
 a5:=Tryz.isAgg5
 z5:=Tryz.sizeOf5
 v5:=Tryz.zeroValue5
 t9:=Tryz.underlying9
 a9:=Tryz.isAgg9
 z9:=Tryz.sizeOf9
 v9:=Tryz.zeroValue9
 t21:=Tryz.underlying21
 a21:=Tryz.isAgg21
 z21:=Tryz.sizeOf21
 v21:=Tryz.zeroValue21
 t46:=Tryz.underlying167
 a46:=Tryz.isAgg167
 z46:=Tryz.sizeOf167
 v46:=Tryz.zeroValue167
 t105:=Tryz.underlying228
 a105:=Tryz.isAgg228
 z105:=Tryz.sizeOf228
 v105:=Tryz.zeroValue228
 t116:=Tryz.underlying210
 a116:=Tryz.isAgg210
 z116:=Tryz.sizeOf210
 t117:=Tryz.underlying211
 a117:=Tryz.isAgg211
 z117:=Tryz.sizeOf211
 v117:=Tryz.zeroValue211
 t119:=Tryz.underlying236
 a119:=Tryz.isAgg236
 z119:=Tryz.sizeOf236
 t124:=Tryz.underlying214
 a124:=Tryz.isAgg214
 z124:=Tryz.sizeOf214
 v124:=Tryz.zeroValue214
 t138:=Tryz.underlying238
 a138:=Tryz.isAgg238
 z138:=Tryz.sizeOf238
 v138:=Tryz.zeroValue238
 t139:=Tryz.underlying239
 a139:=Tryz.isAgg239
 z139:=Tryz.sizeOf239
 v139:=Tryz.zeroValue239
 g3:=by kernel_rfl
 g4:=by kernel_rfl }
open Go.RowKit in
theorem Tryz.strings_TrimLeft_one(s:ByteArray)(c:UInt8)(hc:c.toNat<128)(w:World) :
  Calls Tryz.prog 179 #[.string s,.string ⟨#[c]⟩] w fun e w'=>e=.returned (.string ⟨(Lib.trimLeftB s.data.toList c).toArray⟩)/\w'=w:=Any.strings_TrimLeft_one Tryz.lays161 s c hc w
def Tryz.lays162_ren:Go.Shelf.Ren:=⟨fun|162=>159|232=>185|227=>186|234=>187|236=>188|228=>198|271=>210|151=>211|120=>228|197=>225|152=>196|260=>235|137=>87|119=>224|224=>214|225=>213|217=>121|266=>151|n=>n,fun|9=>9|4=>4|3=>3|5=>5|117=>211|116=>210|0=>0|124=>214|21=>21|105=>228|46=>167|119=>236|139=>239|138=>238|n=>n,fun|3=>4|4=>5|n=>n⟩
theorem Tryz.lays162:Go.Proofs.Lays.n162 Tryz.prog Tryz.lays162_ren:={
 mixed:=by kernel_rfl
 f119:=Tryz.func224.trans (congrArg some (by kernel_rfl))
 f120:=Tryz.func228.trans (congrArg some (by kernel_rfl))
 f137:=Tryz.func87.trans (congrArg some (by kernel_rfl))
 f151:=Tryz.func211.trans (congrArg some (by kernel_rfl))
 f152:=Tryz.func196.trans (congrArg some (by kernel_rfl))
 f162:=Tryz.func159.trans (congrArg some (by kernel_rfl))
 f197:=Tryz.func225.trans (congrArg some (by kernel_rfl))
 f217:=Tryz.func121.trans (congrArg some (by kernel_rfl))
 f224:=Tryz.func214.trans (congrArg some (by kernel_rfl))
 f225:=Tryz.func213.trans (congrArg some (by kernel_rfl))
 f227:=Tryz.func186.trans (congrArg some (by kernel_rfl))
 f228:=Tryz.func198.trans (congrArg some (by kernel_rfl))
 f232:=Tryz.func185.trans (congrArg some (by kernel_rfl))
 f234:=Tryz.func187.trans (congrArg some (by kernel_rfl))
 f236:=Tryz.func188.trans (congrArg some (by kernel_rfl))
 f260:=Tryz.func235.trans (congrArg some (by kernel_rfl))
 f266:=Tryz.func151.trans (congrArg some (by kernel_rfl))
 f271:=Tryz.func210.trans (congrArg some (by kernel_rfl))
 t0:=Tryz.underlying0
 a0:=Tryz.isAgg0
 z0:=Tryz.sizeOf0
 v0:=Tryz.zeroValue0
 t3:=Tryz.underlying3
 a3:=Tryz.isAgg3
 z3:=Tryz.sizeOf3
 v3:=Tryz.zeroValue3
 t4:=Tryz.underlying4
 a4:=Tryz.isAgg4
 z4:=Tryz.sizeOf4
 v4:=Tryz.zeroValue4
 t5:=Tryz.underlying5
 a5:=Tryz.isAgg5
 z5:=Tryz.sizeOf5
 v5:=Tryz.zeroValue5
 t9:=Tryz.underlying9
 a9:=Tryz.isAgg9
 z9:=Tryz.sizeOf9
 v9:=Tryz.zeroValue9
 t21:=Tryz.underlying21
 a21:=Tryz.isAgg21
 z21:=Tryz.sizeOf21
 v21:=Tryz.zeroValue21
 t46:=Tryz.underlying167
 a46:=Tryz.isAgg167
 z46:=Tryz.sizeOf167
 v46:=Tryz.zeroValue167
 t105:=Tryz.underlying228
 a105:=Tryz.isAgg228
 z105:=Tryz.sizeOf228
 v105:=Tryz.zeroValue228
 t116:=Tryz.underlying210
 a116:=Tryz.isAgg210
 z116:=Tryz.sizeOf210
 t117:=Tryz.underlying211
 a117:=Tryz.isAgg211
 z117:=Tryz.sizeOf211
 v117:=Tryz.zeroValue211
 t119:=Tryz.underlying236
 a119:=Tryz.isAgg236
 z119:=Tryz.sizeOf236
 t124:=Tryz.underlying214
 a124:=Tryz.isAgg214
 z124:=Tryz.sizeOf214
 v124:=Tryz.zeroValue214
 t138:=Tryz.underlying238
 a138:=Tryz.isAgg238
 z138:=Tryz.sizeOf238
 v138:=Tryz.zeroValue238
 t139:=Tryz.underlying239
 a139:=Tryz.isAgg239
 z139:=Tryz.sizeOf239
 v139:=Tryz.zeroValue239
 g3:=by kernel_rfl
 g4:=by kernel_rfl }
open Go.RowKit in
theorem Tryz.strings_TrimRight_one(s:ByteArray)(c:UInt8)(hc:c.toNat<128)(w:World)(hs:s.size<=9223372036854775807) :
  Calls Tryz.prog 159 #[.string s,.string ⟨#[c]⟩] w fun e w'=>e=.returned (.string ⟨(Lib.trimRightB s.data.toList c).toArray⟩)/\w'=w:=Any.strings_TrimRight_one Tryz.lays162 s c hc w hs
def Tryz.lays137_ren:Go.Shelf.Ren:=⟨fun|137=>87|217=>121|266=>151|n=>n,fun|9=>9|5=>5|3=>3|n=>n,fun|n=>n⟩
theorem Tryz.lays137:Go.Proofs.Lays.n137 Tryz.prog Tryz.lays137_ren:={
 mixed:=by kernel_rfl
 f137:=Tryz.func87.trans (congrArg some (by kernel_rfl))
 f217:=Tryz.func121.trans (congrArg some (by kernel_rfl))
 f266:=Tryz.func151.trans (congrArg some (by kernel_rfl))
 t3:=Tryz.underlying3
 a3:=Tryz.isAgg3
 z3:=Tryz.sizeOf3
 v3:=Tryz.zeroValue3
 t5:=Tryz.underlying5
 a5:=Tryz.isAgg5
 z5:=Tryz.sizeOf5
 v5:=Tryz.zeroValue5
 t9:=Tryz.underlying9
 a9:=Tryz.isAgg9
 z9:=Tryz.sizeOf9
 v9:=Tryz.zeroValue9 }
open Go.RowKit in
theorem Tryz.strings_IndexByte(s:ByteArray)(c:Int)(w:World) :
  Calls Tryz.prog 87 #[.string s,.int .u8 c] w fun e w'=>e=.returned (.int .i64 (Lib.indexByte s.data.toList c.toNat.toUInt8))/\w'=w:=Any.strings_IndexByte Tryz.lays137 s c w
def Tryz.lays103_ren:Go.Shelf.Ren:=⟨fun|103=>177|210=>203|206=>158|n=>n,fun|9=>9|4=>4|24=>205|3=>3|n=>n,fun|n=>n⟩
theorem Tryz.lays103:Go.Proofs.Lays.n103 Tryz.prog Tryz.lays103_ren:={
 mixed:=by kernel_rfl
 f103:=Tryz.func177.trans (congrArg some (by kernel_rfl))
 f206:=Tryz.func158.trans (congrArg some (by kernel_rfl))
 f210:=Tryz.func203.trans (congrArg some (by kernel_rfl))
 t3:=Tryz.underlying3
 a3:=Tryz.isAgg3
 z3:=Tryz.sizeOf3
 v3:=Tryz.zeroValue3
 t4:=Tryz.underlying4
 a4:=Tryz.isAgg4
 z4:=Tryz.sizeOf4
 v4:=Tryz.zeroValue4
 t9:=Tryz.underlying9
 a9:=Tryz.isAgg9
 z9:=Tryz.sizeOf9
 v9:=Tryz.zeroValue9
 t24:=Tryz.underlying205
 a24:=Tryz.isAgg205
 z24:=Tryz.sizeOf205
 v24:=Tryz.zeroValue205 }
open Go.RowKit in
theorem Tryz.strings_CutPrefix(s p:ByteArray)(w:World) :
  Calls Tryz.prog 177 #[.string s,.string p] w fun e w'=>e=.returned (.tuple #[.string ⟨(Lib.trimPrefix s.data.toList p.data.toList).toArray⟩,.bool (Lib.hasPrefix s.data.toList p.data.toList)])/\w'=w:=Any.strings_CutPrefix Tryz.lays103 s p w
def Tryz.laysM316_ren:Go.Shelf.Ren:=⟨fun|316=>207|n=>n,fun|9=>9|3=>3|4=>4|37=>67|0=>0|127=>111|5=>5|n=>n,fun|n=>n⟩
theorem Tryz.laysM316:Go.Proofs.LaysM.n316 Tryz.prog Tryz.laysM316_ren:={
 mixed:=by kernel_rfl
 f316:=Tryz.func207.trans (congrArg some (by kernel_rfl))
 t0:=Tryz.underlying0
 a0:=Tryz.isAgg0
 z0:=Tryz.sizeOf0
 v0:=Tryz.zeroValue0
 t3:=Tryz.underlying3
 a3:=Tryz.isAgg3
 z3:=Tryz.sizeOf3
 v3:=Tryz.zeroValue3
 t4:=Tryz.underlying4
 a4:=Tryz.isAgg4
 z4:=Tryz.sizeOf4
 v4:=Tryz.zeroValue4
 t9:=Tryz.underlying9
 a9:=Tryz.isAgg9
 z9:=Tryz.sizeOf9
 v9:=Tryz.zeroValue9
 t37:=Tryz.underlying67
 a37:=Tryz.isAgg67
 z37:=Tryz.sizeOf67
 v37:=Tryz.zeroValue67
 t127:=Tryz.underlying111
 a127:=Tryz.isAgg111
 z127:=Tryz.sizeOf111
 v127:=Tryz.zeroValue111
 t5:=Tryz.underlying5
 a5:=Tryz.isAgg5
 z5:=Tryz.sizeOf5
 v5:=Tryz.zeroValue5
 i0:=by kernel_rfl
 i3:=by kernel_rfl
 i4:=by kernel_rfl
 i5:=by kernel_rfl
 i9:=by kernel_rfl
 i37:=by kernel_rfl
 i127:=by kernel_rfl }
open Go.RowKit in
theorem Tryz.stringslite_Clone(s:ByteArray)(w:World)(hlim:s.size<=281474976710656) :
  Calls Tryz.prog 207 #[.string s] w fun e w'=>e=.returned (.string s)/\Below w.heap.size w w':=Any.stringslite_Clone Tryz.laysM316 s w hlim
def Tryz.lays143_ren:Go.Shelf.Ren:=⟨fun|143=>161|219=>191|217=>121|225=>213|224=>214|267=>215|266=>151|314=>229|n=>n,fun|9=>9|3=>3|4=>4|5=>5|46=>167|146=>195|51=>194|n=>n,fun|1=>2|n=>n⟩
theorem Tryz.lays143:Go.Proofs.Lays.n143 Tryz.prog Tryz.lays143_ren:={
 mixed:=by kernel_rfl
 f143:=Tryz.func161.trans (congrArg some (by kernel_rfl))
 f217:=Tryz.func121.trans (congrArg some (by kernel_rfl))
 f219:=Tryz.func191.trans (congrArg some (by kernel_rfl))
 f224:=Tryz.func214.trans (congrArg some (by kernel_rfl))
 f225:=Tryz.func213.trans (congrArg some (by kernel_rfl))
 f266:=Tryz.func151.trans (congrArg some (by kernel_rfl))
 f267:=Tryz.func215.trans (congrArg some (by kernel_rfl))
 f314:=Tryz.func229.trans (congrArg some (by kernel_rfl))
 t3:=Tryz.underlying3
 a3:=Tryz.isAgg3
 z3:=Tryz.sizeOf3
 v3:=Tryz.zeroValue3
 t4:=Tryz.underlying4
 a4:=Tryz.isAgg4
 z4:=Tryz.sizeOf4
 v4:=Tryz.zeroValue4
 t5:=Tryz.underlying5
 a5:=Tryz.isAgg5
 z5:=Tryz.sizeOf5
 v5:=Tryz.zeroValue5
 t9:=Tryz.underlying9
 a9:=Tryz.isAgg9
 z9:=Tryz.sizeOf9
 v9:=Tryz.zeroValue9
 t46:=Tryz.underlying167
 a46:=Tryz.isAgg167
 z46:=Tryz.sizeOf167
 v46:=Tryz.zeroValue167
 t51:=Tryz.underlying194
 a51:=Tryz.isAgg194
 z51:=Tryz.sizeOf194
 v51:=Tryz.zeroValue194
 t146:=Tryz.underlying195
 a146:=Tryz.isAgg195
 z146:=Tryz.sizeOf195
 v146:=Tryz.zeroValue195
 g1:=by kernel_rfl }
open Go.RowKit Go.Lib in
theorem Tryz.strings_Index(s sub:ByteArray)(m:Int)(w:World)(hs:s.size<4294967281)(hm:w.cell? ⟨2,0,none⟩=some (.int .i64 m)) :
  Calls Tryz.prog 161 #[.string s,.string sub] w fun e w'=>e=.returned (.int .i64 (Lib.index s.data.toList sub.data.toList))/\w'=w:=Any.strings_Index Tryz.lays143 s sub m w hs hm
open Go.RowKit Go.Lib in
def Tryz.lays99_ren:Go.Shelf.Ren:=⟨fun|99=>127|206=>158|n=>n,fun|9=>9|4=>4|3=>3|n=>n,fun|n=>n⟩
theorem Tryz.lays99:Go.Proofs.Lays.n99 Tryz.prog Tryz.lays99_ren:={
 mixed:=by kernel_rfl
 f99:=Tryz.func127.trans (congrArg some (by kernel_rfl))
 f206:=Tryz.func158.trans (congrArg some (by kernel_rfl))
 t3:=Tryz.underlying3
 a3:=Tryz.isAgg3
 z3:=Tryz.sizeOf3
 v3:=Tryz.zeroValue3
 t4:=Tryz.underlying4
 a4:=Tryz.isAgg4
 z4:=Tryz.sizeOf4
 v4:=Tryz.zeroValue4
 t9:=Tryz.underlying9
 a9:=Tryz.isAgg9
 z9:=Tryz.sizeOf9
 v9:=Tryz.zeroValue9 }
open Go.RowKit Go.Lib in
theorem Tryz.strings_HasPrefix(s p:ByteArray)(w:World) :
  Calls Tryz.prog 127 #[.string s,.string p] w fun e w'=>e=.returned (.bool (Lib.hasPrefix s.data.toList p.data.toList))/\w'=w:=Any.strings_HasPrefix Tryz.lays99 s p w
open Go.RowKit Go.Lib in
def Tryz.lays153_ren:Go.Shelf.Ren:=⟨fun|153=>166|152=>196|226=>197|227=>186|228=>198|137=>87|119=>224|224=>214|225=>213|217=>121|266=>151|n=>n,fun|9=>9|3=>3|4=>4|5=>5|21=>21|117=>211|116=>210|0=>0|46=>167|124=>214|n=>n,fun|n=>n⟩
theorem Tryz.lays153:Go.Proofs.Lays.n153 Tryz.prog Tryz.lays153_ren:={
 mixed:=by kernel_rfl
 f119:=Tryz.func224.trans (congrArg some (by kernel_rfl))
 f137:=Tryz.func87.trans (congrArg some (by kernel_rfl))
 f152:=Tryz.func196.trans (congrArg some (by kernel_rfl))
 f153:=Tryz.func166.trans (congrArg some (by kernel_rfl))
 f217:=Tryz.func121.trans (congrArg some (by kernel_rfl))
 f224:=Tryz.func214.trans (congrArg some (by kernel_rfl))
 f225:=Tryz.func213.trans (congrArg some (by kernel_rfl))
 f226:=Tryz.func197.trans (congrArg some (by kernel_rfl))
 f227:=Tryz.func186.trans (congrArg some (by kernel_rfl))
 f228:=Tryz.func198.trans (congrArg some (by kernel_rfl))
 f266:=Tryz.func151.trans (congrArg some (by kernel_rfl))
 t0:=Tryz.underlying0
 a0:=Tryz.isAgg0
 z0:=Tryz.sizeOf0
 v0:=Tryz.zeroValue0
 t3:=Tryz.underlying3
 a3:=Tryz.isAgg3
 z3:=Tryz.sizeOf3
 v3:=Tryz.zeroValue3
 t4:=Tryz.underlying4
 a4:=Tryz.isAgg4
 z4:=Tryz.sizeOf4
 v4:=Tryz.zeroValue4
 t5:=Tryz.underlying5
 a5:=Tryz.isAgg5
 z5:=Tryz.sizeOf5
 v5:=Tryz.zeroValue5
 t9:=Tryz.underlying9
 a9:=Tryz.isAgg9
 z9:=Tryz.sizeOf9
 v9:=Tryz.zeroValue9
 t21:=Tryz.underlying21
 a21:=Tryz.isAgg21
 z21:=Tryz.sizeOf21
 v21:=Tryz.zeroValue21
 t46:=Tryz.underlying167
 a46:=Tryz.isAgg167
 z46:=Tryz.sizeOf167
 v46:=Tryz.zeroValue167
 t116:=Tryz.underlying210
 a116:=Tryz.isAgg210
 z116:=Tryz.sizeOf210
 t117:=Tryz.underlying211
 a117:=Tryz.isAgg211
 z117:=Tryz.sizeOf211
 v117:=Tryz.zeroValue211
 t124:=Tryz.underlying214
 a124:=Tryz.isAgg214
 z124:=Tryz.sizeOf214
 v124:=Tryz.zeroValue214 }
open Go.RowKit Go.Lib in
theorem Tryz.strings_IndexAny_laid(s chars:ByteArray)(w:World)(hs:s.size<4294967281)(hcs:chars.size<4294967281)(has:∀(j:Nat) b,s.data.toList[j]?=some b->b.toNat<128)(hac:∀(j:Nat) b,chars.data.toList[j]?=some b->b.toNat<128) :
  Calls Tryz.prog 166 #[.string s,.string chars] w fun e w'=>e=.returned (.int .i64 (Lib.indexAny s.data.toList chars.data.toList))/\Below w.heap.size w w':=Any.strings_IndexAny_laid Tryz.lays153 (by kernel_rfl) s chars w hs hcs has hac
open Go.RowKit Go.Lib in
def Tryz.lays105_ren:Go.Shelf.Ren:=⟨fun|105=>111|212=>144|99=>127|165=>145|166=>113|170=>146|169=>43|263=>170|264=>171|206=>158|240=>147|241=>172|276=>173|277=>201|n=>n,fun|9=>9|3=>3|4=>4|20=>20|0=>0|46=>167|109=>168|5=>5|72=>69|76=>150|51=>194|146=>195|53=>197|148=>198|70=>66|37=>67|75=>149|127=>111|164=>200|80=>75|n=>n,fun|n=>n⟩
theorem Tryz.lays105:Go.Proofs.Lays.n105 Tryz.prog Tryz.lays105_ren:={
 mixed:=by kernel_rfl
 f99:=Tryz.func127.trans (congrArg some (by kernel_rfl))
 f105:=Tryz.func111.trans (congrArg some (by kernel_rfl))
 f165:=Tryz.func145.trans (congrArg some (by kernel_rfl))
 f166:=Tryz.func113.trans (congrArg some (by kernel_rfl))
 f169:=Tryz.func43.trans (congrArg some (by kernel_rfl))
 f170:=Tryz.func146.trans (congrArg some (by kernel_rfl))
 f206:=Tryz.func158.trans (congrArg some (by kernel_rfl))
 f212:=Tryz.func144.trans (congrArg some (by kernel_rfl))
 f240:=Tryz.func147.trans (congrArg some (by kernel_rfl))
 f241:=Tryz.func172.trans (congrArg some (by kernel_rfl))
 f263:=Tryz.func170.trans (congrArg some (by kernel_rfl))
 f264:=Tryz.func171.trans (congrArg some (by kernel_rfl))
 f276:=Tryz.func173.trans (congrArg some (by kernel_rfl))
 f277:=Tryz.func201.trans (congrArg some (by kernel_rfl))
 t0:=Tryz.underlying0
 a0:=Tryz.isAgg0
 z0:=Tryz.sizeOf0
 v0:=Tryz.zeroValue0
 t3:=Tryz.underlying3
 a3:=Tryz.isAgg3
 z3:=Tryz.sizeOf3
 v3:=Tryz.zeroValue3
 t4:=Tryz.underlying4
 a4:=Tryz.isAgg4
 z4:=Tryz.sizeOf4
 v4:=Tryz.zeroValue4
 t5:=Tryz.underlying5
 a5:=Tryz.isAgg5
 z5:=Tryz.sizeOf5
 v5:=Tryz.zeroValue5
 t9:=Tryz.underlying9
 a9:=Tryz.isAgg9
 z9:=Tryz.sizeOf9
 v9:=Tryz.zeroValue9
 t20:=Tryz.underlying20
 a20:=Tryz.isAgg20
 z20:=Tryz.sizeOf20
 v20:=Tryz.zeroValue20
 t37:=Tryz.underlying67
 a37:=Tryz.isAgg67
 z37:=Tryz.sizeOf67
 v37:=Tryz.zeroValue67
 t46:=Tryz.underlying167
 a46:=Tryz.isAgg167
 z46:=Tryz.sizeOf167
 v46:=Tryz.zeroValue167
 t51:=Tryz.underlying194
 a51:=Tryz.isAgg194
 z51:=Tryz.sizeOf194
 v51:=Tryz.zeroValue194
 t53:=Tryz.underlying197
 a53:=Tryz.isAgg197
 z53:=Tryz.sizeOf197
 v53:=Tryz.zeroValue197
 t70:=Tryz.underlying66
 a70:=Tryz.isAgg66
 z70:=Tryz.sizeOf66
 v70:=Tryz.zeroValue66
 t72:=Tryz.underlying69
 a72:=Tryz.isAgg69
 z72:=Tryz.sizeOf69
 v72:=Tryz.zeroValue69
 t75:=Tryz.underlying149
 a75:=Tryz.isAgg149
 z75:=Tryz.sizeOf149
 v75:=Tryz.zeroValue149
 t76:=Tryz.underlying150
 a76:=Tryz.isAgg150
 z76:=Tryz.sizeOf150
 v76:=Tryz.zeroValue150
 t109:=Tryz.underlying168
 a109:=Tryz.isAgg168
 z109:=Tryz.sizeOf168
 v109:=Tryz.zeroValue168
 t127:=Tryz.underlying111
 a127:=Tryz.isAgg111
 z127:=Tryz.sizeOf111
 v127:=Tryz.zeroValue111
 t146:=Tryz.underlying195
 a146:=Tryz.isAgg195
 z146:=Tryz.sizeOf195
 v146:=Tryz.zeroValue195
 t148:=Tryz.underlying198
 a148:=Tryz.isAgg198
 z148:=Tryz.sizeOf198
 v148:=Tryz.zeroValue198
 t164:=Tryz.underlying200
 a164:=Tryz.isAgg200
 z164:=Tryz.sizeOf200
 v164:=Tryz.zeroValue200 }
theorem Tryz.Builder_Extra_105:Builder.Extra Tryz.prog Tryz.lays105_ren:={
 sizeBuilder:=by kernel_rfl
 liesBuilder:=by kernel_rfl
 t5:=Tryz.underlying5
 a5:=Tryz.isAgg5
 z5:=Tryz.sizeOf5
 v5:=Tryz.zeroValue5
 infoByte:=by kernel_rfl
 cellsByte:=by kernel_rfl
 sizeByte:=by kernel_rfl
 neB5:=by decide }
open Go.RowKit Go.Lib in
theorem Tryz.strings_Repeat(s:ByteArray)(c:Nat)(w:World)(hc:c<=9223372036854775807)(hlen:s.size*c<=140737488355328) :
  Calls Tryz.prog 111 #[.string s,.int .i64 c] w fun e w'=>e=.returned (.string ⟨(Lib.repeatL s.data.toList c).toArray⟩)/\Below w.heap.size w w':=Any.strings_Repeat Tryz.lays105 Tryz.Builder_Extra_105 s c w hc hlen
end Go.Proofs
namespace Go.Proofs.YtbcdaaobbebooaaGreatDoor
open Go.RowKit Go.Tab
theorem yf(c:UInt8)(w:World):Calls Tryz.prog 122 #[.int .u8 c.toNat] w fun e w'=>e=.returned (.bool (lq c))/\w=w':=by
 have hL:lq c=(decide (65<=c.toNat/\c.toNat<=90) || (decide (97<=c.toNat/\c.toNat<=122) || decide (c.toNat=95))):=rfl;generalize lq c=b at hL;generalize c.toNat=n at hL
 have hr:((n<65\/(65<=n/\90<n/\n<95)\/(65<=n/\90<n/\n=96)\/(65<=n/\90<n/\97<=n/\122<n))/\b=false)\/(((65<=n/\n<=90)\/(65<=n/\90<n/\97<=n/\n<=122)\/(65<=n/\90<n/\n<97/\n=95))/\b=true):=by
  cases b with
  |false=>
   have h:=hL.symm;simp only[Bool.or_eq_false_iff,decide_eq_false_iff_not] at h
   left
   exact⟨by omega,rfl⟩
  |true=>
   have h:=hL.symm;simp only[Bool.or_eq_true,decide_eq_true_eq] at h
   right
   exact⟨by omega,rfl⟩
 clear hL;rcases hr with ⟨(h|⟨h1,h2,h3⟩|⟨h1,h2,rfl⟩|⟨h1,h2,h3,h4⟩),rfl⟩|⟨(⟨h1,h2⟩|⟨h1,h2,h3,h4⟩|⟨h1,h2,h3,rfl⟩),rfl⟩
 all_goals
  go_enter Tryz.func122,Tryz.ntmps122;go_wp2;go_ret;first
  |exact⟨rfl,rfl⟩
  |exact⟨iW (by simp only[ne_eq,Bool.or_eq_false_iff,Bool.or_eq_true,decide_eq_false_iff_not,decide_eq_true_eq,beq_eq_false_iff_ne,beq_iff_eq];omega),rfl⟩
theorem Ai(c:UInt8)(w:World):Calls Tryz.prog 124 #[.int .u8 c.toNat] w fun e w'=>e=.returned (.bool (dg c))/\w=w':=by
 have hL:dg c=decide (48<=c.toNat/\c.toNat<=57):=rfl;generalize dg c=b at hL;generalize c.toNat=n at hL
 have hr:((n<48\/(48<=n/\57<n))/\b=false)\/((48<=n/\n<=57)/\b=true):=by
  cases b with
  |false=>
   have h:=hL.symm;simp only[decide_eq_false_iff_not] at h
   left
   exact⟨by omega,rfl⟩
  |true=>
   have h:=hL.symm;simp only[decide_eq_true_eq] at h
   right
   exact⟨by omega,rfl⟩
 clear hL;rcases hr with ⟨(h|⟨h1,h2⟩),rfl⟩|⟨⟨h1,h2⟩,rfl⟩
 all_goals
  go_enter Tryz.func124,Tryz.ntmps124;go_wp2;go_ret;first
  |exact⟨rfl,rfl⟩
  |exact⟨iW (by simp only[ne_eq,Bool.or_eq_false_iff,Bool.or_eq_true,decide_eq_false_iff_not,decide_eq_true_eq,beq_eq_false_iff_ne,beq_iff_eq];omega),rfl⟩
theorem Dh(l:Bs)(k:Nat)(h:k<l.length):vW (l.drop k)=if Nf l[k] then vW (l.drop (k+1))+1 else 0:=by
 rw[List.drop_eq_getElem_cons h,vW]
theorem IZ(s:ByteArray)(w:World)(hs:s.size<=maxLen)(h0:0<s.size) :
  Calls Tryz.prog 123 #[.string s] w fun e w'=>e=.returned (.int .i64 ((1+vW (s.data.toList.drop 1):Nat):Int))/\w=w':=by
 unfold maxLen at hs;generalize hq:vW (s.data.toList.drop 1)=q;have HQ:=Hh hq;clear hq;go_enter Tryz.func123,Tryz.ntmps123;go_wp2_with fail;go_loop [3] (fun n=>∃k:Nat,n=.int .i64 (k:Int)/\1<=k/\k<=s.size/\k+vW (s.data.toList.drop k)=1+q) (fun n=>s.size-(intOf n).toNat)
 case atStart=>exact⟨1,rfl,Nat.le_refl _,h0,by rw[HQ.out]⟩
 case round=>
  obtain⟨k,rfl,Ae,hk,hI⟩:=hrel
  by_cases hlt:k<s.size
  ·have Ad:=Dh s.data.toList k (by rw[<-au];exact hlt)
   rw[Ad] at hI;have Ab:=yf (s[k]'hlt);have Aa:=Ai (s[k]'hlt);have Ac:Nf (s[k]'hlt)=(lq (s[k]'hlt) || dg (s[k]'hlt)):=rfl;rw[<-jd hlt,Ac] at hI;clear Ad Ac
   cases hb:lq (s[k]'hlt) with
   |true=>
    rw[hb] at hI Ab;simp only[Bool.true_or,if_true] at hI;have HI:=Hh hI;clear hI hb Aa;go_wp2_with fail;refine (Ab _).mono ?_;rintro _ _ ⟨rfl,rfl⟩;go_wp2;go_round
    case rel=>exact⟨k+1,by go_num,by omega,by omega,by have:=HI.out;omega⟩
    case measure=>simp[intOf];omega
   |false=>
    rw[hb] at hI Ab
    cases hd:dg (s[k]'hlt) with
    |true=>
     rw[hd] at hI Aa;simp only[Bool.or_true,if_true] at hI;have HI:=Hh hI;clear hI hb hd;go_wp2_with fail;refine (Ab _).mono ?_;rintro _ _ ⟨rfl,rfl⟩;go_wp2_with fail;refine (Aa _).mono ?_;rintro _ _ ⟨rfl,rfl⟩;go_wp2;go_round
     case rel=>exact⟨k+1,by go_num,by omega,by omega,by have:=HI.out;omega⟩
     case measure=>simp[intOf];omega
    |false=>
     rw[hd] at hI Aa;simp only[Bool.or_false,Bool.false_eq_true,if_false] at hI;have HI:=Hh hI;clear hI hb hd;go_wp2_with fail;refine (Ab _).mono ?_;rintro _ _ ⟨rfl,rfl⟩;go_wp2_with fail;refine (Aa _).mono ?_;rintro _ _ ⟨rfl,rfl⟩;go_wp2;go_ret;exact⟨dV (by have:=HI.out;omega),rfl⟩
  ·obtain rfl:k=s.size:=by omega
   have he:vW (s.data.toList.drop s.size)=0:=by rw[au,List.drop_length];rfl
   rw[he] at hI;have HI:=Hh hI;clear hI he;go_wp2;go_ret;exact⟨dV (by have:=HI.out;omega),rfl⟩
end Go.Proofs.YtbcdaaobbebooaaGreatDoor
namespace Go.Proofs.YtbcdaaobbebooaaGreatDoor
open Go.RowKit Go.Tab Go.Shelf
attribute [local go_sem] Oper.semAt_some
def nu(x:Nat×Nat):Bool:=decide (x.2<32)&&x.2 != 9
def uB:Option (Nat×Int)->Value
 |none=>.tuple #[.int .i64 0,.int .i64 0]
 |some x=>.tuple #[.int .i64 (x.1:Nat),.int .i64 x.2]
def PG(w:World)(pre:List (Nat×Nat))(W:World):Prop:=
 ((∀x∈pre,nu x=false)/\aa W w.heap.size #[.int .i64 0] 3/\aa W (w.heap.size+1) #[.int .i64 0] 26)/\Below w.heap.size w W
def PE(w:World)(c:Code)(pre:List (Nat×Nat))(W:World):Prop:=
 (c=.ret/\∃d x,pre=d++[x]/\(∀x∈d,nu x=false)/\nu x=true/\aa W w.heap.size #[.int .i64 (x.1:Nat)] 3/\aa W (w.heap.size+1) #[.int .i64 3] 26)/\Below w.heap.size w W
theorem qF{A B:World}{row:Option Nat}{g:Nat}{cs:Array Value}{t:TypeId}(h:aa A g cs t)(hg:A.grownBy B row)(hr:∀r,row=some r->∃o:Obj,A.heap[r]?=some o/\o.isCells=false):aa B g cs t:=
 h.kept hg (fun e'=>by
  obtain⟨o,ho,hc⟩:=hr _ e'.symm
  rw[show A.heap[g]?=_ from h] at ho;cases ho;cases hc)
theorem M8(w:World)(L:Nat)(hL:w.heap.size<=L):OwnFrom L (PG w):=
 OwnFrom.and (Own.from (fun pre A B row hs hg' hr=>⟨hs.1,qF hs.2.1 hg' hr,qF hs.2.2 hg' hr⟩) _) (ownFrom_below lz hL)
theorem M7(w:World)(L:Nat)(hL:w.heap.size<=L)(c:Code):OwnFrom L (PE w c):=
 OwnFrom.and (Own.from (fun pre A B row hs hg' hr=>by
  obtain⟨h1,d,x,h2,h3,h4,h5,h6⟩:=hs
  exact⟨h1,d,x,h2,h3,h4,qF h5 hg' hr,qF h6 hg' hr⟩) _) (ownFrom_below lz hL)
theorem wL{l:Bs}(h:∀x∈(scan (nb l) 0).1,nu x=false):wM l=match (scan (nb l) 0).2 with
  |some a=>some (a,7)
  |none=>none:=by
 unfold wM
 have:(scan (nb l) 0).1.find? (fun x=>decide (x.2<32)&&x.2 != 9)=none:=by
  rw[List.find?_eq_none];intro x hx;have:=h x hx;unfold nu at this;rw[this];simp
 rw[this];rfl
theorem BJ{l:Bs}{d:List (Nat×Nat)}{x:Nat×Nat}(h:d++[x] <+: (scan (nb l) 0).1)(h1:∀x∈d,nu x=false)(h2:nu x=true):wM l=some (x.1,3):=by
 unfold wM
 have:(scan (nb l) 0).1.find? (fun x=>decide (x.2<32)&&x.2 != 9)=some x:=by
  obtain⟨t,ht⟩:=h;rw[<-ht,List.append_assoc,List.find?_append,List.find?_append]
  have hd:d.find? (fun x=>decide (x.2<32)&&x.2 != 9)=none:=by
   rw[List.find?_eq_none];intro y hy;have:=h1 y hy;unfold nu at this;rw[this];simp
  rw[hd];unfold nu at h2;simp only[List.find?_cons,h2];rfl
 rw[this]
theorem uW{pre:List (Nat×Nat)}{x:Nat×Nat}(h:∀x∈pre,nu x=false)(hx:nu x=false):∀y∈pre++[x],nu y=false:=by
 intro y hy;rcases List.mem_append.1 hy with hy|hy
 ·exact h y hy
 ·simp at hy;subst hy;exact hx
theorem aa.putObj{W:World}{g D:Nat}{cs:Array Value}{t:TypeId}{o o':Obj}(h:aa W g cs t)(hK:W.heap[D]?=some o)(ho:o.isCells=false):aa (W.putObj D o') g cs t:=by
 have Aa:g≠D:=by
  rintro rfl;rw[show W.heap[g]?=_ from h] at hK;cases hK;cases ho
 exact (World.putObj_heap_other Aa).trans h
theorem IW{W:World}{B a b:Nat}{u v:Value}(ha:a<B)(hb:b<B):KeepsFrom B W ((W.setCell ⟨a,0,none⟩ u).setCell ⟨b,0,none⟩ v):=
 ⟨by simp[World.setCell],fun k o hk ho _=>(Below.heap_setCell _ _ _ _ (by show k≠b;omega)).trans ((Below.heap_setCell _ _ _ _ (by show k≠a;omega)).trans ho)⟩
theorem ru(s:ByteArray)(w:World)(hs:s.size<=1048576)(hT:Tab w) :
  Calls Tryz.prog 160 #[.string s] w fun e w'=>e=.returned (uB (wM s.data.toList))/\Below w.heap.size w w':=by
 refine (callsIn_wide (n:=9)).1 ?_;refine callsIn_of_wp_marks Tryz.func160 rfl trivial ?_ rfl;simp only[Tryz.ntmps160,List.size_toArray,List.length_cons,List.length_nil,Nat.reduceAdd,Nat.reduceSub,Array.replicate_succ,Array.replicate_zero,List.push_toArray,List.append_toArray,List.nil_append,List.cons_append];have HA:=Hh (wO s ((w.alloc (.cells #[.int .i64 0] 3)).alloc (.cells #[.int .i64 0] 26)))
 gi_wp2
 refine⟨trivial,(callsIn_wide.2 HA.out).mono ?_⟩;rintro e w1 ⟨rfl,hw1⟩
 have Ah:Below (w.heap.size+2) ((w.alloc (.cells #[.int .i64 0] 3)).alloc (.cells #[.int .i64 0] 26)) w1:=by
  rw[hw1];exact (Below.refl _ _).alloc (by simp) _
 have hz:w1.heap.size=w.heap.size+3:=by rw[hw1];simp
 have Ao:w1.cell? ⟨w.heap.size+2,0,none⟩=some (.string s):=by
  have h:=World.cell?_alloc_new (w:=(w.alloc (.cells #[.int .i64 0] 3)).alloc (.cells #[.int .i64 0] 26)) #[.string s] 9 0;simp only[World.size_alloc] at h;rw[hw1];exact h
 have c2:aa w1 w.heap.size #[.int .i64 0] 3:=((aa.new w _ _).alloc _).below Ah (by omega)
 have c3:aa w1 (w.heap.size+1) #[.int .i64 0] 26:=by
  have h:=(aa.new (w.alloc (.cells #[.int .i64 0] 3)) #[.int .i64 0] 26).below Ah (by simp)
  simpa using h
 have Ai:Below w.heap.size w w1:=(((Below.refl _ w).alloc lz _).alloc (by simp) _).trans (Ah.mono (by omega));have Am:=hT.below Ai hT.pos;have Ap:=hT.pos;clear HA hw1;simp only[World.size_alloc]
 gi_wp2
 have Al:w.heap.size<=w1.heap.size:=by omega
 refine wpIn_rangeFunc_ownG rfl (by omega) (gf:=212) (lb:=#[.pointer (some ⟨w.heap.size+2,0,none⟩)]) rfl trivial (enters_of Tryz.func212 (by kernel_rfl) rfl)
  (rz 8 (by omega) (w.heap.size+2) s (by omega) w1 (by omega) Ao Am) dB.trans (dB.put (w.heap.size+2) w1 (by omega) (by omega)) (Below.refl _ _) (fun _=>rfl)
  (PG w) (PE w) (M8 _ _ Al) (M7 _ _ Al)
  ⟨⟨by simp,c2,c3⟩,Ai⟩
  (fun x=>{ tmps:=#[.string s,undef,.pointer (some ⟨w.heap.size,0,none⟩),.pointer (some ⟨w.heap.size+1,0,none⟩),.int .i64 (x.1:Nat),.int .i64 (x.2:Nat),undef,.string s,.func (.func 212) #[] #[.pointer (some ⟨w.heap.size+2,0,none⟩)],.int .i64 (x.1:Nat),.int .i64 (x.2:Nat),undef,undef,undef,undef,undef,undef,undef,undef,undef,undef,undef,undef],defers:=[] }) ?assign ?body ?done ?stop
 case assign=>
  intro l x W K hK
  gi_wp2
  exact hK
 case body=>
  rintro l0 pre x W ⟨⟨hgood,hc2,hc3⟩,hB⟩ hlt;have Aj:=hc2.lt;have Ak:=hc3.lt
  by_cases hx:x.2<32/\x.2≠9
  ·have d1:decide ((x.2:Int)<32)=true:=by rw[decide_eq_true_eq];omega
   have d2:((x.2:Int) != 9)=true:=by rw[bne_iff_ne];omega
   have Ag:nu x=true:=by simp[nu,hx.1,hx.2]
   have HX:=Hh Ag;have HG:=Hh hgood;clear hx hgood Ag;obtain⟨Aa,Ab⟩:=hc2.n1 rfl;obtain⟨Ac,Ad⟩:=hc3.n1 rfl
   gi_wp2
   exact⟨IW (by omega) (by omega),⟨rfl,pre,x,rfl,HG.out,HX.out,(hc2.setI 0 _).setOther _ _ (by show w.heap.size+1≠w.heap.size;omega),(hc3.setOther _ _ (by show w.heap.size≠w.heap.size+1;omega)).setI 0 _⟩,(hB.setCell lz _).setCell (by show w.heap.size<=w.heap.size+1;omega) _⟩
  ·have Ag:nu x=false:=by
    simp only[nu,Bool.and_eq_false_iff,decide_eq_false_iff_not,bne_eq_false_iff_eq];omega
   have HX:=Hh Ag;have HG:=Hh hgood;have hr:32<=x.2\/x.2=9:=by omega
   clear hx hgood Ag;rcases hr with hr|hr
   ·have d1:decide ((x.2:Int)<32)=false:=by rw[decide_eq_false_iff_not];omega
    gi_wp2
    exact⟨KeepsFrom.refl _ _,dB.refl _ _,⟨uW HG.out HX.out,hc2,hc3⟩,hB⟩
   ·have d1:decide ((x.2:Int)<32)=true:=by rw[decide_eq_true_eq];omega
    have d2:((x.2:Int) != 9)=false:=by rw[bne_eq_false_iff_eq];omega
    gi_wp2
    exact⟨KeepsFrom.refl _ _,dB.refl _ _,⟨uW HG.out HX.out,hc2,hc3⟩,hB⟩
 case done=>
  rintro D ys W hD rfl ⟨⟨hgood,hc2,hc3⟩,hB⟩ hK;have An:=hT.below hB hT.pos;have Af:=Nb s W An (by omega);have hW:=wL (l:=s.data.toList) hgood;have Aj:=hc2.lt;have Ak:=hc3.lt;rw[show nb s.data.toList=bs s from rfl] at hW
  cases ho:(scan (bs s) 0).2 with
  |none=>
   rw[ho] at Af hW;have HW:=Hh hW;clear hW hgood ho;simp only[Od] at Af;obtain⟨Aa,Ab⟩:=hc2.n1 rfl;obtain⟨Ac,Ad⟩:=hc3.n1 rfl
   gi_wp2
   refine⟨trivial,(callsIn_wide.2 Af).mono ?_⟩;rintro e w3 ⟨rfl,rfl⟩
   gi_wp2
   have Ae:((W.setCell ⟨w.heap.size,0,none⟩ (.int .i64 0)).setCell ⟨w.heap.size+1,0,none⟩ (.int .i64 0)).heap[D]?=some (Obj.deferred (some [])):=(Below.heap_setCell _ _ _ _ (by show D≠w.heap.size+1;omega)).trans ((Below.heap_setCell _ _ _ _ (by show D≠w.heap.size;omega)).trans hK);refine⟨by simp,.inl ⟨_,_,rfl,run_takeDeferred Ae,?_⟩⟩;have e2:=(((hc2.setI 0 (.int .i64 0)).setOther ⟨w.heap.size+1,0,none⟩ (.int .i64 0) (by show w.heap.size+1≠w.heap.size;omega)).putObj (o':=.deferred none) Ae rfl).cell 0 _ rfl;have e3:=(((hc3.setOther ⟨w.heap.size,0,none⟩ (.int .i64 0) (by show w.heap.size≠w.heap.size+1;omega)).setI 0 (.int .i64 0)).putObj (o':=.deferred none) Ae rfl).cell 0 _ rfl;refine⟨uB none,by simp[results,Tryz.results160,go_sem,uB,e2,e3],by rw[HW.out],?_⟩;exact ((hB.setCell (p:=⟨w.heap.size,0,none⟩) lz _).setCell (p:=⟨w.heap.size+1,0,none⟩) (by show w.heap.size<=w.heap.size+1;omega) _).trans (belowK_b (w:=w) lz _ D _ _ (by omega) Ae rfl rfl)
  |some a=>
   rw[ho] at Af hW;have HW:=Hh hW;clear hW hgood ho;simp only[Od] at Af;obtain⟨Aa,Ab⟩:=hc2.n1 rfl;obtain⟨Ac,Ad⟩:=hc3.n1 rfl
   gi_wp2
   refine⟨trivial,(callsIn_wide.2 Af).mono ?_⟩;rintro e w3 ⟨rfl,rfl⟩
   gi_wp2
   have Ae:((W.setCell ⟨w.heap.size,0,none⟩ (.int .i64 (a:Int))).setCell ⟨w.heap.size+1,0,none⟩ (.int .i64 7)).heap[D]?=some (Obj.deferred (some [])):=(Below.heap_setCell _ _ _ _ (by show D≠w.heap.size+1;omega)).trans ((Below.heap_setCell _ _ _ _ (by show D≠w.heap.size;omega)).trans hK);refine⟨by simp,.inl ⟨_,_,rfl,run_takeDeferred Ae,?_⟩⟩;have e2:=(((hc2.setI 0 (.int .i64 (a:Int))).setOther ⟨w.heap.size+1,0,none⟩ (.int .i64 7) (by show w.heap.size+1≠w.heap.size;omega)).putObj (o':=.deferred none) Ae rfl).cell 0 _ rfl;have e3:=(((hc3.setOther ⟨w.heap.size,0,none⟩ (.int .i64 (a:Int)) (by show w.heap.size≠w.heap.size+1;omega)).setI 0 (.int .i64 7)).putObj (o':=.deferred none) Ae rfl).cell 0 _ rfl;refine⟨uB (some (a,7)),by simp[results,Tryz.results160,go_sem,uB,e2,e3],by rw[HW.out],?_⟩;exact ((hB.setCell (p:=⟨w.heap.size,0,none⟩) lz _).setCell (p:=⟨w.heap.size+1,0,none⟩) (by show w.heap.size<=w.heap.size+1;omega) _).trans (belowK_b (w:=w) lz _ D _ _ (by omega) Ae rfl rfl)
 case stop=>
  rintro D c pre W hD hpre ⟨⟨rfl,d,x,rfl,h1,h2,hc2,hc3⟩,hB⟩ hK;have hW:=BJ (l:=s.data.toList) hpre h1 h2;have Aj:=hc2.lt;have Ak:=hc3.lt;obtain⟨Aa,Ab⟩:=hc2.n1 rfl;obtain⟨Ac,Ad⟩:=hc3.n1 rfl
  gi_wp2
  refine⟨by simp,.inl ⟨_,_,rfl,run_takeDeferred hK,?_⟩⟩;have e2:=(hc2.putObj (o':=.deferred none) hK rfl).cell 0 _ rfl;have e3:=(hc3.putObj (o':=.deferred none) hK rfl).cell 0 _ rfl;refine⟨uB (some (x.1,3)),by simp[results,Tryz.results160,go_sem,uB,e2,e3],by rw[hW],?_⟩;exact hB.trans (belowK_b (w:=w) lz W D _ _ (by omega) hK rfl rfl)
end Go.Proofs.YtbcdaaobbebooaaGreatDoor
namespace Go.Proofs.YtbcdaaobbebooaaGreatDoor
theorem vN{ch:Bs}:∀{l:Bs},(∀x∈l,ch.contains x=false)->Lib.indexAny l ch = -1
 |[],_=>rfl
 | b::l,h=>by
  rw[Lib.indexAny,h b (List.mem_cons_self ..),vN (fun x hx=>h x (List.mem_cons_of_mem _ hx))];rfl
theorem uV{ch:Bs}{m:UInt8}{t:Bs}(hm:ch.contains m=true):∀{l:Bs},(∀x∈l,ch.contains x=false)->Lib.indexAny (l++m::t) ch=l.length
 |[],_=>by rw[List.nil_append,Lib.indexAny,if_pos hm];rfl
 | b::l,h=>by
  rw[List.cons_append,Lib.indexAny,h b (List.mem_cons_self ..),uV hm (fun x hx=>h x (List.mem_cons_of_mem _ hx))];have:(((l.length:Nat):Int)==-1)=false:=by rw[beq_eq_false_iff_ne];omega
  rw[this];simp
theorem zZ{c:UInt8}:∀{l:Bs},(∀x∈l,x≠c)->Lib.indexByte l c = -1
 |[],_=>rfl
 | b::l,h=>by
  have h1:(b==c)=false:=by rw[beq_eq_false_iff_ne];exact h b (List.mem_cons_self ..)
  rw[Lib.indexByte,h1,zZ (fun x hx=>h x (List.mem_cons_of_mem _ hx))];rfl
theorem Gp{c:UInt8}{t:Bs}:∀{l:Bs},(∀x∈l,x≠c)->Lib.indexByte (l++c::t) c=l.length
 |[],_=>by rw[List.nil_append,Lib.indexByte,if_pos (by simp)];rfl
 | b::l,h=>by
  have h1:(b==c)=false:=by rw[beq_eq_false_iff_ne];exact h b (List.mem_cons_self ..)
  rw[List.cons_append,Lib.indexByte,h1,Gp (fun x hx=>h x (List.mem_cons_of_mem _ hx))];have:(((l.length:Nat):Int)==-1)=false:=by rw[beq_eq_false_iff_ne];omega
  rw[this];simp
def aF(ip fr:Bs):Bs:=ip++(if fr=[] then [] else 46::fr)
section
variable {l:Bs} {neg:Bool} {ip fr mk sg pw:Bs}
theorem bq.eq'(h:bq l neg ip fr mk sg pw):l=(if neg then [45] else [])++(aF ip fr++(mk++(sg++pw))):=by
 rw[aF,List.append_assoc];exact h.eq
theorem bq.front_mem(h:bq l neg ip fr mk sg pw){x:UInt8}(hx:x∈aF ip fr):dg x=true\/x=46:=by
 rw[aF,List.mem_append] at hx;rcases hx with hx|hx
 ·exact .inl (List.all_eq_true.1 h.dip x hx)
 ·by_cases hf:fr=[]
  ·rw[if_pos hf] at hx;simp at hx
  ·rw[if_neg hf] at hx
   rcases List.mem_cons.1 hx with rfl|hx
   ·exact .inr rfl
   ·exact .inl (List.all_eq_true.1 h.dfr x hx)
theorem bq.front_any(h:bq l neg ip fr mk sg pw):∀x∈aF ip fr,([101,69]:Bs).contains x=false:=by
 intro x hx
 have h3:x≠101/\x≠69:=by
  rcases h.front_mem hx with h1|rfl
  ·exact⟨qY h1 (by decide),qY h1 (by decide)⟩
  ·decide
 simp[h3.1,h3.2]
theorem bq.cut(h:bq l neg ip fr mk sg pw):Lib.hasPrefix l [45]=neg/\Lib.trimPrefix l [45]=aF ip fr++(mk++(sg++pw)):=by
 have he:=h.eq'
 have hm:neg=false->Lib.hasPrefix l [45]=false:=by
  intro hn;subst hn;rw[he];have hi:=h.ip0;have hd:=h.dip;rw[aF]
  cases ip with
  |nil=>exact absurd rfl hi
  |cons c p=>
   have hc:=p9 hd (c:=c) rfl;show ([45]:Bs).isPrefixOf (c::_)=false;have:((45:UInt8)==c)=false:=by rw[beq_eq_false_iff_ne];exact (qY hc (by decide)).symm
   simp[List.isPrefixOf,this]
 cases neg with
 |true=>
  have:Lib.hasPrefix l [45]=true:=by rw[he];rfl
  exact⟨this,by rw[Lib.trimPrefix,if_pos this,he];rfl⟩
 |false=>
  have:=hm rfl;exact⟨this,by rw[Lib.trimPrefix,this,he];rfl⟩
theorem bq.mark_none(h:bq l neg ip fr mk sg pw)(hm:mk=[]):Lib.indexAny (aF ip fr++(mk++(sg++pw))) [101,69] = -1/\aF ip fr++(mk++(sg++pw))=aF ip fr/\oq sg pw=0:=by
 rcases h.exp with ⟨rfl,rfl,rfl⟩|⟨hm2,_,_⟩
 ·simp only[List.append_nil]
  exact⟨vN h.front_any,trivial,rfl⟩
 ·subst hm;simp at hm2
theorem bq.mark_some(h:bq l neg ip fr mk sg pw)(hm:mk≠[]):Lib.indexAny (aF ip fr++(mk++(sg++pw))) [101,69]=(aF ip fr).length/\(∃m,mk=[m])/\(sg=[]\/sg=[43]\/sg=[45])/\pw≠[]:=by
 rcases h.exp with ⟨rfl,_,_⟩|⟨hm2,hs,hp⟩
 ·exact absurd rfl hm
 ·rcases hm2 with rfl|rfl
  ·exact⟨uV rfl h.front_any,⟨_,rfl⟩,hs,hp⟩
  ·exact⟨uV rfl h.front_any,⟨_,rfl⟩,hs,hp⟩
theorem bq.point_none(h:bq l neg ip fr mk sg pw)(hf:fr=[]):Lib.indexByte (aF ip fr) 46 = -1/\aF ip fr=ip++fr:=by
 subst hf;have:aF ip []=ip:=by simp[aF]
 rw[this];exact⟨zZ (fun x hx=>qY (List.all_eq_true.1 h.dip x hx) (by decide)),by simp⟩
theorem bq.point_some(h:bq l neg ip fr mk sg pw)(hf:fr≠[]):Lib.indexByte (aF ip fr) 46=ip.length/\aF ip fr=ip++46::fr:=by
 have:aF ip fr=ip++46::fr:=by rw[aF,if_neg hf]
 rw[this];exact⟨Gp (fun x hx=>qY (List.all_eq_true.1 h.dip x hx) (by decide)),rfl⟩
theorem bq.len(h:bq l neg ip fr mk sg pw):ip.length+fr.length<=l.length/\(aF ip fr++(mk++(sg++pw))).length<=l.length/\(aF ip fr).length<=l.length/\(fr≠[]->(aF ip fr).length=ip.length+fr.length+1):=by
 have he:=congrArg List.length h.eq'
 have hf:(aF ip fr).length=ip.length+(if fr=[] then 0 else fr.length+1):=by
  rw[aF,List.length_append];split<;>simp
 rw[List.length_append] at he;have h2:(aF ip fr++(mk++(sg++pw))).length=(aF ip fr).length+(mk++(sg++pw)).length:=by rw[List.length_append]
 refine⟨?_,by omega,by omega,fun h3=>?_⟩
 ·by_cases hfr:fr=[]
  ·subst hfr;simp at hf ⊢;omega
  ·rw[if_neg hfr] at hf;omega
 ·rw[hf,if_neg h3];omega
theorem bq.ascii(h:bq l neg ip fr mk sg pw):∀x∈aF ip fr++(mk++(sg++pw)),x.toNat<128:=by
 have Aa:∀{a:Bs},a.all dg=true->∀x∈a,x.toNat<128:=fun ha x hx=>by have:=qZ (List.all_eq_true.1 ha x hx);omega
 intro x hx;rcases List.mem_append.1 hx with hx|hx
 ·rcases h.front_mem hx with h1|rfl
  ·have:=qZ h1;omega
  ·decide
 ·rcases List.mem_append.1 hx with hx|hx
  ·rcases h.exp with ⟨rfl,rfl,rfl⟩|⟨hm,hs,hp⟩
   ·simp at hx
   ·rcases hm with rfl|rfl<;>(simp at hx;subst hx;decide)
  ·rcases List.mem_append.1 hx with hx|hx
   ·rcases h.exp with ⟨rfl,rfl,rfl⟩|⟨hm,hs,hp⟩
    ·simp at hx
    ·rcases hs with rfl|rfl|rfl
     ·simp at hx
     ·simp at hx;subst hx;decide
     ·simp at hx;subst hx;decide
   ·exact Aa h.dpw x hx
end
end Go.Proofs.YtbcdaaobbebooaaGreatDoor
namespace Go.Proofs.YtbcdaaobbebooaaGreatDoor
open Go.RowKit Go.Tab
def vY(w:World):Prop:=∀j:Nat,j<63->w.cell? ⟨3,j,none⟩=some (.int .i64 (aP.getD j 9:Nat))
theorem vY.below{w w':World}{B:Nat}(h:vY w)(hb:Below B w w')(hB:3<B):vY w':=fun j hj=>(hb.cell hB).trans (h j hj)
theorem vY.pos{w:World}(h:vY w):3<w.heap.size:=World.block_lt_of_cell? w _ (h 0 (by decide))
theorem fA{c:UInt8}{n:UInt8}(h:c≠n){m:Int}(hm:(n.toNat:Int)=m):((c.toNat:Int)==m)=false:=by
 rw[beq_eq_false_iff_ne,<-hm];exact fun e=>h (UInt8.toNat_inj.1 (by omega))
theorem En(c:UInt8)(w:World):Calls Tryz.prog 175 #[.int .u8 c.toNat] w fun e w'=>e=.returned (.int .i64 (iy c:Nat))/\w=w':=by
 unfold iy
 by_cases h1:c=45
 ·subst h1
  go_enter Tryz.func175,Tryz.ntmps175;go_wp2;go_ret;exact⟨rfl,rfl⟩
 have d1:=fA h1 (m:=45) rfl
 by_cases h2:c=43
 ·subst h2
  go_enter Tryz.func175,Tryz.ntmps175;go_wp2;go_ret;exact⟨rfl,rfl⟩
 have d2:=fA h2 (m:=43) rfl
 by_cases h3:c=48
 ·subst h3
  go_enter Tryz.func175,Tryz.ntmps175;go_wp2;go_ret;exact⟨rfl,rfl⟩
 have d3:=fA h3 (m:=48) rfl;rw[if_neg h1,if_neg h2,if_neg h3]
 by_cases h4:49<=c.toNat/\c.toNat<=57
 ·rw[if_pos h4]
  go_enter Tryz.func175,Tryz.ntmps175;go_wp2;go_ret;exact⟨rfl,rfl⟩
 rw[if_neg h4];have H4:c.toNat<49\/(49<=c.toNat/\57<c.toNat):=by omega
 clear h4
 by_cases h5:c=46
 ·subst h5
  clear H4;go_enter Tryz.func175,Tryz.ntmps175;go_wp2;go_ret;exact⟨rfl,rfl⟩
 have d5:=fA h5 (m:=46) rfl;rw[if_neg h5]
 by_cases h6:c=101
 ·subst h6
  clear H4;go_enter Tryz.func175,Tryz.ntmps175;go_wp2;go_ret;exact⟨rfl,rfl⟩
 by_cases h7:c=69
 ·subst h7
  clear H4;go_enter Tryz.func175,Tryz.ntmps175;go_wp2;go_ret;exact⟨rfl,rfl⟩
 have d6:=fA h6 (m:=101) rfl;have d7:=fA h7 (m:=69) rfl;rw[if_neg (by simp[h6,h7])];clear h1 h2 h3 h5 h6 h7;rcases H4 with h4|⟨h4,h8⟩
 all_goals
  go_enter Tryz.func175,Tryz.ntmps175;go_wp2;go_ret;exact⟨rfl,rfl⟩
theorem GY(st:Nat)(w:World)(h:dh st=true):Calls Tryz.prog 176 #[.int .i64 st] w fun e w'=>e=.returned (.bool true)/\w=w':=by
 have h1:st=2\/st=3\/st=5\/st=8:=by simpa [dh] using h
 clear h;rcases h1 with rfl|rfl|rfl|rfl
 all_goals
  go_enter Tryz.func176,Tryz.ntmps176;go_wp2;go_ret;exact⟨rfl,rfl⟩
theorem JE(st:Nat)(w:World)(h:dh st=false)(hs:st<9):Calls Tryz.prog 176 #[.int .i64 st] w fun e w'=>e=.returned (.bool false)/\w=w':=by
 have h1:st=0\/st=1\/st=4\/st=6\/st=7:=by
  have h2:¬(st=2\/st=3\/st=5\/st=8):=by
   intro h3;have:dh st=true:=by simpa [dh] using h3
   rw[h] at this;cases this
  omega
 clear h hs;rcases h1 with rfl|rfl|rfl|rfl|rfl
 all_goals
  go_enter Tryz.func176,Tryz.ntmps176;go_wp2;go_ret;exact⟨rfl,rfl⟩
theorem JP:∀st:Fin 9,∀sg:Fin 7,bv st.val sg.val<=9:=by decide
theorem JR(c:UInt8):iy c<7:=by cases qR c<;>omega
theorem eT{s:ByteArray}{k:Nat}(h:k<s.size):s.data.toList.drop k=s[k]'h::s.data.toList.drop (k+1):=by
 rw[List.drop_eq_getElem_cons (by simpa using h)];rfl
theorem yJ(s:ByteArray)(w:World)(hT:vY w)(hs:s.size<=maxLen) :
  Calls Tryz.prog 152 #[.string s] w fun e w'=>e=.returned (.int .i64 (df s.data.toList:Nat))/\∃n,w'=w.drewN n:=by
 unfold maxLen at hs;go_enter Tryz.func152,Tryz.ntmps152;go_wp2_with fail;go_loopw [3,4,8] (fun g t i wr=>∃k st L:Nat,k<=s.size/\i=.int .i64 k/\t=.int .i64 st/\g=.int .i64 L/\st<9/\nZ st k L (s.data.toList.drop k)=df s.data.toList/\∃n,wr=w.drewN n) (fun _ _ i _=>s.size-(intOf i).toNat)
 case atStart=>exact⟨0,0,0,Nat.zero_le _,rfl,rfl,rfl,by decide,Jf _,0,rfl⟩
 case round=>
  obtain⟨k,st,L,hk,rfl,rfl,rfl,Ae,ha,n,rfl⟩:=hrel;have HA:=Hh ha;clear ha
  by_cases hlt:k<s.size
  ·have Ac:=JR (s[k]'hlt)
   have hF:=En (s[k]'hlt);have hi:(st:Int)<9:=by omega
   have hj:((iy (s[k]'hlt):Nat):Int)<7:=by omega
   have hc:w.cell? ⟨3,st*7+iy (s[k]'hlt),none⟩=some (.int .i64 (bv st (iy (s[k]'hlt)):Nat)):=by rw[Nat.mul_comm];exact hT _ (by omega)
   have hA:=HA.out;rw[eT hlt,gW] at hA;have Ab:=JP ⟨st,Ae⟩ ⟨_,Ac⟩;simp only at Ab;generalize iy (s[k]'hlt)=sg at hF hc hA Ab Ac hj;generalize bv st sg=st' at hc hA Ab;go_wp2_with fail
   by_cases h9:st'=9
   ·rw[if_pos h9] at hA
    have HL:=Hh hA;have d9:((st':Int)==9)=true:=by rw[beq_iff_eq];omega
    clear hA h9 Ab;go_quiet (exact (hF _).mono fun _ _ h=>⟨h.1,_,h.2.symm⟩)
    go_wp2;go_ret;exact⟨by rw[<-HL.out];rfl,_,rfl⟩
   ·rw[if_neg h9] at hA
    have d9:((st':Int)==9)=false:=by rw[beq_eq_false_iff_ne];omega
    have Aa:st'<9:=by omega
    clear h9 Ab
    by_cases hw:dh st'=true
    ·rw[if_pos hw] at hA
     have HL:=Hh hA;have hW:=fun W=>GY st' W hw;clear hA hw;go_quiet (exact (hF _).mono fun _ _ h=>⟨h.1,_,h.2.symm⟩)
     go_wp2_with ((with_reducible refine (hW _).mono ?_);rintro _ _ ⟨rfl,rfl⟩)
     go_roundw
     case rel=>exact⟨k+1,st',k+1,by omega,by go_num,rfl,by go_num,Aa,HL.out,_,rfl⟩
     case measure=>simp[intOf];omega
    ·have Ad:dh st'=false:=by simpa using hw
     rw[if_neg hw] at hA;have HL:=Hh hA;have hW:=fun W=>JE st' W Ad Aa;clear hA hw Ad;go_quiet (exact (hF _).mono fun _ _ h=>⟨h.1,_,h.2.symm⟩)
     go_wp2_with ((with_reducible refine (hW _).mono ?_);rintro _ _ ⟨rfl,rfl⟩)
     go_roundw
     case rel=>exact⟨k+1,st',L,by omega,by go_num,rfl,rfl,Aa,HL.out,_,rfl⟩
     case measure=>simp[intOf];omega
  ·obtain rfl:k=s.size:=by omega
   have hl:s.data.toList.drop s.size=[]:=by
    rw[List.drop_eq_nil_iff];exact Nat.le_refl _
   have hA:=HA.out;rw[hl] at hA;have HL:=Hh (show L=df s.data.toList from hA);clear hA HA hl;go_wp2;go_ret;exact⟨by rw[<-HL.out];rfl,_,rfl⟩
theorem nV:∀(l:Bs) (n:Nat),n<=1099511627776->l.foldl jV n<=1099511627776
 |[],_,h=>h
 | c::l,n,_=>by
  rw[List.foldl_cons];exact nV l _ (Nat.min_le_right _ _)
theorem ma{α β:Type}(f:α->β->α)(a:α)(l:List β){k:Nat}(h:k<l.length):(l.take (k+1)).foldl f a=f ((l.take k).foldl f a) l[k]:=by
 rw[List.take_add_one,List.getElem?_eq_getElem h,List.foldl_append];rfl
theorem Mo(pw:Bs)(n:Nat)(h:pw.foldl jV 0<=n)(hn:n<=1099511627776:=by omega):Ending.returned (Value.int .i64 (wrap64 (-((pw.foldl jV 0:Nat):Int))))=Ending.returned (Value.int .i64 (oq [45] pw)):=by
 rw[oq,NB,if_pos rfl]
 congr 2
 unfold wrap64;omega
theorem CE(S:ByteArray)(sg pw:Bs)(w:World)(hS:S.data.toList=sg++pw)(hsg:sg=[]\/sg=[43]\/sg=[45])(hd:pw.all dg=true)(h0:pw≠[])(hl:S.size<=1048576) :
  Calls Tryz.prog 178 #[.string S] w fun e w'=>e=.returned (.int .i64 (oq sg pw))/\w=w':=by
 have Ah:=Hh hd;have hz:0<pw.length:=List.length_pos_iff.2 h0;have Ae:=au S;rw[hS,List.length_append] at Ae;rcases hsg with rfl|rfl|rfl
 ·have Ac:Hid (S.size=pw.length):=Hh (by simpa using Ae)
  have Aa:0<S.size:=by rw[Ac.out];exact hz
  have Aj:∀k (h1:k<S.size) (h2:k<pw.length),S[k]'h1=pw[k]:=fun k h1 h2=>by
   rw[jd];have:=congrArg (fun l=>l[k]?) hS;simp only[List.nil_append] at this;rw[List.getElem?_eq_getElem h2,List.getElem?_eq_getElem (by rw[<-au];exact h1)] at this;exact Option.some.inj this
  have HR:=Hh Aj;clear Aj;have h1:=HR.out 0 Aa hz;have h2:=qZ (List.all_eq_true.1 hd pw[0] (List.getElem_mem _));have d1:(((S[0]'Aa).toNat:Int)==45)=false:=by rw[h1,beq_eq_false_iff_ne];omega
  have d2:(((S[0]'Aa).toNat:Int)==43)=false:=by rw[h1,beq_eq_false_iff_ne];omega
  clear h1 h2 hd h0 Ae hS;go_enter Tryz.func178,Tryz.ntmps178;go_wp2_with fail;go_loop [4,19] (fun n i=>∃k:Nat,k<=S.size/\i=.int .i64 k/\n=.int .i64 ((pw.take k).foldl jV 0:Nat)) (fun _ i=>S.size-(intOf i).toNat)
  case atStart=>exact⟨0,Nat.zero_le _,rfl,rfl⟩
  case round=>
   obtain⟨k,hk,rfl,rfl⟩:=hrel
   by_cases hlt:k<S.size
   ·have Ad:k<pw.length:=by rw[<-Ac.out];exact hlt
    have hb:=nV (pw.take k) 0 (by omega);have hf:=Hh (ma jV 0 pw Ad);have hg:S[k]'hlt=pw[k]:=HR.out k hlt Ad;have hd:=qZ (List.all_eq_true.1 Ah.out pw[k] (List.getElem_mem _));have hF:Hid (jV ((pw.take k).foldl jV 0) pw[k]=(pw.take (k+1)).foldl jV 0):=Hh hf.out.symm;clear hf;generalize (pw.take k).foldl jV 0=m at hb hF ⊢;generalize pw[k]=c at hg hd hF;clear Ad;go_wp2;go_round
    case rel=>exact⟨k+1,by omega,by go_num,by rw[<-hF.out];congr 1;unfold jV;omega⟩
    case measure=>simp[intOf];omega
   ·obtain rfl:k=S.size:=by omega
    have hf:Hid (pw.take S.size=pw):=Hh (by rw[Ac.out];exact List.take_length);go_wp2;go_ret;refine⟨?_,rfl⟩;rw[hf.out];rfl
 ·have Aa:0<S.size:=by rw[Ae];simp;omega
  have Ab:S[0]'Aa=43:=by
   rw[jd];have:=congrArg (fun l=>l[0]?) hS;rw[List.singleton_append] at this;simp only[List.getElem?_cons_zero] at this;rw[List.getElem?_eq_getElem (by rw[<-au];exact Aa)] at this;exact Option.some.inj this
  obtain⟨R,hR⟩:∃R,S.extract 1 S.size=R:=⟨_,rfl⟩
  have Af:R.data.toList=pw:=by
   rw[<-hR,fe,au,List.take_length,hS];rfl
  have Ac:Hid (R.size=pw.length):=Hh (by rw[au,Af]);have Al:R.size<=1048576:=by rw[Ac.out];simp at Ae;omega
  have Ag:S.size=R.size+1:=by rw[Ac.out,Ae];simp;omega
  have HR:Hid (∀k (h1:k<R.size) (h2:k<pw.length),R[k]'h1=pw[k]):=Hh (fun k h1 h2=>by
   subst Af;rfl)
  have HS:=Hh Ag;have Ak:1<=S.size:=by omega
  have d1:(((S[0]'Aa).toNat:Int)==45)=decide (43=45):=by rw[Ab];rfl
  have d2:(((S[0]'Aa).toNat:Int)==43)=decide (43=43):=by rw[Ab];rfl
  have Ai:S.size-1=R.size:=by omega
  clear hd h0 Ae hS Ab Af Ag;go_enter Tryz.func178,Tryz.ntmps178;go_wp2_with fail;go_loop [4,19] (fun n i=>∃k:Nat,k<=R.size/\i=.int .i64 k/\n=.int .i64 ((pw.take k).foldl jV 0:Nat)) (fun _ i=>R.size-(intOf i).toNat)
  case atStart=>exact⟨0,Nat.zero_le _,rfl,rfl⟩
  case round=>
   obtain⟨k,hk,rfl,rfl⟩:=hrel
   by_cases hlt:k<R.size
   ·have Ad:k<pw.length:=by rw[<-Ac.out];exact hlt
    have hb:=nV (pw.take k) 0 (by omega);have hf:=Hh (ma jV 0 pw Ad);have hg:R[k]'hlt=pw[k]:=HR.out k hlt Ad;have hd:=qZ (List.all_eq_true.1 Ah.out pw[k] (List.getElem_mem _));have hF:Hid (jV ((pw.take k).foldl jV 0) pw[k]=(pw.take (k+1)).foldl jV 0):=Hh hf.out.symm;clear hf;generalize (pw.take k).foldl jV 0=m at hb hF ⊢;generalize pw[k]=c at hg hd hF;clear Ad;go_wp2;go_round
    case rel=>exact⟨k+1,by omega,by go_num,by rw[<-hF.out];congr 1;unfold jV;omega⟩
    case measure=>simp[intOf];omega
   ·obtain rfl:k=R.size:=by omega
    have hf:Hid (pw.take R.size=pw):=Hh (by rw[Ac.out];exact List.take_length);go_wp2;go_ret;refine⟨?_,rfl⟩;rw[hf.out];rfl
 ·have Aa:0<S.size:=by rw[Ae];simp;omega
  have Ab:S[0]'Aa=45:=by
   rw[jd];have:=congrArg (fun l=>l[0]?) hS;rw[List.singleton_append] at this;simp only[List.getElem?_cons_zero] at this;rw[List.getElem?_eq_getElem (by rw[<-au];exact Aa)] at this;exact Option.some.inj this
  obtain⟨R,hR⟩:∃R,S.extract 1 S.size=R:=⟨_,rfl⟩
  have Af:R.data.toList=pw:=by
   rw[<-hR,fe,au,List.take_length,hS];rfl
  have Ac:Hid (R.size=pw.length):=Hh (by rw[au,Af]);have Al:R.size<=1048576:=by rw[Ac.out];simp at Ae;omega
  have Ag:S.size=R.size+1:=by rw[Ac.out,Ae];simp;omega
  have HR:Hid (∀k (h1:k<R.size) (h2:k<pw.length),R[k]'h1=pw[k]):=Hh (fun k h1 h2=>by
   subst Af;rfl)
  have HS:=Hh Ag;have Ak:1<=S.size:=by omega
  have d1:(((S[0]'Aa).toNat:Int)==45)=decide (45=45):=by rw[Ab];rfl
  have d2:(((S[0]'Aa).toNat:Int)==43)=decide (45=43):=by rw[Ab];rfl
  have Ai:S.size-1=R.size:=by omega
  clear hd h0 Ae hS Ab Af Ag;go_enter Tryz.func178,Tryz.ntmps178;go_wp2_with fail;go_loop [4,19] (fun n i=>∃k:Nat,k<=R.size/\i=.int .i64 k/\n=.int .i64 ((pw.take k).foldl jV 0:Nat)) (fun _ i=>R.size-(intOf i).toNat)
  case atStart=>exact⟨0,Nat.zero_le _,rfl,rfl⟩
  case round=>
   obtain⟨k,hk,rfl,rfl⟩:=hrel
   by_cases hlt:k<R.size
   ·have Ad:k<pw.length:=by rw[<-Ac.out];exact hlt
    have hb:=nV (pw.take k) 0 (by omega);have hf:=Hh (ma jV 0 pw Ad);have hg:R[k]'hlt=pw[k]:=HR.out k hlt Ad;have hd:=qZ (List.all_eq_true.1 Ah.out pw[k] (List.getElem_mem _));have hF:Hid (jV ((pw.take k).foldl jV 0) pw[k]=(pw.take (k+1)).foldl jV 0):=Hh hf.out.symm;clear hf;generalize (pw.take k).foldl jV 0=m at hb hF ⊢;generalize pw[k]=c at hg hd hF;clear Ad;go_wp2;go_round
    case rel=>exact⟨k+1,by omega,by go_num,by rw[<-hF.out];congr 1;unfold jV;omega⟩
    case measure=>simp[intOf];omega
   ·obtain rfl:k=R.size:=by omega
    have hf:Hid (pw.take R.size=pw):=Hh (by rw[Ac.out];exact List.take_length);go_wp2;go_ret;refine⟨?_,rfl⟩;rw[hf.out];exact Mo _ _ (nV pw 0 (by omega))
theorem Ja(s:ByteArray)(w:World)(hs:s.size<=1048576):Calls Tryz.prog 181 #[.string s] w fun e w'=>e=.returned (.string s)/\Below w.heap.size w w':=by
 have hF:=fun W=>Go.Proofs.Tryz.stringslite_Clone s W (by omega);go_enter Tryz.func181,Tryz.ntmps181;go_wp2_with fail;refine (hF _).mono ?_;rintro _ w1 ⟨rfl,hb⟩;go_wp2;go_ret;exact⟨rfl,hb⟩
def dJ(r:(Bool×Bs×Int)×Int):Value:=.tuple #[.agg #[.bool r.1.1,.string (av r.1.2.1),.int .i64 r.1.2.2],.int .i64 r.2]
theorem Jm(s:ByteArray)(w:World)(hT:vY w)(hs:s.size<=1048576)(h:s.data.toList=[]\/df s.data.toList≠s.size) :
  Calls Tryz.prog 153 #[.string s] w fun e w'=>e=.returned (dJ ((false,[],0),3))/\Below w.heap.size w w':=by
 by_cases h0:s.size=0
 ·have hd:s=⟨#[]⟩:=Fh h0
  subst hd;clear h h0 hs;go_enter Tryz.func153,Tryz.ntmps153;go_wp2;refine bodyPost_ret (v:=dJ ((false,[],0),3)) (by simp[results,Tryz.results153,go_sem,dJ,av]) rfl ⟨rfl,?_⟩
  (with_reducible repeat' first|refine Below.setCell ?_ ?_ _|refine Below.alloc ?_ ?_ _|refine Below.drew ?_|refine ah ?_ _|assumption|exact Below.refl _ _|(simp only[World.size_alloc,World.size_setCell,World.size_drew];first|done|omega)|omega)
 ·have Aa:=A7 h0
  have hn:((df s.data.toList:Int) != (s.size:Int))=true:=by
   rcases h with h|h
   ·rw[au,h] at h0;exact absurd rfl h0
   ·rw[bne_iff_ne];omega
  have hS:=yJ s (w.alloc (.cells #[.bool false,.string ⟨#[]⟩,.int .i64 0] 122)) (fun j hj=>by rw[World.cell?_alloc_past _ _ _ hT.pos];exact hT j hj) (by unfold maxLen;omega);clear h h0;go_enter Tryz.func153,Tryz.ntmps153;go_wp2_with fail;refine hS.mono ?_;rintro _ w1 ⟨rfl,n,rfl⟩;go_wp2;refine bodyPost_ret (v:=dJ ((false,[],0),3)) (by simp[results,Tryz.results153,go_sem,dJ,av]) rfl ⟨rfl,?_⟩
  (with_reducible repeat' first|refine Below.setCell ?_ ?_ _|refine Below.alloc ?_ ?_ _|refine Below.drew ?_|refine ah ?_ _|assumption|exact Below.refl _ _|(simp only[World.size_alloc,World.size_setCell,World.size_drew];first|done|omega)|omega)
theorem CG(sg pw:Bs) : -1099511627776<=oq sg pw/\oq sg pw<=1099511627776:=by
 have:=nV pw 0 (by omega);unfold oq NB;split<;>omega
theorem LZ(l:Bs)(k:Nat)(h:k<(av l).size):(av l)[k]'h=l[k]'(by rw[<-aU];exact h):=rfl
theorem wW(l:Bs)(a b:Nat):(av l).extract a b=av ((l.take b).drop a):=ji (by rw[fe,bi,bi])
theorem Df(l:Bs)(v:Int)(W:World)(hl:l.length<=1048576)(ha:∀x∈l,x.toNat<128)(hv:Lib.indexAny l [101,69]=v) :
  Calls Tryz.prog 166 #[.string (av l),.string ⟨#[101,69]⟩] W fun e w'=>e=.returned (.int .i64 v)/\Below W.heap.size W w':=by
 subst hv;refine Go.Proofs.Tryz.strings_IndexAny_laid (av l) ⟨#[101,69]⟩ W (by rw[aU];omega) (by decide) (fun j b hb=>ha b (List.mem_of_getElem? hb)) (fun j b hb=>?_);have hm:b∈([101,69]:Bs):=List.mem_of_getElem? hb;simp at hm
 rcases hm with rfl|rfl<;>decide
theorem FE(s:ByteArray)(neg:Bool)(ip fr mk sg pw:Bs)(w:World)(hT:vY w)(hs:s.size<=1048576)(h:bq s.data.toList neg ip fr mk sg pw) :
  Calls Tryz.prog 153 #[.string s] w fun e w'=>e=.returned (dJ (gI neg ip fr (oq sg pw)))/\Below w.heap.size w w':=by
 have Bt:s.toList.isEmpty=false:=A7 (by rw[au];exact oC h.scan.2)
 have hn:((df s.data.toList:Int) != (s.size:Int))=false:=by
  rw[h.scan.1,au];exact bne_self_eq_false _
 have hS:=yJ s (w.alloc (.cells #[.bool false,.string ⟨#[]⟩,.int .i64 0] 122)) (fun j hj=>by rw[World.cell?_alloc_past _ _ _ hT.pos];exact hT j hj) (by unfold maxLen;omega);have As:=h.len;have hC:∀W,Calls Tryz.prog 177 #[.string s,.string ⟨#[45]⟩] W fun e w'=>e=.returned (.tuple #[.string (av (aF ip fr++(mk++(sg++pw)))),.bool neg])/\W=w':=fun W=>(Go.Proofs.Tryz.strings_CutPrefix s ⟨#[45]⟩ W).mono fun e w' ⟨h1,h2⟩=>⟨by rw[h1];show Ending.returned (.tuple #[.string ⟨(Lib.trimPrefix s.data.toList [45]).toArray⟩,.bool (Lib.hasPrefix s.data.toList [45])])=_;rw[h.cut.1,h.cut.2];rfl,h2.symm⟩;obtain⟨p,hp⟩:∃p,oq sg pw=p:=⟨_,rfl⟩;have Bh:=CG sg pw;rw[hp] at Bh;have hP:=Hh hp;have Aq:=wQ (ip++fr);have A5:(gM ip fr).length<=(iV ip fr).length:=BN _;rw[List.length_append] at Aq;change (iV ip fr).length<=_ at Aq;rw[<-au] at As;obtain⟨l1,l2,l3,l4⟩:=As;have Ar:∀W,Calls Tryz.prog 179 #[.string (av (ip++fr)),.string ⟨#[48]⟩] W fun e w'=>e=.returned (.string (av (iV ip fr)))/\W=w':=fun W=>(Go.Proofs.Tryz.strings_TrimLeft_one (av (ip++fr)) 48 (by decide) W).mono fun _ _ h=>⟨h.1,h.2.symm⟩;have Ak:∀W,Calls Tryz.prog 159 #[.string (av (iV ip fr)),.string ⟨#[48]⟩] W fun e w'=>e=.returned (.string (av (gM ip fr)))/\W=w':=fun W=>(Go.Proofs.Tryz.strings_TrimRight_one (av (iV ip fr)) 48 (by decide) W (by rw[aU];omega)).mono fun _ _ h=>⟨h.1,h.2.symm⟩
 have A6:=fun W v (hv:Lib.indexAny (aF ip fr++(mk++(sg++pw))) [101,69]=v)=>Df (aF ip fr++(mk++(sg++pw))) v W (by omega) h.ascii hv
 by_cases hm:mk=[]
 focus
  obtain⟨m1,m2,m3⟩:=h.mark_none hm;have hI:=fun W=>A6 W _ m1;rw[hp] at m3;rw[m2] at hC hI;clear A6 m1 m2
  by_cases hf:fr=[]
  focus
   obtain⟨p1,p2⟩:=h.point_none hf;have hB:∀W,Calls Tryz.prog 87 #[.string (av (aF ip fr)),.int .u8 46] W fun e w'=>e=.returned (.int .i64 (-1))/\W=w':=fun W=>(Go.Proofs.Tryz.strings_IndexByte (av (aF ip fr)) 46 W).mono fun e w' ⟨h1,h2⟩=>⟨by rw[h1];show Ending.returned (.int .i64 (Lib.indexByte (aF ip fr) 46))=_;rw[p1],h2.symm⟩;rw[p2] at hB hC hI;have Bc:fr.length=0:=by rw[hf];rfl
   have Aj:(av (iV ip fr)).size=(iV ip fr).length:=aU _;have Ai:(av (gM ip fr)).size=(gM ip fr).length:=aU _;clear h hm hf p1 p2 hp l4;generalize av (ip++fr)=G at *;generalize hD:av (iV ip fr)=D at Ar Ak Aj;generalize hCe:av (gM ip fr)=C at Ak Ai;have HC:=Hh hCe;have SD:=Hh Aj;have SC:=Hh Ai;have A8:C.size<=D.size:=by omega
   have A9:D.size<=1048576:=by omega
   clear hD hCe Aj Ai Aq A5;obtain⟨E,hE⟩:∃E:Int,E=(D.size:Int)-(C.size:Int):=⟨_,rfl⟩;have Ah:∀n,aa ((w.alloc (.cells #[.bool false,.string ⟨#[]⟩,.int .i64 0] 122)).drewN n) w.heap.size #[.bool false,.string ⟨#[]⟩,.int .i64 0] 122:=fun n=>(aa.new w _ _).drewN n;have Ag:∀n,Below w.heap.size w ((w.alloc (.cells #[.bool false,.string ⟨#[]⟩,.int .i64 0] 122)).drewN n):=fun n=>ah ((Below.refl _ w).alloc lz _) n;go_enter Tryz.func153,Tryz.ntmps153;go_wp2_with fail;refine hS.mono ?_;clear hS;rintro _ w1 ⟨rfl,n,rfl⟩;go_wp2_with fail;refine (hC _).mono ?_;rintro _ _ ⟨rfl,rfl⟩;go_wp2_with fail;refine (hI _).mono ?_;rintro _ w4 ⟨rfl,hb⟩;have hx:=(Ah n).below hb (Ah n).lt;have hb:=(Ag n).trans (hb.mono (Ag n).size);clear Ah Ag;obtain⟨Aa,Ad,Ab,Ae,Ac,Af⟩:=hx.n3 rfl;go_wp2_with fail;refine (hB _).mono ?_;rintro _ _ ⟨rfl,rfl⟩
  rotate_left
  focus
   obtain⟨p1,p2⟩:=h.point_some hf;have hB:∀W,Calls Tryz.prog 87 #[.string (av (aF ip fr)),.int .u8 46] W fun e w'=>e=.returned (.int .i64 (ip.length:Nat))/\W=w':=fun W=>(Go.Proofs.Tryz.strings_IndexByte (av (aF ip fr)) 46 W).mono fun e w' ⟨h1,h2⟩=>⟨by rw[h1];show Ending.returned (.int .i64 (Lib.indexByte (aF ip fr) 46))=_;rw[p1],h2.symm⟩;have AC:=l4 hf;have AD:(av (aF ip fr)).size=(aF ip fr).length:=aU _
   have Bj:(av (aF ip fr)).extract 0 ip.length++(av (aF ip fr)).extract (ip.length+1) (av (aF ip fr)).size=av (ip++fr):=by
    refine ji ?_;rw[kT,fe,fe,aU,bi,List.take_length,p2,bi];have e1:(ip++46::fr).drop (ip.length+1)=fr:=by rw[<-List.drop_drop,List.drop_left];rfl
    rw[e1,List.take_left];simp
   generalize av (aF ip fr)=F at *;have AW:ip.length<=F.size:=by omega
   have AX:ip.length+1<=F.size:=by omega
   have AZ:F.size<=1048576:=by omega
   have AA:Hid (F.size=ip.length+fr.length+1):=Hh (by omega);clear AC AD;have Aj:(av (iV ip fr)).size=(iV ip fr).length:=aU _;have Ai:(av (gM ip fr)).size=(gM ip fr).length:=aU _;clear h hm hf p1 p2 hp l4;generalize av (ip++fr)=G at *;generalize hD:av (iV ip fr)=D at Ar Ak Aj;generalize hCe:av (gM ip fr)=C at Ak Ai;have HC:=Hh hCe;have SD:=Hh Aj;have SC:=Hh Ai;have A8:C.size<=D.size:=by omega
   have A9:D.size<=1048576:=by omega
   clear hD hCe Aj Ai Aq A5;obtain⟨E,hE⟩:∃E:Int,E = -((F.size:Int)-(ip.length:Int)-1)+((D.size:Int)-(C.size:Int)):=⟨_,rfl⟩;have Bq:Hid (F.size=ip.length+fr.length+1):=AA;have Ah:∀n,aa ((w.alloc (.cells #[.bool false,.string ⟨#[]⟩,.int .i64 0] 122)).drewN n) w.heap.size #[.bool false,.string ⟨#[]⟩,.int .i64 0] 122:=fun n=>(aa.new w _ _).drewN n;have Ag:∀n,Below w.heap.size w ((w.alloc (.cells #[.bool false,.string ⟨#[]⟩,.int .i64 0] 122)).drewN n):=fun n=>ah ((Below.refl _ w).alloc lz _) n;go_enter Tryz.func153,Tryz.ntmps153;go_wp2_with fail;refine hS.mono ?_;clear hS;rintro _ w1 ⟨rfl,n,rfl⟩;go_wp2_with fail;refine (hC _).mono ?_;rintro _ _ ⟨rfl,rfl⟩;go_wp2_with fail;refine (hI _).mono ?_;rintro _ w1 ⟨rfl,hb⟩;have hx:=(Ah n).below hb (Ah n).lt;have hb:=(Ag n).trans (hb.mono (Ag n).size);clear Ah Ag;obtain⟨Aa,Ad,Ab,Ae,Ac,Af⟩:=hx.n3 rfl;go_wp2_with fail;refine (hB _).mono ?_;rintro _ _ ⟨rfl,rfl⟩;go_wp2_with fail;go_region
   have Ap:=hx.drew;have Ao:Below w.heap.size w w1.drew:=Below.drew hb;clear hx hb Aa Ab Ac Ad Ae Af;generalize w1.drew=w4 at Ap Ao ⊢;have hx:=Ap;have hb:=Ao;clear Ap Ao;obtain⟨Aa,Ad,Ab,Ae,Ac,Af⟩:=hx.n3 rfl
 rotate_left 2
 focus
  obtain⟨m1,⟨m,Bf⟩,m3,m4⟩:=h.mark_some hm;subst Bf;have hI:=fun W=>A6 W _ m1;have AE:(av (aF ip fr++([m]++(sg++pw)))).size=(aF ip fr++([m]++(sg++pw))).length:=aU _
  have AH:∀W,Calls Tryz.prog 178 #[.string (av (sg++pw))] W fun e w'=>e=.returned (.int .i64 p)/\W=w':=fun W=>by
   rw[<-hp];refine CE _ sg pw W rfl m3 h.dpw m4 ?_;rw[aU];simp only[List.length_append] at l2 ⊢;omega
  have Bi:(av (aF ip fr++([m]++(sg++pw)))).extract ((aF ip fr).length+1) (av (aF ip fr++([m]++(sg++pw)))).size=av (sg++pw):=by
   rw[AE,wW,List.take_length,<-List.drop_drop,List.drop_left];rfl
  have AJ:(av (aF ip fr++([m]++(sg++pw)))).extract 0 (aF ip fr).length=av (aF ip fr):=by
   rw[wW,List.take_left];rfl
  have Be:(aF ip fr).length+1<=(av (aF ip fr++([m]++(sg++pw)))).size:=by rw[AE];simp
  have Bd:(aF ip fr).length<=(av (aF ip fr++([m]++(sg++pw)))).size:=by omega
  have Br:(av (aF ip fr++([m]++(sg++pw)))).size<=1048576:=by omega
  generalize av (aF ip fr++([m]++(sg++pw)))=T at *;generalize av (sg++pw)=P at *;obtain⟨q,hq⟩:∃q,(aF ip fr).length=q:=⟨_,rfl⟩;rw[hq] at hI Bi AJ Be Bd;clear A6 m1 m3 m4 AE l2
  by_cases hf:fr=[]
  focus
   obtain⟨p1,p2⟩:=h.point_none hf;have hB:∀W,Calls Tryz.prog 87 #[.string (av (aF ip fr)),.int .u8 46] W fun e w'=>e=.returned (.int .i64 (-1))/\W=w':=fun W=>(Go.Proofs.Tryz.strings_IndexByte (av (aF ip fr)) 46 W).mono fun e w' ⟨h1,h2⟩=>⟨by rw[h1];show Ending.returned (.int .i64 (Lib.indexByte (aF ip fr) 46))=_;rw[p1],h2.symm⟩;rw[p2] at hB AJ;have Bc:fr.length=0:=by rw[hf];rfl
   clear hq l3;have Aj:(av (iV ip fr)).size=(iV ip fr).length:=aU _;have Ai:(av (gM ip fr)).size=(gM ip fr).length:=aU _;clear h hm hf p1 p2 hp l4;generalize av (ip++fr)=G at *;generalize hD:av (iV ip fr)=D at Ar Ak Aj;generalize hCe:av (gM ip fr)=C at Ak Ai;have HC:=Hh hCe;have SD:=Hh Aj;have SC:=Hh Ai;have A8:C.size<=D.size:=by omega
   have A9:D.size<=1048576:=by omega
   clear hD hCe Aj Ai Aq A5;obtain⟨E,hE⟩:∃E:Int,E=p+((D.size:Int)-(C.size:Int)):=⟨_,rfl⟩;have Ah:∀n,aa ((w.alloc (.cells #[.bool false,.string ⟨#[]⟩,.int .i64 0] 122)).drewN n) w.heap.size #[.bool false,.string ⟨#[]⟩,.int .i64 0] 122:=fun n=>(aa.new w _ _).drewN n;have Ag:∀n,Below w.heap.size w ((w.alloc (.cells #[.bool false,.string ⟨#[]⟩,.int .i64 0] 122)).drewN n):=fun n=>ah ((Below.refl _ w).alloc lz _) n;go_enter Tryz.func153,Tryz.ntmps153;go_wp2_with fail;refine hS.mono ?_;clear hS;rintro _ w1 ⟨rfl,n,rfl⟩;go_wp2_with fail;refine (hC _).mono ?_;rintro _ _ ⟨rfl,rfl⟩;go_wp2_with fail;refine (hI _).mono ?_;rintro _ w4 ⟨rfl,hb⟩;have hx:=(Ah n).below hb (Ah n).lt;have hb:=(Ag n).trans (hb.mono (Ag n).size);clear Ah Ag;obtain⟨Aa,Ad,Ab,Ae,Ac,Af⟩:=hx.n3 rfl;go_wp2_with fail;refine (AH _).mono ?_;rintro _ _ ⟨rfl,rfl⟩;go_wp2_with fail;refine (hB _).mono ?_;rintro _ _ ⟨rfl,rfl⟩
  rotate_left
  focus
   obtain⟨p1,p2⟩:=h.point_some hf;have hB:∀W,Calls Tryz.prog 87 #[.string (av (aF ip fr)),.int .u8 46] W fun e w'=>e=.returned (.int .i64 (ip.length:Nat))/\W=w':=fun W=>(Go.Proofs.Tryz.strings_IndexByte (av (aF ip fr)) 46 W).mono fun e w' ⟨h1,h2⟩=>⟨by rw[h1];show Ending.returned (.int .i64 (Lib.indexByte (aF ip fr) 46))=_;rw[p1],h2.symm⟩;have AC:=l4 hf;clear hq;have AD:(av (aF ip fr)).size=(aF ip fr).length:=aU _
   have Bj:(av (aF ip fr)).extract 0 ip.length++(av (aF ip fr)).extract (ip.length+1) (av (aF ip fr)).size=av (ip++fr):=by
    refine ji ?_;rw[kT,fe,fe,aU,bi,List.take_length,p2,bi];have e1:(ip++46::fr).drop (ip.length+1)=fr:=by rw[<-List.drop_drop,List.drop_left];rfl
    rw[e1,List.take_left];simp
   generalize av (aF ip fr)=F at *;have AW:ip.length<=F.size:=by omega
   have AX:ip.length+1<=F.size:=by omega
   have AZ:F.size<=1048576:=by omega
   have AA:Hid (F.size=ip.length+fr.length+1):=Hh (by omega);clear AC AD;have Aj:(av (iV ip fr)).size=(iV ip fr).length:=aU _;have Ai:(av (gM ip fr)).size=(gM ip fr).length:=aU _;clear h hm hf p1 p2 hp l4;generalize av (ip++fr)=G at *;generalize hD:av (iV ip fr)=D at Ar Ak Aj;generalize hCe:av (gM ip fr)=C at Ak Ai;have HC:=Hh hCe;have SD:=Hh Aj;have SC:=Hh Ai;have A8:C.size<=D.size:=by omega
   have A9:D.size<=1048576:=by omega
   clear hD hCe Aj Ai Aq A5;obtain⟨E,hE⟩:∃E:Int,E=p-((F.size:Int)-(ip.length:Int)-1)+((D.size:Int)-(C.size:Int)):=⟨_,rfl⟩;have Ah:∀n,aa ((w.alloc (.cells #[.bool false,.string ⟨#[]⟩,.int .i64 0] 122)).drewN n) w.heap.size #[.bool false,.string ⟨#[]⟩,.int .i64 0] 122:=fun n=>(aa.new w _ _).drewN n;have Ag:∀n,Below w.heap.size w ((w.alloc (.cells #[.bool false,.string ⟨#[]⟩,.int .i64 0] 122)).drewN n):=fun n=>ah ((Below.refl _ w).alloc lz _) n;go_enter Tryz.func153,Tryz.ntmps153;go_wp2_with fail;refine hS.mono ?_;clear hS;rintro _ w1 ⟨rfl,n,rfl⟩;go_wp2_with fail;refine (hC _).mono ?_;rintro _ _ ⟨rfl,rfl⟩;go_wp2_with fail;refine (hI _).mono ?_;rintro _ w1 ⟨rfl,hb⟩;have hx:=(Ah n).below hb (Ah n).lt;have hb:=(Ag n).trans (hb.mono (Ag n).size);clear Ah Ag;obtain⟨Aa,Ad,Ab,Ae,Ac,Af⟩:=hx.n3 rfl;go_wp2_with fail;refine (AH _).mono ?_;rintro _ _ ⟨rfl,rfl⟩;go_wp2_with fail;refine (hB _).mono ?_;rintro _ _ ⟨rfl,rfl⟩;go_wp2_with fail;go_region
   have Ap:=hx.drew;have Ao:Below w.heap.size w w1.drew:=Below.drew hb;clear hx hb Aa Ab Ac Ad Ae Af;generalize w1.drew=w4 at Ap Ao ⊢;have hx:=Ap;have hb:=Ao;clear Ap Ao;obtain⟨Aa,Ad,Ab,Ae,Ac,Af⟩:=hx.n3 rfl
 all_goals
  go_wp2_with fail;refine (Ar _).mono ?_;rintro _ _ ⟨rfl,rfl⟩;go_wp2_with fail;refine (Ak _).mono ?_;rintro _ _ ⟨rfl,rfl⟩
  by_cases hz:C.size=0
  ·have AU:=Fh hz
   have hV:=Hh (show gI neg ip fr (oq sg pw)=((false,[],0),0) by
    rw[gI,if_pos (List.eq_nil_of_length_eq_zero (by have:=SC.out;omega))])
   clear hz;subst AU;go_wp2;refine bodyPost_ret (v:=dJ ((false,[],0),0)) (by simp[results,Tryz.results153,go_sem,dJ,av,Aa,Ab,Ac]) rfl ⟨by rw[hV.out],?_⟩
   (with_reducible repeat' first|refine Below.setCell ?_ ?_ _|refine Below.alloc ?_ ?_ _|refine Below.drew ?_|refine ah ?_ _|assumption|exact Below.refl _ _|(simp only[World.size_alloc,World.size_setCell,World.size_drew];first|done|omega)|omega)
  ·have Bn:=A7 hz
   have hR:=fun W=>AY neg C E W (by omega)
   have hV:=Hh (show gI neg ip fr (oq sg pw)=if oQ neg C E then ((neg,gM ip fr,E),0) else ((false,[],0),4) by
    have Bb:gM ip fr≠[]:=fun e=>hz (by rw[SC.out,e];rfl);have AV:BL ip fr (oq sg pw)=E:=by have:=SC.out;have:=SD.out;have:=hP.out;(try have:=AA.out);unfold BL;omega
    rw[gI,if_neg Bb,AV,show (⟨(gM ip fr).toArray⟩:ByteArray)=C from HC.out])
   have Bp:=Hh hE;have Bo:=hE.symm;clear hz hE;go_wp2_with fail;refine (hR _).mono ?_;clear hR;rintro _ w2 ⟨rfl,hb2⟩;have AF:=(hx.alloc (.cells #[.bool neg,.string C,.int .i64 E] 122)).below hb2 (hx.alloc _).lt;have AG:=(aa.new w4 #[.bool neg,.string C,.int .i64 E] 122).below hb2 (aa.new _ _ _).lt;have AI:=(hb.alloc hb.size (.cells #[.bool neg,.string C,.int .i64 E] 122)).trans (hb2.mono (by simp only[World.size_alloc];have:=hb.size;omega));have Bv:=hb.size;have Bg:w.heap.size≠w4.heap.size:=fun e=>by have:=hx.lt;omega
   clear hb2 Aa Ab Ac Ad Ae Af;obtain⟨Al,At,Am,Au,An,Av⟩:=AF.n3 rfl;obtain⟨Az,A2,A0,A3,A1,A4⟩:=AG.n3 rfl
   by_cases hr:oQ neg C E=true
   ·have AB:=Hh (show gI neg ip fr (oq sg pw)=((neg,gM ip fr,E),0) by rw[hV.out,if_pos hr])
    have AT:=fun W=>Ja C W (by omega);clear hV;go_wp2_with fail;refine (AT _).mono ?_;rintro _ w3 ⟨rfl,hb4⟩;have Bl:=AF.below hb4 AF.lt;have Bm:=AG.below hb4 AG.lt;have Ba:=AI.trans (hb4.mono AI.size);have Bk:=Ba.size;clear hb4 Al Am An At Au Av Az A0 A1 A2 A3 A4;obtain⟨Aw,AK,Ax,AL,Ay,AM⟩:=Bl.n3 rfl;obtain⟨AN,AQ,AO,AR,AP,AS⟩:=Bm.n3 rfl;go_wp2;have hCe:=HC.out;refine bodyPost_ret (v:=dJ ((neg,gM ip fr,E),0)) (by simp[results,Tryz.results153,go_sem,dJ,hCe,Aw,Ax,Ay]) rfl ⟨by rw[AB.out],?_⟩
    (with_reducible repeat' first|refine Below.setCell ?_ ?_ _|refine Below.alloc ?_ ?_ _|refine Below.drew ?_|refine ah ?_ _|assumption|exact Below.refl _ _|(simp only[World.size_alloc,World.size_setCell,World.size_drew];first|done|omega)|omega)
   ·have AB:=Hh (show gI neg ip fr (oq sg pw)=((false,[],0),4) by rw[hV.out,if_neg hr])
    have Bu:oQ neg C E=false:=by simpa using hr
    clear hV hr;go_wp2;refine bodyPost_ret (v:=dJ ((false,[],0),4)) (by simp[results,Tryz.results153,go_sem,dJ,av,Al,Am,An]) rfl ⟨by rw[AB.out],?_⟩
    (with_reducible repeat' first|refine Below.setCell ?_ ?_ _|refine Below.alloc ?_ ?_ _|refine Below.drew ?_|refine ah ?_ _|assumption|exact Below.refl _ _|(simp only[World.size_alloc,World.size_setCell,World.size_drew];first|done|omega)|omega)
structure jf(w:World):Prop where
 utf:Tab w
 steps:vY w
 dbl:∀j:Nat,j<6->w.cell? ⟨0,j,none⟩=some (.string (av (mi.getD j [])))
 mlen:∃m,w.cell? ⟨2,0,none⟩=some (.int .i64 m)
theorem jf.below{w w':World}(h:jf w)(hb:Below w.heap.size w w'):jf w':=
 ⟨h.utf.below hb h.utf.pos,h.steps.below hb h.steps.pos,fun j hj=>(hb.cell (p:=⟨0,j,none⟩) (World.block_lt_of_cell? w _ (h.dbl j hj))).trans (h.dbl j hj),by
  obtain⟨m,hm⟩:=h.mlen
  exact⟨m,(hb.cell (p:=⟨2,0,none⟩) (World.block_lt_of_cell? w _ hm)).trans hm⟩⟩
theorem NU(l:List UInt8)(c:UInt8):decide (0<=Lib.indexByte l c)=l.contains c:=by
 induction l with
 |nil=>rfl
 |cons b l ih=>
  unfold Lib.indexByte;rw[List.contains_cons]
  by_cases h:b=c
  ·subst h;simp
  ·have h1:(b==c)=false:=by simpa using h
   have h2:(c==b)=false:=by simpa using fun e:c=b=>h e.symm
   rw[h1,h2,Bool.false_or,<-ih];have:=Lib.indexByte_ge l c;simp only[Bool.false_eq_true,if_false]
   by_cases h3:Lib.indexByte l c = -1
   ·rw[if_pos (by simpa using h3),h3]
   ·rw[if_neg (by simpa using h3)]
    congr 1
    apply propext
    constructor<;>intro h<;>omega
theorem LW(c:UInt8):((c.toNat:Int)).toNat.toUInt8=c:=by simp
theorem Bi(s:ByteArray)(c:UInt8)(w:World):Calls Tryz.prog 87 #[.string s,.int .u8 c.toNat] w fun e w'=>(∃i:Int,e=.returned (.int .i64 i)/\decide (0<=i)=s.data.toList.contains c)/\w'=w:=
 (Tryz.strings_IndexByte s c.toNat w).mono fun e w' ⟨h1,h2⟩=>⟨⟨_,h1,by rw[LW];exact NU _ _⟩,h2⟩
theorem JQ(s:ByteArray)(w:World)(hT:jf w)(h0:0<s.size)(hs:s.size<=maxLen) :
  Calls Tryz.prog 130 #[.string s] w fun e w'=>e=.returned (.int .i64 (Eo s.data.toList:Nat))/\w=w':=by
 unfold maxLen at hs;have t0:=hT.dbl 0 (by decide);have t1:=hT.dbl 1 (by decide);have t2:=hT.dbl 2 (by decide);have t3:=hT.dbl 3 (by decide);have t4:=hT.dbl 4 (by decide);have t5:=hT.dbl 5 (by decide);simp only[mi,List.getD_cons_zero,List.getD_cons_succ,av] at t0 t1 t2 t3 t4 t5;have hP:=fun p W=>Tryz.strings_HasPrefix s p W
 have hz:s.data.toList=s[0]::s.data.toList.tail:=by
  have:=eT (s:=s) (k:=0) h0;rw[List.drop_zero] at this;rw[this];simp
 have Ad:Eo s.data.toList=if [[61,61].isPrefixOf s.data.toList,[33,61].isPrefixOf s.data.toList,[60,61].isPrefixOf s.data.toList,[62,61].isPrefixOf s.data.toList,[38,38].isPrefixOf s.data.toList,[124,124].isPrefixOf s.data.toList].any id then 2 else if oo.contains s[0] then 1 else 0:=by
  unfold Eo;rw[hz];rfl
 have hI:=fun W=>Bi ⟨#[61,60,62,43,45,42,47,37,33,63,58,44,46,40,41,91,93,123,125]⟩ s[0] W;have Ac:(⟨#[61,60,62,43,45,42,47,37,33,63,58,44,46,40,41,91,93,123,125]⟩:ByteArray).data.toList.contains s[0]=oo.contains s[0]:=rfl;rw[Ac] at hI;clear Ac;rw[Ad];have e0:=hP ⟨#[61,61]⟩;have e1:=hP ⟨#[33,61]⟩;have e2:=hP ⟨#[60,61]⟩;have e3:=hP ⟨#[62,61]⟩;have e4:=hP ⟨#[38,38]⟩;have e5:=hP ⟨#[124,124]⟩;simp only[Lib.hasPrefix] at e0 e1 e2 e3 e4 e5;clear Ad hz hP;generalize [61,61].isPrefixOf s.data.toList=b0 at *;generalize [33,61].isPrefixOf s.data.toList=b1 at *;generalize [60,61].isPrefixOf s.data.toList=b2 at *;generalize [62,61].isPrefixOf s.data.toList=b3 at *;generalize [38,38].isPrefixOf s.data.toList=b4 at *;generalize [124,124].isPrefixOf s.data.toList=b5 at *;obtain⟨B,hB⟩:∃B,[b0,b1,b2,b3,b4,b5].any id=B:=⟨_,rfl⟩;rw[hB];obtain⟨R,hR⟩:=exq ((if B=true then 2 else if oo.contains s[0]=true then 1 else 0));rw[<-hR];have HR:=Hh hR;clear hR;have HI:=Hh hI;have HE:=Jh e0 (And.intro e1 (And.intro e2 (And.intro e3 (And.intro e4 e5))));have Ab:Hid (([b0,b1,b2,b3,b4,b5].drop 0).any id=B):=Hh hB;clear hI e0 e1 e2 e3 e4 e5 hB;go_enter Tryz.func130,Tryz.ntmps130;go_wp2_with fail;go_loop [4,6] (fun _ i=>∃k:Nat,k<=6/\i=.int .i64 (k:Int)/\([b0,b1,b2,b3,b4,b5].drop k).any id=B) (fun _ i=>6-(intOf i).toNat)
 case atStart=>exact⟨0,by omega,rfl,Ab.out⟩
 case round=>
  clear Ab t0 t1 t2 t3 t4 t5;obtain⟨k,hk,rfl,hb⟩:=hrel;have Ae:k=0\/k=1\/k=2\/k=3\/k=4\/k=5\/k=6:=by omega
  rcases Ae with rfl|rfl|rfl|rfl|rfl|rfl|rfl
  ·have e:=HE.out.1
   have hx:=fZ (P:=Tryz.prog) w 186 9 6 #[.string ⟨#[61,61]⟩,.string ⟨#[33,61]⟩,.string ⟨#[60,61]⟩,.string ⟨#[62,61]⟩,.string ⟨#[38,38]⟩,.string ⟨#[124,124]⟩] .i64 0 0 _ Tryz.underlying186 (by kernel_rfl) (by kernel_rfl) rfl (by decide) rfl
   cases b0 with
   |true=>
    have Aa:Hid (B=true):=Hh (by rw[<-hb];simp);clear hb HE HI;go_wp2_with fail;refine (e _).mono ?_;rintro _ _ ⟨rfl,rfl⟩;go_wp2;go_ret;exact⟨dV (by rw[HR.out,Aa.out];rfl),rfl⟩
   |false=>
    have Aa:Hid (([b1,b2,b3,b4,b5]:List Bool).any id=B):=Hh (by rw[<-hb];simp);clear hb HI;go_wp2_with fail;refine (e _).mono ?_;rintro _ _ ⟨rfl,rfl⟩;go_wp2;go_round
    case rel=>exact⟨1,by omega,by go_num,Aa.out⟩
    case measure=>simp[intOf]
  ·have e:=HE.out.2.1
   have hx:=fZ (P:=Tryz.prog) w 186 9 6 #[.string ⟨#[61,61]⟩,.string ⟨#[33,61]⟩,.string ⟨#[60,61]⟩,.string ⟨#[62,61]⟩,.string ⟨#[38,38]⟩,.string ⟨#[124,124]⟩] .i64 1 1 _ Tryz.underlying186 (by kernel_rfl) (by kernel_rfl) rfl (by decide) rfl
   cases b1 with
   |true=>
    have Aa:Hid (B=true):=Hh (by rw[<-hb];simp);clear hb HE HI;go_wp2_with fail;refine (e _).mono ?_;rintro _ _ ⟨rfl,rfl⟩;go_wp2;go_ret;exact⟨dV (by rw[HR.out,Aa.out];rfl),rfl⟩
   |false=>
    have Aa:Hid (([b2,b3,b4,b5]:List Bool).any id=B):=Hh (by rw[<-hb];simp);clear hb HI;go_wp2_with fail;refine (e _).mono ?_;rintro _ _ ⟨rfl,rfl⟩;go_wp2;go_round
    case rel=>exact⟨2,by omega,by go_num,Aa.out⟩
    case measure=>simp[intOf]
  ·have e:=HE.out.2.2.1
   have hx:=fZ (P:=Tryz.prog) w 186 9 6 #[.string ⟨#[61,61]⟩,.string ⟨#[33,61]⟩,.string ⟨#[60,61]⟩,.string ⟨#[62,61]⟩,.string ⟨#[38,38]⟩,.string ⟨#[124,124]⟩] .i64 2 2 _ Tryz.underlying186 (by kernel_rfl) (by kernel_rfl) rfl (by decide) rfl
   cases b2 with
   |true=>
    have Aa:Hid (B=true):=Hh (by rw[<-hb];simp);clear hb HE HI;go_wp2_with fail;refine (e _).mono ?_;rintro _ _ ⟨rfl,rfl⟩;go_wp2;go_ret;exact⟨dV (by rw[HR.out,Aa.out];rfl),rfl⟩
   |false=>
    have Aa:Hid (([b3,b4,b5]:List Bool).any id=B):=Hh (by rw[<-hb];simp);clear hb HI;go_wp2_with fail;refine (e _).mono ?_;rintro _ _ ⟨rfl,rfl⟩;go_wp2;go_round
    case rel=>exact⟨3,by omega,by go_num,Aa.out⟩
    case measure=>simp[intOf]
  ·have e:=HE.out.2.2.2.1
   have hx:=fZ (P:=Tryz.prog) w 186 9 6 #[.string ⟨#[61,61]⟩,.string ⟨#[33,61]⟩,.string ⟨#[60,61]⟩,.string ⟨#[62,61]⟩,.string ⟨#[38,38]⟩,.string ⟨#[124,124]⟩] .i64 3 3 _ Tryz.underlying186 (by kernel_rfl) (by kernel_rfl) rfl (by decide) rfl
   cases b3 with
   |true=>
    have Aa:Hid (B=true):=Hh (by rw[<-hb];simp);clear hb HE HI;go_wp2_with fail;refine (e _).mono ?_;rintro _ _ ⟨rfl,rfl⟩;go_wp2;go_ret;exact⟨dV (by rw[HR.out,Aa.out];rfl),rfl⟩
   |false=>
    have Aa:Hid (([b4,b5]:List Bool).any id=B):=Hh (by rw[<-hb];simp);clear hb HI;go_wp2_with fail;refine (e _).mono ?_;rintro _ _ ⟨rfl,rfl⟩;go_wp2;go_round
    case rel=>exact⟨4,by omega,by go_num,Aa.out⟩
    case measure=>simp[intOf]
  ·have e:=HE.out.2.2.2.2.1
   have hx:=fZ (P:=Tryz.prog) w 186 9 6 #[.string ⟨#[61,61]⟩,.string ⟨#[33,61]⟩,.string ⟨#[60,61]⟩,.string ⟨#[62,61]⟩,.string ⟨#[38,38]⟩,.string ⟨#[124,124]⟩] .i64 4 4 _ Tryz.underlying186 (by kernel_rfl) (by kernel_rfl) rfl (by decide) rfl
   cases b4 with
   |true=>
    have Aa:Hid (B=true):=Hh (by rw[<-hb];simp);clear hb HE HI;go_wp2_with fail;refine (e _).mono ?_;rintro _ _ ⟨rfl,rfl⟩;go_wp2;go_ret;exact⟨dV (by rw[HR.out,Aa.out];rfl),rfl⟩
   |false=>
    have Aa:Hid (([b5]:List Bool).any id=B):=Hh (by rw[<-hb];simp);clear hb HI;go_wp2_with fail;refine (e _).mono ?_;rintro _ _ ⟨rfl,rfl⟩;go_wp2;go_round
    case rel=>exact⟨5,by omega,by go_num,Aa.out⟩
    case measure=>simp[intOf]
  ·have e:=HE.out.2.2.2.2.2
   have hx:=fZ (P:=Tryz.prog) w 186 9 6 #[.string ⟨#[61,61]⟩,.string ⟨#[33,61]⟩,.string ⟨#[60,61]⟩,.string ⟨#[62,61]⟩,.string ⟨#[38,38]⟩,.string ⟨#[124,124]⟩] .i64 5 5 _ Tryz.underlying186 (by kernel_rfl) (by kernel_rfl) rfl (by decide) rfl
   cases b5 with
   |true=>
    have Aa:Hid (B=true):=Hh (by rw[<-hb];simp);clear hb HE HI;go_wp2_with fail;refine (e _).mono ?_;rintro _ _ ⟨rfl,rfl⟩;go_wp2;go_ret;exact⟨dV (by rw[HR.out,Aa.out];rfl),rfl⟩
   |false=>
    have Aa:Hid (([]:List Bool).any id=B):=Hh (by rw[<-hb];simp);clear hb HI;go_wp2_with fail;refine (e _).mono ?_;rintro _ _ ⟨rfl,rfl⟩;go_wp2;go_round
    case rel=>exact⟨6,by omega,by go_num,Aa.out⟩
    case measure=>simp[intOf]
  ·have Aa:Hid (B=false):=Hh hb.symm
   have hI:=HI.out;clear hb HE HI;generalize oo.contains s[0]=q at *;go_wp2_with fail;refine (hI _).mono ?_;rintro _ _ ⟨⟨i,rfl,hi⟩,rfl⟩
   cases q with
   |true=>
    go_wp2;go_ret;exact⟨dV (by rw[HR.out,Aa.out];rfl),rfl⟩
   |false=>
    go_wp2;go_ret;exact⟨dV (by rw[HR.out,Aa.out];rfl),rfl⟩
end Go.Proofs.YtbcdaaobbebooaaGreatDoor
