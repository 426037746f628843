/- Texts of this proof, one behind the other: Shelf Lib ChrA ChrB ChrC Num DskL DskS BldA BldB BldC BldD BldE BldF Join ParL ParA ParC ParD Fnd FldA FldB FldG FldD FldE ChrD ChrN Base SplL SplA SplB JrnL JrnA JrnB JrnC JrnG JrnP. -/
import Derived.Shelf.Strings.SlTrimAscii
import Derived.Shelf.Strings.Builder1
import Derived.Shelf.Strings.Builder2
import Derived.Shelf.Strings.OnBuilder
import Derived.Shelf.Strings.Trim
import Derived.Shelf.Small.Utf8
import Derived.Shelf.Small.Strs
import Derived.Shelf.Small.Wraps
import Derived.Shelf.Strings.BuilderF
import Derived.Shelf.Strings.BuilderK
import Derived.Shelf.Utf8.RuneCount
import Derived.Shelf.Strings.Builder2Cap
import Derived.Shelf.Strconv.Itoa0
import Derived.Shelf.Strconv.Itoa1
import Derived.Shelf.LaysM
import Derived.Shelf.Strconv.Itoa2
import Derived.Shelf.Strconv.Itoa3
import Derived.Shelf.Strings.Search1
import Derived.Shelf.Strings.Search2
import Derived.Shelf.Strings.Search3
import Derived.Shelf.Strings.Cut
import Derived.Shelf.Strings.Count
import Derived.Shelf.Strings.Shaped
import Derived.Shelf.Strings.Prefix
import Derived.Shelf.Strings.Split
import Derived.Shelf.Strings.SplitShaped
import Derived.Shelf.Unicode.Decode
import Derived.Shelf.Strings.Runes
import Derived.Shelf.Strings.RuneCount
import Derived.Shelf.Strings.IndexAny
import Derived.Shelf.Strings.AsciiSet
import Derived.Shelf.Strings.IndexAnyAll
import Derived.Shelf.Strings.Explode
import Derived.Shelf.Unicode.DecodeSlow
import Derived.Shelf.Unicode.DecodeAny
import Derived.Shelf.Unicode.DecodeLast
import Derived.Shelf.Strings.BuilderCap
import Derived.Test.YtnpmenpjagcheaaGreatDoorProg
import Derived.Below
import Derived.Lib.ItoaNum
import Derived.Lib.MakeNoZero
import Derived.Lib.UnsafeStr
import Derived.Test.YtnpmenpjagcheaaGreatDoorMb
set_option linter.all false
namespace Go.Proofs
open Go.Shelf
def Tryz.zio:Go.Shelf.Ren:=⟨fun|161=>225|231=>198|227=>180|233=>200|235=>202|228=>181|197=>216|151=>217|260=>227|152=>178|137=>177|119=>197|224=>51|225=>50|217=>49|266=>68|n=>n,fun|9=>9|4=>4|3=>3|5=>5|117=>235|116=>234|0=>0|124=>253|105=>268|21=>21|119=>279|46=>25|139=>282|138=>281|n=>n,fun|3=>4|4=>5|n=>n⟩
theorem Tryz.lays161:Go.Proofs.Lays.n161 Tryz.prog Tryz.zio:= {
 mixed:=by kernel_rfl
 f119:=Tryz.func197.trans (congrArg some (by kernel_rfl))
 f137:=Tryz.func177.trans (congrArg some (by kernel_rfl))
 f151:=Tryz.func217.trans (congrArg some (by kernel_rfl))
 f152:=Tryz.func178.trans (congrArg some (by kernel_rfl))
 f161:=Tryz.func225.trans (congrArg some (by kernel_rfl))
 f197:=Tryz.func216.trans (congrArg some (by kernel_rfl))
 f217:=Tryz.func49.trans (congrArg some (by kernel_rfl))
 f224:=Tryz.func51.trans (congrArg some (by kernel_rfl))
 f225:=Tryz.func50.trans (congrArg some (by kernel_rfl))
 f227:=Tryz.func180.trans (congrArg some (by kernel_rfl))
 f228:=Tryz.func181.trans (congrArg some (by kernel_rfl))
 f231:=Tryz.func198.trans (congrArg some (by kernel_rfl))
 f233:=Tryz.func200.trans (congrArg some (by kernel_rfl))
 f235:=Tryz.func202.trans (congrArg some (by kernel_rfl))
 f260:=Tryz.func227.trans (congrArg some (by kernel_rfl))
 f266:=Tryz.func68.trans (congrArg some (by kernel_rfl))
 t0:=Tryz.underlying0
 a0:=Tryz.isAgg0
 z0:=Tryz.sizeOf0
 v0:=Tryz.zeroValue0
 t3:=Tryz.underlying3
 a3:=Tryz.isAgg3
 z3:=Tryz.sizeOf3
 v3:=Tryz.zeroValue3
 t4:=Tryz.underlying4
 a4:=Tryz.isAgg4
 z4:=Tryz.sizeOf4
 v4:=Tryz.zeroValue4
 t5:=Tryz.underlying5
 a5:=Tryz.isAgg5
 z5:=Tryz.sizeOf5
 v5:=Tryz.zeroValue5
 t9:=Tryz.underlying9
 a9:=Tryz.isAgg9
 z9:=Tryz.sizeOf9
 v9:=Tryz.zeroValue9
 t21:=Tryz.underlying21
 a21:=Tryz.isAgg21
 z21:=Tryz.sizeOf21
 v21:=Tryz.zeroValue21
 t46:=Tryz.underlying25
 a46:=Tryz.isAgg25
 z46:=Tryz.sizeOf25
 v46:=Tryz.zeroValue25
 t105:=Tryz.underlying268
 a105:=Tryz.isAgg268
 z105:=Tryz.sizeOf268
 v105:=Tryz.zeroValue268
 t116:=Tryz.underlying234
 a116:=Tryz.isAgg234
 z116:=Tryz.sizeOf234
 t117:=Tryz.underlying235
 a117:=Tryz.isAgg235
 z117:=Tryz.sizeOf235
 v117:=Tryz.zeroValue235
 t119:=Tryz.underlying279
 a119:=Tryz.isAgg279
 z119:=Tryz.sizeOf279
 t124:=Tryz.underlying253
 a124:=Tryz.isAgg253
 z124:=Tryz.sizeOf253
 v124:=Tryz.zeroValue253
 t138:=Tryz.underlying281
 a138:=Tryz.isAgg281
 z138:=Tryz.sizeOf281
 v138:=Tryz.zeroValue281
 t139:=Tryz.underlying282
 a139:=Tryz.isAgg282
 z139:=Tryz.sizeOf282
 v139:=Tryz.zeroValue282
 g3:=by kernel_rfl
 g4:=by kernel_rfl}
def Tryz.ziq:Go.Shelf.Ren:=⟨fun|160=>182|232=>199|231=>198|227=>180|234=>201|233=>200|236=>203|235=>202|228=>181|271=>218|151=>217|197=>216|120=>228|152=>178|260=>227|137=>177|119=>197|224=>51|225=>50|217=>49|266=>68|n=>n,fun|9=>9|4=>4|3=>3|5=>5|117=>235|116=>234|0=>0|124=>253|21=>21|105=>268|46=>25|119=>279|139=>282|138=>281|n=>n,fun|3=>4|4=>5|n=>n⟩
theorem Tryz.lays160:Go.Proofs.Lays.n160 Tryz.prog Tryz.ziq:= {
 mixed:=by kernel_rfl
 f119:=Tryz.func197.trans (congrArg some (by kernel_rfl))
 f120:=Tryz.func228.trans (congrArg some (by kernel_rfl))
 f137:=Tryz.func177.trans (congrArg some (by kernel_rfl))
 f151:=Tryz.func217.trans (congrArg some (by kernel_rfl))
 f152:=Tryz.func178.trans (congrArg some (by kernel_rfl))
 f160:=Tryz.func182.trans (congrArg some (by kernel_rfl))
 f197:=Tryz.func216.trans (congrArg some (by kernel_rfl))
 f217:=Tryz.func49.trans (congrArg some (by kernel_rfl))
 f224:=Tryz.func51.trans (congrArg some (by kernel_rfl))
 f225:=Tryz.func50.trans (congrArg some (by kernel_rfl))
 f227:=Tryz.func180.trans (congrArg some (by kernel_rfl))
 f228:=Tryz.func181.trans (congrArg some (by kernel_rfl))
 f231:=Tryz.func198.trans (congrArg some (by kernel_rfl))
 f232:=Tryz.func199.trans (congrArg some (by kernel_rfl))
 f233:=Tryz.func200.trans (congrArg some (by kernel_rfl))
 f234:=Tryz.func201.trans (congrArg some (by kernel_rfl))
 f235:=Tryz.func202.trans (congrArg some (by kernel_rfl))
 f236:=Tryz.func203.trans (congrArg some (by kernel_rfl))
 f260:=Tryz.func227.trans (congrArg some (by kernel_rfl))
 f266:=Tryz.func68.trans (congrArg some (by kernel_rfl))
 f271:=Tryz.func218.trans (congrArg some (by kernel_rfl))
 t0:=Tryz.underlying0
 a0:=Tryz.isAgg0
 z0:=Tryz.sizeOf0
 v0:=Tryz.zeroValue0
 t3:=Tryz.underlying3
 a3:=Tryz.isAgg3
 z3:=Tryz.sizeOf3
 v3:=Tryz.zeroValue3
 t4:=Tryz.underlying4
 a4:=Tryz.isAgg4
 z4:=Tryz.sizeOf4
 v4:=Tryz.zeroValue4
 t5:=Tryz.underlying5
 a5:=Tryz.isAgg5
 z5:=Tryz.sizeOf5
 v5:=Tryz.zeroValue5
 t9:=Tryz.underlying9
 a9:=Tryz.isAgg9
 z9:=Tryz.sizeOf9
 v9:=Tryz.zeroValue9
 t21:=Tryz.underlying21
 a21:=Tryz.isAgg21
 z21:=Tryz.sizeOf21
 v21:=Tryz.zeroValue21
 t46:=Tryz.underlying25
 a46:=Tryz.isAgg25
 z46:=Tryz.sizeOf25
 v46:=Tryz.zeroValue25
 t105:=Tryz.underlying268
 a105:=Tryz.isAgg268
 z105:=Tryz.sizeOf268
 v105:=Tryz.zeroValue268
 t116:=Tryz.underlying234
 a116:=Tryz.isAgg234
 z116:=Tryz.sizeOf234
 t117:=Tryz.underlying235
 a117:=Tryz.isAgg235
 z117:=Tryz.sizeOf235
 v117:=Tryz.zeroValue235
 t119:=Tryz.underlying279
 a119:=Tryz.isAgg279
 z119:=Tryz.sizeOf279
 t124:=Tryz.underlying253
 a124:=Tryz.isAgg253
 z124:=Tryz.sizeOf253
 v124:=Tryz.zeroValue253
 t138:=Tryz.underlying281
 a138:=Tryz.isAgg281
 z138:=Tryz.sizeOf281
 v138:=Tryz.zeroValue281
 t139:=Tryz.underlying282
 a139:=Tryz.isAgg282
 z139:=Tryz.sizeOf282
 v139:=Tryz.zeroValue282
 g3:=by kernel_rfl
 g4:=by kernel_rfl}
def Tryz.zis:Go.Shelf.Ren:=⟨fun|137=>177|217=>49|266=>68|n=>n,fun|9=>9|5=>5|3=>3|n=>n,fun|n=>n⟩
theorem Tryz.lays137:Go.Proofs.Lays.n137 Tryz.prog Tryz.zis:= {
 mixed:=by kernel_rfl
 f137:=Tryz.func177.trans (congrArg some (by kernel_rfl))
 f217:=Tryz.func49.trans (congrArg some (by kernel_rfl))
 f266:=Tryz.func68.trans (congrArg some (by kernel_rfl))
 t3:=Tryz.underlying3
 a3:=Tryz.isAgg3
 z3:=Tryz.sizeOf3
 v3:=Tryz.zeroValue3
 t5:=Tryz.underlying5
 a5:=Tryz.isAgg5
 z5:=Tryz.sizeOf5
 v5:=Tryz.zeroValue5
 t9:=Tryz.underlying9
 a9:=Tryz.isAgg9
 z9:=Tryz.sizeOf9
 v9:=Tryz.zeroValue9}
def Tryz.zit:Go.Shelf.Ren:=⟨fun|103=>172|210=>194|206=>98|n=>n,fun|9=>9|4=>4|24=>197|3=>3|n=>n,fun|n=>n⟩
theorem Tryz.zvS:Go.Proofs.Lays.n103 Tryz.prog Tryz.zit:= {
 mixed:=by kernel_rfl
 f103:=Tryz.func172.trans (congrArg some (by kernel_rfl))
 f206:=Tryz.func98.trans (congrArg some (by kernel_rfl))
 f210:=Tryz.func194.trans (congrArg some (by kernel_rfl))
 t3:=Tryz.underlying3
 a3:=Tryz.isAgg3
 z3:=Tryz.sizeOf3
 v3:=Tryz.zeroValue3
 t4:=Tryz.underlying4
 a4:=Tryz.isAgg4
 z4:=Tryz.sizeOf4
 v4:=Tryz.zeroValue4
 t9:=Tryz.underlying9
 a9:=Tryz.isAgg9
 z9:=Tryz.sizeOf9
 v9:=Tryz.zeroValue9
 t24:=Tryz.underlying197
 a24:=Tryz.isAgg197
 z24:=Tryz.sizeOf197
 v24:=Tryz.zeroValue197}
def Tryz.zf8:Go.Shelf.Ren:=⟨fun|171=>54|243=>72|246=>91|283=>118|284=>119|285=>120|286=>121|129=>155|317=>154|318=>156|319=>157|320=>158|337=>185|338=>186|n=>n,fun|3=>3|9=>9|2=>2|4=>4|171=>184|0=>0|53=>185|37=>33|5=>5|173=>188|212=>212|51=>124|20=>20|213=>213|46=>25|232=>256|233=>257|n=>n,fun|17=>1|18=>2|19=>3|n=>n⟩
theorem Tryz.laysM171:Go.Proofs.LaysM.n171 Tryz.prog Tryz.zf8:= {
 mixed:=by kernel_rfl
 f129:=Tryz.func155.trans (congrArg some (by kernel_rfl))
 f171:=Tryz.func54.trans (congrArg some (by kernel_rfl))
 f243:=Tryz.func72.trans (congrArg some (by kernel_rfl))
 f246:=Tryz.func91.trans (congrArg some (by kernel_rfl))
 f283:=Tryz.func118.trans (congrArg some (by kernel_rfl))
 f284:=Tryz.func119.trans (congrArg some (by kernel_rfl))
 f285:=Tryz.func120.trans (congrArg some (by kernel_rfl))
 f286:=Tryz.func121.trans (congrArg some (by kernel_rfl))
 f317:=Tryz.func154.trans (congrArg some (by kernel_rfl))
 f318:=Tryz.func156.trans (congrArg some (by kernel_rfl))
 f319:=Tryz.func157.trans (congrArg some (by kernel_rfl))
 f320:=Tryz.func158.trans (congrArg some (by kernel_rfl))
 f337:=Tryz.func185.trans (congrArg some (by kernel_rfl))
 f338:=Tryz.func186.trans (congrArg some (by kernel_rfl))
 t0:=Tryz.underlying0
 a0:=Tryz.isAgg0
 z0:=Tryz.sizeOf0
 v0:=Tryz.zeroValue0
 t2:=Tryz.underlying2
 a2:=Tryz.isAgg2
 z2:=Tryz.sizeOf2
 v2:=Tryz.zeroValue2
 t3:=Tryz.underlying3
 a3:=Tryz.isAgg3
 z3:=Tryz.sizeOf3
 v3:=Tryz.zeroValue3
 t4:=Tryz.underlying4
 a4:=Tryz.isAgg4
 z4:=Tryz.sizeOf4
 v4:=Tryz.zeroValue4
 t5:=Tryz.underlying5
 a5:=Tryz.isAgg5
 z5:=Tryz.sizeOf5
 v5:=Tryz.zeroValue5
 t9:=Tryz.underlying9
 a9:=Tryz.isAgg9
 z9:=Tryz.sizeOf9
 v9:=Tryz.zeroValue9
 t20:=Tryz.underlying20
 a20:=Tryz.isAgg20
 z20:=Tryz.sizeOf20
 v20:=Tryz.zeroValue20
 t37:=Tryz.underlying33
 a37:=Tryz.isAgg33
 z37:=Tryz.sizeOf33
 v37:=Tryz.zeroValue33
 t46:=Tryz.underlying25
 a46:=Tryz.isAgg25
 z46:=Tryz.sizeOf25
 v46:=Tryz.zeroValue25
 t51:=Tryz.underlying124
 a51:=Tryz.isAgg124
 z51:=Tryz.sizeOf124
 v51:=Tryz.zeroValue124
 t53:=Tryz.underlying185
 a53:=Tryz.isAgg185
 z53:=Tryz.sizeOf185
 v53:=Tryz.zeroValue185
 t171:=Tryz.underlying184
 a171:=Tryz.isAgg184
 z171:=Tryz.sizeOf184
 v171:=Tryz.zeroValue184
 t173:=Tryz.underlying188
 a173:=Tryz.isAgg188
 z173:=Tryz.sizeOf188
 v173:=Tryz.zeroValue188
 t212:=Tryz.underlying212
 a212:=Tryz.isAgg212
 z212:=Tryz.sizeOf212
 v212:=Tryz.zeroValue212
 t213:=Tryz.underlying213
 a213:=Tryz.isAgg213
 z213:=Tryz.sizeOf213
 t232:=Tryz.underlying256
 a232:=Tryz.isAgg256
 z232:=Tryz.sizeOf256
 v232:=Tryz.zeroValue256
 t233:=Tryz.underlying257
 a233:=Tryz.isAgg257
 z233:=Tryz.sizeOf257
 v233:=Tryz.zeroValue257
 g17:=by kernel_rfl
 g18:=by kernel_rfl
 g19:=by kernel_rfl
 i0:=by kernel_rfl
 i2:=by kernel_rfl
 i3:=by kernel_rfl
 i4:=by kernel_rfl
 i5:=by kernel_rfl
 i9:=by kernel_rfl
 i20:=by kernel_rfl
 i37:=by kernel_rfl
 i46:=by kernel_rfl
 i51:=by kernel_rfl
 i53:=by kernel_rfl
 i171:=by kernel_rfl
 i173:=by kernel_rfl
 i212:=by kernel_rfl
 i232:=by kernel_rfl
 i233:=by kernel_rfl
 m17:=by kernel_rfl
 m18:=by kernel_rfl
 m19:=by kernel_rfl}
def Tryz.zin:Go.Shelf.Ren:=⟨fun|219=>38|217=>49|225=>50|224=>51|267=>52|266=>68|314=>69|n=>n,fun|9=>9|3=>3|4=>4|5=>5|46=>25|146=>125|51=>124|n=>n,fun|1=>0|n=>n⟩
theorem Tryz.lays219:Go.Proofs.Lays.n219 Tryz.prog Tryz.zin:= {
 mixed:=by kernel_rfl
 f217:=Tryz.func49.trans (congrArg some (by kernel_rfl))
 f219:=Tryz.func38.trans (congrArg some (by kernel_rfl))
 f224:=Tryz.func51.trans (congrArg some (by kernel_rfl))
 f225:=Tryz.func50.trans (congrArg some (by kernel_rfl))
 f266:=Tryz.func68.trans (congrArg some (by kernel_rfl))
 f267:=Tryz.func52.trans (congrArg some (by kernel_rfl))
 f314:=Tryz.func69.trans (congrArg some (by kernel_rfl))
 t3:=Tryz.underlying3
 a3:=Tryz.isAgg3
 z3:=Tryz.sizeOf3
 v3:=Tryz.zeroValue3
 t4:=Tryz.underlying4
 a4:=Tryz.isAgg4
 z4:=Tryz.sizeOf4
 v4:=Tryz.zeroValue4
 t5:=Tryz.underlying5
 a5:=Tryz.isAgg5
 z5:=Tryz.sizeOf5
 v5:=Tryz.zeroValue5
 t9:=Tryz.underlying9
 a9:=Tryz.isAgg9
 z9:=Tryz.sizeOf9
 v9:=Tryz.zeroValue9
 t46:=Tryz.underlying25
 a46:=Tryz.isAgg25
 z46:=Tryz.sizeOf25
 v46:=Tryz.zeroValue25
 t51:=Tryz.underlying124
 a51:=Tryz.isAgg124
 z51:=Tryz.sizeOf124
 v51:=Tryz.zeroValue124
 t146:=Tryz.underlying125
 a146:=Tryz.isAgg125
 z146:=Tryz.sizeOf125
 v146:=Tryz.zeroValue125
 g1:=by kernel_rfl}
def Tryz.zir:Go.Shelf.Ren:=⟨fun|144=>15|143=>25|219=>38|217=>49|225=>50|224=>51|267=>52|266=>68|314=>69|n=>n,fun|9=>9|4=>4|3=>3|5=>5|46=>25|146=>125|51=>124|n=>n,fun|1=>0|n=>n⟩
theorem Tryz.lays144:Go.Proofs.Lays.n144 Tryz.prog Tryz.zir:= {
 mixed:=by kernel_rfl
 f143:=Tryz.func25.trans (congrArg some (by kernel_rfl))
 f144:=Tryz.func15.trans (congrArg some (by kernel_rfl))
 f217:=Tryz.func49.trans (congrArg some (by kernel_rfl))
 f219:=Tryz.func38.trans (congrArg some (by kernel_rfl))
 f224:=Tryz.func51.trans (congrArg some (by kernel_rfl))
 f225:=Tryz.func50.trans (congrArg some (by kernel_rfl))
 f266:=Tryz.func68.trans (congrArg some (by kernel_rfl))
 f267:=Tryz.func52.trans (congrArg some (by kernel_rfl))
 f314:=Tryz.func69.trans (congrArg some (by kernel_rfl))
 t3:=Tryz.underlying3
 a3:=Tryz.isAgg3
 z3:=Tryz.sizeOf3
 v3:=Tryz.zeroValue3
 t4:=Tryz.underlying4
 a4:=Tryz.isAgg4
 z4:=Tryz.sizeOf4
 v4:=Tryz.zeroValue4
 t5:=Tryz.underlying5
 a5:=Tryz.isAgg5
 z5:=Tryz.sizeOf5
 v5:=Tryz.zeroValue5
 t9:=Tryz.underlying9
 a9:=Tryz.isAgg9
 z9:=Tryz.sizeOf9
 v9:=Tryz.zeroValue9
 t46:=Tryz.underlying25
 a46:=Tryz.isAgg25
 z46:=Tryz.sizeOf25
 v46:=Tryz.zeroValue25
 t51:=Tryz.underlying124
 a51:=Tryz.isAgg124
 z51:=Tryz.sizeOf124
 v51:=Tryz.zeroValue124
 t146:=Tryz.underlying125
 a146:=Tryz.isAgg125
 z146:=Tryz.sizeOf125
 v146:=Tryz.zeroValue125
 g1:=by kernel_rfl}
def Tryz.lays99_ren:Go.Shelf.Ren:=⟨fun|99=>79|206=>98|n=>n,fun|9=>9|4=>4|3=>3|n=>n,fun|n=>n⟩
theorem Tryz.lays99:Go.Proofs.Lays.n99 Tryz.prog Tryz.lays99_ren:= {
 mixed:=by kernel_rfl
 f99:=Tryz.func79.trans (congrArg some (by kernel_rfl))
 f206:=Tryz.func98.trans (congrArg some (by kernel_rfl))
 t3:=Tryz.underlying3
 a3:=Tryz.isAgg3
 z3:=Tryz.sizeOf3
 v3:=Tryz.zeroValue3
 t4:=Tryz.underlying4
 a4:=Tryz.isAgg4
 z4:=Tryz.sizeOf4
 v4:=Tryz.zeroValue4
 t9:=Tryz.underlying9
 a9:=Tryz.isAgg9
 z9:=Tryz.sizeOf9
 v9:=Tryz.zeroValue9}
def Tryz.lays146_ren:Go.Shelf.Ren:=⟨fun|146=>188|221=>205|268=>219|138=>220|143=>25|195=>229|197=>216|218=>230|219=>38|260=>227|217=>49|225=>50|224=>51|267=>52|266=>68|314=>69|n=>n,fun|9=>9|31=>22|3=>3|4=>4|0=>0|105=>268|21=>21|5=>5|46=>25|119=>279|139=>282|138=>281|146=>125|51=>124|n=>n,fun|1=>0|3=>4|4=>5|n=>n⟩
theorem Tryz.lays146:Go.Proofs.Lays.n146 Tryz.prog Tryz.lays146_ren:= {
 mixed:=by kernel_rfl
 f138:=Tryz.func220.trans (congrArg some (by kernel_rfl))
 f143:=Tryz.func25.trans (congrArg some (by kernel_rfl))
 f146:=Tryz.func188.trans (congrArg some (by kernel_rfl))
 f195:=Tryz.func229.trans (congrArg some (by kernel_rfl))
 f197:=Tryz.func216.trans (congrArg some (by kernel_rfl))
 f217:=Tryz.func49.trans (congrArg some (by kernel_rfl))
 f218:=Tryz.func230.trans (congrArg some (by kernel_rfl))
 f219:=Tryz.func38.trans (congrArg some (by kernel_rfl))
 f221:=Tryz.func205.trans (congrArg some (by kernel_rfl))
 f224:=Tryz.func51.trans (congrArg some (by kernel_rfl))
 f225:=Tryz.func50.trans (congrArg some (by kernel_rfl))
 f260:=Tryz.func227.trans (congrArg some (by kernel_rfl))
 f266:=Tryz.func68.trans (congrArg some (by kernel_rfl))
 f267:=Tryz.func52.trans (congrArg some (by kernel_rfl))
 f268:=Tryz.func219.trans (congrArg some (by kernel_rfl))
 f314:=Tryz.func69.trans (congrArg some (by kernel_rfl))
 t0:=Tryz.underlying0
 a0:=Tryz.isAgg0
 z0:=Tryz.sizeOf0
 v0:=Tryz.zeroValue0
 t3:=Tryz.underlying3
 a3:=Tryz.isAgg3
 z3:=Tryz.sizeOf3
 v3:=Tryz.zeroValue3
 t4:=Tryz.underlying4
 a4:=Tryz.isAgg4
 z4:=Tryz.sizeOf4
 v4:=Tryz.zeroValue4
 t5:=Tryz.underlying5
 a5:=Tryz.isAgg5
 z5:=Tryz.sizeOf5
 v5:=Tryz.zeroValue5
 t9:=Tryz.underlying9
 a9:=Tryz.isAgg9
 z9:=Tryz.sizeOf9
 v9:=Tryz.zeroValue9
 t21:=Tryz.underlying21
 a21:=Tryz.isAgg21
 z21:=Tryz.sizeOf21
 v21:=Tryz.zeroValue21
 t31:=Tryz.underlying22
 a31:=Tryz.isAgg22
 z31:=Tryz.sizeOf22
 v31:=Tryz.zeroValue22
 t46:=Tryz.underlying25
 a46:=Tryz.isAgg25
 z46:=Tryz.sizeOf25
 v46:=Tryz.zeroValue25
 t51:=Tryz.underlying124
 a51:=Tryz.isAgg124
 z51:=Tryz.sizeOf124
 v51:=Tryz.zeroValue124
 t105:=Tryz.underlying268
 a105:=Tryz.isAgg268
 z105:=Tryz.sizeOf268
 v105:=Tryz.zeroValue268
 t119:=Tryz.underlying279
 a119:=Tryz.isAgg279
 z119:=Tryz.sizeOf279
 t138:=Tryz.underlying281
 a138:=Tryz.isAgg281
 z138:=Tryz.sizeOf281
 v138:=Tryz.zeroValue281
 t139:=Tryz.underlying282
 a139:=Tryz.isAgg282
 z139:=Tryz.sizeOf282
 v139:=Tryz.zeroValue282
 t146:=Tryz.underlying125
 a146:=Tryz.isAgg125
 z146:=Tryz.sizeOf125
 v146:=Tryz.zeroValue125
 g1:=by kernel_rfl
 g3:=by kernel_rfl
 g4:=by kernel_rfl}
open Go.RowKit in
theorem Tryz.strings_IndexByte (s:ByteArray) (c:Int) (w:World):
 Calls Tryz.prog 177 #[.string s,.int .u8 c] w fun e w'=>e=.returned (.int .i64 (Lib.indexByte s.data.toList c.toNat.toUInt8))∧w'=w:=Any.strings_IndexByte Tryz.lays137 s c w
open Go.RowKit in
theorem Tryz.strings_CutPrefix (s p:ByteArray) (w:World):
 Calls Tryz.prog 172 #[.string s,.string p] w fun e w'=>e=.returned (.tuple #[.string ⟨(Lib.trimPrefix s.data.toList p.data.toList).toArray⟩,.bool (Lib.hasPrefix s.data.toList p.data.toList)])∧w'=w:=Any.strings_CutPrefix Tryz.zvS s p w
open Go.RowKit Go.Sort Go.Lib in
theorem Tryz.strconv_Itoa (n:Int) (h0: -9223372036854775808≤n) (h1:n≤9223372036854775807) (w:World) (htab:Lib.TabIs Tryz.prog w "internal/strconv.uint64pow10" .u64 Lib.pow10Tab):
 Calls Tryz.prog 54 #[.int .i64 n] w fun e w'=>e=.returned (.string ⟨(Lib.itoa n).toArray⟩)∧∃ k os,w'=grow (w.drewN k) os:=Any.strconv_Itoa Tryz.laysM171 n h0 h1 w htab
open Go.RowKit Go.Lib in
theorem Tryz.stringslite_Index_one (s:ByteArray) (c:UInt8) (w:World):
 Calls Tryz.prog 38 #[.string s,.string ⟨#[c]⟩] w fun e w'=>e=.returned (.int .i64 (Lib.indexByte s.data.toList c))∧w'=w:=Any.stringslite_Index_one Tryz.lays219 s c w
open Go.RowKit Go.Lib in
theorem Tryz.strings_Contains_one (s:ByteArray) (c:UInt8) (w:World):
 Calls Tryz.prog 15 #[.string s,.string ⟨#[c]⟩] w fun e w'=>e=.returned (.bool (decide (0≤Lib.indexByte s.data.toList c)))∧w'=w:=Any.strings_Contains_one Tryz.lays144 s c w
open Go.RowKit Go.Lib in
theorem Tryz.strings_HasPrefix (s p:ByteArray) (w:World):
 Calls Tryz.prog 79 #[.string s,.string p] w fun e w'=>e=.returned (.bool (Lib.hasPrefix s.data.toList p.data.toList))∧w'=w:=Any.strings_HasPrefix Tryz.lays99 s p w
open Go.RowKit Go.Lib in
theorem Tryz.strings_Split (s sep:ByteArray) (m:Int) (w:World) (hs:s.size<4294967281) (hm:w.cell? ⟨0,0,none⟩=some (.int .i64 m)) (h1:1≤sep.size):
 Calls Tryz.prog 188 #[.string s,.string sep] w fun e w'=>
  e=.returned (.slice (some ⟨w.heap.size,0,none⟩) (Lib.countB s sep+1) (Lib.countB s sep+1))∧w'=w.alloc (.cells ((Lib.splitB sep 0 (Lib.countB s sep) s).map Value.string).toArray 9):=Any.strings_Split Tryz.lays146 (by kernel_rfl) s sep m w hs hm h1
theorem Tryz.strings_Trim_laid (s cutset:ByteArray) (w:World) (hs:s.size≤9223372036854775807) (hcs:cutset.size<4294967281) (hascii: ∀ (j:Nat) b,cutset.data.toList[j]? =some b→b.toNat<128):
 Calls Tryz.prog 182 #[.string s,.string cutset] w fun e w'=>e=.returned (.string ⟨(Lib.trimS s.data.toList cutset.data.toList).toArray⟩)∧Go.RowKit.Below w.heap.size w w':=Any.strings_Trim_laid Tryz.lays160 (by kernel_rfl) s cutset w hs hcs hascii
theorem Tryz.strings_TrimLeft_laid (s cutset:ByteArray) (w:World) (hcs:cutset.size<4294967281) (hascii: ∀ (j:Nat) b,cutset.data.toList[j]? =some b→b.toNat<128):
 Calls Tryz.prog 225 #[.string s,.string cutset] w fun e w'=>e=.returned (.string ⟨(Lib.trimLeftS s.data.toList cutset.data.toList).toArray⟩)∧Go.RowKit.Below w.heap.size w w':=Any.strings_TrimLeft_laid Tryz.lays161 (by kernel_rfl) s cutset w hcs hascii
end Go.Proofs
namespace Go.Ab
open Go Go.Sep
variable [Facts]
theorem zi7 {w w':World} (h:RowKit.Below w.heap.size w w'):Keeps (fun k=>k<w.heap.size) w w':=⟨h.1,h.2,h.3,h.4,h.5⟩
theorem Spc.of_below {Pr:Program} {f:Nat} {args:List D} {hp:List HO} {d:D} (hf: ∃ fn,Pr.funcs[f]? =some fn∧(fn.name == "runtime.NumGoroutine")=false∧fn.body.isNone=false)
  (h: ∀ (S:Frz) (bs:List Value) (w:World) (vs:List Value),Facts.p w→MDs S bs args vs→∃ v,MD S bs d v∧Calls Pr f vs.toArray w fun e w'=>e=.returned v∧RowKit.Below w.heap.size w w'):Spc Pr f args hp (.ret d) hp:=by
 refine⟨hf,fun S K fr w vs hH hM hA=> ?_⟩;obtain⟨v,hv,hc⟩:=h S _ w vs (At.frz hA).facts hM;refine hc.mono fun e w' he=> ?_;obtain⟨he,hb⟩:=he;subst he;exact⟨S,K,Frz.le.refl S,Ext.refl _,hH,hA.keep (zi7 hb),hv⟩
end Go.Ab
namespace Go.Proofs.YtnpmenpjagcheaaGreatDoor
open Go Go.Sep Go.Ab
set_option maxRecDepth 100000
theorem zjr (s cs:Str):(Lib.trimS s cs).length≤s.length:=by
 unfold Lib.trimS Lib.trimLeftS Lib.trimRightS;refine Nat.le_trans (List.dropWhile_sublist _).length_le ?_;rw [List.length_reverse]
 exact Nat.le_trans (List.dropWhile_sublist _).length_le (by rw [List.length_reverse];exact jL _)
theorem Yk: ∀ (s:Str) (c:UInt8),-1≤Lib.indexByte s c∧Lib.indexByte s c<s.length
 |[],c=>by simp [Lib.indexByte]
 | b ::l,c=>by
   have:=Yk l c;unfold Lib.indexByte;rw [jh]
   split
   · omega
   · split
     · omega
     · omega
def zdd (I:Alg):KU
 |[.v (.one (.p (.str s))),.v (.one (.p (.str ([32,9]))))],[]=>(fun(s:Str)=>(some (.one ⟨I.hid (True),(.ret (.v (.one (.p (.str (I.hid (Lib.trimS s [32,9]))))))),[]⟩):Option CT)) s
 |_,_=>none
theorem znp:zu Tryz.prog 182 (zdd alg):=by
 intro args hp r h;unfold zdd at h;split at h<;>cases h
 rename_i s;simp only [CT.Good,zh];intro _
 refine Spc.of_below ⟨_,Tryz.func182,by kernel_rfl,by kernel_rfl⟩ fun S bs w vs _ hM=> ?_
 obtain⟨v,r,rfl⟩: ∃ v r,vs=v::r:=by cases vs with|nil=>exact hM.elim|cons v r=>exact⟨v,r,rfl⟩
 obtain⟨h1,hM⟩:=hM
 obtain⟨v2,r2,rfl⟩: ∃ v r2,r=v::r2:=by cases r with|nil=>exact hM.elim|cons v r=>exact⟨v,r,rfl⟩
 obtain⟨h2,hM⟩:=hM
 obtain rfl:r2=[]:=by cases r2 with|nil=>rfl|cons v r=>exact hM.elim
 cases h1 with
 | str _ hl1=>
   cases h2 with
   | str _ hl2=>
     refine⟨.string (Sep.S (Lib.trimS s [32,9])),.str _ (Nat.le_trans (zjr _ _) hl1),?_⟩
     exact Tryz.strings_Trim_laid (Sep.S s) (Sep.S [32,9]) w (by have:=hl1;unfold maxLen at this;exact this) (by decide) (fun j b hb=>by
      have:=List.mem_of_getElem? hb
      rcases(by simpa [Sep.S] using this:b=32∨b=9) with rfl|rfl<;>decide)
def zu1:Know Tryz.prog:=⟨182,zdd,znp⟩
def zu0:Know Tryz.prog:=⟨182,fun I=>zx I (zdd I),zf znp⟩
def qg (I:Alg):KU
 |[.v (.one (.p (.str s))),.v (.one (.p (.int .u8 k)))],[]=>(fun(s:Str)=>(some (.one ⟨I.hid (True),(.ret (.v (.one (.p (.int .i64 (I.hid (Lib.indexByte s k.toNat.toUInt8))))))),[]⟩):Option CT)) s
 |_,_=>none
theorem TP:zu Tryz.prog 177 (qg alg):=by
 intro args hp r h;unfold qg at h;split at h<;>cases h
 rename_i s k;simp only [CT.Good,zh];intro _
 refine Spc.of_below ⟨_,Tryz.func177,by kernel_rfl,by kernel_rfl⟩ fun S bs w vs _ hM=> ?_
 obtain⟨v,r,rfl⟩: ∃ v r,vs=v::r:=by cases vs with|nil=>exact hM.elim|cons v r=>exact⟨v,r,rfl⟩
 obtain⟨h1,hM⟩:=hM
 obtain⟨v2,r2,rfl⟩: ∃ v r2,r=v::r2:=by cases r with|nil=>exact hM.elim|cons v r=>exact⟨v,r,rfl⟩
 obtain⟨h2,hM⟩:=hM
 obtain rfl:r2=[]:=by cases r2 with|nil=>rfl|cons v r=>exact hM.elim
 cases h1 with
 | str _ hl1=>
   cases h2 with
   | int _ _=>
     refine⟨.int .i64 (Lib.indexByte s k.toNat.toUInt8),.int _ _,?_⟩;refine(Tryz.strings_IndexByte (Sep.S s) k w).mono fun e w' h=> ?_;obtain⟨he,rfl⟩:=h;exact⟨he,RowKit.Below.refl _ _⟩
def zgj:Know Tryz.prog:=⟨177,qg,TP⟩
def zgi:Know Tryz.prog:=⟨177,fun I=>zx I (qg I),zf TP⟩
def Vp (I:Alg):KU
 |[.v (.one (.p (.str s))),.v (.one (.p (.str ([c]))))],[]=>(fun(s:Str)=>(some (.one ⟨I.hid (True),(.ret (.v (.one (.p (.int .i64 (I.hid (Lib.indexByte s c))))))),[]⟩):Option CT)) s
 |_,_=>none
theorem zgk:zu Tryz.prog 38 (Vp alg):=by
 intro args hp r h;unfold Vp at h;split at h<;>cases h
 rename_i s c;simp only [CT.Good,zh];intro _
 refine Spc.of_below ⟨_,Tryz.func38,by kernel_rfl,by kernel_rfl⟩ fun S bs w vs _ hM=> ?_
 obtain⟨v,r,rfl⟩: ∃ v r,vs=v::r:=by cases vs with|nil=>exact hM.elim|cons v r=>exact⟨v,r,rfl⟩
 obtain⟨h1,hM⟩:=hM
 obtain⟨v2,r2,rfl⟩: ∃ v r2,r=v::r2:=by cases r with|nil=>exact hM.elim|cons v r=>exact⟨v,r,rfl⟩
 obtain⟨h2,hM⟩:=hM
 obtain rfl:r2=[]:=by cases r2 with|nil=>rfl|cons v r=>exact hM.elim
 cases h1 with
 | str _ hl1=>
   cases h2 with
   | str _ _=>
     refine⟨.int .i64 (Lib.indexByte s c),.int _ _,?_⟩;refine(Tryz.stringslite_Index_one (Sep.S s) c w).mono fun e w' h=> ?_;obtain⟨he,rfl⟩:=h;exact⟨he,RowKit.Below.refl _ _⟩
def zpR:Know Tryz.prog:=⟨38,Vp,zgk⟩
def zpQ:Know Tryz.prog:=⟨38,fun I=>zx I (Vp I),zf zgk⟩
end Go.Proofs.YtnpmenpjagcheaaGreatDoor
namespace Go.Proofs.YtnpmenpjagcheaaGreatDoor
open Go Go.Sep Go.Ab
set_option maxRecDepth 100000
def lowK (k:Int):Int:=if 65≤k∧k≤90 then k+32 else k
def zbp (k:Int):Bool:=decide (48≤k∧k≤57)
def XK (k:Int):Bool:=decide (97≤lowK k∧lowK k≤122)
def marks:Str:=[33,35,36,37,38,39,42,43,45,46,94,95,96,124,126]
def tokB (k:Int):Bool:=zbp k||(XK k||decide (0≤Lib.indexByte marks k.toNat.toUInt8))
def zau (k:Int):Bool:=decide (k=9∨32≤k∧k≠127)
def hexK (k:Int):Int:=if zbp k then k - 48 else if XK k&&decide (lowK k≤102) then lowK k - 97+10 else -1
theorem zyE (n:Int) (h:0≤n∧n≤255):IntKind.u8.wrap n=n:=by
 unfold IntKind.wrap
 simp only [show IntKind.u8.signed=false by decide,show IntKind.u8.bits=8 by decide,Bool.false_and,jd,if_false]
 omega
theorem wrap64 (n:Int) (h: -9223372036854775808≤n∧n≤9223372036854775807):IntKind.i64.wrap n=n:=by
 unfold IntKind.wrap
 simp only [show IntKind.i64.signed=true by decide,show IntKind.i64.bits=64 by decide]
 split<;>simp_all<;>omega
theorem zpt {k:Int} (h:0≤k∧k≤255):0≤lowK k∧lowK k≤255:=by unfold lowK;split<;>omega
def QE (I:Alg):KU
 |[.v (.one (.p (.int .u8 k)))],[]=>some (.one ⟨I.hid (True),(.ret (.v (.one (.p (.bool (I.hid (zbp k))))))),[]⟩)
 |_,_=>none
theorem zlv:zu Tryz.prog 31 (QE alg):=by
 intro args hp r h;unfold QE at h;split at h<;>cases h
 rename_i k;simp only [CT.Good,zh];intro _
 refine spH Tryz.func31 (by kernel_rfl) { keep:=some [0,2]} [] (by kernel_rfl) ?_
 intro I X hI hX
 refine orcL ?_;go_invoke;refine orcS (by kernel_rfl) ?_
 simp only [zi,Nat.reduceAdd];subst hI;simp only [nrmA,nrmB];unfold zbp
 exact⟨fun h=>decide_eq_decide.2 (by omega),fun h=>(decide_eq_false (by omega)).symm⟩
def zlu:Know Tryz.prog:=⟨31,QE,zlv⟩
def zlt:Know Tryz.prog:=⟨31,fun I=>zx I (QE I),zf zlv⟩
def Qg (I:Alg):KU
 |[.v (.one (.p (.int .u8 k)))],[]=>some (.one ⟨I.hid (0≤k∧k≤255),(.ret (.v (.one (.p (.int .u8 (I.hid (lowK k))))))),[]⟩)
 |_,_=>none
theorem zkG:zu Tryz.prog 33 (Qg alg):=by
 intro args hp r h;unfold Qg at h;split at h<;>cases h
 rename_i k;simp only [CT.Good,zh];intro hneed
 refine spH Tryz.func33 (by kernel_rfl) { keep:=some [0,2]} [] (by kernel_rfl) ?_
 intro I X hI hX
 refine orcL ?_;go_invoke;refine orcS (by kernel_rfl) ?_
 simp only [zi,Nat.reduceAdd];subst hI;simp only [nrmA,nrmB];unfold lowK
 (repeat' (first|refine ja ?_ ?_|intro _))<;>first|omega|exact jb|exact jc ‹False›|skip
def Qe:Know Tryz.prog:=⟨33,Qg,zkG⟩
def Qd:Know Tryz.prog:=⟨33,fun I=>zx I (Qg I),zf zkG⟩
def Vm (I:Alg):KU
 |[.v (.one (.p (.int .u8 k)))],[]=>some (.one ⟨I.hid (0≤k∧k≤255),(.ret (.v (.one (.p (.bool (I.hid (XK k))))))),[]⟩)
 |_,_=>none
theorem zf7:zu Tryz.prog 32 (Vm alg):=by
 intro args hp r h;unfold Vm at h;split at h<;>cases h
 rename_i k;simp only [CT.Good,zh];intro hneed
 refine spH Tryz.func32 (by kernel_rfl) { keep:=some [0,2]} [Qe,Qd] (by kernel_rfl) ?_
 intro I X hI hX
 refine orcL ?_;go_invoke;refine orcS (by kernel_rfl) ?_
 simp only [zi,Nat.reduceAdd];subst hI;simp only [nrmA,nrmB];unfold XK
 (repeat' (first|refine ja ?_ ?_|intro _))<;>first|omega|exact jb|exact jc ‹False›|skip
 all_goals first|exact decide_eq_decide.2 (by omega)|exact(decide_eq_false (by omega)).symm|exact(decide_eq_true (by omega)).symm|(rw [show(k == 127)=decide (k=127) from rfl,← decide_not];exact decide_eq_decide.2 (by omega))
def zf6:Know Tryz.prog:=⟨32,Vm,zf7⟩
def zf5:Know Tryz.prog:=⟨32,fun I=>zx I (Vm I),zf zf7⟩
def SN (I:Alg):KU
 |[.v (.one (.p (.int .u8 k)))],[]=>some (.one ⟨I.hid (0≤k∧k≤255),(.ret (.v (.one (.p (.bool (I.hid (tokB k))))))),[]⟩)
 |_,_=>none
theorem zjs:zu Tryz.prog 141 (SN alg):=by
 intro args hp r h;unfold SN at h;split at h<;>cases h
 rename_i k;simp only [CT.Good,zh];intro hneed
 refine spH Tryz.func141 (by kernel_rfl) { keep:=some [0,2]} [zgj,zgi,zlu,zlt,zf6,zf5] (by kernel_rfl) ?_
 intro I X hI hX
 refine orcL ?_;go_invoke;refine orcS (by kernel_rfl) ?_
 simp only [zi,Nat.reduceAdd];subst hI;simp only [nrmA,nrmB];unfold tokB marks
 (repeat' (first|refine ja ?_ ?_|intro _))<;>first|omega|exact jb|exact jc ‹False›|skip
 all_goals simp [*]
def Zd:Know Tryz.prog:=⟨141,SN,zjs⟩
def X3:Know Tryz.prog:=⟨141,fun I=>zx I (SN I),zf zjs⟩
def YC (I:Alg):KU
 |[.v (.one (.p (.int .u8 k)))],[]=>some (.one ⟨I.hid (True),(.ret (.v (.one (.p (.bool (I.hid (zau k))))))),[]⟩)
 |_,_=>none
theorem zbP:zu Tryz.prog 19 (YC alg):=by
 intro args hp r h;unfold YC at h;split at h<;>cases h
 rename_i k;simp only [CT.Good,zh];intro _
 refine spH Tryz.func19 (by kernel_rfl) { keep:=some [0,2]} [] (by kernel_rfl) ?_
 intro I X hI hX
 refine orcL ?_;go_invoke;refine orcS (by kernel_rfl) ?_
 simp only [zi,Nat.reduceAdd];subst hI;simp only [nrmA,nrmB];unfold zau
 (repeat' (first|refine ja ?_ ?_|intro _))<;>first|omega|exact jb|exact jc ‹False›|skip
 all_goals first|exact decide_eq_decide.2 (by omega)|exact(decide_eq_false (by omega)).symm|exact(decide_eq_true (by omega)).symm|(rw [show(k == 127)=decide (k=127) from rfl,← decide_not];exact decide_eq_decide.2 (by omega))
def wS:Know Tryz.prog:=⟨19,YC,zbP⟩
def sD:Know Tryz.prog:=⟨19,fun I=>zx I (YC I),zf zbP⟩
def zkV (I:Alg):KU
 |[.v (.one (.p (.int .u8 k)))],[]=>some (.one ⟨I.hid (0≤k∧k≤255),(.ret (.v (.one (.p (.int .i64 (I.hid (hexK k))))))),[]⟩)
 |_,_=>none
theorem zut:zu Tryz.prog 20 (zkV alg):=by
 intro args hp r h;unfold zkV at h;split at h<;>cases h
 rename_i k;simp only [CT.Good,zh];intro hneed
 refine spH Tryz.func20 (by kernel_rfl) { keep:=some [0,2]} [zlu,zlt,Qe,Qd,zf6,zf5] (by kernel_rfl) ?_
 intro I X hI hX
 refine orcL ?_;go_invoke;refine orcS (by kernel_rfl) ?_
 simp only [zi,Nat.reduceAdd];subst hI;simp only [nrmA,nrmB]
 (repeat' (first|refine ja ?_ ?_|intro _))<;>first|omega|exact jb|exact jc ‹False›|skip
 all_goals first
  |(have:=of_decide_eq_true ‹zbp k=true›;omega)
  |(have:=of_decide_eq_true ‹zbp k=true›;unfold hexK;rw [if_pos ‹zbp k=true›,wrap64 _ (by omega)])
  |(have:=of_decide_eq_true ‹XK k=true›;omega)
  |(have:=of_decide_eq_true ‹XK k=true›;rw [wrap64 _ (by omega)];omega)
  |(have:=of_decide_eq_true ‹XK k=true›;rw [wrap64 _ (by omega)];unfold hexK;simp [*])
  |(unfold hexK;simp [*])
def TR:Know Tryz.prog:=⟨20,zkV,zut⟩
def TQ:Know Tryz.prog:=⟨20,fun I=>zx I (zkV I),zf zut⟩
end Go.Proofs.YtnpmenpjagcheaaGreatDoor
namespace Go.Proofs.YtnpmenpjagcheaaGreatDoor
open Go Go.Sep Go.Ab
set_option maxRecDepth 100000
def tokA (s:Str):Bool:=s.all fun c=>tokB (c.toNat:Int)
def XA (s:Str):Bool:=s.all fun c=>zau (c.toNat:Int)
theorem vK (c:UInt8):0≤(c.toNat:Int)∧(c.toNat:Int)≤255:=by have:=c.toNat_lt;omega
theorem zlZ {p:UInt8→Bool} {s:Str} {i:Nat} (h:i<s.length):(s.drop i).all p=(p (s.getD i 0)&&(s.drop (i+1)).all p):=by
 rw [jE h,List.all_cons];simp [h]
def Ue (I:Alg):KU
 |[.v (.one (.p (.str s))),.v (.one (.fn 141 []))],[]=>(fun(s:Str)=>(some (.one ⟨I.hid (s.length≤1000000),(.ret (.v (.one (.p (.bool (I.hid (tokA s))))))),[]⟩):Option CT)) s
 |_,_=>none
theorem zhB:zu Tryz.prog 140 (Ue alg):=by
 intro args hp r h;unfold Ue at h;split at h<;>cases h
 rename_i s;simp only [CT.Good,zh];intro hneed;generalize hr:tokA s=r
 refine spH Tryz.func140 (by kernel_rfl) { keep:=some [0,1,4,5,7,8]} [Zd] (by kernel_rfl) ?_
 intro I X hI hX
 refine orcL ?_;go_invoke;refine orcS (by kernel_rfl) ?_
 simp only [zi,Nat.reduceAdd]
 refine lpH hI [Zd] hX [0,1,7,8] (fun(i:Nat)=>i≤s.length∧tokA (s.drop i)=r) (fun(i:Nat)=>⟨[(0,.v (.one (.p (.str s)))),(1,.v (.one (.fn 141 []))),(7,.v (.one (.p (.int .i64 ((I.len (α:=UInt8) s)))))),(8,.v (.one (.p (.int .i64 i))))],[],18,none⟩) (fun(i:Nat)=>s.length - i) 0 (by kernel_rfl) (by kernel_rfl) ?_ ?_
 · exact⟨jM _,hr⟩
 rintro i ⟨h1,h2⟩ A hA
 refine orcL ?_;go_invoke;refine orcS (by kernel_rfl) ?_
 simp only [zi,Nat.reduceAdd];subst hI;simp only [nrmA,nrmB];have hb:=vK (s.getD i 0);have hd:i<s.length→tokA (s.drop i)=(tokB (s.getD i 0).toNat&&tokA (s.drop (i+1))):=fun h=>zlZ h;generalize s.getD i 0=x at *
 (repeat' (first|refine ja ?_ ?_|intro _))<;>first|omega|exact jb|exact jc ‹False›|skip
 all_goals first
  |(rw [← h2,hd (by omega)];simp [*];done)
  |(refine hA (i+1) ⟨by omega,?_⟩ (by omega);rw [← h2,hd (by omega)];simp [*];done)
  |(rw [← h2,jF (by omega)];rfl)
def Ud:Know Tryz.prog:=⟨140,Ue,zhB⟩
def Uc:Know Tryz.prog:=⟨140,fun I=>zx I (Ue I),zf zhB⟩
def Xm (I:Alg):KU
 |[.v (.one (.p (.str s))),.v (.one (.fn 19 []))],[]=>(fun(s:Str)=>(some (.one ⟨I.hid (s.length≤1000000),(.ret (.v (.one (.p (.bool (I.hid (XA s))))))),[]⟩):Option CT)) s
 |_,_=>none
theorem zc3:zu Tryz.prog 140 (Xm alg):=by
 intro args hp r h;unfold Xm at h;split at h<;>cases h
 rename_i s;simp only [CT.Good,zh];intro hneed;generalize hr:XA s=r
 refine spH Tryz.func140 (by kernel_rfl) { keep:=some [0,1,4,5,7,8]} [wS,Ud,Uc] (by kernel_rfl) ?_
 intro I X hI hX
 refine orcL ?_;go_invoke;refine orcS (by kernel_rfl) ?_
 simp only [zi,Nat.reduceAdd]
 refine lpH hI [wS,Ud,Uc] hX [0,1,7,8] (fun(i:Nat)=>i≤s.length∧XA (s.drop i)=r) (fun(i:Nat)=>⟨[(0,.v (.one (.p (.str s)))),(1,.v (.one (.fn 19 []))),(7,.v (.one (.p (.int .i64 ((I.len (α:=UInt8) s)))))),(8,.v (.one (.p (.int .i64 i))))],[],18,none⟩) (fun(i:Nat)=>s.length - i) 0 (by kernel_rfl) (by kernel_rfl) ?_ ?_
 · exact⟨jM _,hr⟩
 rintro i ⟨h1,h2⟩ A hA
 refine orcL ?_;go_invoke;refine orcS (by kernel_rfl) ?_
 simp only [zi,Nat.reduceAdd];subst hI;simp only [nrmA,nrmB];have hb:=vK (s.getD i 0);have hd:i<s.length→XA (s.drop i)=(zau (s.getD i 0).toNat&&XA (s.drop (i+1))):=fun h=>zlZ h;generalize s.getD i 0=x at *
 (repeat' (first|refine ja ?_ ?_|intro _))<;>first|omega|exact jb|exact jc ‹False›|skip
 all_goals first
  |(rw [← h2,hd (by omega)];simp [*];done)
  |(refine hA (i+1) ⟨by omega,?_⟩ (by omega);rw [← h2,hd (by omega)];simp [*];done)
  |(rw [← h2,jF (by omega)];rfl)
def zc2:Know Tryz.prog:=⟨140,Xm,zc3⟩
def zc1:Know Tryz.prog:=⟨140,fun I=>zx I (Xm I),zf zc3⟩
def Xt (s:Str):Bool:=decide (s≠[])&&tokA s
def Y3 (I:Alg):KU
 |[.v (.one (.p (.str s)))],[]=>(fun(s:Str)=>(some (.one ⟨I.hid (s.length≤1000000),(.ret (.v (.one (.p (.bool (I.hid (Xt s))))))),[]⟩):Option CT)) s
 |_,_=>none
theorem zcr:zu Tryz.prog 102 (Y3 alg):=by
 intro args hp r h;unfold Y3 at h;split at h<;>cases h
 rename_i s;simp only [CT.Good,zh];intro hneed
 refine spH Tryz.func102 (by kernel_rfl) { keep:=some [0,2]} [Zd,X3,Ud,Uc,zc2,zc1] (by kernel_rfl) ?_
 intro I X hI hX
 refine orcL ?_;go_invoke;refine orcS (by kernel_rfl) ?_
 simp only [zi,Nat.reduceAdd];subst hI;simp only [nrmA,nrmB];unfold Xt
 (repeat' (first|refine ja ?_ ?_|intro _))<;>first|omega|exact jb|exact jc ‹False›|skip
 all_goals simp [*]
def sH:Know Tryz.prog:=⟨102,Y3,zcr⟩
def sG:Know Tryz.prog:=⟨102,fun I=>zx I (Y3 I),zf zcr⟩
def rZ (I:Alg):KU
 |[.v (.one (.p (.str s)))],[]=>(fun(s:Str)=>(some (.one ⟨I.hid (s.length≤1000000),(.ret (.v (.one (.p (.bool (I.hid (XA s))))))),[]⟩):Option CT)) s
 |_,_=>none
theorem TN:zu Tryz.prog 104 (rZ alg):=by
 intro args hp r h;unfold rZ at h;split at h<;>cases h
 rename_i s;simp only [CT.Good,zh];intro hneed
 refine spH Tryz.func104 (by kernel_rfl) { keep:=some [0,2]} [wS,sD,Ud,Uc,zc2,zc1] (by kernel_rfl) ?_
 intro I X hI hX
 refine orcL ?_;go_invoke;refine orcS (by kernel_rfl) ?_
 simp only [zi,Nat.reduceAdd];subst hI;simp only [nrmA,nrmB];exact hneed
def wC:Know Tryz.prog:=⟨104,rZ,TN⟩
def wB:Know Tryz.prog:=⟨104,fun I=>zx I (rZ I),zf TN⟩
theorem zzg {p:Int→Prop} [∀ k,Decidable (p k)] (h: ∀ n:Fin 256,p (n.1:Int)) {k:Int} (hk:0≤k∧k≤255):p k:=by
 have:=h ⟨k.toNat,by omega⟩
 rwa [show((k.toNat:Nat):Int)=k by omega] at this
end Go.Proofs.YtnpmenpjagcheaaGreatDoor
namespace Go.Proofs.YtnpmenpjagcheaaGreatDoor
open Go Go.Sep Go.Ab
set_option maxRecDepth 100000
def lowC (x:UInt8):UInt8:=if 65≤x.toNat∧x.toNat≤90 then x+32 else x
def lowS (s:Str):Str:=s.map lowC
theorem vC (s:Str):(lowS s).length=s.length:=by simp [lowS]
theorem zmy (x:UInt8):((lowC x).toNat:Int)=lowK x.toNat:=by
 unfold lowC lowK;have:=x.toNat_lt
 split
 · rw [if_pos (by omega),UInt8.toNat_add]
   simp only [show(32:UInt8).toNat=32 from rfl];omega
 · rw [if_neg (by omega)]
theorem zvR (x:UInt8):UInt8.ofNat (lowK x.toNat).toNat=lowC x:=by
 rw [← zmy,jJ,UInt8.ofNat_toNat]
def bl (c:UInt8):Bool:=([32,9]:Str).contains c
def QV (I:Alg):KU
 |[.v (.one (.p (.str s)))],[]=>(fun(s:Str)=>(some (.one ⟨I.hid (True),(.ret (.v (.one (.p (.str (I.hid (Lib.trimS s [32,9]))))))),[]⟩):Option CT)) s
 |_,_=>none
theorem zlS:zu Tryz.prog 144 (QV alg):=by
 intro args hp r h;unfold QV at h;split at h<;>cases h
 rename_i s;simp only [CT.Good,zh];intro _
 refine spH Tryz.func144 (by kernel_rfl) { keep:=some [0,2]} [zu1,zu0] (by kernel_rfl) ?_
 intro I X hI hX
 refine orcL ?_;go_invoke;refine orcS (by kernel_rfl) ?_
 simp only [zi,Nat.reduceAdd];subst hI;simp only [nrmA,nrmB]
 try trivial
def V8:Know Tryz.prog:=⟨144,QV,zlS⟩
def V7:Know Tryz.prog:=⟨144,fun I=>zx I (QV I),zf zlS⟩
def V9 (I:Alg):KU
 |[.v (.one (.p (.str s)))],[]=>(fun(s:Str)=>(some (.one ⟨I.hid (s.length≤1000000),(.ret (.v (.one (.p (.str (I.hid (lowS s))))))),[]⟩):Option CT)) s
 |_,_=>none
theorem zhs:zu Tryz.prog 143 (V9 alg):=by
 intro args hp r h;unfold V9 at h;split at h<;>cases h
 rename_i s;simp only [CT.Good,zh];intro hneed
 refine spH Tryz.func143 (by kernel_rfl) { keep:=some [0,2,3,4,5,8,9,10]} [Qe,Qd] (by kernel_rfl) ?_
 intro I X hI hX
 refine orcL ?_;go_invoke;refine orcS (by kernel_rfl) ?_
 simp only [zi,Nat.reduceAdd]
 refine lpH hI [Qe,Qd] hX [0,3,8,9,10] (fun(g:Nat × Str)=>match g with|(i,b)=>i≤s.length∧b=lowS (s.take i)++s.drop i) (fun(g:Nat × Str)=>match g with|(i,b)=>⟨[(0,.v (.one (.p (.str s)))),(3,.v (.one (.row 0))),(8,.v (.one (.row 0))),(9,.v (.one (.p (.int .i64 ((I.len (α:=UInt8) s)))))),(10,.v (.one (.p (.int .i64 i))))],[.row .byte 5 b],23,none⟩) (fun(g:Nat × Str)=>match g with|(i,b)=>s.length - i) (0,s) (by kernel_rfl) (by kernel_rfl) ?_ ?_
 · exact⟨jM _,rfl⟩
 rintro⟨i,b⟩ ⟨h1,h2⟩ A hA;simp only at hA
 refine orcL ?_;go_invoke;refine orcS (by kernel_rfl) ?_
 simp only [zi,Nat.reduceAdd];subst hI;simp only [nrmA,nrmB]
 have hlen:b.length=s.length:=by rw [h2,jk,vC,jv,jC];omega
 have hx:i<s.length→b.getD i 0=s.getD i 0:=fun h=>by
  rw [h2,jH,jH,jA (by rw [vC,jv];omega),vC,jv,jG]
  congr 2
  omega
 have hset:i<s.length→b.set i (lowC (s.getD i 0))=lowS (s.take (i+1))++s.drop (i+1):=fun h=>by
  have e:(lowS (s.take i)).length=i:=by rw [vC,jv];omega
  rw [h2,List.set_append_right _ _ (by omega),e,Nat.sub_self,jE h,List.set_cons_zero,jB h,show s.getD i 0=s[i] by simp [h]]
  unfold lowS;rw [List.map_append,jo];rfl
 have hby:=vK (s.getD i 0);have hlk:=zpt hby;refine⟨fun c=> ?_,fun c=> ?_⟩
 · rw [hx (by omega),zvR,hset (by omega)]
   exact⟨by omega,by omega,by omega,by omega,by omega,by omega,by omega,hA (i+1,_) ⟨by simp only;omega,rfl⟩ (by simp only;omega)⟩
 · rw [h2,jF (by omega),jq (by omega),List.append_nil]
def wG:Know Tryz.prog:=⟨143,V9,zhs⟩
def wF:Know Tryz.prog:=⟨143,fun I=>zx I (V9 I),zf zhs⟩
end Go.Proofs.YtnpmenpjagcheaaGreatDoor
namespace Go.Proofs.YtnpmenpjagcheaaGreatDoor
open Go Go.Sep Go.Ab
set_option maxRecDepth 100000
def txtN (base:Nat):Nat→Nat→Str
 |0,_=>[]
 |f+1,n=>if n<base then [if n<10 then UInt8.ofNat (48+n) else UInt8.ofNat (87+n)] else txtN base f (n / base)++[if n % base<10 then UInt8.ofNat (48+n % base) else UInt8.ofNat (87+n % base)]
def dgN (d:Nat):UInt8:=if d<10 then UInt8.ofNat (48+d) else UInt8.ofNat (87+d)
theorem zdc {base f n:Nat} (h:n<base):txtN base (f+1) n=[dgN n]:=by rw [txtN,if_pos h];rfl
theorem zfa {base f n:Nat} (h: ¬ n<base):txtN base (f+1) n=txtN base f (n / base)++[dgN (n % base)]:=by rw [txtN,if_neg h];rfl
theorem zjo (base:Nat): ∀ f n,(txtN base f n).length≤f
 |0,_=>jL _
 | f +1,n=>by
   rw [txtN]
   split
   · simp
   · have:=zjo base f (n / base)
     rw [jk];simp;omega
theorem zkO: ∀ (k n:Nat),n<10 ^ (k+1)→Lib.decDigits n=txtN 10 (k+1) n
 | 0,n,h=>by
   rw [Lib.decDigits,dif_pos (by omega),zdc (by omega)]
   unfold dgN
   rw [if_pos (by omega)]
 | k +1,n,h=>by
   rw [Lib.decDigits]
   by_cases hn:n<10
   · rw [dif_pos hn,zdc hn]
     unfold dgN;rw [if_pos hn]
   · rw [dif_neg hn,zfa hn,zkO k (n / 10) (by rw [Nat.pow_succ] at h;omega)]
     unfold dgN
     rw [if_pos (Nat.mod_lt _ (by decide))]
def decS (n:Int):Str:=txtN 10 9 n.toNat
theorem zkP {n:Int} (h0:0≤n) (h1:n<1000000000):Lib.itoa n=decS n:=by
 unfold Lib.itoa decS
 rw [if_neg (by omega),zkO 8 n.toNat (by omega)]
theorem yE (n:Int):(decS n).length≤9:=zjo 10 9 _
def zef (I:Alg):KU
 |[.v (.one (.p (.int .i64 n)))],[]=>some (.one ⟨I.hid (0≤n∧n<1000000000),(.ret (.v (.one (.p (.str (I.hid (decS n))))))),[]⟩)
 |_,_=>none
theorem zpM:zu Tryz.prog 54 (zef alg):=by
 intro args hp r h;unfold zef at h;split at h<;>cases h
 rename_i n;simp only [CT.Good,zh];intro hneed
 refine Spc.of_below ⟨_,Tryz.func54,by kernel_rfl,by kernel_rfl⟩ fun S bs w vs hW hM=> ?_
 obtain⟨v,r,rfl⟩: ∃ v r,vs=v::r:=by cases vs with|nil=>exact hM.elim|cons v r=>exact⟨v,r,rfl⟩
 obtain⟨h1,hM⟩:=hM
 obtain rfl:r=[]:=by cases r with|nil=>rfl|cons v r=>exact hM.elim
 cases h1 with
 | int _ _=>
   refine⟨.string (Sep.S (decS n)),.str _ (by have:=yE n;unfold maxLen;omega),?_⟩
   rw [← zkP hneed.1 hneed.2]
   refine(Tryz.strconv_Itoa n (by omega) (by omega) w (by first|exact hW|exact hW.1)).mono fun e w' h=> ?_
   obtain⟨he,k,os,rfl⟩:=h;refine⟨he,?_⟩
   exact⟨rfl,rfl,rfl,(show w.heap.size≤(w.heap++os).size by rw [Array.size_append];omega),fun j hj=>show(w.heap++os)[j]? =w.heap[j]? from Array.getElem?_append_left hj⟩
def qH:Know Tryz.prog:=⟨54,zef,zpM⟩
def qG:Know Tryz.prog:=⟨54,fun I=>zx I (zef I),zf zpM⟩
end Go.Proofs.YtnpmenpjagcheaaGreatDoor
namespace Go.Proofs.YtnpmenpjagcheaaGreatDoor
open Go Go.Sep Go.Ab
def hxB (n:Nat):UInt8:=if n<10 then UInt8.ofNat (48+n) else UInt8.ofNat (87+n)
def shB (c:UInt8):Str:=
 if c=13 then [92,114] else if c=10 then [92,110] else if c=92 then [92,92]
 else if c=9∨126<c.toNat∨zau c.toNat=false then [92,120,hxB (c.toNat / 16),hxB (c.toNat % 16)] else [c]
def showS:Str→Str
 |[]=>[]
 |c::r=>shB c++showS r
theorem zfo: ∀ a b:Str,showS (a++b)=showS a++showS b
 |[],b=>rfl
 |c::a,b=>by rw [List.cons_append,showS,showS,zfo a b,jo]
def hexV (a b:UInt8):UInt8:=UInt8.ofNat (16 * hexK a.toNat+hexK b.toNat).toNat
def escV (r:Str):Option (UInt8 × Nat):=
 if r=[] then none
 else if r.getD 0 0=114 then some (13,1)
 else if r.getD 0 0=110 then some (10,1)
 else if r.getD 0 0=92 then some (92,1)
 else if r.getD 0 0=120∧2<r.length∧0≤hexK (r.getD 1 0).toNat∧0≤hexK (r.getD 2 0).toNat then some (hexV (r.getD 1 0) (r.getD 2 0),3)
 else none
def XI:Nat→Str→Option Str
 |_,[]=>some []
 |0,_::_=>none
 |n+1,c::r=>if c≠92 then(XI n r).map (c:: ·) else(match escV r with|none=>none|some y=>(XI n (r.drop y.2)).map (y.1:: ·))
def wW (s:Str):Option Str:=XI s.length s
theorem zaV: ∀ (n m:Nat) (s:Str),s.length≤n→s.length≤m→XI n s=XI m s
 |n,m,[],_,_=>by cases n<;>cases m<;>rfl
 |0,_,_::_,h,_=>by simp at h
 |_+1,0,_::_,_,h=>by simp at h
 | n +1,m+1,c::r,h1,h2=>by
   simp only [jh] at h1 h2
   rw [XI,XI,zaV n m r (by omega) (by omega)]
   split
   · rfl
   cases he:escV r with
   |none=>rfl
   | some y=>
     dsimp only
     rw [zaV n m (r.drop y.2) (by rw [jC];omega) (by rw [jC];omega)]
theorem zmw {c:UInt8} (h:c≠92) (r:Str):wW (c::r)=(wW r).map (c:: ·):=by
 unfold wW;rw [jh,XI,if_pos h]
theorem zpr {r:Str} {y:UInt8 × Nat} (h:escV r=some y):wW (92::r)=(wW (r.drop y.2)).map (y.1:: ·):=by
 unfold wW
 rw [jh,XI,if_neg (by decide),h]
 dsimp only
 rw [zaV r.length (r.drop y.2).length _ (by rw [jC];omega) (jL _)]
theorem zsP {r:Str} (h:escV r=none):wW (92::r)=none:=by
 unfold wW
 rw [jh,XI,if_neg (by decide),h]
theorem zw4 (c:UInt8):(shB c).length≤4∧1≤(shB c).length:=by
 unfold shB
 repeat' split
 all_goals exact⟨by simp only [jh,ji];omega,by simp only [jh,ji];omega⟩
theorem rQ: ∀ b:Str,(showS b).length≤4 * b.length
 |[]=>jL _
 |c::b=>by have:=rQ b;have:=zw4 c;rw [showS,jk,jh];omega
theorem zfZ: ∀ (n:Nat) (s b:Str),XI n s=some b→b.length≤s.length
 |_,[],b,h=>by unfold XI at h;cases h;exact jL _
 |0,_::_,_,h=>by cases h
 | n +1,c::r,b,h=>by
   have go: ∀ (x:UInt8) (t:Str),(XI n t).map (x:: ·)=some b→b.length≤t.length+1:=fun x t k=>by
    cases hm:XI n t with
    |none=>rw [hm] at k;cases k
    |some y=>rw [hm] at k;cases k;have:=zfZ n t y hm;simp only [jh];omega
   rw [XI] at h
   split at h
   · have:=go _ _ h;simp only [jh];omega
   split at h
   · cases h
   · have:=go _ _ h;rw [jC] at this;simp only [jh];omega
theorem zsO {s b:Str} (h:wW s=some b):b.length≤s.length:=zfZ _ s b h
def Yi:List Str→Str
 |[]=>[]
 |[a]=>a
 |a::b::l=>a++[32]++Yi (b::l)
end Go.Proofs.YtnpmenpjagcheaaGreatDoor
namespace Go.Proofs.YtnpmenpjagcheaaGreatDoor
open Go Go.Sep Go.Ab
set_option maxRecDepth 100000
theorem zw5 (c:UInt8):(c.toNat:Int).fdiv (2 ^ min (Int.toNat 4) 64)=((c.toNat / 16:Nat):Int):=by
 have: ∀ k:Fin 256,(k.1:Int).fdiv (2 ^ min (Int.toNat 4) 64)=((k.1 / 16:Nat):Int):=by decide+kernel
 exact this ⟨c.toNat,c.toNat_lt⟩
theorem zw6 (c:UInt8):IntKind.u8.wrap ↑(BitVec.ofInt IntKind.u8.bits (c.toNat:Int)&&& BitVec.ofInt IntKind.u8.bits 15).toNat=((c.toNat % 16:Nat):Int):=by
 have: ∀ k:Fin 256,IntKind.u8.wrap ↑(BitVec.ofInt IntKind.u8.bits (k.1:Int)&&& BitVec.ofInt IntKind.u8.bits 15).toNat=((k.1 % 16:Nat):Int):=by decide+kernel
 exact this ⟨c.toNat,c.toNat_lt⟩
theorem zxP {m:Nat} (h:m<16):([48,49,50,51,52,53,54,55,56,57,97,98,99,100,101,102]:Str).getD m 0=hxB m:=by
 have: ∀ k:Fin 16,([48,49,50,51,52,53,54,55,56,57,97,98,99,100,101,102]:Str).getD k.1 0=hxB k.1:=by decide+kernel
 exact this ⟨m,h⟩
def zdB (I:Alg):KU
 |[.v (.one (.p (.list .byte b)))],[]=>(fun(b:Str)=>(some (.one ⟨I.hid (b.length≤100000000),(.ret (.v (.one (.p (.str (I.hid (showS b))))))),[]⟩):Option CT)) b
 |_,_=>none
set_option maxHeartbeats 4000000 in
theorem znZ:zu Tryz.prog 9 (zdB alg):=by
 intro args hp r h;unfold zdB at h;split at h<;>cases h
 rename_i b;simp only [CT.Good,zh];intro hneed;generalize hr:showS b=r
 refine spH Tryz.func9 (by kernel_rfl) { nr:=[3],keep:=some [0,2,3,5,6,7,8]} [wS,sD] (by kernel_rfl) ?_
 intro I X hI hX
 refine orcL ?_;go_invoke;refine orcS (by kernel_rfl) ?_
 simp only [zi,Nat.reduceAdd]
 refine lpH hI [wS,sD] hX [3,6,7,8] (fun(g:Nat × Str)=>match g with|(i,o)=>i≤b.length∧o=showS (b.take i)) (fun(g:Nat × Str)=>match g with|(i,o)=>⟨[(3,.v (.one (.row 0))),(6,.v (.one (.p (.list .byte b)))),(7,.v (.one (.p (.int .i64 ((I.len (α:=UInt8) b)))))),(8,.v (.one (.p (.int .i64 i))))],[.row .byte 5 o],57,none⟩) (fun(g:Nat × Str)=>match g with|(i,o)=>b.length - i) (0,[]) (by kernel_rfl) (by kernel_rfl) ?_ ?_
 · exact⟨jM _,rfl⟩
 rintro⟨i,o⟩ ⟨h1,h2⟩ A hA;simp only at hA
 refine orcL ?_;go_invoke;refine orcS (by kernel_rfl) ?_
 simp only [zi,Nat.reduceAdd];subst hI;simp only [nrmA,nrmB,nrlB,reduceCtorEq]
 have hs:i<b.length→showS (b.take (i+1))=o++shB (b.getD i 0):=fun h=>by
  rw [jB h,zfo,← h2,show b.getD i 0=b[i] by simp [h]]
  simp [showS]
 have ho:o.length≤4 * i:=by
  rw [h2];have:=rQ (b.take i);rw [jv] at this;omega
 have hend: ¬ i<b.length→o=r:=fun h=>by rw [h2,jq (by omega),hr]
 have hgo: ∀ x,i<b.length→shB (b.getD i 0)=x→_:=fun x h e=>hA (i+1,o++x) ⟨by show i+1≤b.length;omega,by show o++x=_;rw [hs h,e]⟩ (by show b.length - (i+1)<b.length - i;omega)
 simp only [zw5,zw6];clear hA hs;generalize b.getD i 0=c at *;have hc:=c.toNat_lt;have h13:c.toNat=13→c=13:=fun h=>UInt8.toNat_inj.1 h;have h10:c.toNat=10→c=10:=fun h=>UInt8.toNat_inj.1 h;have h92:c.toNat=92→c=92:=fun h=>UInt8.toNat_inj.1 h;have h9:c.toNat=9→c=9:=fun h=>UInt8.toNat_inj.1 h
 have n13:c.toNat≠13→¬ c=13:=fun h e=>h (by rw [e];rfl)
 have n10:c.toNat≠10→¬ c=10:=fun h e=>h (by rw [e];rfl)
 have n92:c.toNat≠92→¬ c=92:=fun h e=>h (by rw [e];rfl)
 have n9:c.toNat≠9→¬ c=9:=fun h e=>h (by rw [e];rfl)
 simp only [jJ,zxP (show c.toNat / 16<16 by omega),zxP (show c.toNat % 16<16 by omega)]
 have hx1:=(hxB (c.toNat / 16)).toNat_lt;have hx2:=(hxB (c.toNat % 16)).toNat_lt
 have e1:c.toNat=13→shB c=[92,114]:=fun h=>by unfold shB;rw [if_pos (h13 h)]
 have e2:c.toNat=10→shB c=[92,110]:=fun h=>by unfold shB;rw [if_neg (n13 (by omega)),if_pos (h10 h)]
 have e3:c.toNat=92→shB c=[92,92]:=fun h=>by unfold shB;rw [if_neg (n13 (by omega)),if_neg (n10 (by omega)),if_pos (h92 h)]
 have e4:c.toNat≠13→c.toNat≠10→c.toNat≠92→(c.toNat=9∨126<c.toNat∨zau c.toNat=false)→shB c=[92,120]++[hxB (c.toNat / 16),hxB (c.toNat % 16)]:=fun a1 a2 a3 h=>by
  unfold shB;rw [if_neg (n13 a1),if_neg (n10 a2),if_neg (n92 a3),if_pos (h.imp h9 id)];rfl
 have e5:c.toNat≠13→c.toNat≠10→c.toNat≠92→c.toNat≠9→c.toNat≤126→zau c.toNat=true→shB c=[c]:=fun a1 a2 a3 a4 a5 a6=>by
  unfold shB
  rw [if_neg (n13 a1),if_neg (n10 a2),if_neg (n92 a3),if_neg (fun h=>by
   rcases h with h|h|h
   · exact n9 a4 h
   · omega
   · rw [a6] at h;cases h)]
 have k1:=fun h e=>hgo _ h (e1 e);have k2:=fun h e=>hgo _ h (e2 e);have k3:=fun h e=>hgo _ h (e3 e);have k4:=fun h a1 a2 a3 e=>hgo _ h (e4 a1 a2 a3 e);have k5:=fun h a1 a2 a3 a4 a5 a6=>hgo _ h (e5 a1 a2 a3 a4 a5 a6);clear hgo e1 e2 e3 e4 e5 h13 h10 h92 h9 n13 n10 n92 n9;simp only [← jo] at k4
 (repeat' (first|refine ja ?_ ?_|intro _))<;>first|omega|exact jb|exact jc ‹False›|skip
 all_goals first
  |omega
  |exact hend (by omega)
  |exact k1 (by omega) (by omega)
  |exact k2 (by omega) (by omega)
  |exact k3 (by omega) (by omega)
  |exact k4 (by omega) (by omega) (by omega) (by omega) (.inl (by omega))
  |exact k4 (by omega) (by omega) (by omega) (by omega) (.inr (.inl (by omega)))
  |exact k4 (by omega) (by omega) (by omega) (by omega) (.inr (.inr ‹_›))
  |exact k5 (by omega) (by omega) (by omega) (by omega) (by omega) (by omega) ‹_›
  |(simp only [jk,jh,ji] at *;omega)
  |(with_reducible show(4:Int)≤_;decide)
def zdA:Know Tryz.prog:=⟨9,zdB,znZ⟩
def zdz:Know Tryz.prog:=⟨9,fun I=>zx I (zdB I),zf znZ⟩
theorem zei (c:UInt8): -1≤hexK c.toNat∧hexK c.toNat≤15:=by
 have: ∀ k:Fin 256,-1≤hexK (k.1:Int)∧hexK (k.1:Int)≤15:=by decide+kernel
 exact this ⟨c.toNat,c.toNat_lt⟩
theorem zeA (s:Str) (i k:Nat):(s.drop i).getD k 0=s.getD (i+k) 0:=by
 simp [jH]
theorem zwv (s:Str) (j:Nat):escV (s.drop j)=if s.length≤j then none
  else if s.getD j 0=114 then some (13,1)
  else if s.getD j 0=110 then some (10,1)
  else if s.getD j 0=92 then some (92,1)
  else if s.getD j 0=120∧2<s.length - j∧0≤hexK (s.getD (j+1) 0).toNat∧0≤hexK (s.getD (j+2) 0).toNat then some (hexV (s.getD (j+1) 0) (s.getD (j+2) 0),3)
  else none:=by
 unfold escV;rw [zeA s j 0,zeA s j 1,zeA s j 2,jC,Nat.add_zero]
 by_cases h:s.length≤j
 · rw [if_pos h,if_pos (jF h)]
 · rw [if_neg h,if_neg (fun k=>by have:=congrArg List.length k;rw [jC,ji] at this;omega)]
structure zzl (s:Str) (r:Option Str) (i:Nat) (o:Str) (c0 c1 c2 c3:UInt8):Prop where
 e0: ¬ i<s.length→r=some o
 e1:i<s.length→¬ (c0.toNat:Int)=92→r=(wW (s.drop (i+1))).map ((o++[c0])++ ·)
 e2:i<s.length→(c0.toNat:Int)=92→(s.length:Int)≤i+1→r=none
 e3:i<s.length→(c0.toNat:Int)=92→¬ (s.length:Int)≤i+1→(c1.toNat:Int)=114→r=(wW (s.drop (i+1+1))).map ((o++[13])++ ·)
 e4:i<s.length→(c0.toNat:Int)=92→¬ (s.length:Int)≤i+1→(c1.toNat:Int)=110→r=(wW (s.drop (i+1+1))).map ((o++[10])++ ·)
 e5:i<s.length→(c0.toNat:Int)=92→¬ (s.length:Int)≤i+1→(c1.toNat:Int)=92→r=(wW (s.drop (i+1+1))).map ((o++[92])++ ·)
 e6:i<s.length→(c0.toNat:Int)=92→¬ (s.length:Int)≤i+1→(c1.toNat:Int)=120→(i:Int)+1+2<s.length→0≤hexK c2.toNat→0≤hexK c3.toNat→r=(wW (s.drop (i+1+3))).map ((o++[UInt8.ofNat (IntKind.u8.wrap (16 * hexK c2.toNat+hexK c3.toNat)).toNat])++ ·)
 e7:i<s.length→(c0.toNat:Int)=92→¬ (s.length:Int)≤i+1→¬ (c1.toNat:Int)=114→¬ (c1.toNat:Int)=110→¬ (c1.toNat:Int)=92→(¬ (c1.toNat:Int)=120∨¬ (i:Int)+1+2<s.length∨hexK c2.toNat<0∨hexK c3.toNat<0)→r=none
 w:0≤hexK c2.toNat→0≤hexK c3.toNat→0≤IntKind.u8.wrap (16 * hexK c2.toNat+hexK c3.toNat)∧IntKind.u8.wrap (16 * hexK c2.toNat+hexK c3.toNat)≤255
theorem zvN {s:Str} {r:Option Str} {i:Nat} {o:Str} (h3:r=(wW (s.drop i)).map (o++ ·)):zzl s r i o (s.getD i 0) (s.getD (i+1) 0) (s.getD (i+2) 0) (s.getD (i+3) 0):=by
 have hd:i<s.length→s.drop i=s.getD i 0::s.drop (i+1):=fun h=>by rw [jE h,show s.getD i 0=s[i] by simp [h]]
 have i92: ∀ {c:UInt8},(c.toNat:Int)=92→c=92:=fun h=>UInt8.toNat_inj.1 (show _=92 by omega)
 have hq: ∀ y,i<s.length→s.getD i 0=92→escV (s.drop (i+1))=some y→r=(wW (s.drop (i+1+y.2))).map ((o++[y.1])++ ·):=fun y h k e=>by
  rw [h3,hd h,k,zpr e,List.drop_drop]
  cases wW (s.drop (i+1+y.2))<;>simp
 have hn:i<s.length→s.getD i 0=92→escV (s.drop (i+1))=none→r=none:=fun h k e=>by
  rw [h3,hd h,k,zsP e];rfl
 have hv:=zwv s (i+1);generalize escV (s.drop (i+1))=E at *;rw [show i+1+1=i+2 from rfl,show i+1+2=i+3 from rfl] at hv;generalize s.getD (i+1) 0=c1 at *;generalize s.getD (i+2) 0=c2 at *;generalize s.getD (i+3) 0=c3 at *;have x2:=zei c2;have x3:=zei c3
 have t1: ∀ k:UInt8,¬ (c1.toNat:Int)=k.toNat→¬ c1=k:=fun k h e=>h (by rw [e])
 have t2: ∀ k:UInt8,(c1.toNat:Int)=k.toNat→c1=k:=fun k h=>UInt8.toNat_inj.1 (by omega)
 have w:0≤hexK c2.toNat→0≤hexK c3.toNat→IntKind.u8.wrap (16 * hexK c2.toNat+hexK c3.toNat)=16 * hexK c2.toNat+hexK c3.toNat:=fun k2 k3=>
  Ul (k:=.u8) (show IntKind.u8.min≤16 * hexK c2.toNat+hexK c3.toNat∧16 * hexK c2.toNat+hexK c3.toNat≤IntKind.u8.max by rw [show IntKind.u8.min=0 from rfl,show IntKind.u8.max=255 by decide];omega)
 refine⟨fun h=>by rw [h3,jF (by omega)];show some (o++[])=_;rw [List.append_nil],fun h k=> ?_,fun h k e=> ?_,fun h k e f=> ?_,fun h k e f=> ?_,fun h k e f=> ?_,fun h k e f g a b=> ?_,fun h k e f1 f2 f3 f4=> ?_,fun a b=> ?_⟩
 · rw [h3,hd h,zmw (fun e=>k (by rw [e];rfl))]
   cases wW (s.drop (i+1))<;>simp
 · exact hn h (i92 k) (by rw [hv,if_pos (by omega)])
 · exact hq (13,1) h (i92 k) (by rw [hv,if_neg (by omega),if_pos (t2 114 f)])
 · exact hq (10,1) h (i92 k) (by rw [hv,if_neg (by omega),if_neg (by rw [t2 110 f];decide),if_pos (t2 110 f)])
 · exact hq (92,1) h (i92 k) (by rw [hv,if_neg (by omega),if_neg (by rw [t2 92 f];decide),if_neg (by rw [t2 92 f];decide),if_pos (t2 92 f)])
 · rw [w a b]
   exact hq (hexV c2 c3,3) h (i92 k) (by rw [hv,if_neg (by omega),if_neg (by rw [t2 120 f];decide),if_neg (by rw [t2 120 f];decide),if_neg (by rw [t2 120 f];decide),if_pos ⟨t2 120 f,by omega,a,b⟩])
 · exact hn h (i92 k) (by
    rw [hv,if_neg (by omega),if_neg (t1 114 f1),if_neg (t1 110 f2),if_neg (t1 92 f3),if_neg (fun q=>by
     rcases f4 with f|f|f|f
     · exact f (by rw [q.1];rfl)
     · exact f (by omega)
     · exact absurd q.2.2.1 (by omega)
     · exact absurd q.2.2.2 (by omega))])
 · rw [w a b];exact⟨by omega,by omega⟩
def zd8 (I:Alg):KU
 |[.v (.one (.p (.str s)))],[]=>(fun(s:Str)=>(some (.one ⟨I.hid (s.length≤10000000),(.ret (.tup [.one (.row 0),.one (.p (.bool (I.hid ((wW s).isSome))))])),[.row .byte 5 (I.hid ((wW s).getD []))]⟩):Option CT)) s
 |_,_=>none
set_option maxHeartbeats 4000000 in
theorem zpq:zu Tryz.prog 10 (zd8 alg):=by
 intro args hp r h;unfold zd8 at h;split at h<;>cases h
 rename_i s;simp only [CT.Good,zh];intro hneed;generalize hr:wW s=r
 refine spH Tryz.func10 (by kernel_rfl) { nr:=[4],keep:=some [0,2,3,4,5]} [TR,TQ] (by kernel_rfl) ?_
 intro I X hI hX
 refine orcL ?_;go_invoke;refine orcS (by kernel_rfl) ?_
 simp only [zi,Nat.reduceAdd]
 refine lpH hI [TR,TQ] hX [0,4,5] (fun(g:Nat × Str)=>match g with|(i,o)=>i≤s.length∧o.length≤i∧r=(wW (s.drop i)).map (o++ ·)) (fun(g:Nat × Str)=>match g with|(i,o)=>⟨[(0,.v (.one (.p (.str s)))),(4,.v (.one (.row 0))),(5,.v (.one (.p (.int .i64 i))))],[.row .byte 5 o],100,none⟩) (fun(g:Nat × Str)=>match g with|(i,o)=>s.length - i) (0,[]) (by kernel_rfl) (by kernel_rfl) ?_ ?_
 · exact⟨jM _,jM _,by show r=_;rw [← hr];show wW s=(wW (s.drop 0)).map _;rw [List.drop_zero];cases wW s<;>rfl⟩
 rintro⟨i,o⟩ ⟨h1,h2,h3⟩ A hA;simp only at hA
 refine orcL ?_;go_invoke;refine orcS (by kernel_rfl) ?_
 simp only [zi,Nat.reduceAdd];subst hI;simp only [nrmA,nrmB,nrlB,reduceCtorEq]
 have q1:((i:Int)+1).toNat=i+1:=by omega
 have q2:((i:Int)+1+1).toNat=i+2:=by omega
 have q3:((i:Int)+1+2).toNat=i+3:=by omega
 simp only [q1,q2,q3];obtain⟨e0,e1,e2,e3,e4,e5,e6,e7,w⟩:=zvN h3
 have hgo: ∀ (j:Nat) (x:Str),j≤s.length→i<j→x.length≤j→r=(wW (s.drop j)).map (x++ ·)→_:=fun j x a b c d=>hA (j,x) ⟨a,c,d⟩ (by show s.length - j<s.length - i;omega)
 simp only at hgo;clear hA hr h3;generalize s.getD i 0=c0 at *;generalize s.getD (i+1) 0=c1 at *;generalize s.getD (i+2) 0=c2 at *;generalize s.getD (i+3) 0=c3 at *;have b0:=c0.toNat_lt;have b1:=c1.toNat_lt;have b2:=c2.toNat_lt;have b3:=c3.toNat_lt;have x2:=zei c2;have x3:=zei c3
 have lo: ∀ x:UInt8,(o++[x]).length≤i+1:=fun x=>by rw [jk,jr];omega
 have m1:=fun h1 h2=>hgo (i+1) (o++[c0]) (by omega) (by omega) (lo c0) (e1 h1 h2)
 have m3:=fun h h1 h2 h3 h4=>hgo (i+1+1) (o++[13]) h (by omega) (Nat.le_succ_of_le (lo 13)) (e3 h1 h2 h3 h4)
 have m4:=fun h h1 h2 h3 h4=>hgo (i+1+1) (o++[10]) h (by omega) (Nat.le_succ_of_le (lo 10)) (e4 h1 h2 h3 h4)
 have m5:=fun h h1 h2 h3 h4=>hgo (i+1+1) (o++[92]) h (by omega) (Nat.le_succ_of_le (lo 92)) (e5 h1 h2 h3 h4)
 have m6:=fun h h1 h2 h3 h4 h5 h6 h7=>hgo (i+1+3) (o++[UInt8.ofNat (IntKind.u8.wrap (16 * hexK c2.toNat+hexK c3.toNat)).toNat]) h (by omega) (Nat.le_trans (lo _) (by omega)) (e6 h1 h2 h3 h4 h5 h6 h7)
 clear hgo e1 e3 e4 e5 e6;rw [show UInt8.ofNat (Int.toNat 13)=13 from rfl,show UInt8.ofNat (Int.toNat 10)=10 from rfl,show UInt8.ofNat (Int.toNat 92)=92 from rfl]
 (repeat' (first|refine ja ?_ ?_|intro _))<;>first|omega|exact jb|exact jc ‹False›|skip
 all_goals first
  |omega
  |exact m1 (by omega) (by omega)
  |(rw [e0 (by omega)];rfl)
  |exact m3 (by omega) (by omega) (by omega) (by omega) (by omega)
  |exact m4 (by omega) (by omega) (by omega) (by omega) (by omega)
  |exact m5 (by omega) (by omega) (by omega) (by omega) (by omega)
  |exact m6 (by omega) (by omega) (by omega) (by omega) (by omega) (by omega) (by omega) (by omega)
  |(rw [e2 (by omega) (by omega) (by omega)];rfl)
  |(rw [e7 (by omega) (by omega) (by omega) (by omega) (by omega) (by omega) (by omega)];rfl)
  |with_reducible exact(w (by omega) (by omega)).1
  |with_reducible exact(w (by omega) (by omega)).2
  |(simp only [jk,jh,ji] at *;omega)
def zvP:Know Tryz.prog:=⟨10,zd8,zpq⟩
def zvO:Know Tryz.prog:=⟨10,fun I=>zx I (zd8 I),zf zpq⟩
end Go.Proofs.YtnpmenpjagcheaaGreatDoor
namespace Go.Proofs.YtnpmenpjagcheaaGreatDoor
open Go Go.Sep Go.Ab Go.RowKit
set_option maxRecDepth 100000
set_option maxHeartbeats 2000000
theorem zw3:(Tryz.prog.info? 43).map (·.size)=some 2:=by kernel_rfl
theorem ccU (b:Nat) (w:World) (h0:w.cell? ⟨b,0,none⟩=some (.pointer (some ⟨b,0,none⟩))):Calls Tryz.prog 59 #[.pointer (some ⟨b,0,none⟩)] w fun e w'=>e=.returned (.tuple #[])∧w'=w:=by
 obtain⟨j,hj,_⟩:=Option.map_eq_some_iff.1 zw3
 go_enter Tryz.func59,Tryz.ntmps59
 go_wp2
 rw [Lib.run_neq_ptr_same w _ Tryz.underlying41 hj]
 go_wp2
 go_end0
 exact⟨rfl,rfl⟩
theorem ccF (b T n:Nat) (w:World) (h0:w.cell? ⟨b,0,none⟩=some (.pointer none)) (hsh:w.shape? b=some (T,n)) (hn:0<n) (hl:liesAt Tryz.prog Tryz.prog.depth T (n / Tryz.prog.cellsOf T) 0 43 1=true) (hfz:w.frozen? ⟨b,0,none⟩=false):Calls Tryz.prog 59 #[.pointer (some ⟨b,0,none⟩)] w fun e w'=>e=.returned (.tuple #[])∧w'=w.setCell ⟨b,0,none⟩ (.pointer (some ⟨b,0,none⟩)):=by
 obtain⟨j,hj,hjs⟩:=Option.map_eq_some_iff.1 zw3
 go_enter Tryz.func59,Tryz.ntmps59
 go_wp2
 rw [Lib.run_to_unsafe w ⟨b,0,none⟩ Tryz.underlying41 Tryz.underlying132 hj (by rw [hjs];decide) hsh hn]
 simp only [Result.andThen];rw [Oper.upon_value]
 go_wp2
 rw [run_callFunc_extern Tryz.func74 (by kernel_rfl) (by kernel_rfl) (by kernel_rfl) (e:=Extern.AbiNoEscape.same) (by kernel_rfl)]
 rw [Lib.run_noEscape];simp only [Result.andThen];rw [Oper.upon_value]
 go_wp2
 rw [Lib.run_from_unsafe w ⟨b,0,none⟩ Tryz.underlying132 Tryz.underlying41 hj hsh hl];simp only [Result.andThen];rw [Oper.upon_value]
 go_wp2
 go_end0
 exact⟨rfl,rfl⟩
end Go.Proofs.YtnpmenpjagcheaaGreatDoor
namespace Go.Proofs.YtnpmenpjagcheaaGreatDoor
open Go Go.Sep Go.Ab Go.RowKit
set_option maxRecDepth 100000
set_option maxHeartbeats 2000000
theorem zwC (T:Nat) (cs:List C) (r:List HO):Spc Tryz.prog 59 [.v (.one (.ptr 0 0))] (.obj T (.ptr 0 0::cs)::r) (.ret (.tup [])) (.obj T (.ptr 0 0::cs)::r):=by
 refine⟨⟨_,Tryz.func59,by kernel_rfl,by kernel_rfl⟩,fun S K fr w vs hH hM hA=> ?_⟩
 obtain⟨v,q,rfl⟩: ∃ v q,vs=v::q:=by cases vs with|nil=>exact hM.elim|cons v q=>exact⟨v,q,rfl⟩
 obtain⟨h1,hM⟩:=hM
 obtain rfl:q=[]:=by cases q with|nil=>rfl|cons v q=>exact hM.elim
 obtain⟨c,hc,hr⟩:=hH.get (k:=0) rfl
 obtain⟨K',rfl⟩: ∃ K',K=c::K':=by cases K with|nil=>cases hc|cons d K'=>cases hc;exact⟨K',rfl⟩
 cases hr with
 | @obj _ b _ _ ws hcs=>
   obtain⟨b1,hb1,rfl⟩:=h1;cases hb1
   obtain⟨v0,wr,rfl⟩: ∃ v0 wr,ws=v0::wr:=by cases ws with|nil=>exact hcs.elim|cons v q=>exact⟨v,q,rfl⟩
   obtain⟨⟨b2,hb2,e2⟩,_⟩:=id hcs;cases hb2;have hcell:=At.cell (At.swap hA) 0;rw [List.getElem?_cons_zero,e2] at hcell;refine(ccU b w hcell).mono fun e w' h=> ?_;obtain⟨rfl,rfl⟩:=h;exact⟨S,_,Frz.le.refl S,Ext.refl _,hH,hA,[],trivial,rfl⟩
theorem zrd (T n:Nat) (hl:liesAt Tryz.prog Tryz.prog.depth T (n / Tryz.prog.cellsOf T) 0 43 1=true) (hn:0<n) (cs:List C) (hcl:cs.length+1=n) (r:List HO):Spc Tryz.prog 59 [.v (.one (.ptr 0 0))] (.obj T (.p (.val (.pointer none))::cs)::r) (.ret (.tup [])) (.obj T (.ptr 0 0::cs)::r):=by
 refine⟨⟨_,Tryz.func59,by kernel_rfl,by kernel_rfl⟩,fun S K fr w vs hH hM hA=> ?_⟩
 obtain⟨v,q,rfl⟩: ∃ v q,vs=v::q:=by cases vs with|nil=>exact hM.elim|cons v q=>exact⟨v,q,rfl⟩
 obtain⟨h1,hM⟩:=hM
 obtain rfl:q=[]:=by cases q with|nil=>rfl|cons v q=>exact hM.elim
 obtain⟨c,hc,hr⟩:=hH.get (k:=0) rfl
 obtain⟨K',rfl⟩: ∃ K',K=c::K':=by cases K with|nil=>cases hc|cons d K'=>cases hc;exact⟨K',rfl⟩
 cases hr with
 | @obj _ b _ _ ws hcs=>
   obtain⟨b1,hb1,rfl⟩:=h1;cases hb1
   obtain⟨v0,wr,rfl⟩: ∃ v0 wr,ws=v0::wr:=by cases ws with|nil=>exact hcs.elim|cons v q=>exact⟨v,q,rfl⟩
   have hlen:wr.length+1=n:=hcs.length.trans hcl;obtain⟨e2,hcr⟩:=hcs;cases e2;have hA0:=At.swap hA;have hcell:=At.cell hA0 0;rw [List.getElem?_cons_zero] at hcell;have ho:=At.obj hA0
   have hsh:w.shape? b=some (T,n):=by
    subst hlen;simp only [World.shape?,ho];rfl
   refine(ccF b T n w hcell hsh hn hl (At.free hA0 0)).mono fun e w' h=> ?_;obtain⟨rfl,rfl⟩:=h;refine⟨S,CO.obj b T (.pointer (some ⟨b,0,none⟩)::wr)::K',Frz.le.refl S,Ext.refl _,⟨hH.1,?_⟩,At.swap (At.store hA0 0 _),[],trivial,rfl⟩;intro i o c h1 h2
   cases i with
   |zero=>cases h1;cases h2;exact .obj ⟨⟨b,rfl,rfl⟩,hcr⟩
   |succ i=>exact hH.2 (i+1) o c h1 h2
theorem nlW {S0:Frz} {bs:List Value} {T:Nat} {x:C} {cs:List C} {c:CO} (h:Rel S0 bs (.obj T (x:: .p (.nl [])::cs)) c):Rel S0 bs (.obj T (x:: .nilS::cs)) c:=by
 cases h with
 | @obj _ _ _ _ ws hcs=>
   match ws,hcs with
   | v0::v1::ws,⟨a,b,r⟩=>
     refine .obj ⟨a,?_,r⟩
     cases b with
     |nl _ _ h0 _=>exact h0 rfl
theorem zyp (T:Nat) (hl:liesAt Tryz.prog Tryz.prog.depth T (2 / Tryz.prog.cellsOf T) 0 43 1=true) (r:List HO):Spc Tryz.prog 59 [.v (.one (.ptr 0 0))] (.obj T [.p (.val (.pointer none)),.p (.nl [])]::r) (.ret (.tup [])) (.obj T [.ptr 0 0,.nilS]::r):=by
 have h:=zrd T 2 hl (by decide) [.nilS] rfl r
 refine⟨h.1,fun S K fr w vs hH hM hA=>h.2 S K fr w vs ⟨hH.1,fun i o c a b=> ?_⟩ hM hA⟩
 cases i with
 |zero=>cases a;exact nlW (hH.2 0 _ c rfl b)
 |succ i=>exact hH.2 (i+1) o c a b
def zwD (I:Alg) (args:List D) (hp:List HO):Option CT:=match args,hp with
 |[.v (.one (.ptr 0 0))],.obj T (.ptr 0 0::cs)::r=>some (.one ⟨I.hid True,.ret (.tup []),.obj T (.ptr 0 0::cs)::r⟩)
 |[.v (.one (.ptr 0 0))],.obj T [.p (.val (.pointer none)),.p (.nl [])]::r=>(match Nat.beq T 43 with|true=>some (.one ⟨I.hid True,.ret (.tup []),.obj T [.ptr 0 0,.nilS]::r⟩)|false=>none)
 |[.v (.one (.ptr 0 0))],.obj T [.p (.val (.pointer none)),x]::r=>(match Nat.beq T 43 with|true=>some (.one ⟨I.hid True,.ret (.tup []),.obj T [.ptr 0 0,x]::r⟩)|false=>none)
 |[.v (.one (.ptr 0 0))],.obj T [.p (.val (.pointer none)),x,y]::r=>(match Nat.beq T 45 with|true=>some (.one ⟨I.hid True,.ret (.tup []),.obj T [.ptr 0 0,x,y]::r⟩)|false=>none)
 |[.v (.one (.ptr 0 0))],[.pack [.obj T [.ptr 0 0,.row 1],.row u E l]]=>some (.one ⟨I.hid True,.ret (.tup []),[.pack [.obj T [.ptr 0 0,.row 1],.row u E l]]⟩)
 |[.v (.one (.ptr 0 0))],[.pack [.obj T [.p (.val (.pointer none)),.p (.nl [])]]]=>(match Nat.beq T 43 with|true=>some (.one ⟨I.hid True,.ret (.tup []),[.pack [.obj T [.ptr 0 0,.nilS]]]⟩)|false=>none)
 |[.v (.one (.ptr 0 0))],[.pack [.obj T [.p (.val (.pointer none)),.nilS]]]=>(match Nat.beq T 43 with|true=>some (.one ⟨I.hid True,.ret (.tup []),[.pack [.obj T [.ptr 0 0,.nilS]]]⟩)|false=>none)
 |[.v (.one (.ptr 0 0))],[.abs (.dk ⟨o,true,true,l,n,b,s,c0,c1,c2,c3,t⟩)]=>some (.one ⟨I.hid True,.ret (.tup []),[.abs (.dk ⟨o,true,true,l,n,b,s,c0,c1,c2,c3,t⟩)]⟩)
 |[.v (.one (.ptr 0 0))],[.abs (.dk ⟨o,false,true,l,n,b,s,c0,c1,c2,c3,t⟩)]=>some (.one ⟨I.hid True,.ret (.tup []),[.pack [.obj 45 [.ptr 0 0,.nilS,.ptr 1 0],prS ⟨o,false,true,l,n,b,s,c0,c1,c2,c3,t⟩]]⟩)
 |_,_=>none
theorem zmq {f:Nat} {args:List D} {o:HO} {os:List HO} {o':HO} {os':List HO} {out:AOut} (h:Spc Tryz.prog f args (o::os) out (o'::os')) (hn:os.length=os'.length) (hlow:(o'::os').map (HO.ren (lowF (o'::os').length))=o'::os'):
  Spc Tryz.prog f args [.pack (o::os)] (out.ren (zo4 (o'::os').length)) [.pack (o'::os')]:=
 Spc.packed (ex:=[]) (by rw [List.append_nil];exact h) (congrArg (· +1) hn) (Nat.succ_pos _) hlow
theorem zzf:zu Tryz.prog 59 (zwD alg):=by
 intro args hp r h;unfold zwD at h
 split at h
 · cases h;exact fun _=>zwC _ _ _
 · split at h
   · rename_i e;cases h;rw [jI e];exact fun _=>zyp _ (by kernel_rfl) _
   · cases h
 · split at h
   · rename_i e;cases h;rw [jI e];exact fun _=>zrd _ 2 (by kernel_rfl) (by decide) _ rfl _
   · cases h
 · split at h
   · rename_i e;cases h;rw [jI e];exact fun _=>zrd _ 3 (by kernel_rfl) (by decide) _ rfl _
   · cases h
 · cases h;exact fun _=>zmq (zwC _ _ _) rfl rfl
 · split at h
   · rename_i e;cases h;rw [jI e];exact fun _=>zmq (zyp _ (by kernel_rfl) _) rfl rfl
   · cases h
 · split at h
   · rename_i e;cases h;rw [jI e];exact fun _=>zmq (zrd _ 2 (by kernel_rfl) (by decide) _ rfl _) rfl rfl
   · cases h
 · cases h;exact fun _=>Spc.X0 (zmq (zwC _ _ _) rfl rfl)
 · cases h;exact fun _=>Spc.X0 (zmq (zrd _ 3 (by kernel_rfl) (by decide) _ rfl _) rfl rfl)
 · cases h
def ztU:Know Tryz.prog:=⟨59,zwD,zzf⟩
def zc9 (I:Alg):KU
 |[.v (.one (.ptr 0 0)),.v (.one (.p (.str s)))],[.abs (.dk ⟨o,true,true,l,n,b,s1,c0,c1,c2,c3,t⟩)]=>(fun(o s:Str) (l:List Upl) (b:Str) (t:List Int)=>(some (.one ⟨I.hid (s≠[]∧s.length+o.length≤1000000000),(.ret (.tup [.one (.p (.int .i64 (I.hid (s.length:Int)))),.one (.p (.val .nilIface))])),[.abs (.dk ⟨(I.hid (o++s)),true,true,l,n,b,s1,c0,c1,c2,c3,t⟩)]⟩):Option CT)) o s l b t
 |_,_=>none
theorem zne:zu Tryz.prog 45 (zc9 alg):=by
 intro args hp r h;unfold zc9 at h;split at h<;>cases h
 rename_i s o l n b s1 c0 c1 c2 c3 t
 revert l t;intro(l:List Upl) (t:List Int)
 simp only [CT.Good,zh];intro hneed
 refine spH Tryz.func45 (by kernel_rfl) { keep:=some [0,1,4,5]} [ztU] (by kernel_rfl) ?_
 intro I X hI hX
 refine orcL ?_;go_invoke;refine orcS (by kernel_rfl) ?_
 simp only [zi,Nat.reduceAdd];subst hI;simp only [nrmA,nrmB,nrlB,reduceCtorEq];omega
def Uk:Know Tryz.prog:=⟨45,zc9,zne⟩
def Uj:Know Tryz.prog:=⟨45,fun I=>zx I (zc9 I),zf zne⟩
def zc8 (I:Alg):KU
 |[.v (.one (.ptr 0 0)),.v (.one (.p (.str s)))],[.abs (.dk ⟨([]),false,true,l,n,b,s1,c0,c1,c2,c3,t⟩)]=>(fun(s:Str) (l:List Upl) (b:Str) (t:List Int)=>(some (.one ⟨I.hid (s≠[]∧s.length+0≤1000000000),(.ret (.tup [.one (.p (.int .i64 (I.hid (s.length:Int)))),.one (.p (.val .nilIface))])),[.abs (.dk ⟨s,true,true,l,n,b,s1,c0,c1,c2,c3,t⟩)]⟩):Option CT)) s l b t
 |_,_=>none
theorem znd:zu Tryz.prog 45 (zc8 alg):=by
 intro args hp r h;unfold zc8 at h;split at h<;>cases h
 rename_i s l n b s1 c0 c1 c2 c3 t
 revert l t;intro(l:List Upl) (t:List Int)
 simp only [CT.Good,zh];intro hneed
 refine spH Tryz.func45 (by kernel_rfl) { keep:=some [0,1,4,5]} [ztU,Uk,Uj] (by kernel_rfl) ?_
 intro I X hI hX
 refine orcL ?_;go_invoke;refine orcS (by kernel_rfl) ?_
 simp only [zi,Nat.reduceAdd];subst hI;simp only [nrmA,nrmB,nrlB,reduceCtorEq];omega
def Q5:Know Tryz.prog:=⟨45,zc8,znd⟩
def QZ:Know Tryz.prog:=⟨45,fun I=>zx I (zc8 I),zf znd⟩
def zdK (I:Alg):KU
 |[.v (.one (.ptr 0 0))],[.abs (.dk ⟨o,true,true,l,n,b,s1,c0,c1,c2,c3,t⟩)]=>(fun(o:Str) (l:List Upl) (b:Str) (t:List Int)=>(some (.one ⟨I.hid (True),(.ret (.tup [])),[.abs (.dk ⟨(I.hid ([])),false,true,l,n,b,s1,c0,c1,c2,c3,t⟩)]⟩):Option CT)) o l b t
 |_,_=>none
theorem zon:zu Tryz.prog 16 (zdK alg):=by
 intro args hp r h;unfold zdK at h;split at h<;>cases h
 rename_i o l n b s1 c0 c1 c2 c3 t
 revert l t;intro(l:List Upl) (t:List Int)
 simp only [CT.Good,zh];intro _
 refine spH Tryz.func16 (by kernel_rfl) { keep:=some [0]} [] (by kernel_rfl) ?_
 intro I X hI hX
 refine orcL ?_;go_invoke;refine orcS (by kernel_rfl) ?_
 simp only [zi,Nat.reduceAdd];subst hI;exact⟨trivial,trivial⟩
def zom:Know Tryz.prog:=⟨16,zdK,zon⟩
def zol:Know Tryz.prog:=⟨16,fun I=>zx I (zdK I),zf zon⟩
theorem zxb (l:List Upl) (n:Int) (b:Str) (s1:Int) (c0 c1 c2 c3:Cn) (t:List Int):Spc Tryz.prog 16 [.v (.one (.ptr 0 0))] [.abs (.dk ⟨([]),false,true,l,n,b,s1,c0,c1,c2,c3,t⟩)] (.ret (.tup [])) [.abs (.dk ⟨([]),false,true,l,n,b,s1,c0,c1,c2,c3,t⟩)]:=by
 refine spH Tryz.func16 (by kernel_rfl) { keep:=some [0]} [zom,zol] (by kernel_rfl) ?_
 intro I X hI hX
 refine orcL ?_;go_invoke;refine orcS (by kernel_rfl) ?_
 simp only [zi,Nat.reduceAdd];subst hI;exact⟨trivial,trivial⟩
def zdJ (I:Alg):KU
 |[.v (.one (.ptr 0 0))],[.abs (.dk ⟨([]),false,true,l,n,b,s1,c0,c1,c2,c3,t⟩)]=>(fun(l:List Upl) (b:Str) (t:List Int)=>(some (.one ⟨I.hid (True),(.ret (.tup [])),[.abs (.dk ⟨(I.hid ([])),false,true,l,n,b,s1,c0,c1,c2,c3,t⟩)]⟩):Option CT)) l b t
 |_,_=>none
theorem zok:zu Tryz.prog 16 (zdJ alg):=by
 intro args hp r h;unfold zdJ at h
 split at h
 · cases h;exact fun hn=>zxb _ _ _ _ _ _ _ _ _
 · cases h
def zvq:Know Tryz.prog:=⟨16,zdJ,zok⟩
def zvp:Know Tryz.prog:=⟨16,fun I=>zx I (zdJ I),zf zok⟩
theorem zyO (l:List Upl) (n:Int) (b:Str) (s1:Int) (c0 c1 c2 c3:Cn) (t:List Int):Spc Tryz.prog 16 [.v (.one (.ptr 0 0))] [.abs (.dk ⟨([]),false,false,l,n,b,s1,c0,c1,c2,c3,t⟩)] (.ret (.tup [])) [.abs (.dk ⟨([]),false,true,l,n,b,s1,c0,c1,c2,c3,t⟩)]:=by
 refine spH Tryz.func16 (by kernel_rfl) { keep:=some [0]} [zom,zol,zvq,zvp] (by kernel_rfl) ?_
 intro I X hI hX
 refine orcL ?_;go_invoke;refine orcS (by kernel_rfl) ?_
 simp only [zi,Nat.reduceAdd];subst hI;exact⟨trivial,trivial⟩
end Go.Proofs.YtnpmenpjagcheaaGreatDoor
namespace Go.Proofs.YtnpmenpjagcheaaGreatDoor
open Go Go.Sep Go.Ab Go.RowKit
set_option maxRecDepth 100000
set_option maxHeartbeats 2000000
theorem cellsB:Tryz.prog.cellsOf 5=1:=by kernel_rfl
theorem stW (b g cap cells:Nat) (l:Str) (h0:l≠[]) (w:World) (c1:w.cell? ⟨b,1,none⟩=some (.slice (some ⟨g,0,none⟩) l.length cap)) (hcap:l.length≤cap) (hcm:cap≤maxLen) (hsh:w.shape? g=some (5,cells)) (hn:l.length≤cells) (hc: ∀ j x,l[j]? =some x→w.cell? ((⟨g,0,none⟩:Addr).add j)=some (.int .u8 x.toNat)):
  Calls Tryz.prog 18 #[.pointer (some ⟨b,0,none⟩)] w fun e w'=>e=.returned (.string (S l))∧w'=w.drew.freeze ⟨g,0,none⟩ l.length:=by
 have hl0:l.length≠0:=by simpa using h0
 have c2:w.drew.cell? ⟨b,1,none⟩=some (.slice (some ⟨g,0,none⟩) l.length cap):=c1
 have hSD:(Builtin.unsafeSliceData_ #[33] 66 #[.slice (some ⟨g,0,none⟩) l.length cap]).run Tryz.prog w.drew=.ok (.pointer (some ⟨g,0,none⟩)) w.drew:=
  Lib.run_unsafeSliceData_row _ _ _ _ _ _ (by omega)
 have hUS:(Builtin.unsafeString_ #[66,3] 9 #[.pointer (some ⟨g,0,none⟩),.int .i64 l.length]).run Tryz.prog w.drew=.ok (.string ⟨l.toArray⟩) (w.drew.freeze ⟨g,0,none⟩ l.length):=
  Lib.run_unsafeString_row w.drew 66 3 9 5 Tryz.underlying66 cellsB g cells hsh l h0 hn (by unfold maxLen at hcm;omega) hc
 have mixed:Tryz.prog.follows .mixedOrders=true:=by kernel_rfl
 go_enter Tryz.func18,Tryz.ntmps18
 go_wp2
 go_region_o
 all_goals(go_wp2;go_ret;exact⟨rfl,rfl⟩)
theorem At.zuB {E n cap g:Nat} {xs:List Value} {l:List Chunk} {w:World} (H:At w (rowC E 1 (.slice (some ⟨g,0,none⟩) n cap) n xs::l)):At (w.freeze ⟨g,0,none⟩ n) l:=by
 have h1:At (w.freeze ⟨g,0,none⟩ n) (zoZ True::l):=by
  refine H.step fun A hA=>⟨fun _=>False,⟨trivial,fun _ h=>h⟩,fun _ h=>h.elim,?_⟩
  by_cases hn:n=0
  · subst hn;exact Keeps.refl _ _
  · refine⟨by simp [World.freeze,hn],by simp [World.freeze,hn],by simp [World.freeze,hn],by simp [World.freeze,hn],fun k hk=> ?_⟩
    have hk2:k≠g:=fun e=>hk.2 ((hA.1 k).2 (by simp [Value.ownBlock,e]))
    simp [World.freeze,hn,Array.getElem?_modify,Ne.symm hk2]
 exact(At.pure.1 h1).2
theorem byteCells {S0:Frz} {l:Str} {vs:List Value} (hlen:vs.length=l.length * 1) (hx: ∀ (i:Nat) (x:UInt8) (j:Nat) (p:P) (v:Value),l[i]? =some x→(enc alg .byte x)[j]? =some p→vs[i * 1+j]? =some v→MP S0 p v) (i:Nat) (x:UInt8) (h:l[i]? =some x):vs[i]? =some (.int .u8 x.toNat):=by
 have hlt:i<vs.length:=by have:=(jl.1 h).1;omega
 have h1:=hx i x 0 (.int .u8 (x.toNat:Int)) vs[i] h rfl (by simp)
 rw [jm hlt]
 cases hv:vs[i]<;>rw [hv] at h1<;>cases h1
 rfl
theorem zxj {S0:Frz} {bs bs':List Value} {d:Dk} {c:CO} (h:Rel S0 bs (prS d) c):Rel S0 bs' (prS d) c:=by
 unfold prS at h ⊢
 cases h with
 |pack a b=>exact .pack a b
theorem zw1 (o:Str) (l:List Upl) (n:Int) (b:Str) (s:Int) (c0 c1 c2 c3:Cn) (t:List Int) (hneed:o≠[]):Spc Tryz.prog 18 [.v (.one (.ptr 0 0))] [.abs (.dk ⟨o,true,true,l,n,b,s,c0,c1,c2,c3,t⟩)] (.ret (.v (.one (.p (.str o))))) [.abs (.dk ⟨[],false,false,l,n,b,s,c0,c1,c2,c3,t⟩)]:=by
 refine Spc.X0 ⟨⟨_,Tryz.func18,by kernel_rfl,by kernel_rfl⟩,fun S0 K fr w vs hH hM hA=> ?_⟩
 obtain⟨v,q,rfl⟩: ∃ v q,vs=v::q:=by cases vs with|nil=>exact hM.elim|cons v q=>exact⟨v,q,rfl⟩
 obtain⟨h1,hM⟩:=hM
 obtain rfl:q=[]:=by cases q with|nil=>rfl|cons v q=>exact hM.elim
 obtain⟨c,rfl⟩: ∃ c,K=[c]:=by
  have:=hH.1
  match K,this with
  |[c],_=>exact⟨c,rfl⟩
 have hr:=hH.2 0 _ c rfl rfl;have hr:Rel S0 ([c].map CO.base) (.pack [.obj 45 [.ptr 0 0,.row 1,.ptr 2 0],.row .byte 5 o,prS ⟨o,true,true,l,n,b,s,c0,c1,c2,c3,t⟩]) c:=hr
 cases hr with
 | @pack _ _ L hl hrel=>
   obtain⟨d0,d1,d2,rfl⟩: ∃ d0 d1 d2,L=[d0,d1,d2]:=by
    match L,hl with
    |[d0,d1,d2],_=>exact⟨d0,d1,d2,rfl⟩
   have r0:=hrel 0 _ d0 rfl rfl;have r1:=hrel 1 _ d1 rfl rfl;have r2:=hrel 2 _ d2 rfl rfl;clear hrel hH
   cases r0 with
   | @obj _ b0 _ _ ws hcs=>
     cases r1 with
     | @row _ _ _ _ ao cap xs hlen hx=>
       obtain⟨b1,hb1,rfl⟩:=h1;cases hb1
       match ws,hcs with
       | [v0,v1,v2],⟨⟨_,hb0,e0⟩,⟨hb2,_⟩,⟨p,hb3,e3⟩,_⟩=>
         cases hb0;cases hb2;subst e0 e3;have hA1:At w (objC b0 45 [.pointer (some ⟨b0,0,none⟩),.slice ao o.length cap,.pointer (some ⟨p,0,none⟩)]::rowC 5 1 (.slice ao o.length cap) o.length xs::d2.chunk::frzC S0::fr):=At.many.1 (At.swap hA);have hA2:=At.swap hA1
         obtain⟨A,hF,hl1,⟨e,h0⟩|⟨g,cap',cur,fz,e,hg,hfree,hnc,hcm,hsz,ht⟩⟩:=hA2.head
         · exact absurd (List.eq_nil_of_length_eq_zero h0) hneed
         cases e
         have hlc:o.length≤cur.size:=by omega
         refine(stW b0 g cap cur.size o hneed w (At.cell hA1 1) hnc hcm (by simp [World.shape?,hg]) hlc ?_).mono ?_
         · intro j x hj
           have h2:=byteCells hlen hx j x hj;rw [← ht,jD] at h2
           split at h2
           · rw [YB rfl]
             simp only [adr,blk,ofs,World.cell?,hg,Nat.zero_add]
             simpa using h2
           · cases h2
         · rintro e w' ⟨rfl,rfl⟩
           have hA3:At (w.drew.freeze ⟨g,0,none⟩ o.length) (objC b0 45 [.pointer (some ⟨b0,0,none⟩),.slice (some ⟨g,0,none⟩) o.length cap,.pointer (some ⟨p,0,none⟩)]::d2.chunk::frzC S0::fr):=At.zuB (At.drew hA2)
           refine⟨S0,[.pack [.obj b0 45 [.pointer (some ⟨b0,0,none⟩),.slice (some ⟨g,0,none⟩) o.length cap,.pointer (some ⟨p,0,none⟩)],d2]],Frz.le.refl S0,Ext.refl _,⟨rfl,?_⟩,At.swap (At.many.2 hA3),.str _ (by omega)⟩
           intro i ob co h3 h4
           cases i with
           |succ i=>cases h4
           | zero=>
             cases h3;cases h4;refine .pack (hs:=[.obj 45 [.any,.any,.ptr 1 0],prS ⟨o,true,true,l,n,b,s,c0,c1,c2,c3,t⟩]) rfl ?_;intro i ob co h3 h4
             match i,h3,h4 with
             |0,h3,h4=>cases h3;cases h4;exact .obj ⟨rfl,rfl,⟨p,hb3,rfl⟩,trivial⟩
             |1,h3,h4=>cases h3;cases h4;exact zxj r2
end Go.Proofs.YtnpmenpjagcheaaGreatDoor
namespace Go.Proofs.YtnpmenpjagcheaaGreatDoor
open Go Go.Sep Go.Ab Go.RowKit
set_option maxRecDepth 1000000
set_option maxHeartbeats 4000000
theorem grW (b n T:Nat) (ws:List Value) (w:World) (l:List Chunk) (hA:At w (objC b T (.pointer (some ⟨b,0,none⟩):: .slice none 0 0::ws)::l)) (hn:n≤1000000000):
  Calls Tryz.prog 75 #[.pointer (some ⟨b,0,none⟩),.int .i64 n] w fun e w'=>e=.returned (.tuple #[])∧∃ ao cap,At w' (objC b T (.pointer (some ⟨b,0,none⟩):: .slice ao 0 cap::ws)::rowC 5 1 (.slice ao 0 cap) 0 []::l):=by
 obtain⟨cs,hrun,hle,hmax⟩:=Lib.run_makeNoZero (P:=Tryz.prog) w.drew #[3] 33 5 Tryz.underlying33 n (by omega)
 have hw:IntKind.i64.wrap (IntKind.i64.wrap 0+(n:Int))=n:=by
  rw [IntKind.wrap_i64,IntKind.wrap_i64];omega
 have hcall:(callFunc 92 #[.int .i64 (IntKind.i64.wrap (IntKind.i64.wrap 0+(n:Int)))]).run Tryz.prog w.drew=.ok (.value (.slice (some ⟨w.drew.heap.size,0,none⟩) n cs.size)) (w.drew.drew.drew.alloc (.cells cs 5)):=by
  rw [hw,run_callFunc_extern Tryz.func92 (by kernel_rfl) (by kernel_rfl) (by kernel_rfl) (e:=Extern.BytealgMakeNoZero.makeNoZero #[3] #[33]) (by kernel_rfl),hrun]
  rfl
 have c1:w.drew.cell? ⟨b,1,none⟩=some (.slice none 0 0):=At.cell hA 1
 have hcm:=hmax (by unfold maxLen;omega)
 have hA1:At (w.alloc (.cells cs 5)) (rowC 5 1 (.slice (some ⟨w.heap.size,0,none⟩) 0 cs.size) 0 []::objC b T (.pointer (some ⟨b,0,none⟩):: .slice none 0 0::ws)::l):=
  hA.new (A':=fun k=>k=w.heap.size) ⟨fun k=>⟨fun h=>by rw [h];rfl,fun h=>by cases h;rfl⟩,by simp,.inr ⟨w.heap.size,cs.size,cs,(0,0),rfl,heap_alloc_new w _,vF _,jM _,hcm,by omega,by simp⟩⟩ (fun k h=>by omega) (vU w _)
 have c2:(w.alloc (.cells cs 5)).cell? ⟨b,1,none⟩=some (.slice none 0 0):=At.cell (At.swap hA1) 1;have f2:(w.alloc (.cells cs 5)).frozen? ⟨b,1,none⟩=false:=At.free (At.swap hA1) 1
 have hcopy: ∀ W:World,(Builtin.copy_ #[33,33] 3 #[.slice (some ⟨w.heap.size,0,none⟩) 0 cs.size,.slice none 0 0]).run Tryz.prog W=.ok (goInt 0) W:=
  fun W=>run_copy_none W 33 33 3 5 _ _ 0 cs.size 0 0 Tryz.underlying33 (by kernel_rfl) rfl
 clear hw
 have mixed:Tryz.prog.follows .mixedOrders=true:=by kernel_rfl
 go_enter Tryz.func75,Tryz.ntmps75
 go_wp2
 go_region_o
 all_goals(go_wp2;go_end0;exact⟨rfl,some ⟨w.heap.size,0,none⟩,cs.size,(At.store (At.swap hA1) 1 _).drew.drew.drew⟩)
theorem gr_s (n:Int):0≤n∧n≤1000000000→Spc Tryz.prog 75 [.v (.one (.ptr 0 0)),.v (.one (.p (.int .i64 n)))] [.obj 43 [.ptr 0 0,.nilS]] (.ret (.tup [])) [.obj 43 [.ptr 0 0,.row 1],.row .byte 5 []]:=by
 rintro⟨h0,hn⟩
 obtain⟨m,rfl⟩: ∃ m:Nat,n=m:=⟨n.toNat,by omega⟩
 refine⟨⟨_,Tryz.func75,by kernel_rfl,by kernel_rfl⟩,fun S K fr w vs hH hM hA=> ?_⟩
 obtain⟨v,q,rfl⟩: ∃ v q,vs=v::q:=by cases vs with|nil=>exact hM.elim|cons v q=>exact⟨v,q,rfl⟩
 obtain⟨h1,hM⟩:=hM
 obtain⟨v2,q2,rfl⟩: ∃ v q2,q=v::q2:=by cases q with|nil=>exact hM.elim|cons v q=>exact⟨v,q,rfl⟩
 obtain⟨h2,hM⟩:=hM
 obtain rfl:q2=[]:=by cases q2 with|nil=>rfl|cons v q=>exact hM.elim
 obtain⟨c,rfl⟩: ∃ c,K=[c]:=by
  have:=hH.1
  match K,this with
  |[c],_=>exact⟨c,rfl⟩
 have hr:=hH.2 0 _ c rfl rfl;cases h2
 cases hr with
 | @obj _ b _ _ ws hcs=>
   obtain⟨b1,hb1,rfl⟩:=h1;cases hb1
   match ws,hcs with
   | [v0,v1],⟨⟨_,hb0,e0⟩,e1,_⟩=>
     cases hb0;subst e0;cases e1
     refine(grW b m 43 [] w (frzC S::fr) (At.swap hA) (by omega)).mono ?_
     rintro e w' ⟨rfl,ao,cap,hA2⟩;refine⟨S,[.obj b 43 [.pointer (some ⟨b,0,none⟩),.slice ao 0 cap],.row 5 1 ao 0 cap []],Frz.le.refl S,fun i v h=> ?_,⟨rfl,?_⟩,?_,[],trivial,rfl⟩
     · cases i with
       |zero=>exact h
       |succ i=>cases h
     · intro i ob co h3 h4
       match i,h3,h4 with
       |0,h3,h4=>cases h3;cases h4;exact .obj ⟨⟨b,rfl,rfl⟩,⟨rfl,ao,0,cap,rfl⟩,trivial⟩
       |1,h3,h4=>cases h3;cases h4;exact .row (u:=.byte) (l:=[]) rfl (fun i x j p v h=>by cases h)
     · exact At.p2 hA2
end Go.Proofs.YtnpmenpjagcheaaGreatDoor
namespace Go.Proofs.YtnpmenpjagcheaaGreatDoor
open Go Go.Sep Go.Ab Go.RowKit
set_option maxRecDepth 100000
set_option maxHeartbeats 2000000
theorem zt2 (T:Nat) (l:Str) (hneed:l≠[]):Spc Tryz.prog 18 [.v (.one (.ptr 0 0))] [.obj T [.ptr 0 0,.row 1],.row .byte 5 l] (.ret (.v (.one (.p (.str l))))) [.obj T [.any,.any],.gone]:=by
 refine⟨⟨_,Tryz.func18,by kernel_rfl,by kernel_rfl⟩,fun S0 K fr w vs hH hM hA=> ?_⟩
 obtain⟨v,q,rfl⟩: ∃ v q,vs=v::q:=by cases vs with|nil=>exact hM.elim|cons v q=>exact⟨v,q,rfl⟩
 obtain⟨h1,hM⟩:=hM
 obtain rfl:q=[]:=by cases q with|nil=>rfl|cons v q=>exact hM.elim
 obtain⟨d0,d1,rfl⟩: ∃ d0 d1,K=[d0,d1]:=by
  have:=hH.1
  match K,this with
  |[d0,d1],_=>exact⟨d0,d1,rfl⟩
 have r0:=hH.2 0 _ d0 rfl rfl;have r1:=hH.2 1 _ d1 rfl rfl
 cases r0 with
 | @obj _ b0 _ _ ws hcs=>
   cases r1 with
   | @row _ _ _ _ ao cap xs hlen hx=>
     obtain⟨b1,hb1,rfl⟩:=h1;cases hb1
     match ws,hcs with
     | [v0,v1],⟨⟨_,hb0,e0⟩,⟨hb2,_⟩,_⟩=>
       cases hb0;cases hb2;subst e0;have hA1:At w (objC b0 T [.pointer (some ⟨b0,0,none⟩),.slice ao l.length cap]::rowC 5 1 (.slice ao l.length cap) l.length xs::frzC S0::fr):=At.p2 (At.p2 hA);have hA2:=At.swap hA1
       obtain⟨A,hF,hl1,⟨e,h0⟩|⟨g,cap',cur,fz,e,hg,hfree,hnc,hcm,hsz,ht⟩⟩:=hA2.head
       · exact absurd (List.eq_nil_of_length_eq_zero h0) hneed
       cases e
       have hlc:l.length≤cur.size:=by omega
       refine(stW b0 g cap cur.size l hneed w (At.cell hA1 1) hnc hcm (by simp [World.shape?,hg]) hlc ?_).mono ?_
       · intro j x hj
         have h2:=byteCells hlen hx j x hj;rw [← ht,jD] at h2
         split at h2
         · rw [YB rfl]
           simp only [adr,blk,ofs,World.cell?,hg,Nat.zero_add]
           simpa using h2
         · cases h2
       · rintro e w' ⟨rfl,rfl⟩
         have hA3:At (w.drew.freeze ⟨g,0,none⟩ l.length) (objC b0 T [.pointer (some ⟨b0,0,none⟩),.slice (some ⟨g,0,none⟩) l.length cap]::frzC S0::fr):=At.zuB (At.drew hA2)
         refine⟨S0,[.obj b0 T [.pointer (some ⟨b0,0,none⟩),.slice (some ⟨g,0,none⟩) l.length cap],.gone (.slice (some ⟨g,0,none⟩) l.length cap)],Frz.le.refl S0,Ext.refl _,⟨rfl,?_⟩,(At.pure.2 ⟨trivial,hA3⟩:At _ (zoZ True::objC b0 T _::frzC S0::fr)).p1.p2,.str _ (by omega)⟩
         intro i ob co h3 h4
         match i,h3,h4 with
         |0,h3,h4=>cases h3;cases h4;exact .obj ⟨rfl,rfl,trivial⟩
         |1,h3,h4=>cases h3;cases h4;exact .gone
theorem zw0 (T:Nat) (l:Str) (hneed:l≠[]):Spc Tryz.prog 18 [.v (.one (.ptr 0 0))] [.pack [.obj T [.ptr 0 0,.row 1],.row .byte 5 l]] (.ret (.v (.one (.p (.str l))))) [.pack [.obj T [.any,.any],.gone]]:=
 zmq (zt2 T l hneed) rfl rfl
def bK_c (I:Alg) (args:List D) (hp:List HO):Option CT:=match args,hp with
 |[.v (.one (.ptr 0 0))],[.abs (.dk ⟨o,true,true,l,n,b,s,c0,c1,c2,c3,t⟩)]=>some (.one ⟨I.hid (o≠[]),.ret (.v (.one (.p (.str o)))),[.abs (.dk ⟨[],false,false,l,n,b,s,c0,c1,c2,c3,t⟩)]⟩)
 |[.v (.one (.ptr 0 0))],[.obj T [.ptr 0 0,.row 1],.row .byte E l]=>(match Nat.beq E 5 with|true=>some (.one ⟨I.hid (l≠[]),.ret (.v (.one (.p (.str l)))),[.obj T [.any,.any],.gone]⟩)|false=>none)
 |[.v (.one (.ptr 0 0))],[.pack [.obj T [.ptr 0 0,.row 1],.row .byte E l]]=>(match Nat.beq E 5 with|true=>some (.one ⟨I.hid (l≠[]),.ret (.v (.one (.p (.str l)))),[.pack [.obj T [.any,.any],.gone]]⟩)|false=>none)
 |_,_=>none
theorem bK_g:zu Tryz.prog 18 (bK_c alg):=by
 intro args hp r h;unfold bK_c at h
 split at h
 · cases h;exact fun hn=>zw1 _ _ _ _ _ _ _ _ _ _ hn
 · split at h
   · rename_i e;cases h;rw [jI e];exact fun hn=>zt2 _ _ hn
   · cases h
 · split at h
   · rename_i e;cases h;rw [jI e];exact fun hn=>zw0 _ _ hn
   · cases h
 · cases h
def bK_k:Know Tryz.prog:=⟨18,bK_c,bK_g⟩
theorem gr_p (n:Int):0≤n∧n≤1000000000→Spc Tryz.prog 75 [.v (.one (.ptr 0 0)),.v (.one (.p (.int .i64 n)))] [.pack [.obj 43 [.ptr 0 0,.nilS]]] (.ret (.tup [])) [.pack [.obj 43 [.ptr 0 0,.row 1],.row .byte 5 []]]:=by
 intro hn;refine⟨(gr_s n hn).1,fun S K fr w vs hH hM hA=> ?_⟩
 obtain⟨c,rfl⟩: ∃ c,K=[c]:=by
  have:=hH.1
  match K,this with
  |[c],_=>exact⟨c,rfl⟩
 have hr:=hH.2 0 _ c rfl rfl
 cases hr with
 | @pack _ _ L hl hrel=>
   obtain⟨d,rfl⟩: ∃ d,L=[d]:=by
    match L,hl with
    |[d],_=>exact⟨d,rfl⟩
   have hA1:At w (frzC S::(CO.zy [d]++fr)):=At.swap (At.many.1 (At.swap hA));refine((gr_s n hn).2 S [d] fr w vs ⟨rfl,hrel⟩ hM hA1).mono ?_;rintro e w' ⟨S',K',h1,h2,h3,h4,h5⟩
   obtain⟨d0,d1,rfl⟩: ∃ d0 d1,K'=[d0,d1]:=by
    have:=h3.1
    match K',this with
    |[d0,d1],_=>exact⟨d0,d1,rfl⟩
   have e0:d0.base=d.base:=by have:=h2 0 d.base rfl;simpa using this
   refine⟨S',[.pack [d0,d1]],h1,fun i v h=> ?_,⟨rfl,?_⟩,At.swap (At.many.2 (At.p2 (At.p2 h4))),?_⟩
   · cases i with
     |zero=>exact h2 0 v h
     |succ i=>cases h
   · intro i ob co h6 h7
     cases i with
     |succ i=>cases h7
     |zero=>cases h6;cases h7;exact .pack rfl h3.2
   · cases e with
     | returned v=>
       obtain⟨us,h6,h7⟩:=h5
       match us,h6 with
       |[],_=>exact⟨[],trivial,h7⟩
     |panicked c=>exact h5
     |outgrown=>exact h5
def gK_c (I:Alg) (args:List D) (hp:List HO):Option CT:=match args,hp with
 |[.v (.one (.ptr 0 0)),.v (.one (.p (.int .i64 n)))],[.obj T [.ptr 0 0,.nilS]]=>(match Nat.beq T 43 with|true=>some (.one ⟨I.hid (0≤n∧n≤1000000000),.ret (.tup []),[.obj 43 [.ptr 0 0,.row 1],.row .byte 5 []]⟩)|false=>none)
 |[.v (.one (.ptr 0 0)),.v (.one (.p (.int .i64 n)))],[.pack [.obj T [.ptr 0 0,.nilS]]]=>(match Nat.beq T 43 with|true=>some (.one ⟨I.hid (0≤n∧n≤1000000000),.ret (.tup []),[.pack [.obj 43 [.ptr 0 0,.row 1],.row .byte 5 []]]⟩)|false=>none)
 |_,_=>none
theorem gK_g:zu Tryz.prog 75 (gK_c alg):=by
 intro args hp r h;unfold gK_c at h
 split at h
 · split at h
   · rename_i e;cases h;rw [jI e];exact fun hn=>gr_s _ hn
   · cases h
 · split at h
   · rename_i e;cases h;rw [jI e];exact fun hn=>gr_p _ hn
   · cases h
 · cases h
def gK_k:Know Tryz.prog:=⟨75,gK_c,gK_g⟩
def Qn (I:Alg):KU
 |[.v (.one (.ptr 0 0)),.v (.one (.p (.int .i64 n)))],[.pack [.obj 43 [.p (.val (.pointer none)),.nilS]]]=>some (.one ⟨I.hid (0<n∧n≤1000000000),(.ret (.tup [])),[.pack [.obj 43 [.ptr 0 0,.row 1],.row .byte 5 (I.hid ([]))]]⟩)
 |_,_=>none
set_option maxHeartbeats 4000000 in
theorem zkW:zu Tryz.prog 60 (Qn alg):=by
 intro args hp r h;unfold Qn at h;split at h<;>cases h
 rename_i n;simp only [CT.Good,zh];intro hneed
 refine spH Tryz.func60 (by kernel_rfl) { keep:=some [0,1]} [ztU,gK_k] (by kernel_rfl) ?_
 intro I X hI hX
 refine orcL ?_;go_invoke;refine orcS (by kernel_rfl) ?_
 simp only [zi,Nat.reduceAdd];subst hI
 have h3:(alg.ilt n 0=true)=False:=by
  show(decide (n<0)=true)=False
  rw [decide_eq_false (by omega)];simp
 have h4:(alg.ilt (alg.sub 0 0) n=false)=False:=by
  show(decide ((0:Int) - 0<n)=false)=False
  rw [decide_eq_true (by omega)];simp
 have h5:(alg.inr IntKind.i64 (alg.sub 0 0))=True:=by
  refine eq_true ?_
  show(-9223372036854775808:Int)≤0 - 0∧(0:Int) - 0≤9223372036854775807
  omega
 have h6:(alg.hid (0≤n∧n≤1000000000))=True:=eq_true (show 0≤n∧n≤1000000000 by omega)
 have h7:(alg.hid True)=True:=rfl;simp only [h3,h4,h5,h6,h7,false_implies,implies_true,and_true,true_and,and_self]
def zel:Know Tryz.prog:=⟨60,Qn,zkW⟩
def zek:Know Tryz.prog:=⟨60,fun I=>zx I (Qn I),zf zkW⟩
end Go.Proofs.YtnpmenpjagcheaaGreatDoor
namespace Go.Proofs.YtnpmenpjagcheaaGreatDoor
open Go Go.Sep Go.Ab Go.RowKit
set_option maxRecDepth 100000
set_option maxHeartbeats 2000000
theorem stZ (b:Nat) (w:World) (c1:w.cell? ⟨b,1,none⟩=some (.slice none 0 0)):
  Calls Tryz.prog 18 #[.pointer (some ⟨b,0,none⟩)] w fun e w'=>e=.returned (.string (S []))∧w'=w.drew:=by
 have c2:w.drew.cell? ⟨b,1,none⟩=some (.slice none 0 0):=c1;have hSD:(Builtin.unsafeSliceData_ #[33] 66 #[.slice none 0 0]).run Tryz.prog w.drew=.ok (.pointer none) w.drew:=Lib.run_unsafeSliceData_nil _ _ _ _ _;have hUS:(Builtin.unsafeString_ #[66,3] 9 #[.pointer none,.int .i64 0]).run Tryz.prog w.drew=.ok (.string ⟨#[]⟩) w.drew:=Lib.run_unsafeString_none _ _ _ _ _
 have mixed:Tryz.prog.follows .mixedOrders=true:=by kernel_rfl
 go_enter Tryz.func18,Tryz.ntmps18
 go_wp2
 go_region_o
 all_goals(go_wp2;go_ret;exact⟨rfl,rfl⟩)
theorem zyH (l:List Upl) (n:Int) (b:Str) (s:Int) (c0 c1 c2 c3:Cn) (t:List Int):Spc Tryz.prog 18 [.v (.one (.ptr 0 0))] [.abs (.dk ⟨[],false,true,l,n,b,s,c0,c1,c2,c3,t⟩)] (.ret (.v (.one (.p (.str []))))) [.abs (.dk ⟨[],false,false,l,n,b,s,c0,c1,c2,c3,t⟩)]:=by
 refine Spc.X0 ⟨⟨_,Tryz.func18,by kernel_rfl,by kernel_rfl⟩,fun S0 K fr w vs hH hM hA=> ?_⟩
 obtain⟨v,q,rfl⟩: ∃ v q,vs=v::q:=by cases vs with|nil=>exact hM.elim|cons v q=>exact⟨v,q,rfl⟩
 obtain⟨h1,hM⟩:=hM
 obtain rfl:q=[]:=by cases q with|nil=>rfl|cons v q=>exact hM.elim
 obtain⟨c,rfl⟩: ∃ c,K=[c]:=by
  have:=hH.1
  match K,this with
  |[c],_=>exact⟨c,rfl⟩
 have hr:=hH.2 0 _ c rfl rfl;have hr:Rel S0 ([c].map CO.base) (.pack [.obj 45 [.p (.val (.pointer none)),.nilS,.ptr 1 0],prS ⟨[],false,true,l,n,b,s,c0,c1,c2,c3,t⟩]) c:=hr
 cases hr with
 | @pack _ _ L hl hrel=>
   obtain⟨d0,d1,rfl⟩: ∃ d0 d1,L=[d0,d1]:=by
    match L,hl with
    |[d0,d1],_=>exact⟨d0,d1,rfl⟩
   have r0:=hrel 0 _ d0 rfl rfl;have r1:=hrel 1 _ d1 rfl rfl
   cases r0 with
   | @obj _ b0 _ _ ws hcs=>
     obtain⟨b1,hb1,rfl⟩:=h1;cases hb1
     match ws,hcs with
     | [v0,v1,v2],⟨e0,e1,⟨p,hb3,e3⟩,_⟩=>
       cases e0;cases e1;have hA1:At w (objC b0 45 [.pointer none,.slice none 0 0,v2]::d1.chunk::frzC S0::fr):=At.many.1 (At.swap hA);refine(stZ b0 w (At.cell hA1 1)).mono ?_;rintro e w' ⟨rfl,rfl⟩;refine⟨S0,_,Frz.le.refl S0,Ext.refl _,⟨rfl,?_⟩,At.drew hA,.str _ (jM _)⟩;intro i ob co h3 h4
       cases i with
       |succ i=>cases h4
       | zero=>
         cases h3;cases h4;refine .pack (hs:=[.obj 45 [.any,.any,.ptr 1 0],prS ⟨[],false,true,l,n,b,s,c0,c1,c2,c3,t⟩]) rfl ?_;intro i ob co h3 h4
         match i,h3,h4 with
         |0,h3,h4=>cases h3;cases h4;exact .obj ⟨rfl,rfl,⟨p,hb3,e3⟩,trivial⟩
         |1,h3,h4=>cases h3;cases h4;exact zxj r1
end Go.Proofs.YtnpmenpjagcheaaGreatDoor
namespace Go.Proofs.YtnpmenpjagcheaaGreatDoor
open Go Go.Sep Go.Ab Go.RowKit
set_option maxRecDepth 100000
set_option maxHeartbeats 4000000
def zc7 (I:Alg):KU
 |[.v (.one (.ptr 0 0)),.v (.one (.p (.str s)))],[.pack [.obj 43 [.ptr 0 0,.row 1],.row .byte 5 o]]=>(fun(o s:Str)=>(some (.one ⟨I.hid (s.length+o.length≤1000000000),(.ret (.tup [.one (.p (.int .i64 (I.hid (s.length:Int)))),.one (.p (.val .nilIface))])),[.pack [.obj 43 [.ptr 0 0,.row 1],.row .byte 5 (I.hid (o++s))]]⟩):Option CT)) o s
 |_,_=>none
theorem znc:zu Tryz.prog 45 (zc7 alg):=by
 intro args hp r h;unfold zc7 at h;split at h<;>cases h
 rename_i s o;simp only [CT.Good,zh];intro hneed
 refine spH Tryz.func45 (by kernel_rfl) { keep:=some [0,1,4,5]} [ztU,Uk,Uj,Q5,QZ] (by kernel_rfl) ?_
 intro I X hI hX
 refine orcL ?_;go_invoke;refine orcS (by kernel_rfl) ?_
 simp only [zi,Nat.reduceAdd];subst hI;simp only [nrmA,nrmB,nrlB,reduceCtorEq];omega
def zc6:Know Tryz.prog:=⟨45,zc7,znc⟩
def zc5:Know Tryz.prog:=⟨45,fun I=>zx I (zc7 I),zf znc⟩
def sumS:List Str→Nat
 |[]=>0
 |s::l=>s.length+sumS l
def Un:List Str→Str
 |[]=>[]
 |s::l=>[32]++s++Un l
theorem ziv: ∀ (a:Str) (l:List Str),Yi (a::l)=a++Un l
 |a,[]=>by simp [Yi,Un]
 |a,b::l=>by rw [Yi,ziv b l];simp [Un]
theorem zrP {m:List Str} {j:Nat} (h:j<m.length):Un (m.drop j)=[32]++m.getD j []++Un (m.drop (j+1)):=by
 rw [jE h,show m.getD j []=m[j] by simp [h]];rfl
theorem X6: ∀ m:List Str,(Un m).length=sumS m+m.length
 |[]=>rfl
 |s::l=>by simp only [Un,sumS,jk,jh,ji,X6 l];omega
theorem zjz: ∀ {m:List Str} {j:Nat},(m.getD j []).length≤sumS m
 |[],j=>by simp
 |a::m,0=>by simp [sumS]
 |a::m,j+1=>by have:=zjz (m:=m) (j:=j);simp only [List.getD_cons_succ,sumS];omega
theorem zvb {m:List Str} {j:Nat} (h:j<m.length):sumS (m.drop j)=(m.getD j []).length+sumS (m.drop (j+1)):=by
 rw [jE h,show m.getD j []=m[j] by simp [h]];rfl
theorem zvs {k:Int} (h:1≤k∧k≤100):1<Int.tdiv 9223372036854775807 k∧Int.tdiv 9223372036854775807 k≤9223372036854775807:=by
 obtain⟨h1,h2⟩:=h
 obtain⟨m,rfl⟩: ∃ m:Nat,k=m:=⟨k.toNat,by omega⟩
 have e:Int.tdiv 9223372036854775807 (m:Int)=((9223372036854775807 / m:Nat):Int):=rfl;rw [e];have h3:9223372036854775807 / m≤9223372036854775807:=Nat.div_le_self _ _
 have h4:2≤9223372036854775807 / m:=(Nat.le_div_iff_mul_le (by omega)).2 (by omega)
 omega
def zed (I:Alg):KU
 |[.v (.one (.p (.list .str l))),.v (.one (.p (.str ([32]))))],[]=>(fun(l:List Str)=>(some (.one ⟨I.hid (l≠[]∧l.length≤100∧sumS l≤700000000),(.ret (.v (.one (.p (.str (I.hid (Yi l))))))),[]⟩):Option CT)) l
 |_,_=>none
theorem zpF:zu Tryz.prog 46 (zed alg):=by
 intro args hp r h;unfold zed at h;split at h<;>cases h
 rename_i l
 revert l;intro(l:List Str)
 simp only [CT.Good,zh];intro hneed;obtain⟨h0,h1,h2⟩:=hneed;generalize hr:Yi l=r
 obtain⟨a,m,hl⟩: ∃ a m,l=a::m:=by cases l with|nil=>exact absurd rfl h0|cons a m=>exact⟨a,m,rfl⟩
 have hra:a++Un m=r:=by rw [← hr,hl,ziv]
 have hlm:l.length=m.length+1:=by rw [hl];rfl
 have ha:l.getD 0 []=a:=by rw [hl];rfl
 have ho:m.length=0→a=r:=fun h=>by rw [List.eq_nil_of_length_eq_zero h] at hra;simpa [Un] using hra
 have hq:=fun(h:1<l.length)=>zvs (k:=(l.length:Int) - 1) ⟨by omega,by omega⟩
 clear h0 hr
 refine spH Tryz.func46 (by kernel_rfl) { keep:=some [0,1,4,5,7,8,10,12,39,40,41,63,64,65]} [bK_k,Uk,Uj,Q5,QZ,zc6,zc5,zel,zek] (by kernel_rfl) ?_
 intro I X hI hX
 refine orcL ?_;go_invoke;refine orcS (by kernel_rfl) ?_
 simp only [zi,Nat.reduceAdd]
 (repeat' (first|refine ja ?_ ?_|intro _))
 all_goals try(subst hI;(simp only [nrmA,nrmB,nrlB,reduceCtorEq] at *);first
  |done
  |exact jb
  |omega
  |(rw [ha];exact ho (by omega))
  |(have:=hq (by omega);simp only [jh,ji];omega)
  |(exfalso;simp only [jh,ji] at *;omega))
 have hlen:1≤m.length:=by
  subst hI;simp only [nrmA,nrmB,nrlB,reduceCtorEq] at *;omega
 rw [show I.add 0 (I.mul (I.len (α:=UInt8) [32]) (I.sub (I.len (α:=Str) l) 1))=(m.length:Int) by subst hI;show(0:Int)+(([32]:Str).length:Int) * ((l.length:Int) - 1)=m.length;simp only [jh,ji];omega]
 refine lpH hI [Uk,Uj,Q5,QZ,zc6,zc5,zel,zek] hX [0,1,4,5,12,39,40,41] (fun(g:Nat × Int)=>match g with|(i,n)=>i≤l.length∧1≤n∧n+(sumS (l.drop i):Int)≤700000100) (fun(g:Nat × Int)=>match g with|(i,n)=>⟨[(0,.v (.one (.p (.list .str l)))),(1,.v (.one (.p (.str ([32]))))),(4,.v (.one (.p (.str ([]))))),(5,.v (.one (.p (.int .i64 n)))),(12,.v (.one (.p (.int .i64 ((I.len (α:=Str) l)))))),(39,.v (.one (.p (.list .str l)))),(40,.v (.one (.p (.int .i64 ((I.len (α:=Str) l)))))),(41,.v (.one (.p (.int .i64 i))))],[],75,none⟩) (fun(g:Nat × Int)=>match g with|(i,n)=>l.length - i) (0,(m.length:Int)) (by kernel_rfl) (by kernel_rfl) ?_ ?_
 · exact⟨jM _,by show(1:Int)≤m.length;omega,by show(m.length:Int)+(sumS l:Int)≤700000100;omega⟩
 rintro⟨i,n⟩ ⟨g1,g2,g3⟩ A hA;have g4:=fun(h:i<l.length)=>zvb h
 have hA2:=fun(h:i<l.length) (n':Int) (e:1≤n'∧n'+(sumS (l.drop (i+1)):Int)≤700000100)=>hA (i+1,n') ⟨by show i+1≤l.length;omega,e.1,e.2⟩ (by show l.length - (i+1)<l.length - i;omega)
 try simp only [Int.natCast_add,Int.natCast_one] at hA2
 try simp only at g2 g3
 have hgi:I.get (α:=Str) l [] (i:Int)=l.getD i []:=by subst hI;rfl
 have hgi2:I.get (α:=Str) l (dflt U.str) (i:Int)=l.getD i []:=by subst hI;rfl
 clear hA
 refine orcL ?_;go_invoke;refine orcS (by kernel_rfl) ?_
 simp only [zi,Nat.reduceAdd];simp only [hgi,hgi2];clear hgi hgi2
 (repeat' (first|refine ja ?_ ?_|intro _))
 all_goals try(subst hI;(simp only [nrmA,nrmB,nrlB,reduceCtorEq] at *);first
  |done
  |exact jb
  |omega
  |(have:=g4 (by omega);omega)
  |(have:=g4 (by omega);exact hA2 (by omega) _ ⟨by omega,by omega⟩)
  |(have:=g4 (by omega);exfalso;omega))
 · subst hI
   simp only [nrmA,nrmB,nrlB,reduceCtorEq];rw [ha];have:=zjz (m:=l) (j:=0);rw [ha] at this;simp only [ji];omega
 have hcut:I.cut l 1 (I.len (α:=Str) l)=m:=by
  subst hI;rw [hl]
  show(((a::m).drop 1).take _)=m
  exact jq (by show m.length≤(((a::m).length:Nat):Int).toNat - Int.toNat 1;simp)
 have hga:I.get (α:=Str) l [] 0=a:=by subst hI;exact ha
 have hh: ∀ {α:Type} (x:α),I.hid x=x:=by subst hI;intros;rfl
 simp only [hh,hcut,hga,List.nil_append]
 have hrl:r.length≤700000100:=by
  rw [← hra,jk,X6];rw [hl] at h2;simp only [sumS] at h2;omega
 clear g4 hA2 g1 g2 g3 hq ho hga hcut
 refine lpH hI [bK_k,Uk,Uj,Q5,QZ,zc6,zc5,zel,zek] hX [1,8,63,64,65] (fun(g:Nat × Str)=>match g with|(j,o)=>j≤m.length∧o++Un (m.drop j)=r) (fun(g:Nat × Str)=>match g with|(j,o)=>⟨[(1,.v (.one (.p (.str ([32]))))),(8,.v (.one (.ptr 0 0))),(63,.v (.one (.p (.list .str m)))),(64,.v (.one (.p (.int .i64 ((I.len (α:=Str) m)))))),(65,.v (.one (.p (.int .i64 j))))],[.pack [.obj 43 [.ptr 0 0,.row 1],.row .byte 5 o]],75,none⟩) (fun(g:Nat × Str)=>match g with|(j,o)=>m.length - j) (0,a) (by kernel_rfl) (by kernel_rfl) ?_ ?_
 · exact⟨jM _,hra⟩
 rintro⟨j,o⟩ ⟨k1,k2⟩ A2 hA2
 try simp only at hA2
 have k3:o.length≤r.length:=by rw [← k2,jk];omega
 have k4:=fun(h:j<m.length)=>zrP h
 refine orcL ?_;go_invoke;refine orcS (by kernel_rfl) ?_
 simp only [zi,Nat.reduceAdd];subst hI;simp only [nrmA,nrmB,nrlB,reduceCtorEq]
 have hgo:=fun(h:j<m.length)=>hA2 (j+1,o++[32]++m.getD j []) ⟨by show j+1≤m.length;omega,by show o++[32]++m.getD j []++Un (m.drop (j+1))=r;rw [← k2,k4 h];simp⟩ (by show m.length - (j+1)<m.length - j;omega)
 have hge:j<m.length→(m.getD j []).length+(o++[32]).length≤700000100:=fun h=>by
  rw [← k2,k4 h] at hrl;simp only [jk] at hrl ⊢;omega
 have hend: ¬ j<m.length→o=r:=fun h=>by rw [jF (by omega)] at k2;simpa [Un] using k2
 have hne:r≠[]:=fun h=>by
  rw [← hra] at h;have:=congrArg List.length h;rw [jk,X6,ji] at this;omega
 clear hA2 k4;simp only [jh,ji]
 (repeat' (first|refine ja ?_ ?_|intro _))<;>first|omega|exact jb|exact jc ‹False›|skip
 all_goals first
  |omega
  |exact hend (by omega)
  |exact hgo (by omega)
  |(have:=hge (by omega);omega)
  |(have e:=hend (by omega);exact hne (e.symm.trans ‹o=[]›))
def zvW:Know Tryz.prog:=⟨46,zed,zpF⟩
def zvV:Know Tryz.prog:=⟨46,fun I=>zx I (zed I),zf zpF⟩
end Go.Proofs.YtnpmenpjagcheaaGreatDoor
namespace Go.Proofs.YtnpmenpjagcheaaGreatDoor
open Go Go.Sep Go.Ab
set_option maxRecDepth 100000
theorem znn {p:UInt8→Bool} {s:Str} {i:Nat} (h:i≤(s.takeWhile p).length):(i<s.length∧p (s.getD i 0)=true)↔i<(s.takeWhile p).length:=by
 induction s generalizing i with
 |nil=>simp
 | cons c r ih=>
   by_cases hc:p c=true
   · simp only [List.takeWhile_cons,hc,if_true,jh] at h ⊢
     cases i with
     |zero=>simp [hc]
     | succ i=>
       have:=ih (i:=i) (by omega)
       simp only [List.getD_cons_succ];constructor
       · rintro⟨h1,h2⟩;have:=this.1 ⟨by omega,h2⟩;omega
       · intro h1;have:=this.2 (by omega);exact⟨by omega,this.2⟩
   · simp only [List.takeWhile_cons,hc,jd,if_false,ji] at h ⊢
     have:i=0:=by omega
     subst this
     simp [hc]
theorem zu4 (p:UInt8→Bool) (s:Str):s.take (s.takeWhile p).length=s.takeWhile p:=by
 induction s with
 |nil=>simp
 |cons c r ih=>by_cases hc:p c=true<;>simp [List.takeWhile_cons,hc,ih]
theorem drop_tw (p:UInt8→Bool) (s:Str):s.drop (s.takeWhile p).length=s.dropWhile p:=by
 induction s with
 |nil=>simp
 |cons c r ih=>by_cases hc:p c=true<;>simp [List.takeWhile_cons,List.dropWhile_cons,hc,ih]
theorem zwN (p:UInt8→Bool) (s:Str):(s.takeWhile p).length≤s.length:=(List.takeWhile_sublist p).length_le
theorem zx8 (p:UInt8→Bool) (s:Str):(s.dropWhile p).length≤s.length:=(List.dropWhile_sublist p).length_le
def isTk (c:UInt8):Bool:=tokB (c.toNat:Int)
def tokS (s:Str):Str:=s.takeWhile isTk
def tokE (s:Str):Str:=s.dropWhile isTk
theorem tq (s:Str):(tokS s).length≤s.length:=zwN _ _
theorem wZ (s:Str):(tokE s).length≤s.length:=zx8 _ _
theorem zu3 (s:Str):(tokS s).length+(tokE s).length=s.length:=by
 have:=congrArg List.length (List.takeWhile_append_dropWhile (p:=isTk) (l:=s));rw [jk] at this;exact this
def skS (s:Str):Str:=Lib.trimLeftS s [32,9]
theorem wQ (s:Str):(skS s).length≤s.length:=by
 unfold skS Lib.trimLeftS;exact(List.dropWhile_sublist _).length_le
def uZ (s:Str) (c:UInt8):Bool:=s.head? == some c
theorem zct {s:Str} {c:UInt8} (h:uZ s c=true):0<s.length:=by
 cases s with
 |nil=>simp [uZ] at h
 |cons a r=>simp
theorem zcu {s:Str} {c:UInt8}:uZ s c=true↔0<s.length∧s.getD 0 0=c:=by
 cases s with
 |nil=>simp [uZ]
 |cons a r=>simp [uZ]
theorem drop1 (s:Str):List.take (s.length - Int.toNat 1) (List.drop (Int.toNat 1) s)=s.drop 1:=by
 show List.take (s.length - 1) (List.drop 1 s)=s.drop 1
 exact jq (by simp)
def quoF:Str→Option (Str × Str)
 |[]=>none
 |[x]=>if x=34 then some ([],[]) else none
 |x::y::r=>if x=34 then some ([],y::r) else if x=92 then(quoF r).map (fun p=>(y::p.1,p.2)) else(quoF (y::r)).map (fun p=>(x::p.1,p.2))
def quoV (s:Str):Str:=match quoF s with|some p=>p.1|none=>[]
def quoR (s:Str):Str:=match quoF s with|some p=>p.2|none=>[]
theorem RV: ∀ (s:Str) (p:Str × Str),quoF s=some p→p.1.length+p.2.length<s.length
 |[],p,h=>by simp [quoF] at h
 | [x],p,h=>by
   simp only [quoF] at h
   split at h
   · cases h;simp
   · cases h
 | x ::y::r,p,h=>by
   simp only [quoF] at h
   split at h
   · cases h;simp
   · split at h
     · rw [Option.map_eq_some_iff] at h
       obtain⟨q,hq,rfl⟩:=h;have:=RV r q hq;simp only [jh];omega
     · rw [Option.map_eq_some_iff] at h
       obtain⟨q,hq,rfl⟩:=h;have:=RV (y::r) q hq;simp only [jh] at this ⊢;omega
theorem zsB (s:Str):(quoR s).length≤s.length:=by
 unfold quoR
 split
 · rename_i p h;have:=RV _ _ h;omega
 · simp
theorem zsA (s:Str):(quoV s).length≤s.length:=by
 unfold quoV
 split
 · rename_i p h;have:=RV _ _ h;omega
 · simp
def parM (s:Str):Int × Fld × Str:=
 if tokS s=[] then(5,⟨[],[]⟩,tokE s)
 else if uZ (tokE s) 61=false then(5,⟨[],[]⟩,tokE s)
 else if uZ ((tokE s).drop 1) 34=true then
  if(quoF ((tokE s).drop 2)).isSome=true then(0,⟨lowS (tokS s),quoV ((tokE s).drop 2)⟩,quoR ((tokE s).drop 2)) else(14,⟨[],[]⟩,[])
 else if tokS ((tokE s).drop 1)=[] then(5,⟨[],[]⟩,tokE ((tokE s).drop 1))
 else(0,⟨lowS (tokS s),tokS ((tokE s).drop 1)⟩,tokE ((tokE s).drop 1))
theorem zdT (s:Str):(parM s).2.2.length≤s.length∧(parM s).2.1.name.length≤s.length∧(parM s).2.1.value.length≤s.length:=by
 have h1:=wZ s;have h2:=wZ ((tokE s).drop 1);have h3:=zsB ((tokE s).drop 2);have h4:=zsA ((tokE s).drop 2);have h5:=tq s;have h6:=tq ((tokE s).drop 1);simp only [jC] at h2 h3 h4 h6;unfold parM
 repeat' split
 all_goals simp only [ji,vC];omega
def getP (l:List Fld) (n:Str):Str × Bool:=match l.find? (fun f=>f.name == n) with|some f=>(f.value,true)|none=>([],false)
def medL:Nat→Str→List Fld→Int × List Fld × Str
 |0,s,ps=>(5,ps,s)
 | n +1,s,ps=>
   if uZ s 59=true then
    if(parM (skS (s.drop 1))).1≠0 then((parM (skS (s.drop 1))).1,ps,(parM (skS (s.drop 1))).2.2)
    else if(getP ps (parM (skS (s.drop 1))).2.1.name).2=true then(9,ps,(parM (skS (s.drop 1))).2.2)
    else if ps.length=8 then(8,ps,(parM (skS (s.drop 1))).2.2)
    else medL n (skS (parM (skS (s.drop 1))).2.2) (ps++[(parM (skS (s.drop 1))).2.1])
   else if s=[] then(0,ps,s) else(5,ps,s)
def medB (w:Str) (s:Str):Int × Med × Str:=((medL ((skS s).length+1) (skS s) []).1,⟨w,(medL ((skS s).length+1) (skS s) []).2.1⟩,(medL ((skS s).length+1) (skS s) []).2.2)
def medA (s:Str):Int × Med × Str:=
 if tokS s=[] then(5,⟨[],[]⟩,tokE s)
 else if uZ (tokE s) 47=true then
  if tokS ((tokE s).drop 1)=[] then(5,⟨[],[]⟩,tokE ((tokE s).drop 1))
  else medB (lowS (tokS s)++([47]++lowS (tokS ((tokE s).drop 1)))) (tokE ((tokE s).drop 1))
 else medB (lowS (tokS s)) (tokE s)
def wo (s:Str):Int × Med × Str:=medA (skS s)
def xI (s:Str):Med × Int:=if XA s=false then(⟨[],[]⟩,3) else if(wo s).1=0 then((wo s).2.1,0) else(⟨[],[]⟩,(wo s).1)
theorem zfP (s:Str):(parM s).1=0∨(parM s).1=5∨(parM s).1=14:=by
 unfold parM
 repeat' split
 all_goals simp
def ixP (l:List Fld) (n:Str):Int:=if l.findIdx (fun f=>f.name == n)<l.length then(l.findIdx (fun f=>f.name == n):Int) else -1
theorem zv7 (l:List Fld) (n:Str):getP l n=if 0≤ixP l n then((l.getD (ixP l n).toNat ⟨[],[]⟩).value,true) else([],false):=by
 unfold getP ixP;rw [List.find?_eq_getElem?_findIdx]
 by_cases h:l.findIdx (fun f=>f.name == n)<l.length
 · rw [if_pos h,if_pos (by omega),jm h]
   simp [jH,h]
 · rw [if_neg h,if_neg (by omega),List.getElem?_eq_none (by omega)]
end Go.Proofs.YtnpmenpjagcheaaGreatDoor
namespace Go.Proofs.YtnpmenpjagcheaaGreatDoor
open Go Go.Sep Go.Ab
set_option maxRecDepth 100000
def Zc (I:Alg):KU
 |[.v (.one (.p (.str s))),.v (.one (.p (.str ([32,9]))))],[]=>(fun(s:Str)=>(some (.one ⟨I.hid (True),(.ret (.v (.one (.p (.str (I.hid (skS s))))))),[]⟩):Option CT)) s
 |_,_=>none
theorem zad:zu Tryz.prog 225 (Zc alg):=by
 intro args hp r h;unfold Zc at h;split at h<;>cases h
 rename_i s;simp only [CT.Good,zh];intro _
 refine Spc.of_below ⟨_,Tryz.func225,by kernel_rfl,by kernel_rfl⟩ fun S bs w vs _ hM=> ?_
 obtain⟨v,r,rfl⟩: ∃ v r,vs=v::r:=by cases vs with|nil=>exact hM.elim|cons v r=>exact⟨v,r,rfl⟩
 obtain⟨h1,hM⟩:=hM
 obtain⟨v2,r2,rfl⟩: ∃ v r2,r=v::r2:=by cases r with|nil=>exact hM.elim|cons v r=>exact⟨v,r,rfl⟩
 obtain⟨h2,hM⟩:=hM
 obtain rfl:r2=[]:=by cases r2 with|nil=>rfl|cons v r=>exact hM.elim
 cases h1 with
 | str _ hl1=>
   cases h2 with
   | str _ hl2=>
     refine⟨.string (Sep.S (skS s)),.str _ (Nat.le_trans (wQ _) hl1),?_⟩
     exact Tryz.strings_TrimLeft_laid (Sep.S s) (Sep.S [32,9]) w (by decide) (fun j b hb=>by
      have:=List.mem_of_getElem? hb
      rcases(by simpa [Sep.S] using this:b=32∨b=9) with rfl|rfl<;>decide)
def zhF:Know Tryz.prog:=⟨225,Zc,zad⟩
def zhE:Know Tryz.prog:=⟨225,fun I=>zx I (Zc I),zf zad⟩
theorem zvC (b:Bool) (c:Int) (hneed:b=false):Spc Tryz.prog 215 [.v (.one (.p (.bool b))),.v (.one (.p (.int .i64 c)))] [] (.ret (.tup [])) []:=by
 refine spH Tryz.func215 (by kernel_rfl) { keep:=some [0,1]} [] (by kernel_rfl) ?_
 intro I X hI hX
 refine orcL ?_;go_invoke;refine orcS (by kernel_rfl) ?_
 simp only [zi,Nat.reduceAdd];subst hI;simp only [nrmA,nrmB]
 (repeat' (first|refine ja ?_ ?_|intro _))<;>first|omega|exact jb|exact jc ‹False›|skip
 all_goals simp_all
theorem zvB (b:Bool) (c:Int) (hneed:b=true):Spc Tryz.prog 215 [.v (.one (.p (.bool b))),.v (.one (.p (.int .i64 c)))] [] (.pan (.ifc 246 false [.int .i64 c])) []:=by
 refine spH Tryz.func215 (by kernel_rfl) { keep:=some [0,1]} [] (by kernel_rfl) ?_
 intro I X hI hX
 refine orcL ?_;go_invoke;refine orcS (by kernel_rfl) ?_
 simp only [zi,Nat.reduceAdd];subst hI;simp only [nrmA,nrmB]
 (repeat' (first|refine ja ?_ ?_|intro _))<;>first|omega|exact jb|exact jc ‹False›|skip
 all_goals simp_all
def Qb (I:Alg):KU
 |[.v (.one (.p (.bool b))),.v (.one (.p (.int .i64 c)))],[]=>some (.br (I.hid (b)) (.one ⟨I.hid (b=true),(.pan (.ifc 246 false [.int .i64 c])),[]⟩) (.one ⟨I.hid (b=false),(.ret (.tup [])),[]⟩))
 |_,_=>none
theorem zkt:zu Tryz.prog 215 (Qb alg):=by
 intro args hp r h;unfold Qb at h
 split at h
 · cases h;exact⟨fun _ hn=>zvB _ _ hn,fun _ hn=>zvC _ _ hn⟩
 · cases h
def x9:Know Tryz.prog:=⟨215,Qb,zkt⟩
def xZ:Know Tryz.prog:=⟨215,fun I=>zx I (Qb I),zf zkt⟩
def YX (I:Alg):KU
 |[.v (.one (.ptr 0 0))],[.pack [.obj 250 [.p (.str s)]]]=>(fun(s:Str)=>(some (.one ⟨I.hid (True),(.ret (.tup [])),[.pack [.obj 250 [.p (.str (I.hid (skS s)))]]]⟩):Option CT)) s
 |_,_=>none
theorem zcg:zu Tryz.prog 211 (YX alg):=by
 intro args hp r h;unfold YX at h;split at h<;>cases h
 rename_i s;simp only [CT.Good,zh];intro _
 refine spH Tryz.func211 (by kernel_rfl) { keep:=some [0]} [zhF,zhE] (by kernel_rfl) ?_
 intro I X hI hX
 refine orcL ?_;go_invoke;refine orcS (by kernel_rfl) ?_
 simp only [zi,Nat.reduceAdd];subst hI;simp only [nrmA,nrmB,nrlB,reduceCtorEq,HO.pack.injEq,HO.obj.injEq]
 try trivial
def YW:Know Tryz.prog:=⟨211,YX,zcg⟩
def YV:Know Tryz.prog:=⟨211,fun I=>zx I (YX I),zf zcg⟩
def RZ (I:Alg):KU
 |[.v (.one (.ptr 0 0)),.v (.one (.p (.int .u8 k)))],[.pack [.obj 250 [.p (.str s)]]]=>(fun(s:Str)=>(some (.one ⟨I.hid (0≤k∧k≤255),(.ret (.v (.one (.p (.bool (I.hid (uZ s (UInt8.ofNat k.toNat)))))))),[.pack [.obj 250 [(.p (.str (I.hid (if uZ s (UInt8.ofNat k.toNat)=true then s.drop 1 else s))))]]]⟩):Option CT)) s
 |_,_=>none
theorem zkq:zu Tryz.prog 213 (RZ alg):=by
 intro args hp r h;unfold RZ at h;split at h<;>cases h
 rename_i k s;simp only [CT.Good,zh];intro hneed;generalize hr:uZ s (UInt8.ofNat k.toNat)=r
 refine spH Tryz.func213 (by kernel_rfl) { keep:=some [0,1,4,5]} [] (by kernel_rfl) ?_
 intro I X hI hX
 refine orcL ?_;go_invoke;refine orcS (by kernel_rfl) ?_
 simp only [zi,Nat.reduceAdd];subst hI;simp only [nrmA,nrmB,nrlB,reduceCtorEq,HO.pack.injEq,HO.obj.injEq]
 have hk:((UInt8.ofNat k.toNat).toNat:Int)=k:=by rw [UInt8.toNat_ofNat',Nat.mod_eq_of_lt (by omega)];omega
 have hk2: ∀ c:UInt8,(c.toNat:Int)=k↔c=UInt8.ofNat k.toNat:=fun c=>⟨fun h=>by rw [← h];simp,fun h=>by rw [h];exact hk⟩
 rw [drop1];have hs:s=[]↔s.length=0:=List.length_eq_zero_iff.symm;rw [hs]
 cases r with
 | true=>
   obtain⟨h1,h2⟩:=zcu.1 hr;have hkk:=(hk2 _).2 h2;rw [hkk]
   (repeat' (first|refine ja ?_ ?_|intro _))<;>first|omega|exact jb|exact jc ‹False›|skip
   all_goals first|omega|(simp;done)|(simp_all;done)
 | false=>
   have h1:0<s.length→¬ ((s.getD 0 0).toNat:Int)=k:=fun h q=>by rw [zcu.2 ⟨h,(hk2 _).1 q⟩] at hr;cases hr
   (repeat' (first|refine ja ?_ ?_|intro _))<;>first|omega|exact jb|exact jc ‹False›|skip
   all_goals first|omega|(simp;done)|(exfalso;exact h1 (by omega) ‹_›)|(have:=h1 (by omega);simp_all;done)|trace_state
def YU:Know Tryz.prog:=⟨213,RZ,zkq⟩
def YT:Know Tryz.prog:=⟨213,fun I=>zx I (RZ I),zf zkq⟩
theorem zxl (s:Str) (hneed:s.length≤1000000∧¬ tokS s=[]):Spc Tryz.prog 212 [.v (.one (.ptr 0 0))] [.pack [.obj 250 [.p (.str s)]]] (.ret (.v (.one (.p (.str ((tokS s))))))) [.pack [.obj 250 [.p (.str ((tokE s)))]]]:=by
 obtain⟨hl,hne⟩:=hneed
 refine spH Tryz.func212 (by kernel_rfl) { keep:=some [0,2,3,4]} [Zd,X3,x9,xZ] (by kernel_rfl) ?_
 intro I X hI hX
 refine orcL ?_;go_invoke;refine orcS (by kernel_rfl) ?_
 simp only [zi,Nat.reduceAdd]
 refine lpH hI [Zd,X3,x9,xZ] hX [0,3] (fun(i:Nat)=>i≤(tokS s).length) (fun(i:Nat)=>⟨[(0,.v (.one (.ptr 0 0))),(3,.v (.one (.p (.int .i64 i))))],[.pack [.obj 250 [.p (.str s)]]],42,none⟩) (fun(i:Nat)=>s.length - i) 0 (by kernel_rfl) (by kernel_rfl) ?_ ?_
 · exact jM _
 rintro i h1 A hA
 refine orcL ?_;go_invoke;refine orcS (by kernel_rfl) ?_
 simp only [zi,Nat.reduceAdd];subst hI;simp only [nrmA,nrmB,nrlB,reduceCtorEq,HO.pack.injEq,HO.obj.injEq];have hb:=vK (s.getD i 0);have hs:=znn (p:=isTk) (s:=s) h1;have hle:=tq s;have ht:=zu4 isTk s;have hd:=drop_tw isTk s;unfold isTk at hs
 change _↔i<(tokS s).length at hs
 change s.take (tokS s).length=tokS s at ht
 change s.drop (tokS s).length=tokE s at hd
 have hlen:=zu3 s
 have hend: ¬ i<(tokS s).length→i=(tokS s).length:=fun h=>by omega
 generalize s.getD i 0=x at *
 have hgo:i<(tokS s).length→A ⟨[(0,.v (.one (.ptr 0 0))),(3,.v (.one (.p (.int .i64 (((i:Int)+1))))))],[.pack [.obj 250 [.p (.str s)]]],42,none⟩:=fun h=>hA (i+1) (by omega) (by omega)
 by_cases hi:i<(tokS s).length
 · have hi2:=hs.2 hi
   clear hs hend ht hd hA
   (repeat' (first|refine ja ?_ ?_|intro _))<;>first|omega|exact jb|exact jc ‹False›|skip
   all_goals first
    |omega
    |exact hgo hi
    |(exfalso;simp_all;done)
 · have hx:i<s.length→tokB (x.toNat:Int)=true→False:=fun a b=>hi (hs.1 ⟨a,b⟩)
   have hi2:=hend hi;clear hs hend hA hgo;subst hi2;rw [ht]
   have hcut:List.take (s.length - (tokS s).length) (List.drop (tokS s).length s)=tokE s:=by rw [hd];exact jq (by omega)
   rw [hcut]
   (repeat' (first|refine ja ?_ ?_|intro _))<;>first|omega|exact jb|exact jc ‹False›|skip
   all_goals first
    |omega
    |(exfalso;exact hx (by omega) ‹_›)
    |(exfalso;exact hne ‹_›)
    |(simp [hne];done)
theorem zxk (s:Str) (hneed:s.length≤1000000∧tokS s=[]):Spc Tryz.prog 212 [.v (.one (.ptr 0 0))] [.pack [.obj 250 [.p (.str s)]]] (.pan (.ifc 246 false [.int .i64 5])) [.pack [.obj 250 [.p (.str ((tokE s)))]]]:=by
 obtain⟨hl,hne⟩:=hneed
 refine spH Tryz.func212 (by kernel_rfl) { keep:=some [0,2,3,4]} [Zd,X3,x9,xZ] (by kernel_rfl) ?_
 intro I X hI hX
 refine orcL ?_;go_invoke;refine orcS (by kernel_rfl) ?_
 simp only [zi,Nat.reduceAdd]
 refine lpH hI [Zd,X3,x9,xZ] hX [0,3] (fun(i:Nat)=>i≤(tokS s).length) (fun(i:Nat)=>⟨[(0,.v (.one (.ptr 0 0))),(3,.v (.one (.p (.int .i64 i))))],[.pack [.obj 250 [.p (.str s)]]],42,none⟩) (fun(i:Nat)=>s.length - i) 0 (by kernel_rfl) (by kernel_rfl) ?_ ?_
 · exact jM _
 rintro i h1 A hA
 refine orcL ?_;go_invoke;refine orcS (by kernel_rfl) ?_
 simp only [zi,Nat.reduceAdd];subst hI;simp only [nrmA,nrmB,nrlB,reduceCtorEq,HO.pack.injEq,HO.obj.injEq];have hb:=vK (s.getD i 0);have hs:=znn (p:=isTk) (s:=s) h1;have hd:=drop_tw isTk s;unfold isTk at hs
 change _↔i<(tokS s).length at hs
 change s.drop (tokS s).length=tokE s at hd
 rw [hne] at h1 hs hd;simp only [ji] at h1 hs hd
 have h0:i=0:=by omega
 subst h0;generalize s.getD 0 0=x at *
 have hx:0<s.length→tokB (x.toNat:Int)=true→False:=fun a b=>absurd (hs.1 ⟨a,b⟩) (by omega)
 have hcut:List.take (s.length - 0) (List.drop 0 s)=tokE s:=by rw [hd];exact jq (by have:=wZ s;omega)
 clear hs hA;simp only [jJ,List.take_zero,hcut] at *
 (repeat' (first|refine ja ?_ ?_|intro _))<;>first|omega|exact jb|exact jc ‹False›|skip
 all_goals first
  |omega
  |(exfalso;exact hx (by omega) ‹_›)
  |(exfalso;rename_i hq;exact hq rfl)
  |(simp;done)
def zdU (I:Alg):KU
 |[.v (.one (.ptr 0 0))],[.pack [.obj 250 [.p (.str s)]]]=>(fun(s:Str)=>(some (.br (I.hid (decide (tokS s=[]))) (.one ⟨I.hid (s.length≤1000000∧tokS s=[]),(.pan (.ifc 246 false [.int .i64 5])),[.pack [.obj 250 [.p (.str (I.hid (tokE s)))]]]⟩) (.one ⟨I.hid (s.length≤1000000∧¬ tokS s=[]),(.ret (.v (.one (.p (.str (I.hid (tokS s))))))),[.pack [.obj 250 [.p (.str (I.hid (tokE s)))]]]⟩)):Option CT)) s
 |_,_=>none
theorem zo5:zu Tryz.prog 212 (zdU alg):=by
 intro args hp r h;unfold zdU at h
 split at h
 · cases h;exact⟨fun _ hn=>zxk _ hn,fun _ hn=>zxl _ hn⟩
 · cases h
def UE:Know Tryz.prog:=⟨212,zdU,zo5⟩
def UD:Know Tryz.prog:=⟨212,fun I=>zx I (zdU I),zf zo5⟩
theorem zxn (s:Str) (hneed:s.length≤1000000∧(quoF s).isSome=true):Spc Tryz.prog 226 [.v (.one (.ptr 0 0))] [.pack [.obj 250 [.p (.str s)]]] (.ret (.v (.one (.p (.str ((quoV s))))))) [.pack [.obj 250 [.p (.str ((quoR s)))]]]:=by
 obtain⟨hl,hne⟩:=hneed
 refine spH Tryz.func226 (by kernel_rfl) { nr:=[3],keep:=some [0,2,3,4]} [x9,xZ] (by kernel_rfl) ?_
 intro I X hI hX
 refine orcL ?_;go_invoke;refine orcS (by kernel_rfl) ?_
 simp only [zi,Nat.reduceAdd]
 refine lpH hI [x9,xZ] hX [0,3] (fun(g:Str × Str)=>match g with|(b,t)=>b.length+t.length≤s.length∧quoF s=(quoF t).map (fun p=>(b++p.1,p.2))) (fun(g:Str × Str)=>match g with|(b,t)=>⟨[(0,.v (.one (.ptr 0 0))),(3,.v (.one (.row 1)))],[.pack [.obj 250 [.p (.str t)]],.row .byte 5 b],53,none⟩) (fun(g:Str × Str)=>match g with|(b,t)=>t.length) ([],s) (by kernel_rfl) (by kernel_rfl) ?_ ?_
 · exact⟨by simp,by simp⟩
 rintro⟨b,t⟩ ⟨h1,h2⟩ A hA
 refine orcL ?_;go_invoke;refine orcS (by kernel_rfl) ?_
 simp only [zi,Nat.reduceAdd];subst hI;simp only [nrmA,nrmB,nrlB,reduceCtorEq,HO.pack.injEq,HO.obj.injEq];have hb:=vK (t.getD 0 0);rw [drop1];have hq: ∀ r:Str × Str,quoF s=some r→True:=fun _ _=>trivial
 cases t with
 | nil=>
   simp only [quoF,Option.map_none] at h2
   (repeat' (first|refine ja ?_ ?_|intro _))<;>first|omega|exact jb|exact jc ‹False›|skip
   all_goals first
    |omega
    |(simp_all;done)
 |cons x t=>
 cases t with
 | nil=>
   simp only [quoF] at h2;have h34:((x.toNat:Int)=34)↔x=34:=qK x 34;have h92:((x.toNat:Int)=92)↔x=92:=qK x 92;simp only [List.getD_cons_zero,h34,h92,List.drop_succ_cons,List.drop_zero,jh,ji] at *
   have hgo: ¬ x=34→A ⟨[(0,.v (.one (.ptr 0 0))),(3,.v (.one (.row 1)))],[.pack [.obj 250 [.p (.str ([]))]],.row .byte 5 ((b++[x]))],53,none⟩:=fun h=>hA (b++[x],[]) ⟨by simp;omega,by rw [h2,if_neg h];rfl⟩ (by simp)
   have hv:x=34→quoV s=b∧quoR s=[]:=fun h=>by unfold quoV quoR;rw [h2,if_pos h];simp
   clear hA
   (repeat' (first|refine ja ?_ ?_|intro _))<;>first|omega|exact jb|exact jc ‹False›|skip
   all_goals first
    |omega
    |exact(hv ‹_›).1.symm
    |exact(hv ‹_›).2.symm
    |exact hgo ‹_›
    |(simp_all;done)
 | cons y t=>
   simp only [quoF] at h2;have h34:((x.toNat:Int)=34)↔x=34:=qK x 34;have h92:((x.toNat:Int)=92)↔x=92:=qK x 92;have hy:=vK y
   have hyt:List.take (t.length+1 - Int.toNat 1) (List.drop (Int.toNat 1) (y::t))=t:=by simpa using drop1 (y::t)
   simp only [List.getD_cons_zero,h34,h92,List.drop_succ_cons,List.drop_zero,jh] at *
   have hgoY: ¬ x=34→x=92→A ⟨[(0,.v (.one (.ptr 0 0))),(3,.v (.one (.row 1)))],[.pack [.obj 250 [.p (.str t)]],.row .byte 5 ((b++[y]))],53,none⟩:=fun h k=>hA (b++[y],t) ⟨by simp;omega,by rw [h2,if_neg h,if_pos k,Option.map_map];congr 1;funext p;simp⟩ (by simp;omega)
   have hgoX: ¬ x=34→¬ x=92→A ⟨[(0,.v (.one (.ptr 0 0))),(3,.v (.one (.row 1)))],[.pack [.obj 250 [.p (.str ((y::t)))]],.row .byte 5 ((b++[x]))],53,none⟩:=fun h k=>hA (b++[x],y::t) ⟨by simp;omega,by rw [h2,if_neg h,if_neg k,Option.map_map];congr 1;funext p;simp⟩ (by simp)
   have hv:x=34→quoV s=b∧quoR s=y::t:=fun h=>by unfold quoV quoR;rw [h2,if_pos h];simp
   clear hA;simp only [ji,Nat.zero_add]
   first|rw [hyt]|skip
   (repeat' (first|refine ja ?_ ?_|intro _))<;>first|omega|exact jb|exact jc ‹False›|skip
   all_goals first
    |omega
    |exact(hv ‹_›).1.symm
    |exact(hv ‹_›).2.symm
    |exact hgoX ‹_› ‹_›
    |exact hgoY ‹_› ‹_›
    |(simp_all;done)
theorem zxm (s:Str) (hneed:s.length≤1000000∧(quoF s).isSome=false):Spc Tryz.prog 226 [.v (.one (.ptr 0 0))] [.pack [.obj 250 [.p (.str s)]]] (.pan (.ifc 246 false [.int .i64 14])) [.pack [.obj 250 [.p (.str ([]))]]]:=by
 obtain⟨hl,hne⟩:=hneed
 refine spH Tryz.func226 (by kernel_rfl) { nr:=[3],keep:=some [0,2,3,4]} [x9,xZ] (by kernel_rfl) ?_
 intro I X hI hX
 refine orcL ?_;go_invoke;refine orcS (by kernel_rfl) ?_
 simp only [zi,Nat.reduceAdd]
 refine lpH hI [x9,xZ] hX [0,3] (fun(g:Str × Str)=>match g with|(b,t)=>b.length+t.length≤s.length∧quoF s=(quoF t).map (fun p=>(b++p.1,p.2))) (fun(g:Str × Str)=>match g with|(b,t)=>⟨[(0,.v (.one (.ptr 0 0))),(3,.v (.one (.row 1)))],[.pack [.obj 250 [.p (.str t)]],.row .byte 5 b],53,none⟩) (fun(g:Str × Str)=>match g with|(b,t)=>t.length) ([],s) (by kernel_rfl) (by kernel_rfl) ?_ ?_
 · exact⟨by simp,by simp⟩
 rintro⟨b,t⟩ ⟨h1,h2⟩ A hA
 refine orcL ?_;go_invoke;refine orcS (by kernel_rfl) ?_
 simp only [zi,Nat.reduceAdd];subst hI;simp only [nrmA,nrmB,nrlB,reduceCtorEq,HO.pack.injEq,HO.obj.injEq];have hb:=vK (t.getD 0 0);rw [drop1];have hq: ∀ r:Str × Str,quoF s=some r→True:=fun _ _=>trivial
 cases t with
 | nil=>
   simp only [quoF,Option.map_none] at h2
   (repeat' (first|refine ja ?_ ?_|intro _))<;>first|omega|exact jb|exact jc ‹False›|skip
   all_goals first
    |omega
    |(simp_all;done)
 |cons x t=>
 cases t with
 | nil=>
   simp only [quoF] at h2;have h34:((x.toNat:Int)=34)↔x=34:=qK x 34;have h92:((x.toNat:Int)=92)↔x=92:=qK x 92;simp only [List.getD_cons_zero,h34,h92,List.drop_succ_cons,List.drop_zero,jh,ji] at *
   have hgo: ¬ x=34→A ⟨[(0,.v (.one (.ptr 0 0))),(3,.v (.one (.row 1)))],[.pack [.obj 250 [.p (.str ([]))]],.row .byte 5 ((b++[x]))],53,none⟩:=fun h=>hA (b++[x],[]) ⟨by simp;omega,by rw [h2,if_neg h];rfl⟩ (by simp)
   have hv:x=34→quoV s=b∧quoR s=[]:=fun h=>by unfold quoV quoR;rw [h2,if_pos h];simp
   clear hA
   (repeat' (first|refine ja ?_ ?_|intro _))<;>first|omega|exact jb|exact jc ‹False›|skip
   all_goals first
    |omega
    |exact(hv ‹_›).1.symm
    |exact(hv ‹_›).2.symm
    |exact hgo ‹_›
    |(simp_all;done)
 | cons y t=>
   simp only [quoF] at h2;have h34:((x.toNat:Int)=34)↔x=34:=qK x 34;have h92:((x.toNat:Int)=92)↔x=92:=qK x 92;have hy:=vK y
   have hyt:List.take (t.length+1 - Int.toNat 1) (List.drop (Int.toNat 1) (y::t))=t:=by simpa using drop1 (y::t)
   simp only [List.getD_cons_zero,h34,h92,List.drop_succ_cons,List.drop_zero,jh] at *
   have hgoY: ¬ x=34→x=92→A ⟨[(0,.v (.one (.ptr 0 0))),(3,.v (.one (.row 1)))],[.pack [.obj 250 [.p (.str t)]],.row .byte 5 ((b++[y]))],53,none⟩:=fun h k=>hA (b++[y],t) ⟨by simp;omega,by rw [h2,if_neg h,if_pos k,Option.map_map];congr 1;funext p;simp⟩ (by simp;omega)
   have hgoX: ¬ x=34→¬ x=92→A ⟨[(0,.v (.one (.ptr 0 0))),(3,.v (.one (.row 1)))],[.pack [.obj 250 [.p (.str ((y::t)))]],.row .byte 5 ((b++[x]))],53,none⟩:=fun h k=>hA (b++[x],y::t) ⟨by simp;omega,by rw [h2,if_neg h,if_neg k,Option.map_map];congr 1;funext p;simp⟩ (by simp)
   have hv:x=34→quoV s=b∧quoR s=y::t:=fun h=>by unfold quoV quoR;rw [h2,if_pos h];simp
   clear hA;simp only [ji,Nat.zero_add]
   first|rw [hyt]|skip
   (repeat' (first|refine ja ?_ ?_|intro _))<;>first|omega|exact jb|exact jc ‹False›|skip
   all_goals first
    |omega
    |exact(hv ‹_›).1.symm
    |exact(hv ‹_›).2.symm
    |exact hgoX ‹_› ‹_›
    |exact hgoY ‹_› ‹_›
    |(simp_all;done)
def zdV (I:Alg):KU
 |[.v (.one (.ptr 0 0))],[.pack [.obj 250 [.p (.str s)]]]=>(fun(s:Str)=>(some (.br (I.hid ((quoF s).isSome)) (.one ⟨I.hid (s.length≤1000000∧(quoF s).isSome=true),(.ret (.v (.one (.p (.str (I.hid (quoV s))))))),[.pack [.obj 250 [.p (.str (I.hid (quoR s)))]]]⟩) (.one ⟨I.hid (s.length≤1000000∧(quoF s).isSome=false),(.pan (.ifc 246 false [.int .i64 14])),[.pack [.obj 250 [.p (.str (I.hid ([])))]]]⟩)):Option CT)) s
 |_,_=>none
theorem zo8:zu Tryz.prog 226 (zdV alg):=by
 intro args hp r h;unfold zdV at h
 split at h
 · cases h;exact⟨fun _ hn=>zxn _ hn,fun _ hn=>zxm _ hn⟩
 · cases h
def zo7:Know Tryz.prog:=⟨226,zdV,zo8⟩
def zo6:Know Tryz.prog:=⟨226,fun I=>zx I (zdV I),zf zo8⟩
theorem zxp (s:Str) (hneed:s.length≤1000000∧(parM s).1=0):Spc Tryz.prog 214 [.v (.one (.ptr 0 0))] [.pack [.obj 250 [.p (.str s)]]] (.ret (.v (.agg [.p (.str ((parM s).2.1.name)),.p (.str ((parM s).2.1.value))]))) [.pack [.obj 250 [.p (.str ((parM s).2.2))]]]:=by
 obtain⟨hl,hc⟩:=hneed;generalize hr:parM s=r at hc;obtain⟨c,⟨n,v⟩,z⟩:=r;simp only at hc;subst hc
 refine spH Tryz.func214 (by kernel_rfl) { keep:=some [0,2,3]} [wG,wF,x9,xZ,YU,YT,UE,UD,zo7,zo6] (by kernel_rfl) ?_
 intro I X hI hX
 refine orcL ?_;go_invoke;refine orcS (by kernel_rfl) ?_
 simp only [zi,Nat.reduceAdd];subst hI;simp only [nrmA,nrmB,nrlB,reduceCtorEq,HO.pack.injEq,HO.obj.injEq];unfold parM at hr;have hl1:=tq s;have hl2:=wZ s;simp only [show UInt8.ofNat (Int.toNat 61)=61 from rfl,show UInt8.ofNat (Int.toNat 34)=34 from rfl] at *
 (repeat' (first|refine ja ?_ ?_|intro _))<;>first|omega|exact jb|exact jc ‹False›|skip
 all_goals first
  |omega
  |(simp_all;done)
  |(simp_all;omega)
theorem zxo (s:Str) (hneed:s.length≤1000000∧¬ (parM s).1=0):Spc Tryz.prog 214 [.v (.one (.ptr 0 0))] [.pack [.obj 250 [.p (.str s)]]] (.pan (.ifc 246 false [.int .i64 ((parM s).1)])) [.pack [.obj 250 [.p (.str ((parM s).2.2))]]]:=by
 obtain⟨hl,hc⟩:=hneed;generalize hr:parM s=r at hc;obtain⟨c,⟨n,v⟩,z⟩:=r;simp only at hc
 refine spH Tryz.func214 (by kernel_rfl) { keep:=some [0,2,3]} [wG,wF,x9,xZ,YU,YT,UE,UD,zo7,zo6] (by kernel_rfl) ?_
 intro I X hI hX
 refine orcL ?_;go_invoke;refine orcS (by kernel_rfl) ?_
 simp only [zi,Nat.reduceAdd];subst hI;simp only [nrmA,nrmB,nrlB,reduceCtorEq,HO.pack.injEq,HO.obj.injEq];unfold parM at hr;have hl1:=tq s;have hl2:=wZ s;simp only [show UInt8.ofNat (Int.toNat 61)=61 from rfl,show UInt8.ofNat (Int.toNat 34)=34 from rfl] at *
 (repeat' (first|refine ja ?_ ?_|intro _))<;>first|omega|exact jb|exact jc ‹False›|skip
 all_goals first
  |omega
  |(simp_all;done)
  |(simp_all;omega)
  |(by_cases hq:tokS (List.drop 1 (tokE s))=[]<;>simp_all;done)
def zdY (I:Alg):KU
 |[.v (.one (.ptr 0 0))],[.pack [.obj 250 [.p (.str s)]]]=>(fun(s:Str)=>(some (.br (I.hid (decide ((parM s).1=0))) (.one ⟨I.hid (s.length≤1000000∧(parM s).1=0),(.ret (.v (.agg [.p (.str (I.hid ((parM s).2.1.name))),.p (.str (I.hid ((parM s).2.1.value)))]))),[.pack [.obj 250 [.p (.str (I.hid ((parM s).2.2)))]]]⟩) (.one ⟨I.hid (s.length≤1000000∧¬ (parM s).1=0),(.pan (.ifc 246 false [.int .i64 (I.hid ((parM s).1))])),[.pack [.obj 250 [.p (.str (I.hid ((parM s).2.2)))]]]⟩)):Option CT)) s
 |_,_=>none
theorem zo9:zu Tryz.prog 214 (zdY alg):=by
 intro args hp r h;unfold zdY at h
 split at h
 · cases h;exact⟨fun _ hn=>zxp _ hn,fun _ hn=>zxo _ hn⟩
 · cases h
def zdX:Know Tryz.prog:=⟨214,zdY,zo9⟩
def zdW:Know Tryz.prog:=⟨214,fun I=>zx I (zdY I),zf zo9⟩
end Go.Proofs.YtnpmenpjagcheaaGreatDoor
namespace Go.Proofs.YtnpmenpjagcheaaGreatDoor
open Go Go.Sep Go.Ab
set_option maxRecDepth 100000
def Qa (I:Alg):KU
 |[.v (.agg [.p (.str a),.p (.str b)]),.v (.one (.ptr 0 0))],[.pack [.obj 9 [.p (.str n)]]]=>(fun(a b n:Str)=>(some (.one ⟨I.hid (True),(.ret (.v (.one (.p (.bool (I.hid (a == n))))))),[.pack [.obj 9 [.p (.str n)]]]⟩):Option CT)) a b n
 |_,_=>none
theorem zks:zu Tryz.prog 207 (Qa alg):=by
 intro args hp r h;unfold Qa at h;split at h<;>cases h
 rename_i a b n;simp only [CT.Good,zh];intro _
 refine spH Tryz.func207 (by kernel_rfl) { keep:=some [0,1,2,3]} [] (by kernel_rfl) ?_
 intro I X hI hX
 refine orcL ?_;go_invoke;refine orcS (by kernel_rfl) ?_
 simp only [zi,Nat.reduceAdd];subst hI;simp only [nrmA,nrmB,nrlB,reduceCtorEq,HO.pack.injEq,HO.obj.injEq]
 try trivial
def zd2:Know Tryz.prog:=⟨207,Qa,zks⟩
def zsJ:Know Tryz.prog:=⟨207,fun I=>zx I (Qa I),zf zks⟩
def zkr (I:Alg):KU
 |[.v (.one (.p (.list .fld l))),.v (.one (.fn 207 [.ptr 0 0]))],[.pack [.obj 9 [.p (.str n)]]]=>(fun(l:List Fld) (n:Str)=>(some (.one ⟨I.hid (l.length≤1000000),(.ret (.v (.one (.p (.int .i64 (I.hid (ixP l n))))))),[.pack [.obj 9 [.p (.str n)]]]⟩):Option CT)) l n
 |_,_=>none
set_option maxHeartbeats 1000000 in
theorem zuh:zu Tryz.prog 206 (zkr alg):=by
 intro args hp r h;unfold zkr at h;split at h<;>cases h
 rename_i l n
 revert l;intro(l:List Fld)
 simp only [CT.Good,zh];intro hneed
 refine spH Tryz.func206 (by kernel_rfl) { keep:=some [0,1,4,5,7,8]} [zd2] (by kernel_rfl) ?_
 intro I X hI hX
 refine orcL ?_;go_invoke;refine orcS (by kernel_rfl) ?_
 simp only [zi,Nat.reduceAdd]
 refine lpH hI [zd2] hX [0,1,7,8] (fun(i:Nat)=>i≤l.length∧i≤l.findIdx (fun f=>f.name == n)) (fun(i:Nat)=>⟨[(0,.v (.one (.p (.list .fld l)))),(1,.v (.one (.fn 207 [.ptr 0 0]))),(7,.v (.one (.p (.int .i64 ((I.len (α:=Fld) l)))))),(8,.v (.one (.p (.int .i64 i))))],[.pack [.obj 9 [.p (.str n)]]],19,none⟩) (fun(i:Nat)=>l.length - i) 0 (by kernel_rfl) (by kernel_rfl) ?_ ?_
 · exact⟨jM _,jM _⟩
 rintro i ⟨h1,h2⟩ A hA
 refine orcL ?_;go_invoke;refine orcS (by kernel_rfl) ?_
 simp only [zi,Nat.reduceAdd];subst hI;simp only [nrmA,nrmB,nrlB,reduceCtorEq,HO.pack.injEq,HO.obj.injEq];have hfl:l.findIdx (fun f=>f.name == n)≤l.length:=List.findIdx_le_length
 have hyes:i<l.length→(l.getD i ⟨[],[]⟩).name=n→ixP l n=i:=fun h hid=>by
  have h0:l.findIdx (fun f=>f.name == n)≤i:=by
   refine Nat.le_of_not_lt fun hlt=> ?_;have:=List.not_of_lt_findIdx hlt;rw [jH,jm h] at hid;simp only [Option.getD_some] at hid;rw [hid] at this;simp at this
  unfold ixP
  rw [if_pos (by omega)];omega
 have hno:i<l.length→¬ (l.getD i ⟨[],[]⟩).name=n→i+1≤l.findIdx (fun f=>f.name == n):=fun h hid=>by
  refine Nat.lt_of_le_of_ne h2 fun e=>hid ?_
  have hlt:l.findIdx (fun f=>f.name == n)<l.length:=by omega
  have:=List.findIdx_getElem (xs:=l) (p:=fun f=>f.name == n) (w:=hlt)
  have h9:l.getD i ⟨[],[]⟩=l[l.findIdx (fun f=>f.name == n)]:=by simp [e,jH,hlt]
  rw [h9];simpa using this
 have hend: ¬ i<l.length→ixP l n= -1:=fun h=>by unfold ixP;rw [if_neg (by omega)]
 generalize l.getD i ⟨[],[]⟩=x at *
 (repeat' (first|refine ja ?_ ?_|intro _))<;>first|omega|exact jb|exact jc ‹False›|skip
 all_goals first
  |omega
  |(exact(hyes (by omega) ‹_›).symm)
  |(exact hA (i+1) ⟨by omega,hno (by omega) ‹_›⟩ (by omega))
  |(exact(hend (by omega)).symm)
def zxt:Know Tryz.prog:=⟨206,zkr,zuh⟩
def zxs:Know Tryz.prog:=⟨206,fun I=>zx I (zkr I),zf zuh⟩
theorem zxJ (l:List Fld) (n:Str): -1≤ixP l n∧ixP l n<l.length:=by unfold ixP;split<;>omega
def zd1 (I:Alg):KU
 |[.v (.agg [.p (.str w),.p (.list .fld l)]),.v (.one (.p (.str n)))],[]=>(fun(w:Str) (l:List Fld) (n:Str)=>(some (.one ⟨I.hid (l.length≤1000000),(.ret (.tup [.one (.p (.str (I.hid ((getP l n).1)))),.one (.p (.bool (I.hid ((getP l n).2))))])),[]⟩):Option CT)) w l n
 |_,_=>none
theorem zpc:zu Tryz.prog 191 (zd1 alg):=by
 intro args hp r h;unfold zd1 at h;split at h<;>cases h
 rename_i w l n
 revert l;intro(l:List Fld)
 simp only [CT.Good,zh];intro hneed;rw [zv7];have hx:=zxJ l n
 refine spH Tryz.func191 (by kernel_rfl) { keep:=some [0,1,2,3,4,5,6]} [zd2,zsJ,zxt,zxs] (by kernel_rfl) ?_
 intro I X hI hX
 refine orcL ?_;go_invoke;refine orcS (by kernel_rfl) ?_
 simp only [zi,Nat.reduceAdd];subst hI;simp only [nrmA,nrmB]
 (repeat' (first|refine ja ?_ ?_|intro _))<;>first|omega|exact jb|exact jc ‹False›|skip
 all_goals first
  |omega
  |(rw [if_pos (by omega)])
  |(rw [if_neg (by omega)])
def UG:Know Tryz.prog:=⟨191,zd1,zpc⟩
def UF:Know Tryz.prog:=⟨191,fun I=>zx I (zd1 I),zf zpc⟩
def cfgM:Cfg:= { sl:=[⟨229,1,.fld,some 260⟩]}
set_option maxHeartbeats 4000000 in
theorem zxr (s:Str) (hneed:s.length≤1000000∧(wo s).1=0):Spc Tryz.prog 196 [.v (.one (.ptr 0 0))] [.pack [.obj 250 [.p (.str s)]]] (.ret (.v (.agg [.p (.str ((wo s).2.1.word)),.p (.list .fld ((wo s).2.1.params))]))) [.pack [.obj 250 [.p (.str ((wo s).2.2))]]]:=by
 obtain⟨hl,hc⟩:=hneed;generalize hr:wo s=r at hc;obtain⟨c,⟨w,ps⟩,z⟩:=r;simp only at hc;subst hc
 refine spH Tryz.func196 (by kernel_rfl) { cfgM with lend:=[191],keep:=some [0,2,3,4,6]} [wG,wF,x9,xZ,YW,YV,YU,YT,UE,UD,zdX,zdW,UG,UF] (by kernel_rfl) ?_
 intro I X hI hX
 refine orcL ?_;go_invoke;refine orcS (by kernel_rfl) ?_
 simp only [zi,Nat.reduceAdd]
 have hh: ∀ {α:Type} (x:α),I.hid x=x:=by subst hI;intros;rfl
 have key : ∀ (w0 t0:Str),t0.length≤1000000→((medL (t0.length+1) t0 []).1,(⟨w0,(medL (t0.length+1) t0 []).2.1⟩:Med),(medL (t0.length+1) t0 []).2.2)=(0,⟨w,ps⟩,z)→Ok Tryz.prog X (fun o h=>o=AOut.ret (D.v (V0.agg [C.p (P.str w),C.p (P.list U.fld ps)]))∧h=[HO.pack [HO.obj 250 [C.p (P.str z)]]]) (leaf I tab { cfgM with lend:=[191],keep:=some [0,2,3,4,6]} [⟨vM Tryz.f196,finK I tab { cfgM with lend:=[191],keep:=some [0,2,3,4,6]} 1 Tryz.f196⟩] 0 [1,1,1,1,0,1,0] ⟨[(3,.v (.one (.ptr 2 0))),(2,.v (.one (.ptr 1 0))),(0,.v (.one (.ptr 0 0)))],[.pack [.obj 250 [.p (.str t0)]],.obj 229 [.p (.str ([])),.nilS],.obj 229 [.p (.str w0),.nilS]],60,none⟩):=by
  intro w0 t0 ht0 hm;simp only [Prod.mk.injEq,Med.mk.injEq] at hm;obtain⟨hm1,⟨rfl,hm2⟩,hm3⟩:=hm
  refine lpH hI [wG,wF,x9,xZ,YW,YV,YU,YT,UE,UD,zdX,zdW,UG,UF] hX [0,2,3] (fun(g:Str × List Fld)=>match g with|(t,l)=>t.length≤1000000∧l.length≤8∧∃ n,t.length<n∧medL n t l=(0,ps,z)) (fun(g:Str × List Fld)=>match g with|(t,l)=>⟨[(0,.v (.one (.ptr 0 0))),(2,.v (.one (.ptr 1 0))),(3,.v (.one (.ptr 2 0)))],[.pack [.obj 250 [.p (.str t)]],.pack [.obj 229 [.p (.str ([])),.row 1],.row .fld 260 ([])],.pack [.obj 229 [.p (.str w0),.row 1],.row .fld 260 l]],60,none⟩) (fun(g:Str × List Fld)=>match g with|(t,l)=>t.length) (t0,[]) (by kernel_rfl) (by kernel_rfl) ?_ ?_
  · exact⟨ht0,by simp,t0.length+1,by omega,by rw [← hm1,← hm2,← hm3]⟩
  rintro⟨t,l⟩ ⟨ht,hl8,n,hn,hm⟩ A hA;clear hm1 hm2 hm3 hr;simp only at hA
  refine orcL ?_;go_invoke;refine orcS (by kernel_rfl) ?_
  simp only [zi,Nat.reduceAdd]
  cases n with
  |zero=>omega
  |succ n=>
  simp only [medL] at hm;have hgo:=hA (skS (parM (skS (t.drop 1))).2.2,l++[(parM (skS (t.drop 1))).2.1]);have hpl:=zdT (skS (t.drop 1));have hpc:=zfP (skS (t.drop 1));have hsl:=wQ (t.drop 1);have hsr:=wQ (parM (skS (t.drop 1))).2.2;rw [jC] at hsl;clear hA;simp only [hh,show UInt8.ofNat (Int.toNat 59)=59 from rfl];subst hI
  by_cases h59:uZ t 59=true
  · have hpos:=zct h59
    simp only [h59,if_true] at hm ⊢
    have hgo2:(parM (skS (t.drop 1))).1=0→(getP l (parM (skS (t.drop 1))).2.1.name).2=false→¬ l.length=8→_:=fun h1 h2 h3=>hgo ⟨by simp only;omega,by simp only [jk,jh,ji];omega,n,by simp only;omega,by
     rw [if_neg (fun h=>h h1),if_neg (by rw [h2];exact Bool.false_ne_true),if_neg h3] at hm;exact hm⟩ (by simp only;omega)
    clear hgo;simp only at hgo2;generalize parM (skS (t.drop 1))=p at *;obtain⟨pc,⟨pn,pv⟩,pr⟩:=p;simp only at hgo2 hm hpl hpc hsl hsr ⊢;simp only [nrmA,nrmB,nrlB,reduceCtorEq,jh,ji]
    (repeat' (first|refine ja ?_ ?_|intro _))<;>first|omega|exact jb|exact jc ‹False›|skip
    all_goals first
     |omega
     |assumption
     | (by_cases hpz:pc=0
        · exact hpz
        · rw [if_pos hpz] at hm;simp only [Prod.mk.injEq] at hm;exact hm.1)
     |exact hgo2 ‹_› ‹_› (by omega)
     |(exfalso;rw [if_neg (fun h=>h ‹pc=0›),if_neg (by rw [‹(getP l pn).2=false›];exact Bool.false_ne_true),if_pos (by omega)] at hm;simp_all;done)
     |(rw [if_neg (fun h=>h ‹pc=0›),if_neg (by rw [‹(getP l pn).2=false›];exact Bool.false_ne_true),if_pos (by omega)] at hm;simp_all;done)
     |(exfalso;simp_all;done)
     |(simp_all;done)
  · have h59:uZ t 59=false:=by simpa using h59
    simp only [h59,jd,if_false] at hm ⊢;simp only [nrmA,nrmB,nrlB,reduceCtorEq,jh,ji]
    (repeat' (first|refine ja ?_ ?_|intro _))<;>first|omega|exact jb|exact jc ‹False›|skip
    all_goals first
     |omega
     |(exfalso;simp_all;done)
     |(simp_all;done)
     |(by_cases hte:t=[]<;>simp_all;done)
 have hl1:=wQ s;have hl2:=wZ (skS s);have hl3:=tq (skS s);simp only [hh,show UInt8.ofNat (Int.toNat 47)=47 from rfl,decide_eq_true_eq,decide_eq_false_iff_not];unfold wo medA at hr;generalize skS s=t at *;have hl4:=tq ((tokE t).drop 1);have hl5:=wZ ((tokE t).drop 1);rw [jC] at hl4 hl5
 (repeat' (first|refine ja ?_ ?_|intro _))
 all_goals try first|trivial|assumption|omega|(exfalso;simp_all;done)|(subst hI;(try(simp only [nrmA,nrmB,nrlB,reduceCtorEq,jh,ji,vC]))<;>first|omega|(simp_all [vC];done)|(simp_all [vC];omega))
 all_goals(have happ: ∀ a b:Str,I.app (α:=UInt8) a b=a++b:=by subst hI;intros;rfl)
 all_goals try simp only [happ]
 all_goals first
  | (rename_i q1 q2 q3
     rw [if_neg q1,if_pos q2] at hr;simp only [q2,if_true] at q3 ⊢;rw [if_neg q3] at hr;have hsk:=wQ (tokE ((tokE t).drop 1))
     exact key _ _ (by omega) hr)
  | (rename_i q1 q2
     rw [if_neg q1,if_neg (by simp [q2])] at hr
     simp only [q2,jd,if_false] at ⊢
     have hsk:=wQ (tokE t)
     exact key _ _ (by omega) hr)
set_option maxHeartbeats 4000000 in
theorem zxq (s:Str) (hneed:s.length≤1000000∧¬ (wo s).1=0):Spc Tryz.prog 196 [.v (.one (.ptr 0 0))] [.pack [.obj 250 [.p (.str s)]]] (.pan (.ifc 246 false [.int .i64 ((wo s).1)])) [.pack [.obj 250 [.p (.str ((wo s).2.2))]]]:=by
 obtain⟨hl,hc⟩:=hneed;generalize hr:wo s=r at hc;obtain⟨c,⟨w,ps⟩,z⟩:=r;simp only at hc
 refine spH Tryz.func196 (by kernel_rfl) { cfgM with lend:=[191],keep:=some [0,2,3,4,6]} [wG,wF,x9,xZ,YW,YV,YU,YT,UE,UD,zdX,zdW,UG,UF] (by kernel_rfl) ?_
 intro I X hI hX
 refine orcL ?_;go_invoke;refine orcS (by kernel_rfl) ?_
 simp only [zi,Nat.reduceAdd]
 have hh: ∀ {α:Type} (x:α),I.hid x=x:=by subst hI;intros;rfl
 have key : ∀ (w0 t0:Str),t0.length≤1000000→((medL (t0.length+1) t0 []).1,(⟨w0,(medL (t0.length+1) t0 []).2.1⟩:Med),(medL (t0.length+1) t0 []).2.2)=(c,⟨w,ps⟩,z)→Ok Tryz.prog X (fun o h=>o=AOut.pan (C.ifc 246 false [P.int IntKind.i64 c])∧h=[HO.pack [HO.obj 250 [C.p (P.str z)]]]) (leaf I tab { cfgM with lend:=[191],keep:=some [0,2,3,4,6]} [⟨vM Tryz.f196,finK I tab { cfgM with lend:=[191],keep:=some [0,2,3,4,6]} 1 Tryz.f196⟩] 0 [1,1,1,1,0,1,0] ⟨[(3,.v (.one (.ptr 2 0))),(2,.v (.one (.ptr 1 0))),(0,.v (.one (.ptr 0 0)))],[.pack [.obj 250 [.p (.str t0)]],.obj 229 [.p (.str ([])),.nilS],.obj 229 [.p (.str w0),.nilS]],60,none⟩):=by
  intro w0 t0 ht0 hm;simp only [Prod.mk.injEq,Med.mk.injEq] at hm;obtain⟨hm1,⟨rfl,hm2⟩,hm3⟩:=hm
  refine lpH hI [wG,wF,x9,xZ,YW,YV,YU,YT,UE,UD,zdX,zdW,UG,UF] hX [0,2,3] (fun(g:Str × List Fld)=>match g with|(t,l)=>t.length≤1000000∧l.length≤8∧∃ n,t.length<n∧medL n t l=(c,ps,z)) (fun(g:Str × List Fld)=>match g with|(t,l)=>⟨[(0,.v (.one (.ptr 0 0))),(2,.v (.one (.ptr 1 0))),(3,.v (.one (.ptr 2 0)))],[.pack [.obj 250 [.p (.str t)]],.pack [.obj 229 [.p (.str ([])),.row 1],.row .fld 260 ([])],.pack [.obj 229 [.p (.str w0),.row 1],.row .fld 260 l]],60,none⟩) (fun(g:Str × List Fld)=>match g with|(t,l)=>t.length) (t0,[]) (by kernel_rfl) (by kernel_rfl) ?_ ?_
  · exact⟨ht0,by simp,t0.length+1,by omega,by rw [← hm1,← hm2,← hm3]⟩
  rintro⟨t,l⟩ ⟨ht,hl8,n,hn,hm⟩ A hA;clear hm1 hm2 hm3 hr;simp only at hA
  refine orcL ?_;go_invoke;refine orcS (by kernel_rfl) ?_
  simp only [zi,Nat.reduceAdd]
  cases n with
  |zero=>omega
  |succ n=>
  simp only [medL] at hm;have hgo:=hA (skS (parM (skS (t.drop 1))).2.2,l++[(parM (skS (t.drop 1))).2.1]);have hpl:=zdT (skS (t.drop 1));have hpc:=zfP (skS (t.drop 1));have hsl:=wQ (t.drop 1);have hsr:=wQ (parM (skS (t.drop 1))).2.2;rw [jC] at hsl;clear hA;simp only [hh,show UInt8.ofNat (Int.toNat 59)=59 from rfl];subst hI
  by_cases h59:uZ t 59=true
  · have hpos:=zct h59
    simp only [h59,if_true] at hm ⊢
    have hgo2:(parM (skS (t.drop 1))).1=0→(getP l (parM (skS (t.drop 1))).2.1.name).2=false→¬ l.length=8→_:=fun h1 h2 h3=>hgo ⟨by simp only;omega,by simp only [jk,jh,ji];omega,n,by simp only;omega,by
     rw [if_neg (fun h=>h h1),if_neg (by rw [h2];exact Bool.false_ne_true),if_neg h3] at hm;exact hm⟩ (by simp only;omega)
    clear hgo;simp only at hgo2;generalize parM (skS (t.drop 1))=p at *;obtain⟨pc,⟨pn,pv⟩,pr⟩:=p;simp only at hgo2 hm hpl hpc hsl hsr ⊢;simp only [nrmA,nrmB,nrlB,reduceCtorEq,jh,ji]
    (repeat' (first|refine ja ?_ ?_|intro _))<;>first|omega|exact jb|exact jc ‹False›|skip
    all_goals first
     |omega
     |assumption
     | (by_cases hpz:pc=0
        · exact hpz
        · rw [if_pos hpz] at hm;simp only [Prod.mk.injEq] at hm;exact hm.1)
     |exact hgo2 ‹_› ‹_› (by omega)
     |(exfalso;rw [if_neg (fun h=>h ‹pc=0›),if_neg (by rw [‹(getP l pn).2=false›];exact Bool.false_ne_true),if_pos (by omega)] at hm;simp_all;done)
     |(rw [if_neg (fun h=>h ‹pc=0›),if_neg (by rw [‹(getP l pn).2=false›];exact Bool.false_ne_true),if_pos (by omega)] at hm;simp_all;done)
     |(exfalso;simp_all;done)
     |(simp_all;done)
  · have h59:uZ t 59=false:=by simpa using h59
    simp only [h59,jd,if_false] at hm ⊢;simp only [nrmA,nrmB,nrlB,reduceCtorEq,jh,ji]
    (repeat' (first|refine ja ?_ ?_|intro _))<;>first|omega|exact jb|exact jc ‹False›|skip
    all_goals first
     |omega
     |(exfalso;simp_all;done)
     |(simp_all;done)
     |(by_cases hte:t=[]<;>simp_all;done)
 have hl1:=wQ s;have hl2:=wZ (skS s);have hl3:=tq (skS s);simp only [hh,show UInt8.ofNat (Int.toNat 47)=47 from rfl,decide_eq_true_eq,decide_eq_false_iff_not];unfold wo medA at hr;generalize skS s=t at *;have hl4:=tq ((tokE t).drop 1);have hl5:=wZ ((tokE t).drop 1);rw [jC] at hl4 hl5
 (repeat' (first|refine ja ?_ ?_|intro _))
 all_goals try first|trivial|assumption|omega|(exfalso;simp_all;done)|(subst hI;(try(simp only [nrmA,nrmB,nrlB,reduceCtorEq,jh,ji,vC]))<;>first|omega|(simp_all [vC];done)|(simp_all [vC];omega))
 all_goals(have happ: ∀ a b:Str,I.app (α:=UInt8) a b=a++b:=by subst hI;intros;rfl)
 all_goals try simp only [happ]
 all_goals first
  | (rename_i q1 q2 q3
     rw [if_neg q1,if_pos q2] at hr;simp only [q2,if_true] at q3 ⊢;rw [if_neg q3] at hr;have hsk:=wQ (tokE ((tokE t).drop 1))
     exact key _ _ (by omega) hr)
  | (rename_i q1 q2
     rw [if_neg q1,if_neg (by simp [q2])] at hr
     simp only [q2,jd,if_false] at ⊢
     have hsk:=wQ (tokE t)
     exact key _ _ (by omega) hr)
def zd0 (I:Alg):KU
 |[.v (.one (.ptr 0 0))],[.pack [.obj 250 [.p (.str s)]]]=>(fun(s:Str)=>(some (.br (I.hid (decide ((wo s).1=0))) (.one ⟨I.hid (s.length≤1000000∧(wo s).1=0),(.ret (.v (.agg [.p (.str (I.hid ((wo s).2.1.word))),.p (.list .fld (I.hid ((wo s).2.1.params)))]))),[.pack [.obj 250 [.p (.str (I.hid ((wo s).2.2)))]]]⟩) (.one ⟨I.hid (s.length≤1000000∧¬ (wo s).1=0),(.pan (.ifc 246 false [.int .i64 (I.hid ((wo s).1))])),[.pack [.obj 250 [.p (.str (I.hid ((wo s).2.2)))]]]⟩)):Option CT)) s
 |_,_=>none
theorem zpb:zu Tryz.prog 196 (zd0 alg):=by
 intro args hp r h;unfold zd0 at h
 split at h
 · cases h;exact⟨fun _ hn=>zxr _ hn,fun _ hn=>zxq _ hn⟩
 · cases h
def zvA:Know Tryz.prog:=⟨196,zd0,zpb⟩
def zvz:Know Tryz.prog:=⟨196,fun I=>zx I (zd0 I),zf zpb⟩
end Go.Proofs.YtnpmenpjagcheaaGreatDoor
namespace Go.Proofs.YtnpmenpjagcheaaGreatDoor
open Go Go.Sep Go.Ab
set_option maxRecDepth 100000
theorem zxv (w:Str) (l:List Fld) (n:Int) (s:Str):SpcD Tryz.prog 195 [.ptr 0 0,.ptr 1 0] .ret [.obj 229 [.p (.str w),.p (.list .fld l)],.obj 3 [.p (.int .i64 n)],.pack [.obj 250 [.p (.str s)]]] .ret [.obj 229 [.p (.str w),.p (.list .fld l)],.obj 3 [.p (.int .i64 n)],.obj 250 [.p (.str s)]]:=by
 refine Uo uq mixed Tryz.func195 (by kernel_rfl) { flat:=true} [] (rest:=_) rfl (by kernel_rfl) ?_
 intro I X hI hX
 refine orcL ?_;go_invoke;refine orcS (by kernel_rfl) ?_
 simp only [zi,Nat.reduceAdd]
 try trivial
theorem zxu (w:Str) (n k:Int) (s:Str):SpcD Tryz.prog 195 [.ptr 0 0,.ptr 1 0] (.pan (.ifc 246 false [.int .i64 k])) [.obj 229 [.p (.str w),.nilS],.obj 3 [.p (.int .i64 n)],.pack [.obj 250 [.p (.str s)]]] .ret [.obj 229 [.p (.str []),.nilS],.obj 3 [.p (.int .i64 k)],.obj 250 [.p (.str s)]]:=by
 refine Uo uq mixed Tryz.func195 (by kernel_rfl) { flat:=true} [] (rest:=_) rfl (by kernel_rfl) ?_
 intro I X hI hX
 refine orcL ?_;go_invoke;refine orcS (by kernel_rfl) ?_
 simp only [zi,Nat.reduceAdd]
 try trivial
def zyY:Door Tryz.prog where
 g:=195
 c :=fun _ m caps hp=>match m,caps,hp with
   |.ret,[.ptr 0 0,.ptr 1 0],[.obj 229 [.p (.str w),.p (.list .fld l)],.obj 3 [.p (.int .i64 n)],.pack [.obj 250 [.p (.str s)]]]=>some (True,.ret,[.obj 229 [.p (.str w),.p (.list .fld l)],.obj 3 [.p (.int .i64 n)],.obj 250 [.p (.str s)]])
   |.pan (.ifc 246 false [.int .i64 k]),[.ptr 0 0,.ptr 1 0],[.obj 229 [.p (.str w),.nilS],.obj 3 [.p (.int .i64 n)],.pack [.obj 250 [.p (.str s)]]]=>some (True,.ret,[.obj 229 [.p (.str []),.nilS],.obj 3 [.p (.int .i64 k)],.obj 250 [.p (.str s)]])
   |_,_,_=>none
 ok:=by
  intro m caps hp p m' hp' h _
  split at h
  · cases h;exact zxv _ _ _ _
  · cases h;exact zxu _ _ _ _
  · cases h
def Vb (I:Alg):KU
 |[.v (.one (.p (.str s)))],[]=>(fun(s:Str)=>(some (.one ⟨I.hid (s.length≤1000000),(.ret (.tup [.agg [.p (.str (I.hid ((xI s).1.word))),.p (.list .fld (I.hid ((xI s).1.params)))],.one (.p (.int .i64 (I.hid ((xI s).2))))])),[]⟩):Option CT)) s
 |_,_=>none
theorem zfR:zu Tryz.prog 174 (Vb alg):=by
 intro args hp r h;unfold Vb at h;split at h<;>cases h
 rename_i s;simp only [CT.Good,zh];intro hneed;generalize hr:xI s=r;obtain⟨⟨w,ps⟩,c⟩:=r;unfold xI at hr
 refine zw2 uq mixed Tryz.func174 (by kernel_rfl) { cfgM with keep:=some [0,2,3,4]} [wC,wB,zvA,zvz] zyY (by kernel_rfl) ?_
 intro I X hI hX
 refine orcL ?_;go_invoke;refine orcS (by kernel_rfl) ?_
 simp only [zi,Nat.reduceAdd];subst hI;simp only [nrmA,nrmB,nrlB,reduceCtorEq,V0.agg.injEq]
 (repeat' (first|refine ja ?_ ?_|intro _))<;>first|omega|exact jb|exact jc ‹False›|skip
 all_goals first|(simp_all;done)|trace_state
def wM:Know Tryz.prog:=⟨174,Vb,zfR⟩
def wL:Know Tryz.prog:=⟨174,fun I=>zx I (Vb I),zf zfR⟩
end Go.Proofs.YtnpmenpjagcheaaGreatDoor
namespace Go.Proofs.YtnpmenpjagcheaaGreatDoor
open Go Go.Sep Go.Ab
set_option maxRecDepth 100000
end Go.Proofs.YtnpmenpjagcheaaGreatDoor
namespace Go.Proofs.YtnpmenpjagcheaaGreatDoor
open Go Go.Sep Go.Ab
set_option maxRecDepth 100000
def cutB (s:Str) (c:UInt8):Str × Str × Bool:=
 if 0≤Lib.indexByte s c then(s.take (Lib.indexByte s c).toNat,s.drop ((Lib.indexByte s c).toNat+1),true) else(s,[],false)
def uF (s:Str):Fld × Int:=
 if(cutB s 58).2.2=false then(⟨[],[]⟩,5)
 else if Xt (cutB s 58).1=false then(⟨[],[]⟩,6)
 else if 40<(cutB s 58).1.length then(⟨[],[]⟩,4)
 else if XA (cutB s 58).2.1=false then(⟨[],[]⟩,3)
 else(⟨(cutB s 58).1,Lib.trimS (cutB s 58).2.1 [32,9]⟩,0)
def textF (f:Fld):Str × Int:=
 if Xt f.name=false then([],6)
 else if 40<f.name.length∨200<f.name.length+2+f.value.length then([],4)
 else if XA f.value=false∨¬ Lib.trimS f.value [32,9]=f.value then([],3)
 else(f.name++[58,32]++f.value,0)
theorem ZA (s:Str) (c:UInt8):(cutB s c).1.length≤s.length∧(cutB s c).2.1.length≤s.length:=by
 unfold cutB
 split
 · simp only [jv,jC];omega
 · simp
def Rn (I:Alg):KU
 |[.v (.one (.p (.str s))),.v (.one (.p (.str ([c]))))],[]=>(fun(s:Str)=>(some (.one ⟨I.hid (s.length≤1000000),(.ret (.tup [.one (.p (.str (I.hid ((cutB s c).1)))),.one (.p (.str (I.hid ((cutB s c).2.1)))),.one (.p (.bool (I.hid ((cutB s c).2.2))))])),[]⟩):Option CT)) s
 |_,_=>none
theorem zjN:zu Tryz.prog 57 (Rn alg):=by
 intro args hp r h;unfold Rn at h;split at h<;>cases h
 rename_i s c;simp only [CT.Good,zh];intro hneed;generalize hr:cutB s c=r;obtain⟨a,b,d⟩:=r
 refine spH Tryz.func57 (by kernel_rfl) { keep:=some [0,1,4,5,6,7]} [zpR,zpQ] (by kernel_rfl) ?_
 intro I X hI hX
 refine orcL ?_;go_invoke;refine orcS (by kernel_rfl) ?_
 simp only [zi,Nat.reduceAdd];subst hI;simp only [nrmA,nrmB];have hx:=Yk s c;simp only [jh,ji];refine⟨fun h=> ?_,fun h=> ?_⟩
 · rw [cutB,if_pos h] at hr
   simp only [Prod.mk.injEq] at hr;obtain⟨rfl,rfl,rfl⟩:=hr
   refine⟨by omega,by omega,by omega,?_⟩
   rw [show(Lib.indexByte s c+((0+1:Nat):Int)).toNat=(Lib.indexByte s c).toNat+1 by omega]
   have e:List.take (s.length - ((Lib.indexByte s c).toNat+1)) (List.drop ((Lib.indexByte s c).toNat+1) s)=List.drop ((Lib.indexByte s c).toNat+1) s:=jq (by rw [jC];exact jL _)
   rw [e]
 · rw [cutB,if_neg h] at hr
   simp only [Prod.mk.injEq] at hr;obtain⟨rfl,rfl,rfl⟩:=hr;rfl
def zr5:Know Tryz.prog:=⟨57,Rn,zjN⟩
def zr4:Know Tryz.prog:=⟨57,fun I=>zx I (Rn I),zf zjN⟩
def zdG (I:Alg):KU
 |[.v (.one (.p (.str s))),.v (.one (.p (.str ([c]))))],[]=>(fun(s:Str)=>(some (.one ⟨I.hid (s.length≤1000000),(.ret (.tup [.one (.p (.str (I.hid ((cutB s c).1)))),.one (.p (.str (I.hid ((cutB s c).2.1)))),.one (.p (.bool (I.hid ((cutB s c).2.2))))])),[]⟩):Option CT)) s
 |_,_=>none
theorem zof:zu Tryz.prog 42 (zdG alg):=by
 intro args hp r h;unfold zdG at h;split at h<;>cases h
 rename_i s c;simp only [CT.Good,zh];intro hneed
 refine spH Tryz.func42 (by kernel_rfl) { keep:=some [0,1,4,5,6]} [zr5,zr4] (by kernel_rfl) ?_
 intro I X hI hX
 refine orcL ?_;go_invoke;refine orcS (by kernel_rfl) ?_
 simp only [zi,Nat.reduceAdd];subst hI;simp only [nrmA,nrmB];exact hneed
def zhY:Know Tryz.prog:=⟨42,zdG,zof⟩
def zhX:Know Tryz.prog:=⟨42,fun I=>zx I (zdG I),zf zof⟩
def RX (I:Alg):KU
 |[.v (.one (.p (.str s)))],[]=>(fun(s:Str)=>(some (.one ⟨I.hid (s.length≤1000000),(.ret (.tup [.agg [.p (.str (I.hid ((uF s).1.name))),.p (.str (I.hid ((uF s).1.value)))],.one (.p (.int .i64 (I.hid ((uF s).2))))])),[]⟩):Option CT)) s
 |_,_=>none
theorem zko:zu Tryz.prog 164 (RX alg):=by
 intro args hp r h;unfold RX at h;split at h<;>cases h
 rename_i s;simp only [CT.Good,zh];intro hneed;generalize hr:uF s=r;obtain⟨⟨a,b⟩,d⟩:=r
 refine spH Tryz.func164 (by kernel_rfl) { keep:=some [0,2,3,4,5,6]} [sH,sG,wC,wB,V8,V7,zhY,zhX] (by kernel_rfl) ?_
 intro I X hI hX
 refine orcL ?_;go_invoke;refine orcS (by kernel_rfl) ?_
 simp only [zi,Nat.reduceAdd];subst hI;simp only [nrmA,nrmB];have hl:=ZA s 58;unfold uF at hr
 (repeat' (first|refine ja ?_ ?_|intro _))<;>first|omega|exact jb|exact jc ‹False›|skip
 all_goals first
  |(rw [if_pos (by assumption)] at hr;cases hr;rfl)
  |(rw [if_neg (by simp [*]),if_pos (by assumption)] at hr;cases hr;rfl)
  |(rw [if_neg (by simp [*]),if_neg (by simp [*]),if_pos (by omega)] at hr;cases hr;rfl)
  |(rw [if_neg (by simp [*]),if_neg (by simp [*]),if_neg (by omega),if_pos (by assumption)] at hr;cases hr;rfl)
  |(rw [if_neg (by simp [*]),if_neg (by simp [*]),if_neg (by omega),if_neg (by simp [*])] at hr;cases hr;rfl)
def Va:Know Tryz.prog:=⟨164,RX,zko⟩
def W9:Know Tryz.prog:=⟨164,fun I=>zx I (RX I),zf zko⟩
def zdg (I:Alg):KU
 |[.v (.agg [.p (.str n),.p (.str v)])],[]=>(fun(n v:Str)=>(some (.one ⟨I.hid (n.length≤1000000∧v.length≤1000000),(.ret (.tup [.one (.p (.str (I.hid ((textF ⟨n,v⟩).1)))),.one (.p (.int .i64 (I.hid ((textF ⟨n,v⟩).2))))])),[]⟩):Option CT)) n v
 |_,_=>none
theorem zns:zu Tryz.prog 107 (zdg alg):=by
 intro args hp r h;unfold zdg at h;split at h<;>cases h
 rename_i n v;simp only [CT.Good,zh];intro hneed;generalize hr:textF ⟨n,v⟩=r;obtain⟨a,d⟩:=r
 refine spH Tryz.func107 (by kernel_rfl) { keep:=some [0,1,2,3,4]} [sH,sG,wC,wB,V8,V7] (by kernel_rfl) ?_
 intro I X hI hX
 refine orcL ?_;go_invoke;refine orcS (by kernel_rfl) ?_
 simp only [zi,Nat.reduceAdd];subst hI;simp only [nrmA,nrmB];simp only [jk,jh,ji];unfold textF at hr;simp only at hr
 (repeat' (first|refine ja ?_ ?_|intro _))<;>first|omega|exact jb|exact jc ‹False›|skip
 all_goals first
  |(rw [if_pos (by assumption)] at hr;cases hr;rfl)
  |(rw [if_neg (by simp [*]),if_pos (by omega)] at hr;cases hr;rfl)
  |(rw [if_neg (by simp [*]),if_neg (by omega),if_pos (.inl (by assumption))] at hr;cases hr;rfl)
  |(rw [if_neg (by simp [*]),if_neg (by omega),if_pos (.inr (by assumption))] at hr;cases hr;rfl)
  |(rw [if_neg (by simp [*]),if_neg (by omega),if_neg (by simp [*])] at hr;cases hr;rfl)
def zdf:Know Tryz.prog:=⟨107,zdg,zns⟩
def zde:Know Tryz.prog:=⟨107,fun I=>zx I (zdg I),zf zns⟩
end Go.Proofs.YtnpmenpjagcheaaGreatDoor
namespace Go.Proofs.YtnpmenpjagcheaaGreatDoor
open Go Go.Sep Go.Ab
set_option maxRecDepth 100000
end Go.Proofs.YtnpmenpjagcheaaGreatDoor
namespace Go.Proofs.YtnpmenpjagcheaaGreatDoor
open Go Go.Sep Go.Ab
set_option maxRecDepth 100000
end Go.Proofs.YtnpmenpjagcheaaGreatDoor
namespace Go.Proofs.YtnpmenpjagcheaaGreatDoor
open Go Go.Sep Go.Ab
set_option maxRecDepth 100000
def valsF (l:List Fld) (n:Str):List Str:=(l.filter fun f=>decide (lowS f.name=lowS n)).map (·.value)
def zex (I:Alg):KU
 |[.v (.one (.p (.list .fld l))),.v (.one (.p (.str n)))],[]=>(fun(l:List Fld) (n:Str)=>(some (.one ⟨I.hid (l.length≤1000∧n.length≤1000000∧∀ f ∈ l,f.name.length≤1000000∧f.value.length≤1000000),(.ret (.v (.one (.row 0)))),[.row .str 9 (I.hid (valsF l n))]⟩):Option CT)) l n
 |_,_=>none
theorem zqy:zu Tryz.prog 105 (zex alg):=by
 intro args hp r h;unfold zex at h;split at h<;>cases h
 rename_i l n
 revert l;intro(l:List Fld)
 simp only [CT.Good,zh];intro hneed
 refine spH Tryz.func105 (by kernel_rfl) { nr:=[5],keep:=some [0,1,4,5,7,8,9,10]} [wG,wF] (by kernel_rfl) ?_
 intro I X hI hX
 refine orcL ?_;go_invoke;refine orcS (by kernel_rfl) ?_
 simp only [zi,Nat.reduceAdd]
 refine lpH hI [wG,wF] hX [0,1,5,8,9,10] (fun(g:Nat × List Str)=>match g with|(i,o)=>i≤l.length∧o=valsF (l.take i) n) (fun(g:Nat × List Str)=>match g with|(i,o)=>⟨[(0,.v (.one (.p (.list .fld l)))),(1,.v (.one (.p (.str n)))),(5,.v (.one (.row 0))),(8,.v (.one (.p (.list .fld l)))),(9,.v (.one (.p (.int .i64 ((I.len (α:=Fld) l)))))),(10,.v (.one (.p (.int .i64 i))))],[.row .str 9 o],27,none⟩) (fun(g:Nat × List Str)=>match g with|(i,o)=>l.length - i) (0,[]) (by kernel_rfl) (by kernel_rfl) ?_ ?_
 · exact⟨jM _,rfl⟩
 rintro⟨i,o⟩ ⟨h1,h2⟩ A hA;simp only at hA
 refine orcL ?_;go_invoke;refine orcS (by kernel_rfl) ?_
 simp only [zi,Nat.reduceAdd];subst hI;simp only [nrmA,nrmB]
 have hx:i<l.length→(l.getD i ⟨[],[]⟩) ∈ l:=fun h=>by rw [show l.getD i ⟨[],[]⟩=l[i] by simp [h]];exact List.getElem_mem h
 have hs:i<l.length→valsF (l.take (i+1)) n=if lowS (l.getD i ⟨[],[]⟩).name=lowS n then o++[(l.getD i ⟨[],[]⟩).value] else o:=fun h=>by
  rw [show l.getD i ⟨[],[]⟩=l[i] by simp [h],jB h,h2]
  unfold valsF;rw [List.filter_append,List.map_append]
  by_cases hc:lowS l[i].name=lowS n<;>simp [hc]
 have hol:o.length≤i:=by
  rw [h2];unfold valsF;rw [List.length_map]
  exact Nat.le_trans (List.length_filter_le _ _) (by rw [jv];omega)
 have hn:=fun h=>hneed.2.2 _ (hx h);generalize l.getD i ⟨[],[]⟩=x at *;simp only [jh,ji]
 (repeat' (first|refine ja ?_ ?_|intro _))<;>first|omega|exact jb|exact jc ‹False›|skip
 all_goals first
  |(have:=hn (by omega);omega)
  |exact hA (i+1,_) ⟨by simp only;omega,by simp only;rw [hs (by omega),if_pos (by assumption)]⟩ (by simp only;omega)
  |exact hA (i+1,_) ⟨by simp only;omega,by simp only;rw [hs (by omega),if_neg (by assumption)]⟩ (by simp only;omega)
  |(rw [h2,jq (by omega)])
def XR:Know Tryz.prog:=⟨105,zex,zqy⟩
def XQ:Know Tryz.prog:=⟨105,fun I=>zx I (zex I),zf zqy⟩
end Go.Proofs.YtnpmenpjagcheaaGreatDoor
namespace Go.Proofs.YtnpmenpjagcheaaGreatDoor
open Go Go.Sep Go.Ab
set_option maxRecDepth 100000
def oneF (l:List Str):Str × Int:=if l.length=0 then([],10) else if l.length=1 then(l.getD 0 [],0) else([],9)
def zeu (I:Alg):KU
 |[.v (.one (.p (.list .fld l))),.v (.one (.p (.str n)))],[]=>(fun(l:List Fld) (n:Str)=>(some (.one ⟨I.hid (l.length≤1000∧n.length≤1000000∧∀ f ∈ l,f.name.length≤1000000∧f.value.length≤1000000),(.ret (.tup [.one (.p (.str (I.hid ((oneF (valsF l n)).1)))),.one (.p (.int .i64 (I.hid ((oneF (valsF l n)).2))))])),[]⟩):Option CT)) l n
 |_,_=>none
theorem zqs:zu Tryz.prog 106 (zeu alg):=by
 intro args hp r h;unfold zeu at h;split at h<;>cases h
 rename_i l n
 revert l;intro(l:List Fld)
 simp only [CT.Good,zh];intro hneed;generalize hr:oneF (valsF l n)=r;obtain⟨a,d⟩:=r
 refine spH Tryz.func106 (by kernel_rfl) { keep:=some [0,1,4,5,6,11]} [XR,XQ] (by kernel_rfl) ?_
 intro I X hI hX
 refine orcL ?_;go_invoke;refine orcS (by kernel_rfl) ?_
 simp only [zi,Nat.reduceAdd];subst hI;simp only [nrmA,nrmB];unfold oneF at hr
 (repeat' (first|refine ja ?_ ?_|intro _))<;>first|omega|exact jb|exact jc ‹False›|skip
 all_goals first
  |assumption
  |exact(hneed.2.2 _ (by assumption)).1
  |exact(hneed.2.2 _ (by assumption)).2
  |(rw [if_pos (by omega)] at hr;cases hr;rfl)
  |(rw [if_neg (by omega),if_pos (by omega)] at hr;cases hr;rfl)
  |(rw [if_neg (by omega),if_neg (by omega)] at hr;cases hr;rfl)
def Yt:Know Tryz.prog:=⟨106,zeu,zqs⟩
def Yr:Know Tryz.prog:=⟨106,fun I=>zx I (zeu I),zf zqs⟩
end Go.Proofs.YtnpmenpjagcheaaGreatDoor
namespace Go.Proofs.YtnpmenpjagcheaaGreatDoor
open Go Go.Sep Go.Ab
set_option maxRecDepth 100000
def numG (base:Int):Int→Str→Int × Bool
 |n,[]=>(n,true)
 |n,c::l=>if hexK c.toNat<0∨base≤hexK c.toNat then(0,false) else numG base (n * base+hexK c.toNat) l
def numA (s:Str) (base most:Int):Int × Bool:=if s=[]∨most<s.length then(0,false) else numG base 0 s
def top9:Nat→Nat
 |0=>0
 |i+1=>16 * top9 i+15
theorem znq {i:Nat} (h:i≤9):top9 i≤68719476735:=(by decide: ∀ i:Fin 10,top9 i.1≤68719476735) ⟨i,by omega⟩
theorem zfU {base n:Int} {s:Str} {i:Nat} (h:i<s.length):numG base n (s.drop i)=if hexK (s.getD i 0).toNat<0∨base≤hexK (s.getD i 0).toNat then(0,false) else numG base (n * base+hexK (s.getD i 0).toNat) (s.drop (i+1)):=by
 rw [jE h,numG];simp [h]
theorem zeh {k:Int} (hk:0≤k∧k≤255): -1≤hexK k∧hexK k≤15:=zzg (p:=fun k=> -1≤hexK k∧hexK k≤15) (by decide+kernel) hk
def Zr (I:Alg):KU
 |[.v (.one (.p (.str s))),.v (.one (.p (.int .i64 10))),.v (.one (.p (.int .i64 9)))],[]=>(fun(s:Str)=>(some (.one ⟨I.hid (True),(.ret (.tup [.one (.p (.int .i64 (I.hid ((numA s 10 9).1)))),.one (.p (.bool (I.hid ((numA s 10 9).2))))])),[]⟩):Option CT)) s
 |_,_=>none
theorem zaN:zu Tryz.prog 73 (Zr alg):=by
 intro args hp r h;unfold Zr at h;split at h<;>cases h
 rename_i s;simp only [CT.Good,zh];intro _;generalize hr:numA s 10 9=r
 refine spH Tryz.func73 (by kernel_rfl) { keep:=some [0,1,2,6,7,8,9,10,20,21]} [TR,TQ] (by kernel_rfl) ?_
 intro I X hI hX
 refine orcL ?_;go_invoke;refine orcS (by kernel_rfl) ?_
 simp only [zi,Nat.reduceAdd]
 have hne:s≠[]→¬ (9:Int)<s.length→numG 10 0 s=r:=fun h1 h2=>by rw [← hr,numA,if_neg (fun h=>by rcases h with h|h;exact h1 h;exact h2 h)]
 have hyes:(s=[]∨(9:Int)<s.length)→r=(0,false):=fun h=>by rw [← hr,numA,if_pos h]
 refine⟨fun c1=> ?_,fun c1=>⟨fun c2=> ?_,fun c2=> ?_⟩⟩
 · subst hI
   simp only [nrmA,nrmB] at c1;rw [hyes (.inl c1)]
   simp
 · subst hI
   simp only [nrmA,nrmB] at c2;rw [hyes (.inr c2)]
   simp
 have d1:s≠[]:=by
  subst hI;simp only [nrmA,nrmB] at c1;exact c1
 have d2:s.length≤9:=by
  subst hI;simp only [nrmA,nrmB] at c2;omega
 refine lpH hI [TR,TQ] hX [0,1,2,8,20,21] (fun(g:Nat × Int)=>match g with|(i,n)=>i≤s.length∧0≤n∧n≤top9 i∧numG 10 n (s.drop i)=r) (fun(g:Nat × Int)=>match g with|(i,n)=>⟨[(0,.v (.one (.p (.str s)))),(1,.v (.one (.p (.int .i64 10)))),(2,.v (.one (.p (.int .i64 9)))),(8,.v (.one (.p (.int .i64 n)))),(20,.v (.one (.p (.int .i64 ((I.len (α:=UInt8) s)))))),(21,.v (.one (.p (.int .i64 i))))],[],42,none⟩) (fun(g:Nat × Int)=>match g with|(i,n)=>s.length - i) (0,0) (by kernel_rfl) (by kernel_rfl) ?_ ?_
 · exact⟨jM _,Int.le_refl _,Int.le_refl _,hne d1 (by omega)⟩
 rintro⟨i,n⟩ ⟨h1,h2,h3,h4⟩ A hA;simp only at hA
 refine orcL ?_;go_invoke;refine orcS (by kernel_rfl) ?_
 simp only [zi,Nat.reduceAdd];subst hI;simp only [nrmA,nrmB];have hb:=vK (s.getD i 0);have hk:=zeh hb;have hd:i<s.length→_:=fun h=>zfU (base:=10) (n:=n) h
 have ht:i≤9:=by omega
 have ht:=znq ht;have ht2:top9 (i+1)=16 * top9 i+15:=rfl;generalize s.getD i 0=x at *;generalize hexK (x.toNat:Int)=k at *
 (repeat' (first|refine ja ?_ ?_|intro _))<;>first|omega|exact jb|exact jc ‹False›|skip
 all_goals first
  |omega
  |(rw [← h4,hd (by omega),if_pos (.inl (by omega))])
  |(rw [← h4,hd (by omega),if_pos (.inr (by omega))])
  |(refine hA (i+1,_) ⟨by simp only;omega,by simp only;omega,by simp only;omega,?_⟩ (by simp only;omega);rw [← h4,hd (by omega),if_neg (by omega)])
  |(rw [← h4,jF (by omega)];rfl)
def Zq:Know Tryz.prog:=⟨73,Zr,zaN⟩
def Zp:Know Tryz.prog:=⟨73,fun I=>zx I (Zr I),zf zaN⟩
def Zo (I:Alg):KU
 |[.v (.one (.p (.str s))),.v (.one (.p (.int .i64 16))),.v (.one (.p (.int .i64 6)))],[]=>(fun(s:Str)=>(some (.one ⟨I.hid (True),(.ret (.tup [.one (.p (.int .i64 (I.hid ((numA s 16 6).1)))),.one (.p (.bool (I.hid ((numA s 16 6).2))))])),[]⟩):Option CT)) s
 |_,_=>none
theorem zaM:zu Tryz.prog 73 (Zo alg):=by
 intro args hp r h;unfold Zo at h;split at h<;>cases h
 rename_i s;simp only [CT.Good,zh];intro _;generalize hr:numA s 16 6=r
 refine spH Tryz.func73 (by kernel_rfl) { keep:=some [0,1,2,6,7,8,9,10,20,21]} [TR,TQ,Zq,Zp] (by kernel_rfl) ?_
 intro I X hI hX
 refine orcL ?_;go_invoke;refine orcS (by kernel_rfl) ?_
 simp only [zi,Nat.reduceAdd]
 have hne:s≠[]→¬ (6:Int)<s.length→numG 16 0 s=r:=fun h1 h2=>by rw [← hr,numA,if_neg (fun h=>by rcases h with h|h;exact h1 h;exact h2 h)]
 have hyes:(s=[]∨(6:Int)<s.length)→r=(0,false):=fun h=>by rw [← hr,numA,if_pos h]
 refine⟨fun c1=> ?_,fun c1=>⟨fun c2=> ?_,fun c2=> ?_⟩⟩
 · subst hI
   simp only [nrmA,nrmB] at c1;rw [hyes (.inl c1)]
   simp
 · subst hI
   simp only [nrmA,nrmB] at c2;rw [hyes (.inr c2)]
   simp
 have d1:s≠[]:=by
  subst hI;simp only [nrmA,nrmB] at c1;exact c1
 have d2:s.length≤6:=by
  subst hI;simp only [nrmA,nrmB] at c2;omega
 refine lpH hI [TR,TQ,Zq,Zp] hX [0,1,2,8,20,21] (fun(g:Nat × Int)=>match g with|(i,n)=>i≤s.length∧0≤n∧n≤top9 i∧numG 16 n (s.drop i)=r) (fun(g:Nat × Int)=>match g with|(i,n)=>⟨[(0,.v (.one (.p (.str s)))),(1,.v (.one (.p (.int .i64 16)))),(2,.v (.one (.p (.int .i64 6)))),(8,.v (.one (.p (.int .i64 n)))),(20,.v (.one (.p (.int .i64 ((I.len (α:=UInt8) s)))))),(21,.v (.one (.p (.int .i64 i))))],[],42,none⟩) (fun(g:Nat × Int)=>match g with|(i,n)=>s.length - i) (0,0) (by kernel_rfl) (by kernel_rfl) ?_ ?_
 · exact⟨jM _,Int.le_refl _,Int.le_refl _,hne d1 (by omega)⟩
 rintro⟨i,n⟩ ⟨h1,h2,h3,h4⟩ A hA;simp only at hA
 refine orcL ?_;go_invoke;refine orcS (by kernel_rfl) ?_
 simp only [zi,Nat.reduceAdd];subst hI;simp only [nrmA,nrmB];have hb:=vK (s.getD i 0);have hk:=zeh hb;have hd:i<s.length→_:=fun h=>zfU (base:=16) (n:=n) h
 have ht:i≤9:=by omega
 have ht:=znq ht;have ht2:top9 (i+1)=16 * top9 i+15:=rfl;generalize s.getD i 0=x at *;generalize hexK (x.toNat:Int)=k at *
 (repeat' (first|refine ja ?_ ?_|intro _))<;>first|omega|exact jb|exact jc ‹False›|skip
 all_goals first
  |omega
  |(rw [← h4,hd (by omega),if_pos (.inl (by omega))])
  |(rw [← h4,hd (by omega),if_pos (.inr (by omega))])
  |(refine hA (i+1,_) ⟨by simp only;omega,by simp only;omega,by simp only;omega,?_⟩ (by simp only;omega);rw [← h4,hd (by omega),if_neg (by omega)])
  |(rw [← h4,jF (by omega)];rfl)
def zaL:Know Tryz.prog:=⟨73,Zo,zaM⟩
def zaK:Know Tryz.prog:=⟨73,fun I=>zx I (Zo I),zf zaM⟩
def tZ (I:Alg):KU
 |[.v (.one (.p (.str s)))],[]=>(fun(s:Str)=>(some (.one ⟨I.hid (True),(.ret (.tup [.one (.p (.int .i64 (I.hid ((numA s 16 6).1)))),.one (.p (.bool (I.hid ((numA s 16 6).2))))])),[]⟩):Option CT)) s
 |_,_=>none
theorem Ua:zu Tryz.prog 204 (tZ alg):=by
 intro args hp r h;unfold tZ at h;split at h<;>cases h
 rename_i s;simp only [CT.Good,zh];intro _
 refine spH Tryz.func204 (by kernel_rfl) { keep:=some [0,2,3]} [Zq,Zp,zaL,zaK] (by kernel_rfl) ?_
 intro I X hI hX
 refine orcL ?_;go_invoke;refine orcS (by kernel_rfl) ?_
 simp only [zi,Nat.reduceAdd];subst hI;simp only [nrmA,nrmB]
 try trivial
def zeR:Know Tryz.prog:=⟨204,tZ,Ua⟩
def zeQ:Know Tryz.prog:=⟨204,fun I=>zx I (tZ I),zf Ua⟩
end Go.Proofs.YtnpmenpjagcheaaGreatDoor
namespace Go.Proofs.YtnpmenpjagcheaaGreatDoor
open Go Go.Sep Go.Ab
set_option maxRecDepth 100000
def Xl (I:Alg):KU
 |[.v (.one (.p (.str s)))],[]=>(fun(s:Str)=>(some (.one ⟨I.hid (True),(.ret (.tup [.one (.p (.int .i64 (I.hid ((numA s 10 9).1)))),.one (.p (.bool (I.hid ((numA s 10 9).2))))])),[]⟩):Option CT)) s
 |_,_=>none
theorem zcY:zu Tryz.prog 58 (Xl alg):=by
 intro args hp r h;unfold Xl at h;split at h<;>cases h
 rename_i s;simp only [CT.Good,zh];intro _
 refine spH Tryz.func58 (by kernel_rfl) { keep:=some [0,2,3]} [Zq,Zp,zaL,zaK] (by kernel_rfl) ?_
 intro I X hI hX
 refine orcL ?_;go_invoke;refine orcS (by kernel_rfl) ?_
 simp only [zi,Nat.reduceAdd];subst hI;simp only [nrmA,nrmB]
 try trivial
def uf:Know Tryz.prog:=⟨58,Xl,zcY⟩
def vZ:Know Tryz.prog:=⟨58,fun I=>zx I (Xl I),zf zcY⟩
theorem zfV: ∀ (s:Str) (n:Int),0≤n→(numG 10 n s).1+1≤(n+1) * 10 ^ s.length∧0≤(numG 10 n s).1
 |[],n,h=>by simp [numG];exact h
 | c ::l,n,h=>by
   have h16:(0:Int)<10 ^ l.length:=Int.pow_pos (by decide)
   have e:((n+1) * 10 ^ (c::l).length:Int)=((n+1) * 10) * 10 ^ l.length:=by rw [jh,Int.pow_succ,Int.mul_assoc,Int.mul_comm (10 ^ l.length) 10]
   rw [e,numG]
   split
   · have h1:(1:Int) * 1≤((n+1) * 10) * 10 ^ l.length:=Int.mul_le_mul (by omega) (by omega) (by decide) (by omega)
     exact⟨by simpa using h1,Int.le_refl _⟩
   · rename_i hc
     have h2:=zfV l (n * 10+hexK c.toNat) (by omega)
     exact⟨Int.le_trans h2.1 (Int.mul_le_mul_of_nonneg_right (by omega) (by omega)),h2.2⟩
theorem wR (x:Str):0≤(numA x 10 9).1∧(numA x 10 9).1<1000000000:=by
 unfold numA
 split
 · exact by decide
 · rename_i h
   have h1:=zfV x 0 (Int.le_refl _)
   have h2:x.length≤9:=by omega
   have h3:(10:Int) ^ x.length≤10 ^ 9:=by
    have:(10 ^ x.length:Nat)≤10 ^ 9:=Nat.pow_le_pow_right (by decide) h2
    exact_mod_cast this
   refine⟨h1.2,?_⟩
   have h4:(10:Int) ^ 9=1000000000:=by decide
   omega
end Go.Proofs.YtnpmenpjagcheaaGreatDoor
namespace Go.Proofs.YtnpmenpjagcheaaGreatDoor
open Go Go.Sep Go.Ab
set_option maxRecDepth 100000
def QK (I:Alg):KU
 |[.v (.one (.p (.list .byte l)))],[]=>(fun(l:Str)=>(some (.one ⟨I.hid (l.length≤100000000),(.ret (.v (.one (.row 0)))),[.row .byte 5 l]⟩):Option CT)) l
 |_,_=>none
theorem zlJ:zu Tryz.prog 71 (QK alg):=by
 intro args hp r h;unfold QK at h;split at h<;>cases h
 rename_i l;simp only [CT.Good,zh];intro hneed
 refine spH Tryz.func71 (by kernel_rfl) { keep:=some [0,2]} [] (by kernel_rfl) ?_
 intro I X hI hX
 refine orcL ?_;go_invoke;refine orcS (by kernel_rfl) ?_
 simp only [zi,Nat.reduceAdd];subst hI;dsimp only [alg]
 have h2:((([]:Str).length:Nat):Int)+((l.length:Nat):Int)≤140737488355328:=by simp;omega
 refine⟨fun h=>⟨⟨trivial,?_⟩,h2,trivial,rfl⟩,fun h=>⟨h2,trivial,rfl⟩⟩
 have:l=[]:=List.eq_nil_of_length_eq_zero (by have:=eq_of_beq h;omega)
 subst this;rfl
def ZE:Know Tryz.prog:=⟨71,QK,zlJ⟩
def qy:Know Tryz.prog:=⟨71,fun I=>zx I (QK I),zf zlJ⟩
end Go.Proofs.YtnpmenpjagcheaaGreatDoor
namespace Go.Proofs.YtnpmenpjagcheaaGreatDoor
open Go Go.Sep Go.Ab
def upl0:Upl:=⟨0,0,[],[],0⟩
def atU (l:List Upl) (id:Int):Nat:=l.findIdx fun u=>u.id == id
def yB (l:List Upl) (id:Int):Upl:=l.getD (atU l id) upl0
def xk:List Upl→Int
 |[]=>0
 |u::l=>u.bytes.length+xk l
def creC (l:List Upl) (size:Int) (m:Str):Int:=
 if size< -1 then 1 else if 2000<size∨100<m.length then 4 else if XA m=false∨¬ Lib.trimS m [32,9]=m then 3 else if l.length=12 then 8 else 0
def creL (l:List Upl) (n size:Int) (m:Str):List Upl:=if creC l size m=0 then l++[⟨n+1,size,m,[],0⟩] else l
def creN (l:List Upl) (n size:Int) (m:Str):Int:=if creC l size m=0 then n+1 else n
def creI (l:List Upl) (n size:Int) (m:Str):Int:=if creC l size m=0 then n+1 else 0
def appC (l:List Upl) (id off:Int) (b:Str):Int:=
 if l.length≤atU l id then 10
 else if ¬ (yB l id).sent=0 then 19
 else if ¬ off=(yB l id).bytes.length then 17
 else if 2000<(yB l id).bytes.length+b.length∨0≤(yB l id).size∧(yB l id).size<(yB l id).bytes.length+b.length then 4
 else if 6000<xk l+b.length then 16 else 0
def appL (l:List Upl) (id off:Int) (b:Str):List Upl:=if appC l id off b=0 then l.set (atU l id) { yB l id with bytes:=(yB l id).bytes++b} else l
def decC (l:List Upl) (id size:Int):Int:=
 if l.length≤atU l id then 10
 else if 0≤(yB l id).size then 18
 else if size<0 then 1
 else if 2000<size∨size<(yB l id).bytes.length then 4 else 0
def decL (l:List Upl) (id size:Int):List Upl:=if decC l id size=0 then l.set (atU l id) { yB l id with size:=size} else l
def droC (l:List Upl) (id:Int):Int:=if l.length≤atU l id then 10 else 0
def droL (l:List Upl) (id:Int):List Upl:=l.eraseIdx (atU l id)
def begC (l:List Upl) (id:Int):Int:=
 if l.length≤atU l id then 10
 else if ¬ (yB l id).sent=0 then 19
 else if ¬ (yB l id).size=(yB l id).bytes.length then 14 else 0
def begL (l:List Upl) (id:Int):List Upl:=if begC l id=0 then l.set (atU l id) { yB l id with sent:=1} else l
def endC (l:List Upl) (id:Int):Int:=
 if l.length≤atU l id then 10
 else if ¬ (yB l id).sent=1 then 19 else 0
def endL (l:List Upl) (id:Int):List Upl:=if endC l id=0 then l.set (atU l id) { yB l id with sent:=2} else l
structure ztV (u:Upl):Prop where
 bl:u.bytes.length≤2000
 s1: -1≤u.size
 s2:u.size≤2000
 nl:u.note.length≤100
 bs:0≤u.size→(u.bytes.length:Int)≤u.size
 t0:0≤u.sent
 t2:u.sent≤2
 wh:u.sent≠0→u.size=u.bytes.length
structure zI (l:List Upl) (n:Int):Prop where
 n0:0≤n
 cnt:l.length≤12
 srt:l.Pairwise fun a b=>a.id<b.id
 ids: ∀ u ∈ l,1≤u.id∧u.id≤n
 each: ∀ u ∈ l,ztV u
 tot:xk l≤6000
theorem zhP:zI [] 0:=⟨by decide,by decide,List.Pairwise.nil,fun _ h=>by simp at h,fun _ h=>by simp at h,by decide⟩
theorem zrm (l:List Upl) (id:Int):atU l id≤l.length:=List.findIdx_le_length
theorem wI {l:List Upl} {id:Int} (h:atU l id<l.length):yB l id=l[atU l id]:=by unfold yB;simp [h]
theorem wY {l:List Upl} {id:Int} (h:atU l id<l.length):yB l id ∈ l:=by rw [wI h];exact List.getElem_mem h
theorem SL {l:List Upl} {id:Int} (h:atU l id<l.length):(yB l id).id=id:=by
 rw [wI h];have h2:(l[atU l id].id == id)=true:=List.findIdx_getElem (p:=fun u:Upl=>u.id == id) (w:=h)
 simpa using h2
theorem znj (a b:List Upl):xk (a++b)=xk a+xk b:=by
 induction a with
 |nil=>simp [xk]
 |cons u a ih=>simp only [List.cons_append,xk,ih];omega
theorem ZX: ∀ l:List Upl,0≤xk l
 |[]=>by decide
 |u::l=>by have:=ZX l;simp only [xk];omega
theorem ze8: ∀ {l:List Upl} {i:Nat} {u:Upl} (h:i<l.length),xk (l.set i u)=xk l - l[i].bytes.length+u.bytes.length
 |v::l,0,u,h=>by simp only [List.set_cons_zero,xk,List.getElem_cons_zero];omega
 | v::l,i+1,u,h=>by
   have:=ze8 (l:=l) (i:=i) (u:=u) (by simpa using h)
   simp only [List.set_cons_succ,xk,List.getElem_cons_succ,this];omega
theorem Q9: ∀ (l:List Upl) (i:Nat),xk (l.eraseIdx i)≤xk l
 |[],_=>by simp [xk]
 |v::l,0=>by simp only [List.eraseIdx_cons_zero,xk];omega
 |v::l,i+1=>by have:=Q9 l i;simp only [List.eraseIdx_cons_succ,xk];omega
theorem zdv {l:List Upl} {n:Int} (h:zI l n) {i:Nat} (hi:i<l.length) {u:Upl} (hid:u.id=l[i].id) (hu:ztV u) (ht:xk l - l[i].bytes.length+u.bytes.length≤6000):zI (l.set i u) n:=by
 refine⟨h.n0,by rw [List.length_set];exact h.cnt,?_,fun v hv=> ?_,fun v hv=> ?_,by rw [ze8 hi];exact ht⟩
 · have h1:=List.pairwise_map (f:=fun u:Upl=>u.id) (R:=(· < ·)) (l:=l)
   have h2:=List.pairwise_map (f:=fun u:Upl=>u.id) (R:=(· < ·)) (l:=l.set i u)
   rw [List.map_set,hid] at h2
   have e:(l.map fun u:Upl=>u.id).set i l[i].id=l.map fun u:Upl=>u.id:=by
    have:=List.set_getElem_self (show i<(l.map fun u:Upl=>u.id).length by simpa using hi)
    simpa using this
   rw [e] at h2;exact h2.1 (h1.2 h.srt)
 · rcases List.mem_or_eq_of_mem_set hv with hv|rfl
   · exact h.ids v hv
   · rw [hid];exact h.ids _ (List.getElem_mem hi)
 · rcases List.mem_or_eq_of_mem_set hv with hv|rfl
   · exact h.each v hv
   · exact hu
theorem zyj {l:List Upl} {n:Int} (h:zI l n) (size:Int) (m:Str):zI (creL l n size m) (creN l n size m):=by
 unfold creL creN
 split
 · rename_i hc
   unfold creC at hc
   split at hc
   · cases hc
   split at hc
   · cases hc
   split at hc
   · cases hc
   split at hc
   · cases hc
   have hcnt:=h.cnt;have hn:=h.n0
   refine⟨by omega,by simp;omega,?_,fun u hu=> ?_,fun u hu=> ?_,?_⟩
   · rw [List.pairwise_append]
     refine⟨h.srt,by simp,fun a ha b hb=> ?_⟩
     simp only [List.mem_singleton] at hb;subst hb;have:=(h.ids a ha).2
     show a.id<n+1
     omega
   · rcases List.mem_append.1 hu with hu|hu
     · have:=h.ids u hu;omega
     · simp only [List.mem_singleton] at hu;subst hu;exact⟨by show 1≤n+1;omega,by show n+1≤n+1;omega⟩
   · rcases List.mem_append.1 hu with hu|hu
     · exact h.each u hu
     · simp only [List.mem_singleton] at hu;subst hu
       exact⟨by simp,by simp only;omega,by simp only;omega,by simp only;omega,fun _=>by simpa,by simp,by simp,fun h=>absurd rfl h⟩
   · rw [znj];have:=h.tot;simp [xk];omega
 · exact h
theorem zyx {l:List Upl} {n:Int} (h:zI l n) (id off:Int) (b:Str):zI (appL l id off b) n:=by
 unfold appL
 split
 · rename_i hc
   unfold appC at hc
   split at hc
   · cases hc
   rename_i h1
   have hi:atU l id<l.length:=by omega
   have hu:=h.each _ (wY hi)
   split at hc
   · cases hc
   split at hc
   · cases hc
   split at hc
   · cases hc
   split at hc
   · cases hc
   rename_i h2 h3 h4 h5
   refine zdv h hi (by show(yB l id).id=_;rw [wI hi]) ?_ ?_
   · refine⟨?_,hu.s1,hu.s2,hu.nl,?_,hu.t0,hu.t2,fun hs=>absurd (by simpa using h2) hs⟩
     · show((yB l id).bytes++b).length≤2000;rw [jk];omega
     · intro hs;show((((yB l id).bytes++b).length:Nat):Int)≤(yB l id).size;rw [jk]
       have hs:0≤(yB l id).size:=hs;omega
   · show xk l - _+((((yB l id).bytes++b).length:Nat):Int)≤6000
     rw [jk,← wI hi];omega
 · exact h
theorem zyf {l:List Upl} {n:Int} (h:zI l n) (id size:Int):zI (decL l id size) n:=by
 unfold decL
 split
 · rename_i hc
   unfold decC at hc
   split at hc
   · cases hc
   rename_i h1
   have hi:atU l id<l.length:=by omega
   have hu:=h.each _ (wY hi)
   split at hc
   · cases hc
   split at hc
   · cases hc
   split at hc
   · cases hc
   rename_i h2 h3 h4
   refine zdv h hi (by show(yB l id).id=_;rw [wI hi]) ?_ ?_
   · refine⟨hu.bl,by show -1≤size;omega,by show size≤2000;omega,hu.nl,fun _=>by show(((yB l id).bytes.length:Nat):Int)≤size;omega,hu.t0,hu.t2,fun hs=> ?_⟩
     have:=hu.wh hs;omega
   · show xk l - _+(((yB l id).bytes.length:Nat):Int)≤6000
     rw [← wI hi];have:=h.tot;omega
 · exact h
theorem zya {l:List Upl} {n:Int} (h:zI l n) (id:Int):zI (droL l id) n:=by
 unfold droL;have hs:=List.eraseIdx_sublist l (atU l id);refine⟨h.n0,Nat.le_trans hs.length_le h.cnt,h.srt.sublist hs,fun u hu=>h.ids u (hs.subset hu),fun u hu=>h.each u (hs.subset hu),Int.le_trans (Q9 _ _) h.tot⟩
theorem zys {l:List Upl} {n:Int} (h:zI l n) (id:Int):zI (begL l id) n:=by
 unfold begL
 split
 · rename_i hc
   unfold begC at hc
   split at hc
   · cases hc
   rename_i h1
   have hi:atU l id<l.length:=by omega
   have hu:=h.each _ (wY hi)
   split at hc
   · cases hc
   split at hc
   · cases hc
   rename_i h2 h3
   refine zdv h hi (by show(yB l id).id=_;rw [wI hi]) ⟨hu.bl,hu.s1,hu.s2,hu.nl,hu.bs,by show(0:Int)≤1;decide,by show(1:Int)≤2;decide,fun _=>by simpa using h3⟩ ?_
   show xk l - _+(((yB l id).bytes.length:Nat):Int)≤6000
   rw [← wI hi];have:=h.tot;omega
 · exact h
theorem zx7 {l:List Upl} {n:Int} (h:zI l n) (id:Int):zI (endL l id) n:=by
 unfold endL
 split
 · rename_i hc
   unfold endC at hc
   split at hc
   · cases hc
   rename_i h1
   have hi:atU l id<l.length:=by omega
   have hu:=h.each _ (wY hi)
   split at hc
   · cases hc
   rename_i h2
   refine zdv h hi (by show(yB l id).id=_;rw [wI hi]) ⟨hu.bl,hu.s1,hu.s2,hu.nl,hu.bs,by show(0:Int)≤2;decide,by show(2:Int)≤2;decide,fun _=>hu.wh (by simp only [Decidable.not_not] at h2;omega)⟩ ?_
   show xk l - _+(((yB l id).bytes.length:Nat):Int)≤6000
   rw [← wI hi];have:=h.tot;omega
 · exact h
theorem zzj {l:List Upl} (h:l.Pairwise fun a b=>a.id<b.id) {i:Nat} (hi:i<l.length):atU l l[i].id=i:=by
 unfold atU;rw [List.findIdx_eq hi]
 refine⟨by simp,fun j hj=> ?_⟩
 have:=List.pairwise_iff_getElem.1 h j i (by omega) hi hj
 simp only [beq_eq_false_iff_ne,ne_eq];omega
theorem zqo {l:List Upl} (h:l.Pairwise fun a b=>a.id<b.id) (id:Int):(l.filter fun u=> !(u.id == id))=droL l id:=by
 induction l with
 |nil=>simp [droL]
 | cons u l ih=>
   have h:=List.pairwise_cons.1 h;unfold droL atU at *;rw [List.filter_cons,List.findIdx_cons]
   by_cases hu:u.id=id
   · have e:(u.id == id)=true:=by simpa using hu
     rw [e];simp only [Bool.not_true,jd,if_false,cond_true,List.eraseIdx_cons_zero];refine List.filter_eq_self.2 fun v hv=> ?_;have:=h.1 v hv
     simp;omega
   · have e:(u.id == id)=false:=by simpa using hu
     rw [e];simp only [Bool.not_false,if_true,cond_false,List.eraseIdx_cons_succ,ih h.2]
end Go.Proofs.YtnpmenpjagcheaaGreatDoor
namespace Go.Proofs.YtnpmenpjagcheaaGreatDoor
open Go Go.Sep Go.Ab
set_option maxRecDepth 100000
def Rk (I:Alg):KU
 |[.v (.agg [.p (.int .i64 a),.p (.int .i64 b),.p (.str m),.p (.list .byte y),.p (.int .i64 t)]),.v (.one (.ptr 0 0))],[.pack [.obj 3 [.p (.int .i64 d)]]]=>(fun(m y:Str)=>(some (.one ⟨I.hid (True),(.ret (.v (.one (.p (.bool (I.hid (a == d))))))),[.pack [.obj 3 [.p (.int .i64 d)]]]⟩):Option CT)) m y
 |_,_=>none
theorem zjK:zu Tryz.prog 90 (Rk alg):=by
 intro args hp r h;unfold Rk at h;split at h<;>cases h
 rename_i a b m y t d;simp only [CT.Good,zh];intro _
 refine spH Tryz.func90 (by kernel_rfl) { keep:=some [0,1,2,3]} [] (by kernel_rfl) ?_
 intro I X hI hX
 refine orcL ?_;go_invoke;refine orcS (by kernel_rfl) ?_
 simp only [zi,Nat.reduceAdd];subst hI;simp only [nrmA,nrmB,nrlB,reduceCtorEq,HO.pack.injEq,HO.obj.injEq]
def Rj:Know Tryz.prog:=⟨90,Rk,zjK⟩
def zjJ:Know Tryz.prog:=⟨90,fun I=>zx I (Rk I),zf zjK⟩
def ixU (l:List Upl) (id:Int):Int:=if atU l id<l.length then(atU l id:Int) else -1
theorem zlW {l:List Upl} {id:Int} {i:Nat} (h:i<l.length) (hp:i≤atU l id):(if(l.getD i upl0).id=id then atU l id=i else i+1≤atU l id):=by
 rw [show l.getD i upl0=l[i] by simp [h]]
 split
 · rename_i he
   rcases Nat.lt_or_ge i (atU l id) with h1|h1
   · have:=List.not_of_lt_findIdx (p:=fun u:Upl=>u.id == id) (xs:=l) (i:=i) h1
     simp [he] at this
   · omega
 · rename_i he
   rcases Nat.lt_or_ge i (atU l id) with h1|h1
   · omega
   · have e:atU l id=i:=by omega
     have h2:=SL (l:=l) (id:=id) (by omega)
     rw [wI (by omega)] at h2
     simp only [e] at h2;exact absurd h2 he
def zdw (I:Alg):KU
 |[.v (.one (.p (.list .upl l))),.v (.one (.fn 90 [.ptr 0 0]))],[.pack [.obj 3 [.p (.int .i64 d)]]]=>(fun(l:List Upl)=>(some (.one ⟨I.hid (l.length≤1000000),(.ret (.v (.one (.p (.int .i64 (I.hid (ixU l d))))))),[.pack [.obj 3 [.p (.int .i64 d)]]]⟩):Option CT)) l
 |_,_=>none
theorem znU:zu Tryz.prog 89 (zdw alg):=by
 intro args hp r h;unfold zdw at h;split at h<;>cases h
 rename_i l d
 revert l;intro(l:List Upl)
 simp only [CT.Good,zh];intro hneed
 refine spH Tryz.func89 (by kernel_rfl) { keep:=some [0,1,4,5,7,8]} [Rj] (by kernel_rfl) ?_
 intro I X hI hX
 refine orcL ?_;go_invoke;refine orcS (by kernel_rfl) ?_
 simp only [zi,Nat.reduceAdd]
 refine lpH hI [Rj] hX [0,1,7,8] (fun(i:Nat)=>i≤l.length∧i≤atU l d) (fun(i:Nat)=>⟨[(0,.v (.one (.p (.list .upl l)))),(1,.v (.one (.fn 90 [.ptr 0 0]))),(7,.v (.one (.p (.int .i64 ((I.len (α:=Upl) l)))))),(8,.v (.one (.p (.int .i64 i))))],[.pack [.obj 3 [.p (.int .i64 d)]]],19,none⟩) (fun(i:Nat)=>l.length - i) 0 (by kernel_rfl) (by kernel_rfl) ?_ ?_
 · exact⟨jM _,jM _⟩
 rintro i ⟨h1,h2⟩ A hA
 refine orcL ?_;go_invoke;refine orcS (by kernel_rfl) ?_
 simp only [zi,Nat.reduceAdd];subst hI;simp only [nrmA,nrmB];have hx:=fun h=>zlW (l:=l) (id:=d) (i:=i) h h2;have hle:=zrm l d;have e0:(⟨0,0,[],[],0⟩:Upl)=upl0:=rfl;simp only [e0];unfold ixU
 (repeat' (first|refine ja ?_ ?_|intro _))<;>first|omega|exact jb|exact jc ‹False›|skip
 all_goals first
  |(have h3:=hx (by omega);rw [if_pos (by assumption)] at h3;rw [if_pos (by omega),h3])
  |(have h3:=hx (by omega);rw [if_neg (by assumption)] at h3;exact hA (i+1) ⟨by omega,h3⟩ (by omega))
  |(rw [if_neg (by omega)])
def Us:Know Tryz.prog:=⟨89,zdw,znU⟩
def Ur:Know Tryz.prog:=⟨89,fun I=>zx I (zdw I),zf znU⟩
def zbt:Cfg:= { sl:=[⟨106,0,.upl,some 82⟩,⟨999999,0,.upl,some 82⟩]}
theorem zpK {l:List Upl} {id:Int} (h:atU l id<l.length):ixU l id=(atU l id:Int):=by unfold ixU;rw [if_pos h]
theorem zpL {l:List Upl} {id:Int} (h: ¬ atU l id<l.length):ixU l id= -1:=by unfold ixU;rw [if_neg h]
theorem zyN (l:List Upl) (n id:Int) (hneed:l.length≤1000000∧atU l id<l.length):Spc Tryz.prog 70 [.v (.one (.ptr 0 0)),.v (.one (.p (.int .i64 id)))] [.obj 106 [.row 1,.p (.int .i64 n)],.row .upl 82 l] (.ret (.tup [.one (.ept .upl 1 ((atU l id:Int)) 0),.one (.p (.int .i64 0))])) [.obj 106 [.row 1,.p (.int .i64 n)],.row .upl 82 l]:=by
 obtain⟨h1,h2⟩:=hneed
 refine spH Tryz.func70 (by kernel_rfl) { flat:=true,keep:=some [0,1,3,4,5,6]} [Rj,zjJ,Us,Ur] (by kernel_rfl) ?_
 intro I X hI hX
 refine orcL ?_;go_invoke;refine orcS (by kernel_rfl) ?_
 simp only [zi,Nat.reduceAdd];subst hI;simp only [nrmA,nrmB,zpK h2]
 (repeat' (first|refine ja ?_ ?_|intro _))<;>first|omega|exact jb|exact jc ‹False›|skip
theorem zyM (l:List Upl) (n id:Int) (hneed:l.length≤1000000∧¬ atU l id<l.length):Spc Tryz.prog 70 [.v (.one (.ptr 0 0)),.v (.one (.p (.int .i64 id)))] [.obj 106 [.row 1,.p (.int .i64 n)],.row .upl 82 l] (.ret (.tup [.one (.p (.val (.pointer none))),.one (.p (.int .i64 10))])) [.obj 106 [.row 1,.p (.int .i64 n)],.row .upl 82 l]:=by
 obtain⟨h1,h2⟩:=hneed
 refine spH Tryz.func70 (by kernel_rfl) { flat:=true,keep:=some [0,1,3,4,5,6]} [Rj,zjJ,Us,Ur] (by kernel_rfl) ?_
 intro I X hI hX
 refine orcL ?_;go_invoke;refine orcS (by kernel_rfl) ?_
 simp only [zi,Nat.reduceAdd];subst hI;simp only [nrmA,nrmB,zpL h2]
 (repeat' (first|refine ja ?_ ?_|intro _))<;>first|omega|exact jb|exact jc ‹False›|skip
def zjZ (I:Alg):KU
 |[.v (.one (.ptr 0 0)),.v (.one (.p (.int .i64 id)))],[.obj 106 [.row 1,.p (.int .i64 n)],.row .upl 82 l]=>(fun(l:List Upl)=>(some (.br (I.hid (decide (atU l id<l.length))) (.one ⟨I.hid (l.length≤1000000∧atU l id<l.length),(.ret (.tup [.one (.ept .upl 1 (I.hid (atU l id:Int)) 0),.one (.p (.int .i64 0))])),[.obj 106 [.row 1,.p (.int .i64 n)],.row .upl 82 l]⟩) (.one ⟨I.hid (l.length≤1000000∧¬ atU l id<l.length),(.ret (.tup [.one (.p (.val (.pointer none))),.one (.p (.int .i64 10))])),[.obj 106 [.row 1,.p (.int .i64 n)],.row .upl 82 l]⟩)):Option CT)) l
 |_,_=>none
theorem zt6:zu Tryz.prog 70 (zjZ alg):=by
 intro args hp r h;unfold zjZ at h
 split at h
 · cases h;exact⟨fun _ hn=>zyN _ _ _ hn,fun _ hn=>zyM _ _ _ hn⟩
 · cases h
def zb2:Know Tryz.prog:=⟨70,zjZ,zt6⟩
def zb1:Know Tryz.prog:=⟨70,fun I=>zx I (zjZ I),zf zt6⟩
theorem zoa (l:List Upl) (n:Int) (hneed:xk l≤1000000∧l.length≤1000000):Spc Tryz.prog 149 [.v (.one (.ptr 0 0))] [.obj 106 [.row 1,.p (.int .i64 n)],.row .upl 82 l] (.ret (.v (.one (.p (.int .i64 ((xk l))))))) [.obj 106 [.row 1,.p (.int .i64 n)],.row .upl 82 l]:=by
 obtain⟨hu,hl⟩:=hneed
 refine spH Tryz.func149 (by kernel_rfl) { flat:=true,keep:=some [0,2,3,5,9,10,11]} [] (by kernel_rfl) ?_
 intro I X hI hX
 refine orcL ?_;go_invoke;refine orcS (by kernel_rfl) ?_
 simp only [zi,Nat.reduceAdd]
 refine lpH hI [] hX [0,3,9,10,11] (fun(g:Nat × Int)=>match g with|(i,a)=>i≤l.length∧0≤a∧a+xk (l.drop i)=xk l) (fun(g:Nat × Int)=>match g with|(i,a)=>⟨[(0,.v (.one (.ptr 0 0))),(3,.v (.one (.p (.int .i64 a)))),(9,.v (.one (.row 1))),(10,.v (.one (.p (.int .i64 ((I.len (α:=Upl) l)))))),(11,.v (.one (.p (.int .i64 i))))],[.obj 106 [.row 1,.p (.int .i64 n)],.row .upl 82 l],22,none⟩) (fun(g:Nat × Int)=>match g with|(i,a)=>l.length - i) (0,0) (by kernel_rfl) (by kernel_rfl) ?_ ?_
 · exact⟨jM _,Int.le_refl _,by simp⟩
 rintro⟨i,a⟩ ⟨h1,h2,h3⟩ A hA;simp only at hA
 refine orcL ?_;go_invoke;refine orcS (by kernel_rfl) ?_
 simp only [zi,Nat.reduceAdd];subst hI;simp only [nrmA,nrmB]
 have hd:i<l.length→xk (l.drop i)=(l.getD i ⟨0,0,[],[],0⟩).bytes.length+xk (l.drop (i+1)):=fun h=>by
  rw [jE h];simp [xk,h]
 have hn:=ZX (l.drop (i+1))
 have hn0: ¬ i<l.length→xk (l.drop i)=0:=fun h=>by rw [jF (by omega)];rfl
 generalize l.getD i ⟨0,0,[],[],0⟩=x at *
 (repeat' (first|refine ja ?_ ?_|intro _))<;>first|omega|exact jb|exact jc ‹False›|skip
 all_goals first
  |(have:=hd (by omega);omega)
  |(have:=hd (by omega);refine hA (i+1,_) ⟨by simp only;omega,by simp only;omega,by simp only;omega⟩ (by simp only;omega))
  |(have:=hn0 (by omega);simp only [show a=xk l by omega])
def WA (I:Alg):KU
 |[.v (.one (.ptr 0 0))],[.obj 106 [.row 1,.p (.int .i64 n)],.row .upl 82 l]=>(fun(l:List Upl)=>(some (.one ⟨I.hid (xk l≤1000000∧l.length≤1000000),(.ret (.v (.one (.p (.int .i64 (I.hid (xk l))))))),[.obj 106 [.row 1,.p (.int .i64 n)],.row .upl 82 l]⟩):Option CT)) l
 |_,_=>none
theorem zfu:zu Tryz.prog 149 (WA alg):=by
 intro args hp r h;unfold WA at h
 split at h
 · cases h;exact fun hn=>zoa _ _ hn
 · cases h
def zn9:Know Tryz.prog:=⟨149,WA,zfu⟩
def zn8:Know Tryz.prog:=⟨149,fun I=>zx I (WA I),zf zfu⟩
theorem zw9 (l:List Upl) (n:Int) (hneed:xk l≤1000000∧l.length≤1000000):Spc Tryz.prog 149 [.v (.one (.ptr 0 0))] [.pack [.obj 106 [.row 1,.p (.int .i64 n)],.row .upl 82 l]] (.ret (.v (.one (.p (.int .i64 ((xk l))))))) [.pack [.obj 106 [.row 1,.p (.int .i64 n)],.row .upl 82 l]]:=
 Spc.packed (ex:=[]) (zoa l n hneed) rfl (by simp) rfl
def Rw (I:Alg):KU
 |[.v (.one (.ptr 0 0))],[.pack [.obj 106 [.row 1,.p (.int .i64 n)],.row .upl 82 l]]=>(fun(l:List Upl)=>(some (.one ⟨I.hid (xk l≤1000000∧l.length≤1000000),(.ret (.v (.one (.p (.int .i64 (I.hid (xk l))))))),[.pack [.obj 106 [.row 1,.p (.int .i64 n)],.row .upl 82 l]]⟩):Option CT)) l
 |_,_=>none
theorem zjT:zu Tryz.prog 149 (Rw alg):=by
 intro args hp r h;unfold Rw at h
 split at h
 · cases h;exact fun hn=>zw9 _ _ hn
 · cases h
def zse:Know Tryz.prog:=⟨149,Rw,zjT⟩
def zsd:Know Tryz.prog:=⟨149,fun I=>zx I (Rw I),zf zjT⟩
def zej (I:Alg):KU
 |[.v (.one .nilS),.v (.one (.p (.int .i64 n)))],[]=>some (.one ⟨I.hid (0≤n∧n≤1000000),(.ret (.v (.one (.row 0)))),[.row .byte 5 (I.hid ([]))]⟩)
 |_,_=>none
theorem zpX:zu Tryz.prog 184 (zej alg):=by
 intro args hp r h;unfold zej at h;split at h<;>cases h
 rename_i n;simp only [CT.Good,zh];intro hneed
 refine spH Tryz.func184 (by kernel_rfl) { cut:=[0],keep:=some [0,1,4]} [] (by kernel_rfl) ?_
 intro I X hI hX
 refine orcL ?_;go_invoke;refine orcS (by kernel_rfl) ?_
 simp only [zi,Nat.reduceAdd];subst hI;simp only [nrmA,nrmB,nrlB,reduceCtorEq];simp only [List.length_replicate,List.take_zero]
 (repeat' (first|refine ja ?_ ?_|intro _))<;>first|omega|exact jb|exact jc ‹False›|skip
 all_goals trivial
def ziA:Know Tryz.prog:=⟨184,zej,zpX⟩
def ziz:Know Tryz.prog:=⟨184,fun I=>zx I (zej I),zf zpX⟩
theorem zg6 {ls:List Str} {i:Nat} (h:i<ls.length):(ls.take (i+1)).flatten=(ls.take i).flatten++ls.getD i []:=by
 rw [jB h,List.flatten_append];simp [h]
theorem zer (ls:List Str) (i:Nat):(ls.take i).flatten.length≤ls.flatten.length:=by
 have:=congrArg (fun l:List Str=>l.flatten.length) (List.take_append_drop i ls);simp only [List.flatten_append,jk] at this;omega
def VW (I:Alg):KU
 |[.v (.one (.p (.list .bytes ls)))],[]=>(fun(ls:List Str)=>(some (.one ⟨I.hid (ls.flatten.length≤1000000∧ls.length≤1000),(.ret (.v (.one (.row 0)))),[.row .byte 5 ls.flatten]⟩):Option CT)) ls
 |_,_=>none
theorem zhn:zu Tryz.prog 150 (VW alg):=by
 intro args hp r h;unfold VW at h;split at h<;>cases h
 rename_i ls
 revert ls;intro(ls:List Str)
 simp only [CT.Good,zh];intro hneed;obtain⟨hl,hk⟩:=hneed
 refine spH Tryz.func150 (by kernel_rfl) { nils:=[184],keep:=some [0,2,3,5,6,8,9,10,11,25,26,27]} [ziA,ziz] (by kernel_rfl) ?_
 intro I X hI hX
 refine orcL ?_;go_invoke;refine orcS (by kernel_rfl) ?_
 simp only [zi,Nat.reduceAdd]
 refine lpH hI [ziA,ziz] hX [0,3,9,10,11] (fun(g:Nat × Int)=>match g with|(i,a)=>i≤ls.length∧a=(ls.take i).flatten.length) (fun(g:Nat × Int)=>match g with|(i,a)=>⟨[(0,.v (.one (.p (.list .bytes ls)))),(3,.v (.one (.p (.int .i64 a)))),(9,.v (.one (.p (.list .bytes ls)))),(10,.v (.one (.p (.int .i64 ((I.len (α:=List UInt8) ls)))))),(11,.v (.one (.p (.int .i64 i))))],[],36,none⟩) (fun(g:Nat × Int)=>match g with|(i,a)=>ls.length - i) (0,0) (by kernel_rfl) (by kernel_rfl) ?_ ?_
 · exact⟨jM _,by simp⟩
 rintro⟨i,a⟩ ⟨h1,h2⟩ A hA;simp only at hA
 refine orcL ?_;go_invoke;refine orcS (by kernel_rfl) ?_
 simp only [zi,Nat.reduceAdd];have hx:i<ls.length→_:=zg6 (ls:=ls) (i:=i);have hy:=zer ls (i+1);have hz:=zer ls i;refine⟨fun c1=> ?_,fun c1=>⟨?_,?_⟩⟩
 · subst hI
   simp only [nrmA,nrmB] at c1;simp only [nrmA,nrmB]
   have hx:=congrArg List.length (hx (by omega))
   rw [jk] at hx;generalize ls.getD i []=x at *
   (repeat' (first|refine ja ?_ ?_|intro _))<;>first|omega|exact jb|exact jc ‹False›|skip
   exact hA (i+1,_) ⟨by simp only;omega,by simp only;omega⟩ (by simp only;omega)
 · subst hI
   simp only [nrmA,nrmB];omega
 · have hi:i=ls.length:=by
    subst hI;simp only [nrmA,nrmB] at c1;omega
   have hil:(I.hid ([]:Str))=[]:=by subst hI;rfl
   rw [hil]
   refine lpH hI [ziA,ziz] hX [6,25,26,27] (fun(g:Nat × Str)=>match g with|(j,o)=>j≤ls.length∧o=(ls.take j).flatten) (fun(g:Nat × Str)=>match g with|(j,o)=>⟨[(6,.v (.one (.row 0))),(25,.v (.one (.p (.list .bytes ls)))),(26,.v (.one (.p (.int .i64 ((I.len (α:=List UInt8) ls)))))),(27,.v (.one (.p (.int .i64 j))))],[.row .byte 5 o],36,none⟩) (fun(g:Nat × Str)=>match g with|(j,o)=>ls.length - j) (0,[]) (by kernel_rfl) (by kernel_rfl) ?_ ?_
   · exact⟨jM _,rfl⟩
   rintro⟨j,o⟩ ⟨k1,k2⟩ B hB;simp only at hB
   refine orcL ?_;go_invoke;refine orcS (by kernel_rfl) ?_
   simp only [zi,Nat.reduceAdd];subst hI;simp only [nrmA,nrmB,nrlB,reduceCtorEq];have hx:j<ls.length→_:=zg6 (ls:=ls) (i:=j);have hy:=zer ls (j+1);have hz:=zer ls j
   have hw: ¬ j<ls.length→o=ls.flatten:=fun h=>by rw [k2,jq (by omega)]
   rw [k2] at hw ⊢
   refine⟨fun c=> ?_,fun c=>hw (by omega)⟩
   have hx:=hx (by omega)
   rw [← hx];have hx2:=congrArg List.length hx;rw [jk] at hx2;generalize ls.getD j []=x at *
   (repeat' (first|refine ja ?_ ?_|intro _))<;>first|omega|exact jb|exact jc ‹False›|skip
   exact hB (j+1,(ls.take (j+1)).flatten) ⟨by simp only;omega,rfl⟩ (by simp only;omega)
def zq3:Know Tryz.prog:=⟨150,VW,zhn⟩
def zq2:Know Tryz.prog:=⟨150,fun I=>zx I (VW I),zf zhn⟩
theorem Xz {l:List Upl} {n:Int} (h:zI l n):l.length≤1000000∧xk l≤1000000:=by
 have:=h.cnt;have:=h.tot;omega
def YI (I:Alg):KU
 |[.v (.one (.ptr 0 0)),.v (.one (.p (.int .i64 size))),.v (.one (.p (.str m)))],[.pack [.obj 106 [.row 1,.p (.int .i64 n)],.row .upl 82 l]]=>(fun(l:List Upl) (m:Str)=>(some (.one ⟨I.hid (zI l n∧n≤1000000∧m.length≤1000000),(.ret (.tup [.one (.p (.int .i64 (I.hid (creI l n size m)))),.one (.p (.int .i64 (I.hid (creC l size m))))])),[.pack [.obj 106 [.row 1,.p (.int .i64 (I.hid (creN l n size m)))],.row .upl 82 (I.hid (creL l n size m))]]⟩):Option CT)) l m
 |_,_=>none
theorem zb0:zu Tryz.prog 112 (YI alg):=by
 intro args hp r h;unfold YI at h;split at h<;>cases h
 rename_i size m n l
 revert l;intro(l:List Upl)
 simp only [CT.Good,zh];intro hneed;obtain⟨hs,hn,hm⟩:=hneed;have hc:=hs.cnt;have h0:=hs.n0;generalize hi:creI l n size m=ri;generalize he:creC l size m=re;generalize hl:creL l n size m=rl;generalize hN:creN l n size m=rn
 refine spH Tryz.func112 (by kernel_rfl) { zbt with keep:=some [0,1,2,6,7]} [wC,wB,V8,V7] (by kernel_rfl) ?_
 intro I X hI hX
 refine orcL ?_;go_invoke;refine orcS (by kernel_rfl) ?_
 simp only [zi,Nat.reduceAdd];subst hI;simp only [nrmA,nrmB,nrlB,reduceCtorEq,HO.pack.injEq,HO.obj.injEq];unfold creI at hi;unfold creL at hl;unfold creN at hN;rw [he] at hi hl hN;unfold creC at he;simp only [jh,ji]
 (repeat' (first|refine ja ?_ ?_|intro _))<;>first|omega|exact jb|exact jc ‹False›|skip
 all_goals((repeat(first|rewrite [if_pos (by first|omega|assumption|(simp only [*,or_self,or_true,true_or,or_false,false_or,jf,jg,jd,je,and_self,and_true,true_and];done)|(simp only [*];omega)|(simp [*];done)|(simp [*];omega))] at he|rewrite [if_neg (by first|omega|assumption|(simp only [*,or_self,or_true,true_or,or_false,false_or,jf,jg,jd,je,and_self,and_true,true_and];done)|(simp only [*];omega)|(simp [*];done)|(simp [*];omega))] at he));subst he;((repeat(first|rewrite [if_pos (by first|omega|assumption|(simp only [*,or_self,or_true,true_or,or_false,false_or,jf,jg,jd,je,and_self,and_true,true_and];done)|(simp only [*];omega)|(simp [*];done)|(simp [*];omega))] at hi|rewrite [if_neg (by first|omega|assumption|(simp only [*,or_self,or_true,true_or,or_false,false_or,jf,jg,jd,je,and_self,and_true,true_and];done)|(simp only [*];omega)|(simp [*];done)|(simp [*];omega))] at hi)));((repeat(first|rewrite [if_pos (by first|omega|assumption|(simp only [*,or_self,or_true,true_or,or_false,false_or,jf,jg,jd,je,and_self,and_true,true_and];done)|(simp only [*];omega)|(simp [*];done)|(simp [*];omega))] at hl|rewrite [if_neg (by first|omega|assumption|(simp only [*,or_self,or_true,true_or,or_false,false_or,jf,jg,jd,je,and_self,and_true,true_and];done)|(simp only [*];omega)|(simp [*];done)|(simp [*];omega))] at hl)));((repeat(first|rewrite [if_pos (by first|omega|assumption|(simp only [*,or_self,or_true,true_or,or_false,false_or,jf,jg,jd,je,and_self,and_true,true_and];done)|(simp only [*];omega)|(simp [*];done)|(simp [*];omega))] at hN|rewrite [if_neg (by first|omega|assumption|(simp only [*,or_self,or_true,true_or,or_false,false_or,jf,jg,jd,je,and_self,and_true,true_and];done)|(simp only [*];omega)|(simp [*];done)|(simp [*];omega))] at hN)));subst hi;subst hl;subst hN;first|rfl|omega)
def zmd:Know Tryz.prog:=⟨112,YI,zb0⟩
def zmc:Know Tryz.prog:=⟨112,fun I=>zx I (YI I),zf zb0⟩
def YJ (I:Alg):KU
 |[.v (.one (.ptr 0 0)),.v (.one (.p (.int .i64 id))),.v (.one (.p (.int .i64 off))),.v (.one (.p (.list .byte b)))],[.pack [.obj 106 [.row 1,.p (.int .i64 n)],.row .upl 82 l]]=>(fun(l:List Upl) (b:Str)=>(some (.one ⟨I.hid (zI l n∧b.length≤1000000),(.ret (.v (.one (.p (.int .i64 (I.hid (appC l id off b))))))),[.pack [.obj 106 [.row 1,.p (.int .i64 n)],.row .upl 82 (I.hid (appL l id off b))]]⟩):Option CT)) l b
 |_,_=>none
theorem zb3:zu Tryz.prog 113 (YJ alg):=by
 intro args hp r h;unfold YJ at h;split at h<;>cases h
 rename_i id off b n l
 revert l;intro(l:List Upl)
 simp only [CT.Good,zh];intro hneed;obtain⟨hs,hb⟩:=hneed;have hf:=Xz hs;generalize he:appC l id off b=re;generalize hl:appL l id off b=rl
 refine spH Tryz.func113 (by kernel_rfl) { zbt with bare:=[70,149],keep:=some [0,1,2,3,8,9,10,11]} [zb2,zb1,zn9,zn8,zse,zsd,zq3,zq2] (by kernel_rfl) ?_
 intro I X hI hX
 refine orcL ?_;go_invoke;refine orcS (by kernel_rfl) ?_
 simp only [zi,Nat.reduceAdd];subst hI;simp only [nrmA,nrmB,nrlB,reduceCtorEq,HO.pack.injEq,HO.obj.injEq];unfold appL at hl;rw [he] at hl;unfold appC at he;unfold yB upl0 at he hl;simp only [List.flatten_cons,List.flatten_nil,List.append_nil,jk,jh,ji];have hx:atU l id<l.length→_:=fun h=>hs.each _ (wY h);unfold yB upl0 at hx;generalize l.getD (atU l id) ⟨0,0,[],[],0⟩=x at *;have hu0:=ZX l;have hb1:=fun h=>(hx h).bl;have hb2:=fun h=>(hx h).s1;have hb3:=fun h=>(hx h).s2
 (repeat' (first|refine ja ?_ ?_|intro _))<;>first|omega|exact jb|exact jc ‹False›|skip
 all_goals first
  |(have:=hb1 (by omega);have:=hb2 (by omega);have:=hb3 (by omega);omega)
  |exact hf.1
  |exact hf.2
  |((repeat(first|rewrite [if_pos (by first|omega|assumption|(simp only [*,or_self,or_true,true_or,or_false,false_or,jf,jg,jd,je,and_self,and_true,true_and];done)|(simp only [*];omega)|(simp [*];done)|(simp [*];omega))] at he|rewrite [if_neg (by first|omega|assumption|(simp only [*,or_self,or_true,true_or,or_false,false_or,jf,jg,jd,je,and_self,and_true,true_and];done)|(simp only [*];omega)|(simp [*];done)|(simp [*];omega))] at he));subst he;((repeat(first|rewrite [if_pos (by first|omega|assumption|(simp only [*,or_self,or_true,true_or,or_false,false_or,jf,jg,jd,je,and_self,and_true,true_and];done)|(simp only [*];omega)|(simp [*];done)|(simp [*];omega))] at hl|rewrite [if_neg (by first|omega|assumption|(simp only [*,or_self,or_true,true_or,or_false,false_or,jf,jg,jd,je,and_self,and_true,true_and];done)|(simp only [*];omega)|(simp [*];done)|(simp [*];omega))] at hl)));subst hl;first|rfl|omega)
def zmf:Know Tryz.prog:=⟨113,YJ,zb3⟩
def zme:Know Tryz.prog:=⟨113,fun I=>zx I (YJ I),zf zb3⟩
end Go.Proofs.YtnpmenpjagcheaaGreatDoor
namespace Go.Proofs.YtnpmenpjagcheaaGreatDoor
open Go Go.Sep Go.Ab
set_option maxRecDepth 100000
def Zk (I:Alg):KU
 |[.v (.one (.ptr 0 0)),.v (.one (.p (.int .i64 id))),.v (.one (.p (.int .i64 size)))],[.pack [.obj 106 [.row 1,.p (.int .i64 n)],.row .upl 82 l]]=>(fun(l:List Upl)=>(some (.one ⟨I.hid (zI l n),(.ret (.v (.one (.p (.int .i64 (I.hid (decC l id size))))))),[.pack [.obj 106 [.row 1,.p (.int .i64 n)],.row .upl 82 (I.hid (decL l id size))]]⟩):Option CT)) l
 |_,_=>none
theorem zav:zu Tryz.prog 114 (Zk alg):=by
 intro args hp r h;unfold Zk at h;split at h<;>cases h
 rename_i id size n l
 revert l;intro(l:List Upl)
 simp only [CT.Good,zh];intro hneed;have hs:=hneed;have hf:=Xz hs;generalize he:decC l id size=re;generalize hl:decL l id size=rl
 refine spH Tryz.func114 (by kernel_rfl) { zbt with bare:=[70],keep:=some [0,1,2,6,7,8]} [zb2,zb1] (by kernel_rfl) ?_
 intro I X hI hX
 refine orcL ?_;go_invoke;refine orcS (by kernel_rfl) ?_
 simp only [zi,Nat.reduceAdd];subst hI;simp only [nrmA,nrmB,nrlB,reduceCtorEq,HO.pack.injEq,HO.obj.injEq];unfold decL at hl;rw [he] at hl;unfold decC at he;unfold yB upl0 at he hl;generalize l.getD (atU l id) ⟨0,0,[],[],0⟩=x at *
 (repeat' (first|refine ja ?_ ?_|intro _))<;>first|omega|exact jb|exact jc ‹False›|skip
 all_goals first
  |exact hf.1
  |((repeat(first|rewrite [if_pos (by first|omega|assumption|(simp only [*,or_self,or_true,true_or,or_false,false_or,jf,jg,jd,je,and_self,and_true,true_and];done)|(simp only [*];omega)|(simp [*];done)|(simp [*];omega))] at he|rewrite [if_neg (by first|omega|assumption|(simp only [*,or_self,or_true,true_or,or_false,false_or,jf,jg,jd,je,and_self,and_true,true_and];done)|(simp only [*];omega)|(simp [*];done)|(simp [*];omega))] at he));subst he;((repeat(first|rewrite [if_pos (by first|omega|assumption|(simp only [*,or_self,or_true,true_or,or_false,false_or,jf,jg,jd,je,and_self,and_true,true_and];done)|(simp only [*];omega)|(simp [*];done)|(simp [*];omega))] at hl|rewrite [if_neg (by first|omega|assumption|(simp only [*,or_self,or_true,true_or,or_false,false_or,jf,jg,jd,je,and_self,and_true,true_and];done)|(simp only [*];omega)|(simp [*];done)|(simp [*];omega))] at hl)));subst hl;first|rfl|omega)
def zhW:Know Tryz.prog:=⟨114,Zk,zav⟩
def zhV:Know Tryz.prog:=⟨114,fun I=>zx I (Zk I),zf zav⟩
def SK (I:Alg):KU
 |[.v (.agg [.p (.int .i64 a),.p (.int .i64 b),.p (.str m),.p (.list .byte y),.p (.int .i64 t)])],[]=>(fun(m y:Str)=>(some (.one ⟨I.hid (True),(.ret (.v (.one (.p (.bool (I.hid (b == (y.length:Int)))))))),[]⟩):Option CT)) m y
 |_,_=>none
theorem zjj:zu Tryz.prog 153 (SK alg):=by
 intro args hp r h;unfold SK at h;split at h<;>cases h
 rename_i a b m y t;simp only [CT.Good,zh];intro _
 refine spH Tryz.func153 (by kernel_rfl) { keep:=some [0,1,2]} [] (by kernel_rfl) ?_
 intro I X hI hX
 refine orcL ?_;go_invoke;refine orcS (by kernel_rfl) ?_
 simp only [zi,Nat.reduceAdd];subst hI;simp only [nrmA,nrmB]
 try trivial
def zrK:Know Tryz.prog:=⟨153,SK,zjj⟩
def zrJ:Know Tryz.prog:=⟨153,fun I=>zx I (SK I),zf zjj⟩
def WG (I:Alg):KU
 |[.v (.one (.ptr 0 0)),.v (.one (.p (.int .i64 id)))],[.pack [.obj 106 [.row 1,.p (.int .i64 n)],.row .upl 82 l]]=>(fun(l:List Upl)=>(some (.one ⟨I.hid (zI l n),(.ret (.v (.one (.p (.int .i64 (I.hid (begC l id))))))),[.pack [.obj 106 [.row 1,.p (.int .i64 n)],.row .upl 82 (I.hid (begL l id))]]⟩):Option CT)) l
 |_,_=>none
theorem zfw:zu Tryz.prog 116 (WG alg):=by
 intro args hp r h;unfold WG at h;split at h<;>cases h
 rename_i id n l
 revert l;intro(l:List Upl)
 simp only [CT.Good,zh];intro hneed;have hs:=hneed;have hf:=Xz hs;generalize he:begC l id=re;generalize hl:begL l id=rl
 refine spH Tryz.func116 (by kernel_rfl) { zbt with bare:=[70],keep:=some [0,1,4,5,6]} [zb2,zb1,zrK,zrJ] (by kernel_rfl) ?_
 intro I X hI hX
 refine orcL ?_;go_invoke;refine orcS (by kernel_rfl) ?_
 simp only [zi,Nat.reduceAdd];subst hI;simp only [nrmA,nrmB,nrlB,reduceCtorEq,HO.pack.injEq,HO.obj.injEq];unfold begL at hl;rw [he] at hl;unfold begC at he;unfold yB upl0 at he hl;generalize l.getD (atU l id) ⟨0,0,[],[],0⟩=x at *
 (repeat' (first|refine ja ?_ ?_|intro _))<;>first|omega|exact jb|exact jc ‹False›|skip
 all_goals first
  |exact hf.1
  |((repeat(first|rewrite [if_pos (by first|omega|assumption|(simp only [*,or_self,or_true,true_or,or_false,false_or,jf,jg,jd,je,and_self,and_true,true_and];done)|(simp only [*];omega)|(simp [*];done)|(simp [*];omega))] at he|rewrite [if_neg (by first|omega|assumption|(simp only [*,or_self,or_true,true_or,or_false,false_or,jf,jg,jd,je,and_self,and_true,true_and];done)|(simp only [*];omega)|(simp [*];done)|(simp [*];omega))] at he));subst he;((repeat(first|rewrite [if_pos (by first|omega|assumption|(simp only [*,or_self,or_true,true_or,or_false,false_or,jf,jg,jd,je,and_self,and_true,true_and];done)|(simp only [*];omega)|(simp [*];done)|(simp [*];omega))] at hl|rewrite [if_neg (by first|omega|assumption|(simp only [*,or_self,or_true,true_or,or_false,false_or,jf,jg,jd,je,and_self,and_true,true_and];done)|(simp only [*];omega)|(simp [*];done)|(simp [*];omega))] at hl)));subst hl;first|rfl|omega)
def zoh:Know Tryz.prog:=⟨116,WG,zfw⟩
def zog:Know Tryz.prog:=⟨116,fun I=>zx I (WG I),zf zfw⟩
def zdF (I:Alg):KU
 |[.v (.one (.ptr 0 0)),.v (.one (.p (.int .i64 id)))],[.pack [.obj 106 [.row 1,.p (.int .i64 n)],.row .upl 82 l]]=>(fun(l:List Upl)=>(some (.one ⟨I.hid (zI l n),(.ret (.v (.one (.p (.int .i64 (I.hid (endC l id))))))),[.pack [.obj 106 [.row 1,.p (.int .i64 n)],.row .upl 82 (I.hid (endL l id))]]⟩):Option CT)) l
 |_,_=>none
theorem zoe:zu Tryz.prog 117 (zdF alg):=by
 intro args hp r h;unfold zdF at h;split at h<;>cases h
 rename_i id n l
 revert l;intro(l:List Upl)
 simp only [CT.Good,zh];intro hneed;have hs:=hneed;have hf:=Xz hs;generalize he:endC l id=re;generalize hl:endL l id=rl
 refine spH Tryz.func117 (by kernel_rfl) { zbt with bare:=[70],keep:=some [0,1,4,5,6]} [zb2,zb1] (by kernel_rfl) ?_
 intro I X hI hX
 refine orcL ?_;go_invoke;refine orcS (by kernel_rfl) ?_
 simp only [zi,Nat.reduceAdd];subst hI;simp only [nrmA,nrmB,nrlB,reduceCtorEq,HO.pack.injEq,HO.obj.injEq];unfold endL at hl;rw [he] at hl;unfold endC at he;unfold yB upl0 at he hl;generalize l.getD (atU l id) ⟨0,0,[],[],0⟩=x at *
 (repeat' (first|refine ja ?_ ?_|intro _))<;>first|omega|exact jb|exact jc ‹False›|skip
 all_goals first
  |exact hf.1
  |((repeat(first|rewrite [if_pos (by first|omega|assumption|(simp only [*,or_self,or_true,true_or,or_false,false_or,jf,jg,jd,je,and_self,and_true,true_and];done)|(simp only [*];omega)|(simp [*];done)|(simp [*];omega))] at he|rewrite [if_neg (by first|omega|assumption|(simp only [*,or_self,or_true,true_or,or_false,false_or,jf,jg,jd,je,and_self,and_true,true_and];done)|(simp only [*];omega)|(simp [*];done)|(simp [*];omega))] at he));subst he;((repeat(first|rewrite [if_pos (by first|omega|assumption|(simp only [*,or_self,or_true,true_or,or_false,false_or,jf,jg,jd,je,and_self,and_true,true_and];done)|(simp only [*];omega)|(simp [*];done)|(simp [*];omega))] at hl|rewrite [if_neg (by first|omega|assumption|(simp only [*,or_self,or_true,true_or,or_false,false_or,jf,jg,jd,je,and_self,and_true,true_and];done)|(simp only [*];omega)|(simp [*];done)|(simp [*];omega))] at hl)));subst hl;first|rfl|omega)
def zvo:Know Tryz.prog:=⟨117,zdF,zoe⟩
def zvn:Know Tryz.prog:=⟨117,fun I=>zx I (zdF I),zf zoe⟩
def Rx (I:Alg):KU
 |[.v (.one (.ptr 0 0))],[.pack [.obj 106 [.row 1,.p (.int .i64 n)],.row .upl 82 l]]=>(fun(l:List Upl)=>(some (.one ⟨I.hid (0≤n∧n≤1000000),(.ret (.v (.one (.p (.int .i64 (I.hid (n+1))))))),[.pack [.obj 106 [.row 1,.p (.int .i64 n)],.row .upl 82 l]]⟩):Option CT)) l
 |_,_=>none
theorem zjU:zu Tryz.prog 193 (Rx alg):=by
 intro args hp r h;unfold Rx at h;split at h<;>cases h
 rename_i n l
 revert l;intro(l:List Upl)
 simp only [CT.Good,zh];intro hneed
 refine spH Tryz.func193 (by kernel_rfl) { zbt with keep:=some [0,2]} [] (by kernel_rfl) ?_
 intro I X hI hX
 refine orcL ?_;go_invoke;refine orcS (by kernel_rfl) ?_
 simp only [zi,Nat.reduceAdd];subst hI;simp only [nrmA,nrmB]
 (repeat' (first|refine ja ?_ ?_|intro _))<;>first|omega|exact jb|exact jc ‹False›|skip
def zsg:Know Tryz.prog:=⟨193,Rx,zjU⟩
def zsf:Know Tryz.prog:=⟨193,fun I=>zx I (Rx I),zf zjU⟩
def zdD (I:Alg):KU
 |[],[]=>some (.one ⟨I.hid (True),(.ret (.v (.one (.ptr 0 0)))),[.pack [.obj 106 [.row 1,.p (.int .i64 0)],.row .upl 82 (I.hid ([]))]]⟩)
 |_,_=>none
theorem zob:zu Tryz.prog 36 (zdD alg):=by
 intro args hp r h;unfold zdD at h;split at h<;>cases h
 simp only [CT.Good,zh];intro _
 refine spH Tryz.func36 (by kernel_rfl) { zbt with keep:=some [0]} [] (by kernel_rfl) ?_
 intro I X hI hX
 refine orcL ?_;go_invoke;refine orcS (by kernel_rfl) ?_
 simp only [zi,Nat.reduceAdd];trivial
def zhU:Know Tryz.prog:=⟨36,zdD,zob⟩
def zhT:Know Tryz.prog:=⟨36,fun I=>zx I (zdD I),zf zob⟩
def getB (l:List Upl) (id:Int):Bool:=decide (atU l id<l.length)
def getU (l:List Upl) (id:Int):Upl:=if atU l id<l.length then yB l id else upl0
theorem zt5 (l:List Upl) (n id:Int) (hneed:zI l n):Spc Tryz.prog 53 [.v (.one (.ptr 0 0)),.v (.one (.p (.int .i64 id)))] [.obj 106 [.row 1,.p (.int .i64 n)],.row .upl 82 l] (.ret (.tup [.agg [.p (.int .i64 ((getU l id).id)),.p (.int .i64 ((getU l id).size)),.p (.str ((getU l id).note)),.p (.list .byte ((getU l id).bytes)),.p (.int .i64 ((getU l id).sent))],.one (.p (.bool ((getB l id))))])) [.obj 106 [.row 1,.p (.int .i64 n)],.row .upl 82 l]:=by
 have hs:=hneed;have hf:=Xz hs;generalize he:getU l id=re;obtain⟨a,b,c,d,e⟩:=re;generalize hl:getB l id=rl
 refine spH Tryz.func53 (by kernel_rfl) { zbt with flat:=true,bare:=[70],keep:=some [0,1,4,5,6,7,8]} [ZE,qy,zb2,zb1] (by kernel_rfl) ?_
 intro I X hI hX
 refine orcL ?_;go_invoke;refine orcS (by kernel_rfl) ?_
 simp only [zi,Nat.reduceAdd];subst hI;simp only [nrmA,nrmB,nrlB,reduceCtorEq];unfold getU at he;unfold getB at hl;unfold yB upl0 at he;have hx:atU l id<l.length→_:=fun h=>(hs.each _ (wY h)).bl;unfold yB upl0 at hx;generalize l.getD (atU l id) ⟨0,0,[],[],0⟩=x at *
 by_cases h:atU l id<l.length
 · rw [if_pos h] at he
   rw [decide_eq_true h] at hl;subst he;subst hl;have hx:=hx h
   (repeat' (first|refine ja ?_ ?_|intro _))<;>first|omega|exact jb|exact jc ‹False›|skip
   all_goals first|exact hf.1|rfl
 · rw [if_neg h] at he
   rw [decide_eq_false h] at hl;cases he;subst hl
   (repeat' (first|refine ja ?_ ?_|intro _))<;>first|omega|exact jb|exact jc ‹False›|skip
   all_goals first|exact hf.1|rfl|assumption
def RF (I:Alg):KU
 |[.v (.one (.ptr 0 0)),.v (.one (.p (.int .i64 id)))],[.obj 106 [.row 1,.p (.int .i64 n)],.row .upl 82 l]=>(fun(l:List Upl)=>(some (.one ⟨I.hid (zI l n),(.ret (.tup [.agg [.p (.int .i64 (I.hid ((getU l id).id))),.p (.int .i64 (I.hid ((getU l id).size))),.p (.str (I.hid ((getU l id).note))),.p (.list .byte (I.hid ((getU l id).bytes))),.p (.int .i64 (I.hid ((getU l id).sent)))],.one (.p (.bool (I.hid (getB l id))))])),[.obj 106 [.row 1,.p (.int .i64 n)],.row .upl 82 l]⟩):Option CT)) l
 |_,_=>none
theorem zjW:zu Tryz.prog 53 (RF alg):=by
 intro args hp r h;unfold RF at h
 split at h
 · cases h;exact fun hn=>zt5 _ _ _ hn
 · cases h
def Zj:Know Tryz.prog:=⟨53,RF,zjW⟩
def Zi:Know Tryz.prog:=⟨53,fun I=>zx I (RF I),zf zjW⟩
theorem zyL (l:List Upl) (n id:Int) (hneed:zI l n):Spc Tryz.prog 53 [.v (.one (.ptr 0 0)),.v (.one (.p (.int .i64 id)))] [.pack [.obj 106 [.row 1,.p (.int .i64 n)],.row .upl 82 l]] (.ret (.tup [.agg [.p (.int .i64 ((getU l id).id)),.p (.int .i64 ((getU l id).size)),.p (.str ((getU l id).note)),.p (.list .byte ((getU l id).bytes)),.p (.int .i64 ((getU l id).sent))],.one (.p (.bool ((getB l id))))])) [.pack [.obj 106 [.row 1,.p (.int .i64 n)],.row .upl 82 l]]:=
 Spc.packed (ex:=[]) (zt5 l n id hneed) rfl (by simp) rfl
def zdE (I:Alg):KU
 |[.v (.one (.ptr 0 0)),.v (.one (.p (.int .i64 id)))],[.pack [.obj 106 [.row 1,.p (.int .i64 n)],.row .upl 82 l]]=>(fun(l:List Upl)=>(some (.one ⟨I.hid (zI l n),(.ret (.tup [.agg [.p (.int .i64 (I.hid ((getU l id).id))),.p (.int .i64 (I.hid ((getU l id).size))),.p (.str (I.hid ((getU l id).note))),.p (.list .byte (I.hid ((getU l id).bytes))),.p (.int .i64 (I.hid ((getU l id).sent)))],.one (.p (.bool (I.hid (getB l id))))])),[.pack [.obj 106 [.row 1,.p (.int .i64 n)],.row .upl 82 l]]⟩):Option CT)) l
 |_,_=>none
theorem zod:zu Tryz.prog 53 (zdE alg):=by
 intro args hp r h;unfold zdE at h
 split at h
 · cases h;exact fun hn=>zyL _ _ _ hn
 · cases h
def XC:Know Tryz.prog:=⟨53,zdE,zod⟩
def XB:Know Tryz.prog:=⟨53,fun I=>zx I (zdE I),zf zod⟩
theorem zv6 {l:List Upl} (h:l.Pairwise fun a b=>a.id<b.id) {i:Nat} (hi:i<l.length):getU l (l.getD i ⟨0,0,[],[],0⟩).id=l.getD i ⟨0,0,[],[],0⟩:=by
 have e:l.getD i ⟨0,0,[],[],0⟩=l[i]:=by simp [hi]
 have ha:=zzj h hi;rw [e,getU,ha,if_pos hi,yB,ha]
 simp [hi]
theorem zoc (l:List Upl) (n:Int) (hneed:zI l n):Spc Tryz.prog 39 [.v (.one (.ptr 0 0))] [.obj 106 [.row 1,.p (.int .i64 n)],.row .upl 82 l] (.ret (.v (.one (.row 2)))) [.obj 106 [.row 1,.p (.int .i64 n)],.row .upl 82 l,.row .upl 82 l]:=by
 have hs:=hneed;have hf:=Xz hs
 refine spH Tryz.func39 (by kernel_rfl) { zbt with flat:=true,bare:=[53],nr:=[3],keep:=some [0,2,3,5,6,11,12,13]} [Zj,Zi,XC,XB] (by kernel_rfl) ?_
 intro I X hI hX
 refine orcL ?_;go_invoke;refine orcS (by kernel_rfl) ?_
 simp only [zi,Nat.reduceAdd]
 refine lpH hI [Zj,Zi,XC,XB] hX [0,3,11,12,13] (fun(g:Nat × List Upl)=>match g with|(i,o)=>i≤l.length∧o=l.take i) (fun(g:Nat × List Upl)=>match g with|(i,o)=>⟨[(0,.v (.one (.ptr 0 0))),(3,.v (.one (.row 2))),(11,.v (.one (.row 1))),(12,.v (.one (.p (.int .i64 ((I.len (α:=Upl) l)))))),(13,.v (.one (.p (.int .i64 i))))],[.obj 106 [.row 1,.p (.int .i64 n)],.row .upl 82 l,.row .upl 82 o],30,none⟩) (fun(g:Nat × List Upl)=>match g with|(i,o)=>l.length - i) (0,[]) (by kernel_rfl) (by kernel_rfl) ?_ ?_
 · exact⟨jM _,rfl⟩
 rintro⟨i,o⟩ ⟨h1,h2⟩ A hA;simp only at hA
 refine orcL ?_;go_invoke;refine orcS (by kernel_rfl) ?_
 simp only [zi,Nat.reduceAdd];subst hI;simp only [nrmA,nrmB,nrlB,reduceCtorEq];have hx:i<l.length→_:=zv6 hs.srt
 have hy:i<l.length→l.take (i+1)=l.take i++[l.getD i ⟨0,0,[],[],0⟩]:=fun h=>by rw [jB h];simp [h]
 have hw: ¬ i<l.length→o=l:=fun h=>by rw [h2,jq (by omega)]
 have hol:o.length≤i:=by rw [h2,jv];omega
 refine⟨fun c=> ?_,fun c=>hw (by omega)⟩
 rw [hx (by omega)]
 have hy:=hy (by omega)
 generalize l.getD i ⟨0,0,[],[],0⟩=x at *;simp only [jh,ji]
 (repeat' (first|refine ja ?_ ?_|intro _))<;>first|omega|exact jb|exact jc ‹False›|skip
 all_goals first
  |exact hs
  |exact hA (i+1,_) ⟨by simp only;omega,by simp only;rw [hy,h2]⟩ (by simp only;omega)
def WE (I:Alg):KU
 |[.v (.one (.ptr 0 0))],[.obj 106 [.row 1,.p (.int .i64 n)],.row .upl 82 l]=>(fun(l:List Upl)=>(some (.one ⟨I.hid (zI l n),(.ret (.v (.one (.row 2)))),[.obj 106 [.row 1,.p (.int .i64 n)],.row .upl 82 l,.row .upl 82 l]⟩):Option CT)) l
 |_,_=>none
theorem zfv:zu Tryz.prog 39 (WE alg):=by
 intro args hp r h;unfold WE at h
 split at h
 · cases h;exact fun hn=>zoc _ _ hn
 · cases h
def WC:Know Tryz.prog:=⟨39,WE,zfv⟩
def WB:Know Tryz.prog:=⟨39,fun I=>zx I (WE I),zf zfv⟩
theorem zxa (l:List Upl) (n:Int) (hneed:zI l n):Spc Tryz.prog 39 [.v (.one (.ptr 0 0))] [.pack [.obj 106 [.row 1,.p (.int .i64 n)],.row .upl 82 l]] (.ret (.v (.one (.row 1)))) [.pack [.obj 106 [.row 1,.p (.int .i64 n)],.row .upl 82 l],.row .upl 82 l]:=
 Spc.packed (os':=[_,_]) (ex:=[_]) (zoc l n hneed) rfl (by simp) rfl
def RD (I:Alg):KU
 |[.v (.one (.ptr 0 0))],[.pack [.obj 106 [.row 1,.p (.int .i64 n)],.row .upl 82 l]]=>(fun(l:List Upl)=>(some (.one ⟨I.hid (zI l n),(.ret (.v (.one (.row 1)))),[.pack [.obj 106 [.row 1,.p (.int .i64 n)],.row .upl 82 l],.row .upl 82 l]⟩):Option CT)) l
 |_,_=>none
theorem zjV:zu Tryz.prog 39 (RD alg):=by
 intro args hp r h;unfold RD at h
 split at h
 · cases h;exact fun hn=>zxa _ _ hn
 · cases h
def Rz:Know Tryz.prog:=⟨39,RD,zjV⟩
def Ry:Know Tryz.prog:=⟨39,fun I=>zx I (RD I),zf zjV⟩
def RH (I:Alg):KU
 |[.v (.one (.ptr 0 0))],[.pack [.obj 106 [.row 1,.p (.int .i64 n)],.row .upl 82 l]]=>(fun(l:List Upl)=>(some (.one ⟨I.hid (zI l n),(.ret (.v (.one (.ptr 1 0)))),[.pack [.obj 106 [.row 1,.p (.int .i64 n)],.row .upl 82 l],.pack [.obj 106 [.row 1,.p (.int .i64 n)],.row .upl 82 l]]⟩):Option CT)) l
 |_,_=>none
theorem zjY:zu Tryz.prog 108 (RH alg):=by
 intro args hp r h;unfold RH at h;split at h<;>cases h
 rename_i n l
 revert l;intro(l:List Upl)
 simp only [CT.Good,zh];intro hneed
 refine spH Tryz.func108 (by kernel_rfl) { zbt with keep:=some [0,2]} [WC,WB,Rz,Ry] (by kernel_rfl) ?_
 intro I X hI hX
 refine orcL ?_;go_invoke;refine orcS (by kernel_rfl) ?_
 simp only [zi,Nat.reduceAdd];subst hI;simp only [nrmA,nrmB,nrlB,reduceCtorEq,HO.pack.injEq,HO.obj.injEq];exact⟨hneed,hneed⟩
def zsk:Know Tryz.prog:=⟨108,RH,zjY⟩
def zsj:Know Tryz.prog:=⟨108,fun I=>zx I (RH I),zf zjY⟩
def Rh (I:Alg):KU
 |[.v (.agg [.p (.int .i64 a),.p (.int .i64 b),.p (.str m),.p (.list .byte y),.p (.int .i64 t)]),.v (.one (.ptr 0 0))],[.pack [.obj 3 [.p (.int .i64 d)]]]=>(fun(m y:Str)=>(some (.one ⟨I.hid (True),(.ret (.v (.one (.p (.bool (I.hid (a == d))))))),[.pack [.obj 3 [.p (.int .i64 d)]]]⟩):Option CT)) m y
 |_,_=>none
theorem zjH:zu Tryz.prog 152 (Rh alg):=by
 intro args hp r h;unfold Rh at h;split at h<;>cases h
 rename_i a b m y t d;simp only [CT.Good,zh];intro _
 refine spH Tryz.func152 (by kernel_rfl) { keep:=some [0,1,2,3]} [] (by kernel_rfl) ?_
 intro I X hI hX
 refine orcL ?_;go_invoke;refine orcS (by kernel_rfl) ?_
 simp only [zi,Nat.reduceAdd];subst hI;simp only [nrmA,nrmB,nrlB,reduceCtorEq,HO.pack.injEq,HO.obj.injEq]
def Wv:Know Tryz.prog:=⟨152,Rh,zjH⟩
def zrY:Know Tryz.prog:=⟨152,fun I=>zx I (Rh I),zf zjH⟩
def Rf (I:Alg):KU
 |[.v (.one (.p (.list .upl l))),.v (.one (.fn 152 [.ptr 0 0]))],[.pack [.obj 3 [.p (.int .i64 d)]]]=>(fun(l:List Upl)=>(some (.one ⟨I.hid (l.length≤1000000),(.ret (.v (.one (.p (.int .i64 (I.hid (ixU l d))))))),[.pack [.obj 3 [.p (.int .i64 d)]]]⟩):Option CT)) l
 |_,_=>none
theorem zjG:zu Tryz.prog 89 (Rf alg):=by
 intro args hp r h;unfold Rf at h;split at h<;>cases h
 rename_i l d
 revert l;intro(l:List Upl)
 simp only [CT.Good,zh];intro hneed
 refine spH Tryz.func89 (by kernel_rfl) { keep:=some [0,1,4,5,7,8]} [Wv,Us,Ur] (by kernel_rfl) ?_
 intro I X hI hX
 refine orcL ?_;go_invoke;refine orcS (by kernel_rfl) ?_
 simp only [zi,Nat.reduceAdd]
 refine lpH hI [Wv,Us,Ur] hX [0,1,7,8] (fun(i:Nat)=>i≤l.length∧i≤atU l d) (fun(i:Nat)=>⟨[(0,.v (.one (.p (.list .upl l)))),(1,.v (.one (.fn 152 [.ptr 0 0]))),(7,.v (.one (.p (.int .i64 ((I.len (α:=Upl) l)))))),(8,.v (.one (.p (.int .i64 i))))],[.pack [.obj 3 [.p (.int .i64 d)]]],19,none⟩) (fun(i:Nat)=>l.length - i) 0 (by kernel_rfl) (by kernel_rfl) ?_ ?_
 · exact⟨jM _,jM _⟩
 rintro i ⟨h1,h2⟩ A hA
 refine orcL ?_;go_invoke;refine orcS (by kernel_rfl) ?_
 simp only [zi,Nat.reduceAdd];subst hI;simp only [nrmA,nrmB];have hx:=fun h=>zlW (l:=l) (id:=d) (i:=i) h h2;have hle:=zrm l d;have e0:(⟨0,0,[],[],0⟩:Upl)=upl0:=rfl;simp only [e0];unfold ixU
 (repeat' (first|refine ja ?_ ?_|intro _))<;>first|omega|exact jb|exact jc ‹False›|skip
 all_goals first
  |(have h3:=hx (by omega);rw [if_pos (by assumption)] at h3;rw [if_pos (by omega),h3])
  |(have h3:=hx (by omega);rw [if_neg (by assumption)] at h3;exact hA (i+1) ⟨by omega,h3⟩ (by omega))
  |(rw [if_neg (by omega)])
def zjF:Know Tryz.prog:=⟨89,Rf,zjG⟩
def zjE:Know Tryz.prog:=⟨89,fun I=>zx I (Rf I),zf zjG⟩
def notU (d:Int) (u:Upl):Bool:= !(u.id == d)
def Ri (I:Alg):KU
 |[.v (.one (.row 0)),.v (.one (.fn 152 [.ptr 1 0]))],[.row .upl 82 l,.pack [.obj 3 [.p (.int .i64 d)]]]=>(fun(l:List Upl)=>(some (.one ⟨I.hid (l.length≤1000000),(.ret (.v (.one (.row 2)))),[.gone,.pack [.obj 3 [.p (.int .i64 d)]],.row .upl 82 (I.hid (l.filter (notU d)))]⟩):Option CT)) l
 |_,_=>none
theorem zjI:zu Tryz.prog 151 (Ri alg):=by
 intro args hp r h;unfold Ri at h;split at h<;>cases h
 rename_i l d
 revert l;intro(l:List Upl)
 simp only [CT.Good,zh];intro hneed
 refine spH Tryz.func151 (by kernel_rfl) { mv:=[0],cut:=[4],keep:=some [0,1,4,5,6,7]} [Wv,Us,Ur,zjF,zjE] (by kernel_rfl) ?_
 intro I X hI hX
 refine orcL ?_;go_invoke;refine orcS (by kernel_rfl) ?_
 simp only [zi,Nat.reduceAdd]
 have hfd: ∀ i,i≤atU l d→(l.take i).filter (notU d)=l.take i:=fun i hi=>List.filter_eq_self.2 fun u hu=>by
  obtain⟨j,hj⟩:=List.getElem?_of_mem hu;rw [jD] at hj
  split at hj
  · rename_i hji
    obtain⟨hjl,he⟩:=jl.1 hj
    have:=List.not_of_lt_findIdx (p:=fun u:Upl=>u.id == d) (xs:=l) (i:=j) (by unfold atU at hi;omega)
    rw [← he]
    simpa [notU] using this
  · cases hj
 by_cases hk:atU l d<l.length
 · have hix:=zpK hk
   have e1:I.hid (ixU l d)=((atU l d:Nat):Int):=by subst hI;exact hix
   have e2:I.add ((atU l d:Nat):Int) 1=((atU l d+1:Nat):Int):=by subst hI;rfl
   rw [e1,e2]
   have hst:(l.take (atU l d+1)).filter (notU d)=l.take (atU l d):=by
    rw [jB hk,List.filter_append,hfd _ (jL _)];have:=SL hk;rw [wI hk] at this
    simp [notU,this]
   have hu0:=SL hk;generalize atU l d=k at *
   refine⟨by subst hI;exact hneed,fun h=> ?_,fun _=>⟨by subst hI;rw [XV,Yl,Ym];omega,?_⟩⟩
   · subst hI
     simp only [nrmA,nrmB] at h;omega
   refine lpH hI [Wv,Us,Ur,zjF,zjE] hX [0,1,5,6] (fun(g:Nat × Nat × List Upl)=>match g with|(i,j,c)=>i<j∧j≤l.length∧c.length=l.length∧c.take i=(l.take j).filter (notU d)∧c.drop j=l.drop j) (fun(g:Nat × Nat × List Upl)=>match g with|(i,j,c)=>⟨[(0,.v (.one (.row 2))),(1,.v (.one (.fn 152 [.ptr 1 0]))),(5,.v (.one (.p (.int .i64 i)))),(6,.v (.one (.p (.int .i64 j))))],[.gone,.pack [.obj 3 [.p (.int .i64 d)]],.row .upl 82 c],42,none⟩) (fun(g:Nat × Nat × List Upl)=>match g with|(i,j,c)=>l.length - j) (k,k+1,l) (by kernel_rfl) (by kernel_rfl) ?_ ?_
   · exact⟨by omega,by omega,rfl,hst.symm,rfl⟩
   rintro⟨i,j,c⟩ ⟨h1,h2,h3,h4,h5⟩ A hA;simp only at hA h1 h2 h3 h4 h5
   refine orcL ?_;go_invoke;refine orcS (by kernel_rfl) ?_
   simp only [zi,Nat.reduceAdd];subst hI;simp only [nrmA,nrmB,nrlB,reduceCtorEq]
   have hx:j<l.length→c.getD j ⟨0,0,[],[],0⟩=l.getD j ⟨0,0,[],[],0⟩:=fun h=>by
    have e:=congrArg (fun m:List Upl=>m[0]?) h5;simp only [jG,Nat.add_zero] at e;simp only [jH,e]
   have hf:j<l.length→(l.take (j+1)).filter (notU d)=(l.take j).filter (notU d)++(if notU d (l.getD j ⟨0,0,[],[],0⟩) then [l.getD j ⟨0,0,[],[],0⟩] else []):=fun h=>by
    rw [jB h,List.filter_append]
    simp [h,List.filter_cons]
   have hdr: ∀ c':List Upl,c'.drop j=l.drop j→c'.drop (j+1)=l.drop (j+1):=fun c' h=>by
    have:=congrArg (List.drop 1) h
    simpa [List.drop_drop] using this
   have hend: ¬ j<l.length→c.take i=l.filter (notU d):=fun h=>by rw [h4,jq (by omega)]
   rw [show(c.length:Int)=(l.length:Int) by rw [h3]]
   have hset: ∀ u:Upl,i<c.length→(c.set i u).take (i+1)=c.take i++[u]:=fun u h=>by
    rw [jB (by rw [List.length_set];exact h),List.getElem_set_self,List.take_set_of_le (jL _)]
   have hsd: ∀ u:Upl,(c.set i u).drop j=l.drop j:=fun u=>by rw [List.drop_set_of_lt h1,h5]
   refine⟨fun c1=> ?_,fun c1=> ?_⟩
   · have hj:j<l.length:=by omega
     rw [hx hj];have hf:=hf hj;generalize l.getD j ⟨0,0,[],[],0⟩=x at *
     (repeat' (first|refine ja ?_ ?_|intro _))<;>first|omega|exact jb|exact jc ‹False›|skip
     · rename_i hne
       refine hA (i+1,j+1,c.set i x) ⟨by simp only;omega,by simp only;omega,by simp only [List.length_set];exact h3,?_,hdr _ (hsd x)⟩ (by simp only;omega)
       simp only
       rw [hset x (by omega),hf,if_pos (by simp [notU,hne]),h4]
     · rename_i heq
       refine hA (i,j+1,c) ⟨by simp only;omega,by simp only;omega,h3,?_,hdr _ h5⟩ (by simp only;omega)
       simp only
       rw [hf,if_neg (by simp [notU,heq]),List.append_nil,h4]
   · have he:=hend (by omega)
     have hl:(c.take i).length=i:=by rw [jv];omega
     (repeat' (first|refine ja ?_ ?_|intro _))<;>first|omega|exact jb|exact jc ‹False›|skip
     all_goals first
      |(simp only [jk,jv,List.length_replicate];omega)
      |(rw [List.take_append_of_le_length (by omega),List.take_take,Nat.min_self,he])
 · have hix:=zpL hk
   have e1:I.hid (ixU l d)=(-1:Int):=by subst hI;exact hix
   rw [e1]
   have hall:l.filter (notU d)=l:=by
    have:=hfd l.length (by have:=zrm l d;omega)
    rwa [List.take_length] at this
   rw [hall]
   refine⟨by subst hI;exact hneed,fun _=>⟨trivial,rfl⟩,fun h=> ?_⟩
   subst hI
   simp [alg] at h
def zr0:Know Tryz.prog:=⟨151,Ri,zjI⟩
def zrZ:Know Tryz.prog:=⟨151,fun I=>zx I (Ri I),zf zjI⟩
def RG (I:Alg):KU
 |[.v (.one (.ptr 0 0)),.v (.one (.p (.int .i64 id)))],[.pack [.obj 106 [.row 1,.p (.int .i64 n)],.row .upl 82 l]]=>(fun(l:List Upl)=>(some (.one ⟨I.hid (zI l n),(.ret (.v (.one (.p (.int .i64 (I.hid (droC l id))))))),[.pack [.obj 106 [.row 1,.p (.int .i64 n)],.row .upl 82 (I.hid (droL l id))]]⟩):Option CT)) l
 |_,_=>none
theorem zjX:zu Tryz.prog 115 (RG alg):=by
 intro args hp r h;unfold RG at h;split at h<;>cases h
 rename_i id n l
 revert l;intro(l:List Upl)
 simp only [CT.Good,zh];intro hneed;have hs:=hneed;have hf:=Xz hs;have hfl:l.filter (notU id)=droL l id:=zqo hs.srt id;generalize he:droC l id=re;generalize hl:droL l id=rl at hfl
 refine spH Tryz.func115 (by kernel_rfl) { zbt with bare:=[70],keep:=some [0,1,3,4,6]} [zb2,zb1,Wv,zrY,zr0,zrZ] (by kernel_rfl) ?_
 intro I X hI hX
 refine orcL ?_;go_invoke;refine orcS (by kernel_rfl) ?_
 simp only [zi,Nat.reduceAdd];subst hI;simp only [nrmA,nrmB,nrlB,reduceCtorEq,HO.pack.injEq,HO.obj.injEq];unfold droC at he
 (repeat' (first|refine ja ?_ ?_|intro _))<;>first|omega|exact jb|exact jc ‹False›|skip
 all_goals first
  |exact hf.1
  |exact hfl
  |((repeat(first|rewrite [if_pos (by first|omega|assumption|(simp only [*,or_self,or_true,true_or,or_false,false_or,jf,jg,jd,je,and_self,and_true,true_and];done)|(simp only [*];omega)|(simp [*];done)|(simp [*];omega))] at he|rewrite [if_neg (by first|omega|assumption|(simp only [*,or_self,or_true,true_or,or_false,false_or,jf,jg,jd,je,and_self,and_true,true_and];done)|(simp only [*];omega)|(simp [*];done)|(simp [*];omega))] at he));subst he;rfl)
  |(rw [← hl];unfold droL;rw [List.eraseIdx_of_length_le (by omega)])
def zsi:Know Tryz.prog:=⟨115,RG,zjX⟩
def zsh:Know Tryz.prog:=⟨115,fun I=>zx I (RG I),zf zjX⟩
end Go.Proofs.YtnpmenpjagcheaaGreatDoor
namespace Go.Jrn
open Go Go.Ab
def sevF:Nat→Nat→Str
 |0,u=>[UInt8.ofNat u]
 |f+1,u=>if u<128 then [UInt8.ofNat u] else UInt8.ofNat (u % 128+128)::sevF f (u / 128)
def sev (u:Nat):Str:=sevF 9 u
theorem zfq: ∀ (f u:Nat),u<128 ^ (f+1)→∀ g,f≤g→sevF g u=sevF f u
 | 0,u,h,g,_=>by
   cases g with
   |zero=>rfl
   |succ g=>simp only [sevF];rw [if_pos (by simpa using h)]
 | f +1,u,h,g,hg=>by
   cases g with
   |zero=>omega
   | succ g=>
     rw [sevF,sevF]
     split
     · rfl
     · rw [zfq f (u / 128) (by rw [Nat.div_lt_iff_lt_mul (by omega)];rw [Nat.pow_succ] at h;exact h) g (by omega)]
theorem zfp {u:Nat} (h:u<128):sev u=[UInt8.ofNat u]:=by rw [sev,sevF,if_pos h]
theorem zn1 {u:Nat} (h:128≤u) (hu:u<128 ^ 9):sev u=UInt8.ofNat (u % 128+128)::sev (u / 128):=by
 rw [sev,sevF,if_neg (by omega),sev,zfq 8 (u / 128) (Nat.lt_of_le_of_lt (Nat.div_le_self _ _) hu) 9 (by omega)]
theorem vw (u:Nat):1≤(sev u).length∧(sev u).length≤10:=by
 have h: ∀ f u,1≤(sevF f u).length∧(sevF f u).length≤f+1:=by
  intro f
  induction f with
  |zero=>intro u;exact⟨jL _,jL _⟩
  | succ f ih=>
    intro u;rw [sevF]
    split
    · simp
    · have:=ih (u / 128);simp;omega
 exact h 9 u
def numF (i u:Nat):Str→Int × Str × Bool
 |[]=>(0,[],false)
 | c::r=>if 5≤i then(0,[],false) else
   if c.toNat<128 then((u+c.toNat * 128 ^ i:Nat) - 1,r,decide (i=0∨0<c.toNat)) else numF (i+1) (u+c.toNat % 128 * 128 ^ i) r
def num (b:Str):Int × Str × Bool:=numF 0 0 b
def numK (i:Nat):Str→Nat
 |[]=>i
 |c::r=>if 5≤i then i else if c.toNat<128 then i+1 else numK (i+1) r
theorem zfW (b:Str): ∀ (i u:Nat) (l:Str),b.drop i=l→(numF i u l).2.2=true→(numF i u l).2.1=b.drop (numK i l)∧i<numK i l
 |i,u,[],h,ht=>by simp [numF] at ht
 | i, u,c::r,h,ht=>by
   rw [numF] at ht ⊢;rw [numK]
   split at ht
   · cases ht
   · rename_i h5
     rw [if_neg h5,if_neg h5]
     have hr:b.drop (i+1)=r:=by rw [← List.drop_drop,h];rfl
     split
     · rename_i hc;rw [if_pos hc] at ht;exact⟨hr.symm,by omega⟩
     · rename_i hc
       rw [if_neg hc] at ht;have:=zfW b (i+1) _ r hr ht
       exact⟨this.1,by omega⟩
theorem zpi {b:Str} {i:Nat} (u:Nat) (h:i<b.length) (h5:i<5):numF i u (b.drop i)=
  if(b.getD i 0).toNat<128 then(((u+(b.getD i 0).toNat * 128 ^ i:Nat):Int) - 1,b.drop (i+1),decide (i=0∨0<(b.getD i 0).toNat)) else numF (i+1) (u+(b.getD i 0).toNat % 128 * 128 ^ i) (b.drop (i+1)):=by
 rw [jE h,numF,if_neg (by omega)]
 have:b.getD i 0=b[i]:=by simp [h]
 rw [this]
theorem zsM {b:Str} {i:Nat} (u:Nat) (h:b.length≤i∨5≤i):numF i u (b.drop i)=(0,[],false):=by
 cases hd:b.drop i with
 |nil=>rfl
 | cons c r=>
   have:i<b.length:=by
    rcases Nat.lt_or_ge i b.length with h1|h1
    · exact h1
    · rw [jF h1] at hd;cases hd
   rw [numF,if_pos (by omega)]
def few (n:Int):Bool:=decide (-1≤n)&&decide (n<1073741824)
def mayM (e:Ent):Bool:=decide (1≤e.kind)&&decide (e.kind≤6)&&few e.id&&few e.n&&decide (e.text.length<1048576)
def enc3 (e:Ent):Str:=sev (e.kind+1).toNat++sev (e.id+1).toNat++sev (e.n+1).toNat++e.text
def encB (e:Ent):Str:=sev ((enc3 e).length+1)++enc3 e
def encM (e:Ent):Str:=if mayM e then encB e else []
def encC (e:Ent):Int:=if mayM e then 0 else 1
def three (b:Str):Option (Int × Int × Int × Str):=
 match num b with
 | (k,r,true)=>(match num r with
   | (i,r,true)=>(match num r with
     |(n,r,true)=>some (k,i,n,r)
     |_=>none)
   |_=>none)
 |_=>none
def thr (j:Nat) (a b c:Int) (s:Str):Option (Int × Int × Int × Str):=
 match j with
 |0=>three s
 | 1 =>(match num s with
   | (i,r,true)=>(match num r with
     |(n,r,true)=>some (a,i,n,r)
     |_=>none)
   |_=>none)
 | 2=>(match num s with
   |(n,r,true)=>some (a,b,n,r)
   |_=>none)
 |_=>some (a,b,c,s)
def oneX (b:Str):Ent × Str × Bool:=
 match num b with
 | (n,r,true)=>if n<0∨(r.length:Int)<n then(⟨0,0,0,[]⟩,[],false) else
   match three (r.take n.toNat) with
   |some (k,i,m,t)=>(⟨k,i,m,t⟩,r.drop n.toNat,mayM ⟨k,i,m,t⟩)
   |none=>(⟨0,0,0,[]⟩,[],false)
 |_=>(⟨0,0,0,[]⟩,[],false)
def oneM (b:Str):Option (Ent × Str):=if(oneX b).2.2 then some ((oneX b).1,(oneX b).2.1) else none
def decF:Nat→Str→List Ent × Str
 |0,b=>([],b)
 | f+1,b=>match oneM b with
   |some (e,r)=>(e::(decF f r).1,(decF f r).2)
   |none=>([],b)
def dec (b:Str):List Ent × Str:=decF b.length b
theorem zaO {b:Str} (h:(num b).2.2=true):(num b).2.1.length<b.length:=by
 obtain⟨h1,h2⟩:=zfW b 0 0 b rfl h;rw [num,h1,jC]
 cases b with
 |nil=>simp [num,numF] at h
 |cons c r=>simp;omega
theorem zpj: ∀ (l:Str) (i u:Nat),(numF i u l).2.1.length≤l.length
 |[],i,u=>jL _
 | c ::r,i,u=>by
   rw [numF]
   split
   · simp
   · split
     · simp
     · have:=zpj r (i+1) (u+c.toNat % 128 * 128 ^ i);simp;omega
theorem zaP (b:Str):(num b).2.1.length≤b.length:=zpj b 0 0
theorem zpf {b:Str} (h:(oneX b).2.2=true):(oneX b).2.1.length<b.length:=by
 unfold oneX at h ⊢
 split at h
 · rename_i n r0 hn
   have:=zaO (b:=b) (by rw [hn])
   rw [hn] at this;simp only at this
   split at h
   · cases h
   · rename_i hc
     rw [if_neg hc]
     split at h
     · rename_i ht;simp only [ht];simp;omega
     · cases h
 · cases h
theorem zd5 {b:Str} {e:Ent} {r:Str} (h:oneM b=some (e,r)):r.length<b.length:=by
 unfold oneM at h
 split at h
 · rename_i hx
   simp only [jw,Prod.mk.injEq] at h;rw [← h.2];exact zpf hx
 · cases h
theorem zhm: ∀ (f:Nat) (b:Str),b.length≤f→∀ g,b.length≤g→decF f b=decF g b
 | 0,b,h,g,hg=>by
   have:b=[]:=List.eq_nil_of_length_eq_zero (by omega)
   subst this
   cases g with
   |zero=>rfl
   |succ g=>rfl
 | f + 1,b,h,g,hg=>by
   cases g with
   | zero=>
     have:b=[]:=List.eq_nil_of_length_eq_zero (by omega)
     subst this;rfl
   | succ g=>
     rw [decF,decF]
     cases ho:oneM b with
     |none=>rfl
     | some p=>
       obtain⟨e,r⟩:=p;have:=zd5 ho;simp only
       rw [zhm f r (by omega) g (by omega)]
theorem zlw {b:Str} {e:Ent} {r:Str} (h:oneM b=some (e,r)):dec b=(e::(dec r).1,(dec r).2):=by
 have hl:=zd5 h
 obtain⟨n,hn⟩: ∃ n,b.length=n+1:=⟨b.length - 1,by omega⟩
 unfold dec;rw [hn,decF,h];simp only
 rw [zhm n r (by omega) r.length (jL _)]
theorem zlx {b:Str} (h:oneM b=none):dec b=([],b):=by
 unfold dec
 cases b with
 |nil=>rfl
 |cons c r=>rw [jh,decF,h]
theorem zly: ∀ (f:Nat) (b:Str),(decF f b).1.length+(decF f b).2.length≤b.length
 |0,b=>by simp [decF]
 | f +1,b=>by
   rw [decF]
   cases ho:oneM b with
   |none=>simp
   | some p=>
     obtain⟨e,r⟩:=p;have:=zd5 ho;have:=zly f r;simp only [jh];omega
theorem zqO (b:Str):(dec b).1.length+(dec b).2.length≤b.length:=zly _ b
end Go.Jrn
namespace Go.Proofs.YtnpmenpjagcheaaGreatDoor
open Go Go.Sep Go.Ab Go.Jrn
set_option maxRecDepth 100000
theorem zyZ: ∀ u:Nat,u<256→IntKind.u8.wrap ((BitVec.ofInt IntKind.u8.bits (u:Int)|||BitVec.ofInt IntKind.u8.bits 128).toNat:Int)=((u % 128+128:Nat):Int):=by decide+kernel
theorem zyz: ∀ u:Nat,u<256→IntKind.u8.wrap ((BitVec.ofInt IntKind.u8.bits (u:Int)&&& BitVec.ofInt IntKind.u8.bits 127).toNat:Int)=((u % 128:Nat):Int):=by decide+kernel
theorem wrap_u8 (u:Nat):IntKind.u8.wrap (u:Int)=((u % 256:Nat):Int):=by
 unfold IntKind.wrap
 simp only [show IntKind.u8.signed=false by decide,show IntKind.u8.bits=8 by decide,Bool.false_and,jd,if_false]
 show(u:Int) % 256=_
 omega
theorem wrap_i64 (u:Int) (h: -9223372036854775808≤u∧u≤9223372036854775807):IntKind.i64.wrap u=u:=Ul (k:=.i64) (by rw [XV,Yl,Ym];exact h)
theorem wrap_u64 (u:Int) (h:0≤u∧u≤9223372036854775807):IntKind.u64.wrap u=u:=Ul (k:=.u64) (by
 rw [XV,show IntKind.u64.min=0 by decide,show IntKind.u64.max=18446744073709551615 by decide];omega)
theorem zxy (u x i:Nat) (hu:u<2 ^ (7 * i)) (hx:x<128) (hi:i≤4):
  IntKind.i64.wrap ((BitVec.ofInt IntKind.i64.bits (u:Int)|||BitVec.ofInt IntKind.i64.bits ((x * 2 ^ (7 * i):Nat):Int)).toNat:Int)=((u+x * 2 ^ (7 * i):Nat):Int):=by
 have h2:2 ^ (7 * i)≤2 ^ 28:=Nat.pow_le_pow_right (by omega) (by omega)
 have h3:x * 2 ^ (7 * i)≤127 * 2 ^ 28:=Nat.mul_le_mul (by omega) h2
 have e:(BitVec.ofInt IntKind.i64.bits (u:Int)|||BitVec.ofInt IntKind.i64.bits ((x * 2 ^ (7 * i):Nat):Int)).toNat=u+x * 2 ^ (7 * i):=by
  rw [BitVec.toNat_or,BitVec.ofInt_natCast,BitVec.ofInt_natCast,BitVec.toNat_ofNat,BitVec.toNat_ofNat,show IntKind.i64.bits=64 by decide,
   Nat.mod_eq_of_lt (show u<2 ^ 64 by omega),Nat.mod_eq_of_lt (show x * 2 ^ (7 * i)<2 ^ 64 by omega),Nat.or_comm,← Nat.shiftLeft_eq,← Nat.shiftLeft_add_eq_or_of_lt hu,Nat.add_comm]
 rw [e,wrap_i64];omega
theorem shr7 (u:Nat):(u:Int).fdiv (2 ^ min (Int.toNat 7) 64)=((u / 128:Nat):Int):=by
 show(u:Int).fdiv 128=_
 rw [Int.fdiv_eq_ediv_of_nonneg _ (by decide)]
 omega
def zkj (I:Alg):KU
 |[.v (.one (.row 0)),.v (.one (.p (.int .i64 n)))],[.row .byte 5 l]=>(fun(l:Str)=>(some (.one ⟨I.hid (-1≤n∧n<34359738368∧l.length≤50000000),(.ret (.v (.one (.row 1)))),[.gone,.row .byte 5 (I.hid (l++sev (n+1).toNat))]⟩):Option CT)) l
 |_,_=>none
theorem zue:zu Tryz.prog 146 (zkj alg):=by
 intro args hp r h;unfold zkj at h;split at h<;>cases h
 rename_i n l;simp only [CT.Good,zh];intro hneed
 refine spH Tryz.func146 (by kernel_rfl) { mv:=[0],keep:=some [0,1,4,5]} [] (by kernel_rfl) ?_
 intro I X hI hX
 refine orcL ?_;go_invoke;refine orcS (by kernel_rfl) ?_
 simp only [zi,Nat.reduceAdd]
 refine⟨(by rw [hI];simp only [nrmA,nrmB];omega),?_⟩
 refine lpH hI [] hX [0,5] (fun(g:Str × Int)=>match g with|(m,u)=>0≤u∧u<68719476736∧m++sev u.toNat=l++sev (n+1).toNat) (fun(g:Str × Int)=>match g with|(m,u)=>⟨[(0,.v (.one (.row 1))),(5,.v (.one (.p (.int .u64 u))))],[.gone,.row .byte 5 m],24,none⟩) (fun(g:Str × Int)=>match g with|(m,u)=>u.toNat) (l,I.wrap .u64 (I.add n 1)) (by kernel_rfl) (by kernel_rfl) ?_ ?_
 · subst hI
   simp only;simp only [nrmA,nrmB]
   rw [wrap_u64 _ (by omega)]
   exact⟨by omega,by omega,rfl⟩
 rintro⟨m,u⟩ ⟨h0,h1,h2⟩ A hA;obtain⟨u,rfl⟩:=Int.eq_ofNat_of_zero_le h0;simp only [jJ] at h2;simp only at hA;generalize hu':(u:Int)=u' at *
 refine orcL ?_;go_invoke;refine orcS (by kernel_rfl) ?_
 simp only [zi,Nat.reduceAdd];subst hI hu';simp only [nrmA,nrmB];have hml:=congrArg List.length h2;have hs1:=vw u;have hs2:=vw (n+1).toNat;simp only [jk] at hml
 have hu8:u % 256 % 128=u % 128:=by omega
 rw [wrap_u8 u,zyZ _ (by omega),shr7,hu8,jJ,jJ]
 have h64:((IntKind.u64.bits:Nat):Int)=64:=by decide
 simp only [jh,ji,h64]
 (repeat' (first|refine ja ?_ ?_|intro _))<;>first|omega|exact jb|exact jc ‹False›|skip
 · have hb:=zn1 (u:=u) (by omega) (by omega)
   refine hA (m++[UInt8.ofNat (u % 128+128)],(u / 128:Nat)) ⟨by omega,by omega,?_⟩ (by simp only;omega)
   rw [jJ,← h2,hb,jo];rfl
 · rw [← h2,zfp (by omega),show u % 256=u by omega]
def zua:Know Tryz.prog:=⟨146,zkj,zue⟩
def zt9:Know Tryz.prog:=⟨146,fun I=>zx I (zkj I),zf zue⟩
def zle (I:Alg):KU
 |[.v (.one (.p (.int .i64 n)))],[]=>some (.one ⟨I.hid (True),(.ret (.v (.one (.p (.bool (I.hid (few n))))))),[]⟩)
 |_,_=>none
theorem zuF:zu Tryz.prog 183 (zle alg):=by
 intro args hp r h;unfold zle at h;split at h<;>cases h
 rename_i n;simp only [CT.Good,zh];intro _
 refine spH Tryz.func183 (by kernel_rfl) { keep:=some [0,2]} [] (by kernel_rfl) ?_
 intro I X hI hX
 refine orcL ?_;go_invoke;refine orcS (by kernel_rfl) ?_
 simp only [zi,Nat.reduceAdd];subst hI;simp only [nrmA,nrmB];unfold few
 (repeat' (first|refine ja ?_ ?_|intro _))<;>first|omega|exact jb|exact jc ‹False›|skip
 · simp [*]
 · simp [*]
def zxZ:Know Tryz.prog:=⟨183,zle,zuF⟩
def zxY:Know Tryz.prog:=⟨183,fun I=>zx I (zle I),zf zuF⟩
def zkF (I:Alg):KU
 |[.v (.agg [.p (.int .i64 k),.p (.int .i64 i),.p (.int .i64 n),.p (.list .byte t)])],[]=>(fun(t:Str)=>(some (.one ⟨I.hid (True),(.ret (.v (.one (.p (.bool (I.hid (mayM ⟨k,i,n,t⟩))))))),[]⟩):Option CT)) t
 |_,_=>none
theorem zuq:zu Tryz.prog 145 (zkF alg):=by
 intro args hp r h;unfold zkF at h;split at h<;>cases h
 rename_i k i n t;simp only [CT.Good,zh];intro _
 refine spH Tryz.func145 (by kernel_rfl) { keep:=some [0,1,2,3]} [zxZ,zxY] (by kernel_rfl) ?_
 intro I X hI hX
 refine orcL ?_;go_invoke;refine orcS (by kernel_rfl) ?_
 simp only [zi,Nat.reduceAdd];subst hI;simp only [nrmA,nrmB];unfold mayM
 (repeat' (first|refine ja ?_ ?_|intro _))<;>first|omega|exact jb|exact jc ‹False›|skip
 all_goals simp [*]<;>omega
def zkE:Know Tryz.prog:=⟨145,zkF,zuq⟩
def zkD:Know Tryz.prog:=⟨145,fun I=>zx I (zkF I),zf zuq⟩
def zkX (I:Alg):KU
 |[.v (.one (.p (.list .byte b)))],[]=>(fun(b:Str)=>(some (.one ⟨I.hid (True),(.ret (.tup [.one (.p (.int .i64 (I.hid ((num b).1)))),.one (.p (.list .byte (I.hid ((num b).2.1)))),.one (.p (.bool (I.hid ((num b).2.2))))])),[]⟩):Option CT)) b
 |_,_=>none
theorem zuA:zu Tryz.prog 148 (zkX alg):=by
 intro args hp r h;unfold zkX at h;split at h<;>cases h
 rename_i b;simp only [CT.Good,zh];intro _
 refine spH Tryz.func148 (by kernel_rfl) { rl:=[1],keep:=some [0,2,3,4,5,6,9,10]} [] (by kernel_rfl) ?_
 intro I X hI hX
 refine orcL ?_;go_invoke;refine orcS (by kernel_rfl) ?_
 simp only [zi,Nat.reduceAdd];generalize hr:num b=r;obtain⟨r1,r2,r3⟩:=r
 refine lpH hI [] hX [0,5,9,10] (fun(g:Nat × Int)=>match g with|(i,u)=>i≤b.length∧i≤5∧0≤u∧u<(128 ^ i:Nat)∧numF i u.toNat (b.drop i)=num b) (fun(g:Nat × Int)=>match g with|(i,u)=>⟨[(0,.v (.one (.p (.list .byte b)))),(5,.v (.one (.p (.int .i64 u)))),(9,.v (.one (.p (.int .i64 ((I.imin (I.len (α:=UInt8) b) 5)))))),(10,.v (.one (.p (.int .i64 i))))],[],45,none⟩) (fun(g:Nat × Int)=>match g with|(i,u)=>b.length - i) (0,0) (by kernel_rfl) (by kernel_rfl) ?_ ?_
 · exact⟨jM _,by omega,Int.le_refl _,by simp,rfl⟩
 rintro⟨i,u⟩ ⟨h1,h2,h3,h4,h6⟩ A hA;simp only at hA
 refine orcL ?_;go_invoke;refine orcS (by kernel_rfl) ?_
 simp only [zi,Nat.reduceAdd];subst hI;simp only [nrmA,nrmB,nrlB,reduceCtorEq];obtain⟨u,rfl⟩:=Int.eq_ofNat_of_zero_le h3;rw [jJ] at h6;have hs1:=fun(h:i<b.length) (h':i<5)=>zpi u h h';generalize hc:(b.getD i 0).toNat=c at hs1 ⊢
 have hc256:c<256:=by rw [← hc];exact UInt8.toNat_lt _
 have hlim:((i:Int)<if((b.length:Nat):Int)≤5 then((b.length:Nat):Int) else 5)↔(i<b.length∧i<5):=by split<;>omega
 have hbits:IntKind.i64.bits=64:=by decide
 have hpw:2 ^ (7 * i)=128 ^ i:=by rw [Nat.pow_mul]
 have hq:i<5→128 ^ i≤128 ^ 4:=fun h=>Nat.pow_le_pow_right (by omega) (by omega)
 have e1:i<5→IntKind.i64.wrap (IntKind.u8.wrap ((BitVec.ofInt IntKind.u8.bits (c:Int)&&& BitVec.ofInt IntKind.u8.bits 127).toNat:Int)) * 2 ^ min (7 * (i:Int)).toNat IntKind.i64.bits=((c % 128 * 2 ^ (7 * i):Nat):Int):=by
  intro h5
  rw [zyz c hc256,wrap_i64 _ (by omega),hbits,show min (7 * (i:Int)).toNat 64=7 * i by omega]
  exact(Int.natCast_mul _ _).symm
 rw [hlim]
 have hW:i<5→∀ W,IntKind.i64.wrap ((BitVec.ofInt IntKind.i64.bits (u:Int)|||BitVec.ofInt IntKind.i64.bits (IntKind.i64.wrap (IntKind.i64.wrap (IntKind.u8.wrap ((BitVec.ofInt IntKind.u8.bits (c:Int)&&& BitVec.ofInt IntKind.u8.bits 127).toNat:Int)) * 2 ^ min (7 * (i:Int)).toNat IntKind.i64.bits))).toNat:Int)=W→W=((u+c % 128 * 128 ^ i:Nat):Int):=by
  intro h5 W h
  have hm:c % 128 * 2 ^ (7 * i)≤127 * 2 ^ (7 * i):=Nat.mul_le_mul_right _ (by omega)
  have h2:2 ^ (7 * i)≤2 ^ 28:=Nat.pow_le_pow_right (by omega) (by omega)
  rw [e1 h5,wrap_i64 ((c % 128 * 2 ^ (7 * i):Nat):Int) (by omega),zxy u (c % 128) i (by rw [hpw];omega) (by omega) (by omega),hpw] at h
  exact h.symm
 generalize hWd:IntKind.i64.wrap ((BitVec.ofInt IntKind.i64.bits (u:Int)|||BitVec.ofInt IntKind.i64.bits (IntKind.i64.wrap (IntKind.i64.wrap (IntKind.u8.wrap ((BitVec.ofInt IntKind.u8.bits (c:Int)&&& BitVec.ofInt IntKind.u8.bits 127).toNat:Int)) * 2 ^ min (7 * (i:Int)).toNat IntKind.i64.bits))).toNat:Int)=W at hW ⊢
 have hW:=fun h=>hW h W rfl;have hp:128 ^ (i+1)=128 ^ i * 128:=Nat.pow_succ ..;have hend:=zsM (b:=b) (i:=i) u;have hr':=hr;rw [← h6] at hr';generalize hQ:128 ^ i=Q at *
 have hm:c % 128 * Q≤127 * Q:=Nat.mul_le_mul_right _ (by omega)
 have hcm:c<128→c * Q=c % 128 * Q:=fun h=>by rw [Nat.mod_eq_of_lt h]
 generalize hX:c % 128 * Q=X at *
 have hcut:List.take (List.length b - ((i:Int)+1).toNat) (List.drop ((i:Int)+1).toNat b)=b.drop (i+1):=by
  rw [show((i:Int)+1).toNat=i+1 by omega,jq (by simp)]
 rw [hcut]
 have hfin: ¬ (i<b.length∧i<5)→0=r1∧([]:Str)=r2∧false=r3:=by
  intro h
  rw [hend (by omega)] at hr'
  simpa using hr'
 have hret:i<b.length∧i<5→c<128→W - 1=r1∧b.drop (i+1)=r2∧decide (i=0∨0<c)=r3:=by
  intro h1 h3;rw [hs1 h1.1 h1.2] at hr';simp only [if_pos h3,hcm h3,Prod.mk.injEq] at hr';rw [hW h1.2];exact hr'
 have hback:i<b.length∧i<5→¬ c<128→A ⟨[(0,.v (.one (.p (.list .byte b)))),(5,.v (.one (.p (.int .i64 W)))),(9,.v (.one (.p (.int .i64 ((if((b.length:Nat):Int)≤5 then((b.length:Nat):Int) else 5)))))),(10,.v (.one (.p (.int .i64 (((i:Int)+1))))))],[],45,none⟩:=by
  intro h1 h3;have g0:=hW h1.2
  have g1:0≤W:=by omega
  have g2:W<((128 ^ (i+1):Nat):Int):=by rw [hp];omega
  refine hA (i+1,W) ⟨h1.1,h1.2,g1,g2,?_⟩ (by simp only;omega)
  rw [← h6,hs1 h1.1 h1.2,if_neg h3,g0,jJ]
 (repeat' (first|refine ja ?_ ?_|intro _))<;>first|omega|exact jb|exact jc ‹False›|skip
 all_goals first
  |exact(hfin (by omega)).1
  |exact(hfin (by omega)).2.1
  |exact(hfin (by omega)).2.2
  |exact(hret (by omega) (by omega)).1
  |exact(hret (by omega) (by omega)).2.1
  |exact hback (by omega) (by omega)
  |(rw [← (hret (by omega) (by omega)).2.2];simp;omega)
  |skip
 all_goals trace_state
def zuz:Know Tryz.prog:=⟨148,zkX,zuA⟩
def zuy:Know Tryz.prog:=⟨148,fun I=>zx I (zkX I),zf zuA⟩
end Go.Proofs.YtnpmenpjagcheaaGreatDoor
namespace Go.Proofs.YtnpmenpjagcheaaGreatDoor
open Go Go.Sep Go.Ab Go.Jrn
set_option maxRecDepth 100000
def pre3 (k i n:Int):Nat→Str
 |0=>[]
 |1=>sev (k+1).toNat
 |2=>sev (k+1).toNat++sev (i+1).toNat
 |_=>sev (k+1).toNat++sev (i+1).toNat++sev (n+1).toNat
def VP (I:Alg):KU
 |[.v (.agg [.p (.int .i64 k),.p (.int .i64 i),.p (.int .i64 n),.p (.list .byte t)])],[]=>(fun(t:Str)=>(some (.one ⟨I.hid (True),(.ret (.tup [.one (.row 0),.one (.p (.int .i64 (I.hid (encC ⟨k,i,n,t⟩))))])),[.row .byte 5 (I.hid (encM ⟨k,i,n,t⟩))]⟩):Option CT)) t
 |_,_=>none
theorem zhf:zu Tryz.prog 109 (VP alg):=by
 intro args hp r h;unfold VP at h;split at h<;>cases h
 rename_i k i n t;simp only [CT.Good,zh];intro _
 refine spH Tryz.func109 (by kernel_rfl) { nr:=[4],own:=[146],keep:=some [0,1,2,3,4,6,16,17,18]} [zua,zt9,zkE,zkD] (by kernel_rfl) ?_
 intro I X hI hX
 refine orcL ?_;go_invoke;refine orcS (by kernel_rfl) ?_
 simp only [zi,Nat.reduceAdd]
 refine⟨(by rw [hI];trivial),fun hm=> ?_,fun hm=> ?_⟩
 · subst hI
   simp only [nrmA,nrmB,nrlB,reduceCtorEq] at hm;simp only [nrmA,nrmB,nrlB,reduceCtorEq];simp only [encC,encM,hm,jd,if_false];exact⟨trivial,trivial⟩
 rw [hI] at hm;simp only [nrmA,nrmB] at hm;have hmay:=hm;simp only [mayM,few,jK,decide_eq_true_eq] at hmay;obtain⟨⟨⟨⟨m1,m2⟩,m3,m4⟩,m5,m6⟩,m7⟩:=hmay;simp only [encC,encM,hm,if_true];generalize hr:encB ⟨k,i,n,t⟩=r
 refine lpH hI [zua,zt9,zkE,zkD] hX [1,4,16,17,18] (fun(g:Nat × Str)=>match g with|(j,m)=>j≤3∧m=pre3 k i n j) (fun(g:Nat × Str)=>match g with|(j,m)=>⟨[(1,.v (.one (.ptr 0 0))),(4,.v (.one (.row 1))),(16,.v (.one (.row 2))),(17,.v (.one (.p (.int .i64 ((I.len (α:=Int) [k,i,n])))))),(18,.v (.one (.p (.int .i64 j))))],[.pack [.obj 148 [.p (.int .i64 k),.p (.int .i64 i),.p (.int .i64 n),.p (.list .byte t)]],.row .byte 5 m,.row .int 3 ([k,i,n])],35,none⟩) (fun(g:Nat × Str)=>match g with|(j,m)=>3 - j) (0,[]) (by kernel_rfl) (by kernel_rfl) ?_ ?_
 · exact⟨jM _,rfl⟩
 rintro⟨j,m⟩ ⟨hj,hjm⟩ A hA;simp only at hA
 refine orcL ?_;go_invoke;refine orcS (by kernel_rfl) ?_
 simp only [zi,Nat.reduceAdd];subst hI;simp only [nrmA,nrmB,nrlB,reduceCtorEq];have l1:=vw (k+1).toNat;have l2:=vw (i+1).toNat;have l3:=vw (n+1).toNat;simp only [jh,ji]
 rcases(show j=0∨j=1∨j=2∨j=3 by omega) with rfl|rfl|rfl|rfl
 · have hb:=hA (1,sev (k+1).toNat) ⟨by omega,rfl⟩ (by simp only;omega)
   subst hjm
   (repeat' (first|refine ja ?_ ?_|intro _))<;>first|omega|exact jb|exact jc ‹False›|skip
   · simp only [List.getD_cons_zero];omega
   · simp only [List.getD_cons_zero];omega
   · simp only [pre3,ji];omega
   · exact hb
 · have hb:=hA (2,sev (k+1).toNat++sev (i+1).toNat) ⟨by omega,rfl⟩ (by simp only;omega)
   subst hjm
   (repeat' (first|refine ja ?_ ?_|intro _))<;>first|omega|exact jb|exact jc ‹False›|skip
   · simp only [List.getD_cons_zero,List.getD_cons_succ];omega
   · simp only [List.getD_cons_zero,List.getD_cons_succ];omega
   · simp only [pre3];omega
   · exact hb
 · have hb:=hA (3,sev (k+1).toNat++sev (i+1).toNat++sev (n+1).toNat) ⟨by omega,rfl⟩ (by simp only;omega)
   subst hjm
   (repeat' (first|refine ja ?_ ?_|intro _))<;>first|omega|exact jb|exact jc ‹False›|skip
   · simp only [List.getD_cons_zero,List.getD_cons_succ];omega
   · simp only [List.getD_cons_zero,List.getD_cons_succ];omega
   · simp only [pre3,jk];omega
   · exact hb
 · have hm3:(m++t).length≤1048606:=by rw [hjm];simp only [pre3,jk];omega
   have hml:m.length≤30:=by rw [hjm];simp only [pre3,jk];omega
   have l4:=vw (((m++t).length:Nat)+1:Int).toNat
   (repeat' (first|refine ja ?_ ?_|intro _))<;>first|omega|exact jb|exact jc ‹False›|skip
   · simp only [List.nil_append];omega
   · rw [← hr,hjm]
     simp only [encB,enc3,pre3,List.nil_append];rfl
def zqH:Know Tryz.prog:=⟨109,VP,zhf⟩
def zqG:Know Tryz.prog:=⟨109,fun I=>zx I (VP I),zf zhf⟩
def zec (I:Alg):KU
 |[.v (.one (.p (.list .byte b)))],[]=>(fun(b:Str)=>(some (.one ⟨I.hid (b.length≤100000000),(.ret (.tup [.agg [.p (.int .i64 (I.hid ((oneX b).1.kind))),.p (.int .i64 (I.hid ((oneX b).1.id))),.p (.int .i64 (I.hid ((oneX b).1.n))),.p (.list .byte (I.hid ((oneX b).1.text)))],.one (.p (.list .byte (I.hid ((oneX b).2.1)))),.one (.p (.bool (I.hid ((oneX b).2.2))))])),[]⟩):Option CT)) b
 |_,_=>none
theorem zpE:zu Tryz.prog 111 (zec alg):=by
 intro args hp r h;unfold zec at h;split at h<;>cases h
 rename_i b;simp only [CT.Good,zh];intro hneed
 refine spH Tryz.func111 (by kernel_rfl) { rl:=[1],keep:=some [0,2,3,4,5,6,7,8,9,10,11,12,38]} [ZE,qy,zkE,zkD,zuz,zuy] (by kernel_rfl) ?_
 intro I X hI hX
 refine orcL ?_;go_invoke;refine orcS (by kernel_rfl) ?_
 simp only [zi,Nat.reduceAdd];generalize hv:(num b).1=v;generalize hq:(num b).2.1=q;generalize hok:(num b).2.2=ok
 have hnum:num b=(v,q,ok):=by rw [← hv,← hq,← hok]
 generalize hx:oneX b=x;have hx':=hx;rw [oneX,hnum] at hx'
 have hql:q.length≤b.length:=by
  rcases ok with _|_
  · have:=zaP b;rw [hnum] at this;exact this
  · have:=zaO (b:=b) (by rw [hnum]);rw [hnum] at this;exact Nat.le_of_lt this
 refine⟨(by rw [hI];trivial),fun h1=> ?_,fun h1=>⟨fun h2=> ?_,fun h2=>⟨fun h3=> ?_,fun h3=> ?_⟩⟩⟩
 · subst hI;simp only [nrmA,nrmB] at h1;subst h1;simp only at hx';subst hx';simp only [nrmA,nrmB,nrlB,reduceCtorEq]
 · subst hI;simp only [nrmA,nrmB] at h1;simp only [nrmA,nrmB] at h2;subst h1;simp only at hx';rw [if_pos (.inl h2)] at hx';subst hx';simp only [nrmA,nrmB,nrlB,reduceCtorEq]
 · subst hI;simp only [nrmA,nrmB] at h1;simp only [nrmA,nrmB] at h2;simp only [nrmA,nrmB] at h3;subst h1;simp only at hx';rw [if_pos (.inr h3)] at hx';subst hx';simp only [nrmA,nrmB,nrlB,reduceCtorEq]
 rw [hI] at h1;simp only [nrmA,nrmB] at h1;rw [hI] at h2;simp only [nrmA,nrmB] at h2;rw [hI] at h3;simp only [nrmA,nrmB] at h3;subst h1;simp only at hx'
 rw [if_neg (by omega)] at hx'
 refine⟨(by rw [hI];simp only [nrmA,nrmB];omega),(by rw [hI];simp only [nrmA,nrmB];omega),?_⟩
 have hin:I.cut (α:=UInt8) (I.hid (α:=List UInt8) q) 0 (I.hid (α:=Int) v)=q.take v.toNat:=by rw [hI];simp only [nrmA,nrmB]
 have hbh:I.cut (α:=UInt8) (I.hid (α:=List UInt8) q) (I.hid (α:=Int) v) (I.len (α:=UInt8) (I.hid (α:=List UInt8) q))=q.drop v.toNat:=by
  rw [hI];simp only [nrmA,nrmB];rw [jq (by simp)]
 have hil:(q.take v.toNat).length≤b.length:=by simp;omega
 rw [hin,hbh];generalize q.take v.toNat=inn at *;generalize q.drop v.toNat=bh at *
 refine lpH hI [ZE,qy,zkE,zkD,zuz,zuy] hX [2,8,9,10,38] (fun(g:Nat × Int × Int × Int × Str)=>match g with|(j,a,c,d,s)=>j≤3∧s.length≤b.length∧thr j a c d s=three inn) (fun(g:Nat × Int × Int × Int × Str)=>match g with|(j,a,c,d,s)=>⟨[(2,.v (.one (.ptr 0 0))),(8,.v (.one (.p (.list .byte s)))),(9,.v (.one (.p (.list .byte bh)))),(10,.v (.one (.ptr 1 0))),(38,.v (.one (.p (.int .i64 j))))],[.pack [.obj 148 [.p (.int .i64 0),.p (.int .i64 0),.p (.int .i64 0),.nilS]],.pack [.obj 208 [.p (.int .i64 a),.p (.int .i64 c),.p (.int .i64 d)]]],66,none⟩) (fun(g:Nat × Int × Int × Int × Str)=>match g with|(j,a,c,d,s)=>3 - j) (0,0,0,0,inn) (by kernel_rfl) (by kernel_rfl) ?_ ?_
 · exact⟨jM _,hil,rfl⟩
 rintro⟨j,a,c,d,s⟩ ⟨hj,hsl,hthr⟩ A hA;simp only at hA
 have hu:j<3→∀ e:(num s).2.2=false,thr j a c d s=none:=by
  intro h e
  have e2:num s=((num s).1,(num s).2.1,false):=by rw [← e]
  rcases(show j=0∨j=1∨j=2 by omega) with rfl|rfl|rfl
  · rw [thr,three,e2]
  · rw [thr,e2]
  · rw [thr,e2]
 have hfail:j<3→(num s).2.2=false→x=(⟨0,0,0,[]⟩,[],false):=by
  intro h e;rw [← hthr,hu h e] at hx';exact hx'.symm
 have hnl:=zaP s
 have hle:(num s).2.1.length≤b.length:=by omega
 rcases(show j=0∨j=1∨j=2∨j=3 by omega) with rfl|rfl|rfl|rfl
 · refine orcL ?_;go_invoke;refine orcS (by kernel_rfl) ?_
   simp only [zi,Nat.reduceAdd];subst hI;simp only [nrmA,nrmB,nrlB,reduceCtorEq]
   refine⟨fun _=>⟨fun e=> ?_,fun e=>⟨by omega,?_⟩⟩,fun h=>(by omega)⟩
   · rw [hfail (by omega) e];exact⟨rfl,rfl,rfl⟩
   · refine hA (1,(num s).1,c,d,(num s).2.1) ⟨by omega,hle,?_⟩ (by simp only;omega)
     rw [← hthr,thr,thr,three,show num s=((num s).1,(num s).2.1,true) by rw [← e]]
 · refine orcL ?_;go_invoke;refine orcS (by kernel_rfl) ?_
   simp only [zi,Nat.reduceAdd];subst hI;simp only [nrmA,nrmB,nrlB,reduceCtorEq]
   refine⟨fun _=>⟨fun e=> ?_,fun e=>⟨by omega,?_⟩⟩,fun h=>(by omega)⟩
   · rw [hfail (by omega) e];exact⟨rfl,rfl,rfl⟩
   · refine hA (2,a,(num s).1,d,(num s).2.1) ⟨by omega,hle,?_⟩ (by simp only;omega)
     rw [← hthr,thr,thr,show num s=((num s).1,(num s).2.1,true) by rw [← e]]
 · refine orcL ?_;go_invoke;refine orcS (by kernel_rfl) ?_
   simp only [zi,Nat.reduceAdd];subst hI;simp only [nrmA,nrmB,nrlB,reduceCtorEq]
   refine⟨fun _=>⟨fun e=> ?_,fun e=>⟨by omega,?_⟩⟩,fun h=>(by omega)⟩
   · rw [hfail (by omega) e];exact⟨rfl,rfl,rfl⟩
   · refine hA (3,a,c,(num s).1,(num s).2.1) ⟨by omega,hle,?_⟩ (by simp only;omega)
     have e2:num s=((num s).1,(num s).2.1,true):=by rw [← e]
     rw [← hthr];simp only [thr];generalize num s=z at *;obtain⟨z1,z2,z3⟩:=z;simp only at e;subst e;rfl
 · refine orcL ?_;go_invoke;refine orcS (by kernel_rfl) ?_
   simp only [zi,Nat.reduceAdd];subst hI;simp only [nrmA,nrmB,nrlB,reduceCtorEq];rw [← hthr] at hx';simp only [thr] at hx';subst hx'
   have:s.length≤100000000:=by omega
   exact⟨fun h=>(by omega),fun _=>⟨⟨this,rfl,rfl,rfl⟩,this,rfl,rfl,rfl⟩⟩
def zpD:Know Tryz.prog:=⟨111,zec,zpE⟩
def zpC:Know Tryz.prog:=⟨111,fun I=>zx I (zec I),zf zpE⟩
end Go.Proofs.YtnpmenpjagcheaaGreatDoor
namespace Go.Proofs.YtnpmenpjagcheaaGreatDoor
open Go Go.Sep Go.Ab Go.Jrn
set_option maxRecDepth 100000
def zdb (b:Str):Int:=(b.length:Int) - ((dec b).2.length:Int)
def VS (I:Alg):KU
 |[.v (.one (.p (.list .byte b)))],[]=>(fun(b:Str)=>(some (.one ⟨I.hid (b.length≤50000000),(.ret (.tup [.one (.row 0),.one (.p (.int .i64 (I.hid (zdb b))))])),[.row .ent 148 (I.hid ((dec b).1))]⟩):Option CT)) b
 |_,_=>none
theorem zhl:zu Tryz.prog 86 (VS alg):=by
 intro args hp r h;unfold VS at h;split at h<;>cases h
 rename_i b;simp only [CT.Good,zh];intro hneed
 refine spH Tryz.func86 (by kernel_rfl) { nr:=[4],keep:=some [0,2,3,4,5,6,7,8]} [zpD,zpC] (by kernel_rfl) ?_
 intro I X hI hX
 refine orcL ?_;go_invoke;refine orcS (by kernel_rfl) ?_
 simp only [zi,Nat.reduceAdd];generalize hd1:(dec b).1=d1;generalize hd2:zdb b=d2
 refine lpH hI [zpD,zpC] hX [0,4,5] (fun(g:List Ent × Str)=>match g with|(out,rest)=>out++(dec rest).1=d1∧(dec rest).2=(dec b).2∧out.length+rest.length≤b.length) (fun(g:List Ent × Str)=>match g with|(out,rest)=>⟨[(0,.v (.one (.p (.list .byte b)))),(4,.v (.one (.row 0))),(5,.v (.one (.p (.list .byte rest))))],[.row .ent 148 out],29,none⟩) (fun(g:List Ent × Str)=>match g with|(out,rest)=>rest.length) ([],b) (by kernel_rfl) (by kernel_rfl) ?_ ?_
 · exact⟨hd1,rfl,by simp⟩
 rintro⟨out,rest⟩ ⟨h1,h2,h3⟩ A hA;simp only at hA
 refine orcL ?_;go_invoke;refine orcS (by kernel_rfl) ?_
 simp only [zi,Nat.reduceAdd];subst hI;simp only [nrmA,nrmB,nrlB,reduceCtorEq]
 have hone:(oneX rest).2.2=true→oneM rest=some ((oneX rest).1,(oneX rest).2.1):=fun h=>by rw [oneM,if_pos h]
 have hnone:(oneX rest).2.2=false→oneM rest=none:=fun h=>by rw [oneM,if_neg (by rw [h];decide)]
 refine⟨by omega,fun h=> ?_,fun h=> ?_⟩
 · rw [zlx (hnone h)] at h1 h2
   refine⟨by omega,?_,by simpa using h1⟩
   rw [← hd2,zdb,← h2]
 · have hx:=zlw (hone h)
   have hlt:=zpf h
   refine⟨by simp only [jh,ji];omega,hA (out++[(oneX rest).1],(oneX rest).2.1) ⟨?_,?_,?_⟩ hlt⟩
   · rw [← h1,hx,jo];rfl
   · rw [← h2,hx]
   · simp only [jk,jh,ji];omega
def zhk:Know Tryz.prog:=⟨86,VS,zhl⟩
def zhj:Know Tryz.prog:=⟨86,fun I=>zx I (VS I),zf zhl⟩
end Go.Proofs.YtnpmenpjagcheaaGreatDoor
namespace Go.Proofs.YtnpmenpjagcheaaGreatDoor
open Go Go.Sep Go.Ab
set_option maxRecDepth 100000
def cfgL:Cfg:= { sl:=[⟨108,0,.byte,some 5⟩]}
def zaE (b:Str) (n:Int):Bool:=decide (0≤n∧n≤100000 - (b.length:Int))
def wrC (b x:Str):Int:=if b.length+x.length≤100000 then 0 else 16
def wrB (b x:Str):Str:=if b.length+x.length≤100000 then b++x else b
def crB (b:Str) (s n:Int):Str:=b.take (s+min (max n 0) (b.length - s)).toNat
def cuB (b:Str) (n:Int):Str:=if 0≤n∧n<b.length then b.take n.toNat else b
def cuS (b:Str) (s n:Int):Int:=if 0≤n∧n<b.length then min s n else s
def zee (I:Alg):KU
 |[],[]=>some (.one ⟨I.hid (True),(.ret (.v (.one (.ptr 0 0)))),[.pack [.obj 108 [.row 1,.p (.int .i64 0)],.row .byte 5 (I.hid ([]))]]⟩)
 |_,_=>none
theorem zpJ:zu Tryz.prog 37 (zee alg):=by
 intro args hp r h;unfold zee at h;split at h<;>cases h
 simp only [CT.Good,zh];intro _
 refine spH Tryz.func37 (by kernel_rfl) { cfgL with keep:=some [0]} [] (by kernel_rfl) ?_
 intro I X hI hX
 refine orcL ?_;go_invoke;refine orcS (by kernel_rfl) ?_
 simp only [zi,Nat.reduceAdd];trivial
def zvY:Know Tryz.prog:=⟨37,zee,zpJ⟩
def zvX:Know Tryz.prog:=⟨37,fun I=>zx I (zee I),zf zpJ⟩
def zdq (I:Alg):KU
 |[.v (.one (.ptr 0 0))],[.pack [.obj 108 [.row 1,.p (.int .i64 s)],.row .byte 5 b]]=>(fun(b:Str)=>(some (.one ⟨I.hid (True),(.ret (.v (.one (.p (.int .i64 s))))),[.pack [.obj 108 [.row 1,.p (.int .i64 s)],.row .byte 5 b]]⟩):Option CT)) b
 |_,_=>none
theorem znK:zu Tryz.prog 56 (zdq alg):=by
 intro args hp r h;unfold zdq at h;split at h<;>cases h
 rename_i s b;simp only [CT.Good,zh];intro _
 refine spH Tryz.func56 (by kernel_rfl) { cfgL with keep:=some [0,2]} [] (by kernel_rfl) ?_
 intro I X hI hX
 refine orcL ?_;go_invoke;refine orcS (by kernel_rfl) ?_
 simp only [zi,Nat.reduceAdd];trivial
def zva:Know Tryz.prog:=⟨56,zdq,znK⟩
def zu9:Know Tryz.prog:=⟨56,fun I=>zx I (zdq I),zf znK⟩
def QW (I:Alg):KU
 |[.v (.one (.ptr 0 0))],[.pack [.obj 108 [.row 1,.p (.int .i64 s)],.row .byte 5 b]]=>(fun(b:Str)=>(some (.one ⟨I.hid (b.length≤100000000),(.ret (.v (.one (.row 1)))),[.pack [.obj 108 [.row 1,.p (.int .i64 s)],.row .byte 5 b],.row .byte 5 b]⟩):Option CT)) b
 |_,_=>none
theorem zlT:zu Tryz.prog 55 (QW alg):=by
 intro args hp r h;unfold QW at h;split at h<;>cases h
 rename_i s b;simp only [CT.Good,zh];intro hneed
 refine spH Tryz.func55 (by kernel_rfl) { cfgL with keep:=some [0,2]} [ZE,qy] (by kernel_rfl) ?_
 intro I X hI hX
 refine orcL ?_;go_invoke;refine orcS (by kernel_rfl) ?_
 simp only [zi,Nat.reduceAdd];subst hI;simp only [nrmA,nrmB];exact hneed
def zeT:Know Tryz.prog:=⟨55,QW,zlT⟩
def zeS:Know Tryz.prog:=⟨55,fun I=>zx I (QW I),zf zlT⟩
def zdp (I:Alg):KU
 |[.v (.one (.ptr 0 0))],[.pack [.obj 108 [.row 1,.p (.int .i64 s)],.row .byte 5 b]]=>(fun(b:Str)=>(some (.one ⟨I.hid (True),(.ret (.tup [])),[.pack [.obj 108 [.row 1,.p (.int .i64 (I.hid (b.length:Int)))],.row .byte 5 b]]⟩):Option CT)) b
 |_,_=>none
theorem znJ:zu Tryz.prog 84 (zdp alg):=by
 intro args hp r h;unfold zdp at h;split at h<;>cases h
 rename_i s b;simp only [CT.Good,zh];intro _
 refine spH Tryz.func84 (by kernel_rfl) { cfgL with keep:=some [0]} [] (by kernel_rfl) ?_
 intro I X hI hX
 refine orcL ?_;go_invoke;refine orcS (by kernel_rfl) ?_
 simp only [zi,Nat.reduceAdd];subst hI;simp only [nrmA,nrmB,nrlB,reduceCtorEq,HO.pack.injEq,HO.obj.injEq]
def znI:Know Tryz.prog:=⟨84,zdp,znJ⟩
def znH:Know Tryz.prog:=⟨84,fun I=>zx I (zdp I),zf znJ⟩
def zdN (I:Alg):KU
 |[.v (.one (.ptr 0 0)),.v (.one (.p (.int .i64 n)))],[.pack [.obj 108 [.row 1,.p (.int .i64 s)],.row .byte 5 b]]=>(fun(b:Str)=>(some (.one ⟨I.hid (b.length≤100000000),(.ret (.v (.one (.p (.bool (I.hid (zaE b n))))))),[.pack [.obj 108 [.row 1,.p (.int .i64 s)],.row .byte 5 b]]⟩):Option CT)) b
 |_,_=>none
theorem zoT:zu Tryz.prog 147 (zdN alg):=by
 intro args hp r h;unfold zdN at h;split at h<;>cases h
 rename_i n s b;simp only [CT.Good,zh];intro hneed
 refine spH Tryz.func147 (by kernel_rfl) { cfgL with keep:=some [0,1,4]} [] (by kernel_rfl) ?_
 intro I X hI hX
 refine orcL ?_;go_invoke;refine orcS (by kernel_rfl) ?_
 simp only [zi,Nat.reduceAdd];subst hI;simp only [nrmA,nrmB,nrlB,reduceCtorEq];unfold zaE
 exact⟨fun h=>⟨by omega,decide_eq_decide.2 (by omega)⟩,fun h=>(decide_eq_false (by omega)).symm⟩
def zoS:Know Tryz.prog:=⟨147,zdN,zoT⟩
def zoR:Know Tryz.prog:=⟨147,fun I=>zx I (zdN I),zf zoT⟩
def SI (I:Alg):KU
 |[.v (.one (.ptr 0 0)),.v (.one (.p (.list .byte x)))],[.pack [.obj 108 [.row 1,.p (.int .i64 s)],.row .byte 5 b]]=>(fun(b x:Str)=>(some (.one ⟨I.hid (b.length≤100000∧x.length≤100000000),(.ret (.v (.one (.p (.int .i64 (I.hid (wrC b x))))))),[.pack [.obj 108 [.row 1,.p (.int .i64 s)],.row .byte 5 (I.hid (wrB b x))]]⟩):Option CT)) b x
 |_,_=>none
theorem zji:zu Tryz.prog 110 (SI alg):=by
 intro args hp r h;unfold SI at h;split at h<;>cases h
 rename_i x s b;simp only [CT.Good,zh];intro hneed
 refine spH Tryz.func110 (by kernel_rfl) { cfgL with keep:=some [0,1,4]} [zoS,zoR] (by kernel_rfl) ?_
 intro I X hI hX
 refine orcL ?_;go_invoke;refine orcS (by kernel_rfl) ?_
 simp only [zi,Nat.reduceAdd];subst hI
 have hr:zaE b (x.length:Int)=decide (b.length+x.length≤100000):=by unfold zaE;exact decide_eq_decide.2 (by omega)
 simp only [nrmA,nrmB,nrlB,reduceCtorEq,HO.pack.injEq,HO.obj.injEq];rw [hr]
 by_cases hc:b.length+x.length≤100000
 · simp only [wrC,wrB,if_pos hc,decide_eq_true hc]
   simp only [nrmA,nrmB,nrlB,reduceCtorEq]
   exact⟨by omega,fun h=>h.elim,fun _=>by omega⟩
 · simp only [wrC,wrB,if_neg hc,decide_eq_false hc]
   simp only [nrmA,nrmB,nrlB,reduceCtorEq]
   exact⟨by omega,fun _=>trivial,fun h=>h.elim⟩
def zrG:Know Tryz.prog:=⟨110,SI,zji⟩
def zrF:Know Tryz.prog:=⟨110,fun I=>zx I (SI I),zf zji⟩
def QJ (I:Alg):KU
 |[.v (.one (.ptr 0 0)),.v (.one (.p (.int .i64 n)))],[.pack [.obj 108 [.row 1,.p (.int .i64 s)],.row .byte 5 b]]=>(fun(b:Str)=>(some (.one ⟨I.hid (b.length≤100000∧0≤s∧s≤b.length),(.ret (.tup [])),[.pack [.obj 108 [.row 1,.p (.int .i64 (I.hid ((crB b s n).length:Int)))],.row .byte 5 (I.hid (crB b s n))]]⟩):Option CT)) b
 |_,_=>none
theorem zlH:zu Tryz.prog 85 (QJ alg):=by
 intro args hp r h;unfold QJ at h;split at h<;>cases h
 rename_i n s b;simp only [CT.Good,zh];intro hneed
 refine spH Tryz.func85 (by kernel_rfl) { cfgL with cut:=[35],keep:=some [0,1,4]} [znI,znH] (by kernel_rfl) ?_
 intro I X hI hX
 refine orcL ?_;go_invoke;refine orcS (by kernel_rfl) ?_
 simp only [zi,Nat.reduceAdd];subst hI;simp only [nrmA,nrmB,nrlB,reduceCtorEq,HO.pack.injEq,HO.obj.injEq]
 obtain⟨K,hK,h0,hle⟩: ∃ K:Int,s+(if(if n≤0 then 0 else n)≤(b.length:Int) - s then(if n≤0 then 0 else n) else(b.length:Int) - s)=K∧s≤K∧K≤b.length:=⟨_,rfl,by omega,by omega⟩
 have hcr:crB b s n=b.take K.toNat:=by
  unfold crB;rw [← hK]
  congr 2
 rw [hK,hcr]
 exact⟨by omega,by omega,by omega,by omega,rfl,rfl⟩
def zlG:Know Tryz.prog:=⟨85,QJ,zlH⟩
def zlF:Know Tryz.prog:=⟨85,fun I=>zx I (QJ I),zf zlH⟩
def zeK (I:Alg):KU
 |[.v (.one (.ptr 0 0)),.v (.one (.p (.int .i64 n)))],[.pack [.obj 108 [.row 1,.p (.int .i64 s)],.row .byte 5 b]]=>(fun(b:Str)=>(some (.one ⟨I.hid (b.length≤100000∧0≤s∧s≤b.length),(.ret (.tup [])),[.pack [.obj 108 [.row 1,.p (.int .i64 (I.hid (cuS b s n)))],.row .byte 5 (I.hid (cuB b n))]]⟩):Option CT)) b
 |_,_=>none
theorem zq0:zu Tryz.prog 87 (zeK alg):=by
 intro args hp r h;unfold zeK at h;split at h<;>cases h
 rename_i n s b;simp only [CT.Good,zh];intro hneed
 refine spH Tryz.func87 (by kernel_rfl) { cfgL with cut:=[22],keep:=some [0,1]} [] (by kernel_rfl) ?_
 intro I X hI hX
 refine orcL ?_;go_invoke;refine orcS (by kernel_rfl) ?_
 simp only [zi,Nat.reduceAdd];subst hI;simp only [nrmA,nrmB,nrlB,reduceCtorEq,HO.pack.injEq,HO.obj.injEq]
 refine⟨fun h1=>⟨fun h2=>⟨by omega,?_,?_⟩,fun h2=> ?_⟩,fun h1=> ?_⟩
 · unfold cuS;rw [if_pos (show 0≤n∧n<(b.length:Int) from⟨h1,h2⟩)];omega
 · unfold cuB;rw [if_pos (show 0≤n∧n<(b.length:Int) from⟨h1,h2⟩)]
 · unfold cuS cuB;rw [if_neg (show ¬ (0≤n∧n<(b.length:Int)) from fun h=>by omega),if_neg (show ¬ (0≤n∧n<(b.length:Int)) from fun h=>by omega)];exact⟨rfl,rfl⟩
 · unfold cuS cuB;rw [if_neg (show ¬ (0≤n∧n<(b.length:Int)) from fun h=>by omega),if_neg (show ¬ (0≤n∧n<(b.length:Int)) from fun h=>by omega)];exact⟨rfl,rfl⟩
def zqZ:Know Tryz.prog:=⟨87,zeK,zq0⟩
def zqY:Know Tryz.prog:=⟨87,fun I=>zx I (zeK I),zf zq0⟩
end Go.Proofs.YtnpmenpjagcheaaGreatDoor
namespace Go.Jrn
open Go Go.Ab
theorem pow5 {i:Nat} (h:i<5):128 ^ (5 - i)=128 * 128 ^ (5 - (i+1)):=by
 rw [show 5 - i=(5 - (i+1))+1 by omega,Nat.pow_succ,Nat.mul_comm]
theorem zfX: ∀ (s:Str) (i u:Nat) (v:Int) (r:Str),numF i u s=(v,r,true)→∃ x,v=((u+x * 128 ^ i:Nat):Int) - 1∧s=sev x++r∧(0<i→0<x)∧x<128 ^ (5 - i)
 |[],i,u,v,r,h=>by simp [numF] at h
 | c :: l,i,u,v,r,h=>by
   rw [numF] at h
   split at h
   · simp at h
   · rename_i h5
     have hp:=pow5 (i:=i) (by omega)
     have hpos:0<128 ^ (5 - (i+1)):=Nat.pow_pos (by omega)
     split at h
     · rename_i hc
       simp only [Prod.mk.injEq,decide_eq_true_eq] at h;obtain⟨rfl,rfl,h3⟩:=h
       refine⟨c.toNat,rfl,?_,by omega,by omega⟩
       rw [zfp hc,UInt8.ofNat_toNat];rfl
     · rename_i hc
       obtain⟨y,h1,h2,h3,h4⟩:=zfX l (i+1) _ v r h
       have hy:=h3 (by omega)
       have hc2:c.toNat<256:=UInt8.toNat_lt c
       have h45:128 ^ (5 - (i+1))≤128 ^ 4:=Nat.pow_le_pow_right (by omega) (by omega)
       refine⟨c.toNat % 128+128 * y,?_,?_,by omega,?_⟩
       · rw [h1,Nat.pow_succ,Nat.add_mul]
         congr 2
         rw [Nat.add_assoc]
         congr 1
         rw [Nat.mul_comm (128 ^ i) 128,Nat.mul_comm 128 y,Nat.mul_assoc]
       · rw [zn1 (by omega) (by omega),h2,show(c.toNat % 128+128 * y) % 128+128=c.toNat by omega,show(c.toNat % 128+128 * y) / 128=y by omega,UInt8.ofNat_toNat];rfl
       · rw [hp];omega
theorem Qc {s r:Str} {v:Int} (h:num s=(v,r,true)): -1≤v∧v<34359738367∧s=sev (v+1).toNat++r:=by
 obtain⟨x,h1,h2,_,h4⟩:=zfX s 0 0 v r h;simp only [Nat.pow_zero,Nat.mul_one,Nat.zero_add,Nat.sub_zero] at h1 h4
 have:(v+1).toNat=x:=by omega
 rw [this]
 exact⟨by omega,by omega,h2⟩
theorem zl4 {s t:Str} {k i n:Int} (h:three s=some (k,i,n,t)):s=sev (k+1).toNat++sev (i+1).toNat++sev (n+1).toNat++t:=by
 unfold three at h
 split at h
 · rename_i k' r1 h1
   split at h
   · rename_i i' r2 h2
     split at h
     · rename_i n' r3 h3
       simp only [jw,Prod.mk.injEq] at h;obtain⟨rfl,rfl,rfl,rfl⟩:=h;obtain⟨_,_,e1⟩:=Qc h1;obtain⟨_,_,e2⟩:=Qc h2;obtain⟨_,_,e3⟩:=Qc h3;rw [e1,e2,e3];simp only [jo]
     · cases h
   · cases h
 · cases h
theorem zpg {s r:Str} {e:Ent} (h:oneM s=some (e,r)):mayM e=true∧s=encB e++r:=by
 unfold oneM at h
 split at h
 · rename_i hx
   simp only [jw,Prod.mk.injEq] at h;obtain⟨rfl,rfl⟩:=h;unfold oneX at hx ⊢
   split at hx
   · rename_i n q hn
     split at hx
     · cases hx
     · rename_i hc
       rw [if_neg hc]
       split at hx
       · rename_i k i m t ht
         simp only [ht];refine⟨hx,?_⟩;obtain⟨_,_,e1⟩:=Qc hn;have e2:=zl4 ht
         have hl:(q.take n.toNat).length=n.toNat:=by rw [jv];omega
         have e3:enc3 ⟨k,i,m,t⟩=q.take n.toNat:=by rw [e2];rfl
         rw [encB,e3,hl,show n.toNat+1=(n+1).toNat by omega,jo,List.take_append_drop]
         exact e1
       · cases hx
   · cases hx
 · cases h
def qm:List Ent→Str
 |[]=>[]
 |e::l=>encB e++qm l
theorem zez (a b:List Ent):qm (a++b)=qm a++qm b:=by
 induction a with
 |nil=>rfl
 |cons e l ih=>simp [qm,ih,jo]
theorem zeC: ∀ (f:Nat) (b:Str),b.length≤f→b=qm (dec b).1++(dec b).2∧∀ e ∈ (dec b).1,mayM e=true
 | f, b, hf=>by
   cases ho:oneM b with
   |none=>rw [zlx ho];exact⟨rfl,fun e h=>by cases h⟩
   | some p=>
     obtain⟨e,r⟩:=p;obtain⟨h1,h2⟩:=zpg ho;have hlt:=zd5 ho
     cases f with
     |zero=>omega
     | succ f=>
       obtain⟨h3,h4⟩:=zeC f r (by omega)
       rw [zlw ho];refine⟨?_,fun x hx=> ?_⟩
       · simp only [qm]
         rw [jo,← h3];exact h2
       · cases hx with
         |head=>exact h1
         |tail _ h=>exact h4 x h
theorem ztF {e:Ent} (h:mayM e=true):(encB e).length≤e.text.length+50:=by
 have h0:=vw ((enc3 e).length+1);have h1:=vw (e.kind+1).toNat;have h2:=vw (e.id+1).toNat;have h3:=vw (e.n+1).toNat;simp only [encB,enc3,jk] at h0 ⊢;omega
end Go.Jrn
