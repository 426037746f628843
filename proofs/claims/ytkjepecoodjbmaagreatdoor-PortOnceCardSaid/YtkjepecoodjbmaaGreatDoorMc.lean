/- Texts of this proof, one behind the other: Shelf Lib ChrA ChrB ChrC ParL ParA ParC ParD Fnd FldA FldB FldG FldD FldE ChrD ChrN Base SplL SplA SplB JrnL JrnA JrnB JrnC JrnG JrnP StoL. -/
import Derived.Shelf.Strings.SlTrimAscii
import Derived.Shelf.Strings.Trim
import Derived.Shelf.Small.Utf8
import Derived.Shelf.Small.Strs
import Derived.Shelf.Small.Wraps
import Derived.Shelf.Strconv.Itoa0
import Derived.Shelf.Strconv.Itoa1
import Derived.Shelf.LaysM
import Derived.Shelf.Strconv.Itoa2
import Derived.Shelf.Strconv.Itoa3
import Derived.Shelf.Strings.Search1
import Derived.Shelf.Strings.Search2
import Derived.Shelf.Strings.Search3
import Derived.Shelf.Strings.Cut
import Derived.Shelf.Strings.Count
import Derived.Shelf.Strings.Shaped
import Derived.Shelf.Strings.Prefix
import Derived.Shelf.Strings.Split
import Derived.Shelf.Strings.Runes
import Derived.Shelf.Strings.IndexAny
import Derived.Shelf.Strings.AsciiSet
import Derived.Shelf.Strings.IndexAnyAll
import Derived.Shelf.Unicode.DecodeSlow
import Derived.Test.YtkjepecoodjbmaaGreatDoorProg
import Derived.Below
import Derived.Test.YtkjepecoodjbmaaGreatDoorMb
set_option linter.all false
namespace Go.Proofs
open Go.Shelf
def Tryz.zjW:Go.Shelf.Ren:=⟨fun|161=>278|231=>265|227=>234|233=>267|235=>269|228=>235|197=>283|151=>284|260=>293|152=>232|137=>231|119=>262|224=>263|225=>264|217=>261|266=>282|n=>n,fun|9=>9|4=>4|3=>3|5=>5|117=>275|116=>274|0=>0|124=>295|105=>306|21=>21|119=>316|46=>117|139=>319|138=>318|n=>n,fun|3=>4|4=>5|n=>n⟩
theorem Tryz.lays161:Go.Proofs.Lays.n161 Tryz.prog Tryz.zjW:= {
 mixed:=by kernel_rfl
 f119:=Tryz.func262.trans (congrArg some (by kernel_rfl))
 f137:=Tryz.func231.trans (congrArg some (by kernel_rfl))
 f151:=Tryz.func284.trans (congrArg some (by kernel_rfl))
 f152:=Tryz.func232.trans (congrArg some (by kernel_rfl))
 f161:=Tryz.func278.trans (congrArg some (by kernel_rfl))
 f197:=Tryz.func283.trans (congrArg some (by kernel_rfl))
 f217:=Tryz.func261.trans (congrArg some (by kernel_rfl))
 f224:=Tryz.func263.trans (congrArg some (by kernel_rfl))
 f225:=Tryz.func264.trans (congrArg some (by kernel_rfl))
 f227:=Tryz.func234.trans (congrArg some (by kernel_rfl))
 f228:=Tryz.func235.trans (congrArg some (by kernel_rfl))
 f231:=Tryz.func265.trans (congrArg some (by kernel_rfl))
 f233:=Tryz.func267.trans (congrArg some (by kernel_rfl))
 f235:=Tryz.func269.trans (congrArg some (by kernel_rfl))
 f260:=Tryz.func293.trans (congrArg some (by kernel_rfl))
 f266:=Tryz.func282.trans (congrArg some (by kernel_rfl))
 t0:=Tryz.underlying0
 a0:=Tryz.isAgg0
 z0:=Tryz.sizeOf0
 v0:=Tryz.zeroValue0
 t3:=Tryz.underlying3
 a3:=Tryz.isAgg3
 z3:=Tryz.sizeOf3
 v3:=Tryz.zeroValue3
 t4:=Tryz.underlying4
 a4:=Tryz.isAgg4
 z4:=Tryz.sizeOf4
 v4:=Tryz.zeroValue4
 t5:=Tryz.underlying5
 a5:=Tryz.isAgg5
 z5:=Tryz.sizeOf5
 v5:=Tryz.zeroValue5
 t9:=Tryz.underlying9
 a9:=Tryz.isAgg9
 z9:=Tryz.sizeOf9
 v9:=Tryz.zeroValue9
 t21:=Tryz.underlying21
 a21:=Tryz.isAgg21
 z21:=Tryz.sizeOf21
 v21:=Tryz.zeroValue21
 t46:=Tryz.underlying117
 a46:=Tryz.isAgg117
 z46:=Tryz.sizeOf117
 v46:=Tryz.zeroValue117
 t105:=Tryz.underlying306
 a105:=Tryz.isAgg306
 z105:=Tryz.sizeOf306
 v105:=Tryz.zeroValue306
 t116:=Tryz.underlying274
 a116:=Tryz.isAgg274
 z116:=Tryz.sizeOf274
 t117:=Tryz.underlying275
 a117:=Tryz.isAgg275
 z117:=Tryz.sizeOf275
 v117:=Tryz.zeroValue275
 t119:=Tryz.underlying316
 a119:=Tryz.isAgg316
 z119:=Tryz.sizeOf316
 t124:=Tryz.underlying295
 a124:=Tryz.isAgg295
 z124:=Tryz.sizeOf295
 v124:=Tryz.zeroValue295
 t138:=Tryz.underlying318
 a138:=Tryz.isAgg318
 z138:=Tryz.sizeOf318
 v138:=Tryz.zeroValue318
 t139:=Tryz.underlying319
 a139:=Tryz.isAgg319
 z139:=Tryz.sizeOf319
 v139:=Tryz.zeroValue319
 g3:=by kernel_rfl
 g4:=by kernel_rfl}
def Tryz.zjX:Go.Shelf.Ren:=⟨fun|160=>237|232=>266|231=>265|227=>234|234=>268|233=>267|236=>270|235=>269|228=>235|271=>285|151=>284|197=>283|120=>294|152=>232|260=>293|137=>231|119=>262|224=>263|225=>264|217=>261|266=>282|n=>n,fun|9=>9|4=>4|3=>3|5=>5|117=>275|116=>274|0=>0|124=>295|21=>21|105=>306|46=>117|119=>316|139=>319|138=>318|n=>n,fun|3=>4|4=>5|n=>n⟩
theorem Tryz.lays160:Go.Proofs.Lays.n160 Tryz.prog Tryz.zjX:= {
 mixed:=by kernel_rfl
 f119:=Tryz.func262.trans (congrArg some (by kernel_rfl))
 f120:=Tryz.func294.trans (congrArg some (by kernel_rfl))
 f137:=Tryz.func231.trans (congrArg some (by kernel_rfl))
 f151:=Tryz.func284.trans (congrArg some (by kernel_rfl))
 f152:=Tryz.func232.trans (congrArg some (by kernel_rfl))
 f160:=Tryz.func237.trans (congrArg some (by kernel_rfl))
 f197:=Tryz.func283.trans (congrArg some (by kernel_rfl))
 f217:=Tryz.func261.trans (congrArg some (by kernel_rfl))
 f224:=Tryz.func263.trans (congrArg some (by kernel_rfl))
 f225:=Tryz.func264.trans (congrArg some (by kernel_rfl))
 f227:=Tryz.func234.trans (congrArg some (by kernel_rfl))
 f228:=Tryz.func235.trans (congrArg some (by kernel_rfl))
 f231:=Tryz.func265.trans (congrArg some (by kernel_rfl))
 f232:=Tryz.func266.trans (congrArg some (by kernel_rfl))
 f233:=Tryz.func267.trans (congrArg some (by kernel_rfl))
 f234:=Tryz.func268.trans (congrArg some (by kernel_rfl))
 f235:=Tryz.func269.trans (congrArg some (by kernel_rfl))
 f236:=Tryz.func270.trans (congrArg some (by kernel_rfl))
 f260:=Tryz.func293.trans (congrArg some (by kernel_rfl))
 f266:=Tryz.func282.trans (congrArg some (by kernel_rfl))
 f271:=Tryz.func285.trans (congrArg some (by kernel_rfl))
 t0:=Tryz.underlying0
 a0:=Tryz.isAgg0
 z0:=Tryz.sizeOf0
 v0:=Tryz.zeroValue0
 t3:=Tryz.underlying3
 a3:=Tryz.isAgg3
 z3:=Tryz.sizeOf3
 v3:=Tryz.zeroValue3
 t4:=Tryz.underlying4
 a4:=Tryz.isAgg4
 z4:=Tryz.sizeOf4
 v4:=Tryz.zeroValue4
 t5:=Tryz.underlying5
 a5:=Tryz.isAgg5
 z5:=Tryz.sizeOf5
 v5:=Tryz.zeroValue5
 t9:=Tryz.underlying9
 a9:=Tryz.isAgg9
 z9:=Tryz.sizeOf9
 v9:=Tryz.zeroValue9
 t21:=Tryz.underlying21
 a21:=Tryz.isAgg21
 z21:=Tryz.sizeOf21
 v21:=Tryz.zeroValue21
 t46:=Tryz.underlying117
 a46:=Tryz.isAgg117
 z46:=Tryz.sizeOf117
 v46:=Tryz.zeroValue117
 t105:=Tryz.underlying306
 a105:=Tryz.isAgg306
 z105:=Tryz.sizeOf306
 v105:=Tryz.zeroValue306
 t116:=Tryz.underlying274
 a116:=Tryz.isAgg274
 z116:=Tryz.sizeOf274
 t117:=Tryz.underlying275
 a117:=Tryz.isAgg275
 z117:=Tryz.sizeOf275
 v117:=Tryz.zeroValue275
 t119:=Tryz.underlying316
 a119:=Tryz.isAgg316
 z119:=Tryz.sizeOf316
 t124:=Tryz.underlying295
 a124:=Tryz.isAgg295
 z124:=Tryz.sizeOf295
 v124:=Tryz.zeroValue295
 t138:=Tryz.underlying318
 a138:=Tryz.isAgg318
 z138:=Tryz.sizeOf318
 v138:=Tryz.zeroValue318
 t139:=Tryz.underlying319
 a139:=Tryz.isAgg319
 z139:=Tryz.sizeOf319
 v139:=Tryz.zeroValue319
 g3:=by kernel_rfl
 g4:=by kernel_rfl}
def Tryz.zjZ:Go.Shelf.Ren:=⟨fun|137=>231|217=>261|266=>282|n=>n,fun|9=>9|5=>5|3=>3|n=>n,fun|n=>n⟩
theorem Tryz.lays137:Go.Proofs.Lays.n137 Tryz.prog Tryz.zjZ:= {
 mixed:=by kernel_rfl
 f137:=Tryz.func231.trans (congrArg some (by kernel_rfl))
 f217:=Tryz.func261.trans (congrArg some (by kernel_rfl))
 f266:=Tryz.func282.trans (congrArg some (by kernel_rfl))
 t3:=Tryz.underlying3
 a3:=Tryz.isAgg3
 z3:=Tryz.sizeOf3
 v3:=Tryz.zeroValue3
 t5:=Tryz.underlying5
 a5:=Tryz.isAgg5
 z5:=Tryz.sizeOf5
 v5:=Tryz.zeroValue5
 t9:=Tryz.underlying9
 a9:=Tryz.isAgg9
 z9:=Tryz.sizeOf9
 v9:=Tryz.zeroValue9}
def Tryz.zj0:Go.Shelf.Ren:=⟨fun|103=>181|210=>218|206=>85|n=>n,fun|9=>9|4=>4|24=>201|3=>3|n=>n,fun|n=>n⟩
theorem Tryz.zxI:Go.Proofs.Lays.n103 Tryz.prog Tryz.zj0:= {
 mixed:=by kernel_rfl
 f103:=Tryz.func181.trans (congrArg some (by kernel_rfl))
 f206:=Tryz.func85.trans (congrArg some (by kernel_rfl))
 f210:=Tryz.func218.trans (congrArg some (by kernel_rfl))
 t3:=Tryz.underlying3
 a3:=Tryz.isAgg3
 z3:=Tryz.sizeOf3
 v3:=Tryz.zeroValue3
 t4:=Tryz.underlying4
 a4:=Tryz.isAgg4
 z4:=Tryz.sizeOf4
 v4:=Tryz.zeroValue4
 t9:=Tryz.underlying9
 a9:=Tryz.isAgg9
 z9:=Tryz.sizeOf9
 v9:=Tryz.zeroValue9
 t24:=Tryz.underlying201
 a24:=Tryz.isAgg201
 z24:=Tryz.sizeOf201
 v24:=Tryz.zeroValue201}
def Tryz.zhu:Go.Shelf.Ren:=⟨fun|171=>103|243=>141|246=>191|283=>225|284=>226|285=>227|286=>228|129=>257|317=>256|318=>258|319=>259|320=>260|337=>280|338=>281|n=>n,fun|3=>3|9=>9|2=>2|4=>4|171=>265|0=>0|53=>266|37=>22|5=>5|173=>269|212=>290|51=>291|20=>20|213=>292|46=>117|232=>312|233=>313|n=>n,fun|17=>0|18=>2|19=>3|n=>n⟩
theorem Tryz.laysM171:Go.Proofs.LaysM.n171 Tryz.prog Tryz.zhu:= {
 mixed:=by kernel_rfl
 f129:=Tryz.func257.trans (congrArg some (by kernel_rfl))
 f171:=Tryz.func103.trans (congrArg some (by kernel_rfl))
 f243:=Tryz.func141.trans (congrArg some (by kernel_rfl))
 f246:=Tryz.func191.trans (congrArg some (by kernel_rfl))
 f283:=Tryz.func225.trans (congrArg some (by kernel_rfl))
 f284:=Tryz.func226.trans (congrArg some (by kernel_rfl))
 f285:=Tryz.func227.trans (congrArg some (by kernel_rfl))
 f286:=Tryz.func228.trans (congrArg some (by kernel_rfl))
 f317:=Tryz.func256.trans (congrArg some (by kernel_rfl))
 f318:=Tryz.func258.trans (congrArg some (by kernel_rfl))
 f319:=Tryz.func259.trans (congrArg some (by kernel_rfl))
 f320:=Tryz.func260.trans (congrArg some (by kernel_rfl))
 f337:=Tryz.func280.trans (congrArg some (by kernel_rfl))
 f338:=Tryz.func281.trans (congrArg some (by kernel_rfl))
 t0:=Tryz.underlying0
 a0:=Tryz.isAgg0
 z0:=Tryz.sizeOf0
 v0:=Tryz.zeroValue0
 t2:=Tryz.underlying2
 a2:=Tryz.isAgg2
 z2:=Tryz.sizeOf2
 v2:=Tryz.zeroValue2
 t3:=Tryz.underlying3
 a3:=Tryz.isAgg3
 z3:=Tryz.sizeOf3
 v3:=Tryz.zeroValue3
 t4:=Tryz.underlying4
 a4:=Tryz.isAgg4
 z4:=Tryz.sizeOf4
 v4:=Tryz.zeroValue4
 t5:=Tryz.underlying5
 a5:=Tryz.isAgg5
 z5:=Tryz.sizeOf5
 v5:=Tryz.zeroValue5
 t9:=Tryz.underlying9
 a9:=Tryz.isAgg9
 z9:=Tryz.sizeOf9
 v9:=Tryz.zeroValue9
 t20:=Tryz.underlying20
 a20:=Tryz.isAgg20
 z20:=Tryz.sizeOf20
 v20:=Tryz.zeroValue20
 t37:=Tryz.underlying22
 a37:=Tryz.isAgg22
 z37:=Tryz.sizeOf22
 v37:=Tryz.zeroValue22
 t46:=Tryz.underlying117
 a46:=Tryz.isAgg117
 z46:=Tryz.sizeOf117
 v46:=Tryz.zeroValue117
 t51:=Tryz.underlying291
 a51:=Tryz.isAgg291
 z51:=Tryz.sizeOf291
 v51:=Tryz.zeroValue291
 t53:=Tryz.underlying266
 a53:=Tryz.isAgg266
 z53:=Tryz.sizeOf266
 v53:=Tryz.zeroValue266
 t171:=Tryz.underlying265
 a171:=Tryz.isAgg265
 z171:=Tryz.sizeOf265
 v171:=Tryz.zeroValue265
 t173:=Tryz.underlying269
 a173:=Tryz.isAgg269
 z173:=Tryz.sizeOf269
 v173:=Tryz.zeroValue269
 t212:=Tryz.underlying290
 a212:=Tryz.isAgg290
 z212:=Tryz.sizeOf290
 v212:=Tryz.zeroValue290
 t213:=Tryz.underlying292
 a213:=Tryz.isAgg292
 z213:=Tryz.sizeOf292
 t232:=Tryz.underlying312
 a232:=Tryz.isAgg312
 z232:=Tryz.sizeOf312
 v232:=Tryz.zeroValue312
 t233:=Tryz.underlying313
 a233:=Tryz.isAgg313
 z233:=Tryz.sizeOf313
 v233:=Tryz.zeroValue313
 g17:=by kernel_rfl
 g18:=by kernel_rfl
 g19:=by kernel_rfl
 i0:=by kernel_rfl
 i2:=by kernel_rfl
 i3:=by kernel_rfl
 i4:=by kernel_rfl
 i5:=by kernel_rfl
 i9:=by kernel_rfl
 i20:=by kernel_rfl
 i37:=by kernel_rfl
 i46:=by kernel_rfl
 i51:=by kernel_rfl
 i53:=by kernel_rfl
 i171:=by kernel_rfl
 i173:=by kernel_rfl
 i212:=by kernel_rfl
 i232:=by kernel_rfl
 i233:=by kernel_rfl
 m17:=by kernel_rfl
 m18:=by kernel_rfl
 m19:=by kernel_rfl}
def Tryz.zjV:Go.Shelf.Ren:=⟨fun|219=>273|217=>261|225=>264|224=>263|267=>288|266=>282|314=>295|n=>n,fun|9=>9|3=>3|4=>4|5=>5|46=>117|146=>314|51=>291|n=>n,fun|1=>1|n=>n⟩
theorem Tryz.lays219:Go.Proofs.Lays.n219 Tryz.prog Tryz.zjV:= {
 mixed:=by kernel_rfl
 f217:=Tryz.func261.trans (congrArg some (by kernel_rfl))
 f219:=Tryz.func273.trans (congrArg some (by kernel_rfl))
 f224:=Tryz.func263.trans (congrArg some (by kernel_rfl))
 f225:=Tryz.func264.trans (congrArg some (by kernel_rfl))
 f266:=Tryz.func282.trans (congrArg some (by kernel_rfl))
 f267:=Tryz.func288.trans (congrArg some (by kernel_rfl))
 f314:=Tryz.func295.trans (congrArg some (by kernel_rfl))
 t3:=Tryz.underlying3
 a3:=Tryz.isAgg3
 z3:=Tryz.sizeOf3
 v3:=Tryz.zeroValue3
 t4:=Tryz.underlying4
 a4:=Tryz.isAgg4
 z4:=Tryz.sizeOf4
 v4:=Tryz.zeroValue4
 t5:=Tryz.underlying5
 a5:=Tryz.isAgg5
 z5:=Tryz.sizeOf5
 v5:=Tryz.zeroValue5
 t9:=Tryz.underlying9
 a9:=Tryz.isAgg9
 z9:=Tryz.sizeOf9
 v9:=Tryz.zeroValue9
 t46:=Tryz.underlying117
 a46:=Tryz.isAgg117
 z46:=Tryz.sizeOf117
 v46:=Tryz.zeroValue117
 t51:=Tryz.underlying291
 a51:=Tryz.isAgg291
 z51:=Tryz.sizeOf291
 v51:=Tryz.zeroValue291
 t146:=Tryz.underlying314
 a146:=Tryz.isAgg314
 z146:=Tryz.sizeOf314
 v146:=Tryz.zeroValue314
 g1:=by kernel_rfl}
def Tryz.zjY:Go.Shelf.Ren:=⟨fun|144=>211|143=>242|219=>273|217=>261|225=>264|224=>263|267=>288|266=>282|314=>295|n=>n,fun|9=>9|4=>4|3=>3|5=>5|46=>117|146=>314|51=>291|n=>n,fun|1=>1|n=>n⟩
theorem Tryz.lays144:Go.Proofs.Lays.n144 Tryz.prog Tryz.zjY:= {
 mixed:=by kernel_rfl
 f143:=Tryz.func242.trans (congrArg some (by kernel_rfl))
 f144:=Tryz.func211.trans (congrArg some (by kernel_rfl))
 f217:=Tryz.func261.trans (congrArg some (by kernel_rfl))
 f219:=Tryz.func273.trans (congrArg some (by kernel_rfl))
 f224:=Tryz.func263.trans (congrArg some (by kernel_rfl))
 f225:=Tryz.func264.trans (congrArg some (by kernel_rfl))
 f266:=Tryz.func282.trans (congrArg some (by kernel_rfl))
 f267:=Tryz.func288.trans (congrArg some (by kernel_rfl))
 f314:=Tryz.func295.trans (congrArg some (by kernel_rfl))
 t3:=Tryz.underlying3
 a3:=Tryz.isAgg3
 z3:=Tryz.sizeOf3
 v3:=Tryz.zeroValue3
 t4:=Tryz.underlying4
 a4:=Tryz.isAgg4
 z4:=Tryz.sizeOf4
 v4:=Tryz.zeroValue4
 t5:=Tryz.underlying5
 a5:=Tryz.isAgg5
 z5:=Tryz.sizeOf5
 v5:=Tryz.zeroValue5
 t9:=Tryz.underlying9
 a9:=Tryz.isAgg9
 z9:=Tryz.sizeOf9
 v9:=Tryz.zeroValue9
 t46:=Tryz.underlying117
 a46:=Tryz.isAgg117
 z46:=Tryz.sizeOf117
 v46:=Tryz.zeroValue117
 t51:=Tryz.underlying291
 a51:=Tryz.isAgg291
 z51:=Tryz.sizeOf291
 v51:=Tryz.zeroValue291
 t146:=Tryz.underlying314
 a146:=Tryz.isAgg314
 z146:=Tryz.sizeOf314
 v146:=Tryz.zeroValue314
 g1:=by kernel_rfl}
def Tryz.lays99_ren:Go.Shelf.Ren:=⟨fun|99=>48|206=>85|n=>n,fun|9=>9|4=>4|3=>3|n=>n,fun|n=>n⟩
theorem Tryz.lays99:Go.Proofs.Lays.n99 Tryz.prog Tryz.lays99_ren:= {
 mixed:=by kernel_rfl
 f99:=Tryz.func48.trans (congrArg some (by kernel_rfl))
 f206:=Tryz.func85.trans (congrArg some (by kernel_rfl))
 t3:=Tryz.underlying3
 a3:=Tryz.isAgg3
 z3:=Tryz.sizeOf3
 v3:=Tryz.zeroValue3
 t4:=Tryz.underlying4
 a4:=Tryz.isAgg4
 z4:=Tryz.sizeOf4
 v4:=Tryz.zeroValue4
 t9:=Tryz.underlying9
 a9:=Tryz.isAgg9
 z9:=Tryz.sizeOf9
 v9:=Tryz.zeroValue9}
def Tryz.lays146_ren:Go.Shelf.Ren:=⟨fun|146=>210|221=>241|268=>271|138=>272|143=>242|195=>286|197=>283|218=>287|219=>273|260=>293|217=>261|225=>264|224=>263|267=>288|266=>282|314=>295|n=>n,fun|9=>9|31=>146|3=>3|4=>4|0=>0|105=>306|21=>21|5=>5|46=>117|119=>316|139=>319|138=>318|146=>314|51=>291|n=>n,fun|1=>1|3=>4|4=>5|n=>n⟩
theorem Tryz.lays146:Go.Proofs.Lays.n146 Tryz.prog Tryz.lays146_ren:= {
 mixed:=by kernel_rfl
 f138:=Tryz.func272.trans (congrArg some (by kernel_rfl))
 f143:=Tryz.func242.trans (congrArg some (by kernel_rfl))
 f146:=Tryz.func210.trans (congrArg some (by kernel_rfl))
 f195:=Tryz.func286.trans (congrArg some (by kernel_rfl))
 f197:=Tryz.func283.trans (congrArg some (by kernel_rfl))
 f217:=Tryz.func261.trans (congrArg some (by kernel_rfl))
 f218:=Tryz.func287.trans (congrArg some (by kernel_rfl))
 f219:=Tryz.func273.trans (congrArg some (by kernel_rfl))
 f221:=Tryz.func241.trans (congrArg some (by kernel_rfl))
 f224:=Tryz.func263.trans (congrArg some (by kernel_rfl))
 f225:=Tryz.func264.trans (congrArg some (by kernel_rfl))
 f260:=Tryz.func293.trans (congrArg some (by kernel_rfl))
 f266:=Tryz.func282.trans (congrArg some (by kernel_rfl))
 f267:=Tryz.func288.trans (congrArg some (by kernel_rfl))
 f268:=Tryz.func271.trans (congrArg some (by kernel_rfl))
 f314:=Tryz.func295.trans (congrArg some (by kernel_rfl))
 t0:=Tryz.underlying0
 a0:=Tryz.isAgg0
 z0:=Tryz.sizeOf0
 v0:=Tryz.zeroValue0
 t3:=Tryz.underlying3
 a3:=Tryz.isAgg3
 z3:=Tryz.sizeOf3
 v3:=Tryz.zeroValue3
 t4:=Tryz.underlying4
 a4:=Tryz.isAgg4
 z4:=Tryz.sizeOf4
 v4:=Tryz.zeroValue4
 t5:=Tryz.underlying5
 a5:=Tryz.isAgg5
 z5:=Tryz.sizeOf5
 v5:=Tryz.zeroValue5
 t9:=Tryz.underlying9
 a9:=Tryz.isAgg9
 z9:=Tryz.sizeOf9
 v9:=Tryz.zeroValue9
 t21:=Tryz.underlying21
 a21:=Tryz.isAgg21
 z21:=Tryz.sizeOf21
 v21:=Tryz.zeroValue21
 t31:=Tryz.underlying146
 a31:=Tryz.isAgg146
 z31:=Tryz.sizeOf146
 v31:=Tryz.zeroValue146
 t46:=Tryz.underlying117
 a46:=Tryz.isAgg117
 z46:=Tryz.sizeOf117
 v46:=Tryz.zeroValue117
 t51:=Tryz.underlying291
 a51:=Tryz.isAgg291
 z51:=Tryz.sizeOf291
 v51:=Tryz.zeroValue291
 t105:=Tryz.underlying306
 a105:=Tryz.isAgg306
 z105:=Tryz.sizeOf306
 v105:=Tryz.zeroValue306
 t119:=Tryz.underlying316
 a119:=Tryz.isAgg316
 z119:=Tryz.sizeOf316
 t138:=Tryz.underlying318
 a138:=Tryz.isAgg318
 z138:=Tryz.sizeOf318
 v138:=Tryz.zeroValue318
 t139:=Tryz.underlying319
 a139:=Tryz.isAgg319
 z139:=Tryz.sizeOf319
 v139:=Tryz.zeroValue319
 t146:=Tryz.underlying314
 a146:=Tryz.isAgg314
 z146:=Tryz.sizeOf314
 v146:=Tryz.zeroValue314
 g1:=by kernel_rfl
 g3:=by kernel_rfl
 g4:=by kernel_rfl}
open Go.RowKit in
theorem Tryz.strings_IndexByte (s:ByteArray) (c:Int) (w:World):
 Calls Tryz.prog 231 #[.string s,.int .u8 c] w fun e w'=>e=.returned (.int .i64 (Lib.indexByte s.data.toList c.toNat.toUInt8))∧w'=w:=Any.strings_IndexByte Tryz.lays137 s c w
open Go.RowKit in
theorem Tryz.strings_CutPrefix (s p:ByteArray) (w:World):
 Calls Tryz.prog 181 #[.string s,.string p] w fun e w'=>e=.returned (.tuple #[.string ⟨(Lib.trimPrefix s.data.toList p.data.toList).toArray⟩,.bool (Lib.hasPrefix s.data.toList p.data.toList)])∧w'=w:=Any.strings_CutPrefix Tryz.zxI s p w
open Go.RowKit Go.Sort Go.Lib in
theorem Tryz.strconv_Itoa (n:Int) (h0: -9223372036854775808≤n) (h1:n≤9223372036854775807) (w:World) (htab:Lib.TabIs Tryz.prog w "internal/strconv.uint64pow10" .u64 Lib.pow10Tab):
 Calls Tryz.prog 103 #[.int .i64 n] w fun e w'=>e=.returned (.string ⟨(Lib.itoa n).toArray⟩)∧∃ k os,w'=grow (w.drewN k) os:=Any.strconv_Itoa Tryz.laysM171 n h0 h1 w htab
open Go.RowKit Go.Lib in
theorem Tryz.stringslite_Index_one (s:ByteArray) (c:UInt8) (w:World):
 Calls Tryz.prog 273 #[.string s,.string ⟨#[c]⟩] w fun e w'=>e=.returned (.int .i64 (Lib.indexByte s.data.toList c))∧w'=w:=Any.stringslite_Index_one Tryz.lays219 s c w
open Go.RowKit Go.Lib in
theorem Tryz.strings_Contains_one (s:ByteArray) (c:UInt8) (w:World):
 Calls Tryz.prog 211 #[.string s,.string ⟨#[c]⟩] w fun e w'=>e=.returned (.bool (decide (0≤Lib.indexByte s.data.toList c)))∧w'=w:=Any.strings_Contains_one Tryz.lays144 s c w
open Go.RowKit Go.Lib in
theorem Tryz.strings_HasPrefix (s p:ByteArray) (w:World):
 Calls Tryz.prog 48 #[.string s,.string p] w fun e w'=>e=.returned (.bool (Lib.hasPrefix s.data.toList p.data.toList))∧w'=w:=Any.strings_HasPrefix Tryz.lays99 s p w
open Go.RowKit Go.Lib in
theorem Tryz.strings_Split (s sep:ByteArray) (m:Int) (w:World) (hs:s.size<4294967281) (hm:w.cell? ⟨1,0,none⟩=some (.int .i64 m)) (h1:1≤sep.size):
 Calls Tryz.prog 210 #[.string s,.string sep] w fun e w'=>
  e=.returned (.slice (some ⟨w.heap.size,0,none⟩) (Lib.countB s sep+1) (Lib.countB s sep+1))∧w'=w.alloc (.cells ((Lib.splitB sep 0 (Lib.countB s sep) s).map Value.string).toArray 9):=Any.strings_Split Tryz.lays146 (by kernel_rfl) s sep m w hs hm h1
theorem Tryz.strings_Trim_laid (s cutset:ByteArray) (w:World) (hs:s.size≤9223372036854775807) (hcs:cutset.size<4294967281) (hascii: ∀ (j:Nat) b,cutset.data.toList[j]? =some b→b.toNat<128):
 Calls Tryz.prog 237 #[.string s,.string cutset] w fun e w'=>e=.returned (.string ⟨(Lib.trimS s.data.toList cutset.data.toList).toArray⟩)∧Go.RowKit.Below w.heap.size w w':=Any.strings_Trim_laid Tryz.lays160 (by kernel_rfl) s cutset w hs hcs hascii
theorem Tryz.strings_TrimLeft_laid (s cutset:ByteArray) (w:World) (hcs:cutset.size<4294967281) (hascii: ∀ (j:Nat) b,cutset.data.toList[j]? =some b→b.toNat<128):
 Calls Tryz.prog 278 #[.string s,.string cutset] w fun e w'=>e=.returned (.string ⟨(Lib.trimLeftS s.data.toList cutset.data.toList).toArray⟩)∧Go.RowKit.Below w.heap.size w w':=Any.strings_TrimLeft_laid Tryz.lays161 (by kernel_rfl) s cutset w hcs hascii
end Go.Proofs
namespace Go.Ab
open Go Go.Sep
variable [Facts]
theorem zkL {w w':World} (h:RowKit.Below w.heap.size w w'):Keeps (fun k=>k<w.heap.size) w w':=⟨h.1,h.2,h.3,h.4,h.5⟩
theorem Spc.of_below {Pr:Program} {f:Nat} {args:List D} {hp:List HO} {d:D} (hf: ∃ fn,Pr.funcs[f]? =some fn∧(fn.name == "runtime.NumGoroutine")=false∧fn.body.isNone=false)
  (h: ∀ (S:Frz) (bs:List Value) (w:World) (vs:List Value),Facts.p w→MDs S bs args vs→∃ v,MD S bs d v∧Calls Pr f vs.toArray w fun e w'=>e=.returned v∧RowKit.Below w.heap.size w w'):Spc Pr f args hp (.ret d) hp:=by
 refine⟨hf,fun S K fr w vs hH hM hA=> ?_⟩;obtain⟨v,hv,hc⟩:=h S _ w vs (At.frz hA).facts hM;refine hc.mono fun e w' he=> ?_;obtain⟨he,hb⟩:=he;subst he;exact⟨S,K,Frz.le.refl S,Ext.refl _,hH,hA.keep (zkL hb),hv⟩
end Go.Ab
namespace Go.Proofs.YtkjepecoodjbmaaGreatDoor
open Go Go.Sep Go.Ab
set_option maxRecDepth 100000
theorem zk1 (s cs:Str):(Lib.trimS s cs).length≤s.length:=by
 unfold Lib.trimS Lib.trimLeftS Lib.trimRightS;refine Nat.le_trans (List.dropWhile_sublist _).length_le ?_;rw [List.length_reverse]
 exact Nat.le_trans (List.dropWhile_sublist _).length_le (by rw [List.length_reverse];exact jL _)
theorem yF: ∀ (s:Str) (c:UInt8),-1≤Lib.indexByte s c∧Lib.indexByte s c<s.length
 |[],c=>by simp [Lib.indexByte]
 | b ::l,c=>by
   have:=yF l c;unfold Lib.indexByte;rw [jh]
   split
   · omega
   · split
     · omega
     · omega
def zeM (I:Alg):KU
 |[.v (.one (.p (.str s))),.v (.one (.p (.str ([32,9]))))],[]=>(fun(s:Str)=>(some (.one ⟨I.hid (True),(.ret (.v (.one (.p (.str (I.hid (Lib.trimS s [32,9]))))))),[]⟩):Option CT)) s
 |_,_=>none
theorem zpk:zu Tryz.prog 237 (zeM alg):=by
 intro args hp r h;unfold zeM at h;split at h<;>cases h
 rename_i s;simp only [CT.Good,zh];intro _
 refine Spc.of_below ⟨_,Tryz.func237,by kernel_rfl,by kernel_rfl⟩ fun S bs w vs _ hM=> ?_
 obtain⟨v,r,rfl⟩: ∃ v r,vs=v::r:=by cases vs with|nil=>exact hM.elim|cons v r=>exact⟨v,r,rfl⟩
 obtain⟨h1,hM⟩:=hM
 obtain⟨v2,r2,rfl⟩: ∃ v r2,r=v::r2:=by cases r with|nil=>exact hM.elim|cons v r=>exact⟨v,r,rfl⟩
 obtain⟨h2,hM⟩:=hM
 obtain rfl:r2=[]:=by cases r2 with|nil=>rfl|cons v r=>exact hM.elim
 cases h1 with
 | str _ hl1=>
   cases h2 with
   | str _ hl2=>
     refine⟨.string (Sep.S (Lib.trimS s [32,9])),.str _ (Nat.le_trans (zk1 _ _) hl1),?_⟩
     exact Tryz.strings_Trim_laid (Sep.S s) (Sep.S [32,9]) w (by have:=hl1;unfold maxLen at this;exact this) (by decide) (fun j b hb=>by
      have:=List.mem_of_getElem? hb
      rcases(by simpa [Sep.S] using this:b=32∨b=9) with rfl|rfl<;>decide)
def zw1:Know Tryz.prog:=⟨237,zeM,zpk⟩
def zw0:Know Tryz.prog:=⟨237,fun I=>zx I (zeM I),zf zpk⟩
def qP (I:Alg):KU
 |[.v (.one (.p (.str s))),.v (.one (.p (.int .u8 k)))],[]=>(fun(s:Str)=>(some (.one ⟨I.hid (True),(.ret (.v (.one (.p (.int .i64 (I.hid (Lib.indexByte s k.toNat.toUInt8))))))),[]⟩):Option CT)) s
 |_,_=>none
theorem Qm:zu Tryz.prog 231 (qP alg):=by
 intro args hp r h;unfold qP at h;split at h<;>cases h
 rename_i s k;simp only [CT.Good,zh];intro _
 refine Spc.of_below ⟨_,Tryz.func231,by kernel_rfl,by kernel_rfl⟩ fun S bs w vs _ hM=> ?_
 obtain⟨v,r,rfl⟩: ∃ v r,vs=v::r:=by cases vs with|nil=>exact hM.elim|cons v r=>exact⟨v,r,rfl⟩
 obtain⟨h1,hM⟩:=hM
 obtain⟨v2,r2,rfl⟩: ∃ v r2,r=v::r2:=by cases r with|nil=>exact hM.elim|cons v r=>exact⟨v,r,rfl⟩
 obtain⟨h2,hM⟩:=hM
 obtain rfl:r2=[]:=by cases r2 with|nil=>rfl|cons v r=>exact hM.elim
 cases h1 with
 | str _ hl1=>
   cases h2 with
   | int _ _=>
     refine⟨.int .i64 (Lib.indexByte s k.toNat.toUInt8),.int _ _,?_⟩;refine(Tryz.strings_IndexByte (Sep.S s) k w).mono fun e w' h=> ?_;obtain⟨he,rfl⟩:=h;exact⟨he,RowKit.Below.refl _ _⟩
def zhG:Know Tryz.prog:=⟨231,qP,Qm⟩
def zhF:Know Tryz.prog:=⟨231,fun I=>zx I (qP I),zf Qm⟩
def UA (I:Alg):KU
 |[.v (.one (.p (.str s))),.v (.one (.p (.str ([c]))))],[]=>(fun(s:Str)=>(some (.one ⟨I.hid (True),(.ret (.v (.one (.p (.int .i64 (I.hid (Lib.indexByte s c))))))),[]⟩):Option CT)) s
 |_,_=>none
theorem zhH:zu Tryz.prog 273 (UA alg):=by
 intro args hp r h;unfold UA at h;split at h<;>cases h
 rename_i s c;simp only [CT.Good,zh];intro _
 refine Spc.of_below ⟨_,Tryz.func273,by kernel_rfl,by kernel_rfl⟩ fun S bs w vs _ hM=> ?_
 obtain⟨v,r,rfl⟩: ∃ v r,vs=v::r:=by cases vs with|nil=>exact hM.elim|cons v r=>exact⟨v,r,rfl⟩
 obtain⟨h1,hM⟩:=hM
 obtain⟨v2,r2,rfl⟩: ∃ v r2,r=v::r2:=by cases r with|nil=>exact hM.elim|cons v r=>exact⟨v,r,rfl⟩
 obtain⟨h2,hM⟩:=hM
 obtain rfl:r2=[]:=by cases r2 with|nil=>rfl|cons v r=>exact hM.elim
 cases h1 with
 | str _ hl1=>
   cases h2 with
   | str _ _=>
     refine⟨.int .i64 (Lib.indexByte s c),.int _ _,?_⟩;refine(Tryz.stringslite_Index_one (Sep.S s) c w).mono fun e w' h=> ?_;obtain⟨he,rfl⟩:=h;exact⟨he,RowKit.Below.refl _ _⟩
def zrK:Know Tryz.prog:=⟨273,UA,zhH⟩
def zrJ:Know Tryz.prog:=⟨273,fun I=>zx I (UA I),zf zhH⟩
end Go.Proofs.YtkjepecoodjbmaaGreatDoor
namespace Go.Proofs.YtkjepecoodjbmaaGreatDoor
open Go Go.Sep Go.Ab
set_option maxRecDepth 100000
def lowK (k:Int):Int:=if 65≤k∧k≤90 then k+32 else k
def U6 (k:Int):Bool:=decide (48≤k∧k≤57)
def Vf (k:Int):Bool:=decide (97≤lowK k∧lowK k≤122)
def marks:Str:=[33,35,36,37,38,39,42,43,45,46,94,95,96,124,126]
def tokB (k:Int):Bool:=U6 k||(Vf k||decide (0≤Lib.indexByte marks k.toNat.toUInt8))
def YP (k:Int):Bool:=decide (k=9∨32≤k∧k≠127)
def hexK (k:Int):Int:=if U6 k then k - 48 else if Vf k&&decide (lowK k≤102) then lowK k - 97+10 else -1
theorem zAh (n:Int) (h:0≤n∧n≤255):IntKind.u8.wrap n=n:=by
 unfold IntKind.wrap
 simp only [show IntKind.u8.signed=false by decide,show IntKind.u8.bits=8 by decide,Bool.false_and,jd,if_false]
 omega
theorem wrap64 (n:Int) (h: -9223372036854775808≤n∧n≤9223372036854775807):IntKind.i64.wrap n=n:=by
 unfold IntKind.wrap
 simp only [show IntKind.i64.signed=true by decide,show IntKind.i64.bits=64 by decide]
 split<;>simp_all<;>omega
theorem zrp {k:Int} (h:0≤k∧k≤255):0≤lowK k∧lowK k≤255:=by unfold lowK;split<;>omega
def za8 (I:Alg):KU
 |[.v (.one (.p (.int .u8 k)))],[]=>some (.one ⟨I.hid (True),(.ret (.v (.one (.p (.bool (I.hid (U6 k))))))),[]⟩)
 |_,_=>none
theorem znq:zu Tryz.prog 229 (za8 alg):=by
 intro args hp r h;unfold za8 at h;split at h<;>cases h
 rename_i k;simp only [CT.Good,zh];intro _
 refine spH Tryz.func229 (by kernel_rfl) { keep:=some [0,2]} [] (by kernel_rfl) ?_
 intro I X hI hX
 refine orcL ?_;go_invoke;refine orcS (by kernel_rfl) ?_
 simp only [zi,Nat.reduceAdd];subst hI;simp only [nrmA,nrmB];unfold U6
 exact⟨fun h=>decide_eq_decide.2 (by omega),fun h=>(decide_eq_false (by omega)).symm⟩
def znp:Know Tryz.prog:=⟨229,za8,znq⟩
def zno:Know Tryz.prog:=⟨229,fun I=>zx I (za8 I),zf znq⟩
def zaK (I:Alg):KU
 |[.v (.one (.p (.int .u8 k)))],[]=>some (.one ⟨I.hid (0≤k∧k≤255),(.ret (.v (.one (.p (.int .u8 (I.hid (lowK k))))))),[]⟩)
 |_,_=>none
theorem zmz:zu Tryz.prog 236 (zaK alg):=by
 intro args hp r h;unfold zaK at h;split at h<;>cases h
 rename_i k;simp only [CT.Good,zh];intro hneed
 refine spH Tryz.func236 (by kernel_rfl) { keep:=some [0,2]} [] (by kernel_rfl) ?_
 intro I X hI hX
 refine orcL ?_;go_invoke;refine orcS (by kernel_rfl) ?_
 simp only [zi,Nat.reduceAdd];subst hI;simp only [nrmA,nrmB];unfold lowK
 (repeat' (first|refine ja ?_ ?_|intro _))<;>first|omega|exact jb|exact jc ‹False›|skip
def zaJ:Know Tryz.prog:=⟨236,zaK,zmz⟩
def zaI:Know Tryz.prog:=⟨236,fun I=>zx I (zaK I),zf zmz⟩
def Ut (I:Alg):KU
 |[.v (.one (.p (.int .u8 k)))],[]=>some (.one ⟨I.hid (0≤k∧k≤255),(.ret (.v (.one (.p (.bool (I.hid (Vf k))))))),[]⟩)
 |_,_=>none
theorem zht:zu Tryz.prog 230 (Ut alg):=by
 intro args hp r h;unfold Ut at h;split at h<;>cases h
 rename_i k;simp only [CT.Good,zh];intro hneed
 refine spH Tryz.func230 (by kernel_rfl) { keep:=some [0,2]} [zaJ,zaI] (by kernel_rfl) ?_
 intro I X hI hX
 refine orcL ?_;go_invoke;refine orcS (by kernel_rfl) ?_
 simp only [zi,Nat.reduceAdd];subst hI;simp only [nrmA,nrmB];unfold Vf
 (repeat' (first|refine ja ?_ ?_|intro _))<;>first|omega|exact jb|exact jc ‹False›|skip
 all_goals first|exact decide_eq_decide.2 (by omega)|exact(decide_eq_false (by omega)).symm|exact(decide_eq_true (by omega)).symm|(rw [show(k == 127)=decide (k=127) from rfl,← decide_not];exact decide_eq_decide.2 (by omega))
def zhs:Know Tryz.prog:=⟨230,Ut,zht⟩
def zhr:Know Tryz.prog:=⟨230,fun I=>zx I (Ut I),zf zht⟩
def QW (I:Alg):KU
 |[.v (.one (.p (.int .u8 k)))],[]=>some (.one ⟨I.hid (0≤k∧k≤255),(.ret (.v (.one (.p (.bool (I.hid (tokB k))))))),[]⟩)
 |_,_=>none
theorem zk6:zu Tryz.prog 193 (QW alg):=by
 intro args hp r h;unfold QW at h;split at h<;>cases h
 rename_i k;simp only [CT.Good,zh];intro hneed
 refine spH Tryz.func193 (by kernel_rfl) { keep:=some [0,2]} [zhG,zhF,znp,zno,zhs,zhr] (by kernel_rfl) ?_
 intro I X hI hX
 refine orcL ?_;go_invoke;refine orcS (by kernel_rfl) ?_
 simp only [zi,Nat.reduceAdd];subst hI;simp only [nrmA,nrmB];unfold tokB marks
 (repeat' (first|refine ja ?_ ?_|intro _))<;>first|omega|exact jb|exact jc ‹False›|skip
 all_goals simp [*]
def ZN:Know Tryz.prog:=⟨193,QW,zk6⟩
def Vr:Know Tryz.prog:=⟨193,fun I=>zx I (QW I),zf zk6⟩
def Xp (I:Alg):KU
 |[.v (.one (.p (.int .u8 k)))],[]=>some (.one ⟨I.hid (True),(.ret (.v (.one (.p (.bool (I.hid (YP k))))))),[]⟩)
 |_,_=>none
theorem zdj:zu Tryz.prog 170 (Xp alg):=by
 intro args hp r h;unfold Xp at h;split at h<;>cases h
 rename_i k;simp only [CT.Good,zh];intro _
 refine spH Tryz.func170 (by kernel_rfl) { keep:=some [0,2]} [] (by kernel_rfl) ?_
 intro I X hI hX
 refine orcL ?_;go_invoke;refine orcS (by kernel_rfl) ?_
 simp only [zi,Nat.reduceAdd];subst hI;simp only [nrmA,nrmB];unfold YP
 (repeat' (first|refine ja ?_ ?_|intro _))<;>first|omega|exact jb|exact jc ‹False›|skip
 all_goals first|exact decide_eq_decide.2 (by omega)|exact(decide_eq_false (by omega)).symm|exact(decide_eq_true (by omega)).symm|(rw [show(k == 127)=decide (k=127) from rfl,← decide_not];exact decide_eq_decide.2 (by omega))
def rC:Know Tryz.prog:=⟨170,Xp,zdj⟩
def Xo:Know Tryz.prog:=⟨170,fun I=>zx I (Xp I),zf zdj⟩
def Uy (I:Alg):KU
 |[.v (.one (.p (.int .u8 k)))],[]=>some (.one ⟨I.hid (True),(.ret (.v (.one (.p (.bool (I.hid (YP k))))))),[]⟩)
 |_,_=>none
theorem zhy:zu Tryz.prog 70 (Uy alg):=by
 intro args hp r h;unfold Uy at h;split at h<;>cases h
 rename_i k;simp only [CT.Good,zh];intro _
 refine spH Tryz.func70 (by kernel_rfl) { keep:=some [0,2]} [] (by kernel_rfl) ?_
 intro I X hI hX
 refine orcL ?_;go_invoke;refine orcS (by kernel_rfl) ?_
 simp only [zi,Nat.reduceAdd];subst hI;simp only [nrmA,nrmB];unfold YP
 (repeat' (first|refine ja ?_ ?_|intro _))<;>first|omega|exact jb|exact jc ‹False›|skip
 all_goals first|exact decide_eq_decide.2 (by omega)|exact(decide_eq_false (by omega)).symm|exact(decide_eq_true (by omega)).symm|(rw [show(k == 127)=decide (k=127) from rfl,← decide_not];exact decide_eq_decide.2 (by omega))
def Ux:Know Tryz.prog:=⟨70,Uy,zhy⟩
def Uw:Know Tryz.prog:=⟨70,fun I=>zx I (Uy I),zf zhy⟩
def zmN (I:Alg):KU
 |[.v (.one (.p (.int .u8 k)))],[]=>some (.one ⟨I.hid (0≤k∧k≤255),(.ret (.v (.one (.p (.int .i64 (I.hid (hexK k))))))),[]⟩)
 |_,_=>none
theorem zwt:zu Tryz.prog 249 (zmN alg):=by
 intro args hp r h;unfold zmN at h;split at h<;>cases h
 rename_i k;simp only [CT.Good,zh];intro hneed
 refine spH Tryz.func249 (by kernel_rfl) { keep:=some [0,2]} [znp,zno,zaJ,zaI,zhs,zhr] (by kernel_rfl) ?_
 intro I X hI hX
 refine orcL ?_;go_invoke;refine orcS (by kernel_rfl) ?_
 simp only [zi,Nat.reduceAdd];subst hI;simp only [nrmA,nrmB]
 (repeat' (first|refine ja ?_ ?_|intro _))<;>first|omega|exact jb|exact jc ‹False›|skip
 all_goals first
  |(have:=of_decide_eq_true ‹U6 k=true›;omega)
  |(have:=of_decide_eq_true ‹U6 k=true›;unfold hexK;rw [if_pos ‹U6 k=true›,wrap64 _ (by omega)])
  |(have:=of_decide_eq_true ‹Vf k=true›;omega)
  |(have:=of_decide_eq_true ‹Vf k=true›;rw [wrap64 _ (by omega)];omega)
  |(have:=of_decide_eq_true ‹Vf k=true›;rw [wrap64 _ (by omega)];unfold hexK;simp [*])
  |(unfold hexK;simp [*])
def zd3:Know Tryz.prog:=⟨249,zmN,zwt⟩
def zd2:Know Tryz.prog:=⟨249,fun I=>zx I (zmN I),zf zwt⟩
end Go.Proofs.YtkjepecoodjbmaaGreatDoor
namespace Go.Proofs.YtkjepecoodjbmaaGreatDoor
open Go Go.Sep Go.Ab
set_option maxRecDepth 100000
def tokA (s:Str):Bool:=s.all fun c=>tokB (c.toNat:Int)
def yN (s:Str):Bool:=s.all fun c=>YP (c.toNat:Int)
theorem xR (c:UInt8):0≤(c.toNat:Int)∧(c.toNat:Int)≤255:=by have:=c.toNat_lt;omega
theorem zbj {p:UInt8→Bool} {s:Str} {i:Nat} (h:i<s.length):(s.drop i).all p=(p (s.getD i 0)&&(s.drop (i+1)).all p):=by
 rw [jE h,List.all_cons];simp [h]
def TK (I:Alg):KU
 |[.v (.one (.p (.str s))),.v (.one (.fn 193 []))],[]=>(fun(s:Str)=>(some (.one ⟨I.hid (s.length≤1000000),(.ret (.v (.one (.p (.bool (I.hid (tokA s))))))),[]⟩):Option CT)) s
 |_,_=>none
theorem zja:zu Tryz.prog 192 (TK alg):=by
 intro args hp r h;unfold TK at h;split at h<;>cases h
 rename_i s;simp only [CT.Good,zh];intro hneed;generalize hr:tokA s=r
 refine spH Tryz.func192 (by kernel_rfl) { keep:=some [0,1,4,5,7,8]} [ZN] (by kernel_rfl) ?_
 intro I X hI hX
 refine orcL ?_;go_invoke;refine orcS (by kernel_rfl) ?_
 simp only [zi,Nat.reduceAdd]
 refine lpH hI [ZN] hX [0,1,7,8] (fun(i:Nat)=>i≤s.length∧tokA (s.drop i)=r) (fun(i:Nat)=>⟨[(0,.v (.one (.p (.str s)))),(1,.v (.one (.fn 193 []))),(7,.v (.one (.p (.int .i64 ((I.len (α:=UInt8) s)))))),(8,.v (.one (.p (.int .i64 i))))],[],18,none⟩) (fun(i:Nat)=>s.length - i) 0 (by kernel_rfl) (by kernel_rfl) ?_ ?_
 · exact⟨jM _,hr⟩
 rintro i ⟨h1,h2⟩ A hA
 refine orcL ?_;go_invoke;refine orcS (by kernel_rfl) ?_
 simp only [zi,Nat.reduceAdd];subst hI;simp only [nrmA,nrmB];have hb:=xR (s.getD i 0);have hd:i<s.length→tokA (s.drop i)=(tokB (s.getD i 0).toNat&&tokA (s.drop (i+1))):=fun h=>zbj h;generalize s.getD i 0=x at *
 (repeat' (first|refine ja ?_ ?_|intro _))<;>first|omega|exact jb|exact jc ‹False›|skip
 all_goals first
  |(rw [← h2,hd (by omega)];simp [*];done)
  |(refine hA (i+1) ⟨by omega,?_⟩ (by omega);rw [← h2,hd (by omega)];simp [*];done)
  |(rw [← h2,jF (by omega)];rfl)
def TJ:Know Tryz.prog:=⟨192,TK,zja⟩
def TI:Know Tryz.prog:=⟨192,fun I=>zx I (TK I),zf zja⟩
def WA (I:Alg):KU
 |[.v (.one (.p (.str s))),.v (.one (.fn 170 []))],[]=>(fun(s:Str)=>(some (.one ⟨I.hid (s.length≤1000000),(.ret (.v (.one (.p (.bool (I.hid (yN s))))))),[]⟩):Option CT)) s
 |_,_=>none
theorem zeJ:zu Tryz.prog 192 (WA alg):=by
 intro args hp r h;unfold WA at h;split at h<;>cases h
 rename_i s;simp only [CT.Good,zh];intro hneed;generalize hr:yN s=r
 refine spH Tryz.func192 (by kernel_rfl) { keep:=some [0,1,4,5,7,8]} [rC,TJ,TI] (by kernel_rfl) ?_
 intro I X hI hX
 refine orcL ?_;go_invoke;refine orcS (by kernel_rfl) ?_
 simp only [zi,Nat.reduceAdd]
 refine lpH hI [rC,TJ,TI] hX [0,1,7,8] (fun(i:Nat)=>i≤s.length∧yN (s.drop i)=r) (fun(i:Nat)=>⟨[(0,.v (.one (.p (.str s)))),(1,.v (.one (.fn 170 []))),(7,.v (.one (.p (.int .i64 ((I.len (α:=UInt8) s)))))),(8,.v (.one (.p (.int .i64 i))))],[],18,none⟩) (fun(i:Nat)=>s.length - i) 0 (by kernel_rfl) (by kernel_rfl) ?_ ?_
 · exact⟨jM _,hr⟩
 rintro i ⟨h1,h2⟩ A hA
 refine orcL ?_;go_invoke;refine orcS (by kernel_rfl) ?_
 simp only [zi,Nat.reduceAdd];subst hI;simp only [nrmA,nrmB];have hb:=xR (s.getD i 0);have hd:i<s.length→yN (s.drop i)=(YP (s.getD i 0).toNat&&yN (s.drop (i+1))):=fun h=>zbj h;generalize s.getD i 0=x at *
 (repeat' (first|refine ja ?_ ?_|intro _))<;>first|omega|exact jb|exact jc ‹False›|skip
 all_goals first
  |(rw [← h2,hd (by omega)];simp [*];done)
  |(refine hA (i+1) ⟨by omega,?_⟩ (by omega);rw [← h2,hd (by omega)];simp [*];done)
  |(rw [← h2,jF (by omega)];rfl)
def zeI:Know Tryz.prog:=⟨192,WA,zeJ⟩
def zeH:Know Tryz.prog:=⟨192,fun I=>zx I (WA I),zf zeJ⟩
def wZ (s:Str):Bool:=decide (s≠[])&&tokA s
def X4 (I:Alg):KU
 |[.v (.one (.p (.str s)))],[]=>(fun(s:Str)=>(some (.one ⟨I.hid (s.length≤1000000),(.ret (.v (.one (.p (.bool (I.hid (wZ s))))))),[]⟩):Option CT)) s
 |_,_=>none
theorem zd0:zu Tryz.prog 142 (X4 alg):=by
 intro args hp r h;unfold X4 at h;split at h<;>cases h
 rename_i s;simp only [CT.Good,zh];intro hneed
 refine spH Tryz.func142 (by kernel_rfl) { keep:=some [0,2]} [ZN,Vr,TJ,TI,zeI,zeH] (by kernel_rfl) ?_
 intro I X hI hX
 refine orcL ?_;go_invoke;refine orcS (by kernel_rfl) ?_
 simp only [zi,Nat.reduceAdd];subst hI;simp only [nrmA,nrmB];unfold wZ
 (repeat' (first|refine ja ?_ ?_|intro _))<;>first|omega|exact jb|exact jc ‹False›|skip
 all_goals simp [*]
def rF:Know Tryz.prog:=⟨142,X4,zd0⟩
def rE:Know Tryz.prog:=⟨142,fun I=>zx I (X4 I),zf zd0⟩
def qN (I:Alg):KU
 |[.v (.one (.p (.str s)))],[]=>(fun(s:Str)=>(some (.one ⟨I.hid (s.length≤1000000),(.ret (.v (.one (.p (.bool (I.hid (yN s))))))),[]⟩):Option CT)) s
 |_,_=>none
theorem Ql:zu Tryz.prog 144 (qN alg):=by
 intro args hp r h;unfold qN at h;split at h<;>cases h
 rename_i s;simp only [CT.Good,zh];intro hneed
 refine spH Tryz.func144 (by kernel_rfl) { keep:=some [0,2]} [rC,Xo,TJ,TI,zeI,zeH] (by kernel_rfl) ?_
 intro I X hI hX
 refine orcL ?_;go_invoke;refine orcS (by kernel_rfl) ?_
 simp only [zi,Nat.reduceAdd];subst hI;simp only [nrmA,nrmB];exact hneed
def wU:Know Tryz.prog:=⟨144,qN,Ql⟩
def wS:Know Tryz.prog:=⟨144,fun I=>zx I (qN I),zf Ql⟩
def zmi (I:Alg):KU
 |[.v (.one (.p (.int .u8 k))),.v (.one (.p (.str s)))],[]=>(fun(s:Str)=>(some (.one ⟨I.hid (s.length≤1000000∧0≤k∧k≤255),(.ret (.v (.one (.p (.bool (I.hid (s.contains (UInt8.ofNat k.toNat)))))))),[]⟩):Option CT)) s
 |_,_=>none
theorem zwg:zu Tryz.prog 115 (zmi alg):=by
 intro args hp r h;unfold zmi at h;split at h<;>cases h
 rename_i k s;simp only [CT.Good,zh];intro hneed;generalize hr:s.contains (UInt8.ofNat k.toNat)=r
 refine spH Tryz.func115 (by kernel_rfl) { keep:=some [0,1,4,5]} [] (by kernel_rfl) ?_
 intro I X hI hX
 refine orcL ?_;go_invoke;refine orcS (by kernel_rfl) ?_
 simp only [zi,Nat.reduceAdd]
 refine lpH hI [] hX [0,1,5] (fun(i:Nat)=>i≤s.length∧(s.drop i).contains (UInt8.ofNat k.toNat)=r) (fun(i:Nat)=>⟨[(0,.v (.one (.p (.int .u8 k)))),(1,.v (.one (.p (.str s)))),(5,.v (.one (.p (.int .i64 i))))],[],17,none⟩) (fun(i:Nat)=>s.length - i) 0 (by kernel_rfl) (by kernel_rfl) ?_ ?_
 · exact⟨jM _,hr⟩
 rintro i ⟨h1,h2⟩ A hA
 refine orcL ?_;go_invoke;refine orcS (by kernel_rfl) ?_
 simp only [zi,Nat.reduceAdd];subst hI;simp only [nrmA,nrmB]
 have hd:i<s.length→(s.drop i).contains (UInt8.ofNat k.toNat)=((UInt8.ofNat k.toNat == s.getD i 0)||(s.drop (i+1)).contains (UInt8.ofNat k.toNat)):=fun h=>by
  rw [jE h,List.contains_cons];simp [h]
 have hc:((s.getD i 0).toNat:Int)=k↔UInt8.ofNat k.toNat=s.getD i 0:=by
  rw [← UInt8.toNat_inj,UInt8.toNat_ofNat'];omega
 rw [hc];generalize s.getD i 0=x at *
 (repeat' (first|refine ja ?_ ?_|intro _))<;>first|omega|exact jb|exact jc ‹False›|skip
 all_goals first
  |(rw [← h2,hd (by omega)];simp [*];done)
  |(refine hA (i+1) ⟨by omega,?_⟩ (by omega);rw [← h2,hd (by omega)];simp [*];done)
  |(rw [← h2,jF (by omega)];rfl)
def zq6:Know Tryz.prog:=⟨115,zmi,zwg⟩
def zq5:Know Tryz.prog:=⟨115,fun I=>zx I (zmi I),zf zwg⟩
def tokR:Str:=[48,49,50,51,52,53,54,55,56,57,65,66,67,68,69,70,71,72,73,74,75,76,77,78,79,80,81,82,83,84,85,86,87,88,89,90,97,98,99,100,101,102,103,104,105,106,107,108,109,110,111,112,113,114,115,116,117,118,119,120,121,122,33,35,36,37,38,39,42,43,45,46,94,95,96,124,126]
theorem zvT {p:Int→Prop} [∀ k,Decidable (p k)] (h: ∀ n:Fin 256,p (n.1:Int)) {k:Int} (hk:0≤k∧k≤255):p k:=by
 have:=h ⟨k.toNat,by omega⟩
 rwa [show((k.toNat:Nat):Int)=k by omega] at this
theorem ztG {k:Int} (hk:0≤k∧k≤255):tokR.contains (UInt8.ofNat k.toNat)=tokB k:=
 zvT (p:=fun k=>tokR.contains (UInt8.ofNat k.toNat)=tokB k) (by decide+kernel) hk
def uO (I:Alg):KU
 |[.v (.one (.p (.int .u8 k)))],[]=>some (.one ⟨I.hid (0≤k∧k≤255),(.ret (.v (.one (.p (.bool (I.hid (tokB k))))))),[]⟩)
 |_,_=>none
theorem WN:zu Tryz.prog 114 (uO alg):=by
 intro args hp r h;unfold uO at h;split at h<;>cases h
 rename_i k;simp only [CT.Good,zh];intro hneed;rw [← ztG hneed]
 refine spH Tryz.func114 (by kernel_rfl) { keep:=some [0,2]} [zq6,zq5] (by kernel_rfl) ?_
 intro I X hI hX
 refine orcL ?_;go_invoke;refine orcS (by kernel_rfl) ?_
 simp only [zi,Nat.reduceAdd];subst hI;simp only [nrmA,nrmB];trivial
def WM:Know Tryz.prog:=⟨114,uO,WN⟩
def WL:Know Tryz.prog:=⟨114,fun I=>zx I (uO I),zf WN⟩
def qC (I:Alg):KU
 |[.v (.one (.p (.str s)))],[]=>(fun(s:Str)=>(some (.one ⟨I.hid (s.length≤1000000),(.ret (.v (.one (.p (.bool (I.hid (wZ s))))))),[]⟩):Option CT)) s
 |_,_=>none
theorem RN:zu Tryz.prog 71 (qC alg):=by
 intro args hp r h;unfold qC at h;split at h<;>cases h
 rename_i s;simp only [CT.Good,zh];intro hneed;generalize hr:tokA s=r
 refine spH Tryz.func71 (by kernel_rfl) { keep:=some [0,2,3]} [WM,WL] (by kernel_rfl) ?_
 intro I X hI hX
 refine orcL ?_;go_invoke;refine orcS (by kernel_rfl) ?_
 simp only [zi,Nat.reduceAdd]
 refine lpH hI [WM,WL] hX [0,3] (fun(i:Nat)=>i≤s.length∧tokA (s.drop i)=r) (fun(i:Nat)=>⟨[(0,.v (.one (.p (.str s)))),(3,.v (.one (.p (.int .i64 i))))],[],18,none⟩) (fun(i:Nat)=>s.length - i) 0 (by kernel_rfl) (by kernel_rfl) ?_ ?_
 · exact⟨jM _,hr⟩
 rintro i ⟨h1,h2⟩ A hA
 refine orcL ?_;go_invoke;refine orcS (by kernel_rfl) ?_
 simp only [zi,Nat.reduceAdd];subst hI;simp only [nrmA,nrmB];have hb:=xR (s.getD i 0);have hd:i<s.length→tokA (s.drop i)=(tokB (s.getD i 0).toNat&&tokA (s.drop (i+1))):=fun h=>zbj h;generalize s.getD i 0=x at *
 (repeat' (first|refine ja ?_ ?_|intro _))<;>first|omega|exact jb|exact jc ‹False›|skip
 all_goals first
  |(refine hA (i+1) ⟨by omega,?_⟩ (by omega);rw [← h2,hd (by omega)];simp [*];done)
  | (have h3:tokA s=false:=by(rw [hr,← h2,hd (by omega)];simp [*];done)
     simp [wZ,h3];done)
  | (have h3:tokA s=true:=by(rw [hr,← h2,jF (by omega)];rfl)
     unfold wZ;rw [h3,Bool.and_true]
     exact decide_eq_decide.2 (by cases s<;>simp))
def YK:Know Tryz.prog:=⟨71,qC,RN⟩
def YJ:Know Tryz.prog:=⟨71,fun I=>zx I (qC I),zf RN⟩
def ZT (I:Alg):KU
 |[.v (.one (.p (.str s)))],[]=>(fun(s:Str)=>(some (.one ⟨I.hid (s.length≤1000000),(.ret (.v (.one (.p (.bool (I.hid (yN s))))))),[]⟩):Option CT)) s
 |_,_=>none
theorem zbP:zu Tryz.prog 73 (ZT alg):=by
 intro args hp r h;unfold ZT at h;split at h<;>cases h
 rename_i s;simp only [CT.Good,zh];intro hneed;generalize hr:yN s=r
 refine spH Tryz.func73 (by kernel_rfl) { keep:=some [0,2,3]} [Ux,Uw] (by kernel_rfl) ?_
 intro I X hI hX
 refine orcL ?_;go_invoke;refine orcS (by kernel_rfl) ?_
 simp only [zi,Nat.reduceAdd]
 refine lpH hI [Ux,Uw] hX [0,3] (fun(i:Nat)=>i≤s.length∧yN (s.drop i)=r) (fun(i:Nat)=>⟨[(0,.v (.one (.p (.str s)))),(3,.v (.one (.p (.int .i64 i))))],[],15,none⟩) (fun(i:Nat)=>s.length - i) 0 (by kernel_rfl) (by kernel_rfl) ?_ ?_
 · exact⟨jM _,hr⟩
 rintro i ⟨h1,h2⟩ A hA
 refine orcL ?_;go_invoke;refine orcS (by kernel_rfl) ?_
 simp only [zi,Nat.reduceAdd];subst hI;simp only [nrmA,nrmB];have hb:=xR (s.getD i 0);have hd:i<s.length→yN (s.drop i)=(YP (s.getD i 0).toNat&&yN (s.drop (i+1))):=fun h=>zbj h;generalize s.getD i 0=x at *
 (repeat' (first|refine ja ?_ ?_|intro _))<;>first|omega|exact jb|exact jc ‹False›|skip
 all_goals first
  |(rw [← h2,hd (by omega)];simp [*];done)
  |(refine hA (i+1) ⟨by omega,?_⟩ (by omega);rw [← h2,hd (by omega)];simp [*];done)
  |(rw [← h2,jF (by omega)];rfl)
def zju:Know Tryz.prog:=⟨73,ZT,zbP⟩
def zjt:Know Tryz.prog:=⟨73,fun I=>zx I (ZT I),zf zbP⟩
end Go.Proofs.YtkjepecoodjbmaaGreatDoor
namespace Go.Proofs.YtkjepecoodjbmaaGreatDoor
open Go Go.Sep Go.Ab
set_option maxRecDepth 100000
def lowC (x:UInt8):UInt8:=if 65≤x.toNat∧x.toNat≤90 then x+32 else x
def lowS (s:Str):Str:=s.map lowC
theorem vJ (s:Str):(lowS s).length=s.length:=by simp [lowS]
theorem zot (x:UInt8):((lowC x).toNat:Int)=lowK x.toNat:=by
 unfold lowC lowK;have:=x.toNat_lt
 split
 · rw [if_pos (by omega),UInt8.toNat_add]
   simp only [show(32:UInt8).toNat=32 from rfl];omega
 · rw [if_neg (by omega)]
theorem zxH (x:UInt8):UInt8.ofNat (lowK x.toNat).toNat=lowC x:=by
 rw [← zot,jJ,UInt8.ofNat_toNat]
def bl (c:UInt8):Bool:=([32,9]:Str).contains c
def trL (s:Str):Str:=s.dropWhile bl
def trR (s:Str):Str:=(s.reverse.dropWhile bl).reverse
theorem QV (s:Str):Lib.trimS s [32,9]=trL (trR s):=rfl
theorem Xu (c:UInt8) (l:Str):trL (c::l)=if bl c then trL l else c::l:=by unfold trL;rw [List.dropWhile_cons]
theorem zk4 (c:UInt8) (l:Str):trR (c::l)=if trR l=[]∧bl c=true then [] else c::trR l:=by
 unfold trR;rw [List.reverse_cons,List.dropWhile_append]
 cases hd:l.reverse.dropWhile bl with
 |nil=>cases hb:bl c<;>simp [hb,List.dropWhile]
 |cons y r=>simp
theorem zk3 (c:UInt8) (l:Str):trR (l++[c])=if bl c then trR l else l++[c]:=by
 unfold trR;rw [List.reverse_append];simp only [List.reverse_cons,List.reverse_nil,List.nil_append,List.singleton_append];rw [List.dropWhile_cons]
 split
 · rfl
 · simp
theorem zeN: ∀ s:Str,trL (trR s)=trR (trL s)
 |[]=>rfl
 | c ::l=>by
   have ih:=zeN l;rw [zk4,Xu]
   by_cases hb:bl c=true
   · rw [if_pos hb,← ih]
     by_cases h0:trR l=[]
     · rw [if_pos ⟨h0,hb⟩,h0]
     · rw [if_neg (fun h=>h0 h.1),Xu,if_pos hb]
   · rw [if_neg hb,if_neg (fun h=>hb h.2),Xu,if_neg hb,zk4,if_neg (fun h=>hb h.2)]
theorem zi1 (c:UInt8):bl c=true↔(c.toNat:Int)=32∨(c.toNat:Int)=9:=by
 unfold bl;rw [List.contains_iff_mem,List.mem_cons,List.mem_singleton,← UInt8.toNat_inj,← UInt8.toNat_inj];simp only [show(32:UInt8).toNat=32 from rfl,show(9:UInt8).toNat=9 from rfl];omega
theorem zk5 {u:Str} (h:0<u.length→¬ bl (u.getD 0 0)=true):trL u=u:=by
 cases u with
 |nil=>rfl
 |cons c l=>rw [Xu,if_neg (by simpa using h (by simp))]
theorem zyE {u:Str} (h:0<u.length) (hb:bl (u.getD 0 0)=true):trL u=trL (u.drop 1):=by
 cases u with
 |nil=>simp at h
 |cons c l=>rw [Xu,if_pos (by simpa using hb)];rfl
theorem zpP {u:Str} (h:0<u.length):u=u.take (u.length - 1)++[u.getD (u.length - 1) 0]:=by
 have hl:u.length - 1<u.length:=by omega
 have:=List.take_append_drop (u.length - 1) u
 rw [jE hl,jF (by omega)] at this
 simpa [hl] using this.symm
theorem zk2 {u:Str} (h:0<u.length→¬ bl (u.getD (u.length - 1) 0)=true):trR u=u:=by
 rcases Nat.eq_zero_or_pos u.length with h0|h0
 · rw [List.eq_nil_of_length_eq_zero h0];rfl
 · have:=zpP h0
   generalize hc:u.getD (u.length - 1) 0=c at *;rw [this,zk3,if_neg (h h0)]
theorem zv0 {u:Str} (h:0<u.length) (hb:bl (u.getD (u.length - 1) 0)=true):trR u=trR (u.take (u.length - 1)):=by
 have:=zpP h;generalize hc:u.getD (u.length - 1) 0=c at *;generalize ht:u.take (u.length - 1)=t at *;rw [this,zk3,if_pos hb]
def zbg (I:Alg):KU
 |[.v (.one (.p (.str s)))],[]=>(fun(s:Str)=>(some (.one ⟨I.hid (True),(.ret (.v (.one (.p (.str (I.hid (Lib.trimS s [32,9]))))))),[]⟩):Option CT)) s
 |_,_=>none
theorem znH:zu Tryz.prog 196 (zbg alg):=by
 intro args hp r h;unfold zbg at h;split at h<;>cases h
 rename_i s;simp only [CT.Good,zh];intro _
 refine spH Tryz.func196 (by kernel_rfl) { keep:=some [0,2]} [zw1,zw0] (by kernel_rfl) ?_
 intro I X hI hX
 refine orcL ?_;go_invoke;refine orcS (by kernel_rfl) ?_
 simp only [zi,Nat.reduceAdd];subst hI;simp only [nrmA,nrmB]
 try trivial
def Tz:Know Tryz.prog:=⟨196,zbg,znH⟩
def Tv:Know Tryz.prog:=⟨196,fun I=>zx I (zbg I),zf znH⟩
def Xt (I:Alg):KU
 |[.v (.one (.p (.str s)))],[]=>(fun(s:Str)=>(some (.one ⟨I.hid (s.length≤1000000),(.ret (.v (.one (.p (.str (I.hid (Lib.trimS s [32,9]))))))),[]⟩):Option CT)) s
 |_,_=>none
theorem zdk:zu Tryz.prog 74 (Xt alg):=by
 intro args hp r h;unfold Xt at h;split at h<;>cases h
 rename_i s;simp only [CT.Good,zh];intro hneed;rw [QV,zeN];generalize hr:trR (trL s)=r
 refine spH Tryz.func74 (by kernel_rfl) { keep:=some [0,2]} [] (by kernel_rfl) ?_
 intro I X hI hX
 refine orcL ?_;go_invoke;refine orcS (by kernel_rfl) ?_
 simp only [zi,Nat.reduceAdd]
 refine lpH hI [] hX [0] (fun(u:Str)=>trR (trL u)=r∧u.length≤1000000) (fun(u:Str)=>⟨[(0,.v (.one (.p (.str u))))],[],43,none⟩) (fun(u:Str)=>u.length) s (by kernel_rfl) (by kernel_rfl) ?_ ?_
 · exact⟨hr,hneed⟩
 rintro u ⟨h1,h2⟩ A hA
 refine orcL ?_;go_invoke;refine orcS (by kernel_rfl) ?_
 simp only [zi,Nat.reduceAdd]
 have hc:I.cut (α:=UInt8) u 1 (I.len (α:=UInt8) u)=u.drop 1:=by
  rw [hI,xU,zU];simp only [jJ,show(1:Int).toNat=1 from rfl]
  exact jq (by rw [jC];exact jL _)
 rw [hc]
 have hgo:0<u.length→bl (u.getD 0 0)=true→A ⟨[(0,.v (.one (.p (.str ((u.drop 1))))))],[],43,none⟩:=fun q1 q2=>
  hA _ ⟨by rw [← h1,zyE q1 q2],by rw [jC];omega⟩ (by rw [jC];omega)
 refine⟨fun c1=>⟨?_,fun c2=> ?_,fun c2=>⟨?_,fun c3=> ?_,fun c3=> ?_⟩⟩,fun c1=> ?_⟩
 · subst hI
   simp only [nrmA,nrmB] at c1;simp only [nrmA,nrmB];omega
 · subst hI
   simp only [nrmA,nrmB] at c1;simp only [nrmA,nrmB] at c2;simp only [nrmA,nrmB]
   exact⟨by omega,hgo (by omega) ((zi1 _).2 (.inl c2))⟩
 · subst hI
   simp only [nrmA,nrmB] at c1;simp only [nrmA,nrmB];omega
 · subst hI
   simp only [nrmA,nrmB] at c1;simp only [nrmA,nrmB] at c3;simp only [nrmA,nrmB]
   exact⟨by omega,hgo (by omega) ((zi1 _).2 (.inr c3))⟩
 · have hst:trL u=u:=zk5 fun q h=>by
    subst hI;simp only [nrmA,nrmB] at c2;simp only [nrmA,nrmB] at c3
    rcases(zi1 _).1 h with h|h
    · exact c2 h
    · exact c3 h
   refine lpH hI [] hX [0] (fun(v:Str)=>trR v=r∧v.length≤1000000) (fun(v:Str)=>⟨[(0,.v (.one (.p (.str v))))],[],43,none⟩) (fun(v:Str)=>v.length) u (by kernel_rfl) (by kernel_rfl) ?_ ?_
   · exact⟨by rw [← h1,hst],h2⟩
   rintro v ⟨k1,k2⟩ B hB
   refine orcL ?_;go_invoke;refine orcS (by kernel_rfl) ?_
   simp only [zi,Nat.reduceAdd];subst hI;simp only [nrmA,nrmB]
   have hgo:0<v.length→bl (v.getD (v.length - 1) 0)=true→B ⟨[(0,.v (.one (.p (.str ((v.take (v.length - 1)))))))],[],43,none⟩:=fun q1 q2=>
    hB _ ⟨by rw [← k1,zv0 q1 q2],by rw [jv];omega⟩ (by rw [jv];omega)
   have hend:(0<v.length→¬ bl (v.getD (v.length - 1) 0)=true)→v=r:=fun q=>by rw [← k1,zk2 q]
   rw [zi1] at hgo hend
   simp only [show((v.length:Int) - 1).toNat=v.length - 1 by omega]
   (repeat' (first|refine ja ?_ ?_|intro _))<;>first|omega|exact jb|exact jc ‹False›|skip
   all_goals first
    |exact hgo (by omega) (.inl ‹_›)
    |exact hgo (by omega) (.inr ‹_›)
    |(refine hend fun _ h=> ?_;rcases h with h|h<;>contradiction)
    |exact hend (fun h=>by omega)
 · have hst:trL u=u:=zk5 fun q h=>by
    subst hI;simp only [nrmA,nrmB] at c1;omega
   refine lpH hI [] hX [0] (fun(v:Str)=>trR v=r∧v.length≤1000000) (fun(v:Str)=>⟨[(0,.v (.one (.p (.str v))))],[],43,none⟩) (fun(v:Str)=>v.length) u (by kernel_rfl) (by kernel_rfl) ?_ ?_
   · exact⟨by rw [← h1,hst],h2⟩
   rintro v ⟨k1,k2⟩ B hB
   refine orcL ?_;go_invoke;refine orcS (by kernel_rfl) ?_
   simp only [zi,Nat.reduceAdd];subst hI;simp only [nrmA,nrmB]
   have hgo:0<v.length→bl (v.getD (v.length - 1) 0)=true→B ⟨[(0,.v (.one (.p (.str ((v.take (v.length - 1)))))))],[],43,none⟩:=fun q1 q2=>
    hB _ ⟨by rw [← k1,zv0 q1 q2],by rw [jv];omega⟩ (by rw [jv];omega)
   have hend:(0<v.length→¬ bl (v.getD (v.length - 1) 0)=true)→v=r:=fun q=>by rw [← k1,zk2 q]
   rw [zi1] at hgo hend
   simp only [show((v.length:Int) - 1).toNat=v.length - 1 by omega]
   (repeat' (first|refine ja ?_ ?_|intro _))<;>first|omega|exact jb|exact jc ‹False›|skip
   all_goals first
    |exact hgo (by omega) (.inl ‹_›)
    |exact hgo (by omega) (.inr ‹_›)
    |(refine hend fun _ h=> ?_;rcases h with h|h<;>contradiction)
    |exact hend (fun h=>by omega)
def Xr:Know Tryz.prog:=⟨74,Xt,zdk⟩
def Xq:Know Tryz.prog:=⟨74,fun I=>zx I (Xt I),zf zdk⟩
def TB (I:Alg):KU
 |[.v (.one (.p (.str s)))],[]=>(fun(s:Str)=>(some (.one ⟨I.hid (s.length≤1000000),(.ret (.v (.one (.p (.str (I.hid (lowS s))))))),[]⟩):Option CT)) s
 |_,_=>none
theorem ziX:zu Tryz.prog 195 (TB alg):=by
 intro args hp r h;unfold TB at h;split at h<;>cases h
 rename_i s;simp only [CT.Good,zh];intro hneed
 refine spH Tryz.func195 (by kernel_rfl) { keep:=some [0,2,3,4,5,8,9,10]} [zaJ,zaI] (by kernel_rfl) ?_
 intro I X hI hX
 refine orcL ?_;go_invoke;refine orcS (by kernel_rfl) ?_
 simp only [zi,Nat.reduceAdd]
 refine lpH hI [zaJ,zaI] hX [0,3,8,9,10] (fun(g:Nat × Str)=>match g with|(i,b)=>i≤s.length∧b=lowS (s.take i)++s.drop i) (fun(g:Nat × Str)=>match g with|(i,b)=>⟨[(0,.v (.one (.p (.str s)))),(3,.v (.one (.row 0))),(8,.v (.one (.row 0))),(9,.v (.one (.p (.int .i64 ((I.len (α:=UInt8) s)))))),(10,.v (.one (.p (.int .i64 i))))],[.row .byte 5 b],23,none⟩) (fun(g:Nat × Str)=>match g with|(i,b)=>s.length - i) (0,s) (by kernel_rfl) (by kernel_rfl) ?_ ?_
 · exact⟨jM _,rfl⟩
 rintro⟨i,b⟩ ⟨h1,h2⟩ A hA;simp only at hA
 refine orcL ?_;go_invoke;refine orcS (by kernel_rfl) ?_
 simp only [zi,Nat.reduceAdd];subst hI;simp only [nrmA,nrmB]
 have hlen:b.length=s.length:=by rw [h2,jk,vJ,jv,jC];omega
 have hx:i<s.length→b.getD i 0=s.getD i 0:=fun h=>by
  rw [h2,jH,jH,jA (by rw [vJ,jv];omega),vJ,jv,jG]
  congr 2
  omega
 have hset:i<s.length→b.set i (lowC (s.getD i 0))=lowS (s.take (i+1))++s.drop (i+1):=fun h=>by
  have e:(lowS (s.take i)).length=i:=by rw [vJ,jv];omega
  rw [h2,List.set_append_right _ _ (by omega),e,Nat.sub_self,jE h,List.set_cons_zero,jB h,show s.getD i 0=s[i] by simp [h]]
  unfold lowS;rw [List.map_append,jo];rfl
 have hby:=xR (s.getD i 0);have hlk:=zrp hby;refine⟨fun c=> ?_,fun c=> ?_⟩
 · rw [hx (by omega),zxH,hset (by omega)]
   exact⟨by omega,by omega,by omega,by omega,by omega,by omega,by omega,hA (i+1,_) ⟨by simp only;omega,rfl⟩ (by simp only;omega)⟩
 · rw [h2,jF (by omega),jq (by omega),List.append_nil]
def wX:Know Tryz.prog:=⟨195,TB,ziX⟩
def wW:Know Tryz.prog:=⟨195,fun I=>zx I (TB I),zf ziX⟩
def zah (I:Alg):KU
 |[.v (.one (.p (.str s)))],[]=>(fun(s:Str)=>(some (.one ⟨I.hid (s.length≤1000000),(.ret (.v (.one (.p (.str (I.hid (lowS s))))))),[]⟩):Option CT)) s
 |_,_=>none
theorem zlt:zu Tryz.prog 77 (zah alg):=by
 intro args hp r h;unfold zah at h;split at h<;>cases h
 rename_i s;simp only [CT.Good,zh];intro hneed
 refine spH Tryz.func77 (by kernel_rfl) { keep:=some [0,2,3,4,5,6]} [] (by kernel_rfl) ?_
 intro I X hI hX
 refine orcL ?_;go_invoke;refine orcS (by kernel_rfl) ?_
 simp only [zi,Nat.reduceAdd]
 refine lpH hI [] hX [0,3,4] (fun(g:Nat × Str)=>match g with|(i,out)=>i≤s.length∧out=lowS (s.take i)) (fun(g:Nat × Str)=>match g with|(i,out)=>⟨[(0,.v (.one (.p (.str s)))),(3,.v (.one (.p (.str out)))),(4,.v (.one (.p (.int .i64 i))))],[],36,none⟩) (fun(g:Nat × Str)=>match g with|(i,out)=>s.length - i) (0,[]) (by kernel_rfl) (by kernel_rfl) ?_ ?_
 · exact⟨jM _,rfl⟩
 rintro⟨i,out⟩ ⟨h1,h2⟩ A hA;simp only at hA
 refine orcL ?_;go_invoke;refine orcS (by kernel_rfl) ?_
 simp only [zi,Nat.reduceAdd];refine⟨fun c1=>⟨?_,?_,?_⟩,fun c1=> ?_⟩
 · subst hI
   simp only [nrmA,nrmB] at c1;simp only [nrmA,nrmB];omega
 · subst hI
   simp only [nrmA,nrmB] at c1;simp only [nrmA,nrmB];omega
 · have hi:i<s.length:=by
    subst hI;simp only [nrmA,nrmB] at c1;omega
   generalize hc0:I.cut (α:=UInt8) s (Int.ofNat i) (I.add (↑i) 1)=c0
   have hc1:c0=[s.getD i 0]:=by
    rw [← hc0,hI,xU,vg]
    simp only [Int.ofNat_eq_natCast,jJ,show((i:Int)+1).toNat=i+1 by omega]
    rw [jE hi,Nat.add_sub_cancel_left,List.take_succ_cons,List.take_zero]
    simp [hi]
   generalize hx:s.getD i 0=x at *;have hxb:=x.toNat_lt
   have hcap: ∀ k:Nat,k<26→((([65,66,67,68,69,70,71,72,73,74,75,76,77,78,79,80,81,82,83,84,85,86,87,88,89,90]:Str).getD k 0).toNat=65+k∧((([97,98,99,100,101,102,103,104,105,106,107,108,109,110,111,112,113,114,115,116,117,118,119,120,121,122]:Str).drop k).take 1)=[UInt8.ofNat (97+k)]):=by decide+kernel
   refine lpH hI [] hX [0,3,4,5,6] (fun(g:Nat × Str)=>match g with|(k,c)=>k≤26∧c=[if 65≤x.toNat∧x.toNat<65+k then x+32 else x]) (fun(g:Nat × Str)=>match g with|(k,c)=>⟨[(0,.v (.one (.p (.str s)))),(3,.v (.one (.p (.str out)))),(4,.v (.one (.p (.int .i64 i)))),(5,.v (.one (.p (.str c)))),(6,.v (.one (.p (.int .i64 k))))],[],36,none⟩) (fun(g:Nat × Str)=>match g with|(k,c)=>26 - k) (0,c0) (by kernel_rfl) (by kernel_rfl) ?_ ?_
   · refine⟨jM _,?_⟩
     rw [hc1,if_neg (by omega)]
   rintro⟨k,c⟩ ⟨k1,k2⟩ B hB;simp only at hB
   refine orcL ?_;go_invoke;refine orcS (by kernel_rfl) ?_
   simp only [zi,Nat.reduceAdd];subst hI;simp only [nrmA,nrmB];rw [hx];generalize hCAP:([65,66,67,68,69,70,71,72,73,74,75,76,77,78,79,80,81,82,83,84,85,86,87,88,89,90]:Str)=CAP at *;generalize hLOW:([97,98,99,100,101,102,103,104,105,106,107,108,109,110,111,112,113,114,115,116,117,118,119,120,121,122]:Str)=LOW at *
   have hol:out.length≤1000000:=by rw [h2,vJ,jv];omega
   have hc1l:c.length=1:=by rw [k2];rfl
   have hcl:CAP.length=26:=by rw [← hCAP];rfl
   have hll:LOW.length=26:=by rw [← hLOW];rfl
   have hcond:k<26→(CAP.getD k 0=x↔x.toNat=65+k):=fun h=>by rw [← UInt8.toNat_inj,(hcap k h).1];omega
   have heq:k<26→CAP.getD k 0=x→(LOW.drop k).take (((k:Int)+1).toNat - k)=[if 65≤x.toNat∧x.toNat<65+(k+1) then x+32 else x]:=fun h e=>by
    have e:=(hcond h).1 e
    rw [show((k:Int)+1).toNat - k=1 by omega,(hcap k h).2,if_pos (by omega)]
    congr 1
    rw [← UInt8.toNat_inj,UInt8.toNat_ofNat',UInt8.toNat_add,e];simp only [show(32:UInt8).toNat=32 from rfl];omega
   have hne:k<26→¬ CAP.getD k 0=x→c=[if 65≤x.toNat∧x.toNat<65+(k+1) then x+32 else x]:=fun h e=>by
    have e: ¬ x.toNat=65+k:=fun h'=>e ((hcond h).2 h');rw [k2]
    congr 1
    by_cases h1:65≤x.toNat∧x.toNat<65+k
    · rw [if_pos h1,if_pos (by omega)]
    · rw [if_neg h1,if_neg (by omega)]
   have hend: ¬ k<26→out++c=lowS (s.take (i+1)):=fun h=>by
    have hk:k=26:=by omega
    subst hk;rw [k2,h2,jB hi];unfold lowS;rw [List.map_append]
    congr 1
    rw [← hx,show s.getD i 0=s[i] by simp [hi]]
    show _=[lowC s[i]]
    unfold lowC
    congr 1
    by_cases h1:65≤s[i].toNat∧s[i].toNat<65+26
    · rw [if_pos h1,if_pos (by omega)]
    · rw [if_neg h1,if_neg (by omega)]
   (repeat' (first|refine ja ?_ ?_|intro _))<;>first|omega|exact jb|exact jc ‹False›|skip
   all_goals first
    |omega
    |exact hB (k+1,_) ⟨by simp only;omega,heq (by omega) ‹_›⟩ (by simp only;omega)
    |exact hB (k+1,_) ⟨by simp only;omega,hne (by omega) ‹_›⟩ (by simp only;omega)
    |(rw [hend (by omega)];exact hA (i+1,_) ⟨by simp only;omega,rfl⟩ (by simp only;omega))
 · subst hI
   simp only [nrmA,nrmB] at c1;simp only [nrmA,nrmB]
   rw [h2,jq (by omega)]
def XB:Know Tryz.prog:=⟨77,zah,zlt⟩
def XA:Know Tryz.prog:=⟨77,fun I=>zx I (zah I),zf zlt⟩
end Go.Proofs.YtkjepecoodjbmaaGreatDoor
namespace Go.Proofs.YtkjepecoodjbmaaGreatDoor
open Go Go.Sep Go.Ab
set_option maxRecDepth 100000
theorem zpi {p:UInt8→Bool} {s:Str} {i:Nat} (h:i≤(s.takeWhile p).length):(i<s.length∧p (s.getD i 0)=true)↔i<(s.takeWhile p).length:=by
 induction s generalizing i with
 |nil=>simp
 | cons c r ih=>
   by_cases hc:p c=true
   · simp only [List.takeWhile_cons,hc,if_true,jh] at h ⊢
     cases i with
     |zero=>simp [hc]
     | succ i=>
       have:=ih (i:=i) (by omega)
       simp only [List.getD_cons_succ];constructor
       · rintro⟨h1,h2⟩;have:=this.1 ⟨by omega,h2⟩;omega
       · intro h1;have:=this.2 (by omega);exact⟨by omega,this.2⟩
   · simp only [List.takeWhile_cons,hc,jd,if_false,ji] at h ⊢
     have:i=0:=by omega
     subst this
     simp [hc]
theorem zw3 (p:UInt8→Bool) (s:Str):s.take (s.takeWhile p).length=s.takeWhile p:=by
 induction s with
 |nil=>simp
 |cons c r ih=>by_cases hc:p c=true<;>simp [List.takeWhile_cons,hc,ih]
theorem drop_tw (p:UInt8→Bool) (s:Str):s.drop (s.takeWhile p).length=s.dropWhile p:=by
 induction s with
 |nil=>simp
 |cons c r ih=>by_cases hc:p c=true<;>simp [List.takeWhile_cons,List.dropWhile_cons,hc,ih]
theorem zyC (p:UInt8→Bool) (s:Str):(s.takeWhile p).length≤s.length:=(List.takeWhile_sublist p).length_le
theorem zzU (p:UInt8→Bool) (s:Str):(s.dropWhile p).length≤s.length:=(List.dropWhile_sublist p).length_le
def isTk (c:UInt8):Bool:=tokB (c.toNat:Int)
def tokS (s:Str):Str:=s.takeWhile isTk
def tokE (s:Str):Str:=s.dropWhile isTk
theorem sH (s:Str):(tokS s).length≤s.length:=zyC _ _
theorem vV (s:Str):(tokE s).length≤s.length:=zzU _ _
theorem zw2 (s:Str):(tokS s).length+(tokE s).length=s.length:=by
 have:=congrArg List.length (List.takeWhile_append_dropWhile (p:=isTk) (l:=s));rw [jk] at this;exact this
def skS (s:Str):Str:=Lib.trimLeftS s [32,9]
theorem vM (s:Str):(skS s).length≤s.length:=by
 unfold skS Lib.trimLeftS;exact(List.dropWhile_sublist _).length_le
def sG (s:Str) (c:UInt8):Bool:=s.head? == some c
theorem zd4 {s:Str} {c:UInt8} (h:sG s c=true):0<s.length:=by
 cases s with
 |nil=>simp [sG] at h
 |cons a r=>simp
theorem zd5 {s:Str} {c:UInt8}:sG s c=true↔0<s.length∧s.getD 0 0=c:=by
 cases s with
 |nil=>simp [sG]
 |cons a r=>simp [sG]
theorem drop1 (s:Str):List.take (s.length - Int.toNat 1) (List.drop (Int.toNat 1) s)=s.drop 1:=by
 show List.take (s.length - 1) (List.drop 1 s)=s.drop 1
 exact jq (by simp)
def quoF:Str→Option (Str × Str)
 |[]=>none
 |[x]=>if x=34 then some ([],[]) else none
 |x::y::r=>if x=34 then some ([],y::r) else if x=92 then(quoF r).map (fun p=>(y::p.1,p.2)) else(quoF (y::r)).map (fun p=>(x::p.1,p.2))
def quoV (s:Str):Str:=match quoF s with|some p=>p.1|none=>[]
def quoR (s:Str):Str:=match quoF s with|some p=>p.2|none=>[]
theorem zaA: ∀ (s:Str) (p:Str × Str),quoF s=some p→p.1.length+p.2.length<s.length
 |[],p,h=>by simp [quoF] at h
 | [x],p,h=>by
   simp only [quoF] at h
   split at h
   · cases h;simp
   · cases h
 | x ::y::r,p,h=>by
   simp only [quoF] at h
   split at h
   · cases h;simp
   · split at h
     · rw [Option.map_eq_some_iff] at h
       obtain⟨q,hq,rfl⟩:=h;have:=zaA r q hq;simp only [jh];omega
     · rw [Option.map_eq_some_iff] at h
       obtain⟨q,hq,rfl⟩:=h;have:=zaA (y::r) q hq;simp only [jh] at this ⊢;omega
theorem zuz (s:Str):(quoR s).length≤s.length:=by
 unfold quoR
 split
 · rename_i p h;have:=zaA _ _ h;omega
 · simp
theorem zuy (s:Str):(quoV s).length≤s.length:=by
 unfold quoV
 split
 · rename_i p h;have:=zaA _ _ h;omega
 · simp
def parM (s:Str):Int × Fld × Str:=
 if tokS s=[] then(5,⟨[],[]⟩,tokE s)
 else if sG (tokE s) 61=false then(5,⟨[],[]⟩,tokE s)
 else if sG ((tokE s).drop 1) 34=true then
  if(quoF ((tokE s).drop 2)).isSome=true then(0,⟨lowS (tokS s),quoV ((tokE s).drop 2)⟩,quoR ((tokE s).drop 2)) else(14,⟨[],[]⟩,[])
 else if tokS ((tokE s).drop 1)=[] then(5,⟨[],[]⟩,tokE ((tokE s).drop 1))
 else(0,⟨lowS (tokS s),tokS ((tokE s).drop 1)⟩,tokE ((tokE s).drop 1))
theorem zfj (s:Str):(parM s).2.2.length≤s.length∧(parM s).2.1.name.length≤s.length∧(parM s).2.1.value.length≤s.length:=by
 have h1:=vV s;have h2:=vV ((tokE s).drop 1);have h3:=zuz ((tokE s).drop 2);have h4:=zuy ((tokE s).drop 2);have h5:=sH s;have h6:=sH ((tokE s).drop 1);simp only [jC] at h2 h3 h4 h6;unfold parM
 repeat' split
 all_goals simp only [ji,vJ];omega
def getP (l:List Fld) (n:Str):Str × Bool:=match l.find? (fun f=>f.name == n) with|some f=>(f.value,true)|none=>([],false)
def medL:Nat→Str→List Fld→Int × List Fld × Str
 |0,s,ps=>(5,ps,s)
 | n +1,s,ps=>
   if sG s 59=true then
    if(parM (skS (s.drop 1))).1≠0 then((parM (skS (s.drop 1))).1,ps,(parM (skS (s.drop 1))).2.2)
    else if(getP ps (parM (skS (s.drop 1))).2.1.name).2=true then(9,ps,(parM (skS (s.drop 1))).2.2)
    else if ps.length=8 then(8,ps,(parM (skS (s.drop 1))).2.2)
    else medL n (skS (parM (skS (s.drop 1))).2.2) (ps++[(parM (skS (s.drop 1))).2.1])
   else if s=[] then(0,ps,s) else(5,ps,s)
def medB (w:Str) (s:Str):Int × Med × Str:=((medL ((skS s).length+1) (skS s) []).1,⟨w,(medL ((skS s).length+1) (skS s) []).2.1⟩,(medL ((skS s).length+1) (skS s) []).2.2)
def medA (s:Str):Int × Med × Str:=
 if tokS s=[] then(5,⟨[],[]⟩,tokE s)
 else if sG (tokE s) 47=true then
  if tokS ((tokE s).drop 1)=[] then(5,⟨[],[]⟩,tokE ((tokE s).drop 1))
  else medB (lowS (tokS s)++([47]++lowS (tokS ((tokE s).drop 1)))) (tokE ((tokE s).drop 1))
 else medB (lowS (tokS s)) (tokE s)
def wP (s:Str):Int × Med × Str:=medA (skS s)
def x9 (s:Str):Med × Int:=if yN s=false then(⟨[],[]⟩,3) else if(wP s).1=0 then((wP s).2.1,0) else(⟨[],[]⟩,(wP s).1)
theorem zg9 (s:Str):(parM s).1=0∨(parM s).1=5∨(parM s).1=14:=by
 unfold parM
 repeat' split
 all_goals simp
def ixP (l:List Fld) (n:Str):Int:=if l.findIdx (fun f=>f.name == n)<l.length then(l.findIdx (fun f=>f.name == n):Int) else -1
theorem zxX (l:List Fld) (n:Str):getP l n=if 0≤ixP l n then((l.getD (ixP l n).toNat ⟨[],[]⟩).value,true) else([],false):=by
 unfold getP ixP;rw [List.find?_eq_getElem?_findIdx]
 by_cases h:l.findIdx (fun f=>f.name == n)<l.length
 · rw [if_pos h,if_pos (by omega),jm h]
   simp [jH,h]
 · rw [if_neg h,if_neg (by omega),List.getElem?_eq_none (by omega)]
end Go.Proofs.YtkjepecoodjbmaaGreatDoor
namespace Go.Proofs.YtkjepecoodjbmaaGreatDoor
open Go Go.Sep Go.Ab
set_option maxRecDepth 100000
def ZM (I:Alg):KU
 |[.v (.one (.p (.str s))),.v (.one (.p (.str ([32,9]))))],[]=>(fun(s:Str)=>(some (.one ⟨I.hid (True),(.ret (.v (.one (.p (.str (I.hid (skS s))))))),[]⟩):Option CT)) s
 |_,_=>none
theorem zbv:zu Tryz.prog 278 (ZM alg):=by
 intro args hp r h;unfold ZM at h;split at h<;>cases h
 rename_i s;simp only [CT.Good,zh];intro _
 refine Spc.of_below ⟨_,Tryz.func278,by kernel_rfl,by kernel_rfl⟩ fun S bs w vs _ hM=> ?_
 obtain⟨v,r,rfl⟩: ∃ v r,vs=v::r:=by cases vs with|nil=>exact hM.elim|cons v r=>exact⟨v,r,rfl⟩
 obtain⟨h1,hM⟩:=hM
 obtain⟨v2,r2,rfl⟩: ∃ v r2,r=v::r2:=by cases r with|nil=>exact hM.elim|cons v r=>exact⟨v,r,rfl⟩
 obtain⟨h2,hM⟩:=hM
 obtain rfl:r2=[]:=by cases r2 with|nil=>rfl|cons v r=>exact hM.elim
 cases h1 with
 | str _ hl1=>
   cases h2 with
   | str _ hl2=>
     refine⟨.string (Sep.S (skS s)),.str _ (Nat.le_trans (vM _) hl1),?_⟩
     exact Tryz.strings_TrimLeft_laid (Sep.S s) (Sep.S [32,9]) w (by decide) (fun j b hb=>by
      have:=List.mem_of_getElem? hb
      rcases(by simpa [Sep.S] using this:b=32∨b=9) with rfl|rfl<;>decide)
def zjg:Know Tryz.prog:=⟨278,ZM,zbv⟩
def zjf:Know Tryz.prog:=⟨278,fun I=>zx I (ZM I),zf zbv⟩
theorem zxv (b:Bool) (c:Int) (hneed:b=false):Spc Tryz.prog 254 [.v (.one (.p (.bool b))),.v (.one (.p (.int .i64 c)))] [] (.ret (.tup [])) []:=by
 refine spH Tryz.func254 (by kernel_rfl) { keep:=some [0,1]} [] (by kernel_rfl) ?_
 intro I X hI hX
 refine orcL ?_;go_invoke;refine orcS (by kernel_rfl) ?_
 simp only [zi,Nat.reduceAdd];subst hI;simp only [nrmA,nrmB]
 (repeat' (first|refine ja ?_ ?_|intro _))<;>first|omega|exact jb|exact jc ‹False›|skip
 all_goals simp_all
theorem zxu (b:Bool) (c:Int) (hneed:b=true):Spc Tryz.prog 254 [.v (.one (.p (.bool b))),.v (.one (.p (.int .i64 c)))] [] (.pan (.ifc 256 false [.int .i64 c])) []:=by
 refine spH Tryz.func254 (by kernel_rfl) { keep:=some [0,1]} [] (by kernel_rfl) ?_
 intro I X hI hX
 refine orcL ?_;go_invoke;refine orcS (by kernel_rfl) ?_
 simp only [zi,Nat.reduceAdd];subst hI;simp only [nrmA,nrmB]
 (repeat' (first|refine ja ?_ ?_|intro _))<;>first|omega|exact jb|exact jc ‹False›|skip
 all_goals simp_all
def zaF (I:Alg):KU
 |[.v (.one (.p (.bool b))),.v (.one (.p (.int .i64 c)))],[]=>some (.br (I.hid (b)) (.one ⟨I.hid (b=true),(.pan (.ifc 256 false [.int .i64 c])),[]⟩) (.one ⟨I.hid (b=false),(.ret (.tup [])),[]⟩))
 |_,_=>none
theorem zme:zu Tryz.prog 254 (zaF alg):=by
 intro args hp r h;unfold zaF at h
 split at h
 · cases h;exact⟨fun _ hn=>zxu _ _ hn,fun _ hn=>zxv _ _ hn⟩
 · cases h
def wO:Know Tryz.prog:=⟨254,zaF,zme⟩
def wM:Know Tryz.prog:=⟨254,fun I=>zx I (zaF I),zf zme⟩
def XW (I:Alg):KU
 |[.v (.one (.ptr 0 0))],[.pack [.obj 260 [.p (.str s)]]]=>(fun(s:Str)=>(some (.one ⟨I.hid (True),(.ret (.tup [])),[.pack [.obj 260 [.p (.str (I.hid (skS s)))]]]⟩):Option CT)) s
 |_,_=>none
theorem zdM:zu Tryz.prog 250 (XW alg):=by
 intro args hp r h;unfold XW at h;split at h<;>cases h
 rename_i s;simp only [CT.Good,zh];intro _
 refine spH Tryz.func250 (by kernel_rfl) { keep:=some [0]} [zjg,zjf] (by kernel_rfl) ?_
 intro I X hI hX
 refine orcL ?_;go_invoke;refine orcS (by kernel_rfl) ?_
 simp only [zi,Nat.reduceAdd];subst hI;simp only [nrmA,nrmB,nrlB,reduceCtorEq,HO.pack.injEq,HO.obj.injEq]
 try trivial
def XV:Know Tryz.prog:=⟨250,XW,zdM⟩
def XU:Know Tryz.prog:=⟨250,fun I=>zx I (XW I),zf zdM⟩
def zaD (I:Alg):KU
 |[.v (.one (.ptr 0 0)),.v (.one (.p (.int .u8 k)))],[.pack [.obj 260 [.p (.str s)]]]=>(fun(s:Str)=>(some (.one ⟨I.hid (0≤k∧k≤255),(.ret (.v (.one (.p (.bool (I.hid (sG s (UInt8.ofNat k.toNat)))))))),[.pack [.obj 260 [(.p (.str (I.hid (if sG s (UInt8.ofNat k.toNat)=true then s.drop 1 else s))))]]]⟩):Option CT)) s
 |_,_=>none
theorem zmb:zu Tryz.prog 252 (zaD alg):=by
 intro args hp r h;unfold zaD at h;split at h<;>cases h
 rename_i k s;simp only [CT.Good,zh];intro hneed;generalize hr:sG s (UInt8.ofNat k.toNat)=r
 refine spH Tryz.func252 (by kernel_rfl) { keep:=some [0,1,4,5]} [] (by kernel_rfl) ?_
 intro I X hI hX
 refine orcL ?_;go_invoke;refine orcS (by kernel_rfl) ?_
 simp only [zi,Nat.reduceAdd];subst hI;simp only [nrmA,nrmB,nrlB,reduceCtorEq,HO.pack.injEq,HO.obj.injEq]
 have hk:((UInt8.ofNat k.toNat).toNat:Int)=k:=by rw [UInt8.toNat_ofNat',Nat.mod_eq_of_lt (by omega)];omega
 have hk2: ∀ c:UInt8,(c.toNat:Int)=k↔c=UInt8.ofNat k.toNat:=fun c=>⟨fun h=>by rw [← h];simp,fun h=>by rw [h];exact hk⟩
 rw [drop1];have hs:s=[]↔s.length=0:=List.length_eq_zero_iff.symm;rw [hs]
 cases r with
 | true=>
   obtain⟨h1,h2⟩:=zd5.1 hr;have hkk:=(hk2 _).2 h2;rw [hkk]
   (repeat' (first|refine ja ?_ ?_|intro _))<;>first|omega|exact jb|exact jc ‹False›|skip
   all_goals first|omega|(simp;done)|(simp_all;done)
 | false=>
   have h1:0<s.length→¬ ((s.getD 0 0).toNat:Int)=k:=fun h q=>by rw [zd5.2 ⟨h,(hk2 _).1 q⟩] at hr;cases hr
   (repeat' (first|refine ja ?_ ?_|intro _))<;>first|omega|exact jb|exact jc ‹False›|skip
   all_goals first|omega|(simp;done)|(exfalso;exact h1 (by omega) ‹_›)|(have:=h1 (by omega);simp_all;done)|trace_state
def XT:Know Tryz.prog:=⟨252,zaD,zmb⟩
def XR:Know Tryz.prog:=⟨252,fun I=>zx I (zaD I),zf zmb⟩
theorem zy3 (s:Str) (hneed:s.length≤1000000∧¬ tokS s=[]):Spc Tryz.prog 251 [.v (.one (.ptr 0 0))] [.pack [.obj 260 [.p (.str s)]]] (.ret (.v (.one (.p (.str ((tokS s))))))) [.pack [.obj 260 [.p (.str ((tokE s)))]]]:=by
 obtain⟨hl,hne⟩:=hneed
 refine spH Tryz.func251 (by kernel_rfl) { keep:=some [0,2,3,4]} [ZN,Vr,wO,wM] (by kernel_rfl) ?_
 intro I X hI hX
 refine orcL ?_;go_invoke;refine orcS (by kernel_rfl) ?_
 simp only [zi,Nat.reduceAdd]
 refine lpH hI [ZN,Vr,wO,wM] hX [0,3] (fun(i:Nat)=>i≤(tokS s).length) (fun(i:Nat)=>⟨[(0,.v (.one (.ptr 0 0))),(3,.v (.one (.p (.int .i64 i))))],[.pack [.obj 260 [.p (.str s)]]],42,none⟩) (fun(i:Nat)=>s.length - i) 0 (by kernel_rfl) (by kernel_rfl) ?_ ?_
 · exact jM _
 rintro i h1 A hA
 refine orcL ?_;go_invoke;refine orcS (by kernel_rfl) ?_
 simp only [zi,Nat.reduceAdd];subst hI;simp only [nrmA,nrmB,nrlB,reduceCtorEq,HO.pack.injEq,HO.obj.injEq];have hb:=xR (s.getD i 0);have hs:=zpi (p:=isTk) (s:=s) h1;have hle:=sH s;have ht:=zw3 isTk s;have hd:=drop_tw isTk s;unfold isTk at hs
 change _↔i<(tokS s).length at hs
 change s.take (tokS s).length=tokS s at ht
 change s.drop (tokS s).length=tokE s at hd
 have hlen:=zw2 s
 have hend: ¬ i<(tokS s).length→i=(tokS s).length:=fun h=>by omega
 generalize s.getD i 0=x at *
 have hgo:i<(tokS s).length→A ⟨[(0,.v (.one (.ptr 0 0))),(3,.v (.one (.p (.int .i64 (((i:Int)+1))))))],[.pack [.obj 260 [.p (.str s)]]],42,none⟩:=fun h=>hA (i+1) (by omega) (by omega)
 by_cases hi:i<(tokS s).length
 · have hi2:=hs.2 hi
   clear hs hend ht hd hA
   (repeat' (first|refine ja ?_ ?_|intro _))<;>first|omega|exact jb|exact jc ‹False›|skip
   all_goals first
    |omega
    |exact hgo hi
    |(exfalso;simp_all;done)
 · have hx:i<s.length→tokB (x.toNat:Int)=true→False:=fun a b=>hi (hs.1 ⟨a,b⟩)
   have hi2:=hend hi;clear hs hend hA hgo;subst hi2;rw [ht]
   have hcut:List.take (s.length - (tokS s).length) (List.drop (tokS s).length s)=tokE s:=by rw [hd];exact jq (by omega)
   rw [hcut]
   (repeat' (first|refine ja ?_ ?_|intro _))<;>first|omega|exact jb|exact jc ‹False›|skip
   all_goals first
    |omega
    |(exfalso;exact hx (by omega) ‹_›)
    |(exfalso;exact hne ‹_›)
    |(simp [hne];done)
theorem zy2 (s:Str) (hneed:s.length≤1000000∧tokS s=[]):Spc Tryz.prog 251 [.v (.one (.ptr 0 0))] [.pack [.obj 260 [.p (.str s)]]] (.pan (.ifc 256 false [.int .i64 5])) [.pack [.obj 260 [.p (.str ((tokE s)))]]]:=by
 obtain⟨hl,hne⟩:=hneed
 refine spH Tryz.func251 (by kernel_rfl) { keep:=some [0,2,3,4]} [ZN,Vr,wO,wM] (by kernel_rfl) ?_
 intro I X hI hX
 refine orcL ?_;go_invoke;refine orcS (by kernel_rfl) ?_
 simp only [zi,Nat.reduceAdd]
 refine lpH hI [ZN,Vr,wO,wM] hX [0,3] (fun(i:Nat)=>i≤(tokS s).length) (fun(i:Nat)=>⟨[(0,.v (.one (.ptr 0 0))),(3,.v (.one (.p (.int .i64 i))))],[.pack [.obj 260 [.p (.str s)]]],42,none⟩) (fun(i:Nat)=>s.length - i) 0 (by kernel_rfl) (by kernel_rfl) ?_ ?_
 · exact jM _
 rintro i h1 A hA
 refine orcL ?_;go_invoke;refine orcS (by kernel_rfl) ?_
 simp only [zi,Nat.reduceAdd];subst hI;simp only [nrmA,nrmB,nrlB,reduceCtorEq,HO.pack.injEq,HO.obj.injEq];have hb:=xR (s.getD i 0);have hs:=zpi (p:=isTk) (s:=s) h1;have hd:=drop_tw isTk s;unfold isTk at hs
 change _↔i<(tokS s).length at hs
 change s.drop (tokS s).length=tokE s at hd
 rw [hne] at h1 hs hd;simp only [ji] at h1 hs hd
 have h0:i=0:=by omega
 subst h0;generalize s.getD 0 0=x at *
 have hx:0<s.length→tokB (x.toNat:Int)=true→False:=fun a b=>absurd (hs.1 ⟨a,b⟩) (by omega)
 have hcut:List.take (s.length - 0) (List.drop 0 s)=tokE s:=by rw [hd];exact jq (by have:=vV s;omega)
 clear hs hA;simp only [jJ,List.take_zero,hcut] at *
 (repeat' (first|refine ja ?_ ?_|intro _))<;>first|omega|exact jb|exact jc ‹False›|skip
 all_goals first
  |omega
  |(exfalso;exact hx (by omega) ‹_›)
  |(exfalso;rename_i hq;exact hq rfl)
  |(simp;done)
def zfk (I:Alg):KU
 |[.v (.one (.ptr 0 0))],[.pack [.obj 260 [.p (.str s)]]]=>(fun(s:Str)=>(some (.br (I.hid (decide (tokS s=[]))) (.one ⟨I.hid (s.length≤1000000∧tokS s=[]),(.pan (.ifc 256 false [.int .i64 5])),[.pack [.obj 260 [.p (.str (I.hid (tokE s)))]]]⟩) (.one ⟨I.hid (s.length≤1000000∧¬ tokS s=[]),(.ret (.v (.one (.p (.str (I.hid (tokS s))))))),[.pack [.obj 260 [.p (.str (I.hid (tokE s)))]]]⟩)):Option CT)) s
 |_,_=>none
theorem zqU:zu Tryz.prog 251 (zfk alg):=by
 intro args hp r h;unfold zfk at h
 split at h
 · cases h;exact⟨fun _ hn=>zy2 _ hn,fun _ hn=>zy3 _ hn⟩
 · cases h
def SB:Know Tryz.prog:=⟨251,zfk,zqU⟩
def SA:Know Tryz.prog:=⟨251,fun I=>zx I (zfk I),zf zqU⟩
theorem zy5 (s:Str) (hneed:s.length≤1000000∧(quoF s).isSome=true):Spc Tryz.prog 279 [.v (.one (.ptr 0 0))] [.pack [.obj 260 [.p (.str s)]]] (.ret (.v (.one (.p (.str ((quoV s))))))) [.pack [.obj 260 [.p (.str ((quoR s)))]]]:=by
 obtain⟨hl,hne⟩:=hneed
 refine spH Tryz.func279 (by kernel_rfl) { nr:=[3],keep:=some [0,2,3,4]} [wO,wM] (by kernel_rfl) ?_
 intro I X hI hX
 refine orcL ?_;go_invoke;refine orcS (by kernel_rfl) ?_
 simp only [zi,Nat.reduceAdd]
 refine lpH hI [wO,wM] hX [0,3] (fun(g:Str × Str)=>match g with|(b,t)=>b.length+t.length≤s.length∧quoF s=(quoF t).map (fun p=>(b++p.1,p.2))) (fun(g:Str × Str)=>match g with|(b,t)=>⟨[(0,.v (.one (.ptr 0 0))),(3,.v (.one (.row 1)))],[.pack [.obj 260 [.p (.str t)]],.row .byte 5 b],53,none⟩) (fun(g:Str × Str)=>match g with|(b,t)=>t.length) ([],s) (by kernel_rfl) (by kernel_rfl) ?_ ?_
 · exact⟨by simp,by simp⟩
 rintro⟨b,t⟩ ⟨h1,h2⟩ A hA
 refine orcL ?_;go_invoke;refine orcS (by kernel_rfl) ?_
 simp only [zi,Nat.reduceAdd];subst hI;simp only [nrmA,nrmB,nrlB,reduceCtorEq,HO.pack.injEq,HO.obj.injEq];have hb:=xR (t.getD 0 0);rw [drop1];have hq: ∀ r:Str × Str,quoF s=some r→True:=fun _ _=>trivial
 cases t with
 | nil=>
   simp only [quoF,Option.map_none] at h2
   (repeat' (first|refine ja ?_ ?_|intro _))<;>first|omega|exact jb|exact jc ‹False›|skip
   all_goals first
    |omega
    |(simp_all;done)
 |cons x t=>
 cases t with
 | nil=>
   simp only [quoF] at h2;have h34:((x.toNat:Int)=34)↔x=34:=Zo x 34;have h92:((x.toNat:Int)=92)↔x=92:=Zo x 92;simp only [List.getD_cons_zero,h34,h92,List.drop_succ_cons,List.drop_zero,jh,ji] at *
   have hgo: ¬ x=34→A ⟨[(0,.v (.one (.ptr 0 0))),(3,.v (.one (.row 1)))],[.pack [.obj 260 [.p (.str ([]))]],.row .byte 5 ((b++[x]))],53,none⟩:=fun h=>hA (b++[x],[]) ⟨by simp;omega,by rw [h2,if_neg h];rfl⟩ (by simp)
   have hv:x=34→quoV s=b∧quoR s=[]:=fun h=>by unfold quoV quoR;rw [h2,if_pos h];simp
   clear hA
   (repeat' (first|refine ja ?_ ?_|intro _))<;>first|omega|exact jb|exact jc ‹False›|skip
   all_goals first
    |omega
    |exact(hv ‹_›).1.symm
    |exact(hv ‹_›).2.symm
    |exact hgo ‹_›
    |(simp_all;done)
 | cons y t=>
   simp only [quoF] at h2;have h34:((x.toNat:Int)=34)↔x=34:=Zo x 34;have h92:((x.toNat:Int)=92)↔x=92:=Zo x 92;have hy:=xR y
   have hyt:List.take (t.length+1 - Int.toNat 1) (List.drop (Int.toNat 1) (y::t))=t:=by simpa using drop1 (y::t)
   simp only [List.getD_cons_zero,h34,h92,List.drop_succ_cons,List.drop_zero,jh] at *
   have hgoY: ¬ x=34→x=92→A ⟨[(0,.v (.one (.ptr 0 0))),(3,.v (.one (.row 1)))],[.pack [.obj 260 [.p (.str t)]],.row .byte 5 ((b++[y]))],53,none⟩:=fun h k=>hA (b++[y],t) ⟨by simp;omega,by rw [h2,if_neg h,if_pos k,Option.map_map];congr 1;funext p;simp⟩ (by simp;omega)
   have hgoX: ¬ x=34→¬ x=92→A ⟨[(0,.v (.one (.ptr 0 0))),(3,.v (.one (.row 1)))],[.pack [.obj 260 [.p (.str ((y::t)))]],.row .byte 5 ((b++[x]))],53,none⟩:=fun h k=>hA (b++[x],y::t) ⟨by simp;omega,by rw [h2,if_neg h,if_neg k,Option.map_map];congr 1;funext p;simp⟩ (by simp)
   have hv:x=34→quoV s=b∧quoR s=y::t:=fun h=>by unfold quoV quoR;rw [h2,if_pos h];simp
   clear hA;simp only [ji,Nat.zero_add]
   first|rw [hyt]|skip
   (repeat' (first|refine ja ?_ ?_|intro _))<;>first|omega|exact jb|exact jc ‹False›|skip
   all_goals first
    |omega
    |exact(hv ‹_›).1.symm
    |exact(hv ‹_›).2.symm
    |exact hgoX ‹_› ‹_›
    |exact hgoY ‹_› ‹_›
    |(simp_all;done)
theorem zy4 (s:Str) (hneed:s.length≤1000000∧(quoF s).isSome=false):Spc Tryz.prog 279 [.v (.one (.ptr 0 0))] [.pack [.obj 260 [.p (.str s)]]] (.pan (.ifc 256 false [.int .i64 14])) [.pack [.obj 260 [.p (.str ([]))]]]:=by
 obtain⟨hl,hne⟩:=hneed
 refine spH Tryz.func279 (by kernel_rfl) { nr:=[3],keep:=some [0,2,3,4]} [wO,wM] (by kernel_rfl) ?_
 intro I X hI hX
 refine orcL ?_;go_invoke;refine orcS (by kernel_rfl) ?_
 simp only [zi,Nat.reduceAdd]
 refine lpH hI [wO,wM] hX [0,3] (fun(g:Str × Str)=>match g with|(b,t)=>b.length+t.length≤s.length∧quoF s=(quoF t).map (fun p=>(b++p.1,p.2))) (fun(g:Str × Str)=>match g with|(b,t)=>⟨[(0,.v (.one (.ptr 0 0))),(3,.v (.one (.row 1)))],[.pack [.obj 260 [.p (.str t)]],.row .byte 5 b],53,none⟩) (fun(g:Str × Str)=>match g with|(b,t)=>t.length) ([],s) (by kernel_rfl) (by kernel_rfl) ?_ ?_
 · exact⟨by simp,by simp⟩
 rintro⟨b,t⟩ ⟨h1,h2⟩ A hA
 refine orcL ?_;go_invoke;refine orcS (by kernel_rfl) ?_
 simp only [zi,Nat.reduceAdd];subst hI;simp only [nrmA,nrmB,nrlB,reduceCtorEq,HO.pack.injEq,HO.obj.injEq];have hb:=xR (t.getD 0 0);rw [drop1];have hq: ∀ r:Str × Str,quoF s=some r→True:=fun _ _=>trivial
 cases t with
 | nil=>
   simp only [quoF,Option.map_none] at h2
   (repeat' (first|refine ja ?_ ?_|intro _))<;>first|omega|exact jb|exact jc ‹False›|skip
   all_goals first
    |omega
    |(simp_all;done)
 |cons x t=>
 cases t with
 | nil=>
   simp only [quoF] at h2;have h34:((x.toNat:Int)=34)↔x=34:=Zo x 34;have h92:((x.toNat:Int)=92)↔x=92:=Zo x 92;simp only [List.getD_cons_zero,h34,h92,List.drop_succ_cons,List.drop_zero,jh,ji] at *
   have hgo: ¬ x=34→A ⟨[(0,.v (.one (.ptr 0 0))),(3,.v (.one (.row 1)))],[.pack [.obj 260 [.p (.str ([]))]],.row .byte 5 ((b++[x]))],53,none⟩:=fun h=>hA (b++[x],[]) ⟨by simp;omega,by rw [h2,if_neg h];rfl⟩ (by simp)
   have hv:x=34→quoV s=b∧quoR s=[]:=fun h=>by unfold quoV quoR;rw [h2,if_pos h];simp
   clear hA
   (repeat' (first|refine ja ?_ ?_|intro _))<;>first|omega|exact jb|exact jc ‹False›|skip
   all_goals first
    |omega
    |exact(hv ‹_›).1.symm
    |exact(hv ‹_›).2.symm
    |exact hgo ‹_›
    |(simp_all;done)
 | cons y t=>
   simp only [quoF] at h2;have h34:((x.toNat:Int)=34)↔x=34:=Zo x 34;have h92:((x.toNat:Int)=92)↔x=92:=Zo x 92;have hy:=xR y
   have hyt:List.take (t.length+1 - Int.toNat 1) (List.drop (Int.toNat 1) (y::t))=t:=by simpa using drop1 (y::t)
   simp only [List.getD_cons_zero,h34,h92,List.drop_succ_cons,List.drop_zero,jh] at *
   have hgoY: ¬ x=34→x=92→A ⟨[(0,.v (.one (.ptr 0 0))),(3,.v (.one (.row 1)))],[.pack [.obj 260 [.p (.str t)]],.row .byte 5 ((b++[y]))],53,none⟩:=fun h k=>hA (b++[y],t) ⟨by simp;omega,by rw [h2,if_neg h,if_pos k,Option.map_map];congr 1;funext p;simp⟩ (by simp;omega)
   have hgoX: ¬ x=34→¬ x=92→A ⟨[(0,.v (.one (.ptr 0 0))),(3,.v (.one (.row 1)))],[.pack [.obj 260 [.p (.str ((y::t)))]],.row .byte 5 ((b++[x]))],53,none⟩:=fun h k=>hA (b++[x],y::t) ⟨by simp;omega,by rw [h2,if_neg h,if_neg k,Option.map_map];congr 1;funext p;simp⟩ (by simp)
   have hv:x=34→quoV s=b∧quoR s=y::t:=fun h=>by unfold quoV quoR;rw [h2,if_pos h];simp
   clear hA;simp only [ji,Nat.zero_add]
   first|rw [hyt]|skip
   (repeat' (first|refine ja ?_ ?_|intro _))<;>first|omega|exact jb|exact jc ‹False›|skip
   all_goals first
    |omega
    |exact(hv ‹_›).1.symm
    |exact(hv ‹_›).2.symm
    |exact hgoX ‹_› ‹_›
    |exact hgoY ‹_› ‹_›
    |(simp_all;done)
def zfl (I:Alg):KU
 |[.v (.one (.ptr 0 0))],[.pack [.obj 260 [.p (.str s)]]]=>(fun(s:Str)=>(some (.br (I.hid ((quoF s).isSome)) (.one ⟨I.hid (s.length≤1000000∧(quoF s).isSome=true),(.ret (.v (.one (.p (.str (I.hid (quoV s))))))),[.pack [.obj 260 [.p (.str (I.hid (quoR s)))]]]⟩) (.one ⟨I.hid (s.length≤1000000∧(quoF s).isSome=false),(.pan (.ifc 256 false [.int .i64 14])),[.pack [.obj 260 [.p (.str (I.hid ([])))]]]⟩)):Option CT)) s
 |_,_=>none
theorem zqX:zu Tryz.prog 279 (zfl alg):=by
 intro args hp r h;unfold zfl at h
 split at h
 · cases h;exact⟨fun _ hn=>zy5 _ hn,fun _ hn=>zy4 _ hn⟩
 · cases h
def zqW:Know Tryz.prog:=⟨279,zfl,zqX⟩
def zqV:Know Tryz.prog:=⟨279,fun I=>zx I (zfl I),zf zqX⟩
theorem zy7 (s:Str) (hneed:s.length≤1000000∧(parM s).1=0):Spc Tryz.prog 253 [.v (.one (.ptr 0 0))] [.pack [.obj 260 [.p (.str s)]]] (.ret (.v (.agg [.p (.str ((parM s).2.1.name)),.p (.str ((parM s).2.1.value))]))) [.pack [.obj 260 [.p (.str ((parM s).2.2))]]]:=by
 obtain⟨hl,hc⟩:=hneed;generalize hr:parM s=r at hc;obtain⟨c,⟨n,v⟩,z⟩:=r;simp only at hc;subst hc
 refine spH Tryz.func253 (by kernel_rfl) { keep:=some [0,2,3]} [wX,wW,wO,wM,XT,XR,SB,SA,zqW,zqV] (by kernel_rfl) ?_
 intro I X hI hX
 refine orcL ?_;go_invoke;refine orcS (by kernel_rfl) ?_
 simp only [zi,Nat.reduceAdd];subst hI;simp only [nrmA,nrmB,nrlB,reduceCtorEq,HO.pack.injEq,HO.obj.injEq];unfold parM at hr;have hl1:=sH s;have hl2:=vV s;simp only [show UInt8.ofNat (Int.toNat 61)=61 from rfl,show UInt8.ofNat (Int.toNat 34)=34 from rfl] at *
 (repeat' (first|refine ja ?_ ?_|intro _))<;>first|omega|exact jb|exact jc ‹False›|skip
 all_goals first
  |omega
  |(simp_all;done)
  |(simp_all;omega)
theorem zy6 (s:Str) (hneed:s.length≤1000000∧¬ (parM s).1=0):Spc Tryz.prog 253 [.v (.one (.ptr 0 0))] [.pack [.obj 260 [.p (.str s)]]] (.pan (.ifc 256 false [.int .i64 ((parM s).1)])) [.pack [.obj 260 [.p (.str ((parM s).2.2))]]]:=by
 obtain⟨hl,hc⟩:=hneed;generalize hr:parM s=r at hc;obtain⟨c,⟨n,v⟩,z⟩:=r;simp only at hc
 refine spH Tryz.func253 (by kernel_rfl) { keep:=some [0,2,3]} [wX,wW,wO,wM,XT,XR,SB,SA,zqW,zqV] (by kernel_rfl) ?_
 intro I X hI hX
 refine orcL ?_;go_invoke;refine orcS (by kernel_rfl) ?_
 simp only [zi,Nat.reduceAdd];subst hI;simp only [nrmA,nrmB,nrlB,reduceCtorEq,HO.pack.injEq,HO.obj.injEq];unfold parM at hr;have hl1:=sH s;have hl2:=vV s;simp only [show UInt8.ofNat (Int.toNat 61)=61 from rfl,show UInt8.ofNat (Int.toNat 34)=34 from rfl] at *
 (repeat' (first|refine ja ?_ ?_|intro _))<;>first|omega|exact jb|exact jc ‹False›|skip
 all_goals first
  |omega
  |(simp_all;done)
  |(simp_all;omega)
  |(by_cases hq:tokS (List.drop 1 (tokE s))=[]<;>simp_all;done)
def zfo (I:Alg):KU
 |[.v (.one (.ptr 0 0))],[.pack [.obj 260 [.p (.str s)]]]=>(fun(s:Str)=>(some (.br (I.hid (decide ((parM s).1=0))) (.one ⟨I.hid (s.length≤1000000∧(parM s).1=0),(.ret (.v (.agg [.p (.str (I.hid ((parM s).2.1.name))),.p (.str (I.hid ((parM s).2.1.value)))]))),[.pack [.obj 260 [.p (.str (I.hid ((parM s).2.2)))]]]⟩) (.one ⟨I.hid (s.length≤1000000∧¬ (parM s).1=0),(.pan (.ifc 256 false [.int .i64 (I.hid ((parM s).1))])),[.pack [.obj 260 [.p (.str (I.hid ((parM s).2.2)))]]]⟩)):Option CT)) s
 |_,_=>none
theorem zqY:zu Tryz.prog 253 (zfo alg):=by
 intro args hp r h;unfold zfo at h
 split at h
 · cases h;exact⟨fun _ hn=>zy7 _ hn,fun _ hn=>zy6 _ hn⟩
 · cases h
def zfn:Know Tryz.prog:=⟨253,zfo,zqY⟩
def zfm:Know Tryz.prog:=⟨253,fun I=>zx I (zfo I),zf zqY⟩
end Go.Proofs.YtkjepecoodjbmaaGreatDoor
namespace Go.Proofs.YtkjepecoodjbmaaGreatDoor
open Go Go.Sep Go.Ab
set_option maxRecDepth 100000
def zaE (I:Alg):KU
 |[.v (.agg [.p (.str a),.p (.str b)]),.v (.one (.ptr 0 0))],[.pack [.obj 9 [.p (.str n)]]]=>(fun(a b n:Str)=>(some (.one ⟨I.hid (True),(.ret (.v (.one (.p (.bool (I.hid (a == n))))))),[.pack [.obj 9 [.p (.str n)]]]⟩):Option CT)) a b n
 |_,_=>none
theorem zmd:zu Tryz.prog 245 (zaE alg):=by
 intro args hp r h;unfold zaE at h;split at h<;>cases h
 rename_i a b n;simp only [CT.Good,zh];intro _
 refine spH Tryz.func245 (by kernel_rfl) { keep:=some [0,1,2,3]} [] (by kernel_rfl) ?_
 intro I X hI hX
 refine orcL ?_;go_invoke;refine orcS (by kernel_rfl) ?_
 simp only [zi,Nat.reduceAdd];subst hI;simp only [nrmA,nrmB,nrlB,reduceCtorEq,HO.pack.injEq,HO.obj.injEq]
 try trivial
def zfu:Know Tryz.prog:=⟨245,zaE,zmd⟩
def zuK:Know Tryz.prog:=⟨245,fun I=>zx I (zaE I),zf zmd⟩
def zmc (I:Alg):KU
 |[.v (.one (.p (.list .fld l))),.v (.one (.fn 245 [.ptr 0 0]))],[.pack [.obj 9 [.p (.str n)]]]=>(fun(l:List Fld) (n:Str)=>(some (.one ⟨I.hid (l.length≤1000000),(.ret (.v (.one (.p (.int .i64 (I.hid (ixP l n))))))),[.pack [.obj 9 [.p (.str n)]]]⟩):Option CT)) l n
 |_,_=>none
set_option maxHeartbeats 1000000 in
theorem zwd:zu Tryz.prog 244 (zmc alg):=by
 intro args hp r h;unfold zmc at h;split at h<;>cases h
 rename_i l n
 revert l;intro(l:List Fld)
 simp only [CT.Good,zh];intro hneed
 refine spH Tryz.func244 (by kernel_rfl) { keep:=some [0,1,4,5,7,8]} [zfu] (by kernel_rfl) ?_
 intro I X hI hX
 refine orcL ?_;go_invoke;refine orcS (by kernel_rfl) ?_
 simp only [zi,Nat.reduceAdd]
 refine lpH hI [zfu] hX [0,1,7,8] (fun(i:Nat)=>i≤l.length∧i≤l.findIdx (fun f=>f.name == n)) (fun(i:Nat)=>⟨[(0,.v (.one (.p (.list .fld l)))),(1,.v (.one (.fn 245 [.ptr 0 0]))),(7,.v (.one (.p (.int .i64 ((I.len (α:=Fld) l)))))),(8,.v (.one (.p (.int .i64 i))))],[.pack [.obj 9 [.p (.str n)]]],19,none⟩) (fun(i:Nat)=>l.length - i) 0 (by kernel_rfl) (by kernel_rfl) ?_ ?_
 · exact⟨jM _,jM _⟩
 rintro i ⟨h1,h2⟩ A hA
 refine orcL ?_;go_invoke;refine orcS (by kernel_rfl) ?_
 simp only [zi,Nat.reduceAdd];subst hI;simp only [nrmA,nrmB,nrlB,reduceCtorEq,HO.pack.injEq,HO.obj.injEq];have hfl:l.findIdx (fun f=>f.name == n)≤l.length:=List.findIdx_le_length
 have hyes:i<l.length→(l.getD i ⟨[],[]⟩).name=n→ixP l n=i:=fun h hid=>by
  have h0:l.findIdx (fun f=>f.name == n)≤i:=by
   refine Nat.le_of_not_lt fun hlt=> ?_;have:=List.not_of_lt_findIdx hlt;rw [jH,jm h] at hid;simp only [Option.getD_some] at hid;rw [hid] at this;simp at this
  unfold ixP
  rw [if_pos (by omega)];omega
 have hno:i<l.length→¬ (l.getD i ⟨[],[]⟩).name=n→i+1≤l.findIdx (fun f=>f.name == n):=fun h hid=>by
  refine Nat.lt_of_le_of_ne h2 fun e=>hid ?_
  have hlt:l.findIdx (fun f=>f.name == n)<l.length:=by omega
  have:=List.findIdx_getElem (xs:=l) (p:=fun f=>f.name == n) (w:=hlt)
  have h9:l.getD i ⟨[],[]⟩=l[l.findIdx (fun f=>f.name == n)]:=by simp [e,jH,hlt]
  rw [h9];simpa using this
 have hend: ¬ i<l.length→ixP l n= -1:=fun h=>by unfold ixP;rw [if_neg (by omega)]
 generalize l.getD i ⟨[],[]⟩=x at *
 (repeat' (first|refine ja ?_ ?_|intro _))<;>first|omega|exact jb|exact jc ‹False›|skip
 all_goals first
  |omega
  |(exact(hyes (by omega) ‹_›).symm)
  |(exact hA (i+1) ⟨by omega,hno (by omega) ‹_›⟩ (by omega))
  |(exact(hend (by omega)).symm)
def zzb:Know Tryz.prog:=⟨244,zmc,zwd⟩
def zza:Know Tryz.prog:=⟨244,fun I=>zx I (zmc I),zf zwd⟩
theorem zzu (l:List Fld) (n:Str): -1≤ixP l n∧ixP l n<l.length:=by unfold ixP;split<;>omega
def zft (I:Alg):KU
 |[.v (.agg [.p (.str w),.p (.list .fld l)]),.v (.one (.p (.str n)))],[]=>(fun(w:Str) (l:List Fld) (n:Str)=>(some (.one ⟨I.hid (l.length≤1000000),(.ret (.tup [.one (.p (.str (I.hid ((getP l n).1)))),.one (.p (.bool (I.hid ((getP l n).2))))])),[]⟩):Option CT)) w l n
 |_,_=>none
theorem zq1:zu Tryz.prog 215 (zft alg):=by
 intro args hp r h;unfold zft at h;split at h<;>cases h
 rename_i w l n
 revert l;intro(l:List Fld)
 simp only [CT.Good,zh];intro hneed;rw [zxX];have hx:=zzu l n
 refine spH Tryz.func215 (by kernel_rfl) { keep:=some [0,1,2,3,4,5,6]} [zfu,zuK,zzb,zza] (by kernel_rfl) ?_
 intro I X hI hX
 refine orcL ?_;go_invoke;refine orcS (by kernel_rfl) ?_
 simp only [zi,Nat.reduceAdd];subst hI;simp only [nrmA,nrmB]
 (repeat' (first|refine ja ?_ ?_|intro _))<;>first|omega|exact jb|exact jc ‹False›|skip
 all_goals first
  |omega
  |(rw [if_pos (by omega)])
  |(rw [if_neg (by omega)])
def SE:Know Tryz.prog:=⟨215,zft,zq1⟩
def SC:Know Tryz.prog:=⟨215,fun I=>zx I (zft I),zf zq1⟩
def cfgM:Cfg:= { sl:=[⟨210,1,.fld,some 236⟩]}
set_option maxHeartbeats 4000000 in
theorem zy9 (s:Str) (hneed:s.length≤1000000∧(wP s).1=0):Spc Tryz.prog 221 [.v (.one (.ptr 0 0))] [.pack [.obj 260 [.p (.str s)]]] (.ret (.v (.agg [.p (.str ((wP s).2.1.word)),.p (.list .fld ((wP s).2.1.params))]))) [.pack [.obj 260 [.p (.str ((wP s).2.2))]]]:=by
 obtain⟨hl,hc⟩:=hneed;generalize hr:wP s=r at hc;obtain⟨c,⟨w,ps⟩,z⟩:=r;simp only at hc;subst hc
 refine spH Tryz.func221 (by kernel_rfl) { cfgM with lend:=[215],keep:=some [0,2,3,4,6]} [wX,wW,wO,wM,XV,XU,XT,XR,SB,SA,zfn,zfm,SE,SC] (by kernel_rfl) ?_
 intro I X hI hX
 refine orcL ?_;go_invoke;refine orcS (by kernel_rfl) ?_
 simp only [zi,Nat.reduceAdd]
 have hh: ∀ {α:Type} (x:α),I.hid x=x:=by subst hI;intros;rfl
 have key : ∀ (w0 t0:Str),t0.length≤1000000→((medL (t0.length+1) t0 []).1,(⟨w0,(medL (t0.length+1) t0 []).2.1⟩:Med),(medL (t0.length+1) t0 []).2.2)=(0,⟨w,ps⟩,z)→Ok Tryz.prog X (fun o h=>o=AOut.ret (D.v (V0.agg [C.p (P.str w),C.p (P.list U.fld ps)]))∧h=[HO.pack [HO.obj 260 [C.p (P.str z)]]]) (leaf I tab { cfgM with lend:=[215],keep:=some [0,2,3,4,6]} [⟨vI Tryz.f221,finK I tab { cfgM with lend:=[215],keep:=some [0,2,3,4,6]} 1 Tryz.f221⟩] 0 [1,1,1,1,0,1,0] ⟨[(3,.v (.one (.ptr 2 0))),(2,.v (.one (.ptr 1 0))),(0,.v (.one (.ptr 0 0)))],[.pack [.obj 260 [.p (.str t0)]],.obj 210 [.p (.str ([])),.nilS],.obj 210 [.p (.str w0),.nilS]],60,none⟩):=by
  intro w0 t0 ht0 hm;simp only [Prod.mk.injEq,Med.mk.injEq] at hm;obtain⟨hm1,⟨rfl,hm2⟩,hm3⟩:=hm
  refine lpH hI [wX,wW,wO,wM,XV,XU,XT,XR,SB,SA,zfn,zfm,SE,SC] hX [0,2,3] (fun(g:Str × List Fld)=>match g with|(t,l)=>t.length≤1000000∧l.length≤8∧∃ n,t.length<n∧medL n t l=(0,ps,z)) (fun(g:Str × List Fld)=>match g with|(t,l)=>⟨[(0,.v (.one (.ptr 0 0))),(2,.v (.one (.ptr 1 0))),(3,.v (.one (.ptr 2 0)))],[.pack [.obj 260 [.p (.str t)]],.pack [.obj 210 [.p (.str ([])),.row 1],.row .fld 236 ([])],.pack [.obj 210 [.p (.str w0),.row 1],.row .fld 236 l]],60,none⟩) (fun(g:Str × List Fld)=>match g with|(t,l)=>t.length) (t0,[]) (by kernel_rfl) (by kernel_rfl) ?_ ?_
  · exact⟨ht0,by simp,t0.length+1,by omega,by rw [← hm1,← hm2,← hm3]⟩
  rintro⟨t,l⟩ ⟨ht,hl8,n,hn,hm⟩ A hA;clear hm1 hm2 hm3 hr;simp only at hA
  refine orcL ?_;go_invoke;refine orcS (by kernel_rfl) ?_
  simp only [zi,Nat.reduceAdd]
  cases n with
  |zero=>omega
  |succ n=>
  simp only [medL] at hm;have hgo:=hA (skS (parM (skS (t.drop 1))).2.2,l++[(parM (skS (t.drop 1))).2.1]);have hpl:=zfj (skS (t.drop 1));have hpc:=zg9 (skS (t.drop 1));have hsl:=vM (t.drop 1);have hsr:=vM (parM (skS (t.drop 1))).2.2;rw [jC] at hsl;clear hA;simp only [hh,show UInt8.ofNat (Int.toNat 59)=59 from rfl];subst hI
  by_cases h59:sG t 59=true
  · have hpos:=zd4 h59
    simp only [h59,if_true] at hm ⊢
    have hgo2:(parM (skS (t.drop 1))).1=0→(getP l (parM (skS (t.drop 1))).2.1.name).2=false→¬ l.length=8→_:=fun h1 h2 h3=>hgo ⟨by simp only;omega,by simp only [jk,jh,ji];omega,n,by simp only;omega,by
     rw [if_neg (fun h=>h h1),if_neg (by rw [h2];exact Bool.false_ne_true),if_neg h3] at hm;exact hm⟩ (by simp only;omega)
    clear hgo;simp only at hgo2;generalize parM (skS (t.drop 1))=p at *;obtain⟨pc,⟨pn,pv⟩,pr⟩:=p;simp only at hgo2 hm hpl hpc hsl hsr ⊢;simp only [nrmA,nrmB,nrlB,reduceCtorEq,jh,ji]
    (repeat' (first|refine ja ?_ ?_|intro _))<;>first|omega|exact jb|exact jc ‹False›|skip
    all_goals first
     |omega
     |assumption
     | (by_cases hpz:pc=0
        · exact hpz
        · rw [if_pos hpz] at hm;simp only [Prod.mk.injEq] at hm;exact hm.1)
     |exact hgo2 ‹_› ‹_› (by omega)
     |(exfalso;rw [if_neg (fun h=>h ‹pc=0›),if_neg (by rw [‹(getP l pn).2=false›];exact Bool.false_ne_true),if_pos (by omega)] at hm;simp_all;done)
     |(rw [if_neg (fun h=>h ‹pc=0›),if_neg (by rw [‹(getP l pn).2=false›];exact Bool.false_ne_true),if_pos (by omega)] at hm;simp_all;done)
     |(exfalso;simp_all;done)
     |(simp_all;done)
  · have h59:sG t 59=false:=by simpa using h59
    simp only [h59,jd,if_false] at hm ⊢;simp only [nrmA,nrmB,nrlB,reduceCtorEq,jh,ji]
    (repeat' (first|refine ja ?_ ?_|intro _))<;>first|omega|exact jb|exact jc ‹False›|skip
    all_goals first
     |omega
     |(exfalso;simp_all;done)
     |(simp_all;done)
     |(by_cases hte:t=[]<;>simp_all;done)
 have hl1:=vM s;have hl2:=vV (skS s);have hl3:=sH (skS s);simp only [hh,show UInt8.ofNat (Int.toNat 47)=47 from rfl,decide_eq_true_eq,decide_eq_false_iff_not];unfold wP medA at hr;generalize skS s=t at *;have hl4:=sH ((tokE t).drop 1);have hl5:=vV ((tokE t).drop 1);rw [jC] at hl4 hl5
 (repeat' (first|refine ja ?_ ?_|intro _))
 all_goals try first|trivial|assumption|omega|(exfalso;simp_all;done)|(subst hI;(try(simp only [nrmA,nrmB,nrlB,reduceCtorEq,jh,ji,vJ]))<;>first|omega|(simp_all [vJ];done)|(simp_all [vJ];omega))
 all_goals(have happ: ∀ a b:Str,I.app (α:=UInt8) a b=a++b:=by subst hI;intros;rfl)
 all_goals try simp only [happ]
 all_goals first
  | (rename_i q1 q2 q3
     rw [if_neg q1,if_pos q2] at hr;simp only [q2,if_true] at q3 ⊢;rw [if_neg q3] at hr;have hsk:=vM (tokE ((tokE t).drop 1))
     exact key _ _ (by omega) hr)
  | (rename_i q1 q2
     rw [if_neg q1,if_neg (by simp [q2])] at hr
     simp only [q2,jd,if_false] at ⊢
     have hsk:=vM (tokE t)
     exact key _ _ (by omega) hr)
set_option maxHeartbeats 4000000 in
theorem zy8 (s:Str) (hneed:s.length≤1000000∧¬ (wP s).1=0):Spc Tryz.prog 221 [.v (.one (.ptr 0 0))] [.pack [.obj 260 [.p (.str s)]]] (.pan (.ifc 256 false [.int .i64 ((wP s).1)])) [.pack [.obj 260 [.p (.str ((wP s).2.2))]]]:=by
 obtain⟨hl,hc⟩:=hneed;generalize hr:wP s=r at hc;obtain⟨c,⟨w,ps⟩,z⟩:=r;simp only at hc
 refine spH Tryz.func221 (by kernel_rfl) { cfgM with lend:=[215],keep:=some [0,2,3,4,6]} [wX,wW,wO,wM,XV,XU,XT,XR,SB,SA,zfn,zfm,SE,SC] (by kernel_rfl) ?_
 intro I X hI hX
 refine orcL ?_;go_invoke;refine orcS (by kernel_rfl) ?_
 simp only [zi,Nat.reduceAdd]
 have hh: ∀ {α:Type} (x:α),I.hid x=x:=by subst hI;intros;rfl
 have key : ∀ (w0 t0:Str),t0.length≤1000000→((medL (t0.length+1) t0 []).1,(⟨w0,(medL (t0.length+1) t0 []).2.1⟩:Med),(medL (t0.length+1) t0 []).2.2)=(c,⟨w,ps⟩,z)→Ok Tryz.prog X (fun o h=>o=AOut.pan (C.ifc 256 false [P.int IntKind.i64 c])∧h=[HO.pack [HO.obj 260 [C.p (P.str z)]]]) (leaf I tab { cfgM with lend:=[215],keep:=some [0,2,3,4,6]} [⟨vI Tryz.f221,finK I tab { cfgM with lend:=[215],keep:=some [0,2,3,4,6]} 1 Tryz.f221⟩] 0 [1,1,1,1,0,1,0] ⟨[(3,.v (.one (.ptr 2 0))),(2,.v (.one (.ptr 1 0))),(0,.v (.one (.ptr 0 0)))],[.pack [.obj 260 [.p (.str t0)]],.obj 210 [.p (.str ([])),.nilS],.obj 210 [.p (.str w0),.nilS]],60,none⟩):=by
  intro w0 t0 ht0 hm;simp only [Prod.mk.injEq,Med.mk.injEq] at hm;obtain⟨hm1,⟨rfl,hm2⟩,hm3⟩:=hm
  refine lpH hI [wX,wW,wO,wM,XV,XU,XT,XR,SB,SA,zfn,zfm,SE,SC] hX [0,2,3] (fun(g:Str × List Fld)=>match g with|(t,l)=>t.length≤1000000∧l.length≤8∧∃ n,t.length<n∧medL n t l=(c,ps,z)) (fun(g:Str × List Fld)=>match g with|(t,l)=>⟨[(0,.v (.one (.ptr 0 0))),(2,.v (.one (.ptr 1 0))),(3,.v (.one (.ptr 2 0)))],[.pack [.obj 260 [.p (.str t)]],.pack [.obj 210 [.p (.str ([])),.row 1],.row .fld 236 ([])],.pack [.obj 210 [.p (.str w0),.row 1],.row .fld 236 l]],60,none⟩) (fun(g:Str × List Fld)=>match g with|(t,l)=>t.length) (t0,[]) (by kernel_rfl) (by kernel_rfl) ?_ ?_
  · exact⟨ht0,by simp,t0.length+1,by omega,by rw [← hm1,← hm2,← hm3]⟩
  rintro⟨t,l⟩ ⟨ht,hl8,n,hn,hm⟩ A hA;clear hm1 hm2 hm3 hr;simp only at hA
  refine orcL ?_;go_invoke;refine orcS (by kernel_rfl) ?_
  simp only [zi,Nat.reduceAdd]
  cases n with
  |zero=>omega
  |succ n=>
  simp only [medL] at hm;have hgo:=hA (skS (parM (skS (t.drop 1))).2.2,l++[(parM (skS (t.drop 1))).2.1]);have hpl:=zfj (skS (t.drop 1));have hpc:=zg9 (skS (t.drop 1));have hsl:=vM (t.drop 1);have hsr:=vM (parM (skS (t.drop 1))).2.2;rw [jC] at hsl;clear hA;simp only [hh,show UInt8.ofNat (Int.toNat 59)=59 from rfl];subst hI
  by_cases h59:sG t 59=true
  · have hpos:=zd4 h59
    simp only [h59,if_true] at hm ⊢
    have hgo2:(parM (skS (t.drop 1))).1=0→(getP l (parM (skS (t.drop 1))).2.1.name).2=false→¬ l.length=8→_:=fun h1 h2 h3=>hgo ⟨by simp only;omega,by simp only [jk,jh,ji];omega,n,by simp only;omega,by
     rw [if_neg (fun h=>h h1),if_neg (by rw [h2];exact Bool.false_ne_true),if_neg h3] at hm;exact hm⟩ (by simp only;omega)
    clear hgo;simp only at hgo2;generalize parM (skS (t.drop 1))=p at *;obtain⟨pc,⟨pn,pv⟩,pr⟩:=p;simp only at hgo2 hm hpl hpc hsl hsr ⊢;simp only [nrmA,nrmB,nrlB,reduceCtorEq,jh,ji]
    (repeat' (first|refine ja ?_ ?_|intro _))<;>first|omega|exact jb|exact jc ‹False›|skip
    all_goals first
     |omega
     |assumption
     | (by_cases hpz:pc=0
        · exact hpz
        · rw [if_pos hpz] at hm;simp only [Prod.mk.injEq] at hm;exact hm.1)
     |exact hgo2 ‹_› ‹_› (by omega)
     |(exfalso;rw [if_neg (fun h=>h ‹pc=0›),if_neg (by rw [‹(getP l pn).2=false›];exact Bool.false_ne_true),if_pos (by omega)] at hm;simp_all;done)
     |(rw [if_neg (fun h=>h ‹pc=0›),if_neg (by rw [‹(getP l pn).2=false›];exact Bool.false_ne_true),if_pos (by omega)] at hm;simp_all;done)
     |(exfalso;simp_all;done)
     |(simp_all;done)
  · have h59:sG t 59=false:=by simpa using h59
    simp only [h59,jd,if_false] at hm ⊢;simp only [nrmA,nrmB,nrlB,reduceCtorEq,jh,ji]
    (repeat' (first|refine ja ?_ ?_|intro _))<;>first|omega|exact jb|exact jc ‹False›|skip
    all_goals first
     |omega
     |(exfalso;simp_all;done)
     |(simp_all;done)
     |(by_cases hte:t=[]<;>simp_all;done)
 have hl1:=vM s;have hl2:=vV (skS s);have hl3:=sH (skS s);simp only [hh,show UInt8.ofNat (Int.toNat 47)=47 from rfl,decide_eq_true_eq,decide_eq_false_iff_not];unfold wP medA at hr;generalize skS s=t at *;have hl4:=sH ((tokE t).drop 1);have hl5:=vV ((tokE t).drop 1);rw [jC] at hl4 hl5
 (repeat' (first|refine ja ?_ ?_|intro _))
 all_goals try first|trivial|assumption|omega|(exfalso;simp_all;done)|(subst hI;(try(simp only [nrmA,nrmB,nrlB,reduceCtorEq,jh,ji,vJ]))<;>first|omega|(simp_all [vJ];done)|(simp_all [vJ];omega))
 all_goals(have happ: ∀ a b:Str,I.app (α:=UInt8) a b=a++b:=by subst hI;intros;rfl)
 all_goals try simp only [happ]
 all_goals first
  | (rename_i q1 q2 q3
     rw [if_neg q1,if_pos q2] at hr;simp only [q2,if_true] at q3 ⊢;rw [if_neg q3] at hr;have hsk:=vM (tokE ((tokE t).drop 1))
     exact key _ _ (by omega) hr)
  | (rename_i q1 q2
     rw [if_neg q1,if_neg (by simp [q2])] at hr
     simp only [q2,jd,if_false] at ⊢
     have hsk:=vM (tokE t)
     exact key _ _ (by omega) hr)
def zfs (I:Alg):KU
 |[.v (.one (.ptr 0 0))],[.pack [.obj 260 [.p (.str s)]]]=>(fun(s:Str)=>(some (.br (I.hid (decide ((wP s).1=0))) (.one ⟨I.hid (s.length≤1000000∧(wP s).1=0),(.ret (.v (.agg [.p (.str (I.hid ((wP s).2.1.word))),.p (.list .fld (I.hid ((wP s).2.1.params)))]))),[.pack [.obj 260 [.p (.str (I.hid ((wP s).2.2)))]]]⟩) (.one ⟨I.hid (s.length≤1000000∧¬ (wP s).1=0),(.pan (.ifc 256 false [.int .i64 (I.hid ((wP s).1))])),[.pack [.obj 260 [.p (.str (I.hid ((wP s).2.2)))]]]⟩)):Option CT)) s
 |_,_=>none
theorem zq0:zu Tryz.prog 221 (zfs alg):=by
 intro args hp r h;unfold zfs at h
 split at h
 · cases h;exact⟨fun _ hn=>zy9 _ hn,fun _ hn=>zy8 _ hn⟩
 · cases h
def zxt:Know Tryz.prog:=⟨221,zfs,zq0⟩
def zxs:Know Tryz.prog:=⟨221,fun I=>zx I (zfs I),zf zq0⟩
end Go.Proofs.YtkjepecoodjbmaaGreatDoor
namespace Go.Proofs.YtkjepecoodjbmaaGreatDoor
open Go Go.Sep Go.Ab
set_option maxRecDepth 100000
theorem zzd (w:Str) (l:List Fld) (n:Int) (s:Str):SpcD Tryz.prog 220 [.ptr 0 0,.ptr 1 0] .ret [.obj 210 [.p (.str w),.p (.list .fld l)],.obj 3 [.p (.int .i64 n)],.pack [.obj 260 [.p (.str s)]]] .ret [.obj 210 [.p (.str w),.p (.list .fld l)],.obj 3 [.p (.int .i64 n)],.obj 260 [.p (.str s)]]:=by
 refine TR uT mixed Tryz.func220 (by kernel_rfl) { flat:=true} [] (rest:=_) rfl (by kernel_rfl) ?_
 intro I X hI hX
 refine orcL ?_;go_invoke;refine orcS (by kernel_rfl) ?_
 simp only [zi,Nat.reduceAdd]
 try trivial
theorem zzc (w:Str) (n k:Int) (s:Str):SpcD Tryz.prog 220 [.ptr 0 0,.ptr 1 0] (.pan (.ifc 256 false [.int .i64 k])) [.obj 210 [.p (.str w),.nilS],.obj 3 [.p (.int .i64 n)],.pack [.obj 260 [.p (.str s)]]] .ret [.obj 210 [.p (.str []),.nilS],.obj 3 [.p (.int .i64 k)],.obj 260 [.p (.str s)]]:=by
 refine TR uT mixed Tryz.func220 (by kernel_rfl) { flat:=true} [] (rest:=_) rfl (by kernel_rfl) ?_
 intro I X hI hX
 refine orcL ?_;go_invoke;refine orcS (by kernel_rfl) ?_
 simp only [zi,Nat.reduceAdd]
 try trivial
def zAB:Door Tryz.prog where
 g:=220
 c :=fun _ m caps hp=>match m,caps,hp with
   |.ret,[.ptr 0 0,.ptr 1 0],[.obj 210 [.p (.str w),.p (.list .fld l)],.obj 3 [.p (.int .i64 n)],.pack [.obj 260 [.p (.str s)]]]=>some (True,.ret,[.obj 210 [.p (.str w),.p (.list .fld l)],.obj 3 [.p (.int .i64 n)],.obj 260 [.p (.str s)]])
   |.pan (.ifc 256 false [.int .i64 k]),[.ptr 0 0,.ptr 1 0],[.obj 210 [.p (.str w),.nilS],.obj 3 [.p (.int .i64 n)],.pack [.obj 260 [.p (.str s)]]]=>some (True,.ret,[.obj 210 [.p (.str []),.nilS],.obj 3 [.p (.int .i64 k)],.obj 260 [.p (.str s)]])
   |_,_,_=>none
 ok:=by
  intro m caps hp p m' hp' h _
  split at h
  · cases h;exact zzd _ _ _ _
  · cases h;exact zzc _ _ _ _
  · cases h
def Ug (I:Alg):KU
 |[.v (.one (.p (.str s)))],[]=>(fun(s:Str)=>(some (.one ⟨I.hid (s.length≤1000000),(.ret (.tup [.agg [.p (.str (I.hid ((x9 s).1.word))),.p (.list .fld (I.hid ((x9 s).1.params)))],.one (.p (.int .i64 (I.hid ((x9 s).2))))])),[]⟩):Option CT)) s
 |_,_=>none
theorem zhc:zu Tryz.prog 184 (Ug alg):=by
 intro args hp r h;unfold Ug at h;split at h<;>cases h
 rename_i s;simp only [CT.Good,zh];intro hneed;generalize hr:x9 s=r;obtain⟨⟨w,ps⟩,c⟩:=r;unfold x9 at hr
 refine zyQ uT mixed Tryz.func184 (by kernel_rfl) { cfgM with keep:=some [0,2,3,4]} [wU,wS,zxt,zxs] zAB (by kernel_rfl) ?_
 intro I X hI hX
 refine orcL ?_;go_invoke;refine orcS (by kernel_rfl) ?_
 simp only [zi,Nat.reduceAdd];subst hI;simp only [nrmA,nrmB,nrlB,reduceCtorEq,V0.agg.injEq]
 (repeat' (first|refine ja ?_ ?_|intro _))<;>first|omega|exact jb|exact jc ‹False›|skip
 all_goals first|(simp_all;done)|trace_state
def vC:Know Tryz.prog:=⟨184,Ug,zhc⟩
def vz:Know Tryz.prog:=⟨184,fun I=>zx I (Ug I),zf zhc⟩
end Go.Proofs.YtkjepecoodjbmaaGreatDoor
namespace Go.Proofs.YtkjepecoodjbmaaGreatDoor
open Go Go.Sep Go.Ab
set_option maxRecDepth 100000
def xK (m:Str):Str→Int→Int
 |[],i=>if m.isPrefixOf [] then i else -1
 |x::b,i=>if m.isPrefixOf (x::b) then i else xK m b (i+1)
theorem Qw (m:Str): ∀ (b:Str) (i:Int),b.length<m.length→xK m b i= -1
 | [],i,h=>by
   cases m with
   |nil=>simp at h
   |cons y m=>simp [xK,List.isPrefixOf]
 | x ::b,i,h=>by
   have: ¬ m.isPrefixOf (x::b)=true:=fun hp=>by
    have:=(List.isPrefixOf_iff_prefix.1 hp).length_le;omega
   rw [xK,if_neg this]
   exact Qw m b _ (by simp at h;omega)
theorem zcN (m b:Str) (i:Nat) (h:i<b.length∨m=[]):xK m (b.drop i) i=if m=(b.drop i).take m.length then(i:Int) else xK m (b.drop (i+1)) (i+1:Nat):=by
 have hp:m.isPrefixOf (b.drop i)=true↔m=(b.drop i).take m.length:=by rw [List.isPrefixOf_iff_prefix,List.prefix_iff_eq_take]
 rcases h with h|h
 · rw [jE h] at hp ⊢
   rw [xK]
   by_cases hc:m.isPrefixOf (b[i]::b.drop (i+1))=true
   · rw [if_pos hc,if_pos (hp.1 hc)]
   · rw [if_neg hc,if_neg (fun e=>hc (hp.2 e))];rfl
 · subst h
   have h2:([]:Str).isPrefixOf (b.drop i)=true:=by cases b.drop i<;>rfl
   rw [if_pos (hp.1 h2)]
   cases hd:b.drop i with
   |nil=>simp [xK]
   |cons y r=>simp [xK]
def qX (I:Alg):KU
 |[.v (.one (.p (.list .byte b))),.v (.one (.p (.str m)))],[]=>(fun(b m:Str)=>(some (.one ⟨I.hid (b.length≤1000000∧m.length≤1000000),(.ret (.v (.one (.p (.int .i64 (I.hid (xK m b 0))))))),[]⟩):Option CT)) b m
 |_,_=>none
theorem Qv:zu Tryz.prog 72 (qX alg):=by
 intro args hp r h;unfold qX at h;split at h<;>cases h
 rename_i b m;simp only [CT.Good,zh];intro hneed
 refine spH Tryz.func72 (by kernel_rfl) { keep:=some [0,1,4,5]} [] (by kernel_rfl) ?_
 intro I X hI hX
 refine orcL ?_;go_invoke;refine orcS (by kernel_rfl) ?_
 simp only [zi,Nat.reduceAdd]
 refine lpH hI [] hX [0,1,5] (fun(i:Nat)=>xK m b 0=xK m (b.drop i) i∧i≤b.length) (fun(i:Nat)=>⟨[(0,.v (.one (.p (.list .byte b)))),(1,.v (.one (.p (.str m)))),(5,.v (.one (.p (.int .i64 i))))],[],26,none⟩) (fun(i:Nat)=>b.length - i) 0 (by kernel_rfl) (by kernel_rfl) ?_ ?_
 · exact⟨by simp,jM _⟩
 rintro i ⟨hf,hib⟩ A hA
 refine orcL ?_;go_invoke;refine orcS (by kernel_rfl) ?_
 simp only [zi,Nat.reduceAdd];subst hI;simp only [nrmA,nrmB]
 simp only [show((i:Int)+(m.length:Int)).toNat=i+m.length by omega,Nat.add_sub_cancel_left]
 have hor:i+m.length≤b.length→(i<b.length∨m=[]):=fun h=>by
  rcases m with _|⟨y,m⟩
  · exact .inr rfl
  · left;simp at h;omega
 (repeat' (first|refine ja ?_ ?_|intro _))<;>first|omega|exact jb|exact jc ‹False›|skip
 · rename_i hle heq
   rw [hf,zcN m b i (hor (by omega)),if_pos heq.symm]
 · rename_i hle hne
   have hlt:i<b.length:=(hor (by omega)).resolve_right (fun e=>hne (by subst e;simp))
   refine hA (i+1) ⟨?_,by omega⟩ (by omega)
   rw [hf,zcN m b i (hor (by omega)),if_neg (fun h=>hne h.symm)]
 · rename_i hgt
   rw [hf,Qw m (b.drop i) i (by simp only [jC];omega)]
def vS:Know Tryz.prog:=⟨72,qX,Qv⟩
def vP:Know Tryz.prog:=⟨72,fun I=>zx I (qX I),zf Qv⟩
end Go.Proofs.YtkjepecoodjbmaaGreatDoor
namespace Go.Proofs.YtkjepecoodjbmaaGreatDoor
open Go Go.Sep Go.Ab
set_option maxRecDepth 100000
def cutB (s:Str) (c:UInt8):Str × Str × Bool:=
 if 0≤Lib.indexByte s c then(s.take (Lib.indexByte s c).toNat,s.drop ((Lib.indexByte s c).toNat+1),true) else(s,[],false)
def yj (s:Str):Fld × Int:=
 if(cutB s 58).2.2=false then(⟨[],[]⟩,5)
 else if wZ (cutB s 58).1=false then(⟨[],[]⟩,6)
 else if 40<(cutB s 58).1.length then(⟨[],[]⟩,4)
 else if yN (cutB s 58).2.1=false then(⟨[],[]⟩,3)
 else(⟨(cutB s 58).1,Lib.trimS (cutB s 58).2.1 [32,9]⟩,0)
def textF (f:Fld):Str × Int:=
 if wZ f.name=false then([],6)
 else if 40<f.name.length∨200<f.name.length+2+f.value.length then([],4)
 else if yN f.value=false∨¬ Lib.trimS f.value [32,9]=f.value then([],3)
 else(f.name++[58,32]++f.value,0)
theorem za9 (s:Str) (c:UInt8):(cutB s c).1.length≤s.length∧(cutB s c).2.1.length≤s.length:=by
 unfold cutB
 split
 · simp only [jv,jC];omega
 · simp
def zaj (I:Alg):KU
 |[.v (.one (.p (.str s))),.v (.one (.p (.str ([c]))))],[]=>(fun(s:Str)=>(some (.one ⟨I.hid (s.length≤1000000),(.ret (.tup [.one (.p (.str (I.hid ((cutB s c).1)))),.one (.p (.str (I.hid ((cutB s c).2.1)))),.one (.p (.bool (I.hid ((cutB s c).2.2))))])),[]⟩):Option CT)) s
 |_,_=>none
theorem zlu:zu Tryz.prog 243 (zaj alg):=by
 intro args hp r h;unfold zaj at h;split at h<;>cases h
 rename_i s c;simp only [CT.Good,zh];intro hneed;generalize hr:cutB s c=r;obtain⟨a,b,d⟩:=r
 refine spH Tryz.func243 (by kernel_rfl) { keep:=some [0,1,4,5,6,7]} [zrK,zrJ] (by kernel_rfl) ?_
 intro I X hI hX
 refine orcL ?_;go_invoke;refine orcS (by kernel_rfl) ?_
 simp only [zi,Nat.reduceAdd];subst hI;simp only [nrmA,nrmB];have hx:=yF s c;simp only [jh,ji];refine⟨fun h=> ?_,fun h=> ?_⟩
 · rw [cutB,if_pos h] at hr
   simp only [Prod.mk.injEq] at hr;obtain⟨rfl,rfl,rfl⟩:=hr
   refine⟨by omega,by omega,by omega,?_⟩
   rw [show(Lib.indexByte s c+((0+1:Nat):Int)).toNat=(Lib.indexByte s c).toNat+1 by omega]
   have e:List.take (s.length - ((Lib.indexByte s c).toNat+1)) (List.drop ((Lib.indexByte s c).toNat+1) s)=List.drop ((Lib.indexByte s c).toNat+1) s:=jq (by rw [jC];exact jL _)
   rw [e]
 · rw [cutB,if_neg h] at hr
   simp only [Prod.mk.injEq] at hr;obtain⟨rfl,rfl,rfl⟩:=hr;rfl
def ztV:Know Tryz.prog:=⟨243,zaj,zlu⟩
def ztU:Know Tryz.prog:=⟨243,fun I=>zx I (zaj I),zf zlu⟩
def zfb (I:Alg):KU
 |[.v (.one (.p (.str s))),.v (.one (.p (.str ([c]))))],[]=>(fun(s:Str)=>(some (.one ⟨I.hid (s.length≤1000000),(.ret (.tup [.one (.p (.str (I.hid ((cutB s c).1)))),.one (.p (.str (I.hid ((cutB s c).2.1)))),.one (.p (.bool (I.hid ((cutB s c).2.2))))])),[]⟩):Option CT)) s
 |_,_=>none
theorem zqa:zu Tryz.prog 214 (zfb alg):=by
 intro args hp r h;unfold zfb at h;split at h<;>cases h
 rename_i s c;simp only [CT.Good,zh];intro hneed
 refine spH Tryz.func214 (by kernel_rfl) { keep:=some [0,1,4,5,6]} [ztV,ztU] (by kernel_rfl) ?_
 intro I X hI hX
 refine orcL ?_;go_invoke;refine orcS (by kernel_rfl) ?_
 simp only [zi,Nat.reduceAdd];subst hI;simp only [nrmA,nrmB];exact hneed
def zp9:Know Tryz.prog:=⟨214,zfb,zqa⟩
def zp8:Know Tryz.prog:=⟨214,fun I=>zx I (zfb I),zf zqa⟩
def zaB (I:Alg):KU
 |[.v (.one (.p (.str s)))],[]=>(fun(s:Str)=>(some (.one ⟨I.hid (s.length≤1000000),(.ret (.tup [.agg [.p (.str (I.hid ((yj s).1.name))),.p (.str (I.hid ((yj s).1.value)))],.one (.p (.int .i64 (I.hid ((yj s).2))))])),[]⟩):Option CT)) s
 |_,_=>none
theorem zl9:zu Tryz.prog 173 (zaB alg):=by
 intro args hp r h;unfold zaB at h;split at h<;>cases h
 rename_i s;simp only [CT.Good,zh];intro hneed;generalize hr:yj s=r;obtain⟨⟨a,b⟩,d⟩:=r
 refine spH Tryz.func173 (by kernel_rfl) { keep:=some [0,2,3,4,5,6]} [rF,rE,wU,wS,Tz,Tv,zp9,zp8] (by kernel_rfl) ?_
 intro I X hI hX
 refine orcL ?_;go_invoke;refine orcS (by kernel_rfl) ?_
 simp only [zi,Nat.reduceAdd];subst hI;simp only [nrmA,nrmB];have hl:=za9 s 58;unfold yj at hr
 (repeat' (first|refine ja ?_ ?_|intro _))<;>first|omega|exact jb|exact jc ‹False›|skip
 all_goals first
  |(rw [if_pos (by assumption)] at hr;cases hr;rfl)
  |(rw [if_neg (by simp [*]),if_pos (by assumption)] at hr;cases hr;rfl)
  |(rw [if_neg (by simp [*]),if_neg (by simp [*]),if_pos (by omega)] at hr;cases hr;rfl)
  |(rw [if_neg (by simp [*]),if_neg (by simp [*]),if_neg (by omega),if_pos (by assumption)] at hr;cases hr;rfl)
  |(rw [if_neg (by simp [*]),if_neg (by simp [*]),if_neg (by omega),if_neg (by simp [*])] at hr;cases hr;rfl)
def Uc:Know Tryz.prog:=⟨173,zaB,zl9⟩
def Ub:Know Tryz.prog:=⟨173,fun I=>zx I (zaB I),zf zl9⟩
def zeR (I:Alg):KU
 |[.v (.agg [.p (.str n),.p (.str v)])],[]=>(fun(n v:Str)=>(some (.one ⟨I.hid (n.length≤1000000∧v.length≤1000000),(.ret (.tup [.one (.p (.str (I.hid ((textF ⟨n,v⟩).1)))),.one (.p (.int .i64 (I.hid ((textF ⟨n,v⟩).2))))])),[]⟩):Option CT)) n v
 |_,_=>none
theorem zpp:zu Tryz.prog 147 (zeR alg):=by
 intro args hp r h;unfold zeR at h;split at h<;>cases h
 rename_i n v;simp only [CT.Good,zh];intro hneed;generalize hr:textF ⟨n,v⟩=r;obtain⟨a,d⟩:=r
 refine spH Tryz.func147 (by kernel_rfl) { keep:=some [0,1,2,3,4]} [rF,rE,wU,wS,Tz,Tv] (by kernel_rfl) ?_
 intro I X hI hX
 refine orcL ?_;go_invoke;refine orcS (by kernel_rfl) ?_
 simp only [zi,Nat.reduceAdd];subst hI;simp only [nrmA,nrmB];simp only [jk,jh,ji];unfold textF at hr;simp only at hr
 (repeat' (first|refine ja ?_ ?_|intro _))<;>first|omega|exact jb|exact jc ‹False›|skip
 all_goals first
  |(rw [if_pos (by assumption)] at hr;cases hr;rfl)
  |(rw [if_neg (by simp [*]),if_pos (by omega)] at hr;cases hr;rfl)
  |(rw [if_neg (by simp [*]),if_neg (by omega),if_pos (.inl (by assumption))] at hr;cases hr;rfl)
  |(rw [if_neg (by simp [*]),if_neg (by omega),if_pos (.inr (by assumption))] at hr;cases hr;rfl)
  |(rw [if_neg (by simp [*]),if_neg (by omega),if_neg (by simp [*])] at hr;cases hr;rfl)
def zeQ:Know Tryz.prog:=⟨147,zeR,zpp⟩
def zeP:Know Tryz.prog:=⟨147,fun I=>zx I (zeR I),zf zpp⟩
end Go.Proofs.YtkjepecoodjbmaaGreatDoor
namespace Go.Proofs.YtkjepecoodjbmaaGreatDoor
open Go Go.Sep Go.Ab
set_option maxRecDepth 100000
theorem vT (c:UInt8): ∀ (s:Str) (i:Int),xK [c] s i=if Lib.indexByte s c= -1 then -1 else i+Lib.indexByte s c
 |[],i=>by simp [xK,Lib.indexByte,List.isPrefixOf]
 | x ::l,i=>by
   have ih:=vT c l (i+1);have hb:=yF l c
   have hp:([c]:Str).isPrefixOf (x::l)=(c == x):=by simp [List.isPrefixOf]
   rw [xK,hp,ih,Lib.indexByte]
   by_cases h:x=c
   · subst h;simp
   · have h1:(c == x)=false:=by simpa using fun e=>h e.symm
     have h2:(x == c)=false:=by simpa using h
     simp only [h1,h2,jd,if_false]
     by_cases h3:Lib.indexByte l c= -1
     · simp [h3]
     · simp only [h3,beq_iff_eq,if_false]
       rw [if_neg (by omega)]
       omega
theorem zoU (s:Str):xK [58] s 0=Lib.indexByte s 58:=by
 rw [vT]
 split
 · rename_i h;rw [h]
 · omega
def Wv (I:Alg):KU
 |[.v (.one (.p (.str s)))],[]=>(fun(s:Str)=>(some (.one ⟨I.hid (s.length≤1000000),(.ret (.tup [.agg [.p (.str (I.hid ((yj s).1.name))),.p (.str (I.hid ((yj s).1.value)))],.one (.p (.int .i64 (I.hid ((yj s).2))))])),[]⟩):Option CT)) s
 |_,_=>none
theorem zew:zu Tryz.prog 38 (Wv alg):=by
 intro args hp r h;unfold Wv at h;split at h<;>cases h
 rename_i s;simp only [CT.Good,zh];intro hneed;generalize hr:yj s=r;obtain⟨⟨a,b⟩,d⟩:=r
 refine spH Tryz.func38 (by kernel_rfl) { keep:=some [0,2,3,4]} [YK,YJ,zju,zjt,Xr,Xq,vS,vP] (by kernel_rfl) ?_
 intro I X hI hX
 refine orcL ?_;go_invoke;refine orcS (by kernel_rfl) ?_
 simp only [zi,Nat.reduceAdd];subst hI;simp only [nrmA,nrmB];rw [zoU];have hx:=yF s 58;simp only [jh,ji]
 by_cases h:0≤Lib.indexByte s 58
 · have hcb:cutB s 58=(s.take (Lib.indexByte s 58).toNat,s.drop ((Lib.indexByte s 58).toNat+1),true):=by rw [cutB,if_pos h]
   have e:List.take (s.length - ((Lib.indexByte s 58).toNat+1)) (List.drop ((Lib.indexByte s 58).toNat+1) s)=List.drop ((Lib.indexByte s 58).toNat+1) s:=jq (by rw [jC];exact jL _)
   rw [yj,hcb] at hr;simp only at hr
   rw [show(Lib.indexByte s 58+1).toNat=(Lib.indexByte s 58).toNat+1 by omega,e]
   have l1:(s.take (Lib.indexByte s 58).toNat).length=(Lib.indexByte s 58).toNat:=by rw [jv];omega
   have l2:(s.drop ((Lib.indexByte s 58).toNat+1)).length≤s.length:=by rw [jC];omega
   generalize s.take (Lib.indexByte s 58).toNat=nm at *;generalize s.drop ((Lib.indexByte s 58).toNat+1)=vl at *
   rw [if_neg (by decide)] at hr
   (repeat' (first|refine ja ?_ ?_|intro _))<;>first|omega|exact jb|exact jc ‹False›|skip
   all_goals first
    |(rw [if_pos (by assumption)] at hr;cases hr;rfl)
    |(rw [if_neg (by simp [*]),if_pos (by omega)] at hr;cases hr;rfl)
    |(rw [if_neg (by simp [*]),if_neg (by omega),if_pos (by assumption)] at hr;cases hr;rfl)
    |(rw [if_neg (by simp [*]),if_neg (by omega),if_neg (by simp [*])] at hr;cases hr;rfl)
 · have hcb:cutB s 58=(s,[],false):=by rw [cutB,if_neg h]
   rw [yj,hcb] at hr;simp only [if_true] at hr;cases hr
   exact⟨⟨hneed,by omega⟩,fun _=>rfl,fun h'=>absurd h (by omega)⟩
def rH:Know Tryz.prog:=⟨38,Wv,zew⟩
def rG:Know Tryz.prog:=⟨38,fun I=>zx I (Wv I),zf zew⟩
end Go.Proofs.YtkjepecoodjbmaaGreatDoor
namespace Go.Proofs.YtkjepecoodjbmaaGreatDoor
open Go Go.Sep Go.Ab
set_option maxRecDepth 100000
end Go.Proofs.YtkjepecoodjbmaaGreatDoor
namespace Go.Proofs.YtkjepecoodjbmaaGreatDoor
open Go Go.Sep Go.Ab
set_option maxRecDepth 100000
def valsF (l:List Fld) (n:Str):List Str:=(l.filter fun f=>decide (lowS f.name=lowS n)).map (·.value)
def zfX (I:Alg):KU
 |[.v (.one (.p (.list .fld l))),.v (.one (.p (.str n)))],[]=>(fun(l:List Fld) (n:Str)=>(some (.one ⟨I.hid (l.length≤1000∧n.length≤1000000∧∀ f ∈ l,f.name.length≤1000000∧f.value.length≤1000000),(.ret (.v (.one (.row 0)))),[.row .str 9 (I.hid (valsF l n))]⟩):Option CT)) l n
 |_,_=>none
theorem zsu:zu Tryz.prog 145 (zfX alg):=by
 intro args hp r h;unfold zfX at h;split at h<;>cases h
 rename_i l n
 revert l;intro(l:List Fld)
 simp only [CT.Good,zh];intro hneed
 refine spH Tryz.func145 (by kernel_rfl) { nr:=[5],keep:=some [0,1,4,5,7,8,9,10]} [wX,wW] (by kernel_rfl) ?_
 intro I X hI hX
 refine orcL ?_;go_invoke;refine orcS (by kernel_rfl) ?_
 simp only [zi,Nat.reduceAdd]
 refine lpH hI [wX,wW] hX [0,1,5,8,9,10] (fun(g:Nat × List Str)=>match g with|(i,o)=>i≤l.length∧o=valsF (l.take i) n) (fun(g:Nat × List Str)=>match g with|(i,o)=>⟨[(0,.v (.one (.p (.list .fld l)))),(1,.v (.one (.p (.str n)))),(5,.v (.one (.row 0))),(8,.v (.one (.p (.list .fld l)))),(9,.v (.one (.p (.int .i64 ((I.len (α:=Fld) l)))))),(10,.v (.one (.p (.int .i64 i))))],[.row .str 9 o],27,none⟩) (fun(g:Nat × List Str)=>match g with|(i,o)=>l.length - i) (0,[]) (by kernel_rfl) (by kernel_rfl) ?_ ?_
 · exact⟨jM _,rfl⟩
 rintro⟨i,o⟩ ⟨h1,h2⟩ A hA;simp only at hA
 refine orcL ?_;go_invoke;refine orcS (by kernel_rfl) ?_
 simp only [zi,Nat.reduceAdd];subst hI;simp only [nrmA,nrmB]
 have hx:i<l.length→(l.getD i ⟨[],[]⟩) ∈ l:=fun h=>by rw [show l.getD i ⟨[],[]⟩=l[i] by simp [h]];exact List.getElem_mem h
 have hs:i<l.length→valsF (l.take (i+1)) n=if lowS (l.getD i ⟨[],[]⟩).name=lowS n then o++[(l.getD i ⟨[],[]⟩).value] else o:=fun h=>by
  rw [show l.getD i ⟨[],[]⟩=l[i] by simp [h],jB h,h2]
  unfold valsF;rw [List.filter_append,List.map_append]
  by_cases hc:lowS l[i].name=lowS n<;>simp [hc]
 have hol:o.length≤i:=by
  rw [h2];unfold valsF;rw [List.length_map]
  exact Nat.le_trans (List.length_filter_le _ _) (by rw [jv];omega)
 have hn:=fun h=>hneed.2.2 _ (hx h);generalize l.getD i ⟨[],[]⟩=x at *;simp only [jh,ji]
 (repeat' (first|refine ja ?_ ?_|intro _))<;>first|omega|exact jb|exact jc ‹False›|skip
 all_goals first
  |(have:=hn (by omega);omega)
  |exact hA (i+1,_) ⟨by simp only;omega,by simp only;rw [hs (by omega),if_pos (by assumption)]⟩ (by simp only;omega)
  |exact hA (i+1,_) ⟨by simp only;omega,by simp only;rw [hs (by omega),if_neg (by assumption)]⟩ (by simp only;omega)
  |(rw [h2,jq (by omega)])
def Vo:Know Tryz.prog:=⟨145,zfX,zsu⟩
def Vm:Know Tryz.prog:=⟨145,fun I=>zx I (zfX I),zf zsu⟩
def ZK (I:Alg):KU
 |[.v (.one (.p (.list .fld l))),.v (.one (.p (.str n)))],[]=>(fun(l:List Fld) (n:Str)=>(some (.one ⟨I.hid (l.length≤1000∧n.length≤1000000∧∀ f ∈ l,f.name.length≤1000000∧f.value.length≤1000000),(.ret (.v (.one (.row 0)))),[.row .str 9 (I.hid (valsF l n))]⟩):Option CT)) l n
 |_,_=>none
theorem zbo:zu Tryz.prog 76 (ZK alg):=by
 intro args hp r h;unfold ZK at h;split at h<;>cases h
 rename_i l n
 revert l;intro(l:List Fld)
 simp only [CT.Good,zh];intro hneed
 refine spH Tryz.func76 (by kernel_rfl) { nr:=[5],keep:=some [0,1,4,5,6]} [XB,XA] (by kernel_rfl) ?_
 intro I X hI hX
 refine orcL ?_;go_invoke;refine orcS (by kernel_rfl) ?_
 simp only [zi,Nat.reduceAdd]
 refine lpH hI [XB,XA] hX [0,1,5,6] (fun(g:Nat × List Str)=>match g with|(i,o)=>i≤l.length∧o=valsF (l.take i) n) (fun(g:Nat × List Str)=>match g with|(i,o)=>⟨[(0,.v (.one (.p (.list .fld l)))),(1,.v (.one (.p (.str n)))),(5,.v (.one (.row 0))),(6,.v (.one (.p (.int .i64 i))))],[.row .str 9 o],31,none⟩) (fun(g:Nat × List Str)=>match g with|(i,o)=>l.length - i) (0,[]) (by kernel_rfl) (by kernel_rfl) ?_ ?_
 · exact⟨jM _,rfl⟩
 rintro⟨i,o⟩ ⟨h1,h2⟩ A hA;simp only at hA
 refine orcL ?_;go_invoke;refine orcS (by kernel_rfl) ?_
 simp only [zi,Nat.reduceAdd];subst hI;simp only [nrmA,nrmB]
 have hx:i<l.length→(l.getD i ⟨[],[]⟩) ∈ l:=fun h=>by rw [show l.getD i ⟨[],[]⟩=l[i] by simp [h]];exact List.getElem_mem h
 have hs:i<l.length→valsF (l.take (i+1)) n=if lowS (l.getD i ⟨[],[]⟩).name=lowS n then o++[(l.getD i ⟨[],[]⟩).value] else o:=fun h=>by
  rw [show l.getD i ⟨[],[]⟩=l[i] by simp [h],jB h,h2]
  unfold valsF;rw [List.filter_append,List.map_append]
  by_cases hc:lowS l[i].name=lowS n<;>simp [hc]
 have hol:o.length≤i:=by
  rw [h2];unfold valsF;rw [List.length_map]
  exact Nat.le_trans (List.length_filter_le _ _) (by rw [jv];omega)
 have hn:=fun h=>hneed.2.2 _ (hx h);generalize l.getD i ⟨[],[]⟩=x at *;simp only [jh,ji]
 (repeat' (first|refine ja ?_ ?_|intro _))<;>first|omega|exact jb|exact jc ‹False›|skip
 all_goals first
  |(have:=hn (by omega);omega)
  |exact hA (i+1,_) ⟨by simp only;omega,by simp only;rw [hs (by omega),if_pos (by assumption)]⟩ (by simp only;omega)
  |exact hA (i+1,_) ⟨by simp only;omega,by simp only;rw [hs (by omega),if_neg (by assumption)]⟩ (by simp only;omega)
  |(rw [h2,jq (by omega)])
def WU:Know Tryz.prog:=⟨76,ZK,zbo⟩
def WT:Know Tryz.prog:=⟨76,fun I=>zx I (ZK I),zf zbo⟩
end Go.Proofs.YtkjepecoodjbmaaGreatDoor
namespace Go.Proofs.YtkjepecoodjbmaaGreatDoor
open Go Go.Sep Go.Ab
set_option maxRecDepth 100000
def oneF (l:List Str):Str × Int:=if l.length=0 then([],10) else if l.length=1 then(l.getD 0 [],0) else([],9)
def zfU (I:Alg):KU
 |[.v (.one (.p (.list .fld l))),.v (.one (.p (.str n)))],[]=>(fun(l:List Fld) (n:Str)=>(some (.one ⟨I.hid (l.length≤1000∧n.length≤1000000∧∀ f ∈ l,f.name.length≤1000000∧f.value.length≤1000000),(.ret (.tup [.one (.p (.str (I.hid ((oneF (valsF l n)).1)))),.one (.p (.int .i64 (I.hid ((oneF (valsF l n)).2))))])),[]⟩):Option CT)) l n
 |_,_=>none
theorem zsp:zu Tryz.prog 146 (zfU alg):=by
 intro args hp r h;unfold zfU at h;split at h<;>cases h
 rename_i l n
 revert l;intro(l:List Fld)
 simp only [CT.Good,zh];intro hneed;generalize hr:oneF (valsF l n)=r;obtain⟨a,d⟩:=r
 refine spH Tryz.func146 (by kernel_rfl) { keep:=some [0,1,4,5,6,11]} [Vo,Vm] (by kernel_rfl) ?_
 intro I X hI hX
 refine orcL ?_;go_invoke;refine orcS (by kernel_rfl) ?_
 simp only [zi,Nat.reduceAdd];subst hI;simp only [nrmA,nrmB];unfold oneF at hr
 (repeat' (first|refine ja ?_ ?_|intro _))<;>first|omega|exact jb|exact jc ‹False›|skip
 all_goals first
  |assumption
  |exact(hneed.2.2 _ (by assumption)).1
  |exact(hneed.2.2 _ (by assumption)).2
  |(rw [if_pos (by omega)] at hr;cases hr;rfl)
  |(rw [if_neg (by omega),if_pos (by omega)] at hr;cases hr;rfl)
  |(rw [if_neg (by omega),if_neg (by omega)] at hr;cases hr;rfl)
def Xf:Know Tryz.prog:=⟨146,zfU,zsp⟩
def Xe:Know Tryz.prog:=⟨146,fun I=>zx I (zfU I),zf zsp⟩
def zaG (I:Alg):KU
 |[.v (.one (.p (.list .fld l))),.v (.one (.p (.str n)))],[]=>(fun(l:List Fld) (n:Str)=>(some (.one ⟨I.hid (l.length≤1000∧n.length≤1000000∧∀ f ∈ l,f.name.length≤1000000∧f.value.length≤1000000),(.ret (.tup [.one (.p (.str (I.hid ((oneF (valsF l n)).1)))),.one (.p (.int .i64 (I.hid ((oneF (valsF l n)).2))))])),[]⟩):Option CT)) l n
 |_,_=>none
theorem zml:zu Tryz.prog 75 (zaG alg):=by
 intro args hp r h;unfold zaG at h;split at h<;>cases h
 rename_i l n
 revert l;intro(l:List Fld)
 simp only [CT.Good,zh];intro hneed;generalize hr:oneF (valsF l n)=r;obtain⟨a,d⟩:=r
 refine spH Tryz.func75 (by kernel_rfl) { keep:=some [0,1,4,5,6]} [WU,WT] (by kernel_rfl) ?_
 intro I X hI hX
 refine orcL ?_;go_invoke;refine orcS (by kernel_rfl) ?_
 simp only [zi,Nat.reduceAdd];subst hI;simp only [nrmA,nrmB];unfold oneF at hr
 (repeat' (first|refine ja ?_ ?_|intro _))<;>first|omega|exact jb|exact jc ‹False›|skip
 all_goals first
  |assumption
  |exact(hneed.2.2 _ (by assumption)).1
  |exact(hneed.2.2 _ (by assumption)).2
  |(rw [if_pos (by omega)] at hr;cases hr;rfl)
  |(rw [if_neg (by omega),if_pos (by omega)] at hr;cases hr;rfl)
  |(rw [if_neg (by omega),if_neg (by omega)] at hr;cases hr;rfl)
def zmk:Know Tryz.prog:=⟨75,zaG,zml⟩
def zmj:Know Tryz.prog:=⟨75,fun I=>zx I (zaG I),zf zml⟩
end Go.Proofs.YtkjepecoodjbmaaGreatDoor
namespace Go.Proofs.YtkjepecoodjbmaaGreatDoor
open Go Go.Sep Go.Ab
set_option maxRecDepth 100000
def numG (base:Int):Int→Str→Int × Bool
 |n,[]=>(n,true)
 |n,c::l=>if hexK c.toNat<0∨base≤hexK c.toNat then(0,false) else numG base (n * base+hexK c.toNat) l
def numA (s:Str) (base most:Int):Int × Bool:=if s=[]∨most<s.length then(0,false) else numG base 0 s
def top9:Nat→Nat
 |0=>0
 |i+1=>16 * top9 i+15
theorem zeO {i:Nat} (h:i≤9):top9 i≤68719476735:=(by decide: ∀ i:Fin 10,top9 i.1≤68719476735) ⟨i,by omega⟩
theorem Ui {base n:Int} {s:Str} {i:Nat} (h:i<s.length):numG base n (s.drop i)=if hexK (s.getD i 0).toNat<0∨base≤hexK (s.getD i 0).toNat then(0,false) else numG base (n * base+hexK (s.getD i 0).toNat) (s.drop (i+1)):=by
 rw [jE h,numG];simp [h]
theorem SL {k:Int} (hk:0≤k∧k≤255): -1≤hexK k∧hexK k≤15:=zvT (p:=fun k=> -1≤hexK k∧hexK k≤15) (by decide+kernel) hk
theorem zeC {k:Int} (hk:0≤k∧k≤255):([48,49,50,51,52,53,54,55,56,57]:Str).contains (UInt8.ofNat k.toNat)=decide (0≤hexK k∧hexK k<10):=
 zvT (p:=fun k=>([48,49,50,51,52,53,54,55,56,57]:Str).contains (UInt8.ofNat k.toNat)=decide (0≤hexK k∧hexK k<10)) (by decide+kernel) hk
theorem zu5 {k:Int} (hk:0≤k∧k≤255):(∀ j:Fin 16,lowC (UInt8.ofNat k.toNat)=([48,49,50,51,52,53,54,55,56,57,97,98,99,100,101,102]:Str).getD j.1 0→hexK k=(j.1:Int))∧((∀ j:Fin 16,¬ lowC (UInt8.ofNat k.toNat)=([48,49,50,51,52,53,54,55,56,57,97,98,99,100,101,102]:Str).getD j.1 0)→hexK k= -1):=
 zvT (p:=fun k=>(∀ j:Fin 16,lowC (UInt8.ofNat k.toNat)=([48,49,50,51,52,53,54,55,56,57,97,98,99,100,101,102]:Str).getD j.1 0→hexK k=(j.1:Int))∧((∀ j:Fin 16,¬ lowC (UInt8.ofNat k.toNat)=([48,49,50,51,52,53,54,55,56,57,97,98,99,100,101,102]:Str).getD j.1 0)→hexK k= -1)) (by decide+kernel) hk
def Z9 (I:Alg):KU
 |[.v (.one (.p (.str s))),.v (.one (.p (.int .i64 10))),.v (.one (.p (.int .i64 9)))],[]=>(fun(s:Str)=>(some (.one ⟨I.hid (True),(.ret (.tup [.one (.p (.int .i64 (I.hid ((numA s 10 9).1)))),.one (.p (.bool (I.hid ((numA s 10 9).2))))])),[]⟩):Option CT)) s
 |_,_=>none
theorem zcd:zu Tryz.prog 219 (Z9 alg):=by
 intro args hp r h;unfold Z9 at h;split at h<;>cases h
 rename_i s;simp only [CT.Good,zh];intro _;generalize hr:numA s 10 9=r
 refine spH Tryz.func219 (by kernel_rfl) { keep:=some [0,1,2,6,7,8,9,10,20,21]} [zd3,zd2] (by kernel_rfl) ?_
 intro I X hI hX
 refine orcL ?_;go_invoke;refine orcS (by kernel_rfl) ?_
 simp only [zi,Nat.reduceAdd]
 have hne:s≠[]→¬ (9:Int)<s.length→numG 10 0 s=r:=fun h1 h2=>by rw [← hr,numA,if_neg (fun h=>by rcases h with h|h;exact h1 h;exact h2 h)]
 have hyes:(s=[]∨(9:Int)<s.length)→r=(0,false):=fun h=>by rw [← hr,numA,if_pos h]
 refine⟨fun c1=> ?_,fun c1=>⟨fun c2=> ?_,fun c2=> ?_⟩⟩
 · subst hI
   simp only [nrmA,nrmB] at c1;rw [hyes (.inl c1)]
   simp
 · subst hI
   simp only [nrmA,nrmB] at c2;rw [hyes (.inr c2)]
   simp
 have d1:s≠[]:=by
  subst hI;simp only [nrmA,nrmB] at c1;exact c1
 have d2:s.length≤9:=by
  subst hI;simp only [nrmA,nrmB] at c2;omega
 refine lpH hI [zd3,zd2] hX [0,1,2,8,20,21] (fun(g:Nat × Int)=>match g with|(i,n)=>i≤s.length∧0≤n∧n≤top9 i∧numG 10 n (s.drop i)=r) (fun(g:Nat × Int)=>match g with|(i,n)=>⟨[(0,.v (.one (.p (.str s)))),(1,.v (.one (.p (.int .i64 10)))),(2,.v (.one (.p (.int .i64 9)))),(8,.v (.one (.p (.int .i64 n)))),(20,.v (.one (.p (.int .i64 ((I.len (α:=UInt8) s)))))),(21,.v (.one (.p (.int .i64 i))))],[],42,none⟩) (fun(g:Nat × Int)=>match g with|(i,n)=>s.length - i) (0,0) (by kernel_rfl) (by kernel_rfl) ?_ ?_
 · exact⟨jM _,Int.le_refl _,Int.le_refl _,hne d1 (by omega)⟩
 rintro⟨i,n⟩ ⟨h1,h2,h3,h4⟩ A hA;simp only at hA
 refine orcL ?_;go_invoke;refine orcS (by kernel_rfl) ?_
 simp only [zi,Nat.reduceAdd];subst hI;simp only [nrmA,nrmB];have hb:=xR (s.getD i 0);have hk:=SL hb;have hd:i<s.length→_:=fun h=>Ui (base:=10) (n:=n) h
 have ht:i≤9:=by omega
 have ht:=zeO ht;have ht2:top9 (i+1)=16 * top9 i+15:=rfl;generalize s.getD i 0=x at *;generalize hexK (x.toNat:Int)=k at *
 (repeat' (first|refine ja ?_ ?_|intro _))<;>first|omega|exact jb|exact jc ‹False›|skip
 all_goals first
  |omega
  |(rw [← h4,hd (by omega),if_pos (.inl (by omega))])
  |(rw [← h4,hd (by omega),if_pos (.inr (by omega))])
  |(refine hA (i+1,_) ⟨by simp only;omega,by simp only;omega,by simp only;omega,?_⟩ (by simp only;omega);rw [← h4,hd (by omega),if_neg (by omega)])
  |(rw [← h4,jF (by omega)];rfl)
def Z8:Know Tryz.prog:=⟨219,Z9,zcd⟩
def Z7:Know Tryz.prog:=⟨219,fun I=>zx I (Z9 I),zf zcd⟩
def Z5 (I:Alg):KU
 |[.v (.one (.p (.str s))),.v (.one (.p (.int .i64 16))),.v (.one (.p (.int .i64 6)))],[]=>(fun(s:Str)=>(some (.one ⟨I.hid (True),(.ret (.tup [.one (.p (.int .i64 (I.hid ((numA s 16 6).1)))),.one (.p (.bool (I.hid ((numA s 16 6).2))))])),[]⟩):Option CT)) s
 |_,_=>none
theorem zcc:zu Tryz.prog 219 (Z5 alg):=by
 intro args hp r h;unfold Z5 at h;split at h<;>cases h
 rename_i s;simp only [CT.Good,zh];intro _;generalize hr:numA s 16 6=r
 refine spH Tryz.func219 (by kernel_rfl) { keep:=some [0,1,2,6,7,8,9,10,20,21]} [zd3,zd2,Z8,Z7] (by kernel_rfl) ?_
 intro I X hI hX
 refine orcL ?_;go_invoke;refine orcS (by kernel_rfl) ?_
 simp only [zi,Nat.reduceAdd]
 have hne:s≠[]→¬ (6:Int)<s.length→numG 16 0 s=r:=fun h1 h2=>by rw [← hr,numA,if_neg (fun h=>by rcases h with h|h;exact h1 h;exact h2 h)]
 have hyes:(s=[]∨(6:Int)<s.length)→r=(0,false):=fun h=>by rw [← hr,numA,if_pos h]
 refine⟨fun c1=> ?_,fun c1=>⟨fun c2=> ?_,fun c2=> ?_⟩⟩
 · subst hI
   simp only [nrmA,nrmB] at c1;rw [hyes (.inl c1)]
   simp
 · subst hI
   simp only [nrmA,nrmB] at c2;rw [hyes (.inr c2)]
   simp
 have d1:s≠[]:=by
  subst hI;simp only [nrmA,nrmB] at c1;exact c1
 have d2:s.length≤6:=by
  subst hI;simp only [nrmA,nrmB] at c2;omega
 refine lpH hI [zd3,zd2,Z8,Z7] hX [0,1,2,8,20,21] (fun(g:Nat × Int)=>match g with|(i,n)=>i≤s.length∧0≤n∧n≤top9 i∧numG 16 n (s.drop i)=r) (fun(g:Nat × Int)=>match g with|(i,n)=>⟨[(0,.v (.one (.p (.str s)))),(1,.v (.one (.p (.int .i64 16)))),(2,.v (.one (.p (.int .i64 6)))),(8,.v (.one (.p (.int .i64 n)))),(20,.v (.one (.p (.int .i64 ((I.len (α:=UInt8) s)))))),(21,.v (.one (.p (.int .i64 i))))],[],42,none⟩) (fun(g:Nat × Int)=>match g with|(i,n)=>s.length - i) (0,0) (by kernel_rfl) (by kernel_rfl) ?_ ?_
 · exact⟨jM _,Int.le_refl _,Int.le_refl _,hne d1 (by omega)⟩
 rintro⟨i,n⟩ ⟨h1,h2,h3,h4⟩ A hA;simp only at hA
 refine orcL ?_;go_invoke;refine orcS (by kernel_rfl) ?_
 simp only [zi,Nat.reduceAdd];subst hI;simp only [nrmA,nrmB];have hb:=xR (s.getD i 0);have hk:=SL hb;have hd:i<s.length→_:=fun h=>Ui (base:=16) (n:=n) h
 have ht:i≤9:=by omega
 have ht:=zeO ht;have ht2:top9 (i+1)=16 * top9 i+15:=rfl;generalize s.getD i 0=x at *;generalize hexK (x.toNat:Int)=k at *
 (repeat' (first|refine ja ?_ ?_|intro _))<;>first|omega|exact jb|exact jc ‹False›|skip
 all_goals first
  |omega
  |(rw [← h4,hd (by omega),if_pos (.inl (by omega))])
  |(rw [← h4,hd (by omega),if_pos (.inr (by omega))])
  |(refine hA (i+1,_) ⟨by simp only;omega,by simp only;omega,by simp only;omega,?_⟩ (by simp only;omega);rw [← h4,hd (by omega),if_neg (by omega)])
  |(rw [← h4,jF (by omega)];rfl)
def zcb:Know Tryz.prog:=⟨219,Z5,zcc⟩
def zca:Know Tryz.prog:=⟨219,fun I=>zx I (Z5 I),zf zcc⟩
def zaR (I:Alg):KU
 |[.v (.one (.p (.int .u8 k)))],[]=>some (.one ⟨I.hid (0≤k∧k≤255),(.ret (.v (.one (.p (.int .i64 (I.hid (hexK k))))))),[]⟩)
 |_,_=>none
theorem zmO:zu Tryz.prog 116 (zaR alg):=by
 intro args hp r h;unfold zaR at h;split at h<;>cases h
 rename_i k;simp only [CT.Good,zh];intro hneed;generalize hr:hexK k=r;obtain⟨f1,f2⟩:=zu5 hneed;rw [hr] at f1 f2
 refine spH Tryz.func116 (by kernel_rfl) { keep:=some [0,2,3,4,5]} [XB,XA] (by kernel_rfl) ?_
 intro I X hI hX
 refine orcL ?_;go_invoke;refine orcS (by kernel_rfl) ?_
 simp only [zi,Nat.reduceAdd]
 refine⟨(by rw [hI];simp only [nrmA,nrmB];omega),(by rw [hI,zh];simp),?_⟩
 generalize hu:I.hid (lowS [I.i2b k])=u
 have hu1:u=[lowC (UInt8.ofNat k.toNat)]:=by rw [← hu,hI];rfl
 generalize lowC (UInt8.ofNat k.toNat)=x at *
 refine lpH hI [XB,XA] hX [0,3,4,5] (fun(j:Nat)=>j≤16∧∀ j':Fin 16,j'.1<j→¬ x=([48,49,50,51,52,53,54,55,56,57,97,98,99,100,101,102]:Str).getD j'.1 0) (fun(j:Nat)=>⟨[(0,.v (.one (.p (.int .u8 k)))),(3,.v (.one (.p (.str ([48,49,50,51,52,53,54,55,56,57,97,98,99,100,101,102]))))),(4,.v (.one (.p (.str u)))),(5,.v (.one (.p (.int .i64 j))))],[],22,none⟩) (fun(j:Nat)=>16 - j) 0 (by kernel_rfl) (by kernel_rfl) ?_ ?_
 · exact⟨jM _,fun _ h=>absurd h (Nat.not_lt_zero _)⟩
 rintro j ⟨h1,h2⟩ A hA
 refine orcL ?_;go_invoke;refine orcS (by kernel_rfl) ?_
 simp only [zi,Nat.reduceAdd];subst hI;simp only [nrmA,nrmB];generalize hH:([48,49,50,51,52,53,54,55,56,57,97,98,99,100,101,102]:Str)=H at *
 have hHl:H.length=16:=by rw [← hH];rfl
 have hcut:j<16→(H.drop j).take (((j:Int)+1).toNat - j)=[H.getD j 0]:=fun h=>by
  rw [show((j:Int)+1).toNat - j=1 by omega,jE (by omega),List.take_succ_cons,List.take_zero]
  simp [hHl,h]
 have hq:j<16→(u=(H.drop j).take (((j:Int)+1).toNat - j)↔x=H.getD j 0):=fun h=>by
  rw [hcut h,hu1];simp
 (repeat' (first|refine ja ?_ ?_|intro _))<;>first|omega|exact jb|exact jc ‹False›|skip
 all_goals first
  |omega
  |exact(f1 ⟨j,by omega⟩ ((hq (by omega)).1 ‹_›)).symm
  | (refine hA (j+1) ⟨by omega,fun j' hj'=> ?_⟩ (by omega)
     rcases Nat.lt_or_ge j'.1 j with hlt|hge
     · exact h2 j' hlt
     · rw [show j'.1=j by omega];exact fun e=>‹¬ u=_› ((hq (by omega)).2 e))
  |exact(f2 fun j'=>h2 j' (by have:=j'.2;omega)).symm
def zaQ:Know Tryz.prog:=⟨116,zaR,zmO⟩
def zaP:Know Tryz.prog:=⟨116,fun I=>zx I (zaR I),zf zmO⟩
def uP (I:Alg):KU
 |[.v (.one (.p (.str s)))],[]=>(fun(s:Str)=>(some (.one ⟨I.hid (True),(.ret (.tup [.one (.p (.int .i64 (I.hid ((numA s 16 6).1)))),.one (.p (.bool (I.hid ((numA s 16 6).2))))])),[]⟩):Option CT)) s
 |_,_=>none
theorem WO:zu Tryz.prog 79 (uP alg):=by
 intro args hp r h;unfold uP at h;split at h<;>cases h
 rename_i s;simp only [CT.Good,zh];intro _;generalize hr:numA s 16 6=r
 refine spH Tryz.func79 (by kernel_rfl) { keep:=some [0,2,3,4,5]} [zaQ,zaP] (by kernel_rfl) ?_
 intro I X hI hX
 refine orcL ?_;go_invoke;refine orcS (by kernel_rfl) ?_
 simp only [zi,Nat.reduceAdd]
 have hne:s≠[]→¬ (6:Int)<s.length→numG 16 0 s=r:=fun h1 h2=>by rw [← hr,numA,if_neg (fun h=>by rcases h with h|h;exact h1 h;exact h2 h)]
 have hyes:(s=[]∨(6:Int)<s.length)→r=(0,false):=fun h=>by rw [← hr,numA,if_pos h]
 refine⟨fun c1=> ?_,fun c1=>⟨fun c2=> ?_,fun c2=> ?_⟩⟩
 · subst hI
   simp only [nrmA,nrmB] at c1
   rw [hyes (.inl (List.eq_nil_of_length_eq_zero (by omega)))]
   simp
 · subst hI
   simp only [nrmA,nrmB] at c2;rw [hyes (.inr c2)]
   simp
 have d1:s≠[]:=by
  subst hI;simp only [nrmA,nrmB] at c1;rintro rfl
  simp at c1
 have d2:s.length≤6:=by
  subst hI;simp only [nrmA,nrmB] at c2;omega
 refine lpH hI [zaQ,zaP] hX [0,4,5] (fun(g:Nat × Int)=>match g with|(i,n)=>i≤s.length∧0≤n∧n≤top9 i∧numG 16 n (s.drop i)=r) (fun(g:Nat × Int)=>match g with|(i,n)=>⟨[(0,.v (.one (.p (.str s)))),(4,.v (.one (.p (.int .i64 n)))),(5,.v (.one (.p (.int .i64 i))))],[],33,none⟩) (fun(g:Nat × Int)=>match g with|(i,n)=>s.length - i) (0,0) (by kernel_rfl) (by kernel_rfl) ?_ ?_
 · exact⟨jM _,Int.le_refl _,Int.le_refl _,hne d1 (by omega)⟩
 rintro⟨i,n⟩ ⟨h1,h2,h3,h4⟩ A hA;simp only at hA
 refine orcL ?_;go_invoke;refine orcS (by kernel_rfl) ?_
 simp only [zi,Nat.reduceAdd];subst hI;simp only [nrmA,nrmB];have hb:=xR (s.getD i 0);have hk:=SL hb;have hdg:=zeC hb;rw [jJ,UInt8.ofNat_toNat] at hdg;have hd:i<s.length→_:=fun h=>Ui (base:=16) (n:=n) h
 have ht:i≤9:=by omega
 have ht:=zeO ht;have ht2:top9 (i+1)=16 * top9 i+15:=rfl;generalize s.getD i 0=x at *
 try rw [hdg]
 generalize hexK (x.toNat:Int)=k at *;simp only [Int.mul_comm 16 n,decide_eq_true_eq,decide_eq_false_iff_not]
 (repeat' (first|refine ja ?_ ?_|intro _))<;>first|omega|exact jb|exact jc ‹False›|skip
 all_goals first
  |omega
  |decide
  |(rw [← h4,hd (by omega),if_pos (by omega)])
  |(refine hA (i+1,_) ⟨by simp only;omega,by simp only;omega,by simp only;omega,?_⟩ (by simp only;omega);rw [← h4,hd (by omega),if_neg (by omega)])
  |(rw [← h4,jF (by omega)];rfl)
def Zl:Know Tryz.prog:=⟨79,uP,WO⟩
def Zk:Know Tryz.prog:=⟨79,fun I=>zx I (uP I),zf WO⟩
def sZ (I:Alg):KU
 |[.v (.one (.p (.str s)))],[]=>(fun(s:Str)=>(some (.one ⟨I.hid (True),(.ret (.tup [.one (.p (.int .i64 (I.hid ((numA s 16 6).1)))),.one (.p (.bool (I.hid ((numA s 16 6).2))))])),[]⟩):Option CT)) s
 |_,_=>none
theorem TD:zu Tryz.prog 240 (sZ alg):=by
 intro args hp r h;unfold sZ at h;split at h<;>cases h
 rename_i s;simp only [CT.Good,zh];intro _
 refine spH Tryz.func240 (by kernel_rfl) { keep:=some [0,2,3]} [Z8,Z7,zcb,zca] (by kernel_rfl) ?_
 intro I X hI hX
 refine orcL ?_;go_invoke;refine orcS (by kernel_rfl) ?_
 simp only [zi,Nat.reduceAdd];subst hI;simp only [nrmA,nrmB]
 try trivial
def zgd:Know Tryz.prog:=⟨240,sZ,TD⟩
def zgc:Know Tryz.prog:=⟨240,fun I=>zx I (sZ I),zf TD⟩
end Go.Proofs.YtkjepecoodjbmaaGreatDoor
namespace Go.Proofs.YtkjepecoodjbmaaGreatDoor
open Go Go.Sep Go.Ab
set_option maxRecDepth 100000
def Z4 (I:Alg):KU
 |[.v (.one (.p (.str s)))],[]=>(fun(s:Str)=>(some (.one ⟨I.hid (True),(.ret (.tup [.one (.p (.int .i64 (I.hid ((numA s 10 9).1)))),.one (.p (.bool (I.hid ((numA s 10 9).2))))])),[]⟩):Option CT)) s
 |_,_=>none
theorem zb9:zu Tryz.prog 78 (Z4 alg):=by
 intro args hp r h;unfold Z4 at h;split at h<;>cases h
 rename_i s;simp only [CT.Good,zh];intro _;generalize hr:numA s 10 9=r
 refine spH Tryz.func78 (by kernel_rfl) { keep:=some [0,2,3,4,5]} [zq6,zq5,zaQ,zaP] (by kernel_rfl) ?_
 intro I X hI hX
 refine orcL ?_;go_invoke;refine orcS (by kernel_rfl) ?_
 simp only [zi,Nat.reduceAdd]
 have hne:s≠[]→¬ (9:Int)<s.length→numG 10 0 s=r:=fun h1 h2=>by rw [← hr,numA,if_neg (fun h=>by rcases h with h|h;exact h1 h;exact h2 h)]
 have hyes:(s=[]∨(9:Int)<s.length)→r=(0,false):=fun h=>by rw [← hr,numA,if_pos h]
 refine⟨fun c1=> ?_,fun c1=>⟨fun c2=> ?_,fun c2=> ?_⟩⟩
 · subst hI
   simp only [nrmA,nrmB] at c1
   rw [hyes (.inl (List.eq_nil_of_length_eq_zero (by omega)))]
   simp
 · subst hI
   simp only [nrmA,nrmB] at c2;rw [hyes (.inr c2)]
   simp
 have d1:s≠[]:=by
  subst hI;simp only [nrmA,nrmB] at c1;rintro rfl
  simp at c1
 have d2:s.length≤9:=by
  subst hI;simp only [nrmA,nrmB] at c2;omega
 refine lpH hI [zq6,zq5,zaQ,zaP] hX [0,4,5] (fun(g:Nat × Int)=>match g with|(i,n)=>i≤s.length∧0≤n∧n≤top9 i∧numG 10 n (s.drop i)=r) (fun(g:Nat × Int)=>match g with|(i,n)=>⟨[(0,.v (.one (.p (.str s)))),(4,.v (.one (.p (.int .i64 n)))),(5,.v (.one (.p (.int .i64 i))))],[],33,none⟩) (fun(g:Nat × Int)=>match g with|(i,n)=>s.length - i) (0,0) (by kernel_rfl) (by kernel_rfl) ?_ ?_
 · exact⟨jM _,Int.le_refl _,Int.le_refl _,hne d1 (by omega)⟩
 rintro⟨i,n⟩ ⟨h1,h2,h3,h4⟩ A hA;simp only at hA
 refine orcL ?_;go_invoke;refine orcS (by kernel_rfl) ?_
 simp only [zi,Nat.reduceAdd];subst hI;simp only [nrmA,nrmB];have hb:=xR (s.getD i 0);have hk:=SL hb;have hdg:=zeC hb;rw [jJ,UInt8.ofNat_toNat] at hdg;have hd:i<s.length→_:=fun h=>Ui (base:=10) (n:=n) h
 have ht:i≤9:=by omega
 have ht:=zeO ht;have ht2:top9 (i+1)=16 * top9 i+15:=rfl;generalize s.getD i 0=x at *
 try rw [hdg]
 generalize hexK (x.toNat:Int)=k at *;simp only [Int.mul_comm 10 n,decide_eq_true_eq,decide_eq_false_iff_not]
 (repeat' (first|refine ja ?_ ?_|intro _))<;>first|omega|exact jb|exact jc ‹False›|skip
 all_goals first
  |omega
  |decide
  |(rw [← h4,hd (by omega),if_pos (by omega)])
  |(refine hA (i+1,_) ⟨by simp only;omega,by simp only;omega,by simp only;omega,?_⟩ (by simp only;omega);rw [← h4,hd (by omega),if_neg (by omega)])
  |(rw [← h4,jF (by omega)];rfl)
def zb8:Know Tryz.prog:=⟨78,Z4,zb9⟩
def zb7:Know Tryz.prog:=⟨78,fun I=>zx I (Z4 I),zf zb9⟩
def Wy (I:Alg):KU
 |[.v (.one (.p (.str s)))],[]=>(fun(s:Str)=>(some (.one ⟨I.hid (True),(.ret (.tup [.one (.p (.int .i64 (I.hid ((numA s 10 9).1)))),.one (.p (.bool (I.hid ((numA s 10 9).2))))])),[]⟩):Option CT)) s
 |_,_=>none
theorem zeF:zu Tryz.prog 182 (Wy alg):=by
 intro args hp r h;unfold Wy at h;split at h<;>cases h
 rename_i s;simp only [CT.Good,zh];intro _
 refine spH Tryz.func182 (by kernel_rfl) { keep:=some [0,2,3]} [Z8,Z7,zcb,zca] (by kernel_rfl) ?_
 intro I X hI hX
 refine orcL ?_;go_invoke;refine orcS (by kernel_rfl) ?_
 simp only [zi,Nat.reduceAdd];subst hI;simp only [nrmA,nrmB]
 try trivial
def rM:Know Tryz.prog:=⟨182,Wy,zeF⟩
def rJ:Know Tryz.prog:=⟨182,fun I=>zx I (Wy I),zf zeF⟩
theorem zhh: ∀ (s:Str) (n:Int),0≤n→(numG 10 n s).1+1≤(n+1) * 10 ^ s.length∧0≤(numG 10 n s).1
 |[],n,h=>by simp [numG];exact h
 | c ::l,n,h=>by
   have h16:(0:Int)<10 ^ l.length:=Int.pow_pos (by decide)
   have e:((n+1) * 10 ^ (c::l).length:Int)=((n+1) * 10) * 10 ^ l.length:=by rw [jh,Int.pow_succ,Int.mul_assoc,Int.mul_comm (10 ^ l.length) 10]
   rw [e,numG]
   split
   · have h1:(1:Int) * 1≤((n+1) * 10) * 10 ^ l.length:=Int.mul_le_mul (by omega) (by omega) (by decide) (by omega)
     exact⟨by simpa using h1,Int.le_refl _⟩
   · rename_i hc
     have h2:=zhh l (n * 10+hexK c.toNat) (by omega)
     exact⟨Int.le_trans h2.1 (Int.mul_le_mul_of_nonneg_right (by omega) (by omega)),h2.2⟩
theorem vN (x:Str):0≤(numA x 10 9).1∧(numA x 10 9).1<1000000000:=by
 unfold numA
 split
 · exact by decide
 · rename_i h
   have h1:=zhh x 0 (Int.le_refl _)
   have h2:x.length≤9:=by omega
   have h3:(10:Int) ^ x.length≤10 ^ 9:=by
    have:(10 ^ x.length:Nat)≤10 ^ 9:=Nat.pow_le_pow_right (by decide) h2
    exact_mod_cast this
   refine⟨h1.2,?_⟩
   have h4:(10:Int) ^ 9=1000000000:=by decide
   omega
end Go.Proofs.YtkjepecoodjbmaaGreatDoor
namespace Go.Proofs.YtkjepecoodjbmaaGreatDoor
open Go Go.Sep Go.Ab
set_option maxRecDepth 100000
def zbb (I:Alg):KU
 |[.v (.one (.p (.list .byte l)))],[]=>(fun(l:Str)=>(some (.one ⟨I.hid (l.length≤100000000),(.ret (.v (.one (.row 0)))),[.row .byte 5 l]⟩):Option CT)) l
 |_,_=>none
theorem zny:zu Tryz.prog 59 (zbb alg):=by
 intro args hp r h;unfold zbb at h;split at h<;>cases h
 rename_i l;simp only [CT.Good,zh];intro hneed
 refine spH Tryz.func59 (by kernel_rfl) { keep:=some [0,2]} [] (by kernel_rfl) ?_
 intro I X hI hX
 refine orcL ?_;go_invoke;refine orcS (by kernel_rfl) ?_
 simp only [zi,Nat.reduceAdd];subst hI;dsimp only [alg]
 have h2:((([]:Str).length:Nat):Int)+((l.length:Nat):Int)≤140737488355328:=by simp;omega
 refine⟨fun h=>⟨⟨trivial,?_⟩,h2,trivial,rfl⟩,fun h=>⟨h2,trivial,rfl⟩⟩
 have:l=[]:=List.eq_nil_of_length_eq_zero (by have:=eq_of_beq h;omega)
 subst this;rfl
def Yn:Know Tryz.prog:=⟨59,zbb,zny⟩
def Za:Know Tryz.prog:=⟨59,fun I=>zx I (zbb I),zf zny⟩
def qH (I:Alg):KU
 |[.v (.one (.p (.list .byte x))),.v (.one (.p (.list .byte y)))],[]=>(fun(x y:Str)=>(some (.one ⟨I.hid (True),(.ret (.v (.one (.p (.bool (I.hid (x == y))))))),[]⟩):Option CT)) x y
 |_,_=>none
theorem RZ:zu Tryz.prog 15 (qH alg):=by
 intro args hp r h;unfold qH at h;split at h<;>cases h
 rename_i x y;simp only [CT.Good,zh];intro _
 refine spH Tryz.func15 (by kernel_rfl) { keep:=some [0,1,4]} [] (by kernel_rfl) ?_
 intro I X hI hX
 refine orcL ?_;go_invoke;refine orcS (by kernel_rfl) ?_
 simp only [zi,Nat.reduceAdd];subst hI;exact⟨rfl,trivial⟩
def YR:Know Tryz.prog:=⟨15,qH,RZ⟩
def YQ:Know Tryz.prog:=⟨15,fun I=>zx I (qH I),zf RZ⟩
end Go.Proofs.YtkjepecoodjbmaaGreatDoor
namespace Go.Proofs.YtkjepecoodjbmaaGreatDoor
open Go Go.Sep Go.Ab
def upl0:Upl:=⟨0,0,[],[],0⟩
def atU (l:List Upl) (id:Int):Nat:=l.findIdx fun u=>u.id == id
def zQ (l:List Upl) (id:Int):Upl:=l.getD (atU l id) upl0
def xG:List Upl→Int
 |[]=>0
 |u::l=>u.bytes.length+xG l
def creC (l:List Upl) (size:Int) (m:Str):Int:=
 if size< -1 then 1 else if 2000<size∨100<m.length then 4 else if yN m=false∨¬ Lib.trimS m [32,9]=m then 3 else if l.length=12 then 8 else 0
def creL (l:List Upl) (n size:Int) (m:Str):List Upl:=if creC l size m=0 then l++[⟨n+1,size,m,[],0⟩] else l
def creN (l:List Upl) (n size:Int) (m:Str):Int:=if creC l size m=0 then n+1 else n
def creI (l:List Upl) (n size:Int) (m:Str):Int:=if creC l size m=0 then n+1 else 0
def appC (l:List Upl) (id off:Int) (b:Str):Int:=
 if l.length≤atU l id then 10
 else if ¬ (zQ l id).sent=0 then 19
 else if ¬ off=(zQ l id).bytes.length then 17
 else if 2000<(zQ l id).bytes.length+b.length∨0≤(zQ l id).size∧(zQ l id).size<(zQ l id).bytes.length+b.length then 4
 else if 6000<xG l+b.length then 16 else 0
def appL (l:List Upl) (id off:Int) (b:Str):List Upl:=if appC l id off b=0 then l.set (atU l id) { zQ l id with bytes:=(zQ l id).bytes++b} else l
def decC (l:List Upl) (id size:Int):Int:=
 if l.length≤atU l id then 10
 else if 0≤(zQ l id).size then 18
 else if size<0 then 1
 else if 2000<size∨size<(zQ l id).bytes.length then 4 else 0
def decL (l:List Upl) (id size:Int):List Upl:=if decC l id size=0 then l.set (atU l id) { zQ l id with size:=size} else l
def droC (l:List Upl) (id:Int):Int:=if l.length≤atU l id then 10 else 0
def droL (l:List Upl) (id:Int):List Upl:=l.eraseIdx (atU l id)
def begC (l:List Upl) (id:Int):Int:=
 if l.length≤atU l id then 10
 else if ¬ (zQ l id).sent=0 then 19
 else if ¬ (zQ l id).size=(zQ l id).bytes.length then 14 else 0
def begL (l:List Upl) (id:Int):List Upl:=if begC l id=0 then l.set (atU l id) { zQ l id with sent:=1} else l
def endC (l:List Upl) (id:Int):Int:=
 if l.length≤atU l id then 10
 else if ¬ (zQ l id).sent=1 then 19 else 0
def endL (l:List Upl) (id:Int):List Upl:=if endC l id=0 then l.set (atU l id) { zQ l id with sent:=2} else l
structure zAe (u:Upl):Prop where
 bl:u.bytes.length≤2000
 s1: -1≤u.size
 s2:u.size≤2000
 nl:u.note.length≤100
 bs:0≤u.size→(u.bytes.length:Int)≤u.size
 t0:0≤u.sent
 t2:u.sent≤2
 wh:u.sent≠0→u.size=u.bytes.length
structure zL (l:List Upl) (n:Int):Prop where
 n0:0≤n
 cnt:l.length≤12
 srt:l.Pairwise fun a b=>a.id<b.id
 ids: ∀ u ∈ l,1≤u.id∧u.id≤n
 each: ∀ u ∈ l,zAe u
 tot:xG l≤6000
theorem ze2:zL [] 0:=⟨by decide,by decide,List.Pairwise.nil,fun _ h=>by simp at h,fun _ h=>by simp at h,by decide⟩
theorem zth (l:List Upl) (id:Int):atU l id≤l.length:=List.findIdx_le_length
theorem wJ {l:List Upl} {id:Int} (h:atU l id<l.length):zQ l id=l[atU l id]:=by unfold zQ;simp [h]
theorem vk {l:List Upl} {id:Int} (h:atU l id<l.length):zQ l id ∈ l:=by rw [wJ h];exact List.getElem_mem h
theorem uJ {l:List Upl} {id:Int} (h:atU l id<l.length):(zQ l id).id=id:=by
 rw [wJ h];have h2:(l[atU l id].id == id)=true:=List.findIdx_getElem (p:=fun u:Upl=>u.id == id) (w:=h)
 simpa using h2
theorem zpg (a b:List Upl):xG (a++b)=xG a+xG b:=by
 induction a with
 |nil=>simp [xG]
 |cons u a ih=>simp only [List.cons_append,xG,ih];omega
theorem YH: ∀ l:List Upl,0≤xG l
 |[]=>by decide
 |u::l=>by have:=YH l;simp only [xG];omega
theorem zgu: ∀ {l:List Upl} {i:Nat} {u:Upl} (h:i<l.length),xG (l.set i u)=xG l - l[i].bytes.length+u.bytes.length
 |v::l,0,u,h=>by simp only [List.set_cons_zero,xG,List.getElem_cons_zero];omega
 | v::l,i+1,u,h=>by
   have:=zgu (l:=l) (i:=i) (u:=u) (by simpa using h)
   simp only [List.set_cons_succ,xG,List.getElem_cons_succ,this];omega
theorem zbq: ∀ (l:List Upl) (i:Nat),xG (l.eraseIdx i)≤xG l
 |[],_=>by simp [xG]
 |v::l,0=>by simp only [List.eraseIdx_cons_zero,xG];omega
 |v::l,i+1=>by have:=zbq l i;simp only [List.eraseIdx_cons_succ,xG];omega
theorem ze1 {l:List Upl} {n:Int} (h:zL l n) {i:Nat} (hi:i<l.length) {u:Upl} (hid:u.id=l[i].id) (hu:zAe u) (ht:xG l - l[i].bytes.length+u.bytes.length≤6000):zL (l.set i u) n:=by
 refine⟨h.n0,by rw [List.length_set];exact h.cnt,?_,fun v hv=> ?_,fun v hv=> ?_,by rw [zgu hi];exact ht⟩
 · have h1:=List.pairwise_map (f:=fun u:Upl=>u.id) (R:=(· < ·)) (l:=l)
   have h2:=List.pairwise_map (f:=fun u:Upl=>u.id) (R:=(· < ·)) (l:=l.set i u)
   rw [List.map_set,hid] at h2
   have e:(l.map fun u:Upl=>u.id).set i l[i].id=l.map fun u:Upl=>u.id:=by
    have:=List.set_getElem_self (show i<(l.map fun u:Upl=>u.id).length by simpa using hi)
    simpa using this
   rw [e] at h2;exact h2.1 (h1.2 h.srt)
 · rcases List.mem_or_eq_of_mem_set hv with hv|rfl
   · exact h.ids v hv
   · rw [hid];exact h.ids _ (List.getElem_mem hi)
 · rcases List.mem_or_eq_of_mem_set hv with hv|rfl
   · exact h.each v hv
   · exact hu
theorem zz0 {l:List Upl} {n:Int} (h:zL l n) (size:Int) (m:Str):zL (creL l n size m) (creN l n size m):=by
 unfold creL creN
 split
 · rename_i hc
   unfold creC at hc
   split at hc
   · cases hc
   split at hc
   · cases hc
   split at hc
   · cases hc
   split at hc
   · cases hc
   have hcnt:=h.cnt;have hn:=h.n0
   refine⟨by omega,by simp;omega,?_,fun u hu=> ?_,fun u hu=> ?_,?_⟩
   · rw [List.pairwise_append]
     refine⟨h.srt,by simp,fun a ha b hb=> ?_⟩
     simp only [List.mem_singleton] at hb;subst hb;have:=(h.ids a ha).2
     show a.id<n+1
     omega
   · rcases List.mem_append.1 hu with hu|hu
     · have:=h.ids u hu;omega
     · simp only [List.mem_singleton] at hu;subst hu;exact⟨by show 1≤n+1;omega,by show n+1≤n+1;omega⟩
   · rcases List.mem_append.1 hu with hu|hu
     · exact h.each u hu
     · simp only [List.mem_singleton] at hu;subst hu
       exact⟨by simp,by simp only;omega,by simp only;omega,by simp only;omega,fun _=>by simpa,by simp,by simp,fun h=>absurd rfl h⟩
   · rw [zpg];have:=h.tot;simp [xG];omega
 · exact h
theorem zAb {l:List Upl} {n:Int} (h:zL l n) (id off:Int) (b:Str):zL (appL l id off b) n:=by
 unfold appL
 split
 · rename_i hc
   unfold appC at hc
   split at hc
   · cases hc
   rename_i h1
   have hi:atU l id<l.length:=by omega
   have hu:=h.each _ (vk hi)
   split at hc
   · cases hc
   split at hc
   · cases hc
   split at hc
   · cases hc
   split at hc
   · cases hc
   rename_i h2 h3 h4 h5
   refine ze1 h hi (by show(zQ l id).id=_;rw [wJ hi]) ?_ ?_
   · refine⟨?_,hu.s1,hu.s2,hu.nl,?_,hu.t0,hu.t2,fun hs=>absurd (by simpa using h2) hs⟩
     · show((zQ l id).bytes++b).length≤2000;rw [jk];omega
     · intro hs;show((((zQ l id).bytes++b).length:Nat):Int)≤(zQ l id).size;rw [jk]
       have hs:0≤(zQ l id).size:=hs;omega
   · show xG l - _+((((zQ l id).bytes++b).length:Nat):Int)≤6000
     rw [jk,← wJ hi];omega
 · exact h
theorem zzY {l:List Upl} {n:Int} (h:zL l n) (id size:Int):zL (decL l id size) n:=by
 unfold decL
 split
 · rename_i hc
   unfold decC at hc
   split at hc
   · cases hc
   rename_i h1
   have hi:atU l id<l.length:=by omega
   have hu:=h.each _ (vk hi)
   split at hc
   · cases hc
   split at hc
   · cases hc
   split at hc
   · cases hc
   rename_i h2 h3 h4
   refine ze1 h hi (by show(zQ l id).id=_;rw [wJ hi]) ?_ ?_
   · refine⟨hu.bl,by show -1≤size;omega,by show size≤2000;omega,hu.nl,fun _=>by show(((zQ l id).bytes.length:Nat):Int)≤size;omega,hu.t0,hu.t2,fun hs=> ?_⟩
     have:=hu.wh hs;omega
   · show xG l - _+(((zQ l id).bytes.length:Nat):Int)≤6000
     rw [← wJ hi];have:=h.tot;omega
 · exact h
theorem zzV {l:List Upl} {n:Int} (h:zL l n) (id:Int):zL (droL l id) n:=by
 unfold droL;have hs:=List.eraseIdx_sublist l (atU l id);refine⟨h.n0,Nat.le_trans hs.length_le h.cnt,h.srt.sublist hs,fun u hu=>h.ids u (hs.subset hu),fun u hu=>h.each u (hs.subset hu),Int.le_trans (zbq _ _) h.tot⟩
theorem zz8 {l:List Upl} {n:Int} (h:zL l n) (id:Int):zL (begL l id) n:=by
 unfold begL
 split
 · rename_i hc
   unfold begC at hc
   split at hc
   · cases hc
   rename_i h1
   have hi:atU l id<l.length:=by omega
   have hu:=h.each _ (vk hi)
   split at hc
   · cases hc
   split at hc
   · cases hc
   rename_i h2 h3
   refine ze1 h hi (by show(zQ l id).id=_;rw [wJ hi]) ⟨hu.bl,hu.s1,hu.s2,hu.nl,hu.bs,by show(0:Int)≤1;decide,by show(1:Int)≤2;decide,fun _=>by simpa using h3⟩ ?_
   show xG l - _+(((zQ l id).bytes.length:Nat):Int)≤6000
   rw [← wJ hi];have:=h.tot;omega
 · exact h
theorem zzT {l:List Upl} {n:Int} (h:zL l n) (id:Int):zL (endL l id) n:=by
 unfold endL
 split
 · rename_i hc
   unfold endC at hc
   split at hc
   · cases hc
   rename_i h1
   have hi:atU l id<l.length:=by omega
   have hu:=h.each _ (vk hi)
   split at hc
   · cases hc
   rename_i h2
   refine ze1 h hi (by show(zQ l id).id=_;rw [wJ hi]) ⟨hu.bl,hu.s1,hu.s2,hu.nl,hu.bs,by show(0:Int)≤2;decide,by show(2:Int)≤2;decide,fun _=>hu.wh (by simp only [Decidable.not_not] at h2;omega)⟩ ?_
   show xG l - _+(((zQ l id).bytes.length:Nat):Int)≤6000
   rw [← wJ hi];have:=h.tot;omega
 · exact h
theorem zAR {l:List Upl} (h:l.Pairwise fun a b=>a.id<b.id) {i:Nat} (hi:i<l.length):atU l l[i].id=i:=by
 unfold atU;rw [List.findIdx_eq hi]
 refine⟨by simp,fun j hj=> ?_⟩
 have:=List.pairwise_iff_getElem.1 h j i (by omega) hi hj
 simp only [beq_eq_false_iff_ne,ne_eq];omega
theorem zsk {l:List Upl} (h:l.Pairwise fun a b=>a.id<b.id) (id:Int):(l.filter fun u=> !(u.id == id))=droL l id:=by
 induction l with
 |nil=>simp [droL]
 | cons u l ih=>
   have h:=List.pairwise_cons.1 h;unfold droL atU at *;rw [List.filter_cons,List.findIdx_cons]
   by_cases hu:u.id=id
   · have e:(u.id == id)=true:=by simpa using hu
     rw [e];simp only [Bool.not_true,jd,if_false,cond_true,List.eraseIdx_cons_zero];refine List.filter_eq_self.2 fun v hv=> ?_;have:=h.1 v hv
     simp;omega
   · have e:(u.id == id)=false:=by simpa using hu
     rw [e];simp only [Bool.not_false,if_true,cond_false,List.eraseIdx_cons_succ,ih h.2]
end Go.Proofs.YtkjepecoodjbmaaGreatDoor
namespace Go.Proofs.YtkjepecoodjbmaaGreatDoor
open Go Go.Sep Go.Ab
set_option maxRecDepth 100000
def zaf (I:Alg):KU
 |[.v (.agg [.p (.int .i64 a),.p (.int .i64 b),.p (.str m),.p (.list .byte y),.p (.int .i64 t)]),.v (.one (.ptr 0 0))],[.pack [.obj 3 [.p (.int .i64 d)]]]=>(fun(m y:Str)=>(some (.one ⟨I.hid (True),(.ret (.v (.one (.p (.bool (I.hid (a == d))))))),[.pack [.obj 3 [.p (.int .i64 d)]]]⟩):Option CT)) m y
 |_,_=>none
theorem zlp:zu Tryz.prog 101 (zaf alg):=by
 intro args hp r h;unfold zaf at h;split at h<;>cases h
 rename_i a b m y t d;simp only [CT.Good,zh];intro _
 refine spH Tryz.func101 (by kernel_rfl) { keep:=some [0,1,2,3]} [] (by kernel_rfl) ?_
 intro I X hI hX
 refine orcL ?_;go_invoke;refine orcS (by kernel_rfl) ?_
 simp only [zi,Nat.reduceAdd];subst hI;simp only [nrmA,nrmB,nrlB,reduceCtorEq,HO.pack.injEq,HO.obj.injEq]
def zae:Know Tryz.prog:=⟨101,zaf,zlp⟩
def zlo:Know Tryz.prog:=⟨101,fun I=>zx I (zaf I),zf zlp⟩
def ixU (l:List Upl) (id:Int):Int:=if atU l id<l.length then(atU l id:Int) else -1
theorem znN {l:List Upl} {id:Int} {i:Nat} (h:i<l.length) (hp:i≤atU l id):(if(l.getD i upl0).id=id then atU l id=i else i+1≤atU l id):=by
 rw [show l.getD i upl0=l[i] by simp [h]]
 split
 · rename_i he
   rcases Nat.lt_or_ge i (atU l id) with h1|h1
   · have:=List.not_of_lt_findIdx (p:=fun u:Upl=>u.id == id) (xs:=l) (i:=i) h1
     simp [he] at this
   · omega
 · rename_i he
   rcases Nat.lt_or_ge i (atU l id) with h1|h1
   · omega
   · have e:atU l id=i:=by omega
     have h2:=uJ (l:=l) (id:=id) (by omega)
     rw [wJ (by omega)] at h2
     simp only [e] at h2;exact absurd h2 he
def ze3 (I:Alg):KU
 |[.v (.one (.p (.list .upl l))),.v (.one (.fn 101 [.ptr 0 0]))],[.pack [.obj 3 [.p (.int .i64 d)]]]=>(fun(l:List Upl)=>(some (.one ⟨I.hid (l.length≤1000000),(.ret (.v (.one (.p (.int .i64 (I.hid (ixU l d))))))),[.pack [.obj 3 [.p (.int .i64 d)]]]⟩):Option CT)) l
 |_,_=>none
theorem zpO:zu Tryz.prog 100 (ze3 alg):=by
 intro args hp r h;unfold ze3 at h;split at h<;>cases h
 rename_i l d
 revert l;intro(l:List Upl)
 simp only [CT.Good,zh];intro hneed
 refine spH Tryz.func100 (by kernel_rfl) { keep:=some [0,1,4,5,7,8]} [zae] (by kernel_rfl) ?_
 intro I X hI hX
 refine orcL ?_;go_invoke;refine orcS (by kernel_rfl) ?_
 simp only [zi,Nat.reduceAdd]
 refine lpH hI [zae] hX [0,1,7,8] (fun(i:Nat)=>i≤l.length∧i≤atU l d) (fun(i:Nat)=>⟨[(0,.v (.one (.p (.list .upl l)))),(1,.v (.one (.fn 101 [.ptr 0 0]))),(7,.v (.one (.p (.int .i64 ((I.len (α:=Upl) l)))))),(8,.v (.one (.p (.int .i64 i))))],[.pack [.obj 3 [.p (.int .i64 d)]]],19,none⟩) (fun(i:Nat)=>l.length - i) 0 (by kernel_rfl) (by kernel_rfl) ?_ ?_
 · exact⟨jM _,jM _⟩
 rintro i ⟨h1,h2⟩ A hA
 refine orcL ?_;go_invoke;refine orcS (by kernel_rfl) ?_
 simp only [zi,Nat.reduceAdd];subst hI;simp only [nrmA,nrmB];have hx:=fun h=>znN (l:=l) (id:=d) (i:=i) h h2;have hle:=zth l d;have e0:(⟨0,0,[],[],0⟩:Upl)=upl0:=rfl;simp only [e0];unfold ixU
 (repeat' (first|refine ja ?_ ?_|intro _))<;>first|omega|exact jb|exact jc ‹False›|skip
 all_goals first
  |(have h3:=hx (by omega);rw [if_pos (by assumption)] at h3;rw [if_pos (by omega),h3])
  |(have h3:=hx (by omega);rw [if_neg (by assumption)] at h3;exact hA (i+1) ⟨by omega,h3⟩ (by omega))
  |(rw [if_neg (by omega)])
def TU:Know Tryz.prog:=⟨100,ze3,zpO⟩
def TS:Know Tryz.prog:=⟨100,fun I=>zx I (ze3 I),zf zpO⟩
def zcW:Cfg:= { sl:=[⟨124,0,.upl,some 81⟩,⟨65,0,.upl,some 81⟩]}
theorem zrD {l:List Upl} {id:Int} (h:atU l id<l.length):ixU l id=(atU l id:Int):=by unfold ixU;rw [if_pos h]
theorem zrE {l:List Upl} {id:Int} (h: ¬ atU l id<l.length):ixU l id= -1:=by unfold ixU;rw [if_neg h]
theorem zAp (l:List Upl) (n id:Int) (hneed:l.length≤1000000∧atU l id<l.length):Spc Tryz.prog 58 [.v (.one (.ptr 0 0)),.v (.one (.p (.int .i64 id)))] [.obj 124 [.row 1,.p (.int .i64 n)],.row .upl 81 l] (.ret (.tup [.one (.ept .upl 1 ((atU l id:Int)) 0),.one (.p (.int .i64 0))])) [.obj 124 [.row 1,.p (.int .i64 n)],.row .upl 81 l]:=by
 obtain⟨h1,h2⟩:=hneed
 refine spH Tryz.func58 (by kernel_rfl) { flat:=true,keep:=some [0,1,3,4,5,6]} [zae,zlo,TU,TS] (by kernel_rfl) ?_
 intro I X hI hX
 refine orcL ?_;go_invoke;refine orcS (by kernel_rfl) ?_
 simp only [zi,Nat.reduceAdd];subst hI;simp only [nrmA,nrmB,zrD h2]
 (repeat' (first|refine ja ?_ ?_|intro _))<;>first|omega|exact jb|exact jc ‹False›|skip
theorem zAo (l:List Upl) (n id:Int) (hneed:l.length≤1000000∧¬ atU l id<l.length):Spc Tryz.prog 58 [.v (.one (.ptr 0 0)),.v (.one (.p (.int .i64 id)))] [.obj 124 [.row 1,.p (.int .i64 n)],.row .upl 81 l] (.ret (.tup [.one (.p (.val (.pointer none))),.one (.p (.int .i64 10))])) [.obj 124 [.row 1,.p (.int .i64 n)],.row .upl 81 l]:=by
 obtain⟨h1,h2⟩:=hneed
 refine spH Tryz.func58 (by kernel_rfl) { flat:=true,keep:=some [0,1,3,4,5,6]} [zae,zlo,TU,TS] (by kernel_rfl) ?_
 intro I X hI hX
 refine orcL ?_;go_invoke;refine orcS (by kernel_rfl) ?_
 simp only [zi,Nat.reduceAdd];subst hI;simp only [nrmA,nrmB,zrE h2]
 (repeat' (first|refine ja ?_ ?_|intro _))<;>first|omega|exact jb|exact jc ‹False›|skip
def zlH (I:Alg):KU
 |[.v (.one (.ptr 0 0)),.v (.one (.p (.int .i64 id)))],[.obj 124 [.row 1,.p (.int .i64 n)],.row .upl 81 l]=>(fun(l:List Upl)=>(some (.br (I.hid (decide (atU l id<l.length))) (.one ⟨I.hid (l.length≤1000000∧atU l id<l.length),(.ret (.tup [.one (.ept .upl 1 (I.hid (atU l id:Int)) 0),.one (.p (.int .i64 0))])),[.obj 124 [.row 1,.p (.int .i64 n)],.row .upl 81 l]⟩) (.one ⟨I.hid (l.length≤1000000∧¬ atU l id<l.length),(.ret (.tup [.one (.p (.val (.pointer none))),.one (.p (.int .i64 10))])),[.obj 124 [.row 1,.p (.int .i64 n)],.row .upl 81 l]⟩)):Option CT)) l
 |_,_=>none
theorem zv4:zu Tryz.prog 58 (zlH alg):=by
 intro args hp r h;unfold zlH at h
 split at h
 · cases h;exact⟨fun _ hn=>zAp _ _ _ hn,fun _ hn=>zAo _ _ _ hn⟩
 · cases h
def zdw:Know Tryz.prog:=⟨58,zlH,zv4⟩
def zdv:Know Tryz.prog:=⟨58,fun I=>zx I (zlH I),zf zv4⟩
theorem zp1 (l:List Upl) (n:Int) (hneed:xG l≤1000000∧l.length≤1000000):Spc Tryz.prog 201 [.v (.one (.ptr 0 0))] [.obj 124 [.row 1,.p (.int .i64 n)],.row .upl 81 l] (.ret (.v (.one (.p (.int .i64 ((xG l))))))) [.obj 124 [.row 1,.p (.int .i64 n)],.row .upl 81 l]:=by
 obtain⟨hu,hl⟩:=hneed
 refine spH Tryz.func201 (by kernel_rfl) { flat:=true,keep:=some [0,2,3,5,9,10,11]} [] (by kernel_rfl) ?_
 intro I X hI hX
 refine orcL ?_;go_invoke;refine orcS (by kernel_rfl) ?_
 simp only [zi,Nat.reduceAdd]
 refine lpH hI [] hX [0,3,9,10,11] (fun(g:Nat × Int)=>match g with|(i,a)=>i≤l.length∧0≤a∧a+xG (l.drop i)=xG l) (fun(g:Nat × Int)=>match g with|(i,a)=>⟨[(0,.v (.one (.ptr 0 0))),(3,.v (.one (.p (.int .i64 a)))),(9,.v (.one (.row 1))),(10,.v (.one (.p (.int .i64 ((I.len (α:=Upl) l)))))),(11,.v (.one (.p (.int .i64 i))))],[.obj 124 [.row 1,.p (.int .i64 n)],.row .upl 81 l],22,none⟩) (fun(g:Nat × Int)=>match g with|(i,a)=>l.length - i) (0,0) (by kernel_rfl) (by kernel_rfl) ?_ ?_
 · exact⟨jM _,Int.le_refl _,by simp⟩
 rintro⟨i,a⟩ ⟨h1,h2,h3⟩ A hA;simp only at hA
 refine orcL ?_;go_invoke;refine orcS (by kernel_rfl) ?_
 simp only [zi,Nat.reduceAdd];subst hI;simp only [nrmA,nrmB]
 have hd:i<l.length→xG (l.drop i)=(l.getD i ⟨0,0,[],[],0⟩).bytes.length+xG (l.drop (i+1)):=fun h=>by
  rw [jE h];simp [xG,h]
 have hn:=YH (l.drop (i+1))
 have hn0: ¬ i<l.length→xG (l.drop i)=0:=fun h=>by rw [jF (by omega)];rfl
 generalize l.getD i ⟨0,0,[],[],0⟩=x at *
 (repeat' (first|refine ja ?_ ?_|intro _))<;>first|omega|exact jb|exact jc ‹False›|skip
 all_goals first
  |(have:=hd (by omega);omega)
  |(have:=hd (by omega);refine hA (i+1,_) ⟨by simp only;omega,by simp only;omega,by simp only;omega⟩ (by simp only;omega))
  |(have:=hn0 (by omega);simp only [show a=xG l by omega])
def VL (I:Alg):KU
 |[.v (.one (.ptr 0 0))],[.obj 124 [.row 1,.p (.int .i64 n)],.row .upl 81 l]=>(fun(l:List Upl)=>(some (.one ⟨I.hid (xG l≤1000000∧l.length≤1000000),(.ret (.v (.one (.p (.int .i64 (I.hid (xG l))))))),[.obj 124 [.row 1,.p (.int .i64 n)],.row .upl 81 l]⟩):Option CT)) l
 |_,_=>none
theorem zgM:zu Tryz.prog 201 (VL alg):=by
 intro args hp r h;unfold VL at h
 split at h
 · cases h;exact fun hn=>zp1 _ _ hn
 · cases h
def zp0:Know Tryz.prog:=⟨201,VL,zgM⟩
def zpZ:Know Tryz.prog:=⟨201,fun I=>zx I (VL I),zf zgM⟩
theorem zyS (l:List Upl) (n:Int) (hneed:xG l≤1000000∧l.length≤1000000):Spc Tryz.prog 201 [.v (.one (.ptr 0 0))] [.pack [.obj 124 [.row 1,.p (.int .i64 n)],.row .upl 81 l]] (.ret (.v (.one (.p (.int .i64 ((xG l))))))) [.pack [.obj 124 [.row 1,.p (.int .i64 n)],.row .upl 81 l]]:=
 Spc.packed (ex:=[]) (zp1 l n hneed) rfl (by simp) rfl
def zam (I:Alg):KU
 |[.v (.one (.ptr 0 0))],[.pack [.obj 124 [.row 1,.p (.int .i64 n)],.row .upl 81 l]]=>(fun(l:List Upl)=>(some (.one ⟨I.hid (xG l≤1000000∧l.length≤1000000),(.ret (.v (.one (.p (.int .i64 (I.hid (xG l))))))),[.pack [.obj 124 [.row 1,.p (.int .i64 n)],.row .upl 81 l]]⟩):Option CT)) l
 |_,_=>none
theorem zlB:zu Tryz.prog 201 (zam alg):=by
 intro args hp r h;unfold zam at h
 split at h
 · cases h;exact fun hn=>zyS _ _ hn
 · cases h
def zt3:Know Tryz.prog:=⟨201,zam,zlB⟩
def zt2:Know Tryz.prog:=⟨201,fun I=>zx I (zam I),zf zlB⟩
def zfL (I:Alg):KU
 |[.v (.one .nilS),.v (.one (.p (.int .i64 n)))],[]=>some (.one ⟨I.hid (0≤n∧n≤1000000),(.ret (.v (.one (.row 0)))),[.row .byte 5 (I.hid ([]))]⟩)
 |_,_=>none
theorem zrQ:zu Tryz.prog 239 (zfL alg):=by
 intro args hp r h;unfold zfL at h;split at h<;>cases h
 rename_i n;simp only [CT.Good,zh];intro hneed
 refine spH Tryz.func239 (by kernel_rfl) { cut:=[0],keep:=some [0,1,4]} [] (by kernel_rfl) ?_
 intro I X hI hX
 refine orcL ?_;go_invoke;refine orcS (by kernel_rfl) ?_
 simp only [zi,Nat.reduceAdd];subst hI;simp only [nrmA,nrmB,nrlB,reduceCtorEq];simp only [List.length_replicate,List.take_zero]
 (repeat' (first|refine ja ?_ ?_|intro _))<;>first|omega|exact jb|exact jc ‹False›|skip
 all_goals trivial
def zj8:Know Tryz.prog:=⟨239,zfL,zrQ⟩
def zj7:Know Tryz.prog:=⟨239,fun I=>zx I (zfL I),zf zrQ⟩
theorem ziw {ls:List Str} {i:Nat} (h:i<ls.length):(ls.take (i+1)).flatten=(ls.take i).flatten++ls.getD i []:=by
 rw [jB h,List.flatten_append];simp [h]
theorem zfR (ls:List Str) (i:Nat):(ls.take i).flatten.length≤ls.flatten.length:=by
 have:=congrArg (fun l:List Str=>l.flatten.length) (List.take_append_drop i ls);simp only [List.flatten_append,jk] at this;omega
def Tc (I:Alg):KU
 |[.v (.one (.p (.list .bytes ls)))],[]=>(fun(ls:List Str)=>(some (.one ⟨I.hid (ls.flatten.length≤1000000∧ls.length≤1000),(.ret (.v (.one (.row 0)))),[.row .byte 5 ls.flatten]⟩):Option CT)) ls
 |_,_=>none
theorem ziP:zu Tryz.prog 202 (Tc alg):=by
 intro args hp r h;unfold Tc at h;split at h<;>cases h
 rename_i ls
 revert ls;intro(ls:List Str)
 simp only [CT.Good,zh];intro hneed;obtain⟨hl,hk⟩:=hneed
 refine spH Tryz.func202 (by kernel_rfl) { nils:=[239],keep:=some [0,2,3,5,6,8,9,10,11,25,26,27]} [zj8,zj7] (by kernel_rfl) ?_
 intro I X hI hX
 refine orcL ?_;go_invoke;refine orcS (by kernel_rfl) ?_
 simp only [zi,Nat.reduceAdd]
 refine lpH hI [zj8,zj7] hX [0,3,9,10,11] (fun(g:Nat × Int)=>match g with|(i,a)=>i≤ls.length∧a=(ls.take i).flatten.length) (fun(g:Nat × Int)=>match g with|(i,a)=>⟨[(0,.v (.one (.p (.list .bytes ls)))),(3,.v (.one (.p (.int .i64 a)))),(9,.v (.one (.p (.list .bytes ls)))),(10,.v (.one (.p (.int .i64 ((I.len (α:=List UInt8) ls)))))),(11,.v (.one (.p (.int .i64 i))))],[],36,none⟩) (fun(g:Nat × Int)=>match g with|(i,a)=>ls.length - i) (0,0) (by kernel_rfl) (by kernel_rfl) ?_ ?_
 · exact⟨jM _,by simp⟩
 rintro⟨i,a⟩ ⟨h1,h2⟩ A hA;simp only at hA
 refine orcL ?_;go_invoke;refine orcS (by kernel_rfl) ?_
 simp only [zi,Nat.reduceAdd];have hx:i<ls.length→_:=ziw (ls:=ls) (i:=i);have hy:=zfR ls (i+1);have hz:=zfR ls i;refine⟨fun c1=> ?_,fun c1=>⟨?_,?_⟩⟩
 · subst hI
   simp only [nrmA,nrmB] at c1;simp only [nrmA,nrmB]
   have hx:=congrArg List.length (hx (by omega))
   rw [jk] at hx;generalize ls.getD i []=x at *
   (repeat' (first|refine ja ?_ ?_|intro _))<;>first|omega|exact jb|exact jc ‹False›|skip
   exact hA (i+1,_) ⟨by simp only;omega,by simp only;omega⟩ (by simp only;omega)
 · subst hI
   simp only [nrmA,nrmB];omega
 · have hi:i=ls.length:=by
    subst hI;simp only [nrmA,nrmB] at c1;omega
   have hil:(I.hid ([]:Str))=[]:=by subst hI;rfl
   rw [hil]
   refine lpH hI [zj8,zj7] hX [6,25,26,27] (fun(g:Nat × Str)=>match g with|(j,o)=>j≤ls.length∧o=(ls.take j).flatten) (fun(g:Nat × Str)=>match g with|(j,o)=>⟨[(6,.v (.one (.row 0))),(25,.v (.one (.p (.list .bytes ls)))),(26,.v (.one (.p (.int .i64 ((I.len (α:=List UInt8) ls)))))),(27,.v (.one (.p (.int .i64 j))))],[.row .byte 5 o],36,none⟩) (fun(g:Nat × Str)=>match g with|(j,o)=>ls.length - j) (0,[]) (by kernel_rfl) (by kernel_rfl) ?_ ?_
   · exact⟨jM _,rfl⟩
   rintro⟨j,o⟩ ⟨k1,k2⟩ B hB;simp only at hB
   refine orcL ?_;go_invoke;refine orcS (by kernel_rfl) ?_
   simp only [zi,Nat.reduceAdd];subst hI;simp only [nrmA,nrmB,nrlB,reduceCtorEq];have hx:j<ls.length→_:=ziw (ls:=ls) (i:=j);have hy:=zfR ls (j+1);have hz:=zfR ls j
   have hw: ¬ j<ls.length→o=ls.flatten:=fun h=>by rw [k2,jq (by omega)]
   rw [k2] at hw ⊢
   refine⟨fun c=> ?_,fun c=>hw (by omega)⟩
   have hx:=hx (by omega)
   rw [← hx];have hx2:=congrArg List.length hx;rw [jk] at hx2;generalize ls.getD j []=x at *
   (repeat' (first|refine ja ?_ ?_|intro _))<;>first|omega|exact jb|exact jc ‹False›|skip
   exact hB (j+1,(ls.take (j+1)).flatten) ⟨by simp only;omega,rfl⟩ (by simp only;omega)
def zsS:Know Tryz.prog:=⟨202,Tc,ziP⟩
def zsR:Know Tryz.prog:=⟨202,fun I=>zx I (Tc I),zf ziP⟩
theorem WW {l:List Upl} {n:Int} (h:zL l n):l.length≤1000000∧xG l≤1000000:=by
 have:=h.cnt;have:=h.tot;omega
def XD (I:Alg):KU
 |[.v (.one (.ptr 0 0)),.v (.one (.p (.int .i64 size))),.v (.one (.p (.str m)))],[.pack [.obj 124 [.row 1,.p (.int .i64 n)],.row .upl 81 l]]=>(fun(l:List Upl) (m:Str)=>(some (.one ⟨I.hid (zL l n∧n≤1000000∧m.length≤1000000),(.ret (.tup [.one (.p (.int .i64 (I.hid (creI l n size m)))),.one (.p (.int .i64 (I.hid (creC l size m))))])),[.pack [.obj 124 [.row 1,.p (.int .i64 (I.hid (creN l n size m)))],.row .upl 81 (I.hid (creL l n size m))]]⟩):Option CT)) l m
 |_,_=>none
theorem zdu:zu Tryz.prog 152 (XD alg):=by
 intro args hp r h;unfold XD at h;split at h<;>cases h
 rename_i size m n l
 revert l;intro(l:List Upl)
 simp only [CT.Good,zh];intro hneed;obtain⟨hs,hn,hm⟩:=hneed;have hc:=hs.cnt;have h0:=hs.n0;generalize hi:creI l n size m=ri;generalize he:creC l size m=re;generalize hl:creL l n size m=rl;generalize hN:creN l n size m=rn
 refine spH Tryz.func152 (by kernel_rfl) { zcW with keep:=some [0,1,2,6,7]} [wU,wS,Tz,Tv] (by kernel_rfl) ?_
 intro I X hI hX
 refine orcL ?_;go_invoke;refine orcS (by kernel_rfl) ?_
 simp only [zi,Nat.reduceAdd];subst hI;simp only [nrmA,nrmB,nrlB,reduceCtorEq,HO.pack.injEq,HO.obj.injEq];unfold creI at hi;unfold creL at hl;unfold creN at hN;rw [he] at hi hl hN;unfold creC at he;simp only [jh,ji]
 (repeat' (first|refine ja ?_ ?_|intro _))<;>first|omega|exact jb|exact jc ‹False›|skip
 all_goals((repeat(first|rewrite [if_pos (by first|omega|assumption|(simp only [*,or_self,or_true,true_or,or_false,false_or,jf,jg,jd,je,and_self,and_true,true_and];done)|(simp only [*];omega)|(simp [*];done)|(simp [*];omega))] at he|rewrite [if_neg (by first|omega|assumption|(simp only [*,or_self,or_true,true_or,or_false,false_or,jf,jg,jd,je,and_self,and_true,true_and];done)|(simp only [*];omega)|(simp [*];done)|(simp [*];omega))] at he));subst he;((repeat(first|rewrite [if_pos (by first|omega|assumption|(simp only [*,or_self,or_true,true_or,or_false,false_or,jf,jg,jd,je,and_self,and_true,true_and];done)|(simp only [*];omega)|(simp [*];done)|(simp [*];omega))] at hi|rewrite [if_neg (by first|omega|assumption|(simp only [*,or_self,or_true,true_or,or_false,false_or,jf,jg,jd,je,and_self,and_true,true_and];done)|(simp only [*];omega)|(simp [*];done)|(simp [*];omega))] at hi)));((repeat(first|rewrite [if_pos (by first|omega|assumption|(simp only [*,or_self,or_true,true_or,or_false,false_or,jf,jg,jd,je,and_self,and_true,true_and];done)|(simp only [*];omega)|(simp [*];done)|(simp [*];omega))] at hl|rewrite [if_neg (by first|omega|assumption|(simp only [*,or_self,or_true,true_or,or_false,false_or,jf,jg,jd,je,and_self,and_true,true_and];done)|(simp only [*];omega)|(simp [*];done)|(simp [*];omega))] at hl)));((repeat(first|rewrite [if_pos (by first|omega|assumption|(simp only [*,or_self,or_true,true_or,or_false,false_or,jf,jg,jd,je,and_self,and_true,true_and];done)|(simp only [*];omega)|(simp [*];done)|(simp [*];omega))] at hN|rewrite [if_neg (by first|omega|assumption|(simp only [*,or_self,or_true,true_or,or_false,false_or,jf,jg,jd,je,and_self,and_true,true_and];done)|(simp only [*];omega)|(simp [*];done)|(simp [*];omega))] at hN)));subst hi;subst hl;subst hN;first|rfl|omega)
def zn7:Know Tryz.prog:=⟨152,XD,zdu⟩
def zn6:Know Tryz.prog:=⟨152,fun I=>zx I (XD I),zf zdu⟩
def XE (I:Alg):KU
 |[.v (.one (.ptr 0 0)),.v (.one (.p (.int .i64 id))),.v (.one (.p (.int .i64 off))),.v (.one (.p (.list .byte b)))],[.pack [.obj 124 [.row 1,.p (.int .i64 n)],.row .upl 81 l]]=>(fun(l:List Upl) (b:Str)=>(some (.one ⟨I.hid (zL l n∧b.length≤1000000),(.ret (.v (.one (.p (.int .i64 (I.hid (appC l id off b))))))),[.pack [.obj 124 [.row 1,.p (.int .i64 n)],.row .upl 81 (I.hid (appL l id off b))]]⟩):Option CT)) l b
 |_,_=>none
theorem zdx:zu Tryz.prog 153 (XE alg):=by
 intro args hp r h;unfold XE at h;split at h<;>cases h
 rename_i id off b n l
 revert l;intro(l:List Upl)
 simp only [CT.Good,zh];intro hneed;obtain⟨hs,hb⟩:=hneed;have hf:=WW hs;generalize he:appC l id off b=re;generalize hl:appL l id off b=rl
 refine spH Tryz.func153 (by kernel_rfl) { zcW with bare:=[58,201],keep:=some [0,1,2,3,8,9,10,11]} [zdw,zdv,zp0,zpZ,zt3,zt2,zsS,zsR] (by kernel_rfl) ?_
 intro I X hI hX
 refine orcL ?_;go_invoke;refine orcS (by kernel_rfl) ?_
 simp only [zi,Nat.reduceAdd];subst hI;simp only [nrmA,nrmB,nrlB,reduceCtorEq,HO.pack.injEq,HO.obj.injEq];unfold appL at hl;rw [he] at hl;unfold appC at he;unfold zQ upl0 at he hl;simp only [List.flatten_cons,List.flatten_nil,List.append_nil,jk,jh,ji];have hx:atU l id<l.length→_:=fun h=>hs.each _ (vk h);unfold zQ upl0 at hx;generalize l.getD (atU l id) ⟨0,0,[],[],0⟩=x at *;have hu0:=YH l;have hb1:=fun h=>(hx h).bl;have hb2:=fun h=>(hx h).s1;have hb3:=fun h=>(hx h).s2
 (repeat' (first|refine ja ?_ ?_|intro _))<;>first|omega|exact jb|exact jc ‹False›|skip
 all_goals first
  |(have:=hb1 (by omega);have:=hb2 (by omega);have:=hb3 (by omega);omega)
  |exact hf.1
  |exact hf.2
  |((repeat(first|rewrite [if_pos (by first|omega|assumption|(simp only [*,or_self,or_true,true_or,or_false,false_or,jf,jg,jd,je,and_self,and_true,true_and];done)|(simp only [*];omega)|(simp [*];done)|(simp [*];omega))] at he|rewrite [if_neg (by first|omega|assumption|(simp only [*,or_self,or_true,true_or,or_false,false_or,jf,jg,jd,je,and_self,and_true,true_and];done)|(simp only [*];omega)|(simp [*];done)|(simp [*];omega))] at he));subst he;((repeat(first|rewrite [if_pos (by first|omega|assumption|(simp only [*,or_self,or_true,true_or,or_false,false_or,jf,jg,jd,je,and_self,and_true,true_and];done)|(simp only [*];omega)|(simp [*];done)|(simp [*];omega))] at hl|rewrite [if_neg (by first|omega|assumption|(simp only [*,or_self,or_true,true_or,or_false,false_or,jf,jg,jd,je,and_self,and_true,true_and];done)|(simp only [*];omega)|(simp [*];done)|(simp [*];omega))] at hl)));subst hl;first|rfl|omega)
def zn9:Know Tryz.prog:=⟨153,XE,zdx⟩
def zn8:Know Tryz.prog:=⟨153,fun I=>zx I (XE I),zf zdx⟩
end Go.Proofs.YtkjepecoodjbmaaGreatDoor
namespace Go.Proofs.YtkjepecoodjbmaaGreatDoor
open Go Go.Sep Go.Ab
set_option maxRecDepth 100000
def ZU (I:Alg):KU
 |[.v (.one (.ptr 0 0)),.v (.one (.p (.int .i64 id))),.v (.one (.p (.int .i64 size)))],[.pack [.obj 124 [.row 1,.p (.int .i64 n)],.row .upl 81 l]]=>(fun(l:List Upl)=>(some (.one ⟨I.hid (zL l n),(.ret (.v (.one (.p (.int .i64 (I.hid (decC l id size))))))),[.pack [.obj 124 [.row 1,.p (.int .i64 n)],.row .upl 81 (I.hid (decL l id size))]]⟩):Option CT)) l
 |_,_=>none
theorem zbQ:zu Tryz.prog 154 (ZU alg):=by
 intro args hp r h;unfold ZU at h;split at h<;>cases h
 rename_i id size n l
 revert l;intro(l:List Upl)
 simp only [CT.Good,zh];intro hneed;have hs:=hneed;have hf:=WW hs;generalize he:decC l id size=re;generalize hl:decL l id size=rl
 refine spH Tryz.func154 (by kernel_rfl) { zcW with bare:=[58],keep:=some [0,1,2,6,7,8]} [zdw,zdv] (by kernel_rfl) ?_
 intro I X hI hX
 refine orcL ?_;go_invoke;refine orcS (by kernel_rfl) ?_
 simp only [zi,Nat.reduceAdd];subst hI;simp only [nrmA,nrmB,nrlB,reduceCtorEq,HO.pack.injEq,HO.obj.injEq];unfold decL at hl;rw [he] at hl;unfold decC at he;unfold zQ upl0 at he hl;generalize l.getD (atU l id) ⟨0,0,[],[],0⟩=x at *
 (repeat' (first|refine ja ?_ ?_|intro _))<;>first|omega|exact jb|exact jc ‹False›|skip
 all_goals first
  |exact hf.1
  |((repeat(first|rewrite [if_pos (by first|omega|assumption|(simp only [*,or_self,or_true,true_or,or_false,false_or,jf,jg,jd,je,and_self,and_true,true_and];done)|(simp only [*];omega)|(simp [*];done)|(simp [*];omega))] at he|rewrite [if_neg (by first|omega|assumption|(simp only [*,or_self,or_true,true_or,or_false,false_or,jf,jg,jd,je,and_self,and_true,true_and];done)|(simp only [*];omega)|(simp [*];done)|(simp [*];omega))] at he));subst he;((repeat(first|rewrite [if_pos (by first|omega|assumption|(simp only [*,or_self,or_true,true_or,or_false,false_or,jf,jg,jd,je,and_self,and_true,true_and];done)|(simp only [*];omega)|(simp [*];done)|(simp [*];omega))] at hl|rewrite [if_neg (by first|omega|assumption|(simp only [*,or_self,or_true,true_or,or_false,false_or,jf,jg,jd,je,and_self,and_true,true_and];done)|(simp only [*];omega)|(simp [*];done)|(simp [*];omega))] at hl)));subst hl;first|rfl|omega)
def zjA:Know Tryz.prog:=⟨154,ZU,zbQ⟩
def zjz:Know Tryz.prog:=⟨154,fun I=>zx I (ZU I),zf zbQ⟩
def QS (I:Alg):KU
 |[.v (.agg [.p (.int .i64 a),.p (.int .i64 b),.p (.str m),.p (.list .byte y),.p (.int .i64 t)])],[]=>(fun(m y:Str)=>(some (.one ⟨I.hid (True),(.ret (.v (.one (.p (.bool (I.hid (b == (y.length:Int)))))))),[]⟩):Option CT)) m y
 |_,_=>none
theorem zkW:zu Tryz.prog 205 (QS alg):=by
 intro args hp r h;unfold QS at h;split at h<;>cases h
 rename_i a b m y t;simp only [CT.Good,zh];intro _
 refine spH Tryz.func205 (by kernel_rfl) { keep:=some [0,1,2]} [] (by kernel_rfl) ?_
 intro I X hI hX
 refine orcL ?_;go_invoke;refine orcS (by kernel_rfl) ?_
 simp only [zi,Nat.reduceAdd];subst hI;simp only [nrmA,nrmB]
 try trivial
def ztD:Know Tryz.prog:=⟨205,QS,zkW⟩
def ztC:Know Tryz.prog:=⟨205,fun I=>zx I (QS I),zf zkW⟩
def VO (I:Alg):KU
 |[.v (.one (.ptr 0 0)),.v (.one (.p (.int .i64 id)))],[.pack [.obj 124 [.row 1,.p (.int .i64 n)],.row .upl 81 l]]=>(fun(l:List Upl)=>(some (.one ⟨I.hid (zL l n),(.ret (.v (.one (.p (.int .i64 (I.hid (begC l id))))))),[.pack [.obj 124 [.row 1,.p (.int .i64 n)],.row .upl 81 (I.hid (begL l id))]]⟩):Option CT)) l
 |_,_=>none
theorem zgO:zu Tryz.prog 156 (VO alg):=by
 intro args hp r h;unfold VO at h;split at h<;>cases h
 rename_i id n l
 revert l;intro(l:List Upl)
 simp only [CT.Good,zh];intro hneed;have hs:=hneed;have hf:=WW hs;generalize he:begC l id=re;generalize hl:begL l id=rl
 refine spH Tryz.func156 (by kernel_rfl) { zcW with bare:=[58],keep:=some [0,1,4,5,6]} [zdw,zdv,ztD,ztC] (by kernel_rfl) ?_
 intro I X hI hX
 refine orcL ?_;go_invoke;refine orcS (by kernel_rfl) ?_
 simp only [zi,Nat.reduceAdd];subst hI;simp only [nrmA,nrmB,nrlB,reduceCtorEq,HO.pack.injEq,HO.obj.injEq];unfold begL at hl;rw [he] at hl;unfold begC at he;unfold zQ upl0 at he hl;generalize l.getD (atU l id) ⟨0,0,[],[],0⟩=x at *
 (repeat' (first|refine ja ?_ ?_|intro _))<;>first|omega|exact jb|exact jc ‹False›|skip
 all_goals first
  |exact hf.1
  |((repeat(first|rewrite [if_pos (by first|omega|assumption|(simp only [*,or_self,or_true,true_or,or_false,false_or,jf,jg,jd,je,and_self,and_true,true_and];done)|(simp only [*];omega)|(simp [*];done)|(simp [*];omega))] at he|rewrite [if_neg (by first|omega|assumption|(simp only [*,or_self,or_true,true_or,or_false,false_or,jf,jg,jd,je,and_self,and_true,true_and];done)|(simp only [*];omega)|(simp [*];done)|(simp [*];omega))] at he));subst he;((repeat(first|rewrite [if_pos (by first|omega|assumption|(simp only [*,or_self,or_true,true_or,or_false,false_or,jf,jg,jd,je,and_self,and_true,true_and];done)|(simp only [*];omega)|(simp [*];done)|(simp [*];omega))] at hl|rewrite [if_neg (by first|omega|assumption|(simp only [*,or_self,or_true,true_or,or_false,false_or,jf,jg,jd,je,and_self,and_true,true_and];done)|(simp only [*];omega)|(simp [*];done)|(simp [*];omega))] at hl)));subst hl;first|rfl|omega)
def zqc:Know Tryz.prog:=⟨156,VO,zgO⟩
def zqb:Know Tryz.prog:=⟨156,fun I=>zx I (VO I),zf zgO⟩
def zfa (I:Alg):KU
 |[.v (.one (.ptr 0 0)),.v (.one (.p (.int .i64 id)))],[.pack [.obj 124 [.row 1,.p (.int .i64 n)],.row .upl 81 l]]=>(fun(l:List Upl)=>(some (.one ⟨I.hid (zL l n),(.ret (.v (.one (.p (.int .i64 (I.hid (endC l id))))))),[.pack [.obj 124 [.row 1,.p (.int .i64 n)],.row .upl 81 (I.hid (endL l id))]]⟩):Option CT)) l
 |_,_=>none
theorem zp7:zu Tryz.prog 157 (zfa alg):=by
 intro args hp r h;unfold zfa at h;split at h<;>cases h
 rename_i id n l
 revert l;intro(l:List Upl)
 simp only [CT.Good,zh];intro hneed;have hs:=hneed;have hf:=WW hs;generalize he:endC l id=re;generalize hl:endL l id=rl
 refine spH Tryz.func157 (by kernel_rfl) { zcW with bare:=[58],keep:=some [0,1,4,5,6]} [zdw,zdv] (by kernel_rfl) ?_
 intro I X hI hX
 refine orcL ?_;go_invoke;refine orcS (by kernel_rfl) ?_
 simp only [zi,Nat.reduceAdd];subst hI;simp only [nrmA,nrmB,nrlB,reduceCtorEq,HO.pack.injEq,HO.obj.injEq];unfold endL at hl;rw [he] at hl;unfold endC at he;unfold zQ upl0 at he hl;generalize l.getD (atU l id) ⟨0,0,[],[],0⟩=x at *
 (repeat' (first|refine ja ?_ ?_|intro _))<;>first|omega|exact jb|exact jc ‹False›|skip
 all_goals first
  |exact hf.1
  |((repeat(first|rewrite [if_pos (by first|omega|assumption|(simp only [*,or_self,or_true,true_or,or_false,false_or,jf,jg,jd,je,and_self,and_true,true_and];done)|(simp only [*];omega)|(simp [*];done)|(simp [*];omega))] at he|rewrite [if_neg (by first|omega|assumption|(simp only [*,or_self,or_true,true_or,or_false,false_or,jf,jg,jd,je,and_self,and_true,true_and];done)|(simp only [*];omega)|(simp [*];done)|(simp [*];omega))] at he));subst he;((repeat(first|rewrite [if_pos (by first|omega|assumption|(simp only [*,or_self,or_true,true_or,or_false,false_or,jf,jg,jd,je,and_self,and_true,true_and];done)|(simp only [*];omega)|(simp [*];done)|(simp [*];omega))] at hl|rewrite [if_neg (by first|omega|assumption|(simp only [*,or_self,or_true,true_or,or_false,false_or,jf,jg,jd,je,and_self,and_true,true_and];done)|(simp only [*];omega)|(simp [*];done)|(simp [*];omega))] at hl)));subst hl;first|rfl|omega)
def zxh:Know Tryz.prog:=⟨157,zfa,zp7⟩
def zxg:Know Tryz.prog:=⟨157,fun I=>zx I (zfa I),zf zp7⟩
def zan (I:Alg):KU
 |[.v (.one (.ptr 0 0))],[.pack [.obj 124 [.row 1,.p (.int .i64 n)],.row .upl 81 l]]=>(fun(l:List Upl)=>(some (.one ⟨I.hid (0≤n∧n≤1000000),(.ret (.v (.one (.p (.int .i64 (I.hid (n+1))))))),[.pack [.obj 124 [.row 1,.p (.int .i64 n)],.row .upl 81 l]]⟩):Option CT)) l
 |_,_=>none
theorem zlC:zu Tryz.prog 217 (zan alg):=by
 intro args hp r h;unfold zan at h;split at h<;>cases h
 rename_i n l
 revert l;intro(l:List Upl)
 simp only [CT.Good,zh];intro hneed
 refine spH Tryz.func217 (by kernel_rfl) { zcW with keep:=some [0,2]} [] (by kernel_rfl) ?_
 intro I X hI hX
 refine orcL ?_;go_invoke;refine orcS (by kernel_rfl) ?_
 simp only [zi,Nat.reduceAdd];subst hI;simp only [nrmA,nrmB]
 (repeat' (first|refine ja ?_ ?_|intro _))<;>first|omega|exact jb|exact jc ‹False›|skip
def zt5:Know Tryz.prog:=⟨217,zan,zlC⟩
def zt4:Know Tryz.prog:=⟨217,fun I=>zx I (zan I),zf zlC⟩
def ze8 (I:Alg):KU
 |[],[]=>some (.one ⟨I.hid (True),(.ret (.v (.one (.ptr 0 0)))),[.pack [.obj 124 [.row 1,.p (.int .i64 0)],.row .upl 81 (I.hid ([]))]]⟩)
 |_,_=>none
theorem zp2:zu Tryz.prog 42 (ze8 alg):=by
 intro args hp r h;unfold ze8 at h;split at h<;>cases h
 simp only [CT.Good,zh];intro _
 refine spH Tryz.func42 (by kernel_rfl) { zcW with keep:=some [0]} [] (by kernel_rfl) ?_
 intro I X hI hX
 refine orcL ?_;go_invoke;refine orcS (by kernel_rfl) ?_
 simp only [zi,Nat.reduceAdd];trivial
def zjy:Know Tryz.prog:=⟨42,ze8,zp2⟩
def zjx:Know Tryz.prog:=⟨42,fun I=>zx I (ze8 I),zf zp2⟩
def getB (l:List Upl) (id:Int):Bool:=decide (atU l id<l.length)
def getU (l:List Upl) (id:Int):Upl:=if atU l id<l.length then zQ l id else upl0
theorem zv3 (l:List Upl) (n id:Int) (hneed:zL l n):Spc Tryz.prog 28 [.v (.one (.ptr 0 0)),.v (.one (.p (.int .i64 id)))] [.obj 124 [.row 1,.p (.int .i64 n)],.row .upl 81 l] (.ret (.tup [.agg [.p (.int .i64 ((getU l id).id)),.p (.int .i64 ((getU l id).size)),.p (.str ((getU l id).note)),.p (.list .byte ((getU l id).bytes)),.p (.int .i64 ((getU l id).sent))],.one (.p (.bool ((getB l id))))])) [.obj 124 [.row 1,.p (.int .i64 n)],.row .upl 81 l]:=by
 have hs:=hneed;have hf:=WW hs;generalize he:getU l id=re;obtain⟨a,b,c,d,e⟩:=re;generalize hl:getB l id=rl
 refine spH Tryz.func28 (by kernel_rfl) { zcW with flat:=true,bare:=[58],keep:=some [0,1,4,5,6,7,8]} [Yn,Za,zdw,zdv] (by kernel_rfl) ?_
 intro I X hI hX
 refine orcL ?_;go_invoke;refine orcS (by kernel_rfl) ?_
 simp only [zi,Nat.reduceAdd];subst hI;simp only [nrmA,nrmB,nrlB,reduceCtorEq];unfold getU at he;unfold getB at hl;unfold zQ upl0 at he;have hx:atU l id<l.length→_:=fun h=>(hs.each _ (vk h)).bl;unfold zQ upl0 at hx;generalize l.getD (atU l id) ⟨0,0,[],[],0⟩=x at *
 by_cases h:atU l id<l.length
 · rw [if_pos h] at he
   rw [decide_eq_true h] at hl;subst he;subst hl;have hx:=hx h
   (repeat' (first|refine ja ?_ ?_|intro _))<;>first|omega|exact jb|exact jc ‹False›|skip
   all_goals first|exact hf.1|rfl
 · rw [if_neg h] at he
   rw [decide_eq_false h] at hl;cases he;subst hl
   (repeat' (first|refine ja ?_ ?_|intro _))<;>first|omega|exact jb|exact jc ‹False›|skip
   all_goals first|exact hf.1|rfl|assumption
def zaq (I:Alg):KU
 |[.v (.one (.ptr 0 0)),.v (.one (.p (.int .i64 id)))],[.obj 124 [.row 1,.p (.int .i64 n)],.row .upl 81 l]=>(fun(l:List Upl)=>(some (.one ⟨I.hid (zL l n),(.ret (.tup [.agg [.p (.int .i64 (I.hid ((getU l id).id))),.p (.int .i64 (I.hid ((getU l id).size))),.p (.str (I.hid ((getU l id).note))),.p (.list .byte (I.hid ((getU l id).bytes))),.p (.int .i64 (I.hid ((getU l id).sent)))],.one (.p (.bool (I.hid (getB l id))))])),[.obj 124 [.row 1,.p (.int .i64 n)],.row .upl 81 l]⟩):Option CT)) l
 |_,_=>none
theorem zlE:zu Tryz.prog 28 (zaq alg):=by
 intro args hp r h;unfold zaq at h
 split at h
 · cases h;exact fun hn=>zv3 _ _ _ hn
 · cases h
def uM:Know Tryz.prog:=⟨28,zaq,zlE⟩
def uK:Know Tryz.prog:=⟨28,fun I=>zx I (zaq I),zf zlE⟩
theorem zAn (l:List Upl) (n id:Int) (hneed:zL l n):Spc Tryz.prog 28 [.v (.one (.ptr 0 0)),.v (.one (.p (.int .i64 id)))] [.pack [.obj 124 [.row 1,.p (.int .i64 n)],.row .upl 81 l]] (.ret (.tup [.agg [.p (.int .i64 ((getU l id).id)),.p (.int .i64 ((getU l id).size)),.p (.str ((getU l id).note)),.p (.list .byte ((getU l id).bytes)),.p (.int .i64 ((getU l id).sent))],.one (.p (.bool ((getB l id))))])) [.pack [.obj 124 [.row 1,.p (.int .i64 n)],.row .upl 81 l]]:=
 Spc.packed (ex:=[]) (zv3 l n id hneed) rfl (by simp) rfl
def ze9 (I:Alg):KU
 |[.v (.one (.ptr 0 0)),.v (.one (.p (.int .i64 id)))],[.pack [.obj 124 [.row 1,.p (.int .i64 n)],.row .upl 81 l]]=>(fun(l:List Upl)=>(some (.one ⟨I.hid (zL l n),(.ret (.tup [.agg [.p (.int .i64 (I.hid ((getU l id).id))),.p (.int .i64 (I.hid ((getU l id).size))),.p (.str (I.hid ((getU l id).note))),.p (.list .byte (I.hid ((getU l id).bytes))),.p (.int .i64 (I.hid ((getU l id).sent)))],.one (.p (.bool (I.hid (getB l id))))])),[.pack [.obj 124 [.row 1,.p (.int .i64 n)],.row .upl 81 l]]⟩):Option CT)) l
 |_,_=>none
theorem zp6:zu Tryz.prog 28 (ze9 alg):=by
 intro args hp r h;unfold ze9 at h
 split at h
 · cases h;exact fun hn=>zAn _ _ _ hn
 · cases h
def Ze:Know Tryz.prog:=⟨28,ze9,zp6⟩
def Zd:Know Tryz.prog:=⟨28,fun I=>zx I (ze9 I),zf zp6⟩
theorem zxW {l:List Upl} (h:l.Pairwise fun a b=>a.id<b.id) {i:Nat} (hi:i<l.length):getU l (l.getD i ⟨0,0,[],[],0⟩).id=l.getD i ⟨0,0,[],[],0⟩:=by
 have e:l.getD i ⟨0,0,[],[],0⟩=l[i]:=by simp [hi]
 have ha:=zAR h hi;rw [e,getU,ha,if_pos hi,zQ,ha]
 simp [hi]
theorem zp5 (l:List Upl) (n:Int) (hneed:zL l n):Spc Tryz.prog 17 [.v (.one (.ptr 0 0))] [.obj 124 [.row 1,.p (.int .i64 n)],.row .upl 81 l] (.ret (.v (.one (.row 2)))) [.obj 124 [.row 1,.p (.int .i64 n)],.row .upl 81 l,.row .upl 81 l]:=by
 have hs:=hneed;have hf:=WW hs
 refine spH Tryz.func17 (by kernel_rfl) { zcW with flat:=true,bare:=[28],nr:=[3],keep:=some [0,2,3,5,6,11,12,13]} [uM,uK,Ze,Zd] (by kernel_rfl) ?_
 intro I X hI hX
 refine orcL ?_;go_invoke;refine orcS (by kernel_rfl) ?_
 simp only [zi,Nat.reduceAdd]
 refine lpH hI [uM,uK,Ze,Zd] hX [0,3,11,12,13] (fun(g:Nat × List Upl)=>match g with|(i,o)=>i≤l.length∧o=l.take i) (fun(g:Nat × List Upl)=>match g with|(i,o)=>⟨[(0,.v (.one (.ptr 0 0))),(3,.v (.one (.row 2))),(11,.v (.one (.row 1))),(12,.v (.one (.p (.int .i64 ((I.len (α:=Upl) l)))))),(13,.v (.one (.p (.int .i64 i))))],[.obj 124 [.row 1,.p (.int .i64 n)],.row .upl 81 l,.row .upl 81 o],30,none⟩) (fun(g:Nat × List Upl)=>match g with|(i,o)=>l.length - i) (0,[]) (by kernel_rfl) (by kernel_rfl) ?_ ?_
 · exact⟨jM _,rfl⟩
 rintro⟨i,o⟩ ⟨h1,h2⟩ A hA;simp only at hA
 refine orcL ?_;go_invoke;refine orcS (by kernel_rfl) ?_
 simp only [zi,Nat.reduceAdd];subst hI;simp only [nrmA,nrmB,nrlB,reduceCtorEq];have hx:i<l.length→_:=zxW hs.srt
 have hy:i<l.length→l.take (i+1)=l.take i++[l.getD i ⟨0,0,[],[],0⟩]:=fun h=>by rw [jB h];simp [h]
 have hw: ¬ i<l.length→o=l:=fun h=>by rw [h2,jq (by omega)]
 have hol:o.length≤i:=by rw [h2,jv];omega
 refine⟨fun c=> ?_,fun c=>hw (by omega)⟩
 rw [hx (by omega)]
 have hy:=hy (by omega)
 generalize l.getD i ⟨0,0,[],[],0⟩=x at *;simp only [jh,ji]
 (repeat' (first|refine ja ?_ ?_|intro _))<;>first|omega|exact jb|exact jc ‹False›|skip
 all_goals first
  |exact hs
  |exact hA (i+1,_) ⟨by simp only;omega,by simp only;rw [hy,h2]⟩ (by simp only;omega)
def VN (I:Alg):KU
 |[.v (.one (.ptr 0 0))],[.obj 124 [.row 1,.p (.int .i64 n)],.row .upl 81 l]=>(fun(l:List Upl)=>(some (.one ⟨I.hid (zL l n),(.ret (.v (.one (.row 2)))),[.obj 124 [.row 1,.p (.int .i64 n)],.row .upl 81 l,.row .upl 81 l]⟩):Option CT)) l
 |_,_=>none
theorem zgN:zu Tryz.prog 17 (VN alg):=by
 intro args hp r h;unfold VN at h
 split at h
 · cases h;exact fun hn=>zp5 _ _ hn
 · cases h
def zp4:Know Tryz.prog:=⟨17,VN,zgN⟩
def zp3:Know Tryz.prog:=⟨17,fun I=>zx I (VN I),zf zgN⟩
theorem zyT (l:List Upl) (n:Int) (hneed:zL l n):Spc Tryz.prog 17 [.v (.one (.ptr 0 0))] [.pack [.obj 124 [.row 1,.p (.int .i64 n)],.row .upl 81 l]] (.ret (.v (.one (.row 1)))) [.pack [.obj 124 [.row 1,.p (.int .i64 n)],.row .upl 81 l],.row .upl 81 l]:=
 Spc.packed (os':=[_,_]) (ex:=[_]) (zp5 l n hneed) rfl (by simp) rfl
def zao (I:Alg):KU
 |[.v (.one (.ptr 0 0))],[.pack [.obj 124 [.row 1,.p (.int .i64 n)],.row .upl 81 l]]=>(fun(l:List Upl)=>(some (.one ⟨I.hid (zL l n),(.ret (.v (.one (.row 1)))),[.pack [.obj 124 [.row 1,.p (.int .i64 n)],.row .upl 81 l],.row .upl 81 l]⟩):Option CT)) l
 |_,_=>none
theorem zlD:zu Tryz.prog 17 (zao alg):=by
 intro args hp r h;unfold zao at h
 split at h
 · cases h;exact fun hn=>zyT _ _ hn
 · cases h
def zt7:Know Tryz.prog:=⟨17,zao,zlD⟩
def zt6:Know Tryz.prog:=⟨17,fun I=>zx I (zao I),zf zlD⟩
def zas (I:Alg):KU
 |[.v (.one (.ptr 0 0))],[.pack [.obj 124 [.row 1,.p (.int .i64 n)],.row .upl 81 l]]=>(fun(l:List Upl)=>(some (.one ⟨I.hid (zL l n),(.ret (.v (.one (.ptr 1 0)))),[.pack [.obj 124 [.row 1,.p (.int .i64 n)],.row .upl 81 l],.pack [.obj 124 [.row 1,.p (.int .i64 n)],.row .upl 81 l]]⟩):Option CT)) l
 |_,_=>none
theorem zlG:zu Tryz.prog 148 (zas alg):=by
 intro args hp r h;unfold zas at h;split at h<;>cases h
 rename_i n l
 revert l;intro(l:List Upl)
 simp only [CT.Good,zh];intro hneed
 refine spH Tryz.func148 (by kernel_rfl) { zcW with keep:=some [0,2]} [zp4,zp3,zt7,zt6] (by kernel_rfl) ?_
 intro I X hI hX
 refine orcL ?_;go_invoke;refine orcS (by kernel_rfl) ?_
 simp only [zi,Nat.reduceAdd];subst hI;simp only [nrmA,nrmB,nrlB,reduceCtorEq,HO.pack.injEq,HO.obj.injEq];exact⟨hneed,hneed⟩
def zue:Know Tryz.prog:=⟨148,zas,zlG⟩
def zua:Know Tryz.prog:=⟨148,fun I=>zx I (zas I),zf zlG⟩
def zac (I:Alg):KU
 |[.v (.agg [.p (.int .i64 a),.p (.int .i64 b),.p (.str m),.p (.list .byte y),.p (.int .i64 t)]),.v (.one (.ptr 0 0))],[.pack [.obj 3 [.p (.int .i64 d)]]]=>(fun(m y:Str)=>(some (.one ⟨I.hid (True),(.ret (.v (.one (.p (.bool (I.hid (a == d))))))),[.pack [.obj 3 [.p (.int .i64 d)]]]⟩):Option CT)) m y
 |_,_=>none
theorem zlm:zu Tryz.prog 204 (zac alg):=by
 intro args hp r h;unfold zac at h;split at h<;>cases h
 rename_i a b m y t d;simp only [CT.Good,zh];intro _
 refine spH Tryz.func204 (by kernel_rfl) { keep:=some [0,1,2,3]} [] (by kernel_rfl) ?_
 intro I X hI hX
 refine orcL ?_;go_invoke;refine orcS (by kernel_rfl) ?_
 simp only [zi,Nat.reduceAdd];subst hI;simp only [nrmA,nrmB,nrlB,reduceCtorEq,HO.pack.injEq,HO.obj.injEq]
def VH:Know Tryz.prog:=⟨204,zac,zlm⟩
def ztP:Know Tryz.prog:=⟨204,fun I=>zx I (zac I),zf zlm⟩
def zab (I:Alg):KU
 |[.v (.one (.p (.list .upl l))),.v (.one (.fn 204 [.ptr 0 0]))],[.pack [.obj 3 [.p (.int .i64 d)]]]=>(fun(l:List Upl)=>(some (.one ⟨I.hid (l.length≤1000000),(.ret (.v (.one (.p (.int .i64 (I.hid (ixU l d))))))),[.pack [.obj 3 [.p (.int .i64 d)]]]⟩):Option CT)) l
 |_,_=>none
theorem zll:zu Tryz.prog 100 (zab alg):=by
 intro args hp r h;unfold zab at h;split at h<;>cases h
 rename_i l d
 revert l;intro(l:List Upl)
 simp only [CT.Good,zh];intro hneed
 refine spH Tryz.func100 (by kernel_rfl) { keep:=some [0,1,4,5,7,8]} [VH,TU,TS] (by kernel_rfl) ?_
 intro I X hI hX
 refine orcL ?_;go_invoke;refine orcS (by kernel_rfl) ?_
 simp only [zi,Nat.reduceAdd]
 refine lpH hI [VH,TU,TS] hX [0,1,7,8] (fun(i:Nat)=>i≤l.length∧i≤atU l d) (fun(i:Nat)=>⟨[(0,.v (.one (.p (.list .upl l)))),(1,.v (.one (.fn 204 [.ptr 0 0]))),(7,.v (.one (.p (.int .i64 ((I.len (α:=Upl) l)))))),(8,.v (.one (.p (.int .i64 i))))],[.pack [.obj 3 [.p (.int .i64 d)]]],19,none⟩) (fun(i:Nat)=>l.length - i) 0 (by kernel_rfl) (by kernel_rfl) ?_ ?_
 · exact⟨jM _,jM _⟩
 rintro i ⟨h1,h2⟩ A hA
 refine orcL ?_;go_invoke;refine orcS (by kernel_rfl) ?_
 simp only [zi,Nat.reduceAdd];subst hI;simp only [nrmA,nrmB];have hx:=fun h=>znN (l:=l) (id:=d) (i:=i) h h2;have hle:=zth l d;have e0:(⟨0,0,[],[],0⟩:Upl)=upl0:=rfl;simp only [e0];unfold ixU
 (repeat' (first|refine ja ?_ ?_|intro _))<;>first|omega|exact jb|exact jc ‹False›|skip
 all_goals first
  |(have h3:=hx (by omega);rw [if_pos (by assumption)] at h3;rw [if_pos (by omega),h3])
  |(have h3:=hx (by omega);rw [if_neg (by assumption)] at h3;exact hA (i+1) ⟨by omega,h3⟩ (by omega))
  |(rw [if_neg (by omega)])
def zlk:Know Tryz.prog:=⟨100,zab,zll⟩
def zlj:Know Tryz.prog:=⟨100,fun I=>zx I (zab I),zf zll⟩
def notU (d:Int) (u:Upl):Bool:= !(u.id == d)
def zad (I:Alg):KU
 |[.v (.one (.row 0)),.v (.one (.fn 204 [.ptr 1 0]))],[.row .upl 81 l,.pack [.obj 3 [.p (.int .i64 d)]]]=>(fun(l:List Upl)=>(some (.one ⟨I.hid (l.length≤1000000),(.ret (.v (.one (.row 2)))),[.gone,.pack [.obj 3 [.p (.int .i64 d)]],.row .upl 81 (I.hid (l.filter (notU d)))]⟩):Option CT)) l
 |_,_=>none
theorem zln:zu Tryz.prog 203 (zad alg):=by
 intro args hp r h;unfold zad at h;split at h<;>cases h
 rename_i l d
 revert l;intro(l:List Upl)
 simp only [CT.Good,zh];intro hneed
 refine spH Tryz.func203 (by kernel_rfl) { mv:=[0],cut:=[4],keep:=some [0,1,4,5,6,7]} [VH,TU,TS,zlk,zlj] (by kernel_rfl) ?_
 intro I X hI hX
 refine orcL ?_;go_invoke;refine orcS (by kernel_rfl) ?_
 simp only [zi,Nat.reduceAdd]
 have hfd: ∀ i,i≤atU l d→(l.take i).filter (notU d)=l.take i:=fun i hi=>List.filter_eq_self.2 fun u hu=>by
  obtain⟨j,hj⟩:=List.getElem?_of_mem hu;rw [jD] at hj
  split at hj
  · rename_i hji
    obtain⟨hjl,he⟩:=jl.1 hj
    have:=List.not_of_lt_findIdx (p:=fun u:Upl=>u.id == d) (xs:=l) (i:=j) (by unfold atU at hi;omega)
    rw [← he]
    simpa [notU] using this
  · cases hj
 by_cases hk:atU l d<l.length
 · have hix:=zrD hk
   have e1:I.hid (ixU l d)=((atU l d:Nat):Int):=by subst hI;exact hix
   have e2:I.add ((atU l d:Nat):Int) 1=((atU l d+1:Nat):Int):=by subst hI;rfl
   rw [e1,e2]
   have hst:(l.take (atU l d+1)).filter (notU d)=l.take (atU l d):=by
    rw [jB hk,List.filter_append,hfd _ (jL _)];have:=uJ hk;rw [wJ hk] at this
    simp [notU,this]
   have hu0:=uJ hk;generalize atU l d=k at *
   refine⟨by subst hI;exact hneed,fun h=> ?_,fun _=>⟨by subst hI;rw [Xl,SI,SK];omega,?_⟩⟩
   · subst hI
     simp only [nrmA,nrmB] at h;omega
   refine lpH hI [VH,TU,TS,zlk,zlj] hX [0,1,5,6] (fun(g:Nat × Nat × List Upl)=>match g with|(i,j,c)=>i<j∧j≤l.length∧c.length=l.length∧c.take i=(l.take j).filter (notU d)∧c.drop j=l.drop j) (fun(g:Nat × Nat × List Upl)=>match g with|(i,j,c)=>⟨[(0,.v (.one (.row 2))),(1,.v (.one (.fn 204 [.ptr 1 0]))),(5,.v (.one (.p (.int .i64 i)))),(6,.v (.one (.p (.int .i64 j))))],[.gone,.pack [.obj 3 [.p (.int .i64 d)]],.row .upl 81 c],42,none⟩) (fun(g:Nat × Nat × List Upl)=>match g with|(i,j,c)=>l.length - j) (k,k+1,l) (by kernel_rfl) (by kernel_rfl) ?_ ?_
   · exact⟨by omega,by omega,rfl,hst.symm,rfl⟩
   rintro⟨i,j,c⟩ ⟨h1,h2,h3,h4,h5⟩ A hA;simp only at hA h1 h2 h3 h4 h5
   refine orcL ?_;go_invoke;refine orcS (by kernel_rfl) ?_
   simp only [zi,Nat.reduceAdd];subst hI;simp only [nrmA,nrmB,nrlB,reduceCtorEq]
   have hx:j<l.length→c.getD j ⟨0,0,[],[],0⟩=l.getD j ⟨0,0,[],[],0⟩:=fun h=>by
    have e:=congrArg (fun m:List Upl=>m[0]?) h5;simp only [jG,Nat.add_zero] at e;simp only [jH,e]
   have hf:j<l.length→(l.take (j+1)).filter (notU d)=(l.take j).filter (notU d)++(if notU d (l.getD j ⟨0,0,[],[],0⟩) then [l.getD j ⟨0,0,[],[],0⟩] else []):=fun h=>by
    rw [jB h,List.filter_append]
    simp [h,List.filter_cons]
   have hdr: ∀ c':List Upl,c'.drop j=l.drop j→c'.drop (j+1)=l.drop (j+1):=fun c' h=>by
    have:=congrArg (List.drop 1) h
    simpa [List.drop_drop] using this
   have hend: ¬ j<l.length→c.take i=l.filter (notU d):=fun h=>by rw [h4,jq (by omega)]
   rw [show(c.length:Int)=(l.length:Int) by rw [h3]]
   have hset: ∀ u:Upl,i<c.length→(c.set i u).take (i+1)=c.take i++[u]:=fun u h=>by
    rw [jB (by rw [List.length_set];exact h),List.getElem_set_self,List.take_set_of_le (jL _)]
   have hsd: ∀ u:Upl,(c.set i u).drop j=l.drop j:=fun u=>by rw [List.drop_set_of_lt h1,h5]
   refine⟨fun c1=> ?_,fun c1=> ?_⟩
   · have hj:j<l.length:=by omega
     rw [hx hj];have hf:=hf hj;generalize l.getD j ⟨0,0,[],[],0⟩=x at *
     (repeat' (first|refine ja ?_ ?_|intro _))<;>first|omega|exact jb|exact jc ‹False›|skip
     · rename_i hne
       refine hA (i+1,j+1,c.set i x) ⟨by simp only;omega,by simp only;omega,by simp only [List.length_set];exact h3,?_,hdr _ (hsd x)⟩ (by simp only;omega)
       simp only
       rw [hset x (by omega),hf,if_pos (by simp [notU,hne]),h4]
     · rename_i heq
       refine hA (i,j+1,c) ⟨by simp only;omega,by simp only;omega,h3,?_,hdr _ h5⟩ (by simp only;omega)
       simp only
       rw [hf,if_neg (by simp [notU,heq]),List.append_nil,h4]
   · have he:=hend (by omega)
     have hl:(c.take i).length=i:=by rw [jv];omega
     (repeat' (first|refine ja ?_ ?_|intro _))<;>first|omega|exact jb|exact jc ‹False›|skip
     all_goals first
      |(simp only [jk,jv,List.length_replicate];omega)
      |(rw [List.take_append_of_le_length (by omega),List.take_take,Nat.min_self,he])
 · have hix:=zrE hk
   have e1:I.hid (ixU l d)=(-1:Int):=by subst hI;exact hix
   rw [e1]
   have hall:l.filter (notU d)=l:=by
    have:=hfd l.length (by have:=zth l d;omega)
    rwa [List.take_length] at this
   rw [hall]
   refine⟨by subst hI;exact hneed,fun _=>⟨trivial,rfl⟩,fun h=> ?_⟩
   subst hI
   simp [alg] at h
def ztR:Know Tryz.prog:=⟨203,zad,zln⟩
def ztQ:Know Tryz.prog:=⟨203,fun I=>zx I (zad I),zf zln⟩
def zar (I:Alg):KU
 |[.v (.one (.ptr 0 0)),.v (.one (.p (.int .i64 id)))],[.pack [.obj 124 [.row 1,.p (.int .i64 n)],.row .upl 81 l]]=>(fun(l:List Upl)=>(some (.one ⟨I.hid (zL l n),(.ret (.v (.one (.p (.int .i64 (I.hid (droC l id))))))),[.pack [.obj 124 [.row 1,.p (.int .i64 n)],.row .upl 81 (I.hid (droL l id))]]⟩):Option CT)) l
 |_,_=>none
theorem zlF:zu Tryz.prog 155 (zar alg):=by
 intro args hp r h;unfold zar at h;split at h<;>cases h
 rename_i id n l
 revert l;intro(l:List Upl)
 simp only [CT.Good,zh];intro hneed;have hs:=hneed;have hf:=WW hs;have hfl:l.filter (notU id)=droL l id:=zsk hs.srt id;generalize he:droC l id=re;generalize hl:droL l id=rl at hfl
 refine spH Tryz.func155 (by kernel_rfl) { zcW with bare:=[58],keep:=some [0,1,3,4,6]} [zdw,zdv,VH,ztP,ztR,ztQ] (by kernel_rfl) ?_
 intro I X hI hX
 refine orcL ?_;go_invoke;refine orcS (by kernel_rfl) ?_
 simp only [zi,Nat.reduceAdd];subst hI;simp only [nrmA,nrmB,nrlB,reduceCtorEq,HO.pack.injEq,HO.obj.injEq];unfold droC at he
 (repeat' (first|refine ja ?_ ?_|intro _))<;>first|omega|exact jb|exact jc ‹False›|skip
 all_goals first
  |exact hf.1
  |exact hfl
  |((repeat(first|rewrite [if_pos (by first|omega|assumption|(simp only [*,or_self,or_true,true_or,or_false,false_or,jf,jg,jd,je,and_self,and_true,true_and];done)|(simp only [*];omega)|(simp [*];done)|(simp [*];omega))] at he|rewrite [if_neg (by first|omega|assumption|(simp only [*,or_self,or_true,true_or,or_false,false_or,jf,jg,jd,je,and_self,and_true,true_and];done)|(simp only [*];omega)|(simp [*];done)|(simp [*];omega))] at he));subst he;rfl)
  |(rw [← hl];unfold droL;rw [List.eraseIdx_of_length_le (by omega)])
def zt9:Know Tryz.prog:=⟨155,zar,zlF⟩
def zt8:Know Tryz.prog:=⟨155,fun I=>zx I (zar I),zf zlF⟩
end Go.Proofs.YtkjepecoodjbmaaGreatDoor
namespace Go.Jrn
open Go Go.Ab
def sevF:Nat→Nat→Str
 |0,u=>[UInt8.ofNat u]
 |f+1,u=>if u<128 then [UInt8.ofNat u] else UInt8.ofNat (u % 128+128)::sevF f (u / 128)
def sev (u:Nat):Str:=sevF 9 u
theorem zgK: ∀ (f u:Nat),u<128 ^ (f+1)→∀ g,f≤g→sevF g u=sevF f u
 | 0,u,h,g,_=>by
   cases g with
   |zero=>rfl
   |succ g=>simp only [sevF];rw [if_pos (by simpa using h)]
 | f +1,u,h,g,hg=>by
   cases g with
   |zero=>omega
   | succ g=>
     rw [sevF,sevF]
     split
     · rfl
     · rw [zgK f (u / 128) (by rw [Nat.div_lt_iff_lt_mul (by omega)];rw [Nat.pow_succ] at h;exact h) g (by omega)]
theorem YO {u:Nat} (h:u<128):sev u=[UInt8.ofNat u]:=by rw [sev,sevF,if_pos h]
theorem ze5 {u:Nat} (h:128≤u) (hu:u<128 ^ 9):sev u=UInt8.ofNat (u % 128+128)::sev (u / 128):=by
 rw [sev,sevF,if_neg (by omega),sev,zgK 8 (u / 128) (Nat.lt_of_le_of_lt (Nat.div_le_self _ _) hu) 9 (by omega)]
theorem xA (u:Nat):1≤(sev u).length∧(sev u).length≤10:=by
 have h: ∀ f u,1≤(sevF f u).length∧(sevF f u).length≤f+1:=by
  intro f
  induction f with
  |zero=>intro u;exact⟨jL _,jL _⟩
  | succ f ih=>
    intro u;rw [sevF]
    split
    · simp
    · have:=ih (u / 128);simp;omega
 exact h 9 u
def numF (i u:Nat):Str→Int × Str × Bool
 |[]=>(0,[],false)
 | c::r=>if 5≤i then(0,[],false) else
   if c.toNat<128 then((u+c.toNat * 128 ^ i:Nat) - 1,r,decide (i=0∨0<c.toNat)) else numF (i+1) (u+c.toNat % 128 * 128 ^ i) r
def num (b:Str):Int × Str × Bool:=numF 0 0 b
def numK (i:Nat):Str→Nat
 |[]=>i
 |c::r=>if 5≤i then i else if c.toNat<128 then i+1 else numK (i+1) r
theorem zhi (b:Str): ∀ (i u:Nat) (l:Str),b.drop i=l→(numF i u l).2.2=true→(numF i u l).2.1=b.drop (numK i l)∧i<numK i l
 |i,u,[],h,ht=>by simp [numF] at ht
 | i, u,c::r,h,ht=>by
   rw [numF] at ht ⊢;rw [numK]
   split at ht
   · cases ht
   · rename_i h5
     rw [if_neg h5,if_neg h5]
     have hr:b.drop (i+1)=r:=by rw [← List.drop_drop,h];rfl
     split
     · rename_i hc;rw [if_pos hc] at ht;exact⟨hr.symm,by omega⟩
     · rename_i hc
       rw [if_neg hc] at ht;have:=zhi b (i+1) _ r hr ht
       exact⟨this.1,by omega⟩
theorem zrg {b:Str} {i:Nat} (u:Nat) (h:i<b.length) (h5:i<5):numF i u (b.drop i)=
  if(b.getD i 0).toNat<128 then(((u+(b.getD i 0).toNat * 128 ^ i:Nat):Int) - 1,b.drop (i+1),decide (i=0∨0<(b.getD i 0).toNat)) else numF (i+1) (u+(b.getD i 0).toNat % 128 * 128 ^ i) (b.drop (i+1)):=by
 rw [jE h,numF,if_neg (by omega)]
 have:b.getD i 0=b[i]:=by simp [h]
 rw [this]
theorem zuO {b:Str} {i:Nat} (u:Nat) (h:b.length≤i∨5≤i):numF i u (b.drop i)=(0,[],false):=by
 cases hd:b.drop i with
 |nil=>rfl
 | cons c r=>
   have:i<b.length:=by
    rcases Nat.lt_or_ge i b.length with h1|h1
    · exact h1
    · rw [jF h1] at hd;cases hd
   rw [numF,if_pos (by omega)]
def few (n:Int):Bool:=decide (-1≤n)&&decide (n<1073741824)
def mayM (e:Ent):Bool:=decide (1≤e.kind)&&decide (e.kind≤6)&&few e.id&&few e.n&&decide (e.text.length<1048576)
def enc3 (e:Ent):Str:=sev (e.kind+1).toNat++sev (e.id+1).toNat++sev (e.n+1).toNat++e.text
def encB (e:Ent):Str:=sev ((enc3 e).length+1)++enc3 e
def encM (e:Ent):Str:=if mayM e then encB e else []
def encC (e:Ent):Int:=if mayM e then 0 else 1
def three (b:Str):Option (Int × Int × Int × Str):=
 match num b with
 | (k,r,true)=>(match num r with
   | (i,r,true)=>(match num r with
     |(n,r,true)=>some (k,i,n,r)
     |_=>none)
   |_=>none)
 |_=>none
def thr (j:Nat) (a b c:Int) (s:Str):Option (Int × Int × Int × Str):=
 match j with
 |0=>three s
 | 1 =>(match num s with
   | (i,r,true)=>(match num r with
     |(n,r,true)=>some (a,i,n,r)
     |_=>none)
   |_=>none)
 | 2=>(match num s with
   |(n,r,true)=>some (a,b,n,r)
   |_=>none)
 |_=>some (a,b,c,s)
def oneX (b:Str):Ent × Str × Bool:=
 match num b with
 | (n,r,true)=>if n<0∨(r.length:Int)<n then(⟨0,0,0,[]⟩,[],false) else
   match three (r.take n.toNat) with
   |some (k,i,m,t)=>(⟨k,i,m,t⟩,r.drop n.toNat,mayM ⟨k,i,m,t⟩)
   |none=>(⟨0,0,0,[]⟩,[],false)
 |_=>(⟨0,0,0,[]⟩,[],false)
def oneM (b:Str):Option (Ent × Str):=if(oneX b).2.2 then some ((oneX b).1,(oneX b).2.1) else none
def decF:Nat→Str→List Ent × Str
 |0,b=>([],b)
 | f+1,b=>match oneM b with
   |some (e,r)=>(e::(decF f r).1,(decF f r).2)
   |none=>([],b)
def dec (b:Str):List Ent × Str:=decF b.length b
theorem zce {b:Str} (h:(num b).2.2=true):(num b).2.1.length<b.length:=by
 obtain⟨h1,h2⟩:=zhi b 0 0 b rfl h;rw [num,h1,jC]
 cases b with
 |nil=>simp [num,numF] at h
 |cons c r=>simp;omega
theorem zrh: ∀ (l:Str) (i u:Nat),(numF i u l).2.1.length≤l.length
 |[],i,u=>jL _
 | c ::r,i,u=>by
   rw [numF]
   split
   · simp
   · split
     · simp
     · have:=zrh r (i+1) (u+c.toNat % 128 * 128 ^ i);simp;omega
theorem zcf (b:Str):(num b).2.1.length≤b.length:=zrh b 0 0
theorem zq7 {b:Str} (h:(oneX b).2.2=true):(oneX b).2.1.length<b.length:=by
 unfold oneX at h ⊢
 split at h
 · rename_i n r0 hn
   have:=zce (b:=b) (by rw [hn])
   rw [hn] at this;simp only at this
   split at h
   · cases h
   · rename_i hc
     rw [if_neg hc]
     split at h
     · rename_i ht;simp only [ht];simp;omega
     · cases h
 · cases h
theorem zfy {b:Str} {e:Ent} {r:Str} (h:oneM b=some (e,r)):r.length<b.length:=by
 unfold oneM at h
 split at h
 · rename_i hx
   simp only [jw,Prod.mk.injEq] at h;rw [← h.2];exact zq7 hx
 · cases h
theorem zq9 {s:Str} (h:(num s).2.2=false):oneM s=none:=by
 rw [oneM,oneX,show num s=((num s).1,(num s).2.1,false) by rw [← h]];rfl
theorem zuM {s:Str} (h:(num s).1<0∨((num s).2.1.length:Int)<(num s).1):oneM s=none:=by
 cases hk:(num s).2.2 with
 |false=>exact zq9 hk
 | true=>
   have hx:oneX s=(⟨0,0,0,[]⟩,[],false):=by
    unfold oneX
    rw [show num s=((num s).1,(num s).2.1,true) by rw [← hk]]
    simp only;rw [if_pos h]
   rw [oneM,hx];rfl
theorem ziN: ∀ (f:Nat) (b:Str),b.length≤f→∀ g,b.length≤g→decF f b=decF g b
 | 0,b,h,g,hg=>by
   have:b=[]:=List.eq_nil_of_length_eq_zero (by omega)
   subst this
   cases g with
   |zero=>rfl
   |succ g=>rfl
 | f + 1,b,h,g,hg=>by
   cases g with
   | zero=>
     have:b=[]:=List.eq_nil_of_length_eq_zero (by omega)
     subst this;rfl
   | succ g=>
     rw [decF,decF]
     cases ho:oneM b with
     |none=>rfl
     | some p=>
       obtain⟨e,r⟩:=p;have:=zfy ho;simp only
       rw [ziN f r (by omega) g (by omega)]
theorem zfZ {b:Str} {e:Ent} {r:Str} (h:oneM b=some (e,r)):dec b=(e::(dec r).1,(dec r).2):=by
 have hl:=zfy h
 obtain⟨n,hn⟩: ∃ n,b.length=n+1:=⟨b.length - 1,by omega⟩
 unfold dec;rw [hn,decF,h];simp only
 rw [ziN n r (by omega) r.length (jL _)]
theorem zf0 {b:Str} (h:oneM b=none):dec b=([],b):=by
 unfold dec
 cases b with
 |nil=>rfl
 |cons c r=>rw [jh,decF,h]
theorem zns: ∀ (f:Nat) (b:Str),(decF f b).1.length+(decF f b).2.length≤b.length
 |0,b=>by simp [decF]
 | f +1,b=>by
   rw [decF]
   cases ho:oneM b with
   |none=>simp
   | some p=>
     obtain⟨e,r⟩:=p;have:=zfy ho;have:=zns f r;simp only [jh];omega
theorem zsK (b:Str):(dec b).1.length+(dec b).2.length≤b.length:=zns _ b
end Go.Jrn
namespace Go.Proofs.YtkjepecoodjbmaaGreatDoor
open Go Go.Sep Go.Ab Go.Jrn
set_option maxRecDepth 100000
theorem zAC: ∀ u:Nat,u<256→IntKind.u8.wrap ((BitVec.ofInt IntKind.u8.bits (u:Int)|||BitVec.ofInt IntKind.u8.bits 128).toNat:Int)=((u % 128+128:Nat):Int):=by decide+kernel
theorem zAd: ∀ u:Nat,u<256→IntKind.u8.wrap ((BitVec.ofInt IntKind.u8.bits (u:Int)&&& BitVec.ofInt IntKind.u8.bits 127).toNat:Int)=((u % 128:Nat):Int):=by decide+kernel
theorem wrap_u8 (u:Nat):IntKind.u8.wrap (u:Int)=((u % 256:Nat):Int):=by
 unfold IntKind.wrap
 simp only [show IntKind.u8.signed=false by decide,show IntKind.u8.bits=8 by decide,Bool.false_and,jd,if_false]
 show(u:Int) % 256=_
 omega
theorem wrap_i64 (u:Int) (h: -9223372036854775808≤u∧u≤9223372036854775807):IntKind.i64.wrap u=u:=zbl (k:=.i64) (by rw [Xl,SI,SK];exact h)
theorem wrap_u64 (u:Int) (h:0≤u∧u≤9223372036854775807):IntKind.u64.wrap u=u:=zbl (k:=.u64) (by
 rw [Xl,show IntKind.u64.min=0 by decide,show IntKind.u64.max=18446744073709551615 by decide];omega)
theorem zze (u x i:Nat) (hu:u<2 ^ (7 * i)) (hx:x<128) (hi:i≤4):
  IntKind.i64.wrap ((BitVec.ofInt IntKind.i64.bits (u:Int)|||BitVec.ofInt IntKind.i64.bits ((x * 2 ^ (7 * i):Nat):Int)).toNat:Int)=((u+x * 2 ^ (7 * i):Nat):Int):=by
 have h2:2 ^ (7 * i)≤2 ^ 28:=Nat.pow_le_pow_right (by omega) (by omega)
 have h3:x * 2 ^ (7 * i)≤127 * 2 ^ 28:=Nat.mul_le_mul (by omega) h2
 have e:(BitVec.ofInt IntKind.i64.bits (u:Int)|||BitVec.ofInt IntKind.i64.bits ((x * 2 ^ (7 * i):Nat):Int)).toNat=u+x * 2 ^ (7 * i):=by
  rw [BitVec.toNat_or,BitVec.ofInt_natCast,BitVec.ofInt_natCast,BitVec.toNat_ofNat,BitVec.toNat_ofNat,show IntKind.i64.bits=64 by decide,
   Nat.mod_eq_of_lt (show u<2 ^ 64 by omega),Nat.mod_eq_of_lt (show x * 2 ^ (7 * i)<2 ^ 64 by omega),Nat.or_comm,← Nat.shiftLeft_eq,← Nat.shiftLeft_add_eq_or_of_lt hu,Nat.add_comm]
 rw [e,wrap_i64];omega
theorem shr7 (u:Nat):(u:Int).fdiv (2 ^ min (Int.toNat 7) 64)=((u / 128:Nat):Int):=by
 show(u:Int).fdiv 128=_
 rw [Int.fdiv_eq_ediv_of_nonneg _ (by decide)]
 omega
def zl3 (I:Alg):KU
 |[.v (.one (.row 0)),.v (.one (.p (.int .i64 n)))],[.row .byte 5 l]=>(fun(l:Str)=>(some (.one ⟨I.hid (-1≤n∧n<34359738368∧l.length≤50000000),(.ret (.v (.one (.row 1)))),[.gone,.row .byte 5 (I.hid (l++sev (n+1).toNat))]⟩):Option CT)) l
 |_,_=>none
theorem zwa:zu Tryz.prog 198 (zl3 alg):=by
 intro args hp r h;unfold zl3 at h;split at h<;>cases h
 rename_i n l;simp only [CT.Good,zh];intro hneed
 refine spH Tryz.func198 (by kernel_rfl) { mv:=[0],keep:=some [0,1,4,5]} [] (by kernel_rfl) ?_
 intro I X hI hX
 refine orcL ?_;go_invoke;refine orcS (by kernel_rfl) ?_
 simp only [zi,Nat.reduceAdd]
 refine⟨(by rw [hI];simp only [nrmA,nrmB];omega),?_⟩
 refine lpH hI [] hX [0,5] (fun(g:Str × Int)=>match g with|(m,u)=>0≤u∧u<68719476736∧m++sev u.toNat=l++sev (n+1).toNat) (fun(g:Str × Int)=>match g with|(m,u)=>⟨[(0,.v (.one (.row 1))),(5,.v (.one (.p (.int .u64 u))))],[.gone,.row .byte 5 m],24,none⟩) (fun(g:Str × Int)=>match g with|(m,u)=>u.toNat) (l,I.wrap .u64 (I.add n 1)) (by kernel_rfl) (by kernel_rfl) ?_ ?_
 · subst hI
   simp only;simp only [nrmA,nrmB]
   rw [wrap_u64 _ (by omega)]
   exact⟨by omega,by omega,rfl⟩
 rintro⟨m,u⟩ ⟨h0,h1,h2⟩ A hA;obtain⟨u,rfl⟩:=Int.eq_ofNat_of_zero_le h0;simp only [jJ] at h2;simp only at hA;generalize hu':(u:Int)=u' at *
 refine orcL ?_;go_invoke;refine orcS (by kernel_rfl) ?_
 simp only [zi,Nat.reduceAdd];subst hI hu';simp only [nrmA,nrmB];have hml:=congrArg List.length h2;have hs1:=xA u;have hs2:=xA (n+1).toNat;simp only [jk] at hml
 have hu8:u % 256 % 128=u % 128:=by omega
 rw [wrap_u8 u,zAC _ (by omega),shr7,hu8,jJ,jJ]
 have h64:((IntKind.u64.bits:Nat):Int)=64:=by decide
 simp only [jh,ji,h64]
 (repeat' (first|refine ja ?_ ?_|intro _))<;>first|omega|exact jb|exact jc ‹False›|skip
 · have hb:=ze5 (u:=u) (by omega) (by omega)
   refine hA (m++[UInt8.ofNat (u % 128+128)],(u / 128:Nat)) ⟨by omega,by omega,?_⟩ (by simp only;omega)
   rw [jJ,← h2,hb,jo];rfl
 · rw [← h2,YO (by omega),show u % 256=u by omega]
def zv9:Know Tryz.prog:=⟨198,zl3,zwa⟩
def zv8:Know Tryz.prog:=⟨198,fun I=>zx I (zl3 I),zf zwa⟩
def zm8 (I:Alg):KU
 |[.v (.one (.p (.int .i64 n)))],[]=>some (.one ⟨I.hid (True),(.ret (.v (.one (.p (.bool (I.hid (few n))))))),[]⟩)
 |_,_=>none
theorem zwE:zu Tryz.prog 238 (zm8 alg):=by
 intro args hp r h;unfold zm8 at h;split at h<;>cases h
 rename_i n;simp only [CT.Good,zh];intro _
 refine spH Tryz.func238 (by kernel_rfl) { keep:=some [0,2]} [] (by kernel_rfl) ?_
 intro I X hI hX
 refine orcL ?_;go_invoke;refine orcS (by kernel_rfl) ?_
 simp only [zi,Nat.reduceAdd];subst hI;simp only [nrmA,nrmB];unfold few
 (repeat' (first|refine ja ?_ ?_|intro _))<;>first|omega|exact jb|exact jc ‹False›|skip
 · simp [*]
 · simp [*]
def zzN:Know Tryz.prog:=⟨238,zm8,zwE⟩
def zzM:Know Tryz.prog:=⟨238,fun I=>zx I (zm8 I),zf zwE⟩
def zmy (I:Alg):KU
 |[.v (.agg [.p (.int .i64 k),.p (.int .i64 i),.p (.int .i64 n),.p (.list .byte t)])],[]=>(fun(t:Str)=>(some (.one ⟨I.hid (True),(.ret (.v (.one (.p (.bool (I.hid (mayM ⟨k,i,n,t⟩))))))),[]⟩):Option CT)) t
 |_,_=>none
theorem zwp:zu Tryz.prog 197 (zmy alg):=by
 intro args hp r h;unfold zmy at h;split at h<;>cases h
 rename_i k i n t;simp only [CT.Good,zh];intro _
 refine spH Tryz.func197 (by kernel_rfl) { keep:=some [0,1,2,3]} [zzN,zzM] (by kernel_rfl) ?_
 intro I X hI hX
 refine orcL ?_;go_invoke;refine orcS (by kernel_rfl) ?_
 simp only [zi,Nat.reduceAdd];subst hI;simp only [nrmA,nrmB];unfold mayM
 (repeat' (first|refine ja ?_ ?_|intro _))<;>first|omega|exact jb|exact jc ‹False›|skip
 all_goals simp [*]<;>omega
def zmx:Know Tryz.prog:=⟨197,zmy,zwp⟩
def zmw:Know Tryz.prog:=⟨197,fun I=>zx I (zmy I),zf zwp⟩
def zmP (I:Alg):KU
 |[.v (.one (.p (.list .byte b)))],[]=>(fun(b:Str)=>(some (.one ⟨I.hid (True),(.ret (.tup [.one (.p (.int .i64 (I.hid ((num b).1)))),.one (.p (.list .byte (I.hid ((num b).2.1)))),.one (.p (.bool (I.hid ((num b).2.2))))])),[]⟩):Option CT)) b
 |_,_=>none
theorem zwA:zu Tryz.prog 200 (zmP alg):=by
 intro args hp r h;unfold zmP at h;split at h<;>cases h
 rename_i b;simp only [CT.Good,zh];intro _
 refine spH Tryz.func200 (by kernel_rfl) { rl:=[1],keep:=some [0,2,3,4,5,6,9,10]} [] (by kernel_rfl) ?_
 intro I X hI hX
 refine orcL ?_;go_invoke;refine orcS (by kernel_rfl) ?_
 simp only [zi,Nat.reduceAdd];generalize hr:num b=r;obtain⟨r1,r2,r3⟩:=r
 refine lpH hI [] hX [0,5,9,10] (fun(g:Nat × Int)=>match g with|(i,u)=>i≤b.length∧i≤5∧0≤u∧u<(128 ^ i:Nat)∧numF i u.toNat (b.drop i)=num b) (fun(g:Nat × Int)=>match g with|(i,u)=>⟨[(0,.v (.one (.p (.list .byte b)))),(5,.v (.one (.p (.int .i64 u)))),(9,.v (.one (.p (.int .i64 ((I.imin (I.len (α:=UInt8) b) 5)))))),(10,.v (.one (.p (.int .i64 i))))],[],45,none⟩) (fun(g:Nat × Int)=>match g with|(i,u)=>b.length - i) (0,0) (by kernel_rfl) (by kernel_rfl) ?_ ?_
 · exact⟨jM _,by omega,Int.le_refl _,by simp,rfl⟩
 rintro⟨i,u⟩ ⟨h1,h2,h3,h4,h6⟩ A hA;simp only at hA
 refine orcL ?_;go_invoke;refine orcS (by kernel_rfl) ?_
 simp only [zi,Nat.reduceAdd];subst hI;simp only [nrmA,nrmB,nrlB,reduceCtorEq];obtain⟨u,rfl⟩:=Int.eq_ofNat_of_zero_le h3;rw [jJ] at h6;have hs1:=fun(h:i<b.length) (h':i<5)=>zrg u h h';generalize hc:(b.getD i 0).toNat=c at hs1 ⊢
 have hc256:c<256:=by rw [← hc];exact UInt8.toNat_lt _
 have hlim:((i:Int)<if((b.length:Nat):Int)≤5 then((b.length:Nat):Int) else 5)↔(i<b.length∧i<5):=by split<;>omega
 have hbits:IntKind.i64.bits=64:=by decide
 have hpw:2 ^ (7 * i)=128 ^ i:=by rw [Nat.pow_mul]
 have hq:i<5→128 ^ i≤128 ^ 4:=fun h=>Nat.pow_le_pow_right (by omega) (by omega)
 have e1:i<5→IntKind.i64.wrap (IntKind.u8.wrap ((BitVec.ofInt IntKind.u8.bits (c:Int)&&& BitVec.ofInt IntKind.u8.bits 127).toNat:Int)) * 2 ^ min (7 * (i:Int)).toNat IntKind.i64.bits=((c % 128 * 2 ^ (7 * i):Nat):Int):=by
  intro h5
  rw [zAd c hc256,wrap_i64 _ (by omega),hbits,show min (7 * (i:Int)).toNat 64=7 * i by omega]
  exact(Int.natCast_mul _ _).symm
 rw [hlim]
 have hW:i<5→∀ W,IntKind.i64.wrap ((BitVec.ofInt IntKind.i64.bits (u:Int)|||BitVec.ofInt IntKind.i64.bits (IntKind.i64.wrap (IntKind.i64.wrap (IntKind.u8.wrap ((BitVec.ofInt IntKind.u8.bits (c:Int)&&& BitVec.ofInt IntKind.u8.bits 127).toNat:Int)) * 2 ^ min (7 * (i:Int)).toNat IntKind.i64.bits))).toNat:Int)=W→W=((u+c % 128 * 128 ^ i:Nat):Int):=by
  intro h5 W h
  have hm:c % 128 * 2 ^ (7 * i)≤127 * 2 ^ (7 * i):=Nat.mul_le_mul_right _ (by omega)
  have h2:2 ^ (7 * i)≤2 ^ 28:=Nat.pow_le_pow_right (by omega) (by omega)
  rw [e1 h5,wrap_i64 ((c % 128 * 2 ^ (7 * i):Nat):Int) (by omega),zze u (c % 128) i (by rw [hpw];omega) (by omega) (by omega),hpw] at h
  exact h.symm
 generalize hWd:IntKind.i64.wrap ((BitVec.ofInt IntKind.i64.bits (u:Int)|||BitVec.ofInt IntKind.i64.bits (IntKind.i64.wrap (IntKind.i64.wrap (IntKind.u8.wrap ((BitVec.ofInt IntKind.u8.bits (c:Int)&&& BitVec.ofInt IntKind.u8.bits 127).toNat:Int)) * 2 ^ min (7 * (i:Int)).toNat IntKind.i64.bits))).toNat:Int)=W at hW ⊢
 have hW:=fun h=>hW h W rfl;have hp:128 ^ (i+1)=128 ^ i * 128:=Nat.pow_succ ..;have hend:=zuO (b:=b) (i:=i) u;have hr':=hr;rw [← h6] at hr';generalize hQ:128 ^ i=Q at *
 have hm:c % 128 * Q≤127 * Q:=Nat.mul_le_mul_right _ (by omega)
 have hcm:c<128→c * Q=c % 128 * Q:=fun h=>by rw [Nat.mod_eq_of_lt h]
 generalize hX:c % 128 * Q=X at *
 have hcut:List.take (List.length b - ((i:Int)+1).toNat) (List.drop ((i:Int)+1).toNat b)=b.drop (i+1):=by
  rw [show((i:Int)+1).toNat=i+1 by omega,jq (by simp)]
 rw [hcut]
 have hfin: ¬ (i<b.length∧i<5)→0=r1∧([]:Str)=r2∧false=r3:=by
  intro h
  rw [hend (by omega)] at hr'
  simpa using hr'
 have hret:i<b.length∧i<5→c<128→W - 1=r1∧b.drop (i+1)=r2∧decide (i=0∨0<c)=r3:=by
  intro h1 h3;rw [hs1 h1.1 h1.2] at hr';simp only [if_pos h3,hcm h3,Prod.mk.injEq] at hr';rw [hW h1.2];exact hr'
 have hback:i<b.length∧i<5→¬ c<128→A ⟨[(0,.v (.one (.p (.list .byte b)))),(5,.v (.one (.p (.int .i64 W)))),(9,.v (.one (.p (.int .i64 ((if((b.length:Nat):Int)≤5 then((b.length:Nat):Int) else 5)))))),(10,.v (.one (.p (.int .i64 (((i:Int)+1))))))],[],45,none⟩:=by
  intro h1 h3;have g0:=hW h1.2
  have g1:0≤W:=by omega
  have g2:W<((128 ^ (i+1):Nat):Int):=by rw [hp];omega
  refine hA (i+1,W) ⟨h1.1,h1.2,g1,g2,?_⟩ (by simp only;omega)
  rw [← h6,hs1 h1.1 h1.2,if_neg h3,g0,jJ]
 (repeat' (first|refine ja ?_ ?_|intro _))<;>first|omega|exact jb|exact jc ‹False›|skip
 all_goals first
  |exact(hfin (by omega)).1
  |exact(hfin (by omega)).2.1
  |exact(hfin (by omega)).2.2
  |exact(hret (by omega) (by omega)).1
  |exact(hret (by omega) (by omega)).2.1
  |exact hback (by omega) (by omega)
  |(rw [← (hret (by omega) (by omega)).2.2];simp;omega)
  |skip
 all_goals trace_state
def zwz:Know Tryz.prog:=⟨200,zmP,zwA⟩
def zwy:Know Tryz.prog:=⟨200,fun I=>zx I (zmP I),zf zwA⟩
end Go.Proofs.YtkjepecoodjbmaaGreatDoor
namespace Go.Proofs.YtkjepecoodjbmaaGreatDoor
open Go Go.Sep Go.Ab Go.Jrn
set_option maxRecDepth 100000
def pre3 (k i n:Int):Nat→Str
 |0=>[]
 |1=>sev (k+1).toNat
 |2=>sev (k+1).toNat++sev (i+1).toNat
 |_=>sev (k+1).toNat++sev (i+1).toNat++sev (n+1).toNat
def U3 (I:Alg):KU
 |[.v (.agg [.p (.int .i64 k),.p (.int .i64 i),.p (.int .i64 n),.p (.list .byte t)])],[]=>(fun(t:Str)=>(some (.one ⟨I.hid (True),(.ret (.tup [.one (.row 0),.one (.p (.int .i64 (I.hid (encC ⟨k,i,n,t⟩))))])),[.row .byte 5 (I.hid (encM ⟨k,i,n,t⟩))]⟩):Option CT)) t
 |_,_=>none
theorem ziG:zu Tryz.prog 149 (U3 alg):=by
 intro args hp r h;unfold U3 at h;split at h<;>cases h
 rename_i k i n t;simp only [CT.Good,zh];intro _
 refine spH Tryz.func149 (by kernel_rfl) { nr:=[4],own:=[198],keep:=some [0,1,2,3,4,6,16,17,18]} [zv9,zv8,zmx,zmw] (by kernel_rfl) ?_
 intro I X hI hX
 refine orcL ?_;go_invoke;refine orcS (by kernel_rfl) ?_
 simp only [zi,Nat.reduceAdd]
 refine⟨(by rw [hI];trivial),fun hm=> ?_,fun hm=> ?_⟩
 · subst hI
   simp only [nrmA,nrmB,nrlB,reduceCtorEq] at hm;simp only [nrmA,nrmB,nrlB,reduceCtorEq];simp only [encC,encM,hm,jd,if_false];exact⟨trivial,trivial⟩
 rw [hI] at hm;simp only [nrmA,nrmB] at hm;have hmay:=hm;simp only [mayM,few,jK,decide_eq_true_eq] at hmay;obtain⟨⟨⟨⟨m1,m2⟩,m3,m4⟩,m5,m6⟩,m7⟩:=hmay;simp only [encC,encM,hm,if_true];generalize hr:encB ⟨k,i,n,t⟩=r
 refine lpH hI [zv9,zv8,zmx,zmw] hX [1,4,16,17,18] (fun(g:Nat × Str)=>match g with|(j,m)=>j≤3∧m=pre3 k i n j) (fun(g:Nat × Str)=>match g with|(j,m)=>⟨[(1,.v (.one (.ptr 0 0))),(4,.v (.one (.row 1))),(16,.v (.one (.row 2))),(17,.v (.one (.p (.int .i64 ((I.len (α:=Int) [k,i,n])))))),(18,.v (.one (.p (.int .i64 j))))],[.pack [.obj 182 [.p (.int .i64 k),.p (.int .i64 i),.p (.int .i64 n),.p (.list .byte t)]],.row .byte 5 m,.row .int 3 ([k,i,n])],35,none⟩) (fun(g:Nat × Str)=>match g with|(j,m)=>3 - j) (0,[]) (by kernel_rfl) (by kernel_rfl) ?_ ?_
 · exact⟨jM _,rfl⟩
 rintro⟨j,m⟩ ⟨hj,hjm⟩ A hA;simp only at hA
 refine orcL ?_;go_invoke;refine orcS (by kernel_rfl) ?_
 simp only [zi,Nat.reduceAdd];subst hI;simp only [nrmA,nrmB,nrlB,reduceCtorEq];have l1:=xA (k+1).toNat;have l2:=xA (i+1).toNat;have l3:=xA (n+1).toNat;simp only [jh,ji]
 rcases(show j=0∨j=1∨j=2∨j=3 by omega) with rfl|rfl|rfl|rfl
 · have hb:=hA (1,sev (k+1).toNat) ⟨by omega,rfl⟩ (by simp only;omega)
   subst hjm
   (repeat' (first|refine ja ?_ ?_|intro _))<;>first|omega|exact jb|exact jc ‹False›|skip
   · simp only [List.getD_cons_zero];omega
   · simp only [List.getD_cons_zero];omega
   · simp only [pre3,ji];omega
   · exact hb
 · have hb:=hA (2,sev (k+1).toNat++sev (i+1).toNat) ⟨by omega,rfl⟩ (by simp only;omega)
   subst hjm
   (repeat' (first|refine ja ?_ ?_|intro _))<;>first|omega|exact jb|exact jc ‹False›|skip
   · simp only [List.getD_cons_zero,List.getD_cons_succ];omega
   · simp only [List.getD_cons_zero,List.getD_cons_succ];omega
   · simp only [pre3];omega
   · exact hb
 · have hb:=hA (3,sev (k+1).toNat++sev (i+1).toNat++sev (n+1).toNat) ⟨by omega,rfl⟩ (by simp only;omega)
   subst hjm
   (repeat' (first|refine ja ?_ ?_|intro _))<;>first|omega|exact jb|exact jc ‹False›|skip
   · simp only [List.getD_cons_zero,List.getD_cons_succ];omega
   · simp only [List.getD_cons_zero,List.getD_cons_succ];omega
   · simp only [pre3,jk];omega
   · exact hb
 · have hm3:(m++t).length≤1048606:=by rw [hjm];simp only [pre3,jk];omega
   have hml:m.length≤30:=by rw [hjm];simp only [pre3,jk];omega
   have l4:=xA (((m++t).length:Nat)+1:Int).toNat
   (repeat' (first|refine ja ?_ ?_|intro _))<;>first|omega|exact jb|exact jc ‹False›|skip
   · simp only [List.nil_append];omega
   · rw [← hr,hjm]
     simp only [encB,enc3,pre3,List.nil_append];rfl
def zsD:Know Tryz.prog:=⟨149,U3,ziG⟩
def zsC:Know Tryz.prog:=⟨149,fun I=>zx I (U3 I),zf ziG⟩
def zfG (I:Alg):KU
 |[.v (.one (.p (.list .byte b)))],[]=>(fun(b:Str)=>(some (.one ⟨I.hid (b.length≤100000000),(.ret (.tup [.agg [.p (.int .i64 (I.hid ((oneX b).1.kind))),.p (.int .i64 (I.hid ((oneX b).1.id))),.p (.int .i64 (I.hid ((oneX b).1.n))),.p (.list .byte (I.hid ((oneX b).1.text)))],.one (.p (.list .byte (I.hid ((oneX b).2.1)))),.one (.p (.bool (I.hid ((oneX b).2.2))))])),[]⟩):Option CT)) b
 |_,_=>none
theorem zrz:zu Tryz.prog 151 (zfG alg):=by
 intro args hp r h;unfold zfG at h;split at h<;>cases h
 rename_i b;simp only [CT.Good,zh];intro hneed
 refine spH Tryz.func151 (by kernel_rfl) { rl:=[1],keep:=some [0,2,3,4,5,6,7,8,9,10,11,12,38]} [Yn,Za,zmx,zmw,zwz,zwy] (by kernel_rfl) ?_
 intro I X hI hX
 refine orcL ?_;go_invoke;refine orcS (by kernel_rfl) ?_
 simp only [zi,Nat.reduceAdd];generalize hv:(num b).1=v;generalize hq:(num b).2.1=q;generalize hok:(num b).2.2=ok
 have hnum:num b=(v,q,ok):=by rw [← hv,← hq,← hok]
 generalize hx:oneX b=x;have hx':=hx;rw [oneX,hnum] at hx'
 have hql:q.length≤b.length:=by
  rcases ok with _|_
  · have:=zcf b;rw [hnum] at this;exact this
  · have:=zce (b:=b) (by rw [hnum]);rw [hnum] at this;exact Nat.le_of_lt this
 refine⟨(by rw [hI];trivial),fun h1=> ?_,fun h1=>⟨fun h2=> ?_,fun h2=>⟨fun h3=> ?_,fun h3=> ?_⟩⟩⟩
 · subst hI;simp only [nrmA,nrmB] at h1;subst h1;simp only at hx';subst hx';simp only [nrmA,nrmB,nrlB,reduceCtorEq]
 · subst hI;simp only [nrmA,nrmB] at h1;simp only [nrmA,nrmB] at h2;subst h1;simp only at hx';rw [if_pos (.inl h2)] at hx';subst hx';simp only [nrmA,nrmB,nrlB,reduceCtorEq]
 · subst hI;simp only [nrmA,nrmB] at h1;simp only [nrmA,nrmB] at h2;simp only [nrmA,nrmB] at h3;subst h1;simp only at hx';rw [if_pos (.inr h3)] at hx';subst hx';simp only [nrmA,nrmB,nrlB,reduceCtorEq]
 rw [hI] at h1;simp only [nrmA,nrmB] at h1;rw [hI] at h2;simp only [nrmA,nrmB] at h2;rw [hI] at h3;simp only [nrmA,nrmB] at h3;subst h1;simp only at hx'
 rw [if_neg (by omega)] at hx'
 refine⟨(by rw [hI];simp only [nrmA,nrmB];omega),(by rw [hI];simp only [nrmA,nrmB];omega),?_⟩
 have hin:I.cut (α:=UInt8) (I.hid (α:=List UInt8) q) 0 (I.hid (α:=Int) v)=q.take v.toNat:=by rw [hI];simp only [nrmA,nrmB]
 have hbh:I.cut (α:=UInt8) (I.hid (α:=List UInt8) q) (I.hid (α:=Int) v) (I.len (α:=UInt8) (I.hid (α:=List UInt8) q))=q.drop v.toNat:=by
  rw [hI];simp only [nrmA,nrmB];rw [jq (by simp)]
 have hil:(q.take v.toNat).length≤b.length:=by simp;omega
 rw [hin,hbh];generalize q.take v.toNat=inn at *;generalize q.drop v.toNat=bh at *
 refine lpH hI [Yn,Za,zmx,zmw,zwz,zwy] hX [2,8,9,10,38] (fun(g:Nat × Int × Int × Int × Str)=>match g with|(j,a,c,d,s)=>j≤3∧s.length≤b.length∧thr j a c d s=three inn) (fun(g:Nat × Int × Int × Int × Str)=>match g with|(j,a,c,d,s)=>⟨[(2,.v (.one (.ptr 0 0))),(8,.v (.one (.p (.list .byte s)))),(9,.v (.one (.p (.list .byte bh)))),(10,.v (.one (.ptr 1 0))),(38,.v (.one (.p (.int .i64 j))))],[.pack [.obj 182 [.p (.int .i64 0),.p (.int .i64 0),.p (.int .i64 0),.nilS]],.pack [.obj 226 [.p (.int .i64 a),.p (.int .i64 c),.p (.int .i64 d)]]],66,none⟩) (fun(g:Nat × Int × Int × Int × Str)=>match g with|(j,a,c,d,s)=>3 - j) (0,0,0,0,inn) (by kernel_rfl) (by kernel_rfl) ?_ ?_
 · exact⟨jM _,hil,rfl⟩
 rintro⟨j,a,c,d,s⟩ ⟨hj,hsl,hthr⟩ A hA;simp only at hA
 have hu:j<3→∀ e:(num s).2.2=false,thr j a c d s=none:=by
  intro h e
  have e2:num s=((num s).1,(num s).2.1,false):=by rw [← e]
  rcases(show j=0∨j=1∨j=2 by omega) with rfl|rfl|rfl
  · rw [thr,three,e2]
  · rw [thr,e2]
  · rw [thr,e2]
 have hfail:j<3→(num s).2.2=false→x=(⟨0,0,0,[]⟩,[],false):=by
  intro h e;rw [← hthr,hu h e] at hx';exact hx'.symm
 have hnl:=zcf s
 have hle:(num s).2.1.length≤b.length:=by omega
 rcases(show j=0∨j=1∨j=2∨j=3 by omega) with rfl|rfl|rfl|rfl
 · refine orcL ?_;go_invoke;refine orcS (by kernel_rfl) ?_
   simp only [zi,Nat.reduceAdd];subst hI;simp only [nrmA,nrmB,nrlB,reduceCtorEq]
   refine⟨fun _=>⟨fun e=> ?_,fun e=>⟨by omega,?_⟩⟩,fun h=>(by omega)⟩
   · rw [hfail (by omega) e];exact⟨rfl,rfl,rfl⟩
   · refine hA (1,(num s).1,c,d,(num s).2.1) ⟨by omega,hle,?_⟩ (by simp only;omega)
     rw [← hthr,thr,thr,three,show num s=((num s).1,(num s).2.1,true) by rw [← e]]
 · refine orcL ?_;go_invoke;refine orcS (by kernel_rfl) ?_
   simp only [zi,Nat.reduceAdd];subst hI;simp only [nrmA,nrmB,nrlB,reduceCtorEq]
   refine⟨fun _=>⟨fun e=> ?_,fun e=>⟨by omega,?_⟩⟩,fun h=>(by omega)⟩
   · rw [hfail (by omega) e];exact⟨rfl,rfl,rfl⟩
   · refine hA (2,a,(num s).1,d,(num s).2.1) ⟨by omega,hle,?_⟩ (by simp only;omega)
     rw [← hthr,thr,thr,show num s=((num s).1,(num s).2.1,true) by rw [← e]]
 · refine orcL ?_;go_invoke;refine orcS (by kernel_rfl) ?_
   simp only [zi,Nat.reduceAdd];subst hI;simp only [nrmA,nrmB,nrlB,reduceCtorEq]
   refine⟨fun _=>⟨fun e=> ?_,fun e=>⟨by omega,?_⟩⟩,fun h=>(by omega)⟩
   · rw [hfail (by omega) e];exact⟨rfl,rfl,rfl⟩
   · refine hA (3,a,c,(num s).1,(num s).2.1) ⟨by omega,hle,?_⟩ (by simp only;omega)
     have e2:num s=((num s).1,(num s).2.1,true):=by rw [← e]
     rw [← hthr];simp only [thr];generalize num s=z at *;obtain⟨z1,z2,z3⟩:=z;simp only at e;subst e;rfl
 · refine orcL ?_;go_invoke;refine orcS (by kernel_rfl) ?_
   simp only [zi,Nat.reduceAdd];subst hI;simp only [nrmA,nrmB,nrlB,reduceCtorEq];rw [← hthr] at hx';simp only [thr] at hx';subst hx'
   have:s.length≤100000000:=by omega
   exact⟨fun h=>(by omega),fun _=>⟨⟨this,rfl,rfl,rfl⟩,this,rfl,rfl,rfl⟩⟩
def zry:Know Tryz.prog:=⟨151,zfG,zrz⟩
def zrx:Know Tryz.prog:=⟨151,fun I=>zx I (zfG I),zf zrz⟩
end Go.Proofs.YtkjepecoodjbmaaGreatDoor
namespace Go.Proofs.YtkjepecoodjbmaaGreatDoor
open Go Go.Sep Go.Ab Go.Jrn
set_option maxRecDepth 100000
def zbr (b:Str):Int:=(b.length:Int) - ((dec b).2.length:Int)
def U7 (I:Alg):KU
 |[.v (.one (.p (.list .byte b)))],[]=>(fun(b:Str)=>(some (.one ⟨I.hid (b.length≤50000000),(.ret (.tup [.one (.row 0),.one (.p (.int .i64 (I.hid (zbr b))))])),[.row .ent 182 (I.hid ((dec b).1))]⟩):Option CT)) b
 |_,_=>none
theorem ziM:zu Tryz.prog 108 (U7 alg):=by
 intro args hp r h;unfold U7 at h;split at h<;>cases h
 rename_i b;simp only [CT.Good,zh];intro hneed
 refine spH Tryz.func108 (by kernel_rfl) { nr:=[4],keep:=some [0,2,3,4,5,6,7,8]} [zry,zrx] (by kernel_rfl) ?_
 intro I X hI hX
 refine orcL ?_;go_invoke;refine orcS (by kernel_rfl) ?_
 simp only [zi,Nat.reduceAdd];generalize hd1:(dec b).1=d1;generalize hd2:zbr b=d2
 refine lpH hI [zry,zrx] hX [0,4,5] (fun(g:List Ent × Str)=>match g with|(out,rest)=>out++(dec rest).1=d1∧(dec rest).2=(dec b).2∧out.length+rest.length≤b.length) (fun(g:List Ent × Str)=>match g with|(out,rest)=>⟨[(0,.v (.one (.p (.list .byte b)))),(4,.v (.one (.row 0))),(5,.v (.one (.p (.list .byte rest))))],[.row .ent 182 out],29,none⟩) (fun(g:List Ent × Str)=>match g with|(out,rest)=>rest.length) ([],b) (by kernel_rfl) (by kernel_rfl) ?_ ?_
 · exact⟨hd1,rfl,by simp⟩
 rintro⟨out,rest⟩ ⟨h1,h2,h3⟩ A hA;simp only at hA
 refine orcL ?_;go_invoke;refine orcS (by kernel_rfl) ?_
 simp only [zi,Nat.reduceAdd];subst hI;simp only [nrmA,nrmB,nrlB,reduceCtorEq]
 have hone:(oneX rest).2.2=true→oneM rest=some ((oneX rest).1,(oneX rest).2.1):=fun h=>by rw [oneM,if_pos h]
 have hnone:(oneX rest).2.2=false→oneM rest=none:=fun h=>by rw [oneM,if_neg (by rw [h];decide)]
 refine⟨by omega,fun h=> ?_,fun h=> ?_⟩
 · rw [zf0 (hnone h)] at h1 h2
   refine⟨by omega,?_,by simpa using h1⟩
   rw [← hd2,zbr,← h2]
 · have hx:=zfZ (hone h)
   have hlt:=zq7 h
   refine⟨by simp only [jh,ji];omega,hA (out++[(oneX rest).1],(oneX rest).2.1) ⟨?_,?_,?_⟩ hlt⟩
   · rw [← h1,hx,jo];rfl
   · rw [← h2,hx]
   · simp only [jk,jh,ji];omega
def ziL:Know Tryz.prog:=⟨108,U7,ziM⟩
def ziK:Know Tryz.prog:=⟨108,fun I=>zx I (U7 I),zf ziM⟩
end Go.Proofs.YtkjepecoodjbmaaGreatDoor
namespace Go.Proofs.YtkjepecoodjbmaaGreatDoor
open Go Go.Sep Go.Ab
set_option maxRecDepth 100000
def cfgL:Cfg:= { sl:=[⟨156,0,.byte,some 5⟩]}
def TY (b:Str) (n:Int):Bool:=decide (0≤n∧n≤100000 - (b.length:Int))
def wrC (b x:Str):Int:=if b.length+x.length≤100000 then 0 else 16
def wrB (b x:Str):Str:=if b.length+x.length≤100000 then b++x else b
def crB (b:Str) (s n:Int):Str:=b.take (s+min (max n 0) (b.length - s)).toNat
def cuB (b:Str) (n:Int):Str:=if 0≤n∧n<b.length then b.take n.toNat else b
def cuS (b:Str) (s n:Int):Int:=if 0≤n∧n<b.length then min s n else s
def zfH (I:Alg):KU
 |[],[]=>some (.one ⟨I.hid (True),(.ret (.v (.one (.ptr 0 0)))),[.pack [.obj 156 [.row 1,.p (.int .i64 0)],.row .byte 5 (I.hid ([]))]]⟩)
 |_,_=>none
theorem zrC:zu Tryz.prog 43 (zfH alg):=by
 intro args hp r h;unfold zfH at h;split at h<;>cases h
 simp only [CT.Good,zh];intro _
 refine spH Tryz.func43 (by kernel_rfl) { cfgL with keep:=some [0]} [] (by kernel_rfl) ?_
 intro I X hI hX
 refine orcL ?_;go_invoke;refine orcS (by kernel_rfl) ?_
 simp only [zi,Nat.reduceAdd];trivial
def zxK:Know Tryz.prog:=⟨43,zfH,zrC⟩
def zxJ:Know Tryz.prog:=⟨43,fun I=>zx I (zfH I),zf zrC⟩
def zbh (I:Alg):KU
 |[.v (.one (.ptr 0 0))],[.pack [.obj 156 [.row 1,.p (.int .i64 s)],.row .byte 5 b]]=>(fun(b:Str)=>(some (.one ⟨I.hid (b.length≤100000000),(.ret (.v (.one (.row 1)))),[.pack [.obj 156 [.row 1,.p (.int .i64 s)],.row .byte 5 b],.row .byte 5 b]⟩):Option CT)) b
 |_,_=>none
theorem znK:zu Tryz.prog 55 (zbh alg):=by
 intro args hp r h;unfold zbh at h;split at h<;>cases h
 rename_i s b;simp only [CT.Good,zh];intro hneed
 refine spH Tryz.func55 (by kernel_rfl) { cfgL with keep:=some [0,2]} [Yn,Za] (by kernel_rfl) ?_
 intro I X hI hX
 refine orcL ?_;go_invoke;refine orcS (by kernel_rfl) ?_
 simp only [zi,Nat.reduceAdd];subst hI;simp only [nrmA,nrmB];exact hneed
def znJ:Know Tryz.prog:=⟨55,zbh,znK⟩
def znI:Know Tryz.prog:=⟨55,fun I=>zx I (zbh I),zf znK⟩
def zeY (I:Alg):KU
 |[.v (.one (.ptr 0 0))],[.pack [.obj 156 [.row 1,.p (.int .i64 s)],.row .byte 5 b]]=>(fun(b:Str)=>(some (.one ⟨I.hid (True),(.ret (.tup [])),[.pack [.obj 156 [.row 1,.p (.int .i64 (I.hid (b.length:Int)))],.row .byte 5 b]]⟩):Option CT)) b
 |_,_=>none
theorem zpF:zu Tryz.prog 106 (zeY alg):=by
 intro args hp r h;unfold zeY at h;split at h<;>cases h
 rename_i s b;simp only [CT.Good,zh];intro _
 refine spH Tryz.func106 (by kernel_rfl) { cfgL with keep:=some [0]} [] (by kernel_rfl) ?_
 intro I X hI hX
 refine orcL ?_;go_invoke;refine orcS (by kernel_rfl) ?_
 simp only [zi,Nat.reduceAdd];subst hI;simp only [nrmA,nrmB,nrlB,reduceCtorEq,HO.pack.injEq,HO.obj.injEq]
def zpE:Know Tryz.prog:=⟨106,zeY,zpF⟩
def zpD:Know Tryz.prog:=⟨106,fun I=>zx I (zeY I),zf zpF⟩
def zff (I:Alg):KU
 |[.v (.one (.ptr 0 0)),.v (.one (.p (.int .i64 n)))],[.pack [.obj 156 [.row 1,.p (.int .i64 s)],.row .byte 5 b]]=>(fun(b:Str)=>(some (.one ⟨I.hid (b.length≤100000000),(.ret (.v (.one (.p (.bool (I.hid (TY b n))))))),[.pack [.obj 156 [.row 1,.p (.int .i64 s)],.row .byte 5 b]]⟩):Option CT)) b
 |_,_=>none
theorem zqJ:zu Tryz.prog 199 (zff alg):=by
 intro args hp r h;unfold zff at h;split at h<;>cases h
 rename_i n s b;simp only [CT.Good,zh];intro hneed
 refine spH Tryz.func199 (by kernel_rfl) { cfgL with keep:=some [0,1,4]} [] (by kernel_rfl) ?_
 intro I X hI hX
 refine orcL ?_;go_invoke;refine orcS (by kernel_rfl) ?_
 simp only [zi,Nat.reduceAdd];subst hI;simp only [nrmA,nrmB,nrlB,reduceCtorEq];unfold TY
 exact⟨fun h=>⟨by omega,decide_eq_decide.2 (by omega)⟩,fun h=>(decide_eq_false (by omega)).symm⟩
def zqI:Know Tryz.prog:=⟨199,zff,zqJ⟩
def zqH:Know Tryz.prog:=⟨199,fun I=>zx I (zff I),zf zqJ⟩
def QO (I:Alg):KU
 |[.v (.one (.ptr 0 0)),.v (.one (.p (.list .byte x)))],[.pack [.obj 156 [.row 1,.p (.int .i64 s)],.row .byte 5 b]]=>(fun(b x:Str)=>(some (.one ⟨I.hid (b.length≤100000∧x.length≤100000000),(.ret (.v (.one (.p (.int .i64 (I.hid (wrC b x))))))),[.pack [.obj 156 [.row 1,.p (.int .i64 s)],.row .byte 5 (I.hid (wrB b x))]]⟩):Option CT)) b x
 |_,_=>none
theorem zkV:zu Tryz.prog 150 (QO alg):=by
 intro args hp r h;unfold QO at h;split at h<;>cases h
 rename_i x s b;simp only [CT.Good,zh];intro hneed
 refine spH Tryz.func150 (by kernel_rfl) { cfgL with keep:=some [0,1,4]} [zqI,zqH] (by kernel_rfl) ?_
 intro I X hI hX
 refine orcL ?_;go_invoke;refine orcS (by kernel_rfl) ?_
 simp only [zi,Nat.reduceAdd];subst hI
 have hr:TY b (x.length:Int)=decide (b.length+x.length≤100000):=by unfold TY;exact decide_eq_decide.2 (by omega)
 simp only [nrmA,nrmB,nrlB,reduceCtorEq,HO.pack.injEq,HO.obj.injEq];rw [hr]
 by_cases hc:b.length+x.length≤100000
 · simp only [wrC,wrB,if_pos hc,decide_eq_true hc]
   simp only [nrmA,nrmB,nrlB,reduceCtorEq]
   exact⟨by omega,fun h=>h.elim,fun _=>by omega⟩
 · simp only [wrC,wrB,if_neg hc,decide_eq_false hc]
   simp only [nrmA,nrmB,nrlB,reduceCtorEq]
   exact⟨by omega,fun _=>trivial,fun h=>h.elim⟩
def ztz:Know Tryz.prog:=⟨150,QO,zkV⟩
def zty:Know Tryz.prog:=⟨150,fun I=>zx I (QO I),zf zkV⟩
def zba (I:Alg):KU
 |[.v (.one (.ptr 0 0)),.v (.one (.p (.int .i64 n)))],[.pack [.obj 156 [.row 1,.p (.int .i64 s)],.row .byte 5 b]]=>(fun(b:Str)=>(some (.one ⟨I.hid (b.length≤100000∧0≤s∧s≤b.length),(.ret (.tup [])),[.pack [.obj 156 [.row 1,.p (.int .i64 (I.hid ((crB b s n).length:Int)))],.row .byte 5 (I.hid (crB b s n))]]⟩):Option CT)) b
 |_,_=>none
theorem znx:zu Tryz.prog 107 (zba alg):=by
 intro args hp r h;unfold zba at h;split at h<;>cases h
 rename_i n s b;simp only [CT.Good,zh];intro hneed
 refine spH Tryz.func107 (by kernel_rfl) { cfgL with cut:=[35],keep:=some [0,1,4]} [zpE,zpD] (by kernel_rfl) ?_
 intro I X hI hX
 refine orcL ?_;go_invoke;refine orcS (by kernel_rfl) ?_
 simp only [zi,Nat.reduceAdd];subst hI;simp only [nrmA,nrmB,nrlB,reduceCtorEq,HO.pack.injEq,HO.obj.injEq]
 obtain⟨K,hK,h0,hle⟩: ∃ K:Int,s+(if(if n≤0 then 0 else n)≤(b.length:Int) - s then(if n≤0 then 0 else n) else(b.length:Int) - s)=K∧s≤K∧K≤b.length:=⟨_,rfl,by omega,by omega⟩
 have hcr:crB b s n=b.take K.toNat:=by
  unfold crB;rw [← hK]
  congr 2
 rw [hK,hcr]
 exact⟨by omega,by omega,by omega,by omega,rfl,rfl⟩
def znw:Know Tryz.prog:=⟨107,zba,znx⟩
def znv:Know Tryz.prog:=⟨107,fun I=>zx I (zba I),zf znx⟩
def zf4 (I:Alg):KU
 |[.v (.one (.ptr 0 0)),.v (.one (.p (.int .i64 n)))],[.pack [.obj 156 [.row 1,.p (.int .i64 s)],.row .byte 5 b]]=>(fun(b:Str)=>(some (.one ⟨I.hid (b.length≤100000∧0≤s∧s≤b.length),(.ret (.tup [])),[.pack [.obj 156 [.row 1,.p (.int .i64 (I.hid (cuS b s n)))],.row .byte 5 (I.hid (cuB b n))]]⟩):Option CT)) b
 |_,_=>none
theorem zsO:zu Tryz.prog 109 (zf4 alg):=by
 intro args hp r h;unfold zf4 at h;split at h<;>cases h
 rename_i n s b;simp only [CT.Good,zh];intro hneed
 refine spH Tryz.func109 (by kernel_rfl) { cfgL with cut:=[22],keep:=some [0,1]} [] (by kernel_rfl) ?_
 intro I X hI hX
 refine orcL ?_;go_invoke;refine orcS (by kernel_rfl) ?_
 simp only [zi,Nat.reduceAdd];subst hI;simp only [nrmA,nrmB,nrlB,reduceCtorEq,HO.pack.injEq,HO.obj.injEq]
 refine⟨fun h1=>⟨fun h2=>⟨by omega,?_,?_⟩,fun h2=> ?_⟩,fun h1=> ?_⟩
 · unfold cuS;rw [if_pos (show 0≤n∧n<(b.length:Int) from⟨h1,h2⟩)];omega
 · unfold cuB;rw [if_pos (show 0≤n∧n<(b.length:Int) from⟨h1,h2⟩)]
 · unfold cuS cuB;rw [if_neg (show ¬ (0≤n∧n<(b.length:Int)) from fun h=>by omega),if_neg (show ¬ (0≤n∧n<(b.length:Int)) from fun h=>by omega)];exact⟨rfl,rfl⟩
 · unfold cuS cuB;rw [if_neg (show ¬ (0≤n∧n<(b.length:Int)) from fun h=>by omega),if_neg (show ¬ (0≤n∧n<(b.length:Int)) from fun h=>by omega)];exact⟨rfl,rfl⟩
def zsN:Know Tryz.prog:=⟨109,zf4,zsO⟩
def zsM:Know Tryz.prog:=⟨109,fun I=>zx I (zf4 I),zf zsO⟩
end Go.Proofs.YtkjepecoodjbmaaGreatDoor
namespace Go.Jrn
open Go Go.Ab
theorem pow5 {i:Nat} (h:i<5):128 ^ (5 - i)=128 * 128 ^ (5 - (i+1)):=by
 rw [show 5 - i=(5 - (i+1))+1 by omega,Nat.pow_succ,Nat.mul_comm]
theorem zhj: ∀ (s:Str) (i u:Nat) (v:Int) (r:Str),numF i u s=(v,r,true)→∃ x,v=((u+x * 128 ^ i:Nat):Int) - 1∧s=sev x++r∧(0<i→0<x)∧x<128 ^ (5 - i)
 |[],i,u,v,r,h=>by simp [numF] at h
 | c :: l,i,u,v,r,h=>by
   rw [numF] at h
   split at h
   · simp at h
   · rename_i h5
     have hp:=pow5 (i:=i) (by omega)
     have hpos:0<128 ^ (5 - (i+1)):=Nat.pow_pos (by omega)
     split at h
     · rename_i hc
       simp only [Prod.mk.injEq,decide_eq_true_eq] at h;obtain⟨rfl,rfl,h3⟩:=h
       refine⟨c.toNat,rfl,?_,by omega,by omega⟩
       rw [YO hc,UInt8.ofNat_toNat];rfl
     · rename_i hc
       obtain⟨y,h1,h2,h3,h4⟩:=zhj l (i+1) _ v r h
       have hy:=h3 (by omega)
       have hc2:c.toNat<256:=UInt8.toNat_lt c
       have h45:128 ^ (5 - (i+1))≤128 ^ 4:=Nat.pow_le_pow_right (by omega) (by omega)
       refine⟨c.toNat % 128+128 * y,?_,?_,by omega,?_⟩
       · rw [h1,Nat.pow_succ,Nat.add_mul]
         congr 2
         rw [Nat.add_assoc]
         congr 1
         rw [Nat.mul_comm (128 ^ i) 128,Nat.mul_comm 128 y,Nat.mul_assoc]
       · rw [ze5 (by omega) (by omega),h2,show(c.toNat % 128+128 * y) % 128+128=c.toNat by omega,show(c.toNat % 128+128 * y) / 128=y by omega,UInt8.ofNat_toNat];rfl
       · rw [hp];omega
theorem zaH {s r:Str} {v:Int} (h:num s=(v,r,true)): -1≤v∧v<34359738367∧s=sev (v+1).toNat++r:=by
 obtain⟨x,h1,h2,_,h4⟩:=zhj s 0 0 v r h;simp only [Nat.pow_zero,Nat.mul_one,Nat.zero_add,Nat.sub_zero] at h1 h4
 have:(v+1).toNat=x:=by omega
 rw [this]
 exact⟨by omega,by omega,h2⟩
theorem zon: ∀ (x i u:Nat) (r:Str),i<5→x<128 ^ (5 - i)→(0<i→0<x)→numF i u (sev x++r)=(((u+x * 128 ^ i:Nat):Int) - 1,r,true):=by
 intro x
 induction x using Nat.strongRecOn with
 | _ x ih=>
   intro i u r h5 hx hi;have hp:=pow5 h5
   have h55:128 ^ (5 - i)≤128 ^ 5:=Nat.pow_le_pow_right (by omega) (by omega)
   rcases Nat.lt_or_ge x 128 with hs|hb
   · have e:(UInt8.ofNat x).toNat=x:=by rw [UInt8.toNat_ofNat'];omega
     rw [YO hs,List.cons_append,numF,if_neg (by omega),e,if_pos hs]
     simp only [List.nil_append,Prod.mk.injEq,true_and,decide_eq_true_eq];omega
   · have e:(UInt8.ofNat (x % 128+128)).toNat=x % 128+128:=by rw [UInt8.toNat_ofNat'];omega
     have hi4:i+1<5:=by
      rcases Nat.lt_or_ge (i+1) 5 with h|h
      · exact h
      · have:i=4:=by omega
        subst this;simp at hx;omega
     rw [ze5 hb (by omega),List.cons_append,numF,if_neg (by omega),e,if_neg (by omega),ih (x / 128) (by omega) (i+1) _ r hi4 (by rw [Nat.div_lt_iff_lt_mul (by omega),Nat.mul_comm];omega) (by omega)]
     simp only [Prod.mk.injEq,and_true]
     congr 2
     rw [show(x % 128+128) % 128=x % 128 by omega,Nat.pow_succ,Nat.add_assoc]
     congr 1
     rw [Nat.mul_comm (128 ^ i) 128,← Nat.mul_assoc,← Nat.add_mul]
     congr 1
     omega
theorem Y1 {v:Int} {r:Str} (h1: -1≤v) (h2:v<34359738367):num (sev (v+1).toNat++r)=(v,r,true):=by
 rw [num,zon (v+1).toNat 0 0 r (by omega) (by simp;omega) (by omega)]
 simp only [Nat.pow_zero,Nat.mul_one,Nat.zero_add,Prod.mk.injEq,and_true];omega
theorem zrf: ∀ (x i u:Nat) (p:Str),x<128 ^ 9→p.length<(sev x).length→p<+:sev x→(numF i u p).2.2=false:=by
 intro x
 induction x using Nat.strongRecOn with
 | _ x ih=>
   intro i u p hx hl hp
   cases p with
   |nil=>rfl
   | cons c p=>
     rcases Nat.lt_or_ge x 128 with hs|hb
     · rw [YO hs] at hl;simp at hl
     · rw [ze5 hb hx] at hl hp
       obtain⟨rfl,hp2⟩:=List.cons_prefix_cons.1 hp
       have e:(UInt8.ofNat (x % 128+128)).toNat=x % 128+128:=by rw [UInt8.toNat_ofNat'];omega
       rw [numF]
       split
       · rfl
       · rw [e,if_neg (by omega)]
         exact ih (x / 128) (by omega) (i+1) _ p (Nat.lt_of_le_of_lt (Nat.div_le_self _ _) hx) (by simpa using hl) hp2
theorem znX {s t:Str} {k i n:Int} (h:three s=some (k,i,n,t)):s=sev (k+1).toNat++sev (i+1).toNat++sev (n+1).toNat++t:=by
 unfold three at h
 split at h
 · rename_i k' r1 h1
   split at h
   · rename_i i' r2 h2
     split at h
     · rename_i n' r3 h3
       simp only [jw,Prod.mk.injEq] at h;obtain⟨rfl,rfl,rfl,rfl⟩:=h;obtain⟨_,_,e1⟩:=zaH h1;obtain⟨_,_,e2⟩:=zaH h2;obtain⟨_,_,e3⟩:=zaH h3;rw [e1,e2,e3];simp only [jo]
     · cases h
   · cases h
 · cases h
theorem zji {k i n:Int} {t:Str} (hk: -1≤k∧k<34359738367) (hi: -1≤i∧i<34359738367) (hn: -1≤n∧n<34359738367):three (sev (k+1).toNat++sev (i+1).toNat++sev (n+1).toNat++t)=some (k,i,n,t):=by
 unfold three;rw [jo,jo,Y1 hk.1 hk.2];simp only;rw [Y1 hi.1 hi.2];simp only;rw [Y1 hn.1 hn.2]
theorem zra {s r:Str} {e:Ent} (h:oneM s=some (e,r)):mayM e=true∧s=encB e++r:=by
 unfold oneM at h
 split at h
 · rename_i hx
   simp only [jw,Prod.mk.injEq] at h;obtain⟨rfl,rfl⟩:=h;unfold oneX at hx ⊢
   split at hx
   · rename_i n q hn
     split at hx
     · cases hx
     · rename_i hc
       rw [if_neg hc]
       split at hx
       · rename_i k i m t ht
         simp only [ht];refine⟨hx,?_⟩;obtain⟨_,_,e1⟩:=zaH hn;have e2:=znX ht
         have hl:(q.take n.toNat).length=n.toNat:=by rw [jv];omega
         have e3:enc3 ⟨k,i,m,t⟩=q.take n.toNat:=by rw [e2];rfl
         rw [encB,e3,hl,show n.toNat+1=(n+1).toNat by omega,jo,List.take_append_drop]
         exact e1
       · cases hx
   · cases hx
 · cases h
theorem zhl {e:Ent} (h:mayM e=true):(-1≤e.kind∧e.kind<34359738367)∧(-1≤e.id∧e.id<34359738367)∧(-1≤e.n∧e.n<34359738367)∧e.text.length<1048576:=by
 simp only [mayM,few,jK,decide_eq_true_eq] at h;omega
theorem znm {e:Ent} (h:mayM e=true):(enc3 e).length<1048606:=by
 have:=zhl h;have h1:=xA (e.kind+1).toNat;have h2:=xA (e.id+1).toNat;have h3:=xA (e.n+1).toNat;simp only [enc3,jk];omega
theorem zom {e:Ent} (r:Str) (h:mayM e=true):oneM (encB e++r)=some (e,r):=by
 have hl:=znm h;obtain⟨h1,h2,h3,_⟩:=zhl h
 have hn:num (encB e++r)=(((enc3 e).length:Int),enc3 e++r,true):=by
  have:=Y1 (v:=((enc3 e).length:Int)) (r:=enc3 e++r) (by omega) (by omega)
  rw [show(((enc3 e).length:Int)+1).toNat=(enc3 e).length+1 by omega] at this
  rw [encB,jo];exact this
 have hx:oneX (encB e++r)=(e,r,true):=by
  unfold oneX;rw [hn];simp only
  rw [if_neg (by rw [jk];omega),jJ,List.take_left' rfl,List.drop_left' rfl]
  have ht:three (enc3 e)=some (e.kind,e.id,e.n,e.text):=zji h1 h2 h3;rw [ht];simp only;have:mayM ⟨e.kind,e.id,e.n,e.text⟩=true:=h;rw [this]
 rw [oneM,hx];rfl
theorem zq8 {e:Ent} {p:Str} (h:mayM e=true) (hp:p<+:encB e) (hl:p.length<(encB e).length):oneM p=none:=by
 have hlen:=znm h;rw [encB] at hp hl;rw [jk] at hl
 rcases Nat.lt_or_ge p.length (sev ((enc3 e).length+1)).length with h1|h1
 · refine zq9 ?_
   have hp2:p<+:sev ((enc3 e).length+1):=by
    obtain⟨t,ht⟩:=hp;have:=congrArg (List.take p.length) ht
    rw [List.take_left' rfl,List.take_append_of_le_length (by omega)] at this
    rw [this];exact List.take_prefix _ _
   exact zrf _ 0 0 p (by omega) h1 hp2
 · obtain⟨t,ht⟩:=hp
   have e1:p=sev ((enc3 e).length+1)++p.drop (sev ((enc3 e).length+1)).length:=by
    have:=congrArg (List.take (sev ((enc3 e).length+1)).length) ht;rw [List.take_left' rfl,List.take_append_of_le_length h1] at this;rw [← this];rw [jv,Nat.min_eq_left h1,List.take_append_drop]
   have hn:=Y1 (v:=((enc3 e).length:Int)) (r:=p.drop (sev ((enc3 e).length+1)).length) (by omega) (by omega)
   rw [show(((enc3 e).length:Int)+1).toNat=(enc3 e).length+1 by omega,← e1] at hn
   refine zuM (.inr ?_);rw [hn];simp only [jC];omega
def zI:List Ent→Str
 |[]=>[]
 |e::l=>encB e++zI l
theorem Yj (a b:List Ent):zI (a++b)=zI a++zI b:=by
 induction a with
 |nil=>rfl
 |cons e l ih=>simp [zI,ih,jo]
theorem zf2: ∀ (f:Nat) (b:Str),b.length≤f→b=zI (dec b).1++(dec b).2∧∀ e ∈ (dec b).1,mayM e=true
 | f, b, hf=>by
   cases ho:oneM b with
   |none=>rw [zf0 ho];exact⟨rfl,fun e h=>by cases h⟩
   | some p=>
     obtain⟨e,r⟩:=p;obtain⟨h1,h2⟩:=zra ho;have hlt:=zfy ho
     cases f with
     |zero=>omega
     | succ f=>
       obtain⟨h3,h4⟩:=zf2 f r (by omega)
       rw [zfZ ho];refine⟨?_,fun x hx=> ?_⟩
       · simp only [zI]
         rw [jo,← h3];exact h2
       · cases hx with
         |head=>exact h1
         |tail _ h=>exact h4 x h
theorem torn: ∀ (l:List Ent) (k:Nat),(∀ e ∈ l,mayM e=true)→k≤(zI l).length→∃ W,W≤l.length∧(zI (l.take W)).length≤k∧(∀ j,j<l.length→((zI (l.take (j+1))).length≤k↔j<W))∧
  (dec ((zI l).take k)).1=l.take W∧(dec ((zI l).take k)).2.length+(zI (l.take W)).length=k
 | [],k,_,hk=>by
   have:k=0:=by simpa [zI] using hk
   subst this
   exact⟨0,jL _,jL _,fun j hj=>by simp at hj,rfl,rfl⟩
 | e :: l,k,hm,hk=>by
   have he:=hm e (List.mem_cons_self ..);simp only [zI,jk] at hk
   rcases Nat.lt_or_ge k (encB e).length with h1|h1
   · have ht:(zI (e::l)).take k=(encB e).take k:=by rw [zI,List.take_append_of_le_length (by omega)]
     have hl:((encB e).take k).length=k:=by rw [jv];omega
     have hn:=zq8 he (List.take_prefix k (encB e)) (by omega)
     rw [ht,zf0 hn]
     refine⟨0,jM _,jM _,fun j _=>⟨fun h=> ?_,fun h=>by omega⟩,rfl,by simp [zI,hl]⟩
     rw [List.take_succ_cons,zI,jk] at h;omega
   · obtain⟨W,a1,a2,a3,a4,a5⟩:=torn l (k - (encB e).length) (fun x hx=>hm x (List.mem_cons_of_mem _ hx)) (by omega)
     have ht:(zI (e::l)).take k=encB e++(zI l).take (k - (encB e).length):=by
      rw [zI,List.take_append,jq h1]
     rw [ht,zfZ (zom _ he)]
     refine⟨W+1,by simp;omega,?_,fun j hj=> ?_,by simp [a4],?_⟩
     · rw [List.take_succ_cons,zI,jk];omega
     · rw [List.take_succ_cons,zI,jk]
       cases j with
       |zero=>simp [zI];omega
       | succ j=>
         have:=a3 j (by simpa using hj)
         omega
     · rw [List.take_succ_cons,zI,jk];simp only;omega
theorem zvJ {e:Ent} (h:mayM e=true):(encB e).length≤e.text.length+50:=by
 have h0:=xA ((enc3 e).length+1);have h1:=xA (e.kind+1).toNat;have h2:=xA (e.id+1).toNat;have h3:=xA (e.n+1).toNat;simp only [encB,enc3,jk] at h0 ⊢;omega
end Go.Jrn
namespace Go.Proofs.YtkjepecoodjbmaaGreatDoor
open Go Go.Sep Go.Ab Go.Jrn
def zg5 (l:List Upl) (n:Int) (e:Ent):Int:=
 if e.kind=1 then(if creC l e.n e.text=0∧¬ n+1=e.id then 20 else creC l e.n e.text)
 else if e.kind=2 then appC l e.id (getU l e.id).bytes.length e.text
 else if e.kind=3 then decC l e.id e.n
 else if e.kind=4 then droC l e.id
 else if e.kind=5 then begC l e.id
 else endC l e.id
def Sz (l:List Upl) (n:Int) (e:Ent):List Upl:=
 if e.kind=1 then creL l n e.n e.text
 else if e.kind=2 then appL l e.id (getU l e.id).bytes.length e.text
 else if e.kind=3 then decL l e.id e.n
 else if e.kind=4 then droL l e.id
 else if e.kind=5 then begL l e.id
 else endL l e.id
def Sv (l:List Upl) (n:Int) (e:Ent):Int:=if e.kind=1 then creN l n e.n e.text else n
theorem zqT {l:List Upl} {n:Int} (h:zL l n) (e:Ent):zL (Sz l n e) (Sv l n e):=by
 unfold Sz Sv
 split
 · exact zz0 h _ _
 split
 · exact zAb h _ _ _
 split
 · exact zzY h _ _
 split
 · exact zzV h _
 split
 · exact zz8 h _
 · exact zzT h _
theorem zl7 (l:List Upl) (n:Int) (e:Ent):n≤Sv l n e∧Sv l n e≤n+1:=by
 unfold Sv creN
 split
 · split<;>omega
 · omega
def replay:List Upl × Int→List Ent→List Upl × Int
 |p,[]=>p
 |p,e::es=>replay (Sz p.1 p.2 e,Sv p.1 p.2 e) es
theorem Sj: ∀ (a b:List Ent) (p:List Upl × Int),replay p (a++b)=replay (replay p a) b
 |[],_,_=>rfl
 |_::a,b,_=>Sj a b _
theorem V6: ∀ (es:List Ent) (p:List Upl × Int),zL p.1 p.2→zL (replay p es).1 (replay p es).2
 |[],_,h=>h
 |e::es,_,h=>V6 es _ (zqT h e)
theorem zaz: ∀ (es:List Ent) (p:List Upl × Int),(replay p es).2≤p.2+es.length
 |[],_=>by simp [replay]
 | e::es,p=>by
   have:=zaz es (Sz p.1 p.2 e,Sv p.1 p.2 e);have:=zl7 p.1 p.2 e;simp only [replay,jh] at *;omega
theorem zjI {es:List Ent} {i:Nat} (p:List Upl × Int) (h:i<es.length):replay p (es.take (i+1))=(Sz (replay p (es.take i)).1 (replay p (es.take i)).2 es[i],Sv (replay p (es.take i)).1 (replay p (es.take i)).2 es[i]):=by
 rw [jB h,Sj];rfl
def wrtC (l:List Upl) (n:Int) (b:Str) (e:Ent):Int:=
 if ¬ zg5 l n e=0 then zg5 l n e else if ¬ encC e=0 then encC e else wrC b (encM e)
def wrtL (l:List Upl) (n:Int) (b:Str) (e:Ent):List Upl:=if wrtC l n b e=0 then Sz l n e else l
def wrtN (l:List Upl) (n:Int) (b:Str) (e:Ent):Int:=if wrtC l n b e=0 then Sv l n e else n
def wrtB (l:List Upl) (n:Int) (b:Str) (e:Ent):Str:=if wrtC l n b e=0 then b++encB e else b
theorem zbk {l:List Upl} {n:Int} (h:zL l n) (b:Str) (e:Ent):zL (wrtL l n b e) (wrtN l n b e):=by
 unfold wrtL wrtN
 split
 · exact zqT h e
 · exact h
theorem zjd (l:List Upl) (n:Int) (b:Str) (e:Ent):n≤wrtN l n b e∧wrtN l n b e≤n+1:=by
 have:=zl7 l n e;unfold wrtN
 split<;>omega
theorem zeK {l:List Upl} {n:Int} {b:Str} {e:Ent} (h:wrtC l n b e=0):zg5 l n e=0∧mayM e=true∧b.length+(encB e).length≤100000:=by
 unfold wrtC at h
 split at h
 · rename_i h1;exact absurd h h1
 rename_i h1
 split at h
 · rename_i h2;exact absurd h h2
 rename_i h2
 have hm:mayM e=true:=by
  unfold encC at h2
  cases hm:mayM e with
  |true=>rfl
  |false=>rw [hm] at h2;simp at h2
 unfold wrC at h
 split at h
 · rename_i h3
   refine⟨Decidable.not_not.1 h1,hm,?_⟩;unfold encM at h3;rw [if_pos hm] at h3;exact h3
 · cases h
theorem ZJ {l:List Upl} {n:Int} {b:Str} (e:Ent) (h:b.length≤100000):(wrtB l n b e).length≤100000:=by
 unfold wrtB
 split
 · rename_i h1
   rw [jk];exact(zeK h1).2.2
 · exact h
def crsB (b:Str) (s k:Int):Str:=cuB (crB b s k) (zbr (crB b s k))
def crsE (b:Str) (s k:Int):List Ent:=(Jrn.dec (crB b s k)).1
def crsP (b:Str) (s k:Int):List Upl × Int:=replay ([],0) (crsE b s k)
theorem zkY (b:Str):0≤zbr b∧zbr b≤b.length:=by
 have:=Jrn.zsK b;unfold zbr;omega
theorem zvM (b:Str) (s k:Int):cuS (crB b s k) (crB b s k).length (zbr (crB b s k))=(crsB b s k).length:=by
 have:=zkY (crB b s k);unfold crsB cuS cuB
 split
 · rw [jv];omega
 · rfl
theorem zf5 (b:Str) (s k:Int):(crB b s k).length≤b.length:=by unfold crB;rw [jv];omega
theorem znu (b:Str) (s k:Int):(crsB b s k).length≤b.length:=by
 have:=zf5 b s k;unfold crsB cuB
 split
 · rw [jv];omega
 · exact this
theorem zeA: ∀ {es:List Ent} {e:Ent},e ∈ es→(encB e).length≤(zI es).length
 | f::es,e,h=>by
   simp only [zI,jk]
   rcases List.mem_cons.1 h with rfl|h
   · omega
   · have:=zeA h;omega
theorem zvF (e:Ent):e.text.length≤(encB e).length:=by unfold encB enc3;simp only [jk];omega
theorem zoZ {b:Str} {s k:Int} (h:b.length≤100000):(crsE b s k).length≤100000∧∀ e ∈ crsE b s k,e.text.length≤100000:=by
 have h1:=zf5 b s k;have h2:=Jrn.zsK (crB b s k);have h3:=Jrn.zf2 _ (crB b s k) (jL _);have h4:=congrArg List.length h3.1;rw [jk] at h4;unfold crsE
 refine⟨by omega,fun e he=> ?_⟩
 have:=zeA he;have:=zvF e;omega
end Go.Proofs.YtkjepecoodjbmaaGreatDoor
