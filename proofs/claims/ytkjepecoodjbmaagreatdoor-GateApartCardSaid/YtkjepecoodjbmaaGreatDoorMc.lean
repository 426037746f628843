/- Texts of this proof, one behind the other: Shelf Lib ChrA ChrB ChrC ParL ParA ParC ParD Fnd FldA FldB FldG FldD FldE ChrD ChrN Base SplL SplA SplB JrnL JrnA JrnB JrnC JrnG JrnP StoL StoA SplC SplS SplD StoB StoN Num TusL RplL LnL. -/
import Derived.Shelf.Strings.SlTrimAscii
import Derived.Shelf.Strings.Trim
import Derived.Shelf.Small.Utf8
import Derived.Shelf.Small.Strs
import Derived.Shelf.Small.Wraps
import Derived.Shelf.Strconv.Itoa0
import Derived.Shelf.Strconv.Itoa1
import Derived.Shelf.LaysM
import Derived.Shelf.Strconv.Itoa2
import Derived.Shelf.Strconv.Itoa3
import Derived.Shelf.Strings.Search1
import Derived.Shelf.Strings.Search2
import Derived.Shelf.Strings.Search3
import Derived.Shelf.Strings.Cut
import Derived.Shelf.Strings.Count
import Derived.Shelf.Strings.Shaped
import Derived.Shelf.Strings.Prefix
import Derived.Shelf.Strings.Split
import Derived.Shelf.Strings.Runes
import Derived.Shelf.Strings.IndexAny
import Derived.Shelf.Strings.AsciiSet
import Derived.Shelf.Strings.IndexAnyAll
import Derived.Shelf.Unicode.DecodeSlow
import Derived.Test.YtkjepecoodjbmaaGreatDoorProg
import Derived.Below
import Derived.Lib.ItoaNum
import Derived.Test.YtkjepecoodjbmaaGreatDoorMb
set_option linter.all false
namespace Go.Proofs
open Go.Shelf
def Tryz.zjj:Go.Shelf.Ren:=⟨fun|161=>278|231=>265|227=>234|233=>267|235=>269|228=>235|197=>283|151=>284|260=>293|152=>232|137=>231|119=>262|224=>263|225=>264|217=>261|266=>282|n=>n,fun|9=>9|4=>4|3=>3|5=>5|117=>275|116=>274|0=>0|124=>295|105=>306|21=>21|119=>316|46=>117|139=>319|138=>318|n=>n,fun|3=>4|4=>5|n=>n⟩
theorem Tryz.lays161:Go.Proofs.Lays.n161 Tryz.prog Tryz.zjj:= {
 mixed:=by kernel_rfl
 f119:=Tryz.func262.trans (congrArg some (by kernel_rfl))
 f137:=Tryz.func231.trans (congrArg some (by kernel_rfl))
 f151:=Tryz.func284.trans (congrArg some (by kernel_rfl))
 f152:=Tryz.func232.trans (congrArg some (by kernel_rfl))
 f161:=Tryz.func278.trans (congrArg some (by kernel_rfl))
 f197:=Tryz.func283.trans (congrArg some (by kernel_rfl))
 f217:=Tryz.func261.trans (congrArg some (by kernel_rfl))
 f224:=Tryz.func263.trans (congrArg some (by kernel_rfl))
 f225:=Tryz.func264.trans (congrArg some (by kernel_rfl))
 f227:=Tryz.func234.trans (congrArg some (by kernel_rfl))
 f228:=Tryz.func235.trans (congrArg some (by kernel_rfl))
 f231:=Tryz.func265.trans (congrArg some (by kernel_rfl))
 f233:=Tryz.func267.trans (congrArg some (by kernel_rfl))
 f235:=Tryz.func269.trans (congrArg some (by kernel_rfl))
 f260:=Tryz.func293.trans (congrArg some (by kernel_rfl))
 f266:=Tryz.func282.trans (congrArg some (by kernel_rfl))
 t0:=Tryz.underlying0
 a0:=Tryz.isAgg0
 z0:=Tryz.sizeOf0
 v0:=Tryz.zeroValue0
 t3:=Tryz.underlying3
 a3:=Tryz.isAgg3
 z3:=Tryz.sizeOf3
 v3:=Tryz.zeroValue3
 t4:=Tryz.underlying4
 a4:=Tryz.isAgg4
 z4:=Tryz.sizeOf4
 v4:=Tryz.zeroValue4
 t5:=Tryz.underlying5
 a5:=Tryz.isAgg5
 z5:=Tryz.sizeOf5
 v5:=Tryz.zeroValue5
 t9:=Tryz.underlying9
 a9:=Tryz.isAgg9
 z9:=Tryz.sizeOf9
 v9:=Tryz.zeroValue9
 t21:=Tryz.underlying21
 a21:=Tryz.isAgg21
 z21:=Tryz.sizeOf21
 v21:=Tryz.zeroValue21
 t46:=Tryz.underlying117
 a46:=Tryz.isAgg117
 z46:=Tryz.sizeOf117
 v46:=Tryz.zeroValue117
 t105:=Tryz.underlying306
 a105:=Tryz.isAgg306
 z105:=Tryz.sizeOf306
 v105:=Tryz.zeroValue306
 t116:=Tryz.underlying274
 a116:=Tryz.isAgg274
 z116:=Tryz.sizeOf274
 t117:=Tryz.underlying275
 a117:=Tryz.isAgg275
 z117:=Tryz.sizeOf275
 v117:=Tryz.zeroValue275
 t119:=Tryz.underlying316
 a119:=Tryz.isAgg316
 z119:=Tryz.sizeOf316
 t124:=Tryz.underlying295
 a124:=Tryz.isAgg295
 z124:=Tryz.sizeOf295
 v124:=Tryz.zeroValue295
 t138:=Tryz.underlying318
 a138:=Tryz.isAgg318
 z138:=Tryz.sizeOf318
 v138:=Tryz.zeroValue318
 t139:=Tryz.underlying319
 a139:=Tryz.isAgg319
 z139:=Tryz.sizeOf319
 v139:=Tryz.zeroValue319
 g3:=by kernel_rfl
 g4:=by kernel_rfl}
def Tryz.zjk:Go.Shelf.Ren:=⟨fun|160=>237|232=>266|231=>265|227=>234|234=>268|233=>267|236=>270|235=>269|228=>235|271=>285|151=>284|197=>283|120=>294|152=>232|260=>293|137=>231|119=>262|224=>263|225=>264|217=>261|266=>282|n=>n,fun|9=>9|4=>4|3=>3|5=>5|117=>275|116=>274|0=>0|124=>295|21=>21|105=>306|46=>117|119=>316|139=>319|138=>318|n=>n,fun|3=>4|4=>5|n=>n⟩
theorem Tryz.lays160:Go.Proofs.Lays.n160 Tryz.prog Tryz.zjk:= {
 mixed:=by kernel_rfl
 f119:=Tryz.func262.trans (congrArg some (by kernel_rfl))
 f120:=Tryz.func294.trans (congrArg some (by kernel_rfl))
 f137:=Tryz.func231.trans (congrArg some (by kernel_rfl))
 f151:=Tryz.func284.trans (congrArg some (by kernel_rfl))
 f152:=Tryz.func232.trans (congrArg some (by kernel_rfl))
 f160:=Tryz.func237.trans (congrArg some (by kernel_rfl))
 f197:=Tryz.func283.trans (congrArg some (by kernel_rfl))
 f217:=Tryz.func261.trans (congrArg some (by kernel_rfl))
 f224:=Tryz.func263.trans (congrArg some (by kernel_rfl))
 f225:=Tryz.func264.trans (congrArg some (by kernel_rfl))
 f227:=Tryz.func234.trans (congrArg some (by kernel_rfl))
 f228:=Tryz.func235.trans (congrArg some (by kernel_rfl))
 f231:=Tryz.func265.trans (congrArg some (by kernel_rfl))
 f232:=Tryz.func266.trans (congrArg some (by kernel_rfl))
 f233:=Tryz.func267.trans (congrArg some (by kernel_rfl))
 f234:=Tryz.func268.trans (congrArg some (by kernel_rfl))
 f235:=Tryz.func269.trans (congrArg some (by kernel_rfl))
 f236:=Tryz.func270.trans (congrArg some (by kernel_rfl))
 f260:=Tryz.func293.trans (congrArg some (by kernel_rfl))
 f266:=Tryz.func282.trans (congrArg some (by kernel_rfl))
 f271:=Tryz.func285.trans (congrArg some (by kernel_rfl))
 t0:=Tryz.underlying0
 a0:=Tryz.isAgg0
 z0:=Tryz.sizeOf0
 v0:=Tryz.zeroValue0
 t3:=Tryz.underlying3
 a3:=Tryz.isAgg3
 z3:=Tryz.sizeOf3
 v3:=Tryz.zeroValue3
 t4:=Tryz.underlying4
 a4:=Tryz.isAgg4
 z4:=Tryz.sizeOf4
 v4:=Tryz.zeroValue4
 t5:=Tryz.underlying5
 a5:=Tryz.isAgg5
 z5:=Tryz.sizeOf5
 v5:=Tryz.zeroValue5
 t9:=Tryz.underlying9
 a9:=Tryz.isAgg9
 z9:=Tryz.sizeOf9
 v9:=Tryz.zeroValue9
 t21:=Tryz.underlying21
 a21:=Tryz.isAgg21
 z21:=Tryz.sizeOf21
 v21:=Tryz.zeroValue21
 t46:=Tryz.underlying117
 a46:=Tryz.isAgg117
 z46:=Tryz.sizeOf117
 v46:=Tryz.zeroValue117
 t105:=Tryz.underlying306
 a105:=Tryz.isAgg306
 z105:=Tryz.sizeOf306
 v105:=Tryz.zeroValue306
 t116:=Tryz.underlying274
 a116:=Tryz.isAgg274
 z116:=Tryz.sizeOf274
 t117:=Tryz.underlying275
 a117:=Tryz.isAgg275
 z117:=Tryz.sizeOf275
 v117:=Tryz.zeroValue275
 t119:=Tryz.underlying316
 a119:=Tryz.isAgg316
 z119:=Tryz.sizeOf316
 t124:=Tryz.underlying295
 a124:=Tryz.isAgg295
 z124:=Tryz.sizeOf295
 v124:=Tryz.zeroValue295
 t138:=Tryz.underlying318
 a138:=Tryz.isAgg318
 z138:=Tryz.sizeOf318
 v138:=Tryz.zeroValue318
 t139:=Tryz.underlying319
 a139:=Tryz.isAgg319
 z139:=Tryz.sizeOf319
 v139:=Tryz.zeroValue319
 g3:=by kernel_rfl
 g4:=by kernel_rfl}
def Tryz.zjm:Go.Shelf.Ren:=⟨fun|137=>231|217=>261|266=>282|n=>n,fun|9=>9|5=>5|3=>3|n=>n,fun|n=>n⟩
theorem Tryz.lays137:Go.Proofs.Lays.n137 Tryz.prog Tryz.zjm:= {
 mixed:=by kernel_rfl
 f137:=Tryz.func231.trans (congrArg some (by kernel_rfl))
 f217:=Tryz.func261.trans (congrArg some (by kernel_rfl))
 f266:=Tryz.func282.trans (congrArg some (by kernel_rfl))
 t3:=Tryz.underlying3
 a3:=Tryz.isAgg3
 z3:=Tryz.sizeOf3
 v3:=Tryz.zeroValue3
 t5:=Tryz.underlying5
 a5:=Tryz.isAgg5
 z5:=Tryz.sizeOf5
 v5:=Tryz.zeroValue5
 t9:=Tryz.underlying9
 a9:=Tryz.isAgg9
 z9:=Tryz.sizeOf9
 v9:=Tryz.zeroValue9}
def Tryz.zjn:Go.Shelf.Ren:=⟨fun|103=>181|210=>218|206=>85|n=>n,fun|9=>9|4=>4|24=>201|3=>3|n=>n,fun|n=>n⟩
theorem Tryz.zvz:Go.Proofs.Lays.n103 Tryz.prog Tryz.zjn:= {
 mixed:=by kernel_rfl
 f103:=Tryz.func181.trans (congrArg some (by kernel_rfl))
 f206:=Tryz.func85.trans (congrArg some (by kernel_rfl))
 f210:=Tryz.func218.trans (congrArg some (by kernel_rfl))
 t3:=Tryz.underlying3
 a3:=Tryz.isAgg3
 z3:=Tryz.sizeOf3
 v3:=Tryz.zeroValue3
 t4:=Tryz.underlying4
 a4:=Tryz.isAgg4
 z4:=Tryz.sizeOf4
 v4:=Tryz.zeroValue4
 t9:=Tryz.underlying9
 a9:=Tryz.isAgg9
 z9:=Tryz.sizeOf9
 v9:=Tryz.zeroValue9
 t24:=Tryz.underlying201
 a24:=Tryz.isAgg201
 z24:=Tryz.sizeOf201
 v24:=Tryz.zeroValue201}
def Tryz.zhh:Go.Shelf.Ren:=⟨fun|171=>103|243=>141|246=>191|283=>225|284=>226|285=>227|286=>228|129=>257|317=>256|318=>258|319=>259|320=>260|337=>280|338=>281|n=>n,fun|3=>3|9=>9|2=>2|4=>4|171=>265|0=>0|53=>266|37=>22|5=>5|173=>269|212=>290|51=>291|20=>20|213=>292|46=>117|232=>312|233=>313|n=>n,fun|17=>0|18=>2|19=>3|n=>n⟩
theorem Tryz.laysM171:Go.Proofs.LaysM.n171 Tryz.prog Tryz.zhh:= {
 mixed:=by kernel_rfl
 f129:=Tryz.func257.trans (congrArg some (by kernel_rfl))
 f171:=Tryz.func103.trans (congrArg some (by kernel_rfl))
 f243:=Tryz.func141.trans (congrArg some (by kernel_rfl))
 f246:=Tryz.func191.trans (congrArg some (by kernel_rfl))
 f283:=Tryz.func225.trans (congrArg some (by kernel_rfl))
 f284:=Tryz.func226.trans (congrArg some (by kernel_rfl))
 f285:=Tryz.func227.trans (congrArg some (by kernel_rfl))
 f286:=Tryz.func228.trans (congrArg some (by kernel_rfl))
 f317:=Tryz.func256.trans (congrArg some (by kernel_rfl))
 f318:=Tryz.func258.trans (congrArg some (by kernel_rfl))
 f319:=Tryz.func259.trans (congrArg some (by kernel_rfl))
 f320:=Tryz.func260.trans (congrArg some (by kernel_rfl))
 f337:=Tryz.func280.trans (congrArg some (by kernel_rfl))
 f338:=Tryz.func281.trans (congrArg some (by kernel_rfl))
 t0:=Tryz.underlying0
 a0:=Tryz.isAgg0
 z0:=Tryz.sizeOf0
 v0:=Tryz.zeroValue0
 t2:=Tryz.underlying2
 a2:=Tryz.isAgg2
 z2:=Tryz.sizeOf2
 v2:=Tryz.zeroValue2
 t3:=Tryz.underlying3
 a3:=Tryz.isAgg3
 z3:=Tryz.sizeOf3
 v3:=Tryz.zeroValue3
 t4:=Tryz.underlying4
 a4:=Tryz.isAgg4
 z4:=Tryz.sizeOf4
 v4:=Tryz.zeroValue4
 t5:=Tryz.underlying5
 a5:=Tryz.isAgg5
 z5:=Tryz.sizeOf5
 v5:=Tryz.zeroValue5
 t9:=Tryz.underlying9
 a9:=Tryz.isAgg9
 z9:=Tryz.sizeOf9
 v9:=Tryz.zeroValue9
 t20:=Tryz.underlying20
 a20:=Tryz.isAgg20
 z20:=Tryz.sizeOf20
 v20:=Tryz.zeroValue20
 t37:=Tryz.underlying22
 a37:=Tryz.isAgg22
 z37:=Tryz.sizeOf22
 v37:=Tryz.zeroValue22
 t46:=Tryz.underlying117
 a46:=Tryz.isAgg117
 z46:=Tryz.sizeOf117
 v46:=Tryz.zeroValue117
 t51:=Tryz.underlying291
 a51:=Tryz.isAgg291
 z51:=Tryz.sizeOf291
 v51:=Tryz.zeroValue291
 t53:=Tryz.underlying266
 a53:=Tryz.isAgg266
 z53:=Tryz.sizeOf266
 v53:=Tryz.zeroValue266
 t171:=Tryz.underlying265
 a171:=Tryz.isAgg265
 z171:=Tryz.sizeOf265
 v171:=Tryz.zeroValue265
 t173:=Tryz.underlying269
 a173:=Tryz.isAgg269
 z173:=Tryz.sizeOf269
 v173:=Tryz.zeroValue269
 t212:=Tryz.underlying290
 a212:=Tryz.isAgg290
 z212:=Tryz.sizeOf290
 v212:=Tryz.zeroValue290
 t213:=Tryz.underlying292
 a213:=Tryz.isAgg292
 z213:=Tryz.sizeOf292
 t232:=Tryz.underlying312
 a232:=Tryz.isAgg312
 z232:=Tryz.sizeOf312
 v232:=Tryz.zeroValue312
 t233:=Tryz.underlying313
 a233:=Tryz.isAgg313
 z233:=Tryz.sizeOf313
 v233:=Tryz.zeroValue313
 g17:=by kernel_rfl
 g18:=by kernel_rfl
 g19:=by kernel_rfl
 i0:=by kernel_rfl
 i2:=by kernel_rfl
 i3:=by kernel_rfl
 i4:=by kernel_rfl
 i5:=by kernel_rfl
 i9:=by kernel_rfl
 i20:=by kernel_rfl
 i37:=by kernel_rfl
 i46:=by kernel_rfl
 i51:=by kernel_rfl
 i53:=by kernel_rfl
 i171:=by kernel_rfl
 i173:=by kernel_rfl
 i212:=by kernel_rfl
 i232:=by kernel_rfl
 i233:=by kernel_rfl
 m17:=by kernel_rfl
 m18:=by kernel_rfl
 m19:=by kernel_rfl}
def Tryz.zji:Go.Shelf.Ren:=⟨fun|219=>273|217=>261|225=>264|224=>263|267=>288|266=>282|314=>295|n=>n,fun|9=>9|3=>3|4=>4|5=>5|46=>117|146=>314|51=>291|n=>n,fun|1=>1|n=>n⟩
theorem Tryz.lays219:Go.Proofs.Lays.n219 Tryz.prog Tryz.zji:= {
 mixed:=by kernel_rfl
 f217:=Tryz.func261.trans (congrArg some (by kernel_rfl))
 f219:=Tryz.func273.trans (congrArg some (by kernel_rfl))
 f224:=Tryz.func263.trans (congrArg some (by kernel_rfl))
 f225:=Tryz.func264.trans (congrArg some (by kernel_rfl))
 f266:=Tryz.func282.trans (congrArg some (by kernel_rfl))
 f267:=Tryz.func288.trans (congrArg some (by kernel_rfl))
 f314:=Tryz.func295.trans (congrArg some (by kernel_rfl))
 t3:=Tryz.underlying3
 a3:=Tryz.isAgg3
 z3:=Tryz.sizeOf3
 v3:=Tryz.zeroValue3
 t4:=Tryz.underlying4
 a4:=Tryz.isAgg4
 z4:=Tryz.sizeOf4
 v4:=Tryz.zeroValue4
 t5:=Tryz.underlying5
 a5:=Tryz.isAgg5
 z5:=Tryz.sizeOf5
 v5:=Tryz.zeroValue5
 t9:=Tryz.underlying9
 a9:=Tryz.isAgg9
 z9:=Tryz.sizeOf9
 v9:=Tryz.zeroValue9
 t46:=Tryz.underlying117
 a46:=Tryz.isAgg117
 z46:=Tryz.sizeOf117
 v46:=Tryz.zeroValue117
 t51:=Tryz.underlying291
 a51:=Tryz.isAgg291
 z51:=Tryz.sizeOf291
 v51:=Tryz.zeroValue291
 t146:=Tryz.underlying314
 a146:=Tryz.isAgg314
 z146:=Tryz.sizeOf314
 v146:=Tryz.zeroValue314
 g1:=by kernel_rfl}
def Tryz.zjl:Go.Shelf.Ren:=⟨fun|144=>211|143=>242|219=>273|217=>261|225=>264|224=>263|267=>288|266=>282|314=>295|n=>n,fun|9=>9|4=>4|3=>3|5=>5|46=>117|146=>314|51=>291|n=>n,fun|1=>1|n=>n⟩
theorem Tryz.lays144:Go.Proofs.Lays.n144 Tryz.prog Tryz.zjl:= {
 mixed:=by kernel_rfl
 f143:=Tryz.func242.trans (congrArg some (by kernel_rfl))
 f144:=Tryz.func211.trans (congrArg some (by kernel_rfl))
 f217:=Tryz.func261.trans (congrArg some (by kernel_rfl))
 f219:=Tryz.func273.trans (congrArg some (by kernel_rfl))
 f224:=Tryz.func263.trans (congrArg some (by kernel_rfl))
 f225:=Tryz.func264.trans (congrArg some (by kernel_rfl))
 f266:=Tryz.func282.trans (congrArg some (by kernel_rfl))
 f267:=Tryz.func288.trans (congrArg some (by kernel_rfl))
 f314:=Tryz.func295.trans (congrArg some (by kernel_rfl))
 t3:=Tryz.underlying3
 a3:=Tryz.isAgg3
 z3:=Tryz.sizeOf3
 v3:=Tryz.zeroValue3
 t4:=Tryz.underlying4
 a4:=Tryz.isAgg4
 z4:=Tryz.sizeOf4
 v4:=Tryz.zeroValue4
 t5:=Tryz.underlying5
 a5:=Tryz.isAgg5
 z5:=Tryz.sizeOf5
 v5:=Tryz.zeroValue5
 t9:=Tryz.underlying9
 a9:=Tryz.isAgg9
 z9:=Tryz.sizeOf9
 v9:=Tryz.zeroValue9
 t46:=Tryz.underlying117
 a46:=Tryz.isAgg117
 z46:=Tryz.sizeOf117
 v46:=Tryz.zeroValue117
 t51:=Tryz.underlying291
 a51:=Tryz.isAgg291
 z51:=Tryz.sizeOf291
 v51:=Tryz.zeroValue291
 t146:=Tryz.underlying314
 a146:=Tryz.isAgg314
 z146:=Tryz.sizeOf314
 v146:=Tryz.zeroValue314
 g1:=by kernel_rfl}
def Tryz.lays99_ren:Go.Shelf.Ren:=⟨fun|99=>48|206=>85|n=>n,fun|9=>9|4=>4|3=>3|n=>n,fun|n=>n⟩
theorem Tryz.lays99:Go.Proofs.Lays.n99 Tryz.prog Tryz.lays99_ren:= {
 mixed:=by kernel_rfl
 f99:=Tryz.func48.trans (congrArg some (by kernel_rfl))
 f206:=Tryz.func85.trans (congrArg some (by kernel_rfl))
 t3:=Tryz.underlying3
 a3:=Tryz.isAgg3
 z3:=Tryz.sizeOf3
 v3:=Tryz.zeroValue3
 t4:=Tryz.underlying4
 a4:=Tryz.isAgg4
 z4:=Tryz.sizeOf4
 v4:=Tryz.zeroValue4
 t9:=Tryz.underlying9
 a9:=Tryz.isAgg9
 z9:=Tryz.sizeOf9
 v9:=Tryz.zeroValue9}
def Tryz.lays146_ren:Go.Shelf.Ren:=⟨fun|146=>210|221=>241|268=>271|138=>272|143=>242|195=>286|197=>283|218=>287|219=>273|260=>293|217=>261|225=>264|224=>263|267=>288|266=>282|314=>295|n=>n,fun|9=>9|31=>146|3=>3|4=>4|0=>0|105=>306|21=>21|5=>5|46=>117|119=>316|139=>319|138=>318|146=>314|51=>291|n=>n,fun|1=>1|3=>4|4=>5|n=>n⟩
theorem Tryz.lays146:Go.Proofs.Lays.n146 Tryz.prog Tryz.lays146_ren:= {
 mixed:=by kernel_rfl
 f138:=Tryz.func272.trans (congrArg some (by kernel_rfl))
 f143:=Tryz.func242.trans (congrArg some (by kernel_rfl))
 f146:=Tryz.func210.trans (congrArg some (by kernel_rfl))
 f195:=Tryz.func286.trans (congrArg some (by kernel_rfl))
 f197:=Tryz.func283.trans (congrArg some (by kernel_rfl))
 f217:=Tryz.func261.trans (congrArg some (by kernel_rfl))
 f218:=Tryz.func287.trans (congrArg some (by kernel_rfl))
 f219:=Tryz.func273.trans (congrArg some (by kernel_rfl))
 f221:=Tryz.func241.trans (congrArg some (by kernel_rfl))
 f224:=Tryz.func263.trans (congrArg some (by kernel_rfl))
 f225:=Tryz.func264.trans (congrArg some (by kernel_rfl))
 f260:=Tryz.func293.trans (congrArg some (by kernel_rfl))
 f266:=Tryz.func282.trans (congrArg some (by kernel_rfl))
 f267:=Tryz.func288.trans (congrArg some (by kernel_rfl))
 f268:=Tryz.func271.trans (congrArg some (by kernel_rfl))
 f314:=Tryz.func295.trans (congrArg some (by kernel_rfl))
 t0:=Tryz.underlying0
 a0:=Tryz.isAgg0
 z0:=Tryz.sizeOf0
 v0:=Tryz.zeroValue0
 t3:=Tryz.underlying3
 a3:=Tryz.isAgg3
 z3:=Tryz.sizeOf3
 v3:=Tryz.zeroValue3
 t4:=Tryz.underlying4
 a4:=Tryz.isAgg4
 z4:=Tryz.sizeOf4
 v4:=Tryz.zeroValue4
 t5:=Tryz.underlying5
 a5:=Tryz.isAgg5
 z5:=Tryz.sizeOf5
 v5:=Tryz.zeroValue5
 t9:=Tryz.underlying9
 a9:=Tryz.isAgg9
 z9:=Tryz.sizeOf9
 v9:=Tryz.zeroValue9
 t21:=Tryz.underlying21
 a21:=Tryz.isAgg21
 z21:=Tryz.sizeOf21
 v21:=Tryz.zeroValue21
 t31:=Tryz.underlying146
 a31:=Tryz.isAgg146
 z31:=Tryz.sizeOf146
 v31:=Tryz.zeroValue146
 t46:=Tryz.underlying117
 a46:=Tryz.isAgg117
 z46:=Tryz.sizeOf117
 v46:=Tryz.zeroValue117
 t51:=Tryz.underlying291
 a51:=Tryz.isAgg291
 z51:=Tryz.sizeOf291
 v51:=Tryz.zeroValue291
 t105:=Tryz.underlying306
 a105:=Tryz.isAgg306
 z105:=Tryz.sizeOf306
 v105:=Tryz.zeroValue306
 t119:=Tryz.underlying316
 a119:=Tryz.isAgg316
 z119:=Tryz.sizeOf316
 t138:=Tryz.underlying318
 a138:=Tryz.isAgg318
 z138:=Tryz.sizeOf318
 v138:=Tryz.zeroValue318
 t139:=Tryz.underlying319
 a139:=Tryz.isAgg319
 z139:=Tryz.sizeOf319
 v139:=Tryz.zeroValue319
 t146:=Tryz.underlying314
 a146:=Tryz.isAgg314
 z146:=Tryz.sizeOf314
 v146:=Tryz.zeroValue314
 g1:=by kernel_rfl
 g3:=by kernel_rfl
 g4:=by kernel_rfl}
open Go.RowKit in
theorem Tryz.strings_IndexByte (s:ByteArray) (c:Int) (w:World):
 Calls Tryz.prog 231 #[.string s,.int .u8 c] w fun e w'=>e=.returned (.int .i64 (Lib.indexByte s.data.toList c.toNat.toUInt8))∧w'=w:=Any.strings_IndexByte Tryz.lays137 s c w
open Go.RowKit in
theorem Tryz.strings_CutPrefix (s p:ByteArray) (w:World):
 Calls Tryz.prog 181 #[.string s,.string p] w fun e w'=>e=.returned (.tuple #[.string ⟨(Lib.trimPrefix s.data.toList p.data.toList).toArray⟩,.bool (Lib.hasPrefix s.data.toList p.data.toList)])∧w'=w:=Any.strings_CutPrefix Tryz.zvz s p w
open Go.RowKit Go.Sort Go.Lib in
theorem Tryz.strconv_Itoa (n:Int) (h0: -9223372036854775808≤n) (h1:n≤9223372036854775807) (w:World) (htab:Lib.TabIs Tryz.prog w "internal/strconv.uint64pow10" .u64 Lib.pow10Tab):
 Calls Tryz.prog 103 #[.int .i64 n] w fun e w'=>e=.returned (.string ⟨(Lib.itoa n).toArray⟩)∧∃ k os,w'=grow (w.drewN k) os:=Any.strconv_Itoa Tryz.laysM171 n h0 h1 w htab
open Go.RowKit Go.Lib in
theorem Tryz.stringslite_Index_one (s:ByteArray) (c:UInt8) (w:World):
 Calls Tryz.prog 273 #[.string s,.string ⟨#[c]⟩] w fun e w'=>e=.returned (.int .i64 (Lib.indexByte s.data.toList c))∧w'=w:=Any.stringslite_Index_one Tryz.lays219 s c w
open Go.RowKit Go.Lib in
theorem Tryz.strings_Contains_one (s:ByteArray) (c:UInt8) (w:World):
 Calls Tryz.prog 211 #[.string s,.string ⟨#[c]⟩] w fun e w'=>e=.returned (.bool (decide (0≤Lib.indexByte s.data.toList c)))∧w'=w:=Any.strings_Contains_one Tryz.lays144 s c w
open Go.RowKit Go.Lib in
theorem Tryz.strings_HasPrefix (s p:ByteArray) (w:World):
 Calls Tryz.prog 48 #[.string s,.string p] w fun e w'=>e=.returned (.bool (Lib.hasPrefix s.data.toList p.data.toList))∧w'=w:=Any.strings_HasPrefix Tryz.lays99 s p w
open Go.RowKit Go.Lib in
theorem Tryz.strings_Split (s sep:ByteArray) (m:Int) (w:World) (hs:s.size<4294967281) (hm:w.cell? ⟨1,0,none⟩=some (.int .i64 m)) (h1:1≤sep.size):
 Calls Tryz.prog 210 #[.string s,.string sep] w fun e w'=>
  e=.returned (.slice (some ⟨w.heap.size,0,none⟩) (Lib.countB s sep+1) (Lib.countB s sep+1))∧w'=w.alloc (.cells ((Lib.splitB sep 0 (Lib.countB s sep) s).map Value.string).toArray 9):=Any.strings_Split Tryz.lays146 (by kernel_rfl) s sep m w hs hm h1
theorem Tryz.strings_Trim_laid (s cutset:ByteArray) (w:World) (hs:s.size≤9223372036854775807) (hcs:cutset.size<4294967281) (hascii: ∀ (j:Nat) b,cutset.data.toList[j]? =some b→b.toNat<128):
 Calls Tryz.prog 237 #[.string s,.string cutset] w fun e w'=>e=.returned (.string ⟨(Lib.trimS s.data.toList cutset.data.toList).toArray⟩)∧Go.RowKit.Below w.heap.size w w':=Any.strings_Trim_laid Tryz.lays160 (by kernel_rfl) s cutset w hs hcs hascii
theorem Tryz.strings_TrimLeft_laid (s cutset:ByteArray) (w:World) (hcs:cutset.size<4294967281) (hascii: ∀ (j:Nat) b,cutset.data.toList[j]? =some b→b.toNat<128):
 Calls Tryz.prog 278 #[.string s,.string cutset] w fun e w'=>e=.returned (.string ⟨(Lib.trimLeftS s.data.toList cutset.data.toList).toArray⟩)∧Go.RowKit.Below w.heap.size w w':=Any.strings_TrimLeft_laid Tryz.lays161 (by kernel_rfl) s cutset w hcs hascii
end Go.Proofs
namespace Go.Ab
open Go Go.Sep
variable [Facts]
theorem zj5 {w w':World} (h:RowKit.Below w.heap.size w w'):Keeps (fun k=>k<w.heap.size) w w':=⟨h.1,h.2,h.3,h.4,h.5⟩
theorem Spc.of_below {Pr:Program} {f:Nat} {args:List D} {hp:List HO} {d:D} (hf: ∃ fn,Pr.funcs[f]? =some fn∧(fn.name == "runtime.NumGoroutine")=false∧fn.body.isNone=false)
  (h: ∀ (S:Frz) (bs:List Value) (w:World) (vs:List Value),Facts.p w→MDs S bs args vs→∃ v,MD S bs d v∧Calls Pr f vs.toArray w fun e w'=>e=.returned v∧RowKit.Below w.heap.size w w'):Spc Pr f args hp (.ret d) hp:=by
 refine⟨hf,fun S K fr w vs hH hM hA=> ?_⟩;obtain⟨v,hv,hc⟩:=h S _ w vs (At.frz hA).facts hM;refine hc.mono fun e w' he=> ?_;obtain⟨he,hb⟩:=he;subst he;exact⟨S,K,Frz.le.refl S,Ext.refl _,hH,hA.keep (zj5 hb),hv⟩
end Go.Ab
namespace Go.Proofs.YtkjepecoodjbmaaGreatDoor
open Go Go.Sep Go.Ab
set_option maxRecDepth 100000
theorem zkl (s cs:Str):(Lib.trimS s cs).length≤s.length:=by
 unfold Lib.trimS Lib.trimLeftS Lib.trimRightS;refine Nat.le_trans (List.dropWhile_sublist _).length_le ?_;rw [List.length_reverse]
 exact Nat.le_trans (List.dropWhile_sublist _).length_le (by rw [List.length_reverse];exact jL _)
theorem vC: ∀ (s:Str) (c:UInt8),-1≤Lib.indexByte s c∧Lib.indexByte s c<s.length
 |[],c=>by simp [Lib.indexByte]
 | b ::l,c=>by
   have:=vC l c;unfold Lib.indexByte;rw [jh]
   split
   · omega
   · split
     · omega
     · omega
def zeV (I:Alg) (args:List D) (hp:List HO):Option CT:=match args,hp with
 |[.v (.one (.p (.str s))),.v (.one (.p (.str ([32,9]))))],[]=>(fun(s:Str)=>(some (.one ⟨I.hid (True),(.ret (.v (.one (.p (.str (I.hid (Lib.trimS s [32,9]))))))),[]⟩):Option CT)) s
 |_,_=>none
theorem zob:zx Tryz.prog 237 (zeV alg):=by
 intro args hp r h;unfold zeV at h;split at h<;>cases h
 rename_i s;simp only [CT.Good,zi];intro _
 refine Spc.of_below ⟨_,Tryz.func237,by kernel_rfl,by kernel_rfl⟩ fun S bs w vs _ hM=> ?_
 obtain⟨v,r,rfl⟩: ∃ v r,vs=v::r:=by cases vs with|nil=>exact hM.elim|cons v r=>exact⟨v,r,rfl⟩
 obtain⟨h1,hM⟩:=hM
 obtain⟨v2,r2,rfl⟩: ∃ v r2,r=v::r2:=by cases r with|nil=>exact hM.elim|cons v r=>exact⟨v,r,rfl⟩
 obtain⟨h2,hM⟩:=hM
 obtain rfl:r2=[]:=by cases r2 with|nil=>rfl|cons v r=>exact hM.elim
 cases h1 with
 | str _ hl1=>
   cases h2 with
   | str _ hl2=>
     refine⟨.string (Sep.S (Lib.trimS s [32,9])),.str _ (Nat.le_trans (zkl _ _) hl1),?_⟩
     exact Tryz.strings_Trim_laid (Sep.S s) (Sep.S [32,9]) w (by have:=hl1;unfold maxLen at this;exact this) (by decide) (fun j b hb=>by
      have:=List.mem_of_getElem? hb
      rcases(by simpa [Sep.S] using this:b=32∨b=9) with rfl|rfl<;>decide)
def zuS:Know Tryz.prog:=⟨237,zeV,zob⟩
def zuR:Know Tryz.prog:=⟨237,fun I=>zy I (zeV I),zf zob⟩
def qW (I:Alg) (args:List D) (hp:List HO):Option CT:=match args,hp with
 |[.v (.one (.p (.str s))),.v (.one (.p (.int .u8 k)))],[]=>(fun(s:Str) (k:Int)=>(some (.one ⟨I.hid (True),(.ret (.v (.one (.p (.int .i64 (I.hid (Lib.indexByte s k.toNat.toUInt8))))))),[]⟩):Option CT)) s k
 |_,_=>none
theorem QD:zx Tryz.prog 231 (qW alg):=by
 intro args hp r h;unfold qW at h;split at h<;>cases h
 rename_i s k;simp only [CT.Good,zi];intro _
 refine Spc.of_below ⟨_,Tryz.func231,by kernel_rfl,by kernel_rfl⟩ fun S bs w vs _ hM=> ?_
 obtain⟨v,r,rfl⟩: ∃ v r,vs=v::r:=by cases vs with|nil=>exact hM.elim|cons v r=>exact⟨v,r,rfl⟩
 obtain⟨h1,hM⟩:=hM
 obtain⟨v2,r2,rfl⟩: ∃ v r2,r=v::r2:=by cases r with|nil=>exact hM.elim|cons v r=>exact⟨v,r,rfl⟩
 obtain⟨h2,hM⟩:=hM
 obtain rfl:r2=[]:=by cases r2 with|nil=>rfl|cons v r=>exact hM.elim
 cases h1 with
 | str _ hl1=>
   cases h2 with
   | int _ _=>
     refine⟨.int .i64 (Lib.indexByte s k.toNat.toUInt8),.int _ _,?_⟩;refine(Tryz.strings_IndexByte (Sep.S s) k w).mono fun e w' h=> ?_;obtain⟨he,rfl⟩:=h;exact⟨he,RowKit.Below.refl _ _⟩
def zht:Know Tryz.prog:=⟨231,qW,QD⟩
def zhs:Know Tryz.prog:=⟨231,fun I=>zy I (qW I),zf QD⟩
def UE (I:Alg) (args:List D) (hp:List HO):Option CT:=match args,hp with
 |[.v (.one (.p (.str s))),.v (.one (.p (.str ([c]))))],[]=>(fun(s:Str) (c:UInt8)=>(some (.one ⟨I.hid (True),(.ret (.v (.one (.p (.int .i64 (I.hid (Lib.indexByte s c))))))),[]⟩):Option CT)) s c
 |_,_=>none
theorem zhu:zx Tryz.prog 273 (UE alg):=by
 intro args hp r h;unfold UE at h;split at h<;>cases h
 rename_i s c;simp only [CT.Good,zi];intro _
 refine Spc.of_below ⟨_,Tryz.func273,by kernel_rfl,by kernel_rfl⟩ fun S bs w vs _ hM=> ?_
 obtain⟨v,r,rfl⟩: ∃ v r,vs=v::r:=by cases vs with|nil=>exact hM.elim|cons v r=>exact⟨v,r,rfl⟩
 obtain⟨h1,hM⟩:=hM
 obtain⟨v2,r2,rfl⟩: ∃ v r2,r=v::r2:=by cases r with|nil=>exact hM.elim|cons v r=>exact⟨v,r,rfl⟩
 obtain⟨h2,hM⟩:=hM
 obtain rfl:r2=[]:=by cases r2 with|nil=>rfl|cons v r=>exact hM.elim
 cases h1 with
 | str _ hl1=>
   cases h2 with
   | str _ _=>
     refine⟨.int .i64 (Lib.indexByte s c),.int _ _,?_⟩;refine(Tryz.stringslite_Index_one (Sep.S s) c w).mono fun e w' h=> ?_;obtain⟨he,rfl⟩:=h;exact⟨he,RowKit.Below.refl _ _⟩
def zqh:Know Tryz.prog:=⟨273,UE,zhu⟩
def zqg:Know Tryz.prog:=⟨273,fun I=>zy I (UE I),zf zhu⟩
end Go.Proofs.YtkjepecoodjbmaaGreatDoor
namespace Go.Proofs.YtkjepecoodjbmaaGreatDoor
open Go Go.Sep Go.Ab
set_option maxRecDepth 100000
def lowK (k:Int):Int:=if 65≤k∧k≤90 then k+32 else k
def zcV (k:Int):Bool:=decide (48≤k∧k≤57)
def Va (k:Int):Bool:=decide (97≤lowK k∧lowK k≤122)
def marks:Str:=[33,35,36,37,38,39,42,43,45,46,94,95,96,124,126]
def tokB (k:Int):Bool:=zcV k||(Va k||decide (0≤Lib.indexByte marks k.toNat.toUInt8))
def zbP (k:Int):Bool:=decide (k=9∨32≤k∧k≠127)
def hexK (k:Int):Int:=if zcV k then k - 48 else if Va k&&decide (lowK k≤102) then lowK k - 97+10 else -1
theorem zxI (n:Int) (h:0≤n∧n≤255):IntKind.u8.wrap n=n:=by
 unfold IntKind.wrap
 simp only [show IntKind.u8.signed=false by decide,show IntKind.u8.bits=8 by decide,Bool.false_and,jd,if_false]
 omega
theorem wrap64 (n:Int) (h: -9223372036854775808≤n∧n≤9223372036854775807):IntKind.i64.wrap n=n:=by
 unfold IntKind.wrap
 simp only [show IntKind.i64.signed=true by decide,show IntKind.i64.bits=64 by decide]
 split<;>simp_all<;>omega
theorem zp2 {k:Int} (h:0≤k∧k≤255):0≤lowK k∧lowK k≤255:=by unfold lowK;split<;>omega
def zbk (I:Alg) (args:List D) (hp:List HO):Option CT:=match args,hp with
 |[.v (.one (.p (.int .u8 k)))],[]=>(fun(k:Int)=>(some (.one ⟨I.hid (True),(.ret (.v (.one (.p (.bool (I.hid (zcV k))))))),[]⟩):Option CT)) k
 |_,_=>none
theorem zmx:zx Tryz.prog 229 (zbk alg):=by
 intro args hp r h;unfold zbk at h;split at h<;>cases h
 rename_i k;simp only [CT.Good,zi];intro _
 refine spcG zh mixed Tryz.func229 (by kernel_rfl) { keep:=some [0,2]} [] (by kernel_rfl) ?_
 intro I X hI hX
 refine orcL ?_;go_invoke;refine orcS (by kernel_rfl) ?_
 simp only [zq,Nat.reduceAdd];subst hI;simp only [nrmA,nrmB];unfold zcV
 exact⟨fun h=>decide_eq_decide.2 (by omega),fun h=>(decide_eq_false (by omega)).symm⟩
def zmw:Know Tryz.prog:=⟨229,zbk,zmx⟩
def zmv:Know Tryz.prog:=⟨229,fun I=>zy I (zbk I),zf zmx⟩
def zaV (I:Alg) (args:List D) (hp:List HO):Option CT:=match args,hp with
 |[.v (.one (.p (.int .u8 k)))],[]=>(fun(k:Int)=>(some (.one ⟨I.hid (0≤k∧k≤255),(.ret (.v (.one (.p (.int .u8 (I.hid (lowK k))))))),[]⟩):Option CT)) k
 |_,_=>none
theorem zlG:zx Tryz.prog 236 (zaV alg):=by
 intro args hp r h;unfold zaV at h;split at h<;>cases h
 rename_i k;simp only [CT.Good,zi];intro hneed
 refine spcG zh mixed Tryz.func236 (by kernel_rfl) { keep:=some [0,2]} [] (by kernel_rfl) ?_
 intro I X hI hX
 refine orcL ?_;go_invoke;refine orcS (by kernel_rfl) ?_
 simp only [zq,Nat.reduceAdd];subst hI;simp only [nrmA,nrmB];unfold lowK
 (repeat' (first|refine ja ?_ ?_|intro _))<;>first|omega|exact jb|exact jc ‹False›|skip
def zaU:Know Tryz.prog:=⟨236,zaV,zlG⟩
def zaT:Know Tryz.prog:=⟨236,fun I=>zy I (zaV I),zf zlG⟩
def Uy (I:Alg) (args:List D) (hp:List HO):Option CT:=match args,hp with
 |[.v (.one (.p (.int .u8 k)))],[]=>(fun(k:Int)=>(some (.one ⟨I.hid (0≤k∧k≤255),(.ret (.v (.one (.p (.bool (I.hid (Va k))))))),[]⟩):Option CT)) k
 |_,_=>none
theorem zhg:zx Tryz.prog 230 (Uy alg):=by
 intro args hp r h;unfold Uy at h;split at h<;>cases h
 rename_i k;simp only [CT.Good,zi];intro hneed
 refine spcG zh mixed Tryz.func230 (by kernel_rfl) { keep:=some [0,2]} [zaU,zaT] (by kernel_rfl) ?_
 intro I X hI hX
 refine orcL ?_;go_invoke;refine orcS (by kernel_rfl) ?_
 simp only [zq,Nat.reduceAdd];subst hI;simp only [nrmA,nrmB];unfold Va
 (repeat' (first|refine ja ?_ ?_|intro _))<;>first|omega|exact jb|exact jc ‹False›|skip
 all_goals first|exact decide_eq_decide.2 (by omega)|exact(decide_eq_false (by omega)).symm|exact(decide_eq_true (by omega)).symm|(rw [show(k == 127)=decide (k=127) from rfl,← decide_not];exact decide_eq_decide.2 (by omega))
def zhf:Know Tryz.prog:=⟨230,Uy,zhg⟩
def zhe:Know Tryz.prog:=⟨230,fun I=>zy I (Uy I),zf zhg⟩
def zaf (I:Alg) (args:List D) (hp:List HO):Option CT:=match args,hp with
 |[.v (.one (.p (.int .u8 k)))],[]=>(fun(k:Int)=>(some (.one ⟨I.hid (0≤k∧k≤255),(.ret (.v (.one (.p (.bool (I.hid (tokB k))))))),[]⟩):Option CT)) k
 |_,_=>none
theorem zkq:zx Tryz.prog 193 (zaf alg):=by
 intro args hp r h;unfold zaf at h;split at h<;>cases h
 rename_i k;simp only [CT.Good,zi];intro hneed
 refine spcG zh mixed Tryz.func193 (by kernel_rfl) { keep:=some [0,2]} [zht,zhs,zmw,zmv,zhf,zhe] (by kernel_rfl) ?_
 intro I X hI hX
 refine orcL ?_;go_invoke;refine orcS (by kernel_rfl) ?_
 simp only [zq,Nat.reduceAdd];subst hI;simp only [nrmA,nrmB];unfold tokB marks
 (repeat' (first|refine ja ?_ ?_|intro _))<;>first|omega|exact jb|exact jc ‹False›|skip
 all_goals simp [*]
def ZH:Know Tryz.prog:=⟨193,zaf,zkq⟩
def Vq:Know Tryz.prog:=⟨193,fun I=>zy I (zaf I),zf zkq⟩
def Xa (I:Alg) (args:List D) (hp:List HO):Option CT:=match args,hp with
 |[.v (.one (.p (.int .u8 k)))],[]=>(fun(k:Int)=>(some (.one ⟨I.hid (True),(.ret (.v (.one (.p (.bool (I.hid (zbP k))))))),[]⟩):Option CT)) k
 |_,_=>none
theorem zds:zx Tryz.prog 170 (Xa alg):=by
 intro args hp r h;unfold Xa at h;split at h<;>cases h
 rename_i k;simp only [CT.Good,zi];intro _
 refine spcG zh mixed Tryz.func170 (by kernel_rfl) { keep:=some [0,2]} [] (by kernel_rfl) ?_
 intro I X hI hX
 refine orcL ?_;go_invoke;refine orcS (by kernel_rfl) ?_
 simp only [zq,Nat.reduceAdd];subst hI;simp only [nrmA,nrmB];unfold zbP
 (repeat' (first|refine ja ?_ ?_|intro _))<;>first|omega|exact jb|exact jc ‹False›|skip
 all_goals first|exact decide_eq_decide.2 (by omega)|exact(decide_eq_false (by omega)).symm|exact(decide_eq_true (by omega)).symm|(rw [show(k == 127)=decide (k=127) from rfl,← decide_not];exact decide_eq_decide.2 (by omega))
def rO:Know Tryz.prog:=⟨170,Xa,zds⟩
def Y9:Know Tryz.prog:=⟨170,fun I=>zy I (Xa I),zf zds⟩
def UD (I:Alg) (args:List D) (hp:List HO):Option CT:=match args,hp with
 |[.v (.one (.p (.int .u8 k)))],[]=>(fun(k:Int)=>(some (.one ⟨I.hid (True),(.ret (.v (.one (.p (.bool (I.hid (zbP k))))))),[]⟩):Option CT)) k
 |_,_=>none
theorem zhl:zx Tryz.prog 70 (UD alg):=by
 intro args hp r h;unfold UD at h;split at h<;>cases h
 rename_i k;simp only [CT.Good,zi];intro _
 refine spcG zh mixed Tryz.func70 (by kernel_rfl) { keep:=some [0,2]} [] (by kernel_rfl) ?_
 intro I X hI hX
 refine orcL ?_;go_invoke;refine orcS (by kernel_rfl) ?_
 simp only [zq,Nat.reduceAdd];subst hI;simp only [nrmA,nrmB];unfold zbP
 (repeat' (first|refine ja ?_ ?_|intro _))<;>first|omega|exact jb|exact jc ‹False›|skip
 all_goals first|exact decide_eq_decide.2 (by omega)|exact(decide_eq_false (by omega)).symm|exact(decide_eq_true (by omega)).symm|(rw [show(k == 127)=decide (k=127) from rfl,← decide_not];exact decide_eq_decide.2 (by omega))
def UC:Know Tryz.prog:=⟨70,UD,zhl⟩
def UB:Know Tryz.prog:=⟨70,fun I=>zy I (UD I),zf zhl⟩
def zlW (I:Alg) (args:List D) (hp:List HO):Option CT:=match args,hp with
 |[.v (.one (.p (.int .u8 k)))],[]=>(fun(k:Int)=>(some (.one ⟨I.hid (0≤k∧k≤255),(.ret (.v (.one (.p (.int .i64 (I.hid (hexK k))))))),[]⟩):Option CT)) k
 |_,_=>none
theorem zut:zx Tryz.prog 249 (zlW alg):=by
 intro args hp r h;unfold zlW at h;split at h<;>cases h
 rename_i k;simp only [CT.Good,zi];intro hneed
 refine spcG zh mixed Tryz.func249 (by kernel_rfl) { keep:=some [0,2]} [zmw,zmv,zaU,zaT,zhf,zhe] (by kernel_rfl) ?_
 intro I X hI hX
 refine orcL ?_;go_invoke;refine orcS (by kernel_rfl) ?_
 simp only [zq,Nat.reduceAdd];subst hI;simp only [nrmA,nrmB]
 (repeat' (first|refine ja ?_ ?_|intro _))<;>first|omega|exact jb|exact jc ‹False›|skip
 all_goals first
  |(have:=of_decide_eq_true ‹zcV k=true›;omega)
  |(have:=of_decide_eq_true ‹zcV k=true›;unfold hexK;rw [if_pos ‹zcV k=true›,wrap64 _ (by omega)])
  |(have:=of_decide_eq_true ‹Va k=true›;omega)
  |(have:=of_decide_eq_true ‹Va k=true›;rw [wrap64 _ (by omega)];omega)
  |(have:=of_decide_eq_true ‹Va k=true›;rw [wrap64 _ (by omega)];unfold hexK;simp [*])
  |(unfold hexK;simp [*])
def zed:Know Tryz.prog:=⟨249,zlW,zut⟩
def zec:Know Tryz.prog:=⟨249,fun I=>zy I (zlW I),zf zut⟩
end Go.Proofs.YtkjepecoodjbmaaGreatDoor
namespace Go.Proofs.YtkjepecoodjbmaaGreatDoor
open Go Go.Sep Go.Ab
set_option maxRecDepth 100000
def tokA (s:Str):Bool:=s.all fun c=>tokB (c.toNat:Int)
def YC (s:Str):Bool:=s.all fun c=>zbP (c.toNat:Int)
theorem wz (c:UInt8):0≤(c.toNat:Int)∧(c.toNat:Int)≤255:=by have:=c.toNat_lt;omega
theorem zbu {p:UInt8→Bool} {s:Str} {i:Nat} (h:i<s.length):(s.drop i).all p=(p (s.getD i 0)&&(s.drop (i+1)).all p):=by
 rw [jE h,List.all_cons];simp [h]
def SG (I:Alg) (args:List D) (hp:List HO):Option CT:=match args,hp with
 |[.v (.one (.p (.str s))),.v (.one (.fn 193 []))],[]=>(fun(s:Str)=>(some (.one ⟨I.hid (s.length≤1000000),(.ret (.v (.one (.p (.bool (I.hid (tokA s))))))),[]⟩):Option CT)) s
 |_,_=>none
theorem ziM:zx Tryz.prog 192 (SG alg):=by
 intro args hp r h;unfold SG at h;split at h<;>cases h
 rename_i s;simp only [CT.Good,zi];intro hneed;generalize hr:tokA s=r
 refine spcG zh mixed Tryz.func192 (by kernel_rfl) { keep:=some [0,1,4,5,7,8]} [ZH] (by kernel_rfl) ?_
 intro I X hI hX
 refine orcL ?_;go_invoke;refine orcS (by kernel_rfl) ?_
 simp only [zq,Nat.reduceAdd]
 refine zB hI zh mixed [ZH] hX [0,1,7,8] (fun(i:Nat)=>i≤s.length∧tokA (s.drop i)=r) (fun(i:Nat)=>⟨[(0,.v (.one (.p (.str s)))),(1,.v (.one (.fn 193 []))),(7,.v (.one (.p (.int .i64 ((I.len (α:=UInt8) s)))))),(8,.v (.one (.p (.int .i64 i))))],[],18,none⟩) (fun(i:Nat)=>s.length - i) 0 (by kernel_rfl) (by kernel_rfl) ?_ ?_
 · exact⟨jM _,hr⟩
 rintro i ⟨h1,h2⟩ A hA
 refine orcL ?_;go_invoke;refine orcS (by kernel_rfl) ?_
 simp only [zq,Nat.reduceAdd];subst hI;simp only [nrmA,nrmB];have hb:=wz (s.getD i 0);have hd:i<s.length→tokA (s.drop i)=(tokB (s.getD i 0).toNat&&tokA (s.drop (i+1))):=fun h=>zbu h;generalize s.getD i 0=x at *
 (repeat' (first|refine ja ?_ ?_|intro _))<;>first|omega|exact jb|exact jc ‹False›|skip
 all_goals first
  |(rw [← h2,hd (by omega)];simp [*];done)
  |(refine hA (i+1) ⟨by omega,?_⟩ (by omega);rw [← h2,hd (by omega)];simp [*];done)
  |(rw [← h2,jF (by omega)];rfl)
def SE:Know Tryz.prog:=⟨192,SG,ziM⟩
def SC:Know Tryz.prog:=⟨192,fun I=>zy I (SG I),zf ziM⟩
def Wu (I:Alg) (args:List D) (hp:List HO):Option CT:=match args,hp with
 |[.v (.one (.p (.str s))),.v (.one (.fn 170 []))],[]=>(fun(s:Str)=>(some (.one ⟨I.hid (s.length≤1000000),(.ret (.v (.one (.p (.bool (I.hid (YC s))))))),[]⟩):Option CT)) s
 |_,_=>none
theorem zeS:zx Tryz.prog 192 (Wu alg):=by
 intro args hp r h;unfold Wu at h;split at h<;>cases h
 rename_i s;simp only [CT.Good,zi];intro hneed;generalize hr:YC s=r
 refine spcG zh mixed Tryz.func192 (by kernel_rfl) { keep:=some [0,1,4,5,7,8]} [rO,SE,SC] (by kernel_rfl) ?_
 intro I X hI hX
 refine orcL ?_;go_invoke;refine orcS (by kernel_rfl) ?_
 simp only [zq,Nat.reduceAdd]
 refine zB hI zh mixed [rO,SE,SC] hX [0,1,7,8] (fun(i:Nat)=>i≤s.length∧YC (s.drop i)=r) (fun(i:Nat)=>⟨[(0,.v (.one (.p (.str s)))),(1,.v (.one (.fn 170 []))),(7,.v (.one (.p (.int .i64 ((I.len (α:=UInt8) s)))))),(8,.v (.one (.p (.int .i64 i))))],[],18,none⟩) (fun(i:Nat)=>s.length - i) 0 (by kernel_rfl) (by kernel_rfl) ?_ ?_
 · exact⟨jM _,hr⟩
 rintro i ⟨h1,h2⟩ A hA
 refine orcL ?_;go_invoke;refine orcS (by kernel_rfl) ?_
 simp only [zq,Nat.reduceAdd];subst hI;simp only [nrmA,nrmB];have hb:=wz (s.getD i 0);have hd:i<s.length→YC (s.drop i)=(zbP (s.getD i 0).toNat&&YC (s.drop (i+1))):=fun h=>zbu h;generalize s.getD i 0=x at *
 (repeat' (first|refine ja ?_ ?_|intro _))<;>first|omega|exact jb|exact jc ‹False›|skip
 all_goals first
  |(rw [← h2,hd (by omega)];simp [*];done)
  |(refine hA (i+1) ⟨by omega,?_⟩ (by omega);rw [← h2,hd (by omega)];simp [*];done)
  |(rw [← h2,jF (by omega)];rfl)
def zeR:Know Tryz.prog:=⟨192,Wu,zeS⟩
def zeQ:Know Tryz.prog:=⟨192,fun I=>zy I (Wu I),zf zeS⟩
def qI (s:Str):Bool:=decide (s≠[])&&tokA s
def XR (I:Alg) (args:List D) (hp:List HO):Option CT:=match args,hp with
 |[.v (.one (.p (.str s)))],[]=>(fun(s:Str)=>(some (.one ⟨I.hid (s.length≤1000000),(.ret (.v (.one (.p (.bool (I.hid (qI s))))))),[]⟩):Option CT)) s
 |_,_=>none
theorem zea:zx Tryz.prog 142 (XR alg):=by
 intro args hp r h;unfold XR at h;split at h<;>cases h
 rename_i s;simp only [CT.Good,zi];intro hneed
 refine spcG zh mixed Tryz.func142 (by kernel_rfl) { keep:=some [0,2]} [ZH,Vq,SE,SC,zeR,zeQ] (by kernel_rfl) ?_
 intro I X hI hX
 refine orcL ?_;go_invoke;refine orcS (by kernel_rfl) ?_
 simp only [zq,Nat.reduceAdd];subst hI;simp only [nrmA,nrmB];unfold qI
 (repeat' (first|refine ja ?_ ?_|intro _))<;>first|omega|exact jb|exact jc ‹False›|skip
 all_goals simp [*]
def XQ:Know Tryz.prog:=⟨142,XR,zea⟩
def XP:Know Tryz.prog:=⟨142,fun I=>zy I (XR I),zf zea⟩
def qU (I:Alg) (args:List D) (hp:List HO):Option CT:=match args,hp with
 |[.v (.one (.p (.str s)))],[]=>(fun(s:Str)=>(some (.one ⟨I.hid (s.length≤1000000),(.ret (.v (.one (.p (.bool (I.hid (YC s))))))),[]⟩):Option CT)) s
 |_,_=>none
theorem QC:zx Tryz.prog 144 (qU alg):=by
 intro args hp r h;unfold qU at h;split at h<;>cases h
 rename_i s;simp only [CT.Good,zi];intro hneed
 refine spcG zh mixed Tryz.func144 (by kernel_rfl) { keep:=some [0,2]} [rO,Y9,SE,SC,zeR,zeQ] (by kernel_rfl) ?_
 intro I X hI hX
 refine orcL ?_;go_invoke;refine orcS (by kernel_rfl) ?_
 simp only [zq,Nat.reduceAdd];subst hI;simp only [nrmA,nrmB];exact hneed
def tV:Know Tryz.prog:=⟨144,qU,QC⟩
def tN:Know Tryz.prog:=⟨144,fun I=>zy I (qU I),zf QC⟩
def zlt (I:Alg) (args:List D) (hp:List HO):Option CT:=match args,hp with
 |[.v (.one (.p (.int .u8 k))),.v (.one (.p (.str s)))],[]=>(fun(k:Int) (s:Str)=>(some (.one ⟨I.hid (s.length≤1000000∧0≤k∧k≤255),(.ret (.v (.one (.p (.bool (I.hid (s.contains (UInt8.ofNat k.toNat)))))))),[]⟩):Option CT)) k s
 |_,_=>none
theorem zuh:zx Tryz.prog 115 (zlt alg):=by
 intro args hp r h;unfold zlt at h;split at h<;>cases h
 rename_i k s;simp only [CT.Good,zi];intro hneed;generalize hr:s.contains (UInt8.ofNat k.toNat)=r
 refine spcG zh mixed Tryz.func115 (by kernel_rfl) { keep:=some [0,1,4,5]} [] (by kernel_rfl) ?_
 intro I X hI hX
 refine orcL ?_;go_invoke;refine orcS (by kernel_rfl) ?_
 simp only [zq,Nat.reduceAdd]
 refine zB hI zh mixed [] hX [0,1,5] (fun(i:Nat)=>i≤s.length∧(s.drop i).contains (UInt8.ofNat k.toNat)=r) (fun(i:Nat)=>⟨[(0,.v (.one (.p (.int .u8 k)))),(1,.v (.one (.p (.str s)))),(5,.v (.one (.p (.int .i64 i))))],[],17,none⟩) (fun(i:Nat)=>s.length - i) 0 (by kernel_rfl) (by kernel_rfl) ?_ ?_
 · exact⟨jM _,hr⟩
 rintro i ⟨h1,h2⟩ A hA
 refine orcL ?_;go_invoke;refine orcS (by kernel_rfl) ?_
 simp only [zq,Nat.reduceAdd];subst hI;simp only [nrmA,nrmB]
 have hd:i<s.length→(s.drop i).contains (UInt8.ofNat k.toNat)=((UInt8.ofNat k.toNat == s.getD i 0)||(s.drop (i+1)).contains (UInt8.ofNat k.toNat)):=fun h=>by
  rw [jE h,List.contains_cons];simp [h]
 have hc:((s.getD i 0).toNat:Int)=k↔UInt8.ofNat k.toNat=s.getD i 0:=by
  rw [← UInt8.toNat_inj,UInt8.toNat_ofNat'];omega
 rw [hc];generalize s.getD i 0=x at *
 (repeat' (first|refine ja ?_ ?_|intro _))<;>first|omega|exact jb|exact jc ‹False›|skip
 all_goals first
  |(rw [← h2,hd (by omega)];simp [*];done)
  |(refine hA (i+1) ⟨by omega,?_⟩ (by omega);rw [← h2,hd (by omega)];simp [*];done)
  |(rw [← h2,jF (by omega)];rfl)
def zpS:Know Tryz.prog:=⟨115,zlt,zuh⟩
def zpR:Know Tryz.prog:=⟨115,fun I=>zy I (zlt I),zf zuh⟩
def tokR:Str:=[48,49,50,51,52,53,54,55,56,57,65,66,67,68,69,70,71,72,73,74,75,76,77,78,79,80,81,82,83,84,85,86,87,88,89,90,97,98,99,100,101,102,103,104,105,106,107,108,109,110,111,112,113,114,115,116,117,118,119,120,121,122,33,35,36,37,38,39,42,43,45,46,94,95,96,124,126]
theorem ztT {p:Int→Prop} [∀ k,Decidable (p k)] (h: ∀ n:Fin 256,p (n.1:Int)) {k:Int} (hk:0≤k∧k≤255):p k:=by
 have:=h ⟨k.toNat,by omega⟩
 rwa [show((k.toNat:Nat):Int)=k by omega] at this
theorem zrY {k:Int} (hk:0≤k∧k≤255):tokR.contains (UInt8.ofNat k.toNat)=tokB k:=
 ztT (p:=fun k=>tokR.contains (UInt8.ofNat k.toNat)=tokB k) (by decide+kernel) hk
def uZ (I:Alg) (args:List D) (hp:List HO):Option CT:=match args,hp with
 |[.v (.one (.p (.int .u8 k)))],[]=>(fun(k:Int)=>(some (.one ⟨I.hid (0≤k∧k≤255),(.ret (.v (.one (.p (.bool (I.hid (tokB k))))))),[]⟩):Option CT)) k
 |_,_=>none
theorem WH:zx Tryz.prog 114 (uZ alg):=by
 intro args hp r h;unfold uZ at h;split at h<;>cases h
 rename_i k;simp only [CT.Good,zi];intro hneed;rw [← zrY hneed]
 refine spcG zh mixed Tryz.func114 (by kernel_rfl) { keep:=some [0,2]} [zpS,zpR] (by kernel_rfl) ?_
 intro I X hI hX
 refine orcL ?_;go_invoke;refine orcS (by kernel_rfl) ?_
 simp only [zq,Nat.reduceAdd];subst hI;simp only [nrmA,nrmB];trivial
def WG:Know Tryz.prog:=⟨114,uZ,WH⟩
def WE:Know Tryz.prog:=⟨114,fun I=>zy I (uZ I),zf WH⟩
def qH (I:Alg) (args:List D) (hp:List HO):Option CT:=match args,hp with
 |[.v (.one (.p (.str s)))],[]=>(fun(s:Str)=>(some (.one ⟨I.hid (s.length≤1000000),(.ret (.v (.one (.p (.bool (I.hid (qI s))))))),[]⟩):Option CT)) s
 |_,_=>none
theorem Qk:zx Tryz.prog 71 (qH alg):=by
 intro args hp r h;unfold qH at h;split at h<;>cases h
 rename_i s;simp only [CT.Good,zi];intro hneed;generalize hr:tokA s=r
 refine spcG zh mixed Tryz.func71 (by kernel_rfl) { keep:=some [0,2,3]} [WG,WE] (by kernel_rfl) ?_
 intro I X hI hX
 refine orcL ?_;go_invoke;refine orcS (by kernel_rfl) ?_
 simp only [zq,Nat.reduceAdd]
 refine zB hI zh mixed [WG,WE] hX [0,3] (fun(i:Nat)=>i≤s.length∧tokA (s.drop i)=r) (fun(i:Nat)=>⟨[(0,.v (.one (.p (.str s)))),(3,.v (.one (.p (.int .i64 i))))],[],18,none⟩) (fun(i:Nat)=>s.length - i) 0 (by kernel_rfl) (by kernel_rfl) ?_ ?_
 · exact⟨jM _,hr⟩
 rintro i ⟨h1,h2⟩ A hA
 refine orcL ?_;go_invoke;refine orcS (by kernel_rfl) ?_
 simp only [zq,Nat.reduceAdd];subst hI;simp only [nrmA,nrmB];have hb:=wz (s.getD i 0);have hd:i<s.length→tokA (s.drop i)=(tokB (s.getD i 0).toNat&&tokA (s.drop (i+1))):=fun h=>zbu h;generalize s.getD i 0=x at *
 (repeat' (first|refine ja ?_ ?_|intro _))<;>first|omega|exact jb|exact jc ‹False›|skip
 all_goals first
  |(refine hA (i+1) ⟨by omega,?_⟩ (by omega);rw [← h2,hd (by omega)];simp [*];done)
  | (have h3:tokA s=false:=by(rw [hr,← h2,hd (by omega)];simp [*];done)
     simp [qI,h3];done)
  | (have h3:tokA s=true:=by(rw [hr,← h2,jF (by omega)];rfl)
     unfold qI;rw [h3,Bool.and_true]
     exact decide_eq_decide.2 (by cases s<;>simp))
def Yz:Know Tryz.prog:=⟨71,qH,Qk⟩
def Yy:Know Tryz.prog:=⟨71,fun I=>zy I (qH I),zf Qk⟩
def ZL (I:Alg) (args:List D) (hp:List HO):Option CT:=match args,hp with
 |[.v (.one (.p (.str s)))],[]=>(fun(s:Str)=>(some (.one ⟨I.hid (s.length≤1000000),(.ret (.v (.one (.p (.bool (I.hid (YC s))))))),[]⟩):Option CT)) s
 |_,_=>none
theorem zbO:zx Tryz.prog 73 (ZL alg):=by
 intro args hp r h;unfold ZL at h;split at h<;>cases h
 rename_i s;simp only [CT.Good,zi];intro hneed;generalize hr:YC s=r
 refine spcG zh mixed Tryz.func73 (by kernel_rfl) { keep:=some [0,2,3]} [UC,UB] (by kernel_rfl) ?_
 intro I X hI hX
 refine orcL ?_;go_invoke;refine orcS (by kernel_rfl) ?_
 simp only [zq,Nat.reduceAdd]
 refine zB hI zh mixed [UC,UB] hX [0,3] (fun(i:Nat)=>i≤s.length∧YC (s.drop i)=r) (fun(i:Nat)=>⟨[(0,.v (.one (.p (.str s)))),(3,.v (.one (.p (.int .i64 i))))],[],15,none⟩) (fun(i:Nat)=>s.length - i) 0 (by kernel_rfl) (by kernel_rfl) ?_ ?_
 · exact⟨jM _,hr⟩
 rintro i ⟨h1,h2⟩ A hA
 refine orcL ?_;go_invoke;refine orcS (by kernel_rfl) ?_
 simp only [zq,Nat.reduceAdd];subst hI;simp only [nrmA,nrmB];have hb:=wz (s.getD i 0);have hd:i<s.length→YC (s.drop i)=(zbP (s.getD i 0).toNat&&YC (s.drop (i+1))):=fun h=>zbu h;generalize s.getD i 0=x at *
 (repeat' (first|refine ja ?_ ?_|intro _))<;>first|omega|exact jb|exact jc ‹False›|skip
 all_goals first
  |(rw [← h2,hd (by omega)];simp [*];done)
  |(refine hA (i+1) ⟨by omega,?_⟩ (by omega);rw [← h2,hd (by omega)];simp [*];done)
  |(rw [← h2,jF (by omega)];rfl)
def ziY:Know Tryz.prog:=⟨73,ZL,zbO⟩
def ziX:Know Tryz.prog:=⟨73,fun I=>zy I (ZL I),zf zbO⟩
end Go.Proofs.YtkjepecoodjbmaaGreatDoor
namespace Go.Proofs.YtkjepecoodjbmaaGreatDoor
open Go Go.Sep Go.Ab
set_option maxRecDepth 100000
def lowC (x:UInt8):UInt8:=if 65≤x.toNat∧x.toNat≤90 then x+32 else x
def lowS (s:Str):Str:=s.map lowC
theorem vW (s:Str):(lowS s).length=s.length:=by simp [lowS]
theorem zno (x:UInt8):((lowC x).toNat:Int)=lowK x.toNat:=by
 unfold lowC lowK;have:=x.toNat_lt
 split
 · rw [if_pos (by omega),UInt8.toNat_add]
   simp only [show(32:UInt8).toNat=32 from rfl];omega
 · rw [if_neg (by omega)]
theorem zvy (x:UInt8):UInt8.ofNat (lowK x.toNat).toNat=lowC x:=by
 rw [← zno,jJ,UInt8.ofNat_toNat]
def bl (c:UInt8):Bool:=([32,9]:Str).contains c
def trL (s:Str):Str:=s.dropWhile bl
def trR (s:Str):Str:=(s.reverse.dropWhile bl).reverse
theorem zrX (s:Str):Lib.trimS s [32,9]=trL (trR s):=rfl
theorem Vp (c:UInt8) (l:Str):trL (c::l)=if bl c then trL l else c::l:=by unfold trL;rw [List.dropWhile_cons]
theorem zko (c:UInt8) (l:Str):trR (c::l)=if trR l=[]∧bl c=true then [] else c::trR l:=by
 unfold trR;rw [List.reverse_cons,List.dropWhile_append]
 cases hd:l.reverse.dropWhile bl with
 |nil=>cases hb:bl c<;>simp [hb,List.dropWhile]
 |cons y r=>simp
theorem zkn (c:UInt8) (l:Str):trR (l++[c])=if bl c then trR l else l++[c]:=by
 unfold trR;rw [List.reverse_append];simp only [List.reverse_cons,List.reverse_nil,List.nil_append,List.singleton_append];rw [List.dropWhile_cons]
 split
 · rfl
 · simp
theorem zoc: ∀ s:Str,trL (trR s)=trR (trL s)
 |[]=>rfl
 | c ::l=>by
   have ih:=zoc l;rw [zko,Vp]
   by_cases hb:bl c=true
   · rw [if_pos hb,← ih]
     by_cases h0:trR l=[]
     · rw [if_pos ⟨h0,hb⟩,h0]
     · rw [if_neg (fun h=>h0 h.1),Vp,if_pos hb]
   · rw [if_neg hb,if_neg (fun h=>hb h.2),Vp,if_neg hb,zko,if_neg (fun h=>hb h.2)]
theorem ziE (c:UInt8):bl c=true↔(c.toNat:Int)=32∨(c.toNat:Int)=9:=by
 unfold bl;rw [List.contains_iff_mem,List.mem_cons,List.mem_singleton,← UInt8.toNat_inj,← UInt8.toNat_inj];simp only [show(32:UInt8).toNat=32 from rfl,show(9:UInt8).toNat=9 from rfl];omega
theorem zkp {u:Str} (h:0<u.length→¬ bl (u.getD 0 0)=true):trL u=u:=by
 cases u with
 |nil=>rfl
 |cons c l=>rw [Vp,if_neg (by simpa using h (by simp))]
theorem zwg {u:Str} (h:0<u.length) (hb:bl (u.getD 0 0)=true):trL u=trL (u.drop 1):=by
 cases u with
 |nil=>simp at h
 |cons c l=>rw [Vp,if_pos (by simpa using hb)];rfl
theorem zoA {u:Str} (h:0<u.length):u=u.take (u.length - 1)++[u.getD (u.length - 1) 0]:=by
 have hl:u.length - 1<u.length:=by omega
 have:=List.take_append_drop (u.length - 1) u
 rw [jE hl,jF (by omega)] at this
 simpa [hl] using this.symm
theorem zkm {u:Str} (h:0<u.length→¬ bl (u.getD (u.length - 1) 0)=true):trR u=u:=by
 rcases Nat.eq_zero_or_pos u.length with h0|h0
 · rw [List.eq_nil_of_length_eq_zero h0];rfl
 · have:=zoA h0
   generalize hc:u.getD (u.length - 1) 0=c at *;rw [this,zkn,if_neg (h h0)]
theorem ztZ {u:Str} (h:0<u.length) (hb:bl (u.getD (u.length - 1) 0)=true):trR u=trR (u.take (u.length - 1)):=by
 have:=zoA h;generalize hc:u.getD (u.length - 1) 0=c at *;generalize ht:u.take (u.length - 1)=t at *;rw [this,zkn,if_pos hb]
def zbs (I:Alg) (args:List D) (hp:List HO):Option CT:=match args,hp with
 |[.v (.one (.p (.str s)))],[]=>(fun(s:Str)=>(some (.one ⟨I.hid (True),(.ret (.v (.one (.p (.str (I.hid (Lib.trimS s [32,9]))))))),[]⟩):Option CT)) s
 |_,_=>none
theorem zmJ:zx Tryz.prog 196 (zbs alg):=by
 intro args hp r h;unfold zbs at h;split at h<;>cases h
 rename_i s;simp only [CT.Good,zi];intro _
 refine spcG zh mixed Tryz.func196 (by kernel_rfl) { keep:=some [0,2]} [zuS,zuR] (by kernel_rfl) ?_
 intro I X hI hX
 refine orcL ?_;go_invoke;refine orcS (by kernel_rfl) ?_
 simp only [zq,Nat.reduceAdd];subst hI;simp only [nrmA,nrmB]
 try trivial
def Sr:Know Tryz.prog:=⟨196,zbs,zmJ⟩
def Sm:Know Tryz.prog:=⟨196,fun I=>zy I (zbs I),zf zmJ⟩
def Xd (I:Alg) (args:List D) (hp:List HO):Option CT:=match args,hp with
 |[.v (.one (.p (.str s)))],[]=>(fun(s:Str)=>(some (.one ⟨I.hid (s.length≤1000000),(.ret (.v (.one (.p (.str (I.hid (Lib.trimS s [32,9]))))))),[]⟩):Option CT)) s
 |_,_=>none
theorem zdu:zx Tryz.prog 74 (Xd alg):=by
 intro args hp r h;unfold Xd at h;split at h<;>cases h
 rename_i s;simp only [CT.Good,zi];intro hneed;rw [zrX,zoc];generalize hr:trR (trL s)=r
 refine spcG zh mixed Tryz.func74 (by kernel_rfl) { keep:=some [0,2]} [] (by kernel_rfl) ?_
 intro I X hI hX
 refine orcL ?_;go_invoke;refine orcS (by kernel_rfl) ?_
 simp only [zq,Nat.reduceAdd]
 refine zB hI zh mixed [] hX [0] (fun(u:Str)=>trR (trL u)=r∧u.length≤1000000) (fun(u:Str)=>⟨[(0,.v (.one (.p (.str u))))],[],43,none⟩) (fun(u:Str)=>u.length) s (by kernel_rfl) (by kernel_rfl) ?_ ?_
 · exact⟨hr,hneed⟩
 rintro u ⟨h1,h2⟩ A hA
 refine orcL ?_;go_invoke;refine orcS (by kernel_rfl) ?_
 simp only [zq,Nat.reduceAdd]
 have hc:I.cut (α:=UInt8) u 1 (I.len (α:=UInt8) u)=u.drop 1:=by
  rw [hI,wB,zV];simp only [jJ,show(1:Int).toNat=1 from rfl]
  exact jq (by rw [jC];exact jL _)
 rw [hc]
 have hgo:0<u.length→bl (u.getD 0 0)=true→A ⟨[(0,.v (.one (.p (.str ((u.drop 1))))))],[],43,none⟩:=fun q1 q2=>
  hA _ ⟨by rw [← h1,zwg q1 q2],by rw [jC];omega⟩ (by rw [jC];omega)
 refine⟨fun c1=>⟨?_,fun c2=> ?_,fun c2=>⟨?_,fun c3=> ?_,fun c3=> ?_⟩⟩,fun c1=> ?_⟩
 · subst hI
   simp only [nrmA,nrmB] at c1;simp only [nrmA,nrmB];omega
 · subst hI
   simp only [nrmA,nrmB] at c1;simp only [nrmA,nrmB] at c2;simp only [nrmA,nrmB]
   exact⟨by omega,hgo (by omega) ((ziE _).2 (.inl c2))⟩
 · subst hI
   simp only [nrmA,nrmB] at c1;simp only [nrmA,nrmB];omega
 · subst hI
   simp only [nrmA,nrmB] at c1;simp only [nrmA,nrmB] at c3;simp only [nrmA,nrmB]
   exact⟨by omega,hgo (by omega) ((ziE _).2 (.inr c3))⟩
 · have hst:trL u=u:=zkp fun q h=>by
    subst hI;simp only [nrmA,nrmB] at c2;simp only [nrmA,nrmB] at c3
    rcases(ziE _).1 h with h|h
    · exact c2 h
    · exact c3 h
   refine zB hI zh mixed [] hX [0] (fun(v:Str)=>trR v=r∧v.length≤1000000) (fun(v:Str)=>⟨[(0,.v (.one (.p (.str v))))],[],43,none⟩) (fun(v:Str)=>v.length) u (by kernel_rfl) (by kernel_rfl) ?_ ?_
   · exact⟨by rw [← h1,hst],h2⟩
   rintro v ⟨k1,k2⟩ B hB
   refine orcL ?_;go_invoke;refine orcS (by kernel_rfl) ?_
   simp only [zq,Nat.reduceAdd];subst hI;simp only [nrmA,nrmB]
   have hgo:0<v.length→bl (v.getD (v.length - 1) 0)=true→B ⟨[(0,.v (.one (.p (.str ((v.take (v.length - 1)))))))],[],43,none⟩:=fun q1 q2=>
    hB _ ⟨by rw [← k1,ztZ q1 q2],by rw [jv];omega⟩ (by rw [jv];omega)
   have hend:(0<v.length→¬ bl (v.getD (v.length - 1) 0)=true)→v=r:=fun q=>by rw [← k1,zkm q]
   rw [ziE] at hgo hend
   simp only [show((v.length:Int) - 1).toNat=v.length - 1 by omega]
   (repeat' (first|refine ja ?_ ?_|intro _))<;>first|omega|exact jb|exact jc ‹False›|skip
   all_goals first
    |exact hgo (by omega) (.inl ‹_›)
    |exact hgo (by omega) (.inr ‹_›)
    |(refine hend fun _ h=> ?_;rcases h with h|h<;>contradiction)
    |exact hend (fun h=>by omega)
 · have hst:trL u=u:=zkp fun q h=>by
    subst hI;simp only [nrmA,nrmB] at c1;omega
   refine zB hI zh mixed [] hX [0] (fun(v:Str)=>trR v=r∧v.length≤1000000) (fun(v:Str)=>⟨[(0,.v (.one (.p (.str v))))],[],43,none⟩) (fun(v:Str)=>v.length) u (by kernel_rfl) (by kernel_rfl) ?_ ?_
   · exact⟨by rw [← h1,hst],h2⟩
   rintro v ⟨k1,k2⟩ B hB
   refine orcL ?_;go_invoke;refine orcS (by kernel_rfl) ?_
   simp only [zq,Nat.reduceAdd];subst hI;simp only [nrmA,nrmB]
   have hgo:0<v.length→bl (v.getD (v.length - 1) 0)=true→B ⟨[(0,.v (.one (.p (.str ((v.take (v.length - 1)))))))],[],43,none⟩:=fun q1 q2=>
    hB _ ⟨by rw [← k1,ztZ q1 q2],by rw [jv];omega⟩ (by rw [jv];omega)
   have hend:(0<v.length→¬ bl (v.getD (v.length - 1) 0)=true)→v=r:=fun q=>by rw [← k1,zkm q]
   rw [ziE] at hgo hend
   simp only [show((v.length:Int) - 1).toNat=v.length - 1 by omega]
   (repeat' (first|refine ja ?_ ?_|intro _))<;>first|omega|exact jb|exact jc ‹False›|skip
   all_goals first
    |exact hgo (by omega) (.inl ‹_›)
    |exact hgo (by omega) (.inr ‹_›)
    |(refine hend fun _ h=> ?_;rcases h with h|h<;>contradiction)
    |exact hend (fun h=>by omega)
def Xc:Know Tryz.prog:=⟨74,Xd,zdu⟩
def Xb:Know Tryz.prog:=⟨74,fun I=>zy I (Xd I),zf zdu⟩
def Sv (I:Alg) (args:List D) (hp:List HO):Option CT:=match args,hp with
 |[.v (.one (.p (.str s)))],[]=>(fun(s:Str)=>(some (.one ⟨I.hid (s.length≤1000000),(.ret (.v (.one (.p (.str (I.hid (lowS s))))))),[]⟩):Option CT)) s
 |_,_=>none
theorem ziC:zx Tryz.prog 195 (Sv alg):=by
 intro args hp r h;unfold Sv at h;split at h<;>cases h
 rename_i s;simp only [CT.Good,zi];intro hneed
 refine spcG zh mixed Tryz.func195 (by kernel_rfl) { keep:=some [0,2,3,4,5,8,9,10]} [zaU,zaT] (by kernel_rfl) ?_
 intro I X hI hX
 refine orcL ?_;go_invoke;refine orcS (by kernel_rfl) ?_
 simp only [zq,Nat.reduceAdd]
 refine zB hI zh mixed [zaU,zaT] hX [0,3,8,9,10] (fun(g:Nat × Str)=>match g with|(i,b)=>i≤s.length∧b=lowS (s.take i)++s.drop i) (fun(g:Nat × Str)=>match g with|(i,b)=>⟨[(0,.v (.one (.p (.str s)))),(3,.v (.one (.row 0))),(8,.v (.one (.row 0))),(9,.v (.one (.p (.int .i64 ((I.len (α:=UInt8) s)))))),(10,.v (.one (.p (.int .i64 i))))],[.row .byte 5 b],23,none⟩) (fun(g:Nat × Str)=>match g with|(i,b)=>s.length - i) (0,s) (by kernel_rfl) (by kernel_rfl) ?_ ?_
 · exact⟨jM _,rfl⟩
 rintro⟨i,b⟩ ⟨h1,h2⟩ A hA;simp only at hA
 refine orcL ?_;go_invoke;refine orcS (by kernel_rfl) ?_
 simp only [zq,Nat.reduceAdd];subst hI;simp only [nrmA,nrmB]
 have hlen:b.length=s.length:=by rw [h2,jk,vW,jv,jC];omega
 have hx:i<s.length→b.getD i 0=s.getD i 0:=fun h=>by
  rw [h2,jH,jH,jA (by rw [vW,jv];omega),vW,jv,jG]
  congr 2
  omega
 have hset:i<s.length→b.set i (lowC (s.getD i 0))=lowS (s.take (i+1))++s.drop (i+1):=fun h=>by
  have e:(lowS (s.take i)).length=i:=by rw [vW,jv];omega
  rw [h2,List.set_append_right _ _ (by omega),e,Nat.sub_self,jE h,List.set_cons_zero,jB h,show s.getD i 0=s[i] by simp [h]]
  unfold lowS;rw [List.map_append,jo];rfl
 have hby:=wz (s.getD i 0);have hlk:=zp2 hby;refine⟨fun c=> ?_,fun c=> ?_⟩
 · rw [hx (by omega),zvy,hset (by omega)]
   exact⟨by omega,by omega,by omega,by omega,by omega,by omega,by omega,hA (i+1,_) ⟨by simp only;omega,rfl⟩ (by simp only;omega)⟩
 · rw [h2,jF (by omega),jq (by omega),List.append_nil]
def vJ:Know Tryz.prog:=⟨195,Sv,ziC⟩
def vI:Know Tryz.prog:=⟨195,fun I=>zy I (Sv I),zf ziC⟩
def zat (I:Alg) (args:List D) (hp:List HO):Option CT:=match args,hp with
 |[.v (.one (.p (.str s)))],[]=>(fun(s:Str)=>(some (.one ⟨I.hid (s.length≤1000000),(.ret (.v (.one (.p (.str (I.hid (lowS s))))))),[]⟩):Option CT)) s
 |_,_=>none
theorem zkK:zx Tryz.prog 77 (zat alg):=by
 intro args hp r h;unfold zat at h;split at h<;>cases h
 rename_i s;simp only [CT.Good,zi];intro hneed
 refine spcG zh mixed Tryz.func77 (by kernel_rfl) { keep:=some [0,2,3,4,5,6]} [] (by kernel_rfl) ?_
 intro I X hI hX
 refine orcL ?_;go_invoke;refine orcS (by kernel_rfl) ?_
 simp only [zq,Nat.reduceAdd]
 refine zB hI zh mixed [] hX [0,3,4] (fun(g:Nat × Str)=>match g with|(i,out)=>i≤s.length∧out=lowS (s.take i)) (fun(g:Nat × Str)=>match g with|(i,out)=>⟨[(0,.v (.one (.p (.str s)))),(3,.v (.one (.p (.str out)))),(4,.v (.one (.p (.int .i64 i))))],[],36,none⟩) (fun(g:Nat × Str)=>match g with|(i,out)=>s.length - i) (0,[]) (by kernel_rfl) (by kernel_rfl) ?_ ?_
 · exact⟨jM _,rfl⟩
 rintro⟨i,out⟩ ⟨h1,h2⟩ A hA;simp only at hA
 refine orcL ?_;go_invoke;refine orcS (by kernel_rfl) ?_
 simp only [zq,Nat.reduceAdd];refine⟨fun c1=>⟨?_,?_,?_⟩,fun c1=> ?_⟩
 · subst hI
   simp only [nrmA,nrmB] at c1;simp only [nrmA,nrmB];omega
 · subst hI
   simp only [nrmA,nrmB] at c1;simp only [nrmA,nrmB];omega
 · have hi:i<s.length:=by
    subst hI;simp only [nrmA,nrmB] at c1;omega
   generalize hc0:I.cut (α:=UInt8) s (Int.ofNat i) (I.add (↑i) 1)=c0
   have hc1:c0=[s.getD i 0]:=by
    rw [← hc0,hI,wB,vP]
    simp only [Int.ofNat_eq_natCast,jJ,show((i:Int)+1).toNat=i+1 by omega]
    rw [jE hi,Nat.add_sub_cancel_left,List.take_succ_cons,List.take_zero]
    simp [hi]
   generalize hx:s.getD i 0=x at *;have hxb:=x.toNat_lt
   have hcap: ∀ k:Nat,k<26→((([65,66,67,68,69,70,71,72,73,74,75,76,77,78,79,80,81,82,83,84,85,86,87,88,89,90]:Str).getD k 0).toNat=65+k∧((([97,98,99,100,101,102,103,104,105,106,107,108,109,110,111,112,113,114,115,116,117,118,119,120,121,122]:Str).drop k).take 1)=[UInt8.ofNat (97+k)]):=by decide+kernel
   refine zB hI zh mixed [] hX [0,3,4,5,6] (fun(g:Nat × Str)=>match g with|(k,c)=>k≤26∧c=[if 65≤x.toNat∧x.toNat<65+k then x+32 else x]) (fun(g:Nat × Str)=>match g with|(k,c)=>⟨[(0,.v (.one (.p (.str s)))),(3,.v (.one (.p (.str out)))),(4,.v (.one (.p (.int .i64 i)))),(5,.v (.one (.p (.str c)))),(6,.v (.one (.p (.int .i64 k))))],[],36,none⟩) (fun(g:Nat × Str)=>match g with|(k,c)=>26 - k) (0,c0) (by kernel_rfl) (by kernel_rfl) ?_ ?_
   · refine⟨jM _,?_⟩
     rw [hc1,if_neg (by omega)]
   rintro⟨k,c⟩ ⟨k1,k2⟩ B hB;simp only at hB
   refine orcL ?_;go_invoke;refine orcS (by kernel_rfl) ?_
   simp only [zq,Nat.reduceAdd];subst hI;simp only [nrmA,nrmB];rw [hx];generalize hCAP:([65,66,67,68,69,70,71,72,73,74,75,76,77,78,79,80,81,82,83,84,85,86,87,88,89,90]:Str)=CAP at *;generalize hLOW:([97,98,99,100,101,102,103,104,105,106,107,108,109,110,111,112,113,114,115,116,117,118,119,120,121,122]:Str)=LOW at *
   have hol:out.length≤1000000:=by rw [h2,vW,jv];omega
   have hc1l:c.length=1:=by rw [k2];rfl
   have hcl:CAP.length=26:=by rw [← hCAP];rfl
   have hll:LOW.length=26:=by rw [← hLOW];rfl
   have hcond:k<26→(CAP.getD k 0=x↔x.toNat=65+k):=fun h=>by rw [← UInt8.toNat_inj,(hcap k h).1];omega
   have heq:k<26→CAP.getD k 0=x→(LOW.drop k).take (((k:Int)+1).toNat - k)=[if 65≤x.toNat∧x.toNat<65+(k+1) then x+32 else x]:=fun h e=>by
    have e:=(hcond h).1 e
    rw [show((k:Int)+1).toNat - k=1 by omega,(hcap k h).2,if_pos (by omega)]
    congr 1
    rw [← UInt8.toNat_inj,UInt8.toNat_ofNat',UInt8.toNat_add,e];simp only [show(32:UInt8).toNat=32 from rfl];omega
   have hne:k<26→¬ CAP.getD k 0=x→c=[if 65≤x.toNat∧x.toNat<65+(k+1) then x+32 else x]:=fun h e=>by
    have e: ¬ x.toNat=65+k:=fun h'=>e ((hcond h).2 h');rw [k2]
    congr 1
    by_cases h1:65≤x.toNat∧x.toNat<65+k
    · rw [if_pos h1,if_pos (by omega)]
    · rw [if_neg h1,if_neg (by omega)]
   have hend: ¬ k<26→out++c=lowS (s.take (i+1)):=fun h=>by
    have hk:k=26:=by omega
    subst hk;rw [k2,h2,jB hi];unfold lowS;rw [List.map_append]
    congr 1
    rw [← hx,show s.getD i 0=s[i] by simp [hi]]
    show _=[lowC s[i]]
    unfold lowC
    congr 1
    by_cases h1:65≤s[i].toNat∧s[i].toNat<65+26
    · rw [if_pos h1,if_pos (by omega)]
    · rw [if_neg h1,if_neg (by omega)]
   (repeat' (first|refine ja ?_ ?_|intro _))<;>first|omega|exact jb|exact jc ‹False›|skip
   all_goals first
    |omega
    |exact hB (k+1,_) ⟨by simp only;omega,heq (by omega) ‹_›⟩ (by simp only;omega)
    |exact hB (k+1,_) ⟨by simp only;omega,hne (by omega) ‹_›⟩ (by simp only;omega)
    |(rw [hend (by omega)];exact hA (i+1,_) ⟨by simp only;omega,rfl⟩ (by simp only;omega))
 · subst hI
   simp only [nrmA,nrmB] at c1;simp only [nrmA,nrmB]
   rw [h2,jq (by omega)]
def Xk:Know Tryz.prog:=⟨77,zat,zkK⟩
def Xj:Know Tryz.prog:=⟨77,fun I=>zy I (zat I),zf zkK⟩
end Go.Proofs.YtkjepecoodjbmaaGreatDoor
namespace Go.Proofs.YtkjepecoodjbmaaGreatDoor
open Go Go.Sep Go.Ab
set_option maxRecDepth 100000
theorem zn9 {p:UInt8→Bool} {s:Str} {i:Nat} (h:i≤(s.takeWhile p).length):(i<s.length∧p (s.getD i 0)=true)↔i<(s.takeWhile p).length:=by
 induction s generalizing i with
 |nil=>simp
 | cons c r ih=>
   by_cases hc:p c=true
   · simp only [List.takeWhile_cons,hc,if_true,jh] at h ⊢
     cases i with
     |zero=>simp [hc]
     | succ i=>
       have:=ih (i:=i) (by omega)
       simp only [List.getD_cons_succ];constructor
       · rintro⟨h1,h2⟩;have:=this.1 ⟨by omega,h2⟩;omega
       · intro h1;have:=this.2 (by omega);exact⟨by omega,this.2⟩
   · simp only [List.takeWhile_cons,hc,jd,if_false,ji] at h ⊢
     have:i=0:=by omega
     subst this
     simp [hc]
theorem zuU (p:UInt8→Bool) (s:Str):s.take (s.takeWhile p).length=s.takeWhile p:=by
 induction s with
 |nil=>simp
 |cons c r ih=>by_cases hc:p c=true<;>simp [List.takeWhile_cons,hc,ih]
theorem drop_tw (p:UInt8→Bool) (s:Str):s.drop (s.takeWhile p).length=s.dropWhile p:=by
 induction s with
 |nil=>simp
 |cons c r ih=>by_cases hc:p c=true<;>simp [List.takeWhile_cons,List.dropWhile_cons,hc,ih]
theorem zwe (p:UInt8→Bool) (s:Str):(s.takeWhile p).length≤s.length:=(List.takeWhile_sublist p).length_le
theorem zxm (p:UInt8→Bool) (s:Str):(s.dropWhile p).length≤s.length:=(List.dropWhile_sublist p).length_le
def isTk (c:UInt8):Bool:=tokB (c.toNat:Int)
def tokS (s:Str):Str:=s.takeWhile isTk
def tokE (s:Str):Str:=s.dropWhile isTk
theorem sU (s:Str):(tokS s).length≤s.length:=zwe _ _
theorem uq (s:Str):(tokE s).length≤s.length:=zxm _ _
theorem zuT (s:Str):(tokS s).length+(tokE s).length=s.length:=by
 have:=congrArg List.length (List.takeWhile_append_dropWhile (p:=isTk) (l:=s));rw [jk] at this;exact this
def skS (s:Str):Str:=Lib.trimLeftS s [32,9]
theorem vX (s:Str):(skS s).length≤s.length:=by
 unfold skS Lib.trimLeftS;exact(List.dropWhile_sublist _).length_le
def sS (s:Str) (c:UInt8):Bool:=s.head? == some c
theorem zee {s:Str} {c:UInt8} (h:sS s c=true):0<s.length:=by
 cases s with
 |nil=>simp [sS] at h
 |cons a r=>simp
theorem zef {s:Str} {c:UInt8}:sS s c=true↔0<s.length∧s.getD 0 0=c:=by
 cases s with
 |nil=>simp [sS]
 |cons a r=>simp [sS]
theorem drop1 (s:Str):List.take (s.length - Int.toNat 1) (List.drop (Int.toNat 1) s)=s.drop 1:=by
 show List.take (s.length - 1) (List.drop 1 s)=s.drop 1
 exact jq (by simp)
def quoF:Str→Option (Str × Str)
 |[]=>none
 |[x]=>if x=34 then some ([],[]) else none
 |x::y::r=>if x=34 then some ([],y::r) else if x=92 then(quoF r).map (fun p=>(y::p.1,p.2)) else(quoF (y::r)).map (fun p=>(x::p.1,p.2))
def quoV (s:Str):Str:=match quoF s with|some p=>p.1|none=>[]
def quoR (s:Str):Str:=match quoF s with|some p=>p.2|none=>[]
theorem zaN: ∀ (s:Str) (p:Str × Str),quoF s=some p→p.1.length+p.2.length<s.length
 |[],p,h=>by simp [quoF] at h
 | [x],p,h=>by
   simp only [quoF] at h
   split at h
   · cases h;simp
   · cases h
 | x ::y::r,p,h=>by
   simp only [quoF] at h
   split at h
   · cases h;simp
   · split at h
     · rw [Option.map_eq_some_iff] at h
       obtain⟨q,hq,rfl⟩:=h;have:=zaN r q hq;simp only [jh];omega
     · rw [Option.map_eq_some_iff] at h
       obtain⟨q,hq,rfl⟩:=h;have:=zaN (y::r) q hq;simp only [jh] at this ⊢;omega
theorem zsH (s:Str):(quoR s).length≤s.length:=by
 unfold quoR
 split
 · rename_i p h;have:=zaN _ _ h;omega
 · simp
theorem zsG (s:Str):(quoV s).length≤s.length:=by
 unfold quoV
 split
 · rename_i p h;have:=zaN _ _ h;omega
 · simp
def parM (s:Str):Int × Fld × Str:=
 if tokS s=[] then(5,⟨[],[]⟩,tokE s)
 else if sS (tokE s) 61=false then(5,⟨[],[]⟩,tokE s)
 else if sS ((tokE s).drop 1) 34=true then
  if(quoF ((tokE s).drop 2)).isSome=true then(0,⟨lowS (tokS s),quoV ((tokE s).drop 2)⟩,quoR ((tokE s).drop 2)) else(14,⟨[],[]⟩,[])
 else if tokS ((tokE s).drop 1)=[] then(5,⟨[],[]⟩,tokE ((tokE s).drop 1))
 else(0,⟨lowS (tokS s),tokS ((tokE s).drop 1)⟩,tokE ((tokE s).drop 1))
theorem zfk (s:Str):(parM s).2.2.length≤s.length∧(parM s).2.1.name.length≤s.length∧(parM s).2.1.value.length≤s.length:=by
 have h1:=uq s;have h2:=uq ((tokE s).drop 1);have h3:=zsH ((tokE s).drop 2);have h4:=zsG ((tokE s).drop 2);have h5:=sU s;have h6:=sU ((tokE s).drop 1);simp only [jC] at h2 h3 h4 h6;unfold parM
 repeat' split
 all_goals simp only [ji,vW];omega
def getP (l:List Fld) (n:Str):Str × Bool:=match l.find? (fun f=>f.name == n) with|some f=>(f.value,true)|none=>([],false)
def medL:Nat→Str→List Fld→Int × List Fld × Str
 |0,s,ps=>(5,ps,s)
 | n +1,s,ps=>
   if sS s 59=true then
    if(parM (skS (s.drop 1))).1≠0 then((parM (skS (s.drop 1))).1,ps,(parM (skS (s.drop 1))).2.2)
    else if(getP ps (parM (skS (s.drop 1))).2.1.name).2=true then(9,ps,(parM (skS (s.drop 1))).2.2)
    else if ps.length=8 then(8,ps,(parM (skS (s.drop 1))).2.2)
    else medL n (skS (parM (skS (s.drop 1))).2.2) (ps++[(parM (skS (s.drop 1))).2.1])
   else if s=[] then(0,ps,s) else(5,ps,s)
def medB (w:Str) (s:Str):Int × Med × Str:=((medL ((skS s).length+1) (skS s) []).1,⟨w,(medL ((skS s).length+1) (skS s) []).2.1⟩,(medL ((skS s).length+1) (skS s) []).2.2)
def medA (s:Str):Int × Med × Str:=
 if tokS s=[] then(5,⟨[],[]⟩,tokE s)
 else if sS (tokE s) 47=true then
  if tokS ((tokE s).drop 1)=[] then(5,⟨[],[]⟩,tokE ((tokE s).drop 1))
  else medB (lowS (tokS s)++([47]++lowS (tokS ((tokE s).drop 1)))) (tokE ((tokE s).drop 1))
 else medB (lowS (tokS s)) (tokE s)
def ve (s:Str):Int × Med × Str:=medA (skS s)
def wI (s:Str):Med × Int:=if YC s=false then(⟨[],[]⟩,3) else if(ve s).1=0 then((ve s).2.1,0) else(⟨[],[]⟩,(ve s).1)
theorem zg2 (s:Str):(parM s).1=0∨(parM s).1=5∨(parM s).1=14:=by
 unfold parM
 repeat' split
 all_goals simp
def ixP (l:List Fld) (n:Str):Int:=if l.findIdx (fun f=>f.name == n)<l.length then(l.findIdx (fun f=>f.name == n):Int) else -1
theorem zvK (l:List Fld) (n:Str):getP l n=if 0≤ixP l n then((l.getD (ixP l n).toNat ⟨[],[]⟩).value,true) else([],false):=by
 unfold getP ixP;rw [List.find?_eq_getElem?_findIdx]
 by_cases h:l.findIdx (fun f=>f.name == n)<l.length
 · rw [if_pos h,if_pos (by omega),jm h]
   simp [jH,h]
 · rw [if_neg h,if_neg (by omega),List.getElem?_eq_none (by omega)]
end Go.Proofs.YtkjepecoodjbmaaGreatDoor
namespace Go.Proofs.YtkjepecoodjbmaaGreatDoor
open Go Go.Sep Go.Ab
set_option maxRecDepth 100000
def ZG (I:Alg) (args:List D) (hp:List HO):Option CT:=match args,hp with
 |[.v (.one (.p (.str s))),.v (.one (.p (.str ([32,9]))))],[]=>(fun(s:Str)=>(some (.one ⟨I.hid (True),(.ret (.v (.one (.p (.str (I.hid ((skS s)))))))),[]⟩):Option CT)) s
 |_,_=>none
theorem zbB:zx Tryz.prog 278 (ZG alg):=by
 intro args hp r h;unfold ZG at h;split at h<;>cases h
 rename_i s;simp only [CT.Good,zi];intro _
 refine Spc.of_below ⟨_,Tryz.func278,by kernel_rfl,by kernel_rfl⟩ fun S bs w vs _ hM=> ?_
 obtain⟨v,r,rfl⟩: ∃ v r,vs=v::r:=by cases vs with|nil=>exact hM.elim|cons v r=>exact⟨v,r,rfl⟩
 obtain⟨h1,hM⟩:=hM
 obtain⟨v2,r2,rfl⟩: ∃ v r2,r=v::r2:=by cases r with|nil=>exact hM.elim|cons v r=>exact⟨v,r,rfl⟩
 obtain⟨h2,hM⟩:=hM
 obtain rfl:r2=[]:=by cases r2 with|nil=>rfl|cons v r=>exact hM.elim
 cases h1 with
 | str _ hl1=>
   cases h2 with
   | str _ hl2=>
     refine⟨.string (Sep.S (skS s)),.str _ (Nat.le_trans (vX _) hl1),?_⟩
     exact Tryz.strings_TrimLeft_laid (Sep.S s) (Sep.S [32,9]) w (by decide) (fun j b hb=>by
      have:=List.mem_of_getElem? hb
      rcases(by simpa [Sep.S] using this:b=32∨b=9) with rfl|rfl<;>decide)
def ziR:Know Tryz.prog:=⟨278,ZG,zbB⟩
def ziQ:Know Tryz.prog:=⟨278,fun I=>zy I (ZG I),zf zbB⟩
theorem zvn (b:Bool) (c:Int) (hneed:b=false):Spc Tryz.prog 254 [.v (.one (.p (.bool b))),.v (.one (.p (.int .i64 c)))] [] (.ret (.tup [])) []:=by
 refine spcG zh mixed Tryz.func254 (by kernel_rfl) { keep:=some [0,1]} [] (by kernel_rfl) ?_
 intro I X hI hX
 refine orcL ?_;go_invoke;refine orcS (by kernel_rfl) ?_
 simp only [zq,Nat.reduceAdd];subst hI;simp only [nrmA,nrmB]
 (repeat' (first|refine ja ?_ ?_|intro _))<;>first|omega|exact jb|exact jc ‹False›|skip
 all_goals simp_all
theorem zvm (b:Bool) (c:Int) (hneed:b=true):Spc Tryz.prog 254 [.v (.one (.p (.bool b))),.v (.one (.p (.int .i64 c)))] [] (.pan (.ifc 256 false [(.int .i64 c)])) []:=by
 refine spcG zh mixed Tryz.func254 (by kernel_rfl) { keep:=some [0,1]} [] (by kernel_rfl) ?_
 intro I X hI hX
 refine orcL ?_;go_invoke;refine orcS (by kernel_rfl) ?_
 simp only [zq,Nat.reduceAdd];subst hI;simp only [nrmA,nrmB]
 (repeat' (first|refine ja ?_ ?_|intro _))<;>first|omega|exact jb|exact jc ‹False›|skip
 all_goals simp_all
def zaR (I:Alg) (args:List D) (hp:List HO):Option CT:=match args,hp with
 |[.v (.one (.p (.bool b))),.v (.one (.p (.int .i64 c)))],[]=>(fun(b:Bool) (c:Int)=>(some (.br (I.hid (b)) (.one ⟨I.hid (b=true),(.pan (.ifc 256 false [(.int .i64 c)])),[]⟩) (.one ⟨I.hid (b=false),(.ret (.tup [])),[]⟩)):Option CT)) b c
 |_,_=>none
theorem zls:zx Tryz.prog 254 (zaR alg):=by
 intro args hp r h;unfold zaR at h
 split at h
 · cases h;exact⟨fun _ hn=>zvm _ _ hn,fun _ hn=>zvn _ _ hn⟩
 · cases h
def wZ:Know Tryz.prog:=⟨254,zaR,zls⟩
def wY:Know Tryz.prog:=⟨254,fun I=>zy I (zaR I),zf zls⟩
def XG (I:Alg) (args:List D) (hp:List HO):Option CT:=match args,hp with
 |[.v (.one (.ptr 0 0))],[.pack [.obj 260 [(.p (.str s))]]]=>(fun(s:Str)=>(some (.one ⟨I.hid (True),(.ret (.tup [])),[.pack [.obj 260 [(.p (.str (I.hid ((skS s)))))]]]⟩):Option CT)) s
 |_,_=>none
theorem zdX:zx Tryz.prog 250 (XG alg):=by
 intro args hp r h;unfold XG at h;split at h<;>cases h
 rename_i s;simp only [CT.Good,zi];intro _
 refine spcG zh mixed Tryz.func250 (by kernel_rfl) { keep:=some [0]} [ziR,ziQ] (by kernel_rfl) ?_
 intro I X hI hX
 refine orcL ?_;go_invoke;refine orcS (by kernel_rfl) ?_
 simp only [zq,Nat.reduceAdd];subst hI;simp only [nrmA,nrmB,nrlB,reduceCtorEq,HO.pack.injEq,HO.obj.injEq]
 try trivial
def XF:Know Tryz.prog:=⟨250,XG,zdX⟩
def XE:Know Tryz.prog:=⟨250,fun I=>zy I (XG I),zf zdX⟩
def zaP (I:Alg) (args:List D) (hp:List HO):Option CT:=match args,hp with
 |[.v (.one (.ptr 0 0)),.v (.one (.p (.int .u8 k)))],[.pack [.obj 260 [(.p (.str s))]]]=>(fun(s:Str) (k:Int)=>(some (.one ⟨I.hid (0≤k∧k≤255),(.ret (.v (.one (.p (.bool (I.hid ((sS s (UInt8.ofNat k.toNat))))))))),[.pack [.obj 260 [(.p (.str (I.hid ((if sS s (UInt8.ofNat k.toNat)=true then s.drop 1 else s)))))]]]⟩):Option CT)) s k
 |_,_=>none
theorem zlp:zx Tryz.prog 252 (zaP alg):=by
 intro args hp r h;unfold zaP at h;split at h<;>cases h
 rename_i k s;simp only [CT.Good,zi];intro hneed;generalize hr:sS s (UInt8.ofNat k.toNat)=r
 refine spcG zh mixed Tryz.func252 (by kernel_rfl) { keep:=some [0,1,4,5]} [] (by kernel_rfl) ?_
 intro I X hI hX
 refine orcL ?_;go_invoke;refine orcS (by kernel_rfl) ?_
 simp only [zq,Nat.reduceAdd];subst hI;simp only [nrmA,nrmB,nrlB,reduceCtorEq,HO.pack.injEq,HO.obj.injEq]
 have hk:((UInt8.ofNat k.toNat).toNat:Int)=k:=by rw [UInt8.toNat_ofNat',Nat.mod_eq_of_lt (by omega)];omega
 have hk2: ∀ c:UInt8,(c.toNat:Int)=k↔c=UInt8.ofNat k.toNat:=fun c=>⟨fun h=>by rw [← h];simp,fun h=>by rw [h];exact hk⟩
 rw [drop1];have hs:s=[]↔s.length=0:=List.length_eq_zero_iff.symm;rw [hs]
 cases r with
 | true=>
   obtain⟨h1,h2⟩:=zef.1 hr;have hkk:=(hk2 _).2 h2;rw [hkk]
   (repeat' (first|refine ja ?_ ?_|intro _))<;>first|omega|exact jb|exact jc ‹False›|skip
   all_goals first|omega|(simp;done)|(simp_all;done)
 | false=>
   have h1:0<s.length→¬ ((s.getD 0 0).toNat:Int)=k:=fun h q=>by rw [zef.2 ⟨h,(hk2 _).1 q⟩] at hr;cases hr
   (repeat' (first|refine ja ?_ ?_|intro _))<;>first|omega|exact jb|exact jc ‹False›|skip
   all_goals first|omega|(simp;done)|(exfalso;exact h1 (by omega) ‹_›)|(have:=h1 (by omega);simp_all;done)|trace_state
def XD:Know Tryz.prog:=⟨252,zaP,zlp⟩
def XC:Know Tryz.prog:=⟨252,fun I=>zy I (zaP I),zf zlp⟩
theorem zwG (s:Str) (hneed:s.length≤1000000∧¬ tokS s=[]):Spc Tryz.prog 251 [.v (.one (.ptr 0 0))] [.pack [.obj 260 [(.p (.str s))]]] (.ret (.v (.one (.p (.str ((tokS s))))))) [.pack [.obj 260 [(.p (.str ((tokE s))))]]]:=by
 obtain⟨hl,hne⟩:=hneed
 refine spcG zh mixed Tryz.func251 (by kernel_rfl) { keep:=some [0,2,3,4]} [ZH,Vq,wZ,wY] (by kernel_rfl) ?_
 intro I X hI hX
 refine orcL ?_;go_invoke;refine orcS (by kernel_rfl) ?_
 simp only [zq,Nat.reduceAdd]
 refine zB hI zh mixed [ZH,Vq,wZ,wY] hX [0,3] (fun(i:Nat)=>i≤(tokS s).length) (fun(i:Nat)=>⟨[(0,.v (.one (.ptr 0 0))),(3,.v (.one (.p (.int .i64 i))))],[.pack [.obj 260 [(.p (.str s))]]],42,none⟩) (fun(i:Nat)=>s.length - i) 0 (by kernel_rfl) (by kernel_rfl) ?_ ?_
 · exact jM _
 rintro i h1 A hA
 refine orcL ?_;go_invoke;refine orcS (by kernel_rfl) ?_
 simp only [zq,Nat.reduceAdd];subst hI;simp only [nrmA,nrmB,nrlB,reduceCtorEq,HO.pack.injEq,HO.obj.injEq];have hb:=wz (s.getD i 0);have hs:=zn9 (p:=isTk) (s:=s) h1;have hle:=sU s;have ht:=zuU isTk s;have hd:=drop_tw isTk s;unfold isTk at hs
 change _↔i<(tokS s).length at hs
 change s.take (tokS s).length=tokS s at ht
 change s.drop (tokS s).length=tokE s at hd
 have hlen:=zuT s
 have hend: ¬ i<(tokS s).length→i=(tokS s).length:=fun h=>by omega
 generalize s.getD i 0=x at *
 have hgo:i<(tokS s).length→A ⟨[(0,.v (.one (.ptr 0 0))),(3,.v (.one (.p (.int .i64 (((i:Int)+1))))))],[.pack [.obj 260 [(.p (.str s))]]],42,none⟩:=fun h=>hA (i+1) (by omega) (by omega)
 by_cases hi:i<(tokS s).length
 · have hi2:=hs.2 hi
   clear hs hend ht hd hA
   (repeat' (first|refine ja ?_ ?_|intro _))<;>first|omega|exact jb|exact jc ‹False›|skip
   all_goals first
    |omega
    |exact hgo hi
    |(exfalso;simp_all;done)
 · have hx:i<s.length→tokB (x.toNat:Int)=true→False:=fun a b=>hi (hs.1 ⟨a,b⟩)
   have hi2:=hend hi;clear hs hend hA hgo;subst hi2;rw [ht]
   have hcut:List.take (s.length - (tokS s).length) (List.drop (tokS s).length s)=tokE s:=by rw [hd];exact jq (by omega)
   rw [hcut]
   (repeat' (first|refine ja ?_ ?_|intro _))<;>first|omega|exact jb|exact jc ‹False›|skip
   all_goals first
    |omega
    |(exfalso;exact hx (by omega) ‹_›)
    |(exfalso;exact hne ‹_›)
    |(simp [hne];done)
theorem zwF (s:Str) (hneed:s.length≤1000000∧tokS s=[]):Spc Tryz.prog 251 [.v (.one (.ptr 0 0))] [.pack [.obj 260 [(.p (.str s))]]] (.pan (.ifc 256 false [(.int .i64 5)])) [.pack [.obj 260 [(.p (.str ((tokE s))))]]]:=by
 obtain⟨hl,hne⟩:=hneed
 refine spcG zh mixed Tryz.func251 (by kernel_rfl) { keep:=some [0,2,3,4]} [ZH,Vq,wZ,wY] (by kernel_rfl) ?_
 intro I X hI hX
 refine orcL ?_;go_invoke;refine orcS (by kernel_rfl) ?_
 simp only [zq,Nat.reduceAdd]
 refine zB hI zh mixed [ZH,Vq,wZ,wY] hX [0,3] (fun(i:Nat)=>i≤(tokS s).length) (fun(i:Nat)=>⟨[(0,.v (.one (.ptr 0 0))),(3,.v (.one (.p (.int .i64 i))))],[.pack [.obj 260 [(.p (.str s))]]],42,none⟩) (fun(i:Nat)=>s.length - i) 0 (by kernel_rfl) (by kernel_rfl) ?_ ?_
 · exact jM _
 rintro i h1 A hA
 refine orcL ?_;go_invoke;refine orcS (by kernel_rfl) ?_
 simp only [zq,Nat.reduceAdd];subst hI;simp only [nrmA,nrmB,nrlB,reduceCtorEq,HO.pack.injEq,HO.obj.injEq];have hb:=wz (s.getD i 0);have hs:=zn9 (p:=isTk) (s:=s) h1;have hd:=drop_tw isTk s;unfold isTk at hs
 change _↔i<(tokS s).length at hs
 change s.drop (tokS s).length=tokE s at hd
 rw [hne] at h1 hs hd;simp only [ji] at h1 hs hd
 have h0:i=0:=by omega
 subst h0;generalize s.getD 0 0=x at *
 have hx:0<s.length→tokB (x.toNat:Int)=true→False:=fun a b=>absurd (hs.1 ⟨a,b⟩) (by omega)
 have hcut:List.take (s.length - 0) (List.drop 0 s)=tokE s:=by rw [hd];exact jq (by have:=uq s;omega)
 clear hs hA;simp only [jJ,List.take_zero,hcut] at *
 (repeat' (first|refine ja ?_ ?_|intro _))<;>first|omega|exact jb|exact jc ‹False›|skip
 all_goals first
  |omega
  |(exfalso;exact hx (by omega) ‹_›)
  |(exfalso;rename_i hq;exact hq rfl)
  |(simp;done)
def zfl (I:Alg) (args:List D) (hp:List HO):Option CT:=match args,hp with
 |[.v (.one (.ptr 0 0))],[.pack [.obj 260 [(.p (.str s))]]]=>(fun(s:Str)=>(some (.br (I.hid (decide (tokS s=[]))) (.one ⟨I.hid (s.length≤1000000∧tokS s=[]),(.pan (.ifc 256 false [(.int .i64 5)])),[.pack [.obj 260 [(.p (.str (I.hid ((tokE s)))))]]]⟩) (.one ⟨I.hid (s.length≤1000000∧¬ tokS s=[]),(.ret (.v (.one (.p (.str (I.hid ((tokS s)))))))),[.pack [.obj 260 [(.p (.str (I.hid ((tokE s)))))]]]⟩)):Option CT)) s
 |_,_=>none
theorem zpH:zx Tryz.prog 251 (zfl alg):=by
 intro args hp r h;unfold zfl at h
 split at h
 · cases h;exact⟨fun _ hn=>zwF _ hn,fun _ hn=>zwG _ hn⟩
 · cases h
def Ru:Know Tryz.prog:=⟨251,zfl,zpH⟩
def Ro:Know Tryz.prog:=⟨251,fun I=>zy I (zfl I),zf zpH⟩
theorem zwI (s:Str) (hneed:s.length≤1000000∧(quoF s).isSome=true):Spc Tryz.prog 279 [.v (.one (.ptr 0 0))] [.pack [.obj 260 [(.p (.str s))]]] (.ret (.v (.one (.p (.str ((quoV s))))))) [.pack [.obj 260 [(.p (.str ((quoR s))))]]]:=by
 obtain⟨hl,hne⟩:=hneed
 refine spcG zh mixed Tryz.func279 (by kernel_rfl) { nr:=[3],keep:=some [0,2,3,4]} [wZ,wY] (by kernel_rfl) ?_
 intro I X hI hX
 refine orcL ?_;go_invoke;refine orcS (by kernel_rfl) ?_
 simp only [zq,Nat.reduceAdd]
 refine zB hI zh mixed [wZ,wY] hX [0,3] (fun(g:Str × Str)=>match g with|(b,t)=>b.length+t.length≤s.length∧quoF s=(quoF t).map (fun p=>(b++p.1,p.2))) (fun(g:Str × Str)=>match g with|(b,t)=>⟨[(0,.v (.one (.ptr 0 0))),(3,.v (.one (.row 1)))],[.pack [.obj 260 [(.p (.str t))]],.row .byte 5 b],53,none⟩) (fun(g:Str × Str)=>match g with|(b,t)=>t.length) ([],s) (by kernel_rfl) (by kernel_rfl) ?_ ?_
 · exact⟨by simp,by simp⟩
 rintro⟨b,t⟩ ⟨h1,h2⟩ A hA
 refine orcL ?_;go_invoke;refine orcS (by kernel_rfl) ?_
 simp only [zq,Nat.reduceAdd];subst hI;simp only [nrmA,nrmB,nrlB,reduceCtorEq,HO.pack.injEq,HO.obj.injEq];have hb:=wz (t.getD 0 0);rw [drop1];have hq: ∀ r:Str × Str,quoF s=some r→True:=fun _ _=>trivial
 cases t with
 | nil=>
   simp only [quoF,Option.map_none] at h2
   (repeat' (first|refine ja ?_ ?_|intro _))<;>first|omega|exact jb|exact jc ‹False›|skip
   all_goals first
    |omega
    |(simp_all;done)
 |cons x t=>
 cases t with
 | nil=>
   simp only [quoF] at h2;have h34:((x.toNat:Int)=34)↔x=34:=Zo x 34;have h92:((x.toNat:Int)=92)↔x=92:=Zo x 92;simp only [List.getD_cons_zero,h34,h92,List.drop_succ_cons,List.drop_zero,jh,ji] at *
   have hgo: ¬ x=34→A ⟨[(0,.v (.one (.ptr 0 0))),(3,.v (.one (.row 1)))],[.pack [.obj 260 [(.p (.str ([])))]],.row .byte 5 ((b++[x]))],53,none⟩:=fun h=>hA (b++[x],[]) ⟨by simp;omega,by rw [h2,if_neg h];rfl⟩ (by simp)
   have hv:x=34→quoV s=b∧quoR s=[]:=fun h=>by unfold quoV quoR;rw [h2,if_pos h];simp
   clear hA
   (repeat' (first|refine ja ?_ ?_|intro _))<;>first|omega|exact jb|exact jc ‹False›|skip
   all_goals first
    |omega
    |exact(hv ‹_›).1.symm
    |exact(hv ‹_›).2.symm
    |exact hgo ‹_›
    |(simp_all;done)
 | cons y t=>
   simp only [quoF] at h2;have h34:((x.toNat:Int)=34)↔x=34:=Zo x 34;have h92:((x.toNat:Int)=92)↔x=92:=Zo x 92;have hy:=wz y
   have hyt:List.take (t.length+1 - Int.toNat 1) (List.drop (Int.toNat 1) (y::t))=t:=by simpa using drop1 (y::t)
   simp only [List.getD_cons_zero,h34,h92,List.drop_succ_cons,List.drop_zero,jh] at *
   have hgoY: ¬ x=34→x=92→A ⟨[(0,.v (.one (.ptr 0 0))),(3,.v (.one (.row 1)))],[.pack [.obj 260 [(.p (.str t))]],.row .byte 5 ((b++[y]))],53,none⟩:=fun h k=>hA (b++[y],t) ⟨by simp;omega,by rw [h2,if_neg h,if_pos k,Option.map_map];congr 1;funext p;simp⟩ (by simp;omega)
   have hgoX: ¬ x=34→¬ x=92→A ⟨[(0,.v (.one (.ptr 0 0))),(3,.v (.one (.row 1)))],[.pack [.obj 260 [(.p (.str ((y::t))))]],.row .byte 5 ((b++[x]))],53,none⟩:=fun h k=>hA (b++[x],y::t) ⟨by simp;omega,by rw [h2,if_neg h,if_neg k,Option.map_map];congr 1;funext p;simp⟩ (by simp)
   have hv:x=34→quoV s=b∧quoR s=y::t:=fun h=>by unfold quoV quoR;rw [h2,if_pos h];simp
   clear hA;simp only [ji,Nat.zero_add]
   first|rw [hyt]|skip
   (repeat' (first|refine ja ?_ ?_|intro _))<;>first|omega|exact jb|exact jc ‹False›|skip
   all_goals first
    |omega
    |exact(hv ‹_›).1.symm
    |exact(hv ‹_›).2.symm
    |exact hgoX ‹_› ‹_›
    |exact hgoY ‹_› ‹_›
    |(simp_all;done)
theorem zwH (s:Str) (hneed:s.length≤1000000∧(quoF s).isSome=false):Spc Tryz.prog 279 [.v (.one (.ptr 0 0))] [.pack [.obj 260 [(.p (.str s))]]] (.pan (.ifc 256 false [(.int .i64 14)])) [.pack [.obj 260 [(.p (.str ([])))]]]:=by
 obtain⟨hl,hne⟩:=hneed
 refine spcG zh mixed Tryz.func279 (by kernel_rfl) { nr:=[3],keep:=some [0,2,3,4]} [wZ,wY] (by kernel_rfl) ?_
 intro I X hI hX
 refine orcL ?_;go_invoke;refine orcS (by kernel_rfl) ?_
 simp only [zq,Nat.reduceAdd]
 refine zB hI zh mixed [wZ,wY] hX [0,3] (fun(g:Str × Str)=>match g with|(b,t)=>b.length+t.length≤s.length∧quoF s=(quoF t).map (fun p=>(b++p.1,p.2))) (fun(g:Str × Str)=>match g with|(b,t)=>⟨[(0,.v (.one (.ptr 0 0))),(3,.v (.one (.row 1)))],[.pack [.obj 260 [(.p (.str t))]],.row .byte 5 b],53,none⟩) (fun(g:Str × Str)=>match g with|(b,t)=>t.length) ([],s) (by kernel_rfl) (by kernel_rfl) ?_ ?_
 · exact⟨by simp,by simp⟩
 rintro⟨b,t⟩ ⟨h1,h2⟩ A hA
 refine orcL ?_;go_invoke;refine orcS (by kernel_rfl) ?_
 simp only [zq,Nat.reduceAdd];subst hI;simp only [nrmA,nrmB,nrlB,reduceCtorEq,HO.pack.injEq,HO.obj.injEq];have hb:=wz (t.getD 0 0);rw [drop1];have hq: ∀ r:Str × Str,quoF s=some r→True:=fun _ _=>trivial
 cases t with
 | nil=>
   simp only [quoF,Option.map_none] at h2
   (repeat' (first|refine ja ?_ ?_|intro _))<;>first|omega|exact jb|exact jc ‹False›|skip
   all_goals first
    |omega
    |(simp_all;done)
 |cons x t=>
 cases t with
 | nil=>
   simp only [quoF] at h2;have h34:((x.toNat:Int)=34)↔x=34:=Zo x 34;have h92:((x.toNat:Int)=92)↔x=92:=Zo x 92;simp only [List.getD_cons_zero,h34,h92,List.drop_succ_cons,List.drop_zero,jh,ji] at *
   have hgo: ¬ x=34→A ⟨[(0,.v (.one (.ptr 0 0))),(3,.v (.one (.row 1)))],[.pack [.obj 260 [(.p (.str ([])))]],.row .byte 5 ((b++[x]))],53,none⟩:=fun h=>hA (b++[x],[]) ⟨by simp;omega,by rw [h2,if_neg h];rfl⟩ (by simp)
   have hv:x=34→quoV s=b∧quoR s=[]:=fun h=>by unfold quoV quoR;rw [h2,if_pos h];simp
   clear hA
   (repeat' (first|refine ja ?_ ?_|intro _))<;>first|omega|exact jb|exact jc ‹False›|skip
   all_goals first
    |omega
    |exact(hv ‹_›).1.symm
    |exact(hv ‹_›).2.symm
    |exact hgo ‹_›
    |(simp_all;done)
 | cons y t=>
   simp only [quoF] at h2;have h34:((x.toNat:Int)=34)↔x=34:=Zo x 34;have h92:((x.toNat:Int)=92)↔x=92:=Zo x 92;have hy:=wz y
   have hyt:List.take (t.length+1 - Int.toNat 1) (List.drop (Int.toNat 1) (y::t))=t:=by simpa using drop1 (y::t)
   simp only [List.getD_cons_zero,h34,h92,List.drop_succ_cons,List.drop_zero,jh] at *
   have hgoY: ¬ x=34→x=92→A ⟨[(0,.v (.one (.ptr 0 0))),(3,.v (.one (.row 1)))],[.pack [.obj 260 [(.p (.str t))]],.row .byte 5 ((b++[y]))],53,none⟩:=fun h k=>hA (b++[y],t) ⟨by simp;omega,by rw [h2,if_neg h,if_pos k,Option.map_map];congr 1;funext p;simp⟩ (by simp;omega)
   have hgoX: ¬ x=34→¬ x=92→A ⟨[(0,.v (.one (.ptr 0 0))),(3,.v (.one (.row 1)))],[.pack [.obj 260 [(.p (.str ((y::t))))]],.row .byte 5 ((b++[x]))],53,none⟩:=fun h k=>hA (b++[x],y::t) ⟨by simp;omega,by rw [h2,if_neg h,if_neg k,Option.map_map];congr 1;funext p;simp⟩ (by simp)
   have hv:x=34→quoV s=b∧quoR s=y::t:=fun h=>by unfold quoV quoR;rw [h2,if_pos h];simp
   clear hA;simp only [ji,Nat.zero_add]
   first|rw [hyt]|skip
   (repeat' (first|refine ja ?_ ?_|intro _))<;>first|omega|exact jb|exact jc ‹False›|skip
   all_goals first
    |omega
    |exact(hv ‹_›).1.symm
    |exact(hv ‹_›).2.symm
    |exact hgoX ‹_› ‹_›
    |exact hgoY ‹_› ‹_›
    |(simp_all;done)
def zfm (I:Alg) (args:List D) (hp:List HO):Option CT:=match args,hp with
 |[.v (.one (.ptr 0 0))],[.pack [.obj 260 [(.p (.str s))]]]=>(fun(s:Str)=>(some (.br (I.hid ((quoF s).isSome)) (.one ⟨I.hid (s.length≤1000000∧(quoF s).isSome=true),(.ret (.v (.one (.p (.str (I.hid ((quoV s)))))))),[.pack [.obj 260 [(.p (.str (I.hid ((quoR s)))))]]]⟩) (.one ⟨I.hid (s.length≤1000000∧(quoF s).isSome=false),(.pan (.ifc 256 false [(.int .i64 14)])),[.pack [.obj 260 [(.p (.str (I.hid ([]))))]]]⟩)):Option CT)) s
 |_,_=>none
theorem zpK:zx Tryz.prog 279 (zfm alg):=by
 intro args hp r h;unfold zfm at h
 split at h
 · cases h;exact⟨fun _ hn=>zwI _ hn,fun _ hn=>zwH _ hn⟩
 · cases h
def zpJ:Know Tryz.prog:=⟨279,zfm,zpK⟩
def zpI:Know Tryz.prog:=⟨279,fun I=>zy I (zfm I),zf zpK⟩
theorem zwK (s:Str) (hneed:s.length≤1000000∧(parM s).1=0):Spc Tryz.prog 253 [.v (.one (.ptr 0 0))] [.pack [.obj 260 [(.p (.str s))]]] (.ret (.v (.agg [(.p (.str ((parM s).2.1.name))),(.p (.str ((parM s).2.1.value)))]))) [.pack [.obj 260 [(.p (.str ((parM s).2.2)))]]]:=by
 obtain⟨hl,hc⟩:=hneed;generalize hr:parM s=r at hc;obtain⟨c,⟨n,v⟩,z⟩:=r;simp only at hc;subst hc
 refine spcG zh mixed Tryz.func253 (by kernel_rfl) { keep:=some [0,2,3]} [vJ,vI,wZ,wY,XD,XC,Ru,Ro,zpJ,zpI] (by kernel_rfl) ?_
 intro I X hI hX
 refine orcL ?_;go_invoke;refine orcS (by kernel_rfl) ?_
 simp only [zq,Nat.reduceAdd];subst hI;simp only [nrmA,nrmB,nrlB,reduceCtorEq,HO.pack.injEq,HO.obj.injEq];unfold parM at hr;have hl1:=sU s;have hl2:=uq s;simp only [show UInt8.ofNat (Int.toNat 61)=61 from rfl,show UInt8.ofNat (Int.toNat 34)=34 from rfl] at *
 (repeat' (first|refine ja ?_ ?_|intro _))<;>first|omega|exact jb|exact jc ‹False›|skip
 all_goals first
  |omega
  |(simp_all;done)
  |(simp_all;omega)
theorem zwJ (s:Str) (hneed:s.length≤1000000∧¬ (parM s).1=0):Spc Tryz.prog 253 [.v (.one (.ptr 0 0))] [.pack [.obj 260 [(.p (.str s))]]] (.pan (.ifc 256 false [(.int .i64 ((parM s).1))])) [.pack [.obj 260 [(.p (.str ((parM s).2.2)))]]]:=by
 obtain⟨hl,hc⟩:=hneed;generalize hr:parM s=r at hc;obtain⟨c,⟨n,v⟩,z⟩:=r;simp only at hc
 refine spcG zh mixed Tryz.func253 (by kernel_rfl) { keep:=some [0,2,3]} [vJ,vI,wZ,wY,XD,XC,Ru,Ro,zpJ,zpI] (by kernel_rfl) ?_
 intro I X hI hX
 refine orcL ?_;go_invoke;refine orcS (by kernel_rfl) ?_
 simp only [zq,Nat.reduceAdd];subst hI;simp only [nrmA,nrmB,nrlB,reduceCtorEq,HO.pack.injEq,HO.obj.injEq];unfold parM at hr;have hl1:=sU s;have hl2:=uq s;simp only [show UInt8.ofNat (Int.toNat 61)=61 from rfl,show UInt8.ofNat (Int.toNat 34)=34 from rfl] at *
 (repeat' (first|refine ja ?_ ?_|intro _))<;>first|omega|exact jb|exact jc ‹False›|skip
 all_goals first
  |omega
  |(simp_all;done)
  |(simp_all;omega)
  |(by_cases hq:tokS (List.drop 1 (tokE s))=[]<;>simp_all;done)
def zfp (I:Alg) (args:List D) (hp:List HO):Option CT:=match args,hp with
 |[.v (.one (.ptr 0 0))],[.pack [.obj 260 [(.p (.str s))]]]=>(fun(s:Str)=>(some (.br (I.hid (decide ((parM s).1=0))) (.one ⟨I.hid (s.length≤1000000∧(parM s).1=0),(.ret (.v (.agg [(.p (.str (I.hid ((parM s).2.1.name)))),(.p (.str (I.hid ((parM s).2.1.value))))]))),[.pack [.obj 260 [(.p (.str (I.hid ((parM s).2.2))))]]]⟩) (.one ⟨I.hid (s.length≤1000000∧¬ (parM s).1=0),(.pan (.ifc 256 false [(.int .i64 (I.hid ((parM s).1)))])),[.pack [.obj 260 [(.p (.str (I.hid ((parM s).2.2))))]]]⟩)):Option CT)) s
 |_,_=>none
theorem zpL:zx Tryz.prog 253 (zfp alg):=by
 intro args hp r h;unfold zfp at h
 split at h
 · cases h;exact⟨fun _ hn=>zwK _ hn,fun _ hn=>zwJ _ hn⟩
 · cases h
def zfo:Know Tryz.prog:=⟨253,zfp,zpL⟩
def zfn:Know Tryz.prog:=⟨253,fun I=>zy I (zfp I),zf zpL⟩
end Go.Proofs.YtkjepecoodjbmaaGreatDoor
namespace Go.Proofs.YtkjepecoodjbmaaGreatDoor
open Go Go.Sep Go.Ab
set_option maxRecDepth 100000
def zaQ (I:Alg) (args:List D) (hp:List HO):Option CT:=match args,hp with
 |[.v (.agg [(.p (.str a)),(.p (.str b))]),.v (.one (.ptr 0 0))],[.pack [.obj 9 [(.p (.str n))]]]=>(fun(a b n:Str)=>(some (.one ⟨I.hid (True),(.ret (.v (.one (.p (.bool (I.hid ((a == n)))))))),[.pack [.obj 9 [(.p (.str n))]]]⟩):Option CT)) a b n
 |_,_=>none
theorem zlr:zx Tryz.prog 245 (zaQ alg):=by
 intro args hp r h;unfold zaQ at h;split at h<;>cases h
 rename_i a b n;simp only [CT.Good,zi];intro _
 refine spcG zh mixed Tryz.func245 (by kernel_rfl) { keep:=some [0,1,2,3]} [] (by kernel_rfl) ?_
 intro I X hI hX
 refine orcL ?_;go_invoke;refine orcS (by kernel_rfl) ?_
 simp only [zq,Nat.reduceAdd];subst hI;simp only [nrmA,nrmB,nrlB,reduceCtorEq,HO.pack.injEq,HO.obj.injEq]
 try trivial
def zfs:Know Tryz.prog:=⟨245,zaQ,zlr⟩
def zsR:Know Tryz.prog:=⟨245,fun I=>zy I (zaQ I),zf zlr⟩
def zlq (I:Alg) (args:List D) (hp:List HO):Option CT:=match args,hp with
 |[.v (.one (.p (.list .fld l))),.v (.one (.fn 245 [.ptr 0 0]))],[.pack [.obj 9 [(.p (.str n))]]]=>(fun(l:List Fld) (n:Str)=>(some (.one ⟨I.hid (l.length≤1000000),(.ret (.v (.one (.p (.int .i64 (I.hid ((ixP l n)))))))),[.pack [.obj 9 [(.p (.str n))]]]⟩):Option CT)) l n
 |_,_=>none
set_option maxHeartbeats 1000000 in
theorem zuf:zx Tryz.prog 244 (zlq alg):=by
 intro args hp r h;unfold zlq at h;split at h<;>cases h
 rename_i l n
 revert l;intro(l:List Fld)
 simp only [CT.Good,zi];intro hneed
 refine spcG zh mixed Tryz.func244 (by kernel_rfl) { keep:=some [0,1,4,5,7,8]} [zfs] (by kernel_rfl) ?_
 intro I X hI hX
 refine orcL ?_;go_invoke;refine orcS (by kernel_rfl) ?_
 simp only [zq,Nat.reduceAdd]
 refine zB hI zh mixed [zfs] hX [0,1,7,8] (fun(i:Nat)=>i≤l.length∧i≤l.findIdx (fun f=>f.name == n)) (fun(i:Nat)=>⟨[(0,.v (.one (.p (.list .fld l)))),(1,.v (.one (.fn 245 [.ptr 0 0]))),(7,.v (.one (.p (.int .i64 ((I.len (α:=Fld) l)))))),(8,.v (.one (.p (.int .i64 i))))],[.pack [.obj 9 [(.p (.str n))]]],19,none⟩) (fun(i:Nat)=>l.length - i) 0 (by kernel_rfl) (by kernel_rfl) ?_ ?_
 · exact⟨jM _,jM _⟩
 rintro i ⟨h1,h2⟩ A hA
 refine orcL ?_;go_invoke;refine orcS (by kernel_rfl) ?_
 simp only [zq,Nat.reduceAdd];subst hI;simp only [nrmA,nrmB,nrlB,reduceCtorEq,HO.pack.injEq,HO.obj.injEq];have hfl:l.findIdx (fun f=>f.name == n)≤l.length:=List.findIdx_le_length
 have hyes:i<l.length→(l.getD i ⟨[],[]⟩).name=n→ixP l n=i:=fun h hid=>by
  have h0:l.findIdx (fun f=>f.name == n)≤i:=by
   refine Nat.le_of_not_lt fun hlt=> ?_;have:=List.not_of_lt_findIdx hlt;rw [jH,jm h] at hid;simp only [Option.getD_some] at hid;rw [hid] at this;simp at this
  unfold ixP
  rw [if_pos (by omega)];omega
 have hno:i<l.length→¬ (l.getD i ⟨[],[]⟩).name=n→i+1≤l.findIdx (fun f=>f.name == n):=fun h hid=>by
  refine Nat.lt_of_le_of_ne h2 fun e=>hid ?_
  have hlt:l.findIdx (fun f=>f.name == n)<l.length:=by omega
  have:=List.findIdx_getElem (xs:=l) (p:=fun f=>f.name == n) (w:=hlt)
  have h9:l.getD i ⟨[],[]⟩=l[l.findIdx (fun f=>f.name == n)]:=by simp [e,jH,hlt]
  rw [h9];simpa using this
 have hend: ¬ i<l.length→ixP l n= -1:=fun h=>by unfold ixP;rw [if_neg (by omega)]
 generalize l.getD i ⟨[],[]⟩=x at *
 (repeat' (first|refine ja ?_ ?_|intro _))<;>first|omega|exact jb|exact jc ‹False›|skip
 all_goals first
  |omega
  |(exact(hyes (by omega) ‹_›).symm)
  |(exact hA (i+1) ⟨by omega,hno (by omega) ‹_›⟩ (by omega))
  |(exact(hend (by omega)).symm)
def zwO:Know Tryz.prog:=⟨244,zlq,zuf⟩
def zwN:Know Tryz.prog:=⟨244,fun I=>zy I (zlq I),zf zuf⟩
theorem zw3 (l:List Fld) (n:Str): -1≤ixP l n∧ixP l n<l.length:=by unfold ixP;split<;>omega
def zfr (I:Alg) (args:List D) (hp:List HO):Option CT:=match args,hp with
 |[.v (.agg [(.p (.str w)),(.p (.list .fld l))]),.v (.one (.p (.str n)))],[]=>(fun(w:Str) (l:List Fld) (n:Str)=>(some (.one ⟨I.hid (l.length≤1000000),(.ret (.tup [(.one (.p (.str (I.hid ((getP l n).1))))),(.one (.p (.bool (I.hid ((getP l n).2)))))])),[]⟩):Option CT)) w l n
 |_,_=>none
theorem zpN:zx Tryz.prog 215 (zfr alg):=by
 intro args hp r h;unfold zfr at h;split at h<;>cases h
 rename_i w l n
 revert l;intro(l:List Fld)
 simp only [CT.Good,zi];intro hneed;rw [zvK];have hx:=zw3 l n
 refine spcG zh mixed Tryz.func215 (by kernel_rfl) { keep:=some [0,1,2,3,4,5,6]} [zfs,zsR,zwO,zwN] (by kernel_rfl) ?_
 intro I X hI hX
 refine orcL ?_;go_invoke;refine orcS (by kernel_rfl) ?_
 simp only [zq,Nat.reduceAdd];subst hI;simp only [nrmA,nrmB]
 (repeat' (first|refine ja ?_ ?_|intro _))<;>first|omega|exact jb|exact jc ‹False›|skip
 all_goals first
  |omega
  |(rw [if_pos (by omega)])
  |(rw [if_neg (by omega)])
def Rx:Know Tryz.prog:=⟨215,zfr,zpN⟩
def Rw:Know Tryz.prog:=⟨215,fun I=>zy I (zfr I),zf zpN⟩
def cfgM:Cfg:= { sl:=[⟨210,1,.fld,some 236⟩]}
set_option maxHeartbeats 4000000 in
theorem zwM (s:Str) (hneed:s.length≤1000000∧(ve s).1=0):Spc Tryz.prog 221 [.v (.one (.ptr 0 0))] [.pack [.obj 260 [(.p (.str s))]]] (.ret (.v (.agg [(.p (.str ((ve s).2.1.word))),(.p (.list .fld ((ve s).2.1.params)))]))) [.pack [.obj 260 [(.p (.str ((ve s).2.2)))]]]:=by
 obtain⟨hl,hc⟩:=hneed;generalize hr:ve s=r at hc;obtain⟨c,⟨w,ps⟩,z⟩:=r;simp only at hc;subst hc
 refine spcG zh mixed Tryz.func221 (by kernel_rfl) { cfgM with lend:=[215],keep:=some [0,2,3,4,6]} [vJ,vI,wZ,wY,XF,XE,XD,XC,Ru,Ro,zfo,zfn,Rx,Rw] (by kernel_rfl) ?_
 intro I X hI hX
 refine orcL ?_;go_invoke;refine orcS (by kernel_rfl) ?_
 simp only [zq,Nat.reduceAdd]
 have hh: ∀ {α:Type} (x:α),I.hid x=x:=by subst hI;intros;rfl
 have key : ∀ (w0 t0:Str),t0.length≤1000000→((medL (t0.length+1) t0 []).1,(⟨w0,(medL (t0.length+1) t0 []).2.1⟩:Med),(medL (t0.length+1) t0 []).2.2)=(0,⟨w,ps⟩,z)→Ok Tryz.prog X (fun o h=>o=AOut.ret (D.v (V0.agg [C.p (P.str w),C.p (P.list U.fld ps)]))∧h=[HO.pack [HO.obj 260 [C.p (P.str z)]]]) (leaf I tab { cfgM with lend:=[215],keep:=some [0,2,3,4,6]} [⟨vV Tryz.f221,finK I tab { cfgM with lend:=[215],keep:=some [0,2,3,4,6]} 1 Tryz.f221⟩] 0 [1,1,1,1,0,1,0] ⟨[(3,.v (.one (.ptr 2 0))),(2,.v (.one (.ptr 1 0))),(0,.v (.one (.ptr 0 0)))],[.pack [.obj 260 [(.p (.str t0))]],.obj 210 [(.p (.str ([]))),.nilS],.obj 210 [(.p (.str w0)),.nilS]],60,none⟩):=by
  intro w0 t0 ht0 hm;simp only [Prod.mk.injEq,Med.mk.injEq] at hm;obtain⟨hm1,⟨rfl,hm2⟩,hm3⟩:=hm
  refine zB hI zh mixed [vJ,vI,wZ,wY,XF,XE,XD,XC,Ru,Ro,zfo,zfn,Rx,Rw] hX [0,2,3] (fun(g:Str × List Fld)=>match g with|(t,l)=>t.length≤1000000∧l.length≤8∧∃ n,t.length<n∧medL n t l=(0,ps,z)) (fun(g:Str × List Fld)=>match g with|(t,l)=>⟨[(0,.v (.one (.ptr 0 0))),(2,.v (.one (.ptr 1 0))),(3,.v (.one (.ptr 2 0)))],[.pack [.obj 260 [(.p (.str t))]],.pack [.obj 210 [(.p (.str ([]))),(.row 1)],.row .fld 236 ([])],.pack [.obj 210 [(.p (.str w0)),(.row 1)],.row .fld 236 l]],60,none⟩) (fun(g:Str × List Fld)=>match g with|(t,l)=>t.length) (t0,[]) (by kernel_rfl) (by kernel_rfl) ?_ ?_
  · exact⟨ht0,by simp,t0.length+1,by omega,by rw [← hm1,← hm2,← hm3]⟩
  rintro⟨t,l⟩ ⟨ht,hl8,n,hn,hm⟩ A hA;clear hm1 hm2 hm3 hr;simp only at hA
  refine orcL ?_;go_invoke;refine orcS (by kernel_rfl) ?_
  simp only [zq,Nat.reduceAdd]
  cases n with
  |zero=>omega
  |succ n=>
  simp only [medL] at hm;have hgo:=hA (skS (parM (skS (t.drop 1))).2.2,l++[(parM (skS (t.drop 1))).2.1]);have hpl:=zfk (skS (t.drop 1));have hpc:=zg2 (skS (t.drop 1));have hsl:=vX (t.drop 1);have hsr:=vX (parM (skS (t.drop 1))).2.2;rw [jC] at hsl;clear hA;simp only [hh,show UInt8.ofNat (Int.toNat 59)=59 from rfl];subst hI
  by_cases h59:sS t 59=true
  · have hpos:=zee h59
    simp only [h59,if_true] at hm ⊢
    have hgo2:(parM (skS (t.drop 1))).1=0→(getP l (parM (skS (t.drop 1))).2.1.name).2=false→¬ l.length=8→_:=fun h1 h2 h3=>hgo ⟨by simp only;omega,by simp only [jk,jh,ji];omega,n,by simp only;omega,by
     rw [if_neg (fun h=>h h1),if_neg (by rw [h2];exact Bool.false_ne_true),if_neg h3] at hm;exact hm⟩ (by simp only;omega)
    clear hgo;simp only at hgo2;generalize parM (skS (t.drop 1))=p at *;obtain⟨pc,⟨pn,pv⟩,pr⟩:=p;simp only at hgo2 hm hpl hpc hsl hsr ⊢;simp only [nrmA,nrmB,nrlB,reduceCtorEq,jh,ji]
    (repeat' (first|refine ja ?_ ?_|intro _))<;>first|omega|exact jb|exact jc ‹False›|skip
    all_goals first
     |omega
     |assumption
     | (by_cases hpz:pc=0
        · exact hpz
        · rw [if_pos hpz] at hm;simp only [Prod.mk.injEq] at hm;exact hm.1)
     |exact hgo2 ‹_› ‹_› (by omega)
     |(exfalso;rw [if_neg (fun h=>h ‹pc=0›),if_neg (by rw [‹(getP l pn).2=false›];exact Bool.false_ne_true),if_pos (by omega)] at hm;simp_all;done)
     |(rw [if_neg (fun h=>h ‹pc=0›),if_neg (by rw [‹(getP l pn).2=false›];exact Bool.false_ne_true),if_pos (by omega)] at hm;simp_all;done)
     |(exfalso;simp_all;done)
     |(simp_all;done)
  · have h59:sS t 59=false:=by simpa using h59
    simp only [h59,jd,if_false] at hm ⊢;simp only [nrmA,nrmB,nrlB,reduceCtorEq,jh,ji]
    (repeat' (first|refine ja ?_ ?_|intro _))<;>first|omega|exact jb|exact jc ‹False›|skip
    all_goals first
     |omega
     |(exfalso;simp_all;done)
     |(simp_all;done)
     |(by_cases hte:t=[]<;>simp_all;done)
 have hl1:=vX s;have hl2:=uq (skS s);have hl3:=sU (skS s);simp only [hh,show UInt8.ofNat (Int.toNat 47)=47 from rfl,decide_eq_true_eq,decide_eq_false_iff_not];unfold ve medA at hr;generalize skS s=t at *;have hl4:=sU ((tokE t).drop 1);have hl5:=uq ((tokE t).drop 1);rw [jC] at hl4 hl5
 (repeat' (first|refine ja ?_ ?_|intro _))
 all_goals try first|trivial|assumption|omega|(exfalso;simp_all;done)|(subst hI;(try(simp only [nrmA,nrmB,nrlB,reduceCtorEq,jh,ji,vW]))<;>first|omega|(simp_all [vW];done)|(simp_all [vW];omega))
 all_goals(have happ: ∀ a b:Str,I.app (α:=UInt8) a b=a++b:=by subst hI;intros;rfl)
 all_goals try simp only [happ]
 all_goals first
  | (rename_i q1 q2 q3
     rw [if_neg q1,if_pos q2] at hr;simp only [q2,if_true] at q3 ⊢;rw [if_neg q3] at hr;have hsk:=vX (tokE ((tokE t).drop 1))
     exact key _ _ (by omega) hr)
  | (rename_i q1 q2
     rw [if_neg q1,if_neg (by simp [q2])] at hr
     simp only [q2,jd,if_false] at ⊢
     have hsk:=vX (tokE t)
     exact key _ _ (by omega) hr)
set_option maxHeartbeats 4000000 in
theorem zwL (s:Str) (hneed:s.length≤1000000∧¬ (ve s).1=0):Spc Tryz.prog 221 [.v (.one (.ptr 0 0))] [.pack [.obj 260 [(.p (.str s))]]] (.pan (.ifc 256 false [(.int .i64 ((ve s).1))])) [.pack [.obj 260 [(.p (.str ((ve s).2.2)))]]]:=by
 obtain⟨hl,hc⟩:=hneed;generalize hr:ve s=r at hc;obtain⟨c,⟨w,ps⟩,z⟩:=r;simp only at hc
 refine spcG zh mixed Tryz.func221 (by kernel_rfl) { cfgM with lend:=[215],keep:=some [0,2,3,4,6]} [vJ,vI,wZ,wY,XF,XE,XD,XC,Ru,Ro,zfo,zfn,Rx,Rw] (by kernel_rfl) ?_
 intro I X hI hX
 refine orcL ?_;go_invoke;refine orcS (by kernel_rfl) ?_
 simp only [zq,Nat.reduceAdd]
 have hh: ∀ {α:Type} (x:α),I.hid x=x:=by subst hI;intros;rfl
 have key : ∀ (w0 t0:Str),t0.length≤1000000→((medL (t0.length+1) t0 []).1,(⟨w0,(medL (t0.length+1) t0 []).2.1⟩:Med),(medL (t0.length+1) t0 []).2.2)=(c,⟨w,ps⟩,z)→Ok Tryz.prog X (fun o h=>o=AOut.pan (C.ifc 256 false [P.int IntKind.i64 c])∧h=[HO.pack [HO.obj 260 [C.p (P.str z)]]]) (leaf I tab { cfgM with lend:=[215],keep:=some [0,2,3,4,6]} [⟨vV Tryz.f221,finK I tab { cfgM with lend:=[215],keep:=some [0,2,3,4,6]} 1 Tryz.f221⟩] 0 [1,1,1,1,0,1,0] ⟨[(3,.v (.one (.ptr 2 0))),(2,.v (.one (.ptr 1 0))),(0,.v (.one (.ptr 0 0)))],[.pack [.obj 260 [(.p (.str t0))]],.obj 210 [(.p (.str ([]))),.nilS],.obj 210 [(.p (.str w0)),.nilS]],60,none⟩):=by
  intro w0 t0 ht0 hm;simp only [Prod.mk.injEq,Med.mk.injEq] at hm;obtain⟨hm1,⟨rfl,hm2⟩,hm3⟩:=hm
  refine zB hI zh mixed [vJ,vI,wZ,wY,XF,XE,XD,XC,Ru,Ro,zfo,zfn,Rx,Rw] hX [0,2,3] (fun(g:Str × List Fld)=>match g with|(t,l)=>t.length≤1000000∧l.length≤8∧∃ n,t.length<n∧medL n t l=(c,ps,z)) (fun(g:Str × List Fld)=>match g with|(t,l)=>⟨[(0,.v (.one (.ptr 0 0))),(2,.v (.one (.ptr 1 0))),(3,.v (.one (.ptr 2 0)))],[.pack [.obj 260 [(.p (.str t))]],.pack [.obj 210 [(.p (.str ([]))),(.row 1)],.row .fld 236 ([])],.pack [.obj 210 [(.p (.str w0)),(.row 1)],.row .fld 236 l]],60,none⟩) (fun(g:Str × List Fld)=>match g with|(t,l)=>t.length) (t0,[]) (by kernel_rfl) (by kernel_rfl) ?_ ?_
  · exact⟨ht0,by simp,t0.length+1,by omega,by rw [← hm1,← hm2,← hm3]⟩
  rintro⟨t,l⟩ ⟨ht,hl8,n,hn,hm⟩ A hA;clear hm1 hm2 hm3 hr;simp only at hA
  refine orcL ?_;go_invoke;refine orcS (by kernel_rfl) ?_
  simp only [zq,Nat.reduceAdd]
  cases n with
  |zero=>omega
  |succ n=>
  simp only [medL] at hm;have hgo:=hA (skS (parM (skS (t.drop 1))).2.2,l++[(parM (skS (t.drop 1))).2.1]);have hpl:=zfk (skS (t.drop 1));have hpc:=zg2 (skS (t.drop 1));have hsl:=vX (t.drop 1);have hsr:=vX (parM (skS (t.drop 1))).2.2;rw [jC] at hsl;clear hA;simp only [hh,show UInt8.ofNat (Int.toNat 59)=59 from rfl];subst hI
  by_cases h59:sS t 59=true
  · have hpos:=zee h59
    simp only [h59,if_true] at hm ⊢
    have hgo2:(parM (skS (t.drop 1))).1=0→(getP l (parM (skS (t.drop 1))).2.1.name).2=false→¬ l.length=8→_:=fun h1 h2 h3=>hgo ⟨by simp only;omega,by simp only [jk,jh,ji];omega,n,by simp only;omega,by
     rw [if_neg (fun h=>h h1),if_neg (by rw [h2];exact Bool.false_ne_true),if_neg h3] at hm;exact hm⟩ (by simp only;omega)
    clear hgo;simp only at hgo2;generalize parM (skS (t.drop 1))=p at *;obtain⟨pc,⟨pn,pv⟩,pr⟩:=p;simp only at hgo2 hm hpl hpc hsl hsr ⊢;simp only [nrmA,nrmB,nrlB,reduceCtorEq,jh,ji]
    (repeat' (first|refine ja ?_ ?_|intro _))<;>first|omega|exact jb|exact jc ‹False›|skip
    all_goals first
     |omega
     |assumption
     | (by_cases hpz:pc=0
        · exact hpz
        · rw [if_pos hpz] at hm;simp only [Prod.mk.injEq] at hm;exact hm.1)
     |exact hgo2 ‹_› ‹_› (by omega)
     |(exfalso;rw [if_neg (fun h=>h ‹pc=0›),if_neg (by rw [‹(getP l pn).2=false›];exact Bool.false_ne_true),if_pos (by omega)] at hm;simp_all;done)
     |(rw [if_neg (fun h=>h ‹pc=0›),if_neg (by rw [‹(getP l pn).2=false›];exact Bool.false_ne_true),if_pos (by omega)] at hm;simp_all;done)
     |(exfalso;simp_all;done)
     |(simp_all;done)
  · have h59:sS t 59=false:=by simpa using h59
    simp only [h59,jd,if_false] at hm ⊢;simp only [nrmA,nrmB,nrlB,reduceCtorEq,jh,ji]
    (repeat' (first|refine ja ?_ ?_|intro _))<;>first|omega|exact jb|exact jc ‹False›|skip
    all_goals first
     |omega
     |(exfalso;simp_all;done)
     |(simp_all;done)
     |(by_cases hte:t=[]<;>simp_all;done)
 have hl1:=vX s;have hl2:=uq (skS s);have hl3:=sU (skS s);simp only [hh,show UInt8.ofNat (Int.toNat 47)=47 from rfl,decide_eq_true_eq,decide_eq_false_iff_not];unfold ve medA at hr;generalize skS s=t at *;have hl4:=sU ((tokE t).drop 1);have hl5:=uq ((tokE t).drop 1);rw [jC] at hl4 hl5
 (repeat' (first|refine ja ?_ ?_|intro _))
 all_goals try first|trivial|assumption|omega|(exfalso;simp_all;done)|(subst hI;(try(simp only [nrmA,nrmB,nrlB,reduceCtorEq,jh,ji,vW]))<;>first|omega|(simp_all [vW];done)|(simp_all [vW];omega))
 all_goals(have happ: ∀ a b:Str,I.app (α:=UInt8) a b=a++b:=by subst hI;intros;rfl)
 all_goals try simp only [happ]
 all_goals first
  | (rename_i q1 q2 q3
     rw [if_neg q1,if_pos q2] at hr;simp only [q2,if_true] at q3 ⊢;rw [if_neg q3] at hr;have hsk:=vX (tokE ((tokE t).drop 1))
     exact key _ _ (by omega) hr)
  | (rename_i q1 q2
     rw [if_neg q1,if_neg (by simp [q2])] at hr
     simp only [q2,jd,if_false] at ⊢
     have hsk:=vX (tokE t)
     exact key _ _ (by omega) hr)
def zfq (I:Alg) (args:List D) (hp:List HO):Option CT:=match args,hp with
 |[.v (.one (.ptr 0 0))],[.pack [.obj 260 [(.p (.str s))]]]=>(fun(s:Str)=>(some (.br (I.hid (decide ((ve s).1=0))) (.one ⟨I.hid (s.length≤1000000∧(ve s).1=0),(.ret (.v (.agg [(.p (.str (I.hid ((ve s).2.1.word)))),(.p (.list .fld (I.hid ((ve s).2.1.params))))]))),[.pack [.obj 260 [(.p (.str (I.hid ((ve s).2.2))))]]]⟩) (.one ⟨I.hid (s.length≤1000000∧¬ (ve s).1=0),(.pan (.ifc 256 false [(.int .i64 (I.hid ((ve s).1)))])),[.pack [.obj 260 [(.p (.str (I.hid ((ve s).2.2))))]]]⟩)):Option CT)) s
 |_,_=>none
theorem zpM:zx Tryz.prog 221 (zfq alg):=by
 intro args hp r h;unfold zfq at h
 split at h
 · cases h;exact⟨fun _ hn=>zwM _ hn,fun _ hn=>zwL _ hn⟩
 · cases h
def zvl:Know Tryz.prog:=⟨221,zfq,zpM⟩
def zvk:Know Tryz.prog:=⟨221,fun I=>zy I (zfq I),zf zpM⟩
end Go.Proofs.YtkjepecoodjbmaaGreatDoor
namespace Go.Proofs.YtkjepecoodjbmaaGreatDoor
open Go Go.Sep Go.Ab
set_option maxRecDepth 100000
theorem zwQ (w:Str) (l:List Fld) (n:Int) (s:Str):SpcD Tryz.prog 220 [.ptr 0 0,.ptr 1 0] .ret [.obj 210 [.p (.str w),.p (.list .fld l)],.obj 3 [.p (.int .i64 n)],.pack [.obj 260 [.p (.str s)]]] .ret [.obj 210 [.p (.str w),.p (.list .fld l)],.obj 3 [.p (.int .i64 n)],.obj 260 [.p (.str s)]]:=by
 refine SN zh mixed Tryz.func220 (by kernel_rfl) { flat:=true} [] (rest:=_) rfl (by kernel_rfl) ?_
 intro I X hI hX
 refine orcL ?_;go_invoke;refine orcS (by kernel_rfl) ?_
 simp only [zq,Nat.reduceAdd]
 try trivial
theorem zwP (w:Str) (n k:Int) (s:Str):SpcD Tryz.prog 220 [.ptr 0 0,.ptr 1 0] (.pan (.ifc 256 false [.int .i64 k])) [.obj 210 [.p (.str w),.nilS],.obj 3 [.p (.int .i64 n)],.pack [.obj 260 [.p (.str s)]]] .ret [.obj 210 [.p (.str []),.nilS],.obj 3 [.p (.int .i64 k)],.obj 260 [.p (.str s)]]:=by
 refine SN zh mixed Tryz.func220 (by kernel_rfl) { flat:=true} [] (rest:=_) rfl (by kernel_rfl) ?_
 intro I X hI hX
 refine orcL ?_;go_invoke;refine orcS (by kernel_rfl) ?_
 simp only [zq,Nat.reduceAdd]
 try trivial
def zxZ:Door Tryz.prog where
 g:=220
 c :=fun _ m caps hp=>match m,caps,hp with
   |.ret,[.ptr 0 0,.ptr 1 0],[.obj 210 [.p (.str w),.p (.list .fld l)],.obj 3 [.p (.int .i64 n)],.pack [.obj 260 [.p (.str s)]]]=>some (True,.ret,[.obj 210 [.p (.str w),.p (.list .fld l)],.obj 3 [.p (.int .i64 n)],.obj 260 [.p (.str s)]])
   |.pan (.ifc 256 false [.int .i64 k]),[.ptr 0 0,.ptr 1 0],[.obj 210 [.p (.str w),.nilS],.obj 3 [.p (.int .i64 n)],.pack [.obj 260 [.p (.str s)]]]=>some (True,.ret,[.obj 210 [.p (.str []),.nilS],.obj 3 [.p (.int .i64 k)],.obj 260 [.p (.str s)]])
   |_,_,_=>none
 ok:=by
  intro m caps hp p m' hp' h _
  split at h
  · cases h;exact zwQ _ _ _ _
  · cases h;exact zwP _ _ _ _
  · cases h
def Uk (I:Alg) (args:List D) (hp:List HO):Option CT:=match args,hp with
 |[.v (.one (.p (.str s)))],[]=>(fun(s:Str)=>(some (.one ⟨I.hid (s.length≤1000000),(.ret (.tup [(.agg [(.p (.str (I.hid ((wI s).1.word)))),(.p (.list .fld (I.hid ((wI s).1.params))))]),(.one (.p (.int .i64 (I.hid ((wI s).2)))))])),[]⟩):Option CT)) s
 |_,_=>none
theorem zg4:zx Tryz.prog 184 (Uk alg):=by
 intro args hp r h;unfold Uk at h;split at h<;>cases h
 rename_i s;simp only [CT.Good,zi];intro hneed;generalize hr:wI s=r;obtain⟨⟨w,ps⟩,c⟩:=r;unfold wI at hr
 refine zwt zh mixed Tryz.func184 (by kernel_rfl) { cfgM with keep:=some [0,2,3,4]} [tV,tN,zvl,zvk] zxZ (by kernel_rfl) ?_
 intro I X hI hX
 refine orcL ?_;go_invoke;refine orcS (by kernel_rfl) ?_
 simp only [zq,Nat.reduceAdd];subst hI;simp only [nrmA,nrmB,nrlB,reduceCtorEq,V0.agg.injEq]
 (repeat' (first|refine ja ?_ ?_|intro _))<;>first|omega|exact jb|exact jc ‹False›|skip
 all_goals first|(simp_all;done)|trace_state
def vT:Know Tryz.prog:=⟨184,Uk,zg4⟩
def vS:Know Tryz.prog:=⟨184,fun I=>zy I (Uk I),zf zg4⟩
end Go.Proofs.YtkjepecoodjbmaaGreatDoor
namespace Go.Proofs.YtkjepecoodjbmaaGreatDoor
open Go Go.Sep Go.Ab
set_option maxRecDepth 100000
def ul (m:Str):Str→Int→Int
 |[],i=>if m.isPrefixOf [] then i else -1
 |x::b,i=>if m.isPrefixOf (x::b) then i else ul m b (i+1)
theorem QN (m:Str): ∀ (b:Str) (i:Int),b.length<m.length→ul m b i= -1
 | [],i,h=>by
   cases m with
   |nil=>simp at h
   |cons y m=>simp [ul,List.isPrefixOf]
 | x ::b,i,h=>by
   have: ¬ m.isPrefixOf (x::b)=true:=fun hp=>by
    have:=(List.isPrefixOf_iff_prefix.1 hp).length_le;omega
   rw [ul,if_neg this]
   exact QN m b _ (by simp at h;omega)
theorem zcN (m b:Str) (i:Nat) (h:i<b.length∨m=[]):ul m (b.drop i) i=if m=(b.drop i).take m.length then(i:Int) else ul m (b.drop (i+1)) (i+1:Nat):=by
 have hp:m.isPrefixOf (b.drop i)=true↔m=(b.drop i).take m.length:=by rw [List.isPrefixOf_iff_prefix,List.prefix_iff_eq_take]
 rcases h with h|h
 · rw [jE h] at hp ⊢
   rw [ul]
   by_cases hc:m.isPrefixOf (b[i]::b.drop (i+1))=true
   · rw [if_pos hc,if_pos (hp.1 hc)]
   · rw [if_neg hc,if_neg (fun e=>hc (hp.2 e))];rfl
 · subst h
   have h2:([]:Str).isPrefixOf (b.drop i)=true:=by cases b.drop i<;>rfl
   rw [if_pos (hp.1 h2)]
   cases hd:b.drop i with
   |nil=>simp [ul]
   |cons y r=>simp [ul]
def Zb (I:Alg) (args:List D) (hp:List HO):Option CT:=match args,hp with
 |[.v (.one (.p (.list .byte b))),.v (.one (.p (.str m)))],[]=>(fun(b m:Str)=>(some (.one ⟨I.hid (b.length≤1000000∧m.length≤1000000),(.ret (.v (.one (.p (.int .i64 (I.hid (ul m b 0))))))),[]⟩):Option CT)) b m
 |_,_=>none
theorem QM:zx Tryz.prog 72 (Zb alg):=by
 intro args hp r h;unfold Zb at h;split at h<;>cases h
 rename_i b m;simp only [CT.Good,zi];intro hneed
 refine spcG zh mixed Tryz.func72 (by kernel_rfl) { keep:=some [0,1,4,5]} [] (by kernel_rfl) ?_
 intro I X hI hX
 refine orcL ?_;go_invoke;refine orcS (by kernel_rfl) ?_
 simp only [zq,Nat.reduceAdd]
 refine zB hI zh mixed [] hX [0,1,5] (fun(i:Nat)=>ul m b 0=ul m (b.drop i) i∧i≤b.length) (fun(i:Nat)=>⟨[(0,.v (.one (.p (.list .byte b)))),(1,.v (.one (.p (.str m)))),(5,.v (.one (.p (.int .i64 i))))],[],26,none⟩) (fun(i:Nat)=>b.length - i) 0 (by kernel_rfl) (by kernel_rfl) ?_ ?_
 · exact⟨by simp,jM _⟩
 rintro i ⟨hf,hib⟩ A hA
 refine orcL ?_;go_invoke;refine orcS (by kernel_rfl) ?_
 simp only [zq,Nat.reduceAdd];subst hI;simp only [nrmA,nrmB]
 simp only [show((i:Int)+(m.length:Int)).toNat=i+m.length by omega,Nat.add_sub_cancel_left]
 have hor:i+m.length≤b.length→(i<b.length∨m=[]):=fun h=>by
  rcases m with _|⟨y,m⟩
  · exact .inr rfl
  · left;simp at h;omega
 (repeat' (first|refine ja ?_ ?_|intro _))<;>first|omega|exact jb|exact jc ‹False›|skip
 · rename_i hle heq
   rw [hf,zcN m b i (hor (by omega)),if_pos heq.symm]
 · rename_i hle hne
   have hlt:i<b.length:=(hor (by omega)).resolve_right (fun e=>hne (by subst e;simp))
   refine hA (i+1) ⟨?_,by omega⟩ (by omega)
   rw [hf,zcN m b i (hor (by omega)),if_neg (fun h=>hne h.symm)]
 · rename_i hgt
   rw [hf,QN m (b.drop i) i (by simp only [jC];omega)]
def uj:Know Tryz.prog:=⟨72,Zb,QM⟩
def uh:Know Tryz.prog:=⟨72,fun I=>zy I (Zb I),zf QM⟩
end Go.Proofs.YtkjepecoodjbmaaGreatDoor
namespace Go.Proofs.YtkjepecoodjbmaaGreatDoor
open Go Go.Sep Go.Ab
set_option maxRecDepth 100000
def cutB (s:Str) (c:UInt8):Str × Str × Bool:=
 if 0≤Lib.indexByte s c then(s.take (Lib.indexByte s c).toNat,s.drop ((Lib.indexByte s c).toNat+1),true) else(s,[],false)
def yj (s:Str):Fld × Int:=
 if(cutB s 58).2.2=false then(⟨[],[]⟩,5)
 else if qI (cutB s 58).1=false then(⟨[],[]⟩,6)
 else if 40<(cutB s 58).1.length then(⟨[],[]⟩,4)
 else if YC (cutB s 58).2.1=false then(⟨[],[]⟩,3)
 else(⟨(cutB s 58).1,Lib.trimS (cutB s 58).2.1 [32,9]⟩,0)
def textF (f:Fld):Str × Int:=
 if qI f.name=false then([],6)
 else if 40<f.name.length∨200<f.name.length+2+f.value.length then([],4)
 else if YC f.value=false∨¬ Lib.trimS f.value [32,9]=f.value then([],3)
 else(f.name++[58,32]++f.value,0)
theorem zbl (s:Str) (c:UInt8):(cutB s c).1.length≤s.length∧(cutB s c).2.1.length≤s.length:=by
 unfold cutB
 split
 · simp only [jv,jC];omega
 · simp
def zav (I:Alg) (args:List D) (hp:List HO):Option CT:=match args,hp with
 |[.v (.one (.p (.str s))),.v (.one (.p (.str ([c]))))],[]=>(fun(s:Str) (c:UInt8)=>(some (.one ⟨I.hid (s.length≤1000000),(.ret (.tup [(.one (.p (.str (I.hid ((cutB s c).1))))),(.one (.p (.str (I.hid ((cutB s c).2.1))))),(.one (.p (.bool (I.hid ((cutB s c).2.2)))))])),[]⟩):Option CT)) s c
 |_,_=>none
theorem zkL:zx Tryz.prog 243 (zav alg):=by
 intro args hp r h;unfold zav at h;split at h<;>cases h
 rename_i s c;simp only [CT.Good,zi];intro hneed;generalize hr:cutB s c=r;obtain⟨a,b,d⟩:=r
 refine spcG zh mixed Tryz.func243 (by kernel_rfl) { keep:=some [0,1,4,5,6,7]} [zqh,zqg] (by kernel_rfl) ?_
 intro I X hI hX
 refine orcL ?_;go_invoke;refine orcS (by kernel_rfl) ?_
 simp only [zq,Nat.reduceAdd];subst hI;simp only [nrmA,nrmB];have hx:=vC s c;simp only [jh,ji];refine⟨fun h=> ?_,fun h=> ?_⟩
 · rw [cutB,if_pos h] at hr
   simp only [Prod.mk.injEq] at hr;obtain⟨rfl,rfl,rfl⟩:=hr
   refine⟨by omega,by omega,by omega,?_⟩
   rw [show(Lib.indexByte s c+((0+1:Nat):Int)).toNat=(Lib.indexByte s c).toNat+1 by omega]
   have e:List.take (s.length - ((Lib.indexByte s c).toNat+1)) (List.drop ((Lib.indexByte s c).toNat+1) s)=List.drop ((Lib.indexByte s c).toNat+1) s:=jq (by rw [jC];exact jL _)
   rw [e]
 · rw [cutB,if_neg h] at hr
   simp only [Prod.mk.injEq] at hr;obtain⟨rfl,rfl,rfl⟩:=hr;rfl
def zsc:Know Tryz.prog:=⟨243,zav,zkL⟩
def zsb:Know Tryz.prog:=⟨243,fun I=>zy I (zav I),zf zkL⟩
def zfc (I:Alg) (args:List D) (hp:List HO):Option CT:=match args,hp with
 |[.v (.one (.p (.str s))),.v (.one (.p (.str ([c]))))],[]=>(fun(s:Str) (c:UInt8)=>(some (.one ⟨I.hid (s.length≤1000000),(.ret (.tup [(.one (.p (.str (I.hid ((cutB s c).1))))),(.one (.p (.str (I.hid ((cutB s c).2.1))))),(.one (.p (.bool (I.hid ((cutB s c).2.2)))))])),[]⟩):Option CT)) s c
 |_,_=>none
theorem zoS:zx Tryz.prog 214 (zfc alg):=by
 intro args hp r h;unfold zfc at h;split at h<;>cases h
 rename_i s c;simp only [CT.Good,zi];intro hneed
 refine spcG zh mixed Tryz.func214 (by kernel_rfl) { keep:=some [0,1,4,5,6]} [zsc,zsb] (by kernel_rfl) ?_
 intro I X hI hX
 refine orcL ?_;go_invoke;refine orcS (by kernel_rfl) ?_
 simp only [zq,Nat.reduceAdd];subst hI;simp only [nrmA,nrmB];exact hneed
def zoR:Know Tryz.prog:=⟨214,zfc,zoS⟩
def zoQ:Know Tryz.prog:=⟨214,fun I=>zy I (zfc I),zf zoS⟩
def zaO (I:Alg) (args:List D) (hp:List HO):Option CT:=match args,hp with
 |[.v (.one (.p (.str s)))],[]=>(fun(s:Str)=>(some (.one ⟨I.hid (s.length≤1000000),(.ret (.tup [(.agg [(.p (.str (I.hid ((yj s).1.name)))),(.p (.str (I.hid ((yj s).1.value))))]),(.one (.p (.int .i64 (I.hid ((yj s).2)))))])),[]⟩):Option CT)) s
 |_,_=>none
theorem zlo:zx Tryz.prog 173 (zaO alg):=by
 intro args hp r h;unfold zaO at h;split at h<;>cases h
 rename_i s;simp only [CT.Good,zi];intro hneed;generalize hr:yj s=r;obtain⟨⟨a,b⟩,d⟩:=r
 refine spcG zh mixed Tryz.func173 (by kernel_rfl) { keep:=some [0,2,3,4,5,6]} [XQ,XP,tV,tN,Sr,Sm,zoR,zoQ] (by kernel_rfl) ?_
 intro I X hI hX
 refine orcL ?_;go_invoke;refine orcS (by kernel_rfl) ?_
 simp only [zq,Nat.reduceAdd];subst hI;simp only [nrmA,nrmB];have hl:=zbl s 58;unfold yj at hr
 (repeat' (first|refine ja ?_ ?_|intro _))<;>first|omega|exact jb|exact jc ‹False›|skip
 all_goals first
  |(rw [if_pos (by assumption)] at hr;cases hr;rfl)
  |(rw [if_neg (by simp [*]),if_pos (by assumption)] at hr;cases hr;rfl)
  |(rw [if_neg (by simp [*]),if_neg (by simp [*]),if_pos (by omega)] at hr;cases hr;rfl)
  |(rw [if_neg (by simp [*]),if_neg (by simp [*]),if_neg (by omega),if_pos (by assumption)] at hr;cases hr;rfl)
  |(rw [if_neg (by simp [*]),if_neg (by simp [*]),if_neg (by omega),if_neg (by simp [*])] at hr;cases hr;rfl)
def Uj:Know Tryz.prog:=⟨173,zaO,zlo⟩
def Ui:Know Tryz.prog:=⟨173,fun I=>zy I (zaO I),zf zlo⟩
def zeX (I:Alg) (args:List D) (hp:List HO):Option CT:=match args,hp with
 |[.v (.agg [(.p (.str n)),(.p (.str v))])],[]=>(fun(n v:Str)=>(some (.one ⟨I.hid (n.length≤1000000∧v.length≤1000000),(.ret (.tup [(.one (.p (.str (I.hid ((textF ⟨n,v⟩).1))))),(.one (.p (.int .i64 (I.hid ((textF ⟨n,v⟩).2)))))])),[]⟩):Option CT)) n v
 |_,_=>none
theorem zog:zx Tryz.prog 147 (zeX alg):=by
 intro args hp r h;unfold zeX at h;split at h<;>cases h
 rename_i n v;simp only [CT.Good,zi];intro hneed;generalize hr:textF ⟨n,v⟩=r;obtain⟨a,d⟩:=r
 refine spcG zh mixed Tryz.func147 (by kernel_rfl) { keep:=some [0,1,2,3,4]} [XQ,XP,tV,tN,Sr,Sm] (by kernel_rfl) ?_
 intro I X hI hX
 refine orcL ?_;go_invoke;refine orcS (by kernel_rfl) ?_
 simp only [zq,Nat.reduceAdd];subst hI;simp only [nrmA,nrmB];simp only [jk,jh,ji];unfold textF at hr;simp only at hr
 (repeat' (first|refine ja ?_ ?_|intro _))<;>first|omega|exact jb|exact jc ‹False›|skip
 all_goals first
  |(rw [if_pos (by assumption)] at hr;cases hr;rfl)
  |(rw [if_neg (by simp [*]),if_pos (by omega)] at hr;cases hr;rfl)
  |(rw [if_neg (by simp [*]),if_neg (by omega),if_pos (.inl (by assumption))] at hr;cases hr;rfl)
  |(rw [if_neg (by simp [*]),if_neg (by omega),if_pos (.inr (by assumption))] at hr;cases hr;rfl)
  |(rw [if_neg (by simp [*]),if_neg (by omega),if_neg (by simp [*])] at hr;cases hr;rfl)
def zof:Know Tryz.prog:=⟨147,zeX,zog⟩
def zoe:Know Tryz.prog:=⟨147,fun I=>zy I (zeX I),zf zog⟩
end Go.Proofs.YtkjepecoodjbmaaGreatDoor
namespace Go.Proofs.YtkjepecoodjbmaaGreatDoor
open Go Go.Sep Go.Ab
set_option maxRecDepth 100000
theorem Wj (c:UInt8): ∀ (s:Str) (i:Int),ul [c] s i=if Lib.indexByte s c= -1 then -1 else i+Lib.indexByte s c
 |[],i=>by simp [ul,Lib.indexByte,List.isPrefixOf]
 | x ::l,i=>by
   have ih:=Wj c l (i+1);have hb:=vC l c
   have hp:([c]:Str).isPrefixOf (x::l)=(c == x):=by simp [List.isPrefixOf]
   rw [ul,hp,ih,Lib.indexByte]
   by_cases h:x=c
   · subst h;simp
   · have h1:(c == x)=false:=by simpa using fun e=>h e.symm
     have h2:(x == c)=false:=by simpa using h
     simp only [h1,h2,jd,if_false]
     by_cases h3:Lib.indexByte l c= -1
     · simp [h3]
     · simp only [h3,beq_iff_eq,if_false]
       rw [if_neg (by omega)]
       omega
theorem znJ (s:Str):ul [58] s 0=Lib.indexByte s 58:=by
 rw [Wj]
 split
 · rename_i h;rw [h]
 · omega
def Wl (I:Alg) (args:List D) (hp:List HO):Option CT:=match args,hp with
 |[.v (.one (.p (.str s)))],[]=>(fun(s:Str)=>(some (.one ⟨I.hid (s.length≤1000000),(.ret (.tup [(.agg [(.p (.str (I.hid ((yj s).1.name)))),(.p (.str (I.hid ((yj s).1.value))))]),(.one (.p (.int .i64 (I.hid ((yj s).2)))))])),[]⟩):Option CT)) s
 |_,_=>none
theorem zeH:zx Tryz.prog 38 (Wl alg):=by
 intro args hp r h;unfold Wl at h;split at h<;>cases h
 rename_i s;simp only [CT.Good,zi];intro hneed;generalize hr:yj s=r;obtain⟨⟨a,b⟩,d⟩:=r
 refine spcG zh mixed Tryz.func38 (by kernel_rfl) { keep:=some [0,2,3,4]} [Yz,Yy,ziY,ziX,Xc,Xb,uj,uh] (by kernel_rfl) ?_
 intro I X hI hX
 refine orcL ?_;go_invoke;refine orcS (by kernel_rfl) ?_
 simp only [zq,Nat.reduceAdd];subst hI;simp only [nrmA,nrmB];rw [znJ];have hx:=vC s 58;simp only [jh,ji]
 by_cases h:0≤Lib.indexByte s 58
 · have hcb:cutB s 58=(s.take (Lib.indexByte s 58).toNat,s.drop ((Lib.indexByte s 58).toNat+1),true):=by rw [cutB,if_pos h]
   have e:List.take (s.length - ((Lib.indexByte s 58).toNat+1)) (List.drop ((Lib.indexByte s 58).toNat+1) s)=List.drop ((Lib.indexByte s 58).toNat+1) s:=jq (by rw [jC];exact jL _)
   rw [yj,hcb] at hr;simp only at hr
   rw [show(Lib.indexByte s 58+1).toNat=(Lib.indexByte s 58).toNat+1 by omega,e]
   have l1:(s.take (Lib.indexByte s 58).toNat).length=(Lib.indexByte s 58).toNat:=by rw [jv];omega
   have l2:(s.drop ((Lib.indexByte s 58).toNat+1)).length≤s.length:=by rw [jC];omega
   generalize s.take (Lib.indexByte s 58).toNat=nm at *;generalize s.drop ((Lib.indexByte s 58).toNat+1)=vl at *
   rw [if_neg (by decide)] at hr
   (repeat' (first|refine ja ?_ ?_|intro _))<;>first|omega|exact jb|exact jc ‹False›|skip
   all_goals first
    |(rw [if_pos (by assumption)] at hr;cases hr;rfl)
    |(rw [if_neg (by simp [*]),if_pos (by omega)] at hr;cases hr;rfl)
    |(rw [if_neg (by simp [*]),if_neg (by omega),if_pos (by assumption)] at hr;cases hr;rfl)
    |(rw [if_neg (by simp [*]),if_neg (by omega),if_neg (by simp [*])] at hr;cases hr;rfl)
 · have hcb:cutB s 58=(s,[],false):=by rw [cutB,if_neg h]
   rw [yj,hcb] at hr;simp only [if_true] at hr;cases hr
   exact⟨⟨hneed,by omega⟩,fun _=>rfl,fun h'=>absurd h (by omega)⟩
def rU:Know Tryz.prog:=⟨38,Wl,zeH⟩
def rQ:Know Tryz.prog:=⟨38,fun I=>zy I (Wl I),zf zeH⟩
end Go.Proofs.YtkjepecoodjbmaaGreatDoor
namespace Go.Proofs.YtkjepecoodjbmaaGreatDoor
open Go Go.Sep Go.Ab
set_option maxRecDepth 100000
end Go.Proofs.YtkjepecoodjbmaaGreatDoor
namespace Go.Proofs.YtkjepecoodjbmaaGreatDoor
open Go Go.Sep Go.Ab
set_option maxRecDepth 100000
def valsF (l:List Fld) (n:Str):List Str:=(l.filter fun f=>decide (lowS f.name=lowS n)).map (·.value)
def zfY (I:Alg) (args:List D) (hp:List HO):Option CT:=match args,hp with
 |[.v (.one (.p (.list .fld l))),.v (.one (.p (.str n)))],[]=>(fun(l:List Fld) (n:Str)=>(some (.one ⟨I.hid (l.length≤1000∧n.length≤1000000∧∀ f ∈ l,f.name.length≤1000000∧f.value.length≤1000000),(.ret (.v (.one (.row 0)))),[.row .str 9 (I.hid ((valsF l n)))]⟩):Option CT)) l n
 |_,_=>none
theorem zqV:zx Tryz.prog 145 (zfY alg):=by
 intro args hp r h;unfold zfY at h;split at h<;>cases h
 rename_i l n
 revert l;intro(l:List Fld)
 simp only [CT.Good,zi];intro hneed
 refine spcG zh mixed Tryz.func145 (by kernel_rfl) { nr:=[5],keep:=some [0,1,4,5,7,8,9,10]} [vJ,vI] (by kernel_rfl) ?_
 intro I X hI hX
 refine orcL ?_;go_invoke;refine orcS (by kernel_rfl) ?_
 simp only [zq,Nat.reduceAdd]
 refine zB hI zh mixed [vJ,vI] hX [0,1,5,8,9,10] (fun(g:Nat × List Str)=>match g with|(i,o)=>i≤l.length∧o=valsF (l.take i) n) (fun(g:Nat × List Str)=>match g with|(i,o)=>⟨[(0,.v (.one (.p (.list .fld l)))),(1,.v (.one (.p (.str n)))),(5,.v (.one (.row 0))),(8,.v (.one (.p (.list .fld l)))),(9,.v (.one (.p (.int .i64 ((I.len (α:=Fld) l)))))),(10,.v (.one (.p (.int .i64 i))))],[.row .str 9 o],27,none⟩) (fun(g:Nat × List Str)=>match g with|(i,o)=>l.length - i) (0,[]) (by kernel_rfl) (by kernel_rfl) ?_ ?_
 · exact⟨jM _,rfl⟩
 rintro⟨i,o⟩ ⟨h1,h2⟩ A hA;simp only at hA
 refine orcL ?_;go_invoke;refine orcS (by kernel_rfl) ?_
 simp only [zq,Nat.reduceAdd];subst hI;simp only [nrmA,nrmB]
 have hx:i<l.length→(l.getD i ⟨[],[]⟩) ∈ l:=fun h=>by rw [show l.getD i ⟨[],[]⟩=l[i] by simp [h]];exact List.getElem_mem h
 have hs:i<l.length→valsF (l.take (i+1)) n=if lowS (l.getD i ⟨[],[]⟩).name=lowS n then o++[(l.getD i ⟨[],[]⟩).value] else o:=fun h=>by
  rw [show l.getD i ⟨[],[]⟩=l[i] by simp [h],jB h,h2]
  unfold valsF;rw [List.filter_append,List.map_append]
  by_cases hc:lowS l[i].name=lowS n<;>simp [hc]
 have hol:o.length≤i:=by
  rw [h2];unfold valsF;rw [List.length_map]
  exact Nat.le_trans (List.length_filter_le _ _) (by rw [jv];omega)
 have hn:=fun h=>hneed.2.2 _ (hx h);generalize l.getD i ⟨[],[]⟩=x at *;simp only [jh,ji]
 (repeat' (first|refine ja ?_ ?_|intro _))<;>first|omega|exact jb|exact jc ‹False›|skip
 all_goals first
  |(have:=hn (by omega);omega)
  |exact hA (i+1,_) ⟨by simp only;omega,by simp only;rw [hs (by omega),if_pos (by assumption)]⟩ (by simp only;omega)
  |exact hA (i+1,_) ⟨by simp only;omega,by simp only;rw [hs (by omega),if_neg (by assumption)]⟩ (by simp only;omega)
  |(rw [h2,jq (by omega)])
def zcS:Know Tryz.prog:=⟨145,zfY,zqV⟩
def zcR:Know Tryz.prog:=⟨145,fun I=>zy I (zfY I),zf zqV⟩
def ZF (I:Alg) (args:List D) (hp:List HO):Option CT:=match args,hp with
 |[.v (.one (.p (.list .fld l))),.v (.one (.p (.str n)))],[]=>(fun(l:List Fld) (n:Str)=>(some (.one ⟨I.hid (l.length≤1000∧n.length≤1000000∧∀ f ∈ l,f.name.length≤1000000∧f.value.length≤1000000),(.ret (.v (.one (.row 0)))),[.row .str 9 (I.hid ((valsF l n)))]⟩):Option CT)) l n
 |_,_=>none
theorem zbx:zx Tryz.prog 76 (ZF alg):=by
 intro args hp r h;unfold ZF at h;split at h<;>cases h
 rename_i l n
 revert l;intro(l:List Fld)
 simp only [CT.Good,zi];intro hneed
 refine spcG zh mixed Tryz.func76 (by kernel_rfl) { nr:=[5],keep:=some [0,1,4,5,6]} [Xk,Xj] (by kernel_rfl) ?_
 intro I X hI hX
 refine orcL ?_;go_invoke;refine orcS (by kernel_rfl) ?_
 simp only [zq,Nat.reduceAdd]
 refine zB hI zh mixed [Xk,Xj] hX [0,1,5,6] (fun(g:Nat × List Str)=>match g with|(i,o)=>i≤l.length∧o=valsF (l.take i) n) (fun(g:Nat × List Str)=>match g with|(i,o)=>⟨[(0,.v (.one (.p (.list .fld l)))),(1,.v (.one (.p (.str n)))),(5,.v (.one (.row 0))),(6,.v (.one (.p (.int .i64 i))))],[.row .str 9 o],31,none⟩) (fun(g:Nat × List Str)=>match g with|(i,o)=>l.length - i) (0,[]) (by kernel_rfl) (by kernel_rfl) ?_ ?_
 · exact⟨jM _,rfl⟩
 rintro⟨i,o⟩ ⟨h1,h2⟩ A hA;simp only at hA
 refine orcL ?_;go_invoke;refine orcS (by kernel_rfl) ?_
 simp only [zq,Nat.reduceAdd];subst hI;simp only [nrmA,nrmB]
 have hx:i<l.length→(l.getD i ⟨[],[]⟩) ∈ l:=fun h=>by rw [show l.getD i ⟨[],[]⟩=l[i] by simp [h]];exact List.getElem_mem h
 have hs:i<l.length→valsF (l.take (i+1)) n=if lowS (l.getD i ⟨[],[]⟩).name=lowS n then o++[(l.getD i ⟨[],[]⟩).value] else o:=fun h=>by
  rw [show l.getD i ⟨[],[]⟩=l[i] by simp [h],jB h,h2]
  unfold valsF;rw [List.filter_append,List.map_append]
  by_cases hc:lowS l[i].name=lowS n<;>simp [hc]
 have hol:o.length≤i:=by
  rw [h2];unfold valsF;rw [List.length_map]
  exact Nat.le_trans (List.length_filter_le _ _) (by rw [jv];omega)
 have hn:=fun h=>hneed.2.2 _ (hx h);generalize l.getD i ⟨[],[]⟩=x at *;simp only [jh,ji]
 (repeat' (first|refine ja ?_ ?_|intro _))<;>first|omega|exact jb|exact jc ‹False›|skip
 all_goals first
  |(have:=hn (by omega);omega)
  |exact hA (i+1,_) ⟨by simp only;omega,by simp only;rw [hs (by omega),if_pos (by assumption)]⟩ (by simp only;omega)
  |exact hA (i+1,_) ⟨by simp only;omega,by simp only;rw [hs (by omega),if_neg (by assumption)]⟩ (by simp only;omega)
  |(rw [h2,jq (by omega)])
def WO:Know Tryz.prog:=⟨76,ZF,zbx⟩
def WN:Know Tryz.prog:=⟨76,fun I=>zy I (ZF I),zf zbx⟩
end Go.Proofs.YtkjepecoodjbmaaGreatDoor
namespace Go.Proofs.YtkjepecoodjbmaaGreatDoor
open Go Go.Sep Go.Ab
set_option maxRecDepth 100000
def oneF (l:List Str):Str × Int:=if l.length=0 then([],10) else if l.length=1 then(l.getD 0 [],0) else([],9)
def zfV (I:Alg) (args:List D) (hp:List HO):Option CT:=match args,hp with
 |[.v (.one (.p (.list .fld l))),.v (.one (.p (.str n)))],[]=>(fun(l:List Fld) (n:Str)=>(some (.one ⟨I.hid (l.length≤1000∧n.length≤1000000∧∀ f ∈ l,f.name.length≤1000000∧f.value.length≤1000000),(.ret (.tup [(.one (.p (.str (I.hid ((oneF (valsF l n)).1))))),(.one (.p (.int .i64 (I.hid ((oneF (valsF l n)).2)))))])),[]⟩):Option CT)) l n
 |_,_=>none
theorem zqQ:zx Tryz.prog 146 (zfV alg):=by
 intro args hp r h;unfold zfV at h;split at h<;>cases h
 rename_i l n
 revert l;intro(l:List Fld)
 simp only [CT.Good,zi];intro hneed;generalize hr:oneF (valsF l n)=r;obtain⟨a,d⟩:=r
 refine spcG zh mixed Tryz.func146 (by kernel_rfl) { keep:=some [0,1,4,5,6,11]} [zcS,zcR] (by kernel_rfl) ?_
 intro I X hI hX
 refine orcL ?_;go_invoke;refine orcS (by kernel_rfl) ?_
 simp only [zq,Nat.reduceAdd];subst hI;simp only [nrmA,nrmB];unfold oneF at hr
 (repeat' (first|refine ja ?_ ?_|intro _))<;>first|omega|exact jb|exact jc ‹False›|skip
 all_goals first
  |assumption
  |exact(hneed.2.2 _ (by assumption)).1
  |exact(hneed.2.2 _ (by assumption)).2
  |(rw [if_pos (by omega)] at hr;cases hr;rfl)
  |(rw [if_neg (by omega),if_pos (by omega)] at hr;cases hr;rfl)
  |(rw [if_neg (by omega),if_neg (by omega)] at hr;cases hr;rfl)
def RX:Know Tryz.prog:=⟨146,zfV,zqQ⟩
def RV:Know Tryz.prog:=⟨146,fun I=>zy I (zfV I),zf zqQ⟩
def zaS (I:Alg) (args:List D) (hp:List HO):Option CT:=match args,hp with
 |[.v (.one (.p (.list .fld l))),.v (.one (.p (.str n)))],[]=>(fun(l:List Fld) (n:Str)=>(some (.one ⟨I.hid (l.length≤1000∧n.length≤1000000∧∀ f ∈ l,f.name.length≤1000000∧f.value.length≤1000000),(.ret (.tup [(.one (.p (.str (I.hid ((oneF (valsF l n)).1))))),(.one (.p (.int .i64 (I.hid ((oneF (valsF l n)).2)))))])),[]⟩):Option CT)) l n
 |_,_=>none
theorem zlw:zx Tryz.prog 75 (zaS alg):=by
 intro args hp r h;unfold zaS at h;split at h<;>cases h
 rename_i l n
 revert l;intro(l:List Fld)
 simp only [CT.Good,zi];intro hneed;generalize hr:oneF (valsF l n)=r;obtain⟨a,d⟩:=r
 refine spcG zh mixed Tryz.func75 (by kernel_rfl) { keep:=some [0,1,4,5,6]} [WO,WN] (by kernel_rfl) ?_
 intro I X hI hX
 refine orcL ?_;go_invoke;refine orcS (by kernel_rfl) ?_
 simp only [zq,Nat.reduceAdd];subst hI;simp only [nrmA,nrmB];unfold oneF at hr
 (repeat' (first|refine ja ?_ ?_|intro _))<;>first|omega|exact jb|exact jc ‹False›|skip
 all_goals first
  |assumption
  |exact(hneed.2.2 _ (by assumption)).1
  |exact(hneed.2.2 _ (by assumption)).2
  |(rw [if_pos (by omega)] at hr;cases hr;rfl)
  |(rw [if_neg (by omega),if_pos (by omega)] at hr;cases hr;rfl)
  |(rw [if_neg (by omega),if_neg (by omega)] at hr;cases hr;rfl)
def zlv:Know Tryz.prog:=⟨75,zaS,zlw⟩
def zlu:Know Tryz.prog:=⟨75,fun I=>zy I (zaS I),zf zlw⟩
end Go.Proofs.YtkjepecoodjbmaaGreatDoor
namespace Go.Proofs.YtkjepecoodjbmaaGreatDoor
open Go Go.Sep Go.Ab
set_option maxRecDepth 100000
def numG (base:Int):Int→Str→Int × Bool
 |n,[]=>(n,true)
 |n,c::l=>if hexK c.toNat<0∨base≤hexK c.toNat then(0,false) else numG base (n * base+hexK c.toNat) l
def numA (s:Str) (base most:Int):Int × Bool:=if s=[]∨most<s.length then(0,false) else numG base 0 s
def top9:Nat→Nat
 |0=>0
 |i+1=>16 * top9 i+15
theorem zeW {i:Nat} (h:i≤9):top9 i≤68719476735:=(by decide: ∀ i:Fin 10,top9 i.1≤68719476735) ⟨i,by omega⟩
theorem Um {base n:Int} {s:Str} {i:Nat} (h:i<s.length):numG base n (s.drop i)=if hexK (s.getD i 0).toNat<0∨base≤hexK (s.getD i 0).toNat then(0,false) else numG base (n * base+hexK (s.getD i 0).toNat) (s.drop (i+1)):=by
 rw [jE h,numG];simp [h]
theorem RD {k:Int} (hk:0≤k∧k≤255): -1≤hexK k∧hexK k≤15:=ztT (p:=fun k=> -1≤hexK k∧hexK k≤15) (by decide+kernel) hk
theorem zeL {k:Int} (hk:0≤k∧k≤255):([48,49,50,51,52,53,54,55,56,57]:Str).contains (UInt8.ofNat k.toNat)=decide (0≤hexK k∧hexK k<10):=
 ztT (p:=fun k=>([48,49,50,51,52,53,54,55,56,57]:Str).contains (UInt8.ofNat k.toNat)=decide (0≤hexK k∧hexK k<10)) (by decide+kernel) hk
theorem ztb {k:Int} (hk:0≤k∧k≤255):(∀ j:Fin 16,lowC (UInt8.ofNat k.toNat)=([48,49,50,51,52,53,54,55,56,57,97,98,99,100,101,102]:Str).getD j.1 0→hexK k=(j.1:Int))∧((∀ j:Fin 16,¬ lowC (UInt8.ofNat k.toNat)=([48,49,50,51,52,53,54,55,56,57,97,98,99,100,101,102]:Str).getD j.1 0)→hexK k= -1):=
 ztT (p:=fun k=>(∀ j:Fin 16,lowC (UInt8.ofNat k.toNat)=([48,49,50,51,52,53,54,55,56,57,97,98,99,100,101,102]:Str).getD j.1 0→hexK k=(j.1:Int))∧((∀ j:Fin 16,¬ lowC (UInt8.ofNat k.toNat)=([48,49,50,51,52,53,54,55,56,57,97,98,99,100,101,102]:Str).getD j.1 0)→hexK k= -1)) (by decide+kernel) hk
def ZX (I:Alg) (args:List D) (hp:List HO):Option CT:=match args,hp with
 |[.v (.one (.p (.str s))),.v (.one (.p (.int .i64 10))),.v (.one (.p (.int .i64 9)))],[]=>(fun(s:Str)=>(some (.one ⟨I.hid (True),(.ret (.tup [(.one (.p (.int .i64 (I.hid ((numA s 10 9).1))))),(.one (.p (.bool (I.hid ((numA s 10 9).2)))))])),[]⟩):Option CT)) s
 |_,_=>none
theorem zcd:zx Tryz.prog 219 (ZX alg):=by
 intro args hp r h;unfold ZX at h;split at h<;>cases h
 rename_i s;simp only [CT.Good,zi];intro _;generalize hr:numA s 10 9=r
 refine spcG zh mixed Tryz.func219 (by kernel_rfl) { keep:=some [0,1,2,6,7,8,9,10,20,21]} [zed,zec] (by kernel_rfl) ?_
 intro I X hI hX
 refine orcL ?_;go_invoke;refine orcS (by kernel_rfl) ?_
 simp only [zq,Nat.reduceAdd]
 have hne:s≠[]→¬ (9:Int)<s.length→numG 10 0 s=r:=fun h1 h2=>by rw [← hr,numA,if_neg (fun h=>by rcases h with h|h;exact h1 h;exact h2 h)]
 have hyes:(s=[]∨(9:Int)<s.length)→r=(0,false):=fun h=>by rw [← hr,numA,if_pos h]
 refine⟨fun c1=> ?_,fun c1=>⟨fun c2=> ?_,fun c2=> ?_⟩⟩
 · subst hI
   simp only [nrmA,nrmB] at c1;rw [hyes (.inl c1)]
   simp
 · subst hI
   simp only [nrmA,nrmB] at c2;rw [hyes (.inr c2)]
   simp
 have d1:s≠[]:=by
  subst hI;simp only [nrmA,nrmB] at c1;exact c1
 have d2:s.length≤9:=by
  subst hI;simp only [nrmA,nrmB] at c2;omega
 refine zB hI zh mixed [zed,zec] hX [0,1,2,8,20,21] (fun(g:Nat × Int)=>match g with|(i,n)=>i≤s.length∧0≤n∧n≤top9 i∧numG 10 n (s.drop i)=r) (fun(g:Nat × Int)=>match g with|(i,n)=>⟨[(0,.v (.one (.p (.str s)))),(1,.v (.one (.p (.int .i64 10)))),(2,.v (.one (.p (.int .i64 9)))),(8,.v (.one (.p (.int .i64 n)))),(20,.v (.one (.p (.int .i64 ((I.len (α:=UInt8) s)))))),(21,.v (.one (.p (.int .i64 i))))],[],42,none⟩) (fun(g:Nat × Int)=>match g with|(i,n)=>s.length - i) (0,0) (by kernel_rfl) (by kernel_rfl) ?_ ?_
 · exact⟨jM _,Int.le_refl _,Int.le_refl _,hne d1 (by omega)⟩
 rintro⟨i,n⟩ ⟨h1,h2,h3,h4⟩ A hA;simp only at hA
 refine orcL ?_;go_invoke;refine orcS (by kernel_rfl) ?_
 simp only [zq,Nat.reduceAdd];subst hI;simp only [nrmA,nrmB];have hb:=wz (s.getD i 0);have hk:=RD hb;have hd:i<s.length→_:=fun h=>Um (base:=10) (n:=n) h
 have ht:i≤9:=by omega
 have ht:=zeW ht;have ht2:top9 (i+1)=16 * top9 i+15:=rfl;generalize s.getD i 0=x at *;generalize hexK (x.toNat:Int)=k at *
 (repeat' (first|refine ja ?_ ?_|intro _))<;>first|omega|exact jb|exact jc ‹False›|skip
 all_goals first
  |omega
  |(rw [← h4,hd (by omega),if_pos (.inl (by omega))])
  |(rw [← h4,hd (by omega),if_pos (.inr (by omega))])
  |(refine hA (i+1,_) ⟨by simp only;omega,by simp only;omega,by simp only;omega,?_⟩ (by simp only;omega);rw [← h4,hd (by omega),if_neg (by omega)])
  |(rw [← h4,jF (by omega)];rfl)
def ZW:Know Tryz.prog:=⟨219,ZX,zcd⟩
def ZV:Know Tryz.prog:=⟨219,fun I=>zy I (ZX I),zf zcd⟩
def ZU (I:Alg) (args:List D) (hp:List HO):Option CT:=match args,hp with
 |[.v (.one (.p (.str s))),.v (.one (.p (.int .i64 16))),.v (.one (.p (.int .i64 6)))],[]=>(fun(s:Str)=>(some (.one ⟨I.hid (True),(.ret (.tup [(.one (.p (.int .i64 (I.hid ((numA s 16 6).1))))),(.one (.p (.bool (I.hid ((numA s 16 6).2)))))])),[]⟩):Option CT)) s
 |_,_=>none
theorem zcc:zx Tryz.prog 219 (ZU alg):=by
 intro args hp r h;unfold ZU at h;split at h<;>cases h
 rename_i s;simp only [CT.Good,zi];intro _;generalize hr:numA s 16 6=r
 refine spcG zh mixed Tryz.func219 (by kernel_rfl) { keep:=some [0,1,2,6,7,8,9,10,20,21]} [zed,zec,ZW,ZV] (by kernel_rfl) ?_
 intro I X hI hX
 refine orcL ?_;go_invoke;refine orcS (by kernel_rfl) ?_
 simp only [zq,Nat.reduceAdd]
 have hne:s≠[]→¬ (6:Int)<s.length→numG 16 0 s=r:=fun h1 h2=>by rw [← hr,numA,if_neg (fun h=>by rcases h with h|h;exact h1 h;exact h2 h)]
 have hyes:(s=[]∨(6:Int)<s.length)→r=(0,false):=fun h=>by rw [← hr,numA,if_pos h]
 refine⟨fun c1=> ?_,fun c1=>⟨fun c2=> ?_,fun c2=> ?_⟩⟩
 · subst hI
   simp only [nrmA,nrmB] at c1;rw [hyes (.inl c1)]
   simp
 · subst hI
   simp only [nrmA,nrmB] at c2;rw [hyes (.inr c2)]
   simp
 have d1:s≠[]:=by
  subst hI;simp only [nrmA,nrmB] at c1;exact c1
 have d2:s.length≤6:=by
  subst hI;simp only [nrmA,nrmB] at c2;omega
 refine zB hI zh mixed [zed,zec,ZW,ZV] hX [0,1,2,8,20,21] (fun(g:Nat × Int)=>match g with|(i,n)=>i≤s.length∧0≤n∧n≤top9 i∧numG 16 n (s.drop i)=r) (fun(g:Nat × Int)=>match g with|(i,n)=>⟨[(0,.v (.one (.p (.str s)))),(1,.v (.one (.p (.int .i64 16)))),(2,.v (.one (.p (.int .i64 6)))),(8,.v (.one (.p (.int .i64 n)))),(20,.v (.one (.p (.int .i64 ((I.len (α:=UInt8) s)))))),(21,.v (.one (.p (.int .i64 i))))],[],42,none⟩) (fun(g:Nat × Int)=>match g with|(i,n)=>s.length - i) (0,0) (by kernel_rfl) (by kernel_rfl) ?_ ?_
 · exact⟨jM _,Int.le_refl _,Int.le_refl _,hne d1 (by omega)⟩
 rintro⟨i,n⟩ ⟨h1,h2,h3,h4⟩ A hA;simp only at hA
 refine orcL ?_;go_invoke;refine orcS (by kernel_rfl) ?_
 simp only [zq,Nat.reduceAdd];subst hI;simp only [nrmA,nrmB];have hb:=wz (s.getD i 0);have hk:=RD hb;have hd:i<s.length→_:=fun h=>Um (base:=16) (n:=n) h
 have ht:i≤9:=by omega
 have ht:=zeW ht;have ht2:top9 (i+1)=16 * top9 i+15:=rfl;generalize s.getD i 0=x at *;generalize hexK (x.toNat:Int)=k at *
 (repeat' (first|refine ja ?_ ?_|intro _))<;>first|omega|exact jb|exact jc ‹False›|skip
 all_goals first
  |omega
  |(rw [← h4,hd (by omega),if_pos (.inl (by omega))])
  |(rw [← h4,hd (by omega),if_pos (.inr (by omega))])
  |(refine hA (i+1,_) ⟨by simp only;omega,by simp only;omega,by simp only;omega,?_⟩ (by simp only;omega);rw [← h4,hd (by omega),if_neg (by omega)])
  |(rw [← h4,jF (by omega)];rfl)
def zcb:Know Tryz.prog:=⟨219,ZU,zcc⟩
def zca:Know Tryz.prog:=⟨219,fun I=>zy I (ZU I),zf zcc⟩
def za3 (I:Alg) (args:List D) (hp:List HO):Option CT:=match args,hp with
 |[.v (.one (.p (.int .u8 k)))],[]=>(fun(k:Int)=>(some (.one ⟨I.hid (0≤k∧k≤255),(.ret (.v (.one (.p (.int .i64 (I.hid (hexK k))))))),[]⟩):Option CT)) k
 |_,_=>none
theorem zlX:zx Tryz.prog 116 (za3 alg):=by
 intro args hp r h;unfold za3 at h;split at h<;>cases h
 rename_i k;simp only [CT.Good,zi];intro hneed;generalize hr:hexK k=r;obtain⟨f1,f2⟩:=ztb hneed;rw [hr] at f1 f2
 refine spcG zh mixed Tryz.func116 (by kernel_rfl) { keep:=some [0,2,3,4,5]} [Xk,Xj] (by kernel_rfl) ?_
 intro I X hI hX
 refine orcL ?_;go_invoke;refine orcS (by kernel_rfl) ?_
 simp only [zq,Nat.reduceAdd]
 refine⟨(by rw [hI];simp only [nrmA,nrmB];omega),(by rw [hI,zi];simp),?_⟩
 generalize hu:I.hid (lowS [I.i2b k])=u
 have hu1:u=[lowC (UInt8.ofNat k.toNat)]:=by rw [← hu,hI];rfl
 generalize lowC (UInt8.ofNat k.toNat)=x at *
 refine zB hI zh mixed [Xk,Xj] hX [0,3,4,5] (fun(j:Nat)=>j≤16∧∀ j':Fin 16,j'.1<j→¬ x=([48,49,50,51,52,53,54,55,56,57,97,98,99,100,101,102]:Str).getD j'.1 0) (fun(j:Nat)=>⟨[(0,.v (.one (.p (.int .u8 k)))),(3,.v (.one (.p (.str ([48,49,50,51,52,53,54,55,56,57,97,98,99,100,101,102]))))),(4,.v (.one (.p (.str u)))),(5,.v (.one (.p (.int .i64 j))))],[],22,none⟩) (fun(j:Nat)=>16 - j) 0 (by kernel_rfl) (by kernel_rfl) ?_ ?_
 · exact⟨jM _,fun _ h=>absurd h (Nat.not_lt_zero _)⟩
 rintro j ⟨h1,h2⟩ A hA
 refine orcL ?_;go_invoke;refine orcS (by kernel_rfl) ?_
 simp only [zq,Nat.reduceAdd];subst hI;simp only [nrmA,nrmB];generalize hH:([48,49,50,51,52,53,54,55,56,57,97,98,99,100,101,102]:Str)=H at *
 have hHl:H.length=16:=by rw [← hH];rfl
 have hcut:j<16→(H.drop j).take (((j:Int)+1).toNat - j)=[H.getD j 0]:=fun h=>by
  rw [show((j:Int)+1).toNat - j=1 by omega,jE (by omega),List.take_succ_cons,List.take_zero]
  simp [hHl,h]
 have hq:j<16→(u=(H.drop j).take (((j:Int)+1).toNat - j)↔x=H.getD j 0):=fun h=>by
  rw [hcut h,hu1];simp
 (repeat' (first|refine ja ?_ ?_|intro _))<;>first|omega|exact jb|exact jc ‹False›|skip
 all_goals first
  |omega
  |exact(f1 ⟨j,by omega⟩ ((hq (by omega)).1 ‹_›)).symm
  | (refine hA (j+1) ⟨by omega,fun j' hj'=> ?_⟩ (by omega)
     rcases Nat.lt_or_ge j'.1 j with hlt|hge
     · exact h2 j' hlt
     · rw [show j'.1=j by omega];exact fun e=>‹¬ u=_› ((hq (by omega)).2 e))
  |exact(f2 fun j'=>h2 j' (by have:=j'.2;omega)).symm
def za2:Know Tryz.prog:=⟨116,za3,zlX⟩
def za1:Know Tryz.prog:=⟨116,fun I=>zy I (za3 I),zf zlX⟩
def tq (I:Alg) (args:List D) (hp:List HO):Option CT:=match args,hp with
 |[.v (.one (.p (.str s)))],[]=>(fun(s:Str)=>(some (.one ⟨I.hid (True),(.ret (.tup [(.one (.p (.int .i64 (I.hid ((numA s 16 6).1))))),(.one (.p (.bool (I.hid ((numA s 16 6).2)))))])),[]⟩):Option CT)) s
 |_,_=>none
theorem WI:zx Tryz.prog 79 (tq alg):=by
 intro args hp r h;unfold tq at h;split at h<;>cases h
 rename_i s;simp only [CT.Good,zi];intro _;generalize hr:numA s 16 6=r
 refine spcG zh mixed Tryz.func79 (by kernel_rfl) { keep:=some [0,2,3,4,5]} [za2,za1] (by kernel_rfl) ?_
 intro I X hI hX
 refine orcL ?_;go_invoke;refine orcS (by kernel_rfl) ?_
 simp only [zq,Nat.reduceAdd]
 have hne:s≠[]→¬ (6:Int)<s.length→numG 16 0 s=r:=fun h1 h2=>by rw [← hr,numA,if_neg (fun h=>by rcases h with h|h;exact h1 h;exact h2 h)]
 have hyes:(s=[]∨(6:Int)<s.length)→r=(0,false):=fun h=>by rw [← hr,numA,if_pos h]
 refine⟨fun c1=> ?_,fun c1=>⟨fun c2=> ?_,fun c2=> ?_⟩⟩
 · subst hI
   simp only [nrmA,nrmB] at c1
   rw [hyes (.inl (List.eq_nil_of_length_eq_zero (by omega)))]
   simp
 · subst hI
   simp only [nrmA,nrmB] at c2;rw [hyes (.inr c2)]
   simp
 have d1:s≠[]:=by
  subst hI;simp only [nrmA,nrmB] at c1;rintro rfl
  simp at c1
 have d2:s.length≤6:=by
  subst hI;simp only [nrmA,nrmB] at c2;omega
 refine zB hI zh mixed [za2,za1] hX [0,4,5] (fun(g:Nat × Int)=>match g with|(i,n)=>i≤s.length∧0≤n∧n≤top9 i∧numG 16 n (s.drop i)=r) (fun(g:Nat × Int)=>match g with|(i,n)=>⟨[(0,.v (.one (.p (.str s)))),(4,.v (.one (.p (.int .i64 n)))),(5,.v (.one (.p (.int .i64 i))))],[],33,none⟩) (fun(g:Nat × Int)=>match g with|(i,n)=>s.length - i) (0,0) (by kernel_rfl) (by kernel_rfl) ?_ ?_
 · exact⟨jM _,Int.le_refl _,Int.le_refl _,hne d1 (by omega)⟩
 rintro⟨i,n⟩ ⟨h1,h2,h3,h4⟩ A hA;simp only at hA
 refine orcL ?_;go_invoke;refine orcS (by kernel_rfl) ?_
 simp only [zq,Nat.reduceAdd];subst hI;simp only [nrmA,nrmB];have hb:=wz (s.getD i 0);have hk:=RD hb;have hdg:=zeL hb;rw [jJ,UInt8.ofNat_toNat] at hdg;have hd:i<s.length→_:=fun h=>Um (base:=16) (n:=n) h
 have ht:i≤9:=by omega
 have ht:=zeW ht;have ht2:top9 (i+1)=16 * top9 i+15:=rfl;generalize s.getD i 0=x at *
 try rw [hdg]
 generalize hexK (x.toNat:Int)=k at *;simp only [Int.mul_comm 16 n,decide_eq_true_eq,decide_eq_false_iff_not]
 (repeat' (first|refine ja ?_ ?_|intro _))<;>first|omega|exact jb|exact jc ‹False›|skip
 all_goals first
  |omega
  |decide
  |(rw [← h4,hd (by omega),if_pos (by omega)])
  |(refine hA (i+1,_) ⟨by simp only;omega,by simp only;omega,by simp only;omega,?_⟩ (by simp only;omega);rw [← h4,hd (by omega),if_neg (by omega)])
  |(rw [← h4,jF (by omega)];rfl)
def Zl:Know Tryz.prog:=⟨79,tq,WI⟩
def Zk:Know Tryz.prog:=⟨79,fun I=>zy I (tq I),zf WI⟩
def rM (I:Alg) (args:List D) (hp:List HO):Option CT:=match args,hp with
 |[.v (.one (.p (.str s)))],[]=>(fun(s:Str)=>(some (.one ⟨I.hid (True),(.ret (.tup [(.one (.p (.int .i64 (I.hid ((numA s 16 6).1))))),(.one (.p (.bool (I.hid ((numA s 16 6).2)))))])),[]⟩):Option CT)) s
 |_,_=>none
theorem Sz:zx Tryz.prog 240 (rM alg):=by
 intro args hp r h;unfold rM at h;split at h<;>cases h
 rename_i s;simp only [CT.Good,zi];intro _
 refine spcG zh mixed Tryz.func240 (by kernel_rfl) { keep:=some [0,2,3]} [ZW,ZV,zcb,zca] (by kernel_rfl) ?_
 intro I X hI hX
 refine orcL ?_;go_invoke;refine orcS (by kernel_rfl) ?_
 simp only [zq,Nat.reduceAdd];subst hI;simp only [nrmA,nrmB]
 try trivial
def zf9:Know Tryz.prog:=⟨240,rM,Sz⟩
def zf8:Know Tryz.prog:=⟨240,fun I=>zy I (rM I),zf Sz⟩
end Go.Proofs.YtkjepecoodjbmaaGreatDoor
namespace Go.Proofs.YtkjepecoodjbmaaGreatDoor
open Go Go.Sep Go.Ab
set_option maxRecDepth 100000
def ZT (I:Alg) (args:List D) (hp:List HO):Option CT:=match args,hp with
 |[.v (.one (.p (.str s)))],[]=>(fun(s:Str)=>(some (.one ⟨I.hid (True),(.ret (.tup [(.one (.p (.int .i64 (I.hid ((numA s 10 9).1))))),(.one (.p (.bool (I.hid ((numA s 10 9).2)))))])),[]⟩):Option CT)) s
 |_,_=>none
theorem zb9:zx Tryz.prog 78 (ZT alg):=by
 intro args hp r h;unfold ZT at h;split at h<;>cases h
 rename_i s;simp only [CT.Good,zi];intro _;generalize hr:numA s 10 9=r
 refine spcG zh mixed Tryz.func78 (by kernel_rfl) { keep:=some [0,2,3,4,5]} [zpS,zpR,za2,za1] (by kernel_rfl) ?_
 intro I X hI hX
 refine orcL ?_;go_invoke;refine orcS (by kernel_rfl) ?_
 simp only [zq,Nat.reduceAdd]
 have hne:s≠[]→¬ (9:Int)<s.length→numG 10 0 s=r:=fun h1 h2=>by rw [← hr,numA,if_neg (fun h=>by rcases h with h|h;exact h1 h;exact h2 h)]
 have hyes:(s=[]∨(9:Int)<s.length)→r=(0,false):=fun h=>by rw [← hr,numA,if_pos h]
 refine⟨fun c1=> ?_,fun c1=>⟨fun c2=> ?_,fun c2=> ?_⟩⟩
 · subst hI
   simp only [nrmA,nrmB] at c1
   rw [hyes (.inl (List.eq_nil_of_length_eq_zero (by omega)))]
   simp
 · subst hI
   simp only [nrmA,nrmB] at c2;rw [hyes (.inr c2)]
   simp
 have d1:s≠[]:=by
  subst hI;simp only [nrmA,nrmB] at c1;rintro rfl
  simp at c1
 have d2:s.length≤9:=by
  subst hI;simp only [nrmA,nrmB] at c2;omega
 refine zB hI zh mixed [zpS,zpR,za2,za1] hX [0,4,5] (fun(g:Nat × Int)=>match g with|(i,n)=>i≤s.length∧0≤n∧n≤top9 i∧numG 10 n (s.drop i)=r) (fun(g:Nat × Int)=>match g with|(i,n)=>⟨[(0,.v (.one (.p (.str s)))),(4,.v (.one (.p (.int .i64 n)))),(5,.v (.one (.p (.int .i64 i))))],[],33,none⟩) (fun(g:Nat × Int)=>match g with|(i,n)=>s.length - i) (0,0) (by kernel_rfl) (by kernel_rfl) ?_ ?_
 · exact⟨jM _,Int.le_refl _,Int.le_refl _,hne d1 (by omega)⟩
 rintro⟨i,n⟩ ⟨h1,h2,h3,h4⟩ A hA;simp only at hA
 refine orcL ?_;go_invoke;refine orcS (by kernel_rfl) ?_
 simp only [zq,Nat.reduceAdd];subst hI;simp only [nrmA,nrmB];have hb:=wz (s.getD i 0);have hk:=RD hb;have hdg:=zeL hb;rw [jJ,UInt8.ofNat_toNat] at hdg;have hd:i<s.length→_:=fun h=>Um (base:=10) (n:=n) h
 have ht:i≤9:=by omega
 have ht:=zeW ht;have ht2:top9 (i+1)=16 * top9 i+15:=rfl;generalize s.getD i 0=x at *
 try rw [hdg]
 generalize hexK (x.toNat:Int)=k at *;simp only [Int.mul_comm 10 n,decide_eq_true_eq,decide_eq_false_iff_not]
 (repeat' (first|refine ja ?_ ?_|intro _))<;>first|omega|exact jb|exact jc ‹False›|skip
 all_goals first
  |omega
  |decide
  |(rw [← h4,hd (by omega),if_pos (by omega)])
  |(refine hA (i+1,_) ⟨by simp only;omega,by simp only;omega,by simp only;omega,?_⟩ (by simp only;omega);rw [← h4,hd (by omega),if_neg (by omega)])
  |(rw [← h4,jF (by omega)];rfl)
def zb8:Know Tryz.prog:=⟨78,ZT,zb9⟩
def zb7:Know Tryz.prog:=⟨78,fun I=>zy I (ZT I),zf zb9⟩
def Ws (I:Alg) (args:List D) (hp:List HO):Option CT:=match args,hp with
 |[.v (.one (.p (.str s)))],[]=>(fun(s:Str)=>(some (.one ⟨I.hid (True),(.ret (.tup [(.one (.p (.int .i64 (I.hid ((numA s 10 9).1))))),(.one (.p (.bool (I.hid ((numA s 10 9).2)))))])),[]⟩):Option CT)) s
 |_,_=>none
theorem zeO:zx Tryz.prog 182 (Ws alg):=by
 intro args hp r h;unfold Ws at h;split at h<;>cases h
 rename_i s;simp only [CT.Good,zi];intro _
 refine spcG zh mixed Tryz.func182 (by kernel_rfl) { keep:=some [0,2,3]} [ZW,ZV,zcb,zca] (by kernel_rfl) ?_
 intro I X hI hX
 refine orcL ?_;go_invoke;refine orcS (by kernel_rfl) ?_
 simp only [zq,Nat.reduceAdd];subst hI;simp only [nrmA,nrmB]
 try trivial
def rW:Know Tryz.prog:=⟨182,Ws,zeO⟩
def rV:Know Tryz.prog:=⟨182,fun I=>zy I (Ws I),zf zeO⟩
theorem zg7: ∀ (s:Str) (n:Int),0≤n→(numG 10 n s).1+1≤(n+1) * 10 ^ s.length∧0≤(numG 10 n s).1
 |[],n,h=>by simp [numG];exact h
 | c ::l,n,h=>by
   have h16:(0:Int)<10 ^ l.length:=Int.pow_pos (by decide)
   have e:((n+1) * 10 ^ (c::l).length:Int)=((n+1) * 10) * 10 ^ l.length:=by rw [jh,Int.pow_succ,Int.mul_assoc,Int.mul_comm (10 ^ l.length) 10]
   rw [e,numG]
   split
   · have h1:(1:Int) * 1≤((n+1) * 10) * 10 ^ l.length:=Int.mul_le_mul (by omega) (by omega) (by decide) (by omega)
     exact⟨by simpa using h1,Int.le_refl _⟩
   · rename_i hc
     have h2:=zg7 l (n * 10+hexK c.toNat) (by omega)
     exact⟨Int.le_trans h2.1 (Int.mul_le_mul_of_nonneg_right (by omega) (by omega)),h2.2⟩
theorem vZ (x:Str):0≤(numA x 10 9).1∧(numA x 10 9).1<1000000000:=by
 unfold numA
 split
 · exact by decide
 · rename_i h
   have h1:=zg7 x 0 (Int.le_refl _)
   have h2:x.length≤9:=by omega
   have h3:(10:Int) ^ x.length≤10 ^ 9:=by
    have:(10 ^ x.length:Nat)≤10 ^ 9:=Nat.pow_le_pow_right (by decide) h2
    exact_mod_cast this
   refine⟨h1.2,?_⟩
   have h4:(10:Int) ^ 9=1000000000:=by decide
   omega
end Go.Proofs.YtkjepecoodjbmaaGreatDoor
namespace Go.Proofs.YtkjepecoodjbmaaGreatDoor
open Go Go.Sep Go.Ab
set_option maxRecDepth 100000
def zbn (I:Alg) (args:List D) (hp:List HO):Option CT:=match args,hp with
 |[.v (.one (.p (.list .byte l)))],[]=>(fun(l:Str)=>(some (.one ⟨I.hid (l.length≤100000000),(.ret (.v (.one (.row 0)))),[.row .byte 5 l]⟩):Option CT)) l
 |_,_=>none
theorem zmz:zx Tryz.prog 59 (zbn alg):=by
 intro args hp r h;unfold zbn at h;split at h<;>cases h
 rename_i l;simp only [CT.Good,zi];intro hneed
 refine spcG zh mixed Tryz.func59 (by kernel_rfl) { keep:=some [0,2]} [] (by kernel_rfl) ?_
 intro I X hI hX
 refine orcL ?_;go_invoke;refine orcS (by kernel_rfl) ?_
 simp only [zq,Nat.reduceAdd];subst hI;dsimp only [alg]
 have h2:((([]:Str).length:Nat):Int)+((l.length:Nat):Int)≤140737488355328:=by simp;omega
 refine⟨fun h=>⟨⟨trivial,?_⟩,h2,trivial,rfl⟩,fun h=>⟨h2,trivial,rfl⟩⟩
 have:l=[]:=List.eq_nil_of_length_eq_zero (by have:=eq_of_beq h;omega)
 subst this;rfl
def zbm:Know Tryz.prog:=⟨59,zbn,zmz⟩
def TS:Know Tryz.prog:=⟨59,fun I=>zy I (zbn I),zf zmz⟩
def qM (I:Alg) (args:List D) (hp:List HO):Option CT:=match args,hp with
 |[.v (.one (.p (.list .byte x))),.v (.one (.p (.list .byte y)))],[]=>(fun(x y:Str)=>(some (.one ⟨I.hid (True),(.ret (.v (.one (.p (.bool (I.hid (x == y))))))),[]⟩):Option CT)) x y
 |_,_=>none
theorem Qq:zx Tryz.prog 15 (qM alg):=by
 intro args hp r h;unfold qM at h;split at h<;>cases h
 rename_i x y;simp only [CT.Good,zi];intro _
 refine spcG zh mixed Tryz.func15 (by kernel_rfl) { keep:=some [0,1,4]} [] (by kernel_rfl) ?_
 intro I X hI hX
 refine orcL ?_;go_invoke;refine orcS (by kernel_rfl) ?_
 simp only [zq,Nat.reduceAdd];subst hI;exact⟨rfl,trivial⟩
def vz:Know Tryz.prog:=⟨15,qM,Qq⟩
def vw:Know Tryz.prog:=⟨15,fun I=>zy I (qM I),zf Qq⟩
end Go.Proofs.YtkjepecoodjbmaaGreatDoor
namespace Go.Proofs.YtkjepecoodjbmaaGreatDoor
open Go Go.Sep Go.Ab
def upl0:Upl:=⟨0,0,[],[],0⟩
def atU (l:List Upl) (id:Int):Nat:=l.findIdx fun u=>u.id == id
def xq (l:List Upl) (id:Int):Upl:=l.getD (atU l id) upl0
def xR:List Upl→Int
 |[]=>0
 |u::l=>u.bytes.length+xR l
def creC (l:List Upl) (size:Int) (m:Str):Int:=
 if size< -1 then 1 else if 2000<size∨100<m.length then 4 else if YC m=false∨¬ Lib.trimS m [32,9]=m then 3 else if l.length=12 then 8 else 0
def creL (l:List Upl) (n size:Int) (m:Str):List Upl:=if creC l size m=0 then l++[⟨n+1,size,m,[],0⟩] else l
def creN (l:List Upl) (n size:Int) (m:Str):Int:=if creC l size m=0 then n+1 else n
def creI (l:List Upl) (n size:Int) (m:Str):Int:=if creC l size m=0 then n+1 else 0
def appC (l:List Upl) (id off:Int) (b:Str):Int:=
 if l.length≤atU l id then 10
 else if ¬ (xq l id).sent=0 then 19
 else if ¬ off=(xq l id).bytes.length then 17
 else if 2000<(xq l id).bytes.length+b.length∨0≤(xq l id).size∧(xq l id).size<(xq l id).bytes.length+b.length then 4
 else if 6000<xR l+b.length then 16 else 0
def appL (l:List Upl) (id off:Int) (b:Str):List Upl:=if appC l id off b=0 then l.set (atU l id) { xq l id with bytes:=(xq l id).bytes++b} else l
def decC (l:List Upl) (id size:Int):Int:=
 if l.length≤atU l id then 10
 else if 0≤(xq l id).size then 18
 else if size<0 then 1
 else if 2000<size∨size<(xq l id).bytes.length then 4 else 0
def decL (l:List Upl) (id size:Int):List Upl:=if decC l id size=0 then l.set (atU l id) { xq l id with size:=size} else l
def droC (l:List Upl) (id:Int):Int:=if l.length≤atU l id then 10 else 0
def droL (l:List Upl) (id:Int):List Upl:=l.eraseIdx (atU l id)
def begC (l:List Upl) (id:Int):Int:=
 if l.length≤atU l id then 10
 else if ¬ (xq l id).sent=0 then 19
 else if ¬ (xq l id).size=(xq l id).bytes.length then 14 else 0
def begL (l:List Upl) (id:Int):List Upl:=if begC l id=0 then l.set (atU l id) { xq l id with sent:=1} else l
def endC (l:List Upl) (id:Int):Int:=
 if l.length≤atU l id then 10
 else if ¬ (xq l id).sent=1 then 19 else 0
def endL (l:List Upl) (id:Int):List Upl:=if endC l id=0 then l.set (atU l id) { xq l id with sent:=2} else l
structure zxG (u:Upl):Prop where
 bl:u.bytes.length≤2000
 s1: -1≤u.size
 s2:u.size≤2000
 nl:u.note.length≤100
 bs:0≤u.size→(u.bytes.length:Int)≤u.size
 t0:0≤u.sent
 t2:u.sent≤2
 wh:u.sent≠0→u.size=u.bytes.length
structure zQ (l:List Upl) (n:Int):Prop where
 n0:0≤n
 cnt:l.length≤12
 srt:l.Pairwise fun a b=>a.id<b.id
 ids: ∀ u ∈ l,1≤u.id∧u.id≤n
 each: ∀ u ∈ l,zxG u
 tot:xR l≤6000
theorem zu3:zQ [] 0:=⟨by decide,by decide,List.Pairwise.nil,fun _ h=>by simp at h,fun _ h=>by simp at h,by decide⟩
theorem zrz (l:List Upl) (id:Int):atU l id≤l.length:=List.findIdx_le_length
theorem vM {l:List Upl} {id:Int} (h:atU l id<l.length):xq l id=l[atU l id]:=by unfold xq;simp [h]
theorem rX {l:List Upl} {id:Int} (h:atU l id<l.length):xq l id ∈ l:=by rw [vM h];exact List.getElem_mem h
theorem zeU {l:List Upl} {id:Int} (h:atU l id<l.length):(xq l id).id=id:=by
 rw [vM h];have h2:(l[atU l id].id == id)=true:=List.findIdx_getElem (p:=fun u:Upl=>u.id == id) (w:=h)
 simpa using h2
theorem zn5 (a b:List Upl):xR (a++b)=xR a+xR b:=by
 induction a with
 |nil=>simp [xR]
 |cons u a ih=>simp only [List.cons_append,xR,ih];omega
theorem Yw: ∀ l:List Upl,0≤xR l
 |[]=>by decide
 |u::l=>by have:=Yw l;simp only [xR];omega
theorem zgo: ∀ {l:List Upl} {i:Nat} {u:Upl} (h:i<l.length),xR (l.set i u)=xR l - l[i].bytes.length+u.bytes.length
 |v::l,0,u,h=>by simp only [List.set_cons_zero,xR,List.getElem_cons_zero];omega
 | v::l,i+1,u,h=>by
   have:=zgo (l:=l) (i:=i) (u:=u) (by simpa using h)
   simp only [List.set_cons_succ,xR,List.getElem_cons_succ,this];omega
theorem zby: ∀ (l:List Upl) (i:Nat),xR (l.eraseIdx i)≤xR l
 |[],_=>by simp [xR]
 |v::l,0=>by simp only [List.eraseIdx_cons_zero,xR];omega
 |v::l,i+1=>by have:=zby l i;simp only [List.eraseIdx_cons_succ,xR];omega
theorem ze5 {l:List Upl} {n:Int} (h:zQ l n) {i:Nat} (hi:i<l.length) {u:Upl} (hid:u.id=l[i].id) (hu:zxG u) (ht:xR l - l[i].bytes.length+u.bytes.length≤6000):zQ (l.set i u) n:=by
 refine⟨h.n0,by rw [List.length_set];exact h.cnt,?_,fun v hv=> ?_,fun v hv=> ?_,by rw [zgo hi];exact ht⟩
 · have h1:=List.pairwise_map (f:=fun u:Upl=>u.id) (R:=(· < ·)) (l:=l)
   have h2:=List.pairwise_map (f:=fun u:Upl=>u.id) (R:=(· < ·)) (l:=l.set i u)
   rw [List.map_set,hid] at h2
   have e:(l.map fun u:Upl=>u.id).set i l[i].id=l.map fun u:Upl=>u.id:=by
    have:=List.set_getElem_self (show i<(l.map fun u:Upl=>u.id).length by simpa using hi)
    simpa using this
   rw [e] at h2;exact h2.1 (h1.2 h.srt)
 · rcases List.mem_or_eq_of_mem_set hv with hv|rfl
   · exact h.ids v hv
   · rw [hid];exact h.ids _ (List.getElem_mem hi)
 · rcases List.mem_or_eq_of_mem_set hv with hv|rfl
   · exact h.each v hv
   · exact hu
theorem zxr {l:List Upl} {n:Int} (h:zQ l n) (size:Int) (m:Str):zQ (creL l n size m) (creN l n size m):=by
 unfold creL creN
 split
 · rename_i hc
   unfold creC at hc
   split at hc
   · cases hc
   split at hc
   · cases hc
   split at hc
   · cases hc
   split at hc
   · cases hc
   have hcnt:=h.cnt;have hn:=h.n0
   refine⟨by omega,by simp;omega,?_,fun u hu=> ?_,fun u hu=> ?_,?_⟩
   · rw [List.pairwise_append]
     refine⟨h.srt,by simp,fun a ha b hb=> ?_⟩
     simp only [List.mem_singleton] at hb;subst hb;have:=(h.ids a ha).2
     show a.id<n+1
     omega
   · rcases List.mem_append.1 hu with hu|hu
     · have:=h.ids u hu;omega
     · simp only [List.mem_singleton] at hu;subst hu;exact⟨by show 1≤n+1;omega,by show n+1≤n+1;omega⟩
   · rcases List.mem_append.1 hu with hu|hu
     · exact h.each u hu
     · simp only [List.mem_singleton] at hu;subst hu
       exact⟨by simp,by simp only;omega,by simp only;omega,by simp only;omega,fun _=>by simpa,by simp,by simp,fun h=>absurd rfl h⟩
   · rw [zn5];have:=h.tot;simp [xR];omega
 · exact h
theorem zxE {l:List Upl} {n:Int} (h:zQ l n) (id off:Int) (b:Str):zQ (appL l id off b) n:=by
 unfold appL
 split
 · rename_i hc
   unfold appC at hc
   split at hc
   · cases hc
   rename_i h1
   have hi:atU l id<l.length:=by omega
   have hu:=h.each _ (rX hi)
   split at hc
   · cases hc
   split at hc
   · cases hc
   split at hc
   · cases hc
   split at hc
   · cases hc
   rename_i h2 h3 h4 h5
   refine ze5 h hi (by show(xq l id).id=_;rw [vM hi]) ?_ ?_
   · refine⟨?_,hu.s1,hu.s2,hu.nl,?_,hu.t0,hu.t2,fun hs=>absurd (by simpa using h2) hs⟩
     · show((xq l id).bytes++b).length≤2000;rw [jk];omega
     · intro hs;show((((xq l id).bytes++b).length:Nat):Int)≤(xq l id).size;rw [jk]
       have hs:0≤(xq l id).size:=hs;omega
   · show xR l - _+((((xq l id).bytes++b).length:Nat):Int)≤6000
     rw [jk,← vM hi];omega
 · exact h
theorem zxp {l:List Upl} {n:Int} (h:zQ l n) (id size:Int):zQ (decL l id size) n:=by
 unfold decL
 split
 · rename_i hc
   unfold decC at hc
   split at hc
   · cases hc
   rename_i h1
   have hi:atU l id<l.length:=by omega
   have hu:=h.each _ (rX hi)
   split at hc
   · cases hc
   split at hc
   · cases hc
   split at hc
   · cases hc
   rename_i h2 h3 h4
   refine ze5 h hi (by show(xq l id).id=_;rw [vM hi]) ?_ ?_
   · refine⟨hu.bl,by show -1≤size;omega,by show size≤2000;omega,hu.nl,fun _=>by show(((xq l id).bytes.length:Nat):Int)≤size;omega,hu.t0,hu.t2,fun hs=> ?_⟩
     have:=hu.wh hs;omega
   · show xR l - _+(((xq l id).bytes.length:Nat):Int)≤6000
     rw [← vM hi];have:=h.tot;omega
 · exact h
theorem zxn {l:List Upl} {n:Int} (h:zQ l n) (id:Int):zQ (droL l id) n:=by
 unfold droL;have hs:=List.eraseIdx_sublist l (atU l id);refine⟨h.n0,Nat.le_trans hs.length_le h.cnt,h.srt.sublist hs,fun u hu=>h.ids u (hs.subset hu),fun u hu=>h.each u (hs.subset hu),Int.le_trans (zby _ _) h.tot⟩
theorem zxB {l:List Upl} {n:Int} (h:zQ l n) (id:Int):zQ (begL l id) n:=by
 unfold begL
 split
 · rename_i hc
   unfold begC at hc
   split at hc
   · cases hc
   rename_i h1
   have hi:atU l id<l.length:=by omega
   have hu:=h.each _ (rX hi)
   split at hc
   · cases hc
   split at hc
   · cases hc
   rename_i h2 h3
   refine ze5 h hi (by show(xq l id).id=_;rw [vM hi]) ⟨hu.bl,hu.s1,hu.s2,hu.nl,hu.bs,by show(0:Int)≤1;decide,by show(1:Int)≤2;decide,fun _=>by simpa using h3⟩ ?_
   show xR l - _+(((xq l id).bytes.length:Nat):Int)≤6000
   rw [← vM hi];have:=h.tot;omega
 · exact h
theorem zxl {l:List Upl} {n:Int} (h:zQ l n) (id:Int):zQ (endL l id) n:=by
 unfold endL
 split
 · rename_i hc
   unfold endC at hc
   split at hc
   · cases hc
   rename_i h1
   have hi:atU l id<l.length:=by omega
   have hu:=h.each _ (rX hi)
   split at hc
   · cases hc
   rename_i h2
   refine ze5 h hi (by show(xq l id).id=_;rw [vM hi]) ⟨hu.bl,hu.s1,hu.s2,hu.nl,hu.bs,by show(0:Int)≤2;decide,by show(2:Int)≤2;decide,fun _=>hu.wh (by simp only [Decidable.not_not] at h2;omega)⟩ ?_
   show xR l - _+(((xq l id).bytes.length:Nat):Int)≤6000
   rw [← vM hi];have:=h.tot;omega
 · exact h
theorem zyb {l:List Upl} (h:l.Pairwise fun a b=>a.id<b.id) {i:Nat} (hi:i<l.length):atU l l[i].id=i:=by
 unfold atU;rw [List.findIdx_eq hi]
 refine⟨by simp,fun j hj=> ?_⟩
 have:=List.pairwise_iff_getElem.1 h j i (by omega) hi hj
 simp only [beq_eq_false_iff_ne,ne_eq];omega
theorem zqK {l:List Upl} (h:l.Pairwise fun a b=>a.id<b.id) (id:Int):(l.filter fun u=> !(u.id == id))=droL l id:=by
 induction l with
 |nil=>simp [droL]
 | cons u l ih=>
   have h:=List.pairwise_cons.1 h;unfold droL atU at *;rw [List.filter_cons,List.findIdx_cons]
   by_cases hu:u.id=id
   · have e:(u.id == id)=true:=by simpa using hu
     rw [e];simp only [Bool.not_true,jd,if_false,cond_true,List.eraseIdx_cons_zero];refine List.filter_eq_self.2 fun v hv=> ?_;have:=h.1 v hv
     simp;omega
   · have e:(u.id == id)=false:=by simpa using hu
     rw [e];simp only [Bool.not_false,if_true,cond_false,List.eraseIdx_cons_succ,ih h.2]
end Go.Proofs.YtkjepecoodjbmaaGreatDoor
namespace Go.Proofs.YtkjepecoodjbmaaGreatDoor
open Go Go.Sep Go.Ab
set_option maxRecDepth 100000
def zas (I:Alg) (args:List D) (hp:List HO):Option CT:=match args,hp with
 |[.v (.agg [(.p (.int .i64 a)),(.p (.int .i64 b)),(.p (.str m)),(.p (.list .byte y)),(.p (.int .i64 t))]),.v (.one (.ptr 0 0))],[.pack [.obj 3 [(.p (.int .i64 d))]]]=>(fun(a b:Int) (m y:Str) (t d:Int)=>(some (.one ⟨I.hid (True),(.ret (.v (.one (.p (.bool (I.hid ((a == d)))))))),[.pack [.obj 3 [(.p (.int .i64 d))]]]⟩):Option CT)) a b m y t d
 |_,_=>none
theorem zkH:zx Tryz.prog 101 (zas alg):=by
 intro args hp r h;unfold zas at h;split at h<;>cases h
 rename_i a b m y t d;simp only [CT.Good,zi];intro _
 refine spcG zh mixed Tryz.func101 (by kernel_rfl) { keep:=some [0,1,2,3]} [] (by kernel_rfl) ?_
 intro I X hI hX
 refine orcL ?_;go_invoke;refine orcS (by kernel_rfl) ?_
 simp only [zq,Nat.reduceAdd];subst hI;simp only [nrmA,nrmB,nrlB,reduceCtorEq,HO.pack.injEq,HO.obj.injEq]
def zar:Know Tryz.prog:=⟨101,zas,zkH⟩
def zkG:Know Tryz.prog:=⟨101,fun I=>zy I (zas I),zf zkH⟩
def ixU (l:List Upl) (id:Int):Int:=if atU l id<l.length then(atU l id:Int) else -1
theorem zmM {l:List Upl} {id:Int} {i:Nat} (h:i<l.length) (hp:i≤atU l id):(if(l.getD i upl0).id=id then atU l id=i else i+1≤atU l id):=by
 rw [show l.getD i upl0=l[i] by simp [h]]
 split
 · rename_i he
   rcases Nat.lt_or_ge i (atU l id) with h1|h1
   · have:=List.not_of_lt_findIdx (p:=fun u:Upl=>u.id == id) (xs:=l) (i:=i) h1
     simp [he] at this
   · omega
 · rename_i he
   rcases Nat.lt_or_ge i (atU l id) with h1|h1
   · omega
   · have e:atU l id=i:=by omega
     have h2:=zeU (l:=l) (id:=id) (by omega)
     rw [vM (by omega)] at h2
     simp only [e] at h2;exact absurd h2 he
def ze6 (I:Alg) (args:List D) (hp:List HO):Option CT:=match args,hp with
 |[.v (.one (.p (.list .upl l))),.v (.one (.fn 101 [.ptr 0 0]))],[.pack [.obj 3 [(.p (.int .i64 d))]]]=>(fun(l:List Upl) (d:Int)=>(some (.one ⟨I.hid (l.length≤1000000),(.ret (.v (.one (.p (.int .i64 (I.hid ((ixU l d)))))))),[.pack [.obj 3 [(.p (.int .i64 d))]]]⟩):Option CT)) l d
 |_,_=>none
theorem zox:zx Tryz.prog 100 (ze6 alg):=by
 intro args hp r h;unfold ze6 at h;split at h<;>cases h
 rename_i l d
 revert l;intro(l:List Upl)
 simp only [CT.Good,zi];intro hneed
 refine spcG zh mixed Tryz.func100 (by kernel_rfl) { keep:=some [0,1,4,5,7,8]} [zar] (by kernel_rfl) ?_
 intro I X hI hX
 refine orcL ?_;go_invoke;refine orcS (by kernel_rfl) ?_
 simp only [zq,Nat.reduceAdd]
 refine zB hI zh mixed [zar] hX [0,1,7,8] (fun(i:Nat)=>i≤l.length∧i≤atU l d) (fun(i:Nat)=>⟨[(0,.v (.one (.p (.list .upl l)))),(1,.v (.one (.fn 101 [.ptr 0 0]))),(7,.v (.one (.p (.int .i64 ((I.len (α:=Upl) l)))))),(8,.v (.one (.p (.int .i64 i))))],[.pack [.obj 3 [(.p (.int .i64 d))]]],19,none⟩) (fun(i:Nat)=>l.length - i) 0 (by kernel_rfl) (by kernel_rfl) ?_ ?_
 · exact⟨jM _,jM _⟩
 rintro i ⟨h1,h2⟩ A hA
 refine orcL ?_;go_invoke;refine orcS (by kernel_rfl) ?_
 simp only [zq,Nat.reduceAdd];subst hI;simp only [nrmA,nrmB];have hx:=fun h=>zmM (l:=l) (id:=d) (i:=i) h h2;have hle:=zrz l d;have e0:(⟨0,0,[],[],0⟩:Upl)=upl0:=rfl;simp only [e0];unfold ixU
 (repeat' (first|refine ja ?_ ?_|intro _))<;>first|omega|exact jb|exact jc ‹False›|skip
 all_goals first
  |(have h3:=hx (by omega);rw [if_pos (by assumption)] at h3;rw [if_pos (by omega),h3])
  |(have h3:=hx (by omega);rw [if_neg (by assumption)] at h3;exact hA (i+1) ⟨by omega,h3⟩ (by omega))
  |(rw [if_neg (by omega)])
def SS:Know Tryz.prog:=⟨100,ze6,zox⟩
def SQ:Know Tryz.prog:=⟨100,fun I=>zy I (ze6 I),zf zox⟩
def zc1:Cfg:= { sl:=[⟨124,0,.upl,some 81⟩,⟨65,0,.upl,some 81⟩]}
theorem zqb {l:List Upl} {id:Int} (h:atU l id<l.length):ixU l id=(atU l id:Int):=by unfold ixU;rw [if_pos h]
theorem zqc {l:List Upl} {id:Int} (h: ¬ atU l id<l.length):ixU l id= -1:=by unfold ixU;rw [if_neg h]
theorem zxO (l:List Upl) (n id:Int) (hneed:l.length≤1000000∧atU l id<l.length):Spc Tryz.prog 58 [.v (.one (.ptr 0 0)),.v (.one (.p (.int .i64 id)))] [.obj 124 [(.row 1),(.p (.int .i64 n))],.row .upl 81 l] (.ret (.tup [(.one (.ept .upl 1 ((atU l id:Int)) 0)),(.one (.p (.int .i64 0)))])) [.obj 124 [(.row 1),(.p (.int .i64 n))],.row .upl 81 l]:=by
 obtain⟨h1,h2⟩:=hneed
 refine spcG zh mixed Tryz.func58 (by kernel_rfl) { flat:=true,keep:=some [0,1,3,4,5,6]} [zar,zkG,SS,SQ] (by kernel_rfl) ?_
 intro I X hI hX
 refine orcL ?_;go_invoke;refine orcS (by kernel_rfl) ?_
 simp only [zq,Nat.reduceAdd];subst hI;simp only [nrmA,nrmB,zqb h2]
 (repeat' (first|refine ja ?_ ?_|intro _))<;>first|omega|exact jb|exact jc ‹False›|skip
theorem zxN (l:List Upl) (n id:Int) (hneed:l.length≤1000000∧¬ atU l id<l.length):Spc Tryz.prog 58 [.v (.one (.ptr 0 0)),.v (.one (.p (.int .i64 id)))] [.obj 124 [(.row 1),(.p (.int .i64 n))],.row .upl 81 l] (.ret (.tup [(.one (.p (.val (.pointer none)))),(.one (.p (.int .i64 10)))])) [.obj 124 [(.row 1),(.p (.int .i64 n))],.row .upl 81 l]:=by
 obtain⟨h1,h2⟩:=hneed
 refine spcG zh mixed Tryz.func58 (by kernel_rfl) { flat:=true,keep:=some [0,1,3,4,5,6]} [zar,zkG,SS,SQ] (by kernel_rfl) ?_
 intro I X hI hX
 refine orcL ?_;go_invoke;refine orcS (by kernel_rfl) ?_
 simp only [zq,Nat.reduceAdd];subst hI;simp only [nrmA,nrmB,zqc h2]
 (repeat' (first|refine ja ?_ ?_|intro _))<;>first|omega|exact jb|exact jc ‹False›|skip
def zkZ (I:Alg) (args:List D) (hp:List HO):Option CT:=match args,hp with
 |[.v (.one (.ptr 0 0)),.v (.one (.p (.int .i64 id)))],[.obj 124 [(.row 1),(.p (.int .i64 n))],.row .upl 81 l]=>(fun(l:List Upl) (n id:Int)=>(some (.br (I.hid (decide (atU l id<l.length))) (.one ⟨I.hid (l.length≤1000000∧atU l id<l.length),(.ret (.tup [(.one (.ept .upl 1 (I.hid ((atU l id:Int))) 0)),(.one (.p (.int .i64 0)))])),[.obj 124 [(.row 1),(.p (.int .i64 n))],.row .upl 81 l]⟩) (.one ⟨I.hid (l.length≤1000000∧¬ atU l id<l.length),(.ret (.tup [(.one (.p (.val (.pointer none)))),(.one (.p (.int .i64 10)))])),[.obj 124 [(.row 1),(.p (.int .i64 n))],.row .upl 81 l]⟩)):Option CT)) l n id
 |_,_=>none
theorem zt3:zx Tryz.prog 58 (zkZ alg):=by
 intro args hp r h;unfold zkZ at h
 split at h
 · cases h;exact⟨fun _ hn=>zxO _ _ _ hn,fun _ hn=>zxN _ _ _ hn⟩
 · cases h
def zdH:Know Tryz.prog:=⟨58,zkZ,zt3⟩
def zdG:Know Tryz.prog:=⟨58,fun I=>zy I (zkZ I),zf zt3⟩
theorem zoL (l:List Upl) (n:Int) (hneed:xR l≤1000000∧l.length≤1000000):Spc Tryz.prog 201 [.v (.one (.ptr 0 0))] [.obj 124 [(.row 1),(.p (.int .i64 n))],.row .upl 81 l] (.ret (.v (.one (.p (.int .i64 ((xR l))))))) [.obj 124 [(.row 1),(.p (.int .i64 n))],.row .upl 81 l]:=by
 obtain⟨hu,hl⟩:=hneed
 refine spcG zh mixed Tryz.func201 (by kernel_rfl) { flat:=true,keep:=some [0,2,3,5,9,10,11]} [] (by kernel_rfl) ?_
 intro I X hI hX
 refine orcL ?_;go_invoke;refine orcS (by kernel_rfl) ?_
 simp only [zq,Nat.reduceAdd]
 refine zB hI zh mixed [] hX [0,3,9,10,11] (fun(g:Nat × Int)=>match g with|(i,a)=>i≤l.length∧0≤a∧a+xR (l.drop i)=xR l) (fun(g:Nat × Int)=>match g with|(i,a)=>⟨[(0,.v (.one (.ptr 0 0))),(3,.v (.one (.p (.int .i64 a)))),(9,.v (.one (.row 1))),(10,.v (.one (.p (.int .i64 ((I.len (α:=Upl) l)))))),(11,.v (.one (.p (.int .i64 i))))],[.obj 124 [(.row 1),(.p (.int .i64 n))],.row .upl 81 l],22,none⟩) (fun(g:Nat × Int)=>match g with|(i,a)=>l.length - i) (0,0) (by kernel_rfl) (by kernel_rfl) ?_ ?_
 · exact⟨jM _,Int.le_refl _,by simp⟩
 rintro⟨i,a⟩ ⟨h1,h2,h3⟩ A hA;simp only at hA
 refine orcL ?_;go_invoke;refine orcS (by kernel_rfl) ?_
 simp only [zq,Nat.reduceAdd];subst hI;simp only [nrmA,nrmB]
 have hd:i<l.length→xR (l.drop i)=(l.getD i ⟨0,0,[],[],0⟩).bytes.length+xR (l.drop (i+1)):=fun h=>by
  rw [jE h];simp [xR,h]
 have hn:=Yw (l.drop (i+1))
 have hn0: ¬ i<l.length→xR (l.drop i)=0:=fun h=>by rw [jF (by omega)];rfl
 generalize l.getD i ⟨0,0,[],[],0⟩=x at *
 (repeat' (first|refine ja ?_ ?_|intro _))<;>first|omega|exact jb|exact jc ‹False›|skip
 all_goals first
  |(have:=hd (by omega);omega)
  |(have:=hd (by omega);refine hA (i+1,_) ⟨by simp only;omega,by simp only;omega,by simp only;omega⟩ (by simp only;omega))
  |(have:=hn0 (by omega);simp only [show a=xR l by omega])
def VO (I:Alg) (args:List D) (hp:List HO):Option CT:=match args,hp with
 |[.v (.one (.ptr 0 0))],[.obj 124 [(.row 1),(.p (.int .i64 n))],.row .upl 81 l]=>(fun(l:List Upl) (n:Int)=>(some (.one ⟨I.hid (xR l≤1000000∧l.length≤1000000),(.ret (.v (.one (.p (.int .i64 (I.hid ((xR l)))))))),[.obj 124 [(.row 1),(.p (.int .i64 n))],.row .upl 81 l]⟩):Option CT)) l n
 |_,_=>none
theorem zgF:zx Tryz.prog 201 (VO alg):=by
 intro args hp r h;unfold VO at h
 split at h
 · cases h;exact fun hn=>zoL _ _ hn
 · cases h
def zoK:Know Tryz.prog:=⟨201,VO,zgF⟩
def zoJ:Know Tryz.prog:=⟨201,fun I=>zy I (VO I),zf zgF⟩
theorem zwv (l:List Upl) (n:Int) (hneed:xR l≤1000000∧l.length≤1000000):Spc Tryz.prog 201 [.v (.one (.ptr 0 0))] [.pack [.obj 124 [(.row 1),(.p (.int .i64 n))],.row .upl 81 l]] (.ret (.v (.one (.p (.int .i64 ((xR l))))))) [.pack [.obj 124 [(.row 1),(.p (.int .i64 n))],.row .upl 81 l]]:=
 Spc.packed (ex:=[]) (zoL l n hneed) rfl (by simp) rfl
def zaz (I:Alg) (args:List D) (hp:List HO):Option CT:=match args,hp with
 |[.v (.one (.ptr 0 0))],[.pack [.obj 124 [(.row 1),(.p (.int .i64 n))],.row .upl 81 l]]=>(fun(l:List Upl) (n:Int)=>(some (.one ⟨I.hid (xR l≤1000000∧l.length≤1000000),(.ret (.v (.one (.p (.int .i64 (I.hid ((xR l)))))))),[.pack [.obj 124 [(.row 1),(.p (.int .i64 n))],.row .upl 81 l]]⟩):Option CT)) l n
 |_,_=>none
theorem zkT:zx Tryz.prog 201 (zaz alg):=by
 intro args hp r h;unfold zaz at h
 split at h
 · cases h;exact fun hn=>zwv _ _ hn
 · cases h
def zsh:Know Tryz.prog:=⟨201,zaz,zkT⟩
def zsg:Know Tryz.prog:=⟨201,fun I=>zy I (zaz I),zf zkT⟩
def zfK (I:Alg) (args:List D) (hp:List HO):Option CT:=match args,hp with
 |[.v (.one .nilS),.v (.one (.p (.int .i64 n)))],[]=>(fun(n:Int)=>(some (.one ⟨I.hid (0≤n∧n≤1000000),(.ret (.v (.one (.row 0)))),[.row .byte 5 (I.hid ([]))]⟩):Option CT)) n
 |_,_=>none
theorem zqk:zx Tryz.prog 239 (zfK alg):=by
 intro args hp r h;unfold zfK at h;split at h<;>cases h
 rename_i n;simp only [CT.Good,zi];intro hneed
 refine spcG zh mixed Tryz.func239 (by kernel_rfl) { cut:=[0],keep:=some [0,1,4]} [] (by kernel_rfl) ?_
 intro I X hI hX
 refine orcL ?_;go_invoke;refine orcS (by kernel_rfl) ?_
 simp only [zq,Nat.reduceAdd];subst hI;simp only [nrmA,nrmB,nrlB,reduceCtorEq];simp only [List.length_replicate,List.take_zero]
 (repeat' (first|refine ja ?_ ?_|intro _))<;>first|omega|exact jb|exact jc ‹False›|skip
 all_goals trivial
def zjw:Know Tryz.prog:=⟨239,zfK,zqk⟩
def zjv:Know Tryz.prog:=⟨239,fun I=>zy I (zfK I),zf zqk⟩
theorem zih {ls:List Str} {i:Nat} (h:i<ls.length):(ls.take (i+1)).flatten=(ls.take i).flatten++ls.getD i []:=by
 rw [jB h,List.flatten_append];simp [h]
theorem zfS (ls:List Str) (i:Nat):(ls.take i).flatten.length≤ls.flatten.length:=by
 have:=congrArg (fun l:List Str=>l.flatten.length) (List.take_append_drop i ls);simp only [List.flatten_append,jk] at this;omega
def TR (I:Alg) (args:List D) (hp:List HO):Option CT:=match args,hp with
 |[.v (.one (.p (.list .bytes ls)))],[]=>(fun(ls:List Str)=>(some (.one ⟨I.hid (ls.flatten.length≤1000000∧ls.length≤1000),(.ret (.v (.one (.row 0)))),[.row .byte 5 ls.flatten]⟩):Option CT)) ls
 |_,_=>none
theorem ziv:zx Tryz.prog 202 (TR alg):=by
 intro args hp r h;unfold TR at h;split at h<;>cases h
 rename_i ls
 revert ls;intro(ls:List Str)
 simp only [CT.Good,zi];intro hneed;obtain⟨hl,hk⟩:=hneed
 refine spcG zh mixed Tryz.func202 (by kernel_rfl) { nils:=[239],keep:=some [0,2,3,5,6,8,9,10,11,25,26,27]} [zjw,zjv] (by kernel_rfl) ?_
 intro I X hI hX
 refine orcL ?_;go_invoke;refine orcS (by kernel_rfl) ?_
 simp only [zq,Nat.reduceAdd]
 refine zB hI zh mixed [zjw,zjv] hX [0,3,9,10,11] (fun(g:Nat × Int)=>match g with|(i,a)=>i≤ls.length∧a=(ls.take i).flatten.length) (fun(g:Nat × Int)=>match g with|(i,a)=>⟨[(0,.v (.one (.p (.list .bytes ls)))),(3,.v (.one (.p (.int .i64 a)))),(9,.v (.one (.p (.list .bytes ls)))),(10,.v (.one (.p (.int .i64 ((I.len (α:=List UInt8) ls)))))),(11,.v (.one (.p (.int .i64 i))))],[],36,none⟩) (fun(g:Nat × Int)=>match g with|(i,a)=>ls.length - i) (0,0) (by kernel_rfl) (by kernel_rfl) ?_ ?_
 · exact⟨jM _,by simp⟩
 rintro⟨i,a⟩ ⟨h1,h2⟩ A hA;simp only at hA
 refine orcL ?_;go_invoke;refine orcS (by kernel_rfl) ?_
 simp only [zq,Nat.reduceAdd];have hx:i<ls.length→_:=zih (ls:=ls) (i:=i);have hy:=zfS ls (i+1);have hz:=zfS ls i;refine⟨fun c1=> ?_,fun c1=>⟨?_,?_⟩⟩
 · subst hI
   simp only [nrmA,nrmB] at c1;simp only [nrmA,nrmB]
   have hx:=congrArg List.length (hx (by omega))
   rw [jk] at hx;generalize ls.getD i []=x at *
   (repeat' (first|refine ja ?_ ?_|intro _))<;>first|omega|exact jb|exact jc ‹False›|skip
   exact hA (i+1,_) ⟨by simp only;omega,by simp only;omega⟩ (by simp only;omega)
 · subst hI
   simp only [nrmA,nrmB];omega
 · have hi:i=ls.length:=by
    subst hI;simp only [nrmA,nrmB] at c1;omega
   have hil:(I.hid ([]:Str))=[]:=by subst hI;rfl
   rw [hil]
   refine zB hI zh mixed [zjw,zjv] hX [6,25,26,27] (fun(g:Nat × Str)=>match g with|(j,o)=>j≤ls.length∧o=(ls.take j).flatten) (fun(g:Nat × Str)=>match g with|(j,o)=>⟨[(6,.v (.one (.row 0))),(25,.v (.one (.p (.list .bytes ls)))),(26,.v (.one (.p (.int .i64 ((I.len (α:=List UInt8) ls)))))),(27,.v (.one (.p (.int .i64 j))))],[.row .byte 5 o],36,none⟩) (fun(g:Nat × Str)=>match g with|(j,o)=>ls.length - j) (0,[]) (by kernel_rfl) (by kernel_rfl) ?_ ?_
   · exact⟨jM _,rfl⟩
   rintro⟨j,o⟩ ⟨k1,k2⟩ B hB;simp only at hB
   refine orcL ?_;go_invoke;refine orcS (by kernel_rfl) ?_
   simp only [zq,Nat.reduceAdd];subst hI;simp only [nrmA,nrmB,nrlB,reduceCtorEq];have hx:j<ls.length→_:=zih (ls:=ls) (i:=j);have hy:=zfS ls (j+1);have hz:=zfS ls j
   have hw: ¬ j<ls.length→o=ls.flatten:=fun h=>by rw [k2,jq (by omega)]
   rw [k2] at hw ⊢
   refine⟨fun c=> ?_,fun c=>hw (by omega)⟩
   have hx:=hx (by omega)
   rw [← hx];have hx2:=congrArg List.length hx;rw [jk] at hx2;generalize ls.getD j []=x at *
   (repeat' (first|refine ja ?_ ?_|intro _))<;>first|omega|exact jb|exact jc ‹False›|skip
   exact hB (j+1,(ls.take (j+1)).flatten) ⟨by simp only;omega,rfl⟩ (by simp only;omega)
def zre:Know Tryz.prog:=⟨202,TR,ziv⟩
def zrd:Know Tryz.prog:=⟨202,fun I=>zy I (TR I),zf ziv⟩
theorem WR {l:List Upl} {n:Int} (h:zQ l n):l.length≤1000000∧xR l≤1000000:=by
 have:=h.cnt;have:=h.tot;omega
def Xo (I:Alg) (args:List D) (hp:List HO):Option CT:=match args,hp with
 |[.v (.one (.ptr 0 0)),.v (.one (.p (.int .i64 size))),.v (.one (.p (.str m)))],[.pack [.obj 124 [(.row 1),(.p (.int .i64 n))],.row .upl 81 l]]=>(fun(l:List Upl) (n size:Int) (m:Str)=>(some (.one ⟨I.hid (zQ l n∧n≤1000000∧m.length≤1000000),(.ret (.tup [(.one (.p (.int .i64 (I.hid ((creI l n size m)))))),(.one (.p (.int .i64 (I.hid ((creC l size m))))))])),[.pack [.obj 124 [(.row 1),(.p (.int .i64 (I.hid ((creN l n size m)))))],.row .upl 81 (I.hid ((creL l n size m)))]]⟩):Option CT)) l n size m
 |_,_=>none
theorem zdF:zx Tryz.prog 152 (Xo alg):=by
 intro args hp r h;unfold Xo at h;split at h<;>cases h
 rename_i size m n l
 revert l;intro(l:List Upl)
 simp only [CT.Good,zi];intro hneed;obtain⟨hs,hn,hm⟩:=hneed;have hc:=hs.cnt;have h0:=hs.n0;generalize hi:creI l n size m=ri;generalize he:creC l size m=re;generalize hl:creL l n size m=rl;generalize hN:creN l n size m=rn
 refine spcG zh mixed Tryz.func152 (by kernel_rfl) { zc1 with keep:=some [0,1,2,6,7]} [tV,tN,Sr,Sm] (by kernel_rfl) ?_
 intro I X hI hX
 refine orcL ?_;go_invoke;refine orcS (by kernel_rfl) ?_
 simp only [zq,Nat.reduceAdd];subst hI;simp only [nrmA,nrmB,nrlB,reduceCtorEq,HO.pack.injEq,HO.obj.injEq];unfold creI at hi;unfold creL at hl;unfold creN at hN;rw [he] at hi hl hN;unfold creC at he;simp only [jh,ji]
 (repeat' (first|refine ja ?_ ?_|intro _))<;>first|omega|exact jb|exact jc ‹False›|skip
 all_goals((repeat(first|rewrite [if_pos (by first|omega|assumption|(simp only [*,or_self,or_true,true_or,or_false,false_or,jf,jg,jd,je,and_self,and_true,true_and];done)|(simp only [*];omega)|(simp [*];done)|(simp [*];omega))] at he|rewrite [if_neg (by first|omega|assumption|(simp only [*,or_self,or_true,true_or,or_false,false_or,jf,jg,jd,je,and_self,and_true,true_and];done)|(simp only [*];omega)|(simp [*];done)|(simp [*];omega))] at he));subst he;((repeat(first|rewrite [if_pos (by first|omega|assumption|(simp only [*,or_self,or_true,true_or,or_false,false_or,jf,jg,jd,je,and_self,and_true,true_and];done)|(simp only [*];omega)|(simp [*];done)|(simp [*];omega))] at hi|rewrite [if_neg (by first|omega|assumption|(simp only [*,or_self,or_true,true_or,or_false,false_or,jf,jg,jd,je,and_self,and_true,true_and];done)|(simp only [*];omega)|(simp [*];done)|(simp [*];omega))] at hi)));((repeat(first|rewrite [if_pos (by first|omega|assumption|(simp only [*,or_self,or_true,true_or,or_false,false_or,jf,jg,jd,je,and_self,and_true,true_and];done)|(simp only [*];omega)|(simp [*];done)|(simp [*];omega))] at hl|rewrite [if_neg (by first|omega|assumption|(simp only [*,or_self,or_true,true_or,or_false,false_or,jf,jg,jd,je,and_self,and_true,true_and];done)|(simp only [*];omega)|(simp [*];done)|(simp [*];omega))] at hl)));((repeat(first|rewrite [if_pos (by first|omega|assumption|(simp only [*,or_self,or_true,true_or,or_false,false_or,jf,jg,jd,je,and_self,and_true,true_and];done)|(simp only [*];omega)|(simp [*];done)|(simp [*];omega))] at hN|rewrite [if_neg (by first|omega|assumption|(simp only [*,or_self,or_true,true_or,or_false,false_or,jf,jg,jd,je,and_self,and_true,true_and];done)|(simp only [*];omega)|(simp [*];done)|(simp [*];omega))] at hN)));subst hi;subst hl;subst hN;first|rfl|omega)
def zm1:Know Tryz.prog:=⟨152,Xo,zdF⟩
def zm0:Know Tryz.prog:=⟨152,fun I=>zy I (Xo I),zf zdF⟩
def Xp (I:Alg) (args:List D) (hp:List HO):Option CT:=match args,hp with
 |[.v (.one (.ptr 0 0)),.v (.one (.p (.int .i64 id))),.v (.one (.p (.int .i64 off))),.v (.one (.p (.list .byte b)))],[.pack [.obj 124 [(.row 1),(.p (.int .i64 n))],.row .upl 81 l]]=>(fun(l:List Upl) (n id off:Int) (b:Str)=>(some (.one ⟨I.hid (zQ l n∧b.length≤1000000),(.ret (.v (.one (.p (.int .i64 (I.hid ((appC l id off b)))))))),[.pack [.obj 124 [(.row 1),(.p (.int .i64 n))],.row .upl 81 (I.hid ((appL l id off b)))]]⟩):Option CT)) l n id off b
 |_,_=>none
theorem zdI:zx Tryz.prog 153 (Xp alg):=by
 intro args hp r h;unfold Xp at h;split at h<;>cases h
 rename_i id off b n l
 revert l;intro(l:List Upl)
 simp only [CT.Good,zi];intro hneed;obtain⟨hs,hb⟩:=hneed;have hf:=WR hs;generalize he:appC l id off b=re;generalize hl:appL l id off b=rl
 refine spcG zh mixed Tryz.func153 (by kernel_rfl) { zc1 with bare:=[58,201],keep:=some [0,1,2,3,8,9,10,11]} [zdH,zdG,zoK,zoJ,zsh,zsg,zre,zrd] (by kernel_rfl) ?_
 intro I X hI hX
 refine orcL ?_;go_invoke;refine orcS (by kernel_rfl) ?_
 simp only [zq,Nat.reduceAdd];subst hI;simp only [nrmA,nrmB,nrlB,reduceCtorEq,HO.pack.injEq,HO.obj.injEq];unfold appL at hl;rw [he] at hl;unfold appC at he;unfold xq upl0 at he hl;simp only [List.flatten_cons,List.flatten_nil,List.append_nil,jk,jh,ji];have hx:atU l id<l.length→_:=fun h=>hs.each _ (rX h);unfold xq upl0 at hx;generalize l.getD (atU l id) ⟨0,0,[],[],0⟩=x at *;have hu0:=Yw l;have hb1:=fun h=>(hx h).bl;have hb2:=fun h=>(hx h).s1;have hb3:=fun h=>(hx h).s2
 (repeat' (first|refine ja ?_ ?_|intro _))<;>first|omega|exact jb|exact jc ‹False›|skip
 all_goals first
  |(have:=hb1 (by omega);have:=hb2 (by omega);have:=hb3 (by omega);omega)
  |exact hf.1
  |exact hf.2
  |((repeat(first|rewrite [if_pos (by first|omega|assumption|(simp only [*,or_self,or_true,true_or,or_false,false_or,jf,jg,jd,je,and_self,and_true,true_and];done)|(simp only [*];omega)|(simp [*];done)|(simp [*];omega))] at he|rewrite [if_neg (by first|omega|assumption|(simp only [*,or_self,or_true,true_or,or_false,false_or,jf,jg,jd,je,and_self,and_true,true_and];done)|(simp only [*];omega)|(simp [*];done)|(simp [*];omega))] at he));subst he;((repeat(first|rewrite [if_pos (by first|omega|assumption|(simp only [*,or_self,or_true,true_or,or_false,false_or,jf,jg,jd,je,and_self,and_true,true_and];done)|(simp only [*];omega)|(simp [*];done)|(simp [*];omega))] at hl|rewrite [if_neg (by first|omega|assumption|(simp only [*,or_self,or_true,true_or,or_false,false_or,jf,jg,jd,je,and_self,and_true,true_and];done)|(simp only [*];omega)|(simp [*];done)|(simp [*];omega))] at hl)));subst hl;first|rfl|omega)
def zm3:Know Tryz.prog:=⟨153,Xp,zdI⟩
def zm2:Know Tryz.prog:=⟨153,fun I=>zy I (Xp I),zf zdI⟩
end Go.Proofs.YtkjepecoodjbmaaGreatDoor
namespace Go.Proofs.YtkjepecoodjbmaaGreatDoor
open Go Go.Sep Go.Ab
set_option maxRecDepth 100000
def ZM (I:Alg) (args:List D) (hp:List HO):Option CT:=match args,hp with
 |[.v (.one (.ptr 0 0)),.v (.one (.p (.int .i64 id))),.v (.one (.p (.int .i64 size)))],[.pack [.obj 124 [(.row 1),(.p (.int .i64 n))],.row .upl 81 l]]=>(fun(l:List Upl) (n id size:Int)=>(some (.one ⟨I.hid (zQ l n),(.ret (.v (.one (.p (.int .i64 (I.hid ((decC l id size)))))))),[.pack [.obj 124 [(.row 1),(.p (.int .i64 n))],.row .upl 81 (I.hid ((decL l id size)))]]⟩):Option CT)) l n id size
 |_,_=>none
theorem zbS:zx Tryz.prog 154 (ZM alg):=by
 intro args hp r h;unfold ZM at h;split at h<;>cases h
 rename_i id size n l
 revert l;intro(l:List Upl)
 simp only [CT.Good,zi];intro hneed;have hs:=hneed;have hf:=WR hs;generalize he:decC l id size=re;generalize hl:decL l id size=rl
 refine spcG zh mixed Tryz.func154 (by kernel_rfl) { zc1 with bare:=[58],keep:=some [0,1,2,6,7,8]} [zdH,zdG] (by kernel_rfl) ?_
 intro I X hI hX
 refine orcL ?_;go_invoke;refine orcS (by kernel_rfl) ?_
 simp only [zq,Nat.reduceAdd];subst hI;simp only [nrmA,nrmB,nrlB,reduceCtorEq,HO.pack.injEq,HO.obj.injEq];unfold decL at hl;rw [he] at hl;unfold decC at he;unfold xq upl0 at he hl;generalize l.getD (atU l id) ⟨0,0,[],[],0⟩=x at *
 (repeat' (first|refine ja ?_ ?_|intro _))<;>first|omega|exact jb|exact jc ‹False›|skip
 all_goals first
  |exact hf.1
  |((repeat(first|rewrite [if_pos (by first|omega|assumption|(simp only [*,or_self,or_true,true_or,or_false,false_or,jf,jg,jd,je,and_self,and_true,true_and];done)|(simp only [*];omega)|(simp [*];done)|(simp [*];omega))] at he|rewrite [if_neg (by first|omega|assumption|(simp only [*,or_self,or_true,true_or,or_false,false_or,jf,jg,jd,je,and_self,and_true,true_and];done)|(simp only [*];omega)|(simp [*];done)|(simp [*];omega))] at he));subst he;((repeat(first|rewrite [if_pos (by first|omega|assumption|(simp only [*,or_self,or_true,true_or,or_false,false_or,jf,jg,jd,je,and_self,and_true,true_and];done)|(simp only [*];omega)|(simp [*];done)|(simp [*];omega))] at hl|rewrite [if_neg (by first|omega|assumption|(simp only [*,or_self,or_true,true_or,or_false,false_or,jf,jg,jd,je,and_self,and_true,true_and];done)|(simp only [*];omega)|(simp [*];done)|(simp [*];omega))] at hl)));subst hl;first|rfl|omega)
def zi1:Know Tryz.prog:=⟨154,ZM,zbS⟩
def zi0:Know Tryz.prog:=⟨154,fun I=>zy I (ZM I),zf zbS⟩
def zae (I:Alg) (args:List D) (hp:List HO):Option CT:=match args,hp with
 |[.v (.agg [(.p (.int .i64 a)),(.p (.int .i64 b)),(.p (.str m)),(.p (.list .byte y)),(.p (.int .i64 t))])],[]=>(fun(a b:Int) (m y:Str) (t:Int)=>(some (.one ⟨I.hid (True),(.ret (.v (.one (.p (.bool (I.hid ((b == (y.length:Int))))))))),[]⟩):Option CT)) a b m y t
 |_,_=>none
theorem zkg:zx Tryz.prog 205 (zae alg):=by
 intro args hp r h;unfold zae at h;split at h<;>cases h
 rename_i a b m y t;simp only [CT.Good,zi];intro _
 refine spcG zh mixed Tryz.func205 (by kernel_rfl) { keep:=some [0,1,2]} [] (by kernel_rfl) ?_
 intro I X hI hX
 refine orcL ?_;go_invoke;refine orcS (by kernel_rfl) ?_
 simp only [zq,Nat.reduceAdd];subst hI;simp only [nrmA,nrmB]
 try trivial
def zrV:Know Tryz.prog:=⟨205,zae,zkg⟩
def zrU:Know Tryz.prog:=⟨205,fun I=>zy I (zae I),zf zkg⟩
def VS (I:Alg) (args:List D) (hp:List HO):Option CT:=match args,hp with
 |[.v (.one (.ptr 0 0)),.v (.one (.p (.int .i64 id)))],[.pack [.obj 124 [(.row 1),(.p (.int .i64 n))],.row .upl 81 l]]=>(fun(l:List Upl) (n id:Int)=>(some (.one ⟨I.hid (zQ l n),(.ret (.v (.one (.p (.int .i64 (I.hid ((begC l id)))))))),[.pack [.obj 124 [(.row 1),(.p (.int .i64 n))],.row .upl 81 (I.hid ((begL l id)))]]⟩):Option CT)) l n id
 |_,_=>none
theorem zgH:zx Tryz.prog 156 (VS alg):=by
 intro args hp r h;unfold VS at h;split at h<;>cases h
 rename_i id n l
 revert l;intro(l:List Upl)
 simp only [CT.Good,zi];intro hneed;have hs:=hneed;have hf:=WR hs;generalize he:begC l id=re;generalize hl:begL l id=rl
 refine spcG zh mixed Tryz.func156 (by kernel_rfl) { zc1 with bare:=[58],keep:=some [0,1,4,5,6]} [zdH,zdG,zrV,zrU] (by kernel_rfl) ?_
 intro I X hI hX
 refine orcL ?_;go_invoke;refine orcS (by kernel_rfl) ?_
 simp only [zq,Nat.reduceAdd];subst hI;simp only [nrmA,nrmB,nrlB,reduceCtorEq,HO.pack.injEq,HO.obj.injEq];unfold begL at hl;rw [he] at hl;unfold begC at he;unfold xq upl0 at he hl;generalize l.getD (atU l id) ⟨0,0,[],[],0⟩=x at *
 (repeat' (first|refine ja ?_ ?_|intro _))<;>first|omega|exact jb|exact jc ‹False›|skip
 all_goals first
  |exact hf.1
  |((repeat(first|rewrite [if_pos (by first|omega|assumption|(simp only [*,or_self,or_true,true_or,or_false,false_or,jf,jg,jd,je,and_self,and_true,true_and];done)|(simp only [*];omega)|(simp [*];done)|(simp [*];omega))] at he|rewrite [if_neg (by first|omega|assumption|(simp only [*,or_self,or_true,true_or,or_false,false_or,jf,jg,jd,je,and_self,and_true,true_and];done)|(simp only [*];omega)|(simp [*];done)|(simp [*];omega))] at he));subst he;((repeat(first|rewrite [if_pos (by first|omega|assumption|(simp only [*,or_self,or_true,true_or,or_false,false_or,jf,jg,jd,je,and_self,and_true,true_and];done)|(simp only [*];omega)|(simp [*];done)|(simp [*];omega))] at hl|rewrite [if_neg (by first|omega|assumption|(simp only [*,or_self,or_true,true_or,or_false,false_or,jf,jg,jd,je,and_self,and_true,true_and];done)|(simp only [*];omega)|(simp [*];done)|(simp [*];omega))] at hl)));subst hl;first|rfl|omega)
def zoU:Know Tryz.prog:=⟨156,VS,zgH⟩
def zoT:Know Tryz.prog:=⟨156,fun I=>zy I (VS I),zf zgH⟩
def zfb (I:Alg) (args:List D) (hp:List HO):Option CT:=match args,hp with
 |[.v (.one (.ptr 0 0)),.v (.one (.p (.int .i64 id)))],[.pack [.obj 124 [(.row 1),(.p (.int .i64 n))],.row .upl 81 l]]=>(fun(l:List Upl) (n id:Int)=>(some (.one ⟨I.hid (zQ l n),(.ret (.v (.one (.p (.int .i64 (I.hid ((endC l id)))))))),[.pack [.obj 124 [(.row 1),(.p (.int .i64 n))],.row .upl 81 (I.hid ((endL l id)))]]⟩):Option CT)) l n id
 |_,_=>none
theorem zoP:zx Tryz.prog 157 (zfb alg):=by
 intro args hp r h;unfold zfb at h;split at h<;>cases h
 rename_i id n l
 revert l;intro(l:List Upl)
 simp only [CT.Good,zi];intro hneed;have hs:=hneed;have hf:=WR hs;generalize he:endC l id=re;generalize hl:endL l id=rl
 refine spcG zh mixed Tryz.func157 (by kernel_rfl) { zc1 with bare:=[58],keep:=some [0,1,4,5,6]} [zdH,zdG] (by kernel_rfl) ?_
 intro I X hI hX
 refine orcL ?_;go_invoke;refine orcS (by kernel_rfl) ?_
 simp only [zq,Nat.reduceAdd];subst hI;simp only [nrmA,nrmB,nrlB,reduceCtorEq,HO.pack.injEq,HO.obj.injEq];unfold endL at hl;rw [he] at hl;unfold endC at he;unfold xq upl0 at he hl;generalize l.getD (atU l id) ⟨0,0,[],[],0⟩=x at *
 (repeat' (first|refine ja ?_ ?_|intro _))<;>first|omega|exact jb|exact jc ‹False›|skip
 all_goals first
  |exact hf.1
  |((repeat(first|rewrite [if_pos (by first|omega|assumption|(simp only [*,or_self,or_true,true_or,or_false,false_or,jf,jg,jd,je,and_self,and_true,true_and];done)|(simp only [*];omega)|(simp [*];done)|(simp [*];omega))] at he|rewrite [if_neg (by first|omega|assumption|(simp only [*,or_self,or_true,true_or,or_false,false_or,jf,jg,jd,je,and_self,and_true,true_and];done)|(simp only [*];omega)|(simp [*];done)|(simp [*];omega))] at he));subst he;((repeat(first|rewrite [if_pos (by first|omega|assumption|(simp only [*,or_self,or_true,true_or,or_false,false_or,jf,jg,jd,je,and_self,and_true,true_and];done)|(simp only [*];omega)|(simp [*];done)|(simp [*];omega))] at hl|rewrite [if_neg (by first|omega|assumption|(simp only [*,or_self,or_true,true_or,or_false,false_or,jf,jg,jd,je,and_self,and_true,true_and];done)|(simp only [*];omega)|(simp [*];done)|(simp [*];omega))] at hl)));subst hl;first|rfl|omega)
def zvb:Know Tryz.prog:=⟨157,zfb,zoP⟩
def zva:Know Tryz.prog:=⟨157,fun I=>zy I (zfb I),zf zoP⟩
def zaA (I:Alg) (args:List D) (hp:List HO):Option CT:=match args,hp with
 |[.v (.one (.ptr 0 0))],[.pack [.obj 124 [(.row 1),(.p (.int .i64 n))],.row .upl 81 l]]=>(fun(l:List Upl) (n:Int)=>(some (.one ⟨I.hid (0≤n∧n≤1000000),(.ret (.v (.one (.p (.int .i64 (I.hid ((n+1)))))))),[.pack [.obj 124 [(.row 1),(.p (.int .i64 n))],.row .upl 81 l]]⟩):Option CT)) l n
 |_,_=>none
theorem zkU:zx Tryz.prog 217 (zaA alg):=by
 intro args hp r h;unfold zaA at h;split at h<;>cases h
 rename_i n l
 revert l;intro(l:List Upl)
 simp only [CT.Good,zi];intro hneed
 refine spcG zh mixed Tryz.func217 (by kernel_rfl) { zc1 with keep:=some [0,2]} [] (by kernel_rfl) ?_
 intro I X hI hX
 refine orcL ?_;go_invoke;refine orcS (by kernel_rfl) ?_
 simp only [zq,Nat.reduceAdd];subst hI;simp only [nrmA,nrmB]
 (repeat' (first|refine ja ?_ ?_|intro _))<;>first|omega|exact jb|exact jc ‹False›|skip
def zsj:Know Tryz.prog:=⟨217,zaA,zkU⟩
def zsi:Know Tryz.prog:=⟨217,fun I=>zy I (zaA I),zf zkU⟩
def ze9 (I:Alg) (args:List D) (hp:List HO):Option CT:=match args,hp with
 |[],[]=>(fun(_:Unit)=>(some (.one ⟨I.hid (True),(.ret (.v (.one (.ptr 0 0)))),[.pack [.obj 124 [(.row 1),(.p (.int .i64 0))],.row .upl 81 (I.hid ([]))]]⟩):Option CT)) ()
 |_,_=>none
theorem zoM:zx Tryz.prog 42 (ze9 alg):=by
 intro args hp r h;unfold ze9 at h;split at h<;>cases h
 simp only [CT.Good,zi];intro _
 refine spcG zh mixed Tryz.func42 (by kernel_rfl) { zc1 with keep:=some [0]} [] (by kernel_rfl) ?_
 intro I X hI hX
 refine orcL ?_;go_invoke;refine orcS (by kernel_rfl) ?_
 simp only [zq,Nat.reduceAdd];trivial
def zu9:Know Tryz.prog:=⟨42,ze9,zoM⟩
def zu8:Know Tryz.prog:=⟨42,fun I=>zy I (ze9 I),zf zoM⟩
def getB (l:List Upl) (id:Int):Bool:=decide (atU l id<l.length)
def getU (l:List Upl) (id:Int):Upl:=if atU l id<l.length then xq l id else upl0
theorem zt2 (l:List Upl) (n id:Int) (hneed:zQ l n):Spc Tryz.prog 28 [.v (.one (.ptr 0 0)),.v (.one (.p (.int .i64 id)))] [.obj 124 [(.row 1),(.p (.int .i64 n))],.row .upl 81 l] (.ret (.tup [(.agg [(.p (.int .i64 ((getU l id).id))),(.p (.int .i64 ((getU l id).size))),(.p (.str ((getU l id).note))),(.p (.list .byte ((getU l id).bytes))),(.p (.int .i64 ((getU l id).sent)))]),(.one (.p (.bool ((getB l id)))))])) [.obj 124 [(.row 1),(.p (.int .i64 n))],.row .upl 81 l]:=by
 have hs:=hneed;have hf:=WR hs;generalize he:getU l id=re;obtain⟨a,b,c,d,e⟩:=re;generalize hl:getB l id=rl
 refine spcG zh mixed Tryz.func28 (by kernel_rfl) { zc1 with flat:=true,bare:=[58],keep:=some [0,1,4,5,6,7,8]} [zbm,TS,zdH,zdG] (by kernel_rfl) ?_
 intro I X hI hX
 refine orcL ?_;go_invoke;refine orcS (by kernel_rfl) ?_
 simp only [zq,Nat.reduceAdd];subst hI;simp only [nrmA,nrmB,nrlB,reduceCtorEq];unfold getU at he;unfold getB at hl;unfold xq upl0 at he;have hx:atU l id<l.length→_:=fun h=>(hs.each _ (rX h)).bl;unfold xq upl0 at hx;generalize l.getD (atU l id) ⟨0,0,[],[],0⟩=x at *
 by_cases h:atU l id<l.length
 · rw [if_pos h] at he
   rw [decide_eq_true h] at hl;subst he;subst hl;have hx:=hx h
   (repeat' (first|refine ja ?_ ?_|intro _))<;>first|omega|exact jb|exact jc ‹False›|skip
   all_goals first|exact hf.1|rfl
 · rw [if_neg h] at he
   rw [decide_eq_false h] at hl;cases he;subst hl
   (repeat' (first|refine ja ?_ ?_|intro _))<;>first|omega|exact jb|exact jc ‹False›|skip
   all_goals first|exact hf.1|rfl|assumption
def zaE (I:Alg) (args:List D) (hp:List HO):Option CT:=match args,hp with
 |[.v (.one (.ptr 0 0)),.v (.one (.p (.int .i64 id)))],[.obj 124 [(.row 1),(.p (.int .i64 n))],.row .upl 81 l]=>(fun(l:List Upl) (n id:Int)=>(some (.one ⟨I.hid (zQ l n),(.ret (.tup [(.agg [(.p (.int .i64 (I.hid ((getU l id).id)))),(.p (.int .i64 (I.hid ((getU l id).size)))),(.p (.str (I.hid ((getU l id).note)))),(.p (.list .byte (I.hid ((getU l id).bytes)))),(.p (.int .i64 (I.hid ((getU l id).sent))))]),(.one (.p (.bool (I.hid ((getB l id))))))])),[.obj 124 [(.row 1),(.p (.int .i64 n))],.row .upl 81 l]⟩):Option CT)) l n id
 |_,_=>none
theorem zkW:zx Tryz.prog 28 (zaE alg):=by
 intro args hp r h;unfold zaE at h
 split at h
 · cases h;exact fun hn=>zt2 _ _ _ hn
 · cases h
def Xn:Know Tryz.prog:=⟨28,zaE,zkW⟩
def Xm:Know Tryz.prog:=⟨28,fun I=>zy I (zaE I),zf zkW⟩
theorem zxM (l:List Upl) (n id:Int) (hneed:zQ l n):Spc Tryz.prog 28 [.v (.one (.ptr 0 0)),.v (.one (.p (.int .i64 id)))] [.pack [.obj 124 [(.row 1),(.p (.int .i64 n))],.row .upl 81 l]] (.ret (.tup [(.agg [(.p (.int .i64 ((getU l id).id))),(.p (.int .i64 ((getU l id).size))),(.p (.str ((getU l id).note))),(.p (.list .byte ((getU l id).bytes))),(.p (.int .i64 ((getU l id).sent)))]),(.one (.p (.bool ((getB l id)))))])) [.pack [.obj 124 [(.row 1),(.p (.int .i64 n))],.row .upl 81 l]]:=
 Spc.packed (ex:=[]) (zt2 l n id hneed) rfl (by simp) rfl
def zfa (I:Alg) (args:List D) (hp:List HO):Option CT:=match args,hp with
 |[.v (.one (.ptr 0 0)),.v (.one (.p (.int .i64 id)))],[.pack [.obj 124 [(.row 1),(.p (.int .i64 n))],.row .upl 81 l]]=>(fun(l:List Upl) (n id:Int)=>(some (.one ⟨I.hid (zQ l n),(.ret (.tup [(.agg [(.p (.int .i64 (I.hid ((getU l id).id)))),(.p (.int .i64 (I.hid ((getU l id).size)))),(.p (.str (I.hid ((getU l id).note)))),(.p (.list .byte (I.hid ((getU l id).bytes)))),(.p (.int .i64 (I.hid ((getU l id).sent))))]),(.one (.p (.bool (I.hid ((getB l id))))))])),[.pack [.obj 124 [(.row 1),(.p (.int .i64 n))],.row .upl 81 l]]⟩):Option CT)) l n id
 |_,_=>none
theorem zoO:zx Tryz.prog 28 (zfa alg):=by
 intro args hp r h;unfold zfa at h
 split at h
 · cases h;exact fun hn=>zxM _ _ _ hn
 · cases h
def Rf:Know Tryz.prog:=⟨28,zfa,zoO⟩
def S9:Know Tryz.prog:=⟨28,fun I=>zy I (zfa I),zf zoO⟩
theorem zvJ {l:List Upl} (h:l.Pairwise fun a b=>a.id<b.id) {i:Nat} (hi:i<l.length):getU l (l.getD i ⟨0,0,[],[],0⟩).id=l.getD i ⟨0,0,[],[],0⟩:=by
 have e:l.getD i ⟨0,0,[],[],0⟩=l[i]:=by simp [hi]
 have ha:=zyb h hi;rw [e,getU,ha,if_pos hi,xq,ha]
 simp [hi]
theorem zoN (l:List Upl) (n:Int) (hneed:zQ l n):Spc Tryz.prog 17 [.v (.one (.ptr 0 0))] [.obj 124 [(.row 1),(.p (.int .i64 n))],.row .upl 81 l] (.ret (.v (.one (.row 2)))) [.obj 124 [(.row 1),(.p (.int .i64 n))],.row .upl 81 l,.row .upl 81 l]:=by
 have hs:=hneed;have hf:=WR hs
 refine spcG zh mixed Tryz.func17 (by kernel_rfl) { zc1 with flat:=true,bare:=[28],nr:=[3],keep:=some [0,2,3,5,6,11,12,13]} [Xn,Xm,Rf,S9] (by kernel_rfl) ?_
 intro I X hI hX
 refine orcL ?_;go_invoke;refine orcS (by kernel_rfl) ?_
 simp only [zq,Nat.reduceAdd]
 refine zB hI zh mixed [Xn,Xm,Rf,S9] hX [0,3,11,12,13] (fun(g:Nat × List Upl)=>match g with|(i,o)=>i≤l.length∧o=l.take i) (fun(g:Nat × List Upl)=>match g with|(i,o)=>⟨[(0,.v (.one (.ptr 0 0))),(3,.v (.one (.row 2))),(11,.v (.one (.row 1))),(12,.v (.one (.p (.int .i64 ((I.len (α:=Upl) l)))))),(13,.v (.one (.p (.int .i64 i))))],[.obj 124 [(.row 1),(.p (.int .i64 n))],.row .upl 81 l,.row .upl 81 o],30,none⟩) (fun(g:Nat × List Upl)=>match g with|(i,o)=>l.length - i) (0,[]) (by kernel_rfl) (by kernel_rfl) ?_ ?_
 · exact⟨jM _,rfl⟩
 rintro⟨i,o⟩ ⟨h1,h2⟩ A hA;simp only at hA
 refine orcL ?_;go_invoke;refine orcS (by kernel_rfl) ?_
 simp only [zq,Nat.reduceAdd];subst hI;simp only [nrmA,nrmB,nrlB,reduceCtorEq];have hx:i<l.length→_:=zvJ hs.srt
 have hy:i<l.length→l.take (i+1)=l.take i++[l.getD i ⟨0,0,[],[],0⟩]:=fun h=>by rw [jB h];simp [h]
 have hw: ¬ i<l.length→o=l:=fun h=>by rw [h2,jq (by omega)]
 have hol:o.length≤i:=by rw [h2,jv];omega
 refine⟨fun c=> ?_,fun c=>hw (by omega)⟩
 rw [hx (by omega)]
 have hy:=hy (by omega)
 generalize l.getD i ⟨0,0,[],[],0⟩=x at *;simp only [jh,ji]
 (repeat' (first|refine ja ?_ ?_|intro _))<;>first|omega|exact jb|exact jc ‹False›|skip
 all_goals first
  |exact hs
  |exact hA (i+1,_) ⟨by simp only;omega,by simp only;rw [hy,h2]⟩ (by simp only;omega)
def VR (I:Alg) (args:List D) (hp:List HO):Option CT:=match args,hp with
 |[.v (.one (.ptr 0 0))],[.obj 124 [(.row 1),(.p (.int .i64 n))],.row .upl 81 l]=>(fun(l:List Upl) (n:Int)=>(some (.one ⟨I.hid (zQ l n),(.ret (.v (.one (.row 2)))),[.obj 124 [(.row 1),(.p (.int .i64 n))],.row .upl 81 l,.row .upl 81 l]⟩):Option CT)) l n
 |_,_=>none
theorem zgG:zx Tryz.prog 17 (VR alg):=by
 intro args hp r h;unfold VR at h
 split at h
 · cases h;exact fun hn=>zoN _ _ hn
 · cases h
def VQ:Know Tryz.prog:=⟨17,VR,zgG⟩
def VP:Know Tryz.prog:=⟨17,fun I=>zy I (VR I),zf zgG⟩
theorem zww (l:List Upl) (n:Int) (hneed:zQ l n):Spc Tryz.prog 17 [.v (.one (.ptr 0 0))] [.pack [.obj 124 [(.row 1),(.p (.int .i64 n))],.row .upl 81 l]] (.ret (.v (.one (.row 1)))) [.pack [.obj 124 [(.row 1),(.p (.int .i64 n))],.row .upl 81 l],.row .upl 81 l]:=
 Spc.packed (os':=[_,_]) (ex:=[_]) (zoN l n hneed) rfl (by simp) rfl
def zaD (I:Alg) (args:List D) (hp:List HO):Option CT:=match args,hp with
 |[.v (.one (.ptr 0 0))],[.pack [.obj 124 [(.row 1),(.p (.int .i64 n))],.row .upl 81 l]]=>(fun(l:List Upl) (n:Int)=>(some (.one ⟨I.hid (zQ l n),(.ret (.v (.one (.row 1)))),[.pack [.obj 124 [(.row 1),(.p (.int .i64 n))],.row .upl 81 l],.row .upl 81 l]⟩):Option CT)) l n
 |_,_=>none
theorem zkV:zx Tryz.prog 17 (zaD alg):=by
 intro args hp r h;unfold zaD at h
 split at h
 · cases h;exact fun hn=>zww _ _ hn
 · cases h
def zaC:Know Tryz.prog:=⟨17,zaD,zkV⟩
def zaB:Know Tryz.prog:=⟨17,fun I=>zy I (zaD I),zf zkV⟩
def zaG (I:Alg) (args:List D) (hp:List HO):Option CT:=match args,hp with
 |[.v (.one (.ptr 0 0))],[.pack [.obj 124 [(.row 1),(.p (.int .i64 n))],.row .upl 81 l]]=>(fun(l:List Upl) (n:Int)=>(some (.one ⟨I.hid (zQ l n),(.ret (.v (.one (.ptr 1 0)))),[.pack [.obj 124 [(.row 1),(.p (.int .i64 n))],.row .upl 81 l],.pack [.obj 124 [(.row 1),(.p (.int .i64 n))],.row .upl 81 l]]⟩):Option CT)) l n
 |_,_=>none
theorem zkY:zx Tryz.prog 148 (zaG alg):=by
 intro args hp r h;unfold zaG at h;split at h<;>cases h
 rename_i n l
 revert l;intro(l:List Upl)
 simp only [CT.Good,zi];intro hneed
 refine spcG zh mixed Tryz.func148 (by kernel_rfl) { zc1 with keep:=some [0,2]} [VQ,VP,zaC,zaB] (by kernel_rfl) ?_
 intro I X hI hX
 refine orcL ?_;go_invoke;refine orcS (by kernel_rfl) ?_
 simp only [zq,Nat.reduceAdd];subst hI;simp only [nrmA,nrmB,nrlB,reduceCtorEq,HO.pack.injEq,HO.obj.injEq];exact⟨hneed,hneed⟩
def zsn:Know Tryz.prog:=⟨148,zaG,zkY⟩
def zsm:Know Tryz.prog:=⟨148,fun I=>zy I (zaG I),zf zkY⟩
def zao (I:Alg) (args:List D) (hp:List HO):Option CT:=match args,hp with
 |[.v (.agg [(.p (.int .i64 a)),(.p (.int .i64 b)),(.p (.str m)),(.p (.list .byte y)),(.p (.int .i64 t))]),.v (.one (.ptr 0 0))],[.pack [.obj 3 [(.p (.int .i64 d))]]]=>(fun(a b:Int) (m y:Str) (t d:Int)=>(some (.one ⟨I.hid (True),(.ret (.v (.one (.p (.bool (I.hid ((a == d)))))))),[.pack [.obj 3 [(.p (.int .i64 d))]]]⟩):Option CT)) a b m y t d
 |_,_=>none
theorem zkE:zx Tryz.prog 204 (zao alg):=by
 intro args hp r h;unfold zao at h;split at h<;>cases h
 rename_i a b m y t d;simp only [CT.Good,zi];intro _
 refine spcG zh mixed Tryz.func204 (by kernel_rfl) { keep:=some [0,1,2,3]} [] (by kernel_rfl) ?_
 intro I X hI hX
 refine orcL ?_;go_invoke;refine orcS (by kernel_rfl) ?_
 simp only [zq,Nat.reduceAdd];subst hI;simp only [nrmA,nrmB,nrlB,reduceCtorEq,HO.pack.injEq,HO.obj.injEq]
def VH:Know Tryz.prog:=⟨204,zao,zkE⟩
def zr8:Know Tryz.prog:=⟨204,fun I=>zy I (zao I),zf zkE⟩
def zan (I:Alg) (args:List D) (hp:List HO):Option CT:=match args,hp with
 |[.v (.one (.p (.list .upl l))),.v (.one (.fn 204 [.ptr 0 0]))],[.pack [.obj 3 [(.p (.int .i64 d))]]]=>(fun(l:List Upl) (d:Int)=>(some (.one ⟨I.hid (l.length≤1000000),(.ret (.v (.one (.p (.int .i64 (I.hid ((ixU l d)))))))),[.pack [.obj 3 [(.p (.int .i64 d))]]]⟩):Option CT)) l d
 |_,_=>none
theorem zkD:zx Tryz.prog 100 (zan alg):=by
 intro args hp r h;unfold zan at h;split at h<;>cases h
 rename_i l d
 revert l;intro(l:List Upl)
 simp only [CT.Good,zi];intro hneed
 refine spcG zh mixed Tryz.func100 (by kernel_rfl) { keep:=some [0,1,4,5,7,8]} [VH,SS,SQ] (by kernel_rfl) ?_
 intro I X hI hX
 refine orcL ?_;go_invoke;refine orcS (by kernel_rfl) ?_
 simp only [zq,Nat.reduceAdd]
 refine zB hI zh mixed [VH,SS,SQ] hX [0,1,7,8] (fun(i:Nat)=>i≤l.length∧i≤atU l d) (fun(i:Nat)=>⟨[(0,.v (.one (.p (.list .upl l)))),(1,.v (.one (.fn 204 [.ptr 0 0]))),(7,.v (.one (.p (.int .i64 ((I.len (α:=Upl) l)))))),(8,.v (.one (.p (.int .i64 i))))],[.pack [.obj 3 [(.p (.int .i64 d))]]],19,none⟩) (fun(i:Nat)=>l.length - i) 0 (by kernel_rfl) (by kernel_rfl) ?_ ?_
 · exact⟨jM _,jM _⟩
 rintro i ⟨h1,h2⟩ A hA
 refine orcL ?_;go_invoke;refine orcS (by kernel_rfl) ?_
 simp only [zq,Nat.reduceAdd];subst hI;simp only [nrmA,nrmB];have hx:=fun h=>zmM (l:=l) (id:=d) (i:=i) h h2;have hle:=zrz l d;have e0:(⟨0,0,[],[],0⟩:Upl)=upl0:=rfl;simp only [e0];unfold ixU
 (repeat' (first|refine ja ?_ ?_|intro _))<;>first|omega|exact jb|exact jc ‹False›|skip
 all_goals first
  |(have h3:=hx (by omega);rw [if_pos (by assumption)] at h3;rw [if_pos (by omega),h3])
  |(have h3:=hx (by omega);rw [if_neg (by assumption)] at h3;exact hA (i+1) ⟨by omega,h3⟩ (by omega))
  |(rw [if_neg (by omega)])
def zkC:Know Tryz.prog:=⟨100,zan,zkD⟩
def zkB:Know Tryz.prog:=⟨100,fun I=>zy I (zan I),zf zkD⟩
def notU (d:Int) (u:Upl):Bool:= !(u.id == d)
def zaq (I:Alg) (args:List D) (hp:List HO):Option CT:=match args,hp with
 |[.v (.one (.row 0)),.v (.one (.fn 204 [.ptr 1 0]))],[.row .upl 81 l,.pack [.obj 3 [(.p (.int .i64 d))]]]=>(fun(l:List Upl) (d:Int)=>(some (.one ⟨I.hid (l.length≤1000000),(.ret (.v (.one (.row 2)))),[.gone,.pack [.obj 3 [(.p (.int .i64 d))]],.row .upl 81 (I.hid ((l.filter (notU d))))]⟩):Option CT)) l d
 |_,_=>none
theorem zkF:zx Tryz.prog 203 (zaq alg):=by
 intro args hp r h;unfold zaq at h;split at h<;>cases h
 rename_i l d
 revert l;intro(l:List Upl)
 simp only [CT.Good,zi];intro hneed
 refine spcG zh mixed Tryz.func203 (by kernel_rfl) { mv:=[0],cut:=[4],keep:=some [0,1,4,5,6,7]} [VH,SS,SQ,zkC,zkB] (by kernel_rfl) ?_
 intro I X hI hX
 refine orcL ?_;go_invoke;refine orcS (by kernel_rfl) ?_
 simp only [zq,Nat.reduceAdd]
 have hfd: ∀ i,i≤atU l d→(l.take i).filter (notU d)=l.take i:=fun i hi=>List.filter_eq_self.2 fun u hu=>by
  obtain⟨j,hj⟩:=List.getElem?_of_mem hu;rw [jD] at hj
  split at hj
  · rename_i hji
    obtain⟨hjl,he⟩:=jl.1 hj
    have:=List.not_of_lt_findIdx (p:=fun u:Upl=>u.id == d) (xs:=l) (i:=j) (by unfold atU at hi;omega)
    rw [← he]
    simpa [notU] using this
  · cases hj
 by_cases hk:atU l d<l.length
 · have hix:=zqb hk
   have e1:I.hid (ixU l d)=((atU l d:Nat):Int):=by subst hI;exact hix
   have e2:I.add ((atU l d:Nat):Int) 1=((atU l d+1:Nat):Int):=by subst hI;rfl
   rw [e1,e2]
   have hst:(l.take (atU l d+1)).filter (notU d)=l.take (atU l d):=by
    rw [jB hk,List.filter_append,hfd _ (jL _)];have:=zeU hk;rw [vM hk] at this
    simp [notU,this]
   have hu0:=zeU hk;generalize atU l d=k at *
   refine⟨by subst hI;exact hneed,fun h=> ?_,fun _=>⟨by subst hI;rw [Qh,zfH,zfI];omega,?_⟩⟩
   · subst hI
     simp only [nrmA,nrmB] at h;omega
   refine zB hI zh mixed [VH,SS,SQ,zkC,zkB] hX [0,1,5,6] (fun(g:Nat × Nat × List Upl)=>match g with|(i,j,c)=>i<j∧j≤l.length∧c.length=l.length∧c.take i=(l.take j).filter (notU d)∧c.drop j=l.drop j) (fun(g:Nat × Nat × List Upl)=>match g with|(i,j,c)=>⟨[(0,.v (.one (.row 2))),(1,.v (.one (.fn 204 [.ptr 1 0]))),(5,.v (.one (.p (.int .i64 i)))),(6,.v (.one (.p (.int .i64 j))))],[.gone,.pack [.obj 3 [(.p (.int .i64 d))]],.row .upl 81 c],42,none⟩) (fun(g:Nat × Nat × List Upl)=>match g with|(i,j,c)=>l.length - j) (k,k+1,l) (by kernel_rfl) (by kernel_rfl) ?_ ?_
   · exact⟨by omega,by omega,rfl,hst.symm,rfl⟩
   rintro⟨i,j,c⟩ ⟨h1,h2,h3,h4,h5⟩ A hA;simp only at hA h1 h2 h3 h4 h5
   refine orcL ?_;go_invoke;refine orcS (by kernel_rfl) ?_
   simp only [zq,Nat.reduceAdd];subst hI;simp only [nrmA,nrmB,nrlB,reduceCtorEq]
   have hx:j<l.length→c.getD j ⟨0,0,[],[],0⟩=l.getD j ⟨0,0,[],[],0⟩:=fun h=>by
    have e:=congrArg (fun m:List Upl=>m[0]?) h5;simp only [jG,Nat.add_zero] at e;simp only [jH,e]
   have hf:j<l.length→(l.take (j+1)).filter (notU d)=(l.take j).filter (notU d)++(if notU d (l.getD j ⟨0,0,[],[],0⟩) then [l.getD j ⟨0,0,[],[],0⟩] else []):=fun h=>by
    rw [jB h,List.filter_append]
    simp [h,List.filter_cons]
   have hdr: ∀ c':List Upl,c'.drop j=l.drop j→c'.drop (j+1)=l.drop (j+1):=fun c' h=>by
    have:=congrArg (List.drop 1) h
    simpa [List.drop_drop] using this
   have hend: ¬ j<l.length→c.take i=l.filter (notU d):=fun h=>by rw [h4,jq (by omega)]
   rw [show(c.length:Int)=(l.length:Int) by rw [h3]]
   have hset: ∀ u:Upl,i<c.length→(c.set i u).take (i+1)=c.take i++[u]:=fun u h=>by
    rw [jB (by rw [List.length_set];exact h),List.getElem_set_self,List.take_set_of_le (jL _)]
   have hsd: ∀ u:Upl,(c.set i u).drop j=l.drop j:=fun u=>by rw [List.drop_set_of_lt h1,h5]
   refine⟨fun c1=> ?_,fun c1=> ?_⟩
   · have hj:j<l.length:=by omega
     rw [hx hj];have hf:=hf hj;generalize l.getD j ⟨0,0,[],[],0⟩=x at *
     (repeat' (first|refine ja ?_ ?_|intro _))<;>first|omega|exact jb|exact jc ‹False›|skip
     · rename_i hne
       refine hA (i+1,j+1,c.set i x) ⟨by simp only;omega,by simp only;omega,by simp only [List.length_set];exact h3,?_,hdr _ (hsd x)⟩ (by simp only;omega)
       simp only
       rw [hset x (by omega),hf,if_pos (by simp [notU,hne]),h4]
     · rename_i heq
       refine hA (i,j+1,c) ⟨by simp only;omega,by simp only;omega,h3,?_,hdr _ h5⟩ (by simp only;omega)
       simp only
       rw [hf,if_neg (by simp [notU,heq]),List.append_nil,h4]
   · have he:=hend (by omega)
     have hl:(c.take i).length=i:=by rw [jv];omega
     (repeat' (first|refine ja ?_ ?_|intro _))<;>first|omega|exact jb|exact jc ‹False›|skip
     all_goals first
      |(simp only [jk,jv,List.length_replicate];omega)
      |(rw [List.take_append_of_le_length (by omega),List.take_take,Nat.min_self,he])
 · have hix:=zqc hk
   have e1:I.hid (ixU l d)=(-1:Int):=by subst hI;exact hix
   rw [e1]
   have hall:l.filter (notU d)=l:=by
    have:=hfd l.length (by have:=zrz l d;omega)
    rwa [List.take_length] at this
   rw [hall]
   refine⟨by subst hI;exact hneed,fun _=>⟨trivial,rfl⟩,fun h=> ?_⟩
   subst hI
   simp [alg] at h
def zsa:Know Tryz.prog:=⟨203,zaq,zkF⟩
def zr9:Know Tryz.prog:=⟨203,fun I=>zy I (zaq I),zf zkF⟩
def zaF (I:Alg) (args:List D) (hp:List HO):Option CT:=match args,hp with
 |[.v (.one (.ptr 0 0)),.v (.one (.p (.int .i64 id)))],[.pack [.obj 124 [(.row 1),(.p (.int .i64 n))],.row .upl 81 l]]=>(fun(l:List Upl) (n id:Int)=>(some (.one ⟨I.hid (zQ l n),(.ret (.v (.one (.p (.int .i64 (I.hid ((droC l id)))))))),[.pack [.obj 124 [(.row 1),(.p (.int .i64 n))],.row .upl 81 (I.hid ((droL l id)))]]⟩):Option CT)) l n id
 |_,_=>none
theorem zkX:zx Tryz.prog 155 (zaF alg):=by
 intro args hp r h;unfold zaF at h;split at h<;>cases h
 rename_i id n l
 revert l;intro(l:List Upl)
 simp only [CT.Good,zi];intro hneed;have hs:=hneed;have hf:=WR hs;have hfl:l.filter (notU id)=droL l id:=zqK hs.srt id;generalize he:droC l id=re;generalize hl:droL l id=rl at hfl
 refine spcG zh mixed Tryz.func155 (by kernel_rfl) { zc1 with bare:=[58],keep:=some [0,1,3,4,6]} [zdH,zdG,VH,zr8,zsa,zr9] (by kernel_rfl) ?_
 intro I X hI hX
 refine orcL ?_;go_invoke;refine orcS (by kernel_rfl) ?_
 simp only [zq,Nat.reduceAdd];subst hI;simp only [nrmA,nrmB,nrlB,reduceCtorEq,HO.pack.injEq,HO.obj.injEq];unfold droC at he
 (repeat' (first|refine ja ?_ ?_|intro _))<;>first|omega|exact jb|exact jc ‹False›|skip
 all_goals first
  |exact hf.1
  |exact hfl
  |((repeat(first|rewrite [if_pos (by first|omega|assumption|(simp only [*,or_self,or_true,true_or,or_false,false_or,jf,jg,jd,je,and_self,and_true,true_and];done)|(simp only [*];omega)|(simp [*];done)|(simp [*];omega))] at he|rewrite [if_neg (by first|omega|assumption|(simp only [*,or_self,or_true,true_or,or_false,false_or,jf,jg,jd,je,and_self,and_true,true_and];done)|(simp only [*];omega)|(simp [*];done)|(simp [*];omega))] at he));subst he;rfl)
  |(rw [← hl];unfold droL;rw [List.eraseIdx_of_length_le (by omega)])
def zsl:Know Tryz.prog:=⟨155,zaF,zkX⟩
def zsk:Know Tryz.prog:=⟨155,fun I=>zy I (zaF I),zf zkX⟩
end Go.Proofs.YtkjepecoodjbmaaGreatDoor
namespace Go.Jrn
open Go Go.Ab
def sevF:Nat→Nat→Str
 |0,u=>[UInt8.ofNat u]
 |f+1,u=>if u<128 then [UInt8.ofNat u] else UInt8.ofNat (u % 128+128)::sevF f (u / 128)
def sev (u:Nat):Str:=sevF 9 u
theorem zgC: ∀ (f u:Nat),u<128 ^ (f+1)→∀ g,f≤g→sevF g u=sevF f u
 | 0,u,h,g,_=>by
   cases g with
   |zero=>rfl
   |succ g=>simp only [sevF];rw [if_pos (by simpa using h)]
 | f +1,u,h,g,hg=>by
   cases g with
   |zero=>omega
   | succ g=>
     rw [sevF,sevF]
     split
     · rfl
     · rw [zgC f (u / 128) (by rw [Nat.div_lt_iff_lt_mul (by omega)];rw [Nat.pow_succ] at h;exact h) g (by omega)]
theorem zoE {u:Nat} (h:u<128):sev u=[UInt8.ofNat u]:=by rw [sev,sevF,if_pos h]
theorem zu5 {u:Nat} (h:128≤u) (hu:u<128 ^ 9):sev u=UInt8.ofNat (u % 128+128)::sev (u / 128):=by
 rw [sev,sevF,if_neg (by omega),sev,zgC 8 (u / 128) (Nat.lt_of_le_of_lt (Nat.div_le_self _ _) hu) 9 (by omega)]
theorem Zf (u:Nat):1≤(sev u).length∧(sev u).length≤10:=by
 have h: ∀ f u,1≤(sevF f u).length∧(sevF f u).length≤f+1:=by
  intro f
  induction f with
  |zero=>intro u;exact⟨jL _,jL _⟩
  | succ f ih=>
    intro u;rw [sevF]
    split
    · simp
    · have:=ih (u / 128);simp;omega
 exact h 9 u
def numF (i u:Nat):Str→Int × Str × Bool
 |[]=>(0,[],false)
 | c::r=>if 5≤i then(0,[],false) else
   if c.toNat<128 then((u+c.toNat * 128 ^ i:Nat) - 1,r,decide (i=0∨0<c.toNat)) else numF (i+1) (u+c.toNat % 128 * 128 ^ i) r
def num (b:Str):Int × Str × Bool:=numF 0 0 b
def few (n:Int):Bool:=decide (-1≤n)&&decide (n<1073741824)
def mayM (e:Ent):Bool:=decide (1≤e.kind)&&decide (e.kind≤6)&&few e.id&&few e.n&&decide (e.text.length<1048576)
def enc3 (e:Ent):Str:=sev (e.kind+1).toNat++sev (e.id+1).toNat++sev (e.n+1).toNat++e.text
def encB (e:Ent):Str:=sev ((enc3 e).length+1)++enc3 e
def encM (e:Ent):Str:=if mayM e then encB e else []
def encC (e:Ent):Int:=if mayM e then 0 else 1
def three (b:Str):Option (Int × Int × Int × Str):=
 match num b with
 | (k,r,true)=>(match num r with
   | (i,r,true)=>(match num r with
     |(n,r,true)=>some (k,i,n,r)
     |_=>none)
   |_=>none)
 |_=>none
def oneX (b:Str):Ent × Str × Bool:=
 match num b with
 | (n,r,true)=>if n<0∨(r.length:Int)<n then(⟨0,0,0,[]⟩,[],false) else
   match three (r.take n.toNat) with
   |some (k,i,m,t)=>(⟨k,i,m,t⟩,r.drop n.toNat,mayM ⟨k,i,m,t⟩)
   |none=>(⟨0,0,0,[]⟩,[],false)
 |_=>(⟨0,0,0,[]⟩,[],false)
def oneM (b:Str):Option (Ent × Str):=if(oneX b).2.2 then some ((oneX b).1,(oneX b).2.1) else none
def decF:Nat→Str→List Ent × Str
 |0,b=>([],b)
 | f+1,b=>match oneM b with
   |some (e,r)=>(e::(decF f r).1,(decF f r).2)
   |none=>([],b)
def dec (b:Str):List Ent × Str:=decF b.length b
end Go.Jrn
namespace Go.Proofs.YtkjepecoodjbmaaGreatDoor
open Go Go.Sep Go.Ab Go.Jrn
set_option maxRecDepth 100000
theorem zx0: ∀ u:Nat,u<256→IntKind.u8.wrap ((BitVec.ofInt IntKind.u8.bits (u:Int)|||BitVec.ofInt IntKind.u8.bits 128).toNat:Int)=((u % 128+128:Nat):Int):=by decide+kernel
theorem wrap_u8 (u:Nat):IntKind.u8.wrap (u:Int)=((u % 256:Nat):Int):=by
 unfold IntKind.wrap
 simp only [show IntKind.u8.signed=false by decide,show IntKind.u8.bits=8 by decide,Bool.false_and,jd,if_false]
 show(u:Int) % 256=_
 omega
theorem wrap_i64 (u:Int) (h: -9223372036854775808≤u∧u≤9223372036854775807):IntKind.i64.wrap u=u:=ziO (k:=.i64) (by rw [Qh,zfH,zfI];exact h)
theorem wrap_u64 (u:Int) (h:0≤u∧u≤9223372036854775807):IntKind.u64.wrap u=u:=ziO (k:=.u64) (by
 rw [Qh,show IntKind.u64.min=0 by decide,show IntKind.u64.max=18446744073709551615 by decide];omega)
theorem shr7 (u:Nat):(u:Int).fdiv (2 ^ min (Int.toNat 7) 64)=((u / 128:Nat):Int):=by
 show(u:Int).fdiv 128=_
 rw [Int.fdiv_eq_ediv_of_nonneg _ (by decide)]
 omega
def zlj (I:Alg) (args:List D) (hp:List HO):Option CT:=match args,hp with
 |[.v (.one (.row 0)),.v (.one (.p (.int .i64 n)))],[.row .byte 5 l]=>(fun(l:Str) (n:Int)=>(some (.one ⟨I.hid (-1≤n∧n<34359738368∧l.length≤50000000),(.ret (.v (.one (.row 1)))),[.gone,.row .byte 5 (I.hid ((l++sev (n+1).toNat)))]⟩):Option CT)) l n
 |_,_=>none
theorem zt8:zx Tryz.prog 198 (zlj alg):=by
 intro args hp r h;unfold zlj at h;split at h<;>cases h
 rename_i n l;simp only [CT.Good,zi];intro hneed
 refine spcG zh mixed Tryz.func198 (by kernel_rfl) { mv:=[0],keep:=some [0,1,4,5]} [] (by kernel_rfl) ?_
 intro I X hI hX
 refine orcL ?_;go_invoke;refine orcS (by kernel_rfl) ?_
 simp only [zq,Nat.reduceAdd]
 refine⟨(by rw [hI];simp only [nrmA,nrmB];omega),?_⟩
 refine zB hI zh mixed [] hX [0,5] (fun(g:Str × Int)=>match g with|(m,u)=>0≤u∧u<68719476736∧m++sev u.toNat=l++sev (n+1).toNat) (fun(g:Str × Int)=>match g with|(m,u)=>⟨[(0,.v (.one (.row 1))),(5,.v (.one (.p (.int .u64 u))))],[.gone,.row .byte 5 m],24,none⟩) (fun(g:Str × Int)=>match g with|(m,u)=>u.toNat) (l,I.wrap .u64 (I.add n 1)) (by kernel_rfl) (by kernel_rfl) ?_ ?_
 · subst hI
   simp only;simp only [nrmA,nrmB]
   rw [wrap_u64 _ (by omega)]
   exact⟨by omega,by omega,rfl⟩
 rintro⟨m,u⟩ ⟨h0,h1,h2⟩ A hA;obtain⟨u,rfl⟩:=Int.eq_ofNat_of_zero_le h0;simp only [jJ] at h2;simp only at hA;generalize hu':(u:Int)=u' at *
 refine orcL ?_;go_invoke;refine orcS (by kernel_rfl) ?_
 simp only [zq,Nat.reduceAdd];subst hI hu';simp only [nrmA,nrmB];have hml:=congrArg List.length h2;have hs1:=Zf u;have hs2:=Zf (n+1).toNat;simp only [jk] at hml
 have hu8:u % 256 % 128=u % 128:=by omega
 rw [wrap_u8 u,zx0 _ (by omega),shr7,hu8,jJ,jJ]
 have h64:((IntKind.u64.bits:Nat):Int)=64:=by decide
 simp only [jh,ji,h64]
 (repeat' (first|refine ja ?_ ?_|intro _))<;>first|omega|exact jb|exact jc ‹False›|skip
 · have hb:=zu5 (u:=u) (by omega) (by omega)
   refine hA (m++[UInt8.ofNat (u % 128+128)],(u / 128:Nat)) ⟨by omega,by omega,?_⟩ (by simp only;omega)
   rw [jJ,← h2,hb,jo];rfl
 · rw [← h2,zoE (by omega),show u % 256=u by omega]
def zt7:Know Tryz.prog:=⟨198,zlj,zt8⟩
def zt6:Know Tryz.prog:=⟨198,fun I=>zy I (zlj I),zf zt8⟩
def zme (I:Alg) (args:List D) (hp:List HO):Option CT:=match args,hp with
 |[.v (.one (.p (.int .i64 n)))],[]=>(fun(n:Int)=>(some (.one ⟨I.hid (True),(.ret (.v (.one (.p (.bool (I.hid (few n))))))),[]⟩):Option CT)) n
 |_,_=>none
theorem zuz:zx Tryz.prog 238 (zme alg):=by
 intro args hp r h;unfold zme at h;split at h<;>cases h
 rename_i n;simp only [CT.Good,zi];intro _
 refine spcG zh mixed Tryz.func238 (by kernel_rfl) { keep:=some [0,2]} [] (by kernel_rfl) ?_
 intro I X hI hX
 refine orcL ?_;go_invoke;refine orcS (by kernel_rfl) ?_
 simp only [zq,Nat.reduceAdd];subst hI;simp only [nrmA,nrmB];unfold few
 (repeat' (first|refine ja ?_ ?_|intro _))<;>first|omega|exact jb|exact jc ‹False›|skip
 · simp [*]
 · simp [*]
def zxh:Know Tryz.prog:=⟨238,zme,zuz⟩
def zxg:Know Tryz.prog:=⟨238,fun I=>zy I (zme I),zf zuz⟩
def zlF (I:Alg) (args:List D) (hp:List HO):Option CT:=match args,hp with
 |[.v (.agg [(.p (.int .i64 k)),(.p (.int .i64 i)),(.p (.int .i64 n)),(.p (.list .byte t))])],[]=>(fun(k i n:Int) (t:Str)=>(some (.one ⟨I.hid (True),(.ret (.v (.one (.p (.bool (I.hid (mayM ⟨k,i,n,t⟩))))))),[]⟩):Option CT)) k i n t
 |_,_=>none
theorem zuq:zx Tryz.prog 197 (zlF alg):=by
 intro args hp r h;unfold zlF at h;split at h<;>cases h
 rename_i k i n t;simp only [CT.Good,zi];intro _
 refine spcG zh mixed Tryz.func197 (by kernel_rfl) { keep:=some [0,1,2,3]} [zxh,zxg] (by kernel_rfl) ?_
 intro I X hI hX
 refine orcL ?_;go_invoke;refine orcS (by kernel_rfl) ?_
 simp only [zq,Nat.reduceAdd];subst hI;simp only [nrmA,nrmB];unfold mayM
 (repeat' (first|refine ja ?_ ?_|intro _))<;>first|omega|exact jb|exact jc ‹False›|skip
 all_goals simp [*]<;>omega
def zup:Know Tryz.prog:=⟨197,zlF,zuq⟩
def zuo:Know Tryz.prog:=⟨197,fun I=>zy I (zlF I),zf zuq⟩
end Go.Proofs.YtkjepecoodjbmaaGreatDoor
namespace Go.Proofs.YtkjepecoodjbmaaGreatDoor
open Go Go.Sep Go.Ab Go.Jrn
set_option maxRecDepth 100000
def pre3 (k i n:Int):Nat→Str
 |0=>[]
 |1=>sev (k+1).toNat
 |2=>sev (k+1).toNat++sev (i+1).toNat
 |_=>sev (k+1).toNat++sev (i+1).toNat++sev (n+1).toNat
def TL (I:Alg) (args:List D) (hp:List HO):Option CT:=match args,hp with
 |[.v (.agg [(.p (.int .i64 k)),(.p (.int .i64 i)),(.p (.int .i64 n)),(.p (.list .byte t))])],[]=>(fun(k i n:Int) (t:Str)=>(some (.one ⟨I.hid (True),(.ret (.tup [(.one (.row 0)),(.one (.p (.int .i64 (I.hid (encC ⟨k,i,n,t⟩)))))])),[.row .byte 5 (I.hid ((encM ⟨k,i,n,t⟩)))]⟩):Option CT)) k i n t
 |_,_=>none
theorem zis:zx Tryz.prog 149 (TL alg):=by
 intro args hp r h;unfold TL at h;split at h<;>cases h
 rename_i k i n t;simp only [CT.Good,zi];intro _
 refine spcG zh mixed Tryz.func149 (by kernel_rfl) { nr:=[4],own:=[198],keep:=some [0,1,2,3,4,6,16,17,18]} [zt7,zt6,zup,zuo] (by kernel_rfl) ?_
 intro I X hI hX
 refine orcL ?_;go_invoke;refine orcS (by kernel_rfl) ?_
 simp only [zq,Nat.reduceAdd]
 refine⟨(by rw [hI];trivial),fun hm=> ?_,fun hm=> ?_⟩
 · subst hI
   simp only [nrmA,nrmB,nrlB,reduceCtorEq] at hm;simp only [nrmA,nrmB,nrlB,reduceCtorEq];simp only [encC,encM,hm,jd,if_false];exact⟨trivial,trivial⟩
 rw [hI] at hm;simp only [nrmA,nrmB] at hm;have hmay:=hm;simp only [mayM,few,jK,decide_eq_true_eq] at hmay;obtain⟨⟨⟨⟨m1,m2⟩,m3,m4⟩,m5,m6⟩,m7⟩:=hmay;simp only [encC,encM,hm,if_true];generalize hr:encB ⟨k,i,n,t⟩=r
 refine zB hI zh mixed [zt7,zt6,zup,zuo] hX [1,4,16,17,18] (fun(g:Nat × Str)=>match g with|(j,m)=>j≤3∧m=pre3 k i n j) (fun(g:Nat × Str)=>match g with|(j,m)=>⟨[(1,.v (.one (.ptr 0 0))),(4,.v (.one (.row 1))),(16,.v (.one (.row 2))),(17,.v (.one (.p (.int .i64 ((I.len (α:=Int) [k,i,n])))))),(18,.v (.one (.p (.int .i64 j))))],[.pack [.obj 182 [(.p (.int .i64 k)),(.p (.int .i64 i)),(.p (.int .i64 n)),(.p (.list .byte t))]],.row .byte 5 m,.row .int 3 ([k,i,n])],35,none⟩) (fun(g:Nat × Str)=>match g with|(j,m)=>3 - j) (0,[]) (by kernel_rfl) (by kernel_rfl) ?_ ?_
 · exact⟨jM _,rfl⟩
 rintro⟨j,m⟩ ⟨hj,hjm⟩ A hA;simp only at hA
 refine orcL ?_;go_invoke;refine orcS (by kernel_rfl) ?_
 simp only [zq,Nat.reduceAdd];subst hI;simp only [nrmA,nrmB,nrlB,reduceCtorEq];have l1:=Zf (k+1).toNat;have l2:=Zf (i+1).toNat;have l3:=Zf (n+1).toNat;simp only [jh,ji]
 rcases(show j=0∨j=1∨j=2∨j=3 by omega) with rfl|rfl|rfl|rfl
 · have hb:=hA (1,sev (k+1).toNat) ⟨by omega,rfl⟩ (by simp only;omega)
   subst hjm
   (repeat' (first|refine ja ?_ ?_|intro _))<;>first|omega|exact jb|exact jc ‹False›|skip
   · simp only [List.getD_cons_zero];omega
   · simp only [List.getD_cons_zero];omega
   · simp only [pre3,ji];omega
   · exact hb
 · have hb:=hA (2,sev (k+1).toNat++sev (i+1).toNat) ⟨by omega,rfl⟩ (by simp only;omega)
   subst hjm
   (repeat' (first|refine ja ?_ ?_|intro _))<;>first|omega|exact jb|exact jc ‹False›|skip
   · simp only [List.getD_cons_zero,List.getD_cons_succ];omega
   · simp only [List.getD_cons_zero,List.getD_cons_succ];omega
   · simp only [pre3];omega
   · exact hb
 · have hb:=hA (3,sev (k+1).toNat++sev (i+1).toNat++sev (n+1).toNat) ⟨by omega,rfl⟩ (by simp only;omega)
   subst hjm
   (repeat' (first|refine ja ?_ ?_|intro _))<;>first|omega|exact jb|exact jc ‹False›|skip
   · simp only [List.getD_cons_zero,List.getD_cons_succ];omega
   · simp only [List.getD_cons_zero,List.getD_cons_succ];omega
   · simp only [pre3,jk];omega
   · exact hb
 · have hm3:(m++t).length≤1048606:=by rw [hjm];simp only [pre3,jk];omega
   have hml:m.length≤30:=by rw [hjm];simp only [pre3,jk];omega
   have l4:=Zf (((m++t).length:Nat)+1:Int).toNat
   (repeat' (first|refine ja ?_ ?_|intro _))<;>first|omega|exact jb|exact jc ‹False›|skip
   · simp only [List.nil_append];omega
   · rw [← hr,hjm]
     simp only [encB,enc3,pre3,List.nil_append];rfl
def zq4:Know Tryz.prog:=⟨149,TL,zis⟩
def zq3:Know Tryz.prog:=⟨149,fun I=>zy I (TL I),zf zis⟩
end Go.Proofs.YtkjepecoodjbmaaGreatDoor
namespace Go.Proofs.YtkjepecoodjbmaaGreatDoor
open Go Go.Sep Go.Ab Go.Jrn
set_option maxRecDepth 100000
end Go.Proofs.YtkjepecoodjbmaaGreatDoor
namespace Go.Proofs.YtkjepecoodjbmaaGreatDoor
open Go Go.Sep Go.Ab
set_option maxRecDepth 100000
def cfgL:Cfg:= { sl:=[⟨156,0,.byte,some 5⟩]}
def zbW (b:Str) (n:Int):Bool:=decide (0≤n∧n≤100000 - (b.length:Int))
def wrC (b x:Str):Int:=if b.length+x.length≤100000 then 0 else 16
def wrB (b x:Str):Str:=if b.length+x.length≤100000 then b++x else b
def zfE (I:Alg) (args:List D) (hp:List HO):Option CT:=match args,hp with
 |[],[]=>(fun(_:Unit)=>(some (.one ⟨I.hid (True),(.ret (.v (.one (.ptr 0 0)))),[.pack [.obj 156 [(.row 1),(.p (.int .i64 0))],.row .byte 5 (I.hid ([]))]]⟩):Option CT)) ()
 |_,_=>none
theorem zqa:zx Tryz.prog 43 (zfE alg):=by
 intro args hp r h;unfold zfE at h;split at h<;>cases h
 simp only [CT.Good,zi];intro _
 refine spcG zh mixed Tryz.func43 (by kernel_rfl) { cfgL with keep:=some [0]} [] (by kernel_rfl) ?_
 intro I X hI hX
 refine orcL ?_;go_invoke;refine orcS (by kernel_rfl) ?_
 simp only [zq,Nat.reduceAdd];trivial
def zvB:Know Tryz.prog:=⟨43,zfE,zqa⟩
def zvA:Know Tryz.prog:=⟨43,fun I=>zy I (zfE I),zf zqa⟩
def ze4 (I:Alg) (args:List D) (hp:List HO):Option CT:=match args,hp with
 |[.v (.one (.ptr 0 0))],[.pack [.obj 156 [(.row 1),(.p (.int .i64 s))],.row .byte 5 b]]=>(fun(b:Str) (s:Int)=>(some (.one ⟨I.hid (True),(.ret (.tup [])),[.pack [.obj 156 [(.row 1),(.p (.int .i64 (I.hid ((b.length:Int)))))],.row .byte 5 b]]⟩):Option CT)) b s
 |_,_=>none
theorem zot:zx Tryz.prog 106 (ze4 alg):=by
 intro args hp r h;unfold ze4 at h;split at h<;>cases h
 rename_i s b;simp only [CT.Good,zi];intro _
 refine spcG zh mixed Tryz.func106 (by kernel_rfl) { cfgL with keep:=some [0]} [] (by kernel_rfl) ?_
 intro I X hI hX
 refine orcL ?_;go_invoke;refine orcS (by kernel_rfl) ?_
 simp only [zq,Nat.reduceAdd];subst hI;simp only [nrmA,nrmB,nrlB,reduceCtorEq,HO.pack.injEq,HO.obj.injEq]
def zu0:Know Tryz.prog:=⟨106,ze4,zot⟩
def zuZ:Know Tryz.prog:=⟨106,fun I=>zy I (ze4 I),zf zot⟩
def zfh (I:Alg) (args:List D) (hp:List HO):Option CT:=match args,hp with
 |[.v (.one (.ptr 0 0)),.v (.one (.p (.int .i64 n)))],[.pack [.obj 156 [(.row 1),(.p (.int .i64 s))],.row .byte 5 b]]=>(fun(b:Str) (s n:Int)=>(some (.one ⟨I.hid (b.length≤100000000),(.ret (.v (.one (.p (.bool (I.hid ((zbW b n)))))))),[.pack [.obj 156 [(.row 1),(.p (.int .i64 s))],.row .byte 5 b]]⟩):Option CT)) b s n
 |_,_=>none
theorem zpv:zx Tryz.prog 199 (zfh alg):=by
 intro args hp r h;unfold zfh at h;split at h<;>cases h
 rename_i n s b;simp only [CT.Good,zi];intro hneed
 refine spcG zh mixed Tryz.func199 (by kernel_rfl) { cfgL with keep:=some [0,1,4]} [] (by kernel_rfl) ?_
 intro I X hI hX
 refine orcL ?_;go_invoke;refine orcS (by kernel_rfl) ?_
 simp only [zq,Nat.reduceAdd];subst hI;simp only [nrmA,nrmB,nrlB,reduceCtorEq];unfold zbW
 exact⟨fun h=>⟨by omega,decide_eq_decide.2 (by omega)⟩,fun h=>(decide_eq_false (by omega)).symm⟩
def zpu:Know Tryz.prog:=⟨199,zfh,zpv⟩
def zpt:Know Tryz.prog:=⟨199,fun I=>zy I (zfh I),zf zpv⟩
def zad (I:Alg) (args:List D) (hp:List HO):Option CT:=match args,hp with
 |[.v (.one (.ptr 0 0)),.v (.one (.p (.list .byte x)))],[.pack [.obj 156 [(.row 1),(.p (.int .i64 s))],.row .byte 5 b]]=>(fun(b x:Str) (s:Int)=>(some (.one ⟨I.hid (b.length≤100000∧x.length≤100000000),(.ret (.v (.one (.p (.int .i64 (I.hid ((wrC b x)))))))),[.pack [.obj 156 [(.row 1),(.p (.int .i64 s))],.row .byte 5 (I.hid ((wrB b x)))]]⟩):Option CT)) b x s
 |_,_=>none
theorem zkf:zx Tryz.prog 150 (zad alg):=by
 intro args hp r h;unfold zad at h;split at h<;>cases h
 rename_i x s b;simp only [CT.Good,zi];intro hneed
 refine spcG zh mixed Tryz.func150 (by kernel_rfl) { cfgL with keep:=some [0,1,4]} [zpu,zpt] (by kernel_rfl) ?_
 intro I X hI hX
 refine orcL ?_;go_invoke;refine orcS (by kernel_rfl) ?_
 simp only [zq,Nat.reduceAdd];subst hI
 have hr:zbW b (x.length:Int)=decide (b.length+x.length≤100000):=by unfold zbW;exact decide_eq_decide.2 (by omega)
 simp only [nrmA,nrmB,nrlB,reduceCtorEq,HO.pack.injEq,HO.obj.injEq];rw [hr]
 by_cases hc:b.length+x.length≤100000
 · simp only [wrC,wrB,if_pos hc,decide_eq_true hc]
   simp only [nrmA,nrmB,nrlB,reduceCtorEq]
   exact⟨by omega,fun h=>h.elim,fun _=>by omega⟩
 · simp only [wrC,wrB,if_neg hc,decide_eq_false hc]
   simp only [nrmA,nrmB,nrlB,reduceCtorEq]
   exact⟨by omega,fun _=>trivial,fun h=>h.elim⟩
def zrR:Know Tryz.prog:=⟨150,zad,zkf⟩
def zrQ:Know Tryz.prog:=⟨150,fun I=>zy I (zad I),zf zkf⟩
end Go.Proofs.YtkjepecoodjbmaaGreatDoor
namespace Go.Jrn
open Go Go.Ab
theorem ztM {e:Ent} (h:mayM e=true):(encB e).length≤e.text.length+50:=by
 have h0:=Zf ((enc3 e).length+1);have h1:=Zf (e.kind+1).toNat;have h2:=Zf (e.id+1).toNat;have h3:=Zf (e.n+1).toNat;simp only [encB,enc3,jk] at h0 ⊢;omega
end Go.Jrn
namespace Go.Proofs.YtkjepecoodjbmaaGreatDoor
open Go Go.Sep Go.Ab Go.Jrn
def zne (l:List Upl) (n:Int) (e:Ent):Int:=
 if e.kind=1 then(if creC l e.n e.text=0∧¬ n+1=e.id then 20 else creC l e.n e.text)
 else if e.kind=2 then appC l e.id (getU l e.id).bytes.length e.text
 else if e.kind=3 then decC l e.id e.n
 else if e.kind=4 then droC l e.id
 else if e.kind=5 then begC l e.id
 else endC l e.id
def znd (l:List Upl) (n:Int) (e:Ent):List Upl:=
 if e.kind=1 then creL l n e.n e.text
 else if e.kind=2 then appL l e.id (getU l e.id).bytes.length e.text
 else if e.kind=3 then decL l e.id e.n
 else if e.kind=4 then droL l e.id
 else if e.kind=5 then begL l e.id
 else endL l e.id
def zdf (l:List Upl) (n:Int) (e:Ent):Int:=if e.kind=1 then creN l n e.n e.text else n
theorem zvh {l:List Upl} {n:Int} (h:zQ l n) (e:Ent):zQ (znd l n e) (zdf l n e):=by
 unfold znd zdf
 split
 · exact zxr h _ _
 split
 · exact zxE h _ _ _
 split
 · exact zxp h _ _
 split
 · exact zxn h _
 split
 · exact zxB h _
 · exact zxl h _
theorem zsM (l:List Upl) (n:Int) (e:Ent):n≤zdf l n e∧zdf l n e≤n+1:=by
 unfold zdf creN
 split
 · split<;>omega
 · omega
def wrtC (l:List Upl) (n:Int) (b:Str) (e:Ent):Int:=
 if ¬ zne l n e=0 then zne l n e else if ¬ encC e=0 then encC e else wrC b (encM e)
def wrtL (l:List Upl) (n:Int) (b:Str) (e:Ent):List Upl:=if wrtC l n b e=0 then znd l n e else l
def wrtN (l:List Upl) (n:Int) (b:Str) (e:Ent):Int:=if wrtC l n b e=0 then zdf l n e else n
def wrtB (l:List Upl) (n:Int) (b:Str) (e:Ent):Str:=if wrtC l n b e=0 then b++encB e else b
theorem zdp {l:List Upl} {n:Int} (h:zQ l n) (b:Str) (e:Ent):zQ (wrtL l n b e) (wrtN l n b e):=by
 unfold wrtL wrtN
 split
 · exact zvh h e
 · exact h
theorem znZ (l:List Upl) (n:Int) (b:Str) (e:Ent):n≤wrtN l n b e∧wrtN l n b e≤n+1:=by
 have:=zsM l n e;unfold wrtN
 split<;>omega
theorem zrP {l:List Upl} {n:Int} {b:Str} {e:Ent} (h:wrtC l n b e=0):zne l n e=0∧mayM e=true∧b.length+(encB e).length≤100000:=by
 unfold wrtC at h
 split at h
 · rename_i h1;exact absurd h h1
 rename_i h1
 split at h
 · rename_i h2;exact absurd h h2
 rename_i h2
 have hm:mayM e=true:=by
  unfold encC at h2
  cases hm:mayM e with
  |true=>rfl
  |false=>rw [hm] at h2;simp at h2
 unfold wrC at h
 split at h
 · rename_i h3
   refine⟨Decidable.not_not.1 h1,hm,?_⟩;unfold encM at h3;rw [if_pos hm] at h3;exact h3
 · cases h
theorem Y8 {l:List Upl} {n:Int} {b:Str} (e:Ent) (h:b.length≤100000):(wrtB l n b e).length≤100000:=by
 unfold wrtB
 split
 · rename_i h1
   rw [jk];exact(zrP h1).2.2
 · exact h
end Go.Proofs.YtkjepecoodjbmaaGreatDoor
namespace Go.Proofs.YtkjepecoodjbmaaGreatDoor
open Go Go.Sep Go.Ab Go.Jrn
set_option maxRecDepth 100000
def zc0:Cfg:= { sl:=[⟨124,0,.upl,some 81⟩,⟨156,0,.byte,some 5⟩]}
def VE (I:Alg) (args:List D) (hp:List HO):Option CT:=match args,hp with
 |[],[]=>(fun(_:Unit)=>(some (.one ⟨I.hid (True),(.ret (.v (.one (.ptr 0 0)))),[.pack [.obj 54 [(.ptr 1 0),(.ptr 2 0)],.pack [.obj 124 [(.row 1),(.p (.int .i64 0))],.row .upl 81 (I.hid ([]))],.pack [.obj 156 [(.row 1),(.p (.int .i64 0))],.row .byte 5 (I.hid ([]))]]]⟩):Option CT)) ()
 |_,_=>none
theorem zgw:zx Tryz.prog 12 (VE alg):=by
 intro args hp r h;unfold VE at h;split at h<;>cases h
 simp only [CT.Good,zi];intro _
 refine spcG zh mixed Tryz.func12 (by kernel_rfl) { zc0 with keep:=some [0]} [zu9,zu8,zvB,zvA] (by kernel_rfl) ?_
 intro I X hI hX
 refine orcL ?_;go_invoke;refine orcS (by kernel_rfl) ?_
 simp only [zq,Nat.reduceAdd];subst hI;exact⟨trivial,trivial,trivial,rfl⟩
def VD:Know Tryz.prog:=⟨12,VE,zgw⟩
def VB:Know Tryz.prog:=⟨12,fun I=>zy I (VE I),zf zgw⟩
def zal (I:Alg) (args:List D) (hp:List HO):Option CT:=match args,hp with
 |[.v (.one (.ptr 0 0)),.v (.agg [(.p (.int .i64 k)),(.p (.int .i64 i)),(.p (.int .i64 m)),(.p (.list .byte t))])],[.pack [.obj 124 [(.row 1),(.p (.int .i64 n))],.row .upl 81 l]]=>(fun(l:List Upl) (n k i m:Int) (t:Str)=>(some (.one ⟨I.hid (zQ l n∧n≤1000000∧t.length≤1000000),(.ret (.v (.one (.p (.int .i64 (I.hid ((zne l n ⟨k,i,m,t⟩)))))))),[.pack [.obj 124 [(.row 1),(.p (.int .i64 (I.hid ((zdf l n ⟨k,i,m,t⟩)))))],.row .upl 81 (I.hid ((znd l n ⟨k,i,m,t⟩)))]]⟩):Option CT)) l n k i m t
 |_,_=>none
set_option maxHeartbeats 4000000 in
theorem zkx:zx Tryz.prog 110 (zal alg):=by
 intro args hp r h;unfold zal at h;split at h<;>cases h
 rename_i k i m t n l
 revert l;intro(l:List Upl)
 simp only [CT.Good,zi];intro hneed;obtain⟨hs,hn,ht⟩:=hneed;generalize hc:zne l n ⟨k,i,m,t⟩=c;generalize hl:znd l n ⟨k,i,m,t⟩=l';generalize hN:zdf l n ⟨k,i,m,t⟩=n'
 refine spcG zh mixed Tryz.func110 (by kernel_rfl) { zc0 with keep:=some [0,1,3,4,5,6,7,10]} [zm1,zm0,zm3,zm2,zi1,zi0,zoU,zoT,zvb,zva,Xn,Xm,Rf,S9,zsl,zsk] (by kernel_rfl) ?_
 intro I X hI hX
 refine orcL ?_;go_invoke;refine orcS (by kernel_rfl) ?_
 simp only [zq,Nat.reduceAdd];subst hI;simp only [nrmA,nrmB,nrlB,reduceCtorEq,HO.pack.injEq,HO.obj.injEq];unfold zne at hc;unfold znd at hl;unfold zdf at hN;simp only at hc hl hN
 have hci:creC l m t=0→creI l n m t=n+1:=fun h=>by unfold creI;rw [if_pos h]
 (repeat' (first|refine ja ?_ ?_|intro _))<;>first|omega|exact jb|exact jc ‹False›|skip
 all_goals first
  |exact hs
  |exact hn
  |exact ht
  |exact⟨hs,hn,ht⟩
  |exact⟨hs,ht⟩
  |(have:=hci (by assumption);((repeat(first|rewrite [if_pos (by first|omega|assumption|(simp only [*,or_self,or_true,true_or,or_false,false_or,jf,jg,jd,je,and_self,and_true,true_and];done)|(simp only [*];omega)|(simp [*];done)|(simp [*];omega))] at hc|rewrite [if_neg (by first|omega|assumption|(simp only [*,or_self,or_true,true_or,or_false,false_or,jf,jg,jd,je,and_self,and_true,true_and];done)|(simp only [*];omega)|(simp [*];done)|(simp [*];omega))] at hc)));subst hc;((repeat(first|rewrite [if_pos (by first|omega|assumption|(simp only [*,or_self,or_true,true_or,or_false,false_or,jf,jg,jd,je,and_self,and_true,true_and];done)|(simp only [*];omega)|(simp [*];done)|(simp [*];omega))] at hl|rewrite [if_neg (by first|omega|assumption|(simp only [*,or_self,or_true,true_or,or_false,false_or,jf,jg,jd,je,and_self,and_true,true_and];done)|(simp only [*];omega)|(simp [*];done)|(simp [*];omega))] at hl)));subst hl;((repeat(first|rewrite [if_pos (by first|omega|assumption|(simp only [*,or_self,or_true,true_or,or_false,false_or,jf,jg,jd,je,and_self,and_true,true_and];done)|(simp only [*];omega)|(simp [*];done)|(simp [*];omega))] at hN|rewrite [if_neg (by first|omega|assumption|(simp only [*,or_self,or_true,true_or,or_false,false_or,jf,jg,jd,je,and_self,and_true,true_and];done)|(simp only [*];omega)|(simp [*];done)|(simp [*];omega))] at hN)));subst hN;first|rfl|omega)
  |(((repeat(first|rewrite [if_pos (by first|omega|assumption|(simp only [*,or_self,or_true,true_or,or_false,false_or,jf,jg,jd,je,and_self,and_true,true_and];done)|(simp only [*];omega)|(simp [*];done)|(simp [*];omega))] at hc|rewrite [if_neg (by first|omega|assumption|(simp only [*,or_self,or_true,true_or,or_false,false_or,jf,jg,jd,je,and_self,and_true,true_and];done)|(simp only [*];omega)|(simp [*];done)|(simp [*];omega))] at hc)));subst hc;((repeat(first|rewrite [if_pos (by first|omega|assumption|(simp only [*,or_self,or_true,true_or,or_false,false_or,jf,jg,jd,je,and_self,and_true,true_and];done)|(simp only [*];omega)|(simp [*];done)|(simp [*];omega))] at hl|rewrite [if_neg (by first|omega|assumption|(simp only [*,or_self,or_true,true_or,or_false,false_or,jf,jg,jd,je,and_self,and_true,true_and];done)|(simp only [*];omega)|(simp [*];done)|(simp [*];omega))] at hl)));subst hl;((repeat(first|rewrite [if_pos (by first|omega|assumption|(simp only [*,or_self,or_true,true_or,or_false,false_or,jf,jg,jd,je,and_self,and_true,true_and];done)|(simp only [*];omega)|(simp [*];done)|(simp [*];omega))] at hN|rewrite [if_neg (by first|omega|assumption|(simp only [*,or_self,or_true,true_or,or_false,false_or,jf,jg,jd,je,and_self,and_true,true_and];done)|(simp only [*];omega)|(simp [*];done)|(simp [*];omega))] at hN)));subst hN;first|rfl|omega)
def zr6:Know Tryz.prog:=⟨110,zal,zkx⟩
def zr5:Know Tryz.prog:=⟨110,fun I=>zy I (zal I),zf zkx⟩
def ZK (I:Alg) (args:List D) (hp:List HO):Option CT:=match args,hp with
 |[.v (.one (.ptr 0 0)),.v (.agg [(.p (.int .i64 k)),(.p (.int .i64 i)),(.p (.int .i64 m)),(.p (.list .byte t))])],[.pack [.obj 54 [(.ptr 1 0),(.ptr 2 0)],.pack [.obj 124 [(.row 1),(.p (.int .i64 n))],.row .upl 81 l],.pack [.obj 156 [(.row 1),(.p (.int .i64 s))],.row .byte 5 b]]]=>(fun(l:List Upl) (n:Int) (b:Str) (s k i m:Int) (t:Str)=>(some (.one ⟨I.hid (zQ l n∧n≤200000∧t.length≤1000000∧b.length≤100000),(.ret (.v (.one (.p (.int .i64 (I.hid ((wrtC l n b ⟨k,i,m,t⟩)))))))),[.pack [.obj 54 [(.ptr 1 0),(.ptr 2 0)],.pack [.obj 124 [(.row 1),(.p (.int .i64 (I.hid ((wrtN l n b ⟨k,i,m,t⟩)))))],.row .upl 81 (I.hid ((wrtL l n b ⟨k,i,m,t⟩)))],.pack [.obj 156 [(.row 1),(.p (.int .i64 s))],.row .byte 5 (I.hid ((wrtB l n b ⟨k,i,m,t⟩)))]]]⟩):Option CT)) l n b s k i m t
 |_,_=>none
set_option maxHeartbeats 4000000 in
theorem zbG:zx Tryz.prog 105 (ZK alg):=by
 intro args hp r h;unfold ZK at h;split at h<;>cases h
 rename_i k i m t n l s b
 revert l;intro(l:List Upl)
 simp only [CT.Good,zi];intro hneed;obtain⟨hs,hn,ht,hb⟩:=hneed;generalize hc:wrtC l n b ⟨k,i,m,t⟩=c;generalize hl:wrtL l n b ⟨k,i,m,t⟩=l';generalize hN:wrtN l n b ⟨k,i,m,t⟩=n';generalize hB:wrtB l n b ⟨k,i,m,t⟩=b'
 refine spcG zh mixed Tryz.func105 (by kernel_rfl) { zc0 with keep:=some [0,1,3,4,5,6,7,8]} [zsn,zsm,zq4,zq3,zrR,zrQ,zr6,zr5] (by kernel_rfl) ?_
 intro I X hI hX
 refine orcL ?_;go_invoke;refine orcS (by kernel_rfl) ?_
 simp only [zq,Nat.reduceAdd];subst hI;simp only [nrmA,nrmB,nrlB,reduceCtorEq,HO.pack.injEq,HO.obj.injEq]
 have hel:(encM ⟨k,i,m,t⟩).length≤2000000:=by
  unfold encM
  split
  · rename_i h
    have:=ztM h;simp only at this;omega
  · simp
 generalize he:(⟨k,i,m,t⟩:Ent)=e at *
 have hem:encC e=0→encM e=encB e:=fun h=>by
  unfold encC at h;unfold encM
  split at h
  · rename_i h2;rw [if_pos h2]
  · cases h
 have hw0: ∀ x:Str,wrC b x=0→wrB b x=b++x:=fun x h=>by
  unfold wrC at h;unfold wrB
  split at h
  · rename_i h2;rw [if_pos h2]
  · cases h
 have hw1: ∀ x:Str,¬ wrC b x=0→wrB b x=b:=fun x h=>by
  unfold wrC at h;unfold wrB
  split at h
  · exact absurd rfl h
  · rename_i h2;rw [if_neg h2]
 unfold wrtL at hl;unfold wrtN at hN;unfold wrtB at hB;rw [hc] at hl hN hB;unfold wrtC at hc
 (repeat' (first|refine ja ?_ ?_|intro _))<;>first|omega|exact jb|exact jc ‹False›|skip
 all_goals first
  |exact hs
  |(((repeat(first|rewrite [if_pos (by first|omega|assumption|(simp only [*,or_self,or_true,true_or,or_false,false_or,jf,jg,jd,je,and_self,and_true,true_and];done)|(simp only [*];omega)|(simp [*];done)|(simp [*];omega))] at hc|rewrite [if_neg (by first|omega|assumption|(simp only [*,or_self,or_true,true_or,or_false,false_or,jf,jg,jd,je,and_self,and_true,true_and];done)|(simp only [*];omega)|(simp [*];done)|(simp [*];omega))] at hc)));subst hc;((repeat(first|rewrite [if_pos (by first|omega|assumption|(simp only [*,or_self,or_true,true_or,or_false,false_or,jf,jg,jd,je,and_self,and_true,true_and];done)|(simp only [*];omega)|(simp [*];done)|(simp [*];omega))] at hl|rewrite [if_neg (by first|omega|assumption|(simp only [*,or_self,or_true,true_or,or_false,false_or,jf,jg,jd,je,and_self,and_true,true_and];done)|(simp only [*];omega)|(simp [*];done)|(simp [*];omega))] at hl)));subst hl;((repeat(first|rewrite [if_pos (by first|omega|assumption|(simp only [*,or_self,or_true,true_or,or_false,false_or,jf,jg,jd,je,and_self,and_true,true_and];done)|(simp only [*];omega)|(simp [*];done)|(simp [*];omega))] at hN|rewrite [if_neg (by first|omega|assumption|(simp only [*,or_self,or_true,true_or,or_false,false_or,jf,jg,jd,je,and_self,and_true,true_and];done)|(simp only [*];omega)|(simp [*];done)|(simp [*];omega))] at hN)));subst hN;((repeat(first|rewrite [if_pos (by first|omega|assumption|(simp only [*,or_self,or_true,true_or,or_false,false_or,jf,jg,jd,je,and_self,and_true,true_and];done)|(simp only [*];omega)|(simp [*];done)|(simp [*];omega))] at hB|rewrite [if_neg (by first|omega|assumption|(simp only [*,or_self,or_true,true_or,or_false,false_or,jf,jg,jd,je,and_self,and_true,true_and];done)|(simp only [*];omega)|(simp [*];done)|(simp [*];omega))] at hB)));subst hB;first|rfl|omega|exact hw1 _ (by assumption)|(rw [hw0 _ (by assumption),hem (by assumption)]))
def ZJ:Know Tryz.prog:=⟨105,ZK,zbG⟩
def ZI:Know Tryz.prog:=⟨105,fun I=>zy I (ZK I),zf zbG⟩
def qJ (I:Alg) (args:List D) (hp:List HO):Option CT:=match args,hp with
 |[.v (.one (.ptr 0 0)),.v (.one (.p (.int .i64 size))),.v (.one (.p (.str t)))],[.pack [.obj 54 [(.ptr 1 0),(.ptr 2 0)],.pack [.obj 124 [(.row 1),(.p (.int .i64 n))],.row .upl 81 l],.pack [.obj 156 [(.row 1),(.p (.int .i64 s))],.row .byte 5 b]]]=>(fun(l:List Upl) (n:Int) (b:Str) (s size:Int) (t:Str)=>(some (.one ⟨I.hid (zQ l n∧n≤200000∧t.length≤1000000∧b.length≤100000),(.ret (.tup [(.one (.p (.int .i64 (I.hid ((if wrtC l n b ⟨1,n+1,size,t⟩=0 then n+1 else 0)))))),(.one (.p (.int .i64 (I.hid ((wrtC l n b ⟨1,n+1,size,t⟩))))))])),[.pack [.obj 54 [(.ptr 1 0),(.ptr 2 0)],.pack [.obj 124 [(.row 1),(.p (.int .i64 (I.hid ((wrtN l n b ⟨1,n+1,size,t⟩)))))],.row .upl 81 (I.hid ((wrtL l n b ⟨1,n+1,size,t⟩)))],.pack [.obj 156 [(.row 1),(.p (.int .i64 s))],.row .byte 5 (I.hid ((wrtB l n b ⟨1,n+1,size,t⟩)))]]]⟩):Option CT)) l n b s size t
 |_,_=>none
theorem Qn:zx Tryz.prog 180 (qJ alg):=by
 intro args hp r h;unfold qJ at h;split at h<;>cases h
 rename_i size t n l s b
 revert l;intro(l:List Upl)
 simp only [CT.Good,zi];intro hneed;have hn0:=hneed.1.n0
 refine spcG zh mixed Tryz.func180 (by kernel_rfl) { zc0 with keep:=some [0,1,2,6,7,8,9]} [zsj,zsi,ZJ,ZI] (by kernel_rfl) ?_
 intro I X hI hX
 refine orcL ?_;go_invoke;refine orcS (by kernel_rfl) ?_
 simp only [zq,Nat.reduceAdd];subst hI;simp only [nrmA,nrmB,nrlB,reduceCtorEq,HO.pack.injEq,HO.obj.injEq]
 exact⟨⟨hn0,by omega⟩,hneed,fun h=>(if_neg h).symm,fun h=>⟨(if_pos h).symm,h.symm⟩⟩
def Qm:Know Tryz.prog:=⟨180,qJ,Qn⟩
def Ql:Know Tryz.prog:=⟨180,fun I=>zy I (qJ I),zf Qn⟩
def apG (l:List Upl) (id off:Int):Bool:=getB l id&&(decide ((getU l id).sent=0)&& !decide (off=(getU l id).bytes.length))
def apE (id:Int) (x:Str):Ent:=⟨2,id,0,x⟩
def qK (I:Alg) (args:List D) (hp:List HO):Option CT:=match args,hp with
 |[.v (.one (.ptr 0 0)),.v (.one (.p (.int .i64 id))),.v (.one (.p (.int .i64 off))),.v (.one (.p (.list .byte x)))],[.pack [.obj 54 [(.ptr 1 0),(.ptr 2 0)],.pack [.obj 124 [(.row 1),(.p (.int .i64 n))],.row .upl 81 l],.pack [.obj 156 [(.row 1),(.p (.int .i64 s))],.row .byte 5 b]]]=>(fun(l:List Upl) (n:Int) (b:Str) (s id off:Int) (x:Str)=>(some (.one ⟨I.hid (zQ l n∧n≤200000∧x.length≤1000000∧b.length≤100000),(.ret (.v (.one (.p (.int .i64 (I.hid ((if apG l id off then 17 else wrtC l n b ⟨2,id,0,x⟩)))))))),[.pack [.obj 54 [(.ptr 1 0),(.ptr 2 0)],.pack [.obj 124 [(.row 1),(.p (.int .i64 (I.hid ((if apG l id off then n else wrtN l n b ⟨2,id,0,x⟩)))))],.row .upl 81 (I.hid ((if apG l id off then l else wrtL l n b ⟨2,id,0,x⟩)))],.pack [.obj 156 [(.row 1),(.p (.int .i64 s))],.row .byte 5 (I.hid ((if apG l id off then b else wrtB l n b ⟨2,id,0,x⟩)))]]]⟩):Option CT)) l n b s id off x
 |_,_=>none
theorem Qo:zx Tryz.prog 185 (qK alg):=by
 intro args hp r h;unfold qK at h;split at h<;>cases h
 rename_i id off x n l s b
 revert l;intro(l:List Upl)
 simp only [CT.Good,zi];intro hneed;generalize hg:apG l id off=g
 refine spcG zh mixed Tryz.func185 (by kernel_rfl) { zc0 with keep:=some [0,1,2,3,8,9,10]} [Xn,Xm,Rf,S9,ZJ,ZI] (by kernel_rfl) ?_
 intro I X hI hX
 refine orcL ?_;go_invoke;refine orcS (by kernel_rfl) ?_
 simp only [zq,Nat.reduceAdd];subst hI;simp only [nrmA,nrmB,nrlB,reduceCtorEq,HO.pack.injEq,HO.obj.injEq]
 (repeat' (first|refine ja ?_ ?_|intro _))<;>first|omega|exact jb|exact jc ‹False›|skip
 all_goals first
  |exact hneed.1
  |exact hneed
  |exact hneed.2.1
  |exact hneed.2.2.1
  |exact hneed.2.2.2
  |(have h:g=true:=(by rw [← hg];unfold apG;simp [*]);subst h;rfl)
  |(have h:g=false:=(by rw [← hg];unfold apG;simp [*]);subst h;rfl)
def xB:Know Tryz.prog:=⟨185,qK,Qo⟩
def xA:Know Tryz.prog:=⟨185,fun I=>zy I (qK I),zf Qo⟩
def sZ (I:Alg) (args:List D) (hp:List HO):Option CT:=match args,hp with
 |[.v (.one (.ptr 0 0)),.v (.one (.p (.int .i64 id))),.v (.one (.p (.int .i64 size)))],[.pack [.obj 54 [(.ptr 1 0),(.ptr 2 0)],.pack [.obj 124 [(.row 1),(.p (.int .i64 n))],.row .upl 81 l],.pack [.obj 156 [(.row 1),(.p (.int .i64 s))],.row .byte 5 b]]]=>(fun(l:List Upl) (n:Int) (b:Str) (s id size:Int)=>(some (.one ⟨I.hid (zQ l n∧n≤200000∧b.length≤100000),(.ret (.v (.one (.p (.int .i64 (I.hid ((wrtC l n b ⟨3,id,size,[]⟩)))))))),[.pack [.obj 54 [(.ptr 1 0),(.ptr 2 0)],.pack [.obj 124 [(.row 1),(.p (.int .i64 (I.hid ((wrtN l n b ⟨3,id,size,[]⟩)))))],.row .upl 81 (I.hid ((wrtL l n b ⟨3,id,size,[]⟩)))],.pack [.obj 156 [(.row 1),(.p (.int .i64 s))],.row .byte 5 (I.hid ((wrtB l n b ⟨3,id,size,[]⟩)))]]]⟩):Option CT)) l n b s id size
 |_,_=>none
theorem VF:zx Tryz.prog 186 (sZ alg):=by
 intro args hp r h;unfold sZ at h;split at h<;>cases h
 rename_i id size n l s b
 revert l;intro(l:List Upl)
 simp only [CT.Good,zi];intro hneed
 refine spcG zh mixed Tryz.func186 (by kernel_rfl) { zc0 with keep:=some [0,1,2,6]} [ZJ,ZI] (by kernel_rfl) ?_
 intro I X hI hX
 refine orcL ?_;go_invoke;refine orcS (by kernel_rfl) ?_
 simp only [zq,Nat.reduceAdd];subst hI;simp only [nrmA,nrmB,nrlB,reduceCtorEq,HO.pack.injEq,HO.obj.injEq]
 exact⟨hneed.1,hneed.2.1,by decide,hneed.2.2⟩
def xw:Know Tryz.prog:=⟨186,sZ,VF⟩
def xu:Know Tryz.prog:=⟨186,fun I=>zy I (sZ I),zf VF⟩
def Xh (I:Alg) (args:List D) (hp:List HO):Option CT:=match args,hp with
 |[.v (.one (.ptr 0 0)),.v (.one (.p (.int .i64 id)))],[.pack [.obj 54 [(.ptr 1 0),(.ptr 2 0)],.pack [.obj 124 [(.row 1),(.p (.int .i64 n))],.row .upl 81 l],.pack [.obj 156 [(.row 1),(.p (.int .i64 s))],.row .byte 5 b]]]=>(fun(l:List Upl) (n:Int) (b:Str) (s id:Int)=>(some (.one ⟨I.hid (zQ l n∧n≤200000∧b.length≤100000),(.ret (.v (.one (.p (.int .i64 (I.hid ((wrtC l n b ⟨4,id,0,[]⟩)))))))),[.pack [.obj 54 [(.ptr 1 0),(.ptr 2 0)],.pack [.obj 124 [(.row 1),(.p (.int .i64 (I.hid ((wrtN l n b ⟨4,id,0,[]⟩)))))],.row .upl 81 (I.hid ((wrtL l n b ⟨4,id,0,[]⟩)))],.pack [.obj 156 [(.row 1),(.p (.int .i64 s))],.row .byte 5 (I.hid ((wrtB l n b ⟨4,id,0,[]⟩)))]]]⟩):Option CT)) l n b s id
 |_,_=>none
theorem zdA:zx Tryz.prog 134 (Xh alg):=by
 intro args hp r h;unfold Xh at h;split at h<;>cases h
 rename_i id n l s b
 revert l;intro(l:List Upl)
 simp only [CT.Good,zi];intro hneed
 refine spcG zh mixed Tryz.func134 (by kernel_rfl) { zc0 with keep:=some [0,1,4]} [ZJ,ZI] (by kernel_rfl) ?_
 intro I X hI hX
 refine orcL ?_;go_invoke;refine orcS (by kernel_rfl) ?_
 simp only [zq,Nat.reduceAdd];subst hI;simp only [nrmA,nrmB,nrlB,reduceCtorEq,HO.pack.injEq,HO.obj.injEq]
 exact⟨hneed.1,hneed.2.1,by decide,hneed.2.2⟩
def wM:Know Tryz.prog:=⟨134,Xh,zdA⟩
def wL:Know Tryz.prog:=⟨134,fun I=>zy I (Xh I),zf zdA⟩
def Xf (I:Alg) (args:List D) (hp:List HO):Option CT:=match args,hp with
 |[.v (.one (.ptr 0 0))],[.pack [.obj 54 [(.ptr 1 0),(.ptr 2 0)],.pack [.obj 124 [(.row 1),(.p (.int .i64 n))],.row .upl 81 l],.pack [.obj 156 [(.row 1),(.p (.int .i64 s))],.row .byte 5 b]]]=>(fun(l:List Upl) (n:Int) (b:Str) (s:Int)=>(some (.one ⟨I.hid (True),(.ret (.tup [])),[.pack [.obj 54 [(.ptr 1 0),(.ptr 2 0)],.pack [.obj 124 [(.row 1),(.p (.int .i64 n))],.row .upl 81 l],.pack [.obj 156 [(.row 1),(.p (.int .i64 (I.hid ((b.length:Int)))))],.row .byte 5 b]]]⟩):Option CT)) l n b s
 |_,_=>none
theorem zdy:zx Tryz.prog 62 (Xf alg):=by
 intro args hp r h;unfold Xf at h;split at h<;>cases h
 rename_i n l s b
 revert l;intro(l:List Upl)
 simp only [CT.Good,zi];intro _
 refine spcG zh mixed Tryz.func62 (by kernel_rfl) { zc0 with keep:=some [0]} [zu0,zuZ] (by kernel_rfl) ?_
 intro I X hI hX
 refine orcL ?_;go_invoke;refine orcS (by kernel_rfl) ?_
 simp only [zq,Nat.reduceAdd];subst hI;simp only [nrmA,nrmB,nrlB,reduceCtorEq,HO.pack.injEq,HO.obj.injEq]
 try trivial
def zU:Know Tryz.prog:=⟨62,Xf,zdy⟩
def zT:Know Tryz.prog:=⟨62,fun I=>zy I (Xf I),zf zdy⟩
end Go.Proofs.YtkjepecoodjbmaaGreatDoor
namespace Go.Proofs.YtkjepecoodjbmaaGreatDoor
open Go Go.Sep Go.Ab
set_option maxRecDepth 100000
end Go.Proofs.YtkjepecoodjbmaaGreatDoor
namespace Go.Proofs.YtkjepecoodjbmaaGreatDoor
open Go Go.Sep Go.Ab
set_option maxRecDepth 100000
theorem zn6 {a b:Upl} (h1:a.id=b.id) (h2:a.size=b.size) (h3:a.note=b.note) (h4:a.sent=b.sent) (h5:a.bytes=b.bytes):a=b:=by
 cases a;cases b;simp_all
theorem Uw {l m:List Upl} {i:Nat} (h1:i<l.length) (h2:i<m.length):(decide (l.drop i=m.drop i))=(decide (l.getD i ⟨0,0,[],[],0⟩=m.getD i ⟨0,0,[],[],0⟩)&&decide (l.drop (i+1)=m.drop (i+1))):=by
 have e1:l.getD i ⟨0,0,[],[],0⟩=l[i]:=by simp [h1]
 have e2:m.getD i ⟨0,0,[],[],0⟩=m[i]:=by simp [h2]
 rw [e1,e2,Bool.eq_iff_iff,jK,decide_eq_true_iff,decide_eq_true_iff,decide_eq_true_iff,jE h1,jE h2,List.cons.injEq]
def zay (I:Alg) (args:List D) (hp:List HO):Option CT:=match args,hp with
 |[.v (.one (.row 0)),.v (.one (.row 1))],[.row .upl 81 l,.row .upl 81 m]=>(fun(l m:List Upl)=>(some (.one ⟨I.hid (l.length≤1000000∧m.length≤1000000),(.ret (.v (.one (.p (.bool (I.hid ((decide (l=m))))))))),[.row .upl 81 l,.row .upl 81 m]⟩):Option CT)) l m
 |_,_=>none
set_option maxHeartbeats 4000000 in
theorem zkS:zx Tryz.prog 16 (zay alg):=by
 intro args hp r h;unfold zay at h;split at h<;>cases h
 rename_i l m
 revert l m;intro(l:List Upl) (m:List Upl)
 simp only [CT.Good,zi];intro hneed;obtain⟨hl,hm⟩:=hneed;generalize hr:decide (l=m)=r
 refine spcG zh mixed Tryz.func16 (by kernel_rfl) { keep:=some [0,1,4,5]} [vz,vw] (by kernel_rfl) ?_
 intro I X hI hX
 refine orcL ?_;go_invoke;refine orcS (by kernel_rfl) ?_
 simp only [zq,Nat.reduceAdd];refine⟨fun c1=> ?_,fun c1=> ?_⟩
 · subst hI
   simp only [nrmA,nrmB] at c1;simp only [nrmA,nrmB];rw [← hr]
   exact(decide_eq_false fun e=>c1 (by rw [e])).symm
 have hlm:l.length=m.length:=by
  subst hI;simp only [nrmA,nrmB] at c1;omega
 refine zB hI zh mixed [vz,vw] hX [0,1,5] (fun(i:Nat)=>i≤l.length∧r=decide (l.drop i=m.drop i)) (fun(i:Nat)=>⟨[(0,.v (.one (.row 0))),(1,.v (.one (.row 1))),(5,.v (.one (.p (.int .i64 i))))],[.row .upl 81 l,.row .upl 81 m],81,none⟩) (fun(i:Nat)=>l.length - i) 0 (by kernel_rfl) (by kernel_rfl) ?_ ?_
 · exact⟨jM _,hr.symm⟩
 rintro i ⟨h1,h2⟩ A hA
 refine orcL ?_;go_invoke;refine orcS (by kernel_rfl) ?_
 simp only [zq,Nat.reduceAdd];subst hI;simp only [nrmA,nrmB,nrlB,reduceCtorEq]
 have hd:i<l.length→_:=fun h=>Uw (l:=l) (m:=m) (i:=i) h (by omega)
 have hend: ¬ i<l.length→r=true:=fun h=>by
  rw [h2,jF (by omega),jF (by omega)];simp
 generalize l.getD i ⟨0,0,[],[],0⟩=x at *;generalize m.getD i ⟨0,0,[],[],0⟩=y at *
 have hx: ¬ x=y→i<l.length→r=false:=fun h hi=>by rw [h2,hd hi,decide_eq_false h,Bool.false_and]
 have hy:x=y→i<l.length→r=decide (l.drop (i+1)=m.drop (i+1)):=fun h hi=>by rw [h2,hd hi,decide_eq_true h,Bool.true_and]
 (repeat' (first|refine ja ?_ ?_|intro _))<;>first|omega|exact jb|exact jc ‹False›|skip
 all_goals first
  |(exact(hx (by rintro rfl;simp_all) (by omega)).symm)
  |(rw [hx (by rintro rfl;simp_all) (by omega)])
  |exact hA (i+1) ⟨by omega,hy (zn6 (by assumption) (by assumption) (by assumption) (by assumption) (by assumption)) (by omega)⟩ (by omega)
  |(rw [hend (by omega)])
  |omega
def VL:Know Tryz.prog:=⟨16,zay,zkS⟩
def VK:Know Tryz.prog:=⟨16,fun I=>zy I (zay I),zf zkS⟩
def VJ (I:Alg) (args:List D) (hp:List HO):Option CT:=match args,hp with
 |[.v (.one (.row 0)),.v (.one (.sub .upl 1 a b))],[.row .upl 81 l,.row .upl 81 m]=>(fun(l m:List Upl) (a b:Int)=>(some (.one ⟨I.hid (l.length≤1000000∧m.length≤1000000∧0≤a∧a≤b∧b≤m.length),(.ret (.v (.one (.p (.bool (I.hid ((decide (l=(m.drop a.toNat).take (b.toNat - a.toNat)))))))))),[.row .upl 81 l,.row .upl 81 m]⟩):Option CT)) l m a b
 |_,_=>none
set_option maxHeartbeats 4000000 in
theorem zgE:zx Tryz.prog 16 (VJ alg):=by
 intro args hp r h;unfold VJ at h;split at h<;>cases h
 rename_i a b l m
 revert l m;intro(l:List Upl) (m:List Upl)
 simp only [CT.Good,zi];intro hneed;obtain⟨hl,hml,ha,hab,hb⟩:=hneed
 obtain⟨a,rfl⟩: ∃ x:Nat,a=x:=⟨a.toNat,by omega⟩
 obtain⟨b,rfl⟩: ∃ x:Nat,b=x:=⟨b.toNat,by omega⟩
 have hq:((m.drop a).take (b - a)).length=b - a:=by rw [jv,jC];omega
 have hqg: ∀ i,i<b - a→((m.drop a).take (b - a)).getD i ⟨0,0,[],[],0⟩=m.getD (a+i) ⟨0,0,[],[],0⟩:=fun i hi=>by
  simp only [jH,jD,jG,if_pos hi]
 obtain⟨q,hqe⟩: ∃ q,q=(m.drop a).take (b - a):=⟨_,rfl⟩;rw [← hqe] at hq hqg;generalize hr0:decide (l=(m.drop (a:Int).toNat).take ((b:Int).toNat - (a:Int).toNat))=r
 have hr:decide (l=q)=r:=by rw [← hr0];exact decide_eq_decide.2 (by rw [hqe,jJ,jJ])
 refine spcG zh mixed Tryz.func16 (by kernel_rfl) { keep:=some [0,1,4,5]} [vz,vw,VL,VK] (by kernel_rfl) ?_
 intro I X hI hX
 refine orcL ?_;go_invoke;refine orcS (by kernel_rfl) ?_
 simp only [zq,Nat.reduceAdd];refine⟨fun c1=> ?_,fun c1=> ?_⟩
 · subst hI
   simp only [nrmA,nrmB] at c1;simp only [nrmA,nrmB];rw [← hr]
   exact(decide_eq_false fun e=>c1 (by rw [e,hq];omega)).symm
 have hlm:l.length=q.length:=by
  subst hI;simp only [nrmA,nrmB] at c1;omega
 refine zB hI zh mixed [vz,vw,VL,VK] hX [0,1,5] (fun(i:Nat)=>i≤l.length∧r=decide (l.drop i=q.drop i)) (fun(i:Nat)=>⟨[(0,.v (.one (.row 0))),(1,.v (.one (.sub .upl 1 (a:Int) (b:Int)))),(5,.v (.one (.p (.int .i64 i))))],[.row .upl 81 l,.row .upl 81 m],81,none⟩) (fun(i:Nat)=>l.length - i) 0 (by kernel_rfl) (by kernel_rfl) ?_ ?_
 · exact⟨jM _,hr.symm⟩
 rintro i ⟨h1,h2⟩ A hA
 refine orcL ?_;go_invoke;refine orcS (by kernel_rfl) ?_
 simp only [zq,Nat.reduceAdd];subst hI;simp only [nrmA,nrmB,nrlB,reduceCtorEq]
 have hd:i<l.length→_:=fun h=>Uw (l:=l) (m:=q) (i:=i) h (by omega)
 have hend: ¬ i<l.length→r=true:=fun h=>by
  rw [h2,jF (by omega),jF (by omega)];simp
 have hqi:i<l.length→q.getD i ⟨0,0,[],[],0⟩=m.getD (a+i) ⟨0,0,[],[],0⟩:=fun h=>hqg i (by omega)
 rw [show((a:Int)+(i:Int)).toNat=a+i by omega]
 generalize l.getD i ⟨0,0,[],[],0⟩=x at *;generalize q.getD i ⟨0,0,[],[],0⟩=y0 at *;generalize m.getD (a+i) ⟨0,0,[],[],0⟩=y at *
 have hx: ¬ x=y→i<l.length→r=false:=fun h hi=>by rw [h2,hd hi,hqi hi,decide_eq_false h,Bool.false_and]
 have hy:x=y→i<l.length→r=decide (l.drop (i+1)=q.drop (i+1)):=fun h hi=>by rw [h2,hd hi,hqi hi,decide_eq_true h,Bool.true_and]
 (repeat' (first|refine ja ?_ ?_|intro _))<;>first|omega|exact jb|exact jc ‹False›|skip
 all_goals first
  |(exact(hx (by rintro rfl;simp_all) (by omega)).symm)
  |(rw [hx (by rintro rfl;simp_all) (by omega)])
  |exact hA (i+1) ⟨by omega,hy (zn6 (by assumption) (by assumption) (by assumption) (by assumption) (by assumption)) (by omega)⟩ (by omega)
  |(rw [hend (by omega)])
  |omega
def zbR:Know Tryz.prog:=⟨16,VJ,zgE⟩
def zbQ:Know Tryz.prog:=⟨16,fun I=>zy I (VJ I),zf zgE⟩
end Go.Proofs.YtkjepecoodjbmaaGreatDoor
namespace Go.Proofs.YtkjepecoodjbmaaGreatDoor
open Go Go.Sep Go.Ab
set_option maxRecDepth 100000
end Go.Proofs.YtkjepecoodjbmaaGreatDoor
namespace Go.Proofs.YtkjepecoodjbmaaGreatDoor
open Go Go.Sep Go.Ab Go.Jrn
set_option maxRecDepth 100000
structure Sto where
 l:List Upl
 n:Int
 b:Str
 s:Int
end Go.Proofs.YtkjepecoodjbmaaGreatDoor
namespace Go.Proofs.YtkjepecoodjbmaaGreatDoor
open Go Go.Sep Go.Ab Go.Jrn
set_option maxRecDepth 100000
def Xg (I:Alg) (args:List D) (hp:List HO):Option CT:=match args,hp with
 |[.v (.one (.ptr 0 0)),.v (.one (.p (.int .i64 m)))],[.pack [.obj 54 [(.ptr 1 0),(.ptr 2 0)],.pack [.obj 124 [(.row 1),(.p (.int .i64 n))],.row .upl 81 l],.pack [.obj 156 [(.row 1),(.p (.int .i64 s))],.row .byte 5 b]]]=>(fun(l:List Upl) (n:Int) (b:Str) (s m:Int)=>(some (.one ⟨I.hid (b.length≤100000),(.ret (.v (.one (.p (.bool (I.hid ((zbW b m)))))))),[.pack [.obj 54 [(.ptr 1 0),(.ptr 2 0)],.pack [.obj 124 [(.row 1),(.p (.int .i64 n))],.row .upl 81 l],.pack [.obj 156 [(.row 1),(.p (.int .i64 s))],.row .byte 5 b]]]⟩):Option CT)) l n b s m
 |_,_=>none
theorem zdz:zx Tryz.prog 176 (Xg alg):=by
 intro args hp r h;unfold Xg at h;split at h<;>cases h
 rename_i m n l s b
 revert l;intro(l:List Upl)
 simp only [CT.Good,zi];intro hneed
 refine spcG zh mixed Tryz.func176 (by kernel_rfl) { zc0 with keep:=some [0,1,4]} [zpu,zpt] (by kernel_rfl) ?_
 intro I X hI hX
 refine orcL ?_;go_invoke;refine orcS (by kernel_rfl) ?_
 simp only [zq,Nat.reduceAdd];subst hI;simp only [nrmA,nrmB,nrlB,reduceCtorEq,HO.pack.injEq,HO.obj.injEq]
 (repeat' (first|refine ja ?_ ?_|intro _))<;>first|omega|exact jb|exact jc ‹False›|skip
def xk:Know Tryz.prog:=⟨176,Xg,zdz⟩
def xh:Know Tryz.prog:=⟨176,fun I=>zy I (Xg I),zf zdz⟩
end Go.Proofs.YtkjepecoodjbmaaGreatDoor
namespace Go.Proofs.YtkjepecoodjbmaaGreatDoor
open Go Go.Sep Go.Ab
set_option maxRecDepth 100000
def txtN (base:Nat):Nat→Nat→Str
 |0,_=>[]
 |f+1,n=>if n<base then [if n<10 then UInt8.ofNat (48+n) else UInt8.ofNat (87+n)] else txtN base f (n / base)++[if n % base<10 then UInt8.ofNat (48+n % base) else UInt8.ofNat (87+n % base)]
def dgN (d:Nat):UInt8:=if d<10 then UInt8.ofNat (48+d) else UInt8.ofNat (87+d)
theorem zkj {base f n:Nat} (h:n<base):txtN base (f+1) n=[dgN n]:=by rw [txtN,if_pos h];rfl
theorem zn8 {base f n:Nat} (h: ¬ n<base):txtN base (f+1) n=txtN base f (n / base)++[dgN (n % base)]:=by rw [txtN,if_neg h];rfl
theorem zkk (base:Nat): ∀ f n,(txtN base f n).length≤f
 |0,_=>jL _
 | f +1,n=>by
   rw [txtN]
   split
   · simp
   · have:=zkk base f (n / base)
     rw [jk];simp;omega
theorem zlR: ∀ (k n:Nat),n<10 ^ (k+1)→Lib.decDigits n=txtN 10 (k+1) n
 | 0,n,h=>by
   rw [Lib.decDigits,dif_pos (by omega),zkj (by omega)]
   unfold dgN
   rw [if_pos (by omega)]
 | k +1,n,h=>by
   rw [Lib.decDigits]
   by_cases hn:n<10
   · rw [dif_pos hn,zkj hn]
     unfold dgN;rw [if_pos hn]
   · rw [dif_neg hn,zn8 hn,zlR k (n / 10) (by rw [Nat.pow_succ] at h;omega)]
     unfold dgN
     rw [if_pos (Nat.mod_lt _ (by decide))]
def decS (n:Int):Str:=txtN 10 9 n.toNat
theorem zs9 {n:Int} (h0:0≤n) (h1:n<1000000000):Lib.itoa n=decS n:=by
 unfold Lib.itoa decS
 rw [if_neg (by omega),zlR 8 n.toNat (by omega)]
theorem uO (n:Int):(decS n).length≤9:=zkk 10 9 _
def zfF (I:Alg) (args:List D) (hp:List HO):Option CT:=match args,hp with
 |[.v (.one (.p (.int .i64 n)))],[]=>(fun(n:Int)=>(some (.one ⟨I.hid (0≤n∧n<1000000000),(.ret (.v (.one (.p (.str (I.hid (decS n))))))),[]⟩):Option CT)) n
 |_,_=>none
theorem zqd:zx Tryz.prog 103 (zfF alg):=by
 intro args hp r h;unfold zfF at h;split at h<;>cases h
 rename_i n;simp only [CT.Good,zi];intro hneed
 refine Spc.of_below ⟨_,Tryz.func103,by kernel_rfl,by kernel_rfl⟩ fun S bs w vs hW hM=> ?_
 obtain⟨v,r,rfl⟩: ∃ v r,vs=v::r:=by cases vs with|nil=>exact hM.elim|cons v r=>exact⟨v,r,rfl⟩
 obtain⟨h1,hM⟩:=hM
 obtain rfl:r=[]:=by cases r with|nil=>rfl|cons v r=>exact hM.elim
 cases h1 with
 | int _ _=>
   refine⟨.string (Sep.S (decS n)),.str _ (by have:=uO n;unfold maxLen;omega),?_⟩
   rw [← zs9 hneed.1 hneed.2]
   refine(Tryz.strconv_Itoa n (by omega) (by omega) w (by first|exact hW|exact hW.1)).mono fun e w' h=> ?_
   obtain⟨he,k,os,rfl⟩:=h;refine⟨he,?_⟩
   exact⟨rfl,rfl,rfl,(show w.heap.size≤(w.heap++os).size by rw [Array.size_append];omega),fun j hj=>show(w.heap++os)[j]? =w.heap[j]? from Array.getElem?_append_left hj⟩
def Vg:Know Tryz.prog:=⟨103,zfF,zqd⟩
def Vf:Know Tryz.prog:=⟨103,fun I=>zy I (zfF I),zf zqd⟩
end Go.Proofs.YtkjepecoodjbmaaGreatDoor
namespace Go.Proofs.YtkjepecoodjbmaaGreatDoor
open Go Go.Sep Go.Ab
def qx:Str:=[47,102,105,108,101,115]
def xg:Str:=[47,102,105,108,101,115,47]
def verS:Str:=[49,46,48,46,48]
def zwR:Str:=[79,80,84,73,79,78,83]
def zpG:Str:=[80,79,83,84]
def ztc:Str:=[72,69,65,68]
def Zw:Str:=[80,65,84,67,72]
def ztN:Str:=[68,69,76,69,84,69]
def ziS:Str:=[116,117,115,45,114,101,115,117,109,97,98,108,101]
def xN:Str:=[117,112,108,111,97,100,45,108,101,110,103,116,104]
def zbA:Str:=[117,112,108,111,97,100,45,100,101,102,101,114,45,108,101,110,103,116,104]
def ziP:Str:=[117,112,108,111,97,100,45,109,101,116,97,100,97,116,97]
def Yx:Str:=[117,112,108,111,97,100,45,111,102,102,115,101,116]
def Yc:Str:=[99,111,110,116,101,110,116,45,116,121,112,101]
def octS:Str:=[97,112,112,108,105,99,97,116,105,111,110,47,111,102,102,115,101,116,43,111,99,116,101,116,45,115,116,114,101,97,109]
def zwf:Str:=[84,117,115,45,82,101,115,117,109,97,98,108,101]
def zoa:Str:=[84,117,115,45,86,101,114,115,105,111,110]
def zwh:Str:=[84,117,115,45,77,97,120,45,83,105,122,101]
def zwj:Str:=[84,117,115,45,69,120,116,101,110,115,105,111,110]
def zwi:Str:=[99,114,101,97,116,105,111,110,44,99,114,101,97,116,105,111,110,45,100,101,102,101,114,45,108,101,110,103,116,104,44,116,101,114,109,105,110,97,116,105,111,110]
def locN:Str:=[76,111,99,97,116,105,111,110]
def zbz:Str:=[85,112,108,111,97,100,45,79,102,102,115,101,116]
def zwc:Str:=[85,112,108,111,97,100,45,76,101,110,103,116,104]
def zwd:Str:=[85,112,108,111,97,100,45,68,101,102,101,114,45,76,101,110,103,116,104]
def zwb:Str:=[85,112,108,111,97,100,45,77,101,116,97,100,97,116,97]
def zxA:Str:=[67,97,99,104,101,45,67,111,110,116,114,111,108]
def zwV:Str:=[110,111,45,115,116,111,114,101]
def oneT (f:List Fld) (n:Str):Str × Int:=oneF (valsF f n)
def Wy (f:List Fld) (n:Str):Bool:=decide ((oneT f n).2=10)||(decide ((oneT f n).2=0)&&(numA (oneT f n).1 10 9).2)
def yB (f:List Fld) (n:Str):Int:=if(oneT f n).2=10 then -1 else(numA (oneT f n).1 10 9).1
def Uz (f:List Fld):Bool:=decide ((oneT f zbA).2=10)||(decide ((oneT f zbA).2=0)&&decide ((oneT f zbA).1=[49]))
def zhi (f:List Fld):Bool:=decide ((oneT f zbA).2=0)
def VG (c:Int):Int:=if c=10 then 404 else if c=17∨c=19 then 409 else if c=4 then 413 else if c=8∨c=16 then 507 else 400
def wsS (q:Sto) (e:Ent):Sto:=⟨wrtL q.l q.n q.b e,wrtN q.l q.n q.b e,wrtB q.l q.n q.b e,q.s⟩
def wsC (q:Sto) (e:Ent):Int:=wrtC q.l q.n q.b e
def syS (q:Sto):Sto:= { q with s:=(q.b.length:Int)}
def creE (q:Sto) (n:Int) (t:Str):Ent:=⟨1,q.n+1,n,t⟩
structure TA where
 st:Int
 fs:List Fld
 q:Sto
def vO (q:Sto) (f:List Fld):TA:=
 if Wy f xN=false then⟨400,[],q⟩
 else if Uz f=false then⟨400,[],q⟩
 else if decide (0≤yB f xN)=zhi f then⟨400,[],q⟩
 else if(oneT f ziP).2=9 then⟨400,[],q⟩
 else if wsC q (creE q (yB f xN) (oneT f ziP).1)≠0 then⟨VG (wsC q (creE q (yB f xN) (oneT f ziP).1)),[],q⟩
 else⟨201,[⟨locN,xg++decS (q.n+1)⟩],syS (wsS q (creE q (yB f xN) (oneT f ziP).1))⟩
def idB (t:Str):Bool:=Lib.hasPrefix t xg&&((numA (t.drop 7) 10 9).2&&decide (decS (numA (t.drop 7) 10 9).1=t.drop 7))
def idV (t:Str):Int:=(numA (t.drop 7) 10 9).1
def uplB (q:Sto) (t:Str):Bool:=idB t&&getB q.l (idV t)
def lenF (u:Upl):Fld:=if u.size<0 then⟨zwd,[49]⟩ else⟨zwc,decS u.size⟩
def zdb (u:Upl):List Fld:=[⟨zbz,decS (u.bytes.length:Int)⟩,lenF u,⟨zxA,zwV⟩]++(if u.note=[] then [] else [⟨zwb,u.note⟩])
def tJ (q:Sto) (u:Upl) (f:List Fld) (body:Str):TA:=
 if(oneT f Yc).2=9 then⟨400,[],q⟩
 else if(wI (oneT f Yc).1).2≠0∨(wI (oneT f Yc).1).1.word≠octS then⟨415,[],q⟩
 else if Wy f Yx=false then⟨400,[],q⟩
 else if yB f Yx<0 then⟨400,[],q⟩
 else if yB f Yx≠(u.bytes.length:Int) then⟨409,[],q⟩
 else if Wy f xN=false then⟨400,[],q⟩
 else if 0≤yB f xN∧0≤u.size∧yB f xN≠u.size then⟨400,[],q⟩
 else if 0≤yB f xN∧u.size<0∧(2000<yB f xN∨yB f xN<yB f Yx+(body.length:Int)) then⟨413,[],q⟩
 else if zbW q.b ((body.length:Int)+60)=false then⟨507,[],q⟩
 else if(if apG q.l u.id (yB f Yx) then 17 else wsC q (apE u.id body))≠0 then⟨VG (if apG q.l u.id (yB f Yx) then 17 else wsC q (apE u.id body)),[],q⟩
 else if 0≤yB f xN∧u.size<0 then
  if wsC (wsS q (apE u.id body)) ⟨3,u.id,yB f xN,[]⟩≠0 then⟨VG (wsC (wsS q (apE u.id body)) ⟨3,u.id,yB f xN,[]⟩),[],wsS q (apE u.id body)⟩
  else⟨204,[⟨zbz,decS (yB f Yx+(body.length:Int))⟩],syS (wsS (wsS q (apE u.id body)) ⟨3,u.id,yB f xN,[]⟩)⟩
 else⟨204,[⟨zbz,decS (yB f Yx+(body.length:Int))⟩],syS (wsS q (apE u.id body))⟩
def zdk (q:Sto) (u:Upl):TA:=
 if wsC q ⟨4,u.id,0,[]⟩≠0 then⟨VG (wsC q ⟨4,u.id,0,[]⟩),[],q⟩ else⟨204,[],syS (wsS q ⟨4,u.id,0,[]⟩)⟩
def yY (q:Sto) (m t:Str) (f:List Fld) (body:Str):TA:=
 if t=qx∧m=zwR then⟨204,[⟨zoa,verS⟩,⟨zwh,decS 2000⟩,⟨zwj,zwi⟩],q⟩
 else if(oneT f ziS).2=9 then⟨400,[],q⟩
 else if(oneT f ziS).1≠verS then⟨412,[⟨zoa,verS⟩],q⟩
 else if t=qx then(if m≠zpG then⟨405,[],q⟩ else vO q f)
 else if uplB q t=false then⟨404,[],q⟩
 else if m=ztc then⟨200,zdb (getU q.l (idV t)),q⟩
 else if m=Zw then tJ q (getU q.l (idV t)) f body
 else if m=ztN then zdk q (getU q.l (idV t))
 else⟨405,[],q⟩
def resT:Fld:=⟨zwf,verS⟩
end Go.Proofs.YtkjepecoodjbmaaGreatDoor
namespace Go.Proofs.YtkjepecoodjbmaaGreatDoor
open Go Go.Sep Go.Ab
def SL (n:Int):Str:=
 if n=200 then [79,75]
 else if n=201 then [67,114,101,97,116,101,100]
 else if n=204 then [78,111,32,67,111,110,116,101,110,116]
 else if n=400 then [66,97,100,32,82,101,113,117,101,115,116]
 else if n=404 then [78,111,116,32,70,111,117,110,100]
 else if n=405 then [77,101,116,104,111,100,32,78,111,116,32,65,108,108,111,119,101,100]
 else if n=409 then [67,111,110,102,108,105,99,116]
 else if n=412 then [80,114,101,99,111,110,100,105,116,105,111,110,32,70,97,105,108,101,100]
 else if n=413 then [67,111,110,116,101,110,116,32,84,111,111,32,76,97,114,103,101]
 else if n=415 then [85,110,115,117,112,112,111,114,116,101,100,32,77,101,100,105,97,32,84,121,112,101]
 else if n=507 then [73,110,115,117,102,102,105,99,105,101,110,116,32,83,116,111,114,97,103,101]
 else []
def badF:List Fld→Int
 |[]=>0
 |f::l=>if(textF f).2=0 then badF l else(textF f).2
def Yt:List Fld→Str
 |[]=>[]
 |f::l=>(textF f).1++[13,10]++Yt l
theorem zqJ (a b:List Fld):Yt (a++b)=Yt a++Yt b:=by
 induction a with
 |nil=>rfl
 |cons f l ih=>simp only [List.cons_append,Yt,ih,jo]
def zju (st:Int):Str:=[72,84,84,80,47,49,46,49,32]++decS st++[32]++SL st++[13,10]
def zr0 (n:Int):Str:=[67,111,110,116,101,110,116,45,76,101,110,103,116,104,58,32]++decS n++[13,10,13,10]
def zv1:Str:=[99,111,110,116,101,110,116,45,108,101,110,103,116,104]
def zdq (st:Int) (fs:List Fld):Int:=
 if SL st=[] then 11 else if 16≤fs.length then 8 else if 0<(valsF fs zv1).length then 12 else badF fs
def writeT (st:Int) (fs:List Fld) (body:Str):Str:=
 if zdq st fs=0 then zju st++Yt fs++zr0 body.length++body else []
theorem zgp (f:Fld):(textF f).1.length≤200:=by
 unfold textF
 split
 · simp
 split
 · simp
 split
 · simp
 · simp only [jk,jh,ji];omega
theorem zcM: ∀ l:List Fld,(Yt l).length≤202 * l.length
 |[]=>by simp [Yt]
 | f::l=>by
   have:=zgp f;have:=zcM l;simp only [Yt,jk,jh,ji];omega
theorem zrT {n:Int} (h:SL n≠[]):n=200∨n=201∨n=204∨n=400∨n=404∨n=405∨n=409∨n=412∨n=413∨n=415∨n=507:=by
 refine Decidable.byContradiction fun hn=>h ?_;simp only [not_or] at hn
 simp [SL,hn]
theorem zbw {n:Int} (h:SL n≠[]):200≤n∧n≤507∧(SL n).length≤30:=by
 rcases zrT h with rfl|rfl|rfl|rfl|rfl|rfl|rfl|rfl|rfl|rfl|rfl<;>decide
end Go.Proofs.YtkjepecoodjbmaaGreatDoor
namespace Go.Proofs.YtkjepecoodjbmaaGreatDoor
open Go Go.Sep Go.Ab
def ln0:Ln:=⟨[],false,0⟩
def zmZ (c:UInt8):Bool:=zbP (c.toNat:Int)
def lnF (s:Ln) (c:UInt8):Ln × Str × Bool × Int:=
 if s.code≠0 then(s,[],false,s.code)
 else if s.cr then(if c=10 then(⟨[],false,0⟩,s.b,true,0) else(⟨s.b,s.cr,2⟩,[],false,2))
 else if c=10 then(⟨s.b,s.cr,2⟩,[],false,2)
 else if c=13 then(⟨s.b,true,s.code⟩,[],false,0)
 else if zmZ c=false then(⟨s.b,s.cr,3⟩,[],false,3)
 else if s.b.length=200 then(⟨s.b,s.cr,4⟩,[],false,4)
 else(⟨s.b++[c],s.cr,s.code⟩,[],false,0)
def lnB (s:Ln):Bool:=decide (0<s.b.length)||s.cr
def vU (pre:Str):Str→Str × Int × Bool × Int
 |[]=>([],0,false,0)
 | c ::r=>
   if c=13 then
    match r with
    |[]=>([],0,false,0)
    |d::_=>if d=10 then(pre,(pre.length:Int)+2,true,0) else([],(pre.length:Int)+2,false,2)
   else if c=10 then([],(pre.length:Int)+1,false,2)
   else if zmZ c=false then([],(pre.length:Int)+1,false,3)
   else if pre.length=200 then([],(pre.length:Int)+1,false,4)
   else vU (pre++[c]) r
def zF (b:Str):Str × Int × Bool × Int:=vU [] b
inductive LnR where
 |more (s:Ln)
 |line (t rest:Str)
 |bad (e:Int) (rest:Str)
def wU (s:Ln):Str→LnR
 |[]=>.more s
 |c::r=>if(lnF s c).2.2.1=true then .line (lnF s c).2.1 r else if(lnF s c).2.2.2≠0 then .bad (lnF s c).2.2.2 r else wU (lnF s c).1 r
def LnIs (pre r:Str):LnR→Prop
 |.more s=>vU pre r=([],0,false,0)∧s.code=0∧(lnB s=true↔r≠[]∨pre≠[])
 |.line t rest=>∃ n:Nat,vU pre r=(t,((pre.length+n:Nat):Int),true,0)∧n≤r.length∧0<n∧rest=r.drop n
 |.bad e rest=>∃ n:Nat,vU pre r=([],((pre.length+n:Nat):Int),false,e)∧e≠0∧n≤r.length∧0<n∧rest=r.drop n
theorem zp4: ∀ (r pre:Str),LnIs pre r (wU ⟨pre,false,0⟩ r)
 |[],pre=>⟨rfl,rfl,by cases pre<;>simp [lnB]⟩
 | c :: r,pre=>by
   by_cases h10:c=10
   · subst h10
     have e:wU ⟨pre,false,0⟩ (10::r)=.bad 2 r:=by simp [wU,lnF]
     rw [e]
     exact⟨1,by simp [vU],by decide,by simp,by decide,rfl⟩
   by_cases h13:c=13
   · subst h13
     cases r with
     | nil=>
       have e:wU ⟨pre,false,0⟩ [13]=.more ⟨pre,true,0⟩:=by simp [wU,lnF]
       rw [e]
       exact⟨by simp [vU],rfl,by simp [lnB]⟩
     | cons d r=>
       by_cases hd:d=10
       · subst hd
         have e:wU ⟨pre,false,0⟩ (13::10::r)=.line pre r:=by simp [wU,lnF]
         rw [e]
         exact⟨2,by simp [vU],by simp,by decide,by simp⟩
       · have e:wU ⟨pre,false,0⟩ (13::d::r)=.bad 2 r:=by simp [wU,lnF,hd]
         rw [e]
         exact⟨2,by simp [vU,hd],by decide,by simp,by decide,by simp⟩
   by_cases hs:zmZ c=false
   · have e:wU ⟨pre,false,0⟩ (c::r)=.bad 3 r:=by simp [wU,lnF,h10,h13,hs]
     rw [e]
     exact⟨1,by simp [vU.eq_def,h10,h13,hs],by decide,by simp,by decide,rfl⟩
   by_cases hl:pre.length=200
   · have e:wU ⟨pre,false,0⟩ (c::r)=.bad 4 r:=by simp [wU,lnF,h10,h13,hs,hl]
     rw [e]
     exact⟨1,by rw [vU.eq_def];simp [h10,h13,hs,hl],by decide,by simp,by decide,rfl⟩
   have ih:=zp4 r (pre++[c])
   have e1:lnF ⟨pre,false,0⟩ c=(⟨pre++[c],false,0⟩,[],false,0):=by simp [lnF,h10,h13,hs,hl]
   have e2:vU pre (c::r)=vU (pre++[c]) r:=by rw [vU.eq_def];simp [h10,h13,hs,hl]
   have e3:wU ⟨pre,false,0⟩ (c::r)=wU ⟨pre++[c],false,0⟩ r:=by rw [wU,e1];simp
   rw [e3];generalize wU ⟨pre++[c],false,0⟩ r=x at ih
   cases x with
   | more s=>
     obtain⟨h1,h2,h3⟩:=ih
     exact⟨by rw [e2,h1],h2,by rw [h3];simp⟩
   | line t rest=>
     obtain⟨n,h1,h2,h3,h4⟩:=ih
     exact⟨n+1,by rw [e2,h1];simp;omega,by simp;omega,by omega,by rw [h4];simp⟩
   | bad e rest=>
     obtain⟨n,h1,h2,h3,h4,h5⟩:=ih
     exact⟨n+1,by rw [e2,h1];simp;omega,h2,by simp;omega,by omega,by rw [h5];simp⟩
theorem zfA (r:Str):LnIs [] r (wU ln0 r):=zp4 r []
theorem YL (s:Ln) (c:UInt8):(lnF s c).2.1.length≤s.b.length:=by
 unfold lnF
 repeat' split
 all_goals simp
theorem zsZ (s:Ln) (c:UInt8):(lnF s c).1.b.length≤s.b.length+1:=by
 unfold lnF
 repeat' split
 all_goals simp
end Go.Proofs.YtkjepecoodjbmaaGreatDoor
