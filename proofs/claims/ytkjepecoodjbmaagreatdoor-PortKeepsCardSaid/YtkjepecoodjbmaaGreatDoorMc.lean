/- Texts of this proof, one behind the other: Shelf Lib ChrA ChrB ChrC ParL ParA ParC ParD Fnd FldA FldB FldG FldD FldE ChrD ChrN Base SplL SplA SplB JrnL JrnA JrnB JrnC JrnG JrnP StoL StoA SplC SplS SplD StoB StoN Num TusL RplL LnL LnR ChkL Evt ReqL ReqP. -/
import Derived.Shelf.Strings.SlTrimAscii
import Derived.Shelf.Strings.Trim
import Derived.Shelf.Small.Utf8
import Derived.Shelf.Small.Strs
import Derived.Shelf.Small.Wraps
import Derived.Shelf.Strconv.Itoa0
import Derived.Shelf.Strconv.Itoa1
import Derived.Shelf.LaysM
import Derived.Shelf.Strconv.Itoa2
import Derived.Shelf.Strconv.Itoa3
import Derived.Shelf.Strings.Search1
import Derived.Shelf.Strings.Search2
import Derived.Shelf.Strings.Search3
import Derived.Shelf.Strings.Cut
import Derived.Shelf.Strings.Count
import Derived.Shelf.Strings.Shaped
import Derived.Shelf.Strings.Prefix
import Derived.Shelf.Strings.Split
import Derived.Shelf.Strings.Runes
import Derived.Shelf.Strings.IndexAny
import Derived.Shelf.Strings.AsciiSet
import Derived.Shelf.Strings.IndexAnyAll
import Derived.Shelf.Unicode.DecodeSlow
import Derived.Test.YtkjepecoodjbmaaGreatDoorProg
import Derived.Below
import Derived.Lib.ItoaNum
import Derived.Test.YtkjepecoodjbmaaGreatDoorMb
set_option linter.all false
namespace Go.Proofs
open Go.Shelf
def Tryz.zhR:Go.Shelf.Ren:=⟨fun|161=>278|231=>265|227=>234|233=>267|235=>269|228=>235|197=>283|151=>284|260=>293|152=>232|137=>231|119=>262|224=>263|225=>264|217=>261|266=>282|n=>n,fun|9=>9|4=>4|3=>3|5=>5|117=>275|116=>274|0=>0|124=>295|105=>306|21=>21|119=>316|46=>117|139=>319|138=>318|n=>n,fun|3=>4|4=>5|n=>n⟩
theorem Tryz.lays161:Go.Proofs.Lays.n161 Tryz.prog Tryz.zhR:= {
 mixed:=by kernel_rfl
 f119:=Tryz.func262.trans (congrArg some (by kernel_rfl))
 f137:=Tryz.func231.trans (congrArg some (by kernel_rfl))
 f151:=Tryz.func284.trans (congrArg some (by kernel_rfl))
 f152:=Tryz.func232.trans (congrArg some (by kernel_rfl))
 f161:=Tryz.func278.trans (congrArg some (by kernel_rfl))
 f197:=Tryz.func283.trans (congrArg some (by kernel_rfl))
 f217:=Tryz.func261.trans (congrArg some (by kernel_rfl))
 f224:=Tryz.func263.trans (congrArg some (by kernel_rfl))
 f225:=Tryz.func264.trans (congrArg some (by kernel_rfl))
 f227:=Tryz.func234.trans (congrArg some (by kernel_rfl))
 f228:=Tryz.func235.trans (congrArg some (by kernel_rfl))
 f231:=Tryz.func265.trans (congrArg some (by kernel_rfl))
 f233:=Tryz.func267.trans (congrArg some (by kernel_rfl))
 f235:=Tryz.func269.trans (congrArg some (by kernel_rfl))
 f260:=Tryz.func293.trans (congrArg some (by kernel_rfl))
 f266:=Tryz.func282.trans (congrArg some (by kernel_rfl))
 t0:=Tryz.underlying0
 a0:=Tryz.isAgg0
 z0:=Tryz.sizeOf0
 v0:=Tryz.zeroValue0
 t3:=Tryz.underlying3
 a3:=Tryz.isAgg3
 z3:=Tryz.sizeOf3
 v3:=Tryz.zeroValue3
 t4:=Tryz.underlying4
 a4:=Tryz.isAgg4
 z4:=Tryz.sizeOf4
 v4:=Tryz.zeroValue4
 t5:=Tryz.underlying5
 a5:=Tryz.isAgg5
 z5:=Tryz.sizeOf5
 v5:=Tryz.zeroValue5
 t9:=Tryz.underlying9
 a9:=Tryz.isAgg9
 z9:=Tryz.sizeOf9
 v9:=Tryz.zeroValue9
 t21:=Tryz.underlying21
 a21:=Tryz.isAgg21
 z21:=Tryz.sizeOf21
 v21:=Tryz.zeroValue21
 t46:=Tryz.underlying117
 a46:=Tryz.isAgg117
 z46:=Tryz.sizeOf117
 v46:=Tryz.zeroValue117
 t105:=Tryz.underlying306
 a105:=Tryz.isAgg306
 z105:=Tryz.sizeOf306
 v105:=Tryz.zeroValue306
 t116:=Tryz.underlying274
 a116:=Tryz.isAgg274
 z116:=Tryz.sizeOf274
 t117:=Tryz.underlying275
 a117:=Tryz.isAgg275
 z117:=Tryz.sizeOf275
 v117:=Tryz.zeroValue275
 t119:=Tryz.underlying316
 a119:=Tryz.isAgg316
 z119:=Tryz.sizeOf316
 t124:=Tryz.underlying295
 a124:=Tryz.isAgg295
 z124:=Tryz.sizeOf295
 v124:=Tryz.zeroValue295
 t138:=Tryz.underlying318
 a138:=Tryz.isAgg318
 z138:=Tryz.sizeOf318
 v138:=Tryz.zeroValue318
 t139:=Tryz.underlying319
 a139:=Tryz.isAgg319
 z139:=Tryz.sizeOf319
 v139:=Tryz.zeroValue319
 g3:=by kernel_rfl
 g4:=by kernel_rfl}
def Tryz.zhS:Go.Shelf.Ren:=⟨fun|160=>237|232=>266|231=>265|227=>234|234=>268|233=>267|236=>270|235=>269|228=>235|271=>285|151=>284|197=>283|120=>294|152=>232|260=>293|137=>231|119=>262|224=>263|225=>264|217=>261|266=>282|n=>n,fun|9=>9|4=>4|3=>3|5=>5|117=>275|116=>274|0=>0|124=>295|21=>21|105=>306|46=>117|119=>316|139=>319|138=>318|n=>n,fun|3=>4|4=>5|n=>n⟩
theorem Tryz.lays160:Go.Proofs.Lays.n160 Tryz.prog Tryz.zhS:= {
 mixed:=by kernel_rfl
 f119:=Tryz.func262.trans (congrArg some (by kernel_rfl))
 f120:=Tryz.func294.trans (congrArg some (by kernel_rfl))
 f137:=Tryz.func231.trans (congrArg some (by kernel_rfl))
 f151:=Tryz.func284.trans (congrArg some (by kernel_rfl))
 f152:=Tryz.func232.trans (congrArg some (by kernel_rfl))
 f160:=Tryz.func237.trans (congrArg some (by kernel_rfl))
 f197:=Tryz.func283.trans (congrArg some (by kernel_rfl))
 f217:=Tryz.func261.trans (congrArg some (by kernel_rfl))
 f224:=Tryz.func263.trans (congrArg some (by kernel_rfl))
 f225:=Tryz.func264.trans (congrArg some (by kernel_rfl))
 f227:=Tryz.func234.trans (congrArg some (by kernel_rfl))
 f228:=Tryz.func235.trans (congrArg some (by kernel_rfl))
 f231:=Tryz.func265.trans (congrArg some (by kernel_rfl))
 f232:=Tryz.func266.trans (congrArg some (by kernel_rfl))
 f233:=Tryz.func267.trans (congrArg some (by kernel_rfl))
 f234:=Tryz.func268.trans (congrArg some (by kernel_rfl))
 f235:=Tryz.func269.trans (congrArg some (by kernel_rfl))
 f236:=Tryz.func270.trans (congrArg some (by kernel_rfl))
 f260:=Tryz.func293.trans (congrArg some (by kernel_rfl))
 f266:=Tryz.func282.trans (congrArg some (by kernel_rfl))
 f271:=Tryz.func285.trans (congrArg some (by kernel_rfl))
 t0:=Tryz.underlying0
 a0:=Tryz.isAgg0
 z0:=Tryz.sizeOf0
 v0:=Tryz.zeroValue0
 t3:=Tryz.underlying3
 a3:=Tryz.isAgg3
 z3:=Tryz.sizeOf3
 v3:=Tryz.zeroValue3
 t4:=Tryz.underlying4
 a4:=Tryz.isAgg4
 z4:=Tryz.sizeOf4
 v4:=Tryz.zeroValue4
 t5:=Tryz.underlying5
 a5:=Tryz.isAgg5
 z5:=Tryz.sizeOf5
 v5:=Tryz.zeroValue5
 t9:=Tryz.underlying9
 a9:=Tryz.isAgg9
 z9:=Tryz.sizeOf9
 v9:=Tryz.zeroValue9
 t21:=Tryz.underlying21
 a21:=Tryz.isAgg21
 z21:=Tryz.sizeOf21
 v21:=Tryz.zeroValue21
 t46:=Tryz.underlying117
 a46:=Tryz.isAgg117
 z46:=Tryz.sizeOf117
 v46:=Tryz.zeroValue117
 t105:=Tryz.underlying306
 a105:=Tryz.isAgg306
 z105:=Tryz.sizeOf306
 v105:=Tryz.zeroValue306
 t116:=Tryz.underlying274
 a116:=Tryz.isAgg274
 z116:=Tryz.sizeOf274
 t117:=Tryz.underlying275
 a117:=Tryz.isAgg275
 z117:=Tryz.sizeOf275
 v117:=Tryz.zeroValue275
 t119:=Tryz.underlying316
 a119:=Tryz.isAgg316
 z119:=Tryz.sizeOf316
 t124:=Tryz.underlying295
 a124:=Tryz.isAgg295
 z124:=Tryz.sizeOf295
 v124:=Tryz.zeroValue295
 t138:=Tryz.underlying318
 a138:=Tryz.isAgg318
 z138:=Tryz.sizeOf318
 v138:=Tryz.zeroValue318
 t139:=Tryz.underlying319
 a139:=Tryz.isAgg319
 z139:=Tryz.sizeOf319
 v139:=Tryz.zeroValue319
 g3:=by kernel_rfl
 g4:=by kernel_rfl}
def Tryz.zhU:Go.Shelf.Ren:=⟨fun|137=>231|217=>261|266=>282|n=>n,fun|9=>9|5=>5|3=>3|n=>n,fun|n=>n⟩
theorem Tryz.lays137:Go.Proofs.Lays.n137 Tryz.prog Tryz.zhU:= {
 mixed:=by kernel_rfl
 f137:=Tryz.func231.trans (congrArg some (by kernel_rfl))
 f217:=Tryz.func261.trans (congrArg some (by kernel_rfl))
 f266:=Tryz.func282.trans (congrArg some (by kernel_rfl))
 t3:=Tryz.underlying3
 a3:=Tryz.isAgg3
 z3:=Tryz.sizeOf3
 v3:=Tryz.zeroValue3
 t5:=Tryz.underlying5
 a5:=Tryz.isAgg5
 z5:=Tryz.sizeOf5
 v5:=Tryz.zeroValue5
 t9:=Tryz.underlying9
 a9:=Tryz.isAgg9
 z9:=Tryz.sizeOf9
 v9:=Tryz.zeroValue9}
def Tryz.zhV:Go.Shelf.Ren:=⟨fun|103=>181|210=>218|206=>85|n=>n,fun|9=>9|4=>4|24=>201|3=>3|n=>n,fun|n=>n⟩
theorem Tryz.zul:Go.Proofs.Lays.n103 Tryz.prog Tryz.zhV:= {
 mixed:=by kernel_rfl
 f103:=Tryz.func181.trans (congrArg some (by kernel_rfl))
 f206:=Tryz.func85.trans (congrArg some (by kernel_rfl))
 f210:=Tryz.func218.trans (congrArg some (by kernel_rfl))
 t3:=Tryz.underlying3
 a3:=Tryz.isAgg3
 z3:=Tryz.sizeOf3
 v3:=Tryz.zeroValue3
 t4:=Tryz.underlying4
 a4:=Tryz.isAgg4
 z4:=Tryz.sizeOf4
 v4:=Tryz.zeroValue4
 t9:=Tryz.underlying9
 a9:=Tryz.isAgg9
 z9:=Tryz.sizeOf9
 v9:=Tryz.zeroValue9
 t24:=Tryz.underlying201
 a24:=Tryz.isAgg201
 z24:=Tryz.sizeOf201
 v24:=Tryz.zeroValue201}
def Tryz.zfD:Go.Shelf.Ren:=⟨fun|171=>103|243=>141|246=>191|283=>225|284=>226|285=>227|286=>228|129=>257|317=>256|318=>258|319=>259|320=>260|337=>280|338=>281|n=>n,fun|3=>3|9=>9|2=>2|4=>4|171=>265|0=>0|53=>266|37=>22|5=>5|173=>269|212=>290|51=>291|20=>20|213=>292|46=>117|232=>312|233=>313|n=>n,fun|17=>0|18=>2|19=>3|n=>n⟩
theorem Tryz.laysM171:Go.Proofs.LaysM.n171 Tryz.prog Tryz.zfD:= {
 mixed:=by kernel_rfl
 f129:=Tryz.func257.trans (congrArg some (by kernel_rfl))
 f171:=Tryz.func103.trans (congrArg some (by kernel_rfl))
 f243:=Tryz.func141.trans (congrArg some (by kernel_rfl))
 f246:=Tryz.func191.trans (congrArg some (by kernel_rfl))
 f283:=Tryz.func225.trans (congrArg some (by kernel_rfl))
 f284:=Tryz.func226.trans (congrArg some (by kernel_rfl))
 f285:=Tryz.func227.trans (congrArg some (by kernel_rfl))
 f286:=Tryz.func228.trans (congrArg some (by kernel_rfl))
 f317:=Tryz.func256.trans (congrArg some (by kernel_rfl))
 f318:=Tryz.func258.trans (congrArg some (by kernel_rfl))
 f319:=Tryz.func259.trans (congrArg some (by kernel_rfl))
 f320:=Tryz.func260.trans (congrArg some (by kernel_rfl))
 f337:=Tryz.func280.trans (congrArg some (by kernel_rfl))
 f338:=Tryz.func281.trans (congrArg some (by kernel_rfl))
 t0:=Tryz.underlying0
 a0:=Tryz.isAgg0
 z0:=Tryz.sizeOf0
 v0:=Tryz.zeroValue0
 t2:=Tryz.underlying2
 a2:=Tryz.isAgg2
 z2:=Tryz.sizeOf2
 v2:=Tryz.zeroValue2
 t3:=Tryz.underlying3
 a3:=Tryz.isAgg3
 z3:=Tryz.sizeOf3
 v3:=Tryz.zeroValue3
 t4:=Tryz.underlying4
 a4:=Tryz.isAgg4
 z4:=Tryz.sizeOf4
 v4:=Tryz.zeroValue4
 t5:=Tryz.underlying5
 a5:=Tryz.isAgg5
 z5:=Tryz.sizeOf5
 v5:=Tryz.zeroValue5
 t9:=Tryz.underlying9
 a9:=Tryz.isAgg9
 z9:=Tryz.sizeOf9
 v9:=Tryz.zeroValue9
 t20:=Tryz.underlying20
 a20:=Tryz.isAgg20
 z20:=Tryz.sizeOf20
 v20:=Tryz.zeroValue20
 t37:=Tryz.underlying22
 a37:=Tryz.isAgg22
 z37:=Tryz.sizeOf22
 v37:=Tryz.zeroValue22
 t46:=Tryz.underlying117
 a46:=Tryz.isAgg117
 z46:=Tryz.sizeOf117
 v46:=Tryz.zeroValue117
 t51:=Tryz.underlying291
 a51:=Tryz.isAgg291
 z51:=Tryz.sizeOf291
 v51:=Tryz.zeroValue291
 t53:=Tryz.underlying266
 a53:=Tryz.isAgg266
 z53:=Tryz.sizeOf266
 v53:=Tryz.zeroValue266
 t171:=Tryz.underlying265
 a171:=Tryz.isAgg265
 z171:=Tryz.sizeOf265
 v171:=Tryz.zeroValue265
 t173:=Tryz.underlying269
 a173:=Tryz.isAgg269
 z173:=Tryz.sizeOf269
 v173:=Tryz.zeroValue269
 t212:=Tryz.underlying290
 a212:=Tryz.isAgg290
 z212:=Tryz.sizeOf290
 v212:=Tryz.zeroValue290
 t213:=Tryz.underlying292
 a213:=Tryz.isAgg292
 z213:=Tryz.sizeOf292
 t232:=Tryz.underlying312
 a232:=Tryz.isAgg312
 z232:=Tryz.sizeOf312
 v232:=Tryz.zeroValue312
 t233:=Tryz.underlying313
 a233:=Tryz.isAgg313
 z233:=Tryz.sizeOf313
 v233:=Tryz.zeroValue313
 g17:=by kernel_rfl
 g18:=by kernel_rfl
 g19:=by kernel_rfl
 i0:=by kernel_rfl
 i2:=by kernel_rfl
 i3:=by kernel_rfl
 i4:=by kernel_rfl
 i5:=by kernel_rfl
 i9:=by kernel_rfl
 i20:=by kernel_rfl
 i37:=by kernel_rfl
 i46:=by kernel_rfl
 i51:=by kernel_rfl
 i53:=by kernel_rfl
 i171:=by kernel_rfl
 i173:=by kernel_rfl
 i212:=by kernel_rfl
 i232:=by kernel_rfl
 i233:=by kernel_rfl
 m17:=by kernel_rfl
 m18:=by kernel_rfl
 m19:=by kernel_rfl}
def Tryz.zhQ:Go.Shelf.Ren:=⟨fun|219=>273|217=>261|225=>264|224=>263|267=>288|266=>282|314=>295|n=>n,fun|9=>9|3=>3|4=>4|5=>5|46=>117|146=>314|51=>291|n=>n,fun|1=>1|n=>n⟩
theorem Tryz.lays219:Go.Proofs.Lays.n219 Tryz.prog Tryz.zhQ:= {
 mixed:=by kernel_rfl
 f217:=Tryz.func261.trans (congrArg some (by kernel_rfl))
 f219:=Tryz.func273.trans (congrArg some (by kernel_rfl))
 f224:=Tryz.func263.trans (congrArg some (by kernel_rfl))
 f225:=Tryz.func264.trans (congrArg some (by kernel_rfl))
 f266:=Tryz.func282.trans (congrArg some (by kernel_rfl))
 f267:=Tryz.func288.trans (congrArg some (by kernel_rfl))
 f314:=Tryz.func295.trans (congrArg some (by kernel_rfl))
 t3:=Tryz.underlying3
 a3:=Tryz.isAgg3
 z3:=Tryz.sizeOf3
 v3:=Tryz.zeroValue3
 t4:=Tryz.underlying4
 a4:=Tryz.isAgg4
 z4:=Tryz.sizeOf4
 v4:=Tryz.zeroValue4
 t5:=Tryz.underlying5
 a5:=Tryz.isAgg5
 z5:=Tryz.sizeOf5
 v5:=Tryz.zeroValue5
 t9:=Tryz.underlying9
 a9:=Tryz.isAgg9
 z9:=Tryz.sizeOf9
 v9:=Tryz.zeroValue9
 t46:=Tryz.underlying117
 a46:=Tryz.isAgg117
 z46:=Tryz.sizeOf117
 v46:=Tryz.zeroValue117
 t51:=Tryz.underlying291
 a51:=Tryz.isAgg291
 z51:=Tryz.sizeOf291
 v51:=Tryz.zeroValue291
 t146:=Tryz.underlying314
 a146:=Tryz.isAgg314
 z146:=Tryz.sizeOf314
 v146:=Tryz.zeroValue314
 g1:=by kernel_rfl}
def Tryz.zhT:Go.Shelf.Ren:=⟨fun|144=>211|143=>242|219=>273|217=>261|225=>264|224=>263|267=>288|266=>282|314=>295|n=>n,fun|9=>9|4=>4|3=>3|5=>5|46=>117|146=>314|51=>291|n=>n,fun|1=>1|n=>n⟩
theorem Tryz.lays144:Go.Proofs.Lays.n144 Tryz.prog Tryz.zhT:= {
 mixed:=by kernel_rfl
 f143:=Tryz.func242.trans (congrArg some (by kernel_rfl))
 f144:=Tryz.func211.trans (congrArg some (by kernel_rfl))
 f217:=Tryz.func261.trans (congrArg some (by kernel_rfl))
 f219:=Tryz.func273.trans (congrArg some (by kernel_rfl))
 f224:=Tryz.func263.trans (congrArg some (by kernel_rfl))
 f225:=Tryz.func264.trans (congrArg some (by kernel_rfl))
 f266:=Tryz.func282.trans (congrArg some (by kernel_rfl))
 f267:=Tryz.func288.trans (congrArg some (by kernel_rfl))
 f314:=Tryz.func295.trans (congrArg some (by kernel_rfl))
 t3:=Tryz.underlying3
 a3:=Tryz.isAgg3
 z3:=Tryz.sizeOf3
 v3:=Tryz.zeroValue3
 t4:=Tryz.underlying4
 a4:=Tryz.isAgg4
 z4:=Tryz.sizeOf4
 v4:=Tryz.zeroValue4
 t5:=Tryz.underlying5
 a5:=Tryz.isAgg5
 z5:=Tryz.sizeOf5
 v5:=Tryz.zeroValue5
 t9:=Tryz.underlying9
 a9:=Tryz.isAgg9
 z9:=Tryz.sizeOf9
 v9:=Tryz.zeroValue9
 t46:=Tryz.underlying117
 a46:=Tryz.isAgg117
 z46:=Tryz.sizeOf117
 v46:=Tryz.zeroValue117
 t51:=Tryz.underlying291
 a51:=Tryz.isAgg291
 z51:=Tryz.sizeOf291
 v51:=Tryz.zeroValue291
 t146:=Tryz.underlying314
 a146:=Tryz.isAgg314
 z146:=Tryz.sizeOf314
 v146:=Tryz.zeroValue314
 g1:=by kernel_rfl}
def Tryz.lays99_ren:Go.Shelf.Ren:=⟨fun|99=>48|206=>85|n=>n,fun|9=>9|4=>4|3=>3|n=>n,fun|n=>n⟩
theorem Tryz.lays99:Go.Proofs.Lays.n99 Tryz.prog Tryz.lays99_ren:= {
 mixed:=by kernel_rfl
 f99:=Tryz.func48.trans (congrArg some (by kernel_rfl))
 f206:=Tryz.func85.trans (congrArg some (by kernel_rfl))
 t3:=Tryz.underlying3
 a3:=Tryz.isAgg3
 z3:=Tryz.sizeOf3
 v3:=Tryz.zeroValue3
 t4:=Tryz.underlying4
 a4:=Tryz.isAgg4
 z4:=Tryz.sizeOf4
 v4:=Tryz.zeroValue4
 t9:=Tryz.underlying9
 a9:=Tryz.isAgg9
 z9:=Tryz.sizeOf9
 v9:=Tryz.zeroValue9}
def Tryz.lays146_ren:Go.Shelf.Ren:=⟨fun|146=>210|221=>241|268=>271|138=>272|143=>242|195=>286|197=>283|218=>287|219=>273|260=>293|217=>261|225=>264|224=>263|267=>288|266=>282|314=>295|n=>n,fun|9=>9|31=>146|3=>3|4=>4|0=>0|105=>306|21=>21|5=>5|46=>117|119=>316|139=>319|138=>318|146=>314|51=>291|n=>n,fun|1=>1|3=>4|4=>5|n=>n⟩
theorem Tryz.lays146:Go.Proofs.Lays.n146 Tryz.prog Tryz.lays146_ren:= {
 mixed:=by kernel_rfl
 f138:=Tryz.func272.trans (congrArg some (by kernel_rfl))
 f143:=Tryz.func242.trans (congrArg some (by kernel_rfl))
 f146:=Tryz.func210.trans (congrArg some (by kernel_rfl))
 f195:=Tryz.func286.trans (congrArg some (by kernel_rfl))
 f197:=Tryz.func283.trans (congrArg some (by kernel_rfl))
 f217:=Tryz.func261.trans (congrArg some (by kernel_rfl))
 f218:=Tryz.func287.trans (congrArg some (by kernel_rfl))
 f219:=Tryz.func273.trans (congrArg some (by kernel_rfl))
 f221:=Tryz.func241.trans (congrArg some (by kernel_rfl))
 f224:=Tryz.func263.trans (congrArg some (by kernel_rfl))
 f225:=Tryz.func264.trans (congrArg some (by kernel_rfl))
 f260:=Tryz.func293.trans (congrArg some (by kernel_rfl))
 f266:=Tryz.func282.trans (congrArg some (by kernel_rfl))
 f267:=Tryz.func288.trans (congrArg some (by kernel_rfl))
 f268:=Tryz.func271.trans (congrArg some (by kernel_rfl))
 f314:=Tryz.func295.trans (congrArg some (by kernel_rfl))
 t0:=Tryz.underlying0
 a0:=Tryz.isAgg0
 z0:=Tryz.sizeOf0
 v0:=Tryz.zeroValue0
 t3:=Tryz.underlying3
 a3:=Tryz.isAgg3
 z3:=Tryz.sizeOf3
 v3:=Tryz.zeroValue3
 t4:=Tryz.underlying4
 a4:=Tryz.isAgg4
 z4:=Tryz.sizeOf4
 v4:=Tryz.zeroValue4
 t5:=Tryz.underlying5
 a5:=Tryz.isAgg5
 z5:=Tryz.sizeOf5
 v5:=Tryz.zeroValue5
 t9:=Tryz.underlying9
 a9:=Tryz.isAgg9
 z9:=Tryz.sizeOf9
 v9:=Tryz.zeroValue9
 t21:=Tryz.underlying21
 a21:=Tryz.isAgg21
 z21:=Tryz.sizeOf21
 v21:=Tryz.zeroValue21
 t31:=Tryz.underlying146
 a31:=Tryz.isAgg146
 z31:=Tryz.sizeOf146
 v31:=Tryz.zeroValue146
 t46:=Tryz.underlying117
 a46:=Tryz.isAgg117
 z46:=Tryz.sizeOf117
 v46:=Tryz.zeroValue117
 t51:=Tryz.underlying291
 a51:=Tryz.isAgg291
 z51:=Tryz.sizeOf291
 v51:=Tryz.zeroValue291
 t105:=Tryz.underlying306
 a105:=Tryz.isAgg306
 z105:=Tryz.sizeOf306
 v105:=Tryz.zeroValue306
 t119:=Tryz.underlying316
 a119:=Tryz.isAgg316
 z119:=Tryz.sizeOf316
 t138:=Tryz.underlying318
 a138:=Tryz.isAgg318
 z138:=Tryz.sizeOf318
 v138:=Tryz.zeroValue318
 t139:=Tryz.underlying319
 a139:=Tryz.isAgg319
 z139:=Tryz.sizeOf319
 v139:=Tryz.zeroValue319
 t146:=Tryz.underlying314
 a146:=Tryz.isAgg314
 z146:=Tryz.sizeOf314
 v146:=Tryz.zeroValue314
 g1:=by kernel_rfl
 g3:=by kernel_rfl
 g4:=by kernel_rfl}
open Go.RowKit in
theorem Tryz.strings_IndexByte (s:ByteArray) (c:Int) (w:World):
 Calls Tryz.prog 231 #[.string s,.int .u8 c] w fun e w'=>e=.returned (.int .i64 (Lib.indexByte s.data.toList c.toNat.toUInt8))∧w'=w:=Any.strings_IndexByte Tryz.lays137 s c w
open Go.RowKit in
theorem Tryz.strings_CutPrefix (s p:ByteArray) (w:World):
 Calls Tryz.prog 181 #[.string s,.string p] w fun e w'=>e=.returned (.tuple #[.string ⟨(Lib.trimPrefix s.data.toList p.data.toList).toArray⟩,.bool (Lib.hasPrefix s.data.toList p.data.toList)])∧w'=w:=Any.strings_CutPrefix Tryz.zul s p w
open Go.RowKit Go.Sort Go.Lib in
theorem Tryz.strconv_Itoa (n:Int) (h0: -9223372036854775808≤n) (h1:n≤9223372036854775807) (w:World) (htab:Lib.TabIs Tryz.prog w "internal/strconv.uint64pow10" .u64 Lib.pow10Tab):
 Calls Tryz.prog 103 #[.int .i64 n] w fun e w'=>e=.returned (.string ⟨(Lib.itoa n).toArray⟩)∧∃ k os,w'=grow (w.drewN k) os:=Any.strconv_Itoa Tryz.laysM171 n h0 h1 w htab
open Go.RowKit Go.Lib in
theorem Tryz.stringslite_Index_one (s:ByteArray) (c:UInt8) (w:World):
 Calls Tryz.prog 273 #[.string s,.string ⟨#[c]⟩] w fun e w'=>e=.returned (.int .i64 (Lib.indexByte s.data.toList c))∧w'=w:=Any.stringslite_Index_one Tryz.lays219 s c w
open Go.RowKit Go.Lib in
theorem Tryz.strings_Contains_one (s:ByteArray) (c:UInt8) (w:World):
 Calls Tryz.prog 211 #[.string s,.string ⟨#[c]⟩] w fun e w'=>e=.returned (.bool (decide (0≤Lib.indexByte s.data.toList c)))∧w'=w:=Any.strings_Contains_one Tryz.lays144 s c w
open Go.RowKit Go.Lib in
theorem Tryz.strings_HasPrefix (s p:ByteArray) (w:World):
 Calls Tryz.prog 48 #[.string s,.string p] w fun e w'=>e=.returned (.bool (Lib.hasPrefix s.data.toList p.data.toList))∧w'=w:=Any.strings_HasPrefix Tryz.lays99 s p w
open Go.RowKit Go.Lib in
theorem Tryz.strings_Split (s sep:ByteArray) (m:Int) (w:World) (hs:s.size<4294967281) (hm:w.cell? ⟨1,0,none⟩=some (.int .i64 m)) (h1:1≤sep.size):
 Calls Tryz.prog 210 #[.string s,.string sep] w fun e w'=>
  e=.returned (.slice (some ⟨w.heap.size,0,none⟩) (Lib.countB s sep+1) (Lib.countB s sep+1))∧w'=w.alloc (.cells ((Lib.splitB sep 0 (Lib.countB s sep) s).map Value.string).toArray 9):=Any.strings_Split Tryz.lays146 (by kernel_rfl) s sep m w hs hm h1
theorem Tryz.strings_Trim_laid (s cutset:ByteArray) (w:World) (hs:s.size≤9223372036854775807) (hcs:cutset.size<4294967281) (hascii: ∀ (j:Nat) b,cutset.data.toList[j]? =some b→b.toNat<128):
 Calls Tryz.prog 237 #[.string s,.string cutset] w fun e w'=>e=.returned (.string ⟨(Lib.trimS s.data.toList cutset.data.toList).toArray⟩)∧Go.RowKit.Below w.heap.size w w':=Any.strings_Trim_laid Tryz.lays160 (by kernel_rfl) s cutset w hs hcs hascii
theorem Tryz.strings_TrimLeft_laid (s cutset:ByteArray) (w:World) (hcs:cutset.size<4294967281) (hascii: ∀ (j:Nat) b,cutset.data.toList[j]? =some b→b.toNat<128):
 Calls Tryz.prog 278 #[.string s,.string cutset] w fun e w'=>e=.returned (.string ⟨(Lib.trimLeftS s.data.toList cutset.data.toList).toArray⟩)∧Go.RowKit.Below w.heap.size w w':=Any.strings_TrimLeft_laid Tryz.lays161 (by kernel_rfl) s cutset w hcs hascii
end Go.Proofs
namespace Go.Ab
open Go Go.Sep
variable [Facts]
theorem ziA {w w':World} (h:RowKit.Below w.heap.size w w'):Keeps (fun k=>k<w.heap.size) w w':=⟨h.1,h.2,h.3,h.4,h.5⟩
theorem Spc.of_below {Pr:Program} {f:Nat} {args:List D} {hp:List HO} {d:D} (hf: ∃ fn,Pr.funcs[f]? =some fn∧(fn.name == "runtime.NumGoroutine")=false∧fn.body.isNone=false)
  (h: ∀ (S:Frz) (bs:List Value) (w:World) (vs:List Value),Facts.p w→MDs S bs args vs→∃ v,MD S bs d v∧Calls Pr f vs.toArray w fun e w'=>e=.returned v∧RowKit.Below w.heap.size w w'):Spc Pr f args hp (.ret d) hp:=by
 refine⟨hf,fun S K fr w vs hH hM hA=> ?_⟩;obtain⟨v,hv,hc⟩:=h S _ w vs (At.frz hA).facts hM;refine hc.mono fun e w' he=> ?_;obtain⟨he,hb⟩:=he;subst he;exact⟨S,K,Frz.le.refl S,Ext.refl _,hH,hA.keep (ziA hb),hv⟩
end Go.Ab
namespace Go.Proofs.YtkjepecoodjbmaaGreatDoor
open Go Go.Sep Go.Ab
set_option maxRecDepth 100000
theorem ziR (s cs:Str):(Lib.trimS s cs).length≤s.length:=by
 unfold Lib.trimS Lib.trimLeftS Lib.trimRightS;refine Nat.le_trans (List.dropWhile_sublist _).length_le ?_;rw [List.length_reverse]
 exact Nat.le_trans (List.dropWhile_sublist _).length_le (by rw [List.length_reverse];exact jL _)
theorem Yj: ∀ (s:Str) (c:UInt8),-1≤Lib.indexByte s c∧Lib.indexByte s c<s.length
 |[],c=>by simp [Lib.indexByte]
 | b ::l,c=>by
   have:=Yj l c;unfold Lib.indexByte;rw [jh]
   split
   · omega
   · split
     · omega
     · omega
def zcY (I:Alg):KU
 |[.v (.one (.p (.str s))),.v (.one (.p (.str ([32,9]))))],[]=>(fun(s:Str)=>(some (.one ⟨I.hid (True),(.ret (.v (.one (.p (.str (I.hid (Lib.trimS s [32,9]))))))),[]⟩):Option CT)) s
 |_,_=>none
theorem zmK:zx Tryz.prog 237 (zcY alg):=by
 intro args hp r h;unfold zcY at h;split at h<;>cases h
 rename_i s;simp only [CT.Good,zh];intro _
 refine Spc.of_below ⟨_,Tryz.func237,by kernel_rfl,by kernel_rfl⟩ fun S bs w vs _ hM=> ?_
 obtain⟨v,r,rfl⟩: ∃ v r,vs=v::r:=by cases vs with|nil=>exact hM.elim|cons v r=>exact⟨v,r,rfl⟩
 obtain⟨h1,hM⟩:=hM
 obtain⟨v2,r2,rfl⟩: ∃ v r2,r=v::r2:=by cases r with|nil=>exact hM.elim|cons v r=>exact⟨v,r,rfl⟩
 obtain⟨h2,hM⟩:=hM
 obtain rfl:r2=[]:=by cases r2 with|nil=>rfl|cons v r=>exact hM.elim
 cases h1 with
 | str _ hl1=>
   cases h2 with
   | str _ hl2=>
     refine⟨.string (Sep.S (Lib.trimS s [32,9])),.str _ (Nat.le_trans (ziR _ _) hl1),?_⟩
     exact Tryz.strings_Trim_laid (Sep.S s) (Sep.S [32,9]) w (by have:=hl1;unfold maxLen at this;exact this) (by decide) (fun j b hb=>by
      have:=List.mem_of_getElem? hb
      rcases(by simpa [Sep.S] using this:b=32∨b=9) with rfl|rfl<;>decide)
def ztG:Know Tryz.prog:=⟨237,zcY,zmK⟩
def ztF:Know Tryz.prog:=⟨237,fun I=>zu I (zcY I),zf zmK⟩
def rZ (I:Alg):KU
 |[.v (.one (.p (.str s))),.v (.one (.p (.int .u8 k)))],[]=>(fun(s:Str)=>(some (.one ⟨I.hid (True),(.ret (.v (.one (.p (.int .i64 (I.hid (Lib.indexByte s k.toNat.toUInt8))))))),[]⟩):Option CT)) s
 |_,_=>none
theorem Tv:zx Tryz.prog 231 (rZ alg):=by
 intro args hp r h;unfold rZ at h;split at h<;>cases h
 rename_i s k;simp only [CT.Good,zh];intro _
 refine Spc.of_below ⟨_,Tryz.func231,by kernel_rfl,by kernel_rfl⟩ fun S bs w vs _ hM=> ?_
 obtain⟨v,r,rfl⟩: ∃ v r,vs=v::r:=by cases vs with|nil=>exact hM.elim|cons v r=>exact⟨v,r,rfl⟩
 obtain⟨h1,hM⟩:=hM
 obtain⟨v2,r2,rfl⟩: ∃ v r2,r=v::r2:=by cases r with|nil=>exact hM.elim|cons v r=>exact⟨v,r,rfl⟩
 obtain⟨h2,hM⟩:=hM
 obtain rfl:r2=[]:=by cases r2 with|nil=>rfl|cons v r=>exact hM.elim
 cases h1 with
 | str _ hl1=>
   cases h2 with
   | int _ _=>
     refine⟨.int .i64 (Lib.indexByte s k.toNat.toUInt8),.int _ _,?_⟩;refine(Tryz.strings_IndexByte (Sep.S s) k w).mono fun e w' h=> ?_;obtain⟨he,rfl⟩:=h;exact⟨he,RowKit.Below.refl _ _⟩
def zfO:Know Tryz.prog:=⟨231,rZ,Tv⟩
def zfN:Know Tryz.prog:=⟨231,fun I=>zu I (rZ I),zf Tv⟩
def Ve (I:Alg):KU
 |[.v (.one (.p (.str s))),.v (.one (.p (.str ([c]))))],[]=>(fun(s:Str)=>(some (.one ⟨I.hid (True),(.ret (.v (.one (.p (.int .i64 (I.hid (Lib.indexByte s c))))))),[]⟩):Option CT)) s
 |_,_=>none
theorem zfP:zx Tryz.prog 273 (Ve alg):=by
 intro args hp r h;unfold Ve at h;split at h<;>cases h
 rename_i s c;simp only [CT.Good,zh];intro _
 refine Spc.of_below ⟨_,Tryz.func273,by kernel_rfl,by kernel_rfl⟩ fun S bs w vs _ hM=> ?_
 obtain⟨v,r,rfl⟩: ∃ v r,vs=v::r:=by cases vs with|nil=>exact hM.elim|cons v r=>exact⟨v,r,rfl⟩
 obtain⟨h1,hM⟩:=hM
 obtain⟨v2,r2,rfl⟩: ∃ v r2,r=v::r2:=by cases r with|nil=>exact hM.elim|cons v r=>exact⟨v,r,rfl⟩
 obtain⟨h2,hM⟩:=hM
 obtain rfl:r2=[]:=by cases r2 with|nil=>rfl|cons v r=>exact hM.elim
 cases h1 with
 | str _ hl1=>
   cases h2 with
   | str _ _=>
     refine⟨.int .i64 (Lib.indexByte s c),.int _ _,?_⟩;refine(Tryz.stringslite_Index_one (Sep.S s) c w).mono fun e w' h=> ?_;obtain⟨he,rfl⟩:=h;exact⟨he,RowKit.Below.refl _ _⟩
def zoU:Know Tryz.prog:=⟨273,Ve,zfP⟩
def zoT:Know Tryz.prog:=⟨273,fun I=>zu I (Ve I),zf zfP⟩
end Go.Proofs.YtkjepecoodjbmaaGreatDoor
namespace Go.Proofs.YtkjepecoodjbmaaGreatDoor
open Go Go.Sep Go.Ab
set_option maxRecDepth 100000
def lowK (k:Int):Int:=if 65≤k∧k≤90 then k+32 else k
def zbc (k:Int):Bool:=decide (48≤k∧k≤57)
def XF (k:Int):Bool:=decide (97≤lowK k∧lowK k≤122)
def marks:Str:=[33,35,36,37,38,39,42,43,45,46,94,95,96,124,126]
def tokB (k:Int):Bool:=zbc k||(XF k||decide (0≤Lib.indexByte marks k.toNat.toUInt8))
def zeU (k:Int):Bool:=decide (k=9∨32≤k∧k≠127)
def hexK (k:Int):Int:=if zbc k then k - 48 else if XF k&&decide (lowK k≤102) then lowK k - 97+10 else -1
theorem zwM (n:Int) (h:0≤n∧n≤255):IntKind.u8.wrap n=n:=by
 unfold IntKind.wrap
 simp only [show IntKind.u8.signed=false by decide,show IntKind.u8.bits=8 by decide,Bool.false_and,jd,if_false]
 omega
theorem wrap64 (n:Int) (h: -9223372036854775808≤n∧n≤9223372036854775807):IntKind.i64.wrap n=n:=by
 unfold IntKind.wrap
 simp only [show IntKind.i64.signed=true by decide,show IntKind.i64.bits=64 by decide]
 split<;>simp_all<;>omega
theorem zoD {k:Int} (h:0≤k∧k≤255):0≤lowK k∧lowK k≤255:=by unfold lowK;split<;>omega
def Qq (I:Alg):KU
 |[.v (.one (.p (.int .u8 k)))],[]=>some (.one ⟨I.hid (True),(.ret (.v (.one (.p (.bool (I.hid (zbc k))))))),[]⟩)
 |_,_=>none
theorem zkX:zx Tryz.prog 229 (Qq alg):=by
 intro args hp r h;unfold Qq at h;split at h<;>cases h
 rename_i k;simp only [CT.Good,zh];intro _
 refine spH Tryz.func229 (by kernel_rfl) { keep:=some [0,2]} [] (by kernel_rfl) ?_
 intro I X hI hX
 refine orcL ?_;go_invoke;refine orcS (by kernel_rfl) ?_
 simp only [zi,Nat.reduceAdd];subst hI;simp only [nrmA,nrmB];unfold zbc
 exact⟨fun h=>decide_eq_decide.2 (by omega),fun h=>(decide_eq_false (by omega)).symm⟩
def zkW:Know Tryz.prog:=⟨229,Qq,zkX⟩
def zkV:Know Tryz.prog:=⟨229,fun I=>zu I (Qq I),zf zkX⟩
def RU (I:Alg):KU
 |[.v (.one (.p (.int .u8 k)))],[]=>some (.one ⟨I.hid (0≤k∧k≤255),(.ret (.v (.one (.p (.int .u8 (I.hid (lowK k))))))),[]⟩)
 |_,_=>none
theorem zj8:zx Tryz.prog 236 (RU alg):=by
 intro args hp r h;unfold RU at h;split at h<;>cases h
 rename_i k;simp only [CT.Good,zh];intro hneed
 refine spH Tryz.func236 (by kernel_rfl) { keep:=some [0,2]} [] (by kernel_rfl) ?_
 intro I X hI hX
 refine orcL ?_;go_invoke;refine orcS (by kernel_rfl) ?_
 simp only [zi,Nat.reduceAdd];subst hI;simp only [nrmA,nrmB];unfold lowK
 (repeat' (first|refine ja ?_ ?_|intro _))<;>first|omega|exact jb|exact jc ‹False›|skip
def RS:Know Tryz.prog:=⟨236,RU,zj8⟩
def RQ:Know Tryz.prog:=⟨236,fun I=>zu I (RU I),zf zj8⟩
def Vb (I:Alg):KU
 |[.v (.one (.p (.int .u8 k)))],[]=>some (.one ⟨I.hid (0≤k∧k≤255),(.ret (.v (.one (.p (.bool (I.hid (XF k))))))),[]⟩)
 |_,_=>none
theorem zfC:zx Tryz.prog 230 (Vb alg):=by
 intro args hp r h;unfold Vb at h;split at h<;>cases h
 rename_i k;simp only [CT.Good,zh];intro hneed
 refine spH Tryz.func230 (by kernel_rfl) { keep:=some [0,2]} [RS,RQ] (by kernel_rfl) ?_
 intro I X hI hX
 refine orcL ?_;go_invoke;refine orcS (by kernel_rfl) ?_
 simp only [zi,Nat.reduceAdd];subst hI;simp only [nrmA,nrmB];unfold XF
 (repeat' (first|refine ja ?_ ?_|intro _))<;>first|omega|exact jb|exact jc ‹False›|skip
 all_goals first|exact decide_eq_decide.2 (by omega)|exact(decide_eq_false (by omega)).symm|exact(decide_eq_true (by omega)).symm|(rw [show(k == 127)=decide (k=127) from rfl,← decide_not];exact decide_eq_decide.2 (by omega))
def zfB:Know Tryz.prog:=⟨230,Vb,zfC⟩
def zfA:Know Tryz.prog:=⟨230,fun I=>zu I (Vb I),zf zfC⟩
def Sm (I:Alg):KU
 |[.v (.one (.p (.int .u8 k)))],[]=>some (.one ⟨I.hid (0≤k∧k≤255),(.ret (.v (.one (.p (.bool (I.hid (tokB k))))))),[]⟩)
 |_,_=>none
theorem ziS:zx Tryz.prog 193 (Sm alg):=by
 intro args hp r h;unfold Sm at h;split at h<;>cases h
 rename_i k;simp only [CT.Good,zh];intro hneed
 refine spH Tryz.func193 (by kernel_rfl) { keep:=some [0,2]} [zfO,zfN,zkW,zkV,zfB,zfA] (by kernel_rfl) ?_
 intro I X hI hX
 refine orcL ?_;go_invoke;refine orcS (by kernel_rfl) ?_
 simp only [zi,Nat.reduceAdd];subst hI;simp only [nrmA,nrmB];unfold tokB marks
 (repeat' (first|refine ja ?_ ?_|intro _))<;>first|omega|exact jb|exact jc ‹False›|skip
 all_goals simp [*]
def qX:Know Tryz.prog:=⟨193,Sm,ziS⟩
def XQ:Know Tryz.prog:=⟨193,fun I=>zu I (Sm I),zf ziS⟩
def YB (I:Alg):KU
 |[.v (.one (.p (.int .u8 k)))],[]=>some (.one ⟨I.hid (True),(.ret (.v (.one (.p (.bool (I.hid (zeU k))))))),[]⟩)
 |_,_=>none
theorem zbE:zx Tryz.prog 170 (YB alg):=by
 intro args hp r h;unfold YB at h;split at h<;>cases h
 rename_i k;simp only [CT.Good,zh];intro _
 refine spH Tryz.func170 (by kernel_rfl) { keep:=some [0,2]} [] (by kernel_rfl) ?_
 intro I X hI hX
 refine orcL ?_;go_invoke;refine orcS (by kernel_rfl) ?_
 simp only [zi,Nat.reduceAdd];subst hI;simp only [nrmA,nrmB];unfold zeU
 (repeat' (first|refine ja ?_ ?_|intro _))<;>first|omega|exact jb|exact jc ‹False›|skip
 all_goals first|exact decide_eq_decide.2 (by omega)|exact(decide_eq_false (by omega)).symm|exact(decide_eq_true (by omega)).symm|(rw [show(k == 127)=decide (k=127) from rfl,← decide_not];exact decide_eq_decide.2 (by omega))
def tV:Know Tryz.prog:=⟨170,YB,zbE⟩
def YA:Know Tryz.prog:=⟨170,fun I=>zu I (YB I),zf zbE⟩
def zkl (I:Alg):KU
 |[.v (.one (.p (.int .u8 k)))],[]=>some (.one ⟨I.hid (0≤k∧k≤255),(.ret (.v (.one (.p (.int .i64 (I.hid (hexK k))))))),[]⟩)
 |_,_=>none
theorem zs8:zx Tryz.prog 249 (zkl alg):=by
 intro args hp r h;unfold zkl at h;split at h<;>cases h
 rename_i k;simp only [CT.Good,zh];intro hneed
 refine spH Tryz.func249 (by kernel_rfl) { keep:=some [0,2]} [zkW,zkV,RS,RQ,zfB,zfA] (by kernel_rfl) ?_
 intro I X hI hX
 refine orcL ?_;go_invoke;refine orcS (by kernel_rfl) ?_
 simp only [zi,Nat.reduceAdd];subst hI;simp only [nrmA,nrmB]
 (repeat' (first|refine ja ?_ ?_|intro _))<;>first|omega|exact jb|exact jc ‹False›|skip
 all_goals first
  |(have:=of_decide_eq_true ‹zbc k=true›;omega)
  |(have:=of_decide_eq_true ‹zbc k=true›;unfold hexK;rw [if_pos ‹zbc k=true›,wrap64 _ (by omega)])
  |(have:=of_decide_eq_true ‹XF k=true›;omega)
  |(have:=of_decide_eq_true ‹XF k=true›;rw [wrap64 _ (by omega)];omega)
  |(have:=of_decide_eq_true ‹XF k=true›;rw [wrap64 _ (by omega)];unfold hexK;simp [*])
  |(unfold hexK;simp [*])
def zci:Know Tryz.prog:=⟨249,zkl,zs8⟩
def zch:Know Tryz.prog:=⟨249,fun I=>zu I (zkl I),zf zs8⟩
end Go.Proofs.YtkjepecoodjbmaaGreatDoor
namespace Go.Proofs.YtkjepecoodjbmaaGreatDoor
open Go Go.Sep Go.Ab
set_option maxRecDepth 100000
def tokA (s:Str):Bool:=s.all fun c=>tokB (c.toNat:Int)
def Xw (s:Str):Bool:=s.all fun c=>zeU (c.toNat:Int)
theorem vM (c:UInt8):0≤(c.toNat:Int)∧(c.toNat:Int)≤255:=by have:=c.toNat_lt;omega
theorem zlm {p:UInt8→Bool} {s:Str} {i:Nat} (h:i<s.length):(s.drop i).all p=(p (s.getD i 0)&&(s.drop (i+1)).all p):=by
 rw [jE h,List.all_cons];simp [h]
def V9 (I:Alg):KU
 |[.v (.one (.p (.str s))),.v (.one (.fn 193 []))],[]=>(fun(s:Str)=>(some (.one ⟨I.hid (s.length≤1000000),(.ret (.v (.one (.p (.bool (I.hid (tokA s))))))),[]⟩):Option CT)) s
 |_,_=>none
theorem zg9:zx Tryz.prog 192 (V9 alg):=by
 intro args hp r h;unfold V9 at h;split at h<;>cases h
 rename_i s;simp only [CT.Good,zh];intro hneed;generalize hr:tokA s=r
 refine spH Tryz.func192 (by kernel_rfl) { keep:=some [0,1,4,5,7,8]} [qX] (by kernel_rfl) ?_
 intro I X hI hX
 refine orcL ?_;go_invoke;refine orcS (by kernel_rfl) ?_
 simp only [zi,Nat.reduceAdd]
 refine lpH hI [qX] hX [0,1,7,8] (fun(i:Nat)=>i≤s.length∧tokA (s.drop i)=r) (fun(i:Nat)=>⟨[(0,.v (.one (.p (.str s)))),(1,.v (.one (.fn 193 []))),(7,.v (.one (.p (.int .i64 ((I.len (α:=UInt8) s)))))),(8,.v (.one (.p (.int .i64 i))))],[],18,none⟩) (fun(i:Nat)=>s.length - i) 0 (by kernel_rfl) (by kernel_rfl) ?_ ?_
 · exact⟨jM _,hr⟩
 rintro i ⟨h1,h2⟩ A hA
 refine orcL ?_;go_invoke;refine orcS (by kernel_rfl) ?_
 simp only [zi,Nat.reduceAdd];subst hI;simp only [nrmA,nrmB];have hb:=vM (s.getD i 0);have hd:i<s.length→tokA (s.drop i)=(tokB (s.getD i 0).toNat&&tokA (s.drop (i+1))):=fun h=>zlm h;generalize s.getD i 0=x at *
 (repeat' (first|refine ja ?_ ?_|intro _))<;>first|omega|exact jb|exact jc ‹False›|skip
 all_goals first
  |(rw [← h2,hd (by omega)];simp [*];done)
  |(refine hA (i+1) ⟨by omega,?_⟩ (by omega);rw [← h2,hd (by omega)];simp [*];done)
  |(rw [← h2,jF (by omega)];rfl)
def V8:Know Tryz.prog:=⟨192,V9,zg9⟩
def V7:Know Tryz.prog:=⟨192,fun I=>zu I (V9 I),zf zg9⟩
def Xj (I:Alg):KU
 |[.v (.one (.p (.str s))),.v (.one (.fn 170 []))],[]=>(fun(s:Str)=>(some (.one ⟨I.hid (s.length≤1000000),(.ret (.v (.one (.p (.bool (I.hid (Xw s))))))),[]⟩):Option CT)) s
 |_,_=>none
theorem zcU:zx Tryz.prog 192 (Xj alg):=by
 intro args hp r h;unfold Xj at h;split at h<;>cases h
 rename_i s;simp only [CT.Good,zh];intro hneed;generalize hr:Xw s=r
 refine spH Tryz.func192 (by kernel_rfl) { keep:=some [0,1,4,5,7,8]} [tV,V8,V7] (by kernel_rfl) ?_
 intro I X hI hX
 refine orcL ?_;go_invoke;refine orcS (by kernel_rfl) ?_
 simp only [zi,Nat.reduceAdd]
 refine lpH hI [tV,V8,V7] hX [0,1,7,8] (fun(i:Nat)=>i≤s.length∧Xw (s.drop i)=r) (fun(i:Nat)=>⟨[(0,.v (.one (.p (.str s)))),(1,.v (.one (.fn 170 []))),(7,.v (.one (.p (.int .i64 ((I.len (α:=UInt8) s)))))),(8,.v (.one (.p (.int .i64 i))))],[],18,none⟩) (fun(i:Nat)=>s.length - i) 0 (by kernel_rfl) (by kernel_rfl) ?_ ?_
 · exact⟨jM _,hr⟩
 rintro i ⟨h1,h2⟩ A hA
 refine orcL ?_;go_invoke;refine orcS (by kernel_rfl) ?_
 simp only [zi,Nat.reduceAdd];subst hI;simp only [nrmA,nrmB];have hb:=vM (s.getD i 0);have hd:i<s.length→Xw (s.drop i)=(zeU (s.getD i 0).toNat&&Xw (s.drop (i+1))):=fun h=>zlm h;generalize s.getD i 0=x at *
 (repeat' (first|refine ja ?_ ?_|intro _))<;>first|omega|exact jb|exact jc ‹False›|skip
 all_goals first
  |(rw [← h2,hd (by omega)];simp [*];done)
  |(refine hA (i+1) ⟨by omega,?_⟩ (by omega);rw [← h2,hd (by omega)];simp [*];done)
  |(rw [← h2,jF (by omega)];rfl)
def zcT:Know Tryz.prog:=⟨192,Xj,zcU⟩
def zcS:Know Tryz.prog:=⟨192,fun I=>zu I (Xj I),zf zcU⟩
def Xo (s:Str):Bool:=decide (s≠[])&&tokA s
def Y3 (I:Alg):KU
 |[.v (.one (.p (.str s)))],[]=>(fun(s:Str)=>(some (.one ⟨I.hid (s.length≤1000000),(.ret (.v (.one (.p (.bool (I.hid (Xo s))))))),[]⟩):Option CT)) s
 |_,_=>none
theorem zcf:zx Tryz.prog 142 (Y3 alg):=by
 intro args hp r h;unfold Y3 at h;split at h<;>cases h
 rename_i s;simp only [CT.Good,zh];intro hneed
 refine spH Tryz.func142 (by kernel_rfl) { keep:=some [0,2]} [qX,XQ,V8,V7,zcT,zcS] (by kernel_rfl) ?_
 intro I X hI hX
 refine orcL ?_;go_invoke;refine orcS (by kernel_rfl) ?_
 simp only [zi,Nat.reduceAdd];subst hI;simp only [nrmA,nrmB];unfold Xo
 (repeat' (first|refine ja ?_ ?_|intro _))<;>first|omega|exact jb|exact jc ‹False›|skip
 all_goals simp [*]
def tZ:Know Tryz.prog:=⟨142,Y3,zcf⟩
def tY:Know Tryz.prog:=⟨142,fun I=>zu I (Y3 I),zf zcf⟩
def rX (I:Alg):KU
 |[.v (.one (.p (.str s)))],[]=>(fun(s:Str)=>(some (.one ⟨I.hid (s.length≤1000000),(.ret (.v (.one (.p (.bool (I.hid (Xw s))))))),[]⟩):Option CT)) s
 |_,_=>none
theorem Tt:zx Tryz.prog 144 (rX alg):=by
 intro args hp r h;unfold rX at h;split at h<;>cases h
 rename_i s;simp only [CT.Good,zh];intro hneed
 refine spH Tryz.func144 (by kernel_rfl) { keep:=some [0,2]} [tV,YA,V8,V7,zcT,zcS] (by kernel_rfl) ?_
 intro I X hI hX
 refine orcL ?_;go_invoke;refine orcS (by kernel_rfl) ?_
 simp only [zi,Nat.reduceAdd];subst hI;simp only [nrmA,nrmB];exact hneed
def wF:Know Tryz.prog:=⟨144,rX,Tt⟩
def wE:Know Tryz.prog:=⟨144,fun I=>zu I (rX I),zf Tt⟩
theorem zxg {p:Int→Prop} [∀ k,Decidable (p k)] (h: ∀ n:Fin 256,p (n.1:Int)) {k:Int} (hk:0≤k∧k≤255):p k:=by
 have:=h ⟨k.toNat,by omega⟩
 rwa [show((k.toNat:Nat):Int)=k by omega] at this
end Go.Proofs.YtkjepecoodjbmaaGreatDoor
namespace Go.Proofs.YtkjepecoodjbmaaGreatDoor
open Go Go.Sep Go.Ab
set_option maxRecDepth 100000
def lowC (x:UInt8):UInt8:=if 65≤x.toNat∧x.toNat≤90 then x+32 else x
def lowS (s:Str):Str:=s.map lowC
theorem vF (s:Str):(lowS s).length=s.length:=by simp [lowS]
theorem zlY (x:UInt8):((lowC x).toNat:Int)=lowK x.toNat:=by
 unfold lowC lowK;have:=x.toNat_lt
 split
 · rw [if_pos (by omega),UInt8.toNat_add]
   simp only [show(32:UInt8).toNat=32 from rfl];omega
 · rw [if_neg (by omega)]
theorem zuk (x:UInt8):UInt8.ofNat (lowK x.toNat).toNat=lowC x:=by
 rw [← zlY,jJ,UInt8.ofNat_toNat]
def bl (c:UInt8):Bool:=([32,9]:Str).contains c
def QA (I:Alg):KU
 |[.v (.one (.p (.str s)))],[]=>(fun(s:Str)=>(some (.one ⟨I.hid (True),(.ret (.v (.one (.p (.str (I.hid (Lib.trimS s [32,9]))))))),[]⟩):Option CT)) s
 |_,_=>none
theorem zld:zx Tryz.prog 196 (QA alg):=by
 intro args hp r h;unfold QA at h;split at h<;>cases h
 rename_i s;simp only [CT.Good,zh];intro _
 refine spH Tryz.func196 (by kernel_rfl) { keep:=some [0,2]} [ztG,ztF] (by kernel_rfl) ?_
 intro I X hI hX
 refine orcL ?_;go_invoke;refine orcS (by kernel_rfl) ?_
 simp only [zi,Nat.reduceAdd];subst hI;simp only [nrmA,nrmB]
 try trivial
def VZ:Know Tryz.prog:=⟨196,QA,zld⟩
def VY:Know Tryz.prog:=⟨196,fun I=>zu I (QA I),zf zld⟩
def V3 (I:Alg):KU
 |[.v (.one (.p (.str s)))],[]=>(fun(s:Str)=>(some (.one ⟨I.hid (s.length≤1000000),(.ret (.v (.one (.p (.str (I.hid (lowS s))))))),[]⟩):Option CT)) s
 |_,_=>none
theorem zgY:zx Tryz.prog 195 (V3 alg):=by
 intro args hp r h;unfold V3 at h;split at h<;>cases h
 rename_i s;simp only [CT.Good,zh];intro hneed
 refine spH Tryz.func195 (by kernel_rfl) { keep:=some [0,2,3,4,5,8,9,10]} [RS,RQ] (by kernel_rfl) ?_
 intro I X hI hX
 refine orcL ?_;go_invoke;refine orcS (by kernel_rfl) ?_
 simp only [zi,Nat.reduceAdd]
 refine lpH hI [RS,RQ] hX [0,3,8,9,10] (fun(g:Nat × Str)=>match g with|(i,b)=>i≤s.length∧b=lowS (s.take i)++s.drop i) (fun(g:Nat × Str)=>match g with|(i,b)=>⟨[(0,.v (.one (.p (.str s)))),(3,.v (.one (.row 0))),(8,.v (.one (.row 0))),(9,.v (.one (.p (.int .i64 ((I.len (α:=UInt8) s)))))),(10,.v (.one (.p (.int .i64 i))))],[.row .byte 5 b],23,none⟩) (fun(g:Nat × Str)=>match g with|(i,b)=>s.length - i) (0,s) (by kernel_rfl) (by kernel_rfl) ?_ ?_
 · exact⟨jM _,rfl⟩
 rintro⟨i,b⟩ ⟨h1,h2⟩ A hA;simp only at hA
 refine orcL ?_;go_invoke;refine orcS (by kernel_rfl) ?_
 simp only [zi,Nat.reduceAdd];subst hI;simp only [nrmA,nrmB]
 have hlen:b.length=s.length:=by rw [h2,jk,vF,jv,jC];omega
 have hx:i<s.length→b.getD i 0=s.getD i 0:=fun h=>by
  rw [h2,jH,jH,jA (by rw [vF,jv];omega),vF,jv,jG]
  congr 2
  omega
 have hset:i<s.length→b.set i (lowC (s.getD i 0))=lowS (s.take (i+1))++s.drop (i+1):=fun h=>by
  have e:(lowS (s.take i)).length=i:=by rw [vF,jv];omega
  rw [h2,List.set_append_right _ _ (by omega),e,Nat.sub_self,jE h,List.set_cons_zero,jB h,show s.getD i 0=s[i] by simp [h]]
  unfold lowS;rw [List.map_append,jo];rfl
 have hby:=vM (s.getD i 0);have hlk:=zoD hby;refine⟨fun c=> ?_,fun c=> ?_⟩
 · rw [hx (by omega),zuk,hset (by omega)]
   exact⟨by omega,by omega,by omega,by omega,by omega,by omega,by omega,hA (i+1,_) ⟨by simp only;omega,rfl⟩ (by simp only;omega)⟩
 · rw [h2,jF (by omega),jq (by omega),List.append_nil]
def wI:Know Tryz.prog:=⟨195,V3,zgY⟩
def wH:Know Tryz.prog:=⟨195,fun I=>zu I (V3 I),zf zgY⟩
end Go.Proofs.YtkjepecoodjbmaaGreatDoor
namespace Go.Proofs.YtkjepecoodjbmaaGreatDoor
open Go Go.Sep Go.Ab
set_option maxRecDepth 100000
theorem zmI {p:UInt8→Bool} {s:Str} {i:Nat} (h:i≤(s.takeWhile p).length):(i<s.length∧p (s.getD i 0)=true)↔i<(s.takeWhile p).length:=by
 induction s generalizing i with
 |nil=>simp
 | cons c r ih=>
   by_cases hc:p c=true
   · simp only [List.takeWhile_cons,hc,if_true,jh] at h ⊢
     cases i with
     |zero=>simp [hc]
     | succ i=>
       have:=ih (i:=i) (by omega)
       simp only [List.getD_cons_succ];constructor
       · rintro⟨h1,h2⟩;have:=this.1 ⟨by omega,h2⟩;omega
       · intro h1;have:=this.2 (by omega);exact⟨by omega,this.2⟩
   · simp only [List.takeWhile_cons,hc,jd,if_false,ji] at h ⊢
     have:i=0:=by omega
     subst this
     simp [hc]
theorem ztJ (p:UInt8→Bool) (s:Str):s.take (s.takeWhile p).length=s.takeWhile p:=by
 induction s with
 |nil=>simp
 |cons c r ih=>by_cases hc:p c=true<;>simp [List.takeWhile_cons,hc,ih]
theorem drop_tw (p:UInt8→Bool) (s:Str):s.drop (s.takeWhile p).length=s.dropWhile p:=by
 induction s with
 |nil=>simp
 |cons c r ih=>by_cases hc:p c=true<;>simp [List.takeWhile_cons,List.dropWhile_cons,hc,ih]
theorem zvf (p:UInt8→Bool) (s:Str):(s.takeWhile p).length≤s.length:=(List.takeWhile_sublist p).length_le
theorem zwo (p:UInt8→Bool) (s:Str):(s.dropWhile p).length≤s.length:=(List.dropWhile_sublist p).length_le
def isTk (c:UInt8):Bool:=tokB (c.toNat:Int)
def tokS (s:Str):Str:=s.takeWhile isTk
def tokE (s:Str):Str:=s.dropWhile isTk
theorem uX (s:Str):(tokS s).length≤s.length:=zvf _ _
theorem ve (s:Str):(tokE s).length≤s.length:=zwo _ _
theorem ztH (s:Str):(tokS s).length+(tokE s).length=s.length:=by
 have:=congrArg List.length (List.takeWhile_append_dropWhile (p:=isTk) (l:=s));rw [jk] at this;exact this
def skS (s:Str):Str:=Lib.trimLeftS s [32,9]
theorem wV (s:Str):(skS s).length≤s.length:=by
 unfold skS Lib.trimLeftS;exact(List.dropWhile_sublist _).length_le
def uV (s:Str) (c:UInt8):Bool:=s.head? == some c
theorem zcj {s:Str} {c:UInt8} (h:uV s c=true):0<s.length:=by
 cases s with
 |nil=>simp [uV] at h
 |cons a r=>simp
theorem zck {s:Str} {c:UInt8}:uV s c=true↔0<s.length∧s.getD 0 0=c:=by
 cases s with
 |nil=>simp [uV]
 |cons a r=>simp [uV]
theorem drop1 (s:Str):List.take (s.length - Int.toNat 1) (List.drop (Int.toNat 1) s)=s.drop 1:=by
 show List.take (s.length - 1) (List.drop 1 s)=s.drop 1
 exact jq (by simp)
def quoF:Str→Option (Str × Str)
 |[]=>none
 |[x]=>if x=34 then some ([],[]) else none
 |x::y::r=>if x=34 then some ([],y::r) else if x=92 then(quoF r).map (fun p=>(y::p.1,p.2)) else(quoF (y::r)).map (fun p=>(x::p.1,p.2))
def quoV (s:Str):Str:=match quoF s with|some p=>p.1|none=>[]
def quoR (s:Str):Str:=match quoF s with|some p=>p.2|none=>[]
theorem RD: ∀ (s:Str) (p:Str × Str),quoF s=some p→p.1.length+p.2.length<s.length
 |[],p,h=>by simp [quoF] at h
 | [x],p,h=>by
   simp only [quoF] at h
   split at h
   · cases h;simp
   · cases h
 | x ::y::r,p,h=>by
   simp only [quoF] at h
   split at h
   · cases h;simp
   · split at h
     · rw [Option.map_eq_some_iff] at h
       obtain⟨q,hq,rfl⟩:=h;have:=RD r q hq;simp only [jh];omega
     · rw [Option.map_eq_some_iff] at h
       obtain⟨q,hq,rfl⟩:=h;have:=RD (y::r) q hq;simp only [jh] at this ⊢;omega
theorem zrt (s:Str):(quoR s).length≤s.length:=by
 unfold quoR
 split
 · rename_i p h;have:=RD _ _ h;omega
 · simp
theorem zrr (s:Str):(quoV s).length≤s.length:=by
 unfold quoV
 split
 · rename_i p h;have:=RD _ _ h;omega
 · simp
def parM (s:Str):Int × Fld × Str:=
 if tokS s=[] then(5,⟨[],[]⟩,tokE s)
 else if uV (tokE s) 61=false then(5,⟨[],[]⟩,tokE s)
 else if uV ((tokE s).drop 1) 34=true then
  if(quoF ((tokE s).drop 2)).isSome=true then(0,⟨lowS (tokS s),quoV ((tokE s).drop 2)⟩,quoR ((tokE s).drop 2)) else(14,⟨[],[]⟩,[])
 else if tokS ((tokE s).drop 1)=[] then(5,⟨[],[]⟩,tokE ((tokE s).drop 1))
 else(0,⟨lowS (tokS s),tokS ((tokE s).drop 1)⟩,tokE ((tokE s).drop 1))
theorem zdr (s:Str):(parM s).2.2.length≤s.length∧(parM s).2.1.name.length≤s.length∧(parM s).2.1.value.length≤s.length:=by
 have h1:=ve s;have h2:=ve ((tokE s).drop 1);have h3:=zrt ((tokE s).drop 2);have h4:=zrr ((tokE s).drop 2);have h5:=uX s;have h6:=uX ((tokE s).drop 1);simp only [jC] at h2 h3 h4 h6;unfold parM
 repeat' split
 all_goals simp only [ji,vF];omega
def getP (l:List Fld) (n:Str):Str × Bool:=match l.find? (fun f=>f.name == n) with|some f=>(f.value,true)|none=>([],false)
def medL:Nat→Str→List Fld→Int × List Fld × Str
 |0,s,ps=>(5,ps,s)
 | n +1,s,ps=>
   if uV s 59=true then
    if(parM (skS (s.drop 1))).1≠0 then((parM (skS (s.drop 1))).1,ps,(parM (skS (s.drop 1))).2.2)
    else if(getP ps (parM (skS (s.drop 1))).2.1.name).2=true then(9,ps,(parM (skS (s.drop 1))).2.2)
    else if ps.length=8 then(8,ps,(parM (skS (s.drop 1))).2.2)
    else medL n (skS (parM (skS (s.drop 1))).2.2) (ps++[(parM (skS (s.drop 1))).2.1])
   else if s=[] then(0,ps,s) else(5,ps,s)
def medB (w:Str) (s:Str):Int × Med × Str:=((medL ((skS s).length+1) (skS s) []).1,⟨w,(medL ((skS s).length+1) (skS s) []).2.1⟩,(medL ((skS s).length+1) (skS s) []).2.2)
def medA (s:Str):Int × Med × Str:=
 if tokS s=[] then(5,⟨[],[]⟩,tokE s)
 else if uV (tokE s) 47=true then
  if tokS ((tokE s).drop 1)=[] then(5,⟨[],[]⟩,tokE ((tokE s).drop 1))
  else medB (lowS (tokS s)++([47]++lowS (tokS ((tokE s).drop 1)))) (tokE ((tokE s).drop 1))
 else medB (lowS (tokS s)) (tokE s)
def wz (s:Str):Int × Med × Str:=medA (skS s)
def xK (s:Str):Med × Int:=if Xw s=false then(⟨[],[]⟩,3) else if(wz s).1=0 then((wz s).2.1,0) else(⟨[],[]⟩,(wz s).1)
theorem zfj (s:Str):(parM s).1=0∨(parM s).1=5∨(parM s).1=14:=by
 unfold parM
 repeat' split
 all_goals simp
def ixP (l:List Fld) (n:Str):Int:=if l.findIdx (fun f=>f.name == n)<l.length then(l.findIdx (fun f=>f.name == n):Int) else -1
theorem zuA (l:List Fld) (n:Str):getP l n=if 0≤ixP l n then((l.getD (ixP l n).toNat ⟨[],[]⟩).value,true) else([],false):=by
 unfold getP ixP;rw [List.find?_eq_getElem?_findIdx]
 by_cases h:l.findIdx (fun f=>f.name == n)<l.length
 · rw [if_pos h,if_pos (by omega),jm h]
   simp [jH,h]
 · rw [if_neg h,if_neg (by omega),List.getElem?_eq_none (by omega)]
end Go.Proofs.YtkjepecoodjbmaaGreatDoor
namespace Go.Proofs.YtkjepecoodjbmaaGreatDoor
open Go Go.Sep Go.Ab
set_option maxRecDepth 100000
def qW (I:Alg):KU
 |[.v (.one (.p (.str s))),.v (.one (.p (.str ([32,9]))))],[]=>(fun(s:Str)=>(some (.one ⟨I.hid (True),(.ret (.v (.one (.p (.str (I.hid (skS s))))))),[]⟩):Option CT)) s
 |_,_=>none
theorem QM:zx Tryz.prog 278 (qW alg):=by
 intro args hp r h;unfold qW at h;split at h<;>cases h
 rename_i s;simp only [CT.Good,zh];intro _
 refine Spc.of_below ⟨_,Tryz.func278,by kernel_rfl,by kernel_rfl⟩ fun S bs w vs _ hM=> ?_
 obtain⟨v,r,rfl⟩: ∃ v r,vs=v::r:=by cases vs with|nil=>exact hM.elim|cons v r=>exact⟨v,r,rfl⟩
 obtain⟨h1,hM⟩:=hM
 obtain⟨v2,r2,rfl⟩: ∃ v r2,r=v::r2:=by cases r with|nil=>exact hM.elim|cons v r=>exact⟨v,r,rfl⟩
 obtain⟨h2,hM⟩:=hM
 obtain rfl:r2=[]:=by cases r2 with|nil=>rfl|cons v r=>exact hM.elim
 cases h1 with
 | str _ hl1=>
   cases h2 with
   | str _ hl2=>
     refine⟨.string (Sep.S (skS s)),.str _ (Nat.le_trans (wV _) hl1),?_⟩
     exact Tryz.strings_TrimLeft_laid (Sep.S s) (Sep.S [32,9]) w (by decide) (fun j b hb=>by
      have:=List.mem_of_getElem? hb
      rcases(by simpa [Sep.S] using this:b=32∨b=9) with rfl|rfl<;>decide)
def zhf:Know Tryz.prog:=⟨278,qW,QM⟩
def zhe:Know Tryz.prog:=⟨278,fun I=>zu I (qW I),zf QM⟩
theorem zt6 (b:Bool) (c:Int) (hneed:b=false):Spc Tryz.prog 254 [.v (.one (.p (.bool b))),.v (.one (.p (.int .i64 c)))] [] (.ret (.tup [])) []:=by
 refine spH Tryz.func254 (by kernel_rfl) { keep:=some [0,1]} [] (by kernel_rfl) ?_
 intro I X hI hX
 refine orcL ?_;go_invoke;refine orcS (by kernel_rfl) ?_
 simp only [zi,Nat.reduceAdd];subst hI;simp only [nrmA,nrmB]
 (repeat' (first|refine ja ?_ ?_|intro _))<;>first|omega|exact jb|exact jc ‹False›|skip
 all_goals simp_all
theorem zt5 (b:Bool) (c:Int) (hneed:b=true):Spc Tryz.prog 254 [.v (.one (.p (.bool b))),.v (.one (.p (.int .i64 c)))] [] (.pan (.ifc 256 false [.int .i64 c])) []:=by
 refine spH Tryz.func254 (by kernel_rfl) { keep:=some [0,1]} [] (by kernel_rfl) ?_
 intro I X hI hX
 refine orcL ?_;go_invoke;refine orcS (by kernel_rfl) ?_
 simp only [zi,Nat.reduceAdd];subst hI;simp only [nrmA,nrmB]
 (repeat' (first|refine ja ?_ ?_|intro _))<;>first|omega|exact jb|exact jc ‹False›|skip
 all_goals simp_all
def RJ (I:Alg):KU
 |[.v (.one (.p (.bool b))),.v (.one (.p (.int .i64 c)))],[]=>some (.br (I.hid (b)) (.one ⟨I.hid (b=true),(.pan (.ifc 256 false [.int .i64 c])),[]⟩) (.one ⟨I.hid (b=false),(.ret (.tup [])),[]⟩))
 |_,_=>none
theorem zjT:zx Tryz.prog 254 (RJ alg):=by
 intro args hp r h;unfold RJ at h
 split at h
 · cases h;exact⟨fun _ hn=>zt5 _ _ hn,fun _ hn=>zt6 _ _ hn⟩
 · cases h
def wu:Know Tryz.prog:=⟨254,RJ,zjT⟩
def wo:Know Tryz.prog:=⟨254,fun I=>zu I (RJ I),zf zjT⟩
def YX (I:Alg):KU
 |[.v (.one (.ptr 0 0))],[.pack [.obj 260 [.p (.str s)]]]=>(fun(s:Str)=>(some (.one ⟨I.hid (True),(.ret (.tup [])),[.pack [.obj 260 [.p (.str (I.hid (skS s)))]]]⟩):Option CT)) s
 |_,_=>none
theorem zb4:zx Tryz.prog 250 (YX alg):=by
 intro args hp r h;unfold YX at h;split at h<;>cases h
 rename_i s;simp only [CT.Good,zh];intro _
 refine spH Tryz.func250 (by kernel_rfl) { keep:=some [0]} [zhf,zhe] (by kernel_rfl) ?_
 intro I X hI hX
 refine orcL ?_;go_invoke;refine orcS (by kernel_rfl) ?_
 simp only [zi,Nat.reduceAdd];subst hI;simp only [nrmA,nrmB,nrlB,reduceCtorEq,HO.pack.injEq,HO.obj.injEq]
 try trivial
def YW:Know Tryz.prog:=⟨250,YX,zb4⟩
def YV:Know Tryz.prog:=⟨250,fun I=>zu I (YX I),zf zb4⟩
def RH (I:Alg):KU
 |[.v (.one (.ptr 0 0)),.v (.one (.p (.int .u8 k)))],[.pack [.obj 260 [.p (.str s)]]]=>(fun(s:Str)=>(some (.one ⟨I.hid (0≤k∧k≤255),(.ret (.v (.one (.p (.bool (I.hid (uV s (UInt8.ofNat k.toNat)))))))),[.pack [.obj 260 [(.p (.str (I.hid (if uV s (UInt8.ofNat k.toNat)=true then s.drop 1 else s))))]]]⟩):Option CT)) s
 |_,_=>none
theorem zjQ:zx Tryz.prog 252 (RH alg):=by
 intro args hp r h;unfold RH at h;split at h<;>cases h
 rename_i k s;simp only [CT.Good,zh];intro hneed;generalize hr:uV s (UInt8.ofNat k.toNat)=r
 refine spH Tryz.func252 (by kernel_rfl) { keep:=some [0,1,4,5]} [] (by kernel_rfl) ?_
 intro I X hI hX
 refine orcL ?_;go_invoke;refine orcS (by kernel_rfl) ?_
 simp only [zi,Nat.reduceAdd];subst hI;simp only [nrmA,nrmB,nrlB,reduceCtorEq,HO.pack.injEq,HO.obj.injEq]
 have hk:((UInt8.ofNat k.toNat).toNat:Int)=k:=by rw [UInt8.toNat_ofNat',Nat.mod_eq_of_lt (by omega)];omega
 have hk2: ∀ c:UInt8,(c.toNat:Int)=k↔c=UInt8.ofNat k.toNat:=fun c=>⟨fun h=>by rw [← h];simp,fun h=>by rw [h];exact hk⟩
 rw [drop1];have hs:s=[]↔s.length=0:=List.length_eq_zero_iff.symm;rw [hs]
 cases r with
 | true=>
   obtain⟨h1,h2⟩:=zck.1 hr;have hkk:=(hk2 _).2 h2;rw [hkk]
   (repeat' (first|refine ja ?_ ?_|intro _))<;>first|omega|exact jb|exact jc ‹False›|skip
   all_goals first|omega|(simp;done)|(simp_all;done)
 | false=>
   have h1:0<s.length→¬ ((s.getD 0 0).toNat:Int)=k:=fun h q=>by rw [zck.2 ⟨h,(hk2 _).1 q⟩] at hr;cases hr
   (repeat' (first|refine ja ?_ ?_|intro _))<;>first|omega|exact jb|exact jc ‹False›|skip
   all_goals first|omega|(simp;done)|(exfalso;exact h1 (by omega) ‹_›)|(have:=h1 (by omega);simp_all;done)|trace_state
def YU:Know Tryz.prog:=⟨252,RH,zjQ⟩
def YT:Know Tryz.prog:=⟨252,fun I=>zu I (RH I),zf zjQ⟩
theorem zvE (s:Str) (hneed:s.length≤1000000∧¬ tokS s=[]):Spc Tryz.prog 251 [.v (.one (.ptr 0 0))] [.pack [.obj 260 [.p (.str s)]]] (.ret (.v (.one (.p (.str ((tokS s))))))) [.pack [.obj 260 [.p (.str ((tokE s)))]]]:=by
 obtain⟨hl,hne⟩:=hneed
 refine spH Tryz.func251 (by kernel_rfl) { keep:=some [0,2,3,4]} [qX,XQ,wu,wo] (by kernel_rfl) ?_
 intro I X hI hX
 refine orcL ?_;go_invoke;refine orcS (by kernel_rfl) ?_
 simp only [zi,Nat.reduceAdd]
 refine lpH hI [qX,XQ,wu,wo] hX [0,3] (fun(i:Nat)=>i≤(tokS s).length) (fun(i:Nat)=>⟨[(0,.v (.one (.ptr 0 0))),(3,.v (.one (.p (.int .i64 i))))],[.pack [.obj 260 [.p (.str s)]]],42,none⟩) (fun(i:Nat)=>s.length - i) 0 (by kernel_rfl) (by kernel_rfl) ?_ ?_
 · exact jM _
 rintro i h1 A hA
 refine orcL ?_;go_invoke;refine orcS (by kernel_rfl) ?_
 simp only [zi,Nat.reduceAdd];subst hI;simp only [nrmA,nrmB,nrlB,reduceCtorEq,HO.pack.injEq,HO.obj.injEq];have hb:=vM (s.getD i 0);have hs:=zmI (p:=isTk) (s:=s) h1;have hle:=uX s;have ht:=ztJ isTk s;have hd:=drop_tw isTk s;unfold isTk at hs
 change _↔i<(tokS s).length at hs
 change s.take (tokS s).length=tokS s at ht
 change s.drop (tokS s).length=tokE s at hd
 have hlen:=ztH s
 have hend: ¬ i<(tokS s).length→i=(tokS s).length:=fun h=>by omega
 generalize s.getD i 0=x at *
 have hgo:i<(tokS s).length→A ⟨[(0,.v (.one (.ptr 0 0))),(3,.v (.one (.p (.int .i64 (((i:Int)+1))))))],[.pack [.obj 260 [.p (.str s)]]],42,none⟩:=fun h=>hA (i+1) (by omega) (by omega)
 by_cases hi:i<(tokS s).length
 · have hi2:=hs.2 hi
   clear hs hend ht hd hA
   (repeat' (first|refine ja ?_ ?_|intro _))<;>first|omega|exact jb|exact jc ‹False›|skip
   all_goals first
    |omega
    |exact hgo hi
    |(exfalso;simp_all;done)
 · have hx:i<s.length→tokB (x.toNat:Int)=true→False:=fun a b=>hi (hs.1 ⟨a,b⟩)
   have hi2:=hend hi;clear hs hend hA hgo;subst hi2;rw [ht]
   have hcut:List.take (s.length - (tokS s).length) (List.drop (tokS s).length s)=tokE s:=by rw [hd];exact jq (by omega)
   rw [hcut]
   (repeat' (first|refine ja ?_ ?_|intro _))<;>first|omega|exact jb|exact jc ‹False›|skip
   all_goals first
    |omega
    |(exfalso;exact hx (by omega) ‹_›)
    |(exfalso;exact hne ‹_›)
    |(simp [hne];done)
theorem zvD (s:Str) (hneed:s.length≤1000000∧tokS s=[]):Spc Tryz.prog 251 [.v (.one (.ptr 0 0))] [.pack [.obj 260 [.p (.str s)]]] (.pan (.ifc 256 false [.int .i64 5])) [.pack [.obj 260 [.p (.str ((tokE s)))]]]:=by
 obtain⟨hl,hne⟩:=hneed
 refine spH Tryz.func251 (by kernel_rfl) { keep:=some [0,2,3,4]} [qX,XQ,wu,wo] (by kernel_rfl) ?_
 intro I X hI hX
 refine orcL ?_;go_invoke;refine orcS (by kernel_rfl) ?_
 simp only [zi,Nat.reduceAdd]
 refine lpH hI [qX,XQ,wu,wo] hX [0,3] (fun(i:Nat)=>i≤(tokS s).length) (fun(i:Nat)=>⟨[(0,.v (.one (.ptr 0 0))),(3,.v (.one (.p (.int .i64 i))))],[.pack [.obj 260 [.p (.str s)]]],42,none⟩) (fun(i:Nat)=>s.length - i) 0 (by kernel_rfl) (by kernel_rfl) ?_ ?_
 · exact jM _
 rintro i h1 A hA
 refine orcL ?_;go_invoke;refine orcS (by kernel_rfl) ?_
 simp only [zi,Nat.reduceAdd];subst hI;simp only [nrmA,nrmB,nrlB,reduceCtorEq,HO.pack.injEq,HO.obj.injEq];have hb:=vM (s.getD i 0);have hs:=zmI (p:=isTk) (s:=s) h1;have hd:=drop_tw isTk s;unfold isTk at hs
 change _↔i<(tokS s).length at hs
 change s.drop (tokS s).length=tokE s at hd
 rw [hne] at h1 hs hd;simp only [ji] at h1 hs hd
 have h0:i=0:=by omega
 subst h0;generalize s.getD 0 0=x at *
 have hx:0<s.length→tokB (x.toNat:Int)=true→False:=fun a b=>absurd (hs.1 ⟨a,b⟩) (by omega)
 have hcut:List.take (s.length - 0) (List.drop 0 s)=tokE s:=by rw [hd];exact jq (by have:=ve s;omega)
 clear hs hA;simp only [jJ,List.take_zero,hcut] at *
 (repeat' (first|refine ja ?_ ?_|intro _))<;>first|omega|exact jb|exact jc ‹False›|skip
 all_goals first
  |omega
  |(exfalso;exact hx (by omega) ‹_›)
  |(exfalso;rename_i hq;exact hq rfl)
  |(simp;done)
def zds (I:Alg):KU
 |[.v (.one (.ptr 0 0))],[.pack [.obj 260 [.p (.str s)]]]=>(fun(s:Str)=>(some (.br (I.hid (decide (tokS s=[]))) (.one ⟨I.hid (s.length≤1000000∧tokS s=[]),(.pan (.ifc 256 false [.int .i64 5])),[.pack [.obj 260 [.p (.str (I.hid (tokE s)))]]]⟩) (.one ⟨I.hid (s.length≤1000000∧¬ tokS s=[]),(.ret (.v (.one (.p (.str (I.hid (tokS s))))))),[.pack [.obj 260 [.p (.str (I.hid (tokE s)))]]]⟩)):Option CT)) s
 |_,_=>none
theorem zod:zx Tryz.prog 251 (zds alg):=by
 intro args hp r h;unfold zds at h
 split at h
 · cases h;exact⟨fun _ hn=>zvD _ hn,fun _ hn=>zvE _ hn⟩
 · cases h
def Us:Know Tryz.prog:=⟨251,zds,zod⟩
def Ur:Know Tryz.prog:=⟨251,fun I=>zu I (zds I),zf zod⟩
theorem zvG (s:Str) (hneed:s.length≤1000000∧(quoF s).isSome=true):Spc Tryz.prog 279 [.v (.one (.ptr 0 0))] [.pack [.obj 260 [.p (.str s)]]] (.ret (.v (.one (.p (.str ((quoV s))))))) [.pack [.obj 260 [.p (.str ((quoR s)))]]]:=by
 obtain⟨hl,hne⟩:=hneed
 refine spH Tryz.func279 (by kernel_rfl) { nr:=[3],keep:=some [0,2,3,4]} [wu,wo] (by kernel_rfl) ?_
 intro I X hI hX
 refine orcL ?_;go_invoke;refine orcS (by kernel_rfl) ?_
 simp only [zi,Nat.reduceAdd]
 refine lpH hI [wu,wo] hX [0,3] (fun(g:Str × Str)=>match g with|(b,t)=>b.length+t.length≤s.length∧quoF s=(quoF t).map (fun p=>(b++p.1,p.2))) (fun(g:Str × Str)=>match g with|(b,t)=>⟨[(0,.v (.one (.ptr 0 0))),(3,.v (.one (.row 1)))],[.pack [.obj 260 [.p (.str t)]],.row .byte 5 b],53,none⟩) (fun(g:Str × Str)=>match g with|(b,t)=>t.length) ([],s) (by kernel_rfl) (by kernel_rfl) ?_ ?_
 · exact⟨by simp,by simp⟩
 rintro⟨b,t⟩ ⟨h1,h2⟩ A hA
 refine orcL ?_;go_invoke;refine orcS (by kernel_rfl) ?_
 simp only [zi,Nat.reduceAdd];subst hI;simp only [nrmA,nrmB,nrlB,reduceCtorEq,HO.pack.injEq,HO.obj.injEq];have hb:=vM (t.getD 0 0);rw [drop1];have hq: ∀ r:Str × Str,quoF s=some r→True:=fun _ _=>trivial
 cases t with
 | nil=>
   simp only [quoF,Option.map_none] at h2
   (repeat' (first|refine ja ?_ ?_|intro _))<;>first|omega|exact jb|exact jc ‹False›|skip
   all_goals first
    |omega
    |(simp_all;done)
 |cons x t=>
 cases t with
 | nil=>
   simp only [quoF] at h2;have h34:((x.toNat:Int)=34)↔x=34:=qG x 34;have h92:((x.toNat:Int)=92)↔x=92:=qG x 92;simp only [List.getD_cons_zero,h34,h92,List.drop_succ_cons,List.drop_zero,jh,ji] at *
   have hgo: ¬ x=34→A ⟨[(0,.v (.one (.ptr 0 0))),(3,.v (.one (.row 1)))],[.pack [.obj 260 [.p (.str ([]))]],.row .byte 5 ((b++[x]))],53,none⟩:=fun h=>hA (b++[x],[]) ⟨by simp;omega,by rw [h2,if_neg h];rfl⟩ (by simp)
   have hv:x=34→quoV s=b∧quoR s=[]:=fun h=>by unfold quoV quoR;rw [h2,if_pos h];simp
   clear hA
   (repeat' (first|refine ja ?_ ?_|intro _))<;>first|omega|exact jb|exact jc ‹False›|skip
   all_goals first
    |omega
    |exact(hv ‹_›).1.symm
    |exact(hv ‹_›).2.symm
    |exact hgo ‹_›
    |(simp_all;done)
 | cons y t=>
   simp only [quoF] at h2;have h34:((x.toNat:Int)=34)↔x=34:=qG x 34;have h92:((x.toNat:Int)=92)↔x=92:=qG x 92;have hy:=vM y
   have hyt:List.take (t.length+1 - Int.toNat 1) (List.drop (Int.toNat 1) (y::t))=t:=by simpa using drop1 (y::t)
   simp only [List.getD_cons_zero,h34,h92,List.drop_succ_cons,List.drop_zero,jh] at *
   have hgoY: ¬ x=34→x=92→A ⟨[(0,.v (.one (.ptr 0 0))),(3,.v (.one (.row 1)))],[.pack [.obj 260 [.p (.str t)]],.row .byte 5 ((b++[y]))],53,none⟩:=fun h k=>hA (b++[y],t) ⟨by simp;omega,by rw [h2,if_neg h,if_pos k,Option.map_map];congr 1;funext p;simp⟩ (by simp;omega)
   have hgoX: ¬ x=34→¬ x=92→A ⟨[(0,.v (.one (.ptr 0 0))),(3,.v (.one (.row 1)))],[.pack [.obj 260 [.p (.str ((y::t)))]],.row .byte 5 ((b++[x]))],53,none⟩:=fun h k=>hA (b++[x],y::t) ⟨by simp;omega,by rw [h2,if_neg h,if_neg k,Option.map_map];congr 1;funext p;simp⟩ (by simp)
   have hv:x=34→quoV s=b∧quoR s=y::t:=fun h=>by unfold quoV quoR;rw [h2,if_pos h];simp
   clear hA;simp only [ji,Nat.zero_add]
   first|rw [hyt]|skip
   (repeat' (first|refine ja ?_ ?_|intro _))<;>first|omega|exact jb|exact jc ‹False›|skip
   all_goals first
    |omega
    |exact(hv ‹_›).1.symm
    |exact(hv ‹_›).2.symm
    |exact hgoX ‹_› ‹_›
    |exact hgoY ‹_› ‹_›
    |(simp_all;done)
theorem zvF (s:Str) (hneed:s.length≤1000000∧(quoF s).isSome=false):Spc Tryz.prog 279 [.v (.one (.ptr 0 0))] [.pack [.obj 260 [.p (.str s)]]] (.pan (.ifc 256 false [.int .i64 14])) [.pack [.obj 260 [.p (.str ([]))]]]:=by
 obtain⟨hl,hne⟩:=hneed
 refine spH Tryz.func279 (by kernel_rfl) { nr:=[3],keep:=some [0,2,3,4]} [wu,wo] (by kernel_rfl) ?_
 intro I X hI hX
 refine orcL ?_;go_invoke;refine orcS (by kernel_rfl) ?_
 simp only [zi,Nat.reduceAdd]
 refine lpH hI [wu,wo] hX [0,3] (fun(g:Str × Str)=>match g with|(b,t)=>b.length+t.length≤s.length∧quoF s=(quoF t).map (fun p=>(b++p.1,p.2))) (fun(g:Str × Str)=>match g with|(b,t)=>⟨[(0,.v (.one (.ptr 0 0))),(3,.v (.one (.row 1)))],[.pack [.obj 260 [.p (.str t)]],.row .byte 5 b],53,none⟩) (fun(g:Str × Str)=>match g with|(b,t)=>t.length) ([],s) (by kernel_rfl) (by kernel_rfl) ?_ ?_
 · exact⟨by simp,by simp⟩
 rintro⟨b,t⟩ ⟨h1,h2⟩ A hA
 refine orcL ?_;go_invoke;refine orcS (by kernel_rfl) ?_
 simp only [zi,Nat.reduceAdd];subst hI;simp only [nrmA,nrmB,nrlB,reduceCtorEq,HO.pack.injEq,HO.obj.injEq];have hb:=vM (t.getD 0 0);rw [drop1];have hq: ∀ r:Str × Str,quoF s=some r→True:=fun _ _=>trivial
 cases t with
 | nil=>
   simp only [quoF,Option.map_none] at h2
   (repeat' (first|refine ja ?_ ?_|intro _))<;>first|omega|exact jb|exact jc ‹False›|skip
   all_goals first
    |omega
    |(simp_all;done)
 |cons x t=>
 cases t with
 | nil=>
   simp only [quoF] at h2;have h34:((x.toNat:Int)=34)↔x=34:=qG x 34;have h92:((x.toNat:Int)=92)↔x=92:=qG x 92;simp only [List.getD_cons_zero,h34,h92,List.drop_succ_cons,List.drop_zero,jh,ji] at *
   have hgo: ¬ x=34→A ⟨[(0,.v (.one (.ptr 0 0))),(3,.v (.one (.row 1)))],[.pack [.obj 260 [.p (.str ([]))]],.row .byte 5 ((b++[x]))],53,none⟩:=fun h=>hA (b++[x],[]) ⟨by simp;omega,by rw [h2,if_neg h];rfl⟩ (by simp)
   have hv:x=34→quoV s=b∧quoR s=[]:=fun h=>by unfold quoV quoR;rw [h2,if_pos h];simp
   clear hA
   (repeat' (first|refine ja ?_ ?_|intro _))<;>first|omega|exact jb|exact jc ‹False›|skip
   all_goals first
    |omega
    |exact(hv ‹_›).1.symm
    |exact(hv ‹_›).2.symm
    |exact hgo ‹_›
    |(simp_all;done)
 | cons y t=>
   simp only [quoF] at h2;have h34:((x.toNat:Int)=34)↔x=34:=qG x 34;have h92:((x.toNat:Int)=92)↔x=92:=qG x 92;have hy:=vM y
   have hyt:List.take (t.length+1 - Int.toNat 1) (List.drop (Int.toNat 1) (y::t))=t:=by simpa using drop1 (y::t)
   simp only [List.getD_cons_zero,h34,h92,List.drop_succ_cons,List.drop_zero,jh] at *
   have hgoY: ¬ x=34→x=92→A ⟨[(0,.v (.one (.ptr 0 0))),(3,.v (.one (.row 1)))],[.pack [.obj 260 [.p (.str t)]],.row .byte 5 ((b++[y]))],53,none⟩:=fun h k=>hA (b++[y],t) ⟨by simp;omega,by rw [h2,if_neg h,if_pos k,Option.map_map];congr 1;funext p;simp⟩ (by simp;omega)
   have hgoX: ¬ x=34→¬ x=92→A ⟨[(0,.v (.one (.ptr 0 0))),(3,.v (.one (.row 1)))],[.pack [.obj 260 [.p (.str ((y::t)))]],.row .byte 5 ((b++[x]))],53,none⟩:=fun h k=>hA (b++[x],y::t) ⟨by simp;omega,by rw [h2,if_neg h,if_neg k,Option.map_map];congr 1;funext p;simp⟩ (by simp)
   have hv:x=34→quoV s=b∧quoR s=y::t:=fun h=>by unfold quoV quoR;rw [h2,if_pos h];simp
   clear hA;simp only [ji,Nat.zero_add]
   first|rw [hyt]|skip
   (repeat' (first|refine ja ?_ ?_|intro _))<;>first|omega|exact jb|exact jc ‹False›|skip
   all_goals first
    |omega
    |exact(hv ‹_›).1.symm
    |exact(hv ‹_›).2.symm
    |exact hgoX ‹_› ‹_›
    |exact hgoY ‹_› ‹_›
    |(simp_all;done)
def zdu (I:Alg):KU
 |[.v (.one (.ptr 0 0))],[.pack [.obj 260 [.p (.str s)]]]=>(fun(s:Str)=>(some (.br (I.hid ((quoF s).isSome)) (.one ⟨I.hid (s.length≤1000000∧(quoF s).isSome=true),(.ret (.v (.one (.p (.str (I.hid (quoV s))))))),[.pack [.obj 260 [.p (.str (I.hid (quoR s)))]]]⟩) (.one ⟨I.hid (s.length≤1000000∧(quoF s).isSome=false),(.pan (.ifc 256 false [.int .i64 14])),[.pack [.obj 260 [.p (.str (I.hid ([])))]]]⟩)):Option CT)) s
 |_,_=>none
theorem zog:zx Tryz.prog 279 (zdu alg):=by
 intro args hp r h;unfold zdu at h
 split at h
 · cases h;exact⟨fun _ hn=>zvG _ hn,fun _ hn=>zvF _ hn⟩
 · cases h
def zof:Know Tryz.prog:=⟨279,zdu,zog⟩
def zoe:Know Tryz.prog:=⟨279,fun I=>zu I (zdu I),zf zog⟩
theorem zvI (s:Str) (hneed:s.length≤1000000∧(parM s).1=0):Spc Tryz.prog 253 [.v (.one (.ptr 0 0))] [.pack [.obj 260 [.p (.str s)]]] (.ret (.v (.agg [.p (.str ((parM s).2.1.name)),.p (.str ((parM s).2.1.value))]))) [.pack [.obj 260 [.p (.str ((parM s).2.2))]]]:=by
 obtain⟨hl,hc⟩:=hneed;generalize hr:parM s=r at hc;obtain⟨c,⟨n,v⟩,z⟩:=r;simp only at hc;subst hc
 refine spH Tryz.func253 (by kernel_rfl) { keep:=some [0,2,3]} [wI,wH,wu,wo,YU,YT,Us,Ur,zof,zoe] (by kernel_rfl) ?_
 intro I X hI hX
 refine orcL ?_;go_invoke;refine orcS (by kernel_rfl) ?_
 simp only [zi,Nat.reduceAdd];subst hI;simp only [nrmA,nrmB,nrlB,reduceCtorEq,HO.pack.injEq,HO.obj.injEq];unfold parM at hr;have hl1:=uX s;have hl2:=ve s;simp only [show UInt8.ofNat (Int.toNat 61)=61 from rfl,show UInt8.ofNat (Int.toNat 34)=34 from rfl] at *
 (repeat' (first|refine ja ?_ ?_|intro _))<;>first|omega|exact jb|exact jc ‹False›|skip
 all_goals first
  |omega
  |(simp_all;done)
  |(simp_all;omega)
theorem zvH (s:Str) (hneed:s.length≤1000000∧¬ (parM s).1=0):Spc Tryz.prog 253 [.v (.one (.ptr 0 0))] [.pack [.obj 260 [.p (.str s)]]] (.pan (.ifc 256 false [.int .i64 ((parM s).1)])) [.pack [.obj 260 [.p (.str ((parM s).2.2))]]]:=by
 obtain⟨hl,hc⟩:=hneed;generalize hr:parM s=r at hc;obtain⟨c,⟨n,v⟩,z⟩:=r;simp only at hc
 refine spH Tryz.func253 (by kernel_rfl) { keep:=some [0,2,3]} [wI,wH,wu,wo,YU,YT,Us,Ur,zof,zoe] (by kernel_rfl) ?_
 intro I X hI hX
 refine orcL ?_;go_invoke;refine orcS (by kernel_rfl) ?_
 simp only [zi,Nat.reduceAdd];subst hI;simp only [nrmA,nrmB,nrlB,reduceCtorEq,HO.pack.injEq,HO.obj.injEq];unfold parM at hr;have hl1:=uX s;have hl2:=ve s;simp only [show UInt8.ofNat (Int.toNat 61)=61 from rfl,show UInt8.ofNat (Int.toNat 34)=34 from rfl] at *
 (repeat' (first|refine ja ?_ ?_|intro _))<;>first|omega|exact jb|exact jc ‹False›|skip
 all_goals first
  |omega
  |(simp_all;done)
  |(simp_all;omega)
  |(by_cases hq:tokS (List.drop 1 (tokE s))=[]<;>simp_all;done)
def zdx (I:Alg):KU
 |[.v (.one (.ptr 0 0))],[.pack [.obj 260 [.p (.str s)]]]=>(fun(s:Str)=>(some (.br (I.hid (decide ((parM s).1=0))) (.one ⟨I.hid (s.length≤1000000∧(parM s).1=0),(.ret (.v (.agg [.p (.str (I.hid ((parM s).2.1.name))),.p (.str (I.hid ((parM s).2.1.value)))]))),[.pack [.obj 260 [.p (.str (I.hid ((parM s).2.2)))]]]⟩) (.one ⟨I.hid (s.length≤1000000∧¬ (parM s).1=0),(.pan (.ifc 256 false [.int .i64 (I.hid ((parM s).1))])),[.pack [.obj 260 [.p (.str (I.hid ((parM s).2.2)))]]]⟩)):Option CT)) s
 |_,_=>none
theorem zoh:zx Tryz.prog 253 (zdx alg):=by
 intro args hp r h;unfold zdx at h
 split at h
 · cases h;exact⟨fun _ hn=>zvI _ hn,fun _ hn=>zvH _ hn⟩
 · cases h
def zdw:Know Tryz.prog:=⟨253,zdx,zoh⟩
def zdv:Know Tryz.prog:=⟨253,fun I=>zu I (zdx I),zf zoh⟩
end Go.Proofs.YtkjepecoodjbmaaGreatDoor
namespace Go.Proofs.YtkjepecoodjbmaaGreatDoor
open Go Go.Sep Go.Ab
set_option maxRecDepth 100000
def RI (I:Alg):KU
 |[.v (.agg [.p (.str a),.p (.str b)]),.v (.one (.ptr 0 0))],[.pack [.obj 9 [.p (.str n)]]]=>(fun(a b n:Str)=>(some (.one ⟨I.hid (True),(.ret (.v (.one (.p (.bool (I.hid (a == n))))))),[.pack [.obj 9 [.p (.str n)]]]⟩):Option CT)) a b n
 |_,_=>none
theorem zjS:zx Tryz.prog 245 (RI alg):=by
 intro args hp r h;unfold RI at h;split at h<;>cases h
 rename_i a b n;simp only [CT.Good,zh];intro _
 refine spH Tryz.func245 (by kernel_rfl) { keep:=some [0,1,2,3]} [] (by kernel_rfl) ?_
 intro I X hI hX
 refine orcL ?_;go_invoke;refine orcS (by kernel_rfl) ?_
 simp only [zi,Nat.reduceAdd];subst hI;simp only [nrmA,nrmB,nrlB,reduceCtorEq,HO.pack.injEq,HO.obj.injEq]
 try trivial
def zdD:Know Tryz.prog:=⟨245,RI,zjS⟩
def zrC:Know Tryz.prog:=⟨245,fun I=>zu I (RI I),zf zjS⟩
def zjR (I:Alg):KU
 |[.v (.one (.p (.list .fld l))),.v (.one (.fn 245 [.ptr 0 0]))],[.pack [.obj 9 [.p (.str n)]]]=>(fun(l:List Fld) (n:Str)=>(some (.one ⟨I.hid (l.length≤1000000),(.ret (.v (.one (.p (.int .i64 (I.hid (ixP l n))))))),[.pack [.obj 9 [.p (.str n)]]]⟩):Option CT)) l n
 |_,_=>none
set_option maxHeartbeats 1000000 in
theorem zsR:zx Tryz.prog 244 (zjR alg):=by
 intro args hp r h;unfold zjR at h;split at h<;>cases h
 rename_i l n
 revert l;intro(l:List Fld)
 simp only [CT.Good,zh];intro hneed
 refine spH Tryz.func244 (by kernel_rfl) { keep:=some [0,1,4,5,7,8]} [zdD] (by kernel_rfl) ?_
 intro I X hI hX
 refine orcL ?_;go_invoke;refine orcS (by kernel_rfl) ?_
 simp only [zi,Nat.reduceAdd]
 refine lpH hI [zdD] hX [0,1,7,8] (fun(i:Nat)=>i≤l.length∧i≤l.findIdx (fun f=>f.name == n)) (fun(i:Nat)=>⟨[(0,.v (.one (.p (.list .fld l)))),(1,.v (.one (.fn 245 [.ptr 0 0]))),(7,.v (.one (.p (.int .i64 ((I.len (α:=Fld) l)))))),(8,.v (.one (.p (.int .i64 i))))],[.pack [.obj 9 [.p (.str n)]]],19,none⟩) (fun(i:Nat)=>l.length - i) 0 (by kernel_rfl) (by kernel_rfl) ?_ ?_
 · exact⟨jM _,jM _⟩
 rintro i ⟨h1,h2⟩ A hA
 refine orcL ?_;go_invoke;refine orcS (by kernel_rfl) ?_
 simp only [zi,Nat.reduceAdd];subst hI;simp only [nrmA,nrmB,nrlB,reduceCtorEq,HO.pack.injEq,HO.obj.injEq];have hfl:l.findIdx (fun f=>f.name == n)≤l.length:=List.findIdx_le_length
 have hyes:i<l.length→(l.getD i ⟨[],[]⟩).name=n→ixP l n=i:=fun h hid=>by
  have h0:l.findIdx (fun f=>f.name == n)≤i:=by
   refine Nat.le_of_not_lt fun hlt=> ?_;have:=List.not_of_lt_findIdx hlt;rw [jH,jm h] at hid;simp only [Option.getD_some] at hid;rw [hid] at this;simp at this
  unfold ixP
  rw [if_pos (by omega)];omega
 have hno:i<l.length→¬ (l.getD i ⟨[],[]⟩).name=n→i+1≤l.findIdx (fun f=>f.name == n):=fun h hid=>by
  refine Nat.lt_of_le_of_ne h2 fun e=>hid ?_
  have hlt:l.findIdx (fun f=>f.name == n)<l.length:=by omega
  have:=List.findIdx_getElem (xs:=l) (p:=fun f=>f.name == n) (w:=hlt)
  have h9:l.getD i ⟨[],[]⟩=l[l.findIdx (fun f=>f.name == n)]:=by simp [e,jH,hlt]
  rw [h9];simpa using this
 have hend: ¬ i<l.length→ixP l n= -1:=fun h=>by unfold ixP;rw [if_neg (by omega)]
 generalize l.getD i ⟨[],[]⟩=x at *
 (repeat' (first|refine ja ?_ ?_|intro _))<;>first|omega|exact jb|exact jc ‹False›|skip
 all_goals first
  |omega
  |(exact(hyes (by omega) ‹_›).symm)
  |(exact hA (i+1) ⟨by omega,hno (by omega) ‹_›⟩ (by omega))
  |(exact(hend (by omega)).symm)
def zvM:Know Tryz.prog:=⟨244,zjR,zsR⟩
def zvL:Know Tryz.prog:=⟨244,fun I=>zu I (zjR I),zf zsR⟩
theorem zv1 (l:List Fld) (n:Str): -1≤ixP l n∧ixP l n<l.length:=by unfold ixP;split<;>omega
def zdC (I:Alg):KU
 |[.v (.agg [.p (.str w),.p (.list .fld l)]),.v (.one (.p (.str n)))],[]=>(fun(w:Str) (l:List Fld) (n:Str)=>(some (.one ⟨I.hid (l.length≤1000000),(.ret (.tup [.one (.p (.str (I.hid ((getP l n).1)))),.one (.p (.bool (I.hid ((getP l n).2))))])),[]⟩):Option CT)) w l n
 |_,_=>none
theorem zok:zx Tryz.prog 215 (zdC alg):=by
 intro args hp r h;unfold zdC at h;split at h<;>cases h
 rename_i w l n
 revert l;intro(l:List Fld)
 simp only [CT.Good,zh];intro hneed;rw [zuA];have hx:=zv1 l n
 refine spH Tryz.func215 (by kernel_rfl) { keep:=some [0,1,2,3,4,5,6]} [zdD,zrC,zvM,zvL] (by kernel_rfl) ?_
 intro I X hI hX
 refine orcL ?_;go_invoke;refine orcS (by kernel_rfl) ?_
 simp only [zi,Nat.reduceAdd];subst hI;simp only [nrmA,nrmB]
 (repeat' (first|refine ja ?_ ?_|intro _))<;>first|omega|exact jb|exact jc ‹False›|skip
 all_goals first
  |omega
  |(rw [if_pos (by omega)])
  |(rw [if_neg (by omega)])
def Uu:Know Tryz.prog:=⟨215,zdC,zok⟩
def Ut:Know Tryz.prog:=⟨215,fun I=>zu I (zdC I),zf zok⟩
def cfgM:Cfg:= { sl:=[⟨210,1,.fld,some 236⟩]}
set_option maxHeartbeats 4000000 in
theorem zvK (s:Str) (hneed:s.length≤1000000∧(wz s).1=0):Spc Tryz.prog 221 [.v (.one (.ptr 0 0))] [.pack [.obj 260 [.p (.str s)]]] (.ret (.v (.agg [.p (.str ((wz s).2.1.word)),.p (.list .fld ((wz s).2.1.params))]))) [.pack [.obj 260 [.p (.str ((wz s).2.2))]]]:=by
 obtain⟨hl,hc⟩:=hneed;generalize hr:wz s=r at hc;obtain⟨c,⟨w,ps⟩,z⟩:=r;simp only at hc;subst hc
 refine spH Tryz.func221 (by kernel_rfl) { cfgM with lend:=[215],keep:=some [0,2,3,4,6]} [wI,wH,wu,wo,YW,YV,YU,YT,Us,Ur,zdw,zdv,Uu,Ut] (by kernel_rfl) ?_
 intro I X hI hX
 refine orcL ?_;go_invoke;refine orcS (by kernel_rfl) ?_
 simp only [zi,Nat.reduceAdd]
 have hh: ∀ {α:Type} (x:α),I.hid x=x:=by subst hI;intros;rfl
 have key : ∀ (w0 t0:Str),t0.length≤1000000→((medL (t0.length+1) t0 []).1,(⟨w0,(medL (t0.length+1) t0 []).2.1⟩:Med),(medL (t0.length+1) t0 []).2.2)=(0,⟨w,ps⟩,z)→Ok Tryz.prog X (fun o h=>o=AOut.ret (D.v (V0.agg [C.p (P.str w),C.p (P.list U.fld ps)]))∧h=[HO.pack [HO.obj 260 [C.p (P.str z)]]]) (leaf I tab { cfgM with lend:=[215],keep:=some [0,2,3,4,6]} [⟨vO Tryz.f221,finK I tab { cfgM with lend:=[215],keep:=some [0,2,3,4,6]} 1 Tryz.f221⟩] 0 [1,1,1,1,0,1,0] ⟨[(3,.v (.one (.ptr 2 0))),(2,.v (.one (.ptr 1 0))),(0,.v (.one (.ptr 0 0)))],[.pack [.obj 260 [.p (.str t0)]],.obj 210 [.p (.str ([])),.nilS],.obj 210 [.p (.str w0),.nilS]],60,none⟩):=by
  intro w0 t0 ht0 hm;simp only [Prod.mk.injEq,Med.mk.injEq] at hm;obtain⟨hm1,⟨rfl,hm2⟩,hm3⟩:=hm
  refine lpH hI [wI,wH,wu,wo,YW,YV,YU,YT,Us,Ur,zdw,zdv,Uu,Ut] hX [0,2,3] (fun(g:Str × List Fld)=>match g with|(t,l)=>t.length≤1000000∧l.length≤8∧∃ n,t.length<n∧medL n t l=(0,ps,z)) (fun(g:Str × List Fld)=>match g with|(t,l)=>⟨[(0,.v (.one (.ptr 0 0))),(2,.v (.one (.ptr 1 0))),(3,.v (.one (.ptr 2 0)))],[.pack [.obj 260 [.p (.str t)]],.pack [.obj 210 [.p (.str ([])),.row 1],.row .fld 236 ([])],.pack [.obj 210 [.p (.str w0),.row 1],.row .fld 236 l]],60,none⟩) (fun(g:Str × List Fld)=>match g with|(t,l)=>t.length) (t0,[]) (by kernel_rfl) (by kernel_rfl) ?_ ?_
  · exact⟨ht0,by simp,t0.length+1,by omega,by rw [← hm1,← hm2,← hm3]⟩
  rintro⟨t,l⟩ ⟨ht,hl8,n,hn,hm⟩ A hA;clear hm1 hm2 hm3 hr;simp only at hA
  refine orcL ?_;go_invoke;refine orcS (by kernel_rfl) ?_
  simp only [zi,Nat.reduceAdd]
  cases n with
  |zero=>omega
  |succ n=>
  simp only [medL] at hm;have hgo:=hA (skS (parM (skS (t.drop 1))).2.2,l++[(parM (skS (t.drop 1))).2.1]);have hpl:=zdr (skS (t.drop 1));have hpc:=zfj (skS (t.drop 1));have hsl:=wV (t.drop 1);have hsr:=wV (parM (skS (t.drop 1))).2.2;rw [jC] at hsl;clear hA;simp only [hh,show UInt8.ofNat (Int.toNat 59)=59 from rfl];subst hI
  by_cases h59:uV t 59=true
  · have hpos:=zcj h59
    simp only [h59,if_true] at hm ⊢
    have hgo2:(parM (skS (t.drop 1))).1=0→(getP l (parM (skS (t.drop 1))).2.1.name).2=false→¬ l.length=8→_:=fun h1 h2 h3=>hgo ⟨by simp only;omega,by simp only [jk,jh,ji];omega,n,by simp only;omega,by
     rw [if_neg (fun h=>h h1),if_neg (by rw [h2];exact Bool.false_ne_true),if_neg h3] at hm;exact hm⟩ (by simp only;omega)
    clear hgo;simp only at hgo2;generalize parM (skS (t.drop 1))=p at *;obtain⟨pc,⟨pn,pv⟩,pr⟩:=p;simp only at hgo2 hm hpl hpc hsl hsr ⊢;simp only [nrmA,nrmB,nrlB,reduceCtorEq,jh,ji]
    (repeat' (first|refine ja ?_ ?_|intro _))<;>first|omega|exact jb|exact jc ‹False›|skip
    all_goals first
     |omega
     |assumption
     | (by_cases hpz:pc=0
        · exact hpz
        · rw [if_pos hpz] at hm;simp only [Prod.mk.injEq] at hm;exact hm.1)
     |exact hgo2 ‹_› ‹_› (by omega)
     |(exfalso;rw [if_neg (fun h=>h ‹pc=0›),if_neg (by rw [‹(getP l pn).2=false›];exact Bool.false_ne_true),if_pos (by omega)] at hm;simp_all;done)
     |(rw [if_neg (fun h=>h ‹pc=0›),if_neg (by rw [‹(getP l pn).2=false›];exact Bool.false_ne_true),if_pos (by omega)] at hm;simp_all;done)
     |(exfalso;simp_all;done)
     |(simp_all;done)
  · have h59:uV t 59=false:=by simpa using h59
    simp only [h59,jd,if_false] at hm ⊢;simp only [nrmA,nrmB,nrlB,reduceCtorEq,jh,ji]
    (repeat' (first|refine ja ?_ ?_|intro _))<;>first|omega|exact jb|exact jc ‹False›|skip
    all_goals first
     |omega
     |(exfalso;simp_all;done)
     |(simp_all;done)
     |(by_cases hte:t=[]<;>simp_all;done)
 have hl1:=wV s;have hl2:=ve (skS s);have hl3:=uX (skS s);simp only [hh,show UInt8.ofNat (Int.toNat 47)=47 from rfl,decide_eq_true_eq,decide_eq_false_iff_not];unfold wz medA at hr;generalize skS s=t at *;have hl4:=uX ((tokE t).drop 1);have hl5:=ve ((tokE t).drop 1);rw [jC] at hl4 hl5
 (repeat' (first|refine ja ?_ ?_|intro _))
 all_goals try first|trivial|assumption|omega|(exfalso;simp_all;done)|(subst hI;(try(simp only [nrmA,nrmB,nrlB,reduceCtorEq,jh,ji,vF]))<;>first|omega|(simp_all [vF];done)|(simp_all [vF];omega))
 all_goals(have happ: ∀ a b:Str,I.app (α:=UInt8) a b=a++b:=by subst hI;intros;rfl)
 all_goals try simp only [happ]
 all_goals first
  | (rename_i q1 q2 q3
     rw [if_neg q1,if_pos q2] at hr;simp only [q2,if_true] at q3 ⊢;rw [if_neg q3] at hr;have hsk:=wV (tokE ((tokE t).drop 1))
     exact key _ _ (by omega) hr)
  | (rename_i q1 q2
     rw [if_neg q1,if_neg (by simp [q2])] at hr
     simp only [q2,jd,if_false] at ⊢
     have hsk:=wV (tokE t)
     exact key _ _ (by omega) hr)
set_option maxHeartbeats 4000000 in
theorem zvJ (s:Str) (hneed:s.length≤1000000∧¬ (wz s).1=0):Spc Tryz.prog 221 [.v (.one (.ptr 0 0))] [.pack [.obj 260 [.p (.str s)]]] (.pan (.ifc 256 false [.int .i64 ((wz s).1)])) [.pack [.obj 260 [.p (.str ((wz s).2.2))]]]:=by
 obtain⟨hl,hc⟩:=hneed;generalize hr:wz s=r at hc;obtain⟨c,⟨w,ps⟩,z⟩:=r;simp only at hc
 refine spH Tryz.func221 (by kernel_rfl) { cfgM with lend:=[215],keep:=some [0,2,3,4,6]} [wI,wH,wu,wo,YW,YV,YU,YT,Us,Ur,zdw,zdv,Uu,Ut] (by kernel_rfl) ?_
 intro I X hI hX
 refine orcL ?_;go_invoke;refine orcS (by kernel_rfl) ?_
 simp only [zi,Nat.reduceAdd]
 have hh: ∀ {α:Type} (x:α),I.hid x=x:=by subst hI;intros;rfl
 have key : ∀ (w0 t0:Str),t0.length≤1000000→((medL (t0.length+1) t0 []).1,(⟨w0,(medL (t0.length+1) t0 []).2.1⟩:Med),(medL (t0.length+1) t0 []).2.2)=(c,⟨w,ps⟩,z)→Ok Tryz.prog X (fun o h=>o=AOut.pan (C.ifc 256 false [P.int IntKind.i64 c])∧h=[HO.pack [HO.obj 260 [C.p (P.str z)]]]) (leaf I tab { cfgM with lend:=[215],keep:=some [0,2,3,4,6]} [⟨vO Tryz.f221,finK I tab { cfgM with lend:=[215],keep:=some [0,2,3,4,6]} 1 Tryz.f221⟩] 0 [1,1,1,1,0,1,0] ⟨[(3,.v (.one (.ptr 2 0))),(2,.v (.one (.ptr 1 0))),(0,.v (.one (.ptr 0 0)))],[.pack [.obj 260 [.p (.str t0)]],.obj 210 [.p (.str ([])),.nilS],.obj 210 [.p (.str w0),.nilS]],60,none⟩):=by
  intro w0 t0 ht0 hm;simp only [Prod.mk.injEq,Med.mk.injEq] at hm;obtain⟨hm1,⟨rfl,hm2⟩,hm3⟩:=hm
  refine lpH hI [wI,wH,wu,wo,YW,YV,YU,YT,Us,Ur,zdw,zdv,Uu,Ut] hX [0,2,3] (fun(g:Str × List Fld)=>match g with|(t,l)=>t.length≤1000000∧l.length≤8∧∃ n,t.length<n∧medL n t l=(c,ps,z)) (fun(g:Str × List Fld)=>match g with|(t,l)=>⟨[(0,.v (.one (.ptr 0 0))),(2,.v (.one (.ptr 1 0))),(3,.v (.one (.ptr 2 0)))],[.pack [.obj 260 [.p (.str t)]],.pack [.obj 210 [.p (.str ([])),.row 1],.row .fld 236 ([])],.pack [.obj 210 [.p (.str w0),.row 1],.row .fld 236 l]],60,none⟩) (fun(g:Str × List Fld)=>match g with|(t,l)=>t.length) (t0,[]) (by kernel_rfl) (by kernel_rfl) ?_ ?_
  · exact⟨ht0,by simp,t0.length+1,by omega,by rw [← hm1,← hm2,← hm3]⟩
  rintro⟨t,l⟩ ⟨ht,hl8,n,hn,hm⟩ A hA;clear hm1 hm2 hm3 hr;simp only at hA
  refine orcL ?_;go_invoke;refine orcS (by kernel_rfl) ?_
  simp only [zi,Nat.reduceAdd]
  cases n with
  |zero=>omega
  |succ n=>
  simp only [medL] at hm;have hgo:=hA (skS (parM (skS (t.drop 1))).2.2,l++[(parM (skS (t.drop 1))).2.1]);have hpl:=zdr (skS (t.drop 1));have hpc:=zfj (skS (t.drop 1));have hsl:=wV (t.drop 1);have hsr:=wV (parM (skS (t.drop 1))).2.2;rw [jC] at hsl;clear hA;simp only [hh,show UInt8.ofNat (Int.toNat 59)=59 from rfl];subst hI
  by_cases h59:uV t 59=true
  · have hpos:=zcj h59
    simp only [h59,if_true] at hm ⊢
    have hgo2:(parM (skS (t.drop 1))).1=0→(getP l (parM (skS (t.drop 1))).2.1.name).2=false→¬ l.length=8→_:=fun h1 h2 h3=>hgo ⟨by simp only;omega,by simp only [jk,jh,ji];omega,n,by simp only;omega,by
     rw [if_neg (fun h=>h h1),if_neg (by rw [h2];exact Bool.false_ne_true),if_neg h3] at hm;exact hm⟩ (by simp only;omega)
    clear hgo;simp only at hgo2;generalize parM (skS (t.drop 1))=p at *;obtain⟨pc,⟨pn,pv⟩,pr⟩:=p;simp only at hgo2 hm hpl hpc hsl hsr ⊢;simp only [nrmA,nrmB,nrlB,reduceCtorEq,jh,ji]
    (repeat' (first|refine ja ?_ ?_|intro _))<;>first|omega|exact jb|exact jc ‹False›|skip
    all_goals first
     |omega
     |assumption
     | (by_cases hpz:pc=0
        · exact hpz
        · rw [if_pos hpz] at hm;simp only [Prod.mk.injEq] at hm;exact hm.1)
     |exact hgo2 ‹_› ‹_› (by omega)
     |(exfalso;rw [if_neg (fun h=>h ‹pc=0›),if_neg (by rw [‹(getP l pn).2=false›];exact Bool.false_ne_true),if_pos (by omega)] at hm;simp_all;done)
     |(rw [if_neg (fun h=>h ‹pc=0›),if_neg (by rw [‹(getP l pn).2=false›];exact Bool.false_ne_true),if_pos (by omega)] at hm;simp_all;done)
     |(exfalso;simp_all;done)
     |(simp_all;done)
  · have h59:uV t 59=false:=by simpa using h59
    simp only [h59,jd,if_false] at hm ⊢;simp only [nrmA,nrmB,nrlB,reduceCtorEq,jh,ji]
    (repeat' (first|refine ja ?_ ?_|intro _))<;>first|omega|exact jb|exact jc ‹False›|skip
    all_goals first
     |omega
     |(exfalso;simp_all;done)
     |(simp_all;done)
     |(by_cases hte:t=[]<;>simp_all;done)
 have hl1:=wV s;have hl2:=ve (skS s);have hl3:=uX (skS s);simp only [hh,show UInt8.ofNat (Int.toNat 47)=47 from rfl,decide_eq_true_eq,decide_eq_false_iff_not];unfold wz medA at hr;generalize skS s=t at *;have hl4:=uX ((tokE t).drop 1);have hl5:=ve ((tokE t).drop 1);rw [jC] at hl4 hl5
 (repeat' (first|refine ja ?_ ?_|intro _))
 all_goals try first|trivial|assumption|omega|(exfalso;simp_all;done)|(subst hI;(try(simp only [nrmA,nrmB,nrlB,reduceCtorEq,jh,ji,vF]))<;>first|omega|(simp_all [vF];done)|(simp_all [vF];omega))
 all_goals(have happ: ∀ a b:Str,I.app (α:=UInt8) a b=a++b:=by subst hI;intros;rfl)
 all_goals try simp only [happ]
 all_goals first
  | (rename_i q1 q2 q3
     rw [if_neg q1,if_pos q2] at hr;simp only [q2,if_true] at q3 ⊢;rw [if_neg q3] at hr;have hsk:=wV (tokE ((tokE t).drop 1))
     exact key _ _ (by omega) hr)
  | (rename_i q1 q2
     rw [if_neg q1,if_neg (by simp [q2])] at hr
     simp only [q2,jd,if_false] at ⊢
     have hsk:=wV (tokE t)
     exact key _ _ (by omega) hr)
def zdB (I:Alg):KU
 |[.v (.one (.ptr 0 0))],[.pack [.obj 260 [.p (.str s)]]]=>(fun(s:Str)=>(some (.br (I.hid (decide ((wz s).1=0))) (.one ⟨I.hid (s.length≤1000000∧(wz s).1=0),(.ret (.v (.agg [.p (.str (I.hid ((wz s).2.1.word))),.p (.list .fld (I.hid ((wz s).2.1.params)))]))),[.pack [.obj 260 [.p (.str (I.hid ((wz s).2.2)))]]]⟩) (.one ⟨I.hid (s.length≤1000000∧¬ (wz s).1=0),(.pan (.ifc 256 false [.int .i64 (I.hid ((wz s).1))])),[.pack [.obj 260 [.p (.str (I.hid ((wz s).2.2)))]]]⟩)):Option CT)) s
 |_,_=>none
theorem zoj:zx Tryz.prog 221 (zdB alg):=by
 intro args hp r h;unfold zdB at h
 split at h
 · cases h;exact⟨fun _ hn=>zvK _ hn,fun _ hn=>zvJ _ hn⟩
 · cases h
def zt4:Know Tryz.prog:=⟨221,zdB,zoj⟩
def zt3:Know Tryz.prog:=⟨221,fun I=>zu I (zdB I),zf zoj⟩
end Go.Proofs.YtkjepecoodjbmaaGreatDoor
namespace Go.Proofs.YtkjepecoodjbmaaGreatDoor
open Go Go.Sep Go.Ab
set_option maxRecDepth 100000
theorem zvO (w:Str) (l:List Fld) (n:Int) (s:Str):SpcD Tryz.prog 220 [.ptr 0 0,.ptr 1 0] .ret [.obj 210 [.p (.str w),.p (.list .fld l)],.obj 3 [.p (.int .i64 n)],.pack [.obj 260 [.p (.str s)]]] .ret [.obj 210 [.p (.str w),.p (.list .fld l)],.obj 3 [.p (.int .i64 n)],.obj 260 [.p (.str s)]]:=by
 refine Ue uj mixed Tryz.func220 (by kernel_rfl) { flat:=true} [] (rest:=_) rfl (by kernel_rfl) ?_
 intro I X hI hX
 refine orcL ?_;go_invoke;refine orcS (by kernel_rfl) ?_
 simp only [zi,Nat.reduceAdd]
 try trivial
theorem zvN (w:Str) (n k:Int) (s:Str):SpcD Tryz.prog 220 [.ptr 0 0,.ptr 1 0] (.pan (.ifc 256 false [.int .i64 k])) [.obj 210 [.p (.str w),.nilS],.obj 3 [.p (.int .i64 n)],.pack [.obj 260 [.p (.str s)]]] .ret [.obj 210 [.p (.str []),.nilS],.obj 3 [.p (.int .i64 k)],.obj 260 [.p (.str s)]]:=by
 refine Ue uj mixed Tryz.func220 (by kernel_rfl) { flat:=true} [] (rest:=_) rfl (by kernel_rfl) ?_
 intro I X hI hX
 refine orcL ?_;go_invoke;refine orcS (by kernel_rfl) ?_
 simp only [zi,Nat.reduceAdd]
 try trivial
def zw3:Door Tryz.prog where
 g:=220
 c :=fun _ m caps hp=>match m,caps,hp with
   |.ret,[.ptr 0 0,.ptr 1 0],[.obj 210 [.p (.str w),.p (.list .fld l)],.obj 3 [.p (.int .i64 n)],.pack [.obj 260 [.p (.str s)]]]=>some (True,.ret,[.obj 210 [.p (.str w),.p (.list .fld l)],.obj 3 [.p (.int .i64 n)],.obj 260 [.p (.str s)]])
   |.pan (.ifc 256 false [.int .i64 k]),[.ptr 0 0,.ptr 1 0],[.obj 210 [.p (.str w),.nilS],.obj 3 [.p (.int .i64 n)],.pack [.obj 260 [.p (.str s)]]]=>some (True,.ret,[.obj 210 [.p (.str []),.nilS],.obj 3 [.p (.int .i64 k)],.obj 260 [.p (.str s)]])
   |_,_,_=>none
 ok:=by
  intro m caps hp p m' hp' h _
  split at h
  · cases h;exact zvO _ _ _ _
  · cases h;exact zvN _ _ _ _
  · cases h
def WU (I:Alg):KU
 |[.v (.one (.p (.str s)))],[]=>(fun(s:Str)=>(some (.one ⟨I.hid (s.length≤1000000),(.ret (.tup [.agg [.p (.str (I.hid ((xK s).1.word))),.p (.list .fld (I.hid ((xK s).1.params)))],.one (.p (.int .i64 (I.hid ((xK s).2))))])),[]⟩):Option CT)) s
 |_,_=>none
theorem zfm:zx Tryz.prog 184 (WU alg):=by
 intro args hp r h;unfold WU at h;split at h<;>cases h
 rename_i s;simp only [CT.Good,zh];intro hneed;generalize hr:xK s=r;obtain⟨⟨w,ps⟩,c⟩:=r;unfold xK at hr
 refine zvs uj mixed Tryz.func184 (by kernel_rfl) { cfgM with keep:=some [0,2,3,4]} [wF,wE,zt4,zt3] zw3 (by kernel_rfl) ?_
 intro I X hI hX
 refine orcL ?_;go_invoke;refine orcS (by kernel_rfl) ?_
 simp only [zi,Nat.reduceAdd];subst hI;simp only [nrmA,nrmB,nrlB,reduceCtorEq,V0.agg.injEq]
 (repeat' (first|refine ja ?_ ?_|intro _))<;>first|omega|exact jb|exact jc ‹False›|skip
 all_goals first|(simp_all;done)|trace_state
def wR:Know Tryz.prog:=⟨184,WU,zfm⟩
def wQ:Know Tryz.prog:=⟨184,fun I=>zu I (WU I),zf zfm⟩
end Go.Proofs.YtkjepecoodjbmaaGreatDoor
namespace Go.Proofs.YtkjepecoodjbmaaGreatDoor
open Go Go.Sep Go.Ab
set_option maxRecDepth 100000
end Go.Proofs.YtkjepecoodjbmaaGreatDoor
namespace Go.Proofs.YtkjepecoodjbmaaGreatDoor
open Go Go.Sep Go.Ab
set_option maxRecDepth 100000
def cutB (s:Str) (c:UInt8):Str × Str × Bool:=
 if 0≤Lib.indexByte s c then(s.take (Lib.indexByte s c).toNat,s.drop ((Lib.indexByte s c).toNat+1),true) else(s,[],false)
def uq (s:Str):Fld × Int:=
 if(cutB s 58).2.2=false then(⟨[],[]⟩,5)
 else if Xo (cutB s 58).1=false then(⟨[],[]⟩,6)
 else if 40<(cutB s 58).1.length then(⟨[],[]⟩,4)
 else if Xw (cutB s 58).2.1=false then(⟨[],[]⟩,3)
 else(⟨(cutB s 58).1,Lib.trimS (cutB s 58).2.1 [32,9]⟩,0)
def textF (f:Fld):Str × Int:=
 if Xo f.name=false then([],6)
 else if 40<f.name.length∨200<f.name.length+2+f.value.length then([],4)
 else if Xw f.value=false∨¬ Lib.trimS f.value [32,9]=f.value then([],3)
 else(f.name++[58,32]++f.value,0)
theorem zed (s:Str) (c:UInt8):(cutB s c).1.length≤s.length∧(cutB s c).2.1.length≤s.length:=by
 unfold cutB
 split
 · simp only [jv,jC];omega
 · simp
def SQ (I:Alg):KU
 |[.v (.one (.p (.str s))),.v (.one (.p (.str ([c]))))],[]=>(fun(s:Str)=>(some (.one ⟨I.hid (s.length≤1000000),(.ret (.tup [.one (.p (.str (I.hid ((cutB s c).1)))),.one (.p (.str (I.hid ((cutB s c).2.1)))),.one (.p (.bool (I.hid ((cutB s c).2.2))))])),[]⟩):Option CT)) s
 |_,_=>none
theorem zjc:zx Tryz.prog 243 (SQ alg):=by
 intro args hp r h;unfold SQ at h;split at h<;>cases h
 rename_i s c;simp only [CT.Good,zh];intro hneed;generalize hr:cutB s c=r;obtain⟨a,b,d⟩:=r
 refine spH Tryz.func243 (by kernel_rfl) { keep:=some [0,1,4,5,6,7]} [zoU,zoT] (by kernel_rfl) ?_
 intro I X hI hX
 refine orcL ?_;go_invoke;refine orcS (by kernel_rfl) ?_
 simp only [zi,Nat.reduceAdd];subst hI;simp only [nrmA,nrmB];have hx:=Yj s c;simp only [jh,ji];refine⟨fun h=> ?_,fun h=> ?_⟩
 · rw [cutB,if_pos h] at hr
   simp only [Prod.mk.injEq] at hr;obtain⟨rfl,rfl,rfl⟩:=hr
   refine⟨by omega,by omega,by omega,?_⟩
   rw [show(Lib.indexByte s c+((0+1:Nat):Int)).toNat=(Lib.indexByte s c).toNat+1 by omega]
   have e:List.take (s.length - ((Lib.indexByte s c).toNat+1)) (List.drop ((Lib.indexByte s c).toNat+1) s)=List.drop ((Lib.indexByte s c).toNat+1) s:=jq (by rw [jC];exact jL _)
   rw [e]
 · rw [cutB,if_neg h] at hr
   simp only [Prod.mk.injEq] at hr;obtain⟨rfl,rfl,rfl⟩:=hr;rfl
def zqT:Know Tryz.prog:=⟨243,SQ,zjc⟩
def zqS:Know Tryz.prog:=⟨243,fun I=>zu I (SQ I),zf zjc⟩
def zdl (I:Alg):KU
 |[.v (.one (.p (.str s))),.v (.one (.p (.str ([c]))))],[]=>(fun(s:Str)=>(some (.one ⟨I.hid (s.length≤1000000),(.ret (.tup [.one (.p (.str (I.hid ((cutB s c).1)))),.one (.p (.str (I.hid ((cutB s c).2.1)))),.one (.p (.bool (I.hid ((cutB s c).2.2))))])),[]⟩):Option CT)) s
 |_,_=>none
theorem znt:zx Tryz.prog 214 (zdl alg):=by
 intro args hp r h;unfold zdl at h;split at h<;>cases h
 rename_i s c;simp only [CT.Good,zh];intro hneed
 refine spH Tryz.func214 (by kernel_rfl) { keep:=some [0,1,4,5,6]} [zqT,zqS] (by kernel_rfl) ?_
 intro I X hI hX
 refine orcL ?_;go_invoke;refine orcS (by kernel_rfl) ?_
 simp only [zi,Nat.reduceAdd];subst hI;simp only [nrmA,nrmB];exact hneed
def zns:Know Tryz.prog:=⟨214,zdl,znt⟩
def znr:Know Tryz.prog:=⟨214,fun I=>zu I (zdl I),zf znt⟩
def RF (I:Alg):KU
 |[.v (.one (.p (.str s)))],[]=>(fun(s:Str)=>(some (.one ⟨I.hid (s.length≤1000000),(.ret (.tup [.agg [.p (.str (I.hid ((uq s).1.name))),.p (.str (I.hid ((uq s).1.value)))],.one (.p (.int .i64 (I.hid ((uq s).2))))])),[]⟩):Option CT)) s
 |_,_=>none
theorem zjO:zx Tryz.prog 173 (RF alg):=by
 intro args hp r h;unfold RF at h;split at h<;>cases h
 rename_i s;simp only [CT.Good,zh];intro hneed;generalize hr:uq s=r;obtain⟨⟨a,b⟩,d⟩:=r
 refine spH Tryz.func173 (by kernel_rfl) { keep:=some [0,2,3,4,5,6]} [tZ,tY,wF,wE,VZ,VY,zns,znr] (by kernel_rfl) ?_
 intro I X hI hX
 refine orcL ?_;go_invoke;refine orcS (by kernel_rfl) ?_
 simp only [zi,Nat.reduceAdd];subst hI;simp only [nrmA,nrmB];have hl:=zed s 58;unfold uq at hr
 (repeat' (first|refine ja ?_ ?_|intro _))<;>first|omega|exact jb|exact jc ‹False›|skip
 all_goals first
  |(rw [if_pos (by assumption)] at hr;cases hr;rfl)
  |(rw [if_neg (by simp [*]),if_pos (by assumption)] at hr;cases hr;rfl)
  |(rw [if_neg (by simp [*]),if_neg (by simp [*]),if_pos (by omega)] at hr;cases hr;rfl)
  |(rw [if_neg (by simp [*]),if_neg (by simp [*]),if_neg (by omega),if_pos (by assumption)] at hr;cases hr;rfl)
  |(rw [if_neg (by simp [*]),if_neg (by simp [*]),if_neg (by omega),if_neg (by simp [*])] at hr;cases hr;rfl)
def WS:Know Tryz.prog:=⟨173,RF,zjO⟩
def WR:Know Tryz.prog:=⟨173,fun I=>zu I (RF I),zf zjO⟩
def zc2 (I:Alg):KU
 |[.v (.agg [.p (.str n),.p (.str v)])],[]=>(fun(n v:Str)=>(some (.one ⟨I.hid (n.length≤1000000∧v.length≤1000000),(.ret (.tup [.one (.p (.str (I.hid ((textF ⟨n,v⟩).1)))),.one (.p (.int .i64 (I.hid ((textF ⟨n,v⟩).2))))])),[]⟩):Option CT)) n v
 |_,_=>none
theorem zmM:zx Tryz.prog 147 (zc2 alg):=by
 intro args hp r h;unfold zc2 at h;split at h<;>cases h
 rename_i n v;simp only [CT.Good,zh];intro hneed;generalize hr:textF ⟨n,v⟩=r;obtain⟨a,d⟩:=r
 refine spH Tryz.func147 (by kernel_rfl) { keep:=some [0,1,2,3,4]} [tZ,tY,wF,wE,VZ,VY] (by kernel_rfl) ?_
 intro I X hI hX
 refine orcL ?_;go_invoke;refine orcS (by kernel_rfl) ?_
 simp only [zi,Nat.reduceAdd];subst hI;simp only [nrmA,nrmB];simp only [jk,jh,ji];unfold textF at hr;simp only at hr
 (repeat' (first|refine ja ?_ ?_|intro _))<;>first|omega|exact jb|exact jc ‹False›|skip
 all_goals first
  |(rw [if_pos (by assumption)] at hr;cases hr;rfl)
  |(rw [if_neg (by simp [*]),if_pos (by omega)] at hr;cases hr;rfl)
  |(rw [if_neg (by simp [*]),if_neg (by omega),if_pos (.inl (by assumption))] at hr;cases hr;rfl)
  |(rw [if_neg (by simp [*]),if_neg (by omega),if_pos (.inr (by assumption))] at hr;cases hr;rfl)
  |(rw [if_neg (by simp [*]),if_neg (by omega),if_neg (by simp [*])] at hr;cases hr;rfl)
def zc1:Know Tryz.prog:=⟨147,zc2,zmM⟩
def zc0:Know Tryz.prog:=⟨147,fun I=>zu I (zc2 I),zf zmM⟩
end Go.Proofs.YtkjepecoodjbmaaGreatDoor
namespace Go.Proofs.YtkjepecoodjbmaaGreatDoor
open Go Go.Sep Go.Ab
set_option maxRecDepth 100000
end Go.Proofs.YtkjepecoodjbmaaGreatDoor
namespace Go.Proofs.YtkjepecoodjbmaaGreatDoor
open Go Go.Sep Go.Ab
set_option maxRecDepth 100000
end Go.Proofs.YtkjepecoodjbmaaGreatDoor
namespace Go.Proofs.YtkjepecoodjbmaaGreatDoor
open Go Go.Sep Go.Ab
set_option maxRecDepth 100000
def valsF (l:List Fld) (n:Str):List Str:=(l.filter fun f=>decide (lowS f.name=lowS n)).map (·.value)
def zd5 (I:Alg):KU
 |[.v (.one (.p (.list .fld l))),.v (.one (.p (.str n)))],[]=>(fun(l:List Fld) (n:Str)=>(some (.one ⟨I.hid (l.length≤1000∧n.length≤1000000∧∀ f ∈ l,f.name.length≤1000000∧f.value.length≤1000000),(.ret (.v (.one (.row 0)))),[.row .str 9 (I.hid (valsF l n))]⟩):Option CT)) l n
 |_,_=>none
theorem zpD:zx Tryz.prog 145 (zd5 alg):=by
 intro args hp r h;unfold zd5 at h;split at h<;>cases h
 rename_i l n
 revert l;intro(l:List Fld)
 simp only [CT.Good,zh];intro hneed
 refine spH Tryz.func145 (by kernel_rfl) { nr:=[5],keep:=some [0,1,4,5,7,8,9,10]} [wI,wH] (by kernel_rfl) ?_
 intro I X hI hX
 refine orcL ?_;go_invoke;refine orcS (by kernel_rfl) ?_
 simp only [zi,Nat.reduceAdd]
 refine lpH hI [wI,wH] hX [0,1,5,8,9,10] (fun(g:Nat × List Str)=>match g with|(i,o)=>i≤l.length∧o=valsF (l.take i) n) (fun(g:Nat × List Str)=>match g with|(i,o)=>⟨[(0,.v (.one (.p (.list .fld l)))),(1,.v (.one (.p (.str n)))),(5,.v (.one (.row 0))),(8,.v (.one (.p (.list .fld l)))),(9,.v (.one (.p (.int .i64 ((I.len (α:=Fld) l)))))),(10,.v (.one (.p (.int .i64 i))))],[.row .str 9 o],27,none⟩) (fun(g:Nat × List Str)=>match g with|(i,o)=>l.length - i) (0,[]) (by kernel_rfl) (by kernel_rfl) ?_ ?_
 · exact⟨jM _,rfl⟩
 rintro⟨i,o⟩ ⟨h1,h2⟩ A hA;simp only at hA
 refine orcL ?_;go_invoke;refine orcS (by kernel_rfl) ?_
 simp only [zi,Nat.reduceAdd];subst hI;simp only [nrmA,nrmB]
 have hx:i<l.length→(l.getD i ⟨[],[]⟩) ∈ l:=fun h=>by rw [show l.getD i ⟨[],[]⟩=l[i] by simp [h]];exact List.getElem_mem h
 have hs:i<l.length→valsF (l.take (i+1)) n=if lowS (l.getD i ⟨[],[]⟩).name=lowS n then o++[(l.getD i ⟨[],[]⟩).value] else o:=fun h=>by
  rw [show l.getD i ⟨[],[]⟩=l[i] by simp [h],jB h,h2]
  unfold valsF;rw [List.filter_append,List.map_append]
  by_cases hc:lowS l[i].name=lowS n<;>simp [hc]
 have hol:o.length≤i:=by
  rw [h2];unfold valsF;rw [List.length_map]
  exact Nat.le_trans (List.length_filter_le _ _) (by rw [jv];omega)
 have hn:=fun h=>hneed.2.2 _ (hx h);generalize l.getD i ⟨[],[]⟩=x at *;simp only [jh,ji]
 (repeat' (first|refine ja ?_ ?_|intro _))<;>first|omega|exact jb|exact jc ‹False›|skip
 all_goals first
  |(have:=hn (by omega);omega)
  |exact hA (i+1,_) ⟨by simp only;omega,by simp only;rw [hs (by omega),if_pos (by assumption)]⟩ (by simp only;omega)
  |exact hA (i+1,_) ⟨by simp only;omega,by simp only;rw [hs (by omega),if_neg (by assumption)]⟩ (by simp only;omega)
  |(rw [h2,jq (by omega)])
def XM:Know Tryz.prog:=⟨145,zd5,zpD⟩
def XL:Know Tryz.prog:=⟨145,fun I=>zu I (zd5 I),zf zpD⟩
end Go.Proofs.YtkjepecoodjbmaaGreatDoor
namespace Go.Proofs.YtkjepecoodjbmaaGreatDoor
open Go Go.Sep Go.Ab
set_option maxRecDepth 100000
def oneF (l:List Str):Str × Int:=if l.length=0 then([],10) else if l.length=1 then(l.getD 0 [],0) else([],9)
def zd2 (I:Alg):KU
 |[.v (.one (.p (.list .fld l))),.v (.one (.p (.str n)))],[]=>(fun(l:List Fld) (n:Str)=>(some (.one ⟨I.hid (l.length≤1000∧n.length≤1000000∧∀ f ∈ l,f.name.length≤1000000∧f.value.length≤1000000),(.ret (.tup [.one (.p (.str (I.hid ((oneF (valsF l n)).1)))),.one (.p (.int .i64 (I.hid ((oneF (valsF l n)).2))))])),[]⟩):Option CT)) l n
 |_,_=>none
theorem zpy:zx Tryz.prog 146 (zd2 alg):=by
 intro args hp r h;unfold zd2 at h;split at h<;>cases h
 rename_i l n
 revert l;intro(l:List Fld)
 simp only [CT.Good,zh];intro hneed;generalize hr:oneF (valsF l n)=r;obtain⟨a,d⟩:=r
 refine spH Tryz.func146 (by kernel_rfl) { keep:=some [0,1,4,5,6,11]} [XM,XL] (by kernel_rfl) ?_
 intro I X hI hX
 refine orcL ?_;go_invoke;refine orcS (by kernel_rfl) ?_
 simp only [zi,Nat.reduceAdd];subst hI;simp only [nrmA,nrmB];unfold oneF at hr
 (repeat' (first|refine ja ?_ ?_|intro _))<;>first|omega|exact jb|exact jc ‹False›|skip
 all_goals first
  |assumption
  |exact(hneed.2.2 _ (by assumption)).1
  |exact(hneed.2.2 _ (by assumption)).2
  |(rw [if_pos (by omega)] at hr;cases hr;rfl)
  |(rw [if_neg (by omega),if_pos (by omega)] at hr;cases hr;rfl)
  |(rw [if_neg (by omega),if_neg (by omega)] at hr;cases hr;rfl)
def Yp:Know Tryz.prog:=⟨146,zd2,zpy⟩
def Yo:Know Tryz.prog:=⟨146,fun I=>zu I (zd2 I),zf zpy⟩
end Go.Proofs.YtkjepecoodjbmaaGreatDoor
namespace Go.Proofs.YtkjepecoodjbmaaGreatDoor
open Go Go.Sep Go.Ab
set_option maxRecDepth 100000
def numG (base:Int):Int→Str→Int × Bool
 |n,[]=>(n,true)
 |n,c::l=>if hexK c.toNat<0∨base≤hexK c.toNat then(0,false) else numG base (n * base+hexK c.toNat) l
def numA (s:Str) (base most:Int):Int × Bool:=if s=[]∨most<s.length then(0,false) else numG base 0 s
def top9:Nat→Nat
 |0=>0
 |i+1=>16 * top9 i+15
theorem zmL {i:Nat} (h:i≤9):top9 i≤68719476735:=(by decide: ∀ i:Fin 10,top9 i.1≤68719476735) ⟨i,by omega⟩
theorem zfq {base n:Int} {s:Str} {i:Nat} (h:i<s.length):numG base n (s.drop i)=if hexK (s.getD i 0).toNat<0∨base≤hexK (s.getD i 0).toNat then(0,false) else numG base (n * base+hexK (s.getD i 0).toNat) (s.drop (i+1)):=by
 rw [jE h,numG];simp [h]
theorem zdQ {k:Int} (hk:0≤k∧k≤255): -1≤hexK k∧hexK k≤15:=zxg (p:=fun k=> -1≤hexK k∧hexK k≤15) (by decide+kernel) hk
def Zn (I:Alg):KU
 |[.v (.one (.p (.str s))),.v (.one (.p (.int .i64 10))),.v (.one (.p (.int .i64 9)))],[]=>(fun(s:Str)=>(some (.one ⟨I.hid (True),(.ret (.tup [.one (.p (.int .i64 (I.hid ((numA s 10 9).1)))),.one (.p (.bool (I.hid ((numA s 10 9).2))))])),[]⟩):Option CT)) s
 |_,_=>none
theorem zay:zx Tryz.prog 219 (Zn alg):=by
 intro args hp r h;unfold Zn at h;split at h<;>cases h
 rename_i s;simp only [CT.Good,zh];intro _;generalize hr:numA s 10 9=r
 refine spH Tryz.func219 (by kernel_rfl) { keep:=some [0,1,2,6,7,8,9,10,20,21]} [zci,zch] (by kernel_rfl) ?_
 intro I X hI hX
 refine orcL ?_;go_invoke;refine orcS (by kernel_rfl) ?_
 simp only [zi,Nat.reduceAdd]
 have hne:s≠[]→¬ (9:Int)<s.length→numG 10 0 s=r:=fun h1 h2=>by rw [← hr,numA,if_neg (fun h=>by rcases h with h|h;exact h1 h;exact h2 h)]
 have hyes:(s=[]∨(9:Int)<s.length)→r=(0,false):=fun h=>by rw [← hr,numA,if_pos h]
 refine⟨fun c1=> ?_,fun c1=>⟨fun c2=> ?_,fun c2=> ?_⟩⟩
 · subst hI
   simp only [nrmA,nrmB] at c1;rw [hyes (.inl c1)]
   simp
 · subst hI
   simp only [nrmA,nrmB] at c2;rw [hyes (.inr c2)]
   simp
 have d1:s≠[]:=by
  subst hI;simp only [nrmA,nrmB] at c1;exact c1
 have d2:s.length≤9:=by
  subst hI;simp only [nrmA,nrmB] at c2;omega
 refine lpH hI [zci,zch] hX [0,1,2,8,20,21] (fun(g:Nat × Int)=>match g with|(i,n)=>i≤s.length∧0≤n∧n≤top9 i∧numG 10 n (s.drop i)=r) (fun(g:Nat × Int)=>match g with|(i,n)=>⟨[(0,.v (.one (.p (.str s)))),(1,.v (.one (.p (.int .i64 10)))),(2,.v (.one (.p (.int .i64 9)))),(8,.v (.one (.p (.int .i64 n)))),(20,.v (.one (.p (.int .i64 ((I.len (α:=UInt8) s)))))),(21,.v (.one (.p (.int .i64 i))))],[],42,none⟩) (fun(g:Nat × Int)=>match g with|(i,n)=>s.length - i) (0,0) (by kernel_rfl) (by kernel_rfl) ?_ ?_
 · exact⟨jM _,Int.le_refl _,Int.le_refl _,hne d1 (by omega)⟩
 rintro⟨i,n⟩ ⟨h1,h2,h3,h4⟩ A hA;simp only at hA
 refine orcL ?_;go_invoke;refine orcS (by kernel_rfl) ?_
 simp only [zi,Nat.reduceAdd];subst hI;simp only [nrmA,nrmB];have hb:=vM (s.getD i 0);have hk:=zdQ hb;have hd:i<s.length→_:=fun h=>zfq (base:=10) (n:=n) h
 have ht:i≤9:=by omega
 have ht:=zmL ht;have ht2:top9 (i+1)=16 * top9 i+15:=rfl;generalize s.getD i 0=x at *;generalize hexK (x.toNat:Int)=k at *
 (repeat' (first|refine ja ?_ ?_|intro _))<;>first|omega|exact jb|exact jc ‹False›|skip
 all_goals first
  |omega
  |(rw [← h4,hd (by omega),if_pos (.inl (by omega))])
  |(rw [← h4,hd (by omega),if_pos (.inr (by omega))])
  |(refine hA (i+1,_) ⟨by simp only;omega,by simp only;omega,by simp only;omega,?_⟩ (by simp only;omega);rw [← h4,hd (by omega),if_neg (by omega)])
  |(rw [← h4,jF (by omega)];rfl)
def Zm:Know Tryz.prog:=⟨219,Zn,zay⟩
def Zl:Know Tryz.prog:=⟨219,fun I=>zu I (Zn I),zf zay⟩
def Zk (I:Alg):KU
 |[.v (.one (.p (.str s))),.v (.one (.p (.int .i64 16))),.v (.one (.p (.int .i64 6)))],[]=>(fun(s:Str)=>(some (.one ⟨I.hid (True),(.ret (.tup [.one (.p (.int .i64 (I.hid ((numA s 16 6).1)))),.one (.p (.bool (I.hid ((numA s 16 6).2))))])),[]⟩):Option CT)) s
 |_,_=>none
theorem zax:zx Tryz.prog 219 (Zk alg):=by
 intro args hp r h;unfold Zk at h;split at h<;>cases h
 rename_i s;simp only [CT.Good,zh];intro _;generalize hr:numA s 16 6=r
 refine spH Tryz.func219 (by kernel_rfl) { keep:=some [0,1,2,6,7,8,9,10,20,21]} [zci,zch,Zm,Zl] (by kernel_rfl) ?_
 intro I X hI hX
 refine orcL ?_;go_invoke;refine orcS (by kernel_rfl) ?_
 simp only [zi,Nat.reduceAdd]
 have hne:s≠[]→¬ (6:Int)<s.length→numG 16 0 s=r:=fun h1 h2=>by rw [← hr,numA,if_neg (fun h=>by rcases h with h|h;exact h1 h;exact h2 h)]
 have hyes:(s=[]∨(6:Int)<s.length)→r=(0,false):=fun h=>by rw [← hr,numA,if_pos h]
 refine⟨fun c1=> ?_,fun c1=>⟨fun c2=> ?_,fun c2=> ?_⟩⟩
 · subst hI
   simp only [nrmA,nrmB] at c1;rw [hyes (.inl c1)]
   simp
 · subst hI
   simp only [nrmA,nrmB] at c2;rw [hyes (.inr c2)]
   simp
 have d1:s≠[]:=by
  subst hI;simp only [nrmA,nrmB] at c1;exact c1
 have d2:s.length≤6:=by
  subst hI;simp only [nrmA,nrmB] at c2;omega
 refine lpH hI [zci,zch,Zm,Zl] hX [0,1,2,8,20,21] (fun(g:Nat × Int)=>match g with|(i,n)=>i≤s.length∧0≤n∧n≤top9 i∧numG 16 n (s.drop i)=r) (fun(g:Nat × Int)=>match g with|(i,n)=>⟨[(0,.v (.one (.p (.str s)))),(1,.v (.one (.p (.int .i64 16)))),(2,.v (.one (.p (.int .i64 6)))),(8,.v (.one (.p (.int .i64 n)))),(20,.v (.one (.p (.int .i64 ((I.len (α:=UInt8) s)))))),(21,.v (.one (.p (.int .i64 i))))],[],42,none⟩) (fun(g:Nat × Int)=>match g with|(i,n)=>s.length - i) (0,0) (by kernel_rfl) (by kernel_rfl) ?_ ?_
 · exact⟨jM _,Int.le_refl _,Int.le_refl _,hne d1 (by omega)⟩
 rintro⟨i,n⟩ ⟨h1,h2,h3,h4⟩ A hA;simp only at hA
 refine orcL ?_;go_invoke;refine orcS (by kernel_rfl) ?_
 simp only [zi,Nat.reduceAdd];subst hI;simp only [nrmA,nrmB];have hb:=vM (s.getD i 0);have hk:=zdQ hb;have hd:i<s.length→_:=fun h=>zfq (base:=16) (n:=n) h
 have ht:i≤9:=by omega
 have ht:=zmL ht;have ht2:top9 (i+1)=16 * top9 i+15:=rfl;generalize s.getD i 0=x at *;generalize hexK (x.toNat:Int)=k at *
 (repeat' (first|refine ja ?_ ?_|intro _))<;>first|omega|exact jb|exact jc ‹False›|skip
 all_goals first
  |omega
  |(rw [← h4,hd (by omega),if_pos (.inl (by omega))])
  |(rw [← h4,hd (by omega),if_pos (.inr (by omega))])
  |(refine hA (i+1,_) ⟨by simp only;omega,by simp only;omega,by simp only;omega,?_⟩ (by simp only;omega);rw [← h4,hd (by omega),if_neg (by omega)])
  |(rw [← h4,jF (by omega)];rfl)
def zaw:Know Tryz.prog:=⟨219,Zk,zax⟩
def zav:Know Tryz.prog:=⟨219,fun I=>zu I (Zk I),zf zax⟩
def tN (I:Alg):KU
 |[.v (.one (.p (.str s)))],[]=>(fun(s:Str)=>(some (.one ⟨I.hid (True),(.ret (.tup [.one (.p (.int .i64 (I.hid ((numA s 16 6).1)))),.one (.p (.bool (I.hid ((numA s 16 6).2))))])),[]⟩):Option CT)) s
 |_,_=>none
theorem V4:zx Tryz.prog 240 (tN alg):=by
 intro args hp r h;unfold tN at h;split at h<;>cases h
 rename_i s;simp only [CT.Good,zh];intro _
 refine spH Tryz.func240 (by kernel_rfl) { keep:=some [0,2,3]} [Zm,Zl,zaw,zav] (by kernel_rfl) ?_
 intro I X hI hX
 refine orcL ?_;go_invoke;refine orcS (by kernel_rfl) ?_
 simp only [zi,Nat.reduceAdd];subst hI;simp only [nrmA,nrmB]
 try trivial
def zel:Know Tryz.prog:=⟨240,tN,V4⟩
def zek:Know Tryz.prog:=⟨240,fun I=>zu I (tN I),zf V4⟩
end Go.Proofs.YtkjepecoodjbmaaGreatDoor
namespace Go.Proofs.YtkjepecoodjbmaaGreatDoor
open Go Go.Sep Go.Ab
set_option maxRecDepth 100000
def Xi (I:Alg):KU
 |[.v (.one (.p (.str s)))],[]=>(fun(s:Str)=>(some (.one ⟨I.hid (True),(.ret (.tup [.one (.p (.int .i64 (I.hid ((numA s 10 9).1)))),.one (.p (.bool (I.hid ((numA s 10 9).2))))])),[]⟩):Option CT)) s
 |_,_=>none
theorem zcQ:zx Tryz.prog 182 (Xi alg):=by
 intro args hp r h;unfold Xi at h;split at h<;>cases h
 rename_i s;simp only [CT.Good,zh];intro _
 refine spH Tryz.func182 (by kernel_rfl) { keep:=some [0,2,3]} [Zm,Zl,zaw,zav] (by kernel_rfl) ?_
 intro I X hI hX
 refine orcL ?_;go_invoke;refine orcS (by kernel_rfl) ?_
 simp only [zi,Nat.reduceAdd];subst hI;simp only [nrmA,nrmB]
 try trivial
def sD:Know Tryz.prog:=⟨182,Xi,zcQ⟩
def su:Know Tryz.prog:=⟨182,fun I=>zu I (Xi I),zf zcQ⟩
theorem zfr: ∀ (s:Str) (n:Int),0≤n→(numG 10 n s).1+1≤(n+1) * 10 ^ s.length∧0≤(numG 10 n s).1
 |[],n,h=>by simp [numG];exact h
 | c ::l,n,h=>by
   have h16:(0:Int)<10 ^ l.length:=Int.pow_pos (by decide)
   have e:((n+1) * 10 ^ (c::l).length:Int)=((n+1) * 10) * 10 ^ l.length:=by rw [jh,Int.pow_succ,Int.mul_assoc,Int.mul_comm (10 ^ l.length) 10]
   rw [e,numG]
   split
   · have h1:(1:Int) * 1≤((n+1) * 10) * 10 ^ l.length:=Int.mul_le_mul (by omega) (by omega) (by decide) (by omega)
     exact⟨by simpa using h1,Int.le_refl _⟩
   · rename_i hc
     have h2:=zfr l (n * 10+hexK c.toNat) (by omega)
     exact⟨Int.le_trans h2.1 (Int.mul_le_mul_of_nonneg_right (by omega) (by omega)),h2.2⟩
theorem vV (x:Str):0≤(numA x 10 9).1∧(numA x 10 9).1<1000000000:=by
 unfold numA
 split
 · exact by decide
 · rename_i h
   have h1:=zfr x 0 (Int.le_refl _)
   have h2:x.length≤9:=by omega
   have h3:(10:Int) ^ x.length≤10 ^ 9:=by
    have:(10 ^ x.length:Nat)≤10 ^ 9:=Nat.pow_le_pow_right (by decide) h2
    exact_mod_cast this
   refine⟨h1.2,?_⟩
   have h4:(10:Int) ^ 9=1000000000:=by decide
   omega
end Go.Proofs.YtkjepecoodjbmaaGreatDoor
namespace Go.Proofs.YtkjepecoodjbmaaGreatDoor
open Go Go.Sep Go.Ab
set_option maxRecDepth 100000
def Qu (I:Alg):KU
 |[.v (.one (.p (.list .byte l)))],[]=>(fun(l:Str)=>(some (.one ⟨I.hid (l.length≤100000000),(.ret (.v (.one (.row 0)))),[.row .byte 5 l]⟩):Option CT)) l
 |_,_=>none
theorem zk4:zx Tryz.prog 59 (Qu alg):=by
 intro args hp r h;unfold Qu at h;split at h<;>cases h
 rename_i l;simp only [CT.Good,zh];intro hneed
 refine spH Tryz.func59 (by kernel_rfl) { keep:=some [0,2]} [] (by kernel_rfl) ?_
 intro I X hI hX
 refine orcL ?_;go_invoke;refine orcS (by kernel_rfl) ?_
 simp only [zi,Nat.reduceAdd];subst hI;dsimp only [alg]
 have h2:((([]:Str).length:Nat):Int)+((l.length:Nat):Int)≤140737488355328:=by simp;omega
 refine⟨fun h=>⟨⟨trivial,?_⟩,h2,trivial,rfl⟩,fun h=>⟨h2,trivial,rfl⟩⟩
 have:l=[]:=List.eq_nil_of_length_eq_zero (by have:=eq_of_beq h;omega)
 subst this;rfl
def ZA:Know Tryz.prog:=⟨59,Qu,zk4⟩
def qm:Know Tryz.prog:=⟨59,fun I=>zu I (Qu I),zf zk4⟩
def rM (I:Alg):KU
 |[.v (.one (.p (.list .byte x))),.v (.one (.p (.list .byte y)))],[]=>(fun(x y:Str)=>(some (.one ⟨I.hid (True),(.ret (.v (.one (.p (.bool (I.hid (x == y))))))),[]⟩):Option CT)) x y
 |_,_=>none
theorem U9:zx Tryz.prog 15 (rM alg):=by
 intro args hp r h;unfold rM at h;split at h<;>cases h
 rename_i x y;simp only [CT.Good,zh];intro _
 refine spH Tryz.func15 (by kernel_rfl) { keep:=some [0,1,4]} [] (by kernel_rfl) ?_
 intro I X hI hX
 refine orcL ?_;go_invoke;refine orcS (by kernel_rfl) ?_
 simp only [zi,Nat.reduceAdd];subst hI;exact⟨rfl,trivial⟩
def wX:Know Tryz.prog:=⟨15,rM,U9⟩
def wW:Know Tryz.prog:=⟨15,fun I=>zu I (rM I),zf U9⟩
end Go.Proofs.YtkjepecoodjbmaaGreatDoor
namespace Go.Proofs.YtkjepecoodjbmaaGreatDoor
open Go Go.Sep Go.Ab
def upl0:Upl:=⟨0,0,[],[],0⟩
def atU (l:List Upl) (id:Int):Nat:=l.findIdx fun u=>u.id == id
def yg (l:List Upl) (id:Int):Upl:=l.getD (atU l id) upl0
def xq:List Upl→Int
 |[]=>0
 |u::l=>u.bytes.length+xq l
def creC (l:List Upl) (size:Int) (m:Str):Int:=
 if size< -1 then 1 else if 2000<size∨100<m.length then 4 else if Xw m=false∨¬ Lib.trimS m [32,9]=m then 3 else if l.length=12 then 8 else 0
def creL (l:List Upl) (n size:Int) (m:Str):List Upl:=if creC l size m=0 then l++[⟨n+1,size,m,[],0⟩] else l
def creN (l:List Upl) (n size:Int) (m:Str):Int:=if creC l size m=0 then n+1 else n
def creI (l:List Upl) (n size:Int) (m:Str):Int:=if creC l size m=0 then n+1 else 0
def appC (l:List Upl) (id off:Int) (b:Str):Int:=
 if l.length≤atU l id then 10
 else if ¬ (yg l id).sent=0 then 19
 else if ¬ off=(yg l id).bytes.length then 17
 else if 2000<(yg l id).bytes.length+b.length∨0≤(yg l id).size∧(yg l id).size<(yg l id).bytes.length+b.length then 4
 else if 6000<xq l+b.length then 16 else 0
def appL (l:List Upl) (id off:Int) (b:Str):List Upl:=if appC l id off b=0 then l.set (atU l id) { yg l id with bytes:=(yg l id).bytes++b} else l
def decC (l:List Upl) (id size:Int):Int:=
 if l.length≤atU l id then 10
 else if 0≤(yg l id).size then 18
 else if size<0 then 1
 else if 2000<size∨size<(yg l id).bytes.length then 4 else 0
def decL (l:List Upl) (id size:Int):List Upl:=if decC l id size=0 then l.set (atU l id) { yg l id with size:=size} else l
def droC (l:List Upl) (id:Int):Int:=if l.length≤atU l id then 10 else 0
def droL (l:List Upl) (id:Int):List Upl:=l.eraseIdx (atU l id)
def begC (l:List Upl) (id:Int):Int:=
 if l.length≤atU l id then 10
 else if ¬ (yg l id).sent=0 then 19
 else if ¬ (yg l id).size=(yg l id).bytes.length then 14 else 0
def begL (l:List Upl) (id:Int):List Upl:=if begC l id=0 then l.set (atU l id) { yg l id with sent:=1} else l
def endC (l:List Upl) (id:Int):Int:=
 if l.length≤atU l id then 10
 else if ¬ (yg l id).sent=1 then 19 else 0
def endL (l:List Upl) (id:Int):List Upl:=if endC l id=0 then l.set (atU l id) { yg l id with sent:=2} else l
structure zwJ (u:Upl):Prop where
 bl:u.bytes.length≤2000
 s1: -1≤u.size
 s2:u.size≤2000
 nl:u.note.length≤100
 bs:0≤u.size→(u.bytes.length:Int)≤u.size
 t0:0≤u.sent
 t2:u.sent≤2
 wh:u.sent≠0→u.size=u.bytes.length
structure zJ (l:List Upl) (n:Int):Prop where
 n0:0≤n
 cnt:l.length≤12
 srt:l.Pairwise fun a b=>a.id<b.id
 ids: ∀ u ∈ l,1≤u.id∧u.id≤n
 each: ∀ u ∈ l,zwJ u
 tot:xq l≤6000
theorem Q7:zJ [] 0:=⟨by decide,by decide,List.Pairwise.nil,fun _ h=>by simp at h,fun _ h=>by simp at h,by decide⟩
theorem zqg (l:List Upl) (id:Int):atU l id≤l.length:=List.findIdx_le_length
theorem wK {l:List Upl} {id:Int} (h:atU l id<l.length):yg l id=l[atU l id]:=by unfold yg;simp [h]
theorem wO {l:List Upl} {id:Int} (h:atU l id<l.length):yg l id ∈ l:=by rw [wK h];exact List.getElem_mem h
theorem YC {l:List Upl} {id:Int} (h:atU l id<l.length):(yg l id).id=id:=by
 rw [wK h];have h2:(l[atU l id].id == id)=true:=List.findIdx_getElem (p:=fun u:Upl=>u.id == id) (w:=h)
 simpa using h2
theorem zmG (a b:List Upl):xq (a++b)=xq a+xq b:=by
 induction a with
 |nil=>simp [xq]
 |cons u a ih=>simp only [List.cons_append,xq,ih];omega
theorem ZT: ∀ l:List Upl,0≤xq l
 |[]=>by decide
 |u::l=>by have:=ZT l;simp only [xq];omega
theorem zeD: ∀ {l:List Upl} {i:Nat} {u:Upl} (h:i<l.length),xq (l.set i u)=xq l - l[i].bytes.length+u.bytes.length
 |v::l,0,u,h=>by simp only [List.set_cons_zero,xq,List.getElem_cons_zero];omega
 | v::l,i+1,u,h=>by
   have:=zeD (l:=l) (i:=i) (u:=u) (by simpa using h)
   simp only [List.set_cons_succ,xq,List.getElem_cons_succ,this];omega
theorem QH: ∀ (l:List Upl) (i:Nat),xq (l.eraseIdx i)≤xq l
 |[],_=>by simp [xq]
 |v::l,0=>by simp only [List.eraseIdx_cons_zero,xq];omega
 |v::l,i+1=>by have:=QH l i;simp only [List.eraseIdx_cons_succ,xq];omega
theorem zdd {l:List Upl} {n:Int} (h:zJ l n) {i:Nat} (hi:i<l.length) {u:Upl} (hid:u.id=l[i].id) (hu:zwJ u) (ht:xq l - l[i].bytes.length+u.bytes.length≤6000):zJ (l.set i u) n:=by
 refine⟨h.n0,by rw [List.length_set];exact h.cnt,?_,fun v hv=> ?_,fun v hv=> ?_,by rw [zeD hi];exact ht⟩
 · have h1:=List.pairwise_map (f:=fun u:Upl=>u.id) (R:=(· < ·)) (l:=l)
   have h2:=List.pairwise_map (f:=fun u:Upl=>u.id) (R:=(· < ·)) (l:=l.set i u)
   rw [List.map_set,hid] at h2
   have e:(l.map fun u:Upl=>u.id).set i l[i].id=l.map fun u:Upl=>u.id:=by
    have:=List.set_getElem_self (show i<(l.map fun u:Upl=>u.id).length by simpa using hi)
    simpa using this
   rw [e] at h2;exact h2.1 (h1.2 h.srt)
 · rcases List.mem_or_eq_of_mem_set hv with hv|rfl
   · exact h.ids v hv
   · rw [hid];exact h.ids _ (List.getElem_mem hi)
 · rcases List.mem_or_eq_of_mem_set hv with hv|rfl
   · exact h.each v hv
   · exact hu
theorem zwv {l:List Upl} {n:Int} (h:zJ l n) (size:Int) (m:Str):zJ (creL l n size m) (creN l n size m):=by
 unfold creL creN
 split
 · rename_i hc
   unfold creC at hc
   split at hc
   · cases hc
   split at hc
   · cases hc
   split at hc
   · cases hc
   split at hc
   · cases hc
   have hcnt:=h.cnt;have hn:=h.n0
   refine⟨by omega,by simp;omega,?_,fun u hu=> ?_,fun u hu=> ?_,?_⟩
   · rw [List.pairwise_append]
     refine⟨h.srt,by simp,fun a ha b hb=> ?_⟩
     simp only [List.mem_singleton] at hb;subst hb;have:=(h.ids a ha).2
     show a.id<n+1
     omega
   · rcases List.mem_append.1 hu with hu|hu
     · have:=h.ids u hu;omega
     · simp only [List.mem_singleton] at hu;subst hu;exact⟨by show 1≤n+1;omega,by show n+1≤n+1;omega⟩
   · rcases List.mem_append.1 hu with hu|hu
     · exact h.each u hu
     · simp only [List.mem_singleton] at hu;subst hu
       exact⟨by simp,by simp only;omega,by simp only;omega,by simp only;omega,fun _=>by simpa,by simp,by simp,fun h=>absurd rfl h⟩
   · rw [zmG];have:=h.tot;simp [xq];omega
 · exact h
theorem zwG {l:List Upl} {n:Int} (h:zJ l n) (id off:Int) (b:Str):zJ (appL l id off b) n:=by
 unfold appL
 split
 · rename_i hc
   unfold appC at hc
   split at hc
   · cases hc
   rename_i h1
   have hi:atU l id<l.length:=by omega
   have hu:=h.each _ (wO hi)
   split at hc
   · cases hc
   split at hc
   · cases hc
   split at hc
   · cases hc
   split at hc
   · cases hc
   rename_i h2 h3 h4 h5
   refine zdd h hi (by show(yg l id).id=_;rw [wK hi]) ?_ ?_
   · refine⟨?_,hu.s1,hu.s2,hu.nl,?_,hu.t0,hu.t2,fun hs=>absurd (by simpa using h2) hs⟩
     · show((yg l id).bytes++b).length≤2000;rw [jk];omega
     · intro hs;show((((yg l id).bytes++b).length:Nat):Int)≤(yg l id).size;rw [jk]
       have hs:0≤(yg l id).size:=hs;omega
   · show xq l - _+((((yg l id).bytes++b).length:Nat):Int)≤6000
     rw [jk,← wK hi];omega
 · exact h
theorem zwr {l:List Upl} {n:Int} (h:zJ l n) (id size:Int):zJ (decL l id size) n:=by
 unfold decL
 split
 · rename_i hc
   unfold decC at hc
   split at hc
   · cases hc
   rename_i h1
   have hi:atU l id<l.length:=by omega
   have hu:=h.each _ (wO hi)
   split at hc
   · cases hc
   split at hc
   · cases hc
   split at hc
   · cases hc
   rename_i h2 h3 h4
   refine zdd h hi (by show(yg l id).id=_;rw [wK hi]) ?_ ?_
   · refine⟨hu.bl,by show -1≤size;omega,by show size≤2000;omega,hu.nl,fun _=>by show(((yg l id).bytes.length:Nat):Int)≤size;omega,hu.t0,hu.t2,fun hs=> ?_⟩
     have:=hu.wh hs;omega
   · show xq l - _+(((yg l id).bytes.length:Nat):Int)≤6000
     rw [← wK hi];have:=h.tot;omega
 · exact h
theorem zwp {l:List Upl} {n:Int} (h:zJ l n) (id:Int):zJ (droL l id) n:=by
 unfold droL;have hs:=List.eraseIdx_sublist l (atU l id);refine⟨h.n0,Nat.le_trans hs.length_le h.cnt,h.srt.sublist hs,fun u hu=>h.ids u (hs.subset hu),fun u hu=>h.each u (hs.subset hu),Int.le_trans (QH _ _) h.tot⟩
theorem zwD {l:List Upl} {n:Int} (h:zJ l n) (id:Int):zJ (begL l id) n:=by
 unfold begL
 split
 · rename_i hc
   unfold begC at hc
   split at hc
   · cases hc
   rename_i h1
   have hi:atU l id<l.length:=by omega
   have hu:=h.each _ (wO hi)
   split at hc
   · cases hc
   split at hc
   · cases hc
   rename_i h2 h3
   refine zdd h hi (by show(yg l id).id=_;rw [wK hi]) ⟨hu.bl,hu.s1,hu.s2,hu.nl,hu.bs,by show(0:Int)≤1;decide,by show(1:Int)≤2;decide,fun _=>by simpa using h3⟩ ?_
   show xq l - _+(((yg l id).bytes.length:Nat):Int)≤6000
   rw [← wK hi];have:=h.tot;omega
 · exact h
theorem zwn {l:List Upl} {n:Int} (h:zJ l n) (id:Int):zJ (endL l id) n:=by
 unfold endL
 split
 · rename_i hc
   unfold endC at hc
   split at hc
   · cases hc
   rename_i h1
   have hi:atU l id<l.length:=by omega
   have hu:=h.each _ (wO hi)
   split at hc
   · cases hc
   rename_i h2
   refine zdd h hi (by show(yg l id).id=_;rw [wK hi]) ⟨hu.bl,hu.s1,hu.s2,hu.nl,hu.bs,by show(0:Int)≤2;decide,by show(2:Int)≤2;decide,fun _=>hu.wh (by simp only [Decidable.not_not] at h2;omega)⟩ ?_
   show xq l - _+(((yg l id).bytes.length:Nat):Int)≤6000
   rw [← wK hi];have:=h.tot;omega
 · exact h
theorem zxk {l:List Upl} (h:l.Pairwise fun a b=>a.id<b.id) {i:Nat} (hi:i<l.length):atU l l[i].id=i:=by
 unfold atU;rw [List.findIdx_eq hi]
 refine⟨by simp,fun j hj=> ?_⟩
 have:=List.pairwise_iff_getElem.1 h j i (by omega) hi hj
 simp only [beq_eq_false_iff_ne,ne_eq];omega
theorem zpu {l:List Upl} (h:l.Pairwise fun a b=>a.id<b.id) (id:Int):(l.filter fun u=> !(u.id == id))=droL l id:=by
 induction l with
 |nil=>simp [droL]
 | cons u l ih=>
   have h:=List.pairwise_cons.1 h;unfold droL atU at *;rw [List.filter_cons,List.findIdx_cons]
   by_cases hu:u.id=id
   · have e:(u.id == id)=true:=by simpa using hu
     rw [e];simp only [Bool.not_true,jd,if_false,cond_true,List.eraseIdx_cons_zero];refine List.filter_eq_self.2 fun v hv=> ?_;have:=h.1 v hv
     simp;omega
   · have e:(u.id == id)=false:=by simpa using hu
     rw [e];simp only [Bool.not_false,if_true,cond_false,List.eraseIdx_cons_succ,ih h.2]
end Go.Proofs.YtkjepecoodjbmaaGreatDoor
namespace Go.Proofs.YtkjepecoodjbmaaGreatDoor
open Go Go.Sep Go.Ab
set_option maxRecDepth 100000
def SL (I:Alg):KU
 |[.v (.agg [.p (.int .i64 a),.p (.int .i64 b),.p (.str m),.p (.list .byte y),.p (.int .i64 t)]),.v (.one (.ptr 0 0))],[.pack [.obj 3 [.p (.int .i64 d)]]]=>(fun(m y:Str)=>(some (.one ⟨I.hid (True),(.ret (.v (.one (.p (.bool (I.hid (a == d))))))),[.pack [.obj 3 [.p (.int .i64 d)]]]⟩):Option CT)) m y
 |_,_=>none
theorem zi9:zx Tryz.prog 101 (SL alg):=by
 intro args hp r h;unfold SL at h;split at h<;>cases h
 rename_i a b m y t d;simp only [CT.Good,zh];intro _
 refine spH Tryz.func101 (by kernel_rfl) { keep:=some [0,1,2,3]} [] (by kernel_rfl) ?_
 intro I X hI hX
 refine orcL ?_;go_invoke;refine orcS (by kernel_rfl) ?_
 simp only [zi,Nat.reduceAdd];subst hI;simp only [nrmA,nrmB,nrlB,reduceCtorEq,HO.pack.injEq,HO.obj.injEq]
def SK:Know Tryz.prog:=⟨101,SL,zi9⟩
def zi8:Know Tryz.prog:=⟨101,fun I=>zu I (SL I),zf zi9⟩
def ixU (l:List Upl) (id:Int):Int:=if atU l id<l.length then(atU l id:Int) else -1
theorem zlj {l:List Upl} {id:Int} {i:Nat} (h:i<l.length) (hp:i≤atU l id):(if(l.getD i upl0).id=id then atU l id=i else i+1≤atU l id):=by
 rw [show l.getD i upl0=l[i] by simp [h]]
 split
 · rename_i he
   rcases Nat.lt_or_ge i (atU l id) with h1|h1
   · have:=List.not_of_lt_findIdx (p:=fun u:Upl=>u.id == id) (xs:=l) (i:=i) h1
     simp [he] at this
   · omega
 · rename_i he
   rcases Nat.lt_or_ge i (atU l id) with h1|h1
   · omega
   · have e:atU l id=i:=by omega
     have h2:=YC (l:=l) (id:=id) (by omega)
     rw [wK (by omega)] at h2
     simp only [e] at h2;exact absurd h2 he
def zde (I:Alg):KU
 |[.v (.one (.p (.list .upl l))),.v (.one (.fn 101 [.ptr 0 0]))],[.pack [.obj 3 [.p (.int .i64 d)]]]=>(fun(l:List Upl)=>(some (.one ⟨I.hid (l.length≤1000000),(.ret (.v (.one (.p (.int .i64 (I.hid (ixU l d))))))),[.pack [.obj 3 [.p (.int .i64 d)]]]⟩):Option CT)) l
 |_,_=>none
theorem zm9:zx Tryz.prog 100 (zde alg):=by
 intro args hp r h;unfold zde at h;split at h<;>cases h
 rename_i l d
 revert l;intro(l:List Upl)
 simp only [CT.Good,zh];intro hneed
 refine spH Tryz.func100 (by kernel_rfl) { keep:=some [0,1,4,5,7,8]} [SK] (by kernel_rfl) ?_
 intro I X hI hX
 refine orcL ?_;go_invoke;refine orcS (by kernel_rfl) ?_
 simp only [zi,Nat.reduceAdd]
 refine lpH hI [SK] hX [0,1,7,8] (fun(i:Nat)=>i≤l.length∧i≤atU l d) (fun(i:Nat)=>⟨[(0,.v (.one (.p (.list .upl l)))),(1,.v (.one (.fn 101 [.ptr 0 0]))),(7,.v (.one (.p (.int .i64 ((I.len (α:=Upl) l)))))),(8,.v (.one (.p (.int .i64 i))))],[.pack [.obj 3 [.p (.int .i64 d)]]],19,none⟩) (fun(i:Nat)=>l.length - i) 0 (by kernel_rfl) (by kernel_rfl) ?_ ?_
 · exact⟨jM _,jM _⟩
 rintro i ⟨h1,h2⟩ A hA
 refine orcL ?_;go_invoke;refine orcS (by kernel_rfl) ?_
 simp only [zi,Nat.reduceAdd];subst hI;simp only [nrmA,nrmB];have hx:=fun h=>zlj (l:=l) (id:=d) (i:=i) h h2;have hle:=zqg l d;have e0:(⟨0,0,[],[],0⟩:Upl)=upl0:=rfl;simp only [e0];unfold ixU
 (repeat' (first|refine ja ?_ ?_|intro _))<;>first|omega|exact jb|exact jc ‹False›|skip
 all_goals first
  |(have h3:=hx (by omega);rw [if_pos (by assumption)] at h3;rw [if_pos (by omega),h3])
  |(have h3:=hx (by omega);rw [if_neg (by assumption)] at h3;exact hA (i+1) ⟨by omega,h3⟩ (by omega))
  |(rw [if_neg (by omega)])
def Ug:Know Tryz.prog:=⟨100,zde,zm9⟩
def Uf:Know Tryz.prog:=⟨100,fun I=>zu I (zde I),zf zm9⟩
def zbg:Cfg:= { sl:=[⟨124,0,.upl,some 81⟩,⟨65,0,.upl,some 81⟩]}
theorem zoN {l:List Upl} {id:Int} (h:atU l id<l.length):ixU l id=(atU l id:Int):=by unfold ixU;rw [if_pos h]
theorem zoO {l:List Upl} {id:Int} (h: ¬ atU l id<l.length):ixU l id= -1:=by unfold ixU;rw [if_neg h]
theorem zwV (l:List Upl) (n id:Int) (hneed:l.length≤1000000∧atU l id<l.length):Spc Tryz.prog 58 [.v (.one (.ptr 0 0)),.v (.one (.p (.int .i64 id)))] [.obj 124 [.row 1,.p (.int .i64 n)],.row .upl 81 l] (.ret (.tup [.one (.ept .upl 1 ((atU l id:Int)) 0),.one (.p (.int .i64 0))])) [.obj 124 [.row 1,.p (.int .i64 n)],.row .upl 81 l]:=by
 obtain⟨h1,h2⟩:=hneed
 refine spH Tryz.func58 (by kernel_rfl) { flat:=true,keep:=some [0,1,3,4,5,6]} [SK,zi8,Ug,Uf] (by kernel_rfl) ?_
 intro I X hI hX
 refine orcL ?_;go_invoke;refine orcS (by kernel_rfl) ?_
 simp only [zi,Nat.reduceAdd];subst hI;simp only [nrmA,nrmB,zoN h2]
 (repeat' (first|refine ja ?_ ?_|intro _))<;>first|omega|exact jb|exact jc ‹False›|skip
theorem zwU (l:List Upl) (n id:Int) (hneed:l.length≤1000000∧¬ atU l id<l.length):Spc Tryz.prog 58 [.v (.one (.ptr 0 0)),.v (.one (.p (.int .i64 id)))] [.obj 124 [.row 1,.p (.int .i64 n)],.row .upl 81 l] (.ret (.tup [.one (.p (.val (.pointer none))),.one (.p (.int .i64 10))])) [.obj 124 [.row 1,.p (.int .i64 n)],.row .upl 81 l]:=by
 obtain⟨h1,h2⟩:=hneed
 refine spH Tryz.func58 (by kernel_rfl) { flat:=true,keep:=some [0,1,3,4,5,6]} [SK,zi8,Ug,Uf] (by kernel_rfl) ?_
 intro I X hI hX
 refine orcL ?_;go_invoke;refine orcS (by kernel_rfl) ?_
 simp only [zi,Nat.reduceAdd];subst hI;simp only [nrmA,nrmB,zoO h2]
 (repeat' (first|refine ja ?_ ?_|intro _))<;>first|omega|exact jb|exact jc ‹False›|skip
def zjo (I:Alg):KU
 |[.v (.one (.ptr 0 0)),.v (.one (.p (.int .i64 id)))],[.obj 124 [.row 1,.p (.int .i64 n)],.row .upl 81 l]=>(fun(l:List Upl)=>(some (.br (I.hid (decide (atU l id<l.length))) (.one ⟨I.hid (l.length≤1000000∧atU l id<l.length),(.ret (.tup [.one (.ept .upl 1 (I.hid (atU l id:Int)) 0),.one (.p (.int .i64 0))])),[.obj 124 [.row 1,.p (.int .i64 n)],.row .upl 81 l]⟩) (.one ⟨I.hid (l.length≤1000000∧¬ atU l id<l.length),(.ret (.tup [.one (.p (.val (.pointer none))),.one (.p (.int .i64 10))])),[.obj 124 [.row 1,.p (.int .i64 n)],.row .upl 81 l]⟩)):Option CT)) l
 |_,_=>none
theorem zsJ:zx Tryz.prog 58 (zjo alg):=by
 intro args hp r h;unfold zjo at h
 split at h
 · cases h;exact⟨fun _ hn=>zwV _ _ _ hn,fun _ hn=>zwU _ _ _ hn⟩
 · cases h
def zbQ:Know Tryz.prog:=⟨58,zjo,zsJ⟩
def zbP:Know Tryz.prog:=⟨58,fun I=>zu I (zjo I),zf zsJ⟩
theorem znm (l:List Upl) (n:Int) (hneed:xq l≤1000000∧l.length≤1000000):Spc Tryz.prog 201 [.v (.one (.ptr 0 0))] [.obj 124 [.row 1,.p (.int .i64 n)],.row .upl 81 l] (.ret (.v (.one (.p (.int .i64 ((xq l))))))) [.obj 124 [.row 1,.p (.int .i64 n)],.row .upl 81 l]:=by
 obtain⟨hu,hl⟩:=hneed
 refine spH Tryz.func201 (by kernel_rfl) { flat:=true,keep:=some [0,2,3,5,9,10,11]} [] (by kernel_rfl) ?_
 intro I X hI hX
 refine orcL ?_;go_invoke;refine orcS (by kernel_rfl) ?_
 simp only [zi,Nat.reduceAdd]
 refine lpH hI [] hX [0,3,9,10,11] (fun(g:Nat × Int)=>match g with|(i,a)=>i≤l.length∧0≤a∧a+xq (l.drop i)=xq l) (fun(g:Nat × Int)=>match g with|(i,a)=>⟨[(0,.v (.one (.ptr 0 0))),(3,.v (.one (.p (.int .i64 a)))),(9,.v (.one (.row 1))),(10,.v (.one (.p (.int .i64 ((I.len (α:=Upl) l)))))),(11,.v (.one (.p (.int .i64 i))))],[.obj 124 [.row 1,.p (.int .i64 n)],.row .upl 81 l],22,none⟩) (fun(g:Nat × Int)=>match g with|(i,a)=>l.length - i) (0,0) (by kernel_rfl) (by kernel_rfl) ?_ ?_
 · exact⟨jM _,Int.le_refl _,by simp⟩
 rintro⟨i,a⟩ ⟨h1,h2,h3⟩ A hA;simp only at hA
 refine orcL ?_;go_invoke;refine orcS (by kernel_rfl) ?_
 simp only [zi,Nat.reduceAdd];subst hI;simp only [nrmA,nrmB]
 have hd:i<l.length→xq (l.drop i)=(l.getD i ⟨0,0,[],[],0⟩).bytes.length+xq (l.drop (i+1)):=fun h=>by
  rw [jE h];simp [xq,h]
 have hn:=ZT (l.drop (i+1))
 have hn0: ¬ i<l.length→xq (l.drop i)=0:=fun h=>by rw [jF (by omega)];rfl
 generalize l.getD i ⟨0,0,[],[],0⟩=x at *
 (repeat' (first|refine ja ?_ ?_|intro _))<;>first|omega|exact jb|exact jc ‹False›|skip
 all_goals first
  |(have:=hd (by omega);omega)
  |(have:=hd (by omega);refine hA (i+1,_) ⟨by simp only;omega,by simp only;omega,by simp only;omega⟩ (by simp only;omega))
  |(have:=hn0 (by omega);simp only [show a=xq l by omega])
def Wj (I:Alg):KU
 |[.v (.one (.ptr 0 0))],[.obj 124 [.row 1,.p (.int .i64 n)],.row .upl 81 l]=>(fun(l:List Upl)=>(some (.one ⟨I.hid (xq l≤1000000∧l.length≤1000000),(.ret (.v (.one (.p (.int .i64 (I.hid (xq l))))))),[.obj 124 [.row 1,.p (.int .i64 n)],.row .upl 81 l]⟩):Option CT)) l
 |_,_=>none
theorem zeX:zx Tryz.prog 201 (Wj alg):=by
 intro args hp r h;unfold Wj at h
 split at h
 · cases h;exact fun hn=>znm _ _ hn
 · cases h
def znl:Know Tryz.prog:=⟨201,Wj,zeX⟩
def znk:Know Tryz.prog:=⟨201,fun I=>zu I (Wj I),zf zeX⟩
theorem zvu (l:List Upl) (n:Int) (hneed:xq l≤1000000∧l.length≤1000000):Spc Tryz.prog 201 [.v (.one (.ptr 0 0))] [.pack [.obj 124 [.row 1,.p (.int .i64 n)],.row .upl 81 l]] (.ret (.v (.one (.p (.int .i64 ((xq l))))))) [.pack [.obj 124 [.row 1,.p (.int .i64 n)],.row .upl 81 l]]:=
 Spc.packed (ex:=[]) (znm l n hneed) rfl (by simp) rfl
def SY (I:Alg):KU
 |[.v (.one (.ptr 0 0))],[.pack [.obj 124 [.row 1,.p (.int .i64 n)],.row .upl 81 l]]=>(fun(l:List Upl)=>(some (.one ⟨I.hid (xq l≤1000000∧l.length≤1000000),(.ret (.v (.one (.p (.int .i64 (I.hid (xq l))))))),[.pack [.obj 124 [.row 1,.p (.int .i64 n)],.row .upl 81 l]]⟩):Option CT)) l
 |_,_=>none
theorem zji:zx Tryz.prog 201 (SY alg):=by
 intro args hp r h;unfold SY at h
 split at h
 · cases h;exact fun hn=>zvu _ _ hn
 · cases h
def zq2:Know Tryz.prog:=⟨201,SY,zji⟩
def zq1:Know Tryz.prog:=⟨201,fun I=>zu I (SY I),zf zji⟩
def zdR (I:Alg):KU
 |[.v (.one .nilS),.v (.one (.p (.int .i64 n)))],[]=>some (.one ⟨I.hid (0≤n∧n≤1000000),(.ret (.v (.one (.row 0)))),[.row .byte 5 (I.hid ([]))]⟩)
 |_,_=>none
theorem zo0:zx Tryz.prog 239 (zdR alg):=by
 intro args hp r h;unfold zdR at h;split at h<;>cases h
 rename_i n;simp only [CT.Good,zh];intro hneed
 refine spH Tryz.func239 (by kernel_rfl) { cut:=[0],keep:=some [0,1,4]} [] (by kernel_rfl) ?_
 intro I X hI hX
 refine orcL ?_;go_invoke;refine orcS (by kernel_rfl) ?_
 simp only [zi,Nat.reduceAdd];subst hI;simp only [nrmA,nrmB,nrlB,reduceCtorEq];simp only [List.length_replicate,List.take_zero]
 (repeat' (first|refine ja ?_ ?_|intro _))<;>first|omega|exact jb|exact jc ‹False›|skip
 all_goals trivial
def zh2:Know Tryz.prog:=⟨239,zdR,zo0⟩
def zh1:Know Tryz.prog:=⟨239,fun I=>zu I (zdR I),zf zo0⟩
theorem zgC {ls:List Str} {i:Nat} (h:i<ls.length):(ls.take (i+1)).flatten=(ls.take i).flatten++ls.getD i []:=by
 rw [jB h,List.flatten_append];simp [h]
theorem zdY (ls:List Str) (i:Nat):(ls.take i).flatten.length≤ls.flatten.length:=by
 have:=congrArg (fun l:List Str=>l.flatten.length) (List.take_append_drop i ls);simp only [List.flatten_append,jk] at this;omega
def VP (I:Alg):KU
 |[.v (.one (.p (.list .bytes ls)))],[]=>(fun(ls:List Str)=>(some (.one ⟨I.hid (ls.flatten.length≤1000000∧ls.length≤1000),(.ret (.v (.one (.row 0)))),[.row .byte 5 ls.flatten]⟩):Option CT)) ls
 |_,_=>none
theorem zgT:zx Tryz.prog 202 (VP alg):=by
 intro args hp r h;unfold VP at h;split at h<;>cases h
 rename_i ls
 revert ls;intro(ls:List Str)
 simp only [CT.Good,zh];intro hneed;obtain⟨hl,hk⟩:=hneed
 refine spH Tryz.func202 (by kernel_rfl) { nils:=[239],keep:=some [0,2,3,5,6,8,9,10,11,25,26,27]} [zh2,zh1] (by kernel_rfl) ?_
 intro I X hI hX
 refine orcL ?_;go_invoke;refine orcS (by kernel_rfl) ?_
 simp only [zi,Nat.reduceAdd]
 refine lpH hI [zh2,zh1] hX [0,3,9,10,11] (fun(g:Nat × Int)=>match g with|(i,a)=>i≤ls.length∧a=(ls.take i).flatten.length) (fun(g:Nat × Int)=>match g with|(i,a)=>⟨[(0,.v (.one (.p (.list .bytes ls)))),(3,.v (.one (.p (.int .i64 a)))),(9,.v (.one (.p (.list .bytes ls)))),(10,.v (.one (.p (.int .i64 ((I.len (α:=List UInt8) ls)))))),(11,.v (.one (.p (.int .i64 i))))],[],36,none⟩) (fun(g:Nat × Int)=>match g with|(i,a)=>ls.length - i) (0,0) (by kernel_rfl) (by kernel_rfl) ?_ ?_
 · exact⟨jM _,by simp⟩
 rintro⟨i,a⟩ ⟨h1,h2⟩ A hA;simp only at hA
 refine orcL ?_;go_invoke;refine orcS (by kernel_rfl) ?_
 simp only [zi,Nat.reduceAdd];have hx:i<ls.length→_:=zgC (ls:=ls) (i:=i);have hy:=zdY ls (i+1);have hz:=zdY ls i;refine⟨fun c1=> ?_,fun c1=>⟨?_,?_⟩⟩
 · subst hI
   simp only [nrmA,nrmB] at c1;simp only [nrmA,nrmB]
   have hx:=congrArg List.length (hx (by omega))
   rw [jk] at hx;generalize ls.getD i []=x at *
   (repeat' (first|refine ja ?_ ?_|intro _))<;>first|omega|exact jb|exact jc ‹False›|skip
   exact hA (i+1,_) ⟨by simp only;omega,by simp only;omega⟩ (by simp only;omega)
 · subst hI
   simp only [nrmA,nrmB];omega
 · have hi:i=ls.length:=by
    subst hI;simp only [nrmA,nrmB] at c1;omega
   have hil:(I.hid ([]:Str))=[]:=by subst hI;rfl
   rw [hil]
   refine lpH hI [zh2,zh1] hX [6,25,26,27] (fun(g:Nat × Str)=>match g with|(j,o)=>j≤ls.length∧o=(ls.take j).flatten) (fun(g:Nat × Str)=>match g with|(j,o)=>⟨[(6,.v (.one (.row 0))),(25,.v (.one (.p (.list .bytes ls)))),(26,.v (.one (.p (.int .i64 ((I.len (α:=List UInt8) ls)))))),(27,.v (.one (.p (.int .i64 j))))],[.row .byte 5 o],36,none⟩) (fun(g:Nat × Str)=>match g with|(j,o)=>ls.length - j) (0,[]) (by kernel_rfl) (by kernel_rfl) ?_ ?_
   · exact⟨jM _,rfl⟩
   rintro⟨j,o⟩ ⟨k1,k2⟩ B hB;simp only at hB
   refine orcL ?_;go_invoke;refine orcS (by kernel_rfl) ?_
   simp only [zi,Nat.reduceAdd];subst hI;simp only [nrmA,nrmB,nrlB,reduceCtorEq];have hx:j<ls.length→_:=zgC (ls:=ls) (i:=j);have hy:=zdY ls (j+1);have hz:=zdY ls j
   have hw: ¬ j<ls.length→o=ls.flatten:=fun h=>by rw [k2,jq (by omega)]
   rw [k2] at hw ⊢
   refine⟨fun c=> ?_,fun c=>hw (by omega)⟩
   have hx:=hx (by omega)
   rw [← hx];have hx2:=congrArg List.length hx;rw [jk] at hx2;generalize ls.getD j []=x at *
   (repeat' (first|refine ja ?_ ?_|intro _))<;>first|omega|exact jb|exact jc ‹False›|skip
   exact hB (j+1,(ls.take (j+1)).flatten) ⟨by simp only;omega,rfl⟩ (by simp only;omega)
def zpZ:Know Tryz.prog:=⟨202,VP,zgT⟩
def zpY:Know Tryz.prog:=⟨202,fun I=>zu I (VP I),zf zgT⟩
theorem Xv {l:List Upl} {n:Int} (h:zJ l n):l.length≤1000000∧xq l≤1000000:=by
 have:=h.cnt;have:=h.tot;omega
def YI (I:Alg):KU
 |[.v (.one (.ptr 0 0)),.v (.one (.p (.int .i64 size))),.v (.one (.p (.str m)))],[.pack [.obj 124 [.row 1,.p (.int .i64 n)],.row .upl 81 l]]=>(fun(l:List Upl) (m:Str)=>(some (.one ⟨I.hid (zJ l n∧n≤1000000∧m.length≤1000000),(.ret (.tup [.one (.p (.int .i64 (I.hid (creI l n size m)))),.one (.p (.int .i64 (I.hid (creC l size m))))])),[.pack [.obj 124 [.row 1,.p (.int .i64 (I.hid (creN l n size m)))],.row .upl 81 (I.hid (creL l n size m))]]⟩):Option CT)) l m
 |_,_=>none
theorem zbO:zx Tryz.prog 152 (YI alg):=by
 intro args hp r h;unfold YI at h;split at h<;>cases h
 rename_i size m n l
 revert l;intro(l:List Upl)
 simp only [CT.Good,zh];intro hneed;obtain⟨hs,hn,hm⟩:=hneed;have hc:=hs.cnt;have h0:=hs.n0;generalize hi:creI l n size m=ri;generalize he:creC l size m=re;generalize hl:creL l n size m=rl;generalize hN:creN l n size m=rn
 refine spH Tryz.func152 (by kernel_rfl) { zbg with keep:=some [0,1,2,6,7]} [wF,wE,VZ,VY] (by kernel_rfl) ?_
 intro I X hI hX
 refine orcL ?_;go_invoke;refine orcS (by kernel_rfl) ?_
 simp only [zi,Nat.reduceAdd];subst hI;simp only [nrmA,nrmB,nrlB,reduceCtorEq,HO.pack.injEq,HO.obj.injEq];unfold creI at hi;unfold creL at hl;unfold creN at hN;rw [he] at hi hl hN;unfold creC at he;simp only [jh,ji]
 (repeat' (first|refine ja ?_ ?_|intro _))<;>first|omega|exact jb|exact jc ‹False›|skip
 all_goals((repeat(first|rewrite [if_pos (by first|omega|assumption|(simp only [*,or_self,or_true,true_or,or_false,false_or,jf,jg,jd,je,and_self,and_true,true_and];done)|(simp only [*];omega)|(simp [*];done)|(simp [*];omega))] at he|rewrite [if_neg (by first|omega|assumption|(simp only [*,or_self,or_true,true_or,or_false,false_or,jf,jg,jd,je,and_self,and_true,true_and];done)|(simp only [*];omega)|(simp [*];done)|(simp [*];omega))] at he));subst he;((repeat(first|rewrite [if_pos (by first|omega|assumption|(simp only [*,or_self,or_true,true_or,or_false,false_or,jf,jg,jd,je,and_self,and_true,true_and];done)|(simp only [*];omega)|(simp [*];done)|(simp [*];omega))] at hi|rewrite [if_neg (by first|omega|assumption|(simp only [*,or_self,or_true,true_or,or_false,false_or,jf,jg,jd,je,and_self,and_true,true_and];done)|(simp only [*];omega)|(simp [*];done)|(simp [*];omega))] at hi)));((repeat(first|rewrite [if_pos (by first|omega|assumption|(simp only [*,or_self,or_true,true_or,or_false,false_or,jf,jg,jd,je,and_self,and_true,true_and];done)|(simp only [*];omega)|(simp [*];done)|(simp [*];omega))] at hl|rewrite [if_neg (by first|omega|assumption|(simp only [*,or_self,or_true,true_or,or_false,false_or,jf,jg,jd,je,and_self,and_true,true_and];done)|(simp only [*];omega)|(simp [*];done)|(simp [*];omega))] at hl)));((repeat(first|rewrite [if_pos (by first|omega|assumption|(simp only [*,or_self,or_true,true_or,or_false,false_or,jf,jg,jd,je,and_self,and_true,true_and];done)|(simp only [*];omega)|(simp [*];done)|(simp [*];omega))] at hN|rewrite [if_neg (by first|omega|assumption|(simp only [*,or_self,or_true,true_or,or_false,false_or,jf,jg,jd,je,and_self,and_true,true_and];done)|(simp only [*];omega)|(simp [*];done)|(simp [*];omega))] at hN)));subst hi;subst hl;subst hN;first|rfl|omega)
def zlC:Know Tryz.prog:=⟨152,YI,zbO⟩
def zlB:Know Tryz.prog:=⟨152,fun I=>zu I (YI I),zf zbO⟩
def YJ (I:Alg):KU
 |[.v (.one (.ptr 0 0)),.v (.one (.p (.int .i64 id))),.v (.one (.p (.int .i64 off))),.v (.one (.p (.list .byte b)))],[.pack [.obj 124 [.row 1,.p (.int .i64 n)],.row .upl 81 l]]=>(fun(l:List Upl) (b:Str)=>(some (.one ⟨I.hid (zJ l n∧b.length≤1000000),(.ret (.v (.one (.p (.int .i64 (I.hid (appC l id off b))))))),[.pack [.obj 124 [.row 1,.p (.int .i64 n)],.row .upl 81 (I.hid (appL l id off b))]]⟩):Option CT)) l b
 |_,_=>none
theorem zbR:zx Tryz.prog 153 (YJ alg):=by
 intro args hp r h;unfold YJ at h;split at h<;>cases h
 rename_i id off b n l
 revert l;intro(l:List Upl)
 simp only [CT.Good,zh];intro hneed;obtain⟨hs,hb⟩:=hneed;have hf:=Xv hs;generalize he:appC l id off b=re;generalize hl:appL l id off b=rl
 refine spH Tryz.func153 (by kernel_rfl) { zbg with bare:=[58,201],keep:=some [0,1,2,3,8,9,10,11]} [zbQ,zbP,znl,znk,zq2,zq1,zpZ,zpY] (by kernel_rfl) ?_
 intro I X hI hX
 refine orcL ?_;go_invoke;refine orcS (by kernel_rfl) ?_
 simp only [zi,Nat.reduceAdd];subst hI;simp only [nrmA,nrmB,nrlB,reduceCtorEq,HO.pack.injEq,HO.obj.injEq];unfold appL at hl;rw [he] at hl;unfold appC at he;unfold yg upl0 at he hl;simp only [List.flatten_cons,List.flatten_nil,List.append_nil,jk,jh,ji];have hx:atU l id<l.length→_:=fun h=>hs.each _ (wO h);unfold yg upl0 at hx;generalize l.getD (atU l id) ⟨0,0,[],[],0⟩=x at *;have hu0:=ZT l;have hb1:=fun h=>(hx h).bl;have hb2:=fun h=>(hx h).s1;have hb3:=fun h=>(hx h).s2
 (repeat' (first|refine ja ?_ ?_|intro _))<;>first|omega|exact jb|exact jc ‹False›|skip
 all_goals first
  |(have:=hb1 (by omega);have:=hb2 (by omega);have:=hb3 (by omega);omega)
  |exact hf.1
  |exact hf.2
  |((repeat(first|rewrite [if_pos (by first|omega|assumption|(simp only [*,or_self,or_true,true_or,or_false,false_or,jf,jg,jd,je,and_self,and_true,true_and];done)|(simp only [*];omega)|(simp [*];done)|(simp [*];omega))] at he|rewrite [if_neg (by first|omega|assumption|(simp only [*,or_self,or_true,true_or,or_false,false_or,jf,jg,jd,je,and_self,and_true,true_and];done)|(simp only [*];omega)|(simp [*];done)|(simp [*];omega))] at he));subst he;((repeat(first|rewrite [if_pos (by first|omega|assumption|(simp only [*,or_self,or_true,true_or,or_false,false_or,jf,jg,jd,je,and_self,and_true,true_and];done)|(simp only [*];omega)|(simp [*];done)|(simp [*];omega))] at hl|rewrite [if_neg (by first|omega|assumption|(simp only [*,or_self,or_true,true_or,or_false,false_or,jf,jg,jd,je,and_self,and_true,true_and];done)|(simp only [*];omega)|(simp [*];done)|(simp [*];omega))] at hl)));subst hl;first|rfl|omega)
def zlE:Know Tryz.prog:=⟨153,YJ,zbR⟩
def zlD:Know Tryz.prog:=⟨153,fun I=>zu I (YJ I),zf zbR⟩
end Go.Proofs.YtkjepecoodjbmaaGreatDoor
namespace Go.Proofs.YtkjepecoodjbmaaGreatDoor
open Go Go.Sep Go.Ab
set_option maxRecDepth 100000
def Zg (I:Alg):KU
 |[.v (.one (.ptr 0 0)),.v (.one (.p (.int .i64 id))),.v (.one (.p (.int .i64 size)))],[.pack [.obj 124 [.row 1,.p (.int .i64 n)],.row .upl 81 l]]=>(fun(l:List Upl)=>(some (.one ⟨I.hid (zJ l n),(.ret (.v (.one (.p (.int .i64 (I.hid (decC l id size))))))),[.pack [.obj 124 [.row 1,.p (.int .i64 n)],.row .upl 81 (I.hid (decL l id size))]]⟩):Option CT)) l
 |_,_=>none
theorem zae:zx Tryz.prog 154 (Zg alg):=by
 intro args hp r h;unfold Zg at h;split at h<;>cases h
 rename_i id size n l
 revert l;intro(l:List Upl)
 simp only [CT.Good,zh];intro hneed;have hs:=hneed;have hf:=Xv hs;generalize he:decC l id size=re;generalize hl:decL l id size=rl
 refine spH Tryz.func154 (by kernel_rfl) { zbg with bare:=[58],keep:=some [0,1,2,6,7,8]} [zbQ,zbP] (by kernel_rfl) ?_
 intro I X hI hX
 refine orcL ?_;go_invoke;refine orcS (by kernel_rfl) ?_
 simp only [zi,Nat.reduceAdd];subst hI;simp only [nrmA,nrmB,nrlB,reduceCtorEq,HO.pack.injEq,HO.obj.injEq];unfold decL at hl;rw [he] at hl;unfold decC at he;unfold yg upl0 at he hl;generalize l.getD (atU l id) ⟨0,0,[],[],0⟩=x at *
 (repeat' (first|refine ja ?_ ?_|intro _))<;>first|omega|exact jb|exact jc ‹False›|skip
 all_goals first
  |exact hf.1
  |((repeat(first|rewrite [if_pos (by first|omega|assumption|(simp only [*,or_self,or_true,true_or,or_false,false_or,jf,jg,jd,je,and_self,and_true,true_and];done)|(simp only [*];omega)|(simp [*];done)|(simp [*];omega))] at he|rewrite [if_neg (by first|omega|assumption|(simp only [*,or_self,or_true,true_or,or_false,false_or,jf,jg,jd,je,and_self,and_true,true_and];done)|(simp only [*];omega)|(simp [*];done)|(simp [*];omega))] at he));subst he;((repeat(first|rewrite [if_pos (by first|omega|assumption|(simp only [*,or_self,or_true,true_or,or_false,false_or,jf,jg,jd,je,and_self,and_true,true_and];done)|(simp only [*];omega)|(simp [*];done)|(simp [*];omega))] at hl|rewrite [if_neg (by first|omega|assumption|(simp only [*,or_self,or_true,true_or,or_false,false_or,jf,jg,jd,je,and_self,and_true,true_and];done)|(simp only [*];omega)|(simp [*];done)|(simp [*];omega))] at hl)));subst hl;first|rfl|omega)
def zhv:Know Tryz.prog:=⟨154,Zg,zae⟩
def zhu:Know Tryz.prog:=⟨154,fun I=>zu I (Zg I),zf zae⟩
def Sl (I:Alg):KU
 |[.v (.agg [.p (.int .i64 a),.p (.int .i64 b),.p (.str m),.p (.list .byte y),.p (.int .i64 t)])],[]=>(fun(m y:Str)=>(some (.one ⟨I.hid (True),(.ret (.v (.one (.p (.bool (I.hid (b == (y.length:Int)))))))),[]⟩):Option CT)) m y
 |_,_=>none
theorem ziL:zx Tryz.prog 205 (Sl alg):=by
 intro args hp r h;unfold Sl at h;split at h<;>cases h
 rename_i a b m y t;simp only [CT.Good,zh];intro _
 refine spH Tryz.func205 (by kernel_rfl) { keep:=some [0,1,2]} [] (by kernel_rfl) ?_
 intro I X hI hX
 refine orcL ?_;go_invoke;refine orcS (by kernel_rfl) ?_
 simp only [zi,Nat.reduceAdd];subst hI;simp only [nrmA,nrmB]
 try trivial
def zqD:Know Tryz.prog:=⟨205,Sl,ziL⟩
def zqC:Know Tryz.prog:=⟨205,fun I=>zu I (Sl I),zf ziL⟩
def Wq (I:Alg):KU
 |[.v (.one (.ptr 0 0)),.v (.one (.p (.int .i64 id)))],[.pack [.obj 124 [.row 1,.p (.int .i64 n)],.row .upl 81 l]]=>(fun(l:List Upl)=>(some (.one ⟨I.hid (zJ l n),(.ret (.v (.one (.p (.int .i64 (I.hid (begC l id))))))),[.pack [.obj 124 [.row 1,.p (.int .i64 n)],.row .upl 81 (I.hid (begL l id))]]⟩):Option CT)) l
 |_,_=>none
theorem zeZ:zx Tryz.prog 156 (Wq alg):=by
 intro args hp r h;unfold Wq at h;split at h<;>cases h
 rename_i id n l
 revert l;intro(l:List Upl)
 simp only [CT.Good,zh];intro hneed;have hs:=hneed;have hf:=Xv hs;generalize he:begC l id=re;generalize hl:begL l id=rl
 refine spH Tryz.func156 (by kernel_rfl) { zbg with bare:=[58],keep:=some [0,1,4,5,6]} [zbQ,zbP,zqD,zqC] (by kernel_rfl) ?_
 intro I X hI hX
 refine orcL ?_;go_invoke;refine orcS (by kernel_rfl) ?_
 simp only [zi,Nat.reduceAdd];subst hI;simp only [nrmA,nrmB,nrlB,reduceCtorEq,HO.pack.injEq,HO.obj.injEq];unfold begL at hl;rw [he] at hl;unfold begC at he;unfold yg upl0 at he hl;generalize l.getD (atU l id) ⟨0,0,[],[],0⟩=x at *
 (repeat' (first|refine ja ?_ ?_|intro _))<;>first|omega|exact jb|exact jc ‹False›|skip
 all_goals first
  |exact hf.1
  |((repeat(first|rewrite [if_pos (by first|omega|assumption|(simp only [*,or_self,or_true,true_or,or_false,false_or,jf,jg,jd,je,and_self,and_true,true_and];done)|(simp only [*];omega)|(simp [*];done)|(simp [*];omega))] at he|rewrite [if_neg (by first|omega|assumption|(simp only [*,or_self,or_true,true_or,or_false,false_or,jf,jg,jd,je,and_self,and_true,true_and];done)|(simp only [*];omega)|(simp [*];done)|(simp [*];omega))] at he));subst he;((repeat(first|rewrite [if_pos (by first|omega|assumption|(simp only [*,or_self,or_true,true_or,or_false,false_or,jf,jg,jd,je,and_self,and_true,true_and];done)|(simp only [*];omega)|(simp [*];done)|(simp [*];omega))] at hl|rewrite [if_neg (by first|omega|assumption|(simp only [*,or_self,or_true,true_or,or_false,false_or,jf,jg,jd,je,and_self,and_true,true_and];done)|(simp only [*];omega)|(simp [*];done)|(simp [*];omega))] at hl)));subst hl;first|rfl|omega)
def znv:Know Tryz.prog:=⟨156,Wq,zeZ⟩
def znu:Know Tryz.prog:=⟨156,fun I=>zu I (Wq I),zf zeZ⟩
def zdk (I:Alg):KU
 |[.v (.one (.ptr 0 0)),.v (.one (.p (.int .i64 id)))],[.pack [.obj 124 [.row 1,.p (.int .i64 n)],.row .upl 81 l]]=>(fun(l:List Upl)=>(some (.one ⟨I.hid (zJ l n),(.ret (.v (.one (.p (.int .i64 (I.hid (endC l id))))))),[.pack [.obj 124 [.row 1,.p (.int .i64 n)],.row .upl 81 (I.hid (endL l id))]]⟩):Option CT)) l
 |_,_=>none
theorem znq:zx Tryz.prog 157 (zdk alg):=by
 intro args hp r h;unfold zdk at h;split at h<;>cases h
 rename_i id n l
 revert l;intro(l:List Upl)
 simp only [CT.Good,zh];intro hneed;have hs:=hneed;have hf:=Xv hs;generalize he:endC l id=re;generalize hl:endL l id=rl
 refine spH Tryz.func157 (by kernel_rfl) { zbg with bare:=[58],keep:=some [0,1,4,5,6]} [zbQ,zbP] (by kernel_rfl) ?_
 intro I X hI hX
 refine orcL ?_;go_invoke;refine orcS (by kernel_rfl) ?_
 simp only [zi,Nat.reduceAdd];subst hI;simp only [nrmA,nrmB,nrlB,reduceCtorEq,HO.pack.injEq,HO.obj.injEq];unfold endL at hl;rw [he] at hl;unfold endC at he;unfold yg upl0 at he hl;generalize l.getD (atU l id) ⟨0,0,[],[],0⟩=x at *
 (repeat' (first|refine ja ?_ ?_|intro _))<;>first|omega|exact jb|exact jc ‹False›|skip
 all_goals first
  |exact hf.1
  |((repeat(first|rewrite [if_pos (by first|omega|assumption|(simp only [*,or_self,or_true,true_or,or_false,false_or,jf,jg,jd,je,and_self,and_true,true_and];done)|(simp only [*];omega)|(simp [*];done)|(simp [*];omega))] at he|rewrite [if_neg (by first|omega|assumption|(simp only [*,or_self,or_true,true_or,or_false,false_or,jf,jg,jd,je,and_self,and_true,true_and];done)|(simp only [*];omega)|(simp [*];done)|(simp [*];omega))] at he));subst he;((repeat(first|rewrite [if_pos (by first|omega|assumption|(simp only [*,or_self,or_true,true_or,or_false,false_or,jf,jg,jd,je,and_self,and_true,true_and];done)|(simp only [*];omega)|(simp [*];done)|(simp [*];omega))] at hl|rewrite [if_neg (by first|omega|assumption|(simp only [*,or_self,or_true,true_or,or_false,false_or,jf,jg,jd,je,and_self,and_true,true_and];done)|(simp only [*];omega)|(simp [*];done)|(simp [*];omega))] at hl)));subst hl;first|rfl|omega)
def ztX:Know Tryz.prog:=⟨157,zdk,znq⟩
def ztW:Know Tryz.prog:=⟨157,fun I=>zu I (zdk I),zf znq⟩
def S9 (I:Alg):KU
 |[.v (.one (.ptr 0 0))],[.pack [.obj 124 [.row 1,.p (.int .i64 n)],.row .upl 81 l]]=>(fun(l:List Upl)=>(some (.one ⟨I.hid (0≤n∧n≤1000000),(.ret (.v (.one (.p (.int .i64 (I.hid (n+1))))))),[.pack [.obj 124 [.row 1,.p (.int .i64 n)],.row .upl 81 l]]⟩):Option CT)) l
 |_,_=>none
theorem zjj:zx Tryz.prog 217 (S9 alg):=by
 intro args hp r h;unfold S9 at h;split at h<;>cases h
 rename_i n l
 revert l;intro(l:List Upl)
 simp only [CT.Good,zh];intro hneed
 refine spH Tryz.func217 (by kernel_rfl) { zbg with keep:=some [0,2]} [] (by kernel_rfl) ?_
 intro I X hI hX
 refine orcL ?_;go_invoke;refine orcS (by kernel_rfl) ?_
 simp only [zi,Nat.reduceAdd];subst hI;simp only [nrmA,nrmB]
 (repeat' (first|refine ja ?_ ?_|intro _))<;>first|omega|exact jb|exact jc ‹False›|skip
def zq4:Know Tryz.prog:=⟨217,S9,zjj⟩
def zq3:Know Tryz.prog:=⟨217,fun I=>zu I (S9 I),zf zjj⟩
def zdi (I:Alg):KU
 |[],[]=>some (.one ⟨I.hid (True),(.ret (.v (.one (.ptr 0 0)))),[.pack [.obj 124 [.row 1,.p (.int .i64 0)],.row .upl 81 (I.hid ([]))]]⟩)
 |_,_=>none
theorem znn:zx Tryz.prog 42 (zdi alg):=by
 intro args hp r h;unfold zdi at h;split at h<;>cases h
 simp only [CT.Good,zh];intro _
 refine spH Tryz.func42 (by kernel_rfl) { zbg with keep:=some [0]} [] (by kernel_rfl) ?_
 intro I X hI hX
 refine orcL ?_;go_invoke;refine orcS (by kernel_rfl) ?_
 simp only [zi,Nat.reduceAdd];trivial
def zht:Know Tryz.prog:=⟨42,zdi,znn⟩
def zhs:Know Tryz.prog:=⟨42,fun I=>zu I (zdi I),zf znn⟩
def getB (l:List Upl) (id:Int):Bool:=decide (atU l id<l.length)
def getU (l:List Upl) (id:Int):Upl:=if atU l id<l.length then yg l id else upl0
theorem zsI (l:List Upl) (n id:Int) (hneed:zJ l n):Spc Tryz.prog 28 [.v (.one (.ptr 0 0)),.v (.one (.p (.int .i64 id)))] [.obj 124 [.row 1,.p (.int .i64 n)],.row .upl 81 l] (.ret (.tup [.agg [.p (.int .i64 ((getU l id).id)),.p (.int .i64 ((getU l id).size)),.p (.str ((getU l id).note)),.p (.list .byte ((getU l id).bytes)),.p (.int .i64 ((getU l id).sent))],.one (.p (.bool ((getB l id))))])) [.obj 124 [.row 1,.p (.int .i64 n)],.row .upl 81 l]:=by
 have hs:=hneed;have hf:=Xv hs;generalize he:getU l id=re;obtain⟨a,b,c,d,e⟩:=re;generalize hl:getB l id=rl
 refine spH Tryz.func28 (by kernel_rfl) { zbg with flat:=true,bare:=[58],keep:=some [0,1,4,5,6,7,8]} [ZA,qm,zbQ,zbP] (by kernel_rfl) ?_
 intro I X hI hX
 refine orcL ?_;go_invoke;refine orcS (by kernel_rfl) ?_
 simp only [zi,Nat.reduceAdd];subst hI;simp only [nrmA,nrmB,nrlB,reduceCtorEq];unfold getU at he;unfold getB at hl;unfold yg upl0 at he;have hx:atU l id<l.length→_:=fun h=>(hs.each _ (wO h)).bl;unfold yg upl0 at hx;generalize l.getD (atU l id) ⟨0,0,[],[],0⟩=x at *
 by_cases h:atU l id<l.length
 · rw [if_pos h] at he
   rw [decide_eq_true h] at hl;subst he;subst hl;have hx:=hx h
   (repeat' (first|refine ja ?_ ?_|intro _))<;>first|omega|exact jb|exact jc ‹False›|skip
   all_goals first|exact hf.1|rfl
 · rw [if_neg h] at he
   rw [decide_eq_false h] at hl;cases he;subst hl
   (repeat' (first|refine ja ?_ ?_|intro _))<;>first|omega|exact jb|exact jc ‹False›|skip
   all_goals first|exact hf.1|rfl|assumption
def Rj (I:Alg):KU
 |[.v (.one (.ptr 0 0)),.v (.one (.p (.int .i64 id)))],[.obj 124 [.row 1,.p (.int .i64 n)],.row .upl 81 l]=>(fun(l:List Upl)=>(some (.one ⟨I.hid (zJ l n),(.ret (.tup [.agg [.p (.int .i64 (I.hid ((getU l id).id))),.p (.int .i64 (I.hid ((getU l id).size))),.p (.str (I.hid ((getU l id).note))),.p (.list .byte (I.hid ((getU l id).bytes))),.p (.int .i64 (I.hid ((getU l id).sent)))],.one (.p (.bool (I.hid (getB l id))))])),[.obj 124 [.row 1,.p (.int .i64 n)],.row .upl 81 l]⟩):Option CT)) l
 |_,_=>none
theorem zjl:zx Tryz.prog 28 (Rj alg):=by
 intro args hp r h;unfold Rj at h
 split at h
 · cases h;exact fun hn=>zsI _ _ _ hn
 · cases h
def Zf:Know Tryz.prog:=⟨28,Rj,zjl⟩
def Ze:Know Tryz.prog:=⟨28,fun I=>zu I (Rj I),zf zjl⟩
theorem zwT (l:List Upl) (n id:Int) (hneed:zJ l n):Spc Tryz.prog 28 [.v (.one (.ptr 0 0)),.v (.one (.p (.int .i64 id)))] [.pack [.obj 124 [.row 1,.p (.int .i64 n)],.row .upl 81 l]] (.ret (.tup [.agg [.p (.int .i64 ((getU l id).id)),.p (.int .i64 ((getU l id).size)),.p (.str ((getU l id).note)),.p (.list .byte ((getU l id).bytes)),.p (.int .i64 ((getU l id).sent))],.one (.p (.bool ((getB l id))))])) [.pack [.obj 124 [.row 1,.p (.int .i64 n)],.row .upl 81 l]]:=
 Spc.packed (ex:=[]) (zsI l n id hneed) rfl (by simp) rfl
def zdj (I:Alg):KU
 |[.v (.one (.ptr 0 0)),.v (.one (.p (.int .i64 id)))],[.pack [.obj 124 [.row 1,.p (.int .i64 n)],.row .upl 81 l]]=>(fun(l:List Upl)=>(some (.one ⟨I.hid (zJ l n),(.ret (.tup [.agg [.p (.int .i64 (I.hid ((getU l id).id))),.p (.int .i64 (I.hid ((getU l id).size))),.p (.str (I.hid ((getU l id).note))),.p (.list .byte (I.hid ((getU l id).bytes))),.p (.int .i64 (I.hid ((getU l id).sent)))],.one (.p (.bool (I.hid (getB l id))))])),[.pack [.obj 124 [.row 1,.p (.int .i64 n)],.row .upl 81 l]]⟩):Option CT)) l
 |_,_=>none
theorem znp:zx Tryz.prog 28 (zdj alg):=by
 intro args hp r h;unfold zdj at h
 split at h
 · cases h;exact fun hn=>zwT _ _ _ hn
 · cases h
def Xy:Know Tryz.prog:=⟨28,zdj,znp⟩
def Xx:Know Tryz.prog:=⟨28,fun I=>zu I (zdj I),zf znp⟩
theorem zuz {l:List Upl} (h:l.Pairwise fun a b=>a.id<b.id) {i:Nat} (hi:i<l.length):getU l (l.getD i ⟨0,0,[],[],0⟩).id=l.getD i ⟨0,0,[],[],0⟩:=by
 have e:l.getD i ⟨0,0,[],[],0⟩=l[i]:=by simp [hi]
 have ha:=zxk h hi;rw [e,getU,ha,if_pos hi,yg,ha]
 simp [hi]
theorem zno (l:List Upl) (n:Int) (hneed:zJ l n):Spc Tryz.prog 17 [.v (.one (.ptr 0 0))] [.obj 124 [.row 1,.p (.int .i64 n)],.row .upl 81 l] (.ret (.v (.one (.row 2)))) [.obj 124 [.row 1,.p (.int .i64 n)],.row .upl 81 l,.row .upl 81 l]:=by
 have hs:=hneed;have hf:=Xv hs
 refine spH Tryz.func17 (by kernel_rfl) { zbg with flat:=true,bare:=[28],nr:=[3],keep:=some [0,2,3,5,6,11,12,13]} [Zf,Ze,Xy,Xx] (by kernel_rfl) ?_
 intro I X hI hX
 refine orcL ?_;go_invoke;refine orcS (by kernel_rfl) ?_
 simp only [zi,Nat.reduceAdd]
 refine lpH hI [Zf,Ze,Xy,Xx] hX [0,3,11,12,13] (fun(g:Nat × List Upl)=>match g with|(i,o)=>i≤l.length∧o=l.take i) (fun(g:Nat × List Upl)=>match g with|(i,o)=>⟨[(0,.v (.one (.ptr 0 0))),(3,.v (.one (.row 2))),(11,.v (.one (.row 1))),(12,.v (.one (.p (.int .i64 ((I.len (α:=Upl) l)))))),(13,.v (.one (.p (.int .i64 i))))],[.obj 124 [.row 1,.p (.int .i64 n)],.row .upl 81 l,.row .upl 81 o],30,none⟩) (fun(g:Nat × List Upl)=>match g with|(i,o)=>l.length - i) (0,[]) (by kernel_rfl) (by kernel_rfl) ?_ ?_
 · exact⟨jM _,rfl⟩
 rintro⟨i,o⟩ ⟨h1,h2⟩ A hA;simp only at hA
 refine orcL ?_;go_invoke;refine orcS (by kernel_rfl) ?_
 simp only [zi,Nat.reduceAdd];subst hI;simp only [nrmA,nrmB,nrlB,reduceCtorEq];have hx:i<l.length→_:=zuz hs.srt
 have hy:i<l.length→l.take (i+1)=l.take i++[l.getD i ⟨0,0,[],[],0⟩]:=fun h=>by rw [jB h];simp [h]
 have hw: ¬ i<l.length→o=l:=fun h=>by rw [h2,jq (by omega)]
 have hol:o.length≤i:=by rw [h2,jv];omega
 refine⟨fun c=> ?_,fun c=>hw (by omega)⟩
 rw [hx (by omega)]
 have hy:=hy (by omega)
 generalize l.getD i ⟨0,0,[],[],0⟩=x at *;simp only [jh,ji]
 (repeat' (first|refine ja ?_ ?_|intro _))<;>first|omega|exact jb|exact jc ‹False›|skip
 all_goals first
  |exact hs
  |exact hA (i+1,_) ⟨by simp only;omega,by simp only;rw [hy,h2]⟩ (by simp only;omega)
def Wp (I:Alg):KU
 |[.v (.one (.ptr 0 0))],[.obj 124 [.row 1,.p (.int .i64 n)],.row .upl 81 l]=>(fun(l:List Upl)=>(some (.one ⟨I.hid (zJ l n),(.ret (.v (.one (.row 2)))),[.obj 124 [.row 1,.p (.int .i64 n)],.row .upl 81 l,.row .upl 81 l]⟩):Option CT)) l
 |_,_=>none
theorem zeY:zx Tryz.prog 17 (Wp alg):=by
 intro args hp r h;unfold Wp at h
 split at h
 · cases h;exact fun hn=>zno _ _ hn
 · cases h
def Wn:Know Tryz.prog:=⟨17,Wp,zeY⟩
def Wl:Know Tryz.prog:=⟨17,fun I=>zu I (Wp I),zf zeY⟩
theorem zvv (l:List Upl) (n:Int) (hneed:zJ l n):Spc Tryz.prog 17 [.v (.one (.ptr 0 0))] [.pack [.obj 124 [.row 1,.p (.int .i64 n)],.row .upl 81 l]] (.ret (.v (.one (.row 1)))) [.pack [.obj 124 [.row 1,.p (.int .i64 n)],.row .upl 81 l],.row .upl 81 l]:=
 Spc.packed (os':=[_,_]) (ex:=[_]) (zno l n hneed) rfl (by simp) rfl
def Ri (I:Alg):KU
 |[.v (.one (.ptr 0 0))],[.pack [.obj 124 [.row 1,.p (.int .i64 n)],.row .upl 81 l]]=>(fun(l:List Upl)=>(some (.one ⟨I.hid (zJ l n),(.ret (.v (.one (.row 1)))),[.pack [.obj 124 [.row 1,.p (.int .i64 n)],.row .upl 81 l],.row .upl 81 l]⟩):Option CT)) l
 |_,_=>none
theorem zjk:zx Tryz.prog 17 (Ri alg):=by
 intro args hp r h;unfold Ri at h
 split at h
 · cases h;exact fun hn=>zvv _ _ hn
 · cases h
def Rh:Know Tryz.prog:=⟨17,Ri,zjk⟩
def Rf:Know Tryz.prog:=⟨17,fun I=>zu I (Ri I),zf zjk⟩
def Rl (I:Alg):KU
 |[.v (.one (.ptr 0 0))],[.pack [.obj 124 [.row 1,.p (.int .i64 n)],.row .upl 81 l]]=>(fun(l:List Upl)=>(some (.one ⟨I.hid (zJ l n),(.ret (.v (.one (.ptr 1 0)))),[.pack [.obj 124 [.row 1,.p (.int .i64 n)],.row .upl 81 l],.pack [.obj 124 [.row 1,.p (.int .i64 n)],.row .upl 81 l]]⟩):Option CT)) l
 |_,_=>none
theorem zjn:zx Tryz.prog 148 (Rl alg):=by
 intro args hp r h;unfold Rl at h;split at h<;>cases h
 rename_i n l
 revert l;intro(l:List Upl)
 simp only [CT.Good,zh];intro hneed
 refine spH Tryz.func148 (by kernel_rfl) { zbg with keep:=some [0,2]} [Wn,Wl,Rh,Rf] (by kernel_rfl) ?_
 intro I X hI hX
 refine orcL ?_;go_invoke;refine orcS (by kernel_rfl) ?_
 simp only [zi,Nat.reduceAdd];subst hI;simp only [nrmA,nrmB,nrlB,reduceCtorEq,HO.pack.injEq,HO.obj.injEq];exact⟨hneed,hneed⟩
def zq8:Know Tryz.prog:=⟨148,Rl,zjn⟩
def zq7:Know Tryz.prog:=⟨148,fun I=>zu I (Rl I),zf zjn⟩
def SH (I:Alg):KU
 |[.v (.agg [.p (.int .i64 a),.p (.int .i64 b),.p (.str m),.p (.list .byte y),.p (.int .i64 t)]),.v (.one (.ptr 0 0))],[.pack [.obj 3 [.p (.int .i64 d)]]]=>(fun(m y:Str)=>(some (.one ⟨I.hid (True),(.ret (.v (.one (.p (.bool (I.hid (a == d))))))),[.pack [.obj 3 [.p (.int .i64 d)]]]⟩):Option CT)) m y
 |_,_=>none
theorem zi6:zx Tryz.prog 204 (SH alg):=by
 intro args hp r h;unfold SH at h;split at h<;>cases h
 rename_i a b m y t d;simp only [CT.Good,zh];intro _
 refine spH Tryz.func204 (by kernel_rfl) { keep:=some [0,1,2,3]} [] (by kernel_rfl) ?_
 intro I X hI hX
 refine orcL ?_;go_invoke;refine orcS (by kernel_rfl) ?_
 simp only [zi,Nat.reduceAdd];subst hI;simp only [nrmA,nrmB,nrlB,reduceCtorEq,HO.pack.injEq,HO.obj.injEq]
def X7:Know Tryz.prog:=⟨204,SH,zi6⟩
def zqM:Know Tryz.prog:=⟨204,fun I=>zu I (SH I),zf zi6⟩
def SG (I:Alg):KU
 |[.v (.one (.p (.list .upl l))),.v (.one (.fn 204 [.ptr 0 0]))],[.pack [.obj 3 [.p (.int .i64 d)]]]=>(fun(l:List Upl)=>(some (.one ⟨I.hid (l.length≤1000000),(.ret (.v (.one (.p (.int .i64 (I.hid (ixU l d))))))),[.pack [.obj 3 [.p (.int .i64 d)]]]⟩):Option CT)) l
 |_,_=>none
theorem zi5:zx Tryz.prog 100 (SG alg):=by
 intro args hp r h;unfold SG at h;split at h<;>cases h
 rename_i l d
 revert l;intro(l:List Upl)
 simp only [CT.Good,zh];intro hneed
 refine spH Tryz.func100 (by kernel_rfl) { keep:=some [0,1,4,5,7,8]} [X7,Ug,Uf] (by kernel_rfl) ?_
 intro I X hI hX
 refine orcL ?_;go_invoke;refine orcS (by kernel_rfl) ?_
 simp only [zi,Nat.reduceAdd]
 refine lpH hI [X7,Ug,Uf] hX [0,1,7,8] (fun(i:Nat)=>i≤l.length∧i≤atU l d) (fun(i:Nat)=>⟨[(0,.v (.one (.p (.list .upl l)))),(1,.v (.one (.fn 204 [.ptr 0 0]))),(7,.v (.one (.p (.int .i64 ((I.len (α:=Upl) l)))))),(8,.v (.one (.p (.int .i64 i))))],[.pack [.obj 3 [.p (.int .i64 d)]]],19,none⟩) (fun(i:Nat)=>l.length - i) 0 (by kernel_rfl) (by kernel_rfl) ?_ ?_
 · exact⟨jM _,jM _⟩
 rintro i ⟨h1,h2⟩ A hA
 refine orcL ?_;go_invoke;refine orcS (by kernel_rfl) ?_
 simp only [zi,Nat.reduceAdd];subst hI;simp only [nrmA,nrmB];have hx:=fun h=>zlj (l:=l) (id:=d) (i:=i) h h2;have hle:=zqg l d;have e0:(⟨0,0,[],[],0⟩:Upl)=upl0:=rfl;simp only [e0];unfold ixU
 (repeat' (first|refine ja ?_ ?_|intro _))<;>first|omega|exact jb|exact jc ‹False›|skip
 all_goals first
  |(have h3:=hx (by omega);rw [if_pos (by assumption)] at h3;rw [if_pos (by omega),h3])
  |(have h3:=hx (by omega);rw [if_neg (by assumption)] at h3;exact hA (i+1) ⟨by omega,h3⟩ (by omega))
  |(rw [if_neg (by omega)])
def zi4:Know Tryz.prog:=⟨100,SG,zi5⟩
def zi3:Know Tryz.prog:=⟨100,fun I=>zu I (SG I),zf zi5⟩
def notU (d:Int) (u:Upl):Bool:= !(u.id == d)
def SI (I:Alg):KU
 |[.v (.one (.row 0)),.v (.one (.fn 204 [.ptr 1 0]))],[.row .upl 81 l,.pack [.obj 3 [.p (.int .i64 d)]]]=>(fun(l:List Upl)=>(some (.one ⟨I.hid (l.length≤1000000),(.ret (.v (.one (.row 2)))),[.gone,.pack [.obj 3 [.p (.int .i64 d)]],.row .upl 81 (I.hid (l.filter (notU d)))]⟩):Option CT)) l
 |_,_=>none
theorem zi7:zx Tryz.prog 203 (SI alg):=by
 intro args hp r h;unfold SI at h;split at h<;>cases h
 rename_i l d
 revert l;intro(l:List Upl)
 simp only [CT.Good,zh];intro hneed
 refine spH Tryz.func203 (by kernel_rfl) { mv:=[0],cut:=[4],keep:=some [0,1,4,5,6,7]} [X7,Ug,Uf,zi4,zi3] (by kernel_rfl) ?_
 intro I X hI hX
 refine orcL ?_;go_invoke;refine orcS (by kernel_rfl) ?_
 simp only [zi,Nat.reduceAdd]
 have hfd: ∀ i,i≤atU l d→(l.take i).filter (notU d)=l.take i:=fun i hi=>List.filter_eq_self.2 fun u hu=>by
  obtain⟨j,hj⟩:=List.getElem?_of_mem hu;rw [jD] at hj
  split at hj
  · rename_i hji
    obtain⟨hjl,he⟩:=jl.1 hj
    have:=List.not_of_lt_findIdx (p:=fun u:Upl=>u.id == d) (xs:=l) (i:=j) (by unfold atU at hi;omega)
    rw [← he]
    simpa [notU] using this
  · cases hj
 by_cases hk:atU l d<l.length
 · have hix:=zoN hk
   have e1:I.hid (ixU l d)=((atU l d:Nat):Int):=by subst hI;exact hix
   have e2:I.add ((atU l d:Nat):Int) 1=((atU l d+1:Nat):Int):=by subst hI;rfl
   rw [e1,e2]
   have hst:(l.take (atU l d+1)).filter (notU d)=l.take (atU l d):=by
    rw [jB hk,List.filter_append,hfd _ (jL _)];have:=YC hk;rw [wK hk] at this
    simp [notU,this]
   have hu0:=YC hk;generalize atU l d=k at *
   refine⟨by subst hI;exact hneed,fun h=> ?_,fun _=>⟨by subst hI;rw [Yx,Ux,Uy];omega,?_⟩⟩
   · subst hI
     simp only [nrmA,nrmB] at h;omega
   refine lpH hI [X7,Ug,Uf,zi4,zi3] hX [0,1,5,6] (fun(g:Nat × Nat × List Upl)=>match g with|(i,j,c)=>i<j∧j≤l.length∧c.length=l.length∧c.take i=(l.take j).filter (notU d)∧c.drop j=l.drop j) (fun(g:Nat × Nat × List Upl)=>match g with|(i,j,c)=>⟨[(0,.v (.one (.row 2))),(1,.v (.one (.fn 204 [.ptr 1 0]))),(5,.v (.one (.p (.int .i64 i)))),(6,.v (.one (.p (.int .i64 j))))],[.gone,.pack [.obj 3 [.p (.int .i64 d)]],.row .upl 81 c],42,none⟩) (fun(g:Nat × Nat × List Upl)=>match g with|(i,j,c)=>l.length - j) (k,k+1,l) (by kernel_rfl) (by kernel_rfl) ?_ ?_
   · exact⟨by omega,by omega,rfl,hst.symm,rfl⟩
   rintro⟨i,j,c⟩ ⟨h1,h2,h3,h4,h5⟩ A hA;simp only at hA h1 h2 h3 h4 h5
   refine orcL ?_;go_invoke;refine orcS (by kernel_rfl) ?_
   simp only [zi,Nat.reduceAdd];subst hI;simp only [nrmA,nrmB,nrlB,reduceCtorEq]
   have hx:j<l.length→c.getD j ⟨0,0,[],[],0⟩=l.getD j ⟨0,0,[],[],0⟩:=fun h=>by
    have e:=congrArg (fun m:List Upl=>m[0]?) h5;simp only [jG,Nat.add_zero] at e;simp only [jH,e]
   have hf:j<l.length→(l.take (j+1)).filter (notU d)=(l.take j).filter (notU d)++(if notU d (l.getD j ⟨0,0,[],[],0⟩) then [l.getD j ⟨0,0,[],[],0⟩] else []):=fun h=>by
    rw [jB h,List.filter_append]
    simp [h,List.filter_cons]
   have hdr: ∀ c':List Upl,c'.drop j=l.drop j→c'.drop (j+1)=l.drop (j+1):=fun c' h=>by
    have:=congrArg (List.drop 1) h
    simpa [List.drop_drop] using this
   have hend: ¬ j<l.length→c.take i=l.filter (notU d):=fun h=>by rw [h4,jq (by omega)]
   rw [show(c.length:Int)=(l.length:Int) by rw [h3]]
   have hset: ∀ u:Upl,i<c.length→(c.set i u).take (i+1)=c.take i++[u]:=fun u h=>by
    rw [jB (by rw [List.length_set];exact h),List.getElem_set_self,List.take_set_of_le (jL _)]
   have hsd: ∀ u:Upl,(c.set i u).drop j=l.drop j:=fun u=>by rw [List.drop_set_of_lt h1,h5]
   refine⟨fun c1=> ?_,fun c1=> ?_⟩
   · have hj:j<l.length:=by omega
     rw [hx hj];have hf:=hf hj;generalize l.getD j ⟨0,0,[],[],0⟩=x at *
     (repeat' (first|refine ja ?_ ?_|intro _))<;>first|omega|exact jb|exact jc ‹False›|skip
     · rename_i hne
       refine hA (i+1,j+1,c.set i x) ⟨by simp only;omega,by simp only;omega,by simp only [List.length_set];exact h3,?_,hdr _ (hsd x)⟩ (by simp only;omega)
       simp only
       rw [hset x (by omega),hf,if_pos (by simp [notU,hne]),h4]
     · rename_i heq
       refine hA (i,j+1,c) ⟨by simp only;omega,by simp only;omega,h3,?_,hdr _ h5⟩ (by simp only;omega)
       simp only
       rw [hf,if_neg (by simp [notU,heq]),List.append_nil,h4]
   · have he:=hend (by omega)
     have hl:(c.take i).length=i:=by rw [jv];omega
     (repeat' (first|refine ja ?_ ?_|intro _))<;>first|omega|exact jb|exact jc ‹False›|skip
     all_goals first
      |(simp only [jk,jv,List.length_replicate];omega)
      |(rw [List.take_append_of_le_length (by omega),List.take_take,Nat.min_self,he])
 · have hix:=zoO hk
   have e1:I.hid (ixU l d)=(-1:Int):=by subst hI;exact hix
   rw [e1]
   have hall:l.filter (notU d)=l:=by
    have:=hfd l.length (by have:=zqg l d;omega)
    rwa [List.take_length] at this
   rw [hall]
   refine⟨by subst hI;exact hneed,fun _=>⟨trivial,rfl⟩,fun h=> ?_⟩
   subst hI
   simp [alg] at h
def zqO:Know Tryz.prog:=⟨203,SI,zi7⟩
def zqN:Know Tryz.prog:=⟨203,fun I=>zu I (SI I),zf zi7⟩
def Rk (I:Alg):KU
 |[.v (.one (.ptr 0 0)),.v (.one (.p (.int .i64 id)))],[.pack [.obj 124 [.row 1,.p (.int .i64 n)],.row .upl 81 l]]=>(fun(l:List Upl)=>(some (.one ⟨I.hid (zJ l n),(.ret (.v (.one (.p (.int .i64 (I.hid (droC l id))))))),[.pack [.obj 124 [.row 1,.p (.int .i64 n)],.row .upl 81 (I.hid (droL l id))]]⟩):Option CT)) l
 |_,_=>none
theorem zjm:zx Tryz.prog 155 (Rk alg):=by
 intro args hp r h;unfold Rk at h;split at h<;>cases h
 rename_i id n l
 revert l;intro(l:List Upl)
 simp only [CT.Good,zh];intro hneed;have hs:=hneed;have hf:=Xv hs;have hfl:l.filter (notU id)=droL l id:=zpu hs.srt id;generalize he:droC l id=re;generalize hl:droL l id=rl at hfl
 refine spH Tryz.func155 (by kernel_rfl) { zbg with bare:=[58],keep:=some [0,1,3,4,6]} [zbQ,zbP,X7,zqM,zqO,zqN] (by kernel_rfl) ?_
 intro I X hI hX
 refine orcL ?_;go_invoke;refine orcS (by kernel_rfl) ?_
 simp only [zi,Nat.reduceAdd];subst hI;simp only [nrmA,nrmB,nrlB,reduceCtorEq,HO.pack.injEq,HO.obj.injEq];unfold droC at he
 (repeat' (first|refine ja ?_ ?_|intro _))<;>first|omega|exact jb|exact jc ‹False›|skip
 all_goals first
  |exact hf.1
  |exact hfl
  |((repeat(first|rewrite [if_pos (by first|omega|assumption|(simp only [*,or_self,or_true,true_or,or_false,false_or,jf,jg,jd,je,and_self,and_true,true_and];done)|(simp only [*];omega)|(simp [*];done)|(simp [*];omega))] at he|rewrite [if_neg (by first|omega|assumption|(simp only [*,or_self,or_true,true_or,or_false,false_or,jf,jg,jd,je,and_self,and_true,true_and];done)|(simp only [*];omega)|(simp [*];done)|(simp [*];omega))] at he));subst he;rfl)
  |(rw [← hl];unfold droL;rw [List.eraseIdx_of_length_le (by omega)])
def zq6:Know Tryz.prog:=⟨155,Rk,zjm⟩
def zq5:Know Tryz.prog:=⟨155,fun I=>zu I (Rk I),zf zjm⟩
end Go.Proofs.YtkjepecoodjbmaaGreatDoor
namespace Go.Jrn
open Go Go.Ab
def sevF:Nat→Nat→Str
 |0,u=>[UInt8.ofNat u]
 |f+1,u=>if u<128 then [UInt8.ofNat u] else UInt8.ofNat (u % 128+128)::sevF f (u / 128)
def sev (u:Nat):Str:=sevF 9 u
theorem zeR: ∀ (f u:Nat),u<128 ^ (f+1)→∀ g,f≤g→sevF g u=sevF f u
 | 0,u,h,g,_=>by
   cases g with
   |zero=>rfl
   |succ g=>simp only [sevF];rw [if_pos (by simpa using h)]
 | f +1,u,h,g,hg=>by
   cases g with
   |zero=>omega
   | succ g=>
     rw [sevF,sevF]
     split
     · rfl
     · rw [zeR f (u / 128) (by rw [Nat.div_lt_iff_lt_mul (by omega)];rw [Nat.pow_succ] at h;exact h) g (by omega)]
theorem ZY {u:Nat} (h:u<128):sev u=[UInt8.ofNat u]:=by rw [sev,sevF,if_pos h]
theorem zdg {u:Nat} (h:128≤u) (hu:u<128 ^ 9):sev u=UInt8.ofNat (u % 128+128)::sev (u / 128):=by
 rw [sev,sevF,if_neg (by omega),sev,zeR 8 (u / 128) (Nat.lt_of_le_of_lt (Nat.div_le_self _ _) hu) 9 (by omega)]
theorem xg (u:Nat):1≤(sev u).length∧(sev u).length≤10:=by
 have h: ∀ f u,1≤(sevF f u).length∧(sevF f u).length≤f+1:=by
  intro f
  induction f with
  |zero=>intro u;exact⟨jL _,jL _⟩
  | succ f ih=>
    intro u;rw [sevF]
    split
    · simp
    · have:=ih (u / 128);simp;omega
 exact h 9 u
def numF (i u:Nat):Str→Int × Str × Bool
 |[]=>(0,[],false)
 | c::r=>if 5≤i then(0,[],false) else
   if c.toNat<128 then((u+c.toNat * 128 ^ i:Nat) - 1,r,decide (i=0∨0<c.toNat)) else numF (i+1) (u+c.toNat % 128 * 128 ^ i) r
def num (b:Str):Int × Str × Bool:=numF 0 0 b
def numK (i:Nat):Str→Nat
 |[]=>i
 |c::r=>if 5≤i then i else if c.toNat<128 then i+1 else numK (i+1) r
theorem zfs (b:Str): ∀ (i u:Nat) (l:Str),b.drop i=l→(numF i u l).2.2=true→(numF i u l).2.1=b.drop (numK i l)∧i<numK i l
 |i,u,[],h,ht=>by simp [numF] at ht
 | i, u,c::r,h,ht=>by
   rw [numF] at ht ⊢;rw [numK]
   split at ht
   · cases ht
   · rename_i h5
     rw [if_neg h5,if_neg h5]
     have hr:b.drop (i+1)=r:=by rw [← List.drop_drop,h];rfl
     split
     · rename_i hc;rw [if_pos hc] at ht;exact⟨hr.symm,by omega⟩
     · rename_i hc
       rw [if_neg hc] at ht;have:=zfs b (i+1) _ r hr ht
       exact⟨this.1,by omega⟩
theorem zou {b:Str} {i:Nat} (u:Nat) (h:i<b.length) (h5:i<5):numF i u (b.drop i)=
  if(b.getD i 0).toNat<128 then(((u+(b.getD i 0).toNat * 128 ^ i:Nat):Int) - 1,b.drop (i+1),decide (i=0∨0<(b.getD i 0).toNat)) else numF (i+1) (u+(b.getD i 0).toNat % 128 * 128 ^ i) (b.drop (i+1)):=by
 rw [jE h,numF,if_neg (by omega)]
 have:b.getD i 0=b[i]:=by simp [h]
 rw [this]
theorem zrG {b:Str} {i:Nat} (u:Nat) (h:b.length≤i∨5≤i):numF i u (b.drop i)=(0,[],false):=by
 cases hd:b.drop i with
 |nil=>rfl
 | cons c r=>
   have:i<b.length:=by
    rcases Nat.lt_or_ge i b.length with h1|h1
    · exact h1
    · rw [jF h1] at hd;cases hd
   rw [numF,if_pos (by omega)]
def few (n:Int):Bool:=decide (-1≤n)&&decide (n<1073741824)
def mayM (e:Ent):Bool:=decide (1≤e.kind)&&decide (e.kind≤6)&&few e.id&&few e.n&&decide (e.text.length<1048576)
def enc3 (e:Ent):Str:=sev (e.kind+1).toNat++sev (e.id+1).toNat++sev (e.n+1).toNat++e.text
def encB (e:Ent):Str:=sev ((enc3 e).length+1)++enc3 e
def encM (e:Ent):Str:=if mayM e then encB e else []
def encC (e:Ent):Int:=if mayM e then 0 else 1
def three (b:Str):Option (Int × Int × Int × Str):=
 match num b with
 | (k,r,true)=>(match num r with
   | (i,r,true)=>(match num r with
     |(n,r,true)=>some (k,i,n,r)
     |_=>none)
   |_=>none)
 |_=>none
def thr (j:Nat) (a b c:Int) (s:Str):Option (Int × Int × Int × Str):=
 match j with
 |0=>three s
 | 1 =>(match num s with
   | (i,r,true)=>(match num r with
     |(n,r,true)=>some (a,i,n,r)
     |_=>none)
   |_=>none)
 | 2=>(match num s with
   |(n,r,true)=>some (a,b,n,r)
   |_=>none)
 |_=>some (a,b,c,s)
def oneX (b:Str):Ent × Str × Bool:=
 match num b with
 | (n,r,true)=>if n<0∨(r.length:Int)<n then(⟨0,0,0,[]⟩,[],false) else
   match three (r.take n.toNat) with
   |some (k,i,m,t)=>(⟨k,i,m,t⟩,r.drop n.toNat,mayM ⟨k,i,m,t⟩)
   |none=>(⟨0,0,0,[]⟩,[],false)
 |_=>(⟨0,0,0,[]⟩,[],false)
def oneM (b:Str):Option (Ent × Str):=if(oneX b).2.2 then some ((oneX b).1,(oneX b).2.1) else none
def decF:Nat→Str→List Ent × Str
 |0,b=>([],b)
 | f+1,b=>match oneM b with
   |some (e,r)=>(e::(decF f r).1,(decF f r).2)
   |none=>([],b)
def dec (b:Str):List Ent × Str:=decF b.length b
theorem zaz {b:Str} (h:(num b).2.2=true):(num b).2.1.length<b.length:=by
 obtain⟨h1,h2⟩:=zfs b 0 0 b rfl h;rw [num,h1,jC]
 cases b with
 |nil=>simp [num,numF] at h
 |cons c r=>simp;omega
theorem zov: ∀ (l:Str) (i u:Nat),(numF i u l).2.1.length≤l.length
 |[],i,u=>jL _
 | c ::r,i,u=>by
   rw [numF]
   split
   · simp
   · split
     · simp
     · have:=zov r (i+1) (u+c.toNat % 128 * 128 ^ i);simp;omega
theorem zaA (b:Str):(num b).2.1.length≤b.length:=zov b 0 0
theorem zoo {b:Str} (h:(oneX b).2.2=true):(oneX b).2.1.length<b.length:=by
 unfold oneX at h ⊢
 split at h
 · rename_i n r0 hn
   have:=zaz (b:=b) (by rw [hn])
   rw [hn] at this;simp only at this
   split at h
   · cases h
   · rename_i hc
     rw [if_neg hc]
     split at h
     · rename_i ht;simp only [ht];simp;omega
     · cases h
 · cases h
theorem zdG {b:Str} {e:Ent} {r:Str} (h:oneM b=some (e,r)):r.length<b.length:=by
 unfold oneM at h
 split at h
 · rename_i hx
   simp only [jw,Prod.mk.injEq] at h;rw [← h.2];exact zoo hx
 · cases h
theorem zoq {s:Str} (h:(num s).2.2=false):oneM s=none:=by
 rw [oneM,oneX,show num s=((num s).1,(num s).2.1,false) by rw [← h]];rfl
theorem zrE {s:Str} (h:(num s).1<0∨((num s).2.1.length:Int)<(num s).1):oneM s=none:=by
 cases hk:(num s).2.2 with
 |false=>exact zoq hk
 | true=>
   have hx:oneX s=(⟨0,0,0,[]⟩,[],false):=by
    unfold oneX
    rw [show num s=((num s).1,(num s).2.1,true) by rw [← hk]]
    simp only;rw [if_pos h]
   rw [oneM,hx];rfl
theorem zgR: ∀ (f:Nat) (b:Str),b.length≤f→∀ g,b.length≤g→decF f b=decF g b
 | 0,b,h,g,hg=>by
   have:b=[]:=List.eq_nil_of_length_eq_zero (by omega)
   subst this
   cases g with
   |zero=>rfl
   |succ g=>rfl
 | f + 1,b,h,g,hg=>by
   cases g with
   | zero=>
     have:b=[]:=List.eq_nil_of_length_eq_zero (by omega)
     subst this;rfl
   | succ g=>
     rw [decF,decF]
     cases ho:oneM b with
     |none=>rfl
     | some p=>
       obtain⟨e,r⟩:=p;have:=zdG ho;simp only
       rw [zgR f r (by omega) g (by omega)]
theorem zd7 {b:Str} {e:Ent} {r:Str} (h:oneM b=some (e,r)):dec b=(e::(dec r).1,(dec r).2):=by
 have hl:=zdG h
 obtain⟨n,hn⟩: ∃ n,b.length=n+1:=⟨b.length - 1,by omega⟩
 unfold dec;rw [hn,decF,h];simp only
 rw [zgR n r (by omega) r.length (jL _)]
theorem zd8 {b:Str} (h:oneM b=none):dec b=([],b):=by
 unfold dec
 cases b with
 |nil=>rfl
 |cons c r=>rw [jh,decF,h]
theorem zkY: ∀ (f:Nat) (b:Str),(decF f b).1.length+(decF f b).2.length≤b.length
 |0,b=>by simp [decF]
 | f +1,b=>by
   rw [decF]
   cases ho:oneM b with
   |none=>simp
   | some p=>
     obtain⟨e,r⟩:=p;have:=zdG ho;have:=zkY f r;simp only [jh];omega
theorem zpS (b:Str):(dec b).1.length+(dec b).2.length≤b.length:=zkY _ b
end Go.Jrn
namespace Go.Proofs.YtkjepecoodjbmaaGreatDoor
open Go Go.Sep Go.Ab Go.Jrn
set_option maxRecDepth 100000
theorem zw4: ∀ u:Nat,u<256→IntKind.u8.wrap ((BitVec.ofInt IntKind.u8.bits (u:Int)|||BitVec.ofInt IntKind.u8.bits 128).toNat:Int)=((u % 128+128:Nat):Int):=by decide+kernel
theorem zwI: ∀ u:Nat,u<256→IntKind.u8.wrap ((BitVec.ofInt IntKind.u8.bits (u:Int)&&& BitVec.ofInt IntKind.u8.bits 127).toNat:Int)=((u % 128:Nat):Int):=by decide+kernel
theorem wrap_u8 (u:Nat):IntKind.u8.wrap (u:Int)=((u % 256:Nat):Int):=by
 unfold IntKind.wrap
 simp only [show IntKind.u8.signed=false by decide,show IntKind.u8.bits=8 by decide,Bool.false_and,jd,if_false]
 show(u:Int) % 256=_
 omega
theorem wrap_i64 (u:Int) (h: -9223372036854775808≤u∧u≤9223372036854775807):IntKind.i64.wrap u=u:=QE (k:=.i64) (by rw [Yx,Ux,Uy];exact h)
theorem wrap_u64 (u:Int) (h:0≤u∧u≤9223372036854775807):IntKind.u64.wrap u=u:=QE (k:=.u64) (by
 rw [Yx,show IntKind.u64.min=0 by decide,show IntKind.u64.max=18446744073709551615 by decide];omega)
theorem zvP (u x i:Nat) (hu:u<2 ^ (7 * i)) (hx:x<128) (hi:i≤4):
  IntKind.i64.wrap ((BitVec.ofInt IntKind.i64.bits (u:Int)|||BitVec.ofInt IntKind.i64.bits ((x * 2 ^ (7 * i):Nat):Int)).toNat:Int)=((u+x * 2 ^ (7 * i):Nat):Int):=by
 have h2:2 ^ (7 * i)≤2 ^ 28:=Nat.pow_le_pow_right (by omega) (by omega)
 have h3:x * 2 ^ (7 * i)≤127 * 2 ^ 28:=Nat.mul_le_mul (by omega) h2
 have e:(BitVec.ofInt IntKind.i64.bits (u:Int)|||BitVec.ofInt IntKind.i64.bits ((x * 2 ^ (7 * i):Nat):Int)).toNat=u+x * 2 ^ (7 * i):=by
  rw [BitVec.toNat_or,BitVec.ofInt_natCast,BitVec.ofInt_natCast,BitVec.toNat_ofNat,BitVec.toNat_ofNat,show IntKind.i64.bits=64 by decide,
   Nat.mod_eq_of_lt (show u<2 ^ 64 by omega),Nat.mod_eq_of_lt (show x * 2 ^ (7 * i)<2 ^ 64 by omega),Nat.or_comm,← Nat.shiftLeft_eq,← Nat.shiftLeft_add_eq_or_of_lt hu,Nat.add_comm]
 rw [e,wrap_i64];omega
theorem shr7 (u:Nat):(u:Int).fdiv (2 ^ min (Int.toNat 7) 64)=((u / 128:Nat):Int):=by
 show(u:Int).fdiv 128=_
 rw [Int.fdiv_eq_ediv_of_nonneg _ (by decide)]
 omega
def zjJ (I:Alg):KU
 |[.v (.one (.row 0)),.v (.one (.p (.int .i64 n)))],[.row .byte 5 l]=>(fun(l:Str)=>(some (.one ⟨I.hid (-1≤n∧n<34359738368∧l.length≤50000000),(.ret (.v (.one (.row 1)))),[.gone,.row .byte 5 (I.hid (l++sev (n+1).toNat))]⟩):Option CT)) l
 |_,_=>none
theorem zsO:zx Tryz.prog 198 (zjJ alg):=by
 intro args hp r h;unfold zjJ at h;split at h<;>cases h
 rename_i n l;simp only [CT.Good,zh];intro hneed
 refine spH Tryz.func198 (by kernel_rfl) { mv:=[0],keep:=some [0,1,4,5]} [] (by kernel_rfl) ?_
 intro I X hI hX
 refine orcL ?_;go_invoke;refine orcS (by kernel_rfl) ?_
 simp only [zi,Nat.reduceAdd]
 refine⟨(by rw [hI];simp only [nrmA,nrmB];omega),?_⟩
 refine lpH hI [] hX [0,5] (fun(g:Str × Int)=>match g with|(m,u)=>0≤u∧u<68719476736∧m++sev u.toNat=l++sev (n+1).toNat) (fun(g:Str × Int)=>match g with|(m,u)=>⟨[(0,.v (.one (.row 1))),(5,.v (.one (.p (.int .u64 u))))],[.gone,.row .byte 5 m],24,none⟩) (fun(g:Str × Int)=>match g with|(m,u)=>u.toNat) (l,I.wrap .u64 (I.add n 1)) (by kernel_rfl) (by kernel_rfl) ?_ ?_
 · subst hI
   simp only;simp only [nrmA,nrmB]
   rw [wrap_u64 _ (by omega)]
   exact⟨by omega,by omega,rfl⟩
 rintro⟨m,u⟩ ⟨h0,h1,h2⟩ A hA;obtain⟨u,rfl⟩:=Int.eq_ofNat_of_zero_le h0;simp only [jJ] at h2;simp only at hA;generalize hu':(u:Int)=u' at *
 refine orcL ?_;go_invoke;refine orcS (by kernel_rfl) ?_
 simp only [zi,Nat.reduceAdd];subst hI hu';simp only [nrmA,nrmB];have hml:=congrArg List.length h2;have hs1:=xg u;have hs2:=xg (n+1).toNat;simp only [jk] at hml
 have hu8:u % 256 % 128=u % 128:=by omega
 rw [wrap_u8 u,zw4 _ (by omega),shr7,hu8,jJ,jJ]
 have h64:((IntKind.u64.bits:Nat):Int)=64:=by decide
 simp only [jh,ji,h64]
 (repeat' (first|refine ja ?_ ?_|intro _))<;>first|omega|exact jb|exact jc ‹False›|skip
 · have hb:=zdg (u:=u) (by omega) (by omega)
   refine hA (m++[UInt8.ofNat (u % 128+128)],(u / 128:Nat)) ⟨by omega,by omega,?_⟩ (by simp only;omega)
   rw [jJ,← h2,hb,jo];rfl
 · rw [← h2,ZY (by omega),show u % 256=u by omega]
def zsN:Know Tryz.prog:=⟨198,zjJ,zsO⟩
def zsM:Know Tryz.prog:=⟨198,fun I=>zu I (zjJ I),zf zsO⟩
def zkF (I:Alg):KU
 |[.v (.one (.p (.int .i64 n)))],[]=>some (.one ⟨I.hid (True),(.ret (.v (.one (.p (.bool (I.hid (few n))))))),[]⟩)
 |_,_=>none
theorem ztj:zx Tryz.prog 238 (zkF alg):=by
 intro args hp r h;unfold zkF at h;split at h<;>cases h
 rename_i n;simp only [CT.Good,zh];intro _
 refine spH Tryz.func238 (by kernel_rfl) { keep:=some [0,2]} [] (by kernel_rfl) ?_
 intro I X hI hX
 refine orcL ?_;go_invoke;refine orcS (by kernel_rfl) ?_
 simp only [zi,Nat.reduceAdd];subst hI;simp only [nrmA,nrmB];unfold few
 (repeat' (first|refine ja ?_ ?_|intro _))<;>first|omega|exact jb|exact jc ‹False›|skip
 · simp [*]
 · simp [*]
def zwh:Know Tryz.prog:=⟨238,zkF,ztj⟩
def zwg:Know Tryz.prog:=⟨238,fun I=>zu I (zkF I),zf ztj⟩
def zj7 (I:Alg):KU
 |[.v (.agg [.p (.int .i64 k),.p (.int .i64 i),.p (.int .i64 n),.p (.list .byte t)])],[]=>(fun(t:Str)=>(some (.one ⟨I.hid (True),(.ret (.v (.one (.p (.bool (I.hid (mayM ⟨k,i,n,t⟩))))))),[]⟩):Option CT)) t
 |_,_=>none
theorem zs5:zx Tryz.prog 197 (zj7 alg):=by
 intro args hp r h;unfold zj7 at h;split at h<;>cases h
 rename_i k i n t;simp only [CT.Good,zh];intro _
 refine spH Tryz.func197 (by kernel_rfl) { keep:=some [0,1,2,3]} [zwh,zwg] (by kernel_rfl) ?_
 intro I X hI hX
 refine orcL ?_;go_invoke;refine orcS (by kernel_rfl) ?_
 simp only [zi,Nat.reduceAdd];subst hI;simp only [nrmA,nrmB];unfold mayM
 (repeat' (first|refine ja ?_ ?_|intro _))<;>first|omega|exact jb|exact jc ‹False›|skip
 all_goals simp [*]<;>omega
def zj6:Know Tryz.prog:=⟨197,zj7,zs5⟩
def zj5:Know Tryz.prog:=⟨197,fun I=>zu I (zj7 I),zf zs5⟩
def zkm (I:Alg):KU
 |[.v (.one (.p (.list .byte b)))],[]=>(fun(b:Str)=>(some (.one ⟨I.hid (True),(.ret (.tup [.one (.p (.int .i64 (I.hid ((num b).1)))),.one (.p (.list .byte (I.hid ((num b).2.1)))),.one (.p (.bool (I.hid ((num b).2.2))))])),[]⟩):Option CT)) b
 |_,_=>none
theorem ztf:zx Tryz.prog 200 (zkm alg):=by
 intro args hp r h;unfold zkm at h;split at h<;>cases h
 rename_i b;simp only [CT.Good,zh];intro _
 refine spH Tryz.func200 (by kernel_rfl) { rl:=[1],keep:=some [0,2,3,4,5,6,9,10]} [] (by kernel_rfl) ?_
 intro I X hI hX
 refine orcL ?_;go_invoke;refine orcS (by kernel_rfl) ?_
 simp only [zi,Nat.reduceAdd];generalize hr:num b=r;obtain⟨r1,r2,r3⟩:=r
 refine lpH hI [] hX [0,5,9,10] (fun(g:Nat × Int)=>match g with|(i,u)=>i≤b.length∧i≤5∧0≤u∧u<(128 ^ i:Nat)∧numF i u.toNat (b.drop i)=num b) (fun(g:Nat × Int)=>match g with|(i,u)=>⟨[(0,.v (.one (.p (.list .byte b)))),(5,.v (.one (.p (.int .i64 u)))),(9,.v (.one (.p (.int .i64 ((I.imin (I.len (α:=UInt8) b) 5)))))),(10,.v (.one (.p (.int .i64 i))))],[],45,none⟩) (fun(g:Nat × Int)=>match g with|(i,u)=>b.length - i) (0,0) (by kernel_rfl) (by kernel_rfl) ?_ ?_
 · exact⟨jM _,by omega,Int.le_refl _,by simp,rfl⟩
 rintro⟨i,u⟩ ⟨h1,h2,h3,h4,h6⟩ A hA;simp only at hA
 refine orcL ?_;go_invoke;refine orcS (by kernel_rfl) ?_
 simp only [zi,Nat.reduceAdd];subst hI;simp only [nrmA,nrmB,nrlB,reduceCtorEq];obtain⟨u,rfl⟩:=Int.eq_ofNat_of_zero_le h3;rw [jJ] at h6;have hs1:=fun(h:i<b.length) (h':i<5)=>zou u h h';generalize hc:(b.getD i 0).toNat=c at hs1 ⊢
 have hc256:c<256:=by rw [← hc];exact UInt8.toNat_lt _
 have hlim:((i:Int)<if((b.length:Nat):Int)≤5 then((b.length:Nat):Int) else 5)↔(i<b.length∧i<5):=by split<;>omega
 have hbits:IntKind.i64.bits=64:=by decide
 have hpw:2 ^ (7 * i)=128 ^ i:=by rw [Nat.pow_mul]
 have hq:i<5→128 ^ i≤128 ^ 4:=fun h=>Nat.pow_le_pow_right (by omega) (by omega)
 have e1:i<5→IntKind.i64.wrap (IntKind.u8.wrap ((BitVec.ofInt IntKind.u8.bits (c:Int)&&& BitVec.ofInt IntKind.u8.bits 127).toNat:Int)) * 2 ^ min (7 * (i:Int)).toNat IntKind.i64.bits=((c % 128 * 2 ^ (7 * i):Nat):Int):=by
  intro h5
  rw [zwI c hc256,wrap_i64 _ (by omega),hbits,show min (7 * (i:Int)).toNat 64=7 * i by omega]
  exact(Int.natCast_mul _ _).symm
 rw [hlim]
 have hW:i<5→∀ W,IntKind.i64.wrap ((BitVec.ofInt IntKind.i64.bits (u:Int)|||BitVec.ofInt IntKind.i64.bits (IntKind.i64.wrap (IntKind.i64.wrap (IntKind.u8.wrap ((BitVec.ofInt IntKind.u8.bits (c:Int)&&& BitVec.ofInt IntKind.u8.bits 127).toNat:Int)) * 2 ^ min (7 * (i:Int)).toNat IntKind.i64.bits))).toNat:Int)=W→W=((u+c % 128 * 128 ^ i:Nat):Int):=by
  intro h5 W h
  have hm:c % 128 * 2 ^ (7 * i)≤127 * 2 ^ (7 * i):=Nat.mul_le_mul_right _ (by omega)
  have h2:2 ^ (7 * i)≤2 ^ 28:=Nat.pow_le_pow_right (by omega) (by omega)
  rw [e1 h5,wrap_i64 ((c % 128 * 2 ^ (7 * i):Nat):Int) (by omega),zvP u (c % 128) i (by rw [hpw];omega) (by omega) (by omega),hpw] at h
  exact h.symm
 generalize hWd:IntKind.i64.wrap ((BitVec.ofInt IntKind.i64.bits (u:Int)|||BitVec.ofInt IntKind.i64.bits (IntKind.i64.wrap (IntKind.i64.wrap (IntKind.u8.wrap ((BitVec.ofInt IntKind.u8.bits (c:Int)&&& BitVec.ofInt IntKind.u8.bits 127).toNat:Int)) * 2 ^ min (7 * (i:Int)).toNat IntKind.i64.bits))).toNat:Int)=W at hW ⊢
 have hW:=fun h=>hW h W rfl;have hp:128 ^ (i+1)=128 ^ i * 128:=Nat.pow_succ ..;have hend:=zrG (b:=b) (i:=i) u;have hr':=hr;rw [← h6] at hr';generalize hQ:128 ^ i=Q at *
 have hm:c % 128 * Q≤127 * Q:=Nat.mul_le_mul_right _ (by omega)
 have hcm:c<128→c * Q=c % 128 * Q:=fun h=>by rw [Nat.mod_eq_of_lt h]
 generalize hX:c % 128 * Q=X at *
 have hcut:List.take (List.length b - ((i:Int)+1).toNat) (List.drop ((i:Int)+1).toNat b)=b.drop (i+1):=by
  rw [show((i:Int)+1).toNat=i+1 by omega,jq (by simp)]
 rw [hcut]
 have hfin: ¬ (i<b.length∧i<5)→0=r1∧([]:Str)=r2∧false=r3:=by
  intro h
  rw [hend (by omega)] at hr'
  simpa using hr'
 have hret:i<b.length∧i<5→c<128→W - 1=r1∧b.drop (i+1)=r2∧decide (i=0∨0<c)=r3:=by
  intro h1 h3;rw [hs1 h1.1 h1.2] at hr';simp only [if_pos h3,hcm h3,Prod.mk.injEq] at hr';rw [hW h1.2];exact hr'
 have hback:i<b.length∧i<5→¬ c<128→A ⟨[(0,.v (.one (.p (.list .byte b)))),(5,.v (.one (.p (.int .i64 W)))),(9,.v (.one (.p (.int .i64 ((if((b.length:Nat):Int)≤5 then((b.length:Nat):Int) else 5)))))),(10,.v (.one (.p (.int .i64 (((i:Int)+1))))))],[],45,none⟩:=by
  intro h1 h3;have g0:=hW h1.2
  have g1:0≤W:=by omega
  have g2:W<((128 ^ (i+1):Nat):Int):=by rw [hp];omega
  refine hA (i+1,W) ⟨h1.1,h1.2,g1,g2,?_⟩ (by simp only;omega)
  rw [← h6,hs1 h1.1 h1.2,if_neg h3,g0,jJ]
 (repeat' (first|refine ja ?_ ?_|intro _))<;>first|omega|exact jb|exact jc ‹False›|skip
 all_goals first
  |exact(hfin (by omega)).1
  |exact(hfin (by omega)).2.1
  |exact(hfin (by omega)).2.2
  |exact(hret (by omega) (by omega)).1
  |exact(hret (by omega) (by omega)).2.1
  |exact hback (by omega) (by omega)
  |(rw [← (hret (by omega) (by omega)).2.2];simp;omega)
  |skip
 all_goals trace_state
def zte:Know Tryz.prog:=⟨200,zkm,ztf⟩
def ztd:Know Tryz.prog:=⟨200,fun I=>zu I (zkm I),zf ztf⟩
end Go.Proofs.YtkjepecoodjbmaaGreatDoor
namespace Go.Proofs.YtkjepecoodjbmaaGreatDoor
open Go Go.Sep Go.Ab Go.Jrn
set_option maxRecDepth 100000
def pre3 (k i n:Int):Nat→Str
 |0=>[]
 |1=>sev (k+1).toNat
 |2=>sev (k+1).toNat++sev (i+1).toNat
 |_=>sev (k+1).toNat++sev (i+1).toNat++sev (n+1).toNat
def VI (I:Alg):KU
 |[.v (.agg [.p (.int .i64 k),.p (.int .i64 i),.p (.int .i64 n),.p (.list .byte t)])],[]=>(fun(t:Str)=>(some (.one ⟨I.hid (True),(.ret (.tup [.one (.row 0),.one (.p (.int .i64 (I.hid (encC ⟨k,i,n,t⟩))))])),[.row .byte 5 (I.hid (encM ⟨k,i,n,t⟩))]⟩):Option CT)) t
 |_,_=>none
theorem zgL:zx Tryz.prog 149 (VI alg):=by
 intro args hp r h;unfold VI at h;split at h<;>cases h
 rename_i k i n t;simp only [CT.Good,zh];intro _
 refine spH Tryz.func149 (by kernel_rfl) { nr:=[4],own:=[198],keep:=some [0,1,2,3,4,6,16,17,18]} [zsN,zsM,zj6,zj5] (by kernel_rfl) ?_
 intro I X hI hX
 refine orcL ?_;go_invoke;refine orcS (by kernel_rfl) ?_
 simp only [zi,Nat.reduceAdd]
 refine⟨(by rw [hI];trivial),fun hm=> ?_,fun hm=> ?_⟩
 · subst hI
   simp only [nrmA,nrmB,nrlB,reduceCtorEq] at hm;simp only [nrmA,nrmB,nrlB,reduceCtorEq];simp only [encC,encM,hm,jd,if_false];exact⟨trivial,trivial⟩
 rw [hI] at hm;simp only [nrmA,nrmB] at hm;have hmay:=hm;simp only [mayM,few,jK,decide_eq_true_eq] at hmay;obtain⟨⟨⟨⟨m1,m2⟩,m3,m4⟩,m5,m6⟩,m7⟩:=hmay;simp only [encC,encM,hm,if_true];generalize hr:encB ⟨k,i,n,t⟩=r
 refine lpH hI [zsN,zsM,zj6,zj5] hX [1,4,16,17,18] (fun(g:Nat × Str)=>match g with|(j,m)=>j≤3∧m=pre3 k i n j) (fun(g:Nat × Str)=>match g with|(j,m)=>⟨[(1,.v (.one (.ptr 0 0))),(4,.v (.one (.row 1))),(16,.v (.one (.row 2))),(17,.v (.one (.p (.int .i64 ((I.len (α:=Int) [k,i,n])))))),(18,.v (.one (.p (.int .i64 j))))],[.pack [.obj 182 [.p (.int .i64 k),.p (.int .i64 i),.p (.int .i64 n),.p (.list .byte t)]],.row .byte 5 m,.row .int 3 ([k,i,n])],35,none⟩) (fun(g:Nat × Str)=>match g with|(j,m)=>3 - j) (0,[]) (by kernel_rfl) (by kernel_rfl) ?_ ?_
 · exact⟨jM _,rfl⟩
 rintro⟨j,m⟩ ⟨hj,hjm⟩ A hA;simp only at hA
 refine orcL ?_;go_invoke;refine orcS (by kernel_rfl) ?_
 simp only [zi,Nat.reduceAdd];subst hI;simp only [nrmA,nrmB,nrlB,reduceCtorEq];have l1:=xg (k+1).toNat;have l2:=xg (i+1).toNat;have l3:=xg (n+1).toNat;simp only [jh,ji]
 rcases(show j=0∨j=1∨j=2∨j=3 by omega) with rfl|rfl|rfl|rfl
 · have hb:=hA (1,sev (k+1).toNat) ⟨by omega,rfl⟩ (by simp only;omega)
   subst hjm
   (repeat' (first|refine ja ?_ ?_|intro _))<;>first|omega|exact jb|exact jc ‹False›|skip
   · simp only [List.getD_cons_zero];omega
   · simp only [List.getD_cons_zero];omega
   · simp only [pre3,ji];omega
   · exact hb
 · have hb:=hA (2,sev (k+1).toNat++sev (i+1).toNat) ⟨by omega,rfl⟩ (by simp only;omega)
   subst hjm
   (repeat' (first|refine ja ?_ ?_|intro _))<;>first|omega|exact jb|exact jc ‹False›|skip
   · simp only [List.getD_cons_zero,List.getD_cons_succ];omega
   · simp only [List.getD_cons_zero,List.getD_cons_succ];omega
   · simp only [pre3];omega
   · exact hb
 · have hb:=hA (3,sev (k+1).toNat++sev (i+1).toNat++sev (n+1).toNat) ⟨by omega,rfl⟩ (by simp only;omega)
   subst hjm
   (repeat' (first|refine ja ?_ ?_|intro _))<;>first|omega|exact jb|exact jc ‹False›|skip
   · simp only [List.getD_cons_zero,List.getD_cons_succ];omega
   · simp only [List.getD_cons_zero,List.getD_cons_succ];omega
   · simp only [pre3,jk];omega
   · exact hb
 · have hm3:(m++t).length≤1048606:=by rw [hjm];simp only [pre3,jk];omega
   have hml:m.length≤30:=by rw [hjm];simp only [pre3,jk];omega
   have l4:=xg (((m++t).length:Nat)+1:Int).toNat
   (repeat' (first|refine ja ?_ ?_|intro _))<;>first|omega|exact jb|exact jc ‹False›|skip
   · simp only [List.nil_append];omega
   · rw [← hr,hjm]
     simp only [encB,enc3,pre3,List.nil_append];rfl
def zpM:Know Tryz.prog:=⟨149,VI,zgL⟩
def zpL:Know Tryz.prog:=⟨149,fun I=>zu I (VI I),zf zgL⟩
def zdM (I:Alg):KU
 |[.v (.one (.p (.list .byte b)))],[]=>(fun(b:Str)=>(some (.one ⟨I.hid (b.length≤100000000),(.ret (.tup [.agg [.p (.int .i64 (I.hid ((oneX b).1.kind))),.p (.int .i64 (I.hid ((oneX b).1.id))),.p (.int .i64 (I.hid ((oneX b).1.n))),.p (.list .byte (I.hid ((oneX b).1.text)))],.one (.p (.list .byte (I.hid ((oneX b).2.1)))),.one (.p (.bool (I.hid ((oneX b).2.2))))])),[]⟩):Option CT)) b
 |_,_=>none
theorem zoJ:zx Tryz.prog 151 (zdM alg):=by
 intro args hp r h;unfold zdM at h;split at h<;>cases h
 rename_i b;simp only [CT.Good,zh];intro hneed
 refine spH Tryz.func151 (by kernel_rfl) { rl:=[1],keep:=some [0,2,3,4,5,6,7,8,9,10,11,12,38]} [ZA,qm,zj6,zj5,zte,ztd] (by kernel_rfl) ?_
 intro I X hI hX
 refine orcL ?_;go_invoke;refine orcS (by kernel_rfl) ?_
 simp only [zi,Nat.reduceAdd];generalize hv:(num b).1=v;generalize hq:(num b).2.1=q;generalize hok:(num b).2.2=ok
 have hnum:num b=(v,q,ok):=by rw [← hv,← hq,← hok]
 generalize hx:oneX b=x;have hx':=hx;rw [oneX,hnum] at hx'
 have hql:q.length≤b.length:=by
  rcases ok with _|_
  · have:=zaA b;rw [hnum] at this;exact this
  · have:=zaz (b:=b) (by rw [hnum]);rw [hnum] at this;exact Nat.le_of_lt this
 refine⟨(by rw [hI];trivial),fun h1=> ?_,fun h1=>⟨fun h2=> ?_,fun h2=>⟨fun h3=> ?_,fun h3=> ?_⟩⟩⟩
 · subst hI;simp only [nrmA,nrmB] at h1;subst h1;simp only at hx';subst hx';simp only [nrmA,nrmB,nrlB,reduceCtorEq]
 · subst hI;simp only [nrmA,nrmB] at h1;simp only [nrmA,nrmB] at h2;subst h1;simp only at hx';rw [if_pos (.inl h2)] at hx';subst hx';simp only [nrmA,nrmB,nrlB,reduceCtorEq]
 · subst hI;simp only [nrmA,nrmB] at h1;simp only [nrmA,nrmB] at h2;simp only [nrmA,nrmB] at h3;subst h1;simp only at hx';rw [if_pos (.inr h3)] at hx';subst hx';simp only [nrmA,nrmB,nrlB,reduceCtorEq]
 rw [hI] at h1;simp only [nrmA,nrmB] at h1;rw [hI] at h2;simp only [nrmA,nrmB] at h2;rw [hI] at h3;simp only [nrmA,nrmB] at h3;subst h1;simp only at hx'
 rw [if_neg (by omega)] at hx'
 refine⟨(by rw [hI];simp only [nrmA,nrmB];omega),(by rw [hI];simp only [nrmA,nrmB];omega),?_⟩
 have hin:I.cut (α:=UInt8) (I.hid (α:=List UInt8) q) 0 (I.hid (α:=Int) v)=q.take v.toNat:=by rw [hI];simp only [nrmA,nrmB]
 have hbh:I.cut (α:=UInt8) (I.hid (α:=List UInt8) q) (I.hid (α:=Int) v) (I.len (α:=UInt8) (I.hid (α:=List UInt8) q))=q.drop v.toNat:=by
  rw [hI];simp only [nrmA,nrmB];rw [jq (by simp)]
 have hil:(q.take v.toNat).length≤b.length:=by simp;omega
 rw [hin,hbh];generalize q.take v.toNat=inn at *;generalize q.drop v.toNat=bh at *
 refine lpH hI [ZA,qm,zj6,zj5,zte,ztd] hX [2,8,9,10,38] (fun(g:Nat × Int × Int × Int × Str)=>match g with|(j,a,c,d,s)=>j≤3∧s.length≤b.length∧thr j a c d s=three inn) (fun(g:Nat × Int × Int × Int × Str)=>match g with|(j,a,c,d,s)=>⟨[(2,.v (.one (.ptr 0 0))),(8,.v (.one (.p (.list .byte s)))),(9,.v (.one (.p (.list .byte bh)))),(10,.v (.one (.ptr 1 0))),(38,.v (.one (.p (.int .i64 j))))],[.pack [.obj 182 [.p (.int .i64 0),.p (.int .i64 0),.p (.int .i64 0),.nilS]],.pack [.obj 226 [.p (.int .i64 a),.p (.int .i64 c),.p (.int .i64 d)]]],66,none⟩) (fun(g:Nat × Int × Int × Int × Str)=>match g with|(j,a,c,d,s)=>3 - j) (0,0,0,0,inn) (by kernel_rfl) (by kernel_rfl) ?_ ?_
 · exact⟨jM _,hil,rfl⟩
 rintro⟨j,a,c,d,s⟩ ⟨hj,hsl,hthr⟩ A hA;simp only at hA
 have hu:j<3→∀ e:(num s).2.2=false,thr j a c d s=none:=by
  intro h e
  have e2:num s=((num s).1,(num s).2.1,false):=by rw [← e]
  rcases(show j=0∨j=1∨j=2 by omega) with rfl|rfl|rfl
  · rw [thr,three,e2]
  · rw [thr,e2]
  · rw [thr,e2]
 have hfail:j<3→(num s).2.2=false→x=(⟨0,0,0,[]⟩,[],false):=by
  intro h e;rw [← hthr,hu h e] at hx';exact hx'.symm
 have hnl:=zaA s
 have hle:(num s).2.1.length≤b.length:=by omega
 rcases(show j=0∨j=1∨j=2∨j=3 by omega) with rfl|rfl|rfl|rfl
 · refine orcL ?_;go_invoke;refine orcS (by kernel_rfl) ?_
   simp only [zi,Nat.reduceAdd];subst hI;simp only [nrmA,nrmB,nrlB,reduceCtorEq]
   refine⟨fun _=>⟨fun e=> ?_,fun e=>⟨by omega,?_⟩⟩,fun h=>(by omega)⟩
   · rw [hfail (by omega) e];exact⟨rfl,rfl,rfl⟩
   · refine hA (1,(num s).1,c,d,(num s).2.1) ⟨by omega,hle,?_⟩ (by simp only;omega)
     rw [← hthr,thr,thr,three,show num s=((num s).1,(num s).2.1,true) by rw [← e]]
 · refine orcL ?_;go_invoke;refine orcS (by kernel_rfl) ?_
   simp only [zi,Nat.reduceAdd];subst hI;simp only [nrmA,nrmB,nrlB,reduceCtorEq]
   refine⟨fun _=>⟨fun e=> ?_,fun e=>⟨by omega,?_⟩⟩,fun h=>(by omega)⟩
   · rw [hfail (by omega) e];exact⟨rfl,rfl,rfl⟩
   · refine hA (2,a,(num s).1,d,(num s).2.1) ⟨by omega,hle,?_⟩ (by simp only;omega)
     rw [← hthr,thr,thr,show num s=((num s).1,(num s).2.1,true) by rw [← e]]
 · refine orcL ?_;go_invoke;refine orcS (by kernel_rfl) ?_
   simp only [zi,Nat.reduceAdd];subst hI;simp only [nrmA,nrmB,nrlB,reduceCtorEq]
   refine⟨fun _=>⟨fun e=> ?_,fun e=>⟨by omega,?_⟩⟩,fun h=>(by omega)⟩
   · rw [hfail (by omega) e];exact⟨rfl,rfl,rfl⟩
   · refine hA (3,a,c,(num s).1,(num s).2.1) ⟨by omega,hle,?_⟩ (by simp only;omega)
     have e2:num s=((num s).1,(num s).2.1,true):=by rw [← e]
     rw [← hthr];simp only [thr];generalize num s=z at *;obtain⟨z1,z2,z3⟩:=z;simp only at e;subst e;rfl
 · refine orcL ?_;go_invoke;refine orcS (by kernel_rfl) ?_
   simp only [zi,Nat.reduceAdd];subst hI;simp only [nrmA,nrmB,nrlB,reduceCtorEq];rw [← hthr] at hx';simp only [thr] at hx';subst hx'
   have:s.length≤100000000:=by omega
   exact⟨fun h=>(by omega),fun _=>⟨⟨this,rfl,rfl,rfl⟩,this,rfl,rfl,rfl⟩⟩
def zoI:Know Tryz.prog:=⟨151,zdM,zoJ⟩
def zoH:Know Tryz.prog:=⟨151,fun I=>zu I (zdM I),zf zoJ⟩
end Go.Proofs.YtkjepecoodjbmaaGreatDoor
namespace Go.Proofs.YtkjepecoodjbmaaGreatDoor
open Go Go.Sep Go.Ab Go.Jrn
set_option maxRecDepth 100000
def QI (b:Str):Int:=(b.length:Int) - ((dec b).2.length:Int)
def VL (I:Alg):KU
 |[.v (.one (.p (.list .byte b)))],[]=>(fun(b:Str)=>(some (.one ⟨I.hid (b.length≤50000000),(.ret (.tup [.one (.row 0),.one (.p (.int .i64 (I.hid (QI b))))])),[.row .ent 182 (I.hid ((dec b).1))]⟩):Option CT)) b
 |_,_=>none
theorem zgQ:zx Tryz.prog 108 (VL alg):=by
 intro args hp r h;unfold VL at h;split at h<;>cases h
 rename_i b;simp only [CT.Good,zh];intro hneed
 refine spH Tryz.func108 (by kernel_rfl) { nr:=[4],keep:=some [0,2,3,4,5,6,7,8]} [zoI,zoH] (by kernel_rfl) ?_
 intro I X hI hX
 refine orcL ?_;go_invoke;refine orcS (by kernel_rfl) ?_
 simp only [zi,Nat.reduceAdd];generalize hd1:(dec b).1=d1;generalize hd2:QI b=d2
 refine lpH hI [zoI,zoH] hX [0,4,5] (fun(g:List Ent × Str)=>match g with|(out,rest)=>out++(dec rest).1=d1∧(dec rest).2=(dec b).2∧out.length+rest.length≤b.length) (fun(g:List Ent × Str)=>match g with|(out,rest)=>⟨[(0,.v (.one (.p (.list .byte b)))),(4,.v (.one (.row 0))),(5,.v (.one (.p (.list .byte rest))))],[.row .ent 182 out],29,none⟩) (fun(g:List Ent × Str)=>match g with|(out,rest)=>rest.length) ([],b) (by kernel_rfl) (by kernel_rfl) ?_ ?_
 · exact⟨hd1,rfl,by simp⟩
 rintro⟨out,rest⟩ ⟨h1,h2,h3⟩ A hA;simp only at hA
 refine orcL ?_;go_invoke;refine orcS (by kernel_rfl) ?_
 simp only [zi,Nat.reduceAdd];subst hI;simp only [nrmA,nrmB,nrlB,reduceCtorEq]
 have hone:(oneX rest).2.2=true→oneM rest=some ((oneX rest).1,(oneX rest).2.1):=fun h=>by rw [oneM,if_pos h]
 have hnone:(oneX rest).2.2=false→oneM rest=none:=fun h=>by rw [oneM,if_neg (by rw [h];decide)]
 refine⟨by omega,fun h=> ?_,fun h=> ?_⟩
 · rw [zd8 (hnone h)] at h1 h2
   refine⟨by omega,?_,by simpa using h1⟩
   rw [← hd2,QI,← h2]
 · have hx:=zd7 (hone h)
   have hlt:=zoo h
   refine⟨by simp only [jh,ji];omega,hA (out++[(oneX rest).1],(oneX rest).2.1) ⟨?_,?_,?_⟩ hlt⟩
   · rw [← h1,hx,jo];rfl
   · rw [← h2,hx]
   · simp only [jk,jh,ji];omega
def zgP:Know Tryz.prog:=⟨108,VL,zgQ⟩
def zgO:Know Tryz.prog:=⟨108,fun I=>zu I (VL I),zf zgQ⟩
end Go.Proofs.YtkjepecoodjbmaaGreatDoor
namespace Go.Proofs.YtkjepecoodjbmaaGreatDoor
open Go Go.Sep Go.Ab
set_option maxRecDepth 100000
def cfgL:Cfg:= { sl:=[⟨156,0,.byte,some 5⟩]}
def Uj (b:Str) (n:Int):Bool:=decide (0≤n∧n≤100000 - (b.length:Int))
def wrC (b x:Str):Int:=if b.length+x.length≤100000 then 0 else 16
def wrB (b x:Str):Str:=if b.length+x.length≤100000 then b++x else b
def crB (b:Str) (s n:Int):Str:=b.take (s+min (max n 0) (b.length - s)).toNat
def cuB (b:Str) (n:Int):Str:=if 0≤n∧n<b.length then b.take n.toNat else b
def cuS (b:Str) (s n:Int):Int:=if 0≤n∧n<b.length then min s n else s
def zdN (I:Alg):KU
 |[],[]=>some (.one ⟨I.hid (True),(.ret (.v (.one (.ptr 0 0)))),[.pack [.obj 156 [.row 1,.p (.int .i64 0)],.row .byte 5 (I.hid ([]))]]⟩)
 |_,_=>none
theorem zoM:zx Tryz.prog 43 (zdN alg):=by
 intro args hp r h;unfold zdN at h;split at h<;>cases h
 simp only [CT.Good,zh];intro _
 refine spH Tryz.func43 (by kernel_rfl) { cfgL with keep:=some [0]} [] (by kernel_rfl) ?_
 intro I X hI hX
 refine orcL ?_;go_invoke;refine orcS (by kernel_rfl) ?_
 simp only [zi,Nat.reduceAdd];trivial
def zun:Know Tryz.prog:=⟨43,zdN,zoM⟩
def zum:Know Tryz.prog:=⟨43,fun I=>zu I (zdN I),zf zoM⟩
def QB (I:Alg):KU
 |[.v (.one (.ptr 0 0))],[.pack [.obj 156 [.row 1,.p (.int .i64 s)],.row .byte 5 b]]=>(fun(b:Str)=>(some (.one ⟨I.hid (b.length≤100000000),(.ret (.v (.one (.row 1)))),[.pack [.obj 156 [.row 1,.p (.int .i64 s)],.row .byte 5 b],.row .byte 5 b]⟩):Option CT)) b
 |_,_=>none
theorem zlg:zx Tryz.prog 55 (QB alg):=by
 intro args hp r h;unfold QB at h;split at h<;>cases h
 rename_i s b;simp only [CT.Good,zh];intro hneed
 refine spH Tryz.func55 (by kernel_rfl) { cfgL with keep:=some [0,2]} [ZA,qm] (by kernel_rfl) ?_
 intro I X hI hX
 refine orcL ?_;go_invoke;refine orcS (by kernel_rfl) ?_
 simp only [zi,Nat.reduceAdd];subst hI;simp only [nrmA,nrmB];exact hneed
def zlf:Know Tryz.prog:=⟨55,QB,zlg⟩
def zle:Know Tryz.prog:=⟨55,fun I=>zu I (QB I),zf zlg⟩
def zda (I:Alg):KU
 |[.v (.one (.ptr 0 0))],[.pack [.obj 156 [.row 1,.p (.int .i64 s)],.row .byte 5 b]]=>(fun(b:Str)=>(some (.one ⟨I.hid (True),(.ret (.tup [])),[.pack [.obj 156 [.row 1,.p (.int .i64 (I.hid (b.length:Int)))],.row .byte 5 b]]⟩):Option CT)) b
 |_,_=>none
theorem zm2:zx Tryz.prog 106 (zda alg):=by
 intro args hp r h;unfold zda at h;split at h<;>cases h
 rename_i s b;simp only [CT.Good,zh];intro _
 refine spH Tryz.func106 (by kernel_rfl) { cfgL with keep:=some [0]} [] (by kernel_rfl) ?_
 intro I X hI hX
 refine orcL ?_;go_invoke;refine orcS (by kernel_rfl) ?_
 simp only [zi,Nat.reduceAdd];subst hI;simp only [nrmA,nrmB,nrlB,reduceCtorEq,HO.pack.injEq,HO.obj.injEq]
def zm1:Know Tryz.prog:=⟨106,zda,zm2⟩
def zm0:Know Tryz.prog:=⟨106,fun I=>zu I (zda I),zf zm2⟩
def zdp (I:Alg):KU
 |[.v (.one (.ptr 0 0)),.v (.one (.p (.int .i64 n)))],[.pack [.obj 156 [.row 1,.p (.int .i64 s)],.row .byte 5 b]]=>(fun(b:Str)=>(some (.one ⟨I.hid (b.length≤100000000),(.ret (.v (.one (.p (.bool (I.hid (Uj b n))))))),[.pack [.obj 156 [.row 1,.p (.int .i64 s)],.row .byte 5 b]]⟩):Option CT)) b
 |_,_=>none
theorem zn1:zx Tryz.prog 199 (zdp alg):=by
 intro args hp r h;unfold zdp at h;split at h<;>cases h
 rename_i n s b;simp only [CT.Good,zh];intro hneed
 refine spH Tryz.func199 (by kernel_rfl) { cfgL with keep:=some [0,1,4]} [] (by kernel_rfl) ?_
 intro I X hI hX
 refine orcL ?_;go_invoke;refine orcS (by kernel_rfl) ?_
 simp only [zi,Nat.reduceAdd];subst hI;simp only [nrmA,nrmB,nrlB,reduceCtorEq];unfold Uj
 exact⟨fun h=>⟨by omega,decide_eq_decide.2 (by omega)⟩,fun h=>(decide_eq_false (by omega)).symm⟩
def zn0:Know Tryz.prog:=⟨199,zdp,zn1⟩
def znZ:Know Tryz.prog:=⟨199,fun I=>zu I (zdp I),zf zn1⟩
def Sj (I:Alg):KU
 |[.v (.one (.ptr 0 0)),.v (.one (.p (.list .byte x)))],[.pack [.obj 156 [.row 1,.p (.int .i64 s)],.row .byte 5 b]]=>(fun(b x:Str)=>(some (.one ⟨I.hid (b.length≤100000∧x.length≤100000000),(.ret (.v (.one (.p (.int .i64 (I.hid (wrC b x))))))),[.pack [.obj 156 [.row 1,.p (.int .i64 s)],.row .byte 5 (I.hid (wrB b x))]]⟩):Option CT)) b x
 |_,_=>none
theorem ziK:zx Tryz.prog 150 (Sj alg):=by
 intro args hp r h;unfold Sj at h;split at h<;>cases h
 rename_i x s b;simp only [CT.Good,zh];intro hneed
 refine spH Tryz.func150 (by kernel_rfl) { cfgL with keep:=some [0,1,4]} [zn0,znZ] (by kernel_rfl) ?_
 intro I X hI hX
 refine orcL ?_;go_invoke;refine orcS (by kernel_rfl) ?_
 simp only [zi,Nat.reduceAdd];subst hI
 have hr:Uj b (x.length:Int)=decide (b.length+x.length≤100000):=by unfold Uj;exact decide_eq_decide.2 (by omega)
 simp only [nrmA,nrmB,nrlB,reduceCtorEq,HO.pack.injEq,HO.obj.injEq];rw [hr]
 by_cases hc:b.length+x.length≤100000
 · simp only [wrC,wrB,if_pos hc,decide_eq_true hc]
   simp only [nrmA,nrmB,nrlB,reduceCtorEq]
   exact⟨by omega,fun h=>h.elim,fun _=>by omega⟩
 · simp only [wrC,wrB,if_neg hc,decide_eq_false hc]
   simp only [nrmA,nrmB,nrlB,reduceCtorEq]
   exact⟨by omega,fun _=>trivial,fun h=>h.elim⟩
def zqz:Know Tryz.prog:=⟨150,Sj,ziK⟩
def zqy:Know Tryz.prog:=⟨150,fun I=>zu I (Sj I),zf ziK⟩
def Qr (I:Alg):KU
 |[.v (.one (.ptr 0 0)),.v (.one (.p (.int .i64 n)))],[.pack [.obj 156 [.row 1,.p (.int .i64 s)],.row .byte 5 b]]=>(fun(b:Str)=>(some (.one ⟨I.hid (b.length≤100000∧0≤s∧s≤b.length),(.ret (.tup [])),[.pack [.obj 156 [.row 1,.p (.int .i64 (I.hid ((crB b s n).length:Int)))],.row .byte 5 (I.hid (crB b s n))]]⟩):Option CT)) b
 |_,_=>none
theorem zk3:zx Tryz.prog 107 (Qr alg):=by
 intro args hp r h;unfold Qr at h;split at h<;>cases h
 rename_i n s b;simp only [CT.Good,zh];intro hneed
 refine spH Tryz.func107 (by kernel_rfl) { cfgL with cut:=[35],keep:=some [0,1,4]} [zm1,zm0] (by kernel_rfl) ?_
 intro I X hI hX
 refine orcL ?_;go_invoke;refine orcS (by kernel_rfl) ?_
 simp only [zi,Nat.reduceAdd];subst hI;simp only [nrmA,nrmB,nrlB,reduceCtorEq,HO.pack.injEq,HO.obj.injEq]
 obtain⟨K,hK,h0,hle⟩: ∃ K:Int,s+(if(if n≤0 then 0 else n)≤(b.length:Int) - s then(if n≤0 then 0 else n) else(b.length:Int) - s)=K∧s≤K∧K≤b.length:=⟨_,rfl,by omega,by omega⟩
 have hcr:crB b s n=b.take K.toNat:=by
  unfold crB;rw [← hK]
  congr 2
 rw [hK,hcr]
 exact⟨by omega,by omega,by omega,by omega,rfl,rfl⟩
def zk2:Know Tryz.prog:=⟨107,Qr,zk3⟩
def zk1:Know Tryz.prog:=⟨107,fun I=>zu I (Qr I),zf zk3⟩
def zec (I:Alg):KU
 |[.v (.one (.ptr 0 0)),.v (.one (.p (.int .i64 n)))],[.pack [.obj 156 [.row 1,.p (.int .i64 s)],.row .byte 5 b]]=>(fun(b:Str)=>(some (.one ⟨I.hid (b.length≤100000∧0≤s∧s≤b.length),(.ret (.tup [])),[.pack [.obj 156 [.row 1,.p (.int .i64 (I.hid (cuS b s n)))],.row .byte 5 (I.hid (cuB b n))]]⟩):Option CT)) b
 |_,_=>none
theorem zpW:zx Tryz.prog 109 (zec alg):=by
 intro args hp r h;unfold zec at h;split at h<;>cases h
 rename_i n s b;simp only [CT.Good,zh];intro hneed
 refine spH Tryz.func109 (by kernel_rfl) { cfgL with cut:=[22],keep:=some [0,1]} [] (by kernel_rfl) ?_
 intro I X hI hX
 refine orcL ?_;go_invoke;refine orcS (by kernel_rfl) ?_
 simp only [zi,Nat.reduceAdd];subst hI;simp only [nrmA,nrmB,nrlB,reduceCtorEq,HO.pack.injEq,HO.obj.injEq]
 refine⟨fun h1=>⟨fun h2=>⟨by omega,?_,?_⟩,fun h2=> ?_⟩,fun h1=> ?_⟩
 · unfold cuS;rw [if_pos (show 0≤n∧n<(b.length:Int) from⟨h1,h2⟩)];omega
 · unfold cuB;rw [if_pos (show 0≤n∧n<(b.length:Int) from⟨h1,h2⟩)]
 · unfold cuS cuB;rw [if_neg (show ¬ (0≤n∧n<(b.length:Int)) from fun h=>by omega),if_neg (show ¬ (0≤n∧n<(b.length:Int)) from fun h=>by omega)];exact⟨rfl,rfl⟩
 · unfold cuS cuB;rw [if_neg (show ¬ (0≤n∧n<(b.length:Int)) from fun h=>by omega),if_neg (show ¬ (0≤n∧n<(b.length:Int)) from fun h=>by omega)];exact⟨rfl,rfl⟩
def zpV:Know Tryz.prog:=⟨109,zec,zpW⟩
def zpU:Know Tryz.prog:=⟨109,fun I=>zu I (zec I),zf zpW⟩
end Go.Proofs.YtkjepecoodjbmaaGreatDoor
namespace Go.Jrn
open Go Go.Ab
theorem pow5 {i:Nat} (h:i<5):128 ^ (5 - i)=128 * 128 ^ (5 - (i+1)):=by
 rw [show 5 - i=(5 - (i+1))+1 by omega,Nat.pow_succ,Nat.mul_comm]
theorem zft: ∀ (s:Str) (i u:Nat) (v:Int) (r:Str),numF i u s=(v,r,true)→∃ x,v=((u+x * 128 ^ i:Nat):Int) - 1∧s=sev x++r∧(0<i→0<x)∧x<128 ^ (5 - i)
 |[],i,u,v,r,h=>by simp [numF] at h
 | c :: l,i,u,v,r,h=>by
   rw [numF] at h
   split at h
   · simp at h
   · rename_i h5
     have hp:=pow5 (i:=i) (by omega)
     have hpos:0<128 ^ (5 - (i+1)):=Nat.pow_pos (by omega)
     split at h
     · rename_i hc
       simp only [Prod.mk.injEq,decide_eq_true_eq] at h;obtain⟨rfl,rfl,h3⟩:=h
       refine⟨c.toNat,rfl,?_,by omega,by omega⟩
       rw [ZY hc,UInt8.ofNat_toNat];rfl
     · rename_i hc
       obtain⟨y,h1,h2,h3,h4⟩:=zft l (i+1) _ v r h
       have hy:=h3 (by omega)
       have hc2:c.toNat<256:=UInt8.toNat_lt c
       have h45:128 ^ (5 - (i+1))≤128 ^ 4:=Nat.pow_le_pow_right (by omega) (by omega)
       refine⟨c.toNat % 128+128 * y,?_,?_,by omega,?_⟩
       · rw [h1,Nat.pow_succ,Nat.add_mul]
         congr 2
         rw [Nat.add_assoc]
         congr 1
         rw [Nat.mul_comm (128 ^ i) 128,Nat.mul_comm 128 y,Nat.mul_assoc]
       · rw [zdg (by omega) (by omega),h2,show(c.toNat % 128+128 * y) % 128+128=c.toNat by omega,show(c.toNat % 128+128 * y) / 128=y by omega,UInt8.ofNat_toNat];rfl
       · rw [hp];omega
theorem RN {s r:Str} {v:Int} (h:num s=(v,r,true)): -1≤v∧v<34359738367∧s=sev (v+1).toNat++r:=by
 obtain⟨x,h1,h2,_,h4⟩:=zft s 0 0 v r h;simp only [Nat.pow_zero,Nat.mul_one,Nat.zero_add,Nat.sub_zero] at h1 h4
 have:(v+1).toNat=x:=by omega
 rw [this]
 exact⟨by omega,by omega,h2⟩
theorem zlS: ∀ (x i u:Nat) (r:Str),i<5→x<128 ^ (5 - i)→(0<i→0<x)→numF i u (sev x++r)=(((u+x * 128 ^ i:Nat):Int) - 1,r,true):=by
 intro x
 induction x using Nat.strongRecOn with
 | _ x ih=>
   intro i u r h5 hx hi;have hp:=pow5 h5
   have h55:128 ^ (5 - i)≤128 ^ 5:=Nat.pow_le_pow_right (by omega) (by omega)
   rcases Nat.lt_or_ge x 128 with hs|hb
   · have e:(UInt8.ofNat x).toNat=x:=by rw [UInt8.toNat_ofNat'];omega
     rw [ZY hs,List.cons_append,numF,if_neg (by omega),e,if_pos hs]
     simp only [List.nil_append,Prod.mk.injEq,true_and,decide_eq_true_eq];omega
   · have e:(UInt8.ofNat (x % 128+128)).toNat=x % 128+128:=by rw [UInt8.toNat_ofNat'];omega
     have hi4:i+1<5:=by
      rcases Nat.lt_or_ge (i+1) 5 with h|h
      · exact h
      · have:i=4:=by omega
        subst this;simp at hx;omega
     rw [zdg hb (by omega),List.cons_append,numF,if_neg (by omega),e,if_neg (by omega),ih (x / 128) (by omega) (i+1) _ r hi4 (by rw [Nat.div_lt_iff_lt_mul (by omega),Nat.mul_comm];omega) (by omega)]
     simp only [Prod.mk.injEq,and_true]
     congr 2
     rw [show(x % 128+128) % 128=x % 128 by omega,Nat.pow_succ,Nat.add_assoc]
     congr 1
     rw [Nat.mul_comm (128 ^ i) 128,← Nat.mul_assoc,← Nat.add_mul]
     congr 1
     omega
theorem Ye {v:Int} {r:Str} (h1: -1≤v) (h2:v<34359738367):num (sev (v+1).toNat++r)=(v,r,true):=by
 rw [num,zlS (v+1).toNat 0 0 r (by omega) (by simp;omega) (by omega)]
 simp only [Nat.pow_zero,Nat.mul_one,Nat.zero_add,Prod.mk.injEq,and_true];omega
theorem zot: ∀ (x i u:Nat) (p:Str),x<128 ^ 9→p.length<(sev x).length→p<+:sev x→(numF i u p).2.2=false:=by
 intro x
 induction x using Nat.strongRecOn with
 | _ x ih=>
   intro i u p hx hl hp
   cases p with
   |nil=>rfl
   | cons c p=>
     rcases Nat.lt_or_ge x 128 with hs|hb
     · rw [ZY hs] at hl;simp at hl
     · rw [zdg hb hx] at hl hp
       obtain⟨rfl,hp2⟩:=List.cons_prefix_cons.1 hp
       have e:(UInt8.ofNat (x % 128+128)).toNat=x % 128+128:=by rw [UInt8.toNat_ofNat'];omega
       rw [numF]
       split
       · rfl
       · rw [e,if_neg (by omega)]
         exact ih (x / 128) (by omega) (i+1) _ p (Nat.lt_of_le_of_lt (Nat.div_le_self _ _) hx) (by simpa using hl) hp2
theorem zlt {s t:Str} {k i n:Int} (h:three s=some (k,i,n,t)):s=sev (k+1).toNat++sev (i+1).toNat++sev (n+1).toNat++t:=by
 unfold three at h
 split at h
 · rename_i k' r1 h1
   split at h
   · rename_i i' r2 h2
     split at h
     · rename_i n' r3 h3
       simp only [jw,Prod.mk.injEq] at h;obtain⟨rfl,rfl,rfl,rfl⟩:=h;obtain⟨_,_,e1⟩:=RN h1;obtain⟨_,_,e2⟩:=RN h2;obtain⟨_,_,e3⟩:=RN h3;rw [e1,e2,e3];simp only [jo]
     · cases h
   · cases h
 · cases h
theorem zhh {k i n:Int} {t:Str} (hk: -1≤k∧k<34359738367) (hi: -1≤i∧i<34359738367) (hn: -1≤n∧n<34359738367):three (sev (k+1).toNat++sev (i+1).toNat++sev (n+1).toNat++t)=some (k,i,n,t):=by
 unfold three;rw [jo,jo,Ye hk.1 hk.2];simp only;rw [Ye hi.1 hi.2];simp only;rw [Ye hn.1 hn.2]
theorem zor {s r:Str} {e:Ent} (h:oneM s=some (e,r)):mayM e=true∧s=encB e++r:=by
 unfold oneM at h
 split at h
 · rename_i hx
   simp only [jw,Prod.mk.injEq] at h;obtain⟨rfl,rfl⟩:=h;unfold oneX at hx ⊢
   split at hx
   · rename_i n q hn
     split at hx
     · cases hx
     · rename_i hc
       rw [if_neg hc]
       split at hx
       · rename_i k i m t ht
         simp only [ht];refine⟨hx,?_⟩;obtain⟨_,_,e1⟩:=RN hn;have e2:=zlt ht
         have hl:(q.take n.toNat).length=n.toNat:=by rw [jv];omega
         have e3:enc3 ⟨k,i,m,t⟩=q.take n.toNat:=by rw [e2];rfl
         rw [encB,e3,hl,show n.toNat+1=(n+1).toNat by omega,jo,List.take_append_drop]
         exact e1
       · cases hx
   · cases hx
 · cases h
theorem zfv {e:Ent} (h:mayM e=true):(-1≤e.kind∧e.kind<34359738367)∧(-1≤e.id∧e.id<34359738367)∧(-1≤e.n∧e.n<34359738367)∧e.text.length<1048576:=by
 simp only [mayM,few,jK,decide_eq_true_eq] at h;omega
theorem zkT {e:Ent} (h:mayM e=true):(enc3 e).length<1048606:=by
 have:=zfv h;have h1:=xg (e.kind+1).toNat;have h2:=xg (e.id+1).toNat;have h3:=xg (e.n+1).toNat;simp only [enc3,jk];omega
theorem zlR {e:Ent} (r:Str) (h:mayM e=true):oneM (encB e++r)=some (e,r):=by
 have hl:=zkT h;obtain⟨h1,h2,h3,_⟩:=zfv h
 have hn:num (encB e++r)=(((enc3 e).length:Int),enc3 e++r,true):=by
  have:=Ye (v:=((enc3 e).length:Int)) (r:=enc3 e++r) (by omega) (by omega)
  rw [show(((enc3 e).length:Int)+1).toNat=(enc3 e).length+1 by omega] at this
  rw [encB,jo];exact this
 have hx:oneX (encB e++r)=(e,r,true):=by
  unfold oneX;rw [hn];simp only
  rw [if_neg (by rw [jk];omega),jJ,List.take_left' rfl,List.drop_left' rfl]
  have ht:three (enc3 e)=some (e.kind,e.id,e.n,e.text):=zhh h1 h2 h3;rw [ht];simp only;have:mayM ⟨e.kind,e.id,e.n,e.text⟩=true:=h;rw [this]
 rw [oneM,hx];rfl
theorem zop {e:Ent} {p:Str} (h:mayM e=true) (hp:p<+:encB e) (hl:p.length<(encB e).length):oneM p=none:=by
 have hlen:=zkT h;rw [encB] at hp hl;rw [jk] at hl
 rcases Nat.lt_or_ge p.length (sev ((enc3 e).length+1)).length with h1|h1
 · refine zoq ?_
   have hp2:p<+:sev ((enc3 e).length+1):=by
    obtain⟨t,ht⟩:=hp;have:=congrArg (List.take p.length) ht
    rw [List.take_left' rfl,List.take_append_of_le_length (by omega)] at this
    rw [this];exact List.take_prefix _ _
   exact zot _ 0 0 p (by omega) h1 hp2
 · obtain⟨t,ht⟩:=hp
   have e1:p=sev ((enc3 e).length+1)++p.drop (sev ((enc3 e).length+1)).length:=by
    have:=congrArg (List.take (sev ((enc3 e).length+1)).length) ht;rw [List.take_left' rfl,List.take_append_of_le_length h1] at this;rw [← this];rw [jv,Nat.min_eq_left h1,List.take_append_drop]
   have hn:=Ye (v:=((enc3 e).length:Int)) (r:=p.drop (sev ((enc3 e).length+1)).length) (by omega) (by omega)
   rw [show(((enc3 e).length:Int)+1).toNat=(enc3 e).length+1 by omega,← e1] at hn
   refine zrE (.inr ?_);rw [hn];simp only [jC];omega
def zG:List Ent→Str
 |[]=>[]
 |e::l=>encB e++zG l
theorem Zx (a b:List Ent):zG (a++b)=zG a++zG b:=by
 induction a with
 |nil=>rfl
 |cons e l ih=>simp [zG,ih,jo]
theorem zea: ∀ (f:Nat) (b:Str),b.length≤f→b=zG (dec b).1++(dec b).2∧∀ e ∈ (dec b).1,mayM e=true
 | f, b, hf=>by
   cases ho:oneM b with
   |none=>rw [zd8 ho];exact⟨rfl,fun e h=>by cases h⟩
   | some p=>
     obtain⟨e,r⟩:=p;obtain⟨h1,h2⟩:=zor ho;have hlt:=zdG ho
     cases f with
     |zero=>omega
     | succ f=>
       obtain⟨h3,h4⟩:=zea f r (by omega)
       rw [zd7 ho];refine⟨?_,fun x hx=> ?_⟩
       · simp only [zG]
         rw [jo,← h3];exact h2
       · cases hx with
         |head=>exact h1
         |tail _ h=>exact h4 x h
theorem torn: ∀ (l:List Ent) (k:Nat),(∀ e ∈ l,mayM e=true)→k≤(zG l).length→∃ W,W≤l.length∧(zG (l.take W)).length≤k∧(∀ j,j<l.length→((zG (l.take (j+1))).length≤k↔j<W))∧
  (dec ((zG l).take k)).1=l.take W∧(dec ((zG l).take k)).2.length+(zG (l.take W)).length=k
 | [],k,_,hk=>by
   have:k=0:=by simpa [zG] using hk
   subst this
   exact⟨0,jL _,jL _,fun j hj=>by simp at hj,rfl,rfl⟩
 | e :: l,k,hm,hk=>by
   have he:=hm e (List.mem_cons_self ..);simp only [zG,jk] at hk
   rcases Nat.lt_or_ge k (encB e).length with h1|h1
   · have ht:(zG (e::l)).take k=(encB e).take k:=by rw [zG,List.take_append_of_le_length (by omega)]
     have hl:((encB e).take k).length=k:=by rw [jv];omega
     have hn:=zop he (List.take_prefix k (encB e)) (by omega)
     rw [ht,zd8 hn]
     refine⟨0,jM _,jM _,fun j _=>⟨fun h=> ?_,fun h=>by omega⟩,rfl,by simp [zG,hl]⟩
     rw [List.take_succ_cons,zG,jk] at h;omega
   · obtain⟨W,a1,a2,a3,a4,a5⟩:=torn l (k - (encB e).length) (fun x hx=>hm x (List.mem_cons_of_mem _ hx)) (by omega)
     have ht:(zG (e::l)).take k=encB e++(zG l).take (k - (encB e).length):=by
      rw [zG,List.take_append,jq h1]
     rw [ht,zd7 (zlR _ he)]
     refine⟨W+1,by simp;omega,?_,fun j hj=> ?_,by simp [a4],?_⟩
     · rw [List.take_succ_cons,zG,jk];omega
     · rw [List.take_succ_cons,zG,jk]
       cases j with
       |zero=>simp [zG];omega
       | succ j=>
         have:=a3 j (by simpa using hj)
         omega
     · rw [List.take_succ_cons,zG,jk];simp only;omega
theorem zst {e:Ent} (h:mayM e=true):(encB e).length≤e.text.length+50:=by
 have h0:=xg ((enc3 e).length+1);have h1:=xg (e.kind+1).toNat;have h2:=xg (e.id+1).toNat;have h3:=xg (e.n+1).toNat;simp only [encB,enc3,jk] at h0 ⊢;omega
end Go.Jrn
namespace Go.Proofs.YtkjepecoodjbmaaGreatDoor
open Go Go.Sep Go.Ab Go.Jrn
def zfe (l:List Upl) (n:Int) (e:Ent):Int:=
 if e.kind=1 then(if creC l e.n e.text=0∧¬ n+1=e.id then 20 else creC l e.n e.text)
 else if e.kind=2 then appC l e.id (getU l e.id).bytes.length e.text
 else if e.kind=3 then decC l e.id e.n
 else if e.kind=4 then droC l e.id
 else if e.kind=5 then begC l e.id
 else endC l e.id
def zat (l:List Upl) (n:Int) (e:Ent):List Upl:=
 if e.kind=1 then creL l n e.n e.text
 else if e.kind=2 then appL l e.id (getU l e.id).bytes.length e.text
 else if e.kind=3 then decL l e.id e.n
 else if e.kind=4 then droL l e.id
 else if e.kind=5 then begL l e.id
 else endL l e.id
def Uo (l:List Upl) (n:Int) (e:Ent):Int:=if e.kind=1 then creN l n e.n e.text else n
theorem zoa {l:List Upl} {n:Int} (h:zJ l n) (e:Ent):zJ (zat l n e) (Uo l n e):=by
 unfold zat Uo
 split
 · exact zwv h _ _
 split
 · exact zwG h _ _ _
 split
 · exact zwr h _ _
 split
 · exact zwp h _
 split
 · exact zwD h _
 · exact zwn h _
theorem zjM (l:List Upl) (n:Int) (e:Ent):n≤Uo l n e∧Uo l n e≤n+1:=by
 unfold Uo creN
 split
 · split<;>omega
 · omega
def replay:List Upl × Int→List Ent→List Upl × Int
 |p,[]=>p
 |p,e::es=>replay (zat p.1 p.2 e,Uo p.1 p.2 e) es
theorem Uk: ∀ (a b:List Ent) (p:List Upl × Int),replay p (a++b)=replay (replay p a) b
 |[],_,_=>rfl
 |_::a,b,_=>Uk a b _
theorem WL: ∀ (es:List Ent) (p:List Upl × Int),zJ p.1 p.2→zJ (replay p es).1 (replay p es).2
 |[],_,h=>h
 |e::es,_,h=>WL es _ (zoa h e)
theorem Rz: ∀ (es:List Ent) (p:List Upl × Int),(replay p es).2≤p.2+es.length
 |[],_=>by simp [replay]
 | e::es,p=>by
   have:=Rz es (zat p.1 p.2 e,Uo p.1 p.2 e);have:=zjM p.1 p.2 e;simp only [replay,jh] at *;omega
theorem zhD {es:List Ent} {i:Nat} (p:List Upl × Int) (h:i<es.length):replay p (es.take (i+1))=(zat (replay p (es.take i)).1 (replay p (es.take i)).2 es[i],Uo (replay p (es.take i)).1 (replay p (es.take i)).2 es[i]):=by
 rw [jB h,Uk];rfl
def wrtC (l:List Upl) (n:Int) (b:Str) (e:Ent):Int:=
 if ¬ zfe l n e=0 then zfe l n e else if ¬ encC e=0 then encC e else wrC b (encM e)
def wrtL (l:List Upl) (n:Int) (b:Str) (e:Ent):List Upl:=if wrtC l n b e=0 then zat l n e else l
def wrtN (l:List Upl) (n:Int) (b:Str) (e:Ent):Int:=if wrtC l n b e=0 then Uo l n e else n
def wrtB (l:List Upl) (n:Int) (b:Str) (e:Ent):Str:=if wrtC l n b e=0 then b++encB e else b
theorem QD {l:List Upl} {n:Int} (h:zJ l n) (b:Str) (e:Ent):zJ (wrtL l n b e) (wrtN l n b e):=by
 unfold wrtL wrtN
 split
 · exact zoa h e
 · exact h
theorem zmB (l:List Upl) (n:Int) (b:Str) (e:Ent):n≤wrtN l n b e∧wrtN l n b e≤n+1:=by
 have:=zjM l n e;unfold wrtN
 split<;>omega
theorem zcV {l:List Upl} {n:Int} {b:Str} {e:Ent} (h:wrtC l n b e=0):zfe l n e=0∧mayM e=true∧b.length+(encB e).length≤100000:=by
 unfold wrtC at h
 split at h
 · rename_i h1;exact absurd h h1
 rename_i h1
 split at h
 · rename_i h2;exact absurd h h2
 rename_i h2
 have hm:mayM e=true:=by
  unfold encC at h2
  cases hm:mayM e with
  |true=>rfl
  |false=>rw [hm] at h2;simp at h2
 unfold wrC at h
 split at h
 · rename_i h3
   refine⟨Decidable.not_not.1 h1,hm,?_⟩;unfold encM at h3;rw [if_pos hm] at h3;exact h3
 · cases h
theorem qV {l:List Upl} {n:Int} {b:Str} (e:Ent) (h:b.length≤100000):(wrtB l n b e).length≤100000:=by
 unfold wrtB
 split
 · rename_i h1
   rw [jk];exact(zcV h1).2.2
 · exact h
def crsB (b:Str) (s k:Int):Str:=cuB (crB b s k) (QI (crB b s k))
def crsE (b:Str) (s k:Int):List Ent:=(Jrn.dec (crB b s k)).1
def crsP (b:Str) (s k:Int):List Upl × Int:=replay ([],0) (crsE b s k)
theorem ziN (b:Str):0≤QI b∧QI b≤b.length:=by
 have:=Jrn.zpS b;unfold QI;omega
theorem zsv (b:Str) (s k:Int):cuS (crB b s k) (crB b s k).length (QI (crB b s k))=(crsB b s k).length:=by
 have:=ziN (crB b s k);unfold crsB cuS cuB
 split
 · rw [jv];omega
 · rfl
theorem zee (b:Str) (s k:Int):(crB b s k).length≤b.length:=by unfold crB;rw [jv];omega
theorem zk0 (b:Str) (s k:Int):(crsB b s k).length≤b.length:=by
 have:=zee b s k;unfold crsB cuB
 split
 · rw [jv];omega
 · exact this
theorem zcO: ∀ {es:List Ent} {e:Ent},e ∈ es→(encB e).length≤(zG es).length
 | f::es,e,h=>by
   simp only [zG,jk]
   rcases List.mem_cons.1 h with rfl|h
   · omega
   · have:=zcO h;omega
theorem zsp (e:Ent):e.text.length≤(encB e).length:=by unfold encB enc3;simp only [jk];omega
theorem zms {b:Str} {s k:Int} (h:b.length≤100000):(crsE b s k).length≤100000∧∀ e ∈ crsE b s k,e.text.length≤100000:=by
 have h1:=zee b s k;have h2:=Jrn.zpS (crB b s k);have h3:=Jrn.zea _ (crB b s k) (jL _);have h4:=congrArg List.length h3.1;rw [jk] at h4;unfold crsE
 refine⟨by omega,fun e he=> ?_⟩
 have:=zcO he;have:=zsp e;omega
end Go.Proofs.YtkjepecoodjbmaaGreatDoor
namespace Go.Proofs.YtkjepecoodjbmaaGreatDoor
open Go Go.Sep Go.Ab Go.Jrn
set_option maxRecDepth 100000
def VW:Cfg:= { sl:=[⟨124,0,.upl,some 81⟩,⟨156,0,.byte,some 5⟩]}
def X3 (I:Alg):KU
 |[],[]=>some (.one ⟨I.hid (True),(.ret (.v (.one (.ptr 0 0)))),[.pack [.obj 54 [.ptr 1 0,.ptr 2 0],.pack [.obj 124 [.row 1,.p (.int .i64 0)],.row .upl 81 (I.hid ([]))],.pack [.obj 156 [.row 1,.p (.int .i64 0)],.row .byte 5 (I.hid ([]))]]]⟩)
 |_,_=>none
theorem zeK:zx Tryz.prog 12 (X3 alg):=by
 intro args hp r h;unfold X3 at h;split at h<;>cases h
 simp only [CT.Good,zh];intro _
 refine spH Tryz.func12 (by kernel_rfl) { VW with keep:=some [0]} [zht,zhs,zun,zum] (by kernel_rfl) ?_
 intro I X hI hX
 refine orcL ?_;go_invoke;refine orcS (by kernel_rfl) ?_
 simp only [zi,Nat.reduceAdd];subst hI;exact⟨trivial,trivial,trivial,rfl⟩
def zm6:Know Tryz.prog:=⟨12,X3,zeK⟩
def zm5:Know Tryz.prog:=⟨12,fun I=>zu I (X3 I),zf zeK⟩
def SB (I:Alg):KU
 |[.v (.one (.ptr 0 0)),.v (.agg [.p (.int .i64 k),.p (.int .i64 i),.p (.int .i64 m),.p (.list .byte t)])],[.pack [.obj 124 [.row 1,.p (.int .i64 n)],.row .upl 81 l]]=>(fun(l:List Upl) (t:Str)=>(some (.one ⟨I.hid (zJ l n∧n≤1000000∧t.length≤1000000),(.ret (.v (.one (.p (.int .i64 (I.hid (zfe l n ⟨k,i,m,t⟩))))))),[.pack [.obj 124 [.row 1,.p (.int .i64 (I.hid (Uo l n ⟨k,i,m,t⟩)))],.row .upl 81 (I.hid (zat l n ⟨k,i,m,t⟩))]]⟩):Option CT)) l t
 |_,_=>none
set_option maxHeartbeats 4000000 in
theorem ziZ:zx Tryz.prog 110 (SB alg):=by
 intro args hp r h;unfold SB at h;split at h<;>cases h
 rename_i k i m t n l
 revert l;intro(l:List Upl)
 simp only [CT.Good,zh];intro hneed;obtain⟨hs,hn,ht⟩:=hneed;generalize hc:zfe l n ⟨k,i,m,t⟩=c;generalize hl:zat l n ⟨k,i,m,t⟩=l';generalize hN:Uo l n ⟨k,i,m,t⟩=n'
 refine spH Tryz.func110 (by kernel_rfl) { VW with keep:=some [0,1,3,4,5,6,7,10]} [zlC,zlB,zlE,zlD,zhv,zhu,znv,znu,ztX,ztW,Zf,Ze,Xy,Xx,zq6,zq5] (by kernel_rfl) ?_
 intro I X hI hX
 refine orcL ?_;go_invoke;refine orcS (by kernel_rfl) ?_
 simp only [zi,Nat.reduceAdd];subst hI;simp only [nrmA,nrmB,nrlB,reduceCtorEq,HO.pack.injEq,HO.obj.injEq];unfold zfe at hc;unfold zat at hl;unfold Uo at hN;simp only at hc hl hN
 have hci:creC l m t=0→creI l n m t=n+1:=fun h=>by unfold creI;rw [if_pos h]
 (repeat' (first|refine ja ?_ ?_|intro _))<;>first|omega|exact jb|exact jc ‹False›|skip
 all_goals first
  |exact hs
  |exact hn
  |exact ht
  |exact⟨hs,hn,ht⟩
  |exact⟨hs,ht⟩
  |(have:=hci (by assumption);((repeat(first|rewrite [if_pos (by first|omega|assumption|(simp only [*,or_self,or_true,true_or,or_false,false_or,jf,jg,jd,je,and_self,and_true,true_and];done)|(simp only [*];omega)|(simp [*];done)|(simp [*];omega))] at hc|rewrite [if_neg (by first|omega|assumption|(simp only [*,or_self,or_true,true_or,or_false,false_or,jf,jg,jd,je,and_self,and_true,true_and];done)|(simp only [*];omega)|(simp [*];done)|(simp [*];omega))] at hc)));subst hc;((repeat(first|rewrite [if_pos (by first|omega|assumption|(simp only [*,or_self,or_true,true_or,or_false,false_or,jf,jg,jd,je,and_self,and_true,true_and];done)|(simp only [*];omega)|(simp [*];done)|(simp [*];omega))] at hl|rewrite [if_neg (by first|omega|assumption|(simp only [*,or_self,or_true,true_or,or_false,false_or,jf,jg,jd,je,and_self,and_true,true_and];done)|(simp only [*];omega)|(simp [*];done)|(simp [*];omega))] at hl)));subst hl;((repeat(first|rewrite [if_pos (by first|omega|assumption|(simp only [*,or_self,or_true,true_or,or_false,false_or,jf,jg,jd,je,and_self,and_true,true_and];done)|(simp only [*];omega)|(simp [*];done)|(simp [*];omega))] at hN|rewrite [if_neg (by first|omega|assumption|(simp only [*,or_self,or_true,true_or,or_false,false_or,jf,jg,jd,je,and_self,and_true,true_and];done)|(simp only [*];omega)|(simp [*];done)|(simp [*];omega))] at hN)));subst hN;first|rfl|omega)
  |(((repeat(first|rewrite [if_pos (by first|omega|assumption|(simp only [*,or_self,or_true,true_or,or_false,false_or,jf,jg,jd,je,and_self,and_true,true_and];done)|(simp only [*];omega)|(simp [*];done)|(simp [*];omega))] at hc|rewrite [if_neg (by first|omega|assumption|(simp only [*,or_self,or_true,true_or,or_false,false_or,jf,jg,jd,je,and_self,and_true,true_and];done)|(simp only [*];omega)|(simp [*];done)|(simp [*];omega))] at hc)));subst hc;((repeat(first|rewrite [if_pos (by first|omega|assumption|(simp only [*,or_self,or_true,true_or,or_false,false_or,jf,jg,jd,je,and_self,and_true,true_and];done)|(simp only [*];omega)|(simp [*];done)|(simp [*];omega))] at hl|rewrite [if_neg (by first|omega|assumption|(simp only [*,or_self,or_true,true_or,or_false,false_or,jf,jg,jd,je,and_self,and_true,true_and];done)|(simp only [*];omega)|(simp [*];done)|(simp [*];omega))] at hl)));subst hl;((repeat(first|rewrite [if_pos (by first|omega|assumption|(simp only [*,or_self,or_true,true_or,or_false,false_or,jf,jg,jd,je,and_self,and_true,true_and];done)|(simp only [*];omega)|(simp [*];done)|(simp [*];omega))] at hN|rewrite [if_neg (by first|omega|assumption|(simp only [*,or_self,or_true,true_or,or_false,false_or,jf,jg,jd,je,and_self,and_true,true_and];done)|(simp only [*];omega)|(simp [*];done)|(simp [*];omega))] at hN)));subst hN;first|rfl|omega)
def zdc:Know Tryz.prog:=⟨110,SB,ziZ⟩
def zdb:Know Tryz.prog:=⟨110,fun I=>zu I (SB I),zf ziZ⟩
def qY (I:Alg):KU
 |[.v (.one (.ptr 0 0)),.v (.agg [.p (.int .i64 k),.p (.int .i64 i),.p (.int .i64 m),.p (.list .byte t)])],[.pack [.obj 54 [.ptr 1 0,.ptr 2 0],.pack [.obj 124 [.row 1,.p (.int .i64 n)],.row .upl 81 l],.pack [.obj 156 [.row 1,.p (.int .i64 s)],.row .byte 5 b]]]=>(fun(l:List Upl) (b t:Str)=>(some (.one ⟨I.hid (zJ l n∧n≤200000∧t.length≤1000000∧b.length≤100000),(.ret (.v (.one (.p (.int .i64 (I.hid (wrtC l n b ⟨k,i,m,t⟩))))))),[.pack [.obj 54 [.ptr 1 0,.ptr 2 0],.pack [.obj 124 [.row 1,.p (.int .i64 (I.hid (wrtN l n b ⟨k,i,m,t⟩)))],.row .upl 81 (I.hid (wrtL l n b ⟨k,i,m,t⟩))],.pack [.obj 156 [.row 1,.p (.int .i64 s)],.row .byte 5 (I.hid (wrtB l n b ⟨k,i,m,t⟩))]]]⟩):Option CT)) l b t
 |_,_=>none
set_option maxHeartbeats 4000000 in
theorem QV:zx Tryz.prog 105 (qY alg):=by
 intro args hp r h;unfold qY at h;split at h<;>cases h
 rename_i k i m t n l s b
 revert l;intro(l:List Upl)
 simp only [CT.Good,zh];intro hneed;obtain⟨hs,hn,ht,hb⟩:=hneed;generalize hc:wrtC l n b ⟨k,i,m,t⟩=c;generalize hl:wrtL l n b ⟨k,i,m,t⟩=l';generalize hN:wrtN l n b ⟨k,i,m,t⟩=n';generalize hB:wrtB l n b ⟨k,i,m,t⟩=b'
 refine spH Tryz.func105 (by kernel_rfl) { VW with keep:=some [0,1,3,4,5,6,7,8]} [zq8,zq7,zpM,zpL,zqz,zqy,zdc,zdb] (by kernel_rfl) ?_
 intro I X hI hX
 refine orcL ?_;go_invoke;refine orcS (by kernel_rfl) ?_
 simp only [zi,Nat.reduceAdd];subst hI;simp only [nrmA,nrmB,nrlB,reduceCtorEq,HO.pack.injEq,HO.obj.injEq]
 have hel:(encM ⟨k,i,m,t⟩).length≤2000000:=by
  unfold encM
  split
  · rename_i h
    have:=zst h;simp only at this;omega
  · simp
 generalize he:(⟨k,i,m,t⟩:Ent)=e at *
 have hem:encC e=0→encM e=encB e:=fun h=>by
  unfold encC at h;unfold encM
  split at h
  · rename_i h2;rw [if_pos h2]
  · cases h
 have hw0: ∀ x:Str,wrC b x=0→wrB b x=b++x:=fun x h=>by
  unfold wrC at h;unfold wrB
  split at h
  · rename_i h2;rw [if_pos h2]
  · cases h
 have hw1: ∀ x:Str,¬ wrC b x=0→wrB b x=b:=fun x h=>by
  unfold wrC at h;unfold wrB
  split at h
  · exact absurd rfl h
  · rename_i h2;rw [if_neg h2]
 unfold wrtL at hl;unfold wrtN at hN;unfold wrtB at hB;rw [hc] at hl hN hB;unfold wrtC at hc
 (repeat' (first|refine ja ?_ ?_|intro _))<;>first|omega|exact jb|exact jc ‹False›|skip
 all_goals first
  |exact hs
  |(((repeat(first|rewrite [if_pos (by first|omega|assumption|(simp only [*,or_self,or_true,true_or,or_false,false_or,jf,jg,jd,je,and_self,and_true,true_and];done)|(simp only [*];omega)|(simp [*];done)|(simp [*];omega))] at hc|rewrite [if_neg (by first|omega|assumption|(simp only [*,or_self,or_true,true_or,or_false,false_or,jf,jg,jd,je,and_self,and_true,true_and];done)|(simp only [*];omega)|(simp [*];done)|(simp [*];omega))] at hc)));subst hc;((repeat(first|rewrite [if_pos (by first|omega|assumption|(simp only [*,or_self,or_true,true_or,or_false,false_or,jf,jg,jd,je,and_self,and_true,true_and];done)|(simp only [*];omega)|(simp [*];done)|(simp [*];omega))] at hl|rewrite [if_neg (by first|omega|assumption|(simp only [*,or_self,or_true,true_or,or_false,false_or,jf,jg,jd,je,and_self,and_true,true_and];done)|(simp only [*];omega)|(simp [*];done)|(simp [*];omega))] at hl)));subst hl;((repeat(first|rewrite [if_pos (by first|omega|assumption|(simp only [*,or_self,or_true,true_or,or_false,false_or,jf,jg,jd,je,and_self,and_true,true_and];done)|(simp only [*];omega)|(simp [*];done)|(simp [*];omega))] at hN|rewrite [if_neg (by first|omega|assumption|(simp only [*,or_self,or_true,true_or,or_false,false_or,jf,jg,jd,je,and_self,and_true,true_and];done)|(simp only [*];omega)|(simp [*];done)|(simp [*];omega))] at hN)));subst hN;((repeat(first|rewrite [if_pos (by first|omega|assumption|(simp only [*,or_self,or_true,true_or,or_false,false_or,jf,jg,jd,je,and_self,and_true,true_and];done)|(simp only [*];omega)|(simp [*];done)|(simp [*];omega))] at hB|rewrite [if_neg (by first|omega|assumption|(simp only [*,or_self,or_true,true_or,or_false,false_or,jf,jg,jd,je,and_self,and_true,true_and];done)|(simp only [*];omega)|(simp [*];done)|(simp [*];omega))] at hB)));subst hB;first|rfl|omega|exact hw1 _ (by assumption)|(rw [hw0 _ (by assumption),hem (by assumption)]))
def vS:Know Tryz.prog:=⟨105,qY,QV⟩
def vP:Know Tryz.prog:=⟨105,fun I=>zu I (qY I),zf QV⟩
def rH (I:Alg):KU
 |[.v (.one (.ptr 0 0)),.v (.one (.p (.int .i64 size))),.v (.one (.p (.str t)))],[.pack [.obj 54 [.ptr 1 0,.ptr 2 0],.pack [.obj 124 [.row 1,.p (.int .i64 n)],.row .upl 81 l],.pack [.obj 156 [.row 1,.p (.int .i64 s)],.row .byte 5 b]]]=>(fun(l:List Upl) (b t:Str)=>(some (.one ⟨I.hid (zJ l n∧n≤200000∧t.length≤1000000∧b.length≤100000),(.ret (.tup [(.one (.p (.int .i64 (I.hid (if wrtC l n b ⟨1,n+1,size,t⟩=0 then n+1 else 0))))),.one (.p (.int .i64 (I.hid (wrtC l n b ⟨1,n+1,size,t⟩))))])),[.pack [.obj 54 [.ptr 1 0,.ptr 2 0],.pack [.obj 124 [.row 1,.p (.int .i64 (I.hid (wrtN l n b ⟨1,n+1,size,t⟩)))],.row .upl 81 (I.hid (wrtL l n b ⟨1,n+1,size,t⟩))],.pack [.obj 156 [.row 1,.p (.int .i64 s)],.row .byte 5 (I.hid (wrtB l n b ⟨1,n+1,size,t⟩))]]]⟩):Option CT)) l b t
 |_,_=>none
theorem U4:zx Tryz.prog 180 (rH alg):=by
 intro args hp r h;unfold rH at h;split at h<;>cases h
 rename_i size t n l s b
 revert l;intro(l:List Upl)
 simp only [CT.Good,zh];intro hneed;have hn0:=hneed.1.n0
 refine spH Tryz.func180 (by kernel_rfl) { VW with keep:=some [0,1,2,6,7,8,9]} [zq4,zq3,vS,vP] (by kernel_rfl) ?_
 intro I X hI hX
 refine orcL ?_;go_invoke;refine orcS (by kernel_rfl) ?_
 simp only [zi,Nat.reduceAdd];subst hI;simp only [nrmA,nrmB,nrlB,reduceCtorEq,HO.pack.injEq,HO.obj.injEq]
 exact⟨⟨hn0,by omega⟩,hneed,fun h=>(if_neg h).symm,fun h=>⟨(if_pos h).symm,h.symm⟩⟩
def U3:Know Tryz.prog:=⟨180,rH,U4⟩
def U2:Know Tryz.prog:=⟨180,fun I=>zu I (rH I),zf U4⟩
def apG (l:List Upl) (id off:Int):Bool:=getB l id&&(decide ((getU l id).sent=0)&& !decide (off=(getU l id).bytes.length))
def apE (id:Int) (x:Str):Ent:=⟨2,id,0,x⟩
def rJ (I:Alg):KU
 |[.v (.one (.ptr 0 0)),.v (.one (.p (.int .i64 id))),.v (.one (.p (.int .i64 off))),.v (.one (.p (.list .byte x)))],[.pack [.obj 54 [.ptr 1 0,.ptr 2 0],.pack [.obj 124 [.row 1,.p (.int .i64 n)],.row .upl 81 l],.pack [.obj 156 [.row 1,.p (.int .i64 s)],.row .byte 5 b]]]=>(fun(l:List Upl) (b x:Str)=>(some (.one ⟨I.hid (zJ l n∧n≤200000∧x.length≤1000000∧b.length≤100000),(.ret (.v (.one (.p (.int .i64 (I.hid (if apG l id off then 17 else wrtC l n b ⟨2,id,0,x⟩))))))),[.pack [.obj 54 [.ptr 1 0,.ptr 2 0],.pack [.obj 124 [.row 1,(.p (.int .i64 (I.hid (if apG l id off then n else wrtN l n b ⟨2,id,0,x⟩))))],.row .upl 81 (I.hid (if apG l id off then l else wrtL l n b ⟨2,id,0,x⟩))],.pack [.obj 156 [.row 1,.p (.int .i64 s)],.row .byte 5 (I.hid (if apG l id off then b else wrtB l n b ⟨2,id,0,x⟩))]]]⟩):Option CT)) l b x
 |_,_=>none
theorem U5:zx Tryz.prog 185 (rJ alg):=by
 intro args hp r h;unfold rJ at h;split at h<;>cases h
 rename_i id off x n l s b
 revert l;intro(l:List Upl)
 simp only [CT.Good,zh];intro hneed;generalize hg:apG l id off=g
 refine spH Tryz.func185 (by kernel_rfl) { VW with keep:=some [0,1,2,3,8,9,10]} [Zf,Ze,Xy,Xx,vS,vP] (by kernel_rfl) ?_
 intro I X hI hX
 refine orcL ?_;go_invoke;refine orcS (by kernel_rfl) ?_
 simp only [zi,Nat.reduceAdd];subst hI;simp only [nrmA,nrmB,nrlB,reduceCtorEq,HO.pack.injEq,HO.obj.injEq]
 (repeat' (first|refine ja ?_ ?_|intro _))<;>first|omega|exact jb|exact jc ‹False›|skip
 all_goals first
  |exact hneed.1
  |exact hneed
  |exact hneed.2.1
  |exact hneed.2.2.1
  |exact hneed.2.2.2
  |(have h:g=true:=(by rw [← hg];unfold apG;simp [*]);subst h;rfl)
  |(have h:g=false:=(by rw [← hg];unfold apG;simp [*]);subst h;rfl)
def yV:Know Tryz.prog:=⟨185,rJ,U5⟩
def yU:Know Tryz.prog:=⟨185,fun I=>zu I (rJ I),zf U5⟩
def tq (I:Alg):KU
 |[.v (.one (.ptr 0 0)),.v (.one (.p (.int .i64 id))),.v (.one (.p (.int .i64 size)))],[.pack [.obj 54 [.ptr 1 0,.ptr 2 0],.pack [.obj 124 [.row 1,.p (.int .i64 n)],.row .upl 81 l],.pack [.obj 156 [.row 1,.p (.int .i64 s)],.row .byte 5 b]]]=>(fun(l:List Upl) (b:Str)=>(some (.one ⟨I.hid (zJ l n∧n≤200000∧b.length≤100000),(.ret (.v (.one (.p (.int .i64 (I.hid (wrtC l n b ⟨3,id,size,[]⟩))))))),[.pack [.obj 54 [.ptr 1 0,.ptr 2 0],.pack [.obj 124 [.row 1,.p (.int .i64 (I.hid (wrtN l n b ⟨3,id,size,[]⟩)))],.row .upl 81 (I.hid (wrtL l n b ⟨3,id,size,[]⟩))],.pack [.obj 156 [.row 1,.p (.int .i64 s)],.row .byte 5 (I.hid (wrtB l n b ⟨3,id,size,[]⟩))]]]⟩):Option CT)) l b
 |_,_=>none
theorem X5:zx Tryz.prog 186 (tq alg):=by
 intro args hp r h;unfold tq at h;split at h<;>cases h
 rename_i id size n l s b
 revert l;intro(l:List Upl)
 simp only [CT.Good,zh];intro hneed
 refine spH Tryz.func186 (by kernel_rfl) { VW with keep:=some [0,1,2,6]} [vS,vP] (by kernel_rfl) ?_
 intro I X hI hX
 refine orcL ?_;go_invoke;refine orcS (by kernel_rfl) ?_
 simp only [zi,Nat.reduceAdd];subst hI;simp only [nrmA,nrmB,nrlB,reduceCtorEq,HO.pack.injEq,HO.obj.injEq]
 exact⟨hneed.1,hneed.2.1,by decide,hneed.2.2⟩
def yT:Know Tryz.prog:=⟨186,tq,X5⟩
def yS:Know Tryz.prog:=⟨186,fun I=>zu I (tq I),zf X5⟩
def YG (I:Alg):KU
 |[.v (.one (.ptr 0 0)),.v (.one (.p (.int .i64 id)))],[.pack [.obj 54 [.ptr 1 0,.ptr 2 0],.pack [.obj 124 [.row 1,.p (.int .i64 n)],.row .upl 81 l],.pack [.obj 156 [.row 1,.p (.int .i64 s)],.row .byte 5 b]]]=>(fun(l:List Upl) (b:Str)=>(some (.one ⟨I.hid (zJ l n∧n≤200000∧b.length≤100000),(.ret (.v (.one (.p (.int .i64 (I.hid (wrtC l n b ⟨4,id,0,[]⟩))))))),[.pack [.obj 54 [.ptr 1 0,.ptr 2 0],.pack [.obj 124 [.row 1,.p (.int .i64 (I.hid (wrtN l n b ⟨4,id,0,[]⟩)))],.row .upl 81 (I.hid (wrtL l n b ⟨4,id,0,[]⟩))],.pack [.obj 156 [.row 1,.p (.int .i64 s)],.row .byte 5 (I.hid (wrtB l n b ⟨4,id,0,[]⟩))]]]⟩):Option CT)) l b
 |_,_=>none
theorem zbJ:zx Tryz.prog 134 (YG alg):=by
 intro args hp r h;unfold YG at h;split at h<;>cases h
 rename_i id n l s b
 revert l;intro(l:List Upl)
 simp only [CT.Good,zh];intro hneed
 refine spH Tryz.func134 (by kernel_rfl) { VW with keep:=some [0,1,4]} [vS,vP] (by kernel_rfl) ?_
 intro I X hI hX
 refine orcL ?_;go_invoke;refine orcS (by kernel_rfl) ?_
 simp only [zi,Nat.reduceAdd];subst hI;simp only [nrmA,nrmB,nrlB,reduceCtorEq,HO.pack.injEq,HO.obj.injEq]
 exact⟨hneed.1,hneed.2.1,by decide,hneed.2.2⟩
def xP:Know Tryz.prog:=⟨134,YG,zbJ⟩
def xO:Know Tryz.prog:=⟨134,fun I=>zu I (YG I),zf zbJ⟩
def Za (I:Alg):KU
 |[.v (.one (.ptr 0 0)),.v (.one (.p (.int .i64 id)))],[.pack [.obj 54 [.ptr 1 0,.ptr 2 0],.pack [.obj 124 [.row 1,.p (.int .i64 n)],.row .upl 81 l],.pack [.obj 156 [.row 1,.p (.int .i64 s)],.row .byte 5 b]]]=>(fun(l:List Upl) (b:Str)=>(some (.one ⟨I.hid (zJ l n∧n≤200000∧b.length≤100000),(.ret (.v (.one (.p (.int .i64 (I.hid (wrtC l n b ⟨5,id,0,[]⟩))))))),[.pack [.obj 54 [.ptr 1 0,.ptr 2 0],.pack [.obj 124 [.row 1,.p (.int .i64 (I.hid (wrtN l n b ⟨5,id,0,[]⟩)))],.row .upl 81 (I.hid (wrtL l n b ⟨5,id,0,[]⟩))],.pack [.obj 156 [.row 1,.p (.int .i64 s)],.row .byte 5 (I.hid (wrtB l n b ⟨5,id,0,[]⟩))]]]⟩):Option CT)) l b
 |_,_=>none
theorem QX:zx Tryz.prog 102 (Za alg):=by
 intro args hp r h;unfold Za at h;split at h<;>cases h
 rename_i id n l s b
 revert l;intro(l:List Upl)
 simp only [CT.Good,zh];intro hneed
 refine spH Tryz.func102 (by kernel_rfl) { VW with keep:=some [0,1,4]} [vS,vP] (by kernel_rfl) ?_
 intro I X hI hX
 refine orcL ?_;go_invoke;refine orcS (by kernel_rfl) ?_
 simp only [zi,Nat.reduceAdd];subst hI;simp only [nrmA,nrmB,nrlB,reduceCtorEq,HO.pack.injEq,HO.obj.injEq]
 exact⟨hneed.1,hneed.2.1,by decide,hneed.2.2⟩
def zhn:Know Tryz.prog:=⟨102,Za,QX⟩
def zhm:Know Tryz.prog:=⟨102,fun I=>zu I (Za I),zf QX⟩
def X4 (I:Alg):KU
 |[.v (.one (.ptr 0 0)),.v (.one (.p (.int .i64 id)))],[.pack [.obj 54 [.ptr 1 0,.ptr 2 0],.pack [.obj 124 [.row 1,.p (.int .i64 n)],.row .upl 81 l],.pack [.obj 156 [.row 1,.p (.int .i64 s)],.row .byte 5 b]]]=>(fun(l:List Upl) (b:Str)=>(some (.one ⟨I.hid (zJ l n∧n≤200000∧b.length≤100000),(.ret (.v (.one (.p (.int .i64 (I.hid (wrtC l n b ⟨6,id,0,[]⟩))))))),[.pack [.obj 54 [.ptr 1 0,.ptr 2 0],.pack [.obj 124 [.row 1,.p (.int .i64 (I.hid (wrtN l n b ⟨6,id,0,[]⟩)))],.row .upl 81 (I.hid (wrtL l n b ⟨6,id,0,[]⟩))],.pack [.obj 156 [.row 1,.p (.int .i64 s)],.row .byte 5 (I.hid (wrtB l n b ⟨6,id,0,[]⟩))]]]⟩):Option CT)) l b
 |_,_=>none
theorem zeL:zx Tryz.prog 61 (X4 alg):=by
 intro args hp r h;unfold X4 at h;split at h<;>cases h
 rename_i id n l s b
 revert l;intro(l:List Upl)
 simp only [CT.Good,zh];intro hneed
 refine spH Tryz.func61 (by kernel_rfl) { VW with keep:=some [0,1,4]} [vS,vP] (by kernel_rfl) ?_
 intro I X hI hX
 refine orcL ?_;go_invoke;refine orcS (by kernel_rfl) ?_
 simp only [zi,Nat.reduceAdd];subst hI;simp only [nrmA,nrmB,nrlB,reduceCtorEq,HO.pack.injEq,HO.obj.injEq]
 exact⟨hneed.1,hneed.2.1,by decide,hneed.2.2⟩
def zm8:Know Tryz.prog:=⟨61,X4,zeL⟩
def zm7:Know Tryz.prog:=⟨61,fun I=>zu I (X4 I),zf zeL⟩
def YE (I:Alg):KU
 |[.v (.one (.ptr 0 0))],[.pack [.obj 54 [.ptr 1 0,.ptr 2 0],.pack [.obj 124 [.row 1,.p (.int .i64 n)],.row .upl 81 l],.pack [.obj 156 [.row 1,.p (.int .i64 s)],.row .byte 5 b]]]=>(fun(l:List Upl) (b:Str)=>(some (.one ⟨I.hid (True),(.ret (.tup [])),[.pack [.obj 54 [.ptr 1 0,.ptr 2 0],.pack [.obj 124 [.row 1,.p (.int .i64 n)],.row .upl 81 l],.pack [.obj 156 [.row 1,.p (.int .i64 (I.hid (b.length:Int)))],.row .byte 5 b]]]⟩):Option CT)) l b
 |_,_=>none
theorem zbH:zx Tryz.prog 62 (YE alg):=by
 intro args hp r h;unfold YE at h;split at h<;>cases h
 rename_i n l s b
 revert l;intro(l:List Upl)
 simp only [CT.Good,zh];intro _
 refine spH Tryz.func62 (by kernel_rfl) { VW with keep:=some [0]} [zm1,zm0] (by kernel_rfl) ?_
 intro I X hI hX
 refine orcL ?_;go_invoke;refine orcS (by kernel_rfl) ?_
 simp only [zi,Nat.reduceAdd];subst hI;simp only [nrmA,nrmB,nrlB,reduceCtorEq,HO.pack.injEq,HO.obj.injEq]
 try trivial
def zL:Know Tryz.prog:=⟨62,YE,zbH⟩
def zK:Know Tryz.prog:=⟨62,fun I=>zu I (YE I),zf zbH⟩
def qZ (I:Alg):KU
 |[.v (.one (.ptr 0 0)),.v (.one (.p (.int .i64 keep)))],[.pack [.obj 54 [.ptr 1 0,.ptr 2 0],.pack [.obj 124 [.row 1,.p (.int .i64 n)],.row .upl 81 l],.pack [.obj 156 [.row 1,.p (.int .i64 s)],.row .byte 5 b]]]=>(fun(l:List Upl) (b:Str)=>(some (.one ⟨I.hid (b.length≤100000∧0≤s∧s≤b.length),(.ret (.tup [])),[.pack [.obj 54 [.ptr 1 0,.ptr 2 0],.pack [.obj 124 [.row 1,.p (.int .i64 (I.hid ((crsP b s keep).2)))],.row .upl 81 (I.hid ((crsP b s keep).1))],.pack [.obj 156 [.row 1,.p (.int .i64 (I.hid ((crsB b s keep).length:Int)))],.row .byte 5 (I.hid (crsB b s keep))]]]⟩):Option CT)) l b
 |_,_=>none
set_option maxHeartbeats 4000000 in
theorem QW:zx Tryz.prog 63 (qZ alg):=by
 intro args hp r h;unfold qZ at h;split at h<;>cases h
 rename_i keep n l s b
 revert l;intro(l:List Upl)
 simp only [CT.Good,zh];intro hneed;obtain⟨hb,hs0,hs1⟩:=hneed;have h1:=zsv b s keep;have h2:=zee b s keep;have h3:=zms (s:=s) (k:=keep) hb;have h4:=ziN (crB b s keep);unfold crsP;generalize hP:replay ([],0) (crsE b s keep)=pq;generalize hB:((crsB b s keep).length:Int)=bl at *
 refine spH Tryz.func63 (by kernel_rfl) { VW with fz:=[108],keep:=some [0,1,4,5,7,33,34,35]} [zht,zhs,zgP,zgO,zlf,zle,zk2,zk1,zpV,zpU,zdc,zdb] (by kernel_rfl) ?_
 intro I X hI hX
 refine orcL ?_;go_invoke;refine orcS (by kernel_rfl) ?_
 simp only [zi,Nat.reduceAdd]
 have hh: ∀ {α:Type} (x:α),I.hid x=x:=by subst hI;intros;rfl
 simp only [hh];unfold crsB at *;unfold crsE at *;rw [h1];generalize hb1:crB b s keep=b1 at *;generalize hu:QI b1=u at *;generalize hb2:cuB b1 u=b2 at *;generalize hes:(Jrn.dec b1).1=es at *
 refine⟨⟨hb,hs0,hs1⟩,by omega,by omega,⟨by omega,by omega,by omega⟩,trivial,?_⟩
 refine lpH hI [zht,zhs,zgP,zgO,zlf,zle,zk2,zk1,zpV,zpU,zdc,zdb] hX [0,33,34,35] (fun(k:Nat)=>k≤es.length) (fun(k:Nat)=>⟨[(0,.v (.one (.ptr 0 0))),(33,.v (.one (.row 1))),(34,.v (.one (.p (.int .i64 ((I.len (α:=Ent) es)))))),(35,.v (.one (.p (.int .i64 k))))],[.pack [.obj 54 [.ptr 1 0,.ptr 2 0],.pack [.obj 124 [.row 1,.p (.int .i64 ((replay ([],0) (es.take k)).2))],.row .upl 81 ((replay ([],0) (es.take k)).1)],.pack [.obj 156 [.row 1,.p (.int .i64 bl)],.row .byte 5 b2]],.row .ent 182 es],46,none⟩) (fun(k:Nat)=>es.length - k) 0 (by kernel_rfl) (by kernel_rfl) ?_ ?_
 · exact jM _
 rintro k hk A hA;have ho:=WL (es.take k) ([],0) Q7;have hn:=Rz (es.take k) ([],0);generalize hp:replay ([],0) (es.take k)=p at *
 refine orcL ?_;go_invoke;refine orcS (by kernel_rfl) ?_
 simp only [zi,Nat.reduceAdd];subst hI;simp only [nrmA,nrmB,nrlB,reduceCtorEq]
 have hnk:p.2≤200000:=by
  have:(es.take k).length≤es.length:=by rw [jv];omega
  have h30:=h3.1;simp only at hn;omega
 refine⟨fun c=>⟨⟨by omega,by omega⟩,⟨by omega,by omega⟩,⟨ho,by omega,?_⟩,⟨by omega,by omega⟩,?_⟩,fun c=> ?_⟩
 · rw [show es.getD k ⟨0,0,0,[]⟩=es[k]'(by omega) by simp [show k<es.length by omega]]
   have:=h3.2 _ (List.getElem_mem (l:=es) (n:=k) (by omega))
   omega
 · have hA:=hA (k+1) (by omega) (by omega)
   rw [zhD _ (by omega),hp] at hA
   have hx:es.getD k ⟨0,0,0,[]⟩=es[k]'(by omega):=by simp [show k<es.length by omega]
   rw [hx];exact hA
 · rw [jq (by omega)] at hp
   rw [← hp,hP]
def zhl:Know Tryz.prog:=⟨63,qZ,QW⟩
def zhk:Know Tryz.prog:=⟨63,fun I=>zu I (qZ I),zf QW⟩
end Go.Proofs.YtkjepecoodjbmaaGreatDoor
namespace Go.Proofs.YtkjepecoodjbmaaGreatDoor
open Go Go.Sep Go.Ab
set_option maxRecDepth 100000
end Go.Proofs.YtkjepecoodjbmaaGreatDoor
namespace Go.Proofs.YtkjepecoodjbmaaGreatDoor
open Go Go.Sep Go.Ab
set_option maxRecDepth 100000
theorem zhc {a b:Upl} (h1:a.id=b.id) (h2:a.size=b.size) (h3:a.note=b.note) (h4:a.sent=b.sent) (h5:a.bytes=b.bytes):a=b:=by
 cases a;cases b;simp_all
theorem Zp {l m:List Upl} {i:Nat} (h1:i<l.length) (h2:i<m.length):(decide (l.drop i=m.drop i))=(decide (l.getD i ⟨0,0,[],[],0⟩=m.getD i ⟨0,0,[],[],0⟩)&&decide (l.drop (i+1)=m.drop (i+1))):=by
 have e1:l.getD i ⟨0,0,[],[],0⟩=l[i]:=by simp [h1]
 have e2:m.getD i ⟨0,0,[],[],0⟩=m[i]:=by simp [h2]
 rw [e1,e2,Bool.eq_iff_iff,jK,decide_eq_true_iff,decide_eq_true_iff,decide_eq_true_iff,jE h1,jE h2,List.cons.injEq]
def SX (I:Alg):KU
 |[.v (.one (.row 0)),.v (.one (.row 1))],[.row .upl 81 l,.row .upl 81 m]=>(fun(l m:List Upl)=>(some (.one ⟨I.hid (l.length≤1000000∧m.length≤1000000),(.ret (.v (.one (.p (.bool (I.hid (decide (l=m)))))))),[.row .upl 81 l,.row .upl 81 m]⟩):Option CT)) l m
 |_,_=>none
set_option maxHeartbeats 4000000 in
theorem zjh:zx Tryz.prog 16 (SX alg):=by
 intro args hp r h;unfold SX at h;split at h<;>cases h
 rename_i l m
 revert l m;intro(l:List Upl) (m:List Upl)
 simp only [CT.Good,zh];intro hneed;obtain⟨hl,hm⟩:=hneed;generalize hr:decide (l=m)=r
 refine spH Tryz.func16 (by kernel_rfl) { keep:=some [0,1,4,5]} [wX,wW] (by kernel_rfl) ?_
 intro I X hI hX
 refine orcL ?_;go_invoke;refine orcS (by kernel_rfl) ?_
 simp only [zi,Nat.reduceAdd];refine⟨fun c1=> ?_,fun c1=> ?_⟩
 · subst hI
   simp only [nrmA,nrmB] at c1;simp only [nrmA,nrmB];rw [← hr]
   exact(decide_eq_false fun e=>c1 (by rw [e])).symm
 have hlm:l.length=m.length:=by
  subst hI;simp only [nrmA,nrmB] at c1;omega
 refine lpH hI [wX,wW] hX [0,1,5] (fun(i:Nat)=>i≤l.length∧r=decide (l.drop i=m.drop i)) (fun(i:Nat)=>⟨[(0,.v (.one (.row 0))),(1,.v (.one (.row 1))),(5,.v (.one (.p (.int .i64 i))))],[.row .upl 81 l,.row .upl 81 m],81,none⟩) (fun(i:Nat)=>l.length - i) 0 (by kernel_rfl) (by kernel_rfl) ?_ ?_
 · exact⟨jM _,hr.symm⟩
 rintro i ⟨h1,h2⟩ A hA
 refine orcL ?_;go_invoke;refine orcS (by kernel_rfl) ?_
 simp only [zi,Nat.reduceAdd];subst hI;simp only [nrmA,nrmB,nrlB,reduceCtorEq]
 have hd:i<l.length→_:=fun h=>Zp (l:=l) (m:=m) (i:=i) h (by omega)
 have hend: ¬ i<l.length→r=true:=fun h=>by
  rw [h2,jF (by omega),jF (by omega)];simp
 generalize l.getD i ⟨0,0,[],[],0⟩=x at *;generalize m.getD i ⟨0,0,[],[],0⟩=y at *
 have hx: ¬ x=y→i<l.length→r=false:=fun h hi=>by rw [h2,hd hi,decide_eq_false h,Bool.false_and]
 have hy:x=y→i<l.length→r=decide (l.drop (i+1)=m.drop (i+1)):=fun h hi=>by rw [h2,hd hi,decide_eq_true h,Bool.true_and]
 (repeat' (first|refine ja ?_ ?_|intro _))<;>first|omega|exact jb|exact jc ‹False›|skip
 all_goals first
  |(exact(hx (by rintro rfl;simp_all) (by omega)).symm)
  |(rw [hx (by rintro rfl;simp_all) (by omega)])
  |exact hA (i+1) ⟨by omega,hy (zhc (by assumption) (by assumption) (by assumption) (by assumption) (by assumption)) (by omega)⟩ (by omega)
  |(rw [hend (by omega)])
  |omega
def Zd:Know Tryz.prog:=⟨16,SX,zjh⟩
def Zc:Know Tryz.prog:=⟨16,fun I=>zu I (SX I),zf zjh⟩
def Wh (I:Alg):KU
 |[.v (.one (.row 0)),.v (.one (.sub .upl 1 a b))],[.row .upl 81 l,.row .upl 81 m]=>(fun(l m:List Upl)=>(some (.one ⟨I.hid (l.length≤1000000∧m.length≤1000000∧0≤a∧a≤b∧b≤m.length),(.ret (.v (.one (.p (.bool (I.hid (decide (l=(m.drop a.toNat).take (b.toNat - a.toNat))))))))),[.row .upl 81 l,.row .upl 81 m]⟩):Option CT)) l m
 |_,_=>none
set_option maxHeartbeats 4000000 in
theorem zeW:zx Tryz.prog 16 (Wh alg):=by
 intro args hp r h;unfold Wh at h;split at h<;>cases h
 rename_i a b l m
 revert l m;intro(l:List Upl) (m:List Upl)
 simp only [CT.Good,zh];intro hneed;obtain⟨hl,hml,ha,hab,hb⟩:=hneed
 obtain⟨a,rfl⟩: ∃ x:Nat,a=x:=⟨a.toNat,by omega⟩
 obtain⟨b,rfl⟩: ∃ x:Nat,b=x:=⟨b.toNat,by omega⟩
 have hq:((m.drop a).take (b - a)).length=b - a:=by rw [jv,jC];omega
 have hqg: ∀ i,i<b - a→((m.drop a).take (b - a)).getD i ⟨0,0,[],[],0⟩=m.getD (a+i) ⟨0,0,[],[],0⟩:=fun i hi=>by
  simp only [jH,jD,jG,if_pos hi]
 obtain⟨q,hqe⟩: ∃ q,q=(m.drop a).take (b - a):=⟨_,rfl⟩;rw [← hqe] at hq hqg;generalize hr0:decide (l=(m.drop (a:Int).toNat).take ((b:Int).toNat - (a:Int).toNat))=r
 have hr:decide (l=q)=r:=by rw [← hr0];exact decide_eq_decide.2 (by rw [hqe,jJ,jJ])
 refine spH Tryz.func16 (by kernel_rfl) { keep:=some [0,1,4,5]} [wX,wW,Zd,Zc] (by kernel_rfl) ?_
 intro I X hI hX
 refine orcL ?_;go_invoke;refine orcS (by kernel_rfl) ?_
 simp only [zi,Nat.reduceAdd];refine⟨fun c1=> ?_,fun c1=> ?_⟩
 · subst hI
   simp only [nrmA,nrmB] at c1;simp only [nrmA,nrmB];rw [← hr]
   exact(decide_eq_false fun e=>c1 (by rw [e,hq];omega)).symm
 have hlm:l.length=q.length:=by
  subst hI;simp only [nrmA,nrmB] at c1;omega
 refine lpH hI [wX,wW,Zd,Zc] hX [0,1,5] (fun(i:Nat)=>i≤l.length∧r=decide (l.drop i=q.drop i)) (fun(i:Nat)=>⟨[(0,.v (.one (.row 0))),(1,.v (.one (.sub .upl 1 (a:Int) (b:Int)))),(5,.v (.one (.p (.int .i64 i))))],[.row .upl 81 l,.row .upl 81 m],81,none⟩) (fun(i:Nat)=>l.length - i) 0 (by kernel_rfl) (by kernel_rfl) ?_ ?_
 · exact⟨jM _,hr.symm⟩
 rintro i ⟨h1,h2⟩ A hA
 refine orcL ?_;go_invoke;refine orcS (by kernel_rfl) ?_
 simp only [zi,Nat.reduceAdd];subst hI;simp only [nrmA,nrmB,nrlB,reduceCtorEq]
 have hd:i<l.length→_:=fun h=>Zp (l:=l) (m:=q) (i:=i) h (by omega)
 have hend: ¬ i<l.length→r=true:=fun h=>by
  rw [h2,jF (by omega),jF (by omega)];simp
 have hqi:i<l.length→q.getD i ⟨0,0,[],[],0⟩=m.getD (a+i) ⟨0,0,[],[],0⟩:=fun h=>hqg i (by omega)
 rw [show((a:Int)+(i:Int)).toNat=a+i by omega]
 generalize l.getD i ⟨0,0,[],[],0⟩=x at *;generalize q.getD i ⟨0,0,[],[],0⟩=y0 at *;generalize m.getD (a+i) ⟨0,0,[],[],0⟩=y at *
 have hx: ¬ x=y→i<l.length→r=false:=fun h hi=>by rw [h2,hd hi,hqi hi,decide_eq_false h,Bool.false_and]
 have hy:x=y→i<l.length→r=decide (l.drop (i+1)=q.drop (i+1)):=fun h hi=>by rw [h2,hd hi,hqi hi,decide_eq_true h,Bool.true_and]
 (repeat' (first|refine ja ?_ ?_|intro _))<;>first|omega|exact jb|exact jc ‹False›|skip
 all_goals first
  |(exact(hx (by rintro rfl;simp_all) (by omega)).symm)
  |(rw [hx (by rintro rfl;simp_all) (by omega)])
  |exact hA (i+1) ⟨by omega,hy (zhc (by assumption) (by assumption) (by assumption) (by assumption) (by assumption)) (by omega)⟩ (by omega)
  |(rw [hend (by omega)])
  |omega
def Z5:Know Tryz.prog:=⟨16,Wh,zeW⟩
def Z4:Know Tryz.prog:=⟨16,fun I=>zu I (Wh I),zf zeW⟩
end Go.Proofs.YtkjepecoodjbmaaGreatDoor
namespace Go.Proofs.YtkjepecoodjbmaaGreatDoor
open Go Go.Sep Go.Ab
set_option maxRecDepth 100000
end Go.Proofs.YtkjepecoodjbmaaGreatDoor
namespace Go.Proofs.YtkjepecoodjbmaaGreatDoor
open Go Go.Sep Go.Ab Go.Jrn
set_option maxRecDepth 100000
structure Sto where
 l:List Upl
 n:Int
 b:Str
 s:Int
def zwQ (n:Int) (x:Sst):Ent:=
 if x.op=0 then⟨1,n+1,x.n,x.text⟩ else if x.op=1 then⟨2,x.id,0,x.text⟩ else if x.op=2 then⟨3,x.id,x.n,[]⟩ else if x.op=3 then⟨4,x.id,0,[]⟩ else if x.op=4 then⟨5,x.id,0,[]⟩ else⟨6,x.id,0,[]⟩
structure zxm (q:Sto):Prop where
 spl:zJ q.l q.n
 n:q.n≤150000
 b:q.b.length≤100000
 s0:0≤q.s
 s1:q.s≤q.b.length
end Go.Proofs.YtkjepecoodjbmaaGreatDoor
namespace Go.Proofs.YtkjepecoodjbmaaGreatDoor
open Go Go.Sep Go.Ab Go.Jrn
set_option maxRecDepth 100000
def YF (I:Alg):KU
 |[.v (.one (.ptr 0 0)),.v (.one (.p (.int .i64 m)))],[.pack [.obj 54 [.ptr 1 0,.ptr 2 0],.pack [.obj 124 [.row 1,.p (.int .i64 n)],.row .upl 81 l],.pack [.obj 156 [.row 1,.p (.int .i64 s)],.row .byte 5 b]]]=>(fun(l:List Upl) (b:Str)=>(some (.one ⟨I.hid (b.length≤100000),(.ret (.v (.one (.p (.bool (I.hid (Uj b m))))))),[.pack [.obj 54 [.ptr 1 0,.ptr 2 0],.pack [.obj 124 [.row 1,.p (.int .i64 n)],.row .upl 81 l],.pack [.obj 156 [.row 1,.p (.int .i64 s)],.row .byte 5 b]]]⟩):Option CT)) l b
 |_,_=>none
theorem zbI:zx Tryz.prog 176 (YF alg):=by
 intro args hp r h;unfold YF at h;split at h<;>cases h
 rename_i m n l s b
 revert l;intro(l:List Upl)
 simp only [CT.Good,zh];intro hneed
 refine spH Tryz.func176 (by kernel_rfl) { VW with keep:=some [0,1,4]} [zn0,znZ] (by kernel_rfl) ?_
 intro I X hI hX
 refine orcL ?_;go_invoke;refine orcS (by kernel_rfl) ?_
 simp only [zi,Nat.reduceAdd];subst hI;simp only [nrmA,nrmB,nrlB,reduceCtorEq,HO.pack.injEq,HO.obj.injEq]
 (repeat' (first|refine ja ?_ ?_|intro _))<;>first|omega|exact jb|exact jc ‹False›|skip
def yR:Know Tryz.prog:=⟨176,YF,zbI⟩
def yQ:Know Tryz.prog:=⟨176,fun I=>zu I (YF I),zf zbI⟩
end Go.Proofs.YtkjepecoodjbmaaGreatDoor
namespace Go.Proofs.YtkjepecoodjbmaaGreatDoor
open Go Go.Sep Go.Ab
set_option maxRecDepth 100000
def txtN (base:Nat):Nat→Nat→Str
 |0,_=>[]
 |f+1,n=>if n<base then [if n<10 then UInt8.ofNat (48+n) else UInt8.ofNat (87+n)] else txtN base f (n / base)++[if n % base<10 then UInt8.ofNat (48+n % base) else UInt8.ofNat (87+n % base)]
def dgN (d:Nat):UInt8:=if d<10 then UInt8.ofNat (48+d) else UInt8.ofNat (87+d)
theorem zcX {base f n:Nat} (h:n<base):txtN base (f+1) n=[dgN n]:=by rw [txtN,if_pos h];rfl
theorem zeE {base f n:Nat} (h: ¬ n<base):txtN base (f+1) n=txtN base f (n / base)++[dgN (n % base)]:=by rw [txtN,if_neg h];rfl
theorem ziP (base:Nat): ∀ f n,(txtN base f n).length≤f
 |0,_=>jL _
 | f +1,n=>by
   rw [txtN]
   split
   · simp
   · have:=ziP base f (n / base)
     rw [jk];simp;omega
def zsV (k:Nat) (I:Alg) (args:List D) (hp:List HO):Option CT:=match args,hp with
 |[.v (.one (.p (.int .i64 n)))],[]=>some (.one ⟨I.hid (0≤n∧n<10 ^ k∧k≠0),.ret (.v (.one (.p (.str (I.hid (txtN 10 k n.toNat)))))),[]⟩)
 |_,_=>none
def numK (k:Nat) (h:zx Tryz.prog 30 (zsV k alg)):Know Tryz.prog:=⟨30,zsV k,h⟩
theorem zkg: ∀ (k n:Nat),n<10 ^ (k+1)→Lib.decDigits n=txtN 10 (k+1) n
 | 0,n,h=>by
   rw [Lib.decDigits,dif_pos (by omega),zcX (by omega)]
   unfold dgN
   rw [if_pos (by omega)]
 | k +1,n,h=>by
   rw [Lib.decDigits]
   by_cases hn:n<10
   · rw [dif_pos hn,zcX hn]
     unfold dgN;rw [if_pos hn]
   · rw [dif_neg hn,zeE hn,zkg k (n / 10) (by rw [Nat.pow_succ] at h;omega)]
     unfold dgN
     rw [if_pos (Nat.mod_lt _ (by decide))]
def decS (n:Int):Str:=txtN 10 9 n.toNat
theorem zrP {n:Int} (h0:0≤n) (h1:n<1000000000):Lib.itoa n=decS n:=by
 unfold Lib.itoa decS
 rw [if_neg (by omega),zkg 8 n.toNat (by omega)]
theorem wL (n:Int):(decS n).length≤9:=ziP 10 9 _
def zdO (I:Alg):KU
 |[.v (.one (.p (.int .i64 n)))],[]=>some (.one ⟨I.hid (0≤n∧n<1000000000),(.ret (.v (.one (.p (.str (I.hid (decS n))))))),[]⟩)
 |_,_=>none
theorem zoP:zx Tryz.prog 103 (zdO alg):=by
 intro args hp r h;unfold zdO at h;split at h<;>cases h
 rename_i n;simp only [CT.Good,zh];intro hneed
 refine Spc.of_below ⟨_,Tryz.func103,by kernel_rfl,by kernel_rfl⟩ fun S bs w vs hW hM=> ?_
 obtain⟨v,r,rfl⟩: ∃ v r,vs=v::r:=by cases vs with|nil=>exact hM.elim|cons v r=>exact⟨v,r,rfl⟩
 obtain⟨h1,hM⟩:=hM
 obtain rfl:r=[]:=by cases r with|nil=>rfl|cons v r=>exact hM.elim
 cases h1 with
 | int _ _=>
   refine⟨.string (Sep.S (decS n)),.str _ (by have:=wL n;unfold maxLen;omega),?_⟩
   rw [← zrP hneed.1 hneed.2]
   refine(Tryz.strconv_Itoa n (by omega) (by omega) w (by first|exact hW|exact hW.1)).mono fun e w' h=> ?_
   obtain⟨he,k,os,rfl⟩:=h;refine⟨he,?_⟩
   exact⟨rfl,rfl,rfl,(show w.heap.size≤(w.heap++os).size by rw [Array.size_append];omega),fun j hj=>show(w.heap++os)[j]? =w.heap[j]? from Array.getElem?_append_left hj⟩
def qC:Know Tryz.prog:=⟨103,zdO,zoP⟩
def qB:Know Tryz.prog:=⟨103,fun I=>zu I (zdO I),zf zoP⟩
end Go.Proofs.YtkjepecoodjbmaaGreatDoor
namespace Go.Proofs.YtkjepecoodjbmaaGreatDoor
open Go Go.Sep Go.Ab
def sW:Str:=[47,102,105,108,101,115]
def wU:Str:=[47,102,105,108,101,115,47]
def verS:Str:=[49,46,48,46,48]
def zvQ:Str:=[79,80,84,73,79,78,83]
def zbu:Str:=[80,79,83,84]
def zrT:Str:=[72,69,65,68]
def zau:Str:=[80,65,84,67,72]
def zsu:Str:=[68,69,76,69,84,69]
def zhg:Str:=[116,117,115,45,114,101,115,117,109,97,98,108,101]
def yL:Str:=[117,112,108,111,97,100,45,108,101,110,103,116,104]
def QK:Str:=[117,112,108,111,97,100,45,100,101,102,101,114,45,108,101,110,103,116,104]
def zhd:Str:=[117,112,108,111,97,100,45,109,101,116,97,100,97,116,97]
def qw:Str:=[117,112,108,111,97,100,45,111,102,102,115,101,116]
def Zy:Str:=[99,111,110,116,101,110,116,45,116,121,112,101]
def octS:Str:=[97,112,112,108,105,99,97,116,105,111,110,47,111,102,102,115,101,116,43,111,99,116,101,116,45,115,116,114,101,97,109]
def zvg:Str:=[84,117,115,45,82,101,115,117,109,97,98,108,101]
def zmJ:Str:=[84,117,115,45,86,101,114,115,105,111,110]
def zvh:Str:=[84,117,115,45,77,97,120,45,83,105,122,101]
def zvk:Str:=[84,117,115,45,69,120,116,101,110,115,105,111,110]
def zvj:Str:=[99,114,101,97,116,105,111,110,44,99,114,101,97,116,105,111,110,45,100,101,102,101,114,45,108,101,110,103,116,104,44,116,101,114,109,105,110,97,116,105,111,110]
def locN:Str:=[76,111,99,97,116,105,111,110]
def QJ:Str:=[85,112,108,111,97,100,45,79,102,102,115,101,116]
def zvd:Str:=[85,112,108,111,97,100,45,76,101,110,103,116,104]
def zve:Str:=[85,112,108,111,97,100,45,68,101,102,101,114,45,76,101,110,103,116,104]
def zlq:Str:=[85,112,108,111,97,100,45,77,101,116,97,100,97,116,97]
def zwC:Str:=[67,97,99,104,101,45,67,111,110,116,114,111,108]
def zvU:Str:=[110,111,45,115,116,111,114,101]
def oneT (f:List Fld) (n:Str):Str × Int:=oneF (valsF f n)
def Xm (f:List Fld) (n:Str):Bool:=decide ((oneT f n).2=10)||(decide ((oneT f n).2=0)&&(numA (oneT f n).1 10 9).2)
def zN (f:List Fld) (n:Str):Int:=if(oneT f n).2=10 then -1 else(numA (oneT f n).1 10 9).1
def Vd (f:List Fld):Bool:=decide ((oneT f QK).2=10)||(decide ((oneT f QK).2=0)&&decide ((oneT f QK).1=[49]))
def zfE (f:List Fld):Bool:=decide ((oneT f QK).2=0)
def X6 (c:Int):Int:=if c=10 then 404 else if c=17∨c=19 then 409 else if c=4 then 413 else if c=8∨c=16 then 507 else 400
def wsS (q:Sto) (e:Ent):Sto:=⟨wrtL q.l q.n q.b e,wrtN q.l q.n q.b e,wrtB q.l q.n q.b e,q.s⟩
def wsC (q:Sto) (e:Ent):Int:=wrtC q.l q.n q.b e
def syS (q:Sto):Sto:= { q with s:=(q.b.length:Int)}
def creE (q:Sto) (n:Int) (t:Str):Ent:=⟨1,q.n+1,n,t⟩
structure TA where
 st:Int
 fs:List Fld
 q:Sto
def xA (q:Sto) (f:List Fld):TA:=
 if Xm f yL=false then⟨400,[],q⟩
 else if Vd f=false then⟨400,[],q⟩
 else if decide (0≤zN f yL)=zfE f then⟨400,[],q⟩
 else if(oneT f zhd).2=9 then⟨400,[],q⟩
 else if wsC q (creE q (zN f yL) (oneT f zhd).1)≠0 then⟨X6 (wsC q (creE q (zN f yL) (oneT f zhd).1)),[],q⟩
 else⟨201,[⟨locN,wU++decS (q.n+1)⟩],syS (wsS q (creE q (zN f yL) (oneT f zhd).1))⟩
def idB (t:Str):Bool:=Lib.hasPrefix t wU&&((numA (t.drop 7) 10 9).2&&decide (decS (numA (t.drop 7) 10 9).1=t.drop 7))
def idV (t:Str):Int:=(numA (t.drop 7) 10 9).1
def uplB (q:Sto) (t:Str):Bool:=idB t&&getB q.l (idV t)
def lenF (u:Upl):Fld:=if u.size<0 then⟨zve,[49]⟩ else⟨zvd,decS u.size⟩
def zbp (u:Upl):List Fld:=[⟨QJ,decS (u.bytes.length:Int)⟩,lenF u,⟨zwC,zvU⟩]++(if u.note=[] then [] else [⟨zlq,u.note⟩])
def wP (q:Sto) (u:Upl) (f:List Fld) (body:Str):TA:=
 if(oneT f Zy).2=9 then⟨400,[],q⟩
 else if(xK (oneT f Zy).1).2≠0∨(xK (oneT f Zy).1).1.word≠octS then⟨415,[],q⟩
 else if Xm f qw=false then⟨400,[],q⟩
 else if zN f qw<0 then⟨400,[],q⟩
 else if zN f qw≠(u.bytes.length:Int) then⟨409,[],q⟩
 else if Xm f yL=false then⟨400,[],q⟩
 else if 0≤zN f yL∧0≤u.size∧zN f yL≠u.size then⟨400,[],q⟩
 else if 0≤zN f yL∧u.size<0∧(2000<zN f yL∨zN f yL<zN f qw+(body.length:Int)) then⟨413,[],q⟩
 else if Uj q.b ((body.length:Int)+60)=false then⟨507,[],q⟩
 else if(if apG q.l u.id (zN f qw) then 17 else wsC q (apE u.id body))≠0 then⟨X6 (if apG q.l u.id (zN f qw) then 17 else wsC q (apE u.id body)),[],q⟩
 else if 0≤zN f yL∧u.size<0 then
  if wsC (wsS q (apE u.id body)) ⟨3,u.id,zN f yL,[]⟩≠0 then⟨X6 (wsC (wsS q (apE u.id body)) ⟨3,u.id,zN f yL,[]⟩),[],wsS q (apE u.id body)⟩
  else⟨204,[⟨QJ,decS (zN f qw+(body.length:Int))⟩],syS (wsS (wsS q (apE u.id body)) ⟨3,u.id,zN f yL,[]⟩)⟩
 else⟨204,[⟨QJ,decS (zN f qw+(body.length:Int))⟩],syS (wsS q (apE u.id body))⟩
def VJ (q:Sto) (u:Upl):TA:=
 if wsC q ⟨4,u.id,0,[]⟩≠0 then⟨X6 (wsC q ⟨4,u.id,0,[]⟩),[],q⟩ else⟨204,[],syS (wsS q ⟨4,u.id,0,[]⟩)⟩
def yC (q:Sto) (m t:Str) (f:List Fld) (body:Str):TA:=
 if t=sW∧m=zvQ then⟨204,[⟨zmJ,verS⟩,⟨zvh,decS 2000⟩,⟨zvk,zvj⟩],q⟩
 else if(oneT f zhg).2=9 then⟨400,[],q⟩
 else if(oneT f zhg).1≠verS then⟨412,[⟨zmJ,verS⟩],q⟩
 else if t=sW then(if m≠zbu then⟨405,[],q⟩ else xA q f)
 else if uplB q t=false then⟨404,[],q⟩
 else if m=zrT then⟨200,zbp (getU q.l (idV t)),q⟩
 else if m=zau then wP q (getU q.l (idV t)) f body
 else if m=zsu then VJ q (getU q.l (idV t))
 else⟨405,[],q⟩
def resT:Fld:=⟨zvg,verS⟩
end Go.Proofs.YtkjepecoodjbmaaGreatDoor
namespace Go.Proofs.YtkjepecoodjbmaaGreatDoor
open Go Go.Sep Go.Ab
def Ud (n:Int):Str:=
 if n=200 then [79,75]
 else if n=201 then [67,114,101,97,116,101,100]
 else if n=204 then [78,111,32,67,111,110,116,101,110,116]
 else if n=400 then [66,97,100,32,82,101,113,117,101,115,116]
 else if n=404 then [78,111,116,32,70,111,117,110,100]
 else if n=405 then [77,101,116,104,111,100,32,78,111,116,32,65,108,108,111,119,101,100]
 else if n=409 then [67,111,110,102,108,105,99,116]
 else if n=412 then [80,114,101,99,111,110,100,105,116,105,111,110,32,70,97,105,108,101,100]
 else if n=413 then [67,111,110,116,101,110,116,32,84,111,111,32,76,97,114,103,101]
 else if n=415 then [85,110,115,117,112,112,111,114,116,101,100,32,77,101,100,105,97,32,84,121,112,101]
 else if n=507 then [73,110,115,117,102,102,105,99,105,101,110,116,32,83,116,111,114,97,103,101]
 else []
def badF:List Fld→Int
 |[]=>0
 |f::l=>if(textF f).2=0 then badF l else(textF f).2
def uQ:List Fld→Str
 |[]=>[]
 |f::l=>(textF f).1++[13,10]++uQ l
theorem zpt (a b:List Fld):uQ (a++b)=uQ a++uQ b:=by
 induction a with
 |nil=>rfl
 |cons f l ih=>simp only [List.cons_append,uQ,ih,jo]
def zh0 (st:Int):Str:=[72,84,84,80,47,49,46,49,32]++decS st++[32]++Ud st++[13,10]
def zhi (n:Int):Str:=[67,111,110,116,101,110,116,45,76,101,110,103,116,104,58,32]++decS n++[13,10,13,10]
def zuY:Str:=[99,111,110,116,101,110,116,45,108,101,110,103,116,104]
def zbC (st:Int) (fs:List Fld):Int:=
 if Ud st=[] then 11 else if 16≤fs.length then 8 else if 0<(valsF fs zuY).length then 12 else badF fs
def writeT (st:Int) (fs:List Fld) (body:Str):Str:=
 if zbC st fs=0 then zh0 st++uQ fs++zhi body.length++body else []
theorem QO (f:Fld):(textF f).1.length≤200:=by
 unfold textF
 split
 · simp
 split
 · simp
 split
 · simp
 · simp only [jk,jh,ji];omega
theorem VA: ∀ l:List Fld,(uQ l).length≤202 * l.length
 |[]=>by simp [uQ]
 | f::l=>by
   have:=QO f;have:=VA l;simp only [uQ,jk,jh,ji];omega
theorem zqB {n:Int} (h:Ud n≠[]):n=200∨n=201∨n=204∨n=400∨n=404∨n=405∨n=409∨n=412∨n=413∨n=415∨n=507:=by
 refine Decidable.byContradiction fun hn=>h ?_;simp only [not_or] at hn
 simp [Ud,hn]
theorem QG {n:Int} (h:Ud n≠[]):200≤n∧n≤507∧(Ud n).length≤30:=by
 rcases zqB h with rfl|rfl|rfl|rfl|rfl|rfl|rfl|rfl|rfl|rfl|rfl<;>decide
end Go.Proofs.YtkjepecoodjbmaaGreatDoor
namespace Go.Proofs.YtkjepecoodjbmaaGreatDoor
open Go Go.Sep Go.Ab
def ln0:Ln:=⟨[],false,0⟩
def zvt (c:UInt8):Bool:=zeU (c.toNat:Int)
def lnF (s:Ln) (c:UInt8):Ln × Str × Bool × Int:=
 if s.code≠0 then(s,[],false,s.code)
 else if s.cr then(if c=10 then(⟨[],false,0⟩,s.b,true,0) else(⟨s.b,s.cr,2⟩,[],false,2))
 else if c=10 then(⟨s.b,s.cr,2⟩,[],false,2)
 else if c=13 then(⟨s.b,true,s.code⟩,[],false,0)
 else if zvt c=false then(⟨s.b,s.cr,3⟩,[],false,3)
 else if s.b.length=200 then(⟨s.b,s.cr,4⟩,[],false,4)
 else(⟨s.b++[c],s.cr,s.code⟩,[],false,0)
theorem Yg (s:Ln) (c:UInt8):(lnF s c).2.1.length≤s.b.length:=by
 unfold lnF
 repeat' split
 all_goals simp
theorem zrK (s:Ln) (c:UInt8):(lnF s c).1.b.length≤s.b.length+1:=by
 unfold lnF
 repeat' split
 all_goals simp
end Go.Proofs.YtkjepecoodjbmaaGreatDoor
namespace Go.Proofs.YtkjepecoodjbmaaGreatDoor
open Go Go.Sep Go.Ab
end Go.Proofs.YtkjepecoodjbmaaGreatDoor
namespace Go.Proofs.YtkjepecoodjbmaaGreatDoor
open Go Go.Sep Go.Ab
def ZX (line:Str):Int × Bool:=numA (Lib.trimS (cutB line 59).1 [32,9]) 16 6
theorem zaB: ∀ (s:Str) (n:Int),0≤n→0≤(numG 16 n s).1
 |[],n,h=>h
 | c::l,n,h=>by
   rw [numG]
   split
   · exact Int.le_refl _
   · exact zaB l _ (by omega)
theorem U7 (t:Str):0≤(ZX t).1:=by
 unfold ZX numA
 split
 · exact Int.le_refl _
 · exact zaB _ _ (Int.le_refl _)
def ch0:Ch:=⟨ln0,0,0,0,0,0⟩
def chL (s:Ch) (t:Str):Ch × Int:=
 if s.pos=2 then(if t=[] then({ s with pos:=0},0) else(s,5))
 else if s.pos=0 then
  (if(ZX t).2=false then(s,7)
  else if 4000 - s.all<(ZX t).1 then(s,4)
  else if(ZX t).1=0 then({ s with pos:=3},0)
  else({ s with pos:=1,left:=(ZX t).1},0))
 else if s.pos=3 then
  (if t=[] then({ s with pos:=4},0)
  else if s.tails=16 then(s,8)
  else({ s with tails:=s.tails+1},(uq t).2))
 else(s,0)
def chF (s:Ch) (c:UInt8):Ch × Str × Bool × Int:=
 if s.code≠0 then(s,[],false,s.code)
 else if s.pos=4 then({ s with code:=18},[],false,18)
 else if s.pos=1 then({ s with left:=s.left - 1,all:=s.all+1,pos:=if s.left - 1=0 then 2 else 1},[c],false,0)
 else if(lnF s.ln c).2.2.2≠0 then({ s with ln:=(lnF s.ln c).1,code:=(lnF s.ln c).2.2.2},[],false,(lnF s.ln c).2.2.2)
 else if(lnF s.ln c).2.2.1=true then
  (if(chL { s with ln:=(lnF s.ln c).1} (lnF s.ln c).2.1).2≠0 then({ (chL { s with ln:=(lnF s.ln c).1} (lnF s.ln c).2.1).1 with code:=(chL { s with ln:=(lnF s.ln c).1} (lnF s.ln c).2.1).2},[],false,(chL { s with ln:=(lnF s.ln c).1} (lnF s.ln c).2.1).2)
  else((chL { s with ln:=(lnF s.ln c).1} (lnF s.ln c).2.1).1,[],decide ((chL { s with ln:=(lnF s.ln c).1} (lnF s.ln c).2.1).1.pos=4),0))
 else({ s with ln:=(lnF s.ln c).1},[],false,0)
inductive ChR where
 |more (out:Str) (held:Nat)
 |over (out rest:Str)
 |bad (out:Str) (e:Int) (rest:Str)
def ChR.pre (o:Str):ChR→ChR
 |.more p h=>.more (o++p) h
 |.over p r=>.over (o++p) r
 |.bad p e r=>.bad (o++p) e r
theorem zsy {s:Ch} {c:UInt8}:(chF s c).2.1.length≤1∧((chF s c).2.2.2≠0→(chF s c).2.1=[])∧((chF s c).2.2.1=true→(chF s c).2.2.2=0∧(chF s c).2.1=[]∧(chF s c).1.pos=4∧(chF s c).1.code=0)∧((chF s c).2.2.2≠0→(chF s c).2.2.1=false∧(chF s c).1.code=(chF s c).2.2.2):=by
 unfold chF
 split
 · simp
 rename_i h0
 split
 · simp
 split
 · simp
 split
 · simp
 split
 · split
   · simp
   · refine⟨by simp,by simp,fun h=>⟨rfl,rfl,by simpa using h,?_⟩,fun h=>absurd rfl h⟩
     have: ∀ (x:Ch) (t:Str),x.code=0→(chL x t).1.code=0:=by
      intro x t hx;unfold chL
      split
      · split<;>exact hx
      split
      · split
        · exact hx
        split
        · exact hx
        split<;>exact hx
      split
      · split
        · exact hx
        split<;>exact hx
      · exact hx
     exact this _ _ (by simpa using h0)
 · simp
end Go.Proofs.YtkjepecoodjbmaaGreatDoor
namespace Go.Proofs.YtkjepecoodjbmaaGreatDoor
open Go Go.Sep Go.Ab
def hd0:Hd:=⟨[],[],0,[],0⟩
def prt0:Prt:=⟨[],[],[],[]⟩
def evH (h:Hd):Evt:=⟨1,h,[],prt0,0⟩
def evB (b:Str):Evt:=⟨2,hd0,b,prt0,0⟩
def evE:Evt:=⟨3,hd0,[],prt0,0⟩
def evF (c:Int):Evt:=⟨4,hd0,[],prt0,c⟩
def uy (out:List Evt) (e:Evt):List Evt:=
 match out.getLast? with
 |some x=>if e.kind=2∧x.kind=2 then out.dropLast++[evB (x.bytes++e.bytes)] else out++[e]
 |none=>out++[e]
def yK (l:List Evt):List Evt:=l.foldl uy []
theorem xu (z:List Evt) (x e:Evt):uy (z++[x]) e=if e.kind=2∧x.kind=2 then z++[evB (x.bytes++e.bytes)] else z++[x]++[e]:=by
 unfold uy
 simp
theorem Yi (e:Evt):uy [] e=[e]:=rfl
end Go.Proofs.YtkjepecoodjbmaaGreatDoor
namespace Go.Proofs.YtkjepecoodjbmaaGreatDoor
open Go Go.Sep Go.Ab
def yF:Str→List Str
 |[]=>[[]]
 |c::r=>if c=32 then []::yF r else(match yF r with|[]=>[[c]]|w::ws=>(c::w)::ws)
theorem zbK (s:Str):yF s≠[]:=by
 cases s with
 |nil=>simp [yF]
 | cons c r=>
   simp only [yF]
   split
   · simp
   · split<;>simp
def Vf:Str:=[72,84,84,80,47,49,46,49]
def zaO:Str:=[72,84,84,80,47,49,46,48]
def begM (s:Str):Int × Hd:=
 match yF s with
 | [a,b,c]=>
   if Xo a=false then(6,hd0)
   else if b.head?≠some 47∨b.contains 9=true then(5,hd0)
   else if c=Vf then(0,⟨a,b,1,[],0⟩)
   else if c=zaO then(0,⟨a,b,0,[],0⟩)
   else(11,⟨a,b,0,[],0⟩)
 |_=>(5,hd0)
def TU:Str:=[104,111,115,116]
def Yu:Str:=[99,111,110,116,101,110,116,45,108,101,110,103,116,104]
def zc3:Str:=[116,114,97,110,115,102,101,114,45,101,110,99,111,100,105,110,103]
def Qz:Str:=[99,104,117,110,107,101,100]
def sizM (z0:Str) (n:Int):List Str→Int × Int
 |[]=>(n,0)
 |s::r=>if(numA s 10 9).2=false then(0,7) else if s≠z0 then(0,12) else sizM z0 (numA s 10 9).1 r
def lenM (mi:Int) (f:List Fld):Int × Int:=
 if valsF f zc3≠[] then
  if valsF f Yu≠[]∨mi=0 then(0,12)
  else if 1<(valsF f zc3).length∨lowS ((valsF f zc3).getD 0 [])≠Qz then(0,11)
  else(-1,0)
 else if(sizM ((valsF f Yu).getD 0 []) 0 (valsF f Yu)).2≠0 then(0,(sizM ((valsF f Yu).getD 0 []) 0 (valsF f Yu)).2)
 else if 4000<(sizM ((valsF f Yu).getD 0 []) 0 (valsF f Yu)).1 then(0,4)
 else((sizM ((valsF f Yu).getD 0 []) 0 (valsF f Yu)).1,0)
def zut (mi:Int) (f:List Fld):Bool:=decide ((oneF (valsF f TU)).2=9)||(decide ((oneF (valsF f TU)).2=10)&&decide (mi=1))
def zwW (q:Rq) (e:Evt):Rq:= { q with out:=q.out++[e]}
def vz (q:Rq) (c:Int):Rq:= { q with pos:=4,out:=q.out++[evF c]}
def rG (q:Rq):Rq:= { q with out:=q.out++[evE],pos:=0,h:=hd0,own:=true}
def yG (q:Rq):Rq × Int:=
 if zut q.h.minor q.h.fields=true then(q,13)
 else if(lenM q.h.minor q.h.fields).2≠0 then({ q with own:=false},(lenM q.h.minor q.h.fields).2)
 else if(lenM q.h.minor q.h.fields).1=0 then(rG { q with h:= { q.h with length:=0},own:=false,out:=q.out++[evH { q.h with length:=0}]},0)
 else if 0<(lenM q.h.minor q.h.fields).1 then({ q with h:= { q.h with length:=(lenM q.h.minor q.h.fields).1},own:=false,out:=q.out++[evH { q.h with length:=(lenM q.h.minor q.h.fields).1}],pos:=2,left:=(lenM q.h.minor q.h.fields).1},0)
 else({ q with h:= { q.h with length:=(lenM q.h.minor q.h.fields).1},own:=false,out:=q.out++[evH { q.h with length:=(lenM q.h.minor q.h.fields).1}],pos:=3,ck:=some ch0},0)
def zU (q:Rq) (s:Str):Rq × Int:=
 if q.pos=0 then
  if s=[] then(q,0)
  else if(begM s).1=0 then({ q with h:=(begM s).2,pos:=1},0)
  else if(begM s).1=11 then({ q with h:=(begM s).2},11)
  else(q,(begM s).1)
 else if s=[] then yG q
 else if q.h.fields.length=16 then(q,8)
 else({ q with h:= { q.h with fields:=q.h.fields++[(uq s).1]}},(uq s).2)
def ckOf (q:Rq):Ch:=match q.ck with|some c=>c|none=>ch0
def rqF (q:Rq) (c:UInt8):Rq:=
 if q.pos=2 then
  if q.left - 1=0 then rG { q with out:=q.out++[evB [c]],left:=0} else { q with out:=q.out++[evB [c]],left:=q.left - 1}
 else if q.pos=3 then
  if(chF (ckOf q) c).2.2.2≠0 then vz { q with ck:=some (chF (ckOf q) c).1} (chF (ckOf q) c).2.2.2
  else if(chF (ckOf q) c).2.2.1=true then rG { q with ck:=some (chF (ckOf q) c).1,out:=if(chF (ckOf q) c).2.1≠[] then q.out++[evB (chF (ckOf q) c).2.1] else q.out}
  else { q with ck:=some (chF (ckOf q) c).1,out:=if(chF (ckOf q) c).2.1≠[] then q.out++[evB (chF (ckOf q) c).2.1] else q.out}
 else if q.pos=0∨q.pos=1 then
  if(lnF q.ln c).2.2.2≠0 then vz { q with ln:=(lnF q.ln c).1} (lnF q.ln c).2.2.2
  else if(lnF q.ln c).2.2.1=true then
   if(zU { q with ln:=(lnF q.ln c).1} (lnF q.ln c).2.1).2≠0 then vz (zU { q with ln:=(lnF q.ln c).1} (lnF q.ln c).2.1).1 (zU { q with ln:=(lnF q.ln c).1} (lnF q.ln c).2.1).2
   else(zU { q with ln:=(lnF q.ln c).1} (lnF q.ln c).2.1).1
  else { q with ln:=(lnF q.ln c).1}
 else q
def rq0:Rq:=⟨ln0,0,hd0,0,none,true,[]⟩
def rF (q:Rq) (b:Str):Rq:=b.foldl rqF q
def zO (q:Rq) (b:Str):Rq:=rF { q with out:=[]} b
end Go.Proofs.YtkjepecoodjbmaaGreatDoor
namespace Go.Proofs.YtkjepecoodjbmaaGreatDoor
open Go Go.Sep Go.Ab
def znY (q:Rq):Rq:= { q with out:=[]}
end Go.Proofs.YtkjepecoodjbmaaGreatDoor
