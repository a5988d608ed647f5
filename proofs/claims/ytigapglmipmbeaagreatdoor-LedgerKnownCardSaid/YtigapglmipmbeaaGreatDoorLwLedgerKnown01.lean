/- The library's contracts of strings.Builder, Trim, Cut, CutPrefix, strconv.ParseUint, Itoa and FormatUint's parts laid at this program, by the kit's tools (lay-shelf, lay-plain). strings.Builder at this program: WriteString (its copyCheck's fault text is not translated here, so that the kit's contract does not fit). Plain arithmetic of limbs: lists of natural numbers below 10^9, the lowest first. No program in sight. What one round of each loop over limbs does to the numbers. No program in sight. One digit of a long division: the estimate, the subtraction, the addition back. No program in sight. Long division, the greatest common divisor, powers: plain arithmetic. No program in sight. Words for memory: a row of cells; a slice that holds limbs. -/
import Derived.Shelf.LaysM
import Derived.Shelf.Strings.SlTrimAscii
import Derived.Shelf.Strings.Cut
import Derived.Shelf.Strings.Builder1
import Derived.Shelf.Small.Wraps
import Derived.Shelf.Pu.ParseUintPublic10
import Derived.Shelf.Strconv.Itoa2
import Derived.Shelf.Strconv.Itoa3
import Derived.Ground.MpProg
import Derived.Test.YtigapglmipmbeaaGreatDoorProg
import Derived.Lib.OthersKept
import Derived.Shelf.Strings.BuilderK
import Derived.WalkKit
import Derived.Deep.DeepCutAuto
import Derived.Deep.Light
import Derived.Maps.AppendAt
import Derived.Lib.Hide
import Derived.Handy
import Derived.BigGuardPart
import Derived.Deep.QuietTactic
import Derived.BigQuiet
import Derived.WalkSpells
import Derived.WalkLawsBesides
import Derived.Deep.LoopGhost
set_option maxRecDepth 100000
set_option maxHeartbeats 16000000
namespace Go.Proofs.YtigapglmipmbeaaGreatDoor
open Go.Shelf
def Tryz.lays169_ren:Go.Shelf.Ren:=⟨fun|169=>281|n=>n,fun|70=>283|9=>9|0=>0|72=>285|37=>123|127=>316|3=>3|5=>5|n=>n,fun|n=>n⟩
theorem Tryz.lays169:Go.Proofs.Lays.n169 Tryz.prog Tryz.lays169_ren:={
 mixed:=by kernel_rfl
 f169:=Tryz.func281.trans (congrArg some (by kernel_rfl))
 t0:=Tryz.underlying0
 a0:=Tryz.isAgg0
 z0:=Tryz.sizeOf0
 v0:=Tryz.zeroValue0
 t3:=Tryz.underlying3
 a3:=Tryz.isAgg3
 z3:=Tryz.sizeOf3
 v3:=Tryz.zeroValue3
 t9:=Tryz.underlying9
 a9:=Tryz.isAgg9
 z9:=Tryz.sizeOf9
 v9:=Tryz.zeroValue9
 t37:=Tryz.underlying123
 a37:=Tryz.isAgg123
 z37:=Tryz.sizeOf123
 v37:=Tryz.zeroValue123
 t70:=Tryz.underlying283
 a70:=Tryz.isAgg283
 z70:=Tryz.sizeOf283
 v70:=Tryz.zeroValue283
 t72:=Tryz.underlying285
 a72:=Tryz.isAgg285
 z72:=Tryz.sizeOf285
 v72:=Tryz.zeroValue285
 t127:=Tryz.underlying316
 a127:=Tryz.isAgg316
 z127:=Tryz.sizeOf316
 v127:=Tryz.zeroValue316 }
theorem Tryz.Builder_Extra_169:Builder.Extra Tryz.prog Tryz.lays169_ren:={
 sizeBuilder:=by kernel_rfl
 liesBuilder:=by kernel_rfl
 t5:=Tryz.underlying5
 a5:=Tryz.isAgg5
 z5:=Tryz.sizeOf5
 v5:=Tryz.zeroValue5
 infoByte:=by kernel_rfl
 cellsByte:=by kernel_rfl
 sizeByte:=by kernel_rfl
 neB5:=by decide }
open Go.RowKit in
def Tryz.lays160_ren:Go.Shelf.Ren:=⟨fun|160=>295|232=>317|231=>316|227=>318|234=>320|233=>319|236=>322|235=>321|228=>336|271=>339|151=>338|197=>337|120=>354|152=>353|260=>352|137=>359|119=>360|224=>333|225=>332|217=>331|266=>350|n=>n,fun|9=>9|4=>4|3=>3|5=>5|117=>326|116=>325|0=>0|124=>329|21=>21|105=>343|46=>265|119=>361|139=>364|138=>363|n=>n,fun|3=>4|4=>5|n=>n⟩
theorem Tryz.lays160:Go.Proofs.Lays.n160 Tryz.prog Tryz.lays160_ren:={
 mixed:=by kernel_rfl
 f119:=Tryz.func360.trans (congrArg some (by kernel_rfl))
 f120:=Tryz.func354.trans (congrArg some (by kernel_rfl))
 f137:=Tryz.func359.trans (congrArg some (by kernel_rfl))
 f151:=Tryz.func338.trans (congrArg some (by kernel_rfl))
 f152:=Tryz.func353.trans (congrArg some (by kernel_rfl))
 f160:=Tryz.func295.trans (congrArg some (by kernel_rfl))
 f197:=Tryz.func337.trans (congrArg some (by kernel_rfl))
 f217:=Tryz.func331.trans (congrArg some (by kernel_rfl))
 f224:=Tryz.func333.trans (congrArg some (by kernel_rfl))
 f225:=Tryz.func332.trans (congrArg some (by kernel_rfl))
 f227:=Tryz.func318.trans (congrArg some (by kernel_rfl))
 f228:=Tryz.func336.trans (congrArg some (by kernel_rfl))
 f231:=Tryz.func316.trans (congrArg some (by kernel_rfl))
 f232:=Tryz.func317.trans (congrArg some (by kernel_rfl))
 f233:=Tryz.func319.trans (congrArg some (by kernel_rfl))
 f234:=Tryz.func320.trans (congrArg some (by kernel_rfl))
 f235:=Tryz.func321.trans (congrArg some (by kernel_rfl))
 f236:=Tryz.func322.trans (congrArg some (by kernel_rfl))
 f260:=Tryz.func352.trans (congrArg some (by kernel_rfl))
 f266:=Tryz.func350.trans (congrArg some (by kernel_rfl))
 f271:=Tryz.func339.trans (congrArg some (by kernel_rfl))
 t0:=Tryz.underlying0
 a0:=Tryz.isAgg0
 z0:=Tryz.sizeOf0
 v0:=Tryz.zeroValue0
 t3:=Tryz.underlying3
 a3:=Tryz.isAgg3
 z3:=Tryz.sizeOf3
 v3:=Tryz.zeroValue3
 t4:=Tryz.underlying4
 a4:=Tryz.isAgg4
 z4:=Tryz.sizeOf4
 v4:=Tryz.zeroValue4
 t5:=Tryz.underlying5
 a5:=Tryz.isAgg5
 z5:=Tryz.sizeOf5
 v5:=Tryz.zeroValue5
 t9:=Tryz.underlying9
 a9:=Tryz.isAgg9
 z9:=Tryz.sizeOf9
 v9:=Tryz.zeroValue9
 t21:=Tryz.underlying21
 a21:=Tryz.isAgg21
 z21:=Tryz.sizeOf21
 v21:=Tryz.zeroValue21
 t46:=Tryz.underlying265
 a46:=Tryz.isAgg265
 z46:=Tryz.sizeOf265
 v46:=Tryz.zeroValue265
 t105:=Tryz.underlying343
 a105:=Tryz.isAgg343
 z105:=Tryz.sizeOf343
 v105:=Tryz.zeroValue343
 t116:=Tryz.underlying325
 a116:=Tryz.isAgg325
 z116:=Tryz.sizeOf325
 t117:=Tryz.underlying326
 a117:=Tryz.isAgg326
 z117:=Tryz.sizeOf326
 v117:=Tryz.zeroValue326
 t119:=Tryz.underlying361
 a119:=Tryz.isAgg361
 z119:=Tryz.sizeOf361
 t124:=Tryz.underlying329
 a124:=Tryz.isAgg329
 z124:=Tryz.sizeOf329
 v124:=Tryz.zeroValue329
 t138:=Tryz.underlying363
 a138:=Tryz.isAgg363
 z138:=Tryz.sizeOf363
 v138:=Tryz.zeroValue363
 t139:=Tryz.underlying364
 a139:=Tryz.isAgg364
 z139:=Tryz.sizeOf364
 v139:=Tryz.zeroValue364
 g3:=by kernel_rfl
 g4:=by kernel_rfl }
def Tryz.lays103_ren:Go.Shelf.Ren:=⟨fun|103=>294|210=>315|206=>335|n=>n,fun|9=>9|4=>4|24=>301|3=>3|n=>n,fun|n=>n⟩
theorem Tryz.lays103:Go.Proofs.Lays.n103 Tryz.prog Tryz.lays103_ren:={
 mixed:=by kernel_rfl
 f103:=Tryz.func294.trans (congrArg some (by kernel_rfl))
 f206:=Tryz.func335.trans (congrArg some (by kernel_rfl))
 f210:=Tryz.func315.trans (congrArg some (by kernel_rfl))
 t3:=Tryz.underlying3
 a3:=Tryz.isAgg3
 z3:=Tryz.sizeOf3
 v3:=Tryz.zeroValue3
 t4:=Tryz.underlying4
 a4:=Tryz.isAgg4
 z4:=Tryz.sizeOf4
 v4:=Tryz.zeroValue4
 t9:=Tryz.underlying9
 a9:=Tryz.isAgg9
 z9:=Tryz.sizeOf9
 v9:=Tryz.zeroValue9
 t24:=Tryz.underlying301
 a24:=Tryz.isAgg301
 z24:=Tryz.sizeOf301
 v24:=Tryz.zeroValue301 }
open Go.RowKit in
theorem Tryz.strings_CutPrefix (s p:ByteArray) (w:World) :
  Calls Tryz.prog 294 #[.string s,.string p] w fun e w'=>e=.returned (.tuple #[.string ⟨(Lib.trimPrefix s.data.toList p.data.toList).toArray⟩,.bool (Lib.hasPrefix s.data.toList p.data.toList)])∧w'=w:=Any.strings_CutPrefix Tryz.lays103 s p w
def Tryz.lays283_ren:Go.Shelf.Ren:=⟨fun|283=>325|n=>n,fun|3=>3|9=>9|4=>4|n=>n,fun|n=>n⟩
theorem Tryz.lays283:Go.Proofs.Lays.n283 Tryz.prog Tryz.lays283_ren:={
 mixed:=by kernel_rfl
 f283:=Tryz.func325.trans (congrArg some (by kernel_rfl))
 t3:=Tryz.underlying3
 a3:=Tryz.isAgg3
 z3:=Tryz.sizeOf3
 v3:=Tryz.zeroValue3
 t4:=Tryz.underlying4
 a4:=Tryz.isAgg4
 z4:=Tryz.sizeOf4
 v4:=Tryz.zeroValue4
 t9:=Tryz.underlying9
 a9:=Tryz.isAgg9
 z9:=Tryz.sizeOf9
 v9:=Tryz.zeroValue9 }
open Go.Lib in
theorem Tryz.internal_strconv_small (i:Nat) (h:i < 100) (w:World) :
  Calls Tryz.prog 325 #[.int .i64 i] w fun e w'=>e=.returned (.string ⟨(Lib.decDigits i).toArray⟩)∧w'=w:=Any.internal_strconv_small Tryz.lays283 i h w
def Tryz.laysM284_ren:Go.Shelf.Ren:=⟨fun|284=>326|129=>292|317=>346|318=>347|n=>n,fun|53=>117|3=>3|212=>352|0=>0|4=>4|46=>265|5=>5|9=>9|n=>n,fun|17=>1|n=>n⟩
theorem Tryz.laysM284:Go.Proofs.LaysM.n284 Tryz.prog Tryz.laysM284_ren:={
 mixed:=by kernel_rfl
 f129:=Tryz.func292.trans (congrArg some (by kernel_rfl))
 f284:=Tryz.func326.trans (congrArg some (by kernel_rfl))
 f317:=Tryz.func346.trans (congrArg some (by kernel_rfl))
 f318:=Tryz.func347.trans (congrArg some (by kernel_rfl))
 t0:=Tryz.underlying0
 a0:=Tryz.isAgg0
 z0:=Tryz.sizeOf0
 v0:=Tryz.zeroValue0
 t3:=Tryz.underlying3
 a3:=Tryz.isAgg3
 z3:=Tryz.sizeOf3
 v3:=Tryz.zeroValue3
 t4:=Tryz.underlying4
 a4:=Tryz.isAgg4
 z4:=Tryz.sizeOf4
 v4:=Tryz.zeroValue4
 t5:=Tryz.underlying5
 a5:=Tryz.isAgg5
 z5:=Tryz.sizeOf5
 v5:=Tryz.zeroValue5
 t9:=Tryz.underlying9
 a9:=Tryz.isAgg9
 z9:=Tryz.sizeOf9
 v9:=Tryz.zeroValue9
 t46:=Tryz.underlying265
 a46:=Tryz.isAgg265
 z46:=Tryz.sizeOf265
 v46:=Tryz.zeroValue265
 t53:=Tryz.underlying117
 a53:=Tryz.isAgg117
 z53:=Tryz.sizeOf117
 v53:=Tryz.zeroValue117
 t212:=Tryz.underlying352
 a212:=Tryz.isAgg352
 z212:=Tryz.sizeOf352
 v212:=Tryz.zeroValue352
 g17:=by kernel_rfl
 i0:=by kernel_rfl
 i3:=by kernel_rfl
 i4:=by kernel_rfl
 i5:=by kernel_rfl
 i9:=by kernel_rfl
 i46:=by kernel_rfl
 i53:=by kernel_rfl
 i212:=by kernel_rfl
 m17:=by kernel_rfl }
open Go.Lib in
theorem Tryz.internal_strconv_numDigits (u : Nat) (h1 : 1 ≤ u) (h2 : u < 18446744073709551616) (w : World) (htab : Lib.TabIs Tryz.prog w "internal/strconv.uint64pow10" .u64 Lib.pow10Tab) :
  Calls Tryz.prog 326 #[.int .u64 u] w fun e w'=>e=.returned (.int .i64 (Lib.nDigits u))∧w'=w:=Any.internal_strconv_numDigits Tryz.laysM284 u h1 h2 w htab
def Tryz.lays285_ren:Go.Shelf.Ren:=⟨fun|285=>327|n=>n,fun|37=>123|53=>117|3=>3|4=>4|51=>299|9=>9|5=>5|0=>0|n=>n,fun|n=>n⟩
theorem Tryz.lays285:Go.Proofs.Lays.n285 Tryz.prog Tryz.lays285_ren:={
 mixed:=by kernel_rfl
 f285:=Tryz.func327.trans (congrArg some (by kernel_rfl))
 t0:=Tryz.underlying0
 a0:=Tryz.isAgg0
 z0:=Tryz.sizeOf0
 v0:=Tryz.zeroValue0
 t3:=Tryz.underlying3
 a3:=Tryz.isAgg3
 z3:=Tryz.sizeOf3
 v3:=Tryz.zeroValue3
 t4:=Tryz.underlying4
 a4:=Tryz.isAgg4
 z4:=Tryz.sizeOf4
 v4:=Tryz.zeroValue4
 t5:=Tryz.underlying5
 a5:=Tryz.isAgg5
 z5:=Tryz.sizeOf5
 v5:=Tryz.zeroValue5
 t9:=Tryz.underlying9
 a9:=Tryz.isAgg9
 z9:=Tryz.sizeOf9
 v9:=Tryz.zeroValue9
 t37:=Tryz.underlying123
 a37:=Tryz.isAgg123
 z37:=Tryz.sizeOf123
 v37:=Tryz.zeroValue123
 t51:=Tryz.underlying299
 a51:=Tryz.isAgg299
 z51:=Tryz.sizeOf299
 v51:=Tryz.zeroValue299
 t53:=Tryz.underlying117
 a53:=Tryz.isAgg117
 z53:=Tryz.sizeOf117
 v53:=Tryz.zeroValue117 }
open Go.RowKit Go.Sort Go.Lib in
theorem Tryz.internal_strconv_formatBase10 (blk off cap:Nat) (u:Nat) (d:Array UInt8) (w:World) (hH:Holds (fun (b:UInt8)=>Value.int .u8 (b.toNat:Int)) w blk off d) (hu:u < 10 ^ d.size) (hu64:u < 18446744073709551616) (hsz:d.size < 4611686018427387904) :
  Calls Tryz.prog 327 #[.slice (some ⟨blk,off,none⟩) d.size cap,.int .u64 u] w fun e w' =>
   e=.returned (.tuple #[])∧∃ (n v':Nat) (dk:Array UInt8),w'=(putRow (fun (b:UInt8)=>Value.int .u8 (b.toNat:Int)) w blk off dk).drewN n∧FmtInv d.size u 0 v' dk:=Any.internal_strconv_formatBase10 Tryz.lays285 blk off cap u d w hH hu hu64 hsz
def Tryz.laysM171_ren:Go.Shelf.Ren:=⟨fun|171=>218|243=>267|246=>297|283=>325|284=>326|285=>327|286=>328|129=>292|317=>346|318=>347|319=>348|320=>349|337=>357|338=>358|n=>n,fun|3=>3|9=>9|2=>2|4=>4|171=>331|0=>0|53=>117|37=>123|5=>5|173=>333|212=>352|51=>299|20=>20|213=>353|46=>265|232=>369|233=>370|n=>n,fun|17=>1|18=>6|19=>7|n=>n⟩
theorem Tryz.laysM171:Go.Proofs.LaysM.n171 Tryz.prog Tryz.laysM171_ren:={
 mixed:=by kernel_rfl
 f129:=Tryz.func292.trans (congrArg some (by kernel_rfl))
 f171:=Tryz.func218.trans (congrArg some (by kernel_rfl))
 f243:=Tryz.func267.trans (congrArg some (by kernel_rfl))
 f246:=Tryz.func297.trans (congrArg some (by kernel_rfl))
 f283:=Tryz.func325.trans (congrArg some (by kernel_rfl))
 f284:=Tryz.func326.trans (congrArg some (by kernel_rfl))
 f285:=Tryz.func327.trans (congrArg some (by kernel_rfl))
 f286:=Tryz.func328.trans (congrArg some (by kernel_rfl))
 f317:=Tryz.func346.trans (congrArg some (by kernel_rfl))
 f318:=Tryz.func347.trans (congrArg some (by kernel_rfl))
 f319:=Tryz.func348.trans (congrArg some (by kernel_rfl))
 f320:=Tryz.func349.trans (congrArg some (by kernel_rfl))
 f337:=Tryz.func357.trans (congrArg some (by kernel_rfl))
 f338:=Tryz.func358.trans (congrArg some (by kernel_rfl))
 t0:=Tryz.underlying0
 a0:=Tryz.isAgg0
 z0:=Tryz.sizeOf0
 v0:=Tryz.zeroValue0
 t2:=Tryz.underlying2
 a2:=Tryz.isAgg2
 z2:=Tryz.sizeOf2
 v2:=Tryz.zeroValue2
 t3:=Tryz.underlying3
 a3:=Tryz.isAgg3
 z3:=Tryz.sizeOf3
 v3:=Tryz.zeroValue3
 t4:=Tryz.underlying4
 a4:=Tryz.isAgg4
 z4:=Tryz.sizeOf4
 v4:=Tryz.zeroValue4
 t5:=Tryz.underlying5
 a5:=Tryz.isAgg5
 z5:=Tryz.sizeOf5
 v5:=Tryz.zeroValue5
 t9:=Tryz.underlying9
 a9:=Tryz.isAgg9
 z9:=Tryz.sizeOf9
 v9:=Tryz.zeroValue9
 t20:=Tryz.underlying20
 a20:=Tryz.isAgg20
 z20:=Tryz.sizeOf20
 v20:=Tryz.zeroValue20
 t37:=Tryz.underlying123
 a37:=Tryz.isAgg123
 z37:=Tryz.sizeOf123
 v37:=Tryz.zeroValue123
 t46:=Tryz.underlying265
 a46:=Tryz.isAgg265
 z46:=Tryz.sizeOf265
 v46:=Tryz.zeroValue265
 t51:=Tryz.underlying299
 a51:=Tryz.isAgg299
 z51:=Tryz.sizeOf299
 v51:=Tryz.zeroValue299
 t53:=Tryz.underlying117
 a53:=Tryz.isAgg117
 z53:=Tryz.sizeOf117
 v53:=Tryz.zeroValue117
 t171:=Tryz.underlying331
 a171:=Tryz.isAgg331
 z171:=Tryz.sizeOf331
 v171:=Tryz.zeroValue331
 t173:=Tryz.underlying333
 a173:=Tryz.isAgg333
 z173:=Tryz.sizeOf333
 v173:=Tryz.zeroValue333
 t212:=Tryz.underlying352
 a212:=Tryz.isAgg352
 z212:=Tryz.sizeOf352
 v212:=Tryz.zeroValue352
 t213:=Tryz.underlying353
 a213:=Tryz.isAgg353
 z213:=Tryz.sizeOf353
 t232:=Tryz.underlying369
 a232:=Tryz.isAgg369
 z232:=Tryz.sizeOf369
 v232:=Tryz.zeroValue369
 t233:=Tryz.underlying370
 a233:=Tryz.isAgg370
 z233:=Tryz.sizeOf370
 v233:=Tryz.zeroValue370
 g17:=by kernel_rfl
 g18:=by kernel_rfl
 g19:=by kernel_rfl
 i0:=by kernel_rfl
 i2:=by kernel_rfl
 i3:=by kernel_rfl
 i4:=by kernel_rfl
 i5:=by kernel_rfl
 i9:=by kernel_rfl
 i20:=by kernel_rfl
 i37:=by kernel_rfl
 i46:=by kernel_rfl
 i51:=by kernel_rfl
 i53:=by kernel_rfl
 i171:=by kernel_rfl
 i173:=by kernel_rfl
 i212:=by kernel_rfl
 i232:=by kernel_rfl
 i233:=by kernel_rfl
 m17:=by kernel_rfl
 m18:=by kernel_rfl
 m19:=by kernel_rfl }
open Go.RowKit Go.Sort Go.Lib in
theorem Tryz.strconv_Itoa (n : Int) (h0 : -9223372036854775808 ≤ n) (h1 : n ≤ 9223372036854775807) (w : World) (htab : Lib.TabIs Tryz.prog w "internal/strconv.uint64pow10" .u64 Lib.pow10Tab) :
  Calls Tryz.prog 218 #[.int .i64 n] w fun e w'=>e=.returned (.string ⟨(Lib.itoa n).toArray⟩)∧∃ k os,w'=grow (w.drewN k) os:=Any.strconv_Itoa Tryz.laysM171 n h0 h1 w htab
def Tryz.laysPu14_ren:Go.Shelf.Ren:=⟨fun|14=>296|16=>323|17=>324|19=>340|20=>341|21=>342|22=>343|23=>344|24=>345|25=>355|27=>218|26=>356|28=>267|29=>297|30=>325|31=>326|32=>327|33=>328|35=>292|34=>346|36=>347|37=>348|38=>349|39=>357|40=>358|n=>n,fun|9=>9|3=>3|22=>117|24=>287|25=>304|4=>4|34=>346|5=>5|36=>265|37=>123|0=>0|39=>348|21=>21|44=>359|47=>316|50=>368|48=>366|2=>2|52=>331|55=>333|59=>352|60=>299|20=>20|61=>353|65=>369|66=>370|67=>261|n=>n,fun|0=>2|1=>3|2=>1|3=>6|4=>7|n=>n⟩
theorem Tryz.laysPu14:Go.Proofs.LaysPu.n14 Tryz.prog Tryz.laysPu14_ren:={
 mixed:=by kernel_rfl
 f14:=Tryz.func296.trans (congrArg some (by kernel_rfl))
 f16:=Tryz.func323.trans (congrArg some (by kernel_rfl))
 f17:=Tryz.func324.trans (congrArg some (by kernel_rfl))
 f19:=Tryz.func340.trans (congrArg some (by kernel_rfl))
 f20:=Tryz.func341.trans (congrArg some (by kernel_rfl))
 f21:=Tryz.func342.trans (congrArg some (by kernel_rfl))
 f22:=Tryz.func343.trans (congrArg some (by kernel_rfl))
 f23:=Tryz.func344.trans (congrArg some (by kernel_rfl))
 f24:=Tryz.func345.trans (congrArg some (by kernel_rfl))
 f25:=Tryz.func355.trans (congrArg some (by kernel_rfl))
 f26:=Tryz.func356.trans (congrArg some (by kernel_rfl))
 f27:=Tryz.func218.trans (congrArg some (by kernel_rfl))
 f28:=Tryz.func267.trans (congrArg some (by kernel_rfl))
 f29:=Tryz.func297.trans (congrArg some (by kernel_rfl))
 f30:=Tryz.func325.trans (congrArg some (by kernel_rfl))
 f31:=Tryz.func326.trans (congrArg some (by kernel_rfl))
 f32:=Tryz.func327.trans (congrArg some (by kernel_rfl))
 f33:=Tryz.func328.trans (congrArg some (by kernel_rfl))
 f34:=Tryz.func346.trans (congrArg some (by kernel_rfl))
 f35:=Tryz.func292.trans (congrArg some (by kernel_rfl))
 f36:=Tryz.func347.trans (congrArg some (by kernel_rfl))
 f37:=Tryz.func348.trans (congrArg some (by kernel_rfl))
 f38:=Tryz.func349.trans (congrArg some (by kernel_rfl))
 f39:=Tryz.func357.trans (congrArg some (by kernel_rfl))
 f40:=Tryz.func358.trans (congrArg some (by kernel_rfl))
 t0:=Tryz.underlying0
 a0:=Tryz.isAgg0
 z0:=Tryz.sizeOf0
 v0:=Tryz.zeroValue0
 i0:=by kernel_rfl
 t2:=Tryz.underlying2
 a2:=Tryz.isAgg2
 z2:=Tryz.sizeOf2
 v2:=Tryz.zeroValue2
 i2:=by kernel_rfl
 t3:=Tryz.underlying3
 a3:=Tryz.isAgg3
 z3:=Tryz.sizeOf3
 v3:=Tryz.zeroValue3
 i3:=by kernel_rfl
 t4:=Tryz.underlying4
 a4:=Tryz.isAgg4
 z4:=Tryz.sizeOf4
 v4:=Tryz.zeroValue4
 i4:=by kernel_rfl
 t5:=Tryz.underlying5
 a5:=Tryz.isAgg5
 z5:=Tryz.sizeOf5
 v5:=Tryz.zeroValue5
 i5:=by kernel_rfl
 t9:=Tryz.underlying9
 a9:=Tryz.isAgg9
 z9:=Tryz.sizeOf9
 v9:=Tryz.zeroValue9
 i9:=by kernel_rfl
 t20:=Tryz.underlying20
 a20:=Tryz.isAgg20
 z20:=Tryz.sizeOf20
 v20:=Tryz.zeroValue20
 i20:=by kernel_rfl
 t21:=Tryz.underlying21
 a21:=Tryz.isAgg21
 z21:=Tryz.sizeOf21
 v21:=Tryz.zeroValue21
 i21:=by kernel_rfl
 t22:=Tryz.underlying117
 a22:=Tryz.isAgg117
 z22:=Tryz.sizeOf117
 v22:=Tryz.zeroValue117
 i22:=by kernel_rfl
 t24:=Tryz.underlying287
 a24:=Tryz.isAgg287
 z24:=Tryz.sizeOf287
 v24:=Tryz.zeroValue287
 i24:=by kernel_rfl
 t25:=Tryz.underlying304
 a25:=Tryz.isAgg304
 z25:=Tryz.sizeOf304
 v25:=Tryz.zeroValue304
 i25:=by kernel_rfl
 t34:=Tryz.underlying346
 a34:=Tryz.isAgg346
 z34:=Tryz.sizeOf346
 v34:=Tryz.zeroValue346
 i34:=by kernel_rfl
 c34:=by kernel_rfl
 t36:=Tryz.underlying265
 a36:=Tryz.isAgg265
 z36:=Tryz.sizeOf265
 v36:=Tryz.zeroValue265
 i36:=by kernel_rfl
 t37:=Tryz.underlying123
 a37:=Tryz.isAgg123
 z37:=Tryz.sizeOf123
 v37:=Tryz.zeroValue123
 i37:=by kernel_rfl
 t39:=Tryz.underlying348
 a39:=Tryz.isAgg348
 z39:=Tryz.sizeOf348
 v39:=Tryz.zeroValue348
 i39:=by kernel_rfl
 t44:=Tryz.underlying359
 a44:=Tryz.isAgg359
 z44:=Tryz.sizeOf359
 v44:=Tryz.zeroValue359
 i44:=by kernel_rfl
 t47:=Tryz.underlying316
 a47:=Tryz.isAgg316
 z47:=Tryz.sizeOf316
 v47:=Tryz.zeroValue316
 i47:=by kernel_rfl
 t48:=Tryz.underlying366
 a48:=Tryz.isAgg366
 z48:=Tryz.sizeOf366
 v48:=Tryz.zeroValue366
 i48:=by kernel_rfl
 t50:=Tryz.underlying368
 a50:=Tryz.isAgg368
 z50:=Tryz.sizeOf368
 v50:=Tryz.zeroValue368
 i50:=by kernel_rfl
 t52:=Tryz.underlying331
 a52:=Tryz.isAgg331
 z52:=Tryz.sizeOf331
 v52:=Tryz.zeroValue331
 i52:=by kernel_rfl
 t55:=Tryz.underlying333
 a55:=Tryz.isAgg333
 z55:=Tryz.sizeOf333
 v55:=Tryz.zeroValue333
 i55:=by kernel_rfl
 t59:=Tryz.underlying352
 a59:=Tryz.isAgg352
 z59:=Tryz.sizeOf352
 v59:=Tryz.zeroValue352
 i59:=by kernel_rfl
 t60:=Tryz.underlying299
 a60:=Tryz.isAgg299
 z60:=Tryz.sizeOf299
 v60:=Tryz.zeroValue299
 i60:=by kernel_rfl
 t61:=Tryz.underlying353
 a61:=Tryz.isAgg353
 z61:=Tryz.sizeOf353
 t65:=Tryz.underlying369
 a65:=Tryz.isAgg369
 z65:=Tryz.sizeOf369
 v65:=Tryz.zeroValue369
 i65:=by kernel_rfl
 t66:=Tryz.underlying370
 a66:=Tryz.isAgg370
 z66:=Tryz.sizeOf370
 v66:=Tryz.zeroValue370
 i66:=by kernel_rfl
 t67:=Tryz.underlying261
 a67:=Tryz.isAgg261
 z67:=Tryz.sizeOf261
 v67:=Tryz.zeroValue261
 i67:=by kernel_rfl
 g0:=by kernel_rfl
 m0:=by kernel_rfl
 g1:=by kernel_rfl
 m1:=by kernel_rfl
 g2:=by kernel_rfl
 m2:=by kernel_rfl
 g3:=by kernel_rfl
 m3:=by kernel_rfl
 g4:=by kernel_rfl
 m4:=by kernel_rfl }
open Go.RowKit in
theorem Tryz.strconv_ParseUint_10_at64_ok (s:ByteArray) (hmax:s.size≤9223372036854775806) (u:Nat) (h:Lib.parseUintB 64 s.data.toList=.ok u) (w:World) :
  Calls Tryz.prog 296 #[.string s,.int .i64 10,.int .i64 64] w fun e w'=>e=.returned (.tuple #[.int .u64 u,.nilIface])∧(w'=w∨w'=Lib.bytesWorld w 5 s):=Any.strconv_ParseUint_10_at64_ok Tryz.laysPu14 s hmax u h w
def Tryz.lays145_ren:Go.Shelf.Ren:=⟨fun|145=>262|220=>293|219=>314|217=>331|225=>332|224=>333|267=>334|266=>350|314=>351|n=>n,fun|9=>9|4=>4|59=>266|3=>3|5=>5|46=>265|146=>354|51=>299|n=>n,fun|1=>0|n=>n⟩
theorem Tryz.lays145:Go.Proofs.Lays.n145 Tryz.prog Tryz.lays145_ren:={
 mixed:=by kernel_rfl
 f145:=Tryz.func262.trans (congrArg some (by kernel_rfl))
 f217:=Tryz.func331.trans (congrArg some (by kernel_rfl))
 f219:=Tryz.func314.trans (congrArg some (by kernel_rfl))
 f220:=Tryz.func293.trans (congrArg some (by kernel_rfl))
 f224:=Tryz.func333.trans (congrArg some (by kernel_rfl))
 f225:=Tryz.func332.trans (congrArg some (by kernel_rfl))
 f266:=Tryz.func350.trans (congrArg some (by kernel_rfl))
 f267:=Tryz.func334.trans (congrArg some (by kernel_rfl))
 f314:=Tryz.func351.trans (congrArg some (by kernel_rfl))
 t3:=Tryz.underlying3
 a3:=Tryz.isAgg3
 z3:=Tryz.sizeOf3
 v3:=Tryz.zeroValue3
 t4:=Tryz.underlying4
 a4:=Tryz.isAgg4
 z4:=Tryz.sizeOf4
 v4:=Tryz.zeroValue4
 t5:=Tryz.underlying5
 a5:=Tryz.isAgg5
 z5:=Tryz.sizeOf5
 v5:=Tryz.zeroValue5
 t9:=Tryz.underlying9
 a9:=Tryz.isAgg9
 z9:=Tryz.sizeOf9
 v9:=Tryz.zeroValue9
 t46:=Tryz.underlying265
 a46:=Tryz.isAgg265
 z46:=Tryz.sizeOf265
 v46:=Tryz.zeroValue265
 t51:=Tryz.underlying299
 a51:=Tryz.isAgg299
 z51:=Tryz.sizeOf299
 v51:=Tryz.zeroValue299
 t59:=Tryz.underlying266
 a59:=Tryz.isAgg266
 z59:=Tryz.sizeOf266
 v59:=Tryz.zeroValue266
 t146:=Tryz.underlying354
 a146:=Tryz.isAgg354
 z146:=Tryz.sizeOf354
 v146:=Tryz.zeroValue354
 g1:=by kernel_rfl }
open Go.RowKit Go.Lib in
theorem Tryz.strings_Cut (s sep:ByteArray) (m:Int) (w:World) (hs:s.size < 4294967281) (hm:w.cell? ⟨0,0,none⟩=some (.int .i64 m)) :
  Calls Tryz.prog 262 #[.string s,.string sep] w fun e w'=>e=.returned (.tuple #[.string ⟨(Lib.cut s.data.toList sep.data.toList).1.toArray⟩,.string ⟨(Lib.cut s.data.toList sep.data.toList).2.1.toArray⟩,.bool (Lib.cut s.data.toList sep.data.toList).2.2])∧∃ n,w'=w.drewN n:=Any.strings_Cut Tryz.lays145 s sep m w hs hm
end Go.Proofs.YtigapglmipmbeaaGreatDoor
namespace Go.Proofs.YtigapglmipmbeaaGreatDoor
open Go.Shelf Go.RowKit
theorem Tryz.sizeBuilder:(Tryz.prog.info? 285).map (·.size)=some 2:=by kernel_rfl
theorem Tryz.copyCheck_used (b:Nat) (w:World) (h0:w.cell? ⟨b,0,none⟩=some (.pointer (some ⟨b,0,none⟩))) :
  Calls Tryz.prog 308 #[.pointer (some ⟨b,0,none⟩)] w fun e w'=>e=.returned (.tuple #[])∧w'=w:=by
 obtain ⟨j,hj,_⟩:=Option.map_eq_some_iff.1 Tryz.sizeBuilder
 go_enter Tryz.func308,Tryz.ntmps308
 go_wp2
 rw [Lib.run_neq_ptr_same w _ Tryz.underlying283 hj]
 go_wp2
 go_end0
 exact ⟨rfl,rfl⟩
theorem Tryz.copyCheck_fresh (b:Nat) (w:World) (h0:w.cell? ⟨b,0,none⟩=some (.pointer none)) (hsh:w.shape? b=some (285,2)) (hfz:w.frozen? ⟨b,0,none⟩=false) :
  Calls Tryz.prog 308 #[.pointer (some ⟨b,0,none⟩)] w fun e w'=>e=.returned (.tuple #[])∧w'=w.setCell ⟨b,0,none⟩ (.pointer (some ⟨b,0,none⟩)):=by
 obtain ⟨j,hj,hjs⟩:=Option.map_eq_some_iff.1 Tryz.sizeBuilder
 go_enter Tryz.func308,Tryz.ntmps308
 go_wp2
 rw [Lib.run_to_unsafe w ⟨b,0,none⟩ Tryz.underlying283 Tryz.underlying335 hj (by rw [hjs];decide) hsh (Nat.zero_lt_succ 1)]
 simp only [Result.andThen]
 rw [Oper.upon_value]
 go_wp2
 rw [run_callFunc_extern Tryz.func329 (by kernel_rfl) (by kernel_rfl) (by kernel_rfl) (e:=Extern.AbiNoEscape.same) (by kernel_rfl)]
 rw [Lib.run_noEscape]
 simp only [Result.andThen]
 rw [Oper.upon_value]
 go_wp2
 rw [Lib.run_from_unsafe w ⟨b,0,none⟩ Tryz.underlying335 Tryz.underlying283 hj hsh (by kernel_rfl)]
 simp only [Result.andThen]
 rw [Oper.upon_value]
 go_wp2
 go_end0
 exact ⟨rfl,rfl⟩
theorem Tryz.copyCheck_any (B b:Nat) (bs:List Value) (w:World) (h:Lib.IsBuilder 285 5 B b bs w) :
  Calls Tryz.prog 308 #[.pointer (some ⟨b,0,none⟩)] w fun e w'=>e=.returned (.tuple #[])∧(Lib.BuilderAt 285 5 B b (.pointer (some ⟨b,0,none⟩)) bs w'∧Below B w w'∧Lib.OthersKept 5 (some b) w w'):=by
 rcases h with h|h
 ·refine (Tryz.copyCheck_fresh b w h.cell0 h.shape h.frozen0).mono ?_
  rintro e w' ⟨rfl,rfl⟩
  exact ⟨rfl,h.used _,(Below.refl B w).setCell (p:=⟨b,0,none⟩) h.1 _,(Lib.OthersKept.refl _ _ _).setCell ⟨b,0,none⟩ rfl _⟩
 ·refine (Tryz.copyCheck_used b w h.cell0).mono ?_
  rintro e w' ⟨rfl,rfl⟩
  exact ⟨rfl,h,Below.refl B _,Lib.OthersKept.refl _ _ _⟩
theorem ownsRow_kind {w:World} {base:Nat} {e:TypeId} {size:Nat} {v:Value} {n:Nat} {xs:List Value} (h:w.ownsRow base e size v n xs):∀ k,v.ownBlock=some k→∃ c fz,w.heap[k]?=some (.cells c e fz):=by
 intro k hk
 rcases h.2 with ⟨rfl,_⟩|⟨g,cap,cur,rfl,_,hg,_⟩
 ·cases hk
 ·simp only [Value.ownBlock,Option.some.injEq] at hk
  subst hk
  exact ⟨cur,_,hg⟩
theorem Tryz.infoByte:(Tryz.prog.info? 5).map (fun i=>(i.zero,i.size,i.bytes))=some (some (.int .u8 0),1,1):=by kernel_rfl
theorem Tryz.writeString (B b:Nat) (bs:List Value) (s:ByteArray) (w:World) (h:Lib.IsBuilder 285 5 B b bs w) (hlen:bs.length+s.size≤140737488355328) (hBw:B≤w.heap.size) :
  Calls Tryz.prog 280 #[.pointer (some ⟨b,0,none⟩),.string s] w fun e w'=>e=.returned (.tuple #[.int .i64 s.size,.nilIface])∧(Lib.BuilderAt 285 5 B b (.pointer (some ⟨b,0,none⟩)) (bs++Lib.strCells s) w'∧Below B w w'∧Lib.OthersKept 5 (some b) w w'):=by
 obtain ⟨i0,hi,hz0,hz1,hz2⟩:=info_parts Tryz.infoByte
 go_enter Tryz.func280,Tryz.ntmps280
 go_wp2_with (go_at_call 308;refine (Tryz.copyCheck_any B b bs _ h).mono ?_)
 rintro e w1 ⟨rfl,h1,hb1,hk1⟩
 obtain ⟨hB,v,hbk,hown,hne⟩:=h1
 have HK1:=Lib.hid (And.intro hk1 (ownsRow_kind hown))
 clear hk1
 have c0:w1.cell? ⟨b,0,none⟩=some (.pointer (some ⟨b,0,none⟩)):=by rw [Lib.cell_of_heap hbk];rfl
 have c1:w1.cell? ⟨b,1,none⟩=some v:=by rw [Lib.cell_of_heap hbk];rfl
 go_wp2_with (at_builtin;refine Lib.wpList_append_own_string _ rfl _ _ 123 9 rfl B 5 i0 Tryz.underlying123 Tryz.underlying9 hi hz0 hz1 hz2 _ _ _ rfl hown s rfl ?c3 ?c4 ?c5 ?_)
 case c3=>unfold maxLen;omega
 case c4=>omega
 case c5=>have:=hb1.size;omega
 intro v' w2 hown' hgrow _
 have hlt:b < w1.heap.size:=by
  rcases Nat.lt_or_ge b w1.heap.size with h'|h'
  ·exact h'
  ·simp [Array.getElem?_eq_none h'] at hbk
 have hb2:w2.heap[b]?=some (.cells #[.pointer (some ⟨b,0,none⟩),v] 285 (0,0)):=by
  rw [hgrow.block b hlt (fun e=>hne e.symm)]
  exact hbk
 have d0:w2.cell? ⟨b,0,none⟩=some (.pointer (some ⟨b,0,none⟩)):=by rw [Lib.cell_of_heap hb2];rfl
 have d1:w2.cell? ⟨b,1,none⟩=some v:=by rw [Lib.cell_of_heap hb2];rfl
 have f1:w2.frozen? ⟨b,1,none⟩=false:=Lib.frozen_of_heap hb2 1
 obtain ⟨ao,n',cap,rfl⟩:∃ ao n' cap,v'=.slice ao n' cap:=by
  rcases hown'.2 with ⟨hv,_⟩|⟨g,cap,cur,hv,_⟩
  ·exact ⟨_,_,_,hv⟩
  ·exact ⟨_,_,_,hv⟩
 go_wp2
 go_ret2
 refine ⟨rfl,?_,?_,(HK1.out.1.grown hgrow HK1.out.2).setCell ⟨b,1,none⟩ rfl _⟩
 ·exact Lib.BuilderAt.put (T:=285) (e:=5) hB hb2 (bs':=bs++Lib.strCells s) (by simpa [Lib.strCells_length] using hown') (by decide)
 ·exact (hb1.grown hgrow (by have:=hb1.size;omega) (fun k hk=>(hown.lt k hk).1)).setCell (p:=⟨b,1,none⟩) hB _
theorem Tryz.builderString (B b:Nat) (l:List UInt8) (w:World) (h:Lib.IsBuilder 285 5 B b (Lib.byteCells l) w) (h0:l≠[]) :
  Calls Tryz.prog 281 #[.pointer (some ⟨b,0,none⟩)] w fun e w'=>e=.returned (.string ⟨l.toArray⟩)∧Below B w w'∧Lib.OthersKept 5 (some b) w w' :=
 (Any.Builder_String_k Tryz.lays169 Tryz.Builder_Extra_169 B b l w (Lib.IsBuilderF.of h) h0).mono fun _ _ ⟨e,_,h2,h3⟩=>⟨e,h2,h3⟩
end Go.Proofs.YtigapglmipmbeaaGreatDoor
namespace Go.Proofs.YtigapglmipmbeaaGreatDoor.Lim
def B:Nat:=1000000000
theorem B_pos:0 < B:=by decide
theorem B_val:B=1000000000:=rfl
def val:List Nat→Nat
 | []=>0
 | x::r=>x+B*val r
def Sm (l:List Nat):Prop:=∀ x∈l,x < B
theorem Sm.nil:Sm []:=fun _ h=>by cases h
theorem Sm.cons {x:Nat} {l:List Nat} (hx:x < B) (h:Sm l):Sm (x::l):=fun y hy=>by
 rcases List.mem_cons.1 hy with rfl|hy
 ·exact hx
 ·exact h y hy
theorem Sm.head {x:Nat} {l:List Nat} (h:Sm (x::l)):x < B:=h x (List.mem_cons_self ..)
theorem Sm.tail {x:Nat} {l:List Nat} (h:Sm (x::l)):Sm l:=fun y hy=>h y (List.mem_cons_of_mem _ hy)
theorem Sm.append {a b:List Nat} (ha:Sm a) (hb:Sm b):Sm (a++b):=fun y hy=>by
 rcases List.mem_append.1 hy with hy|hy
 ·exact ha y hy
 ·exact hb y hy
theorem Sm.left {a b:List Nat} (h:Sm (a++b)):Sm a:=fun y hy=>h y (List.mem_append_left _ hy)
theorem Sm.take {l:List Nat} (h:Sm l) (k:Nat):Sm (l.take k):=fun y hy=>h y (List.mem_of_mem_take hy)
theorem Sm.drop {l:List Nat} (h:Sm l) (k:Nat):Sm (l.drop k):=fun y hy=>h y (List.mem_of_mem_drop hy)
theorem Sm.zeros (k:Nat):Sm (List.replicate k 0):=fun y hy=>by
 rw [(List.mem_replicate.1 hy).2];exact B_pos
theorem Sm.set {l:List Nat} (h:Sm l) (i:Nat) {x:Nat} (hx:x < B):Sm (l.set i x):=fun y hy=>by
 rcases List.mem_or_eq_of_mem_set hy with hy|rfl
 ·exact h y hy
 ·exact hx
theorem Sm.get {l:List Nat} (h:Sm l) (i:Nat):l[i]?.getD 0 < B:=by
 by_cases hi:i < l.length
 ·simp [hi,h _ (List.getElem_mem hi)]
 ·simp [hi,B_pos]
theorem Sm.one {x:Nat} (hx:x < B):Sm [x]:=Sm.nil.cons hx
theorem Sm.snoc {l:List Nat} {x:Nat} (h:Sm l) (hx:x < B):Sm (l++[x]):=h.append (Sm.one hx)
theorem val_cons (x:Nat) (l:List Nat):val (x::l)=x+B*val l:=rfl
theorem val_append (a b:List Nat):val (a++b)=val a+B ^ a.length*val b:=by
 induction a with
 | nil=>simp [val]
 | cons x r ih =>
  simp only [List.cons_append,val,ih,List.length_cons,Nat.pow_succ,Nat.mul_add]
  rw [Nat.add_assoc,Nat.mul_comm (B ^ r.length) B,Nat.mul_assoc]
theorem val_zeros (k:Nat):val (List.replicate k 0)=0:=by
 induction k with
 | zero=>rfl
 | succ k ih=>simp [List.replicate_succ,val,ih]
theorem val_snoc (a:List Nat) (x:Nat):val (a++[x])=val a+B ^ a.length*x:=by
 rw [val_append];simp [val]
theorem val_lt {l:List Nat} (h:Sm l):val l < B ^ l.length:=by
 induction l with
 | nil=>simp [val]
 | cons x r ih =>
  have h1:=h.head
  have h2:=ih h.tail
  simp only [val,List.length_cons,Nat.pow_succ]
  have h3:B*val r+B≤B*B ^ r.length:=by
   rw [← Nat.mul_succ];exact Nat.mul_le_mul_left _ h2
  rw [Nat.mul_comm (B ^ r.length) B]
  omega
theorem val_take_drop (l:List Nat) (k:Nat) (hk:k≤l.length):val l=val (l.take k)+B ^ k*val (l.drop k):=by
 have:=val_append (l.take k) (l.drop k)
 rw [List.take_append_drop,List.length_take,Nat.min_eq_left hk] at this
 exact this
theorem val_take_succ (l:List Nat) (k:Nat) (hk:k < l.length):val (l.take (k+1))=val (l.take k)+B ^ k*l[k]?.getD 0:=by
 rw [List.take_succ_eq_append_getElem hk,val_snoc,List.length_take,Nat.min_eq_left (by omega)]
 simp [hk]
theorem val_drop (l:List Nat) (k:Nat) (hk:k < l.length):val (l.drop k)=l[k]?.getD 0+B*val (l.drop (k+1)):=by
 rw [List.drop_eq_getElem_cons hk,val];simp [hk]
theorem val_set (l:List Nat) (i x:Nat) (hi:i < l.length):val (l.set i x)+B ^ i*l[i]?.getD 0=val l+B ^ i*x:=by
 induction l generalizing i with
 | nil=>simp at hi
 | cons y r ih =>
  cases i with
  | zero=>simp [val];omega
  | succ i =>
   have:=ih i (by simpa using hi)
   simp only [List.set_cons_succ,val,Nat.pow_succ,List.getElem?_cons_succ]
   have h2:B*(val (r.set i x)+B ^ i*r[i]?.getD 0)=B*(val r+B ^ i*x):=by rw [this]
   rw [Nat.mul_add,Nat.mul_add] at h2
   rw [Nat.mul_comm (B ^ i) B,Nat.mul_assoc,Nat.mul_assoc]
   omega
def Can (l:List Nat):Prop:=Sm l∧l.getLast?≠some 0
def toL (n:Nat):List Nat:=if _h:n=0 then [] else n % B::toL (n / B)
termination_by n
decreasing_by exact Nat.div_lt_self (by omega) (by decide)
theorem toL_zero:toL 0=[]:=by rw [toL];simp
theorem toL_pos {n:Nat} (h:n≠0):toL n=n % B::toL (n / B):=by rw [toL];simp [h]
theorem val_toL (n:Nat):val (toL n)=n:=by
 induction n using Nat.strongRecOn with
 | _ n ih =>
  by_cases h:n=0
  ·subst h;rw [toL_zero];rfl
  ·rw [toL_pos h,val,ih _ (Nat.div_lt_self (by omega) (by decide))]
   exact Nat.mod_add_div n B
theorem sm_toL (n:Nat):Sm (toL n):=by
 induction n using Nat.strongRecOn with
 | _ n ih =>
  by_cases h:n=0
  ·subst h;rw [toL_zero];exact Sm.nil
  ·rw [toL_pos h];exact (ih _ (Nat.div_lt_self (by omega) (by decide))).cons (Nat.mod_lt _ B_pos)
theorem toL_eq_nil {n:Nat}:toL n=[]↔n=0:=by
 constructor
 ·intro h;have:=val_toL n;rw [h] at this;simpa [val] using this.symm
 ·rintro rfl;exact toL_zero
theorem can_toL (n:Nat):Can (toL n):=by
 refine ⟨sm_toL n,?_⟩
 induction n using Nat.strongRecOn with
 | _ n ih =>
  by_cases h:n=0
  ·subst h;rw [toL_zero];simp
  ·rw [toL_pos h]
   have:=ih _ (Nat.div_lt_self (by omega) (show 1 < B by decide))
   rw [List.getLast?_cons]
   by_cases hz:n / B=0
   ·rw [hz,toL_zero]
    have h1:n % B=n:=Nat.mod_eq_of_lt (by rcases Nat.div_eq_zero_iff.1 hz with hz|hz;(exact absurd hz (by decide));exact hz)
    simp [h1,h]
   ·rw [toL_pos hz] at this ⊢
    rw [List.getLast?_cons] at this ⊢
    simpa using this
theorem Can.toL {l:List Nat} (h:Can l):toL (val l)=l:=by
 obtain ⟨hs,hl⟩:=h
 induction l with
 | nil=>exact toL_zero
 | cons x r ih =>
  have hx:=hs.head
  have hr:Lim.toL (val r)=r:=by
   cases r with
   | nil=>exact toL_zero
   | cons y r' =>
    refine ih hs.tail ?_
    rw [List.getLast?_cons] at hl ⊢
    rw [List.getLast?_cons] at hl
    simpa using hl
  have hn:val (x::r)≠0:=by
   rw [val]
   cases r with
   | nil=>simp [val];simpa using hl
   | cons y r' =>
    have:val (y::r')≠0:=fun e=>by rw [e,toL_zero] at hr;cases hr
    have:=Nat.mul_pos B_pos (Nat.pos_of_ne_zero this)
    omega
  rw [toL_pos hn,val,Nat.add_mul_mod_self_left,Nat.mod_eq_of_lt hx,Nat.add_mul_div_left _ _ B_pos,Nat.div_eq_of_lt hx,Nat.zero_add,hr]
theorem can_of_ge {l:List Nat} (hs:Sm l) (h:l≠[]→B ^ (l.length - 1)≤val l):Can l:=by
 refine ⟨hs,fun e=>?_⟩
 obtain ⟨r,rfl⟩:∃ r,l=r++[0]:=List.getLast?_eq_some_iff.1 e
 have h1:=h (by simp)
 rw [val_snoc] at h1
 have:=val_lt hs.left
 simp at h1
 omega
theorem toL_of_ge {l:List Nat} {n:Nat} (hs:Sm l) (hn:val l=n) (h:l≠[]→B ^ (l.length - 1)≤n):l=toL n:=by
 subst hn;exact (can_of_ge hs h).toL.symm
theorem Can.ge {l:List Nat} (h:Can l) (hne:l≠[]):B ^ (l.length - 1)≤val l:=by
 obtain ⟨r,x,rfl⟩:∃ r x,l=r++[x]:=⟨_,_,(List.dropLast_concat_getLast hne).symm⟩
 have hx:x≠0:=fun e=>h.2 (by simp [e])
 rw [val_snoc]
 simp
 have:B ^ r.length*1≤B ^ r.length*x:=Nat.mul_le_mul_left _ (by omega)
 omega
theorem toL_ge {n:Nat} (h:n≠0):B ^ ((toL n).length - 1)≤n:=by
 have:=(can_toL n).ge (fun e=>h (toL_eq_nil.1 e))
 rwa [val_toL] at this
theorem toL_lt (n:Nat):n < B ^ (toL n).length:=by
 have:=val_lt (sm_toL n);rwa [val_toL] at this
theorem toL_len_le {n k:Nat} (h:n < B ^ k):(toL n).length≤k:=by
 by_cases h0:n=0
 ·subst h0;rw [toL_zero];simp
 ·have h1:=toL_ge h0
  rcases Nat.lt_or_ge k (toL n).length with hlt|hge
  ·have:B ^ k≤B ^ ((toL n).length - 1):=Nat.pow_le_pow_right B_pos (by omega)
   omega
  ·exact hge
theorem toL_len_mono {m n:Nat} (h:m≤n):(toL m).length≤(toL n).length:=toL_len_le (Nat.lt_of_le_of_lt h (toL_lt n))
theorem toL_len_pos {n:Nat}:0 < (toL n).length↔n≠0:=by
 rw [List.length_pos_iff];exact not_congr toL_eq_nil
theorem toL_take {l:List Nat} {k:Nat} (hs:Sm l) (hk:k≤l.length) (hz:∀ i,k≤i→l[i]?.getD 0=0) (hlast:k=0∨l[k - 1]?.getD 0≠0):l.take k=toL (val l):=by
 have hd:val (l.drop k)=0:=by
  have:∀ (r:List Nat),(∀ i:Nat,r[i]?.getD 0=0)→val r=0:=by
   intro r
   induction r with
   | nil=>intro _;rfl
   | cons y r ih =>
    intro h
    have h0:=h 0
    have h1:=ih (fun i=>by have:=h (i+1);simpa using this)
    simp at h0
    simp [val,h0,h1]
  refine this _ (fun i=>?_)
  have:=hz (k+i) (by omega)
  rwa [List.getElem?_drop]
 have hv:val (l.take k)=val l:=by rw [val_take_drop l k hk,hd];simp
 rw [← hv]
 refine (Can.toL ⟨hs.take k,?_⟩).symm
 intro e
 rcases hlast with rfl|hne
 ·simp at e
 ·rw [List.getLast?_take] at e
  split at e
  ·cases e
  ·rename_i hk0
   have hlt:k - 1 < l.length:=by omega
   simp [hlt] at e hne
   exact hne e
theorem val_take_succ' (l:List Nat) (k:Nat):val (l.take (k+1))=val (l.take k)+B ^ k*l[k]?.getD 0:=by
 by_cases hk:k < l.length
 ·exact val_take_succ l k hk
 ·rw [List.take_of_length_le (by omega),List.take_of_length_le (by omega)]
  simp [hk]
theorem val_take_all (l:List Nat) (k:Nat) (hk:l.length≤k):val (l.take k)=val l:=by rw [List.take_of_length_le hk]
theorem div_mod_B (n:Nat):n % B+B*(n / B)=n:=Nat.mod_add_div n B
def AddInv (xs ys:List Nat) (i:Nat) (L:List Nat) (c:Nat):Prop :=
 Sm L∧L.length=i∧val L+B ^ i*c=val (xs.take i)+val (ys.take i)∧c≤1
theorem AddInv.start (xs ys:List Nat):AddInv xs ys 0 [] 0:=⟨Sm.nil,rfl,by simp [val],by omega⟩
theorem AddInv.step {xs ys:List Nat} {i:Nat} {L:List Nat} {c n:Nat} (h:AddInv xs ys i L c) (hx:Sm xs) (hy:Sm ys)
  (hn:n=xs[i]?.getD 0+c+ys[i]?.getD 0):AddInv xs ys (i+1) (L++[n % B]) (n / B):=by
 obtain ⟨h1,h2,h3,h4⟩:=h
 have hxi:=hx.get i
 have hyi:=hy.get i
 refine ⟨h1.snoc (Nat.mod_lt _ B_pos),by simp [h2],?_,?_⟩
 ·rw [val_snoc,h2,val_take_succ',val_take_succ',Nat.pow_succ]
  have e:=div_mod_B n
  have e2:B ^ i*n=B ^ i*(n % B)+B ^ i*B*(n / B):=by
   conv=>lhs;rw [← e]
   rw [Nat.mul_add,Nat.mul_assoc]
  have e3:B ^ i*n=B ^ i*xs[i]?.getD 0+B ^ i*c+B ^ i*ys[i]?.getD 0:=by rw [hn,Nat.mul_add,Nat.mul_add]
  omega
 ·have:n < 2*B:=by omega
  have:n / B < 2:=Nat.div_lt_of_lt_mul (by omega)
  omega
def SubInv (xs ys:List Nat) (i:Nat) (L:List Nat) (c:Nat):Prop :=
 Sm L∧L.length=i∧val L+val (ys.take i)=val (xs.take i)+B ^ i*c∧c≤1
theorem SubInv.start (xs ys:List Nat):SubInv xs ys 0 [] 0:=⟨Sm.nil,rfl,by simp [val],by omega⟩
theorem SubInv.yes {xs ys:List Nat} {i:Nat} {L:List Nat} {c:Nat} (h:SubInv xs ys i L c) (hx:Sm xs)
  (hlt:¬ xs[i]?.getD 0 < c+ys[i]?.getD 0):SubInv xs ys (i+1) (L++[xs[i]?.getD 0 - (c+ys[i]?.getD 0)]) 0:=by
 obtain ⟨h1,h2,h3,h4⟩:=h
 have hxi:=hx.get i
 refine ⟨h1.snoc (by omega),by simp [h2],?_,by omega⟩
 rw [val_snoc,h2,val_take_succ',val_take_succ']
 generalize hn:xs[i]?.getD 0 - (c+ys[i]?.getD 0)=n
 have e:xs[i]?.getD 0=n+c+ys[i]?.getD 0:=by omega
 have e2:B ^ i*xs[i]?.getD 0=B ^ i*n+B ^ i*c+B ^ i*ys[i]?.getD 0:=by rw [e,Nat.mul_add,Nat.mul_add]
 omega
theorem SubInv.no {xs ys:List Nat} {i:Nat} {L:List Nat} {c:Nat} (h:SubInv xs ys i L c) (hy:Sm ys)
  (hlt:xs[i]?.getD 0 < c+ys[i]?.getD 0):SubInv xs ys (i+1) (L++[xs[i]?.getD 0+B - (c+ys[i]?.getD 0)]) 1:=by
 obtain ⟨h1,h2,h3,h4⟩:=h
 have hyi:=hy.get i
 refine ⟨h1.snoc (by omega),by simp [h2],?_,by omega⟩
 rw [val_snoc,h2,val_take_succ',val_take_succ',Nat.pow_succ]
 generalize hn:xs[i]?.getD 0+B - (c+ys[i]?.getD 0)=n
 have e:xs[i]?.getD 0+B=n+c+ys[i]?.getD 0:=by omega
 have e2:B ^ i*(xs[i]?.getD 0+B)=B ^ i*n+B ^ i*c+B ^ i*ys[i]?.getD 0:=by rw [e,Nat.mul_add,Nat.mul_add]
 rw [Nat.mul_add] at e2
 omega
theorem SubInv.done {xs ys:List Nat} {L:List Nat} {c:Nat} (h:SubInv xs ys xs.length L c) (hle:val ys≤val xs) (hlen:ys.length≤xs.length):c=0∧val L=val xs - val ys:=by
 obtain ⟨h1,h2,h3,h4⟩:=h
 rw [val_take_all xs _ (Nat.le_refl _),val_take_all ys _ hlen] at h3
 have:=val_lt h1
 rw [h2] at this
 have hc:c=0:=by
  rcases Nat.eq_zero_or_pos c with h0|h0
  ·exact h0
  ·have:c=1:=by omega
   subst this
   omega
 subst hc
 omega
def MulInv (V:Nat) (ys:List Nat) (i x k:Nat) (O:List Nat) (n:Nat) (c:Nat):Prop :=
 Sm O∧O.length=n∧val O+B ^ (i+k)*c=V+B ^ i*(x*val (ys.take k))∧c < B∧(∀ j,i+ys.length≤j→O[j]?.getD 0=0)
theorem mul_bound {x y c o:Nat} (hx:x < B) (hy:y < B) (hc:c < B) (ho:o < B):o+x*y+c < B*B:=by
 have h1:x*y≤(B - 1)*(B - 1):=Nat.mul_le_mul (by omega) (by omega)
 have h2:(B - 1)*(B - 1)+B+B=B*B+1:=by decide
 omega
theorem MulInv.step {V:Nat} {ys:List Nat} {i x k:Nat} {O:List Nat} {n c:Nat} (h:MulInv V ys i x k O n c) (hx:x < B) (hy:Sm ys) (hk:k < ys.length) (hi:i+k < n)
  {m:Nat} (hm:m=O[i+k]?.getD 0+x*ys[k]?.getD 0+c):MulInv V ys i x (k+1) (O.set (i+k) (m % B)) n (m / B):=by
 obtain ⟨h1,h2,h3,h4,h5⟩:=h
 have hyk:=hy.get k
 have ho:=h1.get (i+k)
 have hb:=mul_bound hx hyk h4 ho
 refine ⟨h1.set _ (Nat.mod_lt _ B_pos),by simp [h2],?_,Nat.div_lt_of_lt_mul (by omega),?_⟩
 ·have e1:=val_set O (i+k) (m % B) (by omega)
  rw [val_take_succ']
  have e:=div_mod_B m
  have e2:B ^ (i+k)*m=B ^ (i+k)*(m % B)+B ^ (i+(k+1))*(m / B):=by
   conv=>lhs;rw [← e]
   rw [Nat.mul_add,← Nat.mul_assoc,← Nat.add_assoc,Nat.pow_succ]
  have e3:B ^ (i+k)*m=B ^ (i+k)*O[i+k]?.getD 0+B ^ (i+k)*(x*ys[k]?.getD 0)+B ^ (i+k)*c:=by rw [hm,Nat.mul_add,Nat.mul_add]
  have e4:B ^ i*(x*(val (ys.take k)+B ^ k*ys[k]?.getD 0))=B ^ i*(x*val (ys.take k))+B ^ (i+k)*(x*ys[k]?.getD 0):=by
   rw [Nat.mul_add,Nat.mul_add,Nat.pow_add,Nat.mul_left_comm x (B ^ k),Nat.mul_assoc]
  omega
 ·intro j hj
  rw [List.getElem?_set_ne (by omega)]
  exact h5 j hj
def MulOut (xs ys:List Nat) (i:Nat) (O:List Nat):Prop :=
 Sm O∧O.length=xs.length+ys.length∧val O=val (xs.take i)*val ys∧(∀ j,i+ys.length≤j→O[j]?.getD 0=0)
theorem MulOut.start (xs ys:List Nat):MulOut xs ys 0 (List.replicate (xs.length+ys.length) 0):=by
 refine ⟨Sm.zeros _,by simp,by simp [val_zeros,val],fun j _=>?_⟩
 rw [List.getElem?_replicate];split<;>rfl
theorem MulOut.enter {xs ys:List Nat} {i:Nat} {O:List Nat} (h:MulOut xs ys i O) (x:Nat):MulInv (val (xs.take i)*val ys) ys i x 0 O (xs.length+ys.length) 0:=by
 obtain ⟨h1,h2,h3,h4⟩:=h
 exact ⟨h1,h2,by simp [h3,val],by exact B_pos,h4⟩
theorem MulInv.leave {xs ys:List Nat} {i:Nat} {O:List Nat} {c:Nat} (h:MulInv (val (xs.take i)*val ys) ys i (xs[i]?.getD 0) ys.length O (xs.length+ys.length) c) (hi:i < xs.length) :
  MulOut xs ys (i+1) (O.set (i+ys.length) c):=by
 obtain ⟨h1,h2,h3,h4,h5⟩:=h
 refine ⟨h1.set _ h4,by simp [h2],?_,fun j hj=>?_⟩
 ·have e1:=val_set O (i+ys.length) c (by omega)
  rw [h5 (i+ys.length) (Nat.le_refl _)] at e1
  rw [val_take_all ys _ (Nat.le_refl _)] at h3
  rw [val_take_succ',Nat.add_mul,Nat.mul_assoc]
  omega
 ·rw [List.getElem?_set_ne (by omega)]
  exact h5 j (by omega)
theorem MulOut.done {xs ys:List Nat} {O:List Nat} (h:MulOut xs ys xs.length O):val O=val xs*val ys:=by
 have:=h.2.2.1
 rwa [val_take_all xs _ (Nat.le_refl _)] at this
def DivInv (xs:List Nat) (d:Nat) (i:Nat) (O:List Nat) (r:Nat):Prop :=
 Sm O∧O.length=xs.length∧val (xs.drop i)=d*val (O.drop i)+r∧r < d
theorem DivInv.start (xs:List Nat) {d:Nat} (hd:0 < d):DivInv xs d xs.length (List.replicate xs.length 0) 0 :=
 ⟨Sm.zeros _,by simp,by simp [val],hd⟩
theorem DivInv.step {xs:List Nat} {d i:Nat} {O:List Nat} {r n:Nat} (h:DivInv xs d (i+1) O r) (hx:Sm xs) (hi:i < xs.length) (hn:n=r*B+xs[i]?.getD 0) :
  DivInv xs d i (O.set i (n / d)) (n % d):=by
 obtain ⟨h1,h2,h3,h4⟩:=h
 have hxi:=hx.get i
 have hnb:n < d*B:=by
  have:(r+1)*B≤d*B:=Nat.mul_le_mul_right _ h4
  rw [Nat.add_mul] at this
  omega
 refine ⟨h1.set _ (Nat.div_lt_of_lt_mul hnb),by simp [h2],?_,Nat.mod_lt _ (by omega)⟩
 rw [val_drop xs i hi,h3,val_drop (O.set i (n / d)) i (by simp;omega)]
 have e0:(O.set i (n / d))[i]?.getD 0=n / d:=by rw [List.getElem?_set_self (by omega)];rfl
 rw [e0,List.drop_set_of_lt (by omega)]
 have e1:=Nat.div_add_mod n d
 rw [Nat.mul_add,Nat.mul_add,Nat.mul_left_comm d B]
 rw [Nat.mul_comm r B] at hn
 omega
theorem DivInv.done {xs:List Nat} {d:Nat} {O:List Nat} {r:Nat} (h:DivInv xs d 0 O r):val O=val xs / d∧r=val xs % d:=by
 obtain ⟨h1,h2,h3,h4⟩:=h
 simp only [List.drop_zero] at h3
 rw [h3]
 constructor
 ·rw [Nat.mul_add_div (by omega),Nat.div_eq_of_lt h4];rfl
 ·rw [Nat.mul_add_mod,Nat.mod_eq_of_lt h4]
theorem val_top (U:List Nat) (n:Nat) (h:U.length=n+1):val U=val (U.take n)+B ^ n*U[n]?.getD 0:=by
 have:=val_take_succ' U n
 rw [val_take_all U (n+1) (by omega)] at this
 exact this
structure Est (U V:List Nat) (n g r:Nat):Prop where
 sum:g*V[n - 1]?.getD 0+r=U[n]?.getD 0*B+U[n - 1]?.getD 0
 low:val U / val V≤g
structure Div2 (U V:List Nat) (n:Nat):Prop where
 two:2≤n
 su:Sm U
 sv:Sm V
 lu:U.length=n+1
 lv:V.length=n
 top:V[n - 1]?.getD 0≠0
 lt:val U < B*val V
section
variable {U V:List Nat} {n g r:Nat}
theorem Div2.v_split (h:Div2 U V n):val V=val (V.take (n - 2))+B ^ (n - 2)*(V[n - 2]?.getD 0+B*V[n - 1]?.getD 0):=by
 have h2:=h.two
 have e1:=val_take_succ' V (n - 2)
 have e2:=val_take_succ' V (n - 1)
 rw [show n - 2+1=n - 1 by omega] at e1
 rw [show n - 1+1=n by omega,val_take_all V n (by rw [h.lv];exact Nat.le_refl _)] at e2
 rw [e2,e1,show n - 1=(n - 2)+1 by omega,Nat.pow_succ,Nat.mul_add,Nat.mul_assoc,Nat.add_assoc]
theorem Div2.u_split (h:Div2 U V n):val U=val (U.take (n - 2))+B ^ (n - 2)*(U[n - 2]?.getD 0+B*(U[n - 1]?.getD 0+B*U[n]?.getD 0)):=by
 have h2:=h.two
 have e0:=val_top U n h.lu
 have e1:=val_take_succ' U (n - 2)
 have e2:=val_take_succ' U (n - 1)
 rw [show n - 2+1=n - 1 by omega] at e1
 rw [show n - 1+1=n by omega] at e2
 rw [e0,e2,e1]
 have p1:B ^ (n - 1)=B ^ (n - 2)*B:=by rw [← Nat.pow_succ];congr 1;omega
 have p2:B ^ n=B ^ (n - 2)*B*B:=by rw [← Nat.pow_succ,← Nat.pow_succ];congr 1;omega
 rw [p1,p2]
 simp only [Nat.mul_add,Nat.mul_assoc,Nat.add_assoc]
theorem Div2.v_pos (h:Div2 U V n):0 < val V:=by
 have:=h.lt
 rcases Nat.eq_zero_or_pos (val V) with e|e
 ·rw [e] at this;simp at this
 ·exact e
theorem Div2.q_lt (h:Div2 U V n):val U / val V < B:=Nat.div_lt_of_lt_mul (by rw [Nat.mul_comm];exact h.lt)
theorem Div2.top_lt (h:Div2 U V n):U[n]?.getD 0*B+U[n - 1]?.getD 0 < V[n - 1]?.getD 0*B+B:=by
 have hu:=h.u_split
 have hv:=h.v_split
 have hlt:=h.lt
 have h1:=val_lt (h.sv.take (n - 2))
 rw [List.length_take,h.lv,Nat.min_eq_left (by omega)] at h1
 have hb:=h.sv.get (n - 2)
 rcases Nat.lt_or_ge (U[n]?.getD 0*B+U[n - 1]?.getD 0) (V[n - 1]?.getD 0*B+B) with hl|hge
 ·exact hl
 ·exfalso
  generalize B ^ (n - 2)=P at *
  generalize val (U.take (n - 2))=u0 at *
  generalize val (V.take (n - 2))=v0 at *
  generalize U[n]?.getD 0=a at *
  generalize U[n - 1]?.getD 0=b at *
  generalize U[n - 2]?.getD 0=c at *
  generalize V[n - 1]?.getD 0=d at *
  generalize V[n - 2]?.getD 0=e at *
  have k1:P*(B*(b+B*a)) ≥ P*(B*(d*B+B)):=Nat.mul_le_mul_left _ (Nat.mul_le_mul_left _ (by rw [Nat.mul_comm B a];omega))
  have k2:P*(e+B*d)+P≤P*(d*B+B):=by
   rw [← Nat.mul_succ];exact Nat.mul_le_mul_left _ (by rw [Nat.mul_comm B d];omega)
  have k3:B*(P*(d*B+B))=P*(B*(d*B+B)):=Nat.mul_left_comm _ _ _
  have k4:B*val V≤B*(P*(d*B+B)):=Nat.mul_le_mul_left _ (by omega)
  have k5:P*(c+B*(b+B*a))=P*c+P*(B*(b+B*a)):=Nat.mul_add _ _ _
  omega
theorem Est.start (h:Div2 U V n) {t:Nat} (ht:t=U[n]?.getD 0*B+U[n - 1]?.getD 0):Est U V n (t / V[n - 1]?.getD 0) (t % V[n - 1]?.getD 0):=by
 refine ⟨?_,?_⟩
 ·rw [← ht,Nat.mul_comm];exact Nat.div_add_mod _ _
 ·have hu:=h.u_split
  have hv:=h.v_split
  have h1:=val_lt (h.su.take (n - 2))
  rw [List.length_take,h.lu,Nat.min_eq_left (by omega)] at h1
  have hc:=h.su.get (n - 2)
  have hpos:=h.v_pos
  have htop:=h.top
  rcases Nat.lt_or_ge (t / V[n - 1]?.getD 0) (val U / val V) with hl|hge
  ·exfalso
   have hq:(t / V[n - 1]?.getD 0+1)*val V≤val U:=by
    refine Nat.le_trans (Nat.mul_le_mul_right _ hl) (Nat.div_mul_le_self _ _)
   have hm:t < V[n - 1]?.getD 0*(t / V[n - 1]?.getD 0+1):=by
    rw [Nat.mul_add]
    have:=Nat.div_add_mod t (V[n - 1]?.getD 0)
    have:=Nat.mod_lt t (Nat.pos_of_ne_zero htop)
    omega
   generalize t / V[n - 1]?.getD 0+1=g' at *
   generalize B ^ (n - 2)=P at *
   generalize val (U.take (n - 2))=u0 at *
   generalize val (V.take (n - 2))=v0 at *
   generalize U[n]?.getD 0=a at *
   generalize U[n - 1]?.getD 0=b at *
   generalize U[n - 2]?.getD 0=c at *
   generalize V[n - 1]?.getD 0=d at *
   generalize V[n - 2]?.getD 0=e at *
   -- val U < P * (B * (t + 1)) ≤ P * B * (d * g') ≤ g' * val V
   have k1:P*(c+B*(b+B*a))+P≤P*(B*(t+1)):=by
    rw [← Nat.mul_succ];refine Nat.mul_le_mul_left _ ?_
    have e9:B*(B*a+b+1)=B*(b+B*a)+B:=by rw [Nat.mul_succ,Nat.add_comm b]
    rw [ht,Nat.mul_comm a B]
    omega
   have k2:P*(B*(t+1))≤P*(B*(d*g')):=Nat.mul_le_mul_left _ (Nat.mul_le_mul_left _ hm)
   have k3:g'*(P*(B*d))≤g'*val V:=Nat.mul_le_mul_left _ (by
    rw [hv]
    have:P*(B*d)≤P*(e+B*d):=Nat.mul_le_mul_left _ (by omega)
    omega)
   have k4:g'*(P*(B*d))=P*(B*(d*g')):=by
    rw [Nat.mul_comm g',Nat.mul_assoc,Nat.mul_assoc]
   omega
  ·exact hge
theorem Est.lower (h:Div2 U V n) (e:Est U V n g r) (hc:B≤g∨r*B+U[n - 2]?.getD 0 < g*V[n - 2]?.getD 0) :
  1≤g∧Est U V n (g - 1) (r+V[n - 1]?.getD 0):=by
 have hg:1≤g:=by
  rcases hc with hc|hc
  ·exact Nat.le_trans B_pos hc
  ·rcases Nat.eq_zero_or_pos g with h0|h0
   ·subst h0;simp at hc
   ·exact h0
 refine ⟨hg,?_,?_⟩
 ·have:=e.sum
  obtain ⟨g',rfl⟩:∃ g',g=g'+1:=⟨g - 1,by omega⟩
  rw [Nat.add_mul] at this
  simp only [Nat.add_sub_cancel]
  omega
 ·have hlt:val U / val V < g:=by
   rcases hc with hc|hc
   ·exact Nat.lt_of_lt_of_le h.q_lt hc
   ·rw [Nat.div_lt_iff_lt_mul h.v_pos]
    have hu:=h.u_split
    have hv:=h.v_split
    have h1:=val_lt (h.su.take (n - 2))
    rw [List.length_take,h.lu,Nat.min_eq_left (by omega)] at h1
    have hs:=e.sum
    generalize B ^ (n - 2)=P at *
    generalize val (U.take (n - 2))=u0 at *
    generalize val (V.take (n - 2))=v0 at *
    generalize U[n]?.getD 0=a at *
    generalize U[n - 1]?.getD 0=b at *
    generalize U[n - 2]?.getD 0=c at *
    generalize V[n - 1]?.getD 0=d at *
    generalize V[n - 2]?.getD 0=e at *
    have k1:g*(P*(e+B*d))≤g*val V:=Nat.mul_le_mul_left _ (by omega)
    have k2:g*(P*(e+B*d))=P*(g*e+B*(g*d)):=by
     rw [Nat.mul_left_comm,Nat.mul_add,Nat.mul_left_comm g B]
    have k3:P*(c+1+B*(b+B*a))≤P*(g*e+B*(g*d)):=by
     refine Nat.mul_le_mul_left _ ?_
     have:B*(b+B*a)=B*(g*d)+B*r:=by
      rw [← Nat.mul_add,hs,Nat.mul_comm B a,Nat.add_comm b]
     rw [this]
     rw [Nat.mul_comm r B] at hc
     omega
    have k4:P*(c+1+B*(b+B*a))=P*(c+B*(b+B*a))+P:=by
     rw [← Nat.mul_succ];congr 1;omega
    omega
  omega
theorem Est.done (h:Div2 U V n) (e:Est U V n g r) (hc:B≤r∨(g < B∧g*V[n - 2]?.getD 0≤r*B+U[n - 2]?.getD 0)) :
  g < B∧g*val V < val U+val V:=by
 have hu:=h.u_split
 have hv:=h.v_split
 have h1:=val_lt (h.sv.take (n - 2))
 rw [List.length_take,h.lv,Nat.min_eq_left (by omega)] at h1
 have hs:=e.sum
 have htop:=h.top
 have htl:=h.top_lt
 have hv2:=h.sv.get (n - 2)
 have hg:g < B:=by
  rcases hc with hc|hc
  ·rcases Nat.lt_or_ge g B with hl|hge
   ·exact hl
   ·exfalso
    have:B*V[n - 1]?.getD 0≤g*V[n - 1]?.getD 0:=Nat.mul_le_mul_right _ hge
    rw [Nat.mul_comm B] at this
    omega
  ·exact hc.1
 refine ⟨hg,?_⟩
 generalize hP:B ^ (n - 2)=P at *
 generalize val (U.take (n - 2))=u0 at *
 generalize val (V.take (n - 2))=v0 at *
 generalize U[n]?.getD 0=a at *
 generalize U[n - 1]?.getD 0=b at *
 generalize U[n - 2]?.getD 0=c at *
 generalize V[n - 1]?.getD 0=d at *
 generalize V[n - 2]?.getD 0=e2 at *
 have hPpos:0 < P:=by rw [← hP];exact Nat.pow_pos B_pos
 have k1:g*val V=g*v0+P*(g*e2+B*(g*d)):=by
  rw [hv,Nat.mul_add,Nat.mul_left_comm g P,Nat.mul_add g,Nat.mul_left_comm g B]
 have k5:B*(g*d)+B*r=B*(b+B*a):=by
  rw [← Nat.mul_add,hs,Nat.mul_comm a B,Nat.add_comm b]
 have k6:g*v0+g≤B*P:=by
  have:g*(v0+1)≤B*P:=Nat.mul_le_mul (by omega) h1
  rw [Nat.mul_add] at this
  omega
 rcases hc with hc|⟨_,hc⟩
 ·-- r has run beyond the base
  have k2:P*(g*e2+B*(g*d))+P*(B*B)≤P*(B*(b+B*a))+P*(g*e2):=by
   rw [← Nat.mul_add,← Nat.mul_add]
   refine Nat.mul_le_mul_left _ ?_
   have:B*B≤B*r:=Nat.mul_le_mul_left _ hc
   omega
  have k3:P*(g*e2)+P*B≤P*(B*B):=by
   rw [← Nat.mul_add]
   refine Nat.mul_le_mul_left _ ?_
   have h3:g*e2≤(B - 1)*(B - 1):=Nat.mul_le_mul (by omega) (by omega)
   have h4:(B - 1)*(B - 1)+B≤B*B:=by decide
   omega
  have k7:P*(c+B*(b+B*a))=P*c+P*(B*(b+B*a)):=Nat.mul_add _ _ _
  rw [Nat.mul_comm B P] at k6
  have hvp:=h.v_pos
  omega
 ·have k2:P*(g*e2+B*(g*d))≤P*(c+B*(b+B*a)):=by
   refine Nat.mul_le_mul_left _ ?_
   rw [Nat.mul_comm r B] at hc
   omega
  have k8:P*(B*1)≤P*(e2+B*d):=Nat.mul_le_mul_left _ (by
   have:B*1≤B*d:=Nat.mul_le_mul_left _ (by omega)
   omega)
  rw [Nat.mul_one,Nat.mul_comm P B] at k8
  rcases Nat.eq_zero_or_pos g with h0|h0
  ·subst h0;have:=h.v_pos;simp;omega
  ·omega
theorem quot_cases (h:Div2 U V n) (hlow:val U / val V≤g) (hup:g*val V < val U+val V):g=val U / val V∨(g=val U / val V+1∧val U < g*val V):=by
 have hp:=h.v_pos
 have h1:=Nat.div_add_mod (val U) (val V)
 have h2:=Nat.mod_lt (val U) hp
 generalize val U / val V=q at *
 rcases Nat.lt_or_ge q g with hl|hge
 ·refine .inr ?_
  have:g≤q+1:=by
   rcases Nat.lt_or_ge (q+1) g with hl2|hge2
   ·exfalso
    have:(q+2)*val V≤g*val V:=Nat.mul_le_mul_right _ hl2
    rw [Nat.add_mul,Nat.mul_comm q] at this
    omega
   ·exact hge2
  have hg:g=q+1:=by omega
  refine ⟨hg,?_⟩
  rw [hg,Nat.add_mul,Nat.mul_comm q]
  omega
 ·exact .inl (by omega)
end
def SubStep (U V:List Nat) (n g i:Nat) (W:List Nat) (c:Nat):Prop :=
 Sm W∧W.length=n+1∧val (W.take i)+g*val (V.take i)=val (U.take i)+B ^ i*c∧(∀ j,i≤j→W[j]?.getD 0=U[j]?.getD 0)
theorem SubStep.start {U V:List Nat} {n g:Nat} (hu:Sm U) (lu:U.length=n+1):SubStep U V n g 0 U 0:=⟨hu,lu,by simp [val],fun _ _=>rfl⟩
theorem SubStep.step {U V:List Nat} {n g i:Nat} {W:List Nat} {c c' x:Nat} (h:SubStep U V n g i W c) (hi:i < n) (hx:x < B)
  (he:x+g*V[i]?.getD 0+c=U[i]?.getD 0+B*c'):SubStep U V n g (i+1) (W.set i x) c':=by
 obtain ⟨h1,h2,h3,h4⟩:=h
 refine ⟨h1.set _ hx,by simp [h2],?_,fun j hj=>?_⟩
 ·rw [val_take_succ' (W.set i x),val_take_succ' V,val_take_succ' U,List.take_set_of_le (by omega),List.getElem?_set_self (by omega)]
  simp only [Option.getD_some]
  have e1:B ^ i*(x+g*V[i]?.getD 0+c)=B ^ i*(U[i]?.getD 0+B*c'):=by rw [he]
  rw [Nat.mul_add,Nat.mul_add,Nat.mul_add,← Nat.mul_assoc (B ^ i) B c'] at e1
  rw [Nat.mul_add g,Nat.mul_left_comm g (B ^ i),Nat.pow_succ]
  omega
 ·rw [List.getElem?_set_ne (by omega)];exact h4 j (by omega)
def BackStep (U V:List Nat) (n i:Nat) (W:List Nat) (c:Nat):Prop :=
 Sm W∧W.length=n+1∧val (W.take i)+B ^ i*c=val (U.take i)+val (V.take i)∧c≤1∧(∀ j,i≤j→W[j]?.getD 0=U[j]?.getD 0)
theorem BackStep.start {U V:List Nat} {n:Nat} (hu:Sm U) (lu:U.length=n+1):BackStep U V n 0 U 0:=⟨hu,lu,by simp [val],by omega,fun _ _=>rfl⟩
theorem BackStep.step {U V:List Nat} {n i:Nat} {W:List Nat} {c s:Nat} (h:BackStep U V n i W c) (hu:Sm U) (hv:Sm V) (hi:i < n)
  (hs:s=U[i]?.getD 0+V[i]?.getD 0+c):BackStep U V n (i+1) (W.set i (s % B)) (s / B):=by
 obtain ⟨h1,h2,h3,h4,h5⟩:=h
 have hui:=hu.get i
 have hvi:=hv.get i
 refine ⟨h1.set _ (Nat.mod_lt _ B_pos),by simp [h2],?_,?_,fun j hj=>?_⟩
 ·rw [val_take_succ' (W.set i (s % B)),val_take_succ' V,val_take_succ' U,List.take_set_of_le (by omega),List.getElem?_set_self (by omega)]
  simp only [Option.getD_some]
  have e:=div_mod_B s
  have e1:B ^ i*(s % B)+B ^ (i+1)*(s / B)=B ^ i*s:=by
   conv=>rhs;rw [← e]
   rw [Nat.mul_add,← Nat.mul_assoc,Nat.pow_succ]
  have e2:B ^ i*s=B ^ i*U[i]?.getD 0+B ^ i*V[i]?.getD 0+B ^ i*c:=by rw [hs,Nat.mul_add,Nat.mul_add]
  omega
 ·have:s < 2*B:=by omega
  have:s / B < 2:=Nat.div_lt_of_lt_mul (by omega)
  omega
 ·rw [List.getElem?_set_ne (by omega)];exact h5 j (by omega)
section
variable {U V:List Nat} {n g:Nat}
theorem sub_fits (h:Div2 U V n) (hlow:val U / val V≤g) (hup:g*val V < val U+val V) {W:List Nat} {c:Nat} (hs:SubStep U V n g n W c)
  (hle:c≤U[n]?.getD 0):g=val U / val V∧val (W.set n (U[n]?.getD 0 - c))=val U % val V∧Sm (W.set n (U[n]?.getD 0 - c)):=by
 obtain ⟨h1,h2,h3,h4⟩:=hs
 have e0:=val_top U n h.lu
 have hun:=h.su.get n
 rw [val_take_all V n (by rw [h.lv];exact Nat.le_refl _)] at h3
 have ew:val (W.set n (U[n]?.getD 0 - c))=val (W.take n)+B ^ n*(U[n]?.getD 0 - c):=by
  rw [val_top _ n (by simp [h2]),List.take_set_of_le (by omega),List.getElem?_set_self (by omega)];rfl
 have e1:B ^ n*(U[n]?.getD 0 - c)+B ^ n*c=B ^ n*U[n]?.getD 0:=by rw [← Nat.mul_add];congr 1;omega
 have e2:val (W.set n (U[n]?.getD 0 - c))+g*val V=val U:=by omega
 rcases quot_cases h hlow hup with hq|⟨_,hq⟩
 ·refine ⟨hq,?_,h1.set _ (by omega)⟩
  have:=Nat.div_add_mod (val U) (val V)
  rw [← hq,Nat.mul_comm] at this
  omega
 ·omega
theorem sub_back (h:Div2 U V n) (hlow:val U / val V≤g) (hup:g*val V < val U+val V) {W:List Nat} {c:Nat} (hs:SubStep U V n g n W c)
  (hgt:U[n]?.getD 0 < c):g=val U / val V+1∧c=U[n]?.getD 0+1 ∧
   ∀ {W':List Nat} {c':Nat},BackStep W V n n W' c'→c'=1∧val (W'.set n 0)=val U % val V∧Sm (W'.set n 0):=by
 obtain ⟨h1,h2,h3,h4⟩:=hs
 have e0:=val_top U n h.lu
 rw [val_take_all V n (by rw [h.lv];exact Nat.le_refl _)] at h3
 have hw:=val_lt (h1.take n)
 rw [List.length_take,h2,Nat.min_eq_left (by omega)] at hw
 have hv:=val_lt h.sv
 rw [h.lv] at hv
 obtain ⟨t,rfl⟩:∃ t,c=U[n]?.getD 0+t:=⟨c - U[n]?.getD 0,by omega⟩
 rw [Nat.mul_add] at h3
 have e1:val (W.take n)+g*val V=val U+B ^ n*t:=by omega
 have ht:t=1:=by
  rcases Nat.lt_or_ge 1 t with hl|hge
  ·exfalso
   have:B ^ n*2≤B ^ n*t:=Nat.mul_le_mul_left _ hl
   omega
  ·omega
 subst ht
 rw [Nat.mul_one] at e1
 rcases quot_cases h hlow hup with hq|⟨hq,_⟩
 ·exfalso
  have:=Nat.div_mul_le_self (val U) (val V)
  rw [← hq] at this
  omega
 ·refine ⟨hq,rfl,?_⟩
  intro W' c' hb
  obtain ⟨b1,b2,b3,b4,b5⟩:=hb
  rw [val_take_all V n (by rw [h.lv];exact Nat.le_refl _)] at b3
  have hw':=val_lt (b1.take n)
  rw [List.length_take,b2,Nat.min_eq_left (by omega)] at hw'
  have ew:val (W'.set n 0)=val (W'.take n):=by
   rw [val_top _ n (by simp [b2]),List.take_set_of_le (by omega),List.getElem?_set_self (by omega)];simp
  have hm:=Nat.div_add_mod (val U) (val V)
  have hml:=Nat.mod_lt (val U) h.v_pos
  have hg:g*val V=val V*(val U / val V)+val V:=by rw [hq,Nat.add_mul,Nat.mul_comm];simp
  have hc1:c'=1:=by
   rcases Nat.eq_zero_or_pos c' with e|e
   ·subst e;omega
   ·omega
  subst hc1
  refine ⟨rfl,?_,b1.set _ B_pos⟩
  rw [ew]
  omega
end
structure LongInv (O V:List Nat) (n j:Nat) (U Q:List Nat):Prop where
 su:Sm U
 sq:Sm Q
 lu:U.length=O.length
 lq:Q.length+n=O.length
 old:∀ i,i < j→U[i]?.getD 0=O[i]?.getD 0
 sum:val (O.drop j)=val (Q.drop j)*val V+val (U.drop j)
 lt:val (U.drop j) < val V
theorem LongInv.start {O V:List Nat} {n m:Nat} (hO:Sm O) (hm:m+n=O.length) (hlt:val (O.drop m) < val V):LongInv O V n m O (List.replicate m 0) :=
 ⟨hO,Sm.zeros _,rfl,by simpa using hm,fun _ _=>rfl,by simp [val],hlt⟩
section
variable {O V:List Nat} {n j:Nat} {U Q:List Nat}
theorem LongInv.window (h:LongInv O V n (j+1) U Q) (h2:2≤n) (sv:Sm V) (lv:V.length=n) (htop:V[n - 1]?.getD 0≠0) (hj:j < Q.length) :
  Div2 ((U.drop j).take (n+1)) V n∧val ((U.drop j).take (n+1))=val (U.drop j)∧val (U.drop (j+(n+1)))=0:=by
 have hjl:j+(n+1)≤U.length:=by have:=h.lu;have:=h.lq;omega
 have hd:=val_drop U j (by omega)
 have huj:=h.su.get j
 have hV:=val_lt sv
 rw [lv] at hV
 have hlt:val (U.drop j) < B*val V:=by
  have:B*val (U.drop (j+1))+B≤B*val V:=by rw [← Nat.mul_succ];exact Nat.mul_le_mul_left _ h.lt
  omega
 have hs:=val_take_drop (U.drop j) (n+1) (by rw [List.length_drop];omega)
 rw [List.drop_drop] at hs
 have hz:val (U.drop (j+(n+1)))=0:=by
  rcases Nat.eq_zero_or_pos (val (U.drop (j+(n+1)))) with h0|h0
  ·exact h0
  ·exfalso
   have h1:B ^ (n+1)*1≤B ^ (n+1)*val (U.drop (j+(n+1))):=Nat.mul_le_mul_left _ h0
   have h3:B*val V≤B ^ (n+1):=by rw [Nat.pow_succ,Nat.mul_comm];exact Nat.mul_le_mul_right _ (Nat.le_of_lt hV)
   omega
 have hw:val ((U.drop j).take (n+1))=val (U.drop j):=by rw [hz] at hs;omega
 exact ⟨⟨h2,(h.su.drop j).take _,sv,by rw [List.length_take,List.length_drop];omega,lv,htop,by rw [hw];exact hlt⟩,hw,hz⟩
theorem LongInv.step (h:LongInv O V n (j+1) U Q) (h2:2≤n) (sv:Sm V) (lv:V.length=n) (htop:V[n - 1]?.getD 0≠0) (hj:j < Q.length)
  {W:List Nat} {q:Nat} (sw:Sm W) (lw:W.length=n+1) (hq:q=val ((U.drop j).take (n+1)) / val V) (hw:val W=val ((U.drop j).take (n+1)) % val V) :
  LongInv O V n j (U.take j++(W++U.drop (j+(n+1)))) (Q.set j q):=by
 obtain ⟨hd2,hwin,hz⟩:=h.window h2 sv lv htop hj
 have hjl:j+(n+1)≤U.length:=by have:=h.lu;have:=h.lq;omega
 have hqB:q < B:=by rw [hq];exact hd2.q_lt
 have hpos:=hd2.v_pos
 have htl:(U.take j).length=j:=by rw [List.length_take];omega
 have hdrop:(U.take j++(W++U.drop (j+(n+1)))).drop j=W++U.drop (j+(n+1)):=by
  rw [List.drop_append,htl];simp
 have hvd:val ((U.take j++(W++U.drop (j+(n+1)))).drop j)=val (U.drop j) % val V:=by
  rw [hdrop,val_append,hz,hw,hwin];simp
 refine ⟨(h.su.take j).append (sw.append (h.su.drop _)),h.sq.set _ hqB,?_,by simpa using h.lq,?_,?_,?_⟩
 ·simp only [List.length_append,htl,lw,List.length_drop];have:=h.lu;omega
 ·intro i hi
  have:=h.old i (by omega)
  rw [List.getElem?_append_left (by omega),List.getElem?_take_of_lt hi]
  exact this
 ·rw [hvd]
  have hOj:=h.old j (by omega)
  have e1:=val_drop O j (by have:=h.lq;omega)
  have e2:=val_drop U j (by omega)
  have e3:val ((Q.set j q).drop j)=q+B*val (Q.drop (j+1)):=by
   rw [val_drop (Q.set j q) j (by simp;exact hj),List.getElem?_set_self hj,List.drop_set_of_lt (Nat.lt_succ_self j)];rfl
  rw [e1,e3,h.sum,Nat.mul_add,Nat.add_mul,← Nat.mul_assoc B,← hOj]
  have e4:=Nat.div_add_mod (val (U.drop j)) (val V)
  rw [hwin] at hq
  rw [← hq,Nat.mul_comm] at e4
  omega
 ·rw [hvd];exact Nat.mod_lt _ hpos
theorem LongInv.done (h:LongInv O V n 0 U Q):val Q=val O / val V∧val U=val O % val V:=by
 have hs:=h.sum
 have hl:=h.lt
 simp only [List.drop_zero] at hs hl
 rw [hs]
 refine ⟨?_,?_⟩
 ·rw [Nat.mul_comm,Nat.mul_add_div (by omega),Nat.div_eq_of_lt hl];rfl
 ·rw [Nat.mul_comm,Nat.mul_add_mod,Nat.mod_eq_of_lt hl]
theorem LongInv.rest (h:LongInv O V n 0 U Q) (sv:Sm V) (lv:V.length=n):val (U.take n)=val U:=by
 have hl:=h.lt
 simp only [List.drop_zero] at hl
 have hV:=val_lt sv
 rw [lv] at hV
 have hn:n≤U.length:=by have:=h.lu;have:=h.lq;omega
 have hs:=val_take_drop U n hn
 rcases Nat.eq_zero_or_pos (val (U.drop n)) with h0|h0
 ·rw [h0] at hs;omega
 ·exfalso
  have:B ^ n*1≤B ^ n*val (U.drop n):=Nat.mul_le_mul_left _ h0
  omega
end
section
variable {a b s:Nat}
theorem top_bounds (hb:0 < b):(toL b)[(toL b).length - 1]?.getD 0≠0∧(toL b)[(toL b).length - 1]?.getD 0*B ^ ((toL b).length - 1)≤b∧b < ((toL b)[(toL b).length - 1]?.getD 0+1)*B ^ ((toL b).length - 1):=by
 have hne:toL b≠[]:=fun e=>by have:=toL_eq_nil.1 e;omega
 have hl:0 < (toL b).length:=List.length_pos_iff.2 hne
 have hc:=can_toL b
 have hs:=val_take_succ (toL b) ((toL b).length - 1) (by omega)
 rw [show (toL b).length - 1+1=(toL b).length by omega,val_take_all _ _ (Nat.le_refl _),val_toL] at hs
 have h1:=val_lt (hc.1.take ((toL b).length - 1))
 rw [List.length_take,Nat.min_eq_left (by omega)] at h1
 refine ⟨fun e=>hc.2 ?_,?_,?_⟩
 ·rw [List.getLast?_eq_getElem?]
  rw [List.getElem?_eq_getElem (by omega)] at e ⊢
  simp at e
  rw [e]
 ·rw [Nat.mul_comm];omega
 ·rw [Nat.add_mul,Nat.mul_comm];omega
theorem scaled_len (hb:0 < b) (hs:s=B / ((toL b)[(toL b).length - 1]?.getD 0+1)):0 < s∧s < B∧(toL (b*s)).length=(toL b).length:=by
 obtain ⟨h1,h2,h3⟩:=top_bounds hb
 have ht:(toL b)[(toL b).length - 1]?.getD 0 < B:=(sm_toL b).get _
 have hl:0 < (toL b).length:=toL_len_pos.2 (by omega)
 generalize (toL b)[(toL b).length - 1]?.getD 0=t at *
 have hs0:0 < s:=by rw [hs];exact Nat.div_pos (by omega) (by omega)
 have hsm:s*(t+1)≤B:=by rw [hs];exact Nat.div_mul_le_self _ _
 have hsB:s < B:=by
  have:s*2≤s*(t+1):=Nat.mul_le_mul_left _ (by omega)
  omega
 refine ⟨hs0,hsB,Nat.le_antisymm ?_ ?_⟩
 ·refine toL_len_le ?_
  have e1:b*s < (t+1)*B ^ ((toL b).length - 1)*s:=Nat.mul_lt_mul_of_pos_right h3 hs0
  have e2:(t+1)*B ^ ((toL b).length - 1)*s≤B ^ ((toL b).length - 1)*B:=by
   rw [Nat.mul_comm (t+1),Nat.mul_assoc,Nat.mul_comm (t+1)]
   exact Nat.mul_le_mul_left _ hsm
  have e3:B ^ ((toL b).length - 1)*B=B ^ (toL b).length:=by
   rw [← Nat.pow_succ];congr 1;omega
  rw [e3] at e2
  omega
 ·exact toL_len_mono (Nat.le_mul_of_pos_right _ hs0)
theorem scaled_a_lt (hs:s < B):a*s < B ^ ((toL a).length+1):=by
 rcases Nat.eq_zero_or_pos s with h0|h0
 ·subst h0;simp;exact Nat.pow_pos B_pos
 ·rw [Nat.pow_succ]
  exact Nat.mul_lt_mul'' (toL_lt a) hs
theorem div_scaled (hs:0 < s):a*s / (b*s)=a / b:=Nat.mul_div_mul_right _ _ hs
theorem mod_scaled:a*s % (b*s)=a % b*s:=Nat.mul_mod_mul_right _ _ _
end
end Go.Proofs.YtigapglmipmbeaaGreatDoor.Lim
namespace Go.Proofs.YtigapglmipmbeaaGreatDoor
open Go.RowKit
open Lim
def Row (w:World) (A:Option Addr) (xs:List Value):Prop :=
 0 < xs.length→∃ b o,A=some ⟨b,o,none⟩∧b < w.heap.size∧∀ (j:Nat) (x:Value),xs[j]?=some x→w.cell? ⟨b,o+j,none⟩=some x
section
variable {w w':World} {A:Option Addr} {xs:List Value}
theorem Row.nil:Row w A []:=fun h=>absurd h (by simp)
theorem Row.below (h:Row w A xs) (hb:Below w.heap.size w w'):Row w' A xs:=fun h0=>by
 obtain ⟨b,o,e,hlt,hc⟩:=h h0
 exact ⟨b,o,e,Nat.lt_of_lt_of_le hlt hb.size,fun j x hx=>(hb.cell (p:=⟨b,o+j,none⟩) hlt).trans (hc j x hx)⟩
theorem Row.take (h:Row w A xs) (k:Nat):Row w A (xs.take k):=fun h0=>by
 obtain ⟨b,o,e,hlt,hc⟩:=h (by rw [List.length_take] at h0;omega)
 refine ⟨b,o,e,hlt,fun j x hx=>hc j x ?_⟩
 by_cases hj:j < k
 ·rwa [List.getElem?_take_of_lt hj] at hx
 ·rw [List.getElem?_eq_none (by rw [List.length_take];omega)] at hx
  cases hx
end
def U64 (l:List Nat):List Value:=l.map fun (x:Nat)=>Value.int .u64 (x:Int)
def I64 (l:List Nat):List Value:=l.map fun (x:Nat)=>Value.int .i64 (x:Int)
theorem U64_length (l:List Nat):(U64 l).length=l.length:=by simp [U64]
theorem U64_get {l:List Nat} {j:Nat} (h:j < l.length):(U64 l)[j]?=some (.int .u64 ((l[j]?.getD 0:Nat):Int)):=by simp [U64,h]
theorem I64_get {l:List Nat} {j:Nat} (h:j < l.length):(I64 l)[j]?=some (.int .i64 ((l[j]?.getD 0:Nat):Int)):=by simp [I64,h]
def IsNat (w:World) (v:Value) (n:Nat):Prop:=∃ A c,v=.slice A (toL n).length c∧(toL n).length≤c∧c≤maxLen∧Row w A (U64 (toL n))
theorem IsNat.below {w w':World} {v:Value} {n:Nat} (h:IsNat w v n) (hb:Below w.heap.size w w'):IsNat w' v n:=by
 obtain ⟨A,c,e,h1,h2,h3⟩:=h
 exact ⟨A,c,e,h1,h2,h3.below hb⟩
theorem row_of_owns {w:World} {base e n:Nat} {A:Option Addr} {c:Nat} {xs:List Value} (h:w.ownsRow base e 1 (.slice A n c) n xs):n=xs.length∧n≤c∧c≤maxLen∧Row w A xs:=by
 have hl:n=xs.length:=by have:=h.1;omega
 rcases h.2 with ⟨e1,rfl⟩|⟨g,cap,cur,e1,_,hh,h1,h2,_⟩
 ·injection e1 with e1 e2 e3
  subst e1;subst e3
  exact ⟨hl,Nat.le_refl _,by unfold maxLen;omega,fun h0=>by omega⟩
 ·injection e1 with e1 e2 e3
  subst e1;subst e3
  refine ⟨hl,h1,h2,fun _=>⟨g,0,rfl,(Array.getElem?_eq_some_iff.1 hh).1,fun j x hx=>?_⟩⟩
  have:=h.cells (g:=g) rfl j x hx
  rw [show (⟨g,0,none⟩:Addr).add j=⟨g,0+j,none⟩ by unfold Addr.add;split<;>simp_all] at this
  exact this
theorem slice_of_owns {w:World} {base e n:Nat} {v:Value} {xs:List Value} (h:w.ownsRow base e 1 v n xs):∃ A c,v=.slice A n c:=by
 rcases h.2 with ⟨e1,rfl⟩|⟨g,cap,cur,e1,_⟩
 ·exact ⟨_,_,e1⟩
 ·exact ⟨_,_,e1⟩
theorem isNat_of_owns {w:World} {base e n m:Nat} {v:Value} (h:w.ownsRow base e 1 v n (U64 (toL m))):IsNat w v m:=by
 obtain ⟨A,c,rfl⟩:=slice_of_owns h
 obtain ⟨h0,h1,h2,h3⟩:=row_of_owns h
 rw [U64_length] at h0
 subst h0
 exact ⟨A,c,rfl,h1,h2,h3⟩
theorem U64_snoc (L:List Nat) (m:Nat):U64 L++[.int .u64 (m:Int)]=U64 (L++[m]):=by simp [U64]
theorem modB_cast (m:Nat):(m:Int) % 1000000000=((m % B:Nat):Int):=by rw [B_val];omega
theorem divB_cast (m:Nat):(m:Int) / 1000000000=((m / B:Nat):Int):=by rw [B_val];omega
theorem Tryz.infoU:(Tryz.prog.info? 117).map (fun i=>(i.zero,i.size,i.bytes))=some (some (.int .u64 0),1,8):=by kernel_rfl
def Blk (w:World) (g:Nat) (t:TypeId) (cs:Array Value):Prop:=w.heap[g]?=some (.cells cs t (0,0))
section
variable {w w':World} {g:Nat} {t:TypeId} {cs:Array Value}
theorem Blk.lt (h:Blk w g t cs):g < w.heap.size:=by
 rcases Nat.lt_or_ge g w.heap.size with hlt|hge
 ·exact hlt
 ·unfold Blk at h;rw [Array.getElem?_eq_none hge] at h;cases h
theorem Blk.cell (h:Blk w g t cs) (i:Nat):w.cell? ⟨g,i,none⟩=cs[i]?:=cell_of_row w g i cs t (0,0) h
theorem Blk.frozen (h:Blk w g t cs) (i:Nat):w.frozen? ⟨g,i,none⟩=false:=by
 unfold Blk at h
 simp [World.frozen?,h]
theorem Blk.new (w:World) (t:TypeId) (cs:Array Value):Blk (w.alloc (.cells cs t)) w.heap.size t cs:=heap_alloc_new w _
theorem Blk.alloc (h:Blk w g t cs) (o:Obj):Blk (w.alloc o) g t cs:=(Below.heap_alloc w o g h.lt).trans h
theorem Blk.drew (h:Blk w g t cs):Blk w.drew g t cs:=h
theorem Blk.set_ (h:Blk w g t cs) (i:Nat) (u:Value):Blk (w.setCell ⟨g,i,none⟩ u) g t (cs.setIfInBounds i u):=by
 unfold Blk at h ⊢
 simp [World.setCell,Array.getElem?_modify,h]
theorem Blk.far (h:Blk w g t cs) {p:Addr} (hp:g≠p.block) (u:Value):Blk (w.setCell p u) g t cs:=(Below.heap_setCell w p u g hp).trans h
theorem Blk.below {B:Nat} (h:Blk w g t cs) (hb:Below B w w') (hg:g < B):Blk w' g t cs:=(hb.block g hg).trans h
theorem Blk.grown {row:Option Nat} (h:Blk w g t cs) (hb:w.grownBy w' row) (hg:some g≠row):Blk w' g t cs:=(hb.block g h.lt hg).trans h
theorem Blk.row {xs:List Value} (h:Blk w g t xs.toArray):Row w (some ⟨g,0,none⟩) xs:=fun _ =>
 ⟨g,0,rfl,h.lt,fun j x hx=>by rw [Nat.zero_add,h.cell];simpa using hx⟩
end
theorem U64_set (L:List Nat) (i x:Nat):(U64 L).toArray.setIfInBounds i (.int .u64 (x:Int))=(U64 (L.set i x)).toArray:=by simp [U64,List.map_set]
theorem I64_set (L:List Nat) (i x:Nat):(I64 L).toArray.setIfInBounds i (.int .i64 (x:Int))=(I64 (L.set i x)).toArray:=by simp [I64,List.map_set]
theorem U64_zeros (n:Nat):madeCells #[.int .u64 0] n=(U64 (List.replicate n 0)).toArray:=by
 apply Array.toList_inj.1
 rw [toList_madeCells_one];simp [U64]
theorem Blk.getU {w:World} {g:Nat} {t:TypeId} {L:List Nat} (h:Blk w g t (U64 L).toArray) {i:Nat} (hi:i < L.length):w.cell? ⟨g,i,none⟩=some (.int .u64 ((L[i]?.getD 0:Nat):Int)):=by
 rw [h.cell];simpa using U64_get hi
theorem Blk.setU {w:World} {g:Nat} {t:TypeId} {L:List Nat} (h:Blk w g t (U64 L).toArray) (i x:Nat):Blk (w.setCell ⟨g,i,none⟩ (.int .u64 (x:Int))) g t (U64 (L.set i x)).toArray:=by
 have:=h.set_ i (.int .u64 (x:Int));rwa [U64_set] at this
theorem toL_prefix {l:List Nat} (h:Sm l):l.take (toL (val l)).length=toL (val l):=by
 induction l with
 | nil=>simp [val,toL_zero]
 | cons x r ih =>
  by_cases h0:val (x::r)=0
  ·rw [h0,toL_zero];rfl
  ·have hx:=h.head
   have e1:val (x::r) % B=x:=by rw [val_cons,Nat.add_mul_mod_self_left,Nat.mod_eq_of_lt hx]
   have e2:val (x::r) / B=val r:=by rw [val_cons,Nat.add_mul_div_left _ _ B_pos,Nat.div_eq_of_lt hx,Nat.zero_add]
   rw [toL_pos h0,e1,e2]
   simp [ih h.tail]
theorem toL_len_le_of {l:List Nat} (h:Sm l):(toL (val l)).length≤l.length:=toL_len_le (val_lt h)
theorem U64_take (l:List Nat) (k:Nat):U64 (l.take k)=(U64 l).take k:=by simp [U64,List.map_take]
theorem isNat_trim {w:World} {A:Option Addr} {l:List Nat} {m c:Nat} (h:Sm l) (hr:Row w A (U64 l)) (hc:l.length≤c) (hm:c≤maxLen) (e:val l=m):IsNat w (.slice A (toL m).length c) m:=by
 subst e
 refine ⟨A,c,rfl,Nat.le_trans (toL_len_le_of h) hc,hm,?_⟩
 rw [← toL_prefix h,U64_take];exact hr.take _
theorem take_set_succ (l:List Nat) (k x:Nat) (hk:k < l.length):(l.set k x).take (k+1)=l.take k++[x]:=by
 rw [List.take_succ_eq_append_getElem (by simpa using hk),List.take_set_of_le (Nat.le_refl _)]
 simp
theorem run_makeN {P:Program} {t e:TypeId} {i:TypeInfo} {z:Value} (ht:P.underlying t=some (.slice e)) (hi:P.info? e=some i) (hz:i.zero=some z) (hsz:i.size=1) (hby:i.bytes=8)
  {n:Nat} (hn:n≤100000) {C:Int} (hC:C=(n:Int)) (w:World) :
  (Instr.makeSlice t (.int .i64 C) (.int .i64 C)).run P w=.ok (.slice (some ⟨w.heap.size,0,none⟩) n n) (w.alloc (.cells (madeCells z.cells n) e)):=by
 subst hC
 have hb:(i.bytes:Int)*(n:Int)≤281474976710656:=by rw [hby];omega
 have hr:=run_make (P:=P) w t e i z ht hi hz .i64 .i64 n n (by omega) (by omega) hb (by omega)
 simp only [Int.toNat_natCast,hsz,Nat.mul_one] at hr
 exact hr
theorem int_eq {k:IntKind} {a b:Int} (h:a=b):Value.int k a=Value.int k b:=by rw [h]
theorem ret_eq {a b:Value} (h:a=b):Ending.returned a=Ending.returned b:=by rw [h]
end Go.Proofs.YtigapglmipmbeaaGreatDoor
