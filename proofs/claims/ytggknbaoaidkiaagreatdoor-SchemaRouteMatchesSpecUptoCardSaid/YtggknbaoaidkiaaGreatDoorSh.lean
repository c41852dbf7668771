import Derived.Test.YtggknbaoaidkiaaGreatDoorA0
set_option linter.all false
set_option maxHeartbeats 8000000
set_option maxRecDepth 100000
namespace Go.Proofs
open Go.Shelf Go.RowKit Go.Lib
def Tryz.ajI:Go.Shelf.Ren:=⟨λ|161=>316|231=>244|227=>246|233=>247|235=>249|228=>287|197=>288|151=>289|260=>309|152=>310|137=>326|119=>327|224=>328|225=>329|217=>342|266=>351|Y=>Y,λ|9=>9|4=>4|3=>3|5=>5|117=>332|116=>331|0=>0|124=>335|105=>368|21=>21|119=>394|46=>290|139=>397|138=>396|Y=>Y,λ|3=>3|4=>4|Y=>Y⟩
theorem Tryz.ajH:Go.Proofs.Lays.n161 Tryz.prog Tryz.ajI:=by constructor<;>intros<;>kernel_rfl
open Go.RowKit in
theorem Tryz.strings_TrimLeft_one(O:ByteArray)(t:UInt8)(h9:t.toNat<128)(I:World):Calls Tryz.prog 316 #[.string O,.string ⟨#[t]⟩] I λJ aT=>J=.returned (.string ⟨(Lib.trimLeftB O.data.toList t).toArray⟩)/\aT=I:=Any.strings_TrimLeft_one Tryz.ajH O t h9 I
def Tryz.ajK:Go.Shelf.Ren:=⟨λ|162=>317|232=>245|227=>246|234=>248|236=>250|228=>287|271=>290|151=>289|120=>311|197=>288|152=>310|260=>309|137=>326|119=>327|224=>328|225=>329|217=>342|266=>351|Y=>Y,λ|9=>9|4=>4|3=>3|5=>5|117=>332|116=>331|0=>0|124=>335|21=>21|105=>368|46=>290|119=>394|139=>397|138=>396|Y=>Y,λ|3=>3|4=>4|Y=>Y⟩
theorem Tryz.ajJ:Go.Proofs.Lays.n162 Tryz.prog Tryz.ajK:=by constructor<;>intros<;>kernel_rfl
open Go.RowKit in
theorem Tryz.strings_TrimRight_one(O:ByteArray)(t:UInt8)(h9:t.toNat<128)(I:World)(bo:O.size<=9223372036854775807):Calls Tryz.prog 317 #[.string O,.string ⟨#[t]⟩] I λJ aT=>J=.returned (.string ⟨(Lib.trimRightB O.data.toList t).toArray⟩)/\aT=I:=Any.strings_TrimRight_one Tryz.ajJ O t h9 I bo
def Tryz.ajG:Go.Shelf.Ren:=⟨λ|160=>199|232=>245|231=>244|227=>246|234=>248|233=>247|236=>250|235=>249|228=>287|271=>290|151=>289|197=>288|120=>311|152=>310|260=>309|137=>326|119=>327|224=>328|225=>329|217=>342|266=>351|Y=>Y,λ|9=>9|4=>4|3=>3|5=>5|117=>332|116=>331|0=>0|124=>335|21=>21|105=>368|46=>290|119=>394|139=>397|138=>396|Y=>Y,λ|3=>3|4=>4|Y=>Y⟩
theorem Tryz.ajF:Go.Proofs.Lays.n160 Tryz.prog Tryz.ajG:=by constructor<;>intros<;>kernel_rfl
def Tryz.ajz:Go.Shelf.Ren:=⟨λ|106=>292|213=>313|265=>331|Y=>Y,λ|9=>9|3=>3|Y=>Y,λ|Y=>Y⟩
theorem Tryz.ajy:Go.Proofs.Lays.n106 Tryz.prog Tryz.ajz:=by constructor<;>intros<;>kernel_rfl
open Go.RowKit in
theorem Tryz.strings_Compare(E W:ByteArray)(I:World):Calls Tryz.prog 292 #[.string E,.string W] I λJ aT=>J=.returned (.int .i64 (Lib.compareBytes E.data.toList W.data.toList))/\aT=I:=Any.strings_Compare Tryz.ajy E W I
def Tryz.ajD:Go.Shelf.Ren:=⟨λ|137=>326|217=>342|266=>351|Y=>Y,λ|9=>9|5=>5|3=>3|Y=>Y,λ|Y=>Y⟩
theorem Tryz.ajC:Go.Proofs.Lays.n137 Tryz.prog Tryz.ajD:=by constructor<;>intros<;>kernel_rfl
open Go.RowKit in
theorem Tryz.strings_IndexByte(O:ByteArray)(t:Int)(I:World):Calls Tryz.prog 326 #[.string O,.int .u8 t] I λJ aT=>J=.returned (.int .i64 (Lib.indexByte O.data.toList t.toNat.toUInt8))/\aT=I:=Any.strings_IndexByte Tryz.ajC O t I
def Tryz.ajB:Go.Shelf.Ren:=⟨λ|129=>195|Y=>Y,λ|53=>178|3=>3|4=>4|46=>290|5=>5|9=>9|Y=>Y,λ|Y=>Y⟩
theorem Tryz.ajA:Go.Proofs.Lays.n129 Tryz.prog Tryz.ajB:=by constructor<;>intros<;>kernel_rfl
theorem Tryz.bits_Len64(Z:Int)(I:World)(dJ:0<=Z)(h1:Z<=18446744073709551615):Calls Tryz.prog 195 #[.int .u64 Z] I λJ aT=>J=.returned (.int .i64 (Lib.bitLen Z.toNat))/\aT=I:=Any.bits_Len64 Tryz.ajA Z I dJ h1
def Tryz.ajQ:Go.Shelf.Ren:=⟨λ|317=>194|Y=>Y,λ|3=>3|46=>290|Y=>Y,λ|Y=>Y⟩
theorem Tryz.ajP:Go.Proofs.Lays.n317 Tryz.prog Tryz.ajQ:=by constructor<;>intros<;>kernel_rfl
open Go.Lib in
theorem Tryz.internal_strconv_log10Pow2(Z:Nat)(w:Z<=64)(I:World):Calls Tryz.prog 194 #[.int .i64 Z] I λJ aT=>J=.returned (.int .i64 (Lib.l10 Z))/\aT=I:=Any.internal_strconv_log10Pow2 Tryz.ajP Z w I
def Tryz.ajS:Go.Shelf.Ren:=⟨λ|318=>196|Y=>Y,λ|3=>3|4=>4|Y=>Y,λ|Y=>Y⟩
theorem Tryz.ajR:Go.Proofs.Lays.n318 Tryz.prog Tryz.ajS:=by constructor<;>intros<;>kernel_rfl
open Go.Lib in
theorem Tryz.internal_strconv_bool2_int(W:Bool)(I:World):Calls Tryz.prog 196 #[.bool W] I λJ aT=>J=.returned (.int .i64 (if W then 1 else 0))/\aT=I:=Any.internal_strconv_bool2_int Tryz.ajR W I
def Tryz.ajM:Go.Shelf.Ren:=⟨λ|283=>136|Y=>Y,λ|3=>3|9=>9|4=>4|Y=>Y,λ|Y=>Y⟩
theorem Tryz.ajL:Go.Proofs.Lays.n283 Tryz.prog Tryz.ajM:=by constructor<;>intros<;>kernel_rfl
open Go.Lib in
theorem Tryz.internal_strconv_small(H:Nat)(w:H<100)(I:World):Calls Tryz.prog 136 #[.int .i64 H] I λJ aT=>J=.returned (.string ⟨(Lib.decDigits H).toArray⟩)/\aT=I:=Any.internal_strconv_small Tryz.ajL H w I
def Tryz.ajO:Go.Shelf.Ren:=⟨λ|285=>138|Y=>Y,λ|37=>32|53=>178|3=>3|4=>4|51=>288|9=>9|5=>5|0=>0|Y=>Y,λ|Y=>Y⟩
theorem Tryz.ajN:Go.Proofs.Lays.n285 Tryz.prog Tryz.ajO:=by constructor<;>intros<;>kernel_rfl
open Go.RowKit Go.Sort Go.Lib in
theorem Tryz.internal_strconv_formatBase10(a8 off cap:Nat)(aP:Nat)(M:Array UInt8)(I:World)(hH:Holds (λ(W:UInt8)=>Value.int .u8 (W.toNat:Int)) I a8 off M)(hu:aP<10^M.size)(aiq:aP<18446744073709551616)(aip:M.size<4611686018427387904):Calls Tryz.prog 138 #[.slice (some ⟨a8,off,none⟩) M.size cap,.int .u64 aP] I λJ aT=>J=.returned (.tuple #[])/\∃(Y E7:Nat)(Tc:Array UInt8),aT=(putRow (λ(W:UInt8)=>Value.int .u8 (W.toNat:Int)) I a8 off Tc).drewN Y/\FmtInv M.size aP 0 E7 Tc:=Any.internal_strconv_formatBase10 Tryz.ajN a8 off cap aP M I hH hu aiq aip
def Tryz.ajU:Go.Shelf.Ren:=⟨λ|143=>344|219=>354|217=>342|225=>329|224=>328|267=>357|266=>351|314=>358|Y=>Y,λ|9=>9|3=>3|4=>4|5=>5|46=>290|146=>414|51=>288|Y=>Y,λ|1=>5|Y=>Y⟩
theorem Tryz.ajT:Go.Proofs.LaysM.n143 Tryz.prog Tryz.ajU:=by
 constructor
 case ton143=>constructor<;>intros<;>kernel_rfl
 case s1_3=>exactλI w=>Go.Proofs.cell_of_shapedOpen_int (zero:=#[.int .i64 0]) (t:=3) w (tf (by kernel_rfl)) (by kernel_rfl) rfl (by kernel_rfl) (by kernel_rfl) Tryz.underlying3
 all_goals (intros;first|kernel_rfl|trivial)
def Tryz.V0:Go.Shelf.Ren:=⟨λ|155=>312|154=>330|138=>343|165=>334|143=>344|166=>335|197=>288|169=>337|195=>352|218=>353|240=>348|241=>349|219=>354|260=>309|276=>355|277=>356|217=>342|225=>329|224=>328|267=>357|266=>351|314=>358|Y=>Y,λ|9=>9|3=>3|4=>4|72=>405|0=>0|76=>408|105=>368|21=>21|5=>5|70=>403|20=>20|37=>32|75=>407|127=>418|164=>420|46=>290|119=>394|139=>397|138=>396|146=>414|51=>288|80=>39|Y=>Y,λ|1=>5|3=>3|4=>4|Y=>Y⟩
theorem Tryz.ajE:Go.Proofs.Lays.n155 Tryz.prog Tryz.V0:=by constructor<;>intros<;>kernel_rfl
theorem Tryz.acD:Builder.Extra Tryz.prog Tryz.V0:={
 sizeBuilder:=by kernel_rfl
 liesBuilder:=by kernel_rfl
 t5:=Tryz.underlying5
 a5:=Tryz.isAgg5
 z5:=Tryz.sizeOf5
 v5:=Tryz.zeroValue5
 infoByte:=by kernel_rfl
 cellsByte:=by kernel_rfl
 sizeByte:=by kernel_rfl
 neB5:=by decide}
open Go.RowKit Go.Lib in
theorem Tryz.strings_ReplaceAll(O old new:ByteArray)(o:Int)(I:World)(bo:O.size<4294967281)(hm:I.cell? ⟨5,0,none⟩=some (.int .i64 o))(h1:1<=old.size)(hlen:O.size+Lib.countB O old*new.size<=140737488355328):Calls Tryz.prog 312 #[.string O,.string old,.string new] I λJ aT=>J=.returned (.string ⟨(Lib.replaceAll O.data.toList old.data.toList new.data.toList).toArray⟩)/\Below I.heap.size I aT:=Any.strings_ReplaceAll Tryz.ajE Tryz.acD O old new o I bo hm h1 hlen
def Tryz.VZ:Go.Shelf.Ren:=⟨λ|105=>314|212=>332|99=>333|165=>334|166=>335|170=>336|169=>337|263=>345|264=>346|206=>347|240=>348|241=>349|276=>355|277=>356|Y=>Y,λ|9=>9|3=>3|4=>4|20=>20|0=>0|46=>290|109=>401|5=>5|72=>405|76=>408|51=>288|146=>414|53=>178|148=>416|70=>403|37=>32|75=>407|127=>418|164=>420|80=>39|Y=>Y,λ|Y=>Y⟩
theorem Tryz.ajx:Go.Proofs.Lays.n105 Tryz.prog Tryz.VZ:=by constructor<;>intros<;>kernel_rfl
theorem Tryz.acC:Builder.Extra Tryz.prog Tryz.VZ:={
 sizeBuilder:=by kernel_rfl
 liesBuilder:=by kernel_rfl
 t5:=Tryz.underlying5
 a5:=Tryz.isAgg5
 z5:=Tryz.sizeOf5
 v5:=Tryz.zeroValue5
 infoByte:=by kernel_rfl
 cellsByte:=by kernel_rfl
 sizeByte:=by kernel_rfl
 neB5:=by decide}
open Go.RowKit Go.Lib in
theorem Tryz.strings_Repeat(O:ByteArray)(t:Nat)(I:World)(h9:t<=9223372036854775807)(hlen:O.size*t<=140737488355328):Calls Tryz.prog 314 #[.string O,.int .i64 t] I λJ aT=>J=.returned (.string ⟨(Lib.repeatL O.data.toList t).toArray⟩)/\Below I.heap.size I aT:=Any.strings_Repeat Tryz.ajx Tryz.acC O t I h9 hlen
def Tryz.ajV:Go.Shelf.Ren:=⟨λ|15=>69|Y=>Y,λ|22=>64|3=>3|4=>4|Y=>Y,λ|Y=>Y⟩
theorem Tryz.V1:Go.Proofs.Lays2.n15 Tryz.prog Tryz.ajV:=by constructor<;>intros<;>kernel_rfl
open Go.RowKit Go.Lib in
theorem Tryz.slices_Clone_int_nil(Y t:Nat)(I:World):Calls Tryz.prog 69 #[.slice none Y t] I λJ aT=>J=.returned (.slice none 0 0)/\aT=I:=Any.slices_Clone_int_nil Tryz.V1 Y t I
open Go.RowKit Go.Lib in
theorem Tryz.slices_Clone_int_zero(E:Addr)(t:Nat)(I:World):Calls Tryz.prog 69 #[.slice (some E) 0 t] I λJ aT=>∃E7,J=.returned E7/\aT.ownsRow I.heap.size 3 1 E7 0 []/\E7≠.slice none 0 0/\Below I.heap.size I aT:=Any.slices_Clone_int_zero Tryz.V1 E t I
def Tryz.ajW:Go.Shelf.Ren:=⟨λ|6=>156|15=>213|14=>212|28=>270|29=>195|20=>262|21=>263|22=>264|23=>265|24=>266|25=>267|26=>268|27=>269|46=>298|47=>299|48=>300|49=>301|50=>302|57=>318|Y=>Y,λ|22=>92|24=>70|25=>234|3=>3|39=>290|0=>0|53=>288|55=>178|4=>4|46=>346|45=>345|50=>214|5=>5|9=>9|66=>376|70=>380|76=>387|77=>180|Y=>Y,λ|Y=>Y⟩
theorem Tryz.V2:Go.Proofs.SlLaysF0.n6 Tryz.prog Tryz.ajW:=by
 constructor
 case f6=>exact⟨Tryz.f156.name,by decide,Tryz.func156.trans (cW some (by kernel_rfl))⟩
 case f14=>exact⟨Tryz.f212.name,by decide,Tryz.func212.trans (cW some (by kernel_rfl))⟩
 case f20=>exact⟨Tryz.f262.name,by decide,Tryz.func262.trans (cW some (by kernel_rfl))⟩
 case f21=>exact⟨Tryz.f263.name,by decide,Tryz.func263.trans (cW some (by kernel_rfl))⟩
 case f22=>exact⟨Tryz.f264.name,by decide,Tryz.func264.trans (cW some (by kernel_rfl))⟩
 case f23=>exact⟨Tryz.f265.name,by decide,Tryz.func265.trans (cW some (by kernel_rfl))⟩
 case f24=>exact⟨Tryz.f266.name,by decide,Tryz.func266.trans (cW some (by kernel_rfl))⟩
 case f25=>exact⟨Tryz.f267.name,by decide,Tryz.func267.trans (cW some (by kernel_rfl))⟩
 case f26=>exact⟨Tryz.f268.name,by decide,Tryz.func268.trans (cW some (by kernel_rfl))⟩
 case f27=>exact⟨Tryz.f269.name,by decide,Tryz.func269.trans (cW some (by kernel_rfl))⟩
 case f46=>exact⟨Tryz.f298.name,by decide,Tryz.func298.trans (cW some (by kernel_rfl))⟩
 case f49=>exact⟨Tryz.f301.name,by decide,Tryz.func301.trans (cW some (by kernel_rfl))⟩
 case f50=>exact⟨Tryz.f302.name,by decide,Tryz.func302.trans (cW some (by kernel_rfl))⟩
 case f57=>exact⟨Tryz.f318.name,by decide,Tryz.func318.trans (cW some (by kernel_rfl))⟩
 all_goals (intros;first|kernel_rfl|trivial)
end Go.Proofs
