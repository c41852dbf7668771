import Derived.Test.YtpilnblkknjliaaGreatDoorA0
set_option linter.all false
set_option maxHeartbeats 8000000
set_option maxRecDepth 100000
namespace Go.Proofs
open Go.Shelf Go.RowKit Go.Lib
def Tryz.asJ:Go.Shelf.Ren:=⟨λ|161=>314|231=>214|227=>216|233=>217|235=>219|228=>272|197=>273|151=>274|260=>304|152=>305|137=>324|119=>325|224=>326|225=>327|217=>346|266=>357|T=>T,λ|9=>9|4=>4|3=>3|5=>5|117=>301|116=>300|0=>0|124=>304|105=>352|21=>21|119=>385|46=>246|139=>388|138=>387|T=>T,λ|3=>2|4=>3|T=>T⟩
theorem Tryz.asI:Go.Proofs.Lays.n161 eG Tryz.asJ:=by constructor<;>intros<;>kernel_rfl
open Go.RowKit in
theorem Tryz.strings_TrimLeft_one(M:ByteArray)(l:UInt8)(kC:l.toNat<128)(D:World):Calls eG 314 #[.string M,.string ⟨#[l]⟩] D λF bE=>F=.returned (.string ⟨(Lib.trimLeftB M.data.toList l).toArray⟩)/\bE=D:=Any.strings_TrimLeft_one Tryz.asI M l kC D
def Tryz.asL:Go.Shelf.Ren:=⟨λ|162=>315|232=>215|227=>216|234=>218|236=>220|228=>272|271=>275|151=>274|120=>306|197=>273|152=>305|260=>304|137=>324|119=>325|224=>326|225=>327|217=>346|266=>357|T=>T,λ|9=>9|4=>4|3=>3|5=>5|117=>301|116=>300|0=>0|124=>304|21=>21|105=>352|46=>246|119=>385|139=>388|138=>387|T=>T,λ|3=>2|4=>3|T=>T⟩
theorem Tryz.asK:Go.Proofs.Lays.n162 eG Tryz.asL:=by constructor<;>intros<;>kernel_rfl
open Go.RowKit in
theorem Tryz.strings_TrimRight_one(M:ByteArray)(l:UInt8)(kC:l.toNat<128)(D:World)(cq:M.size<=9223372036854775807):Calls eG 315 #[.string M,.string ⟨#[l]⟩] D λF bE=>F=.returned (.string ⟨(Lib.trimRightB M.data.toList l).toArray⟩)/\bE=D:=Any.strings_TrimRight_one Tryz.asK M l kC D cq
def Tryz.asH:Go.Shelf.Ren:=⟨λ|160=>155|232=>215|231=>214|227=>216|234=>218|233=>217|236=>220|235=>219|228=>272|271=>275|151=>274|197=>273|120=>306|152=>305|260=>304|137=>324|119=>325|224=>326|225=>327|217=>346|266=>357|T=>T,λ|9=>9|4=>4|3=>3|5=>5|117=>301|116=>300|0=>0|124=>304|21=>21|105=>352|46=>246|119=>385|139=>388|138=>387|T=>T,λ|3=>2|4=>3|T=>T⟩
theorem Tryz.asG:Go.Proofs.Lays.n160 eG Tryz.asH:=by constructor<;>intros<;>kernel_rfl
def Tryz.asA:Go.Shelf.Ren:=⟨λ|106=>288|213=>311|265=>335|T=>T,λ|9=>9|3=>3|T=>T,λ|T=>T⟩
theorem Tryz.asz:Go.Proofs.Lays.n106 eG Tryz.asA:=by constructor<;>intros<;>kernel_rfl
open Go.RowKit in
theorem Tryz.strings_Compare(y R:ByteArray)(D:World):Calls eG 288 #[.string y,.string R] D λF bE=>F=.returned (.int .i64 (Lib.compareBytes y.data.toList R.data.toList))/\bE=D:=Any.strings_Compare Tryz.asz y R D
def Tryz.asE:Go.Shelf.Ren:=⟨λ|137=>324|217=>346|266=>357|T=>T,λ|9=>9|5=>5|3=>3|T=>T,λ|T=>T⟩
theorem Tryz.asD:Go.Proofs.Lays.n137 eG Tryz.asE:=by constructor<;>intros<;>kernel_rfl
open Go.RowKit in
theorem Tryz.strings_IndexByte(M:ByteArray)(l:Int)(D:World):Calls eG 324 #[.string M,.int .u8 l] D λF bE=>F=.returned (.int .i64 (Lib.indexByte M.data.toList l.toNat.toUInt8))/\bE=D:=Any.strings_IndexByte Tryz.asD M l D
def Tryz.asC:Go.Shelf.Ren:=⟨λ|129=>261|T=>T,λ|53=>226|3=>3|4=>4|46=>246|5=>5|9=>9|T=>T,λ|T=>T⟩
theorem Tryz.asB:Go.Proofs.Lays.n129 eG Tryz.asC:=by constructor<;>intros<;>kernel_rfl
theorem Tryz.bits_Len64(U:Int)(D:World)(iL:0<=U)(h1:U<=18446744073709551615):Calls eG 261 #[.int .u64 U] D λF bE=>F=.returned (.int .i64 (Lib.bitLen U.toNat))/\bE=D:=Any.bits_Len64 Tryz.asB U D iL h1
def Tryz.asR:Go.Shelf.Ren:=⟨λ|317=>284|T=>T,λ|3=>3|46=>246|T=>T,λ|T=>T⟩
theorem Tryz.asQ:Go.Proofs.Lays.n317 eG Tryz.asR:=by constructor<;>intros<;>kernel_rfl
open Go.Lib in
theorem Tryz.internal_strconv_log10Pow2(U:Nat)(q:U<=64)(D:World):Calls eG 284 #[.int .i64 U] D λF bE=>F=.returned (.int .i64 (Lib.l10 U))/\bE=D:=Any.internal_strconv_log10Pow2 Tryz.asQ U q D
def Tryz.asT:Go.Shelf.Ren:=⟨λ|318=>285|T=>T,λ|3=>3|4=>4|T=>T,λ|T=>T⟩
theorem Tryz.asS:Go.Proofs.Lays.n318 eG Tryz.asT:=by constructor<;>intros<;>kernel_rfl
open Go.Lib in
theorem Tryz.internal_strconv_bool2_int(R:Bool)(D:World):Calls eG 285 #[.bool R] D λF bE=>F=.returned (.int .i64 (if R then 1 else 0))/\bE=D:=Any.internal_strconv_bool2_int Tryz.asS R D
def Tryz.asN:Go.Shelf.Ren:=⟨λ|283=>242|T=>T,λ|3=>3|9=>9|4=>4|T=>T,λ|T=>T⟩
theorem Tryz.asM:Go.Proofs.Lays.n283 eG Tryz.asN:=by constructor<;>intros<;>kernel_rfl
open Go.Lib in
theorem Tryz.internal_strconv_small(E:Nat)(q:E<100)(D:World):Calls eG 242 #[.int .i64 E] D λF bE=>F=.returned (.string ⟨(Lib.decDigits E).toArray⟩)/\bE=D:=Any.internal_strconv_small Tryz.asM E q D
def Tryz.asP:Go.Shelf.Ren:=⟨λ|285=>244|T=>T,λ|37=>57|53=>226|3=>3|4=>4|51=>340|9=>9|5=>5|0=>0|T=>T,λ|T=>T⟩
theorem Tryz.asO:Go.Proofs.Lays.n285 eG Tryz.asP:=by constructor<;>intros<;>kernel_rfl
open Go.RowKit Go.Sort Go.Lib in
theorem Tryz.internal_strconv_formatBase10(bK off cap:Nat)(bn:Nat)(I:Array UInt8)(D:World)(hH:Holds (λ(R:UInt8)=>Value.int .u8 (R.toNat:Int)) D bK off I)(hu:bn<10^I.size)(arc:bn<18446744073709551616)(arb:I.size<4611686018427387904):Calls eG 244 #[.slice (some ⟨bK,off,none⟩) I.size cap,.int .u64 bn] D λF bE=>F=.returned (.tuple #[])/\∃(T JP:Nat)(Zo:Array UInt8),bE=(putRow (λ(R:UInt8)=>Value.int .u8 (R.toNat:Int)) D bK off Zo).drewN T/\FmtInv I.size bn 0 JP Zo:=Any.internal_strconv_formatBase10 Tryz.asO bK off cap bn I D hH hu arc arb
def Tryz.asV:Go.Shelf.Ren:=⟨λ|143=>348|219=>360|217=>346|225=>327|224=>326|267=>363|266=>357|314=>364|T=>T,λ|9=>9|3=>3|4=>4|5=>5|46=>246|146=>411|51=>340|T=>T,λ|1=>5|T=>T⟩
theorem Tryz.asU:Go.Proofs.LaysM.n143 eG Tryz.asV:=by
 constructor
 case ton143=>constructor<;>intros<;>kernel_rfl
 case s1_3=>exactλD q=>Go.Proofs.cell_of_shapedOpen_int (zero:=#[.int .i64 0]) (t:=3) q (yU (by kernel_rfl)) (by kernel_rfl) rfl (by kernel_rfl) (by kernel_rfl) Tryz.underlying3
 all_goals (intros;first|kernel_rfl|trivial)
def Tryz.acR:Go.Shelf.Ren:=⟨λ|155=>307|154=>328|138=>347|165=>338|143=>348|166=>339|197=>273|169=>341|195=>358|218=>359|240=>354|241=>355|219=>360|260=>304|276=>361|277=>362|217=>346|225=>327|224=>326|267=>363|266=>357|314=>364|T=>T,λ|9=>9|3=>3|4=>4|72=>401|0=>0|76=>404|105=>352|21=>21|5=>5|70=>399|20=>20|37=>57|75=>403|127=>415|164=>417|46=>246|119=>385|139=>388|138=>387|146=>411|51=>340|80=>62|T=>T,λ|1=>5|3=>2|4=>3|T=>T⟩
theorem Tryz.asF:Go.Proofs.Lays.n155 eG Tryz.acR:=by constructor<;>intros<;>kernel_rfl
theorem Tryz.aku:Builder.Extra eG Tryz.acR:={
 sizeBuilder:=by kernel_rfl
 liesBuilder:=by kernel_rfl
 t5:=Tryz.underlying5
 a5:=Tryz.isAgg5
 z5:=Tryz.sizeOf5
 v5:=Tryz.zeroValue5
 infoByte:=by kernel_rfl
 cellsByte:=by kernel_rfl
 sizeByte:=by kernel_rfl
 neB5:=by decide}
open Go.RowKit Go.Lib in
theorem Tryz.strings_ReplaceAll(M old new:ByteArray)(i:Int)(D:World)(cq:M.size<4294967281)(hm:D.cell? ⟨5,0,none⟩=some (.int .i64 i))(h1:1<=old.size)(hlen:M.size+Lib.countB M old*new.size<=140737488355328):Calls eG 307 #[.string M,.string old,.string new] D λF bE=>F=.returned (.string ⟨(Lib.replaceAll M.data.toList old.data.toList new.data.toList).toArray⟩)/\Below D.heap.size D bE:=Any.strings_ReplaceAll Tryz.asF Tryz.aku M old new i D cq hm h1 hlen
def Tryz.acQ:Go.Shelf.Ren:=⟨λ|105=>312|212=>336|99=>337|165=>338|166=>339|170=>340|169=>341|263=>351|264=>352|206=>353|240=>354|241=>355|276=>361|277=>362|T=>T,λ|9=>9|3=>3|4=>4|20=>20|0=>0|46=>246|109=>397|5=>5|72=>401|76=>404|51=>340|146=>411|53=>226|148=>413|70=>399|37=>57|75=>403|127=>415|164=>417|80=>62|T=>T,λ|T=>T⟩
theorem Tryz.asy:Go.Proofs.Lays.n105 eG Tryz.acQ:=by constructor<;>intros<;>kernel_rfl
theorem Tryz.akt:Builder.Extra eG Tryz.acQ:={
 sizeBuilder:=by kernel_rfl
 liesBuilder:=by kernel_rfl
 t5:=Tryz.underlying5
 a5:=Tryz.isAgg5
 z5:=Tryz.sizeOf5
 v5:=Tryz.zeroValue5
 infoByte:=by kernel_rfl
 cellsByte:=by kernel_rfl
 sizeByte:=by kernel_rfl
 neB5:=by decide}
open Go.RowKit Go.Lib in
theorem Tryz.strings_Repeat(M:ByteArray)(l:Nat)(D:World)(kC:l<=9223372036854775807)(hlen:M.size*l<=140737488355328):Calls eG 312 #[.string M,.int .i64 l] D λF bE=>F=.returned (.string ⟨(Lib.repeatL M.data.toList l).toArray⟩)/\Below D.heap.size D bE:=Any.strings_Repeat Tryz.asy Tryz.akt M l D kC hlen
def Tryz.asW:Go.Shelf.Ren:=⟨λ|15=>46|T=>T,λ|22=>64|3=>3|4=>4|T=>T,λ|T=>T⟩
theorem Tryz.acS:Go.Proofs.Lays2.n15 eG Tryz.asW:=by constructor<;>intros<;>kernel_rfl
open Go.RowKit Go.Lib in
theorem Tryz.slices_Clone_int_nil(T l:Nat)(D:World):Calls eG 46 #[.slice none T l] D λF bE=>F=.returned (.slice none 0 0)/\bE=D:=Any.slices_Clone_int_nil Tryz.acS T l D
open Go.RowKit Go.Lib in
theorem Tryz.slices_Clone_int_zero(y:Addr)(l:Nat)(D:World):Calls eG 46 #[.slice (some y) 0 l] D λF bE=>∃JP,F=.returned JP/\bE.ownsRow D.heap.size 3 1 JP 0 []/\JP≠.slice none 0 0/\Below D.heap.size D bE:=Any.slices_Clone_int_zero Tryz.acS y l D
def Tryz.asX:Go.Shelf.Ren:=⟨λ|6=>135|15=>190|14=>189|28=>260|29=>261|20=>252|21=>253|22=>254|23=>255|24=>256|25=>257|26=>258|27=>259|46=>294|47=>295|48=>296|49=>297|50=>298|57=>316|T=>T,λ|22=>68|24=>26|25=>203|3=>3|39=>246|0=>0|53=>340|55=>226|4=>4|46=>334|45=>333|50=>103|5=>5|9=>9|66=>366|70=>370|76=>377|77=>123|T=>T,λ|T=>T⟩
theorem Tryz.acT:Go.Proofs.SlLaysF0.n6 eG Tryz.asX:=by
 constructor
 case f6=>exact⟨Tryz.f135.name,by decide,Tryz.func135.trans (ep some (by kernel_rfl))⟩
 case f14=>exact⟨Tryz.f189.name,by decide,Tryz.func189.trans (ep some (by kernel_rfl))⟩
 case f20=>exact⟨Tryz.f252.name,by decide,Tryz.func252.trans (ep some (by kernel_rfl))⟩
 case f21=>exact⟨Tryz.f253.name,by decide,Tryz.func253.trans (ep some (by kernel_rfl))⟩
 case f22=>exact⟨Tryz.f254.name,by decide,Tryz.func254.trans (ep some (by kernel_rfl))⟩
 case f23=>exact⟨Tryz.f255.name,by decide,Tryz.func255.trans (ep some (by kernel_rfl))⟩
 case f24=>exact⟨Tryz.f256.name,by decide,Tryz.func256.trans (ep some (by kernel_rfl))⟩
 case f25=>exact⟨Tryz.f257.name,by decide,Tryz.func257.trans (ep some (by kernel_rfl))⟩
 case f26=>exact⟨Tryz.f258.name,by decide,Tryz.func258.trans (ep some (by kernel_rfl))⟩
 case f27=>exact⟨Tryz.f259.name,by decide,Tryz.func259.trans (ep some (by kernel_rfl))⟩
 case f46=>exact⟨Tryz.f294.name,by decide,Tryz.func294.trans (ep some (by kernel_rfl))⟩
 case f49=>exact⟨Tryz.f297.name,by decide,Tryz.func297.trans (ep some (by kernel_rfl))⟩
 case f50=>exact⟨Tryz.f298.name,by decide,Tryz.func298.trans (ep some (by kernel_rfl))⟩
 case f57=>exact⟨Tryz.f316.name,by decide,Tryz.func316.trans (ep some (by kernel_rfl))⟩
 all_goals (intros;first|kernel_rfl|trivial)
end Go.Proofs
