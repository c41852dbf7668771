import Derived.Test.YtlciaabfegkegaaGreatDoorA0
set_option linter.all false
set_option maxHeartbeats 8000000
set_option maxRecDepth 100000
namespace Go.Proofs
open Go.Shelf Go.RowKit Go.Lib Go.Sort
def Tryz.ge:Ren:=⟨λ|99=>166|105=>397|106=>383|119=>110|120=>377|129=>143|137=>272|138=>350|143=>164|151=>347|152=>216|153=>165|154=>316|155=>277|160=>274|161=>399|162=>400|165=>351|166=>352|169=>353|170=>404|195=>378|197=>78|206=>220|212=>403|213=>396|217=>268|218=>379|219=>215|224=>270|225=>269|226=>217|227=>218|228=>219|231=>309|232=>310|233=>311|234=>312|235=>313|236=>314|240=>380|241=>381|260=>106|263=>405|264=>406|265=>402|266=>307|267=>271|271=>348|276=>394|277=>395|283=>111|285=>113|314=>308|317=>142|318=>144|339=>107|345=>139|346=>140|R=>R,λ|37=>36|46=>84|49=>229|51=>154|53=>151|70=>430|72=>432|75=>434|76=>435|80=>437|105=>148|109=>474|116=>334|117=>335|119=>225|124=>374|127=>458|131=>231|138=>227|139=>228|146=>400|148=>477|164=>469|234=>230|236=>233|R=>R,λ|1=>10|3=>2|4=>3|20=>4|21=>5|22=>6|23=>7|R=>R⟩
theorem Tryz.apL:Lays.n161 Tryz.prog Tryz.ge:=by constructor<;>intros<;>kernel_rfl
theorem Tryz.apM:Lays.n162 Tryz.prog Tryz.ge:=by constructor<;>intros<;>kernel_rfl
theorem Tryz.apK:Lays.n160 Tryz.prog Tryz.ge:=by constructor<;>intros<;>kernel_rfl
theorem Tryz.aaH:Lays.n106 Tryz.prog Tryz.ge:=by constructor<;>intros<;>kernel_rfl
theorem Tryz.strings_Compare(z Q:ByteArray)(E:World):Calls Tryz.prog 383 #[.string z,.string Q] E λF bO=>F=.returned (.int .i64 (Lib.compareBytes z.data.toList Q.data.toList))/\bO=E:=Any.strings_Compare Tryz.aaH z Q E
theorem Tryz.apI:Lays.n137 Tryz.prog Tryz.ge:=by constructor<;>intros<;>kernel_rfl
theorem Tryz.apH:Lays.n129 Tryz.prog Tryz.ge:=by constructor<;>intros<;>kernel_rfl
theorem Tryz.apR:Lays.n317 Tryz.prog Tryz.ge:=by constructor<;>intros<;>kernel_rfl
theorem Tryz.apS:Lays.n318 Tryz.prog Tryz.ge:=by constructor<;>intros<;>kernel_rfl
theorem Tryz.apP:Lays.n283 Tryz.prog Tryz.ge:=by constructor<;>intros<;>kernel_rfl
theorem Tryz.apQ:Lays.n285 Tryz.prog Tryz.ge:=by constructor<;>intros<;>kernel_rfl
theorem Tryz.apU:LaysM.n143 Tryz.prog Tryz.ge:=by
 constructor
 case ton143=>constructor<;>intros<;>kernel_rfl
 case s1_3=>exactλE s=>cell_of_shapedOpen_int (zero:=#[.int .i64 0]) (t:=3) s (pJ (by kernel_rfl)) (by kernel_rfl) rfl (by kernel_rfl) (by kernel_rfl) Tryz.underlying3
 all_goals (intros;first|kernel_rfl|trivial)
theorem Tryz.apJ:Lays.n155 Tryz.prog Tryz.ge:=by constructor<;>intros<;>kernel_rfl
theorem Tryz.VN:Builder.Extra Tryz.prog Tryz.ge:={
 sizeBuilder:=by kernel_rfl
 liesBuilder:=by kernel_rfl
 t5:=Tryz.underlying5
 a5:=Tryz.isAgg5
 z5:=Tryz.sizeOf5
 v5:=Tryz.zeroValue5
 infoByte:=by kernel_rfl
 cellsByte:=by kernel_rfl
 sizeByte:=by kernel_rfl
 neB5:=by decide}
theorem Tryz.apG:Lays.n105 Tryz.prog Tryz.ge:=by constructor<;>intros<;>kernel_rfl
def Tryz.apV:Ren:=⟨λ|6=>297|15=>336|14=>335|28=>374|29=>143|20=>366|21=>367|22=>368|23=>369|24=>370|25=>371|26=>372|27=>373|46=>389|47=>390|48=>391|49=>392|50=>393|57=>401|R=>R,λ|22=>271|24=>107|25=>388|39=>84|53=>154|55=>151|46=>449|45=>448|50=>231|66=>463|70=>467|76=>472|77=>379|R=>R,id⟩
theorem Tryz.aaL:SlLaysF0.n6 Tryz.prog Tryz.apV:=by
 constructor
 case f6=>exact⟨Tryz.f297.name,by decide,Tryz.func297.trans (ea some (by kernel_rfl))⟩
 case f14=>exact⟨Tryz.f335.name,by decide,Tryz.func335.trans (ea some (by kernel_rfl))⟩
 case f20=>exact⟨Tryz.f366.name,by decide,Tryz.func366.trans (ea some (by kernel_rfl))⟩
 case f21=>exact⟨Tryz.f367.name,by decide,Tryz.func367.trans (ea some (by kernel_rfl))⟩
 case f22=>exact⟨Tryz.f368.name,by decide,Tryz.func368.trans (ea some (by kernel_rfl))⟩
 case f23=>exact⟨Tryz.f369.name,by decide,Tryz.func369.trans (ea some (by kernel_rfl))⟩
 case f24=>exact⟨Tryz.f370.name,by decide,Tryz.func370.trans (ea some (by kernel_rfl))⟩
 case f25=>exact⟨Tryz.f371.name,by decide,Tryz.func371.trans (ea some (by kernel_rfl))⟩
 case f26=>exact⟨Tryz.f372.name,by decide,Tryz.func372.trans (ea some (by kernel_rfl))⟩
 case f27=>exact⟨Tryz.f373.name,by decide,Tryz.func373.trans (ea some (by kernel_rfl))⟩
 case f46=>exact⟨Tryz.f389.name,by decide,Tryz.func389.trans (ea some (by kernel_rfl))⟩
 case f49=>exact⟨Tryz.f392.name,by decide,Tryz.func392.trans (ea some (by kernel_rfl))⟩
 case f50=>exact⟨Tryz.f393.name,by decide,Tryz.func393.trans (ea some (by kernel_rfl))⟩
 case f57=>exact⟨Tryz.f401.name,by decide,Tryz.func401.trans (ea some (by kernel_rfl))⟩
 all_goals (intros;first|kernel_rfl|trivial)
theorem Tryz.apT:Lays.n339 Tryz.prog Tryz.ge:=by constructor<;>intros<;>kernel_rfl
theorem Tryz.apN:Lays.n197 Tryz.prog Tryz.ge:=by constructor<;>intros<;>kernel_rfl
theorem Tryz.R8:Lays.n119 Tryz.prog Tryz.ge:=by constructor<;>intros<;>kernel_rfl
theorem Tryz.aaK:Lays.n153 Tryz.prog Tryz.ge:=by constructor<;>intros<;>kernel_rfl
theorem Tryz.aaJ:Lays.n152 Tryz.prog Tryz.ge:=by constructor<;>intros<;>kernel_rfl
theorem Tryz.aaI:Lays.n143 Tryz.prog Tryz.ge:=by constructor<;>intros<;>kernel_rfl
theorem Tryz.apO:Lays.n219 Tryz.prog Tryz.ge:=by constructor<;>intros<;>kernel_rfl
theorem Tryz.ay_:Lays.n138 Tryz.prog Tryz.ge:=by constructor<;>intros<;>kernel_rfl
theorem Tryz.ay9:Lays.n137 Tryz.prog Tryz.ge:=by constructor<;>intros<;>kernel_rfl
end Go.Proofs
