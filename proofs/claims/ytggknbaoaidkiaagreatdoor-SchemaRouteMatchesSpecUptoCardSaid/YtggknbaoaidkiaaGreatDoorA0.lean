import Derived.Test.YtggknbaoaidkiaaGreatDoorProg
import Derived.KernelRfl
import Derived.Below
import Derived.ChangeSame
import Derived.Deep.DeepHandedRow
import Derived.Deep.RegionWith
import Derived.Deep.Slices
import Derived.Ground.Names2Prog
import Derived.Ground.NamesProg
import Derived.Ground.SlgnProg
import Derived.Ground.SlsfProg
import Derived.KernelRfl
import Derived.LaidEql
import Derived.Lib.Itoa
import Derived.Lib.ItoaMem
import Derived.Lib.ItoaNum
import Derived.Lib.Strings
import Derived.MapKept
import Derived.Maps.RangeRun
import Derived.OpenShut
import Derived.Shelf.Bits.Mul64
import Derived.Shelf.Lay
import Derived.Shelf.LaysM
import Derived.Shelf.SlGeneric
import Derived.Shelf.SlLaysF0
import Derived.Shelf.SlSortCmp.NoneTotal
import Derived.Shelf.SlSortCmp.WholeK
import Derived.Shelf.Slices.Clone
import Derived.Shelf.SlicesE.Clone
import Derived.Shelf.Small.Bits
import Derived.Shelf.Small.Strs
import Derived.Shelf.Small.Utf8
import Derived.Shelf.Strconv.AppendInt10
import Derived.Shelf.Strconv.AppendIntPublic10
import Derived.Shelf.Strconv.AppendUint10
import Derived.Shelf.Strconv.Itoa0
import Derived.Shelf.Strconv.Itoa1
import Derived.Shelf.Strconv.Itoa2
import Derived.Shelf.Strconv.Itoa3
import Derived.Shelf.Strings.AsciiSet
import Derived.Shelf.Strings.Builder1
import Derived.Shelf.Strings.Builder2
import Derived.Shelf.Strings.BuilderF
import Derived.Shelf.Strings.Count
import Derived.Shelf.Strings.Prefix
import Derived.Shelf.Strings.Repeat
import Derived.Shelf.Strings.Replace
import Derived.Shelf.Strings.Runes
import Derived.Shelf.Strings.Search1
import Derived.Shelf.Strings.Search2
import Derived.Shelf.Strings.Search3
import Derived.Shelf.Strings.Shaped
import Derived.Shelf.Strings.SlTrimAscii
import Derived.Shelf.Strings.Split
import Derived.Shelf.Strings.Trim
import Derived.Shelf.Unicode.DecodeAny
import Derived.Shelf.Unicode.DecodeSlow
import Derived.Sort.Row
import Derived.WalkKit
import Derived.WideKeyArgs
open List Nat Int Option Array
namespace Go
variable{p:Prop}
abbrev abD:=@Array.all_eq_true
abbrev abE:=@all_eq_true'
abbrev Fj:=@ext'
abbrev abF:=@Array.foldl_toList
abbrev x8:=@getD_eq_getD_getElem?
abbrev abG:=@Array.getElem?_append_left
abbrev Fk:=@Array.getElem?_eq_getElem
abbrev rW:=@Array.getElem?_eq_some_iff
abbrev P2:=@Array.getElem?_mapIdx
abbrev Fl:=@Array.getElem?_modify
abbrev abH:=@Array.getElem?_replicate
abbrev zX:=@getElem?_toList
abbrev abI:=@getElem_mem_toList
abbrev abJ:=@getElem_toList
abbrev uG:=@Array.length_toList
abbrev abK:=@Array.mem_of_getElem?
abbrev P3:=@size_append
abbrev abL:=@size_replicate
abbrev abM:=@Array.toArray_toList
abbrev P4:=@Array.toList_map
abbrev abN:=@toList_zipIdx
abbrev abO:=@BitVec.ofInt_natCast
abbrev abP:=@BitVec.toNat_ofNat
abbrev Ca:=@Bool.and_eq_false_iff
abbrev jD:=@Bool.and_eq_true
abbrev P5:=@Bool.eq_false_iff
abbrev m4:=@Bool.eq_iff_iff
abbrev abQ:=@Bool.false_eq_true
abbrev P6:=@Bool.false_or
abbrev Kf:=@Bool.not_eq_true
abbrev Fm:=@Bool.not_eq_true'
abbrev abR:=@Bool.or_eq_false_iff
abbrev m5:=@Bool.or_eq_true
abbrev s2:=@Bool.true_and
abbrev Kg:=@Classical.byContradiction
abbrev Fo:=@Classical.choose_spec
abbrev Kh:=@Classical.not_not
abbrev jZ:=@Decidable.byContradiction
abbrev wj:=@Decidable.em
abbrev Cb:=@Decidable.not_not
abbrev Fp:=@Fin.ext
abbrev ig:=@Function.comp_def
abbrev lI:=@Iff.rfl
abbrev abS:=@emod_lt_of_pos
abbrev zY:=@Int.le_refl
abbrev Fq:=@Int.lt_trichotomy
abbrev Ki:=@Int.mul_comm
abbrev Fr:=@toNat_natCast
abbrev zZ:=@List.Perm.append_left
abbrev Cc:=@List.Perm.append_right
abbrev x9:=@List.Perm.refl
abbrev s3:=@List.Sublist.append
abbrev s4:=@List.Sublist.refl
abbrev Kj:=@all_cons
abbrev kM:=@List.all_eq_true
abbrev uH:=@any_cons
abbrev abT:=@List.any_eq_false
abbrev wk:=@List.any_eq_true
abbrev ge:=@List.append_assoc
abbrev P7:=@List.append_inj'
abbrev gf:=@append_nil
abbrev wm:=@cons_append
abbrev Kk:=@List.contains_iff_mem
abbrev P8:=@countP_eq_length
abbrev P9:=@List.countP_eq_zero
abbrev z0:=@countP_le_length
abbrev Cd:=@List.count_append
abbrev Fs:=@count_cons
abbrev Kl:=@count_nil
abbrev abU:=@dropLast_concat_getLast
abbrev P_:=@dropWhile_cons
abbrev abV:=@dropWhile_sublist
abbrev iO:=@drop_eq_getElem_cons
abbrev iv:=@drop_eq_nil_of_le
abbrev Qa:=@drop_length
abbrev uI:=@drop_zero
abbrev abW:=@eq_nil_iff_forall_not_mem
abbrev lJ:=@eq_nil_of_length_eq_zero
abbrev uJ:=@List.eq_of_mem_replicate
abbrev abX:=@eraseIdx_append_of_length_le
abbrev Qb:=@eraseIdx_sublist
abbrev oz:=@ext_getElem
abbrev ho:=@List.ext_getElem?
abbrev Qc:=@filterMap_cons
abbrev Qd:=@List.filter_append
abbrev Qe:=@List.filter_congr
abbrev Qf:=@List.filter_eq_self
abbrev Qg:=@List.flatMap_append
abbrev Ft:=@flatMap_cons
abbrev abY:=@flatMap_nil
abbrev Km:=@List.foldl_append
abbrev Kn:=@foldl_cons
abbrev j0:=@forall_mem_cons
abbrev cg:=@getD_eq_getElem?_getD
abbrev lK:=@List.getElem?_append
abbrev q0:=@List.getElem?_append_left
abbrev s5:=@List.getElem?_append_right
abbrev Ko:=@getElem?_cons_zero
abbrev pZ:=@getElem?_drop
abbrev bw:=@List.getElem?_eq_getElem
abbrev s6:=@List.getElem?_eq_none
abbrev Qh:=@List.getElem?_eq_none_iff
abbrev dm:=@List.getElem?_eq_some_iff
abbrev ch:=@List.getElem?_map
abbrev Qi:=@List.getElem?_mapIdx
abbrev wo:=@List.getElem?_range
abbrev wq:=@List.getElem?_replicate
abbrev oA:=@List.getElem?_set
abbrev abZ:=@List.getElem?_set_ne
abbrev Qj:=@List.getElem?_set_self
abbrev lf:=@getElem?_take
abbrev x_:=@getElem?_toArray
abbrev z1:=@List.getElem?_zip_eq_some
abbrev Kp:=@getElem_idxOf
abbrev fG:=@List.getElem_mem
abbrev ab0:=@List.getElem_of_mem
abbrev ab1:=@List.idxOf_append
abbrev rX:=@List.idxOf_lt_length_of_mem
abbrev c_:=@length_append
abbrev kh:=@length_cons
abbrev z2:=@length_drop
abbrev Ce:=@length_eq_one_iff
abbrev Kq:=@length_eq_zero_iff
abbrev ab2:=@length_eraseIdx
abbrev ab3:=@length_filter_le
abbrev aS:=@length_map
abbrev ya:=@length_pos_iff
abbrev Kr:=@length_pos_of_mem
abbrev gM:=@length_range
abbrev s7:=@length_replicate
abbrev lL:=@length_set
abbrev pk:=@length_singleton
abbrev m7:=@length_take
abbrev oB:=@lookup_cons
abbrev z3:=@mapM_cons
abbrev cD:=@List.map_append
abbrev gp:=@List.map_congr_left
abbrev gU:=@map_cons
abbrev Ks:=@map_drop
abbrev ws:=@List.map_fst_zip
abbrev Cf:=@List.map_id
abbrev ez:=@List.map_map
abbrev rY:=@map_nil
abbrev yb:=@List.map_replicate
abbrev gN:=@List.map_set
abbrev Kt:=@List.map_singleton
abbrev Fu:=@List.map_snd_zip
abbrev z4:=@map_take
abbrev Ku:=@map_toArray
abbrev ee:=@List.mem_append
abbrev uK:=@List.mem_append_left
abbrev uL:=@List.mem_append_right
abbrev eT:=@mem_cons
abbrev ki:=@mem_cons_of_mem
abbrev ji:=@mem_cons_self
abbrev Qk:=@List.mem_erase_of_ne
abbrev j1:=@List.mem_filter
abbrev Ql:=@List.mem_flatMap
abbrev Qm:=@List.mem_flatten
abbrev kj:=@List.mem_iff_getElem
abbrev lg:=@List.mem_iff_getElem?
abbrev b4:=@List.mem_map
abbrev dh:=@List.mem_of_getElem?
abbrev Kv:=@mem_of_mem_drop
abbrev p0:=@mem_of_mem_take
abbrev fq:=@List.mem_range
abbrev cV:=@List.mem_singleton
abbrev Qn:=@mem_take_iff_getElem
abbrev ab4:=@List.mem_toArray
abbrev s8:=@nil_append
abbrev pm:=@nodup_append
abbrev s9:=@nodup_cons
abbrev Qo:=@nodup_finRange
abbrev Kw:=@nodup_nil
abbrev h2:=@not_mem_nil
abbrev p1:=@pairwise_cons
abbrev z6:=@pairwise_iff_getElem
abbrev Kx:=@pairwise_map
abbrev Cg:=@pairwise_singleton
abbrev rZ:=@perm_append_comm
abbrev Qp:=@prefix_append
abbrev z7:=@prefix_refl
abbrev r0:=@List.range_succ
abbrev Qq:=@List.replicate_succ'
abbrev ab5:=@List.set_append_left
abbrev yc:=@List.set_append_right
abbrev Fv:=@set_cons_zero
abbrev ab6:=@set_eq_take_append_cons_drop
abbrev yd:=@List.set_set
abbrev z8:=@List.size_toArray
abbrev Qr:=@sublist_append_left
abbrev ab7:=@sublist_cons_self
abbrev ab8:=@take_add_one
abbrev Ch:=@take_append_drop
abbrev gq:=@take_length
abbrev q1:=@take_of_length_le
abbrev ab9:=@take_sublist
abbrev z9:=@take_succ_eq_append_getElem
abbrev Ci:=@take_zero
abbrev ab_:=@Nat.Coprime.symm
abbrev ye:=@Nat.add_assoc
abbrev s_:=@Nat.add_comm
abbrev Ky:=@Nat.add_le_add_left
abbrev aca:=@add_mod_right
abbrev gg:=@Nat.add_mul
abbrev Kz:=@add_mul_div_right
abbrev KA:=@Nat.add_sub_cancel
abbrev acb:=@Nat.add_sub_cancel_left
abbrev q2:=@Nat.add_zero
abbrev acd:=@coprime_div_gcd_div_gcd
abbrev ta:=@div_add_mod
abbrev KB:=@Nat.div_div_eq_div_mul
abbrev KC:=@Nat.div_eq_of_eq_mul_right
abbrev Qs:=@div_eq_of_lt
abbrev KD:=@div_le_self
abbrev Fw:=@div_lt_iff_lt_mul
abbrev Fx:=@Nat.div_one
abbrev ace:=@dvd_iff_mod_eq_zero
abbrev mo:=@eq_of_beq_eq_true
abbrev acf:=@Nat.eq_of_mul_eq_mul_left
abbrev yf:=@eq_of_testBit_eq
abbrev lM:=@eq_zero_or_pos
abbrev Qt:=@Nat.gcd_dvd_left
abbrev Fy:=@Nat.gcd_dvd_right
abbrev KE:=@gcd_pos_of_pos_right
abbrev yg:=@le_add_right
abbrev Fz:=@Nat.le_antisymm
abbrev KF:=@Nat.le_mul_of_pos_right
abbrev mq:=@le_of_ble_eq_true
abbrev KG:=@Nat.le_of_eq
abbrev tb:=@Nat.le_of_lt
abbrev KH:=@Nat.le_of_not_lt
abbrev a1:=@Nat.le_refl
abbrev jj:=@le_succ
abbrev cA:=@Nat.le_trans
abbrev tc:=@Nat.lt_irrefl
abbrev FA:=@Nat.lt_of_le_of_lt
abbrev h3:=@Nat.lt_of_lt_of_le
abbrev yh:=@Nat.lt_of_not_le
abbrev acg:=@lt_of_succ_lt_succ
abbrev gh:=@Nat.lt_or_ge
abbrev wu:=@lt_succ_of_lt
abbrev uM:=@lt_succ_self
abbrev Cj:=@Nat.lt_trichotomy
abbrev Qu:=@Nat.min_eq_left
abbrev ach:=@Nat.min_le_right
abbrev uN:=@mod_eq_of_lt
abbrev pn:=@mod_lt
abbrev aci:=@mod_mul_right_div_self
abbrev acj:=@mod_mul_right_mod
abbrev yi:=@Nat.mul_add
abbrev nO:=@Nat.mul_assoc
abbrev jk:=@Nat.mul_comm
abbrev ack:=@Nat.mul_div_mul_right
abbrev yj:=@Nat.mul_le_mul
abbrev Ck:=@Nat.mul_le_mul_left
abbrev hA:=@Nat.mul_le_mul_right
abbrev acm:=@Nat.mul_le_mul_right_iff
abbrev acn:=@Nat.mul_left_comm
abbrev aco:=@Nat.mul_lt_mul_of_lt_of_le
abbrev KI:=@Nat.mul_lt_mul_of_pos_right
abbrev wv:=@Nat.mul_one
abbrev ww:=@Nat.mul_pos
abbrev uO:=@not_lt_zero
abbrev td:=@Nat.one_mul
abbrev Qv:=@Nat.pos_of_ne_zero
abbrev m8:=@Nat.pow_add
abbrev m9:=@Nat.pow_le_pow_right
abbrev acp:=@Nat.pow_lt_pow_right
abbrev KJ:=@Nat.pow_mul
abbrev mr:=@Nat.pow_pos
abbrev oC:=@Nat.pow_succ
abbrev acq:=@Nat.shiftRight_eq_div_pow
abbrev KK:=@Nat.sub_mul
abbrev ms:=@Nat.sub_self
abbrev Qw:=@Nat.sub_zero
abbrev acr:=@succ_le_of_lt
abbrev nP:=@succ_mul
abbrev Qx:=@testBit_and
abbrev acs:=@testBit_lt_two_pow
abbrev Qy:=@testBit_or
abbrev Qz:=@testBit_two_pow
abbrev acu:=@testBit_two_pow_mul_add
abbrev kk:=@Nat.zero_add
abbrev c1:=@zero_le
abbrev Cl:=@Nat.zero_lt_one
abbrev acv:=@zero_lt_succ
abbrev wx:=@Nat.zero_mul
abbrev acw:=@bind_eq_bind
abbrev acx:=@bind_eq_some_iff
abbrev te:=@getD_some
abbrev z_:=@map_eq_some_iff
abbrev FB:=@map_none
abbrev iP:=@map_some
abbrev lN:=@Option.some.inj
abbrev fc:=@Option.some.injEq
abbrev Cm:=@Prod.mk.injEq
abbrev KL:=@UInt8.le_iff_toNat_le
abbrev KM:=@UInt8.lt_iff_toNat_lt
abbrev FC:=@UInt8.toNat_inj
abbrev QA:=@and_congr
abbrev KN:=@beq_iff_eq
abbrev cW:=@congrArg
abbrev KU:=@congrFun
abbrev mu:=@decide_eq_decide
abbrev FK:=@decide_eq_false
abbrev r3:=@decide_eq_false_iff_not
abbrev oD:=@decide_eq_true
abbrev uR:=@decide_eq_true_eq
abbrev gV:=@decide_eq_true_iff
abbrev KV:=@dif_neg
abbrev Ab:=@dif_pos
abbrev uS:=@getElem!_pos
abbrev aa:=@if_neg
abbrev ab:=@if_pos
abbrev FL:=@if_true
abbrev Cp:=@not_or
abbrev KW:=@of_decide_eq_false
abbrev tf:=@of_decide_eq_true
theorem v(h:p:=by omega):p:=h
theorem aj(h:p:=by decide):p:=h
theorem b(h:p:=by simp_all):p:=h
theorem af(h:p:=by simp):p:=h
theorem bB(h:p:=by trivial):p:=h
theorem aM(h:p:=by grind):p:=h
theorem uQ(h:p:=by dsimp only;omega):p:=h
theorem aK(h:p:=by simp;omega):p:=h
theorem bL(h:p:=by kernel_rfl):p:=h
theorem ax(h:p:=by rfl):p:=h
theorem QG(h:p:=by first|rfl|exact kB (by first|assumption|omega|(show 0<_;omega))|exact bw (by first|assumption|omega|(show 0<_;omega)|(simp;done)|(simp;omega))):p:=h
theorem QH(h:p:=by first|exact mq rfl|decide|(simp[V.cells];done)|omega):p:=h
theorem KT(h:p:=by first|omega|(simp;done)|(simp;omega)):p:=h
theorem acz(h:p:=by simp only[maxLen];first|omega|(simp;done)|(simp;omega)):p:=h
theorem q3(h:p:=by first|exact .inl rfl|exact .inr rfl):p:=h
theorem r1(h:p:=by first|omega|(simp;omega)):p:=h
theorem fe(h:p:=by exact⟨_,rfl,rfl,rfl⟩):p:=h
theorem r2(h:p:=by exact⟨by kernel_rfl⟩):p:=h
theorem acA(h:p:=by first|exact .inl rfl|exact .inr ⟨by kernel_rfl,by kernel_rfl⟩):p:=h
theorem Co(h:p:=by first|exact .f rfl rfl rfl rfl (XR rfl)|exact .f rfl rfl rfl rfl (by first|(simp[V.cells,bh,V.const,V.leaf];done)|(simp[V.cells,bh,V.const,V.leaf];rfl))|exact .nil rfl rfl rfl rfl|exact .str rfl rfl rfl rfl):p:=h
theorem acy(h:p:=by repeat (first|exact .nil|refine .cons (.pl rfl) ?_|refine .cons (.cell rfl rfl rfl) ?_|refine .cons (.f rfl (by first|rfl|simp)) ?_|refine .cons (.n rfl (by first|decide|omega|(simp;done))) ?_)):p:=h
theorem FJ(h:p:=by first|omega|decide):p:=h
theorem p2(h:p:=by (simp_all;omega)):p:=h
theorem Aa(h:p:=by first|omega|(simp;omega)):p:=h
theorem p3(h:p:=by rw[cD];rfl):p:=h
theorem yk(h:p:=by grind[kw,List.map]):p:=h
theorem wy(h:p:=by grind[SV]):p:=h
theorem FD(h:p:=by simp_all[ih,aa,ab]):p:=h
theorem FE(h:p:=by (simp[J8];omega)):p:=h
theorem Cn(h:p:=by grind[sW]):p:=h
theorem FF(h:p:=by simp[au.tp,eN]):p:=h
theorem KO(h:p:=by grind[gA,List.length_append,List.length_singleton]):p:=h
theorem uP(h:p:=by rw[yb];rfl):p:=h
theorem yl(h:p:=by rw[m7];omega):p:=h
theorem FG(h:p:=by grind[Ph]):p:=h
theorem QB(h:p:=by simp[atc,Io]):p:=h
theorem QC(h:p:=by simp_all[hj,gI]):p:=h
theorem QD(h:p:=by rw[apo,yb];rfl):p:=h
theorem KP(h:p:=by grind[ata]):p:=h
theorem KQ(h:p:=by grind[Dk]):p:=h
theorem KR(h:p:=by grind[fY,List.getElem?_range]):p:=h
theorem FH(h:p:=by grind[ar]):p:=h
theorem KS(h:p:=by grind[fj]):p:=h
theorem QE(h:p:=by grind[List.map_set,Pj]):p:=h
theorem QF(h:p:=by grind[Ez,List.map_set]):p:=h
theorem FI(h:p:=by grind[V.ua]):p:=h
end Go
