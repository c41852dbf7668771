import Derived.Test.YtlciaabfegkegaaGreatDoorProg
import Derived.KernelRfl
import Derived.Below
import Derived.ChangeSame
import Derived.Deep.DeepHandedRow
import Derived.Deep.DeepWitnessRowRef
import Derived.Deep.LoopGhost
import Derived.Deep.RegionLaw
import Derived.Deep.RegionWith
import Derived.Deep.Slices
import Derived.Deep.WholeRow
import Derived.Ground.Names2Prog
import Derived.Ground.NamesProg
import Derived.Ground.SlgnProg
import Derived.Ground.SlsfProg
import Derived.KernelRfl
import Derived.LaidEql
import Derived.Laws.Append
import Derived.Laws.AppendOwn
import Derived.Laws.IdiomCopy
import Derived.Laws.IdiomRangeMap
import Derived.Laws.IdiomStrings
import Derived.Laws.RangeAny
import Derived.Laws.Rows
import Derived.Laws.Runes
import Derived.Laws.Slices
import Derived.Lib.Itoa
import Derived.Lib.ItoaMem
import Derived.Lib.ItoaNum
import Derived.Lib.LaidSlice
import Derived.Lib.LaidTab
import Derived.Lib.LaidU8T
import Derived.Lib.QuoteLoop
import Derived.Lib.ReplaceLaws
import Derived.Lib.SliceRun
import Derived.Lib.Strings
import Derived.Lib.Walk
import Derived.LoopN
import Derived.LoopTactic
import Derived.MakeChecks
import Derived.MapKept
import Derived.Maps.RangeRun
import Derived.OpenShut
import Derived.PinnedBridge
import Derived.ProofKit
import Derived.Shelf.Bits.Mul64
import Derived.Shelf.Lay
import Derived.Shelf.LaySoft
import Derived.Shelf.LaysM
import Derived.Shelf.RegionOpenPlain
import Derived.Shelf.SlGeneric
import Derived.Shelf.SlLaysF0
import Derived.Shelf.SlSortCmp.NoneTotal
import Derived.Shelf.SlSortCmp.WholeK
import Derived.Shelf.Slices.Clone
import Derived.Shelf.SlicesE.Clone
import Derived.Shelf.Small.Bits
import Derived.Shelf.Small.Strs
import Derived.Shelf.Small.Utf8
import Derived.Shelf.Strconv.AppendInt10
import Derived.Shelf.Strconv.AppendIntPublic10
import Derived.Shelf.Strconv.AppendUint10
import Derived.Shelf.Strconv.IsPrint32
import Derived.Shelf.Strconv.Itoa0
import Derived.Shelf.Strconv.Itoa1
import Derived.Shelf.Strconv.Itoa2
import Derived.Shelf.Strconv.Itoa3
import Derived.Shelf.Strings.AsciiSet
import Derived.Shelf.Strings.Builder1
import Derived.Shelf.Strings.Builder2
import Derived.Shelf.Strings.BuilderF
import Derived.Shelf.Strings.Count
import Derived.Shelf.Strings.IndexAnyAll
import Derived.Shelf.Strings.Prefix
import Derived.Shelf.Strings.Repeat
import Derived.Shelf.Strings.Replace
import Derived.Shelf.Strings.Runes
import Derived.Shelf.Strings.Search1
import Derived.Shelf.Strings.Search2
import Derived.Shelf.Strings.Search3
import Derived.Shelf.Strings.Shaped
import Derived.Shelf.Strings.SlTrimAscii
import Derived.Shelf.Strings.Split
import Derived.Shelf.Strings.Trim
import Derived.Shelf.Unicode.DecodeAny
import Derived.Shelf.Unicode.DecodeSlow
import Derived.Sort.Row
import Derived.WalkKit
import Derived.WalkMore
import Derived.WideKeyArgs
open List Nat Int Option Array
namespace Go
variable{p:Prop}
abbrev ag5:=@Array.all_eq_true
abbrev ag6:=@all_eq_true'
abbrev OS:=@ext'
abbrev ag7:=@Array.foldl_toList
abbrev BZ:=@getD_eq_getD_getElem?
abbrev JQ:=@Array.getElem?_eq_getElem
abbrev vp:=@Array.getElem?_eq_some_iff
abbrev UW:=@Array.getElem?_mapIdx
abbrev JR:=@Array.getElem?_modify
abbrev ag8:=@Array.getElem?_replicate
abbrev wH:=@getElem?_toList
abbrev ag9:=@getElem_mem_toList
abbrev ag_:=@getElem_toList
abbrev wI:=@Array.length_toList
abbrev OT:=@Array.mem_of_getElem?
abbrev aha:=@mem_toList_iff
abbrev UX:=@size_append
abbrev ahb:=@size_replicate
abbrev ahc:=@Array.toArray_toList
abbrev UY:=@Array.toList_map
abbrev ahd:=@toList_zipIdx
abbrev ahe:=@BitVec.ofInt_natCast
abbrev ahf:=@BitVec.toNat_and
abbrev ahg:=@BitVec.toNat_ofNat
abbrev Gn:=@Bool.and_eq_false_iff
abbrev m7:=@Bool.and_eq_true
abbrev UZ:=@Bool.eq_false_iff
abbrev nA:=@Bool.eq_iff_iff
abbrev ahh:=@Bool.false_eq_true
abbrev D0:=@Bool.false_or
abbrev U0:=@Bool.not_eq_true
abbrev U1:=@Bool.not_eq_true'
abbrev sf:=@Bool.or_eq_true
abbrev U2:=@Bool.or_false
abbrev B0:=@Bool.true_and
abbrev OU:=@Bool.true_or
abbrev U3:=@ByteArray.ext
abbrev zQ:=@Classical.byContradiction
abbrev JS:=@Classical.choose_spec
abbrev pD:=@Decidable.byContradiction
abbrev zR:=@Decidable.em
abbrev Gp:=@Decidable.not_not
abbrev JT:=@Fin.ext
abbrev OV:=@Function.comp_def
abbrev ahi:=@emod_lt_of_pos
abbrev ahj:=@fdiv_eq_ediv_of_nonneg
abbrev D1:=@Int.le_refl
abbrev JU:=@Int.lt_trichotomy
abbrev OW:=@Int.mul_comm
abbrev Gq:=@toNat_natCast
abbrev D2:=@List.Perm.append_left
abbrev Gr:=@List.Perm.append_right
abbrev yf:=@List.Sublist.append
abbrev yg:=@List.Sublist.refl
abbrev JV:=@all_cons
abbrev kY:=@List.all_eq_true
abbrev B1:=@any_cons
abbrev U4:=@List.any_eq_false
abbrev zS:=@List.any_eq_true
abbrev OX:=@any_nil
abbrev eS:=@List.append_assoc
abbrev OY:=@append_cancel_left_eq
abbrev U5:=@List.append_inj'
abbrev gv:=@append_nil
abbrev kh:=@cons_append
abbrev ahk:=@contains_cons
abbrev OZ:=@List.contains_iff_mem
abbrev U6:=@countP_eq_length
abbrev U7:=@List.countP_eq_zero
abbrev D3:=@countP_le_length
abbrev Gs:=@List.count_append
abbrev JW:=@count_cons
abbrev U8:=@count_cons_of_ne
abbrev ahl:=@count_le_length
abbrev O0:=@count_nil
abbrev ahm:=@dropLast_concat_getLast
abbrev U9:=@dropWhile_cons
abbrev ahn:=@dropWhile_sublist
abbrev Gt:=@drop_drop
abbrev l3:=@drop_eq_getElem_cons
abbrev kA:=@drop_eq_nil_of_le
abbrev U_:=@drop_length
abbrev qn:=@drop_zero
abbrev aho:=@eq_nil_iff_forall_not_mem
abbrev l4:=@eq_nil_of_length_eq_zero
abbrev zT:=@List.eq_of_mem_replicate
abbrev ahp:=@eraseIdx_append_of_length_le
abbrev O1:=@eraseIdx_sublist
abbrev rg:=@ext_getElem
abbrev jn:=@List.ext_getElem?
abbrev Va:=@filterMap_cons
abbrev O2:=@List.filter_append
abbrev Vb:=@List.filter_congr
abbrev Vc:=@List.filter_eq_self
abbrev zU:=@List.flatMap_append
abbrev wJ:=@flatMap_cons
abbrev Vd:=@flatMap_nil
abbrev Ve:=@List.foldl_append
abbrev JX:=@foldl_cons
abbrev Vf:=@forall_mem_cons
abbrev D4:=@List.forall_mem_map
abbrev dX:=@getD_eq_getElem?_getD
abbrev nB:=@List.getElem?_append
abbrev rh:=@List.getElem?_append_left
abbrev s9:=@List.getElem?_append_right
abbrev O3:=@getElem?_cons_zero
abbrev sg:=@getElem?_drop
abbrev cT:=@List.getElem?_eq_getElem
abbrev zV:=@List.getElem?_eq_none
abbrev ahq:=@List.getElem?_eq_none_iff
abbrev eX:=@List.getElem?_eq_some_iff
abbrev O4:=@List.getElem?_eraseIdx
abbrev db:=@List.getElem?_map
abbrev Vg:=@List.getElem?_mapIdx
abbrev zW:=@List.getElem?_range
abbrev zX:=@List.getElem?_replicate
abbrev qo:=@List.getElem?_set
abbrev Vh:=@List.getElem?_set_ne
abbrev Vi:=@List.getElem?_set_self
abbrev m8:=@getElem?_take
abbrev um:=@getElem?_toArray
abbrev O5:=@getElem_idxOf
abbrev hL:=@List.getElem_mem
abbrev ahr:=@List.getElem_of_mem
abbrev ahs:=@List.idxOf_append
abbrev vq:=@List.idxOf_lt_length_of_mem
abbrev cd:=@length_append
abbrev l5:=@length_cons
abbrev B2:=@length_drop
abbrev JY:=@length_eq_one_iff
abbrev O6:=@length_eq_zero_iff
abbrev Vj:=@length_eraseIdx
abbrev aht:=@length_eraseIdx_le
abbrev Vk:=@length_filter_le
abbrev bm:=@length_map
abbrev O7:=@length_nil
abbrev yh:=@length_pos_iff
abbrev O8:=@length_pos_of_mem
abbrev ij:=@length_range
abbrev wK:=@length_replicate
abbrev nC:=@length_set
abbrev ri:=@length_singleton
abbrev nD:=@length_take
abbrev rj:=@lookup_cons
abbrev D5:=@mapM_cons
abbrev dc:=@List.map_append
abbrev hY:=@List.map_congr_left
abbrev ia:=@map_cons
abbrev JZ:=@map_drop
abbrev uo:=@List.map_id
abbrev i_:=@List.map_map
abbrev rk:=@map_nil
abbrev B3:=@List.map_replicate
abbrev hl:=@List.map_set
abbrev O9:=@List.map_singleton
abbrev Gu:=@map_take
abbrev O_:=@map_toArray
abbrev fp:=@List.mem_append
abbrev yi:=@List.mem_append_left
abbrev zY:=@List.mem_append_right
abbrev fH:=@mem_cons
abbrev mB:=@mem_cons_of_mem
abbrev ki:=@mem_cons_self
abbrev ahu:=@List.mem_erase_of_ne
abbrev m9:=@List.mem_filter
abbrev Vl:=@List.mem_flatMap
abbrev ahv:=@List.mem_flatten
abbrev m_:=@List.mem_iff_getElem
abbrev rl:=@List.mem_iff_getElem?
abbrev dI:=@List.mem_map
abbrev dY:=@List.mem_of_getElem?
abbrev D6:=@mem_of_mem_drop
abbrev ahw:=@List.mem_of_mem_eraseIdx
abbrev pE:=@mem_of_mem_take
abbrev Vm:=@List.mem_or_eq_of_mem_set
abbrev hM:=@List.mem_range
abbrev eu:=@List.mem_singleton
abbrev Vn:=@mem_take_iff_getElem
abbrev ahx:=@List.mem_toArray
abbrev na:=@nil_append
abbrev vr:=@nodup_append
abbrev zZ:=@nodup_cons
abbrev Vo:=@nodup_finRange
abbrev Pa:=@nodup_nil
abbrev kB:=@not_mem_nil
abbrev s_:=@pairwise_cons
abbrev D7:=@pairwise_iff_getElem
abbrev Pb:=@pairwise_map
abbrev Gv:=@pairwise_singleton
abbrev vs:=@perm_append_comm
abbrev Vp:=@prefix_append
abbrev D8:=@prefix_refl
abbrev sh:=@List.range_succ
abbrev Vq:=@List.replicate_succ'
abbrev ahy:=@List.set_append_left
abbrev z0:=@List.set_append_right
abbrev J0:=@set_cons_zero
abbrev Vr:=@set_eq_take_append_cons_drop
abbrev B4:=@List.set_set
abbrev D9:=@List.size_toArray
abbrev Vs:=@sublist_append_left
abbrev ahz:=@sublist_cons_self
abbrev J1:=@take_add_one
abbrev D_:=@take_append_drop
abbrev iJ:=@take_length
abbrev kC:=@take_of_length_le
abbrev ahA:=@take_sublist
abbrev Gw:=@take_succ_eq_append_getElem
abbrev Ea:=@take_zero
abbrev ahB:=@Nat.Coprime.symm
abbrev z1:=@Nat.add_assoc
abbrev ta:=@Nat.add_comm
abbrev Pc:=@Nat.add_le_add_left
abbrev ahC:=@add_mod_right
abbrev hZ:=@Nat.add_mul
abbrev Pd:=@add_mul_div_right
abbrev Vt:=@Nat.add_sub_cancel
abbrev ahD:=@Nat.add_sub_cancel_left
abbrev qp:=@Nat.add_zero
abbrev ahE:=@coprime_div_gcd_div_gcd
abbrev yj:=@div_add_mod
abbrev Pe:=@Nat.div_div_eq_div_mul
abbrev Pf:=@Nat.div_eq_of_eq_mul_right
abbrev Vu:=@div_eq_of_lt
abbrev Gx:=@div_le_self
abbrev Pg:=@div_lt_iff_lt_mul
abbrev J2:=@Nat.div_one
abbrev ahF:=@dvd_iff_mod_eq_zero
abbrev nE:=@eq_of_beq_eq_true
abbrev ahG:=@Nat.eq_of_mul_eq_mul_left
abbrev B5:=@eq_of_testBit_eq
abbrev nF:=@eq_zero_or_pos
abbrev Vv:=@Nat.gcd_dvd_left
abbrev J3:=@Nat.gcd_dvd_right
abbrev Ph:=@gcd_pos_of_pos_right
abbrev z2:=@le_add_right
abbrev J4:=@Nat.le_antisymm
abbrev ahH:=@le_div_iff_mul_le
abbrev J5:=@Nat.le_mul_of_pos_right
abbrev ll:=@le_of_ble_eq_true
abbrev Vw:=@Nat.le_of_eq
abbrev wL:=@Nat.le_of_lt
abbrev Pj:=@Nat.le_of_not_lt
abbrev ahI:=@le_of_succ_le
abbrev bv:=@Nat.le_refl
abbrev B6:=@le_succ
abbrev c9:=@Nat.le_trans
abbrev wM:=@Nat.lt_irrefl
abbrev J6:=@Nat.lt_of_le_of_lt
abbrev jZ:=@Nat.lt_of_lt_of_le
abbrev B7:=@Nat.lt_of_not_le
abbrev ahJ:=@lt_of_succ_lt_succ
abbrev hN:=@Nat.lt_or_ge
abbrev ahK:=@lt_succ_of_le
abbrev z3:=@lt_succ_of_lt
abbrev yk:=@lt_succ_self
abbrev Gy:=@Nat.lt_trichotomy
abbrev Vx:=@Nat.min_eq_left
abbrev ahL:=@Nat.min_le_right
abbrev wN:=@mod_eq_of_lt
abbrev rm:=@mod_lt
abbrev ahM:=@mod_mul_right_div_self
abbrev ahN:=@mod_mul_right_mod
abbrev B8:=@Nat.mul_add
abbrev qq:=@Nat.mul_assoc
abbrev l6:=@Nat.mul_comm
abbrev ahO:=@Nat.mul_div_mul_right
abbrev B9:=@Nat.mul_le_mul
abbrev Gz:=@Nat.mul_le_mul_left
abbrev jo:=@Nat.mul_le_mul_right
abbrev ahP:=@Nat.mul_le_mul_right_iff
abbrev ahQ:=@Nat.mul_left_comm
abbrev ahR:=@Nat.mul_lt_mul_of_lt_of_le
abbrev Pk:=@Nat.mul_lt_mul_of_pos_right
abbrev z4:=@Nat.mul_one
abbrev z6:=@Nat.mul_pos
abbrev ahS:=@ne_of_beq_eq_false
abbrev yl:=@not_lt_zero
abbrev wO:=@Nat.one_mul
abbrev Vy:=@Nat.pos_of_ne_zero
abbrev pF:=@Nat.pow_add
abbrev pG:=@Nat.pow_le_pow_right
abbrev ahT:=@Nat.pow_lt_pow_right
abbrev J7:=@Nat.pow_mul
abbrev oW:=@Nat.pow_pos
abbrev rn:=@Nat.pow_succ
abbrev ahU:=@Nat.shiftRight_eq_div_pow
abbrev Pl:=@Nat.sub_mul
abbrev oX:=@Nat.sub_self
abbrev J8:=@Nat.sub_zero
abbrev ahV:=@succ_le_of_lt
abbrev pH:=@succ_mul
abbrev GA:=@succ_pos
abbrev Vz:=@testBit_and
abbrev ahW:=@testBit_lt_two_pow
abbrev VA:=@testBit_or
abbrev VB:=@testBit_two_pow
abbrev ahX:=@testBit_two_pow_mul_add
abbrev mC:=@Nat.zero_add
abbrev dJ:=@zero_le
abbrev GB:=@Nat.zero_lt_one
abbrev ahY:=@zero_lt_succ
abbrev ym:=@Nat.zero_mul
abbrev ahZ:=@bind_eq_bind
abbrev ah0:=@bind_eq_some_iff
abbrev z7:=@getD_some
abbrev Eb:=@map_eq_some_iff
abbrev J9:=@map_none
abbrev lm:=@map_some
abbrev mD:=@Option.some.inj
abbrev g6:=@Option.some.injEq
abbrev z8:=@Prod.mk.injEq
abbrev Pm:=@UInt8.lt_iff_toNat_lt
abbrev z9:=@UInt8.toNat_inj
abbrev VC:=@and_congr
abbrev ah1:=@beq_eq_false_iff_ne
abbrev Pn:=@beq_iff_eq
abbrev ea:=@congrArg
abbrev Pt:=@congrFun
abbrev tc:=@decide_eq_decide
abbrev Aa:=@decide_eq_false
abbrev vt:=@decide_eq_false_iff_not
abbrev oY:=@decide_eq_true
abbrev wR:=@decide_eq_true_eq
abbrev kk:=@decide_eq_true_iff
abbrev Pu:=@dif_neg
abbrev Ca:=@dif_pos
abbrev ah6:=@eq_false_of_ne_true
abbrev yp:=@getElem!_pos
abbrev Pv:=@if_false
abbrev ad:=@if_neg
abbrev af:=@if_pos
abbrev GD:=@if_true
abbrev Kk:=@of_decide_eq_false
abbrev pJ:=@of_decide_eq_true
theorem q(h:p:=by omega):p:=h
theorem a2(h:p:=by decide):p:=h
theorem aq(h:p:=by simp_all):p:=h
theorem ao(h:p:=by simp):p:=h
theorem cf(h:p:=by trivial):p:=h
theorem aK(h:p:=by grind):p:=h
theorem tb(h:p:=by dsimp only;omega):p:=h
theorem bi(h:p:=by simp;omega):p:=h
theorem cb(h:p:=by kernel_rfl):p:=h
theorem ba(h:p:=by rfl):p:=h
theorem VH(h:p:=by first|rfl|exact qT (by first|assumption|omega|(show 0<_;omega))|exact cT (by first|assumption|omega|(show 0<_;omega)|(simp;done)|(simp;omega))):p:=h
theorem VI(h:p:=by first|exact ll rfl|decide|(simp[V.cells];done)|omega):p:=h
theorem Ps(h:p:=by first|omega|(simp;done)|(simp;omega)):p:=h
theorem ah4(h:p:=by simp only[maxLen];first|omega|(simp;done)|(simp;omega)):p:=h
theorem rp(h:p:=by first|exact .inl rfl|exact .inr rfl):p:=h
theorem si(h:p:=by first|omega|(simp;omega)):p:=h
theorem fX(h:p:=by exact⟨_,rfl,rfl,rfl⟩):p:=h
theorem wQ(h:p:=by exact⟨by kernel_rfl⟩):p:=h
theorem ah5(h:p:=by first|exact .inl rfl|exact .inr ⟨by kernel_rfl,by kernel_rfl⟩):p:=h
theorem B_(h:p:=by first|exact .al rfl rfl rfl rfl (Nn rfl)|exact .al rfl rfl rfl rfl (by first|(simp[V.cells,bF,V.const,V.leaf];done)|(simp[V.cells,bF,V.const,V.leaf];rfl))|exact .nil rfl rfl rfl rfl|exact .str rfl rfl rfl rfl):p:=h
theorem Ki(h:p:=by first|rfl|(simp;done)):p:=h
theorem Kj(h:p:=by first|omega|decide):p:=h
theorem dZ(h:p:=by grind[Go.Op.operands]):p:=h
theorem pI(h:p:=by grind[Go.Op.operands,Go.Call.operands]):p:=h
theorem kj(h:p:=by (simp_all;omega)):p:=h
theorem yn(h:p:=by (simp[Go.maxLen];omega)):p:=h
theorem yo(h:p:=by grind[lz,List.map]):p:=h
theorem Ec(h:p:=by first|omega|(simp;omega)):p:=h
theorem ro(h:p:=by rw[dc];rfl):p:=h
theorem z_(h:p:=by grind[XJ]):p:=h
theorem J_(h:p:=by simp_all[ko,ad,af]):p:=h
theorem Ka(h:p:=by simp_all[h9,iw]):p:=h
theorem Kb(h:p:=by (simp[zJ];omega)):p:=h
theorem wP(h:p:=by rw[B3];rfl):p:=h
theorem GC(h:p:=by grind[wC]):p:=h
theorem Kc(h:p:=by simp[a6.w5,gt]):p:=h
theorem Po(h:p:=by grind[io,List.length_append,List.length_singleton]):p:=h
theorem ah2(h:p:=by repeat (first|exact R0|apply aph rfl)):p:=h
theorem Kd(h:p:=by grind[azw,Ax]):p:=h
theorem Ke(h:p:=by grind[azz]):p:=h
theorem Kf(h:p:=by grind[T2]):p:=h
theorem VD(h:p:=by simp[azA,MY]):p:=h
theorem ah3(h:p:=by first|decide|omega|(simp;done)):p:=h
theorem VE(h:p:=by rw[avu,B3];rfl):p:=h
theorem Pp(h:p:=by grind[HI]):p:=h
theorem Pq(h:p:=by grind[hI,List.getElem?_range]):p:=h
theorem Kg(h:p:=by grind[aZ]):p:=h
theorem Pr(h:p:=by grind[g4]):p:=h
theorem VF(h:p:=by grind[List.map_set,T3]):p:=h
theorem VG(h:p:=by grind[I3,List.map_set]):p:=h
theorem Kh(h:p:=by grind[V.xH]):p:=h
end Go
