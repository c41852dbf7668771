import Derived.Test.YtpilnblkknjliaaGreatDoorProg
import Derived.KernelRfl
import Derived.Below
import Derived.ChangeSame
import Derived.Deep.DeepHandedRow
import Derived.Deep.RegionWith
import Derived.Deep.Slices
import Derived.Ground.Names2Prog
import Derived.Ground.NamesProg
import Derived.Ground.SlgnProg
import Derived.Ground.SlsfProg
import Derived.KernelRfl
import Derived.LaidEql
import Derived.Lib.Itoa
import Derived.Lib.ItoaMem
import Derived.Lib.ItoaNum
import Derived.Lib.Strings
import Derived.MapKept
import Derived.Maps.RangeRun
import Derived.OpenShut
import Derived.Shelf.Bits.Mul64
import Derived.Shelf.Lay
import Derived.Shelf.LaysM
import Derived.Shelf.SlGeneric
import Derived.Shelf.SlLaysF0
import Derived.Shelf.SlSortCmp.NoneTotal
import Derived.Shelf.SlSortCmp.WholeK
import Derived.Shelf.Slices.Clone
import Derived.Shelf.SlicesE.Clone
import Derived.Shelf.Small.Bits
import Derived.Shelf.Small.Strs
import Derived.Shelf.Small.Utf8
import Derived.Shelf.Strconv.AppendInt10
import Derived.Shelf.Strconv.AppendIntPublic10
import Derived.Shelf.Strconv.AppendUint10
import Derived.Shelf.Strconv.Itoa0
import Derived.Shelf.Strconv.Itoa1
import Derived.Shelf.Strconv.Itoa2
import Derived.Shelf.Strconv.Itoa3
import Derived.Shelf.Strings.AsciiSet
import Derived.Shelf.Strings.Builder1
import Derived.Shelf.Strings.Builder2
import Derived.Shelf.Strings.BuilderF
import Derived.Shelf.Strings.Count
import Derived.Shelf.Strings.Prefix
import Derived.Shelf.Strings.Repeat
import Derived.Shelf.Strings.Replace
import Derived.Shelf.Strings.Runes
import Derived.Shelf.Strings.Search1
import Derived.Shelf.Strings.Search2
import Derived.Shelf.Strings.Search3
import Derived.Shelf.Strings.Shaped
import Derived.Shelf.Strings.SlTrimAscii
import Derived.Shelf.Strings.Split
import Derived.Shelf.Strings.Trim
import Derived.Shelf.Unicode.DecodeAny
import Derived.Shelf.Unicode.DecodeSlow
import Derived.Sort.Row
import Derived.WalkKit
import Derived.WideKeyArgs
open List Nat Int Option Array
namespace Go
variable{p:Prop}
abbrev ajv:=@Array.all_eq_true
abbrev ajw:=@all_eq_true'
abbrev J3:=@ext'
abbrev ajx:=@Array.foldl_toList
abbrev B6:=@getD_eq_getD_getElem?
abbrev ajy:=@Array.getElem?_append_left
abbrev J4:=@Array.getElem?_eq_getElem
abbrev vS:=@Array.getElem?_eq_some_iff
abbrev Wc:=@Array.getElem?_mapIdx
abbrev J5:=@Array.getElem?_modify
abbrev ajz:=@Array.getElem?_replicate
abbrev D7:=@getElem?_toList
abbrev ajA:=@getElem_mem_toList
abbrev ajB:=@getElem_toList
abbrev yJ:=@Array.length_toList
abbrev ajC:=@Array.mem_of_getElem?
abbrev Wd:=@size_append
abbrev ajD:=@size_replicate
abbrev ajE:=@Array.toArray_toList
abbrev We:=@Array.toList_map
abbrev ajF:=@toList_zipIdx
abbrev ajG:=@BitVec.ofInt_natCast
abbrev ajH:=@BitVec.toNat_ofNat
abbrev J6:=@Bool.and_eq_false_iff
abbrev j_:=@Bool.and_eq_true
abbrev J7:=@Bool.eq_false_iff
abbrev lT:=@Bool.eq_iff_iff
abbrev Wf:=@Bool.false_eq_true
abbrev J8:=@Bool.false_or
abbrev ajI:=@Bool.not_eq_false'
abbrev Ai:=@Bool.not_eq_true'
abbrev Ps:=@Bool.or_eq_false_iff
abbrev p9:=@Bool.or_eq_true
abbrev xf:=@Bool.true_and
abbrev yK:=@Classical.byContradiction
abbrev J9:=@Classical.choose_spec
abbrev oP:=@Decidable.byContradiction
abbrev yL:=@Decidable.em
abbrev GF:=@Decidable.not_not
abbrev J_:=@Fin.ext
abbrev kL:=@Function.comp_def
abbrev ajJ:=@emod_lt_of_pos
abbrev uK:=@Int.le_refl
abbrev Ka:=@Int.lt_trichotomy
abbrev Pt:=@Int.mul_comm
abbrev Wg:=@Int.not_lt
abbrev Kb:=@toNat_natCast
abbrev D8:=@List.Perm.append_left
abbrev GG:=@List.Perm.append_right
abbrev xg:=@List.Sublist.append
abbrev xh:=@List.Sublist.refl
abbrev Pu:=@all_cons
abbrev m9:=@List.all_eq_true
abbrev B7:=@any_cons
abbrev ajK:=@List.any_eq_false
abbrev uL:=@List.any_eq_true
abbrev fJ:=@List.append_assoc
abbrev GH:=@append_eq_nil_iff
abbrev Wh:=@List.append_inj'
abbrev ff:=@append_nil
abbrev yM:=@cons_append
abbrev Pv:=@List.contains_iff_mem
abbrev Kc:=@countP_eq_length
abbrev Pw:=@List.countP_eq_zero
abbrev B8:=@countP_le_length
abbrev GI:=@List.count_append
abbrev Kd:=@count_cons
abbrev Px:=@count_nil
abbrev ajL:=@dropLast_concat_getLast
abbrev Wi:=@dropWhile_cons
abbrev ajM:=@dropWhile_sublist
abbrev pt:=@drop_eq_getElem_cons
abbrev kM:=@drop_eq_nil_of_le
abbrev GJ:=@drop_length
abbrev sG:=@drop_zero
abbrev ajN:=@eq_nil_iff_forall_not_mem
abbrev m_:=@eq_nil_of_length_eq_zero
abbrev ajO:=@eq_nil_or_concat
abbrev yN:=@List.eq_of_mem_replicate
abbrev ajP:=@eraseIdx_append_of_length_le
abbrev Wj:=@eraseIdx_sublist
abbrev rN:=@ext_getElem
abbrev jI:=@List.ext_getElem?
abbrev Wk:=@filterMap_cons
abbrev Wl:=@List.filter_append
abbrev Wm:=@List.filter_congr
abbrev Wn:=@List.filter_eq_self
abbrev Py:=@List.flatMap_append
abbrev ts:=@flatMap_cons
abbrev Wo:=@flatMap_nil
abbrev Pz:=@List.foldl_append
abbrev PA:=@foldl_cons
abbrev mJ:=@forall_mem_cons
abbrev dm:=@getD_eq_getElem?_getD
abbrev oQ:=@List.getElem?_append
abbrev tt:=@List.getElem?_append_left
abbrev xi:=@List.getElem?_append_right
abbrev PB:=@getElem?_cons_zero
abbrev vT:=@getElem?_drop
abbrev cm:=@List.getElem?_eq_getElem
abbrev yO:=@List.getElem?_eq_none
abbrev Wp:=@List.getElem?_eq_none_iff
abbrev e3:=@List.getElem?_eq_some_iff
abbrev c4:=@List.getElem?_map
abbrev Wq:=@List.getElem?_mapIdx
abbrev Aj:=@List.getElem?_range
abbrev yP:=@List.getElem?_replicate
abbrev rO:=@List.getElem?_set
abbrev ajQ:=@List.getElem?_set_ne
abbrev Wr:=@List.getElem?_set_self
abbrev rP:=@getElem?_take
abbrev B9:=@getElem?_toArray
abbrev D9:=@List.getElem?_zip_eq_some
abbrev PC:=@getElem_idxOf
abbrev fK:=@List.getElem_mem
abbrev ajR:=@List.getElem_of_mem
abbrev ajS:=@List.idxOf_append
abbrev vU:=@List.idxOf_lt_length_of_mem
abbrev cX:=@length_append
abbrev kN:=@length_cons
abbrev B_:=@length_drop
abbrev GK:=@length_eq_one_iff
abbrev Ak:=@length_eq_zero_iff
abbrev ajT:=@length_eraseIdx
abbrev ajU:=@length_filter_le
abbrev bg:=@length_map
abbrev Ws:=@length_nil
abbrev Ca:=@length_pos_iff
abbrev PD:=@length_pos_of_mem
abbrev i1:=@length_range
abbrev sH:=@length_replicate
abbrev nJ:=@length_set
abbrev p_:=@length_singleton
abbrev mK:=@length_take
abbrev qT:=@lookup_cons
abbrev D_:=@mapM_cons
abbrev dn:=@List.map_append
abbrev iF:=@List.map_congr_left
abbrev iO:=@map_cons
abbrev PE:=@map_drop
abbrev Al:=@List.map_fst_zip
abbrev GL:=@List.map_id
abbrev gh:=@List.map_map
abbrev vV:=@map_nil
abbrev Ea:=@List.map_replicate
abbrev hW:=@List.map_set
abbrev Ke:=@List.map_singleton
abbrev Kf:=@List.map_snd_zip
abbrev Kg:=@map_take
abbrev PF:=@map_toArray
abbrev eX:=@List.mem_append
abbrev yQ:=@List.mem_append_left
abbrev yR:=@List.mem_append_right
abbrev fR:=@mem_cons
abbrev ku:=@mem_cons_of_mem
abbrev kO:=@mem_cons_self
abbrev ajV:=@mem_drop_iff_getElem
abbrev Wt:=@List.mem_erase_of_ne
abbrev mL:=@List.mem_filter
abbrev Cb:=@List.mem_flatMap
abbrev Wu:=@List.mem_flatten
abbrev lU:=@List.mem_iff_getElem
abbrev ob:=@List.mem_iff_getElem?
abbrev cV:=@List.mem_map
abbrev eY:=@List.mem_of_getElem?
abbrev Kh:=@mem_of_mem_drop
abbrev tu:=@mem_of_mem_take
abbrev ajW:=@List.mem_or_eq_of_mem_set
abbrev g4:=@List.mem_range
abbrev ea:=@List.mem_singleton
abbrev PG:=@mem_take_iff_getElem
abbrev ajX:=@List.mem_toArray
abbrev tv:=@nil_append
abbrev sI:=@nodup_append
abbrev xj:=@nodup_cons
abbrev Wv:=@nodup_finRange
abbrev PH:=@nodup_nil
abbrev ka:=@not_mem_nil
abbrev Ki:=@pairwise_append
abbrev mi:=@pairwise_cons
abbrev Cc:=@pairwise_iff_getElem
abbrev PI:=@pairwise_map
abbrev Am:=@pairwise_singleton
abbrev vW:=@perm_append_comm
abbrev Ww:=@prefix_append
abbrev Eb:=@prefix_refl
abbrev vX:=@List.range_succ
abbrev Wx:=@List.replicate_succ'
abbrev ajY:=@List.set_append_left
abbrev An:=@List.set_append_right
abbrev GM:=@set_cons_zero
abbrev ajZ:=@set_eq_take_append_cons_drop
abbrev Cd:=@List.set_set
abbrev Ec:=@List.size_toArray
abbrev Wy:=@sublist_append_left
abbrev aj0:=@sublist_cons_self
abbrev Wz:=@take_add_one
abbrev Ed:=@take_append_drop
abbrev g5:=@take_length
abbrev rQ:=@take_of_length_le
abbrev aj1:=@take_sublist
abbrev Ee:=@take_succ_eq_append_getElem
abbrev xk:=@take_zero
abbrev aj2:=@Nat.Coprime.symm
abbrev Ce:=@Nat.add_assoc
abbrev xl:=@Nat.add_comm
abbrev PJ:=@Nat.add_le_add_left
abbrev aj3:=@add_mod_right
abbrev iG:=@Nat.add_mul
abbrev PK:=@add_mul_div_right
abbrev PL:=@Nat.add_sub_cancel
abbrev aj4:=@Nat.add_sub_cancel_left
abbrev uM:=@Nat.add_zero
abbrev aj5:=@coprime_div_gcd_div_gcd
abbrev xm:=@div_add_mod
abbrev PM:=@Nat.div_div_eq_div_mul
abbrev PN:=@Nat.div_eq_of_eq_mul_right
abbrev WA:=@div_eq_of_lt
abbrev PO:=@div_le_self
abbrev Kj:=@div_lt_iff_lt_mul
abbrev Kk:=@Nat.div_one
abbrev aj6:=@dvd_iff_mod_eq_zero
abbrev pu:=@eq_of_beq_eq_true
abbrev aj7:=@Nat.eq_of_mul_eq_mul_left
abbrev Cf:=@eq_of_testBit_eq
abbrev oR:=@eq_zero_or_pos
abbrev WB:=@Nat.gcd_dvd_left
abbrev GN:=@Nat.gcd_dvd_right
abbrev Kl:=@gcd_pos_of_pos_right
abbrev Cg:=@le_add_right
abbrev Km:=@Nat.le_antisymm
abbrev PP:=@Nat.le_mul_of_pos_right
abbrev oS:=@le_of_ble_eq_true
abbrev PQ:=@Nat.le_of_eq
abbrev xn:=@Nat.le_of_lt
abbrev Kn:=@Nat.le_of_not_lt
abbrev bz:=@Nat.le_refl
abbrev pv:=@le_succ
abbrev aj8:=@le_succ_of_le
abbrev dK:=@Nat.le_trans
abbrev xo:=@Nat.lt_irrefl
abbrev Ko:=@Nat.lt_of_le_of_lt
abbrev aj9:=@Nat.lt_of_le_of_ne
abbrev kv:=@Nat.lt_of_lt_of_le
abbrev Ch:=@Nat.lt_of_not_le
abbrev WC:=@lt_of_succ_lt_succ
abbrev fF:=@Nat.lt_or_ge
abbrev Ao:=@lt_succ_of_lt
abbrev xp:=@lt_succ_self
abbrev GO:=@Nat.lt_trichotomy
abbrev PR:=@Nat.min_eq_left
abbrev aj_:=@Nat.min_le_right
abbrev xq:=@mod_eq_of_lt
abbrev sJ:=@mod_lt
abbrev aka:=@mod_mul_right_div_self
abbrev akb:=@mod_mul_right_mod
abbrev Ap:=@Nat.mul_add
abbrev qU:=@Nat.mul_assoc
abbrev lV:=@Nat.mul_comm
abbrev akc:=@Nat.mul_div_mul_right
abbrev Ci:=@Nat.mul_le_mul
abbrev GP:=@Nat.mul_le_mul_left
abbrev jU:=@Nat.mul_le_mul_right
abbrev akd:=@Nat.mul_le_mul_right_iff
abbrev ake:=@Nat.mul_left_comm
abbrev akf:=@Nat.mul_lt_mul_of_lt_of_le
abbrev PS:=@Nat.mul_lt_mul_of_pos_right
abbrev Aq:=@Nat.mul_one
abbrev Ar:=@Nat.mul_pos
abbrev vY:=@not_lt_zero
abbrev vZ:=@Nat.one_mul
abbrev WD:=@Nat.pos_of_ne_zero
abbrev qa:=@Nat.pow_add
abbrev qb:=@Nat.pow_le_pow_right
abbrev akg:=@Nat.pow_lt_pow_right
abbrev PT:=@Nat.pow_mul
abbrev pw:=@Nat.pow_pos
abbrev rR:=@Nat.pow_succ
abbrev akh:=@Nat.shiftRight_eq_div_pow
abbrev PU:=@Nat.sub_mul
abbrev oT:=@Nat.sub_self
abbrev PV:=@Nat.sub_zero
abbrev aki:=@succ_le_of_lt
abbrev akj:=@succ_le_succ
abbrev qV:=@succ_mul
abbrev WE:=@testBit_and
abbrev akk:=@testBit_lt_two_pow
abbrev WF:=@testBit_or
abbrev WG:=@testBit_two_pow
abbrev akl:=@testBit_two_pow_mul_add
abbrev kZ:=@Nat.zero_add
abbrev dO:=@zero_le
abbrev GQ:=@Nat.zero_lt_one
abbrev akm:=@zero_lt_succ
abbrev As:=@Nat.zero_mul
abbrev akn:=@bind_eq_bind
abbrev ako:=@bind_eq_some_iff
abbrev xr:=@getD_some
abbrev Ef:=@map_eq_some_iff
abbrev PW:=@map_none
abbrev lW:=@map_some
abbrev oc:=@Option.some.inj
abbrev hr:=@Option.some.injEq
abbrev GR:=@Prod.mk.injEq
noncomputable abbrev eG:=@Proofs.Tryz.prog
abbrev PX:=@UInt8.lt_iff_toNat_lt
abbrev Kp:=@UInt8.toNat_inj
abbrev WH:=@and_congr
abbrev PY:=@beq_iff_eq
abbrev ep:=@congrArg
abbrev P5:=@congrFun
abbrev qW:=@decide_eq_decide
abbrev Kx:=@decide_eq_false
abbrev sK:=@decide_eq_false_iff_not
abbrev sL:=@decide_eq_true
abbrev yS:=@decide_eq_true_eq
abbrev ir:=@decide_eq_true_iff
abbrev Ky:=@dif_neg
abbrev Ck:=@dif_pos
abbrev GW:=@false_or
abbrev yT:=@getElem!_pos
abbrev Kz:=@if_false
abbrev ab:=@if_neg
abbrev ae:=@if_pos
abbrev KA:=@if_true
abbrev P6:=@of_decide_eq_false
abbrev yU:=@of_decide_eq_true
theorem o(h:p:=by omega):p:=h
theorem aR(h:p:=by decide):p:=h
theorem ap(h:p:=by simp_all):p:=h
theorem av(h:p:=by simp):p:=h
theorem cc(h:p:=by trivial):p:=h
theorem aY(h:p:=by grind):p:=h
theorem tx(h:p:=by dsimp only;omega):p:=h
theorem a2(h:p:=by simp;omega):p:=h
theorem cR(h:p:=by kernel_rfl):p:=h
theorem a3(h:p:=by rfl):p:=h
theorem WP(h:p:=by first|rfl|exact hR (by first|assumption|omega|(show 0<_;omega))|exact cm (by first|assumption|omega|(show 0<_;omega)|(simp;done)|(simp;omega))):p:=h
theorem WQ(h:p:=by first|exact oS rfl|decide|(simp[V.cells];done)|omega):p:=h
theorem P4(h:p:=by first|omega|(simp;done)|(simp;omega)):p:=h
theorem akr(h:p:=by simp only[maxLen];first|omega|(simp;done)|(simp;omega)):p:=h
theorem uN(h:p:=by first|exact .inl rfl|exact .inr rfl):p:=h
theorem uO(h:p:=by first|omega|(simp;omega)):p:=h
theorem hd(h:p:=by exact⟨_,rfl,rfl,rfl⟩):p:=h
theorem v0(h:p:=by exact⟨by kernel_rfl⟩):p:=h
theorem aks(h:p:=by first|exact .inl rfl|exact .inr ⟨by kernel_rfl,by kernel_rfl⟩):p:=h
theorem Eh(h:p:=by first|exact .a rfl rfl rfl rfl (afi rfl)|exact .a rfl rfl rfl rfl (by first|(simp[V.cells,bR,V.const,V.leaf];done)|(simp[V.cells,bR,V.const,V.leaf];rfl))|exact .nil rfl rfl rfl rfl|exact .str rfl rfl rfl rfl):p:=h
theorem Kw(h:p:=by first|rfl|(simp;done)):p:=h
theorem GV(h:p:=by first|omega|decide):p:=h
theorem akq(h:p:=by repeat (first|exact .nil|refine .cons (.pl rfl) ?_|refine .cons (.cell rfl rfl rfl) ?_|refine .cons (.a rfl (by first|rfl|simp)) ?_|refine .cons (.h rfl (by first|decide|omega|(simp;done))) ?_)):p:=h
theorem ej(h:p:=by grind[Go.Op.operands]):p:=h
theorem rS(h:p:=by grind[Go.Op.operands,Go.Call.operands]):p:=h
theorem oU(h:p:=by (simp_all;omega)):p:=h
theorem At(h:p:=by (simp[Go.maxLen];omega)):p:=h
theorem Cj(h:p:=by grind[nq,List.map]):p:=h
theorem Eg(h:p:=by first|omega|(simp;omega)):p:=h
theorem tw(h:p:=by rw[dn];rfl):p:=h
theorem Au(h:p:=by grind[Y8]):p:=h
theorem Kq(h:p:=by simp_all[kQ,ab,ae]):p:=h
theorem Kr(h:p:=by (simp[Pk];omega)):p:=h
theorem xt(h:p:=by rw[Ea];rfl):p:=h
theorem GS(h:p:=by grind[Fe]):p:=h
theorem GU(h:p:=by grind[w9]):p:=h
theorem Ks(h:p:=by simp[a1.xF,gO]):p:=h
theorem PZ(h:p:=by grind[iS,List.length_append,List.length_singleton]):p:=h
theorem P0(h:p:=by show 0+_≤_;omega):p:=h
theorem Kt(h:p:=by grind[Vf]):p:=h
theorem akp(h:p:=by grind[pq,Inhabited.default]):p:=h
theorem WI(h:p:=by simp[aBY,Nu]):p:=h
theorem WJ(h:p:=by simp_all[jC,iY]):p:=h
theorem WK(h:p:=by rw[axU,Ea];rfl):p:=h
theorem WL(h:p:=by rw[ae (by omega)];rfl):p:=h
theorem P1(h:p:=by grind[aBU]):p:=h
theorem P2(h:p:=by grind[ii,List.getElem?_range]):p:=h
theorem WM(h:p:=by rw[aqQ,Ea];rfl):p:=h
theorem Ku(h:p:=by grind[aX]):p:=h
theorem P3(h:p:=by grind[ht]):p:=h
theorem WN(h:p:=by grind[List.map_set,Vg]):p:=h
theorem WO(h:p:=by grind[Jk,List.map_set]):p:=h
theorem Kv(h:p:=by grind[V.yi]):p:=h
end Go
