/- What a block of memory holds, what a call leaves as it was, how a slice reads, and the law on one append: lemmas that name no function. -/
import Derived.WalkLawsBesides
import Derived.WalkSpells
import Derived.Lib.Hide
import Derived.Deep.OwnRows
import Derived.Deep.RegionLaw
set_option linter.all false
namespace Go.Proofs.YtincjochpkdnfaaGreatDoor
abbrev G8:Array Go.Value:=#[.int .i64 0, .int .i64 0, .int .u32 0, .int .u32 0, .int .u64 0, .int .u64 0, .int .u64 0, .int .u64 0, .int .i64 0, .int .u64 0, .int .u64 0, .int .u64 0, .int .u64 0, .int .u64 0, .int .u64 0, .int .u64 0, .int .u64 0, .int .u64 0, .int .u64 0, .int .u64 0, .int .u64 0, .int .u64 0, .int .u64 0, .int .u64 0, .int .u64 0, .int .u64 0, .int .u64 0, .int .u64 0, .int .u64 0, .int .u64 0, .int .u64 0, .int .u64 0, .int .u64 0, .int .u64 0, .int .u64 0, .int .u64 0, .int .u64 0, .int .u64 0, .int .u64 0, .int .u64 0, .int .u64 0, .int .u64 0]
abbrev G9:List Go.Value:=[.int .i64 0, .int .i64 0, .int .u32 0, .int .u32 0, .int .u64 0, .int .u64 0, .int .u64 0, .int .u64 0, .int .i64 0, .int .u64 0, .int .u64 0, .int .u64 0, .int .u64 0, .int .u64 0, .int .u64 0, .int .u64 0, .int .u64 0, .int .u64 0, .int .u64 0, .int .u64 0, .int .u64 0, .int .u64 0, .int .u64 0, .int .u64 0, .int .u64 0, .int .u64 0, .int .u64 0, .int .u64 0, .int .u64 0, .int .u64 0, .int .u64 0, .int .u64 0, .int .u64 0, .int .u64 0, .int .u64 0, .int .u64 0, .int .u64 0, .int .u64 0, .int .u64 0, .int .u64 0, .int .u64 0, .int .u64 0]
abbrev G_:List Go.Value:=[.int .i64 2, .int .i64 0, .int .u32 0, .int .u32 0, .int .u64 0, .int .u64 0, .int .u64 0, .int .u64 0, .int .i64 0, .int .u64 0, .int .u64 0, .int .u64 0, .int .u64 0, .int .u64 0, .int .u64 0, .int .u64 0, .int .u64 0, .int .u64 0, .int .u64 0, .int .u64 0, .int .u64 0, .int .u64 0, .int .u64 0, .int .u64 0, .int .u64 0, .int .u64 0, .int .u64 0, .int .u64 0, .int .u64 0, .int .u64 0, .int .u64 0, .int .u64 0, .int .u64 0, .int .u64 0, .int .u64 0, .int .u64 0, .int .u64 0, .int .u64 0, .int .u64 0, .int .u64 0, .int .u64 0, .int .u64 0]
abbrev Ha:List Go.Value:=[.int .i64 4, .int .i64 0, .int .u32 0, .int .u32 0, .int .u64 0, .int .u64 0, .int .u64 0, .int .u64 0, .int .i64 0, .int .u64 0, .int .u64 0, .int .u64 0, .int .u64 0, .int .u64 0, .int .u64 0, .int .u64 0, .int .u64 0, .int .u64 0, .int .u64 0, .int .u64 0, .int .u64 0, .int .u64 0, .int .u64 0, .int .u64 0, .int .u64 0, .int .u64 0, .int .u64 0, .int .u64 0, .int .u64 0, .int .u64 0, .int .u64 0, .int .u64 0, .int .u64 0, .int .u64 0, .int .u64 0, .int .u64 0, .int .u64 0, .int .u64 0, .int .u64 0, .int .u64 0, .int .u64 0, .int .u64 0]
abbrev Hb:List Go.Value:=[.int .i64 3, .int .i64 0, .int .u32 0, .int .u32 0, .int .u64 0, .int .u64 0, .int .u64 0, .int .u64 0, .int .i64 0, .int .u64 0, .int .u64 0, .int .u64 0, .int .u64 0, .int .u64 0, .int .u64 0, .int .u64 0, .int .u64 0, .int .u64 0, .int .u64 0, .int .u64 0, .int .u64 0, .int .u64 0, .int .u64 0, .int .u64 0, .int .u64 0, .int .u64 0, .int .u64 0, .int .u64 0, .int .u64 0, .int .u64 0, .int .u64 0, .int .u64 0, .int .u64 0, .int .u64 0, .int .u64 0, .int .u64 0, .int .u64 0, .int .u64 0, .int .u64 0, .int .u64 0, .int .u64 0, .int .u64 0]
abbrev Hc:Array Go.Value:=#[.slice none 0 0, .slice none 0 0, .int .i64 0, .int .i64 0]
abbrev Hd:Array Go.Value:=#[.int .u32 0, .int .i64 0, .int .u32 0, .int .i64 0, .int .u16 0, .int .u16 65535, .int .u32 1]
abbrev He:Array Go.Value:=#[.int .i64 0, .int .i64 0, .int .i64 0, .int .i64 0, .int .i64 0, .int .u64 0, .int .i64 0, .int .u64 0, .int .u64 0, .int .u64 0, .slice none 0 0]
abbrev Hf:List Go.Value:=[.int .u32 167772160, .int .i64 8, .int .i64 0, .int .u32 167837696, .int .i64 16, .int .i64 1]
abbrev Hg:Array Go.Value:=#[.int .u32 0, .int .u32 0, .int .u64 0, .int .i32 0, .bool false, .bool false]
abbrev Hh:Array Go.Value:=#[.int .u32 167772160, .int .i64 8, .int .i64 0, .int .u32 167837696, .int .i64 16, .int .i64 1]
def aa {p:Prop} (h:p):Go.RowKit.Hid p:=h
def Hj:=@Go.Lib.hid
def Hk:=@if_neg
def Hl:=@if_pos
def Hm:=@Nat.le_refl
def Hn:=@List.getElem?_eq_getElem
def Ho:=@List.mem_cons
def Hq:=@List.length_map
def Hr:=@List.length_set
def Hs:=@List.length_cons
def Ht:=@List.getElem_mem
def Hu:=@List.mem_append
def Hv:=@Nat.zero_le
def Hw:=@List.mem_map
def Hx:=@List.getD_eq_getElem?_getD
def Hy:=@Nat.le_trans
def Hz:=@decide_eq_true
def HA:=@List.map_cons
def HB:=@Go.World.size_alloc
def HC:=@congrArg
def HD:=@List.getElem?_eq_some_iff
def HE:=@List.map_append
def HG:=@List.length_take
def HH:=@List.append_nil
def HI:=@decide_eq_true_eq
def HJ:=@List.pairwise_cons
def HK:=@List.length_append
def HL:=@List.getElem?_set_ne
def HM:=@beq_eq_false_iff_ne
def HN:=@decide_eq_false
def HO:=@Go.IntKind.wrap_u64
def HP:=@Nat.lt_of_lt_of_le
def HQ:=@List.take_succ_eq_append_getElem
def HR:=@Nat.zero_add
def HS:=@Bool.and_eq_true
def HT:=@Go.bodyPost_ret
def HU:=@Go.DataW.trod_int
def HV:=@List.all_eq_true
def HW:=@Nat.lt_or_ge
def HX:=@List.mem_cons_self
def HY:=@List.size_toArray
def HZ:=@Int.toNat_natCast
def H0:=@List.mem_singleton
def H2:=@List.getElem?_map
def H3:=@Go.IntKind.wrap_i64
def H4:=@Nat.le_succ
def H5:=@List.not_mem_nil
def H6:=@List.nodup_cons
def H7:=@List.mem_range
def H8:=@List.getElem?_set_self
def H9:=@List.take_length
def H_:=@List.getElem?_eq_none
def Ia:=@or_false
def Ib:=@List.nodup_append
def Ic:=@List.length_replicate
def Ie:=@List.mem_filter
def If:=@Go.results_none
def Ig:=@Nat.add_zero
def Ih:=@Array.getElem?_eq_some_iff
def Ii:=@List.drop_eq_getElem_cons
def Ij:=@Nat.pow_succ
def Ik:=@List.map_nil
def Il:=@List.mem_or_eq_of_mem_set
def Im:=@List.nil_append
def Io:=@decide_eq_false_iff_not
def Ip:=@List.getElem_map
def Iq:=@beq_iff_eq
def Ir:=@List.append_assoc
def Is:=@List.map_set
def Iu:=@Nat.mul_one
def Iv:=@List.flatMap_cons
def Iw:=@Nat.mod_lt
def Ix:=@UInt8.toNat_lt
def Iy:=@Go.World.block_lt_of_cell?
def Iz:=@List.mem_cons_of_mem
def IA:=@List.eq_nil_of_length_eq_zero
def IB:=@Go.mem_ready
def IC:=@Go.Result.andThen_ok
def ID:=@Nat.pow_le_pow_right
def IE:=@List.set_cons_succ
def IF:=@List.mem_append_left
def IG:=@Go.Sem.run_bind
def IH:=@Nat.mod_eq_of_lt
def II:=@List.perm_middle
def IJ:=@List.take_of_length_le
def IK:=@List.sum_cons
def IL:=@Nat.lt_of_le_of_lt
def IM:=@List.pairwise_iff_getElem
def IN:=@List.pairwise_append
def IP:=@Go.Sem.run_pure
def IQ:=@decide_eq_decide
def IS:=@Nat.div_div_eq_div_mul
def IT:=@List.cons_append
def IU:=@List.length_drop
def IV:=@List.mem_of_getElem?
def IW:=@Nat.ne_of_lt
def IX:=@List.getElem?_cons_succ
def IY:=@Nat.mul_comm
def IZ:=@List.ext_getElem?
def I0:=@Nat.mul_le_mul_right
def I1:=@Bool.or_eq_true
def I2:=@List.getElem?_replicate
def I3:=@Option.getD_some
def I4:=@Go.IntWalk.i64_in
def I5:=@Option.isSome_iff_exists
def I6:=@List.map_map
def I7:=@List.set_cons_zero
def I8:=@Nat.div_add_mod
def I9:=@Go.Act.put_comm
def I_:=@Go.getD_set_ne
def Ja:=@Option.map_eq_some_iff
def Jb:=@Nat.pow_lt_pow_right
def Jc:=@List.map_congr_left
def Jd:=@List.getElem?_cons_zero
def Je:=@List.take_zero
def Jf:=@List.getElem?_append_left
def Jg:=@List.getElem?_append_right
def Jh:=@Nat.succ_mul
def Ji:=@of_decide_eq_true
def Jj:=@List.length_nil
def Jk:=@List.getElem_set_ne
def Jl:=@Nat.pow_add
def Jm:=@Nat.pow_pos
def Jn:=@Nat.sub_self
def Jo:=@Bool.false_eq_true
def Jp:=@if_false
def Jq:=@List.take_append_drop
def Jr:=@List.drop_eq_nil_of_le
def Js:=@Nat.eq_zero_or_pos
def Jt:=@Nat.lt_irrefl
def Ju:=@Go.info_parts
def Jv:=@Go.DataW.trod_struct
def Jw:=@Go.execOp_put
def Jx:=@Go.Region.noSelect_spec
def Jy:=@Go.run_loadVar_row
def Jz:=@Go.run_underlying
def JA:=@List.getElem_of_mem
def JB:=@List.perm_append_comm
def JC:=@Nat.eq_of_testBit_eq
def JD:=@List.find?_eq_none
def JE:=@List.replicate_succ
def JF:=@List.filter_eq_self
def JG:=@Option.map_some
def JH:=@List.flatMap_append
def JI:=@Go.RowKit.cell?_setCell_some
def JJ:=@List.drop_zero
def JK:=@List.getElem?_take
def JL:=@Array.ext
def JM:=@Go.Calls.mono
def JN:=@Go.wanted_put
def JO:=@List.any_eq_true
def JP:=@Bool.not_true
def JQ:=@List.all_cons
def JR:=@Bool.not_eq_true'
def JS:=@Int.le_refl
def JT:=@List.getElem?_take_of_lt
def JU:=@Nat.testBit_and
def JV:=@Nat.testBit_two_pow
def JW:=@Nat.shiftRight_le
def JX:=@List.mem_iff_getElem
def JY:=@Go.bits_and_u64_nat
def JZ:=@Nat.shiftRight_eq_div_pow
def J0:=@Nat.xor_lt_two_pow
def J1:=@Nat.le_of_lt
def J2:=@Bool.true_and
def J3:=@List.filter_sublist
def J4:=@Nat.add_sub_cancel
def J5:=@List.set_set
def J6:=@Nat.sub_zero
def J7:=@List.getElem_set_self
def J8:=@Go.run_equalIn_int
def J9:=@beq_self_eq_true
def J_:=@Go.RowKit.Below.heap_setCell
def Ka:=@Nat.div_lt_iff_lt_mul
def Kb:=@Nat.add_sub_cancel_left
def Kc:=@List.map_toArray
def Kd:=@List.getElem_toArray
def Ke:=@List.getElem?_drop
def Kf:=@Go.wpList_plain
def Kg:=@List.getElem_cons_succ
def Kh:=@Bool.eq_iff_iff
def Ki:=@Nat.lt_trichotomy
def Kj:=@BitVec.toNat_ofNat
def Kk:=@List.mem_of_find?_eq_some
def Kl:=@Nat.and_one_is_mod
def Km:=@List.mem_map_of_mem
def Kn:=@Go.Frame.finish_at
def Ko:=@List.flatMap_nil
def Kq:=@List.set_append_right
def Kr:=@List.tail_cons
def Ks:=@List.flatten_cons
def Kt:=@List.sum_append
def Ku:=@List.take_succ_cons
def Kv:=@Array.getElem?_modify
def Kw:=@Go.RowKit.Below.heap_alloc
def Kx:=@Go.wpList_append_own
def Ky:=@Nat.add_assoc
def Kz:=@Array.mem_of_getElem?
def KA:=@Go.Oper.apart_spec
def KB:=@Array.all_eq_true_iff_forall_mem
def KC:=@Array.getElem?_eq_getElem
def KD:=@List.append_of_mem
def KE:=@List.sublist_cons_self
def KF:=@List.mem_append_right
def KG:=@List.getElem?_toArray
def KH:=@List.length_singleton
def KI:=@Nat.div_eq_of_lt
def KJ:=@List.set_getElem_self
def KK:=@List.singleton_append
def KL:=@BitVec.ofInt_natCast
def KM:=@Nat.and_two_pow_sub_one_eq_mod
def KN:=@Nat.two_pow_pos
def KO:=@Nat.mul_div_cancel
def KP:=@Nat.pos_of_ne_zero
def KQ:=@List.filter_cons_of_pos
def KR:=@List.getD_cons_succ
def KS:=@List.filter_cons_of_neg
def KT:=@List.filter_eq_nil_iff
def KU:=@Nat.not_lt_zero
def KV:=@Int.toNat_of_nonneg
def KW:=@Option.filter_some
def KX:=@List.filter_map
def KY:=@Int.tmod_eq_emod_of_nonneg
def KZ:=@List.zip_cons_cons
def K0:=@Go.IntWalk.u16_in
def K1:=@Go.IntKind.wrap_u16
def K2:=@Go.bits_xor_u64_nat
def K3:=@List.ext_getElem
def K4:=@List.mem_replicate
def K5:=@List.length_pos_iff
def K6:=@Nat.mul_le_mul
def K7:=@List.pairwise_singleton
def K8:=@Option.map_eq_none_iff
def K9:=@List.getElem_cons_zero
def K_:=@List.dropLast_concat_getLast
def La:=@List.set_eq_of_length_le
def Lb:=@Nat.testBit_lt_two_pow
def Lc:=@Nat.testBit_mul_two_pow
def Ld:=@Nat.testBit_shiftRight
def Le:=@List.find?_eq_some_iff_append
def Lf:=@List.length_pos_of_mem
def Lg:=@Int.tdiv_eq_ediv_of_nonneg
def Lh:=@Nat.mul_lt_mul_of_pos_right
def Li:=@List.append_eq_nil_iff
section
open Go.RowKit
def aH{α:Type}:(∀(xs:List α) (i:Nat) (a:α),xs.toArray.setIfInBounds i a=(xs.set i a).toArray)/\(∀(a:α) (l:List α) (n:Nat) (b:α),(a::l).set (n+1) b=a::l.set n b)/\∀(a:α) (l:List α) (b:α),(a::l).set 0 b=b::l:=
 ⟨λ_ _ _=>List.setIfInBounds_toArray ..,λ_ _ _ _=>IE,λ_ _ _=>I7⟩
def aO{α:Type}:(∀(a:α) (l:List α) (n:Nat),(a::l)[n+1]? =l[n]?)/\(∀(a:α) (l:List α),(a::l)[0]? =some a)/\(∀(a:α) (l:List α) (n:Nat),(a::l).drop (n+1)=l.drop n)/\(∀l:List α,l.drop 0=l)/\(∀(a:α) (l:List α) (n:Nat),(a::l).take (n+1)=a::l.take n)/\∀l:List α,l.take 0=[]:=
 ⟨λ_ _ _=>IX,λ_ _=>Jd,λ_ _ _=>List.drop_succ_cons,λ_=>JJ,λ_ _ _=>Ku,λ_=>Je⟩
structure ag (w:World) (b:Nat) (cs:List Value) (t:TypeId):Prop where
 is:w.heap[b]? =some (.cells cs.toArray t (0,0))
def ag.lt{w:World}{b:Nat}{cs:List Value}{t:TypeId}(h:ag w b cs t):b<w.heap.size:=
 (Ih.1 h.is).1
def ag.cell{w:World}{b:Nat}{cs:List Value}{t:TypeId}(h:ag w b cs t)(o:Nat){v:Value}(a:cs[o]? =some v):w.cell? ⟨b,o,none⟩=some v:=by
 simp[World.cell?,h.is,a]
def ag.ai{w:World}{b:Nat}{t:TypeId}{v:Value}{r:List Value}(h:ag w b (v::r) t):w.cell? ⟨b,0,none⟩=some v:=h.cell 0 rfl
def ag.aj{w:World}{b:Nat}{t:TypeId}{a0 v:Value}{r:List Value}(h:ag w b (a0::v::r) t):w.cell? ⟨b,1,none⟩=some v:=h.cell 1 rfl
def ag.aq{w:World}{b:Nat}{t:TypeId}{a0 a1 v:Value}{r:List Value}(h:ag w b (a0::a1::v::r) t):w.cell? ⟨b,2,none⟩=some v:=h.cell 2 rfl
def ag.aK{w:World}{b:Nat}{t:TypeId}{a0 a1 a2 v:Value}{r:List Value}(h:ag w b (a0::a1::a2::v::r) t):w.cell? ⟨b,3,none⟩=some v:=h.cell 3 rfl
def ag.a_{w:World}{b:Nat}{t:TypeId}{a0 a1 a2 a3 v:Value}{r:List Value}(h:ag w b (a0::a1::a2::a3::v::r) t):w.cell? ⟨b,4,none⟩=some v:=h.cell 4 rfl
def ag.bN{w:World}{b:Nat}{t:TypeId}{a0 a1 a2 a3 a4 v:Value}{r:List Value}(h:ag w b (a0::a1::a2::a3::a4::v::r) t):w.cell? ⟨b,5,none⟩=some v:=h.cell 5 rfl
def ag.du{w:World}{b:Nat}{t:TypeId}{a0 a1 a2 a3 a4 a5 v:Value}{r:List Value}(h:ag w b (a0::a1::a2::a3::a4::a5::v::r) t):w.cell? ⟨b,6,none⟩=some v:=h.cell 6 rfl
def ag.eN{w:World}{b:Nat}{t:TypeId}{a0 a1 a2 a3 a4 a5 a6 v:Value}{r:List Value}(h:ag w b (a0::a1::a2::a3::a4::a5::a6::v::r) t):w.cell? ⟨b,7,none⟩=some v:=h.cell 7 rfl
def ag.eu{w:World}{b:Nat}{t:TypeId}{a0 a1 a2 a3 a4 a5 a6 a7 v:Value}{r:List Value}(h:ag w b (a0::a1::a2::a3::a4::a5::a6::a7::v::r) t):w.cell? ⟨b,8,none⟩=some v:=h.cell 8 rfl
def ag.ea{w:World}{b:Nat}{t:TypeId}{a0 a1 a2 a3 a4 a5 a6 a7 a v:Value}{r:List Value}(h:ag w b (a0::a1::a2::a3::a4::a5::a6::a7::a::v::r) t):w.cell? ⟨b,9,none⟩=some v:=h.cell 9 rfl
def ag.eR{w:World}{b:Nat}{t:TypeId}{a0 a1 a2 a3 a4 a5 a6 a7 a a9 v:Value}{r:List Value}(h:ag w b (a0::a1::a2::a3::a4::a5::a6::a7::a::a9::v::r) t):w.cell? ⟨b,10,none⟩=some v:=h.cell 10 rfl
def ag.ik{w:World}{b:Nat}{t:TypeId}{a0 a1 a2 a3 a4 a5 a6 a7 c a9 a v:Value}{r:List Value}(h:ag w b (a0::a1::a2::a3::a4::a5::a6::a7::c::a9::a::v::r) t):w.cell? ⟨b,11,none⟩=some v:=h.cell 11 rfl
def ag.hK{w:World}{b:Nat}{t:TypeId}{a0 a1 a2 a3 a4 a5 a6 a7 d a9 a c v:Value}{r:List Value}(h:ag w b (a0::a1::a2::a3::a4::a5::a6::a7::d::a9::a::c::v::r) t):w.cell? ⟨b,12,none⟩=some v:=h.cell 12 rfl
def ag.hL{w:World}{b:Nat}{t:TypeId}{a0 a1 a2 a3 a4 a5 a6 a7 d a9 a c a12 v:Value}{r:List Value}(h:ag w b (a0::a1::a2::a3::a4::a5::a6::a7::d::a9::a::c::a12::v::r) t):w.cell? ⟨b,13,none⟩=some v:=h.cell 13 rfl
def ag.jU{w:World}{b:Nat}{t:TypeId}{a0 a1 a2 a3 a4 a5 a6 a7 e a9 a c a12 d v:Value}{r:List Value}(h:ag w b (a0::a1::a2::a3::a4::a5::a6::a7::e::a9::a::c::a12::d::v::r) t):w.cell? ⟨b,14,none⟩=some v:=h.cell 14 rfl
def ag.jV{w:World}{b:Nat}{t:TypeId}{a0 a1 a2 a3 a4 a5 a6 a7 f a9 a c a12 d e v:Value}{r:List Value}(h:ag w b (a0::a1::a2::a3::a4::a5::a6::a7::f::a9::a::c::a12::d::e::v::r) t):w.cell? ⟨b,15,none⟩=some v:=h.cell 15 rfl
def ag.fz{w:World}{b:Nat}{cs:List Value}{t:TypeId}(h:ag w b cs t)(o:Nat):w.frozen? ⟨b,o,none⟩=false:=by
 simp[World.frozen?,h.is]
def ag.set{w:World}{b:Nat}{cs:List Value}{t:TypeId}(h:ag w b cs t)(o:Nat)(v:Value):ag (w.setCell ⟨b,o,none⟩ v) b (cs.set o v) t:=by
 constructor;simp[World.setCell,Kv,h.is]
def ag.bJ{w:World}{b:Nat}{cs:List Value}{t:TypeId}(h:ag w b cs t){a:Addr}(c:b≠a.block)(v:Value):ag (w.setCell a v) b cs t:=
 ⟨(J_ _ _ _ _ c).trans h.is⟩
def ag.alloc{w:World}{b:Nat}{cs:List Value}{t:TypeId}(h:ag w b cs t)(o:Obj):ag (w.alloc o) b cs t:=
 ⟨(Kw _ _ _ h.lt).trans h.is⟩
def cz(w:World)(o:Obj):(w.alloc o).heap[w.heap.size]? =some o:=by
 show(w.heap.push o)[w.heap.size]? =some o;simp
def ag.new(w:World)(cs:List Value)(t:TypeId):ag (w.alloc (.cells cs.toArray t)) w.heap.size cs t:=⟨cz _ _⟩
def ag.drew{w:World}{b:Nat}{cs:List Value}{t:TypeId}(h:ag w b cs t):ag w.drew b cs t:=⟨h.is⟩
def ag.drewN{w:World}{b:Nat}{cs:List Value}{t:TypeId}(h:ag w b cs t)(n:Nat):ag (w.drewN n) b cs t:=⟨h.is⟩
def ag.grown{w w':World}{b:Nat}{cs:List Value}{t:TypeId}{row:Option Nat}(h:ag w b cs t)(c:w.grownBy w' row)(a:some b≠row):ag w' b cs t:=
 ⟨(c.block b h.lt a).trans h.is⟩
def lf(w:World)(o:Obj)(n:Nat)(h:n=w.heap.size):(w.alloc o).drew.heap[n]? =some o:=by subst h;exact cz w o
def ag.inj{w:World}{b:Nat}{cs a:List Value}{t c:TypeId}(h:ag w b cs t)(d:ag w b a c):cs=a/\t=c:=by
 have:=h.is.symm.trans d.is;simp at this;exact this
structure Kp (S:Nat->Prop) (w w':World):Prop where
 os:w'.os=w.os
 tape:w'.tape=w.tape
 output:w'.output=w.output
 size:w.heap.size<=w'.heap.size
 block:∀b,b<w.heap.size->¬S b->w'.heap[b]? =w.heap[b]?
abbrev ae:Nat->Prop:=λ_=>False
def Kp.refl(S:Nat->Prop)(w:World):Kp S w w:=⟨rfl,rfl,rfl,Hm _,λ_ _ _=>rfl⟩
def Kp.trans{S:Nat->Prop}{a b c:World}(h:Kp S a b)(k:Kp S b c):Kp S a c:=
 ⟨k.os.trans h.os,k.tape.trans h.tape,k.output.trans h.output,Hy h.size k.size,λi hi d=>(k.block i (HP hi h.size) d).trans (h.block i hi d)⟩
def Kp.then{S T:Nat->Prop}{a b c:World}(h:Kp S a b)(k:Kp T b c)(e:∀i,i<a.heap.size->T i->S i):Kp S a c:=
 ⟨k.os.trans h.os,k.tape.trans h.tape,k.output.trans h.output,Hy h.size k.size,λi hi d=>(k.block i (HP hi h.size) (λht=>d (e i hi ht))).trans (h.block i hi d)⟩
def Kp.mono{S T:Nat->Prop}{a b:World}(h:Kp S a b)(c:∀i,i<a.heap.size->S i->T i):Kp T a b:=
 ⟨h.os,h.tape,h.output,h.size,λi hi d=>h.block i hi (λx=>d (c i hi x))⟩
def Kp.alloc{S:Nat->Prop}{a w:World}(h:Kp S a w)(o:Obj):Kp S a (w.alloc o):=
 ⟨h.os,h.tape,h.output,by simp;have:=h.size;omega,λi hi b=>(Kw _ _ _ (HP hi h.size)).trans (h.block i hi b)⟩
def Kp.drew{S:Nat->Prop}{a w:World}(h:Kp S a w):Kp S a w.drew:=⟨h.os,h.tape,h.output,h.size,h.block⟩
def Kp.drewN{S:Nat->Prop}{a w:World}(h:Kp S a w)(n:Nat):Kp S a (w.drewN n):=⟨h.os,h.tape,h.output,h.size,h.block⟩
def Kp.set{S:Nat->Prop}{a w:World}(h:Kp S a w){p:Addr}(hp:S p.block\/a.heap.size<=p.block)(u:Value):Kp S a (w.setCell p u):=
 ⟨h.os,h.tape,h.output,by simp[World.setCell];exact h.size,λi hi b=>(J_ _ _ _ _ (λe=>by subst e;rcases hp with hp|hp;(exact b hp);omega)).trans (h.block i hi b)⟩
def Kp.grown{S:Nat->Prop}{a w w':World}{row:Option Nat}(h:Kp S a w)(b:w.grownBy w' row)(f:∀k,row=some k->S k\/a.heap.size<=k):Kp S a w':=
 ⟨b.os.trans h.os,b.tape.trans h.tape,b.output.trans h.output,Hy h.size b.size,
    λi hi c=>(b.block i (HP hi h.size) (λe=>by rcases f i e.symm with d|d;(exact c d);omega)).trans (h.block i hi c)⟩
def Kp.below{S:Nat->Prop}{w w':World}(h:Kp S w w'){B:Nat}(c:B<=w.heap.size)(hS:∀b,b<B->¬S b):Below B w w':=
 ⟨h.os,h.tape,h.output,h.size,λk a=>h.block k (by omega) (hS k a)⟩
def Kp.wP{w w':World}{B:Nat}(h:Below B w w'):Kp (λb=>B<=b) w w':=
 ⟨h.os,h.tape,h.output,h.size,λb _ a=>h.block b (by omega)⟩
def Kp.cell{S:Nat->Prop}{w w':World}(h:Kp S w w'){a:Addr}{v:Value}(b:w.cell? a=some v)(c:¬S a.block):w'.cell? a=some v:=
 (World.cell?_of_block (h.block _ (Iy w a b) c)).trans b
def ag.kp{S:Nat->Prop}{w w':World}{b:Nat}{cs:List Value}{t:TypeId}(h:ag w b cs t)(k:Kp S w w')(a:¬S b):ag w' b cs t:=
 ⟨(k.block b h.lt a).trans h.is⟩
structure Sl (w:World) (v:Value) (n sz:Nat) (cs:List Value):Prop where
 len:cs.length=n*sz
 max:n<=9223372036854775807
 is:∃ao cap,v=.slice ao n cap/\∀i u,cs[i]? =some u->∃b off,ao=some ⟨b,off,none⟩/\w.cell? ⟨b,off+i,none⟩=some u
def Sl.kp{S:Nat->Prop}{w w':World}{v:Value}{n sz:Nat}{cs:List Value}(h:Sl w v n sz cs)(k:Kp S w w')(c:∀b,b<w.heap.size->v.ownBlock=some b->¬S b):Sl w' v n sz cs:=by
 obtain⟨d,cap,rfl,e⟩:=h.is;refine⟨h.len,h.max,d,cap,rfl,λi u hu=> ?_⟩;obtain⟨b,off,rfl,a⟩:=e i u hu;exact⟨b,off,rfl,k.cell a (c b (Iy w _ a) rfl)⟩
def Sl.old{w w':World}{v:Value}{n sz:Nat}{cs:List Value}(h:Sl w v n sz cs)(k:Kp ae w w'):Sl w' v n sz cs:=h.kp k (λ_ _ _ h=>h)
def Sl.nil(w:World)(sz:Nat):Sl w (.slice none 0 0) 0 sz []:=⟨by simp,by omega,none,0,rfl,λi u h=>by simp at h⟩
def gG{w:World}{base:Nat}{e:TypeId}{size:Nat}{v:Value}{n:Nat}{xs:List Value}(h:w.ownsRow base e size v n xs):Sl w v n size xs:=by
 obtain⟨a,h⟩:=h;rcases h with⟨rfl,rfl⟩|⟨g,cap,cur,rfl,c,b,d,hm,f,ht⟩
 ·have:xs=[]:=by simpa using a
  subst this;exact Sl.nil w size
 ·refine⟨a,by unfold maxLen at hm;omega,_,cap,rfl,λi u hu=>⟨g,0,rfl,?_⟩⟩;rw[<-ht]at hu
  have hi:i<n*size:=by
   have:=(HD.1 hu).1;simp at this;omega
  rw[JK,Hl hi]at hu
  simp only[World.cell?,b,HR];simpa using hu
def aN{w:World}{base:Nat}{e:TypeId}{size:Nat}{v:Value}{n:Nat}{xs:List Value}(h:w.ownsRow base e size v n xs):∃a cap,v=.slice a n cap:=by
 rcases h.2 with⟨rfl,rfl⟩|⟨g,cap,cur,rfl,_⟩
 ·exact⟨_,_,rfl⟩
 ·exact⟨_,_,rfl⟩
def an{w:World}{base:Nat}{e:TypeId}{size:Nat}{v:Value}{n:Nat}{xs:List Value}(h:w.ownsRow base e size v n xs){b:Nat}(a:v.ownBlock=some b):base<=b/\b<w.heap.size:=h.lt b a
def au{S:Nat->Prop}{w w':World}{base:Nat}{e:TypeId}{size:Nat}{v:Value}{n:Nat}{xs:List Value}(h:w.ownsRow base e size v n xs)(k:Kp S w w')(c:∀b,v.ownBlock=some b->¬S b):w'.ownsRow base e size v n xs:=by
 refine⟨h.1,?_⟩;rcases h.2 with⟨rfl,rfl⟩|⟨g,cap,cur,rfl,d,a,r⟩
 ·exact .inl ⟨rfl,rfl⟩
 ·exact .inr ⟨g,cap,cur,rfl,d,(k.block g (Ih.1 a).1 (c g rfl)).trans a,r⟩
def gm{w:World}{base a:Nat}{e:TypeId}{size:Nat}{v:Value}{n:Nat}{xs:List Value}(h:w.ownsRow base e size v n xs)(c:a<=base):w.ownsRow a e size v n xs:=by
 refine⟨h.1,?_⟩;rcases h.2 with h|⟨g,cap,cur,b,d,r⟩
 ·exact .inl h
 ·exact .inr ⟨g,cap,cur,b,by omega,r⟩
structure gL (P:Program) (t e:TypeId) (z:Value) (size bytes:Nat):Prop where
 ht:P.underlying t=some (.slice e)
 info:(P.info? e).map (λi=>(i.zero,i.size,i.bytes))=some (some z,size,bytes)
 hz:z.cells.size=size
 pos:0<size
def eW{P:Program}{t e:TypeId}{z:Value}{size bytes:Nat}(T:gL P t e z size bytes){ops:Array Oper}{rest:List Oper}{o:Oper}{a:Act}{Q:Exit->Act->World->Prop}{w:World}(s x:Operand)
    (p:o.guard=none) (B:o.op=.call {callee:=.builtin .append,args:=#[s,x],argTypes:=#[t,t]}) (base:Nat) {v:Value} {n:Nat} {xs:List Value} (l:w.ownsRow base e size v n xs)
    {b c:Nat} (news:List Value) (C:a.eval s=v) (D:a.eval x=.slice (some ⟨b,0,none⟩) 1 c) (E:news.length=size) {fr:Nat×Nat} (m:w.heap[b]? =some (.cells news.toArray e fr)) (F:news.all (·.oneCell')=true)
    (f:(n+1)*bytes<=140737488355328) (G:n<9223372036854775807) (k:base<=w.heap.size)
    (h:∀g cap w',w'.ownsRow base e size (.slice (some ⟨g,0,none⟩) (n+1) cap) (n+1) (xs++news)->w.grownBy w' v.ownBlock->wpList P ops Q rest (a.put o.dst (.slice (some ⟨g,0,none⟩) (n+1) cap)) w'):wpList P ops Q (o::rest) a w:=by
 obtain⟨i,hi,q,r,y⟩:=Ju T.info;refine Kx w p s x t B base e i z size bytes T.ht hi q r y T.hz T.pos v n xs C l ⟨b,0,none⟩ 1 c news D (by simpa using E) ?_ (by simpa using F) (by unfold maxLen;omega) f k ?_
 ·intro j u hu;have e:(⟨b,0,none⟩:Addr).add j=⟨b,j,none⟩:=by unfold Addr.add;split<;>simp_all
  rw[e];simp[World.cell?,m,hu]
 ·intro I w' d H A;rcases d.2 with⟨_,J⟩|⟨g,cap,cur,rfl,_⟩
  ·omega
  ·exact h g cap w' d H
def oF{P:Program}{t e:TypeId}{z:Value}{size bytes:Nat}(T:gL P t e z size bytes){ops:Array Oper}{o:Oper}{a:Act}{w:World}{K:Act->World->Prop}{Q:Exit->Act->World->Prop}{E:Prop}(s x:Operand)
    (p:o.guard=none) (B:o.op=.call {callee:=.builtin .append,args:=#[s,x],argTypes:=#[t,t]}) (base:Nat) {v:Value} {n:Nat} {xs:List Value} (l:w.ownsRow base e size v n xs)
    {b c:Nat} (news:List Value) (C:a.eval s=v) (D:a.eval x=.slice (some ⟨b,0,none⟩) 1 c) (F:news.length=size) {fr:Nat×Nat} (m:w.heap[b]? =some (.cells news.toArray e fr)) (G:news.all (·.oneCell')=true)
    (f:(n+1)*bytes<=140737488355328) (H:n<9223372036854775807) (k:base<=w.heap.size)
    (h:∀g cap w',w'.ownsRow base e size (.slice (some ⟨g,0,none⟩) (n+1) cap) (n+1) (xs++news)->w.grownBy w' v.ownBlock->K (a.put o.dst (.slice (some ⟨g,0,none⟩) (n+1) cap)) w'):
    if Region.wanted o (yielded ops a.tmps)=true then Oper.wp P o a w K Q else E:=by
 have hw:Region.wanted o (yielded ops a.tmps)=true:=by simp[Region.wanted,p]
 rw[Hl hw];obtain⟨i,hi,q,r,y⟩:=Ju T.info;refine wp_append_own w s x t B base e i z size bytes T.ht hi q r y T.hz T.pos v n xs C l ⟨b,0,none⟩ 1 c news D (by simpa using F) ?_ (by simpa using G) (by unfold maxLen;omega) f k ?_
 ·intro j u hu;have e:(⟨b,0,none⟩:Addr).add j=⟨b,j,none⟩:=by unfold Addr.add;split<;>simp_all
  rw[e];simp[World.cell?,m,hu]
 ·intro J w' d I A;rcases d.2 with⟨_,L⟩|⟨g,cap,cur,rfl,_⟩
  ·omega
  ·exact h g cap w' d I
def ks{S:Nat->Prop}{w w':World}(h:∃d,w'=w.drewN d):Kp S w w':=by obtain⟨d,rfl⟩:=h;exact(Kp.refl S w).drewN d
def AM{P:Program}{f:FuncId}{args:Array Value}{w:World}{n:Nat}{v:Value}(h:Calls P f args (w.drewN n) λe w'=>e=.returned v/\w.drewN n=w'):
    Calls P f args (w.drewN n) λe a=>e=.returned v/\∃m,a=w.drewN m:=
 h.mono λ_ _ ⟨he,hm⟩=>⟨he,n,hm.symm⟩
def Dl(z:Value)(n:Nat):madeCells #[z] n=(List.replicate n z).toArray:=by
 apply JL
 ·simp[madeCells]
 ·intro i a b;simp[madeCells,Nat.mod_one]
def dP{a b:Bool}(h:a=b):Ending.returned (.bool a)=.returned (.bool b):=by rw[h]
def dh{k:IntKind}{a b:Int}(h:a=b):Ending.returned (.int k a)=.returned (.int k b):=by rw[h]
end
end Go.Proofs.YtincjochpkdnfaaGreatDoor
