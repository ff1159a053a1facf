/- Short names. -/
import Derived.WalkKit
import Derived.Lib.Hide
import Derived.WalkSpells
import Derived.WalkLawsBesides
import Derived.BigQuiet
import Derived.Shelf.Abstract
namespace Go.Zone
end Go.Zone
namespace Go.Star
end Go.Star
namespace Go.Sym
end Go.Sym
namespace Go.Roa
end Go.Roa
namespace Go
theorem lh{p:Prop}(h:p):RowKit.Hid p:=h
theorem RowKit.Hid.o{p:Prop}(h:RowKit.Hid p):p:=h.out
theorem oM{p:Prop}(h:p:=by omega):p:=h
theorem kR{p:Prop}(h:p:=by kernel_rfl):p:=h
theorem dC{p:Prop}(h:p:=by decide):p:=h
theorem sP{p:Prop}(h:p:=by simp):p:=h
theorem sG{p:Prop}(h:p:=by simp [go_sem]):p:=h
theorem sO{p:Prop}(h:p:=by simp;omega):p:=h
theorem iW{x y:Int}(h:-9223372036854775808≤x∧x≤9223372036854775807∧x=y):IntKind.i64.wrap x=y:=by rw [IntWalk.i64_in _ ⟨h.1,h.2.1⟩];exact h.2.2
theorem uM{P:Program}{f:FuncId}{a:Array Value}{w:World}{Q R:Ending→World→Prop}(h:Calls P f a w Q)(k:∀e v,Q e v→R e v):RowKit.Hid (Calls P f a w R):=h.mono k
abbrev lc:=@Nat.le_refl
abbrev ld:=@List.length_map
abbrev lg:=@List.length_append
abbrev lj:=@Nat.zero_le
abbrev lk:=@Nat.le_trans
abbrev ll:=@List.getElem_mem
abbrev lm:=@List.mem_singleton
abbrev ln:=@List.mem_cons
abbrev lp:=@Nat.lt_of_lt_of_le
abbrev lr:=@List.append_assoc
abbrev ls:=@Option.some.inj
abbrev lu:=@List.getElem?_eq_getElem
abbrev lw:=@List.length_cons
abbrev lx:=@List.mem_append
abbrev ly:=@List.take_succ_eq_append_getElem
abbrev lz:=@List.map_append
abbrev lB:=@List.length_nil
abbrev lC:=@List.take_length
abbrev lD:=@List.length_take
abbrev lE:=@Nat.add_zero
abbrev lF:=@List.flatMap_append
abbrev lG:=@List.map_cons
abbrev lH:=@Nat.add_mul
abbrev lI:=@Nat.not_lt_zero
abbrev lJ:=@List.length_singleton
abbrev lL:=@List.not_mem_nil
abbrev lM:=@List.take_of_length_le
abbrev lN:=@List.flatMap_cons
abbrev lO:=@List.nil_append
abbrev lP:=@List.getElem?_map
abbrev lQ:=@Option.some.injEq
abbrev lR:=@List.take_zero
abbrev lS:=@Nat.zero_add
abbrev lT:=@List.append_nil
abbrev lU:=@List.getElem_of_mem
abbrev lV:=@Nat.le_of_eq
abbrev lW:=@List.mem_map
abbrev lX:=@List.take_succ_cons
abbrev lY:=@Bool.false_eq_true
abbrev lZ:=@List.drop_succ_cons
abbrev L3:=@List.map_nil
abbrev L4:=@List.drop_zero
abbrev L6:=@Bool.and_eq_true
abbrev L7:=@Nat.mul_le_mul_right
abbrev L8:=@Nat.lt_or_ge
abbrev L9:=@List.getD_eq_getElem?_getD
abbrev La:=@Array.getElem?_eq_some_iff
abbrev Lb:=@Nat.mul_one
abbrev Lc:=@Option.mem_toList
abbrev Ld:=@List.getElem_cons_zero
abbrev Le:=@List.mem_map_of_mem
abbrev Lf:=@Nat.zero_mul
abbrev Lg:=@List.set_append_right
abbrev Lh:=@List.drop_eq_getElem_cons
abbrev Li:=@List.length_set
abbrev Lj:=@List.getElem_map
abbrev Ll:=@Array.getElem?_toList
abbrev Lm:=@List.mem_cons_of_mem
abbrev Ln:=@Nat.mul_le_mul
abbrev Lo:=@List.pairwise_cons
abbrev Lr:=@List.filter_nil
abbrev Ls:=@List.take_append_drop
abbrev Lt:=@List.mem_cons_self
abbrev Lu:=@List.cons.injEq
abbrev Lv:=@Nat.le_succ_of_le
abbrev Lw:=@List.getElem?_eq_some_iff
abbrev Lx:=@List.mem_of_mem_take
abbrev Ly:=@List.eq_nil_of_length_eq_zero
abbrev Lz:=@Int.toNat_natCast
abbrev LA:=@ByteArray.size_append
abbrev LB:=@List.length_range
abbrev LC:=@Array.getElem?_eq_getElem
abbrev LD:=@Array.getD_eq_getD_getElem?
abbrev LE:=@List.getElem?_append_right
abbrev LF:=@List.length_drop
abbrev LG:=@List.take_append_of_le_length
abbrev LH:=@List.length_replicate
abbrev LI:=@List.getElem?_append_left
abbrev LJ:=@List.length_pos_iff
abbrev LK:=@Nat.lt_trans
abbrev LL:=@List.getElem?_eq_none
end Go
