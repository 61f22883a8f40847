/- PROVED HERE: nothing new: short names for laws. Conditions: none. -/
import Derived.Laws.AppendOwn
set_option linter.all false
namespace Go
abbrev Aa:=@Option.some.inj
abbrev AQ:=@Array.getElem?_setIfInBounds_ne
abbrev Ad:=@Nat.le_refl
abbrev BQ:=@Array.getElem?_eq_some_iff
abbrev BJ:=@Array.getElem?_eq_getElem
abbrev BH:=@Array.getD_eq_getD_getElem?
abbrev Ar:=@Option.getD_some
abbrev CP:=@List.getD_eq_getElem?_getD
abbrev Bv:=@Bool.and_eq_true
abbrev EX:=@Array.getElem?_setIfInBounds_self_of_lt
abbrev DK:=@Array.getElem?_eq_none
abbrev Dh:=@List.getElem?_eq_getElem
abbrev Cm:=@Option.some.injEq
abbrev AY:=@List.mem_map
abbrev DX:=@World.cell?_of_block
abbrev BG:=@Nat.lt_or_ge
abbrev BL:=@Nat.le_trans
abbrev Es:=@Nat.lt_of_lt_of_le
abbrev AO:=@List.mem_cons
abbrev FC:=@Array.getElem?_setIfInBounds
abbrev FX:=@Option.map_eq_some_iff
abbrev EK:=@Bool.false_eq_true
abbrev C9:=@List.not_mem_nil
abbrev Et:=@List.length_map
abbrev DW:=@List.map_cons
abbrev IX:=@Array.mem_of_getElem?
abbrev LX:=@Option.bind_eq_some_iff
abbrev Hr:=@List.cons_append
abbrev Gm:=@List.nil_append
abbrev FY:=@List.mem_append
abbrev NK:=@List.mem_of_getElem?
abbrev Mc:=@Array.getElem?_push
abbrev Gu:=@List.length_cons
abbrev Nh:=@List.contains_iff_mem
abbrev Me:=@List.pairwise_cons
abbrev IZ:=@List.mem_filter
abbrev Nv:=@Array.ext_getElem?
abbrev QL:=@Array.getElem?_eq_none_iff
abbrev JA:=undef
abbrev JB:=Nat->Prop
abbrev JC:=Array Value
abbrev JD:=List Int
abbrev JE:=World
abbrev JF:=Goroutine
abbrev JG:=FuncId
abbrev JH:=TypeId
abbrev JI:=Option Addr
abbrev JJ:=Value
end Go
