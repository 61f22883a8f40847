/- PROVED HERE: nothing new: short names for laws. Conditions: none. -/
import Derived.Laws.AppendOwn
set_option linter.all false
namespace Go
abbrev Aa:=@Option.some.inj
abbrev AV:=@Array.getElem?_setIfInBounds_ne
abbrev Ad:=@Nat.le_refl
abbrev BJ:=@Array.getElem?_eq_some_iff
abbrev Bz:=@Array.getElem?_eq_getElem
abbrev Bq:=@Array.getD_eq_getD_getElem?
abbrev A8:=@Option.getD_some
abbrev C9:=@List.getD_eq_getElem?_getD
abbrev Bh:=@Bool.and_eq_true
abbrev FC:=@Array.getElem?_setIfInBounds_self_of_lt
abbrev Cc:=@Array.getElem?_eq_none
abbrev DL:=@List.getElem?_eq_getElem
abbrev Cb:=@Option.some.injEq
abbrev AZ:=@List.mem_map
abbrev Du:=@World.cell?_of_block
abbrev BF:=@Nat.lt_or_ge
abbrev BN:=@Nat.le_trans
abbrev DX:=@Nat.lt_of_lt_of_le
abbrev AL:=@List.mem_cons
abbrev Gj:=@Array.getElem?_setIfInBounds
abbrev Fh:=@Option.map_eq_some_iff
abbrev DY:=@Bool.false_eq_true
abbrev BU:=@List.not_mem_nil
abbrev FQ:=@List.length_map
abbrev D5:=@List.map_cons
abbrev Ho:=@Array.mem_of_getElem?
abbrev Gl:=@Option.bind_eq_some_iff
abbrev G9:=@List.cons_append
abbrev Gm:=@List.nil_append
abbrev Gn:=@List.mem_append
abbrev NR:=@List.mem_of_getElem?
abbrev KA:=@Array.getElem?_push
abbrev Lh:=@List.length_cons
abbrev Lj:=@List.contains_iff_mem
abbrev KF:=@List.pairwise_cons
abbrev Hq:=@List.mem_filter
abbrev Ll:=@Array.ext_getElem?
abbrev PE:=@Array.getElem?_eq_none_iff
abbrev JA:=undef
abbrev JB:=Nat->Prop
abbrev JC:=Array Value
abbrev JD:=List Int
abbrev JE:=World
abbrev JF:=Goroutine
abbrev JG:=FuncId
abbrev JH:=TypeId
abbrev JI:=Option Addr
abbrev JJ:=Value
abbrev JK(n:Int):Value:=.int .i64 n
abbrev JL(b:Nat):Value:=.pointer (some ⟨b,0,none⟩)
abbrev JM(b n c:Nat):Value:=.slice (some ⟨b,0,none⟩) n c
end Go
