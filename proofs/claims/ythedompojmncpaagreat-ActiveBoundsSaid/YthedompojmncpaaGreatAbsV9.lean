/- Part of the abstract layer; it proves no statement by itself. -/
import Derived.Test.YthedompojmncpaaGreatAbsV8
noncomputable section
namespace Abs
set_option linter.unusedVariables false
set_option linter.unusedSimpArgs false
set_option linter.unusedSectionVars false
open Go
attribute [go_sem] Nat.testBit_eq_decide_div_mod_eq decide_true decide_false if_true if_false Bool.not_true Bool.not_false Bool.and_true Bool.true_and Bool.and_self and_true true_and and_self or_true true_or List.length_cons List.length_nil List.drop_zero List.drop_succ_cons List.drop_nil List.take_succ_cons List.take_zero List.take_nil List.getElem?_cons_zero List.getElem?_cons_succ List.getElem?_nil List.set_cons_zero List.set_cons_succ List.all_cons List.all_nil List.map_cons List.map_nil Option.bind_some Option.map_some Option.isSome_some Int.toNat_natCast Nat.zero_add Nat.add_zero Nat.one_mul Nat.mul_one Nat.le_refl Int.le_refl Nat.zero_le not_true_eq_false not_false_eq_true ne_eq eq_self Nat.succ_ne_zero List.replicate_succ List.replicate_zero Bool.false_eq_true List.nil_append List.cons_append Nat.le_add_left Nat.lt_add_one Nat.lt_irrefl Nat.add_eq_zero_iff false_and and_false Nat.add_left_cancel_iff Nat.add_right_cancel_iff List.length_append List.length_map List.length_replicate List.length_set List.getElem?_map
attribute [go_sem] putR_ret
end Abs
end
