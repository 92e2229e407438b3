/- The abstract layer, part Y: the rules of a walk, some at once. -/
import Derived.Test.YtdhomifcjakbgaaDoorAbsX
set_option linter.unusedVariables false
set_option linter.defProp false
namespace Go.Abs
open Go
variable {P : Program}

def q0 := And.intro @V_skip (And.intro @V_region (And.intro @V_draw (And.intro @V_seq (And.intro @V_cond (And.intro @opA_alloc (And.intro @opA_box (And.intro @opA_buildSlice (And.intro @opA_store (And.intro @opA_makeSlice (And.intro @opA_append @opA_len))))))))))
def q1 := And.intro @opA_min (And.intro @opA_max (And.intro @opA_real (And.intro @opA_imag (And.intro @opA_complex (And.intro @V_block (And.intro @V_loop (And.intro @V_exit (And.intro @V_ret (And.intro @retQ_ret (And.intro @retQ_normal @R_nil))))))))))
def q2 := And.intro @R_none (And.intro @R_some (And.intro @RQ_nil (And.intro @RQ_none (And.intro @RQ_some (And.intro @RQ_fnone (And.intro @RQ_fsome (And.intro @stepQ_call (And.intro @stepQ_builtin (And.intro @callQ_fn (And.intro @callV_fn @opA_call))))))))))
def q3 := And.intro @Br_true (And.intro @Br_false (And.intro @Br_not (And.intro @guardB_true (And.intro @guardB_false (And.intro @guardO_some (And.intro @condB_bool (And.intro @Cn_any (And.intro @Cn_bool (And.intro @Cn_int (And.intro @Cn_flt @Cn_cpx))))))))))
def q4 := And.intro @Cn_str (And.intro @Cn_agg (And.intro @Cn_tup (And.intro @Cn_nils (And.intro @Cn_ro (And.intro @Cn_sl (And.intro @Cn_ptr (And.intro @Cn_rop (And.intro @Cn_nilp (And.intro @Cn_fn (And.intro @Cn_nilf @stepQ_move))))))))))
def q5 := And.intro @stepQ_assign (And.intro @stepQ_pick (And.intro @stepQ_build (And.intro @stepQ_load (And.intro @stepQ_nilCheck (And.intro @stepQ_binOp (And.intro @stepQ_unOp (And.intro @stepQ_convert (And.intro @stepQ_makeFunc (And.intro @stepQ_slice (And.intro @stepQ_fieldAddr @stepQ_field))))))))))
def q6 := And.intro @stepQ_indexAddr (And.intro @stepQ_index (And.intro @stepQ_extract (And.intro @opA_move (And.intro @opA_assign (And.intro @opA_pick (And.intro @opA_build (And.intro @opA_load (And.intro @opA_nilCheck (And.intro @opA_binOp (And.intro @opA_unOp @opA_convert))))))))))
def q7 := And.intro @opA_makeFunc (And.intro @opA_slice (And.intro @opA_fieldAddr (And.intro @opA_field (And.intro @opA_indexAddr (And.intro @opA_index (And.intro @opA_extract (And.intro @ints_len (And.intro @flts_len (And.intro @ints_get (And.intro @flts_get @flts_kill))))))))))
def q8 := And.intro @ints_kill (And.intro @flts_snoc (And.intro @ints_snoc (And.intro @flts_append (And.intro @ints_append @wide_ok))))
def q9 := And.intro @guardB_skip (And.intro @drawQ_cons @drawQ_nil)
end Go.Abs
