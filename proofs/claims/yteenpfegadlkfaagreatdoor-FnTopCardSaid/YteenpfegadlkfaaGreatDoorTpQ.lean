/- A desk's lines: what part, plain and double answer. Printed by gen_tpr.py. -/
import Derived.Test.YteenpfegadlkfaaGreatDoorTzH2
set_option maxRecDepth 10000
set_option maxHeartbeats 8000000
set_option linter.unusedSimpArgs false
set_option linter.unusedVariables false
namespace Go.Proofs.YteenpfegadlkfaaGreatDoor
open Go Go.Abs

theorem eq_scale_scale : (([115, 99, 97, 108, 101] : List UInt8) == [115, 99, 97, 108, 101]) = true := by decide
theorem eq_scale_pays : (([115, 99, 97, 108, 101] : List UInt8) == [112, 97, 121, 115]) = false := by decide
theorem eq_scale_rates : (([115, 99, 97, 108, 101] : List UInt8) == [114, 97, 116, 101, 115]) = false := by decide
theorem eq_scale_table : (([115, 99, 97, 108, 101] : List UInt8) == [116, 97, 98, 108, 101]) = false := by decide
theorem eq_pays_scale : (([112, 97, 121, 115] : List UInt8) == [115, 99, 97, 108, 101]) = false := by decide
theorem eq_pays_pays : (([112, 97, 121, 115] : List UInt8) == [112, 97, 121, 115]) = true := by decide
theorem eq_pays_rates : (([112, 97, 121, 115] : List UInt8) == [114, 97, 116, 101, 115]) = false := by decide
theorem eq_pays_table : (([112, 97, 121, 115] : List UInt8) == [116, 97, 98, 108, 101]) = false := by decide
theorem eq_rates_scale : (([114, 97, 116, 101, 115] : List UInt8) == [115, 99, 97, 108, 101]) = false := by decide
theorem eq_rates_pays : (([114, 97, 116, 101, 115] : List UInt8) == [112, 97, 121, 115]) = false := by decide
theorem eq_rates_rates : (([114, 97, 116, 101, 115] : List UInt8) == [114, 97, 116, 101, 115]) = true := by decide
theorem eq_rates_table : (([114, 97, 116, 101, 115] : List UInt8) == [116, 97, 98, 108, 101]) = false := by decide
theorem eq_table_scale : (([116, 97, 98, 108, 101] : List UInt8) == [115, 99, 97, 108, 101]) = false := by decide
theorem eq_table_pays : (([116, 97, 98, 108, 101] : List UInt8) == [112, 97, 121, 115]) = false := by decide
theorem eq_table_rates : (([116, 97, 98, 108, 101] : List UInt8) == [114, 97, 116, 101, 115]) = false := by decide
theorem eq_table_table : (([116, 97, 98, 108, 101] : List UInt8) == [116, 97, 98, 108, 101]) = true := by decide
theorem eq_nets_scale : (([110, 101, 116, 115] : List UInt8) == [115, 99, 97, 108, 101]) = false := by decide
theorem eq_nets_pays : (([110, 101, 116, 115] : List UInt8) == [112, 97, 121, 115]) = false := by decide
theorem eq_nets_rates : (([110, 101, 116, 115] : List UInt8) == [114, 97, 116, 101, 115]) = false := by decide
theorem eq_nets_table : (([110, 101, 116, 115] : List UInt8) == [116, 97, 98, 108, 101]) = false := by decide
theorem eq_nets_trim : (([110, 101, 116, 115] : List UInt8) == [116, 114, 105, 109]) = false := by decide
theorem eq_nets_alive : (([110, 101, 116, 115] : List UInt8) == [97, 108, 105, 118, 101]) = false := by decide
theorem eq_nets_life : (([110, 101, 116, 115] : List UInt8) == [108, 105, 102, 101]) = false := by decide
theorem eq_alive_scale : (([97, 108, 105, 118, 101] : List UInt8) == [115, 99, 97, 108, 101]) = false := by decide
theorem eq_alive_pays : (([97, 108, 105, 118, 101] : List UInt8) == [112, 97, 121, 115]) = false := by decide
theorem eq_alive_rates : (([97, 108, 105, 118, 101] : List UInt8) == [114, 97, 116, 101, 115]) = false := by decide
theorem eq_alive_table : (([97, 108, 105, 118, 101] : List UInt8) == [116, 97, 98, 108, 101]) = false := by decide
theorem eq_alive_trim : (([97, 108, 105, 118, 101] : List UInt8) == [116, 114, 105, 109]) = false := by decide
theorem eq_alive_alive : (([97, 108, 105, 118, 101] : List UInt8) == [97, 108, 105, 118, 101]) = true := by decide
theorem eq_alive_life : (([97, 108, 105, 118, 101] : List UInt8) == [108, 105, 102, 101]) = false := by decide
theorem eq_trim_scale : (([116, 114, 105, 109] : List UInt8) == [115, 99, 97, 108, 101]) = false := by decide
theorem eq_trim_pays : (([116, 114, 105, 109] : List UInt8) == [112, 97, 121, 115]) = false := by decide
theorem eq_trim_rates : (([116, 114, 105, 109] : List UInt8) == [114, 97, 116, 101, 115]) = false := by decide
theorem eq_trim_table : (([116, 114, 105, 109] : List UInt8) == [116, 97, 98, 108, 101]) = false := by decide
theorem eq_trim_trim : (([116, 114, 105, 109] : List UInt8) == [116, 114, 105, 109]) = true := by decide
theorem eq_trim_alive : (([116, 114, 105, 109] : List UInt8) == [97, 108, 105, 118, 101]) = false := by decide
theorem eq_trim_life : (([116, 114, 105, 109] : List UInt8) == [108, 105, 102, 101]) = false := by decide
theorem eq_rate_scale : (([114, 97, 116, 101] : List UInt8) == [115, 99, 97, 108, 101]) = false := by decide
theorem eq_rate_pays : (([114, 97, 116, 101] : List UInt8) == [112, 97, 121, 115]) = false := by decide
theorem eq_rate_rates : (([114, 97, 116, 101] : List UInt8) == [114, 97, 116, 101, 115]) = false := by decide
theorem eq_rate_table : (([114, 97, 116, 101] : List UInt8) == [116, 97, 98, 108, 101]) = false := by decide
theorem eq_rate_mean : (([114, 97, 116, 101] : List UInt8) == [109, 101, 97, 110]) = false := by decide
theorem eq_rate_rate : (([114, 97, 116, 101] : List UInt8) == [114, 97, 116, 101]) = true := by decide
theorem eq_rate_mix : (([114, 97, 116, 101] : List UInt8) == [109, 105, 120]) = false := by decide
theorem eq_rate_hold : (([114, 97, 116, 101] : List UInt8) == [104, 111, 108, 100]) = false := by decide
theorem eq_rate_share : (([114, 97, 116, 101] : List UInt8) == [115, 104, 97, 114, 101]) = false := by decide
theorem eq_rate_best : (([114, 97, 116, 101] : List UInt8) == [98, 101, 115, 116]) = false := by decide
theorem eq_rate_span : (([114, 97, 116, 101] : List UInt8) == [115, 112, 97, 110]) = false := by decide
theorem eq_rate_fund : (([114, 97, 116, 101] : List UInt8) == [102, 117, 110, 100]) = false := by decide
theorem eq_rate_safe : (([114, 97, 116, 101] : List UInt8) == [115, 97, 102, 101]) = false := by decide
theorem eq_rate_annuity : (([114, 97, 116, 101] : List UInt8) == [97, 110, 110, 117, 105, 116, 121]) = false := by decide
theorem eq_hold_scale : (([104, 111, 108, 100] : List UInt8) == [115, 99, 97, 108, 101]) = false := by decide
theorem eq_hold_pays : (([104, 111, 108, 100] : List UInt8) == [112, 97, 121, 115]) = false := by decide
theorem eq_hold_rates : (([104, 111, 108, 100] : List UInt8) == [114, 97, 116, 101, 115]) = false := by decide
theorem eq_hold_table : (([104, 111, 108, 100] : List UInt8) == [116, 97, 98, 108, 101]) = false := by decide
theorem eq_hold_mean : (([104, 111, 108, 100] : List UInt8) == [109, 101, 97, 110]) = false := by decide
theorem eq_hold_rate : (([104, 111, 108, 100] : List UInt8) == [114, 97, 116, 101]) = false := by decide
theorem eq_hold_mix : (([104, 111, 108, 100] : List UInt8) == [109, 105, 120]) = false := by decide
theorem eq_hold_hold : (([104, 111, 108, 100] : List UInt8) == [104, 111, 108, 100]) = true := by decide
theorem eq_hold_share : (([104, 111, 108, 100] : List UInt8) == [115, 104, 97, 114, 101]) = false := by decide
theorem eq_hold_best : (([104, 111, 108, 100] : List UInt8) == [98, 101, 115, 116]) = false := by decide
theorem eq_hold_span : (([104, 111, 108, 100] : List UInt8) == [115, 112, 97, 110]) = false := by decide
theorem eq_hold_fund : (([104, 111, 108, 100] : List UInt8) == [102, 117, 110, 100]) = false := by decide
theorem eq_hold_safe : (([104, 111, 108, 100] : List UInt8) == [115, 97, 102, 101]) = false := by decide
theorem eq_hold_annuity : (([104, 111, 108, 100] : List UInt8) == [97, 110, 110, 117, 105, 116, 121]) = false := by decide
theorem eq_share_scale : (([115, 104, 97, 114, 101] : List UInt8) == [115, 99, 97, 108, 101]) = false := by decide
theorem eq_share_pays : (([115, 104, 97, 114, 101] : List UInt8) == [112, 97, 121, 115]) = false := by decide
theorem eq_share_rates : (([115, 104, 97, 114, 101] : List UInt8) == [114, 97, 116, 101, 115]) = false := by decide
theorem eq_share_table : (([115, 104, 97, 114, 101] : List UInt8) == [116, 97, 98, 108, 101]) = false := by decide
theorem eq_share_mean : (([115, 104, 97, 114, 101] : List UInt8) == [109, 101, 97, 110]) = false := by decide
theorem eq_share_rate : (([115, 104, 97, 114, 101] : List UInt8) == [114, 97, 116, 101]) = false := by decide
theorem eq_share_mix : (([115, 104, 97, 114, 101] : List UInt8) == [109, 105, 120]) = false := by decide
theorem eq_share_hold : (([115, 104, 97, 114, 101] : List UInt8) == [104, 111, 108, 100]) = false := by decide
theorem eq_share_share : (([115, 104, 97, 114, 101] : List UInt8) == [115, 104, 97, 114, 101]) = true := by decide
theorem eq_share_best : (([115, 104, 97, 114, 101] : List UInt8) == [98, 101, 115, 116]) = false := by decide
theorem eq_share_span : (([115, 104, 97, 114, 101] : List UInt8) == [115, 112, 97, 110]) = false := by decide
theorem eq_share_fund : (([115, 104, 97, 114, 101] : List UInt8) == [102, 117, 110, 100]) = false := by decide
theorem eq_share_safe : (([115, 104, 97, 114, 101] : List UInt8) == [115, 97, 102, 101]) = false := by decide
theorem eq_share_annuity : (([115, 104, 97, 114, 101] : List UInt8) == [97, 110, 110, 117, 105, 116, 121]) = false := by decide
theorem eq_safe_scale : (([115, 97, 102, 101] : List UInt8) == [115, 99, 97, 108, 101]) = false := by decide
theorem eq_safe_pays : (([115, 97, 102, 101] : List UInt8) == [112, 97, 121, 115]) = false := by decide
theorem eq_safe_rates : (([115, 97, 102, 101] : List UInt8) == [114, 97, 116, 101, 115]) = false := by decide
theorem eq_safe_table : (([115, 97, 102, 101] : List UInt8) == [116, 97, 98, 108, 101]) = false := by decide
theorem eq_safe_mean : (([115, 97, 102, 101] : List UInt8) == [109, 101, 97, 110]) = false := by decide
theorem eq_safe_rate : (([115, 97, 102, 101] : List UInt8) == [114, 97, 116, 101]) = false := by decide
theorem eq_safe_mix : (([115, 97, 102, 101] : List UInt8) == [109, 105, 120]) = false := by decide
theorem eq_safe_hold : (([115, 97, 102, 101] : List UInt8) == [104, 111, 108, 100]) = false := by decide
theorem eq_safe_share : (([115, 97, 102, 101] : List UInt8) == [115, 104, 97, 114, 101]) = false := by decide
theorem eq_safe_best : (([115, 97, 102, 101] : List UInt8) == [98, 101, 115, 116]) = false := by decide
theorem eq_safe_span : (([115, 97, 102, 101] : List UInt8) == [115, 112, 97, 110]) = false := by decide
theorem eq_safe_fund : (([115, 97, 102, 101] : List UInt8) == [102, 117, 110, 100]) = false := by decide
theorem eq_safe_safe : (([115, 97, 102, 101] : List UInt8) == [115, 97, 102, 101]) = true := by decide
theorem eq_safe_annuity : (([115, 97, 102, 101] : List UInt8) == [97, 110, 110, 117, 105, 116, 121]) = false := by decide
theorem eq_due_scale : (([100, 117, 101] : List UInt8) == [115, 99, 97, 108, 101]) = false := by decide
theorem eq_due_pays : (([100, 117, 101] : List UInt8) == [112, 97, 121, 115]) = false := by decide
theorem eq_due_rates : (([100, 117, 101] : List UInt8) == [114, 97, 116, 101, 115]) = false := by decide
theorem eq_due_table : (([100, 117, 101] : List UInt8) == [116, 97, 98, 108, 101]) = false := by decide
theorem eq_due_due : (([100, 117, 101] : List UInt8) == [100, 117, 101]) = true := by decide
theorem eq_due_net : (([100, 117, 101] : List UInt8) == [110, 101, 116]) = false := by decide
theorem eq_due_gross : (([100, 117, 101] : List UInt8) == [103, 114, 111, 115, 115]) = false := by decide
theorem eq_due_chain : (([100, 117, 101] : List UInt8) == [99, 104, 97, 105, 110]) = false := by decide
theorem eq_due_down : (([100, 117, 101] : List UInt8) == [100, 111, 119, 110]) = false := by decide
theorem eq_net_scale : (([110, 101, 116] : List UInt8) == [115, 99, 97, 108, 101]) = false := by decide
theorem eq_net_pays : (([110, 101, 116] : List UInt8) == [112, 97, 121, 115]) = false := by decide
theorem eq_net_rates : (([110, 101, 116] : List UInt8) == [114, 97, 116, 101, 115]) = false := by decide
theorem eq_net_table : (([110, 101, 116] : List UInt8) == [116, 97, 98, 108, 101]) = false := by decide
theorem eq_net_due : (([110, 101, 116] : List UInt8) == [100, 117, 101]) = false := by decide
theorem eq_net_net : (([110, 101, 116] : List UInt8) == [110, 101, 116]) = true := by decide
theorem eq_net_gross : (([110, 101, 116] : List UInt8) == [103, 114, 111, 115, 115]) = false := by decide
theorem eq_net_chain : (([110, 101, 116] : List UInt8) == [99, 104, 97, 105, 110]) = false := by decide
theorem eq_net_down : (([110, 101, 116] : List UInt8) == [100, 111, 119, 110]) = false := by decide
theorem ieq11 : ((((1 : Nat) : Int)) == 1) = true := by decide
theorem ine11 : ((((1 : Nat) : Int)) != 1) = false := by decide
theorem ieq12 : ((((1 : Nat) : Int)) == 2) = false := by decide
theorem ine12 : ((((1 : Nat) : Int)) != 2) = true := by decide
theorem ieq21 : ((((2 : Nat) : Int)) == 1) = false := by decide
theorem ine21 : ((((2 : Nat) : Int)) != 1) = true := by decide
theorem ieq22 : ((((2 : Nat) : Int)) == 2) = true := by decide
theorem ine22 : ((((2 : Nat) : Int)) != 2) = false := by decide
theorem ieq31 : ((((3 : Nat) : Int)) == 1) = false := by decide
theorem ine31 : ((((3 : Nat) : Int)) != 1) = true := by decide
theorem ieq32 : ((((3 : Nat) : Int)) == 2) = false := by decide
theorem ine32 : ((((3 : Nat) : Int)) != 2) = true := by decide
section
variable {bs rs ps ra : List Int} {q : List Nat}
theorem show_scale (D : Dok bs rs ps ra q) (bad : Bool) : CallA Tryz.prog 66 [.ptr 0 0 0, .ptr 1 0 0] [dskB bs rs ps ra q, lwB [[115, 99, 97, 108, 101]] bad] (Ret (.tup [.str (scT bs rs), .bool true, .bool true]) [dskB bs rs ps ra q, lwB [[115, 99, 97, 108, 101]] bad]) := by
  refine CallP.out (t := .mk) (go_in (md := md66) mixed Tryz.func66 rfl go66 (by kernel_rfl) ?_)
  simp only [q0, q1, q2, q3, q4, q5, q6, q7, q8, q9, zr0, zr1, zr2, zr3, zq0, zq1, zq2, zq3, zq4, Nat.reduceAdd, Nat.reduceSub, lenA, convA, indexA, flatP, nilI, ifaA, indexS, Int.reduceToNat, cond_true, cond_false, ↓reduceIte, reduceCtorEq, Nat.reduceLT, Nat.reduceLeDiff, Nat.reduceMul, Nat.reduceEqDiff, exists_eq', implies_true, exists_true_left, tys0, tys1, tys2, tys3, und0, und1, und2, und3, md66, Tryz.ntmps66, Tryz.results66, dskB, deskV, lwB, strs, List.map_cons, List.map_nil, Int.reduceLE, eq_scale_scale, eq_scale_pays, eq_scale_rates, eq_scale_table, ieq11, ine11, ieq12, ine12, List.length_cons, List.length_nil]
  refine call_ret (scaleText_ok D) rfl rfl ?_
  simp only [q0, q1, q2, q3, q4, q5, q6, q7, q8, q9, zr0, zr1, zr2, zr3, zq0, zq1, zq2, zq3, zq4, Nat.reduceAdd, Nat.reduceSub, lenA, convA, indexA, flatP, nilI, ifaA, indexS, Int.reduceToNat, cond_true, cond_false, ↓reduceIte, reduceCtorEq, Nat.reduceLT, Nat.reduceLeDiff, Nat.reduceMul, Nat.reduceEqDiff, exists_eq', implies_true, exists_true_left, tys0, tys1, tys2, tys3, und0, und1, und2, und3, md66, Tryz.ntmps66, Tryz.results66, dskB, deskV, lwB, strs, List.map_cons, List.map_nil, Int.reduceLE, eq_scale_scale, eq_scale_pays, eq_scale_rates, eq_scale_table, ieq11, ine11, ieq12, ine12, List.length_cons, List.length_nil]
  exact PostR.same ⟨rfl, rfl⟩
theorem show_pays (D : Dok bs rs ps ra q) (bad : Bool) : CallA Tryz.prog 66 [.ptr 0 0 0, .ptr 1 0 0] [dskB bs rs ps ra q, lwB [[112, 97, 121, 115]] bad] (Ret (.tup [.str (txt [44] ps), .bool true, .bool true]) [dskB bs rs ps ra q, lwB [[112, 97, 121, 115]] bad]) := by
  refine CallP.out (t := .mk) (go_in (md := md66) mixed Tryz.func66 rfl go66 (by kernel_rfl) ?_)
  simp only [q0, q1, q2, q3, q4, q5, q6, q7, q8, q9, zr0, zr1, zr2, zr3, zq0, zq1, zq2, zq3, zq4, Nat.reduceAdd, Nat.reduceSub, lenA, convA, indexA, flatP, nilI, ifaA, indexS, Int.reduceToNat, cond_true, cond_false, ↓reduceIte, reduceCtorEq, Nat.reduceLT, Nat.reduceLeDiff, Nat.reduceMul, Nat.reduceEqDiff, exists_eq', implies_true, exists_true_left, tys0, tys1, tys2, tys3, und0, und1, und2, und3, md66, Tryz.ntmps66, Tryz.results66, dskB, deskV, lwB, strs, List.map_cons, List.map_nil, Int.reduceLE, eq_pays_scale, eq_pays_pays, eq_pays_rates, eq_pays_table, ieq11, ine11, ieq12, ine12, List.length_cons, List.length_nil]
  refine call_ret (listText_call ps D.pys.one (by have := D.pys.six; omega) D.pm) rfl rfl ?_
  simp only [q0, q1, q2, q3, q4, q5, q6, q7, q8, q9, zr0, zr1, zr2, zr3, zq0, zq1, zq2, zq3, zq4, Nat.reduceAdd, Nat.reduceSub, lenA, convA, indexA, flatP, nilI, ifaA, indexS, Int.reduceToNat, cond_true, cond_false, ↓reduceIte, reduceCtorEq, Nat.reduceLT, Nat.reduceLeDiff, Nat.reduceMul, Nat.reduceEqDiff, exists_eq', implies_true, exists_true_left, tys0, tys1, tys2, tys3, und0, und1, und2, und3, md66, Tryz.ntmps66, Tryz.results66, dskB, deskV, lwB, strs, List.map_cons, List.map_nil, Int.reduceLE, eq_pays_scale, eq_pays_pays, eq_pays_rates, eq_pays_table, ieq11, ine11, ieq12, ine12, List.length_cons, List.length_nil]
  exact PostR.same ⟨rfl, rfl⟩
theorem show_rates (D : Dok bs rs ps ra q) (bad : Bool) : CallA Tryz.prog 66 [.ptr 0 0 0, .ptr 1 0 0] [dskB bs rs ps ra q, lwB [[114, 97, 116, 101, 115]] bad] (Ret (.tup [.str (txt [44] ra), .bool true, .bool true]) [dskB bs rs ps ra q, lwB [[114, 97, 116, 101, 115]] bad]) := by
  refine CallP.out (t := .mk) (go_in (md := md66) mixed Tryz.func66 rfl go66 (by kernel_rfl) ?_)
  simp only [q0, q1, q2, q3, q4, q5, q6, q7, q8, q9, zr0, zr1, zr2, zr3, zq0, zq1, zq2, zq3, zq4, Nat.reduceAdd, Nat.reduceSub, lenA, convA, indexA, flatP, nilI, ifaA, indexS, Int.reduceToNat, cond_true, cond_false, ↓reduceIte, reduceCtorEq, Nat.reduceLT, Nat.reduceLeDiff, Nat.reduceMul, Nat.reduceEqDiff, exists_eq', implies_true, exists_true_left, tys0, tys1, tys2, tys3, und0, und1, und2, und3, md66, Tryz.ntmps66, Tryz.results66, dskB, deskV, lwB, strs, List.map_cons, List.map_nil, Int.reduceLE, eq_rates_scale, eq_rates_pays, eq_rates_rates, eq_rates_table, ieq11, ine11, ieq12, ine12, List.length_cons, List.length_nil]
  refine call_ret (listText_call ra D.rts.one (by have := D.rts.six; omega) D.am) rfl rfl ?_
  simp only [q0, q1, q2, q3, q4, q5, q6, q7, q8, q9, zr0, zr1, zr2, zr3, zq0, zq1, zq2, zq3, zq4, Nat.reduceAdd, Nat.reduceSub, lenA, convA, indexA, flatP, nilI, ifaA, indexS, Int.reduceToNat, cond_true, cond_false, ↓reduceIte, reduceCtorEq, Nat.reduceLT, Nat.reduceLeDiff, Nat.reduceMul, Nat.reduceEqDiff, exists_eq', implies_true, exists_true_left, tys0, tys1, tys2, tys3, und0, und1, und2, und3, md66, Tryz.ntmps66, Tryz.results66, dskB, deskV, lwB, strs, List.map_cons, List.map_nil, Int.reduceLE, eq_rates_scale, eq_rates_pays, eq_rates_rates, eq_rates_table, ieq11, ine11, ieq12, ine12, List.length_cons, List.length_nil]
  exact PostR.same ⟨rfl, rfl⟩
theorem show_table (D : Dok bs rs ps ra q) (bad : Bool) : CallA Tryz.prog 66 [.ptr 0 0 0, .ptr 1 0 0] [dskB bs rs ps ra q, lwB [[116, 97, 98, 108, 101]] bad] (Ret (.tup [.str (wdsT (hexW q)), .bool true, .bool true]) [dskB bs rs ps ra q, lwB [[116, 97, 98, 108, 101]] bad]) := by
  refine CallP.out (t := .mk) (go_in (md := md66) mixed Tryz.func66 rfl go66 (by kernel_rfl) ?_)
  simp only [q0, q1, q2, q3, q4, q5, q6, q7, q8, q9, zr0, zr1, zr2, zr3, zq0, zq1, zq2, zq3, zq4, Nat.reduceAdd, Nat.reduceSub, lenA, convA, indexA, flatP, nilI, ifaA, indexS, Int.reduceToNat, cond_true, cond_false, ↓reduceIte, reduceCtorEq, Nat.reduceLT, Nat.reduceLeDiff, Nat.reduceMul, Nat.reduceEqDiff, exists_eq', implies_true, exists_true_left, tys0, tys1, tys2, tys3, und0, und1, und2, und3, md66, Tryz.ntmps66, Tryz.results66, dskB, deskV, lwB, strs, List.map_cons, List.map_nil, Int.reduceLE, eq_table_scale, eq_table_pays, eq_table_rates, eq_table_table, ieq11, ine11, ieq12, ine12, List.length_cons, List.length_nil]
  refine call_ret (numbersText_call q (by have := D.tab.six; omega) D.okw) rfl rfl ?_
  simp only [q0, q1, q2, q3, q4, q5, q6, q7, q8, q9, zr0, zr1, zr2, zr3, zq0, zq1, zq2, zq3, zq4, Nat.reduceAdd, Nat.reduceSub, lenA, convA, indexA, flatP, nilI, ifaA, indexS, Int.reduceToNat, cond_true, cond_false, ↓reduceIte, reduceCtorEq, Nat.reduceLT, Nat.reduceLeDiff, Nat.reduceMul, Nat.reduceEqDiff, exists_eq', implies_true, exists_true_left, tys0, tys1, tys2, tys3, und0, und1, und2, und3, md66, Tryz.ntmps66, Tryz.results66, dskB, deskV, lwB, strs, List.map_cons, List.map_nil, Int.reduceLE, eq_table_scale, eq_table_pays, eq_table_rates, eq_table_table, ieq11, ine11, ieq12, ine12, List.length_cons, List.length_nil]
  exact PostR.same ⟨rfl, rfl⟩
theorem set_scale (D : Dok bs rs ps ra q) {bs0 rs0 : List Int} (bad : Bool) : CallA Tryz.prog 66 [.ptr 0 0 0, .ptr 1 0 0] [dskB bs0 rs0 ps ra q, lwB [[115, 99, 97, 108, 101], scT bs rs] bad] (Ret (.tup [.str [111, 107], .bool true, .bool true]) [dskB bs rs ps ra q, lwB [[115, 99, 97, 108, 101], scT bs rs] bad]) := by
  obtain ⟨h1, h2, h3⟩ := D.b1
  have h4 := D.pys.six
  have h5 := D.rts.six
  have h6 := D.tab.six
  have vd := implValid_call bs rs ps ra q (by omega) (by omega) (by omega) (by omega) (by omega)
  rw [D.val] at vd
  refine CallP.out (t := .mk) (go_in (md := md66) mixed Tryz.func66 rfl go66 (by kernel_rfl) ?_)
  simp only [q0, q1, q2, q3, q4, q5, q6, q7, q8, q9, zr0, zr1, zr2, zr3, zq0, zq1, zq2, zq3, zq4, Nat.reduceAdd, Nat.reduceSub, lenA, convA, indexA, flatP, nilI, ifaA, indexS, Int.reduceToNat, cond_true, cond_false, ↓reduceIte, reduceCtorEq, Nat.reduceLT, Nat.reduceLeDiff, Nat.reduceMul, Nat.reduceEqDiff, exists_eq', implies_true, exists_true_left, tys0, tys1, tys2, tys3, und0, und1, und2, und3, md66, Tryz.ntmps66, Tryz.results66, dskB, deskV, lwB, strs, List.map_cons, List.map_nil, Int.reduceLE, eq_scale_scale, eq_scale_pays, eq_scale_rates, eq_scale_table, ieq21, ine21, ieq22, ine22, List.length_cons, List.length_nil]
  refine call_ret (readScale_ok D) rfl rfl ?_
  simp only [q0, q1, q2, q3, q4, q5, q6, q7, q8, q9, zr0, zr1, zr2, zr3, zq0, zq1, zq2, zq3, zq4, Nat.reduceAdd, Nat.reduceSub, lenA, convA, indexA, flatP, nilI, ifaA, indexS, Int.reduceToNat, cond_true, cond_false, ↓reduceIte, reduceCtorEq, Nat.reduceLT, Nat.reduceLeDiff, Nat.reduceMul, Nat.reduceEqDiff, exists_eq', implies_true, exists_true_left, tys0, tys1, tys2, tys3, und0, und1, und2, und3, md66, Tryz.ntmps66, Tryz.results66, dskB, deskV, lwB, strs, List.map_cons, List.map_nil, Int.reduceLE, eq_scale_scale, eq_scale_pays, eq_scale_rates, eq_scale_table, ieq21, ine21, ieq22, ine22, List.length_cons, List.length_nil]
  refine call_ret vd rfl rfl ?_
  simp only [q0, q1, q2, q3, q4, q5, q6, q7, q8, q9, zr0, zr1, zr2, zr3, zq0, zq1, zq2, zq3, zq4, Nat.reduceAdd, Nat.reduceSub, lenA, convA, indexA, flatP, nilI, ifaA, indexS, Int.reduceToNat, cond_true, cond_false, ↓reduceIte, reduceCtorEq, Nat.reduceLT, Nat.reduceLeDiff, Nat.reduceMul, Nat.reduceEqDiff, exists_eq', implies_true, exists_true_left, tys0, tys1, tys2, tys3, und0, und1, und2, und3, md66, Tryz.ntmps66, Tryz.results66, dskB, deskV, lwB, strs, List.map_cons, List.map_nil, Int.reduceLE, eq_scale_scale, eq_scale_pays, eq_scale_rates, eq_scale_table, ieq21, ine21, ieq22, ine22, List.length_cons, List.length_nil]
  exact PostR.same ⟨rfl, rfl⟩
theorem set_pays (D : Dok bs rs ps ra q) {ps0 : List Int} (bad : Bool) : CallA Tryz.prog 66 [.ptr 0 0 0, .ptr 1 0 0] [dskB bs rs ps0 ra q, lwB [[112, 97, 121, 115], txt [44] ps] bad] (Ret (.tup [.str [111, 107], .bool true, .bool true]) [dskB bs rs ps ra q, lwB [[112, 97, 121, 115], txt [44] ps] bad]) := by
  obtain ⟨h1, h2, h3⟩ := D.b1
  have h4 := D.pys.six
  have h5 := D.rts.six
  have h6 := D.tab.six
  have vd := implValid_call bs rs ps ra q (by omega) (by omega) (by omega) (by omega) (by omega)
  rw [D.val] at vd
  refine CallP.out (t := .mk) (go_in (md := md66) mixed Tryz.func66 rfl go66 (by kernel_rfl) ?_)
  simp only [q0, q1, q2, q3, q4, q5, q6, q7, q8, q9, zr0, zr1, zr2, zr3, zq0, zq1, zq2, zq3, zq4, Nat.reduceAdd, Nat.reduceSub, lenA, convA, indexA, flatP, nilI, ifaA, indexS, Int.reduceToNat, cond_true, cond_false, ↓reduceIte, reduceCtorEq, Nat.reduceLT, Nat.reduceLeDiff, Nat.reduceMul, Nat.reduceEqDiff, exists_eq', implies_true, exists_true_left, tys0, tys1, tys2, tys3, und0, und1, und2, und3, md66, Tryz.ntmps66, Tryz.results66, dskB, deskV, lwB, strs, List.map_cons, List.map_nil, Int.reduceLE, eq_pays_scale, eq_pays_pays, eq_pays_rates, eq_pays_table, ieq21, ine21, ieq22, ine22, List.length_cons, List.length_nil]
  refine call_ret (readList_ok D.pys.one (by have := D.pys.six; omega) D.pm) rfl rfl ?_
  simp only [q0, q1, q2, q3, q4, q5, q6, q7, q8, q9, zr0, zr1, zr2, zr3, zq0, zq1, zq2, zq3, zq4, Nat.reduceAdd, Nat.reduceSub, lenA, convA, indexA, flatP, nilI, ifaA, indexS, Int.reduceToNat, cond_true, cond_false, ↓reduceIte, reduceCtorEq, Nat.reduceLT, Nat.reduceLeDiff, Nat.reduceMul, Nat.reduceEqDiff, exists_eq', implies_true, exists_true_left, tys0, tys1, tys2, tys3, und0, und1, und2, und3, md66, Tryz.ntmps66, Tryz.results66, dskB, deskV, lwB, strs, List.map_cons, List.map_nil, Int.reduceLE, eq_pays_scale, eq_pays_pays, eq_pays_rates, eq_pays_table, ieq21, ine21, ieq22, ine22, List.length_cons, List.length_nil]
  refine call_ret vd rfl rfl ?_
  simp only [q0, q1, q2, q3, q4, q5, q6, q7, q8, q9, zr0, zr1, zr2, zr3, zq0, zq1, zq2, zq3, zq4, Nat.reduceAdd, Nat.reduceSub, lenA, convA, indexA, flatP, nilI, ifaA, indexS, Int.reduceToNat, cond_true, cond_false, ↓reduceIte, reduceCtorEq, Nat.reduceLT, Nat.reduceLeDiff, Nat.reduceMul, Nat.reduceEqDiff, exists_eq', implies_true, exists_true_left, tys0, tys1, tys2, tys3, und0, und1, und2, und3, md66, Tryz.ntmps66, Tryz.results66, dskB, deskV, lwB, strs, List.map_cons, List.map_nil, Int.reduceLE, eq_pays_scale, eq_pays_pays, eq_pays_rates, eq_pays_table, ieq21, ine21, ieq22, ine22, List.length_cons, List.length_nil]
  exact PostR.same ⟨rfl, rfl⟩
theorem set_rates (D : Dok bs rs ps ra q) {ra0 : List Int} (bad : Bool) : CallA Tryz.prog 66 [.ptr 0 0 0, .ptr 1 0 0] [dskB bs rs ps ra0 q, lwB [[114, 97, 116, 101, 115], txt [44] ra] bad] (Ret (.tup [.str [111, 107], .bool true, .bool true]) [dskB bs rs ps ra q, lwB [[114, 97, 116, 101, 115], txt [44] ra] bad]) := by
  obtain ⟨h1, h2, h3⟩ := D.b1
  have h4 := D.pys.six
  have h5 := D.rts.six
  have h6 := D.tab.six
  have vd := implValid_call bs rs ps ra q (by omega) (by omega) (by omega) (by omega) (by omega)
  rw [D.val] at vd
  refine CallP.out (t := .mk) (go_in (md := md66) mixed Tryz.func66 rfl go66 (by kernel_rfl) ?_)
  simp only [q0, q1, q2, q3, q4, q5, q6, q7, q8, q9, zr0, zr1, zr2, zr3, zq0, zq1, zq2, zq3, zq4, Nat.reduceAdd, Nat.reduceSub, lenA, convA, indexA, flatP, nilI, ifaA, indexS, Int.reduceToNat, cond_true, cond_false, ↓reduceIte, reduceCtorEq, Nat.reduceLT, Nat.reduceLeDiff, Nat.reduceMul, Nat.reduceEqDiff, exists_eq', implies_true, exists_true_left, tys0, tys1, tys2, tys3, und0, und1, und2, und3, md66, Tryz.ntmps66, Tryz.results66, dskB, deskV, lwB, strs, List.map_cons, List.map_nil, Int.reduceLE, eq_rates_scale, eq_rates_pays, eq_rates_rates, eq_rates_table, ieq21, ine21, ieq22, ine22, List.length_cons, List.length_nil]
  refine call_ret (readList_ok D.rts.one (by have := D.rts.six; omega) D.am) rfl rfl ?_
  simp only [q0, q1, q2, q3, q4, q5, q6, q7, q8, q9, zr0, zr1, zr2, zr3, zq0, zq1, zq2, zq3, zq4, Nat.reduceAdd, Nat.reduceSub, lenA, convA, indexA, flatP, nilI, ifaA, indexS, Int.reduceToNat, cond_true, cond_false, ↓reduceIte, reduceCtorEq, Nat.reduceLT, Nat.reduceLeDiff, Nat.reduceMul, Nat.reduceEqDiff, exists_eq', implies_true, exists_true_left, tys0, tys1, tys2, tys3, und0, und1, und2, und3, md66, Tryz.ntmps66, Tryz.results66, dskB, deskV, lwB, strs, List.map_cons, List.map_nil, Int.reduceLE, eq_rates_scale, eq_rates_pays, eq_rates_rates, eq_rates_table, ieq21, ine21, ieq22, ine22, List.length_cons, List.length_nil]
  refine call_ret vd rfl rfl ?_
  simp only [q0, q1, q2, q3, q4, q5, q6, q7, q8, q9, zr0, zr1, zr2, zr3, zq0, zq1, zq2, zq3, zq4, Nat.reduceAdd, Nat.reduceSub, lenA, convA, indexA, flatP, nilI, ifaA, indexS, Int.reduceToNat, cond_true, cond_false, ↓reduceIte, reduceCtorEq, Nat.reduceLT, Nat.reduceLeDiff, Nat.reduceMul, Nat.reduceEqDiff, exists_eq', implies_true, exists_true_left, tys0, tys1, tys2, tys3, und0, und1, und2, und3, md66, Tryz.ntmps66, Tryz.results66, dskB, deskV, lwB, strs, List.map_cons, List.map_nil, Int.reduceLE, eq_rates_scale, eq_rates_pays, eq_rates_rates, eq_rates_table, ieq21, ine21, ieq22, ine22, List.length_cons, List.length_nil]
  exact PostR.same ⟨rfl, rfl⟩
theorem set_table (D : Dok bs rs ps ra q) {qz : List Nat} (bad : Bool) : CallA Tryz.prog 66 [.ptr 0 0 0, .ptr 1 0 0] [dskB bs rs ps ra qz, lwB [[116, 97, 98, 108, 101], wdsT (hexW q)] bad] (Ret (.tup [.str [111, 107], .bool true, .bool true]) [dskB bs rs ps ra q, lwB [[116, 97, 98, 108, 101], wdsT (hexW q)] bad]) := by
  obtain ⟨h1, h2, h3⟩ := D.b1
  have h4 := D.pys.six
  have h5 := D.rts.six
  have h6 := D.tab.six
  have vd := implValid_call bs rs ps ra q (by omega) (by omega) (by omega) (by omega) (by omega)
  rw [D.val] at vd
  refine CallP.out (t := .mk) (go_in (md := md66) mixed Tryz.func66 rfl go66 (by kernel_rfl) ?_)
  simp only [q0, q1, q2, q3, q4, q5, q6, q7, q8, q9, zr0, zr1, zr2, zr3, zq0, zq1, zq2, zq3, zq4, Nat.reduceAdd, Nat.reduceSub, lenA, convA, indexA, flatP, nilI, ifaA, indexS, Int.reduceToNat, cond_true, cond_false, ↓reduceIte, reduceCtorEq, Nat.reduceLT, Nat.reduceLeDiff, Nat.reduceMul, Nat.reduceEqDiff, exists_eq', implies_true, exists_true_left, tys0, tys1, tys2, tys3, und0, und1, und2, und3, md66, Tryz.ntmps66, Tryz.results66, dskB, deskV, lwB, strs, List.map_cons, List.map_nil, Int.reduceLE, eq_table_scale, eq_table_pays, eq_table_rates, eq_table_table, ieq21, ine21, ieq22, ine22, List.length_cons, List.length_nil]
  refine call_ret (readNumbers_ok (by have := D.tab.six; omega) D.okw) rfl rfl ?_
  simp only [q0, q1, q2, q3, q4, q5, q6, q7, q8, q9, zr0, zr1, zr2, zr3, zq0, zq1, zq2, zq3, zq4, Nat.reduceAdd, Nat.reduceSub, lenA, convA, indexA, flatP, nilI, ifaA, indexS, Int.reduceToNat, cond_true, cond_false, ↓reduceIte, reduceCtorEq, Nat.reduceLT, Nat.reduceLeDiff, Nat.reduceMul, Nat.reduceEqDiff, exists_eq', implies_true, exists_true_left, tys0, tys1, tys2, tys3, und0, und1, und2, und3, md66, Tryz.ntmps66, Tryz.results66, dskB, deskV, lwB, strs, List.map_cons, List.map_nil, Int.reduceLE, eq_table_scale, eq_table_pays, eq_table_rates, eq_table_table, ieq21, ine21, ieq22, ine22, List.length_cons, List.length_nil]
  refine call_ret vd rfl rfl ?_
  simp only [q0, q1, q2, q3, q4, q5, q6, q7, q8, q9, zr0, zr1, zr2, zr3, zq0, zq1, zq2, zq3, zq4, Nat.reduceAdd, Nat.reduceSub, lenA, convA, indexA, flatP, nilI, ifaA, indexS, Int.reduceToNat, cond_true, cond_false, ↓reduceIte, reduceCtorEq, Nat.reduceLT, Nat.reduceLeDiff, Nat.reduceMul, Nat.reduceEqDiff, exists_eq', implies_true, exists_true_left, tys0, tys1, tys2, tys3, und0, und1, und2, und3, md66, Tryz.ntmps66, Tryz.results66, dskB, deskV, lwB, strs, List.map_cons, List.map_nil, Int.reduceLE, eq_table_scale, eq_table_pays, eq_table_rates, eq_table_table, ieq21, ine21, ieq22, ine22, List.length_cons, List.length_nil]
  exact PostR.same ⟨rfl, rfl⟩
theorem not_nets {bs rs ps ra : List Int} {q : List Nat} (bad : Bool) : CallA Tryz.prog 66 [.ptr 0 0 0, .ptr 1 0 0] [dskB bs rs ps ra q, lwB [[110, 101, 116, 115]] bad] (Ret (.tup [.str [], .bool false, .bool false]) [dskB bs rs ps ra q, lwB [[110, 101, 116, 115]] bad]) := by
  refine CallP.out (t := .mk) (go_in (md := md66) mixed Tryz.func66 rfl go66 (by kernel_rfl) ?_)
  simp only [q0, q1, q2, q3, q4, q5, q6, q7, q8, q9, zr0, zr1, zr2, zr3, zq0, zq1, zq2, zq3, zq4, Nat.reduceAdd, Nat.reduceSub, lenA, convA, indexA, flatP, nilI, ifaA, indexS, Int.reduceToNat, cond_true, cond_false, ↓reduceIte, reduceCtorEq, Nat.reduceLT, Nat.reduceLeDiff, Nat.reduceMul, Nat.reduceEqDiff, exists_eq', implies_true, exists_true_left, tys0, tys1, tys2, tys3, und0, und1, und2, und3, md66, Tryz.ntmps66, Tryz.results66, dskB, deskV, lwB, strs, List.map_cons, List.map_nil, Int.reduceLE, eq_nets_scale, eq_nets_pays, eq_nets_rates, eq_nets_table, ieq11, ine11, ieq12, ine12, List.length_cons, List.length_nil]
  exact PostR.same ⟨rfl, rfl⟩
theorem not_alive {bs rs ps ra : List Int} {q : List Nat} (bad : Bool) : CallA Tryz.prog 66 [.ptr 0 0 0, .ptr 1 0 0] [dskB bs rs ps ra q, lwB [[97, 108, 105, 118, 101]] bad] (Ret (.tup [.str [], .bool false, .bool false]) [dskB bs rs ps ra q, lwB [[97, 108, 105, 118, 101]] bad]) := by
  refine CallP.out (t := .mk) (go_in (md := md66) mixed Tryz.func66 rfl go66 (by kernel_rfl) ?_)
  simp only [q0, q1, q2, q3, q4, q5, q6, q7, q8, q9, zr0, zr1, zr2, zr3, zq0, zq1, zq2, zq3, zq4, Nat.reduceAdd, Nat.reduceSub, lenA, convA, indexA, flatP, nilI, ifaA, indexS, Int.reduceToNat, cond_true, cond_false, ↓reduceIte, reduceCtorEq, Nat.reduceLT, Nat.reduceLeDiff, Nat.reduceMul, Nat.reduceEqDiff, exists_eq', implies_true, exists_true_left, tys0, tys1, tys2, tys3, und0, und1, und2, und3, md66, Tryz.ntmps66, Tryz.results66, dskB, deskV, lwB, strs, List.map_cons, List.map_nil, Int.reduceLE, eq_alive_scale, eq_alive_pays, eq_alive_rates, eq_alive_table, ieq11, ine11, ieq12, ine12, List.length_cons, List.length_nil]
  exact PostR.same ⟨rfl, rfl⟩
theorem not_trim {bs rs ps ra : List Int} {q : List Nat} (bad : Bool) : CallA Tryz.prog 66 [.ptr 0 0 0, .ptr 1 0 0] [dskB bs rs ps ra q, lwB [[116, 114, 105, 109]] bad] (Ret (.tup [.str [], .bool false, .bool false]) [dskB bs rs ps ra q, lwB [[116, 114, 105, 109]] bad]) := by
  refine CallP.out (t := .mk) (go_in (md := md66) mixed Tryz.func66 rfl go66 (by kernel_rfl) ?_)
  simp only [q0, q1, q2, q3, q4, q5, q6, q7, q8, q9, zr0, zr1, zr2, zr3, zq0, zq1, zq2, zq3, zq4, Nat.reduceAdd, Nat.reduceSub, lenA, convA, indexA, flatP, nilI, ifaA, indexS, Int.reduceToNat, cond_true, cond_false, ↓reduceIte, reduceCtorEq, Nat.reduceLT, Nat.reduceLeDiff, Nat.reduceMul, Nat.reduceEqDiff, exists_eq', implies_true, exists_true_left, tys0, tys1, tys2, tys3, und0, und1, und2, und3, md66, Tryz.ntmps66, Tryz.results66, dskB, deskV, lwB, strs, List.map_cons, List.map_nil, Int.reduceLE, eq_trim_scale, eq_trim_pays, eq_trim_rates, eq_trim_table, ieq11, ine11, ieq12, ine12, List.length_cons, List.length_nil]
  exact PostR.same ⟨rfl, rfl⟩
theorem not_rate (x : List UInt8) {bs rs ps ra : List Int} {q : List Nat} (bad : Bool) : CallA Tryz.prog 66 [.ptr 0 0 0, .ptr 1 0 0] [dskB bs rs ps ra q, lwB [[114, 97, 116, 101], x] bad] (Ret (.tup [.str [], .bool false, .bool false]) [dskB bs rs ps ra q, lwB [[114, 97, 116, 101], x] bad]) := by
  refine CallP.out (t := .mk) (go_in (md := md66) mixed Tryz.func66 rfl go66 (by kernel_rfl) ?_)
  simp only [q0, q1, q2, q3, q4, q5, q6, q7, q8, q9, zr0, zr1, zr2, zr3, zq0, zq1, zq2, zq3, zq4, Nat.reduceAdd, Nat.reduceSub, lenA, convA, indexA, flatP, nilI, ifaA, indexS, Int.reduceToNat, cond_true, cond_false, ↓reduceIte, reduceCtorEq, Nat.reduceLT, Nat.reduceLeDiff, Nat.reduceMul, Nat.reduceEqDiff, exists_eq', implies_true, exists_true_left, tys0, tys1, tys2, tys3, und0, und1, und2, und3, md66, Tryz.ntmps66, Tryz.results66, dskB, deskV, lwB, strs, List.map_cons, List.map_nil, Int.reduceLE, eq_rate_scale, eq_rate_pays, eq_rate_rates, eq_rate_table, ieq21, ine21, ieq22, ine22, List.length_cons, List.length_nil]
  exact PostR.same ⟨rfl, rfl⟩
theorem not_hold (x : List UInt8) {bs rs ps ra : List Int} {q : List Nat} (bad : Bool) : CallA Tryz.prog 66 [.ptr 0 0 0, .ptr 1 0 0] [dskB bs rs ps ra q, lwB [[104, 111, 108, 100], x] bad] (Ret (.tup [.str [], .bool false, .bool false]) [dskB bs rs ps ra q, lwB [[104, 111, 108, 100], x] bad]) := by
  refine CallP.out (t := .mk) (go_in (md := md66) mixed Tryz.func66 rfl go66 (by kernel_rfl) ?_)
  simp only [q0, q1, q2, q3, q4, q5, q6, q7, q8, q9, zr0, zr1, zr2, zr3, zq0, zq1, zq2, zq3, zq4, Nat.reduceAdd, Nat.reduceSub, lenA, convA, indexA, flatP, nilI, ifaA, indexS, Int.reduceToNat, cond_true, cond_false, ↓reduceIte, reduceCtorEq, Nat.reduceLT, Nat.reduceLeDiff, Nat.reduceMul, Nat.reduceEqDiff, exists_eq', implies_true, exists_true_left, tys0, tys1, tys2, tys3, und0, und1, und2, und3, md66, Tryz.ntmps66, Tryz.results66, dskB, deskV, lwB, strs, List.map_cons, List.map_nil, Int.reduceLE, eq_hold_scale, eq_hold_pays, eq_hold_rates, eq_hold_table, ieq21, ine21, ieq22, ine22, List.length_cons, List.length_nil]
  exact PostR.same ⟨rfl, rfl⟩
theorem not_share (x : List UInt8) {bs rs ps ra : List Int} {q : List Nat} (bad : Bool) : CallA Tryz.prog 66 [.ptr 0 0 0, .ptr 1 0 0] [dskB bs rs ps ra q, lwB [[115, 104, 97, 114, 101], x] bad] (Ret (.tup [.str [], .bool false, .bool false]) [dskB bs rs ps ra q, lwB [[115, 104, 97, 114, 101], x] bad]) := by
  refine CallP.out (t := .mk) (go_in (md := md66) mixed Tryz.func66 rfl go66 (by kernel_rfl) ?_)
  simp only [q0, q1, q2, q3, q4, q5, q6, q7, q8, q9, zr0, zr1, zr2, zr3, zq0, zq1, zq2, zq3, zq4, Nat.reduceAdd, Nat.reduceSub, lenA, convA, indexA, flatP, nilI, ifaA, indexS, Int.reduceToNat, cond_true, cond_false, ↓reduceIte, reduceCtorEq, Nat.reduceLT, Nat.reduceLeDiff, Nat.reduceMul, Nat.reduceEqDiff, exists_eq', implies_true, exists_true_left, tys0, tys1, tys2, tys3, und0, und1, und2, und3, md66, Tryz.ntmps66, Tryz.results66, dskB, deskV, lwB, strs, List.map_cons, List.map_nil, Int.reduceLE, eq_share_scale, eq_share_pays, eq_share_rates, eq_share_table, ieq21, ine21, ieq22, ine22, List.length_cons, List.length_nil]
  exact PostR.same ⟨rfl, rfl⟩
theorem not_safe (x : List UInt8) {bs rs ps ra : List Int} {q : List Nat} (bad : Bool) : CallA Tryz.prog 66 [.ptr 0 0 0, .ptr 1 0 0] [dskB bs rs ps ra q, lwB [[115, 97, 102, 101], x] bad] (Ret (.tup [.str [], .bool false, .bool false]) [dskB bs rs ps ra q, lwB [[115, 97, 102, 101], x] bad]) := by
  refine CallP.out (t := .mk) (go_in (md := md66) mixed Tryz.func66 rfl go66 (by kernel_rfl) ?_)
  simp only [q0, q1, q2, q3, q4, q5, q6, q7, q8, q9, zr0, zr1, zr2, zr3, zq0, zq1, zq2, zq3, zq4, Nat.reduceAdd, Nat.reduceSub, lenA, convA, indexA, flatP, nilI, ifaA, indexS, Int.reduceToNat, cond_true, cond_false, ↓reduceIte, reduceCtorEq, Nat.reduceLT, Nat.reduceLeDiff, Nat.reduceMul, Nat.reduceEqDiff, exists_eq', implies_true, exists_true_left, tys0, tys1, tys2, tys3, und0, und1, und2, und3, md66, Tryz.ntmps66, Tryz.results66, dskB, deskV, lwB, strs, List.map_cons, List.map_nil, Int.reduceLE, eq_safe_scale, eq_safe_pays, eq_safe_rates, eq_safe_table, ieq21, ine21, ieq22, ine22, List.length_cons, List.length_nil]
  exact PostR.same ⟨rfl, rfl⟩
theorem not_due (x y : List UInt8) {bs rs ps ra : List Int} {q : List Nat} (bad : Bool) : CallA Tryz.prog 66 [.ptr 0 0 0, .ptr 1 0 0] [dskB bs rs ps ra q, lwB [[100, 117, 101], x, y] bad] (Ret (.tup [.str [], .bool false, .bool false]) [dskB bs rs ps ra q, lwB [[100, 117, 101], x, y] bad]) := by
  refine CallP.out (t := .mk) (go_in (md := md66) mixed Tryz.func66 rfl go66 (by kernel_rfl) ?_)
  simp only [q0, q1, q2, q3, q4, q5, q6, q7, q8, q9, zr0, zr1, zr2, zr3, zq0, zq1, zq2, zq3, zq4, Nat.reduceAdd, Nat.reduceSub, lenA, convA, indexA, flatP, nilI, ifaA, indexS, Int.reduceToNat, cond_true, cond_false, ↓reduceIte, reduceCtorEq, Nat.reduceLT, Nat.reduceLeDiff, Nat.reduceMul, Nat.reduceEqDiff, exists_eq', implies_true, exists_true_left, tys0, tys1, tys2, tys3, und0, und1, und2, und3, md66, Tryz.ntmps66, Tryz.results66, dskB, deskV, lwB, strs, List.map_cons, List.map_nil, Int.reduceLE, eq_due_scale, eq_due_pays, eq_due_rates, eq_due_table, ieq31, ine31, ieq32, ine32, List.length_cons, List.length_nil]
  exact PostR.same ⟨rfl, rfl⟩
theorem not_net (x y : List UInt8) {bs rs ps ra : List Int} {q : List Nat} (bad : Bool) : CallA Tryz.prog 66 [.ptr 0 0 0, .ptr 1 0 0] [dskB bs rs ps ra q, lwB [[110, 101, 116], x, y] bad] (Ret (.tup [.str [], .bool false, .bool false]) [dskB bs rs ps ra q, lwB [[110, 101, 116], x, y] bad]) := by
  refine CallP.out (t := .mk) (go_in (md := md66) mixed Tryz.func66 rfl go66 (by kernel_rfl) ?_)
  simp only [q0, q1, q2, q3, q4, q5, q6, q7, q8, q9, zr0, zr1, zr2, zr3, zq0, zq1, zq2, zq3, zq4, Nat.reduceAdd, Nat.reduceSub, lenA, convA, indexA, flatP, nilI, ifaA, indexS, Int.reduceToNat, cond_true, cond_false, ↓reduceIte, reduceCtorEq, Nat.reduceLT, Nat.reduceLeDiff, Nat.reduceMul, Nat.reduceEqDiff, exists_eq', implies_true, exists_true_left, tys0, tys1, tys2, tys3, und0, und1, und2, und3, md66, Tryz.ntmps66, Tryz.results66, dskB, deskV, lwB, strs, List.map_cons, List.map_nil, Int.reduceLE, eq_net_scale, eq_net_pays, eq_net_rates, eq_net_table, ieq31, ine31, ieq32, ine32, List.length_cons, List.length_nil]
  exact PostR.same ⟨rfl, rfl⟩
theorem no_nets {bs rs ps ra : List Int} {q : List Nat} (bad : Bool) : CallA Tryz.prog 67 [.ptr 0 0 0, .ptr 1 0 0] [dskB bs rs ps ra q, lwB [[110, 101, 116, 115]] bad] (Ret (.tup [.str [], .bool false, .bool false]) [dskB bs rs ps ra q, lwB [[110, 101, 116, 115]] bad]) := by
  refine CallP.out (t := .mk) (go_in (md := md67) mixed Tryz.func67 rfl go67 (by kernel_rfl) ?_)
  simp only [q0, q1, q2, q3, q4, q5, q6, q7, q8, q9, zr0, zr1, zr2, zr3, zq0, zq1, zq2, zq3, zq4, Nat.reduceAdd, Nat.reduceSub, lenA, convA, indexA, flatP, nilI, ifaA, indexS, Int.reduceToNat, cond_true, cond_false, ↓reduceIte, reduceCtorEq, Nat.reduceLT, Nat.reduceLeDiff, Nat.reduceMul, Nat.reduceEqDiff, exists_eq', implies_true, exists_true_left, tys0, tys1, tys2, tys3, und0, und1, und2, und3, md67, Tryz.ntmps67, Tryz.results67, dskB, deskV, lwB, strs, List.map_cons, List.map_nil, Int.reduceLE, eq_nets_trim, eq_nets_alive, eq_nets_life, ieq11, ine11, ieq12, ine12, List.length_cons, List.length_nil]
  exact PostR.same ⟨rfl, rfl⟩
theorem do_alive (D : Dok bs rs ps ra q) (bad : Bool) : CallA Tryz.prog 67 [.ptr 0 0 0, .ptr 1 0 0] [dskB bs rs ps ra q, lwB [[97, 108, 105, 118, 101]] bad] (Ret (.tup [.str (wdsT (hexW (alvL q))), .bool true, .bool true]) [dskB bs rs ps ra q, lwB [[97, 108, 105, 118, 101]] bad]) := by
  have h6 := D.tab.six
  refine CallP.out (t := .mk) (go_in (md := md67) mixed Tryz.func67 rfl go67 (by kernel_rfl) ?_)
  simp only [q0, q1, q2, q3, q4, q5, q6, q7, q8, q9, zr0, zr1, zr2, zr3, zq0, zq1, zq2, zq3, zq4, Nat.reduceAdd, Nat.reduceSub, lenA, convA, indexA, flatP, nilI, ifaA, indexS, Int.reduceToNat, cond_true, cond_false, ↓reduceIte, reduceCtorEq, Nat.reduceLT, Nat.reduceLeDiff, Nat.reduceMul, Nat.reduceEqDiff, exists_eq', implies_true, exists_true_left, tys0, tys1, tys2, tys3, und0, und1, und2, und3, md67, Tryz.ntmps67, Tryz.results67, dskB, deskV, lwB, strs, List.map_cons, List.map_nil, Int.reduceLE, eq_alive_trim, eq_alive_alive, eq_alive_life, ieq11, ine11, ieq12, ine12, List.length_cons, List.length_nil]
  refine call_ret (aliveShares_call D.tab) rfl rfl ?_
  simp only [q0, q1, q2, q3, q4, q5, q6, q7, q8, q9, zr0, zr1, zr2, zr3, zq0, zq1, zq2, zq3, zq4, Nat.reduceAdd, Nat.reduceSub, lenA, convA, indexA, flatP, nilI, ifaA, indexS, Int.reduceToNat, cond_true, cond_false, ↓reduceIte, reduceCtorEq, Nat.reduceLT, Nat.reduceLeDiff, Nat.reduceMul, Nat.reduceEqDiff, exists_eq', implies_true, exists_true_left, tys0, tys1, tys2, tys3, und0, und1, und2, und3, md67, Tryz.ntmps67, Tryz.results67, dskB, deskV, lwB, strs, List.map_cons, List.map_nil, Int.reduceLE, eq_alive_trim, eq_alive_alive, eq_alive_life, ieq11, ine11, ieq12, ine12, List.length_cons, List.length_nil]
  refine call_ret (toldNumbers_call (alvL q) (by rw [alvL_len]; omega) (alv_okw q)) rfl rfl ?_
  simp only [q0, q1, q2, q3, q4, q5, q6, q7, q8, q9, zr0, zr1, zr2, zr3, zq0, zq1, zq2, zq3, zq4, Nat.reduceAdd, Nat.reduceSub, lenA, convA, indexA, flatP, nilI, ifaA, indexS, Int.reduceToNat, cond_true, cond_false, ↓reduceIte, reduceCtorEq, Nat.reduceLT, Nat.reduceLeDiff, Nat.reduceMul, Nat.reduceEqDiff, exists_eq', implies_true, exists_true_left, tys0, tys1, tys2, tys3, und0, und1, und2, und3, md67, Tryz.ntmps67, Tryz.results67, dskB, deskV, lwB, strs, List.map_cons, List.map_nil, Int.reduceLE, eq_alive_trim, eq_alive_alive, eq_alive_life, ieq11, ine11, ieq12, ine12, List.length_cons, List.length_nil]
  exact PostR.same ⟨rfl, rfl⟩
theorem do_trim (D : Dok bs rs ps ra q) (bad : Bool) : CallA Tryz.prog 67 [.ptr 0 0 0, .ptr 1 0 0] [dskB bs rs ps ra q, lwB [[116, 114, 105, 109]] bad] (Ret (.tup [.str [111, 107], .bool true, .bool true]) [dskB (trB bs rs) (trR bs rs) ps ra q, lwB [[116, 114, 105, 109]] bad]) := by
  refine CallP.out (t := .mk) (go_in (md := md67) mixed Tryz.func67 rfl go67 (by kernel_rfl) ?_)
  simp only [q0, q1, q2, q3, q4, q5, q6, q7, q8, q9, zr0, zr1, zr2, zr3, zq0, zq1, zq2, zq3, zq4, Nat.reduceAdd, Nat.reduceSub, lenA, convA, indexA, flatP, nilI, ifaA, indexS, Int.reduceToNat, cond_true, cond_false, ↓reduceIte, reduceCtorEq, Nat.reduceLT, Nat.reduceLeDiff, Nat.reduceMul, Nat.reduceEqDiff, exists_eq', implies_true, exists_true_left, tys0, tys1, tys2, tys3, und0, und1, und2, und3, md67, Tryz.ntmps67, Tryz.results67, dskB, deskV, lwB, strs, List.map_cons, List.map_nil, Int.reduceLE, eq_trim_trim, eq_trim_alive, eq_trim_life, ieq11, ine11, ieq12, ine12, List.length_cons, List.length_nil]
  refine call_ret (trimF_call D.scl) rfl rfl ?_
  simp only [q0, q1, q2, q3, q4, q5, q6, q7, q8, q9, zr0, zr1, zr2, zr3, zq0, zq1, zq2, zq3, zq4, Nat.reduceAdd, Nat.reduceSub, lenA, convA, indexA, flatP, nilI, ifaA, indexS, Int.reduceToNat, cond_true, cond_false, ↓reduceIte, reduceCtorEq, Nat.reduceLT, Nat.reduceLeDiff, Nat.reduceMul, Nat.reduceEqDiff, exists_eq', implies_true, exists_true_left, tys0, tys1, tys2, tys3, und0, und1, und2, und3, md67, Tryz.ntmps67, Tryz.results67, dskB, deskV, lwB, strs, List.map_cons, List.map_nil, Int.reduceLE, eq_trim_trim, eq_trim_alive, eq_trim_life, ieq11, ine11, ieq12, ine12, List.length_cons, List.length_nil]
  exact PostR.same ⟨rfl, rfl⟩
theorem do_rate (D : Dok bs rs ps ra q) (n : Int) (h0 : 0 ≤ n) (h1 : n ≤ 10000) (bad : Bool) : CallA Tryz.prog 67 [.ptr 0 0 0, .ptr 1 0 0] [dskB bs rs ps ra q, lwB [[114, 97, 116, 101], Lib.itoa n] bad] (Ret (.tup [.str (Lib.itoa (rtG bs rs n)), .bool true, .bool true]) [dskB bs rs ps ra q, lwB [[114, 97, 116, 101], Lib.itoa n] bad]) := by
  have hn : okM n := ⟨by omega, by omega⟩
  obtain ⟨g1, g2, g3⟩ := D.b1
  refine CallP.out (t := .mk) (go_in (md := md67) mixed Tryz.func67 rfl go67 (by kernel_rfl) ?_)
  simp only [q0, q1, q2, q3, q4, q5, q6, q7, q8, q9, zr0, zr1, zr2, zr3, zq0, zq1, zq2, zq3, zq4, Nat.reduceAdd, Nat.reduceSub, lenA, convA, indexA, flatP, nilI, ifaA, indexS, Int.reduceToNat, cond_true, cond_false, ↓reduceIte, reduceCtorEq, Nat.reduceLT, Nat.reduceLeDiff, Nat.reduceMul, Nat.reduceEqDiff, exists_eq', implies_true, exists_true_left, tys0, tys1, tys2, tys3, und0, und1, und2, und3, md67, Tryz.ntmps67, Tryz.results67, dskB, deskV, lwB, strs, List.map_cons, List.map_nil, Int.reduceLE, eq_rate_mean, eq_rate_rate, eq_rate_mix, eq_rate_hold, eq_rate_share, eq_rate_best, eq_rate_span, eq_rate_fund, eq_rate_safe, eq_rate_annuity, ieq21, ine21, ieq22, ine22, List.length_cons, List.length_nil]
  refine callr_by (.int .i64 n) (number1_at (dskB bs rs ps ra q) _ _ [] n rfl hn bad) ?_
  simp only [q0, q1, q2, q3, q4, q5, q6, q7, q8, q9, zr0, zr1, zr2, zr3, zq0, zq1, zq2, zq3, zq4, Nat.reduceAdd, Nat.reduceSub, lenA, convA, indexA, flatP, nilI, ifaA, indexS, Int.reduceToNat, cond_true, cond_false, ↓reduceIte, reduceCtorEq, Nat.reduceLT, Nat.reduceLeDiff, Nat.reduceMul, Nat.reduceEqDiff, exists_eq', implies_true, exists_true_left, tys0, tys1, tys2, tys3, und0, und1, und2, und3, md67, Tryz.ntmps67, Tryz.results67, dskB, deskV, lwB, strs, List.map_cons, List.map_nil, Int.reduceLE, eq_rate_mean, eq_rate_rate, eq_rate_mix, eq_rate_hold, eq_rate_share, eq_rate_best, eq_rate_span, eq_rate_fund, eq_rate_safe, eq_rate_annuity, ieq21, ine21, ieq22, ine22, List.length_cons, List.length_nil]
  refine callr_ret (rateAt_call D.scl n h0 (by omega)) rfl rfl ?_
  simp only [q0, q1, q2, q3, q4, q5, q6, q7, q8, q9, zr0, zr1, zr2, zr3, zq0, zq1, zq2, zq3, zq4, Nat.reduceAdd, Nat.reduceSub, lenA, convA, indexA, flatP, nilI, ifaA, indexS, Int.reduceToNat, cond_true, cond_false, ↓reduceIte, reduceCtorEq, Nat.reduceLT, Nat.reduceLeDiff, Nat.reduceMul, Nat.reduceEqDiff, exists_eq', implies_true, exists_true_left, tys0, tys1, tys2, tys3, und0, und1, und2, und3, md67, Tryz.ntmps67, Tryz.results67, dskB, deskV, lwB, strs, List.map_cons, List.map_nil, Int.reduceLE, eq_rate_mean, eq_rate_rate, eq_rate_mix, eq_rate_hold, eq_rate_share, eq_rate_best, eq_rate_span, eq_rate_fund, eq_rate_safe, eq_rate_annuity, ieq21, ine21, ieq22, ine22, List.length_cons, List.length_nil]
  refine callr_ret (told_call (rtG bs rs n) true (by have := (D.scl.rt n).1; omega) (by have := (D.scl.rt n).2; omega)) rfl rfl ?_
  simp only [q0, q1, q2, q3, q4, q5, q6, q7, q8, q9, zr0, zr1, zr2, zr3, zq0, zq1, zq2, zq3, zq4, Nat.reduceAdd, Nat.reduceSub, lenA, convA, indexA, flatP, nilI, ifaA, indexS, Int.reduceToNat, cond_true, cond_false, ↓reduceIte, reduceCtorEq, Nat.reduceLT, Nat.reduceLeDiff, Nat.reduceMul, Nat.reduceEqDiff, exists_eq', implies_true, exists_true_left, tys0, tys1, tys2, tys3, und0, und1, und2, und3, md67, Tryz.ntmps67, Tryz.results67, dskB, deskV, lwB, strs, List.map_cons, List.map_nil, Int.reduceLE, eq_rate_mean, eq_rate_rate, eq_rate_mix, eq_rate_hold, eq_rate_share, eq_rate_best, eq_rate_span, eq_rate_fund, eq_rate_safe, eq_rate_annuity, ieq21, ine21, ieq22, ine22, List.length_cons, List.length_nil]
  exact PostR.same ⟨rfl, rfl⟩
theorem do_hold (D : Dok bs rs ps ra q) (n : Int) (h0 : 0 ≤ n) (h1 : n ≤ 3) (bad : Bool) : CallA Tryz.prog 67 [.ptr 0 0 0, .ptr 1 0 0] [dskB bs rs ps ra q, lwB [[104, 111, 108, 100], Lib.itoa n] bad] (Ret (.tup [.str (txt [44] (whL bs rs ps n)), .bool true, .bool true]) [dskB bs rs ps ra q, lwB [[104, 111, 108, 100], Lib.itoa n] bad]) := by
  have hn : okM n := ⟨by omega, by omega⟩
  obtain ⟨g1, g2, g3⟩ := D.b1
  refine CallP.out (t := .mk) (go_in (md := md67) mixed Tryz.func67 rfl go67 (by kernel_rfl) ?_)
  simp only [q0, q1, q2, q3, q4, q5, q6, q7, q8, q9, zr0, zr1, zr2, zr3, zq0, zq1, zq2, zq3, zq4, Nat.reduceAdd, Nat.reduceSub, lenA, convA, indexA, flatP, nilI, ifaA, indexS, Int.reduceToNat, cond_true, cond_false, ↓reduceIte, reduceCtorEq, Nat.reduceLT, Nat.reduceLeDiff, Nat.reduceMul, Nat.reduceEqDiff, exists_eq', implies_true, exists_true_left, tys0, tys1, tys2, tys3, und0, und1, und2, und3, md67, Tryz.ntmps67, Tryz.results67, dskB, deskV, lwB, strs, List.map_cons, List.map_nil, Int.reduceLE, eq_hold_mean, eq_hold_rate, eq_hold_mix, eq_hold_hold, eq_hold_share, eq_hold_best, eq_hold_span, eq_hold_fund, eq_hold_safe, eq_hold_annuity, ieq21, ine21, ieq22, ine22, List.length_cons, List.length_nil]
  refine callr_by (.int .i64 n) (number1_at (dskB bs rs ps ra q) _ _ [] n rfl hn bad) ?_
  simp only [q0, q1, q2, q3, q4, q5, q6, q7, q8, q9, zr0, zr1, zr2, zr3, zq0, zq1, zq2, zq3, zq4, Nat.reduceAdd, Nat.reduceSub, lenA, convA, indexA, flatP, nilI, ifaA, indexS, Int.reduceToNat, cond_true, cond_false, ↓reduceIte, reduceCtorEq, Nat.reduceLT, Nat.reduceLeDiff, Nat.reduceMul, Nat.reduceEqDiff, exists_eq', implies_true, exists_true_left, tys0, tys1, tys2, tys3, und0, und1, und2, und3, md67, Tryz.ntmps67, Tryz.results67, dskB, deskV, lwB, strs, List.map_cons, List.map_nil, Int.reduceLE, eq_hold_mean, eq_hold_rate, eq_hold_mix, eq_hold_hold, eq_hold_share, eq_hold_best, eq_hold_span, eq_hold_fund, eq_hold_safe, eq_hold_annuity, ieq21, ine21, ieq22, ine22, List.length_cons, List.length_nil]
  refine callr_ret (withhold_call D.scl D.pys n h0 h1) rfl rfl ?_
  simp only [q0, q1, q2, q3, q4, q5, q6, q7, q8, q9, zr0, zr1, zr2, zr3, zq0, zq1, zq2, zq3, zq4, Nat.reduceAdd, Nat.reduceSub, lenA, convA, indexA, flatP, nilI, ifaA, indexS, Int.reduceToNat, cond_true, cond_false, ↓reduceIte, reduceCtorEq, Nat.reduceLT, Nat.reduceLeDiff, Nat.reduceMul, Nat.reduceEqDiff, exists_eq', implies_true, exists_true_left, tys0, tys1, tys2, tys3, und0, und1, und2, und3, md67, Tryz.ntmps67, Tryz.results67, dskB, deskV, lwB, strs, List.map_cons, List.map_nil, Int.reduceLE, eq_hold_mean, eq_hold_rate, eq_hold_mix, eq_hold_hold, eq_hold_share, eq_hold_best, eq_hold_span, eq_hold_fund, eq_hold_safe, eq_hold_annuity, ieq21, ine21, ieq22, ine22, List.length_cons, List.length_nil]
  refine callr_ret (toldList_call (whL bs rs ps n) (by rw [whL_len]; exact D.pys.one) (by rw [whL_len]; have := D.pys.six; omega) (wh_ok D.scl D.pys h0 h1)) rfl rfl ?_
  simp only [q0, q1, q2, q3, q4, q5, q6, q7, q8, q9, zr0, zr1, zr2, zr3, zq0, zq1, zq2, zq3, zq4, Nat.reduceAdd, Nat.reduceSub, lenA, convA, indexA, flatP, nilI, ifaA, indexS, Int.reduceToNat, cond_true, cond_false, ↓reduceIte, reduceCtorEq, Nat.reduceLT, Nat.reduceLeDiff, Nat.reduceMul, Nat.reduceEqDiff, exists_eq', implies_true, exists_true_left, tys0, tys1, tys2, tys3, und0, und1, und2, und3, md67, Tryz.ntmps67, Tryz.results67, dskB, deskV, lwB, strs, List.map_cons, List.map_nil, Int.reduceLE, eq_hold_mean, eq_hold_rate, eq_hold_mix, eq_hold_hold, eq_hold_share, eq_hold_best, eq_hold_span, eq_hold_fund, eq_hold_safe, eq_hold_annuity, ieq21, ine21, ieq22, ine22, List.length_cons, List.length_nil]
  exact PostR.same ⟨rfl, rfl⟩
theorem do_share (D : Dok bs rs ps ra q) (n : Int) (h0 : 0 ≤ n) (h1 : n ≤ 10000) (bad : Bool) : CallA Tryz.prog 67 [.ptr 0 0 0, .ptr 1 0 0] [dskB bs rs ps ra q, lwB [[115, 104, 97, 114, 101], Lib.itoa n] bad] (Ret (.tup [.str (txt [44] (larL ps n)), .bool true, .bool true]) [dskB bs rs ps ra q, lwB [[115, 104, 97, 114, 101], Lib.itoa n] bad]) := by
  have hn : okM n := ⟨by omega, by omega⟩
  obtain ⟨g1, g2, g3⟩ := D.b1
  refine CallP.out (t := .mk) (go_in (md := md67) mixed Tryz.func67 rfl go67 (by kernel_rfl) ?_)
  simp only [q0, q1, q2, q3, q4, q5, q6, q7, q8, q9, zr0, zr1, zr2, zr3, zq0, zq1, zq2, zq3, zq4, Nat.reduceAdd, Nat.reduceSub, lenA, convA, indexA, flatP, nilI, ifaA, indexS, Int.reduceToNat, cond_true, cond_false, ↓reduceIte, reduceCtorEq, Nat.reduceLT, Nat.reduceLeDiff, Nat.reduceMul, Nat.reduceEqDiff, exists_eq', implies_true, exists_true_left, tys0, tys1, tys2, tys3, und0, und1, und2, und3, md67, Tryz.ntmps67, Tryz.results67, dskB, deskV, lwB, strs, List.map_cons, List.map_nil, Int.reduceLE, eq_share_mean, eq_share_rate, eq_share_mix, eq_share_hold, eq_share_share, eq_share_best, eq_share_span, eq_share_fund, eq_share_safe, eq_share_annuity, ieq21, ine21, ieq22, ine22, List.length_cons, List.length_nil]
  refine callr_by (.int .i64 n) (number1_at (dskB bs rs ps ra q) _ _ [] n rfl hn bad) ?_
  simp only [q0, q1, q2, q3, q4, q5, q6, q7, q8, q9, zr0, zr1, zr2, zr3, zq0, zq1, zq2, zq3, zq4, Nat.reduceAdd, Nat.reduceSub, lenA, convA, indexA, flatP, nilI, ifaA, indexS, Int.reduceToNat, cond_true, cond_false, ↓reduceIte, reduceCtorEq, Nat.reduceLT, Nat.reduceLeDiff, Nat.reduceMul, Nat.reduceEqDiff, exists_eq', implies_true, exists_true_left, tys0, tys1, tys2, tys3, und0, und1, und2, und3, md67, Tryz.ntmps67, Tryz.results67, dskB, deskV, lwB, strs, List.map_cons, List.map_nil, Int.reduceLE, eq_share_mean, eq_share_rate, eq_share_mix, eq_share_hold, eq_share_share, eq_share_best, eq_share_span, eq_share_fund, eq_share_safe, eq_share_annuity, ieq21, ine21, ieq22, ine22, List.length_cons, List.length_nil]
  refine callr_ret (largest_call D.pys h0 h1) rfl rfl ?_
  simp only [q0, q1, q2, q3, q4, q5, q6, q7, q8, q9, zr0, zr1, zr2, zr3, zq0, zq1, zq2, zq3, zq4, Nat.reduceAdd, Nat.reduceSub, lenA, convA, indexA, flatP, nilI, ifaA, indexS, Int.reduceToNat, cond_true, cond_false, ↓reduceIte, reduceCtorEq, Nat.reduceLT, Nat.reduceLeDiff, Nat.reduceMul, Nat.reduceEqDiff, exists_eq', implies_true, exists_true_left, tys0, tys1, tys2, tys3, und0, und1, und2, und3, md67, Tryz.ntmps67, Tryz.results67, dskB, deskV, lwB, strs, List.map_cons, List.map_nil, Int.reduceLE, eq_share_mean, eq_share_rate, eq_share_mix, eq_share_hold, eq_share_share, eq_share_best, eq_share_span, eq_share_fund, eq_share_safe, eq_share_annuity, ieq21, ine21, ieq22, ine22, List.length_cons, List.length_nil]
  refine callr_ret (toldList_call (larL ps n) (by rw [larL_len]; exact D.pys.one) (by rw [larL_len]; have := D.pys.six; omega) (lar_bound D.pys h0 h1)) rfl rfl ?_
  simp only [q0, q1, q2, q3, q4, q5, q6, q7, q8, q9, zr0, zr1, zr2, zr3, zq0, zq1, zq2, zq3, zq4, Nat.reduceAdd, Nat.reduceSub, lenA, convA, indexA, flatP, nilI, ifaA, indexS, Int.reduceToNat, cond_true, cond_false, ↓reduceIte, reduceCtorEq, Nat.reduceLT, Nat.reduceLeDiff, Nat.reduceMul, Nat.reduceEqDiff, exists_eq', implies_true, exists_true_left, tys0, tys1, tys2, tys3, und0, und1, und2, und3, md67, Tryz.ntmps67, Tryz.results67, dskB, deskV, lwB, strs, List.map_cons, List.map_nil, Int.reduceLE, eq_share_mean, eq_share_rate, eq_share_mix, eq_share_hold, eq_share_share, eq_share_best, eq_share_span, eq_share_fund, eq_share_safe, eq_share_annuity, ieq21, ine21, ieq22, ine22, List.length_cons, List.length_nil]
  exact PostR.same ⟨rfl, rfl⟩
theorem do_safe (D : Dok bs rs ps ra q) (n : Int) (h0 : 0 ≤ n) (h1 : n ≤ 10000) (bad : Bool) : CallA Tryz.prog 67 [.ptr 0 0 0, .ptr 1 0 0] [dskB bs rs ps ra q, lwB [[115, 97, 102, 101], Lib.itoa n] bad] (Ret (.tup [.str (Lib.itoa (safV ra n)), .bool true, .bool true]) [dskB bs rs ps ra q, lwB [[115, 97, 102, 101], Lib.itoa n] bad]) := by
  have hn : okM n := ⟨by omega, by omega⟩
  obtain ⟨g1, g2, g3⟩ := D.b1
  refine CallP.out (t := .mk) (go_in (md := md67) mixed Tryz.func67 rfl go67 (by kernel_rfl) ?_)
  simp only [q0, q1, q2, q3, q4, q5, q6, q7, q8, q9, zr0, zr1, zr2, zr3, zq0, zq1, zq2, zq3, zq4, Nat.reduceAdd, Nat.reduceSub, lenA, convA, indexA, flatP, nilI, ifaA, indexS, Int.reduceToNat, cond_true, cond_false, ↓reduceIte, reduceCtorEq, Nat.reduceLT, Nat.reduceLeDiff, Nat.reduceMul, Nat.reduceEqDiff, exists_eq', implies_true, exists_true_left, tys0, tys1, tys2, tys3, und0, und1, und2, und3, md67, Tryz.ntmps67, Tryz.results67, dskB, deskV, lwB, strs, List.map_cons, List.map_nil, Int.reduceLE, eq_safe_mean, eq_safe_rate, eq_safe_mix, eq_safe_hold, eq_safe_share, eq_safe_best, eq_safe_span, eq_safe_fund, eq_safe_safe, eq_safe_annuity, ieq21, ine21, ieq22, ine22, List.length_cons, List.length_nil]
  refine callr_by (.int .i64 n) (number1_at (dskB bs rs ps ra q) _ _ [] n rfl hn bad) ?_
  simp only [q0, q1, q2, q3, q4, q5, q6, q7, q8, q9, zr0, zr1, zr2, zr3, zq0, zq1, zq2, zq3, zq4, Nat.reduceAdd, Nat.reduceSub, lenA, convA, indexA, flatP, nilI, ifaA, indexS, Int.reduceToNat, cond_true, cond_false, ↓reduceIte, reduceCtorEq, Nat.reduceLT, Nat.reduceLeDiff, Nat.reduceMul, Nat.reduceEqDiff, exists_eq', implies_true, exists_true_left, tys0, tys1, tys2, tys3, und0, und1, und2, und3, md67, Tryz.ntmps67, Tryz.results67, dskB, deskV, lwB, strs, List.map_cons, List.map_nil, Int.reduceLE, eq_safe_mean, eq_safe_rate, eq_safe_mix, eq_safe_hold, eq_safe_share, eq_safe_best, eq_safe_span, eq_safe_fund, eq_safe_safe, eq_safe_annuity, ieq21, ine21, ieq22, ine22, List.length_cons, List.length_nil]
  refine callr_ret (safeDraw_call D.rts n h0 (by omega)) rfl rfl ?_
  simp only [q0, q1, q2, q3, q4, q5, q6, q7, q8, q9, zr0, zr1, zr2, zr3, zq0, zq1, zq2, zq3, zq4, Nat.reduceAdd, Nat.reduceSub, lenA, convA, indexA, flatP, nilI, ifaA, indexS, Int.reduceToNat, cond_true, cond_false, ↓reduceIte, reduceCtorEq, Nat.reduceLT, Nat.reduceLeDiff, Nat.reduceMul, Nat.reduceEqDiff, exists_eq', implies_true, exists_true_left, tys0, tys1, tys2, tys3, und0, und1, und2, und3, md67, Tryz.ntmps67, Tryz.results67, dskB, deskV, lwB, strs, List.map_cons, List.map_nil, Int.reduceLE, eq_safe_mean, eq_safe_rate, eq_safe_mix, eq_safe_hold, eq_safe_share, eq_safe_best, eq_safe_span, eq_safe_fund, eq_safe_safe, eq_safe_annuity, ieq21, ine21, ieq22, ine22, List.length_cons, List.length_nil]
  refine callr_ret (told_call (safV ra n) true (by have := (safe_call D.rts n h0 (by omega)).1.1; omega) (by have := (safe_call D.rts n h0 (by omega)).1.2; omega)) rfl rfl ?_
  simp only [q0, q1, q2, q3, q4, q5, q6, q7, q8, q9, zr0, zr1, zr2, zr3, zq0, zq1, zq2, zq3, zq4, Nat.reduceAdd, Nat.reduceSub, lenA, convA, indexA, flatP, nilI, ifaA, indexS, Int.reduceToNat, cond_true, cond_false, ↓reduceIte, reduceCtorEq, Nat.reduceLT, Nat.reduceLeDiff, Nat.reduceMul, Nat.reduceEqDiff, exists_eq', implies_true, exists_true_left, tys0, tys1, tys2, tys3, und0, und1, und2, und3, md67, Tryz.ntmps67, Tryz.results67, dskB, deskV, lwB, strs, List.map_cons, List.map_nil, Int.reduceLE, eq_safe_mean, eq_safe_rate, eq_safe_mix, eq_safe_hold, eq_safe_share, eq_safe_best, eq_safe_span, eq_safe_fund, eq_safe_safe, eq_safe_annuity, ieq21, ine21, ieq22, ine22, List.length_cons, List.length_nil]
  exact PostR.same ⟨rfl, rfl⟩
theorem do_due (D : Dok bs rs ps ra q) (n k : Int) (h0 : 0 ≤ n) (h1 : n ≤ 10000) (k0 : 0 ≤ k) (k3 : k ≤ 3) (bad : Bool) : CallA Tryz.prog 68 [.ptr 0 0 0, .ptr 1 0 0] [dskB bs rs ps ra q, lwB [[100, 117, 101], Lib.itoa n, Lib.itoa k] bad] (Ret (.tup [.str (Lib.itoa (dueF bs rs n k)), .bool true, .bool true]) [dskB bs rs ps ra q, lwB [[100, 117, 101], Lib.itoa n, Lib.itoa k] bad]) := by
  have hn : okM n := ⟨by omega, by omega⟩
  have hk : okM k := ⟨by omega, by omega⟩
  have db := D.scl.due (c := n) (w := k) h0 k0 k3
  have nb : netF bs rs n k = n - dueF bs rs n k := rfl
  refine CallP.out (t := .mk) (go_in (md := md68) mixed Tryz.func68 rfl go68 (by kernel_rfl) ?_)
  simp only [q0, q1, q2, q3, q4, q5, q6, q7, q8, q9, zr0, zr1, zr2, zr3, zq0, zq1, zq2, zq3, zq4, Nat.reduceAdd, Nat.reduceSub, lenA, convA, indexA, flatP, nilI, ifaA, indexS, Int.reduceToNat, cond_true, cond_false, ↓reduceIte, reduceCtorEq, Nat.reduceLT, Nat.reduceLeDiff, Nat.reduceMul, Nat.reduceEqDiff, exists_eq', implies_true, exists_true_left, tys0, tys1, tys2, tys3, und0, und1, und2, und3, md68, Tryz.ntmps68, Tryz.results68, dskB, deskV, lwB, strs, List.map_cons, List.map_nil, Int.reduceLE, eq_due_due, eq_due_net, eq_due_gross, eq_due_chain, eq_due_down, ieq31, ine31, ieq32, ine32, List.length_cons, List.length_nil]
  refine call_handed [1] (number1_call _ _ [Lib.itoa k] n rfl hn bad) (by decide) ⟨⟨rfl, rfl⟩, trivial⟩ rfl rfl rfl rfl (by intro q hq; simp at hq; subst hq; rfl) ?_
  simp only [q0, q1, q2, q3, q4, q5, q6, q7, q8, q9, zr0, zr1, zr2, zr3, zq0, zq1, zq2, zq3, zq4, Nat.reduceAdd, Nat.reduceSub, lenA, convA, indexA, flatP, nilI, ifaA, indexS, Int.reduceToNat, cond_true, cond_false, ↓reduceIte, reduceCtorEq, Nat.reduceLT, Nat.reduceLeDiff, Nat.reduceMul, Nat.reduceEqDiff, exists_eq', implies_true, exists_true_left, tys0, tys1, tys2, tys3, und0, und1, und2, und3, md68, Tryz.ntmps68, Tryz.results68, dskB, deskV, lwB, strs, List.map_cons, List.map_nil, Int.reduceLE, eq_due_due, eq_due_net, eq_due_gross, eq_due_chain, eq_due_down, ieq31, ine31, ieq32, ine32, List.length_cons, List.length_nil, ren, renM, renL, putF]
  refine call_handed [1] (number2_call _ _ _ [] k rfl hk bad) (by decide) ⟨⟨rfl, rfl⟩, trivial⟩ rfl rfl rfl rfl (by intro q hq; simp at hq; subst hq; rfl) ?_
  simp only [q0, q1, q2, q3, q4, q5, q6, q7, q8, q9, zr0, zr1, zr2, zr3, zq0, zq1, zq2, zq3, zq4, Nat.reduceAdd, Nat.reduceSub, lenA, convA, indexA, flatP, nilI, ifaA, indexS, Int.reduceToNat, cond_true, cond_false, ↓reduceIte, reduceCtorEq, Nat.reduceLT, Nat.reduceLeDiff, Nat.reduceMul, Nat.reduceEqDiff, exists_eq', implies_true, exists_true_left, tys0, tys1, tys2, tys3, und0, und1, und2, und3, md68, Tryz.ntmps68, Tryz.results68, dskB, deskV, lwB, strs, List.map_cons, List.map_nil, Int.reduceLE, eq_due_due, eq_due_net, eq_due_gross, eq_due_chain, eq_due_down, ieq31, ine31, ieq32, ine32, List.length_cons, List.length_nil, ren, renM, renL, putF]
  refine call_ret (dueOf_call D.scl n k h0 (by omega) k0 k3) rfl rfl ?_
  simp only [q0, q1, q2, q3, q4, q5, q6, q7, q8, q9, zr0, zr1, zr2, zr3, zq0, zq1, zq2, zq3, zq4, Nat.reduceAdd, Nat.reduceSub, lenA, convA, indexA, flatP, nilI, ifaA, indexS, Int.reduceToNat, cond_true, cond_false, ↓reduceIte, reduceCtorEq, Nat.reduceLT, Nat.reduceLeDiff, Nat.reduceMul, Nat.reduceEqDiff, exists_eq', implies_true, exists_true_left, tys0, tys1, tys2, tys3, und0, und1, und2, und3, md68, Tryz.ntmps68, Tryz.results68, dskB, deskV, lwB, strs, List.map_cons, List.map_nil, Int.reduceLE, eq_due_due, eq_due_net, eq_due_gross, eq_due_chain, eq_due_down, ieq31, ine31, ieq32, ine32, List.length_cons, List.length_nil]
  refine call_ret (told_call (dueF bs rs n k) true (by omega) (by omega)) rfl rfl ?_
  simp only [q0, q1, q2, q3, q4, q5, q6, q7, q8, q9, zr0, zr1, zr2, zr3, zq0, zq1, zq2, zq3, zq4, Nat.reduceAdd, Nat.reduceSub, lenA, convA, indexA, flatP, nilI, ifaA, indexS, Int.reduceToNat, cond_true, cond_false, ↓reduceIte, reduceCtorEq, Nat.reduceLT, Nat.reduceLeDiff, Nat.reduceMul, Nat.reduceEqDiff, exists_eq', implies_true, exists_true_left, tys0, tys1, tys2, tys3, und0, und1, und2, und3, md68, Tryz.ntmps68, Tryz.results68, dskB, deskV, lwB, strs, List.map_cons, List.map_nil, Int.reduceLE, eq_due_due, eq_due_net, eq_due_gross, eq_due_chain, eq_due_down, ieq31, ine31, ieq32, ine32, List.length_cons, List.length_nil]
  exact PostR.same ⟨rfl, rfl⟩
theorem do_net (D : Dok bs rs ps ra q) (n k : Int) (h0 : 0 ≤ n) (h1 : n ≤ 10000) (k0 : 0 ≤ k) (k3 : k ≤ 3) (bad : Bool) : CallA Tryz.prog 68 [.ptr 0 0 0, .ptr 1 0 0] [dskB bs rs ps ra q, lwB [[110, 101, 116], Lib.itoa n, Lib.itoa k] bad] (Ret (.tup [.str (Lib.itoa (netF bs rs n k)), .bool true, .bool true]) [dskB bs rs ps ra q, lwB [[110, 101, 116], Lib.itoa n, Lib.itoa k] bad]) := by
  have hn : okM n := ⟨by omega, by omega⟩
  have hk : okM k := ⟨by omega, by omega⟩
  have db := D.scl.due (c := n) (w := k) h0 k0 k3
  have nb : netF bs rs n k = n - dueF bs rs n k := rfl
  refine CallP.out (t := .mk) (go_in (md := md68) mixed Tryz.func68 rfl go68 (by kernel_rfl) ?_)
  simp only [q0, q1, q2, q3, q4, q5, q6, q7, q8, q9, zr0, zr1, zr2, zr3, zq0, zq1, zq2, zq3, zq4, Nat.reduceAdd, Nat.reduceSub, lenA, convA, indexA, flatP, nilI, ifaA, indexS, Int.reduceToNat, cond_true, cond_false, ↓reduceIte, reduceCtorEq, Nat.reduceLT, Nat.reduceLeDiff, Nat.reduceMul, Nat.reduceEqDiff, exists_eq', implies_true, exists_true_left, tys0, tys1, tys2, tys3, und0, und1, und2, und3, md68, Tryz.ntmps68, Tryz.results68, dskB, deskV, lwB, strs, List.map_cons, List.map_nil, Int.reduceLE, eq_net_due, eq_net_net, eq_net_gross, eq_net_chain, eq_net_down, ieq31, ine31, ieq32, ine32, List.length_cons, List.length_nil]
  refine call_handed [1] (number1_call _ _ [Lib.itoa k] n rfl hn bad) (by decide) ⟨⟨rfl, rfl⟩, trivial⟩ rfl rfl rfl rfl (by intro q hq; simp at hq; subst hq; rfl) ?_
  simp only [q0, q1, q2, q3, q4, q5, q6, q7, q8, q9, zr0, zr1, zr2, zr3, zq0, zq1, zq2, zq3, zq4, Nat.reduceAdd, Nat.reduceSub, lenA, convA, indexA, flatP, nilI, ifaA, indexS, Int.reduceToNat, cond_true, cond_false, ↓reduceIte, reduceCtorEq, Nat.reduceLT, Nat.reduceLeDiff, Nat.reduceMul, Nat.reduceEqDiff, exists_eq', implies_true, exists_true_left, tys0, tys1, tys2, tys3, und0, und1, und2, und3, md68, Tryz.ntmps68, Tryz.results68, dskB, deskV, lwB, strs, List.map_cons, List.map_nil, Int.reduceLE, eq_net_due, eq_net_net, eq_net_gross, eq_net_chain, eq_net_down, ieq31, ine31, ieq32, ine32, List.length_cons, List.length_nil, ren, renM, renL, putF]
  refine call_handed [1] (number2_call _ _ _ [] k rfl hk bad) (by decide) ⟨⟨rfl, rfl⟩, trivial⟩ rfl rfl rfl rfl (by intro q hq; simp at hq; subst hq; rfl) ?_
  simp only [q0, q1, q2, q3, q4, q5, q6, q7, q8, q9, zr0, zr1, zr2, zr3, zq0, zq1, zq2, zq3, zq4, Nat.reduceAdd, Nat.reduceSub, lenA, convA, indexA, flatP, nilI, ifaA, indexS, Int.reduceToNat, cond_true, cond_false, ↓reduceIte, reduceCtorEq, Nat.reduceLT, Nat.reduceLeDiff, Nat.reduceMul, Nat.reduceEqDiff, exists_eq', implies_true, exists_true_left, tys0, tys1, tys2, tys3, und0, und1, und2, und3, md68, Tryz.ntmps68, Tryz.results68, dskB, deskV, lwB, strs, List.map_cons, List.map_nil, Int.reduceLE, eq_net_due, eq_net_net, eq_net_gross, eq_net_chain, eq_net_down, ieq31, ine31, ieq32, ine32, List.length_cons, List.length_nil, ren, renM, renL, putF]
  refine call_ret (netOf_call D.scl n k h0 (by omega) k0 k3) rfl rfl ?_
  simp only [q0, q1, q2, q3, q4, q5, q6, q7, q8, q9, zr0, zr1, zr2, zr3, zq0, zq1, zq2, zq3, zq4, Nat.reduceAdd, Nat.reduceSub, lenA, convA, indexA, flatP, nilI, ifaA, indexS, Int.reduceToNat, cond_true, cond_false, ↓reduceIte, reduceCtorEq, Nat.reduceLT, Nat.reduceLeDiff, Nat.reduceMul, Nat.reduceEqDiff, exists_eq', implies_true, exists_true_left, tys0, tys1, tys2, tys3, und0, und1, und2, und3, md68, Tryz.ntmps68, Tryz.results68, dskB, deskV, lwB, strs, List.map_cons, List.map_nil, Int.reduceLE, eq_net_due, eq_net_net, eq_net_gross, eq_net_chain, eq_net_down, ieq31, ine31, ieq32, ine32, List.length_cons, List.length_nil]
  refine call_ret (told_call (netF bs rs n k) true (by omega) (by omega)) rfl rfl ?_
  simp only [q0, q1, q2, q3, q4, q5, q6, q7, q8, q9, zr0, zr1, zr2, zr3, zq0, zq1, zq2, zq3, zq4, Nat.reduceAdd, Nat.reduceSub, lenA, convA, indexA, flatP, nilI, ifaA, indexS, Int.reduceToNat, cond_true, cond_false, ↓reduceIte, reduceCtorEq, Nat.reduceLT, Nat.reduceLeDiff, Nat.reduceMul, Nat.reduceEqDiff, exists_eq', implies_true, exists_true_left, tys0, tys1, tys2, tys3, und0, und1, und2, und3, md68, Tryz.ntmps68, Tryz.results68, dskB, deskV, lwB, strs, List.map_cons, List.map_nil, Int.reduceLE, eq_net_due, eq_net_net, eq_net_gross, eq_net_chain, eq_net_down, ieq31, ine31, ieq32, ine32, List.length_cons, List.length_nil]
  exact PostR.same ⟨rfl, rfl⟩
end
end Go.Proofs.YteenpfegadlkfaaGreatDoor
