/- TzI2: texts joined. -/
import Derived.Test.YtodjjpmigcacoaaGreatDoorTzH2
import Derived.Test.YtodjjpmigcacoaaGreatDoorTzI1
set_option maxRecDepth 10000
set_option maxHeartbeats 8000000
set_option linter.unusedSimpArgs false
set_option linter.unusedVariables false
namespace Go.Proofs.YtodjjpmigcacoaaGreatDoor
open Go Go.Abs
open Nat renaming reduceAdd → Za, reduceSub → Zb, reduceMul → Zc, reduceLT → Zd, reduceLeDiff → Ze, reduceEqDiff → Zf
open Int renaming reduceToNat → Zn
open Go.Abs renaming lenA → Zg, convA → Zh, indexA → Zi, flatP → Zj, nilI → Zk, ifaA → Zl, indexS → Zm
theorem ep_scale : (([115, 99, 97, 108, 101] : List UInt8) == [115, 99, 97, 108, 101]) = true ∧ (([115, 99, 97, 108, 101] : List UInt8) == [112, 97, 121, 115]) = false ∧ (([115, 99, 97, 108, 101] : List UInt8) == [114, 97, 116, 101, 115]) = false ∧ (([115, 99, 97, 108, 101] : List UInt8) == [116, 97, 98, 108, 101]) = false := by decide
theorem ep_pays : (([112, 97, 121, 115] : List UInt8) == [115, 99, 97, 108, 101]) = false ∧ (([112, 97, 121, 115] : List UInt8) == [112, 97, 121, 115]) = true ∧ (([112, 97, 121, 115] : List UInt8) == [114, 97, 116, 101, 115]) = false ∧ (([112, 97, 121, 115] : List UInt8) == [116, 97, 98, 108, 101]) = false := by decide
theorem ep_rates : (([114, 97, 116, 101, 115] : List UInt8) == [115, 99, 97, 108, 101]) = false ∧ (([114, 97, 116, 101, 115] : List UInt8) == [112, 97, 121, 115]) = false ∧ (([114, 97, 116, 101, 115] : List UInt8) == [114, 97, 116, 101, 115]) = true ∧ (([114, 97, 116, 101, 115] : List UInt8) == [116, 97, 98, 108, 101]) = false := by decide
theorem ep_table : (([116, 97, 98, 108, 101] : List UInt8) == [115, 99, 97, 108, 101]) = false ∧ (([116, 97, 98, 108, 101] : List UInt8) == [112, 97, 121, 115]) = false ∧ (([116, 97, 98, 108, 101] : List UInt8) == [114, 97, 116, 101, 115]) = false ∧ (([116, 97, 98, 108, 101] : List UInt8) == [116, 97, 98, 108, 101]) = true := by decide
theorem ea_nets : (([110, 101, 116, 115] : List UInt8) == [116, 114, 105, 109]) = false ∧ (([110, 101, 116, 115] : List UInt8) == [97, 108, 105, 118, 101]) = false ∧ (([110, 101, 116, 115] : List UInt8) == [108, 105, 102, 101]) = false := by decide
theorem ep_alive : (([97, 108, 105, 118, 101] : List UInt8) == [115, 99, 97, 108, 101]) = false ∧ (([97, 108, 105, 118, 101] : List UInt8) == [112, 97, 121, 115]) = false ∧ (([97, 108, 105, 118, 101] : List UInt8) == [114, 97, 116, 101, 115]) = false ∧ (([97, 108, 105, 118, 101] : List UInt8) == [116, 97, 98, 108, 101]) = false := by decide
theorem ea_alive : (([97, 108, 105, 118, 101] : List UInt8) == [116, 114, 105, 109]) = false ∧ (([97, 108, 105, 118, 101] : List UInt8) == [97, 108, 105, 118, 101]) = true ∧ (([97, 108, 105, 118, 101] : List UInt8) == [108, 105, 102, 101]) = false := by decide
theorem ep_trim : (([116, 114, 105, 109] : List UInt8) == [115, 99, 97, 108, 101]) = false ∧ (([116, 114, 105, 109] : List UInt8) == [112, 97, 121, 115]) = false ∧ (([116, 114, 105, 109] : List UInt8) == [114, 97, 116, 101, 115]) = false ∧ (([116, 114, 105, 109] : List UInt8) == [116, 97, 98, 108, 101]) = false := by decide
theorem ea_trim : (([116, 114, 105, 109] : List UInt8) == [116, 114, 105, 109]) = true ∧ (([116, 114, 105, 109] : List UInt8) == [97, 108, 105, 118, 101]) = false ∧ (([116, 114, 105, 109] : List UInt8) == [108, 105, 102, 101]) = false := by decide
theorem ep_rate : (([114, 97, 116, 101] : List UInt8) == [115, 99, 97, 108, 101]) = false ∧ (([114, 97, 116, 101] : List UInt8) == [112, 97, 121, 115]) = false ∧ (([114, 97, 116, 101] : List UInt8) == [114, 97, 116, 101, 115]) = false ∧ (([114, 97, 116, 101] : List UInt8) == [116, 97, 98, 108, 101]) = false := by decide
theorem eb_rate : (([114, 97, 116, 101] : List UInt8) == [109, 101, 97, 110]) = false ∧ (([114, 97, 116, 101] : List UInt8) == [114, 97, 116, 101]) = true ∧ (([114, 97, 116, 101] : List UInt8) == [109, 105, 120]) = false ∧ (([114, 97, 116, 101] : List UInt8) == [104, 111, 108, 100]) = false ∧ (([114, 97, 116, 101] : List UInt8) == [115, 104, 97, 114, 101]) = false ∧ (([114, 97, 116, 101] : List UInt8) == [98, 101, 115, 116]) = false ∧ (([114, 97, 116, 101] : List UInt8) == [115, 112, 97, 110]) = false ∧ (([114, 97, 116, 101] : List UInt8) == [102, 117, 110, 100]) = false ∧ (([114, 97, 116, 101] : List UInt8) == [115, 97, 102, 101]) = false ∧ (([114, 97, 116, 101] : List UInt8) == [97, 110, 110, 117, 105, 116, 121]) = false := by decide
theorem ep_hold : (([104, 111, 108, 100] : List UInt8) == [115, 99, 97, 108, 101]) = false ∧ (([104, 111, 108, 100] : List UInt8) == [112, 97, 121, 115]) = false ∧ (([104, 111, 108, 100] : List UInt8) == [114, 97, 116, 101, 115]) = false ∧ (([104, 111, 108, 100] : List UInt8) == [116, 97, 98, 108, 101]) = false := by decide
theorem eb_hold : (([104, 111, 108, 100] : List UInt8) == [109, 101, 97, 110]) = false ∧ (([104, 111, 108, 100] : List UInt8) == [114, 97, 116, 101]) = false ∧ (([104, 111, 108, 100] : List UInt8) == [109, 105, 120]) = false ∧ (([104, 111, 108, 100] : List UInt8) == [104, 111, 108, 100]) = true ∧ (([104, 111, 108, 100] : List UInt8) == [115, 104, 97, 114, 101]) = false ∧ (([104, 111, 108, 100] : List UInt8) == [98, 101, 115, 116]) = false ∧ (([104, 111, 108, 100] : List UInt8) == [115, 112, 97, 110]) = false ∧ (([104, 111, 108, 100] : List UInt8) == [102, 117, 110, 100]) = false ∧ (([104, 111, 108, 100] : List UInt8) == [115, 97, 102, 101]) = false ∧ (([104, 111, 108, 100] : List UInt8) == [97, 110, 110, 117, 105, 116, 121]) = false := by decide
theorem ep_share : (([115, 104, 97, 114, 101] : List UInt8) == [115, 99, 97, 108, 101]) = false ∧ (([115, 104, 97, 114, 101] : List UInt8) == [112, 97, 121, 115]) = false ∧ (([115, 104, 97, 114, 101] : List UInt8) == [114, 97, 116, 101, 115]) = false ∧ (([115, 104, 97, 114, 101] : List UInt8) == [116, 97, 98, 108, 101]) = false := by decide
theorem eb_share : (([115, 104, 97, 114, 101] : List UInt8) == [109, 101, 97, 110]) = false ∧ (([115, 104, 97, 114, 101] : List UInt8) == [114, 97, 116, 101]) = false ∧ (([115, 104, 97, 114, 101] : List UInt8) == [109, 105, 120]) = false ∧ (([115, 104, 97, 114, 101] : List UInt8) == [104, 111, 108, 100]) = false ∧ (([115, 104, 97, 114, 101] : List UInt8) == [115, 104, 97, 114, 101]) = true ∧ (([115, 104, 97, 114, 101] : List UInt8) == [98, 101, 115, 116]) = false ∧ (([115, 104, 97, 114, 101] : List UInt8) == [115, 112, 97, 110]) = false ∧ (([115, 104, 97, 114, 101] : List UInt8) == [102, 117, 110, 100]) = false ∧ (([115, 104, 97, 114, 101] : List UInt8) == [115, 97, 102, 101]) = false ∧ (([115, 104, 97, 114, 101] : List UInt8) == [97, 110, 110, 117, 105, 116, 121]) = false := by decide
theorem ep_safe : (([115, 97, 102, 101] : List UInt8) == [115, 99, 97, 108, 101]) = false ∧ (([115, 97, 102, 101] : List UInt8) == [112, 97, 121, 115]) = false ∧ (([115, 97, 102, 101] : List UInt8) == [114, 97, 116, 101, 115]) = false ∧ (([115, 97, 102, 101] : List UInt8) == [116, 97, 98, 108, 101]) = false := by decide
theorem eb_safe : (([115, 97, 102, 101] : List UInt8) == [109, 101, 97, 110]) = false ∧ (([115, 97, 102, 101] : List UInt8) == [114, 97, 116, 101]) = false ∧ (([115, 97, 102, 101] : List UInt8) == [109, 105, 120]) = false ∧ (([115, 97, 102, 101] : List UInt8) == [104, 111, 108, 100]) = false ∧ (([115, 97, 102, 101] : List UInt8) == [115, 104, 97, 114, 101]) = false ∧ (([115, 97, 102, 101] : List UInt8) == [98, 101, 115, 116]) = false ∧ (([115, 97, 102, 101] : List UInt8) == [115, 112, 97, 110]) = false ∧ (([115, 97, 102, 101] : List UInt8) == [102, 117, 110, 100]) = false ∧ (([115, 97, 102, 101] : List UInt8) == [115, 97, 102, 101]) = true ∧ (([115, 97, 102, 101] : List UInt8) == [97, 110, 110, 117, 105, 116, 121]) = false := by decide
theorem ep_due : (([100, 117, 101] : List UInt8) == [115, 99, 97, 108, 101]) = false ∧ (([100, 117, 101] : List UInt8) == [112, 97, 121, 115]) = false ∧ (([100, 117, 101] : List UInt8) == [114, 97, 116, 101, 115]) = false ∧ (([100, 117, 101] : List UInt8) == [116, 97, 98, 108, 101]) = false := by decide
theorem eb_due : (([100, 117, 101] : List UInt8) == [109, 101, 97, 110]) = false ∧ (([100, 117, 101] : List UInt8) == [114, 97, 116, 101]) = false ∧ (([100, 117, 101] : List UInt8) == [109, 105, 120]) = false ∧ (([100, 117, 101] : List UInt8) == [104, 111, 108, 100]) = false ∧ (([100, 117, 101] : List UInt8) == [115, 104, 97, 114, 101]) = false ∧ (([100, 117, 101] : List UInt8) == [98, 101, 115, 116]) = false ∧ (([100, 117, 101] : List UInt8) == [115, 112, 97, 110]) = false ∧ (([100, 117, 101] : List UInt8) == [102, 117, 110, 100]) = false ∧ (([100, 117, 101] : List UInt8) == [115, 97, 102, 101]) = false ∧ (([100, 117, 101] : List UInt8) == [97, 110, 110, 117, 105, 116, 121]) = false := by decide
theorem ed_due : (([100, 117, 101] : List UInt8) == [100, 117, 101]) = true ∧ (([100, 117, 101] : List UInt8) == [110, 101, 116]) = false ∧ (([100, 117, 101] : List UInt8) == [103, 114, 111, 115, 115]) = false ∧ (([100, 117, 101] : List UInt8) == [99, 104, 97, 105, 110]) = false ∧ (([100, 117, 101] : List UInt8) == [100, 111, 119, 110]) = false := by decide
theorem ep_net : (([110, 101, 116] : List UInt8) == [115, 99, 97, 108, 101]) = false ∧ (([110, 101, 116] : List UInt8) == [112, 97, 121, 115]) = false ∧ (([110, 101, 116] : List UInt8) == [114, 97, 116, 101, 115]) = false ∧ (([110, 101, 116] : List UInt8) == [116, 97, 98, 108, 101]) = false := by decide
theorem ed_net : (([110, 101, 116] : List UInt8) == [100, 117, 101]) = false ∧ (([110, 101, 116] : List UInt8) == [110, 101, 116]) = true ∧ (([110, 101, 116] : List UInt8) == [103, 114, 111, 115, 115]) = false ∧ (([110, 101, 116] : List UInt8) == [99, 104, 97, 105, 110]) = false ∧ (([110, 101, 116] : List UInt8) == [100, 111, 119, 110]) = false := by decide
theorem ine11 : ((((1 : Nat) : Int)) != 1) = false := by decide
theorem iq1 : (((1 : Nat) : Int) == 1) = true ∧ (((1 : Nat) : Int) != 1) = false ∧ (((1 : Nat) : Int) == 2) = false ∧ (((1 : Nat) : Int) != 2) = true := by decide
theorem iq2 : (((2 : Nat) : Int) == 1) = false ∧ (((2 : Nat) : Int) != 1) = true ∧ (((2 : Nat) : Int) == 2) = true ∧ (((2 : Nat) : Int) != 2) = false := by decide
theorem iq3 : (((3 : Nat) : Int) == 1) = false ∧ (((3 : Nat) : Int) != 1) = true ∧ (((3 : Nat) : Int) == 2) = false ∧ (((3 : Nat) : Int) != 2) = true := by decide
section
variable {bs rs ps ra : List Int} {q : List Nat}
theorem show_scale (D : Dok bs rs ps ra q) (bad : Bool) : CallA Tryz.prog 62 [.ptr 0 0 0, .ptr 1 0 0] [dskB bs rs ps ra q, lwB [[115, 99, 97, 108, 101]] bad] (Ret (.tup [.str (scT bs rs), .bool true, .bool true]) [dskB bs rs ps ra q, lwB [[115, 99, 97, 108, 101]] bad]) := by
  refine CallP.out (t := .mk) (go_in (md := md62) mixed Tryz.func62 rfl go62 (by kernel_rfl) ?_)
  simp only [Zu, Za, Zb, Zg, Zh, Zi, Zk, Zl, Zm, Zn, ↓reduceIte, reduceCtorEq, Zd, Ze, Zc, Zf, Z62, dskB, deskV, lwB, strs, Int.reduceLE, ep_scale, iq1]
  refine call_ret (scaleText_ok D) rfl rfl ?_
  simp only [Zu, Za, Zb, Zg, Zh, Zi, Zk, Zl, Zm, Zn, ↓reduceIte, reduceCtorEq, Zd, Ze, Zc, Zf, Z62, dskB, deskV, lwB, strs, Int.reduceLE, ep_scale, iq1]
  exact PostR.same ⟨rfl, rfl⟩
theorem show_pays (D : Dok bs rs ps ra q) (bad : Bool) : CallA Tryz.prog 62 [.ptr 0 0 0, .ptr 1 0 0] [dskB bs rs ps ra q, lwB [[112, 97, 121, 115]] bad] (Ret (.tup [.str (txt [44] ps), .bool true, .bool true]) [dskB bs rs ps ra q, lwB [[112, 97, 121, 115]] bad]) := by
  refine CallP.out (t := .mk) (go_in (md := md62) mixed Tryz.func62 rfl go62 (by kernel_rfl) ?_)
  simp only [Zu, Za, Zb, Zg, Zh, Zi, Zk, Zl, Zm, Zn, ↓reduceIte, reduceCtorEq, Zd, Ze, Zc, Zf, Z62, dskB, deskV, lwB, strs, Int.reduceLE, ep_pays, iq1]
  refine call_ret (listText_call ps D.pys.one (by have := D.pys.six; omega) D.pm) rfl rfl ?_
  simp only [Zu, Za, Zb, Zg, Zh, Zi, Zk, Zl, Zm, Zn, ↓reduceIte, reduceCtorEq, Zd, Ze, Zc, Zf, Z62, dskB, deskV, lwB, strs, Int.reduceLE, ep_pays, iq1]
  exact PostR.same ⟨rfl, rfl⟩
theorem show_rates (D : Dok bs rs ps ra q) (bad : Bool) : CallA Tryz.prog 62 [.ptr 0 0 0, .ptr 1 0 0] [dskB bs rs ps ra q, lwB [[114, 97, 116, 101, 115]] bad] (Ret (.tup [.str (txt [44] ra), .bool true, .bool true]) [dskB bs rs ps ra q, lwB [[114, 97, 116, 101, 115]] bad]) := by
  refine CallP.out (t := .mk) (go_in (md := md62) mixed Tryz.func62 rfl go62 (by kernel_rfl) ?_)
  simp only [Zu, Za, Zb, Zg, Zh, Zi, Zk, Zl, Zm, Zn, ↓reduceIte, reduceCtorEq, Zd, Ze, Zc, Zf, Z62, dskB, deskV, lwB, strs, Int.reduceLE, ep_rates, iq1]
  refine call_ret (listText_call ra D.rts.one (by have := D.rts.six; omega) D.am) rfl rfl ?_
  simp only [Zu, Za, Zb, Zg, Zh, Zi, Zk, Zl, Zm, Zn, ↓reduceIte, reduceCtorEq, Zd, Ze, Zc, Zf, Z62, dskB, deskV, lwB, strs, Int.reduceLE, ep_rates, iq1]
  exact PostR.same ⟨rfl, rfl⟩
theorem show_table (D : Dok bs rs ps ra q) (bad : Bool) : CallA Tryz.prog 62 [.ptr 0 0 0, .ptr 1 0 0] [dskB bs rs ps ra q, lwB [[116, 97, 98, 108, 101]] bad] (Ret (.tup [.str (wdsT (hexW q)), .bool true, .bool true]) [dskB bs rs ps ra q, lwB [[116, 97, 98, 108, 101]] bad]) := by
  refine CallP.out (t := .mk) (go_in (md := md62) mixed Tryz.func62 rfl go62 (by kernel_rfl) ?_)
  simp only [Zu, Za, Zb, Zg, Zh, Zi, Zk, Zl, Zm, Zn, ↓reduceIte, reduceCtorEq, Zd, Ze, Zc, Zf, Z62, dskB, deskV, lwB, strs, Int.reduceLE, ep_table, iq1]
  refine call_ret (numbersText_call q (by have := D.tab.six; omega) D.okw) rfl rfl ?_
  simp only [Zu, Za, Zb, Zg, Zh, Zi, Zk, Zl, Zm, Zn, ↓reduceIte, reduceCtorEq, Zd, Ze, Zc, Zf, Z62, dskB, deskV, lwB, strs, Int.reduceLE, ep_table, iq1]
  exact PostR.same ⟨rfl, rfl⟩
theorem set_scale (D : Dok bs rs ps ra q) {bs0 rs0 : List Int} (bad : Bool) : CallA Tryz.prog 62 [.ptr 0 0 0, .ptr 1 0 0] [dskB bs0 rs0 ps ra q, lwB [[115, 99, 97, 108, 101], scT bs rs] bad] (Ret (.tup [.str [111, 107], .bool true, .bool true]) [dskB bs rs ps ra q, lwB [[115, 99, 97, 108, 101], scT bs rs] bad]) := by
  obtain ⟨h1, h2, h3⟩ := D.b1
  have h4 := D.pys.six
  have h5 := D.rts.six
  have h6 := D.tab.six
  have vd := implValid_call bs rs ps ra q (by omega) (by omega) (by omega) (by omega) (by omega)
  rw [D.val] at vd
  refine CallP.out (t := .mk) (go_in (md := md62) mixed Tryz.func62 rfl go62 (by kernel_rfl) ?_)
  simp only [Zu, Za, Zb, Zg, Zh, Zi, Zk, Zl, Zm, Zn, ↓reduceIte, reduceCtorEq, Zd, Ze, Zc, Zf, Z62, dskB, deskV, lwB, strs, Int.reduceLE, ep_scale, iq2]
  refine call_ret (readScale_ok D) rfl rfl ?_
  simp only [Zu, Za, Zb, Zg, Zh, Zi, Zk, Zl, Zm, Zn, ↓reduceIte, reduceCtorEq, Zd, Ze, Zc, Zf, Z62, dskB, deskV, lwB, strs, Int.reduceLE, ep_scale, iq2]
  refine call_ret vd rfl rfl ?_
  simp only [Zu, Za, Zb, Zg, Zh, Zi, Zk, Zl, Zm, Zn, ↓reduceIte, reduceCtorEq, Zd, Ze, Zc, Zf, Z62, dskB, deskV, lwB, strs, Int.reduceLE, ep_scale, iq2]
  exact PostR.same ⟨rfl, rfl⟩
theorem set_pays (D : Dok bs rs ps ra q) {ps0 : List Int} (bad : Bool) : CallA Tryz.prog 62 [.ptr 0 0 0, .ptr 1 0 0] [dskB bs rs ps0 ra q, lwB [[112, 97, 121, 115], txt [44] ps] bad] (Ret (.tup [.str [111, 107], .bool true, .bool true]) [dskB bs rs ps ra q, lwB [[112, 97, 121, 115], txt [44] ps] bad]) := by
  obtain ⟨h1, h2, h3⟩ := D.b1
  have h4 := D.pys.six
  have h5 := D.rts.six
  have h6 := D.tab.six
  have vd := implValid_call bs rs ps ra q (by omega) (by omega) (by omega) (by omega) (by omega)
  rw [D.val] at vd
  refine CallP.out (t := .mk) (go_in (md := md62) mixed Tryz.func62 rfl go62 (by kernel_rfl) ?_)
  simp only [Zu, Za, Zb, Zg, Zh, Zi, Zk, Zl, Zm, Zn, ↓reduceIte, reduceCtorEq, Zd, Ze, Zc, Zf, Z62, dskB, deskV, lwB, strs, Int.reduceLE, ep_pays, iq2]
  refine call_ret (readList_ok D.pys.one (by have := D.pys.six; omega) D.pm) rfl rfl ?_
  simp only [Zu, Za, Zb, Zg, Zh, Zi, Zk, Zl, Zm, Zn, ↓reduceIte, reduceCtorEq, Zd, Ze, Zc, Zf, Z62, dskB, deskV, lwB, strs, Int.reduceLE, ep_pays, iq2]
  refine call_ret vd rfl rfl ?_
  simp only [Zu, Za, Zb, Zg, Zh, Zi, Zk, Zl, Zm, Zn, ↓reduceIte, reduceCtorEq, Zd, Ze, Zc, Zf, Z62, dskB, deskV, lwB, strs, Int.reduceLE, ep_pays, iq2]
  exact PostR.same ⟨rfl, rfl⟩
theorem set_rates (D : Dok bs rs ps ra q) {ra0 : List Int} (bad : Bool) : CallA Tryz.prog 62 [.ptr 0 0 0, .ptr 1 0 0] [dskB bs rs ps ra0 q, lwB [[114, 97, 116, 101, 115], txt [44] ra] bad] (Ret (.tup [.str [111, 107], .bool true, .bool true]) [dskB bs rs ps ra q, lwB [[114, 97, 116, 101, 115], txt [44] ra] bad]) := by
  obtain ⟨h1, h2, h3⟩ := D.b1
  have h4 := D.pys.six
  have h5 := D.rts.six
  have h6 := D.tab.six
  have vd := implValid_call bs rs ps ra q (by omega) (by omega) (by omega) (by omega) (by omega)
  rw [D.val] at vd
  refine CallP.out (t := .mk) (go_in (md := md62) mixed Tryz.func62 rfl go62 (by kernel_rfl) ?_)
  simp only [Zu, Za, Zb, Zg, Zh, Zi, Zk, Zl, Zm, Zn, ↓reduceIte, reduceCtorEq, Zd, Ze, Zc, Zf, Z62, dskB, deskV, lwB, strs, Int.reduceLE, ep_rates, iq2]
  refine call_ret (readList_ok D.rts.one (by have := D.rts.six; omega) D.am) rfl rfl ?_
  simp only [Zu, Za, Zb, Zg, Zh, Zi, Zk, Zl, Zm, Zn, ↓reduceIte, reduceCtorEq, Zd, Ze, Zc, Zf, Z62, dskB, deskV, lwB, strs, Int.reduceLE, ep_rates, iq2]
  refine call_ret vd rfl rfl ?_
  simp only [Zu, Za, Zb, Zg, Zh, Zi, Zk, Zl, Zm, Zn, ↓reduceIte, reduceCtorEq, Zd, Ze, Zc, Zf, Z62, dskB, deskV, lwB, strs, Int.reduceLE, ep_rates, iq2]
  exact PostR.same ⟨rfl, rfl⟩
theorem set_table (D : Dok bs rs ps ra q) {qz : List Nat} (bad : Bool) : CallA Tryz.prog 62 [.ptr 0 0 0, .ptr 1 0 0] [dskB bs rs ps ra qz, lwB [[116, 97, 98, 108, 101], wdsT (hexW q)] bad] (Ret (.tup [.str [111, 107], .bool true, .bool true]) [dskB bs rs ps ra q, lwB [[116, 97, 98, 108, 101], wdsT (hexW q)] bad]) := by
  obtain ⟨h1, h2, h3⟩ := D.b1
  have h4 := D.pys.six
  have h5 := D.rts.six
  have h6 := D.tab.six
  have vd := implValid_call bs rs ps ra q (by omega) (by omega) (by omega) (by omega) (by omega)
  rw [D.val] at vd
  refine CallP.out (t := .mk) (go_in (md := md62) mixed Tryz.func62 rfl go62 (by kernel_rfl) ?_)
  simp only [Zu, Za, Zb, Zg, Zh, Zi, Zk, Zl, Zm, Zn, ↓reduceIte, reduceCtorEq, Zd, Ze, Zc, Zf, Z62, dskB, deskV, lwB, strs, Int.reduceLE, ep_table, iq2]
  refine call_ret (readNumbers_ok (by have := D.tab.six; omega) D.okw) rfl rfl ?_
  simp only [Zu, Za, Zb, Zg, Zh, Zi, Zk, Zl, Zm, Zn, ↓reduceIte, reduceCtorEq, Zd, Ze, Zc, Zf, Z62, dskB, deskV, lwB, strs, Int.reduceLE, ep_table, iq2]
  refine call_ret vd rfl rfl ?_
  simp only [Zu, Za, Zb, Zg, Zh, Zi, Zk, Zl, Zm, Zn, ↓reduceIte, reduceCtorEq, Zd, Ze, Zc, Zf, Z62, dskB, deskV, lwB, strs, Int.reduceLE, ep_table, iq2]
  exact PostR.same ⟨rfl, rfl⟩
theorem not_alive {bs rs ps ra : List Int} {q : List Nat} (bad : Bool) : CallA Tryz.prog 62 [.ptr 0 0 0, .ptr 1 0 0] [dskB bs rs ps ra q, lwB [[97, 108, 105, 118, 101]] bad] (Ret (.tup [.str [], .bool false, .bool false]) [dskB bs rs ps ra q, lwB [[97, 108, 105, 118, 101]] bad]) := by
  refine CallP.out (t := .mk) (go_in (md := md62) mixed Tryz.func62 rfl go62 (by kernel_rfl) ?_)
  simp only [Zu, Za, Zb, Zg, Zh, Zi, Zk, Zl, Zm, Zn, ↓reduceIte, reduceCtorEq, Zd, Ze, Zc, Zf, Z62, dskB, deskV, lwB, strs, Int.reduceLE, ep_alive, iq1]
  exact PostR.same ⟨rfl, rfl⟩
theorem not_trim {bs rs ps ra : List Int} {q : List Nat} (bad : Bool) : CallA Tryz.prog 62 [.ptr 0 0 0, .ptr 1 0 0] [dskB bs rs ps ra q, lwB [[116, 114, 105, 109]] bad] (Ret (.tup [.str [], .bool false, .bool false]) [dskB bs rs ps ra q, lwB [[116, 114, 105, 109]] bad]) := by
  refine CallP.out (t := .mk) (go_in (md := md62) mixed Tryz.func62 rfl go62 (by kernel_rfl) ?_)
  simp only [Zu, Za, Zb, Zg, Zh, Zi, Zk, Zl, Zm, Zn, ↓reduceIte, reduceCtorEq, Zd, Ze, Zc, Zf, Z62, dskB, deskV, lwB, strs, Int.reduceLE, ep_trim, iq1]
  exact PostR.same ⟨rfl, rfl⟩
theorem not_rate (x : List UInt8) {bs rs ps ra : List Int} {q : List Nat} (bad : Bool) : CallA Tryz.prog 62 [.ptr 0 0 0, .ptr 1 0 0] [dskB bs rs ps ra q, lwB [[114, 97, 116, 101], x] bad] (Ret (.tup [.str [], .bool false, .bool false]) [dskB bs rs ps ra q, lwB [[114, 97, 116, 101], x] bad]) := by
  refine CallP.out (t := .mk) (go_in (md := md62) mixed Tryz.func62 rfl go62 (by kernel_rfl) ?_)
  simp only [Zu, Za, Zb, Zg, Zh, Zi, Zk, Zl, Zm, Zn, ↓reduceIte, reduceCtorEq, Zd, Ze, Zc, Zf, Z62, dskB, deskV, lwB, strs, Int.reduceLE, ep_rate, iq2]
  exact PostR.same ⟨rfl, rfl⟩
theorem not_hold (x : List UInt8) {bs rs ps ra : List Int} {q : List Nat} (bad : Bool) : CallA Tryz.prog 62 [.ptr 0 0 0, .ptr 1 0 0] [dskB bs rs ps ra q, lwB [[104, 111, 108, 100], x] bad] (Ret (.tup [.str [], .bool false, .bool false]) [dskB bs rs ps ra q, lwB [[104, 111, 108, 100], x] bad]) := by
  refine CallP.out (t := .mk) (go_in (md := md62) mixed Tryz.func62 rfl go62 (by kernel_rfl) ?_)
  simp only [Zu, Za, Zb, Zg, Zh, Zi, Zk, Zl, Zm, Zn, ↓reduceIte, reduceCtorEq, Zd, Ze, Zc, Zf, Z62, dskB, deskV, lwB, strs, Int.reduceLE, ep_hold, iq2]
  exact PostR.same ⟨rfl, rfl⟩
theorem not_share (x : List UInt8) {bs rs ps ra : List Int} {q : List Nat} (bad : Bool) : CallA Tryz.prog 62 [.ptr 0 0 0, .ptr 1 0 0] [dskB bs rs ps ra q, lwB [[115, 104, 97, 114, 101], x] bad] (Ret (.tup [.str [], .bool false, .bool false]) [dskB bs rs ps ra q, lwB [[115, 104, 97, 114, 101], x] bad]) := by
  refine CallP.out (t := .mk) (go_in (md := md62) mixed Tryz.func62 rfl go62 (by kernel_rfl) ?_)
  simp only [Zu, Za, Zb, Zg, Zh, Zi, Zk, Zl, Zm, Zn, ↓reduceIte, reduceCtorEq, Zd, Ze, Zc, Zf, Z62, dskB, deskV, lwB, strs, Int.reduceLE, ep_share, iq2]
  exact PostR.same ⟨rfl, rfl⟩
theorem not_safe (x : List UInt8) {bs rs ps ra : List Int} {q : List Nat} (bad : Bool) : CallA Tryz.prog 62 [.ptr 0 0 0, .ptr 1 0 0] [dskB bs rs ps ra q, lwB [[115, 97, 102, 101], x] bad] (Ret (.tup [.str [], .bool false, .bool false]) [dskB bs rs ps ra q, lwB [[115, 97, 102, 101], x] bad]) := by
  refine CallP.out (t := .mk) (go_in (md := md62) mixed Tryz.func62 rfl go62 (by kernel_rfl) ?_)
  simp only [Zu, Za, Zb, Zg, Zh, Zi, Zk, Zl, Zm, Zn, ↓reduceIte, reduceCtorEq, Zd, Ze, Zc, Zf, Z62, dskB, deskV, lwB, strs, Int.reduceLE, ep_safe, iq2]
  exact PostR.same ⟨rfl, rfl⟩
theorem not_due (x y : List UInt8) {bs rs ps ra : List Int} {q : List Nat} (bad : Bool) : CallA Tryz.prog 62 [.ptr 0 0 0, .ptr 1 0 0] [dskB bs rs ps ra q, lwB [[100, 117, 101], x, y] bad] (Ret (.tup [.str [], .bool false, .bool false]) [dskB bs rs ps ra q, lwB [[100, 117, 101], x, y] bad]) := by
  refine CallP.out (t := .mk) (go_in (md := md62) mixed Tryz.func62 rfl go62 (by kernel_rfl) ?_)
  simp only [Zu, Za, Zb, Zg, Zh, Zi, Zk, Zl, Zm, Zn, ↓reduceIte, reduceCtorEq, Zd, Ze, Zc, Zf, Z62, dskB, deskV, lwB, strs, Int.reduceLE, ep_due, iq3]
  exact PostR.same ⟨rfl, rfl⟩
theorem not_net (x y : List UInt8) {bs rs ps ra : List Int} {q : List Nat} (bad : Bool) : CallA Tryz.prog 62 [.ptr 0 0 0, .ptr 1 0 0] [dskB bs rs ps ra q, lwB [[110, 101, 116], x, y] bad] (Ret (.tup [.str [], .bool false, .bool false]) [dskB bs rs ps ra q, lwB [[110, 101, 116], x, y] bad]) := by
  refine CallP.out (t := .mk) (go_in (md := md62) mixed Tryz.func62 rfl go62 (by kernel_rfl) ?_)
  simp only [Zu, Za, Zb, Zg, Zh, Zi, Zk, Zl, Zm, Zn, ↓reduceIte, reduceCtorEq, Zd, Ze, Zc, Zf, Z62, dskB, deskV, lwB, strs, Int.reduceLE, ep_net, iq3]
  exact PostR.same ⟨rfl, rfl⟩
theorem no_nets {bs rs ps ra : List Int} {q : List Nat} (bad : Bool) : CallA Tryz.prog 63 [.ptr 0 0 0, .ptr 1 0 0] [dskB bs rs ps ra q, lwB [[110, 101, 116, 115]] bad] (Ret (.tup [.str [], .bool false, .bool false]) [dskB bs rs ps ra q, lwB [[110, 101, 116, 115]] bad]) := by
  refine CallP.out (t := .mk) (go_in (md := md63) mixed Tryz.func63 rfl go63 (by kernel_rfl) ?_)
  simp only [Zu, Za, Zb, Zg, Zh, Zi, Zk, Zl, Zm, Zn, ↓reduceIte, reduceCtorEq, Zd, Ze, Zc, Zf, Z63, dskB, deskV, lwB, strs, Int.reduceLE, ea_nets, iq1]
  exact PostR.same ⟨rfl, rfl⟩
theorem do_alive (D : Dok bs rs ps ra q) (bad : Bool) : CallA Tryz.prog 63 [.ptr 0 0 0, .ptr 1 0 0] [dskB bs rs ps ra q, lwB [[97, 108, 105, 118, 101]] bad] (Ret (.tup [.str (wdsT (hexW (alvL q))), .bool true, .bool true]) [dskB bs rs ps ra q, lwB [[97, 108, 105, 118, 101]] bad]) := by
  have h6 := D.tab.six
  refine CallP.out (t := .mk) (go_in (md := md63) mixed Tryz.func63 rfl go63 (by kernel_rfl) ?_)
  simp only [Zu, Za, Zb, Zg, Zh, Zi, Zk, Zl, Zm, Zn, ↓reduceIte, reduceCtorEq, Zd, Ze, Zc, Zf, Z63, dskB, deskV, lwB, strs, Int.reduceLE, ea_alive, iq1]
  refine call_ret (aliveShares_call D.tab) rfl rfl ?_
  simp only [Zu, Za, Zb, Zg, Zh, Zi, Zk, Zl, Zm, Zn, ↓reduceIte, reduceCtorEq, Zd, Ze, Zc, Zf, Z63, dskB, deskV, lwB, strs, Int.reduceLE, ea_alive, iq1]
  refine call_ret (toldNumbers_call (alvL q) (by rw [alvL_len]; omega) (alv_okw q)) rfl rfl ?_
  simp only [Zu, Za, Zb, Zg, Zh, Zi, Zk, Zl, Zm, Zn, ↓reduceIte, reduceCtorEq, Zd, Ze, Zc, Zf, Z63, dskB, deskV, lwB, strs, Int.reduceLE, ea_alive, iq1]
  exact PostR.same ⟨rfl, rfl⟩
theorem do_trim (D : Dok bs rs ps ra q) (bad : Bool) : CallA Tryz.prog 63 [.ptr 0 0 0, .ptr 1 0 0] [dskB bs rs ps ra q, lwB [[116, 114, 105, 109]] bad] (Ret (.tup [.str [111, 107], .bool true, .bool true]) [dskB (trB bs rs) (trR bs rs) ps ra q, lwB [[116, 114, 105, 109]] bad]) := by
  refine CallP.out (t := .mk) (go_in (md := md63) mixed Tryz.func63 rfl go63 (by kernel_rfl) ?_)
  simp only [Zu, Za, Zb, Zg, Zh, Zi, Zk, Zl, Zm, Zn, ↓reduceIte, reduceCtorEq, Zd, Ze, Zc, Zf, Z63, dskB, deskV, lwB, strs, Int.reduceLE, ea_trim, iq1]
  refine call_ret (trimF_call D.scl) rfl rfl ?_
  simp only [Zu, Za, Zb, Zg, Zh, Zi, Zk, Zl, Zm, Zn, ↓reduceIte, reduceCtorEq, Zd, Ze, Zc, Zf, Z63, dskB, deskV, lwB, strs, Int.reduceLE, ea_trim, iq1]
  exact PostR.same ⟨rfl, rfl⟩
theorem do_rate (D : Dok bs rs ps ra q) (n : Int) (h0 : 0 ≤ n) (h1 : n ≤ 10000) (bad : Bool) : CallA Tryz.prog 63 [.ptr 0 0 0, .ptr 1 0 0] [dskB bs rs ps ra q, lwB [[114, 97, 116, 101], Lib.itoa n] bad] (Ret (.tup [.str (Lib.itoa (rtG bs rs n)), .bool true, .bool true]) [dskB bs rs ps ra q, lwB [[114, 97, 116, 101], Lib.itoa n] bad]) := by
  have hn : okM n := ⟨by omega, by omega⟩
  obtain ⟨g1, g2, g3⟩ := D.b1
  refine CallP.out (t := .mk) (go_in (md := md63) mixed Tryz.func63 rfl go63 (by kernel_rfl) ?_)
  simp only [Zu, Za, Zb, Zg, Zh, Zi, Zk, Zl, Zm, Zn, ↓reduceIte, reduceCtorEq, Zd, Ze, Zc, Zf, Z63, dskB, deskV, lwB, strs, Int.reduceLE, eb_rate, iq2]
  refine callr_by (.int .i64 n) (number1_at (dskB bs rs ps ra q) _ _ [] n rfl hn bad) ?_
  simp only [Zu, Za, Zb, Zg, Zh, Zi, Zk, Zl, Zm, Zn, ↓reduceIte, reduceCtorEq, Zd, Ze, Zc, Zf, Z63, dskB, deskV, lwB, strs, Int.reduceLE, eb_rate, iq2]
  refine callr_ret (rateAt_call D.scl n h0 (by omega)) rfl rfl ?_
  simp only [Zu, Za, Zb, Zg, Zh, Zi, Zk, Zl, Zm, Zn, ↓reduceIte, reduceCtorEq, Zd, Ze, Zc, Zf, Z63, dskB, deskV, lwB, strs, Int.reduceLE, eb_rate, iq2]
  refine callr_ret (told_call (rtG bs rs n) true (by have := (D.scl.rt n).1; omega) (by have := (D.scl.rt n).2; omega)) rfl rfl ?_
  simp only [Zu, Za, Zb, Zg, Zh, Zi, Zk, Zl, Zm, Zn, ↓reduceIte, reduceCtorEq, Zd, Ze, Zc, Zf, Z63, dskB, deskV, lwB, strs, Int.reduceLE, eb_rate, iq2]
  exact PostR.same ⟨rfl, rfl⟩
theorem do_hold (D : Dok bs rs ps ra q) (n : Int) (h0 : 0 ≤ n) (h1 : n ≤ 3) (bad : Bool) : CallA Tryz.prog 63 [.ptr 0 0 0, .ptr 1 0 0] [dskB bs rs ps ra q, lwB [[104, 111, 108, 100], Lib.itoa n] bad] (Ret (.tup [.str (txt [44] (whL bs rs ps n)), .bool true, .bool true]) [dskB bs rs ps ra q, lwB [[104, 111, 108, 100], Lib.itoa n] bad]) := by
  have hn : okM n := ⟨by omega, by omega⟩
  obtain ⟨g1, g2, g3⟩ := D.b1
  refine CallP.out (t := .mk) (go_in (md := md63) mixed Tryz.func63 rfl go63 (by kernel_rfl) ?_)
  simp only [Zu, Za, Zb, Zg, Zh, Zi, Zk, Zl, Zm, Zn, ↓reduceIte, reduceCtorEq, Zd, Ze, Zc, Zf, Z63, dskB, deskV, lwB, strs, Int.reduceLE, eb_hold, iq2]
  refine callr_by (.int .i64 n) (number1_at (dskB bs rs ps ra q) _ _ [] n rfl hn bad) ?_
  simp only [Zu, Za, Zb, Zg, Zh, Zi, Zk, Zl, Zm, Zn, ↓reduceIte, reduceCtorEq, Zd, Ze, Zc, Zf, Z63, dskB, deskV, lwB, strs, Int.reduceLE, eb_hold, iq2]
  refine callr_ret (withhold_call D.scl D.pys n h0 h1) rfl rfl ?_
  simp only [Zu, Za, Zb, Zg, Zh, Zi, Zk, Zl, Zm, Zn, ↓reduceIte, reduceCtorEq, Zd, Ze, Zc, Zf, Z63, dskB, deskV, lwB, strs, Int.reduceLE, eb_hold, iq2]
  refine callr_ret (toldList_call (whL bs rs ps n) (by rw [whL_len]; exact D.pys.one) (by rw [whL_len]; have := D.pys.six; omega) (wh_ok D.scl D.pys h0 h1)) rfl rfl ?_
  simp only [Zu, Za, Zb, Zg, Zh, Zi, Zk, Zl, Zm, Zn, ↓reduceIte, reduceCtorEq, Zd, Ze, Zc, Zf, Z63, dskB, deskV, lwB, strs, Int.reduceLE, eb_hold, iq2]
  exact PostR.same ⟨rfl, rfl⟩
theorem do_share (D : Dok bs rs ps ra q) (n : Int) (h0 : 0 ≤ n) (h1 : n ≤ 10000) (bad : Bool) : CallA Tryz.prog 63 [.ptr 0 0 0, .ptr 1 0 0] [dskB bs rs ps ra q, lwB [[115, 104, 97, 114, 101], Lib.itoa n] bad] (Ret (.tup [.str (txt [44] (larL ps n)), .bool true, .bool true]) [dskB bs rs ps ra q, lwB [[115, 104, 97, 114, 101], Lib.itoa n] bad]) := by
  have hn : okM n := ⟨by omega, by omega⟩
  obtain ⟨g1, g2, g3⟩ := D.b1
  refine CallP.out (t := .mk) (go_in (md := md63) mixed Tryz.func63 rfl go63 (by kernel_rfl) ?_)
  simp only [Zu, Za, Zb, Zg, Zh, Zi, Zk, Zl, Zm, Zn, ↓reduceIte, reduceCtorEq, Zd, Ze, Zc, Zf, Z63, dskB, deskV, lwB, strs, Int.reduceLE, eb_share, iq2]
  refine callr_by (.int .i64 n) (number1_at (dskB bs rs ps ra q) _ _ [] n rfl hn bad) ?_
  simp only [Zu, Za, Zb, Zg, Zh, Zi, Zk, Zl, Zm, Zn, ↓reduceIte, reduceCtorEq, Zd, Ze, Zc, Zf, Z63, dskB, deskV, lwB, strs, Int.reduceLE, eb_share, iq2]
  refine callr_ret (largest_call D.pys h0 h1) rfl rfl ?_
  simp only [Zu, Za, Zb, Zg, Zh, Zi, Zk, Zl, Zm, Zn, ↓reduceIte, reduceCtorEq, Zd, Ze, Zc, Zf, Z63, dskB, deskV, lwB, strs, Int.reduceLE, eb_share, iq2]
  refine callr_ret (toldList_call (larL ps n) (by rw [larL_len]; exact D.pys.one) (by rw [larL_len]; have := D.pys.six; omega) (lar_bound D.pys h0 h1)) rfl rfl ?_
  simp only [Zu, Za, Zb, Zg, Zh, Zi, Zk, Zl, Zm, Zn, ↓reduceIte, reduceCtorEq, Zd, Ze, Zc, Zf, Z63, dskB, deskV, lwB, strs, Int.reduceLE, eb_share, iq2]
  exact PostR.same ⟨rfl, rfl⟩
theorem do_safe (D : Dok bs rs ps ra q) (n : Int) (h0 : 0 ≤ n) (h1 : n ≤ 10000) (bad : Bool) : CallA Tryz.prog 63 [.ptr 0 0 0, .ptr 1 0 0] [dskB bs rs ps ra q, lwB [[115, 97, 102, 101], Lib.itoa n] bad] (Ret (.tup [.str (Lib.itoa (safV ra n)), .bool true, .bool true]) [dskB bs rs ps ra q, lwB [[115, 97, 102, 101], Lib.itoa n] bad]) := by
  have hn : okM n := ⟨by omega, by omega⟩
  obtain ⟨g1, g2, g3⟩ := D.b1
  refine CallP.out (t := .mk) (go_in (md := md63) mixed Tryz.func63 rfl go63 (by kernel_rfl) ?_)
  simp only [Zu, Za, Zb, Zg, Zh, Zi, Zk, Zl, Zm, Zn, ↓reduceIte, reduceCtorEq, Zd, Ze, Zc, Zf, Z63, dskB, deskV, lwB, strs, Int.reduceLE, eb_safe, iq2]
  refine callr_by (.int .i64 n) (number1_at (dskB bs rs ps ra q) _ _ [] n rfl hn bad) ?_
  simp only [Zu, Za, Zb, Zg, Zh, Zi, Zk, Zl, Zm, Zn, ↓reduceIte, reduceCtorEq, Zd, Ze, Zc, Zf, Z63, dskB, deskV, lwB, strs, Int.reduceLE, eb_safe, iq2]
  refine callr_ret (safeDraw_call D.rts n h0 (by omega)) rfl rfl ?_
  simp only [Zu, Za, Zb, Zg, Zh, Zi, Zk, Zl, Zm, Zn, ↓reduceIte, reduceCtorEq, Zd, Ze, Zc, Zf, Z63, dskB, deskV, lwB, strs, Int.reduceLE, eb_safe, iq2]
  refine callr_ret (told_call (safV ra n) true (by have := (safe_call D.rts n h0 (by omega)).1.1; omega) (by have := (safe_call D.rts n h0 (by omega)).1.2; omega)) rfl rfl ?_
  simp only [Zu, Za, Zb, Zg, Zh, Zi, Zk, Zl, Zm, Zn, ↓reduceIte, reduceCtorEq, Zd, Ze, Zc, Zf, Z63, dskB, deskV, lwB, strs, Int.reduceLE, eb_safe, iq2]
  exact PostR.same ⟨rfl, rfl⟩
end
theorem ep_mean : (([109, 101, 97, 110] : List UInt8) == [115, 99, 97, 108, 101]) = false ∧ (([109, 101, 97, 110] : List UInt8) == [112, 97, 121, 115]) = false ∧ (([109, 101, 97, 110] : List UInt8) == [114, 97, 116, 101, 115]) = false ∧ (([109, 101, 97, 110] : List UInt8) == [116, 97, 98, 108, 101]) = false := by decide
theorem eb_mean : (([109, 101, 97, 110] : List UInt8) == [109, 101, 97, 110]) = true ∧ (([109, 101, 97, 110] : List UInt8) == [114, 97, 116, 101]) = false ∧ (([109, 101, 97, 110] : List UInt8) == [109, 105, 120]) = false ∧ (([109, 101, 97, 110] : List UInt8) == [104, 111, 108, 100]) = false ∧ (([109, 101, 97, 110] : List UInt8) == [115, 104, 97, 114, 101]) = false ∧ (([109, 101, 97, 110] : List UInt8) == [98, 101, 115, 116]) = false ∧ (([109, 101, 97, 110] : List UInt8) == [115, 112, 97, 110]) = false ∧ (([109, 101, 97, 110] : List UInt8) == [102, 117, 110, 100]) = false ∧ (([109, 101, 97, 110] : List UInt8) == [115, 97, 102, 101]) = false ∧ (([109, 101, 97, 110] : List UInt8) == [97, 110, 110, 117, 105, 116, 121]) = false := by decide
theorem ep_mix : (([109, 105, 120] : List UInt8) == [115, 99, 97, 108, 101]) = false ∧ (([109, 105, 120] : List UInt8) == [112, 97, 121, 115]) = false ∧ (([109, 105, 120] : List UInt8) == [114, 97, 116, 101, 115]) = false ∧ (([109, 105, 120] : List UInt8) == [116, 97, 98, 108, 101]) = false := by decide
theorem eb_mix : (([109, 105, 120] : List UInt8) == [109, 101, 97, 110]) = false ∧ (([109, 105, 120] : List UInt8) == [114, 97, 116, 101]) = false ∧ (([109, 105, 120] : List UInt8) == [109, 105, 120]) = true ∧ (([109, 105, 120] : List UInt8) == [104, 111, 108, 100]) = false ∧ (([109, 105, 120] : List UInt8) == [115, 104, 97, 114, 101]) = false ∧ (([109, 105, 120] : List UInt8) == [98, 101, 115, 116]) = false ∧ (([109, 105, 120] : List UInt8) == [115, 112, 97, 110]) = false ∧ (([109, 105, 120] : List UInt8) == [102, 117, 110, 100]) = false ∧ (([109, 105, 120] : List UInt8) == [115, 97, 102, 101]) = false ∧ (([109, 105, 120] : List UInt8) == [97, 110, 110, 117, 105, 116, 121]) = false := by decide
theorem ep_best : (([98, 101, 115, 116] : List UInt8) == [115, 99, 97, 108, 101]) = false ∧ (([98, 101, 115, 116] : List UInt8) == [112, 97, 121, 115]) = false ∧ (([98, 101, 115, 116] : List UInt8) == [114, 97, 116, 101, 115]) = false ∧ (([98, 101, 115, 116] : List UInt8) == [116, 97, 98, 108, 101]) = false := by decide
theorem eb_best : (([98, 101, 115, 116] : List UInt8) == [109, 101, 97, 110]) = false ∧ (([98, 101, 115, 116] : List UInt8) == [114, 97, 116, 101]) = false ∧ (([98, 101, 115, 116] : List UInt8) == [109, 105, 120]) = false ∧ (([98, 101, 115, 116] : List UInt8) == [104, 111, 108, 100]) = false ∧ (([98, 101, 115, 116] : List UInt8) == [115, 104, 97, 114, 101]) = false ∧ (([98, 101, 115, 116] : List UInt8) == [98, 101, 115, 116]) = true ∧ (([98, 101, 115, 116] : List UInt8) == [115, 112, 97, 110]) = false ∧ (([98, 101, 115, 116] : List UInt8) == [102, 117, 110, 100]) = false ∧ (([98, 101, 115, 116] : List UInt8) == [115, 97, 102, 101]) = false ∧ (([98, 101, 115, 116] : List UInt8) == [97, 110, 110, 117, 105, 116, 121]) = false := by decide
theorem ep_span : (([115, 112, 97, 110] : List UInt8) == [115, 99, 97, 108, 101]) = false ∧ (([115, 112, 97, 110] : List UInt8) == [112, 97, 121, 115]) = false ∧ (([115, 112, 97, 110] : List UInt8) == [114, 97, 116, 101, 115]) = false ∧ (([115, 112, 97, 110] : List UInt8) == [116, 97, 98, 108, 101]) = false := by decide
theorem eb_span : (([115, 112, 97, 110] : List UInt8) == [109, 101, 97, 110]) = false ∧ (([115, 112, 97, 110] : List UInt8) == [114, 97, 116, 101]) = false ∧ (([115, 112, 97, 110] : List UInt8) == [109, 105, 120]) = false ∧ (([115, 112, 97, 110] : List UInt8) == [104, 111, 108, 100]) = false ∧ (([115, 112, 97, 110] : List UInt8) == [115, 104, 97, 114, 101]) = false ∧ (([115, 112, 97, 110] : List UInt8) == [98, 101, 115, 116]) = false ∧ (([115, 112, 97, 110] : List UInt8) == [115, 112, 97, 110]) = true ∧ (([115, 112, 97, 110] : List UInt8) == [102, 117, 110, 100]) = false ∧ (([115, 112, 97, 110] : List UInt8) == [115, 97, 102, 101]) = false ∧ (([115, 112, 97, 110] : List UInt8) == [97, 110, 110, 117, 105, 116, 121]) = false := by decide
theorem ep_fund : (([102, 117, 110, 100] : List UInt8) == [115, 99, 97, 108, 101]) = false ∧ (([102, 117, 110, 100] : List UInt8) == [112, 97, 121, 115]) = false ∧ (([102, 117, 110, 100] : List UInt8) == [114, 97, 116, 101, 115]) = false ∧ (([102, 117, 110, 100] : List UInt8) == [116, 97, 98, 108, 101]) = false := by decide
theorem eb_fund : (([102, 117, 110, 100] : List UInt8) == [109, 101, 97, 110]) = false ∧ (([102, 117, 110, 100] : List UInt8) == [114, 97, 116, 101]) = false ∧ (([102, 117, 110, 100] : List UInt8) == [109, 105, 120]) = false ∧ (([102, 117, 110, 100] : List UInt8) == [104, 111, 108, 100]) = false ∧ (([102, 117, 110, 100] : List UInt8) == [115, 104, 97, 114, 101]) = false ∧ (([102, 117, 110, 100] : List UInt8) == [98, 101, 115, 116]) = false ∧ (([102, 117, 110, 100] : List UInt8) == [115, 112, 97, 110]) = false ∧ (([102, 117, 110, 100] : List UInt8) == [102, 117, 110, 100]) = true ∧ (([102, 117, 110, 100] : List UInt8) == [115, 97, 102, 101]) = false ∧ (([102, 117, 110, 100] : List UInt8) == [97, 110, 110, 117, 105, 116, 121]) = false := by decide
theorem ep_annuity : (([97, 110, 110, 117, 105, 116, 121] : List UInt8) == [115, 99, 97, 108, 101]) = false ∧ (([97, 110, 110, 117, 105, 116, 121] : List UInt8) == [112, 97, 121, 115]) = false ∧ (([97, 110, 110, 117, 105, 116, 121] : List UInt8) == [114, 97, 116, 101, 115]) = false ∧ (([97, 110, 110, 117, 105, 116, 121] : List UInt8) == [116, 97, 98, 108, 101]) = false := by decide
theorem eb_annuity : (([97, 110, 110, 117, 105, 116, 121] : List UInt8) == [109, 101, 97, 110]) = false ∧ (([97, 110, 110, 117, 105, 116, 121] : List UInt8) == [114, 97, 116, 101]) = false ∧ (([97, 110, 110, 117, 105, 116, 121] : List UInt8) == [109, 105, 120]) = false ∧ (([97, 110, 110, 117, 105, 116, 121] : List UInt8) == [104, 111, 108, 100]) = false ∧ (([97, 110, 110, 117, 105, 116, 121] : List UInt8) == [115, 104, 97, 114, 101]) = false ∧ (([97, 110, 110, 117, 105, 116, 121] : List UInt8) == [98, 101, 115, 116]) = false ∧ (([97, 110, 110, 117, 105, 116, 121] : List UInt8) == [115, 112, 97, 110]) = false ∧ (([97, 110, 110, 117, 105, 116, 121] : List UInt8) == [102, 117, 110, 100]) = false ∧ (([97, 110, 110, 117, 105, 116, 121] : List UInt8) == [115, 97, 102, 101]) = false ∧ (([97, 110, 110, 117, 105, 116, 121] : List UInt8) == [97, 110, 110, 117, 105, 116, 121]) = true := by decide
theorem ep_life : (([108, 105, 102, 101] : List UInt8) == [115, 99, 97, 108, 101]) = false ∧ (([108, 105, 102, 101] : List UInt8) == [112, 97, 121, 115]) = false ∧ (([108, 105, 102, 101] : List UInt8) == [114, 97, 116, 101, 115]) = false ∧ (([108, 105, 102, 101] : List UInt8) == [116, 97, 98, 108, 101]) = false := by decide
theorem ea_life : (([108, 105, 102, 101] : List UInt8) == [116, 114, 105, 109]) = false ∧ (([108, 105, 102, 101] : List UInt8) == [97, 108, 105, 118, 101]) = false ∧ (([108, 105, 102, 101] : List UInt8) == [108, 105, 102, 101]) = true := by decide
theorem eb_life : (([108, 105, 102, 101] : List UInt8) == [109, 101, 97, 110]) = false ∧ (([108, 105, 102, 101] : List UInt8) == [114, 97, 116, 101]) = false ∧ (([108, 105, 102, 101] : List UInt8) == [109, 105, 120]) = false ∧ (([108, 105, 102, 101] : List UInt8) == [104, 111, 108, 100]) = false ∧ (([108, 105, 102, 101] : List UInt8) == [115, 104, 97, 114, 101]) = false ∧ (([108, 105, 102, 101] : List UInt8) == [98, 101, 115, 116]) = false ∧ (([108, 105, 102, 101] : List UInt8) == [115, 112, 97, 110]) = false ∧ (([108, 105, 102, 101] : List UInt8) == [102, 117, 110, 100]) = false ∧ (([108, 105, 102, 101] : List UInt8) == [115, 97, 102, 101]) = false ∧ (([108, 105, 102, 101] : List UInt8) == [97, 110, 110, 117, 105, 116, 121]) = false := by decide
theorem ep_gross : (([103, 114, 111, 115, 115] : List UInt8) == [115, 99, 97, 108, 101]) = false ∧ (([103, 114, 111, 115, 115] : List UInt8) == [112, 97, 121, 115]) = false ∧ (([103, 114, 111, 115, 115] : List UInt8) == [114, 97, 116, 101, 115]) = false ∧ (([103, 114, 111, 115, 115] : List UInt8) == [116, 97, 98, 108, 101]) = false := by decide
theorem ed_gross : (([103, 114, 111, 115, 115] : List UInt8) == [100, 117, 101]) = false ∧ (([103, 114, 111, 115, 115] : List UInt8) == [110, 101, 116]) = false ∧ (([103, 114, 111, 115, 115] : List UInt8) == [103, 114, 111, 115, 115]) = true ∧ (([103, 114, 111, 115, 115] : List UInt8) == [99, 104, 97, 105, 110]) = false ∧ (([103, 114, 111, 115, 115] : List UInt8) == [100, 111, 119, 110]) = false := by decide
theorem ep_chain : (([99, 104, 97, 105, 110] : List UInt8) == [115, 99, 97, 108, 101]) = false ∧ (([99, 104, 97, 105, 110] : List UInt8) == [112, 97, 121, 115]) = false ∧ (([99, 104, 97, 105, 110] : List UInt8) == [114, 97, 116, 101, 115]) = false ∧ (([99, 104, 97, 105, 110] : List UInt8) == [116, 97, 98, 108, 101]) = false := by decide
theorem ed_chain : (([99, 104, 97, 105, 110] : List UInt8) == [100, 117, 101]) = false ∧ (([99, 104, 97, 105, 110] : List UInt8) == [110, 101, 116]) = false ∧ (([99, 104, 97, 105, 110] : List UInt8) == [103, 114, 111, 115, 115]) = false ∧ (([99, 104, 97, 105, 110] : List UInt8) == [99, 104, 97, 105, 110]) = true ∧ (([99, 104, 97, 105, 110] : List UInt8) == [100, 111, 119, 110]) = false := by decide
theorem ep_down : (([100, 111, 119, 110] : List UInt8) == [115, 99, 97, 108, 101]) = false ∧ (([100, 111, 119, 110] : List UInt8) == [112, 97, 121, 115]) = false ∧ (([100, 111, 119, 110] : List UInt8) == [114, 97, 116, 101, 115]) = false ∧ (([100, 111, 119, 110] : List UInt8) == [116, 97, 98, 108, 101]) = false := by decide
theorem ed_down : (([100, 111, 119, 110] : List UInt8) == [100, 117, 101]) = false ∧ (([100, 111, 119, 110] : List UInt8) == [110, 101, 116]) = false ∧ (([100, 111, 119, 110] : List UInt8) == [103, 114, 111, 115, 115]) = false ∧ (([100, 111, 119, 110] : List UInt8) == [99, 104, 97, 105, 110]) = false ∧ (([100, 111, 119, 110] : List UInt8) == [100, 111, 119, 110]) = true := by decide
theorem ep_what : (([119, 104, 97, 116] : List UInt8) == [115, 99, 97, 108, 101]) = false ∧ (([119, 104, 97, 116] : List UInt8) == [112, 97, 121, 115]) = false ∧ (([119, 104, 97, 116] : List UInt8) == [114, 97, 116, 101, 115]) = false ∧ (([119, 104, 97, 116] : List UInt8) == [116, 97, 98, 108, 101]) = false := by decide
theorem ea_what : (([119, 104, 97, 116] : List UInt8) == [116, 114, 105, 109]) = false ∧ (([119, 104, 97, 116] : List UInt8) == [97, 108, 105, 118, 101]) = false ∧ (([119, 104, 97, 116] : List UInt8) == [108, 105, 102, 101]) = false := by decide
theorem ep_empty : (([] : List UInt8) == [115, 99, 97, 108, 101]) = false ∧ (([] : List UInt8) == [112, 97, 121, 115]) = false ∧ (([] : List UInt8) == [114, 97, 116, 101, 115]) = false ∧ (([] : List UInt8) == [116, 97, 98, 108, 101]) = false := by decide
theorem ea_empty : (([] : List UInt8) == [116, 114, 105, 109]) = false ∧ (([] : List UInt8) == [97, 108, 105, 118, 101]) = false ∧ (([] : List UInt8) == [108, 105, 102, 101]) = false := by decide
section
variable {bs rs ps ra : List Int} {q : List Nat}
def dskZ (ps ra : List Int) (q : List Nat) : Blk := { ty := 29, w := 5, els := [.agg [.nils, .nils, .ro (ints ps), .ro (ints ra), .ro (flts q)]] }
theorem not_mean (x : List UInt8) {bs rs ps ra : List Int} {q : List Nat} (bad : Bool) : CallA Tryz.prog 62 [.ptr 0 0 0, .ptr 1 0 0] [dskB bs rs ps ra q, lwB [[109, 101, 97, 110], x] bad] (Ret (.tup [.str [], .bool false, .bool false]) [dskB bs rs ps ra q, lwB [[109, 101, 97, 110], x] bad]) := by
  refine CallP.out (t := .mk) (go_in (md := md62) mixed Tryz.func62 rfl go62 (by kernel_rfl) ?_)
  simp only [Zu, Za, Zb, Zg, Zh, Zi, Zk, Zl, Zm, Zn, ↓reduceIte, reduceCtorEq, Zd, Ze, Zc, Zf, Z62, dskB, deskV, lwB, strs, Int.reduceLE, ep_mean, iq2]
  exact PostR.same ⟨rfl, rfl⟩
theorem not_mix (x : List UInt8) {bs rs ps ra : List Int} {q : List Nat} (bad : Bool) : CallA Tryz.prog 62 [.ptr 0 0 0, .ptr 1 0 0] [dskB bs rs ps ra q, lwB [[109, 105, 120], x] bad] (Ret (.tup [.str [], .bool false, .bool false]) [dskB bs rs ps ra q, lwB [[109, 105, 120], x] bad]) := by
  refine CallP.out (t := .mk) (go_in (md := md62) mixed Tryz.func62 rfl go62 (by kernel_rfl) ?_)
  simp only [Zu, Za, Zb, Zg, Zh, Zi, Zk, Zl, Zm, Zn, ↓reduceIte, reduceCtorEq, Zd, Ze, Zc, Zf, Z62, dskB, deskV, lwB, strs, Int.reduceLE, ep_mix, iq2]
  exact PostR.same ⟨rfl, rfl⟩
theorem not_best (x : List UInt8) {bs rs ps ra : List Int} {q : List Nat} (bad : Bool) : CallA Tryz.prog 62 [.ptr 0 0 0, .ptr 1 0 0] [dskB bs rs ps ra q, lwB [[98, 101, 115, 116], x] bad] (Ret (.tup [.str [], .bool false, .bool false]) [dskB bs rs ps ra q, lwB [[98, 101, 115, 116], x] bad]) := by
  refine CallP.out (t := .mk) (go_in (md := md62) mixed Tryz.func62 rfl go62 (by kernel_rfl) ?_)
  simp only [Zu, Za, Zb, Zg, Zh, Zi, Zk, Zl, Zm, Zn, ↓reduceIte, reduceCtorEq, Zd, Ze, Zc, Zf, Z62, dskB, deskV, lwB, strs, Int.reduceLE, ep_best, iq2]
  exact PostR.same ⟨rfl, rfl⟩
theorem not_span (x : List UInt8) {bs rs ps ra : List Int} {q : List Nat} (bad : Bool) : CallA Tryz.prog 62 [.ptr 0 0 0, .ptr 1 0 0] [dskB bs rs ps ra q, lwB [[115, 112, 97, 110], x] bad] (Ret (.tup [.str [], .bool false, .bool false]) [dskB bs rs ps ra q, lwB [[115, 112, 97, 110], x] bad]) := by
  refine CallP.out (t := .mk) (go_in (md := md62) mixed Tryz.func62 rfl go62 (by kernel_rfl) ?_)
  simp only [Zu, Za, Zb, Zg, Zh, Zi, Zk, Zl, Zm, Zn, ↓reduceIte, reduceCtorEq, Zd, Ze, Zc, Zf, Z62, dskB, deskV, lwB, strs, Int.reduceLE, ep_span, iq2]
  exact PostR.same ⟨rfl, rfl⟩
theorem not_fund (x : List UInt8) {bs rs ps ra : List Int} {q : List Nat} (bad : Bool) : CallA Tryz.prog 62 [.ptr 0 0 0, .ptr 1 0 0] [dskB bs rs ps ra q, lwB [[102, 117, 110, 100], x] bad] (Ret (.tup [.str [], .bool false, .bool false]) [dskB bs rs ps ra q, lwB [[102, 117, 110, 100], x] bad]) := by
  refine CallP.out (t := .mk) (go_in (md := md62) mixed Tryz.func62 rfl go62 (by kernel_rfl) ?_)
  simp only [Zu, Za, Zb, Zg, Zh, Zi, Zk, Zl, Zm, Zn, ↓reduceIte, reduceCtorEq, Zd, Ze, Zc, Zf, Z62, dskB, deskV, lwB, strs, Int.reduceLE, ep_fund, iq2]
  exact PostR.same ⟨rfl, rfl⟩
theorem not_annuity (x : List UInt8) {bs rs ps ra : List Int} {q : List Nat} (bad : Bool) : CallA Tryz.prog 62 [.ptr 0 0 0, .ptr 1 0 0] [dskB bs rs ps ra q, lwB [[97, 110, 110, 117, 105, 116, 121], x] bad] (Ret (.tup [.str [], .bool false, .bool false]) [dskB bs rs ps ra q, lwB [[97, 110, 110, 117, 105, 116, 121], x] bad]) := by
  refine CallP.out (t := .mk) (go_in (md := md62) mixed Tryz.func62 rfl go62 (by kernel_rfl) ?_)
  simp only [Zu, Za, Zb, Zg, Zh, Zi, Zk, Zl, Zm, Zn, ↓reduceIte, reduceCtorEq, Zd, Ze, Zc, Zf, Z62, dskB, deskV, lwB, strs, Int.reduceLE, ep_annuity, iq2]
  exact PostR.same ⟨rfl, rfl⟩
theorem not_life {bs rs ps ra : List Int} {q : List Nat} (bad : Bool) : CallA Tryz.prog 62 [.ptr 0 0 0, .ptr 1 0 0] [dskB bs rs ps ra q, lwB [[108, 105, 102, 101]] bad] (Ret (.tup [.str [], .bool false, .bool false]) [dskB bs rs ps ra q, lwB [[108, 105, 102, 101]] bad]) := by
  refine CallP.out (t := .mk) (go_in (md := md62) mixed Tryz.func62 rfl go62 (by kernel_rfl) ?_)
  simp only [Zu, Za, Zb, Zg, Zh, Zi, Zk, Zl, Zm, Zn, ↓reduceIte, reduceCtorEq, Zd, Ze, Zc, Zf, Z62, dskB, deskV, lwB, strs, Int.reduceLE, ep_life, iq1]
  exact PostR.same ⟨rfl, rfl⟩
theorem not_gross (x y : List UInt8) {bs rs ps ra : List Int} {q : List Nat} (bad : Bool) : CallA Tryz.prog 62 [.ptr 0 0 0, .ptr 1 0 0] [dskB bs rs ps ra q, lwB [[103, 114, 111, 115, 115], x, y] bad] (Ret (.tup [.str [], .bool false, .bool false]) [dskB bs rs ps ra q, lwB [[103, 114, 111, 115, 115], x, y] bad]) := by
  refine CallP.out (t := .mk) (go_in (md := md62) mixed Tryz.func62 rfl go62 (by kernel_rfl) ?_)
  simp only [Zu, Za, Zb, Zg, Zh, Zi, Zk, Zl, Zm, Zn, ↓reduceIte, reduceCtorEq, Zd, Ze, Zc, Zf, Z62, dskB, deskV, lwB, strs, Int.reduceLE, ep_gross, iq3]
  exact PostR.same ⟨rfl, rfl⟩
theorem not_chain (x y : List UInt8) {bs rs ps ra : List Int} {q : List Nat} (bad : Bool) : CallA Tryz.prog 62 [.ptr 0 0 0, .ptr 1 0 0] [dskB bs rs ps ra q, lwB [[99, 104, 97, 105, 110], x, y] bad] (Ret (.tup [.str [], .bool false, .bool false]) [dskB bs rs ps ra q, lwB [[99, 104, 97, 105, 110], x, y] bad]) := by
  refine CallP.out (t := .mk) (go_in (md := md62) mixed Tryz.func62 rfl go62 (by kernel_rfl) ?_)
  simp only [Zu, Za, Zb, Zg, Zh, Zi, Zk, Zl, Zm, Zn, ↓reduceIte, reduceCtorEq, Zd, Ze, Zc, Zf, Z62, dskB, deskV, lwB, strs, Int.reduceLE, ep_chain, iq3]
  exact PostR.same ⟨rfl, rfl⟩
theorem not_down (x y : List UInt8) {bs rs ps ra : List Int} {q : List Nat} (bad : Bool) : CallA Tryz.prog 62 [.ptr 0 0 0, .ptr 1 0 0] [dskB bs rs ps ra q, lwB [[100, 111, 119, 110], x, y] bad] (Ret (.tup [.str [], .bool false, .bool false]) [dskB bs rs ps ra q, lwB [[100, 111, 119, 110], x, y] bad]) := by
  refine CallP.out (t := .mk) (go_in (md := md62) mixed Tryz.func62 rfl go62 (by kernel_rfl) ?_)
  simp only [Zu, Za, Zb, Zg, Zh, Zi, Zk, Zl, Zm, Zn, ↓reduceIte, reduceCtorEq, Zd, Ze, Zc, Zf, Z62, dskB, deskV, lwB, strs, Int.reduceLE, ep_down, iq3]
  exact PostR.same ⟨rfl, rfl⟩
theorem not_what {bs rs ps ra : List Int} {q : List Nat} (bad : Bool) : CallA Tryz.prog 62 [.ptr 0 0 0, .ptr 1 0 0] [dskB bs rs ps ra q, lwB [[119, 104, 97, 116]] bad] (Ret (.tup [.str [], .bool false, .bool false]) [dskB bs rs ps ra q, lwB [[119, 104, 97, 116]] bad]) := by
  refine CallP.out (t := .mk) (go_in (md := md62) mixed Tryz.func62 rfl go62 (by kernel_rfl) ?_)
  simp only [Zu, Za, Zb, Zg, Zh, Zi, Zk, Zl, Zm, Zn, ↓reduceIte, reduceCtorEq, Zd, Ze, Zc, Zf, Z62, dskB, deskV, lwB, strs, Int.reduceLE, ep_what, iq1]
  exact PostR.same ⟨rfl, rfl⟩
theorem not_empty {bs rs ps ra : List Int} {q : List Nat} (bad : Bool) : CallA Tryz.prog 62 [.ptr 0 0 0, .ptr 1 0 0] [dskB bs rs ps ra q, lwB [([] : List UInt8)] bad] (Ret (.tup [.str [], .bool false, .bool false]) [dskB bs rs ps ra q, lwB [([] : List UInt8)] bad]) := by
  refine CallP.out (t := .mk) (go_in (md := md62) mixed Tryz.func62 rfl go62 (by kernel_rfl) ?_)
  simp only [Zu, Za, Zb, Zg, Zh, Zi, Zk, Zl, Zm, Zn, ↓reduceIte, reduceCtorEq, Zd, Ze, Zc, Zf, Z62, dskB, deskV, lwB, strs, Int.reduceLE, ep_empty, iq1]
  exact PostR.same ⟨rfl, rfl⟩
theorem not_due1 (x : List UInt8) {bs rs ps ra : List Int} {q : List Nat} (bad : Bool) : CallA Tryz.prog 62 [.ptr 0 0 0, .ptr 1 0 0] [dskB bs rs ps ra q, lwB [[100, 117, 101], x] bad] (Ret (.tup [.str [], .bool false, .bool false]) [dskB bs rs ps ra q, lwB [[100, 117, 101], x] bad]) := by
  refine CallP.out (t := .mk) (go_in (md := md62) mixed Tryz.func62 rfl go62 (by kernel_rfl) ?_)
  simp only [Zu, Za, Zb, Zg, Zh, Zi, Zk, Zl, Zm, Zn, ↓reduceIte, reduceCtorEq, Zd, Ze, Zc, Zf, Z62, dskB, deskV, lwB, strs, Int.reduceLE, ep_due, iq2]
  exact PostR.same ⟨rfl, rfl⟩
theorem not_life1 (x : List UInt8) {bs rs ps ra : List Int} {q : List Nat} (bad : Bool) : CallA Tryz.prog 62 [.ptr 0 0 0, .ptr 1 0 0] [dskB bs rs ps ra q, lwB [[108, 105, 102, 101], x] bad] (Ret (.tup [.str [], .bool false, .bool false]) [dskB bs rs ps ra q, lwB [[108, 105, 102, 101], x] bad]) := by
  refine CallP.out (t := .mk) (go_in (md := md62) mixed Tryz.func62 rfl go62 (by kernel_rfl) ?_)
  simp only [Zu, Za, Zb, Zg, Zh, Zi, Zk, Zl, Zm, Zn, ↓reduceIte, reduceCtorEq, Zd, Ze, Zc, Zf, Z62, dskB, deskV, lwB, strs, Int.reduceLE, ep_life, iq2]
  exact PostR.same ⟨rfl, rfl⟩
theorem no_what {bs rs ps ra : List Int} {q : List Nat} (bad : Bool) : CallA Tryz.prog 63 [.ptr 0 0 0, .ptr 1 0 0] [dskB bs rs ps ra q, lwB [[119, 104, 97, 116]] bad] (Ret (.tup [.str [], .bool false, .bool false]) [dskB bs rs ps ra q, lwB [[119, 104, 97, 116]] bad]) := by
  refine CallP.out (t := .mk) (go_in (md := md63) mixed Tryz.func63 rfl go63 (by kernel_rfl) ?_)
  simp only [Zu, Za, Zb, Zg, Zh, Zi, Zk, Zl, Zm, Zn, ↓reduceIte, reduceCtorEq, Zd, Ze, Zc, Zf, Z63, dskB, deskV, lwB, strs, Int.reduceLE, ea_what, iq1]
  exact PostR.same ⟨rfl, rfl⟩
theorem no_empty {bs rs ps ra : List Int} {q : List Nat} (bad : Bool) : CallA Tryz.prog 63 [.ptr 0 0 0, .ptr 1 0 0] [dskB bs rs ps ra q, lwB [([] : List UInt8)] bad] (Ret (.tup [.str [], .bool false, .bool false]) [dskB bs rs ps ra q, lwB [([] : List UInt8)] bad]) := by
  refine CallP.out (t := .mk) (go_in (md := md63) mixed Tryz.func63 rfl go63 (by kernel_rfl) ?_)
  simp only [Zu, Za, Zb, Zg, Zh, Zi, Zk, Zl, Zm, Zn, ↓reduceIte, reduceCtorEq, Zd, Ze, Zc, Zf, Z63, dskB, deskV, lwB, strs, Int.reduceLE, ea_empty, iq1]
  exact PostR.same ⟨rfl, rfl⟩
theorem no_due1 (x : List UInt8) {bs rs ps ra : List Int} {q : List Nat} (bad : Bool) : CallA Tryz.prog 63 [.ptr 0 0 0, .ptr 1 0 0] [dskB bs rs ps ra q, lwB [[100, 117, 101], x] bad] (Ret (.tup [.str [], .bool false, .bool false]) [dskB bs rs ps ra q, lwB [[100, 117, 101], x] bad]) := by
  refine CallP.out (t := .mk) (go_in (md := md63) mixed Tryz.func63 rfl go63 (by kernel_rfl) ?_)
  simp only [Zu, Za, Zb, Zg, Zh, Zi, Zk, Zl, Zm, Zn, ↓reduceIte, reduceCtorEq, Zd, Ze, Zc, Zf, Z63, dskB, deskV, lwB, strs, Int.reduceLE, eb_due, iq2]
  exact PostR.same ⟨rfl, rfl⟩
theorem no_life1 (x : List UInt8) {bs rs ps ra : List Int} {q : List Nat} (bad : Bool) : CallA Tryz.prog 63 [.ptr 0 0 0, .ptr 1 0 0] [dskB bs rs ps ra q, lwB [[108, 105, 102, 101], x] bad] (Ret (.tup [.str [], .bool false, .bool false]) [dskB bs rs ps ra q, lwB [[108, 105, 102, 101], x] bad]) := by
  refine CallP.out (t := .mk) (go_in (md := md63) mixed Tryz.func63 rfl go63 (by kernel_rfl) ?_)
  simp only [Zu, Za, Zb, Zg, Zh, Zi, Zk, Zl, Zm, Zn, ↓reduceIte, reduceCtorEq, Zd, Ze, Zc, Zf, Z63, dskB, deskV, lwB, strs, Int.reduceLE, eb_life, iq2]
  exact PostR.same ⟨rfl, rfl⟩
theorem Dok.lenS (D : Dok bs rs ps ra q) : (1 ≤ bs.length ∧ bs.length ≤ 1000) ∧ (1 ≤ rs.length ∧ rs.length ≤ 1000) ∧ (1 ≤ ps.length ∧ ps.length ≤ 1000) ∧ (1 ≤ ra.length ∧ ra.length ≤ 1000) ∧ (1 ≤ q.length ∧ q.length ≤ 1000) := by
  obtain ⟨h1, h2, h3⟩ := D.b1
  have a := D.pys.one
  have b := D.pys.six
  have c := D.rts.one
  have d := D.rts.six
  have e := D.tab.one
  have f := D.tab.six
  omega
theorem bad_pays (D : Dok bs rs ps ra q) (t : List UInt8) (xs : List Int) (hl : xs.length ≤ 1000) (hr : CallA Tryz.prog 40 [.str t] [] (Ret (.tup [.ro (ints xs), .bool true]) [])) (hv : validD bs rs xs ra q = false) (bad : Bool) : CallA Tryz.prog 62 [.ptr 0 0 0, .ptr 1 0 0] [dskB bs rs ps ra q, lwB [[112, 97, 121, 115], t] bad] (Ret (.tup [.str ([111, 107]), .bool false, .bool true]) [dskB bs rs xs ra q, lwB [[112, 97, 121, 115], t] bad]) := by
  obtain ⟨⟨a1, a2⟩, ⟨a3, a4⟩, ⟨a5, a6⟩, ⟨a7, a8⟩, ⟨a9, a10⟩⟩ := D.lenS
  have vd := implValid_call bs rs xs ra q (by omega) (by omega) (by omega) (by omega) (by omega)
  rw [hv] at vd
  refine CallP.out (t := .mk) (go_in (md := md62) mixed Tryz.func62 rfl go62 (by kernel_rfl) ?_)
  simp only [Zu, Za, Zb, Zg, Zh, Zi, Zk, Zl, Zm, Zn, ↓reduceIte, reduceCtorEq, Zd, Ze, Zc, Zf, Z62, dskB, deskV, lwB, strs, Int.reduceLE, ep_pays, iq2]
  refine call_ret (hr) rfl rfl ?_
  simp only [Zu, Za, Zb, Zg, Zh, Zi, Zk, Zl, Zm, Zn, ↓reduceIte, reduceCtorEq, Zd, Ze, Zc, Zf, Z62, dskB, deskV, lwB, strs, Int.reduceLE, ep_pays, iq2]
  refine call_ret (vd) rfl rfl ?_
  simp only [Zu, Za, Zb, Zg, Zh, Zi, Zk, Zl, Zm, Zn, ↓reduceIte, reduceCtorEq, Zd, Ze, Zc, Zf, Z62, dskB, deskV, lwB, strs, Int.reduceLE, ep_pays, iq2]
  exact PostR.same ⟨rfl, rfl⟩
theorem bad_rates (D : Dok bs rs ps ra q) (t : List UInt8) (xs : List Int) (hl : xs.length ≤ 1000) (hr : CallA Tryz.prog 40 [.str t] [] (Ret (.tup [.ro (ints xs), .bool true]) [])) (hv : validD bs rs ps xs q = false) (bad : Bool) : CallA Tryz.prog 62 [.ptr 0 0 0, .ptr 1 0 0] [dskB bs rs ps ra q, lwB [[114, 97, 116, 101, 115], t] bad] (Ret (.tup [.str ([111, 107]), .bool false, .bool true]) [dskB bs rs ps xs q, lwB [[114, 97, 116, 101, 115], t] bad]) := by
  obtain ⟨⟨a1, a2⟩, ⟨a3, a4⟩, ⟨a5, a6⟩, ⟨a7, a8⟩, ⟨a9, a10⟩⟩ := D.lenS
  have vd := implValid_call bs rs ps xs q (by omega) (by omega) (by omega) (by omega) (by omega)
  rw [hv] at vd
  refine CallP.out (t := .mk) (go_in (md := md62) mixed Tryz.func62 rfl go62 (by kernel_rfl) ?_)
  simp only [Zu, Za, Zb, Zg, Zh, Zi, Zk, Zl, Zm, Zn, ↓reduceIte, reduceCtorEq, Zd, Ze, Zc, Zf, Z62, dskB, deskV, lwB, strs, Int.reduceLE, ep_rates, iq2]
  refine call_ret (hr) rfl rfl ?_
  simp only [Zu, Za, Zb, Zg, Zh, Zi, Zk, Zl, Zm, Zn, ↓reduceIte, reduceCtorEq, Zd, Ze, Zc, Zf, Z62, dskB, deskV, lwB, strs, Int.reduceLE, ep_rates, iq2]
  refine call_ret (vd) rfl rfl ?_
  simp only [Zu, Za, Zb, Zg, Zh, Zi, Zk, Zl, Zm, Zn, ↓reduceIte, reduceCtorEq, Zd, Ze, Zc, Zf, Z62, dskB, deskV, lwB, strs, Int.reduceLE, ep_rates, iq2]
  exact PostR.same ⟨rfl, rfl⟩
theorem bad_table (D : Dok bs rs ps ra q) (t : List UInt8) (xs : List Nat) (hl : xs.length ≤ 1000) (hr : CallA Tryz.prog 16 [.str t] [] (Ret (.tup [.ro (flts xs), .bool true]) [])) (hv : validD bs rs ps ra xs = false) (bad : Bool) : CallA Tryz.prog 62 [.ptr 0 0 0, .ptr 1 0 0] [dskB bs rs ps ra q, lwB [[116, 97, 98, 108, 101], t] bad] (Ret (.tup [.str ([111, 107]), .bool false, .bool true]) [dskB bs rs ps ra xs, lwB [[116, 97, 98, 108, 101], t] bad]) := by
  obtain ⟨⟨a1, a2⟩, ⟨a3, a4⟩, ⟨a5, a6⟩, ⟨a7, a8⟩, ⟨a9, a10⟩⟩ := D.lenS
  have vd := implValid_call bs rs ps ra xs (by omega) (by omega) (by omega) (by omega) (by omega)
  rw [hv] at vd
  refine CallP.out (t := .mk) (go_in (md := md62) mixed Tryz.func62 rfl go62 (by kernel_rfl) ?_)
  simp only [Zu, Za, Zb, Zg, Zh, Zi, Zk, Zl, Zm, Zn, ↓reduceIte, reduceCtorEq, Zd, Ze, Zc, Zf, Z62, dskB, deskV, lwB, strs, Int.reduceLE, ep_table, iq2]
  refine call_ret (hr) rfl rfl ?_
  simp only [Zu, Za, Zb, Zg, Zh, Zi, Zk, Zl, Zm, Zn, ↓reduceIte, reduceCtorEq, Zd, Ze, Zc, Zf, Z62, dskB, deskV, lwB, strs, Int.reduceLE, ep_table, iq2]
  refine call_ret (vd) rfl rfl ?_
  simp only [Zu, Za, Zb, Zg, Zh, Zi, Zk, Zl, Zm, Zn, ↓reduceIte, reduceCtorEq, Zd, Ze, Zc, Zf, Z62, dskB, deskV, lwB, strs, Int.reduceLE, ep_table, iq2]
  exact PostR.same ⟨rfl, rfl⟩
theorem bad_scale (D : Dok bs rs ps ra q) (t : List UInt8) (hr : CallA Tryz.prog 14 [.str t] [] (Ret (.tup [.agg [.nils, .nils], .bool false]) [])) (bad : Bool) : CallA Tryz.prog 62 [.ptr 0 0 0, .ptr 1 0 0] [dskB bs rs ps ra q, lwB [[115, 99, 97, 108, 101], t] bad] (Ret (.tup [.str ([111, 107]), .bool false, .bool true]) [dskZ ps ra q, lwB [[115, 99, 97, 108, 101], t] bad]) := by
  refine CallP.out (t := .mk) (go_in (md := md62) mixed Tryz.func62 rfl go62 (by kernel_rfl) ?_)
  simp only [Zu, Za, Zb, Zg, Zh, Zi, Zk, Zl, Zm, Zn, ↓reduceIte, reduceCtorEq, Zd, Ze, Zc, Zf, Z62, dskB, deskV, lwB, strs, Int.reduceLE, ep_scale, iq2]
  refine call_ret (hr) rfl rfl ?_
  simp only [Zu, Za, Zb, Zg, Zh, Zi, Zk, Zl, Zm, Zn, ↓reduceIte, reduceCtorEq, Zd, Ze, Zc, Zf, Z62, dskB, deskV, lwB, strs, Int.reduceLE, ep_scale, iq2]
  exact PostR.same ⟨rfl, rfl⟩
theorem do_life (D : Dok bs rs ps ra q) (bad : Bool) : CallA Tryz.prog 63 [.ptr 0 0 0, .ptr 1 0 0] [dskB bs rs ps ra q, lwB [[108, 105, 102, 101]] bad] (Ret (.tup [.str (wdsT (hexW [if finB .f32 (yrF q) then yrF q else 0])), .bool (finB .f32 (yrF q)), .bool true]) [dskB bs rs ps ra q, lwB [[108, 105, 102, 101]] bad]) := by
  have al := alvL_len q
  have ok := fin_okW (yrF q) (yr_okW q)
  have yg := years_gen D.tab
  unfold finA at yg
  refine CallP.out (t := .mk) (go_in (md := md63) mixed Tryz.func63 rfl go63 (by kernel_rfl) ?_)
  simp only [Zu, Za, Zb, Zg, Zh, Zi, Zk, Zl, Zm, Zn, ↓reduceIte, reduceCtorEq, Zd, Ze, Zc, Zf, Z63, dskB, deskV, lwB, strs, Int.reduceLE, ea_life, iq1]
  refine call_ret (yg) rfl rfl ?_
  simp only [Zu, Za, Zb, Zg, Zh, Zi, Zk, Zl, Zm, Zn, ↓reduceIte, reduceCtorEq, Zd, Ze, Zc, Zf, Z63, dskB, deskV, lwB, strs, Int.reduceLE, ea_life, iq1]
  refine call_ret (toldOne_call _ _ ok) rfl rfl ?_
  simp only [Zu, Za, Zb, Zg, Zh, Zi, Zk, Zl, Zm, Zn, ↓reduceIte, reduceCtorEq, Zd, Ze, Zc, Zf, Z63, dskB, deskV, lwB, strs, Int.reduceLE, ea_life, iq1]
  exact PostR.same ⟨rfl, rfl⟩
theorem do_mean (D : Dok bs rs ps ra q) {b : Bool} (n p r : Int) (h0 : 0 ≤ n) (h1 : n ≤ 10000) (hp : okM p) (hr : okM r) (hc : CallA Tryz.prog 92 [.agg [.ro (ints bs), .ro (ints rs)], .int .i64 n] [] (Ret (.tup [.int .i64 p, .int .i64 r, .bool b]) [])) (bad : Bool) : CallA Tryz.prog 63 [.ptr 0 0 0, .ptr 1 0 0] [dskB bs rs ps ra q, lwB [[109, 101, 97, 110], Lib.itoa n] bad] (Ret (.tup [.str (txt [44] [p, r]), .bool b, .bool true]) [dskB bs rs ps ra q, lwB [[109, 101, 97, 110], Lib.itoa n] bad]) := by
  have hn : okM n := ⟨by omega, by omega⟩
  refine CallP.out (t := .mk) (go_in (md := md63) mixed Tryz.func63 rfl go63 (by kernel_rfl) ?_)
  simp only [Zu, Za, Zb, Zg, Zh, Zi, Zk, Zl, Zm, Zn, ↓reduceIte, reduceCtorEq, Zd, Ze, Zc, Zf, Z63, dskB, deskV, lwB, strs, Int.reduceLE, eb_mean, iq2]
  refine callr_by (.int .i64 n) (number1_at (dskB bs rs ps ra q) _ _ [] n rfl hn bad) ?_
  simp only [Zu, Za, Zb, Zg, Zh, Zi, Zk, Zl, Zm, Zn, ↓reduceIte, reduceCtorEq, Zd, Ze, Zc, Zf, Z63, dskB, deskV, lwB, strs, Int.reduceLE, eb_mean, iq2]
  refine callr_ret (hc) rfl rfl ?_
  simp only [Zu, Za, Zb, Zg, Zh, Zi, Zk, Zl, Zm, Zn, ↓reduceIte, reduceCtorEq, Zd, Ze, Zc, Zf, Z63, dskB, deskV, lwB, strs, Int.reduceLE, eb_mean, iq2]
  refine callr_ret (toldPair_call p r b hp hr) rfl rfl ?_
  simp only [Zu, Za, Zb, Zg, Zh, Zi, Zk, Zl, Zm, Zn, ↓reduceIte, reduceCtorEq, Zd, Ze, Zc, Zf, Z63, dskB, deskV, lwB, strs, Int.reduceLE, eb_mean, iq2]
  exact PostR.same ⟨rfl, rfl⟩
theorem no_hold (D : Dok bs rs ps ra q) (n : Int) (h0 : 3 < n) (h1 : n ≤ 10000) (bad : Bool) : CallA Tryz.prog 63 [.ptr 0 0 0, .ptr 1 0 0] [dskB bs rs ps ra q, lwB [[104, 111, 108, 100], Lib.itoa n] bad] (Ret (.tup [.str (noneT), .bool false, .bool true]) [dskB bs rs ps ra q, lwB [[104, 111, 108, 100], Lib.itoa n] bad]) := by
  have hn : okM n := ⟨by omega, by omega⟩
  refine CallP.out (t := .mk) (go_in (md := md63) mixed Tryz.func63 rfl go63 (by kernel_rfl) ?_)
  simp only [Zu, Za, Zb, Zg, Zh, Zi, Zk, Zl, Zm, Zn, ↓reduceIte, reduceCtorEq, Zd, Ze, Zc, Zf, Z63, dskB, deskV, lwB, strs, Int.reduceLE, eb_hold, iq2]
  refine callr_by (.int .i64 n) (number1_at (dskB bs rs ps ra q) _ _ [] n rfl hn bad) ?_
  simp only [Zu, Za, Zb, Zg, Zh, Zi, Zk, Zl, Zm, Zn, ↓reduceIte, reduceCtorEq, Zd, Ze, Zc, Zf, Z63, dskB, deskV, lwB, strs, Int.reduceLE, eb_hold, iq2]
  refine callr_ret (hold_out D n h0) rfl rfl ?_
  simp only [Zu, Za, Zb, Zg, Zh, Zi, Zk, Zl, Zm, Zn, ↓reduceIte, reduceCtorEq, Zd, Ze, Zc, Zf, Z63, dskB, deskV, lwB, strs, Int.reduceLE, eb_hold, iq2]
  refine callr_ret (toldNil_call) rfl rfl ?_
  simp only [Zu, Za, Zb, Zg, Zh, Zi, Zk, Zl, Zm, Zn, ↓reduceIte, reduceCtorEq, Zd, Ze, Zc, Zf, Z63, dskB, deskV, lwB, strs, Int.reduceLE, eb_hold, iq2]
  exact PostR.same ⟨rfl, rfl⟩
theorem no_share (D : Dok bs rs ps ra q) (n : Int) (h0 : 1000000000 < n) (h1 : n ≤ 2000000000) (bad : Bool) : CallA Tryz.prog 63 [.ptr 0 0 0, .ptr 1 0 0] [dskB bs rs ps ra q, lwB [[115, 104, 97, 114, 101], Lib.itoa n] bad] (Ret (.tup [.str (noneT), .bool false, .bool true]) [dskB bs rs ps ra q, lwB [[115, 104, 97, 114, 101], Lib.itoa n] bad]) := by
  have hn : okM n := ⟨by omega, by omega⟩
  refine CallP.out (t := .mk) (go_in (md := md63) mixed Tryz.func63 rfl go63 (by kernel_rfl) ?_)
  simp only [Zu, Za, Zb, Zg, Zh, Zi, Zk, Zl, Zm, Zn, ↓reduceIte, reduceCtorEq, Zd, Ze, Zc, Zf, Z63, dskB, deskV, lwB, strs, Int.reduceLE, eb_share, iq2]
  refine callr_by (.int .i64 n) (number1_at (dskB bs rs ps ra q) _ _ [] n rfl hn bad) ?_
  simp only [Zu, Za, Zb, Zg, Zh, Zi, Zk, Zl, Zm, Zn, ↓reduceIte, reduceCtorEq, Zd, Ze, Zc, Zf, Z63, dskB, deskV, lwB, strs, Int.reduceLE, eb_share, iq2]
  refine callr_ret (share_out D n h0) rfl rfl ?_
  simp only [Zu, Za, Zb, Zg, Zh, Zi, Zk, Zl, Zm, Zn, ↓reduceIte, reduceCtorEq, Zd, Ze, Zc, Zf, Z63, dskB, deskV, lwB, strs, Int.reduceLE, eb_share, iq2]
  refine callr_ret (toldNil_call) rfl rfl ?_
  simp only [Zu, Za, Zb, Zg, Zh, Zi, Zk, Zl, Zm, Zn, ↓reduceIte, reduceCtorEq, Zd, Ze, Zc, Zf, Z63, dskB, deskV, lwB, strs, Int.reduceLE, eb_share, iq2]
  exact PostR.same ⟨rfl, rfl⟩
theorem no_safe (D : Dok bs rs ps ra q) (n : Int) (h0 : n < 0) (h1 : -100 ≤ n) (bad : Bool) : CallA Tryz.prog 63 [.ptr 0 0 0, .ptr 1 0 0] [dskB bs rs ps ra q, lwB [[115, 97, 102, 101], Lib.itoa n] bad] (Ret (.tup [.str (Lib.itoa 0), .bool false, .bool true]) [dskB bs rs ps ra q, lwB [[115, 97, 102, 101], Lib.itoa n] bad]) := by
  have hn : okM n := ⟨by omega, by omega⟩
  refine CallP.out (t := .mk) (go_in (md := md63) mixed Tryz.func63 rfl go63 (by kernel_rfl) ?_)
  simp only [Zu, Za, Zb, Zg, Zh, Zi, Zk, Zl, Zm, Zn, ↓reduceIte, reduceCtorEq, Zd, Ze, Zc, Zf, Z63, dskB, deskV, lwB, strs, Int.reduceLE, eb_safe, iq2]
  refine callr_by (.int .i64 n) (number1_at (dskB bs rs ps ra q) _ _ [] n rfl hn bad) ?_
  simp only [Zu, Za, Zb, Zg, Zh, Zi, Zk, Zl, Zm, Zn, ↓reduceIte, reduceCtorEq, Zd, Ze, Zc, Zf, Z63, dskB, deskV, lwB, strs, Int.reduceLE, eb_safe, iq2]
  refine callr_ret (safe_out D n h0) rfl rfl ?_
  simp only [Zu, Za, Zb, Zg, Zh, Zi, Zk, Zl, Zm, Zn, ↓reduceIte, reduceCtorEq, Zd, Ze, Zc, Zf, Z63, dskB, deskV, lwB, strs, Int.reduceLE, eb_safe, iq2]
  refine callr_ret (told_call 0 false (by decide) (by decide)) rfl rfl ?_
  simp only [Zu, Za, Zb, Zg, Zh, Zi, Zk, Zl, Zm, Zn, ↓reduceIte, reduceCtorEq, Zd, Ze, Zc, Zf, Z63, dskB, deskV, lwB, strs, Int.reduceLE, eb_safe, iq2]
  exact PostR.same ⟨rfl, rfl⟩
theorem do_best (D : Dok bs rs ps ra q) {b : Bool} (n v : Int) (h0 : 0 ≤ n) (h1 : n ≤ 10000) (hv : okM v) (hc : CallA Tryz.prog 100 [.ro (ints ps), .int .i64 n] [] (Ret (.tup [.int .i64 v, .bool b]) [])) (bad : Bool) : CallA Tryz.prog 63 [.ptr 0 0 0, .ptr 1 0 0] [dskB bs rs ps ra q, lwB [[98, 101, 115, 116], Lib.itoa n] bad] (Ret (.tup [.str (Lib.itoa v), .bool b, .bool true]) [dskB bs rs ps ra q, lwB [[98, 101, 115, 116], Lib.itoa n] bad]) := by
  have hn : okM n := ⟨by omega, by omega⟩
  refine CallP.out (t := .mk) (go_in (md := md63) mixed Tryz.func63 rfl go63 (by kernel_rfl) ?_)
  simp only [Zu, Za, Zb, Zg, Zh, Zi, Zk, Zl, Zm, Zn, ↓reduceIte, reduceCtorEq, Zd, Ze, Zc, Zf, Z63, dskB, deskV, lwB, strs, Int.reduceLE, eb_best, iq2]
  refine callr_by (.int .i64 n) (number1_at (dskB bs rs ps ra q) _ _ [] n rfl hn bad) ?_
  simp only [Zu, Za, Zb, Zg, Zh, Zi, Zk, Zl, Zm, Zn, ↓reduceIte, reduceCtorEq, Zd, Ze, Zc, Zf, Z63, dskB, deskV, lwB, strs, Int.reduceLE, eb_best, iq2]
  refine callr_ret (hc) rfl rfl ?_
  simp only [Zu, Za, Zb, Zg, Zh, Zi, Zk, Zl, Zm, Zn, ↓reduceIte, reduceCtorEq, Zd, Ze, Zc, Zf, Z63, dskB, deskV, lwB, strs, Int.reduceLE, eb_best, iq2]
  refine callr_ret (told_call v b hv.i.1 hv.i.2) rfl rfl ?_
  simp only [Zu, Za, Zb, Zg, Zh, Zi, Zk, Zl, Zm, Zn, ↓reduceIte, reduceCtorEq, Zd, Ze, Zc, Zf, Z63, dskB, deskV, lwB, strs, Int.reduceLE, eb_best, iq2]
  exact PostR.same ⟨rfl, rfl⟩
theorem do_span (D : Dok bs rs ps ra q) {b : Bool} (n p v : Int) (h0 : 0 ≤ n) (h1 : n ≤ 10000) (hp : okM p) (hv : okM v) (hc : CallA Tryz.prog 101 [.ro (ints ps), .int .i64 n] [] (Ret (.tup [.int .i64 p, .int .i64 v, .bool b]) [])) (bad : Bool) : CallA Tryz.prog 63 [.ptr 0 0 0, .ptr 1 0 0] [dskB bs rs ps ra q, lwB [[115, 112, 97, 110], Lib.itoa n] bad] (Ret (.tup [.str (txt [44] [p, v]), .bool b, .bool true]) [dskB bs rs ps ra q, lwB [[115, 112, 97, 110], Lib.itoa n] bad]) := by
  have hn : okM n := ⟨by omega, by omega⟩
  refine CallP.out (t := .mk) (go_in (md := md63) mixed Tryz.func63 rfl go63 (by kernel_rfl) ?_)
  simp only [Zu, Za, Zb, Zg, Zh, Zi, Zk, Zl, Zm, Zn, ↓reduceIte, reduceCtorEq, Zd, Ze, Zc, Zf, Z63, dskB, deskV, lwB, strs, Int.reduceLE, eb_span, iq2]
  refine callr_by (.int .i64 n) (number1_at (dskB bs rs ps ra q) _ _ [] n rfl hn bad) ?_
  simp only [Zu, Za, Zb, Zg, Zh, Zi, Zk, Zl, Zm, Zn, ↓reduceIte, reduceCtorEq, Zd, Ze, Zc, Zf, Z63, dskB, deskV, lwB, strs, Int.reduceLE, eb_span, iq2]
  refine callr_ret (hc) rfl rfl ?_
  simp only [Zu, Za, Zb, Zg, Zh, Zi, Zk, Zl, Zm, Zn, ↓reduceIte, reduceCtorEq, Zd, Ze, Zc, Zf, Z63, dskB, deskV, lwB, strs, Int.reduceLE, eb_span, iq2]
  refine callr_ret (toldPair_call p v b hp hv) rfl rfl ?_
  simp only [Zu, Za, Zb, Zg, Zh, Zi, Zk, Zl, Zm, Zn, ↓reduceIte, reduceCtorEq, Zd, Ze, Zc, Zf, Z63, dskB, deskV, lwB, strs, Int.reduceLE, eb_span, iq2]
  exact PostR.same ⟨rfl, rfl⟩
theorem do_fund (D : Dok bs rs ps ra q) (n : Int) (h0 : 0 ≤ n) (h1 : n ≤ 4000) (hl : ra.length = ps.length) (bad : Bool) : CallA Tryz.prog 63 [.ptr 0 0 0, .ptr 1 0 0] [dskB bs rs ps ra q, lwB [[102, 117, 110, 100], Lib.itoa n] bad] (Ret (.tup [.str (lsT (fnL ps ra n ps.length)), .bool true, .bool true]) [dskB bs rs ps ra q, lwB [[102, 117, 110, 100], Lib.itoa n] bad]) := by
  have hn : okM n := ⟨by omega, by omega⟩
  have ll : (fnL ps ra n ps.length).length = ps.length := rngL_len _ _
  have h6 := D.pys.six
  refine CallP.out (t := .mk) (go_in (md := md63) mixed Tryz.func63 rfl go63 (by kernel_rfl) ?_)
  simp only [Zu, Za, Zb, Zg, Zh, Zi, Zk, Zl, Zm, Zn, ↓reduceIte, reduceCtorEq, Zd, Ze, Zc, Zf, Z63, dskB, deskV, lwB, strs, Int.reduceLE, eb_fund, iq2]
  refine callr_by (.int .i64 n) (number1_at (dskB bs rs ps ra q) _ _ [] n rfl hn bad) ?_
  simp only [Zu, Za, Zb, Zg, Zh, Zi, Zk, Zl, Zm, Zn, ↓reduceIte, reduceCtorEq, Zd, Ze, Zc, Zf, Z63, dskB, deskV, lwB, strs, Int.reduceLE, eb_fund, iq2]
  refine callr_ret (fund_ro D.pys D.rts hl n h0 h1) rfl rfl ?_
  simp only [Zu, Za, Zb, Zg, Zh, Zi, Zk, Zl, Zm, Zn, ↓reduceIte, reduceCtorEq, Zd, Ze, Zc, Zf, Z63, dskB, deskV, lwB, strs, Int.reduceLE, eb_fund, iq2]
  refine callr_ret (toldL_call _ true (by omega) (fnL_ok D.pys D.rts hl h0 h1)) rfl rfl ?_
  simp only [Zu, Za, Zb, Zg, Zh, Zi, Zk, Zl, Zm, Zn, ↓reduceIte, reduceCtorEq, Zd, Ze, Zc, Zf, Z63, dskB, deskV, lwB, strs, Int.reduceLE, eb_fund, iq2]
  exact PostR.same ⟨rfl, rfl⟩
theorem no_fund (D : Dok bs rs ps ra q) (n : Int) (h0 : 0 ≤ n) (h1 : n ≤ 4000) (hl : ra.length ≠ ps.length) (bad : Bool) : CallA Tryz.prog 63 [.ptr 0 0 0, .ptr 1 0 0] [dskB bs rs ps ra q, lwB [[102, 117, 110, 100], Lib.itoa n] bad] (Ret (.tup [.str (noneT), .bool false, .bool true]) [dskB bs rs ps ra q, lwB [[102, 117, 110, 100], Lib.itoa n] bad]) := by
  have hn : okM n := ⟨by omega, by omega⟩
  refine CallP.out (t := .mk) (go_in (md := md63) mixed Tryz.func63 rfl go63 (by kernel_rfl) ?_)
  simp only [Zu, Za, Zb, Zg, Zh, Zi, Zk, Zl, Zm, Zn, ↓reduceIte, reduceCtorEq, Zd, Ze, Zc, Zf, Z63, dskB, deskV, lwB, strs, Int.reduceLE, eb_fund, iq2]
  refine callr_by (.int .i64 n) (number1_at (dskB bs rs ps ra q) _ _ [] n rfl hn bad) ?_
  simp only [Zu, Za, Zb, Zg, Zh, Zi, Zk, Zl, Zm, Zn, ↓reduceIte, reduceCtorEq, Zd, Ze, Zc, Zf, Z63, dskB, deskV, lwB, strs, Int.reduceLE, eb_fund, iq2]
  refine callr_ret (fund_no D.pys D.rts hl n h0 h1) rfl rfl ?_
  simp only [Zu, Za, Zb, Zg, Zh, Zi, Zk, Zl, Zm, Zn, ↓reduceIte, reduceCtorEq, Zd, Ze, Zc, Zf, Z63, dskB, deskV, lwB, strs, Int.reduceLE, eb_fund, iq2]
  refine callr_ret (toldNil_call) rfl rfl ?_
  simp only [Zu, Za, Zb, Zg, Zh, Zi, Zk, Zl, Zm, Zn, ↓reduceIte, reduceCtorEq, Zd, Ze, Zc, Zf, Z63, dskB, deskV, lwB, strs, Int.reduceLE, eb_fund, iq2]
  exact PostR.same ⟨rfl, rfl⟩
theorem dg_due (D : Dok bs rs ps ra q) {b : Bool} (n k : Int) (n0 : -100 ≤ n) (n1 : n ≤ 10000) (k0 : 0 ≤ k) (k1 : k ≤ 10000) (v : Int) (hv : okM v) (hc : CallA Tryz.prog 105 [.agg [.ro (ints bs), .ro (ints rs)], .int .i64 n, .int .i64 k] [] (Ret (.tup [.int .i64 v, .bool b]) [])) (bad : Bool) : CallA Tryz.prog 64 [.ptr 0 0 0, .ptr 1 0 0] [dskB bs rs ps ra q, lwB [[100, 117, 101], Lib.itoa n, Lib.itoa k] bad] (Ret (.tup [.str (Lib.itoa v), .bool b, .bool true]) [dskB bs rs ps ra q, lwB [[100, 117, 101], Lib.itoa n, Lib.itoa k] bad]) := by
  have hn : okM n := ⟨by omega, by omega⟩
  have hk : okM k := ⟨by omega, by omega⟩
  refine CallP.out (t := .mk) (go_in (md := md64) mixed Tryz.func64 rfl go64 (by kernel_rfl) ?_)
  simp only [Zu, Za, Zb, Zg, Zh, Zi, Zk, Zl, Zm, Zn, ↓reduceIte, reduceCtorEq, Zd, Ze, Zc, Zf, Z64, dskB, deskV, lwB, strs, Int.reduceLE, ed_due, iq3]
  refine call_handed [1] (number1_call _ _ [Lib.itoa k] n rfl hn bad) (by decide) ⟨⟨rfl, rfl⟩, trivial⟩ rfl rfl rfl rfl (by intro q hq; simp at hq; subst hq; rfl) ?_
  simp only [Zu, Za, Zb, Zg, Zh, Zi, Zk, Zl, Zm, Zn, ↓reduceIte, reduceCtorEq, Zd, Ze, Zc, Zf, Z64, dskB, deskV, lwB, strs, Int.reduceLE, ed_due, iq3, ren, renM, renL, putF]
  refine call_handed [1] (number2_call _ _ _ [] k rfl hk bad) (by decide) ⟨⟨rfl, rfl⟩, trivial⟩ rfl rfl rfl rfl (by intro q hq; simp at hq; subst hq; rfl) ?_
  simp only [Zu, Za, Zb, Zg, Zh, Zi, Zk, Zl, Zm, Zn, ↓reduceIte, reduceCtorEq, Zd, Ze, Zc, Zf, Z64, dskB, deskV, lwB, strs, Int.reduceLE, ed_due, iq3, ren, renM, renL, putF]
  refine call_ret (hc) rfl rfl ?_
  simp only [Zu, Za, Zb, Zg, Zh, Zi, Zk, Zl, Zm, Zn, ↓reduceIte, reduceCtorEq, Zd, Ze, Zc, Zf, Z64, dskB, deskV, lwB, strs, Int.reduceLE, ed_due, iq3]
  refine call_ret (told_call v b hv.i.1 hv.i.2) rfl rfl ?_
  simp only [Zu, Za, Zb, Zg, Zh, Zi, Zk, Zl, Zm, Zn, ↓reduceIte, reduceCtorEq, Zd, Ze, Zc, Zf, Z64, dskB, deskV, lwB, strs, Int.reduceLE, ed_due, iq3]
  exact PostR.same ⟨rfl, rfl⟩
theorem dg_net (D : Dok bs rs ps ra q) {b : Bool} (n k : Int) (n0 : -100 ≤ n) (n1 : n ≤ 10000) (k0 : 0 ≤ k) (k1 : k ≤ 10000) (v : Int) (hv : okM v) (hc : CallA Tryz.prog 106 [.agg [.ro (ints bs), .ro (ints rs)], .int .i64 n, .int .i64 k] [] (Ret (.tup [.int .i64 v, .bool b]) [])) (bad : Bool) : CallA Tryz.prog 64 [.ptr 0 0 0, .ptr 1 0 0] [dskB bs rs ps ra q, lwB [[110, 101, 116], Lib.itoa n, Lib.itoa k] bad] (Ret (.tup [.str (Lib.itoa v), .bool b, .bool true]) [dskB bs rs ps ra q, lwB [[110, 101, 116], Lib.itoa n, Lib.itoa k] bad]) := by
  have hn : okM n := ⟨by omega, by omega⟩
  have hk : okM k := ⟨by omega, by omega⟩
  refine CallP.out (t := .mk) (go_in (md := md64) mixed Tryz.func64 rfl go64 (by kernel_rfl) ?_)
  simp only [Zu, Za, Zb, Zg, Zh, Zi, Zk, Zl, Zm, Zn, ↓reduceIte, reduceCtorEq, Zd, Ze, Zc, Zf, Z64, dskB, deskV, lwB, strs, Int.reduceLE, ed_net, iq3]
  refine call_handed [1] (number1_call _ _ [Lib.itoa k] n rfl hn bad) (by decide) ⟨⟨rfl, rfl⟩, trivial⟩ rfl rfl rfl rfl (by intro q hq; simp at hq; subst hq; rfl) ?_
  simp only [Zu, Za, Zb, Zg, Zh, Zi, Zk, Zl, Zm, Zn, ↓reduceIte, reduceCtorEq, Zd, Ze, Zc, Zf, Z64, dskB, deskV, lwB, strs, Int.reduceLE, ed_net, iq3, ren, renM, renL, putF]
  refine call_handed [1] (number2_call _ _ _ [] k rfl hk bad) (by decide) ⟨⟨rfl, rfl⟩, trivial⟩ rfl rfl rfl rfl (by intro q hq; simp at hq; subst hq; rfl) ?_
  simp only [Zu, Za, Zb, Zg, Zh, Zi, Zk, Zl, Zm, Zn, ↓reduceIte, reduceCtorEq, Zd, Ze, Zc, Zf, Z64, dskB, deskV, lwB, strs, Int.reduceLE, ed_net, iq3, ren, renM, renL, putF]
  refine call_ret (hc) rfl rfl ?_
  simp only [Zu, Za, Zb, Zg, Zh, Zi, Zk, Zl, Zm, Zn, ↓reduceIte, reduceCtorEq, Zd, Ze, Zc, Zf, Z64, dskB, deskV, lwB, strs, Int.reduceLE, ed_net, iq3]
  refine call_ret (told_call v b hv.i.1 hv.i.2) rfl rfl ?_
  simp only [Zu, Za, Zb, Zg, Zh, Zi, Zk, Zl, Zm, Zn, ↓reduceIte, reduceCtorEq, Zd, Ze, Zc, Zf, Z64, dskB, deskV, lwB, strs, Int.reduceLE, ed_net, iq3]
  exact PostR.same ⟨rfl, rfl⟩
theorem dg_gross (D : Dok bs rs ps ra q) {b : Bool} (n k : Int) (n0 : -100 ≤ n) (n1 : n ≤ 10000) (k0 : 0 ≤ k) (k1 : k ≤ 10000) (v : Int) (hv : okM v) (hc : CallA Tryz.prog 107 [.agg [.ro (ints bs), .ro (ints rs)], .int .i64 n, .int .i64 k] [] (Ret (.tup [.int .i64 v, .bool b]) [])) (bad : Bool) : CallA Tryz.prog 64 [.ptr 0 0 0, .ptr 1 0 0] [dskB bs rs ps ra q, lwB [[103, 114, 111, 115, 115], Lib.itoa n, Lib.itoa k] bad] (Ret (.tup [.str (Lib.itoa v), .bool b, .bool true]) [dskB bs rs ps ra q, lwB [[103, 114, 111, 115, 115], Lib.itoa n, Lib.itoa k] bad]) := by
  have hn : okM n := ⟨by omega, by omega⟩
  have hk : okM k := ⟨by omega, by omega⟩
  refine CallP.out (t := .mk) (go_in (md := md64) mixed Tryz.func64 rfl go64 (by kernel_rfl) ?_)
  simp only [Zu, Za, Zb, Zg, Zh, Zi, Zk, Zl, Zm, Zn, ↓reduceIte, reduceCtorEq, Zd, Ze, Zc, Zf, Z64, dskB, deskV, lwB, strs, Int.reduceLE, ed_gross, iq3]
  refine call_handed [1] (number1_call _ _ [Lib.itoa k] n rfl hn bad) (by decide) ⟨⟨rfl, rfl⟩, trivial⟩ rfl rfl rfl rfl (by intro q hq; simp at hq; subst hq; rfl) ?_
  simp only [Zu, Za, Zb, Zg, Zh, Zi, Zk, Zl, Zm, Zn, ↓reduceIte, reduceCtorEq, Zd, Ze, Zc, Zf, Z64, dskB, deskV, lwB, strs, Int.reduceLE, ed_gross, iq3, ren, renM, renL, putF]
  refine call_handed [1] (number2_call _ _ _ [] k rfl hk bad) (by decide) ⟨⟨rfl, rfl⟩, trivial⟩ rfl rfl rfl rfl (by intro q hq; simp at hq; subst hq; rfl) ?_
  simp only [Zu, Za, Zb, Zg, Zh, Zi, Zk, Zl, Zm, Zn, ↓reduceIte, reduceCtorEq, Zd, Ze, Zc, Zf, Z64, dskB, deskV, lwB, strs, Int.reduceLE, ed_gross, iq3, ren, renM, renL, putF]
  refine call_ret (hc) rfl rfl ?_
  simp only [Zu, Za, Zb, Zg, Zh, Zi, Zk, Zl, Zm, Zn, ↓reduceIte, reduceCtorEq, Zd, Ze, Zc, Zf, Z64, dskB, deskV, lwB, strs, Int.reduceLE, ed_gross, iq3]
  refine call_ret (told_call v b hv.i.1 hv.i.2) rfl rfl ?_
  simp only [Zu, Za, Zb, Zg, Zh, Zi, Zk, Zl, Zm, Zn, ↓reduceIte, reduceCtorEq, Zd, Ze, Zc, Zf, Z64, dskB, deskV, lwB, strs, Int.reduceLE, ed_gross, iq3]
  exact PostR.same ⟨rfl, rfl⟩
theorem dg_chain (D : Dok bs rs ps ra q) (n k : Int) (n0 : 0 ≤ n) (n1 : n ≤ 10000) (k0 : 0 ≤ k) (k1 : k ≤ 3) (bad : Bool) : CallA Tryz.prog 64 [.ptr 0 0 0, .ptr 1 0 0] [dskB bs rs ps ra q, lwB [[99, 104, 97, 105, 110], Lib.itoa n, Lib.itoa k] bad] (Ret (.tup [.str (lsT (chaL ps n k)), .bool true, .bool true]) [dskB bs rs ps ra q, lwB [[99, 104, 97, 105, 110], Lib.itoa n, Lib.itoa k] bad]) := by
  have hn : okM n := ⟨by omega, by omega⟩
  have hk : okM k := ⟨by omega, by omega⟩
  have ll : (chaL ps n k).length = ps.length := rngL_len _ _
  have h6 := D.pys.six
  refine CallP.out (t := .mk) (go_in (md := md64) mixed Tryz.func64 rfl go64 (by kernel_rfl) ?_)
  simp only [Zu, Za, Zb, Zg, Zh, Zi, Zk, Zl, Zm, Zn, ↓reduceIte, reduceCtorEq, Zd, Ze, Zc, Zf, Z64, dskB, deskV, lwB, strs, Int.reduceLE, ed_chain, iq3]
  refine call_handed [1] (number1_call _ _ [Lib.itoa k] n rfl hn bad) (by decide) ⟨⟨rfl, rfl⟩, trivial⟩ rfl rfl rfl rfl (by intro q hq; simp at hq; subst hq; rfl) ?_
  simp only [Zu, Za, Zb, Zg, Zh, Zi, Zk, Zl, Zm, Zn, ↓reduceIte, reduceCtorEq, Zd, Ze, Zc, Zf, Z64, dskB, deskV, lwB, strs, Int.reduceLE, ed_chain, iq3, ren, renM, renL, putF]
  refine call_handed [1] (number2_call _ _ _ [] k rfl hk bad) (by decide) ⟨⟨rfl, rfl⟩, trivial⟩ rfl rfl rfl rfl (by intro q hq; simp at hq; subst hq; rfl) ?_
  simp only [Zu, Za, Zb, Zg, Zh, Zi, Zk, Zl, Zm, Zn, ↓reduceIte, reduceCtorEq, Zd, Ze, Zc, Zf, Z64, dskB, deskV, lwB, strs, Int.reduceLE, ed_chain, iq3, ren, renM, renL, putF]
  refine call_ret (chain_ro D.pys n k n0 n1 k0 k1) rfl rfl ?_
  simp only [Zu, Za, Zb, Zg, Zh, Zi, Zk, Zl, Zm, Zn, ↓reduceIte, reduceCtorEq, Zd, Ze, Zc, Zf, Z64, dskB, deskV, lwB, strs, Int.reduceLE, ed_chain, iq3]
  refine call_ret (toldL_call _ true (by omega) (cha_ok D.pys n0 n1)) rfl rfl ?_
  simp only [Zu, Za, Zb, Zg, Zh, Zi, Zk, Zl, Zm, Zn, ↓reduceIte, reduceCtorEq, Zd, Ze, Zc, Zf, Z64, dskB, deskV, lwB, strs, Int.reduceLE, ed_chain, iq3]
  exact PostR.same ⟨rfl, rfl⟩
theorem no_chain (D : Dok bs rs ps ra q) (n k : Int) (n0 : 0 ≤ n) (n1 : n ≤ 10000) (k0 : 3 < k) (k1 : k ≤ 10000) (bad : Bool) : CallA Tryz.prog 64 [.ptr 0 0 0, .ptr 1 0 0] [dskB bs rs ps ra q, lwB [[99, 104, 97, 105, 110], Lib.itoa n, Lib.itoa k] bad] (Ret (.tup [.str (noneT), .bool false, .bool true]) [dskB bs rs ps ra q, lwB [[99, 104, 97, 105, 110], Lib.itoa n, Lib.itoa k] bad]) := by
  have hn : okM n := ⟨by omega, by omega⟩
  have hk : okM k := ⟨by omega, by omega⟩
  refine CallP.out (t := .mk) (go_in (md := md64) mixed Tryz.func64 rfl go64 (by kernel_rfl) ?_)
  simp only [Zu, Za, Zb, Zg, Zh, Zi, Zk, Zl, Zm, Zn, ↓reduceIte, reduceCtorEq, Zd, Ze, Zc, Zf, Z64, dskB, deskV, lwB, strs, Int.reduceLE, ed_chain, iq3]
  refine call_handed [1] (number1_call _ _ [Lib.itoa k] n rfl hn bad) (by decide) ⟨⟨rfl, rfl⟩, trivial⟩ rfl rfl rfl rfl (by intro q hq; simp at hq; subst hq; rfl) ?_
  simp only [Zu, Za, Zb, Zg, Zh, Zi, Zk, Zl, Zm, Zn, ↓reduceIte, reduceCtorEq, Zd, Ze, Zc, Zf, Z64, dskB, deskV, lwB, strs, Int.reduceLE, ed_chain, iq3, ren, renM, renL, putF]
  refine call_handed [1] (number2_call _ _ _ [] k rfl hk bad) (by decide) ⟨⟨rfl, rfl⟩, trivial⟩ rfl rfl rfl rfl (by intro q hq; simp at hq; subst hq; rfl) ?_
  simp only [Zu, Za, Zb, Zg, Zh, Zi, Zk, Zl, Zm, Zn, ↓reduceIte, reduceCtorEq, Zd, Ze, Zc, Zf, Z64, dskB, deskV, lwB, strs, Int.reduceLE, ed_chain, iq3, ren, renM, renL, putF]
  refine call_ret (chain_out D n k n0 n1 k0) rfl rfl ?_
  simp only [Zu, Za, Zb, Zg, Zh, Zi, Zk, Zl, Zm, Zn, ↓reduceIte, reduceCtorEq, Zd, Ze, Zc, Zf, Z64, dskB, deskV, lwB, strs, Int.reduceLE, ed_chain, iq3]
  refine call_ret (toldNil_call) rfl rfl ?_
  simp only [Zu, Za, Zb, Zg, Zh, Zi, Zk, Zl, Zm, Zn, ↓reduceIte, reduceCtorEq, Zd, Ze, Zc, Zf, Z64, dskB, deskV, lwB, strs, Int.reduceLE, ed_chain, iq3]
  exact PostR.same ⟨rfl, rfl⟩
end
theorem ine01 : (((0 : Nat) : Int) != 1) = true := by decide
theorem ine0z : ((0 : Int) != 1) = true := by decide
def PlH (A B : Blk) (hp : List Blk) : Prop := hp = [A, B]
section
variable {bs rs ps ra : List Int} {q : List Nat}
theorem do_mix (D : Dok bs rs ps ra q) (n : Int) (h0 : 0 ≤ n) (h1 : n ≤ 20000) (S2 : Scl bs (mixL rs n)) (bad : Bool) : CallA Tryz.prog 63 [.ptr 0 0 0, .ptr 1 0 0] [dskB bs rs ps ra q, lwB [[109, 105, 120], Lib.itoa n] bad] (Ret (.tup [.str ([111, 107]), .bool true, .bool true]) [dskB bs (mixL rs n) ps ra q, lwB [[109, 105, 120], Lib.itoa n] bad]) := by
  have hn : okM n := ⟨by omega, by omega⟩
  refine CallP.out (t := .mk) (go_in (md := md63) mixed Tryz.func63 rfl go63 (by kernel_rfl) ?_)
  simp only [Zu, Za, Zb, Zg, Zh, Zi, Zk, Zl, Zm, Zn, ↓reduceIte, reduceCtorEq, Zd, Ze, Zc, Zf, Z63, dskB, deskV, lwB, strs, Int.reduceLE, eb_mix, iq2]
  have hS : PlH (dskB bs rs ps ra q) (lwB [[109, 105, 120], Lib.itoa n] bad) [dskB bs rs ps ra q, lwB [[109, 105, 120], Lib.itoa n] bad] := rfl
  refine go_float mixed (PlH (dskB bs rs ps ra q) (lwB [[109, 105, 120], Lib.itoa n] bad)) [0, 1, 2, 3, 4, 5, 6, 7, 8, 9, 10, 11, 12, 13, 14] [3, 3, 3, 3, 3, 3, 0, 0, 3, 3, 5, 3, 3, 4, 1] [] [] (by kernel_rfl) ?_
  iterate 6 (refine om_calm (by rfl) (by rfl) (by rfl) (by rfl) ?_; try simp only []; simp only [Zu, Za, Zb, Zg, Zh, Zi, Zk, Zl, Zm, Zn, ↓reduceIte, reduceCtorEq, Zd, Ze, Zc, Zf, Z63, dskB, deskV, lwB, strs, List.map_cons, List.map_nil])
  refine om_call (by rfl) (by rfl) (by rfl) hS (by rfl) (by rfl) (by rintro hp rfl; exact number1_at (dskB bs rs ps ra q) _ _ [] n rfl hn bad) ⟨fun b hb => (by cases hb), fun x _ b hb => (by cases hb)⟩ ?_
  simp only [Zu, Za, Zb, Zg, Zh, Zi, Zk, Zl, Zm, Zn, ↓reduceIte, reduceCtorEq, Zd, Ze, Zc, Zf, Z63, dskB, deskV, lwB, strs, List.map_cons, List.map_nil]
  refine om_call (by rfl) (by rfl) (by rfl) hS (by rfl) (by rfl) (fun hp _ => call_lift (by rfl) (mixScale_call D.scl n h0 h1 S2) (by rfl)) ⟨fun b hb => (by cases hb), fun x _ b hb => (by cases hb)⟩ ?_
  simp only [Zu, Za, Zb, Zg, Zh, Zi, Zk, Zl, Zm, Zn, ↓reduceIte, reduceCtorEq, Zd, Ze, Zc, Zf, Z63, dskB, deskV, lwB, strs, List.map_cons, List.map_nil]
  iterate 2 (refine om_calm (by rfl) (by rfl) (by rfl) (by rfl) ?_; try simp only []; simp only [Zu, Za, Zb, Zg, Zh, Zi, Zk, Zl, Zm, Zn, ↓reduceIte, reduceCtorEq, Zd, Ze, Zc, Zf, Z63, dskB, deskV, lwB, strs, List.map_cons, List.map_nil])
  refine om_blind (by rfl) (by rfl) (by rfl) (v := .bool true) (fun hp => by simp only [Zu, Za, Zb, Zg, Zh, Zi, Zk, Zl, Zm, Zn, ↓reduceIte, reduceCtorEq, Zd, Ze, Zc, Zf, Z63, dskB, deskV, lwB, strs, List.map_cons, List.map_nil]) ⟨by simp [Fixed, kill, killM, killL], by intro x hx; simp [Op.operands] at hx; first | (subst hx; simp [Fixed, St.ev, ofV, ofL, kill, killM, killL]) | (rcases hx with rfl | rfl <;> simp [Fixed, St.ev, ofV, ofL, kill, killM, killL]) | (rcases hx with rfl | rfl | rfl <;> simp [Fixed, St.ev, ofV, ofL, kill, killM, killL])⟩ ?_; try simp only []; simp only [Zu, Za, Zb, Zg, Zh, Zi, Zk, Zl, Zm, Zn, ↓reduceIte, reduceCtorEq, Zd, Ze, Zc, Zf, Z63, dskB, deskV, lwB, strs, List.map_cons, List.map_nil]
  iterate 2 (refine om_calm (by rfl) (by rfl) (by rfl) (by rfl) ?_; try simp only []; simp only [Zu, Za, Zb, Zg, Zh, Zi, Zk, Zl, Zm, Zn, ↓reduceIte, reduceCtorEq, Zd, Ze, Zc, Zf, Z63, dskB, deskV, lwB, strs, List.map_cons, List.map_nil])
  refine om_free (by rfl) (by rfl) (by rfl) ?_
  simp only []
  simp only [Zu, Za, Zb, Zg, Zh, Zi, Zk, Zl, Zm, Zn, ↓reduceIte, reduceCtorEq, Zd, Ze, Zc, Zf, Z63, dskB, deskV, lwB, strs, List.map_cons, List.map_nil]
  refine ⟨.inl trivial, ?_⟩
  refine om_one (by rfl) (by rfl) (by rfl) ?_; try simp only []; simp only [Zu, Za, Zb, Zg, Zh, Zi, Zk, Zl, Zm, Zn, ↓reduceIte, reduceCtorEq, Zd, Ze, Zc, Zf, Z63, dskB, deskV, lwB, strs, List.map_cons, List.map_nil]
  refine om_nil ?_
  simp only [Zu, Za, Zb, Zg, Zh, Zi, Zk, Zl, Zm, Zn, ↓reduceIte, reduceCtorEq, Zd, Ze, Zc, Zf, Z63, dskB, deskV, lwB, strs, Int.reduceLE, eb_mix, iq2]
  exact PostR.same ⟨rfl, rfl⟩
theorem no_mix (D : Dok bs rs ps ra q) (n : Int) (h0 : 0 ≤ n) (h1 : n ≤ 1000000) (hc : CallA Tryz.prog 96 [.agg [.ro (ints bs), .ro (ints rs)], .int .i64 n] [] (Ret (.tup [.agg [.nils, .nils], .bool false]) [])) (bad : Bool) : CallA Tryz.prog 63 [.ptr 0 0 0, .ptr 1 0 0] [dskB bs rs ps ra q, lwB [[109, 105, 120], Lib.itoa n] bad] (Ret (.tup [.str ([111, 107]), .bool false, .bool true]) [dskZ ps ra q, lwB [[109, 105, 120], Lib.itoa n] bad]) := by
  have hn : okM n := ⟨by omega, by omega⟩
  refine CallP.out (t := .mk) (go_in (md := md63) mixed Tryz.func63 rfl go63 (by kernel_rfl) ?_)
  simp only [Zu, Za, Zb, Zg, Zh, Zi, Zk, Zl, Zm, Zn, ↓reduceIte, reduceCtorEq, Zd, Ze, Zc, Zf, Z63, dskB, deskV, lwB, strs, Int.reduceLE, eb_mix, iq2]
  have hS : PlH (dskB bs rs ps ra q) (lwB [[109, 105, 120], Lib.itoa n] bad) [dskB bs rs ps ra q, lwB [[109, 105, 120], Lib.itoa n] bad] := rfl
  refine go_float mixed (PlH (dskB bs rs ps ra q) (lwB [[109, 105, 120], Lib.itoa n] bad)) [0, 1, 2, 3, 4, 5, 6, 7, 8, 9, 10, 11, 12, 13, 14] [3, 3, 3, 3, 3, 3, 0, 0, 3, 3, 5, 3, 3, 4, 1] [] [] (by kernel_rfl) ?_
  iterate 6 (refine om_calm (by rfl) (by rfl) (by rfl) (by rfl) ?_; try simp only []; simp only [Zu, Za, Zb, Zg, Zh, Zi, Zk, Zl, Zm, Zn, ↓reduceIte, reduceCtorEq, Zd, Ze, Zc, Zf, Z63, dskB, deskV, lwB, strs, List.map_cons, List.map_nil])
  refine om_call (by rfl) (by rfl) (by rfl) hS (by rfl) (by rfl) (by rintro hp rfl; exact number1_at (dskB bs rs ps ra q) _ _ [] n rfl hn bad) ⟨fun b hb => (by cases hb), fun x _ b hb => (by cases hb)⟩ ?_
  simp only [Zu, Za, Zb, Zg, Zh, Zi, Zk, Zl, Zm, Zn, ↓reduceIte, reduceCtorEq, Zd, Ze, Zc, Zf, Z63, dskB, deskV, lwB, strs, List.map_cons, List.map_nil]
  refine om_call (by rfl) (by rfl) (by rfl) hS (by rfl) (by rfl) (fun hp _ => call_lift (by rfl) (hc) (by rfl)) ⟨fun b hb => (by cases hb), fun x _ b hb => (by cases hb)⟩ ?_
  simp only [Zu, Za, Zb, Zg, Zh, Zi, Zk, Zl, Zm, Zn, ↓reduceIte, reduceCtorEq, Zd, Ze, Zc, Zf, Z63, dskB, deskV, lwB, strs, List.map_cons, List.map_nil]
  iterate 2 (refine om_calm (by rfl) (by rfl) (by rfl) (by rfl) ?_; try simp only []; simp only [Zu, Za, Zb, Zg, Zh, Zi, Zk, Zl, Zm, Zn, ↓reduceIte, reduceCtorEq, Zd, Ze, Zc, Zf, Z63, dskB, deskV, lwB, strs, List.map_cons, List.map_nil])
  refine om_blind (by rfl) (by rfl) (by rfl) (v := .bool false) (fun hp => by simp only [Zu, Za, Zb, Zg, Zh, Zi, Zk, Zl, Zm, Zn, ↓reduceIte, reduceCtorEq, Zd, Ze, Zc, Zf, Z63, dskB, deskV, lwB, strs, List.map_cons, List.map_nil]) ⟨by simp [Fixed, kill, killM, killL], by intro x hx; simp [Op.operands] at hx; first | (subst hx; simp [Fixed, St.ev, ofV, ofL, kill, killM, killL]) | (rcases hx with rfl | rfl <;> simp [Fixed, St.ev, ofV, ofL, kill, killM, killL]) | (rcases hx with rfl | rfl | rfl <;> simp [Fixed, St.ev, ofV, ofL, kill, killM, killL])⟩ ?_; try simp only []; simp only [Zu, Za, Zb, Zg, Zh, Zi, Zk, Zl, Zm, Zn, ↓reduceIte, reduceCtorEq, Zd, Ze, Zc, Zf, Z63, dskB, deskV, lwB, strs, List.map_cons, List.map_nil]
  iterate 2 (refine om_calm (by rfl) (by rfl) (by rfl) (by rfl) ?_; try simp only []; simp only [Zu, Za, Zb, Zg, Zh, Zi, Zk, Zl, Zm, Zn, ↓reduceIte, reduceCtorEq, Zd, Ze, Zc, Zf, Z63, dskB, deskV, lwB, strs, List.map_cons, List.map_nil])
  refine om_free (by rfl) (by rfl) (by rfl) ?_
  simp only []
  simp only [Zu, Za, Zb, Zg, Zh, Zi, Zk, Zl, Zm, Zn, ↓reduceIte, reduceCtorEq, Zd, Ze, Zc, Zf, Z63, dskB, deskV, lwB, strs, List.map_cons, List.map_nil]
  refine ⟨.inl trivial, ?_⟩
  refine om_one (by rfl) (by rfl) (by rfl) ?_; try simp only []; simp only [Zu, Za, Zb, Zg, Zh, Zi, Zk, Zl, Zm, Zn, ↓reduceIte, reduceCtorEq, Zd, Ze, Zc, Zf, Z63, dskB, deskV, lwB, strs, List.map_cons, List.map_nil]
  refine om_nil ?_
  simp only [Zu, Za, Zb, Zg, Zh, Zi, Zk, Zl, Zm, Zn, ↓reduceIte, reduceCtorEq, Zd, Ze, Zc, Zf, Z63, dskB, deskV, lwB, strs, Int.reduceLE, eb_mix, iq2]
  exact PostR.same ⟨rfl, rfl⟩
theorem do_annuity (D : Dok bs rs ps ra q) (t : List UInt8) (x : Nat) (hr : CallA Tryz.prog 16 [.str t] [] (Ret (.tup [.ro (flts [x]), .bool true]) [])) (Y : yldB x = true) (bad : Bool) : CallA Tryz.prog 63 [.ptr 0 0 0, .ptr 1 0 0] [dskB bs rs ps ra q, lwB [[97, 110, 110, 117, 105, 116, 121], t] bad] (Ret (.tup [.str (wdsT (hexW [if finB .f32 (valF q x 0) then valF q x 0 else 0])), .bool (finB .f32 (valF q x 0)), .bool true]) [dskB bs rs ps ra q, lwB [[97, 110, 110, 117, 105, 116, 121], t] bad]) := by
  have ok := fin_okW (valF q x 0) (val_okW q x)
  have ag := annuity_gen D.tab Y
  unfold finA at ag
  have fx : flts [x] = [.flt .f32 x] := rfl
  rw [fx] at hr
  refine CallP.out (t := .mk) (go_in (md := md63) mixed Tryz.func63 rfl go63 (by kernel_rfl) ?_)
  simp only [Zu, Za, Zb, Zg, Zh, Zi, Zk, Zl, Zm, Zn, ↓reduceIte, reduceCtorEq, Zd, Ze, Zc, Zf, Z63, dskB, deskV, lwB, strs, Int.reduceLE, eb_annuity, iq2, ine11, ine01, ine0z]
  refine call_ret (hr) rfl rfl ?_
  simp only [Zu, Za, Zb, Zg, Zh, Zi, Zk, Zl, Zm, Zn, ↓reduceIte, reduceCtorEq, Zd, Ze, Zc, Zf, Z63, dskB, deskV, lwB, strs, Int.reduceLE, eb_annuity, iq2, ine11, ine01, ine0z]
  refine callr_ret (ag) rfl rfl ?_
  simp only [Zu, Za, Zb, Zg, Zh, Zi, Zk, Zl, Zm, Zn, ↓reduceIte, reduceCtorEq, Zd, Ze, Zc, Zf, Z63, dskB, deskV, lwB, strs, Int.reduceLE, eb_annuity, iq2, ine11, ine01, ine0z]
  refine callr_ret (toldOne_call _ _ ok) rfl rfl ?_
  simp only [Zu, Za, Zb, Zg, Zh, Zi, Zk, Zl, Zm, Zn, ↓reduceIte, reduceCtorEq, Zd, Ze, Zc, Zf, Z63, dskB, deskV, lwB, strs, Int.reduceLE, eb_annuity, iq2, ine11, ine01, ine0z]
  exact PostR.same ⟨rfl, rfl⟩
theorem out_annuity (D : Dok bs rs ps ra q) (t : List UInt8) (x : Nat) (hr : CallA Tryz.prog 16 [.str t] [] (Ret (.tup [.ro (flts [x]), .bool true]) [])) (Y : yldB x = false) (bad : Bool) : CallA Tryz.prog 63 [.ptr 0 0 0, .ptr 1 0 0] [dskB bs rs ps ra q, lwB [[97, 110, 110, 117, 105, 116, 121], t] bad] (Ret (.tup [.str (wdsT (hexW [0])), .bool false, .bool true]) [dskB bs rs ps ra q, lwB [[97, 110, 110, 117, 105, 116, 121], t] bad]) := by
  have ok : okW 0 := ⟨by decide, fun h => by revert h; decide +kernel⟩
  have ag := annuity_out D.tab Y
  have fx : flts [x] = [.flt .f32 x] := rfl
  rw [fx] at hr
  refine CallP.out (t := .mk) (go_in (md := md63) mixed Tryz.func63 rfl go63 (by kernel_rfl) ?_)
  simp only [Zu, Za, Zb, Zg, Zh, Zi, Zk, Zl, Zm, Zn, ↓reduceIte, reduceCtorEq, Zd, Ze, Zc, Zf, Z63, dskB, deskV, lwB, strs, Int.reduceLE, eb_annuity, iq2, ine11, ine01, ine0z]
  refine call_ret (hr) rfl rfl ?_
  simp only [Zu, Za, Zb, Zg, Zh, Zi, Zk, Zl, Zm, Zn, ↓reduceIte, reduceCtorEq, Zd, Ze, Zc, Zf, Z63, dskB, deskV, lwB, strs, Int.reduceLE, eb_annuity, iq2, ine11, ine01, ine0z]
  refine callr_ret (ag) rfl rfl ?_
  simp only [Zu, Za, Zb, Zg, Zh, Zi, Zk, Zl, Zm, Zn, ↓reduceIte, reduceCtorEq, Zd, Ze, Zc, Zf, Z63, dskB, deskV, lwB, strs, Int.reduceLE, eb_annuity, iq2, ine11, ine01, ine0z]
  refine callr_ret (toldOne_call 0 false ok) rfl rfl ?_
  simp only [Zu, Za, Zb, Zg, Zh, Zi, Zk, Zl, Zm, Zn, ↓reduceIte, reduceCtorEq, Zd, Ze, Zc, Zf, Z63, dskB, deskV, lwB, strs, Int.reduceLE, eb_annuity, iq2, ine11, ine01, ine0z]
  exact PostR.same ⟨rfl, rfl⟩
theorem none_annuity (D : Dok bs rs ps ra q) (t : List UInt8) (hr : CallA Tryz.prog 16 [.str t] [] (Ret (.tup [.ro [], .bool true]) [])) (bad : Bool) : CallA Tryz.prog 63 [.ptr 0 0 0, .ptr 1 0 0] [dskB bs rs ps ra q, lwB [[97, 110, 110, 117, 105, 116, 121], t] bad] (Ret (.tup [.str [], .bool false, .bool true]) [dskB bs rs ps ra q, lwB [[97, 110, 110, 117, 105, 116, 121], t] bad]) := by
  refine CallP.out (t := .mk) (go_in (md := md63) mixed Tryz.func63 rfl go63 (by kernel_rfl) ?_)
  simp only [Zu, Za, Zb, Zg, Zh, Zi, Zk, Zl, Zm, Zn, ↓reduceIte, reduceCtorEq, Zd, Ze, Zc, Zf, Z63, dskB, deskV, lwB, strs, Int.reduceLE, eb_annuity, iq2, ine11, ine01, ine0z]
  refine call_ret (hr) rfl rfl ?_
  simp only [Zu, Za, Zb, Zg, Zh, Zi, Zk, Zl, Zm, Zn, ↓reduceIte, reduceCtorEq, Zd, Ze, Zc, Zf, Z63, dskB, deskV, lwB, strs, Int.reduceLE, eb_annuity, iq2, ine11, ine01, ine0z]
  exact PostR.same ⟨rfl, rfl⟩
end
section
variable {bs rs ps ra bs' rs' ps' ra' : List Int} {q qx : List Nat}
theorem Dok.len (D : Dok bs rs ps ra q) : (1 ≤ bs.length ∧ bs.length ≤ 1000) ∧ (1 ≤ rs.length ∧ rs.length ≤ 1000) ∧ (1 ≤ ps.length ∧ ps.length ≤ 1000) ∧ (1 ≤ ra.length ∧ ra.length ≤ 1000) ∧ (1 ≤ q.length ∧ q.length ≤ 1000) := by
  obtain ⟨h1, h2, h3⟩ := D.b1
  have a := D.pys.one
  have b := D.pys.six
  have c := D.rts.one
  have d := D.rts.six
  have e := D.tab.one
  have f := D.tab.six
  omega
theorem Dok.clone (D : Dok bs rs ps ra q) : CallA Tryz.prog 35 [deskV bs rs ps ra q] [] (Ret (deskV bs rs ps ra q) []) := by
  obtain ⟨a, b, c, d, e⟩ := D.len
  exact cloneDesk_call bs rs ps ra q a b c d e
theorem Dok.vd (D : Dok bs rs ps ra q) : CallA Tryz.prog 9 [deskV bs rs ps ra q] [] (Ret (.bool true) []) := by
  obtain ⟨a, b, c, d, e⟩ := D.len
  have := implValid_call bs rs ps ra q (by omega) (by omega) (by omega) (by omega) (by omega)
  rw [D.val] at this
  exact this
theorem dsk_below (a b c d : List Int) (f : List Nat) : allBelow 0 (dskB a b c d f).els = true := by
  simp [dskB, deskV, allBelow, below, belowM, belowL]
theorem two_below (a b c d : List Int) (f : List Nat) (ws : List (List UInt8)) (bad : Bool) : ∀ b' ∈ [dskB a b c d f, lwB ws bad], allBelow 0 b'.els = true := by
  intro b hb
  simp only [List.mem_cons, List.not_mem_nil, or_false] at hb
  rcases hb with rfl | rfl
  · exact dsk_below _ _ _ _ _
  · exact strs2_below _ _
theorem cmd_part (D : Dok bs rs ps ra q) (D' : Dok bs' rs' ps' ra' qx) (line : List UInt8) (out : List UInt8) (hl : line.length ≤ 1048576)
    (hp : CallA Tryz.prog 62 [.ptr 0 0 0, .ptr 1 0 0] [dskB bs rs ps ra q, lwB (cutA 32 [] line) false] (Ret (.tup [.str out, .bool true, .bool true]) [dskB bs' rs' ps' ra' qx, lwB (cutA 32 [] line) false])) :
    CallA Tryz.prog 26 [deskV bs rs ps ra q, .str line] [] (Ret (.tup [deskV bs' rs' ps' ra' qx, .str out]) []) := by
  have cl := D.clone
  have vd := D'.vd
  have sp := splitF_call 32 line hl
  generalize cutA 32 [] line = ws at *
  have sl := strs_len ws
  unfold deskV at cl vd ⊢
  refine CallP.out (t := .mk) (go_in (md := md26) mixed Tryz.func26 rfl go26 (by kernel_rfl) ?_)
  simp only [Zu, Za, Zb, Zg, Zh, Zi, Zk, Zl, Zm, Zn, ↓reduceIte, reduceCtorEq, Zd, Ze, Zc, Zf, Z26]
  refine call_ret cl rfl rfl ?_
  simp only [Zu, Za, Zb, Zg, Zh, Zi, Zk, Zl, Zm, Zn, ↓reduceIte, reduceCtorEq, Zd, Ze, Zc, Zf, Z26]
  refine call_ret sp rfl rfl ?_
  simp only [Zu, Za, Zb, Zg, Zh, Zi, Zk, Zl, Zm, Zn, ↓reduceIte, reduceCtorEq, Zd, Ze, Zc, Zf, Z26]
  refine call_handed [3, 2] hp (by decide) ⟨⟨rfl, by first | rfl | exact dsk_below _ _ _ _ _⟩, ⟨rfl, by first | rfl | exact strs2_below _ _⟩, trivial⟩ rfl rfl rfl rfl (two_below _ _ _ _ _ _ _) ?_
  simp only [Zu, Za, Zb, Zg, Zh, Zi, Zk, Zl, Zm, Zn, ↓reduceIte, reduceCtorEq, Zd, Ze, Zc, Zf, Z26, dskB, deskV, lwB, ren, renM, renL, putF, List.length_cons, List.length_nil, sl]
  refine call_ret vd rfl rfl ?_
  simp only [Zu, Za, Zb, Zg, Zh, Zi, Zk, Zl, Zm, Zn, ↓reduceIte, reduceCtorEq, Zd, Ze, Zc, Zf, Z26, dskB, deskV, lwB, ren, renM, renL, putF, List.length_cons, List.length_nil, sl]
  exact PostR.pure ⟨rfl, rfl⟩ rfl
theorem cmd_plain (D : Dok bs rs ps ra q) (D' : Dok bs' rs' ps' ra' qx) (line : List UInt8) (out : List UInt8) (hl : line.length ≤ 1048576)
    (h3 : (cutA 32 [] line).length < 3)
    (hp : CallA Tryz.prog 62 [.ptr 0 0 0, .ptr 1 0 0] [dskB bs rs ps ra q, lwB (cutA 32 [] line) false] (Ret (.tup [.str [], .bool false, .bool false]) [dskB bs rs ps ra q, lwB (cutA 32 [] line) false]))
    (hq : CallA Tryz.prog 63 [.ptr 0 0 0, .ptr 1 0 0] [dskB bs rs ps ra q, lwB (cutA 32 [] line) false] (Ret (.tup [.str out, .bool true, .bool true]) [dskB bs' rs' ps' ra' qx, lwB (cutA 32 [] line) false])) :
    CallA Tryz.prog 26 [deskV bs rs ps ra q, .str line] [] (Ret (.tup [deskV bs' rs' ps' ra' qx, .str out]) []) := by
  have cl := D.clone
  have vd := D'.vd
  have sp := splitF_call 32 line hl
  generalize cutA 32 [] line = ws at *
  have sl := strs_len ws
  unfold deskV at cl vd ⊢
  refine CallP.out (t := .mk) (go_in (md := md26) mixed Tryz.func26 rfl go26 (by kernel_rfl) ?_)
  simp only [Zu, Za, Zb, Zg, Zh, Zi, Zk, Zl, Zm, Zn, ↓reduceIte, reduceCtorEq, Zd, Ze, Zc, Zf, Z26]
  refine call_ret cl rfl rfl ?_
  simp only [Zu, Za, Zb, Zg, Zh, Zi, Zk, Zl, Zm, Zn, ↓reduceIte, reduceCtorEq, Zd, Ze, Zc, Zf, Z26]
  refine call_ret sp rfl rfl ?_
  simp only [Zu, Za, Zb, Zg, Zh, Zi, Zk, Zl, Zm, Zn, ↓reduceIte, reduceCtorEq, Zd, Ze, Zc, Zf, Z26]
  refine call_handed [3, 2] hp (by decide) ⟨⟨rfl, by first | rfl | exact dsk_below _ _ _ _ _⟩, ⟨rfl, by first | rfl | exact strs2_below _ _⟩, trivial⟩ rfl rfl rfl rfl (two_below _ _ _ _ _ _ _) ?_
  simp only [Zu, Za, Zb, Zg, Zh, Zi, Zk, Zl, Zm, Zn, ↓reduceIte, reduceCtorEq, Zd, Ze, Zc, Zf, Z26, dskB, deskV, lwB, ren, renM, renL, putF, List.length_cons, List.length_nil, sl]
  refine br_yes (decide_eq_true (by omega)) ?_
  simp only [Zu, Za, Zb, Zg, Zh, Zi, Zk, Zl, Zm, Zn, ↓reduceIte, reduceCtorEq, Zd, Ze, Zc, Zf, Z26, dskB, deskV, lwB, sl]
  refine call_handed [3, 2] hq (by decide) ⟨⟨rfl, by first | rfl | exact dsk_below _ _ _ _ _⟩, ⟨rfl, by first | rfl | exact strs2_below _ _⟩, trivial⟩ rfl rfl rfl rfl (two_below _ _ _ _ _ _ _) ?_
  simp only [Zu, Za, Zb, Zg, Zh, Zi, Zk, Zl, Zm, Zn, ↓reduceIte, reduceCtorEq, Zd, Ze, Zc, Zf, Z26, dskB, deskV, lwB, ren, renM, renL, putF, List.length_cons, List.length_nil, sl]
  refine call_ret vd rfl rfl ?_
  simp only [Zu, Za, Zb, Zg, Zh, Zi, Zk, Zl, Zm, Zn, ↓reduceIte, reduceCtorEq, Zd, Ze, Zc, Zf, Z26, dskB, deskV, lwB, ren, renM, renL, putF, List.length_cons, List.length_nil, sl]
  exact PostR.pure ⟨rfl, rfl⟩ rfl
theorem cmd_double (D : Dok bs rs ps ra q) (line : List UInt8) (out : List UInt8) (hl : line.length ≤ 1048576)
    (h3 : (cutA 32 [] line).length = 3)
    (hp : CallA Tryz.prog 62 [.ptr 0 0 0, .ptr 1 0 0] [dskB bs rs ps ra q, lwB (cutA 32 [] line) false] (Ret (.tup [.str [], .bool false, .bool false]) [dskB bs rs ps ra q, lwB (cutA 32 [] line) false]))
    (hq : CallA Tryz.prog 64 [.ptr 0 0 0, .ptr 1 0 0] [dskB bs rs ps ra q, lwB (cutA 32 [] line) false] (Ret (.tup [.str out, .bool true, .bool true]) [dskB bs rs ps ra q, lwB (cutA 32 [] line) false])) :
    CallA Tryz.prog 26 [deskV bs rs ps ra q, .str line] [] (Ret (.tup [deskV bs rs ps ra q, .str out]) []) := by
  have cl := D.clone
  have vd := D.vd
  have sp := splitF_call 32 line hl
  generalize cutA 32 [] line = ws at *
  have sl := strs_len ws
  unfold deskV at cl vd ⊢
  refine CallP.out (t := .mk) (go_in (md := md26) mixed Tryz.func26 rfl go26 (by kernel_rfl) ?_)
  simp only [Zu, Za, Zb, Zg, Zh, Zi, Zk, Zl, Zm, Zn, ↓reduceIte, reduceCtorEq, Zd, Ze, Zc, Zf, Z26]
  refine call_ret cl rfl rfl ?_
  simp only [Zu, Za, Zb, Zg, Zh, Zi, Zk, Zl, Zm, Zn, ↓reduceIte, reduceCtorEq, Zd, Ze, Zc, Zf, Z26]
  refine call_ret sp rfl rfl ?_
  simp only [Zu, Za, Zb, Zg, Zh, Zi, Zk, Zl, Zm, Zn, ↓reduceIte, reduceCtorEq, Zd, Ze, Zc, Zf, Z26]
  refine call_handed [3, 2] hp (by decide) ⟨⟨rfl, by first | rfl | exact dsk_below _ _ _ _ _⟩, ⟨rfl, by first | rfl | exact strs2_below _ _⟩, trivial⟩ rfl rfl rfl rfl (two_below _ _ _ _ _ _ _) ?_
  simp only [Zu, Za, Zb, Zg, Zh, Zi, Zk, Zl, Zm, Zn, ↓reduceIte, reduceCtorEq, Zd, Ze, Zc, Zf, Z26, dskB, deskV, lwB, ren, renM, renL, putF, List.length_cons, List.length_nil, sl]
  refine br_no (decide_eq_false (by omega)) ?_
  simp only [Zu, Za, Zb, Zg, Zh, Zi, Zk, Zl, Zm, Zn, ↓reduceIte, reduceCtorEq, Zd, Ze, Zc, Zf, Z26, dskB, deskV, lwB, sl]
  refine br_yes (by rw [h3]; rfl) ?_
  simp only [Zu, Za, Zb, Zg, Zh, Zi, Zk, Zl, Zm, Zn, ↓reduceIte, reduceCtorEq, Zd, Ze, Zc, Zf, Z26, dskB, deskV, lwB, sl]
  refine call_handed [3, 2] hq (by decide) ⟨⟨rfl, by first | rfl | exact dsk_below _ _ _ _ _⟩, ⟨rfl, by first | rfl | exact strs2_below _ _⟩, trivial⟩ rfl rfl rfl rfl (two_below _ _ _ _ _ _ _) ?_
  simp only [Zu, Za, Zb, Zg, Zh, Zi, Zk, Zl, Zm, Zn, ↓reduceIte, reduceCtorEq, Zd, Ze, Zc, Zf, Z26, dskB, deskV, lwB, ren, renM, renL, putF, List.length_cons, List.length_nil, sl]
  refine call_ret vd rfl rfl ?_
  simp only [Zu, Za, Zb, Zg, Zh, Zi, Zk, Zl, Zm, Zn, ↓reduceIte, reduceCtorEq, Zd, Ze, Zc, Zf, Z26, dskB, deskV, lwB, ren, renM, renL, putF, List.length_cons, List.length_nil, sl]
  exact PostR.pure ⟨rfl, rfl⟩ rfl
theorem cmd_what (D : Dok bs rs ps ra q) (line : List UInt8) (hl : line.length ≤ 1048576)
    (h3 : (cutA 32 [] line).length < 3)
    (hp : CallA Tryz.prog 62 [.ptr 0 0 0, .ptr 1 0 0] [dskB bs rs ps ra q, lwB (cutA 32 [] line) false] (Ret (.tup [.str [], .bool false, .bool false]) [dskB bs rs ps ra q, lwB (cutA 32 [] line) false]))
    (hq : CallA Tryz.prog 63 [.ptr 0 0 0, .ptr 1 0 0] [dskB bs rs ps ra q, lwB (cutA 32 [] line) false] (Ret (.tup [.str [], .bool false, .bool false]) [dskB bs rs ps ra q, lwB (cutA 32 [] line) false])) :
    CallA Tryz.prog 26 [deskV bs rs ps ra q, .str line] [] (Ret (.tup [deskV bs rs ps ra q, .str [119, 104, 97, 116]]) []) := by
  have cl := D.clone
  have vd := D.vd
  have sp := splitF_call 32 line hl
  generalize cutA 32 [] line = ws at *
  have sl := strs_len ws
  unfold deskV at cl vd ⊢
  refine CallP.out (t := .mk) (go_in (md := md26) mixed Tryz.func26 rfl go26 (by kernel_rfl) ?_)
  simp only [Zu, Za, Zb, Zg, Zh, Zi, Zk, Zl, Zm, Zn, ↓reduceIte, reduceCtorEq, Zd, Ze, Zc, Zf, Z26]
  refine call_ret cl rfl rfl ?_
  simp only [Zu, Za, Zb, Zg, Zh, Zi, Zk, Zl, Zm, Zn, ↓reduceIte, reduceCtorEq, Zd, Ze, Zc, Zf, Z26]
  refine call_ret sp rfl rfl ?_
  simp only [Zu, Za, Zb, Zg, Zh, Zi, Zk, Zl, Zm, Zn, ↓reduceIte, reduceCtorEq, Zd, Ze, Zc, Zf, Z26]
  refine call_handed [3, 2] hp (by decide) ⟨⟨rfl, by first | rfl | exact dsk_below _ _ _ _ _⟩, ⟨rfl, by first | rfl | exact strs2_below _ _⟩, trivial⟩ rfl rfl rfl rfl (two_below _ _ _ _ _ _ _) ?_
  simp only [Zu, Za, Zb, Zg, Zh, Zi, Zk, Zl, Zm, Zn, ↓reduceIte, reduceCtorEq, Zd, Ze, Zc, Zf, Z26, dskB, deskV, lwB, ren, renM, renL, putF, List.length_cons, List.length_nil, sl]
  refine br_yes (decide_eq_true (by omega)) ?_
  simp only [Zu, Za, Zb, Zg, Zh, Zi, Zk, Zl, Zm, Zn, ↓reduceIte, reduceCtorEq, Zd, Ze, Zc, Zf, Z26, dskB, deskV, lwB, sl]
  refine call_handed [3, 2] hq (by decide) ⟨⟨rfl, by first | rfl | exact dsk_below _ _ _ _ _⟩, ⟨rfl, by first | rfl | exact strs2_below _ _⟩, trivial⟩ rfl rfl rfl rfl (two_below _ _ _ _ _ _ _) ?_
  simp only [Zu, Za, Zb, Zg, Zh, Zi, Zk, Zl, Zm, Zn, ↓reduceIte, reduceCtorEq, Zd, Ze, Zc, Zf, Z26, dskB, deskV, lwB, ren, renM, renL, putF, List.length_cons, List.length_nil, sl]
  refine br_no (beq_false_of_ne (by omega)) ?_
  simp only [Zu, Za, Zb, Zg, Zh, Zi, Zk, Zl, Zm, Zn, ↓reduceIte, reduceCtorEq, Zd, Ze, Zc, Zf, Z26, dskB, deskV, lwB, sl]
  refine call_ret cl rfl rfl ?_
  simp only [Zu, Za, Zb, Zg, Zh, Zi, Zk, Zl, Zm, Zn, ↓reduceIte, reduceCtorEq, Zd, Ze, Zc, Zf, Z26, dskB, deskV, lwB, ren, renM, renL, putF, List.length_cons, List.length_nil, sl]
  exact PostR.pure ⟨rfl, rfl⟩ rfl
end
section
variable {bs rs ps ra : List Int} {q : List Nat}
theorem z_below (Z : Blk) (hZ : allBelow 0 Z.els = true) (ws : List (List UInt8)) (bad : Bool) : ∀ b' ∈ [Z, lwB ws bad], allBelow 0 b'.els = true := by
  intro b hb
  simp only [List.mem_cons, List.not_mem_nil, or_false] at hb
  rcases hb with rfl | rfl
  · exact hZ
  · exact strs2_below _ _
theorem dskZ_below (a b : List Int) (f : List Nat) : allBelow 0 (dskZ a b f).els = true := by
  simp [dskZ, allBelow, below, belowM, belowL]
theorem cmd_noP (D : Dok bs rs ps ra q) (line out : List UInt8) (hl : line.length ≤ 1048576) {Z : Blk} (hZ : allBelow 0 Z.els = true)
    (hp : CallA Tryz.prog 62 [.ptr 0 0 0, .ptr 1 0 0] [dskB bs rs ps ra q, lwB (cutA 32 [] line) false] (Ret (.tup [.str out, .bool false, .bool true]) [Z, lwB (cutA 32 [] line) false])) :
    CallA Tryz.prog 26 [deskV bs rs ps ra q, .str line] [] (Ret (.tup [deskV bs rs ps ra q, .str [110, 111]]) []) := by
  have cl := D.clone
  have sp := splitF_call 32 line hl
  generalize cutA 32 [] line = ws at *
  have sl := strs_len ws
  unfold deskV at cl ⊢
  refine CallP.out (t := .mk) (go_in (md := md26) mixed Tryz.func26 rfl go26 (by kernel_rfl) ?_)
  simp only [Zu, Za, Zb, Zg, Zh, Zi, Zk, Zl, Zm, Zn, ↓reduceIte, reduceCtorEq, Zd, Ze, Zc, Zf, Z26]
  refine call_ret cl rfl rfl ?_
  simp only [Zu, Za, Zb, Zg, Zh, Zi, Zk, Zl, Zm, Zn, ↓reduceIte, reduceCtorEq, Zd, Ze, Zc, Zf, Z26]
  refine call_ret sp rfl rfl ?_
  simp only [Zu, Za, Zb, Zg, Zh, Zi, Zk, Zl, Zm, Zn, ↓reduceIte, reduceCtorEq, Zd, Ze, Zc, Zf, Z26]
  refine call_handed [3, 2] hp (by decide) ⟨⟨rfl, by first | rfl | exact dsk_below _ _ _ _ _⟩, ⟨rfl, by first | rfl | exact strs2_below _ _⟩, trivial⟩ rfl rfl rfl rfl (z_below _ hZ _ _) ?_
  simp only [Zu, Za, Zb, Zg, Zh, Zi, Zk, Zl, Zm, Zn, ↓reduceIte, reduceCtorEq, Zd, Ze, Zc, Zf, Z26, dskB, deskV, lwB, ren, renM, renL, putF, List.length_cons, List.length_nil, sl]
  refine call_ret cl rfl rfl ?_
  simp only [Zu, Za, Zb, Zg, Zh, Zi, Zk, Zl, Zm, Zn, ↓reduceIte, reduceCtorEq, Zd, Ze, Zc, Zf, Z26, dskB, deskV, lwB, ren, renM, renL, putF, List.length_cons, List.length_nil, sl]
  exact PostR.pure ⟨rfl, rfl⟩ rfl
theorem cmd_noL (D : Dok bs rs ps ra q) (line out : List UInt8) (hl : line.length ≤ 1048576) {Z : Blk} (hZ : allBelow 0 Z.els = true)
    (h3 : (cutA 32 [] line).length < 3)
    (hp : CallA Tryz.prog 62 [.ptr 0 0 0, .ptr 1 0 0] [dskB bs rs ps ra q, lwB (cutA 32 [] line) false] (Ret (.tup [.str [], .bool false, .bool false]) [dskB bs rs ps ra q, lwB (cutA 32 [] line) false]))
    (hq : CallA Tryz.prog 63 [.ptr 0 0 0, .ptr 1 0 0] [dskB bs rs ps ra q, lwB (cutA 32 [] line) false] (Ret (.tup [.str out, .bool false, .bool true]) [Z, lwB (cutA 32 [] line) false])) :
    CallA Tryz.prog 26 [deskV bs rs ps ra q, .str line] [] (Ret (.tup [deskV bs rs ps ra q, .str [110, 111]]) []) := by
  have cl := D.clone
  have sp := splitF_call 32 line hl
  generalize cutA 32 [] line = ws at *
  have sl := strs_len ws
  unfold deskV at cl ⊢
  refine CallP.out (t := .mk) (go_in (md := md26) mixed Tryz.func26 rfl go26 (by kernel_rfl) ?_)
  simp only [Zu, Za, Zb, Zg, Zh, Zi, Zk, Zl, Zm, Zn, ↓reduceIte, reduceCtorEq, Zd, Ze, Zc, Zf, Z26]
  refine call_ret cl rfl rfl ?_
  simp only [Zu, Za, Zb, Zg, Zh, Zi, Zk, Zl, Zm, Zn, ↓reduceIte, reduceCtorEq, Zd, Ze, Zc, Zf, Z26]
  refine call_ret sp rfl rfl ?_
  simp only [Zu, Za, Zb, Zg, Zh, Zi, Zk, Zl, Zm, Zn, ↓reduceIte, reduceCtorEq, Zd, Ze, Zc, Zf, Z26]
  refine call_handed [3, 2] hp (by decide) ⟨⟨rfl, by first | rfl | exact dsk_below _ _ _ _ _⟩, ⟨rfl, by first | rfl | exact strs2_below _ _⟩, trivial⟩ rfl rfl rfl rfl (two_below _ _ _ _ _ _ _) ?_
  simp only [Zu, Za, Zb, Zg, Zh, Zi, Zk, Zl, Zm, Zn, ↓reduceIte, reduceCtorEq, Zd, Ze, Zc, Zf, Z26, dskB, deskV, lwB, ren, renM, renL, putF, List.length_cons, List.length_nil, sl]
  refine br_yes (decide_eq_true (by omega)) ?_
  simp only [Zu, Za, Zb, Zg, Zh, Zi, Zk, Zl, Zm, Zn, ↓reduceIte, reduceCtorEq, Zd, Ze, Zc, Zf, Z26, dskB, deskV, lwB, sl]
  refine call_handed [3, 2] hq (by decide) ⟨⟨rfl, by first | rfl | exact dsk_below _ _ _ _ _⟩, ⟨rfl, by first | rfl | exact strs2_below _ _⟩, trivial⟩ rfl rfl rfl rfl (z_below _ hZ _ _) ?_
  simp only [Zu, Za, Zb, Zg, Zh, Zi, Zk, Zl, Zm, Zn, ↓reduceIte, reduceCtorEq, Zd, Ze, Zc, Zf, Z26, dskB, deskV, lwB, ren, renM, renL, putF, List.length_cons, List.length_nil, sl]
  refine call_ret cl rfl rfl ?_
  simp only [Zu, Za, Zb, Zg, Zh, Zi, Zk, Zl, Zm, Zn, ↓reduceIte, reduceCtorEq, Zd, Ze, Zc, Zf, Z26, dskB, deskV, lwB, ren, renM, renL, putF, List.length_cons, List.length_nil, sl]
  exact PostR.pure ⟨rfl, rfl⟩ rfl
theorem cmd_noD (D : Dok bs rs ps ra q) (line out : List UInt8) (hl : line.length ≤ 1048576) {Z : Blk} (hZ : allBelow 0 Z.els = true)
    (h3 : (cutA 32 [] line).length = 3)
    (hp : CallA Tryz.prog 62 [.ptr 0 0 0, .ptr 1 0 0] [dskB bs rs ps ra q, lwB (cutA 32 [] line) false] (Ret (.tup [.str [], .bool false, .bool false]) [dskB bs rs ps ra q, lwB (cutA 32 [] line) false]))
    (hq : CallA Tryz.prog 64 [.ptr 0 0 0, .ptr 1 0 0] [dskB bs rs ps ra q, lwB (cutA 32 [] line) false] (Ret (.tup [.str out, .bool false, .bool true]) [Z, lwB (cutA 32 [] line) false])) :
    CallA Tryz.prog 26 [deskV bs rs ps ra q, .str line] [] (Ret (.tup [deskV bs rs ps ra q, .str [110, 111]]) []) := by
  have cl := D.clone
  have sp := splitF_call 32 line hl
  generalize cutA 32 [] line = ws at *
  have sl := strs_len ws
  unfold deskV at cl ⊢
  refine CallP.out (t := .mk) (go_in (md := md26) mixed Tryz.func26 rfl go26 (by kernel_rfl) ?_)
  simp only [Zu, Za, Zb, Zg, Zh, Zi, Zk, Zl, Zm, Zn, ↓reduceIte, reduceCtorEq, Zd, Ze, Zc, Zf, Z26]
  refine call_ret cl rfl rfl ?_
  simp only [Zu, Za, Zb, Zg, Zh, Zi, Zk, Zl, Zm, Zn, ↓reduceIte, reduceCtorEq, Zd, Ze, Zc, Zf, Z26]
  refine call_ret sp rfl rfl ?_
  simp only [Zu, Za, Zb, Zg, Zh, Zi, Zk, Zl, Zm, Zn, ↓reduceIte, reduceCtorEq, Zd, Ze, Zc, Zf, Z26]
  refine call_handed [3, 2] hp (by decide) ⟨⟨rfl, by first | rfl | exact dsk_below _ _ _ _ _⟩, ⟨rfl, by first | rfl | exact strs2_below _ _⟩, trivial⟩ rfl rfl rfl rfl (two_below _ _ _ _ _ _ _) ?_
  simp only [Zu, Za, Zb, Zg, Zh, Zi, Zk, Zl, Zm, Zn, ↓reduceIte, reduceCtorEq, Zd, Ze, Zc, Zf, Z26, dskB, deskV, lwB, ren, renM, renL, putF, List.length_cons, List.length_nil, sl]
  refine br_no (decide_eq_false (by omega)) ?_
  simp only [Zu, Za, Zb, Zg, Zh, Zi, Zk, Zl, Zm, Zn, ↓reduceIte, reduceCtorEq, Zd, Ze, Zc, Zf, Z26, dskB, deskV, lwB, sl]
  refine br_yes (by rw [h3]; rfl) ?_
  simp only [Zu, Za, Zb, Zg, Zh, Zi, Zk, Zl, Zm, Zn, ↓reduceIte, reduceCtorEq, Zd, Ze, Zc, Zf, Z26, dskB, deskV, lwB, sl]
  refine call_handed [3, 2] hq (by decide) ⟨⟨rfl, by first | rfl | exact dsk_below _ _ _ _ _⟩, ⟨rfl, by first | rfl | exact strs2_below _ _⟩, trivial⟩ rfl rfl rfl rfl (z_below _ hZ _ _) ?_
  simp only [Zu, Za, Zb, Zg, Zh, Zi, Zk, Zl, Zm, Zn, ↓reduceIte, reduceCtorEq, Zd, Ze, Zc, Zf, Z26, dskB, deskV, lwB, ren, renM, renL, putF, List.length_cons, List.length_nil, sl]
  refine call_ret cl rfl rfl ?_
  simp only [Zu, Za, Zb, Zg, Zh, Zi, Zk, Zl, Zm, Zn, ↓reduceIte, reduceCtorEq, Zd, Ze, Zc, Zf, Z26, dskB, deskV, lwB, ren, renM, renL, putF, List.length_cons, List.length_nil, sl]
  exact PostR.pure ⟨rfl, rfl⟩ rfl
end
theorem dw_ok {ra : List Int} (R : Rts ra) {st dr : Int} (h0 : 0 ≤ st) (h1 : st ≤ 1000000000000) (d0 : 0 ≤ dr) : (dwL ra st dr).length ≤ 6 ∧ (∀ x ∈ dwL ra st dr, okM x) ∧ okM (dwT ra st dr) := by
  have h6 := R.six
  refine ⟨by unfold dwL drL; rw [rngL_len]; exact h6, ?_, ?_⟩
  · intro x hx
    obtain ⟨i, hi, rfl⟩ := List.mem_map.1 hx
    have := (drS_ok (mx := 1000000000001) (by omega) R h0 h1 d0 (i + 1) (by have := List.mem_range.1 hi; omega)).1
    exact ⟨by omega, by omega⟩
  · have := (drS_ok (mx := 1000000000001) (by omega) R h0 h1 d0 ra.length (Nat.le_refl _)).2
    exact ⟨by unfold dwT; omega, by unfold dwT; omega⟩
theorem lsT_len (xs : List Int) (h : xs.length ≤ 6) (hb : ∀ x ∈ xs, okM x) : (lsT xs).length ≤ 144 := by
  unfold lsT
  split
  · decide
  · have := txt_len (sep := [44]) (by decide) xs fun x hx => (hb x hx).i
    omega
section
variable {bs rs ps ra : List Int} {q : List Nat}
theorem dg_down (D : Dok bs rs ps ra q) (n k : Int) (n0 : 0 ≤ n) (n1 : n ≤ 10000) (k0 : 0 ≤ k) (k1 : k ≤ 10000) (hb : (dwL ra n k).all (inR 0 1000000000000) = true) (bad : Bool) : CallA Tryz.prog 64 [.ptr 0 0 0, .ptr 1 0 0] [dskB bs rs ps ra q, lwB [[100, 111, 119, 110], Lib.itoa n, Lib.itoa k] bad] (Ret (.tup [.str (lsT (dwL ra n k) ++ 59 :: Lib.itoa (dwT ra n k)), .bool true, .bool true]) [dskB bs rs ps ra q, lwB [[100, 111, 119, 110], Lib.itoa n, Lib.itoa k] bad]) := by
  have hn : okM n := ⟨by omega, by omega⟩
  have hk : okM k := ⟨by omega, by omega⟩
  have dt := dw_ok D.rts (st := n) (dr := k) (by omega) (by omega) (by omega)
  have dc := down_call D.rts n k n0 (by omega) k0 (by omega)
  rw [hb] at dc
  simp only [if_true] at dc
  have tl := lsT_len (dwL ra n k) dt.1 dt.2.1
  have ti := itoa_len dt.2.2.i
  refine CallP.out (t := .mk) (go_in (md := md64) mixed Tryz.func64 rfl go64 (by kernel_rfl) ?_)
  simp only [Zu, Za, Zb, Zg, Zh, Zi, Zk, Zl, Zm, Zn, ↓reduceIte, reduceCtorEq, Zd, Ze, Zc, Zf, Z64, dskB, deskV, lwB, strs, Int.reduceLE, ed_down, iq3]
  refine call_handed [1] (number1_call _ _ [Lib.itoa k] n rfl hn bad) (by decide) ⟨⟨rfl, rfl⟩, trivial⟩ rfl rfl rfl rfl (by intro q hq; simp at hq; subst hq; rfl) ?_
  simp only [Zu, Za, Zb, Zg, Zh, Zi, Zk, Zl, Zm, Zn, ↓reduceIte, reduceCtorEq, Zd, Ze, Zc, Zf, Z64, dskB, deskV, lwB, strs, Int.reduceLE, ed_down, iq3, ren, renM, renL, putF]
  refine call_handed [1] (number2_call _ _ _ [] k rfl hk bad) (by decide) ⟨⟨rfl, rfl⟩, trivial⟩ rfl rfl rfl rfl (by intro q hq; simp at hq; subst hq; rfl) ?_
  simp only [Zu, Za, Zb, Zg, Zh, Zi, Zk, Zl, Zm, Zn, ↓reduceIte, reduceCtorEq, Zd, Ze, Zc, Zf, Z64, dskB, deskV, lwB, strs, Int.reduceLE, ed_down, iq3, ren, renM, renL, putF]
  refine call_ret (dc) rfl rfl ?_
  simp only [Zu, Za, Zb, Zg, Zh, Zi, Zk, Zl, Zm, Zn, ↓reduceIte, reduceCtorEq, Zd, Ze, Zc, Zf, Z64, dskB, deskV, lwB, strs, Int.reduceLE, ed_down, iq3]
  refine call_ret (toldL_call _ true (by have := dt.1; omega) dt.2.1) rfl rfl ?_
  simp only [Zu, Za, Zb, Zg, Zh, Zi, Zk, Zl, Zm, Zn, ↓reduceIte, reduceCtorEq, Zd, Ze, Zc, Zf, Z64, dskB, deskV, lwB, strs, Int.reduceLE, ed_down, iq3]
  refine call_ret (decimal_call (dwT ra n k) dt.2.2.i.1 dt.2.2.i.2) rfl rfl ?_
  simp only [Zu, Za, Zb, Zg, Zh, Zi, Zk, Zl, Zm, Zn, ↓reduceIte, reduceCtorEq, Zd, Ze, Zc, Zf, Z64, dskB, deskV, lwB, strs, Int.reduceLE, ed_down, iq3]
  repeat (refine ⟨by first | omega | (simp only [List.length_append, List.length_cons, List.length_nil]; omega), ?_⟩)
  try (simp only [Zu, Za, Zb, Zg, Zh, Zi, Zk, Zl, Zm, Zn, ↓reduceIte, reduceCtorEq, Zd, Ze, Zc, Zf, Z64, dskB, deskV, lwB, strs, Int.reduceLE, ed_down, iq3])
  exact PostR.same ⟨rfl, rfl⟩
theorem no_down (D : Dok bs rs ps ra q) (n k : Int) (n0 : 0 ≤ n) (n1 : n ≤ 10000) (k0 : 0 ≤ k) (k1 : k ≤ 10000) (hb : (dwL ra n k).all (inR 0 1000000000000) = false) (bad : Bool) : CallA Tryz.prog 64 [.ptr 0 0 0, .ptr 1 0 0] [dskB bs rs ps ra q, lwB [[100, 111, 119, 110], Lib.itoa n, Lib.itoa k] bad] (Ret (.tup [.str (noneT ++ 59 :: Lib.itoa 0), .bool false, .bool true]) [dskB bs rs ps ra q, lwB [[100, 111, 119, 110], Lib.itoa n, Lib.itoa k] bad]) := by
  have hn : okM n := ⟨by omega, by omega⟩
  have hk : okM k := ⟨by omega, by omega⟩
  have dc := down_call D.rts n k n0 (by omega) k0 (by omega)
  rw [hb] at dc
  simp only [Bool.false_eq_true, if_false] at dc
  have ti : (Lib.itoa 0).length ≤ 21 := itoa_len (by unfold okI; omega)
  have tn : noneT.length = 4 := rfl
  refine CallP.out (t := .mk) (go_in (md := md64) mixed Tryz.func64 rfl go64 (by kernel_rfl) ?_)
  simp only [Zu, Za, Zb, Zg, Zh, Zi, Zk, Zl, Zm, Zn, ↓reduceIte, reduceCtorEq, Zd, Ze, Zc, Zf, Z64, dskB, deskV, lwB, strs, Int.reduceLE, ed_down, iq3]
  refine call_handed [1] (number1_call _ _ [Lib.itoa k] n rfl hn bad) (by decide) ⟨⟨rfl, rfl⟩, trivial⟩ rfl rfl rfl rfl (by intro q hq; simp at hq; subst hq; rfl) ?_
  simp only [Zu, Za, Zb, Zg, Zh, Zi, Zk, Zl, Zm, Zn, ↓reduceIte, reduceCtorEq, Zd, Ze, Zc, Zf, Z64, dskB, deskV, lwB, strs, Int.reduceLE, ed_down, iq3, ren, renM, renL, putF]
  refine call_handed [1] (number2_call _ _ _ [] k rfl hk bad) (by decide) ⟨⟨rfl, rfl⟩, trivial⟩ rfl rfl rfl rfl (by intro q hq; simp at hq; subst hq; rfl) ?_
  simp only [Zu, Za, Zb, Zg, Zh, Zi, Zk, Zl, Zm, Zn, ↓reduceIte, reduceCtorEq, Zd, Ze, Zc, Zf, Z64, dskB, deskV, lwB, strs, Int.reduceLE, ed_down, iq3, ren, renM, renL, putF]
  refine call_ret (dc) rfl rfl ?_
  simp only [Zu, Za, Zb, Zg, Zh, Zi, Zk, Zl, Zm, Zn, ↓reduceIte, reduceCtorEq, Zd, Ze, Zc, Zf, Z64, dskB, deskV, lwB, strs, Int.reduceLE, ed_down, iq3]
  refine call_ret (toldNil_call) rfl rfl ?_
  simp only [Zu, Za, Zb, Zg, Zh, Zi, Zk, Zl, Zm, Zn, ↓reduceIte, reduceCtorEq, Zd, Ze, Zc, Zf, Z64, dskB, deskV, lwB, strs, Int.reduceLE, ed_down, iq3]
  refine call_ret (decimal_call 0 (by decide) (by decide)) rfl rfl ?_
  simp only [Zu, Za, Zb, Zg, Zh, Zi, Zk, Zl, Zm, Zn, ↓reduceIte, reduceCtorEq, Zd, Ze, Zc, Zf, Z64, dskB, deskV, lwB, strs, Int.reduceLE, ed_down, iq3]
  repeat (refine ⟨by first | omega | (simp only [List.length_append, List.length_cons, List.length_nil]; omega), ?_⟩)
  try (simp only [Zu, Za, Zb, Zg, Zh, Zi, Zk, Zl, Zm, Zn, ↓reduceIte, reduceCtorEq, Zd, Ze, Zc, Zf, Z64, dskB, deskV, lwB, strs, Int.reduceLE, ed_down, iq3])
  exact PostR.same ⟨rfl, rfl⟩
end
end Go.Proofs.YtodjjpmigcacoaaGreatDoor
