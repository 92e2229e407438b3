/- TzG5: texts joined. -/
import Derived.Test.YtodjjpmigcacoaaGreatDoorBase
import Derived.Test.YtodjjpmigcacoaaGreatDoorAbsM5
import Derived.IntWalk
import Derived.Test.YtodjjpmigcacoaaGreatDoorTzG1
import Derived.WalkKit
import Derived.Laws.Externs
import Derived.Lib.Repeat
import Derived.Test.YtodjjpmigcacoaaGreatDoorTzS
import Derived.Test.YtodjjpmigcacoaaGreatDoorTzG3
import Derived.Lib.CountLaws
import Derived.Lib.Split
import Derived.Lib.IndexMore
import Derived.Lib.Strings
set_option maxRecDepth 10000
set_option maxHeartbeats 4000000
set_option linter.unusedSimpArgs false
set_option linter.unusedVariables false
namespace Go.Proofs.YtodjjpmigcacoaaGreatDoor
open Go Go.Abs
open Nat renaming reduceAdd → Za, reduceSub → Zb, reduceMul → Zc, reduceLT → Zd, reduceLeDiff → Ze, reduceEqDiff → Zf
open Int renaming reduceToNat → Zn
open Go.Abs renaming lenA → Zg, convA → Zh, indexA → Zi, flatP → Zj, nilI → Zk, ifaA → Zl, indexS → Zm
theorem low255 (x : Int) : 0 ≤ IntKind.i64.wrap (IntKind.u64.wrap (((BitVec.ofInt IntKind.u64.bits x &&& BitVec.ofInt IntKind.u64.bits 255).toNat : Nat) : Int)) ∧ IntKind.i64.wrap (IntKind.u64.wrap (((BitVec.ofInt IntKind.u64.bits x &&& BitVec.ofInt IntKind.u64.bits 255).toNat : Nat) : Int)) ≤ 255 := by
  have h : (BitVec.ofInt IntKind.u64.bits x &&& BitVec.ofInt IntKind.u64.bits 255).toNat ≤ 255 := by
    rw [BitVec.toNat_and]
    exact Nat.and_le_right
  generalize (BitVec.ofInt IntKind.u64.bits x &&& BitVec.ofInt IntKind.u64.bits 255).toNat = n at h ⊢
  rw [IntWalk.u64_in _ (by omega), w64 (by omega) (by omega)]
  omega
theorem srcNext_call (code : List Int) (hc : byteL code) (hl : code.length ≤ 1048576) (a : Nat) (ha : a ≤ 1000000000000) (sd : Int) :
    CallA Tryz.prog 54 [.ptr 0 0 0] [srcB code a sd] (fun r hp => ∃ n sd' : Int, (0 ≤ n ∧ n ≤ 255) ∧ r = .int .i64 n ∧ hp = [srcB code (a + 1) sd']) := by
  have e1 : IntKind.i64.wrap ((a : Int) + 1) = ((a + 1 : Nat) : Int) := w64_succ a (by omega)
  refine CallP.out (t := .mk) (go_in (md := md54) mixed Tryz.func54 rfl go54 (by kernel_rfl) ?_)
  simp only [Zu, Za, Zb, Zg, Zh, Zi, Zk, Zl, Zm, Zn, ↓reduceIte, reduceCtorEq, Zd, Ze, Zc, Zf, Z54, srcB, kint_len]
  refine br_intro (fun h => ?_) (fun h => ?_) <;> simp only [Zu, Za, Zb, Zg, Zh, Zi, Zk, Zl, Zm, Zn, ↓reduceIte, reduceCtorEq, Zd, Ze, Zc, Zf, Z54, srcB, kint_len, kint_get, e1]
  · have h' := of_decide_eq_true h
    have hi : a < code.length := by omega
    have b0 := hc code[a] (List.getElem_mem hi)
    refine ⟨hi, ?_⟩
    rw [u8i64 b0]
    refine br_yes (decide_eq_true (by omega)) ?_
    simp only [Zu, Za, Zb, Zg, Zh, Zi, Zk, Zl, Zm, Zn, ↓reduceIte, reduceCtorEq, Zd, Ze, Zc, Zf, Z54, srcB]
    exact PostR.tell [0] (hp2 := [srcB code (a + 1) _]) (by decide) (by decide) (by decide) ⟨⟨rfl, rfl⟩, trivial⟩ rfl rfl ⟨code[a], _, b0, rfl, rfl⟩
  · have h' := of_decide_eq_false h
    refine br_no (decide_eq_false (by omega)) ?_
    simp only [Zu, Za, Zb, Zg, Zh, Zi, Zk, Zl, Zm, Zn, ↓reduceIte, reduceCtorEq, Zd, Ze, Zc, Zf, Z54, srcB, Int.reduceLT, Int.reduceLE, Int.reduceNeg, Int.reduceEq, Int.reduceGT, Int.reduceGE, decide_true, decide_false, beq_self_eq_true, bne_self_eq_false, Int.reduceBEq, Int.reduceBNe, Int.reduceAdd, Int.reduceSub]
    exact PostR.tell [0] (hp2 := [srcB code (a + 1) _]) (by decide) (by decide) (by decide) ⟨⟨rfl, rfl⟩, trivial⟩ rfl rfl ⟨_, _, low255 _, rfl, rfl⟩
def bitsI (x : Nat) : Int := if (FloatKind.f32.decode x).isNaN then 2143289344 else IntKind.i64.wrap x
def sameAll (xs ys : List Nat) : Bool := decide (xs.length = ys.length) && pref (fun j => bitsI (xs.getD j 0) == bitsI (ys.getD j 0)) xs.length
theorem f32bits_call (x : Nat) (hx : (FloatKind.f32.decode x).isNaN = false) : CallA Tryz.prog 117 [.flt .f32 x] [] (Ret (.int .u32 x) []) :=
  bits_call (e := Extern.MathFloatBits.float32bits) Tryz.func117 (by kernel_rfl) (by kernel_rfl) (by kernel_rfl) (by kernel_rfl) (fun _ _ => rfl) x hx
theorem specBits_call (x : Nat) : CallA Tryz.prog 122 [.flt .f32 x] [] (Ret (.int .i64 (bitsI x)) []) := by
  refine CallP.out (t := .mk) (go_in (md := md122) mixed Tryz.func122 rfl go122 (by kernel_rfl) ?_)
  simp only [Zu, Za, Zb, Zg, Zh, Zi, Zk, Zl, Zm, Zn, ↓reduceIte, reduceCtorEq, Zd, Ze, Zc, Zf, Z122, feq_same]
  refine br_intro (fun h => ?_) (fun h => ?_) <;> simp only [Zu, Za, Zb, Zg, Zh, Zi, Zk, Zl, Zm, Zn, ↓reduceIte, reduceCtorEq, Zd, Ze, Zc, Zf, Z122]
  · exact PostR.pure ⟨by simp [bitsI, h], rfl⟩ rfl
  · refine call_ret (f32bits_call x h) rfl rfl ?_
    simp only [Zu, Za, Zb, Zg, Zh, Zi, Zk, Zl, Zm, Zn, ↓reduceIte, reduceCtorEq, Zd, Ze, Zc, Zf, Z122]
    exact PostR.pure ⟨by simp [bitsI, h], rfl⟩ rfl
theorem implBits_call (x : Nat) : CallA Tryz.prog 77 [.flt .f32 x] [] (Ret (.int .i64 (bitsI x)) []) := by
  refine CallP.out (t := .mk) (go_in (md := md77) mixed Tryz.func77 rfl go77 (by kernel_rfl) ?_)
  simp only [Zu, Za, Zb, Zg, Zh, Zi, Zk, Zl, Zm, Zn, ↓reduceIte, reduceCtorEq, Zd, Ze, Zc, Zf, Z77, feq_same]
  refine br_intro (fun h => ?_) (fun h => ?_) <;> simp only [Zu, Za, Zb, Zg, Zh, Zi, Zk, Zl, Zm, Zn, ↓reduceIte, reduceCtorEq, Zd, Ze, Zc, Zf, Z77]
  · exact PostR.pure ⟨by simp [bitsI, h], rfl⟩ rfl
  · refine call_ret (f32bits_call x h) rfl rfl ?_
    simp only [Zu, Za, Zb, Zg, Zh, Zi, Zk, Zl, Zm, Zn, ↓reduceIte, reduceCtorEq, Zd, Ze, Zc, Zf, Z77]
    exact PostR.pure ⟨by simp [bitsI, h], rfl⟩ rfl
theorem sameNumber_call (x y : Nat) : CallA Tryz.prog 69 [.flt .f32 x, .flt .f32 y] [] (Ret (.bool (bitsI x == bitsI y)) []) := by
  refine CallP.out (t := .mk) (go_in (md := md69) mixed Tryz.func69 rfl go69 (by kernel_rfl) ?_)
  simp only [Zu, Za, Zb, Zg, Zh, Zi, Zk, Zl, Zm, Zn, ↓reduceIte, reduceCtorEq, Zd, Ze, Zc, Zf, Z69]
  refine call_ret (implBits_call x) rfl rfl ?_
  simp only [Zu, Za, Zb, Zg, Zh, Zi, Zk, Zl, Zm, Zn, ↓reduceIte, reduceCtorEq, Zd, Ze, Zc, Zf, Z69]
  refine call_ret (implBits_call y) rfl rfl ?_
  simp only [Zu, Za, Zb, Zg, Zh, Zi, Zk, Zl, Zm, Zn, ↓reduceIte, reduceCtorEq, Zd, Ze, Zc, Zf, Z69]
  exact PostR.pure ⟨rfl, rfl⟩ rfl
theorem f64bits_call (x : Nat) (hx : (FloatKind.f64.decode x).isNaN = false) : CallA Tryz.prog 227 [.flt .f64 x] [] (Ret (.int .u64 x) []) :=
  bits_call (e := Extern.MathFloatBits.float64bits) Tryz.func227 (by kernel_rfl) (by kernel_rfl) (by kernel_rfl) (by kernel_rfl) (fun _ _ => rfl) x hx
theorem f64frombits_call (n : Int) : CallA Tryz.prog 226 [.int .u64 n] [] (Ret (.flt .f64 (canon .f64 n.toNat)) []) :=
  frombits_call (e := Extern.MathFloatBits.float64frombits) Tryz.func226 (by kernel_rfl) (by kernel_rfl) (by kernel_rfl) (by kernel_rfl) (fun _ _ => rfl) n
theorem abs_call (x : Nat) (hx : (FloatKind.f64.decode x).isNaN = false) (hl : x < 18446744073709551616) : CallA Tryz.prog 223 [.flt .f64 x] [] (Ret (.flt .f64 (x % 9223372036854775808)) []) := by
  refine CallP.out (t := .mk) (go_in (md := md223) mixed Tryz.func223 rfl go223 (by kernel_rfl) ?_)
  simp only [Zu, Za, Zb, Zg, Zh, Zi, Zk, Zl, Zm, Zn, ↓reduceIte, reduceCtorEq, Zd, Ze, Zc, Zf, Z223]
  refine call_ret (f64bits_call x hx) rfl rfl ?_
  simp only [Zu, Za, Zb, Zg, Zh, Zi, Zk, Zl, Zm, Zn, ↓reduceIte, reduceCtorEq, Zd, Ze, Zc, Zf, Z223]
  refine call_ret (f64frombits_call _) rfl rfl ?_
  simp only [Zu, Za, Zb, Zg, Zh, Zi, Zk, Zl, Zm, Zn, ↓reduceIte, reduceCtorEq, Zd, Ze, Zc, Zf, Z223, bits_abs x hl, abs_nan x hx]
  exact PostR.ret
theorem isInf_call (x : Nat) (hx : (FloatKind.f64.decode x).isNaN = false) (hl : x < 18446744073709551616) : CallA Tryz.prog 214 [.flt .f64 x, .int .i64 0] [] (Ret (.bool (infB .f64 x)) []) := by
  refine CallP.out (t := .mk) (go_in (md := md214) mixed Tryz.func214 rfl go214 (by kernel_rfl) ?_)
  simp only [Zu, Za, Zb, Zg, Zh, Zi, Zk, Zl, Zm, Zn, ↓reduceIte, reduceCtorEq, Zd, Ze, Zc, Zf, Z214, beq_self_eq_true]
  refine call_ret (abs_call x hx hl) rfl rfl ?_
  simp only [Zu, Za, Zb, Zg, Zh, Zi, Zk, Zl, Zm, Zn, ↓reduceIte, reduceCtorEq, Zd, Ze, Zc, Zf, Z214, canon_max, fgt_max]
  exact PostR.ret
theorem isNone_call (x : Nat) : CallA Tryz.prog 213 [.flt .f64 x] [] (Ret (.bool (FloatKind.f64.decode x).isNaN) []) := by
  refine CallP.out (t := .mk) (go_in (md := md213) mixed Tryz.func213 rfl go213 (by kernel_rfl) ?_)
  simp only [Zu, Za, Zb, Zg, Zh, Zi, Zk, Zl, Zm, Zn, ↓reduceIte, reduceCtorEq, Zd, Ze, Zc, Zf, Z213, feq_same, Bool.not_not]
  exact PostR.ret
theorem isEnded_call (x : Nat) (hl : x < 18446744073709551616) : CallA Tryz.prog 197 [.flt .f64 x] [] (Ret (.bool (finB .f64 x)) []) := by
  refine CallP.out (t := .mk) (go_in (md := md197) mixed Tryz.func197 rfl go197 (by kernel_rfl) ?_)
  simp only [Zu, Za, Zb, Zg, Zh, Zi, Zk, Zl, Zm, Zn, ↓reduceIte, reduceCtorEq, Zd, Ze, Zc, Zf, Z197]
  refine call_ret (isNone_call x) rfl rfl ?_
  simp only [Zu, Za, Zb, Zg, Zh, Zi, Zk, Zl, Zm, Zn, ↓reduceIte, reduceCtorEq, Zd, Ze, Zc, Zf, Z197]
  refine br_intro (fun h => ?_) (fun h => ?_) <;> simp only [Zu, Za, Zb, Zg, Zh, Zi, Zk, Zl, Zm, Zn, ↓reduceIte, reduceCtorEq, Zd, Ze, Zc, Zf, Z197]
  · exact PostR.pure ⟨by simp [fin_of, h], rfl⟩ rfl
  · refine call_ret (isInf_call x h hl) rfl rfl ?_
    simp only [Zu, Za, Zb, Zg, Zh, Zi, Zk, Zl, Zm, Zn, ↓reduceIte, reduceCtorEq, Zd, Ze, Zc, Zf, Z197]
    exact PostR.pure ⟨by simp [fin_of, h], rfl⟩ rfl
theorem isFinite_call (x : Nat) : CallA Tryz.prog 176 [.flt .f32 x] [] (Ret (.bool (finB .f32 x)) []) := by
  refine CallP.out (t := .mk) (go_in (md := md176) mixed Tryz.func176 rfl go176 (by kernel_rfl) ?_)
  simp only [Zu, Za, Zb, Zg, Zh, Zi, Zk, Zl, Zm, Zn, ↓reduceIte, reduceCtorEq, Zd, Ze, Zc, Zf, Z176]
  refine call_ret (isEnded_call _ (wide_lt x)) rfl rfl ?_
  simp only [Zu, Za, Zb, Zg, Zh, Zi, Zk, Zl, Zm, Zn, ↓reduceIte, reduceCtorEq, Zd, Ze, Zc, Zf, Z176, wide_fin]
  exact PostR.ret
end Go.Proofs.YtodjjpmigcacoaaGreatDoor
set_option maxRecDepth 100000
set_option maxHeartbeats 8000000
namespace Go.Proofs.YtodjjpmigcacoaaGreatDoor
open Go Go.RowKit
theorem tz_core (idx k : Nat) (w : World) (key : IntKind.u64.wrap (bits BinOp.and IntKind.u64 16 (IntKind.u64.wrap (-16)) * 285870213051353865) / 288230376151711744 = (idx : Int)) (hi : idx < 64) (hk : k < 64) (hcell : w.cell? ⟨10, idx, none⟩ = some (.int .u8 k)) :
    Calls Tryz.prog 211 #[.int .u64 16] w fun e w' => e = .returned (.int .i64 k) ∧ w' = w := by
  have u159 := run_underlying Tryz.underlying159
  have u5 := run_underlying Tryz.underlying5
  have u3 := run_underlying Tryz.underlying3
  have u87 := run_underlying Tryz.underlying87
  have u103 := run_underlying Tryz.underlying103
  have mixed : Tryz.prog.follows .mixedOrders = true := by kernel_rfl
  go_enter Tryz.func211, Tryz.ntmps211
  go_wp2_with (simp only [key])
  go_ret
  exact ⟨rfl, rfl⟩
end Go.Proofs.YtodjjpmigcacoaaGreatDoor
namespace Go.Proofs.YtodjjpmigcacoaaGreatDoor
open Go Go.Abs
open Nat renaming reduceAdd → Za, reduceSub → Zb, reduceMul → Zc, reduceLT → Zd, reduceLeDiff → Ze, reduceEqDiff → Zf
open Int renaming reduceToNat → Zn
open Go.Abs renaming lenA → Zg, convA → Zh, indexA → Zi, flatP → Zj, nilI → Zk, ifaA → Zl, indexS → Zm
theorem tz64_call : CallA Tryz.prog 211 [.int .u64 16] [] (Ret (.int .i64 4) []) := by
  intro E vs H hl hrv
  obtain ⟨v, rfl, hv⟩ := RV.one hl hrv
  cases hv
  have hg : Tryz.prog.globalNamed "math/bits.deBruijn64tab" = some 10 := by kernel_rfl
  obtain ⟨_, ty, fr, hc⟩ := H.laid.1 ("math/bits.deBruijn64tab", .u8, bits64) (by simp [tables]) 10 hg
  have hcell : E.w.cell? ⟨10, 15, none⟩ = some (.int .u8 ((4 : Nat) : Int)) := by
    simp [World.cell?, hc, bits64]
  refine .inl ⟨go211, (tz_core 15 4 E.w (by decide) (by decide) (by decide) hcell).mono ?_⟩
  rintro ex w' ⟨rfl, rfl⟩
  exact ⟨_, rfl, .int .i64 4, [], E, rfl, ⟨rfl, rfl⟩, .int _ _, H, Fr.refl E []⟩
theorem tz_call : CallA Tryz.prog 192 [.int .u64 16] [] (Ret (.int .i64 4) []) := by
  refine CallP.out (t := .mk) (go_in (md := md192) mixed Tryz.func192 rfl go192 (by kernel_rfl) ?_)
  simp only [Zu, Za, Zb, Zg, Zh, Zi, Zk, Zl, Zm, sliceA, Zn, ↓reduceIte, reduceCtorEq, Zd, Ze, Zc, Zf, Z192]
  refine call_ret tz64_call rfl rfl ?_
  simp only [Zu, Za, Zb, Zg, Zh, Zi, Zk, Zl, Zm, sliceA, Zn, ↓reduceIte, reduceCtorEq, Zd, Ze, Zc, Zf, Z192]
  exact PostR.pure ⟨rfl, rfl⟩ rfl
theorem pow2_call : CallA Tryz.prog 191 [.int .i64 16] [] (Ret (.bool true) []) := by
  refine CallP.out (t := .mk) (go_in (md := md191) mixed Tryz.func191 rfl go191 (by kernel_rfl) ?_)
  simp only [Zu, Za, Zb, Zg, Zh, Zi, Zk, Zl, Zm, sliceA, Zn, ↓reduceIte, reduceCtorEq, Zd, Ze, Zc, Zf, Z191]
  exact PostR.pure ⟨by first | rfl | decide, rfl⟩ rfl
def hexC (d : Nat) : UInt8 := if d < 10 then UInt8.ofNat (48 + d) else UInt8.ofNat (87 + d)
def hexT (n : Nat) : Nat → List UInt8
  | 0 => []
  | k + 1 => hexC (n / 16 ^ k % 16) :: hexT n k
theorem hexT_len (n : Nat) : ∀ k, (hexT n k).length = k
  | 0 => rfl
  | k + 1 => by show (hexT n k).length + 1 = _; rw [hexT_len n k]
theorem hexT_pad (n : Nat) : ∀ (j k : Nat), n < 16 ^ k → hexT n (k + j) = List.replicate j 48 ++ hexT n k
  | 0, k, _ => rfl
  | j + 1, k, h => by
    show hexC (n / 16 ^ (k + j) % 16) :: hexT n (k + j) = _
    have hp : 16 ^ k ≤ 16 ^ (k + j) := Nat.pow_le_pow_right (by decide) (by omega)
    rw [hexT_pad n j k h, Nat.div_eq_of_lt (by omega)]
    rfl
def digs : List UInt8 := 48 :: 49 :: 50 :: 51 :: 52 :: 53 :: 54 :: 55 :: 56 :: 57 :: 97 :: 98 :: 99 :: 100 :: 101 :: 102 :: 103 :: 104 :: 105 :: 106 :: 107 :: 108 :: 109 :: 110 :: 111 :: 112 :: 113 :: 114 :: 115 :: 116 :: 117 :: 118 :: 119 :: 120 :: 121 :: 122 :: []
theorem digs_at (d : Nat) (h : d < 16) (h2 : d < digs.length) : digs[d] = hexC d := by
  revert h2
  revert d
  decide
theorem and15 (m : Nat) (h : m < 18446744073709551616) : IntKind.u64.wrap (((BitVec.ofInt IntKind.u64.bits (m : Int) &&& BitVec.ofInt IntKind.u64.bits 15).toNat : Nat) : Int) = ((m % 16 : Nat) : Int) := by
  have e1 : BitVec.ofInt IntKind.u64.bits (m : Int) = BitVec.ofNat IntKind.u64.bits m := BitVec.ofInt_natCast _ _
  have e2 : BitVec.ofInt IntKind.u64.bits 15 = BitVec.ofNat IntKind.u64.bits 15 := rfl
  rw [e1, e2, BitVec.toNat_and, BitVec.toNat_ofNat, BitVec.toNat_ofNat]
  have b : IntKind.u64.bits = 64 := rfl
  rw [b, Nat.mod_eq_of_lt (by omega), show 15 % 2 ^ 64 = 2 ^ 4 - 1 from rfl, Nat.and_two_pow_sub_one_eq_mod]
  simp [IntKind.wrap, IntKind.signed, IntKind.bits]
  omega
theorem rep_set (m : Nat) (c : UInt8) (T : List UInt8) : (List.replicate (m + 1) 0 ++ T).set m c = List.replicate m 0 ++ c :: T := by
  rw [List.replicate_succ', List.append_assoc, List.set_append_right _ _ (by simp)]
  simp
theorem byts_set (l : List UInt8) (i : Nat) (c : UInt8) : (byts l).set i (.int .u8 (c.toNat : Int)) = byts (l.set i c) := by
  unfold byts
  rw [List.map_set]
theorem und220 : Tryz.prog.underlying 220 = some (TypeDesc.array 65 5) := Tryz.underlying220
theorem shr4 (n j : Nat) : ((n / 16 ^ j : Nat) : Int).fdiv (2 ^ min 4 IntKind.u64.bits) = ((n / 16 ^ (j + 1) : Nat) : Int) := by
  have e : (2 : Int) ^ min 4 IntKind.u64.bits = ((16 : Nat) : Int) := by decide
  rw [e, Int.fdiv_eq_ediv_of_nonneg _ (by omega), ← Int.natCast_ediv, Nat.div_div_eq_div_mul, ← Nat.pow_succ]
theorem formatBits_call (n : Nat) (hn : n < 4294967296) : CallA Tryz.prog 163 [.nils, .int .u64 n, .int .i64 16, .bool false, .bool false] [] (fun r hp => ∃ k, 1 ≤ k ∧ k ≤ 8 ∧ n < 16 ^ k ∧ r = .tup [.nils, .str (hexT n k)] ∧ hp = []) := by
  refine CallP.out (t := .mk) (go_in (md := md163) mixed Tryz.func163 rfl go163 (by kernel_rfl) ?_)
  simp only [Zu, Za, Zb, Zg, Zh, Zi, Zk, Zl, Zm, sliceA, Zn, ↓reduceIte, reduceCtorEq, Zd, Ze, Zc, Zf, Z163, zero220]
  repeat (refine br_no (by first | exact decide_eq_false (by omega) | exact beq_false_of_ne (by omega) | (simp only [bne_eq_false_iff_eq, beq_eq_false_iff_ne, ne_eq]; omega)) ?_; simp only [Zu, Za, Zb, Zg, Zh, Zi, Zk, Zl, Zm, sliceA, Zn, ↓reduceIte, reduceCtorEq, Zd, Ze, Zc, Zf, Z163, zero220])
  refine call_ret pow2_call rfl rfl ?_
  simp only [Zu, Za, Zb, Zg, Zh, Zi, Zk, Zl, Zm, sliceA, Zn, ↓reduceIte, reduceCtorEq, Zd, Ze, Zc, Zf, Z163, zero220]
  refine call_ret tz_call rfl rfl ?_
  simp only [Zu, Za, Zb, Zg, Zh, Zi, Zk, Zl, Zm, sliceA, Zn, ↓reduceIte, reduceCtorEq, Zd, Ze, Zc, Zf, Z163, zero220]
  have hw16 : IntKind.u64.wrap 16 = 16 := by decide
  have hw4 : IntKind.u64.wrap 4 = 4 := by decide
  have hw15 : IntKind.u64.wrap (16 - 1) = 15 := by decide
  refine go_round (md := md163) mixed (by kernel_rfl) (fun j : {j : Nat // j ≤ 7} => ⟨(.any :: (.int .u64 ((n / 16 ^ j.1 : Nat) : Int)) :: .any :: (.bool false) :: (.bool false) :: .any :: .any :: .any :: .any :: .any :: .nils :: (.str []) :: (.ptr 0 0 0) :: (.int .i64 ((65 - j.1 : Nat) : Int)) :: (.int .u64 4) :: (.int .u64 16) :: (.int .u64 15) :: .any :: .any :: .any :: .any :: .any :: .any :: .any :: .any :: .any :: .any :: .any :: .any :: .any :: .any :: .any :: .any :: .any :: .any :: .any :: .any :: .any :: .any :: .any :: .any :: .any :: .any :: .any :: .any :: .any :: .any :: .any :: .any :: .any :: .any :: .any :: .any :: .any :: .any :: .any :: .any :: .any :: .any :: .any :: .any :: .any :: .any :: .any :: .any :: .any :: .any :: .any :: .any :: .any :: .any :: .any :: .any :: .any :: .any :: .any :: .any :: .any :: .any :: .any :: .any :: .any :: .any :: .any :: .any :: .any :: .any :: .any :: .any :: .any :: .any :: .any :: .any :: .any :: .any :: .any :: .any :: .any :: .any :: .any :: .any :: .any :: []), [{ ty := 220, w := 1, els := byts (List.replicate (65 - j.1) 0 ++ hexT n j.1) }]⟩) (fun j => 8 - j.1) ⟨0, Nat.zero_le _⟩ ?_ ?_
  · refine weak_flat (W := 65) (cs := List.replicate 65 (.int .u8 0)) (by decide) (by decide) ?_
    simp [FlatTm, FlatV, below, belowM, belowL, hw16, hw4, hw15, show IntKind.u64.wrap 15 = 15 from by decide]
  rintro ⟨j, hj⟩
  dsimp only
  have hl : (List.replicate (65 - j) (0 : UInt8) ++ hexT n j).length = 65 := by rw [List.length_append, List.length_replicate, hexT_len]; omega
  have hn1 : n / 16 ^ j < 4294967296 := Nat.lt_of_le_of_lt (Nat.div_le_self _ _) hn
  have hd16 : n / 16 ^ j % 16 < 16 := Nat.mod_lt _ (by decide)
  have a15 := and15 (n / 16 ^ j) (by omega)
  have wi : IntKind.i64.wrap (((65 - j : Nat) : Int) - 1) = ((64 - j : Nat) : Int) := by rw [w64 (by omega) (by omega)]; omega
  have dg : ∀ h, (48 :: 49 :: 50 :: 51 :: 52 :: 53 :: 54 :: 55 :: 56 :: 57 :: 97 :: 98 :: 99 :: 100 :: 101 :: 102 :: 103 :: 104 :: 105 :: 106 :: 107 :: 108 :: 109 :: 110 :: 111 :: 112 :: 113 :: 114 :: 115 :: 116 :: 117 :: 118 :: 119 :: 120 :: 121 :: 122 :: [] : List UInt8)[n / 16 ^ j % 16]'h = hexC (n / 16 ^ j % 16) := fun h => digs_at _ hd16 h
  have rs := rep_set (64 - j) (hexC (n / 16 ^ j % 16)) (hexT n j)
  rw [show 64 - j + 1 = 65 - j by omega] at rs
  simp only [Zu, Za, Zb, Zg, Zh, Zi, Zk, Zl, Zm, sliceA, Zn, ↓reduceIte, reduceCtorEq, Zd, Ze, Zc, Zf, Z163]
  refine br_intro (fun h => ?_) (fun h => ?_) <;> simp only [Zu, Za, Zb, Zg, Zh, Zi, Zk, Zl, Zm, sliceA, Zn, ↓reduceIte, reduceCtorEq, Zd, Ze, Zc, Zf, Z163, a15, und220, wi]
  · have hj' : 16 ≤ n / 16 ^ j := by have := of_decide_eq_true h; omega
    have hj7 : j ≤ 6 := by
      by_cases e : j = 7
      · subst e
        omega
      · omega
    refine ⟨by show n / 16 ^ j % 16 < 36; omega, by omega, by unfold byts; rw [List.length_map, hl]; omega, by omega, ⟨j + 1, by omega⟩, by show 8 - (j + 1) < _; omega, ?_⟩
    simp only [dg, Nat.mul_one, byts_set, rs, shr4]
    rw [show 65 - (j + 1) = 64 - j by omega, show hexC (n / 16 ^ j % 16) :: hexT n j = hexT n (j + 1) from rfl]
    exact weak_drop (by simp) (by simp [DropHp, ints_below, flts_below, byts_below]) (by simp [DropTm, DropV, below, belowM, belowL, byts_below])
  · have hj' : n / 16 ^ j < 16 := by have := of_decide_eq_false h; omega
    have dg0 := dg
    rw [Nat.mod_eq_of_lt hj'] at dg0 rs
    have hk : n < 16 ^ (j + 1) := by
      rw [Nat.pow_succ]
      exact Nat.mul_comm 16 (16 ^ j) ▸ (Nat.div_lt_iff_lt_mul (Nat.pow_pos (n := j) (show 0 < 16 by decide))).1 hj'
    have hx : hexT n (j + 1) = hexC (n / 16 ^ j) :: hexT n j := by show hexC (n / 16 ^ j % 16) :: _ = _; rw [Nat.mod_eq_of_lt hj']
    refine ⟨by show n / 16 ^ j < 36; omega, by omega, by unfold byts; rw [List.length_map, hl]; omega, by omega, by omega, by decide, ?_⟩
    simp only [dg0, Nat.mul_one, byts_set, rs]
    refine ⟨⟨_, rfl, rfl, rfl, ?_⟩, ⟨5, rfl, Tryz.underlying5⟩, hexT n (j + 1), ?_, by rw [hexT_len]; omega, ?_⟩
    · show 65 ≤ (byts _).length
      unfold byts
      rw [List.length_map, List.length_append, List.length_replicate, List.length_cons, hexT_len]
      omega
    · unfold byts
      rw [← List.map_drop, List.drop_left' (by rw [List.length_replicate]), ← hx, ← List.map_take, List.take_of_length_le (by rw [hexT_len]; omega)]
    · exact PostR.pure ⟨j + 1, by omega, by omega, hk, rfl, rfl⟩ rfl
set_option maxRecDepth 10000
set_option maxHeartbeats 4000000
def okW (x : Nat) : Prop := x < 4294967296 ∧ ((FloatKind.f32.decode x).isNaN = true → x = 2143289344)
theorem bitsI_ok {x : Nat} (h : okW x) : bitsI x = (x : Int) := by
  unfold bitsI
  obtain ⟨h1, h2⟩ := h
  split
  · rename_i e
    rw [h2 e]
    rfl
  · exact w64 (by omega) (by omega)
theorem formatInt16_call (n : Nat) (hn : n < 4294967296) : CallA Tryz.prog 116 [.int .i64 n, .int .i64 16] [] (fun r hp => ∃ k, 1 ≤ k ∧ k ≤ 8 ∧ n < 16 ^ k ∧ r = .str (hexT n k) ∧ hp = []) := by
  have e1 : IntKind.u64.wrap (n : Int) = (n : Int) := IntWalk.u64_in _ (by omega)
  refine CallP.out (t := .mk) (go_in (md := md116) mixed Tryz.func116 rfl go116 (by kernel_rfl) ?_)
  simp only [Zu, Za, Zb, Zg, Zh, Zi, Zk, Zl, Zm, Zn, ↓reduceIte, reduceCtorEq, Zd, Ze, Zc, Zf, Z116, e1]
  repeat (refine br_no (by first | exact decide_eq_false (by omega) | exact beq_false_of_ne (by omega) | (simp only [bne_eq_false_iff_eq, beq_eq_false_iff_ne, ne_eq]; omega)) ?_; simp only [Zu, Za, Zb, Zg, Zh, Zi, Zk, Zl, Zm, Zn, ↓reduceIte, reduceCtorEq, Zd, Ze, Zc, Zf, Z116, e1])
  have hd : decide ((n : Int) < 0) = false := decide_eq_false (by omega)
  simp only [hd]
  refine call_by (formatBits_call n hn) ?_
  rintro r hp' ⟨k, k1, k2, hk, rfl, rfl⟩
  simp only [Zu, Za, Zb, Zg, Zh, Zi, Zk, Zl, Zm, Zn, ↓reduceIte, reduceCtorEq, Zd, Ze, Zc, Zf, Z116]
  exact PostR.pure ⟨k, k1, k2, hk, rfl, rfl⟩ rfl
theorem formatIntS_call (n : Nat) (hn : n < 4294967296) : CallA Tryz.prog 76 [.int .i64 n, .int .i64 16] [] (fun r hp => ∃ k, 1 ≤ k ∧ k ≤ 8 ∧ n < 16 ^ k ∧ r = .str (hexT n k) ∧ hp = []) := by
  refine CallP.out (t := .mk) (go_in (md := md76) mixed Tryz.func76 rfl go76 (by kernel_rfl) ?_)
  simp only [Zu, Za, Zb, Zg, Zh, Zi, Zk, Zl, Zm, Zn, ↓reduceIte, reduceCtorEq, Zd, Ze, Zc, Zf, Z76]
  refine call_by (formatInt16_call n hn) ?_
  rintro r hp' ⟨k, k1, k2, hk, rfl, rfl⟩
  simp only [Zu, Za, Zb, Zg, Zh, Zi, Zk, Zl, Zm, Zn, ↓reduceIte, reduceCtorEq, Zd, Ze, Zc, Zf, Z76]
  exact PostR.pure ⟨k, k1, k2, hk, rfl, rfl⟩ rfl
theorem repL (c : Nat) : Lib.repeatL [(48 : UInt8)] c = List.replicate c 48 := by
  induction c with
  | zero => rfl
  | succ c ih => rw [Lib.repeatL, ih]; rfl
theorem repeat_call (c : Nat) (hc : c ≤ 8) : CallA Tryz.prog 78 [.str [48], .int .i64 c] [] (Ret (.str (List.replicate c 48)) []) := by
  intro E vs H hl hrv
  obtain ⟨v, u, rfl, hv, hu⟩ := RV.two hl hrv
  cases hv
  cases hu
  have h := strings_Repeat ⟨[48].toArray⟩ c E.w (by omega) (by show 1 * c ≤ _; omega)
  refine .inl ⟨go78, h.mono ?_⟩
  rintro ex w' ⟨rfl, bel⟩
  obtain ⟨H2, F2, _⟩ := H.extend (w' := w') bel.size bel.block bel.os bel.tape bel.output
  refine ⟨_, rfl, .str (List.replicate c 48), [], E.with _, rfl, ⟨rfl, rfl⟩, ?_, H2, F2 (Fr.refl E _)⟩
  rw [show Lib.repeatL (⟨[48].toArray⟩ : ByteArray).data.toList c = List.replicate c 48 from repL c]
  exact .str _
theorem hex_call (x : Nat) (hx : okW x) : CallA Tryz.prog 41 [.flt .f32 x] [] (Ret (.str (hexT x 8)) []) := by
  refine CallP.out (t := .mk) (go_in (md := md41) mixed Tryz.func41 rfl go41 (by kernel_rfl) ?_)
  simp only [Zu, Za, Zb, Zg, Zh, Zi, Zk, Zl, Zm, Zn, ↓reduceIte, reduceCtorEq, Zd, Ze, Zc, Zf, Z41]
  refine call_ret (implBits_call x) rfl rfl ?_
  simp only [Zu, Za, Zb, Zg, Zh, Zi, Zk, Zl, Zm, Zn, ↓reduceIte, reduceCtorEq, Zd, Ze, Zc, Zf, Z41, bitsI_ok hx]
  refine call_by (formatIntS_call x hx.1) ?_
  rintro r hp' ⟨k, k1, k2, hk, rfl, rfl⟩
  have e1 : IntKind.i64.wrap (8 - (k : Int)) = ((8 - k : Nat) : Int) := by rw [w64 (by omega) (by omega)]; omega
  simp only [Zu, Za, Zb, Zg, Zh, Zi, Zk, Zl, Zm, Zn, ↓reduceIte, reduceCtorEq, Zd, Ze, Zc, Zf, Z41, hexT_len, e1]
  refine call_ret (repeat_call (8 - k) (by omega)) rfl rfl ?_
  simp only [Zu, Za, Zb, Zg, Zh, Zi, Zk, Zl, Zm, Zn, ↓reduceIte, reduceCtorEq, Zd, Ze, Zc, Zf, Z41]
  have e2 := hexT_pad x (8 - k) k hk
  rw [show k + (8 - k) = 8 by omega] at e2
  refine ⟨by rw [List.length_replicate, hexT_len]; omega, ?_⟩
  exact PostR.pure ⟨by rw [e2], rfl⟩ rfl
set_option maxHeartbeats 8000000
theorem low_let (d : Nat) (h : d < 6) : IntKind.u8.wrap ((BitVec.ofInt IntKind.u8.bits ((97 + d : Nat) : Int) ||| BitVec.ofInt IntKind.u8.bits 32).toNat : Int) = ((97 + d : Nat) : Int) := by
  revert d
  decide
theorem lower_call (d : Nat) (h : d < 6) : CallA Tryz.prog 167 [.int .u8 ((97 + d : Nat) : Int)] [] (Ret (.int .u8 ((97 + d : Nat) : Int)) []) := by
  refine CallP.out (t := .mk) (go_in (md := md167) mixed Tryz.func167 rfl go167 (by kernel_rfl) ?_)
  simp only [Zu, Za, Zb, Zg, Zh, convO, Zi, Zk, Zl, Zm, sliceA, Zn, ↓reduceIte, reduceCtorEq, Zd, Ze, Zc, Zf, Z167]
  exact PostR.pure ⟨by rw [low_let d h], rfl⟩ rfl
theorem hexT_at (n : Nat) : ∀ (k j : Nat) (h : j < k) (h2 : j < (hexT n k).length), (hexT n k)[j] = hexC (n / 16 ^ (k - 1 - j) % 16)
  | k + 1, 0, _, _ => rfl
  | k + 1, j + 1, h, h2 => by
    show (hexT n k)[j]'(by rw [hexT_len]; omega) = _
    rw [hexT_at n k j (by omega) (by rw [hexT_len]; omega), show k + 1 - 1 - (j + 1) = k - 1 - j by omega]
theorem hexC_dig (d : Nat) (h : d < 10) : (hexC d).toNat = 48 + d := by
  revert d
  decide
theorem hexC_let (d : Nat) (h : d < 6) : (hexC (10 + d)).toNat = 97 + d := by
  revert d
  decide
theorem wrap_u8 {x : Int} (h0 : 0 ≤ x) (h1 : x ≤ 255) : IntKind.u8.wrap x = x := by
  show x % 256 = x
  exact Int.emod_eq_of_lt h0 (by omega)
theorem hex_byte (x j : Nat) (h : j < 8) (hb : j < (byts (hexT x 8)).length) : (byts (hexT x 8))[j]'hb = AV.int .u8 ((hexC (x / 16 ^ (7 - j) % 16)).toNat : Int) := by
  have h2 : j < (hexT x 8).length := by rw [hexT_len]; exact h
  have e := hexT_at x 8 j h h2
  rw [show 8 - 1 - j = 7 - j by omega] at e
  have k : (byts (hexT x 8))[j]'hb = AV.int .u8 (((hexT x 8)[j]'h2).toNat : Int) := List.getElem_map ..
  rw [k, e]
theorem parseUint_call (x : Nat) (hx : x < 4294967296) : CallA Tryz.prog 120 [.str (hexT x 8), .int .i64 16, .int .i64 32] [] (Ret (.tup [.int .u64 x, .nili]) []) := by
  have hne : (hexT x 8 == ([] : List UInt8)) = false := rfl
  have ln := hexT_len x 8
  refine CallP.out (t := .mk) (go_in (md := md120) mixed Tryz.func120 rfl go120 (by kernel_rfl) ?_)
  simp only [Zu, Za, Zb, Zg, Zh, convO, Zi, Zk, Zl, Zm, sliceA, Zn, ↓reduceIte, reduceCtorEq, Zd, Ze, Zc, Zf, Z120, hne, Int.reduceLT, Int.reduceLE, Int.reduceNeg, Int.reduceEq, Int.reduceGT, Int.reduceGE, decide_true, decide_false, beq_self_eq_true, bne_self_eq_false, Int.reduceBEq, Int.reduceBNe, Int.reduceAdd, Int.reduceSub]
  repeat (first | (refine br_no (by first | exact decide_eq_false (by omega) | exact beq_false_of_ne (by omega) | (simp only [bne_eq_false_iff_eq, beq_eq_false_iff_ne, ne_eq]; omega)) ?_; simp only [Zu, Za, Zb, Zg, Zh, convO, Zi, Zk, Zl, Zm, sliceA, Zn, ↓reduceIte, reduceCtorEq, Zd, Ze, Zc, Zf, Z120, hne, ln, Int.reduceLT, Int.reduceLE, Int.reduceNeg, Int.reduceEq, Int.reduceGT, Int.reduceGE, decide_true, decide_false, beq_self_eq_true, bne_self_eq_false, Int.reduceBEq, Int.reduceBNe, Int.reduceAdd, Int.reduceSub]) | (refine br_yes (by first | exact decide_eq_true (by omega) | (simp only [bne_iff_ne, beq_iff_eq, ne_eq]; omega)) ?_; simp only [Zu, Za, Zb, Zg, Zh, convO, Zi, Zk, Zl, Zm, sliceA, Zn, ↓reduceIte, reduceCtorEq, Zd, Ze, Zc, Zf, Z120, hne, ln, Int.reduceLT, Int.reduceLE, Int.reduceNeg, Int.reduceEq, Int.reduceGT, Int.reduceGE, decide_true, decide_false, beq_self_eq_true, bne_self_eq_false, Int.reduceBEq, Int.reduceBNe, Int.reduceAdd, Int.reduceSub]) | (refine ⟨by assumption, ?_⟩; simp only [Zu, Za, Zb, Zg, Zh, convO, Zi, Zk, Zl, Zm, sliceA, Zn, ↓reduceIte, reduceCtorEq, Zd, Ze, Zc, Zf, Z120, hne, ln, Int.reduceLT, Int.reduceLE, Int.reduceNeg, Int.reduceEq, Int.reduceGT, Int.reduceGE, decide_true, decide_false, beq_self_eq_true, bne_self_eq_false, Int.reduceBEq, Int.reduceBNe, Int.reduceAdd, Int.reduceSub]))
  refine ⟨by decide, by omega, ?_⟩
  have hw1 : IntKind.u64.wrap ((IntKind.u64.wrap (1 * 2 ^ min (IntKind.u64.wrap 32).toNat IntKind.u64.bits)) - 1) = 4294967295 := by decide
  refine go_round (md := md120) mixed (by kernel_rfl) (fun j : {j : Nat // j ≤ 8} => ⟨(.any :: (.int .i64 16) :: .any :: .any :: .any :: .any :: .any :: .any :: (.bool false) :: (.str (hexT x 8)) :: (.int .u64 1152921504606846976) :: (.int .u64 4294967295) :: (.bool false) :: (.int .u64 ((x / 16 ^ (8 - j.1) : Nat) : Int)) :: .any :: .any :: .any :: .any :: .any :: .any :: .any :: .any :: .any :: .any :: .any :: .any :: .any :: .any :: .any :: .any :: .any :: .any :: .any :: .any :: .any :: .any :: .any :: .any :: .any :: .any :: .any :: .any :: .any :: .any :: .any :: .any :: .any :: .any :: .any :: .any :: .any :: .any :: .any :: .any :: .any :: .any :: .any :: .any :: .any :: .any :: .any :: .any :: .any :: .any :: .any :: .any :: .any :: .any :: .any :: .any :: .any :: .any :: .any :: .any :: .any :: .any :: .any :: .any :: .any :: .any :: .any :: .any :: .any :: .any :: .any :: .any :: .any :: .any :: .any :: .any :: .any :: .any :: .any :: .any :: .any :: .any :: .any :: .any :: .any :: (.sl 0 0 8) :: (.int .i64 8) :: (.int .i64 j.1) :: .any :: .any :: .any :: .any :: .any :: .any :: .any :: .any :: .any :: .any :: .any :: .any :: .any :: .any :: .any :: .any :: .any :: .any :: .any :: .any :: .any :: .any :: .any :: .any :: .any :: .any :: .any :: .any :: .any :: .any :: .any :: .any :: .any :: .any :: .any :: .any :: .any :: .any :: .any :: .any :: .any :: .any :: .any :: .any :: .any :: .any :: .any :: .any :: .any :: .any :: .any :: .any :: .any :: .any :: .any :: .any :: .any :: .any :: .any :: .any :: .any :: .any :: .any :: .any :: .any :: .any :: .any :: .any :: .any :: .any :: []), [bytB (hexT x 8)]⟩) (fun j => 8 - j.1) ⟨0, Nat.zero_le _⟩ ?_ ?_
  · have e0 : x / 16 ^ 8 = 0 := Nat.div_eq_of_lt hx
    simp only [Nat.sub_zero, e0, ln, hw1]
    exact weak_drop (by simp) (by simp [DropHp, ints_below, flts_below, bytB, byts_below]) (by simp [DropTm, DropV, below, belowM, belowL, bytB, byts_below])
  rintro ⟨j, hj⟩
  dsimp only
  simp only [Zu, Za, Zb, Zg, Zh, convO, Zi, Zk, Zl, Zm, sliceA, Zn, ↓reduceIte, reduceCtorEq, Zd, Ze, Zc, Zf, Z120, bytB]
  refine br_intro (fun h => ?_) (fun h => ?_) <;> simp only [Zu, Za, Zb, Zg, Zh, convO, Zi, Zk, Zl, Zm, sliceA, Zn, ↓reduceIte, reduceCtorEq, Zd, Ze, Zc, Zf, Z120, bytB, ln]
  · have h' : (j : Int) < 8 := of_decide_eq_true h
    have hj8 : j < 8 := by omega
    have hat := hex_byte x j hj8
    have hd : x / 16 ^ (7 - j) % 16 < 16 := Nat.mod_lt _ (by decide)
    have hq : x / 16 ^ (7 - j) = 16 * (x / 16 ^ (8 - j)) + x / 16 ^ (7 - j) % 16 := by
      rw [show 8 - j = (7 - j) + 1 by omega, Nat.pow_succ, ← Nat.div_div_eq_div_mul]
      omega
    have hlt : x / 16 ^ (7 - j) < 4294967296 := Nat.lt_of_le_of_lt (Nat.div_le_self _ _) hx
    generalize x / 16 ^ (7 - j) % 16 = d at hat hd hq
    generalize hm : x / 16 ^ (8 - j) = m at *
    have hbl : j < (byts (hexT x 8)).length := by unfold byts; rw [List.length_map]; omega
    have mu : IntKind.u64.wrap ((m : Int) * 16) = ((16 * m : Nat) : Int) := by rw [IntWalk.u64_in _ (by omega)]; omega
    have mw : IntKind.u64.wrap (((16 * m : Nat) : Int) + (d : Int)) = ((16 * m + d : Nat) : Int) := by rw [IntWalk.u64_in _ (by omega)]; omega
    have dw : IntKind.u64.wrap (d : Int) = (d : Int) := IntWalk.u64_in _ (by omega)
    have dw2 : IntKind.i64.wrap ((j : Int) + 1) = ((j + 1 : Nat) : Int) := w64_succ j (by omega)
    have w16 : IntKind.u8.wrap 16 = 16 := by decide
    have w16u : IntKind.u64.wrap 16 = 16 := by decide
    by_cases h10 : d < 10
    · have g : ∀ h, (byts (hexT x 8))[j]'h = AV.int .u8 ((48 + d : Nat) : Int) := fun h => by rw [hat h, hexC_dig d h10]
      have s48 : IntKind.u8.wrap (((48 + d : Nat) : Int) - 48) = (d : Int) := by rw [wrap_u8 (by omega) (by omega)]; omega
      refine ⟨by omega, hbl, by rw [g]; exact Nat.zero_lt_one, ?_⟩
      simp only [Zu, Za, Zb, Zg, Zh, convO, Zi, Zk, Zl, Zm, sliceA, Zn, ↓reduceIte, reduceCtorEq, Zd, Ze, Zc, Zf, Z120, bytB, g]
      repeat (first | (refine br_no (by first | exact decide_eq_false (by omega) | exact beq_false_of_ne (by omega) | (simp only [bne_eq_false_iff_eq, beq_eq_false_iff_ne, ne_eq]; omega)) ?_; simp only [Zu, Za, Zb, Zg, Zh, convO, Zi, Zk, Zl, Zm, sliceA, Zn, ↓reduceIte, reduceCtorEq, Zd, Ze, Zc, Zf, Z120, bytB, s48, w16, w16u, mu, mw, dw, dw2]) | (refine br_yes (by first | exact decide_eq_true (by omega) | (simp only [bne_iff_ne, beq_iff_eq, ne_eq]; omega)) ?_; simp only [Zu, Za, Zb, Zg, Zh, convO, Zi, Zk, Zl, Zm, sliceA, Zn, ↓reduceIte, reduceCtorEq, Zd, Ze, Zc, Zf, Z120, bytB, s48, w16, w16u, mu, mw, dw, dw2]) | (refine ⟨by assumption, ?_⟩; simp only [Zu, Za, Zb, Zg, Zh, convO, Zi, Zk, Zl, Zm, sliceA, Zn, ↓reduceIte, reduceCtorEq, Zd, Ze, Zc, Zf, Z120, bytB, s48, w16, w16u, mu, mw, dw, dw2]))
      refine ⟨⟨j + 1, by omega⟩, by show 8 - (j + 1) < _; omega, ?_⟩
      simp only [show 8 - (j + 1) = 7 - j by omega, hq]
      exact weak_drop (by simp) (by simp [DropHp, ints_below, flts_below, bytB, byts_below]) (by simp [DropTm, DropV, below, belowM, belowL, bytB, byts_below])
    · have g : ∀ h, (byts (hexT x 8))[j]'h = AV.int .u8 ((97 + (d - 10) : Nat) : Int) := fun h => by rw [hat h, ← hexC_let (d - 10) (by omega), show 10 + (d - 10) = d by omega]
      refine ⟨by omega, hbl, by rw [g]; exact Nat.zero_lt_one, ?_⟩
      have s97 : IntKind.u8.wrap (((97 + (d - 10) : Nat) : Int) - 97) = ((d - 10 : Nat) : Int) := by rw [wrap_u8 (by omega) (by omega)]; omega
      have s10 : IntKind.u8.wrap (((d - 10 : Nat) : Int) + 10) = (d : Int) := by rw [wrap_u8 (by omega) (by omega)]; omega
      simp only [Zu, Za, Zb, Zg, Zh, convO, Zi, Zk, Zl, Zm, sliceA, Zn, ↓reduceIte, reduceCtorEq, Zd, Ze, Zc, Zf, Z120, bytB, g]
      refine br_no (by first | exact decide_eq_false (by omega) | exact beq_false_of_ne (by omega) | (simp only [bne_eq_false_iff_eq, beq_eq_false_iff_ne, ne_eq]; omega)) ?_; simp only [Zu, Za, Zb, Zg, Zh, convO, Zi, Zk, Zl, Zm, sliceA, Zn, ↓reduceIte, reduceCtorEq, Zd, Ze, Zc, Zf, Z120, bytB]
      refine br_yes (by first | exact decide_eq_true (by omega) | (simp only [bne_iff_ne, beq_iff_eq, ne_eq]; omega)) ?_; simp only [Zu, Za, Zb, Zg, Zh, convO, Zi, Zk, Zl, Zm, sliceA, Zn, ↓reduceIte, reduceCtorEq, Zd, Ze, Zc, Zf, Z120, bytB]
      refine br_no (by first | exact decide_eq_false (by omega) | exact beq_false_of_ne (by omega) | (simp only [bne_eq_false_iff_eq, beq_eq_false_iff_ne, ne_eq]; omega)) ?_; simp only [Zu, Za, Zb, Zg, Zh, convO, Zi, Zk, Zl, Zm, sliceA, Zn, ↓reduceIte, reduceCtorEq, Zd, Ze, Zc, Zf, Z120, bytB]
      refine call_ret (lower_call (d - 10) (by omega)) rfl rfl ?_
      simp only [Zu, Za, Zb, Zg, Zh, convO, Zi, Zk, Zl, Zm, sliceA, Zn, ↓reduceIte, reduceCtorEq, Zd, Ze, Zc, Zf, Z120, bytB]
      refine br_yes (by first | exact decide_eq_true (by omega) | (simp only [bne_iff_ne, beq_iff_eq, ne_eq]; omega)) ?_; simp only [Zu, Za, Zb, Zg, Zh, convO, Zi, Zk, Zl, Zm, sliceA, Zn, ↓reduceIte, reduceCtorEq, Zd, Ze, Zc, Zf, Z120, bytB]
      refine call_ret (lower_call (d - 10) (by omega)) rfl rfl ?_
      simp only [Zu, Za, Zb, Zg, Zh, convO, Zi, Zk, Zl, Zm, sliceA, Zn, ↓reduceIte, reduceCtorEq, Zd, Ze, Zc, Zf, Z120, bytB]
      refine br_yes (by first | exact decide_eq_true (by omega) | (simp only [bne_iff_ne, beq_iff_eq, ne_eq]; omega)) ?_; simp only [Zu, Za, Zb, Zg, Zh, convO, Zi, Zk, Zl, Zm, sliceA, Zn, ↓reduceIte, reduceCtorEq, Zd, Ze, Zc, Zf, Z120, bytB]
      refine call_ret (lower_call (d - 10) (by omega)) rfl rfl ?_
      simp only [Zu, Za, Zb, Zg, Zh, convO, Zi, Zk, Zl, Zm, sliceA, Zn, ↓reduceIte, reduceCtorEq, Zd, Ze, Zc, Zf, Z120, bytB, s97, s10, w16, w16u, mu, mw, dw, dw2]
      repeat (first | (refine br_no (by first | exact decide_eq_false (by omega) | exact beq_false_of_ne (by omega) | (simp only [bne_eq_false_iff_eq, beq_eq_false_iff_ne, ne_eq]; omega)) ?_; simp only [Zu, Za, Zb, Zg, Zh, convO, Zi, Zk, Zl, Zm, sliceA, Zn, ↓reduceIte, reduceCtorEq, Zd, Ze, Zc, Zf, Z120, bytB, s97, s10, w16, w16u, mu, mw, dw, dw2]) | (refine br_yes (by first | exact decide_eq_true (by omega) | (simp only [bne_iff_ne, beq_iff_eq, ne_eq]; omega)) ?_; simp only [Zu, Za, Zb, Zg, Zh, convO, Zi, Zk, Zl, Zm, sliceA, Zn, ↓reduceIte, reduceCtorEq, Zd, Ze, Zc, Zf, Z120, bytB, s97, s10, w16, w16u, mu, mw, dw, dw2]) | (refine ⟨by assumption, ?_⟩; simp only [Zu, Za, Zb, Zg, Zh, convO, Zi, Zk, Zl, Zm, sliceA, Zn, ↓reduceIte, reduceCtorEq, Zd, Ze, Zc, Zf, Z120, bytB, s97, s10, w16, w16u, mu, mw, dw, dw2]))
      refine ⟨⟨j + 1, by omega⟩, by show 8 - (j + 1) < _; omega, ?_⟩
      simp only [show 8 - (j + 1) = 7 - j by omega, hq]
      exact weak_drop (by simp) (by simp [DropHp, ints_below, flts_below, bytB, byts_below]) (by simp [DropTm, DropV, below, belowM, belowL, bytB, byts_below])
  · have h' := of_decide_eq_false h
    have e8 : j = 8 := by omega
    subst e8
    simp only [Nat.sub_self, Nat.pow_zero, Nat.div_one]
    exact PostR.pure ⟨rfl, rfl⟩ rfl
theorem parseUintS_call (x : Nat) (hx : x < 4294967296) : CallA Tryz.prog 79 [.str (hexT x 8), .int .i64 16, .int .i64 32] [] (Ret (.tup [.int .u64 x, .nili]) []) := by
  refine CallP.out (t := .mk) (go_in (md := md79) mixed Tryz.func79 rfl go79 (by kernel_rfl) ?_)
  simp only [Zu, Za, Zb, Zg, Zh, convO, Zi, Zk, Zl, Zm, sliceA, Zn, ↓reduceIte, reduceCtorEq, Zd, Ze, Zc, Zf, Z79]
  refine call_ret (parseUint_call x hx) rfl rfl ?_
  simp only [Zu, Za, Zb, Zg, Zh, convO, Zi, Zk, Zl, Zm, sliceA, Zn, ↓reduceIte, reduceCtorEq, Zd, Ze, Zc, Zf, Z79]
  exact PostR.pure ⟨rfl, rfl⟩ rfl
set_option maxHeartbeats 4000000
theorem index_no (c : UInt8) (t : List UInt8) : ∀ a : List UInt8, c ∉ a → Lib.index a (c :: t) = -1
  | [], _ => rfl
  | x :: a, h => by
    have hx : c ≠ x := fun e => h (by rw [e]; exact List.mem_cons_self)
    have ha : c ∉ a := fun m => h (List.mem_cons_of_mem _ m)
    unfold Lib.index
    rw [if_neg (by simp [List.isPrefixOf, hx]), index_no c t a ha]
    rfl
theorem index_at (c : UInt8) (t b : List UInt8) : ∀ a : List UInt8, c ∉ a → Lib.index (a ++ (c :: t) ++ b) (c :: t) = a.length
  | [], _ => by
    show Lib.index (c :: (t ++ b)) (c :: t) = 0
    unfold Lib.index
    rw [if_pos (by simp [List.isPrefixOf])]
  | x :: a, h => by
    have hx : c ≠ x := fun e => h (by rw [e]; exact List.mem_cons_self)
    have ha : c ∉ a := fun m => h (List.mem_cons_of_mem _ m)
    have ih := index_at c t b a ha
    show Lib.index (x :: (a ++ (c :: t) ++ b)) (c :: t) = _
    unfold Lib.index
    rw [if_neg (by simp [List.isPrefixOf, hx]), ih, if_neg (by simp)]
    simp
theorem words_no (c : UInt8) (t a : List UInt8) (h : c ∉ a) : words (c :: t) a = [a] := by
  have hi : Lib.indexB ⟨a.toArray⟩ ⟨(c :: t).toArray⟩ = -1 := index_no c t a h
  unfold words
  rw [Lib.splitB_miss _ _ _ _ hi]
  rfl
theorem words_at (c : UInt8) (t a b : List UInt8) (h : c ∉ a) : words (c :: t) (a ++ (c :: t) ++ b) = a :: words (c :: t) b := by
  have hi : Lib.indexB ⟨(a ++ (c :: t) ++ b).toArray⟩ ⟨(c :: t).toArray⟩ = (a.length : Nat) := index_at c t b a h
  have h1 : 1 ≤ (⟨(c :: t).toArray⟩ : ByteArray).size := by simp [ByteArray.size]
  have hs : (⟨(c :: t).toArray⟩ : ByteArray).size = (c :: t).length := by simp [ByteArray.size]
  have ex : (⟨(a ++ (c :: t) ++ b).toArray⟩ : ByteArray).extract (a.length + (⟨(c :: t).toArray⟩ : ByteArray).size) (⟨(a ++ (c :: t) ++ b).toArray⟩ : ByteArray).size = ⟨b.toArray⟩ := by
    apply ByteArray.ext
    rw [ByteArray.data_extract]
    apply Array.ext'
    rw [Array.toList_extract, hs]
    show ((a ++ (c :: t) ++ b).extract _ _) = b
    rw [List.extract_eq_take_drop, show a.length + (c :: t).length = (a ++ (c :: t)).length by simp, List.drop_left]
    exact List.take_of_length_le (by simp [ByteArray.size]; omega)
  have ex2 : (⟨(a ++ (c :: t) ++ b).toArray⟩ : ByteArray).extract 0 (a.length + 0) = ⟨a.toArray⟩ := by
    apply ByteArray.ext
    rw [ByteArray.data_extract]
    apply Array.ext'
    rw [Array.toList_extract]
    show ((a ++ (c :: t) ++ b).extract _ _) = a
    rw [List.extract_eq_take_drop]
    simp
  unfold words
  rw [Lib.countB_hit _ _ _ h1 hi, ex, Nat.add_comm 1, Lib.splitB_hit _ _ _ _ _ hi, ex, ex2]
  rfl
theorem words_join (c : UInt8) (t : List UInt8) : ∀ (xs : List (List UInt8)), xs ≠ [] → (∀ x ∈ xs, c ∉ x) → words (c :: t) (Lib.join xs (c :: t)) = xs
  | [], h, _ => absurd rfl h
  | [x], _, h => by rw [Lib.join_one]; exact words_no c t x (h x List.mem_cons_self)
  | x :: y :: r, _, h => by
    have ih := words_join c t (y :: r) (by simp) (fun z hz => h z (List.mem_cons_of_mem _ hz))
    have e : Lib.join (x :: y :: r) (c :: t) = x ++ (c :: t) ++ Lib.join (y :: r) (c :: t) := by
      rw [Lib.join_cons, Lib.join_cons]
      simp [Lib.joinTail]
    rw [e, words_at c t x _ (h x List.mem_cons_self), ih]
theorem joinS44_call (xs : List (List UInt8)) (hN : xs.length ≤ 1048576) (hlen : (Lib.join xs [44]).length ≤ 140737488355328) : CallA Tryz.prog 73 [.ro (strs xs), .str [44]] [] (Ret (.str (Lib.join xs [44])) []) := by
  refine join_call go73 [44] xs (fun a c w => strings_Join_none a c _ w) (fun bk o c w hc hb hcap => ?_)
  have := strings_Join bk o c (xs.map fun x => (⟨x.toArray⟩ : ByteArray)) ⟨[44].toArray⟩ w (fun j x hx => by
    simp only [List.getElem?_map, Option.map_eq_some_iff] at hx
    obtain ⟨y, h1, rfl⟩ := hx
    exact hc j y h1) hb (by simp; omega) (by simpa using hcap) (by rw [back_strs]; exact hlen)
  rw [back_strs, List.length_map] at this
  exact this
theorem gMax : Tryz.prog.globalNamed "internal/bytealg.MaxLen" = some 1 := by kernel_rfl
theorem splitS_call (s sep : List UInt8) (h1 : 1 ≤ sep.length) (hs : s.length ≤ 1048576) : CallA Tryz.prog 61 [.str s, .str sep] [] (Ret (.ro (strs (words sep s))) []) :=
  split_call' go61 gMax s sep h1 (by omega) (fun m w hm => strings_Split ⟨s.toArray⟩ ⟨sep.toArray⟩ m w (by rw [size_byts]; omega) hm (by rw [size_byts]; exact h1))
def wdsT (W : List (List UInt8)) : List UInt8 := if W = [] then noneT else Lib.join W [44]
def OkWds (L : Nat) (W : List (List UInt8)) : Prop := W.length ≤ 256 ∧ ∀ w ∈ W, w.length = L ∧ (44 : UInt8) ∉ w
theorem tail_lenN {L : Nat} : ∀ (r : List (List UInt8)), (∀ x ∈ r, x.length = L) → (Lib.joinTail [44] r).length = r.length * (L + 1)
  | [], _ => by simp [Lib.joinTail]
  | x :: r, h => by
    have := tail_lenN r fun y hy => h y (List.mem_cons_of_mem _ hy)
    have e : Lib.joinTail [44] (x :: r) = [44] ++ x ++ Lib.joinTail [44] r := by simp [Lib.joinTail]
    rw [e, List.length_append, this, List.length_append, h x List.mem_cons_self]
    simp only [List.length_cons, List.length_nil, Nat.add_mul, Nat.one_mul]
    omega
theorem join_len {L : Nat} {W : List (List UInt8)} (h : ∀ x ∈ W, x.length = L) : (Lib.join W [44]).length ≤ W.length * (L + 1) ∧ (W ≠ [] → L ≤ (Lib.join W [44]).length) := by
  cases W with
  | nil => exact ⟨by simp [Lib.join], fun e => absurd rfl e⟩
  | cons x r =>
    have h1 := tail_lenN r fun y hy => h y (List.mem_cons_of_mem _ hy)
    have h2 := h x List.mem_cons_self
    rw [Lib.join_cons, List.length_append, h1, h2, List.length_cons, Nat.succ_mul]
    exact ⟨by omega, fun _ => by omega⟩
theorem listed_call {L : Nat} (hL : L ≤ 16) (W : List (List UInt8)) (h : OkWds L W) : CallA Tryz.prog 42 [.ro (strs W)] [] (Ret (.str (wdsT W)) []) := by
  have hl := (join_len fun x hx => (h.2 x hx).1).1
  have hm : W.length * (L + 1) ≤ 256 * 17 := Nat.mul_le_mul h.1 (by omega)
  refine CallP.out (t := .mk) (go_in (md := md42) mixed Tryz.func42 rfl go42 (by kernel_rfl) ?_)
  simp only [Zu, Za, Zb, Zg, Zh, Zi, Zk, Zl, Zm, Zn, ↓reduceIte, reduceCtorEq, Zd, Ze, Zc, Zf, Z42, strs_len]
  refine br_intro (fun e => ?_) (fun e => ?_) <;> simp only [Zu, Za, Zb, Zg, Zh, Zi, Zk, Zl, Zm, Zn, ↓reduceIte, reduceCtorEq, Zd, Ze, Zc, Zf, Z42, strs_len]
  · have e' : W = [] := List.length_eq_zero_iff.1 (by have := beq_iff_eq.1 e; omega)
    exact PostR.pure ⟨by rw [wdsT, if_pos e']; rfl, rfl⟩ rfl
  · have e' : ¬ W = [] := fun k => by rw [k] at e; cases e
    refine call_ret (joinS44_call W (by have := h.1; omega) (by omega)) rfl rfl ?_
    simp only [Zu, Za, Zb, Zg, Zh, Zi, Zk, Zl, Zm, Zn, ↓reduceIte, reduceCtorEq, Zd, Ze, Zc, Zf, Z42]
    exact PostR.pure ⟨by rw [wdsT, if_neg e'], rfl⟩ rfl
theorem wordsN_call {L : Nat} (h1 : 5 ≤ L) (hL : L ≤ 16) (W : List (List UInt8)) (h : OkWds L W) : CallA Tryz.prog 43 [.str (wdsT W), .int .i64 256] [] (Ret (.tup [.ro (strs W), .bool true]) []) := by
  obtain ⟨hl, hl2⟩ := join_len fun x hx => (h.2 x hx).1
  have hm : W.length * (L + 1) ≤ 256 * 17 := Nat.mul_le_mul h.1 (by omega)
  have w0 : IntKind.i64.wrap (20 * 256) = 5120 := by decide
  by_cases e : W = []
  · subst e
    refine CallA.nilR 2 (r := .tup [.nils, .bool true]) rfl ?_
    refine CallP.out (t := .mk) (go_in (md := md43) mixed Tryz.func43 rfl go43 (by kernel_rfl) ?_)
    simp only [Zu, Za, Zb, Zg, Zh, Zi, Zk, Zl, Zm, Zn, ↓reduceIte, reduceCtorEq, Zd, Ze, Zc, Zf, Z43]
    refine br_yes rfl ?_
    simp only [Zu, Za, Zb, Zg, Zh, Zi, Zk, Zl, Zm, Zn, ↓reduceIte, reduceCtorEq, Zd, Ze, Zc, Zf, Z43]
    exact PostR.pure ⟨rfl, rfl⟩ rfl
  · have hj := words_join 44 [] W e fun x hx => (h.2 x hx).2
    rw [wdsT, if_neg e]
    have ne : (Lib.join W [44] == noneT) = false := by
      refine beq_eq_false_iff_ne.2 fun k => ?_
      have := hl2 e
      rw [k] at this
      simp [noneT] at this
      omega
    refine CallP.out (t := .mk) (go_in (md := md43) mixed Tryz.func43 rfl go43 (by kernel_rfl) ?_)
    simp only [Zu, Za, Zb, Zg, Zh, Zi, Zk, Zl, Zm, Zn, ↓reduceIte, reduceCtorEq, Zd, Ze, Zc, Zf, Z43, show (Lib.join W [44] == 110 :: 111 :: 110 :: 101 :: []) = false from ne, w0]
    refine br_no (by first | exact decide_eq_false (by omega) | exact beq_false_of_ne (by omega) | (simp only [bne_eq_false_iff_eq, beq_eq_false_iff_ne, ne_eq]; omega)) ?_; simp only [Zu, Za, Zb, Zg, Zh, Zi, Zk, Zl, Zm, Zn, ↓reduceIte, reduceCtorEq, Zd, Ze, Zc, Zf, Z43]
    refine call_ret (splitS_call (Lib.join W [44]) [44] (by decide) (by omega)) rfl rfl ?_
    simp only [Zu, Za, Zb, Zg, Zh, Zi, Zk, Zl, Zm, Zn, ↓reduceIte, reduceCtorEq, Zd, Ze, Zc, Zf, Z43, strs_len, hj]
    refine PostR.pure ⟨?_, rfl⟩ rfl
    rw [decide_eq_true (by have := h.1; omega)]
theorem canon_ok {x : Nat} (h : okW x) : canon .f32 x = x := by
  unfold canon
  split
  · rename_i e
    rw [h.2 e]
    rfl
  · rfl
theorem frombits_int (n : Int) : CallA Tryz.prog 80 [.int .u32 n] [] (Ret (.flt .f32 (canon .f32 n.toNat)) []) :=
  frombits_call (e := Extern.MathFloatBits.float32frombits) Tryz.func80 (by kernel_rfl) (by kernel_rfl) (by kernel_rfl) (by kernel_rfl) (fun _ _ => rfl) n
theorem frombits_call32 (n : Nat) : CallA Tryz.prog 80 [.int .u32 n] [] (Ret (.flt .f32 (canon .f32 n)) []) := frombits_int (n : Int)
theorem u32_ok {x : Nat} (h : x < 4294967296) : IntKind.u32.wrap (x : Int) = (x : Int) := by
  show (x : Int) % 4294967296 = x
  exact Int.emod_eq_of_lt (by omega) (by omega)
theorem unhex_call (x : Nat) (hx : okW x) : CallA Tryz.prog 44 [.str (hexT x 8)] [] (Ret (.tup [.flt .f32 x, .bool true]) []) := by
  have ln := hexT_len x 8
  refine CallP.out (t := .mk) (go_in (md := md44) mixed Tryz.func44 rfl go44 (by kernel_rfl) ?_)
  simp only [Zu, Za, Zb, Zg, Zh, Zi, Zk, Zl, Zm, Zn, ↓reduceIte, reduceCtorEq, Zd, Ze, Zc, Zf, Z44, ln, Int.reduceLT, Int.reduceLE, Int.reduceNeg, Int.reduceEq, Int.reduceGT, Int.reduceGE, decide_true, decide_false, beq_self_eq_true, bne_self_eq_false, Int.reduceBEq, Int.reduceBNe, Int.reduceAdd, Int.reduceSub]
  repeat (refine br_no (by first | exact decide_eq_false (by omega) | exact beq_false_of_ne (by omega) | (simp only [bne_eq_false_iff_eq, beq_eq_false_iff_ne, ne_eq]; omega)) ?_; simp only [Zu, Za, Zb, Zg, Zh, Zi, Zk, Zl, Zm, Zn, ↓reduceIte, reduceCtorEq, Zd, Ze, Zc, Zf, Z44, Int.reduceLT, Int.reduceLE, Int.reduceNeg, Int.reduceEq, Int.reduceGT, Int.reduceGE, decide_true, decide_false, beq_self_eq_true, bne_self_eq_false, Int.reduceBEq, Int.reduceBNe, Int.reduceAdd, Int.reduceSub])
  refine call_ret (parseUintS_call x hx.1) rfl rfl ?_
  simp only [Zu, Za, Zb, Zg, Zh, Zi, Zk, Zl, Zm, Zn, ↓reduceIte, reduceCtorEq, Zd, Ze, Zc, Zf, Z44, u32_ok hx.1]
  refine call_ret (frombits_call32 x) rfl rfl ?_
  simp only [Zu, Za, Zb, Zg, Zh, Zi, Zk, Zl, Zm, Zn, ↓reduceIte, reduceCtorEq, Zd, Ze, Zc, Zf, Z44, canon_ok hx, Int.reduceLT, Int.reduceLE, Int.reduceNeg, Int.reduceEq, Int.reduceGT, Int.reduceGE, decide_true, decide_false, beq_self_eq_true, bne_self_eq_false, Int.reduceBEq, Int.reduceBNe, Int.reduceAdd, Int.reduceSub]
  refine call_ret (hex_call x hx) rfl rfl ?_
  simp only [Zu, Za, Zb, Zg, Zh, Zi, Zk, Zl, Zm, Zn, ↓reduceIte, reduceCtorEq, Zd, Ze, Zc, Zf, Z44, Int.reduceLT, Int.reduceLE, Int.reduceNeg, Int.reduceEq, Int.reduceGT, Int.reduceGE, decide_true, decide_false, beq_self_eq_true, bne_self_eq_false, Int.reduceBEq, Int.reduceBNe, Int.reduceAdd, Int.reduceSub]
  exact PostR.pure ⟨rfl, rfl⟩ rfl
theorem hexC_44 : ∀ d, d < 16 → hexC d ≠ 44 := by decide
theorem hexT_44 (n : Nat) : ∀ k, (44 : UInt8) ∉ hexT n k
  | 0 => by simp [hexT]
  | k + 1 => by
    intro h
    rcases List.mem_cons.1 h with e | e
    · exact hexC_44 _ (Nat.mod_lt _ (by decide)) e.symm
    · exact hexT_44 n k e
def hexW (xs : List Nat) : List (List UInt8) := xs.map (hexT · 8)
theorem hexW_len (xs : List Nat) : (hexW xs).length = xs.length := List.length_map ..
theorem hexW_ok {xs : List Nat} (h : xs.length ≤ 256) : OkWds 8 (hexW xs) := by
  refine ⟨by rw [hexW_len]; exact h, fun w hw => ?_⟩
  obtain ⟨x, _, rfl⟩ := List.mem_map.1 hw
  exact ⟨hexT_len x 8, hexT_44 x 8⟩
theorem take_snoc {α : Type} (xs : List α) (i : Nat) (h : i < xs.length) : xs.take (i + 1) = xs.take i ++ [xs[i]] := by
  rw [List.take_add_one, List.getElem?_eq_getElem h]
  rfl
theorem numbersText_call (xs : List Nat) (hl : xs.length ≤ 256) (ok : ∀ x ∈ xs, okW x) : CallA Tryz.prog 15 [.ro (flts xs)] [] (Ret (.tup [.str (wdsT (hexW xs)), .bool true]) []) := by
  have fl : (flts xs).length = xs.length := flts_len _
  refine CallP.out (t := .mk) (go_in (md := md15) mixed Tryz.func15 rfl go15 (by kernel_rfl) ?_)
  simp only [Zu, Za, Zb, Zg, Zh, Zi, Zk, Zl, Zm, Zn, ↓reduceIte, reduceCtorEq, Zd, Ze, Zc, Zf, Z15, fl]
  refine br_no (by first | exact decide_eq_false (by omega) | exact beq_false_of_ne (by omega) | (simp only [bne_eq_false_iff_eq, beq_eq_false_iff_ne, ne_eq]; omega)) ?_; simp only [Zu, Za, Zb, Zg, Zh, Zi, Zk, Zl, Zm, Zn, ↓reduceIte, reduceCtorEq, Zd, Ze, Zc, Zf, Z15, fl]
  refine go_round (md := md15) mixed (by kernel_rfl) (fun i : {i : Nat // i ≤ xs.length} => ⟨[.any, .any, .any, .any, .sl 0 0 i.1, .any, .any, .any, .any, .any, .any, .ro (flts xs), .int .i64 xs.length, .int .i64 i.1, .any, .any, .any, .any, .any, .any, .any, .any, .any, .any, .any], [strB (hexW (xs.take i.1))]⟩) (fun i => xs.length - i.1) ⟨0, Nat.zero_le _⟩ ?_ ?_
  · exact weak_drop (by simp) (by simp [DropHp, ints_below, flts_below, strB, hexW, strs, allBelow_cons, allBelow_nil, below, belowM, belowL]) (by simp [DropTm, DropV, below, belowM, belowL, strB, hexW, strs, allBelow_cons, allBelow_nil, below, belowM, belowL])
  rintro ⟨i, hi⟩
  have ll : (strs (hexW (xs.take i))).length = i := by rw [strs_len, hexW_len, List.length_take]; omega
  have nx := fun h : i < xs.length => (show hexW (xs.take i) ++ [hexT xs[i] 8] = hexW (xs.take (i + 1)) by rw [take_snoc _ _ h, hexW, hexW, List.map_append]; rfl)
  simp only [Zu, Za, Zb, Zg, Zh, Zi, Zk, Zl, Zm, Zn, ↓reduceIte, reduceCtorEq, Zd, Ze, Zc, Zf, Z15, strB]
  refine br_intro (fun h => ?_) (fun h => ?_) <;> simp only [Zu, Za, Zb, Zg, Zh, Zi, Zk, Zl, Zm, Zn, ↓reduceIte, reduceCtorEq, Zd, Ze, Zc, Zf, Z15, strB]
  · have hi' : i < xs.length := by have := of_decide_eq_true h; omega
    have hI : (i : Int) < (xs.length : Int) := by omega
    have nx := nx hi'
    have w1 : IntKind.i64.wrap ((i : Int) + 1) = ((i + 1 : Nat) : Int) := by rw [w64 (by omega) (by omega)]; omega
    simp only [Zu, Za, Zb, Zg, Zh, Zi, Zk, Zl, Zm, Zn, ↓reduceIte, reduceCtorEq, Zd, Ze, Zc, Zf, Z15, strB, hi', hI, fl, flts_get]
    refine call_ret (hex_call xs[i] (ok _ (List.getElem_mem hi'))) rfl rfl ?_
    generalize hexW (xs.take i) = T at ll nx
    simp only [Zu, Za, Zb, Zg, Zh, Zi, Zk, Zl, Zm, Zn, ↓reduceIte, reduceCtorEq, Zd, Ze, Zc, Zf, Z15, strB, hi', hI, allW_int, fits, List.isEmpty_cons, brk_false, Nat.reduceMul, ll, w1]
    refine ⟨allW_str _, by omega, ⟨i + 1, by omega⟩, by show xs.length - (i + 1) < _; omega, ?_⟩
    show Weak 0 _ ⟨_, _⟩
    rw [strs_more, nx]
    exact weak_drop (by simp) (by simp [DropHp, ints_below, flts_below, strB, strs_below, allBelow_cons, allBelow_nil, below, belowM, belowL]) (by simp [DropTm, DropV, below, belowM, belowL, strB, strs_below, allBelow_cons, allBelow_nil, below, belowM, belowL])
  · have hi' : i = xs.length := by have := of_decide_eq_false h; omega
    subst hi'
    rw [List.take_length] at ll ⊢
    have tk : (strs (hexW xs)).take xs.length = strs (hexW xs) := List.take_of_length_le (by rw [ll]; exact Nat.le_refl _)
    refine call_lent 2 (by simp [view_sl, view_str, strB, map_view_strs, hexW_len, strs_len, tk]) (listed_call (by decide) (hexW xs) (hexW_ok hl)) rfl rfl ?_
    simp only [Zu, Za, Zb, Zg, Zh, Zi, Zk, Zl, Zm, Zn, ↓reduceIte, reduceCtorEq, Zd, Ze, Zc, Zf, Z15]
    exact PostR.pure ⟨rfl, rfl⟩ rfl
theorem flts_kill (b : Nat) (l : List Nat) : (flts l).map (kill b) = flts l := by
  unfold flts
  rw [List.map_map]
  exact List.map_congr_left fun x _ => rfl
theorem allW_flt32 (x : Nat) : AllW 1 [AV.flt .f32 x] := by
  intro a ha
  rw [List.mem_singleton.1 ha]
  exact ⟨rfl, rfl⟩
theorem readNumbers_call (xs : List Nat) (hl : xs.length ≤ 256) (ok : ∀ x ∈ xs, okW x) : CallA Tryz.prog 16 [.str (wdsT (hexW xs))] [] (Ret (.tup [.sl 0 0 xs.length, .bool true]) [fltB xs]) := by
  refine CallP.out (t := .mk) (go_in (md := md16) mixed Tryz.func16 rfl go16 (by kernel_rfl) ?_)
  simp only [Zu, Za, Zb, Zg, Zh, Zi, Zk, Zl, Zm, Zn, ↓reduceIte, reduceCtorEq, Zd, Ze, Zc, Zf, Z16]
  refine call_ret (wordsN_call (by decide) (by decide) (hexW xs) (hexW_ok hl)) rfl rfl ?_
  simp only [Zu, Za, Zb, Zg, Zh, Zi, Zk, Zl, Zm, Zn, ↓reduceIte, reduceCtorEq, Zd, Ze, Zc, Zf, Z16, strs_len, hexW_len]
  repeat (refine br_no (by first | exact decide_eq_false (by omega) | exact beq_false_of_ne (by omega) | (simp only [bne_eq_false_iff_eq, beq_eq_false_iff_ne, ne_eq]; omega)) ?_; simp only [Zu, Za, Zb, Zg, Zh, Zi, Zk, Zl, Zm, Zn, ↓reduceIte, reduceCtorEq, Zd, Ze, Zc, Zf, Z16, strs_len, hexW_len])
  refine go_round (md := md16) mixed (by kernel_rfl) (fun i : {i : Nat // i ≤ xs.length} => ⟨[.any, .any, .any, .any, .any, .any, .sl 0 0 i.1, .any, .any, .any, .any, .any, .any, .any, .any, .any, .any, .any, .any, .ro (strs (hexW xs)), .int .i64 xs.length, .int .i64 i.1, .any, .any, .any, .any, .any, .any, .any, .any, .any, .any, .any, .any, .any, .any, .any, .any], [fltB (xs.take i.1)]⟩) (fun i => xs.length - i.1) ⟨0, Nat.zero_le _⟩ ?_ ?_
  · exact weak_drop (by simp) (by simp [DropHp, ints_below, flts_below, fltB, flts, allBelow_cons, allBelow_nil, below, belowM, belowL]) (by simp [DropTm, DropV, below, belowM, belowL, fltB, flts, allBelow_cons, allBelow_nil, below, belowM, belowL])
  rintro ⟨i, hi⟩
  have ll : (flts (xs.take i)).length = i := by rw [flts_len, List.length_take]; omega
  have nx := fun h : i < xs.length => (show xs.take i ++ [xs[i]] = xs.take (i + 1) from (take_snoc _ _ h).symm)
  simp only [Zu, Za, Zb, Zg, Zh, Zi, Zk, Zl, Zm, Zn, ↓reduceIte, reduceCtorEq, Zd, Ze, Zc, Zf, Z16, fltB]
  refine br_intro (fun h => ?_) (fun h => ?_) <;> simp only [Zu, Za, Zb, Zg, Zh, Zi, Zk, Zl, Zm, Zn, ↓reduceIte, reduceCtorEq, Zd, Ze, Zc, Zf, Z16, fltB]
  · have hi' : i < xs.length := by have := of_decide_eq_true h; omega
    have hI : (i : Int) < (xs.length : Int) := by omega
    have nx := nx hi'
    have w1 : IntKind.i64.wrap ((i : Int) + 1) = ((i + 1 : Nat) : Int) := by rw [w64 (by omega) (by omega)]; omega
    have gw : ∀ h, (hexW xs)[i]'h = hexT xs[i] 8 := fun h => by simp [hexW]
    simp only [Zu, Za, Zb, Zg, Zh, Zi, Zk, Zl, Zm, Zn, ↓reduceIte, reduceCtorEq, Zd, Ze, Zc, Zf, Z16, fltB, hi', hI, strs_len, hexW_len, strs_get, gw]
    refine call_ret (unhex_call xs[i] (ok _ (List.getElem_mem hi'))) rfl rfl ?_
    generalize xs.take i = T at ll nx
    simp only [Zu, Za, Zb, Zg, Zh, Zi, Zk, Zl, Zm, Zn, ↓reduceIte, reduceCtorEq, Zd, Ze, Zc, Zf, Z16, fltB, hi', hI, allW_int, fits, List.isEmpty_cons, brk_false, Nat.reduceMul, ll, w1]
    repeat (refine br_no (by first | exact decide_eq_false (by omega) | exact beq_false_of_ne (by omega) | (simp only [bne_eq_false_iff_eq, beq_eq_false_iff_ne, ne_eq]; omega)) ?_; simp only [Zu, Za, Zb, Zg, Zh, Zi, Zk, Zl, Zm, Zn, ↓reduceIte, reduceCtorEq, Zd, Ze, Zc, Zf, Z16, fltB, hi', hI, allW_int, fits, List.isEmpty_cons, brk_false, Nat.reduceMul, ll, w1])
    refine ⟨allW_flt32 _, by omega, ⟨i + 1, by omega⟩, by show xs.length - (i + 1) < _; omega, ?_⟩
    show Weak 0 _ ⟨_, _⟩
    rw [nx]
    exact weak_drop (by simp) (by simp [DropHp, ints_below, flts_below, fltB, flts_below, allBelow_cons, allBelow_nil, below, belowM, belowL]) (by simp [DropTm, DropV, below, belowM, belowL, fltB, flts_below, allBelow_cons, allBelow_nil, below, belowM, belowL])
  · have hi' : i = xs.length := by have := of_decide_eq_false h; omega
    subst hi'
    rw [List.take_length]
    exact PostR.ret
set_option maxHeartbeats 2000000
theorem write_lt (s : Bool) (m : Nat) (e : Int) : canon .f32 (FloatKind.f32.format.write (.number s m e)) < 4294967296 := by
  obtain ⟨r, h1, h2, _⟩ := nearest_word .f32 s m e
  show canon .f32 (FloatKind.f32.format.nearest s m e) < _
  rw [h1]
  exact canon_lt (word_lt s (by rw [show FloatKind.f32.format.infRung = Ieee.single.infRung from rfl, inf32] at h2; exact h2))
set_option maxHeartbeats 4000000
theorem ok_low {w : Nat} (h : canon .f32 w < 4294967296) : okW (canon .f32 w) := by
  refine ⟨h, fun e => ?_⟩
  rw [canon_isNaN] at e
  rw [canon_of_nan e]
  rfl
theorem ok_num (s : Bool) (m : Nat) (e : Int) : okW (canon .f32 (FloatKind.f32.format.write (.number s m e))) := ok_low (write_lt s m e)
theorem ok_inf (s : Bool) : okW (canon .f32 (FloatKind.f32.format.write (.infinity s))) := by
  refine ok_low (canon_lt (word_lt s (?_ : FloatKind.f32.format.infRung ≤ _)))
  decide +kernel
theorem ok_nan : okW (nanOf .f32) := ⟨by rw [nan32]; decide, fun _ => nan32⟩
theorem ok_fnum {o : Option Ieee.Datum} (h : ∀ s t, o ≠ some (.nan s t)) : okW (fnum .f32 (o.map FloatKind.f32.format.write)) := by
  cases o with
  | none => exact ok_nan
  | some d =>
    cases d with
    | number s m e => exact ok_num s m e
    | infinity s => exact ok_inf s
    | nan s t => exact absurd rfl (h s t)
theorem ok_div (x y : Nat) : okW (fdiv .f32 x y) := by
  refine ok_fnum fun s t => ?_
  cases FloatKind.f32.format.read x <;> cases FloatKind.f32.format.read y <;> simp only [Ieee.Datum.quotient] <;> (try split) <;> (try split) <;> simp
theorem ok_mul (x y : Nat) : okW (fmul .f32 x y) := by
  refine ok_fnum fun s t => ?_
  cases FloatKind.f32.format.read x <;> cases FloatKind.f32.format.read y <;> simp only [Ieee.Datum.product] <;> (try split) <;> simp
end Go.Proofs.YtodjjpmigcacoaaGreatDoor
