/- TzH2: texts joined. -/
import Derived.Test.YtodjjpmigcacoaaGreatDoorTzG6
import Derived.Test.YtodjjpmigcacoaaGreatDoorTzG5
import Derived.Test.YtodjjpmigcacoaaGreatDoorTzG9
import Derived.Test.YtodjjpmigcacoaaGreatDoorTzG1
import Derived.Test.YtodjjpmigcacoaaGreatDoorAbsM5
import Derived.Test.YtodjjpmigcacoaaGreatDoorTzG7
import Derived.Test.YtodjjpmigcacoaaGreatDoorTzG8
import Derived.Test.YtodjjpmigcacoaaGreatDoorTzG4
set_option maxRecDepth 10000
set_option maxHeartbeats 8000000
set_option linter.unusedSimpArgs false
set_option linter.unusedVariables false
namespace Go.Proofs.YtodjjpmigcacoaaGreatDoor
open Go Go.Abs
open Nat renaming reduceAdd → Za, reduceSub → Zb, reduceMul → Zc, reduceLT → Zd, reduceLeDiff → Ze, reduceEqDiff → Zf
open Int renaming reduceToNat → Zn
open Go.Abs renaming lenA → Zg, convA → Zh, indexA → Zi, flatP → Zj, nilI → Zk, ifaA → Zl, indexS → Zm
structure Tbl (q : List Nat) : Prop where
  one : 1 ≤ q.length
  six : q.length ≤ 6
  ok : tableB q = true
theorem aliveShares_call {q : List Nat} (T : Tbl q) : CallA Tryz.prog 88 [.ro (flts q)] [] (Ret (.tup [.ro (flts (alvL q)), .bool true]) []) := by
  have h6 := T.six
  refine CallP.out (t := .mk) (go_in (md := md88) mixed Tryz.func88 rfl go88 (by kernel_rfl) ?_)
  simp only [Zu, Za, Zb, Zg, Zh, Zi, Zk, Zl, Zm, Zn, ↓reduceIte, reduceCtorEq, Zd, Ze, Zc, Zf, Z88]
  refine call_ret (isLifeTable_call q (by omega)) rfl rfl ?_
  rw [T.ok]
  simp only [Zu, Za, Zb, Zg, Zh, Zi, Zk, Zl, Zm, Zn, ↓reduceIte, reduceCtorEq, Zd, Ze, Zc, Zf, Z88]
  refine call_ret (alive_ro (by omega)) rfl rfl ?_
  simp only [Zu, Za, Zb, Zg, Zh, Zi, Zk, Zl, Zm, Zn, ↓reduceIte, reduceCtorEq, Zd, Ze, Zc, Zf, Z88]
  exact PostR.pure ⟨rfl, rfl⟩ rfl
def six (x : Int) : Nat := fdiv .f32 (canon .f32 (FloatKind.nearest .f32 x)) (canon .f32 (FloatKind.nearest .f32 16))
theorem six_s {x : Int} (h : 0 ≤ x ∧ x < 9) : okS (six x) = true := by
  have : x = 0 ∨ x = 1 ∨ x = 2 ∨ x = 3 ∨ x = 4 ∨ x = 5 ∨ x = 6 ∨ x = 7 ∨ x = 8 := by omega
  rcases this with rfl | rfl | rfl | rfl | rfl | rfl | rfl | rfl | rfl <;> decide +kernel
structure DrT (a0 n : Nat) (out : List Nat) (a : Nat) : Prop where
  len : out.length ≤ n
  ok : ∀ x ∈ out, okS x = true ∧ okW x
  at_ : a ≤ a0 + 2 * out.length
theorem DrT.next {a0 n : Nat} {out : List Nat} {a a' : Nat} {x : Nat} (D : DrT a0 n out a) (hl : out.length < n) (hx : okS x = true ∧ okW x) (ha : a' ≤ a + 2) : DrT a0 n (out ++ [x]) a' :=
  ⟨by simp; omega, fun y hy => by
    rcases List.mem_append.1 hy with h | h
    · exact D.ok y h
    · rw [List.mem_singleton.1 h]; exact hx, by have := D.at_; simp; omega⟩
theorem tab_of {out : List Nat} (hl : out.length ≤ 5) (h : ∀ x ∈ out, okS x = true) : Tbl (out ++ [1065353216]) := by
  refine ⟨by simp, by simp; omega, ?_⟩
  have e : (out ++ [1065353216]).length - 1 = out.length := by simp
  have g : (out ++ [1065353216]).getD out.length 0 = 1065353216 := by simp
  unfold tableB
  have d : decide (1 ≤ (out ++ [1065353216]).length ∧ (out ++ [1065353216]).length ≤ 120) = true := decide_eq_true ⟨by simp, by simp; omega⟩
  have f : feq .f32 1065353216 1065353216 = true := by decide +kernel
  rw [e, g, f, d]
  simp only [Bool.and_true]
  refine List.all_eq_true.2 fun x hx => ?_
  rcases List.mem_append.1 hx with m | m
  · exact h x m
  · rw [List.mem_singleton.1 m]; decide +kernel
theorem drawTable_call (code : List Int) (hc : byteL code) (hl : code.length ≤ 1048576) (aa : Nat) (ha : aa ≤ 100000) (sd : Int) :
    CallA Tryz.prog 53 [.ptr 0 0 0] [srcB code aa sd] (fun r hp => ∃ (q : List Nat) (a' : Nat) (sd' : Int), Tbl q ∧ (∀ x ∈ q, okW x) ∧ a' ≤ aa + 20 ∧ r = .sl 1 0 q.length ∧ hp = [srcB code a' sd', fltB q]) := by
  refine CallP.out (t := .mk) (go_in (md := md53) mixed Tryz.func53 rfl go53 (by kernel_rfl) ?_)
  simp only [Zu, Za, Zb, Zg, Zh, Zi, Zk, Zl, Zm, Zn, ↓reduceIte, reduceCtorEq, Zd, Ze, Zc, Zf, Z53]
  refine pick_at hc hl (by omega) (by omega) (by omega) (fun x a1 sd1 hx ha1 => ?_)
  simp only [Zu, Za, Zb, Zg, Zh, Zi, Zk, Zl, Zm, Zn, ↓reduceIte, reduceCtorEq, Zd, Ze, Zc, Zf, Z53]
  obtain ⟨N, hN⟩ : ∃ N : Nat, x = (N : Int) := ⟨x.toNat, by omega⟩
  subst hN
  refine go_round (md := md53) mixed (by kernel_rfl) (fun d : {p : List Nat × Nat × Int // DrT a1 N p.1 p.2.1} => ⟨[.ptr 0 0 0, .any, .any, .sl 1 0 d.1.1.length, .int .i64 ((N : Int) - d.1.1.length), .any, .any, .any, .any, .any, .any, .any, .any, .any, .any, .any, .any, .any, .any, .any, .any, .any, .any, .any], [srcB code d.1.2.1 d.1.2.2, fltB d.1.1]⟩) (fun d => N - d.1.1.length) ⟨([], a1, sd1), ⟨by simp, by simp, by simp⟩⟩ ?_ ?_
  · have zf : flts [] = [] := rfl
    exact weak_drop (by simp) (by simp [DropHp, ints_below, flts_below, srcB_below, fltB, zf, allBelow_cons, allBelow_nil, below, belowM, belowL]) (by simp [DropTm, DropV, below, belowM, belowL, srcB_below, fltB, zf, allBelow_cons, allBelow_nil, below, belowM, belowL])
  rintro ⟨⟨out, a, sd⟩, D⟩
  have D1 := D.len
  have D2 := D.at_
  simp only [] at D1 D2
  simp only [Zu, Za, Zb, Zg, Zh, Zi, Zk, Zl, Zm, Zn, ↓reduceIte, reduceCtorEq, Zd, Ze, Zc, Zf, Z53, fltB, flts_len]
  refine br_intro (fun g => ?_) (fun g => ?_) <;> simp only [Zu, Za, Zb, Zg, Zh, Zi, Zk, Zl, Zm, Zn, ↓reduceIte, reduceCtorEq, Zd, Ze, Zc, Zf, Z53, fltB, flts_len]
  · have hR : out.length < N := by have := of_decide_eq_true g; omega
    refine pick_at hc hl (by omega) (by omega) (by omega) (fun y a2 sd2 hy ha2 => ?_)
    have e6 : canon .f32 1098907648 = canon .f32 (FloatKind.nearest .f32 16) := by decide +kernel
    have es : fdiv .f32 (canon .f32 (FloatKind.nearest .f32 y)) (canon .f32 (FloatKind.nearest .f32 16)) = six y := rfl
    simp only [Zu, Za, Zb, Zg, Zh, Zi, Zk, Zl, Zm, Zn, ↓reduceIte, reduceCtorEq, Zd, Ze, Zc, Zf, Z53, fltB, flts_len, allW_int, fits, List.isEmpty_cons, brk_false, Nat.reduceMul, srcB_kill, e6, es]
    have ek : IntKind.i64.wrap ((N : Int) - out.length - 1) = (N : Int) - (out ++ [six y]).length := by rw [w64 (by omega) (by omega)]; simp; omega
    have el : out.length + 1 = (out ++ [six y]).length := by simp
    have DN := D.next hR ⟨six_s hy, ok_div _ _⟩ ha2
    refine ⟨allW_flt _ _, by omega, ⟨(out ++ [six y], a2, sd2), DN⟩, by show N - (out ++ [six y]).length < _; rw [← el]; omega, ?_⟩
    show Weak 1 _ ⟨_, _⟩
    rw [ek, el]
    dsimp only
    generalize out ++ [six y] = ys
    exact weak_drop (by simp) (by simp [DropHp, ints_below, flts_below, srcB_below, fltB, allBelow_cons, allBelow_nil, below, belowM, belowL]) (by simp [DropTm, DropV, below, belowM, belowL, srcB_below, fltB, allBelow_cons, allBelow_nil, below, belowM, belowL])
  · have hR : out.length = N := by have := of_decide_eq_false g; omega
    have hT := tab_of (out := out) (by omega) fun x hx => (D.ok x hx).1
    have el : out.length + 1 = (out ++ [1065353216]).length := by simp
    have okq : ∀ x ∈ out ++ [1065353216], okW x := fun x hx => by
      rcases List.mem_append.1 hx with h | h
      · exact (D.ok x h).2
      · rw [List.mem_singleton.1 h]; exact ⟨by decide, fun h => by revert h; decide +kernel⟩
    refine ⟨allW_flt _ _, by rw [fits]; omega, ?_⟩
    rw [f1]
    refine PostR.tell [0, 1] (hp2 := [srcB code a sd, fltB (out ++ [1065353216])]) (by decide) (by decide) (by decide) ⟨⟨rfl, rfl⟩, ⟨congrArg some (renB_flat (r := fltB (out ++ [1065353216])) (flts_below _ _)).symm, flts_below _ _⟩, trivial⟩ ?_ rfl ⟨out ++ [1065353216], a, sd, hT, okq, by omega, rfl, rfl⟩
    rw [el]; rfl
set_option maxHeartbeats 4000000
structure DrI (n : Nat) (lo hi : Int) (a0 : Nat) (out : List Int) (a : Nat) : Prop where
  len : out.length ≤ n
  ok : ∀ x ∈ out, lo ≤ x ∧ x ≤ hi
  at_ : a ≤ a0 + 2 * out.length
theorem DrI.next {n : Nat} {lo hi : Int} {a0 : Nat} {out : List Int} {a a' : Nat} {x : Int} (D : DrI n lo hi a0 out a) (hl : out.length < n) (hx : lo ≤ x ∧ x ≤ hi) (ha : a' ≤ a + 2) : DrI n lo hi a0 (out ++ [x]) a' :=
  ⟨by simp; omega, fun y hy => by
    rcases List.mem_append.1 hy with h | h
    · exact D.ok y h
    · rw [List.mem_singleton.1 h]; exact hx, by have := D.at_; simp; omega⟩
theorem drawPays_call (code : List Int) (hc : byteL code) (hl : code.length ≤ 1048576) (a : Nat) (ha : a ≤ 100000) (sd : Int) :
    CallA Tryz.prog 51 [.ptr 0 0 0] [srcB code a sd] (fun r hp => ∃ (xs : List Int) (a' : Nat) (sd' : Int), (1 ≤ xs.length ∧ xs.length ≤ 5 ∧ ∀ x ∈ xs, (1) ≤ x ∧ x ≤ (900)) ∧ a' ≤ a + 14 ∧ r = .sl 1 0 xs.length ∧ hp = [srcB code a' sd', intB xs]) := by
  refine CallP.out (t := .mk) (go_in (md := md51) mixed Tryz.func51 rfl go51 (by kernel_rfl) ?_)
  simp only [Zu, Za, Zb, Zg, Zh, Zi, Zk, Zl, Zm, Zn, ↓reduceIte, reduceCtorEq, Zd, Ze, Zc, Zf, Z51]
  refine pick_at hc hl (by omega) (by omega) (by omega) (fun x a1 sd1 hx ha1 => ?_)
  have e1 : IntKind.i64.wrap (1 + x) = 1 + x := w64 (by omega) (by omega)
  simp only [Zu, Za, Zb, Zg, Zh, Zi, Zk, Zl, Zm, Zn, ↓reduceIte, reduceCtorEq, Zd, Ze, Zc, Zf, Z51, e1]
  obtain ⟨N, hN⟩ : ∃ N : Nat, 1 + x = (N : Int) := ⟨(1 + x).toNat, by omega⟩
  rw [hN]
  refine go_round (md := md51) mixed (by kernel_rfl) (fun d : {p : List Int × Nat × Int // DrI N (1) (900) a1 p.1 p.2.1} => ⟨[.ptr 0 0 0, .any, .any, .sl 1 0 d.1.1.length, .int .i64 ((N : Int) - d.1.1.length), .any, .any, .any, .any, .any, .any, .any, .any, .any, .any, .any, .any, .any, .any, .any, .any, .any], [srcB code d.1.2.1 d.1.2.2, intB d.1.1]⟩) (fun d => N - d.1.1.length) ⟨([], a1, sd1), ⟨by simp, by simp, by simp⟩⟩ ?_ ?_
  · have zf : ints [] = [] := rfl
    exact weak_drop (by simp) (by simp [DropHp, ints_below, flts_below, srcB_below, intB, zf, allBelow_cons, allBelow_nil, below, belowM, belowL]) (by simp [DropTm, DropV, below, belowM, belowL, srcB_below, intB, zf, allBelow_cons, allBelow_nil, below, belowM, belowL])
  rintro ⟨⟨out, a, sd⟩, D⟩
  have D1 := D.len
  have D2 := D.at_
  simp only [] at D1 D2
  simp only [Zu, Za, Zb, Zg, Zh, Zi, Zk, Zl, Zm, Zn, ↓reduceIte, reduceCtorEq, Zd, Ze, Zc, Zf, Z51, intB, ints_len]
  refine br_intro (fun g => ?_) (fun g => ?_) <;> simp only [Zu, Za, Zb, Zg, Zh, Zi, Zk, Zl, Zm, Zn, ↓reduceIte, reduceCtorEq, Zd, Ze, Zc, Zf, Z51, intB, ints_len]
  · have hR : out.length < N := by have := of_decide_eq_true g; omega
    refine pick_at hc hl (by omega) (by omega) (by omega) (fun y a2 sd2 hy ha2 => ?_)
    have e2 : IntKind.i64.wrap (1 + y) = 1 + y := w64 (by omega) (by omega)
    simp only [Zu, Za, Zb, Zg, Zh, Zi, Zk, Zl, Zm, Zn, ↓reduceIte, reduceCtorEq, Zd, Ze, Zc, Zf, Z51, intB, ints_len, allW_int, fits, List.isEmpty_cons, brk_false, Nat.reduceMul, srcB_kill, e2]
    have ek : IntKind.i64.wrap ((N : Int) - out.length - 1) = (N : Int) - (out ++ [1 + y]).length := by rw [w64 (by omega) (by omega)]; simp; omega
    have el : out.length + 1 = (out ++ [1 + y]).length := by simp
    have DN := D.next hR (x := 1 + y) (by omega) ha2
    refine ⟨by omega, ⟨(out ++ [1 + y], a2, sd2), DN⟩, by show N - (out ++ [1 + y]).length < _; rw [← el]; omega, ?_⟩
    show Weak 1 _ ⟨_, _⟩
    rw [ek, el]
    dsimp only
    generalize out ++ [1 + y] = ys
    exact weak_drop (by simp) (by simp [DropHp, ints_below, flts_below, srcB_below, intB, allBelow_cons, allBelow_nil, below, belowM, belowL]) (by simp [DropTm, DropV, below, belowM, belowL, srcB_below, intB, allBelow_cons, allBelow_nil, below, belowM, belowL])
  · have hR : out.length = N := by have := of_decide_eq_false g; omega
    exact PostR.tell [0, 1] (hp2 := [srcB code a sd, intB out]) (by decide) (by decide) (by decide) ⟨⟨rfl, rfl⟩, ⟨congrArg some (renB_flat (r := intB out) (ints_below _ _)).symm, ints_below _ _⟩, trivial⟩ rfl rfl ⟨out, a, sd, ⟨by omega, by omega, D.ok⟩, by omega, rfl, rfl⟩
theorem drawRates_call (code : List Int) (hc : byteL code) (hl : code.length ≤ 1048576) (a : Nat) (ha : a ≤ 100000) (sd : Int) :
    CallA Tryz.prog 52 [.ptr 0 0 0] [srcB code a sd] (fun r hp => ∃ (xs : List Int) (a' : Nat) (sd' : Int), (1 ≤ xs.length ∧ xs.length ≤ 5 ∧ ∀ x ∈ xs, (-700) ≤ x ∧ x ≤ (1299)) ∧ a' ≤ a + 14 ∧ r = .sl 1 0 xs.length ∧ hp = [srcB code a' sd', intB xs]) := by
  refine CallP.out (t := .mk) (go_in (md := md52) mixed Tryz.func52 rfl go52 (by kernel_rfl) ?_)
  simp only [Zu, Za, Zb, Zg, Zh, Zi, Zk, Zl, Zm, Zn, ↓reduceIte, reduceCtorEq, Zd, Ze, Zc, Zf, Z52]
  refine pick_at hc hl (by omega) (by omega) (by omega) (fun x a1 sd1 hx ha1 => ?_)
  have e1 : IntKind.i64.wrap (1 + x) = 1 + x := w64 (by omega) (by omega)
  simp only [Zu, Za, Zb, Zg, Zh, Zi, Zk, Zl, Zm, Zn, ↓reduceIte, reduceCtorEq, Zd, Ze, Zc, Zf, Z52, e1]
  obtain ⟨N, hN⟩ : ∃ N : Nat, 1 + x = (N : Int) := ⟨(1 + x).toNat, by omega⟩
  rw [hN]
  refine go_round (md := md52) mixed (by kernel_rfl) (fun d : {p : List Int × Nat × Int // DrI N (-700) (1299) a1 p.1 p.2.1} => ⟨[.ptr 0 0 0, .any, .any, .sl 1 0 d.1.1.length, .int .i64 ((N : Int) - d.1.1.length), .any, .any, .any, .any, .any, .any, .any, .any, .any, .any, .any, .any, .any, .any, .any, .any, .any], [srcB code d.1.2.1 d.1.2.2, intB d.1.1]⟩) (fun d => N - d.1.1.length) ⟨([], a1, sd1), ⟨by simp, by simp, by simp⟩⟩ ?_ ?_
  · have zf : ints [] = [] := rfl
    exact weak_drop (by simp) (by simp [DropHp, ints_below, flts_below, srcB_below, intB, zf, allBelow_cons, allBelow_nil, below, belowM, belowL]) (by simp [DropTm, DropV, below, belowM, belowL, srcB_below, intB, zf, allBelow_cons, allBelow_nil, below, belowM, belowL])
  rintro ⟨⟨out, a, sd⟩, D⟩
  have D1 := D.len
  have D2 := D.at_
  simp only [] at D1 D2
  simp only [Zu, Za, Zb, Zg, Zh, Zi, Zk, Zl, Zm, Zn, ↓reduceIte, reduceCtorEq, Zd, Ze, Zc, Zf, Z52, intB, ints_len]
  refine br_intro (fun g => ?_) (fun g => ?_) <;> simp only [Zu, Za, Zb, Zg, Zh, Zi, Zk, Zl, Zm, Zn, ↓reduceIte, reduceCtorEq, Zd, Ze, Zc, Zf, Z52, intB, ints_len]
  · have hR : out.length < N := by have := of_decide_eq_true g; omega
    refine pick_at hc hl (by omega) (by omega) (by omega) (fun y a2 sd2 hy ha2 => ?_)
    have e2 : IntKind.i64.wrap (y - 700) = y - 700 := w64 (by omega) (by omega)
    simp only [Zu, Za, Zb, Zg, Zh, Zi, Zk, Zl, Zm, Zn, ↓reduceIte, reduceCtorEq, Zd, Ze, Zc, Zf, Z52, intB, ints_len, allW_int, fits, List.isEmpty_cons, brk_false, Nat.reduceMul, srcB_kill, e2]
    have ek : IntKind.i64.wrap ((N : Int) - out.length - 1) = (N : Int) - (out ++ [y - 700]).length := by rw [w64 (by omega) (by omega)]; simp; omega
    have el : out.length + 1 = (out ++ [y - 700]).length := by simp
    have DN := D.next hR (x := y - 700) (by omega) ha2
    refine ⟨by omega, ⟨(out ++ [y - 700], a2, sd2), DN⟩, by show N - (out ++ [y - 700]).length < _; rw [← el]; omega, ?_⟩
    show Weak 1 _ ⟨_, _⟩
    rw [ek, el]
    dsimp only
    generalize out ++ [y - 700] = ys
    exact weak_drop (by simp) (by simp [DropHp, ints_below, flts_below, srcB_below, intB, allBelow_cons, allBelow_nil, below, belowM, belowL]) (by simp [DropTm, DropV, below, belowM, belowL, srcB_below, intB, allBelow_cons, allBelow_nil, below, belowM, belowL])
  · have hR : out.length = N := by have := of_decide_eq_false g; omega
    exact PostR.tell [0, 1] (hp2 := [srcB code a sd, intB out]) (by decide) (by decide) (by decide) ⟨⟨rfl, rfl⟩, ⟨congrArg some (renB_flat (r := intB out) (ints_below _ _)).symm, ints_below _ _⟩, trivial⟩ rfl rfl ⟨out, a, sd, ⟨by omega, by omega, D.ok⟩, by omega, rfl, rfl⟩
end Go.Proofs.YtodjjpmigcacoaaGreatDoor
namespace Go.Proofs.YtodjjpmigcacoaaGreatDoor
open Go Go.Abs
theorem cloneI_call (xs : List Int) (h0 : 1 ≤ xs.length) (h : xs.length ≤ 1048576) : CallA Tryz.prog 70 [.ro (ints xs)] [] (Ret (.ro (ints xs)) []) :=
  CallA.frozen 2 (iclone_call xs h0 h) (view_in rfl rfl)
theorem cloneF0_call (x : Nat) (xs : List Nat) (h : (x :: xs).length ≤ 1048576) : CallA Tryz.prog 71 [.ro (flts (x :: xs))] [] (Ret (.sl 0 0 (x :: xs).length) [fltB (x :: xs)]) := by
  refine CallP.out (t := .mk) (go_in (md := md71) mixed Tryz.func71 rfl go71 (by kernel_rfl) ?_)
  rw [show flts (x :: xs) = .flt .f32 x :: flts xs from rfl]
  simp only [q0, q1, q2, q3, q4, q5, q6, q7, q8, q9, zq0, zq1, zq2, zq3, zq4, guardSlot, quietA, nilC, nilA, quietB, St.ev, St.put, St.after, Nat.reduceAdd, Nat.reduceSub, ofV, ofL, lenA, binA, intBin, fltBin, strBin, cpxBin, unA, convA, convB, convO, pickV, resL, oneA, indexA, flatP, nilI, ifaA, indexS, isQuiet, loadA, loadC, storeA, fieldA, partA, sliceA, boundA, buildA, placeA, setAll, appendA, readSl, newEl, AV.cells, AV.solid, AV.one, kill, killM, killL, notInt, lookA, putA, entryA, entrySetA, mapTy, Int.reduceToNat, cond_true, cond_false, ↓reduceIte, reduceCtorEq, Nat.reduceLT, Nat.reduceLeDiff, Nat.reduceMul, Nat.reduceEqDiff, exists_eq', putF, implies_true, exists_true_left, tys0, tys1, tys2, tys3, und0, und1, und2, und3, md71, Tryz.ntmps71, Tryz.results71]
  exact ⟨flts_allW (x :: xs), by unfold fits; simp at h; omega, PostR.ret⟩
theorem cloneF_call (xs : List Nat) (h0 : 1 ≤ xs.length) (h : xs.length ≤ 1048576) : CallA Tryz.prog 71 [.ro (flts xs)] [] (Ret (.ro (flts xs)) []) := by
  cases xs with
  | nil => simp at h0
  | cons x xs => exact CallA.frozen 2 (cloneF0_call x xs h) (view_fl rfl rfl)
end Go.Proofs.YtodjjpmigcacoaaGreatDoor
namespace Go.Proofs.YtodjjpmigcacoaaGreatDoor
open Go Go.Abs
open Nat renaming reduceAdd → Za, reduceSub → Zb, reduceMul → Zc, reduceLT → Zd, reduceLeDiff → Ze, reduceEqDiff → Zf
open Int renaming reduceToNat → Zn
open Go.Abs renaming lenA → Zg, convA → Zh, indexA → Zi, flatP → Zj, nilI → Zk, ifaA → Zl, indexS → Zm
theorem cloneDesk_call (a b c d : List Int) (f : List Nat) (ha : 1 ≤ a.length ∧ a.length ≤ 1000) (hb : 1 ≤ b.length ∧ b.length ≤ 1000) (hc : 1 ≤ c.length ∧ c.length ≤ 1000) (hd : 1 ≤ d.length ∧ d.length ≤ 1000) (hf : 1 ≤ f.length ∧ f.length ≤ 1000) :
    CallA Tryz.prog 35 [deskV a b c d f] [] (Ret (deskV a b c d f) []) := by
  unfold deskV
  refine CallP.out (t := .mk) (go_in (md := md35) mixed Tryz.func35 rfl go35 (by kernel_rfl) ?_)
  simp only [Zu, Za, Zb, Zg, Zh, Zi, Zk, Zl, Zm, Zn, ↓reduceIte, reduceCtorEq, Zd, Ze, Zc, Zf, Z35]
  refine callr_ret (cloneI_call a ha.1 (by omega)) rfl rfl ?_
  simp only [Zu, Za, Zb, Zg, Zh, Zi, Zk, Zl, Zm, Zn, ↓reduceIte, reduceCtorEq, Zd, Ze, Zc, Zf, Z35]
  refine callr_ret (cloneI_call b hb.1 (by omega)) rfl rfl ?_
  simp only [Zu, Za, Zb, Zg, Zh, Zi, Zk, Zl, Zm, Zn, ↓reduceIte, reduceCtorEq, Zd, Ze, Zc, Zf, Z35]
  refine callr_ret (cloneI_call c hc.1 (by omega)) rfl rfl ?_
  simp only [Zu, Za, Zb, Zg, Zh, Zi, Zk, Zl, Zm, Zn, ↓reduceIte, reduceCtorEq, Zd, Ze, Zc, Zf, Z35]
  refine callr_ret (cloneI_call d hd.1 (by omega)) rfl rfl ?_
  simp only [Zu, Za, Zb, Zg, Zh, Zi, Zk, Zl, Zm, Zn, ↓reduceIte, reduceCtorEq, Zd, Ze, Zc, Zf, Z35]
  refine callr_ret (cloneF_call f hf.1 (by omega)) rfl rfl ?_
  simp only [Zu, Za, Zb, Zg, Zh, Zi, Zk, Zl, Zm, Zn, ↓reduceIte, reduceCtorEq, Zd, Ze, Zc, Zf, Z35]
  exact PostR.pure ⟨rfl, rfl⟩ rfl
def okM (x : Int) : Prop := -1000000000000000 ≤ x ∧ x ≤ 1000000000000000
theorem listText_call (xs : List Int) (h1 : 1 ≤ xs.length) (h2 : xs.length ≤ 64) (hb : ∀ x ∈ xs, okM x) : CallA Tryz.prog 85 [.ro (ints xs)] [] (Ret (.tup [.str (txt [44] xs), .bool true]) []) := by
  have hc : hasC xs 0 64 (-1000000000000000) 1000000000000000 = true := by
    unfold hasC
    rw [decide_eq_true (show (0 : Int) ≤ xs.length by omega), decide_eq_true (show (xs.length : Int) ≤ 64 by omega)]
    simp only [Bool.true_and, List.all_eq_true]
    exact fun x hx => inR_yes (hb x hx).1 (hb x hx).2
  refine CallP.out (t := .mk) (go_in (md := md85) mixed Tryz.func85 rfl go85 (by kernel_rfl) ?_)
  simp only [Zu, Za, Zb, Zg, Zh, Zi, Zk, Zl, Zm, Zn, ↓reduceIte, reduceCtorEq, Zd, Ze, Zc, Zf, Z85]
  refine call_ret (hasCount_call xs 0 64 (-1000000000000000) 1000000000000000 (by omega)) rfl rfl ?_
  rw [hc]
  simp only [Zu, Za, Zb, Zg, Zh, Zi, Zk, Zl, Zm, Zn, ↓reduceIte, reduceCtorEq, Zd, Ze, Zc, Zf, Z85]
  refine br_no (decide_eq_false (by omega)) ?_
  simp only [Zu, Za, Zb, Zg, Zh, Zi, Zk, Zl, Zm, Zn, ↓reduceIte, reduceCtorEq, Zd, Ze, Zc, Zf, Z85]
  refine call_ret (decimals_call [44] (by decide) xs (by omega) (fun x hx => ⟨by have := (hb x hx).1; omega, by have := (hb x hx).2; omega⟩)) rfl rfl ?_
  simp only [Zu, Za, Zb, Zg, Zh, Zi, Zk, Zl, Zm, Zn, ↓reduceIte, reduceCtorEq, Zd, Ze, Zc, Zf, Z85]
  exact PostR.pure ⟨rfl, rfl⟩ rfl
theorem told_call (n : Int) (ok : Bool) (h0 : -9223372036854775808 ≤ n) (h1 : n ≤ 9223372036854775807) : CallA Tryz.prog 94 [.int .i64 n, .bool ok] [] (Ret (.tup [.str (Lib.itoa n), .bool ok]) []) := by
  refine CallP.out (t := .mk) (go_in (md := md94) mixed Tryz.func94 rfl go94 (by kernel_rfl) ?_)
  simp only [Zu, Za, Zb, Zg, Zh, Zi, Zk, Zl, Zm, Zn, ↓reduceIte, reduceCtorEq, Zd, Ze, Zc, Zf, Z94]
  refine call_ret (decimal_call n h0 h1) rfl rfl ?_
  simp only [Zu, Za, Zb, Zg, Zh, Zi, Zk, Zl, Zm, Zn, ↓reduceIte, reduceCtorEq, Zd, Ze, Zc, Zf, Z94]
  exact PostR.pure ⟨rfl, rfl⟩ rfl
theorem toldList_call (xs : List Int) (h1 : 1 ≤ xs.length) (h2 : xs.length ≤ 64) (hb : ∀ x ∈ xs, okM x) : CallA Tryz.prog 97 [.ro (ints xs), .bool true] [] (Ret (.tup [.str (txt [44] xs), .bool true]) []) := by
  refine CallP.out (t := .mk) (go_in (md := md97) mixed Tryz.func97 rfl go97 (by kernel_rfl) ?_)
  simp only [Zu, Za, Zb, Zg, Zh, Zi, Zk, Zl, Zm, Zn, ↓reduceIte, reduceCtorEq, Zd, Ze, Zc, Zf, Z97]
  refine call_ret (listText_call xs h1 h2 hb) rfl rfl ?_
  simp only [Zu, Za, Zb, Zg, Zh, Zi, Zk, Zl, Zm, Zn, ↓reduceIte, reduceCtorEq, Zd, Ze, Zc, Zf, Z97]
  exact PostR.pure ⟨rfl, rfl⟩ rfl
theorem toldNumbers_call (xs : List Nat) (hl : xs.length ≤ 256) (ok : ∀ x ∈ xs, okW x) : CallA Tryz.prog 87 [.ro (flts xs), .bool true] [] (Ret (.tup [.str (wdsT (hexW xs)), .bool true]) []) := by
  refine CallP.out (t := .mk) (go_in (md := md87) mixed Tryz.func87 rfl go87 (by kernel_rfl) ?_)
  simp only [Zu, Za, Zb, Zg, Zh, Zi, Zk, Zl, Zm, Zn, ↓reduceIte, reduceCtorEq, Zd, Ze, Zc, Zf, Z87]
  refine call_ret (numbersText_call xs hl ok) rfl rfl ?_
  simp only [Zu, Za, Zb, Zg, Zh, Zi, Zk, Zl, Zm, Zn, ↓reduceIte, reduceCtorEq, Zd, Ze, Zc, Zf, Z87]
  exact PostR.pure ⟨rfl, rfl⟩ rfl
structure Pys (ps : List Int) : Prop where
  one : 1 ≤ ps.length
  six : ps.length ≤ 6
  low : ∀ x ∈ ps, 1 ≤ x ∧ x ≤ 900
theorem Pys.sml {ps : List Int} (H : Pys ps) : Sml 1000 ps := fun x hx => by have := H.low x hx; omega
theorem Pys.sml2 {ps : List Int} (H : Pys ps) : Sml 2000 ps := fun x hx => by have := H.low x hx; omega
theorem Pys.sum {ps : List Int} (H : Pys ps) : 1 ≤ sumI ps ∧ sumI ps ≤ 6000 := by
  have s := H.sml.sum
  have h6 := H.six
  refine ⟨?_, by omega⟩
  cases ps with
  | nil => have := H.one; simp at this
  | cons x l =>
    have t : 0 ≤ sumI l := (Sml.sum (m := 1000) (fun y hy => H.sml y (by simp [hy]))).1
    have e : sumI (x :: l) = x + sumI l := rfl
    have := H.low x (by simp)
    omega
theorem Pys.all {ps : List Int} (H : Pys ps) (lo hi : Int) (h1 : lo ≤ 1) (h2 : 900 ≤ hi) : ps.all (inR lo hi) = true :=
  List.all_eq_true.2 fun x hx => by have := H.low x hx; exact inR_yes (by omega) (by omega)
theorem Pys.has {ps : List Int} (H : Pys ps) (most hi : Int) (h1 : 6 ≤ most) (h2 : 900 ≤ hi) : hasC ps 1 most 0 hi = true := by
  have a := H.one
  have b := H.six
  unfold hasC
  rw [H.all 0 hi (by omega) h2, decide_eq_true (show (1 : Int) ≤ ps.length by omega), decide_eq_true (show (ps.length : Int) ≤ most by omega)]
  rfl
theorem arePays_call {ps : List Int} (H : Pys ps) : CallA Tryz.prog 134 [.ro (ints ps)] [] (Ret (.bool true) []) := by
  have s := H.sum
  have h6 := H.six
  refine CallP.out (t := .mk) (go_in (md := md134) mixed Tryz.func134 rfl go134 (by kernel_rfl) ?_)
  simp only [Zu, Za, Zb, Zg, Zh, Zi, Zk, Zl, Zm, Zn, ↓reduceIte, reduceCtorEq, Zd, Ze, Zc, Zf, Z134]
  refine call_ret (hasCount_call ps 1 _ 0 1000000000000 (by omega)) rfl rfl ?_
  rw [H.has _ _ (by decide) (by decide)]
  simp only [Zu, Za, Zb, Zg, Zh, Zi, Zk, Zl, Zm, Zn, ↓reduceIte, reduceCtorEq, Zd, Ze, Zc, Zf, Z134]
  refine call_ret (total_call ps H.sml2 (by omega)) rfl rfl ?_
  simp only [Zu, Za, Zb, Zg, Zh, Zi, Zk, Zl, Zm, Zn, ↓reduceIte, reduceCtorEq, Zd, Ze, Zc, Zf, Z134]
  refine call_ret (isAmount_call (sumI ps)) rfl rfl ?_
  rw [inR_yes (by omega) (by omega)]
  simp only [Zu, Za, Zb, Zg, Zh, Zi, Zk, Zl, Zm, Zn, ↓reduceIte, reduceCtorEq, Zd, Ze, Zc, Zf, Z134]
  exact PostR.pure ⟨rfl, rfl⟩ rfl
theorem arePlaces_call {ps : List Int} (H : Pys ps) : CallA Tryz.prog 136 [.ro (ints ps)] [] (Ret (.bool true) []) := by
  have s := H.sum
  have h6 := H.six
  refine CallP.out (t := .mk) (go_in (md := md136) mixed Tryz.func136 rfl go136 (by kernel_rfl) ?_)
  simp only [Zu, Za, Zb, Zg, Zh, Zi, Zk, Zl, Zm, Zn, ↓reduceIte, reduceCtorEq, Zd, Ze, Zc, Zf, Z136]
  refine call_ret (hasCount_call ps 1 _ 0 1000000000 (by omega)) rfl rfl ?_
  rw [H.has _ _ (by decide) (by decide)]
  simp only [Zu, Za, Zb, Zg, Zh, Zi, Zk, Zl, Zm, Zn, ↓reduceIte, reduceCtorEq, Zd, Ze, Zc, Zf, Z136]
  refine call_ret (total_call ps H.sml2 (by omega)) rfl rfl ?_
  simp only [Zu, Za, Zb, Zg, Zh, Zi, Zk, Zl, Zm, Zn, ↓reduceIte, reduceCtorEq, Zd, Ze, Zc, Zf, Z136]
  have e : decide (sumI ps > 0) = true := decide_eq_true (by omega)
  have e' : decide (0 < sumI ps) = true := decide_eq_true (by omega)
  exact PostR.pure ⟨by first | rw [e] | rw [e'], rfl⟩ rfl
def bxB (bs rs : List Int) : Blk := { ty := 26, w := 2, els := [.agg [.ro (ints bs), .ro (ints rs)]] }
def whI (bs rs ps : List Int) (w : Int) (i : Nat) : Int := dueF bs rs (sumI (ps.take (i + 1))) w - dueF bs rs (sumI (ps.take i)) w
def whL (bs rs ps : List Int) (w : Int) : List Int := rngL (whI bs rs ps w) ps.length
theorem Pys.take {ps : List Int} (H : Pys ps) (i : Nat) : 0 ≤ sumI (ps.take i) ∧ sumI (ps.take i) ≤ 6000 := by
  have s := (H.sml.take i).sum
  have h : (ps.take i).length ≤ 6 := by rw [List.length_take]; have := H.six; omega
  omega
theorem wh_bound {bs rs ps : List Int} (S : Scl bs rs) (H : Pys ps) {w : Int} (w0 : 0 ≤ w) (w3 : w ≤ 3) (i : Nat) : -6000 ≤ whI bs rs ps w i ∧ whI bs rs ps w i ≤ 6000 := by
  have a := H.take i
  have b := H.take (i + 1)
  have c := S.due a.1 w0 w3
  have d := S.due b.1 w0 w3
  unfold whI
  omega
theorem withhold0_call {bs rs ps : List Int} (S : Scl bs rs) (H : Pys ps) (w : Int) (w0 : 0 ≤ w) (w3 : w ≤ 3) : CallA Tryz.prog 98 [.agg [.ro (ints bs), .ro (ints rs)], .ro (ints ps), .int .i64 w] [] (Ret (.tup [.sl 0 0 ps.length, .bool true]) [intB (whL bs rs ps w)]) := by
  have h6 := H.six
  refine CallP.out (t := .mk) (go_in (md := md98) mixed Tryz.func98 rfl go98 (by kernel_rfl) ?_)
  simp only [Zu, Za, Zb, Zg, Zh, Zi, Zk, Zl, Zm, Zn, ↓reduceIte, reduceCtorEq, Zd, Ze, Zc, Zf, Z98]
  refine call_ret (isAsked_yes S (by decide) (by decide) w0 w3) rfl rfl ?_
  simp only [Zu, Za, Zb, Zg, Zh, Zi, Zk, Zl, Zm, Zn, ↓reduceIte, reduceCtorEq, Zd, Ze, Zc, Zf, Z98]
  refine call_ret (arePays_call H) rfl rfl ?_
  simp only [Zu, Za, Zb, Zg, Zh, Zi, Zk, Zl, Zm, Zn, ↓reduceIte, reduceCtorEq, Zd, Ze, Zc, Zf, Z98]
  refine go_round (md := md98) mixed (by kernel_rfl) (fun i : {i : Nat // i ≤ ps.length} => ⟨[.any, .any, .int .i64 w, .ptr 0 0 0, .any, .any, .any, .any, .sl 1 0 i.1, .int .i64 (sumI (ps.take i.1)), .any, .any, .any, .any, .any, .any, .any, .any, .any, .any, .any, .any, .ro (ints ps), .int .i64 ps.length, .int .i64 (i.1 : Int), .any, .any, .any, .any, .any, .any, .any, .any, .any, .any, .any, .any, .any, .any, .any, .any, .any, .any, .any, .any, .any, .any], [bxB bs rs, intB (rngL (whI bs rs ps w) i.1)]⟩) (fun i => ps.length - i.1) ⟨0, by omega⟩ ?_ ?_
  · have z1 : rngL (whI bs rs ps w) 0 = [] := rfl
    have z3 : ints [] = [] := rfl
    have z5 : sumI (ps.take 0) = 0 := by rw [List.take_zero]; rfl
    rw [z1, z5]
    exact weak_drop (by simp) (by simp [DropHp, ints_below, flts_below, intB, bxB, z3, allBelow_cons, allBelow_nil, below, belowM, belowL]) (by simp [DropTm, DropV, below, belowM, belowL, intB, bxB, z3, allBelow_cons, allBelow_nil, below, belowM, belowL])
  rintro ⟨i, hi⟩
  have lq : (rngL (whI bs rs ps w) i).length = i := rngL_len _ _
  simp only [Zu, Za, Zb, Zg, Zh, Zi, Zk, Zl, Zm, Zn, ↓reduceIte, reduceCtorEq, Zd, Ze, Zc, Zf, Z98, intB, bxB, ints_len, lq]
  refine br_intro (fun g => ?_) (fun g => ?_) <;> simp only [Zu, Za, Zb, Zg, Zh, Zi, Zk, Zl, Zm, Zn, ↓reduceIte, reduceCtorEq, Zd, Ze, Zc, Zf, Z98, intB, bxB, ints_len, lq]
  · have hi' : i < ps.length := by have := of_decide_eq_true g; omega
    have t0 := H.take i
    have t1 := H.take (i + 1)
    have wb := wh_bound S H w0 w3 i
    have d0 := S.due t0.1 w0 w3
    have d1 := S.due t1.1 w0 w3
    have ts := sumI_take ps i hi'
    have ea : IntKind.i64.wrap (sumI (ps.take i) + ps[i]) = sumI (ps.take (i + 1)) := by rw [ts]; exact w64 (by omega) (by omega)
    have es : IntKind.i64.wrap (dueF bs rs (sumI (ps.take (i + 1))) w - dueF bs rs (sumI (ps.take i)) w) = whI bs rs ps w i := w64 (by omega) (by omega)
    refine ⟨hi', ?_⟩
    refine go_float mixed (fun _ => True) [0, 1, 2, 3, 4, 5, 6, 7, 8, 9, 10, 11, 12, 13, 14] [3, 3, 3, 3, 3, 3, 0, 3, 3, 3, 0, 3, 3, 1, 1] [] [] (by kernel_rfl) ?_
    iterate 6 (refine om_calm (by rfl) (by rfl) (by rfl) (by rfl) ?_; try simp only []; simp only [Zu, Za, Zb, Zg, Zh, Zi, Zk, Zl, Zm, Zn, ↓reduceIte, reduceCtorEq, Zd, Ze, Zc, Zf, Z98, ea, intB, bxB])
    refine om_call (by rfl) (by rfl) (by rfl) trivial (by rfl) (by rfl) (fun hp _ => call_lift (by rfl) (due_call S _ w t1.1 (by omega) w0 w3) (by rfl)) ⟨fun b hb => (by cases hb), fun x _ b hb => (by cases hb)⟩ ?_
    simp only [Zu, Za, Zb, Zg, Zh, Zi, Zk, Zl, Zm, Zn, ↓reduceIte, reduceCtorEq, Zd, Ze, Zc, Zf, Z98, ea, intB, bxB]
    iterate 3 (refine om_calm (by rfl) (by rfl) (by rfl) (by rfl) ?_; try simp only []; simp only [Zu, Za, Zb, Zg, Zh, Zi, Zk, Zl, Zm, Zn, ↓reduceIte, reduceCtorEq, Zd, Ze, Zc, Zf, Z98, ea, intB, bxB])
    refine om_call (by rfl) (by rfl) (by rfl) trivial (by rfl) (by rfl) (fun hp _ => call_lift (by rfl) (due_call S _ w t0.1 (by omega) w0 w3) (by rfl)) ⟨fun b hb => (by cases hb), fun x _ b hb => (by cases hb)⟩ ?_
    simp only [Zu, Za, Zb, Zg, Zh, Zi, Zk, Zl, Zm, Zn, ↓reduceIte, reduceCtorEq, Zd, Ze, Zc, Zf, Z98, ea, intB, bxB]
    iterate 1 (refine om_calm (by rfl) (by rfl) (by rfl) (by rfl) ?_; try simp only []; simp only [Zu, Za, Zb, Zg, Zh, Zi, Zk, Zl, Zm, Zn, ↓reduceIte, reduceCtorEq, Zd, Ze, Zc, Zf, Z98, ea, es, intB, bxB])
    have fl : ∀ b ∈ [bxB bs rs, intB (rngL (whI bs rs ps w) i)], allBelow 2 b.els = true := by
      intro b hb
      simp only [List.mem_cons, List.not_mem_nil, or_false] at hb
      rcases hb with rfl | rfl
      · rfl
      · exact ints_below _ _
    refine om_calmF (by rfl) (by rfl) (by rfl) (by rfl) { ty := 2, w := 1, els := [.int .i64 (whI bs rs ps w i)] } 1 (.sl 0 0 1) rfl rfl fl rfl (by simp only [Zu, Za, Zb, Zg, Zh, Zi, Zk, Zl, Zm, Zn, ↓reduceIte, reduceCtorEq, Zd, Ze, Zc, Zf, Z98]; rfl) ?_
    rw [view1]
    simp only [Zu, Za, Zb, Zg, Zh, Zi, Zk, Zl, Zm, Zn, ↓reduceIte, reduceCtorEq, Zd, Ze, Zc, Zf, Z98]
    refine om_one (by rfl) (by rfl) (by rfl) ?_
    simp only [Zu, Za, Zb, Zg, Zh, Zi, Zk, Zl, Zm, Zn, ↓reduceIte, reduceCtorEq, Zd, Ze, Zc, Zf, Z98, intB, bxB, ints_len, lq, allW_int, fits, List.isEmpty_cons, brk_false, Nat.reduceMul]
    refine ⟨by omega, ?_⟩
    refine om_one (by rfl) (by rfl) (by rfl) ?_; try simp only []; simp only [Zu, Za, Zb, Zg, Zh, Zi, Zk, Zl, Zm, Zn, ↓reduceIte, reduceCtorEq, Zd, Ze, Zc, Zf, Z98]
    refine om_nil ?_
    simp only [Zu, Za, Zb, Zg, Zh, Zi, Zk, Zl, Zm, Zn, ↓reduceIte, reduceCtorEq, Zd, Ze, Zc, Zf, Z98, intB, bxB, ints_len, lq, allW_int, fits, List.isEmpty_cons, brk_false, Nat.reduceMul]
    have e2 : rngL (whI bs rs ps w) i ++ [whI bs rs ps w i] = rngL (whI bs rs ps w) (i + 1) := rngL_succ _ _
    refine ⟨⟨i + 1, by omega⟩, by show ps.length - (i + 1) < ps.length - i; omega, ?_⟩
    show Weak 0 _ ⟨_, _⟩
    rw [e2, ea]
    exact weak_drop (by simp) (by simp [DropHp, ints_below, flts_below, w64_succ i (by omega), intB, bxB, allBelow_cons, allBelow_nil, below, belowM, belowL]) (by simp [DropTm, DropV, below, belowM, belowL, w64_succ i (by omega), intB, bxB, allBelow_cons, allBelow_nil, below, belowM, belowL])
  · have hi' : i = ps.length := by have := of_decide_eq_false g; omega
    subst hi'
    exact PostR.tell [1] (hp2 := [intB (whL bs rs ps w)]) (by decide) (by decide) (by decide) ⟨⟨congrArg some (renB_flat (r := intB _) (ints_below _ _)).symm, ints_below _ _⟩, trivial⟩ rfl rfl ⟨rfl, rfl⟩
theorem whL_len (bs rs ps : List Int) (w : Int) : (whL bs rs ps w).length = ps.length := rngL_len _ _
theorem view_tup_in {xs : List Int} {n : Nat} (h : xs.length = n) : view 3 [intB xs] (.tup [.sl 0 0 n, .bool true]) = .tup [.ro (ints xs), .bool true] := by
  simp only [view_tup, List.map_cons, List.map_nil, view_in (hp := [intB xs]) (i := 0) rfl h, view_bool]
theorem withhold_call {bs rs ps : List Int} (S : Scl bs rs) (H : Pys ps) (w : Int) (w0 : 0 ≤ w) (w3 : w ≤ 3) : CallA Tryz.prog 98 [.agg [.ro (ints bs), .ro (ints rs)], .ro (ints ps), .int .i64 w] [] (Ret (.tup [.ro (ints (whL bs rs ps w)), .bool true]) []) :=
  CallA.frozen 3 (withhold0_call S H w w0 w3) (view_tup_in (whL_len _ _ _ _))
theorem Pys.wts {ps : List Int} (H : Pys ps) {c : Int} (h0 : 0 ≤ c) (h1 : c ≤ 10000) : Wts ps c := ⟨H.one, by have := H.six; omega, H.sml, h0, h1, H.sum.1⟩
def larL (ps : List Int) (c : Int) : List Int := prtL ps c (lefF ps c ps.length).toNat
theorem larL_len (ps : List Int) (c : Int) : (larL ps c).length = ps.length := rngL_len _ _
theorem parted_ro {ps : List Int} (H : Pys ps) {c : Int} (h0 : 0 ≤ c) (h1 : c ≤ 10000) : CallA Tryz.prog 137 [.int .i64 c, .ro (ints ps)] [] (Ret (.ro (ints (larL ps c))) []) :=
  CallA.frozen 2 (parted_call (H.wts h0 h1)) (view_in rfl (larL_len _ _))
theorem largest_call {ps : List Int} (H : Pys ps) {c : Int} (h0 : 0 ≤ c) (h1 : c ≤ 10000) : CallA Tryz.prog 99 [.int .i64 c, .ro (ints ps)] [] (Ret (.tup [.ro (ints (larL ps c)), .bool true]) []) := by
  refine CallP.out (t := .mk) (go_in (md := md99) mixed Tryz.func99 rfl go99 (by kernel_rfl) ?_)
  simp only [Zu, Za, Zb, Zg, Zh, Zi, Zk, Zl, Zm, Zn, ↓reduceIte, reduceCtorEq, Zd, Ze, Zc, Zf, Z99]
  refine call_ret (arePlaces_call H) rfl rfl ?_
  simp only [Zu, Za, Zb, Zg, Zh, Zi, Zk, Zl, Zm, Zn, ↓reduceIte, reduceCtorEq, Zd, Ze, Zc, Zf, Z99]
  refine call_ret (within_call c 0 1000000000) rfl rfl ?_
  rw [inR_yes h0 (by omega)]
  simp only [Zu, Za, Zb, Zg, Zh, Zi, Zk, Zl, Zm, Zn, ↓reduceIte, reduceCtorEq, Zd, Ze, Zc, Zf, Z99]
  refine call_ret (parted_ro H h0 h1) rfl rfl ?_
  simp only [Zu, Za, Zb, Zg, Zh, Zi, Zk, Zl, Zm, Zn, ↓reduceIte, reduceCtorEq, Zd, Ze, Zc, Zf, Z99]
  exact PostR.pure ⟨rfl, rfl⟩ rfl
theorem lar_bound {ps : List Int} (H : Pys ps) {c : Int} (h0 : 0 ≤ c) (h1 : c ≤ 10000) : ∀ x ∈ larL ps c, okM x := by
  intro x hx
  obtain ⟨i, _, rfl⟩ := List.mem_map.1 hx
  have := prt_bound (H.wts h0 h1) (lefF ps c ps.length).toNat i
  exact ⟨by omega, by omega⟩
theorem wh_ok {bs rs ps : List Int} (S : Scl bs rs) (H : Pys ps) {w : Int} (w0 : 0 ≤ w) (w3 : w ≤ 3) : ∀ x ∈ whL bs rs ps w, okM x := by
  intro x hx
  obtain ⟨i, _, rfl⟩ := List.mem_map.1 hx
  have := wh_bound S H w0 w3 i
  exact ⟨by omega, by omega⟩
structure Rts (ra : List Int) : Prop where
  one : 1 ≤ ra.length
  six : ra.length ≤ 6
  low : ∀ x ∈ ra, -9999 ≤ x ∧ x ≤ 10000
theorem Rts.ok {ra : List Int} (H : Rts ra) : ratesB ra = true := by
  unfold ratesB
  rw [decide_eq_true (show 1 ≤ ra.length ∧ ra.length ≤ 60 from ⟨H.one, by have := H.six; omega⟩), Bool.true_and]
  exact List.all_eq_true.2 fun x hx => by have := H.low x hx; exact inR_yes (by omega) (by omega)
def capC (mx x : Int) : Int := if mx < x then mx else x
theorem capC_ok {mx x : Int} (hm : 0 ≤ mx) (h : 0 ≤ x) : 0 ≤ capC mx x ∧ capC mx x ≤ mx := by
  unfold capC; split <;> omega
def drS (mx : Int) (ra : List Int) (st dr : Int) : Nat → Int × Int
  | 0 => (st, 0)
  | i + 1 =>
    let p := drS mx ra st dr i
    let q := if dr ≤ p.1 then (p.1 - dr, p.2 + 1) else (0, p.2)
    (capC mx ((q.1 * (10000 + ra.getD i 0)).tdiv 10000), q.2)
def drL (mx : Int) (ra : List Int) (st dr : Int) (n : Nat) : List Int := rngL (fun i => (drS mx ra st dr (i + 1)).1) n
theorem dr_step {x y : Int} (h0 : 0 ≤ x) (h1 : x ≤ 1000000000001) (y0 : -9999 ≤ y) (y1 : y ≤ 10000) : 0 ≤ x * (10000 + y) ∧ x * (10000 + y) ≤ 20000000000020000 := by
  refine ⟨Int.mul_nonneg h0 (by omega), ?_⟩
  have a := Int.mul_le_mul_of_nonneg_left (show 10000 + y ≤ 20000 by omega) h0
  omega
theorem Rts.at_ {ra : List Int} (H : Rts ra) {i : Nat} (hi : i < ra.length) : -9999 ≤ ra.getD i 0 ∧ ra.getD i 0 ≤ 10000 := by
  rw [getD_at ra 0 i hi]; exact H.low _ (List.getElem_mem hi)
theorem drS_ok {mx : Int} (hm : 1000000000000 ≤ mx ∧ mx ≤ 1000000000001) {ra : List Int} (H : Rts ra) {st dr : Int} (h0 : 0 ≤ st) (h1 : st ≤ 1000000000000) (d0 : 0 ≤ dr) : ∀ i, i ≤ ra.length → (0 ≤ (drS mx ra st dr i).1 ∧ (drS mx ra st dr i).1 ≤ mx) ∧ 0 ≤ (drS mx ra st dr i).2 ∧ (drS mx ra st dr i).2 ≤ i
  | 0, _ => ⟨⟨h0, by show st ≤ mx; omega⟩, by show (0 : Int) ≤ 0; omega, by show (0 : Int) ≤ 0; omega⟩
  | i + 1, hi => by
    obtain ⟨⟨a, b⟩, c, d⟩ := drS_ok hm H h0 h1 d0 i (by omega)
    have r := H.at_ (show i < ra.length by omega)
    simp only [drS]
    generalize drS mx ra st dr i = p at *
    by_cases e : dr ≤ p.1
    · rw [if_pos e]
      have t := dr_step (show 0 ≤ p.1 - dr by omega) (by omega) r.1 r.2
      exact ⟨capC_ok (by omega) (Int.tdiv_nonneg t.1 (show (0 : Int) ≤ 10000 by decide)), by simp only []; omega, by simp only []; omega⟩
    · rw [if_neg e]
      exact ⟨capC_ok (by omega) (by simp only [Int.zero_mul]; decide), by simp only []; omega, by simp only []; omega⟩
theorem drawn0_call {mx : Int} (hm : 1000000000000 ≤ mx ∧ mx ≤ 1000000000001) {ra : List Int} (H : Rts ra) (st dr : Int) (h0 : 0 ≤ st) (h1 : st ≤ 1000000000000) (d0 : 0 ≤ dr) (d1 : dr ≤ 1000000000000) : CallA Tryz.prog 152 [.int .i64 st, .ro (ints ra), .int .i64 dr, .int .i64 mx] [] (Ret (.tup [.sl 0 0 ra.length, .int .i64 (drS mx ra st dr ra.length).2]) [intB (drL mx ra st dr ra.length)]) := by
  have h6 := H.six
  refine CallP.out (t := .mk) (go_in (md := md152) mixed Tryz.func152 rfl go152 (by kernel_rfl) ?_)
  simp only [Zu, Za, Zb, Zg, Zh, Zi, Zk, Zl, Zm, Zn, ↓reduceIte, reduceCtorEq, Zd, Ze, Zc, Zf, Z152]
  refine go_round (md := md152) mixed (by kernel_rfl) (fun i : {i : Nat // i ≤ ra.length} => ⟨[.int .i64 (drS mx ra st dr i.1).1, .any, .int .i64 dr, .int .i64 mx, .any, .any, .any, .any, .any, .any, .sl 0 0 i.1, .int .i64 (drS mx ra st dr i.1).2, .any, .any, .any, .ro (ints ra), .int .i64 ra.length, .int .i64 (i.1 : Int), .any, .any, .any, .any, .any, .any, .any, .any, .any, .any, .any, .any, .any, .any, .any, .any, .any, .any, .any, .any, .any, .any, .any, .any, .any], [intB (drL mx ra st dr i.1)]⟩) (fun i => ra.length - i.1) ⟨0, by omega⟩ ?_ ?_
  · have z1 : drL mx ra st dr 0 = [] := rfl
    have z3 : ints [] = [] := rfl
    have z5 : drS mx ra st dr 0 = (st, 0) := rfl
    rw [z1, z5]
    exact weak_drop (by simp) (by simp [DropHp, ints_below, flts_below, intB, z3, allBelow_cons, allBelow_nil, below, belowM, belowL]) (by simp [DropTm, DropV, below, belowM, belowL, intB, z3, allBelow_cons, allBelow_nil, below, belowM, belowL])
  rintro ⟨i, hi⟩
  have lq : (drL mx ra st dr i).length = i := rngL_len _ _
  simp only [Zu, Za, Zb, Zg, Zh, Zi, Zk, Zl, Zm, Zn, ↓reduceIte, reduceCtorEq, Zd, Ze, Zc, Zf, Z152, intB, ints_len, lq]
  refine br_intro (fun g => ?_) (fun g => ?_) <;> simp only [Zu, Za, Zb, Zg, Zh, Zi, Zk, Zl, Zm, Zn, ↓reduceIte, reduceCtorEq, Zd, Ze, Zc, Zf, Z152, intB, ints_len, lq]
  · have hi' : i < ra.length := by have := of_decide_eq_true g; omega
    obtain ⟨⟨a, b⟩, c, d⟩ := drS_ok hm H h0 h1 d0 i (by omega)
    have r := H.at_ hi'
    have e2 : drL mx ra st dr i ++ [(drS mx ra st dr (i + 1)).1] = drL mx ra st dr (i + 1) := rngL_succ _ _
    have rg := getD_at ra 0 i hi'
    have ew : IntKind.i64.wrap (10000 + ra[i]) = 10000 + ra[i] := w64 (by omega) (by omega)
    refine ⟨hi', ?_⟩
    generalize ra[i] = ri at *
    refine br_intro (fun u => ?_) (fun u => ?_) <;> simp only [Zu, Za, Zb, Zg, Zh, Zi, Zk, Zl, Zm, Zn, ↓reduceIte, reduceCtorEq, Zd, Ze, Zc, Zf, Z152, intB, ints_len, lq]
    · have hu : dr ≤ (drS mx ra st dr i).1 := by have := of_decide_eq_true u; omega
      have t := dr_step (show 0 ≤ (drS mx ra st dr i).1 - dr by omega) (by omega) r.1 r.2
      rw [rg] at t
      have e3 : IntKind.i64.wrap ((drS mx ra st dr i).1 - dr) = (drS mx ra st dr i).1 - dr := w64 (by omega) (by omega)
      have e4 : IntKind.i64.wrap ((drS mx ra st dr i).2 + 1) = (drS mx ra st dr i).2 + 1 := w64 (by omega) (by omega)
      have e5 : IntKind.i64.wrap (((drS mx ra st dr i).1 - dr) * (10000 + ri)) = ((drS mx ra st dr i).1 - dr) * (10000 + ri) := w64 (by omega) (by omega)
      have tq0 := Int.tdiv_nonneg t.1 (show (0 : Int) ≤ 10000 by decide)
      have tq1 : (((drS mx ra st dr i).1 - dr) * (10000 + ri)).tdiv 10000 ≤ ((drS mx ra st dr i).1 - dr) * (10000 + ri) := Int.tdiv_le_self _ t.1
      have e6 : IntKind.i64.wrap ((((drS mx ra st dr i).1 - dr) * (10000 + ri)).tdiv 10000) = (((drS mx ra st dr i).1 - dr) * (10000 + ri)).tdiv 10000 := w64 (by omega) (by omega)
      have es : drS mx ra st dr (i + 1) = (capC mx ((((drS mx ra st dr i).1 - dr) * (10000 + ri)).tdiv 10000), (drS mx ra st dr i).2 + 1) := by
        simp only [drS, if_pos hu, rg]
      have em : (if mx < (((drS mx ra st dr i).1 - dr) * (10000 + ri)).tdiv 10000 then mx else (((drS mx ra st dr i).1 - dr) * (10000 + ri)).tdiv 10000) = (drS mx ra st dr (i + 1)).1 := by rw [es]; rfl
      have en : (drS mx ra st dr (i + 1)).2 = (drS mx ra st dr i).2 + 1 := by rw [es]
      simp only [Zu, Za, Zb, Zg, Zh, Zi, Zk, Zl, Zm, Zn, ↓reduceIte, reduceCtorEq, Zd, Ze, Zc, Zf, Z152, e3, e4, e5, e6, ew, minA, em, intB, ints_len, lq, allW_int, fits, List.isEmpty_cons, brk_false, Nat.reduceMul]
      refine ⟨by decide, ?_⟩
      refine ⟨by omega, ⟨i + 1, by omega⟩, by show ra.length - (i + 1) < ra.length - i; omega, ?_⟩
      show Weak 0 _ ⟨_, _⟩
      rw [e2, en]
      exact weak_drop (by simp) (by simp [DropHp, ints_below, flts_below, w64_succ i (by omega), intB, allBelow_cons, allBelow_nil, below, belowM, belowL]) (by simp [DropTm, DropV, below, belowM, belowL, w64_succ i (by omega), intB, allBelow_cons, allBelow_nil, below, belowM, belowL])
    · have hu : ¬ dr ≤ (drS mx ra st dr i).1 := by have := of_decide_eq_false u; omega
      have e5 : IntKind.i64.wrap (0 * (10000 + ri)) = 0 := by rw [Int.zero_mul]; rfl
      have e6 : IntKind.i64.wrap ((0 : Int).tdiv 10000) = 0 := by decide
      have es : drS mx ra st dr (i + 1) = (0, (drS mx ra st dr i).2) := by
        simp only [drS, if_neg hu, Int.zero_mul]
        exact congrArg (·, (drS mx ra st dr i).2) (if_neg (show ¬ mx < 0 by omega))
      have em : (if mx < (0 : Int) then mx else (0 : Int)) = (drS mx ra st dr (i + 1)).1 := by rw [es]; exact if_neg (by omega)
      have en : (drS mx ra st dr (i + 1)).2 = (drS mx ra st dr i).2 := by rw [es]
      simp only [Zu, Za, Zb, Zg, Zh, Zi, Zk, Zl, Zm, Zn, ↓reduceIte, reduceCtorEq, Zd, Ze, Zc, Zf, Z152, e5, e6, ew, minA, em, intB, ints_len, lq, allW_int, fits, List.isEmpty_cons, brk_false, Nat.reduceMul]
      refine ⟨by decide, ?_⟩
      refine ⟨by omega, ⟨i + 1, by omega⟩, by show ra.length - (i + 1) < ra.length - i; omega, ?_⟩
      show Weak 0 _ ⟨_, _⟩
      rw [e2, en]
      exact weak_drop (by simp) (by simp [DropHp, ints_below, flts_below, w64_succ i (by omega), intB, allBelow_cons, allBelow_nil, below, belowM, belowL]) (by simp [DropTm, DropV, below, belowM, belowL, w64_succ i (by omega), intB, allBelow_cons, allBelow_nil, below, belowM, belowL])
  · have hi' : i = ra.length := by have := of_decide_eq_false g; omega
    subst hi'
    exact PostR.ret
theorem drawn_call {mx : Int} (hm : 1000000000000 ≤ mx ∧ mx ≤ 1000000000001) {ra : List Int} (H : Rts ra) (st dr : Int) (h0 : 0 ≤ st) (h1 : st ≤ 1000000000000) (d0 : 0 ≤ dr) (d1 : dr ≤ 1000000000000) : CallA Tryz.prog 152 [.int .i64 st, .ro (ints ra), .int .i64 dr, .int .i64 mx] [] (Ret (.tup [.ro (ints (drL mx ra st dr ra.length)), .int .i64 (drS mx ra st dr ra.length).2]) []) :=
  CallA.frozen 3 (drawn0_call hm H st dr h0 h1 d0 d1) (by
    simp only [view_tup, List.map_cons, List.map_nil, view_in (hp := [intB (drL mx ra st dr ra.length)]) (i := 0) rfl (rngL_len _ _), view_int])
def safF (ra : List Int) (st : Int) : Nat → Int → Int → Int
  | 0, lo, _ => lo
  | k + 1, lo, hi => if lo < hi then (if (drS 1000000000000 ra st ((lo + hi + 1) / 2) ra.length).2 = ra.length then safF ra st k ((lo + hi + 1) / 2) hi else safF ra st k lo ((lo + hi + 1) / 2 - 1)) else lo
structure SafI (ra : List Int) (st V : Int) (p : Nat × Int × Int) : Prop where
  low : 0 ≤ p.2.1
  le : p.2.1 ≤ p.2.2
  top : p.2.2 ≤ st
  fuel : p.2.2 - p.2.1 ≤ p.1
  val : safF ra st p.1 p.2.1 p.2.2 = V
def safV (ra : List Int) (st : Int) : Int := safF ra st st.toNat 0 st
theorem safe_call {ra : List Int} (H : Rts ra) (st : Int) (h0 : 0 ≤ st) (h1 : st ≤ 1000000000) : (0 ≤ safV ra st ∧ safV ra st ≤ st) ∧ CallA Tryz.prog 145 [.int .i64 st, .ro (ints ra)] [] (Ret (.int .i64 (safV ra st)) []) := by
  have bd : ∀ (k : Nat) (lo hi : Int), 0 ≤ lo → lo ≤ hi → hi ≤ st → 0 ≤ safF ra st k lo hi ∧ safF ra st k lo hi ≤ st := by
    intro k
    induction k with
    | zero => intro lo hi a b c; exact ⟨a, by show lo ≤ st; omega⟩
    | succ k ih =>
      intro lo hi a b c
      rw [safF]
      split
      · split
        · exact ih _ _ (by omega) (by omega) c
        · exact ih _ _ a (by omega) (by omega)
      · exact ⟨a, by omega⟩
  refine ⟨bd _ _ _ (Int.le_refl _) h0 (Int.le_refl _), ?_⟩
  have h6 := H.six
  refine CallP.out (t := .mk) (go_in (md := md145) mixed Tryz.func145 rfl go145 (by kernel_rfl) ?_)
  simp only [Zu, Za, Zb, Zg, Zh, Zi, Zk, Zl, Zm, Zn, ↓reduceIte, reduceCtorEq, Zd, Ze, Zc, Zf, Z145]
  refine go_round (md := md145) mixed (by kernel_rfl) (fun p : {p : Nat × Int × Int // SafI ra st (safV ra st) p} => ⟨[.int .i64 st, .ro (ints ra), .any, .any, .any, .int .i64 p.1.2.1, .int .i64 p.1.2.2, .any, .any, .any, .any, .any, .any, .any, .any, .any, .any, .any, .any, .any, .any, .any, .any, .any, .any, .any, .any, .any, .any, .any, .any, .any, .any, .any], []⟩) (fun p => p.1.1) ⟨(st.toNat, 0, st), ⟨Int.le_refl _, h0, Int.le_refl _, by simp only []; omega, rfl⟩⟩ ?_ ?_
  · exact weak_drop (by simp) (by simp [DropHp, ints_below, flts_below]) (by simp [DropTm, DropV, below, belowM, belowL])
  rintro ⟨⟨k, lo, hi⟩, I⟩
  have i1 : 0 ≤ lo := I.low
  have i2 : lo ≤ hi := I.le
  have i3 : hi ≤ st := I.top
  have i4 : hi - lo ≤ (k : Int) := I.fuel
  have i5 : safF ra st k lo hi = safV ra st := I.val
  dsimp only
  simp only [Zu, Za, Zb, Zg, Zh, Zi, Zk, Zl, Zm, Zn, ↓reduceIte, reduceCtorEq, Zd, Ze, Zc, Zf, Z145]
  refine br_intro (fun g => ?_) (fun g => ?_) <;> simp only [Zu, Za, Zb, Zg, Zh, Zi, Zk, Zl, Zm, Zn, ↓reduceIte, reduceCtorEq, Zd, Ze, Zc, Zf, Z145]
  · have hl : lo < hi := of_decide_eq_true g
    obtain ⟨k, rfl⟩ : ∃ m, k = m + 1 := ⟨k - 1, by omega⟩
    rw [safF, if_pos hl] at i5
    have e1 : IntKind.i64.wrap (lo + hi) = lo + hi := w64 (by omega) (by omega)
    have e2 : IntKind.i64.wrap (lo + hi + 1) = lo + hi + 1 := w64 (by omega) (by omega)
    have e3 : (lo + hi + 1).tdiv 2 = (lo + hi + 1) / 2 := Int.tdiv_eq_ediv_of_nonneg (by omega)
    have e4 : IntKind.i64.wrap ((lo + hi + 1) / 2) = (lo + hi + 1) / 2 := w64 (by omega) (by omega)
    have e5 : IntKind.i64.wrap ((lo + hi + 1) / 2 - 1) = (lo + hi + 1) / 2 - 1 := w64 (by omega) (by omega)
    have m1 : lo < (lo + hi + 1) / 2 := by omega
    have m2 : (lo + hi + 1) / 2 ≤ hi := by omega
    generalize (lo + hi + 1) / 2 = m at *
    simp only [Zu, Za, Zb, Zg, Zh, Zi, Zk, Zl, Zm, Zn, ↓reduceIte, reduceCtorEq, Zd, Ze, Zc, Zf, Z145, e1, e2, e3, e4]
    refine ⟨by decide, ?_⟩
    refine call_ret (drawn_call (by omega) H st m h0 (by omega) (by omega) (by omega)) rfl rfl ?_
    simp only [Zu, Za, Zb, Zg, Zh, Zi, Zk, Zl, Zm, Zn, ↓reduceIte, reduceCtorEq, Zd, Ze, Zc, Zf, Z145, ints_len]
    refine br_intro (fun u => ?_) (fun u => ?_) <;> simp only [Zu, Za, Zb, Zg, Zh, Zi, Zk, Zl, Zm, Zn, ↓reduceIte, reduceCtorEq, Zd, Ze, Zc, Zf, Z145, ints_len]
    · have hu : (drS 1000000000000 ra st m ra.length).2 = ra.length := of_decide_eq_true u
      rw [if_pos hu] at i5
      refine ⟨⟨(k, m, hi), ⟨by show 0 ≤ m; omega, m2, i3, by show hi - m ≤ (k : Int); omega, i5⟩⟩, by show k < k + 1; omega, ?_⟩
      show Weak 0 _ ⟨_, _⟩
      exact weak_drop (by simp) (by simp [DropHp, ints_below, flts_below, e1, e2, e3, e4]) (by simp [DropTm, DropV, below, belowM, belowL, e1, e2, e3, e4])
    · have hu : ¬ (drS 1000000000000 ra st m ra.length).2 = ra.length := of_decide_eq_false u
      rw [if_neg hu] at i5
      refine ⟨⟨(k, lo, m - 1), ⟨i1, by show lo ≤ m - 1; omega, by show m - 1 ≤ st; omega, by show m - 1 - lo ≤ (k : Int); omega, i5⟩⟩, by show k < k + 1; omega, ?_⟩
      show Weak 0 _ ⟨_, _⟩
      exact weak_drop (by simp) (by simp [DropHp, ints_below, flts_below, e1, e2, e3, e4, e5]) (by simp [DropTm, DropV, below, belowM, belowL, e1, e2, e3, e4, e5])
  · have hl : ¬ lo < hi := of_decide_eq_false g
    have e : lo = safV ra st := by
      rw [← i5]
      cases k with
      | zero => rfl
      | succ k => rw [safF, if_neg hl]
    rw [e]
    exact PostR.ret
theorem safeDraw_call {ra : List Int} (H : Rts ra) (st : Int) (h0 : 0 ≤ st) (h1 : st ≤ 1000000000) : CallA Tryz.prog 103 [.int .i64 st, .ro (ints ra)] [] (Ret (.tup [.int .i64 (safV ra st), .bool true]) []) := by
  have h6 := H.six
  refine CallP.out (t := .mk) (go_in (md := md103) mixed Tryz.func103 rfl go103 (by kernel_rfl) ?_)
  simp only [Zu, Za, Zb, Zg, Zh, Zi, Zk, Zl, Zm, Zn, ↓reduceIte, reduceCtorEq, Zd, Ze, Zc, Zf, Z103]
  refine call_ret (within_call st 0 1000000000) rfl rfl ?_
  rw [inR_yes h0 h1]
  simp only [Zu, Za, Zb, Zg, Zh, Zi, Zk, Zl, Zm, Zn, ↓reduceIte, reduceCtorEq, Zd, Ze, Zc, Zf, Z103]
  refine call_ret (areReturns_call ra (by omega)) rfl rfl ?_
  rw [H.ok]
  simp only [Zu, Za, Zb, Zg, Zh, Zi, Zk, Zl, Zm, Zn, ↓reduceIte, reduceCtorEq, Zd, Ze, Zc, Zf, Z103]
  refine call_ret (safe_call H st h0 h1).2 rfl rfl ?_
  simp only [Zu, Za, Zb, Zg, Zh, Zi, Zk, Zl, Zm, Zn, ↓reduceIte, reduceCtorEq, Zd, Ze, Zc, Zf, Z103]
  exact PostR.pure ⟨rfl, rfl⟩ rfl
set_option maxHeartbeats 2000000
theorem cutA_at (c : UInt8) : ∀ (x acc r : List UInt8), c ∉ x → cutA c acc (x ++ c :: r) = (acc ++ x) :: cutA c [] r
  | [], acc, r, _ => by simp [cutA]
  | y :: x, acc, r, h => by
    have h1 : y ≠ c := fun e => h (by simp [e])
    have h2 : c ∉ x := fun e => h (by simp [e])
    rw [List.cons_append, cutA, if_neg h1, cutA_at c x (acc ++ [y]) r h2]
    simp
theorem cutA_no (c : UInt8) : ∀ (x acc : List UInt8), c ∉ x → cutA c acc x = [acc ++ x]
  | [], acc, _ => by simp [cutA]
  | y :: x, acc, h => by
    have h1 : y ≠ c := fun e => h (by simp [e])
    have h2 : c ∉ x := fun e => h (by simp [e])
    rw [cutA, if_neg h1, cutA_no c x (acc ++ [y]) h2]
    simp
theorem cutA_join (c : UInt8) : ∀ (xs : List (List UInt8)), xs ≠ [] → (∀ x ∈ xs, c ∉ x) → cutA c [] (Lib.join xs [c]) = xs
  | [], h, _ => absurd rfl h
  | [x], _, h => by rw [Lib.join_one, cutA_no c x [] (h x (by simp))]; rfl
  | x :: y :: r, _, h => by
    have ih := cutA_join c (y :: r) (by simp) (fun z hz => h z (List.mem_cons_of_mem _ hz))
    have e : Lib.join (x :: y :: r) [c] = x ++ c :: Lib.join (y :: r) [c] := by
      rw [Lib.join_cons, Lib.join_cons]
      simp [Lib.joinTail]
    rw [e, cutA_at c x [] _ (h x (by simp)), ih]; rfl
def linT (c : UInt8) (L : List (List UInt8)) : List UInt8 := L.flatMap fun x => x ++ [c]
theorem cutA_lines (c : UInt8) : ∀ (L : List (List UInt8)), (∀ x ∈ L, c ∉ x) → cutA c [] (linT c L) = L ++ [[]]
  | [], _ => rfl
  | x :: L, h => by
    have e : linT c (x :: L) = x ++ c :: linT c L := by simp [linT]
    rw [e, cutA_at c x [] _ (h x (by simp)), cutA_lines c L fun y hy => h y (List.mem_cons_of_mem _ hy)]; rfl
theorem linT_snoc (c : UInt8) (L : List (List UInt8)) (x : List UInt8) : linT c (L ++ [x]) = linT c L ++ (x ++ [c]) := by simp [linT]
theorem okM.in {x : Int} (h : okM x) : inR (-1000000000000000) 1000000000000000 x = true := inR_yes h.1 h.2
theorem itoa_no {c : UInt8} (h1 : c ≠ 45) (h2 : dig c = false) (n : Int) : c ∉ Lib.itoa n := fun h => by
  rcases itoa_mem h with e | e
  · exact h1 e
  · rw [h2] at e; cases e
theorem txt_no {c : UInt8} (h0 : c ≠ 44) (h1 : c ≠ 45) (h2 : dig c = false) (xs : List Int) : c ∉ txt [44] xs := fun h => by
  rcases txt_mem h with e | e | e
  · exact h0 e
  · exact h1 e
  · rw [h2] at e; cases e
theorem decs_of : ∀ (xs : List Int), (∀ x ∈ xs, okM x) → decs (xs.map Lib.itoa) = some xs
  | [], _ => rfl
  | x :: xs, h => by
    rw [List.map_cons, decs, decOf_itoa (h x (by simp)).in, decs_of xs fun y hy => h y (List.mem_cons_of_mem _ hy)]
theorem txt_cut (xs : List Int) (h1 : 1 ≤ xs.length) : cutA 44 [] (txt [44] xs) = xs.map Lib.itoa := by
  refine cutA_join 44 _ (by intro e; have := congrArg List.length e; simp at this; rw [this] at h1; simp at h1) fun x hx => ?_
  obtain ⟨y, _, rfl⟩ := List.mem_map.1 hx
  exact itoa_no (by decide) (by decide) y
theorem listOf_own (xs : List Int) (h1 : 1 ≤ xs.length) (h2 : xs.length ≤ 64) (hb : ∀ x ∈ xs, okM x) : listOf (txt [44] xs) = some xs := by
  have c := txt_cut xs h1
  unfold listOf
  rw [if_neg, c, if_pos (by rw [List.length_map]; exact h2), decs_of xs hb]
  intro e
  have : (110 : UInt8) ∈ txt [44] xs := by rw [e]; decide
  exact txt_no (by decide) (by decide) (by decide) xs this
theorem scaleOf_own {bs rs : List Int} (hs : scaleB bs rs = true) (a1 : 1 ≤ bs.length) (a2 : bs.length ≤ 64) (b1 : 1 ≤ rs.length) (b2 : rs.length ≤ 64) (ha : ∀ x ∈ bs, okM x) (hb : ∀ x ∈ rs, okM x) : scaleOf (txt [44] bs ++ 59 :: txt [44] rs) = some (bs, rs) := by
  unfold scaleOf
  rw [cutA_at 59 _ [] _ (txt_no (by decide) (by decide) (by decide) bs), cutA_no 59 _ [] (txt_no (by decide) (by decide) (by decide) rs)]
  simp only [List.nil_append, listOf_own bs a1 a2 ha, listOf_own rs b1 b2 hb]
  rw [if_pos hs]
theorem hexC_no : ∀ d, d < 16 → hexC d ≠ 32 ∧ hexC d ≠ 10 ∧ hexC d ≠ 44 := by decide
theorem hexT_no (n : Nat) : ∀ k, (32 : UInt8) ∉ hexT n k ∧ (10 : UInt8) ∉ hexT n k
  | 0 => by simp [hexT]
  | k + 1 => by
    obtain ⟨h1, h2⟩ := hexT_no n k
    obtain ⟨c1, c2, _⟩ := hexC_no _ (Nat.mod_lt (n / 16 ^ k) (show 0 < 16 by decide))
    constructor <;> intro h <;> rcases List.mem_cons.1 h with e | e
    · exact c1 e.symm
    · exact h1 e
    · exact c2 e.symm
    · exact h2 e
theorem join_mem {c s : UInt8} : ∀ {xs : List (List UInt8)}, c ∈ Lib.join xs [s] → c = s ∨ ∃ x ∈ xs, c ∈ x
  | [], h => by rw [Lib.join_nil] at h; cases h
  | [x], h => by rw [Lib.join_one] at h; exact .inr ⟨x, by simp, h⟩
  | x :: y :: r, h => by
    have e : Lib.join (x :: y :: r) [s] = x ++ s :: Lib.join (y :: r) [s] := by
      rw [Lib.join_cons, Lib.join_cons]
      simp [Lib.joinTail]
    rw [e] at h
    rcases List.mem_append.1 h with h | h
    · exact .inr ⟨x, by simp, h⟩
    · rcases List.mem_cons.1 h with h | h
      · exact .inl h
      · rcases join_mem h with h | ⟨z, h1, h2⟩
        · exact .inl h
        · exact .inr ⟨z, List.mem_cons_of_mem _ h1, h2⟩
theorem wds_no (xs : List Nat) (h : 1 ≤ xs.length) : (32 : UInt8) ∉ wdsT (hexW xs) ∧ (10 : UInt8) ∉ wdsT (hexW xs) := by
  have e : hexW xs ≠ [] := by intro e; have := congrArg List.length e; rw [hexW_len] at this; simp at this; rw [this] at h; simp at h
  unfold wdsT
  rw [if_neg e]
  constructor <;> intro h <;> rcases join_mem h with h | ⟨z, h1, h2⟩
  · revert h; decide
  · obtain ⟨y, _, rfl⟩ := List.mem_map.1 h1; exact (hexT_no y 8).1 h2
  · revert h; decide
  · obtain ⟨y, _, rfl⟩ := List.mem_map.1 h1; exact (hexT_no y 8).2 h2
set_option maxHeartbeats 4000000
structure Dok (bs rs ps ra : List Int) (q : List Nat) : Prop where
  scl : Scl bs rs
  pys : Pys ps
  rts : Rts ra
  tab : Tbl q
  okw : ∀ x ∈ q, okW x
  val : validD bs rs ps ra q = true
def dskB (bs rs ps ra : List Int) (q : List Nat) : Blk := { ty := 29, w := 5, els := [deskV bs rs ps ra q] }
def lwB (ws : List (List UInt8)) (bad : Bool) : Blk := { ty := 110, w := 2, els := [.agg [.ro (strs ws), .bool bad]] }
section
variable {bs rs ps ra : List Int} {q : List Nat}
theorem Dok.b1 (D : Dok bs rs ps ra q) : 1 ≤ bs.length ∧ bs.length ≤ 8 ∧ rs.length = bs.length := by
  obtain ⟨tl, h1, h2⟩ := D.scl.split
  have := D.scl.cap
  have := D.scl.len
  rw [h1] at this ⊢
  refine ⟨by simp, by rw [← h1]; exact D.scl.cap, this⟩
theorem Dok.bm (D : Dok bs rs ps ra q) : ∀ x ∈ bs, okM x := fun x hx => by have := D.scl.top x hx; exact ⟨by omega, by omega⟩
theorem Dok.rm (D : Dok bs rs ps ra q) : ∀ x ∈ rs, okM x := fun x hx => by have := D.scl.rate x hx; exact ⟨by omega, by omega⟩
theorem Dok.pm (D : Dok bs rs ps ra q) : ∀ x ∈ ps, okM x := fun x hx => by have := D.pys.low x hx; exact ⟨by omega, by omega⟩
theorem Dok.am (D : Dok bs rs ps ra q) : ∀ x ∈ ra, okM x := fun x hx => by have := D.rts.low x hx; exact ⟨by omega, by omega⟩
theorem okM.i {x : Int} (h : okM x) : okI x := ⟨by have := h.1; omega, by have := h.2; omega⟩
def scT (bs rs : List Int) : List UInt8 := txt [44] bs ++ 59 :: txt [44] rs
theorem scaleText_ok (D : Dok bs rs ps ra q) : CallA Tryz.prog 13 [.agg [.ro (ints bs), .ro (ints rs)]] [] (Ret (.tup [.str (scT bs rs), .bool true]) []) := by
  obtain ⟨h1, h2, h3⟩ := D.b1
  have := implScaleText_call bs rs (by omega) (by omega) (fun x hx => (D.bm x hx).i) (fun x hx => (D.rm x hx).i)
  rw [if_pos D.scl.ok] at this
  exact this
theorem readScale_ok (D : Dok bs rs ps ra q) : CallA Tryz.prog 14 [.str (scT bs rs)] [] (Ret (.tup [.agg [.ro (ints bs), .ro (ints rs)], .bool true]) []) := by
  obtain ⟨h1, h2, h3⟩ := D.b1
  have t1 := txt_len (sep := [44]) (by decide) bs fun x hx => (D.bm x hx).i
  have t2 := txt_len (sep := [44]) (by decide) rs fun x hx => (D.rm x hx).i
  have := implReadScale_call (scT bs rs) (by unfold scT; simp only [List.length_append, List.length_cons]; omega)
  rw [show scaleOf (scT bs rs) = some (bs, rs) from scaleOf_own D.scl.ok h1 (by omega) (by omega) (by omega) D.bm D.rm] at this
  refine CallA.frozen 4 this ?_
  simp only [scaleA, scaleH, view_tup, view_agg, List.map_cons, List.map_nil, view_bool, view_in (hp := [intB bs, intB rs]) (i := 0) rfl rfl, view_in (hp := [intB bs, intB rs]) (i := 1) rfl rfl]
theorem readList_ok {xs : List Int} (h1 : 1 ≤ xs.length) (h2 : xs.length ≤ 64) (hb : ∀ x ∈ xs, okM x) : CallA Tryz.prog 40 [.str (txt [44] xs)] [] (Ret (.tup [.ro (ints xs), .bool true]) []) := by
  have t1 := txt_len (sep := [44]) (by decide) xs fun x hx => (hb x hx).i
  have := readListA_call (txt [44] xs) (by omega)
  rw [listOf_own xs h1 h2 hb] at this
  refine CallA.frozen 3 this ?_
  simp only [listA, listH, view_tup, List.map_cons, List.map_nil, view_bool, view_in (hp := [intB xs]) (i := 0) rfl rfl]
theorem readNumbers_ok {xs : List Nat} (hl : xs.length ≤ 256) (ok : ∀ x ∈ xs, okW x) : CallA Tryz.prog 16 [.str (wdsT (hexW xs))] [] (Ret (.tup [.ro (flts xs), .bool true]) []) := by
  refine CallA.frozen 3 (readNumbers_call xs hl ok) ?_
  simp only [view_tup, List.map_cons, List.map_nil, view_bool, view_fl (hp := [fltB xs]) (i := 0) rfl rfl]
theorem number_call (ws : List (List UInt8)) (i : Nat) (n : Int) (hi : i < ws.length) (hw : ws[i] = Lib.itoa n) (hn : okM n) (bad : Bool) : CallA Tryz.prog 93 [.ptr 0 0 0, .int .i64 (i : Int)] [lwB ws bad] (Ret (.int .i64 n) [lwB ws bad]) := by
  have l := itoa_17 hn.in
  have rd := readDecimal_call (Lib.itoa n) (by omega)
  rw [decOf_itoa hn.in] at rd
  have rd : CallA Tryz.prog 75 [.str (Lib.itoa n)] [] (Ret (.tup [.int .i64 n, .bool true]) []) := rd
  have hI : (i : Int) < (ws.length : Int) := by omega
  have z : (i : Int) ≥ 0 := by omega
  refine CallP.out (t := .mk) (go_in (md := md93) mixed Tryz.func93 rfl go93 (by kernel_rfl) ?_)
  simp only [Zu, Za, Zb, Zg, Zh, Zi, Zk, Zl, Zm, Zn, ↓reduceIte, reduceCtorEq, Zd, Ze, Zc, Zf, Z93, lwB, strs_len, strs_get, hi, hI]
  rw [hw]
  refine call_ret rd rfl rfl ?_
  cases bad
  · simp only [Zu, Za, Zb, Zg, Zh, Zi, Zk, Zl, Zm, Zn, ↓reduceIte, reduceCtorEq, Zd, Ze, Zc, Zf, Z93, lwB, strs_len, strs_get, hi, hI]
    first | exact PostR.same ⟨rfl, rfl⟩ | skip
  · simp only [Zu, Za, Zb, Zg, Zh, Zi, Zk, Zl, Zm, Zn, ↓reduceIte, reduceCtorEq, Zd, Ze, Zc, Zf, Z93, lwB, strs_len, strs_get, hi, hI]
    first | exact PostR.same ⟨rfl, rfl⟩ | skip
theorem number1_call (w v : List UInt8) (l : List (List UInt8)) (n : Int) (hw : v = Lib.itoa n) (hn : okM n) (bad : Bool) : CallA Tryz.prog 93 [.ptr 0 0 0, .int .i64 1] [lwB (w :: v :: l) bad] (Ret (.int .i64 n) [lwB (w :: v :: l) bad]) :=
  number_call (w :: v :: l) 1 n (by simp) hw hn bad
theorem number2_call (w v u : List UInt8) (l : List (List UInt8)) (n : Int) (hw : u = Lib.itoa n) (hn : okM n) (bad : Bool) : CallA Tryz.prog 93 [.ptr 0 0 0, .int .i64 2] [lwB (w :: v :: u :: l) bad] (Ret (.int .i64 n) [lwB (w :: v :: u :: l) bad]) :=
  number_call (w :: v :: u :: l) 2 n (by simp) hw hn bad
theorem strs2_below (ws : List (List UInt8)) (bad : Bool) : allBelow 0 (lwB ws bad).els = true := by
  simp [lwB, allBelow, below, belowM, belowL, strs]
theorem number1_at (A : Blk) (w v : List UInt8) (l : List (List UInt8)) (n : Int) (hw : v = Lib.itoa n) (hn : okM n) (bad : Bool) : CallA Tryz.prog 93 [.ptr 1 0 0, .int .i64 1] [A, lwB (w :: v :: l) bad] (Ret (.int .i64 n) [A, lwB (w :: v :: l) bad]) :=
  CallA.handed (args := [.ptr 1 0 0, .int .i64 1]) (hp := [A, lwB (w :: v :: l) bad]) (hps := [lwB (w :: v :: l) bad]) [1] (by decide) ⟨⟨rfl, rfl⟩, trivial⟩ rfl rfl (number1_call w v l n hw hn bad) rfl rfl (by intro q hq; simp at hq; subst hq; exact strs2_below _ _) ⟨rfl, rfl⟩
theorem sh_okw (q : List Nat) : ∀ i, okW (shF q i)
  | 0 => by show okW one32; exact ⟨by decide, fun h => by revert h; decide +kernel⟩
  | i + 1 => ok_mul _ _
theorem alv_okw (q : List Nat) : ∀ x ∈ alvL q, okW x := by
  intro x hx
  obtain ⟨i, _, rfl⟩ := List.mem_map.1 hx
  exact sh_okw q i
theorem trimF_call (S : Scl bs rs) : CallA Tryz.prog 86 [.agg [.ro (ints bs), .ro (ints rs)]] [] (Ret (.tup [.agg [.ro (ints (trB bs rs)), .ro (ints (trR bs rs))], .bool true]) []) := by
  refine CallA.frozen 4 (trimScale_call S) ?_
  simp only [view_tup, view_agg, List.map_cons, List.map_nil, view_bool, view_in (hp := [intB (trB bs rs), intB (trR bs rs)]) (i := 0) rfl rfl, view_in (hp := [intB (trB bs rs), intB (trR bs rs)]) (i := 1) rfl rfl]
end
end Go.Proofs.YtodjjpmigcacoaaGreatDoor
