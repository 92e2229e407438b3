/- Texts of rules; numbers in bytes; the program's side of what is stored. -/
import Derived.Test.YtigipcckflcilaaGreatDoorStH
set_option maxRecDepth 10000
set_option maxHeartbeats 4000000
set_option linter.unusedSimpArgs false
set_option linter.unusedVariables false
namespace Go.Proofs.YtigipcckflcilaaGreatDoor
open Go Go.Abs

def rulesT : List Rul → List UInt8
  | [] => []
  | r :: R => ruleT r ++ [10] ++ rulesT R
theorem rulesT_snoc (r : Rul) : ∀ R, rulesT (R ++ [r]) = rulesT R ++ (ruleT r ++ [10])
  | [] => by simp [rulesT]
  | q :: R => by rw [List.cons_append, rulesT, rulesT_snoc r R, rulesT]; simp only [List.append_assoc]
theorem rulesT_take (R : List Rul) (i : Nat) (h : i < R.length) : rulesT (R.take (i + 1)) = rulesT (R.take i) ++ (ruleT R[i] ++ [10]) := by rw [take_snoc _ _ h, rulesT_snoc]
theorem rulesT_len : ∀ (R : List Rul), (∀ r ∈ R, OkR r) → (rulesT R).length ≤ R.length * 241
  | [], _ => by simp [rulesT]
  | r :: R, h => by
    have h1 := ruleT_len (h r List.mem_cons_self)
    have h2 := rulesT_len R (fun q hq => h q (List.mem_cons_of_mem _ hq))
    rw [rulesT]
    simp only [List.length_append, List.length_cons, List.length_nil]
    omega
theorem inR_of {lo hi n : Int} (h : inR lo hi n = true) (h1 : -9223372036854775807 ≤ lo) (h2 : hi ≤ 9223372036854775807) : okJ n := by
  have := inR_iff.1 h
  unfold okJ; omega
theorem okR_of {r : Rul} (h : ruleB r = true) : OkR r := by
  unfold ruleB at h
  simp only [Bool.and_eq_true, decide_eq_true_eq] at h
  obtain ⟨⟨⟨⟨⟨hw, hn, hi⟩, ha⟩, hb⟩, _⟩, hc⟩ := h
  have wl := wordB_low hw
  refine ⟨by unfold okJ; omega, hn, fun x hx => ?_, inR_of ha (by decide) (by decide), inR_of hb (by decide) (by decide), inR_of hc (by decide) (by decide)⟩
  obtain ⟨j, hj, rfl⟩ := List.getElem_of_mem hx
  have := pref_at hi j hj
  unfold wordP at this
  simp only [Bool.and_eq_true] at this
  rw [getD_at _ _ _ hj] at this
  have := wordB_low this.1
  unfold okJ; omega
theorem rulesB_ok {R : List Rul} (h : rulesB R = true) : R.length ≤ 24 ∧ ∀ r ∈ R, OkR r := by
  unfold rulesB at h
  simp only [Bool.and_eq_true, decide_eq_true_eq, List.all_eq_true] at h
  exact ⟨h.2, fun r hr => okR_of (h.1 r hr)⟩
theorem rulesText_call (R : List Rul) (hm : R.length ≤ 24) (hr : ∀ r ∈ R, OkR r) : CallA Tryz.prog 47 [.ro (R.map rulA)] [] (Ret (.str (rulesT R)) []) := by
  refine CallP.out (t := .mk) (go_in (md := md47) mixed Tryz.func47 rfl go47 (by kernel_rfl) ?_)
  simp only [q0, q1, q2, q3, q4, q5, q6, q7, q8, q9, zr0, zr1, zr2, zr3, zq0, zq1, zq2, zq3, zq4, Nat.reduceAdd, Nat.reduceSub, lenA, convA, indexA, indexS, Int.reduceToNat, cond_true, cond_false, ↓reduceIte, reduceCtorEq, Nat.reduceLT, Nat.reduceLeDiff, Nat.reduceMul, Nat.reduceEqDiff, exists_eq', implies_true, exists_true_left, tys0, tys1, tys2, und0, und1, md47, Tryz.ntmps47, Tryz.results47, List.length_map]
  refine go_round (md := md47) mixed (by kernel_rfl) (fun i : {i : Nat // i ≤ R.length} => ⟨[.any, .any, .any, .str (rulesT (R.take i.1)), .any, .any, .ro (R.map rulA), .int .i64 R.length, .int .i64 i.1, .any, .any, .any, .any, .any, .any, .any, .any, .any, .any], []⟩) (fun i => R.length - i.1) ⟨0, by omega⟩ ?_ ?_
  · exact weak_drop (by simp) (by simp [DropHp, ints_below, flts_below, rulesT]) (by simp [DropTm, DropV, below, belowM, belowL, rulesT])
  rintro ⟨i, hi⟩
  have tl := rulesT_len (R.take i) (fun r h => hr r (List.mem_of_mem_take h))
  have tk : (R.take i).length = i := by rw [List.length_take]; omega
  have nx := fun h : i < R.length => rulesT_take R i h
  generalize hT : rulesT (R.take i) = T at tl nx
  simp only [q0, q1, q2, q3, q4, q5, q6, q7, q8, q9, zr0, zr1, zr2, zr3, zq0, zq1, zq2, zq3, zq4, Nat.reduceAdd, Nat.reduceSub, lenA, convA, indexA, indexS, Int.reduceToNat, cond_true, cond_false, ↓reduceIte, reduceCtorEq, Nat.reduceLT, Nat.reduceLeDiff, Nat.reduceMul, Nat.reduceEqDiff, exists_eq', implies_true, exists_true_left, tys0, tys1, tys2, und0, und1, md47, Tryz.ntmps47, Tryz.results47, List.length_map, List.getElem_map]
  refine br_intro (fun g => ?_) (fun g => ?_) <;> simp only [q0, q1, q2, q3, q4, q5, q6, q7, q8, q9, zr0, zr1, zr2, zr3, zq0, zq1, zq2, zq3, zq4, Nat.reduceAdd, Nat.reduceSub, lenA, convA, indexA, indexS, Int.reduceToNat, cond_true, cond_false, ↓reduceIte, reduceCtorEq, Nat.reduceLT, Nat.reduceLeDiff, Nat.reduceMul, Nat.reduceEqDiff, exists_eq', implies_true, exists_true_left, tys0, tys1, tys2, und0, und1, md47, Tryz.ntmps47, Tryz.results47, List.length_map, List.getElem_map]
  · have hi' : i < R.length := by have := of_decide_eq_true g; omega
    have hI : (i : Int) < (R.length : Int) := by omega
    have nx := nx hi'
    have ok := hr _ (List.getElem_mem hi')
    have rl := ruleT_len ok
    have lt := ruleText_call R[i] ok
    unfold rulA at lt
    have w1 : IntKind.i64.wrap ((i : Int) + 1) = ((i + 1 : Nat) : Int) := by rw [w64 (by omega) (by omega)]; omega
    simp only [q0, q1, q2, q3, q4, q5, q6, q7, q8, q9, zr0, zr1, zr2, zr3, zq0, zq1, zq2, zq3, zq4, Nat.reduceAdd, Nat.reduceSub, lenA, convA, indexA, indexS, Int.reduceToNat, cond_true, cond_false, ↓reduceIte, reduceCtorEq, Nat.reduceLT, Nat.reduceLeDiff, Nat.reduceMul, Nat.reduceEqDiff, exists_eq', implies_true, exists_true_left, tys0, tys1, tys2, und0, und1, md47, Tryz.ntmps47, Tryz.results47, List.length_map, List.getElem_map, rulA, hi', hI]
    refine call_ret lt rfl rfl ?_
    simp only [q0, q1, q2, q3, q4, q5, q6, q7, q8, q9, zr0, zr1, zr2, zr3, zq0, zq1, zq2, zq3, zq4, Nat.reduceAdd, Nat.reduceSub, lenA, convA, indexA, indexS, Int.reduceToNat, cond_true, cond_false, ↓reduceIte, reduceCtorEq, Nat.reduceLT, Nat.reduceLeDiff, Nat.reduceMul, Nat.reduceEqDiff, exists_eq', implies_true, exists_true_left, tys0, tys1, tys2, und0, und1, md47, Tryz.ntmps47, Tryz.results47, w1]
    refine ⟨by first | omega | (simp only [List.length_append, List.length_cons, List.length_nil, List.length_map, List.length_take]; omega), by first | omega | (simp only [List.length_append, List.length_cons, List.length_nil, List.length_map, List.length_take]; omega), ⟨i + 1, by omega⟩, by show R.length - (i + 1) < _; omega, ?_⟩
    show Weak 0 _ ⟨_, _⟩
    rw [nx]
    exact weak_drop (by simp) (by simp [DropHp, ints_below, flts_below]) (by simp [DropTm, DropV, below, belowM, belowL])
  · have hi' : i = R.length := by have := of_decide_eq_false g; omega
    rw [show rulesT R = T from by rw [← hT, hi', List.take_length]]
    exact PostR.pure ⟨rfl, rfl⟩ rfl

def le (n : Nat) : Nat → List UInt8
  | 0 => []
  | c + 1 => le n c ++ [UInt8.ofNat (n / 256 ^ c % 256)]
theorem le_len (n : Nat) : ∀ c, (le n c).length = c
  | 0 => rfl
  | c + 1 => by rw [le, List.length_append, le_len n c]; rfl
theorem and255 {a : Int} (h0 : 0 ≤ a) (h1 : a ≤ 9223372036854775807) : ((BitVec.ofInt 64 a &&& BitVec.ofInt 64 255).toNat : Int) = a % 256 := by
  obtain ⟨n, rfl⟩ := Int.eq_ofNat_of_zero_le h0
  have e : (BitVec.ofInt 64 (n : Int)).toNat = n := by
    rw [BitVec.toNat_ofInt]
    rw [Int.emod_eq_of_lt (by omega) (by have : ((2 ^ 64 : Nat) : Int) = 18446744073709551616 := by decide
                                         omega)]
    rfl
  rw [BitVec.toNat_and, e]
  have e2 : (BitVec.ofInt 64 255).toNat = 2 ^ 8 - 1 := by decide
  rw [e2, Nat.and_two_pow_sub_one_eq_mod]
  omega
theorem byteA {k : Nat} (h : k < 256) : AV.int .u8 (k : Int) = AV.int .u8 ((UInt8.ofNat k).toNat : Int) := by
  congr 1
  rw [UInt8.toNat_ofNat']
  omega
theorem bytesOf_call (n c : Nat) (hn : n ≤ 4294967295) (hc : c ≤ 4) : CallA Tryz.prog 72 [.int .i64 n, .int .i64 c] [] (Ret (.str (le n c)) []) := by
  refine CallP.out (t := .mk) (go_in (md := md72) mixed Tryz.func72 rfl go72 (by kernel_rfl) ?_)
  simp only [q0, q1, q2, q3, q4, q5, q6, q7, q8, q9, zr0, zr1, zr2, zr3, zq0, zq1, zq2, zq3, zq4, Nat.reduceAdd, Nat.reduceSub, lenA, convA, indexA, indexS, Int.reduceToNat, cond_true, cond_false, ↓reduceIte, reduceCtorEq, Nat.reduceLT, Nat.reduceLeDiff, Nat.reduceMul, Nat.reduceEqDiff, exists_eq', implies_true, exists_true_left, tys0, tys1, tys2, und0, und1, md72, Tryz.ntmps72, Tryz.results72]
  refine go_round (md := md72) mixed (by kernel_rfl) (fun i : {i : Nat // i ≤ c} => ⟨[.int .i64 ((n / 256 ^ i.1 : Nat) : Int), .any, .any, .any, .any, .sl 0 0 i.1, .any, .int .i64 c, .int .i64 i.1, .any, .any, .any, .any, .any, .any, .any, .any, .any, .any, .any, .any], [bytB (le n i.1)]⟩) (fun i => c - i.1) ⟨0, by omega⟩ ?_ ?_
  · exact weak_drop (by simp) (by simp [DropHp, ints_below, flts_below, bytB, le, byts, allBelow_cons, allBelow_nil, below, belowM, belowL, Nat.pow_zero, Nat.div_one]) (by simp [DropTm, DropV, below, belowM, belowL, bytB, le, byts, allBelow_cons, allBelow_nil, below, belowM, belowL, Nat.pow_zero, Nat.div_one])
  rintro ⟨i, hi⟩
  have ll := le_len n i
  have bl := byts_len (le n i)
  have nx : le n (i + 1) = le n i ++ [UInt8.ofNat (n / 256 ^ i % 256)] := rfl
  have dv : n / 256 ^ i / 256 = n / 256 ^ (i + 1) := by rw [Nat.div_div_eq_div_mul, Nat.pow_succ]
  have mle : n / 256 ^ i ≤ n := Nat.div_le_self _ _
  generalize n / 256 ^ i = m at nx dv mle
  generalize hT : le n i = T at ll bl nx
  simp only [q0, q1, q2, q3, q4, q5, q6, q7, q8, q9, zr0, zr1, zr2, zr3, zq0, zq1, zq2, zq3, zq4, Nat.reduceAdd, Nat.reduceSub, lenA, convA, indexA, indexS, Int.reduceToNat, cond_true, cond_false, ↓reduceIte, reduceCtorEq, Nat.reduceLT, Nat.reduceLeDiff, Nat.reduceMul, Nat.reduceEqDiff, exists_eq', implies_true, exists_true_left, tys0, tys1, tys2, und0, und1, md72, Tryz.ntmps72, Tryz.results72, bytB]
  refine br_intro (fun g => ?_) (fun g => ?_) <;> simp only [q0, q1, q2, q3, q4, q5, q6, q7, q8, q9, zr0, zr1, zr2, zr3, zq0, zq1, zq2, zq3, zq4, Nat.reduceAdd, Nat.reduceSub, lenA, convA, indexA, indexS, Int.reduceToNat, cond_true, cond_false, ↓reduceIte, reduceCtorEq, Nat.reduceLT, Nat.reduceLeDiff, Nat.reduceMul, Nat.reduceEqDiff, exists_eq', implies_true, exists_true_left, tys0, tys1, tys2, und0, und1, md72, Tryz.ntmps72, Tryz.results72, bytB]
  · have hi' : i < c := by have := of_decide_eq_true g; omega
    have w1 : IntKind.i64.wrap ((i : Int) + 1) = ((i + 1 : Nat) : Int) := by rw [w64 (by omega) (by omega)]; omega
    have w2 : IntKind.u8.wrap (IntKind.i64.wrap ((BitVec.ofInt IntKind.i64.bits (m : Int) &&& BitVec.ofInt IntKind.i64.bits 255).toNat : Int)) = ((m % 256 : Nat) : Int) := by
      have := and255 (a := (m : Int)) (by omega) (by omega)
      change ((BitVec.ofInt IntKind.i64.bits (m : Int) &&& BitVec.ofInt IntKind.i64.bits 255).toNat : Int) = (m : Int) % 256 at this
      rw [this, w64 (by omega) (by omega), w8 (by omega) (by omega)]
      omega
    have w3 : (m : Int).fdiv (2 ^ min (8 : Nat) IntKind.i64.bits) = ((n / 256 ^ (i + 1) : Nat) : Int) := by
      rw [← dv, show (2 : Int) ^ min (8 : Nat) IntKind.i64.bits = 256 from by decide, Int.fdiv_eq_ediv_of_nonneg _ (by decide)]
      omega
    refine ⟨by omega, fun a ha => by rw [List.mem_singleton.1 ha]; exact ⟨rfl, rfl⟩, by unfold fits; omega, by decide, ⟨i + 1, by omega⟩, by show c - (i + 1) < _; omega, ?_⟩
    show Weak 0 _ ⟨_, _⟩
    rw [w2, w3, byteA (Nat.mod_lt m (by decide)), show [AV.int .u8 ((UInt8.ofNat (m % 256)).toNat : Int)] = byts [UInt8.ofNat (m % 256)] from rfl, ← byts_app, ← nx, byts_kill]
    exact weak_drop (by simp) (by simp [DropHp, ints_below, flts_below, w1, bytB, byts_below, allBelow_cons, allBelow_nil, below, belowM, belowL]) (by simp [DropTm, DropV, below, belowM, belowL, w1, bytB, byts_below, allBelow_cons, allBelow_nil, below, belowM, belowL])
  · have hi' : i = c := by have := of_decide_eq_false g; omega
    subst hi'
    exact ⟨⟨5, rfl, Tryz.underlying5⟩, T, by rw [← ll]; exact take_byts T, ll, PostR.pure ⟨by rw [hT], rfl⟩ rfl⟩
end Go.Proofs.YtigipcckflcilaaGreatDoor
