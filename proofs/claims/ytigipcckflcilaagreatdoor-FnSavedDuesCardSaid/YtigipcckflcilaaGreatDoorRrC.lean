/- Texts of rules that are read: the plain law of many, and the program's ReadRules. -/
import Derived.Test.YtigipcckflcilaaGreatDoorRrB
set_option maxRecDepth 10000
set_option maxHeartbeats 4000000
set_option linter.unusedSimpArgs false
set_option linter.unusedVariables false
namespace Go.Proofs.YtigipcckflcilaaGreatDoor
open Go Go.Abs

def seqs {α : Type} (f : List UInt8 → Option α) : List (List UInt8) → Option (List α)
  | [] => some []
  | p :: P => match f p, seqs f P with
    | some x, some xs => some (x :: xs)
    | _, _ => none
section
variable {α : Type} {f : List UInt8 → Option α}
theorem seqs_cons {p : List UInt8} {P : List (List UInt8)} {xs : List α} (h : seqs f (p :: P) = some xs) : ∃ x ys, xs = x :: ys ∧ f p = some x ∧ seqs f P = some ys := by
  unfold seqs at h
  split at h
  · rename_i x ys h1 h2
    exact ⟨x, ys, (Option.some.inj h).symm, h1, h2⟩
  · cases h
theorem seqs_len : ∀ {P : List (List UInt8)} {xs : List α}, seqs f P = some xs → xs.length = P.length
  | [], xs, h => by cases h; rfl
  | p :: P, xs, h => by
    obtain ⟨x, ys, rfl, h1, h2⟩ := seqs_cons h
    simp [seqs_len h2]
theorem seqs_snoc : ∀ {P : List (List UInt8)} {xs : List α} {p : List UInt8} {x : α}, seqs f P = some xs → f p = some x → seqs f (P ++ [p]) = some (xs ++ [x])
  | [], xs, p, x, h, hx => by
    cases h
    show (match f p, seqs f [] with | some x, some xs => some (x :: xs) | _, _ => none) = _
    rw [hx]; rfl
  | q :: P, xs, p, x, h, hx => by
    obtain ⟨y, ys, rfl, h1, h2⟩ := seqs_cons h
    rw [List.cons_append]
    show (match f q, seqs f (P ++ [p]) with | some x, some xs => some (x :: xs) | _, _ => none) = _
    rw [h1, seqs_snoc h2 hx]; rfl
theorem seqs_bad : ∀ {P : List (List UInt8)} {i : Nat} (hi : i < P.length), f P[i] = none → seqs f P = none
  | p :: P, 0, _, h => by
    have h : f p = none := h
    show (match f p, seqs f P with | some x, some xs => some (x :: xs) | _, _ => none) = _
    rw [h]
  | p :: P, i + 1, hi, h => by
    have := seqs_bad (P := P) (i := i) (by simpa using hi) h
    show (match f p, seqs f P with | some x, some xs => some (x :: xs) | _, _ => none) = _
    rw [this]
    cases f p <;> rfl
theorem seqs_all {g : α → List UInt8} : ∀ (R : List α), (∀ r ∈ R, f (g r) = some r) → seqs f (R.map g) = some R
  | [], _ => rfl
  | r :: R, h => by
    show (match f (g r), seqs f (R.map g) with | some x, some xs => some (x :: xs) | _, _ => none) = _
    rw [h r List.mem_cons_self, seqs_all R fun x hx => h x (List.mem_cons_of_mem _ hx)]
theorem seqs_spec {g : α → List UInt8} {p : α → Prop} (hf : ∀ s x, f s = some x → g x = s ∧ p x) : ∀ {P : List (List UInt8)} {xs : List α}, seqs f P = some xs → xs.map g = P ∧ ∀ x ∈ xs, p x
  | [], xs, h => by cases h; exact ⟨rfl, by simp⟩
  | q :: P, xs, h => by
    obtain ⟨x, ys, rfl, h1, h2⟩ := seqs_cons h
    obtain ⟨h3, h4⟩ := seqs_spec hf h2
    obtain ⟨h6, h7⟩ := hf _ _ h1
    refine ⟨by rw [List.map_cons, h3, h6], fun y hy => ?_⟩
    rcases List.mem_cons.1 hy with rfl | m
    · exact h7
    · exact h4 y m
end
def rulsOf (P : List (List UInt8)) : Option (List Rul) := seqs ruleOf P
theorem rulsOf_map {P : List (List UInt8)} {xs : List Rul} (h : rulsOf P = some xs) : xs.map ruleT = P ∧ ∀ x ∈ xs, ruleB x = true :=
  seqs_spec (p := fun r => ruleB r = true) (fun s x hx => ⟨(ruleOf_some hx).2, (ruleOf_some hx).1⟩) h
theorem rulsOf_len {P : List (List UInt8)} {xs : List Rul} (h : rulsOf P = some xs) : xs.length = P.length := seqs_len h
theorem rulsOf_snoc {P : List (List UInt8)} {xs : List Rul} {p : List UInt8} {x : Rul} (h : rulsOf P = some xs) (hx : ruleOf p = some x) : rulsOf (P ++ [p]) = some (xs ++ [x]) := seqs_snoc h hx
theorem rulsOf_bad {P : List (List UInt8)} {i : Nat} (hi : i < P.length) (h : ruleOf P[i] = none) : rulsOf P = none := seqs_bad hi h
theorem rulsOf_all (R : List Rul) (h : ∀ r ∈ R, ruleB r = true) : rulsOf (R.map ruleT) = some R := seqs_all R fun r hr => ruleOf_ruleT (h r hr)
theorem ruleT_no10 (r : Rul) : (10 : UInt8) ∉ ruleT r := by
  have no : ∀ n : Int, (10 : UInt8) ∉ Lib.itoa n := fun n => itoa_no (by decide) (by decide)
  have n4 : (10 : UInt8) ∉ ifsT r.2.1 := by
    intro m
    unfold ifsT at m
    split at m
    · cases m
    · rcases List.mem_append.1 m with m | m
      · unfold txt at m
        rcases join_mem m with m | ⟨p, hp, m⟩
        · revert m; decide
        · obtain ⟨n, _, rfl⟩ := List.mem_map.1 hp
          exact no _ m
      · revert m; decide
  unfold ruleT
  intro m
  simp only [List.mem_append] at m
  rcases m with ((((((((m | m) | m) | m) | m) | m) | m) | m) | m)
  · exact no _ m
  · revert m; decide
  · exact no _ m
  · revert m; decide
  · exact no _ m
  · revert m; decide
  · exact n4 m
  · revert m; decide
  · exact no _ m
theorem words_lines : ∀ R : List Rul, words [10] (rulesT R) = R.map ruleT ++ [[]]
  | [] => words_no 10 [] [] (by simp)
  | r :: R => by
    show words [10] (rulesT (r :: R)) = _
    have e : rulesT (r :: R) = ruleT r ++ (10 :: []) ++ rulesT R := rfl
    rw [e, words_at 10 [] _ _ (ruleT_no10 r), words_lines R]
    rfl
def rulesOf (s : List UInt8) : Option (List Rul) :=
  match rulsOf ((words [10] s).take ((words [10] s).length - 1)) with
  | some R => if rulesB R = true ∧ rulesT R = s then some R else none
  | none => none
theorem rulesB_all {R : List Rul} (h : rulesB R = true) : ∀ r ∈ R, ruleB r = true := by
  unfold rulesB at h
  simp only [Bool.and_eq_true, List.all_eq_true] at h
  exact h.1
theorem rulesOf_iff {s : List UInt8} {R : List Rul} : rulesOf s = some R ↔ rulesB R = true ∧ rulesT R = s := by
  constructor
  · intro h
    unfold rulesOf at h
    split at h
    · split at h
      · rename_i hc; cases h; exact hc
      · cases h
    · cases h
  · rintro ⟨h1, rfl⟩
    unfold rulesOf
    have et : (R.map ruleT ++ [[]]).take ((R.map ruleT ++ [[]]).length - 1) = R.map ruleT := by simp
    rw [words_lines, et, rulsOf_all R (rulesB_all h1)]
    simp [h1]
theorem rulesT_le {R : List Rul} (h : ∀ r ∈ R, ruleB r = true) : (rulesT R).length ≤ R.length * 121 := by
  induction R with
  | nil => simp [rulesT]
  | cons r R ih =>
    have h1 := ruleT_200 (h r List.mem_cons_self)
    have h2 := ih fun x hx => h x (List.mem_cons_of_mem _ hx)
    unfold rulesT
    simp only [List.length_append, List.length_cons, List.length_nil]
    omega
theorem rulesB_le {R : List Rul} (h : rulesB R = true) : R.length ≤ 24 := (rulesB_ok h).1
theorem rulesOf_long {s : List UInt8} (h : 4800 < s.length) : rulesOf s = none := by
  cases hr : rulesOf s with
  | none => rfl
  | some R =>
    obtain ⟨h1, h2⟩ := rulesOf_iff.1 hr
    have := rulesT_le (rulesB_all h1)
    have := rulesB_le h1
    rw [h2] at *
    omega
def rulesA (o : Option (List Rul)) : AV := match o with
  | some R => .tup [.sl 0 0 R.length, .bool true]
  | none => .tup [.nils, .bool false]
def rulesH (o : Option (List Rul)) : List Blk := match o with
  | some R => encR 0 R
  | none => []
theorem slV_cases (b n : Nat) : slV b n = .nils ∨ slV b n = .sl b 0 n := by
  unfold slV
  split
  · exact .inl rfl
  · exact .inr rfl
theorem rulV_is {b : Nat} {r : Rul} {a : AV} (h : slV b r.2.1.length = a) : rulV b r = .agg [.int .i64 r.1, a, .int .i64 r.2.2.1, .int .i64 r.2.2.2.1, .int .i64 r.2.2.2.2] := by subst h; rfl
theorem readA_ren (k : Nat) (r : Rul) : ren (fun b => b + k) (readA (some r)) = .tup [rulV k r, .bool true] := by
  show AV.tup (List.map (renM fun b => b + k) _) = _
  simp only [List.map_cons, List.map_nil, rulV_renM, Nat.zero_add]
  rfl
theorem implRulesText_call (R : List Rul) (hm : R.length ≤ 1048576) (hr : ∀ r ∈ R, r.2.1.length ≤ 1048576) : CallA Tryz.prog 17 [.ro (R.map rulA)] [] (Ret (.tup [.str (if rulesB R = true then rulesT R else []), .bool (rulesB R)]) []) := by
  refine CallP.out (t := .mk) (go_in (md := md17) mixed Tryz.func17 rfl go17 (by kernel_rfl) ?_)
  simp only [q0, q1, q2, q3, q4, q5, q6, q7, q8, q9, zr0, zr1, zr2, zr3, zq0, zq1, zq2, zq3, zq4, Nat.reduceAdd, Nat.reduceSub, lenA, convA, indexA, indexS, Int.reduceToNat, cond_true, cond_false, ↓reduceIte, reduceCtorEq, Nat.reduceLT, Nat.reduceLeDiff, Nat.reduceMul, Nat.reduceEqDiff, exists_eq', implies_true, exists_true_left, tys0, tys1, tys2, und0, und1, md17, Tryz.ntmps17, Tryz.results17]
  refine call_ret (areRules_call R hm hr) rfl rfl ?_
  simp only [q0, q1, q2, q3, q4, q5, q6, q7, q8, q9, zr0, zr1, zr2, zr3, zq0, zq1, zq2, zq3, zq4, Nat.reduceAdd, Nat.reduceSub, lenA, convA, indexA, indexS, Int.reduceToNat, cond_true, cond_false, ↓reduceIte, reduceCtorEq, Nat.reduceLT, Nat.reduceLeDiff, Nat.reduceMul, Nat.reduceEqDiff, exists_eq', implies_true, exists_true_left, tys0, tys1, tys2, und0, und1, md17, Tryz.ntmps17, Tryz.results17]
  refine br_intro (fun h => ?_) (fun h => ?_) <;> simp only [q0, q1, q2, q3, q4, q5, q6, q7, q8, q9, zr0, zr1, zr2, zr3, zq0, zq1, zq2, zq3, zq4, Nat.reduceAdd, Nat.reduceSub, lenA, convA, indexA, indexS, Int.reduceToNat, cond_true, cond_false, ↓reduceIte, reduceCtorEq, Nat.reduceLT, Nat.reduceLeDiff, Nat.reduceMul, Nat.reduceEqDiff, exists_eq', implies_true, exists_true_left, tys0, tys1, tys2, und0, und1, md17, Tryz.ntmps17, Tryz.results17]
  · obtain ⟨h1, h2⟩ := rulesB_ok h
    refine call_ret (rulesText_call R h1 h2) rfl rfl ?_
    simp only [q0, q1, q2, q3, q4, q5, q6, q7, q8, q9, zr0, zr1, zr2, zr3, zq0, zq1, zq2, zq3, zq4, Nat.reduceAdd, Nat.reduceSub, lenA, convA, indexA, indexS, Int.reduceToNat, cond_true, cond_false, ↓reduceIte, reduceCtorEq, Nat.reduceLT, Nat.reduceLeDiff, Nat.reduceMul, Nat.reduceEqDiff, exists_eq', implies_true, exists_true_left, tys0, tys1, tys2, und0, und1, md17, Tryz.ntmps17, Tryz.results17]
    rw [h]
    exact PostR.pure ⟨rfl, rfl⟩ rfl
  · rw [h]
    exact PostR.pure ⟨rfl, rfl⟩ rfl
end Go.Proofs.YtigipcckflcilaaGreatDoor
