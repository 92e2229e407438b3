/- Texts of rules that are read: the plain law of the reference's reading. -/
import Derived.Test.YtigipcckflcilaaGreatDoorRrC
set_option maxRecDepth 10000
set_option maxHeartbeats 2000000
set_option linter.unusedSimpArgs false
set_option linter.unusedVariables false
namespace Go.Proofs.YtigipcckflcilaaGreatDoor
open Go Go.Abs

def sgn (t : List UInt8) : Nat := if t.head? = some 45 then 1 else 0
def dgs (t : List UInt8) : List UInt8 := ((t.drop (sgn t)).take 6).takeWhile dig
def digR (t : List UInt8) : Int × Nat × Bool := (if t.head? = some 45 then -valD (dgs t) else valD (dgs t), sgn t + (dgs t).length, !(dgs t).isEmpty)
theorem takeW_all {p : UInt8 → Bool} : ∀ (l r : List UInt8), (∀ c ∈ l, p c = true) → (l ++ r).takeWhile p = l ++ r.takeWhile p
  | [], r, _ => rfl
  | c :: l, r, h => by
    rw [List.cons_append, List.takeWhile_cons, if_pos (h c List.mem_cons_self), takeW_all l r fun x hx => h x (List.mem_cons_of_mem _ hx)]
    rfl
theorem takeW_no {p : UInt8 → Bool} (r : List UInt8) (h : ∀ c, r.head? = some c → p c = false) (j : Nat) : (r.take j).takeWhile p = [] := by
  cases r with
  | nil => simp
  | cons c r =>
    cases j with
    | zero => rfl
    | succ j => rw [List.take_succ_cons, List.takeWhile_cons, if_neg (by rw [h c rfl]; decide)]
theorem six_digits (D rest : List UInt8) (h1 : D.length ≤ 6) (h2 : ∀ c ∈ D, dig c = true) (hr : ∀ c, rest.head? = some c → dig c = false) : ((D ++ rest).take 6).takeWhile dig = D := by
  rw [List.take_append, List.take_of_length_le h1, takeW_all D _ h2, takeW_no rest hr, List.append_nil]
theorem digR_itoa {n : Int} (h0 : -999999 ≤ n) (h1 : n ≤ 999999) (rest : List UInt8) (hr : ∀ c, rest.head? = some c → dig c = false) : digR (Lib.itoa n ++ rest) = (n, (Lib.itoa n).length, true) := by
  have hl := dec_len 5 n.natAbs (by have : (10 : Nat) ^ (5 + 1) = 1000000 := by decide
                                    omega)
  have hd := dec_digits (n.natAbs + 1) n.natAbs (by omega)
  have hv := valD_dec (n.natAbs + 1) n.natAbs (by omega)
  have hn := dec_ne n.natAbs
  have hh := dec_head n.natAbs
  have hs := six_digits _ rest hl hd hr
  rw [itoa_abs]
  generalize Lib.decDigits n.natAbs = D at *
  have he : D.isEmpty = false := by simpa using hn
  split
  · have e : dgs ((45 :: D) ++ rest) = D := hs
    unfold digR
    rw [e, he]
    simp [sgn, hv]
    omega
  · have hh' : ¬ (D ++ rest).head? = some 45 := by
      cases D with
      | nil => exact absurd rfl hn
      | cons c D => simpa using hh
    have e : dgs (D ++ rest) = D := by
      unfold dgs sgn
      rw [if_neg hh']
      exact hs
    unfold digR
    rw [e, he, if_neg hh', hv]
    unfold sgn
    rw [if_neg hh']
    simp
    omega
def pre (p t : List UInt8) : Bool := p.isPrefixOf t
theorem pre_app (p r : List UInt8) : pre p (p ++ r) = true := by
  unfold pre
  rw [List.isPrefixOf_iff_prefix]
  exact List.prefix_append p r
def ifsS : Nat → List UInt8 → List Int → Option (List Int × List UInt8)
  | 0, _, _ => none
  | n + 1, t, xs =>
    if pre [61, 62, 32] t = true then some (xs, t)
    else if (digR t).2.2 = false ∨ 6 < xs.length then none
    else if pre [32, 38, 32] (t.drop (digR t).2.1) = true then ifsS n ((t.drop (digR t).2.1).drop 3) (xs ++ [(digR t).1])
    else if pre [32] (t.drop (digR t).2.1) = true then ifsS n ((t.drop (digR t).2.1).drop 1) (xs ++ [(digR t).1])
    else none
def step (t p : List UInt8) (k : Int → List UInt8 → Option Rul) : Option Rul :=
  if (digR t).2.2 = false ∨ pre p (t.drop (digR t).2.1) = false then none else k (digR t).1 ((t.drop (digR t).2.1).drop p.length)
theorem step_no {t p : List UInt8} {k : Int → List UInt8 → Option Rul} (h : (digR t).2.2 = false ∨ pre p (t.drop (digR t).2.1) = false) : step t p k = none := if_pos h
theorem step_yes {t p : List UInt8} {k : Int → List UInt8 → Option Rul} (h1 : (digR t).2.2 = true) (h2 : pre p (t.drop (digR t).2.1) = true) : step t p k = k (digR t).1 ((t.drop (digR t).2.1).drop p.length) :=
  if_neg (by rw [h1, h2]; decide)
theorem step_itoa {n : Int} (h0 : -999999 ≤ n) (h1 : n ≤ 999999) (p r : List UInt8) (hp : ∀ c, p.head? = some c → dig c = false) (hn : p ≠ []) (k : Int → List UInt8 → Option Rul) : step (Lib.itoa n ++ (p ++ r)) p k = k n r := by
  have d := digR_itoa h0 h1 (p ++ r) (by
    intro c hc
    cases p with
    | nil => exact absurd rfl hn
    | cons x p => exact hp c hc)
  have e : ((Lib.itoa n ++ (p ++ r)).drop (digR (Lib.itoa n ++ (p ++ r))).2.1) = p ++ r := by rw [d, List.drop_left]
  rw [step_yes (by rw [d]) (by rw [e]; exact pre_app _ _), e, List.drop_left, d]
def last (o : Option (List Int × List UInt8)) (z1 z2 z3 : Int) : Option Rul :=
  match o with
  | none => none
  | some (xs, t4) => if (digR (t4.drop 3)).2.2 = false then none else some ((digR (t4.drop 3)).1, xs, z1, z2, z3)
def readS (s : List UInt8) : Option Rul :=
  step s [45] fun z1 t => step t [32, 114] fun z2 t => step t [58, 32] fun z3 t => last (ifsS 8 t []) z1 z2 z3
theorem digR_le (t : List UInt8) : (digR t).2.1 ≤ t.length := by
  unfold digR dgs
  have h1 : ((t.drop (sgn t)).take 6).takeWhile dig = ((t.drop (sgn t)).take 6).takeWhile dig := rfl
  have h2 := (List.takeWhile_prefix dig (l := (t.drop (sgn t)).take 6)).length_le
  rw [List.length_take, List.length_drop] at h2
  have h3 : sgn t ≤ t.length := by
    unfold sgn
    split
    · cases t with
      | nil => rename_i h; cases h
      | cons c t => simp
    · omega
  show sgn t + (((t.drop (sgn t)).take 6).takeWhile dig).length ≤ _
  omega
theorem itoa_head (n : Int) (r : List UInt8) : pre [61, 62, 32] (Lib.itoa n ++ r) = false := by
  have hm : ∀ c, (Lib.itoa n).head? = some c → c ≠ 61 := fun c h e => by
    exact itoa_no (n := n) (c := 61) (by decide) (by decide) (by rw [← e]; exact List.mem_of_head? h)
  cases hi : Lib.itoa n with
  | nil => exact absurd hi (itoa_ne n)
  | cons c l =>
    rw [hi] at hm
    have := hm c rfl
    unfold pre
    simp [List.isPrefixOf]
    intro e
    exact absurd e.symm this
theorem ifsS_ifsT (H : List UInt8) : ∀ (xs : List Int) (n : Nat) (acc : List Int), (∀ x ∈ xs, -16 ≤ x ∧ x ≤ 16) → xs.length < n → acc.length + xs.length ≤ 6 →
    ifsS n (ifsT xs ++ ([61, 62, 32] ++ H)) acc = some (acc ++ xs, [61, 62, 32] ++ H)
  | [], n, acc, _, hn, _ => by
    obtain ⟨m, rfl⟩ : ∃ m, n = m + 1 := ⟨n - 1, by simp at hn; omega⟩
    have e : ifsT [] ++ ([61, 62, 32] ++ H) = [61, 62, 32] ++ H := rfl
    rw [e]
    unfold ifsS
    rw [if_pos (pre_app _ _), List.append_nil]
  | [x], n, acc, hx, hn, hl => by
    obtain ⟨m, rfl⟩ : ∃ m, n = m + 1 := ⟨n - 1, by simp at hn; omega⟩
    have hx0 := hx x List.mem_cons_self
    have e : ifsT [x] ++ ([61, 62, 32] ++ H) = Lib.itoa x ++ (32 :: ([61, 62, 32] ++ H)) := by
      unfold ifsT txt
      rw [if_neg (by simp), List.map_cons, List.map_nil, Lib.join_one]
      simp
    have ed := digR_itoa (n := x) (by omega) (by omega) (32 :: ([61, 62, 32] ++ H)) (by intro c hc; cases hc; decide)
    rw [e]
    unfold ifsS
    rw [if_neg (by rw [itoa_head]; decide), ed, if_neg (by simp at hl ⊢; omega), List.drop_left, if_neg (by unfold pre; simp [List.isPrefixOf]), if_pos (by unfold pre; simp [List.isPrefixOf])]
    have := ifsS_ifsT H [] m (acc ++ [x]) (by simp) (by simp at hn ⊢; omega) (by simp at hl ⊢; omega)
    rw [List.append_nil] at this
    exact this
  | x :: y :: r, n, acc, hx, hn, hl => by
    obtain ⟨m, rfl⟩ : ∃ m, n = m + 1 := ⟨n - 1, by simp at hn; omega⟩
    have hx0 := hx x List.mem_cons_self
    have e : ifsT (x :: y :: r) ++ ([61, 62, 32] ++ H) = Lib.itoa x ++ ([32, 38, 32] ++ (ifsT (y :: r) ++ ([61, 62, 32] ++ H))) := by
      unfold ifsT txt
      rw [if_neg (by simp), if_neg (by simp)]
      simp only [List.map_cons, Lib.join_cons, Lib.joinTail, List.flatten_cons, List.append_assoc]
    have ed := digR_itoa (n := x) (by omega) (by omega) ([32, 38, 32] ++ (ifsT (y :: r) ++ ([61, 62, 32] ++ H))) (by intro c hc; cases hc; decide)
    rw [e]
    unfold ifsS
    rw [if_neg (by rw [itoa_head]; decide), ed, if_neg (by simp at hl ⊢; omega), List.drop_left, if_pos (pre_app _ _)]
    have := ifsS_ifsT H (y :: r) m (acc ++ [x]) (fun z hz => hx z (List.mem_cons_of_mem _ hz)) (by simp at hn ⊢; omega) (by simp at hl ⊢; omega)
    rw [List.append_assoc] at this
    exact this
theorem readS_ruleT {r : Rul} (h : ruleB r = true) : readS (ruleT r) = some r := by
  obtain ⟨hd, ifs, a, b, c⟩ := r
  have o := okV_of h
  have oh := o.h; have oi := o.i; have oa := o.a; have ob := o.b; have oc := o.c; have on := o.n
  dsimp only at oh oi oa ob oc on
  have e0 : ruleT (hd, ifs, a, b, c) = Lib.itoa a ++ ([45] ++ (Lib.itoa b ++ ([32, 114] ++ (Lib.itoa c ++ ([58, 32] ++ (ifsT ifs ++ ([61, 62, 32] ++ Lib.itoa hd))))))) := by
    unfold ruleT
    simp only [List.append_assoc]
  rw [e0]
  generalize hT3 : ifsT ifs ++ ([61, 62, 32] ++ Lib.itoa hd) = T3
  have d4 := digR_itoa (n := hd) (by omega) (by omega) [] (by intro c hc; cases hc)
  rw [List.append_nil] at d4
  have hi := ifsS_ifsT (Lib.itoa hd) ifs 8 [] oi (by omega) (by simp; omega)
  rw [hT3] at hi
  have c4 : ∀ r : List UInt8, ([61, 62, 32] ++ r).drop 3 = r := fun _ => rfl
  unfold readS
  rw [step_itoa (by omega) (by omega) [45] _ (by intro c hc; cases hc; decide) (by simp)]
  rw [step_itoa (by omega) (by omega) [32, 114] _ (by intro c hc; cases hc; decide) (by simp)]
  rw [step_itoa (by omega) (by omega) [58, 32] _ (by intro c hc; cases hc; decide) (by simp), hi]
  unfold last
  simp only [c4, d4]
  simp
theorem readS_of {s : List UInt8} {r : Rul} (h : ruleOf s = some r) : readS s = some r := by
  obtain ⟨h1, h2⟩ := ruleOf_some h
  rw [← h2]
  exact readS_ruleT h1
end Go.Proofs.YtigipcckflcilaaGreatDoor
