/- TzG7: texts joined. -/
import Derived.Test.YtodjjpmigcacoaaGreatDoorTzG1
import Derived.Test.YtodjjpmigcacoaaGreatDoorAbsM5
import Derived.IntWalk
import Derived.Test.YtodjjpmigcacoaaGreatDoorTzG5
import Derived.Test.YtodjjpmigcacoaaGreatDoorTzG3
set_option linter.unusedSimpArgs false
set_option linter.unusedVariables false
namespace Go.Proofs.YtodjjpmigcacoaaGreatDoor
def swpG (l : List Int) (k : Nat) : List Int := (l.set (k + 1) (l.getD k 0)).set k (l.getD (k + 1) 0)
def insG (lt : Int → Int → Bool) : Nat → List Int → List Int
  | 0, l => l
  | k + 1, l => if lt (l.getD (k + 1) 0) (l.getD k 0) then insG lt k (swpG l k) else l
def isG (lt : Int → Int → Bool) (l : List Int) : Nat → List Int
  | 0 => l
  | i + 1 => insG lt i (isG lt l i)
theorem swpG_len (l : List Int) (k : Nat) : (swpG l k).length = l.length := by simp [swpG]
theorem insG_len (lt : Int → Int → Bool) : ∀ (k : Nat) (l : List Int), (insG lt k l).length = l.length
  | 0, l => rfl
  | k + 1, l => by
    unfold insG
    split
    · rw [insG_len, swpG_len]
    · rfl
theorem isG_len (lt : Int → Int → Bool) (l : List Int) : ∀ i, (isG lt l i).length = l.length
  | 0 => rfl
  | i + 1 => by rw [isG, insG_len, isG_len]
theorem insG_spec (lt : Int → Int → Bool) : ∀ (n : Nat) (A : List Int) (x : Int) (B : List Int), A.length = n → ∃ A1 A2, A = A1 ++ A2 ∧ insG lt n (A ++ x :: B) = A1 ++ x :: (A2 ++ B) ∧ (∀ a ∈ A2, lt x a = true) ∧ ∀ y, A1.getLast? = some y → lt x y = false
  | 0, A, x, B, h => by
    have : A = [] := List.length_eq_zero_iff.1 h
    subst this
    exact ⟨[], [], rfl, rfl, by simp, by simp⟩
  | n + 1, A, x, B, h => by
    obtain ⟨A', y, rfl⟩ : ∃ A' y, A = A' ++ [y] := ⟨A.dropLast, A.getLast (by intro e; simp [e] at h), (List.dropLast_concat_getLast _).symm⟩
    have hl : A'.length = n := by simpa using h
    have g1 : (A' ++ [y] ++ x :: B).getD (n + 1) 0 = x := by simp [List.getD_eq_getElem?_getD, ← hl]
    have g0 : (A' ++ [y] ++ x :: B).getD n 0 = y := by simp [List.getD_eq_getElem?_getD, ← hl]
    unfold insG
    rw [g1, g0]
    by_cases hxy : lt x y = true
    · rw [if_pos hxy]
      have e : swpG (A' ++ [y] ++ x :: B) n = A' ++ x :: (y :: B) := by
        unfold swpG
        rw [g1, g0]
        subst hl
        simp [List.set_append]
      rw [e]
      obtain ⟨A1, A2, h1, h2, h3, h4⟩ := insG_spec lt n A' x (y :: B) hl
      refine ⟨A1, A2 ++ [y], by rw [h1]; simp, by rw [h2]; simp, fun a ha => ?_, h4⟩
      rcases List.mem_append.1 ha with ha | ha
      · exact h3 a ha
      · simp at ha; subst ha; exact hxy
    · rw [if_neg hxy]
      exact ⟨A' ++ [y], [], by simp, by simp, by simp, fun z hz => by simp at hz; subst hz; simpa using hxy⟩
def Ahead (lt : Int → Int → Bool) (x y : Int) : Prop := lt y x = false ∧ (lt x y = true ∨ x < y)
theorem gdrop_at (l : List Int) (i : Nat) (h : i < l.length) : l.drop i = l[i] :: l.drop (i + 1) := List.drop_eq_getElem_cons h
theorem gtake_snoc (l : List Int) (i : Nat) (h : i < l.length) : l.take (i + 1) = l.take i ++ [l[i]] := by rw [List.take_add_one, List.getElem?_eq_getElem h]; rfl
theorem isG_spec (lt : Int → Int → Bool) (asym : ∀ x y, lt x y = true → lt y x = false) (tr : ∀ x y z, lt y x = false → lt z y = false → lt z x = false) (l : List Int) (hs : l.Pairwise (· < ·)) :
    ∀ i, i ≤ l.length → ∃ S, isG lt l i = S ++ l.drop i ∧ S.Perm (l.take i) ∧ S.Pairwise (Ahead lt) ∧ S.length = i
  | 0, _ => ⟨[], by simp [isG], by simp, .nil, rfl⟩
  | i + 1, hi => by
    obtain ⟨S, h1, h2, h3, h4⟩ := isG_spec lt asym tr l hs i (by omega)
    have hd : l.drop i = l[i] :: l.drop (i + 1) := gdrop_at l i (by omega)
    have ht : l.take (i + 1) = l.take i ++ [l[i]] := gtake_snoc l i (by omega)
    have low : ∀ a ∈ S, a < l[i] := by
      intro a ha
      have hp : (l.take i ++ l.drop i).Pairwise (· < ·) := by rw [List.take_append_drop]; exact hs
      rw [hd] at hp
      exact (List.pairwise_append.1 hp).2.2 a (h2.mem_iff.1 ha) _ List.mem_cons_self
    generalize l[i] = x at hd ht low
    obtain ⟨A1, A2, g1, g2, g3, g4⟩ := insG_spec lt i S x (l.drop (i + 1)) h4
    refine ⟨A1 ++ x :: A2, ?_, ?_, ?_, ?_⟩
    · rw [isG, h1, hd, g2]; simp
    · rw [ht]
      refine List.Perm.trans List.perm_middle ?_
      rw [← g1]
      exact (List.Perm.cons _ h2).trans (List.perm_append_singleton _ _).symm
    · rw [g1] at h3 low
      rw [List.pairwise_append] at h3 ⊢
      obtain ⟨p1, p2, p3⟩ := h3
      have le1 : ∀ a ∈ A1, lt x a = false := by
        intro a ha
        have hne : A1 ≠ [] := by intro e; rw [e] at ha; cases ha
        have hlast := g4 _ (List.getLast?_eq_some_getLast hne)
        have e := List.dropLast_concat_getLast hne
        rw [← e, List.pairwise_append] at p1
        rw [← e] at ha
        rcases List.mem_append.1 ha with h | h
        · exact tr a (A1.getLast hne) _ (p1.2.2 a h _ (by simp)).1 hlast
        · simp at h; rw [h]; exact hlast
      refine ⟨p1, ?_, ?_⟩
      · rw [List.pairwise_cons]
        exact ⟨fun a ha => ⟨asym _ _ (g3 a ha), .inl (g3 a ha)⟩, p2⟩
      · intro a ha b hb
        rcases List.mem_cons.1 hb with rfl | hb
        · exact ⟨le1 a ha, .inr (low a (by simp [ha]))⟩
        · exact p3 a ha b hb
    · rw [← h4, g1]; simp; omega
theorem isG_sort (lt : Int → Int → Bool) (asym : ∀ x y, lt x y = true → lt y x = false) (tr : ∀ x y z, lt y x = false → lt z y = false → lt z x = false) (l : List Int) (hs : l.Pairwise (· < ·)) :
    (isG lt l l.length).Perm l ∧ (isG lt l l.length).Pairwise (Ahead lt) := by
  obtain ⟨S, h1, h2, h3, h4⟩ := isG_spec lt asym tr l hs l.length (Nat.le_refl _)
  rw [List.drop_length, List.append_nil] at h1
  rw [List.take_length] at h2
  rw [h1]
  exact ⟨h2, h3⟩
theorem getD_set_ne {l : List Int} {i j : Nat} {v : Int} (h : i ≠ j) : (l.set i v).getD j 0 = l.getD j 0 := by
  simp only [List.getD_eq_getElem?_getD]; rw [List.getElem?_set_ne h]
end Go.Proofs.YtodjjpmigcacoaaGreatDoor
set_option maxRecDepth 10000
set_option maxHeartbeats 4000000
namespace Go.Proofs.YtodjjpmigcacoaaGreatDoor
open Go Go.Abs
open Nat renaming reduceAdd → Za, reduceSub → Zb, reduceMul → Zc, reduceLT → Zd, reduceLeDiff → Ze, reduceEqDiff → Zf
open Int renaming reduceToNat → Zn
open Go.Abs renaming lenA → Zg, convA → Zh, indexA → Zi, flatP → Zj, nilI → Zk, ifaA → Zl, indexS → Zm
def Sml (m : Int) (l : List Int) : Prop := ∀ x ∈ l, 0 ≤ x ∧ x < m
theorem Sml.at_ {m : Int} {l : List Int} (h : Sml m l) {i : Nat} (hi : i < l.length) : 0 ≤ l.getD i 0 ∧ l.getD i 0 < m := by
  rw [getD_at l 0 i hi]; exact h _ (List.getElem_mem hi)
theorem Sml.all {m : Int} {l : List Int} (h : Sml m l) (lo hi : Int) (h1 : lo ≤ 0) (h2 : m ≤ hi + 1) : l.all (inR lo hi) = true :=
  List.all_eq_true.2 fun x hx => inR_yes (by have := h x hx; omega) (by have := h x hx; omega)
theorem hasC_yes {m : Int} {l : List Int} (h : Sml m l) (h1 : 1 ≤ l.length) {most : Int} (h2 : (l.length : Int) ≤ most) {hi : Int} (h3 : m ≤ hi + 1) : hasC l 1 most 0 hi = true := by
  unfold hasC
  rw [h.all 0 hi (by omega) h3, decide_eq_true h2, decide_eq_true (by omega)]
  rfl
def sumI (l : List Int) : Int := l.foldr (· + ·) 0
theorem sumI_snoc (l : List Int) (x : Int) : sumI (l ++ [x]) = sumI l + x := by
  unfold sumI
  induction l with
  | nil => simp
  | cons a l ih => simp only [List.cons_append, List.foldr_cons, ih]; omega
theorem sumI_take (l : List Int) (i : Nat) (h : i < l.length) : sumI (l.take (i + 1)) = sumI (l.take i) + l[i] := by
  rw [gtake_snoc _ _ h, sumI_snoc]
theorem Sml.sum {m : Int} {l : List Int} (h : Sml m l) : 0 ≤ sumI l ∧ sumI l ≤ m * l.length := by
  unfold sumI
  induction l with
  | nil => simp
  | cons x l ih =>
    have h1 := h x (by simp)
    have h2 := ih fun y hy => h y (by simp [hy])
    have e : m * ((x :: l).length : Int) = m * l.length + m := by rw [List.length_cons, Int.natCast_add, Int.mul_add]; omega
    rw [e, List.foldr_cons]
    omega
theorem Sml.take {m : Int} {l : List Int} (h : Sml m l) (i : Nat) : Sml m (l.take i) := fun x hx => h x (List.mem_of_mem_take hx)
theorem Sml.sumT {l : List Int} (h : Sml 2000 l) (hl : l.length ≤ 10) (i : Nat) : 0 ≤ sumI (l.take i) ∧ sumI (l.take i) ≤ 20000 := by
  have h1 := (h.take i).sum
  have h2 : (l.take i).length ≤ 10 := by simp; omega
  omega
theorem total_call (xs : List Int) (hx : Sml 2000 xs) (hl : xs.length ≤ 10) : CallA Tryz.prog 140 [.ro (ints xs)] [] (Ret (.int .i64 (sumI xs)) []) := by
  refine CallP.out (t := .mk) (go_in (md := md140) mixed Tryz.func140 rfl go140 (by kernel_rfl) ?_)
  simp only [Zu, Za, Zb, Zg, Zh, Zi, Zk, Zl, Zm, Zn, ↓reduceIte, reduceCtorEq, Zd, Ze, Zc, Zf, Z140]
  refine go_round (md := md140) mixed (by kernel_rfl) (fun i : {i : Nat // i ≤ xs.length} => ⟨[.any, .any, .any, .int .i64 (sumI (xs.take i.1)), .any, .any, .ro (ints xs), .int .i64 xs.length, .int .i64 i.1, .any, .any, .any, .any, .any, .any, .any, .any], []⟩) (fun i => xs.length - i.1) ⟨0, by simp⟩ ?_ ?_
  · exact weak_drop (by simp) (by simp [DropHp, ints_below, flts_below, sumI]) (by simp [DropTm, DropV, below, belowM, belowL, sumI])
  · intro ⟨i, hi⟩
    simp only [Zu, Za, Zb, Zg, Zh, Zi, Zk, Zl, Zm, Zn, ↓reduceIte, reduceCtorEq, Zd, Ze, Zc, Zf, Z140]
    refine br_intro (fun h => ?_) (fun h => ?_) <;> simp only [Zu, Za, Zb, Zg, Zh, Zi, Zk, Zl, Zm, Zn, ↓reduceIte, reduceCtorEq, Zd, Ze, Zc, Zf, Z140]
    · have hi' : i < xs.length := by simpa using h
      repeat (refine ⟨?_, ?_⟩; focus first | omega | (simp only [List.length_set, ints_len, flts_len, List.length_map, List.length_append, List.length_cons, List.length_nil]; omega))
      refine ⟨⟨i + 1, by omega⟩, by show xs.length - (i + 1) < _; omega, ?_⟩
      have b1 := hx.sumT hl (i + 1)
      have e2 := sumI_take xs i hi'
      have e1 : IntKind.i64.wrap (sumI (xs.take i) + xs[i]) = sumI (xs.take (i + 1)) := by rw [← e2]; exact w64 (by omega) (by omega)
      exact weak_drop (by simp) (by simp [DropHp, ints_below, flts_below, w64_succ i (by omega), e1]) (by simp [DropTm, DropV, below, belowM, belowL, w64_succ i (by omega), e1])
    · have hi' : i = xs.length := by simp at h; omega
      subst hi'
      rw [List.take_length]
      exact PostR.ret
def rngL (f : Nat → Int) (n : Nat) : List Int := (List.range n).map f
theorem rngL_len (f : Nat → Int) (n : Nat) : (rngL f n).length = n := by simp [rngL]
theorem rngL_succ (f : Nat → Int) (n : Nat) : rngL f n ++ [f n] = rngL f (n + 1) := by simp [rngL, List.range_succ]
theorem rngL_get (f : Nat → Int) (n i : Nat) (h : i < n) : (rngL f n).getD i 0 = f i := by simp [rngL, h]
theorem view_in {hp : List Blk} {i n : Nat} {W : List Int} (h : hp[i]? = some (intB W)) (hl : W.length = n) : view 2 hp (.sl i 0 n) = .ro (ints W) := by
  subst hl
  rw [view_sl, h]
  simp [intB, map_view_ints, take_ints, ints_len]
theorem subG_subs {σ : List Nat} {hp l : List Blk} (hn : σ.Nodup) (S : SubG (fun i => σ.getD i 0) σ.length hp σ l) : Sub σ hp l where
  nodup := hn
  len := S.len
  blk := fun i r hr => by
    obtain ⟨h1, h2⟩ := S.get i r hr
    exact ⟨_, h1, rfl, fun hl => ⟨hl, rfl, rfl, by simpa [allBelow] using h2⟩⟩
theorem call_subG {P : Program} {f : FuncId} {args : List AV} {hp : List Blk} {Q : AV → List Blk → Prop} {t : Tok Q} (σ : List Nat) {args' : List AV} {hps hps' : List Blk} {r : AV} (h : CallA P f args' hps (Ret r hps')) (hn : σ.Nodup) (S : SubG (fun i => σ.getD i 0) σ.length hp σ hps) (ha : args = args'.map (ren fun i => σ.getD i 0)) (hb : args'.all (below σ.length) = true)
    {hp2 : List Blk} (he : subHp σ hp hps' = hp2) (hQ : Q (ren (upName σ hp.length) r) hp2) : CallP P f args hp Q t := by
  refine call_at (CallA.sub σ (subG_subs hn S) ha hb (h.mono ?_))
  rintro r' hp' ⟨rfl, rfl⟩
  rw [he]
  exact hQ
set_option maxHeartbeats 2000000
def lk (K : Nat → Int) (x y : Int) : Bool := decide (K x.toNat < K y.toNat)
def idL (n : Nat) : List Int := rngL (fun i => (i : Int)) n
def ordK (K : Nat → Int) (n : Nat) : List Int := isG (lk K) (idL n) n
theorem ordK_sort (K : Nat → Int) (n : Nat) : (ordK K n).Perm (idL n) ∧ (ordK K n).Pairwise (Ahead (lk K)) := by
  have h := isG_sort (lk K) (fun x y h => by
    unfold lk at h ⊢
    simp only [decide_eq_true_eq, decide_eq_false_iff_not] at h ⊢
    omega) (fun x y z h1 h2 => by
    unfold lk at h1 h2 ⊢
    simp only [decide_eq_false_iff_not] at h1 h2 ⊢
    omega) (idL n) (by
    unfold idL rngL
    rw [List.pairwise_map]
    exact (List.pairwise_lt_range).imp fun h => by omega)
  have e : (idL n).length = n := rngL_len _ _
  rw [e] at h
  exact h
theorem ordK_len (K : Nat → Int) (n : Nat) : (ordK K n).length = n := by
  rw [(ordK_sort K n).1.length_eq]; exact rngL_len _ _
theorem idL_mem {n : Nat} {x : Int} : x ∈ idL n ↔ 0 ≤ x ∧ x < n := by
  unfold idL rngL
  rw [List.mem_map]
  constructor
  · rintro ⟨i, hi, rfl⟩
    have := List.mem_range.1 hi
    omega
  · rintro ⟨h1, h2⟩
    exact ⟨x.toNat, List.mem_range.2 (by omega), by omega⟩
theorem ordK_mem {K : Nat → Int} {n : Nat} {x : Int} : x ∈ ordK K n ↔ 0 ≤ x ∧ x < n := by
  rw [(ordK_sort K n).1.mem_iff]; exact idL_mem
def ordN (K : Nat → Int) (n : Nat) : List Nat := (ordK K n).map Int.toNat
theorem ordN_len (K : Nat → Int) (n : Nat) : (ordN K n).length = n := by simp [ordN, ordK_len]
theorem ordN_mem {K : Nat → Int} {n i : Nat} : i ∈ ordN K n ↔ i < n := by
  unfold ordN
  rw [List.mem_map]
  constructor
  · rintro ⟨x, hx, rfl⟩
    have := ordK_mem.1 hx
    omega
  · intro h
    exact ⟨(i : Int), ordK_mem.2 (by omega), by omega⟩
def Bef (K : Nat → Int) (i j : Nat) : Prop := K i < K j ∨ (K i = K j ∧ i < j)
theorem ordN_pair (K : Nat → Int) (n : Nat) : (ordN K n).Pairwise (Bef K) := by
  unfold ordN
  rw [List.pairwise_map]
  refine (ordK_sort K n).2.imp_of_mem ?_
  intro a b ha hb h
  have h1 := ordK_mem.1 ha
  have h2 := ordK_mem.1 hb
  obtain ⟨p, q⟩ := h
  unfold lk at p q
  simp only [decide_eq_true_eq, decide_eq_false_iff_not] at p q
  unfold Bef
  omega
theorem bef_irrefl {K : Nat → Int} {i : Nat} : ¬ Bef K i i := by unfold Bef; omega
theorem ordN_nodup (K : Nat → Int) (n : Nat) : (ordN K n).Nodup := by
  refine (ordN_pair K n).imp ?_
  intro a b h e
  exact bef_irrefl (K := K) (by rw [← e] at h; exact h)
theorem ordN_fresh (K : Nat → Int) (n j : Nat) (hj : j < n) : (ordN K n)[j]'(by rw [ordN_len]; exact hj) ∉ (ordN K n).take j := by
  have hlen := ordN_len K n
  have hn := ordN_nodup K n
  rw [← List.take_append_drop j (ordN K n), List.nodup_append] at hn
  intro h
  refine hn.2.2 _ h _ ?_ rfl
  rw [List.drop_eq_getElem_cons (by omega)]
  exact List.mem_cons_self
set_option maxHeartbeats 8000000
theorem and_mask {n : Int} (k : Nat) (hk : k ≤ 62) (h0 : 0 ≤ n) (h1 : n ≤ 9223372036854775807) : (((BitVec.ofInt 64 n &&& BitVec.ofInt 64 (((2 ^ k - 1 : Nat) : Int))).toNat : Nat) : Int) = n % 2 ^ k := by
  obtain ⟨m, rfl⟩ := Int.eq_ofNat_of_zero_le h0
  rw [BitVec.toNat_and]
  have e1 : (BitVec.ofInt 64 (m : Int)).toNat = m := by
    rw [BitVec.ofInt_natCast, BitVec.toNat_ofNat]
    exact Nat.mod_eq_of_lt (by omega)
  have hp : 2 ^ k ≤ 2 ^ 62 := Nat.pow_le_pow_right (by decide) hk
  have e2 : (BitVec.ofInt 64 (((2 ^ k - 1 : Nat) : Int))).toNat = 2 ^ k - 1 := by
    rw [BitVec.ofInt_natCast, BitVec.toNat_ofNat]
    exact Nat.mod_eq_of_lt (by omega)
  rw [e1, e2, Nat.and_two_pow_sub_one_eq_mod]
  simp
theorem mask32 {n : Int} (h0 : 0 ≤ n) (h1 : n < 4294967296) : IntKind.u64.wrap (((BitVec.ofInt IntKind.u64.bits n &&& BitVec.ofInt IntKind.u64.bits 4294967295).toNat : Nat) : Int) = n := by
  have h := and_mask (n := n) 32 (by decide) h0 (by omega)
  have e : (((2 ^ 32 - 1 : Nat) : Int)) = 4294967295 := rfl
  rw [e] at h
  show IntKind.u64.wrap (((BitVec.ofInt 64 n &&& BitVec.ofInt 64 4294967295).toNat : Nat) : Int) = n
  rw [h, show (2 : Int) ^ 32 = 4294967296 from rfl, Int.emod_eq_of_lt h0 h1]
  exact IntWalk.u64_in _ (by omega)
theorem shr32 {n : Int} (h0 : 0 ≤ n) (h1 : n < 4294967296) : n.fdiv (2 ^ min 32 IntKind.u64.bits) = 0 := by
  show n.fdiv 4294967296 = 0
  rw [Int.fdiv_eq_ediv_of_nonneg _ (by decide)]
  exact Int.ediv_eq_zero_of_lt h0 h1
theorem mul64_call (x y : Int) (x0 : 0 ≤ x) (x1 : x ≤ 20000) (y0 : 0 ≤ y) (y1 : y ≤ 2000) : CallA Tryz.prog 165 [.int .u64 x, .int .u64 y] [] (Ret (.tup [.int .u64 0, .int .u64 (x * y)]) []) := by
  have p0 := Int.mul_nonneg x0 y0
  have p1 : x * y ≤ 40000000 := by
    have a := Int.mul_le_mul_of_nonneg_right x1 y0
    have b := Int.mul_le_mul_of_nonneg_left y1 (show (0 : Int) ≤ 2000 by decide)
    omega
  have e1 := mask32 x0 (by omega)
  have e2 := mask32 y0 (by omega)
  have e3 := shr32 x0 (by omega)
  have e4 := shr32 y0 (by omega)
  have e5 : IntKind.u64.wrap (x * y) = x * y := IntWalk.u64_in _ (by omega)
  have e6 := shr32 p0 (by omega)
  have e7 := mask32 (n := 0) (by decide) (by decide)
  have e8 := shr32 (n := 0) (by decide) (by decide)
  have e9 : IntKind.u64.wrap 0 = 0 := by decide
  refine CallP.out (t := .mk) (go_in (md := md165) mixed Tryz.func165 rfl go165 (by kernel_rfl) ?_)
  simp only [Zu, Za, Zb, Zg, Zh, Zi, Zk, Zl, Zm, Zn, ↓reduceIte, reduceCtorEq, Zd, Ze, Zc, Zf, Z165, e1, e2, e3, e4, e5, e6, e7, e8, e9, Int.zero_mul, Int.mul_zero, Int.add_zero, Int.zero_add]
  refine ⟨by decide, by decide, by decide, by decide, by decide, ?_⟩
  exact PostR.pure ⟨rfl, rfl⟩ rfl
theorem div64_call (x y : Int) (x0 : 0 ≤ x) (x1 : x ≤ 10000000000) (y0 : 1 ≤ y) (y1 : y ≤ 100000) : CallA Tryz.prog 178 [.int .u64 0, .int .u64 x, .int .u64 y] [] (Ret (.tup [.int .u64 (x / y), .int .u64 (x % y)]) []) := by
  have d0 := Int.ediv_nonneg x0 (show 0 ≤ y by omega)
  have d1 := Int.ediv_le_self y x0
  have e1 : x.tdiv y = x / y := Int.tdiv_eq_ediv_of_nonneg x0
  have e2 : x.tmod y = x % y := Int.tmod_eq_emod_of_nonneg x0
  have e3 : IntKind.u64.wrap (x / y) = x / y := IntWalk.u64_in _ (by omega)
  refine CallP.out (t := .mk) (go_in (md := md178) mixed Tryz.func178 rfl go178 (by kernel_rfl) ?_)
  simp only [Zu, Za, Zb, Zg, Zh, Zi, Zk, Zl, Zm, Zn, ↓reduceIte, reduceCtorEq, Zd, Ze, Zc, Zf, Z178]
  refine br_no (by simp; omega) ?_
  simp only [Zu, Za, Zb, Zg, Zh, Zi, Zk, Zl, Zm, Zn, ↓reduceIte, reduceCtorEq, Zd, Ze, Zc, Zf, Z178]
  refine br_no (decide_eq_false (by omega)) ?_
  simp only [Zu, Za, Zb, Zg, Zh, Zi, Zk, Zl, Zm, Zn, ↓reduceIte, reduceCtorEq, Zd, Ze, Zc, Zf, Z178, e1, e2, e3, beq_self_eq_true]
  refine ⟨by omega, by omega, ?_⟩
  exact PostR.pure ⟨rfl, rfl⟩ rfl
def rmd (a c : Int) : Int := a % c
structure Cmpr (fid : FuncId) (caps : List AV) (rest : List Blk) (e : TypeId) (D : Int → Prop) (c : Int → Int → Int) : Prop where
  call : ∀ l : List Int, ∀ x y, D x → D y → CallA Tryz.prog fid (.int .i64 x :: .int .i64 y :: caps) ({ ty := e, w := 1, els := ints l } :: rest) (Ret (.int .i64 (c x y)) ({ ty := e, w := 1, els := ints l } :: rest))
  low : below (rest.length + 1) (.fn fid caps) = true
  flat : ∀ q ∈ rest, allBelow (rest.length + 1) q.els = true
def ltC (c : Int → Int → Int) (x y : Int) : Bool := decide (c x y < 0)
theorem swpG_mem {l : List Int} {k : Nat} {D : Int → Prop} (hk : k + 1 < l.length) (h : ∀ x ∈ l, D x) : ∀ x ∈ swpG l k, D x := by
  have at_ : ∀ i, i < l.length → D (l.getD i 0) := fun i hi => by rw [getD_at l 0 i hi]; exact h _ (List.getElem_mem hi)
  intro x hx
  unfold swpG at hx
  rcases List.mem_or_eq_of_mem_set hx with hx | rfl
  · rcases List.mem_or_eq_of_mem_set hx with hx | rfl
    · exact h x hx
    · exact at_ k (by omega)
  · exact at_ (k + 1) hk
structure InsI (c : Int → Int → Int) (D : Int → Prop) (fin : List Int) (i : Nat) (p : Nat × List Int) : Prop where
  j : p.1 ≤ i
  i : i < p.2.length
  len : p.2.length = fin.length
  ok : ∀ x ∈ p.2, D x
  fin : insG (ltC c) p.1 p.2 = fin
theorem weak_cmp {fid : FuncId} {caps : List AV} {rest : List Blk} {e : TypeId} {D : Int → Prop} {c : Int → Int → Int} (C : Cmpr fid caps rest e D c) (l : List Int) {tm tm2 : List AV} (ht : DropTm (rest.length + 1) tm tm2) : Weak (rest.length + 1) ⟨tm, { ty := e, w := 1, els := ints l } :: rest⟩ ⟨tm2, { ty := e, w := 1, els := ints l } :: rest⟩ := by
  have self : ∀ (N : Nat) (hp : List Blk), (∀ q ∈ hp, allBelow N q.els = true) → DropHp N hp hp := by
    intro N hp
    induction hp with
    | nil => intro _; trivial
    | cons q hp ih => intro h; exact ⟨⟨rfl, fun hl => ⟨hl, rfl, rfl, h q (by simp)⟩⟩, ih fun x hx => h x (by simp [hx])⟩
  refine weak_drop (by simp) (self _ _ fun q hq => ?_) ht
  rcases List.mem_cons.1 hq with rfl | hq
  · exact ints_below _ _
  · exact C.flat q hq
theorem weak_cmp2 {fid : FuncId} {caps : List AV} {rest : List Blk} {e : TypeId} {D : Int → Prop} {c : Int → Int → Int} (C : Cmpr fid caps rest e D c) {l l2 : List Int} (he : l = l2) {tm tm2 : List AV} (ht : DropTm (rest.length + 1) tm tm2) : Weak (rest.length + 1) ⟨tm, { ty := e, w := 1, els := ints l } :: rest⟩ ⟨tm2, { ty := e, w := 1, els := ints l2 } :: rest⟩ := by
  subst he
  exact weak_cmp C l ht
theorem lp_cut {P : Program} {n0 : Nat} {c : Code} {Q : Ex → St → Prop} {st : St} {t : Tok (c, Q)} (h : ∀ Z : Ex → St → Prop, (∀ e st, Q e st → Z e st) → Lp P n0 c Z .mk st) : Lp P n0 c Q t st := h Q fun _ _ q => q
theorem insSort_call {fid : FuncId} {caps : List AV} {rest : List Blk} {e : TypeId} {D : Int → Prop} {c : Int → Int → Int} (C : Cmpr fid caps rest e D c) (l : List Int) (h1 : 1 ≤ l.length) (hl : l.length ≤ 1048576) (ok : ∀ x ∈ l, D x) :
    CallA Tryz.prog 215 [.sl 0 0 l.length, .int .i64 0, .int .i64 l.length, .fn fid caps] ({ ty := e, w := 1, els := ints l } :: rest) (Ret (.tup []) ({ ty := e, w := 1, els := ints (isG (ltC c) l l.length) } :: rest)) := by
  have hb := C.low
  have hb3 : ∀ N k n, below N (.int k n) = true := fun _ _ _ => rfl
  have hb4 : ∀ N, below N .any = true := fun _ => rfl
  have hb5 : ∀ i n, below (rest.length + 1) (.sl 0 i n) = true := fun i n => by simp [below, belowM, belowL]
  refine CallP.out (t := .mk) (go_in (md := md215) mixed Tryz.func215 rfl go215 (by kernel_rfl) ?_)
  simp only [Zu, Za, Zb, Zg, Zh, Zi, Zk, Zl, Zm, Zn, ↓reduceIte, reduceCtorEq, Zd, Ze, Zc, Zf, Z215]
  refine go_round (md := md215) mixed (by kernel_rfl) (fun k : {k : Nat // k + 1 ≤ l.length ∧ ∀ x ∈ isG (ltC c) l (k + 1), D x} => ⟨[.sl 0 0 l.length, .int .i64 0, .int .i64 l.length, .fn fid caps, .any, .any, .any, .any, .int .i64 ((k.1 + 1 : Nat) : Int), .any, .any, .any, .any, .any, .any, .any, .any, .any, .any, .any, .any, .any, .any, .any, .any, .any, .any, .any, .any, .any, .any, .any, .any, .any, .any, .any, .any, .any, .any, .any, .any, .any, .any, .any, .any, .any, .any, .any, .any, .any, .any, .any, .any], { ty := e, w := 1, els := ints (isG (ltC c) l (k.1 + 1)) } :: rest⟩) (fun k => l.length - k.1) ⟨0, by omega, fun x hx => ok x hx⟩ ?_ ?_
  · have e1 : IntKind.i64.wrap 1 = 1 := by decide
    exact weak_cmp C l (by simp [DropTm, DropV, hb, hb3, hb4, hb5, e1])
  · rintro ⟨k, hk, okk⟩
    have len := isG_len (ltC c) l (k + 1)
    simp only [Zu, Za, Zb, Zg, Zh, Zi, Zk, Zl, Zm, Zn, ↓reduceIte, reduceCtorEq, Zd, Ze, Zc, Zf, Z215]
    refine br_intro (fun h => ?_) (fun h => ?_) <;> simp only [Zu, Za, Zb, Zg, Zh, Zi, Zk, Zl, Zm, Zn, ↓reduceIte, reduceCtorEq, Zd, Ze, Zc, Zf, Z215]
    · have hi : k + 1 < l.length := by have := of_decide_eq_true h; omega
      refine go_round (md := md215) mixed (by kernel_rfl) (fun p : {p : Nat × List Int // InsI c D (isG (ltC c) l (k + 2)) (k + 1) p} => ⟨[.sl 0 0 l.length, .int .i64 0, .int .i64 l.length, .fn fid caps, .any, .any, .any, .any, .int .i64 ((k + 1 : Nat) : Int), .int .i64 p.1.1, .any, .any, .any, .any, .any, .any, .any, .any, .any, .any, .any, .any, .any, .any, .any, .any, .any, .any, .any, .any, .any, .any, .any, .any, .any, .any, .any, .any, .any, .any, .any, .any, .any, .any, .any, .any, .any, .any, .any, .any, .any, .any, .any], { ty := e, w := 1, els := ints p.1.2 } :: rest⟩) (fun p => p.1.1) ⟨(k + 1, isG (ltC c) l (k + 1)), ⟨Nat.le_refl _, by show k + 1 < (isG (ltC c) l (k + 1)).length; omega, by rw [isG_len, isG_len], okk, rfl⟩⟩ ?_ ?_
      · exact weak_cmp C _ (by simp [DropTm, DropV, hb, hb3, hb4, hb5])
      · rintro ⟨⟨j, cur⟩, I⟩
        have i1 := I.j
        have i2 := I.i
        have i3 := I.len
        have i4 := I.fin
        simp only [] at i1 i2 i3 i4
        rw [isG_len] at i3
        cases j with
        | zero =>
          simp only [Zu, Za, Zb, Zg, Zh, Zi, Zk, Zl, Zm, Zn, ↓reduceIte, reduceCtorEq, Zd, Ze, Zc, Zf, Z215]
          refine br_no (by first | exact decide_eq_false (by omega) | exact beq_false_of_ne (by omega) | (simp only [bne_eq_false_iff_eq, beq_eq_false_iff_ne, ne_eq]; omega)) ?_; simp only [Zu, Za, Zb, Zg, Zh, Zi, Zk, Zl, Zm, Zn, ↓reduceIte, reduceCtorEq, Zd, Ze, Zc, Zf, Z215]
          have fine : cur = isG (ltC c) l (k + 2) := i4
          refine ⟨⟨k + 1, by omega, fun x hx => I.ok x (by show x ∈ cur; rw [fine]; exact hx)⟩, by show l.length - (k + 1) < l.length - k; omega, ?_⟩
          have ew : IntKind.i64.wrap (((k + 1 : Nat) : Int) + 1) = ((k + 1 + 1 : Nat) : Int) := w64_succ (k + 1) (by omega)
          exact weak_cmp2 C fine (by simp only [ew]; simp [DropTm, DropV, hb, hb3, hb4, hb5])
        | succ j =>
          have ej : IntKind.i64.wrap (((j + 1 : Nat) : Int) - 1) = (j : Int) := by rw [w64 (by omega) (by omega)]; omega
          simp only [Zu, Za, Zb, Zg, Zh, Zi, Zk, Zl, Zm, Zn, ↓reduceIte, reduceCtorEq, Zd, Ze, Zc, Zf, Z215, ej]
          refine br_yes (by first | exact decide_eq_true (by omega) | (simp only [bne_iff_ne, beq_iff_eq, ne_eq]; omega)) ?_; simp only [Zu, Za, Zb, Zg, Zh, Zi, Zk, Zl, Zm, Zn, ↓reduceIte, reduceCtorEq, Zd, Ze, Zc, Zf, Z215, ej]
          have gj := getD_at cur 0 j (by omega)
          have gk := getD_at cur 0 (j + 1) (by omega)
          refine ⟨by omega, by omega, by omega, by omega, ?_⟩
          rw [← gj, ← gk]
          refine callr_by _ (C.call cur _ _ (by rw [gk]; exact I.ok _ (List.getElem_mem _)) (by rw [gj]; exact I.ok _ (List.getElem_mem _))) ?_
          simp only [Zu, Za, Zb, Zg, Zh, Zi, Zk, Zl, Zm, Zn, ↓reduceIte, reduceCtorEq, Zd, Ze, Zc, Zf, Z215, ej]
          refine br_intro (fun g => ?_) (fun g => ?_) <;> simp only [Zu, Za, Zb, Zg, Zh, Zi, Zk, Zl, Zm, Zn, ↓reduceIte, reduceCtorEq, Zd, Ze, Zc, Zf, Z215, ej]
          · have g' : insG (ltC c) (j + 1) cur = insG (ltC c) j (swpG cur j) := by
              show (if ltC c (cur.getD (j + 1) 0) (cur.getD j 0) then insG (ltC c) j (swpG cur j) else cur) = _
              rw [if_pos (by exact g)]
            refine lp_cut fun Z hZ => ?_
            refine go_float mixed (fun _ => True) [0, 1, 2, 3, 4, 5, 6, 7, 8, 9, 10, 11, 12, 13, 14, 15, 16, 17] [3, 3, 5, 5, 5, 3, 3, 3, 3, 3, 3, 3, 3, 3, 3, 4, 3, 1] [] [] (by kernel_rfl) ?_
            iterate 2 (refine om_calm (by rfl) (by rfl) (by rfl) (by rfl) ?_; try simp only []; simp only [Zu, Za, Zb, Zg, Zh, Zi, Zk, Zl, Zm, Zn, ↓reduceIte, reduceCtorEq, Zd, Ze, Zc, Zf, Z215, ej])
            refine om_blind (by rfl) (by rfl) (by rfl) (v := .sl 0 0 l.length) (fun hp => by simp only [Zu, Za, Zb, Zg, Zh, Zi, Zk, Zl, Zm, Zn, ↓reduceIte, reduceCtorEq, Zd, Ze, Zc, Zf, Z215, ej]) ⟨by simp [Fixed, kill, killM, killL], by intro x hx; simp [Op.operands] at hx; first | (subst hx; simp [Fixed, St.ev, ofV, ofL, kill, killM, killL]) | (rcases hx with rfl | rfl <;> simp [Fixed, St.ev, ofV, ofL, kill, killM, killL]) | (rcases hx with rfl | rfl | rfl <;> simp [Fixed, St.ev, ofV, ofL, kill, killM, killL])⟩ ?_; try simp only []; simp only [Zu, Za, Zb, Zg, Zh, Zi, Zk, Zl, Zm, Zn, ↓reduceIte, reduceCtorEq, Zd, Ze, Zc, Zf, Z215, ej]
            refine om_blind (by rfl) (by rfl) (by rfl) (v := .int .i64 ((j + 1 : Nat) : Int)) (fun hp => by simp only [Zu, Za, Zb, Zg, Zh, Zi, Zk, Zl, Zm, Zn, ↓reduceIte, reduceCtorEq, Zd, Ze, Zc, Zf, Z215, ej]) ⟨by simp [Fixed, kill, killM, killL], by intro x hx; simp [Op.operands] at hx; first | (subst hx; simp [Fixed, St.ev, ofV, ofL, kill, killM, killL]) | (rcases hx with rfl | rfl <;> simp [Fixed, St.ev, ofV, ofL, kill, killM, killL]) | (rcases hx with rfl | rfl | rfl <;> simp [Fixed, St.ev, ofV, ofL, kill, killM, killL])⟩ ?_; try simp only []; simp only [Zu, Za, Zb, Zg, Zh, Zi, Zk, Zl, Zm, Zn, ↓reduceIte, reduceCtorEq, Zd, Ze, Zc, Zf, Z215, ej]
            refine om_blind (by rfl) (by rfl) (by rfl) (v := .int .i64 (j : Int)) (fun hp => by simp only [Zu, Za, Zb, Zg, Zh, Zi, Zk, Zl, Zm, Zn, ↓reduceIte, reduceCtorEq, Zd, Ze, Zc, Zf, Z215, ej]) ⟨by simp [Fixed, kill, killM, killL], by intro x hx; simp [Op.operands] at hx; first | (subst hx; simp [Fixed, St.ev, ofV, ofL, kill, killM, killL]) | (rcases hx with rfl | rfl <;> simp [Fixed, St.ev, ofV, ofL, kill, killM, killL]) | (rcases hx with rfl | rfl | rfl <;> simp [Fixed, St.ev, ofV, ofL, kill, killM, killL])⟩ ?_; try simp only []; simp only [Zu, Za, Zb, Zg, Zh, Zi, Zk, Zl, Zm, Zn, ↓reduceIte, reduceCtorEq, Zd, Ze, Zc, Zf, Z215, ej]
            iterate 4 (refine om_calm (by rfl) (by rfl) (by rfl) (by rfl) ?_; try simp only []; simp only [Zu, Za, Zb, Zg, Zh, Zi, Zk, Zl, Zm, Zn, ↓reduceIte, reduceCtorEq, Zd, Ze, Zc, Zf, Z215, ej])
            refine ⟨by omega, ?_⟩
            iterate 1 (refine om_calm (by rfl) (by rfl) (by rfl) (by rfl) ?_; try simp only []; simp only [Zu, Za, Zb, Zg, Zh, Zi, Zk, Zl, Zm, Zn, ↓reduceIte, reduceCtorEq, Zd, Ze, Zc, Zf, Z215, ej])
            refine ⟨by omega, ?_⟩
            iterate 3 (refine om_calm (by rfl) (by rfl) (by rfl) (by rfl) ?_; try simp only []; simp only [Zu, Za, Zb, Zg, Zh, Zi, Zk, Zl, Zm, Zn, ↓reduceIte, reduceCtorEq, Zd, Ze, Zc, Zf, Z215, ej])
            refine ⟨by omega, ?_⟩
            iterate 1 (refine om_calm (by rfl) (by rfl) (by rfl) (by rfl) ?_; try simp only []; simp only [Zu, Za, Zb, Zg, Zh, Zi, Zk, Zl, Zm, Zn, ↓reduceIte, reduceCtorEq, Zd, Ze, Zc, Zf, Z215, ej])
            refine ⟨by omega, ?_⟩
            iterate 1 (refine om_calm (by rfl) (by rfl) (by rfl) (by rfl) ?_; try simp only []; simp only [Zu, Za, Zb, Zg, Zh, Zi, Zk, Zl, Zm, Zn, ↓reduceIte, reduceCtorEq, Zd, Ze, Zc, Zf, Z215, ej])
            refine ⟨by omega, ?_⟩
            refine om_free (by rfl) (by rfl) (by rfl) ?_
            simp only []
            simp only [Zu, Za, Zb, Zg, Zh, Zi, Zk, Zl, Zm, Zn, ↓reduceIte, reduceCtorEq, Zd, Ze, Zc, Zf, Z215, ej]
            refine ⟨by omega, .inl trivial, ?_⟩
            iterate 1 (refine om_calm (by rfl) (by rfl) (by rfl) (by rfl) ?_; try simp only []; simp only [Zu, Za, Zb, Zg, Zh, Zi, Zk, Zl, Zm, Zn, ↓reduceIte, reduceCtorEq, Zd, Ze, Zc, Zf, Z215, ej])
            refine ⟨by omega, ?_⟩
            refine om_one (by rfl) (by rfl) (by rfl) ?_; try simp only []; simp only [Zu, Za, Zb, Zg, Zh, Zi, Zk, Zl, Zm, Zn, ↓reduceIte, reduceCtorEq, Zd, Ze, Zc, Zf, Z215]
            refine ⟨by rw [List.length_set, ints_len]; omega, ?_⟩
            refine om_nil ?_
            refine hZ _ _ ?_
            have hs : (cur.set (j + 1) cur[j]).set j cur[j + 1] = swpG cur j := by rw [swpG, gj, gk]
            show V _ _ _ _ _ _ ⟨_, { ty := e, w := 1, els := ((ints cur).set (j + 1) (.int .i64 cur[j])).set j (.int .i64 cur[j + 1]) } :: rest⟩
            rw [ints_set, ints_set, hs]
            simp only [Zu, Za, Zb, Zg, Zh, Zi, Zk, Zl, Zm, Zn, ↓reduceIte, reduceCtorEq, Zd, Ze, Zc, Zf, Z215, ej]
            refine ⟨⟨(j, swpG cur j), ⟨by show j ≤ k + 1; omega, by show k + 1 < (swpG cur j).length; rw [swpG_len]; omega, by show (swpG cur j).length = _; rw [swpG_len, isG_len]; exact i3, swpG_mem (by omega) I.ok, by rw [← i4, g']⟩⟩, by show j < j + 1; omega, ?_⟩
            exact weak_cmp C _ (by simp [DropTm, DropV, hb, hb3, hb4, hb5])
          · have g' : insG (ltC c) (j + 1) cur = cur := by
              show (if ltC c (cur.getD (j + 1) 0) (cur.getD j 0) then insG (ltC c) j (swpG cur j) else cur) = _
              rw [if_neg (by rw [ltC, g]; simp)]
            have fine : cur = isG (ltC c) l (k + 2) := by rw [← i4, g']
            refine ⟨⟨k + 1, by omega, fun x hx => I.ok x (by show x ∈ cur; rw [fine]; exact hx)⟩, by show l.length - (k + 1) < l.length - k; omega, ?_⟩
            have ew : IntKind.i64.wrap (((k + 1 : Nat) : Int) + 1) = ((k + 1 + 1 : Nat) : Int) := w64_succ (k + 1) (by omega)
            exact weak_cmp2 C fine (by simp only [ew]; simp [DropTm, DropV, hb, hb3, hb4, hb5])
    · have hi : k + 1 = l.length := by have := of_decide_eq_false h; omega
      rw [hi]
      exact PostR.ret
theorem stable_call {fid : FuncId} {caps : List AV} {rest : List Blk} {e : TypeId} {D : Int → Prop} {c : Int → Int → Int} (C : Cmpr fid caps rest e D c) (l : List Int) (h1 : 1 ≤ l.length) (hl : l.length ≤ 19) (ok : ∀ x ∈ l, D x) :
    CallA Tryz.prog 179 [.sl 0 0 l.length, .fn fid caps] ({ ty := e, w := 1, els := ints l } :: rest) (Ret (.tup []) ({ ty := e, w := 1, els := ints (isG (ltC c) l l.length) } :: rest)) := by
  have hb := C.low
  have hb3 : ∀ N k n, below N (.int k n) = true := fun _ _ _ => rfl
  have hb4 : ∀ N, below N .any = true := fun _ => rfl
  have hb5 : ∀ i n, below (rest.length + 1) (.sl 0 i n) = true := fun i n => by simp [below, belowM, belowL]
  have st : CallA Tryz.prog 199 [.sl 0 0 l.length, .int .i64 l.length, .fn fid caps] ({ ty := e, w := 1, els := ints l } :: rest) (Ret (.tup []) ({ ty := e, w := 1, els := ints (isG (ltC c) l l.length) } :: rest)) := by
    refine CallP.out (t := .mk) (go_in (md := md199) mixed Tryz.func199 rfl go199 (by kernel_rfl) ?_)
    simp only [Zu, Za, Zb, Zg, Zh, Zi, Zk, Zl, Zm, Zn, ↓reduceIte, reduceCtorEq, Zd, Ze, Zc, Zf, Z199]
    refine go_round (md := md199) mixed (by kernel_rfl) (fun _ : Unit => ⟨((.sl 0 0 l.length) :: (.int .i64 l.length) :: (.fn fid caps) :: .any :: .any :: .any :: (.int .i64 20) :: (.int .i64 0) :: (.int .i64 20) :: .any :: .any :: .any :: .any :: .any :: .any :: .any :: .any :: .any :: .any :: .any :: .any :: .any :: .any :: .any :: .any :: .any :: .any :: .any :: .any :: .any :: .any :: .any :: .any :: .any :: .any :: .any :: .any :: .any :: .any :: .any :: .any :: .any :: .any :: .any :: .any :: .any :: .any :: .any :: .any :: .any :: .any :: .any :: .any :: .any :: .any :: .any :: .any :: .any :: .any :: .any :: .any :: .any :: .any :: []), { ty := e, w := 1, els := ints l } :: rest⟩) (fun _ => 0) () ?_ ?_
    · exact weak_cmp C l (by simp [DropTm, DropV, hb, hb3, hb4, hb5])
    · intro _
      simp only [Zu, Za, Zb, Zg, Zh, Zi, Zk, Zl, Zm, Zn, ↓reduceIte, reduceCtorEq, Zd, Ze, Zc, Zf, Z199]
      refine br_no (by first | exact decide_eq_false (by omega) | exact beq_false_of_ne (by omega) | (simp only [bne_eq_false_iff_eq, beq_eq_false_iff_ne, ne_eq]; omega)) ?_; simp only [Zu, Za, Zb, Zg, Zh, Zi, Zk, Zl, Zm, Zn, ↓reduceIte, reduceCtorEq, Zd, Ze, Zc, Zf, Z199]
      refine call_by (insSort_call C l h1 (by omega) ok) ?_
      rintro r hp' ⟨rfl, rfl⟩
      simp only [Zu, Za, Zb, Zg, Zh, Zi, Zk, Zl, Zm, Zn, ↓reduceIte, reduceCtorEq, Zd, Ze, Zc, Zf, Z199]
      refine go_round (md := md199) mixed (by kernel_rfl) (fun _ : Unit => ⟨((.sl 0 0 l.length) :: (.int .i64 l.length) :: (.fn fid caps) :: .any :: .any :: .any :: (.int .i64 20) :: .any :: .any :: .any :: .any :: .any :: .any :: .any :: .any :: .any :: .any :: .any :: .any :: .any :: .any :: .any :: .any :: .any :: .any :: .any :: .any :: .any :: .any :: .any :: .any :: .any :: .any :: .any :: .any :: .any :: .any :: .any :: .any :: .any :: .any :: .any :: .any :: .any :: .any :: .any :: .any :: .any :: .any :: .any :: .any :: .any :: .any :: .any :: .any :: .any :: .any :: .any :: .any :: .any :: .any :: .any :: .any :: []), { ty := e, w := 1, els := ints (isG (ltC c) l l.length) } :: rest⟩) (fun _ => 0) () ?_ ?_
      · exact weak_cmp C _ (by simp [DropTm, DropV, hb, hb3, hb4, hb5])
      · intro _
        simp only [Zu, Za, Zb, Zg, Zh, Zi, Zk, Zl, Zm, Zn, ↓reduceIte, reduceCtorEq, Zd, Ze, Zc, Zf, Z199]
        refine br_no (by first | exact decide_eq_false (by omega) | exact beq_false_of_ne (by omega) | (simp only [bne_eq_false_iff_eq, beq_eq_false_iff_ne, ne_eq]; omega)) ?_; simp only [Zu, Za, Zb, Zg, Zh, Zi, Zk, Zl, Zm, Zn, ↓reduceIte, reduceCtorEq, Zd, Ze, Zc, Zf, Z199]
        exact PostR.ret
  refine CallP.out (t := .mk) (go_in (md := md179) mixed Tryz.func179 rfl go179 (by kernel_rfl) ?_)
  simp only [Zu, Za, Zb, Zg, Zh, Zi, Zk, Zl, Zm, Zn, ↓reduceIte, reduceCtorEq, Zd, Ze, Zc, Zf, Z179]
  refine call_by st ?_
  rintro r hp' ⟨rfl, rfl⟩
  simp only [Zu, Za, Zb, Zg, Zh, Zi, Zk, Zl, Zm, Zn, ↓reduceIte, reduceCtorEq, Zd, Ze, Zc, Zf, Z179]
  exact PostR.ret
def cel (ty : TypeId) (v : AV) : Blk := { ty := ty, w := 1, els := [v] }
def inN (n : Nat) (x : Int) : Prop := 0 ≤ x ∧ x < n
theorem view1 (v : Int) : view 1 [({ ty := 2, w := 1, els := [.int .i64 v] } : Blk)] (.sl 0 0 1) = .ro [.int .i64 v] := by simp [view_sl, view_int]
def plcB (l : List Int) : Blk := { ty := 3, w := 1, els := ints l }
def quF (W : List Int) (c : Int) (i : Nat) : Int := c * W.getD i 0 / sumI W
def reF (W : List Int) (c : Int) (i : Nat) : Int := rmd (c * W.getD i 0) (sumI W)
def keyR (W : List Int) (c : Int) (i : Nat) : Int := -reF W c i
structure Wts (W : List Int) (c : Int) : Prop where
  one : 1 ≤ W.length
  seven : W.length ≤ 7
  sml : Sml 1000 W
  c0 : 0 ≤ c
  c1 : c ≤ 10000
  some : 1 ≤ sumI W
theorem sumI_rng_succ (f : Nat → Int) (i : Nat) : sumI (rngL f (i + 1)) = sumI (rngL f i) + f i := by
  rw [← rngL_succ, sumI_snoc]
theorem Wts.at_ {W : List Int} {c : Int} (H : Wts W c) (i : Nat) : 0 ≤ W.getD i 0 ∧ W.getD i 0 < 1000 := by
  by_cases h : i < W.length
  · rw [getD_at W 0 i h]; exact H.sml _ (List.getElem_mem h)
  · simp [List.getD_eq_getElem?_getD, List.getElem?_eq_none (show W.length ≤ i by omega)]
theorem Wts.all {W : List Int} {c : Int} (H : Wts W c) : 1 ≤ sumI W ∧ sumI W ≤ 7000 := by
  have s := H.sml.sum
  have l := H.some
  have c0 := H.c0
  have h7 := H.seven
  omega
theorem Wts.prod {W : List Int} {c : Int} (H : Wts W c) (i : Nat) : 0 ≤ c * W.getD i 0 ∧ c * W.getD i 0 ≤ 10000000 := by
  have a := H.at_ i
  have c0 := H.c0
  have x := Int.mul_le_mul_of_nonneg_right H.c1 a.1
  have y := Int.mul_nonneg c0 a.1
  omega
theorem Wts.qu {W : List Int} {c : Int} (H : Wts W c) (i : Nat) : 0 ≤ quF W c i ∧ quF W c i ≤ 10000000 := by
  have s := H.all
  have p := H.prod i
  have q0 : 0 ≤ quF W c i := Int.ediv_nonneg p.1 (by omega)
  have q1 : quF W c i ≤ c * W.getD i 0 := Int.ediv_le_self _ p.1
  omega
theorem Wts.re {W : List Int} {c : Int} (H : Wts W c) (i : Nat) : 0 ≤ reF W c i ∧ reF W c i < sumI W := by
  have s := H.all
  exact ⟨Int.emod_nonneg _ (by omega), Int.emod_lt_of_pos _ (by omega)⟩
theorem rng_self (W : List Int) : rngL (fun i => W.getD i 0) W.length = W := by
  apply List.ext_getElem
  · exact rngL_len _ _
  · intro i h1 h2
    rw [← getD_at _ 0 i h1, rngL_get _ _ _ h2, getD_at W 0 i h2]
def lefF (W : List Int) (c : Int) (i : Nat) : Int := c - sumI (rngL (quF W c) i)
theorem left_rests {W : List Int} {c : Int} (H : Wts W c) : sumI W * lefF W c W.length = sumI (rngL (reF W c) W.length) := by
  have key : ∀ i, sumI W * sumI (rngL (quF W c) i) + sumI (rngL (reF W c) i) = c * sumI (rngL (fun i => W.getD i 0) i) := by
    intro i
    induction i with
    | zero => show sumI W * 0 + 0 = c * 0; omega
    | succ i ih =>
      rw [sumI_rng_succ, sumI_rng_succ, sumI_rng_succ, Int.mul_add, Int.mul_add, ← ih]
      have e : sumI W * quF W c i + reF W c i = c * W.getD i 0 := Int.mul_ediv_add_emod _ _
      omega
  have k := key W.length
  rw [rng_self] at k
  unfold lefF
  rw [Int.mul_sub, Int.mul_comm (sumI W) c]
  omega
theorem lef_bounds {W : List Int} {c : Int} (H : Wts W c) : 0 ≤ lefF W c W.length ∧ lefF W c W.length < W.length := by
  have s := H.all
  have h1 := H.one
  have e := left_rests H
  have low : ∀ i, 0 ≤ sumI (rngL (reF W c) i) ∧ sumI (rngL (reF W c) i) ≤ (sumI W - 1) * (i : Int) := by
    intro i
    induction i with
    | zero => exact ⟨by show (0 : Int) ≤ 0; omega, by show (0 : Int) ≤ _ * 0; omega⟩
    | succ i ih =>
      rw [sumI_rng_succ]
      have r := H.re i
      have : (sumI W - 1) * ((i + 1 : Nat) : Int) = (sumI W - 1) * (i : Int) + (sumI W - 1) := by rw [Int.natCast_add, Int.mul_add]; show _ + _ * 1 = _; omega
      omega
  obtain ⟨l0, l1⟩ := low W.length
  rw [← e] at l0 l1
  generalize lefF W c W.length = L at *
  generalize sumI W = S at *
  constructor
  · apply Classical.byContradiction
    intro h
    have := Int.mul_lt_mul_of_pos_left (show L < 0 by omega) (show 0 < S by omega)
    omega
  · apply Classical.byContradiction
    intro h
    have := Int.mul_le_mul_of_nonneg_left (show (W.length : Int) ≤ L by omega) (show 0 ≤ S by omega)
    have e2 : (S - 1) * (W.length : Int) = S * (W.length : Int) - W.length := by rw [Int.sub_mul]; omega
    omega
theorem lef_mid {W : List Int} {c : Int} (H : Wts W c) (i : Nat) (hi : i ≤ W.length) : -70000000 ≤ lefF W c i ∧ lefF W c i ≤ 10000 := by
  have low : ∀ i, 0 ≤ sumI (rngL (quF W c) i) ∧ sumI (rngL (quF W c) i) ≤ 10000000 * (i : Int) := by
    intro i
    induction i with
    | zero => exact ⟨by show (0 : Int) ≤ 0; omega, by show (0 : Int) ≤ _ * 0; omega⟩
    | succ i ih =>
      rw [sumI_rng_succ]
      have r := H.qu i
      have a := H.at_ i
      omega
  have l := low i
  have c0 := H.c0
  have c1 := H.c1
  have h7 := H.seven
  unfold lefF
  omega
theorem lef_succ (W : List Int) (c : Int) (i : Nat) : lefF W c (i + 1) = lefF W c i - quF W c i := by
  unfold lefF
  rw [sumI_rng_succ]
  omega
def prtF (W : List Int) (c : Int) (j i : Nat) : Int := quF W c i + (if i ∈ (ordN (keyR W c) W.length).take j then 1 else 0)
def prtL (W : List Int) (c : Int) (j : Nat) : List Int := rngL (prtF W c j) W.length
theorem prt_zero (W : List Int) (c : Int) : prtL W c 0 = rngL (quF W c) W.length := by
  unfold prtL rngL
  apply List.map_congr_left
  intro i _
  simp [prtF]
theorem prt_succ (W : List Int) (c : Int) (j : Nat) (hj : j < W.length) : (prtL W c j).set ((ordN (keyR W c) W.length)[j]'(by rw [ordN_len]; exact hj)) ((prtL W c j).getD ((ordN (keyR W c) W.length)[j]'(by rw [ordN_len]; exact hj)) 0 + 1) = prtL W c (j + 1) := by
  have hl := ordN_len (keyR W c) W.length
  have om : (ordN (keyR W c) W.length)[j]'(by omega) < W.length := ordN_mem.1 (List.getElem_mem _)
  have fr := ordN_fresh (keyR W c) W.length j hj
  apply List.ext_getElem
  · simp [prtL, rngL_len]
  · intro i h1 h2
    have hi : i < W.length := by simpa [prtL, rngL_len] using h2
    have g : ∀ j, (prtL W c j).getD i 0 = prtF W c j i := fun j => rngL_get _ _ _ hi
    rw [← getD_at (prtL W c (j + 1)) 0 i h2, g, List.getElem_set]
    have ht : (ordN (keyR W c) W.length).take (j + 1) = (ordN (keyR W c) W.length).take j ++ [(ordN (keyR W c) W.length)[j]'(by omega)] := by
      rw [List.take_add_one, List.getElem?_eq_getElem (by omega)]; rfl
    generalize (ordN (keyR W c) W.length)[j]'(by omega) = o at *
    by_cases e : o = i
    · subst e
      rw [if_pos rfl, g]
      unfold prtF
      rw [ht, if_neg fr, if_pos (by simp)]
      omega
    · rw [if_neg e]
      have h3 : i < (prtL W c j).length := by simpa [prtL, rngL_len] using hi
      rw [← getD_at (prtL W c j) 0 i h3, g]
      unfold prtF
      rw [ht]
      congr 1
      by_cases m : i ∈ (ordN (keyR W c) W.length).take j
      · rw [if_pos m, if_pos (List.mem_append_left _ m)]
      · rw [if_neg m, if_neg]
        intro x
        rcases List.mem_append.1 x with x | x
        · exact m x
        · exact e (List.mem_singleton.1 x).symm
theorem prt_bound {W : List Int} {c : Int} (H : Wts W c) (j i : Nat) : 0 ≤ prtF W c j i ∧ prtF W c j i ≤ 10000001 := by
  have q := H.qu i
  have a := H.at_ i
  unfold prtF
  split <;> omega
def parM (W : List Int) (c : Int) (x y : Int) : Int := if reF W c y.toNat < reF W c x.toNat then -1 else if reF W c x.toNat < reF W c y.toNat then 1 else 0
theorem parLt (W : List Int) (c : Int) : ltC (parM W c) = lk (keyR W c) := by
  funext x y
  unfold ltC lk parM keyR
  rw [Bool.eq_iff_iff]
  simp only [decide_eq_true_eq]
  split
  · omega
  · split <;> omega
def rstB (l : List Int) : Blk := { ty := 95, w := 1, els := kint .u64 l }
def parC (W : List Int) (c : Int) : List Blk := [cel 209 (.sl 2 0 W.length), rstB (rngL (reF W c) W.length)]
theorem parCmp_call {W : List Int} {c : Int} (q : Blk) (hq : allBelow 3 q.els = true) (x y : Int) (hx : inN W.length x) (hy : inN W.length y) :
    CallA Tryz.prog 180 [.int .i64 x, .int .i64 y, .ptr 1 0 0] (q :: parC W c) (Ret (.int .i64 (parM W c x y)) (q :: parC W c)) := by
  obtain ⟨x0, x1⟩ := hx
  obtain ⟨y0, y1⟩ := hy
  obtain ⟨a, rfl⟩ := Int.eq_ofNat_of_zero_le x0
  obtain ⟨b, rfl⟩ := Int.eq_ofNat_of_zero_le y0
  have ha : a < W.length := by omega
  have hb : b < W.length := by omega
  have rl : (rngL (reF W c) W.length).length = W.length := rngL_len _ _
  have ga : ∀ i (h : i < (rngL (reF W c) W.length).length), (rngL (reF W c) W.length)[i] = reF W c i := fun i h => by
    rw [← getD_at _ 0 i h]; exact rngL_get _ _ _ (by omega)
  refine CallP.out (t := .mk) (go_in (md := md180) mixed Tryz.func180 rfl go180 (by kernel_rfl) ?_)
  simp only [Zu, Za, Zb, Zg, Zh, Zi, Zk, Zl, Zm, Zn, ↓reduceIte, reduceCtorEq, Zd, Ze, Zc, Zf, Z180, parC, cel, rstB, kint_len, kint_get, rl, ga]
  refine ⟨by omega, ha, by omega, hb, ?_⟩
  refine br_intro (fun g => ?_) (fun g => ?_) <;> simp only [Zu, Za, Zb, Zg, Zh, Zi, Zk, Zl, Zm, Zn, ↓reduceIte, reduceCtorEq, Zd, Ze, Zc, Zf, Z180, parC, cel, rstB, kint_len, kint_get, rl, ga]
  · have g' := of_decide_eq_true g
    have e : parM W c (a : Int) (b : Int) = -1 := by unfold parM; rw [if_pos (by simpa using g')]
    rw [e]
    exact PostR.ret
  · have g' := of_decide_eq_false g
    refine ⟨by omega, ha, by omega, hb, ?_⟩
    refine br_intro (fun u => ?_) (fun u => ?_) <;> simp only [Zu, Za, Zb, Zg, Zh, Zi, Zk, Zl, Zm, Zn, ↓reduceIte, reduceCtorEq, Zd, Ze, Zc, Zf, Z180, parC, cel, rstB, kint_len, kint_get, rl, ga]
    · have u' := of_decide_eq_true u
      have e : parM W c (a : Int) (b : Int) = 1 := by unfold parM; rw [if_neg (by simpa using g'), if_pos (by simpa using u')]
      rw [e]
      exact PostR.ret
    · have u' := of_decide_eq_false u
      have e : parM W c (a : Int) (b : Int) = 0 := by unfold parM; rw [if_neg (by simpa using g'), if_neg (by simpa using u')]
      rw [e]
      exact PostR.ret
theorem parCmp_ok (W : List Int) (c : Int) (e : TypeId) : Cmpr 180 [.ptr 1 0 0] (parC W c) e (inN W.length) (parM W c) where
  call := fun l x y hx hy => parCmp_call _ (ints_below _ _) x y hx hy
  low := rfl
  flat := by
    intro q hq
    simp only [parC, List.mem_cons, List.not_mem_nil, or_false] at hq
    rcases hq with rfl | rfl
    · rfl
    · exact kint_below _
theorem parSort_call {W : List Int} {c : Int} (H : Wts W c) : CallA Tryz.prog 179 [.sl 0 0 W.length, .fn 180 [.ptr 1 0 0]] (plcB (idL W.length) :: parC W c) (Ret (.tup []) (plcB (ordK (keyR W c) W.length) :: parC W c)) := by
  have l : (idL W.length).length = W.length := rngL_len _ _
  have h1 := H.one
  have h7 := H.seven
  have s := stable_call (parCmp_ok W c 3) (idL W.length) (by omega) (by omega) (fun x hx => idL_mem.1 hx)
  rw [l, parLt] at s
  exact s
def boxB (v : AV) : Blk := cel 209 v
theorem kkill (k : IntKind) (b : Nat) (l : List Int) : List.map (kill b) (kint k l) = kint k l := by
  unfold kint
  rw [List.map_map]
  exact List.map_congr_left fun y _ => rfl
def ParS (i : Nat) (hp : List Blk) : Prop := hp[3]? = some { ty := 209, w := 1, els := [.sl 2 0 i] } ∧ ∀ b ∈ hp, allBelow hp.length b.els = true
def ParW (hp : List Blk) : Prop := ∀ b ∈ hp, allBelow hp.length b.els = true
theorem view1u (v : Int) : view 1 [({ ty := 95, w := 1, els := [.int .u64 v] } : Blk)] (.sl 0 0 1) = .ro [.int .u64 v] := by simp [view_sl, view_int]
theorem view1p (v : Int) : view 1 [({ ty := 3, w := 1, els := [.int .i64 v] } : Blk)] (.sl 0 0 1) = .ro [.int .i64 v] := by simp [view_sl, view_int]
theorem parted_call {W : List Int} {c : Int} (H : Wts W c) : CallA Tryz.prog 137 [.int .i64 c, .ro (ints W)] [] (Ret (.sl 0 0 W.length) [intB (prtL W c (lefF W c W.length).toNat)]) := by
  have h1 := H.one
  have h7 := H.seven
  have s := H.all
  have c0 := H.c0
  have c1 := H.c1
  have S2 : Sml 2000 W := fun x hx => by have := H.sml x hx; omega
  have es : IntKind.u64.wrap (sumI W) = sumI W := IntWalk.u64_in _ (by omega)
  have ec : IntKind.u64.wrap c = c := IntWalk.u64_in _ (by omega)
  refine CallP.out (t := .mk) (go_in (md := md137) mixed Tryz.func137 rfl go137 (by kernel_rfl) ?_)
  simp only [Zu, Za, Zb, Zg, Zh, Zi, Zk, Zl, Zm, sliceA, Zn, ↓reduceIte, reduceCtorEq, Zd, Ze, Zc, Zf, Z137]
  refine call_ret (total_call W S2 (by omega)) rfl rfl ?_
  simp only [Zu, Za, Zb, Zg, Zh, Zi, Zk, Zl, Zm, sliceA, Zn, ↓reduceIte, reduceCtorEq, Zd, Ze, Zc, Zf, Z137, es]
  refine go_round (md := md137) mixed (by kernel_rfl) (fun i : {i : Nat // i ≤ W.length} => ⟨((.int .i64 c) :: .any :: .any :: .any :: .any :: (.int .u64 (sumI W)) :: (.sl 0 0 i.1) :: (.sl 1 0 i.1) :: (.ptr 3 0 0) :: (.int .i64 (lefF W c i.1)) :: .any :: .any :: .any :: .any :: .any :: .any :: .any :: .any :: .any :: .any :: .any :: .any :: .any :: .any :: .any :: (.ro (ints W)) :: (.int .i64 W.length) :: (.int .i64 (i.1 : Int)) :: .any :: .any :: .any :: .any :: .any :: .any :: .any :: .any :: .any :: .any :: .any :: .any :: .any :: .any :: .any :: .any :: .any :: .any :: .any :: .any :: .any :: .any :: .any :: .any :: .any :: .any :: .any :: .any :: .any :: .any :: .any :: .any :: .any :: .any :: .any :: .any :: .any :: .any :: .any :: .any :: .any :: .any :: .any :: .any :: .any :: .any :: .any :: .any :: .any :: .any :: .any :: .any :: .any :: .any :: .any :: .any :: []), [intB (rngL (quF W c) i.1), plcB (idL i.1), rstB (rngL (reF W c) i.1), boxB (.sl 2 0 i.1)]⟩) (fun i => W.length - i.1) ⟨0, by omega⟩ ?_ ?_
  · have z1 : ∀ f, rngL f 0 = [] := fun _ => rfl
    have z2 : idL 0 = [] := rfl
    have z3 : ints [] = [] := rfl
    have z4 : ∀ k, kint k [] = [] := fun _ => rfl
    have z5 : lefF W c 0 = c := by show c - 0 = c; omega
    rw [z1, z1, z2, z5]
    exact weak_drop (by simp) (by simp [DropHp, ints_below, flts_below, intB, plcB, rstB, boxB, cel, z3, z4, allBelow_cons, allBelow_nil, below, belowM, belowL]) (by simp [DropTm, DropV, below, belowM, belowL, intB, plcB, rstB, boxB, cel, z3, z4, allBelow_cons, allBelow_nil, below, belowM, belowL])
  rintro ⟨i, hi⟩
  have lq : (rngL (quF W c) i).length = i := rngL_len _ _
  have lr : (rngL (reF W c) i).length = i := rngL_len _ _
  have lo : (idL i).length = i := rngL_len _ _
  simp only [Zu, Za, Zb, Zg, Zh, Zi, Zk, Zl, Zm, sliceA, Zn, ↓reduceIte, reduceCtorEq, Zd, Ze, Zc, Zf, Z137, intB, plcB, rstB, boxB, cel, ints_len, kint_len, lq, lr, lo]
  refine br_intro (fun g => ?_) (fun g => ?_) <;> simp only [Zu, Za, Zb, Zg, Zh, Zi, Zk, Zl, Zm, sliceA, Zn, ↓reduceIte, reduceCtorEq, Zd, Ze, Zc, Zf, Z137, intB, plcB, rstB, boxB, cel, ints_len, kint_len, lq, lr, lo]
  · have hi' : i < W.length := by have := of_decide_eq_true g; omega
    have a := H.at_ i
    have p := H.prod i
    have qb := H.qu i
    have rb := H.re i
    have lm := lef_mid H i hi
    have lm2 := lef_mid H (i + 1) (by omega)
    rw [lef_succ] at lm2
    have gw := getD_at W 0 i hi'
    have ew : IntKind.u64.wrap W[i] = W[i] := IntWalk.u64_in _ (by rw [← gw]; omega)
    have mc := mul64_call c W[i] c0 (by omega) (by rw [← gw]; omega) (by rw [← gw]; omega)
    have dc := div64_call (c * W[i]) (sumI W) (by rw [← gw]; omega) (by rw [← gw]; omega) (by omega) (by omega)
    have eq1 : c * W[i] / sumI W = quF W c i := by rw [← gw]; rfl
    have eq2 : c * W[i] % sumI W = reF W c i := by rw [← gw]; rfl
    rw [eq1, eq2] at dc
    have e5 : IntKind.i64.wrap (quF W c i) = quF W c i := w64 (by omega) (by omega)
    have e6 : IntKind.i64.wrap (lefF W c i - quF W c i) = lefF W c (i + 1) := by rw [lef_succ]; exact w64 (by omega) (by omega)
    refine ⟨hi', ?_⟩
    rw [ec, ew]
    refine call_ret mc rfl rfl ?_
    simp only [Zu, Za, Zb, Zg, Zh, Zi, Zk, Zl, Zm, sliceA, Zn, ↓reduceIte, reduceCtorEq, Zd, Ze, Zc, Zf, Z137]
    refine call_ret dc rfl rfl ?_
    simp only [Zu, Za, Zb, Zg, Zh, Zi, Zk, Zl, Zm, sliceA, Zn, ↓reduceIte, reduceCtorEq, Zd, Ze, Zc, Zf, Z137, e5, e6]
    have hS : ParS i [{ ty := 2, w := 1, els := ints (rngL (quF W c) i) }, { ty := 3, w := 1, els := ints (idL i) }, { ty := 95, w := 1, els := kint .u64 (rngL (reF W c) i) }, { ty := 209, w := 1, els := [.sl 2 0 i] }] := ⟨rfl, by
      intro b hb
      simp only [List.mem_cons, List.not_mem_nil, or_false] at hb
      rcases hb with rfl | rfl | rfl | rfl
      · exact ints_below _ _
      · exact ints_below _ _
      · exact kint_below _
      · rfl⟩
    refine go_float2 mixed (ParS i) ParW [0, 1, 2, 3, 5, 6, 7, 9, 10, 11, 4, 8, 12, 13, 14, 15] [3, 3, 3, 3, 2, 0, 0, 0, 4, 5, 5, 5, 1, 1, 1, 1] [none, none, none, none, some 0, none, none, none, some 2] [[], [], [], [], [], [0], [0], [0], [], [0, 2], [0, 2], [0, 2]] (fun hp h => h.2) (by kernel_rfl) ?_
    iterate 3 (refine om_calm (by rfl) (by rfl) (by rfl) (by rfl) ?_; try simp only []; simp only [Zu, Za, Zb, Zg, Zh, Zi, Zk, Zl, Zm, sliceA, Zn, ↓reduceIte, reduceCtorEq, Zd, Ze, Zc, Zf, Z137, e5])
    refine om_calmF (by rfl) (by rfl) (by rfl) (by rfl) { ty := 2, w := 1, els := [.int .i64 (quF W c i)] } 1 (.sl 0 0 1) rfl rfl hS.2 rfl (by simp only [Zu, Za, Zb, Zg, Zh, Zi, Zk, Zl, Zm, sliceA, Zn, ↓reduceIte, reduceCtorEq, Zd, Ze, Zc, Zf, Z137]; rfl) ?_
    rw [view1]
    simp only [Zu, Za, Zb, Zg, Zh, Zi, Zk, Zl, Zm, sliceA, Zn, ↓reduceIte, reduceCtorEq, Zd, Ze, Zc, Zf, Z137]
    refine om_quiet (by rfl) (by rfl) (by rfl) hS (v := .sl 2 0 i) (fun hp hH => by obtain ⟨h3, hf⟩ := hH; simp only [Zu, Za, Zb, Zg, Zh, Zi, Zk, Zl, Zm, sliceA, Zn, ↓reduceIte, reduceCtorEq, Zd, Ze, Zc, Zf, Z137, h3]) ⟨by simp [Fixed, kill, killM, killL], by intro x hx; simp [Op.operands] at hx; first | (subst hx; simp [Fixed, St.ev, ofV, ofL, kill, killM, killL]) | (rcases hx with rfl | rfl <;> simp [Fixed, St.ev, ofV, ofL, kill, killM, killL]) | (rcases hx with rfl | rfl | rfl <;> simp [Fixed, St.ev, ofV, ofL, kill, killM, killL])⟩ ?_; try simp only []; simp only [Zu, Za, Zb, Zg, Zh, Zi, Zk, Zl, Zm, sliceA, Zn, ↓reduceIte, reduceCtorEq, Zd, Ze, Zc, Zf, Z137]
    refine om_quiet (by rfl) (by rfl) (by rfl) hS (v := .int .u64 (reF W c i)) (fun hp hH => by obtain ⟨h3, hf⟩ := hH; simp only [Zu, Za, Zb, Zg, Zh, Zi, Zk, Zl, Zm, sliceA, Zn, ↓reduceIte, reduceCtorEq, Zd, Ze, Zc, Zf, Z137, h3]) ⟨by simp [Fixed, kill, killM, killL], by intro x hx; simp [Op.operands] at hx; first | (subst hx; simp [Fixed, St.ev, ofV, ofL, kill, killM, killL]) | (rcases hx with rfl | rfl <;> simp [Fixed, St.ev, ofV, ofL, kill, killM, killL]) | (rcases hx with rfl | rfl | rfl <;> simp [Fixed, St.ev, ofV, ofL, kill, killM, killL])⟩ ?_; try simp only []; simp only [Zu, Za, Zb, Zg, Zh, Zi, Zk, Zl, Zm, sliceA, Zn, ↓reduceIte, reduceCtorEq, Zd, Ze, Zc, Zf, Z137]
    refine om_fresh (by rfl) (by rfl) (by rfl) hS { ty := 95, w := 1, els := [.int .u64 (reF W c i)] } 1 (.sl 0 0 1) rfl rfl rfl (fun hp hH => hH.2) (fun hp hH => by simp only [Zu, Za, Zb, Zg, Zh, Zi, Zk, Zl, Zm, sliceA, Zn, ↓reduceIte, reduceCtorEq, Zd, Ze, Zc, Zf, Z137]; rfl) (by rw [view1u]; exact ⟨by simp [Fixed, kill, killM, killL], by intro x hx; simp [Op.operands] at hx; subst hx; simp [Fixed, St.ev, ofV, ofL, kill, killM, killL]⟩) ?_
    rw [view1u]
    simp only [Zu, Za, Zb, Zg, Zh, Zi, Zk, Zl, Zm, sliceA, Zn, ↓reduceIte, reduceCtorEq, Zd, Ze, Zc, Zf, Z137]
    refine om_weak (by rfl) (by rfl) (by rfl) hS.2 (v := .sl 1 0 i) (fun hp hH => by simp only [Zu, Za, Zb, Zg, Zh, Zi, Zk, Zl, Zm, sliceA, Zn, ↓reduceIte, reduceCtorEq, Zd, Ze, Zc, Zf, Z137]) ⟨by simp [Fixed, kill, killM, killL], by intro x hx; simp [Op.operands] at hx; subst hx; simp [Fixed, St.ev, ofV, ofL, kill, killM, killL]⟩ ?_
    try simp only []
    simp only [Zu, Za, Zb, Zg, Zh, Zi, Zk, Zl, Zm, sliceA, Zn, ↓reduceIte, reduceCtorEq, Zd, Ze, Zc, Zf, Z137]
    refine om_weak (by rfl) (by rfl) (by rfl) hS.2 (v := .int .i64 (i : Int)) (fun hp hH => by simp only [Zu, Za, Zb, Zg, Zh, Zi, Zk, Zl, Zm, sliceA, Zn, ↓reduceIte, reduceCtorEq, Zd, Ze, Zc, Zf, Z137]) ⟨by simp [Fixed, kill, killM, killL], by intro x hx; simp [Op.operands] at hx; subst hx; simp [Fixed, St.ev, ofV, ofL, kill, killM, killL]⟩ ?_
    try simp only []
    simp only [Zu, Za, Zb, Zg, Zh, Zi, Zk, Zl, Zm, sliceA, Zn, ↓reduceIte, reduceCtorEq, Zd, Ze, Zc, Zf, Z137]
    refine om_weakF (by rfl) (by rfl) (by rfl) hS.2 { ty := 3, w := 1, els := [.int .i64 (i : Int)] } 1 (.sl 0 0 1) rfl rfl rfl (fun hp hH => hH) (fun hp hH => by simp only [Zu, Za, Zb, Zg, Zh, Zi, Zk, Zl, Zm, sliceA, Zn, ↓reduceIte, reduceCtorEq, Zd, Ze, Zc, Zf, Z137]; rfl) (by rw [view1p]; exact ⟨by simp [Fixed, kill, killM, killL], by intro x hx; simp [Op.operands] at hx; subst hx; simp [Fixed, St.ev, ofV, ofL, kill, killM, killL]⟩) ?_
    rw [view1p]
    simp only [Zu, Za, Zb, Zg, Zh, Zi, Zk, Zl, Zm, sliceA, Zn, ↓reduceIte, reduceCtorEq, Zd, Ze, Zc, Zf, Z137]
    refine om_float (by rfl) (by rfl) (by rfl) ?_
    simp only [Zu, Za, Zb, Zg, Zh, Zi, Zk, Zl, Zm, sliceA, Zn, ↓reduceIte, reduceCtorEq, Zd, Ze, Zc, Zf, Z137, ints_len, kint_len, lq, lr, lo, allW_int, fits, List.isEmpty_cons, brk_false, Nat.reduceMul]
    rw [kkill]
    refine ⟨by omega, .inr trivial, ⟨rfl, by
      intro b hb
      simp only [List.mem_cons, List.not_mem_nil, or_false] at hb
      rcases hb with rfl | rfl | rfl | rfl
      · exact ints_below _ _
      · exact ints_below _ _
      · exact kint_below _
      · rfl⟩, ?_⟩
    refine om_freeW (by rfl) (by rfl) (by rfl) ?_
    simp only [Zu, Za, Zb, Zg, Zh, Zi, Zk, Zl, Zm, sliceA, Zn, ↓reduceIte, reduceCtorEq, Zd, Ze, Zc, Zf, Z137, ints_len, kint_len, lq, lr, lo, allW_int, fits, List.isEmpty_cons, brk_false, Nat.reduceMul]
    have ek : List.map (kill 2) (kint .u64 (rngL (reF W c) i) ++ [.int .u64 (reF W c i)]) = kint .u64 (rngL (reF W c) (i + 1)) := by
      have ea : kint .u64 (rngL (reF W c) i ++ [reF W c i]) = kint .u64 (rngL (reF W c) i) ++ [.int .u64 (reF W c i)] := by simp [kint]
      rw [← ea, kkill, rngL_succ]
    rw [ek]
    refine ⟨by omega, .inr trivial, ?_, ?_⟩
    · intro b hb
      simp only [List.mem_cons, List.not_mem_nil, or_false] at hb
      rcases hb with rfl | rfl | rfl | rfl
      · exact ints_below _ _
      · exact ints_below _ _
      · exact kint_below _
      · rfl
    refine om_one (by rfl) (by rfl) (by rfl) ?_
    simp only [Zu, Za, Zb, Zg, Zh, Zi, Zk, Zl, Zm, sliceA, Zn, ↓reduceIte, reduceCtorEq, Zd, Ze, Zc, Zf, Z137, ints_len, kint_len, lq, lr, lo, allW_int, fits, List.isEmpty_cons, brk_false, Nat.reduceMul]
    refine ⟨by omega, ?_⟩
    rw [kkill]
    refine om_one (by rfl) (by rfl) (by rfl) ?_; try simp only []; simp only [Zu, Za, Zb, Zg, Zh, Zi, Zk, Zl, Zm, sliceA, Zn, ↓reduceIte, reduceCtorEq, Zd, Ze, Zc, Zf, Z137]
    refine om_one (by rfl) (by rfl) (by rfl) ?_; try simp only []; simp only [Zu, Za, Zb, Zg, Zh, Zi, Zk, Zl, Zm, sliceA, Zn, ↓reduceIte, reduceCtorEq, Zd, Ze, Zc, Zf, Z137]
    refine om_one (by rfl) (by rfl) (by rfl) ?_; try simp only []; simp only [Zu, Za, Zb, Zg, Zh, Zi, Zk, Zl, Zm, sliceA, Zn, ↓reduceIte, reduceCtorEq, Zd, Ze, Zc, Zf, Z137]
    refine om_nil ?_
    simp only [Zu, Za, Zb, Zg, Zh, Zi, Zk, Zl, Zm, sliceA, Zn, ↓reduceIte, reduceCtorEq, Zd, Ze, Zc, Zf, Z137, e5, e6]
    have q1_ : rngL (quF W c) i ++ [quF W c i] = rngL (quF W c) (i + 1) := rngL_succ _ _
    have q2_ : idL i ++ [(i : Int)] = idL (i + 1) := rngL_succ _ _
    refine ⟨⟨i + 1, by omega⟩, by show W.length - (i + 1) < W.length - i; omega, ?_⟩
    show Weak 0 _ ⟨_, _⟩
    rw [q1_, q2_]
    exact weak_drop (by simp) (by simp [DropHp, ints_below, flts_below, w64_succ i (by omega), intB, plcB, rstB, boxB, cel, kint_below, allBelow_cons, allBelow_nil, below, belowM, belowL]) (by simp [DropTm, DropV, below, belowM, belowL, w64_succ i (by omega), intB, plcB, rstB, boxB, cel, kint_below, allBelow_cons, allBelow_nil, below, belowM, belowL])
  · have hi' : i = W.length := by have := of_decide_eq_false g; omega
    subst hi'
    have srt := parSort_call H
    refine call_subG [1, 3, 2] srt (by decide) ⟨⟨by simp [renB, ints_ren, plcB], ints_below _ _⟩, ⟨rfl, rfl⟩, ⟨by simp [renB, rstB, kint_ren], kint_below _⟩, trivial⟩ rfl rfl (hp2 := [intB (rngL (quF W c) W.length), plcB (ordK (keyR W c) W.length), rstB (rngL (reF W c) W.length), boxB (.sl 2 0 W.length)]) (by simp [subHp, putBack, renB, upName, parC, cel, ren, renM, renL, ints_ren, kint_ren, rstB, boxB, plcB, intB]) ?_
    simp only [Zu, Za, Zb, Zg, Zh, Zi, Zk, Zl, Zm, sliceA, Zn, ↓reduceIte, reduceCtorEq, Zd, Ze, Zc, Zf, Z137, intB, plcB, rstB, boxB, cel, ints_len, kint_len, lq, lr, lo, ren, renM, renL]
    obtain ⟨L0, L1⟩ := lef_bounds H
    obtain ⟨m, hm⟩ := Int.eq_ofNat_of_zero_le L0
    rw [hm, Int.toNat_natCast]
    rw [hm] at L0 L1
    refine ⟨by decide, L0, by omega, ?_⟩
    have ko := ordK_len (keyR W c) W.length
    have kn := ordN_len (keyR W c) W.length
    refine go_round (md := md137) mixed (by kernel_rfl) (fun j : {j : Nat // j ≤ m} => ⟨(.any :: .any :: .any :: .any :: .any :: .any :: (.sl 0 0 W.length) :: .any :: .any :: .any :: .any :: .any :: .any :: .any :: .any :: .any :: .any :: .any :: .any :: .any :: .any :: .any :: .any :: .any :: .any :: .any :: .any :: .any :: .any :: .any :: .any :: .any :: .any :: .any :: .any :: .any :: .any :: .any :: .any :: .any :: .any :: .any :: .any :: .any :: .any :: .any :: .any :: .any :: .any :: .any :: .any :: .any :: .any :: .any :: .any :: .any :: .any :: .any :: .any :: .any :: .any :: .any :: .any :: .any :: .any :: .any :: .any :: .any :: .any :: .any :: (.sl 1 0 m) :: (.int .i64 (m : Int)) :: (.int .i64 (j.1 : Int)) :: .any :: .any :: .any :: .any :: .any :: .any :: .any :: .any :: .any :: .any :: .any :: []), [intB (prtL W c j.1), plcB (ordK (keyR W c) W.length), rstB (rngL (reF W c) W.length), boxB (.sl 2 0 W.length)]⟩) (fun j => m - j.1) ⟨0, by omega⟩ ?_ ?_
    · rw [prt_zero]
      exact weak_drop (by simp) (by simp [DropHp, ints_below, flts_below, intB, plcB, rstB, boxB, cel, kint_below, Int.sub_zero, allBelow_cons, allBelow_nil, below, belowM, belowL]) (by simp [DropTm, DropV, below, belowM, belowL, intB, plcB, rstB, boxB, cel, kint_below, Int.sub_zero, allBelow_cons, allBelow_nil, below, belowM, belowL])
    rintro ⟨j, hj⟩
    have pl : (prtL W c j).length = W.length := rngL_len _ _
    simp only [Zu, Za, Zb, Zg, Zh, Zi, Zk, Zl, Zm, sliceA, Zn, ↓reduceIte, reduceCtorEq, Zd, Ze, Zc, Zf, Z137, intB, plcB, rstB, boxB, cel, ints_len, kint_len, ko, pl]
    refine br_intro (fun g => ?_) (fun g => ?_) <;> simp only [Zu, Za, Zb, Zg, Zh, Zi, Zk, Zl, Zm, sliceA, Zn, ↓reduceIte, reduceCtorEq, Zd, Ze, Zc, Zf, Z137, intB, plcB, rstB, boxB, cel, ints_len, kint_len, ko, pl]
    · have hj' : j < m := by have := of_decide_eq_true g; omega
      have hj2 : j < W.length := by omega
      have hk' : j < (ordK (keyR W c) W.length).length := by omega
      have om := ordK_mem.1 (List.getElem_mem hk')
      have eN : (ordN (keyR W c) W.length)[j]'(by omega) = ((ordK (keyR W c) W.length)[j]).toNat := by simp [ordN]
      have st := prt_succ W c j hj2
      rw [eN] at st
      have ho : ((ordK (keyR W c) W.length)[j]).toNat < W.length := by omega
      have hp : ((ordK (keyR W c) W.length)[j]).toNat < (prtL W c j).length := by omega
      rw [getD_at (prtL W c j) 0 _ hp] at st
      have pb := prt_bound H j ((ordK (keyR W c) W.length)[j]).toNat
      have pe : (prtL W c j)[((ordK (keyR W c) W.length)[j]).toNat] = prtF W c j ((ordK (keyR W c) W.length)[j]).toNat := by
        rw [← getD_at (prtL W c j) 0 _ hp]; exact rngL_get _ _ _ ho
      have e7 : IntKind.i64.wrap ((prtL W c j)[((ordK (keyR W c) W.length)[j]).toNat] + 1) = (prtL W c j)[((ordK (keyR W c) W.length)[j]).toNat] + 1 := by rw [pe]; exact w64 (by omega) (by omega)
      refine ⟨by omega, hj2, om.1, om.2, by first | exact ho | exact hp, om.1, om.2, ho, ⟨j + 1, by omega⟩, by show m - (j + 1) < m - j; omega, ?_⟩
      show Weak 0 _ ⟨_, _⟩
      rw [e7, ints_set, st]
      exact weak_drop (by simp) (by simp [DropHp, ints_below, flts_below, w64_succ j (by omega), intB, plcB, rstB, boxB, cel, kint_below, allBelow_cons, allBelow_nil, below, belowM, belowL]) (by simp [DropTm, DropV, below, belowM, belowL, w64_succ j (by omega), intB, plcB, rstB, boxB, cel, kint_below, allBelow_cons, allBelow_nil, below, belowM, belowL])
    · have hj' : j = m := by have := of_decide_eq_false g; omega
      subst hj'
      exact PostR.tell [0] (hp2 := [intB (prtL W c j)]) (by decide) (by decide) (by decide) ⟨⟨congrArg some (renB_flat (r := intB _) (ints_below _ _)).symm, ints_below _ _⟩, trivial⟩ rfl rfl ⟨rfl, rfl⟩
end Go.Proofs.YtodjjpmigcacoaaGreatDoor
