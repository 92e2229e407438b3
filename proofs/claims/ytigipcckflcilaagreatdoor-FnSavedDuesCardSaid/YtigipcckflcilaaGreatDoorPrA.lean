/- Texts of rules that are read: the plain law of the program's reading. -/
import Derived.Test.YtigipcckflcilaaGreatDoorStI
import Derived.Test.YtigipcckflcilaaGreatDoorRdP
import Derived.Test.YtigipcckflcilaaGreatDoorAbsM3
import Derived.Lib.CountLaws
import Derived.Lib.Split
import Derived.Lib.IndexMore
import Derived.Lib.Strings
set_option maxRecDepth 10000
set_option maxHeartbeats 2000000
set_option linter.unusedSimpArgs false
set_option linter.unusedVariables false
namespace Go.Proofs.YtigipcckflcilaaGreatDoor
open Go Go.Abs

theorem index_no (c : UInt8) (t : List UInt8) : ∀ a : List UInt8, c ∉ a → Lib.index a (c :: t) = -1
  | [], _ => rfl
  | x :: a, h => by
    have hx : c ≠ x := fun e => h (by rw [e]; exact List.mem_cons_self)
    have ha : c ∉ a := fun m => h (List.mem_cons_of_mem _ m)
    unfold Lib.index
    rw [if_neg (by simp [List.isPrefixOf, hx]), index_no c t a ha]
    rfl
theorem index_at (c : UInt8) (t b : List UInt8) : ∀ a : List UInt8, c ∉ a → Lib.index (a ++ (c :: t) ++ b) (c :: t) = a.length
  | [], _ => by
    show Lib.index (c :: (t ++ b)) (c :: t) = 0
    unfold Lib.index
    rw [if_pos (by simp [List.isPrefixOf])]
  | x :: a, h => by
    have hx : c ≠ x := fun e => h (by rw [e]; exact List.mem_cons_self)
    have ha : c ∉ a := fun m => h (List.mem_cons_of_mem _ m)
    have ih := index_at c t b a ha
    show Lib.index (x :: (a ++ (c :: t) ++ b)) (c :: t) = _
    unfold Lib.index
    rw [if_neg (by simp [List.isPrefixOf, hx]), ih, if_neg (by simp)]
    simp
theorem cut_at (c : UInt8) (t b a : List UInt8) (h : c ∉ a) : Lib.cut (a ++ (c :: t) ++ b) (c :: t) = (a, b, true) := by
  unfold Lib.cut
  rw [index_at c t b a h, if_pos (by omega)]
  have e1 : (a ++ (c :: t) ++ b).take (a.length : Int).toNat = a := by rw [List.append_assoc]; simp
  have e2 : (a ++ (c :: t) ++ b).drop ((a.length : Int).toNat + (c :: t).length) = b := by
    rw [show (a.length : Int).toNat + (c :: t).length = (a ++ (c :: t)).length by simp]
    exact List.drop_left
  rw [e1, e2]
theorem words_no (c : UInt8) (t a : List UInt8) (h : c ∉ a) : words (c :: t) a = [a] := by
  have hi : Lib.indexB ⟨a.toArray⟩ ⟨(c :: t).toArray⟩ = -1 := index_no c t a h
  unfold words
  rw [Lib.splitB_miss _ _ _ _ hi]
  rfl
theorem words_at (c : UInt8) (t a b : List UInt8) (h : c ∉ a) : words (c :: t) (a ++ (c :: t) ++ b) = a :: words (c :: t) b := by
  have hi : Lib.indexB ⟨(a ++ (c :: t) ++ b).toArray⟩ ⟨(c :: t).toArray⟩ = (a.length : Nat) := index_at c t b a h
  have h1 : 1 ≤ (⟨(c :: t).toArray⟩ : ByteArray).size := by simp [ByteArray.size]
  have hs : (⟨(c :: t).toArray⟩ : ByteArray).size = (c :: t).length := by simp [ByteArray.size]
  have ex : (⟨(a ++ (c :: t) ++ b).toArray⟩ : ByteArray).extract (a.length + (⟨(c :: t).toArray⟩ : ByteArray).size) (⟨(a ++ (c :: t) ++ b).toArray⟩ : ByteArray).size = ⟨b.toArray⟩ := by
    apply ByteArray.ext
    rw [ByteArray.data_extract]
    apply Array.ext'
    rw [Array.toList_extract, hs]
    show ((a ++ (c :: t) ++ b).extract _ _) = b
    rw [List.extract_eq_take_drop, show a.length + (c :: t).length = (a ++ (c :: t)).length by simp, List.drop_left]
    exact List.take_of_length_le (by simp [ByteArray.size]; omega)
  have ex2 : (⟨(a ++ (c :: t) ++ b).toArray⟩ : ByteArray).extract 0 (a.length + 0) = ⟨a.toArray⟩ := by
    apply ByteArray.ext
    rw [ByteArray.data_extract]
    apply Array.ext'
    rw [Array.toList_extract]
    show ((a ++ (c :: t) ++ b).extract _ _) = a
    rw [List.extract_eq_take_drop]
    simp
  unfold words
  rw [Lib.countB_hit _ _ _ h1 hi, ex, Nat.add_comm 1, Lib.splitB_hit _ _ _ _ _ hi, ex, ex2]
  rfl
theorem words_join (c : UInt8) (t : List UInt8) : ∀ (xs : List (List UInt8)), xs ≠ [] → (∀ x ∈ xs, c ∉ x) → words (c :: t) (Lib.join xs (c :: t)) = xs
  | [], h, _ => absurd rfl h
  | [x], _, h => by rw [Lib.join_one]; exact words_no c t x (h x List.mem_cons_self)
  | x :: y :: r, _, h => by
    have ih := words_join c t (y :: r) (by simp) (fun z hz => h z (List.mem_cons_of_mem _ hz))
    have e : Lib.join (x :: y :: r) (c :: t) = x ++ (c :: t) ++ Lib.join (y :: r) (c :: t) := by
      rw [Lib.join_cons, Lib.join_cons]
      simp [Lib.joinTail]
    rw [e, words_at c t x _ (h x List.mem_cons_self), ih]

def decV (s : List UInt8) : Int := (decOf s).getD 0
def ifsI (s : List UInt8) : List Int := if s = [] then [] else (words [32, 38, 32] (Lib.trimSuffix s [32])).map decV
def readI (s : List UInt8) : Rul :=
  let a := Lib.cut s [32, 114]
  let b := Lib.cut a.1 [45]
  let c := Lib.cut a.2.1 [58, 32]
  let d := Lib.cut c.2.1 [61, 62, 32]
  (decV d.2.1, ifsI d.1, decV b.1, decV b.2.1, decV c.1)
def ruleOf (s : List UInt8) : Option Rul := if ruleB (readI s) = true ∧ ruleT (readI s) = s then some (readI s) else none
theorem ruleOf_some {s : List UInt8} {r : Rul} (h : ruleOf s = some r) : ruleB r = true ∧ ruleT r = s := by
  unfold ruleOf at h
  split at h
  · rename_i hc; cases h; exact hc
  · cases h
theorem decV_itoa {n : Int} (h : inR (-1000000000000000) 1000000000000000 n = true) : decV (Lib.itoa n) = n := by unfold decV; rw [decOf_itoa h]; rfl
theorem itoa_no {n : Int} {c : UInt8} (h1 : c ≠ 45) (h2 : dig c = false) : c ∉ Lib.itoa n := fun h => by
  rw [itoa_abs] at h
  split at h
  · rcases List.mem_cons.1 h with e | m
    · exact h1 e
    · rw [dec_digits (n.natAbs + 1) _ (by omega) c m] at h2; cases h2
  · rw [dec_digits (n.natAbs + 1) _ (by omega) c h] at h2; cases h2
theorem itoa_pos_no {n : Int} {c : UInt8} (h : 0 ≤ n) (h2 : dig c = false) : c ∉ Lib.itoa n := fun hm => by
  rw [itoa_abs, if_neg (by omega)] at hm
  rw [dec_digits (n.natAbs + 1) _ (by omega) c hm] at h2; cases h2
structure OkV (r : Rul) : Prop where
  h : -16 ≤ r.1 ∧ r.1 ≤ 16
  n : r.2.1.length ≤ 6
  i : ∀ x ∈ r.2.1, -16 ≤ x ∧ x ≤ 16
  a : 0 ≤ r.2.2.1 ∧ r.2.2.1 ≤ 100000
  b : 0 ≤ r.2.2.2.1 ∧ r.2.2.2.1 ≤ 100000
  c : 0 ≤ r.2.2.2.2 ∧ r.2.2.2.2 ≤ 100
theorem okV_of {r : Rul} (h : ruleB r = true) : OkV r := by
  unfold ruleB at h
  simp only [Bool.and_eq_true, decide_eq_true_eq] at h
  obtain ⟨⟨⟨⟨⟨hw, hn, hi⟩, ha⟩, hb⟩, _⟩, hc⟩ := h
  refine ⟨wordB_low hw, hn, fun x hx => ?_, inR_iff.1 ha, inR_iff.1 hb, inR_iff.1 hc⟩
  obtain ⟨j, hj, rfl⟩ := List.getElem_of_mem hx
  have := pref_at hi j hj
  unfold wordP at this
  simp only [Bool.and_eq_true] at this
  rw [getD_at _ _ _ hj] at this
  exact wordB_low this.1
theorem small_in {n : Int} (h1 : -16 ≤ n) (h2 : n ≤ 100000) : inR (-1000000000000000) 1000000000000000 n = true := inR_yes (by omega) (by omega)
theorem join_mem {c : UInt8} {sep : List UInt8} : ∀ {xs : List (List UInt8)}, c ∈ Lib.join xs sep → c ∈ sep ∨ ∃ x ∈ xs, c ∈ x
  | [], h => by rw [Lib.join_nil] at h; cases h
  | [x], h => by rw [Lib.join_one] at h; exact .inr ⟨x, List.mem_cons_self, h⟩
  | x :: y :: r, h => by
    have e : Lib.join (x :: y :: r) sep = x ++ sep ++ Lib.join (y :: r) sep := by
      rw [Lib.join_cons, Lib.join_cons]
      simp [Lib.joinTail]
    rw [e] at h
    rcases List.mem_append.1 h with h | h
    · rcases List.mem_append.1 h with h | h
      · exact .inr ⟨x, List.mem_cons_self, h⟩
      · exact .inl h
    · rcases join_mem h with h | ⟨z, hz, h⟩
      · exact .inl h
      · exact .inr ⟨z, List.mem_cons_of_mem _ hz, h⟩
theorem trim_snoc (a : List UInt8) (c : UInt8) : Lib.trimSuffix (a ++ [c]) [c] = a := by
  unfold Lib.trimSuffix Lib.hasSuffix
  rw [if_pos (by simp)]
  simp
theorem ifsI_ifsT {xs : List Int} (h : ∀ x ∈ xs, -16 ≤ x ∧ x ≤ 16) : ifsI (ifsT xs) = xs := by
  unfold ifsI ifsT
  by_cases hx : xs = []
  · rw [if_pos hx, if_pos rfl, hx]
  · rw [if_neg hx, if_neg (by simp), trim_snoc]
    unfold txt
    rw [words_join 32 [38, 32] (xs.map Lib.itoa) (by simpa using hx) (fun p hp => by
      obtain ⟨n, _, rfl⟩ := List.mem_map.1 hp
      exact itoa_no (by decide) (by decide)), List.map_map]
    have : ∀ x ∈ xs, (decV ∘ Lib.itoa) x = x := fun x hx => decV_itoa (small_in (h x hx).1 (by have := (h x hx).2; omega))
    rw [List.map_congr_left this, List.map_id']
theorem readI_ruleT {r : Rul} (h : ruleB r = true) : readI (ruleT r) = r := by
  obtain ⟨hd, ifs, a, b, c⟩ := r
  have o := okV_of h
  have oh := o.h; have oi := o.i; have oa := o.a; have ob := o.b; have oc := o.c
  dsimp only at oh oi oa ob oc
  have e0 : ruleT (hd, ifs, a, b, c) = (Lib.itoa a ++ (45 :: []) ++ Lib.itoa b) ++ (32 :: [114]) ++ (Lib.itoa c ++ (58 :: [32]) ++ (ifsT ifs ++ (61 :: [62, 32]) ++ Lib.itoa hd)) := by
    unfold ruleT
    simp only [List.append_assoc, List.cons_append, List.nil_append]
  have n1 : (32 : UInt8) ∉ Lib.itoa a ++ (45 :: []) ++ Lib.itoa b := by
    intro m
    rcases List.mem_append.1 m with m | m
    · rcases List.mem_append.1 m with m | m
      · exact itoa_no (by decide) (by decide) m
      · revert m; decide
    · exact itoa_no (by decide) (by decide) m
  have n2 : (45 : UInt8) ∉ Lib.itoa a := itoa_pos_no oa.1 (by decide)
  have n3 : (58 : UInt8) ∉ Lib.itoa c := itoa_no (by decide) (by decide)
  have n4 : (61 : UInt8) ∉ ifsT ifs := by
    intro m
    unfold ifsT at m
    split at m
    · cases m
    · rcases List.mem_append.1 m with m | m
      · unfold txt at m
        rcases join_mem m with m | ⟨p, hp, m⟩
        · revert m; decide
        · obtain ⟨n, _, rfl⟩ := List.mem_map.1 hp
          exact itoa_no (by decide) (by decide) m
      · revert m; decide
  unfold readI
  simp only [e0, cut_at 32 [114] _ _ n1, cut_at 45 [] _ _ n2, cut_at 58 [32] _ _ n3, cut_at 61 [62, 32] _ _ n4]
  rw [ifsI_ifsT oi, decV_itoa (small_in oh.1 (by omega)), decV_itoa (small_in (by omega) oa.2), decV_itoa (small_in (by omega) ob.2), decV_itoa (small_in (by omega) (by omega))]
theorem ruleOf_ruleT {r : Rul} (h : ruleB r = true) : ruleOf (ruleT r) = some r := by
  unfold ruleOf
  rw [readI_ruleT h, if_pos ⟨h, rfl⟩]
theorem ruleT_inj {r q : Rul} (h1 : ruleB r = true) (h2 : ruleB q = true) (h : ruleT r = ruleT q) : r = q := by
  have e1 := ruleOf_ruleT h1
  rw [h, ruleOf_ruleT h2] at e1
  exact (Option.some.inj e1).symm
end Go.Proofs.YtigipcckflcilaaGreatDoor
