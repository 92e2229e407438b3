/- What is stored is read again; what is cut or bent begins as it was: the plain laws. -/
import Derived.Test.YtigipcckflcilaaGreatDoorReA
import Derived.Test.YtigipcckflcilaaGreatDoorStL
set_option maxRecDepth 10000
set_option maxHeartbeats 4000000
set_option linter.unusedSimpArgs false
set_option linter.unusedVariables false
namespace Go.Proofs.YtigipcckflcilaaGreatDoor
open Go Go.Abs

theorem at1_mid (A B : List UInt8) (n : Nat) (h : n < 256) : at1 (A ++ (le n 1 ++ B)) A.length = n := by
  unfold at1
  rw [List.drop_left, le1]
  simp only [List.cons_append, List.nil_append, List.take_succ_cons, List.take_zero, num, UInt8.toNat_ofNat']
  omega
theorem at2_mid (A B : List UInt8) (n : Nat) (h : n < 65536) : at2 (A ++ (le n 2 ++ B)) A.length = n := by
  unfold at2
  rw [List.drop_left, le2]
  simp only [List.cons_append, List.nil_append, List.take_succ_cons, List.take_zero, num, UInt8.toNat_ofNat']
  omega
theorem at4_mid (A B : List UInt8) (n : Nat) (h : n < 4294967296) : at4 (A ++ (le n 4 ++ B)) A.length = n := by
  unfold at4
  rw [List.drop_left, le4]
  simp only [List.cons_append, List.nil_append, List.take_succ_cons, List.take_zero, num, UInt8.toNat_ofNat']
  omega
theorem incT_app (Q : List Int) : ∀ P : List Int, incT (P ++ Q) = incT P ++ incT Q
  | [] => rfl
  | x :: P => by simp only [List.cons_append, incT, incT_app Q P, List.append_assoc]
theorem le_len1 (n : Nat) : (le n 1).length = 1 := by rw [le1]; rfl
theorem le_len2 (n : Nat) : (le n 2).length = 2 := by rw [le2]; rfl
theorem begin_store {x : Sav} (h : validB x = true) (rest : List UInt8) : beginOf (storeT x ++ rest) = some (x, (storeT x).length) := by
  have O := okS_of h
  have tx := O.text
  obtain ⟨nm, R, xs⟩ := x
  have hn : nm.length ≤ 8 := O.n
  have hR : rulesB R = true := O.r
  have hx : xs.length ≤ 64 := O.l
  have hi : ∀ x ∈ xs, 0 ≤ x ∧ x ≤ 1000000000 := O.i
  have tx : (rulesT R).length ≤ 5784 := tx
  have sl : (storeT (nm, R, xs)).length = 5 + nm.length + 2 + (rulesT R).length + 1 + 4 * xs.length + 2 := by
    simp only [storeT, bodyT, headT, List.length_append, le_len1, le_len2, incT_len, List.length_cons, List.length_nil]
  generalize hs : storeT (nm, R, xs) ++ rest = s
  generalize hk : (chk 0 (bodyT (nm, R, xs))).toNat = ck
  have e0 : s = [68, 85, 69, 49] ++ (le nm.length 1 ++ (nm ++ (le (rulesT R).length 2 ++ (rulesT R ++ (le xs.length 1 ++ (incT xs ++ (le ck 2 ++ rest))))))) := by
    rw [← hs, ← hk]
    simp only [storeT, bodyT, headT, List.append_assoc]
  have a1 : at1 s 4 = nm.length := by rw [e0]; exact at1_mid [68, 85, 69, 49] _ _ (by omega)
  have pa : pA s = 5 + nm.length := by unfold pA; rw [a1]
  have e1 : s = ([68, 85, 69, 49] ++ le nm.length 1 ++ nm) ++ (le (rulesT R).length 2 ++ (rulesT R ++ (le xs.length 1 ++ (incT xs ++ (le ck 2 ++ rest))))) := by rw [e0]; simp only [List.append_assoc]
  have l1 : ([68, 85, 69, 49] ++ le nm.length 1 ++ nm).length = pA s := by rw [pa]; simp only [List.length_append, le_len1, List.length_cons, List.length_nil]
  have a2 : at2 s (pA s) = (rulesT R).length := by
    have := at2_mid ([68, 85, 69, 49] ++ le nm.length 1 ++ nm) (rulesT R ++ (le xs.length 1 ++ (incT xs ++ (le ck 2 ++ rest)))) (rulesT R).length (by omega)
    rw [← e1, l1] at this
    exact this
  have pb : pB s = pA s + 2 + (rulesT R).length := by unfold pB; rw [a2]
  have e2 : s = ([68, 85, 69, 49] ++ le nm.length 1 ++ nm ++ le (rulesT R).length 2 ++ rulesT R) ++ (le xs.length 1 ++ (incT xs ++ (le ck 2 ++ rest))) := by rw [e1]; simp only [List.append_assoc]
  have l2 : ([68, 85, 69, 49] ++ le nm.length 1 ++ nm ++ le (rulesT R).length 2 ++ rulesT R).length = pB s := by
    rw [pb, ← l1]; simp only [List.length_append, le_len2]
  have a3 : cN s = xs.length := by
    have := at1_mid ([68, 85, 69, 49] ++ le nm.length 1 ++ nm ++ le (rulesT R).length 2 ++ rulesT R) (incT xs ++ (le ck 2 ++ rest)) xs.length (by omega)
    rw [← e2, l2] at this
    exact this
  have sz : size s = (storeT (nm, R, xs)).length := by unfold size; rw [a3, pb, pa, sl]
  have nmE : nameOf s = nm := by
    unfold nameOf
    rw [← l1]
    conv => lhs; rw [e1]
    rw [List.take_left]
    exact List.drop_left' (by simp only [List.length_append, le_len1, List.length_cons, List.length_nil])
  have txE : textOf s = rulesT R := by
    unfold textOf
    rw [← l2]
    conv => lhs; rw [e2]
    rw [List.take_left]
    refine List.drop_left' ?_
    rw [← e2, ← l1]
    simp only [List.length_append, le_len2]
  have inE : incsOf s xs.length = xs := by
    refine List.ext_getElem (incsOf_len _ _) fun i h1 h2 => ?_
    have hxi := hi xs[i] (List.getElem_mem h2)
    have e3 : s = ([68, 85, 69, 49] ++ le nm.length 1 ++ nm ++ le (rulesT R).length 2 ++ rulesT R ++ le xs.length 1 ++ incT (xs.take i)) ++ (le xs[i].toNat 4 ++ (incT (xs.drop (i + 1)) ++ (le ck 2 ++ rest))) := by
      rw [e2]
      have : incT xs = incT (xs.take i) ++ (le xs[i].toNat 4 ++ incT (xs.drop (i + 1))) := by
        have h3 : xs = xs.take i ++ (xs[i] :: xs.drop (i + 1)) := by rw [← List.drop_eq_getElem_cons h2, List.take_append_drop]
        conv => lhs; rw [h3]
        rw [incT_app]
        rfl
      rw [this]
      simp only [List.append_assoc]
    have l3 : ([68, 85, 69, 49] ++ le nm.length 1 ++ nm ++ le (rulesT R).length 2 ++ rulesT R ++ le xs.length 1 ++ incT (xs.take i)).length = pB s + 1 + 4 * i := by
      rw [List.length_append, List.length_append, l2, le_len1, incT_len, List.length_take]
      omega
    have a4 := at4_mid ([68, 85, 69, 49] ++ le nm.length 1 ++ nm ++ le (rulesT R).length 2 ++ rulesT R ++ le xs.length 1 ++ incT (xs.take i)) (incT (xs.drop (i + 1)) ++ (le ck 2 ++ rest)) xs[i].toNat (by omega)
    rw [← e3, l3] at a4
    simp only [incsOf, List.getElem_map, List.getElem_range, a4]
    omega
  have so : savedOf s R = (nm, R, xs) := by unfold savedOf; rw [nmE, a3, inE]
  have ro : rulesOf (textOf s) = some R := by rw [txE]; exact rulesOf_iff.2 ⟨hR, rfl⟩
  have le : size s ≤ s.length := by rw [sz, ← hs, List.length_append]; omega
  rw [begin_some le ro, so, sz, ← hs, List.take_left, if_pos ⟨h, rfl⟩]
theorem begin_cut {x : Sav} (h : validB x = true) {c : Nat} (hc : c < (storeT x).length) : beginOf ((storeT x).take c) = none := by
  cases hb : beginOf ((storeT x).take c) with
  | none => rfl
  | some q =>
    obtain ⟨y, n⟩ := q
    obtain ⟨h1, h2, h3, _⟩ := begin_valid hb
    rw [List.length_take] at h3
    rw [List.take_take, Nat.min_eq_left (by omega)] at h2
    have b1 := begin_store h []
    have b2 := begin_store h1 ((storeT x).drop n)
    rw [List.append_nil] at b1
    rw [h2, List.take_append_drop, b1, List.length_take] at b2
    have := (Prod.mk.inj (Option.some.inj b2)).2
    omega
theorem rec_pre (w : List UInt8) : ∀ (P : List Sav) (k : Nat), (∀ x ∈ P, validB x = true) → P.length ≤ k → recOf k (allT P ++ w) = (P ++ (recOf (k - P.length) w).1, (allT P).length + (recOf (k - P.length) w).2)
  | [], k, _, _ => by simp [allT]
  | x :: P, 0, _, hk => by simp at hk
  | x :: P, k + 1, hv, hk => by
    have b := begin_store (hv x (by simp)) (allT P ++ w)
    have ih := rec_pre w P k (fun y hy => hv y (by simp [hy])) (by simpa using hk)
    have e : allT (x :: P) ++ w = storeT x ++ (allT P ++ w) := by simp [allT]
    rw [e]
    simp only [recOf, b, List.drop_left, ih, List.length_cons, Nat.add_sub_add_right, List.cons_append]
    simp only [allT, List.length_append, Nat.add_assoc]
theorem rec_valid : ∀ (k : Nat) (s : List UInt8), allT (recOf k s).1 = s.take (recOf k s).2 ∧ (recOf k s).2 ≤ s.length ∧ (∀ x ∈ (recOf k s).1, validB x = true) ∧ (recOf k s).1.length ≤ k
  | 0, s => by simp [recOf, allT]
  | k + 1, s => by
    cases hb : beginOf s with
    | none => simp [recOf, hb, allT]
    | some q =>
      obtain ⟨x, n⟩ := q
      obtain ⟨h1, h2, h3, _⟩ := begin_valid hb
      obtain ⟨i1, i2, i3, i4⟩ := rec_valid k (s.drop n)
      rw [List.length_drop] at i2
      simp only [recOf, hb]
      refine ⟨?_, by omega, fun y hy => ?_, by simp only [List.length_cons]; omega⟩
      · rw [allT, h2, i1, ← List.take_add]
      · rcases List.mem_cons.1 hy with rfl | hy
        · exact h1
        · exact i3 y hy
theorem rec_all_store {L : List Sav} (hv : ∀ x ∈ L, validB x = true) (h8 : L.length ≤ 8) : recOf 8 (allT L) = (L, (allT L).length) := by
  have := rec_pre [] L 8 hv h8
  have e : recOf (8 - L.length) [] = ([], 0) := by
    cases 8 - L.length with
    | zero => rfl
    | succ k =>
      have : beginOf [] = none := begin_short (by unfold size; simp)
      simp [recOf, this]
  rw [List.append_nil, e] at this
  simpa using this
theorem allT_split (L : List Sav) (i : Nat) (h : i < L.length) : allT L = allT (L.take i) ++ (storeT L[i] ++ allT (L.drop (i + 1))) := by
  have app : ∀ P Q : List Sav, allT (P ++ Q) = allT P ++ allT Q := by
    intro P Q
    induction P with
    | nil => rfl
    | cons x P ih => simp only [List.cons_append, allT, ih, List.append_assoc]
  conv => lhs; rw [show L = L.take i ++ (L[i] :: L.drop (i + 1)) by rw [← List.drop_eq_getElem_cons h, List.take_append_drop]]
  rw [app]
  rfl
theorem rec_cut {L : List Sav} (hv : ∀ x ∈ L, validB x = true) (h8 : L.length ≤ 8) {i c : Nat} (h : i < L.length) (h1 : (allT (L.take i)).length ≤ c) (h2 : c < (allT (L.take (i + 1))).length) : recOf 8 ((allT L).take c) = (L.take i, (allT (L.take i)).length) := by
  have sl : (allT (L.take (i + 1))).length = (allT (L.take i)).length + (storeT L[i]).length := by rw [allT_take L i h, List.length_append]
  have e : (allT L).take c = allT (L.take i) ++ (storeT L[i]).take (c - (allT (L.take i)).length) := by
    conv => lhs; rw [allT_split L i h]
    rw [List.take_append, List.take_of_length_le h1, List.take_append, show c - (allT (L.take i)).length - (storeT L[i]).length = 0 by omega, List.take_zero, List.append_nil]
  have b := begin_cut (hv L[i] (List.getElem_mem h)) (c := c - (allT (L.take i)).length) (by omega)
  have tl : (L.take i).length = i := by rw [List.length_take]; omega
  have r := rec_pre ((storeT L[i]).take (c - (allT (L.take i)).length)) (L.take i) 8 (fun x hx => hv x (List.mem_of_mem_take hx)) (by omega)
  obtain ⟨k, hk⟩ : ∃ k, 8 - i = k + 1 := ⟨7 - i, by omega⟩
  rw [e, r, tl, hk]
  simp [recOf, b]
theorem rec_bent {L : List Sav} (hv : ∀ x ∈ L, validB x = true) (h8 : L.length ≤ 8) {i c : Nat} (b : UInt8) (h : i < L.length) (h1 : (allT (L.take i)).length ≤ c) : i ≤ (recOf 8 ((allT L).set c b)).1.length := by
  have e : (allT L).set c b = allT (L.take i) ++ (storeT L[i] ++ allT (L.drop (i + 1))).set (c - (allT (L.take i)).length) b := by
    conv => lhs; rw [allT_split L i h]
    rw [List.set_append_right _ _ h1]
  have tl : (L.take i).length = i := by rw [List.length_take]; omega
  have r := rec_pre ((storeT L[i] ++ allT (L.drop (i + 1))).set (c - (allT (L.take i)).length) b) (L.take i) 8 (fun x hx => hv x (List.mem_of_mem_take hx)) (by omega)
  rw [e, r]
  show i ≤ (L.take i ++ _).length
  rw [List.length_append, tl]
  omega
end Go.Proofs.YtigipcckflcilaaGreatDoor
