/- Dues that are spread over lines: the plain law. -/
import Derived.Test.YtdlddnnnfjnabaaChH
set_option maxRecDepth 10000
set_option maxHeartbeats 2000000
set_option linter.unusedSimpArgs false
set_option linter.unusedVariables false
namespace Go.Proofs.Ytdlddnnnfjnabaa
open Go Go.Abs

def exL (xs ks rs : List Int) : List Int := rngL (exF3 xs ks rs) xs.length
theorem exL_len (xs ks rs : List Int) : (exL xs ks rs).length = xs.length := rngL_len _ _
theorem exL_sum {xs ks rs : List Int} {w : Int} (L : Lns xs ks rs w) (k : Nat) : ∀ i, i ≤ xs.length → sumK k (ks.take i) ((exL xs ks rs).take i) = sumK k (ks.take i) (xs.take i) * rs.getD k 0
  | 0, _ => by simp [sumK]
  | i + 1, hi => by
    have ih := exL_sum L k i (by omega)
    have h3 := L.kl
    have el := exL_len xs ks rs
    have ge : (exL xs ks rs)[i]'(by omega) = xs[i] * rs.getD (ks[i]'(by omega)).toNat 0 := by
      rw [← getD_at (exL xs ks rs) 0 i (by omega), exL, rngL_get _ _ _ (by omega), exF3, getD_at xs 0 i (by omega), getD_at ks 0 i (by omega)]
    rw [gtake_snoc ks i (by omega), gtake_snoc (exL xs ks rs) i (by omega), gtake_snoc xs i (by omega), sumK_snoc k _ _ _ _ (by simp; omega), sumK_snoc k _ _ _ _ (by simp; omega), ih, ge, Int.add_mul]
    congr 1
    split
    · rename_i h
      rw [h]
      simp
    · simp
theorem flL_map (xs ks rs : List Int) : flL xs ks rs = (exL xs ks rs).map (· / 10000) := by
  simp [flL, exL, rngL, List.map_map, Function.comp_def]
def reL (xs ks rs : List Int) : List Int := (exL xs ks rs).map (· % 10000)
theorem reL_get (xs ks rs : List Int) (i : Nat) (h : i < xs.length) : (reL xs ks rs).getD i 0 = rstF xs ks rs i := by
  simp [reL, exL, rngL, h, rstF]
theorem ordN_perm (xs ks rs : List Int) : (ordN xs ks rs).Perm (List.range xs.length) := by
  have h := (ordF_sort xs ks rs).1.map Int.toNat
  have e : (rngL (fun i => (i : Int)) xs.length).map Int.toNat = List.range xs.length := by
    simp [rngL, List.map_map, Function.comp_def]
  rw [e] at h
  exact h
theorem spr_start {xs ks rs : List Int} {w : Int} (L : Lns xs ks rs w) : SprI ks (flL xs ks rs) (reL xs ks rs) (fun k => totF xs ks rs w k.toNat) (ordN xs ks rs) (flL xs ks rs, lefL xs ks rs w xs.length) where
  l1 := by rw [flL_len, L.kl]
  l2 := lefL_len _ _ _ _ _
  todo := fun _ _ => rfl
  done := fun _ _ => .inl rfl
  some := fun k k0 k3 => by
    obtain ⟨n, rfl⟩ := Int.eq_ofNat_of_zero_le k0
    have hn : n < 3 := by omega
    have h3 := L.kl
    have hp := sumK_parts n ks (exL xs ks rs) (by rw [exL_len, h3]) (fun e he => by
      obtain ⟨i, hi, rfl⟩ := List.mem_map.1 he
      exact (ex_bound L i (by simpa using hi)).1)
    obtain ⟨p1, p2, p3, p4⟩ := hp
    have es := exL_sum L n xs.length (Nat.le_refl _)
    rw [List.take_length, List.take_of_length_le (show ks.length ≤ xs.length by omega), List.take_of_length_le (show (exL xs ks rs).length ≤ xs.length by rw [exL_len]; omega)] at es
    have rb := rest_bounds (sumK n ks xs * rs.getD n 0) _ _ _ w (by rw [← es]; exact p1) p2 p3 p4
    rw [← flL_map] at rb
    show 0 ≤ (lefL xs ks rs w xs.length).getD (n : Int).toNat 0 ∧ (lefL xs ks rs w xs.length).getD (n : Int).toNat 0 ≤ _
    rw [Int.toNat_natCast, lefL_get _ _ _ _ _ n hn, List.take_of_length_le (show ks.length ≤ xs.length by omega), List.take_of_length_le (show (flL xs ks rs).length ≤ xs.length by rw [flL_len]; omega)]
    have ec : cntK ks (reL xs ks rs) n (ordN xs ks rs) = cntK ks ((exL xs ks rs).map (· % 10000)) n (List.range ks.length) := by
      unfold cntK
      rw [h3]
      exact (ordN_perm xs ks rs).countP_eq _
    rw [ec]
    unfold totF ownF
    exact rb
  all := fun k k0 k3 => by
    obtain ⟨n, rfl⟩ := Int.eq_ofNat_of_zero_le k0
    have h3 := L.kl
    show (lefL xs ks rs w xs.length).getD (n : Int).toNat 0 + sumK n ks (flL xs ks rs) = totF xs ks rs w (n : Int).toNat
    rw [Int.toNat_natCast, lefL_get _ _ _ _ _ n (by omega), List.take_of_length_le (show ks.length ≤ xs.length by omega), List.take_of_length_le (show (flL xs ks rs).length ≤ xs.length by rw [flL_len]; omega)]
    omega
theorem spr_end {xs ks rs : List Int} {w : Int} (L : Lns xs ks rs w) :
    (∀ k : Nat, k < 3 → sumK k ks (sprF xs ks rs w).1 = totF xs ks rs w k) ∧ ∀ i, i < xs.length → exF3 xs ks rs i - 9999 ≤ (sprF xs ks rs w).1.getD i 0 * 10000 ∧ (sprF xs ks rs w).1.getD i 0 * 10000 ≤ exF3 xs ks rs i + 9999 := by
  have h3 := L.kl
  have F := spr_law ks (flL xs ks rs) (reL xs ks rs) (fun k => totF xs ks rs w k.toNat) (fun c hc => L.k c hc) (ordN xs ks rs) (flL xs ks rs, lefL xs ks rs w xs.length)
    (fun i hi => by have := (ordN_perm xs ks rs).mem_iff.1 hi; rw [List.mem_range] at this; omega) ((ordN_perm xs ks rs).nodup_iff.2 List.nodup_range)
    (by
      unfold ordN
      rw [List.pairwise_map]
      refine List.Pairwise.imp_of_mem ?_ (ordF_sort xs ks rs).2
      intro a b ha hb hab
      have a1 := ordF_mem ha
      have b1 := ordF_mem hb
      have h := hab.1
      rw [lt_eq] at h
      have h := of_decide_eq_false h
      rw [reL_get _ _ _ _ (by omega), reL_get _ _ _ _ (by omega)]
      omega)
    (spr_start L)
  refine ⟨fun k hk => ?_, fun i hi => ?_⟩
  · have h1 := F.some k (by omega) (by omega)
    have h2 := F.all k (by omega) (by omega)
    have h0 : cntK ks (reL xs ks rs) k [] = 0 := rfl
    rw [h0] at h1
    simp only [Int.toNat_natCast] at h1 h2
    show sumK k ks (sprG ks (ordN xs ks rs) (flL xs ks rs, lefL xs ks rs w xs.length)).1 = _
    omega
  · have hd := F.done i (by omega)
    rw [reL_get _ _ _ _ hi] at hd
    have ef : (flL xs ks rs).getD i 0 = exF3 xs ks rs i / 10000 := rngL_get _ _ _ hi
    rw [ef] at hd
    show _ ≤ (sprG ks (ordN xs ks rs) (flL xs ks rs, lefL xs ks rs w xs.length)).1.getD i 0 * 10000 ∧ (sprG ks (ordN xs ks rs) (flL xs ks rs, lefL xs ks rs w xs.length)).1.getD i 0 * 10000 ≤ _
    unfold rstF at hd
    omega
theorem lines_near {xs ks rs : List Int} {w : Int} (L : Lns xs ks rs w) (i : Nat) (hi : i < xs.length) : exF3 xs ks rs i - 9999 ≤ lnF xs ks rs w i * 10000 ∧ lnF xs ks rs w i * 10000 ≤ exF3 xs ks rs i + 9999 := by
  have b := ex_bound L i hi
  have n := rnd_near (exF3 xs ks rs i) 10000 w (by omega) b.1
  have e : lnF xs ks rs w i = rnd (exF3 xs ks rs i) 10000 w := rfl
  rw [e]
  by_cases h : exF3 xs ks rs i % 10000 = 0
  · have := n.2.2 h
    omega
  · omega
def lftL (T : Nat → Int) (ks sp : List Int) (i : Nat) : List Int := rngL (fun k => T k - sumK k (ks.take i) (sp.take i)) 3
theorem lftL_len (T : Nat → Int) (ks sp : List Int) (i : Nat) : (lftL T ks sp i).length = 3 := rngL_len _ _
theorem lftL_zero (T : Nat → Int) (ks sp : List Int) : lftL T ks sp 0 = rngL T 3 := by
  unfold lftL rngL
  congr 1
  funext k
  simp [sumK]
theorem lftL_step (T : Nat → Int) {ks sp : List Int} {i : Nat} (h : i < sp.length) (hk : i < ks.length) (k0 : 0 ≤ ks[i]) (k3 : ks[i] < 3) : (lftL T ks sp i).set ks[i].toNat ((lftL T ks sp i).getD ks[i].toNat 0 - sp[i]) = lftL T ks sp (i + 1) := by
  have e : ∀ k : Int, sumK k (ks.take (i + 1)) (sp.take (i + 1)) = sumK k (ks.take i) (sp.take i) + (if ks[i] = k then sp[i] else 0) := fun k => by
    rw [gtake_snoc ks i hk, gtake_snoc sp i h, sumK_snoc k _ _ _ _ (by simp; omega)]
  have c : ks[i] = 0 ∨ ks[i] = 1 ∨ ks[i] = 2 := by omega
  have l : ∀ j, lftL T ks sp j = [T 0 - sumK 0 (ks.take j) (sp.take j), T 1 - sumK 1 (ks.take j) (sp.take j), T 2 - sumK 2 (ks.take j) (sp.take j)] := fun j => rfl
  rw [l i, l (i + 1), e 0, e 1, e 2]
  rcases c with c | c | c <;> rw [c] <;> simp <;> omega
theorem spr_sml {xs ks rs : List Int} {w : Int} (L : Lns xs ks rs w) : Sml 4000 (sprF xs ks rs w).1 := fun x hx => by
  have := (sprF_bound L).b1 x hx
  have := L.ten
  omega
theorem lft_bound {xs ks rs : List Int} {w : Int} (L : Lns xs ks rs w) (i : Nat) : ∀ x ∈ lftL (totF xs ks rs w) ks (sprF xs ks rs w).1 i, -100000 ≤ x ∧ x ≤ 100000 := by
  intro x hx
  obtain ⟨k, hk, rfl⟩ := List.mem_map.1 hx
  have hk3 : k < 3 := by simpa using hk
  have t := tot_bound L k hk3
  have F := (spr_sml L).take i
  have s := sumK_nonneg (k : Int) (ks.take i) ((sprF xs ks rs w).1.take i) fun x h => (F x h).1
  have s2 := F.sum
  have ten := L.ten
  have l1 := (sprF_bound L).l1
  have ln : ((sprF xs ks rs w).1.take i).length ≤ 10 := by simp [l1]; omega
  show -100000 ≤ totF xs ks rs w k - sumK k _ _ ∧ totF xs ks rs w k - sumK k _ _ ≤ 100000
  omega
theorem lft_end {xs ks rs : List Int} {w : Int} (L : Lns xs ks rs w) : lftL (totF xs ks rs w) ks (sprF xs ks rs w).1 xs.length = [0, 0, 0] := by
  have h := (spr_end L).1
  have l1 := (sprF_bound L).l1
  have h3 := L.kl
  have e : lftL (totF xs ks rs w) ks (sprF xs ks rs w).1 xs.length = [totF xs ks rs w 0 - sumK 0 ks (sprF xs ks rs w).1, totF xs ks rs w 1 - sumK 1 ks (sprF xs ks rs w).1, totF xs ks rs w 2 - sumK 2 ks (sprF xs ks rs w).1] := by
    unfold lftL
    rw [List.take_of_length_le (show ks.length ≤ xs.length by omega), List.take_of_length_le (show (sprF xs ks rs w).1.length ≤ xs.length by omega)]
    rfl
  have a0 : sumK 0 ks (sprF xs ks rs w).1 = _ := h 0 (by omega)
  have a1 : sumK 1 ks (sprF xs ks rs w).1 = _ := h 1 (by omega)
  have a2 : sumK 2 ks (sprF xs ks rs w).1 = _ := h 2 (by omega)
  rw [e, a0, a1, a2]
  simp
end Go.Proofs.Ytdlddnnnfjnabaa
