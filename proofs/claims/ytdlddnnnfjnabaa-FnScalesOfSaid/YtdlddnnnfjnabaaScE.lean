/- The law FnScalesOf: scales joined, trimmed, made again, whatever bytes it is given. -/
import Derived.Test.YtdlddnnnfjnabaaScD
import Derived.Test.YtdlddnnnfjnabaaAbsM3
set_option maxRecDepth 10000
set_option maxHeartbeats 8000000
set_option linter.unusedSimpArgs false
set_option linter.unusedVariables false
namespace Go.Proofs.Ytdlddnnnfjnabaa
open Go Go.Abs

def hlf (l : List Int) : List Int := l.map fun x => x / 2
def upd2 (l : List Int) (i : Nat) : List Int := (hlf l).take i ++ l.drop i
theorem upd2_len (l : List Int) (i : Nat) (h : i ≤ l.length) : (upd2 l i).length = l.length := by simp [upd2, hlf]; omega
theorem upd2_at (l : List Int) (i : Nat) (h : i < l.length) : (upd2 l i)[i]'(by rw [upd2_len l i (by omega)]; exact h) = l[i] := by
  unfold upd2
  rw [List.getElem_append_right (by rw [List.length_take]; omega)]
  simp [hlf, show min i l.length = i by omega]
theorem upd2_set (l : List Int) (i : Nat) (h : i < l.length) : (upd2 l i).set i (l[i] / 2) = upd2 l (i + 1) := by
  unfold upd2
  have e : ((hlf l).take i).length = i := by rw [List.length_take, hlf, List.length_map]; omega
  rw [drop_at l i h, List.set_append_right _ _ (by omega), e, Nat.sub_self, List.set_cons_zero, List.take_add_one, List.append_assoc]
  congr 1
  simp [hlf, h]
theorem upd2_full (l : List Int) : upd2 l l.length = hlf l := by
  rw [upd2, List.drop_length, List.append_nil, List.take_of_length_le (by simp [hlf])]
theorem hlf_scl {bs rs : List Int} (S : Scl bs rs) : Scl bs (hlf rs) ∧ ∀ r ∈ hlf rs, r ≤ 5000 := by
  have k : ∀ r ∈ hlf rs, 0 ≤ r ∧ r ≤ 5000 := by
    intro r hr
    obtain ⟨x, hx, rfl⟩ := List.mem_map.1 hr
    have := S.rate x hx
    omega
  exact ⟨⟨S.asc, by simp [hlf, S.len], S.zero, S.cap, S.top, fun r hr => by have := k r hr; omega⟩, fun r hr => (k r hr).2⟩

theorem lp_weak {P : Program} {n0 : Nat} {c : Code} {Q : Ex → St → Prop} {st st2 : St} {t : Tok (c, Q)} (hw : Weak n0 st st2) (h : Lp P n0 c Q t st2) : Lp P n0 c Q t st := by
  delta Lp at h ⊢
  intro E0 hp0 E a hn hs
  obtain ⟨E2, he, hs2⟩ := hw _ E0 hp0 E a hn hs
  rw [← he]
  exact h E0 hp0 E2 a hn hs2
theorem frzC_ints {new : List Blk} {N : Nat} (k : Nat) (xs : List Int) (h : new[k]? = some (intB xs)) (hk : k < new.length) : FrzC new N (.sl (k + N) 0 xs.length) (.ro (ints xs)) :=
  .inr (.inr ⟨1, 0, .sl k 0 xs.length, rfl, by simpa [below, belowM, belowL] using hk, by
    show _ = nilD 0 (view 1 new (.sl k 0 xs.length))
    have e : view 1 new (.sl k 0 xs.length) = .ro (ints xs) := by
      show (match new[k]? with
        | some blk => if blk.live && decide (0 + xs.length ≤ blk.els.length) then AV.ro (((blk.els.drop 0).take xs.length).map (view 0 new)) else .any
        | none => .any) = _
      rw [h]
      show (if true && decide (0 + xs.length ≤ (ints xs).length) then AV.ro ((((ints xs).drop 0).take xs.length).map (view 0 new)) else .any) = _
      rw [if_pos (by simp [ints_len]), List.drop_zero, take_ints, map_view_ints]
    rw [e]
    rfl⟩)
theorem view_pair (xs ys : List Int) : view 3 [intB xs, intB ys] (.tup [.agg [.sl 0 0 xs.length, .sl 1 0 ys.length], .bool true]) = .tup [.agg [.ro (ints xs), .ro (ints ys)], .bool true] := by
  have h1 : view 1 [intB xs, intB ys] (.sl 0 0 xs.length) = .ro (ints xs) := by simp [view_sl, map_view_ints, take_ints, ints_len, intB]
  have h2 : view 1 [intB xs, intB ys] (.sl 1 0 ys.length) = .ro (ints ys) := by simp [view_sl, map_view_ints, take_ints, ints_len, intB]
  show AV.tup [AV.agg [view 1 [intB xs, intB ys] (.sl 0 0 xs.length), view 1 [intB xs, intB ys] (.sl 1 0 ys.length)], .bool true] = _
  rw [h1, h2]
theorem joinScales_ro {a ra b rb : List Int} (A : Scl a ra) (B : Scl b rb) (ha : ∀ r ∈ ra, r ≤ 5000) (hb : ∀ r ∈ rb, r ≤ 5000) (h8 : a.length + b.length ≤ 8) :
    CallA Try.prog 18 [.agg [.ro (ints a), .ro (ints ra)], .agg [.ro (ints b), .ro (ints rb)]] [] (Ret (.tup [.agg [.ro (ints (joinB a b)), .ro (ints (joinR a ra b rb))], .bool true]) []) :=
  CallA.frozen 3 (joinScales_call A B ha hb h8) (view_pair _ _)
theorem trimScale_ro {bs rs : List Int} (S : Scl bs rs) : CallA Try.prog 21 [.agg [.ro (ints bs), .ro (ints rs)]] [] (Ret (.tup [.agg [.ro (ints (trB bs rs)), .ro (ints (trR bs rs))], .bool true]) []) :=
  CallA.frozen 3 (trimScale_call S) (view_pair _ _)
theorem mean_back {p q g e c : Int} (h1 : p * g = e) (h2 : q * g = 10000 * c) : p * 10000 * c = e * q := by
  rw [Int.mul_assoc, ← h2, ← h1, Int.mul_comm q g, Int.mul_assoc]
theorem mean_small {p g e c : Int} (hp : 0 ≤ p) (hg : 0 < g) (h1 : p * g = e) (he : e ≤ 80000000) (c0 : 0 ≤ c) (c1 : c ≤ 8000) : p ≤ 80000000 ∧ 0 ≤ p * 10000 * c ∧ p * 10000 * c ≤ 6400000000000000 := by
  have h := le_mul_pos hp hg
  have h2 := mul_bounds (show 0 ≤ p * 10000 by omega) (show p * 10000 ≤ 800000000000 by omega) c0 c1
  omega
def Fst (q : Blk) (hp : List Blk) : Prop := hp[0]? = some q ∧ True
def brkF (m : List Int) : Nat → Int
  | 0 => 0
  | j + 1 => brkF m j + 100 * (1 + at8 m j 20)
def bkL (m : List Int) (k : Nat) : List Int := (List.range k).map (brkF m)
def rtL (cd : List Int) (k : Nat) : List Int := (List.range k).map fun j : Nat => 100 * at8 cd (j : Int) 101
theorem brkF_low (m : List Int) : ∀ j, 0 ≤ brkF m j ∧ brkF m j ≤ 2000 * j ∧ brkF m j % 100 = 0
  | 0 => ⟨Int.le_refl _, by simp [brkF], rfl⟩
  | j + 1 => by
    have h := brkF_low m j
    have a := at8_low (l := m) (k := j) (n := 20) (by omega)
    simp only [brkF]
    omega
theorem bkL_succ (m : List Int) (k : Nat) : bkL m (k + 1) = bkL m k ++ [brkF m k] := by simp [bkL, List.range_succ]
theorem rtL_succ (cd : List Int) (k : Nat) : rtL cd (k + 1) = rtL cd k ++ [100 * at8 cd k 101] := by simp [rtL, List.range_succ]
theorem bkL_len (m : List Int) (k : Nat) : (bkL m k).length = k := by simp [bkL]
theorem rtL_len (m : List Int) (k : Nat) : (rtL m k).length = k := by simp [rtL]
theorem bkL_at (m : List Int) (k i : Nat) (h : i < k) : (bkL m k).getD i 0 = brkF m i := by simp [bkL, List.getD_eq_getElem?_getD, h]
theorem told_scl (m cd : List Int) (k : Nat) (h1 : 1 ≤ k) (h2 : k ≤ 6) : Scl (bkL m k) (rtL cd k) ∧ (∀ b ∈ bkL m k, b % 100 = 0) ∧ ∀ r ∈ rtL cd k, r % 100 = 0 := by
  refine ⟨⟨?_, by rw [bkL_len, rtL_len], ?_, by rw [bkL_len]; omega, fun b hb => ?_, fun r hr => ?_⟩, fun b hb => ?_, fun r hr => ?_⟩
  · rw [asc_get]
    intro i hi
    rw [bkL_len] at hi
    rw [bkL_at m k i (by omega), bkL_at m k (i + 1) hi]
    have a := at8_low (l := m) (k := i) (n := 20) (by omega)
    simp only [brkF]
    omega
  · obtain ⟨k, rfl⟩ : ∃ j, k = j + 1 := ⟨k - 1, by omega⟩
    simp [bkL, List.range_succ_eq_map, brkF]
  · obtain ⟨j, hj, rfl⟩ := List.mem_map.1 hb
    have := brkF_low m j
    have hj' : j < k := by simpa using hj
    omega
  · obtain ⟨j, hj, rfl⟩ := List.mem_map.1 hr
    have a := at8_low (l := cd) (k := j) (n := 101) (by omega)
    omega
  · obtain ⟨j, hj, rfl⟩ := List.mem_map.1 hb
    exact (brkF_low m j).2.2
  · obtain ⟨j, hj, rfl⟩ := List.mem_map.1 hr
    omega
def sclC (n m : Nat) (i j : Nat) : Blk := { ty := 34, w := 2, els := [.agg [.sl i 0 n, .sl j 0 m]] }
theorem frzB_scl {new : List Blk} {N : Nat} {bs rs : List Int} {i j : Nat} (hi : new[i]? = some (intB bs)) (hj : new[j]? = some (intB rs)) : FrzB new N (sclC bs.length rs.length (i + N) (j + N)) (sclB bs rs) where
  ty := rfl
  w := rfl
  live := rfl
  els := fun k e2 h => by
    have hk : k = 0 := by
      have := (List.getElem?_eq_some_iff.1 h).1
      simpa [sclB] using this
    subst hk
    have he : e2 = .agg [.ro (ints bs), .ro (ints rs)] := by simpa [sclB] using h.symm
    subst he
    refine ⟨_, rfl, rfl, fun l x y h1 h2 => ?_⟩
    have f1 := frzC_ints (N := N) i bs hi (List.getElem?_eq_some_iff.1 hi).1
    have f2 := frzC_ints (N := N) j rs hj (List.getElem?_eq_some_iff.1 hj).1
    match l, h1, h2 with
    | 0, h1, h2 =>
      obtain rfl : AV.sl (i + N) 0 bs.length = x := by simpa [AV.cells] using h1
      obtain rfl : AV.ro (ints bs) = y := by simpa [AV.cells] using h2
      exact f1
    | 1, h1, h2 =>
      obtain rfl : AV.sl (j + N) 0 rs.length = x := by simpa [AV.cells] using h1
      obtain rfl : AV.ro (ints rs) = y := by simpa [AV.cells] using h2
      exact f2
    | l + 2, h1, _ => simp [AV.cells] at h1
theorem frzT_drop {new : List Blk} {N : Nat} : ∀ {tm tm2 : List AV}, DropTm N tm tm2 → FrzTm new N tm tm2
  | [], [], _ => trivial
  | a :: l, b :: m, h => ⟨by
      rcases h.1 with e | ⟨e, hb⟩
      · exact .inl (.inl e)
      · exact .inl (.inr (.inl ⟨by rw [e]; exact hb, e.symm⟩)), frzT_drop h.2⟩
  | [], _ :: _, h => h.elim
  | _ :: _, [], h => h.elim
section
def sndC : Code → Code
  | .seq _ b => b
  | c => c
def S22 (cd m : List Int) : Prop := Lp Try.prog 0 (sndC (sndC (sndC (sndC (sndC (sndC (sndC (sndC (sndC (sndC (sndC (sndC (sndC (sndC (sndC (sndC (sndC (sndC (sndC (sndC (sndC (sndC (Try.f4.body.getD .skip))))))))))))))))))))))) (retQ Try.prog Try.f4 0 (Ret (.bool true) [])) .mk ⟨[.ro (kint .u8 cd), .ro (kint .u8 m), .any, .any, .any, .any, .any, .any, .any, .any, .any, .any, .any, .any, .any, .any, .any, .any, .any, .any, .any, .any, .any, .any, .any, .any, .any, .any, .any, .any, .any, .any, .any, .any, .any, .any, .any, .any, .any, .any, .any, .any, .any, .any, .any, .any, .any, .any, .any, .any, .any, .any, .any, .any, .any, .any, .any, .any, .any, .any, .any, .any, .any, .any, .any, .any, .any, .any, .any, .any, .any, .any, .any, .any, .any, .any, .any, .any, .any, .any, .any, .any, .any, .any, .any, .any, .any, .any, .any, .any, .any, .any, .any, .any, .any, .any, .any, .any, .any, .any, .any, .any, .any, .any, .any, .any, .any, .any, .any, .any, .any, .any, .any, .any, .any, .any, .any, .any, .any, .any, .any, .any, .any, .any, .any, .any, .any, .any, .any, .any, .any, .any, .any, .any, .any, .any, .any, .any, .any, .any, .any, .any, .any, .any, .any, .any, .any, .any, .any, .any, .any, .any, .any, .any, .any, .any, .any, .any, .any, .any, .any, .any, .any, .any, .any, .any, .any, .any, .any, .any, .any, .any, .any, .any, .any, .any, .any, .any, .any, .any, .any, .any, .any, .any, .any, .any, .any, .any, .any, .any, .any, .any, .any, .any, .any, .any, .any, .any, .any, .any, .any, .any, .any, .any, .any, .any, .any, .any, .any, .any, .any, .any, .any, .any, .any, .any, .any, .any, .any, .any, .any, .any, .any, .any, .any, .any, .any, .any, .any, .any, .any, .any, .any, .any, .any, .any, .any, .any, .any, .any, .any, .any, .any, .any, .any, .any, .any, .any, .any, .any, .any, .any, .any, .any, .any, .any, .any, .any, .any, .any, .any, .any, .any, .any, .any, .any, .any, .any, .any, .any, .any, .any, .any, .any, .any, .any, .any, .any, .any, .any, .any, .any, .any, .any, .any, .any, .any, .any, .any, .any, .any, .any, .any, .any, .any, .any, .any, .any, .any, .any, .any, .any, .any, .any, .any, .any, .any, .any, .any, .any, .any, .any, .any, .any, .any, .any, .any, .any, .any, .any, .any, .any, .any, .any, .any, .any, .any, .any, .any, .any, .any, .any, .any, .any, .any, .any, .any, .any, .any, .any, .any, .any, .any, .any, .any, .any, .any, .any, .any, .any, .any, .any, .any, .any, .any, .any, .any, .any, .any, .any, .any, .any, .any, .any, .any, .any, .any, .any, .any], []⟩
def S13 (cd m : List Int) : Prop := ∀ {ab ar : List Int} {c : Int}, Scl ab ar → ab.length ≤ 8 → 1 ≤ c → c ≤ 8000 →
  Lp Try.prog 0 (sndC (sndC (sndC (sndC (sndC (sndC (sndC (sndC (sndC (sndC (sndC (sndC (sndC (Try.f4.body.getD .skip)))))))))))))) (retQ Try.prog Try.f4 0 (Ret (.bool true) [])) .mk ⟨[.ro (kint .u8 cd), .ro (kint .u8 m), .any, .any, .any, .ptr 0 0 0, .any, .int .i64 c, .any, .any, .any, .any, .any, .any, .any, .any, .any, .any, .any, .any, .any, .any, .any, .any, .any, .any, .any, .any, .any, .any, .any, .any, .any, .any, .any, .any, .any, .any, .any, .any, .any, .any, .any, .any, .any, .any, .any, .any, .any, .any, .any, .any, .any, .any, .any, .any, .any, .any, .any, .any, .any, .any, .any, .any, .any, .any, .any, .any, .any, .any, .any, .any, .any, .any, .any, .any, .any, .any, .any, .any, .any, .any, .any, .any, .any, .any, .any, .any, .any, .any, .any, .any, .any, .any, .any, .any, .any, .any, .any, .any, .any, .any, .any, .any, .any, .any, .any, .any, .any, .any, .any, .any, .any, .any, .any, .any, .any, .any, .any, .any, .any, .any, .any, .any, .any, .any, .any, .any, .any, .any, .any, .any, .any, .any, .any, .any, .any, .any, .any, .any, .any, .any, .any, .any, .any, .any, .any, .any, .any, .any, .any, .any, .any, .any, .any, .any, .any, .any, .any, .any, .any, .any, .any, .any, .any, .any, .any, .any, .any, .any, .any, .any, .any, .any, .any, .any, .any, .any, .any, .any, .any, .any, .any, .any, .any, .any, .any, .any, .any, .any, .any, .any, .any, .any, .any, .any, .any, .any, .any, .any, .any, .any, .any, .any, .any, .any, .any, .any, .any, .any, .any, .any, .any, .any, .any, .any, .any, .any, .any, .any, .any, .any, .any, .any, .any, .any, .any, .any, .any, .any, .any, .any, .any, .any, .any, .any, .any, .any, .any, .any, .any, .any, .any, .any, .any, .any, .any, .any, .any, .any, .any, .any, .any, .any, .any, .any, .any, .any, .any, .any, .any, .any, .any, .any, .any, .any, .any, .any, .any, .any, .any, .any, .any, .any, .any, .any, .any, .any, .any, .any, .any, .any, .any, .any, .any, .any, .any, .any, .any, .any, .any, .any, .any, .any, .any, .any, .any, .any, .any, .any, .any, .any, .any, .any, .any, .any, .any, .any, .any, .any, .any, .any, .any, .any, .any, .any, .any, .any, .any, .any, .any, .any, .any, .any, .any, .any, .any, .any, .any, .any, .any, .any, .any, .any, .any, .any, .any, .any, .any, .any, .any, .any, .any, .any, .any, .any, .any, .any, .any, .any, .any, .any, .any, .any, .any, .any, .any, .any, .any, .any, .any, .any, .any, .any, .any, .any, .any, .any, .any], [sclB ab ar]⟩
def S7 (cd m : List Int) : Prop := ∀ {ab ar bb br : List Int} {c : Int}, Scl ab ar → (∀ r ∈ ar, r ≤ 5000) → Scl bb br → (∀ r ∈ br, r ≤ 5000) → ab.length + bb.length ≤ 8 → 1 ≤ c → c ≤ 8000 →
  Lp Try.prog 0 (sndC (sndC (sndC (sndC (sndC (sndC (sndC (Try.f4.body.getD .skip)))))))) (retQ Try.prog Try.f4 0 (Ret (.bool true) [])) .mk ⟨[.ro (kint .u8 cd), .ro (kint .u8 m), .any, .any, .any, .ptr 0 0 0, .ptr 1 0 0, .int .i64 c, .any, .any, .any, .any, .any, .any, .any, .any, .any, .any, .any, .any, .any, .any, .any, .any, .any, .any, .any, .any, .any, .any, .any, .any, .any, .any, .any, .any, .any, .any, .any, .any, .any, .any, .any, .any, .any, .any, .any, .any, .any, .any, .any, .any, .any, .any, .any, .any, .any, .any, .any, .any, .any, .any, .any, .any, .any, .any, .any, .any, .any, .any, .any, .any, .any, .any, .any, .any, .any, .any, .any, .any, .any, .any, .any, .any, .any, .any, .any, .any, .any, .any, .any, .any, .any, .any, .any, .any, .any, .any, .any, .any, .any, .any, .any, .any, .any, .any, .any, .any, .any, .any, .any, .any, .any, .any, .any, .any, .any, .any, .any, .any, .any, .any, .any, .any, .any, .any, .any, .any, .any, .any, .any, .any, .any, .any, .any, .any, .any, .any, .any, .any, .any, .any, .any, .any, .any, .any, .any, .any, .any, .any, .any, .any, .any, .any, .any, .any, .any, .any, .any, .any, .any, .any, .any, .any, .any, .any, .any, .any, .any, .any, .any, .any, .any, .any, .any, .any, .any, .any, .any, .any, .any, .any, .any, .any, .any, .any, .any, .any, .any, .any, .any, .any, .any, .any, .any, .any, .any, .any, .any, .any, .any, .any, .any, .any, .any, .any, .any, .any, .any, .any, .any, .any, .any, .any, .any, .any, .any, .any, .any, .any, .any, .any, .any, .any, .any, .any, .any, .any, .any, .any, .any, .any, .any, .any, .any, .any, .any, .any, .any, .any, .any, .any, .any, .any, .any, .any, .any, .any, .any, .any, .any, .any, .any, .any, .any, .any, .any, .any, .any, .any, .any, .any, .any, .any, .any, .any, .any, .any, .any, .any, .any, .any, .any, .any, .any, .any, .any, .any, .any, .any, .any, .any, .any, .any, .any, .any, .any, .any, .any, .any, .any, .any, .any, .any, .any, .any, .any, .any, .any, .any, .any, .any, .any, .any, .any, .any, .any, .any, .any, .any, .any, .any, .any, .any, .any, .any, .any, .any, .any, .any, .any, .any, .any, .any, .any, .any, .any, .any, .any, .any, .any, .any, .any, .any, .any, .any, .any, .any, .any, .any, .any, .any, .any, .any, .any, .any, .any, .any, .any, .any, .any, .any, .any, .any, .any, .any, .any, .any, .any, .any, .any, .any, .any, .any, .any, .any, .any, .any, .any], [sclB ab ar, sclB bb br]⟩
end
end Go.Proofs.Ytdlddnnnfjnabaa
