/- TzI1: texts joined. -/
import Derived.Test.YtodjjpmigcacoaaGreatDoorTzG1
import Derived.Test.YtodjjpmigcacoaaGreatDoorTzG7
import Derived.Test.YtodjjpmigcacoaaGreatDoorAbsM5
import Derived.Test.YtodjjpmigcacoaaGreatDoorTzG8
import Derived.Test.YtodjjpmigcacoaaGreatDoorTzH2
import Derived.Test.YtodjjpmigcacoaaGreatDoorTzT
set_option maxRecDepth 10000
set_option maxHeartbeats 2000000
set_option linter.unusedSimpArgs false
set_option linter.unusedVariables false
namespace Go.Proofs.YtodjjpmigcacoaaGreatDoor
open Go Go.Abs
open Nat renaming reduceAdd → Za, reduceSub → Zb, reduceMul → Zc, reduceLT → Zd, reduceLeDiff → Ze, reduceEqDiff → Zf
open Int renaming reduceToNat → Zn
open Go.Abs renaming lenA → Zg, convA → Zh, indexA → Zi, flatP → Zj, nilI → Zk, ifaA → Zl, indexS → Zm
theorem isBelow_call {bs rs : List Int} (S : Scl bs rs) : CallA Tryz.prog 148 [.agg [.ro (ints bs), .ro (ints rs)]] [] (Ret (.bool (rs.all (inR 0 9999))) []) := by
  have hl := S.len
  have hcap := S.cap
  refine CallP.out (t := .mk) (go_in (md := md148) mixed Tryz.func148 rfl go148 (by kernel_rfl) ?_)
  simp only [Zu, Za, Zb, Zg, Zh, Zi, Zk, Zl, Zm, Zn, ↓reduceIte, reduceCtorEq, Zd, Ze, Zc, Zf, Z148]
  refine call_ret (areWithin_call rs 0 9999 (by omega)) rfl rfl ?_
  simp only [Zu, Za, Zb, Zg, Zh, Zi, Zk, Zl, Zm, Zn, ↓reduceIte, reduceCtorEq, Zd, Ze, Zc, Zf, Z148]
  exact PostR.pure ⟨rfl, rfl⟩ rfl
def leastR (q : Int → Bool) (a : Int) : AV := .tup [.int .i64 (if decide (a ≤ 1000000000000) && q 1000000000000 then lsF q a 1000000000000 else 0), .bool (decide (a ≤ 1000000000000) && q 1000000000000)]
theorem least_call (fid : FuncId) (caps : List AV) (q : Int → Bool) (hc : caps.all (below 0) = true) (hc2 : caps.all (belowL 0) = true) (a : Int) (h0 : 0 ≤ a) (h1 : a ≤ 2000000000000)
    (hq : ∀ x, 0 ≤ x → x ≤ 1000000000000 → CallA Tryz.prog fid (.int .i64 x :: caps) [] (Ret (.bool (q x)) [])) :
    CallA Tryz.prog 149 [.int .i64 a, .fn fid caps] [] (Ret (leastR q a) []) := by
  have hb : below 0 (.fn fid caps) = true := hc2
  have hb3 : ∀ k n, below 0 (.int k n) = true := fun _ _ => rfl
  have hb4 : below 0 .any = true := rfl
  refine CallP.out (t := .mk) (go_in (md := md149) mixed Tryz.func149 rfl go149 (by kernel_rfl) ?_)
  simp only [Zu, Za, Zb, Zg, Zh, Zi, Zk, Zl, Zm, Zn, ↓reduceIte, reduceCtorEq, Zd, Ze, Zc, Zf, Z149]
  refine br_intro (fun h => ?_) (fun h => ?_) <;> simp only [Zu, Za, Zb, Zg, Zh, Zi, Zk, Zl, Zm, Zn, ↓reduceIte, reduceCtorEq, Zd, Ze, Zc, Zf, Z149]
  · have h' := of_decide_eq_true h
    have e : decide (a ≤ 1000000000000) = false := decide_eq_false (by omega)
    exact PostR.pure ⟨by rw [leastR, e]; rfl, rfl⟩ rfl
  · have h' := of_decide_eq_false h
    have e : decide (a ≤ 1000000000000) = true := decide_eq_true (by omega)
    refine call_ret (hq _ (by omega) (by omega)) (by rw [List.all_cons, hc]; rfl) rfl ?_
    simp only [Zu, Za, Zb, Zg, Zh, Zi, Zk, Zl, Zm, Zn, ↓reduceIte, reduceCtorEq, Zd, Ze, Zc, Zf, Z149]
    refine br_intro (fun g => ?_) (fun g => ?_) <;> simp only [Zu, Za, Zb, Zg, Zh, Zi, Zk, Zl, Zm, Zn, ↓reduceIte, reduceCtorEq, Zd, Ze, Zc, Zf, Z149]
    rotate_left
    · exact PostR.pure ⟨by rw [leastR, e, g]; rfl, rfl⟩ rfl
    refine go_round (md := md149) mixed (by kernel_rfl) (fun p : {p : Int × Int // 0 ≤ p.1 ∧ p.1 ≤ p.2 ∧ p.2 ≤ 1000000000000 ∧ lsF q p.1 p.2 = lsF q a 1000000000000} => ⟨[.any, .fn fid caps, .any, .any, .any, .any, .int .i64 p.1.1, .int .i64 p.1.2, .any, .any, .any, .any, .any, .any, .any, .any, .any, .any, .any, .any, .any, .any, .any, .any, .any, .any, .any, .any, .any, .any, .any, .any, .any], []⟩) (fun p => (p.1.2 - p.1.1).toNat) ⟨(a, 1000000000000), h0, by omega, Int.le_refl _, rfl⟩ ?_ ?_
    · exact weak_drop (by simp) (by simp [DropHp]) (by simp [DropTm, DropV, hb, hb3, hb4])
    · rintro ⟨⟨lo, hi⟩, k0, k1, k2, k3⟩
      simp only [] at k0 k1 k2 k3
      have e1 : IntKind.i64.wrap (lo + hi) = lo + hi := w64 (by omega) (by omega)
      have e2 : IntKind.i64.wrap ((lo + hi).tdiv 2) = (lo + hi) / 2 := by rw [tdiv_nn (by omega), w64 (by omega) (by omega)]
      have e3 : IntKind.i64.wrap ((lo + hi) / 2 + 1) = (lo + hi) / 2 + 1 := w64 (by omega) (by omega)
      simp only [Zu, Za, Zb, Zg, Zh, Zi, Zk, Zl, Zm, Zn, ↓reduceIte, reduceCtorEq, Zd, Ze, Zc, Zf, Z149, e1, e2, e3]
      refine br_intro (fun l => ?_) (fun l => ?_) <;> simp only [Zu, Za, Zb, Zg, Zh, Zi, Zk, Zl, Zm, Zn, ↓reduceIte, reduceCtorEq, Zd, Ze, Zc, Zf, Z149, e1, e2, e3]
      · have l' := of_decide_eq_true l
        refine ⟨by decide, call_ret (hq _ (by omega) (by omega)) (by rw [List.all_cons, hc]; rfl) rfl ?_⟩
        simp only [Zu, Za, Zb, Zg, Zh, Zi, Zk, Zl, Zm, Zn, ↓reduceIte, reduceCtorEq, Zd, Ze, Zc, Zf, Z149, e1, e2, e3]
        rw [lsF, if_pos l'] at k3
        refine br_intro (fun m => ?_) (fun m => ?_) <;> simp only [Zu, Za, Zb, Zg, Zh, Zi, Zk, Zl, Zm, Zn, ↓reduceIte, reduceCtorEq, Zd, Ze, Zc, Zf, Z149, e1, e2, e3]
        · rw [if_pos m] at k3
          refine ⟨⟨(lo, (lo + hi) / 2), k0, by show lo ≤ _; omega, by show _ ≤ (1000000000000 : Int); omega, k3⟩, by show ((lo + hi) / 2 - lo).toNat < (hi - lo).toNat; omega, ?_⟩
          exact weak_drop (by simp) (by simp [DropHp]) (by simp [DropTm, DropV, hb, hb3, hb4])
        · rw [if_neg (by rw [m]; simp)] at k3
          refine ⟨⟨((lo + hi) / 2 + 1, hi), by show (0 : Int) ≤ _; omega, by show _ ≤ hi; omega, k2, k3⟩, by show (hi - ((lo + hi) / 2 + 1)).toNat < (hi - lo).toNat; omega, ?_⟩
          exact weak_drop (by simp) (by simp [DropHp]) (by simp [DropTm, DropV, hb, hb3, hb4])
      · have l' := of_decide_eq_false l
        rw [lsF, if_neg l'] at k3
        exact PostR.pure ⟨by rw [leastR, e, g, k3]; rfl, rfl⟩ rfl
def geN (bs rs : List Int) (w n : Int) (c : Int) : Bool := decide (netF bs rs c w ≥ n)
theorem gross1_call {bs rs : List Int} (S : Scl bs rs) (w n : Int) (w0 : 0 ≤ w) (w3 : w ≤ 3) (c : Int) (h0 : 0 ≤ c) (h1 : c ≤ 1000000000000) : CallA Tryz.prog 150 [.int .i64 c, .rop [.ro (ints bs), .ro (ints rs)], .rop [.int .i64 w], .rop [.int .i64 n]] [] (Ret (.bool (geN bs rs w n c)) []) := by
  refine CallP.out (t := .mk) (go_in (md := md150) mixed Tryz.func150 rfl go150 (by kernel_rfl) ?_)
  simp only [Zu, Za, Zb, Zg, Zh, Zi, Zk, Zl, Zm, Zn, ↓reduceIte, reduceCtorEq, Zd, Ze, Zc, Zf, Z150]
  refine callr_ret (net_call S c w h0 h1 w0 w3) rfl rfl ?_
  simp only [Zu, Za, Zb, Zg, Zh, Zi, Zk, Zl, Zm, Zn, ↓reduceIte, reduceCtorEq, Zd, Ze, Zc, Zf, Z150]
  exact PostR.pure ⟨rfl, rfl⟩ rfl
theorem grossOf_no {bs rs : List Int} (S : Scl bs rs) (hr : rs.all (inR 0 9999) = false) (n w : Int) (h0 : 0 ≤ n) (h1 : n ≤ 1000000000000) (w0 : 0 ≤ w) (w3 : w ≤ 3) : CallA Tryz.prog 107 [.agg [.ro (ints bs), .ro (ints rs)], .int .i64 n, .int .i64 w] [] (Ret (.tup [.int .i64 0, .bool false]) []) := by
  refine CallP.out (t := .mk) (go_in (md := md107) mixed Tryz.func107 rfl go107 (by kernel_rfl) ?_)
  simp only [Zu, Za, Zb, Zg, Zh, Zi, Zk, Zl, Zm, Zn, ↓reduceIte, reduceCtorEq, Zd, Ze, Zc, Zf, Z107]
  refine call_ret (isAsked_yes S h0 h1 w0 w3) rfl rfl ?_
  simp only [Zu, Za, Zb, Zg, Zh, Zi, Zk, Zl, Zm, Zn, ↓reduceIte, reduceCtorEq, Zd, Ze, Zc, Zf, Z107]
  refine call_ret (isBelow_call S) rfl rfl ?_
  simp only [Zu, Za, Zb, Zg, Zh, Zi, Zk, Zl, Zm, Zn, ↓reduceIte, reduceCtorEq, Zd, Ze, Zc, Zf, Z107, hr]
  exact PostR.pure ⟨rfl, rfl⟩ rfl
set_option maxHeartbeats 8000000
theorem rnd_bound {a b w : Int} (A : Int) (ha : 0 ≤ a) (hb : 0 < b) (h : a / b ≤ A) : 0 ≤ rnd a b w ∧ rnd a b w ≤ A + 1 := by
  have h1 := rnd_near a b w hb ha
  have h2 := Int.ediv_nonneg ha (show 0 ≤ b by omega)
  omega
theorem dueBy_call (c r w : Int) (c0 : 0 ≤ c) (c1 : c ≤ 1000000000000) (r0 : 0 ≤ r) (r1 : r ≤ 10000) (w0 : 0 ≤ w) (w3 : w ≤ 3) : CallA Tryz.prog 144 [.int .i64 c, .int .i64 r, .int .i64 w] [] (Ret (.int .i64 (rnd (c * r) 10000 w)) []) := by
  have m := mul_bounds c0 c1 r0 r1
  have e1 : IntKind.i64.wrap (c * r) = c * r := w64 (by omega) (by omega)
  refine CallP.out (t := .mk) (go_in (md := md144) mixed Tryz.func144 rfl go144 (by kernel_rfl) ?_)
  simp only [Zu, Za, Zb, Zg, Zh, Zi, Zk, Zl, Zm, Zn, ↓reduceIte, reduceCtorEq, Zd, Ze, Zc, Zf, Z144, e1]
  refine call_ret (rounded_call (c * r) 10000 w m.1 (by omega) (by omega) (by omega) w0 w3) rfl rfl ?_
  simp only [Zu, Za, Zb, Zg, Zh, Zi, Zk, Zl, Zm, Zn, ↓reduceIte, reduceCtorEq, Zd, Ze, Zc, Zf, Z144]
  exact PostR.pure ⟨rfl, rfl⟩ rfl
theorem isRated_call (r w : Int) (r0 : 0 ≤ r) (r1 : r ≤ 10000) (w0 : 0 ≤ w) (w3 : w ≤ 3) : CallA Tryz.prog 151 [.int .i64 r, .int .i64 w] [] (Ret (.bool true) []) := by
  refine CallP.out (t := .mk) (go_in (md := md151) mixed Tryz.func151 rfl go151 (by kernel_rfl) ?_)
  simp only [Zu, Za, Zb, Zg, Zh, Zi, Zk, Zl, Zm, Zn, ↓reduceIte, reduceCtorEq, Zd, Ze, Zc, Zf, Z151]
  refine call_ret (isRate_call _) rfl rfl ?_
  rw [inR_yes r0 r1]
  simp only [Zu, Za, Zb, Zg, Zh, Zi, Zk, Zl, Zm, Zn, ↓reduceIte, reduceCtorEq, Zd, Ze, Zc, Zf, Z151]
  refine call_ret (isRound_call _) rfl rfl ?_
  rw [inR_yes w0 w3]
  simp only [Zu, Za, Zb, Zg, Zh, Zi, Zk, Zl, Zm, Zn, ↓reduceIte, reduceCtorEq, Zd, Ze, Zc, Zf, Z151]
  exact PostR.pure ⟨rfl, rfl⟩ rfl
def ownF (r w x : Int) : Int := rnd (x * r) 10000 w
theorem own_bound {r w x : Int} (r0 : 0 ≤ r) (r1 : r ≤ 10000) (x0 : 0 ≤ x) : 0 ≤ ownF r w x ∧ ownF r w x ≤ x + 1 := by
  have m := mul_bounds x0 (Int.le_refl x) r0 r1
  exact rnd_bound x m.1 (by omega) (by omega)
def befF (r w : Int) (xs : List Int) : Nat → Int
  | 0 => 0
  | i + 1 => ownF r w (xs.getD i 0)
def chnF (r w : Int) (xs : List Int) (i : Nat) : Int := ownF r w (xs.getD i 0) - befF r w xs i
theorem bef_bound {r w : Int} {xs : List Int} (hx : Sml 2000 xs) (r0 : 0 ≤ r) (r1 : r ≤ 10000) (i : Nat) (hi : i ≤ xs.length) : 0 ≤ befF r w xs i ∧ befF r w xs i ≤ 2000 := by
  cases i with
  | zero => simp [befF]
  | succ i =>
    have h := hx.at_ (show i < xs.length by omega)
    have := own_bound (w := w) r0 r1 h.1
    simp only [befF]
    omega
theorem chainDues_call (xs : List Int) (hx : Sml 2000 xs) (h1 : 1 ≤ xs.length) (hl : xs.length ≤ 10) (r w : Int) (r0 : 0 ≤ r) (r1 : r ≤ 10000) (w0 : 0 ≤ w) (w3 : w ≤ 3) :
    CallA Tryz.prog 108 [.ro (ints xs), .int .i64 r, .int .i64 w] [] (Ret (.tup [.sl 0 0 xs.length, .bool true]) [intB (rngL (chnF r w xs) xs.length)]) := by
  refine CallP.out (t := .mk) (go_in (md := md108) mixed Tryz.func108 rfl go108 (by kernel_rfl) ?_)
  simp only [Zu, Za, Zb, Zg, Zh, Zi, Zk, Zl, Zm, Zn, ↓reduceIte, reduceCtorEq, Zd, Ze, Zc, Zf, Z108]
  refine call_ret (hasCount_call xs _ _ _ _ (by omega)) rfl rfl ?_
  rw [hasC_yes hx h1 (by omega) (by omega)]
  simp only [Zu, Za, Zb, Zg, Zh, Zi, Zk, Zl, Zm, Zn, ↓reduceIte, reduceCtorEq, Zd, Ze, Zc, Zf, Z108]
  refine call_ret (isRated_call r w r0 r1 w0 w3) rfl rfl ?_
  simp only [Zu, Za, Zb, Zg, Zh, Zi, Zk, Zl, Zm, Zn, ↓reduceIte, reduceCtorEq, Zd, Ze, Zc, Zf, Z108]
  refine go_round (md := md108) mixed (by kernel_rfl) (fun i : {i : Nat // i ≤ xs.length} => ⟨[.any, .int .i64 r, .int .i64 w, .any, .any, .any, .any, .any, .sl 0 0 i.1, .int .i64 (befF r w xs i.1), .any, .any, .any, .any, .any, .any, .any, .any, .any, .any, .any, .any, .any, .ro (ints xs), .int .i64 xs.length, .int .i64 i.1, .any, .any, .any, .any, .any, .any, .any, .any, .any, .any, .any, .any, .any, .any, .any, .any], [intB (rngL (chnF r w xs) i.1)]⟩) (fun i => xs.length - i.1) ⟨0, by simp⟩ ?_ ?_
  · exact weak_drop (by simp) (by simp [DropHp, ints_below, flts_below, intB, ints, rngL, befF, allBelow_cons, allBelow_nil, below, belowM, belowL]) (by simp [DropTm, DropV, below, belowM, belowL, intB, ints, rngL, befF, allBelow_cons, allBelow_nil, below, belowM, belowL])
  · intro ⟨i, hi⟩
    have rl := rngL_len (chnF r w xs) i
    simp only [Zu, Za, Zb, Zg, Zh, Zi, Zk, Zl, Zm, Zn, ↓reduceIte, reduceCtorEq, Zd, Ze, Zc, Zf, Z108, intB, ints_len, rl]
    refine br_intro (fun h => ?_) (fun h => ?_) <;> simp only [Zu, Za, Zb, Zg, Zh, Zi, Zk, Zl, Zm, Zn, ↓reduceIte, reduceCtorEq, Zd, Ze, Zc, Zf, Z108, intB, ints_len, rl]
    · have hi' : i < xs.length := by simpa using h
      have bx := hx.at_ hi'
      rw [getD_at xs 0 i hi'] at bx
      have bo := own_bound (w := w) r0 r1 bx.1
      have bb := bef_bound (w := w) hx r0 r1 i (by omega)
      have e1 : IntKind.i64.wrap (rnd (xs[i] * r) 10000 w - befF r w xs i) = chnF r w xs i := by
        rw [w64 (by show _ ≤ ownF r w xs[i] - _; omega) (by show ownF r w xs[i] - _ ≤ _; omega), chnF, getD_at xs 0 i hi']; rfl
      refine ⟨hi', ?_⟩
      refine call_ret (dueBy_call xs[i] r w bx.1 (by omega) r0 r1 w0 w3) rfl rfl ?_
      simp only [Zu, Za, Zb, Zg, Zh, Zi, Zk, Zl, Zm, Zn, ↓reduceIte, reduceCtorEq, Zd, Ze, Zc, Zf, Z108, intB, ints_len, rl, e1, allW_int, fits, List.isEmpty_cons, brk_false, Nat.reduceMul]
      refine ⟨by omega, ⟨i + 1, by omega⟩, by show xs.length - (i + 1) < xs.length - i; omega, ?_⟩
      have e2 : rnd (xs[i] * r) 10000 w = befF r w xs (i + 1) := by rw [befF, getD_at xs 0 i hi']; rfl
      rw [e2, rngL_succ]
      exact weak_drop (by simp) (by simp [DropHp, ints_below, flts_below, w64_succ i (by omega), intB, allBelow_cons, allBelow_nil, below, belowM, belowL]) (by simp [DropTm, DropV, below, belowM, belowL, w64_succ i (by omega), intB, allBelow_cons, allBelow_nil, below, belowM, belowL])
    · have hi' : i = xs.length := by simp at h; omega
      subst hi'
      exact PostR.ret
theorem iclone_frozen (xs : List Int) (h0 : 1 ≤ xs.length) (h : xs.length ≤ 1048576) : CallA Tryz.prog 70 [.ro (ints xs)] [] (Ret (.ro (ints xs)) []) :=
  CallA.frozen 1 (iclone_call xs h0 h) (by simp [view_sl, map_view_ints, take_ints, ints_len, intB])
theorem view_intB (xs : List Int) {n : Nat} (h : n = xs.length) : view 1 [intB xs] (.sl 0 0 n) = .ro (ints xs) := by
  subst h
  simp [view_sl, map_view_ints, take_ints, ints_len, intB]
theorem mapped_lent (fid : FuncId) (caps caps2 : List AV) (q : Int → Int) (hp : List Blk) (hv : caps.map (view 1 hp) = caps2) (hc : caps2.all (below 0) = true) (hc2 : caps2.all (belowL 0) = true) (hcN : ∀ N, caps2.all (belowL N) = true) (hck : ∀ b, caps2.map (killL b) = caps2) (xs : List Int) (hm : xs.length ≤ 1048576) (hq : ∀ x ∈ xs, CallA Tryz.prog fid (.int .i64 x :: caps2) [] (Ret (.int .i64 (q x)) [])) (hf : ∀ b ∈ hp, allBelow hp.length b.els = true) :
    CallA Tryz.prog 132 [.ro (ints xs), .fn fid caps] hp (Ret (.ro (ints (xs.map q))) hp) := by
  refine CallA.lentFrozen 2 1 (args' := [.ro (ints xs), .fn fid caps2]) ?_ (mapped_call fid caps2 q hc hc2 hcN hck xs hm hq) rfl (by simp [cleanB, intB, ints_clean]) (by intro r hr; simp at hr; subst hr; exact ints_below _ _) hf rfl (view_intB _ (by simp))
  show [AV.ro (ints xs), AV.fn fid (caps.map (view 1 hp))] = _
  rw [hv]
theorem mix1_call (n m : Int) (h : IntKind.i64.wrap (n * m) = n * m) (h2 : IntKind.i64.wrap ((n * m).tdiv 10000) = (n * m).tdiv 10000) : CallA Tryz.prog 133 [.int .i64 n, .rop [.int .i64 m]] [] (Ret (.int .i64 ((n * m).tdiv 10000)) []) := by
  refine CallP.out (t := .mk) (go_in (md := md133) mixed Tryz.func133 rfl go133 (by kernel_rfl) ?_)
  simp only [Zu, Za, Zb, Zg, Zh, Zi, Zk, Zl, Zm, Zn, ↓reduceIte, reduceCtorEq, Zd, Ze, Zc, Zf, Z133, h, h2, Int.reduceLT, Int.reduceLE, Int.reduceNeg, Int.reduceEq, Int.reduceGT, Int.reduceGE, decide_true, decide_false, beq_self_eq_true, bne_self_eq_false, Int.reduceBEq, Int.reduceBNe, Int.reduceAdd, Int.reduceSub]
  exact ⟨by decide, PostR.pure ⟨rfl, rfl⟩ rfl⟩
theorem mixScale_call {bs rs : List Int} (S : Scl bs rs) (m : Int) (m0 : 0 ≤ m) (m1 : m ≤ 20000) (S2 : Scl bs (rs.map fun n => (n * m).tdiv 10000)) : CallA Tryz.prog 96 [.agg [.ro (ints bs), .ro (ints rs)], .int .i64 m] [] (Ret (.tup [.agg [.ro (ints bs), .ro (ints (rs.map fun n => (n * m).tdiv 10000))], .bool true]) []) := by
  have hl := S.len
  have hcap := S.cap
  have b1 : 1 ≤ bs.length := by obtain ⟨tl, rfl, _⟩ := S.split; simp
  have v := validScale_call bs rs (by omega) (by omega)
  rw [S.ok] at v
  have mp : ∀ x ∈ rs, CallA Tryz.prog 133 [.int .i64 x, .rop [.int .i64 m]] [] (Ret (.int .i64 ((x * m).tdiv 10000)) []) := (fun x hx => by
    have hr := S.rate x hx
    have b := mul_bounds hr.1 hr.2 m0 m1
    have e : (x * m).tdiv 10000 = x * m / 10000 := Int.tdiv_eq_ediv_of_nonneg b.1
    exact mix1_call x m (w64 (by omega) (by omega)) (by rw [e, w64 (by omega) (by omega)]))
  refine CallP.out (t := .mk) (go_in (md := md96) mixed Tryz.func96 rfl go96 (by kernel_rfl) ?_)
  simp only [Zu, Za, Zb, Zg, Zh, Zi, Zk, Zl, Zm, Zn, ↓reduceIte, reduceCtorEq, Zd, Ze, Zc, Zf, Z96]
  refine call_ret v rfl rfl ?_
  simp only [Zu, Za, Zb, Zg, Zh, Zi, Zk, Zl, Zm, Zn, ↓reduceIte, reduceCtorEq, Zd, Ze, Zc, Zf, Z96]
  refine call_ret (within_call _ _ _) rfl rfl ?_
  rw [inR_yes m0 m1]
  simp only [Zu, Za, Zb, Zg, Zh, Zi, Zk, Zl, Zm, Zn, ↓reduceIte, reduceCtorEq, Zd, Ze, Zc, Zf, Z96]
  refine callr_ret (iclone_frozen bs b1 (by omega)) rfl rfl ?_
  simp only [Zu, Za, Zb, Zg, Zh, Zi, Zk, Zl, Zm, Zn, ↓reduceIte, reduceCtorEq, Zd, Ze, Zc, Zf, Z96]
  refine callr_by _ (mapped_lent 133 [.ptr 1 0 0] [.rop [.int .i64 m]] (fun n => (n * m).tdiv 10000) _ rfl rfl rfl (fun _ => rfl) (fun _ => rfl) rs (by omega) mp (by intro r hr; simp only [List.mem_cons, List.not_mem_nil, or_false] at hr; rcases hr with rfl | rfl | rfl | rfl | rfl | rfl <;> first | rfl | exact flts_below _ _ | exact ints_below _ _)) ?_
  simp only [Zu, Za, Zb, Zg, Zh, Zi, Zk, Zl, Zm, Zn, ↓reduceIte, reduceCtorEq, Zd, Ze, Zc, Zf, Z96]
  refine callr_ret (scale_ro S2) rfl rfl ?_
  simp only [Zu, Za, Zb, Zg, Zh, Zi, Zk, Zl, Zm, Zn, ↓reduceIte, reduceCtorEq, Zd, Ze, Zc, Zf, Z96]
  exact PostR.pure ⟨rfl, rfl⟩ rfl
set_option maxHeartbeats 4000000
def finA (x : Nat) : AV := .tup [.flt .f32 (if finB .f32 x then x else 0), .bool (finB .f32 x)]
theorem years_gen {q : List Nat} (T : Tbl q) : CallA Tryz.prog 90 [.ro (flts q)] [] (Ret (finA (yrF q)) []) := by
  have h6 := T.six
  have al := alvL_len q
  have ch : canon .f32 1056964608 = 1056964608 := by decide +kernel
  refine CallP.out (t := .mk) (go_in (md := md90) mixed Tryz.func90 rfl go90 (by kernel_rfl) ?_)
  simp only [Zu, Za, Zb, Zg, Zh, Zi, Zk, Zl, Zm, Zn, ↓reduceIte, reduceCtorEq, Zd, Ze, Zc, Zf, Z90, f0]
  refine call_ret (isLifeTable_call q (by omega)) rfl rfl ?_
  rw [T.ok]
  simp only [Zu, Za, Zb, Zg, Zh, Zi, Zk, Zl, Zm, Zn, ↓reduceIte, reduceCtorEq, Zd, Ze, Zc, Zf, Z90, f0]
  refine call_ret (alive_ro (by omega)) rfl rfl ?_
  simp only [Zu, Za, Zb, Zg, Zh, Zi, Zk, Zl, Zm, Zn, ↓reduceIte, reduceCtorEq, Zd, Ze, Zc, Zf, Z90, f0, flts_len, al]
  refine go_round (md := md90) mixed (by kernel_rfl) (fun i : {i : Nat // i ≤ q.length} => ⟨[.any, .any, .any, .any, .flt .f32 (smF (alvL q) i.1), .any, .any, .any, .any, .any, .any, .ro (flts (alvL q)), .int .i64 q.length, .int .i64 (i.1 : Int), .any, .any, .any, .any, .any, .any, .any, .any, .any, .any, .any, .any], []⟩) (fun i => q.length - i.1) ⟨0, by omega⟩ ?_ ?_
  · have e : smF (alvL q) 0 = 0 := rfl
    rw [e]
    exact weak_drop (by simp) (by simp [DropHp, ints_below, flts_below]) (by simp [DropTm, DropV, below, belowM, belowL])
  rintro ⟨i, hi⟩
  simp only [Zu, Za, Zb, Zg, Zh, Zi, Zk, Zl, Zm, Zn, ↓reduceIte, reduceCtorEq, Zd, Ze, Zc, Zf, Z90, flts_len, al, ch]
  refine br_intro (fun h => ?_) (fun h => ?_) <;> simp only [Zu, Za, Zb, Zg, Zh, Zi, Zk, Zl, Zm, Zn, ↓reduceIte, reduceCtorEq, Zd, Ze, Zc, Zf, Z90, flts_len, al, ch]
  · have hi' : i < q.length := by have := of_decide_eq_true h; omega
    have ha : i < (alvL q).length := by omega
    have es : smF (alvL q) (i + 1) = fadd .f32 (smF (alvL q) i) (alvL q)[i] := by rw [smF, getD_at (alvL q) 0 i ha]
    refine ⟨hi', ⟨i + 1, by omega⟩, by show q.length - (i + 1) < q.length - i; omega, ?_⟩
    exact weak_drop (by simp) (by simp [DropHp, ints_below, flts_below, es, w64_succ i (by omega)]) (by simp [DropTm, DropV, below, belowM, belowL, es, w64_succ i (by omega)])
  · have hi' : i = q.length := by have := of_decide_eq_false h; omega
    subst hi'
    have ey : fsub .f32 (smF (alvL q) q.length) 1056964608 = yrF q := rfl
    simp only [ey]
    refine call_ret (finite_call _) rfl rfl ?_
    simp only [Zu, Za, Zb, Zg, Zh, Zi, Zk, Zl, Zm, Zn, ↓reduceIte, reduceCtorEq, Zd, Ze, Zc, Zf, Z90]
    exact PostR.pure ⟨rfl, rfl⟩ rfl
def yldB (r : Nat) : Bool := fge .f32 r 0 && fle .f32 r 1065353216
theorem isYield_gen (r : Nat) : CallA Tryz.prog 183 [.flt .f32 r] [] (Ret (.bool (yldB r)) []) := by
  refine CallP.out (t := .mk) (go_in (md := md183) mixed Tryz.func183 rfl go183 (by kernel_rfl) ?_)
  simp only [Zu, Za, Zb, Zg, Zh, Zi, Zk, Zl, Zm, Zn, ↓reduceIte, reduceCtorEq, Zd, Ze, Zc, Zf, Z183, f0, f1]
  refine br_intro (fun h => ?_) (fun h => ?_) <;> simp only [Zu, Za, Zb, Zg, Zh, Zi, Zk, Zl, Zm, Zn, ↓reduceIte, reduceCtorEq, Zd, Ze, Zc, Zf, Z183, f0, f1]
  · exact PostR.pure ⟨by unfold yldB; rw [h]; rfl, rfl⟩ rfl
  · exact PostR.pure ⟨by unfold yldB; rw [h]; rfl, rfl⟩ rfl
theorem later_gen {q : List Nat} (T : Tbl q) {r : Nat} (Y : yldB r = true) (w : Nat) (hw : w ≤ q.length) : CallA Tryz.prog 146 [.ro (flts q), .flt .f32 r, .int .i64 (w : Int)] [] (Ret (finA (valF q r w)) []) := by
  have h6 := T.six
  have al := alvL_len q
  have pc := present_call (alvL q) r w (by omega) (by omega)
  rw [al] at pc
  have pc : CallA Tryz.prog 184 [.ro (flts (alvL q)), .flt .f32 r, .int .i64 (w : Int)] [] (Ret (.flt .f32 (valF q r w)) []) := pc
  have e1 : IntKind.i64.wrap (w : Int) = (w : Int) := w64 (by omega) (by omega)
  refine CallP.out (t := .mk) (go_in (md := md146) mixed Tryz.func146 rfl go146 (by kernel_rfl) ?_)
  simp only [Zu, Za, Zb, Zg, Zh, Zi, Zk, Zl, Zm, Zn, ↓reduceIte, reduceCtorEq, Zd, Ze, Zc, Zf, Z146, f0]
  refine call_ret (isLifeTable_call q (by omega)) rfl rfl ?_
  rw [T.ok]
  simp only [Zu, Za, Zb, Zg, Zh, Zi, Zk, Zl, Zm, Zn, ↓reduceIte, reduceCtorEq, Zd, Ze, Zc, Zf, Z146, f0]
  refine call_ret (isYield_gen r) rfl rfl ?_
  rw [Y]
  simp only [Zu, Za, Zb, Zg, Zh, Zi, Zk, Zl, Zm, Zn, ↓reduceIte, reduceCtorEq, Zd, Ze, Zc, Zf, Z146, f0, flts_len]
  refine call_ret (within_call _ _ _) rfl rfl ?_
  rw [inR_yes (by omega) (by omega)]
  simp only [Zu, Za, Zb, Zg, Zh, Zi, Zk, Zl, Zm, Zn, ↓reduceIte, reduceCtorEq, Zd, Ze, Zc, Zf, Z146, f0]
  refine call_ret (alive_ro (by omega)) rfl rfl ?_
  simp only [Zu, Za, Zb, Zg, Zh, Zi, Zk, Zl, Zm, Zn, ↓reduceIte, reduceCtorEq, Zd, Ze, Zc, Zf, Z146, f0, e1]
  refine call_ret pc rfl rfl ?_
  simp only [Zu, Za, Zb, Zg, Zh, Zi, Zk, Zl, Zm, Zn, ↓reduceIte, reduceCtorEq, Zd, Ze, Zc, Zf, Z146, f0]
  refine call_ret (finite_call _) rfl rfl ?_
  simp only [Zu, Za, Zb, Zg, Zh, Zi, Zk, Zl, Zm, Zn, ↓reduceIte, reduceCtorEq, Zd, Ze, Zc, Zf, Z146, f0]
  exact PostR.pure ⟨rfl, rfl⟩ rfl
theorem annuity_gen {q : List Nat} (T : Tbl q) {r : Nat} (Y : yldB r = true) : CallA Tryz.prog 104 [.ro (flts q), .flt .f32 r] [] (Ret (finA (valF q r 0)) []) := by
  refine CallP.out (t := .mk) (go_in (md := md104) mixed Tryz.func104 rfl go104 (by kernel_rfl) ?_)
  simp only [Zu, Za, Zb, Zg, Zh, Zi, Zk, Zl, Zm, Zn, ↓reduceIte, reduceCtorEq, Zd, Ze, Zc, Zf, Z104, f0]
  refine call_ret (later_gen T Y 0 (Nat.zero_le _)) rfl rfl ?_
  unfold finA
  simp only [Zu, Za, Zb, Zg, Zh, Zi, Zk, Zl, Zm, Zn, ↓reduceIte, reduceCtorEq, Zd, Ze, Zc, Zf, Z104, f0]
  exact PostR.pure ⟨rfl, rfl⟩ rfl
def lsT (xs : List Int) : List UInt8 := if xs = [] then noneT else txt [44] xs
theorem listT_call (xs : List Int) (h2 : xs.length ≤ 64) (hb : ∀ x ∈ xs, okM x) : CallA Tryz.prog 85 [.ro (ints xs)] [] (Ret (.tup [.str (lsT xs), .bool true]) []) := by
  by_cases e : xs = []
  · subst e
    refine CallP.out (t := .mk) (go_in (md := md85) mixed Tryz.func85 rfl go85 (by kernel_rfl) ?_)
    simp only [Zu, Za, Zb, Zg, Zh, Zi, Zk, Zl, Zm, Zn, ↓reduceIte, reduceCtorEq, Zd, Ze, Zc, Zf, Z85]
    refine call_ret (hasCount_call [] 0 64 (-1000000000000000) 1000000000000000 (by simp)) rfl rfl ?_
    rw [show hasC [] 0 64 (-1000000000000000) 1000000000000000 = true from by decide]
    simp only [Zu, Za, Zb, Zg, Zh, Zi, Zk, Zl, Zm, Zn, ↓reduceIte, reduceCtorEq, Zd, Ze, Zc, Zf, Z85]
    refine br_yes (by simp) ?_
    simp only [Zu, Za, Zb, Zg, Zh, Zi, Zk, Zl, Zm, Zn, ↓reduceIte, reduceCtorEq, Zd, Ze, Zc, Zf, Z85]
    exact PostR.pure ⟨rfl, rfl⟩ rfl
  · have := listText_call xs (by cases xs with | nil => exact absurd rfl e | cons _ _ => simp) h2 hb
    unfold lsT
    rw [if_neg e]; exact this
theorem toldL_call (xs : List Int) (ok : Bool) (h2 : xs.length ≤ 64) (hb : ∀ x ∈ xs, okM x) : CallA Tryz.prog 97 [.ro (ints xs), .bool ok] [] (Ret (.tup [.str (lsT xs), .bool ok]) []) := by
  refine CallP.out (t := .mk) (go_in (md := md97) mixed Tryz.func97 rfl go97 (by kernel_rfl) ?_)
  simp only [Zu, Za, Zb, Zg, Zh, Zi, Zk, Zl, Zm, Zn, ↓reduceIte, reduceCtorEq, Zd, Ze, Zc, Zf, Z97]
  refine call_ret (listT_call xs h2 hb) rfl rfl ?_
  simp only [Zu, Za, Zb, Zg, Zh, Zi, Zk, Zl, Zm, Zn, ↓reduceIte, reduceCtorEq, Zd, Ze, Zc, Zf, Z97]
  cases ok
  · simp only [Zu, Za, Zb, Zg, Zh, Zi, Zk, Zl, Zm, Zn, ↓reduceIte, reduceCtorEq, Zd, Ze, Zc, Zf, Z97]
    exact PostR.pure ⟨rfl, rfl⟩ rfl
  · simp only [Zu, Za, Zb, Zg, Zh, Zi, Zk, Zl, Zm, Zn, ↓reduceIte, reduceCtorEq, Zd, Ze, Zc, Zf, Z97]
    exact PostR.pure ⟨rfl, rfl⟩ rfl
theorem toldNil_call : CallA Tryz.prog 97 [.nils, .bool false] [] (Ret (.tup [.str noneT, .bool false]) []) := by
  refine callNil ?_
  exact toldL_call [] false (by simp) (by simp)
theorem toldPair_call (a b : Int) (ok : Bool) (ha : okM a) (hb : okM b) : CallA Tryz.prog 91 [.int .i64 a, .int .i64 b, .bool ok] [] (Ret (.tup [.str (txt [44] [a, b]), .bool ok]) []) := by
  have t := toldL_call [a, b] ok (by simp) (by intro x hx; simp at hx; rcases hx with rfl | rfl <;> assumption)
  refine CallP.out (t := .mk) (go_in (md := md91) mixed Tryz.func91 rfl go91 (by kernel_rfl) ?_)
  simp only [Zu, Za, Zb, Zg, Zh, Zi, Zk, Zl, Zm, Zn, ↓reduceIte, reduceCtorEq, Zd, Ze, Zc, Zf, Z91]
  refine call_lent 2 (args' := [.ro (ints [a, b]), .bool ok]) (by simp [view_sl, view_bool, view_int, ints]) t rfl rfl ?_
  simp only [Zu, Za, Zb, Zg, Zh, Zi, Zk, Zl, Zm, Zn, ↓reduceIte, reduceCtorEq, Zd, Ze, Zc, Zf, Z91]
  exact PostR.pure ⟨rfl, rfl⟩ rfl
theorem toldN_call (xs : List Nat) (okb : Bool) (hl : xs.length ≤ 256) (ok : ∀ x ∈ xs, okW x) : CallA Tryz.prog 87 [.ro (flts xs), .bool okb] [] (Ret (.tup [.str (wdsT (hexW xs)), .bool okb]) []) := by
  refine CallP.out (t := .mk) (go_in (md := md87) mixed Tryz.func87 rfl go87 (by kernel_rfl) ?_)
  simp only [Zu, Za, Zb, Zg, Zh, Zi, Zk, Zl, Zm, Zn, ↓reduceIte, reduceCtorEq, Zd, Ze, Zc, Zf, Z87]
  refine call_ret (numbersText_call xs hl ok) rfl rfl ?_
  simp only [Zu, Za, Zb, Zg, Zh, Zi, Zk, Zl, Zm, Zn, ↓reduceIte, reduceCtorEq, Zd, Ze, Zc, Zf, Z87]
  cases okb
  · simp only [Zu, Za, Zb, Zg, Zh, Zi, Zk, Zl, Zm, Zn, ↓reduceIte, reduceCtorEq, Zd, Ze, Zc, Zf, Z87]
    exact PostR.pure ⟨rfl, rfl⟩ rfl
  · simp only [Zu, Za, Zb, Zg, Zh, Zi, Zk, Zl, Zm, Zn, ↓reduceIte, reduceCtorEq, Zd, Ze, Zc, Zf, Z87]
    exact PostR.pure ⟨rfl, rfl⟩ rfl
theorem toldOne_call (x : Nat) (ok : Bool) (hx : okW x) : CallA Tryz.prog 89 [.flt .f32 x, .bool ok] [] (Ret (.tup [.str (wdsT (hexW [x])), .bool ok]) []) := by
  have t := toldN_call [x] ok (by simp) (by intro y hy; simp at hy; subst hy; exact hx)
  refine CallP.out (t := .mk) (go_in (md := md89) mixed Tryz.func89 rfl go89 (by kernel_rfl) ?_)
  simp only [Zu, Za, Zb, Zg, Zh, Zi, Zk, Zl, Zm, Zn, ↓reduceIte, reduceCtorEq, Zd, Ze, Zc, Zf, Z89]
  refine call_lent 2 (args' := [.ro (flts [x]), .bool ok]) (by simp [view_sl, view_bool, view_flt, flts]) t rfl rfl ?_
  simp only [Zu, Za, Zb, Zg, Zh, Zi, Zk, Zl, Zm, Zn, ↓reduceIte, reduceCtorEq, Zd, Ze, Zc, Zf, Z89]
  exact PostR.pure ⟨rfl, rfl⟩ rfl
theorem lsF_range (q : Int → Bool) (lo hi : Int) (h : lo ≤ hi) : lo ≤ lsF q lo hi ∧ lsF q lo hi ≤ hi := by
  fun_induction lsF q lo hi with
  | case1 lo hi h1 h2 ih => have := ih (by omega); omega
  | case2 lo hi h1 h2 ih => have := ih (by omega); omega
  | case3 lo hi h1 => omega
theorem gross_ex {bs rs : List Int} (S : Scl bs rs) (n w : Int) (h0 : 0 ≤ n) (h1 : n ≤ 1000000000000) (w0 : 0 ≤ w) (w3 : w ≤ 3) : ∃ (v : Int) (ok : Bool), okM v ∧ CallA Tryz.prog 107 [.agg [.ro (ints bs), .ro (ints rs)], .int .i64 n, .int .i64 w] [] (Ret (.tup [.int .i64 v, .bool ok]) []) := by
  cases hr : rs.all (inR 0 9999) with
  | false => exact ⟨0, false, by unfold okM; omega, grossOf_no S hr n w h0 h1 w0 w3⟩
  | true =>
    have lc := least_call 150 [.rop [.ro (ints bs), .ro (ints rs)], .rop [.int .i64 w], .rop [.int .i64 n]] (geN bs rs w n) rfl rfl 0 (Int.le_refl 0) (by omega) (fun x a b => gross1_call S w _ w0 w3 x a b)
    unfold leastR at lc
    rw [decide_eq_true (show (0 : Int) ≤ 1000000000000 by decide), Bool.true_and] at lc
    have lr := lsF_range (geN bs rs w n) 0 1000000000000 (by decide)
    generalize lsF (geN bs rs w n) 0 1000000000000 = g at lc lr
    cases hq : geN bs rs w n 1000000000000 with
    | false =>
      rw [hq] at lc
      simp only [Bool.false_eq_true, if_false] at lc
      refine ⟨0, false, by unfold okM; omega, ?_⟩
      refine CallP.out (t := .mk) (go_in (md := md107) mixed Tryz.func107 rfl go107 (by kernel_rfl) ?_)
      simp only [Zu, Za, Zb, Zg, Zh, Zi, Zk, Zl, Zm, Zn, ↓reduceIte, reduceCtorEq, Zd, Ze, Zc, Zf, Z107]
      refine call_ret (isAsked_yes S h0 h1 w0 w3) rfl rfl ?_
      simp only [Zu, Za, Zb, Zg, Zh, Zi, Zk, Zl, Zm, Zn, ↓reduceIte, reduceCtorEq, Zd, Ze, Zc, Zf, Z107]
      refine call_ret (isBelow_call S) rfl rfl ?_
      rw [hr]
      simp only [Zu, Za, Zb, Zg, Zh, Zi, Zk, Zl, Zm, Zn, ↓reduceIte, reduceCtorEq, Zd, Ze, Zc, Zf, Z107]
      refine call_lent 2 (by rfl) lc rfl rfl ?_
      simp only [Zu, Za, Zb, Zg, Zh, Zi, Zk, Zl, Zm, Zn, ↓reduceIte, reduceCtorEq, Zd, Ze, Zc, Zf, Z107]
      exact PostR.pure ⟨rfl, rfl⟩ rfl
    | true =>
      rw [hq] at lc
      simp only [if_true] at lc
      cases hg : (netF bs rs g w != n) with
      | true =>
        refine ⟨0, false, by unfold okM; omega, ?_⟩
        refine CallP.out (t := .mk) (go_in (md := md107) mixed Tryz.func107 rfl go107 (by kernel_rfl) ?_)
        simp only [Zu, Za, Zb, Zg, Zh, Zi, Zk, Zl, Zm, Zn, ↓reduceIte, reduceCtorEq, Zd, Ze, Zc, Zf, Z107]
        refine call_ret (isAsked_yes S h0 h1 w0 w3) rfl rfl ?_
        simp only [Zu, Za, Zb, Zg, Zh, Zi, Zk, Zl, Zm, Zn, ↓reduceIte, reduceCtorEq, Zd, Ze, Zc, Zf, Z107]
        refine call_ret (isBelow_call S) rfl rfl ?_
        rw [hr]
        simp only [Zu, Za, Zb, Zg, Zh, Zi, Zk, Zl, Zm, Zn, ↓reduceIte, reduceCtorEq, Zd, Ze, Zc, Zf, Z107]
        refine call_lent 2 (by rfl) lc rfl rfl ?_
        simp only [Zu, Za, Zb, Zg, Zh, Zi, Zk, Zl, Zm, Zn, ↓reduceIte, reduceCtorEq, Zd, Ze, Zc, Zf, Z107]
        refine callr_ret (net_call S g w lr.1 lr.2 w0 w3) rfl rfl ?_
        simp only [Zu, Za, Zb, Zg, Zh, Zi, Zk, Zl, Zm, Zn, ↓reduceIte, reduceCtorEq, Zd, Ze, Zc, Zf, Z107, hg]
        exact PostR.pure ⟨rfl, rfl⟩ rfl
      | false =>
        refine ⟨g, true, by unfold okM; omega, ?_⟩
        refine CallP.out (t := .mk) (go_in (md := md107) mixed Tryz.func107 rfl go107 (by kernel_rfl) ?_)
        simp only [Zu, Za, Zb, Zg, Zh, Zi, Zk, Zl, Zm, Zn, ↓reduceIte, reduceCtorEq, Zd, Ze, Zc, Zf, Z107]
        refine call_ret (isAsked_yes S h0 h1 w0 w3) rfl rfl ?_
        simp only [Zu, Za, Zb, Zg, Zh, Zi, Zk, Zl, Zm, Zn, ↓reduceIte, reduceCtorEq, Zd, Ze, Zc, Zf, Z107]
        refine call_ret (isBelow_call S) rfl rfl ?_
        rw [hr]
        simp only [Zu, Za, Zb, Zg, Zh, Zi, Zk, Zl, Zm, Zn, ↓reduceIte, reduceCtorEq, Zd, Ze, Zc, Zf, Z107]
        refine call_lent 2 (by rfl) lc rfl rfl ?_
        simp only [Zu, Za, Zb, Zg, Zh, Zi, Zk, Zl, Zm, Zn, ↓reduceIte, reduceCtorEq, Zd, Ze, Zc, Zf, Z107]
        refine callr_ret (net_call S g w lr.1 lr.2 w0 w3) rfl rfl ?_
        simp only [Zu, Za, Zb, Zg, Zh, Zi, Zk, Zl, Zm, Zn, ↓reduceIte, reduceCtorEq, Zd, Ze, Zc, Zf, Z107, hg]
        exact PostR.pure ⟨rfl, rfl⟩ rfl
def chaL (ps : List Int) (r w : Int) : List Int := rngL (chnF r w ps) ps.length
theorem chain_ro {ps : List Int} (H : Pys ps) (r w : Int) (r0 : 0 ≤ r) (r1 : r ≤ 10000) (w0 : 0 ≤ w) (w3 : w ≤ 3) : CallA Tryz.prog 108 [.ro (ints ps), .int .i64 r, .int .i64 w] [] (Ret (.tup [.ro (ints (chaL ps r w)), .bool true]) []) :=
  CallA.frozen 3 (chainDues_call ps H.sml2 H.one (by have := H.six; omega) r w r0 r1 w0 w3) (view_tup_in (rngL_len _ _))
theorem cha_ok {ps : List Int} (H : Pys ps) {r w : Int} (r0 : 0 ≤ r) (r1 : r ≤ 10000) : ∀ x ∈ chaL ps r w, okM x := by
  intro x hx
  obtain ⟨i, hi, rfl⟩ := List.mem_map.1 hx
  have hi := List.mem_range.1 hi
  have a := own_bound (w := w) r0 r1 (H.sml2.at_ hi).1
  have a2 := (H.sml2.at_ hi).2
  have b := bef_bound (w := w) H.sml2 r0 r1 i (by omega)
  unfold okM chnF
  omega
def mixL (rs : List Int) (m : Int) : List Int := rs.map fun n => (n * m).tdiv 10000
theorem scale_no {bs rs : List Int} (h1 : bs.length ≤ 1000) (h2 : rs.length ≤ 1000) (h : scaleB bs rs = false) : CallA Tryz.prog 131 [.agg [.ro (ints bs), .ro (ints rs)]] [] (Ret (.tup [.agg [.nils, .nils], .bool false]) []) := by
  have v := validScale_call bs rs (by omega) (by omega)
  rw [h] at v
  refine CallP.out (t := .mk) (go_in (md := md131) mixed Tryz.func131 rfl go131 (by kernel_rfl) ?_)
  simp only [Zu, Za, Zb, Zg, Zh, Zi, Zk, Zl, Zm, Zn, ↓reduceIte, reduceCtorEq, Zd, Ze, Zc, Zf, Z131]
  refine call_ret v rfl rfl ?_
  simp only [Zu, Za, Zb, Zg, Zh, Zi, Zk, Zl, Zm, Zn, ↓reduceIte, reduceCtorEq, Zd, Ze, Zc, Zf, Z131]
  exact PostR.pure ⟨rfl, rfl⟩ rfl
theorem mix_no {bs rs : List Int} (S : Scl bs rs) (m : Int) (m0 : 0 ≤ m) (m1 : m ≤ 20000) (S2 : scaleB bs (mixL rs m) = false) : CallA Tryz.prog 96 [.agg [.ro (ints bs), .ro (ints rs)], .int .i64 m] [] (Ret (.tup [.agg [.nils, .nils], .bool false]) []) := by
  have hl := S.len
  have hcap := S.cap
  have b1 : 1 ≤ bs.length := by obtain ⟨tl, rfl, _⟩ := S.split; simp
  have v := validScale_call bs rs (by omega) (by omega)
  rw [S.ok] at v
  have mp : ∀ x ∈ rs, CallA Tryz.prog 133 [.int .i64 x, .rop [.int .i64 m]] [] (Ret (.int .i64 ((x * m).tdiv 10000)) []) := (fun x hx => by
    have hr := S.rate x hx
    have b := mul_bounds hr.1 hr.2 m0 m1
    have e : (x * m).tdiv 10000 = x * m / 10000 := Int.tdiv_eq_ediv_of_nonneg b.1
    exact mix1_call x m (w64 (by omega) (by omega)) (by rw [e, w64 (by omega) (by omega)]))
  refine CallP.out (t := .mk) (go_in (md := md96) mixed Tryz.func96 rfl go96 (by kernel_rfl) ?_)
  simp only [Zu, Za, Zb, Zg, Zh, Zi, Zk, Zl, Zm, Zn, ↓reduceIte, reduceCtorEq, Zd, Ze, Zc, Zf, Z96]
  refine call_ret v rfl rfl ?_
  simp only [Zu, Za, Zb, Zg, Zh, Zi, Zk, Zl, Zm, Zn, ↓reduceIte, reduceCtorEq, Zd, Ze, Zc, Zf, Z96]
  refine call_ret (within_call _ _ _) rfl rfl ?_
  rw [inR_yes m0 m1]
  simp only [Zu, Za, Zb, Zg, Zh, Zi, Zk, Zl, Zm, Zn, ↓reduceIte, reduceCtorEq, Zd, Ze, Zc, Zf, Z96]
  refine callr_ret (iclone_frozen bs b1 (by omega)) rfl rfl ?_
  simp only [Zu, Za, Zb, Zg, Zh, Zi, Zk, Zl, Zm, Zn, ↓reduceIte, reduceCtorEq, Zd, Ze, Zc, Zf, Z96]
  refine callr_by _ (mapped_lent 133 [.ptr 1 0 0] [.rop [.int .i64 m]] (fun n => (n * m).tdiv 10000) _ rfl rfl rfl (fun _ => rfl) (fun _ => rfl) rs (by omega) mp (by intro r hr; simp only [List.mem_cons, List.not_mem_nil, or_false] at hr; rcases hr with rfl | rfl | rfl | rfl | rfl | rfl <;> first | rfl | exact flts_below _ _ | exact ints_below _ _)) ?_
  simp only [Zu, Za, Zb, Zg, Zh, Zi, Zk, Zl, Zm, Zn, ↓reduceIte, reduceCtorEq, Zd, Ze, Zc, Zf, Z96]
  refine callr_ret (scale_no (bs := bs) (rs := mixL rs m) (by omega) (by unfold mixL; rw [List.length_map]; omega) S2) rfl rfl ?_
  simp only [Zu, Za, Zb, Zg, Zh, Zi, Zk, Zl, Zm, Zn, ↓reduceIte, reduceCtorEq, Zd, Ze, Zc, Zf, Z96]
  exact PostR.pure ⟨rfl, rfl⟩ rfl
theorem mix_out {bs rs : List Int} (S : Scl bs rs) (m : Int) (h : 20000 < m) : CallA Tryz.prog 96 [.agg [.ro (ints bs), .ro (ints rs)], .int .i64 m] [] (Ret (.tup [.agg [.nils, .nils], .bool false]) []) := by
  have hl := S.len
  have hcap := S.cap
  have v := validScale_call bs rs (by omega) (by omega)
  rw [S.ok] at v
  refine CallP.out (t := .mk) (go_in (md := md96) mixed Tryz.func96 rfl go96 (by kernel_rfl) ?_)
  simp only [Zu, Za, Zb, Zg, Zh, Zi, Zk, Zl, Zm, Zn, ↓reduceIte, reduceCtorEq, Zd, Ze, Zc, Zf, Z96]
  refine call_ret v rfl rfl ?_
  simp only [Zu, Za, Zb, Zg, Zh, Zi, Zk, Zl, Zm, Zn, ↓reduceIte, reduceCtorEq, Zd, Ze, Zc, Zf, Z96]
  refine call_ret (within_call _ _ _) rfl rfl ?_
  rw [show inR 0 20000 m = false by unfold inR; rw [decide_eq_false (show ¬ m ≤ 20000 by omega), Bool.and_false]]
  simp only [Zu, Za, Zb, Zg, Zh, Zi, Zk, Zl, Zm, Zn, ↓reduceIte, reduceCtorEq, Zd, Ze, Zc, Zf, Z96]
  exact PostR.pure ⟨rfl, rfl⟩ rfl
theorem divisor_call (a b : Nat) (ha : a ≤ 4000000000000000000) (hb : b ≤ 4000000000000000000) : CallA Tryz.prog 129 [.int .i64 a, .int .i64 b] [] (Ret (.int .i64 (Nat.gcd a b)) []) := by
  refine CallP.out (t := .mk) (go_in (md := md129) mixed Tryz.func129 rfl go129 (by kernel_rfl) ?_)
  simp only [Zu, Za, Zb, Zg, Zh, Zi, Zk, Zl, Zm, Zn, ↓reduceIte, reduceCtorEq, Zd, Ze, Zc, Zf, Z129]
  refine go_round (md := md129) mixed (by kernel_rfl) (fun i : {i : Nat × Nat // Nat.gcd i.1 i.2 = Nat.gcd a b} => ⟨[.int .i64 i.1.1, .int .i64 i.1.2, .any, .any, .any, .any, .any, .any, .any, .any, .any, .any], []⟩) (fun i => i.1.2) ⟨(a, b), rfl⟩ ?_ ?_
  · exact weak_drop (by simp) (by simp [DropHp, ints_below, flts_below]) (by simp [DropTm, DropV, below, belowM, belowL])
  · intro ⟨⟨x, y⟩, he⟩
    simp only [Zu, Za, Zb, Zg, Zh, Zi, Zk, Zl, Zm, Zn, ↓reduceIte, reduceCtorEq, Zd, Ze, Zc, Zf, Z129]
    refine br_intro (fun h => ?_) (fun h => ?_) <;> simp only [Zu, Za, Zb, Zg, Zh, Zi, Zk, Zl, Zm, Zn, ↓reduceIte, reduceCtorEq, Zd, Ze, Zc, Zf, Z129]
    · have hy : y ≠ 0 := by simpa using h
      have hz : (y : Int) ≠ 0 := by omega
      have e : ((x : Int)).tmod (y : Int) = ((x % y : Nat) : Int) := by rw [tmod_nn (by omega)]; rfl
      refine go_float mixed (fun _ => True) [0, 1, 2, 3, 4, 5] [3, 3, 3, 3, 3, 1] [] [] (by kernel_rfl) ?_
      iterate 3 (refine om_calm (by rfl) (by rfl) (by rfl) (by rfl) ?_; try simp only []; simp only [Zu, Za, Zb, Zg, Zh, Zi, Zk, Zl, Zm, Zn, ↓reduceIte, reduceCtorEq, Zd, Ze, Zc, Zf, Z129, e])
      refine om_calm (by rfl) (by rfl) (by rfl) (by rfl) ?_
      try simp only []
      simp only [Zu, Za, Zb, Zg, Zh, Zi, Zk, Zl, Zm, Zn, ↓reduceIte, reduceCtorEq, Zd, Ze, Zc, Zf, Z129, e]
      refine ⟨hz, ?_⟩
      iterate 1 (refine om_calm (by rfl) (by rfl) (by rfl) (by rfl) ?_; try simp only []; simp only [Zu, Za, Zb, Zg, Zh, Zi, Zk, Zl, Zm, Zn, ↓reduceIte, reduceCtorEq, Zd, Ze, Zc, Zf, Z129, e])
      refine om_one (by rfl) (by rfl) (by rfl) ?_; try simp only []; simp only [Zu, Za, Zb, Zg, Zh, Zi, Zk, Zl, Zm, Zn, ↓reduceIte, reduceCtorEq, Zd, Ze, Zc, Zf, Z129, e]
      refine om_nil ?_
      refine ⟨⟨(y, x % y), by rw [← he]; show Nat.gcd y (x % y) = Nat.gcd x y; rw [Nat.gcd_comm x y, Nat.gcd_rec y x, Nat.gcd_comm]⟩, Nat.mod_lt _ (by omega), ?_⟩
      exact weak_drop (by simp) (by simp [DropHp, ints_below, flts_below, e]) (by simp [DropTm, DropV, below, belowM, belowL, e])
    · have hy : y = 0 := by simpa using h
      subst hy
      exact PostR.pure ⟨by rw [← he]; simp, rfl⟩ rfl
theorem meanRate_call {bs rs : List Int} (S : Scl bs rs) (c : Int) (h0 : 0 < c) (h1 : c ≤ 100000000000) : ∃ p q g : Int, CallA Tryz.prog 92 [.agg [.ro (ints bs), .ro (ints rs)], .int .i64 c] [] (Ret (.tup [.int .i64 p, .int .i64 q, .bool true]) []) ∧ 0 ≤ p ∧ 0 < q ∧ 0 < g ∧ p * g = exF bs rs c ∧ q * g = 10000 * c := by
  have hE := S.ex (show 0 ≤ c by omega)
  obtain ⟨e, he⟩ := Int.eq_ofNat_of_zero_le hE.1
  obtain ⟨d, hd⟩ := Int.eq_ofNat_of_zero_le (show 0 ≤ 10000 * c by omega)
  have hdp : 0 < d := by omega
  have g0 : 0 < Nat.gcd e d := Nat.gcd_pos_of_pos_right e hdp
  have g1 := Nat.gcd_dvd_left e d
  have g2 := Nat.gcd_dvd_right e d
  have k1 : e / Nat.gcd e d ≤ e := Nat.div_le_self _ _
  have k2 : d / Nat.gcd e d ≤ d := Nat.div_le_self _ _
  have k3 : 0 < d / Nat.gcd e d := Nat.div_pos (Nat.le_of_dvd hdp g2) g0
  have m1 : e / Nat.gcd e d * Nat.gcd e d = e := Nat.div_mul_cancel g1
  have m2 : d / Nat.gcd e d * Nat.gcd e d = d := Nat.div_mul_cancel g2
  have t1 : (e : Int).tdiv (Nat.gcd e d : Int) = ((e / Nat.gcd e d : Nat) : Int) := by rw [tdiv_nn (by omega)]; rfl
  have t2 : (d : Int).tdiv (Nat.gcd e d : Int) = ((d / Nat.gcd e d : Nat) : Int) := by rw [tdiv_nn (by omega)]; rfl
  have dc := divisor_call e d (by omega) (by omega)
  generalize e / Nat.gcd e d = x at k1 m1 t1
  generalize d / Nat.gcd e d = y at k2 k3 m2 t2
  generalize Nat.gcd e d = g at g0 m1 m2 t1 t2 dc
  have c1 : e ≤ 1000000000000000 := by omega
  have c2 : d ≤ 1000000000000000 := by omega
  have w1 : IntKind.i64.wrap (x : Int) = (x : Int) := w64 (by omega) (by omega)
  have w2 : IntKind.i64.wrap (y : Int) = (y : Int) := w64 (by omega) (by omega)
  have w3 : IntKind.i64.wrap (10000 * c) = (d : Int) := by rw [w64 (by omega) (by omega), hd]
  refine ⟨(x : Int), (y : Int), (g : Int), ?_, by omega, by omega, by omega, ?_, ?_⟩
  · refine CallP.out (t := .mk) (go_in (md := md92) mixed Tryz.func92 rfl go92 (by kernel_rfl) ?_)
    simp only [Zu, Za, Zb, Zg, Zh, Zi, Zk, Zl, Zm, Zn, ↓reduceIte, reduceCtorEq, Zd, Ze, Zc, Zf, Z92]
    refine call_ret (isAsked_yes (c := c) (w := 0) S (by omega) (by omega) (by omega) (by omega)) rfl rfl ?_
    simp only [Zu, Za, Zb, Zg, Zh, Zi, Zk, Zl, Zm, Zn, ↓reduceIte, reduceCtorEq, Zd, Ze, Zc, Zf, Z92]
    refine br_no (beq_false_of_ne (show c ≠ 0 by omega)) ?_
    simp only [Zu, Za, Zb, Zg, Zh, Zi, Zk, Zl, Zm, Zn, ↓reduceIte, reduceCtorEq, Zd, Ze, Zc, Zf, Z92]
    refine call_ret (exact_call S c (by omega) (by omega)) rfl rfl ?_
    simp only [Zu, Za, Zb, Zg, Zh, Zi, Zk, Zl, Zm, Zn, ↓reduceIte, reduceCtorEq, Zd, Ze, Zc, Zf, Z92, w3]
    rw [he]
    refine call_ret dc rfl rfl ?_
    have gn : (g : Int) ≠ 0 := by omega
    have t1' : (Int.ofNat e).tdiv (g : Int) = (x : Int) := t1
    simp only [Zu, Za, Zb, Zg, Zh, Zi, Zk, Zl, Zm, Zn, ↓reduceIte, reduceCtorEq, Zd, Ze, Zc, Zf, Z92, t1, t1', t2, w1, w2]
    refine ⟨gn, gn, ?_⟩
    exact PostR.pure ⟨rfl, rfl⟩ rfl
  · rw [he, ← Int.natCast_mul, m1]
  · rw [hd, ← Int.natCast_mul, m2]
theorem mean_no {bs rs : List Int} (S : Scl bs rs) : CallA Tryz.prog 92 [.agg [.ro (ints bs), .ro (ints rs)], .int .i64 0] [] (Ret (.tup [.int .i64 0, .int .i64 0, .bool false]) []) := by
  refine CallP.out (t := .mk) (go_in (md := md92) mixed Tryz.func92 rfl go92 (by kernel_rfl) ?_)
  simp only [Zu, Za, Zb, Zg, Zh, Zi, Zk, Zl, Zm, Zn, ↓reduceIte, reduceCtorEq, Zd, Ze, Zc, Zf, Z92]
  refine call_ret (isAsked_yes (c := 0) (w := 0) S (by omega) (by omega) (by omega) (by omega)) rfl rfl ?_
  simp only [Zu, Za, Zb, Zg, Zh, Zi, Zk, Zl, Zm, Zn, ↓reduceIte, reduceCtorEq, Zd, Ze, Zc, Zf, Z92]
  refine br_yes rfl ?_
  simp only [Zu, Za, Zb, Zg, Zh, Zi, Zk, Zl, Zm, Zn, ↓reduceIte, reduceCtorEq, Zd, Ze, Zc, Zf, Z92]
  exact PostR.pure ⟨rfl, rfl⟩ rfl
def fnF (ps ra : List Int) (s0 : Int) : Nat → Int
  | 0 => s0
  | i + 1 => rnd ((fnF ps ra s0 i + ps.getD i 0) * (10000 + ra.getD i 0)) 10000 2
def fnL (ps ra : List Int) (s0 : Int) (n : Nat) : List Int := rngL (fun i => fnF ps ra s0 (i + 1)) n
theorem Pys.at_ {ps : List Int} (H : Pys ps) {i : Nat} (hi : i < ps.length) : 1 ≤ ps.getD i 0 ∧ ps.getD i 0 ≤ 900 := by
  rw [getD_at ps 0 i hi]; exact H.low _ (List.getElem_mem hi)
theorem fn_step {s p r : Int} (s0 : 0 ≤ s) (s1 : s ≤ 100000000) (p0 : 1 ≤ p) (p1 : p ≤ 900) (r0 : -9999 ≤ r) (r1 : r ≤ 10000) : 0 ≤ (s + p) * (10000 + r) ∧ (s + p) * (10000 + r) ≤ (s + p) * 20000 ∧ 0 ≤ rnd ((s + p) * (10000 + r)) 10000 2 ∧ rnd ((s + p) * (10000 + r)) 10000 2 ≤ 2 * s + 1801 := by
  have m0 : 0 ≤ (s + p) * (10000 + r) := Int.mul_nonneg (by omega) (by omega)
  have m1 : (s + p) * (10000 + r) ≤ (s + p) * 20000 := Int.mul_le_mul_of_nonneg_left (by omega) (by omega)
  have b := rnd_bound (w := 2) (2 * s + 1800) m0 (show (0 : Int) < 10000 by decide) (by omega)
  omega
theorem fn_ok {ps ra : List Int} (H : Pys ps) (R : Rts ra) (hl : ra.length = ps.length) {s0 : Int} (h0 : 0 ≤ s0) (h1 : s0 ≤ 4000) : ∀ i, i ≤ ps.length → 0 ≤ fnF ps ra s0 i ∧ fnF ps ra s0 i ≤ 4000 * 3 ^ i
  | 0, _ => ⟨h0, by show s0 ≤ 4000 * 1; omega⟩
  | i + 1, hi => by
    obtain ⟨a, b⟩ := fn_ok H R hl h0 h1 i (by omega)
    have h6 := H.six
    have p3 : (3 : Int) ^ i ≤ 3 ^ 6 := by
      have : i = 0 ∨ i = 1 ∨ i = 2 ∨ i = 3 ∨ i = 4 ∨ i = 5 := by omega
      rcases this with rfl | rfl | rfl | rfl | rfl | rfl <;> decide
    have p1 : (1 : Int) ≤ 3 ^ i := by
      have : i = 0 ∨ i = 1 ∨ i = 2 ∨ i = 3 ∨ i = 4 ∨ i = 5 := by omega
      rcases this with rfl | rfl | rfl | rfl | rfl | rfl <;> decide
    have e6 : (3 : Int) ^ 6 = 729 := by decide
    have p := H.at_ (show i < ps.length by omega)
    have r := R.at_ (show i < ra.length by omega)
    have st := fn_step a (by omega) p.1 p.2 r.1 r.2
    have e : (3 : Int) ^ (i + 1) = 3 ^ i * 3 := Int.pow_succ _ _
    rw [fnF, e]
    omega
theorem fund0_call {ps ra : List Int} (H : Pys ps) (R : Rts ra) (hl : ra.length = ps.length) (s0 : Int) (h0 : 0 ≤ s0) (h1 : s0 ≤ 4000) : CallA Tryz.prog 102 [.int .i64 s0, .ro (ints ps), .ro (ints ra), .int .i64 0] [] (Ret (.tup [.sl 0 0 ps.length, .bool true]) [intB (fnL ps ra s0 ps.length)]) := by
  have h6 := H.six
  have h1_ := H.one
  refine CallP.out (t := .mk) (go_in (md := md102) mixed Tryz.func102 rfl go102 (by kernel_rfl) ?_)
  simp only [Zu, Za, Zb, Zg, Zh, Zi, Zk, Zl, Zm, Zn, ↓reduceIte, reduceCtorEq, Zd, Ze, Zc, Zf, Z102]
  refine call_ret (isAmount_call _) rfl rfl ?_
  rw [inR_yes (by omega) (by omega)]
  simp only [Zu, Za, Zb, Zg, Zh, Zi, Zk, Zl, Zm, Zn, ↓reduceIte, reduceCtorEq, Zd, Ze, Zc, Zf, Z102]
  refine call_ret (areYears_call ps (by omega)) rfl rfl ?_
  rw [show amountsB ps 60 = true by unfold amountsB; rw [decide_eq_true (show 1 ≤ ps.length ∧ ps.length ≤ 60 by omega), H.all 0 1000000000000 (by decide) (by decide)]; rfl]
  simp only [Zu, Za, Zb, Zg, Zh, Zi, Zk, Zl, Zm, Zn, ↓reduceIte, reduceCtorEq, Zd, Ze, Zc, Zf, Z102]
  refine call_ret (areReturns_call ra (by have := R.six; omega)) rfl rfl ?_
  rw [R.ok]
  simp only [Zu, Za, Zb, Zg, Zh, Zi, Zk, Zl, Zm, Zn, ↓reduceIte, reduceCtorEq, Zd, Ze, Zc, Zf, Z102, ints_len, hl]
  refine br_no (by simp) ?_
  simp only [Zu, Za, Zb, Zg, Zh, Zi, Zk, Zl, Zm, Zn, ↓reduceIte, reduceCtorEq, Zd, Ze, Zc, Zf, Z102, ints_len, hl]
  refine call_ret (isRate_call _) rfl rfl ?_
  rw [inR_yes (by omega) (by omega)]
  simp only [Zu, Za, Zb, Zg, Zh, Zi, Zk, Zl, Zm, Zn, ↓reduceIte, reduceCtorEq, Zd, Ze, Zc, Zf, Z102]
  refine go_round (md := md102) mixed (by kernel_rfl) (fun i : {i : Nat // i ≤ ps.length} => ⟨((.int .i64 (fnF ps ra s0 i.1)) :: .any :: (.ro (ints ra)) :: (.int .i64 0) :: .any :: .any :: .any :: .any :: .any :: .any :: (.sl 0 0 i.1) :: .any :: .any :: .any :: .any :: .any :: .any :: .any :: .any :: .any :: .any :: .any :: .any :: .any :: .any :: .any :: .any :: .any :: .any :: .any :: .any :: .any :: .any :: .any :: .any :: .any :: .any :: .any :: .any :: (.ro (ints ps)) :: (.int .i64 ps.length) :: (.int .i64 i.1) :: .any :: .any :: .any :: .any :: .any :: .any :: .any :: .any :: .any :: .any :: .any :: .any :: .any :: .any :: .any :: .any :: .any :: .any :: .any :: .any :: .any :: .any :: .any :: .any :: .any :: .any :: .any :: .any :: []), [intB (fnL ps ra s0 i.1)]⟩) (fun i => ps.length - i.1) ⟨0, by omega⟩ ?_ ?_
  · have z : fnL ps ra s0 0 = [] := rfl
    have z3 : ints [] = [] := rfl
    rw [z]
    exact weak_drop (by simp) (by simp [DropHp, ints_below, flts_below, intB, z3, fnF, allBelow_cons, allBelow_nil, below, belowM, belowL]) (by simp [DropTm, DropV, below, belowM, belowL, intB, z3, fnF, allBelow_cons, allBelow_nil, below, belowM, belowL])
  rintro ⟨i, hi⟩
  have ll : (fnL ps ra s0 i).length = i := rngL_len _ _
  simp only [Zu, Za, Zb, Zg, Zh, Zi, Zk, Zl, Zm, Zn, ↓reduceIte, reduceCtorEq, Zd, Ze, Zc, Zf, Z102, intB, ints_len, ll, hl]
  refine br_intro (fun h => ?_) (fun h => ?_) <;> simp only [Zu, Za, Zb, Zg, Zh, Zi, Zk, Zl, Zm, Zn, ↓reduceIte, reduceCtorEq, Zd, Ze, Zc, Zf, Z102, intB, ints_len, ll, hl]
  · have hi' : i < ps.length := by have := of_decide_eq_true h; omega
    have hr' : i < ra.length := by omega
    obtain ⟨a, b⟩ := fn_ok H R hl h0 h1 i (by omega)
    have p := H.at_ hi'
    have r := R.at_ hr'
    have p3 : (3 : Int) ^ i ≤ 3 ^ 6 := by
      have : i = 0 ∨ i = 1 ∨ i = 2 ∨ i = 3 ∨ i = 4 ∨ i = 5 := by omega
      rcases this with rfl | rfl | rfl | rfl | rfl | rfl <;> decide
    have e6 : (3 : Int) ^ 6 = 729 := by decide
    have st := fn_step a (by omega) p.1 p.2 r.1 r.2
    have fs : fnF ps ra s0 (i + 1) = rnd ((fnF ps ra s0 i + ps[i]) * (10000 + ra[i])) 10000 2 := by rw [fnF, getD_at ps 0 i hi', getD_at ra 0 i hr']
    rw [getD_at ps 0 i hi', getD_at ra 0 i hr'] at st
    rw [getD_at ps 0 i hi'] at p
    rw [getD_at ra 0 i hr'] at r
    have el : fnL ps ra s0 i ++ [fnF ps ra s0 (i + 1)] = fnL ps ra s0 (i + 1) := rngL_succ (fun i => fnF ps ra s0 (i + 1)) i
    have hz : (0 : Int) ≤ (i : Int) := by omega
    have e1 : IntKind.i64.wrap (fnF ps ra s0 i + ps[i]) = fnF ps ra s0 i + ps[i] := w64 (by omega) (by omega)
    have e2 : IntKind.i64.wrap (10000 + ra[i]) = 10000 + ra[i] := w64 (by omega) (by omega)
    have e3 : IntKind.i64.wrap ((fnF ps ra s0 i + ps[i]) * (10000 + ra[i])) = (fnF ps ra s0 i + ps[i]) * (10000 + ra[i]) := w64 (by omega) (by omega)
    have sx := st.2.2
    rw [← fs] at sx
    have d0 : rnd (fnF ps ra s0 (i + 1) * 0) 10000 0 = 0 := by rw [Int.mul_zero]; decide
    have e4 : IntKind.i64.wrap (fnF ps ra s0 (i + 1) - 0) = fnF ps ra s0 (i + 1) := by rw [Int.sub_zero]; exact w64 (by omega) (by omega)
    refine ⟨by omega, by omega, ?_⟩
    rw [e1, e2, e3]
    refine call_ret (rounded_call _ 10000 2 st.1 (by omega) (by omega) (by omega) (by omega) (by omega)) rfl rfl ?_
    rw [← fs]
    simp only [Zu, Za, Zb, Zg, Zh, Zi, Zk, Zl, Zm, Zn, ↓reduceIte, reduceCtorEq, Zd, Ze, Zc, Zf, Z102, intB, ints_len, ll, hl]
    refine call_ret (dueBy_call _ 0 0 sx.1 (by omega) (by omega) (by omega) (by omega) (by omega)) rfl rfl ?_
    rw [d0]
    simp only [Zu, Za, Zb, Zg, Zh, Zi, Zk, Zl, Zm, Zn, ↓reduceIte, reduceCtorEq, Zd, Ze, Zc, Zf, Z102, intB, ints_len, ll, hl, e4]
    refine call_ret (isAmount_call _) rfl rfl ?_
    rw [inR_yes sx.1 (by omega)]
    simp only [Zu, Za, Zb, Zg, Zh, Zi, Zk, Zl, Zm, Zn, ↓reduceIte, reduceCtorEq, Zd, Ze, Zc, Zf, Z102, intB, ints_len, ll, hl, allW_int, fits, List.isEmpty_cons, brk_false, Nat.reduceMul]
    refine ⟨by omega, ⟨i + 1, by omega⟩, by show ps.length - (i + 1) < ps.length - i; omega, ?_⟩
    show Weak 0 _ ⟨_, _⟩
    rw [el]
    exact weak_drop (by simp) (by simp [DropHp, ints_below, flts_below, w64_succ i (by omega), intB, allBelow_cons, allBelow_nil, below, belowM, belowL]) (by simp [DropTm, DropV, below, belowM, belowL, w64_succ i (by omega), intB, allBelow_cons, allBelow_nil, below, belowM, belowL])
  · have hi' : i = ps.length := by have := of_decide_eq_false h; omega
    subst hi'
    exact PostR.ret
theorem fund_ro {ps ra : List Int} (H : Pys ps) (R : Rts ra) (hl : ra.length = ps.length) (s0 : Int) (h0 : 0 ≤ s0) (h1 : s0 ≤ 4000) : CallA Tryz.prog 102 [.int .i64 s0, .ro (ints ps), .ro (ints ra), .int .i64 0] [] (Ret (.tup [.ro (ints (fnL ps ra s0 ps.length)), .bool true]) []) :=
  CallA.frozen 3 (fund0_call H R hl s0 h0 h1) (view_tup_in (rngL_len _ _))
theorem fund_no {ps ra : List Int} (H : Pys ps) (R : Rts ra) (hl : ra.length ≠ ps.length) (s0 : Int) (h0 : 0 ≤ s0) (h1 : s0 ≤ 4000) : CallA Tryz.prog 102 [.int .i64 s0, .ro (ints ps), .ro (ints ra), .int .i64 0] [] (Ret (.tup [.nils, .bool false]) []) := by
  have h6 := H.six
  have h1_ := H.one
  refine CallP.out (t := .mk) (go_in (md := md102) mixed Tryz.func102 rfl go102 (by kernel_rfl) ?_)
  simp only [Zu, Za, Zb, Zg, Zh, Zi, Zk, Zl, Zm, Zn, ↓reduceIte, reduceCtorEq, Zd, Ze, Zc, Zf, Z102]
  refine call_ret (isAmount_call _) rfl rfl ?_
  rw [inR_yes (by omega) (by omega)]
  simp only [Zu, Za, Zb, Zg, Zh, Zi, Zk, Zl, Zm, Zn, ↓reduceIte, reduceCtorEq, Zd, Ze, Zc, Zf, Z102]
  refine call_ret (areYears_call ps (by omega)) rfl rfl ?_
  rw [show amountsB ps 60 = true by unfold amountsB; rw [decide_eq_true (show 1 ≤ ps.length ∧ ps.length ≤ 60 by omega), H.all 0 1000000000000 (by decide) (by decide)]; rfl]
  simp only [Zu, Za, Zb, Zg, Zh, Zi, Zk, Zl, Zm, Zn, ↓reduceIte, reduceCtorEq, Zd, Ze, Zc, Zf, Z102]
  refine call_ret (areReturns_call ra (by have := R.six; omega)) rfl rfl ?_
  rw [R.ok]
  simp only [Zu, Za, Zb, Zg, Zh, Zi, Zk, Zl, Zm, Zn, ↓reduceIte, reduceCtorEq, Zd, Ze, Zc, Zf, Z102, ints_len]
  refine br_yes (by simp only [bne_iff_ne, ne_eq]; omega) ?_
  simp only [Zu, Za, Zb, Zg, Zh, Zi, Zk, Zl, Zm, Zn, ↓reduceIte, reduceCtorEq, Zd, Ze, Zc, Zf, Z102, ints_len]
  exact PostR.pure ⟨rfl, rfl⟩ rfl
theorem fnL_ok {ps ra : List Int} (H : Pys ps) (R : Rts ra) (hl : ra.length = ps.length) {s0 : Int} (h0 : 0 ≤ s0) (h1 : s0 ≤ 4000) : ∀ x ∈ fnL ps ra s0 ps.length, okM x := by
  intro x hx
  obtain ⟨i, hi, rfl⟩ := List.mem_map.1 hx
  have hi := List.mem_range.1 hi
  have a := fn_ok H R hl h0 h1 (i + 1) (by omega)
  have h6 := H.six
  have p3 : (3 : Int) ^ (i + 1) ≤ 3 ^ 6 := by
    have : i = 0 ∨ i = 1 ∨ i = 2 ∨ i = 3 ∨ i = 4 ∨ i = 5 := by omega
    rcases this with rfl | rfl | rfl | rfl | rfl | rfl <;> decide
  have e6 : (3 : Int) ^ 6 = 729 := by decide
  unfold okM
  omega
def dwT (ra : List Int) (st dr : Int) : Int := (drS 1000000000001 ra st dr ra.length).2
def dwL (ra : List Int) (st dr : Int) : List Int := drL 1000000000001 ra st dr ra.length
theorem down_call {ra : List Int} (R : Rts ra) (st dr : Int) (h0 : 0 ≤ st) (h1 : st ≤ 1000000000000) (d0 : 0 ≤ dr) (d1 : dr ≤ 1000000000000) :
    CallA Tryz.prog 109 [.int .i64 st, .ro (ints ra), .int .i64 dr] [] (Ret (if (dwL ra st dr).all (inR 0 1000000000000) then .tup [.ro (ints (dwL ra st dr)), .int .i64 (dwT ra st dr), .bool true] else .tup [.nils, .int .i64 0, .bool false]) []) := by
  have h6 := R.six
  have dl : (dwL ra st dr).length = ra.length := rngL_len _ _
  have dc := drawn_call (mx := 1000000000001) (by omega) R st dr h0 h1 d0 d1
  refine CallP.out (t := .mk) (go_in (md := md109) mixed Tryz.func109 rfl go109 (by kernel_rfl) ?_)
  simp only [Zu, Za, Zb, Zg, Zh, Zi, Zk, Zl, Zm, Zn, ↓reduceIte, reduceCtorEq, Zd, Ze, Zc, Zf, Z109]
  refine call_ret (isAmount_call _) rfl rfl ?_
  rw [inR_yes h0 h1]
  simp only [Zu, Za, Zb, Zg, Zh, Zi, Zk, Zl, Zm, Zn, ↓reduceIte, reduceCtorEq, Zd, Ze, Zc, Zf, Z109]
  refine call_ret (areReturns_call ra (by omega)) rfl rfl ?_
  rw [R.ok]
  simp only [Zu, Za, Zb, Zg, Zh, Zi, Zk, Zl, Zm, Zn, ↓reduceIte, reduceCtorEq, Zd, Ze, Zc, Zf, Z109]
  refine call_ret (isAmount_call _) rfl rfl ?_
  rw [inR_yes d0 d1]
  simp only [Zu, Za, Zb, Zg, Zh, Zi, Zk, Zl, Zm, Zn, ↓reduceIte, reduceCtorEq, Zd, Ze, Zc, Zf, Z109]
  refine call_ret dc rfl rfl ?_
  simp only [Zu, Za, Zb, Zg, Zh, Zi, Zk, Zl, Zm, Zn, ↓reduceIte, reduceCtorEq, Zd, Ze, Zc, Zf, Z109]
  refine call_ret (areWithin_call (dwL ra st dr) 0 1000000000000 (by omega)) rfl rfl ?_
  cases hb : (dwL ra st dr).all (inR 0 1000000000000) with
  | true =>
    simp only [Zu, Za, Zb, Zg, Zh, Zi, Zk, Zl, Zm, Zn, ↓reduceIte, reduceCtorEq, Zd, Ze, Zc, Zf, Z109]
    exact PostR.pure ⟨rfl, rfl⟩ rfl
  | false =>
    simp only [Zu, Za, Zb, Zg, Zh, Zi, Zk, Zl, Zm, Zn, ↓reduceIte, reduceCtorEq, Zd, Ze, Zc, Zf, Z109]
    exact PostR.pure ⟨rfl, rfl⟩ rfl
theorem sortI_call (xs : List Int) (h : xs.length ≤ 1048576) (e : TypeId) : CallA Tryz.prog 139 [.sl 0 0 xs.length] [{ ty := e, w := 1, els := ints xs }] (Ret (.tup []) [{ ty := e, w := 1, els := ints (sortI xs) }]) :=
  sort_call go139 fun blk off cap w hH hb => slices_Sort_int blk off cap xs w hH hb (by omega)
theorem mem_sortI (xs : List Int) (d : Int) : d ∈ sortI xs ↔ d ∈ xs := (List.mergeSort_perm xs _).mem_iff
theorem view_part (l : List Int) (a k : Nat) (h : a + k ≤ l.length) : view 2 [intB l] (.sl 0 a k) = .ro (ints ((l.drop a).take k)) := by
  rw [view_sl]
  have e : ((ints l).drop a).take k = ints ((l.drop a).take k) := by unfold ints; rw [List.map_take, List.map_drop]
  simp [intB, ints_len, h, e, map_view_ints]
theorem isSome_gen {ps : List Int} (H : Pys ps) (c : Int) : CallA Tryz.prog 138 [.ro (ints ps), .int .i64 c] [] (Ret (.bool (inR 1 ps.length c)) []) := by
  have h6 := H.six
  have h1 := H.one
  refine CallP.out (t := .mk) (go_in (md := md138) mixed Tryz.func138 rfl go138 (by kernel_rfl) ?_)
  simp only [Zu, Za, Zb, Zg, Zh, Zi, Zk, Zl, Zm, sliceA, Zn, ↓reduceIte, reduceCtorEq, Zd, Ze, Zc, Zf, Z138]
  refine call_ret (areYears_call ps (by omega)) rfl rfl ?_
  rw [show amountsB ps 60 = true by unfold amountsB; rw [decide_eq_true (show 1 ≤ ps.length ∧ ps.length ≤ 60 by omega), H.all 0 1000000000000 (by decide) (by decide)]; rfl]
  simp only [Zu, Za, Zb, Zg, Zh, Zi, Zk, Zl, Zm, sliceA, Zn, ↓reduceIte, reduceCtorEq, Zd, Ze, Zc, Zf, Z138, ints_len]
  refine call_ret (within_call c 1 (ps.length : Int)) rfl rfl ?_
  simp only [Zu, Za, Zb, Zg, Zh, Zi, Zk, Zl, Zm, sliceA, Zn, ↓reduceIte, reduceCtorEq, Zd, Ze, Zc, Zf, Z138]
  exact PostR.pure ⟨rfl, rfl⟩ rfl
theorem best_no {ps : List Int} (H : Pys ps) (c : Int) (hc : inR 1 ps.length c = false) : CallA Tryz.prog 100 [.ro (ints ps), .int .i64 c] [] (Ret (.tup [.int .i64 0, .bool false]) []) := by
  refine CallP.out (t := .mk) (go_in (md := md100) mixed Tryz.func100 rfl go100 (by kernel_rfl) ?_)
  simp only [Zu, Za, Zb, Zg, Zh, Zi, Zk, Zl, Zm, sliceA, Zn, ↓reduceIte, reduceCtorEq, Zd, Ze, Zc, Zf, Z100]
  refine call_ret (isSome_gen H c) rfl rfl ?_
  simp only [Zu, Za, Zb, Zg, Zh, Zi, Zk, Zl, Zm, sliceA, Zn, ↓reduceIte, reduceCtorEq, Zd, Ze, Zc, Zf, Z100, hc]
  exact PostR.pure ⟨rfl, rfl⟩ rfl
theorem span_no {ps : List Int} (H : Pys ps) (c : Int) (hc : inR 1 ps.length c = false) : CallA Tryz.prog 101 [.ro (ints ps), .int .i64 c] [] (Ret (.tup [.int .i64 0, .int .i64 0, .bool false]) []) := by
  refine CallP.out (t := .mk) (go_in (md := md101) mixed Tryz.func101 rfl go101 (by kernel_rfl) ?_)
  simp only [Zu, Za, Zb, Zg, Zh, Zi, Zk, Zl, Zm, sliceA, Zn, ↓reduceIte, reduceCtorEq, Zd, Ze, Zc, Zf, Z101]
  refine call_ret (isSome_gen H c) rfl rfl ?_
  simp only [Zu, Za, Zb, Zg, Zh, Zi, Zk, Zl, Zm, sliceA, Zn, ↓reduceIte, reduceCtorEq, Zd, Ze, Zc, Zf, Z101, hc]
  exact PostR.pure ⟨rfl, rfl⟩ rfl
def bstV (ps : List Int) (c : Nat) : Int := sumI ((sortI ps).drop (ps.length - c)) / (c : Int)
theorem sort_sml {ps : List Int} (H : Pys ps) (k : Nat) : Sml 2000 ((sortI ps).drop k) := fun x hx => H.sml2 x ((mem_sortI ps x).1 (List.mem_of_mem_drop hx))
theorem best_yes {ps : List Int} (H : Pys ps) (c : Nat) (h1 : 1 ≤ c) (h2 : c ≤ ps.length) : (0 ≤ bstV ps c ∧ bstV ps c ≤ 12000) ∧ CallA Tryz.prog 100 [.ro (ints ps), .int .i64 c] [] (Ret (.tup [.int .i64 (bstV ps c), .bool true]) []) := by
  have h6 := H.six
  have is := isSome_gen H (c : Int)
  rw [inR_yes (by omega) (by omega)] at is
  have sl := sortI_len ps
  have tc := total_call ((sortI ps).drop (ps.length - c)) (sort_sml H _) (by rw [List.length_drop]; omega)
  have sm := (sort_sml H (ps.length - c)).sum
  rw [List.length_drop] at sm
  have w1 : IntKind.i64.wrap (((ps.length : Nat) : Int) - (c : Int)) = ((ps.length - c : Nat) : Int) := by rw [w64 (by omega) (by omega)]; omega
  have w2 : (sumI ((sortI ps).drop (ps.length - c))).tdiv (c : Int) = bstV ps c := Int.tdiv_eq_ediv_of_nonneg sm.1
  have b0 : 0 ≤ bstV ps c := Int.ediv_nonneg sm.1 (by omega)
  have b1 : bstV ps c ≤ sumI ((sortI ps).drop (ps.length - c)) := Int.ediv_le_self _ sm.1
  have w3 : IntKind.i64.wrap (bstV ps c) = bstV ps c := w64 (by omega) (by omega)
  refine ⟨⟨b0, by omega⟩, ?_⟩
  refine CallP.out (t := .mk) (go_in (md := md100) mixed Tryz.func100 rfl go100 (by kernel_rfl) ?_)
  simp only [Zu, Za, Zb, Zg, Zh, Zi, Zk, Zl, Zm, sliceA, Zn, ↓reduceIte, reduceCtorEq, Zd, Ze, Zc, Zf, Z100]
  refine call_ret is rfl rfl ?_
  simp only [Zu, Za, Zb, Zg, Zh, Zi, Zk, Zl, Zm, sliceA, Zn, ↓reduceIte, reduceCtorEq, Zd, Ze, Zc, Zf, Z100]
  refine call_new (iclone_call ps H.one (by omega)) rfl (by simp [intB, ints_below]) ?_
  simp only [Zu, Za, Zb, Zg, Zh, Zi, Zk, Zl, Zm, sliceA, Zn, ↓reduceIte, reduceCtorEq, Zd, Ze, Zc, Zf, Z100, ren, renM, renL]
  refine call_at ((sortI_call ps (by omega) 2).mono ?_)
  rintro r hp ⟨rfl, rfl⟩
  simp only [Zu, Za, Zb, Zg, Zh, Zi, Zk, Zl, Zm, sliceA, Zn, ↓reduceIte, reduceCtorEq, Zd, Ze, Zc, Zf, Z100, ints_len, sl, w1]
  refine ⟨by omega, by omega, ?_⟩
  have vw : [AV.sl 0 (ps.length - c) (ps.length - (ps.length - c))].map (view 2 [{ ty := 2, w := 1, els := ints (sortI ps) }]) = [.ro (ints ((sortI ps).drop (ps.length - c)))] := by
    have := view_part (sortI ps) (ps.length - c) (ps.length - (ps.length - c)) (by omega)
    rw [List.take_of_length_le (by rw [List.length_drop]; omega)] at this
    rw [List.map_cons, List.map_nil]
    exact congrArg (· :: []) this
  refine call_lent 2 vw tc rfl rfl ?_
  have cz : ((c : Nat) : Int) ≠ 0 := by omega
  simp only [Zu, Za, Zb, Zg, Zh, Zi, Zk, Zl, Zm, sliceA, Zn, ↓reduceIte, reduceCtorEq, Zd, Ze, Zc, Zf, Z100, w2, w3]
  exact ⟨cz, PostR.pure ⟨rfl, rfl⟩ rfl⟩
def winF (xs : List Int) (c i : Nat) : Int := sumI ((xs.drop i).take c)
def spnP (xs : List Int) (c : Nat) : Nat → Nat
  | 0 => 0
  | i + 1 => if winF xs c (spnP xs c i) < winF xs c i then i else spnP xs c i
theorem span_yes {ps : List Int} (H : Pys ps) (c : Nat) (h1 : 1 ≤ c) (h2 : c ≤ ps.length) : ∃ (p : Nat) (v : Int), p ≤ 6 ∧ (0 ≤ v ∧ v ≤ 20000) ∧ CallA Tryz.prog 101 [.ro (ints ps), .int .i64 c] [] (Ret (.tup [.int .i64 ((p : Nat) : Int), .int .i64 v, .bool true]) []) := by
  have h6 := H.six
  have is := isSome_gen H (c : Int)
  rw [inR_yes (by omega) (by omega)] at is
  have sm : ∀ i, Sml 2000 ((ps.drop i).take c) := fun i x hx => H.sml2 x (List.mem_of_mem_drop (List.mem_of_mem_take hx))
  have win : ∀ i, CallA Tryz.prog 140 [.ro (ints ((ps.drop i).take c))] [] (Ret (.int .i64 (winF ps c i)) []) := fun i =>
    total_call _ (sm i) (by rw [List.length_take]; omega)
  have winb : ∀ i, 0 ≤ winF ps c i ∧ winF ps c i ≤ 12000 := fun i => by
    have s := (sm i).sum
    have l : ((ps.drop i).take c).length ≤ 6 := by rw [List.length_take]; omega
    exact ⟨s.1, by unfold winF; omega⟩
  have pb : ∀ i, i ≤ ps.length - c + 1 → spnP ps c i ≤ 6 ∧ (spnP ps c i + c ≤ ps.length) := by
    intro i
    induction i with
    | zero => intro _; exact ⟨Nat.zero_le _, by show 0 + c ≤ _; omega⟩
    | succ i ih =>
      intro hi
      rw [spnP]
      split
      · exact ⟨by omega, by omega⟩
      · exact ih (by omega)
  have cut : ∀ i, (ints ps).take c = ints ((ps.drop 0).take c) ∧ (ints ps).drop i = ints (ps.drop i) := fun i => ⟨by rw [List.drop_zero]; unfold ints; rw [List.map_take], by unfold ints; rw [List.map_drop]⟩
  have cut2 : ∀ i, ((ints ps).drop i).take c = ints ((ps.drop i).take c) := fun i => by unfold ints; rw [List.map_take, List.map_drop]
  have wn : IntKind.i64.wrap (((ps.length : Nat) : Int) - (c : Int)) = ((ps.length - c : Nat) : Int) := by rw [w64 (by omega) (by omega)]; omega
  have wn2 : IntKind.i64.wrap (((ps.length - c : Nat) : Int) + 1) = ((ps.length - c + 1 : Nat) : Int) := by rw [w64 (by omega) (by omega)]; omega
  have w0 := win 0
  refine ⟨spnP ps c (ps.length - c + 1), winF ps c (spnP ps c (ps.length - c + 1)), (pb _ (Nat.le_refl _)).1, ⟨(winb _).1, by have := (winb (spnP ps c (ps.length - c + 1))).2; omega⟩, ?_⟩
  refine CallP.out (t := .mk) (go_in (md := md101) mixed Tryz.func101 rfl go101 (by kernel_rfl) ?_)
  simp only [Zu, Za, Zb, Zg, Zh, Zi, Zk, Zl, Zm, sliceA, Zn, ↓reduceIte, reduceCtorEq, Zd, Ze, Zc, Zf, Z101, ints_len]
  refine call_ret is rfl rfl ?_
  simp only [Zu, Za, Zb, Zg, Zh, Zi, Zk, Zl, Zm, sliceA, Zn, ↓reduceIte, reduceCtorEq, Zd, Ze, Zc, Zf, Z101, ints_len]
  refine ⟨Int.le_refl 0, by omega, fun v hv => (by obtain ⟨b, _, rfl⟩ := List.mem_map.1 hv; rfl), ?_⟩
  rw [(cut 0).1]
  refine call_ret w0 rfl rfl ?_
  simp only [Zu, Za, Zb, Zg, Zh, Zi, Zk, Zl, Zm, sliceA, Zn, ↓reduceIte, reduceCtorEq, Zd, Ze, Zc, Zf, Z101, ints_len, wn, wn2]
  refine go_round (md := md101) mixed (by kernel_rfl) (fun q : {i : Nat // i ≤ ps.length - c + 1} => ⟨[.ro (ints ps), .int .i64 c, .any, .any, .any, .any, .any, .int .i64 ((spnP ps c q.1 : Nat) : Int), .int .i64 (winF ps c (spnP ps c q.1)), .any, .any, .any, .any, .any, .any, .any, .any, .any, .any, .any, .any, .any, .any, .int .i64 ((ps.length - c + 1 : Nat) : Int), .int .i64 ((q.1 : Nat) : Int), .any, .any, .any, .any, .any, .any, .any, .any, .any, .any, .any, .any, .any, .any, .any, .any, .any, .any, .any, .any], []⟩) (fun q => ps.length - c + 1 - q.1) ⟨0, Nat.zero_le _⟩ ?_ ?_
  · exact weak_drop (by simp) (by simp [DropHp, ints_below, flts_below, spnP]) (by simp [DropTm, DropV, below, belowM, belowL, spnP])
  rintro ⟨i, hi⟩
  dsimp only
  have wp := winb (spnP ps c i)
  simp only [Zu, Za, Zb, Zg, Zh, Zi, Zk, Zl, Zm, sliceA, Zn, ↓reduceIte, reduceCtorEq, Zd, Ze, Zc, Zf, Z101, ints_len]
  refine br_intro (fun g => ?_) (fun g => ?_) <;> simp only [Zu, Za, Zb, Zg, Zh, Zi, Zk, Zl, Zm, sliceA, Zn, ↓reduceIte, reduceCtorEq, Zd, Ze, Zc, Zf, Z101, ints_len]
  · have g : i < ps.length - c + 1 := by have := of_decide_eq_true g; omega
    have wi := win i
    have w1 : IntKind.i64.wrap ((i : Int) + (c : Int)) = ((i + c : Nat) : Int) := by rw [w64 (by omega) (by omega)]; omega
    have w2 : IntKind.i64.wrap ((i : Int) + 1) = ((i + 1 : Nat) : Int) := by rw [w64 (by omega) (by omega)]; omega
    have tk : ((ints ps).take (i + c)).drop i = ints ((ps.drop i).take c) := by
      rw [List.drop_take, show i + c - i = c by omega]
      unfold ints
      rw [List.map_take, List.map_drop]
    simp only [Zu, Za, Zb, Zg, Zh, Zi, Zk, Zl, Zm, sliceA, Zn, ↓reduceIte, reduceCtorEq, Zd, Ze, Zc, Zf, Z101, ints_len, w1]
    refine ⟨by omega, by omega, fun v hv => (by obtain ⟨b, _, rfl⟩ := List.mem_map.1 hv; rfl), ?_⟩
    rw [tk]
    refine call_ret wi rfl rfl ?_
    simp only [Zu, Za, Zb, Zg, Zh, Zi, Zk, Zl, Zm, sliceA, Zn, ↓reduceIte, reduceCtorEq, Zd, Ze, Zc, Zf, Z101, ints_len]
    refine br_intro (fun e => ?_) (fun e => ?_) <;> simp only [Zu, Za, Zb, Zg, Zh, Zi, Zk, Zl, Zm, sliceA, Zn, ↓reduceIte, reduceCtorEq, Zd, Ze, Zc, Zf, Z101, ints_len, w2]
    · have e : winF ps c (spnP ps c i) < winF ps c i := by have := of_decide_eq_true e; omega
      have es : spnP ps c (i + 1) = i := by rw [spnP, if_pos e]
      refine ⟨⟨i + 1, by omega⟩, by show ps.length - c + 1 - (i + 1) < ps.length - c + 1 - i; omega, ?_⟩
      show Weak 0 _ ⟨_, _⟩
      rw [es]
      exact weak_drop (by simp) (by simp [DropHp, ints_below, flts_below]) (by simp [DropTm, DropV, below, belowM, belowL])
    · have e : ¬ winF ps c (spnP ps c i) < winF ps c i := by have := of_decide_eq_false e; omega
      have es : spnP ps c (i + 1) = spnP ps c i := by rw [spnP, if_neg e]
      refine ⟨⟨i + 1, by omega⟩, by show ps.length - c + 1 - (i + 1) < ps.length - c + 1 - i; omega, ?_⟩
      show Weak 0 _ ⟨_, _⟩
      rw [es]
      exact weak_drop (by simp) (by simp [DropHp, ints_below, flts_below]) (by simp [DropTm, DropV, below, belowM, belowL])
  · have g : i = ps.length - c + 1 := by have := of_decide_eq_false g; omega
    subst g
    refine call_ret (isAmount_call _) rfl rfl ?_
    rw [inR_yes wp.1 (by omega)]
    simp only [Zu, Za, Zb, Zg, Zh, Zi, Zk, Zl, Zm, sliceA, Zn, ↓reduceIte, reduceCtorEq, Zd, Ze, Zc, Zf, Z101]
    exact PostR.pure ⟨rfl, rfl⟩ rfl
theorem ok_zero : okW 0 := ⟨by decide, fun h => by revert h; decide +kernel⟩
theorem fin_okW (x : Nat) (h : okW x) : okW (if finB .f32 x then x else 0) := by
  split
  · exact h
  · exact ok_zero
theorem sum_nan (a b : Ieee.Datum) : ∀ s t, a.sum b ≠ some (.nan s t) := by
  intro s t
  cases a <;> cases b <;> simp only [Ieee.Datum.sum] <;> (try split) <;> simp
theorem ok_add (x y : Nat) : okW (fadd .f32 x y) := ok_fnum (sum_nan _ _)
theorem ok_sub (x y : Nat) : okW (fsub .f32 x y) := ok_fnum (sum_nan _ _)
theorem yr_okW (q : List Nat) : okW (yrF q) := ok_sub _ _
theorem pr_okW (S : List Nat) (f w : Nat) : ∀ i, okW (prF S f w i)
  | 0 => ok_zero
  | i + 1 => by
    rw [prF]
    split
    · exact ok_add _ _
    · exact pr_okW S f w i
theorem val_okW (q : List Nat) (x : Nat) : okW (valF q x 0) := pr_okW _ _ _ _
section
variable {bs rs ps ra : List Int} {q : List Nat}
theorem asked_no {S : Scl bs rs} {c w : Int} (h : (inR 0 1000000000000 c && inR 0 3 w) = false) : CallA Tryz.prog 127 [.agg [.ro (ints bs), .ro (ints rs)], .int .i64 c, .int .i64 w] [] (Ret (.bool false) []) := by
  have := isAsked_call S c w
  rw [h] at this
  exact this
theorem dueOf_no (S : Scl bs rs) {c w : Int} (h : (inR 0 1000000000000 c && inR 0 3 w) = false) : CallA Tryz.prog 105 [.agg [.ro (ints bs), .ro (ints rs)], .int .i64 c, .int .i64 w] [] (Ret (.tup [.int .i64 0, .bool false]) []) := by
  refine CallP.out (t := .mk) (go_in (md := md105) mixed Tryz.func105 rfl go105 (by kernel_rfl) ?_)
  simp only [Zu, Za, Zb, Zg, Zh, Zi, Zk, Zl, Zm, Zn, ↓reduceIte, reduceCtorEq, Zd, Ze, Zc, Zf, Z105]
  refine call_ret (asked_no (S := S) h) rfl rfl ?_
  simp only [Zu, Za, Zb, Zg, Zh, Zi, Zk, Zl, Zm, Zn, ↓reduceIte, reduceCtorEq, Zd, Ze, Zc, Zf, Z105]
  exact PostR.pure ⟨rfl, rfl⟩ rfl
theorem netOf_no (S : Scl bs rs) {c w : Int} (h : (inR 0 1000000000000 c && inR 0 3 w) = false) : CallA Tryz.prog 106 [.agg [.ro (ints bs), .ro (ints rs)], .int .i64 c, .int .i64 w] [] (Ret (.tup [.int .i64 0, .bool false]) []) := by
  refine CallP.out (t := .mk) (go_in (md := md106) mixed Tryz.func106 rfl go106 (by kernel_rfl) ?_)
  simp only [Zu, Za, Zb, Zg, Zh, Zi, Zk, Zl, Zm, Zn, ↓reduceIte, reduceCtorEq, Zd, Ze, Zc, Zf, Z106]
  refine call_ret (asked_no (S := S) h) rfl rfl ?_
  simp only [Zu, Za, Zb, Zg, Zh, Zi, Zk, Zl, Zm, Zn, ↓reduceIte, reduceCtorEq, Zd, Ze, Zc, Zf, Z106]
  exact PostR.pure ⟨rfl, rfl⟩ rfl
theorem grossOf_out (S : Scl bs rs) {c w : Int} (h : (inR 0 1000000000000 c && inR 0 3 w) = false) : CallA Tryz.prog 107 [.agg [.ro (ints bs), .ro (ints rs)], .int .i64 c, .int .i64 w] [] (Ret (.tup [.int .i64 0, .bool false]) []) := by
  refine CallP.out (t := .mk) (go_in (md := md107) mixed Tryz.func107 rfl go107 (by kernel_rfl) ?_)
  simp only [Zu, Za, Zb, Zg, Zh, Zi, Zk, Zl, Zm, Zn, ↓reduceIte, reduceCtorEq, Zd, Ze, Zc, Zf, Z107]
  refine call_ret (asked_no (S := S) h) rfl rfl ?_
  simp only [Zu, Za, Zb, Zg, Zh, Zi, Zk, Zl, Zm, Zn, ↓reduceIte, reduceCtorEq, Zd, Ze, Zc, Zf, Z107]
  exact PostR.pure ⟨rfl, rfl⟩ rfl
theorem inR_up {lo hi n : Int} (h : hi < n) : inR lo hi n = false := by
  unfold inR; rw [decide_eq_false (show ¬ n ≤ hi by omega), Bool.and_false]
theorem inR_dn {lo hi n : Int} (h : n < lo) : inR lo hi n = false := by
  unfold inR; rw [decide_eq_false (show ¬ lo ≤ n by omega), Bool.false_and]
theorem hold_out (D : Dok bs rs ps ra q) (n : Int) (h : 3 < n) : CallA Tryz.prog 98 [.agg [.ro (ints bs), .ro (ints rs)], .ro (ints ps), .int .i64 n] [] (Ret (.tup [.nils, .bool false]) []) := by
  refine CallP.out (t := .mk) (go_in (md := md98) mixed Tryz.func98 rfl go98 (by kernel_rfl) ?_)
  simp only [Zu, Za, Zb, Zg, Zh, Zi, Zk, Zl, Zm, Zn, ↓reduceIte, reduceCtorEq, Zd, Ze, Zc, Zf, Z98]
  refine call_ret (asked_no (S := D.scl) (by rw [inR_up h, Bool.and_false])) rfl rfl ?_
  simp only [Zu, Za, Zb, Zg, Zh, Zi, Zk, Zl, Zm, Zn, ↓reduceIte, reduceCtorEq, Zd, Ze, Zc, Zf, Z98]
  exact PostR.pure ⟨rfl, rfl⟩ rfl
theorem share_out (D : Dok bs rs ps ra q) (n : Int) (h : 1000000000 < n) : CallA Tryz.prog 99 [.int .i64 n, .ro (ints ps)] [] (Ret (.tup [.nils, .bool false]) []) := by
  refine CallP.out (t := .mk) (go_in (md := md99) mixed Tryz.func99 rfl go99 (by kernel_rfl) ?_)
  simp only [Zu, Za, Zb, Zg, Zh, Zi, Zk, Zl, Zm, Zn, ↓reduceIte, reduceCtorEq, Zd, Ze, Zc, Zf, Z99]
  refine call_ret (arePlaces_call D.pys) rfl rfl ?_
  simp only [Zu, Za, Zb, Zg, Zh, Zi, Zk, Zl, Zm, Zn, ↓reduceIte, reduceCtorEq, Zd, Ze, Zc, Zf, Z99]
  refine call_ret (within_call n 0 1000000000) rfl rfl ?_
  rw [inR_up h]
  simp only [Zu, Za, Zb, Zg, Zh, Zi, Zk, Zl, Zm, Zn, ↓reduceIte, reduceCtorEq, Zd, Ze, Zc, Zf, Z99]
  exact PostR.pure ⟨rfl, rfl⟩ rfl
theorem safe_out (D : Dok bs rs ps ra q) (n : Int) (h : n < 0) : CallA Tryz.prog 103 [.int .i64 n, .ro (ints ra)] [] (Ret (.tup [.int .i64 0, .bool false]) []) := by
  refine CallP.out (t := .mk) (go_in (md := md103) mixed Tryz.func103 rfl go103 (by kernel_rfl) ?_)
  simp only [Zu, Za, Zb, Zg, Zh, Zi, Zk, Zl, Zm, Zn, ↓reduceIte, reduceCtorEq, Zd, Ze, Zc, Zf, Z103]
  refine call_ret (within_call n 0 1000000000) rfl rfl ?_
  rw [inR_dn h]
  simp only [Zu, Za, Zb, Zg, Zh, Zi, Zk, Zl, Zm, Zn, ↓reduceIte, reduceCtorEq, Zd, Ze, Zc, Zf, Z103]
  exact PostR.pure ⟨rfl, rfl⟩ rfl
theorem rated_no (r w : Int) (r0 : 0 ≤ r) (r1 : r ≤ 10000) (h : 3 < w) : CallA Tryz.prog 151 [.int .i64 r, .int .i64 w] [] (Ret (.bool false) []) := by
  refine CallP.out (t := .mk) (go_in (md := md151) mixed Tryz.func151 rfl go151 (by kernel_rfl) ?_)
  simp only [Zu, Za, Zb, Zg, Zh, Zi, Zk, Zl, Zm, Zn, ↓reduceIte, reduceCtorEq, Zd, Ze, Zc, Zf, Z151]
  refine call_ret (isRate_call r) rfl rfl ?_
  rw [inR_yes r0 r1]
  simp only [Zu, Za, Zb, Zg, Zh, Zi, Zk, Zl, Zm, Zn, ↓reduceIte, reduceCtorEq, Zd, Ze, Zc, Zf, Z151]
  refine call_ret (isRound_call w) rfl rfl ?_
  rw [inR_up h]
  simp only [Zu, Za, Zb, Zg, Zh, Zi, Zk, Zl, Zm, Zn, ↓reduceIte, reduceCtorEq, Zd, Ze, Zc, Zf, Z151]
  exact PostR.pure ⟨rfl, rfl⟩ rfl
theorem chain_out (D : Dok bs rs ps ra q) (n k : Int) (n0 : 0 ≤ n) (n1 : n ≤ 10000) (h : 3 < k) : CallA Tryz.prog 108 [.ro (ints ps), .int .i64 n, .int .i64 k] [] (Ret (.tup [.nils, .bool false]) []) := by
  have h6 := D.pys.six
  refine CallP.out (t := .mk) (go_in (md := md108) mixed Tryz.func108 rfl go108 (by kernel_rfl) ?_)
  simp only [Zu, Za, Zb, Zg, Zh, Zi, Zk, Zl, Zm, Zn, ↓reduceIte, reduceCtorEq, Zd, Ze, Zc, Zf, Z108]
  refine call_ret (hasCount_call ps 1 _ 0 1000000000000 (by omega)) rfl rfl ?_
  rw [D.pys.has _ _ (by decide) (by decide)]
  simp only [Zu, Za, Zb, Zg, Zh, Zi, Zk, Zl, Zm, Zn, ↓reduceIte, reduceCtorEq, Zd, Ze, Zc, Zf, Z108]
  refine call_ret (rated_no n k n0 n1 h) rfl rfl ?_
  simp only [Zu, Za, Zb, Zg, Zh, Zi, Zk, Zl, Zm, Zn, ↓reduceIte, reduceCtorEq, Zd, Ze, Zc, Zf, Z108]
  exact PostR.pure ⟨rfl, rfl⟩ rfl
theorem later_out {q : List Nat} (T : Tbl q) {r : Nat} (Y : yldB r = false) (w : Int) : CallA Tryz.prog 146 [.ro (flts q), .flt .f32 r, .int .i64 w] [] (Ret (.tup [.flt .f32 0, .bool false]) []) := by
  have h6 := T.six
  refine CallP.out (t := .mk) (go_in (md := md146) mixed Tryz.func146 rfl go146 (by kernel_rfl) ?_)
  simp only [Zu, Za, Zb, Zg, Zh, Zi, Zk, Zl, Zm, Zn, ↓reduceIte, reduceCtorEq, Zd, Ze, Zc, Zf, Z146, f0]
  refine call_ret (isLifeTable_call q (by omega)) rfl rfl ?_
  rw [T.ok]
  simp only [Zu, Za, Zb, Zg, Zh, Zi, Zk, Zl, Zm, Zn, ↓reduceIte, reduceCtorEq, Zd, Ze, Zc, Zf, Z146, f0]
  refine call_ret (isYield_gen r) rfl rfl ?_
  rw [Y]
  simp only [Zu, Za, Zb, Zg, Zh, Zi, Zk, Zl, Zm, Zn, ↓reduceIte, reduceCtorEq, Zd, Ze, Zc, Zf, Z146, f0]
  exact PostR.pure ⟨rfl, rfl⟩ rfl
theorem annuity_out {q : List Nat} (T : Tbl q) {r : Nat} (Y : yldB r = false) : CallA Tryz.prog 104 [.ro (flts q), .flt .f32 r] [] (Ret (.tup [.flt .f32 0, .bool false]) []) := by
  refine CallP.out (t := .mk) (go_in (md := md104) mixed Tryz.func104 rfl go104 (by kernel_rfl) ?_)
  simp only [Zu, Za, Zb, Zg, Zh, Zi, Zk, Zl, Zm, Zn, ↓reduceIte, reduceCtorEq, Zd, Ze, Zc, Zf, Z104, f0]
  refine call_ret (later_out T Y 0) rfl rfl ?_
  simp only [Zu, Za, Zb, Zg, Zh, Zi, Zk, Zl, Zm, Zn, ↓reduceIte, reduceCtorEq, Zd, Ze, Zc, Zf, Z104, f0]
  exact PostR.pure ⟨rfl, rfl⟩ rfl
end
end Go.Proofs.YtodjjpmigcacoaaGreatDoor
