/- A journal that is run, cut, bent: the law FnJournal. -/
import Derived.Test.YtodjjpmigcacoaaGreatDoorTzI4
import Derived.Test.YtodjjpmigcacoaaGreatDoorTzJ1
import Derived.Test.YtodjjpmigcacoaaGreatDoorAbsM5
set_option maxRecDepth 10000
set_option maxHeartbeats 16000000
set_option linter.unusedSimpArgs false
set_option linter.unusedVariables false
namespace Go.Proofs.YtodjjpmigcacoaaGreatDoor
open Go Go.Abs
open Nat renaming reduceAdd → Za, reduceSub → Zb, reduceMul → Zc, reduceLT → Zd, reduceLeDiff → Ze, reduceEqDiff → Zf
open Int renaming reduceToNat → Zn
open Go.Abs renaming lenA → Zg, convA → Zh, indexA → Zi, flatP → Zj, nilI → Zk, ifaA → Zl, indexS → Zm
theorem jOf_call (L : List (List UInt8)) (h : ∀ x ∈ L, (10 : UInt8) ∉ x ∧ x.length ≤ 16000) (hl : L.length ≤ 16000) (ht : (jt 0 L).length ≤ 16000) : CallA Tryz.prog 17 [.ro (strs L)] [] (Ret (.tup [.str (jt 0 L), .bool true]) []) := by
  have c := implJournal_call L (by omega) fun x hx => by have := (h x hx).2; omega
  have al : L.all (fun x => !x.contains 10) = true := List.all_eq_true.2 fun x hx => by have := (h x hx).1; simpa using this
  unfold outJ okJn at c
  rw [al, decide_eq_true ht] at c
  exact c
theorem jrn_call (t : List UInt8) (hs : t.length ≤ 1048576) : CallA Tryz.prog 49 [.str t] [] (Ret (.tup [.ro (strs (outR t)), .int .i64 (outN t)]) []) := by
  refine CallA.frozen 3 (journaled_call t hs) ?_
  have m : ((strs (outR t)).take (outR t).length).map (view 1 [strB (outR t)]) = strs (outR t) := by
    rw [List.take_of_length_le (by rw [strs_len]; exact Nat.le_refl _)]
    simp [strs, view_str]
  have d : decide (0 + (outR t).length ≤ (strs (outR t)).length) = true := decide_eq_true (by rw [strs_len]; simp)
  simp only [view_tup, List.map_cons, List.map_nil, view_int, view_sl, strB, List.getElem?_cons_zero, List.drop_zero] at m ⊢
  rw [m, d]
  rfl
theorem recover_call (t : List UInt8) (hs : t.length ≤ 16000) : CallA Tryz.prog 19 [.str t] [] (Ret (.tup [.ro (strs (outR t)), .int .i64 (outN t), .bool true]) []) := by
  refine CallP.out (t := .mk) (go_in (md := md19) mixed Tryz.func19 rfl go19 (by kernel_rfl) ?_)
  simp only [Zu, Za, Zb, Zg, Zh, Zi, Zk, Zl, Zm, Zn, ↓reduceIte, reduceCtorEq, Zd, Ze, Zc, Zf, Z19]
  refine br_no (decide_eq_false (by omega)) ?_
  simp only [Zu, Za, Zb, Zg, Zh, Zi, Zk, Zl, Zm, Zn, ↓reduceIte, reduceCtorEq, Zd, Ze, Zc, Zf, Z19]
  refine call_ret (jrn_call t (by omega)) rfl (by simp [below, belowM, belowL, strs_below]) ?_
  simp only [Zu, Za, Zb, Zg, Zh, Zi, Zk, Zl, Zm, Zn, ↓reduceIte, reduceCtorEq, Zd, Ze, Zc, Zf, Z19]
  exact PostR.pure ⟨rfl, rfl⟩ (by simp [below, belowM, belowL, strs_below])
theorem runJ_call {L O : List (List UInt8)} {S : Nat → DV} (H : Run L O S) (t : List UInt8) (ht : t.length ≤ 16000) (he : outR t = L) (hl : L.length ≤ 16000) : CallA Tryz.prog 20 [dvA (S 0), .str t] [] (Ret (.tup [dvA (S L.length), .int .i64 (L.length : Int), .bool true]) []) := by
  have vd := H.valid
  have cl := H.clone
  unfold dvA deskV at vd cl ⊢
  refine CallP.out (t := .mk) (go_in (md := mdR) mixed Tryz.func20 rfl go20 (by kernel_rfl) ?_)
  simp only [Zu, Za, Zb, Zg, Zh, Zi, Zk, Zl, Zm, Zn, ↓reduceIte, reduceCtorEq, Zd, Ze, Zc, Zf, Z20, mdR]
  refine call_ret vd rfl rfl ?_
  simp only [Zu, Za, Zb, Zg, Zh, Zi, Zk, Zl, Zm, Zn, ↓reduceIte, reduceCtorEq, Zd, Ze, Zc, Zf, Z20, mdR]
  refine br_no (decide_eq_false (by omega)) ?_
  simp only [Zu, Za, Zb, Zg, Zh, Zi, Zk, Zl, Zm, Zn, ↓reduceIte, reduceCtorEq, Zd, Ze, Zc, Zf, Z20, mdR]
  refine call_ret cl rfl rfl ?_
  simp only [Zu, Za, Zb, Zg, Zh, Zi, Zk, Zl, Zm, Zn, ↓reduceIte, reduceCtorEq, Zd, Ze, Zc, Zf, Z20, mdR]
  have jr := jrn_call t (by omega)
  rw [he] at jr
  refine call_ret jr rfl (by simp [below, belowM, belowL, strs_below]) ?_
  simp only [Zu, Za, Zb, Zg, Zh, Zi, Zk, Zl, Zm, Zn, ↓reduceIte, reduceCtorEq, Zd, Ze, Zc, Zf, Z20, mdR]
  refine go_round (md := md20) mixed (by kernel_rfl) (fun i : {i : Nat // i ≤ L.length} => ⟨[.any, .any, .ptr 0 0 0, .any, .ptr 1 0 0, .any, .any, .ro (strs L), .any, .any, .any, .any, .any, .any, .any, .any, .any, .any, .any, .any, .any, .any, .any, .any, .any, .any, .any, .ro (strs L), .int .i64 (L.length : Int), .int .i64 (i.1 : Int), .any, .any, .any, .any, .any, .any, .any, .any, .any, .any, .any, .any, .any], [dvB (S i.1), resD]⟩) (fun i => L.length - i.1) ⟨0, by omega⟩ ?_ ?_
  · exact weak_drop (by simp) (by simp [DropHp, ints_below, flts_below, dvB, resD, strs_len, allBelow_cons, allBelow_nil, below, belowM, belowL]) (by simp [DropTm, DropV, below, belowM, belowL, dvB, resD, strs_len, allBelow_cons, allBelow_nil, below, belowM, belowL])
  rintro ⟨i, hi⟩
  have sl := strs_len L
  simp only [Zu, Za, Zb, Zg, Zh, Zi, Zk, Zl, Zm, Zn, ↓reduceIte, reduceCtorEq, Zd, Ze, Zc, Zf, Z20, mdR, sl]
  refine br_intro (fun g => ?_) (fun g => ?_) <;> simp only [Zu, Za, Zb, Zg, Zh, Zi, Zk, Zl, Zm, Zn, ↓reduceIte, reduceCtorEq, Zd, Ze, Zc, Zf, Z20, mdR, sl]
  · have hi' : i < L.length := by have := of_decide_eq_true g; omega
    have hI : (i : Int) < (L.length : Int) := by omega
    have hc := H.cmd i hi'
    have w1 : IntKind.i64.wrap ((i : Int) + 1) = ((i + 1 : Nat) : Int) := w64_succ i (by omega)
    unfold dvA deskV at hc
    simp only [Zu, Za, Zb, Zg, Zh, Zi, Zk, Zl, Zm, Zn, ↓reduceIte, reduceCtorEq, Zd, Ze, Zc, Zf, Z20, mdR, dvB, resD, deskV, sl, hi', hI, strs_get]
    refine call_ret hc rfl rfl ?_
    simp only [Zu, Za, Zb, Zg, Zh, Zi, Zk, Zl, Zm, Zn, ↓reduceIte, reduceCtorEq, Zd, Ze, Zc, Zf, Z20, mdR, dvB, resD, deskV, sl, w1]
    refine ⟨⟨i + 1, by omega⟩, by show L.length - (i + 1) < _; omega, ?_⟩
    show Weak _ _ ⟨_, _⟩
    exact weak_drop (by simp) (by simp [DropHp, ints_below, flts_below, w1, dvB, resD, sl, allBelow_cons, allBelow_nil, below, belowM, belowL]) (by simp [DropTm, DropV, below, belowM, belowL, w1, dvB, resD, sl, allBelow_cons, allBelow_nil, below, belowM, belowL])
  · have hi' : i = L.length := by have := of_decide_eq_false g; omega
    subst hi'
    simp only [Zu, Za, Zb, Zg, Zh, Zi, Zk, Zl, Zm, Zn, ↓reduceIte, reduceCtorEq, Zd, Ze, Zc, Zf, Z20, mdR, dvB, resD, sl]
    exact PostR.pure ⟨rfl, rfl⟩ rfl
theorem jt_short : ∀ (L : List (List UInt8)) (c : Int) (m : Nat), 0 ≤ c → c ≤ 65002 → (∀ x ∈ L, x.length ≤ m) → (jt c L).length ≤ L.length * (m + 7)
  | [], c, m, _, _, _ => by simp [jt]
  | l :: L, c, m, h0, h1, h => by
    have hc := chk_in l c h0 h1
    have a := jt_short L (chk c l) m hc.1 hc.2 fun x hx => h x (List.mem_cons_of_mem _ hx)
    have b := (jl_len c l h0 h1).2
    have d := h l List.mem_cons_self
    rw [jt, List.length_append, List.length_cons, Nat.add_mul]
    omega
theorem rec_any (t : List UInt8) (h : t.length ≤ 16000) : jt 0 (outR t) = t.take (outN t) ∧ outN t ≤ t.length ∧ CallA Tryz.prog 17 [.ro (strs (outR t))] [] (Ret (.tup [.str (t.take (outN t)), .bool true]) []) := by
  obtain ⟨a, b, c, d⟩ := rec_take t.length t 0 (Nat.le_refl _)
  have e : jt 0 (outR t) = t.take (outN t) := a
  refine ⟨e, b, ?_⟩
  have := jOf_call (outR t) (fun x hx => ⟨(c x hx).1, by have := (c x hx).2; omega⟩) (by have : (outR t).length ≤ t.length := d; omega) (by rw [e, List.length_take]; omega)
  rw [e] at this
  exact this
theorem rec_all {L : List (List UInt8)} (h : ∀ x ∈ L, (10 : UInt8) ∉ x) : outR (jt 0 L) = L := by
  obtain ⟨k, k1, k2, k3, k4⟩ := rec_cut L 0 (jt 0 L).length h
  rw [List.take_length] at k2
  have : ¬ k < L.length := fun hk => by
    have a := k4 hk
    have b := jt_le L (k + 1)
    omega
  have e : k = L.length := by omega
  unfold outR
  rw [k2, e, List.take_length]
theorem u8_is (z : Int) : ∃ b : UInt8, IntKind.u8.wrap z = (b.toNat : Int) := by
  refine ⟨UInt8.ofNat (z % 256).toNat, ?_⟩
  have e : IntKind.u8.wrap z = z % 256 := by simp [IntKind.wrap, IntKind.bits, IntKind.signed]
  rw [e]
  simp [UInt8.toNat_ofNat']
  omega
theorem fnJournal_call (c m : List Int) (hc : byteL c) (hm : byteL m) : CallA Tryz.prog 4 [.ro (kint .u8 c), .ro (kint .u8 m)] [] (Ret (.bool true) []) := by
  refine CallP.out (t := .mk) (go_in (md := md4) mixed Tryz.func4 rfl go4 (by kernel_rfl) ?_)
  simp only [Zu, Za, Zb, Zg, Zh, Zi, Zk, Zl, Zm, Zn, ↓reduceIte, reduceCtorEq, Zd, Ze, Zc, Zf, Z4]
  refine call_ret (r8Long_call c m) rfl rfl ?_
  simp only [Zu, Za, Zb, Zg, Zh, Zi, Zk, Zl, Zm, Zn, ↓reduceIte, reduceCtorEq, Zd, Ze, Zc, Zf, Z4]
  refine br_intro (fun h => ?_) (fun h => ?_) <;> simp only [Zu, Za, Zb, Zg, Zh, Zi, Zk, Zl, Zm, Zn, ↓reduceIte, reduceCtorEq, Zd, Ze, Zc, Zf, Z4]
  · exact PostR.pure ⟨rfl, rfl⟩ rfl
  have hh := Bool.or_eq_false_iff.1 h
  have l1 := of_decide_eq_false hh.1
  have l2 := of_decide_eq_false hh.2
  refine call_newQ (r8Lines_call c hc (by omega)) rfl ?_
  rintro r hp' ⟨L, ⟨L1, L5, hL⟩, rfl, rfl⟩
  refine ⟨fun b hb => absurd hb List.not_mem_nil, ?_⟩
  have n10 : ∀ x ∈ L, (10 : UInt8) ∉ x := fun x hx => (hL x hx).no10
  have n5 : ∀ x ∈ L, x.length ≤ 500 := fun x hx => (hL x hx).len
  have js := jt_short L 0 500 (by decide) (by decide) n5
  have sl := strs_len L
  have jp : 1 ≤ (jt 0 L).length := by
    cases L with
    | nil => simp at L1
    | cons l L =>
      have := (jl_len 0 l (by decide) (by decide)).1
      rw [jt, List.length_append]; omega
  have R0 := at8_low (l := m) (k := 0) (n := 256) (by omega)
  have R1 := at8_low (l := m) (k := 1) (n := 256) (by omega)
  have R2 := at8_low (l := m) (k := 2) (n := 255) (by omega)
  have k0 := r8At_call m hm (by omega) 0 256 (by omega) (by omega)
  have k1 := r8At_call m hm (by omega) 1 256 (by omega) (by omega)
  have k2 := r8At_call m hm (by omega) 2 255 (by omega) (by omega)
  have jo := jOf_call L (fun x hx => ⟨n10 x hx, by have := n5 x hx; omega⟩) (by omega) (by omega)
  obtain ⟨t, ht⟩ : ∃ t, t = jt 0 L := ⟨_, rfl⟩
  rw [← ht] at jo jp js
  have t16 : t.length ≤ 16000 := by omega
  simp only [Zu, Za, Zb, Zg, Zh, Zi, Zk, Zl, Zm, Zn, ↓reduceIte, reduceCtorEq, Zd, Ze, Zc, Zf, Z4, ren, renM, renL]
  refine call_ret jo (by simp [below, belowM, belowL, strs_below]) rfl ?_
  simp only [Zu, Za, Zb, Zg, Zh, Zi, Zk, Zl, Zm, Zn, ↓reduceIte, reduceCtorEq, Zd, Ze, Zc, Zf, Z4]
  refine br_no (beq_false_of_ne (by omega)) ?_
  simp only [Zu, Za, Zb, Zg, Zh, Zi, Zk, Zl, Zm, Zn, ↓reduceIte, reduceCtorEq, Zd, Ze, Zc, Zf, Z4]
  refine call_ret k0 rfl rfl ?_
  simp only [Zu, Za, Zb, Zg, Zh, Zi, Zk, Zl, Zm, Zn, ↓reduceIte, reduceCtorEq, Zd, Ze, Zc, Zf, Z4]
  refine call_ret k1 rfl rfl ?_
  simp only [Zu, Za, Zb, Zg, Zh, Zi, Zk, Zl, Zm, Zn, ↓reduceIte, reduceCtorEq, Zd, Ze, Zc, Zf, Z4]
  obtain ⟨O, S, e0, Q⟩ := seq_ex L hL ([0, 1000], [1000, 2000], [100, 250, 400], [500, 0, -500], [1056964608, 1056964608, 1065353216]) newDesk_ok
  have R := Q.run L5 hL
  have rj := runJ_call R t t16 (by rw [ht]; exact rec_all n10) (by omega)
  have rc := run_call R L1
  rw [e0] at rj rc
  have dl := Q.ok L.length (Nat.le_refl _)
  have ss := same_self dl
  unfold dvA deskV at rj rc ss
  generalize at8 m 0 256 = x at *
  generalize at8 m 1 256 = y at *
  have w1 : IntKind.i64.wrap (256 * x) = 256 * x := w64 (by omega) (by omega)
  have w2 : IntKind.i64.wrap (256 * x + y) = 256 * x + y := w64 (by omega) (by omega)
  have w3 : IntKind.i64.wrap ((t.length : Int) + 1) = (t.length : Int) + 1 := w64 (by omega) (by omega)
  obtain ⟨a, ha, hal⟩ : ∃ a : Nat, (256 * x + y).tmod ((t.length : Int) + 1) = (a : Int) ∧ a ≤ t.length := by
    have h1 := Int.tmod_nonneg ((t.length : Int) + 1) (show 0 ≤ 256 * x + y by omega)
    have h2 := Int.tmod_lt_of_pos (256 * x + y) (show 0 < (t.length : Int) + 1 by omega)
    exact ⟨((256 * x + y).tmod ((t.length : Int) + 1)).toNat, by omega, by omega⟩
  have tk := List.length_take (l := t) (i := a)
  obtain ⟨k, c1, c2, c3, c4⟩ := rec_cut L 0 a n10
  obtain ⟨r1, r2, r3⟩ := rec_any (t.take a) (by omega)
  have rv := recover_call (t.take a) (by omega)
  have eR : outR (t.take a) = L.take k := by unfold outR; rw [ht, c2]
  have eN : outN (t.take a) = (jt 0 (L.take k)).length := by unfold outN; rw [ht, c2]
  rw [eR] at r1 r3 rv
  have full : a = t.length → outN (t.take a) = t.length := fun e => by
    rw [eN]
    by_cases hk : k < L.length
    · have h1 := c4 hk
      have h2 := jt_le L (k + 1)
      rw [← ht] at h2
      omega
    · rw [List.take_of_length_le (by omega), ht]
  rw [← eN] at c3
  generalize outN (t.take a) = N at *
  have tt : (t.take a).take N = t.take N := by rw [List.take_take, Nat.min_eq_left c3]
  rw [tt] at r3
  have sk := strs_len (L.take k)
  have lk := List.length_take (l := L) (i := k)
  rw [w1, w2, w3, ha]
  refine ⟨by omega, by omega, by omega, by omega, ?_⟩
  rw [show ((a : Nat) : Int).toNat = a from rfl]
  refine call_ret rv rfl (by simp [below, belowM, belowL, strs_below]) ?_
  simp only [Zu, Za, Zb, Zg, Zh, Zi, Zk, Zl, Zm, Zn, ↓reduceIte, reduceCtorEq, Zd, Ze, Zc, Zf, Z4]
  refine call_ret r3 (by simp [below, belowM, belowL, strs_below]) rfl ?_
  simp only [Zu, Za, Zb, Zg, Zh, Zi, Zk, Zl, Zm, Zn, ↓reduceIte, reduceCtorEq, Zd, Ze, Zc, Zf, Z4]
  refine br_no (decide_eq_false (by omega)) ?_
  simp only [Zu, Za, Zb, Zg, Zh, Zi, Zk, Zl, Zm, Zn, ↓reduceIte, reduceCtorEq, Zd, Ze, Zc, Zf, Z4]
  refine ⟨by omega, by omega, ?_⟩
  refine br_yes (beq_self_eq_true _) ?_
  simp only [Zu, Za, Zb, Zg, Zh, Zi, Zk, Zl, Zm, Zn, ↓reduceIte, reduceCtorEq, Zd, Ze, Zc, Zf, Z4, sl, sk]
  refine br_no (decide_eq_false (by omega)) ?_
  simp only [Zu, Za, Zb, Zg, Zh, Zi, Zk, Zl, Zm, Zn, ↓reduceIte, reduceCtorEq, Zd, Ze, Zc, Zf, Z4, sl, sk]
  have k16 : (L.take (k + 1)).length ≤ 5 := by rw [List.length_take]; omega
  have jk : (jt 0 (L.take (k + 1))).length ≤ 16000 := by have := jt_le L (k + 1); rw [← ht] at this; omega
  have jl1 := jOf_call (L.take (k + 1)) (fun x hx => ⟨n10 x (List.mem_of_mem_take hx), by have := n5 x (List.mem_of_mem_take hx); omega⟩) (by omega) jk
  have wk : IntKind.i64.wrap (((L.take k).length : Int) + 1) = ((L.take k).length : Int) + 1 := w64 (by omega) (by omega)
  refine br_intro (fun g => ?_) (fun g => ?_) <;> simp only [Zu, Za, Zb, Zg, Zh, Zi, Zk, Zl, Zm, Zn, ↓reduceIte, reduceCtorEq, Zd, Ze, Zc, Zf, Z4, sl, sk]
  have kl : k < L.length := by have := of_decide_eq_true g; omega
  have c5 := c4 kl
  have ek : (L.take k).length = k := by omega
  rw [ek] at wk
  simp only [Zu, Za, Zb, Zg, Zh, Zi, Zk, Zl, Zm, Zn, ↓reduceIte, reduceCtorEq, Zd, Ze, Zc, Zf, Z4, ek, wk, sliceA, boundA, sl]
  refine ⟨by omega, by omega, by omega, fun a ha => by simp only [strs, List.mem_map] at ha; obtain ⟨z, _, rfl⟩ := ha; rfl, ?_⟩
  rw [show ((k : Int) + 1).toNat = k + 1 from rfl, show (strs L).take (k + 1) = strs (L.take (k + 1)) by simp [strs, List.map_take]]
  refine call_ret jl1 (by simp [below, belowM, belowL, strs_below]) rfl ?_
  simp only [Zu, Za, Zb, Zg, Zh, Zi, Zk, Zl, Zm, Zn, ↓reduceIte, reduceCtorEq, Zd, Ze, Zc, Zf, Z4, ek, wk]
  refine br_no (decide_eq_false (by omega)) ?_
  simp only [Zu, Za, Zb, Zg, Zh, Zi, Zk, Zl, Zm, Zn, ↓reduceIte, reduceCtorEq, Zd, Ze, Zc, Zf, Z4]
  all_goals
    clear jl1 wk
    refine call_ret newDesk_call rfl rfl ?_
    simp only [Zu, Za, Zb, Zg, Zh, Zi, Zk, Zl, Zm, Zn, ↓reduceIte, reduceCtorEq, Zd, Ze, Zc, Zf, Z4, deskV]
    refine call_ret rj rfl rfl ?_
    simp only [Zu, Za, Zb, Zg, Zh, Zi, Zk, Zl, Zm, Zn, ↓reduceIte, reduceCtorEq, Zd, Ze, Zc, Zf, Z4, deskV]
    refine go_round (md := md4) mixed (by kernel_rfl) (fun i : {i : Nat // i ≤ L.length} => ⟨(.any :: (.ro (kint .u8 m)) :: .any :: .any :: .any :: (.ro (strs L)) :: (.str t) :: .any :: (.int .i64 t.length) :: (.int .i64 a) :: .any :: (.int .i64 N) :: .any :: .any :: .any :: .any :: .any :: (.ptr 0 0 0) :: (.int .i64 L.length) :: (.bool true) :: (.str (linT 10 (L.take i.1))) :: (.int .i64 (i.1 : Int)) :: .any :: .any :: .any :: .any :: .any :: .any :: .any :: .any :: .any :: .any :: .any :: .any :: .any :: .any :: .any :: .any :: .any :: .any :: .any :: .any :: .any :: .any :: .any :: .any :: .any :: .any :: .any :: .any :: .any :: .any :: .any :: .any :: .any :: .any :: .any :: .any :: .any :: .any :: .any :: .any :: .any :: .any :: .any :: .any :: .any :: .any :: .any :: .any :: .any :: .any :: .any :: .any :: .any :: .any :: .any :: .any :: .any :: .any :: .any :: .any :: .any :: .any :: .any :: .any :: .any :: .any :: .any :: .any :: .any :: .any :: .any :: .any :: .any :: .any :: .any :: .any :: .any :: .any :: .any :: .any :: .any :: .any :: .any :: .any :: .any :: .any :: .any :: .any :: .any :: .any :: .any :: .any :: .any :: .any :: .any :: .any :: .any :: .any :: .any :: .any :: .any :: .any :: .any :: .any :: .any :: .any :: .any :: .any :: .any :: .any :: .any :: .any :: .any :: .any :: .any :: .any :: .any :: .any :: .any :: .any :: .any :: .any :: .any :: .any :: .any :: .any :: .any :: .any :: .any :: .any :: .any :: .any :: .any :: .any :: .any :: .any :: .any :: .any :: .any :: .any :: .any :: .any :: .any :: .any :: .any :: .any :: .any :: .any :: .any :: .any :: .any :: .any :: .any :: .any :: .any :: .any :: .any :: .any :: .any :: .any :: .any :: .any :: .any :: .any :: .any :: .any :: .any :: .any :: .any :: .any :: .any :: .any :: .any :: .any :: .any :: .any :: .any :: .any :: .any :: .any :: .any :: .any :: .any :: .any :: .any :: .any :: .any :: .any :: .any :: .any :: .any :: .any :: .any :: .any :: .any :: []), [dvB (S L.length)]⟩) (fun i => L.length - i.1) ⟨0, by omega⟩ ?_ ?_
    · have z : linT 10 [] = [] := rfl
      exact weak_drop (by simp) (by simp [DropHp, ints_below, flts_below, dvB, z, allBelow_cons, allBelow_nil, below, belowM, belowL]) (by simp [DropTm, DropV, below, belowM, belowL, dvB, z, allBelow_cons, allBelow_nil, below, belowM, belowL])
    rintro ⟨i, hi⟩
    have t1 : (linT 10 (L.take i)).length ≤ 1000000 := by have := lin_take 10 L i; have := R.short; omega
    simp only [Zu, Za, Zb, Zg, Zh, Zi, Zk, Zl, Zm, Zn, ↓reduceIte, reduceCtorEq, Zd, Ze, Zc, Zf, Z4, sl]
    refine br_intro (fun g2 => ?_) (fun g2 => ?_) <;> simp only [Zu, Za, Zb, Zg, Zh, Zi, Zk, Zl, Zm, Zn, ↓reduceIte, reduceCtorEq, Zd, Ze, Zc, Zf, Z4, sl]
    · have hi' : i < L.length := by have := of_decide_eq_true g2; omega
      have hI : (i : Int) < (L.length : Int) := by omega
      have w4 : IntKind.i64.wrap ((i : Int) + 1) = ((i + 1 : Nat) : Int) := w64_succ i (by omega)
      have tL : linT 10 (L.take (i + 1)) = linT 10 (L.take i) ++ (L[i] ++ [10]) := by rw [take_snoc _ _ hi', linT_snoc]
      have ll := n5 L[i] (List.getElem_mem hi')
      simp only [Zu, Za, Zb, Zg, Zh, Zi, Zk, Zl, Zm, Zn, ↓reduceIte, reduceCtorEq, Zd, Ze, Zc, Zf, Z4, sl, hi', hI, strs_get, w4]
      repeat (refine ⟨by first | omega | (simp only [List.length_append, List.length_cons, List.length_nil]; omega), ?_⟩)
      try simp only []
      refine ⟨⟨i + 1, by omega⟩, by show L.length - (i + 1) < _; omega, ?_⟩
      show Weak _ _ ⟨_, _⟩
      exact weak_drop (by simp) (by simp [DropHp, ints_below, flts_below, tL, dvB, allBelow_cons, allBelow_nil, below, belowM, belowL]) (by simp [DropTm, DropV, below, belowM, belowL, tL, dvB, allBelow_cons, allBelow_nil, below, belowM, belowL])
    have hi' : i = L.length := by have := of_decide_eq_false g2; omega
    subst hi'
    rw [List.take_length]
    simp only [Zu, Za, Zb, Zg, Zh, Zi, Zk, Zl, Zm, Zn, ↓reduceIte, reduceCtorEq, Zd, Ze, Zc, Zf, Z4, dvB]
    refine call_ret newDesk_call rfl rfl ?_
    simp only [Zu, Za, Zb, Zg, Zh, Zi, Zk, Zl, Zm, Zn, ↓reduceIte, reduceCtorEq, Zd, Ze, Zc, Zf, Z4, deskV, dvB]
    refine call_ret rc rfl rfl ?_
    simp only [Zu, Za, Zb, Zg, Zh, Zi, Zk, Zl, Zm, Zn, ↓reduceIte, reduceCtorEq, Zd, Ze, Zc, Zf, Z4, deskV, dvB]
    refine br_no (by rw [sl]; exact bne_self_eq_false _) ?_
    simp only [Zu, Za, Zb, Zg, Zh, Zi, Zk, Zl, Zm, Zn, ↓reduceIte, reduceCtorEq, Zd, Ze, Zc, Zf, Z4, dvB]
    refine call_ret ss rfl rfl ?_
    simp only [Zu, Za, Zb, Zg, Zh, Zi, Zk, Zl, Zm, Zn, ↓reduceIte, reduceCtorEq, Zd, Ze, Zc, Zf, Z4, dvB]
    refine br_intro (fun g3 => ?_) (fun g3 => ?_) <;> simp only [Zu, Za, Zb, Zg, Zh, Zi, Zk, Zl, Zm, Zn, ↓reduceIte, reduceCtorEq, Zd, Ze, Zc, Zf, Z4, dvB]
    · have e3 : a = t.length := by have := beq_iff_eq.1 g3; omega
      rw [full e3, beq_self_eq_true]
      exact PostR.pure ⟨rfl, rfl⟩ rfl
    have h3 : a < t.length := by have := beq_eq_false_iff_ne.1 g3; omega
    have w5 : IntKind.i64.wrap (1 + at8 m 2 255) = 1 + at8 m 2 255 := w64 (by omega) (by omega)
    have w6 : IntKind.i64.wrap ((a : Int) + 1) = ((a + 1 : Nat) : Int) := w64_succ a (by omega)
    refine go_order mixed [0, 1, 2, 3, 4, 5, 6, 7, 8, 9, 10, 11, 12, 13, 14, 15, 16, 17, 18, 19] [false, false, false, false, false, false, false, false, false, false, false, false, false, false, false, false, false, false, false, true] (by kernel_rfl) ?_
    iterate 3 (refine od_quiet (by rfl) (by rfl) (by rfl) ?_; simp only [Zu, Za, Zb, Zg, Zh, Zi, Zk, Zl, Zm, Zn, ↓reduceIte, reduceCtorEq, Zd, Ze, Zc, Zf, Z4])
    refine ⟨by omega, by omega, ?_⟩
    iterate 3 (refine od_quiet (by rfl) (by rfl) (by rfl) ?_; simp only [Zu, Za, Zb, Zg, Zh, Zi, Zk, Zl, Zm, Zn, ↓reduceIte, reduceCtorEq, Zd, Ze, Zc, Zf, Z4])
    refine ⟨h3, ?_⟩
    iterate 1 (refine od_quiet (by rfl) (by rfl) (by rfl) ?_; simp only [Zu, Za, Zb, Zg, Zh, Zi, Zk, Zl, Zm, Zn, ↓reduceIte, reduceCtorEq, Zd, Ze, Zc, Zf, Z4])
    refine od_call (by rfl) (by rfl) (by rfl) (by rfl) (by rfl) (call_lift rfl k2 rfl) ?_
    try simp only []
    simp only [Zu, Za, Zb, Zg, Zh, Zi, Zk, Zl, Zm, Zn, ↓reduceIte, reduceCtorEq, Zd, Ze, Zc, Zf, Z4]
    iterate 3 (refine od_quiet (by rfl) (by rfl) (by rfl) ?_; simp only [Zu, Za, Zb, Zg, Zh, Zi, Zk, Zl, Zm, Zn, ↓reduceIte, reduceCtorEq, Zd, Ze, Zc, Zf, Z4, w5])
    obtain ⟨b, hb⟩ := u8_is ((BitVec.ofInt IntKind.u8.bits (t[a].toNat : Int) ^^^ BitVec.ofInt IntKind.u8.bits (IntKind.u8.wrap (1 + at8 m 2 255))).toNat : Int)
    rw [hb]
    refine od_fresh (by rfl) (by rfl) (by rfl) { ty := 5, w := 1, els := [.int .u8 (b.toNat : Int)] } 1 (.sl 0 0 1) rfl rfl ?_ rfl ?_ ?_
    · intro q hq
      simp only [List.mem_cons, List.not_mem_nil, or_false] at hq
      rcases hq with rfl | rfl <;> simp [allBelow_cons, allBelow_nil, below, belowM, belowL, ints_below, flts_below]
    · simp only [Zu, Za, Zb, Zg, Zh, Zi, Zk, Zl, Zm, Zn, ↓reduceIte, reduceCtorEq, Zd, Ze, Zc, Zf, Z4]
      rfl
    rw [show view 1 [({ ty := 5, w := 1, els := [.int .u8 (b.toNat : Int)] } : Blk)] (.sl 0 0 1) = .ro [.int .u8 (b.toNat : Int)] from by simp [view_sl, view_int]]
    simp only [Zu, Za, Zb, Zg, Zh, Zi, Zk, Zl, Zm, Zn, ↓reduceIte, reduceCtorEq, Zd, Ze, Zc, Zf, Z4]
    iterate 1 (refine od_quiet (by rfl) (by rfl) (by rfl) ?_; simp only [Zu, Za, Zb, Zg, Zh, Zi, Zk, Zl, Zm, Zn, ↓reduceIte, reduceCtorEq, Zd, Ze, Zc, Zf, Z4])
    refine ⟨⟨5, rfl, Tryz.underlying5⟩, [b], rfl, ?_⟩
    have tk0 : (t.take a).length ≤ 16000 := by rw [List.length_take]; omega
    have td0 : (t.drop (a + 1)).length ≤ 16000 := by rw [List.length_drop]; omega
    iterate 1 (refine od_quiet (by rfl) (by rfl) (by rfl) ?_; simp only [Zu, Za, Zb, Zg, Zh, Zi, Zk, Zl, Zm, Zn, ↓reduceIte, reduceCtorEq, Zd, Ze, Zc, Zf, Z4, w6])
    refine ⟨by first | omega | (simp only [List.length_append, List.length_cons, List.length_nil]; omega), ?_⟩
    iterate 4 (refine od_quiet (by rfl) (by rfl) (by rfl) ?_; simp only [Zu, Za, Zb, Zg, Zh, Zi, Zk, Zl, Zm, Zn, ↓reduceIte, reduceCtorEq, Zd, Ze, Zc, Zf, Z4, w6])
    refine ⟨by omega, by omega, ?_⟩
    iterate 1 (refine od_quiet (by rfl) (by rfl) (by rfl) ?_; simp only [Zu, Za, Zb, Zg, Zh, Zi, Zk, Zl, Zm, Zn, ↓reduceIte, reduceCtorEq, Zd, Ze, Zc, Zf, Z4, List.take_length])
    refine ⟨by first | omega | (simp only [List.length_append, List.length_cons, List.length_nil]; omega), ?_⟩
    have bl : (t.take a ++ [b] ++ t.drop (a + 1)).length ≤ 16000 := by simp only [List.length_append, List.length_cons, List.length_nil, List.length_take, List.length_drop]; omega
    generalize t.take a ++ [b] ++ t.drop (a + 1) = B at *
    refine od_one (by rfl) (by rfl) (by rfl) ?_
    simp only [Zu, Za, Zb, Zg, Zh, Zi, Zk, Zl, Zm, Zn, ↓reduceIte, reduceCtorEq, Zd, Ze, Zc, Zf, Z4]
    refine od_nil ?_
    simp only [Zu, Za, Zb, Zg, Zh, Zi, Zk, Zl, Zm, Zn, ↓reduceIte, reduceCtorEq, Zd, Ze, Zc, Zf, Z4]
    obtain ⟨v1, v2, v3⟩ := rec_any B bl
    have v4 := recover_call B bl
    refine call_ret v4 rfl (by simp [below, belowM, belowL, strs_below]) ?_
    simp only [Zu, Za, Zb, Zg, Zh, Zi, Zk, Zl, Zm, Zn, ↓reduceIte, reduceCtorEq, Zd, Ze, Zc, Zf, Z4]
    refine call_ret v3 (by simp [below, belowM, belowL, strs_below]) rfl ?_
    simp only [Zu, Za, Zb, Zg, Zh, Zi, Zk, Zl, Zm, Zn, ↓reduceIte, reduceCtorEq, Zd, Ze, Zc, Zf, Z4]
    refine br_yes (decide_eq_true (by omega)) ?_
    simp only [Zu, Za, Zb, Zg, Zh, Zi, Zk, Zl, Zm, Zn, ↓reduceIte, reduceCtorEq, Zd, Ze, Zc, Zf, Z4]
    refine ⟨by omega, by omega, ?_⟩
    try simp only [Int.toNat_natCast]
    rw [beq_self_eq_true]
    exact PostR.pure ⟨rfl, rfl⟩ rfl
theorem u8_wf {x : Int} (h : (Lit.int .u8 x).wf = true) : 0 ≤ x ∧ x ≤ 255 := by
  simp [Lit.wf, IntKind.min, IntKind.max, IntKind.bits, IntKind.signed] at h
  omega
theorem ofT_bytes {a : AV} (h : OfT Tryz.prog 8 22 [a]) : ∃ xs : List Int, a = .ro (kint .u8 xs) ∧ byteL xs := by
  obtain ⟨xs, h1, h2, h3⟩ := ofT_kint Tryz.underlying22 Tryz.underlying5 h
  exact ⟨xs, h1, fun x hx => u8_wf (h3 x hx)⟩
theorem journalLaw (l0 l1 : AV) (of0 : OfT Tryz.prog 8 22 [l0]) (of1 : OfT Tryz.prog 8 22 [l1]) : CallA Tryz.prog 4 [l0, l1] [] (Ret (.bool true) []) := by
  obtain ⟨c, rfl, hc⟩ := ofT_bytes of0
  obtain ⟨m, rfl, hm⟩ := ofT_bytes of1
  exact fnJournal_call c m hc hm
end Go.Proofs.YtodjjpmigcacoaaGreatDoor
