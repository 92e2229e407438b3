/- Scales that are drawn. -/
import Derived.Test.YtdlddnnnfjnabaaLibT
set_option maxRecDepth 10000
set_option maxHeartbeats 4000000
set_option linter.unusedSimpArgs false
set_option linter.unusedVariables false
namespace Go.Proofs.Ytdlddnnnfjnabaa
open Go Go.Abs

theorem srcB_below (N : Nat) (code : List Int) (a : Nat) (sd : Int) : allBelow N (srcB code a sd).els = true := rfl
theorem srcB_kill (code : List Int) (a : Nat) (sd : Int) (b : Nat) : ({ ty := (srcB code a sd).ty, w := (srcB code a sd).w, els := List.map (kill b) (srcB code a sd).els, live := (srcB code a sd).live } : Blk) = srcB code a sd := rfl
theorem pick_at {code : List Int} (hc : byteL code) (hl : code.length ≤ 1048576) {a : Nat} (ha : a ≤ 1000000000) {sd : Int} {m : Int} (h1 : 1 ≤ m) (h2 : m ≤ 1000000) {rest : List Blk} {Q : AV → List Blk → Prop} {t : Tok Q}
    (hQ : ∀ (x : Int) (a' : Nat) (sd' : Int), (0 ≤ x ∧ x < m) → a' ≤ a + 2 → Q (.int .i64 x) (srcB code a' sd' :: rest)) : CallP Try.prog 41 [.ptr 0 0 0, .int .i64 m] (srcB code a sd :: rest) Q t := by
  refine call_handedQ [0] (pick_call code hc hl a ha sd m h1 h2) (by decide) ⟨⟨rfl, rfl⟩, trivial⟩ rfl rfl ?_
  rintro r hps' ⟨x, a', sd', hx, ha', rfl, rfl⟩
  refine ⟨by intro q hq; simp at hq; subst hq; rfl, ?_⟩
  have := hQ x a' sd' hx ha'
  simpa [putF, ren, renM, renL] using this
theorem one_at {code : List Int} (hc : byteL code) (hl : code.length ≤ 1048576) {a : Nat} (ha : a ≤ 1000000000) {sd : Int} {m : Int} (h1 : 1 ≤ m) (h2 : m ≤ 1000000) {rest : List Blk} {Q : AV → List Blk → Prop} {t : Tok Q}
    (hQ : ∀ (x : Bool) (a' : Nat) (sd' : Int), a' ≤ a + 2 → Q (.bool x) (srcB code a' sd' :: rest)) : CallP Try.prog 92 [.ptr 0 0 0, .int .i64 m] (srcB code a sd :: rest) Q t := by
  refine call_handedQ [0] (one_call code hc hl a ha sd m h1 h2) (by decide) ⟨⟨rfl, rfl⟩, trivial⟩ rfl rfl ?_
  rintro r hps' ⟨x, a', sd', ha', rfl, rfl⟩
  refine ⟨by intro q hq; simp at hq; subst hq; rfl, ?_⟩
  have := hQ x a' sd' ha'
  simpa [putF, ren, renM, renL] using this

theorem asc_snoc : ∀ (bs : List Int) (t : Int), Asc bs → (∀ b ∈ bs, b < t) → Asc (bs ++ [t])
  | [], t, _, _ => trivial
  | [a], t, _, h => ⟨h a (by simp), trivial⟩
  | a :: b :: l, t, ha, h => ⟨ha.1, asc_snoc (b :: l) t ha.2 fun x hx => h x (by simp [hx])⟩

structure Dr where
  bs : List Int
  rs : List Int
  a : Nat
  sd : Int
  top : Int
  n : Int
structure Dr.Ok (d : Dr) : Prop where
  asc : Asc d.bs
  len : d.rs.length = d.bs.length
  low : ∀ b ∈ d.bs, 0 ≤ b ∧ b < d.top
  rate : ∀ r ∈ d.rs, 0 ≤ r ∧ r ≤ 10000
  head : d.bs.head? = some 0 ∨ (d.bs = [] ∧ d.top = 0)
  n0 : 0 ≤ d.n
  all : (d.bs.length : Int) + d.n ≤ 4
  some : 1 ≤ (d.bs.length : Int) + d.n
  at_ : (d.a : Int) ≤ 2 + 8 * d.bs.length
  cap : d.top ≤ 4000 * d.bs.length
theorem Dr.Ok.top0 {d : Dr} (D : d.Ok) : 0 ≤ d.top := by
  have h2 := D.low
  rcases D.head with h | ⟨_, h⟩
  · obtain ⟨bs, rs, a, sd, top, n⟩ := d
    simp only [] at h h2 ⊢
    cases bs with
    | nil => simp at h
    | cons b bs => have := h2 b (by simp); omega
  · omega
theorem Dr.Ok.next {bs rs : List Int} {a : Nat} {sd top n : Int} (D : Dr.Ok ⟨bs, rs, a, sd, top, n⟩) (hn : 0 < n) {r x : Int} (hr : 0 ≤ r ∧ r ≤ 10000) (hx : 0 ≤ x ∧ x < 40) {a' : Nat} (ha : a' ≤ a + 8) (sd' : Int) : Dr.Ok ⟨bs ++ [top], rs ++ [r], a', sd', top + (1 + 100 * x), n - 1⟩ := by
  have h1 := D.head
  have h2 := D.low
  have h3 := D.len
  have h4 := D.all
  have h5 := D.at_
  have h6 := D.cap
  have h7 := D.rate
  simp only [] at h1 h2 h3 h4 h5 h6 h7
  have top0 : 0 ≤ top := by
    rcases h1 with h | ⟨_, h⟩
    · cases bs with
      | nil => simp at h
      | cons b bs => have := h2 b (by simp); omega
    · omega
  refine ⟨asc_snoc bs top D.asc fun b hb => (h2 b hb).2, by simp [h3], ?_, ?_, ?_, by show 0 ≤ n - 1; omega, by simp; omega, by simp; omega, by simp; omega, by simp; omega⟩
  · intro b hb
    show 0 ≤ b ∧ b < top + (1 + 100 * x)
    rcases List.mem_append.1 hb with hb | hb
    · have := h2 b hb; omega
    · simp at hb; omega
  · intro r' hr'
    rcases List.mem_append.1 hr' with hb | hb
    · exact h7 r' hb
    · simp at hb; subst hb; exact hr
  · left
    rcases h1 with h | ⟨h, h'⟩
    · cases bs with
      | nil => simp at h
      | cons b bs => simpa using h
    · subst h; subst h'; rfl
theorem Dr.Ok.done {bs rs : List Int} {a : Nat} {sd top n : Int} (D : Dr.Ok ⟨bs, rs, a, sd, top, n⟩) (hn : n = 0) : Scl bs rs ∧ bs.length ≤ 4 ∧ (∀ b ∈ bs, b ≤ 16000) ∧ a ≤ 40 := by
  have h1 := D.head
  have h2 := D.low
  have h3 := D.len
  have h4 := D.all
  have h5 := D.at_
  have h6 := D.cap
  have h7 := D.some
  simp only [] at h1 h2 h3 h4 h5 h6 h7
  refine ⟨⟨D.asc, h3, ?_, by omega, fun b hb => by have := h2 b hb; omega, D.rate⟩, by omega, fun b hb => by have := h2 b hb; omega, by omega⟩
  rcases h1 with h | ⟨h, h'⟩
  · exact h
  · subst h; simp at h7; omega
def resB : Blk := { ty := 34, w := 2, els := [.agg [.nils, .nils]] }
def intB (xs : List Int) : Blk := { ty := 2, w := 1, els := ints xs }
def drSt (code : List Int) (d : Dr) : St := match d.bs with
  | [] => ⟨[.ptr 0 0 0, .any, .ptr 1 0 0, .ptr 2 0 0, .int .i64 d.top, .int .i64 d.n, .any, .any, .any, .any, .any, .any, .any, .any, .any, .any, .any, .any, .any, .any, .any, .any, .any, .any, .any, .any, .any, .any, .any, .any, .any, .any, .any, .any, .any, .any, .any, .any, .any, .any, .any], [srcB code d.a d.sd, resB, resB]⟩
  | _ :: _ => ⟨[.ptr 0 0 0, .any, .ptr 1 0 0, .ptr 2 0 0, .int .i64 d.top, .int .i64 d.n, .any, .any, .any, .any, .any, .any, .any, .any, .any, .any, .any, .any, .any, .any, .any, .any, .any, .any, .any, .any, .any, .any, .any, .any, .any, .any, .any, .any, .any, .any, .any, .any, .any, .any, .any], [srcB code d.a d.sd, resB, { ty := 34, w := 2, els := [.agg [.sl 3 0 d.bs.length, .sl 4 0 d.bs.length]] }, intB d.bs, intB d.rs]⟩

theorem drSt_cons (code : List Int) (d : Dr) (h : d.bs ≠ []) : drSt code d = ⟨[.ptr 0 0 0, .any, .ptr 1 0 0, .ptr 2 0 0, .int .i64 d.top, .int .i64 d.n, .any, .any, .any, .any, .any, .any, .any, .any, .any, .any, .any, .any, .any, .any, .any, .any, .any, .any, .any, .any, .any, .any, .any, .any, .any, .any, .any, .any, .any, .any, .any, .any, .any, .any, .any], [srcB code d.a d.sd, resB, { ty := 34, w := 2, els := [.agg [.sl 3 0 d.bs.length, .sl 4 0 d.bs.length]] }, intB d.bs, intB d.rs]⟩ := by
  obtain ⟨bs, rs, a, sd, top, n⟩ := d
  cases bs with
  | nil => exact absurd rfl h
  | cons b bs => rfl
theorem l02DrawOk_call (code : List Int) (hc : byteL code) (hl : code.length ≤ 1048576) (a : Nat) (ha : a = 0) (sd : Int) :
    CallA Try.prog 56 [.ptr 0 0 0] [srcB code a sd] (fun r hp => ∃ (bs rs : List Int) (a' : Nat) (sd' : Int), (Scl bs rs ∧ bs.length ≤ 4 ∧ ∀ b ∈ bs, b ≤ 16000) ∧ a' ≤ 40 ∧ r = .agg [.sl 1 0 bs.length, .sl 2 0 bs.length] ∧ hp = [srcB code a' sd', intB bs, intB rs]) := by
  subst ha
  refine CallP.out (t := .mk) (go_in (md := md56) mixed Try.func56 rfl go56 (by kernel_rfl) ?_)
  simp only [q0, q1, q2, q3, q4, q5, q6, q7, q8, q9, zq0, zq1, zq2, zq3, zq4, guardSlot, quietA, nilC, nilA, quietB, St.ev, St.put, St.after, Nat.reduceAdd, Nat.reduceSub, ofV, ofL, lenA, binA, intBin, fltBin, strBin, cpxBin, unA, convA, convB, convO, pickV, resL, oneA, indexA, indexS, isQuiet, loadA, loadC, storeA, fieldA, partA, sliceA, boundA, buildA, placeA, setAll, appendA, readSl, newEl, AV.cells, AV.solid, AV.one, kill, killM, killL, notInt, Int.reduceToNat, cond_true, cond_false, ↓reduceIte, reduceCtorEq, Nat.reduceLT, Nat.reduceLeDiff, Nat.reduceMul, Nat.reduceEqDiff, exists_eq', putF, implies_true, exists_true_left, tys0, tys1, tys2, tys3, tys4, und0, und1, und2, und3, md56, Try.ntmps56, Try.results56]
  refine pick_at hc hl (by omega) (by omega) (by omega) (fun x a1 sd1 hx ha1 => ?_)
  have e1 : IntKind.i64.wrap (1 + x) = 1 + x := w64 (by omega) (by omega)
  simp only [q0, q1, q2, q3, q4, q5, q6, q7, q8, q9, zq0, zq1, zq2, zq3, zq4, guardSlot, quietA, nilC, nilA, quietB, St.ev, St.put, St.after, Nat.reduceAdd, Nat.reduceSub, ofV, ofL, lenA, binA, intBin, fltBin, strBin, cpxBin, unA, convA, convB, convO, pickV, resL, oneA, indexA, indexS, isQuiet, loadA, loadC, storeA, fieldA, partA, sliceA, boundA, buildA, placeA, setAll, appendA, readSl, newEl, AV.cells, AV.solid, AV.one, kill, killM, killL, notInt, Int.reduceToNat, cond_true, cond_false, ↓reduceIte, reduceCtorEq, Nat.reduceLT, Nat.reduceLeDiff, Nat.reduceMul, Nat.reduceEqDiff, exists_eq', putF, implies_true, exists_true_left, tys0, tys1, tys2, tys3, tys4, und0, und1, und2, und3, md56, Try.ntmps56, Try.results56, e1]
  refine go_round (md := md56) mixed (by kernel_rfl) (fun d : {d : Dr // d.Ok} => drSt code d.1) (fun d => d.1.n.toNat) ⟨⟨[], [], a1, sd1, 0, 1 + x⟩, ⟨trivial, rfl, by simp, by simp, .inr ⟨rfl, rfl⟩, by show 0 ≤ 1 + x; omega, by show ((0 : Nat) : Int) + (1 + x) ≤ 4; omega, by show 1 ≤ ((0 : Nat) : Int) + (1 + x); omega, by show (a1 : Int) ≤ 2 + 8 * ((0 : Nat) : Int); omega, by show (0 : Int) ≤ 4000 * ((0 : Nat) : Int); omega⟩⟩ ?_ ?_
  · show Weak _ _ ⟨_, _⟩
    exact weak_drop (by simp) (by simp [DropHp, ints_below, flts_below, srcB_below, resB, allBelow_cons, allBelow_nil, below, belowM, belowL]) (by simp [DropTm, DropV, below, belowM, belowL, srcB_below, resB, allBelow_cons, allBelow_nil, below, belowM, belowL])
  · rintro ⟨⟨bs, rs, a, sd, top, n⟩, D⟩
    have D2 := D.all
    have D3 := D.at_
    have D4 := D.cap
    have D5 := D.n0
    simp only [] at D2 D3 D4 D5
    cases bs with
    | nil =>
      simp only [q0, q1, q2, q3, q4, q5, q6, q7, q8, q9, zq0, zq1, zq2, zq3, zq4, guardSlot, quietA, nilC, nilA, quietB, St.ev, St.put, St.after, Nat.reduceAdd, Nat.reduceSub, ofV, ofL, lenA, binA, intBin, fltBin, strBin, cpxBin, unA, convA, convB, convO, pickV, resL, oneA, indexA, indexS, isQuiet, loadA, loadC, storeA, fieldA, partA, sliceA, boundA, buildA, placeA, setAll, appendA, readSl, newEl, AV.cells, AV.solid, AV.one, kill, killM, killL, notInt, Int.reduceToNat, cond_true, cond_false, ↓reduceIte, reduceCtorEq, Nat.reduceLT, Nat.reduceLeDiff, Nat.reduceMul, Nat.reduceEqDiff, exists_eq', putF, implies_true, exists_true_left, tys0, tys1, tys2, tys3, tys4, und0, und1, und2, und3, md56, Try.ntmps56, Try.results56, drSt, resB]
      refine br_intro (fun g => ?_) (fun g => ?_) <;> simp only [q0, q1, q2, q3, q4, q5, q6, q7, q8, q9, zq0, zq1, zq2, zq3, zq4, guardSlot, quietA, nilC, nilA, quietB, St.ev, St.put, St.after, Nat.reduceAdd, Nat.reduceSub, ofV, ofL, lenA, binA, intBin, fltBin, strBin, cpxBin, unA, convA, convB, convO, pickV, resL, oneA, indexA, indexS, isQuiet, loadA, loadC, storeA, fieldA, partA, sliceA, boundA, buildA, placeA, setAll, appendA, readSl, newEl, AV.cells, AV.solid, AV.one, kill, killM, killL, notInt, Int.reduceToNat, cond_true, cond_false, ↓reduceIte, reduceCtorEq, Nat.reduceLT, Nat.reduceLeDiff, Nat.reduceMul, Nat.reduceEqDiff, exists_eq', putF, implies_true, exists_true_left, tys0, tys1, tys2, tys3, tys4, und0, und1, und2, und3, md56, Try.ntmps56, Try.results56, drSt, resB, allW_int, fits, List.isEmpty_cons, brk_false, Nat.reduceMul]
      · have g' := of_decide_eq_true g
        refine pick_at hc hl (by simp at D3; omega) (by omega) (by omega) (fun x1 a1 sd1 hx1 ha1 => ?_)
        have e1 : IntKind.i64.wrap (100 * x1) = 100 * x1 := w64 (by omega) (by omega)
        simp only [q0, q1, q2, q3, q4, q5, q6, q7, q8, q9, zq0, zq1, zq2, zq3, zq4, guardSlot, quietA, nilC, nilA, quietB, St.ev, St.put, St.after, Nat.reduceAdd, Nat.reduceSub, ofV, ofL, lenA, binA, intBin, fltBin, strBin, cpxBin, unA, convA, convB, convO, pickV, resL, oneA, indexA, indexS, isQuiet, loadA, loadC, storeA, fieldA, partA, sliceA, boundA, buildA, placeA, setAll, appendA, readSl, newEl, AV.cells, AV.solid, AV.one, kill, killM, killL, notInt, Int.reduceToNat, cond_true, cond_false, ↓reduceIte, reduceCtorEq, Nat.reduceLT, Nat.reduceLeDiff, Nat.reduceMul, Nat.reduceEqDiff, exists_eq', putF, implies_true, exists_true_left, tys0, tys1, tys2, tys3, tys4, und0, und1, und2, und3, md56, Try.ntmps56, Try.results56, resB, allW_int, fits, List.isEmpty_cons, brk_false, Nat.reduceMul, e1]
        refine one_at hc hl (by simp at D3; omega) (by omega) (by omega) (fun x2 a2 sd2 ha2 => ?_)
        have fin : ∀ (rate : Int) (a3 : Nat) (sd3 : Int), 0 ≤ rate → rate ≤ 10000 → a3 ≤ a2 + 2 → True := by intros; trivial
        simp only [q0, q1, q2, q3, q4, q5, q6, q7, q8, q9, zq0, zq1, zq2, zq3, zq4, guardSlot, quietA, nilC, nilA, quietB, St.ev, St.put, St.after, Nat.reduceAdd, Nat.reduceSub, ofV, ofL, lenA, binA, intBin, fltBin, strBin, cpxBin, unA, convA, convB, convO, pickV, resL, oneA, indexA, indexS, isQuiet, loadA, loadC, storeA, fieldA, partA, sliceA, boundA, buildA, placeA, setAll, appendA, readSl, newEl, AV.cells, AV.solid, AV.one, kill, killM, killL, notInt, Int.reduceToNat, cond_true, cond_false, ↓reduceIte, reduceCtorEq, Nat.reduceLT, Nat.reduceLeDiff, Nat.reduceMul, Nat.reduceEqDiff, exists_eq', putF, implies_true, exists_true_left, tys0, tys1, tys2, tys3, tys4, und0, und1, und2, und3, md56, Try.ntmps56, Try.results56, resB, allW_int, fits, List.isEmpty_cons, brk_false, Nat.reduceMul, e1]
        refine br_intro (fun u => ?_) (fun u => ?_) <;> simp only [q0, q1, q2, q3, q4, q5, q6, q7, q8, q9, zq0, zq1, zq2, zq3, zq4, guardSlot, quietA, nilC, nilA, quietB, St.ev, St.put, St.after, Nat.reduceAdd, Nat.reduceSub, ofV, ofL, lenA, binA, intBin, fltBin, strBin, cpxBin, unA, convA, convB, convO, pickV, resL, oneA, indexA, indexS, isQuiet, loadA, loadC, storeA, fieldA, partA, sliceA, boundA, buildA, placeA, setAll, appendA, readSl, newEl, AV.cells, AV.solid, AV.one, kill, killM, killL, notInt, Int.reduceToNat, cond_true, cond_false, ↓reduceIte, reduceCtorEq, Nat.reduceLT, Nat.reduceLeDiff, Nat.reduceMul, Nat.reduceEqDiff, exists_eq', putF, implies_true, exists_true_left, tys0, tys1, tys2, tys3, tys4, und0, und1, und2, und3, md56, Try.ntmps56, Try.results56, resB, allW_int, fits, List.isEmpty_cons, brk_false, Nat.reduceMul, e1]
        · refine pick_at hc hl (by simp at D3; omega) (by omega) (by omega) (fun x3 a3 sd3 hx3 ha3 => ?_)
          simp only [q0, q1, q2, q3, q4, q5, q6, q7, q8, q9, zq0, zq1, zq2, zq3, zq4, guardSlot, quietA, nilC, nilA, quietB, St.ev, St.put, St.after, Nat.reduceAdd, Nat.reduceSub, ofV, ofL, lenA, binA, intBin, fltBin, strBin, cpxBin, unA, convA, convB, convO, pickV, resL, oneA, indexA, indexS, isQuiet, loadA, loadC, storeA, fieldA, partA, sliceA, boundA, buildA, placeA, setAll, appendA, readSl, newEl, AV.cells, AV.solid, AV.one, kill, killM, killL, notInt, Int.reduceToNat, cond_true, cond_false, ↓reduceIte, reduceCtorEq, Nat.reduceLT, Nat.reduceLeDiff, Nat.reduceMul, Nat.reduceEqDiff, exists_eq', putF, implies_true, exists_true_left, tys0, tys1, tys2, tys3, tys4, und0, und1, und2, und3, md56, Try.ntmps56, Try.results56, resB, allW_int, fits, List.isEmpty_cons, brk_false, Nat.reduceMul, e1]
          refine pick_at hc hl (by simp at D3; omega) (by omega) (by omega) (fun x4 a4 sd4 hx4 ha4 => ?_)
          have w1 : IntKind.i64.wrap (100 * x4) = 100 * x4 := w64 (by omega) (by omega)
          have w2 : IntKind.i64.wrap (1 + 100 * x4) = 1 + 100 * x4 := w64 (by omega) (by omega)
          have w3 : IntKind.i64.wrap (top + (1 + 100 * x4)) = top + (1 + 100 * x4) := w64 (by have := D.top0; simp only [] at this; omega) (by simp at D4; omega)
          have w4 : IntKind.i64.wrap (n - 1) = n - 1 := w64 (by omega) (by omega)
          simp only [q0, q1, q2, q3, q4, q5, q6, q7, q8, q9, zq0, zq1, zq2, zq3, zq4, guardSlot, quietA, nilC, nilA, quietB, St.ev, St.put, St.after, Nat.reduceAdd, Nat.reduceSub, ofV, ofL, lenA, binA, intBin, fltBin, strBin, cpxBin, unA, convA, convB, convO, pickV, resL, oneA, indexA, indexS, isQuiet, loadA, loadC, storeA, fieldA, partA, sliceA, boundA, buildA, placeA, setAll, appendA, readSl, newEl, AV.cells, AV.solid, AV.one, kill, killM, killL, notInt, Int.reduceToNat, cond_true, cond_false, ↓reduceIte, reduceCtorEq, Nat.reduceLT, Nat.reduceLeDiff, Nat.reduceMul, Nat.reduceEqDiff, exists_eq', putF, implies_true, exists_true_left, tys0, tys1, tys2, tys3, tys4, und0, und1, und2, und3, md56, Try.ntmps56, Try.results56, w1, w2, w3, w4]
          refine ⟨⟨⟨[] ++ [top], rs ++ [x3], a4, sd4, _, n - 1⟩, D.next (r := x3) (x := x4) (a' := a4) g' (by omega) hx4 (by omega) sd4⟩, by show (n - 1).toNat < n.toNat; omega, ?_⟩
          have rs0 : rs = [] := by have := D.len; simpa using this
          subst rs0
          show Weak 1 _ ⟨_, _⟩
          exact weak_names [0, 1, 2, 4, 6] (by decide) (by decide) (by decide) (by simp [SubG, renB, ints_ren, ints_below, kint_ren, kint_below, ren, renM, renL, srcB, intB, resB, ints, allBelow_cons, allBelow_nil, below, belowM, belowL]) (by simp [LeTm, LeV, ren, renM, renL, below, belowM, belowL, srcB, intB, resB, ints, allBelow_cons, allBelow_nil, below, belowM, belowL])
        · refine pick_at hc hl (by simp at D3; omega) (by omega) (by omega) (fun x4 a4 sd4 hx4 ha4 => ?_)
          have w1 : IntKind.i64.wrap (100 * x4) = 100 * x4 := w64 (by omega) (by omega)
          have w2 : IntKind.i64.wrap (1 + 100 * x4) = 1 + 100 * x4 := w64 (by omega) (by omega)
          have w3 : IntKind.i64.wrap (top + (1 + 100 * x4)) = top + (1 + 100 * x4) := w64 (by have := D.top0; simp only [] at this; omega) (by simp at D4; omega)
          have w4 : IntKind.i64.wrap (n - 1) = n - 1 := w64 (by omega) (by omega)
          simp only [q0, q1, q2, q3, q4, q5, q6, q7, q8, q9, zq0, zq1, zq2, zq3, zq4, guardSlot, quietA, nilC, nilA, quietB, St.ev, St.put, St.after, Nat.reduceAdd, Nat.reduceSub, ofV, ofL, lenA, binA, intBin, fltBin, strBin, cpxBin, unA, convA, convB, convO, pickV, resL, oneA, indexA, indexS, isQuiet, loadA, loadC, storeA, fieldA, partA, sliceA, boundA, buildA, placeA, setAll, appendA, readSl, newEl, AV.cells, AV.solid, AV.one, kill, killM, killL, notInt, Int.reduceToNat, cond_true, cond_false, ↓reduceIte, reduceCtorEq, Nat.reduceLT, Nat.reduceLeDiff, Nat.reduceMul, Nat.reduceEqDiff, exists_eq', putF, implies_true, exists_true_left, tys0, tys1, tys2, tys3, tys4, und0, und1, und2, und3, md56, Try.ntmps56, Try.results56, w1, w2, w3, w4]
          refine ⟨⟨⟨[] ++ [top], rs ++ [(100 * x1)], a4, sd4, _, n - 1⟩, D.next (r := (100 * x1)) (x := x4) (a' := a4) g' (by omega) hx4 (by omega) sd4⟩, by show (n - 1).toNat < n.toNat; omega, ?_⟩
          have rs0 : rs = [] := by have := D.len; simpa using this
          subst rs0
          show Weak 1 _ ⟨_, _⟩
          exact weak_names [0, 1, 2, 4, 6] (by decide) (by decide) (by decide) (by simp [SubG, renB, ints_ren, ints_below, kint_ren, kint_below, ren, renM, renL, srcB, intB, resB, ints, allBelow_cons, allBelow_nil, below, belowM, belowL]) (by simp [LeTm, LeV, ren, renM, renL, below, belowM, belowL, srcB, intB, resB, ints, allBelow_cons, allBelow_nil, below, belowM, belowL])
      · exfalso
        have := D.some
        simp at this
        have := of_decide_eq_false g
        omega
    | cons b0 bs =>
      have hl2 : rs.length = (b0 :: bs).length := D.len
      have hcap : (b0 :: bs).length ≤ 4 := by omega
      have hne : (b0 :: bs) ≠ [] := by simp
      generalize b0 :: bs = cs at hne hl2 hcap D D2 D3 D4
      rw [drSt_cons code _ hne]
      simp only [q0, q1, q2, q3, q4, q5, q6, q7, q8, q9, zq0, zq1, zq2, zq3, zq4, guardSlot, quietA, nilC, nilA, quietB, St.ev, St.put, St.after, Nat.reduceAdd, Nat.reduceSub, ofV, ofL, lenA, binA, intBin, fltBin, strBin, cpxBin, unA, convA, convB, convO, pickV, resL, oneA, indexA, indexS, isQuiet, loadA, loadC, storeA, fieldA, partA, sliceA, boundA, buildA, placeA, setAll, appendA, readSl, newEl, AV.cells, AV.solid, AV.one, kill, killM, killL, notInt, Int.reduceToNat, cond_true, cond_false, ↓reduceIte, reduceCtorEq, Nat.reduceLT, Nat.reduceLeDiff, Nat.reduceMul, Nat.reduceEqDiff, exists_eq', putF, implies_true, exists_true_left, tys0, tys1, tys2, tys3, tys4, und0, und1, und2, und3, md56, Try.ntmps56, Try.results56, intB]
      refine br_intro (fun g => ?_) (fun g => ?_) <;> simp only [q0, q1, q2, q3, q4, q5, q6, q7, q8, q9, zq0, zq1, zq2, zq3, zq4, guardSlot, quietA, nilC, nilA, quietB, St.ev, St.put, St.after, Nat.reduceAdd, Nat.reduceSub, ofV, ofL, lenA, binA, intBin, fltBin, strBin, cpxBin, unA, convA, convB, convO, pickV, resL, oneA, indexA, indexS, isQuiet, loadA, loadC, storeA, fieldA, partA, sliceA, boundA, buildA, placeA, setAll, appendA, readSl, newEl, AV.cells, AV.solid, AV.one, kill, killM, killL, notInt, Int.reduceToNat, cond_true, cond_false, ↓reduceIte, reduceCtorEq, Nat.reduceLT, Nat.reduceLeDiff, Nat.reduceMul, Nat.reduceEqDiff, exists_eq', putF, implies_true, exists_true_left, tys0, tys1, tys2, tys3, tys4, und0, und1, und2, und3, md56, Try.ntmps56, Try.results56, resB, allW_int, fits, List.isEmpty_cons, brk_false, Nat.reduceMul, hl2, srcB_kill]
      · have g' := of_decide_eq_true g
        refine ⟨by omega, pick_at hc hl (by omega) (by omega) (by omega) (fun x1 a1 sd1 hx1 ha1 => ?_)⟩
        have e1 : IntKind.i64.wrap (100 * x1) = 100 * x1 := w64 (by omega) (by omega)
        simp only [q0, q1, q2, q3, q4, q5, q6, q7, q8, q9, zq0, zq1, zq2, zq3, zq4, guardSlot, quietA, nilC, nilA, quietB, St.ev, St.put, St.after, Nat.reduceAdd, Nat.reduceSub, ofV, ofL, lenA, binA, intBin, fltBin, strBin, cpxBin, unA, convA, convB, convO, pickV, resL, oneA, indexA, indexS, isQuiet, loadA, loadC, storeA, fieldA, partA, sliceA, boundA, buildA, placeA, setAll, appendA, readSl, newEl, AV.cells, AV.solid, AV.one, kill, killM, killL, notInt, Int.reduceToNat, cond_true, cond_false, ↓reduceIte, reduceCtorEq, Nat.reduceLT, Nat.reduceLeDiff, Nat.reduceMul, Nat.reduceEqDiff, exists_eq', putF, implies_true, exists_true_left, tys0, tys1, tys2, tys3, tys4, und0, und1, und2, und3, md56, Try.ntmps56, Try.results56, resB, allW_int, fits, List.isEmpty_cons, brk_false, Nat.reduceMul, e1, srcB_kill]
        refine one_at hc hl (by omega) (by omega) (by omega) (fun x2 a2 sd2 ha2 => ?_)
        simp only [q0, q1, q2, q3, q4, q5, q6, q7, q8, q9, zq0, zq1, zq2, zq3, zq4, guardSlot, quietA, nilC, nilA, quietB, St.ev, St.put, St.after, Nat.reduceAdd, Nat.reduceSub, ofV, ofL, lenA, binA, intBin, fltBin, strBin, cpxBin, unA, convA, convB, convO, pickV, resL, oneA, indexA, indexS, isQuiet, loadA, loadC, storeA, fieldA, partA, sliceA, boundA, buildA, placeA, setAll, appendA, readSl, newEl, AV.cells, AV.solid, AV.one, kill, killM, killL, notInt, Int.reduceToNat, cond_true, cond_false, ↓reduceIte, reduceCtorEq, Nat.reduceLT, Nat.reduceLeDiff, Nat.reduceMul, Nat.reduceEqDiff, exists_eq', putF, implies_true, exists_true_left, tys0, tys1, tys2, tys3, tys4, und0, und1, und2, und3, md56, Try.ntmps56, Try.results56, resB, allW_int, fits, List.isEmpty_cons, brk_false, Nat.reduceMul, e1, srcB_kill]
        refine br_intro (fun u => ?_) (fun u => ?_) <;> simp only [q0, q1, q2, q3, q4, q5, q6, q7, q8, q9, zq0, zq1, zq2, zq3, zq4, guardSlot, quietA, nilC, nilA, quietB, St.ev, St.put, St.after, Nat.reduceAdd, Nat.reduceSub, ofV, ofL, lenA, binA, intBin, fltBin, strBin, cpxBin, unA, convA, convB, convO, pickV, resL, oneA, indexA, indexS, isQuiet, loadA, loadC, storeA, fieldA, partA, sliceA, boundA, buildA, placeA, setAll, appendA, readSl, newEl, AV.cells, AV.solid, AV.one, kill, killM, killL, notInt, Int.reduceToNat, cond_true, cond_false, ↓reduceIte, reduceCtorEq, Nat.reduceLT, Nat.reduceLeDiff, Nat.reduceMul, Nat.reduceEqDiff, exists_eq', putF, implies_true, exists_true_left, tys0, tys1, tys2, tys3, tys4, und0, und1, und2, und3, md56, Try.ntmps56, Try.results56, resB, allW_int, fits, List.isEmpty_cons, brk_false, Nat.reduceMul, e1, srcB_kill]
        · refine pick_at hc hl (by omega) (by omega) (by omega) (fun x3 a3 sd3 hx3 ha3 => ?_)
          simp only [q0, q1, q2, q3, q4, q5, q6, q7, q8, q9, zq0, zq1, zq2, zq3, zq4, guardSlot, quietA, nilC, nilA, quietB, St.ev, St.put, St.after, Nat.reduceAdd, Nat.reduceSub, ofV, ofL, lenA, binA, intBin, fltBin, strBin, cpxBin, unA, convA, convB, convO, pickV, resL, oneA, indexA, indexS, isQuiet, loadA, loadC, storeA, fieldA, partA, sliceA, boundA, buildA, placeA, setAll, appendA, readSl, newEl, AV.cells, AV.solid, AV.one, kill, killM, killL, notInt, Int.reduceToNat, cond_true, cond_false, ↓reduceIte, reduceCtorEq, Nat.reduceLT, Nat.reduceLeDiff, Nat.reduceMul, Nat.reduceEqDiff, exists_eq', putF, implies_true, exists_true_left, tys0, tys1, tys2, tys3, tys4, und0, und1, und2, und3, md56, Try.ntmps56, Try.results56, resB, allW_int, fits, List.isEmpty_cons, brk_false, Nat.reduceMul, e1, hl2, srcB_kill]
          refine ⟨by omega, pick_at hc hl (by omega) (by omega) (by omega) (fun x4 a4 sd4 hx4 ha4 => ?_)⟩
          have w1 : IntKind.i64.wrap (100 * x4) = 100 * x4 := w64 (by omega) (by omega)
          have w2 : IntKind.i64.wrap (1 + 100 * x4) = 1 + 100 * x4 := w64 (by omega) (by omega)
          have w3 : IntKind.i64.wrap (top + (1 + 100 * x4)) = top + (1 + 100 * x4) := w64 (by have := D.top0; simp only [] at this; omega) (by omega)
          have w4 : IntKind.i64.wrap (n - 1) = n - 1 := w64 (by omega) (by omega)
          simp only [q0, q1, q2, q3, q4, q5, q6, q7, q8, q9, zq0, zq1, zq2, zq3, zq4, guardSlot, quietA, nilC, nilA, quietB, St.ev, St.put, St.after, Nat.reduceAdd, Nat.reduceSub, ofV, ofL, lenA, binA, intBin, fltBin, strBin, cpxBin, unA, convA, convB, convO, pickV, resL, oneA, indexA, indexS, isQuiet, loadA, loadC, storeA, fieldA, partA, sliceA, boundA, buildA, placeA, setAll, appendA, readSl, newEl, AV.cells, AV.solid, AV.one, kill, killM, killL, notInt, Int.reduceToNat, cond_true, cond_false, ↓reduceIte, reduceCtorEq, Nat.reduceLT, Nat.reduceLeDiff, Nat.reduceMul, Nat.reduceEqDiff, exists_eq', putF, implies_true, exists_true_left, tys0, tys1, tys2, tys3, tys4, und0, und1, und2, und3, md56, Try.ntmps56, Try.results56, w1, w2, w3, w4, srcB_kill]
          refine ⟨⟨⟨cs ++ [top], rs ++ [x3], a4, sd4, _, n - 1⟩, D.next (r := x3) (x := x4) (a' := a4) g' (by omega) hx4 (by omega) sd4⟩, by show (n - 1).toNat < n.toNat; omega, ?_⟩
          rw [drSt_cons code _ (by simp)]
          exact weak_names [0, 1, 2, 3, 4] (by decide) (by decide) (by decide) (by simp [SubG, renB, ints_ren, ints_below, kint_ren, kint_below, ren, renM, renL, srcB, intB, resB, allBelow_cons, allBelow_nil, below, belowM, belowL, hl2]) (by simp [LeTm, LeV, ren, renM, renL, below, belowM, belowL, srcB, intB, resB, allBelow_cons, allBelow_nil, below, belowM, belowL, hl2])
        · refine ⟨by omega, by omega, pick_at hc hl (by omega) (by omega) (by omega) (fun x4 a4 sd4 hx4 ha4 => ?_)⟩
          have w1 : IntKind.i64.wrap (100 * x4) = 100 * x4 := w64 (by omega) (by omega)
          have w2 : IntKind.i64.wrap (1 + 100 * x4) = 1 + 100 * x4 := w64 (by omega) (by omega)
          have w3 : IntKind.i64.wrap (top + (1 + 100 * x4)) = top + (1 + 100 * x4) := w64 (by have := D.top0; simp only [] at this; omega) (by omega)
          have w4 : IntKind.i64.wrap (n - 1) = n - 1 := w64 (by omega) (by omega)
          simp only [q0, q1, q2, q3, q4, q5, q6, q7, q8, q9, zq0, zq1, zq2, zq3, zq4, guardSlot, quietA, nilC, nilA, quietB, St.ev, St.put, St.after, Nat.reduceAdd, Nat.reduceSub, ofV, ofL, lenA, binA, intBin, fltBin, strBin, cpxBin, unA, convA, convB, convO, pickV, resL, oneA, indexA, indexS, isQuiet, loadA, loadC, storeA, fieldA, partA, sliceA, boundA, buildA, placeA, setAll, appendA, readSl, newEl, AV.cells, AV.solid, AV.one, kill, killM, killL, notInt, Int.reduceToNat, cond_true, cond_false, ↓reduceIte, reduceCtorEq, Nat.reduceLT, Nat.reduceLeDiff, Nat.reduceMul, Nat.reduceEqDiff, exists_eq', putF, implies_true, exists_true_left, tys0, tys1, tys2, tys3, tys4, und0, und1, und2, und3, md56, Try.ntmps56, Try.results56, w1, w2, w3, w4, srcB_kill]
          refine ⟨⟨⟨cs ++ [top], rs ++ [(100 * x1)], a4, sd4, _, n - 1⟩, D.next (r := (100 * x1)) (x := x4) (a' := a4) g' (by omega) hx4 (by omega) sd4⟩, by show (n - 1).toNat < n.toNat; omega, ?_⟩
          rw [drSt_cons code _ (by simp)]
          exact weak_names [0, 1, 2, 3, 4] (by decide) (by decide) (by decide) (by simp [SubG, renB, ints_ren, ints_below, kint_ren, kint_below, ren, renM, renL, srcB, intB, resB, allBelow_cons, allBelow_nil, below, belowM, belowL, hl2]) (by simp [LeTm, LeV, ren, renM, renL, below, belowM, belowL, srcB, intB, resB, allBelow_cons, allBelow_nil, below, belowM, belowL, hl2])
      · have g' := of_decide_eq_false g
        obtain ⟨f1, f2, f3, f4⟩ := D.done (by omega)
        exact PostR.tell [0, 3, 4] (hp2 := [srcB code a sd, intB cs, intB rs]) (by decide) (by decide) (by decide) (by simp [SubG, renB, ints_ren, ints_below, srcB, intB, allBelow_cons, allBelow_nil, below, belowM, belowL, ren, renM, renL]) rfl rfl ⟨cs, rs, a, sd, ⟨f1, f2, f3⟩, f4, rfl, rfl⟩
end Go.Proofs.Ytdlddnnnfjnabaa
