/- The law on texts of rules. -/
import Derived.Test.YtigipcckflcilaaGreatDoorRtC
import Derived.Test.YtigipcckflcilaaGreatDoorSmA
set_option maxRecDepth 10000
set_option maxHeartbeats 8000000
set_option linter.unusedSimpArgs false
set_option linter.unusedVariables false
namespace Go.Proofs.YtigipcckflcilaaGreatDoor
open Go Go.Abs

def rulesN (o : Option (List Rul)) : AV := match o with
  | some R => .tup [.ro (R.map rulN), .bool true]
  | none => .tup [.nils, .bool false]
def ruleN (o : Option Rul) : AV := match o with
  | some r => .tup [rulN r, .bool true]
  | none => .tup [rul0, .bool false]
theorem implReadRulesN (s : List UInt8) (hs : s.length ≤ 1048576) : CallA Tryz.prog 19 [.str s] [] (Ret (rulesN (rulesOf s)) []) := by
  refine (implReadRules_call s hs).frozen 4 ?_
  cases rulesOf s with
  | none => rfl
  | some R =>
    show AV.tup [view 3 (encR 0 R) (.sl 0 0 R.length), .bool true] = _
    rw [(hasR_0 R).view 0]
    rfl
theorem specReadRulesN (s : List UInt8) (hs : s.length ≤ 1048576) : CallA Tryz.prog 24 [.str s] [] (Ret (rulesN (rulesOf s)) []) := by
  refine (specReadRules_call s hs).frozen 4 ?_
  cases rulesOf s with
  | none => rfl
  | some R =>
    show AV.tup [view 3 (encR 0 R) (.sl 0 0 R.length), .bool true] = _
    rw [(hasR_0 R).view 0]
    rfl
theorem implReadRuleN (s : List UInt8) (hs : s.length ≤ 1048576) : CallA Tryz.prog 22 [.str s] [] (Ret (ruleN (ruleOf s)) []) := by
  refine (implReadRule_call s hs).frozen 3 ?_
  cases ruleOf s with
  | none => rfl
  | some r =>
    show AV.tup [view 2 [ifsB r] (rulV 0 r), .bool true] = _
    rw [rulV_view 0 (hp := [ifsB r]) rfl]
    rfl
theorem rulA_nilD (d : Nat) (r : Rul) : nilD (d + 2) (rulA r) = rulA r := by
  have e : nilD (d + 2) (rulA r) = .agg [.int .i64 r.1, .ro ((ints r.2.1).map (nilD d)), .int .i64 r.2.2.1, .int .i64 r.2.2.2.1, .int .i64 r.2.2.2.2] := rfl
  rw [e, nilD_ints]; rfl
theorem rulAs_nilD (d : Nat) (R : List Rul) : (R.map rulA).map (nilD (d + 2)) = R.map rulA := by
  rw [List.map_map]
  exact List.map_congr_left fun r _ => rulA_nilD d r
theorem lent_NA (hp : List Blk) (R S : List Rul) : ([AV.ro (R.map rulN), .ro (S.map rulA)].map (view 3 hp)).map (nilD 3) = [.ro (R.map rulA), .ro (S.map rulA)] := by
  show [AV.ro ((R.map rulN).map (nilD 2)), .ro ((S.map rulA).map (nilD 2))] = _
  rw [rulNs_nil 0, rulAs_nilD 0]
theorem lent_NN (hp : List Blk) (R S : List Rul) : ([AV.ro (R.map rulN), .ro (S.map rulN)].map (view 3 hp)).map (nilD 3) = [.ro (R.map rulA), .ro (S.map rulA)] := by
  show [AV.ro ((R.map rulN).map (nilD 2)), .ro ((S.map rulN).map (nilD 2))] = _
  rw [rulNs_nil 0, rulNs_nil 0]
theorem rulN_cases (r : Rul) : ∃ V : AV, (V = .nils ∨ V = .ro (ints r.2.1)) ∧ rulN r = .agg [.int .i64 r.1, V, .int .i64 r.2.2.1, .int .i64 r.2.2.2.1, .int .i64 r.2.2.2.2] :=
  ⟨if r.2.1.length = 0 then .nils else .ro (ints r.2.1), by split; exact .inl rfl; exact .inr rfl, rfl⟩
theorem ruleTexts_list (cd m : List Int) (hc : byteL cd) (hm : byteL m) (l1 : cd.length ≤ 1048576) (l2 : m.length ≤ 1048576) (big : (decide (1048576 < (cd.length : Int)) || decide (1048576 < (m.length : Int))) = false) : CallA Tryz.prog 4 [.ro (kint .u8 cd), .ro (kint .u8 m)] [] (Ret (.bool true) []) := by
  have bl := b10Long_call cd m
  rw [big] at bl
  refine CallP.out (t := .mk) (go_in (md := md4) mixed Tryz.func4 rfl go4 (by kernel_rfl) ?_)
  simp only [q0, q1, q2, q3, q4, q5, q6, q7, q8, q9, zq0, zq1, zq2, zq3, zq4, guardSlot, quietA, nilC, nilA, quietB, St.ev, St.put, St.after, Nat.reduceAdd, Nat.reduceSub, ofV, ofL, lenA, binA, intBin, fltBin, strBin, cpxBin, unA, convA, convB, convO, pickV, resL, oneA, indexA, indexS, isQuiet, loadA, loadC, storeA, fieldA, partA, sliceA, boundA, buildA, placeA, setAll, appendA, readSl, newEl, AV.cells, AV.solid, AV.one, kill, killM, killL, notInt, Int.reduceToNat, cond_true, cond_false, ↓reduceIte, reduceCtorEq, Nat.reduceLT, Nat.reduceLeDiff, Nat.reduceMul, Nat.reduceEqDiff, exists_eq', putF, implies_true, exists_true_left, tys0, tys1, tys2, und0, und1, md4, Tryz.ntmps4, Tryz.results4]
  refine call_ret bl rfl rfl ?_
  simp only [q0, q1, q2, q3, q4, q5, q6, q7, q8, q9, zq0, zq1, zq2, zq3, zq4, guardSlot, quietA, nilC, nilA, quietB, St.ev, St.put, St.after, Nat.reduceAdd, Nat.reduceSub, ofV, ofL, lenA, binA, intBin, fltBin, strBin, cpxBin, unA, convA, convB, convO, pickV, resL, oneA, indexA, indexS, isQuiet, loadA, loadC, storeA, fieldA, partA, sliceA, boundA, buildA, placeA, setAll, appendA, readSl, newEl, AV.cells, AV.solid, AV.one, kill, killM, killL, notInt, Int.reduceToNat, cond_true, cond_false, ↓reduceIte, reduceCtorEq, Nat.reduceLT, Nat.reduceLeDiff, Nat.reduceMul, Nat.reduceEqDiff, exists_eq', putF, implies_true, exists_true_left, tys0, tys1, tys2, und0, und1, md4, Tryz.ntmps4, Tryz.results4]
  refine call_by (b10Rules_call cd hc l1) ?_
  rintro r hp ⟨L, hL, h8, rfl, rfl⟩
  have hB : rulesB L = true := by
    unfold rulesB
    rw [decide_eq_true (by omega), Bool.and_true, List.all_eq_true]
    exact hL
  have len6 : ∀ r ∈ L, r.2.1.length ≤ 1048576 := fun r hr => by have := (okV_of (hL r hr)).n; omega
  have tl := rulesT_le hL
  have it := implRulesText_call L (by omega) len6
  rw [hB, if_pos rfl] at it
  have st := specRulesText_call L hB
  have ro : rulesOf (rulesT L) = some L := rulesOf_iff.2 ⟨hB, rfl⟩
  have ir := implReadRulesN (rulesT L) (by omega)
  rw [ro] at ir
  have sr := specRules_call L L (by omega) len6 (by omega)
  rw [decide_eq_true rfl] at sr
  simp only [q0, q1, q2, q3, q4, q5, q6, q7, q8, q9, zq0, zq1, zq2, zq3, zq4, guardSlot, quietA, nilC, nilA, quietB, St.ev, St.put, St.after, Nat.reduceAdd, Nat.reduceSub, ofV, ofL, lenA, binA, intBin, fltBin, strBin, cpxBin, unA, convA, convB, convO, pickV, resL, oneA, indexA, indexS, isQuiet, loadA, loadC, storeA, fieldA, partA, sliceA, boundA, buildA, placeA, setAll, appendA, readSl, newEl, AV.cells, AV.solid, AV.one, kill, killM, killL, notInt, Int.reduceToNat, cond_true, cond_false, ↓reduceIte, reduceCtorEq, Nat.reduceLT, Nat.reduceLeDiff, Nat.reduceMul, Nat.reduceEqDiff, exists_eq', putF, implies_true, exists_true_left, tys0, tys1, tys2, und0, und1, md4, Tryz.ntmps4, Tryz.results4]
  refine call_ret it rfl rfl ?_
  simp only [q0, q1, q2, q3, q4, q5, q6, q7, q8, q9, zq0, zq1, zq2, zq3, zq4, guardSlot, quietA, nilC, nilA, quietB, St.ev, St.put, St.after, Nat.reduceAdd, Nat.reduceSub, ofV, ofL, lenA, binA, intBin, fltBin, strBin, cpxBin, unA, convA, convB, convO, pickV, resL, oneA, indexA, indexS, isQuiet, loadA, loadC, storeA, fieldA, partA, sliceA, boundA, buildA, placeA, setAll, appendA, readSl, newEl, AV.cells, AV.solid, AV.one, kill, killM, killL, notInt, Int.reduceToNat, cond_true, cond_false, ↓reduceIte, reduceCtorEq, Nat.reduceLT, Nat.reduceLeDiff, Nat.reduceMul, Nat.reduceEqDiff, exists_eq', putF, implies_true, exists_true_left, tys0, tys1, tys2, und0, und1, md4, Tryz.ntmps4, Tryz.results4]
  refine call_ret st rfl rfl ?_
  simp only [q0, q1, q2, q3, q4, q5, q6, q7, q8, q9, zq0, zq1, zq2, zq3, zq4, guardSlot, quietA, nilC, nilA, quietB, St.ev, St.put, St.after, Nat.reduceAdd, Nat.reduceSub, ofV, ofL, lenA, binA, intBin, fltBin, strBin, cpxBin, unA, convA, convB, convO, pickV, resL, oneA, indexA, indexS, isQuiet, loadA, loadC, storeA, fieldA, partA, sliceA, boundA, buildA, placeA, setAll, appendA, readSl, newEl, AV.cells, AV.solid, AV.one, kill, killM, killL, notInt, Int.reduceToNat, cond_true, cond_false, ↓reduceIte, reduceCtorEq, Nat.reduceLT, Nat.reduceLeDiff, Nat.reduceMul, Nat.reduceEqDiff, exists_eq', putF, implies_true, exists_true_left, tys0, tys1, tys2, und0, und1, md4, Tryz.ntmps4, Tryz.results4]
  refine call_ret (r := .tup [.ro (L.map rulN), .bool true]) ir rfl rfl ?_
  have b0 : (!(rulesT L == rulesT L)) = false := by rw [beq_self_eq_true]; rfl
  simp only [q0, q1, q2, q3, q4, q5, q6, q7, q8, q9, zq0, zq1, zq2, zq3, zq4, guardSlot, quietA, nilC, nilA, quietB, St.ev, St.put, St.after, Nat.reduceAdd, Nat.reduceSub, ofV, ofL, lenA, binA, intBin, fltBin, strBin, cpxBin, unA, convA, convB, convO, pickV, resL, oneA, indexA, indexS, isQuiet, loadA, loadC, storeA, fieldA, partA, sliceA, boundA, buildA, placeA, setAll, appendA, readSl, newEl, AV.cells, AV.solid, AV.one, kill, killM, killL, notInt, Int.reduceToNat, cond_true, cond_false, ↓reduceIte, reduceCtorEq, Nat.reduceLT, Nat.reduceLeDiff, Nat.reduceMul, Nat.reduceEqDiff, exists_eq', putF, implies_true, exists_true_left, tys0, tys1, tys2, und0, und1, md4, Tryz.ntmps4, Tryz.results4, b0]
  refine call_lentN 3 3 (lent_NA _ L L) sr rfl rfl ?_
  simp only [q0, q1, q2, q3, q4, q5, q6, q7, q8, q9, zq0, zq1, zq2, zq3, zq4, guardSlot, quietA, nilC, nilA, quietB, St.ev, St.put, St.after, Nat.reduceAdd, Nat.reduceSub, ofV, ofL, lenA, binA, intBin, fltBin, strBin, cpxBin, unA, convA, convB, convO, pickV, resL, oneA, indexA, indexS, isQuiet, loadA, loadC, storeA, fieldA, partA, sliceA, boundA, buildA, placeA, setAll, appendA, readSl, newEl, AV.cells, AV.solid, AV.one, kill, killM, killL, notInt, Int.reduceToNat, cond_true, cond_false, ↓reduceIte, reduceCtorEq, Nat.reduceLT, Nat.reduceLeDiff, Nat.reduceMul, Nat.reduceEqDiff, exists_eq', putF, implies_true, exists_true_left, tys0, tys1, tys2, und0, und1, md4, Tryz.ntmps4, Tryz.results4, List.length_map]
  refine go_round (md := md4) mixed (by kernel_rfl) (fun i : {i : Nat // i ≤ L.length} => ⟨[.any, .ro (kint .u8 m), .any, .any, .any, .ro (L.map rulA), .str (rulesT L), .any, .any, .any, .any, .any, .int .i64 (((rulesT (L.take i.1)).length : Nat) : Int), .any, .any, .any, .any, .any, .any, .any, .any, .any, .any, .any, .any, .any, .any, .any, .any, .any, .any, .any, .any, .any, .any, .any, .any, .any, .any, .any, .any, .any, .any, .any, .any, .any, .any, .any, .any, .any, .any, .any, .any, .any, .any, .any, .any, .any, .any, .any, .any, .any, .any, .any, .any, .int .i64 L.length, .int .i64 i.1, .any, .any, .any, .any, .any, .any, .any, .any, .any, .any, .any, .any, .any, .any, .any, .any, .any, .any, .any, .any, .any, .any, .any, .any, .any, .any, .any, .any, .any, .any, .any, .any, .any, .any, .any, .any, .any, .any, .any, .any, .any, .any, .any, .any, .any, .any, .any, .any, .any, .any, .any, .any, .any, .any, .any, .any, .any, .any, .any, .any, .any, .any, .any, .any, .any, .any, .any, .any, .any, .any, .any, .any, .any, .any, .any, .any, .any, .any, .any, .any, .any, .any, .any, .any, .any, .any, .any, .any, .any], []⟩) (fun i => L.length - i.1) ⟨0, Nat.zero_le _⟩ ?_ ?_
  · refine weak_same rfl ?_
    simp [SameTm, rulesT]
  rintro ⟨i, hi⟩
  dsimp only
  simp only [q0, q1, q2, q3, q4, q5, q6, q7, q8, q9, zq0, zq1, zq2, zq3, zq4, guardSlot, quietA, nilC, nilA, quietB, St.ev, St.put, St.after, Nat.reduceAdd, Nat.reduceSub, ofV, ofL, lenA, binA, intBin, fltBin, strBin, cpxBin, unA, convA, convB, convO, pickV, resL, oneA, indexA, indexS, isQuiet, loadA, loadC, storeA, fieldA, partA, sliceA, boundA, buildA, placeA, setAll, appendA, readSl, newEl, AV.cells, AV.solid, AV.one, kill, killM, killL, notInt, Int.reduceToNat, cond_true, cond_false, ↓reduceIte, reduceCtorEq, Nat.reduceLT, Nat.reduceLeDiff, Nat.reduceMul, Nat.reduceEqDiff, exists_eq', putF, implies_true, exists_true_left, tys0, tys1, tys2, und0, und1, md4, Tryz.ntmps4, Tryz.results4, List.length_map, List.getElem_map]
  refine br_intro (fun g => ?_) (fun g => ?_) <;> simp only [q0, q1, q2, q3, q4, q5, q6, q7, q8, q9, zq0, zq1, zq2, zq3, zq4, guardSlot, quietA, nilC, nilA, quietB, St.ev, St.put, St.after, Nat.reduceAdd, Nat.reduceSub, ofV, ofL, lenA, binA, intBin, fltBin, strBin, cpxBin, unA, convA, convB, convO, pickV, resL, oneA, indexA, indexS, isQuiet, loadA, loadC, storeA, fieldA, partA, sliceA, boundA, buildA, placeA, setAll, appendA, readSl, newEl, AV.cells, AV.solid, AV.one, kill, killM, killL, notInt, Int.reduceToNat, cond_true, cond_false, ↓reduceIte, reduceCtorEq, Nat.reduceLT, Nat.reduceLeDiff, Nat.reduceMul, Nat.reduceEqDiff, exists_eq', putF, implies_true, exists_true_left, tys0, tys1, tys2, und0, und1, md4, Tryz.ntmps4, Tryz.results4, List.length_map, List.getElem_map]
  · have g : i < L.length := by have := of_decide_eq_true g; omega
    have gi : (i : Int) < (L.length : Int) := by omega
    have hb := hL _ (List.getElem_mem g)
    have k6 := len6 _ (List.getElem_mem g)
    have t1 := implRuleText_call L[i] k6
    rw [hb, if_pos rfl] at t1
    have rl := ruleT_len (okR_of hb)
    have t2 := implReadRuleN (ruleT L[i]) (by omega)
    rw [ruleOf_ruleT hb] at t2
    have t3 := validRule_call L[i] k6
    rw [hb] at t3
    have t4 := specRules_call [L[i]] [L[i]] (by simp) (fun r hr => by rw [List.mem_singleton.1 hr]; exact k6) (by simp)
    rw [decide_eq_true rfl] at t4
    have E0 : ∀ h, (L.map rulA)[i]'h = .agg [.int .i64 L[i].1, .ro (ints L[i].2.1), .int .i64 L[i].2.2.1, .int .i64 L[i].2.2.2.1, .int .i64 L[i].2.2.2.2] := fun h => by rw [List.getElem_map]; rfl
    have sn : (rulesT (L.take (i + 1))).length = (rulesT (L.take i)).length + ((ruleT L[i]).length + 1) := by
      rw [List.take_succ_eq_append_getElem g, rulesT_snoc, List.length_append, List.length_append]; rfl
    have c3 : ∀ B : Blk, CallA Tryz.prog 23 [rulA L[i]] [B] (Ret (.bool true) [B]) := fun B => call_view 3 (by rw [List.map_cons, List.map_nil, rul_view]; exact t3) rfl rfl
    have c4 : ∀ B : Blk, CallA Tryz.prog 20 [.ro [rulN L[i]], .ro [rulA L[i]]] [B] (Ret (.bool true) [B]) := fun B => call_view 3 (CallA.nil 3 (lent_NA _ [L[i]] [L[i]]) t4) rfl rfl
    have t2 : CallA Tryz.prog 22 [.str (ruleT L[i])] [] (Ret (.tup [rulN L[i], .bool true]) []) := t2
    obtain ⟨V, hV, rn⟩ := rulN_cases L[i]
    rw [rn] at t2 c4
    unfold rulA at t1 c3 c4
    have tk := rulesT_le (R := L.take i) (fun r hr => hL r (List.mem_of_mem_take hr))
    rw [List.length_take] at tk
    have wl : IntKind.i64.wrap ((((rulesT (L.take i)).length : Nat) : Int) + IntKind.i64.wrap (((ruleT L[i]).length : Int) + 1)) = (((rulesT (L.take (i + 1))).length : Nat) : Int) := by
      rw [w64 (n := ((ruleT L[i]).length : Int) + 1) (by omega) (by omega), w64 (by omega) (by omega), sn]; omega
    simp only [q0, q1, q2, q3, q4, q5, q6, q7, q8, q9, zq0, zq1, zq2, zq3, zq4, guardSlot, quietA, nilC, nilA, quietB, St.ev, St.put, St.after, Nat.reduceAdd, Nat.reduceSub, ofV, ofL, lenA, binA, intBin, fltBin, strBin, cpxBin, unA, convA, convB, convO, pickV, resL, oneA, indexA, indexS, isQuiet, loadA, loadC, storeA, fieldA, partA, sliceA, boundA, buildA, placeA, setAll, appendA, readSl, newEl, AV.cells, AV.solid, AV.one, kill, killM, killL, notInt, Int.reduceToNat, cond_true, cond_false, ↓reduceIte, reduceCtorEq, Nat.reduceLT, Nat.reduceLeDiff, Nat.reduceMul, Nat.reduceEqDiff, exists_eq', putF, implies_true, exists_true_left, tys0, tys1, tys2, und0, und1, md4, Tryz.ntmps4, Tryz.results4, List.length_map, List.getElem_map, rulA, g, gi]
    refine call_ret t1 rfl rfl ?_
    simp only [q0, q1, q2, q3, q4, q5, q6, q7, q8, q9, zq0, zq1, zq2, zq3, zq4, guardSlot, quietA, nilC, nilA, quietB, St.ev, St.put, St.after, Nat.reduceAdd, Nat.reduceSub, ofV, ofL, lenA, binA, intBin, fltBin, strBin, cpxBin, unA, convA, convB, convO, pickV, resL, oneA, indexA, indexS, isQuiet, loadA, loadC, storeA, fieldA, partA, sliceA, boundA, buildA, placeA, setAll, appendA, readSl, newEl, AV.cells, AV.solid, AV.one, kill, killM, killL, notInt, Int.reduceToNat, cond_true, cond_false, ↓reduceIte, reduceCtorEq, Nat.reduceLT, Nat.reduceLeDiff, Nat.reduceMul, Nat.reduceEqDiff, exists_eq', putF, implies_true, exists_true_left, tys0, tys1, tys2, und0, und1, md4, Tryz.ntmps4, Tryz.results4, List.length_map, List.getElem_map, rulA, g, gi]
    rcases hV with rfl | rfl
    · refine call_ret t2 rfl rfl ?_
      simp only [q0, q1, q2, q3, q4, q5, q6, q7, q8, q9, zq0, zq1, zq2, zq3, zq4, guardSlot, quietA, nilC, nilA, quietB, St.ev, St.put, St.after, Nat.reduceAdd, Nat.reduceSub, ofV, ofL, lenA, binA, intBin, fltBin, strBin, cpxBin, unA, convA, convB, convO, pickV, resL, oneA, indexA, indexS, isQuiet, loadA, loadC, storeA, fieldA, partA, sliceA, boundA, buildA, placeA, setAll, appendA, readSl, newEl, AV.cells, AV.solid, AV.one, kill, killM, killL, notInt, Int.reduceToNat, cond_true, cond_false, ↓reduceIte, reduceCtorEq, Nat.reduceLT, Nat.reduceLeDiff, Nat.reduceMul, Nat.reduceEqDiff, exists_eq', putF, implies_true, exists_true_left, tys0, tys1, tys2, und0, und1, md4, Tryz.ntmps4, Tryz.results4, List.length_map, List.getElem_map, rulA, g, gi]
      refine go_late mixed 16 0 (by rfl) (List.range 25) (List.replicate 25 false) (List.replicate 25 false) (by kernel_rfl) ?_
      iterate 11 (refine ol_quiet (by rfl) (by rfl) (by rfl) (by rfl) ?_; simp only [q0, q1, q2, q3, q4, q5, q6, q7, q8, q9, zq0, zq1, zq2, zq3, zq4, guardSlot, quietA, nilC, nilA, quietB, St.ev, St.put, St.after, Nat.reduceAdd, Nat.reduceSub, ofV, ofL, lenA, binA, intBin, fltBin, strBin, cpxBin, unA, convA, convB, convO, pickV, resL, oneA, indexA, indexS, isQuiet, loadA, loadC, storeA, fieldA, partA, sliceA, boundA, buildA, placeA, setAll, appendA, readSl, newEl, AV.cells, AV.solid, AV.one, kill, killM, killL, notInt, Int.reduceToNat, cond_true, cond_false, ↓reduceIte, reduceCtorEq, Nat.reduceLT, Nat.reduceLeDiff, Nat.reduceMul, Nat.reduceEqDiff, exists_eq', putF, implies_true, exists_true_left, tys0, tys1, tys2, und0, und1, md4, Tryz.ntmps4, Tryz.results4, List.length_map, List.getElem_map, rulA, g, gi])
      refine ol_call (by rfl) (by rfl) (by rfl) (by rfl) (by rfl) (by rfl) (c3 _) ?_
      simp only [q0, q1, q2, q3, q4, q5, q6, q7, q8, q9, zq0, zq1, zq2, zq3, zq4, guardSlot, quietA, nilC, nilA, quietB, St.ev, St.put, St.after, Nat.reduceAdd, Nat.reduceSub, ofV, ofL, lenA, binA, intBin, fltBin, strBin, cpxBin, unA, convA, convB, convO, pickV, resL, oneA, indexA, indexS, isQuiet, loadA, loadC, storeA, fieldA, partA, sliceA, boundA, buildA, placeA, setAll, appendA, readSl, newEl, AV.cells, AV.solid, AV.one, kill, killM, killL, notInt, Int.reduceToNat, cond_true, cond_false, ↓reduceIte, reduceCtorEq, Nat.reduceLT, Nat.reduceLeDiff, Nat.reduceMul, Nat.reduceEqDiff, exists_eq', putF, implies_true, exists_true_left, tys0, tys1, tys2, und0, und1, md4, Tryz.ntmps4, Tryz.results4, List.length_map, List.getElem_map, rulA, g, gi]
      iterate 4 (refine ol_quiet (by rfl) (by rfl) (by rfl) (by rfl) ?_; simp only [q0, q1, q2, q3, q4, q5, q6, q7, q8, q9, zq0, zq1, zq2, zq3, zq4, guardSlot, quietA, nilC, nilA, quietB, St.ev, St.put, St.after, Nat.reduceAdd, Nat.reduceSub, ofV, ofL, lenA, binA, intBin, fltBin, strBin, cpxBin, unA, convA, convB, convO, pickV, resL, oneA, indexA, indexS, isQuiet, loadA, loadC, storeA, fieldA, partA, sliceA, boundA, buildA, placeA, setAll, appendA, readSl, newEl, AV.cells, AV.solid, AV.one, kill, killM, killL, notInt, Int.reduceToNat, cond_true, cond_false, ↓reduceIte, reduceCtorEq, Nat.reduceLT, Nat.reduceLeDiff, Nat.reduceMul, Nat.reduceEqDiff, exists_eq', putF, implies_true, exists_true_left, tys0, tys1, tys2, und0, und1, md4, Tryz.ntmps4, Tryz.results4, List.length_map, List.getElem_map, rulA, g, gi])
      refine ol_fresh (by rfl) (by rfl) (by rfl) (by rfl) { ty := 48, w := 5, els := [.agg [.int .i64 L[i].1, .nils, .int .i64 L[i].2.2.1, .int .i64 L[i].2.2.2.1, .int .i64 L[i].2.2.2.2]] } 3 (.sl 0 0 1) rfl rfl ?_ rfl ?_ ?_
      · intro b hb'
        have hb2 : b ∈ [_] := hb'
        rw [List.mem_singleton.1 hb2]
        rfl
      · simp only [q0, q1, q2, q3, q4, q5, q6, q7, q8, q9, zq0, zq1, zq2, zq3, zq4, guardSlot, quietA, nilC, nilA, quietB, St.ev, St.put, St.after, Nat.reduceAdd, Nat.reduceSub, ofV, ofL, lenA, binA, intBin, fltBin, strBin, cpxBin, unA, convA, convB, convO, pickV, resL, oneA, indexA, indexS, isQuiet, loadA, loadC, storeA, fieldA, partA, sliceA, boundA, buildA, placeA, setAll, appendA, readSl, newEl, AV.cells, AV.solid, AV.one, kill, killM, killL, notInt, Int.reduceToNat, cond_true, cond_false, ↓reduceIte, reduceCtorEq, Nat.reduceLT, Nat.reduceLeDiff, Nat.reduceMul, Nat.reduceEqDiff, exists_eq', putF, implies_true, exists_true_left, tys0, tys1, tys2, und0, und1, md4, Tryz.ntmps4, Tryz.results4]
        rfl
      rw [show view 3 [({ ty := 48, w := 5, els := [.agg [.int .i64 L[i].1, .nils, .int .i64 L[i].2.2.1, .int .i64 L[i].2.2.2.1, .int .i64 L[i].2.2.2.2]] } : Blk)] (.sl 0 0 1) = .ro [.agg [.int .i64 L[i].1, .nils, .int .i64 L[i].2.2.1, .int .i64 L[i].2.2.2.1, .int .i64 L[i].2.2.2.2]] from rfl]
      simp only [q0, q1, q2, q3, q4, q5, q6, q7, q8, q9, zq0, zq1, zq2, zq3, zq4, guardSlot, quietA, nilC, nilA, quietB, St.ev, St.put, St.after, Nat.reduceAdd, Nat.reduceSub, ofV, ofL, lenA, binA, intBin, fltBin, strBin, cpxBin, unA, convA, convB, convO, pickV, resL, oneA, indexA, indexS, isQuiet, loadA, loadC, storeA, fieldA, partA, sliceA, boundA, buildA, placeA, setAll, appendA, readSl, newEl, AV.cells, AV.solid, AV.one, kill, killM, killL, notInt, Int.reduceToNat, cond_true, cond_false, ↓reduceIte, reduceCtorEq, Nat.reduceLT, Nat.reduceLeDiff, Nat.reduceMul, Nat.reduceEqDiff, exists_eq', putF, implies_true, exists_true_left, tys0, tys1, tys2, und0, und1, md4, Tryz.ntmps4, Tryz.results4, List.length_map, List.getElem_map, rulA, g, gi]
      iterate 4 (refine ol_quiet (by rfl) (by rfl) (by rfl) (by rfl) ?_; simp only [q0, q1, q2, q3, q4, q5, q6, q7, q8, q9, zq0, zq1, zq2, zq3, zq4, guardSlot, quietA, nilC, nilA, quietB, St.ev, St.put, St.after, Nat.reduceAdd, Nat.reduceSub, ofV, ofL, lenA, binA, intBin, fltBin, strBin, cpxBin, unA, convA, convB, convO, pickV, resL, oneA, indexA, indexS, isQuiet, loadA, loadC, storeA, fieldA, partA, sliceA, boundA, buildA, placeA, setAll, appendA, readSl, newEl, AV.cells, AV.solid, AV.one, kill, killM, killL, notInt, Int.reduceToNat, cond_true, cond_false, ↓reduceIte, reduceCtorEq, Nat.reduceLT, Nat.reduceLeDiff, Nat.reduceMul, Nat.reduceEqDiff, exists_eq', putF, implies_true, exists_true_left, tys0, tys1, tys2, und0, und1, md4, Tryz.ntmps4, Tryz.results4, List.length_map, List.getElem_map, rulA, g, gi])
      refine ol_fresh (by rfl) (by rfl) (by rfl) (by rfl) { ty := 48, w := 5, els := [.agg [.int .i64 L[i].1, .ro (ints L[i].2.1), .int .i64 L[i].2.2.1, .int .i64 L[i].2.2.2.1, .int .i64 L[i].2.2.2.2]] } 3 (.sl 0 0 1) rfl rfl ?_ rfl ?_ ?_
      · intro b hb'
        have hb2 : b ∈ [_] := hb'
        rw [List.mem_singleton.1 hb2]
        rfl
      · simp only [q0, q1, q2, q3, q4, q5, q6, q7, q8, q9, zq0, zq1, zq2, zq3, zq4, guardSlot, quietA, nilC, nilA, quietB, St.ev, St.put, St.after, Nat.reduceAdd, Nat.reduceSub, ofV, ofL, lenA, binA, intBin, fltBin, strBin, cpxBin, unA, convA, convB, convO, pickV, resL, oneA, indexA, indexS, isQuiet, loadA, loadC, storeA, fieldA, partA, sliceA, boundA, buildA, placeA, setAll, appendA, readSl, newEl, AV.cells, AV.solid, AV.one, kill, killM, killL, notInt, Int.reduceToNat, cond_true, cond_false, ↓reduceIte, reduceCtorEq, Nat.reduceLT, Nat.reduceLeDiff, Nat.reduceMul, Nat.reduceEqDiff, exists_eq', putF, implies_true, exists_true_left, tys0, tys1, tys2, und0, und1, md4, Tryz.ntmps4, Tryz.results4]
        rfl
      rw [show view 3 [({ ty := 48, w := 5, els := [.agg [.int .i64 L[i].1, .ro (ints L[i].2.1), .int .i64 L[i].2.2.1, .int .i64 L[i].2.2.2.1, .int .i64 L[i].2.2.2.2]] } : Blk)] (.sl 0 0 1) = .ro [.agg [.int .i64 L[i].1, .ro (ints L[i].2.1), .int .i64 L[i].2.2.1, .int .i64 L[i].2.2.2.1, .int .i64 L[i].2.2.2.2]] from rfl]
      simp only [q0, q1, q2, q3, q4, q5, q6, q7, q8, q9, zq0, zq1, zq2, zq3, zq4, guardSlot, quietA, nilC, nilA, quietB, St.ev, St.put, St.after, Nat.reduceAdd, Nat.reduceSub, ofV, ofL, lenA, binA, intBin, fltBin, strBin, cpxBin, unA, convA, convB, convO, pickV, resL, oneA, indexA, indexS, isQuiet, loadA, loadC, storeA, fieldA, partA, sliceA, boundA, buildA, placeA, setAll, appendA, readSl, newEl, AV.cells, AV.solid, AV.one, kill, killM, killL, notInt, Int.reduceToNat, cond_true, cond_false, ↓reduceIte, reduceCtorEq, Nat.reduceLT, Nat.reduceLeDiff, Nat.reduceMul, Nat.reduceEqDiff, exists_eq', putF, implies_true, exists_true_left, tys0, tys1, tys2, und0, und1, md4, Tryz.ntmps4, Tryz.results4, List.length_map, List.getElem_map, rulA, g, gi]
      refine ol_call (by rfl) (by rfl) (by rfl) (by rfl) (by rfl) (by rfl) (c4 _) ?_
      simp only [q0, q1, q2, q3, q4, q5, q6, q7, q8, q9, zq0, zq1, zq2, zq3, zq4, guardSlot, quietA, nilC, nilA, quietB, St.ev, St.put, St.after, Nat.reduceAdd, Nat.reduceSub, ofV, ofL, lenA, binA, intBin, fltBin, strBin, cpxBin, unA, convA, convB, convO, pickV, resL, oneA, indexA, indexS, isQuiet, loadA, loadC, storeA, fieldA, partA, sliceA, boundA, buildA, placeA, setAll, appendA, readSl, newEl, AV.cells, AV.solid, AV.one, kill, killM, killL, notInt, Int.reduceToNat, cond_true, cond_false, ↓reduceIte, reduceCtorEq, Nat.reduceLT, Nat.reduceLeDiff, Nat.reduceMul, Nat.reduceEqDiff, exists_eq', putF, implies_true, exists_true_left, tys0, tys1, tys2, und0, und1, md4, Tryz.ntmps4, Tryz.results4, List.length_map, List.getElem_map, rulA, g, gi]
      iterate 2 (refine ol_quiet (by rfl) (by rfl) (by rfl) (by rfl) ?_; simp only [q0, q1, q2, q3, q4, q5, q6, q7, q8, q9, zq0, zq1, zq2, zq3, zq4, guardSlot, quietA, nilC, nilA, quietB, St.ev, St.put, St.after, Nat.reduceAdd, Nat.reduceSub, ofV, ofL, lenA, binA, intBin, fltBin, strBin, cpxBin, unA, convA, convB, convO, pickV, resL, oneA, indexA, indexS, isQuiet, loadA, loadC, storeA, fieldA, partA, sliceA, boundA, buildA, placeA, setAll, appendA, readSl, newEl, AV.cells, AV.solid, AV.one, kill, killM, killL, notInt, Int.reduceToNat, cond_true, cond_false, ↓reduceIte, reduceCtorEq, Nat.reduceLT, Nat.reduceLeDiff, Nat.reduceMul, Nat.reduceEqDiff, exists_eq', putF, implies_true, exists_true_left, tys0, tys1, tys2, und0, und1, md4, Tryz.ntmps4, Tryz.results4, List.length_map, List.getElem_map, rulA, g, gi])
      refine ol_nil ?_
      simp only [q0, q1, q2, q3, q4, q5, q6, q7, q8, q9, zq0, zq1, zq2, zq3, zq4, guardSlot, quietA, nilC, nilA, quietB, St.ev, St.put, St.after, Nat.reduceAdd, Nat.reduceSub, ofV, ofL, lenA, binA, intBin, fltBin, strBin, cpxBin, unA, convA, convB, convO, pickV, resL, oneA, indexA, indexS, isQuiet, loadA, loadC, storeA, fieldA, partA, sliceA, boundA, buildA, placeA, setAll, appendA, readSl, newEl, AV.cells, AV.solid, AV.one, kill, killM, killL, notInt, Int.reduceToNat, cond_true, cond_false, ↓reduceIte, reduceCtorEq, Nat.reduceLT, Nat.reduceLeDiff, Nat.reduceMul, Nat.reduceEqDiff, exists_eq', putF, implies_true, exists_true_left, tys0, tys1, tys2, und0, und1, md4, Tryz.ntmps4, Tryz.results4, List.length_map, List.getElem_map, rulA, g, gi]
      refine ⟨⟨i + 1, by omega⟩, by show L.length - (i + 1) < L.length - i; omega, ?_⟩
      rw [wl]
      show Weak 0 _ ⟨_, _⟩
      exact weak_drop (by simp) (by simp [DropHp, ints_below, flts_below, w64_succ i (by omega)]) (by simp [DropTm, DropV, below, belowM, belowL, w64_succ i (by omega)])
    · refine call_ret t2 rfl rfl ?_
      simp only [q0, q1, q2, q3, q4, q5, q6, q7, q8, q9, zq0, zq1, zq2, zq3, zq4, guardSlot, quietA, nilC, nilA, quietB, St.ev, St.put, St.after, Nat.reduceAdd, Nat.reduceSub, ofV, ofL, lenA, binA, intBin, fltBin, strBin, cpxBin, unA, convA, convB, convO, pickV, resL, oneA, indexA, indexS, isQuiet, loadA, loadC, storeA, fieldA, partA, sliceA, boundA, buildA, placeA, setAll, appendA, readSl, newEl, AV.cells, AV.solid, AV.one, kill, killM, killL, notInt, Int.reduceToNat, cond_true, cond_false, ↓reduceIte, reduceCtorEq, Nat.reduceLT, Nat.reduceLeDiff, Nat.reduceMul, Nat.reduceEqDiff, exists_eq', putF, implies_true, exists_true_left, tys0, tys1, tys2, und0, und1, md4, Tryz.ntmps4, Tryz.results4, List.length_map, List.getElem_map, rulA, g, gi]
      refine go_late mixed 16 0 (by rfl) (List.range 25) (List.replicate 25 false) (List.replicate 25 false) (by kernel_rfl) ?_
      iterate 11 (refine ol_quiet (by rfl) (by rfl) (by rfl) (by rfl) ?_; simp only [q0, q1, q2, q3, q4, q5, q6, q7, q8, q9, zq0, zq1, zq2, zq3, zq4, guardSlot, quietA, nilC, nilA, quietB, St.ev, St.put, St.after, Nat.reduceAdd, Nat.reduceSub, ofV, ofL, lenA, binA, intBin, fltBin, strBin, cpxBin, unA, convA, convB, convO, pickV, resL, oneA, indexA, indexS, isQuiet, loadA, loadC, storeA, fieldA, partA, sliceA, boundA, buildA, placeA, setAll, appendA, readSl, newEl, AV.cells, AV.solid, AV.one, kill, killM, killL, notInt, Int.reduceToNat, cond_true, cond_false, ↓reduceIte, reduceCtorEq, Nat.reduceLT, Nat.reduceLeDiff, Nat.reduceMul, Nat.reduceEqDiff, exists_eq', putF, implies_true, exists_true_left, tys0, tys1, tys2, und0, und1, md4, Tryz.ntmps4, Tryz.results4, List.length_map, List.getElem_map, rulA, g, gi])
      refine ol_call (by rfl) (by rfl) (by rfl) (by rfl) (by rfl) (by rfl) (c3 _) ?_
      simp only [q0, q1, q2, q3, q4, q5, q6, q7, q8, q9, zq0, zq1, zq2, zq3, zq4, guardSlot, quietA, nilC, nilA, quietB, St.ev, St.put, St.after, Nat.reduceAdd, Nat.reduceSub, ofV, ofL, lenA, binA, intBin, fltBin, strBin, cpxBin, unA, convA, convB, convO, pickV, resL, oneA, indexA, indexS, isQuiet, loadA, loadC, storeA, fieldA, partA, sliceA, boundA, buildA, placeA, setAll, appendA, readSl, newEl, AV.cells, AV.solid, AV.one, kill, killM, killL, notInt, Int.reduceToNat, cond_true, cond_false, ↓reduceIte, reduceCtorEq, Nat.reduceLT, Nat.reduceLeDiff, Nat.reduceMul, Nat.reduceEqDiff, exists_eq', putF, implies_true, exists_true_left, tys0, tys1, tys2, und0, und1, md4, Tryz.ntmps4, Tryz.results4, List.length_map, List.getElem_map, rulA, g, gi]
      iterate 4 (refine ol_quiet (by rfl) (by rfl) (by rfl) (by rfl) ?_; simp only [q0, q1, q2, q3, q4, q5, q6, q7, q8, q9, zq0, zq1, zq2, zq3, zq4, guardSlot, quietA, nilC, nilA, quietB, St.ev, St.put, St.after, Nat.reduceAdd, Nat.reduceSub, ofV, ofL, lenA, binA, intBin, fltBin, strBin, cpxBin, unA, convA, convB, convO, pickV, resL, oneA, indexA, indexS, isQuiet, loadA, loadC, storeA, fieldA, partA, sliceA, boundA, buildA, placeA, setAll, appendA, readSl, newEl, AV.cells, AV.solid, AV.one, kill, killM, killL, notInt, Int.reduceToNat, cond_true, cond_false, ↓reduceIte, reduceCtorEq, Nat.reduceLT, Nat.reduceLeDiff, Nat.reduceMul, Nat.reduceEqDiff, exists_eq', putF, implies_true, exists_true_left, tys0, tys1, tys2, und0, und1, md4, Tryz.ntmps4, Tryz.results4, List.length_map, List.getElem_map, rulA, g, gi])
      refine ol_fresh (by rfl) (by rfl) (by rfl) (by rfl) { ty := 48, w := 5, els := [.agg [.int .i64 L[i].1, .ro (ints L[i].2.1), .int .i64 L[i].2.2.1, .int .i64 L[i].2.2.2.1, .int .i64 L[i].2.2.2.2]] } 3 (.sl 0 0 1) rfl rfl ?_ rfl ?_ ?_
      · intro b hb'
        have hb2 : b ∈ [_] := hb'
        rw [List.mem_singleton.1 hb2]
        rfl
      · simp only [q0, q1, q2, q3, q4, q5, q6, q7, q8, q9, zq0, zq1, zq2, zq3, zq4, guardSlot, quietA, nilC, nilA, quietB, St.ev, St.put, St.after, Nat.reduceAdd, Nat.reduceSub, ofV, ofL, lenA, binA, intBin, fltBin, strBin, cpxBin, unA, convA, convB, convO, pickV, resL, oneA, indexA, indexS, isQuiet, loadA, loadC, storeA, fieldA, partA, sliceA, boundA, buildA, placeA, setAll, appendA, readSl, newEl, AV.cells, AV.solid, AV.one, kill, killM, killL, notInt, Int.reduceToNat, cond_true, cond_false, ↓reduceIte, reduceCtorEq, Nat.reduceLT, Nat.reduceLeDiff, Nat.reduceMul, Nat.reduceEqDiff, exists_eq', putF, implies_true, exists_true_left, tys0, tys1, tys2, und0, und1, md4, Tryz.ntmps4, Tryz.results4]
        rfl
      rw [show view 3 [({ ty := 48, w := 5, els := [.agg [.int .i64 L[i].1, .ro (ints L[i].2.1), .int .i64 L[i].2.2.1, .int .i64 L[i].2.2.2.1, .int .i64 L[i].2.2.2.2]] } : Blk)] (.sl 0 0 1) = .ro [.agg [.int .i64 L[i].1, .ro (ints L[i].2.1), .int .i64 L[i].2.2.1, .int .i64 L[i].2.2.2.1, .int .i64 L[i].2.2.2.2]] from rfl]
      simp only [q0, q1, q2, q3, q4, q5, q6, q7, q8, q9, zq0, zq1, zq2, zq3, zq4, guardSlot, quietA, nilC, nilA, quietB, St.ev, St.put, St.after, Nat.reduceAdd, Nat.reduceSub, ofV, ofL, lenA, binA, intBin, fltBin, strBin, cpxBin, unA, convA, convB, convO, pickV, resL, oneA, indexA, indexS, isQuiet, loadA, loadC, storeA, fieldA, partA, sliceA, boundA, buildA, placeA, setAll, appendA, readSl, newEl, AV.cells, AV.solid, AV.one, kill, killM, killL, notInt, Int.reduceToNat, cond_true, cond_false, ↓reduceIte, reduceCtorEq, Nat.reduceLT, Nat.reduceLeDiff, Nat.reduceMul, Nat.reduceEqDiff, exists_eq', putF, implies_true, exists_true_left, tys0, tys1, tys2, und0, und1, md4, Tryz.ntmps4, Tryz.results4, List.length_map, List.getElem_map, rulA, g, gi]
      iterate 4 (refine ol_quiet (by rfl) (by rfl) (by rfl) (by rfl) ?_; simp only [q0, q1, q2, q3, q4, q5, q6, q7, q8, q9, zq0, zq1, zq2, zq3, zq4, guardSlot, quietA, nilC, nilA, quietB, St.ev, St.put, St.after, Nat.reduceAdd, Nat.reduceSub, ofV, ofL, lenA, binA, intBin, fltBin, strBin, cpxBin, unA, convA, convB, convO, pickV, resL, oneA, indexA, indexS, isQuiet, loadA, loadC, storeA, fieldA, partA, sliceA, boundA, buildA, placeA, setAll, appendA, readSl, newEl, AV.cells, AV.solid, AV.one, kill, killM, killL, notInt, Int.reduceToNat, cond_true, cond_false, ↓reduceIte, reduceCtorEq, Nat.reduceLT, Nat.reduceLeDiff, Nat.reduceMul, Nat.reduceEqDiff, exists_eq', putF, implies_true, exists_true_left, tys0, tys1, tys2, und0, und1, md4, Tryz.ntmps4, Tryz.results4, List.length_map, List.getElem_map, rulA, g, gi])
      refine ol_fresh (by rfl) (by rfl) (by rfl) (by rfl) { ty := 48, w := 5, els := [.agg [.int .i64 L[i].1, .ro (ints L[i].2.1), .int .i64 L[i].2.2.1, .int .i64 L[i].2.2.2.1, .int .i64 L[i].2.2.2.2]] } 3 (.sl 0 0 1) rfl rfl ?_ rfl ?_ ?_
      · intro b hb'
        have hb2 : b ∈ [_] := hb'
        rw [List.mem_singleton.1 hb2]
        rfl
      · simp only [q0, q1, q2, q3, q4, q5, q6, q7, q8, q9, zq0, zq1, zq2, zq3, zq4, guardSlot, quietA, nilC, nilA, quietB, St.ev, St.put, St.after, Nat.reduceAdd, Nat.reduceSub, ofV, ofL, lenA, binA, intBin, fltBin, strBin, cpxBin, unA, convA, convB, convO, pickV, resL, oneA, indexA, indexS, isQuiet, loadA, loadC, storeA, fieldA, partA, sliceA, boundA, buildA, placeA, setAll, appendA, readSl, newEl, AV.cells, AV.solid, AV.one, kill, killM, killL, notInt, Int.reduceToNat, cond_true, cond_false, ↓reduceIte, reduceCtorEq, Nat.reduceLT, Nat.reduceLeDiff, Nat.reduceMul, Nat.reduceEqDiff, exists_eq', putF, implies_true, exists_true_left, tys0, tys1, tys2, und0, und1, md4, Tryz.ntmps4, Tryz.results4]
        rfl
      rw [show view 3 [({ ty := 48, w := 5, els := [.agg [.int .i64 L[i].1, .ro (ints L[i].2.1), .int .i64 L[i].2.2.1, .int .i64 L[i].2.2.2.1, .int .i64 L[i].2.2.2.2]] } : Blk)] (.sl 0 0 1) = .ro [.agg [.int .i64 L[i].1, .ro (ints L[i].2.1), .int .i64 L[i].2.2.1, .int .i64 L[i].2.2.2.1, .int .i64 L[i].2.2.2.2]] from rfl]
      simp only [q0, q1, q2, q3, q4, q5, q6, q7, q8, q9, zq0, zq1, zq2, zq3, zq4, guardSlot, quietA, nilC, nilA, quietB, St.ev, St.put, St.after, Nat.reduceAdd, Nat.reduceSub, ofV, ofL, lenA, binA, intBin, fltBin, strBin, cpxBin, unA, convA, convB, convO, pickV, resL, oneA, indexA, indexS, isQuiet, loadA, loadC, storeA, fieldA, partA, sliceA, boundA, buildA, placeA, setAll, appendA, readSl, newEl, AV.cells, AV.solid, AV.one, kill, killM, killL, notInt, Int.reduceToNat, cond_true, cond_false, ↓reduceIte, reduceCtorEq, Nat.reduceLT, Nat.reduceLeDiff, Nat.reduceMul, Nat.reduceEqDiff, exists_eq', putF, implies_true, exists_true_left, tys0, tys1, tys2, und0, und1, md4, Tryz.ntmps4, Tryz.results4, List.length_map, List.getElem_map, rulA, g, gi]
      refine ol_call (by rfl) (by rfl) (by rfl) (by rfl) (by rfl) (by rfl) (c4 _) ?_
      simp only [q0, q1, q2, q3, q4, q5, q6, q7, q8, q9, zq0, zq1, zq2, zq3, zq4, guardSlot, quietA, nilC, nilA, quietB, St.ev, St.put, St.after, Nat.reduceAdd, Nat.reduceSub, ofV, ofL, lenA, binA, intBin, fltBin, strBin, cpxBin, unA, convA, convB, convO, pickV, resL, oneA, indexA, indexS, isQuiet, loadA, loadC, storeA, fieldA, partA, sliceA, boundA, buildA, placeA, setAll, appendA, readSl, newEl, AV.cells, AV.solid, AV.one, kill, killM, killL, notInt, Int.reduceToNat, cond_true, cond_false, ↓reduceIte, reduceCtorEq, Nat.reduceLT, Nat.reduceLeDiff, Nat.reduceMul, Nat.reduceEqDiff, exists_eq', putF, implies_true, exists_true_left, tys0, tys1, tys2, und0, und1, md4, Tryz.ntmps4, Tryz.results4, List.length_map, List.getElem_map, rulA, g, gi]
      iterate 2 (refine ol_quiet (by rfl) (by rfl) (by rfl) (by rfl) ?_; simp only [q0, q1, q2, q3, q4, q5, q6, q7, q8, q9, zq0, zq1, zq2, zq3, zq4, guardSlot, quietA, nilC, nilA, quietB, St.ev, St.put, St.after, Nat.reduceAdd, Nat.reduceSub, ofV, ofL, lenA, binA, intBin, fltBin, strBin, cpxBin, unA, convA, convB, convO, pickV, resL, oneA, indexA, indexS, isQuiet, loadA, loadC, storeA, fieldA, partA, sliceA, boundA, buildA, placeA, setAll, appendA, readSl, newEl, AV.cells, AV.solid, AV.one, kill, killM, killL, notInt, Int.reduceToNat, cond_true, cond_false, ↓reduceIte, reduceCtorEq, Nat.reduceLT, Nat.reduceLeDiff, Nat.reduceMul, Nat.reduceEqDiff, exists_eq', putF, implies_true, exists_true_left, tys0, tys1, tys2, und0, und1, md4, Tryz.ntmps4, Tryz.results4, List.length_map, List.getElem_map, rulA, g, gi])
      refine ol_nil ?_
      simp only [q0, q1, q2, q3, q4, q5, q6, q7, q8, q9, zq0, zq1, zq2, zq3, zq4, guardSlot, quietA, nilC, nilA, quietB, St.ev, St.put, St.after, Nat.reduceAdd, Nat.reduceSub, ofV, ofL, lenA, binA, intBin, fltBin, strBin, cpxBin, unA, convA, convB, convO, pickV, resL, oneA, indexA, indexS, isQuiet, loadA, loadC, storeA, fieldA, partA, sliceA, boundA, buildA, placeA, setAll, appendA, readSl, newEl, AV.cells, AV.solid, AV.one, kill, killM, killL, notInt, Int.reduceToNat, cond_true, cond_false, ↓reduceIte, reduceCtorEq, Nat.reduceLT, Nat.reduceLeDiff, Nat.reduceMul, Nat.reduceEqDiff, exists_eq', putF, implies_true, exists_true_left, tys0, tys1, tys2, und0, und1, md4, Tryz.ntmps4, Tryz.results4, List.length_map, List.getElem_map, rulA, g, gi]
      refine ⟨⟨i + 1, by omega⟩, by show L.length - (i + 1) < L.length - i; omega, ?_⟩
      rw [wl]
      show Weak 0 _ ⟨_, _⟩
      exact weak_drop (by simp) (by simp [DropHp, ints_below, flts_below, w64_succ i (by omega)]) (by simp [DropTm, DropV, below, belowM, belowL, w64_succ i (by omega)])
  · have g : i = L.length := by have := of_decide_eq_false g; omega
    subst g
    rw [List.take_length]
    have bn : ((((rulesT L).length : Nat) : Int) != (((rulesT L).length : Nat) : Int)) = false := bne_self_eq_false _
    rw [bn]
    refine br_no rfl ?_
    simp only [q0, q1, q2, q3, q4, q5, q6, q7, q8, q9, zq0, zq1, zq2, zq3, zq4, guardSlot, quietA, nilC, nilA, quietB, St.ev, St.put, St.after, Nat.reduceAdd, Nat.reduceSub, ofV, ofL, lenA, binA, intBin, fltBin, strBin, cpxBin, unA, convA, convB, convO, pickV, resL, oneA, indexA, indexS, isQuiet, loadA, loadC, storeA, fieldA, partA, sliceA, boundA, buildA, placeA, setAll, appendA, readSl, newEl, AV.cells, AV.solid, AV.one, kill, killM, killL, notInt, Int.reduceToNat, cond_true, cond_false, ↓reduceIte, reduceCtorEq, Nat.reduceLT, Nat.reduceLeDiff, Nat.reduceMul, Nat.reduceEqDiff, exists_eq', putF, implies_true, exists_true_left, tys0, tys1, tys2, und0, und1, md4, Tryz.ntmps4, Tryz.results4]
    refine br_intro (fun z => ?_) (fun z => ?_) <;> simp only [q0, q1, q2, q3, q4, q5, q6, q7, q8, q9, zq0, zq1, zq2, zq3, zq4, guardSlot, quietA, nilC, nilA, quietB, St.ev, St.put, St.after, Nat.reduceAdd, Nat.reduceSub, ofV, ofL, lenA, binA, intBin, fltBin, strBin, cpxBin, unA, convA, convB, convO, pickV, resL, oneA, indexA, indexS, isQuiet, loadA, loadC, storeA, fieldA, partA, sliceA, boundA, buildA, placeA, setAll, appendA, readSl, newEl, AV.cells, AV.solid, AV.one, kill, killM, killL, notInt, Int.reduceToNat, cond_true, cond_false, ↓reduceIte, reduceCtorEq, Nat.reduceLT, Nat.reduceLeDiff, Nat.reduceMul, Nat.reduceEqDiff, exists_eq', putF, implies_true, exists_true_left, tys0, tys1, tys2, und0, und1, md4, Tryz.ntmps4, Tryz.results4]
    · exact PostR.pure ⟨rfl, rfl⟩ rfl
    have zl : (rulesT L).length ≠ 0 := by
      intro e
      rw [e] at z
      simp at z
    obtain ⟨x, xc, x0, x1⟩ := b10At_call m hm l2 0 256 (by omega) (by omega) (by omega) (by omega)
    obtain ⟨y, yc, y0, y1⟩ := b10At_call m hm l2 1 128 (by omega) (by omega) (by omega) (by omega)
    have e3 : x.tmod ((rulesT L).length : Int) = x % ((rulesT L).length : Int) := Int.tmod_eq_emod_of_nonneg x0
    have m1 := Int.emod_nonneg x (show ((rulesT L).length : Int) ≠ 0 by omega)
    have m2 := Int.emod_lt_of_pos x (show 0 < ((rulesT L).length : Int) by omega)
    have e4 : IntKind.u8.wrap y = y := w8 (by omega) (by omega)
    refine ⟨by omega, ?_⟩
    refine callr_ret xc rfl rfl ?_
    simp only [q0, q1, q2, q3, q4, q5, q6, q7, q8, q9, zq0, zq1, zq2, zq3, zq4, guardSlot, quietA, nilC, nilA, quietB, St.ev, St.put, St.after, Nat.reduceAdd, Nat.reduceSub, ofV, ofL, lenA, binA, intBin, fltBin, strBin, cpxBin, unA, convA, convB, convO, pickV, resL, oneA, indexA, indexS, isQuiet, loadA, loadC, storeA, fieldA, partA, sliceA, boundA, buildA, placeA, setAll, appendA, readSl, newEl, AV.cells, AV.solid, AV.one, kill, killM, killL, notInt, Int.reduceToNat, cond_true, cond_false, ↓reduceIte, reduceCtorEq, Nat.reduceLT, Nat.reduceLeDiff, Nat.reduceMul, Nat.reduceEqDiff, exists_eq', putF, implies_true, exists_true_left, tys0, tys1, tys2, und0, und1, md4, Tryz.ntmps4, Tryz.results4]
    obtain ⟨k, hk, kl⟩ : ∃ k : Nat, x.tmod ((rulesT L).length : Int) = (k : Int) ∧ k < (rulesT L).length := ⟨(x % ((rulesT L).length : Int)).toNat, by omega, by omega⟩
    have kI : (k : Int) < ((rulesT L).length : Int) := by omega
    obtain ⟨c, hcy⟩ : ∃ c : UInt8, ((c.toNat : Nat) : Int) = y := ⟨UInt8.ofNat y.toNat, by simp only [UInt8.toNat_ofNat']; omega⟩
    have hbs : (byts (rulesT L)).set k (.int .u8 y) = byts ((rulesT L).set k c) := by
      unfold byts
      rw [List.map_set, hcy]
    have tl2 : ((rulesT L).set k c).length = (rulesT L).length := List.length_set
    generalize (rulesT L).set k c = u at hbs tl2
    have u1 := implReadRulesN u (by omega)
    have u2 := specReadRulesN u (by omega)
    refine ⟨by omega, ?_⟩
    refine callr_ret yc rfl rfl ?_
    simp only [q0, q1, q2, q3, q4, q5, q6, q7, q8, q9, zq0, zq1, zq2, zq3, zq4, guardSlot, quietA, nilC, nilA, quietB, St.ev, St.put, St.after, Nat.reduceAdd, Nat.reduceSub, ofV, ofL, lenA, binA, intBin, fltBin, strBin, cpxBin, unA, convA, convB, convO, pickV, resL, oneA, indexA, indexS, isQuiet, loadA, loadC, storeA, fieldA, partA, sliceA, boundA, buildA, placeA, setAll, appendA, readSl, newEl, AV.cells, AV.solid, AV.one, kill, killM, killL, notInt, Int.reduceToNat, cond_true, cond_false, ↓reduceIte, reduceCtorEq, Nat.reduceLT, Nat.reduceLeDiff, Nat.reduceMul, Nat.reduceEqDiff, exists_eq', putF, implies_true, exists_true_left, tys0, tys1, tys2, und0, und1, md4, Tryz.ntmps4, Tryz.results4, e4, hk, hbs, kI, kl]
    have bl' : ∀ v : List UInt8, (byts v).length = v.length := fun v => List.length_map _
    have bt : List.take (rulesT L).length (byts u) = byts u := List.take_of_length_le (by rw [bl']; omega)
    refine ⟨by rw [bl']; exact kl, ⟨5, rfl, Tryz.underlying5⟩, u, bt, tl2, ?_⟩
    cases hu : rulesOf u with
    | none =>
      rw [hu] at u1 u2
      refine call_ret (r := .tup [.nils, .bool false]) u1 rfl rfl ?_
      simp only [q0, q1, q2, q3, q4, q5, q6, q7, q8, q9, zq0, zq1, zq2, zq3, zq4, guardSlot, quietA, nilC, nilA, quietB, St.ev, St.put, St.after, Nat.reduceAdd, Nat.reduceSub, ofV, ofL, lenA, binA, intBin, fltBin, strBin, cpxBin, unA, convA, convB, convO, pickV, resL, oneA, indexA, indexS, isQuiet, loadA, loadC, storeA, fieldA, partA, sliceA, boundA, buildA, placeA, setAll, appendA, readSl, newEl, AV.cells, AV.solid, AV.one, kill, killM, killL, notInt, Int.reduceToNat, cond_true, cond_false, ↓reduceIte, reduceCtorEq, Nat.reduceLT, Nat.reduceLeDiff, Nat.reduceMul, Nat.reduceEqDiff, exists_eq', putF, implies_true, exists_true_left, tys0, tys1, tys2, und0, und1, md4, Tryz.ntmps4, Tryz.results4]
      refine ⟨⟨5, rfl, Tryz.underlying5⟩, u, bt, tl2, ?_⟩
      refine call_ret (r := .tup [.nils, .bool false]) u2 rfl rfl ?_
      simp only [q0, q1, q2, q3, q4, q5, q6, q7, q8, q9, zq0, zq1, zq2, zq3, zq4, guardSlot, quietA, nilC, nilA, quietB, St.ev, St.put, St.after, Nat.reduceAdd, Nat.reduceSub, ofV, ofL, lenA, binA, intBin, fltBin, strBin, cpxBin, unA, convA, convB, convO, pickV, resL, oneA, indexA, indexS, isQuiet, loadA, loadC, storeA, fieldA, partA, sliceA, boundA, buildA, placeA, setAll, appendA, readSl, newEl, AV.cells, AV.solid, AV.one, kill, killM, killL, notInt, Int.reduceToNat, cond_true, cond_false, ↓reduceIte, reduceCtorEq, Nat.reduceLT, Nat.reduceLeDiff, Nat.reduceMul, Nat.reduceEqDiff, exists_eq', putF, implies_true, exists_true_left, tys0, tys1, tys2, und0, und1, md4, Tryz.ntmps4, Tryz.results4, beq_self_eq_true]
      exact PostR.pure ⟨rfl, rfl⟩ rfl
    | some R =>
      rw [hu] at u1 u2
      obtain ⟨hR, _⟩ := rulesOf_iff.1 hu
      have hRa := rulesB_all hR
      have rl := (rulesB_ok hR).1
      have s6 : ∀ r ∈ R, r.2.1.length ≤ 1048576 := fun r hr => by have := (okV_of (hRa r hr)).n; omega
      have sr := specRules_call R R (by omega) s6 (by omega)
      rw [decide_eq_true rfl] at sr
      refine call_ret (r := .tup [.ro (R.map rulN), .bool true]) u1 rfl rfl ?_
      simp only [q0, q1, q2, q3, q4, q5, q6, q7, q8, q9, zq0, zq1, zq2, zq3, zq4, guardSlot, quietA, nilC, nilA, quietB, St.ev, St.put, St.after, Nat.reduceAdd, Nat.reduceSub, ofV, ofL, lenA, binA, intBin, fltBin, strBin, cpxBin, unA, convA, convB, convO, pickV, resL, oneA, indexA, indexS, isQuiet, loadA, loadC, storeA, fieldA, partA, sliceA, boundA, buildA, placeA, setAll, appendA, readSl, newEl, AV.cells, AV.solid, AV.one, kill, killM, killL, notInt, Int.reduceToNat, cond_true, cond_false, ↓reduceIte, reduceCtorEq, Nat.reduceLT, Nat.reduceLeDiff, Nat.reduceMul, Nat.reduceEqDiff, exists_eq', putF, implies_true, exists_true_left, tys0, tys1, tys2, und0, und1, md4, Tryz.ntmps4, Tryz.results4]
      refine ⟨⟨5, rfl, Tryz.underlying5⟩, u, bt, tl2, ?_⟩
      refine call_ret (r := .tup [.ro (R.map rulN), .bool true]) u2 rfl rfl ?_
      simp only [q0, q1, q2, q3, q4, q5, q6, q7, q8, q9, zq0, zq1, zq2, zq3, zq4, guardSlot, quietA, nilC, nilA, quietB, St.ev, St.put, St.after, Nat.reduceAdd, Nat.reduceSub, ofV, ofL, lenA, binA, intBin, fltBin, strBin, cpxBin, unA, convA, convB, convO, pickV, resL, oneA, indexA, indexS, isQuiet, loadA, loadC, storeA, fieldA, partA, sliceA, boundA, buildA, placeA, setAll, appendA, readSl, newEl, AV.cells, AV.solid, AV.one, kill, killM, killL, notInt, Int.reduceToNat, cond_true, cond_false, ↓reduceIte, reduceCtorEq, Nat.reduceLT, Nat.reduceLeDiff, Nat.reduceMul, Nat.reduceEqDiff, exists_eq', putF, implies_true, exists_true_left, tys0, tys1, tys2, und0, und1, md4, Tryz.ntmps4, Tryz.results4, beq_self_eq_true]
      refine call_lentN 3 3 (lent_NN _ R R) sr rfl rfl ?_
      simp only [q0, q1, q2, q3, q4, q5, q6, q7, q8, q9, zq0, zq1, zq2, zq3, zq4, guardSlot, quietA, nilC, nilA, quietB, St.ev, St.put, St.after, Nat.reduceAdd, Nat.reduceSub, ofV, ofL, lenA, binA, intBin, fltBin, strBin, cpxBin, unA, convA, convB, convO, pickV, resL, oneA, indexA, indexS, isQuiet, loadA, loadC, storeA, fieldA, partA, sliceA, boundA, buildA, placeA, setAll, appendA, readSl, newEl, AV.cells, AV.solid, AV.one, kill, killM, killL, notInt, Int.reduceToNat, cond_true, cond_false, ↓reduceIte, reduceCtorEq, Nat.reduceLT, Nat.reduceLeDiff, Nat.reduceMul, Nat.reduceEqDiff, exists_eq', putF, implies_true, exists_true_left, tys0, tys1, tys2, und0, und1, md4, Tryz.ntmps4, Tryz.results4, beq_self_eq_true]
      exact PostR.pure ⟨rfl, rfl⟩ rfl
theorem ruleTexts_all (cd m : List Int) (hc : byteL cd) (hm : byteL m) : CallA Tryz.prog 4 [.ro (kint .u8 cd), .ro (kint .u8 m)] [] (Ret (.bool true) []) := by
  cases big : (decide (1048576 < (cd.length : Int)) || decide (1048576 < (m.length : Int))) with
  | false =>
    have b2 := big
    rw [Bool.or_eq_false_iff] at b2
    have h1 := of_decide_eq_false b2.1
    have h2 := of_decide_eq_false b2.2
    exact ruleTexts_list cd m hc hm (by omega) (by omega) big
  | true =>
    have bl := b10Long_call cd m
    rw [big] at bl
    refine CallP.out (t := .mk) (go_in (md := md4) mixed Tryz.func4 rfl go4 (by kernel_rfl) ?_)
    simp only [q0, q1, q2, q3, q4, q5, q6, q7, q8, q9, zq0, zq1, zq2, zq3, zq4, guardSlot, quietA, nilC, nilA, quietB, St.ev, St.put, St.after, Nat.reduceAdd, Nat.reduceSub, ofV, ofL, lenA, binA, intBin, fltBin, strBin, cpxBin, unA, convA, convB, convO, pickV, resL, oneA, indexA, indexS, isQuiet, loadA, loadC, storeA, fieldA, partA, sliceA, boundA, buildA, placeA, setAll, appendA, readSl, newEl, AV.cells, AV.solid, AV.one, kill, killM, killL, notInt, Int.reduceToNat, cond_true, cond_false, ↓reduceIte, reduceCtorEq, Nat.reduceLT, Nat.reduceLeDiff, Nat.reduceMul, Nat.reduceEqDiff, exists_eq', putF, implies_true, exists_true_left, tys0, tys1, tys2, und0, und1, md4, Tryz.ntmps4, Tryz.results4]
    refine call_ret bl rfl rfl ?_
    simp only [q0, q1, q2, q3, q4, q5, q6, q7, q8, q9, zq0, zq1, zq2, zq3, zq4, guardSlot, quietA, nilC, nilA, quietB, St.ev, St.put, St.after, Nat.reduceAdd, Nat.reduceSub, ofV, ofL, lenA, binA, intBin, fltBin, strBin, cpxBin, unA, convA, convB, convO, pickV, resL, oneA, indexA, indexS, isQuiet, loadA, loadC, storeA, fieldA, partA, sliceA, boundA, buildA, placeA, setAll, appendA, readSl, newEl, AV.cells, AV.solid, AV.one, kill, killM, killL, notInt, Int.reduceToNat, cond_true, cond_false, ↓reduceIte, reduceCtorEq, Nat.reduceLT, Nat.reduceLeDiff, Nat.reduceMul, Nat.reduceEqDiff, exists_eq', putF, implies_true, exists_true_left, tys0, tys1, tys2, und0, und1, md4, Tryz.ntmps4, Tryz.results4]
    exact PostR.pure ⟨rfl, rfl⟩ rfl
theorem u8_wf {x : Int} (h : (Lit.int .u8 x).wf = true) : 0 ≤ x ∧ x ≤ 255 := by
  simp [Lit.wf, IntKind.min, IntKind.max, IntKind.bits, IntKind.signed] at h
  omega
theorem ofT_bytes {a : AV} (h : OfT Tryz.prog 8 22 [a]) : ∃ xs : List Int, a = .ro (kint .u8 xs) ∧ byteL xs := by
  obtain ⟨xs, h1, h2, h3⟩ := ofT_kint Tryz.underlying22 Tryz.underlying5 h
  exact ⟨xs, h1, fun x hx => u8_wf (h3 x hx)⟩
theorem ruleTextsLaw (l0 l1 : AV) (of0 : OfT Tryz.prog 8 22 [l0]) (of1 : OfT Tryz.prog 8 22 [l1]) : CallA Tryz.prog 4 [l0, l1] [] (Ret (.bool true) []) := by
  obtain ⟨c, rfl, hc⟩ := ofT_bytes of0
  obtain ⟨m, rfl, hm⟩ := ofT_bytes of1
  exact ruleTexts_all c m hc hm
end Go.Proofs.YtigipcckflcilaaGreatDoor
