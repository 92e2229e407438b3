/- The law FnPeopled: what is called, told as lists. -/
import Derived.Test.YtemeaobpedfkmaaPeW
set_option maxRecDepth 10000
set_option maxHeartbeats 4000000
set_option linter.unusedSimpArgs false
set_option linter.unusedVariables false
namespace Go.Proofs.Ytemeaobpedfkmaa
open Go Go.Abs

theorem view_tup1 (d : Nat) (hp : List Blk) (l : List AV) : view (d + 1) hp (.tup l) = .tup (l.map (view d hp)) := rfl
theorem view_own (cs ss bs : List Nat) : view 4 (ownH cs ss bs) (ownA cs ss bs) = .tup [.agg [.ro (flts cs), .ro (flts ss), .ro (flts bs)], .bool true] := by
  unfold ownH ownA
  have h1 : List.take cs.length (flts cs) = flts cs := List.take_of_length_le (by rw [flts_len]; omega)
  have h2 : List.take ss.length (flts ss) = flts ss := List.take_of_length_le (by rw [flts_len]; omega)
  have h3 : List.take bs.length (flts bs) = flts bs := List.take_of_length_le (by rw [flts_len]; omega)
  simp [view_tup1, view_flt, view_bool, view_sl, view_agg, map_view_flts, take_flts, flts_len, h1, h2, h3]
theorem implRun_ro {cs ss bs c : List Nat} {y : Int} (hm : cs.length ≤ 1048576) (h : runR cs ss bs y = some c) : CallA Try.prog 7 [.agg [.ro (flts cs), .ro (flts ss), .ro (flts bs)], .int .i64 y] [] (Ret (.tup [.agg [.ro (flts c), .ro (flts ss), .ro (flts bs)], .bool true]) []) := by
  have := implRun_call cs ss bs y hm
  rw [h] at this
  exact this.frozen 4 (view_own c ss bs)
theorem specRun_ro {cs ss bs c : List Nat} {y : Int} (hm : cs.length ≤ 1048576) (h : runR cs ss bs y = some c) : CallA Try.prog 9 [.agg [.ro (flts cs), .ro (flts ss), .ro (flts bs)], .int .i64 y] [] (Ret (.tup [.agg [.ro (flts c), .ro (flts ss), .ro (flts bs)], .bool true]) []) := by
  have := specRun_call cs ss bs y hm
  rw [h] at this
  exact this.frozen 4 (view_own c ss bs)
theorem implNext_ro {cs ss bs c : List Nat} (hm : cs.length ≤ 1048576) (h : runR cs ss bs 1 = some c) : CallA Try.prog 8 [.agg [.ro (flts cs), .ro (flts ss), .ro (flts bs)]] [] (Ret (.tup [.agg [.ro (flts c), .ro (flts ss), .ro (flts bs)], .bool true]) []) := by
  have := implNext_call cs ss bs hm
  rw [h] at this
  exact this.frozen 4 (view_own c ss bs)
theorem view_grow (q : List Nat) (g : Nat) : view 4 [fltB q] (.tup [.flt .f32 g, .sl 0 0 q.length, .bool true]) = .tup [.flt .f32 g, .ro (flts q), .bool true] := by
  have h1 : List.take q.length (flts q) = flts q := List.take_of_length_le (by rw [flts_len]; omega)
  simp [fltB, view_tup1, view_flt, view_bool, view_sl, view_agg, map_view_flts, take_flts, flts_len, h1]
theorem implGrowth_ro {cs ss bs q : List Nat} {r : Int} {g : Nat} (hm : cs.length ≤ 1048576) (h : growR cs ss bs r = some (q, g)) : CallA Try.prog 14 [.agg [.ro (flts cs), .ro (flts ss), .ro (flts bs)], .int .i64 r] [] (Ret (.tup [.flt .f32 g, .ro (flts q), .bool true]) []) := by
  have := implGrowth_call cs ss bs r hm
  rw [h] at this
  exact this.frozen 4 (view_grow q g)
theorem specGrowth_ro {cs ss bs q : List Nat} {r : Int} {g : Nat} (hm : cs.length ≤ 1048576) (h : growR cs ss bs r = some (q, g)) : CallA Try.prog 15 [.agg [.ro (flts cs), .ro (flts ss), .ro (flts bs)], .int .i64 r] [] (Ret (.tup [.flt .f32 g, .ro (flts q), .bool true]) []) := by
  have := specGrowth_call cs ss bs r hm
  rw [h] at this
  exact this.frozen 4 (view_grow q g)
theorem view_life (q : List Nat) : view 4 [fltB q] (.tup [.sl 0 0 q.length, .bool true]) = .tup [.ro (flts q), .bool true] := by
  have h1 : List.take q.length (flts q) = flts q := List.take_of_length_le (by rw [flts_len]; omega)
  simp [fltB, view_tup1, view_flt, view_bool, view_sl, view_agg, map_view_flts, take_flts, flts_len, h1]
def lifeV (cs ss bs : List Nat) : AV := if lifeB cs ss bs then .tup [.ro (flts (lifeF ss)), .bool true] else .tup [.nils, .bool false]
theorem implLife_ro {cs ss bs : List Nat} (hm : cs.length ≤ 1048576) : CallA Try.prog 18 [.agg [.ro (flts cs), .ro (flts ss), .ro (flts bs)]] [] (Ret (lifeV cs ss bs) []) := by
  unfold lifeV
  cases h : lifeB cs ss bs with
  | true => exact (implLife_yes hm h).frozen 4 (view_life _)
  | false => exact implLife_no hm h
theorem specLife_ro {cs ss bs : List Nat} (hm : cs.length ≤ 1048576) : CallA Try.prog 19 [.agg [.ro (flts cs), .ro (flts ss), .ro (flts bs)]] [] (Ret (lifeV cs ss bs) []) := by
  unfold lifeV
  cases h : lifeB cs ss bs with
  | true => exact (specLife_yes hm h).frozen 4 (view_life _)
  | false => exact specLife_no hm h
end Go.Proofs.Ytemeaobpedfkmaa
