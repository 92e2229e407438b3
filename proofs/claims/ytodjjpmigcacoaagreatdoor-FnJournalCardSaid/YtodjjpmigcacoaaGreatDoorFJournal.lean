/- The law FnJournal returns true: no condition. -/
import Derived.Test.YtodjjpmigcacoaaGreatDoorTrK
import Derived.Test.YtodjjpmigcacoaaGreatDoorAbsM5
import Derived.Test.YtodjjpmigcacoaaGreatDoorCards
import Derived.Test.YtodjjpmigcacoaaGreatDoorTie
import Derived.Deep.DeepHandedRow
import Derived.LaidLaws
import Derived.Stop.LaidErr
import Derived.Lib.LaidTab
import Derived.Shelf.Vars
import Derived.WalkKit
import Derived.ProofKit
import Derived.OpenShut
import Derived.ShutString
import Derived.ChangeOld
import Derived.Below
import Derived.Laws.Cover2
namespace Go.Proofs.YtodjjpmigcacoaaGreatDoor.LJournal
open Go Go.Abs Go.ChangeShapes Go.WideShapes Go.ChangeAt Go.RowKit
set_option linter.unusedVariables false
theorem own : ownKnob Tryz.prog.godebug = none := by kernel_rfl
theorem laidOut : laidOutB Tryz.prog = true := by kernel_rfl
set_option maxRecDepth 100000 in
theorem walk (l0 : AV) (x0 : Value) (l1 : AV) (x1 : Value) (w : World) (hT : Laid Tryz.prog w fun c => c < w.heap.size) (rv0 : RV (lawEnv (P := Tryz.prog) w fun c => c < w.heap.size) l0 x0) (of0 : OfT Tryz.prog 8 22 [l0]) (rv1 : RV (lawEnv (P := Tryz.prog) w fun c => c < w.heap.size) l1 x1) (of1 : OfT Tryz.prog 8 22 [l1]) :
    Calls Tryz.prog 4 #[x0, x1] w fun e w' => e = .returned (.bool true) ∧ Below w.heap.size w w' :=
  law_walk go4 (vs := [x0, x1]) (F := fun c => c < w.heap.size) (journalLaw l0 l1 of0 of1) (fun _ h => h) rfl (rvs_cons rv0 (rvs_cons rv1 rvs_nil)) hT
set_option maxRecDepth 100000 in
theorem contract (H : Type) (enc : TypeId × Value → H) (W : World) (base : Nat) (args : Array Value) (ds gs : List (DataW H)) (before : List MemPlace)
    (hval0 : ∀ (j : Nat) t v, Tryz.f4.params[j]? = some t → args[j]? = some v → Value.okWide Tryz.prog W .any base t v)
    (hW : DataW.Whole enc Tryz.prog Tryz.f4.params.toList Rows.fnJournalSpec.vars false W args.toList ds gs before) (hT : Laid Tryz.prog W fun c => c < W.heap.size) :
    Calls Tryz.prog 4 args W fun e W' => ∃ v, e = .returned v ∧ Rows.fnJournalSpec.post enc Tryz.prog Tryz.f4 false true false false W args v W' := by
  have hval : ∀ (j : Nat) t v, Tryz.f4.params[j]? = some t → args[j]? = some v → Value.okWide Tryz.prog W .any base t v := hval0
  have hW' := hW
  obtain ⟨p, q, hA0, hV, rfl, hfz, hnd⟩ := hW
  have hA : DataW.TrodAll enc Tryz.prog W 0 (fun _ => true) true Tryz.f4.params.toList args.toList ds p := hA0
  rw [Tryz.params4] at hA hval
  obtain ⟨v0, vs0, d0, ds0, p0, q0, hargs, rfl, rfl, h0, r0⟩ := trodAll_cons hA
  obtain ⟨v1, vs1, d1, ds1, p1, q1, rfl, rfl, rfl, h1, r1⟩ := trodAll_cons r0
  obtain ⟨rfl, rfl, rfl⟩ := trodAll_nil r1
  obtain rfl : args = #[v0, v1] := by cases args; simp_all
  obtain ⟨rfl, rfl⟩ := trodVars_none hV
  obtain ⟨a0, len0, cap0, rfl⟩ := okWide_slice Tryz.underlying22 (hval 0 22 v0 rfl rfl)
  have k0 := h0
  have lt0 : ∀ x ∈ p0, x.block < W.heap.size := by obtain ⟨m, hm⟩ := k0; exact DataW.trod_lt m _ _ _ hm
  obtain ⟨l0, rv0, of0⟩ := arg_one (m := 8) (by kernel_rfl) rfl h0
  obtain ⟨a1, len1, cap1, rfl⟩ := okWide_slice Tryz.underlying22 (hval 1 22 v1 rfl rfl)
  have k1 := h1
  have lt1 : ∀ x ∈ p1, x.block < W.heap.size := by obtain ⟨m, hm⟩ := k1; exact DataW.trod_lt m _ _ _ hm
  obtain ⟨l1, rv1, of1⟩ := arg_one (m := 8) (by kernel_rfl) rfl h1
  clear hA0 hval0
  refine (walk l0 _ l1 _ W hT rv0 of0 rv1 of1).mono fun e W' ⟨he, bel⟩ => ?_
  subst he
  exact ⟨_, rfl, _, _, _, [], _, [], hW', trodAll_mk1 (shut_bool Tryz.underlying4 _), (trodAll_cons_mk (Below.trod laidOut (by kernel_rfl) (of_decide_eq_true (by kernel_rfl)) k0 bel lt0) (trodAll_cons_mk (Below.trod laidOut (by kernel_rfl) (of_decide_eq_true (by kernel_rfl)) k1 bel lt1) trodAll_mk0)), rfl, bel.frame _, fun h => by cases h⟩
theorem star : "*" ++ "errors.errorString" = "*errors.errorString" := by decide
theorem rowE (u : TypeId) (h : Tryz.prog.typeName? 3 u = some "*errors.errorString") : u = 238 :=
  typeName_ptr_named (nm := "errors.errorString") (by rw [star]; kernel_rfl) (by kernel_rfl) (by decide) u (by rw [star]; exact h)
theorem cellsE : Tryz.prog.cellsOf 240 = 1 := by kernel_rfl
theorem cellsS : Tryz.prog.cellsOf 9 = 1 := by kernel_rfl
theorem tab_eq1 : (Rows.laid_math_bits_deBruijn64tab : DataW Unit) = Lib.tabData .u8 bits64 := by kernel_rfl
theorem tab_eq2 : (Rows.laid_internal_strconv_uint64pow10 : DataW Unit) = Lib.tabData .u64 Lib.pow10Tab := by kernel_rfl
set_option maxRecDepth 100000 in
theorem laidTab {W : World} (h : laidMetH Tryz.prog Rows.fnJournalRow.laid W) (hS : W.ShapedOpen Tryz.prog) : Laid Tryz.prog W fun c => c < W.heap.size := by
  have h1 : laidMet Tryz.prog [("math/bits.deBruijn32tab", Rows.laid_math_bits_deBruijn32tab), ("math/bits.deBruijn64tab", Rows.laid_math_bits_deBruijn64tab), ("internal/strconv.uint64pow10", Rows.laid_internal_strconv_uint64pow10), ("unicode/utf8.acceptRanges", Rows.laid_unicode_utf8_acceptRanges), ("strconv.ErrRange", Rows.laid_strconv_ErrRange), ("strconv.ErrSyntax", Rows.laid_strconv_ErrSyntax), ("unicode/utf8.first", Rows.laid_unicode_utf8_first)] W := h
  refine laid_of_tabs (fun t ht hs => ?_) (fun n hn hg => ?_) (fun n hn g hg => ?_)
  · have hh : t = ("internal/strconv.uint64pow10", .u64, Lib.pow10Tab) ∨ t = ("math/bits.deBruijn64tab", .u8, bits64) := by simpa [tables] using ht
    rcases hh with rfl | rfl
    · have h2 := h1.tail.tail
      rw [tab_eq2] at h2
      exact Lib.tabIs_of_head (g := 2) (t := 219) (e := 95) (n := 20) (by kernel_rfl) (by kernel_rfl) (by kernel_rfl) (by kernel_rfl) (by kernel_rfl) (by kernel_rfl) h2
    · have h2 := h1.tail
      rw [tab_eq1] at h2
      exact Lib.tabIs_of_head (g := 10) (t := 255) (e := 5) (n := 64) (by kernel_rfl) (by kernel_rfl) (by kernel_rfl) (by kernel_rfl) (by kernel_rfl) (by kernel_rfl) h2
  · have hn : n = "strconv.ErrSyntax" ∨ n = "strconv.ErrRange" := by simpa [errs] using hn
    rcases hn with rfl | rfl
    · obtain ⟨a, s, hv, _⟩ := laid_sentinel (h1.tail.tail.tail.tail.tail) (g := 3) (ti := 73) (by kernel_rfl) (by kernel_rfl) Tryz.underlying73 rowE Tryz.underlying238 Tryz.underlying240 rfl rfl Tryz.underlying9 cellsE cellsS
      exact ⟨_, hv, .inr ⟨_, _, rfl⟩⟩
    · obtain ⟨a, s, hv, _⟩ := laid_sentinel (h1.tail.tail.tail.tail) (g := 4) (ti := 73) (by kernel_rfl) (by kernel_rfl) Tryz.underlying73 rowE Tryz.underlying238 Tryz.underlying240 rfl rfl Tryz.underlying9 cellsE cellsS
      exact ⟨_, hv, .inr ⟨_, _, rfl⟩⟩
  · obtain rfl : n = "internal/bytealg.MaxLen" := by simpa [intVars] using hn
    obtain rfl : g = 1 := Option.some.inj (hg.symm.trans (show Tryz.prog.globalNamed "internal/bytealg.MaxLen" = some 1 by kernel_rfl))
    exact cell_of_shapedOpen_int (zero := #[.int .i64 0]) (t := 3) hS (of_decide_eq_true (by kernel_rfl)) (by kernel_rfl) rfl (by kernel_rfl) (by kernel_rfl) Tryz.underlying3
def putCells (l : List Value) : Obj → Obj
  | .cells _ t frozen => .cells l.toArray t frozen
  | o => o
def litOf : DataW Unit → Value
  | .lit (.int k z) => .int k z
  | _ => .nilFunc
def litsOf : DataW Unit → List Value
  | .agg l => l.flatMap fun
    | .agg m => m.map litOf
    | d => [litOf d]
  | _ => []
noncomputable def low : Nat := (World.holding Tryz.prog default ⟨#[], #[], []⟩).heap.size
noncomputable def laidWorld (os : Os) : World :=
  { World.holding Tryz.prog os ⟨#[.cells #[.string ⟨#[118, 97, 108, 117, 101, 32, 111, 117, 116, 32, 111, 102, 32, 114, 97, 110, 103, 101]⟩] 240, .cells #[.string ⟨#[105, 110, 118, 97, 108, 105, 100, 32, 115, 121, 110, 116, 97, 120]⟩] 240], #[], []⟩ with heap := ((((((((World.holding Tryz.prog os ⟨#[.cells #[.string ⟨#[118, 97, 108, 117, 101, 32, 111, 117, 116, 32, 111, 102, 32, 114, 97, 110, 103, 101]⟩] 240, .cells #[.string ⟨#[105, 110, 118, 97, 108, 105, 100, 32, 115, 121, 110, 116, 97, 120]⟩] 240], #[], []⟩).heap.modify 9 (putCells (litsOf Rows.laid_math_bits_deBruijn32tab))).modify 10 (putCells (litsOf Rows.laid_math_bits_deBruijn64tab))).modify 2 (putCells (litsOf Rows.laid_internal_strconv_uint64pow10))).modify 8 (putCells (litsOf Rows.laid_unicode_utf8_acceptRanges))).modify 4 (putCells [.iface 238 (.pointer (some ⟨low + 0, 0, none⟩))])).modify 3 (putCells [.iface 238 (.pointer (some ⟨low + 1, 0, none⟩))])).modify 7 (putCells (litsOf Rows.laid_unicode_utf8_first))) }
set_option maxRecDepth 100000 in
theorem laid_met (os : Os) : laidMet Tryz.prog Rows.fnJournalRow.laid ((laidWorld os).forCall (fun _ _ => 0) ⟨#[], #[.slice none 0 0, .slice none 0 0], []⟩).memory :=
  laidMet_of_run' 8 (by kernel_rfl) (by kernel_rfl)
set_option maxRecDepth 100000 in
theorem reads (os : Os) {H : Type} (enc : TypeId × Value → H) : ∃ places, DataW.whole enc Tryz.prog ((laidWorld os).forCall (fun _ _ => 0) ⟨#[], #[.slice none 0 0, .slice none 0 0], []⟩).memory Tryz.f4.params.toList Rows.fnJournalSpec.vars false #[Value.slice none 0 0, Value.slice none 0 0].toList 8 = some ([.nil, .nil], [], places) :=
  ⟨[], by kernel_rfl⟩
set_option maxRecDepth 100000 in
theorem lifted (os : Os) (started : os.Started) (H : Type) (enc : TypeId × Value → H) (F : Stop.Interp) :
    ReturnsInHanded {} Tryz.checked os 4 .any ((OpenSpec.ofChange Rows.fnJournalSpec).preRow enc Tryz.prog Tryz.f4 Rows.fnJournalRow.domain false Rows.fnJournalRow.laid) (((OpenSpec.ofChange Rows.fnJournalSpec).at F).post enc Tryz.prog Tryz.f4 false true false false) := by
  obtain ⟨places, hx⟩ := reads os enc
  refine returnsInHanded_of_row (C := Tryz.checked) (s := OpenSpec.ofChange Rows.fnJournalSpec) own started (by kernel_rfl) Tryz.func4
    (witness_row_at (enc := enc) (C := Tryz.checked) false (laidWorld os) #[.slice none 0 0, .slice none 0 0] rfl (by kernel_rfl) (by kernel_rfl) (by kernel_rfl)
      (OpenSpec.preRow_of_cond 8 hx (by kernel_rfl) (fun k hk => by cases hk) (by kernel_rfl) (laid_met os))) ?_
  intro W base args ds gs before hval hW _ _ _ hL hS _
  exact contract H enc W base args ds gs before hval hW (laidTab hL hS)
theorem said : Rows.FnJournalSaid :=
  OpenClaim.holds_of_cond 4 Tryz.f4 rfl rfl rfl rfl rfl rfl rfl ⟨rfl, rfl, rfl, rfl, rfl⟩ rfl rfl rfl rfl rfl (by kernel_rfl) Tryz.func4 (by kernel_rfl)
    (of_decide_eq_true (by kernel_rfl)) (by unfold Func.isWrapper; first | (rw [if_pos (by decide +kernel)]; kernel_rfl) | (rw [if_neg (by decide +kernel)]; exact ⟨rfl, rfl⟩))
    (fun os started H enc _ F => by rw [OpenClaim.pre_eq_preRow]; exact lifted os started H enc F)
theorem plain (f : FuncId) (fn : Func) (hf : Tryz.pinned.checked.prog.funcNamed "loop.example/g01393/laws.FnJournal" = some f) (hfn : Tryz.pinned.checked.prog.funcs[f]? = some fn) :
    true = Tryz.pinned.checked.prog.looks [] ∧ ∀ (j : Nat) t, fn.params[j]? = some t → Tryz.pinned.checked.prog.wantsStandIn t = false := by
  obtain rfl : f = 4 := Option.some.inj ((show Tryz.prog.funcNamed "loop.example/g01393/laws.FnJournal" = some 4 by kernel_rfl).symm.trans hf) |>.symm
  obtain rfl : fn = Tryz.f4 := (Option.some.inj (Tryz.func4.symm.trans hfn)).symm
  refine ⟨by kernel_rfl, fun j t ht => ?_⟩
  rw [Tryz.params4] at ht
  obtain rfl : t = 22 := by simpa using Array.mem_of_getElem? ht
  exact (show Tryz.prog.wantsStandIn 22 = false by kernel_rfl)
theorem proved : Rows.FnJournalCardSaid :=
  Claim7.holds_tied_plain_at .later [] _ _ _ _ said (fun _ h => by cases h) (by kernel_rfl) (fun _ h => by cases h) fnJournal_row_tie rfl ⟨rfl, rfl⟩ (by kernel_rfl) rfl plain (by kernel_rfl)
end Go.Proofs.YtodjjpmigcacoaaGreatDoor.LJournal
