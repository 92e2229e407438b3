/- The abstract layer, part Z: calls that read known blocks and make new ones. -/
import Derived.Test.YtdhomifcjakbgaaDoorAbsY
set_option linter.unusedSimpArgs false
set_option linter.unusedVariables false
namespace Go.Abs
open Go
variable {P : Program}

theorem joinHp_flat {hp new : List Blk} (hf : ∀ q ∈ new, allBelow 0 q.els = true) : joinHp hp new = hp ++ new := by
  unfold joinHp
  congr 1
  have : ∀ l : List Blk, (∀ q ∈ l, allBelow 0 q.els = true) → l.map (renB fun b => b + hp.length) = l := by
    intro l
    induction l with
    | nil => intro _; rfl
    | cons q l ih => intro hl; rw [List.map_cons, renB_flat (hl q (by simp)), ih fun x hx => hl x (by simp [hx])]
  exact this new hf
/-- A call that only reads known blocks, and makes new ones of plain values. -/
theorem call_lent_new {P : Program} {f : FuncId} {args : List AV} {hp : List Blk} {Q : AV → List Blk → Prop} {t : Tok Q} (d : Nat) {r : AV} {new : List Blk} {args' : List AV} (hv : args.map (view d hp) = args') (h : CallA P f args' [] (Ret r new)) (hc : clean r = true) (hn : new.all cleanB = true)
    (hf : ∀ q ∈ new, allBelow 0 q.els = true) (hQ : Q (ren (fun b => b + hp.length) r) (hp ++ new)) : CallP P f args hp Q t := by
  refine call_at (CallA.borrow d ?_)
  rw [hv]
  refine h.mono ?_
  rintro r' hp' ⟨rfl, rfl⟩
  exact ⟨⟨hc, hn⟩, by rw [joinHp_flat hf]; exact hQ⟩
end Go.Abs
