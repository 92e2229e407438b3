/- Powers of e, as the program finds them: plain. -/
import Derived.Test.YthildgdbgjgidaaEnC
import Derived.Test.YthildgdbgjgidaaAbsM4
set_option maxRecDepth 10000
set_option maxHeartbeats 4000000
set_option linter.unusedSimpArgs false
set_option linter.unusedVariables false
namespace Go.Proofs.Ythildgdbgjgidaa
open Go Go.Abs

def expP (t : Nat) : Nat → Nat
  | 0 => 4607182418800017408
  | r + 1 => fadd .f64 4607182418800017408 (fdiv .f64 (fmul .f64 t (expP t r)) (eF (12 - (r : Int))))
def sqF (p : Nat) : Nat → Nat
  | 0 => p
  | n + 1 => fmul .f64 (sqF p n) (sqF p n)
def expW (x : Nat) : Nat := sqF (expP (fdiv .f64 (fconv .f64 .f32 x) 4643211215818981376) 12) 8
def expF (x : Nat) : Nat := fconv .f32 .f64 (expW x)
def argF (z : Int) : Nat := fadd .f32 1065353216 (fdiv .f32 (iF z) (iF 10000))
def sumR (l : Nat) : Nat → Nat
  | 0 => 0
  | n + 1 => fadd .f32 (sumR l n) l
def nOk (x : Nat) : Bool := match FloatKind.f64.decode x with
  | .number n m e => !(FloatKind.f32.decode (FloatKind.f32.encode (.number n m e))).isInfinity
  | _ => true
theorem nOk_ok {x : Nat} (h : nOk x = true) : fconvOk .f32 .f64 x := by
  right
  unfold nOk at h
  cases hd : FloatKind.f64.decode x with
  | number n m e => rw [hd] at h; simpa using h
  | infinity s => trivial
  | nan s t => trivial
def gap8 (a b : Nat) : Nat := fmax .f64 (fsub .f64 (fconv .f64 .f32 a) (fconv .f64 .f32 b)) (fsub .f64 (fconv .f64 .f32 b) (fconv .f64 .f32 a))
def meanF (a : Nat) : Nat := fsub .f32 (expF a) 1065353216
def testE (z : Int) (a : Nat) : Bool := !(fgt .f32 a 1128792064) && !(flt .f32 a 3276275712) && nOk (expW a) && finB .f32 (meanF a) && !(fgt .f64 (gap8 (meanF a) (fdiv .f32 (iF z) (iF 10000))) 4562254508917369340)
def now_ {α : Type} (p : Nat) (k : Nat → α) : α := match p with
  | 0 => k 0
  | n + 1 => k (n + 1)
theorem now_eq {α : Type} (p : Nat) (k : Nat → α) : now_ p k = k p := by cases p <;> rfl
def expK (t : Nat) : Nat → Nat
  | 0 => 4607182418800017408
  | r + 1 => now_ (expK t r) fun q => fadd .f64 4607182418800017408 (fdiv .f64 (fmul .f64 t q) (eF (12 - (r : Int))))
theorem expK_eq (t : Nat) : ∀ r, expK t r = expP t r
  | 0 => rfl
  | r + 1 => by rw [expK, now_eq, expK_eq t r]; rfl
def sqK (p : Nat) : Nat → Nat
  | 0 => p
  | n + 1 => now_ (sqK p n) fun q => fmul .f64 q q
theorem sqK_eq (p : Nat) : ∀ n, sqK p n = sqF p n
  | 0 => rfl
  | n + 1 => by rw [sqK, now_eq, sqK_eq p n]; rfl
def testK (z : Int) (a : Nat) : Bool :=
  now_ (fdiv .f64 (fconv .f64 .f32 a) 4643211215818981376) fun t => now_ (expK t 12) fun p => now_ (sqK p 8) fun w => now_ (fconv .f32 .f64 w) fun e => now_ (fsub .f32 e 1065353216) fun m => now_ (fdiv .f32 (iF z) (iF 10000)) fun r =>
    !(fgt .f32 a 1128792064) && !(flt .f32 a 3276275712) && nOk w && finB .f32 m && !(fgt .f64 (gap8 m r) 4562254508917369340)
theorem testK_eq (z : Int) (a : Nat) : testK z a = testE z a := by
  unfold testK
  simp only [now_eq, expK_eq, sqK_eq]
  rfl
end Go.Proofs.Ythildgdbgjgidaa
