/- Scales that are drawn. -/
import Derived.Test.YtpjifmfpddjeiaaLibT
set_option maxRecDepth 10000
set_option maxHeartbeats 4000000
set_option linter.unusedSimpArgs false
set_option linter.unusedVariables false
namespace Go.Proofs.Ytpjifmfpddjeiaa
open Go Go.Abs

theorem srcB_below (N : Nat) (code : List Int) (a : Nat) (sd : Int) : allBelow N (srcB code a sd).els = true := rfl
theorem srcB_kill (code : List Int) (a : Nat) (sd : Int) (b : Nat) : ({ ty := (srcB code a sd).ty, w := (srcB code a sd).w, els := List.map (kill b) (srcB code a sd).els, live := (srcB code a sd).live } : Blk) = srcB code a sd := rfl
theorem pick_at {code : List Int} (hc : byteL code) (hl : code.length ≤ 1048576) {a : Nat} (ha : a ≤ 1000000000) {sd : Int} {m : Int} (h1 : 1 ≤ m) (h2 : m ≤ 1000000) {rest : List Blk} {Q : AV → List Blk → Prop} {t : Tok Q}
    (hQ : ∀ (x : Int) (a' : Nat) (sd' : Int), (0 ≤ x ∧ x < m) → a' ≤ a + 2 → Q (.int .i64 x) (srcB code a' sd' :: rest)) : CallP Try.prog 25 [.ptr 0 0 0, .int .i64 m] (srcB code a sd :: rest) Q t := by
  refine call_handedQ [0] (pick_call code hc hl a ha sd m h1 h2) (by decide) ⟨⟨rfl, rfl⟩, trivial⟩ rfl rfl ?_
  rintro r hps' ⟨x, a', sd', hx, ha', rfl, rfl⟩
  refine ⟨by intro q hq; simp at hq; subst hq; rfl, ?_⟩
  have := hQ x a' sd' hx ha'
  simpa [putF, ren, renM, renL] using this
theorem asc_snoc : ∀ (bs : List Int) (t : Int), Asc bs → (∀ b ∈ bs, b < t) → Asc (bs ++ [t])
  | [], t, _, _ => trivial
  | [a], t, _, h => ⟨h a (by simp), trivial⟩
  | a :: b :: l, t, ha, h => ⟨ha.1, asc_snoc (b :: l) t ha.2 fun x hx => h x (by simp [hx])⟩

structure Dr where
  bs : List Int
  rs : List Int
  a : Nat
  sd : Int
  top : Int
  n : Int
structure Dr.Ok (d : Dr) : Prop where
  asc : Asc d.bs
  len : d.rs.length = d.bs.length
  low : ∀ b ∈ d.bs, 0 ≤ b ∧ b < d.top
  rate : ∀ r ∈ d.rs, 0 ≤ r ∧ r ≤ 10000
  head : d.bs.head? = some 0 ∨ (d.bs = [] ∧ d.top = 0)
  n0 : 0 ≤ d.n
  all : (d.bs.length : Int) + d.n ≤ 4
  some : 1 ≤ (d.bs.length : Int) + d.n
  at_ : (d.a : Int) ≤ 2 + 8 * d.bs.length
  cap : d.top ≤ 4000 * d.bs.length
theorem Dr.Ok.top0 {d : Dr} (D : d.Ok) : 0 ≤ d.top := by
  have h2 := D.low
  rcases D.head with h | ⟨_, h⟩
  · obtain ⟨bs, rs, a, sd, top, n⟩ := d
    simp only [] at h h2 ⊢
    cases bs with
    | nil => simp at h
    | cons b bs => have := h2 b (by simp); omega
  · omega
theorem Dr.Ok.next {bs rs : List Int} {a : Nat} {sd top n : Int} (D : Dr.Ok ⟨bs, rs, a, sd, top, n⟩) (hn : 0 < n) {r x : Int} (hr : 0 ≤ r ∧ r ≤ 10000) (hx : 0 ≤ x ∧ x < 40) {a' : Nat} (ha : a' ≤ a + 8) (sd' : Int) : Dr.Ok ⟨bs ++ [top], rs ++ [r], a', sd', top + (1 + 100 * x), n - 1⟩ := by
  have h1 := D.head
  have h2 := D.low
  have h3 := D.len
  have h4 := D.all
  have h5 := D.at_
  have h6 := D.cap
  have h7 := D.rate
  simp only [] at h1 h2 h3 h4 h5 h6 h7
  have top0 : 0 ≤ top := by
    rcases h1 with h | ⟨_, h⟩
    · cases bs with
      | nil => simp at h
      | cons b bs => have := h2 b (by simp); omega
    · omega
  refine ⟨asc_snoc bs top D.asc fun b hb => (h2 b hb).2, by simp [h3], ?_, ?_, ?_, by show 0 ≤ n - 1; omega, by simp; omega, by simp; omega, by simp; omega, by simp; omega⟩
  · intro b hb
    show 0 ≤ b ∧ b < top + (1 + 100 * x)
    rcases List.mem_append.1 hb with hb | hb
    · have := h2 b hb; omega
    · simp at hb; omega
  · intro r' hr'
    rcases List.mem_append.1 hr' with hb | hb
    · exact h7 r' hb
    · simp at hb; subst hb; exact hr
  · left
    rcases h1 with h | ⟨h, h'⟩
    · cases bs with
      | nil => simp at h
      | cons b bs => simpa using h
    · subst h; subst h'; rfl
theorem Dr.Ok.done {bs rs : List Int} {a : Nat} {sd top n : Int} (D : Dr.Ok ⟨bs, rs, a, sd, top, n⟩) (hn : n = 0) : Scl bs rs ∧ bs.length ≤ 4 ∧ (∀ b ∈ bs, b ≤ 16000) ∧ a ≤ 40 := by
  have h1 := D.head
  have h2 := D.low
  have h3 := D.len
  have h4 := D.all
  have h5 := D.at_
  have h6 := D.cap
  have h7 := D.some
  simp only [] at h1 h2 h3 h4 h5 h6 h7
  refine ⟨⟨D.asc, h3, ?_, by omega, fun b hb => by have := h2 b hb; omega, D.rate⟩, by omega, fun b hb => by have := h2 b hb; omega, by omega⟩
  rcases h1 with h | ⟨h, h'⟩
  · exact h
  · subst h; simp at h7; omega
end Go.Proofs.Ytpjifmfpddjeiaa
