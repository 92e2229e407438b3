/- The abstract layer, part ZD: the library's sort, by the kit's contract. -/
import Derived.Test.YtdhomifcjakbgaaDoorAbsZB
import Derived.Sort.OwnSortedInts
set_option linter.unusedSimpArgs false
set_option linter.unusedVariables false
namespace Go.Abs
open Go
variable {P : Program}

/-- The world with more blocks. -/
theorem HRel.extend {E : Env P} {hp : List Blk} (H : HRel E hp) {w' : World} (hs : E.w.heap.size ≤ w'.heap.size) (hh : ∀ c, c < E.w.heap.size → w'.heap[c]? = E.w.heap[c]?) (h1 : w'.os = E.w.os) (h2 : w'.tape = E.w.tape) (h3 : w'.output = E.w.output) :
    HRel (E.with w') hp ∧ (∀ {E0 : Env P} {hp0 : List Blk}, Fr E0 hp0 E hp → Fr E0 hp0 (E.with w') hp) ∧ E.le (E.with w') := by
  have hcsz : ∀ c, csz E.w c ≤ csz w' c := fun c => by
    by_cases hc : c < E.w.heap.size
    · unfold csz; rw [hh c hc]; exact Nat.le_refl _
    · unfold csz
      rw [Array.getElem?_eq_none (by omega)]
      exact Nat.zero_le _
  have le : E.le (E.with w') := ⟨fun _ h => h, fun c hc => hh c (H.old c hc), Nat.le_refl _, fun _ _ => rfl, fun _ _ => rfl, hcsz⟩
  refine ⟨⟨H.N, H.wd, fun b blk hb hl => ?_, H.inj, H.apart, fun c hc => Nat.lt_of_lt_of_le (H.old c hc) hs, H.laidLe le⟩, ?_, le⟩
  · obtain ⟨cs, h4, h5⟩ := (H.holds b blk hb hl).cells
    refine ⟨cs, ?_, fun i e he => ⟨(h5 i e he).1, fun j x hx => ?_⟩⟩
    · show w'.heap[E.ρ b]? = _
      rw [hh _ (Array.getElem?_eq_some_iff.1 h4).1]
      exact h4
    · obtain ⟨v, h6, h7⟩ := (h5 i e he).2 j x hx
      exact ⟨v, h6, h7.mono le⟩
  · intro E0 hp0 F
    exact { size := Nat.le_trans F.size hs, os := h1.trans F.os, tape := h2.trans F.tape, output := h3.trans F.output
            block := fun c hc hn => by
              show w'.heap[c]? = _
              rw [hh c (Nat.lt_of_lt_of_le hc F.size)]
              exact F.block c hc hn
            len := F.len, ρ := F.ρ, wd := F.wd, F := F.F, F' := F.F', live := F.live, csz := fun c => Nat.le_trans (F.csz c) (hcsz c) }

def sortI (zs : List Int) : List Int := zs.mergeSort fun x y => decide (x ≤ y)
theorem sortI_len (zs : List Int) : (sortI zs).length = zs.length := by simp [sortI]

/-- The library's sort of a list of integers that is known. -/
theorem sort_call {P : Program} {f : FuncId} {e : TypeId} {zs : List Int} (hgo : isGo P f)
    (h : ∀ (blk off cap : Nat) (w : World), Sort.Holds (Value.int .i64) w blk off zs.toArray → blk < w.heap.size → Calls P f #[.slice (some ⟨blk, off, none⟩) zs.length cap] w fun ex w' =>
      ex = .returned (.tuple #[]) ∧ ∃ n os, w' = Sort.grow (Sort.putRow (Value.int .i64) (Sort.ahead w n) blk off (zs.mergeSort fun x y => decide (x ≤ y)).toArray) os) :
    CallA P f [.sl 0 0 zs.length] [{ ty := e, w := 1, els := ints zs }] (Ret (.tup []) [{ ty := e, w := 1, els := ints (sortI zs) }]) := by
  intro E vs H hl hrv
  obtain ⟨v, rfl, hv⟩ := RV.one hl hrv
  have hv := hv
  cases hv with
  | sl _ _ _ off cap hb ho hcap hmax hroom =>
    obtain ⟨cs, hc1, hc2⟩ := (H.holds 0 _ rfl rfl).cells
    have hwd : E.wd 0 = 1 := H.wd 0 _ rfl
    have hoff : 0 < zs.length → off = 0 := fun hp => by have := ho (by omega); omega
    have hget : ∀ (i : Nat) (hi : i < zs.length), cs[i]? = some (.int .i64 zs[i]) := by
      intro i hi
      have he : (ints zs)[i]? = some (.int .i64 zs[i]) := by simp [ints, hi]
      obtain ⟨u, h3, h4⟩ := (hc2 i _ he).2 0 _ rfl
      cases h4
      simpa using h3
    have hlen : zs.length ≤ cs.size := by
      by_cases hz : zs.length = 0
      · omega
      · have := hget (zs.length - 1) (by omega)
        have := (Array.getElem?_eq_some_iff.1 this).1
        omega
    have hblk : E.ρ 0 < E.w.heap.size := (Array.getElem?_eq_some_iff.1 hc1).1
    have hH : Sort.Holds (Value.int .i64) E.w (E.ρ 0) off zs.toArray := by
      by_cases hz : zs.length = 0
      · intro j hj
        simp [hz] at hj
      · rw [hoff (by omega)]
        refine holds_of_blockI hc1 (List.ext_getElem? fun i => ?_)
        by_cases hi : i < zs.length
        · rw [List.getElem?_take_of_lt hi, Array.getElem?_toList, hget i hi]
          simp [hi]
        · rw [List.getElem?_take_eq_none (by omega), List.getElem?_eq_none (by simp; omega)]
    refine .inl ⟨hgo, (h (E.ρ 0) off cap E.w hH hblk).mono ?_⟩
    rintro ex w' ⟨rfl, n, os, rfl⟩
    refine ⟨_, rfl, .tup [], [{ ty := e, w := 1, els := ints (sortI zs) }], E.with _, rfl, ⟨rfl, rfl⟩, .tup [] #[] rfl (fun i a v h => by simp at h), ?_⟩
    let new := Sort.putCells (Value.int .i64) off (sortI zs).toArray cs
    have hnew : new.size = cs.size := by simp [new, Sort.putCells]
    have hel : EA E 1 (ints (sortI zs)) new := by
      intro i a ha
      have hi : i < zs.length := by
        have := (List.getElem?_eq_some_iff.1 ha).1
        simpa [ints, sortI_len] using this
      have ea : a = .int .i64 ((sortI zs)[i]'(by rw [sortI_len]; exact hi)) := by
        have : (ints (sortI zs))[i]? = some (.int .i64 ((sortI zs)[i]'(by rw [sortI_len]; exact hi))) := by simp [ints, sortI_len, hi]
        rw [this] at ha
        exact (Option.some.inj ha).symm
      subst ea
      refine ⟨rfl, fun j x hx => ?_⟩
      have hj : j = 0 := by
        have := (List.getElem?_eq_some_iff.1 hx).1
        simp [AV.cells] at this
        exact this
      subst hj
      have hx' : x = .int .i64 ((sortI zs)[i]'(by rw [sortI_len]; exact hi)) := by simpa [AV.cells] using hx.symm
      subst hx'
      refine ⟨_, ?_, .int .i64 _⟩
      have h0 : off = 0 := hoff (by omega)
      simp only [new, Sort.putCells, Array.getElem?_mapIdx, Nat.mul_one, Nat.add_zero]
      rw [Array.getElem?_eq_getElem (show i < cs.size from by omega), Option.map_some, if_pos (by simp [h0, sortI_len]; omega)]
      simp [h0, sortI_len, hi]
    obtain ⟨H1, F1, le1⟩ := write_block (b := 0) H (Fr.refl E _) rfl rfl (ints (sortI zs)) cs new hc1 hnew hel
    have hw : ∀ c, c < E.w.heap.size → (Sort.grow (Sort.putRow (Value.int .i64) (Sort.ahead E.w n) (E.ρ 0) off (sortI zs).toArray) os).heap[c]? = (E.w.setRow (E.ρ 0) new).heap[c]? := by
      intro c hc
      rw [Sort.heap_grow_old _ _ (by simpa using hc), setRow_get _ _ _ _ _ _ _ hc1]
      by_cases hcc : c = E.ρ 0
      · subst hcc
        rw [if_pos rfl]
        simp [Sort.putRow, Sort.mapBlock, Sort.ahead, Array.getElem?_modify, hc1, Sort.onCells, new]
      · rw [if_neg hcc]
        have : E.ρ 0 ≠ c := fun e => hcc e.symm
        simp [Sort.putRow, Sort.mapBlock, Sort.ahead, Array.getElem?_modify, this]
    have hsz1 : (E.w.setRow (E.ρ 0) new).heap.size = E.w.heap.size := by simp [World.setRow]
    obtain ⟨H2, F2, _⟩ := H1.extend (w' := Sort.grow (Sort.putRow (Value.int .i64) (Sort.ahead E.w n) (E.ρ 0) off (sortI zs).toArray) os) (by
      show (E.w.setRow (E.ρ 0) new).heap.size ≤ _
      rw [hsz1]; simp [Sort.putRow, Sort.mapBlock, Sort.ahead]) (fun c hc => hw c (by rw [← hsz1]; exact hc)) rfl rfl rfl
    exact ⟨H2, F2 F1⟩
end Go.Abs
