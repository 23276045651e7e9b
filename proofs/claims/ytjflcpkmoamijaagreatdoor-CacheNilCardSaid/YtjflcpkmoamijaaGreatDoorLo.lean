import Derived.Test.YtjflcpkmoamijaaGreatDoorTi2
namespace Go.Proofs.YtjflcpkmoamijaaGreatDoor
open Go.RowKit
set_option linter.unusedVariables false
set_option linter.unusedSimpArgs false
set_option linter.unnecessarySimpa false

/-! ### What the records of a cache's journal make: plain Lean -/
def sumS (l : List ByteArray) : Nat := (l.map (·.size)).sum
theorem sumS_app (l : List ByteArray) (s : ByteArray) : sumS (l ++ [s]) = sumS l + s.size := by simp [sumS]
theorem cnt_ge (n : Nat) : n ≤ 64 * cnt n := by unfold cnt; omega
theorem scan_size {D : Dev} {a h : Nat} : ∀ {k u : Nat} {l : List ByteArray} {u' : Nat} {l' : List ByteArray}, scanP D a h k u l = some (u', l') → u ≤ h → sumS l ≤ 64 * u → l.length ≤ u → u' ≤ h ∧ sumS l' ≤ 64 * u' ∧ l'.length ≤ u'
  | 0, u, l, u', l', e, hu, hs, hl => by simp [scanP] at e; obtain ⟨rfl, rfl⟩ := e; exact ⟨hu, hs, hl⟩
  | k + 1, u, l, u', l', e, hu, hs, hl => by
    unfold scanP at e
    split at e
    · simp at e; obtain ⟨rfl, rfl⟩ := e; exact ⟨hu, hs, hl⟩
    · split at e
      · simp at e; obtain ⟨rfl, rfl⟩ := e; exact ⟨hu, hs, hl⟩
      · split at e
        · cases e
        · rename_i n _
          split at e
          · cases e
          · rename_i hn
            have h1 := cnt_ge n
            refine scan_size e (by omega) ?_ (by simp; omega)
            rw [sumS_app]
            have : ((catS D (a + u + 1) (cnt n)).extract 0 n).size ≤ n := by simp only [ByteArray.size_extract]; omega
            omega
theorem parse_size {D : Dev} {ep u : Nat} {l : List ByteArray} (h : parseP D = some (ep, u, l)) : u ≤ hlf D ∧ sumS l ≤ 64 * u ∧ l.length ≤ u ∧ ep ≤ 2147483647 := by
  unfold parseP at h
  split at h
  · cases h
  · split at h
    · cases h
    · rename_i ep' hep
      rw [Option.map_eq_some_iff] at h
      obtain ⟨⟨u', l'⟩, hsc, e⟩ := h
      simp at e
      obtain ⟨rfl, rfl, rfl⟩ := e
      have := scan_size hsc (Nat.zero_le _) (by simp [sumS]) (by simp)
      exact ⟨this.1, this.2.1, this.2.2, numJ_le hep⟩
theorem nil_size (s : ByteArray) : (⟨#[]⟩ : ByteArray).size ≤ s.size := by
  have h0 : (⟨#[]⟩ : ByteArray).size = 0 := rfl
  omega
theorem textR_size (s : ByteArray) (a : Nat) (most : Int) : (textR s a most).1.size ≤ s.size := by
  unfold textR
  generalize countR s a most = c
  by_cases h1 : c.2.1 = 0
  · rw [if_pos h1]
    by_cases h2 : (s.size : Int) - c.2.2 < c.1
    · rw [if_pos h2]; exact nil_size s
    · rw [if_neg h2]
      show (s.extract _ _).size ≤ _
      simp only [ByteArray.size_extract]; omega
  · rw [if_neg h1]; exact nil_size s
theorem textM_size (s : ByteArray) (a : Nat) (er most : Int) : (textM s a er most).1.size ≤ s.size := by
  have h := textR_size s a most
  unfold textM
  generalize textR s a most = c at *
  by_cases h1 : er = 0
  · rw [if_pos h1]
    by_cases h2 : c.2.1 = 0
    · rw [if_pos h2]; exact h
    · rw [if_neg h2]; exact nil_size s
  · rw [if_neg h1]; exact nil_size s
theorem decLoop_len (s : ByteArray) : ∀ (n a : Nat) (er : Int) (l : List Bl), (decLoop s n a er l).2.length ≤ l.length + n
  | 0, a, er, l => by simp [decLoop]
  | n + 1, a, er, l => by
    unfold decLoop
    split
    · simp only [List.length_append, List.length_cons, List.length_nil]; omega
    · have := decLoop_len s n (rdText s a er).2.1 (rdText s a er).2.2 (l ++ [⟨rdTile s a er, (rdText s a er).1⟩])
      simp at this; omega
theorem decLoop_size (s : ByteArray) : ∀ (n a : Nat) (er : Int) (l : List Bl), (∀ b ∈ l, b.s.size ≤ s.size) → ∀ b ∈ (decLoop s n a er l).2, b.s.size ≤ s.size
  | 0, a, er, l, h => by simpa [decLoop] using h
  | n + 1, a, er, l, h => by
    have h2 : ∀ b ∈ l ++ [(⟨rdTile s a er, (rdText s a er).1⟩ : Bl)], b.s.size ≤ s.size := by
      intro b hb
      rcases List.mem_append.1 hb with hb | hb
      · exact h b hb
      · simp at hb; rw [hb]; exact textM_size _ _ _ _
    unfold decLoop
    split
    · exact h2
    · exact decLoop_size s n _ _ _ h2
theorem dec_len (s : ByteArray) (hs : s.size ≤ 1000000000) : (decP s).2.1.length ≤ s.size := by
  have h1 := decLoop_len s (countM s (uintM s 0 0).2.1 (uintM s 0 0).2.2 s.size).1.toNat (countM s (uintM s 0 0).2.1 (uintM s 0 0).2.2 s.size).2.1 (countM s (uintM s 0 0).2.1 (uintM s 0 0).2.2 s.size).2.2 []
  have h2 := countM_range (s := s) (a := (uintM s 0 0).2.1) (er := (uintM s 0 0).2.2) (most := s.size) (by omega) (by omega)
  show (decLoop _ _ _ _ _).2.length ≤ _
  simp at h1; omega
theorem ord_ok {l : List Bl} (h : ordB l = true) : ∀ b ∈ l, b.t.ok = true := by
  intro b hb
  obtain ⟨i, hi, rfl⟩ := List.getElem_of_mem hb
  unfold ordB at h
  rw [List.all_eq_true] at h
  have := h i (by simpa using hi)
  unfold goodAt at this
  rw [Bool.and_eq_true, tlAt_get hi] at this
  exact this.1
theorem ok_fits {t : Tl} (h : t.ok = true) : InInt t.z ∧ InInt t.x ∧ InInt t.y := by
  unfold Tl.ok at h
  simp at h
  obtain ⟨h1, h2, h3, h4, h5, h6⟩ := h
  have hz : t.z.toNat ≤ 7 := by omega
  have hp : (2 : Int) ^ t.z.toNat ≤ 128 := by
    rcases (by omega : t.z.toNat = 0 ∨ t.z.toNat = 1 ∨ t.z.toNat = 2 ∨ t.z.toNat = 3 ∨ t.z.toNat = 4 ∨ t.z.toNat = 5 ∨ t.z.toNat = 6 ∨ t.z.toNat = 7) with e | e | e | e | e | e | e | e <;> rw [e] <;> decide
  unfold InInt
  omega
theorem dec_fits {s : ByteArray} (hs : s.size ≤ 1000000000) (h : ordB (decP s).2.1 = true) : ∀ b ∈ (decP s).2.1, b.fits := by
  intro b hb
  have h1 := ok_fits (ord_ok h b hb)
  have h2 : b.s.size ≤ s.size := decLoop_size s _ _ _ [] (by simp) b hb
  exact ⟨h1.1, h1.2.1, h1.2.2, by omega⟩
def recOk (s : ByteArray) (ver : Int) : Bool := (decP s).2.2 && decide (ver < (decP s).1) && decide ((decP s).1 ≤ 2147483647) && ordB (decP s).2.1
def loadL : List ByteArray → Int → List Bl → Option (Int × List Bl)
  | [], v, T => some (v, T)
  | s :: r, v, T => if recOk s v then loadL r (decP s).1 (applyT T (decP s).2.1) else none
end Go.Proofs.YtjflcpkmoamijaaGreatDoor
