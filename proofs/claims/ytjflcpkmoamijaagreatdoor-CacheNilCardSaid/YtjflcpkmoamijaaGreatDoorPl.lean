import Derived.Test.YtjflcpkmoamijaaGreatDoorAp
namespace Go.Proofs.YtjflcpkmoamijaaGreatDoor
open Go.RowKit
set_option linter.unusedVariables false
set_option linter.unusedSimpArgs false
set_option linter.unnecessarySimpa false

/-! ### Lists of tiles in order: plain Lean -/
theorem less_iff (a b : Tl) : a.less b = true ↔ a.z < b.z ∨ (a.z = b.z ∧ (a.y < b.y ∨ (a.y = b.y ∧ a.x < b.x))) := by
  obtain ⟨z, x, y⟩ := a
  obtain ⟨z', x', y'⟩ := b
  unfold Tl.less
  simp only [Tl.mk.injEq, ne_eq]
  by_cases h1 : z = z'
  · by_cases h2 : y = y'
    · by_cases h3 : x = x'
      · simp [h1, h2, h3]
      · simp [h1, h2, h3]
    · simp [h1, h2]
  · simp [h1]
theorem less_irr (a : Tl) : a.less a = false := by simp [Tl.less]
theorem less_trans {a b c : Tl} (h : a.less b = true) (k : b.less c = true) : a.less c = true := by
  rw [less_iff] at *; omega
theorem less_total {a b : Tl} (h : a ≠ b) : a.less b = true ∨ b.less a = true := by
  obtain ⟨z, x, y⟩ := a
  obtain ⟨z', x', y'⟩ := b
  simp only [ne_eq, Tl.mk.injEq] at h
  simp only [less_iff]
  omega
theorem less_asym {a b : Tl} (h : a.less b = true) : b.less a = false := by
  cases hb : b.less a
  · rfl
  · rw [less_iff] at *; omega
theorem less_ne {a b : Tl} (h : a.less b = true) : a ≠ b := by rintro rfl; rw [less_irr] at h; cases h
def Sorted (T : List Bl) : Prop := T.Pairwise (fun a b => a.t.less b.t = true)
theorem Sorted.nodup {T : List Bl} (h : Sorted T) : (T.map (·.t)).Nodup := by
  unfold List.Nodup
  rw [List.pairwise_map]
  exact h.imp (fun hl => less_ne hl)
theorem look_mem {T : List Bl} {t : Tl} {s : ByteArray} (h : look T t = some s) : (⟨t, s⟩ : Bl) ∈ T := by
  unfold look at h
  rw [Option.map_eq_some_iff] at h
  obtain ⟨b, hb, rfl⟩ := h
  have h1 := List.mem_of_find?_eq_some hb
  have h2 := List.find?_some hb
  simp at h2
  subst h2
  exact h1
theorem mem_look {T : List Bl} (hn : (T.map (·.t)).Nodup) {b : Bl} (h : b ∈ T) : look T b.t = some b.s := by
  induction T with
  | nil => cases h
  | cons y r ih =>
    rw [List.map_cons, List.nodup_cons] at hn
    rw [look_cons]
    rcases List.mem_cons.1 h with rfl | h
    · rw [if_pos rfl]
    · have : y.t ≠ b.t := fun e => hn.1 (e ▸ List.mem_map_of_mem h)
      rw [if_neg this]
      exact ih hn.2 h
theorem ins_mem {T : List Bl} {x b : Bl} (h : b ∈ insT T x) : b = x ∨ b ∈ T := by
  induction T with
  | nil => left; simpa [insT] using h
  | cons y r ih =>
    rw [insT] at h
    split at h
    · rcases List.mem_cons.1 h with h | h
      · exact .inl h
      · exact .inr (List.mem_cons_of_mem _ h)
    · split at h
      · rcases List.mem_cons.1 h with h | h
        · exact .inl h
        · exact .inr h
      · rcases List.mem_cons.1 h with h | h
        · exact .inr (h ▸ List.mem_cons_self)
        · rcases ih h with h | h
          · exact .inl h
          · exact .inr (List.mem_cons_of_mem _ h)
theorem Sorted.ins {T : List Bl} (h : Sorted T) (x : Bl) : Sorted (insT T x) := by
  induction T with
  | nil => simp [insT, Sorted]
  | cons y r ih =>
    obtain ⟨h1, h2⟩ := List.pairwise_cons.1 h
    rw [insT]
    split
    · rename_i he
      exact List.pairwise_cons.2 ⟨fun b hb => by rw [he]; exact h1 b hb, h2⟩
    · rename_i he
      split
      · rename_i hl
        refine List.pairwise_cons.2 ⟨fun b hb => ?_, h⟩
        rcases List.mem_cons.1 hb with rfl | hb
        · exact hl
        · exact less_trans hl (h1 b hb)
      · rename_i hl
        refine List.pairwise_cons.2 ⟨fun b hb => ?_, ih h2⟩
        rcases ins_mem hb with rfl | hb
        · rcases less_total he with h | h
          · exact absurd h hl
          · exact h
        · exact h1 b hb
theorem Sorted.del {T : List Bl} (h : Sorted T) (t : Tl) : Sorted (delT T t) := h.filter _
theorem Sorted.patch {T : List Bl} (h : Sorted T) (x : Bl) : Sorted (patch1 T x) := by unfold patch1; split; exact h.del _; exact h.ins _
theorem Sorted.apply {T : List Bl} (h : Sorted T) (l : List Bl) : Sorted (applyT T l) := by
  unfold applyT
  induction l generalizing T with
  | nil => exact h
  | cons x l ih => exact ih (h.patch x)
def Fits (T : List Bl) : Prop := ∀ b ∈ T, b.fits
theorem Fits.patch {T : List Bl} (h : Fits T) {x : Bl} (hx : x.fits) : Fits (patch1 T x) := by
  unfold patch1
  split
  · intro b hb; exact h b (List.mem_filter.1 hb).1
  · intro b hb
    rcases ins_mem hb with rfl | hb
    · exact hx
    · exact h b hb
theorem Fits.apply {T : List Bl} (h : Fits T) {l : List Bl} (hl : Fits l) : Fits (applyT T l) := by
  unfold applyT
  induction l generalizing T with
  | nil => exact h
  | cons x l ih => exact ih (h.patch (hl x List.mem_cons_self)) (fun b hb => hl b (List.mem_cons_of_mem _ hb))
/-- Two lists in order that hold the same are one. -/
theorem Sorted.uniq : ∀ {l T : List Bl}, Sorted l → Sorted T → (∀ b, b ∈ l ↔ b ∈ T) → l = T
  | [], [], _, _, _ => rfl
  | [], y :: r, _, _, h => absurd ((h y).2 List.mem_cons_self) (by simp)
  | x :: l, [], _, _, h => absurd ((h x).1 List.mem_cons_self) (by simp)
  | x :: l, y :: r, hl, hr, h => by
    obtain ⟨a1, a2⟩ := List.pairwise_cons.1 hl
    obtain ⟨b1, b2⟩ := List.pairwise_cons.1 hr
    have hxy : x = y := by
      rcases List.mem_cons.1 ((h x).1 List.mem_cons_self) with e | hx
      · exact e
      · rcases List.mem_cons.1 ((h y).2 List.mem_cons_self) with e | hy
        · exact e.symm
        · have := less_asym (b1 x hx)
          rw [a1 y hy] at this; cases this
    subst hxy
    congr 1
    refine Sorted.uniq a2 b2 (fun b => ⟨fun hb => ?_, fun hb => ?_⟩)
    · rcases List.mem_cons.1 ((h b).1 (List.mem_cons_of_mem _ hb)) with rfl | hb'
      · have := a1 b hb; rw [less_irr] at this; cases this
      · exact hb'
    · rcases List.mem_cons.1 ((h b).2 (List.mem_cons_of_mem _ hb)) with rfl | hb'
      · have := b1 b hb; rw [less_irr] at this; cases this
      · exact hb'
end Go.Proofs.YtjflcpkmoamijaaGreatDoor
