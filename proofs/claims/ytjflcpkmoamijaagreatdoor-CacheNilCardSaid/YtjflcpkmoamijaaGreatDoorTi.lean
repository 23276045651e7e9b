import Derived.Test.YtjflcpkmoamijaaGreatDoorPl
namespace Go.Proofs.YtjflcpkmoamijaaGreatDoor
open Go.RowKit
open Go.Maps (Keyed)
set_option linter.unusedVariables false
set_option linter.unusedSimpArgs false
set_option linter.unnecessarySimpa false

theorem wf_inv {n : Int} (h : (Lit.int .i64 n).wf = true) : InInt n := by
  have h1 : IntKind.i64.min = -9223372036854775808 := by decide
  have h2 : IntKind.i64.max = 9223372036854775807 := by decide
  simp [Lit.wf, h1, h2] at h
  unfold InInt
  omega
set_option maxRecDepth 100000 in
theorem lits_int {d : Nat} {v : Value} {ls : List Lit} (h : Tryz.prog.keyLits (d + 1) 3 [v] = some ls) : ∃ n, v = .int .i64 n ∧ InInt n := by
  unfold Program.keyLits at h
  rw [Tryz.underlying3] at h
  cases v <;> simp at h
  obtain ⟨⟨rfl, hw⟩, _⟩ := h
  exact ⟨_, rfl, wf_inv hw⟩
set_option maxRecDepth 100000 in
/-- What reads as a tile's key is a tile. -/
theorem key_shape (v : Value) (kl : Lit) (h : keyOf Tryz.prog 91 v = some kl) : ∃ t : Tl, v = t.v ∧ t.fits ∧ kl = t.key := by
  have hc : Tryz.prog.cellsOf 91 = 3 := by kernel_rfl
  have hc3 : Tryz.prog.cellsOf 3 = 1 := by kernel_rfl
  have hsz : ∃ m, Tryz.prog.types.size = m + 1 := ⟨Tryz.prog.types.size - 1, by kernel_rfl⟩
  obtain ⟨m, hm⟩ := hsz
  have h0 := h
  unfold keyOf at h
  rw [Tryz.underlying91] at h
  simp only [] at h
  split at h
  · rename_i hf
    rw [Bool.and_eq_true] at hf
    have hfo := hf.2
    unfold Value.formed at hfo
    rw [Tryz.underlying91] at hfo
    rw [hm] at h
    rw [Option.map_eq_some_iff] at h
    obtain ⟨ls, h, _⟩ := h
    unfold Program.keyLits at h
    rw [Tryz.underlying91] at h
    simp only [] at h
    split at h
    · rename_i hl
      have hl3 := hl.1
      rw [hc] at hl3
      generalize hcs : v.cells.toList = cs at *
      obtain ⟨a, b, c, rfl⟩ : ∃ a b c, cs = [a, b, c] := by
        match cs, hl3 with
        | [a, b, c], _ => exact ⟨a, b, c, rfl⟩
      simp only [List.mapM_cons, hc3, List.drop_zero, List.drop_succ_cons, List.take_succ_cons, List.take_zero, Option.map_eq_some_iff] at h
      obtain ⟨x, hx, _⟩ := h
      simp only [Option.bind_eq_bind, Option.bind_eq_some_iff] at hx
      obtain ⟨la, ha, lr, ⟨lb, hb, lr2, ⟨lc, hc', _⟩, _⟩, _⟩ := hx
      obtain ⟨z, rfl, fz⟩ := lits_int ha
      obtain ⟨x, rfl, fx⟩ := lits_int hb
      obtain ⟨y, rfl, fy⟩ := lits_int hc'
      have hv : v = Tl.v ⟨z, x, y⟩ := by
        cases v <;> simp [Value.cells] at hcs
        · simp [Tl.v]; exact Array.toList_inj.1 hcs
      have hfit : Tl.fits ⟨z, x, y⟩ := ⟨fz, fx, fy⟩
      refine ⟨⟨z, x, y⟩, hv, hfit, ?_⟩
      rw [hv, key_of _ hfit] at h0
      injection h0 with h0
      exact h0.symm
    · cases h
  · cases h
/-- What has been collected so far. -/
structure Coll (T : List Bl) (left : Lit → Bool) (acc : List Bl) : Prop where
  fit : ∀ b ∈ acc, b.t.fits
  has : ∀ b ∈ acc, look T b.t = some b.s
  gone : ∀ b ∈ acc, left b.t.key = false
  nod : (acc.map (·.t)).Nodup
  rest : ∀ t : Tl, t.fits → look T t ≠ none → left t.key = true ∨ ∃ b ∈ acc, b.t = t
theorem Coll.start {D : DataW Unit} {T : List Bl} (h : Rep D T) : Coll T (Maps.has D) [] := by
  refine ⟨by simp, by simp, by simp, by simp, fun t ht hl => .inl ?_⟩
  obtain ⟨s, hs⟩ := Option.ne_none_iff_exists'.1 hl
  exact Maps.has_true_of_atKey (y := .lit (.string s.data.toList)) (fun z => by rw [h.2 t ht z, hs])
theorem Coll.step {D : DataW Unit} {T : List Bl} {left : Lit → Bool} {acc : List Bl} (h : Coll T left acc) (hr : Rep D T) {t : Tl} {c : ByteArray} (ht : t.fits) (hl : left t.key = true) (hat : ∀ z, D.atKey t.key z = .lit (.string c.data.toList)) :
    Coll T (fun z => left z && !z.sameKey t.key) (acc ++ [⟨t, c⟩]) := by
  have hlk : look T t = some c := by
    have h1 := hr.2 t ht (.lit (.bool true))
    have h2 := hr.2 t ht (.lit (.bool false))
    rw [hat] at h1 h2
    cases hk : look T t with
    | none => rw [hk] at h1 h2; simp at h1
    | some s =>
      rw [hk] at h1
      simp at h1
      have : c = s := by
        obtain ⟨⟨c⟩⟩ := c
        obtain ⟨⟨s⟩⟩ := s
        simp at h1
        rw [h1]
      rw [this]
  refine ⟨?_, ?_, ?_, ?_, ?_⟩
  · intro b hb
    rcases List.mem_append.1 hb with hb | hb
    · exact h.fit b hb
    · simp at hb; rw [hb]; exact ht
  · intro b hb
    rcases List.mem_append.1 hb with hb | hb
    · exact h.has b hb
    · simp at hb; rw [hb]; exact hlk
  · intro b hb
    rcases List.mem_append.1 hb with hb | hb
    · simp [h.gone b hb]
    · simp at hb; rw [hb]; simp [Go.WideAt.sameKey_self (key_lit t)]
  · rw [List.map_append, List.nodup_append]
    refine ⟨h.nod, by simp, ?_⟩
    intro a ha b hb
    simp at hb
    subst hb
    rintro rfl
    obtain ⟨x, hx, rfl⟩ := List.mem_map.1 ha
    rw [h.gone x hx] at hl
    cases hl
  · intro t' ht' hl'
    rcases h.rest t' ht' hl' with h1 | ⟨b, hb, he⟩
    · by_cases he : t' = t
      · exact .inr ⟨⟨t, c⟩, by simp, he.symm⟩
      · left
        have : t'.key.sameKey t.key = false := Maps.sameKey_ne (fun e => he (key_inj ht' ht e))
        simp [h1, this]
    · exact .inr ⟨b, List.mem_append_left _ hb, he⟩
theorem Coll.done {T : List Bl} {left : Lit → Bool} {acc : List Bl} (h : Coll T left acc) (hl : ∀ k, left k = false) (hT : Sorted T) (hF : Fits T) : ∀ b, b ∈ acc ↔ b ∈ T := by
  intro b
  constructor
  · intro hb
    exact look_mem (h.has b hb)
  · intro hb
    have hlk := mem_look hT.nodup hb
    have hfb := hF b hb
    rcases h.rest b.t ⟨hfb.1, hfb.2.1, hfb.2.2.1⟩ (by rw [hlk]; simp) with h1 | ⟨x, hx, he⟩
    · rw [hl] at h1; cases h1
    · have h2 := h.has x hx
      rw [he, hlk] at h2
      injection h2 with h2
      have : x = b := by cases x; cases b; simp at he h2; rw [he, h2]
      rw [← this]; exact hx
end Go.Proofs.YtjflcpkmoamijaaGreatDoor
