import Derived.Test.YtjflcpkmoamijaaGreatDoorSt
namespace Go.Proofs.YtjflcpkmoamijaaGreatDoor
open Go.RowKit
set_option linter.unusedVariables false
set_option linter.unusedSimpArgs false
set_option linter.unnecessarySimpa false

/-! ### The states that the law of crashes notes -/
structure Ent where
  ver : Int
  v : Value
  T : List Bl
  e : Nat
instance : Inhabited Ent := ⟨⟨0, undef, [], 0⟩⟩
def Ent.cells (x : Ent) : List Value := [.slice none 0 0, .int .i64 x.ver, x.v]
def Ent.ev (x : Ent) : Value := .int .i64 x.e
structure CrHist (C : Cn) (S : List Ent) (nb i : Nat) : Prop where
  len : S.length = i + 1
  last : S[i]!.ver = C.ver ∧ S[i]!.T = C.T ∧ S[i]!.e = C.J.D.log.length
  hist : ∀ j, j < i → S[j]!.e ≤ S[j + 1]!.e ∧ S[j + 1]!.e ≤ C.J.D.log.length ∧ ∀ k, S[j]!.e ≤ k → k ≤ S[j + 1]!.e →
    Shows (redo C.J.D.first (C.J.D.log.take k)) (if k = S[j + 1]!.e then S[j + 1]!.ver else S[j]!.ver) (if k = S[j + 1]!.e then S[j + 1]!.T else S[j]!.T)
  lg : C.J.D.log.length ≤ 2 + i * nb
  nl : C.J.D.now.length = nb
  tl : C.T.length ≤ 8 * i
  all : ∀ j, j ≤ i → S[j]!.T.length ≤ 8 * i
theorem get_app {S : List Ent} {x : Ent} {j : Nat} (h : j < S.length) : (S ++ [x])[j]! = S[j]! := by
  rw [List.getElem!_eq_getElem?_getD, List.getElem!_eq_getElem?_getD, List.getElem?_append_left h]
theorem get_end {S : List Ent} {x : Ent} {j : Nat} (h : j = S.length) : (S ++ [x])[j]! = x := by
  subst h
  rw [List.getElem!_eq_getElem?_getD, List.getElem?_append_right (Nat.le_refl _)]
  simp
theorem CrHist.step {C C' : Cn} {S : List Ent} {nb i : Nat} (h : CrHist C S nb i) (g : CGood C) (g' : CGood C') (k : CStep C C') (ht : C'.T.length ≤ C.T.length + 8) (v : Value) : CrHist C' (S ++ [⟨C'.ver, v, C'.T, C'.J.D.log.length⟩]) nb (i + 1) := by
  have hl := h.len
  have e1 : ∀ j, j ≤ i → (S ++ [(⟨C'.ver, v, C'.T, C'.J.D.log.length⟩ : Ent)])[j]! = S[j]! := fun j hj => get_app (by omega)
  have e2 : (S ++ [(⟨C'.ver, v, C'.T, C'.J.D.log.length⟩ : Ent)])[i + 1]! = ⟨C'.ver, v, C'.T, C'.J.D.log.length⟩ := get_end (by omega)
  obtain ⟨gg, hg1, hg2, hg3⟩ := k.lg
  have hll : C'.J.D.log.length = C.J.D.log.length + gg.length := by rw [hg1, List.length_append]
  obtain ⟨l1, l2, l3⟩ := h.last
  refine ⟨by simp [hl], by rw [e2]; exact ⟨rfl, rfl, rfl⟩, ?_, ?_, by rw [k.len]; exact h.nl, by have := h.tl; omega, ?_⟩
  · intro j hj
    by_cases hji : j < i
    · rw [e1 j (by omega), e1 (j + 1) (by omega)]
      obtain ⟨a1, a2, a3⟩ := h.hist j hji
      refine ⟨a1, by omega, fun q hq1 hq2 => ?_⟩
      have := a3 q hq1 hq2
      rw [k.fs, hg1, List.take_append_of_le_length (by omega)]
      exact this
    · obtain rfl : j = i := by omega
      rw [e1 j (Nat.le_refl _), e2]
      refine ⟨by show S[j]!.e ≤ C'.J.D.log.length; omega, Nat.le_refl _, fun q hq1 hq2 => ?_⟩
      have := step_show g g' k [] (D := C'.J.D) k.fs (by simp) q (by rw [← l3]; exact hq1) hq2
      rw [l1, l2]
      exact this
  · have h1 := h.lg
    have h2 := h.nl
    have : (i + 1) * nb = i * nb + nb := by rw [Nat.succ_mul]
    omega
  · intro j hj
    by_cases hji : j ≤ i
    · rw [e1 j hji]; have := h.all j hji; omega
    · obtain rfl : j = i + 1 := by omega
      rw [e2]
      have := h.tl
      show C'.T.length ≤ _
      omega
/-- A row of strings, of numbers or of caches is no block of a cache. -/
theorem row_off {w : World} {B B2 : Nat} {r : DRef} {cb jb mb n : Nat} {vr : Value} {C : Cn} (l : Live w B r cb jb mb n vr C) {e : TypeId} {size k : Nat} {v : Value} {xs : List Value} (h : w.ownsRow B2 e size v k xs)
    (he : e ≠ 71 ∧ e ≠ 108 ∧ e ≠ 110 ∧ e ≠ 77 ∧ e ≠ 9 ∧ e ≠ 84) {i : Nat} (hi : v.ownBlock = some i) : ¬ cfoot r cb jb mb vr i := by
  rintro ((rfl | rfl | rfl | hf) | rfl | rfl | rfl | hf)
  · exact own_ne h l.ci.1.hb (fun q => he.1 q.symm) hi rfl
  · exact own_ne h l.ci.1.hf (fun q => he.2.1 q.symm) hi rfl
  · exact own_ne h l.ci.1.hn (fun q => he.2.1 q.symm) hi rfl
  · obtain ⟨c, hc⟩ := own_elem h hi
    exact own_ne l.ci.1.hl hc (fun q => he.2.2.1 q) hf rfl
  · exact own_ne h l.ci.2.c (fun q => he.2.2.2.2.2 q.symm) hi rfl
  · exact own_map_ne h l.ci.2.m hi rfl
  · exact own_ne h l.ci.2.j.hb (fun q => he.2.2.2.1 q.symm) hi rfl
  · obtain ⟨c, hc⟩ := own_elem h hi
    exact own_ne l.ci.2.j.hr hc (fun q => he.2.2.2.2.1 q) hf rfl
structure CrInv (w wr : World) (cb jb mb : Nat) (r : DRef) (n : Nat) (vr : Value) (C : Cn) (S : List Ent) (vs ve : Value) : Prop where
  live : Live wr w.heap.size r cb jb mb n vr C
  bel : Below w.heap.size w wr
  os : wr.ownsRow w.heap.size 40 3 vs S.length (S.flatMap Ent.cells)
  oe : wr.ownsRow w.heap.size 3 1 ve S.length (S.map Ent.ev)
  ts : ∀ x ∈ S, wr.ownsRow w.heap.size 93 4 x.v x.T.length (x.T.flatMap Bl.cells)
theorem blob_types : (93 : TypeId) ≠ 71 ∧ (93 : TypeId) ≠ 108 ∧ (93 : TypeId) ≠ 110 ∧ (93 : TypeId) ≠ 77 ∧ (93 : TypeId) ≠ 9 ∧ (93 : TypeId) ≠ 84 := by decide
theorem ref_types : (40 : TypeId) ≠ 71 ∧ (40 : TypeId) ≠ 108 ∧ (40 : TypeId) ≠ 110 ∧ (40 : TypeId) ≠ 77 ∧ (40 : TypeId) ≠ 9 ∧ (40 : TypeId) ≠ 84 := by decide
theorem int_types : (3 : TypeId) ≠ 71 ∧ (3 : TypeId) ≠ 108 ∧ (3 : TypeId) ≠ 110 ∧ (3 : TypeId) ≠ 77 ∧ (3 : TypeId) ≠ 9 ∧ (3 : TypeId) ≠ 84 := by decide
theorem CrInv.move {w wr w' : World} {cb jb mb : Nat} {r r' : DRef} {n n' : Nat} {vr vr' : Value} {C C' : Cn} {S : List Ent} {vs ve : Value} (h : CrInv w wr cb jb mb r n vr C S vs ve) (m : CMove cb jb mb wr r vr w' r' vr') (l : Live w' w.heap.size r' cb jb mb n' vr' C') : CrInv w w' cb jb mb r' n' vr' C' S vs ve :=
  ⟨l, m.base h.live h.bel (Nat.le_refl _), m.fr.owns h.os (fun i hi => row_off h.live h.os ref_types hi), m.fr.owns h.oe (fun i hi => row_off h.live h.oe int_types hi), fun x hx => m.fr.owns (h.ts x hx) (fun i hi => row_off h.live (h.ts x hx) blob_types hi)⟩
theorem CrInv.below {w wr w' : World} {cb jb mb : Nat} {r : DRef} {n : Nat} {vr : Value} {C : Cn} {S : List Ent} {vs ve : Value} (h : CrInv w wr cb jb mb r n vr C S vs ve) (b : Below wr.heap.size wr w') : CrInv w w' cb jb mb r n vr C S vs ve :=
  h.move (CMove.below b) (h.live.below b)
/-- A row of its own that is none of the cache's grows: the cache stays. -/
theorem CrInv.pushS {w wr w' : World} {cb jb mb : Nat} {r : DRef} {n : Nat} {vr : Value} {C : Cn} {S : List Ent} {vs ve v' : Value} (h : CrInv w wr cb jb mb r n vr C S vs ve) (x : Ent) (ht : wr.ownsRow w.heap.size 93 4 x.v x.T.length (x.T.flatMap Bl.cells))
    (ho : w'.ownsRow w.heap.size 40 3 v' (S.length + 1) (S.flatMap Ent.cells ++ x.cells)) (hg : wr.grownBy w' vs.ownBlock) :
    Live w' w.heap.size r cb jb mb n vr C ∧ Below w.heap.size w w' ∧ w'.ownsRow w.heap.size 40 3 v' (S ++ [x]).length ((S ++ [x]).flatMap Ent.cells) ∧ w'.ownsRow w.heap.size 3 1 ve S.length (S.map Ent.ev) ∧ ∀ y ∈ S ++ [x], w'.ownsRow w.heap.size 93 4 y.v y.T.length (y.T.flatMap Bl.cells) := by
  have f : Fr wr w' (fun k => vs.ownBlock = some k) := Fr.grown hg (fun k hk _ => hk)
  refine ⟨h.live.poke f (fun i hi e => row_off h.live h.os ref_types e hi), h.bel.grown hg h.bel.size (fun j hj => (own_base' h.os hj).1), ?_, ?_, ?_⟩
  · have e : (S ++ [x]).flatMap Ent.cells = S.flatMap Ent.cells ++ x.cells := by simp
    rw [e, List.length_append]; exact ho
  · refine f.owns h.oe (fun i hi hs => ?_)
    obtain ⟨c, hc⟩ := own_elem h.os hs
    exact own_ne h.oe hc (by decide) hi rfl
  · intro y hy
    have hy' : wr.ownsRow w.heap.size 93 4 y.v y.T.length (y.T.flatMap Bl.cells) := by
      rcases List.mem_append.1 hy with hy | hy
      · exact h.ts y hy
      · rw [List.mem_singleton.1 hy]; exact ht
    refine f.owns hy' (fun i hi hs => ?_)
    obtain ⟨c, hc⟩ := own_elem h.os hs
    exact own_ne hy' hc (by decide) hi rfl
/-- .. and so does the other one. -/
theorem crPushE {w wr w' : World} {cb jb mb : Nat} {r : DRef} {n : Nat} {vr : Value} {C : Cn} {S S' : List Ent} {vs ve v' : Value} (hl : Live wr w.heap.size r cb jb mb n vr C) (hb : Below w.heap.size w wr)
    (os : wr.ownsRow w.heap.size 40 3 vs S'.length (S'.flatMap Ent.cells)) (oe : wr.ownsRow w.heap.size 3 1 ve S.length (S.map Ent.ev)) (ts : ∀ x ∈ S', wr.ownsRow w.heap.size 93 4 x.v x.T.length (x.T.flatMap Bl.cells))
    (x : Ent) (hS : S' = S ++ [x]) (ho : w'.ownsRow w.heap.size 3 1 v' (S.length + 1) (S.map Ent.ev ++ [x.ev])) (hg : wr.grownBy w' ve.ownBlock) : CrInv w w' cb jb mb r n vr C S' vs v' := by
  have f : Fr wr w' (fun k => ve.ownBlock = some k) := Fr.grown hg (fun k hk _ => hk)
  refine ⟨hl.poke f (fun i hi e => row_off hl oe int_types e hi), hb.grown hg hb.size (fun j hj => (own_base' oe hj).1), ?_, ?_, ?_⟩
  · refine f.owns os (fun i hi hs => ?_)
    obtain ⟨c, hc⟩ := own_elem oe hs
    exact own_ne os hc (by decide) hi rfl
  · subst hS
    rw [List.length_append, List.map_append]; exact ho
  · intro y hy
    refine f.owns (ts y hy) (fun i hi hs => ?_)
    obtain ⟨c, hc⟩ := own_elem oe hs
    exact own_ne (ts y hy) hc (by decide) hi rfl
end Go.Proofs.YtjflcpkmoamijaaGreatDoor
