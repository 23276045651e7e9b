import Derived.Test.YtjflcpkmoamijaaGreatDoorMp
import Derived.WalkSpells
namespace Go.Proofs.YtjflcpkmoamijaaGreatDoor
open Go.RowKit
open Go.Maps (Keyed)
set_option linter.unusedVariables false
set_option linter.unusedSimpArgs false
set_option linter.unnecessarySimpa false

theorem key_inj {t t' : Tl} (h : t.fits) (h' : t'.fits) (e : t.key = t'.key) : t = t' := by
  have := klaw.inj (key_of t h) (e ▸ key_of t' h')
  obtain ⟨z, x, y⟩ := t
  obtain ⟨z', x', y'⟩ := t'
  simp [Tl.v] at this
  simp [this]
theorem key_lit (t : Tl) : Go.WideAt.IsKeyLit t.key := trivial
def look (T : List Bl) (t : Tl) : Option ByteArray := (T.find? (fun b => decide (b.t = t))).map (·.s)
def insT : List Bl → Bl → List Bl
  | [], x => [x]
  | y :: r, x => if x.t = y.t then x :: r else if x.t.less y.t then x :: y :: r else y :: insT r x
def delT (T : List Bl) (t : Tl) : List Bl := T.filter (fun b => decide (b.t ≠ t))
def patch1 (T : List Bl) (x : Bl) : List Bl := if x.s.size = 0 then delT T x.t else insT T x
theorem look_cons (y : Bl) (r : List Bl) (t : Tl) : look (y :: r) t = if y.t = t then some y.s else look r t := by
  unfold look
  rw [List.find?_cons]
  by_cases h : y.t = t <;> simp [h]
theorem look_ins (T : List Bl) (x : Bl) (t : Tl) : look (insT T x) t = if x.t = t then some x.s else look T t := by
  induction T with
  | nil => rw [insT, look_cons]
  | cons y r ih =>
    rw [insT]
    split
    · rename_i h
      rw [look_cons, look_cons, ← h]
      split <;> rfl
    · rename_i h
      split
      · rw [look_cons]
      · rw [look_cons, ih, look_cons]
        by_cases h1 : y.t = t
        · have : x.t ≠ t := fun e => h (e.trans h1.symm)
          simp [h1, this]
        · simp [h1]
theorem look_del (T : List Bl) (t0 t : Tl) : look (delT T t0) t = if t0 = t then none else look T t := by
  unfold delT
  induction T with
  | nil => simp [look]
  | cons y r ih =>
    rw [List.filter_cons]
    by_cases hy : y.t = t0
    · simp only [hy, ne_eq, not_true_eq_false, decide_false, Bool.false_eq_true, if_false]
      rw [ih, look_cons, hy]
      split <;> rfl
    · simp only [ne_eq, hy, not_false_eq_true, decide_true, if_true]
      rw [look_cons, ih, look_cons]
      by_cases h1 : y.t = t
      · have : t0 ≠ t := fun e => hy (h1.trans e.symm)
        simp [h1, this]
      · simp [h1]
def Rep (D : DataW Unit) (T : List Bl) : Prop := Maps.IsMap D ∧ ∀ t : Tl, t.fits → ∀ z, D.atKey t.key z = match look T t with | some s => .lit (.string s.data.toList) | none => z
/-- Block b is a map of at most n entries that holds the tiles T. -/
def MapIs (w : World) (b n : Nat) (T : List Bl) : Prop := ∃ D : DataW Unit, w.ownsMap Tryz.prog 91 (plainElem Tryz.prog 9) b n D ∧ Rep D T
theorem MapIs.made (w : World) : MapIs (w.alloc (.map #[] 0)) w.heap.size 0 [] := by
  refine ⟨_, World.ownsMap_made _ _ _ _, Maps.isMap_empty, fun t ht z => ?_⟩
  rfl
theorem MapIs.lt {w : World} {b n : Nat} {T : List Bl} (h : MapIs w b n T) : b < w.heap.size := by obtain ⟨D, h1, _⟩ := h; exact h1.lt
theorem MapIs.fr {w w' : World} {b n : Nat} {T : List Bl} {S : Nat → Prop} (h : MapIs w b n T) (k : Fr w w' S) (hn : ¬ S b) : MapIs w' b n T := by
  obtain ⟨D, h1, h2⟩ := h
  have hb := k.block b h1.lt hn
  obtain ⟨es, clock, he, rest⟩ := h1
  exact ⟨D, ⟨es, clock, hb.trans he, rest⟩, h2⟩
theorem MapIs.drewN {w : World} {b n : Nat} {T : List Bl} (h : MapIs w b n T) (k : Nat) : MapIs (w.drewN k) b n T := h.fr ((Fr.refl w Nowhere).drewN k) (fun h => h)
/-- A map's block is no row of cells. -/
theorem MapIs.ne_cells {w : World} {b n : Nat} {T : List Bl} (h : MapIs w b n T) {k : Nat} {c : Array Value} {e : TypeId} {f : Nat × Nat} (hk : w.heap[k]? = some (.cells c e f)) : k ≠ b := by
  rintro rfl
  obtain ⟨D, ⟨es, clock, he, _⟩, _⟩ := h
  rw [hk] at he
  cases he
theorem MapIs.store {w : World} {b n : Nat} {T : List Bl} (h : MapIs w b n T) (x : Bl) (hx : x.t.fits) (hs : x.s.size ≤ maxLen) (hn : n < maxLen) :
    ∃ w', (Instr.mapUpdate 82 (.map (some b)) x.t.v (.string x.s)).run Tryz.prog w = .ok () w' ∧ MapIs w' b (n + 1) (insT T x) ∧ w.grownBy w' (some b) := by
  obtain ⟨D, h1, h2, h3⟩ := h
  obtain ⟨w', hr, ho, hg⟩ := h1.update klaw Tryz.underlying82 hn (key_of x.t hx) (plainElem_string Tryz.underlying9 hs)
  refine ⟨w', hr, ⟨_, ho, h2.put _ _, fun t ht z => ?_⟩, hg⟩
  rw [look_ins]
  by_cases he : x.t = t
  · subst he
    rw [Maps.atKey_put_same h2 (key_lit _), if_pos rfl]
  · rw [Maps.atKey_put_other (fun e => he (key_inj ht hx e).symm), if_neg he]
    exact h3 t ht z
theorem MapIs.drop {w : World} {b n : Nat} {T : List Bl} (h : MapIs w b n T) (t0 : Tl) (hx : t0.fits) (ty : TypeId) :
    ∃ w', (Builtin.delete_ #[82, 91] ty #[.map (some b), t0.v]).run Tryz.prog w = .ok (.tuple #[]) w' ∧ MapIs w' b n (delT T t0) ∧ w.grownBy w' (some b) := by
  obtain ⟨D, h1, h2, h3⟩ := h
  obtain ⟨w', hr, ho, hg⟩ := h1.drop klaw Tryz.underlying82 (key_of t0 hx) ty
  refine ⟨w', hr, ⟨_, ho, h2.del _, fun t ht z => ?_⟩, hg.grown⟩
  rw [look_del]
  by_cases he : t0 = t
  · subst he
    rw [Maps.atKey_del_same, if_pos rfl]
  · rw [Maps.atKey_del_other (fun e => he (key_inj ht hx e).symm), if_neg he]
    exact h3 t ht z
end Go.Proofs.YtjflcpkmoamijaaGreatDoor
