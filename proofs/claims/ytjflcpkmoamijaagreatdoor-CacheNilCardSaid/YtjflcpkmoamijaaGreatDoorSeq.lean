import Derived.Test.YtjflcpkmoamijaaGreatDoorBase
import Derived.Test.YtjflcpkmoamijaaGreatDoorWLast
namespace Go.Proofs.YtjflcpkmoamijaaGreatDoor
open Go.RowKit Go.Proofs.YtjflcpkmoamijaaGreatDoorW.PrintLast
set_option linter.unusedVariables false
set_option linter.unusedSimpArgs false
set_option linter.unnecessarySimpa false

/-! ### A region that draws its order, walked in ONE order of the prover's own
'q': yields in every world that meets S (a load); 'p': yields in every world (a move, a sum, an address); 'l': whatever else, S is shown anew; 'd': the same, S is not shown (a store into what was loaded: it waits for every q). -/
inductive SK where
  | q | p | l | d
section
variable (P : Program) (ops : Array Oper) (Q : Exit → Act → World → Prop) (S : World → Prop) (ds : List Nat)
def wpSeq : List (SK × Nat) → Act → World → Prop
  | [], a, w => Q .normal a w
  | (.q, i) :: r, a, w => ∃ o v, ops[i]? = some o ∧ YieldsIf P ops S o v a ∧ S w ∧ wpSeq r (a.put o.dst v) w
  | (.p, i) :: r, a, w => ∃ o v, ops[i]? = some o ∧ Yields P ops o v a ∧ wpSeq r (a.put o.dst v) w
  | (.l, i) :: r, a, w => wpOp P ops Q i (fun a' w' => (S w → S w') ∧ wpSeq r a' w') a w
  | (.d, i) :: r, a, w => wpOp P ops Q i (fun a' w' => wpSeq r a' w') a w
def seqB : List (SK × Nat) → Array Bool → Bool
  | [], l => Region.ready .any ops l == []
  | (.q, i) :: r, l => Region.free .any ops l i && (Region.ready .any ops l).contains i && Region.closedB .any ops l && Region.lastB .any ops l ds i && seqB r (l.setIfInBounds i true)
  | (.p, i) :: r, l => Region.free .any ops l i && (Region.ready .any ops l).contains i && seqB r (l.setIfInBounds i true)
  | (.l, i) :: r, l => Region.ready .any ops l == [i] && !ds.contains i && seqB r (l.setIfInBounds i true)
  | (.d, i) :: r, l => Region.ready .any ops l == [i] && ds.contains i && seqB r (l.setIfInBounds i true)
end
section
variable {P : Program} {ops : Array Oper} {Q : Exit → Act → World → Prop} {S : World → Prop} {ds : List Nat}
theorem wpAny_of_seq (hs : Region.noSelect ops = true) (hQ : ∀ (d : Option Tmp) v c a w, Q (.panic c) (a.put d v) w → Q (.panic c) a w) :
    ∀ (l : List (SK × Nat)) (listed : Array Bool) (a : Act) (w : World), seqB ops ds l listed = true → wpSeq P ops Q S l a w → wpAnyLast P .any ops Q S ds l.length listed a w := by
  intro l
  induction l with
  | nil => intro listed a w hB h; exact wpAnyLast_done (by simpa [seqB] using hB) h 0
  | cons x r ih =>
    obtain ⟨k, i⟩ := x
    intro listed a w hB h
    cases k with
    | q =>
      simp only [seqB, Bool.and_eq_true] at hB
      obtain ⟨⟨⟨⟨h1, h2⟩, h3⟩, h4⟩, h5⟩ := hB
      obtain ⟨o, v, ho, hy, hS, hr⟩ := h
      exact wpAnyLast_take ho hs h1 h2 h3 h4 (hQ _ _) hy hS (ih _ _ _ h5 hr)
    | p =>
      simp only [seqB, Bool.and_eq_true] at hB
      obtain ⟨⟨h1, h2⟩, h5⟩ := hB
      obtain ⟨o, v, ho, hy, hr⟩ := h
      exact wpAnyLast_any ho (Region.noSelect_spec hs) (hQ _ _) _ listed a w (Region.free_spec ho h1) (by simpa using h2) hy (ih _ _ _ h5 hr)
    | l =>
      simp only [seqB, Bool.and_eq_true, beq_iff_eq] at hB
      obtain ⟨⟨h1, h2⟩, h5⟩ := hB
      refine wpAnyLast_all h1 (by simp) (fun j hj => ?_)
      obtain rfl : j = i := by simpa using hj
      exact wpOp_mono (fun a' w' h' => ⟨fun _ => h'.1, ih _ _ _ h5 h'.2⟩) h
    | d =>
      simp only [seqB, Bool.and_eq_true, beq_iff_eq] at hB
      obtain ⟨⟨h1, h2⟩, h5⟩ := hB
      refine wpAnyLast_all h1 (by simp) (fun j hj => ?_)
      obtain rfl : j = i := by simpa using hj
      exact wpOp_mono (fun a' w' h' => ⟨fun hn => absurd (by simpa using h2) hn, ih _ _ _ h5 h'⟩) h
theorem region_seq {id : Nat} {a : Act} {w : World} (S : World → Prop) (ds : List Nat) (l : List (SK × Nat)) (hm : P.follows .mixedOrders = true) (hs : Region.noSelect ops = true)
    (hl : l.length = ops.size) (hB : seqB ops ds l (Array.replicate ops.size false) = true) (hQ : ∀ (d : Option Tmp) v c a w, Q (.panic c) (a.put d v) w → Q (.panic c) a w)
    (h : wpSeq P ops Q S l a w.drew) : (Code.region id ops true).wp P Q a w := by
  have := wpAny_of_seq (P := P) (S := S) hs hQ l _ a w.drew hB h
  rw [hl] at this
  exact wp_region_any hm (wpAny_of_last _ _ _ _ this)
variable {i : Nat} {o : Oper} {r : List (SK × Nat)} {a : Act} {w : World} {N : Option Tmp}
theorem seq_q (ho : ops[i]? = some o) (hN : o.dst = N) (hw : Region.wanted o (yielded ops a.tmps) = true) (v : Value) (hr : ∀ w', S w' → (execOp a.eval o).run P w' = .ok (.value v) w') (hS : S w)
    (h : wpSeq P ops Q S r (a.put N v) w) : wpSeq P ops Q S ((.q, i) :: r) a w := ⟨o, v, ho, .inl ⟨hw, hr⟩, hS, hN ▸ h⟩
theorem seq_p (ho : ops[i]? = some o) (hN : o.dst = N) (hw : Region.wanted o (yielded ops a.tmps) = true) (v : Value) (hr : ∀ w', (execOp a.eval o).run P w' = .ok (.value v) w')
    (h : wpSeq P ops Q S r (a.put N v) w) : wpSeq P ops Q S ((.p, i) :: r) a w := ⟨o, v, ho, .inl ⟨hw, hr⟩, hN ▸ h⟩
theorem seq_off (ho : ops[i]? = some o) (hN : o.dst = N) (hw : Region.wanted o (yielded ops a.tmps) = false)
    (h : wpSeq P ops Q S r (a.put N undef) w) : wpSeq P ops Q S ((.p, i) :: r) a w := ⟨o, undef, ho, .inr ⟨hw, rfl⟩, hN ▸ h⟩
theorem seq_l (ho : ops[i]? = some o) (hw : Region.wanted o (yielded ops a.tmps) = true) (h : o.wp P a w (fun a' w' => (S w → S w') ∧ wpSeq P ops Q S r a' w') Q) : wpSeq P ops Q S ((.l, i) :: r) a w := by
  unfold wpSeq wpOp; simp only [ho, hw, if_true]; exact .inl h
theorem seq_d (ho : ops[i]? = some o) (hw : Region.wanted o (yielded ops a.tmps) = true) (h : o.wp P a w (fun a' w' => wpSeq P ops Q S r a' w') Q) : wpSeq P ops Q S ((.d, i) :: r) a w := by
  unfold wpSeq wpOp; simp only [ho, hw, if_true]; exact .inl h
theorem seq_nil (h : Q .normal a w) : wpSeq P ops Q S [] a w := h
end
section
variable {P : Program} {o : Oper} {a : Act} {w w' : World} {K : Act → World → Prop} {Q : Exit → Act → World → Prop} {N : Option Tmp}
theorem wpList_load_run {ops : Array Oper} {rest : List Oper} (t : TypeId) (x : Operand) (ho : o.op = .load t x) (hgd : o.guard = none) (v u : Value) (hx : a.eval x = v) (hr : (Instr.loadAt t v).run P w = .ok u w)
    (h : wpList P ops Q rest (a.put o.dst u) w) : wpList P ops Q (o :: rest) a w :=
  wpList_plain hgd fun _ hK => by
    unfold Oper.wp execOp
    simp only [ho, hx, Sem.run_bind, Sem.run_pure, Result.andThen_ok, hr]
    exact hK _ _ h
theorem wpList_store_run' {ops : Array Oper} {rest : List Oper} (t : TypeId) (x y : Operand) (ho : o.op = .store t x y) (hgd : o.guard = none) (v u : Value) (hx : a.eval x = v) (hy : a.eval y = u) (hr : (Instr.storeAt t v u).run P w = .ok () w')
    (h : wpList P ops Q rest (a.put o.dst undef) w') : wpList P ops Q (o :: rest) a w :=
  wpList_plain hgd fun _ hK => by
    unfold Oper.wp execOp
    simp only [ho, hx, hy, Sem.run_bind, Sem.run_pure, Result.andThen_ok, hr]
    exact hK _ _ h
theorem run_ld {t : TypeId} {x : Operand} {v u : Value} (ho : o.op = .load t x) (hx : a.eval x = v) (hr : (Instr.loadAt t v).run P w = .ok u w') : (execOp a.eval o).run P w = .ok (.value u) w' := by
  unfold execOp
  simp only [ho, hx, Sem.run_bind, Sem.run_pure, Result.andThen_ok, hr]
theorem run_bd {t : TypeId} {parts : Array (Nat × Operand)} {ps : Array (Nat × Value)} {u : Value} (ho : o.op = .build t parts) (hx : (parts.map fun (i, x) => (i, a.eval x)) = ps) (hr : (Instr.build t ps).run P w = .ok u w') : (execOp a.eval o).run P w = .ok (.value u) w' := by
  unfold execOp
  simp only [ho, hx, Sem.run_bind, Sem.run_pure, Result.andThen_ok, hr]
theorem wp_bs {t : TypeId} {n : Nat} {parts : Array (Nat × Operand)} {ps : Array (Nat × Value)} {u : Value} (ho : o.op = .buildSlice t n parts) (hN : o.dst = N) (hx : (parts.map fun (i, x) => (i, a.eval x)) = ps) (hr : (Instr.buildSlice t n ps).run P w = .ok u w') (h : K (a.put N u) w') : o.wp P a w K Q := by
  subst hN
  unfold Oper.wp execOp
  simp only [ho, hx, Sem.run_bind, Sem.run_pure, Result.andThen_ok, hr]
  exact h
theorem wp_st {t : TypeId} {x y : Operand} {v u : Value} (ho : o.op = .store t x y) (hN : o.dst = none) (hx : a.eval x = v) (hy : a.eval y = u) (hr : (Instr.storeAt t v u).run P w = .ok () w') (h : K a w') : o.wp P a w K Q := by
  unfold Oper.wp execOp
  simp only [ho, hx, hy, Sem.run_bind, Sem.run_pure, Result.andThen_ok, hr]
  show K (a.put o.dst undef) w'
  rw [hN]; exact h
end
end Go.Proofs.YtjflcpkmoamijaaGreatDoor
