import Derived.Test.YtjflcpkmoamijaaGreatDoorWire
namespace Go.Proofs.YtjflcpkmoamijaaGreatDoor
open Go.RowKit
set_option linter.unusedVariables false
set_option linter.unusedSimpArgs false
set_option linter.unnecessarySimpa false

/-- The cell of one variable. -/
def Cell1 (w : World) (h : Nat) (t : TypeId) (v : Value) : Prop := w.heap[h]? = some (.cells #[v] t (0, 0))
theorem Cell1.c {w : World} {h : Nat} {t : TypeId} {v : Value} (k : Cell1 w h t v) : w.cell? ⟨h, 0, none⟩ = some v := cell_of_row w h 0 _ _ _ k
theorem Cell1.f {w : World} {h : Nat} {t : TypeId} {v : Value} (k : Cell1 w h t v) : w.frozen? ⟨h, 0, none⟩ = false := frozen_of_row w h 0 _ _ k
theorem Cell1.set {w : World} {h : Nat} {t : TypeId} {v : Value} (k : Cell1 w h t v) (u : Value) : Cell1 (w.setCell ⟨h, 0, none⟩ u) h t u := one_setCell k
theorem Cell1.fr {w w' : World} {h : Nat} {t : TypeId} {v : Value} {S : Nat → Prop} (k : Cell1 w h t v) (f : Fr w w' S) (hn : ¬ S h) : Cell1 w' h t v := f.heap k hn
theorem Cell1.new (w : World) (t : TypeId) (v : Value) : Cell1 (w.alloc (.cells #[v] t)) w.heap.size t v := heap_alloc_new w _
theorem Cell1.lt {w : World} {h : Nat} {t : TypeId} {v : Value} (k : Cell1 w h t v) : h < w.heap.size := lt_of_heap k
theorem Cell1.other {w : World} {h : Nat} {t : TypeId} {v : Value} (k : Cell1 w h t v) (p : Addr) (hp : p.block ≠ h) (u : Value) : Cell1 (w.setCell p u) h t v := by
  unfold Cell1; rw [Below.heap_setCell _ _ _ _ (fun e => hp e.symm)]; exact k
theorem IsRd.other {w : World} {g : Nat} {s : ByteArray} {a : Nat} {e : Int} (k : IsRd w g s a e) (p : Addr) (hp : p.block ≠ g) (u : Value) : IsRd (w.setCell p u) g s a e := by
  unfold IsRd; rw [Below.heap_setCell _ _ _ _ (fun e => hp e.symm)]; exact k
theorem IsRd.alloc {w : World} {g : Nat} {s : ByteArray} {a : Nat} {e : Int} (k : IsRd w g s a e) (o : Obj) : IsRd (w.alloc o) g s a e := by
  unfold IsRd; rw [Below.heap_alloc _ _ _ (lt_of_heap k)]; exact k
theorem IsRd.lt {w : World} {g : Nat} {s : ByteArray} {a : Nat} {e : Int} (k : IsRd w g s a e) : g < w.heap.size := lt_of_heap k
theorem Cell1.alloc {w : World} {h : Nat} {t : TypeId} {v : Value} (k : Cell1 w h t v) (o : Obj) : Cell1 (w.alloc o) h t v := by
  unfold Cell1; rw [Below.heap_alloc _ _ _ (lt_of_heap k)]; exact k

/-- try's deferred closure. be: the cell of e, ba: of at, br: of r, bo: of ok. -/
def TryEndPost (g : Nat) (s : ByteArray) (a0 a1 : Nat) (e1 : Int) (bo : Nat) (w w' : World) : Prop :=
  IsRd w' g s (if e1 = 0 then a1 else a0) e1 ∧ Cell1 w' bo 4 (.bool (decide (e1 = 0))) ∧ Fr w w' (fun k => k = g ∨ k = bo)
set_option maxHeartbeats 400000 in
theorem try_end_any (g : Nat) (s : ByteArray) (a0 a1 : Nat) (e1 : Int) (be ba br bo : Nat) (ok0 : Bool) (w : World)
    (hr : IsRd w g s a1 0) (he : Cell1 w be 26 (.int .i64 e1)) (ha : Cell1 w ba 3 (.int .i64 a0)) (hp : Cell1 w br 122 (.pointer (some ⟨g, 0, none⟩)))
    (ho : Cell1 w bo 4 (.bool ok0)) (n1 : be ≠ g) (n2 : be ≠ bo) (n3 : bo ≠ g) (u : FrameMode) :
    CallsD Tryz.prog 137 #[.pointer (some ⟨be, 0, none⟩), .pointer (some ⟨ba, 0, none⟩), .pointer (some ⟨br, 0, none⟩), .pointer (some ⟨bo, 0, none⟩)] u w
      fun e u' w' => u' = u ∧ (e = .returned (.tuple #[]) ∧ TryEndPost g s a0 a1 e1 bo w w') := by
  have c1 := he.c
  have c2 := ha.c
  have c3 := hp.c
  have c4 := ho.f
  have c5 := hr.f 1
  have c6 := hr.f 2
  have d1 := hr.c1
  have d2 := hr.c2
  have HO := Lib.hid ho
  have HR := Lib.hid hr
  clear ho hr
  by_cases h0 : e1 = 0
  · subst h0
    clear c5 c6 d1 d2 
    have c7 := HO.out.c
    go_enter_d Tryz.func137, Tryz.ntmps137
    go_wp2
    go_end0
    refine ⟨rfl, ?_, ?_, ?_⟩
    · simpa using HR.out.other _ n3 _
    · exact HO.out.set _
    · exact (Fr.refl _ _).setCell _ _ (fun _ => .inr rfl)
  · have h1 : (e1 != 0) = true := by simpa using h0
    have h2 : (e1 == 0) = false := by simpa using h0
    have c7 := HO.out.c
    go_enter_d Tryz.func137, Tryz.ntmps137
    go_wp2
    go_end0
    refine ⟨rfl, ?_, ?_, ?_⟩
    · rw [if_neg h0]
      exact ((HR.out.set1 a0).set2 e1).other _ n3 _
    · have := ((HO.out.other ⟨g, 1, none⟩ (fun e => n3 e.symm) (.int .i64 a0)).other ⟨g, 2, none⟩ (fun e => n3 e.symm) (.int .i64 e1)).set (.bool false)
      simpa [h0] using this
    · exact (((Fr.refl _ _).setCell _ _ (fun _ => .inl rfl)).setCell _ _ (fun _ => .inl rfl)).setCell _ _ (fun _ => .inr rfl)

/-- What a reading closure does: the reader at g goes on to a1, the variable at h is set; its result is e1. -/
def ReadsBy (K : Nat) (cap : Array Value) (g : Nat) (s : ByteArray) (h : Nat) (t : TypeId) (e1 : Int) (a1 : Nat) (v1 : Value) (w : World) : Prop :=
  ∀ w1, Below w.heap.size w w1 → Calls Tryz.prog K cap w1 fun e w2 => e = .returned (.int .i64 e1) ∧ IsRd w2 g s a1 0 ∧ Cell1 w2 h t v1 ∧ Fr w1 w2 (fun k => k = g ∨ k = h)
def TryPost (g : Nat) (s : ByteArray) (a0 : Nat) (h : Nat) (t : TypeId) (e1 : Int) (a1 : Nat) (v1 : Value) (w : World) (e : Ending) (w' : World) : Prop :=
  e = .returned (.bool (decide (e1 = 0))) ∧ IsRd w' g s (if e1 = 0 then a1 else a0) e1 ∧ Cell1 w' h t v1 ∧ Fr w w' (fun k => k = g ∨ k = h)
set_option maxHeartbeats 400000 in
theorem try_any (K : Nat) (cap : Array Value) (g : Nat) (s : ByteArray) (h : Nat) (t : TypeId) (a0 a1 : Nat) (e1 : Int) (v0 v1 : Value) (w : World)
    (hK : ∀ (args : Array Value) (w : World), (callFunc K args).run Tryz.prog w = .ok (.enter K args) w)
    (hr : IsRd w g s a0 0) (hh : Cell1 w h t v0) (hgh : g ≠ h) (hcl : ReadsBy K cap g s h t e1 a1 v1 w) :
    Calls Tryz.prog 107 #[.pointer (some ⟨g, 0, none⟩), .func (.func K) #[] cap] w (TryPost g s a0 h t e1 a1 v1 w) := by
  have hmf : ∀ (fn : Fn) (first cap : Array Value) (w : World), (Instr.makeFunc fn first cap).run Tryz.prog w = .ok (.func fn first cap) w := fun _ _ _ _ => rfl
  have HR := Lib.hid hr
  have HH := Lib.hid hh
  have HC := Lib.hid hcl
  have lg := hr.lt
  have lh := hh.lt
  have c1 := hr.c1
  have c2 := hr.c2
  clear hr hh hcl
  go_enter_defers Tryz.func107, Tryz.ntmps107
  go_wp2_with fail
  refine (HC.out _ ((((Below.refl _ _).alloc (Nat.le_refl _) _).alloc (by simp) _).alloc (by simp; omega) _ |>.alloc (by simp; omega) _)).mono ?_
  rintro e w2 ⟨rfl, hr2, hh2, hf2⟩
  have p0 : Cell1 w2 w.heap.size 122 (.pointer (some ⟨g, 0, none⟩)) := ((((Cell1.new _ _ _).alloc _).alloc _).alloc _).fr hf2 (by omega)
  have p1 : Cell1 w2 (w.heap.size + 1) 4 (.bool false) := by
    have := Cell1.new (w.alloc (.cells #[Value.pointer (some { block := g, off := 0 })] 122)) 4 (.bool false)
    simp only [World.size_alloc] at this
    exact ((this.alloc _).alloc _).fr hf2 (by omega)
  have p2 : Cell1 w2 (w.heap.size + 1 + 1) 3 (.int .i64 a0) := by
    have := Cell1.new ((w.alloc (.cells #[Value.pointer (some { block := g, off := 0 })] 122)).alloc (.cells #[.bool false] 4)) 3 (.int .i64 a0)
    simp only [World.size_alloc] at this
    exact (this.alloc _).fr hf2 (by omega)
  have p3 : Cell1 w2 (w.heap.size + 1 + 1 + 1) 26 (.int .i64 0) := by
    have := Cell1.new (((w.alloc (.cells #[Value.pointer (some { block := g, off := 0 })] 122)).alloc (.cells #[.bool false] 4)).alloc (.cells #[.int .i64 a0] 3)) 26 (.int .i64 0)
    simp only [World.size_alloc] at this
    exact this.fr hf2 (by omega)
  have q3 := p3.c
  have r3 := p3.f
  have P0 := Lib.hid p0
  have P1 := Lib.hid p1
  have P2 := Lib.hid p2
  have P3 := Lib.hid p3
  have HR2 := Lib.hid hr2
  have HH2 := Lib.hid hh2
  have HF2 := Lib.hid hf2
  clear p0 p1 p2 p3 hr2 hh2 hf2
  go_wp2
  refine leaves_cons (f := 137) (args := #[.pointer (some ⟨w.heap.size + 1 + 1 + 1, 0, none⟩), .pointer (some ⟨w.heap.size + 1 + 1, 0, none⟩), .pointer (some ⟨w.heap.size, 0, none⟩), .pointer (some ⟨w.heap.size + 1, 0, none⟩)]) (by simp) (by simp [go_sem]) ?_
  refine (try_end_any g s a0 a1 e1 _ _ _ _ false _ (HR2.out.other _ (by dsimp only; omega) _) (P3.out.set _) (P2.out.other _ (by dsimp only; omega) _) (P0.out.other _ (by dsimp only; omega) _) (P1.out.other _ (by dsimp only; omega) _) (by omega) (by omega) (by omega) .returning).mono ?_
  rintro e u' w3 ⟨rfl, rfl, hr3, ho3, hf3⟩
  have hh3 : Cell1 w3 h t v1 := (HH2.out.other ⟨w.heap.size + 1 + 1 + 1, 0, none⟩ (by dsimp only; omega) (.int .i64 e1)).fr hf3 (by omega)
  have hfr : Fr w w3 (fun k => k = g ∨ k = h) := by
    have hA : Fr w w2 (fun k => k = g ∨ k = h) := (((((Fr.refl w _).alloc _).alloc _).alloc _).alloc _).tr HF2.out
    have hz : w.heap.size ≤ w2.heap.size := hA.size
    exact (hA.setCell ⟨w.heap.size + 1 + 1 + 1, 0, none⟩ _ (by dsimp only; omega)).trans hf3 (by intro i hi h; omega)
  have c9 := ho3.c
  refine ⟨.bool (decide (e1 = 0)), ?_, rfl, ?_, hh3, hfr⟩
  · simp [results, Tryz.results107, go_sem, c9]
  · exact hr3
end Go.Proofs.YtjflcpkmoamijaaGreatDoor
