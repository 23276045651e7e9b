import Derived.Test.YtjflcpkmoamijaaGreatDoorJn5
namespace Go.Proofs.YtjflcpkmoamijaaGreatDoor
open Go.RowKit
set_option linter.unusedVariables false
set_option linter.unusedSimpArgs false
set_option linter.unnecessarySimpa false

theorem own_base_le {w : World} {B B' : Nat} (hB : B' ≤ B) {e : TypeId} {size n : Nat} {v : Value} {xs : List Value} (h : w.ownsRow B e size v n xs) : w.ownsRow B' e size v n xs := by
  refine ⟨h.1, ?_⟩
  rcases h.2 with h2 | ⟨g, cap, cur, hv, hb, rest⟩
  · exact .inl h2
  · exact .inr ⟨g, cap, cur, hv, Nat.le_trans hB hb, rest⟩
theorem JIs.base {w : World} {B B' jb db : Nat} {vr : Value} {ep u : Nat} {recs : List ByteArray} (h : JIs w B jb db vr ep u recs) (hB : B' ≤ B) : JIs w B' jb db vr ep u recs := ⟨h.hb, own_base_le hB h.hr⟩
def OpenPost (D : Dev) (db : Nat) (w : World) (e : Ending) (w' : World) : Prop :=
  Below w.heap.size w w' ∧ (match parseP D with
    | none => e = .returned (.tuple #[.pointer none, .int .i64 4])
    | some (ep, u, l) => ∃ jb vr, e = .returned (.tuple #[.pointer (some ⟨jb, 0, none⟩), .int .i64 0]) ∧ w.heap.size ≤ jb ∧ JIs w' w.heap.size jb db vr ep u l)
theorem OpenPost.bad {D : Dev} {db : Nat} {w w' : World} (h : parseP D = none) (k : Below w.heap.size w w') : OpenPost D db w (.returned (.tuple #[.pointer none, .int .i64 4])) w' := by
  unfold OpenPost; rw [h]; exact ⟨k, rfl⟩
theorem OpenPost.good {D : Dev} {db : Nat} {w w' : World} {ep u : Nat} {l : List ByteArray} {jb : Nat} {vr : Value} (h : parseP D = some (ep, u, l)) (k : Below w.heap.size w w') (hjb : w.heap.size ≤ jb) (hj : JIs w' w.heap.size jb db vr ep u l) :
    OpenPost D db w (.returned (.tuple #[.pointer (some ⟨jb, 0, none⟩), .int .i64 0])) w' := by
  unfold OpenPost; rw [h]; exact ⟨k, jb, vr, rfl, hjb, hj⟩
set_option maxHeartbeats 400000 in
set_option maxRecDepth 100000 in
theorem JOpen_nil (w : World) :
    Calls Tryz.prog 12 #[.pointer none] w fun e w' => e = .returned (.tuple #[.pointer none, .int .i64 1]) ∧ Below w.heap.size w w' := by
  go_enter_defers Tryz.func12, Tryz.ntmps12
  go_wp2_with (refine (check_nil _).mono ?_; rintro e w2 ⟨rfl, rfl⟩)
  have hb : Below w.heap.size w ((w.alloc (.cells #[.pointer none] 28)).alloc (.cells #[.int .i64 1] 26)) := ((Below.refl _ _).alloc (Nat.le_refl _) _).alloc (by simp) _
  have HB := Lib.hid hb
  clear hb
  simp [bodyPostD, results, Tryz.results12, go_sem, Leaves, settle]
  exact HB.out
set_option maxHeartbeats 400000 in
set_option maxRecDepth 100000 in
theorem JOpen_short (r : DRef) (D : Dev) (w : World) (h : DevIs w r D) (h5 : D.now.length < 5) :
    Calls Tryz.prog 12 #[.pointer (some ⟨r.b, 0, none⟩)] w fun e w' => e = .returned (.tuple #[.pointer none, .int .i64 12]) ∧ Below w.heap.size w w' := by
  have H := Lib.hid h
  clear h
  go_enter_defers Tryz.func12, Tryz.ntmps12
  go_wp2_with fail
  refine (check_any r D _ (H.out.below (((Below.refl _ _).alloc (Nat.le_refl _) _).alloc (by simp) _))).mono ?_
  rintro e w2 ⟨rfl, rfl⟩
  rw [if_pos h5]
  go_wp2_with fail
  have hb : Below w.heap.size w ((w.alloc (.cells #[.pointer none] 28)).alloc (.cells #[.int .i64 12] 26)) := ((Below.refl _ _).alloc (Nat.le_refl _) _).alloc (by simp) _
  have HB := Lib.hid hb
  clear hb
  simp [bodyPostD, results, Tryz.results12, go_sem, Leaves, settle]
  exact HB.out
set_option maxHeartbeats 400000 in
set_option maxRecDepth 100000 in
theorem JOpen_any (r : DRef) (D : Dev) (w : World) (h : DevIs w r D) (h5 : 5 ≤ D.now.length) :
    Calls Tryz.prog 12 #[.pointer (some ⟨r.b, 0, none⟩)] w (OpenPost D r.b w) := by
  have hmf : ∀ (fn : Fn) (first cap : Array Value) (w : World), (Instr.makeFunc fn first cap).run Tryz.prog w = .ok (.func fn first cap) w := fun _ _ _ _ => rfl
  have H := Lib.hid h
  clear h
  go_enter_defers Tryz.func12, Tryz.ntmps12
  go_wp2_with fail
  refine (check_any r D _ (H.out.below (((Below.refl _ _).alloc (Nat.le_refl _) _).alloc (by simp) _))).mono ?_
  rintro e w2 ⟨rfl, rfl⟩
  rw [if_neg (by omega)]
  go_wp2_with fail
  have hb0 : Below w.heap.size w (((w.alloc (.cells #[.pointer (some ⟨w.heap.size + 1 + 1, 0, none⟩)] 28)).alloc (.cells #[.int .i64 0] 26)).alloc (.cells #[.pointer (some ⟨r.b, 0, none⟩), .int .i64 0, .int .i64 0, .slice none 0 0] 77)) :=
    (((Below.refl _ _).alloc (Nat.le_refl _) _).alloc (by simp) _).alloc (by simp; omega) _
  have p0 : Cell1 (((w.alloc (.cells #[.pointer (some ⟨w.heap.size + 1 + 1, 0, none⟩)] 28)).alloc (.cells #[.int .i64 0] 26)).alloc (.cells #[.pointer (some ⟨r.b, 0, none⟩), .int .i64 0, .int .i64 0, .slice none 0 0] 77)) w.heap.size 28 (.pointer (some ⟨w.heap.size + 1 + 1, 0, none⟩)) := ((Cell1.new _ _ _).alloc _).alloc _
  have p1 : Cell1 (((w.alloc (.cells #[.pointer (some ⟨w.heap.size + 1 + 1, 0, none⟩)] 28)).alloc (.cells #[.int .i64 0] 26)).alloc (.cells #[.pointer (some ⟨r.b, 0, none⟩), .int .i64 0, .int .i64 0, .slice none 0 0] 77)) (w.heap.size + 1) 26 (.int .i64 0) := by
    have := Cell1.new (w.alloc (.cells #[.pointer (some ⟨w.heap.size + 1 + 1, 0, none⟩)] 28)) 26 (.int .i64 0)
    simp only [World.size_alloc] at this
    exact this.alloc _
  have p2 : (((w.alloc (.cells #[.pointer (some ⟨w.heap.size + 1 + 1, 0, none⟩)] 28)).alloc (.cells #[.int .i64 0] 26)).alloc (.cells #[.pointer (some ⟨r.b, 0, none⟩), .int .i64 0, .int .i64 0, .slice none 0 0] 77)).heap[w.heap.size + 1 + 1]? = some (.cells #[.pointer (some ⟨r.b, 0, none⟩), .int .i64 0, .int .i64 0, .slice none 0 0] 77 (0, 0)) := by
    have := heap_alloc_new ((w.alloc (.cells #[.pointer (some ⟨w.heap.size + 1 + 1, 0, none⟩)] 28)).alloc (.cells #[.int .i64 0] 26)) (.cells #[.pointer (some ⟨r.b, 0, none⟩), .int .i64 0, .int .i64 0, .slice none 0 0] 77)
    simpa only [World.size_alloc] using this
  generalize hw1 : (((w.alloc (.cells #[.pointer (some ⟨w.heap.size + 1 + 1, 0, none⟩)] 28)).alloc (.cells #[.int .i64 0] 26)).alloc (.cells #[.pointer (some ⟨r.b, 0, none⟩), .int .i64 0, .int .i64 0, .slice none 0 0] 77)) = w1 at *
  have hj1 : JIs w1 w1.heap.size (w.heap.size + 1 + 1) r.b (.slice none 0 0) 0 0 [] := ⟨p2, World.ownsRow_nil _ _ _ _⟩
  have hs1 : w1.heap.size = w.heap.size + 1 + 1 + 1 := by rw [← hw1]; simp
  have B1 := Lib.hid hb0
  have P0 := Lib.hid p0
  have P1 := Lib.hid p1
  clear hw1 hb0 p0 p1 p2
  refine (parse_any r D _ w1 (H.out.below B1.out) hj1).mono ?_
  rintro e w2 ⟨hf, hp⟩
  have hb2 : Below w.heap.size w w2 := B1.out.trans (hf.below (by omega) (by omega))
  have q0 : Cell1 w2 w.heap.size 28 (.pointer (some ⟨w.heap.size + 1 + 1, 0, none⟩)) := P0.out.fr hf (by omega)
  have q1 : Cell1 w2 (w.heap.size + 1) 26 (.int .i64 0) := P1.out.fr hf (by omega)
  have B2 := Lib.hid hb2
  clear hj1 hb2 P0 P1 B1
  rcases hpp : parseP D with _ | ⟨ep, u, l⟩
  · rw [hpp] at hp
    simp only at hp
    subst hp
    have HPP := Lib.hid hpp
    clear hpp hf
    refine leaves_cons (f := 39) (args := #[.pointer (some ⟨w.heap.size, 0, none⟩), .pointer (some ⟨w.heap.size + 1, 0, none⟩)]) (by simp) (by simp [go_sem]) ?_
    refine (catch_panicking _ _ _ _ _ q0 q1 (by omega)).mono ?_
    rintro e u' w3 ⟨rfl, rfl, k0, k1, kf⟩
    have d0 := k0.c
    have d1 := k1.c
    have B3 := Lib.hid (B2.out.trans (kf.below B2.out.size (by intro i hi; omega)))
    clear kf k0 k1 q0 q1
    simp [Leaves, settle, results, Tryz.results12, go_sem, d0, d1]
    exact OpenPost.bad HPP.out B3.out
  · rw [hpp] at hp
    obtain ⟨rfl, vr, hj2⟩ := hp
    have HPP := Lib.hid hpp
    have J2 := Lib.hid hj2
    have c0 := q0.c
    have f0 := q0.f
    have f1 := q1.f
    have Q0 := Lib.hid q0
    have Q1 := Lib.hid q1
    clear hpp hf hj2 q0 q1
    have c1 := Q1.out.c
    go_wp2_with fail
    have b3 : Below w.heap.size w ((w2.setCell ⟨w.heap.size, 0, none⟩ (.pointer (some ⟨w.heap.size + 1 + 1, 0, none⟩))).setCell ⟨w.heap.size + 1, 0, none⟩ (.int .i64 0)) := (B2.out.setCell (p := ⟨w.heap.size, 0, none⟩) (by simp) _).setCell (p := ⟨w.heap.size + 1, 0, none⟩) (by simp) _
    have k0 := (Q0.out.set (.pointer (some ⟨w.heap.size + 1 + 1, 0, none⟩))).other ⟨w.heap.size + 1, 0, none⟩ (by dsimp only; omega) (.int .i64 0)
    have k1 := (Q1.out.other ⟨w.heap.size, 0, none⟩ (by dsimp only; omega) (.pointer (some ⟨w.heap.size + 1 + 1, 0, none⟩))).set (.int .i64 0)
    have j3 : JIs ((w2.setCell ⟨w.heap.size, 0, none⟩ (.pointer (some ⟨w.heap.size + 1 + 1, 0, none⟩))).setCell ⟨w.heap.size + 1, 0, none⟩ (.int .i64 0)) w.heap.size (w.heap.size + 1 + 1) r.b vr ep u l := by
      refine (J2.out.fr (((Fr.refl _ (fun k => k = w.heap.size ∨ k = w.heap.size + 1)).setCell _ _ (fun _ => .inl rfl)).setCell _ _ (fun _ => .inr rfl)) ?_).base (by omega)
      intro i hi hk
      rcases hi with rfl | hi
      · omega
      · have := (own_base' J2.out.hr hi).1; omega
    generalize (w2.setCell ⟨w.heap.size, 0, none⟩ (.pointer (some ⟨w.heap.size + 1 + 1, 0, none⟩))).setCell ⟨w.heap.size + 1, 0, none⟩ (.int .i64 0) = w3 at *
    have d0 := k0.c
    have d1 := k1.c
    have B3 := Lib.hid b3
    have J3 := Lib.hid j3
    clear b3 k0 k1 j3 c0 f0 f1 c1 Q0 Q1 J2
    refine leaves_cons (f := 39) (args := #[.pointer (some ⟨w.heap.size, 0, none⟩), .pointer (some ⟨w.heap.size + 1, 0, none⟩)]) (by simp) (by simp [go_sem]) ?_
    refine (catch_idle _ _ _).mono ?_
    rintro e u' w4 ⟨rfl, rfl, rfl⟩
    simp [Leaves, settle, results, Tryz.results12, go_sem, d0, d1]
    exact OpenPost.good HPP.out B3.out (by omega) J3.out
end Go.Proofs.YtjflcpkmoamijaaGreatDoor
