import Derived.Test.YtjflcpkmoamijaaGreatDoorProg
import Derived.WalkKit
import Derived.WalkSpells
import Derived.WalkLawsBesides
import Derived.Lib.Hide
import Derived.KernelRfl
import Derived.Deep.QuietTactic
import Derived.BigQuiet
import Derived.StillTailTactics
import Derived.Deep.RegionHeld3
import Derived.Deep.RegionLaw
import Derived.Deep.DeepCutAuto
import Derived.Deep.DeepFit
import Derived.Laws.BitsLemmas
import Derived.Maps.AppendAt
namespace Go.Proofs.YtjflcpkmoamijaaGreatDoor
open Go.RowKit

/-! ### The frame: everything but the blocks of 'S' is as it was -/
structure Fr (w w' : World) (S : Nat → Prop) : Prop where
  os : w'.os = w.os
  tape : w'.tape = w.tape
  output : w'.output = w.output
  size : w.heap.size ≤ w'.heap.size
  block : ∀ k, k < w.heap.size → ¬ S k → w'.heap[k]? = w.heap[k]?

def Nowhere : Nat → Prop := fun _ => False

theorem Fr.refl (w : World) (S : Nat → Prop) : Fr w w S := ⟨rfl, rfl, rfl, Nat.le_refl _, fun _ _ _ => rfl⟩
theorem Fr.trans {a b c : World} {S S' : Nat → Prop} (h : Fr a b S) (k : Fr b c S') (hs : ∀ i, i < a.heap.size → S' i → S i) : Fr a c S :=
  ⟨k.os.trans h.os, k.tape.trans h.tape, k.output.trans h.output, Nat.le_trans h.size k.size,
   fun i hi hn => (k.block i (Nat.lt_of_lt_of_le hi h.size) (fun e => hn (hs i hi e))).trans (h.block i hi hn)⟩
theorem Fr.tr {a b c : World} {S : Nat → Prop} (h : Fr a b S) (k : Fr b c S) : Fr a c S := h.trans k (fun _ _ e => e)
theorem Fr.mono {a b : World} {S S' : Nat → Prop} (h : Fr a b S) (hs : ∀ i, i < a.heap.size → S i → S' i) : Fr a b S' :=
  ⟨h.os, h.tape, h.output, h.size, fun i hi hn => h.block i hi (fun e => hn (hs i hi e))⟩
theorem Fr.drew {a b : World} {S : Nat → Prop} (h : Fr a b S) : Fr a b.drew S := ⟨h.os, h.tape, h.output, h.size, h.block⟩
theorem Fr.drewN {a b : World} {S : Nat → Prop} (h : Fr a b S) (n : Nat) : Fr a (b.drewN n) S := ⟨h.os, h.tape, h.output, h.size, h.block⟩
theorem Fr.alloc {a b : World} {S : Nat → Prop} (h : Fr a b S) (o : Obj) : Fr a (b.alloc o) S :=
  ⟨h.os, h.tape, h.output, by have := h.size; simp; omega, fun i hi hn => (Below.heap_alloc b o i (Nat.lt_of_lt_of_le hi h.size)).trans (h.block i hi hn)⟩
theorem Fr.setCell {a b : World} {S : Nat → Prop} (h : Fr a b S) (p : Addr) (v : Value) (hp : p.block < a.heap.size → S p.block) : Fr a (b.setCell p v) S :=
  ⟨h.os, h.tape, h.output, by simpa using h.size, fun i hi hn => by
    rw [Below.heap_setCell b p v i (fun e => hn (e ▸ hp (e ▸ hi)))]; exact h.block i hi hn⟩
theorem Fr.of_below {w w' : World} (h : Below w.heap.size w w') (S : Nat → Prop) : Fr w w' S := ⟨h.os, h.tape, h.output, h.size, fun i hi _ => h.block i hi⟩
theorem Fr.below {w w' : World} {S : Nat → Prop} (h : Fr w w' S) {B : Nat} (hB : B ≤ w.heap.size) (hs : ∀ i, S i → B ≤ i) : Below B w w' :=
  ⟨h.os, h.tape, h.output, h.size, fun i hi => h.block i (Nat.lt_of_lt_of_le hi hB) (fun e => by have := hs i e; omega)⟩
theorem Fr.grown {w w' : World} {row : Option Nat} (h : w.grownBy w' row) {S : Nat → Prop} (hs : ∀ k, row = some k → k < w.heap.size → S k) : Fr w w' S :=
  ⟨h.os, h.tape, h.output, h.size, fun i hi hn => h.block i hi (fun e => hn (hs i e.symm hi))⟩
theorem Fr.heap {w w' : World} {S : Nat → Prop} (h : Fr w w' S) {k : Nat} {o : Obj} (hk : w.heap[k]? = some o) (hn : ¬ S k) : w'.heap[k]? = some o :=
  (h.block k (Array.getElem?_eq_some_iff.1 hk).1 hn).trans hk
theorem lt_of_heap {w : World} {k : Nat} {o : Obj} (hk : w.heap[k]? = some o) : k < w.heap.size := (Array.getElem?_eq_some_iff.1 hk).1
/-- An owned row lives on where its block is not written. -/
theorem Fr.owns {w w' : World} {S : Nat → Prop} (h : Fr w w' S) {base : Nat} {e : TypeId} {size n : Nat} {v : Value} {xs : List Value}
    (ho : w.ownsRow base e size v n xs) (hn : ∀ k, v.ownBlock = some k → ¬ S k) : w'.ownsRow base e size v n xs := by
  refine ⟨ho.1, ?_⟩
  rcases ho.2 with h2 | ⟨g, cap, cur, rfl, hb, hg, rest⟩
  · exact .inl h2
  · exact .inr ⟨g, cap, cur, rfl, hb, h.heap hg (hn g rfl), rest⟩
/-- Two blocks of unlike element types are not the same. -/
theorem ne_of_elem {w : World} {a b : Nat} {c c' : Array Value} {e e' : TypeId} {f f' : Nat × Nat} (ha : w.heap[a]? = some (.cells c e f)) (hb : w.heap[b]? = some (.cells c' e' f'))
    (hne : e ≠ e') : a ≠ b := by
  rintro rfl
  rw [ha] at hb
  injection hb with hb
  injection hb with _ ht _
  exact hne ht
/-- The block of an owned row is of its element type. -/
theorem own_elem {w : World} {base : Nat} {e : TypeId} {size n : Nat} {v : Value} {xs : List Value} (ho : w.ownsRow base e size v n xs) {k : Nat} (hk : v.ownBlock = some k) :
    ∃ c, w.heap[k]? = some (.cells c e (0, 0)) := by
  rcases ho.2 with ⟨rfl, _⟩ | ⟨g, cap, cur, rfl, hb, hg, rest⟩
  · simp [Value.ownBlock] at hk
  · have : g = k := by simpa [Value.ownBlock] using hk
    subst this; exact ⟨cur, hg⟩
theorem own_ne {w : World} {base : Nat} {e : TypeId} {size n : Nat} {v : Value} {xs : List Value} (ho : w.ownsRow base e size v n xs) {a : Nat} {c : Array Value} {e' : TypeId} {f : Nat × Nat}
    (ha : w.heap[a]? = some (.cells c e' f)) (hne : e' ≠ e) {k : Nat} (hk : v.ownBlock = some k) : k ≠ a := by
  obtain ⟨c', hc⟩ := own_elem ho hk
  exact fun h => ne_of_elem ha hc hne h.symm
theorem own_base' {w : World} {base : Nat} {e : TypeId} {size n : Nat} {v : Value} {xs : List Value} (ho : w.ownsRow base e size v n xs) {k : Nat} (hk : v.ownBlock = some k) : base ≤ k ∧ k < w.heap.size :=
  ho.lt k hk
end Go.Proofs.YtjflcpkmoamijaaGreatDoor
namespace Go.Proofs.YtjflcpkmoamijaaGreatDoor
open Go.RowKit
set_option linter.unusedVariables false
set_option linter.unusedSimpArgs false
set_option linter.unnecessarySimpa false

/-- A reader at block g. -/
def IsRd (w : World) (g : Nat) (s : ByteArray) (at_ : Nat) (err : Int) : Prop := w.heap[g]? = some (.cells #[.string s, .int .i64 at_, .int .i64 err] 153 (0, 0))
theorem IsRd.c0 {w : World} {g : Nat} {s : ByteArray} {a : Nat} {e : Int} (h : IsRd w g s a e) : w.cell? ⟨g, 0, none⟩ = some (.string s) := cell_of_row w g 0 _ _ _ h
theorem IsRd.c1 {w : World} {g : Nat} {s : ByteArray} {a : Nat} {e : Int} (h : IsRd w g s a e) : w.cell? ⟨g, 1, none⟩ = some (.int .i64 a) := cell_of_row w g 1 _ _ _ h
theorem IsRd.c2 {w : World} {g : Nat} {s : ByteArray} {a : Nat} {e : Int} (h : IsRd w g s a e) : w.cell? ⟨g, 2, none⟩ = some (.int .i64 e) := cell_of_row w g 2 _ _ _ h
theorem IsRd.f {w : World} {g : Nat} {s : ByteArray} {a : Nat} {e : Int} (h : IsRd w g s a e) (i : Nat) : w.frozen? ⟨g, i, none⟩ = false := frozen_of_row w g i _ _ h
theorem IsRd.set1 {w : World} {g : Nat} {s : ByteArray} {a : Nat} {e : Int} (h : IsRd w g s a e) (a' : Nat) : IsRd (w.setCell ⟨g, 1, none⟩ (.int .i64 a')) g s a' e := by
  have := heap_setCell_same w g 1 _ _ (.int .i64 a') h
  simpa [IsRd] using this
theorem IsRd.set2 {w : World} {g : Nat} {s : ByteArray} {a : Nat} {e : Int} (h : IsRd w g s a e) (e' : Int) : IsRd (w.setCell ⟨g, 2, none⟩ (.int .i64 e')) g s a e' := by
  have := heap_setCell_same w g 2 _ _ (.int .i64 e') h
  simpa [IsRd] using this
theorem IsRd.fr {w w' : World} {g : Nat} {s : ByteArray} {a : Nat} {e : Int} {S : Nat → Prop} (h : IsRd w g s a e) (k : Fr w w' S) (hn : ¬ S g) : IsRd w' g s a e := k.heap h hn
theorem IsRd.drewN {w : World} {g : Nat} {s : ByteArray} {a : Nat} {e : Int} (h : IsRd w g s a e) (n : Nat) : IsRd (w.drewN n) g s a e := h

def InU64 (m : Int) : Prop := 0 ≤ m ∧ m < 18446744073709551616
def rdStep (m : Int) (c k : Nat) : Int := bits .or .u64 m (IntKind.u64.wrap (IntKind.u64.wrap (bits .and .u8 c 127) * 2 ^ (7 * k)))
def byteAt (s : ByteArray) (a : Nat) : Nat := if h : a < s.size then s[a].toNat else 0
/-- (*wire.Reader).uint: the number, the error, the place behind. -/
def uintGo (s : ByteArray) : Nat → Nat → Nat → Int → Int × Int × Nat
  | 0, _, a, _ => (0, 4, a)
  | f + 1, k, a, m =>
    if s.size ≤ a then (0, 3, a) else
    let c := byteAt s a
    if 128 ≤ c then uintGo s f (k + 1) (a + 1) (rdStep m c k) else
    if (0 < k ∧ c = 0) ∨ (k = 9 ∧ 1 < c) then (0, 4, a + 1) else (rdStep m c k, 0, a + 1)
def uintR (s : ByteArray) (a : Nat) : Int × Int × Nat := uintGo s 10 0 a 0

theorem byteAt_lt (s : ByteArray) (a : Nat) : byteAt s a < 256 := by
  unfold byteAt
  split
  · exact UInt8.toNat_lt _
  · omega
theorem uintGo_zero (s : ByteArray) (k a : Nat) (m : Int) : uintGo s 0 k a m = (0, 4, a) := rfl
theorem uintGo_end {s : ByteArray} {f k a : Nat} {m : Int} (h : s.size ≤ a) : uintGo s (f + 1) k a m = (0, 3, a) := by simp [uintGo, h]
theorem uintGo_on {s : ByteArray} {f k a : Nat} {m : Int} (h : a < s.size) (hc : 128 ≤ byteAt s a) : uintGo s (f + 1) k a m = uintGo s f (k + 1) (a + 1) (rdStep m (byteAt s a) k) := by
  simp [uintGo, Nat.not_le.2 h, hc]
theorem uintGo_bad {s : ByteArray} {f k a : Nat} {m : Int} (h : a < s.size) (hc : byteAt s a < 128) (hb : (0 < k ∧ byteAt s a = 0) ∨ (k = 9 ∧ 1 < byteAt s a)) : uintGo s (f + 1) k a m = (0, 4, a + 1) := by
  simp only [uintGo, Nat.not_le.2 h, if_false, Nat.not_le.2 hc, hb, if_true]
theorem uintGo_ok {s : ByteArray} {f k a : Nat} {m : Int} (h : a < s.size) (hc : byteAt s a < 128) (hb : ¬ ((0 < k ∧ byteAt s a = 0) ∨ (k = 9 ∧ 1 < byteAt s a))) : uintGo s (f + 1) k a m = (rdStep m (byteAt s a) k, 0, a + 1) := by
  simp only [uintGo, Nat.not_le.2 h, if_false, Nat.not_le.2 hc, hb]

/-- What 'uint' leaves. -/
def UintPost (g : Nat) (s : ByteArray) (a0 : Nat) (err : Int) (w : World) (e : Ending) (w' : World) : Prop :=
  e = .returned (.tuple #[.int .u64 (uintR s a0).1, .int .i64 (uintR s a0).2.1]) ∧ IsRd w' g s (uintR s a0).2.2 err ∧ Fr w w' (· = g)
theorem UintPost.mk {g : Nat} {s : ByteArray} {a0 : Nat} {err : Int} {w w' : World} {m e1 : Int} {a : Nat} (h : uintR s a0 = (m, e1, a)) (hr : IsRd w' g s a err) (hf : Fr w w' (· = g)) :
    UintPost g s a0 err w (.returned (.tuple #[.int .u64 m, .int .i64 e1])) w' := by
  unfold UintPost; rw [h]; exact ⟨rfl, hr, hf⟩

set_option maxHeartbeats 800000 in
set_option maxRecDepth 100000 in
theorem uint_any (g : Nat) (s : ByteArray) (at_ : Nat) (err : Int) (w : World) (hs : s.size ≤ 140737488351232) (ha : at_ ≤ s.size) (hr : IsRd w g s at_ err) :
    Calls Tryz.prog 128 #[.pointer (some ⟨g, 0, none⟩)] w (UintPost g s at_ err w) := by
  go_enter Tryz.func128, Tryz.ntmps128
  go_wp2
  go_loopw [4, 5, 6, 7] (fun n i5 c6 i wr => ∃ (k : Nat) (m : Int) (a : Nat), k ≤ 10 ∧ a ≤ s.size ∧ i = .int .i64 k ∧ n = .int .u64 m ∧ Hid (uintR s at_ = uintGo s (10 - k) k a m) ∧ Hid (IsRd wr g s a err) ∧ Hid (Fr w wr (· = g))) (fun _ _ _ i _ => 10 - (intOf i).toNat)
  case atStart => exact ⟨0, 0, at_, by omega, ha, rfl, rfl, rfl, hr, Fr.refl _ _⟩
  case round =>
    obtain ⟨k, m, a, hk, ha', rfl, rfl, HU, HR, HF⟩ := hrel
    have c0 := HR.out.c0
    have c1 := HR.out.c1
    have f1 := HR.out.f 1
    by_cases hk10 : k < 10
    · obtain ⟨f, hf⟩ : ∃ f, 10 - k = f + 1 := ⟨9 - k, by omega⟩
      have hfr : f = 10 - (k + 1) := by omega
      rw [hf, hfr] at HU
      clear hf hfr f
      by_cases hlt : a < s.size
      · have hb : byteAt s a = s[a].toNat := by simp [byteAt, hlt]
        by_cases hc : 128 ≤ s[a].toNat
        · have HC : Hid (uintR s at_ = uintGo s (10 - (k + 1)) (k + 1) (a + 1) (rdStep m s[a].toNat k)) := by
            have := HU.out; rw [uintGo_on hlt (by rw [hb]; exact hc), hb] at this; exact this
          clear hb HU
          have hci : (128 : Int) ≤ (s[a].toNat : Int) := by omega
          go_wp2
          go_quiet (fail)
          go_wp2
          go_quiet (fail)
          go_wp2
          go_roundw
          case rel => exact ⟨k + 1, _, a + 1, by omega, by omega, by go_num, rfl, HC, (HR.out.drewN _).set1 (a + 1), (HF.out.drewN _).setCell _ _ (fun _ => rfl)⟩
          case measure => simp [intOf]; omega
        · have hci : (s[a].toNat : Int) < 128 := by omega
          have HB := Lib.hid hb
          clear hb
          go_wp2
          go_quiet (fail)
          go_wp2
          go_quiet (fail)
          go_wp2
          all_goals
            go_ret2
            refine UintPost.mk ?_ ((HR.out.drewN _).set1 (a + 1)) ((HF.out.drewN _).setCell _ _ (fun _ => rfl))
            rw [HU.out]
            try simp only [beq_iff_eq, beq_eq_false_iff_ne] at *
            first
            | (refine uintGo_bad hlt ?_ ?_ <;> rw [HB.out] <;> omega)
            | (refine (uintGo_ok hlt ?_ ?_).trans ?_
               · rw [HB.out]; omega
               · rw [HB.out]; omega
               · rw [HB.out]; rfl)
      · have HC : Hid (uintR s at_ = (0, 3, a)) := by
          have := HU.out; rw [uintGo_end (by omega)] at this; exact this
        go_wp2
        go_quiet (fail)
        go_wp2
        go_ret2
        exact UintPost.mk HC.out (HR.out.drewN _) (HF.out.drewN _)
    · have HC : Hid (uintR s at_ = (0, 4, a)) := by
          have := HU.out; rw [show 10 - k = 0 by omega, uintGo_zero] at this; exact this
      go_wp2
      go_ret2
      exact UintPost.mk HC.out HR.out HF.out
end Go.Proofs.YtjflcpkmoamijaaGreatDoor
namespace Go.Proofs.YtjflcpkmoamijaaGreatDoor
open Go.RowKit
set_option linter.unusedVariables false
set_option linter.unusedSimpArgs false
set_option linter.unnecessarySimpa false

/-- The cell of one variable. -/
def Cell1 (w : World) (h : Nat) (t : TypeId) (v : Value) : Prop := w.heap[h]? = some (.cells #[v] t (0, 0))
theorem Cell1.c {w : World} {h : Nat} {t : TypeId} {v : Value} (k : Cell1 w h t v) : w.cell? ⟨h, 0, none⟩ = some v := cell_of_row w h 0 _ _ _ k
theorem Cell1.f {w : World} {h : Nat} {t : TypeId} {v : Value} (k : Cell1 w h t v) : w.frozen? ⟨h, 0, none⟩ = false := frozen_of_row w h 0 _ _ k
theorem Cell1.set {w : World} {h : Nat} {t : TypeId} {v : Value} (k : Cell1 w h t v) (u : Value) : Cell1 (w.setCell ⟨h, 0, none⟩ u) h t u := one_setCell k
theorem Cell1.fr {w w' : World} {h : Nat} {t : TypeId} {v : Value} {S : Nat → Prop} (k : Cell1 w h t v) (f : Fr w w' S) (hn : ¬ S h) : Cell1 w' h t v := f.heap k hn
theorem Cell1.new (w : World) (t : TypeId) (v : Value) : Cell1 (w.alloc (.cells #[v] t)) w.heap.size t v := heap_alloc_new w _
theorem Cell1.lt {w : World} {h : Nat} {t : TypeId} {v : Value} (k : Cell1 w h t v) : h < w.heap.size := lt_of_heap k
theorem Cell1.other {w : World} {h : Nat} {t : TypeId} {v : Value} (k : Cell1 w h t v) (p : Addr) (hp : p.block ≠ h) (u : Value) : Cell1 (w.setCell p u) h t v := by
  unfold Cell1; rw [Below.heap_setCell _ _ _ _ (fun e => hp e.symm)]; exact k
theorem IsRd.other {w : World} {g : Nat} {s : ByteArray} {a : Nat} {e : Int} (k : IsRd w g s a e) (p : Addr) (hp : p.block ≠ g) (u : Value) : IsRd (w.setCell p u) g s a e := by
  unfold IsRd; rw [Below.heap_setCell _ _ _ _ (fun e => hp e.symm)]; exact k
theorem IsRd.alloc {w : World} {g : Nat} {s : ByteArray} {a : Nat} {e : Int} (k : IsRd w g s a e) (o : Obj) : IsRd (w.alloc o) g s a e := by
  unfold IsRd; rw [Below.heap_alloc _ _ _ (lt_of_heap k)]; exact k
theorem IsRd.lt {w : World} {g : Nat} {s : ByteArray} {a : Nat} {e : Int} (k : IsRd w g s a e) : g < w.heap.size := lt_of_heap k
theorem Cell1.alloc {w : World} {h : Nat} {t : TypeId} {v : Value} (k : Cell1 w h t v) (o : Obj) : Cell1 (w.alloc o) h t v := by
  unfold Cell1; rw [Below.heap_alloc _ _ _ (lt_of_heap k)]; exact k

/-- try's deferred closure. be: the cell of e, ba: of at, br: of r, bo: of ok. -/
def TryEndPost (g : Nat) (s : ByteArray) (a0 a1 : Nat) (e1 : Int) (bo : Nat) (w w' : World) : Prop :=
  IsRd w' g s (if e1 = 0 then a1 else a0) e1 ∧ Cell1 w' bo 4 (.bool (decide (e1 = 0))) ∧ Fr w w' (fun k => k = g ∨ k = bo)
set_option maxHeartbeats 400000 in
theorem try_end_any (g : Nat) (s : ByteArray) (a0 a1 : Nat) (e1 : Int) (be ba br bo : Nat) (ok0 : Bool) (w : World)
    (hr : IsRd w g s a1 0) (he : Cell1 w be 26 (.int .i64 e1)) (ha : Cell1 w ba 3 (.int .i64 a0)) (hp : Cell1 w br 122 (.pointer (some ⟨g, 0, none⟩)))
    (ho : Cell1 w bo 4 (.bool ok0)) (n1 : be ≠ g) (n2 : be ≠ bo) (n3 : bo ≠ g) (u : FrameMode) :
    CallsD Tryz.prog 137 #[.pointer (some ⟨be, 0, none⟩), .pointer (some ⟨ba, 0, none⟩), .pointer (some ⟨br, 0, none⟩), .pointer (some ⟨bo, 0, none⟩)] u w
      fun e u' w' => u' = u ∧ (e = .returned (.tuple #[]) ∧ TryEndPost g s a0 a1 e1 bo w w') := by
  have c1 := he.c
  have c2 := ha.c
  have c3 := hp.c
  have c4 := ho.f
  have c5 := hr.f 1
  have c6 := hr.f 2
  have d1 := hr.c1
  have d2 := hr.c2
  have HO := Lib.hid ho
  have HR := Lib.hid hr
  clear ho hr
  by_cases h0 : e1 = 0
  · subst h0
    clear c5 c6 d1 d2 
    have c7 := HO.out.c
    go_enter_d Tryz.func137, Tryz.ntmps137
    go_wp2
    go_end0
    refine ⟨rfl, ?_, ?_, ?_⟩
    · simpa using HR.out.other _ n3 _
    · exact HO.out.set _
    · exact (Fr.refl _ _).setCell _ _ (fun _ => .inr rfl)
  · have h1 : (e1 != 0) = true := by simpa using h0
    have h2 : (e1 == 0) = false := by simpa using h0
    have c7 := HO.out.c
    go_enter_d Tryz.func137, Tryz.ntmps137
    go_wp2
    go_end0
    refine ⟨rfl, ?_, ?_, ?_⟩
    · rw [if_neg h0]
      exact ((HR.out.set1 a0).set2 e1).other _ n3 _
    · have := ((HO.out.other ⟨g, 1, none⟩ (fun e => n3 e.symm) (.int .i64 a0)).other ⟨g, 2, none⟩ (fun e => n3 e.symm) (.int .i64 e1)).set (.bool false)
      simpa [h0] using this
    · exact (((Fr.refl _ _).setCell _ _ (fun _ => .inl rfl)).setCell _ _ (fun _ => .inl rfl)).setCell _ _ (fun _ => .inr rfl)

/-- What a reading closure does: the reader at g goes on to a1, the variable at h is set; its result is e1. -/
def ReadsBy (K : Nat) (cap : Array Value) (g : Nat) (s : ByteArray) (h : Nat) (t : TypeId) (e1 : Int) (a1 : Nat) (v1 : Value) (w : World) : Prop :=
  ∀ w1, Below w.heap.size w w1 → Calls Tryz.prog K cap w1 fun e w2 => e = .returned (.int .i64 e1) ∧ IsRd w2 g s a1 0 ∧ Cell1 w2 h t v1 ∧ Fr w1 w2 (fun k => k = g ∨ k = h)
def TryPost (g : Nat) (s : ByteArray) (a0 : Nat) (h : Nat) (t : TypeId) (e1 : Int) (a1 : Nat) (v1 : Value) (w : World) (e : Ending) (w' : World) : Prop :=
  e = .returned (.bool (decide (e1 = 0))) ∧ IsRd w' g s (if e1 = 0 then a1 else a0) e1 ∧ Cell1 w' h t v1 ∧ Fr w w' (fun k => k = g ∨ k = h)
set_option maxHeartbeats 400000 in
theorem try_any (K : Nat) (cap : Array Value) (g : Nat) (s : ByteArray) (h : Nat) (t : TypeId) (a0 a1 : Nat) (e1 : Int) (v0 v1 : Value) (w : World)
    (hK : ∀ (args : Array Value) (w : World), (callFunc K args).run Tryz.prog w = .ok (.enter K args) w)
    (hr : IsRd w g s a0 0) (hh : Cell1 w h t v0) (hgh : g ≠ h) (hcl : ReadsBy K cap g s h t e1 a1 v1 w) :
    Calls Tryz.prog 107 #[.pointer (some ⟨g, 0, none⟩), .func (.func K) #[] cap] w (TryPost g s a0 h t e1 a1 v1 w) := by
  have hmf : ∀ (fn : Fn) (first cap : Array Value) (w : World), (Instr.makeFunc fn first cap).run Tryz.prog w = .ok (.func fn first cap) w := fun _ _ _ _ => rfl
  have HR := Lib.hid hr
  have HH := Lib.hid hh
  have HC := Lib.hid hcl
  have lg := hr.lt
  have lh := hh.lt
  have c1 := hr.c1
  have c2 := hr.c2
  clear hr hh hcl
  go_enter_defers Tryz.func107, Tryz.ntmps107
  go_wp2_with fail
  refine (HC.out _ ((((Below.refl _ _).alloc (Nat.le_refl _) _).alloc (by simp) _).alloc (by simp; omega) _ |>.alloc (by simp; omega) _)).mono ?_
  rintro e w2 ⟨rfl, hr2, hh2, hf2⟩
  have p0 : Cell1 w2 w.heap.size 122 (.pointer (some ⟨g, 0, none⟩)) := ((((Cell1.new _ _ _).alloc _).alloc _).alloc _).fr hf2 (by omega)
  have p1 : Cell1 w2 (w.heap.size + 1) 4 (.bool false) := by
    have := Cell1.new (w.alloc (.cells #[Value.pointer (some { block := g, off := 0 })] 122)) 4 (.bool false)
    simp only [World.size_alloc] at this
    exact ((this.alloc _).alloc _).fr hf2 (by omega)
  have p2 : Cell1 w2 (w.heap.size + 1 + 1) 3 (.int .i64 a0) := by
    have := Cell1.new ((w.alloc (.cells #[Value.pointer (some { block := g, off := 0 })] 122)).alloc (.cells #[.bool false] 4)) 3 (.int .i64 a0)
    simp only [World.size_alloc] at this
    exact (this.alloc _).fr hf2 (by omega)
  have p3 : Cell1 w2 (w.heap.size + 1 + 1 + 1) 26 (.int .i64 0) := by
    have := Cell1.new (((w.alloc (.cells #[Value.pointer (some { block := g, off := 0 })] 122)).alloc (.cells #[.bool false] 4)).alloc (.cells #[.int .i64 a0] 3)) 26 (.int .i64 0)
    simp only [World.size_alloc] at this
    exact this.fr hf2 (by omega)
  have q3 := p3.c
  have r3 := p3.f
  have P0 := Lib.hid p0
  have P1 := Lib.hid p1
  have P2 := Lib.hid p2
  have P3 := Lib.hid p3
  have HR2 := Lib.hid hr2
  have HH2 := Lib.hid hh2
  have HF2 := Lib.hid hf2
  clear p0 p1 p2 p3 hr2 hh2 hf2
  go_wp2
  refine leaves_cons (f := 137) (args := #[.pointer (some ⟨w.heap.size + 1 + 1 + 1, 0, none⟩), .pointer (some ⟨w.heap.size + 1 + 1, 0, none⟩), .pointer (some ⟨w.heap.size, 0, none⟩), .pointer (some ⟨w.heap.size + 1, 0, none⟩)]) (by simp) (by simp [go_sem]) ?_
  refine (try_end_any g s a0 a1 e1 _ _ _ _ false _ (HR2.out.other _ (by dsimp only; omega) _) (P3.out.set _) (P2.out.other _ (by dsimp only; omega) _) (P0.out.other _ (by dsimp only; omega) _) (P1.out.other _ (by dsimp only; omega) _) (by omega) (by omega) (by omega) .returning).mono ?_
  rintro e u' w3 ⟨rfl, rfl, hr3, ho3, hf3⟩
  have hh3 : Cell1 w3 h t v1 := (HH2.out.other ⟨w.heap.size + 1 + 1 + 1, 0, none⟩ (by dsimp only; omega) (.int .i64 e1)).fr hf3 (by omega)
  have hfr : Fr w w3 (fun k => k = g ∨ k = h) := by
    have hA : Fr w w2 (fun k => k = g ∨ k = h) := (((((Fr.refl w _).alloc _).alloc _).alloc _).alloc _).tr HF2.out
    have hz : w.heap.size ≤ w2.heap.size := hA.size
    exact (hA.setCell ⟨w.heap.size + 1 + 1 + 1, 0, none⟩ _ (by dsimp only; omega)).trans hf3 (by intro i hi h; omega)
  have c9 := ho3.c
  refine ⟨.bool (decide (e1 = 0)), ?_, rfl, ?_, hh3, hfr⟩
  · simp [results, Tryz.results107, go_sem, c9]
  · exact hr3
end Go.Proofs.YtjflcpkmoamijaaGreatDoor
namespace Go.Proofs.YtjflcpkmoamijaaGreatDoor
open Go.RowKit
set_option linter.unusedVariables false
set_option linter.unusedSimpArgs false
set_option linter.unnecessarySimpa false

theorem callF {K : Nat} {fn : Func} {c : Code} (hf : Tryz.prog.funcs[K]? = some fn) (hb : fn.body = some c) (hn : (fn.name == "runtime.NumGoroutine") = false) (args : Array Value) (w : World) :
    (callFunc K args).run Tryz.prog w = .ok (.enter K args) w := by
  simp only [callFunc, program, Bind.bind, Sem.bind, Sem.run, hf, hn, hb]
  rfl

theorem uintGo_le (s : ByteArray) : ∀ f k a m, a ≤ s.size → (uintGo s f k a m).2.2 ≤ s.size := by
  intro f
  induction f with
  | zero => intro k a m h; exact h
  | succ f ih =>
    intro k a m h
    rcases Nat.lt_or_ge a s.size with hl | hl
    · by_cases hc : 128 ≤ byteAt s a
      · rw [uintGo_on hl hc]; exact ih _ _ _ (by omega)
      · by_cases hb : (0 < k ∧ byteAt s a = 0) ∨ (k = 9 ∧ 1 < byteAt s a)
        · rw [uintGo_bad hl (by omega) hb]; exact hl
        · rw [uintGo_ok hl (by omega) hb]; exact hl
    · rw [uintGo_end hl]; exact h
theorem uintR_le {s : ByteArray} {a : Nat} (h : a ≤ s.size) : (uintR s a).2.2 ≤ s.size := uintGo_le s _ _ _ _ h

set_option maxHeartbeats 400000 in
theorem uint_closure (g : Nat) (s : ByteArray) (a0 br bn : Nat) (v0 : Value) (w : World) (hs : s.size ≤ 140737488351232) (ha : a0 ≤ s.size) (hr : IsRd w g s a0 0)
    (hb : Cell1 w br 122 (.pointer (some ⟨g, 0, none⟩))) (hn : Cell1 w bn 104 v0) (n1 : br ≠ g) (n2 : bn ≠ g) (n3 : bn ≠ br) :
    ReadsBy 127 #[.pointer (some ⟨br, 0, none⟩), .pointer (some ⟨bn, 0, none⟩)] g s bn 104 (uintR s a0).2.1 (uintR s a0).2.2 (.int .u64 (uintR s a0).1) w := by
  intro w1 hw1
  have hf1 : Fr w w1 Nowhere := Fr.of_below hw1 _
  have hr1 := hr.fr hf1 (fun h => h)
  have hb1 := hb.fr hf1 (fun h => h)
  have hn1 := hn.fr hf1 (fun h => h)
  clear hr hb hn hf1 hw1
  have c1 := hb1.c
  have HR := Lib.hid hr1
  have HN := Lib.hid hn1
  clear hr1 hb1 hn1
  go_enter Tryz.func127, Tryz.ntmps127
  go_wp2_with fail
  refine (uint_any g s a0 0 _ hs ha HR.out).mono ?_
  rintro e w2 ⟨rfl, hr2, hf2⟩
  have hn2 := HN.out.fr hf2 n2
  have c3 := hn2.c
  have c4 := hn2.f
  have HN2 := Lib.hid hn2
  have HR2 := Lib.hid hr2
  have HF2 := Lib.hid hf2
  clear hn2 hr2 hf2
  go_wp2
  go_ret
  exact ⟨rfl, HR2.out.other _ n2 _, HN2.out.set _, (HF2.out.mono (fun i _ h => .inl h)).setCell _ _ (fun _ => .inr rfl)⟩

/-- (*wire.Reader).Uint: the number; the place; the error. -/
def uintM (s : ByteArray) (a : Nat) (err : Int) : Int × Nat × Int :=
  if err = 0 then (if (uintR s a).2.1 = 0 then ((uintR s a).1, (uintR s a).2.2, 0) else (0, a, (uintR s a).2.1)) else (0, a, err)
def RdPost (g : Nat) (s : ByteArray) (r : Nat × Int) (w : World) (v : Value) (e : Ending) (w' : World) : Prop :=
  e = .returned v ∧ IsRd w' g s r.1 r.2 ∧ Fr w w' (· = g)
theorem uintM_le {s : ByteArray} {a : Nat} {err : Int} (h : a ≤ s.size) : (uintM s a err).2.1 ≤ s.size := by
  unfold uintM; split
  · split
    · exact uintR_le h
    · exact h
  · exact h

set_option maxHeartbeats 400000 in
theorem try_no (K : Nat) (cap : Array Value) (g : Nat) (s : ByteArray) (a : Nat) (err : Int) (w : World) (hr : IsRd w g s a err) (he : err ≠ 0) :
    Calls Tryz.prog 107 #[.pointer (some ⟨g, 0, none⟩), .func (.func K) #[] cap] w fun e w' => e = .returned (.bool false) ∧ Below w.heap.size w w' := by
  have c1 := hr.c1
  have c2 := hr.c2
  have lg := hr.lt
  have h1 : (err != 0) = true := by simpa using he
  clear hr
  go_enter Tryz.func107, Tryz.ntmps107
  go_wp2
  have c5 : ((w.alloc (.cells #[.pointer (some ⟨g, 0, none⟩)] 122)).alloc (.cells #[.bool false] 4)).cell? ⟨w.heap.size + 1, 0, none⟩ = some (.bool false) := by
    have := (Cell1.new (w.alloc (.cells #[.pointer (some ⟨g, 0, none⟩)] 122)) 4 (.bool false)).c
    simpa using this
  refine bodyPost_ret (v := .bool false) ?_ rfl ⟨rfl, ((Below.refl _ _).alloc (Nat.le_refl _) _).alloc (by simp) _⟩
  simp [results, Tryz.results107, go_sem, c5]

set_option maxHeartbeats 400000 in
theorem Uint_any (g : Nat) (s : ByteArray) (a : Nat) (err : Int) (w : World) (hs : s.size ≤ 140737488351232) (ha : a ≤ s.size) (hr : IsRd w g s a err) :
    Calls Tryz.prog 103 #[.pointer (some ⟨g, 0, none⟩)] w (RdPost g s (uintM s a err).2 w (.int .u64 (uintM s a err).1)) := by
  have hmf : ∀ (fn : Fn) (first cap : Array Value) (w : World), (Instr.makeFunc fn first cap).run Tryz.prog w = .ok (.func fn first cap) w := fun _ _ _ _ => rfl
  have lg := hr.lt
  have HR := Lib.hid hr
  clear hr
  by_cases he : err = 0
  · subst he
    go_enter Tryz.func103, Tryz.ntmps103
    go_wp2_with fail
    have p0 : Cell1 ((w.alloc (.cells #[.pointer (some ⟨g, 0, none⟩)] 122)).alloc (.cells #[.int .u64 0] 104)) w.heap.size 122 (.pointer (some ⟨g, 0, none⟩)) := (Cell1.new _ _ _).alloc _
    have p1 : Cell1 ((w.alloc (.cells #[.pointer (some ⟨g, 0, none⟩)] 122)).alloc (.cells #[.int .u64 0] 104)) (w.heap.size + 1) 104 (.int .u64 0) := by
      have := Cell1.new (w.alloc (.cells #[.pointer (some ⟨g, 0, none⟩)] 122)) 104 (.int .u64 0)
      simpa using this
    have hr2 : IsRd ((w.alloc (.cells #[.pointer (some ⟨g, 0, none⟩)] 122)).alloc (.cells #[.int .u64 0] 104)) g s a 0 := (HR.out.alloc _).alloc _
    have P1 := Lib.hid p1
    have HR2 := Lib.hid hr2
    have hC := Lib.hid (uint_closure g s a w.heap.size (w.heap.size + 1) (.int .u64 0) _ hs ha hr2 p0 p1 (by omega) (by omega) (by omega))
    clear p0 p1 hr2
    refine (try_any _ _ g s (w.heap.size + 1) 104 a _ _ (.int .u64 0) _ _ (callF Tryz.func127 rfl (by decide)) HR2.out P1.out (by omega) hC.out).mono ?_
    rintro e w3 ⟨rfl, hr3, hh3, hf3⟩
    have c1 := hh3.c
    have hF : Fr w w3 (· = g) := (((Fr.refl w (· = g)).alloc _).alloc _).trans hf3 (by intro i hi h; rcases h with h | h; exact h; omega)
    have HR3 := Lib.hid hr3
    have HF := Lib.hid hF
    clear hr3 hh3 hf3 hF
    by_cases h0 : (uintR s a).2.1 = 0
    · have hM : Hid (uintM s a 0 = ((uintR s a).1, (uintR s a).2.2, 0)) := by unfold uintM; rw [if_pos rfl, if_pos h0]; rfl
      rw [if_pos h0, h0] at HR3
      have hd : decide ((uintR s a).2.1 = 0) = true := by simpa using h0
      clear h0
      go_wp2
      go_ret
      rw [hM.out]
      exact ⟨rfl, HR3.out, HF.out⟩
    · have hM : Hid (uintM s a 0 = (0, a, (uintR s a).2.1)) := by unfold uintM; rw [if_pos rfl, if_neg h0]; rfl
      rw [if_neg h0] at HR3
      have hd : decide ((uintR s a).2.1 = 0) = false := by simpa using h0
      clear h0
      go_wp2
      go_ret
      rw [hM.out]
      exact ⟨rfl, HR3.out, HF.out⟩
  · have hM : Hid (uintM s a err = (0, a, err)) := by unfold uintM; rw [if_neg he]; rfl
    go_enter Tryz.func103, Tryz.ntmps103
    go_wp2_with fail
    refine (try_no _ _ g s a err _ ((HR.out.alloc _).alloc _) he).mono ?_
    rintro e w3 ⟨rfl, hb3⟩
    have hF : Fr w w3 (· = g) := (((Fr.refl w (· = g)).alloc _).alloc _).tr (Fr.of_below hb3 _)
    have hr3 := ((HR.out.alloc (.cells #[.pointer (some ⟨g, 0, none⟩)] 122)).alloc (.cells #[.int .u64 0] 104)).fr (Fr.of_below hb3 Nowhere) (fun h => h)
    have HF := Lib.hid hF
    have HR3 := Lib.hid hr3
    clear hb3 hF hr3
    go_wp2
    go_ret
    rw [hM.out]
    exact ⟨rfl, HR3.out, HF.out⟩
end Go.Proofs.YtjflcpkmoamijaaGreatDoor
namespace Go.Proofs.YtjflcpkmoamijaaGreatDoor
open Go.RowKit
set_option linter.unusedVariables false
set_option linter.unusedSimpArgs false
set_option linter.unnecessarySimpa false

/-- (*wire.Reader).count. -/
def countR (s : ByteArray) (a : Nat) (most : Int) : Int × Int × Nat :=
  (wrap64 (uintR s a).1, (if (uintR s a).2.1 = 0 ∧ most < (uintR s a).1 then 5 else (uintR s a).2.1), (uintR s a).2.2)
def CountPost (g : Nat) (s : ByteArray) (a0 : Nat) (most err : Int) (w : World) (e : Ending) (w' : World) : Prop :=
  e = .returned (.tuple #[.int .i64 (countR s a0 most).1, .int .i64 (countR s a0 most).2.1]) ∧ IsRd w' g s (countR s a0 most).2.2 err ∧ Fr w w' (· = g)
theorem CountPost.mk {g : Nat} {s : ByteArray} {a0 : Nat} {most err : Int} {w w' : World} {m e1 : Int} (hm : m = wrap64 (uintR s a0).1)
    (h : (if (uintR s a0).2.1 = 0 ∧ most < (uintR s a0).1 then (5 : Int) else (uintR s a0).2.1) = e1) (hr : IsRd w' g s (uintR s a0).2.2 err) (hf : Fr w w' (· = g)) :
    CountPost g s a0 most err w (.returned (.tuple #[.int .i64 m, .int .i64 e1])) w' := by
  unfold CountPost countR; rw [h, hm]; exact ⟨rfl, hr, hf⟩

set_option maxHeartbeats 400000 in
theorem count_any (g : Nat) (s : ByteArray) (a : Nat) (most err : Int) (w : World) (hs : s.size ≤ 140737488351232) (ha : a ≤ s.size) (hm0 : 0 ≤ most) (hm1 : most ≤ 140737488351232) (hr : IsRd w g s a err) :
    Calls Tryz.prog 109 #[.pointer (some ⟨g, 0, none⟩), .int .i64 most] w (CountPost g s a most err w) := by
  go_enter Tryz.func109, Tryz.ntmps109
  go_wp2_with fail
  refine (uint_any g s a err _ hs ha hr).mono ?_
  rintro e w2 ⟨rfl, hr2, hf2⟩
  have HR2 := Lib.hid hr2
  have HF2 := Lib.hid hf2
  clear hr2 hf2 hr
  obtain ⟨n, hn⟩ : ∃ n, n = (uintR s a).1 := ⟨_, rfl⟩
  obtain ⟨e1, he⟩ : ∃ n, n = (uintR s a).2.1 := ⟨_, rfl⟩
  rw [← hn, ← he]
  have HN := Lib.hid hn
  have HE := Lib.hid he
  clear hn he
  have hmneg : ¬ most < 0 := by omega
  have hw : IntKind.u64.wrap most = most := by simp only [IntKind.wrap_u64]; omega
  by_cases h0 : e1 = 0
  · subst h0
    by_cases hgt : most < n
    · go_wp2
      go_ret2
      exact CountPost.mk (by rw [← HN.out]) (by rw [← HE.out, if_pos ⟨rfl, HN.out ▸ hgt⟩]) HR2.out HF2.out
    · go_wp2
      go_ret2
      exact CountPost.mk (by rw [← HN.out]) (by rw [← HE.out, if_neg (fun h => by have := h.2; rw [← HN.out] at this; omega)]) HR2.out HF2.out
  · have hb : (e1 == 0) = false := by simpa using h0
    go_wp2
    go_ret2
    exact CountPost.mk (by rw [← HN.out]) (by rw [← HE.out, if_neg (fun h => h0 h.1)]) HR2.out HF2.out

set_option maxHeartbeats 400000 in
theorem count_closure (g : Nat) (s : ByteArray) (a0 br bm bn : Nat) (most : Int) (v0 : Value) (w : World) (hs : s.size ≤ 140737488351232) (ha : a0 ≤ s.size) (hm0 : 0 ≤ most) (hm1 : most ≤ 140737488351232) (hr : IsRd w g s a0 0)
    (hb : Cell1 w br 122 (.pointer (some ⟨g, 0, none⟩))) (hm : Cell1 w bm 3 (.int .i64 most)) (hn : Cell1 w bn 3 v0) (n1 : br ≠ g) (n2 : bn ≠ g) :
    ReadsBy 108 #[.pointer (some ⟨br, 0, none⟩), .pointer (some ⟨bm, 0, none⟩), .pointer (some ⟨bn, 0, none⟩)] g s bn 3 (countR s a0 most).2.1 (countR s a0 most).2.2 (.int .i64 (countR s a0 most).1) w := by
  intro w1 hw1
  have hf1 : Fr w w1 Nowhere := Fr.of_below hw1 _
  have hr1 := hr.fr hf1 (fun h => h)
  have hb1 := hb.fr hf1 (fun h => h)
  have hm1' := hm.fr hf1 (fun h => h)
  have hn1 := hn.fr hf1 (fun h => h)
  clear hr hb hn hf1 hw1
  have c1 := hb1.c
  have c2 := hm1'.c
  have HR := Lib.hid hr1
  have HN := Lib.hid hn1
  clear hr1 hb1 hn1
  go_enter Tryz.func108, Tryz.ntmps108
  go_wp2_with fail
  refine (count_any g s a0 most 0 _ hs ha hm0 hm1 HR.out).mono ?_
  rintro e w2 ⟨rfl, hr2, hf2⟩
  have hn2 := HN.out.fr hf2 n2
  have c3 := hn2.c
  have c4 := hn2.f
  have HN2 := Lib.hid hn2
  have HR2 := Lib.hid hr2
  have HF2 := Lib.hid hf2
  clear hn2 hr2 hf2
  go_wp2
  go_ret
  exact ⟨rfl, HR2.out.other _ n2 _, HN2.out.set _, (HF2.out.mono (fun i _ h => .inl h)).setCell _ _ (fun _ => .inr rfl)⟩

/-- (*wire.Reader).Count. -/
def countM (s : ByteArray) (a : Nat) (err most : Int) : Int × Nat × Int :=
  if err = 0 then (if (countR s a most).2.1 = 0 then ((countR s a most).1, (countR s a most).2.2, 0) else (0, a, (countR s a most).2.1)) else (0, a, err)

/-- The world in which a reading method calls try: the reader's own variable, its limit's, its result's. -/
def w3of (w : World) (g : Nat) (most : Int) (z : Value) (t : TypeId) : World :=
  ((w.alloc (.cells #[.pointer (some ⟨g, 0, none⟩)] 122)).alloc (.cells #[.int .i64 most] 3)).alloc (.cells #[z] t)
theorem w3of_facts (w : World) (g : Nat) (most : Int) (z : Value) (t : TypeId) :
    Cell1 (w3of w g most z t) w.heap.size 122 (.pointer (some ⟨g, 0, none⟩)) ∧ Cell1 (w3of w g most z t) (w.heap.size + 1) 3 (.int .i64 most) ∧
    Cell1 (w3of w g most z t) (w.heap.size + 1 + 1) t z ∧ Fr w (w3of w g most z t) Nowhere := by
  refine ⟨((Cell1.new _ _ _).alloc _).alloc _, ?_, ?_, (((Fr.refl _ _).alloc _).alloc _).alloc _⟩
  · have := (Cell1.new (w.alloc (.cells #[.pointer (some ⟨g, 0, none⟩)] 122)) 3 (.int .i64 most)).alloc (.cells #[z] t)
    simpa [w3of] using this
  · have := Cell1.new ((w.alloc (.cells #[.pointer (some ⟨g, 0, none⟩)] 122)).alloc (.cells #[.int .i64 most] 3)) t z
    simpa [w3of] using this

set_option maxHeartbeats 400000 in
theorem Count_any (g : Nat) (s : ByteArray) (a : Nat) (err most : Int) (w : World) (hs : s.size ≤ 140737488351232) (ha : a ≤ s.size) (hm0 : 0 ≤ most) (hm1 : most ≤ 140737488351232) (hr : IsRd w g s a err) :
    Calls Tryz.prog 76 #[.pointer (some ⟨g, 0, none⟩), .int .i64 most] w (RdPost g s (countM s a err most).2 w (.int .i64 (countM s a err most).1)) := by
  have hmf : ∀ (fn : Fn) (first cap : Array Value) (w : World), (Instr.makeFunc fn first cap).run Tryz.prog w = .ok (.func fn first cap) w := fun _ _ _ _ => rfl
  have lg := hr.lt
  have HR := Lib.hid hr
  clear hr
  by_cases he : err = 0
  · subst he
    go_enter Tryz.func76, Tryz.ntmps76
    go_wp2_with fail
    obtain ⟨p0, p1, p2, pf⟩ := w3of_facts w g most (.int .i64 0) 3
    have hr2 := HR.out.fr pf (fun h => h)
    have P2 := Lib.hid p2
    have PF := Lib.hid pf
    have HR2 := Lib.hid hr2
    have hC := Lib.hid (count_closure g s a w.heap.size (w.heap.size + 1) (w.heap.size + 1 + 1) most (.int .i64 0) _ hs ha hm0 hm1 hr2 p0 p1 p2 (by omega) (by omega))
    clear p0 p1 p2 pf hr2
    refine (try_any _ _ g s (w.heap.size + 1 + 1) 3 a _ _ (.int .i64 0) _ _ (callF Tryz.func108 rfl (by decide)) HR2.out P2.out (by omega) hC.out).mono ?_
    rintro e w3 ⟨rfl, hr3, hh3, hf3⟩
    have c1 := hh3.c
    have hF : Fr w w3 (· = g) := (PF.out.mono (fun _ _ h => h.elim)).trans hf3 (by intro i hi h; rcases h with h | h; exact h; omega)
    have HR3 := Lib.hid hr3
    have HF := Lib.hid hF
    clear hr3 hh3 hf3 hF
    by_cases h0 : (countR s a most).2.1 = 0
    · have hM : Hid (countM s a 0 most = ((countR s a most).1, (countR s a most).2.2, 0)) := by unfold countM; rw [if_pos rfl, if_pos h0]; rfl
      rw [if_pos h0, h0] at HR3
      have hd : decide ((countR s a most).2.1 = 0) = true := by simpa using h0
      clear h0
      go_wp2
      go_ret
      rw [hM.out]
      exact ⟨rfl, HR3.out, HF.out⟩
    · have hM : Hid (countM s a 0 most = (0, a, (countR s a most).2.1)) := by unfold countM; rw [if_pos rfl, if_neg h0]; rfl
      rw [if_neg h0] at HR3
      have hd : decide ((countR s a most).2.1 = 0) = false := by simpa using h0
      clear h0
      go_wp2
      go_ret
      rw [hM.out]
      exact ⟨rfl, HR3.out, HF.out⟩
  · have hM : Hid (countM s a err most = (0, a, err)) := by unfold countM; rw [if_neg he]; rfl
    go_enter Tryz.func76, Tryz.ntmps76
    go_wp2_with fail
    obtain ⟨_, _, _, pf⟩ := w3of_facts w g most (.int .i64 0) 3
    refine (try_no _ _ g s a err _ (HR.out.fr pf (fun h => h)) he).mono ?_
    rintro e w3 ⟨rfl, hb3⟩
    have hF : Fr w w3 (· = g) := (pf.mono (fun _ _ h => h.elim)).tr (Fr.of_below hb3 _)
    have hr3 := (HR.out.fr pf (fun h => h)).fr (Fr.of_below hb3 Nowhere) (fun h => h)
    have HF := Lib.hid hF
    have HR3 := Lib.hid hr3
    clear hb3 hF hr3 pf
    go_wp2
    go_ret
    rw [hM.out]
    exact ⟨rfl, HR3.out, HF.out⟩
end Go.Proofs.YtjflcpkmoamijaaGreatDoor
namespace Go.Proofs.YtjflcpkmoamijaaGreatDoor
open Go.RowKit
set_option linter.unusedVariables false
set_option linter.unusedSimpArgs false
set_option linter.unnecessarySimpa false

/-- Text's closure: the string, the error, the place. -/
def textR (s : ByteArray) (a : Nat) (most : Int) : ByteArray × Int × Nat :=
  if (countR s a most).2.1 = 0 then
    (if ((s.size : Int) - (countR s a most).2.2) < (countR s a most).1 then (⟨#[]⟩, 3, (countR s a most).2.2)
     else (s.extract (countR s a most).2.2 ((countR s a most).2.2 + (countR s a most).1.toNat), 0, (countR s a most).2.2 + (countR s a most).1.toNat))
  else (⟨#[]⟩, (countR s a most).2.1, (countR s a most).2.2)

theorem countR_le {s : ByteArray} {a : Nat} {most : Int} (h : a ≤ s.size) : (countR s a most).2.2 ≤ s.size := uintR_le h

theorem wrap_u64_range (n : Int) : 0 ≤ IntKind.u64.wrap n ∧ IntKind.u64.wrap n < 18446744073709551616 := by rw [IntKind.wrap_u64]; omega
theorem rdStep_range (m : Int) (c k : Nat) : 0 ≤ rdStep m c k ∧ rdStep m c k < 18446744073709551616 := by
  unfold rdStep bits; exact wrap_u64_range _
theorem uintGo_range (s : ByteArray) : ∀ f k a m, 0 ≤ m → m < 18446744073709551616 → 0 ≤ (uintGo s f k a m).1 ∧ (uintGo s f k a m).1 < 18446744073709551616 := by
  intro f
  induction f with
  | zero => intro k a m h h'; simp [uintGo]
  | succ f ih =>
    intro k a m h h'
    rcases Nat.lt_or_ge a s.size with hl | hl
    · by_cases hc : 128 ≤ byteAt s a
      · rw [uintGo_on hl hc]; exact ih _ _ _ (rdStep_range _ _ _).1 (rdStep_range _ _ _).2
      · by_cases hb : (0 < k ∧ byteAt s a = 0) ∨ (k = 9 ∧ 1 < byteAt s a)
        · rw [uintGo_bad hl (by omega) hb]; simp
        · rw [uintGo_ok hl (by omega) hb]; exact rdStep_range _ _ _
    · rw [uintGo_end hl]; simp
theorem uintR_range (s : ByteArray) (a : Nat) : 0 ≤ (uintR s a).1 ∧ (uintR s a).1 < 18446744073709551616 := uintGo_range s _ _ _ _ (by omega) (by omega)
theorem countR_range {s : ByteArray} {a : Nat} {most : Int} (hm : most ≤ 140737488351232) (h : (countR s a most).2.1 = 0) : 0 ≤ (countR s a most).1 ∧ (countR s a most).1 ≤ most ∧ (countR s a most).1 = (uintR s a).1 := by
  have hr := uintR_range s a
  unfold countR at h ⊢
  simp only at h ⊢
  split at h
  · omega
  · rename_i hn
    have hle : (uintR s a).1 ≤ most := by
      rcases Int.lt_or_le most (uintR s a).1 with h1 | h1
      · exact absurd ⟨h, h1⟩ hn
      · exact h1
    have hw : wrap64 (uintR s a).1 = (uintR s a).1 := by unfold wrap64; omega
    rw [hw]; exact ⟨hr.1, hle, rfl⟩

set_option maxHeartbeats 400000 in
set_option maxRecDepth 100000 in
theorem text_closure (g : Nat) (s : ByteArray) (a0 br bm bn : Nat) (most : Int) (w : World) (hs : s.size ≤ 140737488351232) (ha : a0 ≤ s.size) (hm0 : 0 ≤ most) (hm1 : most ≤ 140737488351232) (hr : IsRd w g s a0 0)
    (hb : Cell1 w br 122 (.pointer (some ⟨g, 0, none⟩))) (hm : Cell1 w bm 3 (.int .i64 most)) (hn : Cell1 w bn 9 (.string ⟨#[]⟩)) (n1 : br ≠ g) (n2 : bn ≠ g) (n3 : br ≠ bn) :
    ReadsBy 110 #[.pointer (some ⟨br, 0, none⟩), .pointer (some ⟨bm, 0, none⟩), .pointer (some ⟨bn, 0, none⟩)] g s bn 9 (textR s a0 most).2.1 (textR s a0 most).2.2 (.string (textR s a0 most).1) w := by
  intro w1 hw1
  have hf1 : Fr w w1 Nowhere := Fr.of_below hw1 _
  have hr1 := hr.fr hf1 (fun h => h)
  have hb1 := hb.fr hf1 (fun h => h)
  have hm1' := hm.fr hf1 (fun h => h)
  have hn1 := hn.fr hf1 (fun h => h)
  clear hr hb hn hf1 hw1
  have c1 := hb1.c
  have c2 := hm1'.c
  have HB := Lib.hid hb1
  have HR := Lib.hid hr1
  have HN := Lib.hid hn1
  clear hr1 hb1 hn1
  go_enter Tryz.func110, Tryz.ntmps110
  go_wp2_with fail
  refine (count_any g s a0 most 0 _ hs ha hm0 hm1 HR.out).mono ?_
  rintro e w2 ⟨rfl, hr2, hf2⟩
  have hn2 := HN.out.fr hf2 n2
  have hb2 := HB.out.fr hf2 n1
  have c3 := hn2.c
  have c4 := hn2.f
  have c5 := hb2.c
  have c6 := hr2.c0
  have c7 := hr2.c1
  have c8 := hr2.f 1
  have hle := countR_le (most := most) ha
  have HN2 := Lib.hid hn2
  have HR2 := Lib.hid hr2
  have HF2 := Lib.hid hf2
  clear hn2 hr2 hf2 hb2
  obtain ⟨n, hn⟩ : ∃ n, n = (countR s a0 most).1 := ⟨_, rfl⟩
  obtain ⟨e1, he⟩ : ∃ n, n = (countR s a0 most).2.1 := ⟨_, rfl⟩
  obtain ⟨a1, ha1⟩ : ∃ n, n = (countR s a0 most).2.2 := ⟨_, rfl⟩
  have HT : Hid (textR s a0 most = if e1 = 0 then (if ((s.size : Int) - a1) < n then (⟨#[]⟩, 3, a1) else (s.extract a1 (a1 + n.toNat), 0, a1 + n.toNat)) else (⟨#[]⟩, e1, a1)) := by
    unfold textR; rw [← hn, ← he, ← ha1]; rfl
  have h0 : e1 = 0 → 0 ≤ n ∧ n ≤ most := by intro h; rw [he] at h; have := countR_range hm1 h; rw [hn]; exact ⟨this.1, this.2.1⟩
  rw [← ha1] at c7 hle HR2
  rw [← hn, ← he]
  clear hn he ha1
  by_cases h0' : e1 = 0
  · obtain ⟨hn0, hnm⟩ := h0 h0'
    subst h0'
    clear h0
    by_cases hgt : ((s.size : Int) - a1) < n
    · have h1 : Hid (textR s a0 most = (⟨#[]⟩, 3, a1)) := by have := HT.out; rw [if_pos rfl, if_pos hgt] at this; exact this
      go_wp2
      go_quiet (fail)
      go_wp2
      go_ret
      rw [h1.out]
      exact ⟨rfl, HR2.out.drewN _, HN2.out, ((HF2.out.drewN _).mono (fun i _ h => .inl h))⟩
    · have hbd : a1 + n.toNat ≤ s.size := by omega
      have h1 : Hid (textR s a0 most = (s.extract a1 (a1 + n.toNat), 0, a1 + n.toNat)) := by have := HT.out; rw [if_pos rfl, if_neg hgt] at this; exact this
      obtain ⟨k, rfl⟩ := Int.eq_ofNat_of_zero_le hn0
      go_wp2
      go_quiet (fail)
      go_wp2
      refine wp_region_still_tail 15 (by kernel_rfl) (by kernel_rfl) ?_
      simp only [List.take_succ_cons, List.take_zero, List.drop_succ_cons, List.drop_zero]
      change wpStill _ _ (w2.drewN nq).drew _ _ _
      have b1 : (a1 : Int) + (k : Int) ≤ (s.size : Int) := by omega
      have b2 : 0 ≤ (a1 : Int) + (k : Int) := by omega
      have b3 : (a1 : Int) ≤ (a1 : Int) + (k : Int) := by omega
      have hw : IntKind.i64.wrap ((a1 : Int) + (k : Int)) = (a1 : Int) + (k : Int) := IntWalk.i64_in _ (by omega)
      repeat still_step
      refine wpStill_nil ?_
      change wpList _ _ _ _ _ (w2.drewN nq).drew
      have HR3 : Hid (IsRd (w2.drewN nq).drew g s a1 0) := HR2.out
      have HN3 : Hid (Cell1 (w2.drewN nq).drew bn 9 (.string ⟨#[]⟩)) := HN2.out
      have HF3 := Lib.hid (HF2.out.drewN nq).drew
      have HB3 : (w2.drewN nq).drew.cell? ⟨br, 0, none⟩ = some (.pointer (some ⟨g, 0, none⟩)) := c5
      clear c3 c4 c5 c6 c7 c8 HR2 HN2 HF2 b1 b2 b3 hw
      generalize (w2.drewN nq).drew = w3 at *
      have c3 := HN3.out.c
      have c4 := HN3.out.f
      have c7 := HR3.out.c1
      have c8 := HR3.out.f 1
      go_wp2
      go_ret
      rw [h1.out]
      have e1 : ((a1 : Int) + (k : Int)).toNat = a1 + ((k : Nat) : Int).toNat := by omega
      have e2 : (a1 : Int) + (k : Int) = ((a1 + ((k : Nat) : Int).toNat : Nat) : Int) := by omega
      rw [e1, e2]
      exact ⟨rfl, (HR3.out.other _ n2 _).set1 _, (HN3.out.set _).other _ (fun h => n2 h.symm) _, ((HF3.out.mono (fun i _ h => .inl h)).setCell _ _ (fun _ => .inr rfl)).setCell _ _ (fun _ => .inl rfl)⟩
  · have hb : (e1 != 0) = true := by simpa using h0'
    go_wp2
    go_ret
    have h1 : textR s a0 most = (⟨#[]⟩, e1, a1) := by rw [HT.out, if_neg h0']
    rw [h1]
    exact ⟨rfl, HR2.out, HN2.out, HF2.out.mono (fun i _ h => .inl h)⟩

/-- (*wire.Reader).Text. -/
def textM (s : ByteArray) (a : Nat) (err most : Int) : ByteArray × Nat × Int :=
  if err = 0 then (if (textR s a most).2.1 = 0 then ((textR s a most).1, (textR s a most).2.2, 0) else (⟨#[]⟩, a, (textR s a most).2.1)) else (⟨#[]⟩, a, err)

set_option maxHeartbeats 400000 in
theorem Text_any (g : Nat) (s : ByteArray) (a : Nat) (err most : Int) (w : World) (hs : s.size ≤ 140737488351232) (ha : a ≤ s.size) (hm0 : 0 ≤ most) (hm1 : most ≤ 140737488351232) (hr : IsRd w g s a err) :
    Calls Tryz.prog 77 #[.pointer (some ⟨g, 0, none⟩), .int .i64 most] w (RdPost g s (textM s a err most).2 w (.string (textM s a err most).1)) := by
  have hmf : ∀ (fn : Fn) (first cap : Array Value) (w : World), (Instr.makeFunc fn first cap).run Tryz.prog w = .ok (.func fn first cap) w := fun _ _ _ _ => rfl
  have lg := hr.lt
  have HR := Lib.hid hr
  clear hr
  by_cases he : err = 0
  · subst he
    go_enter Tryz.func77, Tryz.ntmps77
    go_wp2_with fail
    obtain ⟨p0, p1, p2, pf⟩ := w3of_facts w g most (.string ⟨#[]⟩) 9
    have hr2 := HR.out.fr pf (fun h => h)
    have P2 := Lib.hid p2
    have PF := Lib.hid pf
    have HR2 := Lib.hid hr2
    have hC := Lib.hid (text_closure g s a w.heap.size (w.heap.size + 1) (w.heap.size + 1 + 1) most _ hs ha hm0 hm1 hr2 p0 p1 p2 (by omega) (by omega) (by omega))
    clear p0 p1 p2 pf hr2
    refine (try_any _ _ g s (w.heap.size + 1 + 1) 9 a _ _ (.string ⟨#[]⟩) _ _ (callF Tryz.func110 rfl (by decide)) HR2.out P2.out (by omega) hC.out).mono ?_
    rintro e w3 ⟨rfl, hr3, hh3, hf3⟩
    have c1 := hh3.c
    have hF : Fr w w3 (· = g) := (PF.out.mono (fun _ _ h => h.elim)).trans hf3 (by intro i hi h; rcases h with h | h; exact h; omega)
    have HR3 := Lib.hid hr3
    have HF := Lib.hid hF
    clear hr3 hh3 hf3 hF
    by_cases h0 : (textR s a most).2.1 = 0
    · have hM : Hid (textM s a 0 most = ((textR s a most).1, (textR s a most).2.2, 0)) := by unfold textM; rw [if_pos rfl, if_pos h0]; rfl
      rw [if_pos h0, h0] at HR3
      have hd : decide ((textR s a most).2.1 = 0) = true := by simpa using h0
      clear h0
      go_wp2
      go_ret
      rw [hM.out]
      exact ⟨rfl, HR3.out, HF.out⟩
    · have hM : Hid (textM s a 0 most = (⟨#[]⟩, a, (textR s a most).2.1)) := by unfold textM; rw [if_pos rfl, if_neg h0]; rfl
      rw [if_neg h0] at HR3
      have hd : decide ((textR s a most).2.1 = 0) = false := by simpa using h0
      clear h0
      go_wp2
      go_ret
      rw [hM.out]
      exact ⟨rfl, HR3.out, HF.out⟩
  · have hM : Hid (textM s a err most = (⟨#[]⟩, a, err)) := by unfold textM; rw [if_neg he]; rfl
    go_enter Tryz.func77, Tryz.ntmps77
    go_wp2_with fail
    obtain ⟨_, _, _, pf⟩ := w3of_facts w g most (.string ⟨#[]⟩) 9
    refine (try_no _ _ g s a err _ (HR.out.fr pf (fun h => h)) he).mono ?_
    rintro e w3 ⟨rfl, hb3⟩
    have hF : Fr w w3 (· = g) := (pf.mono (fun _ _ h => h.elim)).tr (Fr.of_below hb3 _)
    have hr3 := (HR.out.fr pf (fun h => h)).fr (Fr.of_below hb3 Nowhere) (fun h => h)
    have HF := Lib.hid hF
    have HR3 := Lib.hid hr3
    clear hb3 hF hr3 pf
    go_wp2
    go_ret
    rw [hM.out]
    exact ⟨rfl, HR3.out, HF.out⟩

set_option maxHeartbeats 400000 in
theorem Err_any (g : Nat) (s : ByteArray) (a : Nat) (err : Int) (w : World) (hr : IsRd w g s a err) :
    Calls Tryz.prog 78 #[.pointer (some ⟨g, 0, none⟩)] w fun e w' => e = .returned (.int .i64 err) ∧ w' = w := by
  have c2 := hr.c2
  go_enter Tryz.func78, Tryz.ntmps78
  go_wp2
  go_ret
  exact ⟨rfl, rfl⟩
set_option maxHeartbeats 400000 in
theorem Left_any (g : Nat) (s : ByteArray) (a : Nat) (err : Int) (w : World) (hs : s.size ≤ 140737488351232) (ha : a ≤ s.size) (hr : IsRd w g s a err) :
    Calls Tryz.prog 105 #[.pointer (some ⟨g, 0, none⟩)] w fun e w' => e = .returned (.int .i64 ((s.size : Int) - a)) ∧ ∃ n, w' = w.drewN n := by
  have c0 := hr.c0
  have c1 := hr.c1
  go_enter Tryz.func105, Tryz.ntmps105
  go_wp2
  go_quiet (fail)
  go_wp2
  go_ret
  exact ⟨rfl, _, rfl⟩
/-- (*wire.Reader).Done. -/
def doneM (s : ByteArray) (a : Nat) (err : Int) : Int := if err = 0 then (if a < s.size then 5 else 0) else err
set_option maxHeartbeats 400000 in
theorem Done_any (g : Nat) (s : ByteArray) (a : Nat) (err : Int) (w : World) (hs : s.size ≤ 140737488351232) (ha : a ≤ s.size) (hr : IsRd w g s a err) :
    Calls Tryz.prog 79 #[.pointer (some ⟨g, 0, none⟩)] w fun e w' => e = .returned (.int .i64 (doneM s a err)) ∧ ∃ n, w' = w.drewN n := by
  have HR := Lib.hid hr
  clear hr
  by_cases he : err = 0
  · subst he
    by_cases hl : a < s.size
    · have hM : Hid (doneM s a 0 = 5) := by unfold doneM; rw [if_pos rfl, if_pos hl]; rfl
      have hp : 0 < (s.size : Int) - a := by omega
      go_enter Tryz.func79, Tryz.ntmps79
      go_wp2_with (first | (go_at_call 78; refine (Err_any g s a 0 _ HR.out).mono ?_; rintro e w2 ⟨rfl, rfl⟩) | (go_at_call 105; refine (Left_any g s a 0 _ hs ha HR.out).mono ?_; rintro e w2 ⟨rfl, n, rfl⟩))
      go_ret
      rw [hM.out]
      exact ⟨rfl, _, rfl⟩
    · have hM : Hid (doneM s a 0 = 0) := by unfold doneM; rw [if_pos rfl, if_neg hl]; rfl
      have hp : ¬ 0 < (s.size : Int) - a := by omega
      go_enter Tryz.func79, Tryz.ntmps79
      go_wp2_with (first | (go_at_call 78; refine (Err_any g s a 0 _ HR.out).mono ?_; rintro e w2 ⟨rfl, rfl⟩) | (go_at_call 105; refine (Left_any g s a 0 _ hs ha HR.out).mono ?_; rintro e w2 ⟨rfl, n, rfl⟩))
      go_ret
      rw [hM.out]
      exact ⟨rfl, _, rfl⟩
  · have hM : Hid (doneM s a err = err) := by unfold doneM; rw [if_neg he]; rfl
    have hb : (err != 0) = true := by simpa using he
    go_enter Tryz.func79, Tryz.ntmps79
    go_wp2_with (first | (go_at_call 78; refine (Err_any g s a err _ HR.out).mono ?_; rintro e w2 ⟨rfl, rfl⟩))
    go_ret
    rw [hM.out]
    exact ⟨rfl, 0, rfl⟩
/-- The number that a varint says in zigzag. -/
def zig (n : Int) : Int := bits .xor .i64 (wrap64 (n / 2)) (wrap64 (-wrap64 (bits .and .u64 n 1)))
set_option maxHeartbeats 400000 in
theorem Int_any (g : Nat) (s : ByteArray) (a : Nat) (err : Int) (w : World) (hs : s.size ≤ 140737488351232) (ha : a ≤ s.size) (hr : IsRd w g s a err) :
    Calls Tryz.prog 75 #[.pointer (some ⟨g, 0, none⟩)] w (RdPost g s (uintM s a err).2 w (.int .i64 (zig (uintM s a err).1))) := by
  go_enter Tryz.func75, Tryz.ntmps75
  go_wp2_with fail
  refine (Uint_any g s a err _ hs ha hr).mono ?_
  rintro e w2 ⟨rfl, hr2, hf2⟩
  have HR := Lib.hid hr2
  have HF := Lib.hid hf2
  clear hr hr2 hf2
  go_wp2
  go_ret
  exact ⟨rfl, HR.out, HF.out⟩

set_option maxHeartbeats 400000 in
theorem Read_any (s : ByteArray) (w : World) :
    Calls Tryz.prog 74 #[.string s] w fun e w' => e = .returned (.pointer (some ⟨w.heap.size, 0, none⟩)) ∧ IsRd w' w.heap.size s 0 0 ∧ Below w.heap.size w w' := by
  go_enter Tryz.func74, Tryz.ntmps74
  go_wp2
  go_ret
  refine ⟨rfl, ?_, (Below.refl _ _).alloc (Nat.le_refl _) _⟩
  exact heap_alloc_new w _
end Go.Proofs.YtjflcpkmoamijaaGreatDoor
namespace Go.Proofs.YtjflcpkmoamijaaGreatDoor
open Go.RowKit
set_option linter.unusedVariables false
set_option linter.unusedSimpArgs false
set_option linter.unnecessarySimpa false

/-- A row of the call's own and where it may lie after growing. -/
def OwnStep (v v' : Value) (w : World) : Prop := v'.ownBlock = v.ownBlock ∨ v'.ownBlock = some w.heap.size

theorem news_of_alloc (w : World) (ys : List Value) (e : TypeId) : ∀ j u, ys[j]? = some u → (w.alloc (.cells ys.toArray e)).cell? ((⟨w.heap.size, 0, none⟩ : Addr).add j) = some u := by
  intro j u hj
  have : (⟨w.heap.size, 0, none⟩ : Addr).add j = ⟨w.heap.size, j, none⟩ := by unfold Addr.add; split <;> simp_all
  rw [this, World.cell?_alloc_new]
  simpa using hj

section
variable {P : Program} {ops : Array Oper} {rest : List Oper} {o : Oper} {a : Act} {Q : Exit → Act → World → Prop}
/-- 'append(s, x)', x just laid in a block of its own; s a row of the call's own. -/
theorem app1 {W : World} (hgd : o.guard = none) (s x : Operand) (t e : TypeId) (z : Value) (size bytes base : Nat) (ys : List Value)
    (ho : o.op = .call { callee := .builtin .append, args := #[s, x], argTypes := #[t, t] })
    (ht : P.underlying t = some (.slice e)) (hinfo : (P.info? e).map (fun i => (i.zero, i.size, i.bytes)) = some (some z, size, bytes)) (hz : z.cells.size = size) (hs0 : 0 < size) (hb0 : 0 < bytes)
    (v : Value) (n : Nat) (xs : List Value) (hs : a.eval s = v) (hx : a.eval x = .slice (some ⟨W.heap.size, 0, none⟩) 1 1) (hy : ys.length = size) (h1 : ∀ u ∈ ys, u.oneCell' = true)
    (HO : W.ownsRow base e size v n xs) (hbase : base ≤ W.heap.size) (hl : (n + 1) * bytes ≤ 140737488355328)
    (h : ∀ v1 w1, w1.ownsRow base e size v1 (n + 1) (xs ++ ys) → W.grownBy w1 v.ownBlock → (v1.ownBlock = v.ownBlock ∨ v1.ownBlock = some (W.heap.size + 1)) → wpList P ops Q rest (a.put o.dst v1) w1) :
    wpList P ops Q (o :: rest) a (W.alloc (.cells ys.toArray e)) := by
  obtain ⟨i0, hi, hzz⟩ := Option.map_eq_some_iff.1 hinfo
  simp only [Prod.mk.injEq] at hzz
  obtain ⟨hz0, hz1, hz2⟩ := hzz
  have hlen : n + 1 ≤ 140737488355328 := Nat.le_trans (Nat.le_mul_of_pos_right _ hb0) hl
  refine wpList_append_own_at (W.alloc (.cells ys.toArray e)) hgd s x t ho base e i0 z size bytes ht hi hz0 hz1 hz2 hz hs0 v n xs hs (HO.alloc _) ⟨W.heap.size, 0, none⟩ 1 1 ys hx (by omega)
    (news_of_alloc W ys e) h1 (by simp only [maxLen]; omega) hl (by simp; omega) ?_
  intro v1 w1 hown hg _ hat
  refine h v1 w1 hown (World.grownBy.trans (World.grownBy_alloc W _ _) hg) ?_
  simpa using hat
variable {N : Option Tmp} {K : Act → World → Prop}
/-- The same at the operation, for a region that draws its order. -/
theorem wp_app1 {W : World} (ys : Array Value) (s x : Operand) (t e : TypeId) (z : Value) (size bytes base : Nat)
    (ho : o.op = .call { callee := .builtin .append, args := #[s, x], argTypes := #[t, t] }) (hN : o.dst = N)
    (ht : P.underlying t = some (.slice e)) (hinfo : (P.info? e).map (fun i => (i.zero, i.size, i.bytes)) = some (some z, size, bytes)) (hz : z.cells.size = size) (hs0 : 0 < size) (hb0 : 0 < bytes)
    (v : Value) (n : Nat) (xs : List Value) (hs : a.eval s = v) (hx : a.eval x = .slice (some ⟨W.heap.size, 0, none⟩) 1 1) (hy : ys.size = size) (h1 : ∀ u ∈ ys.toList, u.oneCell' = true)
    (HO : W.ownsRow base e size v n xs) (hbase : base ≤ W.heap.size) (hl : (n + 1) * bytes ≤ 140737488355328)
    (h : ∀ v1 w1, w1.ownsRow base e size v1 (n + 1) (xs ++ ys.toList) → W.grownBy w1 v.ownBlock → (v1.ownBlock = v.ownBlock ∨ v1.ownBlock = some (W.heap.size + 1)) → K (a.put N v1) w1) :
    o.wp P a (W.alloc (.cells ys e)) K Q := by
  obtain ⟨i0, hi, hzz⟩ := Option.map_eq_some_iff.1 hinfo
  simp only [Prod.mk.injEq] at hzz
  obtain ⟨hz0, hz1, hz2⟩ := hzz
  have hlen : n + 1 ≤ 140737488355328 := Nat.le_trans (Nat.le_mul_of_pos_right _ hb0) hl
  have hnews : ∀ j u, ys.toList[j]? = some u → (W.alloc (.cells ys e)).cell? ((⟨W.heap.size, 0, none⟩ : Addr).add j) = some u := by
    have := news_of_alloc W ys.toList e
    simpa using this
  obtain ⟨v', w', hr, h2, h3, _, h5⟩ := run_append_own_at (P := P) (W.alloc (.cells ys e)) base t o.type e i0 z size bytes ht hi hz0 hz1 hz2 hz hs0 v n xs (HO.alloc _) ⟨W.heap.size, 0, none⟩ 1 1 ys.toList (by simp; omega) hnews h1 (by simp only [maxLen]; omega) hl (by simp; omega)
  subst hN
  unfold Oper.wp execOp
  simp only [ho, resolve, invoke, builtin, Sem.run_bind, Sem.run_pure, Result.andThen_ok, List.map_toArray, List.map_cons, List.map_nil, hs, hx, hr]
  exact h v' w' h2 (World.grownBy.trans (World.grownBy_alloc W _ _) h3) (by simpa using h5)
end
end Go.Proofs.YtjflcpkmoamijaaGreatDoor
namespace Go.Proofs.YtjflcpkmoamijaaGreatDoor
open Go.RowKit
set_option linter.unusedVariables false
set_option linter.unusedSimpArgs false
set_option linter.unnecessarySimpa false

theorem info_u8 : (Tryz.prog.info? 5).map (fun i => (i.zero, i.size, i.bytes)) = some (some (.int .u8 0), 1, 1) := by kernel_rfl

/-- The bytes of a varint. -/
def encF : Nat → Nat → List UInt8
  | 0, n => [UInt8.ofNat n]
  | f + 1, n => if n < 128 then [UInt8.ofNat n] else UInt8.ofNat (n % 128 + 128) :: encF f (n / 128)
def encU (n : Nat) : List UInt8 := encF 9 n
def bvals (l : List UInt8) : List Value := l.map fun c => .int .u8 c.toNat
theorem encF_small {f n : Nat} (h : n < 128) : encF f n = [UInt8.ofNat n] := by cases f <;> simp [encF, h]
theorem encF_big {f n : Nat} (h : ¬ n < 128) : encF (f + 1) n = UInt8.ofNat (n % 128 + 128) :: encF f (n / 128) := by simp [encF, h]
theorem encF_len : ∀ f n, (encF f n).length ≤ f + 1 := by
  intro f
  induction f with
  | zero => intro n; simp [encF]
  | succ f ih =>
    intro n
    by_cases h : n < 128
    · rw [encF_small h]; simp
    · rw [encF_big h]; have := ih (n / 128); simp; omega
theorem or128 (m : Nat) : bits .or .u8 ((m : Int) % 256) 128 = ((UInt8.ofNat (m % 128 + 128)).toNat : Int) := by
  have h : ((m : Int) % 256) = ((m % 256 : Nat) : Int) := by omega
  rw [h]
  have h2 : (UInt8.ofNat (m % 128 + 128)).toNat = m % 128 + 128 := by simp; omega
  rw [h2]
  have : ∀ k : Fin 256, bits .or .u8 ((k.val : Nat) : Int) 128 = ((k.val % 128 + 128 : Nat) : Int) := by decide +kernel
  have h3 := this ⟨m % 256, by omega⟩
  simp only at h3
  rw [h3]
  congr 1
  omega
theorem own_bytes {P : Program} {w : World} {base e' : Nat} {v : Value} {l : List UInt8} (src dst e : TypeId) (hs : P.underlying src = some (.slice e)) (he : P.underlying e = some (.int .u8)) (hd : P.underlying dst = some .string)
    (h : w.ownsRow base e' 1 v l.length (bvals l)) : (convert src dst v).run P w = .ok (.string ⟨l.toArray⟩) w := by
  rcases h.2 with ⟨rfl, h0⟩ | ⟨g, cap, cur, rfl, _⟩
  · obtain rfl : l = [] := List.eq_nil_of_length_eq_zero h0
    exact run_convert_bytes_nil w src e hs he 0 0 dst hd
  · refine run_convert_bytes_back w src dst e _ cap l hs he hd (fun j hj => ?_)
    exact h.cells (g := g) rfl j _ (by simp [bvals, List.getElem?_eq_getElem hj])
/-- A string with bytes behind it. -/
def app (b : ByteArray) (l : List UInt8) : ByteArray := b ++ (⟨l.toArray⟩ : ByteArray)
theorem bvals_snoc (l : List UInt8) (c : UInt8) : bvals (l ++ [c]) = bvals l ++ [.int .u8 (c.toNat : Int)] := by simp only [bvals, List.map_append, List.map_cons, List.map_nil]
theorem len_snoc (l : List UInt8) (c : UInt8) : (l ++ [c]).length = l.length + 1 := by simp

set_option maxHeartbeats 400000 in
set_option maxRecDepth 100000 in
theorem PutUint_any (b : ByteArray) (n : Nat) (w : World) (hn : n < 18446744073709551616) (hb : b.size ≤ 140737488351232) :
    Calls Tryz.prog 68 #[.string b, .int .u64 n] w fun e w' => e = .returned (.string (app b (encU n))) ∧ Below w.heap.size w w' := by
  have HN := Lib.hid hn
  clear hn
  go_enter Tryz.func68, Tryz.ntmps68
  go_wp2
  go_loopw [1, 5] (fun n1 v wr => ∃ (f m : Nat) (pre : List UInt8), n1 = .int .u64 m ∧ f ≤ 9 ∧ Hid (m < 128 ^ (f + 1)) ∧ Hid (m < 18446744073709551616) ∧ Hid (encU n = pre ++ encF f m) ∧ pre.length + f ≤ 9 ∧
    wr.ownsRow w.heap.size 5 1 v pre.length (bvals pre) ∧ Below w.heap.size w wr) (fun n1 _ _ => (intOf n1).toNat)
  case atStart => exact ⟨9, n, [], rfl, by omega, by show n < 128 ^ 10; have := HN.out; omega, HN, rfl, by simp, World.ownsRow_nil _ _ _ _, Below.refl _ _⟩
  case round =>
    obtain ⟨f, m, pre, rfl, hf, hmf, hm, hE, hpl, hown, hbel⟩ := hrel
    by_cases hlt : m < 128
    · have HO := Lib.hid hown
      have HB := Lib.hid hbel
      clear hown hbel
      go_wp2_with (at_builtin; refine app1 rfl _ _ 111 5 (.int .u8 0) 1 1 w.heap.size [.int .u8 m] rfl Tryz.underlying111 info_u8 rfl (by omega) (by omega) _ _ _ (by rfl) rfl rfl (by simp [Value.oneCell']) HO.out HB.out.size (by omega) ?_; intro v1 w1 hown1 hg1 hat1)
      have hown2 : w1.ownsRow w.heap.size 5 1 v1 (pre ++ [UInt8.ofNat m]).length (bvals (pre ++ [UInt8.ofNat m])) := by
        have e1 : (UInt8.ofNat m).toNat = m := by simp; omega
        rw [bvals_snoc, len_snoc, e1]; exact hown1
      have hconv := own_bytes 111 9 5 Tryz.underlying111 Tryz.underlying5 Tryz.underlying9 hown2
      have HB1 := Lib.hid (HB.out.grown hg1 HB.out.size (fun k hk => (HO.out.lt k hk).1))
      have hsz : (⟨(pre ++ [UInt8.ofNat m]).toArray⟩ : ByteArray).size ≤ 10 := by simp [ByteArray.size]; omega
      have hE1 : Hid (encU n = pre ++ [UInt8.ofNat m]) := by show _ = _; rw [hE.out, encF_small hlt]
      clear hown1 hg1 hat1 hown2
      have hE2 : Hid (app b (encU n) = b ++ (⟨(pre ++ [UInt8.ofNat m]).toArray⟩ : ByteArray)) := by show _ = _; rw [hE1.out]; rfl
      generalize (⟨(pre ++ [UInt8.ofNat m]).toArray⟩ : ByteArray) = sx at *
      go_wp2
      rw [hconv]
      simp only [Result.andThen_ok]
      go_wp2
      go_ret
      rw [hE2.out]
      exact ⟨rfl, HB1.out⟩
    · obtain ⟨f', rfl⟩ : ∃ f', f = f' + 1 := ⟨f - 1, by have := hmf.out; rcases f with _ | f; omega; omega⟩
      have HO := Lib.hid hown
      have HB := Lib.hid hbel
      clear hown hbel
      have hge : 128 ≤ m := by omega
      go_wp2_with (at_builtin; refine app1 rfl _ _ 111 5 (.int .u8 0) 1 1 w.heap.size [.int .u8 (bits .or .u8 (IntKind.u8.wrap (m : Int)) 128)] rfl Tryz.underlying111 info_u8 rfl (by omega) (by omega) _ _ _ (by rfl) rfl rfl (by simp [Value.oneCell']) HO.out HB.out.size (by omega) ?_; intro v1 w1 hown1 hg1 hat1)
      have HO1 : Hid (w1.ownsRow w.heap.size 5 1 v1 (pre ++ [UInt8.ofNat (m % 128 + 128)]).length (bvals (pre ++ [UInt8.ofNat (m % 128 + 128)]))) := by
        have e1 : bits .or .u8 ((m : Int) % 256) 128 = ((UInt8.ofNat (m % 128 + 128)).toNat : Int) := or128 m
        simp only [IntKind.wrap_u8, e1] at hown1
        rw [bvals_snoc, len_snoc]; exact hown1
      have HB1 := Lib.hid (HB.out.grown hg1 HB.out.size (fun k hk => (HO.out.lt k hk).1))
      have HE : Hid (encU n = (pre ++ [UInt8.ofNat (m % 128 + 128)]) ++ encF f' (m / 128)) := by show _ = _; rw [hE.out, encF_big (by omega)]; simp
      clear hown1 hg1 hat1
      go_roundw
      case rel => exact ⟨f', m / 128, pre ++ [UInt8.ofNat (m % 128 + 128)], by go_num, by omega, by have := hmf.out; show _ < _; rw [Nat.div_lt_iff_lt_mul (by omega)]; rw [Nat.pow_succ] at this; exact this, by have := hm.out; show _ < _; omega, HE, by simp; omega, HO1.out, HB1.out⟩
      case measure => simp [intOf]; omega
end Go.Proofs.YtjflcpkmoamijaaGreatDoor
namespace Go.Proofs.YtjflcpkmoamijaaGreatDoor
open Go.RowKit
set_option linter.unusedVariables false
set_option linter.unusedSimpArgs false
set_option linter.unnecessarySimpa false

/-- Zigzag. -/
def zz (n : Int) : Nat := if n < 0 then (-2 * n - 1).toNat else (2 * n).toNat
theorem zz_lt {n : Int} (h0 : -9223372036854775808 ≤ n) (h1 : n < 9223372036854775808) : zz n < 18446744073709551616 := by unfold zz; split <;> omega
theorem wrap_u64' (n : Int) : IntKind.u64.wrap n = n % 18446744073709551616 := by rw [IntKind.wrap_u64]
theorem xor_zero64 (x : Int) (h0 : 0 ≤ x) (h1 : x < 18446744073709551616) : bits .xor .u64 x 0 = x := by
  show IntKind.u64.wrap (((BitVec.ofInt 64 x ^^^ BitVec.ofInt 64 0).toNat : Nat) : Int) = x
  rw [wrap_u64']
  have h : BitVec.ofInt 64 0 = 0#64 := by decide
  rw [h, BitVec.xor_zero, BitVec.toNat_ofInt]
  omega
theorem xor_ones64 (x : Int) (h0 : 0 ≤ x) (h1 : x < 18446744073709551616) : bits .xor .u64 x 18446744073709551615 = 18446744073709551615 - x := by
  show IntKind.u64.wrap (((BitVec.ofInt 64 x ^^^ BitVec.ofInt 64 18446744073709551615).toNat : Nat) : Int) = _
  rw [wrap_u64']
  have h : BitVec.ofInt 64 18446744073709551615 = BitVec.allOnes 64 := by decide
  rw [h, BitVec.xor_allOnes, BitVec.toNat_not, BitVec.toNat_ofInt]
  omega
/-- The walk's own spelling of 'uint64(n)<<1 ^ uint64(n>>63)'. -/
theorem zz_bits (n : Int) (h0 : -9223372036854775808 ≤ n) (h1 : n < 9223372036854775808) :
    bits .xor .u64 (IntKind.u64.wrap (IntKind.u64.wrap n * 2)) (IntKind.u64.wrap (n / 9223372036854775808)) = ((zz n : Nat) : Int) := by
  unfold zz
  simp only [wrap_u64']
  split
  · have e1 : (n / 9223372036854775808) % 18446744073709551616 = 18446744073709551615 := by omega
    rw [e1, xor_ones64 _ (by omega) (by omega)]
    omega
  · have e1 : (n / 9223372036854775808) % 18446744073709551616 = 0 := by omega
    rw [e1, xor_zero64 _ (by omega) (by omega)]
    omega
/-- and back: 'int(n>>1) ^ -int(n&1)'. -/
def unzz (n : Int) : Int := if n % 2 = 1 then -(n / 2) - 1 else n / 2
end Go.Proofs.YtjflcpkmoamijaaGreatDoor
namespace Go.Proofs.YtjflcpkmoamijaaGreatDoor
open Go.RowKit
set_option linter.unusedVariables false
set_option linter.unusedSimpArgs false
set_option linter.unnecessarySimpa false

def putI (b : ByteArray) (n : Int) : ByteArray := app b (encU (zz n))
def putT (b s : ByteArray) : ByteArray := app b (encU s.size) ++ s
def InInt (n : Int) : Prop := -9223372036854775808 ≤ n ∧ n < 9223372036854775808
theorem app_size (b : ByteArray) (l : List UInt8) : (app b l).size = b.size + l.length := by unfold app; rw [ByteArray.size_append]; rfl
theorem encU_len (n : Nat) : (encU n).length ≤ 10 := encF_len 9 n

set_option maxHeartbeats 400000 in
set_option maxRecDepth 100000 in
theorem PutInt_any (b : ByteArray) (n : Int) (w : World) (hn : InInt n) (hb : b.size ≤ 140737488351232) :
    Calls Tryz.prog 92 #[.string b, .int .i64 n] w fun e w' => e = .returned (.string (putI b n)) ∧ Below w.heap.size w w' := by
  have hz := zz_bits n hn.1 hn.2
  have HL := Lib.hid (zz_lt hn.1 hn.2)
  go_enter Tryz.func92, Tryz.ntmps92
  go_wp2_with fail
  refine (PutUint_any b (zz n) _ HL.out hb).mono ?_
  rintro e w1 ⟨rfl, hb1⟩
  have HB := Lib.hid hb1
  clear hb1 hz
  go_wp2
  go_ret
  exact ⟨rfl, HB.out⟩

set_option maxHeartbeats 400000 in
set_option maxRecDepth 100000 in
theorem PutText_any (b s : ByteArray) (w : World) (hs : s.size ≤ 70368744175616) (hb : b.size ≤ 70368744175616) :
    Calls Tryz.prog 93 #[.string b, .string s] w fun e w' => e = .returned (.string (putT b s)) ∧ Below w.heap.size w w' := by
  have hz : IntKind.u64.wrap (s.size : Int) = ((s.size : Nat) : Int) := by rw [wrap_u64']; omega
  go_enter Tryz.func93, Tryz.ntmps93
  go_wp2_with fail
  refine (PutUint_any b s.size _ (by omega) (by omega)).mono ?_
  rintro e w1 ⟨rfl, hb1⟩
  have HB := Lib.hid hb1
  have hsz : (app b (encU s.size)).size ≤ 70368744175626 := by rw [app_size]; have := encU_len s.size; omega
  clear hb1 hz
  have hE : Hid (putT b s = app b (encU s.size) ++ s) := rfl
  generalize app b (encU s.size) = sx at *
  go_wp2
  go_ret
  rw [hE.out]
  exact ⟨rfl, HB.out⟩
end Go.Proofs.YtjflcpkmoamijaaGreatDoor
namespace Go.Proofs.YtjflcpkmoamijaaGreatDoor
open Go.RowKit
set_option linter.unusedVariables false
set_option linter.unusedSimpArgs false
set_option linter.unnecessarySimpa false

section
variable {α β : Type} (f : α → List β) (k : Nat)
theorem flat_len : ∀ (l : List α), (∀ x ∈ l, (f x).length = k) → (l.flatMap f).length = l.length * k
  | [], _ => by simp
  | x :: l, h => by
    rw [List.flatMap_cons, List.length_append, h x (by simp), flat_len l (fun y hy => h y (by simp [hy])), List.length_cons, Nat.succ_mul, Nat.add_comm]
theorem flat_take : ∀ (l : List α) (i : Nat), (∀ x ∈ l, (f x).length = k) → (l.flatMap f).take (i * k) = (l.take i).flatMap f
  | [], i, _ => by simp
  | x :: l, 0, h => by simp
  | x :: l, i + 1, h => by
    have hx := h x (by simp)
    rw [List.take_succ_cons, List.flatMap_cons, List.flatMap_cons, ← flat_take l i (fun y hy => h y (by simp [hy]))]
    rw [show (i + 1) * k = (f x).length + i * k by rw [hx, Nat.succ_mul, Nat.add_comm], List.take_length_add_append]
theorem flat_drop : ∀ (l : List α) (i : Nat), (∀ x ∈ l, (f x).length = k) → (l.flatMap f).drop (i * k) = (l.drop i).flatMap f
  | [], i, _ => by simp
  | x :: l, 0, h => by simp
  | x :: l, i + 1, h => by
    have hx := h x (by simp)
    rw [List.drop_succ_cons, List.flatMap_cons, ← flat_drop l i (fun y hy => h y (by simp [hy]))]
    rw [show (i + 1) * k = (f x).length + i * k by rw [hx, Nat.succ_mul, Nat.add_comm], List.drop_length_add_append]
theorem flat_get (l : List α) (i j : Nat) (h : ∀ x ∈ l, (f x).length = k) (hi : i < l.length) (hj : j < k) : (l.flatMap f)[i * k + j]? = (f l[i])[j]? := by
  have h1 : (l.flatMap f)[i * k + j]? = ((l.flatMap f).drop (i * k))[j]? := by rw [List.getElem?_drop]
  rw [h1, flat_drop f k l i h, List.drop_eq_getElem_cons hi, List.flatMap_cons, List.getElem?_append_left]
  rw [h _ (List.getElem_mem hi)]; exact hj
theorem flat_set (l : List α) (i : Nat) (x : α) (h : ∀ x ∈ l, (f x).length = k) (hi : i < l.length) :
    (l.flatMap f).take (i * k) ++ f x ++ (l.flatMap f).drop (i * k + k) = (l.set i x).flatMap f := by
  rw [flat_take f k l i h, show i * k + k = (i + 1) * k by rw [Nat.succ_mul], flat_drop f k l (i + 1) h, List.set_eq_take_append_cons_drop, if_pos hi]
  simp [List.flatMap_append, List.flatMap_cons]
end
end Go.Proofs.YtjflcpkmoamijaaGreatDoor
