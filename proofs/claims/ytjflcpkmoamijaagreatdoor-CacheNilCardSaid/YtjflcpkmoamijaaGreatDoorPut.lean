import Derived.Test.YtjflcpkmoamijaaGreatDoorApp
import Derived.Laws.BitsLemmas
namespace Go.Proofs.YtjflcpkmoamijaaGreatDoor
open Go.RowKit
set_option linter.unusedVariables false
set_option linter.unusedSimpArgs false
set_option linter.unnecessarySimpa false

theorem info_u8 : (Tryz.prog.info? 5).map (fun i => (i.zero, i.size, i.bytes)) = some (some (.int .u8 0), 1, 1) := by kernel_rfl

/-- The bytes of a varint. -/
def encF : Nat → Nat → List UInt8
  | 0, n => [UInt8.ofNat n]
  | f + 1, n => if n < 128 then [UInt8.ofNat n] else UInt8.ofNat (n % 128 + 128) :: encF f (n / 128)
def encU (n : Nat) : List UInt8 := encF 9 n
def bvals (l : List UInt8) : List Value := l.map fun c => .int .u8 c.toNat
theorem encF_small {f n : Nat} (h : n < 128) : encF f n = [UInt8.ofNat n] := by cases f <;> simp [encF, h]
theorem encF_big {f n : Nat} (h : ¬ n < 128) : encF (f + 1) n = UInt8.ofNat (n % 128 + 128) :: encF f (n / 128) := by simp [encF, h]
theorem encF_len : ∀ f n, (encF f n).length ≤ f + 1 := by
  intro f
  induction f with
  | zero => intro n; simp [encF]
  | succ f ih =>
    intro n
    by_cases h : n < 128
    · rw [encF_small h]; simp
    · rw [encF_big h]; have := ih (n / 128); simp; omega
theorem or128 (m : Nat) : bits .or .u8 ((m : Int) % 256) 128 = ((UInt8.ofNat (m % 128 + 128)).toNat : Int) := by
  have h : ((m : Int) % 256) = ((m % 256 : Nat) : Int) := by omega
  rw [h]
  have h2 : (UInt8.ofNat (m % 128 + 128)).toNat = m % 128 + 128 := by simp; omega
  rw [h2]
  have : ∀ k : Fin 256, bits .or .u8 ((k.val : Nat) : Int) 128 = ((k.val % 128 + 128 : Nat) : Int) := by decide +kernel
  have h3 := this ⟨m % 256, by omega⟩
  simp only at h3
  rw [h3]
  congr 1
  omega
theorem own_bytes {P : Program} {w : World} {base e' : Nat} {v : Value} {l : List UInt8} (src dst e : TypeId) (hs : P.underlying src = some (.slice e)) (he : P.underlying e = some (.int .u8)) (hd : P.underlying dst = some .string)
    (h : w.ownsRow base e' 1 v l.length (bvals l)) : (convert src dst v).run P w = .ok (.string ⟨l.toArray⟩) w := by
  rcases h.2 with ⟨rfl, h0⟩ | ⟨g, cap, cur, rfl, _⟩
  · obtain rfl : l = [] := List.eq_nil_of_length_eq_zero h0
    exact run_convert_bytes_nil w src e hs he 0 0 dst hd
  · refine run_convert_bytes_back w src dst e _ cap l hs he hd (fun j hj => ?_)
    exact h.cells (g := g) rfl j _ (by simp [bvals, List.getElem?_eq_getElem hj])
/-- A string with bytes behind it. -/
def app (b : ByteArray) (l : List UInt8) : ByteArray := b ++ (⟨l.toArray⟩ : ByteArray)
theorem bvals_snoc (l : List UInt8) (c : UInt8) : bvals (l ++ [c]) = bvals l ++ [.int .u8 (c.toNat : Int)] := by simp only [bvals, List.map_append, List.map_cons, List.map_nil]
theorem len_snoc (l : List UInt8) (c : UInt8) : (l ++ [c]).length = l.length + 1 := by simp

set_option maxHeartbeats 400000 in
set_option maxRecDepth 100000 in
theorem PutUint_any (b : ByteArray) (n : Nat) (w : World) (hn : n < 18446744073709551616) (hb : b.size ≤ 140737488351232) :
    Calls Tryz.prog 68 #[.string b, .int .u64 n] w fun e w' => e = .returned (.string (app b (encU n))) ∧ Below w.heap.size w w' := by
  have HN := Lib.hid hn
  clear hn
  go_enter Tryz.func68, Tryz.ntmps68
  go_wp2
  go_loopw [1, 5] (fun n1 v wr => ∃ (f m : Nat) (pre : List UInt8), n1 = .int .u64 m ∧ f ≤ 9 ∧ Hid (m < 128 ^ (f + 1)) ∧ Hid (m < 18446744073709551616) ∧ Hid (encU n = pre ++ encF f m) ∧ pre.length + f ≤ 9 ∧
    wr.ownsRow w.heap.size 5 1 v pre.length (bvals pre) ∧ Below w.heap.size w wr) (fun n1 _ _ => (intOf n1).toNat)
  case atStart => exact ⟨9, n, [], rfl, by omega, by show n < 128 ^ 10; have := HN.out; omega, HN, rfl, by simp, World.ownsRow_nil _ _ _ _, Below.refl _ _⟩
  case round =>
    obtain ⟨f, m, pre, rfl, hf, hmf, hm, hE, hpl, hown, hbel⟩ := hrel
    by_cases hlt : m < 128
    · have HO := Lib.hid hown
      have HB := Lib.hid hbel
      clear hown hbel
      go_wp2_with (at_builtin; refine app1 rfl _ _ 111 5 (.int .u8 0) 1 1 w.heap.size [.int .u8 m] rfl Tryz.underlying111 info_u8 rfl (by omega) (by omega) _ _ _ (by rfl) rfl rfl (by simp [Value.oneCell']) HO.out HB.out.size (by omega) ?_; intro v1 w1 hown1 hg1 hat1)
      have hown2 : w1.ownsRow w.heap.size 5 1 v1 (pre ++ [UInt8.ofNat m]).length (bvals (pre ++ [UInt8.ofNat m])) := by
        have e1 : (UInt8.ofNat m).toNat = m := by simp; omega
        rw [bvals_snoc, len_snoc, e1]; exact hown1
      have hconv := own_bytes 111 9 5 Tryz.underlying111 Tryz.underlying5 Tryz.underlying9 hown2
      have HB1 := Lib.hid (HB.out.grown hg1 HB.out.size (fun k hk => (HO.out.lt k hk).1))
      have hsz : (⟨(pre ++ [UInt8.ofNat m]).toArray⟩ : ByteArray).size ≤ 10 := by simp [ByteArray.size]; omega
      have hE1 : Hid (encU n = pre ++ [UInt8.ofNat m]) := by show _ = _; rw [hE.out, encF_small hlt]
      clear hown1 hg1 hat1 hown2
      have hE2 : Hid (app b (encU n) = b ++ (⟨(pre ++ [UInt8.ofNat m]).toArray⟩ : ByteArray)) := by show _ = _; rw [hE1.out]; rfl
      generalize (⟨(pre ++ [UInt8.ofNat m]).toArray⟩ : ByteArray) = sx at *
      go_wp2
      rw [hconv]
      simp only [Result.andThen_ok]
      go_wp2
      go_ret
      rw [hE2.out]
      exact ⟨rfl, HB1.out⟩
    · obtain ⟨f', rfl⟩ : ∃ f', f = f' + 1 := ⟨f - 1, by have := hmf.out; rcases f with _ | f; omega; omega⟩
      have HO := Lib.hid hown
      have HB := Lib.hid hbel
      clear hown hbel
      have hge : 128 ≤ m := by omega
      go_wp2_with (at_builtin; refine app1 rfl _ _ 111 5 (.int .u8 0) 1 1 w.heap.size [.int .u8 (bits .or .u8 (IntKind.u8.wrap (m : Int)) 128)] rfl Tryz.underlying111 info_u8 rfl (by omega) (by omega) _ _ _ (by rfl) rfl rfl (by simp [Value.oneCell']) HO.out HB.out.size (by omega) ?_; intro v1 w1 hown1 hg1 hat1)
      have HO1 : Hid (w1.ownsRow w.heap.size 5 1 v1 (pre ++ [UInt8.ofNat (m % 128 + 128)]).length (bvals (pre ++ [UInt8.ofNat (m % 128 + 128)]))) := by
        have e1 : bits .or .u8 ((m : Int) % 256) 128 = ((UInt8.ofNat (m % 128 + 128)).toNat : Int) := or128 m
        simp only [IntKind.wrap_u8, e1] at hown1
        rw [bvals_snoc, len_snoc]; exact hown1
      have HB1 := Lib.hid (HB.out.grown hg1 HB.out.size (fun k hk => (HO.out.lt k hk).1))
      have HE : Hid (encU n = (pre ++ [UInt8.ofNat (m % 128 + 128)]) ++ encF f' (m / 128)) := by show _ = _; rw [hE.out, encF_big (by omega)]; simp
      clear hown1 hg1 hat1
      go_roundw
      case rel => exact ⟨f', m / 128, pre ++ [UInt8.ofNat (m % 128 + 128)], by go_num, by omega, by have := hmf.out; show _ < _; rw [Nat.div_lt_iff_lt_mul (by omega)]; rw [Nat.pow_succ] at this; exact this, by have := hm.out; show _ < _; omega, HE, by simp; omega, HO1.out, HB1.out⟩
      case measure => simp [intOf]; omega
end Go.Proofs.YtjflcpkmoamijaaGreatDoor
