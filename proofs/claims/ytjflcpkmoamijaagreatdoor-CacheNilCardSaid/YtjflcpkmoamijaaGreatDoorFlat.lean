import Derived.Test.YtjflcpkmoamijaaGreatDoorBase
namespace Go.Proofs.YtjflcpkmoamijaaGreatDoor
open Go.RowKit
set_option linter.unusedVariables false
set_option linter.unusedSimpArgs false
set_option linter.unnecessarySimpa false

section
variable {α β : Type} (f : α → List β) (k : Nat)
theorem flat_len : ∀ (l : List α), (∀ x ∈ l, (f x).length = k) → (l.flatMap f).length = l.length * k
  | [], _ => by simp
  | x :: l, h => by
    rw [List.flatMap_cons, List.length_append, h x (by simp), flat_len l (fun y hy => h y (by simp [hy])), List.length_cons, Nat.succ_mul, Nat.add_comm]
theorem flat_take : ∀ (l : List α) (i : Nat), (∀ x ∈ l, (f x).length = k) → (l.flatMap f).take (i * k) = (l.take i).flatMap f
  | [], i, _ => by simp
  | x :: l, 0, h => by simp
  | x :: l, i + 1, h => by
    have hx := h x (by simp)
    rw [List.take_succ_cons, List.flatMap_cons, List.flatMap_cons, ← flat_take l i (fun y hy => h y (by simp [hy]))]
    rw [show (i + 1) * k = (f x).length + i * k by rw [hx, Nat.succ_mul, Nat.add_comm], List.take_length_add_append]
theorem flat_drop : ∀ (l : List α) (i : Nat), (∀ x ∈ l, (f x).length = k) → (l.flatMap f).drop (i * k) = (l.drop i).flatMap f
  | [], i, _ => by simp
  | x :: l, 0, h => by simp
  | x :: l, i + 1, h => by
    have hx := h x (by simp)
    rw [List.drop_succ_cons, List.flatMap_cons, ← flat_drop l i (fun y hy => h y (by simp [hy]))]
    rw [show (i + 1) * k = (f x).length + i * k by rw [hx, Nat.succ_mul, Nat.add_comm], List.drop_length_add_append]
theorem flat_get (l : List α) (i j : Nat) (h : ∀ x ∈ l, (f x).length = k) (hi : i < l.length) (hj : j < k) : (l.flatMap f)[i * k + j]? = (f l[i])[j]? := by
  have h1 : (l.flatMap f)[i * k + j]? = ((l.flatMap f).drop (i * k))[j]? := by rw [List.getElem?_drop]
  rw [h1, flat_drop f k l i h, List.drop_eq_getElem_cons hi, List.flatMap_cons, List.getElem?_append_left]
  rw [h _ (List.getElem_mem hi)]; exact hj
theorem flat_set (l : List α) (i : Nat) (x : α) (h : ∀ x ∈ l, (f x).length = k) (hi : i < l.length) :
    (l.flatMap f).take (i * k) ++ f x ++ (l.flatMap f).drop (i * k + k) = (l.set i x).flatMap f := by
  rw [flat_take f k l i h, show i * k + k = (i + 1) * k by rw [Nat.succ_mul], flat_drop f k l (i + 1) h, List.set_eq_take_append_cons_drop, if_pos hi]
  simp [List.flatMap_append, List.flatMap_cons]
end
end Go.Proofs.YtjflcpkmoamijaaGreatDoor
