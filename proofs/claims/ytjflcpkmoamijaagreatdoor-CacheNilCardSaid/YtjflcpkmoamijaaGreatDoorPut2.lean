import Derived.Test.YtjflcpkmoamijaaGreatDoorPut
import Derived.Test.YtjflcpkmoamijaaGreatDoorZz
namespace Go.Proofs.YtjflcpkmoamijaaGreatDoor
open Go.RowKit
set_option linter.unusedVariables false
set_option linter.unusedSimpArgs false
set_option linter.unnecessarySimpa false

def putI (b : ByteArray) (n : Int) : ByteArray := app b (encU (zz n))
def putT (b s : ByteArray) : ByteArray := app b (encU s.size) ++ s
def InInt (n : Int) : Prop := -9223372036854775808 ≤ n ∧ n < 9223372036854775808
theorem app_size (b : ByteArray) (l : List UInt8) : (app b l).size = b.size + l.length := by unfold app; rw [ByteArray.size_append]; rfl
theorem encU_len (n : Nat) : (encU n).length ≤ 10 := encF_len 9 n

set_option maxHeartbeats 400000 in
set_option maxRecDepth 100000 in
theorem PutInt_any (b : ByteArray) (n : Int) (w : World) (hn : InInt n) (hb : b.size ≤ 140737488351232) :
    Calls Tryz.prog 92 #[.string b, .int .i64 n] w fun e w' => e = .returned (.string (putI b n)) ∧ Below w.heap.size w w' := by
  have hz := zz_bits n hn.1 hn.2
  have HL := Lib.hid (zz_lt hn.1 hn.2)
  go_enter Tryz.func92, Tryz.ntmps92
  go_wp2_with fail
  refine (PutUint_any b (zz n) _ HL.out hb).mono ?_
  rintro e w1 ⟨rfl, hb1⟩
  have HB := Lib.hid hb1
  clear hb1 hz
  go_wp2
  go_ret
  exact ⟨rfl, HB.out⟩

set_option maxHeartbeats 400000 in
set_option maxRecDepth 100000 in
theorem PutText_any (b s : ByteArray) (w : World) (hs : s.size ≤ 70368744175616) (hb : b.size ≤ 70368744175616) :
    Calls Tryz.prog 93 #[.string b, .string s] w fun e w' => e = .returned (.string (putT b s)) ∧ Below w.heap.size w w' := by
  have hz : IntKind.u64.wrap (s.size : Int) = ((s.size : Nat) : Int) := by rw [wrap_u64']; omega
  go_enter Tryz.func93, Tryz.ntmps93
  go_wp2_with fail
  refine (PutUint_any b s.size _ (by omega) (by omega)).mono ?_
  rintro e w1 ⟨rfl, hb1⟩
  have HB := Lib.hid hb1
  have hsz : (app b (encU s.size)).size ≤ 70368744175626 := by rw [app_size]; have := encU_len s.size; omega
  clear hb1 hz
  have hE : Hid (putT b s = app b (encU s.size) ++ s) := rfl
  generalize app b (encU s.size) = sx at *
  go_wp2
  go_ret
  rw [hE.out]
  exact ⟨rfl, HB.out⟩
end Go.Proofs.YtjflcpkmoamijaaGreatDoor
