/-
  CacheOpens holds for every input: the law's Go function returns true and its argument reads afterwards as before (Open returns the cache of any records of a journal, or the specified error).
  Conditions: none of its own; the row's two listed package variables are tied to the program's text by the given tie.
-/
import Derived.Test.YtjflcpkmoamijaaGreatDoorOp
import Derived.Test.YtjflcpkmoamijaaGreatDoorTie
import Derived.Test.YtjflcpkmoamijaaGreatDoorCards
import Derived.WalkKit
import Derived.ProofKit
import Derived.Lay
import Derived.LaidOnce
import Derived.SevenTiedAt
import Derived.Carry
import Derived.Deep.Strs
namespace Go.Proofs.YtjflcpkmoamijaaGreatDoor
open Go.RowKit Go.ChangeShapes Go.WideShapes Go.ChangeAt

section
variable {H : Type} {enc : TypeId × Value → H} {W : World} {base : Nat} {sp : Nat → Bool} {hd : Bool}
/-- A slice of strings among the arguments can be read. -/
theorem strs_of_trod {fuel : Nat} {v : Value} {x : DataW H × List MemPlace} (h : DataW.trod enc Tryz.prog W base sp hd fuel 22 [v] = some x) : ∃ l : List ByteArray, StrsAt W v l := by
  rcases Go.Deep.open_strs Tryz.underlying22 Tryz.underlying9 cells_str h with ⟨e, _⟩ | ⟨a, len, cap, m, F, e, hb, hl, hm, hmm, _, hx⟩
  · simp at e; subst e
    exact ⟨[], ⟨none, 0, rfl, fun h => absurd rfl h⟩, fun b o n c hv => by cases hv⟩
  · simp at e; subst e
    have hlm : len ≤ m := by rw [hmm]; split <;> omega
    by_cases h0 : len = 0
    · subst h0
      exact ⟨[], ⟨some a, cap, rfl, fun h => absurd rfl h⟩, fun b o n c hv j u hj => by simp at hj⟩
    have hc0 := (hx 0 (by omega)).1
    have e0 : a.add 0 = a := by simp [Addr.add]
    rw [e0] at hc0
    have hsp : a.spot = none := World.cell?_spot hc0
    obtain ⟨b, o, spot⟩ := a
    simp only at hsp
    subst hsp
    refine ⟨(List.range len).map F, ⟨some ⟨b, o, none⟩, cap, by simp, fun _ => ⟨b, o, rfl⟩⟩, ?_⟩
    intro b' o' n' c' hv j u hj
    simp only [Value.slice.injEq, Option.some.injEq, Addr.mk.injEq] at hv
    obtain ⟨⟨rfl, rfl, _⟩, _, _⟩ := hv
    have hj4 : j < len := by
      have := (List.getElem?_eq_some_iff.1 hj).1
      simpa using this
    have h3 := (hx j (by omega)).1
    simp [hj4] at hj
    subst hj
    rw [← h3]
    congr 1
    unfold Addr.add
    split
    · rename_i h0; subst h0; rfl
    · rfl
end

theorem own_knob : ownKnob Tryz.prog.godebug = none := by kernel_rfl
set_option maxRecDepth 100000 in
theorem opens_lifted (os : Os) (started : os.Started) (H : Type) (enc : TypeId × Value → H) :
    ReturnsInHanded {} Tryz.checked os 3 .any (fun w args => (Rows.cacheOpensSpec.pre enc Tryz.prog Tryz.f3 [] false w args ∧ laidMetH Tryz.prog Rows.cacheOpensRow.laid w) ∧ sizedMet enc Tryz.prog Tryz.f3 (OpenSpec.ofChange Rows.cacheOpensSpec) false w args)
      (Rows.cacheOpensSpec.post enc Tryz.prog Tryz.f3 false true false false) := by
  refine returnsInHanded_of_change_and (C := Tryz.checked) (X := fun w _ => laidMetH Tryz.prog Rows.cacheOpensRow.laid w) (fun _ _ _ hh h => h.of_heap hh) own_knob started (by kernel_rfl) Tryz.func3
    (ChangeSpec.witness_shaped (enc := enc) (C := Tryz.checked) (os := os) (X := fun w _ => laidMetH Tryz.prog Rows.cacheOpensRow.laid w) false (World.laidAll Tryz.prog os Rows.cacheOpensRow.laid) #[.slice none 0 0] 8 (World.laidAll_os _ _ _)
      (World.shaped_of_ZipB (by kernel_rfl) (by kernel_rfl)) (by kernel_rfl) (by kernel_rfl) (by kernel_rfl)
      (by rw [MakeChecks.laidMetH_plain _ _ _ (by kernel_rfl)]; exact laidMet_laidAll _ (by kernel_rfl) (by kernel_rfl))) ?_
  intro W base args ds gs before hval0 hW _ _ hL _
  have hval : ∀ (j : Nat) t v, Tryz.f3.params[j]? = some t → args[j]? = some v → Value.okWide Tryz.prog W .any base t v := hval0
  have hW' := hW
  obtain ⟨p, q, hA0, hV, rfl, _, _⟩ := hW
  have hA : DataW.TrodAll enc Tryz.prog W 0 (fun _ => true) true Tryz.f3.params.toList args.toList ds p := hA0
  rw [Tryz.params3] at hA hval
  obtain ⟨v0, d0, rfl, rfl, h0⟩ := trodAll_one hA
  obtain ⟨rfl, rfl⟩ := trodVars_none hV
  obtain ⟨ao, ln, cp, rfl⟩ := okWide_slice Tryz.underlying22 (hval 0 22 v0 rfl rfl)
  obtain ⟨fuel, hf1⟩ := h0
  obtain ⟨L, hL1⟩ := strs_of_trod (v := .slice ao ln cp) hf1
  simp only [List.append_nil] at hW'
  refine (opens_any _ L W hL1).mono fun e W' ⟨he, hb⟩ => ?_
  subst he
  have hlt : ∀ y ∈ p, y.block < W.heap.size := fun y hy => hA.lt y hy
  exact ⟨_, rfl, _, _, _, [], p, [], hW', trodAll_mk1 (shut_bool Tryz.underlying4 _), trodAll_mk1 (Below.trod (by kernel_rfl) (by kernel_rfl) (of_decide_eq_true (by kernel_rfl)) ⟨fuel, hf1⟩ hb hlt), rfl, hb.frame _, fun h => by cases h⟩
theorem opens_row : Rows.CacheOpensSaid :=
  OpenClaim.holds_of_wide 3 Tryz.f3 rfl rfl rfl rfl rfl rfl rfl ⟨rfl, rfl, rfl, rfl, rfl⟩ rfl rfl rfl rfl rfl (by kernel_rfl) Tryz.func3 (by kernel_rfl)
    (of_decide_eq_true (by kernel_rfl)) (by unfold Func.isWrapper; first | (rw [if_pos (by decide +kernel)]; kernel_rfl) | (rw [if_neg (by decide +kernel)]; exact ⟨rfl, rfl⟩))
    (fun os started H enc _ => opens_lifted os started H enc)
theorem opens_holds : Rows.CacheOpensCardSaid :=
  Claim7.holds_tied_plain_at .later [] [.data, .pinned] true Rows.cacheOpensCard.stood.harness true opens_row (fun _ h => by cases h) (by kernel_rfl) (fun _ h => by cases h) cacheOpens_row_tie rfl ⟨rfl, rfl⟩ (by kernel_rfl) rfl
    (fun f fn hf hfn => by
      obtain rfl : f = 3 := Option.some.inj ((show Tryz.prog.funcNamed "mapmaker/mapmakerlaw57.CacheOpens" = some 3 by kernel_rfl).symm.trans hf) |>.symm
      obtain rfl : fn = Tryz.f3 := (Option.some.inj (Tryz.func3.symm.trans hfn)).symm
      exact ⟨by kernel_rfl, fun j t ht => by
        rw [Tryz.params3] at ht
        have hm : t ∈ [22] := by simpa using Array.mem_of_getElem? ht
        have hall : ([22].all fun u => !Tryz.prog.wantsStandIn u) = true := by kernel_rfl
        exact (show Tryz.prog.wantsStandIn t = false by simpa using List.all_eq_true.1 hall t hm)⟩)
    (by kernel_rfl)
#print axioms opens_holds
end Go.Proofs.YtjflcpkmoamijaaGreatDoor
