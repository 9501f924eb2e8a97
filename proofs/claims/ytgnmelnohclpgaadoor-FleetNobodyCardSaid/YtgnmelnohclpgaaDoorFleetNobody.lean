/- FleetNobody: a fleet that nobody made has no nodes: whatever the input, the law returns true, and the input reads as it did. The card ties what math/bits.deBruijn64tab holds to the program's text. -/
import Derived.Test.YtgnmelnohclpgaaDoorLwC
import Derived.Test.YtgnmelnohclpgaaDoorFlH
set_option linter.unusedVariables false
set_option linter.unusedSimpArgs false
namespace Go.Proofs.YtgnmelnohclpgaaDoor
open Go Go.RowKit Go.ChangeShapes Go.WideShapes

set_option maxRecDepth 100000 in
theorem fleetNobody_lifted (os : Os) (started : os.Started) (H : Type) (enc : TypeId × Value → H) :
    ReturnsInHanded {} Tryd.checked os 3 .any (fun w args => (Rows.fleetNobodySpec.pre enc Tryd.prog Tryd.f3 [] false w args ∧ laidMetH Tryd.prog Rows.fleetNobodyRow.laid w) ∧ sizedMet enc Tryd.prog Tryd.f3 (OpenSpec.ofChange Rows.fleetNobodySpec) false w args)
      (Rows.fleetNobodySpec.post enc Tryd.prog Tryd.f3 false true false false) := by
  refine lifted (laid := Rows.fleetNobodyRow.laid) [.part [.int .i64, .int .i64]] os started (by kernel_rfl) Tryd.func3
    (ChangeSpec.witness_at (enc := enc) (C := Tryd.checked) (os := os) (X := fun w _ => laidMetH Tryd.prog Rows.fleetNobodyRow.laid w) false (laidWorld os) #[.agg #[.int .i64 0, .int .i64 0]] 8 rfl (by kernel_rfl) (by kernel_rfl) (by kernel_rfl) (by kernel_rfl) (by kernel_rfl) (laidWorld_tab os _))
    (by kernel_rfl) rfl (fun ds h => ?_) (by kernel_rfl) (by kernel_rfl) (by kernel_rfl) ?_
  · match ds, h with
    | [d], _ => rfl
  · intro W vs hL hA
    match vs, hA with
    | [v], ⟨⟨cs, hv, hc⟩, _⟩ =>
      subst hv
      cases hc with
      | cons h1 h2 =>
        cases h1
        cases h2 with
        | cons h3 h4 =>
          cases h3
          cases h4
          exact f3 _ _ (tab_of_laid hL) fun w' hx => ⟨rfl, hx⟩

set_option maxRecDepth 100000 in
set_option maxHeartbeats 4000000 in
theorem fleetNobody_closed : joinedFacts Tryd.checked.prog 3 Tryd.f3 Rows.fleetNobodySpec Rows.fleetNobodyRow = true := by
  unfold joinedFacts
  repeat' (with_reducible refine andI ?_ ?_)
  all_goals first | with_reducible exact fMay | with_reducible exact fLaid | (with_reducible refine fLift ?_; rfl) | (with_reducible refine fMake ?_; rfl) | as_aux_lemma => kernel_rfl

theorem fleetNobody_holds : Rows.FleetNobodySaid :=
  OpenClaim.holds_of_wide 3 Tryd.f3 rfl rfl rfl rfl rfl rfl rfl ⟨rfl, rfl, rfl, rfl, rfl⟩ rfl rfl rfl rfl rfl (by kernel_rfl) Tryd.func3 fleetNobody_closed
    (of_decide_eq_true (by kernel_rfl)) (by unfold Func.isWrapper; rw [if_neg (of_decide_eq_false (by kernel_rfl))]; exact ⟨rfl, rfl⟩)
    (fun os started H enc _ => fleetNobody_lifted os started H enc)

theorem fleetNobody_card : Rows.FleetNobodyCardSaid :=
  Claim7.holds_tied_plain_at .later [] [.data] true (true, "abe17efad9800fb198d958a30da1c9f3997af9c5b520b6e6fc19bccf376e9d02") true
    fleetNobody_holds (fun _ h => by cases h) (by kernel_rfl) (fun _ h => by cases h) fleetNobody_row_tie rfl ⟨rfl, rfl⟩ (by kernel_rfl) rfl
    (fun f fn hf hfn => by
      obtain rfl : f = 3 := Option.some.inj ((show Tryd.prog.funcNamed "berthing/berthinglaw09.FleetNobody" = some 3 by kernel_rfl).symm.trans hf) |>.symm
      obtain rfl : fn = Tryd.f3 := (Option.some.inj (Tryd.func3.symm.trans hfn)).symm
      exact ⟨by kernel_rfl, fun j t ht => by
        have h0 : (Tryd.f3.params.toList.all fun t => !Tryd.prog.wantsStandIn t) = true := by kernel_rfl
        have := List.all_eq_true.1 h0 t (Array.mem_toList_iff.2 (Array.mem_of_getElem? ht))
        simp only [Bool.not_eq_true'] at this
        exact this⟩)
    (by kernel_rfl)
#print axioms fleetNobody_card
end Go.Proofs.YtgnmelnohclpgaaDoor
