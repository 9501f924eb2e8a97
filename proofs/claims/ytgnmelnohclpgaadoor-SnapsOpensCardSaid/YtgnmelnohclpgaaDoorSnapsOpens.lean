/- SnapsOpens: whatever two files have, the last one is the document's, and in the file that it says: whatever the input, the law returns true, and the input reads as it did. The card ties what errors.errorType holds to the program's text. -/
import Derived.Test.YtgnmelnohclpgaaDoorLwC
import Derived.Test.YtgnmelnohclpgaaDoorLwH
import Derived.Test.YtgnmelnohclpgaaDoorCpS
set_option linter.unusedVariables false
set_option linter.unusedSimpArgs false
namespace Go.Proofs.YtgnmelnohclpgaaDoor
open Go Go.RowKit Go.ChangeShapes Go.WideShapes

set_option maxRecDepth 100000 in
theorem snapsOpens_lifted (os : Os) (started : os.Started) (H : Type) (enc : TypeId × Value → H) :
    ReturnsInHanded {} Tryd.checked os 10 .any (fun w args => (Rows.snapsOpensSpec.pre enc Tryd.prog Tryd.f10 [] false w args ∧ laidMetH Tryd.prog Rows.snapsOpensRow.laid w) ∧ sizedMet enc Tryd.prog Tryd.f10 (OpenSpec.ofChange Rows.snapsOpensSpec) false w args)
      (Rows.snapsOpensSpec.post enc Tryd.prog Tryd.f10 false true false false) := by
  refine lifted (laid := Rows.snapsOpensRow.laid) [.row (.int .u8), .row (.int .u8), .row (.part [.int .i64, .int .i64, .int .i64, .row (.int .u8), .part [.int .i64, .int .i64, .int .i64, .int .i64]])] os started (by kernel_rfl) Tryd.func10
    (ChangeSpec.witness_at (enc := enc) (C := Tryd.checked) (os := os) (X := fun w _ => laidMetH Tryd.prog Rows.snapsOpensRow.laid w) false (laidWorld os) #[.slice none 0 0, .slice none 0 0, .slice none 0 0] 8 rfl (by kernel_rfl) (by kernel_rfl) (by kernel_rfl) (by kernel_rfl) (by kernel_rfl) (laidWorld_err os _))
    (by kernel_rfl) rfl (fun ds h => ?_) (by kernel_rfl) (by kernel_rfl) (by kernel_rfl) ?_
  · match ds, h with
    | [d1, d2, d3], _ => rfl
  · intro W vs hL hA
    match vs, hA with
    | [v1, v2, v3], ⟨hv1, hv2, hv3, _⟩ =>
      obtain ⟨l1, h1⟩ := rdB_arg hv1
      obtain ⟨l2, h2⟩ := rdB_arg hv2
      obtain ⟨cs, h3, h4⟩ := rdR_acts hv3
      exact f10 (err_of_laid hL) h1 h2 h3 h4 fun w' hw => ⟨rfl, hw⟩

set_option maxRecDepth 100000 in
set_option maxHeartbeats 4000000 in
theorem snapsOpens_closed : joinedFacts Tryd.checked.prog 10 Tryd.f10 Rows.snapsOpensSpec Rows.snapsOpensRow = true := by
  unfold joinedFacts
  repeat' (with_reducible refine andI ?_ ?_)
  all_goals first | with_reducible exact fMay | with_reducible exact fLaid | (with_reducible refine fLift ?_; rfl) | (with_reducible refine fMake ?_; rfl) | as_aux_lemma => kernel_rfl

theorem snapsOpens_holds : Rows.SnapsOpensSaid :=
  OpenClaim.holds_of_wide 10 Tryd.f10 rfl rfl rfl rfl rfl rfl rfl ⟨rfl, rfl, rfl, rfl, rfl⟩ rfl rfl rfl rfl rfl (by kernel_rfl) Tryd.func10 snapsOpens_closed
    (of_decide_eq_true (by kernel_rfl)) (by unfold Func.isWrapper; rw [if_neg (of_decide_eq_false (by kernel_rfl))]; exact ⟨rfl, rfl⟩)
    (fun os started H enc _ => snapsOpens_lifted os started H enc)

theorem snapsOpens_card : Rows.SnapsOpensCardSaid :=
  Claim7.holds_tied_plain_at .later [] [.handle] true (true, "abe17efad9800fb198d958a30da1c9f3997af9c5b520b6e6fc19bccf376e9d02") true
    snapsOpens_holds (fun _ h => by cases h) (by kernel_rfl) (fun _ h => by cases h) snapsOpens_row_tie rfl ⟨rfl, rfl⟩ (by kernel_rfl) rfl
    (fun f fn hf hfn => by
      obtain rfl : f = 10 := Option.some.inj ((show Tryd.prog.funcNamed "berthing/berthinglaw06.SnapsOpens" = some 10 by kernel_rfl).symm.trans hf) |>.symm
      obtain rfl : fn = Tryd.f10 := (Option.some.inj (Tryd.func10.symm.trans hfn)).symm
      exact ⟨by kernel_rfl, fun j t ht => by
        have h0 : (Tryd.f10.params.toList.all fun t => !Tryd.prog.wantsStandIn t) = true := by kernel_rfl
        have := List.all_eq_true.1 h0 t (Array.mem_toList_iff.2 (Array.mem_of_getElem? ht))
        simp only [Bool.not_eq_true'] at this
        exact this⟩)
    (by kernel_rfl)
#print axioms snapsOpens_card
end Go.Proofs.YtgnmelnohclpgaaDoor
