/- JournalGens: of records of any generations those of one are told alone: whatever the input, the law returns true, and the input reads as it did. The card ties what errors.errorType holds to the program's text. -/
import Derived.Test.YtgnmelnohclpgaaDoorLwC
import Derived.Test.YtgnmelnohclpgaaDoorLwF
import Derived.Test.YtgnmelnohclpgaaDoorCpI
set_option linter.unusedVariables false
set_option linter.unusedSimpArgs false
namespace Go.Proofs.YtgnmelnohclpgaaDoor
open Go Go.RowKit Go.ChangeShapes Go.WideShapes

set_option maxRecDepth 100000 in
theorem journalGens_lifted (os : Os) (started : os.Started) (H : Type) (enc : TypeId × Value → H) :
    ReturnsInHanded {} Tryd.checked os 8 .any (fun w args => (Rows.journalGensSpec.pre enc Tryd.prog Tryd.f8 [] false w args ∧ laidMetH Tryd.prog Rows.journalGensRow.laid w) ∧ sizedMet enc Tryd.prog Tryd.f8 (OpenSpec.ofChange Rows.journalGensSpec) false w args)
      (Rows.journalGensSpec.post enc Tryd.prog Tryd.f8 false true false false) := by
  refine lifted (laid := Rows.journalGensRow.laid) [.row (.part [.int .i64, .row (.int .u8)]), .int .i64] os started (by kernel_rfl) Tryd.func8
    (ChangeSpec.witness_at (enc := enc) (C := Tryd.checked) (os := os) (X := fun w _ => laidMetH Tryd.prog Rows.journalGensRow.laid w) false (laidWorld os) #[.slice none 0 0, .int .i64 0] 8 rfl (by kernel_rfl) (by kernel_rfl) (by kernel_rfl) (by kernel_rfl) (by kernel_rfl) (laidWorld_err os _))
    (by kernel_rfl) rfl (fun ds h => ?_) (by kernel_rfl) (by kernel_rfl) (by kernel_rfl) ?_
  · match ds, h with
    | [d1, d2], _ => rfl
  · intro W vs hL hA
    match vs, hA with
    | [v, u], ⟨hv, hu, _⟩ =>
      obtain ⟨rs, bs, h1, h2, h3, S⟩ := rdR_recs hv
      obtain ⟨n, rfl, hn⟩ := rdb_i64 hu
      exact f8 (err_of_laid hL) hn h1 h2 h3 S fun w' hw => ⟨rfl, hw⟩

set_option maxRecDepth 100000 in
set_option maxHeartbeats 4000000 in
theorem journalGens_closed : joinedFacts Tryd.checked.prog 8 Tryd.f8 Rows.journalGensSpec Rows.journalGensRow = true := by
  unfold joinedFacts
  repeat' (with_reducible refine andI ?_ ?_)
  all_goals first | with_reducible exact fMay | with_reducible exact fLaid | (with_reducible refine fLift ?_; rfl) | (with_reducible refine fMake ?_; rfl) | as_aux_lemma => kernel_rfl

theorem journalGens_holds : Rows.JournalGensSaid :=
  OpenClaim.holds_of_wide 8 Tryd.f8 rfl rfl rfl rfl rfl rfl rfl ⟨rfl, rfl, rfl, rfl, rfl⟩ rfl rfl rfl rfl rfl (by kernel_rfl) Tryd.func8 journalGens_closed
    (of_decide_eq_true (by kernel_rfl)) (by unfold Func.isWrapper; rw [if_neg (of_decide_eq_false (by kernel_rfl))]; exact ⟨rfl, rfl⟩)
    (fun os started H enc _ => journalGens_lifted os started H enc)

theorem journalGens_card : Rows.JournalGensCardSaid :=
  Claim7.holds_tied_plain_at .later [] [.handle] true (true, "abe17efad9800fb198d958a30da1c9f3997af9c5b520b6e6fc19bccf376e9d02") true
    journalGens_holds (fun _ h => by cases h) (by kernel_rfl) (fun _ h => by cases h) journalGens_row_tie rfl ⟨rfl, rfl⟩ (by kernel_rfl) rfl
    (fun f fn hf hfn => by
      obtain rfl : f = 8 := Option.some.inj ((show Tryd.prog.funcNamed "berthing/berthinglaw05.JournalGens" = some 8 by kernel_rfl).symm.trans hf) |>.symm
      obtain rfl : fn = Tryd.f8 := (Option.some.inj (Tryd.func8.symm.trans hfn)).symm
      exact ⟨by kernel_rfl, fun j t ht => by
        have h0 : (Tryd.f8.params.toList.all fun t => !Tryd.prog.wantsStandIn t) = true := by kernel_rfl
        have := List.all_eq_true.1 h0 t (Array.mem_toList_iff.2 (Array.mem_of_getElem? ht))
        simp only [Bool.not_eq_true'] at this
        exact this⟩)
    (by kernel_rfl)
#print axioms journalGens_card
end Go.Proofs.YtgnmelnohclpgaaDoor
