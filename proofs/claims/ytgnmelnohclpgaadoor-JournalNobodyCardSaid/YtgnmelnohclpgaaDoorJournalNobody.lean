/- JournalNobody: a log that nobody made has no records: whatever the input, the law returns true, and the input reads as it did. The card ties what errors.errorType holds to the program's text. -/
import Derived.Test.YtgnmelnohclpgaaDoorLwC
import Derived.Test.YtgnmelnohclpgaaDoorLwD
import Derived.Test.YtgnmelnohclpgaaDoorCpG
set_option linter.unusedVariables false
set_option linter.unusedSimpArgs false
namespace Go.Proofs.YtgnmelnohclpgaaDoor
open Go Go.RowKit Go.ChangeShapes Go.WideShapes

set_option maxRecDepth 100000 in
theorem journalNobody_lifted (os : Os) (started : os.Started) (H : Type) (enc : TypeId × Value → H) :
    ReturnsInHanded {} Tryd.checked os 9 .any (fun w args => (Rows.journalNobodySpec.pre enc Tryd.prog Tryd.f9 [] false w args ∧ laidMetH Tryd.prog Rows.journalNobodyRow.laid w) ∧ sizedMet enc Tryd.prog Tryd.f9 (OpenSpec.ofChange Rows.journalNobodySpec) false w args)
      (Rows.journalNobodySpec.post enc Tryd.prog Tryd.f9 false true false false) := by
  refine lifted (laid := Rows.journalNobodyRow.laid) [.part [.int .i64, .row (.int .u8)]] os started (by kernel_rfl) Tryd.func9
    (ChangeSpec.witness_at (enc := enc) (C := Tryd.checked) (os := os) (X := fun w _ => laidMetH Tryd.prog Rows.journalNobodyRow.laid w) false (laidWorld os) #[.agg #[.int .i64 0, .slice none 0 0]] 8 rfl (by kernel_rfl) (by kernel_rfl) (by kernel_rfl) (by kernel_rfl) (by kernel_rfl) (laidWorld_err os _))
    (by kernel_rfl) rfl (fun ds h => ?_) (by kernel_rfl) (by kernel_rfl) (by kernel_rfl) ?_
  · match ds, h with
    | [d1], _ => rfl
  · intro W vs hL hA
    match vs, hA with
    | [v], ⟨⟨cs, hv, hc⟩, _⟩ =>
      obtain ⟨r, x, rfl, hr, hx⟩ := rdb_rec hc
      subst hv
      exact f9 (err_of_laid hL) hr hx fun w' hw => ⟨rfl, hw⟩

set_option maxRecDepth 100000 in
set_option maxHeartbeats 4000000 in
theorem journalNobody_closed : joinedFacts Tryd.checked.prog 9 Tryd.f9 Rows.journalNobodySpec Rows.journalNobodyRow = true := by
  unfold joinedFacts
  repeat' (with_reducible refine andI ?_ ?_)
  all_goals first | with_reducible exact fMay | with_reducible exact fLaid | (with_reducible refine fLift ?_; rfl) | (with_reducible refine fMake ?_; rfl) | as_aux_lemma => kernel_rfl

theorem journalNobody_holds : Rows.JournalNobodySaid :=
  OpenClaim.holds_of_wide 9 Tryd.f9 rfl rfl rfl rfl rfl rfl rfl ⟨rfl, rfl, rfl, rfl, rfl⟩ rfl rfl rfl rfl rfl (by kernel_rfl) Tryd.func9 journalNobody_closed
    (of_decide_eq_true (by kernel_rfl)) (by unfold Func.isWrapper; rw [if_neg (of_decide_eq_false (by kernel_rfl))]; exact ⟨rfl, rfl⟩)
    (fun os started H enc _ => journalNobody_lifted os started H enc)

theorem journalNobody_card : Rows.JournalNobodyCardSaid :=
  Claim7.holds_tied_plain_at .later [] [.handle] true (true, "abe17efad9800fb198d958a30da1c9f3997af9c5b520b6e6fc19bccf376e9d02") true
    journalNobody_holds (fun _ h => by cases h) (by kernel_rfl) (fun _ h => by cases h) journalNobody_row_tie rfl ⟨rfl, rfl⟩ (by kernel_rfl) rfl
    (fun f fn hf hfn => by
      obtain rfl : f = 9 := Option.some.inj ((show Tryd.prog.funcNamed "berthing/berthinglaw05.JournalNobody" = some 9 by kernel_rfl).symm.trans hf) |>.symm
      obtain rfl : fn = Tryd.f9 := (Option.some.inj (Tryd.func9.symm.trans hfn)).symm
      exact ⟨by kernel_rfl, fun j t ht => by
        have h0 : (Tryd.f9.params.toList.all fun t => !Tryd.prog.wantsStandIn t) = true := by kernel_rfl
        have := List.all_eq_true.1 h0 t (Array.mem_toList_iff.2 (Array.mem_of_getElem? ht))
        simp only [Bool.not_eq_true'] at this
        exact this⟩)
    (by kernel_rfl)
#print axioms journalNobody_card
end Go.Proofs.YtgnmelnohclpgaaDoor
