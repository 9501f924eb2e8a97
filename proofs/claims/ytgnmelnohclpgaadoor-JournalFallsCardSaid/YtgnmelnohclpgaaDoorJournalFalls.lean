/- JournalFalls: behind falls a log that is opened has all records whose adding told no error, and perhaps the last one: whatever the input, the law returns true, and the input reads as it did. The card ties what errors.errorType holds to the program's text. -/
import Derived.Test.YtgnmelnohclpgaaDoorLwC
import Derived.Test.YtgnmelnohclpgaaDoorLwG
import Derived.Test.YtgnmelnohclpgaaDoorCpL
set_option linter.unusedVariables false
set_option linter.unusedSimpArgs false
namespace Go.Proofs.YtgnmelnohclpgaaDoor
open Go Go.RowKit Go.ChangeShapes Go.WideShapes

set_option maxRecDepth 100000 in
theorem journalFalls_lifted (os : Os) (started : os.Started) (H : Type) (enc : TypeId × Value → H) :
    ReturnsInHanded {} Tryd.checked os 13 .any (fun w args => (Rows.journalFallsSpec.pre enc Tryd.prog Tryd.f13 [] false w args ∧ laidMetH Tryd.prog Rows.journalFallsRow.laid w) ∧ sizedMet enc Tryd.prog Tryd.f13 (OpenSpec.ofChange Rows.journalFallsSpec) false w args)
      (Rows.journalFallsSpec.post enc Tryd.prog Tryd.f13 false true false false) := by
  refine lifted (laid := Rows.journalFallsRow.laid) [.row (.part [.part [.int .i64, .row (.int .u8)], .int .i64, .int .i64]), .int .i64] os started (by kernel_rfl) Tryd.func13
    (ChangeSpec.witness_at (enc := enc) (C := Tryd.checked) (os := os) (X := fun w _ => laidMetH Tryd.prog Rows.journalFallsRow.laid w) false (laidWorld os) #[.slice none 0 0, .int .i64 0] 8 rfl (by kernel_rfl) (by kernel_rfl) (by kernel_rfl) (by kernel_rfl) (by kernel_rfl) (laidWorld_err os _))
    (by kernel_rfl) rfl (fun ds h => ?_) (by kernel_rfl) (by kernel_rfl) (by kernel_rfl) ?_
  · match ds, h with
    | [d1, d2], _ => rfl
  · intro W vs hL hA
    match vs, hA with
    | [v, u], ⟨hv, hu, _⟩ =>
      obtain ⟨ss, bs, h1, h2, h3, S⟩ := rdR_sps hv
      obtain ⟨n, rfl, hn⟩ := rdb_i64 hu
      exact f13 (err_of_laid hL) hn h1 h2 h3 S fun w' hw => ⟨rfl, hw⟩

set_option maxRecDepth 100000 in
set_option maxHeartbeats 4000000 in
theorem journalFalls_closed : joinedFacts Tryd.checked.prog 13 Tryd.f13 Rows.journalFallsSpec Rows.journalFallsRow = true := by
  unfold joinedFacts
  repeat' (with_reducible refine andI ?_ ?_)
  all_goals first | with_reducible exact fMay | with_reducible exact fLaid | (with_reducible refine fLift ?_; rfl) | (with_reducible refine fMake ?_; rfl) | as_aux_lemma => kernel_rfl

theorem journalFalls_holds : Rows.JournalFallsSaid :=
  OpenClaim.holds_of_wide 13 Tryd.f13 rfl rfl rfl rfl rfl rfl rfl ⟨rfl, rfl, rfl, rfl, rfl⟩ rfl rfl rfl rfl rfl (by kernel_rfl) Tryd.func13 journalFalls_closed
    (of_decide_eq_true (by kernel_rfl)) (by unfold Func.isWrapper; rw [if_neg (of_decide_eq_false (by kernel_rfl))]; exact ⟨rfl, rfl⟩)
    (fun os started H enc _ => journalFalls_lifted os started H enc)

theorem journalFalls_card : Rows.JournalFallsCardSaid :=
  Claim7.holds_tied_plain_at .later [] [.handle] true (true, "abe17efad9800fb198d958a30da1c9f3997af9c5b520b6e6fc19bccf376e9d02") true
    journalFalls_holds (fun _ h => by cases h) (by kernel_rfl) (fun _ h => by cases h) journalFalls_row_tie rfl ⟨rfl, rfl⟩ (by kernel_rfl) rfl
    (fun f fn hf hfn => by
      obtain rfl : f = 13 := Option.some.inj ((show Tryd.prog.funcNamed "berthing/berthinglaw05.JournalFalls" = some 13 by kernel_rfl).symm.trans hf) |>.symm
      obtain rfl : fn = Tryd.f13 := (Option.some.inj (Tryd.func13.symm.trans hfn)).symm
      exact ⟨by kernel_rfl, fun j t ht => by
        have h0 : (Tryd.f13.params.toList.all fun t => !Tryd.prog.wantsStandIn t) = true := by kernel_rfl
        have := List.all_eq_true.1 h0 t (Array.mem_toList_iff.2 (Array.mem_of_getElem? ht))
        simp only [Bool.not_eq_true'] at this
        exact this⟩)
    (by kernel_rfl)
#print axioms journalFalls_card
end Go.Proofs.YtgnmelnohclpgaaDoor
