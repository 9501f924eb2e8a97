/- SnapsBig: a text of as many bytes as there may be is kept, and told again; one more byte is refused: whatever the input, the law returns true, and the input reads as it did. The card ties what errors.errorType holds to the program's text. -/
import Derived.Test.YtgnmelnohclpgaaDoorLwC
import Derived.Test.YtgnmelnohclpgaaDoorLwF
import Derived.Test.YtgnmelnohclpgaaDoorCpR
set_option linter.unusedVariables false
set_option linter.unusedSimpArgs false
namespace Go.Proofs.YtgnmelnohclpgaaDoor
open Go Go.RowKit Go.ChangeShapes Go.WideShapes

set_option maxRecDepth 100000 in
theorem snapsBig_lifted (os : Os) (started : os.Started) (H : Type) (enc : TypeId × Value → H) :
    ReturnsInHanded {} Tryd.checked os 12 .any (fun w args => (Rows.snapsBigSpec.pre enc Tryd.prog Tryd.f12 [] false w args ∧ laidMetH Tryd.prog Rows.snapsBigRow.laid w) ∧ sizedMet enc Tryd.prog Tryd.f12 (OpenSpec.ofChange Rows.snapsBigSpec) false w args)
      (Rows.snapsBigSpec.post enc Tryd.prog Tryd.f12 false true false false) := by
  refine lifted (laid := Rows.snapsBigRow.laid) [.int .i64, .int .u8] os started (by kernel_rfl) Tryd.func12
    (ChangeSpec.witness_at (enc := enc) (C := Tryd.checked) (os := os) (X := fun w _ => laidMetH Tryd.prog Rows.snapsBigRow.laid w) false (laidWorld os) #[.int .i64 0, .int .u8 0] 8 rfl (by kernel_rfl) (by kernel_rfl) (by kernel_rfl) (by kernel_rfl) (by kernel_rfl) (laidWorld_err os _))
    (by kernel_rfl) rfl (fun ds h => ?_) (by kernel_rfl) (by kernel_rfl) (by kernel_rfl) ?_
  · match ds, h with
    | [d1, d2], _ => rfl
  · intro W vs hL hA
    match vs, hA with
    | [v, u], ⟨hv, hu, _⟩ =>
      obtain ⟨n, rfl, hn⟩ := rdb_i64 hv
      obtain ⟨m, rfl, hm1, hm2⟩ := rdb_int hu
      have hm1 : 0 ≤ m := hm1
      have hm2 : m ≤ 255 := hm2
      obtain ⟨x, hx⟩ : ∃ x : UInt8, Value.int .u8 m = by1 x := ⟨m.toNat.toUInt8, by
        have : (m.toNat.toUInt8).toNat = m.toNat := UInt8.toNat_ofNat_of_lt' (by show m.toNat < 256; omega)
        unfold by1
        rw [this]
        congr 1
        omega⟩
      rw [hx]
      exact f12 (err_of_laid hL) fun w' hw => ⟨rfl, hw⟩

set_option maxRecDepth 100000 in
set_option maxHeartbeats 4000000 in
theorem snapsBig_closed : joinedFacts Tryd.checked.prog 12 Tryd.f12 Rows.snapsBigSpec Rows.snapsBigRow = true := by
  unfold joinedFacts
  repeat' (with_reducible refine andI ?_ ?_)
  all_goals first | with_reducible exact fMay | with_reducible exact fLaid | (with_reducible refine fLift ?_; rfl) | (with_reducible refine fMake ?_; rfl) | as_aux_lemma => kernel_rfl

theorem snapsBig_holds : Rows.SnapsBigSaid :=
  OpenClaim.holds_of_wide 12 Tryd.f12 rfl rfl rfl rfl rfl rfl rfl ⟨rfl, rfl, rfl, rfl, rfl⟩ rfl rfl rfl rfl rfl (by kernel_rfl) Tryd.func12 snapsBig_closed
    (of_decide_eq_true (by kernel_rfl)) (by unfold Func.isWrapper; rw [if_neg (of_decide_eq_false (by kernel_rfl))]; exact ⟨rfl, rfl⟩)
    (fun os started H enc _ => snapsBig_lifted os started H enc)

theorem snapsBig_card : Rows.SnapsBigCardSaid :=
  Claim7.holds_tied_plain_at .later [] [.handle] true (true, "abe17efad9800fb198d958a30da1c9f3997af9c5b520b6e6fc19bccf376e9d02") true
    snapsBig_holds (fun _ h => by cases h) (by kernel_rfl) (fun _ h => by cases h) snapsBig_row_tie rfl ⟨rfl, rfl⟩ (by kernel_rfl) rfl
    (fun f fn hf hfn => by
      obtain rfl : f = 12 := Option.some.inj ((show Tryd.prog.funcNamed "berthing/berthinglaw06.SnapsBig" = some 12 by kernel_rfl).symm.trans hf) |>.symm
      obtain rfl : fn = Tryd.f12 := (Option.some.inj (Tryd.func12.symm.trans hfn)).symm
      exact ⟨by kernel_rfl, fun j t ht => by
        have h0 : (Tryd.f12.params.toList.all fun t => !Tryd.prog.wantsStandIn t) = true := by kernel_rfl
        have := List.all_eq_true.1 h0 t (Array.mem_toList_iff.2 (Array.mem_of_getElem? ht))
        simp only [Bool.not_eq_true'] at this
        exact this⟩)
    (by kernel_rfl)
#print axioms snapsBig_card
end Go.Proofs.YtgnmelnohclpgaaDoor
