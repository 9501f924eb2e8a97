/- Laws of this seat: arguments that are bytes, records, rows of such: as pieces that are read. -/
import Derived.Test.YtgnmelnohclpgaaDoorLwA
import Derived.Test.YtgnmelnohclpgaaDoorCpF
set_option linter.unusedVariables false
set_option linter.unusedSimpArgs false
namespace Go.Proofs.YtgnmelnohclpgaaDoor
open Go Go.RowKit

/-- pieces that are read, known when the call began -/
theorem St.knAll {w0 w : World} {L : List Item} (S : St [] w0 w L) : ∀ (X : List Item), (∀ I ∈ X, ∃ fp, I.P w0 fp []) → St [] w0 w (X ++ L)
  | [], _ => S
  | I :: X, h => by
    obtain ⟨fp, hI⟩ := h I (by simp)
    exact (St.knAll S X fun J hJ => h J (by simp [hJ])).kn hI (by simp)

theorem rdB_arg {W : World} {v : Value} (h : Rdb W (.row (.int .u8)) [v]) : ∃ l, RdB W v l := by
  cases h with
  | nil => exact ⟨[], .inl ⟨rfl, rfl⟩⟩
  | @row _ a len cap els h1 h2 h3 h4 h5 h6 =>
    obtain ⟨l, hl⟩ : ∃ l : List UInt8, els = l.map fun x => [by1 x] := by
      clear h1 h2 h3 h6
      induction els with
      | nil => exact ⟨[], rfl⟩
      | cons c els ih =>
        obtain ⟨l, hl⟩ := ih (fun c hc => h4 c (by simp [hc])) (fun c hc => h5 c (by simp [hc]))
        have := h5 c (by simp)
        cases this with
        | @int _ n h7 h8 =>
          refine ⟨n.toNat.toUInt8 :: l, ?_⟩
          have h7 : 0 ≤ n := h7
          have h8 : n ≤ 255 := h8
          have : ((n.toNat.toUInt8).toNat : Int) = n := by
            have : (n.toNat.toUInt8).toNat = n.toNat := UInt8.toNat_ofNat_of_lt' (by show n.toNat < 256; omega)
            omega
          simp only [List.map_cons, by1, this, hl]
    subst hl
    refine ⟨l, .inr ⟨a, cap, by rw [← h3]; simp, by rw [← h3] at h1; simpa using h1, fun i x hx => ?_⟩⟩
    have := h6 i [by1 x] (by simp [hx]) 0 (by1 x) rfl
    simpa [Sh.width] using this

/-- a record's two cells -/
theorem rdb_rec {W : World} {c : List Value} (h : RdbL W [.int .i64, .row (.int .u8)] c) : ∃ (r : Rc) (x : Value), c = rcC r.1 x ∧ (-9223372036854775808 ≤ r.1 ∧ r.1 < 9223372036854775808) ∧ RdB W x r.2 := by
  cases h with
  | cons h1 h2 =>
    cases h1 with
    | @int _ n h7 h8 =>
      cases h2 with
      | cons h3 h4 =>
        cases h4
        have : ∃ v, [v] = ‹List Value› := by
          cases h3 <;> exact ⟨_, rfl⟩
        obtain ⟨v, rfl⟩ := this
        obtain ⟨l, hl⟩ := rdB_arg h3
        have h7 : -9223372036854775808 ≤ n := h7
        have h8 : n ≤ 9223372036854775807 := h8
        exact ⟨(n, l), v, rfl, ⟨h7, by show n < _; omega⟩, hl⟩
end Go.Proofs.YtgnmelnohclpgaaDoor
