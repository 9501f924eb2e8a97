/- The fleet: a new one; the small play; one that nobody made. -/
import Derived.Test.YtgnmelnohclpgaaDoorFlF
set_option linter.unusedVariables false
set_option linter.unusedSimpArgs false
namespace Go.Proofs.YtgnmelnohclpgaaDoor
open Go Go.RowKit

variable {w : World} {K : Cont}

def newL (n : Int) : List Nd := List.replicate n.toNat ⟨0, 0, 0⟩
theorem zeros_nodes (n : Nat) : zeros [Value.int .i64 0, Value.int .i64 0, Value.int .i64 0] n = nodeCells (List.replicate n ⟨0, 0, 0⟩) := by
  induction n with
  | zero => rfl
  | succ n ih => rw [List.replicate_succ, nodeCells_cons, ← ih]; simp [zeros, List.replicate_succ]

theorem f72 (n s : Int) (r : Ru) (hT : TabW w) (h1 : w.heap.size ≠ 0)
    (hbad : ¬ (1 ≤ n ∧ n ≤ 64 ∧ 0 ≤ s ∧ s < n ∧ rRight r.s r.d r.p = true) → ∀ w', Ext w w' → K (.tuple #[.pointer none, .int .i64 2]) w')
    (hk : (1 ≤ n ∧ n ≤ 64 ∧ 0 ≤ s ∧ s < n ∧ rRight r.s r.d r.p = true) → ∀ w' b nb, Ext w w' → w.heap.size ≤ b → w.heap.size ≤ nb → Made w' b nb n.toNat [] (newL n) (firstS n &&& ~~~firstS (n - s)) r 0 → K (.tuple #[ptr b, .int .i64 0]) w') :
    callX Tryd.prog 72 [.int .i64 n, .int .i64 s, r.val] w K := by
  refine c72 _ _ _ _ _ ?_
  unfold s72
  rw [show r.val = .agg [.int .i64 r.s, .int .i64 r.d, .int .i64 r.p].toArray from rfl]
  have S := St.begin w
  (refine StpA.h ?_; clear S; intro b1 w1 S)
  have hS1 : 1 < w.heap.size := by
    have h := hT 0 (by omega)
    unfold World.cell? at h
    apply Nat.lt_of_not_le
    intro hle
    have : w.heap[1]? = none := Array.getElem?_eq_none hle
    simp [this] at h
  refine joinX_i ?_
  (repeat refine Stp.h ?_)
  refine brX_d (fun h1 => ?_) (fun h1 => ?_)
  · (repeat refine Stp.h ?_)
    exact hbad (by omega) _ S.toExt
  · (repeat refine Stp.h ?_)
    refine brX_d (fun h2 => ?_) (fun h2 => ?_)
    · (repeat refine Stp.h ?_)
      exact hbad (by omega) _ S.toExt
    · (repeat refine Stp.h ?_)
      refine brX_d (fun h3 => ?_) (fun h3 => ?_)
      · (repeat refine Stp.h ?_)
        exact hbad (by omega) _ S.toExt
      · (repeat refine Stp.h ?_)
        refine brX_d (fun h4 => ?_) (fun h4 => ?_)
        · (repeat refine Stp.h ?_)
          exact hbad (by omega) _ S.toExt
        · (repeat refine Stp.h ?_)
          refine f136 _ _ _ fun w2 hx => ?_
          replace S := S.ext hx
          (repeat refine Stp.h ?_)
          cases hr : rRight r.s r.d r.p with
          | false =>
            refine brX_nf ?_
            exact hbad (by simp [hr]) _ S.toExt
          | true =>
            refine brX_nt ?_
            (refine S.drew ?_; clear S; intro w3 S)
            refine ⟨Has _, S.hs, ?_⟩
            (repeat refine Stp.h ?_)
            refine ⟨by omega, by omega, by omega, by omega, fun nb w4 hnew => ?_⟩
            replace S := S.newB hnew
            rw [zeros_nodes] at S
            (repeat refine Stp.h ?_)
            (refine StpA.h ?_; clear S; intro b w5 S)
            replace S : St [] w w5 (blk b (.cells (flC (.slice (some ⟨nb, 0, none⟩) n.toNat n.toNat) 0#64 r 0).toArray 31 (0, 0)) :: _) := S
            refine f80 (S.get List.mem_cons_self) ?_
            (repeat refine Stp.h ?_)
            rw [wi64 (by omega)]
            refine f137 _ ?_
            refine f73 _ _ ?_
            (repeat refine Stp.h ?_)
            (refine StpW.h ?_; clear S; intro w6 S)
            (repeat refine Stp.h ?_)
            rw [show ((n.toNat : Nat) : Int) = n by omega] at S
            have hnn : (newL n).length = n.toNat := by simp [newL]
            have hb := S.fresh List.mem_cons_self
            have hnb := S.fresh (List.mem_cons_of_mem _ List.mem_cons_self)
            refine hk ⟨by omega, by omega, by omega, by omega, hr⟩ w6 b nb S.toExt hb hnb ⟨?_, ?_, ?_, by omega, by omega, by omega, by omega⟩
            · rw [hnn]; exact S.get List.mem_cons_self
            · rw [List.append_nil]; exact S.get (by simp [newL])
            · rintro rfl
              obtain ⟨F, O, hh, _⟩ := S.has
              cases hh with
              | cons k1 k2 k3 k4 =>
                obtain ⟨rfl, rfl, _⟩ := k1
                cases k2 with
                | cons j1 j2 j3 j4 =>
                  obtain ⟨rfl, rfl, _⟩ := j1
                  exact k3 nb (by simp) (by simp)

def oneL : List Nd := [⟨1, 1, 0⟩, ⟨0, 0, 0⟩, ⟨0, 0, 0⟩, ⟨0, 0, 0⟩]
theorem one_swp {sp' : BitVec 64} {k' : Int} (h : Swp oneL 8#64 0 sp' k') (hl : lame oneL sp' = false) : sp' = 1#64 ∧ k' = 1 := by
  cases h with
  | refl => exact absurd hl (by decide +kernel)
  | step h1 h2 =>
    have e : swS oneL 8#64 = 1#64 := by decide +kernel
    rw [e, show IntKind.i64.wrap (0 + 1) = 1 from wi64 (by omega)] at h2
    cases h2 with
    | refl => exact ⟨rfl, rfl⟩
    | step h3 _ => exact absurd h3 (by decide +kernel)

theorem f30 (hT : TabW w) (hk : ∀ w', Ext w w' → K (.bool true) w') : callX Tryd.prog 30 [] w K := by
  refine c30 _ _ ?_
  unfold s30
  (repeat refine Stp.h ?_)
  have hS1 : w.heap.size ≠ 0 := by
    intro e
    have h := hT 0 (by omega)
    unfold World.cell? at h
    have : w.heap[1]? = none := Array.getElem?_eq_none (by omega)
    simp [this] at h
  refine f72 4 1 ⟨1, 2, 1⟩ hT hS1 (fun h => absurd ⟨by omega, by omega, by omega, by omega, by decide⟩ h) fun _ w1 b nb hx hb hnb m => ?_
  refine extractX_i (vs := [_, _]) rfl ?_
  refine extractX_i (vs := [_, _]) rfl ?_
  refine joinX_i ?_
  (repeat refine Stp.h ?_)
  refine brX_d (fun h => absurd h (by decide)) (fun _ => ?_)
  (repeat refine Stp.h ?_)
  have m : Made w1 b nb 4 [] [⟨0, 0, 0⟩, ⟨0, 0, 0⟩, ⟨0, 0, 0⟩, ⟨0, 0, 0⟩] 8#64 ⟨1, 2, 1⟩ 0 := by
    have e1 : newL 4 = [⟨0, 0, 0⟩, ⟨0, 0, 0⟩, ⟨0, 0, 0⟩, ⟨0, 0, 0⟩] := rfl
    have e2 : firstS 4 &&& ~~~firstS (4 - 1) = 8#64 := by decide +kernel
    rw [e1, e2] at m
    exact m
  refine f19 (hT.ext hx) m 0 1 (fun h => absurd ⟨by omega, by simp⟩ h) (fun _ h => absurd ⟨by omega, by omega⟩ h) fun n w2 sp' k' hn _ _ S m2 hsw hl => ?_
  obtain rfl : n = ⟨0, 0, 0⟩ := by simpa using hn.symm
  have el : ([⟨0, 0, 0⟩, ⟨0, 0, 0⟩, ⟨0, 0, 0⟩, ⟨0, 0, 0⟩] : List Nd).set (Int.toNat 0) (Nd.next ⟨0, 0, 0⟩ ⟨1, 2, 1⟩ 1) = oneL := by decide +kernel
  rw [el] at m2 hsw hl
  obtain ⟨rfl, rfl⟩ := one_swp hsw hl
  have hx2 : Ext w w2 := ⟨Nat.le_trans hx.size S.size, fun r hr => (S.old r (Nat.lt_of_lt_of_le hr hx.size) (by simp; omega)).trans (hx.old r hr), hx.same.trans S.same⟩
  (repeat refine Stp.h ?_)
  refine brX_d (fun _ => ?_) (fun h => absurd rfl h)
  refine f23 m2.fl ?_
  unfold sv
  (repeat refine Stp.h ?_)
  refine brX_d (fun _ => ?_) (fun h => absurd (by decide) h)
  refine f24 m2.fl ?_
  rw [show firstS (oneL.length : Int) &&& ~~~1#64 = 14#64 by decide +kernel]
  unfold sv
  (repeat refine Stp.h ?_)
  refine brX_d (fun _ => ?_) (fun h => absurd (by decide) h)
  refine f25 m2.fl ?_
  (repeat refine Stp.h ?_)
  refine brX_d (fun _ => ?_) (fun h => absurd rfl h)
  refine f21 m2.fl ⟨nb, [], rfl, m2.row⟩ m2.len fun w3 hx3 => ?_
  rw [show inS oneL 0 = 14#64 by decide +kernel]
  unfold sv
  (repeat refine Stp.h ?_)
  exact hk _ (hx2.trans hx3)

end Go.Proofs.YtgnmelnohclpgaaDoor
