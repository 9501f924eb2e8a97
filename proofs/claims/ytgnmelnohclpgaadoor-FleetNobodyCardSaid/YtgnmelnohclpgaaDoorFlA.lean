/- Bits, health: what each function answers. -/
import Derived.Test.YtgnmelnohclpgaaDoorSxU
import Derived.Test.YtgnmelnohclpgaaDoorGnA
set_option linter.unusedVariables false
set_option linter.unusedSimpArgs false
namespace Go.Proofs.YtgnmelnohclpgaaDoor
open Go Go.RowKit

variable {w : World} {K : Cont}

def i64 (n : Int) : Value := .int .i64 n

theorem f171 (a b c : Int) (hk : K (.bool (decide (b ≤ a ∧ a < c))) w) : callX Tryd.prog 171 [.int .i64 a, .int .i64 b, .int .i64 c] w K := by
  refine c171 _ _ _ _ _ ?_
  unfold s171
  (repeat refine Stp.h ?_)
  refine brX_d (fun h => ?_) (fun h => ?_)
  · (repeat refine Stp.h ?_)
    simpa [h] using hk
  · simpa [h] using hk

def rRight (r0 r1 r2 : Int) : Bool := decide (1 ≤ r0 ∧ r0 < r1 ∧ r1 ≤ 1000 ∧ 1 ≤ r2 ∧ r2 < 1001)

theorem f136 (r0 r1 r2 : Int) (hk : ∀ w', Ext w w' → K (.bool (rRight r0 r1 r2)) w') : callX Tryd.prog 136 [.agg #[.int .i64 r0, .int .i64 r1, .int .i64 r2]] w K := by
  refine c136 _ _ _ ?_
  unfold s136
  have S := St.begin w
  (refine StpA.h ?_; clear S; intro b1 w1 S)
  (repeat refine Stp.h ?_)
  (repeat refine Stp.h ?_)
  refine brX_d (fun h1 => ?_) (fun h1 => ?_)
  · (repeat refine Stp.h ?_)
    refine brX_d (fun h2 => ?_) (fun h2 => ?_)
    · (repeat refine Stp.h ?_)
      refine brX_d (fun h3 => ?_) (fun h3 => ?_)
      · (repeat refine Stp.h ?_)
        refine f171 _ _ _ ?_
        have := hk w1 S.toExt
        simpa [rRight, h1, h2, h3] using this
      · have := hk w1 S.toExt
        simpa [rRight, h3] using this
    · have := hk w1 S.toExt
      simpa [rRight, h2] using this
  · have := hk w1 S.toExt
    simpa [rRight, h1] using this


structure Nd where
  s : Int
  m : Int
  b : Int
  deriving DecidableEq
def Nd.val (n : Nd) : Value := .agg #[.int .i64 n.s, .int .i64 n.m, .int .i64 n.b]
structure Ru where
  s : Int
  d : Int
  p : Int
def Ru.val (r : Ru) : Value := .agg #[.int .i64 r.s, .int .i64 r.d, .int .i64 r.p]

def Nd.right (n : Nd) (r : Ru) : Bool := rRight r.s r.d r.p && (
  if n.s = 0 then decide (0 ≤ n.m ∧ n.m < r.s) && decide (n.b = 0)
  else if n.s = 1 then decide (r.s ≤ n.m ∧ n.m < r.d) && decide (0 ≤ n.b ∧ n.b < r.p)
  else if n.s = 2 ∨ n.s = 3 then decide (n.m = 0) && decide (n.b = 0)
  else if n.s = 4 then decide (n.m = 0) && decide (0 ≤ n.b ∧ n.b < r.p)
  else false)

theorem f138 (n : Nd) (r : Ru) (hk : ∀ w', Ext w w' → K (.bool (n.right r)) w') : callX Tryd.prog 138 [n.val, r.val] w K := by
  obtain ⟨s, m, b⟩ := n
  obtain ⟨r0, r1, r2⟩ := r
  refine c138 _ _ _ _ ?_
  unfold s138
  dsimp only [Nd.val, Ru.val]
  have S := St.begin w
  (refine StpA.h ?_; clear S; intro b1 w1 S)
  (refine StpA.h ?_; clear S; intro b2 w2 S)
  (repeat refine Stp.h ?_)
  refine f136 _ _ _ fun w3 hx => ?_
  replace S := S.ext hx
  (repeat refine Stp.h ?_)
  cases hr : rRight r0 r1 r2 with
  | false =>
    refine brX_nf ?_
    simpa [Nd.right, hr] using hk _ S.toExt
  | true =>
    refine brX_nt ?_
    (repeat refine Stp.h ?_)
    refine brX_d (fun h0 => ?_) (fun h0 => ?_)
    · (repeat refine Stp.h ?_)
      refine f171 _ _ _ ?_
      refine brX_d (fun h1 => ?_) (fun h1 => ?_)
      · (repeat refine Stp.h ?_)
        simpa [Nd.right, hr, h0, h1] using hk _ S.toExt
      · simpa [Nd.right, hr, h0, h1] using hk _ S.toExt
    · (repeat refine Stp.h ?_)
      refine brX_d (fun h1 => ?_) (fun h1 => ?_)
      · (repeat refine Stp.h ?_)
        refine f171 _ _ _ ?_
        refine brX_d (fun h2 => ?_) (fun h2 => ?_)
        · (repeat refine Stp.h ?_)
          refine f171 _ _ _ ?_
          simpa [Nd.right, hr, h0, h1, h2] using hk _ S.toExt
        · simpa [Nd.right, hr, h0, h1, h2] using hk _ S.toExt
      · (repeat refine Stp.h ?_)
        refine joinX_i ?_
        refine brX_d (fun h2 => ?_) (fun h2 => ?_)
        · (repeat refine Stp.h ?_)
          simpa [Nd.right, hr, h0, h1, h2] using hk _ S.toExt
        · (repeat refine Stp.h ?_)
          refine brX_d (fun h3 => ?_) (fun h3 => ?_)
          · (repeat refine Stp.h ?_)
            simpa [Nd.right, hr, h0, h1, h2, h3] using hk _ S.toExt
          · (repeat refine Stp.h ?_)
            refine brX_d (fun h4 => ?_) (fun h4 => ?_)
            · (repeat refine Stp.h ?_)
              refine brX_d (fun h5 => ?_) (fun h5 => ?_)
              · (repeat refine Stp.h ?_)
                refine f171 _ _ _ ?_
                simpa [Nd.right, hr, h0, h1, h2, h3, h4, h5] using hk _ S.toExt
              · simpa [Nd.right, hr, h0, h1, h2, h3, h4, h5] using hk _ S.toExt
            · simpa [Nd.right, hr, h0, h1, h2, h3, h4] using hk _ S.toExt

def Nd.beats (n : Nd) (r : Ru) : Nd := if n.s = 0 then ⟨0, 0, 0⟩ else if n.s = 1 ∨ n.s = 4 then (if r.p ≤ n.b + 1 then ⟨0, 0, 0⟩ else ⟨n.s, n.m, n.b + 1⟩) else n
def Nd.misses (n : Nd) (r : Ru) : Nd := if n.s = 0 ∨ n.s = 1 then (if n.m + 1 < r.d then ⟨if r.s ≤ n.m + 1 then 1 else n.s, n.m + 1, 0⟩ else ⟨2, 0, 0⟩) else if n.s = 4 then ⟨2, 0, 0⟩ else n
def Nd.turn (n : Nd) (a b : Int) : Nd := if n.s = a then ⟨b, 0, 0⟩ else n
def Nd.next (n : Nd) (r : Ru) (what : Int) : Nd := if n.right r then
    (if what = 0 then n.beats r else if what = 1 then n.misses r else if what = 2 then n.turn 2 4 else if what = 3 then n.turn 0 3 else if what = 4 then n.turn 3 4 else n) else n

theorem f141 (n : Nd) (a b : Int) (hk : ∀ w', Ext w w' → K (n.turn a b).val w') : callX Tryd.prog 141 [n.val, .int .i64 a, .int .i64 b] w K := by
  obtain ⟨s, m, c⟩ := n
  refine c141 _ _ _ _ _ ?_
  unfold s141
  dsimp only [Nd.val]
  have S := St.begin w
  (refine StpA.h ?_; clear S; intro b1 w1 S)
  (refine StpA.h ?_; clear S; intro b2 w2 S)
  (repeat refine Stp.h ?_)
  refine brX_d (fun h => ?_) (fun h => ?_)
  · (repeat refine Stp.h ?_)
    (refine StpW.h ?_; clear S; intro w3 S)
    (repeat refine Stp.h ?_)
    simpa [Nd.turn, Nd.val, h] using hk _ S.toExt
  · (repeat refine Stp.h ?_)
    (refine StpW.h ?_; clear S; intro w3 S)
    (repeat refine Stp.h ?_)
    simp at h
    simpa [Nd.turn, Nd.val, h] using hk _ S.toExt

theorem f139 (n : Nd) (r : Ru) (hb : 0 ≤ n.b ∧ n.b < 2000) (hk : ∀ w', Ext w w' → K (n.beats r).val w') : callX Tryd.prog 139 [n.val, r.val] w K := by
  obtain ⟨s, m, c⟩ := n
  obtain ⟨r0, r1, r2⟩ := r
  simp only at hb
  refine c139 _ _ _ _ ?_
  unfold s139
  dsimp only [Nd.val, Ru.val]
  have S := St.begin w
  (refine StpA.h ?_; clear S; intro b1 w1 S)
  (refine StpA.h ?_; clear S; intro b2 w2 S)
  (refine StpA.h ?_; clear S; intro b3 w3 S)
  (repeat refine Stp.h ?_)
  refine joinX_i ?_
  (repeat refine Stp.h ?_)
  refine brX_d (fun h0 => ?_) (fun h0 => ?_)
  · (repeat refine Stp.h ?_)
    (refine StpW.h ?_; clear S; intro w4 S)
    (repeat refine Stp.h ?_)
    simpa [Nd.beats, Nd.val, h0] using hk _ S.toExt
  · (repeat refine Stp.h ?_)
    refine joinX_i ?_
    refine brX_d (fun h1 => ?_) (fun h1 => ?_)
    · (repeat refine Stp.h ?_)
      rw [wi64 (by omega)]
      (refine StpW.h ?_; clear S; intro w4 S)
      (repeat refine Stp.h ?_)
      refine brX_d (fun h2 => ?_) (fun h2 => ?_)
      · (repeat refine Stp.h ?_)
        (refine StpW.h ?_; clear S; intro w5 S)
        (repeat refine Stp.h ?_)
        simpa [Nd.beats, Nd.val, h0, h1, h2] using hk _ S.toExt
      · (repeat refine Stp.h ?_)
        (refine StpW.h ?_; clear S; intro w5 S)
        (repeat refine Stp.h ?_)
        simpa [Nd.beats, Nd.val, h0, h1, h2] using hk _ S.toExt
    · (repeat refine Stp.h ?_)
      refine brX_d (fun h2 => ?_) (fun h2 => ?_)
      · (repeat refine Stp.h ?_)
        rw [wi64 (by omega)]
        (refine StpW.h ?_; clear S; intro w4 S)
        (repeat refine Stp.h ?_)
        refine brX_d (fun h3 => ?_) (fun h3 => ?_)
        · (repeat refine Stp.h ?_)
          (refine StpW.h ?_; clear S; intro w5 S)
          (repeat refine Stp.h ?_)
          simpa [Nd.beats, Nd.val, h0, h1, h2, h3] using hk _ S.toExt
        · (repeat refine Stp.h ?_)
          (refine StpW.h ?_; clear S; intro w5 S)
          (repeat refine Stp.h ?_)
          simpa [Nd.beats, Nd.val, h0, h1, h2, h3] using hk _ S.toExt
      · (repeat refine Stp.h ?_)
        (refine StpW.h ?_; clear S; intro w4 S)
        (repeat refine Stp.h ?_)
        simpa [Nd.beats, Nd.val, h0, h1, h2] using hk _ S.toExt


theorem f140 (n : Nd) (r : Ru) (hm : 0 ≤ n.m ∧ n.m < 2000) (hk : ∀ w', Ext w w' → K (n.misses r).val w') : callX Tryd.prog 140 [n.val, r.val] w K := by
  obtain ⟨s, m, c⟩ := n
  obtain ⟨r0, r1, r2⟩ := r
  simp only at hm
  refine c140 _ _ _ _ ?_
  unfold s140
  dsimp only [Nd.val, Ru.val]
  have S := St.begin w
  (refine StpA.h ?_; clear S; intro b1 w1 S)
  (refine StpA.h ?_; clear S; intro b2 w2 S)
  (refine StpA.h ?_; clear S; intro b3 w3 S)
  (repeat refine Stp.h ?_)
  refine joinX_i ?_
  refine brX_d (fun h0 => ?_) (fun h0 => ?_)
  · (repeat refine Stp.h ?_)
    (refine StpW.h ?_; clear S; intro w4 S)
    (repeat refine Stp.h ?_)
    rw [wi64 (by omega)]
    (refine StpW.h ?_; clear S; intro w5 S)
    (repeat refine Stp.h ?_)
    refine joinX_i ?_
    refine brX_d (fun h1 => ?_) (fun h1 => ?_)
    · (repeat refine Stp.h ?_)
      (refine StpW.h ?_; clear S; intro w6 S)
      (repeat refine Stp.h ?_)
      refine brX_d (fun h2 => ?_) (fun h2 => ?_)
      · (repeat refine Stp.h ?_)
        (refine StpW.h ?_; clear S; intro w7 S)
        (repeat refine Stp.h ?_)
        simpa [Nd.misses, Nd.val, h0, h1, h2] using hk _ S.toExt
      · (repeat refine Stp.h ?_)
        (refine StpW.h ?_; clear S; intro w7 S)
        (repeat refine Stp.h ?_)
        simpa [Nd.misses, Nd.val, h0, h1, h2] using hk _ S.toExt
    · (repeat refine Stp.h ?_)
      refine brX_d (fun h2 => ?_) (fun h2 => ?_)
      · (repeat refine Stp.h ?_)
        (refine StpW.h ?_; clear S; intro w7 S)
        (repeat refine Stp.h ?_)
        simpa [Nd.misses, Nd.val, h0, h1, h2] using hk _ S.toExt
      · (repeat refine Stp.h ?_)
        (refine StpW.h ?_; clear S; intro w7 S)
        (repeat refine Stp.h ?_)
        simpa [Nd.misses, Nd.val, h0, h1, h2] using hk _ S.toExt
  · (repeat refine Stp.h ?_)
    refine brX_d (fun h00 => ?_) (fun h00 => ?_)
    · (repeat refine Stp.h ?_)
      (refine StpW.h ?_; clear S; intro w4 S)
      (repeat refine Stp.h ?_)
      rw [wi64 (by omega)]
      (refine StpW.h ?_; clear S; intro w5 S)
      (repeat refine Stp.h ?_)
      refine joinX_i ?_
      refine brX_d (fun h1 => ?_) (fun h1 => ?_)
      · (repeat refine Stp.h ?_)
        (refine StpW.h ?_; clear S; intro w6 S)
        (repeat refine Stp.h ?_)
        refine brX_d (fun h2 => ?_) (fun h2 => ?_)
        · (repeat refine Stp.h ?_)
          (refine StpW.h ?_; clear S; intro w7 S)
          (repeat refine Stp.h ?_)
          simpa [Nd.misses, Nd.val, h0, h00, h1, h2] using hk _ S.toExt
        · (repeat refine Stp.h ?_)
          (refine StpW.h ?_; clear S; intro w7 S)
          (repeat refine Stp.h ?_)
          simpa [Nd.misses, Nd.val, h0, h00, h1, h2] using hk _ S.toExt
      · (repeat refine Stp.h ?_)
        refine brX_d (fun h2 => ?_) (fun h2 => ?_)
        · (repeat refine Stp.h ?_)
          (refine StpW.h ?_; clear S; intro w7 S)
          (repeat refine Stp.h ?_)
          simpa [Nd.misses, Nd.val, h0, h00, h1, h2] using hk _ S.toExt
        · (repeat refine Stp.h ?_)
          (refine StpW.h ?_; clear S; intro w7 S)
          (repeat refine Stp.h ?_)
          simpa [Nd.misses, Nd.val, h0, h00, h1, h2] using hk _ S.toExt
    · (repeat refine Stp.h ?_)
      refine brX_d (fun h1 => ?_) (fun h1 => ?_)
      · (repeat refine Stp.h ?_)
        (refine StpW.h ?_; clear S; intro w7 S)
        (repeat refine Stp.h ?_)
        simpa [Nd.misses, Nd.val, h0, h00, h1] using hk _ S.toExt
      · (repeat refine Stp.h ?_)
        (refine StpW.h ?_; clear S; intro w7 S)
        (repeat refine Stp.h ?_)
        simpa [Nd.misses, Nd.val, h0, h00, h1] using hk _ S.toExt

theorem Nd.right_of {n : Nd} {r : Ru} (h : n.right r = true) : 1 ≤ r.s ∧ r.s < r.d ∧ r.d ≤ 1000 ∧ 1 ≤ r.p ∧ r.p < 1001 ∧ 0 ≤ n.m ∧ n.m < 1000 ∧ 0 ≤ n.b ∧ n.b < 1001 ∧ 0 ≤ n.s ∧ n.s ≤ 4 := by
  obtain ⟨s, m, c⟩ := n
  obtain ⟨r0, r1, r2⟩ := r
  simp only [Nd.right, rRight, Bool.and_eq_true, decide_eq_true_eq] at h
  obtain ⟨h1, h2⟩ := h
  dsimp only at *
  repeat' split at h2
  all_goals (simp only [Bool.and_eq_true, decide_eq_true_eq, Bool.false_eq_true] at h2; try omega)

theorem f75 (n : Nd) (r : Ru) (what : Int) (hk : ∀ w', Ext w w' → K (n.next r what).val w') : callX Tryd.prog 75 [n.val, r.val, .int .i64 what] w K := by
  refine c75 _ _ _ _ _ ?_
  unfold s75
  have hn : ∀ n : Nd, n.val = .agg [.int .i64 n.s, .int .i64 n.m, .int .i64 n.b].toArray := fun _ => rfl
  have hr : r.val = .agg [.int .i64 r.s, .int .i64 r.d, .int .i64 r.p].toArray := rfl
  rw [hn, hr]
  have S := St.begin w
  (refine StpA.h ?_; clear S; intro b1 w1 S)
  (refine StpA.h ?_; clear S; intro b2 w2 S)
  (refine StpA.h ?_; clear S; intro b3 w3 S)
  (repeat refine Stp.h ?_)
  refine f138 n r fun w4 hx => ?_
  replace S := S.ext hx
  (repeat refine Stp.h ?_)
  cases hrt : n.right r with
  | false =>
    refine brX_nf ?_
    (repeat refine Stp.h ?_)
    (refine StpW.h ?_; clear S; intro w5 S)
    (repeat refine Stp.h ?_)
    simpa [Nd.next, hrt, hn] using hk _ S.toExt
  | true =>
    have hb := Nd.right_of hrt
    refine brX_nt ?_
    (repeat refine Stp.h ?_)
    refine brX_d (fun h0 => ?_) (fun h0 => ?_)
    · (repeat refine Stp.h ?_)
      refine f139 n r (by omega) fun w6 hx => ?_
      replace S := S.ext hx
      rw [hn (n.beats r)]
      (refine StpW.h ?_; clear S; intro w7 S)
      (repeat refine Stp.h ?_)
      simpa [Nd.next, hrt, hn, h0] using hk _ S.toExt
    · (repeat refine Stp.h ?_)
      refine brX_d (fun h1 => ?_) (fun h1 => ?_)
      · (repeat refine Stp.h ?_)
        refine f140 n r (by omega) fun w6 hx => ?_
        replace S := S.ext hx
        rw [hn (n.misses r)]
        (refine StpW.h ?_; clear S; intro w7 S)
        (repeat refine Stp.h ?_)
        simpa [Nd.next, hrt, hn, h0, h1] using hk _ S.toExt
      · (repeat refine Stp.h ?_)
        refine brX_d (fun h2 => ?_) (fun h2 => ?_)
        · (repeat refine Stp.h ?_)
          refine f141 n _ _ fun w6 hx => ?_
          replace S := S.ext hx
          rw [hn (n.turn _ _)]
          (refine StpW.h ?_; clear S; intro w7 S)
          (repeat refine Stp.h ?_)
          simpa [Nd.next, hrt, hn, h0, h1, h2] using hk _ S.toExt
        · (repeat refine Stp.h ?_)
          refine brX_d (fun h3 => ?_) (fun h3 => ?_)
          · (repeat refine Stp.h ?_)
            refine f141 n _ _ fun w6 hx => ?_
            replace S := S.ext hx
            rw [hn (n.turn _ _)]
            (refine StpW.h ?_; clear S; intro w7 S)
            (repeat refine Stp.h ?_)
            simpa [Nd.next, hrt, hn, h0, h1, h2, h3] using hk _ S.toExt
          · (repeat refine Stp.h ?_)
            refine brX_d (fun h4 => ?_) (fun h4 => ?_)
            · (repeat refine Stp.h ?_)
              refine f141 n _ _ fun w6 hx => ?_
              replace S := S.ext hx
              rw [hn (n.turn _ _)]
              (refine StpW.h ?_; clear S; intro w7 S)
              (repeat refine Stp.h ?_)
              simpa [Nd.next, hrt, hn, h0, h1, h2, h3, h4] using hk _ S.toExt
            · (repeat refine Stp.h ?_)
              (refine StpW.h ?_; clear S; intro w7 S)
              (repeat refine Stp.h ?_)
              simpa [Nd.next, hrt, hn, h0, h1, h2, h3, h4] using hk _ S.toExt

end Go.Proofs.YtgnmelnohclpgaaDoor
