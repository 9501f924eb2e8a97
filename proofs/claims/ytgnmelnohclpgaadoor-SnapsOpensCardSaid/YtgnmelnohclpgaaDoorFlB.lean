/- Sets of nodes: what each function answers. -/
import Derived.Test.YtgnmelnohclpgaaDoorSxU
import Derived.Test.YtgnmelnohclpgaaDoorGnA
import Derived.Lib.TrailingZeros
set_option linter.unusedVariables false
set_option linter.unusedSimpArgs false
namespace Go.Proofs.YtgnmelnohclpgaaDoor
open Go Go.RowKit

variable {w : World} {K : Cont}

/-- a set as a value -/
def sv (s : BitVec 64) : Value := .int .u64 (s.toNat : Int)
instance {s : BitVec 64} : One (sv s) := ⟨rfl⟩
instance {s : BitVec 64} : Cel (sv s) [sv s] := ⟨rfl⟩

theorem bv2 (f : BitVec 64 → BitVec 64 → BitVec 64) (s t : BitVec 64) : bitsV .u64 f (s.toNat : Int) (t.toNat : Int) = ((f s t).toNat : Int) := by
  have h1 : ∀ x : BitVec 64, BitVec.ofInt 64 (x.toNat : Int) = x := fun x => by simp
  show IntKind.u64.wrap _ = _
  rw [show BitVec.ofInt (IntKind.bits .u64) (s.toNat : Int) = s from h1 s, show BitVec.ofInt (IntKind.bits .u64) (t.toNat : Int) = t from h1 t]
  have h : (f s t).toNat < 2 ^ 64 := (f s t).isLt
  exact wu64 (n := (((f s t).toNat : Nat) : Int)) (by omega)
theorem bv_and (s t : BitVec 64) : bitsV .u64 (fun p q => p &&& q) (s.toNat : Int) (t.toNat : Int) = ((s &&& t).toNat : Int) := bv2 _ s t
theorem bv_or (s t : BitVec 64) : bitsV .u64 (fun p q => p ||| q) (s.toNat : Int) (t.toNat : Int) = ((s ||| t).toNat : Int) := bv2 _ s t
theorem bv_xor (s t : BitVec 64) : bitsV .u64 (fun p q => p ^^^ q) (s.toNat : Int) (t.toNat : Int) = ((s ^^^ t).toNat : Int) := bv2 _ s t
theorem bv_less (s t : BitVec 64) : bitsV .u64 (fun p q => p &&& ~~~q) (s.toNat : Int) (t.toNat : Int) = ((s &&& ~~~t).toNat : Int) := bv2 _ s t

theorem f73 (s t : BitVec 64) (hk : K (sv (s &&& ~~~t)) w) : callX Tryd.prog 73 [sv s, sv t] w K := by
  refine c73 _ _ _ _ ?_
  unfold s73 sv
  (repeat refine Stp.h ?_)
  rw [bv_less]
  exact hk

theorem f48 (s t : BitVec 64) (hk : K (sv (s &&& t)) w) : callX Tryd.prog 48 [sv s, sv t] w K := by
  refine c48 _ _ _ _ ?_
  unfold s48 sv
  (repeat refine Stp.h ?_)
  rw [bv_and]
  exact hk

def bitS (n : Int) : BitVec 64 := if 0 ≤ n ∧ n < 64 then 1#64 <<< n.toNat else 0#64
def firstS (n : Int) : BitVec 64 := if n < 1 then 0#64 else if 64 ≤ n then BitVec.allOnes 64 else (1#64 <<< n.toNat) - 1#64

theorem shl1 (n : Nat) (h : n < 64) : IntKind.u64.wrap (1 * 2 ^ min n 64) = (((1#64 <<< n : BitVec 64)).toNat : Int) := by
  rw [show min n 64 = n by omega, IntKind.wrap_u64, BitVec.toNat_shiftLeft, Nat.shiftLeft_eq]
  have h1 : (2 : Int) ^ n = ((2 ^ n : Nat) : Int) := by simp
  rw [h1]
  simp only [BitVec.toNat_ofNat]
  omega

theorem f145 (n : Int) (hk : K (sv (bitS n)) w) : callX Tryd.prog 145 [.int .i64 n] w K := by
  refine c145 _ _ _ ?_
  unfold s145
  refine joinX_i ?_
  (repeat refine Stp.h ?_)
  refine brX_d (fun h0 => ?_) (fun h0 => ?_)
  · (repeat refine Stp.h ?_)
    simpa [bitS, sv, show ¬ 0 ≤ n by omega] using hk
  · (repeat refine Stp.h ?_)
    refine brX_d (fun h1 => ?_) (fun h1 => ?_)
    · simpa [bitS, sv, show ¬ n < 64 by omega] using hk
    · refine shlX_i (by omega) ?_
      rw [show IntKind.bits .u64 = 64 from rfl, shl1 _ (by omega)]
      simpa [bitS, sv, show 0 ≤ n by omega, show n < 64 by omega] using hk

theorem f79 (s : BitVec 64) (n : Int) (hk : K (sv (s ||| bitS n)) w) : callX Tryd.prog 79 [sv s, .int .i64 n] w K := by
  refine c79 _ _ _ _ ?_
  unfold s79
  refine f145 n ?_
  unfold sv
  (repeat refine Stp.h ?_)
  rw [bv_or]
  exact hk

theorem f143 (s : BitVec 64) (n : Int) (hk : K (sv (s &&& ~~~ bitS n)) w) : callX Tryd.prog 143 [sv s, .int .i64 n] w K := by
  refine c143 _ _ _ _ ?_
  unfold s143
  refine f145 n ?_
  unfold sv
  (repeat refine Stp.h ?_)
  rw [bv_less]
  exact hk

theorem toNat_eq (x : BitVec 64) : (((x.toNat : Nat) : Int) = 0) = (x = 0#64) := by
  apply propext
  constructor
  · intro h; apply BitVec.eq_of_toNat_eq; simpa using h
  · intro h; subst h; simp
theorem toNat_ne (x : BitVec 64) : (((x.toNat : Nat) : Int) ≠ 0) = (x ≠ 0#64) := by simp only [ne_eq, toNat_eq]

theorem f109 (s : BitVec 64) (n : Int) (hk : K (.bool (decide (s &&& bitS n ≠ 0#64))) w) : callX Tryd.prog 109 [sv s, .int .i64 n] w K := by
  refine c109 _ _ _ _ ?_
  unfold s109
  refine f145 n ?_
  unfold sv
  (repeat refine Stp.h ?_)
  rw [bv_and]
  simp only [toNat_ne]
  exact hk

theorem f137 (n : Int) (hk : K (sv (firstS n)) w) : callX Tryd.prog 137 [.int .i64 n] w K := by
  refine c137 _ _ _ ?_
  unfold s137
  (repeat refine Stp.h ?_)
  refine brX_d (fun h0 => ?_) (fun h0 => ?_)
  · simpa [firstS, sv, h0] using hk
  · (repeat refine Stp.h ?_)
    refine brX_d (fun h1 => ?_) (fun h1 => ?_)
    · simpa [firstS, sv, h0, h1] using hk
    · refine shlX_i (by omega) ?_
      rw [show IntKind.bits .u64 = 64 from rfl, shl1 _ (by omega)]
      (repeat refine Stp.h ?_)
      have hp : 0 < (1#64 <<< n.toNat : BitVec 64).toNat := by
        rw [BitVec.toNat_shiftLeft, Nat.shiftLeft_eq]
        have : 2 ^ n.toNat < 2 ^ 64 := Nat.pow_lt_pow_right (by omega) (by omega)
        have h2 : 0 < 2 ^ n.toNat := Nat.two_pow_pos _
        simp only [BitVec.toNat_ofNat]
        omega
      have hlt := (1#64 <<< n.toNat : BitVec 64).isLt
      rw [wu64 (by omega)]
      have e : (((1#64 <<< n.toNat : BitVec 64).toNat : Int) - 1) = (((1#64 <<< n.toNat : BitVec 64) - 1#64).toNat : Int) := by
        rw [BitVec.toNat_sub]
        simp only [BitVec.toNat_ofNat]
        omega
      rw [e]
      simpa [firstS, sv, h0, h1] using hk

/-! ### the least one -/
def TabW (w : World) : Prop := ∀ j, j < 64 → w.cell? ⟨1, j, none⟩ = some (.int .u8 ((Lib.deBruijn64tab.getD j 0 : Nat) : Int))
theorem TabW.ext {w w' : World} (h : TabW w) (x : Ext w w') : TabW w' := fun j hj => by
  have h1 := h j hj
  unfold World.cell? at h1 ⊢
  have hlt : 1 < w.heap.size := by
    apply Nat.lt_of_not_le
    intro hle
    have : w.heap[1]? = none := Array.getElem?_eq_none hle
    simp [this] at h1
  simp only [x.old 1 hlt]
  exact h1
theorem TabW.st {M : List Nat} {w0 w : World} {l : List Item} (h : TabW w0) (S : St M w0 w l) (hM : 1 ∉ M) : TabW w := fun j hj => by
  have h1 := h j hj
  unfold World.cell? at h1 ⊢
  have hlt : 1 < w0.heap.size := by
    apply Nat.lt_of_not_le
    intro hle
    have : w0.heap[1]? = none := Array.getElem?_eq_none hle
    simp [this] at h1
  simp only [S.old 1 hlt hM]
  exact h1

def lowS (s : BitVec 64) : Int := if s = 0#64 then -1 else ((Lib.ctz 64 s.toNat : Nat) : Int)

theorem f187 (s : BitVec 64) (h0 : s ≠ 0#64) (hT : TabW w) (hk : K (.int .i64 (Lib.ctz 64 s.toNat : Nat)) w) : callX Tryd.prog 187 [sv s] w K := by
  refine c187 _ _ _ ?_
  unfold s187 sv
  have hn : ¬ ((s.toNat : Int) = 0) := by
    intro h; apply h0; apply BitVec.eq_of_toNat_eq; simpa using h
  have hn' : s.toNat ≠ 0 := by omega
  (repeat refine Stp.h ?_)
  refine brX_d (fun h => absurd h hn) (fun h => ?_)
  (repeat refine Stp.h ?_)
  obtain ⟨hlow, hkk⟩ := Lib.lowest_bit 64 s.toNat hn' s.isLt
  obtain ⟨hi, htab⟩ := Lib.deBruijn64_at _ hkk
  have hneg : IntKind.u64.wrap (0 - (s.toNat : Int)) = (((-s).toNat : Nat) : Int) := by
    rw [IntKind.wrap_u64, BitVec.toNat_neg]
    have := s.isLt
    omega
  rw [hneg, bv_and]
  have hl : (s &&& -s).toNat = 2 ^ Lib.ctz 64 s.toNat := by
    rw [BitVec.toNat_and, BitVec.toNat_neg, ← hlow]
    have := s.isLt
    rw [Nat.mod_eq_of_lt (by omega)]
  rw [hl]
  have hm : IntKind.u64.wrap ((((2 ^ Lib.ctz 64 s.toNat : Nat)) : Int) * 285870213051353865) = ((2 ^ Lib.ctz 64 s.toNat * 285870213051353865 % 18446744073709551616 : Nat) : Int) := by
    rw [IntKind.wrap_u64]; omega
  rw [hm]
  generalize hq : 2 ^ Lib.ctz 64 s.toNat * 285870213051353865 % 18446744073709551616 = q at hi htab ⊢
  refine shrX_i (by omega) ?_
  have hs : ((q : Nat) : Int).fdiv (2 ^ min (58 : Int).toNat (IntKind.bits .u64)) = ((q / 288230376151711744 : Nat) : Int) := by
    show ((q : Nat) : Int).fdiv 288230376151711744 = _
    rw [Int.fdiv_eq_ediv_of_nonneg _ (by omega)]
    omega
  rw [hs]
  refine ⟨by omega, by omega, ?_⟩
  dsimp only
  have hc := hT (q / 288230376151711744) hi
  rw [htab] at hc
  refine ⟨.int .u8 ((Lib.ctz 64 s.toNat : Nat) : Int), ?_, ?_⟩
  · rw [add_none, show 0 + ((q / 288230376151711744 : Nat) : Int).toNat * 1 = q / 288230376151711744 by omega]; exact hc
  · (repeat refine Stp.h ?_)
    rw [wi64 (by omega)]
    exact hk

theorem f172 (s : BitVec 64) (hT : TabW w) (hk : K (.int .i64 (lowS s)) w) : callX Tryd.prog 172 [sv s] w K := by
  refine c172 _ _ _ ?_
  unfold s172 sv
  (repeat refine Stp.h ?_)
  simp only [toNat_eq]
  refine brX_d (fun h0 => ?_) (fun h0 => ?_)
  · simpa [lowS, h0] using hk
  · refine f187 s h0 hT ?_
    simpa [lowS, h0] using hk

end Go.Proofs.YtgnmelnohclpgaaDoor


