/- The fleet: swaps, what is told. -/
import Derived.Test.YtgnmelnohclpgaaDoorFlD
set_option linter.unusedVariables false
set_option linter.unusedSimpArgs false
namespace Go.Proofs.YtgnmelnohclpgaaDoor
open Go Go.RowKit

variable {w : World} {K : Cont}

theorem FlB.ext {w w' : World} {b : Nat} {sl : Value} {sp : BitVec 64} {r : Ru} {k : Int} (h : FlB w b sl sp r k) (x : Ext w w') : FlB w' b sl sp r k := x.get h

def lameA (l : List Nd) (sp : BitVec 64) : Int := lowS ((firstS l.length &&& ~~~sp) &&& ~~~inS l 0)
def lameS (l : List Nd) (sp : BitVec 64) : Int := lowS (sp &&& inS l 0)
def lame (l : List Nd) (sp : BitVec 64) : Bool := decide (0 ≤ lameA l sp) && decide (0 ≤ lameS l sp)

theorem f142 {b c : Nat} {a : Option Addr} {sp : BitVec 64} {r : Ru} {k : Int} {l : List Nd} (hT : TabW w) (hb : FlB w b (.slice a l.length c) sp r k) (hn : NodesAt w a l) (hlen : l.length < 2 ^ 62)
    (hk : ∀ w', Ext w w' → K (.tuple #[.int .i64 (lameA l sp), .int .i64 (lameS l sp), .bool (lame l sp)]) w') : callX Tryd.prog 142 [ptr b] w K := by
  refine c142 _ _ _ ?_
  unfold s142
  have S := (St.begin w).know hb
  refine f21 hb hn hlen fun w1 hx => ?_
  replace S := S.ext hx
  (refine S.drew ?_; clear S; intro w2 S)
  refine ⟨Has _, S.hs, ?_⟩
  (repeat refine Stp.h ?_)
  refine f24 (hb.ext S.toExt) ?_
  refine ⟨S.hs, ?_⟩
  refine f73 _ _ ?_
  refine ⟨S.hs, ?_⟩
  refine f172 _ (hT.st S (by simp)) ?_
  refine ⟨S.hs, ?_⟩
  refine f48 _ _ ?_
  refine f172 _ (hT.st S (by simp)) ?_
  (repeat refine Stp.h ?_)
  refine brX_d (fun h1 => ?_) (fun h1 => ?_)
  · (repeat refine Stp.h ?_)
    have h1' : 0 ≤ lameA l sp := h1
    have hl : lame l sp = decide (0 ≤ lameS l sp) := by simp [lame, h1']
    have h := hk _ S.toExt
    rw [hl] at h
    exact h
  · have h1' : ¬ 0 ≤ lameA l sp := h1
    have hl : lame l sp = false := by simp [lame, h1']
    have h := hk _ S.toExt
    rw [hl] at h
    exact h

/-- one swap -/
def swS (l : List Nd) (sp : BitVec 64) : BitVec 64 := (sp &&& ~~~bitS (lameS l sp)) ||| bitS (lameA l sp)
inductive Swp (l : List Nd) : BitVec 64 → Int → BitVec 64 → Int → Prop where
  | refl (sp : BitVec 64) (k : Int) : Swp l sp k sp k
  | step {sp sp' : BitVec 64} {k k' : Int} : lame l sp = true → Swp l (swS l sp) (IntKind.i64.wrap (k + 1)) sp' k' → Swp l sp k sp' k'
theorem Swp.snoc {l : List Nd} {sp sp' : BitVec 64} {k k' : Int} (h : Swp l sp k sp' k') (hl : lame l sp' = true) : Swp l sp k (swS l sp') (IntKind.i64.wrap (k' + 1)) := by
  induction h with
  | refl sp k => exact .step hl (.refl _ _)
  | step h1 h2 ih => exact .step h1 (ih hl)

/-- how many active nodes are not up, as a number -/
def meas (l : List Nd) (sp : BitVec 64) : Nat := ((firstS l.length &&& ~~~sp) &&& ~~~inS l 0).toNat
theorem lowS_mem {s : BitVec 64} (h : 0 ≤ lowS s) : lowS s < 64 ∧ s &&& bitS (lowS s) = bitS (lowS s) ∧ bitS (lowS s) ≠ 0#64 := by
  have hs : s ≠ 0#64 := by
    intro e
    simp [lowS, e] at h
  have hn : s.toNat ≠ 0 := fun e => hs (BitVec.eq_of_toNat_eq (by simpa using e))
  obtain ⟨hlow, hc⟩ := Lib.lowest_bit 64 s.toNat hn s.isLt
  have hl : lowS s = ((Lib.ctz 64 s.toNat : Nat) : Int) := by simp [lowS, hs]
  have hb : (bitS (lowS s)).toNat = 2 ^ Lib.ctz 64 s.toNat := by
    rw [hl]
    have h1 : (0 : Int) ≤ ((Lib.ctz 64 s.toNat : Nat) : Int) ∧ ((Lib.ctz 64 s.toNat : Nat) : Int) < 64 := by omega
    simp only [bitS, h1, and_self, if_true, Int.toNat_natCast]
    rw [BitVec.toNat_shiftLeft, Nat.shiftLeft_eq]
    have : 2 ^ Lib.ctz 64 s.toNat < 2 ^ 64 := Nat.pow_lt_pow_right (by omega) hc
    simp only [BitVec.toNat_ofNat]
    omega
  refine ⟨by omega, ?_, ?_⟩
  · apply BitVec.eq_of_toNat_eq
    rw [BitVec.toNat_and, hb, ← hlow, ← Nat.and_assoc, Nat.and_self]
  · intro e
    rw [e] at hb
    have : 0 < 2 ^ Lib.ctz 64 s.toNat := Nat.two_pow_pos _
    simp at hb
    omega
theorem meas_lt {l : List Nd} {sp : BitVec 64} (h : lame l sp = true) : meas l (swS l sp) < meas l sp := by
  simp only [lame, Bool.and_eq_true, decide_eq_true_eq] at h
  obtain ⟨_, ha, ha0⟩ := lowS_mem h.1
  obtain ⟨_, hs, _⟩ := lowS_mem h.2
  unfold meas swS lameA lameS
  generalize firstS (l.length : Int) = F at *
  generalize inS l 0 = u at *
  generalize bitS (lowS ((F &&& ~~~sp) &&& ~~~u)) = p at *
  generalize bitS (lowS (sp &&& u)) = q at *
  have e : (F &&& ~~~((sp &&& ~~~q) ||| p)) &&& ~~~u = ((F &&& ~~~sp) &&& ~~~u) &&& ~~~p := by
    apply BitVec.eq_of_getLsbD_eq
    intro i hi
    have h1 := congrArg (fun x => x.getLsbD i) hs
    simp only [BitVec.getLsbD_and, BitVec.getLsbD_or, BitVec.getLsbD_not, hi, decide_true, Bool.true_and] at h1 ⊢
    revert h1
    cases F.getLsbD i <;> cases sp.getLsbD i <;> cases u.getLsbD i <;> cases p.getLsbD i <;> cases q.getLsbD i <;> simp
  rw [e]
  generalize (F &&& ~~~sp) &&& ~~~u = A at *
  have hle : (A &&& ~~~p).toNat ≤ A.toNat := by rw [BitVec.toNat_and]; exact Nat.and_le_left
  rcases Nat.lt_or_ge (A &&& ~~~p).toNat A.toNat with h1 | h1
  · exact h1
  · exfalso
    have h2 : A &&& ~~~p = A := BitVec.eq_of_toNat_eq (by omega)
    apply ha0
    rw [← ha, ← h2, BitVec.and_assoc]
    simp

def measV (l : List Nd) : Value → Nat
  | .int _ n => meas l (BitVec.ofInt 64 n)
  | _ => 0
def measW (l : List Nd) (b : Nat) (W : World) : Nat := measV l ((W.cell? ⟨b, 1, none⟩).getD undef)
theorem measW_of {l : List Nd} {b : Nat} {W : World} {sl : Value} {sp : BitVec 64} {r : Ru} {k : Int} (h : FlB W b sl sp r k) : measW l b W = meas l sp := by
  unfold measW
  rw [cell_of h]
  simp [flC, sv, measV]

theorem f76 {b c : Nat} {a : Option Addr} {sp : BitVec 64} {r : Ru} {k : Int} {l : List Nd} (hT : TabW w) (hb1 : b ≠ 1) (hb : FlB w b (.slice a l.length c) sp r k) (hn : NodesAt w a l) (hnb : ∀ p, a = some p → p.block ≠ b) (hlen : l.length < 2 ^ 62)
    (hk : ∀ w' sp' k', St [b] w w' [blk b (.cells (flC (.slice a l.length c) sp' r k').toArray 31 (0, 0))] → Swp l sp k sp' k' → lame l sp' = false → K (.tuple #[]) w') : callX Tryd.prog 76 [ptr b] w K := by
  refine c76 _ _ _ ?_
  unfold s76
  refine ⟨fun W => ∃ sp' k', St [b] w W [blk b (.cells (flC (.slice a l.length c) sp' r k').toArray 31 (0, 0))] ∧ Swp l sp k sp' k', fun W => measW l b W, ⟨sp, k, (St.beginM [b] w).knowM hb (by simp) notin_nil, .refl _ _⟩, ?_⟩
  rintro W ⟨sp', k', S, hsw⟩
  have hb' : FlB W b (.slice a l.length c) sp' r k' := S.get (by simp)
  have hn' : NodesAt W a l := by
    unfold NodesAt at hn ⊢
    split at hn
    · exact hn
    · obtain ⟨nb, rr, rfl, h2⟩ := hn
      refine ⟨nb, rr, rfl, (S.old nb (Array.getElem?_eq_some_iff.1 h2).1 ?_).trans h2⟩
      have := hnb _ rfl
      simpa using this
  refine f142 (hT.st S (by simpa using fun e => hb1 e.symm)) hb' hn' hlen fun w2 hx => ?_
  replace S := S.ext hx
  refine extractX_i (vs := [_, _, _]) rfl ?_
  refine extractX_i (vs := [_, _, _]) rfl ?_
  refine extractX_i (vs := [_, _, _]) rfl ?_
  (repeat refine Stp.h ?_)
  cases hl : lame l sp' with
  | false =>
    refine brX_nf ?_
    exact hk _ _ _ S hsw hl
  | true =>
    refine brX_nt ?_
    (repeat refine Stp.h ?_)
    refine f143 _ _ ?_
    refine f79 _ _ ?_
    (repeat refine Stp.h ?_)
    unfold sv
    replace S : St [b] w w2 [blk b (.cells [.slice a l.length c, sv sp', .int .i64 r.s, .int .i64 r.d, .int .i64 r.p, .int .i64 k'].toArray 31 (0, 0))] := S
    (refine StpW.h ?_; clear S; intro w5 S)
    (repeat refine Stp.h ?_)
    (refine StpW.h ?_; clear S; intro w6 S)
    have hst : St [b] w w6 [blk b (.cells (flC (.slice a l.length c) (swS l sp') r (IntKind.i64.wrap (k' + 1))).toArray 31 (0, 0))] := S
    refine ⟨⟨_, _, hst, hsw.snoc hl⟩, ?_⟩
    show measW l b w6 < measW l b W
    have hb6 : FlB w6 b (.slice a l.length c) (swS l sp') r (IntKind.i64.wrap (k' + 1)) := hst.get (by simp)
    rw [measW_of hb6, measW_of hb']
    exact meas_lt hl

end Go.Proofs.YtgnmelnohclpgaaDoor
