/- The fleet: what is told of a node. -/
import Derived.Test.YtgnmelnohclpgaaDoorFlE
set_option linter.unusedVariables false
set_option linter.unusedSimpArgs false
namespace Go.Proofs.YtgnmelnohclpgaaDoor
open Go Go.RowKit

variable {w : World} {K : Cont}

theorem over_nodes : ∀ (l : List Nd) (i : Nat) (n : Nd) (r : List Value), i < l.length → over (nodeCells l ++ r) (i * 3) [.int .i64 n.s, .int .i64 n.m, .int .i64 n.b] = nodeCells (l.set i n) ++ r
  | x :: l, 0, n, r, h => by simp [nodeCells_cons, over]
  | x :: l, i + 1, n, r, h => by
    have ih := over_nodes l i n r (by simpa using h)
    simp only [over] at ih ⊢
    rw [nodeCells_cons, show (i + 1) * 3 = i * 3 + 1 + 1 + 1 by omega, List.set_cons_succ, nodeCells_cons]
    simp only [List.cons_append, List.set_cons_succ]
    exact congrArg (fun t => _ :: _ :: _ :: t) ih

/-- a fleet that was made, in its two blocks -/
structure Made (w : World) (b nb c : Nat) (rr : List Value) (l : List Nd) (sp : BitVec 64) (r : Ru) (k : Int) : Prop where
  fl : FlB w b (.slice (some ⟨nb, 0, none⟩) l.length c) sp r k
  row : w.heap[nb]? = some (.cells (nodeCells l ++ rr).toArray 33 (0, 0))
  ne : nb ≠ b
  b1 : b ≠ 1
  nb1 : nb ≠ 1
  pos : 0 < l.length
  len : l.length < 2 ^ 62

theorem f74 {b nb c : Nat} {rr : List Value} {l : List Nd} {sp : BitVec 64} {r : Ru} {k : Int} (m : Made w b nb c rr l sp r k) (i : Int) (hk : K (.int .i64 (if 0 ≤ i ∧ i < l.length then 0 else 13)) w) : callX Tryd.prog 74 [ptr b, .int .i64 i] w K := by
  refine c74 _ _ _ _ ?_
  unfold s74
  refine f81 m.fl ?_
  refine brX_d (fun h => absurd h (by have := m.pos; omega)) (fun _ => ?_)
  refine joinX_i ?_
  (repeat refine Stp.h ?_)
  refine brX_d (fun h0 => ?_) (fun h0 => ?_)
  · (repeat refine Stp.h ?_)
    simpa [show ¬ 0 ≤ i by omega] using hk
  · have S := (St.begin w).know m.fl
    (repeat refine Stp.h ?_)
    refine brX_d (fun h1 => ?_) (fun h1 => ?_)
    · simpa [show ¬ i < l.length by omega] using hk
    · simpa [show 0 ≤ i by omega, show i < l.length by omega] using hk

theorem St.comp {M M' : List Nat} {w0 w1 w2 : World} {l l' : List Item} (S : St M w0 w1 l) (S' : St M' w1 w2 l') (h : ∀ x ∈ M', x ∈ M) : St M w0 w2 [] :=
  ⟨Nat.le_trans S.size S'.size, fun r hr hM => (S'.old r (Nat.lt_of_lt_of_le hr S.size) (fun h' => hM (h r h'))).trans (S.old r hr hM), S.same.trans S'.same, [], [], .nil, by simp⟩

theorem f19 {b nb c : Nat} {rr : List Value} {l : List Nd} {sp : BitVec 64} {r : Ru} {k : Int} (hT : TabW w) (m : Made w b nb c rr l sp r k) (i what : Int)
    (hbad : ¬ (0 ≤ i ∧ i < l.length) → K (.int .i64 13) w) (hbad2 : 0 ≤ i ∧ i < l.length → ¬ (0 ≤ what ∧ what ≤ 4) → K (.int .i64 2) w)
    (hk : ∀ (n : Nd) w' sp' k', l[i.toNat]? = some n → 0 ≤ i ∧ i < l.length → 0 ≤ what ∧ what ≤ 4 → St [b, nb] w w' [] → Made w' b nb c rr (l.set i.toNat (n.next r what)) sp' r k' → Swp (l.set i.toNat (n.next r what)) sp k sp' k' → lame (l.set i.toNat (n.next r what)) sp' = false →
      K (.int .i64 0) w') : callX Tryd.prog 19 [ptr b, .int .i64 i, .int .i64 what] w K := by
  refine c19 _ _ _ _ _ ?_
  unfold s19
  refine f74 m i ?_
  (repeat refine Stp.h ?_)
  by_cases hi : 0 ≤ i ∧ i < l.length
  · rw [if_pos hi]
    refine brX_d (fun h => absurd h (by simp)) (fun _ => ?_)
    refine joinX_i ?_
    (repeat refine Stp.h ?_)
    refine brX_d (fun h0 => ?_) (fun h0 => ?_)
    · (repeat refine Stp.h ?_)
      exact hbad2 hi (by omega)
    · (repeat refine Stp.h ?_)
      refine brX_d (fun h1 => ?_) (fun h1 => ?_)
      · exact hbad2 hi (by omega)
      · obtain ⟨j, rfl⟩ : ∃ j : Nat, i = j := ⟨i.toNat, by omega⟩
        have hj : j < l.length := by omega
        obtain ⟨n, hn⟩ : ∃ n, l[j]? = some n := ⟨_, List.getElem?_eq_getElem hj⟩
        have S := ((St.beginM [b, nb] w).knowM m.fl (by simp) notin_nil).knowM m.row (by simp) (notin_blk m.ne notin_nil)
        (refine S.drew ?_; clear S; intro w3 S)
        refine ⟨Has _, S.hs, ?_⟩
        (repeat refine Stp.h ?_)
        refine ⟨by omega, by omega, ?_⟩
        rw [add_none]
        refine ldNH inferInstance (r := [.int .i64 n.s, .int .i64 n.m, .int .i64 n.b]) (by rw [show 0 + ((j : Nat) : Int).toNat * 3 = j * 3 by omega]; exact nodeCells_at l j n rr hn) rfl ?_
        (repeat refine Stp.h ?_)
        refine f75 n r what fun w4 hx => ?_
        replace S := S.ext hx
        refine ⟨S.hs, ?_⟩
        refine ⟨by omega, by omega, ?_⟩
        rw [add_none, show (n.next r what).val = .agg [.int .i64 (n.next r what).s, .int .i64 (n.next r what).m, .int .i64 (n.next r what).b].toArray from rfl, show 0 + ((j : Nat) : Int).toNat * 3 = j * 3 by omega]
        refine S.stN rfl (by simp [Value.oneCell']) (by rw [List.length_append, nodeCells_len]; omega) fun w5 S => ?_
        rw [over_nodes l j (n.next r what) rr hj] at S
        have hfl : FlB w5 b (.slice (some ⟨nb, 0, none⟩) (l.set j (n.next r what)).length c) sp r k := by
          rw [List.length_set]; exact S.get (by simp)
        refine f76 (hT.st S (by simp; exact ⟨fun e => m.b1 e.symm, fun e => m.nb1 e.symm⟩)) m.b1 hfl ⟨nb, rr, rfl, S.get (by simp)⟩ (by intro p hp; cases hp; exact m.ne) (by rw [List.length_set]; exact m.len) fun w6 sp' k' S2 hsw hl => ?_
        have hrow : w5.heap[nb]? = some (.cells (nodeCells (l.set j (n.next r what)) ++ rr).toArray 33 (0, 0)) := S.get (by simp)
        refine hk n w6 sp' k' hn hi (by omega) (S.comp S2 (by simp)) ⟨S2.get (by simp), (S2.old nb (Array.getElem?_eq_some_iff.1 hrow).1 (by simpa using m.ne)).trans hrow, m.ne, m.b1, m.nb1, ?_, ?_⟩ hsw hl
        · show 0 < (l.set j _).length; rw [List.length_set]; exact m.pos
        · show (l.set j _).length < _; rw [List.length_set]; exact m.len
  · rw [if_neg hi]
    refine brX_d (fun _ => ?_) (fun h => absurd h (by simp))
    exact hbad hi

end Go.Proofs.YtgnmelnohclpgaaDoor
