/- The disk: a fall: what the function answers. -/
import Derived.Test.YtgnmelnohclpgaaDoorCpE
set_option linter.unusedVariables false
set_option linter.unusedSimpArgs false
namespace Go.Proofs.YtgnmelnohclpgaaDoor
open Go Go.RowKit

/-! ### The plain law -/
def clip (k : Dk) (q : Nat → Int) (i : Nat) : Nat := k.s i + (min (max (q i) 0) (((k.l i).length : Int) - (k.s i : Nat))).toNat
def fall1 (k : Dk) (q : Nat → Int) (i : Nat) : Dk := { k with l := upd k.l i ((k.l i).take (clip k q i)), s := upd k.s i ((k.l i).take (clip k q i)).length }
def fallN (k : Dk) (q : Nat → Int) : Nat → Dk
  | 0 => k
  | n + 1 => fall1 (fallN k q n) q n
def Dk.fall (k : Dk) (q : Nat → Int) : Dk := { fallN k q 4 with left := -1, down := false }
theorem clip_le {k : Dk} {q : Nat → Int} {i : Nat} (h : k.s i ≤ (k.l i).length) : clip k q i ≤ (k.l i).length := by unfold clip; omega
theorem fall1_ok {k : Dk} (h : k.ok) (q : Nat → Int) (i : Nat) : (fall1 k q i).ok := by
  obtain ⟨h1, h2, h3⟩ := h
  refine ⟨h1, h2, fun j hj => ?_⟩
  have := h3 j hj
  by_cases e : j = i
  · subst e
    simp only [fall1, upd_same, List.length_take]
    omega
  · simp only [fall1, upd_ne _ _ e]
    exact this
theorem fallN_ok {k : Dk} (h : k.ok) (q : Nat → Int) : ∀ n, (fallN k q n).ok
  | 0 => h
  | n + 1 => fall1_ok (fallN_ok h q n) q n
theorem fall_ok {k : Dk} (h : k.ok) (q : Nat → Int) : (k.fall q).ok := ⟨by show (-1 : Int) ≤ -1; omega, by show (-1 : Int) < 2 ^ 63; omega, (fallN_ok h q 4).2.2⟩
theorem fallN_other (k : Dk) (q : Nat → Int) (n : Nat) : ∀ m, m ≤ n → (fallN k q m).l n = k.l n ∧ (fallN k q m).s n = k.s n
  | 0, _ => ⟨rfl, rfl⟩
  | m + 1, h => by
    have ih := fallN_other k q n m (by omega)
    simp only [fallN, fall1, upd_ne _ _ (show n ≠ m by omega)]
    exact ih
theorem fallN_at (k : Dk) (q : Nat → Int) (n : Nat) : ∀ m, n < m → (fallN k q m).l n = (k.l n).take (clip k q n) ∧ (fallN k q m).s n = ((k.l n).take (clip k q n)).length
  | m + 1, h => by
    by_cases e : n = m
    · subst e
      have ho := fallN_other k q n n (Nat.le_refl _)
      have hc : clip (fallN k q n) q n = clip k q n := by unfold clip; rw [ho.1, ho.2]
      simp only [fallN, fall1, upd_same, hc, ho.1]
      exact ⟨trivial, trivial⟩
    · have ih := fallN_at k q n m (by omega)
      simp only [fallN, fall1, upd_ne _ _ e]
      exact ih
theorem fall_l (k : Dk) (q : Nat → Int) {n : Nat} (h : n < 4) : (k.fall q).l n = (k.l n).take (clip k q n) ∧ (k.fall q).s n = ((k.l n).take (clip k q n)).length := fallN_at k q n 4 h

section
variable {M : List Nat} {w0 w : World} {L L1 R : List Item} {v u x tl : Value} {l m t : List UInt8} {K : Cont} {b d p c : Nat} {k : Dk}

/-- b[:n] of bytes of one's own -/
theorem St.bytCut {K : Value → Prop} {n : Nat} (S : St M w0 w (byt v l :: L)) (h : n ≤ l.length) (hk : ∀ v', St M w0 w (byt v' (l.take n) :: L) → K v') : sliceX 1 v none (some (.int .i64 (n : Nat))) none K := by
  obtain ⟨F, O, h1, h2⟩ := S.has
  cases h1 with
  | @cons _ _ fp o F2 O2 k1 k2 k3 k4 =>
    obtain ⟨rfl, hb⟩ := k1
    rcases hb with ⟨rfl, rfl, rfl⟩ | ⟨b, r, rfl, rfl, hb⟩
    · obtain rfl : n = 0 := by simpa using h
      exact ⟨0, 0, 0, rfl, rfl, rfl, by omega, by omega, by omega, by simp, by simpa using hk (.slice none 0 0) S⟩
    · refine ⟨0, n, l.length + r.length, rfl, by simp [natOf], rfl, by omega, by omega, by omega, by simp, ?_⟩
      have e : (if l.length + r.length = 0 then (some ⟨b, 0, none⟩ : Option Addr) else (some ⟨b, 0, none⟩ : Option Addr).map (·.add (0 * 1))) = some ⟨b, 0, none⟩ := by
        split
        · rfl
        · simp [Addr.add]
      rw [e]
      refine hk _ ⟨S.size, S.old, S.same, _, _, .cons (I := byt _ (l.take n)) (fp := [b]) (o := [b]) ⟨rfl, .inr ⟨b, bytesCells (l.drop n) ++ r, ?_, rfl, ?_⟩⟩ k2 k3 k4, h2⟩
      · simp [bytesCells_len]; omega
      · rw [hb, ← List.append_assoc, ← show bytesCells l = bytesCells (l.take n) ++ bytesCells (l.drop n) by rw [bytesCells_map, bytesCells_map, bytesCells_map, ← List.map_append, List.take_append_drop]]

theorem ldfH {v : Nat → Value} {i o : Nat} {K : Value → Prop} (hi : i < 4) (ho : o = 1 + i * 2) (hk : K (v i)) : load1H (Has (blk d (.cells (dcells v k).toArray 186 (0, 0)) :: L)) (.pointer (some ⟨d, o, none⟩)) K := by
  subst ho
  exact ldH inferInstance (dcells_l v k hi) hk
theorem ldsH {v : Nat → Value} {i o : Nat} {K : Value → Prop} (hi : i < 4) (ho : o = 1 + i * 2 + 1) (hk : K (.int .i64 (k.s i : Nat))) : load1H (Has (blk d (.cells (dcells v k).toArray 186 (0, 0)) :: L)) (.pointer (some ⟨d, o, none⟩)) K := by
  subst ho
  exact ldH inferInstance (dcells_s v k hi) hk
def four4 (q0 q1 q2 q3 : Int) (i : Nat) : Int := match i with
  | 0 => q0
  | 1 => q1
  | 2 => q2
  | _ => q3
theorem f66 {q0 q1 q2 q3 : Int} [hp : Pk (dsk d) k L R] (S : St M w0 w L) (hk : ∀ w', St M w0 w' (dsk d (k.fall (four4 q0 q1 q2 q3)) :: R) → K (.tuple #[]) w') : callX Tryd.prog 66 [.pointer (some ⟨d, 0, none⟩), .agg #[.int .i64 q0, .int .i64 q1, .int .i64 q2, .int .i64 q3]] w K := by
  obtain ⟨v, ho, S1⟩ := S.dskOpen (hp := hp)
  clear S
  have S := S1
  clear S1
  refine c66 _ _ _ _ ?_
  unfold s66
  show boxX 103 (.agg [Value.int .i64 q0, .int .i64 q1, .int .i64 q2, .int .i64 q3].toArray) w _
  (refine StpA.h ?_; clear S; intro b1 w1 S)
  refine f124 (v := v) (k := k) S ?_
  (repeat refine Stp.h ?_)
  refine ⟨fun t W => ∃ (i : Nat) (v : Nat → Value), t = .int .i64 i ∧ i ≤ 4 ∧ St M w0 W (blk d (.cells (dcells v (fallN k (four4 q0 q1 q2 q3) i)).toArray 186 (0, 0)) :: (dparts v (fallN k (four4 q0 q1 q2 q3) i) ++ (blk b1 (.cells [.int .i64 q0, .int .i64 q1, .int .i64 q2, .int .i64 q3].toArray 103 (0, 0)) :: R))),
    fun t W => match t with | .int _ i => 4 - i.toNat | _ => 0, ⟨0, v, rfl, by omega, ?_⟩, ?_⟩
  · refine S.perm ((List.Perm.swap _ _ _).trans (List.Perm.cons _ ?_))
    exact List.perm_middle.symm
  · clear S
    rintro t W ⟨i, v, rfl, hi, S⟩
    have hok := fallN_ok ho (four4 q0 q1 q2 q3) i
    generalize hkk : fallN k (four4 q0 q1 q2 q3) i = kk at S hok
    (repeat refine Stp.h ?_)
    refine brX_d (fun hlt => ?_) (fun hlt => ?_)
    · have hn : i < 4 := by omega
      have hkn := hok.2.2 i hn
      (repeat refine Stp.h ?_)
      refine ⟨by omega, by omega, ?_⟩
      rw [Int.toNat_natCast, add_none]
      replace S := S.fileOpen (i := i) hn
      (refine S.drew ?_; clear S; intro w2 S)
      refine ⟨Has _, S.hs, ?_⟩
      refine ⟨by omega, by omega, ?_⟩
      rw [Int.toNat_natCast, add_none]
      (repeat refine Stp.h ?_)
      have hq : [Value.int .i64 q0, .int .i64 q1, .int .i64 q2, .int .i64 q3][0 + i * 1]? = some (.int .i64 (four4 q0 q1 q2 q3 i)) := by rcases four hn with rfl | rfl | rfl | rfl <;> rfl
      refine ldH (b := b1) (c := [Value.int .i64 q0, .int .i64 q1, .int .i64 q2, .int .i64 q3]) (t := 103) (fz := (0, 0)) inferInstance hq ?_
      (repeat refine Stp.h ?_)
      refine ldfH hn rfl ?_
      refine (S.hs.byt (v := v i) (l := kk.l i) inferInstance).len ?_
      refine ldsH hn rfl ?_
      (repeat refine Stp.h ?_)
      rw [wi64 (n := ((kk.l i).length : Nat) - (kk.s i : Nat)) (by omega)]
      have hz : (if ((kk.l i).length : Int) - (kk.s i : Nat) < (if (0 : Int) > four4 q0 q1 q2 q3 i then 0 else four4 q0 q1 q2 q3 i) then ((kk.l i).length : Int) - (kk.s i : Nat) else (if (0 : Int) > four4 q0 q1 q2 q3 i then 0 else four4 q0 q1 q2 q3 i)) = ((clip kk (four4 q0 q1 q2 q3) i - kk.s i : Nat) : Int) := by
        unfold clip
        split <;> split <;> omega
      rw [hz]
      have hcl := clip_le (q := four4 q0 q1 q2 q3) hkn.2
      have hcs : kk.s i ≤ clip kk (four4 q0 q1 q2 q3) i := by unfold clip; omega
      (refine S.drew ?_; clear S; intro w3 S)
      refine ⟨Has _, S.hs, ?_⟩
      (repeat refine Stp.h ?_)
      refine ldfH hn rfl ?_
      refine ldsH hn rfl ?_
      (repeat refine Stp.h ?_)
      rw [wi64 (n := ((kk.s i : Nat) : Int) + ((clip kk (four4 q0 q1 q2 q3) i - kk.s i : Nat) : Int)) (by omega), show ((kk.s i : Nat) : Int) + ((clip kk (four4 q0 q1 q2 q3) i - kk.s i : Nat) : Int) = ((clip kk (four4 q0 q1 q2 q3) i : Nat) : Int) by omega]
      refine St.bytCut (v := v i) (l := kk.l i) (S.perm (.swap _ _ _)) hcl fun x S1 => ?_
      clear S
      have S := S1.perm (.swap _ _ _)
      clear S1
      have hx := (S.hs.byt (v := x) (l := (kk.l i).take (clip kk (four4 q0 q1 q2 q3) i)) inferInstance).one
      (repeat refine Stp.h ?_)
      refine stf hn rfl hx S fun w4 S4 => ?_
      clear S
      refine f125 (v := upd v i x) (i := i) (l := (kk.l i).take (clip kk (four4 q0 q1 q2 q3) i)) (hm := ?_) rfl hn S4 fun w5 S5 => ?_
      · rw [upd_same]; infer_instance
      clear S4
      have S := S5
      clear S5
      (repeat refine Stp.h ?_)
      rw [wi64 (n := ((i : Nat) : Int) + 1) (by omega)]
      refine ⟨⟨i + 1, upd v i x, by simp, by omega, ?_⟩, by show _ < _; simp; omega⟩
      have e1 : fallN k (four4 q0 q1 q2 q3) (i + 1) = fall1 kk (four4 q0 q1 q2 q3) i := by rw [← hkk]; rfl
      rw [e1]
      exact S.fileShut (v := v) (k := kk) (k' := fall1 kk (four4 q0 q1 q2 q3) i) (I := blk d (.cells (dcells (upd v i x) (fall1 kk (four4 q0 q1 q2 q3) i)).toArray 186 (0, 0))) hn rfl
    · obtain rfl : i = 4 := by omega
      unfold dcells at S
      (repeat refine Stp.h ?_)
      (refine StpW.h ?_; clear S; intro w2 S)
      (repeat refine Stp.h ?_)
      (refine StpW.h ?_; clear S; intro w3 S)
      refine hk _ ?_
      have S1 : St M w0 w3 (blk d (.cells (dcells v (k.fall (four4 q0 q1 q2 q3))).toArray 186 (0, 0)) :: (dparts v (k.fall (four4 q0 q1 q2 q3)) ++ (blk b1 (.cells [.int .i64 q0, .int .i64 q1, .int .i64 q2, .int .i64 q3].toArray 103 (0, 0)) :: R))) := by
        unfold Dk.fall
        rw [hkk]
        exact S
      exact (S1.dskShut (fall_ok ho _)).sub inferInstance
end
end Go.Proofs.YtgnmelnohclpgaaDoor
