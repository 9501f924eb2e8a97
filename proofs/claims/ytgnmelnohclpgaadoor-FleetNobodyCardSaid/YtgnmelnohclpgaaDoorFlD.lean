/- The fleet's nodes of a state. -/
import Derived.Test.YtgnmelnohclpgaaDoorFlC
set_option linter.unusedVariables false
set_option linter.unusedSimpArgs false
namespace Go.Proofs.YtgnmelnohclpgaaDoor
open Go Go.RowKit

variable {w : World} {K : Cont}

def nodeCells (l : List Nd) : List Value := l.flatMap fun n => [.int .i64 n.s, .int .i64 n.m, .int .i64 n.b]
theorem nodeCells_cons (n : Nd) (l : List Nd) : nodeCells (n :: l) = .int .i64 n.s :: .int .i64 n.m :: .int .i64 n.b :: nodeCells l := rfl
theorem nodeCells_len (l : List Nd) : (nodeCells l).length = 3 * l.length := by
  induction l with
  | nil => rfl
  | cons n l ih => rw [nodeCells_cons]; simp [ih]; omega
theorem nodeCells_at : ∀ (l : List Nd) (i : Nat) (n : Nd) (r : List Value), l[i]? = some n → ((nodeCells l ++ r).drop (i * 3)).take 3 = [.int .i64 n.s, .int .i64 n.m, .int .i64 n.b]
  | [], i, n, r, h => by simp at h
  | x :: l, 0, n, r, h => by simp at h; subst h; simp [nodeCells_cons]
  | x :: l, i + 1, n, r, h => by
    rw [nodeCells_cons, show (i + 1) * 3 = i * 3 + 3 by omega]
    have := nodeCells_at l i n r (by simpa using h)
    simpa using this

/-- the nodes stand in a slice's row -/
def NodesAt (w : World) (a : Option Addr) (l : List Nd) : Prop := match a with
  | none => l = []
  | some p => ∃ nb r, p = ⟨nb, 0, none⟩ ∧ w.heap[nb]? = some (.cells (nodeCells l ++ r).toArray 33 (0, 0))
theorem NodesAt.ext {w w' : World} {a : Option Addr} {l : List Nd} (h : NodesAt w a l) (x : Ext w w') : NodesAt w' a l := by
  unfold NodesAt at *
  split at h
  · exact h
  · obtain ⟨nb, r, h1, h2⟩ := h; exact ⟨nb, r, h1, x.get h2⟩

/-- a fleet, or nil (no nodes) -/
def Fl (w : World) (v : Value) (l : List Nd) : Prop := (v = .pointer none ∧ l = []) ∨ ∃ b a c sp r k, v = ptr b ∧ FlB w b (.slice a l.length c) sp r k ∧ NodesAt w a l
theorem Fl.ext {w w' : World} {v : Value} {l : List Nd} (h : Fl w v l) (x : Ext w w') : Fl w' v l := by
  rcases h with ⟨rfl, rfl⟩ | ⟨b, a, c, sp, r, k, rfl, h1, h2⟩
  · exact .inl ⟨rfl, rfl⟩
  · exact .inr ⟨b, a, c, sp, r, k, rfl, x.get h1, h2.ext x⟩

theorem f78 (n : Nd) (b : Nat) (st : Int) (fz) (h : w.heap[b]? = some (.cells [.int .i64 st].toArray 3 fz)) (hk : ∀ w', Ext w w' → K (.bool (decide (n.s = st))) w') : callX Tryd.prog 78 [n.val, ptr b] w K := by
  refine c78 _ _ _ _ ?_
  unfold s78
  rw [show n.val = .agg [.int .i64 n.s, .int .i64 n.m, .int .i64 n.b].toArray from rfl]
  have S := (St.begin w).know h
  (refine StpA.h ?_; clear S; intro b1 w1 S)
  (repeat refine Stp.h ?_)
  exact hk _ S.toExt

theorem f144n (y : Value) (b1 b2 : Nat) (h : w.heap[b1]? = some (.cells [.pointer none].toArray 24 (0, 0))) (hk : K (.tuple #[]) w) : callX Tryd.prog 144 [y, ptr b1, ptr b2] w K := by
  refine c144 _ _ _ _ _ ?_
  unfold s144
  have S := (St.begin w).know h
  (repeat refine Stp.h ?_)
  exact hk

/-- what a loop over the nodes of a state hands out -/
theorem f144 (y b1 b2 b3 b c : Nat) (a : Option Addr) (sp : BitVec 64) (r : Ru) (k : Int) (l : List Nd) (st : Int) (J : Nat → World → Prop)
    (hh : ∀ i W, J i W → W.heap[b1]? = some (.cells [ptr b].toArray 24 (0, 0)) ∧ W.heap[b2]? = some (.cells [.func (.func 78) #[] #[ptr b3]].toArray 151 (0, 0)) ∧ W.heap[b3]? = some (.cells [.int .i64 st].toArray 3 (0, 0)) ∧ FlB W b (.slice a l.length c) sp r k ∧ NodesAt W a l)
    (hlen : l.length < 2 ^ 62)
    (hx : ∀ i W W', J i W → Ext W W' → J i W')
    (hy : ∀ i W n (K' : Cont), J i W → l[i]? = some n → n.s = st → (∀ W', J (i + 1) W' → K' (.bool true) W') → yieldX Tryd.prog y [.int .i64 (i : Nat)] W K')
    (hn : ∀ i W n, J i W → l[i]? = some n → ¬ n.s = st → J (i + 1) W)
    (h0 : J 0 w) (hk : ∀ W, J l.length W → K (.tuple #[]) W) : callX Tryd.prog 144 [.func (.yield y) #[] #[], ptr b1, ptr b2] w K := by
  refine c144 _ _ _ _ _ ?_
  unfold s144
  obtain ⟨h1, h2, h3, hb, hnodes⟩ := hh 0 w h0
  have S := (St.begin w).know h1
  (repeat refine Stp.h ?_)
  clear S
  have S := (St.begin w).know hb
  (repeat refine Stp.h ?_)
  clear S
  refine ⟨fun t W => ∃ i : Nat, t = .int .i64 i ∧ i ≤ l.length ∧ J i W, fun t W => match t with | .int _ i => l.length - i.toNat | _ => 0, ⟨0, rfl, by omega, h0⟩, ?_⟩
  rintro t W ⟨i, rfl, hi, hJ⟩
  (repeat refine Stp.h ?_)
  refine brX_d (fun hlt => ?_) (fun hlt => ?_)
  · obtain ⟨g1, g2, g3, gb, gn⟩ := hh i W hJ
    have hlt' : i < l.length := by omega
    obtain ⟨n, hn1⟩ : ∃ n, l[i]? = some n := ⟨_, List.getElem?_eq_getElem hlt'⟩
    have gn0 := gn
    unfold NodesAt at gn
    split at gn
    · subst gn; simp at hlt'
    · obtain ⟨nb, rr, rfl, gnb⟩ := gn
      refine ⟨by omega, by omega, ?_⟩
      rw [add_none]
      have S := (St.begin W).know gnb
      refine ldNO gnb (r := [.int .i64 n.s, .int .i64 n.m, .int .i64 n.b]) (by rw [show 0 + ((i : Nat) : Int).toNat * 3 = i * 3 by omega]; exact nodeCells_at l i n rr hn1) rfl ?_
      (refine StpA.h ?_; clear S; intro b4 w2 S)
      (refine StpW.h ?_; clear S; intro w3 S)
      refine joinX_i ?_
      have J3 : J i w3 := hx i W w3 hJ S.toExt
      obtain ⟨e1, e2, e3, eb, en⟩ := hh i w3 J3
      have S2 := (St.begin w3).know e2
      refine ldO e2 rfl ?_
      (repeat refine Stp.h ?_)
      refine ⟨by kernel_rfl, ?_⟩
      refine f78 n b3 st _ e3 fun w4 hx4 => ?_
      have J4 := hx i w3 w4 J3 hx4
      refine brX_d (fun hs => ?_) (fun hs => ?_)
      · refine ⟨rfl, ?_⟩
        refine hy i w4 n _ J4 hn1 hs fun w5 J5 => ?_
        (repeat refine Stp.h ?_)
        rw [wi64 (by omega)]
        exact ⟨⟨i + 1, by simp, by omega, J5⟩, by show _ < _; simp; omega⟩
      · (repeat refine Stp.h ?_)
        rw [wi64 (by omega)]
        exact ⟨⟨i + 1, by simp, by omega, hn i w4 n J4 hn1 hs⟩, by show _ < _; simp; omega⟩
  · have : i = l.length := by omega
    subst this
    exact hk W hJ

/-- the nodes of a state, from number i on, with some more -/
def inF : List Nd → Int → Nat → BitVec 64 → BitVec 64
  | [], _, _, acc => acc
  | n :: l, st, i, acc => inF l st (i + 1) (if n.s = st then acc ||| bitS i else acc)
def inS (l : List Nd) (st : Int) : BitVec 64 := inF l st 0 0#64
theorem inF_snoc : ∀ (l : List Nd) (n : Nd) (st : Int) (i : Nat) (acc : BitVec 64), inF (l ++ [n]) st i acc = (if n.s = st then inF l st i acc ||| bitS ((i + l.length : Nat) : Int) else inF l st i acc)
  | [], n, st, i, acc => by simp [inF]
  | x :: l, n, st, i, acc => by
    simp only [List.cons_append, inF, List.length_cons]
    rw [inF_snoc l n st (i + 1)]
    rw [show i + 1 + l.length = i + (l.length + 1) by omega]
theorem inS_take {l : List Nd} {i : Nat} {n : Nd} (h : l[i]? = some n) (st : Int) : inS (l.take (i + 1)) st = (if n.s = st then inS (l.take i) st ||| bitS (i : Int) else inS (l.take i) st) := by
  have hlt := (List.getElem?_eq_some_iff.1 h).1
  have e : l.take (i + 1) = l.take i ++ [n] := by
    rw [List.take_add_one, h]; rfl
  unfold inS
  rw [e, inF_snoc]
  simp [Nat.min_eq_left (Nat.le_of_lt hlt)]

theorem f22n (st : Int) (hk : ∀ w', Ext w w' → K (sv 0#64) w') : callX Tryd.prog 22 [.pointer none, .int .i64 st] w K := by
  refine c22 _ _ _ _ ?_
  unfold s22
  have S := St.begin w
  (refine StpA.h ?_; clear S; intro b3 w1 S)
  (refine StpA.h ?_; clear S; intro bs w2 S)
  refine c77 _ _ _ _ ?_
  unfold s77
  (refine StpA.h ?_; clear S; intro b1 w3 S)
  (refine StpA.h ?_; clear S; intro b2 w4 S)
  refine ⟨rfl, by kernel_rfl, ?_⟩
  intro y w5 o o1 o2 hent hy
  replace S := S.entered hent
  refine f144n _ b1 b2 (S.get (by simp)) ?_
  refine ⟨S.get (by simp), fun w6 hst => ?_⟩
  replace S := S.put hst
  (repeat refine Stp.h ?_)
  refine ⟨S.get (by simp), fun w7 hst => ?_⟩
  replace S := S.put hst
  exact hk _ S.toExt

theorem f22 {b c : Nat} {a : Option Addr} {sp : BitVec 64} {r : Ru} {k : Int} {l : List Nd} (hb : FlB w b (.slice a l.length c) sp r k) (hn : NodesAt w a l) (hlen : l.length < 2 ^ 62) (st : Int) (hk : ∀ w', Ext w w' → K (sv (inS l st)) w') : callX Tryd.prog 22 [ptr b, .int .i64 st] w K := by
  refine c22 _ _ _ _ ?_
  unfold s22
  have S := St.begin w
  (refine StpA.h ?_; clear S; intro b3 w1 S)
  (refine StpA.h ?_; clear S; intro bs w2 S)
  refine c77 _ _ _ _ ?_
  unfold s77
  (refine StpA.h ?_; clear S; intro b1 w3 S)
  (refine StpA.h ?_; clear S; intro b2 w4 S)
  refine ⟨rfl, by kernel_rfl, ?_⟩
  intro y w5 o o1 o2 hent hy
  replace S := S.entered hent
  refine f144 y b1 b2 b3 b c a sp r k l st (fun i W => St [] w W [blk y o, blk (y - 1) (.deferred (some [])), blk b2 (.cells [.func (.func 78) #[] #[ptr b3]].toArray 151 (0, 0)), blk b1 (.cells [ptr b].toArray 24 (0, 0)), blk bs (.cells [sv (inS (l.take i) st)].toArray 27 (0, 0)), blk b3 (.cells [.int .i64 st].toArray 3 (0, 0))]) ?_ hlen ?_ ?_ ?_ ?_ ?_
  · intro i W S
    exact ⟨S.get (by simp), S.get (by simp), S.get (by simp), S.toExt.get hb, hn.ext S.toExt⟩
  · intro i W W' S hx
    exact S.ext hx
  · intro i W n K' S hi hs hK
    refine hy _ _ _ (S.get (by simp)) ⟨S.get (by simp), fun w6 hst => ?_⟩
    replace S := S.put hst
    (repeat refine Stp.h ?_)
    refine f79 _ _ ?_
    unfold sv
    (refine StpW.h ?_; clear S; intro w7 S)
    refine ⟨S.get (by simp), fun w8 hst => ?_⟩
    replace S := S.put hst
    refine hK _ ?_
    rw [inS_take hi, if_pos hs]
    exact S
  · intro i W n S hi hs
    rw [inS_take hi, if_neg hs]
    exact S
  · simpa [inS, inF, sv] using S
  · intro W S
    rw [List.take_length] at S
    refine ⟨S.get (by simp), fun w6 hst => ?_⟩
    replace S := S.put hst
    (repeat refine Stp.h ?_)
    refine ⟨S.get (by simp), fun w7 hst => ?_⟩
    replace S := S.put hst
    exact hk _ S.toExt

theorem f21n (hk : ∀ w', Ext w w' → K (sv 0#64) w') : callX Tryd.prog 21 [.pointer none] w K := by
  refine c21 _ _ _ ?_
  unfold s21
  exact f22n 0 hk
theorem f21 {b c : Nat} {a : Option Addr} {sp : BitVec 64} {r : Ru} {k : Int} {l : List Nd} (hb : FlB w b (.slice a l.length c) sp r k) (hn : NodesAt w a l) (hlen : l.length < 2 ^ 62) (hk : ∀ w', Ext w w' → K (sv (inS l 0)) w') : callX Tryd.prog 21 [ptr b] w K := by
  refine c21 _ _ _ ?_
  unfold s21
  exact f22 hb hn hlen 0 hk

end Go.Proofs.YtgnmelnohclpgaaDoor
