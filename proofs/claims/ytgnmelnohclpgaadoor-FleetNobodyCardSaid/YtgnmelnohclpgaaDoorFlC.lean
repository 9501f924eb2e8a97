/- The fleet: what each function answers. -/
import Derived.Test.YtgnmelnohclpgaaDoorFlA
import Derived.Test.YtgnmelnohclpgaaDoorFlB
import Derived.Test.YtgnmelnohclpgaaDoorGnB
set_option linter.unusedVariables false
set_option linter.unusedSimpArgs false
namespace Go.Proofs.YtgnmelnohclpgaaDoor
open Go Go.RowKit

variable {w : World} {K : Cont}

abbrev ptr (b : Nat) : Value := .pointer (some ⟨b, 0, none⟩)
/-- a fleet's cells -/
abbrev flC (sl : Value) (sp : BitVec 64) (r : Ru) (k : Int) : List Value := [sl, sv sp, .int .i64 r.s, .int .i64 r.d, .int .i64 r.p, .int .i64 k]
/-- a fleet in its block -/
def FlB (w : World) (b : Nat) (sl : Value) (sp : BitVec 64) (r : Ru) (k : Int) : Prop := w.heap[b]? = some (.cells (flC sl sp r k).toArray 31 (0, 0))

section
variable {b n c : Nat} {a : Option Addr} {sl : Value} {sp : BitVec 64} {r : Ru} {k : Int}

theorem f20n (hk : K (.int .i64 0) w) : callX Tryd.prog 20 [.pointer none] w K := by
  refine c20 _ _ _ ?_
  unfold s20
  (repeat refine Stp.h ?_)
  exact hk
theorem f20 (h : FlB w b (.slice a n c) sp r k) (hk : K (.int .i64 n) w) : callX Tryd.prog 20 [ptr b] w K := by
  refine c20 _ _ _ ?_
  unfold s20
  have S := (St.begin w).know h
  (repeat refine Stp.h ?_)
  exact hk
theorem f23n (hk : K (sv 0#64) w) : callX Tryd.prog 23 [.pointer none] w K := by
  refine c23 _ _ _ ?_
  unfold s23
  (repeat refine Stp.h ?_)
  exact hk
theorem f23 (h : FlB w b sl sp r k) (hk : K (sv sp) w) : callX Tryd.prog 23 [ptr b] w K := by
  refine c23 _ _ _ ?_
  unfold s23
  have S := (St.begin w).know h
  (repeat refine Stp.h ?_)
  exact hk
theorem f25n (hk : K (.int .i64 0) w) : callX Tryd.prog 25 [.pointer none] w K := by
  refine c25 _ _ _ ?_
  unfold s25
  (repeat refine Stp.h ?_)
  exact hk
theorem f25 (h : FlB w b sl sp r k) (hk : K (.int .i64 k) w) : callX Tryd.prog 25 [ptr b] w K := by
  refine c25 _ _ _ ?_
  unfold s25
  have S := (St.begin w).know h
  (repeat refine Stp.h ?_)
  exact hk
theorem f80n (hk : K (sv 0#64) w) : callX Tryd.prog 80 [.pointer none] w K := by
  refine c80 _ _ _ ?_
  unfold s80
  refine f20n ?_
  refine f137 _ ?_
  exact hk
theorem f80 (h : FlB w b (.slice a n c) sp r k) (hk : K (sv (firstS n)) w) : callX Tryd.prog 80 [ptr b] w K := by
  refine c80 _ _ _ ?_
  unfold s80
  refine f20 h ?_
  refine f137 _ ?_
  exact hk
theorem f24n (hk : K (sv 0#64) w) : callX Tryd.prog 24 [.pointer none] w K := by
  refine c24 _ _ _ ?_
  unfold s24
  refine f80n (f23n (f73 _ _ ?_))
  exact hk
theorem f24 (h : FlB w b (.slice a n c) sp r k) (hk : K (sv (firstS n &&& ~~~sp)) w) : callX Tryd.prog 24 [ptr b] w K := by
  refine c24 _ _ _ ?_
  unfold s24
  exact f80 h (f23 h (f73 _ _ hk))
theorem f81n (hk : K (.bool true) w) : callX Tryd.prog 81 [.pointer none] w K := by
  refine c81 _ _ _ ?_
  unfold s81
  (repeat refine Stp.h ?_)
  exact hk
theorem f81 (h : FlB w b (.slice a n c) sp r k) (hk : K (.bool (decide ((n : Int) = 0))) w) : callX Tryd.prog 81 [ptr b] w K := by
  refine c81 _ _ _ ?_
  unfold s81
  have S := (St.begin w).know h
  (repeat refine Stp.h ?_)
  exact hk

/-- what is no fleet: nil, or one of no nodes -/
def NoFl (w : World) (v : Value) : Prop := v = .pointer none ∨ ∃ b sp r k, v = ptr b ∧ FlB w b (.slice none 0 0) sp r k

theorem f81z {v : Value} (h : NoFl w v) (hk : K (.bool true) w) : callX Tryd.prog 81 [v] w K := by
  rcases h with rfl | ⟨b, sp, r, k, rfl, h⟩
  · exact f81n hk
  · exact f81 h (by simpa using hk)
theorem f74z {v i : Value} (h : NoFl w v) (hk : K (.int .i64 1) w) : callX Tryd.prog 74 [v, i] w K := by
  refine c74 _ _ _ _ ?_
  unfold s74
  refine f81z h ?_
  (repeat refine Stp.h ?_)
  exact hk
theorem NoFl.ext {w' : World} {v : Value} (h : NoFl w v) (hx : Ext w w') : NoFl w' v := by
  rcases h with rfl | ⟨b, sp, r, k, rfl, h⟩
  · exact .inl rfl
  · exact .inr ⟨b, sp, r, k, rfl, hx.get h⟩
theorem f18z {v i : Value} (h : NoFl w v) (hk : ∀ w', Ext w w' → K (.tuple #[Nd.val ⟨0, 0, 0⟩, .int .i64 1]) w') : callX Tryd.prog 18 [v, i] w K := by
  refine c18 _ _ _ _ ?_
  unfold s18
  have S := St.begin w
  (refine StpA.h ?_; clear S; intro b1 w1 S)
  refine f74z (h.ext S.toExt) ?_
  (repeat refine Stp.h ?_)
  refine brX_d (fun _ => ?_) (fun h => absurd h (by decide))
  (repeat refine Stp.h ?_)
  (refine StpW.h ?_; clear S; intro w2 S)
  (repeat refine Stp.h ?_)
  exact hk _ S.toExt
theorem f19z {v i j : Value} (h : NoFl w v) (hk : K (.int .i64 1) w) : callX Tryd.prog 19 [v, i, j] w K := by
  refine c19 _ _ _ _ _ ?_
  unfold s19
  refine f74z h ?_
  (repeat refine Stp.h ?_)
  refine brX_d (fun _ => ?_) (fun h => absurd h (by decide))
  exact hk
theorem f26z {v : Value} (h : NoFl w v) (hk : K (.pointer none) w) : callX Tryd.prog 26 [v] w K := by
  refine c26 _ _ _ ?_
  unfold s26
  refine f81z h ?_
  (repeat refine Stp.h ?_)
  exact hk
theorem f27z {v : Value} (h : NoFl w v) (hk : K (.slice none 0 0) w) : callX Tryd.prog 27 [v] w K := by
  refine c27 _ _ _ ?_
  unfold s27
  refine f81z h ?_
  (repeat refine Stp.h ?_)
  exact hk
theorem f83z (hk : K (.bool true) w) : callX Tryd.prog 83 [.slice none 0 0, .slice none 0 0] w K := by
  refine c83 _ _ _ _ ?_
  unfold s83
  simp only [strX, eqX, eqV]
  simpa using hk
theorem f29z {v u : Value} (h : NoFl w v) (h' : NoFl w u) (hk : K (.bool true) w) : callX Tryd.prog 29 [v, u] w K := by
  refine c29 _ _ _ _ ?_
  unfold s29
  exact f27z h (f27z h' (f83z hk))
theorem f28n (hk : ∀ w', Ext w w' → K (Ru.val ⟨0, 0, 0⟩) w') : callX Tryd.prog 28 [.pointer none] w K := by
  refine c28 _ _ _ ?_
  unfold s28
  have S := St.begin w
  (refine StpA.h ?_; clear S; intro b1 w1 S)
  (repeat refine Stp.h ?_)
  (refine StpW.h ?_; clear S; intro w2 S)
  (repeat refine Stp.h ?_)
  exact hk _ S.toExt
theorem f28 (h : FlB w b sl sp r k) (hk : ∀ w', Ext w w' → K r.val w') : callX Tryd.prog 28 [ptr b] w K := by
  refine c28 _ _ _ ?_
  unfold s28
  have S := (St.begin w).know h
  (refine StpA.h ?_; clear S; intro b1 w1 S)
  (repeat refine Stp.h ?_)
  (repeat refine Stp.h ?_)
  (refine StpW.h ?_; clear S; intro w2 S)
  (repeat refine Stp.h ?_)
  exact hk _ S.toExt

end
end Go.Proofs.YtgnmelnohclpgaaDoor
