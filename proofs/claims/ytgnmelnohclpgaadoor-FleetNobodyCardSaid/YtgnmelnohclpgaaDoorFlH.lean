/- The fleet: one that nobody made has no nodes. -/
import Derived.Test.YtgnmelnohclpgaaDoorFlG
set_option linter.unusedVariables false
set_option linter.unusedSimpArgs false
namespace Go.Proofs.YtgnmelnohclpgaaDoor
open Go Go.RowKit

variable {w : World} {K : Cont}

/-- no fleet at all: nil, or one of zeros -/
def NoFl0 (w : World) (v : Value) : Prop := v = .pointer none ∨ ∃ b, v = ptr b ∧ FlB w b (.slice none 0 0) 0#64 ⟨0, 0, 0⟩ 0
theorem NoFl0.no {v : Value} (h : NoFl0 w v) : NoFl w v := by
  rcases h with rfl | ⟨b, rfl, h⟩
  · exact .inl rfl
  · exact .inr ⟨b, _, _, _, rfl, h⟩
theorem NoFl0.ext {w' : World} {v : Value} (h : NoFl0 w v) (hx : Ext w w') : NoFl0 w' v := by
  rcases h with rfl | ⟨b, rfl, h⟩
  · exact .inl rfl
  · exact .inr ⟨b, rfl, hx.get h⟩
theorem f20z {v : Value} (h : NoFl0 w v) (hk : K (.int .i64 0) w) : callX Tryd.prog 20 [v] w K := by
  rcases h with rfl | ⟨b, rfl, h⟩
  · exact f20n hk
  · exact f20 h hk
theorem f22z {v : Value} (h : NoFl0 w v) (st : Int) (hk : ∀ w', Ext w w' → K (sv 0#64) w') : callX Tryd.prog 22 [v, .int .i64 st] w K := by
  rcases h with rfl | ⟨b, rfl, h⟩
  · exact f22n st hk
  · exact f22 (l := []) h rfl (by simp) st fun w' hx => hk w' hx
theorem f21z {v : Value} (h : NoFl0 w v) (hk : ∀ w', Ext w w' → K (sv 0#64) w') : callX Tryd.prog 21 [v] w K := by
  refine c21 _ _ _ ?_
  unfold s21
  exact f22z h 0 hk
theorem f23z {v : Value} (h : NoFl0 w v) (hk : K (sv 0#64) w) : callX Tryd.prog 23 [v] w K := by
  rcases h with rfl | ⟨b, rfl, h⟩
  · exact f23n hk
  · exact f23 h hk
theorem f24z {v : Value} (h : NoFl0 w v) (hk : K (sv 0#64) w) : callX Tryd.prog 24 [v] w K := by
  rcases h with rfl | ⟨b, rfl, h⟩
  · exact f24n hk
  · exact f24 h hk
theorem f25z {v : Value} (h : NoFl0 w v) (hk : K (.int .i64 0) w) : callX Tryd.prog 25 [v] w K := by
  rcases h with rfl | ⟨b, rfl, h⟩
  · exact f25n hk
  · exact f25 h hk
theorem f28z {v : Value} (h : NoFl0 w v) (hk : ∀ w', Ext w w' → K (Ru.val ⟨0, 0, 0⟩) w') : callX Tryd.prog 28 [v] w K := by
  rcases h with rfl | ⟨b, rfl, h⟩
  · exact f28n hk
  · exact f28 h hk

theorem or00 : bitsV .u64 (fun p q => p ||| q) 0 0 = 0 := by decide +kernel
theorem sv0 : sv 0#64 = .int .u64 0 := rfl

theorem f3 (n what : Int) (hT : TabW w) (hk : ∀ w', Ext w w' → K (.bool true) w') : callX Tryd.prog 3 [.agg #[.int .i64 n, .int .i64 what]] w K := by
  refine c3 _ _ _ ?_
  unfold s3
  rw [show (#[.int .i64 n, .int .i64 what] : Array Value) = [.int .i64 n, .int .i64 what].toArray from rfl]
  have S := St.begin w
  (refine StpA.h ?_; clear S; intro b1 w1 S)
  refine ⟨fun t W => ∃ i : Nat, t = .int .i64 i ∧ i ≤ 2 ∧ St [] w W [blk b1 (.cells [.int .i64 n, .int .i64 what].toArray 23 (0, 0))], fun t W => match t with | .int _ i => 2 - i.toNat | _ => 0, ⟨0, rfl, by omega, S⟩, ?_⟩
  clear S
  rintro t W ⟨i, rfl, hi, S⟩
  (repeat refine Stp.h ?_)
  refine brX_d (fun hlt => ?_) (fun hlt => ?_)
  · (repeat refine Stp.h ?_)
    (refine StpA.h ?_; clear S; intro bf w3 S)
    (repeat refine Stp.h ?_)
    have nf : ∀ {W l v}, St [] w W l → blk bf (.cells (flC (.slice none 0 0) 0#64 ⟨0, 0, 0⟩ 0).toArray 31 (0, 0)) ∈ l → (v = .pointer none ∨ v = ptr bf) → NoFl0 W v := by
      intro W l v S hm hv
      rcases hv with rfl | rfl
      · exact .inl rfl
      · exact .inr ⟨bf, rfl, S.get hm⟩
    replace S : St [] w w3 [blk bf (.cells (flC (.slice none 0 0) 0#64 ⟨0, 0, 0⟩ 0).toArray 31 (0, 0)), blk b1 (.cells [.int .i64 n, .int .i64 what].toArray 23 (0, 0))] := S
    refine joinX_of (fun J => ∀ v, (v = .pointer none ∨ v = ptr bf) → J v w3) (fun v hv => ?_) (fun J hJ => ?_)
    · (repeat refine Stp.h ?_)
      refine f18z (nf S (by simp) hv).no fun w5 hx => ?_
      replace S := S.ext hx
      refine extractX_i (vs := [_, _]) rfl ?_
      refine extractX_i (vs := [_, _]) rfl ?_
      rw [show Nd.val ⟨0, 0, 0⟩ = .agg [.int .i64 0, .int .i64 0, .int .i64 0].toArray from rfl]
      (refine StpA.h ?_; clear S; intro b6 w6 S)
      (refine StpW.h ?_; clear S; intro w7 S)
      refine joinX_of (fun J => ∀ W, St [] w W [blk b6 (.cells [.int .i64 0, .int .i64 0, .int .i64 0].toArray 33 (0, 0)), blk bf (.cells (flC (.slice none 0 0) 0#64 ⟨0, 0, 0⟩ 0).toArray 31 (0, 0)), blk b1 (.cells [.int .i64 n, .int .i64 what].toArray 23 (0, 0))] → J (.bool false) W) (fun W' S' => ?_) (fun J hJ => ?_)
      · (repeat refine Stp.h ?_)
        rw [wi64 (by omega)]
        exact ⟨⟨i + 1, by simp, by omega, S'.drop.drop⟩, by show _ < _; simp; omega⟩
      · (refine S.drew ?_; clear S; intro w9 S)
        refine ⟨Has _, S.hs, ?_⟩
        (repeat refine Stp.h ?_)
        refine brX_d (fun h => absurd rfl h) (fun _ => ?_)
        (repeat refine Stp.h ?_)
        refine f19z (nf S (by simp) hv).no ?_
        refine ⟨S.hs, ?_⟩
        (repeat refine Stp.h ?_)
        refine brX_d (fun h => absurd rfl h) (fun _ => ?_)
        refine f20z (nf S (by simp) hv) ?_
        refine ⟨S.hs, ?_⟩
        (repeat refine Stp.h ?_)
        refine brX_d (fun h => absurd rfl h) (fun _ => ?_)
        (repeat refine Stp.h ?_)
        refine f21z (nf S (by simp) hv) fun w10 hx => ?_
        replace S := S.ext hx
        refine ⟨S.hs, ?_⟩
        refine f22z (nf S (by simp) hv) _ fun w11 hx => ?_
        replace S := S.ext hx
        rw [sv0]
        (repeat refine Stp.h ?_)
        rw [or00]
        refine f23z (nf S (by simp) hv) ?_
        rw [sv0]
        (repeat refine Stp.h ?_)
        rw [or00]
        refine f24z (nf S (by simp) hv) ?_
        rw [sv0]
        (repeat refine Stp.h ?_)
        rw [or00]
        refine brX_d (fun h => absurd rfl h) (fun _ => ?_)
        refine f25z (nf S (by simp) hv) ?_
        (repeat refine Stp.h ?_)
        refine brX_d (fun h => absurd rfl h) (fun _ => ?_)
        refine f26z (nf S (by simp) hv).no ?_
        (repeat refine Stp.h ?_)
        refine f27z (nf S (by simp) hv).no ?_
        (repeat refine Stp.h ?_)
        refine brX_d (fun h => absurd rfl h) (fun _ => ?_)
        (repeat refine Stp.h ?_)
        refine f28z (nf S (by simp) hv) fun w12 hx => ?_
        replace S := S.ext hx
        rw [show Ru.val ⟨0, 0, 0⟩ = .agg [.int .i64 0, .int .i64 0, .int .i64 0].toArray from rfl]
        (repeat refine Stp.h ?_)
        refine brX_bf (by simp) ?_
        refine f29z (nf S (by simp) hv).no (.inl rfl) ?_
        (repeat refine Stp.h ?_)
        exact hJ _ S
    · refine brX_d (fun h1 => ?_) (fun h1 => ?_)
      · exact hJ _ (.inl rfl)
      · exact hJ _ (.inr rfl)
  · refine f30 (hT.ext S.toExt) fun w' hx => hk w' (S.toExt.trans hx)

end Go.Proofs.YtgnmelnohclpgaaDoor
