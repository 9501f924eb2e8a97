/- Own framework, part E: the machine does what the meaning says: the rest of the operations that are no calls. -/
import Derived.Test.YtgnmelnohclpgaaDoorSxD
set_option linter.unusedVariables false
set_option linter.unusedSimpArgs false
namespace Go.Proofs.YtgnmelnohclpgaaDoor
open Go

section
variable {P : Program} {w : World} {a : Act} {e : Env} {n : Nat}

theorem move_ends {x : Operand} {o : Oper} {K : SV → World → Prop} (ho : o.op = .move x) (hr : Rep n a e) (h : opX P e o.op w K) : Ends P a o w K := by
  rw [ho] at h
  simp only [opX] at h
  split at h
  · rename_i s hs
    exact ⟨s, w, h, .inl (by simp [execOp, ho, ev_eval hr hs])⟩
  · exact h.elim
theorem assign_ends {x : Operand} {o : Oper} {K : SV → World → Prop} (ho : o.op = .assign x) (hr : Rep n a e) (h : opX P e o.op w K) : Ends P a o w K := by
  rw [ho] at h
  simp only [opX] at h
  split at h
  · rename_i s hs
    exact ⟨s, w, h, .inl (by simp [execOp, ho, ev_eval hr hs])⟩
  · exact h.elim
theorem pick_ends {c x y : Operand} {o : Oper} {K : SV → World → Prop} (ho : o.op = .pick c x y) (hr : Rep n a e) (h : opX P e o.op w K) : Ends P a o w K := by
  rw [ho] at h
  simp only [opX] at h
  have hx : execOp a.eval o = (do pure (.value (if ← asBool (a.eval c) then a.eval x else a.eval y))) := by simp only [execOp, ho]
  split at h
  · rename_i hc
    split at h
    · rename_i s hs
      exact ⟨s, w, h, .inl (by rw [hx, ev_eval hr hc]; simp [SV.val, asBool, ev_eval hr hs])⟩
    · exact h.elim
  · rename_i hc
    split at h
    · rename_i s hs
      exact ⟨s, w, h, .inl (by rw [hx, ev_eval hr hc]; simp [SV.val, asBool, ev_eval hr hs])⟩
    · exact h.elim
  · rename_i c' hc
    obtain ⟨s, hs, h⟩ := w1_some h
    obtain ⟨u, hu, h⟩ := w1_some h
    unfold pickX at h
    match c', hc, h with
    | .bool t, hc, h =>
      refine ⟨_, w, h, .inl ?_⟩
      rw [hx, ev_eval hr hc, ev_eval hr hs, ev_eval hr hu]
      cases t <;> rfl
  · exact h.elim

theorem extract_ends {x : Operand} {i : Nat} {o : Oper} {K : SV → World → Prop} (ho : o.op = .extract x i) (hr : Rep n a e) (h : opX P e o.op w K) : Ends P a o w K := by
  rw [ho] at h
  simp only [opX] at h
  obtain ⟨s, hs, h⟩ := w1_some h
  unfold extractX at h
  split at h
  · rename_i vs hp
    obtain ⟨v, hv, hk⟩ := h
    refine .of (s := Instr.extract (a.eval x) i) (by simp only [execOp, ho]) ?_ hk
    rw [ev_eval hr hs, hp]
    simp [Instr.extract, hv]
  · exact h.elim

theorem nil_ends {x : Operand} {o : Oper} {K : SV → World → Prop} (ho : o.op = .nilCheck x) (hr : Rep n a e) (h : opX P e o.op w K) : Ends P a o w K := by
  rw [ho] at h
  simp only [opX] at h
  obtain ⟨s, hs, h⟩ := w1_some h
  unfold nilX at h
  split at h
  all_goals first | exact h.elim | skip
  all_goals
    rename_i hp
    refine .val h ?_
    simp only [execOp, ho]
    rw [ev_eval hr hs, hp]
    rfl

theorem un_of {op : UnOp} {t : TypeId} {x : Operand} {o : Oper} {K : SV → World → Prop} {v : Value} (ho : o.op = .unOp op t x) (hrun : (Op.unary op (a.eval x)).run P w = .ok v w) (hk : K (.v v) w) : Ends P a o w K :=
  .of (s := Op.unary op (a.eval x)) (by simp only [execOp, ho]) hrun hk
theorem un_ends {op : UnOp} {t : TypeId} {x : Operand} {o : Oper} {K : SV → World → Prop} (ho : o.op = .unOp op t x) (hr : Rep n a e) (h : opX P e o.op w K) : Ends P a o w K := by
  rw [ho] at h
  cases op
  all_goals
    simp only [opX] at h
    try exact h.elim
  all_goals
    obtain ⟨s, hs, h⟩ := w1_some h
    first | unfold notX at h | unfold negX at h | unfold cplX at h
    split at h
    · rename_i hp
      refine un_of ho ?_ h
      rw [ev_eval hr hs, hp]
      rfl
    · exact h.elim

theorem eqGuard_no {op : BinOp} {t : TypeId} {x y : Operand} {p q : Value} (h1 : op ≠ .eql) (h2 : op ≠ .neq) : (eqGuard op t x y p q).run P w = .ok () w := by
  unfold eqGuard
  cases op <;> first | rfl | exact absurd rfl h1 | exact absurd rfl h2

theorem bin_of {op : BinOp} {t t' : TypeId} {x y : Operand} {o : Oper} {K : SV → World → Prop} {v : Value} (ho : o.op = .binOp op t x y t') (h1 : op ≠ .eql) (h2 : op ≠ .neq)
    (hrun : (binOp op t (a.eval x) (a.eval y)).run P w = .ok v w) (hk : K (.v v) w) : Ends P a o w K := by
  refine .of (s := do eqGuard op t x y (a.eval x) (a.eval y); binOp op t (a.eval x) (a.eval y)) (by simp only [execOp, ho]) ?_ hk
  simp [eqGuard_no h1 h2, hrun]

theorem bin_ends {op : BinOp} {t t' : TypeId} {x y : Operand} {o : Oper} {K : SV → World → Prop} (ho : o.op = .binOp op t x y t') (h1 : op ≠ .eql) (h2 : op ≠ .neq) (hr : Rep n a e) (h : opX P e o.op w K) : Ends P a o w K := by
  rw [ho] at h
  cases op
  case eql => exact absurd rfl h1
  case neq => exact absurd rfl h2
  case add =>
    simp only [opX] at h
    obtain ⟨s, hs, h⟩ := w1_some h
    obtain ⟨u, hu, h⟩ := w1_some h
    unfold addX at h
    split at h
    · rename_i k p k' q hp hq
      obtain ⟨rfl, hk⟩ := h
      refine bin_of ho h1 h2 ?_ hk
      rw [ev_eval hr hs, ev_eval hr hu, hp, hq]
      simp [binOp, Op.intArith]
    · rename_i p q hp hq
      obtain ⟨hle, hk⟩ := h
      refine bin_of ho h1 h2 ?_ hk
      rw [ev_eval hr hs, ev_eval hr hu, hp, hq]
      have : ¬ (((p.size + q.size : Nat) : Int) > IntKind.i64.max) := by omega
      simp only [binOp, Op.stringOp, if_neg this]
      rfl
    · exact h.elim
  all_goals
    simp only [opX] at h
    obtain ⟨s, hs, h⟩ := w1_some h
    obtain ⟨u, hu, h⟩ := w1_some h
    first | unfold subX at h | unfold mulX at h | unfold quoX at h | unfold remX at h | unfold andX at h | unfold orX at h | unfold xorX at h | unfold andNotX at h | unfold shlX at h | unfold shrX at h | unfold ltX at h | unfold leX at h | unfold gtX at h | unfold geX at h
    split at h
    · rename_i hp hq
      refine bin_of ho h1 h2 (v := ?_) ?_ ?_
      rotate_left
      · rw [ev_eval hr hs, ev_eval hr hu, hp, hq]
        first
          | (obtain ⟨rfl, hne, hk⟩ := h; simp only [binOp, Op.intDiv, ne_eq, not_true_eq_false, if_false, if_neg hne]; rfl)
          | (obtain ⟨rfl, hk⟩ := h; simp only [binOp, Op.intArith, Op.intBits, Op.intCmp, ne_eq, not_true_eq_false, if_false]; rfl)
          | (obtain ⟨h0, hk⟩ := h; simp only [binOp, Op.shift, if_neg (Int.not_lt.2 h0)]; rfl)
      · first | exact h.2.2 | exact h.2
    · exact h.elim

end
end Go.Proofs.YtgnmelnohclpgaaDoor
