/- Own framework, part G: the machine does what the meaning says: the rest of the values' operations. -/
import Derived.Test.YtgnmelnohclpgaaDoorSxF
set_option linter.unusedVariables false
set_option linter.unusedSimpArgs false
namespace Go.Proofs.YtgnmelnohclpgaaDoor
open Go

section
variable {P : Program} {w : World} {a : Act} {e : Env} {n : Nat}

theorem eqV_bin {t : TypeId} {k : EqK} {x y : Value} {b : Bool} (hk : eqKOf P t = some k) (h : eqV k x y = some b) : (binOp .eql t x y).run P w = .ok (.bool b) w ∧ (binOp .neq t x y).run P w = .ok (.bool (!b)) w := by
  have h1 := run_eqV (w := w) 9999 hk h
  unfold eqV at h
  split at h
  all_goals first | (cases h; done) | skip
  · split at h
    · rename_i hkk
      subst hkk
      cases h
      exact ⟨by simp [binOp, Op.intCmp], by simp [binOp, Op.intCmp]; rfl⟩
    · cases h
  all_goals
    cases h
    simp [binOp, Op.stringOp, Op.equal, Op.maxDepth, h1]

theorem eqGuard_ok {op : BinOp} {t : TypeId} {x y : Operand} {p q : Value} {k : EqK} {b : Bool} (h : eqV k p q = some b) (hk : k = .iface → (Region.isConst x || Region.isConst y) = true) : (eqGuard op t x y p q).run P w = .ok () w := by
  unfold eqV at h
  split at h
  all_goals first | (cases h; done) | skip
  all_goals cases op
  all_goals first
    | (have h2 := hk rfl; cases x <;> cases y <;> simp_all [eqGuard, Region.isConst]; done)
    | (simp [eqGuard]; done)

theorem eqCells_big {d : Nat} {t : TypeId} {off : Nat} {l : List (Nat × EqK)} (hk : eqKOf P t = none) (h : eqCells P d t off = some l) : ∃ m, aggN P t = some (some m) := by
  cases d with
  | zero => simp [eqCells] at h
  | succ d =>
    unfold eqCells at h
    split at h
    · rename_i fs hu
      split at h
      · cases h
      · split at h
        · rename_i i hi
          exact ⟨i.size, by unfold aggN; rw [hu]; simp [hi]⟩
        · cases h
    · rename_i m el hu
      split at h
      · rename_i i j hi hj
        exact ⟨j.size, by unfold aggN; rw [hu]; simp [hj]⟩
      · cases h
    · cases h
    · rw [hk] at h
      cases hq : aggN P t with
      | none => rw [hq] at h; cases h
      | some r => rw [hq] at h; cases r <;> cases h

theorem eq_ends {ne : Bool} {op : BinOp} {t t' : TypeId} {x y : Operand} {o : Oper} {K : SV → World → Prop} (ho : o.op = .binOp op t x y t') (hop : op = bif ne then .neq else .eql) (hr : Rep n a e) (h : eqOf P e t x y ne fun v => K (.v v) w) : Ends P a o w K := by
  have hx : execOp a.eval o = (do pure (.value (← (do eqGuard op t x y (a.eval x) (a.eval y); binOp op t (a.eval x) (a.eval y))))) := by simp only [execOp, ho]
  have scal : ∀ {k : EqK} {p q : Value} {b : Bool}, eqKOf P t = some k → (k = .iface → (Region.isConst x || Region.isConst y) = true) → a.eval x = p → a.eval y = q → eqV k p q = some b → K (.v (.bool (bif ne then !b else b))) w → Ends P a o w K := by
    intro k p q b hk hg hp hq hv hK
    have hb := eqV_bin (w := w) hk hv
    refine .of hx ?_ hK
    rw [hp, hq]
    have hgu := eqGuard_ok (P := P) (w := w) (op := op) (t := t) (x := x) (y := y) hv hg
    subst hop
    cases ne <;> simp only [cond_true, cond_false] at hgu ⊢ <;> simp [hgu, hb.1, hb.2]
  have fin : ∀ {k : EqK} {s u : SV}, eqKOf P t = some k → (k = .iface → (Region.isConst x || Region.isConst y) = true) → ev e x = some s → ev e y = some u → (bif ne then neX k s.val u.val (fun v => K (.v v) w) else eqX k s.val u.val (fun v => K (.v v) w)) → Ends P a o w K := by
    intro k s u hk hg hs hu h
    cases ne
    · simp only [cond_false] at h
      unfold eqX at h
      split at h
      · rename_i b hb
        exact scal hk hg (ev_eval hr hs) (ev_eval hr hu) hb h
      · exact h.elim
    · simp only [cond_true] at h
      unfold neX at h
      split at h
      · rename_i b hb
        exact scal hk hg (ev_eval hr hs) (ev_eval hr hu) hb h
      · exact h.elim
  unfold eqOf at h
  split at h
  · rename_i hk
    split at h
    · rename_i hc
      obtain ⟨s, hs, h⟩ := w1_some h
      obtain ⟨u, hu, h⟩ := w1_some h
      exact fin hk (fun _ => hc) hs hu h
    · exact h.elim
  · rename_i k hne hk
    obtain ⟨s, hs, h⟩ := w1_some h
    obtain ⟨u, hu, h⟩ := w1_some h
    exact fin hk (fun hh => (hne hh).elim) hs hu h
  · rename_i hk0
    split at h
    · exact h.elim
    · rename_i hgt
      split at h
      · rename_i l m hl hm
        obtain ⟨s, hs, h⟩ := w1_some h
        obtain ⟨u, hu, h⟩ := w1_some h
        have agg : ∀ {xs ys : Array Value} {b : Bool}, s.val = .agg xs → u.val = .agg ys → xs.toList.length = m → ys.toList.length = m → eqAll l xs.toList ys.toList = some b → K (.v (.bool (bif ne then !b else b))) w → Ends P a o w K := by
          intro xs ys b hp hq hxs hys hb hK
          obtain ⟨vx, vy, e1, e2, e3⟩ := run_eqCells (w := w) 12 t 0 l hl 10000 (by omega) xs ys b hb
          refine .of hx ?_ hK
          rw [ev_eval hr hs, ev_eval hr hu, hp, hq]
          have hag : aggN P t = some (some m) := by
            obtain ⟨r, hr'⟩ := eqCells_big hk0 hl
            have := (aggN_some (w := w) hr').2
            rw [hm] at this
            cases this
            exact hr'
          have hx1 : vx = .agg xs := by
            have := run_partN (w := w) (cs := xs) (off := 0) hag
            rw [e1] at this
            cases this
            have : xs.size = m := by simpa using hxs
            simp [← this]
          have hy1 : vy = .agg ys := by
            have := run_partN (w := w) (cs := ys) (off := 0) hag
            rw [e2] at this
            cases this
            have : ys.size = m := by simpa using hys
            simp [← this]
          subst hx1 hy1
          have hgu := run_eqGuard_agg (w := w) op t x y xs ys (by simpa using hgt)
          subst hop
          cases ne <;> simp only [cond_true, cond_false] at hgu ⊢ <;> simp [hgu, run_eql_struct, run_neq_struct, e3]
        cases ne
        · simp only [cond_false] at h
          unfold eqNX at h
          split at h
          · rename_i xs ys hp hq
            obtain ⟨h1, h2, h⟩ := h
            split at h
            · rename_i b hb
              exact agg hp hq h1 h2 hb h
            · exact h.elim
          · exact h.elim
        · simp only [cond_true] at h
          unfold neNX at h
          split at h
          · rename_i xs ys hp hq
            obtain ⟨h1, h2, h⟩ := h
            split at h
            · rename_i b hb
              exact agg hp hq h1 h2 hb h
            · exact h.elim
          · exact h.elim
      · exact h.elim

end
end Go.Proofs.YtgnmelnohclpgaaDoor
