/- Own framework, part F: the machine does what the meaning says: values held against each other. -/
import Derived.Test.YtgnmelnohclpgaaDoorSxE
import Derived.ChangeKeysEq
set_option linter.unusedVariables false
set_option linter.unusedSimpArgs false
namespace Go.Proofs.YtgnmelnohclpgaaDoor
open Go

section
variable {P : Program} {w : World} {a : Act} {e : Env} {n : Nat}

/-- one cell against one cell -/
theorem run_eqV {t : TypeId} {k : EqK} {x y : Value} {b : Bool} (D : Nat) (hk : eqKOf P t = some k) (h : eqV k x y = some b) : (Op.equalIn (D + 1) t x y).run P w = .ok b w := by
  unfold eqKOf at hk
  split at hk
  all_goals first | (cases hk; done) | skip
  all_goals
    rename_i hu
    cases hk
    unfold eqV at h
    split at h
    all_goals first | (cases h; done) | skip
    all_goals rename_i he
    all_goals first | (cases he; done) | skip
    all_goals
      first
        | (split at h <;> cases h; rename_i hkk; subst hkk; simp [Op.equalIn, run_und hu]; done)
        | (cases h; simp [Op.equalIn, run_und hu, beq_toListBytes]; done)

theorem extract_cell {xs : Array Value} {off n fo : Nat} (h : fo < n) : (xs.extract off (off + n))[fo]? = xs[off + fo]? := by
  rw [Array.getElem?_extract]
  by_cases h1 : off + fo < xs.size
  · rw [if_pos (by omega)]
  · rw [Array.getElem?_eq_none (by omega)]
    split <;> rfl
theorem extract_extract {xs : Array Value} {off n fo m : Nat} (h : fo + m ≤ n) : (xs.extract off (off + n)).extract fo (fo + m) = xs.extract (off + fo) (off + fo + m) := by
  rw [Array.extract_extract]
  congr 1
  omega

theorem run_part_in {t : TypeId} {xs : Array Value} {off n fo m : Nat} {v : Value} (hm : sizeP P t = some m) (h : fo + m ≤ n) (hag : aggN P t ≠ none) (hp : (part t xs (off + fo)).run P w = .ok v w) :
    (part t (xs.extract off (off + n)) fo).run P w = .ok v w := by
  cases hq : aggN P t with
  | none => exact absurd hq hag
  | some q =>
    cases q with
    | none =>
      have h1 := aggN_one (w := w) hq
      have hm1 : m = 1 := by have := h1.2; rw [hm] at this; cases this; rfl
      subst hm1
      simp only [part, Sem.run_bind, h1.1, Result.andThen_ok, Bool.false_eq_true, if_false] at hp ⊢
      rw [extract_cell (by omega)]
      exact hp
    | some q =>
      have h1 := aggN_some (w := w) hq
      have hmq : m = q := by have := h1.2; rw [hm] at this; cases this; rfl
      subst hmq
      rw [run_partN hq] at hp ⊢
      rw [extract_extract h]
      exact hp

theorem eqAll_append : ∀ {l m : List (Nat × EqK)} {xs ys : List Value} {b : Bool}, eqAll (l ++ m) xs ys = some b → ∃ p q, eqAll l xs ys = some p ∧ eqAll m xs ys = some q ∧ b = (p && q)
  | [], m, xs, ys, b, h => ⟨true, b, rfl, h, by simp⟩
  | (i, k) :: l, m, xs, ys, b, h => by
    simp only [List.cons_append, eqAll] at h ⊢
    split at h
    · rename_i x y hx hy
      split at h
      · rename_i b1 c1 h1 h2
        obtain ⟨p, q, h3, h4, rfl⟩ := eqAll_append h2
        cases h
        exact ⟨b1 && p, q, by simp [h1, h3], h4, by simp [Bool.and_assoc]⟩
      · cases h
    · cases h

/-- what eqCells tells is there -/
theorem eqCells_agg {d : Nat} {t : TypeId} {off : Nat} {l : List (Nat × EqK)} (h : eqCells P d t off = some l) : aggN P t ≠ none := by
  cases d with
  | zero => simp [eqCells] at h
  | succ d =>
    intro hn
    unfold eqCells at h
    unfold aggN at hn
    split at h
    · rename_i fs hu
      rw [hu] at hn
      simp only [Option.map_eq_none_iff] at hn
      split at h
      · cases h
      · rw [hn] at h; simp at h
    · rename_i m el hu
      rw [hu] at hn
      simp only [Option.map_eq_none_iff] at hn
      rw [hn] at h
      split at h <;> simp_all
    · cases h
    · rename_i h1 h2 h3
      split at h
      · rename_i ha hb
        unfold aggN at ha
        rw [ha] at hn
        cases hn
      · cases h

theorem run_eqCells : ∀ (d : Nat) (t : TypeId) (off : Nat) (l : List (Nat × EqK)), eqCells P d t off = some l → ∀ (D : Nat), d ≤ D → ∀ (xs ys : Array Value) (b : Bool), eqAll l xs.toList ys.toList = some b →
    ∃ vx vy, (part t xs off).run P w = .ok vx w ∧ (part t ys off).run P w = .ok vy w ∧ (Op.equalIn D t vx vy).run P w = .ok b w := by
  intro d
  induction d with
  | zero => intro t off l h; simp [eqCells] at h
  | succ d ih =>
    intro t off l h D hD xs ys b hb
    obtain ⟨D, rfl⟩ : ∃ D', D = D' + 1 := ⟨D - 1, by omega⟩
    unfold eqCells at h
    split at h
    · rename_i fs hu
      split at h
      · cases h
      · rename_i hst
        split at h
        · rename_i i hi
          have hag : aggN P t = some (some i.size) := by unfold aggN; rw [hu]; simp [hi]
          refine ⟨_, _, run_partN hag, run_partN hag, ?_⟩
          have hfo : P.fieldsOf t = fs := by unfold Program.fieldsOf; rw [hu]
          rw [run_equalIn_struct w D t _ _ (by rw [hfo]; exact hu) (by simpa using hst), hfo]
          generalize fs.toList = fl at h
          clear hu hag hfo
          induction fl generalizing l b with
          | nil =>
            simp only [eqGo, Option.some.injEq] at h
            subst h
            simp only [eqAll, Option.some.injEq] at hb
            subst hb
            simp [Op.eqFields]
          | cons f fl ih2 =>
            simp only [eqGo] at h
            split at h
            · cases h
            · rename_i hname
              split at h
              · rename_i m l1 l2 hm h1 h2
                split at h
                · rename_i hle
                  cases h
                  obtain ⟨p, q, hp, hq, rfl⟩ := eqAll_append hb
                  obtain ⟨vx, vy, e1, e2, e3⟩ := ih _ _ _ h1 D (by omega) xs ys p hp
                  have g1 := run_part_in hm hle (eqCells_agg h1) e1
                  have g2 := run_part_in hm hle (eqCells_agg h1) e2
                  have hrest := ih2 l2 q (by assumption) (by assumption)
                  simp only [Op.eqFields, if_pos hname, Sem.run_bind, g1, g2, e3, Result.andThen_ok, Sem.run_ite]
                  cases p
                  · simp
                  · simpa using hrest
                · cases h
              · cases h
        · cases h
    · rename_i m el hu
      split at h
      · rename_i i j hi hj
        split at h
        · rename_i hle
          have hag : aggN P t = some (some j.size) := by unfold aggN; rw [hu]; simp [hj]
          refine ⟨_, _, run_partN hag, run_partN hag, ?_⟩
          have hc : P.cellsOf el = i.size := by simp [Program.cellsOf, hi]
          rw [run_equalIn_array w D _ _ hu hi, hc]
          have hall : ∀ q ∈ List.range m, q * i.size + i.size ≤ j.size := by
            intro q hq
            have hq' : q < m := by simpa using hq
            have : (q + 1) * i.size ≤ m * i.size := Nat.mul_le_mul_right _ hq'
            rw [Nat.add_mul] at this
            omega
          generalize List.range m = js at h hall
          clear hu hag
          induction js generalizing l b with
          | nil =>
            simp only [eqArr, Option.some.injEq] at h
            subst h
            simp only [eqAll, Option.some.injEq] at hb
            subst hb
            simp [Op.eqItems]
          | cons f fl ih2 =>
            simp only [eqArr] at h
            split at h
            · rename_i l1 l2 h1 h2
              cases h
              obtain ⟨p, q, hp, hq, rfl⟩ := eqAll_append hb
              obtain ⟨vx, vy, e1, e2, e3⟩ := ih _ _ _ h1 D (by omega) xs ys p hp
              have hl1 := hall f (by simp)
              have g1 := run_part_in (sizeP_info hi) hl1 (eqCells_agg h1) e1
              have g2 := run_part_in (sizeP_info hi) hl1 (eqCells_agg h1) e2
              have hall2 := (fun q hq => hall q (by simp [hq]) : ∀ q ∈ fl, q * i.size + i.size ≤ j.size)
              have hrest := ih2 l2 q (by assumption) (by assumption) (by assumption)
              simp only [Op.eqItems, Sem.run_bind, g1, g2, e3, Result.andThen_ok, Sem.run_ite]
              cases p
              · simp
              · simpa using hrest
            · cases h
        · cases h
      · cases h
    · cases h
    · split at h
      · rename_i ha hk
        cases h
        simp only [eqAll] at hb
        split at hb
        · rename_i x y hx hy
          split at hb
          · rename_i b1 c1 hv hc
            simp only [Option.some.injEq] at hc hb
            subst hc
            simp only [Bool.and_true] at hb
            subst hb
            exact ⟨x, y, run_part ha (by simpa using hx), run_part ha (by simpa using hy), run_eqV D hk hv⟩
          · cases hb
        · cases hb
      · cases h

end
end Go.Proofs.YtgnmelnohclpgaaDoor
