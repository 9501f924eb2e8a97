/- Own framework, part R: the meaning of a function, and that its call does just that. -/
import Derived.Test.YtgnmelnohclpgaaDoorSxQ
set_option linter.unusedVariables false
set_option linter.unusedSimpArgs false
namespace Go.Proofs.YtgnmelnohclpgaaDoor
open Go

/-- what a function hands back -/
def resL (P : Program) : List ResultVar → Env → World → (List Value → Prop) → Prop
  | [], _, _, k => k []
  | .tmp t :: l, e, w, k => w1 (e t) fun v => resL P l e w fun vs => k (v :: vs)
  | .cell a t :: l, e, w, k => match aggN P t with
    | some none => w1 (e a) fun a => load1X a w fun v => resL P l e w fun vs => k (v :: vs)
    | some (some n) => w1 (e a) fun a => loadNX n a w fun v => resL P l e w fun vs => k (v :: vs)
    | none => False
def tupV : List Value → Value
  | [v] => v
  | vs => .tuple vs.toArray
def resX (P : Program) (rs : Array ResultVar) (e : Env) (w : World) (K : Cont) : Prop := resL P rs.toList e w fun vs => K (tupV vs) w

def argE (n : Nat) : Nat → List Value → Env
  | _, [] => fun i => bif Nat.blt i n then some (.v undef) else none
  | k, v :: l => (argE n (k + 1) l).put n (some k) (.v v)

def fX (P : Program) (f : FuncId) (A : Ann) (args : List Value) (w : World) (K : Cont) : Prop := match P.funcs[f]? with
  | some fn => (match fn.body with
    | some c => bif Nat.ble args.length fn.ntmps then csem P fn.ntmps true c A (argE fn.ntmps 0 args) w (fun e w => resX P fn.results e w K) (fun _ _ _ => False) (fun e w => resX P fn.results e w K) else False
    | none => False)
  | none => False

section
variable {P : Program} {n : Nat}

theorem resOne_run {P : Program} {n : Nat} {a : Act} {e : Env} {w : World} (hr : Rep n a e) : ∀ (l : List ResultVar) (k : List Value → Prop), resL P l e w k →
    ∃ vs, k vs ∧ (l.mapM (m := Sem) fun | .tmp t => pure (a.tmps.getD t undef) | .cell x t => do loadVar t (← asAddr (a.tmps.getD x undef))).run P w = .ok vs w
  | [], k, h => ⟨[], h, by simp⟩
  | .tmp t :: l, k, h => by
    simp only [resL] at h
    obtain ⟨s, hs, h⟩ := w1_some h
    obtain ⟨vs, hk, hrun⟩ := resOne_run hr l _ h
    refine ⟨_, hk, ?_⟩
    have := hr.2 t s hs
    simp only [List.mapM_cons, Sem.run_bind, Sem.run_pure, Result.andThen_ok, hrun]
    rw [Array.getD_eq_getD_getElem?, this]
  | .cell x t :: l, k, h => by
    simp only [resL] at h
    split at h
    · rename_i ht
      obtain ⟨s, hs, h⟩ := w1_some h
      have he := hr.2 x s hs
      unfold load1X at h
      split at h
      · rename_i p hp
        obtain ⟨v, hc, h⟩ := h
        obtain ⟨vs, hk, hrun⟩ := resOne_run hr l _ h
        refine ⟨_, hk, ?_⟩
        have h1 := (aggN_one (w := w) ht).1
        have hg : a.tmps.getD x undef = .pointer (some p) := by rw [Array.getD_eq_getD_getElem?, he, hp]
        have hone : Sem.run P (do loadVar t (← asAddr (a.tmps.getD x undef))) w = .ok v w := by
          rw [hg]
          have ha : (asAddr (.pointer (some p))).run P w = .ok p w := by simp [asAddr]
          rw [Sem.run_bind, ha]
          simp [loadVar, h1, hc]
        rw [List.mapM_cons]
        dsimp only
        rw [Sem.run_bind, hone]
        simp only [Result.andThen_ok]
        rw [Sem.run_bind, hrun]
        simp
      · exact h.elim
    · rename_i m ht
      obtain ⟨s, hs, h⟩ := w1_some h
      have he := hr.2 x s hs
      unfold loadNX at h
      split at h
      · rename_i p hp
        obtain ⟨l', hl, hc, h⟩ := h
        obtain ⟨vs, hk, hrun⟩ := resOne_run hr l _ h
        refine ⟨_, hk, ?_⟩
        have h1 := aggN_some (w := w) ht
        have h2 := run_loadCells_of (P := P) hl hc
        have hg : a.tmps.getD x undef = .pointer (some p) := by rw [Array.getD_eq_getD_getElem?, he, hp]
        have hone : Sem.run P (do loadVar t (← asAddr (a.tmps.getD x undef))) w = .ok (.agg l'.toArray) w := by
          rw [hg]
          have ha : (asAddr (.pointer (some p))).run P w = .ok p w := by simp [asAddr]
          rw [Sem.run_bind, ha]
          simp [loadVar, h1.1, run_size h1.2, h2]
        rw [List.mapM_cons]
        dsimp only
        rw [Sem.run_bind, hone]
        simp only [Result.andThen_ok]
        rw [Sem.run_bind, hrun]
        simp
      · exact h.elim
    · exact h.elim

theorem res_run (rs : Array ResultVar) (g : ResultVar → Sem Value) {vs : List Value} {w : World} (h : (rs.toList.mapM g).run P w = .ok vs w) :
    Sem.run P (do let vs ← rs.mapM g; pure (if h : vs.size = 1 then vs[0] else .tuple vs)) w = .ok (tupV vs) w := by
  rw [← Array.toArray_toList (xs := rs), List.mapM_toArray]
  simp only [Sem.run_bind, Sem.run_map, h, Result.andThen_ok, Sem.run_pure]
  rcases vs with _ | ⟨v, _ | ⟨v', l⟩⟩
  · rfl
  · rfl
  · simp [tupV]

theorem resX_run {fn : Func} {a : Act} {e : Env} {w : World} {K : Cont} (hr : Rep n a e) (h : resX P fn.results e w K) : ∃ v, (results fn a.tmps).run P w = .ok v w ∧ K v w := by
  obtain ⟨vs, hk, hrun⟩ := resOne_run hr _ _ h
  exact ⟨_, res_run fn.results _ hrun, hk⟩

theorem rep_args (n : Nat) : ∀ (args : List Value) (k : Nat) (pre : List Value), pre.length = k → k + args.length ≤ n → Rep n { tmps := (pre ++ args).toArray ++ Array.replicate (n - (k + args.length)) undef, defers := [] } (fun i => if k ≤ i then argE n k args i else none)
  | [], k, pre, hp, hn => by
    subst hp
    refine ⟨by simp at hn ⊢; omega, fun i s hs => ?_⟩
    dsimp only at hs
    split at hs
    · rename_i hk
      simp only [argE] at hs
      cases hb : Nat.blt i n with
      | false => rw [hb] at hs; simp at hs
      | true =>
        rw [hb] at hs
        simp at hs
        subst hs
        simp [Array.getElem?_append, Array.getElem?_replicate]
        rw [if_neg (by omega)]
        split <;> rfl
    · cases hs
  | v :: l, k, pre, hp, hn => by
    have := rep_args n l (k + 1) (pre ++ [v]) (by simp [hp]) (by simp at hn; omega)
    have he : (pre ++ [v] ++ l) = pre ++ v :: l := by simp
    have hk1 : k + 1 + l.length = k + (v :: l).length := by simp; omega
    rw [he, hk1] at this
    refine ⟨this.1, fun i s hs => ?_⟩
    dsimp only at hs
    split at hs
    · rename_i hk
      simp only [argE, Env.put] at hs
      cases hb : Nat.beq i k with
      | true =>
        rw [hb] at hs
        have : i = k := Nat.eq_of_beq_eq_true hb
        subst this
        simp only [cond_true] at hs
        cases hlt : Nat.blt i n with
        | false => rw [hlt] at hs; simp at hs
        | true =>
          rw [hlt] at hs
          simp at hs
          subst hs
          simp [Array.getElem?_append, hp, SV.val]
      | false =>
        rw [hb] at hs
        simp only [cond_false] at hs
        have hne : i ≠ k := fun e => by subst e; rw [Nat.beq_refl] at hb; cases hb
        exact this.2 i s (by simp only [hs, if_pos (show k + 1 ≤ i by omega)])
    · cases hs

theorem fX_sound (hm : P.follows .mixedOrders = true) {f : FuncId} {A : Ann} {args : List Value} {w : World} {K : Cont} (h : fX P f A args w K) : callX P f args w K := by
  unfold fX at h
  split at h
  · rename_i fn hf
    split at h
    · rename_i c hb
      cases hl : Nat.ble args.length fn.ntmps with
      | false => rw [hl] at h; exact h.elim
      | true =>
        rw [hl] at h
        simp only [cond_true] at h
        have hrep : Rep fn.ntmps { tmps := args.toArray ++ Array.replicate (fn.ntmps - args.toArray.size) undef, defers := [] } (argE fn.ntmps 0 args) := by
          have := rep_args fn.ntmps args 0 [] rfl (by simpa [Nat.ble_eq] using hl)
          simpa using this
        refine callsIn_wide.1 (callsIn_of_wp (n := 0) hf hb trivial (wpIn_mono (csem_sound (rd := none) hm (fun _ => rfl) c A _ w _ (fun _ => true) _ _ _ (inside_true c) h hrep) ?_))
        · intro ex a' w' hx
          cases ex with
          | normal =>
            obtain ⟨e, hr, hk, h'⟩ := hx
            obtain ⟨v, h1, h2⟩ := resX_run hr h'
            exact ⟨hk.1, v, h1, v, rfl, h2⟩
          | ret =>
            obtain ⟨e, hr, hk, h'⟩ := hx
            obtain ⟨v, h1, h2⟩ := resX_run hr h'
            exact ⟨hk.1, v, h1, v, rfl, h2⟩
          | exit id => obtain ⟨e, hr, hk, h'⟩ := hx; exact h'.elim
          | _ => exact hx.elim
    · exact h.elim
  · exact h.elim

theorem fX_call (hm : P.follows .mixedOrders = true) {f : FuncId} {A : Ann} {args : List Value} {w : World} {K : Cont} {Q : Prop} (he : fX P f A args w K = Q) (h : Q) : callX P f args w K :=
  fX_sound hm (A := A) (he.symm ▸ h)

end
attribute [irreducible] fX
end Go.Proofs.YtgnmelnohclpgaaDoor
