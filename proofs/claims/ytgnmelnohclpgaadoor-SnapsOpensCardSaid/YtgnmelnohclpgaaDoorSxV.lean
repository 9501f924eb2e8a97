/- Own framework, part V: functions with one 'defer' of a closure that stands on the body's spine: what they do, and that their call does just that. -/
import Derived.Test.YtgnmelnohclpgaaDoorSxR
import Derived.DefersIn
set_option linter.unusedVariables false
set_option linter.unusedSimpArgs false
namespace Go.Proofs.YtgnmelnohclpgaaDoor
open Go

/-- a deferred call, while its frame returns -/
def callDX (P : Program) (f : FuncId) (args : List Value) (w : World) (K : Cont) : Prop :=
  hasBody P f = true ∧ CallsDIn (Fr none) 0 P f args.toArray .returning w fun e u' w' => ∃ v, e = .returned v ∧ u' = .returning ∧ K v w'

/-- the piece that defers: a closure is made, and deferred -/
def deferOf : Code → Option (Array Oper × Oper × Oper × Tmp)
  | .region _ ops false => match ops.toList with
    | [o1, o2] => match o1.op, o1.dst, o1.guard, o2.op, o2.dst, o2.guard with
      | .makeFunc _ _ _, some d, none, .defer c, none, none => match c.callee with
        | .value (.tmp d') => bif Nat.beq d d' && Nat.beq c.args.size 0 then some (ops, o1, o2, d) else none
        | _ => none
      | _, _, _, _, _, _ => none
    | _ => none
  | _ => none

def dX (P : Program) (n : Nat) (fn : Func) : Code → Ann → Env → World → Cont → Prop
  | .seq a b, A, e, w, K => match deferOf a with
    | some (ops, o1, _, d) => opsX P n ops [o1] e w fun e1 w1 => match e1 d with
      | some (.v (.func (.func g) first cap)) => csem P n true b A.r e1 w1 (fun e2 w2 => callDX P g (first.toList ++ cap.toList) w2 fun _ w3 => resX P fn.results e2 w3 K) (fun _ _ _ => False)
          (fun e2 w2 => callDX P g (first.toList ++ cap.toList) w2 fun _ w3 => resX P fn.results e2 w3 K)
      | _ => False
    | none => csem P n true a A.l e w (fun e w => dX P n fn b A.r e w K) (fun _ _ _ => False) (fun e w => resX P fn.results e w K)
  | _, _, _, _, _ => False

def fDX (P : Program) (f : FuncId) (A : Ann) (args : List Value) (w : World) (K : Cont) : Prop := match P.funcs[f]? with
  | some fn => (match fn.body with
    | some c => bif Nat.ble args.length fn.ntmps then dX P fn.ntmps fn c A (argE fn.ntmps 0 args) w K else False
    | none => False)
  | none => False

section
variable {P : Program} {n : Nat}

theorem deferOf_some {c : Code} {ops : Array Oper} {o1 o2 : Oper} {d : Tmp} (h : deferOf c = some (ops, o1, o2, d)) :
    ∃ id cl ty, c = .region id ops false ∧ ops.toList = [o1, o2] ∧ o1.guard = none ∧ o2.op = .defer ⟨.value (.tmp d), #[], ty⟩ ∧ o2.dst = none ∧ o2.guard = none ∧ cl = () := by
  unfold deferOf at h
  split at h
  · split at h
    · rename_i hl
      split at h
      · rename_i h1 h2 h3 h4 h5 h6
        split at h
        · rename_i d0 c _ d' hc
          cases hb : (Nat.beq d0 d' && Nat.beq c.args.size 0) with
          | false => rw [hb] at h; simp at h
          | true =>
            rw [hb] at h
            simp only [cond_true, Option.some.injEq, Prod.mk.injEq] at h
            obtain ⟨rfl, rfl, rfl, rfl⟩ := h
            simp only [Bool.and_eq_true] at hb
            have hd := Nat.eq_of_beq_eq_true hb.1
            have hs := Nat.eq_of_beq_eq_true hb.2
            subst hd
            refine ⟨_, (), c.argTypes, rfl, hl, h3, ?_, h5, h6, rfl⟩
            rw [h4]
            obtain ⟨ce, ar, at'⟩ := c
            simp only at hc hs ⊢
            subst hc
            rw [Array.size_eq_zero_iff] at hs
            rw [hs]
        · cases h
      · cases h
    · cases h
  · cases h

theorem dX_sound (hm : P.follows .mixedOrders = true) {fn : Func} {K : Cont} : ∀ (c : Code) (A : Ann) (e : Env) (w : World) (a : Act), dX P n fn c A e w K → Rep n a e → a.defers = [] →
    c.wpIn (Fr none) 0 P (bodyPostDIn (Fr none) 0 P fn fun e w' => ∃ v, e = .returned v ∧ K v w') a w := by
  have fin : ∀ (g : FuncId) (first cap : Array Value) (e2 : Env) (a2 : Act) (w2 : World), Rep n a2 e2 → a2.defers = [⟨.fn (.func g) cap, first⟩] →
      callDX P g (first.toList ++ cap.toList) w2 (fun _ w3 => resX P fn.results e2 w3 K) → LeavesIn (Fr none) 0 P fn a2.tmps (fun e w' => ∃ v, e = .returned v ∧ K v w') a2.defers .returning w2 := by
    intro g first cap e2 a2 w2 hr hd ⟨hb, h⟩
    rw [hd]
    refine ⟨by simp, (fun h => by cases h), .func g, cap, g, (first.toList ++ cap.toList).toArray, rfl, ?_, fun _ _ => trivial, h.1, fun c cs hu hroom => ?_⟩
    · have := run_call_body (P := P) (w := w2) (args := first ++ cap) hb
      have e : (first.toList ++ cap.toList).toArray = first ++ cap := by simp
      rw [e]
      simpa [invoke] using this
    · obtain ⟨ex, u', w', fr, ⟨v, rfl, rfl, h3⟩, hc⟩ := h.2 c cs hu hroom
      refine ⟨_, _, _, fr, ?_, hc⟩
      obtain ⟨v', h4, h5⟩ := resX_run hr h3
      exact ⟨v', h4, v', rfl, h5⟩
  intro c
  induction c with
  | seq x y ihx ihy =>
    intro A e w a h hr hd
    simp only [dX] at h
    cases hf : deferOf x with
    | none =>
      rw [hf] at h
      refine wpIn_seq (wpIn_mono (csem_sound (rd := none) hm (fun _ => rfl) x A.l e w a (fun _ => true) _ _ _ (inside_true _) h hr) ?_)
      intro ex a' w' hx
      cases ex with
      | normal => obtain ⟨e', hr', hk', h'⟩ := hx; exact ihy _ e' w' a' h' hr' (hk'.1.trans hd)
      | ret =>
        obtain ⟨e2, hr2, hk2, h2⟩ := hx
        obtain ⟨v, h3, h4⟩ := resX_run hr2 h2
        show LeavesIn _ _ _ _ _ _ _ _ _
        rw [hk2.1, hd]
        exact ⟨v, h3, v, rfl, h4⟩
      | exit id => obtain ⟨e2, hr2, hk2, h2⟩ := hx; exact h2.elim
      | _ => exact hx.elim
    | some q =>
      obtain ⟨ops, o1, o2, d⟩ := q
      rw [hf] at h
      obtain ⟨id, _, ty, rfl, hl, hg1, ho2, hd2, hg2, _⟩ := deferOf_some hf
      refine wpIn_seq (wpIn_region_list ?_)
      rw [hl]
      simp only [opsX] at h
      unfold wpListIn
      rcases guard_cases hr h with ⟨e', hr', h, hw⟩ | ⟨e', hr', h, hw⟩
      · rw [if_pos hw]
        refine opX_wp hr' h fun s w' hk => ?_
        have hr1 := hr'.put o1.dst s
        generalize e'.put n o1.dst s = e1 at hk hr1
        have hd1 : (a.put o1.dst s.val).defers = [] := by rw [← hd]; cases o1.dst <;> rfl
        generalize a.put o1.dst s.val = a1 at hr1 hd1 ⊢
        split at hk
        · rename_i g first cap he1
          have hv := hr1.2 d _ he1
          unfold wpListIn
          rw [if_pos (by simp [Region.wanted, hg2])]
          refine ⟨fun _ _ => trivial, ?_⟩
          have hrun : (o2.semAt (Fr none).round a1.eval).run P w' = .ok (.defer ⟨.fn (.func g) cap, first⟩) w' := by
            show (execOp a1.eval o2).run P w' = _
            unfold execOp
            rw [ho2]
            have hev : a1.eval (.tmp d) = .func (.func g) first cap := by
              show a1.tmps.getD d undef = _
              rw [Array.getD_eq_getD_getElem?, hv]
              rfl
            simp [resolve, hev, Deferred.ofValue]
          rw [hrun, Oper.uponIn_defer, hd2]
          show wpListIn _ _ _ _ _ [] _ _
          unfold wpListIn
          refine wpIn_mono (csem_sound (rd := none) hm (fun _ => rfl) y A.r e1 w' _ (fun _ => true) _ _ _ (inside_true _) hk ⟨hr1.1, hr1.2⟩) ?_
          intro ex a2 w2 hx
          cases ex with
          | normal =>
            obtain ⟨e2, hr2, hk2, h2⟩ := hx
            exact fin g first cap e2 a2 w2 hr2 (hk2.1.trans (by show _ :: a1.defers = _; rw [hd1])) h2
          | ret =>
            obtain ⟨e2, hr2, hk2, h2⟩ := hx
            exact fin g first cap e2 a2 w2 hr2 (hk2.1.trans (by show _ :: a1.defers = _; rw [hd1])) h2
          | exit id => obtain ⟨e2, hr2, hk2, h2⟩ := hx; exact h2.elim
          | _ => exact hx.elim
        · exact hk.elim
      · simp [Region.wanted, hg1] at hw
  | _ => intro A e w a h; simp [dX] at h

theorem fDX_sound (hm : P.follows .mixedOrders = true) {f : FuncId} {A : Ann} {args : List Value} {w : World} {K : Cont} (h : fDX P f A args w K) : callX P f args w K := by
  unfold fDX at h
  split at h
  · rename_i fn hf
    split at h
    · rename_i c hb
      cases hl : Nat.ble args.length fn.ntmps with
      | false => rw [hl] at h; exact h.elim
      | true =>
        rw [hl] at h
        simp only [cond_true] at h
        have hrep : Rep fn.ntmps { tmps := args.toArray ++ Array.replicate (fn.ntmps - args.toArray.size) undef, defers := [] } (argE fn.ntmps 0 args) := by
          have := rep_args fn.ntmps args 0 [] rfl (by simpa [Nat.ble_eq] using hl)
          simpa using this
        exact callsIn_wide.1 (callsIn_of_wp_defers (n := 0) hf hb trivial (dX_sound hm c A _ w _ h hrep rfl))
    · exact h.elim
  · exact h.elim
theorem fDX_call (hm : P.follows .mixedOrders = true) {f : FuncId} {A : Ann} {args : List Value} {w : World} {K : Cont} {Q : Prop} (he : fDX P f A args w K = Q) (h : Q) : callX P f args w K :=
  fDX_sound hm (A := A) (he.symm ▸ h)

/-- a function without deferred calls, called as one -/
theorem fX_soundD (hm : P.follows .mixedOrders = true) {f : FuncId} {A : Ann} {args : List Value} {w : World} {K : Cont} (hh : hasBody P f = true) (h : fX P f A args w K) : callDX P f args w K := by
  refine ⟨hh, ?_⟩
  unfold fX at h
  split at h
  · rename_i fn hf
    split at h
    · rename_i c hb
      cases hl : Nat.ble args.length fn.ntmps with
      | false => rw [hl] at h; exact h.elim
      | true =>
        rw [hl] at h
        simp only [cond_true] at h
        have hrep : Rep fn.ntmps { tmps := args.toArray ++ Array.replicate (fn.ntmps - args.toArray.size) undef, defers := [] } (argE fn.ntmps 0 args) := by
          have := rep_args fn.ntmps args 0 [] rfl (by simpa [Nat.ble_eq] using hl)
          simpa using this
        have := callsDIn_of_wp (F := Fr none) (n := 0) (u := .returning) (R := fun e w' => ∃ v, e = .returned v ∧ K v w') hf hb trivial (wpIn_mono (csem_sound (rd := none) hm (fun _ => rfl) c A _ w _ (fun _ => true) _ _ _ (inside_true c) h hrep) ?_)
        · refine ⟨this.1, fun c cs hu hroom => ?_⟩
          obtain ⟨ex, u', w', fr, ⟨h1, v, h2, h3⟩, hc⟩ := this.2 c cs hu hroom
          exact ⟨ex, u', w', fr, ⟨v, h2, h1, h3⟩, hc⟩
        · intro ex a' w' hx
          cases ex with
          | normal =>
            obtain ⟨e, hr, hk, h'⟩ := hx
            obtain ⟨v, h1, h2⟩ := resX_run hr h'
            exact ⟨hk.1, v, h1, v, rfl, h2⟩
          | ret =>
            obtain ⟨e, hr, hk, h'⟩ := hx
            obtain ⟨v, h1, h2⟩ := resX_run hr h'
            exact ⟨hk.1, v, h1, v, rfl, h2⟩
          | exit id => obtain ⟨e, hr, hk, h'⟩ := hx; exact h'.elim
          | _ => exact hx.elim
    · exact h.elim
  · exact h.elim
theorem fX_callD (hm : P.follows .mixedOrders = true) {f : FuncId} {A : Ann} {args : List Value} {w : World} {K : Cont} {Q : Prop} (he : fX P f A args w K = Q) (hh : hasBody P f = true) (h : Q) : callDX P f args w K :=
  fX_soundD hm (A := A) hh (he.symm ▸ h)
end
attribute [irreducible] fDX
end Go.Proofs.YtgnmelnohclpgaaDoor
