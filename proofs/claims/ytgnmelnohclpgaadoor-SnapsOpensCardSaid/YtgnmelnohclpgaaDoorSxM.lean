/- Own framework, part M: operations that hang on no memory; operations that read it. -/
import Derived.Test.YtgnmelnohclpgaaDoorSxL
set_option linter.unusedVariables false
set_option linter.unusedSimpArgs false
namespace Go.Proofs.YtgnmelnohclpgaaDoor
open Go

/-- does an operation hang on its operands alone? -/
def pureOp (P : Program) : Op → Bool
  | .move _ | .assign _ | .pick .. | .fieldAddr .. | .field .. | .indexAddr .. | .index .. | .extract .. | .unOp .. | .binOp .. | .nilCheck _ | .makeInterface .. | .makeFunc .. | .typeAssert .. | .slice .. | .build .. => true
  | .convert s d _ => (match P.underlying s, P.underlying d with
    | some (.int _), some (.int _) => true
    | _, _ => false)
  | .call c => (match c.callee with
    | .builtin .len => noMap P c.argTypes
    | .builtin .max => true
    | .builtin .min => true
    | _ => false)
  | _ => false

/-- a meaning that is a single value, if it is any -/
def Det (F : (Value → Prop) → Prop) : Prop := ∀ K, F K → ∃ v, K v ∧ ∀ K', K' v → F K'

section
theorem det_pick (c a b : Value) : Det (pickX c a b) := by
  intro K h; unfold pickX at h ⊢; split at h
  · exact ⟨_, h, fun _ h => h⟩
  · exact h.elim
theorem det_fieldAddr (o : Nat) (a : Value) : Det (fieldAddrX o a) := by
  intro K h; unfold fieldAddrX at h ⊢; split at h
  · exact ⟨_, h, fun _ h => h⟩
  · exact h.elim
theorem det_indexS (s : Nat) (a b : Value) : Det (indexSX s a b) := by
  intro K h; unfold indexSX at h ⊢; split at h
  · exact ⟨_, h.2.2, fun _ k => ⟨h.1, h.2.1, k⟩⟩
  · exact h.elim
theorem det_indexA (l s : Nat) (a b : Value) : Det (indexAX l s a b) := by
  intro K h; unfold indexAX at h ⊢; split at h
  · exact ⟨_, h.2.2, fun _ k => ⟨h.1, h.2.1, k⟩⟩
  · exact h.elim
theorem det_indexStr (a b : Value) : Det (indexStrX a b) := by
  intro K h; unfold indexStrX at h ⊢; split at h
  · obtain ⟨h0, c, hc, hk⟩ := h
    exact ⟨_, hk, fun _ k => ⟨h0, c, hc, k⟩⟩
  · exact h.elim
theorem det_indexV (l : Nat) (a b : Value) : Det (indexVX l a b) := by
  intro K h; unfold indexVX at h ⊢; split at h
  · obtain ⟨h0, h1, c, hc, hk⟩ := h
    exact ⟨_, hk, fun _ k => ⟨h0, h1, c, hc, k⟩⟩
  · exact h.elim
theorem det_field (o : Nat) (a : Value) : Det (fieldX o a) := by
  intro K h; unfold fieldX at h ⊢; split at h
  · obtain ⟨c, hc, hk⟩ := h
    exact ⟨_, hk, fun _ k => ⟨c, hc, k⟩⟩
  · exact h.elim
theorem det_fieldN (o n : Nat) (a : Value) : Det (fieldNX o n a) := by
  intro K h; unfold fieldNX at h ⊢; split at h
  · exact ⟨_, h, fun _ h => h⟩
  · exact h.elim
theorem det_extract (a : Value) (i : Nat) : Det (extractX a i) := by
  intro K h; unfold extractX at h ⊢; split at h
  · obtain ⟨c, hc, hk⟩ := h
    exact ⟨_, hk, fun _ k => ⟨c, hc, k⟩⟩
  · exact h.elim
theorem det_nil (a : Value) : Det (nilX a) := by
  intro K h; unfold nilX at h ⊢; split at h
  all_goals first | exact h.elim | exact ⟨_, h, fun _ h => h⟩
theorem det_not (a : Value) : Det (notX a) := by
  intro K h; unfold notX at h ⊢; split at h
  all_goals first | exact h.elim | exact ⟨_, h, fun _ h => h⟩
theorem det_neg (a : Value) : Det (negX a) := by
  intro K h; unfold negX at h ⊢; split at h
  all_goals first | exact h.elim | exact ⟨_, h, fun _ h => h⟩
theorem det_cpl (a : Value) : Det (cplX a) := by
  intro K h; unfold cplX at h ⊢; split at h
  all_goals first | exact h.elim | exact ⟨_, h, fun _ h => h⟩
theorem det_add (a b : Value) : Det (addX a b) := by
  intro K h; unfold addX at h ⊢; split at h
  all_goals first | exact h.elim | exact ⟨_, h.2, fun _ k => ⟨h.1, k⟩⟩
theorem det_sub (a b : Value) : Det (subX a b) := by
  intro K h; unfold subX at h ⊢; split at h
  all_goals first | exact h.elim | exact ⟨_, h.2, fun _ k => ⟨h.1, k⟩⟩
theorem det_mul (a b : Value) : Det (mulX a b) := by
  intro K h; unfold mulX at h ⊢; split at h
  all_goals first | exact h.elim | exact ⟨_, h.2, fun _ k => ⟨h.1, k⟩⟩
theorem det_quo (a b : Value) : Det (quoX a b) := by
  intro K h; unfold quoX at h ⊢; split at h
  all_goals first | exact h.elim | exact ⟨_, h.2.2, fun _ k => ⟨h.1, h.2.1, k⟩⟩
theorem det_rem (a b : Value) : Det (remX a b) := by
  intro K h; unfold remX at h ⊢; split at h
  all_goals first | exact h.elim | exact ⟨_, h.2.2, fun _ k => ⟨h.1, h.2.1, k⟩⟩
theorem det_and (a b : Value) : Det (andX a b) := by
  intro K h; unfold andX at h ⊢; split at h
  all_goals first | exact h.elim | exact ⟨_, h.2, fun _ k => ⟨h.1, k⟩⟩
theorem det_or (a b : Value) : Det (orX a b) := by
  intro K h; unfold orX at h ⊢; split at h
  all_goals first | exact h.elim | exact ⟨_, h.2, fun _ k => ⟨h.1, k⟩⟩
theorem det_xor (a b : Value) : Det (xorX a b) := by
  intro K h; unfold xorX at h ⊢; split at h
  all_goals first | exact h.elim | exact ⟨_, h.2, fun _ k => ⟨h.1, k⟩⟩
theorem det_andNot (a b : Value) : Det (andNotX a b) := by
  intro K h; unfold andNotX at h ⊢; split at h
  all_goals first | exact h.elim | exact ⟨_, h.2, fun _ k => ⟨h.1, k⟩⟩
theorem det_shl (a b : Value) : Det (shlX a b) := by
  intro K h; unfold shlX at h ⊢; split at h
  all_goals first | exact h.elim | exact ⟨_, h.2, fun _ k => ⟨h.1, k⟩⟩
theorem det_shr (a b : Value) : Det (shrX a b) := by
  intro K h; unfold shrX at h ⊢; split at h
  all_goals first | exact h.elim | exact ⟨_, h.2, fun _ k => ⟨h.1, k⟩⟩
theorem det_lt (a b : Value) : Det (ltX a b) := by
  intro K h; unfold ltX at h ⊢; split at h
  all_goals first | exact h.elim | exact ⟨_, h.2, fun _ k => ⟨h.1, k⟩⟩
theorem det_le (a b : Value) : Det (leX a b) := by
  intro K h; unfold leX at h ⊢; split at h
  all_goals first | exact h.elim | exact ⟨_, h.2, fun _ k => ⟨h.1, k⟩⟩
theorem det_gt (a b : Value) : Det (gtX a b) := by
  intro K h; unfold gtX at h ⊢; split at h
  all_goals first | exact h.elim | exact ⟨_, h.2, fun _ k => ⟨h.1, k⟩⟩
theorem det_ge (a b : Value) : Det (geX a b) := by
  intro K h; unfold geX at h ⊢; split at h
  all_goals first | exact h.elim | exact ⟨_, h.2, fun _ k => ⟨h.1, k⟩⟩
theorem det_eq (k : EqK) (a b : Value) : Det (eqX k a b) := by
  intro K h; unfold eqX at h ⊢; split at h
  all_goals first | exact h.elim | exact ⟨_, h, fun _ k => k⟩
theorem det_ne (k : EqK) (a b : Value) : Det (neX k a b) := by
  intro K h; unfold neX at h ⊢; split at h
  all_goals first | exact h.elim | exact ⟨_, h, fun _ k => k⟩
theorem det_eqN (n : Nat) (l : List (Nat × EqK)) (a b : Value) : Det (eqNX n l a b) := by
  intro K h; unfold eqNX at h ⊢; split at h
  · obtain ⟨h1, h2, h⟩ := h
    split at h
    · exact ⟨_, h, fun _ k => ⟨h1, h2, k⟩⟩
    · exact h.elim
  · exact h.elim
theorem det_neN (n : Nat) (l : List (Nat × EqK)) (a b : Value) : Det (neNX n l a b) := by
  intro K h; unfold neNX at h ⊢; split at h
  · obtain ⟨h1, h2, h⟩ := h
    split at h
    · exact ⟨_, h, fun _ k => ⟨h1, h2, k⟩⟩
    · exact h.elim
  · exact h.elim
theorem det_convI (k : IntKind) (a : Value) : Det (convIX k a) := by
  intro K h; unfold convIX at h ⊢; split at h
  all_goals first | exact h.elim | exact ⟨_, h, fun _ k => k⟩
theorem det_iface (t : TypeId) (a : Value) : Det (ifaceX t a) := fun K h => ⟨_, h, fun _ k => k⟩
theorem det_assert (t : TypeId) (z a : Value) : Det (assertX t z a) := by
  intro K h; unfold assertX at h ⊢; split at h
  all_goals first | exact h.elim | exact ⟨_, h, fun _ k => k⟩
theorem det_lenS (a : Value) : Det (lenSX a) := by
  intro K h; unfold lenSX at h ⊢; split at h
  all_goals first | exact h.elim | exact ⟨_, h, fun _ k => k⟩
theorem det_lenStr (a : Value) : Det (lenStrX a) := by
  intro K h; unfold lenStrX at h ⊢; split at h
  all_goals first | exact h.elim | exact ⟨_, h, fun _ k => k⟩
theorem det_max (a b : Value) : Det (maxX a b) := by
  intro K h; unfold maxX at h ⊢; split at h
  all_goals first | exact h.elim | exact ⟨_, h, fun _ k => k⟩
theorem det_min (a b : Value) : Det (minX a b) := by
  intro K h; unfold minX at h ⊢; split at h
  all_goals first | exact h.elim | exact ⟨_, h, fun _ k => k⟩
theorem det_slice (s : Nat) (x : Value) (lo hi mx : Option Value) : Det (sliceX s x lo hi mx) := by
  intro K h; unfold sliceX at h ⊢; split at h
  · obtain ⟨l, hh, m, e1, e2, e3, q1, q2, q3, hmx, hk⟩ := h
    exact ⟨_, hk, fun _ k => ⟨l, hh, m, e1, e2, e3, q1, q2, q3, hmx, k⟩⟩
  · exact h.elim
theorem det_sliceStr (x : Value) (lo hi : Option Value) : Det (sliceStrX x lo hi) := by
  intro K h; unfold sliceStrX at h ⊢; split at h
  · obtain ⟨l, hh, e2, e3, q1, q2, hk⟩ := h
    exact ⟨_, hk, fun _ k => ⟨l, hh, e2, e3, q1, q2, k⟩⟩
  · exact h.elim
theorem det_build (z : List Value) (ps : List (Nat × Nat × Value)) : Det (buildX z ps) := fun K h => ⟨_, h.2, fun _ k => ⟨h.1, k⟩⟩

theorem Det.w1 {o : Option SV} {F : Value → (Value → Prop) → Prop} (h : ∀ v, Det (F v)) : Det (fun K => w1 o fun v => F v K) := by
  intro K hk
  cases o with
  | none => exact hk.elim
  | some s => exact h s.val K hk
theorem Det.wo {e : Env} {o : Option Operand} {F : Option Value → (Value → Prop) → Prop} (h : ∀ v, Det (F v)) : Det (fun K => wo e o fun v => F v K) := by
  intro K hk
  cases o with
  | none => exact h none K hk
  | some x => exact Det.w1 (o := ev e x) (F := fun v => F (some v)) (fun v => h (some v)) K hk
theorem Det.no : Det (fun _ => False) := fun _ h => h.elim
theorem Det.bif {b : Bool} {F G : (Value → Prop) → Prop} (h1 : Det F) (h2 : Det G) : Det (fun K => bif b then F K else G K) := by
  cases b
  · exact h2
  · exact h1

variable {P : Program} {w : World} {a : Act} {e : Env} {n : Nat}

/-- what a pure operation's meaning comes to: one value -/
def DetO (P : Program) (e : Env) (op : Op) : Prop := ∀ (w : World) (K : SV → World → Prop), opX P e op w K → ∃ s, K s w ∧ ∀ w' K', K' s w' → opX P e op w' K'

theorem DetO.of {op : Op} {F : (Value → Prop) → Prop} (h : Det F) (he : ∀ w K, opX P e op w K = F fun v => K (.v v) w) : DetO P e op := by
  intro w K hk
  rw [he] at hk
  obtain ⟨v, h1, h2⟩ := h _ hk
  exact ⟨.v v, h1, fun w' K' hk' => by rw [he]; exact h2 (fun v => K' (.v v) w') hk'⟩
theorem DetO.sv {op : Op} {o : Option SV} (he : ∀ w K, opX P e op w K = (match o with | some s => K s w | none => False)) : DetO P e op := by
  intro w K hk
  rw [he] at hk
  cases o with
  | none => exact hk.elim
  | some s => exact ⟨s, hk, fun w' K' hk' => by rw [he]; exact hk'⟩

theorem det_eqOf (t : TypeId) (x y : Operand) (ne : Bool) : Det (eqOf P e t x y ne) := by
  unfold eqOf
  split
  · split
    · exact Det.w1 fun x => Det.w1 fun y => Det.bif (det_ne _ _ _) (det_eq _ _ _)
    · exact Det.no
  · exact Det.w1 fun x => Det.w1 fun y => Det.bif (det_ne _ _ _) (det_eq _ _ _)
  · split
    · exact Det.no
    · split
      · exact Det.w1 fun x => Det.w1 fun y => Det.bif (det_neN _ _ _ _) (det_eqN _ _ _ _)
      · exact Det.no

theorem no_det {op : Op} (he : ∀ w K, opX P e op w K = False) : DetO P e op := fun w K hk => by rw [he] at hk; exact hk.elim

theorem pure_det {op : Op} (h : pureOp P op = true) : DetO P e op := by
  cases op with
  | move x => exact DetO.sv (o := ev e x) fun w K => rfl
  | assign x => exact DetO.sv (o := ev e x) fun w K => rfl
  | pick c x y =>
    cases hc : ev e c with
    | none => exact no_det fun w K => by simp only [opX, hc]
    | some s =>
      cases s with
      | b t =>
        cases t
        · exact DetO.sv (o := ev e y) fun w K => by simp only [opX, hc]; rfl
        · exact DetO.sv (o := ev e x) fun w K => by simp only [opX, hc]; rfl
      | no => exact no_det fun w K => by simp only [opX, hc]
      | v c' => exact DetO.of (F := fun k => w1 (ev e x) fun a => w1 (ev e y) fun b => pickX c' a b k) (Det.w1 fun a => Det.w1 fun b => det_pick _ _ _) fun w K => by simp only [opX, hc]
  | fieldAddr s x f =>
    cases hf : fieldOff P s f with
    | none => exact no_det fun w K => by simp only [opX, hf]
    | some o => exact DetO.of (F := fun k => w1 (ev e x) fun a => fieldAddrX o a k) (Det.w1 fun a => det_fieldAddr _ _) fun w K => by simp only [opX, hf]
  | field s x f =>
    cases hf : fieldAt' P s f with
    | none => exact no_det fun w K => by simp only [opX, hf]
    | some o =>
      obtain ⟨o, m⟩ := o
      cases m with
      | none => exact DetO.of (F := fun k => w1 (ev e x) fun a => fieldX o a k) (Det.w1 fun a => det_field _ _) fun w K => by simp only [opX, hf]
      | some m => exact DetO.of (F := fun k => w1 (ev e x) fun a => fieldNX o m a k) (Det.w1 fun a => det_fieldN _ _ _) fun w K => by simp only [opX, hf]
  | indexAddr t x i =>
    cases hu : P.underlying t with
    | none => exact no_det fun w K => by simp only [opX, hu]
    | some d =>
      cases d with
      | slice el =>
        cases hs : sizeP P el with
        | none => exact no_det fun w K => by simp only [opX, hu, hs]
        | some s => exact DetO.of (F := fun k => w1 (ev e x) fun a => w1 (ev e i) fun b => indexSX s a b k) (Det.w1 fun a => Det.w1 fun b => det_indexS _ _ _) fun w K => by simp only [opX, hu, hs]
      | array m el =>
        cases hs : sizeP P el with
        | none => exact no_det fun w K => by simp only [opX, hu, hs]
        | some s => exact DetO.of (F := fun k => w1 (ev e x) fun a => w1 (ev e i) fun b => indexAX m s a b k) (Det.w1 fun a => Det.w1 fun b => det_indexA _ _ _ _) fun w K => by simp only [opX, hu, hs]
      | _ => exact no_det fun w K => by simp only [opX, hu]
  | index t x i =>
    cases hu : P.underlying t with
    | none => exact no_det fun w K => by simp only [opX, hu]
    | some d =>
      cases d with
      | string => exact DetO.of (F := fun k => w1 (ev e x) fun a => w1 (ev e i) fun b => indexStrX a b k) (Det.w1 fun a => Det.w1 fun b => det_indexStr _ _) fun w K => by simp only [opX, hu]
      | array m el =>
        cases hs : aggN P el with
        | none => exact no_det fun w K => by simp only [opX, hu, hs]
        | some s =>
          cases s with
          | none => exact DetO.of (F := fun k => w1 (ev e x) fun a => w1 (ev e i) fun b => indexVX m a b k) (Det.w1 fun a => Det.w1 fun b => det_indexV _ _ _) fun w K => by simp only [opX, hu, hs]
          | some s => exact no_det fun w K => by simp only [opX, hu, hs]
      | _ => exact no_det fun w K => by simp only [opX, hu]
  | extract x i => exact DetO.of (F := fun k => w1 (ev e x) fun a => extractX a i k) (Det.w1 fun a => det_extract _ _) fun w K => rfl
  | unOp op t x =>
    cases op with
    | plus => exact no_det fun w K => rfl
    | not => exact DetO.of (F := fun k => w1 (ev e x) fun a => notX a k) (Det.w1 fun a => det_not _) fun w K => rfl
    | neg => exact DetO.of (F := fun k => w1 (ev e x) fun a => negX a k) (Det.w1 fun a => det_neg _) fun w K => rfl
    | xor => exact DetO.of (F := fun k => w1 (ev e x) fun a => cplX a k) (Det.w1 fun a => det_cpl _) fun w K => rfl
  | binOp op t x y t' =>
    cases op with
    | add => exact DetO.of (F := fun k => w1 (ev e x) fun a => w1 (ev e y) fun b => addX a b k) (Det.w1 fun a => Det.w1 fun b => det_add _ _) fun w K => rfl
    | sub => exact DetO.of (F := fun k => w1 (ev e x) fun a => w1 (ev e y) fun b => subX a b k) (Det.w1 fun a => Det.w1 fun b => det_sub _ _) fun w K => rfl
    | mul => exact DetO.of (F := fun k => w1 (ev e x) fun a => w1 (ev e y) fun b => mulX a b k) (Det.w1 fun a => Det.w1 fun b => det_mul _ _) fun w K => rfl
    | quo => exact DetO.of (F := fun k => w1 (ev e x) fun a => w1 (ev e y) fun b => quoX a b k) (Det.w1 fun a => Det.w1 fun b => det_quo _ _) fun w K => rfl
    | rem => exact DetO.of (F := fun k => w1 (ev e x) fun a => w1 (ev e y) fun b => remX a b k) (Det.w1 fun a => Det.w1 fun b => det_rem _ _) fun w K => rfl
    | and => exact DetO.of (F := fun k => w1 (ev e x) fun a => w1 (ev e y) fun b => andX a b k) (Det.w1 fun a => Det.w1 fun b => det_and _ _) fun w K => rfl
    | or => exact DetO.of (F := fun k => w1 (ev e x) fun a => w1 (ev e y) fun b => orX a b k) (Det.w1 fun a => Det.w1 fun b => det_or _ _) fun w K => rfl
    | xor => exact DetO.of (F := fun k => w1 (ev e x) fun a => w1 (ev e y) fun b => xorX a b k) (Det.w1 fun a => Det.w1 fun b => det_xor _ _) fun w K => rfl
    | andNot => exact DetO.of (F := fun k => w1 (ev e x) fun a => w1 (ev e y) fun b => andNotX a b k) (Det.w1 fun a => Det.w1 fun b => det_andNot _ _) fun w K => rfl
    | shl => exact DetO.of (F := fun k => w1 (ev e x) fun a => w1 (ev e y) fun b => shlX a b k) (Det.w1 fun a => Det.w1 fun b => det_shl _ _) fun w K => rfl
    | shr => exact DetO.of (F := fun k => w1 (ev e x) fun a => w1 (ev e y) fun b => shrX a b k) (Det.w1 fun a => Det.w1 fun b => det_shr _ _) fun w K => rfl
    | lss => exact DetO.of (F := fun k => w1 (ev e x) fun a => w1 (ev e y) fun b => ltX a b k) (Det.w1 fun a => Det.w1 fun b => det_lt _ _) fun w K => rfl
    | leq => exact DetO.of (F := fun k => w1 (ev e x) fun a => w1 (ev e y) fun b => leX a b k) (Det.w1 fun a => Det.w1 fun b => det_le _ _) fun w K => rfl
    | gtr => exact DetO.of (F := fun k => w1 (ev e x) fun a => w1 (ev e y) fun b => gtX a b k) (Det.w1 fun a => Det.w1 fun b => det_gt _ _) fun w K => rfl
    | geq => exact DetO.of (F := fun k => w1 (ev e x) fun a => w1 (ev e y) fun b => geX a b k) (Det.w1 fun a => Det.w1 fun b => det_ge _ _) fun w K => rfl
    | eql => exact DetO.of (det_eqOf t x y false) fun w K => rfl
    | neq => exact DetO.of (det_eqOf t x y true) fun w K => rfl
  | nilCheck x => exact DetO.of (F := fun k => w1 (ev e x) fun a => nilX a k) (Det.w1 fun a => det_nil _) fun w K => rfl
  | makeInterface t x =>
    cases hu : P.underlying t with
    | none => exact no_det fun w K => by simp only [opX, hu]
    | some d =>
      cases d with
      | interface ms => exact no_det fun w K => by simp only [opX, hu]
      | _ => exact DetO.of (F := fun k => w1 (ev e x) fun a => ifaceX t a k) (Det.w1 fun a => det_iface _ _) fun w K => by simp only [opX, hu]
  | makeFunc f x y =>
    cases h1 : evs e x.toList with
    | none => exact no_det fun w K => by simp only [opX, h1, wl]
    | some vs =>
      cases h2 : evs e y.toList with
      | none => exact no_det fun w K => by simp only [opX, h1, h2, wl]
      | some us => exact DetO.of (F := fun k => k (.func f vs.toArray us.toArray)) (fun K h => ⟨_, h, fun _ k => k⟩) fun w K => by simp only [opX, h1, h2, wl]
  | typeAssert x xt t b =>
    cases b with
    | false => exact no_det fun w K => rfl
    | true =>
      intro w K hk
      simp only [opX] at hk ⊢
      split at hk
      · exact hk.elim
      · split at hk
        · obtain ⟨v, h1, h2⟩ := Det.w1 (o := ev e x) (F := fun a k => assertX t (zeroV P t) a k) (fun a => det_assert _ _ _) (fun v => K (.v v) w) hk
          exact ⟨.v v, h1, fun w' K' hk' => by rename_i hz; rw [if_pos hz]; exact h2 (fun v => K' (.v v) w') hk'⟩
        · exact hk.elim
      · exact hk.elim
  | slice t x lo hi mx =>
    intro w K hk
    simp only [opX] at hk ⊢
    split at hk
    · split at hk
      · rename_i s hs
        obtain ⟨v, h1, h2⟩ := Det.w1 (o := ev e x) (F := fun a k => wo e lo fun lo => wo e hi fun hi => wo e mx fun mx => sliceX s a lo hi mx k) (fun a => Det.wo fun _ => Det.wo fun _ => Det.wo fun _ => det_slice _ _ _ _ _) (fun v => K (.v v) w) hk
        exact ⟨.v v, h1, fun w' K' hk' => h2 (fun v => K' (.v v) w') hk'⟩
      · exact hk.elim
    · split at hk
      · obtain ⟨v, h1, h2⟩ := Det.w1 (o := ev e x) (F := fun a k => wo e lo fun lo => wo e hi fun hi => sliceStrX a lo hi k) (fun a => Det.wo fun _ => Det.wo fun _ => det_sliceStr _ _ _) (fun v => K (.v v) w) hk
        exact ⟨.v v, h1, fun w' K' hk' => h2 (fun v => K' (.v v) w') hk'⟩
      · exact hk.elim
    · exact hk.elim
  | build t ps =>
    intro w K hk
    simp only [opX] at hk ⊢
    split at hk
    · rename_i hz
      split at hk
      · rename_i l hl
        obtain ⟨v, h1, h2⟩ := det_build (zeroOf P t) l (fun v => K (.v v) w) hk
        exact ⟨.v v, h1, fun w' K' hk' => by rw [if_pos hz]; exact h2 (fun v => K' (.v v) w') hk'⟩
      · exact hk.elim
    · exact hk.elim
  | convert s d x =>
    simp only [pureOp] at h
    split at h
    · rename_i k1 k2 h1 h2
      exact DetO.of (F := fun k => w1 (ev e x) fun a => convIX k2 a k) (Det.w1 fun a => det_convI _ _) fun w K => by simp only [opX, h1, h2]
    · cases h
  | call c =>
    simp only [pureOp] at h
    split at h
    · rename_i hc
      intro w K hk
      simp only [opX, hc, builtinX] at hk ⊢
      split at hk
      all_goals first | (exact hk.elim) | skip
      · split at hk
        · rename_i x _ _ _ el hu
          obtain ⟨v, h1, h2⟩ := Det.w1 (o := ev e x) (F := fun a k => lenSX a k) (fun a => det_lenS _) (fun v => K (.v v) w) hk
          exact ⟨.v v, h1, fun w' K' hk' => h2 (fun v => K' (.v v) w') hk'⟩
        · rename_i x _ _ _ hu
          obtain ⟨v, h1, h2⟩ := Det.w1 (o := ev e x) (F := fun a k => lenStrX a k) (fun a => det_lenStr _) (fun v => K (.v v) w) hk
          exact ⟨.v v, h1, fun w' K' hk' => h2 (fun v => K' (.v v) w') hk'⟩
        · rename_i x _ _ _ m el hu
          obtain ⟨v, h1, h2⟩ := Det.w1 (o := ev e x) (F := fun a k => k (.int .i64 m)) (fun a => fun K h => ⟨_, h, fun _ k => k⟩) (fun v => K (.v v) w) hk
          exact ⟨.v v, h1, fun w' K' hk' => h2 (fun v => K' (.v v) w') hk'⟩
        · rename_i hu
          simp [noMap, hu] at h
        · exact hk.elim
      all_goals (rename_i hb _; cases hb)
    · rename_i hc
      intro w K hk
      simp only [opX, hc, builtinX] at hk ⊢
      split at hk
      all_goals first | (exact hk.elim) | skip
      all_goals first | (rename_i hb _; cases hb; done) | skip
      rename_i x y _ _
      obtain ⟨v, h1, h2⟩ := Det.w1 (o := ev e x) (F := fun a k => w1 (ev e y) fun b => maxX a b k) (fun a => Det.w1 fun b => det_max _ _) (fun v => K (.v v) w) hk
      exact ⟨.v v, h1, fun w' K' hk' => h2 (fun v => K' (.v v) w') hk'⟩
    · rename_i hc
      intro w K hk
      simp only [opX, hc, builtinX] at hk ⊢
      split at hk
      all_goals first | (exact hk.elim) | skip
      all_goals first | (rename_i hb _; cases hb; done) | skip
      rename_i x y _ _
      obtain ⟨v, h1, h2⟩ := Det.w1 (o := ev e x) (F := fun a k => w1 (ev e y) fun b => minX a b k) (fun a => Det.w1 fun b => det_min _ _) (fun v => K (.v v) w) hk
      exact ⟨.v v, h1, fun w' K' hk' => h2 (fun v => K' (.v v) w') hk'⟩
    · cases h
  | _ => simp [pureOp] at h

end
end Go.Proofs.YtgnmelnohclpgaaDoor
