/- Own framework, part P: the meaning of a piece of code as a plain proposition, and that the machine does just that. -/
import Derived.Test.YtgnmelnohclpgaaDoorSxO
set_option linter.unusedVariables false
set_option linter.unusedSimpArgs false
namespace Go.Proofs.YtgnmelnohclpgaaDoor
open Go

/-! ### Propositions of some temporaries and the world -/
def CurL : List Nat → Type
  | [] => World → Prop
  | _ :: l => Value → CurL l
def MuL : List Nat → Type
  | [] => World → Nat
  | _ :: l => Value → MuL l
def lamE (n : Nat) : (l : List Nat) → Env → (Env → World → Prop) → CurL l
  | [], e, f => fun w => f e w
  | t :: l, e, f => fun v => lamE n l (e.put n (some t) (.v v)) f
def appE : (l : List Nat) → CurL l → Env → World → Prop
  | [], j, _, w => j w
  | t :: l, j, e, w => match e t with
    | some s => appE l (j s.val) e w
    | none => False
def appM : (l : List Nat) → MuL l → Env → World → Nat
  | [], j, _, w => j w
  | t :: l, j, e, w => match e t with
    | some s => appM l (j s.val) e w
    | none => 0
def allI (n : Nat) : (l : List Nat) → Env → CurL l → MuL l → (Env → (World → Prop) → (World → Nat) → Prop) → Prop
  | [], e, I, μ, f => f e I μ
  | t :: l, e, I, μ, f => ∀ v, allI n l (e.put n (some t) (.v v)) (I v) (μ v) f
def joinX {α : Type} (c : α) (b : α → Prop) : Prop := b c

theorem appE_lamE {n : Nat} {a : Act} {f : Env → World → Prop} {e : Env} {w : World} (hr : Rep n a e) : ∀ (l : List Nat) (b : Env), Rep n a b → appE l (lamE n l b f) e w → ∃ e', Rep n a e' ∧ f e' w
  | [], b, hb, h => ⟨b, hb, h⟩
  | t :: l, b, hb, h => by
    simp only [appE] at h
    split at h
    · rename_i s hs
      refine appE_lamE hr l _ ?_ h
      refine ⟨hb.1, fun i s' hi => ?_⟩
      simp only [Env.put] at hi
      cases hbq : Nat.beq i t with
      | true =>
        rw [hbq] at hi
        have : i = t := Nat.eq_of_beq_eq_true hbq
        subst this
        simp only [cond_true] at hi
        cases hlt : Nat.blt i n with
        | true => rw [hlt] at hi; simp at hi; subst hi; exact hr.2 _ s hs
        | false => rw [hlt] at hi; simp at hi
      | false => rw [hbq] at hi; exact hb.2 _ _ hi
    · exact h.elim


/-- all that a frame has -/
def full (a : Act) : Env := fun i => some (.v ((a.tmps[i]?).getD undef))
theorem rep_full {n : Nat} {a : Act} (h : a.tmps.size = n) : Rep n a (full a) := ⟨h, fun i s hs => by simp only [full, Option.some.injEq] at hs; subst hs; rfl⟩

theorem appE_full {n : Nat} {a : Act} {e : Env} {w : World} (hr : Rep n a e) : ∀ (l : List Nat) (j : CurL l), appE l j e w → appE l j (full a) w
  | [], j, h => h
  | t :: l, j, h => by
    simp only [appE] at h ⊢
    split at h
    · rename_i s hs
      simp only [full]
      have := hr.2 t s hs
      rw [this]
      exact appE_full hr l _ h
    · exact h.elim
theorem appE_all {n : Nat} {a : Act} {e : Env} {w : World} (hr : Rep n a e) : ∀ (l : List Nat) (j : CurL l), appE l j e w → ∀ (m : MuL l), appM l m e w = appM l m (full a) w
  | [], j, h, m => rfl
  | t :: l, j, h, m => by
    simp only [appE] at h
    simp only [appM]
    split at h
    · rename_i s hs
      simp only [full, hs]
      have := hr.2 t s hs
      rw [this]
      exact appE_all hr l _ h _
    · exact h.elim

theorem allI_use {n : Nat} {a : Act} {f : Env → (World → Prop) → (World → Nat) → Prop} (hn : a.tmps.size = n) : ∀ (l : List Nat) (b : Env) (I : CurL l) (m : MuL l), Rep n a b → allI n l b I m f →
    ∃ e' I' m', Rep n a e' ∧ f e' I' m' ∧ ∀ w, (appE l I (full a) w → I' w) ∧ appM l m (full a) w = m' w
  | [], b, I, m, hb, h => ⟨b, I, m, hb, h, fun w => ⟨id, rfl⟩⟩
  | t :: l, b, I, m, hb, h => by
    refine allI_use hn l _ _ _ ?_ (h ((a.tmps[t]?).getD undef))
    refine ⟨hb.1, fun i s' hi => ?_⟩
    simp only [Env.put] at hi
    cases hbq : Nat.beq i t with
    | true =>
      rw [hbq] at hi
      have : i = t := Nat.eq_of_beq_eq_true hbq
      subst this
      simp only [cond_true] at hi
      cases hlt : Nat.blt i n with
      | true => rw [hlt] at hi; simp at hi; subst hi; rfl
      | false => rw [hlt] at hi; simp at hi
    | false => rw [hbq] at hi; exact hb.2 _ _ hi

/-! ### Which temporaries a piece of code writes -/
def inP (p : Nat → Bool) : Option Tmp → Bool
  | none => true
  | some d => p d
def insideOps (p : Nat → Bool) : List Oper → Bool
  | [] => true
  | o :: l => bif inP p o.dst then insideOps p l else false
def inside (p : Nat → Bool) : Code → Bool
  | .region _ ops _ => insideOps p ops.toList
  | .seq a b => bif inside p a then inside p b else false
  | .cond _ a b => bif inside p a then inside p b else false
  | .block _ a => inside p a
  | .loop a => inside p a
  | _ => true
def Keep (p : Nat → Bool) (a a' : Act) : Prop := a'.defers = a.defers ∧ ∀ t, p t = false → a'.tmps[t]? = a.tmps[t]?
theorem Keep.refl {p : Nat → Bool} (a : Act) : Keep p a a := ⟨rfl, fun _ _ => rfl⟩
theorem Keep.trans {p : Nat → Bool} {a b c : Act} (h : Keep p a b) (k : Keep p b c) : Keep p a c := ⟨k.1.trans h.1, fun t ht => (k.2 t ht).trans (h.2 t ht)⟩
theorem Keep.put {p : Nat → Bool} {a b : Act} (h : Keep p a b) {d : Option Tmp} (hd : inP p d = true) (v : Value) : Keep p a (b.put d v) := by
  cases d with
  | none => exact h
  | some d =>
    refine ⟨h.1, fun t ht => ?_⟩
    simp only [Act.put]
    rw [Array.getElem?_setIfInBounds_ne (fun e => by subst e; rw [show p _ = true from hd] at ht; cases ht)]
    exact h.2 t ht
theorem Keep.wide {p q : Nat → Bool} {a b : Act} (h : Keep p a b) (hq : ∀ t, p t = true → q t = true) : Keep q a b :=
  ⟨h.1, fun t ht => h.2 t (by cases hp : p t with | false => rfl | true => rw [hq t hp] at ht; cases ht)⟩
theorem insideOps_mem {p : Nat → Bool} : ∀ {l : List Oper}, insideOps p l = true → ∀ o ∈ l, inP p o.dst = true := by
  intro l
  induction l with
  | nil => intro _ o ho; cases ho
  | cons o l ih =>
    intro h o' ho
    simp only [insideOps] at h
    cases hi : inP p o.dst with
    | false => rw [hi] at h; simp at h
    | true =>
      rw [hi] at h
      rcases List.mem_cons.1 ho with rfl | ho
      · exact hi
      · exact ih h o' ho
theorem inP_and {p q : Nat → Bool} {d : Option Tmp} (h : inP p d = true) (k : inP q d = true) : inP (fun t => p t && q t) d = true := by
  cases d with
  | none => rfl
  | some d => simp only [inP] at *; rw [h, k]; rfl
theorem insideOps_and {p q : Nat → Bool} : ∀ {l : List Oper}, insideOps p l = true → insideOps q l = true → insideOps (fun t => p t && q t) l = true
  | [], _, _ => rfl
  | o :: l, h, k => by
    simp only [insideOps] at *
    cases hi : inP p o.dst with
    | false => rw [hi] at h; cases h
    | true =>
      cases hj : inP q o.dst with
      | false => rw [hj] at k; cases k
      | true =>
        rw [hi] at h; rw [hj] at k
        rw [inP_and hi hj]
        exact insideOps_and h k
theorem inside_and {p q : Nat → Bool} : ∀ {c : Code}, inside p c = true → inside q c = true → inside (fun t => p t && q t) c = true := by
  intro c
  induction c with
  | region id ops d => intro h k; rw [inside] at *; exact insideOps_and h k
  | seq a b iha ihb =>
    intro h k
    simp only [inside] at *
    cases h1 : inside p a <;> rw [h1] at h <;> simp only [cond_true, cond_false, Bool.false_eq_true] at h
    cases h2 : inside q a <;> rw [h2] at k <;> simp only [cond_true, cond_false, Bool.false_eq_true] at k
    rw [iha h1 h2]; exact ihb h k
  | cond x a b iha ihb =>
    intro h k
    simp only [inside] at *
    cases h1 : inside p a <;> rw [h1] at h <;> simp only [cond_true, cond_false, Bool.false_eq_true] at h
    cases h2 : inside q a <;> rw [h2] at k <;> simp only [cond_true, cond_false, Bool.false_eq_true] at k
    rw [iha h1 h2]; exact ihb h k
  | block id a ih => intro h k; rw [inside] at *; exact ih h k
  | loop a ih => intro h k; rw [inside] at *; exact ih h k
  | rangeFunc => intros; simp [inside]
  | scope => intros; simp [inside]
  | skip => intros; simp [inside]
  | exit => intros; simp [inside]
  | label => intros; simp [inside]
  | goto => intros; simp [inside]
  | ret => intros; simp [inside]
  | refuse => intros; simp [inside]

theorem inP_true (d : Option Tmp) : inP (fun _ => true) d = true := by cases d <;> rfl
theorem insideOps_true : ∀ l : List Oper, insideOps (fun _ => true) l = true
  | [] => rfl
  | o :: l => by simp only [insideOps, inP_true, cond_true]; exact insideOps_true l
theorem inside_true : ∀ c : Code, inside (fun _ => true) c = true := by
  intro c
  induction c with
  | region id ops d => rw [inside]; exact insideOps_true _
  | seq a b iha ihb => rw [inside, iha, ihb]; rfl
  | cond x a b iha ihb => rw [inside, iha, ihb]; rfl
  | block id a ih => rw [inside, ih]
  | loop a ih => rw [inside, ih]
  | _ => simp [inside]

theorem Rep.keep {n : Nat} {a a' : Act} {e : Env} {l : List Nat} (hr : Rep n a e) (hk : Keep (fun i => l.any (Nat.beq i)) a a') (hn : a'.tmps.size = n) : Rep n a' (e.drop l) := by
  refine ⟨hn, fun i s hs => ?_⟩
  simp only [Env.drop] at hs
  cases hb : l.any (Nat.beq i) with
  | true => rw [hb] at hs; cases hs
  | false => rw [hb] at hs; rw [hk.2 i hb]; exact hr.2 i s hs

end Go.Proofs.YtgnmelnohclpgaaDoor
