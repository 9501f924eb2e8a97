/- Own framework, part N: statements whose order is open: one order is walked, all orders follow. -/
import Derived.Test.YtgnmelnohclpgaaDoorSxM
import Derived.OrdersHeld
set_option linter.unusedVariables false
set_option linter.unusedSimpArgs false
namespace Go.Proofs.YtgnmelnohclpgaaDoor
open Go

def loadOp (P : Program) : Op → Bool
  | .load .. => true
  | .convert s d _ => (match P.underlying s, P.underlying d with
    | some (.slice _), some .string => true
    | _, _ => false)
  | _ => false

section
variable {P : Program} {ops : Array Oper} {Q : Exit → Act → World → Prop} {S : World → Prop} {dm : Nat → Bool}

/-- whatever order is picked; behind an operation that is marked S holds if it held ahead -/
def anyH (P : Program) (ops : Array Oper) (Q : Exit → Act → World → Prop) (S : World → Prop) (dm : Nat → Bool) : Nat → Array Bool → Act → World → Prop
  | 0, listed, a, w => Region.ready .any ops listed = [] ∧ Q .normal a w
  | fuel + 1, listed, a, w =>
    (Region.ready .any ops listed = [] → Q .normal a w) ∧
    ∀ i ∈ Region.ready .any ops listed, wpOp P ops Q i (fun a' w' => (dm i = true → S w → S w') ∧ anyH P ops Q S dm fuel (listed.setIfInBounds i true) a' w') a w

theorem wpAny_of_anyH : ∀ (fuel : Nat) (listed : Array Bool) (a : Act) (w : World), anyH P ops Q S dm fuel listed a w → wpAny P .any ops Q fuel listed a w
  | 0, _, _, _, h => h
  | fuel + 1, _, _, _, h => ⟨h.1, fun i hi => wpOp_mono (fun a' w' h' => wpAny_of_anyH fuel _ a' w' h'.2) (h.2 i hi)⟩

/-- what was carried out waited for nothing that was not -/
def DC (ops : Array Oper) (listed : Array Bool) : Prop := ∀ j oj, ops[j]? = some oj → listed.getD j false = true → ∀ e ∈ oj.after, Region.binds .any e = true → listed.getD e.on false = true

theorem getD_bool {listed : Array Bool} {i : Nat} (h : listed.getD i true = false) : listed.getD i false = false := by
  rcases Nat.lt_or_ge i listed.size with h' | h'
  · simp [h'] at h ⊢; exact h
  · simp [Array.getElem?_eq_none h'] at h

theorem DC.set {listed : Array Bool} {i : Nat} (h : DC ops listed) (hi : i ∈ Region.ready .any ops listed) : DC ops (listed.setIfInBounds i true) := by
  obtain ⟨_, oi, hoi, hall⟩ := mem_ready.1 hi
  intro j oj hj hl e he hb
  by_cases hij : i = j
  · subst hij
    have : oj = oi := Option.some.inj (hj.symm.trans hoi)
    subst this
    exact getD_set_true (hall e he hb)
  · rw [getD_set_ne false hij] at hl
    exact getD_set_true (h j oj hj hl e he hb)

/-- **what may come up now, and hangs on S alone, may be taken first** -/
theorem anyH_first {T : World → Prop} {i : Nat} {oi : Oper} {v : Value} (hi : ops[i]? = some oi) (hsel : ∀ (j : Nat) (o : Oper) cs b, ops[j]? = some o → o.op ≠ .select cs b)
    (hQ : ∀ c a w, Q (.panic c) (a.put oi.dst v) w → Q (.panic c) a w)
    (hT : ∀ (listed : Array Bool) (j : Nat) (w w' : World), DC ops listed → j ∈ Region.ready .any ops listed → listed.getD i true = false → j ≠ i → T w → (dm j = true → S w → S w') → T w') :
    ∀ (fuel : Nat) (listed : Array Bool) (a : Act) (w : World), DC ops listed →
      (∀ j oj, ops[j]? = some oj → j ≠ i → listed.getD j true = false → (∀ e ∈ oj.after, Region.binds .any e = true → e.on ≠ i) → oi.apart ops oj = true) →
      i ∈ Region.ready .any ops listed → YieldsIf P ops T oi v a → T w →
      anyH P ops Q S dm fuel (listed.setIfInBounds i true) (a.put oi.dst v) w → anyH P ops Q S dm (fuel + 1) listed a w := by
  intro fuel
  induction fuel with
  | zero =>
    intro listed a w _ _ hr hy hS H
    refine ⟨fun h => (by rw [h] at hr; cases hr), fun j hj => ?_⟩
    by_cases hji : j = i
    · subst hji; exact hy.wpOp hi hS ⟨fun _ h => h, H⟩
    · have := ready_mono hj hji
      rw [H.1] at this
      cases this
  | succ fuel ih =>
    intro listed a w hdc hfree hr hy hS H
    refine ⟨fun h => (by rw [h] at hr; cases hr), fun j hj => ?_⟩
    by_cases hji : j = i
    · subst hji; exact hy.wpOp hi hS ⟨fun _ h => h, H⟩
    · have h1 := H.2 j (ready_mono hj hji)
      obtain ⟨hjun, oj, hoj, hall⟩ := mem_ready.1 hj
      have hiun := (mem_ready.1 hr).1
      have hnot : ∀ e ∈ oj.after, Region.binds .any e = true → e.on ≠ i := fun e he hb heq => by
        have h1 := hall e he hb
        rw [heq] at h1
        rw [getD_bool hiun] at h1; cases h1
      have h2 := wpOp_putIf hoj (hfree j oj hoj hji hjun hnot) (fun cs b => hsel i oi cs b hi) (fun cs b => hsel j oj cs b hoj) hQ hy h1
      have hfree' : ∀ k ok, ops[k]? = some ok → k ≠ i → (listed.setIfInBounds j true).getD k true = false →
          (∀ e ∈ ok.after, Region.binds .any e = true → e.on ≠ i) → oi.apart ops ok = true := fun k ok hk hki hun hno => by
        refine hfree k ok hk hki ?_ hno
        by_cases hjk : j = k
        · subst hjk; exact hjun
        · rw [getD_set_ne true hjk] at hun; exact hun
      refine wpOp_mono (fun a' w' h3 => ⟨h3.2.1, ih (listed.setIfInBounds j true) a' w' (hdc.set hj) hfree' (ready_mono hr (Ne.symm hji)) h3.1 (hT listed j w w' hdc hj hiun hji hS h3.2.1) ?_⟩) h2
      rw [Array.setIfInBounds_comm _ _ hji]
      exact h3.2.2

theorem anyH_take {T : World → Prop} {i : Nat} {oi : Oper} {v : Value} {fuel : Nat} {listed : Array Bool} {a : Act} {w : World} (hi : ops[i]? = some oi)
    (hs : Region.noSelect ops = true) (hf : Region.free .any ops listed i = true) (hr : (Region.ready .any ops listed).contains i = true) (hdc : DC ops listed)
    (hQ : ∀ c a w, Q (.panic c) (a.put oi.dst v) w → Q (.panic c) a w)
    (hT : ∀ (listed : Array Bool) (j : Nat) (w w' : World), DC ops listed → j ∈ Region.ready .any ops listed → listed.getD i true = false → j ≠ i → T w → (dm j = true → S w → S w') → T w')
    (hy : YieldsIf P ops T oi v a) (hS : T w)
    (h : anyH P ops Q S dm fuel (listed.setIfInBounds i true) (a.put oi.dst v) w) : anyH P ops Q S dm (fuel + 1) listed a w :=
  anyH_first hi (Region.noSelect_spec hs) hQ hT fuel listed a w hdc (Region.free_spec hi hf) (by simpa using hr) hy hS h

theorem anyH_one {i : Nat} {fuel : Nat} {listed : Array Bool} {a : Act} {w : World} (hr : Region.ready .any ops listed = [i])
    (h : wpOp P ops Q i (fun a' w' => (dm i = true → S w → S w') ∧ anyH P ops Q S dm fuel (listed.setIfInBounds i true) a' w') a w) : anyH P ops Q S dm (fuel + 1) listed a w :=
  ⟨(fun h0 => by rw [hr] at h0; cases h0), (fun j hj => by rw [hr] at hj; simp at hj; subst hj; exact h)⟩

theorem anyH_done {listed : Array Bool} {a : Act} {w : World} (hr : Region.ready .any ops listed = []) (h : Q .normal a w) : ∀ fuel, anyH P ops Q S dm fuel listed a w
  | 0 => ⟨hr, h⟩
  | _ + 1 => ⟨fun _ => h, by rw [hr]; simp⟩

/-- a list of places each of which j, or one ahead of it in the list, waits for -/
def chainOk (ops : Array Oper) : List Nat → List Nat → Bool
  | _, [] => true
  | acc, c :: l => (acc.any fun k => match ops[k]? with
      | some o => o.after.any fun e => Region.binds .any e && Nat.beq e.on c
      | none => false) && chainOk ops (c :: acc) l
/-- all reading operations but j are among these -/
def coversLoads (P : Program) (ops : Array Oper) (j : Nat) (l : List Nat) : Bool :=
  (List.range ops.size).all fun i => Nat.beq i j || (match ops[i]? with | some o => !loadOp P o.op | none => true) || l.any (Nat.beq i)

theorem chainOk_listed {listed : Array Bool} (hdc : DC ops listed) : ∀ (l acc : List Nat), chainOk ops acc l = true → (∀ k ∈ acc, ∀ o, ops[k]? = some o → ∀ e ∈ o.after, Region.binds .any e = true → listed.getD e.on false = true) →
    ∀ c ∈ l, listed.getD c false = true
  | [], _, _, _, c, hc => by cases hc
  | c0 :: l, acc, h, hacc, c, hc => by
    simp only [chainOk, Bool.and_eq_true] at h
    obtain ⟨h1, h2⟩ := h
    obtain ⟨k, hk, hk2⟩ := List.any_eq_true.1 h1
    have h0 : listed.getD c0 false = true := by
      split at hk2
      · rename_i o ho
        obtain ⟨e, he, hb⟩ := Array.any_eq_true'.1 hk2
        simp only [Bool.and_eq_true] at hb
        have := hacc k hk o ho e he hb.1
        rw [Nat.eq_of_beq_eq_true hb.2] at this
        exact this
      · cases hk2
    rcases List.mem_cons.1 hc with rfl | hc
    · exact h0
    · refine chainOk_listed hdc l (c0 :: acc) h2 (fun k hk o ho e he hb => ?_) c hc
      rcases List.mem_cons.1 hk with rfl | hk
      · exact hdc k o ho h0 e he hb
      · exact hacc k hk o ho e he hb

end

/-! ### The meaning -/
def load1H (S : World → Prop) (a : Value) (K : Value → Prop) : Prop := match a with
  | .pointer (some p) => ∃ v, (∀ w, S w → w.cell? p = some v) ∧ K v
  | _ => False
def loadNH (S : World → Prop) (n : Nat) (a : Value) (K : Value → Prop) : Prop := match a with
  | .pointer (some p) => ∃ l : List Value, l.length = n ∧ (∀ w, S w → ∀ (i : Nat) (v : Value), l[i]? = some v → w.cell? (p.add i) = some v) ∧ K (.agg l.toArray)
  | _ => False
def strH (S : World → Prop) (x : Value) (K : Value → Prop) : Prop := match x with
  | .slice none _ _ => K (.string .empty)
  | .slice (some p) len _ => ∃ l : List UInt8, l.length = len ∧ (∀ w, S w → ∀ (i : Nat) (c : UInt8), l[i]? = some c → w.cell? (p.add i) = some (.int .u8 c.toNat)) ∧ K (.string ⟨l.toArray⟩)
  | _ => False

def opH (P : Program) (S : World → Prop) (e : Env) (op : Op) (K : SV → Prop) : Prop := match op with
  | .load t a => (match aggN P t with
    | some none => w1 (ev e a) fun a => load1H S a fun v => K (.v v)
    | some (some n) => w1 (ev e a) fun a => loadNH S n a fun v => K (.v v)
    | none => False)
  | .convert src dst x => (match P.underlying src, P.underlying dst with
    | some (.slice el), some .string => (match P.underlying el with
      | some (.int .u8) => w1 (ev e x) fun x => strH S x fun v => K (.v v)
      | _ => False)
    | _, _ => False)
  | _ => False

/-- one value, in every world that S lets in -/
theorem opH_det {P : Program} {S : World → Prop} {e : Env} {op : Op} {K : SV → Prop} (h : opH P S e op K) : ∃ s, K s ∧ ∀ w, S w → opX P e op w (fun s' w' => s' = s ∧ w' = w) := by
  cases op with
  | load t a =>
    simp only [opH] at h
    split at h
    · rename_i ht
      obtain ⟨s, hs, h⟩ := w1_some h
      unfold load1H at h
      split at h
      · rename_i p hp
        obtain ⟨v, hv, hk⟩ := h
        refine ⟨_, hk, fun w hw => ?_⟩
        simp only [opX, ht, hs, w1, load1X, hp]
        exact ⟨v, hv w hw, by simp⟩
      · exact h.elim
    · rename_i n ht
      obtain ⟨s, hs, h⟩ := w1_some h
      unfold loadNH at h
      split at h
      · rename_i p hp
        obtain ⟨l, hl, hv, hk⟩ := h
        refine ⟨_, hk, fun w hw => ?_⟩
        simp only [opX, ht, hs, w1, loadNX, hp]
        exact ⟨l, hl, hv w hw, by simp⟩
      · exact h.elim
    · exact h.elim
  | convert src dst x =>
    simp only [opH] at h
    split at h
    · rename_i el h1 h2
      split at h
      · rename_i h3
        obtain ⟨s, hs, h⟩ := w1_some h
        unfold strH at h
        split at h
        · rename_i l c hp
          refine ⟨_, h, fun w hw => ?_⟩
          simp only [opX, h1, h2, h3, hs, w1, strX, hp]
          simp
        · rename_i p len c hp
          obtain ⟨l, hl, hv, hk⟩ := h
          refine ⟨_, hk, fun w hw => ?_⟩
          simp only [opX, h1, h2, h3, hs, w1, strX, hp]
          exact ⟨l, hl, hv w hw, by simp⟩
        · exact h.elim
      · exact h.elim
    · exact h.elim
  | _ => exact h.elim

def Env.know (e : Env) (g : Nat) (t : Bool) : Env := fun i => bif Nat.beq i g then some (.b t) else e i

/-- a guard: is an operation carried out? -/
def guardX (ops : Array Oper) (o : Oper) (e : Env) (run skip : Env → Prop) : Prop := match o.guard with
  | none => run e
  | some (j, want) => (match (ops[j]?).bind (·.dst) with
    | some g => (match e g with
      | some (.b t) => bif (t == want) then run e else skip e
      | some (.v x) => brX x (bif want then run (e.know g true) else skip (e.know g true)) (bif want then skip (e.know g false) else run (e.know g false))
      | some .no => skip e
      | none => False)
    | none => False)

/-- an order of a region's operations, parted where more than one that is no mere reckoning may come up -/
inductive DWay where
  | nil
  | stop
  | one (i : Nat) (r : DWay)
  | eff (l : DWay)
  | alt (i : Nat) (c : Option (List Nat)) (r m : DWay)
def DWay.heads : DWay → List Nat
  | .alt i _ _ m => i :: m.heads
  | _ => []
def DWay.flat : DWay → List (Nat × Option (List Nat))
  | .one _ r => r.flat
  | .eff l => l.flat
  | .alt i c r m => (i, c) :: (r.flat ++ m.flat)
  | _ => []
def DWay.depth : DWay → Nat
  | .one _ r => r.depth + 1
  | .eff l => l.depth
  | .alt _ _ r m => max (r.depth + 1) m.depth
  | _ => 0
def DWay.isStop : DWay → Bool
  | .stop => true
  | _ => false
def DWay.isAlt : DWay → Bool
  | .alt .. => true
  | _ => false

def DWay.good : DWay → Bool → Bool
  | .nil, t => t
  | .stop, t => !t
  | .one _ r, t => t && r.good true
  | .eff l, t => t && l.isAlt && l.good false
  | .alt _ _ r m, t => !t && r.good true && m.good false

/-- one of the operations that may come up is carried out now -/
def altB (P : Program) (n : Nat) (ops : Array Oper) (S : World → Prop) (i : Nat) (c : Option (List Nat)) (listed : Array Bool) (ok : Bool) (e : Env) (w : World) (D : Bool → Env → World → Prop) : Prop := match ops[i]? with
  | none => False
  | some o => guardX ops o e
      (fun e => match c with
        | none => opX P e o.op w (fun s w' => S w' ∧ D ok (e.put n o.dst s) w')
        | some l => bif (chainOk ops [i] l && coversLoads P ops i l) then opX P e o.op w (fun s w' => D false (e.put n o.dst s) w') else False)
      (fun e => D (c.isNone && ok) (e.put n o.dst .no) w)

/-- a region, by an order of its operations (an operation that is no mere reckoning may name the places that it surely waits for, where S need not hold behind it) -/
def drawX (P : Program) (n : Nat) (ops : Array Oper) (S : World → Prop) : DWay → Array Bool → Bool → Env → World → (Env → World → Prop) → Prop
  | .nil, listed, _, e, w, K => bif (Region.ready .any ops listed).isEmpty then K e w else False
  | .stop, _, _, _, _, _ => False
  | .one i r, listed, ok, e, w, K => match ops[i]? with
    | none => False
    | some o => bif (Region.ready .any ops listed).contains i then
        guardX ops o e
          (fun e => bif pureOp P o.op then (bif Region.free .any ops listed i then opX P e o.op w (fun s _ => drawX P n ops S r (listed.setIfInBounds i true) ok (e.put n o.dst s) w K) else False)
            else bif loadOp P o.op then (bif (Region.free .any ops listed i && ok) then opH P S e o.op (fun s => drawX P n ops S r (listed.setIfInBounds i true) ok (e.put n o.dst s) w K) else False)
            else False)
          (fun e => bif Region.free .any ops listed i then drawX P n ops S r (listed.setIfInBounds i true) ok (e.put n o.dst .no) w K else False)
      else False
  | .eff l, listed, ok, e, w, K => bif ((Region.ready .any ops listed).all (fun i => l.heads.contains i) && !(Region.ready .any ops listed).isEmpty) then drawX P n ops S l listed ok e w K else False
  | .alt i c r m, listed, ok, e, w, K =>
    bif m.isStop then altB P n ops S i c listed ok e w (fun ok e w => drawX P n ops S r (listed.setIfInBounds i true) ok e w K)
    else altB P n ops S i c listed ok e w (fun ok e w => drawX P n ops S r (listed.setIfInBounds i true) ok e w K) ∧ drawX P n ops S m listed ok e w K

end Go.Proofs.YtgnmelnohclpgaaDoor
