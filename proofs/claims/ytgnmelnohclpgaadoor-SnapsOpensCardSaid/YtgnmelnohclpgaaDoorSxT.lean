/- Own framework, part T: a function that holds one range over a function. -/
import Derived.Test.YtgnmelnohclpgaaDoorSxR
import Derived.RangeFuncLeaves
import Derived.RangeFuncRecord
set_option linter.unusedVariables false
set_option linter.unusedSimpArgs false
namespace Go.Proofs.YtgnmelnohclpgaaDoor
open Go Go.RowKit

structure Entered (w w1 : World) (l : Nat) (o : Obj) : Prop where
  isAt : l = w.heap.size + 1
  size : w1.heap.size = w.heap.size + 2
  loop : w1.heap[l]? = some o
  mark : w1.heap[w.heap.size]? = some (.deferred (some []))
  old : ∀ r, r < w.heap.size → w1.heap[r]? = w.heap[r]?
  same : Same w w1

def allL : Nat → (List Value → Prop) → Prop
  | 0, f => f []
  | k + 1, f => ∀ v, allL k fun l => f (v :: l)
theorem allL_use : ∀ {k : Nat} {f : List Value → Prop} {l : List Value}, allL k f → l.length = k → f l
  | 0, f, [], h, _ => h
  | k + 1, f, v :: l, h, hl => allL_use (f := fun l => f (v :: l)) (h v) (by simpa using hl)
theorem allL_mk : ∀ {k : Nat} {f : List Value → Prop}, (∀ l, l.length = k → f l) → allL k f
  | 0, f, h => h [] rfl
  | k + 1, f, h => fun v => allL_mk fun l hl => h (v :: l) (by simp [hl])

/-- a value that is a function's, ready to be called -/
def rangeV (P : Program) (g : Value) (F : FuncId → List Value → Prop) : Prop := match g with
  | .func (.func f) first cap => first = #[] ∧ hasBody P f = true ∧ F f cap.toList
  | _ => False
/-- for .. := range g { .. } -/
def rangeX (P : Program) (k : Nat) (g : Value) (w : World) (asg : List Value → World → (Env → World → Prop) → Prop) (bdy : Env → World → (World → Prop) → Prop) (rest : Nat → World → Prop) : Prop :=
  rangeV P g fun f cap => ∀ (l : Nat) (w1 : World) (o o1 o2 : Obj), Entered w w1 l o →
      (allL k fun xs => ∀ (W : World) (K : Cont), AtX W l o → asg xs W (fun e Wa => AtX Wa l o ∧ ∀ Wb, Sto Wa Wb l o1 → bdy e Wb (fun Wc => AtX Wc l o1 ∧ ∀ Wd, Sto Wc Wd l o → K (.bool true) Wd)) → yieldX P l xs W K) →
      callX P f (.func (.yield l) #[] #[] :: cap) w1 (fun _ w2 => AtX w2 l o ∧ ∀ w3, Sto w2 w3 l o2 → rest l w3)

def putL (n : Nat) : List Tmp → List Value → Env → Env
  | t :: ts, v :: vs, e => putL n ts vs (e.put n (some t) (.v v))
  | _, _, e => e

def hasRF : Code → Bool
  | .rangeFunc _ _ _ _ => true
  | .seq a b => bif hasRF a then true else hasRF b
  | .block _ a => hasRF a
  | _ => false

def rfsem (P : Program) (n : Nat) : Code → Ann → Env → World → (Nat → Env → World → Prop) → (Nat → Env → World → Prop) → Prop
  | .seq a b, A, e, w, k, r => bif hasRF a then rfsem P n a A.l e w (fun l e w => csem P n true b A.r e w (k l) (fun _ _ _ => False) (r l)) r else csem P n true a A.l e w (fun e w => rfsem P n b A.r e w k r) (fun _ _ _ => False) (fun _ _ => False)
  | .block _ a, A, e, w, k, r => rfsem P n a A.l e w k r
  | .rangeFunc g ps assign body, A, e, w, k, _ => w1 (ev e g) fun g => rangeX P ps.size g w (fun xs W kk => csem P n false assign A.l (putL n ps.toList xs e) W kk (fun _ _ _ => False) (fun _ _ => False))
      (fun e W kk => csem P n false body A.r e W (fun _ w => kk w) (fun _ _ _ => False) (fun _ _ => False)) (fun l w => k l e w)
  | _, _, _, _, _, _ => False

def fRX (P : Program) (f : FuncId) (A : Ann) (args : List Value) (w : World) (K : Cont) : Prop := match P.funcs[f]? with
  | some fn => (match fn.body with
    | some c => bif Nat.ble args.length fn.ntmps then rfsem P fn.ntmps c A (argE fn.ntmps 0 args) w
        (fun l e w => AtX w (l - 1) (.deferred (some [])) ∧ ∀ w', Sto w w' (l - 1) (.deferred none) → resX P fn.results e w' K)
        (fun l e w => AtX w (l - 1) (.deferred (some [])) ∧ ∀ w', Sto w w' (l - 1) (.deferred none) → resX P fn.results e w' K) else False
    | none => False)
  | none => False

section
variable {P : Program} {n m : Nat}

theorem sto_putObj {w : World} {b : Nat} {o o' : Obj} (h : w.heap[b]? = some o') : Sto w (w.putObj b o) b o :=
  ⟨by simp, World.putObj_heap_same (Array.getElem?_eq_some_iff.1 h).1, fun r hr => World.putObj_heap_other hr, ⟨rfl, rfl, rfl⟩⟩

theorem rep_putL {tmps : Array Value} : ∀ (ts : List Tmp) (vs : List Value) (e : Env) (tm : Array Value), Rep n { tmps := tm, defers := [] } e → Rep n { tmps := (ts.zip vs).foldl (fun t (p, v) => t.setIfInBounds p v) tm, defers := [] } (putL n ts vs e)
  | [], vs, e, tm, h => by cases vs <;> exact h
  | t :: ts, [], e, tm, h => h
  | t :: ts, v :: vs, e, tm, h => by
    simp only [putL, List.zip_cons_cons, List.foldl_cons]
    exact rep_putL (tmps := tmps) ts vs _ _ (h.put (some t) (.v v))

def rfQ (n : Nat) (k r : Nat → Env → World → Prop) : Exit → Act → World → Prop
  | .normal, a, w => ∃ l e, Rep n a e ∧ a.defers = [⟨.collected (l - 1), #[]⟩] ∧ k l e w
  | .ret, a, w => ∃ l e, Rep n a e ∧ a.defers = [⟨.collected (l - 1), #[]⟩] ∧ r l e w
  | _, _, _ => False

theorem rangeX_sound (hm : P.follows .mixedOrders = true) {g : Operand} {ps : Array Tmp} {assign body : Code} {A : Ann} {e : Env} {w : World} {a : Act} {k r : Nat → Env → World → Prop}
    (h : rfsem P n (.rangeFunc g ps assign body) A e w k r) (hr : Rep n a e) (hd : a.defers = []) : (Code.rangeFunc g ps assign body).wpIn (Fr none) m P (rfQ n k r) a w := by
  simp only [rfsem] at h
  obtain ⟨s, hs, h⟩ := w1_some h
  have hev := ev_eval hr hs
  unfold rangeX rangeV at h
  split at h
  · rename_i gf first lb hg
    obtain ⟨rfl, hbody, h⟩ := h
    rw [hg] at hev
    refine wpIn_rangeFunc ?_
    intro fn hfn
    obtain ⟨rec, hrec⟩ : ∃ rec : LoopState → Option Code → Loop, rec = fun st pe => { state := st, pending := pe, fn, tmps := a.tmps, params := ps, assign, body, defers := w.heap.size } := ⟨_, rfl⟩
    obtain ⟨W1, hW1⟩ : ∃ W1, (w.alloc (.deferred (some []))).alloc (.loop (rec .ready none)) = W1 := ⟨_, rfl⟩
    have hL1 : W1.heap[w.heap.size + 1]? = some (.loop (rec .ready none)) := by
      rw [← hW1]; have := World.alloc_heap_new (w.alloc (.deferred (some []))) (.loop (rec .ready none)); rwa [World.size_alloc] at this
    have hK1 : W1.heap[w.heap.size]? = some (.deferred (some [])) := by
      rw [← hW1]; exact (Below.heap_alloc _ _ _ (by simp)).trans (World.alloc_heap_new w _)
    have hent : Entered w W1 (w.heap.size + 1) (.loop (rec .ready none)) := by
      refine ⟨rfl, ?_, hL1, hK1, fun r hr => ?_, ?_⟩
      · rw [← hW1]; simp
      · rw [← hW1]; exact (Below.heap_alloc _ _ _ (by simp; omega)).trans (Below.heap_alloc _ _ _ hr)
      · rw [← hW1]; exact ⟨rfl, rfl, rfl⟩
    refine ⟨w.heap.size + 1, [{ target := .collected w.heap.size, args := #[] }], W1, { target := .fn (.func gf) lb, args := #[.func (.yield (w.heap.size + 1)) #[] #[]] }, W1, gf,
      #[.func (.yield (w.heap.size + 1)) #[] #[]] ++ lb, W1, ?_, ?_, fun _ _ => trivial, ?_, (fun hh => by cases hh), ?_⟩
    · rw [← hW1, hrec]; exact run_enterLoop_outer _ _ _ _ _
    · simp only [resolve, hev]
      simp [go_sem]
    · have eg : ∀ args w, (callFunc gf args).run P w = .ok (.enter gf args) w := fun args w => run_call_body hbody
      simp [invoke, go_sem, eg]
    · have hc := h (w.heap.size + 1) W1 (.loop (rec .ready none)) (.loop (rec .busy none)) (.loop (rec .exhausted none)) hent ?_
      · have ha : (#[Value.func (.yield (w.heap.size + 1)) #[] #[]] ++ lb) = (Value.func (.yield (w.heap.size + 1)) #[] #[] :: lb.toList).toArray := by apply Array.ext'; simp
        unfold callX at hc
        rw [← ha] at hc
        have hc' := (callsIn_wide (n := m - 1)).2 hc
        refine CallsIn.mono hc' ?_
        rintro e' w2 ⟨v, rfl, hl2, hrest⟩
        refine ⟨none, w2.putObj (w.heap.size + 1) (.loop (rec .exhausted none)), ?_, ?_⟩
        · have := run_endLoop (P := P) hl2 (by rw [hrec]; simp)
          rw [hrec] at this ⊢
          exact this
        · refine ⟨w.heap.size + 1, e, hr, ?_, hrest _ (sto_putObj hl2)⟩
          simp [hd]
      · refine allL_mk fun xs hxs W K hl hasg => ?_
        have hy := run_yield (P := P) (args := xs.toArray) hl (by rw [hrec]; simpa using hxs)
        rw [hrec] at hy
        refine ⟨fn, _, assign, body, hy, roundIn_of_wpIn trivial ?_⟩
        have hrep : Rep n { tmps := (ps.zip xs.toArray).foldl (fun t (p, v) => t.setIfInBounds p v) a.tmps, defers := [] } (putL n ps.toList xs e) := by
          have := rep_putL (tmps := a.tmps) (n := n) ps.toList xs e a.tmps ⟨hr.1, hr.2⟩
          have hz : (ps.zip xs.toArray).foldl (fun t (p, v) => t.setIfInBounds p v) a.tmps = (ps.toList.zip xs).foldl (fun t (p, v) => t.setIfInBounds p v) a.tmps := by
            rw [← Array.foldl_toList]; simp
          rw [hz]
          exact this
        refine wpIn_mono (csem_sound (rd := some (w.heap.size + 1)) (m := 0) hm (fun hh => by cases hh) assign A.l _ W _ (fun _ => true) _ _ _ (inside_true _) hasg hrep) ?_
        intro ex a1 Wa hx
        cases ex with
        | normal =>
          obtain ⟨e1, hr1, _, hla, hb⟩ := hx
          refine ⟨_, run_beginRound hla (by rw [hrec]), ?_⟩
          have hst : Sto Wa (Wa.putObj (w.heap.size + 1) (.loop { rec .ready none with state := .busy })) (w.heap.size + 1) (.loop (rec .busy none)) := by
            have := sto_putObj (o := .loop (rec .busy none)) hla
            rw [hrec] at this ⊢
            exact this
          refine wpIn_mono (csem_sound (rd := some (w.heap.size + 1)) (m := 0) hm (fun hh => by cases hh) body A.r _ _ a1 (fun _ => true) _ _ _ (inside_true _) (hb _ hst) hr1) ?_
          intro ex a2 Wc hx
          cases ex with
          | normal =>
            obtain ⟨e2, hr2, _, hlc, hk⟩ := hx
            refine ⟨.bool true, Wc.putObj (w.heap.size + 1) (.loop (rec .ready none)), ?_, .bool true, rfl, hk _ (sto_putObj hlc)⟩
            have := run_endRound (P := P) none hlc
            rw [hrec] at this ⊢
            exact this
          | ret => obtain ⟨e2, hr2, _, hf⟩ := hx; exact hf.elim
          | exit id => obtain ⟨e2, hr2, _, hf⟩ := hx; exact hf.elim
          | _ => exact hx.elim
        | ret => obtain ⟨e2, hr2, _, hf⟩ := hx; exact hf.elim
        | exit id => obtain ⟨e2, hr2, _, hf⟩ := hx; exact hf.elim
        | _ => exact hx.elim
  · exact h.elim

theorem rfsem_sound (hm : P.follows .mixedOrders = true) : ∀ (c : Code) (A : Ann) (e : Env) (w : World) (a : Act) (k r : Nat → Env → World → Prop), rfsem P n c A e w k r → Rep n a e → a.defers = [] → c.wpIn (Fr none) m P (rfQ n k r) a w := by
  intro c
  induction c with
  | rangeFunc g ps x y _ _ => exact fun A e w a k r h hr hd => rangeX_sound hm h hr hd
  | seq x y ihx ihy =>
    intro A e w a k r h hr hd
    simp only [rfsem] at h
    cases hf : hasRF x with
    | true =>
      rw [hf] at h
      simp only [cond_true] at h
      refine wpIn_seq (wpIn_mono (ihx _ e w a _ _ h hr hd) ?_)
      intro ex a' w' hx
      cases ex with
      | normal =>
        obtain ⟨l, e', hr', hd', h'⟩ := hx
        refine wpIn_mono (csem_sound (rd := none) hm (fun _ => rfl) y A.r e' w' a' (fun _ => true) _ _ _ (inside_true _) h' hr') ?_
        intro ex a2 w2 hx
        cases ex with
        | normal => obtain ⟨e2, hr2, hk2, h2⟩ := hx; exact ⟨l, e2, hr2, hk2.1.trans hd', h2⟩
        | ret => obtain ⟨e2, hr2, hk2, h2⟩ := hx; exact ⟨l, e2, hr2, hk2.1.trans hd', h2⟩
        | exit id => obtain ⟨e2, hr2, hk2, h2⟩ := hx; exact h2.elim
        | _ => exact hx.elim
      | ret =>
        obtain ⟨l, e', hr', hd', h'⟩ := hx
        exact ⟨l, e', hr', hd', h'⟩
      | _ => exact hx.elim
    | false =>
      rw [hf] at h
      simp only [cond_false] at h
      refine wpIn_seq (wpIn_mono (csem_sound (rd := none) hm (fun _ => rfl) x A.l e w a (fun _ => true) _ _ _ (inside_true _) h hr) ?_)
      intro ex a' w' hx
      cases ex with
      | normal => obtain ⟨e', hr', hk', h'⟩ := hx; exact ihy _ e' w' a' k r h' hr' (hk'.1.trans hd)
      | ret => obtain ⟨e2, hr2, hk2, h2⟩ := hx; exact h2.elim
      | exit id => obtain ⟨e2, hr2, hk2, h2⟩ := hx; exact h2.elim
      | _ => exact hx.elim
  | block id x ih =>
    intro A e w a k r h hr hd
    simp only [rfsem] at h
    refine wpIn_block (wpIn_mono (ih _ e w a k r h hr hd) ?_)
    intro ex a' w' hx
    cases ex with
    | normal => exact hx
    | ret => exact hx
    | _ => exact hx.elim
  | _ => intro A e w a k r h; simp [rfsem] at h

theorem fRX_sound (hm : P.follows .mixedOrders = true) {f : FuncId} {A : Ann} {args : List Value} {w : World} {K : Cont} (h : fRX P f A args w K) : callX P f args w K := by
  unfold fRX at h
  split at h
  · rename_i fn hf
    split at h
    · rename_i c hb
      cases hl : Nat.ble args.length fn.ntmps with
      | false => rw [hl] at h; exact h.elim
      | true =>
        rw [hl] at h
        simp only [cond_true] at h
        have hrep : Rep fn.ntmps { tmps := args.toArray ++ Array.replicate (fn.ntmps - args.toArray.size) undef, defers := [] } (argE fn.ntmps 0 args) := by
          have := rep_args fn.ntmps args 0 [] rfl (by simpa [Nat.ble_eq] using hl)
          simpa using this
        have fin : ∀ (l : Nat) (e : Env) (a' : Act) (w' : World), Rep fn.ntmps a' e → a'.defers = [⟨.collected (l - 1), #[]⟩] → (w'.heap[l - 1]? = some (.deferred (some [])) ∧ ∀ w2, Sto w' w2 (l - 1) (.deferred none) → resX P fn.results e w2 K) →
            LeavesInM Fence.wide 0 P fn a'.tmps (fun e w' => ∃ v, e = .returned v ∧ K v w') a'.defers .returning w' := by
          rintro l e a' w' hr hd ⟨hblk, hres⟩
          rw [hd]
          refine ⟨by simp, .inl ⟨l - 1, _, rfl, run_takeDeferred hblk, ?_⟩⟩
          obtain ⟨v, h1, h2⟩ := resX_run hr (hres _ (sto_putObj hblk))
          exact ⟨v, h1, v, rfl, h2⟩
        refine callsIn_wide.1 (callsIn_of_wp_marks (n := 0) hf hb trivial (wpIn_mono (rfsem_sound hm c A _ w _ _ _ h hrep rfl) ?_))
        intro ex a' w' hx
        cases ex with
        | normal => obtain ⟨l, e, hr, hd, h'⟩ := hx; exact fin l e a' w' hr hd h'
        | ret => obtain ⟨l, e, hr, hd, h'⟩ := hx; exact fin l e a' w' hr hd h'
        | _ => exact hx.elim
    · exact h.elim
  · exact h.elim

theorem fRX_call (hm : P.follows .mixedOrders = true) {f : FuncId} {A : Ann} {args : List Value} {w : World} {K : Cont} {Q : Prop} (he : fRX P f A args w K = Q) (h : Q) : callX P f args w K :=
  fRX_sound hm (A := A) (he.symm ▸ h)

end
attribute [irreducible] fRX
end Go.Proofs.YtgnmelnohclpgaaDoor
