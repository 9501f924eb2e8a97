/- Own framework, part B: each operation of the loaded code, by its meaning, and that the machine does just that. -/
import Derived.Test.YtgnmelnohclpgaaDoorSxA
import Derived.Laws.Cells
import Derived.Laws.Entries
import Derived.Laws.StructEq
import Derived.Lib.FrozenHead
set_option linter.unusedVariables false
set_option linter.unusedSimpArgs false
namespace Go.Proofs.YtgnmelnohclpgaaDoor
open Go

def Rep (n : Nat) (a : Act) (e : Env) : Prop := a.tmps.size = n ∧ ∀ i s, e i = some s → (a.tmps[i]?).getD undef = s.val

theorem Rep.put {n : Nat} {a : Act} {e : Env} (h : Rep n a e) (d : Option Tmp) (s : SV) : Rep n (a.put d s.val) (e.put n d s) := by
  obtain ⟨h1, h2⟩ := h
  cases d with
  | none => exact ⟨h1, h2⟩
  | some d =>
    refine ⟨by simp [Act.put, h1], fun i s' hs => ?_⟩
    simp only [Env.put] at hs
    simp only [Act.put]
    rw [Array.getElem?_setIfInBounds]
    cases hb : Nat.beq i d with
    | true =>
      have : i = d := Nat.eq_of_beq_eq_true hb
      subst this
      rw [hb] at hs
      simp only [cond_true] at hs
      cases hlt : Nat.blt i n with
      | true =>
        rw [hlt] at hs
        simp only [cond_true, Option.some.injEq] at hs
        have hi : i < n := by simpa [Nat.blt_eq] using hlt
        subst hs
        simp [hi, h1]
      | false => rw [hlt] at hs; simp at hs
    | false =>
      rw [hb] at hs
      simp only [cond_false] at hs
      have hne : ¬ d = i := fun e => by subst e; rw [Nat.beq_refl] at hb; cases hb
      rw [if_neg hne]
      exact h2 i s' hs

theorem Rep.drop {n : Nat} {a : Act} {e : Env} (h : Rep n a e) (l : List Nat) : Rep n a (e.drop l) :=
  ⟨h.1, fun i s hs => h.2 i s (by simp only [Env.drop] at hs; cases hb : l.any (Nat.beq i) <;> simp [hb] at hs; exact hs)⟩

/-- Of one env more is known than of another. -/
theorem Rep.sub {n : Nat} {a : Act} {e e' : Env} (h : Rep n a e) (hs : ∀ i s, e' i = some s → ∃ s', e i = some s' ∧ s'.val = s.val) : Rep n a e' :=
  ⟨h.1, fun i s hi => by obtain ⟨s', h1, h2⟩ := hs i s hi; rw [h.2 i s' h1, h2]⟩

theorem ev_eval {n : Nat} {a : Act} {e : Env} (h : Rep n a e) {x : Operand} {s : SV} (hs : ev e x = some s) : a.eval x = s.val := by
  cases x with
  | tmp t => show a.tmps.getD t undef = s.val; rw [Array.getD_eq_getD_getElem?]; exact h.2 t s hs
  | const v => cases v <;> simp [ev] at hs <;> subst hs <;> rfl
  | global g => simp [ev] at hs; subst hs; rfl
  | func f => simp [ev] at hs; subst hs; rfl

theorem w1_some {o : Option SV} {f : Value → Prop} (h : w1 o f) : ∃ s, o = some s ∧ f s.val := by
  cases o with
  | none => exact h.elim
  | some s => exact ⟨s, rfl, h⟩

theorem evs_eval {n : Nat} {a : Act} {e : Env} (h : Rep n a e) : ∀ {l : List Operand} {vs : List Value}, evs e l = some vs → l.map a.eval = vs
  | [], vs, hv => by simp [evs] at hv; subst hv; rfl
  | x :: l, vs, hv => by
    simp only [evs] at hv
    split at hv
    · rename_i s vs' h1 h2
      simp at hv
      subst hv
      simp [ev_eval h h1, evs_eval h h2]
    · simp at hv

theorem wl_some {o : Option (List Value)} {f : List Value → Prop} (h : wl o f) : ∃ s, o = some s ∧ f s := by
  cases o with
  | none => exact h.elim
  | some s => exact ⟨s, rfl, h⟩

theorem wo_some {n : Nat} {a : Act} {e : Env} (hr : Rep n a e) {x : Option Operand} {f : Option Value → Prop} (h : wo e x f) : f (x.map a.eval) := by
  cases x with
  | none => exact h
  | some x =>
    obtain ⟨s, h1, h2⟩ := w1_some (show w1 (ev e x) (fun v => f (some v)) from h)
    simpa [ev_eval hr h1] using h2

/-! ### The table of types -/
def aggN (P : Program) (t : TypeId) : Option (Option Nat) := match P.underlying t with
  | some (.struct _) => (P.info? t).map fun i => some i.size
  | some (.array _ _) => (P.info? t).map fun i => some i.size
  | some _ => (match P.info? t with | some i => if i.size = 1 then some none else none | none => none)
  | none => none
def eqKOf (P : Program) (t : TypeId) : Option EqK := match P.underlying t with
  | some (.int _) => some .num
  | some .bool => some .bool
  | some .string => some .str
  | some (.pointer _) => some .ptr
  | some (.slice _) => some .slice
  | some (.map _ _) => some .map
  | some (.func _ _ _) => some .func
  | some (.interface _) => some .iface
  | _ => none
def fieldOff (P : Program) (s : TypeId) (f : Nat) : Option Nat := match P.underlying s with
  | some (.struct fields) => (match fields[f]? with
    | some f => (match P.info? f.type with | some i => if i.size = 0 then none else some f.offset | none => none)
    | none => none)
  | _ => none
/-- a field of a struct's value: where it lies, how many cells (none: one) -/
def fieldAt' (P : Program) (s : TypeId) (f : Nat) : Option (Nat × Option Nat) := match P.underlying s with
  | some (.struct fields) => (match fields[f]? with
    | some f => (aggN P f.type).map fun a => (f.offset, a)
    | none => none)
  | _ => none
def sizeP (P : Program) (t : TypeId) : Option Nat := (P.info? t).map (·.size)

section
variable {P : Program} {w : World}
theorem run_info {t : TypeId} {i : TypeInfo} (h : P.info? t = some i) : (typeInfo t).run P w = .ok i w := by
  simp [typeInfo, h]
theorem run_und {t : TypeId} {d : TypeDesc} (h : P.underlying t = some d) : (underlying t).run P w = .ok d w := run_underlying h w
theorem run_size {t : TypeId} {n : Nat} (h : sizeP P t = some n) : (sizeOf t).run P w = .ok n w := by
  obtain ⟨i, hi, rfl⟩ := Option.map_eq_some_iff.1 h
  simp [sizeOf, run_info hi]
theorem aggN_one {t : TypeId} (h : aggN P t = some none) : (isAgg t).run P w = .ok false w ∧ sizeP P t = some 1 := by
  unfold aggN at h
  split at h
  · rename_i fs hu
    obtain ⟨i, _, h2⟩ := Option.map_eq_some_iff.1 h
    cases h2
  · rename_i fs hu
    obtain ⟨i, _, h2⟩ := Option.map_eq_some_iff.1 h
    cases h2
  · rename_i d h1 h2 hu
    split at h
    · rename_i i hi
      split at h
      · rename_i hs
        refine ⟨?_, by simp [sizeP, hi, hs]⟩
        simp only [isAgg, Sem.run_bind, run_und hu, Result.andThen_ok]
        cases d <;> first | rfl | exact absurd rfl (h1 _) | exact absurd rfl (h2 _ _)
      · cases h
    · cases h
  · cases h
theorem aggN_some {t : TypeId} {n : Nat} (h : aggN P t = some (some n)) : (isAgg t).run P w = .ok true w ∧ sizeP P t = some n := by
  unfold aggN at h
  split at h
  · rename_i fs hu
    obtain ⟨i, hi, h2⟩ := Option.map_eq_some_iff.1 h
    cases h2
    exact ⟨by simp [isAgg, run_und hu], by simp [sizeP, hi]⟩
  · rename_i fs hu
    obtain ⟨i, hi, h2⟩ := Option.map_eq_some_iff.1 h
    cases h2
    exact ⟨by simp [isAgg, run_und hu], by simp [sizeP, hi]⟩
  · split at h
    · split at h <;> cases h
    · cases h
  · cases h
theorem run_load_of {a : Addr} {v : Value} (h : w.cell? a = some v) : (load a).run P w = .ok v w := by simp [h]
theorem run_loadCells_of {p : Addr} {l : List Value} {n : Nat} (hn : l.length = n) (h : ∀ (i : Nat) (v : Value), l[i]? = some v → w.cell? (p.add i) = some v) : (loadCells p n).run P w = .ok l.toArray w := by
  subst hn
  exact run_loadCells_list w p l h
theorem run_zero {t : TypeId} {z : Value} (h : (P.info? t).bind (·.zero) = some z) : (zeroValue t).run P w = .ok z w := by
  obtain ⟨i, hi, hz⟩ := Option.bind_eq_some_iff.1 h
  simp [zeroValue, run_info hi, hz]
end

theorem new_alloc (w : World) (o : Obj) : New w (w.alloc o) w.heap.size o :=
  ⟨rfl, by simp, by show (w.heap.push o)[w.heap.size]? = some o; simp, fun r hr => by show (w.heap.push o)[r]? = _; rw [Array.getElem?_push, if_neg (by omega)], ⟨rfl, rfl, rfl⟩⟩

theorem frozen_of {w : World} {b off : Nat} {c : Array Value} {t : TypeId} {fz : Nat × Nat} (h : w.heap[b]? = some (.cells c t fz)) (hf : ¬ (fz.1 ≤ off ∧ off < fz.2)) : w.frozen? ⟨b, off, none⟩ = false := by
  simp only [World.frozen?, h, Bool.and_eq_false_iff, decide_eq_false_iff_not]
  omega
theorem cell_of {w : World} {b off : Nat} {c : Array Value} {t : TypeId} {fz : Nat × Nat} (h : w.heap[b]? = some (.cells c t fz)) : w.cell? ⟨b, off, none⟩ = c[off]? := by
  simp [World.cell?, h]
theorem sto_setCell {w : World} {b off : Nat} {c : Array Value} {t : TypeId} {fz : Nat × Nat} (v : Value) (h : w.heap[b]? = some (.cells c t fz)) : Sto w (w.setCell ⟨b, off, none⟩ v) b (.cells (c.setIfInBounds off v) t fz) := by
  refine ⟨by simp [World.setCell], ?_, fun r hr => ?_, ⟨rfl, rfl, rfl⟩⟩
  · simp [World.setCell, Array.getElem?_modify, h]
  · simp only [World.setCell, Array.getElem?_modify]; rw [if_neg (fun e => hr e.symm)]
theorem Sto.trans {w w' w'' : World} {b : Nat} {o o' : Obj} (h : Sto w w' b o) (k : Sto w' w'' b o') : Sto w w'' b o' :=
  ⟨k.size.trans h.size, k.obj, fun r hr => (k.old r hr).trans (h.old r hr), ⟨k.same.os.trans h.same.os, k.same.tape.trans h.same.tape, k.same.output.trans h.same.output⟩⟩
theorem Sto.refl {w : World} {b : Nat} {o : Obj} (h : w.heap[b]? = some o) : Sto w w b o := ⟨rfl, h, fun _ _ => rfl, ⟨rfl, rfl, rfl⟩⟩
theorem putAll_size (c : Array Value) (o : Nat) (l : List Value) : (putAll c o l).size = c.size := by
  induction l generalizing c o with
  | nil => rfl
  | cons v l ih => simp [putAll, ih]

theorem add_none (b off n : Nat) : (⟨b, off, none⟩ : Addr).add n = ⟨b, off + n, none⟩ := by
  unfold Addr.add
  by_cases h : n = 0
  · subst h; simp
  · simp [h]

theorem run_storeCells_blk {P : Program} {b off : Nat} {t : TypeId} {fz : Nat × Nat} : ∀ (l : List Value) (i : Nat) (c : Array Value) (w : World), w.heap[b]? = some (.cells c t fz) → off + i + l.length ≤ c.size →
    thawed fz (off + i) l.length → (∀ x ∈ l, x.oneCell' = true) → ∃ w', (storeCells ⟨b, off, none⟩ l i).run P w = .ok () w' ∧ Sto w w' b (.cells (putAll c (off + i) l) t fz)
  | [], i, c, w, hb, hs, hf, hl => ⟨w, by simp [storeCells], Sto.refl hb⟩
  | v :: l, i, c, w, hb, hs, hf, hl => by
    simp only [List.length_cons] at hs
    have h1 := sto_setCell (off := off + i) v hb
    have hv := hl v (by simp)
    have hc : ∃ u, w.cell? ⟨b, off + i, none⟩ = some u := by
      rw [cell_of hb]; exact ⟨c[off + i]'(by omega), Array.getElem?_eq_getElem (by omega)⟩
    obtain ⟨u, hu⟩ := hc
    have hfr : w.frozen? ⟨b, off + i, none⟩ = false := frozen_of hb (hf 0 (by simp))
    obtain ⟨w', h2, h3⟩ := run_storeCells_blk (P := P) (b := b) (off := off) (t := t) (fz := fz) l (i + 1) _ _ h1.obj (by simp; omega)
      (fun j hj => by have := hf (j + 1) (by simp; omega); omega) (fun x hx => hl x (by simp [hx]))
    refine ⟨w', ?_, ?_⟩
    · simp only [storeCells, add_none, Sem.run_bind, run_store P w _ _ _ hv, hu, hfr, Bool.false_eq_true, if_false, Result.andThen_ok]
      exact h2
    · exact h1.trans h3

end Go.Proofs.YtgnmelnohclpgaaDoor
