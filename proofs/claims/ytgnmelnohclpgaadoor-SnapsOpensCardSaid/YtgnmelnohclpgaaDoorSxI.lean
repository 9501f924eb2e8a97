/- Own framework, part I: the machine does what the meaning says: literals, slices of slices, built-ins. -/
import Derived.Test.YtgnmelnohclpgaaDoorSxH
set_option linter.unusedVariables false
set_option linter.unusedSimpArgs false
namespace Go.Proofs.YtgnmelnohclpgaaDoor
open Go

section
variable {P : Program} {w : World} {a : Act} {e : Env} {n : Nat}

theorem run_bound {k : IntKind} {i : Int} {y : Nat} {c : BoundsCode} (h0 : 0 ≤ i) (h1 : i.toNat ≤ y) : (Instr.sliceBound (.int k i) y c).run P w = .ok i.toNat w := by
  have : 0 ≤ i ∧ i ≤ y := ⟨h0, by omega⟩
  simp [Instr.sliceBound, asIntOf, this]

theorem natOf_some {o : Option Value} {d m : Nat} (h : natOf o d = some m) : (o = none ∧ m = d) ∨ (∃ k i, o = some (.int k i) ∧ 0 ≤ i ∧ i.toNat = m) := by
  unfold natOf at h
  split at h
  · cases h; exact .inl ⟨rfl, rfl⟩
  · split at h
    · cases h; exact .inr ⟨_, _, rfl, by assumption, rfl⟩
    · cases h
  · cases h

theorem run_sliceBounds {b : Bool} {len cap l h m : Nat} {lo hi mx : Option Value} (hm : natOf mx cap = some m) (hh : natOf hi len = some h) (hl : natOf lo 0 = some l) (h1 : l ≤ h) (h2 : h ≤ m) (h3 : m ≤ cap) (hmx : mx.isSome = true → hi.isSome = true) :
    (Instr.sliceBounds b len cap lo hi mx).run P w = .ok (l, h, m) w := by
  rcases natOf_some hm with ⟨rfl, rfl⟩ | ⟨k1, i1, rfl, hi1, rfl⟩
  · rcases natOf_some hh with ⟨rfl, rfl⟩ | ⟨k2, i2, rfl, hi2, rfl⟩
    · rcases natOf_some hl with ⟨rfl, rfl⟩ | ⟨k3, i3, rfl, hi3, rfl⟩
      · simp [Instr.sliceBounds]
      · simp [Instr.sliceBounds, run_bound hi3 h1]
    · rcases natOf_some hl with ⟨rfl, rfl⟩ | ⟨k3, i3, rfl, hi3, rfl⟩
      · simp [Instr.sliceBounds, run_bound hi2 h2]
      · simp [Instr.sliceBounds, run_bound hi2 h2, run_bound hi3 h1]
  · rcases natOf_some hh with ⟨rfl, rfl⟩ | ⟨k2, i2, rfl, hi2, rfl⟩
    · cases hmx rfl
    · rcases natOf_some hl with ⟨rfl, rfl⟩ | ⟨k3, i3, rfl, hi3, rfl⟩
      · simp [Instr.sliceBounds, run_bound hi1 h3, run_bound hi2 h2]
      · simp [Instr.sliceBounds, run_bound hi1 h3, run_bound hi2 h2, run_bound hi3 h1]

theorem slice_ends {t : TypeId} {x : Operand} {lo hi mx : Option Operand} {o : Oper} {K : SV → World → Prop} (ho : o.op = .slice t x lo hi mx) (hr : Rep n a e) (h : opX P e o.op w K) : Ends P a o w K := by
  rw [ho] at h
  simp only [opX] at h
  have hx : execOp a.eval o = (do pure (.value (← Instr.sliceAt t (a.eval x) (lo.map a.eval) (hi.map a.eval) (mx.map a.eval)))) := by simp only [execOp, ho]
  split at h
  · rename_i el hu
    split at h
    · rename_i s hsz
      obtain ⟨v, hs, h⟩ := w1_some h
      have h1 := wo_some hr h
      have h2 := wo_some hr h1
      have h3 := wo_some hr h2
      unfold sliceX at h3
      split at h3
      · rename_i p len cap hp
        obtain ⟨l, hh, m, e1, e2, e3, q1, q2, q3, hmx, hk⟩ := h3
        refine .of hx ?_ hk
        rw [ev_eval hr hs, hp]
        have hb := run_sliceBounds (P := P) (w := w) (b := true) e1 e2 e3 q1 q2 q3 hmx
        simp [Instr.sliceAt, run_und hu, Instr.slice, hb, run_size hsz]
      · exact h3.elim
    · exact h.elim
  · rename_i hu
    split at h
    · obtain ⟨v, hs, h⟩ := w1_some h
      have h1 := wo_some hr h
      have h2 := wo_some hr h1
      unfold sliceStrX at h2
      split at h2
      · rename_i b hp
        obtain ⟨l, hh, e2, e3, q1, q2, hk⟩ := h2
        refine .of hx ?_ hk
        rw [ev_eval hr hs, hp]
        have hb := run_sliceBounds (P := P) (w := w) (b := false) (mx := none) (cap := b.size) rfl e2 e3 q1 q2 (Nat.le_refl _) (by simp)
        simp [Instr.sliceAt, run_und hu, Instr.slice, hb]
      · exact h2.elim
    · exact h.elim
  · exact h.elim

theorem foldl_put (c : Array Value) (o : Nat) (l : List Value) : ∀ (k : Nat) (c : Array Value), ((l.zipIdx k).foldl (fun cs (x : Value × Nat) => cs.setIfInBounds (o + x.2) x.1) c) = putAll c (o + k) l := by
  induction l with
  | nil => intro k c; rfl
  | cons v l ih => intro k c; simp only [List.zipIdx_cons, List.foldl_cons, ih, putAll]; rfl

theorem fill_one (place : Nat → Option (Nat × Nat)) {i o s : Nat} {v : Value} {c : Array Value} {r : List (Nat × Value)} (hp : place i = some (o, s)) (hs : v.cells.size = s) (hle : o + s ≤ c.size) :
    Instr.fill place c ((i, v) :: r) = Instr.fill place (putAll c o v.cells.toList) r := by
  have h1 : (v.cells.size ≠ s || o + v.cells.size > c.size) = false := by simp [hs]; omega
  simp only [Instr.fill, hp, h1, Bool.false_eq_true, if_false]
  congr 1
  have := foldl_put c o v.cells.toList 0 c
  simp only [Nat.add_zero] at this
  rw [← this, ← Array.foldl_toList]
  congr 1
  simp

theorem build_fill {t : TypeId} {place : Nat → Option (Nat × Nat)} (hpl : ∀ i, buildPs.place P t i ≠ none → place i = buildPs.place P t i) (hr : Rep n a e) : ∀ {l : List (Nat × Operand)} {ps : List (Nat × Nat × Value)} {c : Array Value}, buildPs P t e l = some ps → (∀ p ∈ ps, p.2.2.cells.size = p.2.1 ∧ p.1 + p.2.1 ≤ c.size) →
    Instr.fill place c (l.map fun (i, x) => (i, a.eval x)) = some (fillAll c (ps.map fun p => (p.1, p.2.2)))
  | [], ps, c, h, _ => by simp [buildPs] at h; subst h; rfl
  | (i, x) :: l, ps, c, h, hq => by
    simp only [buildPs] at h
    split at h
    · rename_i o s v r h1 h2 h3
      cases h
      have hh := hq _ (List.mem_cons_self ..)
      simp only [List.map_cons, fillAll]
      rw [ev_eval hr h2, fill_one place (by rw [hpl i (by rw [h1]; simp), h1]) hh.1 (by simpa using hh.2)]
      exact build_fill hpl hr h3 (fun p hp => by rw [putAll_size]; exact hq p (by simp [hp]))
    · cases h

theorem mapM_places (fields : Array Field) (f : Field → Option Nat) (hf : ∀ fd ∈ fields.toList, ∃ m, sizeP P fd.type = some m) :
    (fields.mapM fun f => (do pure (f.offset, ← sizeOf f.type) : Sem (Nat × Nat))).run P w = .ok (fields.map fun fd => (fd.offset, (sizeP P fd.type).getD 0)) w := by
  rw [Array.mapM_eq_mapM_toList]
  simp only [Sem.run_map]
  have : ∀ (l : List Field), (∀ fd ∈ l, ∃ m, sizeP P fd.type = some m) → (l.mapM fun f => (do pure (f.offset, ← sizeOf f.type) : Sem (Nat × Nat))).run P w = .ok (l.map fun fd => (fd.offset, (sizeP P fd.type).getD 0)) w := by
    intro l
    induction l with
    | nil => intro _; simp
    | cons g l ih =>
      intro hg
      obtain ⟨m, hm⟩ := hg g (by simp)
      have := ih (fun fd hfd => hg fd (by simp [hfd]))
      rw [List.mapM_cons]
      simp only [Sem.run_bind, run_size hm, Result.andThen_ok, Sem.run_pure, this, List.map_cons, hm, Option.getD_some]
  rw [this _ hf]
  simp only [Result.andThen_ok]
  congr 1
  apply Array.toList_inj.1
  simp

theorem build_ends {t : TypeId} {parts : Array (Nat × Operand)} {o : Oper} {K : SV → World → Prop} (ho : o.op = .build t parts) (hr : Rep n a e) (h : opX P e o.op w K) : Ends P a o w K := by
  rw [ho] at h
  simp only [opX] at h
  split at h
  · rename_i hz0
    obtain ⟨z, hz, hl, _⟩ := zero_of hz0.1
    split at h
    · rename_i ps hps
      unfold buildX at h
      obtain ⟨hq, hk⟩ := h
      refine .of (s := Instr.build t (parts.map fun (i, x) => (i, a.eval x))) (by simp only [execOp, ho]) ?_ hk
      rw [hl] at hq ⊢
      have hmap : (parts.map fun (i, x) => (i, a.eval x)).toList = parts.toList.map fun (i, x) => (i, a.eval x) := by simp
      have hz2 := hz0.2
      simp only [Instr.build, Sem.run_bind, run_zero hz, Result.andThen_ok]
      unfold buildOk at hz2
      split at hz2
      · rename_i fields hu
        simp only [run_und hu, Result.andThen_ok]
        have hff : ∀ fd ∈ fields.toList, ∃ m, sizeP P fd.type = some m := fun fd hfd => by
          have := List.all_eq_true.1 hz2 fd hfd
          exact Option.isSome_iff_exists.1 this
        simp only [Sem.run_bind, mapM_places fields (fun _ => none) hff, Result.andThen_ok]
        have hfill := build_fill (P := P) (t := t) (place := fun i => (fields.map fun fd => (fd.offset, (sizeP P fd.type).getD 0))[i]?) (fun i hne => by
          unfold buildPs.place at hne ⊢
          rw [hu] at hne ⊢
          simp only [Array.getElem?_map] at hne ⊢
          cases hf : fields[i]? with
          | none => rw [hf] at hne; simp at hne
          | some fd =>
            rw [hf] at hne
            simp only at hne ⊢
            cases hs : sizeP P fd.type with
            | none => rw [hs] at hne; simp at hne
            | some m => simp [hs]) hr (c := z.cells) hps (by simpa using hq)
        rw [hmap, hfill]
        simp
      · rename_i m el hu
        simp only [run_und hu, Result.andThen_ok]
        obtain ⟨s, hs⟩ := Option.isSome_iff_exists.1 hz2
        simp only [Sem.run_bind, run_size hs, Result.andThen_ok]
        have hfill := build_fill (P := P) (t := t) (place := fun i => some (i * s, s)) (fun i hne => by
          unfold buildPs.place
          rw [hu]
          simp [hs]) hr (c := z.cells) hps (by simpa using hq)
        rw [hmap, hfill]
        simp
      · cases hz2
    · exact h.elim
  · exact h.elim

end
end Go.Proofs.YtgnmelnohclpgaaDoor
