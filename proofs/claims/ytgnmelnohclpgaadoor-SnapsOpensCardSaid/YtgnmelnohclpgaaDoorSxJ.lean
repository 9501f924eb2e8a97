/- Own framework, part J: the machine does what the meaning says: slices' literals, make, built-ins. -/
import Derived.Test.YtgnmelnohclpgaaDoorSxI
set_option linter.unusedVariables false
set_option linter.unusedSimpArgs false
namespace Go.Proofs.YtgnmelnohclpgaaDoor
open Go

section
variable {P : Program} {w : World} {a : Act} {e : Env} {n : Nat}

theorem putAll_append : ∀ (l m : List Value) (c : Array Value) (o : Nat), putAll c o (l ++ m) = putAll (putAll c o l) (o + l.length) m
  | [], m, c, o => rfl
  | v :: l, m, c, o => by simp only [List.cons_append, putAll, putAll_append l m, List.length_cons]; congr 1; omega

/-- cells laid from the first place on, as many as there are -/
theorem putAll_get (l : List Value) : ∀ (c : Array Value) (o i : Nat), (putAll c o l)[i]? = if o ≤ i ∧ i < o + l.length ∧ i < c.size then l[i - o]? else c[i]? := by
  induction l with
  | nil => intro c o i; simp [putAll]; intro h1 h2; omega
  | cons v l ih =>
    intro c o i
    simp only [putAll, ih, Array.size_setIfInBounds, List.length_cons]
    by_cases h1 : o + 1 ≤ i ∧ i < o + 1 + l.length ∧ i < c.size
    · rw [if_pos h1, if_pos ⟨by omega, by omega, h1.2.2⟩]
      have : i - o = (i - (o + 1)) + 1 := by omega
      rw [this, List.getElem?_cons_succ]
    · rw [if_neg h1, Array.getElem?_setIfInBounds]
      by_cases h2 : o = i
      · subst h2
        by_cases h3 : o < c.size
        · simp [h3]
        · simp [h3]
      · rw [if_neg h2, if_neg (by omega)]

theorem putAll_all {c : Array Value} {l : List Value} (h : l.length = c.size) : putAll c 0 l = l.toArray := by
  apply Array.ext_getElem?
  intro i
  rw [putAll_get]
  by_cases hi : i < c.size
  · rw [if_pos ⟨by omega, by omega, hi⟩]; simp
  · rw [if_neg (by omega), Array.getElem?_eq_none (by omega)]; simp; omega

theorem buildS_fill {s : Nat} (hr : Rep n a e) : ∀ {l : List (Nat × Operand)} {vs : List Value} {c : Array Value} {k : Nat}, buildSPs e k l = some vs → (∀ v ∈ vs, v.cells.size = s) → k * s + vs.length * s ≤ c.size →
    Instr.fill (fun i => some (i * s, s)) c (l.map fun (i, x) => (i, a.eval x)) = some (putAll c (k * s) (vs.flatMap (·.cells.toList))) ∧ l.length = vs.length
  | [], vs, c, k, h, _, _ => by simp [buildSPs] at h; subst h; exact ⟨rfl, rfl⟩
  | (i, x) :: l, vs, c, k, h, hq, hle => by
    simp only [buildSPs] at h
    split at h
    · rename_i hik
      subst hik
      split at h
      · rename_i v r h1 h2
        cases h
        have hv := hq v.val (by simp)
        simp only [List.length_cons, Nat.add_mul, Nat.one_mul] at hle
        obtain ⟨g1, g2⟩ := buildS_fill hr (c := putAll c (i * s) v.val.cells.toList) h2 (fun v hv => hq v (by simp [hv])) (by rw [putAll_size, Nat.add_mul]; omega)
        refine ⟨?_, by simp [g2]⟩
        simp only [List.map_cons]
        rw [ev_eval hr h1, fill_one (fun i => some (i * s, s)) rfl hv (by omega), g1, List.flatMap_cons, putAll_append]
        congr 2
        rw [Nat.add_mul]
        simp [hv]
      · cases h
    · cases h

theorem flatMap_len {vs : List Value} {s : Nat} (h : ∀ v ∈ vs, v.cells.size = s) : (vs.flatMap (·.cells.toList)).length = vs.length * s := by
  induction vs with
  | nil => simp
  | cons v vs ih =>
    simp only [List.flatMap_cons, List.length_append, List.length_cons, ih (fun x hx => h x (by simp [hx])), Nat.add_mul]
    have := h v (by simp)
    simp [this]; omega

theorem buildS_ends {t : TypeId} {len : Nat} {parts : Array (Nat × Operand)} {o : Oper} {K : SV → World → Prop} (ho : o.op = .buildSlice t len parts) (hr : Rep n a e) (h : opX P e o.op w K) : Ends P a o w K := by
  rw [ho] at h
  simp only [opX] at h
  split at h
  · rename_i el hu
    split at h
    · rename_i i vs hi hvs
      split at h
      · rename_i hc
        obtain ⟨hlen, hbig, hz⟩ := hc
        obtain ⟨z, hz⟩ := Option.isSome_iff_exists.1 hz
        unfold buildSX at h
        obtain ⟨hq, hk⟩ := h
        have hsz : (run_size (w := w) (sizeP_info hi)) = run_size (w := w) (sizeP_info hi) := rfl
        have hzero : (P.info? el).bind (·.zero) = some z := by rw [hi]; exact hz
        obtain ⟨g1, g2⟩ := buildS_fill (s := i.size) hr (c := (Array.range (len * i.size)).map (fun j => (if len * i.size = 0 then #[] else z.cells)[j % (if len * i.size = 0 then #[] else z.cells).size]!)) hvs hq (by simp [hlen])
        rw [Nat.zero_mul, putAll_all (by rw [flatMap_len hq]; simp [hlen])] at g1
        have hmap : (parts.map fun (i, x) => (i, a.eval x)).toList = parts.toList.map fun (i, x) => (i, a.eval x) := by simp
        refine .of (s := Instr.buildSlice t len (parts.map fun (i, x) => (i, a.eval x))) (by simp only [execOp, ho]) ?_ (hk _ _ (new_alloc w _))
        have hb : ¬ len * i.size > 2 ^ 24 := by omega
        simp only [Instr.buildSlice, Sem.run_bind, run_und hu, Result.andThen_ok, run_size (sizeP_info hi), if_neg hb]
        by_cases h0 : len * i.size = 0
        · simp only [if_pos h0] at g1 ⊢
          rw [hmap]
          show Sem.run P (match Instr.fill _ _ _ with | some cells => _ | _ => _) w = _
          rw [g1]
          simp [newRow, hlen]
        · simp only [if_neg h0] at g1 ⊢
          simp only [Sem.run_bind, run_zero hzero, Sem.run_pure, Result.andThen_ok]
          rw [hmap, g1]
          simp [newRow, hlen]
      · exact h.elim
    · exact h.elim
  · exact h.elim

theorem zeros_eq (z : Array Value) (k : Nat) : (Array.range (k * z.size)).map (fun i => z[i % z.size]!) = (zeros z.toList k).toArray := by
  apply Array.toList_inj.1
  simp only [Array.toList_map, Array.toList_range]
  induction k with
  | zero => simp [zeros]
  | succ k ih =>
    have h1 : zeros z.toList (k + 1) = zeros z.toList k ++ z.toList := by
      simp only [zeros, List.replicate_succ', List.flatten_append, List.flatten_cons, List.flatten_nil, List.append_nil]
    rw [h1]
    rw [Nat.add_mul, Nat.one_mul, List.range_add, List.map_append, ih]
    congr 1
    apply List.ext_getElem?
    intro j
    by_cases hj : j < z.size
    · simp only [List.getElem?_map, List.getElem?_range hj, Option.map_some]
      have : (k * z.size + j) % z.size = j := by rw [Nat.mul_comm, Nat.mul_add_mod]; exact Nat.mod_eq_of_lt hj
      simp [this, hj]
    · rw [List.getElem?_eq_none (by simp; omega), List.getElem?_eq_none (by simp; omega)]

theorem zeroCells_eq (z : Array Value) (k : Nat) : Builtin.zeroCells z k = (zeros z.toList k).toArray := zeros_eq z k

theorem wrap_i64 {c : Int} (h0 : 0 ≤ c) (h1 : c < 2 ^ 63) : IntKind.i64.wrap c = c := by
  have : IntKind.i64.bits = 64 := rfl
  have hs : IntKind.i64.signed = true := rfl
  simp only [IntKind.wrap, this, hs]
  have hm : c % (2 ^ 64 : Int) = c := Int.emod_eq_of_lt h0 (by omega)
  rw [hm]
  simp; omega

theorem makeS_ends {t : TypeId} {x y : Operand} {o : Oper} {K : SV → World → Prop} (ho : o.op = .makeSlice t x y) (hr : Rep n a e) (h : opX P e o.op w K) : Ends P a o w K := by
  rw [ho] at h
  simp only [opX] at h
  split at h
  · rename_i el hu
    split at h
    · rename_i i hi
      split at h
      · rename_i hc
        obtain ⟨hz, hsz⟩ := hc
        obtain ⟨z, hz⟩ := Option.isSome_iff_exists.1 hz
        have hzero : (P.info? el).bind (·.zero) = some z := by rw [hi]; exact hz
        have hzo : zeroOf P el = z.cells.toList := by simp [zeroOf, hzero]
        obtain ⟨s, hs, h⟩ := w1_some h
        obtain ⟨u, hv, h⟩ := w1_some h
        unfold makeSX at h
        split at h
        · rename_i k1 l k2 c hp hq
          obtain ⟨h0, h1, h2, h3, hk⟩ := h
          rw [hzo] at hsz hk
          simp only [Array.length_toList] at hsz
          refine .of (s := Instr.makeSlice t (a.eval x) (a.eval y)) (by simp only [execOp, ho]) ?_ (hk _ _ (new_alloc w _))
          rw [ev_eval hr hs, ev_eval hr hv, hp, hq]
          have wl := wrap_i64 h0 (by omega : l < 2 ^ 63)
          have wc := wrap_i64 (by omega : 0 ≤ c) h3
          have htl : (c < 0 || (i.bytes : Int) * c > 2 ^ 48) = false := by simp; omega
          simp only [Instr.makeSlice, Sem.run_bind, run_und hu, Result.andThen_ok, asInt, asIntOf, Sem.run_pure, run_info hi, wl, wc, htl]
          have hl : (decide (l < 0) = false) ∧ (decide (l > c) = false) := by simp; omega
          simp only [hl.1, hl.2, Bool.or_self, Bool.false_eq_true, if_false]
          simp only [Sem.run_bind, run_askRoom, Result.andThen_ok, run_size (sizeP_info hi)]
          by_cases hcz : c.toNat * i.size = 0
          · rw [hcz]
            have hzz : zeros z.cells.toList c.toNat = [] := by
              rcases Nat.mul_eq_zero.1 hcz with h | h
              · simp [zeros, h]
              · have : z.cells = #[] := by rw [h] at hsz; exact Array.eq_empty_of_size_eq_zero hsz.symm
                simp [zeros, this]
            have hr0 : Array.range 0 = #[] := by apply Array.eq_empty_of_size_eq_zero; simp
            simp [newRow, hzz, hr0]
          · have := zeros_eq z.cells c.toNat
            rw [← hsz] at this
            simp only [if_neg hcz, Sem.run_bind, run_zero hzero, Result.andThen_ok, Sem.run_pure, newRow, run_newObj]
            rw [← hsz, this]
            simp
        · exact h.elim
      · exact h.elim
    · exact h.elim
  · exact h.elim

end
end Go.Proofs.YtgnmelnohclpgaaDoor
