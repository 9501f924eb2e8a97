/- Own framework, part D: the machine does what the meaning says: the operations that hand back a value. -/
import Derived.Test.YtgnmelnohclpgaaDoorSxC
set_option linter.unusedVariables false
set_option linter.unusedSimpArgs false
namespace Go.Proofs.YtgnmelnohclpgaaDoor
open Go

section
variable {P : Program} {w : World} {a : Act} {e : Env} {n : Nat}

/-- what an operation that is no call ends in -/
def Ends (P : Program) (a : Act) (o : Oper) (w : World) (K : SV → World → Prop) : Prop :=
  ∃ s w', K s w' ∧ ((execOp a.eval o).run P w = .ok (.value s.val) w' ∨ (s = .v undef ∧ (execOp a.eval o).run P w = .ok .skip w'))

theorem Ends.val {o : Oper} {K : SV → World → Prop} {v : Value} {w' : World} (hk : K (.v v) w') (h : (execOp a.eval o).run P w = .ok (.value v) w') : Ends P a o w K :=
  ⟨.v v, w', hk, .inl h⟩
theorem Ends.skip {o : Oper} {K : SV → World → Prop} {w' : World} (hk : K (.v undef) w') (h : (execOp a.eval o).run P w = .ok .skip w') : Ends P a o w K :=
  ⟨.v undef, w', hk, .inr ⟨rfl, h⟩⟩

/-- a value's operation, by the run of its part -/
theorem Ends.of {o : Oper} {K : SV → World → Prop} {v : Value} {w' : World} {s : Sem Value} (ho : execOp a.eval o = (do pure (.value (← s)))) (hs : s.run P w = .ok v w') (hk : K (.v v) w') : Ends P a o w K :=
  .val hk (by rw [ho]; simp [hs])

theorem sizeP_info {t : TypeId} {i : TypeInfo} (h : P.info? t = some i) : sizeP P t = some i.size := by simp [sizeP, h]

theorem zero_of {t : TypeId} (h : ((P.info? t).bind (·.zero)).isSome = true) : ∃ z, (P.info? t).bind (·.zero) = some z ∧ zeroOf P t = z.cells.toList ∧ zeroV P t = z := by
  obtain ⟨z, hz⟩ := Option.isSome_iff_exists.1 h
  exact ⟨z, hz, by simp [zeroOf, hz], by simp [zeroV, hz]⟩

theorem load_ends {t : TypeId} {x : Operand} {o : Oper} {K : SV → World → Prop} (ho : o.op = .load t x) (hr : Rep n a e) (h : opX P e o.op w K) : Ends P a o w K := by
  rw [ho] at h
  simp only [opX] at h
  have hx : execOp a.eval o = (do pure (.value (← Instr.loadAt t (a.eval x)))) := by simp only [execOp, ho]
  split at h
  · rename_i ht
    obtain ⟨s, hs, h⟩ := w1_some h
    have he := ev_eval hr hs
    unfold load1X at h
    split at h
    · rename_i p hp
      obtain ⟨v, hc, hk⟩ := h
      refine .of hx ?_ hk
      rw [he, hp]
      have h1 := (aggN_one (w := w) ht).1
      simp [Instr.loadAt, Instr.sureAddr, loadVar, h1, hc]
    · exact h.elim
  · rename_i m ht
    obtain ⟨s, hs, h⟩ := w1_some h
    have he := ev_eval hr hs
    unfold loadNX at h
    split at h
    · rename_i p hp
      obtain ⟨l, hl, hc, hk⟩ := h
      refine .of hx ?_ hk
      rw [he, hp]
      have h1 := aggN_some (w := w) ht
      have h2 := run_loadCells_of (P := P) hl hc
      simp [Instr.loadAt, Instr.sureAddr, loadVar, h1.1, run_size h1.2, h2]
    · exact h.elim
  · exact h.elim

theorem store_ends {t : TypeId} {x y : Operand} {o : Oper} {K : SV → World → Prop} (ho : o.op = .store t x y) (hr : Rep n a e) (h : opX P e o.op w K) : Ends P a o w K := by
  rw [ho] at h
  simp only [opX] at h
  have hx : execOp a.eval o = (do Instr.storeAt t (a.eval x) (a.eval y); pure .skip) := by simp only [execOp, ho]
  split at h
  · rename_i ht
    obtain ⟨s, hs, h⟩ := w1_some h
    obtain ⟨u, hu, h⟩ := w1_some h
    have he := ev_eval hr hs
    have hv := ev_eval hr hu
    unfold store1X at h
    split at h
    · rename_i b off hp
      obtain ⟨h1, c, t', fz, hb, hlt, hf, hk⟩ := h
      have hsz := (aggN_one (w := w) ht).2
      have hcell : w.cell? ⟨b, off, none⟩ = some c[off] := by rw [cell_of hb]; exact Array.getElem?_eq_getElem hlt
      have hfr : w.frozen? ⟨b, off, none⟩ = false := frozen_of hb (by have := hf 0 (by omega); simpa using this)
      refine .skip (hk _ (sto_setCell u.val hb)) ?_
      rw [hx, he, hp, hv]
      have hcs : u.val.cells = #[u.val] := by
        cases hq : u.val with
        | agg cs => rw [hq] at h1; simp [Value.oneCell'] at h1
        | _ => rfl
      have hrun := run_store P w ⟨b, off, none⟩ u.val .plain h1
      rw [hcell, hfr] at hrun
      simp only [Bool.false_eq_true, if_false] at hrun
      simp [Instr.storeAt, Instr.sureAddr, storeVar, run_size hsz, hcs, storeCells, add_none, hrun]
    · exact h.elim
  · rename_i m ht
    obtain ⟨s, hs, h⟩ := w1_some h
    obtain ⟨u, hu, h⟩ := w1_some h
    have he := ev_eval hr hs
    have hv := ev_eval hr hu
    unfold storeNX at h
    split at h
    · rename_i b off cs hp hq
      obtain ⟨hm, h1, c, t', fz, hb, hlt, hf, hk⟩ := h
      have hsz := (aggN_some (w := w) ht).2
      obtain ⟨w', hrun, hsto⟩ := run_storeCells_blk (P := P) (b := b) (off := off) cs.toList 0 c w hb (by omega) (by rw [hm]; simpa using hf) h1
      refine .skip (hk w' (by simpa using hsto)) ?_
      rw [hx, he, hp, hv, hq]
      have hsz' : cs.size = m := by rw [← hm]; simp
      simp [Instr.storeAt, Instr.sureAddr, storeVar, run_size hsz, Value.cells, hsz', hrun]
    · exact h.elim
  · exact h.elim

theorem alloc_ends {t : TypeId} {o : Oper} {K : SV → World → Prop} (ho : o.op = .alloc t) (hr : Rep n a e) (h : opX P e o.op w K) : Ends P a o w K := by
  rw [ho] at h
  simp only [opX] at h
  have hx : execOp a.eval o = (do pure (.value (← Instr.alloc t true (.tuple #[])))) := by simp only [execOp, ho]
  split at h
  · rename_i hz
    obtain ⟨z, hz, hl, _⟩ := zero_of hz
    refine .of hx ?_ (h w.heap.size (w.alloc (.cells z.cells t)) (by have := new_alloc w (.cells z.cells t); simpa [hl] using this))
    simp [Instr.alloc, run_zero hz, newVar, newRow]
  · exact h.elim

theorem box_ends {t : TypeId} {x : Operand} {o : Oper} {K : SV → World → Prop} (ho : o.op = .box t x) (hr : Rep n a e) (h : opX P e o.op w K) : Ends P a o w K := by
  rw [ho] at h
  simp only [opX] at h
  obtain ⟨s, hs, h⟩ := w1_some h
  have he := ev_eval hr hs
  refine .of (s := Instr.box t (a.eval x)) (by simp only [execOp, ho]) ?_ (h _ _ (new_alloc w _))
  rw [he]
  simp [Instr.box, newVar, newRow]

theorem fieldAddr_ends {t : TypeId} {x : Operand} {f : Nat} {o : Oper} {K : SV → World → Prop} (ho : o.op = .fieldAddr t x f) (hr : Rep n a e) (h : opX P e o.op w K) : Ends P a o w K := by
  rw [ho] at h
  simp only [opX] at h
  split at h
  · rename_i off hf
    obtain ⟨s, hs, h⟩ := w1_some h
    have he := ev_eval hr hs
    unfold fieldAddrX at h
    split at h
    · rename_i p hp
      refine .of (s := Instr.fieldAt t (a.eval x) f) (by simp only [execOp, ho]) ?_ h
      rw [he, hp]
      unfold fieldOff at hf
      split at hf
      · rename_i fields hu
        split at hf
        · rename_i fd hfd
          split at hf
          · rename_i i hi
            split at hf
            · cases hf
            · rename_i hne
              cases hf
              simp [Instr.fieldAt, run_und hu, hfd, Instr.sureAddr, fieldPlace, run_size (sizeP_info hi), hne]
          · cases hf
        · cases hf
      · cases hf
    · exact h.elim
  · exact h.elim

theorem run_part {t : TypeId} {cs : Array Value} {off : Nat} {v : Value} (ha : aggN P t = some none) (hv : cs[off]? = some v) : (part t cs off).run P w = .ok v w := by
  simp [part, (aggN_one (w := w) ha).1, hv]
theorem run_partN {t : TypeId} {cs : Array Value} {off m : Nat} (ha : aggN P t = some (some m)) : (part t cs off).run P w = .ok (.agg (cs.extract off (off + m))) w := by
  simp [part, (aggN_some (w := w) ha).1, run_size (aggN_some (w := w) ha).2]

theorem field_ends {t : TypeId} {x : Operand} {f : Nat} {o : Oper} {K : SV → World → Prop} (ho : o.op = .field t x f) (hr : Rep n a e) (h : opX P e o.op w K) : Ends P a o w K := by
  rw [ho] at h
  simp only [opX] at h
  have key : ∀ {off : Nat} {m : Option Nat}, fieldAt' P t f = some (off, m) → ∃ fields fd, P.underlying t = some (.struct fields) ∧ fields[f]? = some fd ∧ aggN P fd.type = some m ∧ fd.offset = off := by
    intro off m hf
    unfold fieldAt' at hf
    split at hf
    · rename_i fields hu
      split at hf
      · rename_i fd hfd
        obtain ⟨m', hm, hp⟩ := Option.map_eq_some_iff.1 hf
        cases hp
        exact ⟨fields, fd, hu, hfd, hm, rfl⟩
      · cases hf
    · cases hf
  split at h
  · rename_i off hf
    obtain ⟨s, hs, h⟩ := w1_some h
    have he := ev_eval hr hs
    obtain ⟨fields, fd, hu, hfd, hm, rfl⟩ := key hf
    unfold fieldX at h
    split at h
    · rename_i cs hp
      obtain ⟨v, hv, hk⟩ := h
      refine .of (s := Instr.field t (a.eval x) f) (by simp only [execOp, ho]) ?_ hk
      rw [he, hp]
      simp [Instr.field, run_und hu, hfd, asAgg, run_part hm hv]
    · exact h.elim
  · rename_i off m hf
    obtain ⟨s, hs, h⟩ := w1_some h
    have he := ev_eval hr hs
    obtain ⟨fields, fd, hu, hfd, hm, rfl⟩ := key hf
    unfold fieldNX at h
    split at h
    · rename_i cs hp
      refine .of (s := Instr.field t (a.eval x) f) (by simp only [execOp, ho]) ?_ h
      rw [he, hp]
      simp [Instr.field, run_und hu, hfd, asAgg, run_partN hm]
    · exact h.elim
  · exact h.elim

theorem indexAddr_ends {t : TypeId} {x y : Operand} {o : Oper} {K : SV → World → Prop} (ho : o.op = .indexAddr t x y) (hr : Rep n a e) (h : opX P e o.op w K) : Ends P a o w K := by
  rw [ho] at h
  simp only [opX] at h
  split at h
  · rename_i el hu
    split at h
    · rename_i s hsz
      obtain ⟨s, hs, h⟩ := w1_some h
      obtain ⟨u, hv, h⟩ := w1_some h
      unfold indexSX at h
      split at h
      · rename_i p len cap k m hp hq
        obtain ⟨h0, h1, hk⟩ := h
        refine .of (s := Instr.indexAt t (a.eval x) (a.eval y)) (by simp only [execOp, ho]) ?_ hk
        rw [ev_eval hr hs, ev_eval hr hv, hp, hq]
        simp [Instr.indexAt, run_und hu, asIntOf, h0, h1, run_size hsz]
      · exact h.elim
    · exact h.elim
  · rename_i len el hu
    split at h
    · rename_i s hsz
      obtain ⟨s, hs, h⟩ := w1_some h
      obtain ⟨u, hv, h⟩ := w1_some h
      unfold indexAX at h
      split at h
      · rename_i p k m hp hq
        obtain ⟨h0, h1, hk⟩ := h
        refine .of (s := Instr.indexAt t (a.eval x) (a.eval y)) (by simp only [execOp, ho]) ?_ hk
        rw [ev_eval hr hs, ev_eval hr hv, hp, hq]
        simp [Instr.indexAt, run_und hu, asIntOf, Instr.sureAddr, h0, h1, run_size hsz]
      · exact h.elim
    · exact h.elim
  · exact h.elim

theorem index_ends {t : TypeId} {x y : Operand} {o : Oper} {K : SV → World → Prop} (ho : o.op = .index t x y) (hr : Rep n a e) (h : opX P e o.op w K) : Ends P a o w K := by
  rw [ho] at h
  simp only [opX] at h
  split at h
  · rename_i hu
    obtain ⟨s, hs, h⟩ := w1_some h
    obtain ⟨u, hv, h⟩ := w1_some h
    unfold indexStrX at h
    split at h
    · rename_i b k m hp hq
      obtain ⟨h0, c, hc, hk⟩ := h
      refine .of (s := Instr.index t (a.eval x) (a.eval y)) (by simp only [execOp, ho]) ?_ hk
      rw [ev_eval hr hs, ev_eval hr hv, hp, hq]
      simp [Instr.index, run_und hu, asIntOf, h0, hc]
    · exact h.elim
  · rename_i len el hu
    split at h
    · rename_i ha
      obtain ⟨s, hs, h⟩ := w1_some h
      obtain ⟨u, hv, h⟩ := w1_some h
      unfold indexVX at h
      split at h
      · rename_i cs k m hp hq
        obtain ⟨h0, h1, v, hv', hk⟩ := h
        refine .of (s := Instr.index t (a.eval x) (a.eval y)) (by simp only [execOp, ho]) ?_ hk
        rw [ev_eval hr hs, ev_eval hr hv, hp, hq]
        have hsz := (aggN_one (w := w) ha).2
        simp [Instr.index, run_und hu, asIntOf, h0, h1, run_size hsz, run_part ha (off := m.toNat * 1) (by simpa using hv')]
        simpa using run_part (w := w) ha (off := m.toNat) hv'
      · exact h.elim
    · exact h.elim
  · exact h.elim

end
end Go.Proofs.YtgnmelnohclpgaaDoor
