/- Own framework, part H: the machine does what the meaning says: conversions, literals, slices. -/
import Derived.Test.YtgnmelnohclpgaaDoorSxG
set_option linter.unusedVariables false
set_option linter.unusedSimpArgs false
namespace Go.Proofs.YtgnmelnohclpgaaDoor
open Go

section
variable {P : Program} {w : World} {a : Act} {e : Env} {n : Nat}

theorem iface_ends {t : TypeId} {x : Operand} {o : Oper} {K : SV → World → Prop} (ho : o.op = .makeInterface t x) (hr : Rep n a e) (h : opX P e o.op w K) : Ends P a o w K := by
  rw [ho] at h
  simp only [opX] at h
  split at h
  · exact h.elim
  · rename_i d hd hu
    obtain ⟨s, hs, h⟩ := w1_some h
    refine .of (s := Instr.makeInterface t (a.eval x)) (by simp only [execOp, ho]) ?_ h
    rw [ev_eval hr hs]
    simp only [Instr.makeInterface, Sem.run_bind, run_und hu, Result.andThen_ok]
    cases d <;> first | rfl | exact absurd rfl (hd _)
  · exact h.elim

theorem evs_map {l : Array Operand} {vs : List Value} (hr : Rep n a e) (h : evs e l.toList = some vs) : l.map a.eval = vs.toArray := by
  have := evs_eval hr h
  apply Array.toList_inj.1
  simp [this]

theorem func_ends {f : Fn} {x y : Array Operand} {o : Oper} {K : SV → World → Prop} (ho : o.op = .makeFunc f x y) (hr : Rep n a e) (h : opX P e o.op w K) : Ends P a o w K := by
  rw [ho] at h
  simp only [opX] at h
  obtain ⟨p, hp, h⟩ := wl_some h
  obtain ⟨q, hq, h⟩ := wl_some h
  refine .of (s := Instr.makeFunc f (x.map a.eval) (y.map a.eval)) (by simp only [execOp, ho]) ?_ h
  rw [evs_map hr hp, evs_map hr hq]
  rfl

theorem assert_ends {t u : TypeId} {x : Operand} {b : Bool} {o : Oper} {K : SV → World → Prop} (ho : o.op = .typeAssert x u t b) (hr : Rep n a e) (h : opX P e o.op w K) : Ends P a o w K := by
  rw [ho] at h
  cases b
  · simp only [opX] at h
  simp only [opX] at h
  split at h
  · exact h.elim
  · rename_i d ms hd hu hux
    split at h
    · rename_i hz
      obtain ⟨z, hz, _, hz2⟩ := zero_of hz
      rw [hz2] at h
      obtain ⟨s, hs, h⟩ := w1_some h
      have hx : execOp a.eval o = (do pure (.value (← Instr.typeAssert (a.eval x) u t true))) := by simp only [execOp, ho]
      unfold assertX at h
      split at h
      · rename_i hp
        refine .of hx ?_ h
        rw [ev_eval hr hs, hp]
        simp only [Instr.typeAssert, Sem.run_bind, run_und hu, Result.andThen_ok]
        cases d <;> first | exact absurd rfl (hd _) | simp [run_zero hz]
      · rename_i y v hp
        refine .of hx ?_ h
        rw [ev_eval hr hs, hp]
        simp only [Instr.typeAssert, Sem.run_bind, run_und hu, Result.andThen_ok]
        by_cases hyt : y = t
        · subst hyt
          cases d <;> first | exact absurd rfl (hd _) | simp
        · cases d <;> first | exact absurd rfl (hd _) | simp [run_zero hz, hyt]
      · exact h.elim
    · exact h.elim
  · exact h.elim

/-- bytes that are read, as the model's own loop makes a string of them -/
theorem run_bytesLoop (l : List UInt8) (acc : ByteArray) : (forIn (m := Sem) (l.map fun c => Value.int .u8 c.toNat) acc (fun c s => do
      let .int .u8 n := c | stuck "bytesToString: byte expected"
      pure (ForInStep.yield (s.push (UInt8.ofNat n.toNat))))).run P w = .ok ⟨acc.data ++ l.toArray⟩ w := by
  induction l generalizing acc with
  | nil => simp
  | cons c l ih =>
    simp only [List.map_cons, List.forIn_cons, Sem.run_bind, Sem.run_pure, Result.andThen_ok]
    rw [ih]
    congr 1
    simp [ByteArray.push]

theorem foldl_bytes (l : List UInt8) : ∀ (acc : ByteArray), List.foldl (fun b a => b.push a) acc l = ⟨acc.data ++ l.toArray⟩ := by
  induction l with
  | nil => intro acc; simp
  | cons c l ih => intro acc; rw [List.foldl_cons, ih]; simp [ByteArray.push]

theorem conv_ends {t u : TypeId} {x : Operand} {o : Oper} {K : SV → World → Prop} (ho : o.op = .convert t u x) (hr : Rep n a e) (h : opX P e o.op w K) : Ends P a o w K := by
  rw [ho] at h
  simp only [opX] at h
  have hx : execOp a.eval o = (do pure (.value (← convert t u (a.eval x)))) := by simp only [execOp, ho]
  split at h
  · rename_i k1 k ht hu
    obtain ⟨s, hs, h⟩ := w1_some h
    unfold convIX at h
    split at h
    · rename_i k2 m hp
      refine .of hx ?_ h
      rw [ev_eval hr hs, hp]
      simp [convert, run_und ht, run_und hu, Conv.intToInt]
    · exact h.elim
  · rename_i el ht hu
    split at h
    · rename_i hel
      obtain ⟨s, hs, h⟩ := w1_some h
      unfold bytesX at h
      split at h
      · rename_i b hp
        have hq : (Question.appendCap b.size 0 el).forced = false := rfl
        have hcap : b.size ≤ (Question.appendCap b.size 0 el).cut (w.tape w.drawn (.appendCap b.size 0 el)) := by simp [Question.cut]
        generalize hc : (Question.appendCap b.size 0 el).cut (w.tape w.drawn (.appendCap b.size 0 el)) = cap at hcap
        have hsz : (b.data.map (fun c => Value.int .u8 c.toNat) ++ Array.replicate (cap - b.size) (Value.int .u8 0)).size = cap := by
          have : b.data.size = b.size := rfl
          simp; omega
        have hcells : b.data.map (fun c => Value.int .u8 c.toNat) ++ Array.replicate (cap - b.size) (Value.int .u8 0) = (bytesCells b.data.toList ++ List.replicate (cap - b.size) (Value.int .u8 0)).toArray := by
          apply Array.toList_inj.1
          simp [bytesCells]
        have hrun : (Conv.stringToBytes el b).run P w = .ok (.slice (some ⟨w.heap.size, 0, none⟩) b.size cap)
            ((w.drew.alloc (.cells (b.data.map (fun c => Value.int .u8 c.toNat) ++ Array.replicate (cap - b.size) (Value.int .u8 0)) el)).freeze ⟨w.heap.size, cap, none⟩ 1) := by
          have hd : ({ w with drawn := w.drawn + 1 } : World) = w.drew := rfl
          simp only [Conv.stringToBytes, Sem.run_bind, run_choose, hq, Bool.false_eq_true, if_false, Result.andThen_ok, hc, hd, newRow, markStringish]
          simp only [run_newObj, Result.andThen_ok, Sem.run_pure, run_shape]
          have hsh : (World.shape? ({ w.drew with heap := w.drew.heap.push (.cells (b.data.map (fun c => Value.int .u8 c.toNat) ++ Array.replicate (cap - b.size) (Value.int .u8 0)) el) } : World) w.heap.size) = some (el, cap) := by
            have h1 : w.drew.heap = w.heap := rfl
            simp only [World.shape?, h1, Array.getElem?_push_size, hsz]
          have h1 : w.drew.heap.size = w.heap.size := rfl
          simp only [h1, hsh]
          simp [World.alloc]
        refine .of hx (by rw [ev_eval hr hs, hp]; simp only [convert, Sem.run_bind, run_und ht, run_und hu, Result.andThen_ok, run_und hel]; exact hrun) (h _ _ _ hcap ?_)
        refine ⟨rfl, ?_, ?_, fun r hrr => ?_, ⟨rfl, rfl, rfl⟩⟩
        · simp [World.freeze, World.alloc]
        · simp only [World.freeze, World.alloc, Nat.one_ne_zero, if_false]
          simp only [Array.getElem?_modify, if_true]
          have h1 : w.drew.heap = w.heap := rfl
          rw [h1, Array.getElem?_push_size]
          simp [hcells]
        · have h1 : w.drew.heap = w.heap := rfl
          simp only [World.freeze, World.alloc, Nat.one_ne_zero, if_false, Array.getElem?_modify]
          rw [if_neg (by omega), h1, Array.getElem?_push, if_neg (by omega)]
      · exact h.elim
    · exact h.elim
  · rename_i el ht hu
    split at h
    · rename_i hel
      obtain ⟨s, hs, h⟩ := w1_some h
      unfold strX at h
      split at h
      · rename_i l c hp
        refine .of hx ?_ h
        rw [ev_eval hr hs, hp]
        simp [convert, run_und ht, run_und hu, run_und hel, Conv.bytesToString]
      · rename_i p len c hp
        obtain ⟨l, hl, hcell, hk⟩ := h
        refine .of hx ?_ hk
        rw [ev_eval hr hs, hp]
        have h2 := run_loadCells_of (P := P) (w := w) (p := p) (l := l.map fun c => Value.int .u8 c.toNat) (n := len) (by simpa using hl) (fun i v hv => by
          rw [List.getElem?_map] at hv
          obtain ⟨c, hc, rfl⟩ := Option.map_eq_some_iff.1 hv
          exact hcell i c hc)
        have h3 := run_bytesLoop (P := P) (w := w) l .empty
        simp only [convert, Sem.run_bind, run_und ht, run_und hu, run_und hel, Result.andThen_ok, Conv.bytesToString, h2]
        simp only [List.forIn_toArray, h3, Result.andThen_ok, Sem.run_pure]
        simp [foldl_bytes]
      · exact h.elim
    · exact h.elim
  · rename_i e1 el ht hu
    cases htu : Nat.beq t u with
    | false => rw [htu] at h; exact h.elim
    | true =>
      rw [htu] at h
      simp only [cond_true] at h
      have hb : (t == u) = true := by rw [Nat.eq_of_beq_eq_true htu]; simp
      split at h
      · rename_i hel
        obtain ⟨s, hs, h⟩ := w1_some h
        unfold markX at h
        split at h
        · rename_i b off len cap hp
          obtain ⟨c, t', hbk, hk⟩ := h
          have hw : w.freeze ⟨b, c.size, none⟩ 1 = (w.freeze ⟨b, c.size, none⟩ 1) := rfl
          have hsh : w.shape? b = some (t', c.size) := by simp [World.shape?, hbk]
          have hrun : (convert t u (.slice (some ⟨b, off, none⟩) len cap)).run P w = .ok (.slice (some ⟨b, off, none⟩) len cap) (w.freeze ⟨b, c.size, none⟩ 1) := by
            simp only [convert, Sem.run_bind, run_und ht, run_und hu, Result.andThen_ok, run_und hel, hb, markStringish, run_shape, hsh, run_freeze, Sem.run_pure]
          refine .of hx (by rw [ev_eval hr hs, hp]; exact hrun) (hk _ ?_)
          have hlt := (Array.getElem?_eq_some_iff.1 hbk).1
          refine ⟨?_, ?_, fun r hrr => ?_, ⟨rfl, rfl, rfl⟩⟩
          · simp [World.freeze]
          · simp only [World.freeze, Nat.one_ne_zero, if_false]
            rw [Array.getElem?_modify]
            simp [hbk]
          · simp only [World.freeze, Nat.one_ne_zero, if_false]
            rw [Array.getElem?_modify, if_neg (fun e => hrr e.symm)]
        · exact h.elim
      · exact h.elim
  · exact h.elim

end
end Go.Proofs.YtgnmelnohclpgaaDoor
