/- Own framework, part K: the machine does what the meaning says: built-ins, calls; all operations together. -/
import Derived.Test.YtgnmelnohclpgaaDoorSxJ
set_option linter.unusedVariables false
set_option linter.unusedSimpArgs false
namespace Go.Proofs.YtgnmelnohclpgaaDoor
open Go

section
variable {P : Program} {w : World} {a : Act} {e : Env} {n : Nat}

theorem growBy_le (m : Nat) : ∀ (r c : Nat), Builtin.growBy m r c ≤ max c (m + (m + 768) / 4)
  | 0, c => by simp [Builtin.growBy]; omega
  | r + 1, c => by
    simp only [Builtin.growBy]
    split
    · omega
    · have := growBy_le m r (c + (c + 768) / 4)
      omega
theorem nextcap_le (need cap : Nat) : Builtin.nextslicecap need cap ≤ 3 * cap + need + 1000 := by
  unfold Builtin.nextslicecap
  split
  · omega
  · split
    · omega
    · have := growBy_le need 4 cap
      omega

theorem run_firstCells {s : Nat} {x : Value} {k : Nat} {l : List Value} (h : readsX s x w k l) : (Builtin.firstCells s k x).run P w = .ok l.toArray w := by
  unfold readsX at h
  split at h
  · subst h; simp [Builtin.firstCells]
  · rename_i p len cap
    simp [Builtin.firstCells, run_loadCells_of (P := P) h.1 h.2]
  · rename_i b
    subst h
    simp only [Builtin.firstCells, Sem.run_pure]
    congr 1
    apply Array.toList_inj.1
    have hx : (b.extract 0 k).data.toList = b.data.toList.take k := by rw [ByteArray.data_extract]; simp
    simp only [bytesCells, Array.toList_map, hx]
  · exact h.elim

theorem run_lenOf {x : Value} {k : Nat} (h : lenV x = some k) : (Builtin.lenOf x).run P w = .ok k w := by
  unfold lenV at h
  split at h
  · cases h; simp [Builtin.lenOf]
  · cases h; simp [Builtin.lenOf]
  · cases h

theorem appendCap_ge (need old : Nat) (el : TypeId) (t : Nat) : need ≤ (Question.appendCap need old el).cut t := by simp [Question.cut]

theorem run_append_head {ts : Array TypeId} {ty t1 t2 el : TypeId} {u : TypeDesc} {i : TypeInfo} {y : Value} {base : Option Addr} {len cap k : Nat} (h1 : ts[0]? = some t1) (h2 : ts[1]? = some t2) (hu1 : P.underlying t1 = some (.slice el)) (hu2 : P.underlying t2 = some u)
    (hnu : isIntD u = false) (hi : P.info? el = some i) (hk : lenV y = some k) :
    (Builtin.append_ ts ty #[.slice base len cap, y]).run P w = (do
      if len + k ≤ cap then
        let new ← Builtin.firstCells i.size k y
        if let some a := base then storeCells (a.add (len * i.size)) new.toList
        pure (.slice base (len + k) cap)
      else
        if ((len + k : Nat) : Int) > IntKind.i64.max ∧ (false = true ∨ (← typeInfo el).bytes = 0) then runtimePanic (.error "growslice: len out of range")
        if Builtin.nextslicecap (len + k) cap * (← typeInfo el).bytes > 2 ^ 48 then (do
          if !(← Builtin.mayShare i.size len k base y) then mark .noRoom
          unsupported (.resourceLimit "append: a slice or a string whose bytes no memory bears"))
        let newCap ← choose (.appendCap (len + k) cap el)
        askRoom (newCap * (← typeInfo el).bytes)
        let old ← Builtin.firstCells i.size len (.slice base len cap)
        let new ← Builtin.firstCells i.size k y
        let rest := Builtin.zeroCells (← zeroValue el).cells (newCap - (len + k))
        pure (.slice (some (← newRow el (old ++ new ++ rest))) (len + k) newCap) : Sem Value).run P w := by
  unfold Builtin.append_
  rw [h1, h2]
  have e0 : (#[Value.slice base len cap, y])[0]? = some (Value.slice base len cap) := rfl
  have e1 : (#[Value.slice base len cap, y])[1]? = some y := rfl
  rw [e0, e1]
  dsimp only
  rw [Sem.run_bind, run_und hu1]
  dsimp only [Result.andThen]
  rw [Sem.run_bind, run_size (sizeP_info hi)]
  dsimp only [Result.andThen]
  rw [Sem.run_bind, run_und hu2]
  dsimp only [Result.andThen]
  cases u with
  | int q => simp [isIntD] at hnu
  | _ =>
    rw [Sem.run_bind, Sem.run_pure]
    dsimp only [Result.andThen]
    rw [if_neg (by decide), Sem.run_bind, run_lenOf hk]
    rfl

theorem run_append {ts : Array TypeId} {ty t1 t2 el : TypeId} {u : TypeDesc} {i : TypeInfo} {x y : Value} {K : Cont} (h1 : ts[0]? = some t1) (h2 : ts[1]? = some t2) (hu1 : P.underlying t1 = some (.slice el)) (hu2 : P.underlying t2 = some u)
    (hnu : isIntD u = false) (hi : P.info? el = some i) (hz : i.zero.isSome = true) (hbz : i.bytes ≠ 0)
    (h : appendX el i.size i.bytes (zeroOf P el) x y w K) : ∃ v w', (Builtin.append_ ts ty #[x, y]).run P w = .ok v w' ∧ K v w' := by
  unfold appendX at h
  split at h
  · rename_i base len cap
    obtain ⟨k, l, m, hk, hl, hm, hone, hfit, hgrow⟩ := h
    obtain ⟨z, hz⟩ := Option.isSome_iff_exists.1 hz
    have hzero : (P.info? el).bind (·.zero) = some z := by rw [hi]; exact hz
    have hzo : zeroOf P el = z.cells.toList := by simp [zeroOf, hzero]
    have hhead := run_append_head (ty := ty) (w := w) (base := base) (len := len) (cap := cap) h1 h2 hu1 hu2 hnu hi hk
    by_cases hle : len + k ≤ cap
    · have hfit := hfit hle
      refine ⟨.slice base (len + k) cap, ?_⟩
      cases base with
      | none =>
        refine ⟨w, ?_, hfit⟩
        rw [hhead]
        simp [hle, run_firstCells hm]
      | some p =>
        obtain ⟨b, off, spot⟩ := p
        cases spot with
        | some q => exact hfit.elim
        | none =>
          obtain ⟨c, t, fz, hb, hsz, hf, hk'⟩ := hfit
          obtain ⟨w', hrun, hsto⟩ := run_storeCells_blk (P := P) (b := b) (off := off + len * i.size) (t := t) (fz := fz) m 0 c w hb (by omega) (by simpa using hf) hone
          refine ⟨w', ?_, hk' w' (by simpa using hsto)⟩
          rw [hhead]
          simp [hle, run_firstCells hm, add_none, hrun]
    · obtain ⟨hbig, hgrow⟩ := hgrow (by omega)
      have hcut := appendCap_ge (len + k) cap el (w.tape w.drawn (.appendCap (len + k) cap el))
      generalize hnc : (Question.appendCap (len + k) cap el).cut (w.tape w.drawn (.appendCap (len + k) cap el)) = nc at hcut
      have hl' : readsX i.size (.slice base len cap) w.drew len l := hl
      have hm' : readsX i.size y w.drew k m := by
        cases y <;> first | exact hm | (rename_i a' _ _; cases a' <;> exact hm)
      have hn1 : ¬ (((len + k : Nat) : Int) > IntKind.i64.max ∧ (false = true ∨ i.bytes = 0)) := by simp [hbz]
      have hn2 : ¬ (Builtin.nextslicecap (len + k) cap * i.bytes > 2 ^ 48) := by
        have := Nat.mul_le_mul_right i.bytes (nextcap_le (len + k) cap)
        have h2 : (3 * cap + (len + k) + 1000) * i.bytes ≤ 2 ^ 48 := by
          have : 3 * cap + (len + k) + 1000 = 3 * cap + len + k + 1000 := by omega
          rw [this]; exact hbig
        omega
      have hq : (Question.appendCap (len + k) cap el).forced = false := rfl
      refine ⟨_, _, ?_, hgrow w.heap.size (w.drew.alloc (.cells (l ++ m ++ zeros z.cells.toList (nc - (len + k))).toArray el)) nc hcut (by rw [hzo]; exact ⟨rfl, (new_alloc w.drew _).size, (new_alloc w.drew _).obj, (new_alloc w.drew _).old, ⟨rfl, rfl, rfl⟩⟩)⟩
      rw [hhead]
      have hd : ({ w with drawn := w.drawn + 1 } : World) = w.drew := rfl
      rw [if_neg hle]
      dsimp only
      rw [Sem.run_bind, run_info hi]
      dsimp only [Result.andThen]
      rw [if_neg hn1, Sem.run_bind, run_info hi]
      dsimp only [Result.andThen]
      rw [if_neg hn2, Sem.run_bind, run_choose, hq]
      simp only [Bool.false_eq_true, if_false]
      rw [hnc, hd]
      dsimp only [Result.andThen]
      rw [Sem.run_bind, run_info hi]
      dsimp only [Result.andThen]
      rw [Sem.run_bind, run_askRoom]
      dsimp only [Result.andThen]
      rw [Sem.run_bind, run_firstCells hl']
      dsimp only [Result.andThen]
      rw [Sem.run_bind, run_firstCells hm']
      dsimp only [Result.andThen]
      rw [Sem.run_bind, run_zero hzero]
      dsimp only [Result.andThen]
      rw [zeroCells_eq]
      simp [newRow]
      rfl
  · exact h.elim

theorem run_copy {ts : Array TypeId} {ty t1 el : TypeId} {i : TypeInfo} {x y : Value} {K : Cont} (h1 : ts[0]? = some t1) (hu1 : P.underlying t1 = some (.slice el)) (hi : P.info? el = some i)
    (h : copyX i.size x y w K) : ∃ v w', (Builtin.copy_ ts ty #[x, y]).run P w = .ok v w' ∧ K v w' := by
  unfold copyX at h
  split at h
  · rename_i base len cap
    obtain ⟨k, m, hk, hm, hone, h⟩ := h
    have hm2 : (Builtin.firstCells i.size (Nat.min k len) y).run P w = .ok m.toArray w := run_firstCells hm
    have hhead : (Builtin.copy_ ts ty #[.slice base len cap, y]).run P w = (do
        if let some a := base then storeCells a m
        pure (goInt (Nat.min k len)) : Sem Value).run P w := by
      unfold Builtin.copy_
      rw [h1]
      have e0 : (#[Value.slice base len cap, y])[0]? = some (Value.slice base len cap) := rfl
      have e1 : (#[Value.slice base len cap, y])[1]? = some y := rfl
      rw [e0, e1]
      dsimp only
      rw [Sem.run_bind, run_und hu1]
      dsimp only [Result.andThen]
      rw [Sem.run_bind, run_lenOf hk]
      dsimp only [Result.andThen]
      rw [Sem.run_bind, run_size (sizeP_info hi)]
      dsimp only [Result.andThen]
      rw [Sem.run_bind, hm2]
      rfl
    refine ⟨.int .i64 ((min k len : Nat) : Int), ?_⟩
    cases base with
    | none => exact ⟨w, by rw [hhead]; rfl, h⟩
    | some p =>
      obtain ⟨b, off, spot⟩ := p
      cases spot with
      | some q => exact h.elim
      | none =>
        obtain ⟨c, t, fz, hb, hsz, hf, hk'⟩ := h
        obtain ⟨w', hrun, hsto⟩ := run_storeCells_blk (P := P) (b := b) (off := off) (t := t) (fz := fz) m 0 c w hb (by omega) (by simpa using hf) hone
        refine ⟨w', ?_, hk' w' (by simpa using hsto)⟩
        rw [hhead]
        dsimp only
        rw [Sem.run_bind, hrun]
        rfl
  · exact h.elim

end
end Go.Proofs.YtgnmelnohclpgaaDoor
