/- Own framework, part L: the machine does what the meaning says: every operation. -/
import Derived.Test.YtgnmelnohclpgaaDoorSxK
set_option linter.unusedVariables false
set_option linter.unusedSimpArgs false
namespace Go.Proofs.YtgnmelnohclpgaaDoor
open Go

section
variable {P : Program} {w : World} {a : Act} {e : Env} {n m : Nat} {rd : Option Nat} {next : Act → World → Prop} {Q : Exit → Act → World → Prop}

theorem ends_wp {o : Oper} {K : SV → World → Prop} (hd : ∀ c, o.op ≠ .defer c) (h : Ends P a o w K) (hK : ∀ s w', K s w' → next (a.put o.dst s.val) w') : o.wpIn (Fr rd) m P a w next Q := by
  refine ⟨fun _ _ => trivial, ?_⟩
  rw [Oper.semAt_eq _ _ _ hd]
  obtain ⟨s, w', hk, h | ⟨rfl, h⟩⟩ := h
  · rw [h]; exact hK s w' hk
  · rw [h]; exact hK _ w' hk

theorem run_call_body {f : FuncId} {args : Array Value} (h : hasBody P f = true) : (callFunc f args).run P w = .ok (.enter f args) w := by
  unfold hasBody at h
  split at h
  · rename_i fn hf
    simp only [Bool.and_eq_true] at h
    have h1 : (fn.name == "runtime.NumGoroutine") = false := by have := h.2; simpa [bne] using this
    have h2 : fn.body.isNone = false := by have := h.1; cases hb : fn.body <;> simp_all
    simp only [callFunc, Sem.run_bind, run_program, Result.andThen_ok, hf, h1, h2, Bool.false_eq_true, if_false]
    rfl
  · cases h

/-- a call of a function that the loaded text has -/
theorem wp_enter {o : Oper} {f : FuncId} {args : List Value} {w' : World} {K : Cont} (hd : ∀ c, o.op ≠ .defer c) (hrun : (execOp a.eval o).run P w = .ok (.enter f args.toArray) w') (h : callX P f args w' K)
    (hK : ∀ v w', K v w' → next (a.put o.dst v) w') : o.wpIn (Fr rd) m P a w next Q := by
  refine ⟨fun _ _ => trivial, ?_⟩
  rw [Oper.semAt_eq _ _ _ hd, hrun]
  refine ⟨(fun h => by cases h), ?_⟩
  have := (callsIn_wide (n := m - 1)).2 (Calls.mono h (R' := fun e w'' => match e, w'' with
    | .returned v, w'' => next (a.put o.dst v) w''
    | .panicked chain, w'' => Q (.panic chain) a w''
    | .outgrown, _ => LetsOut Q) (fun e w'' ⟨v, he, hv⟩ => by subst he; exact hK v w'' hv))
  exact this

theorem wp_ext {o : Oper} {f : FuncId} {args : List Value} {K : Cont} (hd : ∀ c, o.op ≠ .defer c) (hrun : (execOp a.eval o).run P w = (callFunc f args.toArray).run P w) (h : extX P f args w K)
    (hK : ∀ v w', K v w' → next (a.put o.dst v) w') : o.wpIn (Fr rd) m P a w next Q := by
  obtain ⟨v, w', h1, h2⟩ := h
  refine ⟨fun _ _ => trivial, ?_⟩
  rw [Oper.semAt_eq _ _ _ hd, hrun, h1]
  exact hK v w' h2

theorem wp_yield {o : Oper} {l : Nat} {args : List Value} {K : Cont} (hd : ∀ c, o.op ≠ .defer c) (hrun : (execOp a.eval o).run P w = (Instr.yield l args.toArray).run P w) (h : yieldX P l args w K)
    (hK : ∀ v w', K v w' → next (a.put o.dst v) w') : o.wpIn (Fr rd) m P a w next Q := by
  obtain ⟨fn, tmps, assign, body, h1, h2⟩ := h
  refine ⟨fun _ _ => trivial, ?_⟩
  rw [Oper.semAt_eq _ _ _ hd, hrun, h1]
  refine ⟨(fun h => by cases h), ?_⟩
  have h3 := RoundIn.mono h2 (R' := fun e w'' => match e, w'' with
    | .returned v, w'' => next (a.put o.dst v) w''
    | .panicked chain, w'' => Q (.panic chain) a w''
    | .outgrown, _ => LetsOut Q) (fun e w'' ⟨v, he, hv⟩ => by subst he; exact hK v w'' hv)
  exact ⟨trivial, fun c cs _ => h3.2 c cs (room_wide _)⟩

theorem builtin_ends {b : Builtin} {c : Call} {o : Oper} {K : Cont} (ho : o.op = .call c) (hc : c.callee = .builtin b) (hr : Rep n a e) (h : builtinX P e b c.args.toList c.argTypes w K) : Ends P a o w (fun s w' => K s.val w') := by
  have hx : ∀ {v w'}, (builtin b c.argTypes o.type (c.args.map fun | .const _ => true | _ => false) (c.args.map a.eval)).run P w = .ok (.value v) w' → (execOp a.eval o).run P w = .ok (.value v) w' := by
    intro v w' hrun
    simp only [execOp, ho, resolve, hc, Sem.run_bind, Sem.run_pure, Result.andThen_ok, invoke]
    exact hrun
  have hargs : ∀ {l : List Operand}, c.args.toList = l → c.args.map a.eval = (l.map a.eval).toArray := fun hl => by
    apply Array.toList_inj.1; simp [hl]
  have one : ∀ {v : Value} {s : Sem Value} {w' : World}, (builtin b c.argTypes o.type (c.args.map fun | .const _ => true | _ => false) (c.args.map a.eval)) = (do pure (.value (← s))) → s.run P w = .ok v w' → K v w' → Ends P a o w (fun s w' => K s.val w') := by
    intro v s w' h1 h2 h3
    refine Ends.val (K := fun s w' => K s.val w') h3 (hx ?_)
    rw [h1]
    simp [h2]
  have bindU : ∀ {i : Nat} {d : TypeDesc}, c.argTypes[i]?.bind P.underlying = some d → ∃ t, c.argTypes[i]? = some t ∧ P.underlying t = some d := fun h => Option.bind_eq_some_iff.1 h
  unfold builtinX at h
  split at h
  · rename_i x hargs'
    have ha := hargs hargs'
    split at h
    · rename_i el hu
      obtain ⟨t, ht, hu⟩ := bindU hu
      obtain ⟨s, hs, h⟩ := w1_some h
      unfold lenSX at h
      split at h
      · rename_i p k q hp
        refine one (s := Builtin.len_ c.argTypes o.type (c.args.map a.eval)) rfl ?_ h
        rw [ha]
        simp [Builtin.len_, ht, run_und hu, ev_eval hr hs, hp, goInt]
      · exact h.elim
    · rename_i hu
      obtain ⟨t, ht, hu⟩ := bindU hu
      obtain ⟨s, hs, h⟩ := w1_some h
      unfold lenStrX at h
      split at h
      · rename_i p hp
        refine one (s := Builtin.len_ c.argTypes o.type (c.args.map a.eval)) rfl ?_ h
        rw [ha]
        simp [Builtin.len_, ht, run_und hu, ev_eval hr hs, hp, goInt]
      · exact h.elim
    · rename_i k el hu
      obtain ⟨t, ht, hu⟩ := bindU hu
      obtain ⟨s, hs, h⟩ := w1_some h
      refine one (s := Builtin.len_ c.argTypes o.type (c.args.map a.eval)) rfl ?_ h
      rw [ha]
      simp [Builtin.len_, ht, run_und hu, goInt]
    · rename_i k el hu
      obtain ⟨t, ht, hu⟩ := bindU hu
      obtain ⟨s, hs, h⟩ := w1_some h
      unfold lenMX at h
      split at h
      · rename_i hp
        refine one (s := Builtin.len_ c.argTypes o.type (c.args.map a.eval)) rfl ?_ h
        rw [ha]
        simp [Builtin.len_, ht, run_und hu, ev_eval hr hs, hp, goInt]
      · rename_i r hp
        obtain ⟨es, cl, hb, h⟩ := h
        refine one (s := Builtin.len_ c.argTypes o.type (c.args.map a.eval)) rfl ?_ h
        rw [ha]
        have hg : (getObj r).run P w = .ok (.map es cl) w := by unfold getObj; simp only [Sem.run, hb]
        simp [Builtin.len_, ht, run_und hu, ev_eval hr hs, hp, goInt, hg]
      · exact h.elim
    · exact h.elim
  · rename_i x y hargs'
    have ha := hargs hargs'
    split at h
    · rename_i el u hu1 hu2
      obtain ⟨t1, ht1, hu1⟩ := bindU hu1
      obtain ⟨t2, ht2, hu2⟩ := bindU hu2
      split at h
      · rename_i i hi hnu
        split at h
        · rename_i hz
          obtain ⟨s, hs, h⟩ := w1_some h
          obtain ⟨r, hr', h⟩ := w1_some h
          obtain ⟨v, w', h1, h2⟩ := run_append (ty := o.type) ht1 ht2 hu1 hu2 hnu hi hz.1 hz.2 h
          refine one (s := Builtin.append_ c.argTypes o.type (c.args.map a.eval)) rfl ?_ h2
          rw [ha]
          simp only [List.map_cons, List.map_nil, ev_eval hr hs, ev_eval hr hr']
          exact h1
        · exact h.elim
      · exact h.elim
    · exact h.elim
  · rename_i x y hargs'
    have ha := hargs hargs'
    split at h
    · rename_i el hu1
      obtain ⟨t1, ht1, hu1⟩ := bindU hu1
      split at h
      · rename_i i hi
        obtain ⟨s, hs, h⟩ := w1_some h
        obtain ⟨r, hr', h⟩ := w1_some h
        obtain ⟨v, w', h1, h2⟩ := run_copy (ty := o.type) ht1 hu1 hi h
        refine one (s := Builtin.copy_ c.argTypes o.type (c.args.map a.eval)) rfl ?_ h2
        rw [ha]
        simp only [List.map_cons, List.map_nil, ev_eval hr hs, ev_eval hr hr']
        exact h1
      · exact h.elim
    · exact h.elim
  · rename_i x y hargs'
    have ha := hargs hargs'
    obtain ⟨s, hs, h⟩ := w1_some h
    obtain ⟨r, hr', h⟩ := w1_some h
    unfold maxX at h
    split at h
    · rename_i hp hq
      refine one (s := Builtin.max_ c.argTypes o.type (c.args.map a.eval)) rfl ?_ h
      rw [ha]
      simp only [List.map_cons, List.map_nil, ev_eval hr hs, ev_eval hr hr', hp, hq]
      rfl
    · exact h.elim
  · rename_i x y hargs'
    have ha := hargs hargs'
    obtain ⟨s, hs, h⟩ := w1_some h
    obtain ⟨r, hr', h⟩ := w1_some h
    unfold minX at h
    split at h
    · rename_i hp hq
      refine one (s := Builtin.min_ c.argTypes o.type (c.args.map a.eval)) rfl ?_ h
      rw [ha]
      simp only [List.map_cons, List.map_nil, ev_eval hr hs, ev_eval hr hr', hp, hq]
      rfl
    · exact h.elim
  · rename_i x y hargs'
    have ha := hargs hargs'
    obtain ⟨s, hs, h⟩ := w1_some h
    obtain ⟨r, hr', h⟩ := w1_some h
    obtain ⟨v, w', h1, h2⟩ := h
    refine one (s := Builtin.delete_ c.argTypes o.type (c.args.map a.eval)) rfl ?_ h2
    rw [ha]
    simp only [List.map_cons, List.map_nil, ev_eval hr hs, ev_eval hr hr']
    exact h1
  · exact h.elim

/-- what an operation comes to: it ends; it enters a function; it goes a round of a loop -/
def OpRes (P : Program) (a : Act) (o : Oper) (w : World) (K : SV → World → Prop) : Prop :=
  Ends P a o w K ∨ (∃ f vs, (execOp a.eval o).run P w = .ok (.enter f (List.toArray vs)) w ∧ callX P f vs w (fun v w' => K (.v v) w')) ∨
  (∃ l vs c t, o.op = .call c ∧ c.callee = .value (.tmp t) ∧ (execOp a.eval o).run P w = (Instr.yield l (List.toArray vs)).run P w ∧ yieldX P l vs w (fun v w' => K (.v v) w'))

theorem ext_ends {o : Oper} {f : FuncId} {args : List Value} {K : SV → World → Prop} (hrun : (execOp a.eval o).run P w = (callFunc f args.toArray).run P w) (h : extX P f args w (fun v w' => K (.v v) w')) : Ends P a o w K := by
  obtain ⟨v, w', h1, h2⟩ := h
  exact Ends.val h2 (by rw [hrun, h1])

theorem call_res {c : Call} {o : Oper} {K : SV → World → Prop} (ho : o.op = .call c) (hr : Rep n a e) (h : opX P e o.op w K) (hK : ∀ s w', K (.v s) w' → K (.v s) w') : OpRes P a o w K := by
  rw [ho] at h
  simp only [opX] at h
  have hargs : ∀ {vs : List Value}, evs e c.args.toList = some vs → c.args.map a.eval = vs.toArray := fun hv => evs_map hr hv
  split at h
  · rename_i f hc
    obtain ⟨vs, hv, h⟩ := wl_some h
    have hrun : (execOp a.eval o).run P w = (callFunc f vs.toArray).run P w := by
      simp only [execOp, ho, resolve, hc, Sem.run_bind, Act.eval, Deferred.ofValue, Sem.run_pure, Result.andThen_ok, invoke, hargs hv]
      simp
    cases hb : hasBody P f with
    | true =>
      rw [hb] at h
      exact .inr (.inl ⟨f, vs, by rw [hrun, run_call_body hb], h⟩)
    | false =>
      rw [hb] at h
      exact .inl (ext_ends hrun h)
  · rename_i t hc
    obtain ⟨s, hs, h⟩ := w1_some h
    obtain ⟨vs, hv, h⟩ := wl_some h
    have hev := ev_eval hr hs
    unfold fvX at h
    split at h
    · rename_i f first cap hp
      obtain ⟨hb, h⟩ := h
      refine .inr (.inl ⟨f, _, ?_, h⟩)
      simp only [execOp, ho, resolve, hc, Sem.run_bind, hev, hp, Deferred.ofValue, Sem.run_pure, Result.andThen_ok, invoke, hargs hv]
      rw [run_call_body hb]
      congr 2
      apply Array.toList_inj.1
      simp
    · rename_i l first cap hp
      obtain ⟨rfl, h⟩ := h
      refine .inr (.inr ⟨l, vs, c, t, ho, hc, ?_, h⟩)
      simp only [execOp, ho, resolve, hc, Sem.run_bind, hev, hp, Deferred.ofValue, Sem.run_pure, Result.andThen_ok, invoke, hargs hv]
      simp
    · exact h.elim
  · exact h.elim
  · rename_i r name hc
    obtain ⟨s, hs, h⟩ := w1_some h
    obtain ⟨vs, hv, h⟩ := wl_some h
    have hev := ev_eval hr hs
    unfold invX at h
    split at h
    · rename_i t v hp
      obtain ⟨f, rc, hm, h⟩ := h
      have hrun : (execOp a.eval o).run P w = (callFunc f (rc :: vs).toArray).run P w := by
        simp only [execOp, ho, resolve, hc, Sem.run_bind, hev, hp, Sem.run_pure, Result.andThen_ok, invoke, hargs hv]
        have e0 : (#[Value.iface t v] ++ vs.toArray)[0]? = some (.iface t v) := by simp
        have e1 : (#[Value.iface t v] ++ vs.toArray).extract 1 (#[Value.iface t v] ++ vs.toArray).size = vs.toArray := by
          apply Array.toList_inj.1; simp
        rw [e0]
        simp only [e1, callMethod, Sem.run_bind, run_program, Result.andThen_ok, hm]
        congr 2
        apply Array.toList_inj.1
        simp
      rcases h with ⟨hb, h⟩ | h
      · exact .inr (.inl ⟨f, _, by rw [hrun, run_call_body hb], h⟩)
      · exact .inl (ext_ends hrun h)
    · exact h.elim
  · rename_i b hc
    have := builtin_ends (K := fun v w' => K (.v v) w') ho hc hr h
    obtain ⟨s, w', h1, h2⟩ := this
    refine .inl ⟨.v s.val, w', h1, ?_⟩
    rcases h2 with h2 | ⟨rfl, h2⟩
    · exact .inl h2
    · exact .inr ⟨rfl, h2⟩

theorem makeM_ends {t : TypeId} {r : Option Operand} {o : Oper} {K : SV → World → Prop} (ho : o.op = .makeMap t r) (hr : Rep n a e) (h : opX P e o.op w K) : Ends P a o w K := by
  rw [ho] at h
  cases r with
  | some r => exact h.elim
  | none =>
    simp only [opX] at h
    refine Ends.val (h _ _ (new_alloc w (.map #[] 0))) ?_
    simp only [execOp, ho]
    rfl
theorem lookup_ends {t : TypeId} {x i : Operand} {ok : Bool} {o : Oper} {K : SV → World → Prop} (ho : o.op = .lookup t x i ok) (hr : Rep n a e) (h : opX P e o.op w K) : Ends P a o w K := by
  rw [ho] at h
  simp only [opX] at h
  obtain ⟨s, hs, h⟩ := w1_some h
  obtain ⟨r, hr', h⟩ := w1_some h
  obtain ⟨v, h1, h2⟩ := h
  refine Ends.val h2 ?_
  simp only [execOp, ho, ev_eval hr hs, ev_eval hr hr', Sem.run_bind, h1, Result.andThen_ok, Sem.run_pure]
theorem update_ends {t : TypeId} {m k x : Operand} {o : Oper} {K : SV → World → Prop} (ho : o.op = .mapUpdate t m k x) (hr : Rep n a e) (h : opX P e o.op w K) : Ends P a o w K := by
  rw [ho] at h
  simp only [opX] at h
  obtain ⟨s, hs, h⟩ := w1_some h
  obtain ⟨r, hr', h⟩ := w1_some h
  obtain ⟨q, hq, h⟩ := w1_some h
  obtain ⟨w', h1, h2⟩ := h
  refine Ends.skip h2 ?_
  simp only [execOp, ho, ev_eval hr hs, ev_eval hr hr', ev_eval hr hq, Sem.run_bind, h1, Result.andThen_ok, Sem.run_pure]
theorem range_ends {t : TypeId} {x : Operand} {o : Oper} {K : SV → World → Prop} (ho : o.op = .range t x) (hr : Rep n a e) (h : opX P e o.op w K) : Ends P a o w K := by
  rw [ho] at h
  simp only [opX] at h
  obtain ⟨s, hs, h⟩ := w1_some h
  obtain ⟨v, w', h1, h2⟩ := h
  refine Ends.val h2 ?_
  simp only [execOp, ho, ev_eval hr hs, Sem.run_bind, h1, Result.andThen_ok, Sem.run_pure]
theorem next_ends {x : Operand} {s : Bool} {o : Oper} {K : SV → World → Prop} (ho : o.op = .next x s) (hr : Rep n a e) (h : opX P e o.op w K) : Ends P a o w K := by
  rw [ho] at h
  simp only [opX] at h
  obtain ⟨s, hs, h⟩ := w1_some h
  obtain ⟨v, w', h1, h2⟩ := h
  refine Ends.val h2 ?_
  have h3 : (Instr.next s.val _ o.type).run P w = .ok v w' := h1
  simp only [execOp, ho, ev_eval hr hs, Sem.run_bind, h3, Result.andThen_ok, Sem.run_pure]
theorem entry_ends {x : Operand} {o : Oper} {K : SV → World → Prop} (ho : o.op = .entry x) (hr : Rep n a e) (h : opX P e o.op w K) : Ends P a o w K := by
  rw [ho] at h
  simp only [opX] at h
  obtain ⟨s, hs, h⟩ := w1_some h
  obtain ⟨v, h1, h2⟩ := h
  refine Ends.val h2 ?_
  simp only [execOp, ho, ev_eval hr hs, Sem.run_bind, h1, Result.andThen_ok, Sem.run_pure]

/-- **every operation** -/
theorem opX_res {o : Oper} {K : SV → World → Prop} (hr : Rep n a e) (h : opX P e o.op w K) : OpRes P a o w K := by
  cases ho : o.op with
  | move x => exact .inl (move_ends ho hr h)
  | assign x => exact .inl (assign_ends ho hr h)
  | pick c x y => exact .inl (pick_ends ho hr h)
  | alloc t => exact .inl (alloc_ends ho hr h)
  | box t x => exact .inl (box_ends ho hr h)
  | build t ps => exact .inl (build_ends ho hr h)
  | buildSlice t l ps => exact .inl (buildS_ends ho hr h)
  | load t x => exact .inl (load_ends ho hr h)
  | store t x y => exact .inl (store_ends ho hr h)
  | nilCheck x => exact .inl (nil_ends ho hr h)
  | fieldAddr t x f => exact .inl (fieldAddr_ends ho hr h)
  | field t x f => exact .inl (field_ends ho hr h)
  | indexAddr t x i => exact .inl (indexAddr_ends ho hr h)
  | index t x i => exact .inl (index_ends ho hr h)
  | extract x i => exact .inl (extract_ends ho hr h)
  | unOp op t x => exact .inl (un_ends ho hr h)
  | binOp op t x y t' =>
    by_cases h1 : op = .eql
    · subst h1
      rw [ho] at h
      exact .inl (eq_ends (ne := false) ho rfl hr h)
    · by_cases h2 : op = .neq
      · subst h2
        rw [ho] at h
        exact .inl (eq_ends (ne := true) ho rfl hr h)
      · exact .inl (bin_ends ho h1 h2 hr h)
  | convert t u x => exact .inl (conv_ends ho hr h)
  | makeInterface t x => exact .inl (iface_ends ho hr h)
  | makeFunc f x y => exact .inl (func_ends ho hr h)
  | makeSlice t x y => exact .inl (makeS_ends ho hr h)
  | slice t x lo hi mx => exact .inl (slice_ends ho hr h)
  | typeAssert x xt t b => exact .inl (assert_ends ho hr h)
  | call c => exact call_res ho hr h (fun _ _ h => h)
  | makeMap t r => exact .inl (makeM_ends ho hr h)
  | lookup t x i ok => exact .inl (lookup_ends ho hr h)
  | mapUpdate t m k x => exact .inl (update_ends ho hr h)
  | range t x => exact .inl (range_ends ho hr h)
  | next x s => exact .inl (next_ends ho hr h)
  | entry x => exact .inl (entry_ends ho hr h)
  | _ => rw [ho] at h; exact h.elim

theorem opX_nodefer {o : Oper} {K : SV → World → Prop} (h : opX P e o.op w K) : ∀ c, o.op ≠ .defer c := fun c h' => by rw [h'] at h; exact h

theorem opX_wp {o : Oper} {K : SV → World → Prop} (hr : Rep n a e) (h : opX P e o.op w K) (hK : ∀ s w', K s w' → next (a.put o.dst s.val) w') : o.wpIn (Fr rd) m P a w next Q := by
  have hd := opX_nodefer h
  rcases opX_res hr h with h | ⟨f, vs, hrun, h⟩ | ⟨l, vs, c, t, _, _, hrun, h⟩
  · exact ends_wp hd h hK
  · exact wp_enter hd hrun h (fun v w' hk => hK (.v v) w' hk)
  · exact wp_yield hd hrun h (fun v w' hk => hK (.v v) w' hk)

/-- is an operation a call of a function's value? -/
def tmpCall : Op → Bool
  | .call c => (match c.callee with
    | .value (.tmp _) => true
    | _ => false)
  | _ => false

/-- the same outside every round -/
theorem opX_wpP {o : Oper} {K : SV → World → Prop} (hr : Rep n a e) (h : opX P e o.op w K) (ht : tmpCall o.op = false) (hK : ∀ s w', K s w' → next (a.put o.dst s.val) w') : o.wp P a w next Q := by
  rcases opX_res hr h with ⟨s, w', hk, h | ⟨rfl, h⟩⟩ | ⟨f, vs, hrun, h⟩ | ⟨l, vs, c, t, hc, hcc, hrun, h⟩
  · unfold Oper.wp; rw [h]; exact hK s w' hk
  · unfold Oper.wp; rw [h]; exact hK _ w' hk
  · unfold Oper.wp
    rw [hrun]
    exact Calls.mono h (R' := fun e w'' => match e, w'' with
      | .returned v, w'' => next (a.put o.dst v) w''
      | .panicked chain, w'' => Q (.panic chain) a w''
      | .outgrown, _ => LetsOut Q) (fun e w'' ⟨v, he, hv⟩ => by subst he; exact hK (.v v) w'' hv)
  · rw [hc] at ht
    simp [tmpCall, hcc] at ht

end
end Go.Proofs.YtgnmelnohclpgaaDoor
