/- Own framework, part O: one order is walked, all orders follow: the proof. -/
import Derived.Test.YtgnmelnohclpgaaDoorSxN
set_option linter.unusedVariables false
set_option linter.unusedSimpArgs false
namespace Go.Proofs.YtgnmelnohclpgaaDoor
open Go

section
variable {P : Program} {ops : Array Oper} {S : World → Prop} {n : Nat} {G : Act → Prop}

/-- how a region ends -/
def regQ (n : Nat) (G : Act → Prop) (K : Env → World → Prop) : Exit → Act → World → Prop
  | .normal, a, w => ∃ e, Rep n a e ∧ G a ∧ K e w
  | _, _, _ => False

theorem Rep.know {a : Act} {e : Env} {g : Nat} {t : Bool} (hr : Rep n a e) (hg : e g = some (.v (.bool t))) : Rep n a (e.know g t) := by
  refine hr.sub fun i s hi => ?_
  simp only [Env.know] at hi
  cases hb : Nat.beq i g with
  | true =>
    rw [hb] at hi
    simp only [cond_true, Option.some.injEq] at hi
    subst hi
    have : i = g := Nat.eq_of_beq_eq_true hb
    subst this
    exact ⟨_, hg, rfl⟩
  | false => rw [hb] at hi; exact ⟨s, hi, rfl⟩

theorem yielded_of {a : Act} {e : Env} (hr : Rep n a e) {j g : Nat} {s : SV} {t : Bool} (hj : (ops[j]?).bind (·.dst) = some g) (hg : e g = some s) (hs : s.val = .bool t) : yielded ops a.tmps j = some t := by
  have h := hr.2 g s hg
  unfold yielded
  rw [hj]
  simp only [Option.bind_some]
  rw [hs] at h
  cases hq : a.tmps[g]? with
  | none => rw [hq] at h; simp [undef] at h
  | some v => rw [hq] at h; simp at h; subst h; rfl

theorem yielded_none {a : Act} {e : Env} (hr : Rep n a e) {j g : Nat} (hj : (ops[j]?).bind (·.dst) = some g) (hg : e g = some .no) : yielded ops a.tmps j = none := by
  have h := hr.2 g _ hg
  unfold yielded
  rw [hj]
  simp only [Option.bind_some]
  cases hq : a.tmps[g]? with
  | none => rfl
  | some v => rw [hq] at h; simp [SV.val] at h; subst h; rfl

/-- **the guard's meaning** -/
theorem guard_cases {o : Oper} {a : Act} {e : Env} {run skip : Env → Prop} (hr : Rep n a e) (h : guardX ops o e run skip) :
    (∃ e', Rep n a e' ∧ run e' ∧ Region.wanted o (yielded ops a.tmps) = true) ∨ (∃ e', Rep n a e' ∧ skip e' ∧ Region.wanted o (yielded ops a.tmps) = false) := by
  unfold guardX at h
  split at h
  · rename_i hg
    exact .inl ⟨e, hr, h, by simp [Region.wanted, hg]⟩
  · rename_i j want hg
    split at h
    · rename_i g hj
      split at h
      · rename_i t he
        have hy := yielded_of hr hj he rfl
        cases ht : (t == want) with
        | true => rw [ht] at h; exact .inl ⟨e, hr, h, by simp [Region.wanted, hg, hy]; simpa using ht⟩
        | false => rw [ht] at h; exact .inr ⟨e, hr, h, by simp [Region.wanted, hg, hy]; simpa using ht⟩
      · rename_i x he
        unfold brX at h
        split at h
        · rename_i t
          have hy := yielded_of hr hj he rfl
          cases t with
          | true =>
            have h1 := h.1 rfl
            have hr' := hr.know he
            cases want with
            | true => exact .inl ⟨_, hr', h1, by simp [Region.wanted, hg, hy]⟩
            | false => exact .inr ⟨_, hr', h1, by simp [Region.wanted, hg, hy]⟩
          | false =>
            have h1 := h.2 rfl
            have hr' := hr.know he
            cases want with
            | true => exact .inr ⟨_, hr', h1, by simp [Region.wanted, hg, hy]⟩
            | false => exact .inl ⟨_, hr', h1, by simp [Region.wanted, hg, hy]⟩
        · exact h.elim
      · rename_i he
        exact .inr ⟨e, hr, h, by simp [Region.wanted, hg, yielded_none hr hj he]⟩
      · exact h.elim
    · exact h.elim

theorem val_only {s : Sem Value} {w w' : World} {r : Next} (h : (do pure (.value (← s)) : Sem Next).run P w = .ok r w') : ∃ v, r = .value v := by
  simp only [Sem.run_bind, Sem.run_pure] at h
  cases hs : s.run P w with
  | ok v w1 => rw [hs] at h; simp only [Result.andThen_ok, Result.ok.injEq] at h; exact ⟨v, h.1.symm⟩
  | halt x w1 => rw [hs] at h; simp [Result.andThen] at h

theorem pure_val {o : Oper} {a : Act} {w w' : World} {r : Next} (hp : pureOp P o.op = true) (h : (execOp a.eval o).run P w = .ok r w') : ∃ v, r = .value v := by
  unfold execOp at h
  cases ho : o.op <;> rw [ho] at h hp <;> simp only [pureOp, Bool.false_eq_true] at hp
  case call c =>
    obtain ⟨b, hc⟩ : ∃ b, c.callee = .builtin b := by
      cases hc : c.callee <;> rw [hc] at hp <;> first | exact ⟨_, rfl⟩ | cases hp
    rw [hc] at hp
    simp only [resolve, hc, Sem.run_bind, Sem.run_pure, Result.andThen_ok, invoke] at h
    cases b <;> first | (cases hp; done) | skip
    all_goals exact val_only (s := _) h
  case nilCheck x =>
    dsimp only at h
    split at h
    · simp [runtimePanic] at h
    · simp [runtimePanic] at h
    · simp [runtimePanic] at h
    · split at h
      · simp [runtimePanic] at h
      · simp only [Sem.run_bind, run_program, Result.andThen_ok] at h
        revert h
        generalize (Sem.run P (nilAhead _ _ _ _) w) = q
        cases q with
        | ok v w1 =>
          simp only [Result.andThen_ok, Sem.run_ite, Sem.run_bind]
          split
          · simp
          · simp only [Sem.run_pure, Result.ok.injEq]; rintro ⟨rfl, rfl⟩; exact ⟨_, rfl⟩
        | halt x w1 => simp [Result.andThen]
      · simp only [Sem.run_pure, Result.ok.injEq] at h; exact ⟨_, h.1.symm⟩
    · simp only [Sem.run_pure, Result.ok.injEq] at h; exact ⟨_, h.1.symm⟩
  all_goals first
    | (simp only [Sem.run_pure, Result.ok.injEq] at h; exact ⟨_, h.1.symm⟩)
    | exact val_only (s := _) h
    | skip
  case pick c x y =>
    simp only [Sem.run_bind, Sem.run_pure] at h
    revert h
    generalize (Sem.run P (asBool _) w) = q
    cases q with
    | ok v w1 => simp only [Result.andThen_ok, Result.ok.injEq]; rintro ⟨rfl, rfl⟩; exact ⟨_, rfl⟩
    | halt x w1 => simp [Result.andThen]

/-- one value in every world: a pure operation -/
theorem pure_yields {o : Oper} {a : Act} {e : Env} {w : World} {K : SV → World → Prop} (hr : Rep n a e) (hp : pureOp P o.op = true) (h : opX P e o.op w K) : ∃ s, K s w ∧ ∀ w, (execOp a.eval o).run P w = .ok (.value s.val) w := by
  obtain ⟨s, hk, hall⟩ := pure_det hp w K h
  refine ⟨s, hk, fun w' => ?_⟩
  rcases opX_res hr (hall w' (fun s' w'' => s' = s ∧ w'' = w') ⟨rfl, rfl⟩) with ⟨s', w'', ⟨rfl, rfl⟩, h2⟩ | ⟨f, vs, hrun, hc⟩ | ⟨l, vs, c, t, hc, hcc, hrun, hy⟩
  · rcases h2 with h2 | ⟨rfl, h2⟩
    · exact h2
    · obtain ⟨v, hv⟩ := pure_val hp h2; cases hv
  · obtain ⟨v, hv⟩ := pure_val hp hrun; cases hv
  · rw [hc] at hp
    simp [pureOp, hcc] at hp

theorem load_val {o : Oper} {a : Act} {w w' : World} {r : Next} (hp : loadOp P o.op = true) (h : (execOp a.eval o).run P w = .ok r w') : ∃ v, r = .value v := by
  unfold execOp at h
  cases ho : o.op <;> rw [ho] at h hp <;> simp only [loadOp, Bool.false_eq_true] at hp
  all_goals exact val_only (s := _) h

theorem load_yields {o : Oper} {a : Act} {e : Env} {K : SV → Prop} (hr : Rep n a e) (hl : loadOp P o.op = true) (h : opH P S e o.op K) : ∃ s, K s ∧ ∀ w, S w → (execOp a.eval o).run P w = .ok (.value s.val) w := by
  obtain ⟨s, hk, hall⟩ := opH_det h
  refine ⟨s, hk, fun w hw => ?_⟩
  rcases opX_res hr (hall w hw) with ⟨s', w'', ⟨rfl, rfl⟩, h2⟩ | ⟨f, vs, hrun, hc⟩ | ⟨l, vs, c, t, hc, hcc, hrun, hy⟩
  · rcases h2 with h2 | ⟨rfl, h2⟩
    · exact h2
    · obtain ⟨v, hv⟩ := load_val hl h2; cases hv
  · obtain ⟨v, hv⟩ := load_val hl hrun; cases hv
  · rw [hc] at hl
    simp [loadOp] at hl

/-- where S need not hold behind an operation -/
def dmOf (P : Program) (ops : Array Oper) (ord : List (Nat × Option (List Nat))) (j : Nat) : Bool :=
  !(ord.any fun x => Nat.beq x.1 j && (match x.2 with | some l => chainOk ops [j] l && coversLoads P ops j l | none => false))

theorem dmOf_false {ord : List (Nat × Option (List Nat))} {j : Nat} (h : dmOf P ops ord j = false) : ∃ l, chainOk ops [j] l = true ∧ coversLoads P ops j l = true := by
  simp only [dmOf, Bool.not_eq_false'] at h
  obtain ⟨x, hx, hx2⟩ := List.any_eq_true.1 h
  simp only [Bool.and_eq_true] at hx2
  obtain ⟨_, h2⟩ := hx2
  split at h2
  · rename_i l hl
    simp only [Bool.and_eq_true] at h2
    exact ⟨l, h2⟩
  · cases h2

theorem regQ_panic {K : Env → World → Prop} {oi : Oper} {v : Value} : ∀ c a w, regQ n G K (.panic c) (a.put oi.dst v) w → regQ n G K (.panic c) a w := fun _ _ _ h => h

theorem alt_parts {i : Nat} {c : Option (List Nat)} {r m : DWay} {listed : Array Bool} {ok : Bool} {e : Env} {w : World} {K : Env → World → Prop} (h : drawX P n ops S (.alt i c r m) listed ok e w K) :
    altB P n ops S i c listed ok e w (fun ok e w => drawX P n ops S r (listed.setIfInBounds i true) ok e w K) ∧ (m.isStop = false → drawX P n ops S m listed ok e w K) := by
  simp only [drawX] at h
  cases hm : m.isStop with
  | true => rw [hm] at h; exact ⟨h, fun h0 => by cases h0⟩
  | false => rw [hm] at h; exact ⟨h.1, fun _ => h.2⟩

theorem drawX_sound {ord0 : List (Nat × Option (List Nat))} {K : Env → World → Prop} (hs : Region.noSelect ops = true) (htmp : ∀ (i : Nat) (o : Oper), ops[i]? = some o → tmpCall o.op = false) (hkp : ∀ (i : Nat) (o : Oper), ops[i]? = some o → ∀ a v, G a → G (a.put o.dst v)) :
    ∀ (ord : DWay) (listed : Array Bool) (ok : Bool) (e : Env) (w : World) (a : Act) (fuel : Nat), (∀ x ∈ ord.flat, x ∈ ord0) → drawX P n ops S ord listed ok e w K → Rep n a e → G a → ord.depth ≤ fuel → DC ops listed → (ok = true → S w) →
    (ord.good true = true → anyH P ops (regQ n G K) S (dmOf P ops ord0) fuel listed a w) ∧
    (ord.good false = true → ∀ fuel', fuel = fuel' + 1 → ∀ i ∈ ord.heads, i ∈ Region.ready .any ops listed → wpOp P ops (regQ n G K) i (fun a' w' => (dmOf P ops ord0 i = true → S w → S w') ∧ anyH P ops (regQ n G K) S (dmOf P ops ord0) fuel' (listed.setIfInBounds i true) a' w') a w) := by
  intro ord
  induction ord with
  | nil =>
    intro listed ok e w a fuel _ h hr hd hfu hdc hok
    refine ⟨fun _ => ?_, fun _ fuel' _ i hi => by simp [DWay.heads] at hi⟩
    simp only [drawX] at h
    cases hrd : (Region.ready .any ops listed).isEmpty with
    | false => rw [hrd] at h; exact h.elim
    | true =>
      rw [hrd] at h
      exact anyH_done (List.isEmpty_iff.1 hrd) ⟨e, hr, hd, h⟩ fuel
  | stop => intro listed ok e w a fuel _ h; exact h.elim
  | one i ord ih =>
    intro listed ok e w a fuel hsub h hr hd hfu hdc hok
    refine ⟨fun hgood => ?_, fun _ fuel' _ i hi => by simp [DWay.heads] at hi⟩
    simp only [DWay.good, Bool.true_and] at hgood
    simp only [DWay.depth] at hfu
    obtain ⟨fuel, rfl⟩ : ∃ f, fuel = f + 1 := ⟨fuel - 1, by omega⟩
    have hfu' : ord.depth ≤ fuel := by omega
    have hsub' : ∀ x ∈ ord.flat, x ∈ ord0 := hsub
    have ih' : ∀ (listed : Array Bool) (e : Env) (w : World) (a : Act), drawX P n ops S ord listed ok e w K → Rep n a e → G a → DC ops listed → (ok = true → S w) → anyH P ops (regQ n G K) S (dmOf P ops ord0) fuel listed a w :=
      fun listed e w a h1 h2 h3 h4 h5 => (ih listed ok e w a fuel hsub' h1 h2 h3 hfu' h4 h5).1 hgood
    simp only [drawX] at h
    split at h
    · exact h.elim
    · rename_i o ho
      cases hrd : (Region.ready .any ops listed).contains i with
      | false => rw [hrd] at h; exact h.elim
      | true =>
        rw [hrd] at h
        simp only [cond_true] at h
        have hmem : i ∈ Region.ready .any ops listed := by simpa using hrd
        have hdc' := hdc.set hmem
        rcases guard_cases hr h with ⟨e', hr', h, hw⟩ | ⟨e', hr', h, hw⟩
        · -- carried out
          cases hpu : pureOp P o.op with
          | true =>
            rw [hpu] at h
            simp only [cond_true] at h
            cases hfr : Region.free .any ops listed i with
            | false => rw [hfr] at h; exact h.elim
            | true =>
              rw [hfr] at h
              simp only [cond_true] at h
              obtain ⟨s, hk, hrun⟩ := pure_yields hr' hpu h
              refine anyH_take (T := fun _ => True) (v := s.val) ho hs hfr hrd hdc regQ_panic (fun _ _ _ _ _ _ _ _ _ _ => trivial) (.inl ⟨hw, fun w _ => hrun w⟩) trivial ?_
              exact ih' _ _ w _ hk (hr'.put _ _) (hkp i o ho _ _ hd) hdc' hok
          | false =>
            rw [hpu] at h
            simp only [cond_false] at h
            cases hlo : loadOp P o.op with
            | true =>
              rw [hlo] at h
              simp only [cond_true] at h
              cases hfr : (Region.free .any ops listed i && ok) with
              | false => rw [hfr] at h; exact h.elim
              | true =>
                rw [hfr] at h
                simp only [cond_true] at h
                simp only [Bool.and_eq_true] at hfr
                obtain ⟨s, hk, hrun⟩ := load_yields hr' hlo h
                refine anyH_take (T := S) (v := s.val) ho hs hfr.1 hrd hdc regQ_panic ?_ (.inl ⟨hw, fun w hw => hrun w hw⟩) (hok hfr.2) ?_
                · intro l2 j w1 w2 hdc2 hj hun hji hS1 hS2
                  cases hdm : dmOf P ops ord0 j with
                  | true => exact hS2 hdm hS1
                  | false =>
                    exfalso
                    obtain ⟨l, h1, h2⟩ := dmOf_false hdm
                    have hlt : i < ops.size := (Array.getElem?_eq_some_iff.1 ho).1
                    have h3 := List.all_eq_true.1 h2 i (List.mem_range.2 hlt)
                    simp only [ho, hlo, Bool.not_true, Bool.or_false, Bool.or_eq_true] at h3
                    rcases h3 with h3 | h3
                    · exact hji (Nat.eq_of_beq_eq_true h3).symm
                    · obtain ⟨y, hy, hy2⟩ := List.any_eq_true.1 h3
                      have : i = y := Nat.eq_of_beq_eq_true hy2
                      subst this
                      have h4 := chainOk_listed hdc2 l [j] h1 (fun k hk o' ho' e he hb => by
                        simp at hk
                        subst hk
                        obtain ⟨_, oj, hoj, hall⟩ := mem_ready.1 hj
                        have : o' = oj := Option.some.inj (ho'.symm.trans hoj)
                        subst this
                        exact hall e he hb) i hy
                      rw [getD_bool hun] at h4
                      cases h4
                · exact ih' _ _ w _ hk (hr'.put _ _) (hkp i o ho _ _ hd) hdc' hok
            | false =>
              rw [hlo] at h
              exact h.elim
        · -- passed over
          cases hfr : Region.free .any ops listed i with
          | false => rw [hfr] at h; exact h.elim
          | true =>
            rw [hfr] at h
            simp only [cond_true] at h
            refine anyH_take (T := fun _ => True) (v := undef) ho hs hfr hrd hdc regQ_panic (fun _ _ _ _ _ _ _ _ _ _ => trivial) (.inr ⟨hw, rfl⟩) trivial ?_
            exact ih' _ _ w _ h (hr'.put o.dst .no) (hkp i o ho _ _ hd) hdc' hok
  | eff l ih =>
    intro listed ok e w a fuel hsub h hr hd hfu hdc hok
    refine ⟨fun hgood => ?_, fun _ fuel' _ i hi => by simp [DWay.heads] at hi⟩
    simp only [DWay.good, Bool.true_and, Bool.and_eq_true] at hgood
    simp only [DWay.depth] at hfu
    simp only [drawX] at h
    cases hc : ((Region.ready .any ops listed).all (fun i => l.heads.contains i) && !(Region.ready .any ops listed).isEmpty) with
    | false => rw [hc] at h; exact h.elim
    | true =>
      rw [hc] at h
      simp only [cond_true] at h
      simp only [Bool.and_eq_true, Bool.not_eq_true'] at hc
      obtain ⟨hall, hne⟩ := hc
      have hpos : 1 ≤ l.depth := by
        cases l with
        | alt i c r m => simp only [DWay.depth]; omega
        | _ => simp [DWay.isAlt] at hgood
      obtain ⟨fuel, rfl⟩ : ∃ f, fuel = f + 1 := ⟨fuel - 1, by omega⟩
      have := (ih listed ok e w a (fuel + 1) hsub h hr hd hfu hdc hok).2 hgood.2 fuel rfl
      refine ⟨fun h0 => (by rw [h0] at hne; simp at hne), fun i hi => this i ?_ hi⟩
      have := List.all_eq_true.1 hall i hi
      simpa using this
  | alt i c r m ihr ihm =>
    intro listed ok e w a fuel hsub h hr hd hfu hdc hok
    refine ⟨fun h0 => by simp [DWay.good] at h0, ?_⟩
    intro hgood fuel' hf j hj hmem
    subst hf
    simp only [DWay.good, Bool.not_false, Bool.true_and, Bool.and_eq_true] at hgood
    simp only [DWay.depth] at hfu
    obtain ⟨hB, hM⟩ := alt_parts h
    have hsubr : ∀ x ∈ r.flat, x ∈ ord0 := fun x hx => hsub x (by simp [DWay.flat, hx])
    have hsubm : ∀ x ∈ m.flat, x ∈ ord0 := fun x hx => hsub x (by simp [DWay.flat, hx])
    simp only [DWay.heads, List.mem_cons] at hj
    by_cases hji : j = i
    · subst hji
      unfold altB at hB
      split at hB
      · exact hB.elim
      · rename_i o ho
        have hdc' := hdc.set hmem
        unfold wpOp
        rw [ho]
        dsimp only
        rcases guard_cases hr hB with ⟨e', hr', h, hw⟩ | ⟨e', hr', h, hw⟩
        · simp only [hw, if_true]
          refine .inl ?_
          cases c with
          | none => exact opX_wpP hr' h (htmp j o ho) fun s w' hk => ⟨fun _ _ => hk.1, (ihr _ ok _ w' _ fuel' hsubr hk.2 (hr'.put _ _) (hkp j o ho _ _ hd) (by omega) hdc' (fun _ => hk.1)).1 hgood.1⟩
          | some l =>
            simp only at h
            cases hch : (chainOk ops [j] l && coversLoads P ops j l) with
            | false => rw [hch] at h; exact h.elim
            | true =>
              rw [hch] at h
              simp only [cond_true] at h
              have hdm : dmOf P ops ord0 j = false := by
                simp only [dmOf, Bool.not_eq_false']
                exact List.any_eq_true.2 ⟨(j, some l), hsub _ (by simp [DWay.flat]), by simp only [Nat.beq_refl, Bool.true_and]; exact hch⟩
              exact opX_wpP hr' h (htmp j o ho) fun s w' hk => ⟨(fun h0 => by rw [hdm] at h0; cases h0), (ihr _ false _ w' _ fuel' hsubr hk (hr'.put _ _) (hkp j o ho _ _ hd) (by omega) hdc' (fun h0 => by cases h0)).1 hgood.1⟩
        · simp only [hw, Bool.false_eq_true, if_false]
          refine ⟨fun _ h0 => h0, (ihr _ _ _ w _ fuel' hsubr h (hr'.put o.dst .no) (hkp j o ho _ _ hd) (by omega) hdc' (fun h0 => hok ?_)).1 hgood.1⟩
          simp only [Bool.and_eq_true] at h0
          exact h0.2
    · have hjm : j ∈ m.heads := hj.resolve_left hji
      have hst : m.isStop = false := by cases m <;> first | rfl | simp [DWay.heads] at hjm
      exact (ihm listed ok e w a (fuel' + 1) hsubm (hM hst) hr hd (by omega) hdc hok).2 hgood.2 fuel' rfl j hjm hmem

end
end Go.Proofs.YtgnmelnohclpgaaDoor
