/- Own framework, part Q: the meaning of a piece of code, and that the machine does just that. -/
import Derived.Test.YtgnmelnohclpgaaDoorSxP
import Derived.LoopIn
set_option linter.unusedVariables false
set_option linter.unusedSimpArgs false
namespace Go.Proofs.YtgnmelnohclpgaaDoor
open Go

/-- what is noted beside a piece of code: a join (written, live), orders, and what is noted beside its parts -/
inductive Ann where
  | o
  | n (live : Option (List Nat × List Nat)) (ord : DWay) (l r : Ann)
def Ann.live : Ann → Option (List Nat × List Nat)
  | .o => none
  | .n j _ _ _ => j
def Ann.ord : Ann → DWay
  | .o => .nil
  | .n _ r _ _ => r
def Ann.l : Ann → Ann
  | .o => .o
  | .n _ _ l _ => l
def Ann.r : Ann → Ann
  | .o => .o
  | .n _ _ _ r => r

structure Drew (w w' : World) : Prop where
  heap : w'.heap = w.heap
  same : Same w w'

def opsX (P : Program) (n : Nat) (ops : Array Oper) : List Oper → Env → World → (Env → World → Prop) → Prop
  | [], e, w, K => K e w
  | o :: l, e, w, K => guardX ops o e (fun e => opX P e o.op w (fun s w' => opsX P n ops l (e.put n o.dst s) w' K)) (fun e => opsX P n ops l (e.put n o.dst .no) w K)

def withJ (n : Nat) (A : Ann) (c : Code) (e : Env) (kn : Env → World → Prop) (F : (Env → World → Prop) → Prop) : Prop := match A.live with
  | none => F kn
  | some (wr, lv) => bif inside (fun i => wr.any (Nat.beq i)) c then joinX (lamE n lv (e.drop wr) kn) (fun J => F (fun e' w' => appE lv J e' w')) else False

def Env.knowO (e : Env) (c : Operand) (t : Bool) : Env := match c with
  | .tmp g => e.know g t
  | _ => e

def plainOps (ops : Array Oper) : Bool := Region.noSelect ops && ops.all fun o => !tmpCall o.op

def csem (P : Program) (n : Nat) (dr : Bool) : Code → Ann → Env → World → (Env → World → Prop) → (Nat → Env → World → Prop) → (Env → World → Prop) → Prop
  | .skip, _, e, w, kn, _, _ => kn e w
  | .region id ops d, A, e, w, kn, _, _ => withJ n A (.region id ops d) e kn fun k =>
      bif d then (bif (dr && plainOps ops && Nat.ble A.ord.depth ops.size && A.ord.good true) then ∀ w', Drew w w' → ∃ S : World → Prop, S w' ∧ drawX P n ops S A.ord (Array.replicate ops.size false) true e w' k else False)
      else opsX P n ops ops.toList e w k
  | .seq a b, A, e, w, kn, kx, kr => csem P n dr a A.l e w (fun e w => csem P n dr b A.r e w kn kx kr) kx kr
  | .cond c a b, A, e, w, kn, kx, kr => withJ n A (.cond c a b) e kn fun k => match ev e c with
      | some (.b t) => bif t then csem P n dr a A.l e w k kx kr else csem P n dr b A.r e w k kx kr
      | some (.v x) => brX x (csem P n dr a A.l (e.knowO c true) w k kx kr) (csem P n dr b A.r (e.knowO c false) w k kx kr)
      | _ => False
  | .block id a, A, e, w, kn, kx, kr => withJ n A (.block id a) e kn fun k => csem P n dr a A.l e w k (fun i e w => bif Nat.beq i id then k e w else kx i e w) kr
  | .loop a, A, e, w, kn, kx, kr => match A.live with
      | some (wr, lv) => bif inside (fun i => wr.any (Nat.beq i)) a then
          ∃ (I : CurL lv) (m : MuL lv), appE lv I e w ∧ allI n lv (e.drop wr) I m (fun e' I' m' => ∀ w', I' w' → csem P n dr a A.l e' w' (fun e'' w'' => appE lv I e'' w'' ∧ lessN (appM lv m e'' w'') (m' w')) kx kr)
        else False
      | none => False
  | .exit id, _, e, w, _, kx, _ => kx id e w
  | .ret, _, e, w, _, _, kr => kr e w
  | _, _, _, _, _, _, _ => False

def endQ (n : Nat) (G : Act → Prop) (kn : Env → World → Prop) (kx : Nat → Env → World → Prop) (kr : Env → World → Prop) : Exit → Act → World → Prop
  | .normal, a, w => ∃ e, Rep n a e ∧ G a ∧ kn e w
  | .exit id, a, w => ∃ e, Rep n a e ∧ G a ∧ kx id e w
  | .ret, a, w => ∃ e, Rep n a e ∧ G a ∧ kr e w
  | _, _, _ => False

theorem endQ_mono {n : Nat} {G G' : Act → Prop} {kn kn' : Env → World → Prop} {kx kx' : Nat → Env → World → Prop} {kr kr' : Env → World → Prop}
    (hn : ∀ e a w, Rep n a e → G a → kn e w → ∃ e', Rep n a e' ∧ G' a ∧ kn' e' w) (hx : ∀ id e a w, Rep n a e → G a → kx id e w → ∃ e', Rep n a e' ∧ G' a ∧ kx' id e' w)
    (hr : ∀ e a w, Rep n a e → G a → kr e w → ∃ e', Rep n a e' ∧ G' a ∧ kr' e' w) : ∀ e a w, endQ n G kn kx kr e a w → endQ n G' kn' kx' kr' e a w := by
  intro e a w h
  cases e with
  | normal => obtain ⟨e, h1, h2, h3⟩ := h; exact hn e a w h1 h2 h3
  | exit id => obtain ⟨e, h1, h2, h3⟩ := h; exact hx id e a w h1 h2 h3
  | ret => obtain ⟨e, h1, h2, h3⟩ := h; exact hr e a w h1 h2 h3
  | goto => exact h
  | panic => exact h
  | outgrown => exact h

theorem Rep.knowO {n : Nat} {a : Act} {e : Env} {c : Operand} {t : Bool} (hr : Rep n a e) (hg : ev e c = some (.v (.bool t))) : Rep n a (e.knowO c t) := by
  cases c with
  | tmp g => exact hr.know hg
  | _ => exact hr

section
variable {P : Program} {rd : Option Nat} {m n : Nat}

theorem opsX_sound {ops : Array Oper} {Q : Exit → Act → World → Prop} {G : Act → Prop} {K : Env → World → Prop} (hQ : ∀ e a w, Rep n a e → G a → K e w → Q .normal a w) :
    ∀ (l : List Oper), (∀ o ∈ l, ∀ a v, G a → G (a.put o.dst v)) → ∀ (e : Env) (w : World) (a : Act), opsX P n ops l e w K → Rep n a e → G a → wpListIn (Fr rd) m P ops Q l a w
  | [], _, e, w, a, h, hr, hg => hQ e a w hr hg h
  | o :: l, hG, e, w, a, h, hr, hg => by
    simp only [opsX] at h
    unfold wpListIn
    rcases guard_cases hr h with ⟨e', hr', h, hw⟩ | ⟨e', hr', h, hw⟩
    · rw [if_pos hw]
      exact opX_wp hr' h fun s w' hk => opsX_sound hQ l (fun o ho => hG o (by simp [ho])) _ w' _ hk (hr'.put _ _) (hG o (by simp) _ _ hg)
    · rw [if_neg (by rw [hw]; simp)]
      exact ⟨fun _ _ => trivial, opsX_sound hQ l (fun o ho => hG o (by simp [ho])) _ w _ h (hr'.put o.dst .no) (hG o (by simp) _ _ hg)⟩

theorem draw_sound {id : Nat} {ops : Array Oper} {G : Act → Prop} {K : Env → World → Prop} {ord : DWay} {S : World → Prop} {e : Env} {w w' : World} {a : Act} (hm : P.follows .mixedOrders = true)
    (hp : plainOps ops = true) (hkp : ∀ (i : Nat) (o : Oper), ops[i]? = some o → ∀ a v, G a → G (a.put o.dst v)) (hw' : w' = { w with drawn := w.drawn + 1 }) (hS : S w') (hlen : ord.depth ≤ ops.size) (hgood : ord.good true = true)
    (h : drawX P n ops S ord (Array.replicate ops.size false) true e w' K) (hr : Rep n a e) (hg : G a) : (Code.region id ops true).wp P (regQ n G K) a w := by
  simp only [plainOps, Bool.and_eq_true] at hp
  refine wp_region_any hm ?_
  rw [← hw']
  refine wpAny_of_anyH _ _ _ _ ((drawX_sound (ord0 := ord.flat) hp.1 (fun i o ho => ?_) hkp ord _ true e w' a ops.size (fun _ h => h) h hr hg hlen ?_ (fun _ => hS)).1 hgood)
  · have := Array.all_eq_true.1 hp.2 i (Array.getElem?_eq_some_iff.1 ho).1
    rw [(Array.getElem?_eq_some_iff.1 ho).2] at this
    simpa using this
  · intro j oj hj hl
    exfalso
    have hlt : j < ops.size := (Array.getElem?_eq_some_iff.1 hj).1
    simp [hlt] at hl


theorem withJ_sound {c : Code} {A : Ann} {e : Env} {w : World} {a : Act} {p : Nat → Bool} {kn : Env → World → Prop} {kx : Nat → Env → World → Prop} {kr : Env → World → Prop} {F : (Env → World → Prop) → Prop} {C : Code}
    (hC : ∀ (q : Nat → Bool) (k : Env → World → Prop), inside q c = true → F k → C.wpIn (Fr rd) m P (endQ n (Keep q a) k kx kr) a w)
    (hp : inside p c = true) (hr : Rep n a e) (h : withJ n A c e kn F) : C.wpIn (Fr rd) m P (endQ n (Keep p a) kn kx kr) a w := by
  unfold withJ at h
  split at h
  · exact hC p kn hp h
  · rename_i wr lv hA
    cases hi : inside (fun i => wr.any (Nat.beq i)) c with
    | false => rw [hi] at h; exact h.elim
    | true =>
      rw [hi] at h
      simp only [cond_true, joinX] at h
      refine wpIn_mono (hC _ _ (inside_and hp hi) h) (endQ_mono ?_ ?_ ?_)
      · intro e' a' w' hr' hk h'
        have hk1 := hk.wide (q := p) (by intro t ht; simp at ht; exact ht.1)
        have hk2 := hk.wide (q := fun i => wr.any (Nat.beq i)) (by intro t ht; simp at ht; simpa using ht.2)
        obtain ⟨e'', h1, h2⟩ := appE_lamE hr' lv _ (hr.keep hk2 hr'.1) h'
        exact ⟨e'', h1, hk1, h2⟩
      · exact fun id e' a' w' hr' hk h' => ⟨e', hr', hk.wide (q := p) (by intro t ht; simp at ht; exact ht.1), h'⟩
      · exact fun e' a' w' hr' hk h' => ⟨e', hr', hk.wide (q := p) (by intro t ht; simp at ht; exact ht.1), h'⟩

theorem csem_sound (hm : P.follows .mixedOrders = true) {dr : Bool} (hdr : dr = true → rd = none) : ∀ (c : Code) (A : Ann) (e : Env) (w : World) (a : Act) (p : Nat → Bool) (kn : Env → World → Prop) (kx : Nat → Env → World → Prop) (kr : Env → World → Prop),
    inside p c = true → csem P n dr c A e w kn kx kr → Rep n a e → c.wpIn (Fr rd) m P (endQ n (Keep p a) kn kx kr) a w := by
  intro c
  induction c with
  | skip => exact fun A e w a p kn kx kr hp h hr => wpIn_skip ⟨e, hr, Keep.refl a, h⟩
  | region id ops d =>
    intro A e w a p kn kx kr hp h hr
    simp only [csem] at h
    refine withJ_sound (F := _) (fun q k hq h => ?_) hp hr h
    have hq' : ∀ o ∈ ops.toList, ∀ a' v, Keep q a a' → Keep q a (a'.put o.dst v) := by
      rw [inside] at hq
      exact fun o ho a' v hk => hk.put (insideOps_mem hq o ho) v
    cases d with
    | false =>
      simp only [cond_false] at h
      exact wpIn_region_list (opsX_sound (K := k) (G := Keep q a) (fun e a w hr hg hk => ⟨e, hr, hg, hk⟩) ops.toList hq' e w a h hr (Keep.refl a))
    | true =>
      simp only [cond_true] at h
      cases hc : (dr && plainOps ops && Nat.ble A.ord.depth ops.size && A.ord.good true) with
      | false => rw [hc] at h; exact h.elim
      | true =>
        rw [hc] at h
        simp only [Bool.and_eq_true] at hc
        have hrd := hdr hc.1.1.1
        subst hrd
        have hF : Fr none = Fence.wide := rfl
        rw [hF, wpIn_wide]
        obtain ⟨S, hS, h⟩ := h { w with drawn := w.drawn + 1 } ⟨rfl, ⟨rfl, rfl, rfl⟩⟩
        refine wp_mono (draw_sound (G := Keep q a) (K := k) hm hc.1.1.2 (fun i o ho => hq' o (Array.mem_toList_iff.2 (Array.mem_of_getElem? ho))) rfl hS (by simpa [Nat.ble_eq] using hc.1.2) hc.2 h hr (Keep.refl a)) ?_
        intro ex a' w' hx
        cases ex with
        | normal => exact hx
        | _ => exact hx.elim
  | seq x y ihx ihy =>
    intro A e w a p kn kx kr hp h hr
    simp only [csem] at h
    simp only [inside] at hp
    cases h1 : inside p x with
    | false => rw [h1] at hp; simp at hp
    | true =>
      rw [h1] at hp
      simp only [cond_true] at hp
      refine wpIn_seq (wpIn_mono (ihx _ e w a p _ kx kr h1 h hr) ?_)
      intro ex a' w' hx
      cases ex with
      | normal =>
        obtain ⟨e', hr', hk, h'⟩ := hx
        refine wpIn_mono (ihy _ e' w' a' p kn kx kr hp h' hr') (endQ_mono ?_ ?_ ?_)
        · exact fun e2 a2 w2 h1 h2 h3 => ⟨e2, h1, hk.trans h2, h3⟩
        · exact fun _ e2 a2 w2 h1 h2 h3 => ⟨e2, h1, hk.trans h2, h3⟩
        · exact fun e2 a2 w2 h1 h2 h3 => ⟨e2, h1, hk.trans h2, h3⟩
      | exit id => exact hx
      | goto l => exact hx.elim
      | ret => exact hx
      | panic => exact hx.elim
      | outgrown => exact hx.elim
  | cond c x y ihx ihy =>
    intro A e w a p kn kx kr hp h hr
    simp only [csem] at h
    refine withJ_sound (F := _) (fun q k hq h => ?_) hp hr h
    simp only [inside] at hq
    cases h1 : inside q x with
    | false => rw [h1] at hq; simp at hq
    | true =>
      rw [h1] at hq
      simp only [cond_true] at hq
      split at h
      · rename_i t ht
        have hc := ev_eval hr ht
        cases t with
        | true => exact wpIn_cond_true hc (ihx _ e w a q k kx kr h1 h hr)
        | false => exact wpIn_cond_false hc (ihy _ e w a q k kx kr hq h hr)
      · rename_i v hv
        have hc := ev_eval hr hv
        unfold brX at h
        split at h
        · rename_i t
          refine wpIn_cond_split (t := t) hc (fun ht => ?_) (fun ht => ?_)
          · subst ht; exact ihx _ _ w a q k kx kr h1 (h.1 rfl) (hr.knowO hv)
          · subst ht; exact ihy _ _ w a q k kx kr hq (h.2 rfl) (hr.knowO hv)
        · exact h.elim
      · exact h.elim
  | block id x ih =>
    intro A e w a p kn kx kr hp h hr
    simp only [csem] at h
    refine withJ_sound (F := _) (fun q k hq h => ?_) hp hr h
    rw [inside] at hq
    refine wpIn_block (wpIn_mono (ih _ e w a q k _ kr hq h hr) ?_)
    intro ex a' w' hx
    cases ex with
    | normal => exact hx
    | exit i =>
      obtain ⟨e', hr', hk, h'⟩ := hx
      show if i = id then _ else _
      cases hb : Nat.beq i id with
      | true =>
        rw [hb] at h'
        rw [if_pos (Nat.eq_of_beq_eq_true hb)]
        exact ⟨e', hr', hk, h'⟩
      | false =>
        rw [hb] at h'
        rw [if_neg (fun hh => by subst hh; rw [Nat.beq_refl] at hb; cases hb)]
        exact ⟨e', hr', hk, h'⟩
    | goto l => exact hx.elim
    | ret => exact hx
    | panic => exact hx.elim
    | outgrown => exact hx.elim
  | loop x ih =>
    intro A e w a p kn kx kr hp h hr
    rw [inside] at hp
    simp only [csem] at h
    split at h
    · rename_i wr lv hA
      cases hi : inside (fun i => wr.any (Nat.beq i)) x with
      | false => rw [hi] at h; exact h.elim
      | true =>
        rw [hi] at h
        simp only [cond_true] at h
        obtain ⟨I, μ, h0, hround⟩ := h
        have hpi := inside_and hp hi
        refine wpIn_loop (fun a' w' => a'.tmps.size = n ∧ Keep (fun t => p t && wr.any (Nat.beq t)) a a' ∧ appE lv I (full a') w') (fun a' w' => appM lv μ (full a') w') ⟨hr.1, Keep.refl a, appE_full hr lv I h0⟩ ?_
        rintro a' w' ⟨hn, hk, hI⟩
        have hk1 := hk.wide (q := p) (by intro t ht; simp at ht; exact ht.1)
        have hk2 := hk.wide (q := fun i => wr.any (Nat.beq i)) (by intro t ht; simp at ht; simpa using ht.2)
        obtain ⟨e', I', m', hr', hf, hIm⟩ := allI_use hn lv _ I μ (hr.keep hk2 hn) hround
        obtain ⟨hI1, hm1⟩ := hIm w'
        refine wpIn_mono (ih _ e' w' a' _ _ kx kr hpi (hf w' (hI1 hI)) hr') ?_
        intro ex a2 w2 hx
        cases ex with
        | normal =>
          obtain ⟨e2, hr2, hk3, hI2, hlt⟩ := hx
          refine ⟨⟨hr2.1, hk.trans hk3, appE_full hr2 lv I hI2⟩, ?_⟩
          rw [hm1, ← appE_all hr2 lv I hI2]
          exact hlt
        | exit id => obtain ⟨e2, h1, h2, h3⟩ := hx; exact ⟨e2, h1, (hk.trans h2).wide (by intro t ht; simp at ht; exact ht.1), h3⟩
        | ret => obtain ⟨e2, h1, h2, h3⟩ := hx; exact ⟨e2, h1, (hk.trans h2).wide (by intro t ht; simp at ht; exact ht.1), h3⟩
        | goto l => exact hx.elim
        | panic => exact hx.elim
        | outgrown => exact hx.elim
    · exact h.elim
  | exit id => exact fun A e w a p kn kx kr hp h hr => wpIn_exit ⟨e, hr, Keep.refl a, h⟩
  | ret => exact fun A e w a p kn kx kr hp h hr => wpIn_ret ⟨e, hr, Keep.refl a, h⟩
  | rangeFunc => intro A e w a p kn kx kr hp h; simp [csem] at h
  | scope => intro A e w a p kn kx kr hp h; simp [csem] at h
  | label => intro A e w a p kn kx kr hp h; simp [csem] at h
  | goto => intro A e w a p kn kx kr hp h; simp [csem] at h
  | refuse => intro A e w a p kn kx kr hp h; simp [csem] at h

end
end Go.Proofs.YtgnmelnohclpgaaDoor
