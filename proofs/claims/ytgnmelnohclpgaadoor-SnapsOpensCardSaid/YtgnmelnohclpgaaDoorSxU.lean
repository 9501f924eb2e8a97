/- Own framework, part U: what is known of a world on the way: pieces of memory that lie apart; steps that are found by themselves. -/
import Derived.Test.YtgnmelnohclpgaaDoorSxS
import Derived.Below
import Derived.Laws.BitsLemmas
import Derived.Laws.Bits64
set_option linter.unusedVariables false
set_option linter.unusedSimpArgs false
namespace Go.Proofs.YtgnmelnohclpgaaDoor
open Go Go.RowKit

/-! ### Worlds that go on -/
structure Ext (w w' : World) : Prop where
  size : w.heap.size ≤ w'.heap.size
  old : ∀ r, r < w.heap.size → w'.heap[r]? = w.heap[r]?
  same : Same w w'
theorem Same.refl (w : World) : Same w w := ⟨rfl, rfl, rfl⟩
theorem Same.trans {a b c : World} (h : Same a b) (k : Same b c) : Same a c := ⟨k.os.trans h.os, k.tape.trans h.tape, k.output.trans h.output⟩
theorem Ext.refl (w : World) : Ext w w := ⟨Nat.le_refl _, fun _ _ => rfl, Same.refl w⟩
theorem Ext.trans {a b c : World} (h : Ext a b) (k : Ext b c) : Ext a c := ⟨Nat.le_trans h.size k.size, fun r hr => (k.old r (Nat.lt_of_lt_of_le hr h.size)).trans (h.old r hr), h.same.trans k.same⟩
theorem Ext.get {w w' : World} (h : Ext w w') {b : Nat} {o : Obj} (hb : w.heap[b]? = some o) : w'.heap[b]? = some o := (h.old b (Array.getElem?_eq_some_iff.1 hb).1).trans hb
theorem Ext.below {w w' : World} (h : Ext w w') : Below w.heap.size w w' := ⟨h.same.os, h.same.tape, h.same.output, h.size, h.old⟩
theorem Drew.ext {w w' : World} (h : Drew w w') : Ext w w' := ⟨by rw [h.heap]; exact Nat.le_refl _, fun r _ => by rw [h.heap], h.same⟩
theorem New.ext {w w' : World} {b : Nat} {o : Obj} (h : New w w' b o) : Ext w w' := ⟨by rw [h.size]; omega, h.old, h.same⟩
theorem Ext.cell {w w' : World} (h : Ext w w') {a : Addr} {v : Value} (ha : w.cell? a = some v) : w'.cell? a = some v := by
  unfold World.cell? at ha ⊢
  have hlt : a.block < w.heap.size := by
    apply Nat.lt_of_not_le
    intro hle
    rw [Array.getElem?_eq_none hle] at ha
    simp at ha
  rw [h.old _ hlt]
  exact ha

/-! ### Pieces of memory -/
/-- a piece of memory: what is so of the world, which blocks it takes for that, and which of them are its own -/
structure Item where
  P : World → List Nat → List Nat → Prop
  loc : ∀ {w w' : World} {fp o : List Nat}, P w fp o → (∀ r, r ∈ fp → w'.heap[r]? = w.heap[r]?) → P w' fp o
  lt : ∀ {w : World} {fp o : List Nat}, P w fp o → ∀ r, r ∈ fp → r < w.heap.size
  sub : ∀ {w : World} {fp o : List Nat}, P w fp o → ∀ r, r ∈ o → r ∈ fp
def blkP (own : Bool) (b : Nat) (ob : Obj) (w : World) (fp o : List Nat) : Prop := fp = [b] ∧ o = (bif own then [b] else []) ∧ w.heap[b]? = some ob
theorem blk_loc {own : Bool} {b : Nat} {ob : Obj} {w w' : World} {fp o : List Nat} (h : blkP own b ob w fp o) (hs : ∀ r, r ∈ fp → w'.heap[r]? = w.heap[r]?) : blkP own b ob w' fp o := by
  obtain ⟨rfl, rfl, h⟩ := h
  exact ⟨rfl, rfl, (hs b (by simp)).trans h⟩
theorem blk_lt {own : Bool} {b : Nat} {ob : Obj} {w : World} {fp o : List Nat} (h : blkP own b ob w fp o) (r : Nat) (hr : r ∈ fp) : r < w.heap.size := by
  obtain ⟨rfl, rfl, h⟩ := h
  obtain rfl : r = b := by simpa using hr
  exact (Array.getElem?_eq_some_iff.1 h).1
theorem blk_sub {own : Bool} {b : Nat} {ob : Obj} {w : World} {fp o : List Nat} (h : blkP own b ob w fp o) (r : Nat) (hr : r ∈ o) : r ∈ fp := by
  obtain ⟨rfl, rfl, h⟩ := h
  cases own <;> simp at hr ⊢
  exact hr
/-- a block of one's own -/
def blk (b : Nat) (o : Obj) : Item := ⟨blkP true b o, blk_loc, blk_lt, blk_sub⟩
/-- a block that is read alone -/
def rdo (b : Nat) (o : Obj) : Item := ⟨blkP false b o, blk_loc, blk_lt, blk_sub⟩

/-- pieces that lie apart (what is read alone may be shared): all their blocks, and those of one's own -/
inductive Hold (w : World) : List Item → List Nat → List Nat → Prop where
  | nil : Hold w [] [] []
  | cons {I : Item} {l : List Item} {fp o F O : List Nat} : I.P w fp o → Hold w l F O → (∀ r, r ∈ o → r ∉ F) → (∀ r, r ∈ fp → r ∉ O) → Hold w (I :: l) (fp ++ F) (o ++ O)
theorem Hold.loc {w w' : World} {l : List Item} {F O : List Nat} (h : Hold w l F O) (hs : ∀ r, r ∈ F → w'.heap[r]? = w.heap[r]?) : Hold w' l F O := by
  induction h with
  | nil => exact .nil
  | cons h1 h2 h3 h4 ih => exact .cons (Item.loc _ h1 fun r hr => hs r (by simp [hr])) (ih fun r hr => hs r (by simp [hr])) h3 h4
theorem Hold.lt {w : World} {l : List Item} {F O : List Nat} (h : Hold w l F O) : ∀ r, r ∈ F → r < w.heap.size := by
  induction h with
  | nil => simp
  | cons h1 h2 h3 h4 ih =>
    intro r hr
    rcases List.mem_append.1 hr with hr | hr
    · exact Item.lt _ h1 r hr
    · exact ih r hr
theorem Hold.sub {w : World} {l : List Item} {F O : List Nat} (h : Hold w l F O) : ∀ r, r ∈ O → r ∈ F := by
  induction h with
  | nil => simp
  | cons h1 h2 h3 h4 ih =>
    intro r hr
    rcases List.mem_append.1 hr with hr | hr
    · simp [Item.sub _ h1 r hr]
    · simp [ih r hr]
theorem Hold.perm {w : World} {l l' : List Item} (p : l.Perm l') : ∀ {F O : List Nat}, Hold w l F O → ∃ F' O', Hold w l' F' O' ∧ (∀ r, r ∈ F' ↔ r ∈ F) ∧ (∀ r, r ∈ O' ↔ r ∈ O) := by
  induction p with
  | nil => intro F O h; exact ⟨F, O, h, fun _ => Iff.rfl, fun _ => Iff.rfl⟩
  | cons x p ih =>
    intro F O h
    cases h with
    | cons h1 h2 h3 h4 =>
      obtain ⟨F', O', h', e1, e2⟩ := ih h2
      exact ⟨_, _, .cons h1 h' (fun r hr hf => h3 r hr ((e1 r).1 hf)) (fun r hr hf => h4 r hr ((e2 r).1 hf)), fun r => by simp [e1], fun r => by simp [e2]⟩
  | swap x y l =>
    intro F O h
    cases h with
    | cons h1 h2 h3 h4 =>
      cases h2 with
      | cons k1 k2 k3 k4 =>
        refine ⟨_, _, .cons k1 (.cons h1 k2 (fun r hr hf => h3 r hr (by simp [hf])) (fun r hr hf => h4 r hr (by simp [hf]))) ?_ ?_, fun r => ?_, fun r => ?_⟩
        · intro r hr hf
          rcases List.mem_append.1 hf with hf | hf
          · exact h4 r hf (by simp [hr])
          · exact k3 r hr hf
        · intro r hr hf
          rcases List.mem_append.1 hf with hf | hf
          · exact h3 r hf (by simp [hr])
          · exact k4 r hr hf
        · simp only [List.mem_append]; exact ⟨fun h => by rcases h with h | h | h <;> simp [h], fun h => by rcases h with h | h | h <;> simp [h]⟩
        · simp only [List.mem_append]; exact ⟨fun h => by rcases h with h | h | h <;> simp [h], fun h => by rcases h with h | h | h <;> simp [h]⟩
  | trans p q ih1 ih2 =>
    intro F O h
    obtain ⟨F', O', h', e1, e2⟩ := ih1 h
    obtain ⟨F2, O2, h2, e3, e4⟩ := ih2 h'
    exact ⟨F2, O2, h2, fun r => (e3 r).trans (e1 r), fun r => (e4 r).trans (e2 r)⟩
/-- what is held against every order of a region's operations -/
def Has (l : List Item) (w : World) : Prop := ∃ F O, Hold w l F O
theorem Has.get {l : List Item} {w : World} (h : Has l w) {I : Item} (hm : I ∈ l) : ∃ fp o, I.P w fp o := by
  obtain ⟨F, O, h⟩ := h
  induction h with
  | nil => simp at hm
  | cons h1 h2 h3 h4 ih =>
    rcases List.mem_cons.1 hm with rfl | hm
    · exact ⟨_, _, h1⟩
    · exact ih hm
theorem Has.tail {x : Item} {l : List Item} {w : World} (h : Has (x :: l) w) : Has l w := by
  obtain ⟨F, O, h⟩ := h
  cases h with
  | cons k1 k2 k3 k4 => exact ⟨_, _, k2⟩

/-- what is known of a world on the way: M: blocks that were there and may be another one now -/
class St (M : outParam (List Nat)) (w0 : outParam World) (w : World) (l : outParam (List Item)) : Prop where
  size : w0.heap.size ≤ w.heap.size
  old : ∀ r, r < w0.heap.size → r ∉ M → w.heap[r]? = w0.heap[r]?
  same : Same w0 w
  has : ∃ F O, Hold w l F O ∧ ∀ r, r ∈ O → r ∈ M ∨ w0.heap.size ≤ r

section
variable {M : List Nat} {w0 w : World} {l : List Item}

theorem St.begin (w : World) : St [] w w [] := ⟨Nat.le_refl _, fun _ _ _ => rfl, Same.refl w, [], [], .nil, by simp⟩
theorem St.beginM (M : List Nat) (w : World) : St M w w [] := ⟨Nat.le_refl _, fun _ _ _ => rfl, Same.refl w, [], [], .nil, by simp⟩
theorem St.hs (S : St M w0 w l) : Has l w := by obtain ⟨F, O, h, _⟩ := S.has; exact ⟨F, O, h⟩
theorem St.ext {w' : World} (S : St M w0 w l) (h : Ext w w') : St M w0 w' l := by
  obtain ⟨F, O, h1, h2⟩ := S.has
  exact ⟨Nat.le_trans S.size h.size, fun r hr hM => (h.old r (Nat.lt_of_lt_of_le hr S.size)).trans (S.old r hr hM), S.same.trans h.same, F, O, h1.loc fun r hr => h.old r (h1.lt r hr), h2⟩
theorem St.toExt (S : St [] w0 w l) : Ext w0 w := ⟨S.size, fun r hr => S.old r hr (by simp), S.same⟩
theorem St.perm {l' : List Item} (S : St M w0 w l) (p : l.Perm l') : St M w0 w l' := by
  obtain ⟨F, O, h1, h2⟩ := S.has
  obtain ⟨F', O', h', e1, e2⟩ := h1.perm p
  exact ⟨S.size, S.old, S.same, F', O', h', fun r hr => h2 r ((e2 r).1 hr)⟩
theorem St.drop {x : Item} (S : St M w0 w (x :: l)) : St M w0 w l := by
  obtain ⟨F, O, h1, h2⟩ := S.has
  cases h1 with
  | cons k1 k2 k3 k4 => exact ⟨S.size, S.old, S.same, _, _, k2, fun r hr => h2 r (by simp [hr])⟩
/-- what is known of blocks that nobody writes -/
theorem St.kn {I : Item} {fp : List Nat} (S : St M w0 w l) (h : I.P w0 fp []) (hM : ∀ r, r ∈ fp → r ∉ M) : St M w0 w (I :: l) := by
  obtain ⟨F, O, h1, h2⟩ := S.has
  have hlt := Item.lt _ h
  refine ⟨S.size, S.old, S.same, _, _, .cons (Item.loc _ h fun r hr => S.old r (hlt r hr) (hM r hr)) h1 (by simp) ?_, by simpa using h2⟩
  intro r hr hO
  rcases h2 r hO with h | h
  · exact hM r hr h
  · have := hlt r hr
    omega
theorem St.know (S : St [] w0 w l) {b : Nat} {o : Obj} (h : w0.heap[b]? = some o) : St [] w0 w (rdo b o :: l) := S.kn (I := rdo b o) ⟨rfl, rfl, h⟩ (by simp)
theorem St.knowM (S : St M w0 w l) {b : Nat} {o : Obj} (h : w.heap[b]? = some o) (hM : b ∈ M) (hb : ∀ F O, Hold w l F O → b ∉ F) : St M w0 w (blk b o :: l) := by
  obtain ⟨F, O, h1, h2⟩ := S.has
  refine ⟨S.size, S.old, S.same, _, _, .cons (I := blk b o) ⟨rfl, rfl, h⟩ h1 (by simpa using hb F O h1) (by simpa using fun hO => hb F O h1 (h1.sub b hO)), ?_⟩
  intro r hr
  rcases List.mem_append.1 hr with hr | hr
  · obtain rfl : r = b := by simpa using hr
    exact .inl hM
  · exact h2 r hr
theorem notin_nil {w : World} {b : Nat} : ∀ F O, Hold w [] F O → b ∉ F := by
  intro F O h
  cases h
  simp
theorem notin_blk {w : World} {b b' : Nat} {o : Obj} (hne : b ≠ b') (h : ∀ F O, Hold w l F O → b ∉ F) : ∀ F O, Hold w (blk b' o :: l) F O → b ∉ F := by
  intro F O hh
  cases hh with
  | cons k1 k2 k3 k4 =>
    obtain ⟨rfl, _⟩ := k1
    simp only [List.mem_append, List.mem_singleton, not_or]
    exact ⟨hne, h _ _ k2⟩
theorem St.newI {w' : World} {I : Item} {fp o : List Nat} (S : St M w0 w l) (hs : w.heap.size ≤ w'.heap.size) (ho : ∀ r, r < w.heap.size → w'.heap[r]? = w.heap[r]?) (hsm : Same w w') (h : I.P w' fp o) (hn : ∀ r, r ∈ fp → w.heap.size ≤ r) : St M w0 w' (I :: l) := by
  obtain ⟨F, O, h1, h2⟩ := S.has
  refine ⟨Nat.le_trans S.size hs, fun r hr hM => (ho r (Nat.lt_of_lt_of_le hr S.size)).trans (S.old r hr hM), S.same.trans hsm, _, _, .cons h (h1.loc fun r hr => ho r (h1.lt r hr)) ?_ ?_, ?_⟩
  · intro r hr hf
    have := h1.lt r hf
    have := hn r (Item.sub _ h r hr)
    omega
  · intro r hr hf
    have := h1.lt r (h1.sub r hf)
    have := hn r hr
    omega
  · intro r hr
    rcases List.mem_append.1 hr with hr | hr
    · exact .inr (Nat.le_trans S.size (hn r (Item.sub _ h r hr)))
    · exact h2 r hr
theorem St.newB {w' : World} {b : Nat} {o : Obj} (S : St M w0 w l) (h : New w w' b o) : St M w0 w' (blk b o :: l) :=
  S.newI (by rw [h.size]; omega) h.old h.same (I := blk b o) ⟨rfl, rfl, h.obj⟩ (fun r hr => by rw [List.mem_singleton.1 hr, h.isNew]; exact Nat.le_refl _)
theorem St.get (S : St M w0 w l) {b : Nat} {o : Obj} (h : blk b o ∈ l) : w.heap[b]? = some o := by
  obtain ⟨fp, _, hp⟩ := S.hs.get h
  exact hp.2.2
theorem Hold.mem {w : World} {l : List Item} {F O : List Nat} (h : Hold w l F O) {I : Item} (hm : I ∈ l) : ∃ fp o, I.P w fp o ∧ ∀ r, r ∈ o → r ∈ O := by
  induction h with
  | nil => simp at hm
  | cons h1 h2 h3 h4 ih =>
    rcases List.mem_cons.1 hm with rfl | hm
    · exact ⟨_, _, h1, fun r hr => by simp [hr]⟩
    · obtain ⟨fp, o, k1, k2⟩ := ih hm
      exact ⟨fp, o, k1, fun r hr => by simp [k2 r hr]⟩
theorem St.fresh {b : Nat} {o : Obj} (S : St [] w0 w l) (hm : blk b o ∈ l) : w0.heap.size ≤ b := by
  obtain ⟨F, O, h1, h2⟩ := S.has
  obtain ⟨fp, oo, ⟨rfl, rfl, _⟩, k2⟩ := h1.mem hm
  simpa using h2 b (k2 b (by simp))

/-! ### Finding pieces -/
/-- a block that is known -/
class InL (b : Nat) (o : outParam Obj) (l : List Item) : Prop where
  get : ∀ w, Has l w → w.heap[b]? = some o
instance (priority := high) {b : Nat} {o : Obj} {l : List Item} : InL b o (blk b o :: l) := ⟨fun w h => by obtain ⟨fp, _, hp⟩ := h.get (I := blk b o) (by simp); exact hp.2.2⟩
instance (priority := high) {b : Nat} {o : Obj} {l : List Item} : InL b o (rdo b o :: l) := ⟨fun w h => by obtain ⟨fp, _, hp⟩ := h.get (I := rdo b o) (by simp); exact hp.2.2⟩
instance {b : Nat} {o : Obj} {x : Item} {l : List Item} [h : InL b o l] : InL b o (x :: l) := ⟨fun w hh => h.get w hh.tail⟩
/-- a piece that is there -/
class InI {α : Type} (mk : α → Item) (x : outParam α) (l : List Item) : Prop where
  mem : mk x ∈ l
instance (priority := high) {α : Type} {mk : α → Item} {x : α} {l : List Item} : InI mk x (mk x :: l) := ⟨by simp⟩
instance {α : Type} {mk : α → Item} {x : α} {y : Item} {l : List Item} [h : InI mk x l] : InI mk x (y :: l) := ⟨by simp [h.mem]⟩
/-- a piece is another one -/
class Rp {α : Type} (mk : α → Item) (x : outParam α) (J : Item) (l : List Item) (l' R : outParam (List Item)) : Prop where
  p1 : l.Perm (mk x :: R)
  p2 : l'.Perm (J :: R)
instance (priority := high) {α : Type} {mk : α → Item} {x : α} {J : Item} {l : List Item} : Rp mk x J (mk x :: l) (J :: l) l := ⟨.refl _, .refl _⟩
instance {α : Type} {mk : α → Item} {x : α} {J y : Item} {l l' R : List Item} [h : Rp mk x J l l' R] : Rp mk x J (y :: l) (y :: l') (y :: R) :=
  ⟨(h.p1.cons y).trans (.swap _ _ _), (h.p2.cons y).trans (.swap _ _ _)⟩
/-- a piece is taken out -/
class Pk {α : Type} (mk : α → Item) (x : outParam α) (l : List Item) (R : outParam (List Item)) : Prop where
  p : l.Perm (mk x :: R)
instance (priority := high) {α : Type} {mk : α → Item} {x : α} {l : List Item} : Pk mk x (mk x :: l) l := ⟨.refl _⟩
instance {α : Type} {mk : α → Item} {x : α} {y : Item} {l R : List Item} [h : Pk mk x l R] : Pk mk x (y :: l) (y :: R) := ⟨(h.p.cons y).trans (.swap _ _ _)⟩
class PkI (I : Item) (l : List Item) (R : outParam (List Item)) : Prop where
  p : l.Perm (I :: R)
instance (priority := high) {I : Item} {l : List Item} : PkI I (I :: l) l := ⟨.refl _⟩
instance {I y : Item} {l R : List Item} [h : PkI I l R] : PkI I (y :: l) (y :: R) := ⟨(h.p.cons y).trans (.swap _ _ _)⟩
/-- some pieces out of all -/
class SubL (l l' : List Item) : Prop where
  p : ∃ R, l'.Perm (l ++ R)
instance (priority := high) {l : List Item} : SubL l l := ⟨[], by simp⟩
instance : SubL [] l := ⟨l, by simp⟩
instance {I : Item} {l l' R : List Item} [h1 : PkI I l' R] [h2 : SubL l R] : SubL (I :: l) l' := by
  obtain ⟨R', p⟩ := h2.p
  exact ⟨R', h1.p.trans (p.cons I)⟩
instance (priority := low) {x : Item} {l l' : List Item} [h : SubL l l'] : SubL l (x :: l') := by
  obtain ⟨R, p⟩ := h.p
  exact ⟨x :: R, (p.cons x).trans List.perm_middle.symm⟩
theorem St.dropR {R : List Item} (S : St M w0 w (R ++ l)) : St M w0 w l := by
  induction R with
  | nil => exact S
  | cons x R ih => exact ih S.drop
theorem St.sub {l' : List Item} (S : St M w0 w l') (h : SubL l l') : St M w0 w l := by
  obtain ⟨R, p⟩ := h.p
  exact (S.perm (p.trans List.perm_append_comm)).dropR
theorem Has.sub {l' : List Item} (S : Has l' w) (h : SubL l l') : Has l w := by
  obtain ⟨F, O, hh⟩ := S
  have S' : St F w w l' := ⟨Nat.le_refl _, fun _ _ _ => rfl, Same.refl w, F, O, hh, fun r hr => .inl (hh.sub r hr)⟩
  exact (S'.sub h).hs
theorem St.put {b : Nat} {o o' : Obj} {w' : World} {l' R : List Item} (S : St M w0 w l) [h : Rp (blk b) o (blk b o') l l' R] (hs : Sto w w' b o') : St M w0 w' l' := by
  obtain ⟨F, O, h1, h2⟩ := (S.perm h.p1).has
  cases h1 with
  | cons k1 k2 k3 k4 =>
    obtain ⟨rfl, rfl, hb⟩ := k1
    have hbo := h2 b (by simp)
    have T : St M w0 w' (blk b o' :: R) := by
      refine ⟨by rw [hs.size]; exact S.size, fun r hr hM => (hs.old r ?_).trans (S.old r hr hM), S.same.trans hs.same, _, _, .cons (I := blk b o') ⟨rfl, rfl, hs.obj⟩ (k2.loc fun r hr => hs.old r ?_) k3 k4, h2⟩
      · rintro rfl
        rcases hbo with h | h
        · exact hM h
        · omega
      · rintro rfl
        exact k3 r (by simp) hr
    exact T.perm h.p2.symm
theorem St.entered {w' : World} {y : Nat} {o : Obj} (S : St M w0 w l) (h : Entered w w' y o) : St M w0 w' (blk y o :: blk (y - 1) (.deferred (some [])) :: l) := by
  have hy := h.isAt
  obtain ⟨F, O, h1, h2⟩ := S.has
  have hF : ∀ r, w.heap.size ≤ r → r ∉ F := fun r hr hf => by have := h1.lt r hf; omega
  have hx : Ext w w' := ⟨by rw [h.size]; omega, h.old, h.same⟩
  refine ⟨(S.ext hx).size, (S.ext hx).old, (S.ext hx).same, _, _, .cons (I := blk y o) ⟨rfl, rfl, h.loop⟩ (.cons (I := blk (y - 1) (.deferred (some []))) ⟨rfl, rfl, by rw [hy]; exact h.mark⟩ (h1.loc fun r hr => h.old r (h1.lt r hr)) ?_ ?_) ?_ ?_, ?_⟩
  · intro r hr
    obtain rfl : r = y - 1 := by simpa using hr
    exact hF _ (by omega)
  · intro r hr hO
    obtain rfl : r = y - 1 := by simpa using hr
    exact hF _ (by omega) (h1.sub _ hO)
  · intro r hr
    obtain rfl : r = y := by simpa using hr
    simp only [List.mem_append, List.mem_singleton, not_or]
    exact ⟨by omega, hF _ (by omega)⟩
  · intro r hr
    obtain rfl : r = y := by simpa using hr
    simp only [cond_true, List.mem_append, List.mem_singleton, not_or]
    exact ⟨by omega, fun hO => hF _ (by omega) (h1.sub _ hO)⟩
  · intro r hr
    simp only [cond_true, List.mem_append, List.mem_singleton] at hr
    have := S.size
    rcases hr with rfl | rfl | hr
    · right; omega
    · right; omega
    · exact h2 r hr
/-- nobody writes it any more -/
theorem St.freeze {b : Nat} {o : Obj} (S : St M w0 w (blk b o :: l)) : St M w0 w (rdo b o :: l) := by
  obtain ⟨F, O, h1, h2⟩ := S.has
  cases h1 with
  | cons k1 k2 k3 k4 =>
    obtain ⟨rfl, rfl, hb⟩ := k1
    exact ⟨S.size, S.old, S.same, _, _, .cons (I := rdo b o) ⟨rfl, rfl, hb⟩ k2 (by simp) k4, fun r hr => h2 r (by simpa using .inr hr)⟩

/-- pieces put together: for some x that is as it should be, the pieces f x -/
def packP {α : Type} (p : α → Prop) (f : α → List Item) (w : World) (fp o : List Nat) : Prop := ∃ x, p x ∧ Hold w (f x) fp o
def pack {α : Type} (p : α → Prop) (f : α → List Item) : Item :=
  ⟨packP p f, fun h hs => by obtain ⟨x, h1, h2⟩ := h; exact ⟨x, h1, h2.loc hs⟩, fun h => by obtain ⟨x, h1, h2⟩ := h; exact h2.lt, fun h => by obtain ⟨x, h1, h2⟩ := h; exact h2.sub⟩
theorem Hold.append {w : World} : ∀ {l l' : List Item} {F O : List Nat}, Hold w (l ++ l') F O → ∃ F1 O1 F2 O2, Hold w l F1 O1 ∧ Hold w l' F2 O2 ∧ (∀ r, r ∈ O1 → r ∉ F2) ∧ (∀ r, r ∈ F1 → r ∉ O2) ∧ (∀ r, r ∈ F ↔ r ∈ F1 ∨ r ∈ F2) ∧ (∀ r, r ∈ O ↔ r ∈ O1 ∨ r ∈ O2)
  | [], l', F, O, h => ⟨[], [], F, O, .nil, h, by simp, by simp, by simp, by simp⟩
  | I :: l, l', _, _, .cons h1 h2 h3 h4 => by
    obtain ⟨F1, O1, F2, O2, k1, k2, k3, k3', k4, k5⟩ := Hold.append h2
    refine ⟨_, _, F2, O2, .cons h1 k1 (fun r hr hf => h3 r hr ((k4 r).2 (.inl hf))) (fun r hr hf => h4 r hr ((k5 r).2 (.inl hf))), k2, ?_, ?_, ?_, ?_⟩
    · intro r hr
      rcases List.mem_append.1 hr with hr | hr
      · exact fun hf => h3 r hr ((k4 r).2 (.inr hf))
      · exact k3 r hr
    · intro r hr
      rcases List.mem_append.1 hr with hr | hr
      · exact fun hf => h4 r hr ((k5 r).2 (.inr hf))
      · exact k3' r hr
    · intro r; simp only [List.mem_append, k4]; exact ⟨fun h => by rcases h with h | h | h <;> simp [h], fun h => by rcases h with (h | h) | h <;> simp [h]⟩
    · intro r; simp only [List.mem_append, k5]; exact ⟨fun h => by rcases h with h | h | h <;> simp [h], fun h => by rcases h with (h | h) | h <;> simp [h]⟩
theorem Hold.join {w : World} : ∀ {l l' : List Item} {F1 O1 F2 O2 : List Nat}, Hold w l F1 O1 → Hold w l' F2 O2 → (∀ r, r ∈ O1 → r ∉ F2) → (∀ r, r ∈ F1 → r ∉ O2) → Hold w (l ++ l') (F1 ++ F2) (O1 ++ O2)
  | [], l', _, _, _, _, .nil, h, _, _ => h
  | I :: l, l', _, _, F2, O2, .cons h1 h2 h3 h4, h, hd, hd' => by
    rw [List.append_assoc, List.append_assoc]
    refine .cons h1 (Hold.join h2 h (fun r hr => hd r (by simp [hr])) (fun r hr => hd' r (by simp [hr]))) ?_ ?_
    · intro r hr hf
      rcases List.mem_append.1 hf with hf | hf
      · exact h3 r hr hf
      · exact hd r (by simp [hr]) hf
    · intro r hr hf
      rcases List.mem_append.1 hf with hf | hf
      · exact h4 r hr hf
      · exact hd' r (by simp [hr]) hf
theorem St.unpack {α : Type} {p : α → Prop} {f : α → List Item} (S : St M w0 w (pack p f :: l)) : ∃ x, p x ∧ St M w0 w (f x ++ l) := by
  obtain ⟨F, O, h1, h2⟩ := S.has
  cases h1 with
  | cons k1 k2 k3 k4 =>
    obtain ⟨x, hx, hh⟩ := k1
    exact ⟨x, hx, S.size, S.old, S.same, _, _, hh.join k2 k3 k4, h2⟩
theorem St.pack {α : Type} {p : α → Prop} {f : α → List Item} (x : α) (S : St M w0 w (f x ++ l)) (hx : p x) : St M w0 w (pack p f :: l) := by
  obtain ⟨F, O, h1, h2⟩ := S.has
  obtain ⟨F1, O1, F2, O2, k1, k2, k3, k3', k4, k5⟩ := h1.append
  refine ⟨S.size, S.old, S.same, _, _, .cons (I := Go.Proofs.YtgnmelnohclpgaaDoor.pack p f) ⟨x, hx, k1⟩ k2 k3 k3', ?_⟩
  intro r hr
  exact h2 r ((k5 r).2 (List.mem_append.1 hr))
/-- pieces are put together, others being left out -/
theorem St.packS {α : Type} {p : α → Prop} {f : α → List Item} {l' : List Item} (x : α) (S : St M w0 w l') (hx : p x) [h : SubL (f x ++ l) l'] : St M w0 w (Go.Proofs.YtgnmelnohclpgaaDoor.pack p f :: l) := St.pack x (S.sub h) hx

/-! ### Blocks -/
theorem St.new {t : TypeId} {cs : List Value} {K : Cont} (S : St M w0 w l) (hk : ∀ b w', St M w0 w' (blk b (.cells cs.toArray t (0, 0)) :: l) → K (.pointer (some ⟨b, 0, none⟩)) w') : newX t cs w K :=
  fun b w' h => hk b w' (S.newB h)
theorem St.box {t : TypeId} {v : Value} {cs : List Value} {K : Cont} (S : St M w0 w l) (hc : v.cells = cs.toArray) (hk : ∀ b w', St M w0 w' (blk b (.cells cs.toArray t (0, 0)) :: l) → K (.pointer (some ⟨b, 0, none⟩)) w') : boxX t v w K :=
  fun b w' h => hk b w' (by rw [← hc]; exact S.newB h)
theorem ldO {b off : Nat} {c : List Value} {t : TypeId} {fz : Nat × Nat} {v : Value} {K : Value → Prop} (h : w.heap[b]? = some (.cells c.toArray t fz)) (hv : c[off]? = some v) (hk : K v) : load1X (.pointer (some ⟨b, off, none⟩)) w K :=
  ⟨v, (cell_of h).trans (by simpa using hv), hk⟩
theorem ldNO {n b off : Nat} {c r : List Value} {t : TypeId} {fz : Nat × Nat} {K : Value → Prop} (h : w.heap[b]? = some (.cells c.toArray t fz)) (hr : (c.drop off).take n = r) (hn : r.length = n) (hk : K (.agg r.toArray)) : loadNX n (.pointer (some ⟨b, off, none⟩)) w K := by
  refine ⟨r, hn, fun i v hv => ?_, hk⟩
  rw [add_none, cell_of h]
  have h2 : i < n := by have := (List.getElem?_eq_some_iff.1 hv).1; omega
  rw [← hr] at hv
  simp only [List.getElem?_take, h2, if_true, List.getElem?_drop] at hv
  simpa using hv
theorem ldH {b off : Nat} {c : List Value} {t : TypeId} {fz : Nat × Nat} {v : Value} {K : Value → Prop} (h : InL b (.cells c.toArray t fz) l) (hv : c[off]? = some v) (hk : K v) : load1H (Has l) (.pointer (some ⟨b, off, none⟩)) K :=
  ⟨v, fun w hh => (cell_of (h.get w hh)).trans (by simpa using hv), hk⟩
theorem ldNH {n b off : Nat} {c r : List Value} {t : TypeId} {fz : Nat × Nat} {K : Value → Prop} (h : InL b (.cells c.toArray t fz) l) (hr : (c.drop off).take n = r) (hn : r.length = n) (hk : K (.agg r.toArray)) : loadNH (Has l) n (.pointer (some ⟨b, off, none⟩)) K := by
  refine ⟨r, hn, fun w hh i v hv => ?_, hk⟩
  rw [add_none, cell_of (h.get w hh)]
  have h2 : i < n := by have := (List.getElem?_eq_some_iff.1 hv).1; omega
  rw [← hr] at hv
  simp only [List.getElem?_take, h2, if_true, List.getElem?_drop] at hv
  simpa using hv
theorem St.drew {G : World → Prop} (S : St M w0 w l) (hk : ∀ w', St M w0 w' l → G w') : ∀ w', Drew w w' → G w' := fun w' h => hk w' (S.ext h.ext)
/-- cells laid over others -/
def over : List Value → Nat → List Value → List Value
  | c, _, [] => c
  | c, o, v :: l => over (c.set o v) (o + 1) l
theorem putAll_over (l : List Value) : ∀ (o : Nat) (c : List Value), putAll c.toArray o l = (over c o l).toArray := by
  induction l with
  | nil => intro o c; rfl
  | cons v l ih => intro o c; simp only [putAll, List.setIfInBounds_toArray, over]; exact ih (o + 1) (c.set o v)
theorem thawed0 (off n : Nat) : thawed (0, 0) off n := fun i _ h => by omega
theorem over_at : ∀ (cs c1 c2 : List Value), c2.length = cs.length → over (c1 ++ c2) c1.length cs = c1 ++ cs
  | [], c1, [], _ => by simp [over]
  | v :: cs, c1, x :: c2, h => by
    simp only [over]
    have h1 : (c1 ++ x :: c2).set c1.length v = (c1 ++ [v]) ++ c2 := by simp [List.set_append]
    rw [h1]
    have := over_at cs (c1 ++ [v]) c2 (by simpa using h)
    simp only [List.length_append, List.length_cons, List.length_nil] at this
    rw [this]; simp
theorem over_all (cs c : List Value) (h : c.length = cs.length) : over c 0 cs = cs := over_at cs [] c h
theorem St.st1 {b off : Nat} {c : List Value} {t : TypeId} {v : Value} {K : World → Prop} {l' R : List Item} (S : St M w0 w l) [hm : InL b (.cells c.toArray t (0, 0)) l] [h : Rp (blk b) (.cells c.toArray t (0, 0)) (blk b (.cells (c.set off v).toArray t (0, 0))) l l' R] (hv : v.oneCell' = true) (ho : off < c.length)
    (hk : ∀ w', St M w0 w' l' → K w') : store1X (.pointer (some ⟨b, off, none⟩)) v w K :=
  ⟨hv, c.toArray, t, (0, 0), (S.perm h.p1).get (by simp), by simpa using ho, thawed0 _ _, fun w' hs => hk w' (S.put (o' := .cells (c.set off v).toArray t (0, 0)) (by simpa using hs))⟩
theorem St.stN {n b off : Nat} {c cs : List Value} {t : TypeId} {K : World → Prop} {l' R : List Item} (S : St M w0 w l) [hm : InL b (.cells c.toArray t (0, 0)) l] [h : Rp (blk b) (.cells c.toArray t (0, 0)) (blk b (.cells (over c off cs).toArray t (0, 0))) l l' R] (hn : cs.length = n) (hv : ∀ x ∈ cs, x.oneCell' = true) (ho : off + n ≤ c.length)
    (hk : ∀ w', St M w0 w' l' → K w') : storeNX n (.pointer (some ⟨b, off, none⟩)) (.agg cs.toArray) w K :=
  ⟨hn, hv, c.toArray, t, (0, 0), (S.perm h.p1).get (by simp), by simpa using ho, thawed0 _ _, fun w' hs => hk w' (S.put (o' := .cells (over c off cs).toArray t (0, 0)) (by rw [putAll_over] at hs; exact hs))⟩
end

/-- a literal's parts laid into zero -/
def fillL : List Value → List (Nat × Value) → List Value
  | c, [] => c
  | c, (o, v) :: l => fillL (over c o v.cells.toList) l
theorem fillAll_L : ∀ (l : List (Nat × Value)) (c : List Value), fillAll c.toArray l = (fillL c l).toArray
  | [], c => rfl
  | (o, v) :: l, c => by simp only [fillAll, fillL, putAll_over]; exact fillAll_L l _
theorem buildX_i {zero c : List Value} {ps : List (Nat × Nat × Value)} {K : Value → Prop} (h1 : ∀ p ∈ ps, p.2.2.cells.size = p.2.1 ∧ p.1 + p.2.1 ≤ zero.length) (hc : fillL zero (ps.map fun p => (p.1, p.2.2)) = c) (hk : K (.agg c.toArray)) : buildX zero ps K :=
  ⟨h1, by rw [fillAll_L, hc]; exact hk⟩
theorem eqNX_i {n : Nat} {l : List (Nat × EqK)} {xs ys : List Value} {t : Bool} {K : Value → Prop} (hx : xs.length = n) (hy : ys.length = n) (he : eqAll l xs ys = some t) (hk : K (.bool t)) : eqNX n l (.agg xs.toArray) (.agg ys.toArray) K :=
  ⟨hx, hy, by simp only [List.toList_toArray, he]; exact hk⟩
theorem neNX_i {n : Nat} {l : List (Nat × EqK)} {xs ys : List Value} {t : Bool} {K : Value → Prop} (hx : xs.length = n) (hy : ys.length = n) (he : eqAll l xs ys = some t) (hk : K (.bool (!t))) : neNX n l (.agg xs.toArray) (.agg ys.toArray) K :=
  ⟨hx, hy, by simp only [List.toList_toArray, he]; exact hk⟩

theorem beqD (a b : Int) : (a == b) = decide (a = b) := by by_cases h : a = b <;> simp [h]


section
variable {M : List Nat} {w0 w : World} {l : List Item}

/-! ### Steps that are found by themselves -/
/-- a step: what is to be shown next -/
class Stp (G : Prop) (N : outParam Prop) : Prop where
  h : N → G
/-- a step to another world -/
class StpW (G : Prop) (M : outParam (List Nat)) (w0 : outParam World) (l : outParam (List Item)) (N : outParam (World → Prop)) : Prop where
  h : (∀ w', St M w0 w' l → N w') → G
/-- a step to another world, with something new -/
class StpA (G : Prop) (α : outParam Type) (M : outParam (List Nat)) (w0 : outParam World) (l : outParam (α → List Item)) (N : outParam (α → World → Prop)) : Prop where
  h : (∀ b w', St M w0 w' (l b) → N b w') → G
class GetL (c : List Value) (n : Nat) (v : outParam Value) : Prop where
  get : c[n]? = some v
instance (priority := high) {x : Value} {c : List Value} : GetL (x :: c) 0 x := ⟨rfl⟩
instance {x v : Value} {c : List Value} {n : Nat} [h : GetL c n v] : GetL (x :: c) (n + 1) v := ⟨by simpa using h.get⟩
class SetL (c : List Value) (n : Nat) (v : Value) (c' : outParam (List Value)) : Prop where
  eq : c.set n v = c' ∧ n < c.length
instance (priority := high) {x v : Value} {c : List Value} : SetL (x :: c) 0 v (v :: c) := ⟨rfl, by simp⟩
instance {x v : Value} {c c' : List Value} {n : Nat} [h : SetL c n v c'] : SetL (x :: c) (n + 1) v (x :: c') := ⟨by simp [h.eq.1], by simpa using h.eq.2⟩
class LenL (c : List Value) (n : outParam Nat) : Prop where
  len : c.length = n
instance : LenL [] 0 := ⟨rfl⟩
instance {x : Value} {c : List Value} {n : Nat} [h : LenL c n] : LenL (x :: c) (n + 1) := ⟨by simp [h.len]⟩
class LenIs (c : List Value) (n : Nat) : Prop where
  len : c.length = n
instance : LenIs [] 0 := ⟨rfl⟩
instance {x : Value} {c : List Value} {n : Nat} [h : LenIs c n] : LenIs (x :: c) (n + 1) := ⟨by simp [h.len]⟩
/-- what stands in a value's cells -/
class Cel (v : Value) (c : outParam (List Value)) : Prop where
  eq : v.cells = c.toArray
instance {c : List Value} : Cel (.agg c.toArray) c := ⟨rfl⟩
instance {k : IntKind} {n : Int} : Cel (.int k n) [.int k n] := ⟨rfl⟩
instance {t : Bool} : Cel (.bool t) [.bool t] := ⟨rfl⟩
instance {s : ByteArray} : Cel (.string s) [.string s] := ⟨rfl⟩
instance {p : Option Addr} : Cel (.pointer p) [.pointer p] := ⟨rfl⟩
instance {p : Option Addr} {n c : Nat} : Cel (.slice p n c) [.slice p n c] := ⟨rfl⟩
instance {f : Fn} {a b : Array Value} : Cel (.func f a b) [.func f a b] := ⟨rfl⟩
instance : Cel .nilFunc [.nilFunc] := ⟨rfl⟩
instance : Cel .nilIface [.nilIface] := ⟨rfl⟩
instance {t : TypeId} {v : Value} : Cel (.iface t v) [.iface t v] := ⟨rfl⟩
instance {p : Option Nat} : Cel (.map p) [.map p] := ⟨rfl⟩
/-- a value of one cell -/
class One (v : Value) : Prop where
  one : v.oneCell' = true
instance {k : IntKind} {n : Int} : One (.int k n) := ⟨rfl⟩
instance {t : Bool} : One (.bool t) := ⟨rfl⟩
instance {s : ByteArray} : One (.string s) := ⟨rfl⟩
instance {p : Option Addr} : One (.pointer p) := ⟨rfl⟩
instance {p : Option Addr} {n c : Nat} : One (.slice p n c) := ⟨rfl⟩
instance {f : Fn} {a b : Array Value} : One (.func f a b) := ⟨rfl⟩
instance : One .nilFunc := ⟨rfl⟩
instance : One .nilIface := ⟨rfl⟩
instance {t : TypeId} {v : Value} : One (.iface t v) := ⟨rfl⟩
instance {p : Option Nat} : One (.map p) := ⟨rfl⟩
class Ones (c : List Value) : Prop where
  all : ∀ x ∈ c, x.oneCell' = true
instance : Ones [] := ⟨by simp⟩
instance {x : Value} {c : List Value} [h1 : One x] [h : Ones c] : Ones (x :: c) := ⟨fun y hy => by rcases List.mem_cons.1 hy with rfl | hy; exact h1.one; exact h.all y hy⟩
/-- cells laid over cells -/
class OvL (c : List Value) (n : Nat) (d : List Value) (c' : outParam (List Value)) : Prop where
  eq : over c n d = c' ∧ (d ≠ [] → n + d.length ≤ c.length)
instance {c : List Value} {n : Nat} : OvL c n [] c := ⟨rfl, fun h => absurd rfl h⟩
instance {c c1 c2 d : List Value} {n : Nat} {v : Value} [h1 : SetL c n v c1] [h2 : OvL c1 (n + 1) d c2] : OvL c n (v :: d) c2 := by
  refine ⟨by simp only [over, h1.eq.1]; exact h2.eq.1, fun _ => ?_⟩
  have e1 := h1.eq.2
  have e2 := congrArg List.length h1.eq.1
  simp only [List.length_set] at e2
  cases d with
  | nil => simp; omega
  | cons x d => have := h2.eq.2 (by simp); simp only [List.length_cons] at this ⊢; omega
/-- a part of cells -/
class TakL (c : List Value) (n : Nat) (r : outParam (List Value)) : Prop where
  eq : c.take n = r ∧ n ≤ c.length
instance {c : List Value} : TakL c 0 [] := ⟨by simp, by simp⟩
instance {c r : List Value} {x : Value} {n : Nat} [h : TakL c n r] : TakL (x :: c) (n + 1) (x :: r) := ⟨by simp [h.eq.1], by simpa using h.eq.2⟩
class SlcL (c : List Value) (o n : Nat) (r : outParam (List Value)) : Prop where
  eq : (c.drop o).take n = r ∧ o + n ≤ c.length
instance (priority := high) {c r : List Value} {n : Nat} [h : TakL c n r] : SlcL c 0 n r := ⟨by simpa using h.eq.1, by simpa using h.eq.2⟩
instance {c r : List Value} {x : Value} {o n : Nat} [h : SlcL c o n r] : SlcL (x :: c) (o + 1) n r := ⟨by simpa using h.eq.1, by have := h.eq.2; simp; omega⟩
/-- a literal's parts, each of one cell -/
class BldL (z : List Value) (ps : List (Nat × Nat × Value)) (c : outParam (List Value)) : Prop where
  eq : (∀ p ∈ ps, p.2.2.cells.size = p.2.1 ∧ p.1 + p.2.1 ≤ z.length) ∧ fillL z (ps.map fun p => (p.1, p.2.2)) = c


section
variable {t : TypeId} {b off n : Nat} {c c' cs r : List Value} {v : Value} {fz : Nat × Nat} {l' R : List Item}
instance {K : Cont} [S : St M w0 w l] : StpA (newX t cs w K) Nat M w0 (fun b => blk b (.cells cs.toArray t (0, 0)) :: l) (fun b => K (.pointer (some ⟨b, 0, none⟩))) := ⟨S.new⟩
instance {K : Cont} [S : St M w0 w l] [hc : Cel v cs] : StpA (boxX t v w K) Nat M w0 (fun b => blk b (.cells cs.toArray t (0, 0)) :: l) (fun b => K (.pointer (some ⟨b, 0, none⟩))) := ⟨S.box hc.eq⟩
instance {K : Value → Prop} [S : St M w0 w l] [hm : InL b (.cells c.toArray t fz) l] [hv : GetL c off v] : Stp (load1X (.pointer (some ⟨b, off, none⟩)) w K) (K v) := ⟨ldO (hm.get w S.hs) hv.get⟩
instance (priority := high) {K : Value → Prop} [S : St M w0 w l] [hm : InL b (.cells c.toArray t fz) l] [hn : LenIs c n] : Stp (loadNX n (.pointer (some ⟨b, 0, none⟩)) w K) (K (.agg c.toArray)) :=
  ⟨ldNO (hm.get w S.hs) (by simp [← hn.len]) hn.len⟩
instance {K : Value → Prop} [S : St M w0 w l] [hm : InL b (.cells c.toArray t fz) l] [hr : SlcL c off n r] : Stp (loadNX n (.pointer (some ⟨b, off, none⟩)) w K) (K (.agg r.toArray)) :=
  ⟨ldNO (hm.get w S.hs) hr.eq.1 (by rw [← hr.eq.1]; have := hr.eq.2; simp; omega)⟩
instance {K : World → Prop} [S : St M w0 w l] [hm : InL b (.cells c.toArray t (0, 0)) l] [hv : One v] [hc : SetL c off v c'] [hl : Rp (blk b) (.cells c.toArray t (0, 0)) (blk b (.cells c'.toArray t (0, 0))) l l' R] : StpW (store1X (.pointer (some ⟨b, off, none⟩)) v w K) M w0 l' K :=
  ⟨fun h => ⟨hv.one, c.toArray, t, (0, 0), hm.get w S.hs, by simpa using hc.eq.2, thawed0 _ _, fun w' hs => h w' (S.put (h := hl) (by rw [← hc.eq.1]; simpa using hs))⟩⟩
instance (priority := high) {K : World → Prop} [S : St M w0 w l] [hm : InL b (.cells c.toArray t (0, 0)) l] [hn : LenIs cs n] [hc : LenIs c n] [hv : Ones cs] [hl : Rp (blk b) (.cells c.toArray t (0, 0)) (blk b (.cells cs.toArray t (0, 0))) l l' R] : StpW (storeNX n (.pointer (some ⟨b, 0, none⟩)) (.agg cs.toArray) w K) M w0 l' K :=
  ⟨fun h => ⟨hn.len, hv.all, c.toArray, t, (0, 0), hm.get w S.hs, by simp [hc.len], thawed0 _ _, fun w' hs => h w' (S.put (h := hl) (by rw [putAll_over, over_all _ _ (by simp [hn.len, hc.len])] at hs; exact hs))⟩⟩
instance {K : World → Prop} [S : St M w0 w l] [hm : InL b (.cells c.toArray t (0, 0)) l] [hn : LenIs (v :: cs) n] [hv : Ones (v :: cs)] [hc : OvL c off (v :: cs) c'] [hl : Rp (blk b) (.cells c.toArray t (0, 0)) (blk b (.cells c'.toArray t (0, 0))) l l' R] : StpW (storeNX n (.pointer (some ⟨b, off, none⟩)) (.agg (v :: cs).toArray) w K) M w0 l' K :=
  ⟨fun h => ⟨hn.len, hv.all, c.toArray, t, (0, 0), hm.get w S.hs, by have := hc.eq.2 (by simp); rw [hn.len] at this; simpa using this, thawed0 _ _, fun w' hs => h w' (S.put (h := hl) (by rw [putAll_over, hc.eq.1] at hs; exact hs))⟩⟩
instance {K : Value → Prop} [hm : InL b (.cells c.toArray t fz) l] [hv : GetL c off v] : Stp (load1H (Has l) (.pointer (some ⟨b, off, none⟩)) K) (K v) := ⟨ldH hm hv.get⟩
instance (priority := high) {K : Value → Prop} [hm : InL b (.cells c.toArray t fz) l] [hn : LenIs c n] : Stp (loadNH (Has l) n (.pointer (some ⟨b, 0, none⟩)) K) (K (.agg c.toArray)) := ⟨ldNH hm (by simp [← hn.len]) hn.len⟩
instance {K : Value → Prop} [hm : InL b (.cells c.toArray t fz) l] [hr : SlcL c off n r] : Stp (loadNH (Has l) n (.pointer (some ⟨b, off, none⟩)) K) (K (.agg r.toArray)) := ⟨ldNH hm hr.eq.1 (by rw [← hr.eq.1]; have := hr.eq.2; simp; omega)⟩
instance {G : Prop} [S : St M w0 w l'] [h : SubL l l'] : Stp (Has l w ∧ G) G := ⟨fun g => ⟨S.hs.sub h, g⟩⟩
instance {K : Value → Prop} [h : GetL c n v] : Stp (extractX (.tuple c.toArray) n K) (K v) := ⟨fun k => ⟨v, by simpa using h.get, k⟩⟩
instance {K : Value → Prop} [h : GetL c n v] : Stp (fieldX n (.agg c.toArray) K) (K v) := ⟨fun k => ⟨v, by simpa using h.get, k⟩⟩
end
/-- a call that hands back a value, nothing that was there being changed -/
theorem StpW.ext {P : Program} {f : FuncId} {a : List Value} {v : Value} {K : Cont} (S : St M w0 w l) (h : ∀ K : Cont, (∀ w', Ext w w' → K v w') → callX P f a w K) : StpW (callX P f a w K) M w0 l (K v) :=
  ⟨fun hk => h K fun w' hx => hk w' (S.ext hx)⟩
instance {z : List Value} : BldL z [] z := ⟨by simp, rfl⟩
theorem one_cells {v : Value} (h : v.oneCell' = true) : v.cells = #[v] := by cases v <;> first | rfl | (simp [Value.oneCell'] at h)
instance {z z' c : List Value} {i : Nat} {v : Value} {ps : List (Nat × Nat × Value)} [hv : One v] [hs : SetL z i v z'] [h : BldL z' ps c] : BldL z ((i, 1, v) :: ps) c := by
  have hl : z'.length = z.length := by rw [← hs.eq.1]; simp
  refine ⟨fun p hp => ?_, ?_⟩
  · rcases List.mem_cons.1 hp with rfl | hp
    · exact ⟨by simp [one_cells hv.one], hs.eq.2⟩
    · rw [← hl]; exact h.eq.1 p hp
  · simp only [List.map_cons, fillL, one_cells hv.one, over, hs.eq.1]
    exact h.eq.2
theorem over_length : ∀ (cs : List Value) (c : List Value) (o : Nat), (over c o cs).length = c.length
  | [], c, o => rfl
  | v :: cs, c, o => by simp only [over]; rw [over_length cs]; simp
instance {z z' c cs : List Value} {i n : Nat} {v : Value} {ps : List (Nat × Nat × Value)} [hn : LenIs (v :: cs) n] [hs : OvL z i (v :: cs) z'] [h : BldL z' ps c] : BldL z ((i, n, .agg (v :: cs).toArray) :: ps) c := by
  have hl : z'.length = z.length := by rw [← hs.eq.1, over_length]
  refine ⟨fun p hp => ?_, ?_⟩
  · rcases List.mem_cons.1 hp with rfl | hp
    · have h1 := hn.len
      have h2 := hs.eq.2 (by simp)
      rw [h1] at h2
      exact ⟨by simpa [Value.cells] using h1, h2⟩
    · rw [← hl]; exact h.eq.1 p hp
  · simp only [List.map_cons, fillL, Value.cells, hs.eq.1]
    exact h.eq.2
instance {z c : List Value} {ps : List (Nat × Nat × Value)} {K : Value → Prop} [h : BldL z ps c] : Stp (buildX z ps K) (K (.agg c.toArray)) := ⟨buildX_i h.eq.1 h.eq.2⟩
end

/-! ### Values -/
section
variable {K : Value → Prop} {k : IntKind} {a b : Int}
theorem geX_i (h : K (.bool (decide (b ≤ a)))) : geX (.int k a) (.int k b) K := ⟨rfl, h⟩
theorem gtX_i (h : K (.bool (decide (b < a)))) : gtX (.int k a) (.int k b) K := ⟨rfl, h⟩
theorem leX_i (h : K (.bool (decide (a ≤ b)))) : leX (.int k a) (.int k b) K := ⟨rfl, h⟩
theorem ltX_i (h : K (.bool (decide (a < b)))) : ltX (.int k a) (.int k b) K := ⟨rfl, h⟩
theorem eqX_i (h : K (.bool (decide (a = b)))) : eqX .num (.int k a) (.int k b) K := by
  unfold eqX; simp only [eqV, if_true]
  have : (a == b) = decide (a = b) := by by_cases h : a = b <;> simp [h]
  rw [this]; exact h
theorem neX_i (h : K (.bool (decide (a ≠ b)))) : neX .num (.int k a) (.int k b) K := by
  unfold neX; simp only [eqV, if_true]
  have : (!(a == b)) = decide (a ≠ b) := by by_cases h : a = b <;> simp [h]
  rw [this]; exact h
theorem eqX_b {x y : Bool} (h : K (.bool (x == y))) : eqX .bool (.bool x) (.bool y) K := h
theorem neX_b {x y : Bool} (h : K (.bool (!(x == y)))) : neX .bool (.bool x) (.bool y) K := h
theorem eqX_pn (h : K (.bool true)) : eqX .ptr (.pointer none) (.pointer none) K := h
theorem eqX_ps {p : Addr} (h : K (.bool false)) : eqX .ptr (.pointer (some p)) (.pointer none) K := h
theorem neX_pn (h : K (.bool false)) : neX .ptr (.pointer none) (.pointer none) K := h
theorem neX_ps {p : Addr} (h : K (.bool true)) : neX .ptr (.pointer (some p)) (.pointer none) K := h
theorem notX_i {t : Bool} (h : K (.bool (!t))) : notX (.bool t) K := h
theorem nilX_p {p : Addr} (h : K (.pointer (some p))) : nilX (.pointer (some p)) K := h
theorem fieldAddrX_i {f x off : Nat} (h : K (.pointer (some ⟨x, off + f, none⟩))) : fieldAddrX f (.pointer (some ⟨x, off, none⟩)) K := by
  show K (.pointer (some ((⟨x, off, none⟩ : Addr).add f))); rw [add_none]; exact h
theorem lenSX_i {x : Option Addr} {n c : Nat} (h : K (.int .i64 n)) : lenSX (.slice x n c) K := h
theorem addX_i (h : K (.int k (k.wrap (a + b)))) : addX (.int k a) (.int k b) K := ⟨rfl, h⟩
theorem subX_i (h : K (.int k (k.wrap (a - b)))) : subX (.int k a) (.int k b) K := ⟨rfl, h⟩
theorem mulX_i (h : K (.int k (k.wrap (a * b)))) : mulX (.int k a) (.int k b) K := ⟨rfl, h⟩
theorem andX_i (h : K (.int k (bitsV k (fun p q => p &&& q) a b))) : andX (.int k a) (.int k b) K := ⟨rfl, h⟩
theorem orX_i (h : K (.int k (bitsV k (fun p q => p ||| q) a b))) : orX (.int k a) (.int k b) K := ⟨rfl, h⟩
theorem xorX_i (h : K (.int k (bitsV k (fun p q => p ^^^ q) a b))) : xorX (.int k a) (.int k b) K := ⟨rfl, h⟩
theorem andNotX_i (h : K (.int k (bitsV k (fun p q => p &&& ~~~q) a b))) : andNotX (.int k a) (.int k b) K := ⟨rfl, h⟩
theorem negX_i (h : K (.int k (k.wrap (0 - a)))) : negX (.int k a) K := h
theorem convIX_i {k' : IntKind} (h : K (.int k (k.wrap a))) : convIX k (.int k' a) K := h
theorem shlX_i {k' : IntKind} (hb : 0 ≤ b) (h : K (.int k (k.wrap (a * 2 ^ min b.toNat k.bits)))) : shlX (.int k a) (.int k' b) K := ⟨hb, h⟩
theorem shrX_i {k' : IntKind} (hb : 0 ≤ b) (h : K (.int k (a.fdiv (2 ^ min b.toNat k.bits)))) : shrX (.int k a) (.int k' b) K := ⟨hb, h⟩
theorem extractX_i {vs : List Value} {i : Nat} {v : Value} (hv : vs[i]? = some v) (h : K v) : extractX (.tuple vs.toArray) i K := ⟨v, by simpa using hv, h⟩
theorem joinX_i {α : Type} {c : α} {f : α → Prop} (h : f c) : joinX c f := h
theorem joinX_of {α : Type} {c : α} {f : α → Prop} (Pre : α → Prop) (h1 : Pre c) (h2 : ∀ J, Pre J → f J) : joinX c f := h2 c h1
variable {p q : Prop}
theorem brX_i {t : Bool} (h1 : t = true → p) (h2 : t = false → q) : brX (.bool t) p q := ⟨h1, h2⟩
theorem brX_d {c : Prop} [Decidable c] (h1 : c → p) (h2 : ¬ c → q) : brX (.bool (decide c)) p q := ⟨fun h => h1 (of_decide_eq_true h), fun h => h2 (of_decide_eq_false h)⟩
theorem brX_n {c : Prop} [Decidable c] (h1 : ¬ c → p) (h2 : c → q) : brX (.bool (!decide c)) p q := ⟨fun h => h1 (by simpa using h), fun h => h2 (by simpa using h)⟩
theorem brX_t (h : p) : brX (.bool true) p q := ⟨fun _ => h, (fun h => by cases h)⟩
theorem brX_f (h : q) : brX (.bool false) p q := ⟨(fun h => by cases h), fun _ => h⟩
theorem brX_nt (h : q) : brX (.bool (!true)) p q := ⟨(fun h => by simp at h), fun _ => h⟩
theorem brX_nf (h : p) : brX (.bool (!false)) p q := ⟨fun _ => h, (fun h => by simp at h)⟩
end


section
variable {K : Value → Prop} {k k' : IntKind} {a b : Int} {p q : Prop}
instance : Stp (geX (.int k a) (.int k b) K) (K (.bool (decide (b ≤ a)))) := ⟨geX_i⟩
instance : Stp (gtX (.int k a) (.int k b) K) (K (.bool (decide (b < a)))) := ⟨gtX_i⟩
instance : Stp (leX (.int k a) (.int k b) K) (K (.bool (decide (a ≤ b)))) := ⟨leX_i⟩
instance : Stp (ltX (.int k a) (.int k b) K) (K (.bool (decide (a < b)))) := ⟨ltX_i⟩
instance : Stp (eqX .num (.int k a) (.int k b) K) (K (.bool (decide (a = b)))) := ⟨eqX_i⟩
instance : Stp (neX .num (.int k a) (.int k b) K) (K (.bool (decide (a ≠ b)))) := ⟨neX_i⟩
instance {x y : Bool} : Stp (eqX .bool (.bool x) (.bool y) K) (K (.bool (x == y))) := ⟨eqX_b⟩
instance {x y : Bool} : Stp (neX .bool (.bool x) (.bool y) K) (K (.bool (!(x == y)))) := ⟨neX_b⟩
instance : Stp (eqX .ptr (.pointer none) (.pointer none) K) (K (.bool true)) := ⟨eqX_pn⟩
instance {p : Addr} : Stp (eqX .ptr (.pointer (some p)) (.pointer none) K) (K (.bool false)) := ⟨eqX_ps⟩
instance : Stp (neX .ptr (.pointer none) (.pointer none) K) (K (.bool false)) := ⟨neX_pn⟩
instance {p : Addr} : Stp (neX .ptr (.pointer (some p)) (.pointer none) K) (K (.bool true)) := ⟨neX_ps⟩
instance : Stp (eqX .iface .nilIface .nilIface K) (K (.bool true)) := ⟨id⟩
instance {t : TypeId} {v : Value} : Stp (eqX .iface (.iface t v) .nilIface K) (K (.bool false)) := ⟨id⟩
instance : Stp (neX .iface .nilIface .nilIface K) (K (.bool false)) := ⟨id⟩
instance {t : TypeId} {v : Value} : Stp (neX .iface (.iface t v) .nilIface K) (K (.bool true)) := ⟨id⟩
instance {n c : Nat} : Stp (eqX .slice (.slice none n c) (.slice none 0 0) K) (K (.bool true)) := ⟨id⟩
instance {p : Addr} {n c : Nat} : Stp (eqX .slice (.slice (some p) n c) (.slice none 0 0) K) (K (.bool false)) := ⟨id⟩
instance {n c : Nat} : Stp (neX .slice (.slice none n c) (.slice none 0 0) K) (K (.bool false)) := ⟨id⟩
instance {p : Addr} {n c : Nat} : Stp (neX .slice (.slice (some p) n c) (.slice none 0 0) K) (K (.bool true)) := ⟨id⟩
instance : Stp (eqX .map (.map none) (.map none) K) (K (.bool true)) := ⟨id⟩
instance {p : Nat} : Stp (eqX .map (.map (some p)) (.map none) K) (K (.bool false)) := ⟨id⟩
instance : Stp (neX .map (.map none) (.map none) K) (K (.bool false)) := ⟨id⟩
instance {p : Nat} : Stp (neX .map (.map (some p)) (.map none) K) (K (.bool true)) := ⟨id⟩
instance {t : Bool} : Stp (notX (.bool t) K) (K (.bool (!t))) := ⟨id⟩
instance (priority := high) : Stp (notX (.bool true) K) (K (.bool false)) := ⟨id⟩
instance (priority := high) : Stp (notX (.bool false) K) (K (.bool true)) := ⟨id⟩
instance {p : Addr} : Stp (nilX (.pointer (some p)) K) (K (.pointer (some p))) := ⟨id⟩
instance {f : FuncId} {a b : Array Value} : Stp (nilX (.func (.func f) a b) K) (K (.func (.func f) a b)) := ⟨id⟩
instance {f : Nat} {a b : Array Value} : Stp (nilX (.func (.yield f) a b) K) (K (.func (.yield f) a b)) := ⟨id⟩
instance {f x off : Nat} : Stp (fieldAddrX f (.pointer (some ⟨x, off, none⟩)) K) (K (.pointer (some ⟨x, off + f, none⟩))) := ⟨fieldAddrX_i⟩
instance (priority := high) {f x : Nat} : Stp (fieldAddrX f (.pointer (some ⟨x, 0, none⟩)) K) (K (.pointer (some ⟨x, f, none⟩))) := ⟨fun h => fieldAddrX_i (by rw [Nat.zero_add]; exact h)⟩
instance {x : Option Addr} {n c : Nat} : Stp (lenSX (.slice x n c) K) (K (.int .i64 n)) := ⟨id⟩
instance {s : ByteArray} : Stp (lenStrX (.string s) K) (K (.int .i64 s.size)) := ⟨id⟩
instance : Stp (addX (.int k a) (.int k b) K) (K (.int k (k.wrap (a + b)))) := ⟨addX_i⟩
instance : Stp (subX (.int k a) (.int k b) K) (K (.int k (k.wrap (a - b)))) := ⟨subX_i⟩
instance : Stp (mulX (.int k a) (.int k b) K) (K (.int k (k.wrap (a * b)))) := ⟨mulX_i⟩
instance : Stp (andX (.int k a) (.int k b) K) (K (.int k (bitsV k (fun p q => p &&& q) a b))) := ⟨andX_i⟩
instance : Stp (orX (.int k a) (.int k b) K) (K (.int k (bitsV k (fun p q => p ||| q) a b))) := ⟨orX_i⟩
instance : Stp (xorX (.int k a) (.int k b) K) (K (.int k (bitsV k (fun p q => p ^^^ q) a b))) := ⟨xorX_i⟩
instance : Stp (andNotX (.int k a) (.int k b) K) (K (.int k (bitsV k (fun p q => p &&& ~~~q) a b))) := ⟨andNotX_i⟩
instance : Stp (negX (.int k a) K) (K (.int k (k.wrap (0 - a)))) := ⟨id⟩
instance : Stp (convIX k (.int k' a) K) (K (.int k (k.wrap a))) := ⟨id⟩
instance {t : TypeId} {v : Value} : Stp (ifaceX t v K) (K (.iface t v)) := ⟨id⟩
instance : Stp (maxX (.int k a) (.int k b) K) (K (.int k (if b > a then b else a))) := ⟨id⟩
instance : Stp (minX (.int k a) (.int k b) K) (K (.int k (if b < a then b else a))) := ⟨id⟩
instance (priority := high) : Stp (brX (.bool true) p q) p := ⟨brX_t⟩
instance (priority := high) : Stp (brX (.bool false) p q) q := ⟨brX_f⟩
theorem brX_bt {t : Bool} (h : t = true) (h1 : p) : brX (.bool t) p q := ⟨fun _ => h1, fun n => by rw [h] at n; cases n⟩
theorem brX_bf {t : Bool} (h : t = false) (h1 : q) : brX (.bool t) p q := ⟨fun n => by rw [h] at n; (cases n), fun _ => h1⟩
theorem brX_dt {c : Prop} [Decidable c] (h : c) (h1 : p) : brX (.bool (decide c)) p q := brX_d (fun _ => h1) (fun n => absurd h n)
theorem brX_df {c : Prop} [Decidable c] (h : ¬ c) (h1 : q) : brX (.bool (decide c)) p q := brX_d (fun n => absurd n h) (fun _ => h1)
end

/-- structs held against each other -/
class EqL (l : List (Nat × EqK)) (xs ys : List Value) (t : outParam Bool) : Prop where
  eq : eqAll l xs ys = some t
instance {xs ys : List Value} : EqL [] xs ys true := ⟨rfl⟩
instance {l : List (Nat × EqK)} {xs ys : List Value} {t : Bool} {i : Nat} {k : IntKind} {a b : Int} [h1 : GetL xs i (.int k a)] [h2 : GetL ys i (.int k b)] [h : EqL l xs ys t] : EqL ((i, .num) :: l) xs ys (decide (a = b) && t) :=
  ⟨by simp only [eqAll, h1.get, h2.get, eqV, if_true, h.eq, beqD]⟩
instance {l : List (Nat × EqK)} {xs ys : List Value} {t : Bool} {i : Nat} {a b : Bool} [h1 : GetL xs i (.bool a)] [h2 : GetL ys i (.bool b)] [h : EqL l xs ys t] : EqL ((i, .bool) :: l) xs ys ((a == b) && t) :=
  ⟨by simp only [eqAll, h1.get, h2.get, eqV, if_true, h.eq]⟩
instance {l : List (Nat × EqK)} {xs ys : List Value} {t : Bool} {i : Nat} {a b : ByteArray} [h1 : GetL xs i (.string a)] [h2 : GetL ys i (.string b)] [h : EqL l xs ys t] : EqL ((i, .str) :: l) xs ys ((a.toList == b.toList) && t) :=
  ⟨by simp only [eqAll, h1.get, h2.get, eqV, if_true, h.eq]⟩
instance {n : Nat} {l : List (Nat × EqK)} {xs ys : List Value} {t : Bool} {K : Value → Prop} [hx : LenIs xs n] [hy : LenIs ys n] [h : EqL l xs ys t] : Stp (eqNX n l (.agg xs.toArray) (.agg ys.toArray) K) (K (.bool t)) := ⟨eqNX_i hx.len hy.len h.eq⟩
instance {n : Nat} {l : List (Nat × EqK)} {xs ys : List Value} {t : Bool} {K : Value → Prop} [hx : LenIs xs n] [hy : LenIs ys n] [h : EqL l xs ys t] : Stp (neNX n l (.agg xs.toArray) (.agg ys.toArray) K) (K (.bool (!t))) := ⟨neNX_i hx.len hy.len h.eq⟩

/-! ### Numbers -/
theorem wi64 {n : Int} (h : -9223372036854775808 ≤ n ∧ n < 9223372036854775808) : IntKind.i64.wrap n = n := by rw [IntKind.wrap_i64]; omega
theorem wu64 {n : Int} (h : 0 ≤ n ∧ n < 18446744073709551616) : IntKind.u64.wrap n = n := by rw [IntKind.wrap_u64]; omega

end Go.Proofs.YtgnmelnohclpgaaDoor
