/- Laws: what is read of the arguments; from the walk of a law to its row. -/
import Derived.Test.YtgnmelnohclpgaaDoorRows
import Derived.Test.YtgnmelnohclpgaaDoorSxU
import Derived.ChangeSame
import Derived.ChangeVars
import Derived.JoinedOf
import Derived.RowKit
import Derived.RowKitTokens
import Derived.LaidLaws
import Derived.LaidHandle
import Derived.Carry
import Derived.WideShapes
import Derived.OpenShut
import Derived.Lib.LaidU8
set_option linter.unusedVariables false
set_option linter.unusedSimpArgs false
namespace Go.Proofs.YtgnmelnohclpgaaDoor
open Go Go.RowKit Go.ChangeShapes Go.WideShapes

/-! ### Shapes of data -/
inductive Sh where
  | int (k : IntKind)
  | bool
  | str
  | part (l : List Sh)
  | row (e : Sh)
mutual
def Sh.width : Sh → Nat
  | .int _ => 1
  | .bool => 1
  | .str => 1
  | .part l => widths l
  | .row _ => 1
def widths : List Sh → Nat
  | [] => 0
  | s :: l => s.width + widths l
end
mutual
/-- what cells hold, by their shape -/
inductive Rdb (W : World) : Sh → List Value → Prop where
  | int {k : IntKind} {n : Int} : k.min ≤ n → n ≤ k.max → Rdb W (.int k) [.int k n]
  | bool {b : Bool} : Rdb W .bool [.bool b]
  | str {s : ByteArray} : s.size ≤ maxLen → Rdb W .str [.string s]
  | part {l : List Sh} {cs : List Value} : RdbL W l cs → Rdb W (.part l) cs
  | nil {e : Sh} : Rdb W (.row e) [.slice none 0 0]
  | row {e : Sh} {a : Addr} {len cap : Nat} {els : List (List Value)} : len ≤ cap → cap ≤ maxLen → els.length = len → (∀ c, c ∈ els → c.length = e.width) → (∀ c, c ∈ els → Rdb W e c) →
      (∀ (i : Nat) (c : List Value), els[i]? = some c → ∀ (j : Nat) (v : Value), c[j]? = some v → W.cell? (a.add (i * e.width + j)) = some v) → Rdb W (.row e) [.slice (some a) len cap]
inductive RdbL (W : World) : List Sh → List Value → Prop where
  | nil : RdbL W [] []
  | cons {s : Sh} {l : List Sh} {c cs : List Value} : Rdb W s c → RdbL W l cs → RdbL W (s :: l) (c ++ cs)
end

mutual
/-- a type's data have a shape -/
def shOk (P : Program) : Sh → TypeId → Bool
  | .int k, t => P.cellsOf t == 1 && (match P.underlying t with | some (.int k') => k' == k | _ => false)
  | .bool, t => P.cellsOf t == 1 && (match P.underlying t with | some .bool => true | _ => false)
  | .str, t => P.cellsOf t == 1 && (match P.underlying t with | some .string => true | _ => false)
  | .row e, t => P.cellsOf t == 1 && (match P.underlying t with | some (.slice el) => P.cellsOf el == e.width && shOk P e el | _ => false)
  | .part l, t => P.cellsOf t == widths l && (match P.underlying t with
    | some (.struct fs) => fs.size == l.length && shOks P l (fs.toList.map fun f => (f.type, f.offset)) 0
    | some (.array n el) => n == l.length && shOks P l ((List.range n).map fun i => (el, i * P.cellsOf el)) 0
    | _ => false)
def shOks (P : Program) : List Sh → List (TypeId × Nat) → Nat → Bool
  | [], [], _ => true
  | s :: l, (t, o) :: r, off => o == off && P.cellsOf t == s.width && shOk P s t && shOks P l r (off + s.width)
  | _, _, _ => false
end

section
variable {H : Type} {enc : TypeId × Value → H} {P : Program} {w : World} {sp : Nat → Bool} {held : Bool}

theorem cells_add (a : Addr) (i j : Nat) : (a.add i).add j = a.add (i + j) := by
  unfold Addr.add
  by_cases hi : i = 0 <;> by_cases hj : j = 0 <;> simp [hi, hj, Nat.add_assoc]

theorem cells?_get {a : Addr} {n : Nat} {cs : List Value} (h : w.cells? 0 a n = some cs) : cs.length = n ∧ ∀ j v, cs[j]? = some v → w.cell? (a.add j) = some v := by
  unfold World.cells? at h
  rw [if_pos (Nat.zero_le _)] at h
  have hl : cs.length = n := by simpa using Lib.mapM_length h
  refine ⟨hl, fun j v hj => ?_⟩
  have hlt : j < n := by have := (List.getElem?_eq_some_iff.1 hj).1; omega
  obtain ⟨b, h1, h2⟩ := Lib.mapM_at h j j (by simp [hlt])
  rw [hj] at h1
  cases h1
  exact h2

mutual
theorem rdb_of : ∀ (s : Sh) (t : TypeId) (fuel : Nat) (cs : List Value) (x : DataW H × List MemPlace), shOk P s t = true → DataW.trod enc P w 0 sp held fuel t cs = some x → Rdb w s cs
  | .int k, t, fuel, cs, x, h, hd => by
    simp only [shOk, Bool.and_eq_true] at h
    split at h
    · rename_i k' hu
      obtain ⟨n, rfl, _, hw⟩ := DataW.trod_int hu hd
      obtain rfl : k' = k := by simpa using h.2
      simp only [Lit.wf, Bool.and_eq_true, decide_eq_true_eq] at hw
      exact .int hw.1 hw.2
    · simp at h
  | .bool, t, fuel, cs, x, h, hd => by
    simp only [shOk, Bool.and_eq_true] at h
    split at h
    · rename_i hu
      obtain ⟨b, rfl, _⟩ := DataW.trod_bool hu hd
      exact .bool
    · simp at h
  | .str, t, fuel, cs, x, h, hd => by
    simp only [shOk, Bool.and_eq_true] at h
    split at h
    · rename_i hu
      obtain ⟨b, rfl, _, hs⟩ := DataW.trod_string hu hd
      exact .str hs
    · simp at h
  | .row e, t, fuel, cs, x, h, hd => by
    simp only [shOk, Bool.and_eq_true] at h
    split at h
    · rename_i el hu
      simp only [Bool.and_eq_true, beq_iff_eq] at h
      rcases DataW.trod_slice hu hd with ⟨rfl, _⟩ | ⟨a, len, cap, elems, rest, n, _, rfl, _, _, h1, h2, h3, h4, _⟩
      · exact .nil
      · rw [h.2.1] at h4
        have hex : ∀ i, i < len → ∃ c, w.cells? 0 (a.add (i * e.width)) e.width = some c ∧ Rdb w e c := by
          intro i hi
          have h5 := h4 i hi
          have h6 : elems[i]? = some elems[i] := List.getElem?_eq_getElem (by omega)
          rw [h6] at h5
          obtain ⟨c, h7, h8⟩ := Option.bind_eq_some_iff.1 h5
          exact ⟨c, h7, rdb_of e el n c _ h.2.2 h8⟩
        have hF : ∃ F : Nat → List Value, ∀ i, i < len → w.cells? 0 (a.add (i * e.width)) e.width = some (F i) ∧ Rdb w e (F i) :=
          ⟨fun i => if hi : i < len then Classical.choose (hex i hi) else [], fun i hi => by simp only [hi, dif_pos]; exact Classical.choose_spec (hex i hi)⟩
        obtain ⟨F, hF⟩ := hF
        refine .row (els := (List.range len).map F) h1 h2 (by simp) ?_ ?_ ?_
        · intro c hc
          obtain ⟨i, hi, rfl⟩ := List.mem_map.1 hc
          exact (cells?_get (hF i (by simpa using hi)).1).1
        · intro c hc
          obtain ⟨i, hi, rfl⟩ := List.mem_map.1 hc
          exact (hF i (by simpa using hi)).2
        · intro i c hc j v hv
          have hi : i < len := by have := (List.getElem?_eq_some_iff.1 hc).1; simpa using this
          simp [hi] at hc
          subst hc
          have := (cells?_get (hF i hi).1).2 j v hv
          rwa [cells_add] at this
    · simp at h
  | .part l, t, fuel, cs, x, h, hd => by
    simp only [shOk, Bool.and_eq_true, beq_iff_eq] at h
    obtain ⟨h0, h⟩ := h
    split at h
    · rename_i fs hu
      simp only [Bool.and_eq_true, beq_iff_eq] at h
      obtain ⟨xs, n, _, _, hl, hxl, hall⟩ := DataW.trod_struct hu hd
      refine .part ?_
      have := rdbs_of l (fs.toList.map fun f => (f.type, f.offset)) 0 n cs h.2 (fun i to hi => ?_) (by omega)
      · simpa using this
      · simp only [List.getElem?_map, Option.map_eq_some_iff] at hi
        obtain ⟨f, hf, rfl⟩ := hi
        have h5 := hall i f (by simpa using hf)
        have hlt : i < xs.length := by
          have := (List.getElem?_eq_some_iff.1 hf).1
          simp at this
          omega
        exact ⟨_, h5.trans (List.getElem?_eq_getElem hlt)⟩
    · rename_i n el hu
      simp only [Bool.and_eq_true, beq_iff_eq] at h
      obtain ⟨xs, m, _, _, hl, hxl, hall⟩ := DataW.trod_array hu hd
      refine .part ?_
      have := rdbs_of l ((List.range n).map fun i => (el, i * P.cellsOf el)) 0 m cs h.2 (fun i to hi => ?_) (by omega)
      · simpa using this
      · have hlt : i < n := by have := (List.getElem?_eq_some_iff.1 hi).1; simpa using this
        simp [hlt] at hi
        subst hi
        exact ⟨_, (hall i hlt).trans (List.getElem?_eq_getElem (by omega))⟩
    · simp at h
theorem rdbs_of : ∀ (l : List Sh) (r : List (TypeId × Nat)) (off fuel : Nat) (cs : List Value), shOks P l r off = true →
    (∀ (i : Nat) (to : TypeId × Nat), r[i]? = some to → ∃ x, DataW.trod enc P w 0 sp held fuel to.1 ((cs.drop to.2).take (P.cellsOf to.1)) = some x) → cs.length = off + widths l → RdbL w l (cs.drop off)
  | [], r, off, fuel, cs, h, hall, hl => by
    simp only [widths, Nat.add_zero] at hl
    rw [List.drop_eq_nil_of_le (by omega)]
    exact .nil
  | s :: l, [], off, fuel, cs, h, hall, hl => by simp [shOks] at h
  | s :: l, (t, o) :: r, off, fuel, cs, h, hall, hl => by
    simp only [shOks, Bool.and_eq_true, beq_iff_eq] at h
    obtain ⟨⟨⟨rfl, hw⟩, hs⟩, hr⟩ := h
    obtain ⟨x, hx⟩ := hall 0 (t, o) rfl
    simp only [widths] at hl
    have h1 := rdb_of s t fuel _ x hs hx
    have h2 := rdbs_of l r (o + s.width) fuel cs hr (fun i to hi => hall (i + 1) to (by simpa using hi)) (by omega)
    rw [hw] at h1
    have e : cs.drop o = (cs.drop o).take s.width ++ cs.drop (o + s.width) := by
      rw [← List.drop_drop]
      exact (List.take_append_drop _ _).symm
    rw [e]
    exact .cons h1 h2
end

/-- an argument, by its shape -/
def Arg (W : World) (s : Sh) (v : Value) : Prop := match s with
  | .part l => ∃ cs : List Value, v = .agg cs.toArray ∧ RdbL W l cs
  | s => Rdb W s [v]
def Args (W : World) : List Sh → List Value → Prop
  | [], [] => True
  | s :: l, v :: r => Arg W s v ∧ Args W l r
  | _, _ => False

theorem arg_of {s : Sh} {t : TypeId} {v : Value} {d : DataW H} {p : List MemPlace} {b0 : Nat} (h : shOk P s t = true) (hv : Value.okWide P w .any b0 t v) (hd : DataW.Trod enc P w 0 sp held t v d p) : Arg w s v := by
  obtain ⟨fuel, hf⟩ := hd
  have h1 := rdb_of s t fuel _ _ h hf
  cases s with
  | part l =>
    simp only [shOk, Bool.and_eq_true] at h
    have : ∃ cs, v = .agg cs := by
      obtain ⟨_, h⟩ := h
      split at h
      · rename_i fs hu
        obtain ⟨cs, rfl, _⟩ := okWide_struct hu hv
        exact ⟨cs, rfl⟩
      · rename_i n el hu
        unfold Value.okWide at hv
        rw [hu] at hv
        obtain ⟨cs, rfl, _⟩ := hv
        exact ⟨cs, rfl⟩
      · simp at h
    obtain ⟨cs, rfl⟩ := this
    refine ⟨cs.toList, by simp, ?_⟩
    cases h1 with
    | part h => simpa [Value.cells] using h
  | int k =>
    simp only [shOk, Bool.and_eq_true] at h
    split at h
    · rename_i k' hu
      obtain ⟨n, rfl⟩ := okWide_int hu hv
      unfold Arg; simpa [Value.cells] using h1
    · simp at h
  | bool =>
    simp only [shOk, Bool.and_eq_true] at h
    split at h
    · rename_i hu
      obtain ⟨n, rfl⟩ := okWide_bool hu hv
      unfold Arg; simpa [Value.cells] using h1
    · simp at h
  | str =>
    simp only [shOk, Bool.and_eq_true] at h
    split at h
    · rename_i hu
      obtain ⟨n, rfl⟩ := okWide_string hu hv
      unfold Arg; simpa [Value.cells] using h1
    · simp at h
  | row e =>
    simp only [shOk, Bool.and_eq_true] at h
    split at h
    · rename_i el hu
      obtain ⟨a, n, c, rfl⟩ := okWide_slice hu hv
      unfold Arg; simpa [Value.cells] using h1
    · simp at h

theorem args_of {b0 : Nat} : ∀ {ss : List Sh} {ts : List TypeId} {vs : List Value} {ds : List (DataW H)} {p : List MemPlace}, (ss.length = ts.length) → (∀ st ∈ ss.zip ts, shOk P st.1 st.2 = true) →
    (∀ (j : Nat) t v, ts[j]? = some t → vs[j]? = some v → Value.okWide P w .any b0 t v) → DataW.TrodAll enc P w 0 sp held ts vs ds p → Args w ss vs
  | [], [], vs, ds, p, _, _, _, h => by
    obtain ⟨rfl, rfl, rfl⟩ := trodAll_nil h
    trivial
  | s :: ss, t :: ts, vs, ds, p, hl, hs, hv, h => by
    obtain ⟨v, vs1, d, ds1, a, b, rfl, rfl, rfl, h1, h2⟩ := trodAll_cons h
    exact ⟨arg_of (hs (s, t) (by simp)) (hv 0 t v rfl rfl) h1, args_of (by simpa using hl) (fun st hst => hs st (by simp [hst])) (fun j t v h3 h4 => hv (j + 1) t v (by simpa using h3) (by simpa using h4)) h2⟩
  | [], _ :: _, _, _, _, hl, _, _, _ => by simp at hl
  | _ :: _, [], _, _, _, hl, _, _, _ => by simp at hl

/-! ### From the walk to the row -/
theorem below_trodAll (hl : laidOutB P = true) {W W' : World} (hb : Below W.heap.size W W') : ∀ {ts : List TypeId} {vs : List Value} {ds : List (DataW H)} {p : List MemPlace}, (∀ t ∈ ts, P.readableRec t = true ∧ t < P.types.size) →
    DataW.TrodAll enc P W 0 (fun _ => true) true ts vs ds p → (∀ x ∈ p, x.block < W.heap.size) → DataW.TrodAll enc P W' 0 (fun b => decide (b < W.heap.size)) true ts vs ds p
  | [], _, _, _, _, h, _ => by
    obtain ⟨rfl, rfl, rfl⟩ := trodAll_nil h
    rfl
  | t :: ts, _, _, _, ht, h, hp => by
    obtain ⟨v, vs1, d, ds1, a, b, rfl, rfl, rfl, h1, h2⟩ := trodAll_cons h
    have h3 := ht t (by simp)
    exact ⟨a, b, Below.trod hl h3.1 h3.2 h1 hb (fun x hx => hp x (by simp [hx])), below_trodAll hl hb (fun t h => ht t (by simp [h])) h2 (fun x hx => hp x (by simp [hx])), rfl⟩

theorem Ext.kept {W W' : World} (h : Ext W W') (may : MemPlace → Prop) : W.keptBut W' may := by
  refine ⟨h.same.os, h.same.output, fun i hi => ?_⟩
  rw [h.old i hi]
  cases hh : W.heap[i]? with
  | none => trivial
  | some o => cases o <;> simp

theorem post_true {fn : Func} {s : ChangeSpec} {W W' : World} {args : Array Value} {ds gs : List (DataW H)} {before : List MemPlace} {tb : TypeId} (hl : laidOutB P = true) (htb : P.underlying tb = some .bool) (hres : fn.resultTypes = #[tb]) (hvars : s.vars = [])
    (hspec : ∀ ds : List (DataW H), ds.length = fn.params.size → s.fn H ds = { results := [.lit (.bool true)], args := ds }) (hread : ∀ t ∈ fn.params.toList, P.readableRec t = true ∧ t < P.types.size)
    (hW : DataW.Whole enc P fn.params.toList s.vars false W args.toList ds gs before) (hx : Ext W W') : s.post enc P fn false true false false W args (.bool true) W' := by
  have hW' := hW
  obtain ⟨p, q, h1, h2, rfl, h3, h4⟩ := hW
  rw [hvars] at h2
  obtain ⟨rfl, rfl⟩ : gs = [] ∧ q = [] := by
    cases gs with
    | nil => exact ⟨rfl, h2⟩
    | cons g r => exact absurd h2 (by intro h; cases h)
  have hlen : ∀ {ts : List TypeId} {vs : List Value} {ds : List (DataW H)} {p : List MemPlace}, DataW.TrodAll enc P W 0 (fun _ => true) true ts vs ds p → ds.length = ts.length := by
    intro ts
    induction ts with
    | nil => intro vs ds p h; obtain ⟨rfl, rfl, rfl⟩ := trodAll_nil h; rfl
    | cons t ts ih =>
      intro vs ds p h
      obtain ⟨v, vs1, d, ds1, a, b, rfl, rfl, rfl, h1, h2⟩ := trodAll_cons h
      simp [ih h2]
  have e := hspec ds (by simpa using hlen h1)
  refine ⟨ds, [], p ++ [], [], p, [], hW', ?_, ?_, ?_, hx.kept _, fun h => by cases h⟩
  · rw [List.append_nil, e, hres]
    exact ⟨[], [], ⟨1, by simp [DataW.trod, Value.cells, htb]⟩, rfl, rfl⟩
  · rw [List.append_nil, e]
    exact below_trodAll hl hx.below hread h1 fun x hx => hW'.lt x (by simp [hx])
  · rw [List.append_nil, e, hvars]
    rfl
end
end Go.Proofs.YtgnmelnohclpgaaDoor
