/- Coding: bytes, cursors, integers, errors, strings: what each function answers. -/
import Derived.Test.YtgnmelnohclpgaaDoorSxU
import Derived.Test.YtgnmelnohclpgaaDoorFlB
import Derived.Test.YtgnmelnohclpgaaDoorGnC
import Derived.Test.YtgnmelnohclpgaaDoorGnD
import Derived.Test.YtgnmelnohclpgaaDoorLwE
import Derived.LaidEql
import Derived.Laws.Externs
import Derived.Stop.Asserts
import Derived.RowKitTokens
set_option linter.unusedVariables false
set_option linter.unusedSimpArgs false
namespace Go.Proofs.YtgnmelnohclpgaaDoor
open Go Go.RowKit

/-! ### Bytes that are read -/
def str (l : List UInt8) : Value := .string ⟨l.toArray⟩
theorem str_nil : str [] = .string ⟨#[]⟩ := rfl
instance {l : List UInt8} : One (str l) := ⟨rfl⟩
instance {l : List UInt8} : Cel (str l) [str l] := ⟨rfl⟩
def by1 (x : UInt8) : Value := .int .u8 x.toNat
instance {x : UInt8} : One (by1 x) := ⟨rfl⟩
theorem bytesCells_map (l : List UInt8) : bytesCells l = l.map by1 := rfl
theorem bytesCells_get {l : List UInt8} {i : Nat} {x : UInt8} (h : l[i]? = some x) : (bytesCells l)[i]? = some (by1 x) := by simp [bytesCells_map, h]
theorem bytesCells_len (l : List UInt8) : (bytesCells l).length = l.length := by simp [bytesCells_map]

/-- a slice's bytes in memory -/
def RdB (w : World) (v : Value) (l : List UInt8) : Prop := (v = .slice none 0 0 ∧ l = []) ∨ ∃ p c, v = .slice (some p) l.length c ∧ l.length ≤ c ∧ ∀ (i : Nat) (x : UInt8), l[i]? = some x → w.cell? (p.add i) = some (by1 x)
theorem cell_lt {w : World} {a : Addr} {v : Value} (h : w.cell? a = some v) : a.block < w.heap.size := by
  unfold World.cell? at h
  apply Nat.lt_of_not_le
  intro hle
  rw [Array.getElem?_eq_none hle] at h
  simp at h
theorem cell_same {w w' : World} {a : Addr} (h : w'.heap[a.block]? = w.heap[a.block]?) : w'.cell? a = w.cell? a := by
  unfold World.cell?
  rw [h]
theorem add_block (a : Addr) (n : Nat) : (a.add n).block = a.block := by unfold Addr.add; split <;> rfl
def blkOf : Value → List UInt8 → List Nat
  | .slice (some p) _ _, _ :: _ => [p.block]
  | _, _ => []
def vwP (v : Value) (l : List UInt8) (w : World) (fp o : List Nat) : Prop := fp = blkOf v l ∧ o = [] ∧ RdB w v l
theorem RdB.loc {w w' : World} {v : Value} {l : List UInt8} (h : RdB w v l) (hs : ∀ r, r ∈ blkOf v l → w'.heap[r]? = w.heap[r]?) : RdB w' v l := by
  rcases h with ⟨rfl, rfl⟩ | ⟨p, c, rfl, hc, h⟩
  · exact .inl ⟨rfl, rfl⟩
  · refine .inr ⟨p, c, rfl, hc, fun i x hx => ?_⟩
    cases l with
    | nil => simp at hx
    | cons y l =>
      rw [cell_same]
      · exact h i x hx
      · rw [add_block]; exact hs _ (by simp [blkOf])
theorem RdB.lt {w : World} {v : Value} {l : List UInt8} (h : RdB w v l) : ∀ r, r ∈ blkOf v l → r < w.heap.size := by
  intro r hr
  rcases h with ⟨rfl, rfl⟩ | ⟨p, c, rfl, hc, h⟩
  · simp [blkOf] at hr
  · cases l with
    | nil => simp [blkOf] at hr
    | cons y l =>
      obtain rfl : r = p.block := by simpa [blkOf] using hr
      have := cell_lt (h 0 y rfl)
      rwa [add_block] at this
/-- bytes that nobody writes -/
def vw (v : Value) (l : List UInt8) : Item :=
  ⟨vwP v l, fun h hs => by obtain ⟨rfl, rfl, h⟩ := h; exact ⟨rfl, rfl, h.loc hs⟩, fun h => by obtain ⟨rfl, rfl, h⟩ := h; exact h.lt, fun h r hr => by obtain ⟨rfl, rfl, h⟩ := h; simp at hr⟩

theorem Has.vw {L : List Item} {w : World} {v : Value} {l : List UInt8} (h : Has L w) (hm : InI (vw v) l L) : RdB w v l := by
  obtain ⟨fp, o, hp⟩ := h.get hm.mem
  exact hp.2.2

/-- bytes of one's own, in a row of their own -/
def OwB (w : World) (v : Value) (l : List UInt8) (fp : List Nat) : Prop := (v = .slice none 0 0 ∧ l = [] ∧ fp = []) ∨
  ∃ b r, v = .slice (some ⟨b, 0, none⟩) l.length (l.length + r.length) ∧ fp = [b] ∧ w.heap[b]? = some (.cells (bytesCells l ++ r).toArray 5 (0, 0))
def bytP (v : Value) (l : List UInt8) (w : World) (fp o : List Nat) : Prop := o = fp ∧ OwB w v l fp
theorem OwB.loc {w w' : World} {v : Value} {l : List UInt8} {fp : List Nat} (h : OwB w v l fp) (hs : ∀ r, r ∈ fp → w'.heap[r]? = w.heap[r]?) : OwB w' v l fp := by
  rcases h with ⟨rfl, rfl, rfl⟩ | ⟨b, r, rfl, rfl, h⟩
  · exact .inl ⟨rfl, rfl, rfl⟩
  · exact .inr ⟨b, r, rfl, rfl, (hs b (by simp)).trans h⟩
theorem OwB.lt {w : World} {v : Value} {l : List UInt8} {fp : List Nat} (h : OwB w v l fp) : ∀ r, r ∈ fp → r < w.heap.size := by
  rcases h with ⟨rfl, rfl, rfl⟩ | ⟨b, r, rfl, rfl, h⟩
  · simp
  · intro r hr
    obtain rfl : r = b := by simpa using hr
    exact (Array.getElem?_eq_some_iff.1 h).1
def byt (v : Value) (l : List UInt8) : Item :=
  ⟨bytP v l, fun h hs => by obtain ⟨rfl, h⟩ := h; exact ⟨rfl, h.loc hs⟩, fun h => by obtain ⟨rfl, h⟩ := h; exact h.lt, fun h r hr => by obtain ⟨rfl, h⟩ := h; exact hr⟩
theorem OwB.rd {w : World} {v : Value} {l : List UInt8} {fp : List Nat} (h : OwB w v l fp) : RdB w v l := by
  rcases h with ⟨rfl, rfl, rfl⟩ | ⟨b, r, rfl, rfl, h⟩
  · exact .inl ⟨rfl, rfl⟩
  · refine .inr ⟨⟨b, 0, none⟩, _, rfl, by omega, fun i x hx => ?_⟩
    rw [add_none, cell_of h]
    have := bytesCells_get hx
    have hlt : i < (bytesCells l).length := (List.getElem?_eq_some_iff.1 this).1
    simp [List.getElem?_append_left hlt, this]

section
variable {M : List Nat} {w0 w : World} {L R : List Item} {v u : Value} {l m : List UInt8}

theorem St.frz (S : St M w0 w (byt v l :: L)) : St M w0 w (vw v l :: L) := by
  obtain ⟨F, O, h1, h2⟩ := S.has
  cases h1 with
  | @cons _ _ fp o F2 O2 k1 k2 k3 k4 =>
    obtain ⟨rfl, hb⟩ := k1
    have hsub : ∀ r, r ∈ blkOf v l → r ∈ o := by
      rcases hb with ⟨rfl, rfl, rfl⟩ | ⟨b, r, rfl, rfl, h⟩
      · simp [blkOf]
      · intro r hr; cases l <;> simp [blkOf] at hr; simp [hr]
    exact ⟨S.size, S.old, S.same, _, _, .cons (I := vw v l) ⟨rfl, rfl, hb.rd⟩ k2 (by simp) (fun r hr => k4 r (hsub r hr)), fun r hr => h2 r (by simp at hr; simp [hr])⟩

theorem byt_nil (S : St M w0 w L) : St M w0 w (byt (.slice none 0 0) [] :: L) := by
  obtain ⟨F, O, h1, h2⟩ := S.has
  exact ⟨S.size, S.old, S.same, _, _, .cons (I := byt (.slice none 0 0) []) ⟨rfl, .inl ⟨rfl, rfl, rfl⟩⟩ h1 (by simp) (by simp), by simpa using h2⟩
theorem vw_nil (S : St M w0 w L) : St M w0 w (vw (.slice none 0 0) [] :: L) := (byt_nil S).frz

/-- a literal of bytes -/
theorem St.bytes {vs : List Value} {K : Cont} (S : St M w0 w L) (he : vs = bytesCells l) (hk : ∀ w' v, St M w0 w' (byt v l :: L) → K v w') : buildSX 5 1 vs w K := by
  subst he
  have e : (bytesCells l).flatMap (fun v => v.cells.toList) = bytesCells l := by
    rw [bytesCells_map]
    clear hk S
    induction l with
    | nil => rfl
    | cons x l ih => simp only [List.map_cons, List.flatMap_cons, ih]; rfl
  refine ⟨fun v hv => ?_, fun b w' h => ?_⟩
  · rw [bytesCells_map] at hv
    obtain ⟨x, _, rfl⟩ := List.mem_map.1 hv
    rfl
  · rw [e] at h
    have hn := hk w' (.slice (some ⟨b, 0, none⟩) l.length l.length) (S.newI (I := byt _ _) (by rw [h.size]; omega) h.old h.same ⟨rfl, .inr ⟨b, [], by simp, rfl, by simpa using h.obj⟩⟩ (fun r hr => by rw [List.mem_singleton.1 hr, h.isNew]; exact Nat.le_refl _))
    rw [bytesCells_len]
    exact hn

theorem RdB.reads (h : RdB w v l) : ∃ n c a, v = .slice a n c ∧ n = l.length ∧ n ≤ c ∧ readsX 1 v w n (bytesCells l) := by
  rcases h with ⟨rfl, rfl⟩ | ⟨p, c, rfl, hc, h⟩
  · exact ⟨0, 0, none, rfl, rfl, by omega, rfl⟩
  · refine ⟨_, c, some p, rfl, rfl, hc, by rw [bytesCells_len]; omega, fun i x hx => ?_⟩
    simp only [bytesCells_map, List.getElem?_map, Option.map_eq_some_iff] at hx
    obtain ⟨y, hy, rfl⟩ := hx
    exact h i y hy
theorem bytesCells_one (l : List UInt8) : ∀ x ∈ bytesCells l, x.oneCell' = true := by
  intro x hx
  rw [bytesCells_map] at hx
  obtain ⟨y, _, rfl⟩ := List.mem_map.1 hx
  rfl
theorem putAll_behind (l r m : List Value) (h : m.length ≤ r.length) : putAll (l ++ r).toArray l.length m = (l ++ m ++ r.drop m.length).toArray := by
  rw [putAll_over]
  congr 1
  have := over_at m l (r.take m.length) (by simp [h])
  have e : ∀ (m c1 c2 c3 : List Value), c2.length = m.length → over (c1 ++ (c2 ++ c3)) c1.length m = c1 ++ (m ++ c3) := by
    intro m
    induction m with
    | nil => intro c1 c2 c3 h; cases c2 <;> simp_all [over]
    | cons x m ih =>
      intro c1 c2 c3 h
      cases c2 with
      | nil => simp at h
      | cons y c2 =>
        simp only [over]
        have h1 : (c1 ++ (y :: c2 ++ c3)).set c1.length x = (c1 ++ [x]) ++ (c2 ++ c3) := by simp [List.set_append]
        rw [h1]
        have := ih (c1 ++ [x]) c2 c3 (by simpa using h)
        simp only [List.length_append, List.length_cons, List.length_nil, List.append_assoc, List.cons_append, List.nil_append] at this ⊢
        exact this
  have := e m l (r.take m.length) (r.drop m.length) (by simp [h])
  rw [List.take_append_drop] at this
  rw [this, List.append_assoc]

/-- append: bytes that are read are laid behind bytes of one's own -/
theorem St.append {K : Cont} (S : St M w0 w L) [hd : Pk (byt v) l L R] (hs : RdB w u m) (hl : l.length + m.length ≤ 2 ^ 40) (hk : ∀ w' v', St M w0 w' (byt v' (l ++ m) :: R) → K v' w') : appendX 5 1 1 [Value.int .u8 0] v u w K := by
  obtain ⟨F, O, h1, h2⟩ := (S.perm hd.p).has
  have S1 := S.perm hd.p
  obtain ⟨n, c, a, rfl, rfl, hnc, hr⟩ := hs.reads
  cases h1 with
  | @cons _ _ fp o F2 O2 k1 k2 k3 k4 =>
    obtain ⟨rfl, hb⟩ := k1
    have grow : ∀ (l' : List Value) (cap : Nat), l' = bytesCells l → ∀ b w' nc, l.length + m.length ≤ nc → New w w' b (.cells (l' ++ bytesCells m ++ zeros [Value.int .u8 0] (nc - (l.length + m.length))).toArray 5 (0, 0)) → K (.slice (some ⟨b, 0, none⟩) (l.length + m.length) nc) w' := by
      intro l' cap e b w' nc hnc h
      subst e
      have hz : (zeros [Value.int .u8 0] (nc - (l.length + m.length))).length = nc - (l.length + m.length) := by
        unfold zeros
        generalize nc - (l.length + m.length) = k
        induction k with
        | zero => rfl
        | succ k ih => simp [List.replicate_succ]
      have := hk w' (.slice (some ⟨b, 0, none⟩) (l ++ m).length ((l ++ m).length + (zeros [Value.int .u8 0] (nc - (l.length + m.length))).length)) ((S1.drop).newI (I := byt _ _) (by rw [h.size]; omega) h.old h.same ⟨rfl, .inr ⟨b, zeros [Value.int .u8 0] (nc - (l.length + m.length)), rfl, rfl, by
        have e : bytesCells (l ++ m) = bytesCells l ++ bytesCells m := by simp [bytesCells_map]
        rw [e]; exact h.obj⟩⟩ (fun r hr => by rw [List.mem_singleton.1 hr, h.isNew]; exact Nat.le_refl _))
      rw [hz, List.length_append, show l.length + m.length + (nc - (l.length + m.length)) = nc by omega] at this
      exact this
    rcases hb with ⟨rfl, rfl, rfl⟩ | ⟨b, r, rfl, rfl, hblk⟩
    · refine ⟨_, [], _, rfl, rfl, hr, bytesCells_one m, ?_, ?_⟩
      · intro h0
        have hm : m = [] := List.eq_nil_of_length_eq_zero (by omega)
        subst hm
        have S' := hk w (.slice none 0 0) (by simpa using S1)
        simpa using S'
      · intro _
        refine ⟨by simp only [List.length_nil] at hl; omega, fun b w' nc h1 h => ?_⟩
        have := grow [] 0 rfl b w' nc (by simpa using h1) (by simpa using h)
        simpa using this
    · refine ⟨_, bytesCells l, _, rfl, ⟨by rw [bytesCells_len]; omega, fun i x hx => ?_⟩, hr, bytesCells_one m, ?_, ?_⟩
      · rw [add_none, cell_of hblk]
        have hlt : i < (bytesCells l).length := (List.getElem?_eq_some_iff.1 hx).1
        simp [List.getElem?_append_left hlt, hx]
      · intro h0
        refine ⟨_, _, _, hblk, by simp [bytesCells_len]; omega, thawed0 _ _, fun w' hst => ?_⟩
        have e : putAll (bytesCells l ++ r).toArray (0 + l.length * 1) (bytesCells m) = (bytesCells (l ++ m) ++ r.drop m.length).toArray := by
          have := putAll_behind (bytesCells l) r (bytesCells m) (by rw [bytesCells_len]; omega)
          rw [bytesCells_len] at this
          rw [show 0 + l.length * 1 = l.length by omega, this, bytesCells_len]
          simp [bytesCells_map]
        rw [e] at hst
        have hbo := h2 b (by simp)
        have := hk w' (.slice (some ⟨b, 0, none⟩) (l ++ m).length ((l ++ m).length + (r.drop m.length).length)) (by
          refine ⟨by rw [hst.size]; exact S.size, fun q hq hM => (hst.old q ?_).trans (S.old q hq hM), S.same.trans hst.same, _, _, .cons (I := byt _ _) ⟨rfl, .inr ⟨b, r.drop m.length, rfl, rfl, hst.obj⟩⟩ (k2.loc fun q hq => hst.old q ?_) k3 k4, h2⟩
          · rintro rfl
            rcases hbo with h | h
            · exact hM h
            · omega
          · rintro rfl
            exact k3 q (by simp) hq)
        simp only [List.length_append, List.length_drop] at this
        rw [show l.length + m.length + (r.length - m.length) = l.length + r.length by omega] at this
        exact this
      · intro _
        exact ⟨by omega, fun b w' nc h1 h => grow _ 0 rfl b w' nc h1 h⟩

theorem RdB.one (h : RdB w v l) : One v := by
  rcases h with ⟨rfl, rfl⟩ | ⟨p, c, rfl, hc, h⟩
  · infer_instance
  · infer_instance
/-- string(b) -/
theorem RdB.str {K : Value → Prop} (h : RdB w v l) (hk : K (.string ⟨l.toArray⟩)) : strX v w K := by
  rcases h with ⟨rfl, rfl⟩ | ⟨p, c, rfl, hc, h⟩
  · exact hk
  · exact ⟨l, rfl, fun i x hx => h i x hx, hk⟩
instance {K : Value → Prop} [S : St M w0 w L] [h : InI (vw v) l L] : Stp (strX v w K) (K (str l)) := ⟨(S.hs.vw h).str⟩
theorem strH_i {K : Value → Prop} (S : Has L w) (hm : InI (vw v) l L) (hk : K (str l)) : strH (Has L) v K := by
  rcases S.vw hm with ⟨rfl, rfl⟩ | ⟨p, c, rfl, hc, h⟩
  · exact hk
  · refine ⟨l, rfl, fun w' h' i x hx => ?_, hk⟩
    rcases h'.vw hm with ⟨h1, _⟩ | ⟨p', c', h1, _, h2⟩
    · cases h1
    · cases h1
      exact h2 i x hx
theorem RdB.len {K : Value → Prop} (h : RdB w v l) (hk : K (.int .i64 (l.length : Nat))) : lenSX v K := by
  rcases h with ⟨rfl, rfl⟩ | ⟨p, c, rfl, hc, h⟩
  · exact hk
  · exact hk
/-- b[i] -/
theorem RdB.at {K : Value → Prop} {i : Nat} {x : UInt8} (h : RdB w v l) (hx : l[i]? = some x) (hk : K (by1 x)) : indexSX 1 v (.int .i64 (i : Nat)) fun t => load1X t w K := by
  rcases h with ⟨rfl, rfl⟩ | ⟨p, c, rfl, hc, h⟩
  · simp at hx
  · have hlt := (List.getElem?_eq_some_iff.1 hx).1
    exact ⟨by omega, by omega, _, by rw [show ((i : Nat) : Int).toNat * 1 = i by omega]; exact h i x hx, hk⟩
theorem cells_add' (a : Addr) (i j : Nat) : (a.add i).add j = a.add (i + j) := by
  unfold Addr.add
  by_cases hi : i = 0 <;> by_cases hj : j = 0 <;> simp [hi, hj, Nat.add_assoc]
/-- what is read alone may be known twice -/
theorem Hold.ro {w : World} {L : List Item} {F O : List Nat} (h : Hold w L F O) {I : Item} (hm : I ∈ L) (hI : ∀ w fp o, I.P w fp o → o = []) : ∃ fp, I.P w fp [] ∧ ∀ r, r ∈ fp → r ∉ O := by
  induction h with
  | nil => simp at hm
  | @cons J l fp o F O h1 h2 h3 h4 ih =>
    rcases List.mem_cons.1 hm with rfl | hm
    · obtain rfl := hI _ _ _ h1
      exact ⟨fp, h1, fun r hr hO => h4 r hr (by simpa using hO)⟩
    · obtain ⟨fp', k1, k2⟩ := ih hm
      have hsub : ∀ {L : List Item} {F O : List Nat}, Hold w L F O → I ∈ L → ∃ fp'', I.P w fp'' [] ∧ (∀ r, r ∈ fp'' → r ∈ F) ∧ (∀ r, r ∈ fp'' → r ∉ O) := by
        intro L F O h hm
        induction h with
        | nil => simp at hm
        | @cons J l fp o F O g1 g2 g3 g4 ih =>
          rcases List.mem_cons.1 hm with rfl | hm
          · obtain rfl := hI _ _ _ g1
            exact ⟨fp, g1, fun r hr => by simp [hr], fun r hr hO => g4 r hr (by simpa using hO)⟩
          · obtain ⟨fq, q1, q2, q3⟩ := ih hm
            refine ⟨fq, q1, fun r hr => by simp [q2 r hr], fun r hr hO => ?_⟩
            rcases List.mem_append.1 hO with hO | hO
            · exact g3 r hO (q2 r hr)
            · exact q3 r hr hO
      obtain ⟨fq, q1, q2, q3⟩ := hsub h2 hm
      refine ⟨fq, q1, fun r hr hO => ?_⟩
      rcases List.mem_append.1 hO with hO | hO
      · exact h3 r hO (q2 r hr)
      · exact q3 r hr hO
theorem St.vwSub {v' : Value} {l' : List UInt8} (S : St M w0 w L) (hm : InI (vw v) l L) (h : RdB w v' l') (hb : ∀ r, r ∈ blkOf v' l' → r ∈ blkOf v l) : St M w0 w (vw v' l' :: L) := by
  obtain ⟨F, O, h1, h2⟩ := S.has
  obtain ⟨fp, ⟨rfl, _, _⟩, k2⟩ := h1.ro hm.mem (fun w fp o h => h.2.1)
  exact ⟨S.size, S.old, S.same, _, _, .cons (I := vw v' l') ⟨rfl, rfl, h⟩ h1 (by simp) (fun r hr => k2 r (hb r hr)), by simpa using h2⟩
/-- b[lo:hi] -/
theorem St.cut {K : Value → Prop} {lo hi : Nat} (S : St M w0 w L) (hm : InI (vw v) l L) (h1 : lo ≤ hi) (h2 : hi ≤ l.length) (hk : ∀ v', St M w0 w (vw v' ((l.take hi).drop lo) :: L) → K v') {o1 o2 o3 : Option Value} (e1 : natOf o1 0 = some lo)
    (e2 : natOf o2 l.length = some hi) (e3 : o3 = none ∨ o3 = o2 ∧ o2.isSome = true) : sliceX 1 v o1 o2 o3 K := by
  have hr := S.hs.vw hm
  rcases hr with ⟨rfl, rfl⟩ | ⟨p, c, rfl, hc, h⟩
  · simp only [List.length_nil, Nat.le_zero] at h2
    subst h2
    obtain rfl : lo = 0 := by omega
    have e3' : natOf o3 0 = some 0 := by
      rcases e3 with e | ⟨e, hs⟩
      · rw [e]; rfl
      · rw [e]; exact e2
    refine ⟨0, 0, 0, e3', e2, e1, by omega, by omega, by omega, ?_, ?_⟩
    · intro h; rcases e3 with e | ⟨e, hs⟩
      · rw [e] at h; simp at h
      · exact hs
    · have := hk (.slice none 0 0) (by simpa using vw_nil S)
      simpa using this
  · obtain ⟨m, hm1, hm2, hm3⟩ : ∃ m, natOf o3 c = some m ∧ hi ≤ m ∧ m ≤ c := by
      rcases e3 with e | ⟨e, hs⟩
      · rw [e]; exact ⟨c, rfl, by omega, by omega⟩
      · rw [e]
        refine ⟨hi, ?_, by omega, by omega⟩
        cases o2 with
        | none => simp at hs
        | some x => cases x <;> exact e2
    refine ⟨lo, hi, m, hm1, e2, e1, h1, hm2, hm3, ?_, ?_⟩
    · intro h; rcases e3 with e | ⟨e, hs⟩
      · rw [e] at h; simp at h
      · exact hs
    · have hlen : ((l.take hi).drop lo).length = hi - lo := by simp; omega
      have key : ∀ q : Addr, (lo < hi → q = p.add lo) → K (.slice (some q) (hi - lo) (m - lo)) := by
        intro q hq
        have hrd : RdB w (.slice (some q) (hi - lo) (m - lo)) ((l.take hi).drop lo) := by
          refine .inr ⟨q, m - lo, by rw [hlen], by rw [hlen]; omega, fun i x hx => ?_⟩
          have hlt := (List.getElem?_eq_some_iff.1 hx).1
          rw [hlen] at hlt
          rw [hq (by omega)]
          have hx' : l[lo + i]? = some x := by
            rw [List.getElem?_drop, List.getElem?_take] at hx
            rw [if_pos (by omega)] at hx
            exact hx
          have := h (lo + i) x hx'
          rw [← this, cells_add']
        have hS := S.vwSub hm hrd (fun r hr => ?_)
        · exact hk _ hS
        · unfold blkOf at hr ⊢
          split at hr
          · rename_i q' n' c' y l' e1 e2
            cases e1
            rw [hq (by have := congrArg List.length e2; rw [hlen] at this; simp at this; omega), add_block] at hr
            cases l with
            | nil => simp at e2
            | cons y' l'' => simpa using hr
          · simp at hr
      by_cases hml : m = lo
      · simp only [hml, if_true]
        have := key p (fun h => by omega)
        rwa [hml] at this
      · simp only [hml, if_false, Option.map_some, Nat.mul_one]
        exact key _ fun _ => rfl
end
end Go.Proofs.YtgnmelnohclpgaaDoor

namespace Go.Proofs.YtgnmelnohclpgaaDoor
open Go Go.RowKit

/-! ### The plain law -/
def groups (u : Nat) : List UInt8 := if h : u < 128 then [u.toUInt8] else (u % 128 + 128).toUInt8 :: groups (u / 128)
termination_by u
decreasing_by omega
def zig (v : Int) : Nat := if 0 ≤ v then (2 * v).toNat else (-2 * v - 1).toNat
def zag (u : Nat) : Int := if u % 2 = 0 then (u / 2 : Nat) else -((u / 2 : Nat) : Int) - 1
def putI (v : Int) : List UInt8 := groups (zig v)
theorem groups_small {u : Nat} (h : u < 128) : groups u = [u.toUInt8] := by rw [groups, dif_pos h]
theorem groups_big {u : Nat} (h : 128 ≤ u) : groups u = (u % 128 + 128).toUInt8 :: groups (u / 128) := by rw [groups, dif_neg (by omega)]
theorem groups_len (u : Nat) (n : Nat) (h : u < 128 ^ n) (hn : 0 < n) : (groups u).length ≤ n := by
  induction n generalizing u with
  | zero => omega
  | succ n ih =>
    by_cases h1 : u < 128
    · rw [groups_small h1]; simp
    · rw [groups_big (by omega)]
      cases n with
      | zero => simp at h; omega
      | succ n =>
        have := ih (u / 128) (by rw [Nat.pow_succ] at h; omega) (by omega)
        simp only [List.length_cons]
        omega
theorem putI_len (v : Int) (h : -9223372036854775808 ≤ v ∧ v < 9223372036854775808) : (putI v).length ≤ 10 := by
  refine groups_len _ 10 ?_ (by omega)
  unfold zig
  split <;> omega

theorem by1_of {n : Nat} (h : n < 256) : by1 n.toUInt8 = .int .u8 (n : Int) := by
  unfold by1
  rw [UInt8.toNat_ofNat_of_lt' (by simpa using h)]
theorem or128 : ∀ n : Nat, n < 256 → bitsV .u8 (fun p q => p ||| q) (n : Int) 128 = ((n % 128 + 128 : Nat) : Int) := by
  have h : ∀ n : Fin 256, bitsV .u8 (fun p q => p ||| q) (n.val : Int) 128 = ((n.val % 128 + 128 : Nat) : Int) := by decide +kernel
  exact fun n hn => h ⟨n, hn⟩
theorem wu8 (n : Nat) : IntKind.u8.wrap (n : Int) = ((n % 256 : Nat) : Int) := by rw [IntKind.wrap_u8]; omega

section
variable {M : List Nat} {w0 w : World} {L R : List Item} {v u : Value} {l m : List UInt8} {K : Cont}

theorem f117 [hm : InI (vw v) l L] (S : St M w0 w L) (hl : l.length ≤ 2 ^ 30) (hk : ∀ w' v', St M w0 w' (byt v' l :: L) → K v' w') : callX Tryd.prog 117 [v] w K := by
  refine c117 _ _ _ ?_
  unfold s117
  have go : buildSX 5 1 [] w fun t2 w1 => appendX 5 1 1 [Value.int IntKind.u8 0] t2 v w1 fun t3 w2 => K t3 w2 := by
    refine S.bytes (l := []) rfl fun w1 v1 S1 => ?_
    exact S1.append (m := l) (S1.hs.vw inferInstance) (by simp; omega) fun w2 v2 S2 => by simpa using hk _ _ S2
  rcases S.hs.vw hm with ⟨rfl, rfl⟩ | ⟨p, c, rfl, hc, h⟩
  · (repeat refine Stp.h ?_)
    exact hk _ _ (byt_nil S)
  · (repeat refine Stp.h ?_)
    exact go

theorem f146 {n : Nat} (S : St M w0 w (byt v l :: L)) (hn : n < 2 ^ 64) (hl : l.length ≤ 2 ^ 31) (hk : ∀ w' v', St M w0 w' (byt v' (l ++ groups n) :: L) → K v' w') : callX Tryd.prog 146 [v, .int .u64 n] w K := by
  refine c146 _ _ _ _ ?_
  unfold s146
  have hg := groups_len n 10 (by omega) (by omega)
  refine ⟨fun t1 t2 W => ∃ l' n', t2 = .int .u64 ((n' : Nat) : Int) ∧ n' < 2 ^ 64 ∧ St M w0 W (byt t1 l' :: L) ∧ l' ++ groups n' = l ++ groups n, fun t1 t2 W => match t2 with | .int _ i => i.toNat | _ => 0, ⟨l, n, rfl, hn, S, rfl⟩, ?_⟩
  rintro t1 t2 W ⟨l', n', rfl, hn', S, he⟩
  have hlen := congrArg List.length he
  simp only [List.length_append] at hlen
  (repeat refine Stp.h ?_)
  refine brX_d (fun h => ?_) (fun h => ?_)
  · have h : 128 ≤ n' := by omega
    (repeat refine Stp.h ?_)
    rw [wu8, or128 _ (by omega)]
    refine S.bytes (l := [(n' % 256 % 128 + 128).toUInt8]) (by show _ = [by1 _]; rw [by1_of (show n' % 256 % 128 + 128 < 256 by omega)]) fun w1 v1 S1 => ?_
    refine St.append (L := byt v1 _ :: byt t1 l' :: L) (R := byt v1 _ :: L) S1 (m := [(n' % 256 % 128 + 128).toUInt8]) ?_ (by simp; omega) fun w2 v2 S2 => ?_
    · obtain ⟨F, O, hh⟩ := S1.hs
      cases hh with
      | cons k1 => exact k1.2.rd
    · refine shrX_i (by omega) ?_
      have e : ((n' : Nat) : Int).fdiv (2 ^ min (7 : Int).toNat (IntKind.bits .u64)) = ((n' / 128 : Nat) : Int) := by
        show ((n' : Nat) : Int).fdiv 128 = _
        rw [Int.fdiv_eq_ediv_of_nonneg _ (by omega)]
        omega
      rw [e]
      refine ⟨⟨_, n' / 128, rfl, by omega, (S2.perm (.swap _ _ _)).drop, ?_⟩, ?_⟩
      · rw [← he, groups_big h, List.append_assoc, show n' % 256 % 128 = n' % 128 by omega]; rfl
      · show _ < _
        simp only [Int.toNat_natCast]
        omega
  · have h : n' < 128 := by omega
    (repeat refine Stp.h ?_)
    rw [wu8, Nat.mod_eq_of_lt (by omega)]
    refine S.bytes (l := [n'.toUInt8]) (by show _ = [by1 _]; rw [by1_of (show n' < 256 by omega)]) fun w1 v1 S1 => ?_
    refine St.append (L := byt v1 _ :: byt t1 l' :: L) (R := byt v1 _ :: L) S1 (m := [n'.toUInt8]) ?_ (by simp; omega) fun w2 v2 S2 => ?_
    · obtain ⟨F, O, hh⟩ := S1.hs
      cases hh with
      | cons k1 => exact k1.2.rd
    · rw [groups_small h] at he
      rw [he] at S2
      exact hk _ _ (S2.perm (.swap _ _ _)).drop

theorem f147 {x : Int} (hx : -9223372036854775808 ≤ x ∧ x < 9223372036854775808) (hk : K (.int .u64 (zig x : Nat)) w) : callX Tryd.prog 147 [.int .i64 x] w K := by
  refine c147 _ _ _ ?_
  unfold s147
  refine shlX_i (by omega) ?_
  (repeat refine Stp.h ?_)
  refine shrX_i (by omega) ?_
  (repeat refine Stp.h ?_)
  have e1 : IntKind.u64.wrap (IntKind.i64.wrap (x * 2 ^ min (1 : Int).toNat (IntKind.bits .i64))) = (2 * x) % 18446744073709551616 := by
    show IntKind.u64.wrap (IntKind.i64.wrap (x * 2)) = _
    rw [IntKind.wrap_i64, IntKind.wrap_u64]
    omega
  have e2 : x.fdiv (2 ^ min (63 : Int).toNat (IntKind.bits .i64)) = if 0 ≤ x then 0 else -1 := by
    show x.fdiv 9223372036854775808 = _
    rw [Int.fdiv_eq_ediv_of_nonneg _ (by omega)]
    split <;> omega
  rw [e1, e2]
  by_cases h : 0 ≤ x
  · rw [if_pos h]
    have hz : (2 * x) % 18446744073709551616 = ((zig x : Nat) : Int) := by unfold zig; rw [if_pos h]; omega
    rw [hz, show IntKind.u64.wrap 0 = (((0#64).toNat : Nat) : Int) by decide]
    have hlt : zig x < 2 ^ 64 := by unfold zig; rw [if_pos h]; omega
    have e3 : ((zig x : Nat) : Int) = (((BitVec.ofNat 64 (zig x)).toNat : Nat) : Int) := by rw [BitVec.toNat_ofNat, Nat.mod_eq_of_lt hlt]
    rw [e3, bv_xor]
    simpa [Nat.mod_eq_of_lt hlt] using hk
  · rw [if_neg h]
    have hlt : zig x < 2 ^ 64 := by unfold zig; rw [if_neg h]; omega
    have e3 : (2 * x) % 18446744073709551616 = (((~~~ BitVec.ofNat 64 (zig x)).toNat : Nat) : Int) := by
      rw [BitVec.toNat_not, BitVec.toNat_ofNat, Nat.mod_eq_of_lt hlt]
      unfold zig
      rw [if_neg h]
      omega
    rw [e3, show IntKind.u64.wrap (-1) = (((BitVec.allOnes 64).toNat : Nat) : Int) by decide +kernel, bv_xor]
    have e4 : ~~~ BitVec.ofNat 64 (zig x) ^^^ BitVec.allOnes 64 = BitVec.ofNat 64 (zig x) := by rw [BitVec.xor_allOnes, BitVec.not_not]
    rw [e4, BitVec.toNat_ofNat, Nat.mod_eq_of_lt hlt]
    exact hk

theorem zig_lt {x : Int} (hx : -9223372036854775808 ≤ x ∧ x < 9223372036854775808) : zig x < 2 ^ 64 := by unfold zig; split <;> omega

theorem f82 [hm : InI (vw v) l L] {x : Int} (S : St M w0 w L) (hx : -9223372036854775808 ≤ x ∧ x < 9223372036854775808) (hl : l.length ≤ 2 ^ 30) (hk : ∀ w' v', St M w0 w' (byt v' (l ++ putI x) :: L) → K v' w') : callX Tryd.prog 82 [v, .int .i64 x] w K := by
  refine c82 _ _ _ _ ?_
  unfold s82
  refine f117 S hl fun w1 v1 S1 => ?_
  refine f147 hx ?_
  exact f146 S1 (zig_lt hx) (by omega) hk
end
end Go.Proofs.YtgnmelnohclpgaaDoor

namespace Go.Proofs.YtgnmelnohclpgaaDoor
open Go Go.RowKit

/-! ### The plain law -/
def rdG : List UInt8 → Nat → Nat → Int ⊕ (Nat × List UInt8)
  | [], _, _ => .inl 10
  | x :: l, i, u => if (i = 9 ∧ 1 < x.toNat) ∨ (x.toNat = 0 ∧ 0 < i) then .inl 11 else if x.toNat < 128 then .inr (u + x.toNat % 128 * 2 ^ (7 * i), l) else rdG l (i + 1) (u + x.toNat % 128 * 2 ^ (7 * i))
/-- what is left, and what was wrong -/
abbrev Cu := List UInt8 × Int
def cRd (c : Cu) : Cu × Nat := if c.2 ≠ 0 then (c, 0) else match rdG c.1 0 0 with
  | .inl e => (([], e), 0)
  | .inr (u, l) => ((l, 0), u)
def cInt (c : Cu) : Cu × Int := ((cRd c).1, zag (cRd c).2)
def cSmall (most : Int) (c : Cu) : Cu × Int := if (cInt c).1.2 = 0 ∧ ((cInt c).2 < 0 ∨ most < (cInt c).2) then (([], 2), 0) else cInt c
theorem zag0 : zag 0 = 0 := rfl
theorem rdG_err : ∀ (l : List UInt8) (i u : Nat) (e : Int), rdG l i u = .inl e → e = 10 ∨ e = 11
  | [], i, u, e, h => by simp [rdG] at h; simp [← h]
  | x :: l, i, u, e, h => by
    simp only [rdG] at h
    split at h
    · simp at h; simp [← h]
    · split at h
      · simp at h
      · exact rdG_err l _ _ e h
theorem rdG_lt : ∀ (l : List UInt8) (i u : Nat), u < 2 ^ (7 * i) → i ≤ 9 → ∀ n r, rdG l i u = .inr (n, r) → n < 2 ^ 64 ∧ r.length < l.length
  | [], i, u, hu, hi, n, r, h => by simp [rdG] at h
  | x :: l, i, u, hu, hi, n, r, h => by
    simp only [rdG] at h
    split at h
    · simp at h
    · rename_i hb
      have hx : x.toNat % 128 * 2 ^ (7 * i) + 2 ^ (7 * i) ≤ if i = 9 then 2 ^ 64 else 2 ^ (7 * (i + 1)) := by
        split
        · rename_i h9
          subst h9
          have : x.toNat % 128 ≤ 1 := by omega
          omega
        · rw [show 7 * (i + 1) = 7 * i + 7 by omega, Nat.pow_add]
          have : x.toNat % 128 < 128 := Nat.mod_lt _ (by omega)
          have h2 : (x.toNat % 128 + 1) * 2 ^ (7 * i) ≤ 128 * 2 ^ (7 * i) := Nat.mul_le_mul_right _ (by omega)
          rw [Nat.add_mul] at h2
          omega
      have h64 : ∀ k, k ≤ 9 → 2 ^ (7 * k) ≤ 2 ^ 63 := fun k hk => Nat.pow_le_pow_right (by omega) (by omega)
      have hlt : u + x.toNat % 128 * 2 ^ (7 * i) < 2 ^ 64 := by
        split at hx
        · omega
        · have := h64 (i + 1) (by omega)
          omega
      split at h
      · simp at h
        obtain ⟨rfl, rfl⟩ := h
        exact ⟨hlt, by simp⟩
      · by_cases h9 : i = 9
        · exfalso; subst h9; omega
        · rw [if_neg h9] at hx
          have := rdG_lt l (i + 1) _ (by omega) (by omega) n r h
          exact ⟨this.1, by simp; omega⟩
theorem cRd_lt (c : Cu) : (cRd c).2 < 2 ^ 64 := by
  unfold cRd
  split
  · simp
  · split
    · simp
    · rename_i u l h
      exact (rdG_lt c.1 0 0 (by simp) (by omega) u l h).1

/-! ### The cursor -/
def errV (e : Int) : Value := if e = 0 then .nilIface else .iface 34 (.int .i64 e)
theorem errV0 : errV 0 = .nilIface := rfl
theorem errVn {e : Int} (h : e ≠ 0) : errV e = .iface 34 (.int .i64 e) := by simp [errV, h]
def curC (sl : Value) (e : Int) : List Value := [sl, errV e]
def cur (b : Nat) (c : Cu) : Item := pack (fun _ : Value => c.1.length ≤ 2 ^ 40) (fun sl => [blk b (.cells [sl, errV c.2].toArray 217 (0, 0)), vw sl c.1])
instance {e : Int} : One (errV e) := ⟨by unfold errV; split <;> rfl⟩

section
variable {M : List Nat} {w0 w : World} {L R : List Item} {v u : Value} {l m : List UInt8} {K : Cont} {b : Nat} {c : Cu}

theorem St.curO (S : St M w0 w (cur b c :: L)) : ∃ sl, c.1.length ≤ 2 ^ 40 ∧ St M w0 w (blk b (.cells [sl, errV c.2].toArray 217 (0, 0)) :: vw sl c.1 :: L) := by
  obtain ⟨sl, h, S⟩ := S.unpack
  exact ⟨sl, h, S⟩
theorem St.curC (sl : Value) (hb : c.1.length ≤ 2 ^ 40) (S : St M w0 w (blk b (.cells [sl, errV c.2].toArray 217 (0, 0)) :: vw sl c.1 :: L)) : St M w0 w (cur b c :: L) := St.pack sl S hb
theorem has_cur (h : Has L w) (hm : InI (cur b) c L) : ∃ sl, w.heap[b]? = some (.cells [sl, errV c.2].toArray 217 (0, 0)) ∧ RdB w sl c.1 := by
  obtain ⟨fp, o, sl, _, hh⟩ := h.get hm.mem
  have h1 : Has [blk b (.cells [sl, errV c.2].toArray 217 (0, 0)), vw sl c.1] w := ⟨_, _, hh⟩
  exact ⟨sl, InL.get (b := b) w h1, h1.vw inferInstance⟩

theorem f150 {sl : Value} {e : Int} (h : w.heap[b]? = some (.cells [sl, errV e].toArray 217 (0, 0))) (hk : K (.bool (decide (e = 0))) w) : callX Tryd.prog 150 [.pointer (some ⟨b, 0, none⟩)] w K := by
  refine c150 _ _ _ ?_
  unfold s150
  have S := (St.begin w).know h
  (repeat refine Stp.h ?_)
  by_cases he : e = 0
  · subst he; rw [errV0]; (repeat refine Stp.h ?_); simpa using hk
  · rw [errVn he]; (repeat refine Stp.h ?_); simpa [he] using hk
theorem f91 {sl : Value} {e : Int} (h : w.heap[b]? = some (.cells [sl, errV e].toArray 217 (0, 0))) (hr : RdB w sl l) (hk : K (.int .i64 (l.length : Nat)) w) : callX Tryd.prog 91 [.pointer (some ⟨b, 0, none⟩)] w K := by
  refine c91 _ _ _ ?_
  unfold s91
  have S := (St.begin w).know h
  (repeat refine Stp.h ?_)
  exact hr.len hk

instance [S : St M w0 w L] [h : InI (cur b) c L] : Stp (callX Tryd.prog 150 [.pointer (some ⟨b, 0, none⟩)] w K) (K (.bool (decide (c.2 = 0))) w) := ⟨fun hk => by
  obtain ⟨sl, h1, _⟩ := has_cur S.hs h
  exact f150 h1 hk⟩
instance [S : St M w0 w L] [h : InI (cur b) c L] : Stp (callX Tryd.prog 91 [.pointer (some ⟨b, 0, none⟩)] w K) (K (.int .i64 (c.1.length : Nat)) w) := ⟨fun hk => by
  obtain ⟨sl, h1, h2⟩ := has_cur S.hs h
  exact f91 h1 h2 hk⟩

theorem f151 {e : Int} (he : e ≠ 0) (S : St M w0 w (cur b c :: L)) (hk : ∀ w', St M w0 w' (cur b (if c.2 = 0 then ([], e) else c) :: L) → K (.tuple #[]) w') : callX Tryd.prog 151 [.pointer (some ⟨b, 0, none⟩), .int .i64 e] w K := by
  refine c151 _ _ _ _ ?_
  unfold s151
  obtain ⟨sl, hl, S⟩ := S.curO
  refine joinX_of (fun J => J (.bool (decide (c.2 = 0))) w) ?_ (fun J hJ => ?_)
  · refine brX_d (fun h => ?_) (fun h => ?_)
    · rw [h] at S
      (repeat refine Stp.h ?_)
      (refine StpW.h ?_; clear S; intro w1 S)
      (repeat refine Stp.h ?_)
      (refine StpW.h ?_; clear S; intro w2 S)
      rw [← errVn he] at S
      refine hk _ ?_
      rw [if_pos h]
      exact St.curC (c := ([], e)) (.slice none 0 0) (by simp) ((vw_nil S).sub inferInstance)
    · refine hk _ ?_
      rw [if_neg h]
      exact S.curC _ hl
  · (repeat refine Stp.h ?_)
    by_cases h : c.2 = 0
    · rw [h] at S ⊢; rw [errV0] at S ⊢; (repeat refine Stp.h ?_); simpa [h] using hJ
    · rw [errVn h] at S ⊢; (repeat refine Stp.h ?_); simpa [h] using hJ

theorem or_add {a b i : Nat} (hb : b < 2 ^ i) (h1 : a * 2 ^ i < 2 ^ 64) (h2 : b + a * 2 ^ i < 2 ^ 64) : bitsV .u64 (fun p q => p ||| q) (b : Int) ((a * 2 ^ i : Nat) : Int) = ((b + a * 2 ^ i : Nat) : Int) := by
  have e : ∀ n : Nat, n < 2 ^ 64 → ((n : Nat) : Int) = (((BitVec.ofNat 64 n).toNat : Nat) : Int) := fun n hn => by rw [BitVec.toNat_ofNat, Nat.mod_eq_of_lt hn]
  rw [e b (by omega), e (a * 2 ^ i) h1, bv_or, BitVec.toNat_or, BitVec.toNat_ofNat, BitVec.toNat_ofNat, Nat.mod_eq_of_lt (show b < 2 ^ 64 by omega), Nat.mod_eq_of_lt h1]
  have := Nat.two_pow_add_eq_or_of_lt hb a
  rw [Nat.mul_comm a, Nat.or_comm, ← this, Nat.add_comm]
theorem andn128 : ∀ n : Nat, n < 256 → bitsV .u8 (fun p q => p &&& ~~~q) (n : Int) 128 = ((n % 128 : Nat) : Int) := by
  have h : ∀ n : Fin 256, bitsV .u8 (fun p q => p &&& ~~~q) (n.val : Int) 128 = ((n.val % 128 : Nat) : Int) := by decide +kernel
  exact fun n hn => h ⟨n, hn⟩

theorem f149 (S : St M w0 w (cur b c :: L)) (hk : ∀ w', St M w0 w' (cur b (cRd c).1 :: L) → K (.int .u64 (cRd c).2) w') : callX Tryd.prog 149 [.pointer (some ⟨b, 0, none⟩)] w K := by
  refine c149 _ _ _ ?_
  unfold s149
  obtain ⟨l, e⟩ := c
  obtain ⟨sl, hl, S⟩ := S.curO
  refine f150 (S.get List.mem_cons_self) ?_
  by_cases he : e = 0
  · subst he
    have hc : cRd (l, 0) = match rdG l 0 0 with
      | .inl e => (([], e), 0)
      | .inr (u, l) => ((l, 0), u) := by simp [cRd]
    rw [hc] at hk
    refine brX_f ?_
    (repeat refine Stp.h ?_)
    refine (S.hs.vw (v := sl) (l := l) inferInstance).len ?_
    refine ⟨fun t7 t8 W => ∃ u i : Nat, t7 = .int .u64 u ∧ t8 = .int .i64 i ∧ i ≤ l.length ∧ i ≤ 9 + (if i = l.length then 1 else 0) ∧ u < 2 ^ (7 * i) ∧ rdG (l.drop i) i u = rdG l 0 0 ∧ St M w0 W (blk b (.cells [sl, errV 0].toArray 217 (0, 0)) :: vw sl l :: L),
      fun t7 t8 W => match t8 with | .int _ i => l.length - i.toNat | _ => 0, ⟨0, 0, rfl, rfl, by omega, by omega, by simp, by simp, S⟩, ?_⟩
    clear S
    rintro t7 t8 W ⟨u, i, rfl, rfl, hi, hi9, hu, hG, S⟩
    (repeat refine Stp.h ?_)
    refine brX_d (fun hlt => ?_) (fun hlt => ?_)
    · have hlt' : i < l.length := by omega
      obtain ⟨x, hx⟩ : ∃ x, l[i]? = some x := ⟨_, List.getElem?_eq_getElem hlt'⟩
      have hd : l.drop i = x :: l.drop (i + 1) := by
        rw [List.drop_eq_getElem_cons hlt']
        congr 1
        exact (List.getElem?_eq_some_iff.1 hx).2
      rw [hd] at hG
      simp only [rdG] at hG
      have hi9 : i ≤ 9 := by rw [if_neg (by omega)] at hi9; omega
      refine (S.hs.vw (v := sl) (l := l) inferInstance).at hx ?_
      unfold by1
      have hx256 := x.toNat_lt
      (repeat refine Stp.h ?_)
      refine joinX_of (fun J => J (.bool (decide (i = 9 ∧ 1 < x.toNat))) W) ?_ (fun J hJ => ?_)
      · refine joinX_of (fun J => J (.bool (decide ((i = 9 ∧ 1 < x.toNat) ∨ (x.toNat = 0 ∧ 0 < i)))) W) ?_ (fun J hJ => ?_)
        · refine brX_d (fun hb => ?_) (fun hb => ?_)
          · rw [if_pos hb] at hG
            refine f151 (by omega) (St.curC (c := (l, 0)) sl hl S) fun w1 S1 => ?_
            rw [← hG] at hk
            exact hk _ (by simpa using S1)
          · rw [if_neg hb] at hG
            (repeat refine Stp.h ?_)
            have e1 : IntKind.u64.wrap (((x.toNat % 128 : Nat)) : Int) = ((x.toNat % 128 : Nat) : Int) := wu64 (by omega)
            rw [andn128 _ hx256, e1, wi64 (by omega)]
            refine shlX_i (by omega) ?_
            have hlt7 : x.toNat % 128 * 2 ^ (7 * i) < 2 ^ 64 ∧ u + x.toNat % 128 * 2 ^ (7 * i) < 2 ^ 64 := by
              have h64 : ∀ k, k ≤ 8 → 2 ^ (7 * k) ≤ 2 ^ 56 := fun k hk => Nat.pow_le_pow_right (by omega) (by omega)
              by_cases h9 : i = 9
              · subst h9
                have : x.toNat % 128 ≤ 1 := by omega
                have : x.toNat % 128 * 2 ^ (7 * 9) ≤ 1 * 2 ^ (7 * 9) := Nat.mul_le_mul_right _ this
                omega
              · have h1 := h64 i (by omega)
                have h2 : x.toNat % 128 * 2 ^ (7 * i) ≤ 127 * 2 ^ 56 := Nat.mul_le_mul (by omega) h1
                omega
            have e2 : IntKind.u64.wrap (((x.toNat % 128 : Nat) : Int) * 2 ^ min (7 * (i : Int)).toNat (IntKind.bits .u64)) = ((x.toNat % 128 * 2 ^ (7 * i) : Nat) : Int) := by
              rw [show (7 * (i : Int)).toNat = 7 * i by omega, show IntKind.bits .u64 = 64 from rfl, show min (7 * i) 64 = 7 * i by omega]
              rw [wu64]
              · simp
              · have : (((x.toNat % 128 : Nat) : Int) * 2 ^ (7 * i)) = ((x.toNat % 128 * 2 ^ (7 * i) : Nat) : Int) := by simp
                rw [this]
                omega
            rw [e2]
            (repeat refine Stp.h ?_)
            rw [or_add hu hlt7.1 hlt7.2]
            refine brX_d (fun h8 => ?_) (fun h8 => ?_)
            · rw [if_pos (by omega)] at hG
              (repeat refine Stp.h ?_)
              rw [wi64 (by omega)]
              refine S.cut (v := sl) (l := l) (lo := i + 1) (hi := l.length) inferInstance (by omega) (by omega) (fun v' S' => ?_) (by simp [natOf]; omega) rfl (.inl rfl)
              clear S
              have S := S'
              haveI := (S.hs.vw (v := v') inferInstance).one
              (repeat refine Stp.h ?_)
              (refine StpW.h ?_; clear S; intro w1 S)
              rw [List.take_length] at S
              rw [← hG] at hk
              exact hk _ (St.curC (c := (l.drop (i + 1), 0)) v' (by simp only [List.length_drop] at hl ⊢; omega) (S.sub inferInstance))
            · rw [if_neg (by omega)] at hG
              (repeat refine Stp.h ?_)
              rw [wi64 (by omega)]
              refine ⟨⟨_, i + 1, rfl, by simp, by omega, ?_, ?_, hG, S⟩, by show _ < _; simp; omega⟩
              · have : i ≠ 9 := fun h9 => by omega
                omega
              · have h9 : i ≠ 9 := fun h9 => by omega
                have h2 : (x.toNat % 128 + 1) * 2 ^ (7 * i) ≤ 128 * 2 ^ (7 * i) := Nat.mul_le_mul_right _ (by omega)
                rw [Nat.add_mul] at h2
                rw [show 7 * (i + 1) = 7 * i + 7 by omega, Nat.pow_add]
                omega
        · refine brX_d (fun h9 => ?_) (fun h9 => ?_)
          · have : decide ((i = 9 ∧ 1 < x.toNat) ∨ (x.toNat = 0 ∧ 0 < i)) = true := by simp [h9]
            rw [this] at hJ
            exact hJ
          · refine brX_d (fun h8 => ?_) (fun h8 => ?_)
            · (repeat refine Stp.h ?_)
              refine brX_d (fun h0 => ?_) (fun h0 => ?_)
              · (repeat refine Stp.h ?_)
                have : decide ((i = 9 ∧ 1 < x.toNat) ∨ (x.toNat = 0 ∧ 0 < i)) = decide ((0 : Int) < i) := by
                  have : x.toNat = 0 := by omega
                  simp only [h9, false_or, this, true_and]
                  congr 1
                  exact propext ⟨fun h => by omega, fun h => by omega⟩
                rw [this] at hJ
                exact hJ
              · have : decide ((i = 9 ∧ 1 < x.toNat) ∨ (x.toNat = 0 ∧ 0 < i)) = false := by
                  have : x.toNat ≠ 0 := by omega
                  simp [h9, this]
                rw [this] at hJ
                exact hJ
            · have : decide ((i = 9 ∧ 1 < x.toNat) ∨ (x.toNat = 0 ∧ 0 < i)) = false := by
                have : x.toNat ≠ 0 := by omega
                simp [h9, this]
              rw [this] at hJ
              exact hJ
      · refine brX_d (fun h9 => ?_) (fun h9 => ?_)
        · (repeat refine Stp.h ?_)
          have : decide (i = 9 ∧ 1 < x.toNat) = decide ((1 : Int) < x.toNat) := by
            have : i = 9 := by omega
            simp only [this, true_and]
            congr 1
            exact propext ⟨fun h => by omega, fun h => by omega⟩
          rw [this] at hJ
          exact hJ
        · have : decide (i = 9 ∧ 1 < x.toNat) = false := by
            have : i ≠ 9 := by omega
            simp [this]
          rw [this] at hJ
          exact hJ
    · have : i = l.length := by omega
      subst this
      rw [List.drop_length] at hG
      simp only [rdG] at hG
      refine f151 (by omega) (St.curC (c := (l, 0)) sl hl S) fun w1 S1 => ?_
      rw [← hG] at hk
      exact hk _ (by simpa using S1)
  · rw [show (decide (e = 0)) = false by simp [he]]
    refine brX_t ?_
    have hc : cRd (l, e) = ((l, e), 0) := by simp [cRd, he]
    rw [hc] at hk
    exact hk _ (S.curC _ hl)

theorem xor_i64 {a : Nat} (h : a < 2 ^ 63) : bitsV .i64 (fun p q => p ^^^ q) (a : Int) 0 = a ∧ bitsV .i64 (fun p q => p ^^^ q) (a : Int) (-1) = -(a : Int) - 1 := by
  have e1 : BitVec.ofInt (IntKind.bits .i64) (a : Int) = BitVec.ofNat 64 a := by
    show BitVec.ofInt 64 _ = _
    rw [BitVec.ofInt_natCast]
  constructor
  · unfold bitsV
    rw [e1]
    have e2 : BitVec.ofInt (IntKind.bits .i64) (0 : Int) = 0#64 := rfl
    rw [e2]
    show IntKind.i64.wrap ((((BitVec.ofNat 64 a) ^^^ 0#64).toNat : Nat) : Int) = _
    rw [BitVec.xor_zero, BitVec.toNat_ofNat, Nat.mod_eq_of_lt (by omega), wi64 (by omega)]
  · unfold bitsV
    rw [e1]
    have e2 : BitVec.ofInt (IntKind.bits .i64) (-1 : Int) = BitVec.allOnes 64 := by show BitVec.ofInt 64 (-1) = _; decide +kernel
    rw [e2]
    show IntKind.i64.wrap ((((BitVec.ofNat 64 a) ^^^ BitVec.allOnes 64).toNat : Nat) : Int) = _
    rw [BitVec.xor_allOnes, BitVec.toNat_not, BitVec.toNat_ofNat, Nat.mod_eq_of_lt (by omega), IntKind.wrap_i64]
    omega
theorem and1 {n : Nat} (h : n < 2 ^ 64) : bitsV .u64 (fun p q => p &&& q) (n : Int) 1 = ((n % 2 : Nat) : Int) := by
  have e : ∀ n : Nat, n < 2 ^ 64 → ((n : Nat) : Int) = (((BitVec.ofNat 64 n).toNat : Nat) : Int) := fun n hn => by rw [BitVec.toNat_ofNat, Nat.mod_eq_of_lt hn]
  rw [e n h, show (1 : Int) = (((1#64).toNat : Nat) : Int) from rfl, bv_and, BitVec.toNat_and, BitVec.toNat_ofNat, Nat.mod_eq_of_lt h]
  simp [Nat.and_one_is_mod]

theorem f148 {n : Nat} (h : n < 2 ^ 64) (hk : K (.int .i64 (zag n)) w) : callX Tryd.prog 148 [.int .u64 n] w K := by
  refine c148 _ _ _ ?_
  unfold s148
  refine shrX_i (by omega) ?_
  have e : ((n : Nat) : Int).fdiv (2 ^ min (1 : Int).toNat (IntKind.bits .u64)) = ((n / 2 : Nat) : Int) := by
    show ((n : Nat) : Int).fdiv 2 = _
    rw [Int.fdiv_eq_ediv_of_nonneg _ (by omega)]
    omega
  rw [e]
  (repeat refine Stp.h ?_)
  rw [and1 h, wi64 (by omega), wi64 (show _ ≤ ((n % 2 : Nat) : Int) ∧ _ by omega)]
  have hx := xor_i64 (a := n / 2) (by omega)
  rcases Nat.mod_two_eq_zero_or_one n with h2 | h2
  · rw [h2, show IntKind.i64.wrap (0 - ((0 : Nat) : Int)) = 0 from wi64 (by omega), hx.1]
    simpa [zag, h2] using hk
  · rw [h2, show IntKind.i64.wrap (0 - ((1 : Nat) : Int)) = -1 from wi64 (by omega), hx.2]
    simpa [zag, h2] using hk

theorem f86 (S : St M w0 w (cur b c :: L)) (hk : ∀ w', St M w0 w' (cur b (cInt c).1 :: L) → K (.int .i64 (cInt c).2) w') : callX Tryd.prog 86 [.pointer (some ⟨b, 0, none⟩)] w K := by
  refine c86 _ _ _ ?_
  unfold s86
  refine f149 S fun w1 S1 => ?_
  exact f148 (cRd_lt c) (hk _ S1)
instance {L' R : List Item} [S : St M w0 w L] [hi : InI (cur b) c L] [h : Rp (cur b) c (cur b (cInt c).1) L L' R] : StpW (callX Tryd.prog 86 [.pointer (some ⟨b, 0, none⟩)] w K) M w0 L' (K (.int .i64 (cInt c).2)) :=
  ⟨fun hk => f86 (S.perm h.p1) fun w' T => hk w' (T.perm h.p2.symm)⟩

theorem zag_rng {n : Nat} (h : n < 2 ^ 64) : -9223372036854775808 ≤ zag n ∧ zag n < 9223372036854775808 := by unfold zag; split <;> omega
theorem cInt_rng (c : Cu) : -9223372036854775808 ≤ (cInt c).2 ∧ (cInt c).2 < 9223372036854775808 := zag_rng (cRd_lt c)

theorem f89 {most : Int} (S : St M w0 w (cur b c :: L)) (hk : ∀ w', St M w0 w' (cur b (cSmall most c).1 :: L) → K (.int .i64 (cSmall most c).2) w') : callX Tryd.prog 89 [.pointer (some ⟨b, 0, none⟩), .int .i64 most] w K := by
  refine c89 _ _ _ _ ?_
  unfold s89
  refine f86 S fun w1 S1 => ?_
  clear S
  have S := S1
  have hc : cSmall most c = if (cInt c).1.2 = 0 ∧ ((cInt c).2 < 0 ∨ most < (cInt c).2) then (([], 2), 0) else cInt c := rfl
  refine joinX_of (fun J => J (.bool (decide ((cInt c).1.2 = 0 ∧ ((cInt c).2 < 0 ∨ most < (cInt c).2)))) w1) ?_ (fun J hJ => ?_)
  · refine brX_d (fun h => ?_) (fun h => ?_)
    · rw [if_pos h] at hc
      refine f151 (by omega) S fun w2 S2 => ?_
      rw [if_pos h.1] at S2
      rw [hc] at hk
      exact hk _ S2
    · rw [if_neg h] at hc
      rw [hc] at hk
      exact hk _ S
  · (repeat refine Stp.h ?_)
    refine brX_d (fun h0 => ?_) (fun h0 => ?_)
    · simp only [h0, true_and] at hJ
      (repeat refine Stp.h ?_)
      refine brX_d (fun h1 => ?_) (fun h1 => ?_)
      · simpa [h1] using hJ
      · (repeat refine Stp.h ?_)
        simpa [h1] using hJ
    · simp only [h0, false_and, decide_false] at hJ
      exact hJ
instance {L' R : List Item} {most : Int} [S : St M w0 w L] [hi : InI (cur b) c L] [h : Rp (cur b) c (cur b (cSmall most c).1) L L' R] : StpW (callX Tryd.prog 89 [.pointer (some ⟨b, 0, none⟩), .int .i64 most] w K) M w0 L' (K (.int .i64 (cSmall most c).2)) :=
  ⟨fun hk => f89 (S.perm h.p1) fun w' T => hk w' (T.perm h.p2.symm)⟩

theorem f84 [hm : InI (vw v) l L] (S : St M w0 w L) (hl : l.length ≤ 2 ^ 30) (hk : ∀ w' b, St M w0 w' (cur b (l, 0) :: L) → K (.pointer (some ⟨b, 0, none⟩)) w') : callX Tryd.prog 84 [v] w K := by
  refine c84 _ _ _ ?_
  unfold s84
  refine f117 S hl fun w1 v1 S1 => ?_
  clear S
  have S := S1.frz
  haveI := (S.hs.vw (v := v1) inferInstance).one
  (repeat refine Stp.h ?_)
  (refine StpA.h ?_; clear S; intro b1 w2 S)
  exact hk _ _ (St.curC (c := (l, 0)) v1 (by show l.length ≤ _; omega) S)
end
end Go.Proofs.YtgnmelnohclpgaaDoor

namespace Go.Proofs.YtgnmelnohclpgaaDoor
open Go Go.RowKit Go.Extern.Stop Go.Stop Go.Extern

abbrev rv (t : Nat) (a : Addr) (f : Int) : Value := .agg #[.pointer (some ⟨2, t, none⟩), .pointer (some a), .int .u64 f]
abbrev rt (t : Nat) : Value := .iface 260 (.agg #[.pointer (some ⟨2, t, none⟩)])

theorem x173p (t : Addr) (w : World) : (callFunc 173 #[.iface 221 (.pointer (some t))]).run Tryd.prog w = .ok (.value (rv 221 ⟨w.heap.size, 0, none⟩ 150)) (w.alloc (.cells #[.pointer (some t)] 221)) := by kernel_rfl
theorem x173e (e : Int) (w : World) : (callFunc 173 #[.iface 34 (.int .i64 e)]).run Tryd.prog w = .ok (.value (rv 34 ⟨w.heap.size, 0, none⟩ 130)) (w.alloc (.cells #[.int .i64 e] 34)) := by kernel_rfl
theorem x174 (a : Addr) (w : World) : (callFunc 174 #[rv 221 a 150]).run Tryd.prog w = .ok (.value (rt 221)) w := by kernel_rfl
theorem x188 (e : Int) (w : World) : (callFunc 188 #[.iface 34 (.int .i64 e)]).run Tryd.prog w = .ok (.value (rt 34)) w := by kernel_rfl
theorem mKind (h : Value) (w : World) : (Go.method (Tryd.prog.types.size + Made.depth) 260 (.agg #[h]) "Kind").run Tryd.prog w = .ok (205, h) w := by kernel_rfl
theorem mElem (h : Value) (w : World) : (Go.method (Tryd.prog.types.size + Made.depth) 260 (.agg #[h]) "Elem").run Tryd.prog w = .ok (216, .agg #[h]) w := by kernel_rfl
theorem mImpl (h : Value) (w : World) : (Go.method (Tryd.prog.types.size + Made.depth) 260 (.agg #[h]) "Implements").run Tryd.prog w = .ok (217, .agg #[h]) w := by kernel_rfl
theorem mAsgn (h : Value) (w : World) : (Go.method (Tryd.prog.types.size + Made.depth) 260 (.agg #[h]) "AssignableTo").run Tryd.prog w = .ok (214, .agg #[h]) w := by kernel_rfl
theorem xKind221 (w : World) : (callFunc 205 #[.pointer (some ⟨2, 221, none⟩)]).run Tryd.prog w = .ok (.value (.int .u8 22)) w := by kernel_rfl
theorem xKind34 (w : World) : (callFunc 205 #[.pointer (some ⟨2, 34, none⟩)]).run Tryd.prog w = .ok (.value (.int .u8 2)) w := by kernel_rfl
theorem xElem (w : World) : (callFunc 216 #[.agg #[.pointer (some ⟨2, 221, none⟩)]]).run Tryd.prog w = .ok (.value (rt 34)) w := by kernel_rfl
theorem xImpl (w : World) : (callFunc 217 #[.agg #[.pointer (some ⟨2, 34, none⟩)], rt 215]).run Tryd.prog w = .ok (.value (.bool true)) w := by kernel_rfl
theorem xAsgn (w : World) : (callFunc 214 #[.agg #[.pointer (some ⟨2, 34, none⟩)], rt 34]).run Tryd.prog w = .ok (.value (.bool true)) w := by kernel_rfl

/-! ### The entries that read or write memory -/
theorem rlm (z : Sem Value) (f : TypeId → Addr → Nat → Nat → Sem Value) (v : Value) :
    ReflectliteValue.method z f #[v] = (do match ← ReflectliteValue.parts v with | none => z | some (t, a, fl) => f t a fl (fl % 32)) := rfl
theorem parts221 (a : Addr) (w : World) : (ReflectliteValue.parts (rv 221 a 150)).run Tryd.prog w = .ok (some (221, a, 150)) w := by kernel_rfl
theorem x175 (a p : Addr) (W : World) (ha : W.cell? a = some (.pointer (some p))) : (callFunc 175 #[rv 221 a 150]).run Tryd.prog W = .ok (.value (.bool false)) W := by
  rw [@run_callFunc_extern Tryd.prog 175 _ (ReflectliteValue.method (ReflectliteValue.valueError "reflectlite.Value.IsNil" 0) ReflectliteValue.isNil) Tryd.func175 (by kernel_rfl) (by kernel_rfl) (by kernel_rfl) (by kernel_rfl), rlm]
  simp only [Sem.run_bind, parts221, Result.andThen]
  simp [ReflectliteValue.isNil, loadVar, isAgg, underlying, Tryd.underlying221, ha, Result.andThen]
theorem elemOf221 (w : World) : (Rtype.elem? 221).run Tryd.prog w = .ok (some 34) w := by kernel_rfl
theorem mk34 (p : Addr) (w : World) : (ReflectliteValue.mk 34 p ReflectliteValue.flagAddr).run Tryd.prog w = .ok (rv 34 p 386) w := by kernel_rfl
theorem x189 (a p : Addr) (W : World) (ha : W.cell? a = some (.pointer (some p))) : (callFunc 189 #[rv 221 a 150]).run Tryd.prog W = .ok (.value (rv 34 p 386)) W := by
  rw [@run_callFunc_extern Tryd.prog 189 _ (ReflectliteValue.method (ReflectliteValue.valueError "reflectlite.Value.Elem" 0) ReflectliteValue.elem) Tryd.func189 (by kernel_rfl) (by kernel_rfl) (by kernel_rfl) (by kernel_rfl), rlm]
  simp only [Sem.run_bind, parts221, Result.andThen]
  simp [ReflectliteValue.elem, loadVar, isAgg, underlying, Tryd.underlying221, ha, Result.andThen, elemOf221, mk34]
theorem rls (v x : Value) : ReflectliteValue.set #[v, x] = (do
    let (some (dst, a, fl), some (src, b, _)) := (← ReflectliteValue.parts v, ← ReflectliteValue.parts x)
      | unsupported (.noEntry "extern/(internal/reflectlite.Value).Set.zeroValue")
    if fl / ReflectliteValue.flagAddr % 2 == 0 then unsupported (.noEntry "extern/(internal/reflectlite.Value).Set.unaddressable")
    let val ← loadVar src b
    if ← Rtype.directlyAssignable dst src then storeVar dst a val
    else if ← Rtype.implements dst src then
      if (← Rtype.kind src) == 20 then
        match val with
        | .nilIface => unsupported (.noEntry "extern/reflectlite: a nil value of one interface type handed on as a value of another")
        | _ => storeVar dst a val
      else storeVar dst a (.iface src val)
    else panicString ("reflectlite.Set: value of type " ++ (← Rtype.spelt src) ++ " is not assignable to type " ++ (← Rtype.spelt dst))
    pure (.tuple #[])) := rfl
theorem parts34a (a : Addr) (w : World) : (ReflectliteValue.parts (rv 34 a 386)).run Tryd.prog w = .ok (some (34, a, 386)) w := by kernel_rfl
theorem parts34 (a : Addr) (w : World) : (ReflectliteValue.parts (rv 34 a 130)).run Tryd.prog w = .ok (some (34, a, 130)) w := by kernel_rfl
theorem direct34 (w : World) : (Rtype.directlyAssignable 34 34).run Tryd.prog w = .ok true w := by kernel_rfl
theorem x190 (ta b : Addr) (e : Int) (old : Value) (W : World) (hb : W.cell? b = some (.int .i64 e)) (ht : W.cell? ta = some old) (hf : W.frozen? ta = false) :
    (callFunc 190 #[rv 34 ta 386, rv 34 b 130]).run Tryd.prog W = .ok (.value (.tuple #[])) (W.setCell ta (.int .i64 e)) := by
  rw [@run_callFunc_extern Tryd.prog 190 _ ReflectliteValue.set Tryd.func190 (by kernel_rfl) (by kernel_rfl) (by kernel_rfl) (by kernel_rfl), rls]
  simp only [Sem.run_bind, parts34a, parts34, Result.andThen]
  simp [ReflectliteValue.flagAddr, loadVar, isAgg, underlying, Tryd.underlying34, hb, Result.andThen, direct34, storeVar, Value.cells, storeCells, Addr.add]
  rw [run_store Tryd.prog W ta _ _ (by rfl)]
  simp [ht, hf]

/-! ### The contract -/
class Err (M : List Nat) (w0 : World) : Prop where
  e : ErrW w0
  m : 0 ∉ M
theorem St.cell {M : List Nat} {w0 w : World} {l : List Item} {b off : Nat} {c : List Value} {t : TypeId} {fz : Nat × Nat} {v : Value} [hm : InL b (.cells c.toArray t fz) l] [hv : GetL c off v] (S : St M w0 w l) : w.cell? ⟨b, off, none⟩ = some v :=
  (cell_of (hm.get w S.hs)).trans (by simpa using hv.get)
section
variable {M : List Nat} {w0 w : World} {L R : List Item} {v u : Value} {l m : List UInt8} {K : Cont} {b : Nat} {c : Cu}

theorem f152n {t : Value} (hk : K (.bool false) w) : callX Tryd.prog 152 [.nilIface, t] w K := by
  refine c152 _ _ _ _ ?_
  unfold s152
  (repeat refine Stp.h ?_)
  exact hk

theorem f176 {e : Int} {tb pb : Nat} {old : Value} (S : St M w0 w (blk tb (.cells [old].toArray 34 (0, 0)) :: blk pb (.cells [.pointer (some ⟨tb, 0, none⟩)].toArray 221 (0, 0)) :: L)) (hk : ∀ w', St M w0 w' (blk tb (.cells [.int .i64 e].toArray 34 (0, 0)) :: L) → K (.bool true) w') :
    callX Tryd.prog 176 [.iface 34 (.int .i64 e), .iface 221 (.pointer (some ⟨tb, 0, none⟩)), rv 221 ⟨pb, 0, none⟩ 150, rt 34] w K := by
  refine c176 _ _ _ _ _ _ ?_
  unfold s176
  rw [show rv 221 ⟨pb, 0, none⟩ 150 = .agg [.pointer (some ⟨2, 221, none⟩), .pointer (some ⟨pb, 0, none⟩), .int .u64 150].toArray from rfl]
  (refine StpA.h ?_; clear S; intro b1 w1 S)
  refine ⟨fun t W => t = .iface 34 (.int .i64 e) ∧ St M w0 W (blk b1 (.cells [.pointer (some ⟨2, 221, none⟩), .pointer (some ⟨pb, 0, none⟩), .int .u64 150].toArray 241 (0, 0)) :: blk tb (.cells [old].toArray 34 (0, 0)) :: blk pb (.cells [.pointer (some ⟨tb, 0, none⟩)].toArray 221 (0, 0)) :: L), fun _ _ => 0, ⟨rfl, S⟩, ?_⟩
  clear S
  rintro t W ⟨rfl, S⟩
  refine ⟨_, _, x188 _ _, ?_⟩
  refine ⟨214, _, mAsgn _ _, .inr ⟨_, _, xAsgn _, ?_⟩⟩
  (repeat refine Stp.h ?_)
  refine ⟨_, _, x189 ⟨pb, 0, none⟩ ⟨tb, 0, none⟩ W S.cell, ?_⟩
  refine ⟨_, _, x173e _ _, ?_⟩
  have S2 := S.newB (new_alloc W (.cells #[.int .i64 e] 34))
  have hs := S2.get (b := tb) (o := .cells [old].toArray 34 (0, 0)) (by simp)
  have hb := S2.get (b := W.heap.size) (o := .cells #[.int .i64 e] 34) (by simp)
  refine ⟨_, _, x190 ⟨tb, 0, none⟩ ⟨W.heap.size, 0, none⟩ e old _ (by rw [cell_of hb]; rfl) (by rw [cell_of hs]; rfl) (frozen_of hs (by omega)), ?_⟩
  have S3 := S2.put (o' := .cells [Value.int .i64 e].toArray 34 (0, 0)) (sto_setCell (off := 0) (.int .i64 e) hs)
  exact hk _ (S3.sub inferInstance)

theorem f152 {e : Int} {tb : Nat} {old : Value} [hE : Err M w0] (S : St M w0 w (blk tb (.cells [old].toArray 34 (0, 0)) :: L)) (hk : ∀ w', St M w0 w' (blk tb (.cells [.int .i64 e].toArray 34 (0, 0)) :: L) → K (.bool true) w') :
    callX Tryd.prog 152 [.iface 34 (.int .i64 e), .iface 221 (.pointer (some ⟨tb, 0, none⟩))] w K := by
  refine c152 _ _ _ _ ?_
  unfold s152
  (repeat refine Stp.h ?_)
  refine joinX_i ?_
  (repeat refine Stp.h ?_)
  refine ⟨_, _, x173p _ _, ?_⟩
  have S2 := S.newB (new_alloc w (.cells #[.pointer (some ⟨tb, 0, none⟩)] 221))
  clear S
  have S := S2
  clear S2
  generalize hpb : w.heap.size = pb at S ⊢
  generalize w.alloc (.cells #[.pointer (some ⟨tb, 0, none⟩)] 221) = w1 at S ⊢
  rw [show rv 221 ⟨pb, 0, none⟩ 150 = .agg [.pointer (some ⟨2, 221, none⟩), .pointer (some ⟨pb, 0, none⟩), .int .u64 150].toArray from rfl]
  (refine StpA.h ?_; clear S; intro b2 w2 S)
  (refine StpW.h ?_; clear S; intro w3 S)
  (repeat refine Stp.h ?_)
  refine ⟨_, _, x174 ⟨pb, 0, none⟩ _, ?_⟩
  refine joinX_i ?_
  refine ⟨205, _, mKind _ _, .inr ⟨_, _, xKind221 _, ?_⟩⟩
  (repeat refine Stp.h ?_)
  refine brX_df (by first | omega | simp | decide) ?_
  (repeat refine Stp.h ?_)
  refine ⟨_, _, x175 ⟨pb, 0, none⟩ ⟨tb, 0, none⟩ _ S.cell, ?_⟩
  refine joinX_i ?_
  (repeat refine Stp.h ?_)
  refine ⟨216, _, mElem _ _, .inr ⟨_, _, xElem _, ?_⟩⟩
  refine joinX_i ?_
  refine ⟨205, _, mKind _ _, .inr ⟨_, _, xKind34 _, ?_⟩⟩
  (repeat refine Stp.h ?_)
  refine brX_dt (by first | omega | simp | decide) ?_
  refine ⟨_, hE.e.st S hE.m, ?_⟩
  refine ⟨217, _, mImpl _ _, .inr ⟨_, _, xImpl _, ?_⟩⟩
  (repeat refine Stp.h ?_)
  refine joinX_i ?_
  (repeat refine Stp.h ?_)
  exact f176 (old := old) (S.sub inferInstance) hk
end
end Go.Proofs.YtgnmelnohclpgaaDoor

namespace Go.Proofs.YtgnmelnohclpgaaDoor
open Go Go.RowKit

section
variable {M : List Nat} {w0 w : World} {L R : List Item} {v u : Value} {l m : List UInt8} {K : Cont} {b : Nat} {c : Cu}

theorem f90 [hE : Err M w0] [hm : InI (cur b) c L] (S : St M w0 w L) (hk : ∀ w', St M w0 w' L → K (.int .i64 c.2) w') : callX Tryd.prog 90 [.pointer (some ⟨b, 0, none⟩)] w K := by
  refine c90 _ _ _ ?_
  unfold s90
  (refine StpA.h ?_; clear S; intro b1 w1 S)
  obtain ⟨sl, h1, _⟩ := has_cur S.hs (inferInstance : InI (cur b) c _)
  by_cases he : c.2 = 0
  · refine joinX_i ?_
    (repeat refine Stp.h ?_)
    refine ldO h1 rfl ?_
    rw [he, errV0]
    (repeat refine Stp.h ?_)
    refine f152n ?_
    (repeat refine Stp.h ?_)
    rw [he] at hk
    exact hk _ S.drop
  · refine joinX_i ?_
    (repeat refine Stp.h ?_)
    refine ldO h1 rfl ?_
    rw [errVn he]
    (repeat refine Stp.h ?_)
    refine f152 S fun w2 S2 => ?_
    clear S
    have S := S2
    (repeat refine Stp.h ?_)
    exact hk _ S.drop
instance [hE : Err M w0] [S : St M w0 w L] [hm : InI (cur b) c L] : StpW (callX Tryd.prog 90 [.pointer (some ⟨b, 0, none⟩)] w K) M w0 L (K (.int .i64 c.2)) := ⟨f90 S⟩

def cEnd (c : Cu) : Int := if c.2 = 0 ∧ c.1 ≠ [] then 11 else c.2
theorem f126 [hE : Err M w0] [hm : InI (cur b) c L] (S : St M w0 w L) (hk : ∀ w', St M w0 w' L → K (.int .i64 (cEnd c)) w') : callX Tryd.prog 126 [.pointer (some ⟨b, 0, none⟩)] w K := by
  refine c126 _ _ _ ?_
  unfold s126
  refine joinX_of (fun J => J (.bool (decide (c.2 = 0 ∧ c.1 ≠ []))) w) ?_ (fun J hJ => ?_)
  · refine brX_d (fun h => ?_) (fun h => ?_)
    · have := hk _ S
      rw [cEnd, if_pos h] at this
      exact this
    · rw [cEnd, if_neg h] at hk
      (refine StpW.h ?_; clear S; intro w1 S)
      exact hk _ S
  · (repeat refine Stp.h ?_)
    refine brX_d (fun h0 => ?_) (fun h0 => ?_)
    · (repeat refine Stp.h ?_)
      have e : decide (c.2 = 0 ∧ c.1 ≠ []) = decide ((0 : Int) < (c.1.length : Nat)) := by
        congr 1
        apply propext
        simp only [h0, true_and]
        exact ⟨fun h => by have := List.length_pos_iff.2 h; omega, fun h h2 => by rw [h2] at h; simp at h⟩
      rw [e] at hJ
      exact hJ
    · simpa [h0] using hJ

/-! ### Texts -/
theorem size_str : (ByteArray.mk l.toArray).size = l.length := by simp [ByteArray.size]
instance {K : Value → Prop} : Stp (lenStrX (str l) K) (K (.int .i64 (l.length : Nat))) := ⟨fun h => by show K _; rw [size_str]; exact h⟩
theorem str_at {K : Value → Prop} {i : Nat} {x : UInt8} (hx : l[i]? = some x) (hk : K (.int .u8 x.toNat)) : indexStrX (str l) (.int .i64 (i : Nat)) K := by
  refine ⟨by omega, x, ?_, hk⟩
  have hlt := (List.getElem?_eq_some_iff.1 hx).1
  rw [Int.toNat_natCast, getElem?_pos _ _ (by simpa [ByteArray.size] using hlt)]
  congr 1
  exact (List.getElem?_eq_some_iff.1 hx).2
theorem extract_str {lo hi : Nat} : (ByteArray.mk l.toArray).extract lo hi = ⟨((l.take hi).drop lo).toArray⟩ := by
  apply ByteArray.ext
  simp [ByteArray.data_extract, List.drop_take]
theorem str_cut {K : Value → Prop} {lo hi : Nat} {o1 o2 : Option Value} (h1 : lo ≤ hi) (h2 : hi ≤ l.length) (hk : K (str ((l.take hi).drop lo))) (e1 : natOf o1 0 = some lo) (e2 : natOf o2 l.length = some hi) : sliceStrX (str l) o1 o2 K := by
  refine ⟨lo, hi, by rw [size_str]; exact e2, e1, h1, by rw [size_str]; exact h2, ?_⟩
  rw [extract_str]
  exact hk
theorem str_add {K : Value → Prop} (h : l.length + m.length < 2 ^ 60) (hk : K (str (l ++ m))) : addX (str l) (str m) K := by
  refine ⟨by rw [size_str, size_str]; show _ ≤ (9223372036854775807 : Int); omega, ?_⟩
  have : (ByteArray.mk l.toArray ++ ByteArray.mk m.toArray) = ⟨(l ++ m).toArray⟩ := by
    apply ByteArray.ext
    simp
  rw [this]
  exact hk
theorem toList_str : (ByteArray.mk l.toArray).toList = l := by
  rw [ByteArray.toList_eq]
instance {K : Value → Prop} : Stp (eqX .str (str l) (str m) K) (K (.bool (decide (l = m)))) := ⟨fun h => by
  unfold eqX str
  simp only [eqV, toList_str]
  have : (l == m) = decide (l = m) := by by_cases h : l = m <;> simp [h]
  rw [this]; exact h⟩
instance {K : Value → Prop} : Stp (neX .str (str l) (str m) K) (K (.bool (!decide (l = m)))) := ⟨fun h => by
  unfold neX str
  simp only [eqV, toList_str]
  have : (l == m) = decide (l = m) := by by_cases h : l = m <;> simp [h]
  rw [this]; exact h⟩
theorem rdB_str {K : Value → Prop} (h : RdB w v l) (hk : K (str l)) : strX v w K := h.str hk

/-! ### The document's own -/
theorem f158 {x : Int} (hx : -9223372036854775808 ≤ x ∧ x < 9223372036854775808) (hk : K (.int .u64 (zig x : Nat)) w) : callX Tryd.prog 158 [.int .i64 x] w K := by
  refine c158 _ _ _ ?_
  unfold s158
  (repeat refine Stp.h ?_)
  refine brX_d (fun h => ?_) (fun h => ?_)
  · (repeat refine Stp.h ?_)
    rw [wi64 (n := x + 1) (by omega), wi64 (n := 0 - (x + 1)) (by omega), wu64 (n := 0 - (x + 1)) (by omega), wu64 (n := 2 * (0 - (x + 1))) (by omega), wu64 (by omega)]
    have : ((zig x : Nat) : Int) = 2 * (0 - (x + 1)) + 1 := by unfold zig; rw [if_neg (by omega)]; omega
    rw [this] at hk
    exact hk
  · (repeat refine Stp.h ?_)
    rw [wu64 (n := x) (by omega), wu64 (by omega)]
    have : ((zig x : Nat) : Int) = 2 * x := by unfold zig; rw [if_pos (by omega)]; omega
    rw [this] at hk
    exact hk

/-- string of one byte -/
theorem St.one {K : Cont} {x : UInt8} {t : Value} (ht : t = by1 x) (S : St M w0 w L) (hk : ∀ w', St M w0 w' L → K (str [x]) w') : buildSX 5 1 [t] w fun t8 w3 => strX t8 w3 fun t9 => K t9 w3 := by
  subst ht
  refine S.bytes (l := [x]) rfl fun w1 v1 S1 => ?_
  obtain ⟨F, O, hh⟩ := S1.hs
  have hr : RdB w1 v1 [x] := by
    cases hh with
    | cons k1 => exact k1.2.rd
  exact rdB_str hr (hk _ S1.drop)

theorem f96 {x : Int} (S : St M w0 w L) (hx : -9223372036854775808 ≤ x ∧ x < 9223372036854775808) (hl : l.length ≤ 2 ^ 50) (hk : ∀ w', St M w0 w' L → K (str (l ++ putI x)) w') : callX Tryd.prog 96 [str l, .int .i64 x] w K := by
  refine c96 _ _ _ _ ?_
  unfold s96
  refine f158 hx ?_
  have hn := zig_lt hx
  have hg := groups_len (zig x) 10 (by omega) (by omega)
  refine ⟨fun t1 t2 W => ∃ (l' : List UInt8) (n' : Nat), t1 = str l' ∧ t2 = .int .u64 (n' : Nat) ∧ n' < 2 ^ 64 ∧ St M w0 W L ∧ l' ++ groups n' = l ++ groups (zig x), fun t1 t2 W => match t2 with | .int _ i => i.toNat | _ => 0, ⟨l, zig x, rfl, rfl, hn, S, rfl⟩, ?_⟩
  clear S
  rintro t1 t2 W ⟨l', n', rfl, rfl, hn', S, he⟩
  have hlen := congrArg List.length he
  simp only [List.length_append] at hlen
  (repeat refine Stp.h ?_)
  refine brX_d (fun h => ?_) (fun h => ?_)
  · refine ⟨rfl, by omega, ?_⟩
    (repeat refine Stp.h ?_)
    have e1 : IntKind.u8.wrap (IntKind.u64.wrap (Int.tmod (n' : Nat) 128 + 128)) = ((n' % 128 + 128 : Nat) : Int) := by
      rw [Int.tmod_eq_emod_of_nonneg (by omega), wu64 (by omega), IntKind.wrap_u8]; omega
    rw [e1]
    refine S.one (x := (n' % 128 + 128).toUInt8) (by rw [by1_of (by omega)]) fun w1 S1 => ?_
    refine str_add (by simp; omega) ?_
    refine ⟨rfl, by omega, ?_⟩
    have e2 : IntKind.u64.wrap (Int.tdiv (n' : Nat) 128) = ((n' / 128 : Nat) : Int) := by
      rw [Int.tdiv_eq_ediv_of_nonneg (by omega), wu64 (by omega)]; omega
    rw [e2]
    refine ⟨⟨_, n' / 128, rfl, rfl, by omega, S1, ?_⟩, ?_⟩
    · rw [← he, groups_big (show 128 ≤ n' by omega), List.append_assoc]; rfl
    · show _ < _
      simp only [Int.toNat_natCast]
      omega
  · (repeat refine Stp.h ?_)
    have e1 : IntKind.u8.wrap (n' : Nat) = ((n' : Nat) : Int) := by rw [IntKind.wrap_u8]; omega
    rw [e1]
    refine S.one (x := n'.toUInt8) (by rw [by1_of (by omega)]) fun w1 S1 => ?_
    refine str_add (by simp; omega) ?_
    rw [groups_small (show n' < 128 by omega)] at he
    rw [he]
    exact hk _ S1

theorem f154 {n : Nat} (h : n < 2 ^ 64) (hk : K (.int .i64 (zag n)) w) : callX Tryd.prog 154 [.int .u64 n] w K := by
  refine c154 _ _ _ ?_
  unfold s154
  refine ⟨rfl, by omega, ?_⟩
  have e1 : Int.tmod (n : Nat) 2 = ((n % 2 : Nat) : Int) := by rw [Int.tmod_eq_emod_of_nonneg (by omega)]; omega
  have e2 : IntKind.u64.wrap (Int.tdiv (n : Nat) 2) = ((n / 2 : Nat) : Int) := by rw [Int.tdiv_eq_ediv_of_nonneg (by omega), wu64 (by omega)]; omega
  rw [e1]
  (repeat refine Stp.h ?_)
  refine brX_d (fun h1 => ?_) (fun h1 => ?_)
  · refine ⟨rfl, by omega, ?_⟩
    rw [e2]
    (repeat refine Stp.h ?_)
    rw [wi64 (n := ((n / 2 : Nat) : Int)) (by omega), wi64 (n := 0 - ((n / 2 : Nat) : Int)) (by omega), wi64 (by omega)]
    have : zag n = 0 - ((n / 2 : Nat) : Int) - 1 := by unfold zag; rw [if_neg (by omega)]; omega
    rw [this] at hk
    exact hk
  · refine ⟨rfl, by omega, ?_⟩
    rw [e2]
    (repeat refine Stp.h ?_)
    rw [wi64 (by omega)]
    have : zag n = ((n / 2 : Nat) : Int) := by unfold zag; rw [if_pos (by omega)]
    rw [this] at hk
    exact hk

/-- the document's cursor as a value -/
def rcs (c : Cu) : List Value := [str c.1, .int .i64 c.2]
def rcu (c : Cu) : Value := .agg (rcs c).toArray
theorem f153 {a : Value} {cs : List Value} {e : Int} (ha : a.cells = cs.toArray) (S : St M w0 w L) (hk : ∀ w', St M w0 w' L → K (rcu ([], e)) w') : callX Tryd.prog 153 [a, .int .i64 e] w K := by
  refine c153 _ _ _ _ ?_
  unfold s153
  haveI : Cel a cs := ⟨ha⟩
  (refine StpA.h ?_; clear S; intro b1 w1 S)
  (refine StpA.h ?_; clear S; intro b2 w2 S)
  (repeat refine Stp.h ?_)
  (refine StpW.h ?_; clear S; intro w3 S)
  (repeat refine Stp.h ?_)
  exact hk _ S.drop.drop
end
end Go.Proofs.YtgnmelnohclpgaaDoor

namespace Go.Proofs.YtgnmelnohclpgaaDoor
open Go Go.RowKit

section
variable {M : List Nat} {w0 w : World} {L R : List Item} {v u : Value} {l m : List UInt8} {K : Cont} {b : Nat} {c : Cu}

theorem cRd_inl {e : Int} (h : rdG l 0 0 = .inl e) : cRd (l, 0) = (([], e), 0) := by simp [cRd, h]
theorem cRd_inr {n : Nat} {r : List UInt8} (h : rdG l 0 0 = .inr (n, r)) : cRd (l, 0) = ((r, 0), n) := by simp [cRd, h]
theorem rcu_lit (c : Cu) : rcu c = .agg [str c.1, .int .i64 c.2].toArray := rfl

theorem f92 (S : St M w0 w L) (hl : c.1.length ≤ 2 ^ 50) (hk : ∀ w', St M w0 w' L → K (.tuple #[rcu (cInt c).1, .int .i64 (cInt c).2]) w') : callX Tryd.prog 92 [rcu c] w K := by
  refine c92 _ _ _ ?_
  unfold s92
  obtain ⟨l, e⟩ := c
  rw [rcu_lit]
  (refine StpA.h ?_; clear S; intro b1 w1 S)
  rw [← str_nil]
  (refine StpA.h ?_; clear S; intro b2 w2 S)
  (repeat refine Stp.h ?_)
  dsimp only at *
  refine brX_d (fun he => ?_) (fun he => ?_)
  · (repeat refine Stp.h ?_)
    (refine StpW.h ?_; clear S; intro w3 S)
    (repeat refine Stp.h ?_)
    have : cInt (l, e) = ((l, e), 0) := by simp [cInt, cRd, he, zag0]
    rw [this] at hk
    exact hk _ S.drop.drop
  · simp only [ne_eq, Decidable.not_not] at he
    subst he
    have bad : ∀ (e : Int), cRd (l, 0) = (([], e), 0) → ∀ {W : World} {a : Value}, a = .agg [str l, .int .i64 0].toArray → St M w0 W (blk b2 (.cells [str [], .int .i64 0].toArray 161 (0, 0)) :: blk b1 (.cells [str l, .int .i64 0].toArray 161 (0, 0)) :: L) →
        callX Tryd.prog 153 [a, .int .i64 e] W fun t16 w5 => storeNX 2 (.pointer (some ⟨b2, 0, none⟩)) t16 w5 fun w6 => loadNX 2 (.pointer (some ⟨b2, 0, none⟩)) w6 fun t17 => K (.tuple #[t17, .int .i64 0]) w6 := by
      intro e hce W a ha S
      subst ha
      refine f153 (cs := [str l, .int .i64 0]) rfl S fun w5 S5 => ?_
      clear S
      have S := S5
      rw [rcu_lit]
      (refine StpW.h ?_; clear S; intro w6 S)
      (repeat refine Stp.h ?_)
      have h1 : cInt (l, 0) = (([], e), 0) := by unfold cInt; rw [hce]; simp [zag0]
      rw [h1] at hk
      exact hk _ S.drop.drop
    refine ⟨fun t7 t8 W => ∃ u i : Nat, t7 = .int .u64 u ∧ t8 = .int .i64 i ∧ i ≤ l.length ∧ i ≤ 9 ∧ u < 2 ^ (7 * i) ∧ rdG (l.drop i) i u = rdG l 0 0 ∧ St M w0 W (blk b2 (.cells [str [], .int .i64 0].toArray 161 (0, 0)) :: blk b1 (.cells [str l, .int .i64 0].toArray 161 (0, 0)) :: L),
      fun t7 t8 W => match t8 with | .int _ i => l.length - i.toNat | _ => 0, ⟨0, 0, rfl, rfl, by omega, by omega, by simp, by simp, S⟩, ?_⟩
    clear S
    rintro t7 t8 W ⟨u, i, rfl, rfl, hi, hi9, hu, hG, S⟩
    (repeat refine Stp.h ?_)
    refine brX_dt (by omega) ?_
    (repeat refine Stp.h ?_)
    refine brX_d (fun hlt => ?_) (fun hlt => ?_)
    · have : i = l.length := by omega
      subst this
      rw [List.drop_length] at hG
      simp only [rdG] at hG
      (repeat refine Stp.h ?_)
      refine bad 10 (cRd_inl hG.symm) rfl S
    · have hlt' : i < l.length := by omega
      obtain ⟨x, hx⟩ : ∃ x, l[i]? = some x := ⟨_, List.getElem?_eq_getElem hlt'⟩
      have hd : l.drop i = x :: l.drop (i + 1) := by
        rw [List.drop_eq_getElem_cons hlt']
        congr 1
        exact (List.getElem?_eq_some_iff.1 hx).2
      rw [hd] at hG
      simp only [rdG] at hG
      have hx256 := x.toNat_lt
      (repeat refine Stp.h ?_)
      refine str_at hx ?_
      (repeat refine Stp.h ?_)
      rw [wu64 (n := ((x.toNat : Nat) : Int)) (by omega)]
      refine joinX_of (fun J => J (.bool (decide (i = 9 ∧ 1 < x.toNat))) W) ?_ (fun J hJ => ?_)
      · refine brX_d (fun hb => ?_) (fun hb => ?_)
        · rw [if_pos (.inl hb)] at hG
          (repeat refine Stp.h ?_)
          refine bad 11 (cRd_inl hG.symm) rfl S
        · refine ⟨rfl, by omega, ?_⟩
          have e0 : Int.tmod (x.toNat : Nat) 128 = ((x.toNat % 128 : Nat) : Int) := by rw [Int.tmod_eq_emod_of_nonneg (by omega)]; omega
          rw [e0]
          (repeat refine Stp.h ?_)
          rw [wi64 (n := 7 * (i : Int)) (by omega), wu64 (n := 7 * (i : Int)) (by omega)]
          refine shlX_i (by omega) ?_
          have hlt7 : x.toNat % 128 * 2 ^ (7 * i) < 2 ^ 64 ∧ u + x.toNat % 128 * 2 ^ (7 * i) < 2 ^ 64 := by
            have h64 : ∀ k, k ≤ 8 → 2 ^ (7 * k) ≤ 2 ^ 56 := fun k hk => Nat.pow_le_pow_right (by omega) (by omega)
            by_cases h9 : i = 9
            · subst h9
              have : x.toNat % 128 ≤ 1 := by omega
              have : x.toNat % 128 * 2 ^ (7 * 9) ≤ 1 * 2 ^ (7 * 9) := Nat.mul_le_mul_right _ this
              omega
            · have h1 := h64 i (by omega)
              have h2 : x.toNat % 128 * 2 ^ (7 * i) ≤ 127 * 2 ^ 56 := Nat.mul_le_mul (by omega) h1
              omega
          have e2 : IntKind.u64.wrap (((x.toNat % 128 : Nat) : Int) * 2 ^ min (7 * (i : Int)).toNat (IntKind.bits .u64)) = ((x.toNat % 128 * 2 ^ (7 * i) : Nat) : Int) := by
            rw [show (7 * (i : Int)).toNat = 7 * i by omega, show IntKind.bits .u64 = 64 from rfl, show min (7 * i) 64 = 7 * i by omega]
            rw [wu64]
            · simp
            · have : (((x.toNat % 128 : Nat) : Int) * 2 ^ (7 * i)) = ((x.toNat % 128 * 2 ^ (7 * i) : Nat) : Int) := by simp
              rw [this]
              omega
          rw [e2]
          (repeat refine Stp.h ?_)
          have e3 : IntKind.u64.wrap ((u : Nat) + ((x.toNat % 128 * 2 ^ (7 * i) : Nat) : Int)) = ((u + x.toNat % 128 * 2 ^ (7 * i) : Nat) : Int) := by rw [wu64 (by omega)]; omega
          rw [e3]
          refine brX_d (fun h8 => ?_) (fun h8 => ?_)
          · refine joinX_of (fun J => J (.bool (decide (x.toNat = 0 ∧ 0 < i))) W) ?_ (fun J hJ => ?_)
            · refine brX_d (fun h0 => ?_) (fun h0 => ?_)
              · rw [if_pos (.inr h0)] at hG
                (repeat refine Stp.h ?_)
                refine bad 11 (cRd_inl hG.symm) rfl S
              · rw [if_neg (by omega), if_pos (by omega)] at hG
                (refine S.drew ?_; clear S; intro w3 S)
                refine ⟨Has _, S.hs, ?_⟩
                (repeat refine Stp.h ?_)
                rw [wi64 (n := (i : Int) + 1) (by omega)]
                refine str_cut (l := l) (lo := i + 1) (hi := l.length) (by omega) (by omega) ?_ (by simp [natOf]; omega) rfl
                (repeat refine Stp.h ?_)
                refine f154 hlt7.2 ?_
                (repeat refine Stp.h ?_)
                (refine StpW.h ?_; clear S; intro w4 S)
                (repeat refine Stp.h ?_)
                rw [List.take_length] at *
                have h1 : cInt (l, 0) = ((l.drop (i + 1), 0), zag (u + x.toNat % 128 * 2 ^ (7 * i))) := by unfold cInt; rw [cRd_inr hG.symm]
                rw [h1] at hk
                exact hk _ S.drop.drop
            · refine brX_d (fun h0 => ?_) (fun h0 => ?_)
              · (repeat refine Stp.h ?_)
                have : decide (x.toNat = 0 ∧ 0 < i) = decide ((0 : Int) < i) := by
                  have : x.toNat = 0 := by omega
                  simp only [this, true_and]
                  congr 1
                  exact propext ⟨fun h => by omega, fun h => by omega⟩
                rw [this] at hJ
                exact hJ
              · have : decide (x.toNat = 0 ∧ 0 < i) = false := by
                  have : x.toNat ≠ 0 := by omega
                  simp [this]
                rw [this] at hJ
                exact hJ
          · rw [if_neg (by omega), if_neg (by omega)] at hG
            (repeat refine Stp.h ?_)
            rw [wi64 (n := (i : Int) + 1) (by omega)]
            have h9 : i ≠ 9 := fun h9 => by omega
            refine ⟨⟨_, i + 1, rfl, by simp, by omega, by omega, ?_, hG, S⟩, by show _ < _; simp; omega⟩
            have h2 : (x.toNat % 128 + 1) * 2 ^ (7 * i) ≤ 128 * 2 ^ (7 * i) := Nat.mul_le_mul_right _ (by omega)
            rw [Nat.add_mul] at h2
            rw [show 7 * (i + 1) = 7 * i + 7 by omega, Nat.pow_add]
            omega
      · refine brX_d (fun h9 => ?_) (fun h9 => ?_)
        · (repeat refine Stp.h ?_)
          have : decide (i = 9 ∧ 1 < x.toNat) = decide ((1 : Int) < x.toNat) := by
            have : i = 9 := by omega
            simp only [this, true_and]
            congr 1
            exact propext ⟨fun h => by omega, fun h => by omega⟩
          rw [this] at hJ
          exact hJ
        · have : decide (i = 9 ∧ 1 < x.toNat) = false := by
            have : i ≠ 9 := by omega
            simp [this]
          rw [this] at hJ
          exact hJ

theorem cInt_bad (h : (cInt c).1.2 ≠ 0) : (cInt c).2 = 0 := by
  unfold cInt cRd at *
  split at h
  · rename_i h1; rw [if_pos h1]; exact zag0
  · rename_i h1
    rw [if_neg h1]
    split at h
    · rename_i e he; simp [zag0]
    · simp at h
theorem cInt_len : (cInt c).1.1.length ≤ c.1.length := by
  unfold cInt cRd
  split
  · exact Nat.le_refl _
  · split
    · simp
    · rename_i u l h
      have := (rdG_lt c.1 0 0 (by simp) (by omega) u l h).2
      dsimp only
      omega
theorem cSmall_len {most : Int} : (cSmall most c).1.1.length ≤ c.1.length := by
  unfold cSmall
  split
  · simp
  · exact cInt_len

theorem f128 {most : Int} (S : St M w0 w L) (hl : c.1.length ≤ 2 ^ 50) (hk : ∀ w', St M w0 w' L → K (.tuple #[rcu (cSmall most c).1, .int .i64 (cSmall most c).2]) w') : callX Tryd.prog 128 [rcu c, .int .i64 most] w K := by
  refine c128 _ _ _ _ ?_
  unfold s128
  rw [rcu_lit c]
  (refine StpA.h ?_; clear S; intro b1 w1 S)
  rw [← str_nil]
  (refine StpA.h ?_; clear S; intro b2 w2 S)
  (repeat refine Stp.h ?_)
  refine f92 (c := c) S hl fun w3 S3 => ?_
  clear S
  have S := S3
  clear S3
  rw [rcu_lit (cInt c).1]
  (repeat refine Stp.h ?_)
  (refine StpA.h ?_; clear S; intro b3 w4 S)
  (refine StpW.h ?_; clear S; intro w5 S)
  (repeat refine Stp.h ?_)
  have hc : cSmall most c = if (cInt c).1.2 = 0 ∧ ((cInt c).2 < 0 ∨ most < (cInt c).2) then (([], 2), 0) else cInt c := rfl
  refine brX_d (fun h0 => ?_) (fun h0 => ?_)
  · (repeat refine Stp.h ?_)
    (refine StpW.h ?_; clear S; intro w6 S)
    (repeat refine Stp.h ?_)
    rw [if_neg (fun h => h0 h.1)] at hc
    rw [hc] at hk
    have := hk _ S.drop.drop.drop
    rw [cInt_bad h0, rcu_lit] at this
    exact this
  · simp only [ne_eq, Decidable.not_not] at h0
    simp only [h0, true_and] at hc
    refine joinX_of (fun J => J (.bool (decide ((cInt c).2 < 0 ∨ most < (cInt c).2))) w5) ?_ (fun J hJ => ?_)
    · refine brX_d (fun h1 => ?_) (fun h1 => ?_)
      · (repeat refine Stp.h ?_)
        refine f153 (cs := [str (cInt c).1.1, .int .i64 (cInt c).1.2]) rfl S fun w6 S6 => ?_
        clear S
        have S := S6
        rw [rcu_lit]
        (refine StpW.h ?_; clear S; intro w7 S)
        (repeat refine Stp.h ?_)
        rw [if_pos h1] at hc
        rw [hc] at hk
        exact hk _ S.drop.drop.drop
      · (repeat refine Stp.h ?_)
        (refine StpW.h ?_; clear S; intro w6 S)
        (repeat refine Stp.h ?_)
        rw [if_neg h1] at hc
        rw [hc] at hk
        exact hk _ S.drop.drop.drop
    · (repeat refine Stp.h ?_)
      refine brX_d (fun h2 => ?_) (fun h2 => ?_)
      · simpa [h2] using hJ
      · (repeat refine Stp.h ?_)
        simpa [h2] using hJ

theorem f131 (S : St M w0 w L) (hk : ∀ w', St M w0 w' L → K (.int .i64 (cEnd c)) w') : callX Tryd.prog 131 [rcu c] w K := by
  refine c131 _ _ _ ?_
  unfold s131
  rw [rcu_lit]
  (refine StpA.h ?_; clear S; intro b1 w1 S)
  rw [← str_nil]
  refine joinX_of (fun J => J (.bool (decide (c.2 = 0 ∧ c.1 ≠ []))) w1) ?_ (fun J hJ => ?_)
  · refine brX_d (fun h => ?_) (fun h => ?_)
    · have := hk _ S.drop
      rw [cEnd, if_pos h] at this
      exact this
    · rw [cEnd, if_neg h] at hk
      (repeat refine Stp.h ?_)
      exact hk _ S.drop
  · (repeat refine Stp.h ?_)
    refine brX_d (fun h0 => ?_) (fun h0 => ?_)
    · (repeat refine Stp.h ?_)
      simpa [h0] using hJ
    · simpa [h0] using hJ
end
end Go.Proofs.YtgnmelnohclpgaaDoor

