/- The journal's frames and records, of bytes and of strings: what each function answers. -/
import Derived.Test.YtgnmelnohclpgaaDoorCoF
import Derived.Test.YtgnmelnohclpgaaDoorCoF
import Derived.Test.YtgnmelnohclpgaaDoorGnE
import Derived.Test.YtgnmelnohclpgaaDoorGnF
set_option linter.unusedVariables false
set_option linter.unusedSimpArgs false
namespace Go.Proofs.YtgnmelnohclpgaaDoor
open Go Go.RowKit

def allLen (s : Nat) (cs : List (List Value)) : Prop := ∀ c, c ∈ cs → c.length = s
/-- a slice's elements in memory -/
def RdR (w : World) (s : Nat) (v : Value) (cs : List (List Value)) : Prop := (v = .slice none 0 0 ∧ cs = []) ∨
  ∃ p c, v = .slice (some p) cs.length c ∧ cs.length ≤ c ∧ allLen s cs ∧ ∀ (i : Nat) (e : List Value), cs[i]? = some e → ∀ (j : Nat) (x : Value), e[j]? = some x → w.cell? (p.add (i * s + j)) = some x
def blkR (s : Nat) : Value → List (List Value) → List Nat
  | .slice (some p) _ _, _ :: _ => match s with
    | 0 => []
    | _ + 1 => [p.block]
  | _, _ => []
theorem RdR.loc {w w' : World} {s : Nat} {v : Value} {cs : List (List Value)} (h : RdR w s v cs) (hs : ∀ r, r ∈ blkR s v cs → w'.heap[r]? = w.heap[r]?) : RdR w' s v cs := by
  rcases h with ⟨rfl, rfl⟩ | ⟨p, c, rfl, hc, ha, h⟩
  · exact .inl ⟨rfl, rfl⟩
  · refine .inr ⟨p, c, rfl, hc, ha, fun i e he j x hx => ?_⟩
    cases cs with
    | nil => simp at he
    | cons y l =>
      have hlen := ha e (List.mem_of_getElem? he)
      have hj := (List.getElem?_eq_some_iff.1 hx).1
      cases s with
      | zero => omega
      | succ s =>
        rw [cell_same]
        · exact h i e he j x hx
        · rw [add_block]; exact hs _ (by simp [blkR])
theorem RdR.lt {w : World} {s : Nat} {v : Value} {cs : List (List Value)} (h : RdR w s v cs) : ∀ r, r ∈ blkR s v cs → r < w.heap.size := by
  intro r hr
  rcases h with ⟨rfl, rfl⟩ | ⟨p, c, rfl, hc, ha, h⟩
  · simp [blkR] at hr
  · cases cs with
    | nil => simp [blkR] at hr
    | cons y l =>
      cases s with
      | zero => simp [blkR] at hr
      | succ s =>
        obtain rfl : r = p.block := by simpa [blkR] using hr
        have hlen := ha y (by simp)
        have := cell_lt (h 0 y rfl 0 (y[0]'(by omega)) (List.getElem?_eq_getElem (by omega)))
        rwa [add_block] at this
def vrowP (s : Nat) (v : Value) (cs : List (List Value)) (w : World) (fp o : List Nat) : Prop := fp = blkR s v cs ∧ o = [] ∧ RdR w s v cs
/-- elements that nobody writes -/
def vrow (s : Nat) (v : Value) (cs : List (List Value)) : Item :=
  ⟨vrowP s v cs, fun h hs => by obtain ⟨rfl, rfl, h⟩ := h; exact ⟨rfl, rfl, h.loc hs⟩, fun h => by obtain ⟨rfl, rfl, h⟩ := h; exact h.lt, fun h r hr => by obtain ⟨rfl, rfl, h⟩ := h; simp at hr⟩

/-- elements of one's own -/
def OwR (w : World) (t : TypeId) (s : Nat) (v : Value) (cs : List (List Value)) (fp : List Nat) : Prop := allLen s cs ∧ ((v = .slice none 0 0 ∧ cs = [] ∧ fp = []) ∨
  ∃ b k r, v = .slice (some ⟨b, 0, none⟩) cs.length (cs.length + k) ∧ r.length = k * s ∧ fp = [b] ∧ w.heap[b]? = some (.cells (cs.flatten ++ r).toArray t (0, 0)))
def orowP (t : TypeId) (s : Nat) (v : Value) (cs : List (List Value)) (w : World) (fp o : List Nat) : Prop := o = fp ∧ OwR w t s v cs fp
theorem OwR.loc {w w' : World} {t : TypeId} {s : Nat} {v : Value} {cs : List (List Value)} {fp : List Nat} (h : OwR w t s v cs fp) (hs : ∀ r, r ∈ fp → w'.heap[r]? = w.heap[r]?) : OwR w' t s v cs fp := by
  obtain ⟨ha, h⟩ := h
  refine ⟨ha, ?_⟩
  rcases h with ⟨rfl, rfl, rfl⟩ | ⟨b, k, r, rfl, hk, rfl, h⟩
  · exact .inl ⟨rfl, rfl, rfl⟩
  · exact .inr ⟨b, k, r, rfl, hk, rfl, (hs b (by simp)).trans h⟩
theorem OwR.lt {w : World} {t : TypeId} {s : Nat} {v : Value} {cs : List (List Value)} {fp : List Nat} (h : OwR w t s v cs fp) : ∀ r, r ∈ fp → r < w.heap.size := by
  obtain ⟨ha, h⟩ := h
  rcases h with ⟨rfl, rfl, rfl⟩ | ⟨b, k, r, rfl, hk, rfl, h⟩
  · simp
  · intro q hq
    obtain rfl : q = b := by simpa using hq
    exact (Array.getElem?_eq_some_iff.1 h).1
def orow (t : TypeId) (s : Nat) (v : Value) (cs : List (List Value)) : Item :=
  ⟨orowP t s v cs, fun h hs => by obtain ⟨rfl, h⟩ := h; exact ⟨rfl, h.loc hs⟩, fun h => by obtain ⟨rfl, h⟩ := h; exact h.lt, fun h r hr => by obtain ⟨rfl, h⟩ := h; exact hr⟩

theorem flatten_len {s : Nat} : ∀ {cs : List (List Value)}, allLen s cs → cs.flatten.length = cs.length * s
  | [], _ => by simp
  | c :: cs, h => by
    have h1 := h c (by simp)
    have h2 := flatten_len (cs := cs) fun x hx => h x (by simp [hx])
    simp only [List.flatten_cons, List.length_append, List.length_cons, h1, h2, Nat.add_mul]
    omega
theorem flatten_get {s : Nat} : ∀ {cs : List (List Value)}, allLen s cs → ∀ {i : Nat} {e : List Value}, cs[i]? = some e → ∀ {j : Nat} {x : Value}, e[j]? = some x → cs.flatten[i * s + j]? = some x
  | [], _, i, e, he, j, x, hx => by simp at he
  | c :: cs, h, 0, e, he, j, x, hx => by
    simp at he
    subst he
    have hj := (List.getElem?_eq_some_iff.1 hx).1
    simp only [List.flatten_cons, Nat.zero_mul, Nat.zero_add]
    rw [List.getElem?_append_left hj]
    exact hx
  | c :: cs, h, i + 1, e, he, j, x, hx => by
    have h1 := h c (by simp)
    simp only [List.flatten_cons]
    rw [List.getElem?_append_right (by rw [h1, Nat.add_mul]; omega), h1, show (i + 1) * s + j - s = i * s + j by rw [Nat.add_mul]; omega]
    exact flatten_get (fun x hx => h x (by simp [hx])) (by simpa using he) hx
theorem OwR.rd {w : World} {t : TypeId} {s : Nat} {v : Value} {cs : List (List Value)} {fp : List Nat} (h : OwR w t s v cs fp) : RdR w s v cs := by
  obtain ⟨ha, h⟩ := h
  rcases h with ⟨rfl, rfl, rfl⟩ | ⟨b, k, r, rfl, hk, rfl, h⟩
  · exact .inl ⟨rfl, rfl⟩
  · refine .inr ⟨⟨b, 0, none⟩, _, rfl, by omega, ha, fun i e he j x hx => ?_⟩
    rw [add_none, cell_of h]
    have := flatten_get ha he hx
    have hlt := (List.getElem?_eq_some_iff.1 this).1
    simp [List.getElem?_append_left hlt, this]

theorem Has.vrow {L : List Item} {w : World} {s : Nat} {v : Value} {cs : List (List Value)} (h : Has L w) (hm : InI (vrow s v) cs L) : RdR w s v cs := by
  obtain ⟨fp, o, hp⟩ := h.get hm.mem
  exact hp.2.2
theorem Has.orow {L : List Item} {w : World} {t : TypeId} {s : Nat} {v : Value} {cs : List (List Value)} (h : Has L w) (hm : InI (orow t s v) cs L) : RdR w s v cs := by
  obtain ⟨fp, o, hp⟩ := h.get hm.mem
  exact hp.2.rd
/-- a row that is known, one's own or not -/
class RowI (s : Nat) (v : Value) (cs : outParam (List (List Value))) (L : List Item) : Prop where
  rd : ∀ w, Has L w → RdR w s v cs
instance {s : Nat} {v : Value} {cs : List (List Value)} {L : List Item} [h : InI (vrow s v) cs L] : RowI s v cs L := ⟨fun w hh => hh.vrow h⟩
instance (priority := low) {t : TypeId} {s : Nat} {v : Value} {cs : List (List Value)} {L : List Item} : RowI s v cs (orow t s v cs :: L) := ⟨fun w hh => hh.orow (t := t) inferInstance⟩
instance (priority := low) {s : Nat} {v : Value} {cs : List (List Value)} {x : Item} {L : List Item} [h : RowI s v cs L] : RowI s v cs (x :: L) := ⟨fun w hh => h.rd w hh.tail⟩

section
variable {M : List Nat} {w0 w : World} {L R : List Item} {v u : Value} {t : TypeId} {s : Nat} {cs : List (List Value)} {e : List Value}

theorem RdR.len {K : Value → Prop} (h : RdR w s v cs) (hk : K (.int .i64 (cs.length : Nat))) : lenSX v K := by
  rcases h with ⟨rfl, rfl⟩ | ⟨p, c, rfl, hc, ha, h⟩
  · exact hk
  · exact hk
theorem RdR.one (h : RdR w s v cs) : One v := by
  rcases h with ⟨rfl, rfl⟩ | ⟨p, c, rfl, hc, ha, h⟩ <;> infer_instance
/-- l[i], of one cell -/
theorem RdR.at1 {K : Value → Prop} {i : Nat} {x : Value} (h : RdR w 1 v cs) (hx : cs[i]? = some [x]) (hk : K x) : indexSX 1 v (.int .i64 (i : Nat)) fun t => load1X t w K := by
  rcases h with ⟨rfl, rfl⟩ | ⟨p, c, rfl, hc, ha, h⟩
  · simp at hx
  · have hlt := (List.getElem?_eq_some_iff.1 hx).1
    refine ⟨by omega, by omega, x, ?_, hk⟩
    have := h i [x] hx 0 x rfl
    rw [show ((i : Nat) : Int).toNat * 1 = i * 1 + 0 by omega]
    exact this
/-- l[i], of some cells -/
theorem RdR.atN {K : Value → Prop} {i : Nat} (h : RdR w s v cs) (hx : cs[i]? = some e) (hk : K (.agg e.toArray)) : indexSX s v (.int .i64 (i : Nat)) fun t => loadNX s t w K := by
  rcases h with ⟨rfl, rfl⟩ | ⟨p, c, rfl, hc, ha, h⟩
  · simp at hx
  · have hlt := (List.getElem?_eq_some_iff.1 hx).1
    refine ⟨by omega, by omega, e, ha e (List.mem_of_getElem? hx), fun j x hj => ?_, hk⟩
    have := h i e hx j x hj
    rw [cells_add', show ((i : Nat) : Int).toNat * s = i * s by rw [Int.toNat_natCast]]
    exact this

theorem orow_nil (S : St M w0 w L) : St M w0 w (orow t s (.slice none 0 0) [] :: L) := by
  obtain ⟨F, O, h1, h2⟩ := S.has
  exact ⟨S.size, S.old, S.same, _, _, .cons (I := orow t s (.slice none 0 0) []) ⟨rfl, fun c hc => by simp at hc, .inl ⟨rfl, rfl, rfl⟩⟩ h1 (by simp) (by simp), by simpa using h2⟩
theorem St.frzR (S : St M w0 w (orow t s v cs :: L)) : St M w0 w (vrow s v cs :: L) := by
  obtain ⟨F, O, h1, h2⟩ := S.has
  cases h1 with
  | @cons _ _ fp o F2 O2 k1 k2 k3 k4 =>
    obtain ⟨rfl, hb⟩ := k1
    have hsub : ∀ r, r ∈ blkR s v cs → r ∈ o := by
      obtain ⟨_, hb⟩ := hb
      rcases hb with ⟨rfl, rfl, rfl⟩ | ⟨b, k, r, rfl, _, rfl, h⟩
      · simp [blkR]
      · intro r hr
        cases cs with
        | nil => simp [blkR] at hr
        | cons y l => cases s <;> simp [blkR] at hr; simp [hr]
    exact ⟨S.size, S.old, S.same, _, _, .cons (I := vrow s v cs) ⟨rfl, rfl, hb.rd⟩ k2 (by simp) (fun r hr => k4 r (hsub r hr)), fun r hr => h2 r (by simp at hr; simp [hr])⟩

/-- append(l, x) -/
theorem St.push {bytes : Nat} {z : List Value} {x : Value} {K : Cont} (S : St M w0 w (orow t s v cs :: L)) (hx : x.cells = e.toArray) (he : e.length = s) (ho : ∀ y ∈ e, y.oneCell' = true) (hz : z.length = s) (hl : (4 * cs.length + 4000) * bytes ≤ 2 ^ 48)
    (hk : ∀ w' v', St M w0 w' (orow t s v' (cs ++ [e]) :: L) → K v' w') : buildSX t s [x] w fun t9 w10 => appendX t s bytes z v t9 w10 K := by
  refine ⟨fun y hy => ?_, fun b1 w1 hn => ?_⟩
  · obtain rfl : y = x := by simpa using hy
    rw [hx]; simpa using he
  · have S1 := S.newB hn
    simp only [List.flatMap_cons, List.flatMap_nil, List.append_nil, hx] at S1
    have hb1 : w1.heap[b1]? = some (.cells e.toArray t (0, 0)) := S1.get List.mem_cons_self
    obtain ⟨F, O, h1, h2⟩ := S1.drop.has
    have hread : ∀ (i : Nat) (y : Value), e[i]? = some y → w1.cell? ((⟨b1, 0, none⟩ : Addr).add i) = some y := by
      intro i y hy
      rw [add_none, cell_of hb1]
      simpa using hy
    cases h1 with
    | @cons _ _ fp o F2 O2 k1 k2 k3 k4 =>
      obtain ⟨rfl, ha, hb⟩ := k1
      have ha' : allLen s (cs ++ [e]) := by
        intro c hc
        rcases List.mem_append.1 hc with hc | hc
        · exact ha c hc
        · obtain rfl : c = e := by simpa using hc
          exact he
      have hzl : ∀ n, (zeros z n).length = n * s := by
        intro n
        unfold zeros
        induction n with
        | zero => simp
        | succ n ih => simp only [List.replicate_succ, List.flatten_cons, List.length_append, ih, hz, Nat.add_mul]; omega
      have grow : ∀ b w' nc, cs.length + 1 ≤ nc → New w1 w' b (.cells (cs.flatten ++ e ++ zeros z (nc - (cs.length + 1))).toArray t (0, 0)) → K (.slice (some ⟨b, 0, none⟩) (cs.length + 1) nc) w' := by
        intro b w' nc hnc h
        have := hk w' (.slice (some ⟨b, 0, none⟩) (cs ++ [e]).length ((cs ++ [e]).length + (nc - (cs.length + 1)))) (S1.drop.drop.newI (I := orow t s _ (cs ++ [e])) (by rw [h.size]; omega) h.old h.same ⟨rfl, ha', .inr ⟨b, nc - (cs.length + 1), zeros z (nc - (cs.length + 1)), rfl, hzl _, rfl, by
          have e1 : (cs ++ [e]).flatten = cs.flatten ++ e := by simp
          rw [e1]; exact h.obj⟩⟩ (fun r hr => by rw [List.mem_singleton.1 hr, h.isNew]; exact Nat.le_refl _))
        simp only [List.length_append, List.length_cons, List.length_nil] at this
        rw [show cs.length + (0 + 1) + (nc - (cs.length + 1)) = nc by omega] at this
        exact this
      rcases hb with ⟨rfl, rfl, rfl⟩ | ⟨b, k, r, rfl, hkr, rfl, hblk⟩
      · refine ⟨1, [], e, rfl, rfl, ⟨by omega, hread⟩, ho, fun h0 => by omega, fun _ => ⟨?_, fun b w' nc h1 h => ?_⟩⟩
        · simp only [List.length_nil] at hl
          have : (3 * 0 + 0 + 1 + 1000) * bytes ≤ (4 * 0 + 4000) * bytes := Nat.mul_le_mul_right _ (by omega)
          omega
        · have := grow b w' nc (by simpa using h1) (by simpa using h)
          simpa using this
      · refine ⟨1, cs.flatten, e, rfl, ⟨flatten_len ha, fun i y hy => ?_⟩, ⟨by omega, hread⟩, ho, fun h0 => ?_, fun h0 => ⟨?_, fun b' w' nc h1 h => grow b' w' nc h1 h⟩⟩
        · rw [add_none, cell_of hblk]
          have hlt := (List.getElem?_eq_some_iff.1 hy).1
          simp [List.getElem?_append_left hlt, hy]
        · have hks : s ≤ r.length := by
            rw [hkr]
            have : 1 * s ≤ k * s := Nat.mul_le_mul_right _ (by omega)
            omega
          refine ⟨_, _, _, hblk, by simp [flatten_len ha, he]; omega, thawed0 _ _, fun w' hst => ?_⟩
          have e2 : putAll (cs.flatten ++ r).toArray (0 + cs.length * s) e = ((cs ++ [e]).flatten ++ r.drop s).toArray := by
            have := putAll_behind cs.flatten r e (by omega)
            rw [flatten_len ha] at this
            rw [show 0 + cs.length * s = cs.length * s by omega, this, he]
            simp
          rw [e2] at hst
          have hbo := h2 b (by simp)
          have := hk w' (.slice (some ⟨b, 0, none⟩) (cs ++ [e]).length ((cs ++ [e]).length + (k - 1))) (by
            refine ⟨by rw [hst.size]; exact S1.size, fun q hq hM => (hst.old q ?_).trans (S1.old q hq hM), S1.same.trans hst.same, _, _, .cons (I := orow t s _ (cs ++ [e])) ⟨rfl, ha', .inr ⟨b, k - 1, r.drop s, rfl, by rw [List.length_drop, hkr, Nat.sub_mul]; omega, rfl, hst.obj⟩⟩ (k2.loc fun q hq => hst.old q ?_) k3 k4, h2⟩
            · rintro rfl
              rcases hbo with h | h
              · exact hM h
              · omega
            · rintro rfl
              exact k3 q (by simp) hq)
          simp only [List.length_append, List.length_cons, List.length_nil] at this
          rw [show cs.length + (0 + 1) + (k - 1) = cs.length + k by omega] at this
          exact this
        · have : (3 * (cs.length + k) + cs.length + 1 + 1000) * bytes ≤ (4 * cs.length + 4000) * bytes := Nat.mul_le_mul_right _ (by omega)
          omega
end
end Go.Proofs.YtgnmelnohclpgaaDoor

namespace Go.Proofs.YtgnmelnohclpgaaDoor
open Go Go.RowKit

/-! ### The plain law -/
def sab : List UInt8 → Nat → Nat → Nat × Nat
  | [], a, b => (a, b)
  | x :: l, a, b => sab l ((a + x.toNat) % 65521) ((b + (a + x.toNat) % 65521) % 65521)
def sumL (l : List UInt8) : Nat := (sab l 1 0).2 * 65536 + (sab l 1 0).1
theorem sab_lt : ∀ (l : List UInt8) (a b : Nat), a < 65521 → b < 65521 → (sab l a b).1 < 65521 ∧ (sab l a b).2 < 65521
  | [], a, b, ha, hb => ⟨ha, hb⟩
  | x :: l, a, b, ha, hb => sab_lt l _ _ (Nat.mod_lt _ (by omega)) (Nat.mod_lt _ (by omega))
theorem sumL_lt (l : List UInt8) : sumL l < 2 ^ 32 := by
  have := sab_lt l 1 0 (by omega) (by omega)
  unfold sumL
  omega
theorem wu32 {n : Int} (h : 0 ≤ n ∧ n < 4294967296) : IntKind.u32.wrap n = n := by rw [IntKind.wrap_u32]; omega

section
variable {M : List Nat} {w0 w : World} {L R : List Item} {v u : Value} {l m : List UInt8} {K : Cont} {b : Nat}

/-- a literal of elements of one cell each -/
theorem St.row1 {t : TypeId} {x : Value} [ho : One x] (S : St M w0 w L) (hk : ∀ w' r, St M w0 w' (orow t 1 r [[x]] :: L) → K r w') : buildSX t 1 [x] w K := by
  have hc : x.cells = #[x] := one_cells ho.one
  refine ⟨fun y hy => ?_, fun b w' h => ?_⟩
  · obtain rfl : y = x := by simpa using hy
    rw [hc]; rfl
  · simp only [List.flatMap_cons, List.flatMap_nil, List.append_nil, hc] at h
    exact hk w' (.slice (some ⟨b, 0, none⟩) 1 1) (S.newI (I := orow t 1 _ [[x]]) (by rw [h.size]; omega) h.old h.same ⟨rfl, fun c hc => by simp at hc; simp [hc], .inr ⟨b, 0, [], by simp, by simp, rfl, by simpa using h.obj⟩⟩ (fun r hr => by rw [List.mem_singleton.1 hr, h.isNew]; exact Nat.le_refl _))

def ru (a b : Nat) : List Value := [.int .u32 (a : Nat), .int .u32 (b : Nat)]
theorem ru_lit (a b : Nat) : ru a b = [.int .u32 (a : Nat), .int .u32 (b : Nat)] := rfl

theorem f160 (S : St M w0 w L) (hk : ∀ w', St M w0 w' L → K (.agg (ru 1 0).toArray) w') : callX Tryd.prog 160 [] w K := by
  refine c160 _ _ ?_
  unfold s160
  (refine StpA.h ?_; clear S; intro b1 w1 S)
  (repeat refine Stp.h ?_)
  (refine StpW.h ?_; clear S; intro w2 S)
  (repeat refine Stp.h ?_)
  exact hk _ S.drop

theorem f182 {x y : Nat} (hx : x < 2 ^ 32) (hy : y < 2 ^ 32) (hk : K (.int .u32 ((x + y) % 65521 : Nat)) w) : callX Tryd.prog 182 [.int .u32 (x : Nat), .int .u32 (y : Nat)] w K := by
  refine c182 _ _ _ _ ?_
  unfold s182
  (repeat refine Stp.h ?_)
  rw [wu64 (n := (x : Nat)) (by omega), wu64 (n := (y : Nat)) (by omega), wu64 (n := (x : Int) + (y : Int)) (by omega)]
  refine ⟨rfl, by omega, ?_⟩
  (repeat refine Stp.h ?_)
  rw [Int.tmod_eq_emod_of_nonneg (by omega), wu32 (by omega)]
  have : ((x + y) % 65521 : Nat) = ((x : Int) + (y : Int)) % 65521 := by omega
  rw [this] at hk
  exact hk

theorem f181 {x : UInt8} {a c : Nat} (ha : a < 65521) (hc : c < 65521) (S : St M w0 w (blk b (.cells (ru a c).toArray 227 (0, 0)) :: L))
    (hk : ∀ w', St M w0 w' (blk b (.cells (ru ((a + x.toNat) % 65521) ((c + (a + x.toNat) % 65521) % 65521)).toArray 227 (0, 0)) :: L) → K (.tuple #[]) w') : callX Tryd.prog 181 [by1 x, .pointer (some ⟨b, 0, none⟩)] w K := by
  refine c181 _ _ _ _ ?_
  unfold s181 by1
  rw [ru_lit] at S
  have hx := x.toNat_lt
  (repeat refine Stp.h ?_)
  rw [wu32 (n := (x.toNat : Nat)) (by omega)]
  refine f182 (by omega) (by omega) ?_
  (repeat refine Stp.h ?_)
  (refine StpW.h ?_; clear S; intro w1 S)
  (repeat refine Stp.h ?_)
  refine f182 (by omega) (by omega) ?_
  (repeat refine Stp.h ?_)
  (refine StpW.h ?_; clear S; intro w2 S)
  exact hk _ S

theorem f180 {a c : Nat} (ha : a < 65521) (hc : c < 65521) [hm : InI (vw v) l L] (hl : l.length < 2 ^ 62) (S : St M w0 w (blk b (.cells (ru a c).toArray 227 (0, 0)) :: L))
    (hk : ∀ w', St M w0 w' (blk b (.cells (ru (sab l a c).1 (sab l a c).2).toArray 227 (0, 0)) :: L) → K (.tuple #[]) w') : callX Tryd.prog 180 [v, .func (.func 181) #[] #[.pointer (some ⟨b, 0, none⟩)]] w K := by
  refine c180 _ _ _ _ ?_
  unfold s180
  refine (S.hs.vw (v := v) (l := l) inferInstance).len ?_
  refine ⟨fun t W => ∃ i : Nat, ∃ a' c', t = .int .i64 i ∧ i ≤ l.length ∧ a' < 65521 ∧ c' < 65521 ∧ sab (l.drop i) a' c' = sab l a c ∧ St M w0 W (blk b (.cells (ru a' c').toArray 227 (0, 0)) :: L), fun t W => match t with | .int _ i => l.length - i.toNat | _ => 0, ⟨0, a, c, rfl, by omega, ha, hc, rfl, S⟩, ?_⟩
  clear S
  rintro t W ⟨i, a', c', rfl, hi, ha', hc', he, S⟩
  (repeat refine Stp.h ?_)
  refine brX_d (fun hlt => ?_) (fun hlt => ?_)
  · have hlt' : i < l.length := by omega
    obtain ⟨x, hx⟩ : ∃ x, l[i]? = some x := ⟨_, List.getElem?_eq_getElem hlt'⟩
    have hd : l.drop i = x :: l.drop (i + 1) := by
      rw [List.drop_eq_getElem_cons hlt']
      congr 1
      exact (List.getElem?_eq_some_iff.1 hx).2
    refine (S.hs.vw (v := v) (l := l) inferInstance).at hx ?_
    refine ⟨by kernel_rfl, ?_⟩
    refine f181 ha' hc' S fun w1 S1 => ?_
    (repeat refine Stp.h ?_)
    rw [wi64 (by omega)]
    rw [hd] at he
    exact ⟨⟨i + 1, _, _, by simp, by omega, Nat.mod_lt _ (by omega), Nat.mod_lt _ (by omega), he, S1⟩, by show _ < _; simp; omega⟩
  · have : i = l.length := by omega
    subst this
    rw [List.drop_length] at he
    simp only [sab] at he
    rw [← he] at hk
    exact hk _ S

theorem f161 {a c : Nat} (ha : a < 65521) (hc : c < 65521) [hm : InI (vw v) l L] (hl : l.length < 2 ^ 62) (S : St M w0 w L) (hk : ∀ w', St M w0 w' L → K (.agg (ru (sab l a c).1 (sab l a c).2).toArray) w') : callX Tryd.prog 161 [.agg (ru a c).toArray, v] w K := by
  refine c161 _ _ _ _ ?_
  unfold s161
  rw [ru_lit]
  (refine StpA.h ?_; clear S; intro b1 w1 S)
  (refine StpA.h ?_; clear S; intro b2 w2 S)
  rw [← ru_lit] at S
  refine f180 ha hc hl ((S.perm (.swap _ _ _))) fun w3 S3 => ?_
  clear S
  have S := S3
  rw [ru_lit] at S
  (repeat refine Stp.h ?_)
  (refine StpW.h ?_; clear S; intro w4 S)
  (repeat refine Stp.h ?_)
  exact hk _ S.drop.drop

theorem f162 {a c : Nat} (ha : a < 65521) (hc : c < 65521) (S : St M w0 w L) (hk : ∀ w', St M w0 w' L → K (.int .u32 (c * 65536 + a : Nat)) w') : callX Tryd.prog 162 [.agg (ru a c).toArray] w K := by
  refine c162 _ _ _ ?_
  unfold s162
  rw [ru_lit]
  (refine StpA.h ?_; clear S; intro b1 w1 S)
  (repeat refine Stp.h ?_)
  refine shlX_i (by omega) ?_
  have e : IntKind.u32.wrap ((c : Int) * 2 ^ min (16 : Int).toNat (IntKind.bits .u32)) = ((c * 65536 : Nat) : Int) := by
    show IntKind.u32.wrap ((c : Int) * 65536) = _
    rw [wu32 (by omega)]; simp
  rw [e]
  (repeat refine Stp.h ?_)
  rw [wu32 (by omega)]
  exact hk _ S.drop

theorem f100 {r : Value} [hr : RowI 1 r [[v]] L] [hm : InI (vw v) l L] (hl : l.length < 2 ^ 62) (S : St M w0 w L) (hk : ∀ w', St M w0 w' L → K (.int .u32 (sumL l : Nat)) w') : callX Tryd.prog 100 [r] w K := by
  refine c100 _ _ _ ?_
  unfold s100
  refine f160 S fun w1 S1 => ?_
  clear S
  have S := S1
  rw [ru_lit]
  (refine StpA.h ?_; clear S; intro b1 w2 S)
  (refine StpW.h ?_; clear S; intro w3 S)
  rw [← ru_lit] at S
  refine RdR.len (s := 1) (cs := [[v]]) (hr.rd _ S.drop.hs) ?_
  refine ⟨fun t W => ∃ i : Nat, t = .int .i64 i ∧ ((i = 0 ∧ St M w0 W (blk b1 (.cells (ru 1 0).toArray 227 (0, 0)) :: L)) ∨ (i = 1 ∧ St M w0 W (blk b1 (.cells (ru (sab l 1 0).1 (sab l 1 0).2).toArray 227 (0, 0)) :: L))),
    fun t W => match t with | .int _ i => 1 - i.toNat | _ => 0, ⟨0, rfl, .inl ⟨rfl, S⟩⟩, ?_⟩
  clear S
  have hs := sab_lt l 1 0 (by omega) (by omega)
  rintro t W ⟨i, rfl, ⟨rfl, S⟩ | ⟨rfl, S⟩⟩
  · (repeat refine Stp.h ?_)
    refine brX_dt (by simp) ?_
    refine (hr.rd _ S.drop.hs).at1 (i := 0) rfl ?_
    rw [ru_lit] at S
    (repeat refine Stp.h ?_)
    rw [← ru_lit] at S
    refine f161 (a := 1) (c := 0) (by omega) (by omega) hl S fun w4 S4 => ?_
    clear S
    have S := S4
    rw [ru_lit] at S
    rw [ru_lit (sab l 1 0).1]
    (refine StpW.h ?_; clear S; intro w5 S)
    (repeat refine Stp.h ?_)
    rw [wi64 (by omega)]
    exact ⟨⟨1, rfl, .inr ⟨rfl, S⟩⟩, by show _ < _; simp⟩
  · (repeat refine Stp.h ?_)
    refine brX_df (by simp) ?_
    rw [ru_lit] at S
    (repeat refine Stp.h ?_)
    refine f162 (a := (sab l 1 0).1) (c := (sab l 1 0).2) hs.1 hs.2 S fun w4 S4 => ?_
    exact hk _ S4.drop

theorem f102 (hl : l.length < 2 ^ 62) (hk : K (.int .u32 (sumL l : Nat)) w) : callX Tryd.prog 102 [str l] w K := by
  refine c102 _ _ _ ?_
  unfold s102
  refine ⟨fun t1 t2 t3 W => W = w ∧ ∃ i a c : Nat, t1 = .int .i64 a ∧ t2 = .int .i64 c ∧ t3 = .int .i64 i ∧ i ≤ l.length ∧ a < 65521 ∧ c < 65521 ∧ sab (l.drop i) a c = sab l 1 0, fun t1 t2 t3 W => match t3 with | .int _ i => l.length - i.toNat | _ => 0, ⟨rfl, 0, 1, 0, rfl, rfl, rfl, by omega, by omega, by omega, rfl⟩, ?_⟩
  rintro t1 t2 t3 W ⟨rfl, i, a, c, rfl, rfl, rfl, hi, ha, hc, he⟩
  have hs := sab_lt l 1 0 (by omega) (by omega)
  (repeat refine Stp.h ?_)
  refine brX_d (fun hlt => ?_) (fun hlt => ?_)
  · have hlt' : i < l.length := by omega
    obtain ⟨x, hx⟩ : ∃ x, l[i]? = some x := ⟨_, List.getElem?_eq_getElem hlt'⟩
    have hd : l.drop i = x :: l.drop (i + 1) := by
      rw [List.drop_eq_getElem_cons hlt']
      congr 1
      exact (List.getElem?_eq_some_iff.1 hx).2
    refine str_at hx ?_
    have hx256 := x.toNat_lt
    (repeat refine Stp.h ?_)
    rw [wi64 (n := ((x.toNat : Nat) : Int)) (by omega), wi64 (n := (a : Int) + _) (by omega)]
    refine ⟨rfl, by omega, ?_⟩
    rw [Int.tmod_eq_emod_of_nonneg (by omega)]
    (repeat refine Stp.h ?_)
    rw [wi64 (n := (c : Int) + _) (by omega)]
    refine ⟨rfl, by omega, ?_⟩
    rw [Int.tmod_eq_emod_of_nonneg (by omega)]
    (repeat refine Stp.h ?_)
    rw [wi64 (n := (i : Int) + 1) (by omega)]
    rw [hd] at he
    refine ⟨⟨rfl, i + 1, (a + x.toNat) % 65521, (c + (a + x.toNat) % 65521) % 65521, ?_, ?_, by simp, by omega, Nat.mod_lt _ (by omega), Nat.mod_lt _ (by omega), he⟩, by show _ < _; simp; omega⟩
    · congr 1
    · congr 1
  · have : i = l.length := by omega
    subst this
    rw [List.drop_length] at he
    simp only [sab] at he
    have h1 : (sab l 1 0).1 = a := by rw [← he]
    have h2 : (sab l 1 0).2 = c := by rw [← he]
    (repeat refine Stp.h ?_)
    rw [wu32 (n := (c : Nat)) (by omega), wu32 (n := (a : Nat)) (by omega), wu32 (n := (c : Int) * 65536) (by omega), wu32 (by omega)]
    have : ((sumL l : Nat) : Int) = (c : Int) * 65536 + a := by unfold sumL; rw [h1, h2]; simp
    rw [this] at hk
    exact hk
end
end Go.Proofs.YtgnmelnohclpgaaDoor

namespace Go.Proofs.YtgnmelnohclpgaaDoor
open Go Go.RowKit

def le4 (n : Nat) : List UInt8 := (List.range 4).map fun i => (n / 256 ^ i % 256).toUInt8
def numL : List UInt8 → Nat
  | [] => 0
  | x :: l => x.toNat + 256 * numL l
def num4 (l : List UInt8) : Nat := numL (l.take 4)
theorem numL_snoc (l : List UInt8) (x : UInt8) : numL (l ++ [x]) = numL l + x.toNat * 256 ^ l.length := by
  induction l with
  | nil => simp [numL]
  | cons y l ih =>
    simp only [List.cons_append, numL, ih, List.length_cons, Nat.pow_succ, Nat.mul_add]
    have : 256 * (x.toNat * 256 ^ l.length) = x.toNat * (256 ^ l.length * 256) := by rw [Nat.mul_comm 256, Nat.mul_assoc]
    omega
theorem numL_lt (l : List UInt8) : numL l < 256 ^ l.length := by
  induction l with
  | nil => simp [numL]
  | cons y l ih =>
    have := y.toNat_lt
    simp only [numL, List.length_cons, Nat.pow_succ]
    omega
theorem num4_lt (l : List UInt8) : num4 l < 2 ^ 32 := by
  have h := numL_lt (l.take 4)
  have : (256 : Nat) ^ (l.take 4).length ≤ 256 ^ 4 := Nat.pow_le_pow_right (by omega) (by simp; omega)
  unfold num4
  omega
theorem num4_le4 {n : Nat} (h : n < 2 ^ 32) (m : List UInt8) : num4 (le4 n ++ m) = n := by
  have h8 : ∀ k : Nat, ((k % 256).toUInt8).toNat = k % 256 := fun k => UInt8.toNat_ofNat_of_lt' (by show k % 256 < 256; omega)
  unfold num4 le4
  simp only [List.range, List.range.loop, List.map_cons, List.map_nil, List.cons_append, List.nil_append, List.take_succ_cons, List.take_zero, numL, h8]
  omega
theorem le4_len (n : Nat) : (le4 n).length = 4 := by simp [le4]

section
variable {M : List Nat} {w0 w : World} {L R : List Item} {v u : Value} {l m : List UInt8} {K : Cont} {b : Nat}

theorem f99 {n : Nat} (hn : n < 2 ^ 32) (hl : l.length ≤ 2 ^ 30) (S : St M w0 w (byt v l :: L)) (hk : ∀ w' v', St M w0 w' (byt v' (l ++ le4 n) :: L) → K v' w') : callX Tryd.prog 99 [v, .int .u32 (n : Nat)] w K := by
  refine c99 _ _ _ _ ?_
  unfold s99
  refine ⟨fun t1 t2 t3 W => ∃ i : Nat, t2 = .int .u32 ((n / 256 ^ i : Nat) : Int) ∧ t3 = .int .i64 i ∧ i ≤ 4 ∧ St M w0 W (byt t1 (l ++ (le4 n).take i) :: L), fun t1 t2 t3 W => match t3 with | .int _ i => 4 - i.toNat | _ => 0, ⟨0, by simp, rfl, by omega, by simpa using S⟩, ?_⟩
  clear S
  rintro t1 t2 t3 W ⟨i, rfl, rfl, hi, S⟩
  (repeat refine Stp.h ?_)
  refine brX_d (fun hlt => ?_) (fun hlt => ?_)
  · have hlt' : i < 4 := by omega
    (repeat refine Stp.h ?_)
    have e1 : IntKind.u8.wrap (((n / 256 ^ i : Nat)) : Int) = ((n / 256 ^ i % 256 : Nat) : Int) := wu8 _
    rw [e1]
    refine S.bytes (l := [(n / 256 ^ i % 256).toUInt8]) (by show _ = [by1 _]; rw [by1_of (Nat.mod_lt _ (by omega))]) fun w1 v1 S1 => ?_
    refine St.append (L := byt v1 _ :: byt t1 _ :: L) (R := byt v1 _ :: L) S1 (m := [(n / 256 ^ i % 256).toUInt8]) ?_ (by simp; omega) fun w2 v2 S2 => ?_
    · obtain ⟨F, O, hh⟩ := S1.hs
      cases hh with
      | cons k1 => exact k1.2.rd
    · refine shrX_i (by omega) ?_
      have e : ((n / 256 ^ i : Nat) : Int).fdiv (2 ^ min (8 : Int).toNat (IntKind.bits .u32)) = ((n / 256 ^ (i + 1) : Nat) : Int) := by
        show ((n / 256 ^ i : Nat) : Int).fdiv 256 = _
        rw [Int.fdiv_eq_ediv_of_nonneg _ (by omega), Nat.pow_succ, ← Nat.div_div_eq_div_mul]
        omega
      rw [e]
      (repeat refine Stp.h ?_)
      rw [wi64 (by omega)]
      have e3 : (le4 n).take (i + 1) = (le4 n).take i ++ [(n / 256 ^ i % 256).toUInt8] := by
        rw [List.take_add_one]
        congr 1
        simp [le4, hlt']
      have S3 := (S2.perm (.swap _ _ _)).drop
      rw [List.append_assoc, ← e3] at S3
      exact ⟨⟨i + 1, rfl, by simp, by omega, S3⟩, by show _ < _; simp; omega⟩
  · have : i = 4 := by omega
    subst this
    have e4 : (le4 n).take 4 = le4 n := List.take_of_length_le (by simp [le4])
    rw [e4] at S
    exact hk _ _ S

theorem str_atI {K : Value → Prop} {i : Int} {n : Nat} {x : UInt8} (hi : i = n) (hx : l[n]? = some x) (hk : K (.int .u8 x.toNat)) : indexStrX (str l) (.int .i64 i) K := by subst hi; exact str_at hx hk

theorem f101 {n : Nat} (hn : n < 2 ^ 32) (S : St M w0 w L) (hk : ∀ w', St M w0 w' L → K (str (le4 n)) w') : callX Tryd.prog 101 [.int .u32 (n : Nat)] w K := by
  refine c101 _ _ _ ?_
  unfold s101
  (repeat refine Stp.h ?_)
  have hs : ∀ k : Nat, k ≤ 32 → ((n : Nat) : Int).fdiv (2 ^ min ((k : Nat) : Int).toNat (IntKind.bits .u32)) = ((n / 2 ^ k : Nat) : Int) := by
    intro k hk
    rw [Int.toNat_natCast, show IntKind.bits .u32 = 32 from rfl, show min k 32 = k by omega, Int.fdiv_eq_ediv_of_nonneg _ (by have := Nat.two_pow_pos k; exact Int.le_of_lt (by exact_mod_cast this))]
    norm_cast
  refine shrX_i (by omega) ?_
  rw [show (8 : Int) = ((8 : Nat) : Int) from rfl, hs 8 (by omega)]
  (repeat refine Stp.h ?_)
  refine shrX_i (by omega) ?_
  rw [show (16 : Int) = ((16 : Nat) : Int) from rfl, hs 16 (by omega)]
  (repeat refine Stp.h ?_)
  refine shrX_i (by omega) ?_
  rw [show (24 : Int) = ((24 : Nat) : Int) from rfl, hs 24 (by omega)]
  (repeat refine Stp.h ?_)
  rw [wu8, wu8, wu8, wu8]
  refine S.bytes (l := le4 n) ?_ fun w1 v1 S1 => ?_
  · show _ = (le4 n).map by1
    unfold le4
    simp only [List.range, List.range.loop, List.map_cons, List.map_nil, Nat.pow_zero, Nat.div_one]
    rw [by1_of (Nat.mod_lt _ (by omega)), by1_of (Nat.mod_lt _ (by omega)), by1_of (Nat.mod_lt _ (by omega)), by1_of (Nat.mod_lt _ (by omega))]
  · obtain ⟨F, O, hh⟩ := S1.hs
    have hr : RdB w1 v1 (le4 n) := by
      cases hh with
      | cons k1 => exact k1.2.rd
    exact rdB_str hr (hk _ S1.drop)

theorem or_add32 {a b i : Nat} (hb : b < 2 ^ i) (h1 : a * 2 ^ i < 2 ^ 32) (h2 : b + a * 2 ^ i < 2 ^ 32) : bitsV .u32 (fun p q => p ||| q) (b : Int) ((a * 2 ^ i : Nat) : Int) = ((b + a * 2 ^ i : Nat) : Int) := by
  unfold bitsV
  have e : ∀ n : Nat, BitVec.ofInt (IntKind.bits .u32) (n : Int) = BitVec.ofNat 32 n := fun n => by
    show BitVec.ofInt 32 _ = _
    rw [BitVec.ofInt_natCast]
  rw [e, e]
  show IntKind.u32.wrap (((BitVec.ofNat 32 b ||| BitVec.ofNat 32 (a * 2 ^ i)).toNat : Nat) : Int) = _
  rw [BitVec.toNat_or, BitVec.toNat_ofNat, BitVec.toNat_ofNat, Nat.mod_eq_of_lt (show b < 2 ^ 32 by omega), Nat.mod_eq_of_lt h1]
  have := Nat.two_pow_add_eq_or_of_lt hb a
  have h3 : 2 ^ i * a + b < 2 ^ 32 := by rw [Nat.mul_comm]; omega
  rw [Nat.or_comm, Nat.mul_comm a, ← this, wu32 ⟨by omega, by omega⟩, Nat.add_comm]

theorem f183 [hm : InI (vw v) l L] (h4 : 4 ≤ l.length) (S : St M w0 w L) (hk : ∀ w', St M w0 w' L → K (.int .u32 (num4 l : Nat)) w') : callX Tryd.prog 183 [v] w K := by
  refine c183 _ _ _ ?_
  unfold s183
  refine S.cut (v := v) (l := l) (lo := 0) (hi := 4) inferInstance (by omega) h4 (fun v' S' => ?_) rfl rfl (.inl rfl)
  clear S
  have S := S'
  clear S'
  rw [List.drop_zero] at S
  have h4l : (l.take 4).length = 4 := by simp; omega
  refine (S.hs.vw (v := v') inferInstance).len ?_
  rw [h4l]
  refine ⟨fun t1 t2 W => ∃ i : Nat, t1 = .int .u32 (numL (l.take i) : Nat) ∧ t2 = .int .i64 i ∧ i ≤ 4 ∧ St M w0 W (vw v' (l.take 4) :: L), fun t1 t2 W => match t2 with | .int _ i => 4 - i.toNat | _ => 0, ⟨0, rfl, rfl, by omega, S⟩, ?_⟩
  clear S
  rintro t1 t2 W ⟨i, rfl, rfl, hi, S⟩
  (repeat refine Stp.h ?_)
  refine brX_d (fun hlt => ?_) (fun hlt => ?_)
  · have hlt' : i < 4 := by omega
    obtain ⟨x, hx⟩ : ∃ x, l[i]? = some x := ⟨_, List.getElem?_eq_getElem (by omega)⟩
    refine (S.hs.vw (v := v') inferInstance).at (x := x) (by rw [List.getElem?_take, if_pos hlt']; exact hx) ?_
    unfold by1
    have hx256 := x.toNat_lt
    (repeat refine Stp.h ?_)
    rw [wu32 (n := ((x.toNat : Nat) : Int)) (by omega), wi64 (n := 8 * (i : Int)) (by omega)]
    refine shlX_i (by omega) ?_
    have hb : numL (l.take i) < 2 ^ (8 * i) := by
      have := numL_lt (l.take i)
      rw [show (l.take i).length = i by simp; omega] at this
      rw [Nat.pow_mul]
      exact this
    have h7 : x.toNat * 2 ^ (8 * i) + 2 ^ (8 * i) ≤ 2 ^ 32 := by
      have h1 : (x.toNat + 1) * 2 ^ (8 * i) ≤ 2 ^ 8 * 2 ^ (8 * i) := Nat.mul_le_mul_right _ (by omega)
      rw [← Nat.pow_add] at h1
      have h2 : 2 ^ (8 + 8 * i) ≤ 2 ^ 32 := Nat.pow_le_pow_right (by omega) (by omega)
      rw [Nat.add_mul] at h1
      omega
    have hp := Nat.two_pow_pos (8 * i)
    have e : IntKind.u32.wrap (((x.toNat : Nat) : Int) * 2 ^ min (8 * (i : Int)).toNat (IntKind.bits .u32)) = ((x.toNat * 2 ^ (8 * i) : Nat) : Int) := by
      rw [show (8 * (i : Int)).toNat = 8 * i by omega, show IntKind.bits .u32 = 32 from rfl, show min (8 * i) 32 = 8 * i by omega]
      have e2 : ((x.toNat : Nat) : Int) * 2 ^ (8 * i) = ((x.toNat * 2 ^ (8 * i) : Nat) : Int) := by simp
      rw [e2, wu32 (by omega)]
    rw [e]
    (repeat refine Stp.h ?_)
    rw [or_add32 hb (by omega) (by omega), wi64 (by omega)]
    refine ⟨⟨i + 1, ?_, by simp, by omega, S⟩, by show _ < _; simp; omega⟩
    have e3 : l.take (i + 1) = l.take i ++ [x] := by rw [List.take_add_one, hx]; rfl
    rw [e3, numL_snoc, show (l.take i).length = i by simp; omega, Nat.pow_mul]
  · have : i = 4 := by omega
    subst this
    exact hk _ S.drop

theorem f104 (h4 : l.length = 4) (S : St M w0 w L) (hk : ∀ w', St M w0 w' L → K (.int .u32 (num4 l : Nat)) w') : callX Tryd.prog 104 [str l] w K := by
  refine c104 _ _ _ ?_
  unfold s104
  match l, h4 with
  | [x0, x1, x2, x3], _ =>
    have h0 := x0.toNat_lt
    have h1 := x1.toNat_lt
    have h2 := x2.toNat_lt
    have h3 := x3.toNat_lt
    (refine S.drew ?_; clear S; intro w1 S)
    refine ⟨Has _, S.hs, ?_⟩
    refine str_atI (n := 0) rfl rfl ?_
    (repeat refine Stp.h ?_)
    refine str_atI (n := 1) rfl rfl ?_
    (repeat refine Stp.h ?_)
    refine shlX_i (by omega) ?_
    (repeat refine Stp.h ?_)
    refine str_atI (n := 2) rfl rfl ?_
    (repeat refine Stp.h ?_)
    refine shlX_i (by omega) ?_
    (repeat refine Stp.h ?_)
    refine str_atI (n := 3) rfl rfl ?_
    (repeat refine Stp.h ?_)
    refine shlX_i (by omega) ?_
    (repeat refine Stp.h ?_)
    have e : num4 [x0, x1, x2, x3] = x0.toNat + 256 * x1.toNat + 65536 * x2.toNat + 16777216 * x3.toNat := by
      simp only [num4, List.take_succ_cons, List.take_zero, numL]
      omega
    rw [e] at hk
    have e1 : ∀ (n : Nat), n < 256 → IntKind.u32.wrap (n : Int) = n := fun n h => wu32 (by omega)
    have s1 : ∀ (n k : Nat), n < 256 → k ≤ 24 → IntKind.u32.wrap ((n : Int) * 2 ^ min ((k : Nat) : Int).toNat (IntKind.bits .u32)) = ((n * 2 ^ k : Nat) : Int) := by
      intro n k hn hk
      have h1 : n * 2 ^ k ≤ 255 * 2 ^ 24 := Nat.mul_le_mul (by omega) (Nat.pow_le_pow_right (by omega) hk)
      rw [Int.toNat_natCast, show IntKind.bits .u32 = 32 from rfl, show min k 32 = k by omega]
      have e2 : ((n : Nat) : Int) * 2 ^ k = ((n * 2 ^ k : Nat) : Int) := by simp
      rw [e2, wu32 (by omega)]
    rw [e1 _ h0, e1 _ h1, e1 _ h2, e1 _ h3]
    rw [show (8 : Int) = ((8 : Nat) : Int) from rfl, show (16 : Int) = ((16 : Nat) : Int) from rfl, show (24 : Int) = ((24 : Nat) : Int) from rfl, s1 _ 8 h1 (by omega), s1 _ 16 h2 (by omega), s1 _ 24 h3 (by omega)]
    rw [wu32 (n := (x0.toNat : Int) + _) (by omega), wu32 (n := (x0.toNat : Int) + _ + _) (by omega), wu32 (by omega)]
    have := hk _ S
    have e5 : ((x0.toNat + 256 * x1.toNat + 65536 * x2.toNat + 16777216 * x3.toNat : Nat) : Int) = (x0.toNat : Int) + ((x1.toNat * 2 ^ 8 : Nat) : Int) + ((x2.toNat * 2 ^ 16 : Nat) : Int) + ((x3.toNat * 2 ^ 24 : Nat) : Int) := by omega
    rw [e5] at this
    exact this
end
end Go.Proofs.YtgnmelnohclpgaaDoor

namespace Go.Proofs.YtgnmelnohclpgaaDoor
open Go Go.RowKit

/-! ### The plain law -/
abbrev Rc := Int × List UInt8
def textL (r : Rc) : List UInt8 := putI r.1 ++ r.2
def frameL (r : Rc) : List UInt8 := le4 (textL r).length ++ le4 (sumL (textL r)) ++ textL r
def firstL (b : List UInt8) : Option (Rc × Nat) :=
  if b.length < 8 then none
  else if 65546 < num4 b ∨ b.length - 8 < num4 b then none
  else if num4 (b.drop 4) ≠ sumL ((b.drop 8).take (num4 b)) ∨ (cInt ((b.drop 8).take (num4 b), 0)).1.2 ≠ 0 ∨ 65536 < (cInt ((b.drop 8).take (num4 b), 0)).1.1.length then none
  else some (((cInt ((b.drop 8).take (num4 b), 0)).2, (cInt ((b.drop 8).take (num4 b), 0)).1.1), 8 + num4 b)
theorem rdG_suf : ∀ (l : List UInt8) (i u n : Nat) (r : List UInt8), rdG l i u = .inr (n, r) → r = l.drop (l.length - r.length)
  | [], i, u, n, r, h => by simp [rdG] at h
  | x :: l, i, u, n, r, h => by
    simp only [rdG] at h
    split at h
    · simp at h
    · split at h
      · simp at h
        obtain ⟨_, rfl⟩ := h
        have : (x :: l).length - l.length = 1 := by simp
        rw [this]
        rfl
      · have ih := rdG_suf l _ _ n r h
        have hl : r.length ≤ l.length := by
          have := congrArg List.length ih
          simp at this
          omega
        rw [show (x :: l).length - r.length = (l.length - r.length) + 1 by simp; omega, List.drop_succ_cons]
        exact ih
theorem cInt_suf {l : List UInt8} : (cInt (l, 0)).1.1 = l.drop (l.length - (cInt (l, 0)).1.1.length) := by
  unfold cInt
  cases h : rdG l 0 0 with
  | inl e => rw [cRd_inl h]; simp
  | inr p => obtain ⟨n, r⟩ := p; rw [cRd_inr h]; exact rdG_suf _ _ _ _ _ h
theorem firstL_len {l : List UInt8} {r : Rc} {n : Nat} (h : firstL l = some (r, n)) : 8 ≤ n ∧ n ≤ l.length ∧ n ≤ 65554 ∧ r.2.length ≤ 65536 := by
  unfold firstL at h
  split at h
  · simp at h
  · split at h
    · simp at h
    · split at h
      · simp at h
      · simp only [Option.some.injEq, Prod.mk.injEq] at h
        obtain ⟨rfl, rfl⟩ := h
        dsimp only
        omega

section
variable {M : List Nat} {w0 w : World} {L R : List Item} {v u : Value} {l m : List UInt8} {K : Cont} {b : Nat}

/-- a record as a value -/
def rcC (g : Int) (v : Value) : List Value := [.int .i64 g, v]
theorem rcC_lit (g : Int) (v : Value) : rcC g v = [.int .i64 g, v] := rfl

theorem f37 {g : Int} (hg : -9223372036854775808 ≤ g ∧ g < 9223372036854775808) [hm : InI (vw v) l L] (S : St M w0 w L) (hbig : 65536 < l.length → ∀ w', St M w0 w' L → K (.tuple #[.slice none 0 0, .int .i64 3]) w')
    (hk : l.length ≤ 65536 → ∀ w' v', St M w0 w' (byt v' (frameL (g, l)) :: L) → K (.tuple #[v', .int .i64 0]) w') : callX Tryd.prog 37 [.agg (rcC g v).toArray] w K := by
  refine c37 _ _ _ ?_
  unfold s37
  rw [rcC_lit]
  haveI hone := (S.hs.vw hm).one
  (refine StpA.h ?_; clear S; intro b1 w1 S)
  (repeat refine Stp.h ?_)
  refine (S.hs.vw (v := v) (l := l) inferInstance).len ?_
  (repeat refine Stp.h ?_)
  refine brX_d (fun hl => ?_) (fun hl => ?_)
  · exact hbig (by omega) _ S.drop
  · have hl : l.length ≤ 65536 := by omega
    have hp := putI_len g hg
    (refine S.drew ?_; clear S; intro w2 S)
    refine ⟨Has _, S.hs, ?_⟩
    (repeat refine Stp.h ?_)
    refine f82 (v := .slice none 0 0) (l := []) (vw_nil S) hg (by simp) fun w3 v3 S3 => ?_
    clear S
    have S := S3
    clear S3
    rw [List.nil_append] at S
    refine ⟨(S.drop.drop).hs, ?_⟩
    refine S.append (m := l) (S.hs.vw (v := v) (l := l) inferInstance) (by omega) fun w4 v4 S4 => ?_
    clear S
    have S := S4.frz
    clear S4
    have ht : (putI g ++ l).length ≤ 65546 := by simp; omega
    have htl : textL (g, l) = putI g ++ l := rfl
    refine (S.hs.vw (v := v4) (l := putI g ++ l) inferInstance).len ?_
    (repeat refine Stp.h ?_)
    rw [wu32 (by omega)]
    refine f99 (v := .slice none 0 0) (l := []) (n := (putI g ++ l).length) (by omega) (by simp) (byt_nil S) fun w5 v5 S5 => ?_
    rw [List.nil_append] at S5
    clear S
    have S := S5
    clear S5
    haveI := (S.hs.vw (v := v4) (l := putI g ++ l) inferInstance).one
    refine S.row1 fun w6 r S6 => ?_
    clear S
    have S := S6
    clear S6
    refine f100 (v := v4) (l := putI g ++ l) (by omega) S fun w7 S7 => ?_
    clear S
    have S := S7
    clear S7
    refine f99 (l := le4 (putI g ++ l).length) (sumL_lt _) (by simp [le4]) S.drop fun w8 v8 S8 => ?_
    clear S
    have S := S8
    clear S8
    refine S.append (m := putI g ++ l) (S.hs.vw (v := v4) (l := putI g ++ l) inferInstance) (by simp only [List.length_append, le4_len] at *; omega) fun w9 v9 S9 => ?_
    have e : frameL (g, l) = le4 (putI g ++ l).length ++ le4 (sumL (putI g ++ l)) ++ (putI g ++ l) := rfl
    rw [← e] at S9
    exact hk hl _ _ (S9.sub inferInstance)

/-- the document's record as a value -/
def drC (g : Int) (l : List UInt8) : List Value := [.int .i64 g, str l]
theorem drC_lit (g : Int) (l : List UInt8) : drC g l = [.int .i64 g, str l] := rfl

theorem f39 {g : Int} [hm : InI (vw v) l L] (S : St M w0 w L) (hk : ∀ w', St M w0 w' L → K (.agg (drC g l).toArray) w') : callX Tryd.prog 39 [.agg (rcC g v).toArray] w K := by
  refine c39 _ _ _ ?_
  unfold s39
  rw [rcC_lit]
  haveI hone := (S.hs.vw hm).one
  (refine StpA.h ?_; clear S; intro b1 w1 S)
  (refine StpA.h ?_; clear S; intro b2 w2 S)
  (repeat refine Stp.h ?_)
  (refine StpW.h ?_; clear S; intro w3 S)
  (repeat refine Stp.h ?_)
  exact hk _ S.drop.drop

theorem f38 {g : Int} (hg : -9223372036854775808 ≤ g ∧ g < 9223372036854775808) (S : St M w0 w L) (hbig : 65536 < l.length → ∀ w', St M w0 w' L → K (.tuple #[str [], .int .i64 3]) w')
    (hk : l.length ≤ 65536 → ∀ w', St M w0 w' L → K (.tuple #[str (frameL (g, l)), .int .i64 0]) w') : callX Tryd.prog 38 [.agg (drC g l).toArray] w K := by
  refine c38 _ _ _ ?_
  unfold s38
  rw [drC_lit]
  (refine StpA.h ?_; clear S; intro b1 w1 S)
  (repeat refine Stp.h ?_)
  refine brX_d (fun hl => ?_) (fun hl => ?_)
  · exact hbig (by omega) _ S.drop
  · have hl : l.length ≤ 65536 := by omega
    have hp := putI_len g hg
    (refine S.drew ?_; clear S; intro w2 S)
    refine ⟨Has _, S.hs, ?_⟩
    (repeat refine Stp.h ?_)
    rw [← str_nil]
    refine f96 (l := []) S hg (by simp) fun w3 S3 => ?_
    clear S
    have S := S3
    clear S3
    rw [List.nil_append]
    (repeat refine Stp.h ?_)
    refine str_add (by omega) ?_
    have ht : (putI g ++ l).length ≤ 65546 := by simp; omega
    (repeat refine Stp.h ?_)
    rw [wu32 (by omega)]
    refine f101 (n := (putI g ++ l).length) (by omega) S fun w4 S4 => ?_
    refine f102 (by omega) ?_
    refine f101 (sumL_lt _) S4 fun w5 S5 => ?_
    refine str_add (by simp [le4]) ?_
    refine str_add (by simp only [List.length_append, le4_len] at *; omega) ?_
    exact hk hl _ S5.drop
end
end Go.Proofs.YtgnmelnohclpgaaDoor

namespace Go.Proofs.YtgnmelnohclpgaaDoor
open Go Go.RowKit

section
variable {M : List Nat} {w0 w : World} {L R : List Item} {v u : Value} {l m : List UInt8} {K : Cont} {b : Nat}

theorem f164 [hE : Err M w0] [hm : InI (vw v) l L] (hl : l.length ≤ 2 ^ 30) (S : St M w0 w L) (hno : firstL l = none → ∀ w', St M w0 w' L → K (.tuple #[.agg (rcC 0 (.slice none 0 0)).toArray, .int .i64 0, .bool false]) w')
    (hk : ∀ r n, firstL l = some (r, n) → ∀ w' v', St M w0 w' (vw v' r.2 :: L) → K (.tuple #[.agg (rcC r.1 v').toArray, .int .i64 (n : Nat), .bool true]) w') : callX Tryd.prog 164 [v] w K := by
  refine c164 _ _ _ ?_
  unfold s164
  (refine StpA.h ?_; clear S; intro b1 w1 S)
  refine (S.hs.vw (v := v) (l := l) inferInstance).len ?_
  (repeat refine Stp.h ?_)
  have none' : ∀ W, firstL l = none → St M w0 W (blk b1 (.cells [.int .i64 0, .slice none 0 0].toArray 62 (0, 0)) :: L) → buildX [Value.int IntKind.i64 0, Value.slice none 0 0] [] fun t4 => storeNX 2 (.pointer (some ⟨b1, 0, none⟩)) t4 W fun w2 =>
      loadNX 2 (.pointer (some ⟨b1, 0, none⟩)) w2 fun t5 => K (.tuple #[t5, .int .i64 0, .bool false]) w2 := by
    intro W hf S
    (repeat refine Stp.h ?_)
    (refine StpW.h ?_; clear S; intro w2 S)
    (repeat refine Stp.h ?_)
    exact hno hf _ S.drop
  refine brX_d (fun h8 => ?_) (fun h8 => ?_)
  · exact none' _ (by unfold firstL; rw [if_pos (by omega)]) S
  · have h8 : ¬ l.length < 8 := by omega
    have hn4 := num4_lt l
    refine f183 (l := l) (by omega) S fun w2 S2 => ?_
    clear S
    have S := S2
    clear S2
    (repeat refine Stp.h ?_)
    rw [wi64 (n := ((num4 l : Nat) : Int)) (by omega)]
    refine joinX_of (fun J => J (.bool (decide (65546 < num4 l ∨ l.length - 8 < num4 l))) w2) ?_ (fun J hJ => ?_)
    · refine brX_d (fun hb => ?_) (fun hb => ?_)
      · exact none' _ (by unfold firstL; rw [if_neg h8, if_pos hb]) S
      · have hn : num4 l ≤ 65546 ∧ num4 l ≤ l.length - 8 := by omega
        (repeat refine Stp.h ?_)
        rw [wi64 (n := 8 + ((num4 l : Nat) : Int)) (by omega)]
        refine S.cut (v := v) (l := l) (lo := 8) (hi := 8 + num4 l) inferInstance (by omega) (by omega) (fun v1 S1 => ?_) rfl (by simp [natOf]; omega) (.inr ⟨rfl, rfl⟩)
        have htx : (l.take (8 + num4 l)).drop 8 = (l.drop 8).take (num4 l) := by rw [List.drop_take]; congr 1; omega
        rw [htx] at S1
        generalize htt : (l.drop 8).take (num4 l) = tx at S1
        have htl : tx.length = num4 l := by rw [← htt]; simp; omega
        clear S
        refine f84 (v := v1) (l := tx) S1 (by omega) fun w3 c S3 => ?_
        clear S1
        have S := S3
        clear S3
        (refine StpW.h ?_; clear S; intro w4 S)
        (repeat refine Stp.h ?_)
        generalize hcc : cInt (tx, 0) = cc at S ⊢
        have hcl : cc.1.1.length ≤ tx.length := by rw [← hcc]; exact cInt_len (c := (tx, 0))
        have hcs : cc.1.1 = tx.drop (tx.length - cc.1.1.length) := by rw [← hcc]; exact cInt_suf
        rw [wi64 (n := ((num4 l : Nat) : Int) - ((cc.1.1.length : Nat) : Int)) (by omega)]
        have hfl : firstL l = if num4 (l.drop 4) ≠ sumL tx ∨ cc.1.2 ≠ 0 ∨ 65536 < cc.1.1.length then none else some ((cc.2, cc.1.1), 8 + num4 l) := by
          unfold firstL
          rw [if_neg h8, if_neg hb, htt, hcc]
        refine joinX_of (fun J => ∀ W, St M w0 W (cur c cc.1 :: vw v1 tx :: blk b1 (.cells [.int .i64 0, .slice none 0 0].toArray 62 (0, 0)) :: L) → J (.bool (decide (num4 (l.drop 4) ≠ sumL tx ∨ cc.1.2 ≠ 0 ∨ 65536 < cc.1.1.length))) W) (fun W S => ?_) (fun J hJ => ?_)
        · refine brX_d (fun hbad => ?_) (fun hbad => ?_)
          · rw [if_pos hbad] at hfl
            exact none' _ hfl S.drop.drop
          · rw [if_neg hbad] at hfl
            refine S.bytes (l := []) rfl fun w5 v5 S5 => ?_
            clear S
            have S := S5
            clear S5
            refine S.cut (v := v1) (l := tx) (lo := num4 l - cc.1.1.length) (hi := tx.length) inferInstance (by omega) (by omega) (fun v2 S2 => ?_) (by simp [natOf]; omega) rfl (.inl rfl)
            rw [List.take_length, ← htl, ← hcs] at S2
            clear S
            refine St.append (v := v5) (l := []) (L := vw v2 cc.1.1 :: byt v5 [] :: _) S2 (m := cc.1.1) (S2.hs.vw (v := v2) inferInstance) (by simp; omega) fun w6 v6 S6 => ?_
            rw [List.nil_append] at S6
            have S := S6.frz
            clear S6 S2
            haveI := (S.hs.vw (v := v6) (l := cc.1.1) inferInstance).one
            (repeat refine Stp.h ?_)
            (refine StpW.h ?_; clear S; intro w7 S)
            (repeat refine Stp.h ?_)
            rw [wi64 (n := 8 + ((num4 l : Nat) : Int)) (by omega)]
            have := hk _ _ hfl w7 v6 (S.sub inferInstance)
            have e : (8 : Int) + ((num4 l : Nat) : Int) = ((8 + num4 l : Nat) : Int) := by omega
            rw [e]
            exact this
        · refine S.cut (v := v) (l := l) (lo := 4) (hi := l.length) inferInstance (by omega) (by omega) (fun v2 S2 => ?_) rfl rfl (.inl rfl)
          rw [List.take_length] at S2
          clear S
          refine f183 (v := v2) (l := l.drop 4) (by simp; omega) S2 fun w5 S5 => ?_
          clear S2
          have S := S5
          clear S5
          haveI := (S.hs.vw (v := v1) (l := tx) inferInstance).one
          refine S.row1 fun w6 r S6 => ?_
          clear S
          refine f100 (v := v1) (l := tx) (by omega) S6 fun w7 S7 => ?_
          have S := S7.drop.drop
          clear S6 S7
          (repeat refine Stp.h ?_)
          refine brX_d (fun h1 => ?_) (fun h1 => ?_)
          · have := hJ _ S
            rw [decide_eq_true (.inl (by omega))] at this
            exact this
          · (refine StpW.h ?_; clear S; intro w8 S)
            (repeat refine Stp.h ?_)
            refine brX_d (fun h2 => ?_) (fun h2 => ?_)
            · have := hJ _ S
              rw [decide_eq_true (.inr (.inl h2))] at this
              exact this
            · (repeat refine Stp.h ?_)
              rw [wi64 (n := ((num4 l : Nat) : Int) - (((num4 l : Nat) : Int) - ((cc.1.1.length : Nat) : Int))) (by omega)]
              have := hJ _ S
              have e : decide (num4 (l.drop 4) ≠ sumL tx ∨ cc.1.2 ≠ 0 ∨ 65536 < cc.1.1.length) = decide ((65536 : Int) < ((num4 l : Nat) : Int) - (((num4 l : Nat) : Int) - ((cc.1.1.length : Nat) : Int))) := by
                congr 1
                apply propext
                constructor
                · rintro (h | h | h)
                  · omega
                  · exact absurd h h2
                  · omega
                · intro h; right; right; omega
              rw [e] at this
              exact this
    · (repeat refine Stp.h ?_)
      refine brX_d (fun h1 => ?_) (fun h1 => ?_)
      · rw [decide_eq_true (.inl (by omega))] at hJ
        exact hJ
      · refine (S.hs.vw (v := v) (l := l) inferInstance).len ?_
        (repeat refine Stp.h ?_)
        rw [wi64 (n := ((l.length : Nat) : Int) - 8) (by omega)]
        have e : decide (65546 < num4 l ∨ l.length - 8 < num4 l) = decide (((l.length : Nat) : Int) - 8 < ((num4 l : Nat) : Int)) := by
          congr 1
          apply propext
          constructor
          · rintro (h | h) <;> omega
          · intro h; right; omega
        rw [e] at hJ
        exact hJ
end
end Go.Proofs.YtgnmelnohclpgaaDoor

namespace Go.Proofs.YtgnmelnohclpgaaDoor
open Go Go.RowKit

/-! ### The plain law -/
def parseL (l : List UInt8) : List Rc × Nat := match h : firstL l with
  | none => ([], 0)
  | some (r, n) =>
    have : (l.drop n).length < l.length := by have := firstL_len h; simp; omega
    (r :: (parseL (l.drop n)).1, n + (parseL (l.drop n)).2)
termination_by l.length
decreasing_by all_goals (simp only [List.length_drop] at *; omega)
theorem parseL_none {l : List UInt8} (h : firstL l = none) : parseL l = ([], 0) := by
  rw [parseL]
  split
  · rfl
  · rename_i h2; rw [h] at h2; cases h2
theorem parseL_some {l : List UInt8} {r : Rc} {n : Nat} (h : firstL l = some (r, n)) : parseL l = (r :: (parseL (l.drop n)).1, n + (parseL (l.drop n)).2) := by
  rw [parseL]
  split
  · rename_i h2; rw [h] at h2; cases h2
  · rename_i r' n' h2; rw [h] at h2; cases h2; rfl
theorem parseL_len : ∀ (n : Nat) (l : List UInt8), l.length ≤ n → (parseL l).2 ≤ l.length ∧ 8 * (parseL l).1.length ≤ l.length := by
  intro n
  induction n with
  | zero =>
    intro l h
    have hl : firstL l = none := by unfold firstL; rw [if_pos (by omega)]
    rw [parseL_none hl]
    simp
  | succ n ih =>
    intro l h
    cases hf : firstL l with
    | none => rw [parseL_none hf]; simp
    | some p =>
      obtain ⟨r, k⟩ := p
      have hk := firstL_len hf
      have := ih (l.drop k) (by simp; omega)
      rw [parseL_some hf]
      simp only [List.length_cons, List.length_drop] at *
      omega

/-! ### Records in memory -/
def rcCells (bs : List Value) (rs : List Rc) : List (List Value) := List.zipWith (fun b r => rcC r.1 b) bs rs
def vws (bs : List Value) (rs : List Rc) : List Item := List.zipWith (fun b r => vw b r.2) bs rs
def recs (v : Value) (rs : List Rc) : Item := pack (fun bs : List Value => bs.length = rs.length) (fun bs => orow 62 2 v (rcCells bs rs) :: vws bs rs)

section
variable {M : List Nat} {w0 w : World} {L R : List Item} {v u : Value} {l m : List UInt8} {K : Cont} {b : Nat} {rs : List Rc}

theorem recs_nil (S : St M w0 w L) : St M w0 w (recs (.slice none 0 0) [] :: L) := by
  refine St.pack ([] : List Value) ?_ rfl
  exact orow_nil S
theorem recs_one (h : Has L w) (hm : InI (recs v) rs L) : One v ∧ ∃ cs, RdR w 2 v cs ∧ cs.length = rs.length := by
  obtain ⟨fp, o, bs, hb, hh⟩ := h.get hm.mem
  have h1 : Has (orow 62 2 v (rcCells bs rs) :: vws bs rs) w := ⟨_, _, hh⟩
  have h2 := h1.orow (t := 62) (s := 2) (v := v) inferInstance
  exact ⟨h2.one, _, h2, by simp [rcCells, hb]⟩
theorem rcCells_len (bs : List Value) (rs : List Rc) (h : bs.length = rs.length) : (rcCells bs rs).length = rs.length := by simp [rcCells, h]
/-- append(l, r) -/
theorem recs_push {r : Rc} {x : Value} (hl : rs.length ≤ 2 ^ 30) (S : St M w0 w (recs v rs :: vw x r.2 :: L)) (hk : ∀ w' v', St M w0 w' (recs v' (rs ++ [r]) :: L) → K v' w') :
    buildSX 62 2 [.agg (rcC r.1 x).toArray] w fun t9 w10 => appendX 62 2 32 [Value.int IntKind.i64 0, Value.slice none 0 0] v t9 w10 K := by
  have hone := (S.drop.hs.vw (v := x) (l := r.2) inferInstance).one
  obtain ⟨bs, hb, S⟩ := S.unpack
  refine St.push (e := rcC r.1 x) (L := vws bs rs ++ vw x r.2 :: L) S rfl rfl ?_ rfl ?_ fun w' v' S' => hk w' v' ?_
  · intro y hy
    simp only [rcC, List.mem_cons, List.not_mem_nil, or_false] at hy
    rcases hy with rfl | rfl
    · rfl
    · exact hone.one
  · rw [rcCells_len bs rs hb]
    omega
  · refine St.pack (bs ++ [x]) ?_ (by simp [hb])
    have e1 : rcCells (bs ++ [x]) (rs ++ [r]) = rcCells bs rs ++ [rcC r.1 x] := by
      unfold rcCells
      rw [List.zipWith_append hb]
      rfl
    have e2 : vws (bs ++ [x]) (rs ++ [r]) = vws bs rs ++ [vw x r.2] := by
      unfold vws
      rw [List.zipWith_append hb]
      rfl
    rw [e1, e2]
    simpa using S'

theorem f40 [hE : Err M w0] [hm : InI (vw v) l L] (hl : l.length ≤ 2 ^ 30) (S : St M w0 w L) (hk : ∀ w' ov, St M w0 w' (recs ov (parseL l).1 :: L) → K (.tuple #[ov, .int .i64 ((parseL l).2 : Nat)]) w') : callX Tryd.prog 40 [v] w K := by
  refine c40 _ _ _ ?_
  unfold s40
  haveI hone := (S.hs.vw hm).one
  haveI : Cel v [v] := ⟨one_cells hone.one⟩
  have hpl := parseL_len l.length l (by omega)
  (refine StpA.h ?_; clear S; intro bo w1 S)
  (refine StpA.h ?_; clear S; intro be w2 S)
  (refine StpW.h ?_; clear S; intro w3 S)
  refine c103 _ _ _ ?_
  unfold s103
  (refine StpA.h ?_; clear S; intro b1 w4 S)
  refine ⟨rfl, by kernel_rfl, ?_⟩
  intro y w5 o o1 o2 hent hy
  replace S := S.entered hent
  refine c163 _ _ _ _ ?_
  unfold s163
  refine ⟨fun t W => ∃ (p : Nat) (rs : List Rc) (ov : Value), t = .int .i64 p ∧ p ≤ l.length ∧ parseL l = (rs ++ (parseL (l.drop p)).1, p + (parseL (l.drop p)).2) ∧
      St M w0 W (blk y o :: blk (y - 1) (.deferred (some [])) :: blk b1 (.cells [v].toArray 42 (0, 0)) :: blk be (.cells [.int .i64 p].toArray 3 (0, 0)) :: blk bo (.cells [ov].toArray 70 (0, 0)) :: recs ov rs :: L),
    fun t W => match t with | .int _ i => l.length - i.toNat | _ => 0, ⟨0, [], .slice none 0 0, rfl, by omega, by simp, (recs_nil S).sub inferInstance⟩, ?_⟩
  clear S
  rintro t W ⟨p, rs, ov, rfl, hp, hpar, S⟩
  (repeat refine Stp.h ?_)
  refine S.cut (v := v) (l := l) (lo := p) (hi := l.length) inferInstance (by omega) (by omega) (fun v1 S1 => ?_) (by simp [natOf]) rfl (.inl rfl)
  rw [List.take_length] at S1
  clear S
  have fin : ∀ W', firstL (l.drop p) = none → St M w0 W' (blk y o :: blk (y - 1) (.deferred (some [])) :: blk b1 (.cells [v].toArray 42 (0, 0)) :: blk be (.cells [.int .i64 p].toArray 3 (0, 0)) :: blk bo (.cells [ov].toArray 70 (0, 0)) :: recs ov rs :: L) →
      (AtX W' y o ∧ ∀ (w16 : World), (Sto W' w16 y o2 → ∀ (w17 : World), (Drew w16 w17 → ∃ (S8 : World → Prop), (S8 w17 ∧
        load1H S8 (.pointer (some ⟨bo, 0, none⟩)) fun t12 => load1H S8 (.pointer (some ⟨be, 0, none⟩)) fun t13 => (AtX w17 (y - 1) (Obj.deferred (some [])) ∧ ∀ (w18 : World), (Sto w17 w18 (y - 1) (Obj.deferred none) → K (Value.tuple #[t12, t13]) w18)))))) := by
    intro W' hf S
    refine ⟨S.get (by simp), fun w16 hst => ?_⟩
    replace S := S.put hst
    (refine S.drew ?_; clear S; intro w17 S)
    refine ⟨Has _, S.hs, ?_⟩
    (repeat refine Stp.h ?_)
    refine ⟨S.get (by simp), fun w18 hst => ?_⟩
    replace S := S.put hst
    rw [parseL_none hf] at hpar
    have := hk w18 ov (by rw [hpar, List.append_nil]; exact S.sub inferInstance)
    rw [hpar] at this
    exact this
  refine f164 (v := v1) (l := l.drop p) (by simp; omega) S1 (fun hf w6 S6 => ?_) (fun r n hf w6 v6 S6 => ?_)
  · clear S1
    have S := S6.drop
    clear S6
    rw [rcC_lit]
    (repeat refine Stp.h ?_)
    (refine StpA.h ?_; clear S; intro b8 w7 S)
    (refine StpW.h ?_; clear S; intro w8 S)
    (repeat refine Stp.h ?_)
    refine joinX_i ?_
    (repeat refine Stp.h ?_)
    exact fin _ hf S.drop
  · clear S1
    have S := S6
    clear S6
    have hn := firstL_len hf
    simp only [List.length_drop] at hn
    haveI := (S.hs.vw (v := v6) (l := r.2) inferInstance).one
    rw [rcC_lit]
    (repeat refine Stp.h ?_)
    (refine StpA.h ?_; clear S; intro b8 w7 S)
    (refine StpW.h ?_; clear S; intro w8 S)
    (repeat refine Stp.h ?_)
    rw [wi64 (n := (p : Int) + (n : Int)) (by omega)]
    refine joinX_of (fun J => ∀ W' ov', St M w0 W' (blk y o :: blk (y - 1) (.deferred (some [])) :: blk b1 (.cells [v].toArray 42 (0, 0)) :: blk be (.cells [.int .i64 ((p + n : Nat) : Int)].toArray 3 (0, 0)) :: blk bo (.cells [ov'].toArray 70 (0, 0)) :: recs ov' (rs ++ [r]) :: L) → J (.bool false) W') (fun W' ov' S' => ?_) (fun J hJ => ?_)
    · (repeat refine Stp.h ?_)
      refine ⟨⟨p + n, rs ++ [r], ov', by simp, by omega, ?_, S'⟩, by show _ < _; simp; omega⟩
      rw [parseL_some hf, List.drop_drop] at hpar
      rw [hpar]
      simp [Nat.add_assoc]
    · (repeat refine Stp.h ?_)
      refine ⟨rfl, ?_⟩
      refine hy _ _ _ _ (S.get (by simp)) ?_
      (refine StpA.h ?_; clear S; intro b9 w9 S)
      (refine StpW.h ?_; clear S; intro w10 S)
      refine ⟨S.get (by simp), fun w11 hst => ?_⟩
      replace S := S.put hst
      (repeat refine Stp.h ?_)
      rw [← rcC_lit]
      have hrl : rs.length ≤ 2 ^ 30 := by
        have := congrArg (fun q => q.1.length) hpar
        simp only [List.length_append] at this
        omega
      refine recs_push (r := r) (x := v6) (L := blk y o1 :: blk (y - 1) (.deferred (some [])) :: blk b1 (.cells [v].toArray 42 (0, 0)) :: blk be (.cells [.int .i64 p].toArray 3 (0, 0)) :: blk bo (.cells [ov].toArray 70 (0, 0)) :: L) hrl (S.sub inferInstance) fun w12 v12 S12 => ?_
      clear S
      have S := S12
      clear S12
      haveI := (recs_one S.hs (v := v12) inferInstance).1
      (refine StpW.h ?_; clear S; intro w13 S)
      (refine StpW.h ?_; clear S; intro w14 S)
      refine ⟨S.get (by simp), fun w15 hst => ?_⟩
      replace S := S.put hst
      (repeat refine Stp.h ?_)
      rw [← Int.natCast_add] at S
      exact hJ _ v12 (S.sub inferInstance)
end
end Go.Proofs.YtgnmelnohclpgaaDoor

namespace Go.Proofs.YtgnmelnohclpgaaDoor
open Go Go.RowKit

def drs (v : Value) (rs : List Rc) : Item := orow 68 2 v (rs.map fun r => drC r.1 r.2)
theorem num4_take (l : List UInt8) : num4 (l.take 4) = num4 l := by simp [num4, List.take_take]

section
variable {M : List Nat} {w0 w : World} {L R : List Item} {v u : Value} {l m : List UInt8} {K : Cont} {b : Nat} {rs : List Rc}

theorem drs_push {r : Rc} {x : Value} (hx : x.cells = (drC r.1 r.2).toArray) (hl : rs.length ≤ 2 ^ 30) (S : St M w0 w (drs v rs :: L)) (hk : ∀ w' v', St M w0 w' (drs v' (rs ++ [r]) :: L) → K v' w') :
    buildSX 68 2 [x] w fun t9 w10 => appendX 68 2 24 [Value.int IntKind.i64 0, Value.string { data := #[] }] v t9 w10 K := by
  refine St.push (e := drC r.1 r.2) S hx rfl ?_ rfl ?_ fun w' v' S' => hk w' v' ?_
  · intro y hy
    simp only [drC, List.mem_cons, List.not_mem_nil, or_false] at hy
    rcases hy with rfl | rfl <;> rfl
  · simp only [List.length_map]
    omega
  · unfold drs
    rw [List.map_append]
    exact S'

theorem f41 (hl : l.length ≤ 2 ^ 30) (S : St M w0 w L) (hk : ∀ w' ov, St M w0 w' (drs ov (parseL l).1 :: L) → K (.tuple #[ov, .int .i64 ((parseL l).2 : Nat)]) w') : callX Tryd.prog 41 [str l] w K := by
  refine c41 _ _ _ ?_
  unfold s41
  have hpl := parseL_len l.length l (by omega)
  refine ⟨fun t1 t2 W => ∃ (p : Nat) (rs : List Rc), t2 = .int .i64 p ∧ p ≤ l.length ∧ parseL l = (rs ++ (parseL (l.drop p)).1, p + (parseL (l.drop p)).2) ∧ St M w0 W (drs t1 rs :: L),
    fun _ t W => match t with | .int _ i => l.length - i.toNat | _ => 0, ⟨0, [], rfl, by omega, by simp, orow_nil S⟩, ?_⟩
  clear S
  rintro ov t2 W ⟨p, rs, rfl, hp, hpar, S⟩
  have fin : ∀ W', firstL (l.drop p) = none → St M w0 W' (drs ov rs :: L) → K (.tuple #[ov, .int .i64 p]) W' := by
    intro W' hf S
    rw [parseL_none hf] at hpar
    have := hk W' ov (by rw [hpar, List.append_nil]; exact S)
    rw [hpar] at this
    exact this
  (repeat refine Stp.h ?_)
  rw [wi64 (n := ((l.length : Nat) : Int) - (p : Nat)) (by omega)]
  refine brX_d (fun h8 => ?_) (fun h8 => ?_)
  · have hdl : (l.drop p).length = l.length - p := by simp
    have hn4 := num4_lt (l.drop p)
    (repeat refine Stp.h ?_)
    rw [wi64 (n := ((p : Nat) : Int) + 4) (by omega)]
    refine str_cut (lo := p) (hi := p + 4) (by omega) (by omega) ?_ rfl (by simp [natOf]; omega)
    refine f104 (by simp; omega) S fun w2 S2 => ?_
    clear S
    have S := S2
    clear S2
    have e1 : num4 ((l.take (p + 4)).drop p) = num4 (l.drop p) := by rw [List.drop_take, show p + 4 - p = 4 by omega, num4_take]
    rw [e1]
    (repeat refine Stp.h ?_)
    rw [wi64 (n := ((num4 (l.drop p) : Nat) : Int)) (by omega)]
    refine joinX_of (fun J => J (.bool (decide (65546 < num4 (l.drop p) ∨ (l.drop p).length - 8 < num4 (l.drop p)))) w2) ?_ (fun J hJ => ?_)
    · refine brX_d (fun hb => ?_) (fun hb => ?_)
      · exact fin _ (by unfold firstL; rw [if_neg (by omega), if_pos hb]) S
      · have hn : num4 (l.drop p) ≤ 65546 ∧ num4 (l.drop p) ≤ l.length - p - 8 := by omega
        (repeat refine Stp.h ?_)
        rw [wi64 (n := ((p : Nat) : Int) + 8) (by omega)]
        (repeat refine Stp.h ?_)
        rw [wi64 (n := ((p : Nat) : Int) + 8 + ((num4 (l.drop p) : Nat) : Int)) (by omega)]
        refine str_cut (lo := p + 8) (hi := p + 8 + num4 (l.drop p)) (by omega) (by omega) ?_ (by simp [natOf]; omega) (by simp [natOf]; omega)
        have htx : (l.take (p + 8 + num4 (l.drop p))).drop (p + 8) = ((l.drop p).drop 8).take (num4 (l.drop p)) := by
          rw [List.drop_take, List.drop_drop]; congr 1; omega
        rw [htx]
        generalize htt : ((l.drop p).drop 8).take (num4 (l.drop p)) = tx
        have htl : tx.length = num4 (l.drop p) := by rw [← htt]; simp; omega
        have hst : num4 (l.drop p) < 2 ^ 32 := hn4
        rw [← str_nil]
        (repeat refine Stp.h ?_)
        show callX _ 92 [rcu (tx, 0)] _ _
        refine f92 S (by show tx.length ≤ _; omega) fun w3 S3 => ?_
        clear S
        have S := S3
        clear S3
        generalize hcc : cInt (tx, 0) = cc
        have hcl : cc.1.1.length ≤ tx.length := by rw [← hcc]; exact cInt_len (c := (tx, 0))
        have hfl : firstL (l.drop p) = if num4 ((l.drop p).drop 4) ≠ sumL tx ∨ cc.1.2 ≠ 0 ∨ 65536 < cc.1.1.length then none else some ((cc.2, cc.1.1), 8 + num4 (l.drop p)) := by
          unfold firstL
          rw [if_neg (by omega), if_neg hb, htt, hcc]
        rw [rcu_lit]
        (repeat refine Stp.h ?_)
        (refine StpA.h ?_; clear S; intro b2 w4 S)
        (refine StpW.h ?_; clear S; intro w5 S)
        refine joinX_of (fun J => ∀ W, St M w0 W (blk b2 (.cells [str cc.1.1, .int .i64 cc.1.2].toArray 161 (0, 0)) :: drs ov rs :: L) → J (.bool (decide (num4 ((l.drop p).drop 4) ≠ sumL tx ∨ cc.1.2 ≠ 0 ∨ 65536 < cc.1.1.length))) W) (fun W S => ?_) (fun J hJ => ?_)
        · refine brX_d (fun hbad => ?_) (fun hbad => ?_)
          · rw [if_pos hbad] at hfl
            exact fin _ hfl S.drop
          · rw [if_neg hbad] at hfl
            (repeat refine Stp.h ?_)
            have hrl : rs.length ≤ 2 ^ 30 := by
              have := congrArg (fun q => q.1.length) hpar
              simp only [List.length_append] at this
              omega
            refine drs_push (r := (cc.2, cc.1.1)) rfl hrl S.drop fun w6 v6 S6 => ?_
            clear S
            have S := S6
            clear S6
            (repeat refine Stp.h ?_)
            rw [wi64 (n := ((p : Nat) : Int) + 8) (by omega)]
            (repeat refine Stp.h ?_)
            rw [wi64 (n := ((p : Nat) : Int) + 8 + ((num4 (l.drop p) : Nat) : Int)) (by omega)]
            refine ⟨⟨p + (8 + num4 (l.drop p)), rs ++ [(cc.2, cc.1.1)], by congr 1; omega, by omega, ?_, S⟩, by show _ < _; simp; omega⟩
            rw [parseL_some hfl, List.drop_drop] at hpar
            rw [hpar]
            simp [Nat.add_assoc]
        · (repeat refine Stp.h ?_)
          rw [wi64 (n := ((p : Nat) : Int) + 4) (by omega)]
          (repeat refine Stp.h ?_)
          rw [wi64 (n := ((p : Nat) : Int) + 8) (by omega)]
          refine str_cut (lo := p + 4) (hi := p + 8) (by omega) (by omega) ?_ (by simp [natOf]; omega) (by simp [natOf]; omega)
          have e4 : (l.take (p + 8)).drop (p + 4) = ((l.drop p).drop 4).take 4 := by
            rw [List.drop_take, List.drop_drop]; congr 1; omega
          rw [e4]
          refine f104 (by simp; omega) S fun w6 S6 => ?_
          rw [num4_take]
          clear S
          have S := S6
          clear S6
          refine f102 (by omega) ?_
          (repeat refine Stp.h ?_)
          refine brX_d (fun h1 => ?_) (fun h1 => ?_)
          · have := hJ _ S
            rw [decide_eq_true (.inl (by omega))] at this
            exact this
          · (repeat refine Stp.h ?_)
            refine brX_d (fun h2 => ?_) (fun h2 => ?_)
            · have := hJ _ S
              rw [decide_eq_true (.inr (.inl h2))] at this
              exact this
            · (repeat refine Stp.h ?_)
              have := hJ _ S
              have e : decide (num4 ((l.drop p).drop 4) ≠ sumL tx ∨ cc.1.2 ≠ 0 ∨ 65536 < cc.1.1.length) = decide ((65536 : Int) < ((cc.1.1.length : Nat) : Int)) := by
                congr 1
                apply propext
                constructor
                · rintro (h | h | h)
                  · omega
                  · exact absurd h h2
                  · omega
                · intro h; right; right; omega
              rw [e] at this
              exact this
    · (repeat refine Stp.h ?_)
      refine brX_d (fun h1 => ?_) (fun h1 => ?_)
      · rw [decide_eq_true (.inl (by omega))] at hJ
        exact hJ
      · (repeat refine Stp.h ?_)
        rw [wi64 (n := ((l.length : Nat) : Int) - ((p : Nat) : Int)) (by omega)]
        (repeat refine Stp.h ?_)
        rw [wi64 (n := ((l.length : Nat) : Int) - ((p : Nat) : Int) - 8) (by omega)]
        have e : decide (65546 < num4 (l.drop p) ∨ (l.drop p).length - 8 < num4 (l.drop p)) = decide (((l.length : Nat) : Int) - ((p : Nat) : Int) - 8 < ((num4 (l.drop p) : Nat) : Int)) := by
          congr 1
          apply propext
          constructor
          · rintro (h | h) <;> omega
          · intro h; right; omega
        rw [e] at hJ
        exact hJ
  · refine fin _ ?_ S
    unfold firstL
    rw [if_pos (by simp; omega)]
end
end Go.Proofs.YtgnmelnohclpgaaDoor

