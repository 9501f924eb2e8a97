/- SnapsOpens: the law's function answers true. -/
import Derived.Test.YtgnmelnohclpgaaDoorCpP
set_option linter.unusedVariables false
set_option linter.unusedSimpArgs false
namespace Go.Proofs.YtgnmelnohclpgaaDoor
open Go Go.RowKit

/-- the document's last one: and in which file it stands -/
def lastL (l0 l1 : List UInt8) : Rc × Int := match ofL l0, ofL l1 with
  | some a, some b => if b.1 ≤ a.1 then (a, 0) else (b, 1)
  | some a, none => (a, 0)
  | none, some b => (b, 1)
  | none, none => ((0, []), -1)
theorem ofL_one {l : List UInt8} {r : Rc} (h : ofL l = some r) : 1 ≤ r.1 := by
  unfold ofL at h
  split at h
  · split at h
    · rename_i h1; cases h; exact h1.2
    · cases h
  · cases h
theorem ofL_small {l : List UInt8} {r : Rc} (h : ofL l = some r) : r.2.length ≤ 65536 := by
  have hp := parseL_small l.length l (Nat.le_refl _)
  unfold ofL at h
  split at h
  · rename_i q hq
    split at h
    · cases h
      exact hp _ (by rw [hq]; simp)
    · cases h
  · cases h
theorem lastL_small (l0 l1 : List UInt8) : (lastL l0 l1).1.2.length ≤ 65536 := by
  unfold lastL
  split
  · rename_i a b h0 h1
    split
    · exact ofL_small h0
    · exact ofL_small h1
  · rename_i a h0 h1; exact ofL_small h0
  · rename_i b h0 h1; exact ofL_small h1
  · simp
theorem snStep_gt {i : Int} {s : Sn} {q : Rc} (h : s.r.1 < q.1) : snStep i s (some q) = { s with cur := i, r := q } := by unfold snStep; dsimp only; rw [if_pos h]
theorem snStep_le {i : Int} {s : Sn} {q : Rc} (h : ¬ s.r.1 < q.1) : snStep i s (some q) = s := by unfold snStep; dsimp only; rw [if_neg h]
theorem snStep_none {i : Int} {s : Sn} : snStep i s none = s := rfl
def o2 (o : Option Rc) : Rc × Bool := (o.getD (0, []), o.isSome)
theorem snOpen_last (l0 l1 : List UInt8) : (snOpen 0 1 l0 l1).r = (lastL l0 l1).1 ∧ snSlot (snOpen 0 1 l0 l1) = (lastL l0 l1).2 ∧ -1 ≤ (snOpen 0 1 l0 l1).cur ∧ (snOpen 0 1 l0 l1).cur ≤ 1 := by
  unfold snOpen lastL
  cases h0 : ofL l0 with
  | none =>
    cases h1 : ofL l1 with
    | none => exact ⟨rfl, rfl, (by first | decide | (show (-1 : Int) ≤ 1; omega) | (show (-1 : Int) ≤ 0; omega)), (by first | decide | (show (1 : Int) ≤ 1; omega) | (show (0 : Int) ≤ 1; omega))⟩
    | some b =>
      have := ofL_one h1
      rw [snStep_none, snStep_gt (by show (0 : Int) < b.1; omega)]
      exact ⟨rfl, rfl, (by first | decide | (show (-1 : Int) ≤ 1; omega) | (show (-1 : Int) ≤ 0; omega)), (by first | decide | (show (1 : Int) ≤ 1; omega) | (show (0 : Int) ≤ 1; omega))⟩
  | some a =>
    have h01 := ofL_one h0
    rw [snStep_gt (by show (0 : Int) < a.1; omega)]
    cases h1 : ofL l1 with
    | none => exact ⟨rfl, rfl, (by first | decide | (show (-1 : Int) ≤ 1; omega) | (show (-1 : Int) ≤ 0; omega)), (by first | decide | (show (1 : Int) ≤ 1; omega) | (show (0 : Int) ≤ 1; omega))⟩
    | some b =>
      have := ofL_one h1
      by_cases h : b.1 ≤ a.1
      · rw [snStep_le (by show ¬ a.1 < b.1; omega)]
        dsimp only
        rw [if_pos h]
        exact ⟨rfl, rfl, (by first | decide | (show (-1 : Int) ≤ 1; omega) | (show (-1 : Int) ≤ 0; omega)), (by first | decide | (show (1 : Int) ≤ 1; omega) | (show (0 : Int) ≤ 1; omega))⟩
      · rw [snStep_gt (by show a.1 < b.1; omega)]
        dsimp only
        rw [if_neg h]
        exact ⟨rfl, rfl, (by first | decide | (show (-1 : Int) ≤ 1; omega) | (show (-1 : Int) ≤ 0; omega)), (by first | decide | (show (1 : Int) ≤ 1; omega) | (show (0 : Int) ≤ 1; omega))⟩
section
variable {M : List Nat} {w0 w : World} {L L1 R : List Item} {v u tl x : Value} {l m t l0 l1 : List UInt8} {K : Cont} {b d p c : Nat} {k : Dk} {s : Sn} {rs : List Rc}

theorem f119o (hl : l.length ≤ 2 ^ 30) (S : St M w0 w L) (hk : ∀ w', St M w0 w' L → K (.tuple #[.agg (drC (o2 (ofL l)).1.1 (o2 (ofL l)).1.2).toArray, .bool (o2 (ofL l)).2]) w') : callX Tryd.prog 119 [str l] w K := by
  refine f119 hl S (fun hno w1 S1 => ?_) (fun r hr w1 S1 => ?_)
  · rw [hno] at hk
    exact hk _ S1
  · rw [hr] at hk
    exact hk _ S1
theorem f60 (hl0 : l0.length ≤ 2 ^ 30) (hl1 : l1.length ≤ 2 ^ 30) (S : St M w0 w L) (hk : ∀ w', St M w0 w' L → K (.tuple #[.agg (drC (lastL l0 l1).1.1 (lastL l0 l1).1.2).toArray, .int .i64 (lastL l0 l1).2]) w') : callX Tryd.prog 60 [str l0, str l1] w K := by
  refine c60 _ _ _ _ ?_
  unfold s60
  rw [← str_nil]
  (refine StpA.h ?_; clear S; intro b1 w1 S)
  refine f119o hl0 S fun w2 S2 => ?_
  clear S
  have S := S2
  clear S2
  rw [drC_lit]
  (repeat refine Stp.h ?_)
  (refine StpA.h ?_; clear S; intro b5 w3 S)
  (refine StpW.h ?_; clear S; intro w4 S)
  refine f119o hl1 S fun w5 S5 => ?_
  clear S
  have S := S5
  clear S5
  rw [drC_lit]
  (repeat refine Stp.h ?_)
  (refine StpA.h ?_; clear S; intro b9 w6 S)
  (refine StpW.h ?_; clear S; intro w7 S)
  unfold lastL at hk
  cases h0 : ofL l0 with
  | none =>
    rw [h0] at hk S
    cases h1 : ofL l1 with
    | none =>
      rw [h1] at hk S
      simp only [o2, Option.getD_none, Option.isSome_none] at S ⊢
      refine joinX_i ?_
      (repeat refine Stp.h ?_)
      (refine StpW.h ?_; clear S; intro w8 S)
      (repeat refine Stp.h ?_)
      exact hk _ (S.sub inferInstance)
    | some q =>
      rw [h1] at hk S
      simp only [o2, Option.getD_none, Option.isSome_none, Option.getD_some, Option.isSome_some] at S ⊢
      refine joinX_i ?_
      (repeat refine Stp.h ?_)
      (refine StpW.h ?_; clear S; intro w8 S)
      (repeat refine Stp.h ?_)
      exact hk _ (S.sub inferInstance)
  | some r =>
    rw [h0] at hk S
    cases h1 : ofL l1 with
    | none =>
      rw [h1] at hk S
      simp only [o2, Option.getD_none, Option.isSome_none, Option.getD_some, Option.isSome_some] at S ⊢
      refine joinX_i ?_
      (repeat refine Stp.h ?_)
      (refine StpW.h ?_; clear S; intro w8 S)
      (repeat refine Stp.h ?_)
      exact hk _ (S.sub inferInstance)
    | some q =>
      rw [h1] at hk S
      simp only [o2, Option.getD_some, Option.isSome_some] at S ⊢
      refine joinX_i ?_
      dsimp only at hk
      (repeat refine Stp.h ?_)
      refine brX_d (fun hge => ?_) (fun hge => ?_)
      · rw [if_pos hge] at hk
        (repeat refine Stp.h ?_)
        (refine StpW.h ?_; clear S; intro w8 S)
        (repeat refine Stp.h ?_)
        exact hk _ (S.sub inferInstance)
      · rw [if_neg hge] at hk
        (repeat refine Stp.h ?_)
        (refine StpW.h ?_; clear S; intro w8 S)
        (repeat refine Stp.h ?_)
        exact hk _ (S.sub inferInstance)

theorem call_free_any {k : Dk} (h : k.free) (f : Int) (b : List UInt8) : (k.call 0 f b).2.free := by
  have hc : k.count = (0, k) := by
    unfold Dk.count
    rw [if_neg (by rw [h.left]; decide), if_neg (by rw [h.left]; decide)]
  unfold Dk.call
  split
  · exact h
  · split
    · exact h
    · rw [hc, if_pos (.inl rfl)]
      have := doF_s k 0 f.toNat b
      exact ⟨this.1.trans h.left, this.2.trans h.down⟩
/-- an element of the acts -/
def AcOk (w : World) (e : List Value) : Prop := ∃ (kind f : Int) (y : Value) (b : List UInt8), e[0]? = some (.int .i64 kind) ∧ e[1]? = some (.int .i64 f) ∧ e[3]? = some y ∧ RdB w y b

theorem f10 {u0 u1 : Value} {t0 t1 : List UInt8} {cs : List (List Value)} (hE : ErrW w) (h0 : RdB w u0 t0) (h1 : RdB w u1 t1) (hv : RdR w 8 v cs) (hcs : ∀ e, e ∈ cs → AcOk w e) (hk0 : ∀ w', Ext w w' → K (.bool true) w') : callX Tryd.prog 10 [u0, u1, v] w K := by
  haveI : Err [] w := ⟨hE, by simp⟩
  have S : St [] w w [vw u0 t0, vw u1 t1, vrow 8 v cs] := St.kn (I := vw u0 t0) (St.kn (I := vw u1 t1) (St.kn (I := vrow 8 v cs) (St.begin w) ⟨rfl, rfl, hv⟩ (by simp)) ⟨rfl, rfl, h1⟩ (by simp)) ⟨rfl, rfl, h0⟩ (by simp)
  refine c10 _ _ _ _ _ ?_
  unfold s10
  refine joinX_of (fun J => J (.bool (decide (1000 < t0.length ∨ 1000 < t1.length))) w) ?_ (fun J hJ => ?_)
  · refine brX_d (fun hbig => ?_) (fun hbig => ?_)
    · exact hk0 _ S.toExt
    · refine f50 S fun w1 d S1 => ?_
      clear S
      refine f57 (k := dk0) (d := d) (u := u0) (m := t0) (by omega) S1 fun w2 S2 => ?_
      clear S1
      have hf1 := call_free_any dk0_free 0 t0
      generalize (dk0.call 0 0 t0).2 = k1 at S2 hf1
      refine f57 (k := k1) (d := d) (u := u1) (m := t1) (by omega) S2 fun w3 S3 => ?_
      clear S2
      have hf2 := call_free_any hf1 1 t1
      generalize (k1.call 0 1 t1).2 = k2 at S3 hf2
      refine ⟨fun t W => ∃ (i : Nat) (k : Dk), t = .int .i64 i ∧ i ≤ 10 ∧ k.free ∧ St [] w W (dsk d k :: [vw u0 t0, vw u1 t1, vrow 8 v cs]), fun t W => match t with | .int _ i => 10 - i.toNat | _ => 0, ⟨0, k2, rfl, by omega, hf2, S3⟩, ?_⟩
      clear S3 hf1 hf2
      rintro t W ⟨i, k, rfl, hi, hkf, S⟩
      have hvW := S.hs.vrow (s := 8) (v := v) inferInstance
      refine joinX_of (fun J => (∀ e, cs[i]? = some e → i < 10 → J (.bool true) W) ∧ J (.bool false) W) ⟨fun e he hi2 => ?_, ?_⟩ (fun J hJ => ?_)
      · obtain ⟨kind, f, y, b, g0, g1, g3, hy⟩ := hcs e (List.mem_of_getElem? he)
        have hy1 := hy.one
        (repeat refine Stp.h ?_)
        refine joinX_of (fun J => ∀ W' k', k'.free → St [] w W' (dsk d k' :: [vw u0 t0, vw u1 t1, vrow 8 v cs]) → J W') (fun W' k' hk' S' => ?_) (fun J hJ => ?_)
        · clear S
          (repeat refine Stp.h ?_)
          rw [wi64 (n := ((i : Nat) : Int) + 1) (by omega)]
          exact ⟨⟨i + 1, k', by simp, by omega, hk', S'⟩, by show _ < _; simp; omega⟩
        · refine joinX_of (fun J => (b.length < 100 → J (.bool true) W) ∧ J (.bool false) W) ⟨fun hb => ?_, ?_⟩ (fun J hJ => ?_)
          · (repeat refine Stp.h ?_)
            (refine S.drew ?_; clear S; intro w4 S)
            have S1 : St [] w w4 (vw y b :: dsk d k :: [vw u0 t0, vw u1 t1, vrow 8 v cs]) := St.kn (I := vw y b) S ⟨rfl, rfl, hy⟩ (by simp)
            clear S
            refine ⟨Has _, S1.hs, ?_⟩
            obtain ⟨a1, he1, hi1, ha1⟩ := rdr_at (S := Has (vw y b :: dsk d k :: [vw u0 t0, vw u1 t1, vrow 8 v cs])) (fun w h => h.vrow (s := 8) (v := v) inferInstance) S1.hs he
            refine hi1 _ (fldA (hi1 _ (fldA ?_)))
            refine ⟨_, fun w hw => ha1 w hw 1 _ g1, ?_⟩
            refine ⟨_, fun w hw => ha1 w hw 3 _ g3, ?_⟩
            refine f57 (k := k) (d := d) (u := y) (m := b) (by omega) S1 fun w5 S5 => ?_
            exact hJ _ _ (call_free_any hkf f b) (S5.sub inferInstance)
          · (repeat refine Stp.h ?_)
            exact hJ _ k hkf S
          · refine hvW.fld he g0 ?_
            (repeat refine Stp.h ?_)
            refine brX_d (fun hz => ?_) (fun hz => ?_)
            · refine hvW.fld he g3 ?_
              have S1 : St [] w W (vw y b :: dsk d k :: [vw u0 t0, vw u1 t1, vrow 8 v cs]) := St.kn (I := vw y b) S ⟨rfl, rfl, hy⟩ (by simp)
              refine (S1.hs.vw (v := y) (l := b) inferInstance).len ?_
              (repeat refine Stp.h ?_)
              by_cases hb : b.length < 100
              · rw [decide_eq_true (by omega)]
                exact hJ.1 hb
              · rw [decide_eq_false (by omega)]
                exact hJ.2
            · exact hJ.2
      · (repeat refine Stp.h ?_)
        clear hvW
        refine f58 (k := k) (d := d) S (fun hm => absurd (may_free hkf (n := 0) (by omega)) hm) (fun n hn _ _ _ hl0 w4 x S4 => ?_)
        obtain rfl : n = 0 := by omega
        clear S
        (repeat refine Stp.h ?_)
        refine f58 (k := k) (d := d) S4 (fun hm => absurd (may_free hkf (n := 1) (by omega)) hm) (fun n hn _ _ _ hl1 w5 z S5 => ?_)
        obtain rfl : n = 1 := by omega
        clear S4
        (repeat refine Stp.h ?_)
        refine f59 (f0 := 0) (f1 := 1) (k := k) (d := d) (by omega) (may_free hkf (by omega)) (may_free hkf (by omega)) S5 fun w6 p S6 => ?_
        clear S5
        have S := S6
        clear S6
        obtain ⟨q1, q2, q3, q4⟩ := snOpen_last (k.l 0) (k.l 1)
        generalize snOpen 0 1 (k.l 0) (k.l 1) = s at S q1 q2 q3 q4
        have hs2 : s.r.2.length ≤ 2 ^ 30 := by
          have := lastL_small (k.l 0) (k.l 1)
          rw [q1]
          omega
        (repeat refine Stp.h ?_)
        refine joinX_of (fun J => J (.bool false) w6) ?_ (fun J hJ => ?_)
        · (repeat refine Stp.h ?_)
          refine f60 (l0 := k.l 0) (l1 := k.l 1) (by omega) (by omega) S fun w7 S7 => ?_
          clear S
          have S := S7
          clear S7
          rw [drC_lit, ← str_nil]
          (repeat refine Stp.h ?_)
          (refine StpA.h ?_; clear S; intro b1 w8 S)
          (refine StpW.h ?_; clear S; intro w9 S)
          refine f61 (p := p) (d := d) (s := s) hs2 S fun w10 x2 S10 => ?_
          clear S
          (repeat refine Stp.h ?_)
          rw [q1, decide_eq_true rfl]
          (repeat refine Stp.h ?_)
          refine brX_dt (by first | omega | simp | decide) ?_
          refine f62 (p := p) (d := d) (s := s) ⟨q3, q4⟩ S10 fun w11 S11 => ?_
          rw [q2]
          (repeat refine Stp.h ?_)
          refine brX_dt (by first | omega | simp | decide) ?_
          exact f63 S11 fun w12 S12 => hk0 _ S12.toExt
        · (repeat refine Stp.h ?_)
          refine brX_df (by first | omega | simp | decide) ?_
          (repeat refine Stp.h ?_)
          refine brX_df (by first | omega | simp | decide) ?_
          (repeat refine Stp.h ?_)
          rw [decide_eq_false (by simp)]
          exact hJ
      · refine hvW.len ?_
        (repeat refine Stp.h ?_)
        refine brX_d (fun hlt => ?_) (fun hlt => ?_)
        · have hlt : i < cs.length := by omega
          (repeat refine Stp.h ?_)
          by_cases h10 : i < 10
          · rw [decide_eq_true (by omega)]
            exact hJ.1 _ (List.getElem?_eq_getElem hlt) h10
          · rw [decide_eq_false (by omega)]
            exact hJ.2
        · exact hJ.2
  · refine h0.len ?_
    (repeat refine Stp.h ?_)
    refine brX_d (fun h3 => ?_) (fun h3 => ?_)
    · rw [decide_eq_true (.inl (by omega))] at hJ
      exact hJ
    · refine h1.len ?_
      (repeat refine Stp.h ?_)
      have e : decide (1000 < t0.length ∨ 1000 < t1.length) = decide ((1000 : Int) < ((t1.length : Nat) : Int)) := by congr 1; apply propext; omega
      rw [e] at hJ
      exact hJ
end
end Go.Proofs.YtgnmelnohclpgaaDoor
