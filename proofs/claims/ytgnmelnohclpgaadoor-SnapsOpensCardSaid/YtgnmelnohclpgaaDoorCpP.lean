/- The snaps: opened, saved, what they tell; one that is as it should be: what each function answers. -/
import Derived.Test.YtgnmelnohclpgaaDoorCpL
import Derived.Test.YtgnmelnohclpgaaDoorGnJ
import Derived.Test.YtgnmelnohclpgaaDoorGnK
set_option linter.unusedVariables false
set_option linter.unusedSimpArgs false
namespace Go.Proofs.YtgnmelnohclpgaaDoor
open Go Go.RowKit

/-! ### The plain law -/
def ofL (l : List UInt8) : Option Rc := match (parseL l).1 with
  | [r] => if (parseL l).2 = l.length ∧ 1 ≤ r.1 then some r else none
  | _ => none
structure Sn where
  f0 : Nat
  f1 : Nat
  cur : Int
  r : Rc
  bad : Bool
def snStep (i : Int) (s : Sn) (o : Option Rc) : Sn := match o with
  | some q => if s.r.1 < q.1 then { s with cur := i, r := q } else s
  | none => s
def snOpen (f0 f1 : Nat) (l0 l1 : List UInt8) : Sn := snStep 1 (snStep 0 ⟨f0, f1, -1, (0, []), false⟩ (ofL l0)) (ofL l1)
def sn (p d : Nat) (s : Sn) : Item := pack (fun v : Value => True) (fun v => [blk p (.cells [.pointer (some ⟨d, 0, none⟩), .int .i64 (s.f0 : Nat), .int .i64 (s.f1 : Nat), .int .i64 s.cur, .int .i64 s.r.1, v, .bool s.bad].toArray 117 (0, 0)), vw v s.r.2])

section
variable {M : List Nat} {w0 w : World} {L L1 R : List Item} {v u x tl : Value} {l m t : List UInt8} {K : Cont} {b d p c : Nat} {k : Dk} {s : Sn} {rs : List Rc}

theorem St.snOpen [hp : Pk (sn p d) s L R] (S : St M w0 w L) : ∃ v, St M w0 w (blk p (.cells [.pointer (some ⟨d, 0, none⟩), .int .i64 (s.f0 : Nat), .int .i64 (s.f1 : Nat), .int .i64 s.cur, .int .i64 s.r.1, v, .bool s.bad].toArray 117 (0, 0)) :: vw v s.r.2 :: R) := by
  obtain ⟨v, _, S⟩ := (S.perm hp.p).unpack
  exact ⟨v, S⟩
theorem St.snShut {o : Obj} {l' R1 R2 : List Item} {t : List UInt8} (v : Value) (S : St M w0 w l') [h1 : Pk (blk p) o l' R1] [h2 : Pk (vw v) t R1 R2] [h3 : SubL R R2]
    (ho : o = .cells [.pointer (some ⟨d, 0, none⟩), .int .i64 (s.f0 : Nat), .int .i64 (s.f1 : Nat), .int .i64 s.cur, .int .i64 s.r.1, v, .bool s.bad].toArray 117 (0, 0)) (hr : t = s.r.2) : St M w0 w (sn p d s :: R) := by
  subst ho hr
  exact St.pack v ((S.perm (h1.p.trans (h2.p.cons _))).sub (l := _ :: _ :: R) inferInstance) trivial

theorem f120 {c : List Value} {ty : TypeId} [hi : InL p (.cells (.pointer (some ⟨d, 0, none⟩) :: c).toArray ty (0, 0)) L] (S : St M w0 w L) (hk : K (.bool false) w) : callX Tryd.prog 120 [.pointer (some ⟨p, 0, none⟩)] w K := by
  refine c120 _ _ _ ?_
  unfold s120
  (repeat refine Stp.h ?_)
  exact hk
theorem f120n (hk : K (.bool true) w) : callX Tryd.prog 120 [.pointer none] w K := by
  refine c120 _ _ _ ?_
  unfold s120
  (repeat refine Stp.h ?_)
  exact hk

/-- of bytes -/
theorem f118 [hE : Err M w0] [hm : InI (vw v) l L] (hl : l.length ≤ 2 ^ 30) (S : St M w0 w L) (hno : ofL l = none → ∀ w', St M w0 w' L → K (.tuple #[.agg (rcC 0 (.slice none 0 0)).toArray, .bool false]) w')
    (hk : ∀ r, ofL l = some r → ∀ w' x, St M w0 w' (vw x r.2 :: L) → K (.tuple #[.agg (rcC r.1 x).toArray, .bool true]) w') : callX Tryd.prog 118 [v] w K := by
  refine c118 _ _ _ ?_
  unfold s118
  (refine StpA.h ?_; clear S; intro b1 w1 S)
  refine f40 (l := l) hl S fun w2 ov S2 => ?_
  clear S
  have S := S2
  clear S2
  have hpl := parseL_len l.length l (Nat.le_refl _)
  obtain ⟨hone, cs, hcs, hlen⟩ := recs_one S.hs (v := ov) inferInstance
  have none' : ∀ (W : World), ofL l = none → St M w0 W (recs ov (parseL l).1 :: blk b1 (.cells [.int .i64 0, .slice none 0 0].toArray 62 (0, 0)) :: L) → storeNX 2 (.pointer (some ⟨b1, 0, none⟩)) (.agg #[Value.int IntKind.i64 0, Value.slice none 0 0]) W fun w4 => loadNX 2 (.pointer (some ⟨b1, 0, none⟩)) w4 fun t7 => K (.tuple #[t7, .bool false]) w4 := by
    intro W hn S
    show storeNX 2 _ (.agg [Value.int IntKind.i64 0, Value.slice none 0 0].toArray) W _
    (refine StpW.h ?_; clear S; intro w4 S)
    (repeat refine Stp.h ?_)
    exact hno hn _ S.drop.drop
  (repeat refine Stp.h ?_)
  refine joinX_of (fun J => (ofL l = none → J (.bool true) w2) ∧ (∀ r, (parseL l).1 = [r] → ofL l = some r → J (.bool false) w2)) ⟨fun hn => ?_, fun r hr ho => ?_⟩ (fun J hJ => ?_)
  · (repeat refine Stp.h ?_)
    exact none' _ hn S
  · (repeat refine Stp.h ?_)
    obtain ⟨x, hx, ⟨cs2, hcs2, hx2⟩, S1⟩ := recs_at (v := ov) (rs := (parseL l).1) (i := 0) (r := r) S (by rw [hr]; rfl)
    clear S
    have S := S1
    clear S1
    refine hcs2.atN (i := 0) hx2 ?_
    rw [rcC_lit]
    (refine StpW.h ?_; clear S; intro w3 S)
    (repeat refine Stp.h ?_)
    exact hk r ho _ x (S.sub inferInstance)
  · refine hcs.len ?_
    rw [hlen]
    (repeat refine Stp.h ?_)
    match hP : (parseL l).1 with
    | [] =>
      refine brX_dt (by first | omega | simp | decide) ?_
      exact hJ.1 (by unfold ofL; rw [hP])
    | [r] =>
      refine brX_df (by first | omega | simp | decide) ?_
      refine (S.hs.vw (v := v) (l := l) inferInstance).len ?_
      (repeat refine Stp.h ?_)
      refine brX_d (fun hn => ?_) (fun hn => ?_)
      · exact hJ.1 (by unfold ofL; rw [hP]; dsimp only; rw [if_neg (by omega)])
      · obtain ⟨x, hx, ⟨cs2, hcs2, hx2⟩, S1⟩ := recs_at (v := ov) (rs := (parseL l).1) (i := 0) (r := r) S (by rw [hP]; rfl)
        refine hcs2.fld (i := 0) hx2 (j := 0) (x := .int .i64 r.1) rfl ?_
        (repeat refine Stp.h ?_)
        by_cases h1 : r.1 < 1
        · rw [decide_eq_true h1]
          exact hJ.1 (by unfold ofL; rw [hP]; dsimp only; rw [if_neg (by omega)])
        · rw [decide_eq_false h1]
          exact hJ.2 r hP (by unfold ofL; rw [hP]; dsimp only; rw [if_pos (by omega)])
    | r :: r2 :: l2 =>
      refine brX_dt (by simp only [List.length_cons]; omega) ?_
      exact hJ.1 (by unfold ofL; rw [hP])

/-- of a string -/
theorem f119 (hl : l.length ≤ 2 ^ 30) (S : St M w0 w L) (hno : ofL l = none → ∀ w', St M w0 w' L → K (.tuple #[.agg (drC 0 []).toArray, .bool false]) w')
    (hk : ∀ r, ofL l = some r → ∀ w', St M w0 w' L → K (.tuple #[.agg (drC r.1 r.2).toArray, .bool true]) w') : callX Tryd.prog 119 [str l] w K := by
  refine c119 _ _ _ ?_
  unfold s119
  rw [← str_nil]
  (refine StpA.h ?_; clear S; intro b1 w1 S)
  refine f41 (l := l) hl S fun w2 ov S2 => ?_
  clear S
  have S := S2
  clear S2
  have hpl := parseL_len l.length l (Nat.le_refl _)
  have hcs := drs_rd S.hs (v := ov) inferInstance
  have none' : ∀ (W : World), ofL l = none → St M w0 W (drs ov (parseL l).1 :: blk b1 (.cells [.int .i64 0, str []].toArray 68 (0, 0)) :: L) → storeNX 2 (.pointer (some ⟨b1, 0, none⟩)) (.agg #[Value.int IntKind.i64 0, str []]) W fun w4 => loadNX 2 (.pointer (some ⟨b1, 0, none⟩)) w4 fun t7 => K (.tuple #[t7, .bool false]) w4 := by
    intro W hn S
    show storeNX 2 _ (.agg [Value.int IntKind.i64 0, str []].toArray) W _
    (refine StpW.h ?_; clear S; intro w4 S)
    (repeat refine Stp.h ?_)
    exact hno hn _ S.drop.drop
  (repeat refine Stp.h ?_)
  refine joinX_of (fun J => (ofL l = none → J (.bool true) w2) ∧ (∀ r, (parseL l).1 = [r] → ofL l = some r → J (.bool false) w2)) ⟨fun hn => ?_, fun r hr ho => ?_⟩ (fun J hJ => ?_)
  · (repeat refine Stp.h ?_)
    exact none' _ hn S
  · (repeat refine Stp.h ?_)
    refine hcs.atN (i := 0) (e := drC r.1 r.2) (by rw [hr]; rfl) ?_
    rw [drC_lit]
    (refine StpW.h ?_; clear S; intro w3 S)
    (repeat refine Stp.h ?_)
    exact hk r ho _ (S.sub inferInstance)
  · refine hcs.len ?_
    rw [List.length_map]
    (repeat refine Stp.h ?_)
    match hP : (parseL l).1 with
    | [] =>
      refine brX_dt (by first | omega | simp | decide) ?_
      exact hJ.1 (by unfold ofL; rw [hP])
    | [r] =>
      refine brX_df (by first | omega | simp | decide) ?_
      (repeat refine Stp.h ?_)
      refine brX_d (fun hn => ?_) (fun hn => ?_)
      · exact hJ.1 (by unfold ofL; rw [hP]; dsimp only; rw [if_neg (by omega)])
      · refine hcs.fld (i := 0) (e := drC r.1 r.2) (by rw [hP]; rfl) (j := 0) (x := .int .i64 r.1) rfl ?_
        (repeat refine Stp.h ?_)
        by_cases h1 : r.1 < 1
        · rw [decide_eq_true h1]
          exact hJ.1 (by unfold ofL; rw [hP]; dsimp only; rw [if_neg (by omega)])
        · rw [decide_eq_false h1]
          exact hJ.2 r hP (by unfold ofL; rw [hP]; dsimp only; rw [if_pos (by omega)])
    | r :: r2 :: l2 =>
      refine brX_dt (by simp only [List.length_cons]; omega) ?_
      exact hJ.1 (by unfold ofL; rw [hP])

/-- Last -/
theorem f61 [hp : Pk (sn p d) s L R] (hl : s.r.2.length ≤ 2 ^ 30) (S : St M w0 w L) (hk : ∀ w' v', St M w0 w' (vw v' s.r.2 :: sn p d s :: R) → K (.tuple #[v', .int .i64 s.r.1]) w') : callX Tryd.prog 61 [.pointer (some ⟨p, 0, none⟩)] w K := by
  obtain ⟨v, S1⟩ := S.snOpen (hp := hp)
  clear S
  have S := S1
  clear S1
  refine c61 _ _ _ ?_
  unfold s61
  refine f120 (p := p) S ?_
  (repeat refine Stp.h ?_)
  (refine S.drew ?_; clear S; intro w1 S)
  refine ⟨Has _, S.hs, ?_⟩
  (repeat refine Stp.h ?_)
  refine f117 (l := s.r.2) S hl fun w2 v2 S2 => ?_
  clear S
  have S := S2.frz
  clear S2
  refine ⟨S.hs.tail.sub inferInstance, ?_⟩
  refine hk _ v2 ?_
  have := S.snShut (p := p) (R := vw v2 s.r.2 :: R) (d := d) (s := s) v rfl rfl
  exact this.perm (.swap _ _ _)
theorem f61n (hk : K (.tuple #[.slice none 0 0, .int .i64 0]) w) : callX Tryd.prog 61 [.pointer none] w K := by
  refine c61 _ _ _ ?_
  unfold s61
  refine f120n ?_
  (repeat refine Stp.h ?_)
  exact hk
def snSlot (s : Sn) : Int := if s.cur < 0 then -1 else if s.cur = 0 then (s.f0 : Nat) else (s.f1 : Nat)
end
end Go.Proofs.YtgnmelnohclpgaaDoor

namespace Go.Proofs.YtgnmelnohclpgaaDoor
open Go Go.RowKit

def snF (f0 f1 : Nat) (i : Nat) : Nat := match i with
  | 0 => f0
  | _ => f1
def snN (f0 f1 : Nat) (k : Dk) : Nat → Sn
  | 0 => ⟨f0, f1, -1, (0, []), false⟩
  | i + 1 => snStep (i : Nat) (snN f0 f1 k i) (ofL (k.l (snF f0 f1 i)))
theorem snN_two (f0 f1 : Nat) (k : Dk) : snN f0 f1 k 2 = snOpen f0 f1 (k.l f0) (k.l f1) := rfl
theorem snStep_f (i : Int) (s : Sn) (o : Option Rc) : (snStep i s o).f0 = s.f0 ∧ (snStep i s o).f1 = s.f1 ∧ (snStep i s o).bad = s.bad := by
  unfold snStep
  split
  · split <;> exact ⟨rfl, rfl, rfl⟩
  · exact ⟨rfl, rfl, rfl⟩
theorem snN_f (f0 f1 : Nat) (k : Dk) : ∀ i, (snN f0 f1 k i).f0 = f0 ∧ (snN f0 f1 k i).f1 = f1 ∧ (snN f0 f1 k i).bad = false
  | 0 => ⟨rfl, rfl, rfl⟩
  | i + 1 => by
    have h1 := snStep_f (i : Nat) (snN f0 f1 k i) (ofL (k.l (snF f0 f1 i)))
    have h2 := snN_f f0 f1 k i
    exact ⟨h1.1.trans h2.1, h1.2.1.trans h2.2.1, h1.2.2.trans h2.2.2⟩
section
variable {M : List Nat} {w0 w : World} {L L1 R : List Item} {v u x tl : Value} {l m t : List UInt8} {K : Cont} {b d p c : Nat} {k : Dk} {s : Sn} {rs : List Rc}

/-- Slot -/
theorem f62 [hp : Pk (sn p d) s L R] (hc : -1 ≤ s.cur ∧ s.cur ≤ 1) (S : St M w0 w L) (hk : ∀ w', St M w0 w' (sn p d s :: R) → K (.int .i64 (snSlot s)) w') : callX Tryd.prog 62 [.pointer (some ⟨p, 0, none⟩)] w K := by
  obtain ⟨v, S1⟩ := S.snOpen (hp := hp)
  clear S
  have S := S1
  clear S1
  refine c62 _ _ _ ?_
  unfold s62
  unfold snSlot at hk
  refine joinX_of (fun J => J (.bool (decide (s.cur < 0))) w) ?_ (fun J hJ => ?_)
  · refine brX_d (fun hneg => ?_) (fun hneg => ?_)
    · rw [if_pos hneg] at hk
      exact hk _ (S.snShut v rfl rfl)
    · rw [if_neg hneg] at hk
      (refine S.drew ?_; clear S; intro w1 S)
      refine ⟨Has _, S.hs, ?_⟩
      (repeat refine Stp.h ?_)
      by_cases h0 : s.cur = 0
      · rw [if_pos h0] at hk
        rw [h0]
        refine ⟨by omega, by omega, ?_⟩
        show load1H _ (.pointer (some ⟨p, 1, none⟩)) _
        (repeat refine Stp.h ?_)
        exact hk _ (S.snShut v (by rw [h0]) rfl)
      · rw [if_neg h0] at hk
        have h1 : s.cur = 1 := by omega
        rw [h1]
        refine ⟨by omega, by omega, ?_⟩
        show load1H _ (.pointer (some ⟨p, 2, none⟩)) _
        (repeat refine Stp.h ?_)
        exact hk _ (S.snShut v (by rw [h1]) rfl)
  · refine f120 (p := p) S ?_
    (repeat refine Stp.h ?_)
    exact hJ

/-- Open -/
theorem f59same {a : Value} {i : Int} (hk : K (.tuple #[.pointer none, .int .i64 2]) w) : callX Tryd.prog 59 [a, .int .i64 i, .int .i64 i] w K := by
  refine c59 _ _ _ _ _ ?_
  unfold s59
  (repeat refine Stp.h ?_)
  refine brX_dt (by first | omega | simp | decide) ?_
  exact hk
theorem f59 {f0 f1 : Nat} [hE : Err M w0] [hp : Pk (dsk d) k L R] (hne : f0 ≠ f1) (h0 : k.may (f0 : Nat) = 0) (h1 : k.may (f1 : Nat) = 0) (S : St M w0 w L)
    (hk : ∀ w' p, St M w0 w' (sn p d (snOpen f0 f1 (k.l f0) (k.l f1)) :: dsk d k :: R) → K (.tuple #[.pointer (some ⟨p, 0, none⟩), .int .i64 0]) w') : callX Tryd.prog 59 [.pointer (some ⟨d, 0, none⟩), .int .i64 (f0 : Nat), .int .i64 (f1 : Nat)] w K := by
  refine c59 _ _ _ _ _ ?_
  unfold s59
  (repeat refine Stp.h ?_)
  refine brX_df (by first | omega | simp | decide) ?_
  (repeat refine Stp.h ?_)
  (refine StpA.h ?_; clear S; intro p w1 S)
  (repeat refine Stp.h ?_)
  refine ⟨fun t W => ∃ (i : Nat) (v : Value), t = .int .i64 i ∧ i ≤ 2 ∧ One v ∧ St M w0 W (blk p (.cells [.pointer (some ⟨d, 0, none⟩), .int .i64 (f0 : Nat), .int .i64 (f1 : Nat), .int .i64 (snN f0 f1 k i).cur, .int .i64 (snN f0 f1 k i).r.1, v, .bool false].toArray 117 (0, 0)) :: vw v (snN f0 f1 k i).r.2 :: dsk d k :: R),
    fun t W => match t with | .int _ i => 2 - i.toNat | _ => 0, ⟨0, .slice none 0 0, rfl, by omega, inferInstance, ?_⟩, ?_⟩
  · have S1 := (vw_nil (S.perm (hp.p.cons _))).perm (.swap _ _ _)
    exact S1
  · clear S
    rintro t W ⟨i, v, rfl, hi, hv, S⟩
    (repeat refine Stp.h ?_)
    refine brX_d (fun hlt => ?_) (fun hlt => ?_)
    · have hlt : i < 2 := by omega
      have hfi : k.may ((snF f0 f1 i : Nat) : Int) = 0 := by
        match i, hlt with
        | 0, _ => exact h0
        | 1, _ => exact h1
      refine joinX_of (fun J => ∀ W' v', One v' → St M w0 W' (blk p (.cells [.pointer (some ⟨d, 0, none⟩), .int .i64 (f0 : Nat), .int .i64 (f1 : Nat), .int .i64 (snN f0 f1 k (i + 1)).cur, .int .i64 (snN f0 f1 k (i + 1)).r.1, v', .bool false].toArray 117 (0, 0)) :: vw v' (snN f0 f1 k (i + 1)).r.2 :: dsk d k :: R) → J W') (fun W' v' hv' S' => ?_) (fun J hJ => ?_)
      · clear S
        (repeat refine Stp.h ?_)
        rw [wi64 (n := ((i : Nat) : Int) + 1) (by omega)]
        exact ⟨⟨i + 1, v', by simp, by omega, hv', S'⟩, by show _ < _; simp; omega⟩
      · refine ⟨by omega, by omega, .int .i64 (snF f0 f1 i : Nat), ?_, ?_⟩
        · match i, hlt with
          | 0, _ => rfl
          | 1, _ => rfl
        refine f58 S (fun hm => absurd hfi hm) (fun n hn h4 hd hm hl w2 v2 S2 => ?_)
        clear S
        have hn' : n = snF f0 f1 i := by omega
        subst hn'
        (repeat refine Stp.h ?_)
        refine brX_df (by first | omega | simp | decide) ?_
        have hstep : snN f0 f1 k (i + 1) = snStep (i : Nat) (snN f0 f1 k i) (ofL (k.l (snF f0 f1 i))) := rfl
        rw [hstep] at hJ
        clear hstep
        generalize snN f0 f1 k i = s at S2 hJ
        refine f118 (v := v2) (l := k.l (snF f0 f1 i)) (by omega) S2 (fun hno w3 S3 => ?_) (fun r hr w3 x S3 => ?_)
        · rw [hno, show snStep (i : Nat) s none = s from rfl] at hJ
          clear S2
          have S := S3
          clear S3
          rw [rcC_lit]
          (repeat refine Stp.h ?_)
          (refine StpA.h ?_; clear S; intro b3 w4 S)
          (refine StpW.h ?_; clear S; intro w5 S)
          refine joinX_of (fun J => ∀ W', St M w0 W' (blk b3 (.cells [.int .i64 0, .slice none 0 0].toArray 62 (0, 0)) :: vw v2 (k.l (snF f0 f1 i)) :: dsk d k :: blk p (.cells [.pointer (some ⟨d, 0, none⟩), .int .i64 (f0 : Nat), .int .i64 (f1 : Nat), .int .i64 s.cur, .int .i64 s.r.1, v, .bool false].toArray 117 (0, 0)) :: vw v s.r.2 :: R) → J (.bool false) W') (fun W' S' => ?_) (fun J hJ5 => ?_)
          · clear S
            (repeat refine Stp.h ?_)
            exact hJ _ v hv (S'.sub inferInstance)
          · (refine S.drew ?_; clear S; intro w6 S)
            refine ⟨Has _, S.hs, ?_⟩
            (repeat refine Stp.h ?_)
            exact hJ5 _ S
        · rw [hr] at hJ
          clear S2
          have S := S3
          clear S3
          haveI := (S.hs.vw (v := x) (l := r.2) inferInstance).one
          rw [rcC_lit]
          (repeat refine Stp.h ?_)
          (refine StpA.h ?_; clear S; intro b3 w4 S)
          (refine StpW.h ?_; clear S; intro w5 S)
          refine joinX_of (fun J => ∀ W', St M w0 W' (blk b3 (.cells [.int .i64 r.1, x].toArray 62 (0, 0)) :: vw x r.2 :: vw v2 (k.l (snF f0 f1 i)) :: dsk d k :: blk p (.cells [.pointer (some ⟨d, 0, none⟩), .int .i64 (f0 : Nat), .int .i64 (f1 : Nat), .int .i64 s.cur, .int .i64 s.r.1, v, .bool false].toArray 117 (0, 0)) :: vw v s.r.2 :: R) → J (.bool (decide (s.r.1 < r.1))) W') (fun W' S' => ?_) (fun J hJ5 => ?_)
          · clear S
            have S := S'
            clear S'
            unfold snStep at hJ
            dsimp only at hJ
            refine brX_d (fun hgt => ?_) (fun hgt => ?_)
            · rw [if_pos hgt] at hJ
              (refine S.drew ?_; clear S; intro w6 S)
              refine ⟨Has [blk b3 (.cells [.int .i64 r.1, x].toArray 62 (0, 0))], S.hs.sub inferInstance, ?_⟩
              (repeat refine Stp.h ?_)
              (refine StpW.h ?_; clear S; intro w7 S)
              (repeat refine Stp.h ?_)
              (refine StpW.h ?_; clear S; intro w8 S)
              exact hJ _ x inferInstance (S.sub inferInstance)
            · rw [if_neg hgt] at hJ
              exact hJ _ v hv (S.sub inferInstance)
          · (refine S.drew ?_; clear S; intro w6 S)
            refine ⟨Has _, S.hs, ?_⟩
            (repeat refine Stp.h ?_)
            exact hJ5 _ S
    · obtain rfl : i = 2 := by omega
      have hf := snN_f f0 f1 k 2
      refine hk _ p ?_
      rw [snN_two] at S hf
      exact S.snShut v (by rw [hf.1, hf.2.1, hf.2.2]) rfl
end
end Go.Proofs.YtgnmelnohclpgaaDoor

namespace Go.Proofs.YtgnmelnohclpgaaDoor
open Go Go.RowKit

/-! ### The plain law -/
def snNext (s : Sn) : Int := (s.cur + 1).tmod 2
theorem snNext_lt (s : Sn) (h : -1 ≤ s.cur ∧ s.cur ≤ 1) : snNext s = 0 ∨ snNext s = 1 := by
  unfold snNext
  have : s.cur = -1 ∨ s.cur = 0 ∨ s.cur = 1 := by omega
  rcases this with h | h | h <;> rw [h] <;> decide
def snWrite (k : Dk) (f : Nat) (b : List UInt8) : Int × Dk :=
  if (k.call 2 (f : Nat) []).1 ≠ 0 then k.call 2 (f : Nat) []
  else if ((k.call 2 (f : Nat) []).2.call 0 (f : Nat) b).1 ≠ 0 then (k.call 2 (f : Nat) []).2.call 0 (f : Nat) b
  else ((k.call 2 (f : Nat) []).2.call 0 (f : Nat) b).2.call 1 (f : Nat) []
def snFile (s : Sn) : Nat := snF s.f0 s.f1 (snNext s).toNat
def snPut (s : Sn) (r : Rc) (e : Int × Dk) : Int × Sn × Dk := if e.1 ≠ 0 then (e.1, { s with bad := true }, e.2) else (0, { s with cur := snNext s, r := r, bad := false }, e.2)
def snSave (s : Sn) (k : Dk) (t : List UInt8) : Int × Sn × Dk :=
  if s.bad = true then (16, s, k)
  else if 65536 < t.length then (3, s, k)
  else if 4611686018427387904 ≤ s.r.1 then (15, s, k)
  else snPut s (s.r.1 + 1, t) (snWrite k (snFile s) (frameL (s.r.1 + 1, t)))

def saveRest (t1 t2 t29 : Value) (w11 : World) (K : Cont) : Prop :=
  load1X t1 w11 fun t30 =>
  callX Tryd.prog 121 [t30] w11 fun t31 w12 =>
  newX 3 [Value.int IntKind.i64 0] w12 fun t32 w13 =>
  store1X t32 t31 w13 fun w14 =>
  loadNX 2 t29 w14 fun t33 =>
  callX Tryd.prog 37 [t33] w14 fun t34 w15 =>
  extractX t34 0 fun t35 =>
  extractX t34 1 fun t36 =>
  store1X t2 t36 w15 fun w16 =>
  load1X t2 w16 fun t37 =>
  neX EqK.num t37 (Value.int IntKind.i64 0) fun t38 =>
  brX t38
    (load1X t2 w16 fun t39 =>
     store1X t2 t39 w16 fun w17 =>
     callDX Tryd.prog 122 [t2, t1, t32, t29] w17 fun t40 w18 =>
     load1X t2 w18 fun t41 =>
     K t41 w18)
  (∀ (w19 : World), (Drew w16 w19 →
  ∃ (S2 : World → Prop), (S2 w19 ∧
  load1H S2 t1 fun t42 =>
  load1H S2 t1 fun t43 =>
  nilX t43 fun t44 =>
  fieldAddrX 1 t44 fun t45 =>
  load1H S2 t32 fun t46 =>
  indexAX 2 1 t45 t46 fun t47 =>
  load1H S2 t47 fun t48 =>
  callX Tryd.prog 123 [t42, t48, t35] w19 fun t49 w20 =>
  store1X t2 t49 w20 fun w21 =>
  callDX Tryd.prog 122 [t2, t1, t32, t29] w21 fun t50 w22 =>
  load1X t2 w22 fun t51 =>
  K t51 w22)))


theorem d122 (a0 a1 a2 a3 : Value) (w : World) (K : Cont) (h : s122 a0 a1 a2 a3 w K) : callDX Tryd.prog 122 [a0, a1, a2, a3] w K := fX_callD mixed (e122 a0 a1 a2 a3 w K) (by kernel_rfl) h

section
variable {M : List Nat} {w0 w : World} {L L1 R : List Item} {v u x tl : Value} {l m t : List UInt8} {K : Cont} {b d p c : Nat} {k : Dk} {s : Sn} {rs : List Rc}

/-- write -/
theorem f123 {f : Nat} {cs : List Value} {ty : TypeId} [hp : Pk (dsk d) k L R] [hi : InL p (.cells (.pointer (some ⟨d, 0, none⟩) :: cs).toArray ty (0, 0)) R] [hm : InI (vw u) m R] (hl : m.length ≤ 2 ^ 30) (S : St M w0 w L)
    (hk : ∀ w', St M w0 w' (dsk d (snWrite k f m).2 :: R) → K (.int .i64 (snWrite k f m).1) w') : callX Tryd.prog 123 [.pointer (some ⟨p, 0, none⟩), .int .i64 (f : Nat), u] w K := by
  replace S := S.perm hp.p
  refine c123 _ _ _ _ _ ?_
  unfold s123
  unfold snWrite at hk
  (repeat refine Stp.h ?_)
  refine f68 S fun w1 S1 => ?_
  clear S
  (repeat refine Stp.h ?_)
  refine brX_d (fun h1 => ?_) (fun h1 => ?_)
  · rw [if_pos h1] at hk
    exact hk _ S1
  · rw [if_neg h1] at hk
    (repeat refine Stp.h ?_)
    refine f57 hl S1 fun w2 S2 => ?_
    clear S1
    (repeat refine Stp.h ?_)
    refine brX_d (fun h2 => ?_) (fun h2 => ?_)
    · rw [if_pos h2] at hk
      exact hk _ S2
    · rw [if_neg h2] at hk
      (repeat refine Stp.h ?_)
      exact f112 S2 hk

theorem saveRest_ok {b1 b2 b3 : Nat} (hc : -1 ≤ s.cur ∧ s.cur ≤ 1) (hg : -9223372036854775808 ≤ s.r.1 ∧ s.r.1 < 4611686018427387904) (ht : t.length ≤ 65536)
    (S : St M w0 w (blk b3 (.cells [.int .i64 (s.r.1 + 1), x].toArray 62 (0, 0)) :: vw x t :: blk b2 (.cells [.int .i64 0].toArray 34 (0, 0)) :: blk b1 (.cells [.pointer (some ⟨p, 0, none⟩)].toArray 107 (0, 0)) :: blk p (.cells [.pointer (some ⟨d, 0, none⟩), .int .i64 (s.f0 : Nat), .int .i64 (s.f1 : Nat), .int .i64 s.cur, .int .i64 s.r.1, v, .bool s.bad].toArray 117 (0, 0)) :: vw v s.r.2 :: dsk d k :: R))
    (hk : ∀ w', St M w0 w' (sn p d (snPut s (s.r.1 + 1, t) (snWrite k (snFile s) (frameL (s.r.1 + 1, t)))).2.1 :: dsk d (snPut s (s.r.1 + 1, t) (snWrite k (snFile s) (frameL (s.r.1 + 1, t)))).2.2 :: R) → K (.int .i64 (snPut s (s.r.1 + 1, t) (snWrite k (snFile s) (frameL (s.r.1 + 1, t)))).1) w') :
    saveRest (.pointer (some ⟨b1, 0, none⟩)) (.pointer (some ⟨b2, 0, none⟩)) (.pointer (some ⟨b3, 0, none⟩)) w K := by
  unfold saveRest
  (repeat refine Stp.h ?_)
  refine c121 _ _ _ ?_
  unfold s121
  (repeat refine Stp.h ?_)
  rw [wi64 (n := s.cur + 1) (by omega)]
  refine ⟨rfl, by omega, ?_⟩
  rw [show (s.cur + 1).tmod 2 = snNext s from rfl]
  (refine StpA.h ?_; clear S; intro b6 w11 S)
  (refine StpW.h ?_; clear S; intro w12 S)
  (repeat refine Stp.h ?_)
  show callX _ 37 [.agg (rcC (s.r.1 + 1) x).toArray] _ _
  refine f37 (g := s.r.1 + 1) (l := t) (by omega) S (fun hb _ _ => by omega) (fun _ w13 v2 S2 => ?_)
  clear S
  have S := S2.frz
  clear S2
  have hfl : (frameL (s.r.1 + 1, t)).length ≤ 65554 := by
    have hp := putI_len (s.r.1 + 1) (by omega)
    rw [frameL_len]
    simp [textL]
    omega
  haveI := (S.hs.vw (v := v2) (l := frameL (s.r.1 + 1, t)) inferInstance).one
  (repeat refine Stp.h ?_)
  (refine StpW.h ?_; clear S; intro w14 S)
  (repeat refine Stp.h ?_)
  refine brX_df (by first | omega | simp | decide) ?_
  (refine S.drew ?_; clear S; intro w15 S)
  have hnx := snNext_lt s hc
  refine ⟨Has _, S.hs, ?_⟩
  (repeat refine Stp.h ?_)
  have hsl : ∀ (A : List Item) (K : Value → Prop), InL p (.cells [.pointer (some ⟨d, 0, none⟩), .int .i64 (s.f0 : Nat), .int .i64 (s.f1 : Nat), .int .i64 s.cur, .int .i64 s.r.1, v, .bool s.bad].toArray 117 (0, 0)) A → K (.int .i64 (snFile s : Nat)) → indexAX 2 1 (.pointer (some ⟨p, 1, none⟩)) (.int .i64 (snNext s)) fun t47 => load1H (Has A) t47 K := by
    intro A K hA hK
    unfold snFile at hK
    rcases hnx with h | h
    · rw [h] at hK ⊢
      refine ⟨by omega, by omega, ?_⟩
      show load1H _ (.pointer (some ⟨p, 1, none⟩)) _
      (repeat refine Stp.h ?_)
      exact hK
    · rw [h] at hK ⊢
      refine ⟨by omega, by omega, ?_⟩
      show load1H _ (.pointer (some ⟨p, 2, none⟩)) _
      (repeat refine Stp.h ?_)
      exact hK
  refine hsl _ _ inferInstance ?_
  clear hsl
  refine f123 (k := k) (d := d) (p := p) (f := snFile s) (u := v2) (m := frameL (s.r.1 + 1, t)) (by omega) S fun w16 S16 => ?_
  clear S
  have S := S16
  clear S16
  generalize hW : snWrite k (snFile s) (frameL (s.r.1 + 1, t)) = W at S hk ⊢
  unfold snPut at hk
  (refine StpW.h ?_; clear S; intro w17 S)
  refine d122 _ _ _ _ _ _ ?_
  unfold s122
  haveI := (S.hs.vw (v := x) (l := t) inferInstance).one
  (repeat refine Stp.h ?_)
  (refine StpW.h ?_; clear S; intro w18 S)
  (repeat refine Stp.h ?_)
  by_cases he : W.1 = 0
  · rw [if_neg (by simpa using he)] at hk
    rw [show decide (W.1 ≠ 0) = false by simp [he]] at S ⊢
    refine brX_nf ?_
    (repeat refine Stp.h ?_)
    (refine StpW.h ?_; clear S; intro w19 S)
    (repeat refine Stp.h ?_)
    (refine StpW.h ?_; clear S; intro w20 S)
    dsimp only
    (repeat refine Stp.h ?_)
    rw [he]
    exact hk _ (S.snShut (d := d) (s := { s with cur := snNext s, r := (s.r.1 + 1, t), bad := false }) x rfl rfl)
  · rw [if_pos he] at hk
    rw [show decide (W.1 ≠ 0) = true by simp [he]] at S ⊢
    refine brX_nt ?_
    dsimp only
    (repeat refine Stp.h ?_)
    exact hk _ (S.snShut (d := d) (s := { s with bad := true }) v rfl rfl)

/-- Save -/
theorem f64 [hm : InI (vw u) t R] (hc : -1 ≤ s.cur ∧ s.cur ≤ 1) (hg : -9223372036854775808 ≤ s.r.1 ∧ s.r.1 < 9223372036854775808) (htl : t.length ≤ 2 ^ 30) (S : St M w0 w (sn p d s :: dsk d k :: R))
    (hk : ∀ w', St M w0 w' (sn p d (snSave s k t).2.1 :: dsk d (snSave s k t).2.2 :: R) → K (.int .i64 (snSave s k t).1) w') : callX Tryd.prog 64 [.pointer (some ⟨p, 0, none⟩), u] w K := by
  obtain ⟨v, S1⟩ := S.snOpen (p := p) (d := d) (s := s)
  clear S
  have S := S1
  clear S1
  refine c64 _ _ _ _ ?_
  unfold s64
  unfold snSave at hk
  (refine StpA.h ?_; clear S; intro b1 w1 S)
  (refine StpA.h ?_; clear S; intro b2 w2 S)
  (repeat refine Stp.h ?_)
  refine f120 (p := p) S ?_
  (repeat refine Stp.h ?_)
  cases hb : s.bad
  · rw [hb] at hk S
    simp only [Bool.false_eq_true, if_false] at hk
    (repeat refine Stp.h ?_)
    refine (S.hs.vw (v := u) (l := t) inferInstance).len ?_
    (repeat refine Stp.h ?_)
    refine brX_d (fun hbig => ?_) (fun hbig => ?_)
    · rw [if_pos (by omega)] at hk
      (refine StpW.h ?_; clear S; intro w3 S)
      (repeat refine Stp.h ?_)
      exact hk _ (S.snShut v (by rw [hb]) rfl)
    · rw [if_neg (by omega)] at hk
      (repeat refine Stp.h ?_)
      refine brX_d (fun hmax => ?_) (fun hmax => ?_)
      · rw [if_pos hmax] at hk
        (refine StpW.h ?_; clear S; intro w3 S)
        (repeat refine Stp.h ?_)
        exact hk _ (S.snShut v (by rw [hb]) rfl)
      · rw [if_neg hmax] at hk
        (refine S.drew ?_; clear S; intro w3 S)
        refine ⟨Has _, S.hs, ?_⟩
        (repeat refine Stp.h ?_)
        rw [wi64 (n := s.r.1 + 1) (by omega)]
        refine ⟨?_, ?_⟩
        · refine f117 (l := t) S (by omega) fun w4 x S4 => ?_
          clear S
          have S := S4.frz
          clear S4
          haveI := (S.hs.vw (v := x) (l := t) inferInstance).one
          refine ⟨S.hs.tail, ?_⟩
          (repeat refine Stp.h ?_)
          (refine StpA.h ?_; clear S; intro b3 w5 S)
          refine ⟨S.hs.sub inferInstance, ?_⟩
          (refine StpW.h ?_; clear S; intro w6 S)
          rw [← hb] at S
          exact saveRest_ok (x := x) (t := t) (b1 := b1) (b2 := b2) (b3 := b3) (p := p) (d := d) (k := k) (v := v) hc ⟨hg.1, by omega⟩ (by omega) (S.sub inferInstance) hk
        · (refine StpA.h ?_; clear S; intro b3 w4 S)
          refine ⟨S.hs.tail, ?_⟩
          refine f117 (l := t) S (by omega) fun w5 x S5 => ?_
          clear S
          have S := S5.frz
          clear S5
          haveI := (S.hs.vw (v := x) (l := t) inferInstance).one
          refine ⟨S.hs.sub inferInstance, ?_⟩
          (repeat refine Stp.h ?_)
          (refine StpW.h ?_; clear S; intro w6 S)
          rw [← hb] at S
          exact saveRest_ok (x := x) (t := t) (b1 := b1) (b2 := b2) (b3 := b3) (p := p) (d := d) (k := k) (v := v) hc ⟨hg.1, by omega⟩ (by omega) (S.sub inferInstance) hk
  · rw [hb] at hk S
    simp only [if_true] at hk
    (repeat refine Stp.h ?_)
    (refine StpW.h ?_; clear S; intro w3 S)
    (repeat refine Stp.h ?_)
    exact hk _ (S.snShut v (by rw [hb]) rfl)
end
end Go.Proofs.YtgnmelnohclpgaaDoor

namespace Go.Proofs.YtgnmelnohclpgaaDoor
open Go Go.RowKit

/-! ### The plain law -/
def wrote (k : Dk) (f : Nat) (b : List UInt8) : Dk := ((k.clear f).lay f b).keep f
theorem wrote_free {k : Dk} (h : k.free) (f : Nat) (b : List UInt8) : (wrote k f b).free := keep_free (lay_free (clear_free h f) f b) f
theorem wrote_l (k : Dk) (f : Nat) (b : List UInt8) : (wrote k f b).l = upd k.l f b := by
  show upd (upd k.l f []) f (upd k.l f [] f ++ b) = _
  rw [upd_upd, upd_same]
  rfl
theorem wrote_s (k : Dk) (f : Nat) (b : List UInt8) : (wrote k f b).s = upd k.s f b.length := by
  show upd (upd k.s f 0) f (upd (upd k.l f []) f (upd k.l f [] f ++ b) f).length = _
  rw [upd_upd, upd_same, upd_same]
  rfl
theorem snWrite_free {k : Dk} (h : k.free) {f : Nat} {b : List UInt8} (hf : f < 4) (hl : (k.l f).length ≤ 1048576) (hb : b.length ≤ 1048576) : snWrite k f b = (0, wrote k f b) := by
  have e2 : k.doF 2 f [] = k.clear f := by unfold Dk.doF; rw [if_neg (by decide), if_pos rfl]
  unfold snWrite
  rw [call_free h hf (by simpa using hl), e2]
  rw [if_neg (by simp)]
  dsimp only
  rw [call_free (clear_free h f) hf (by simp [Dk.clear, upd_same]; omega), lay_doF, if_neg (by simp)]
  dsimp only
  rw [call_free (lay_free (clear_free h f) f b) hf (by simp [Dk.clear, Dk.lay, upd_same]; omega), keep_doF]
  rfl
theorem snSave_free {k : Dk} {s : Sn} {t : List UInt8} (h : k.free) (hb : s.bad = false) (hf : snFile s < 4) (hl : (k.l (snFile s)).length ≤ 1048576) (ht : t.length ≤ 65536) (hg : -9223372036854775808 ≤ s.r.1 ∧ s.r.1 < 4611686018427387904) :
    snSave s k t = (0, { s with cur := snNext s, r := (s.r.1 + 1, t), bad := false }, wrote k (snFile s) (frameL (s.r.1 + 1, t))) := by
  have hp := putI_len (s.r.1 + 1) (by omega)
  have hfl : (frameL (s.r.1 + 1, t)).length ≤ 65554 := by rw [frameL_len]; simp [textL]; omega
  unfold snSave
  rw [if_neg (by simp [hb]), if_neg (by omega), if_neg (by omega), snWrite_free h hf hl (by omega)]
  unfold snPut
  rw [if_neg (by simp)]
theorem ofL_nil : ofL [] = none := by unfold ofL; rw [parseL_nil]
theorem ofL_frame {r : Rc} (h : Rc.ok r) (h1 : 1 ≤ r.1) : ofL (frameL r) = some r := by
  have := parseL_frame h []
  rw [List.append_nil, parseL_nil] at this
  unfold ofL
  rw [this]
  dsimp only
  rw [if_pos ⟨rfl, h1⟩]
theorem snOpen0 (f0 f1 : Nat) : snOpen f0 f1 [] [] = ⟨f0, f1, -1, (0, []), false⟩ := by
  unfold snOpen
  rw [ofL_nil]
  rfl

section
variable {M : List Nat} {w0 w : World} {L L1 R : List Item} {v u x tl : Value} {l m t : List UInt8} {K : Cont} {b d p c : Nat} {k : Dk} {s : Sn} {rs : List Rc}

theorem f63 [hE : Err M w0] (S : St M w0 w L) (hk : ∀ w', St M w0 w' L → K (.bool true) w') : callX Tryd.prog 63 [] w K := by
  refine c63 _ _ ?_
  unfold s63
  refine f50 S fun w1 d S1 => ?_
  clear S
  refine f59 (f0 := 1) (f1 := 2) (k := dk0) (d := d) (by omega) rfl rfl S1 fun w2 p S2 => ?_
  rw [show snOpen 1 2 (dk0.l 1) (dk0.l 2) = ⟨1, 2, -1, (0, []), false⟩ from snOpen0 1 2] at S2
  clear S1
  have S := S2
  clear S2
  (repeat refine Stp.h ?_)
  refine S.lit (x := 97) (l := []) rfl fun w3 v3 S3 => ?_
  clear S
  have h1 : snSave ⟨1, 2, -1, (0, []), false⟩ dk0 [97] = (0, ⟨1, 2, 0, (1, [97]), false⟩, wrote dk0 1 (frameL (1, [97]))) := snSave_free (k := dk0) (s := ⟨1, 2, -1, (0, []), false⟩) (t := [97]) dk0_free rfl (by decide) (by decide) (by decide) (by decide)
  refine f64 (s := ⟨1, 2, -1, (0, []), false⟩) (k := dk0) (t := [97]) (p := p) (d := d) (u := v3) (R := vw v3 [97] :: L) (by decide) (by decide) (by decide) (S3.sub inferInstance) fun w4 S4 => ?_
  rw [h1] at S4 ⊢
  dsimp only at S4 ⊢
  clear S3
  have S := S4
  clear S4
  refine S.lit (x := 98) (l := []) rfl fun w5 v5 S5 => ?_
  clear S
  have h2 : snSave ⟨1, 2, 0, (1, [97]), false⟩ (wrote dk0 1 (frameL (1, [97]))) [98] = (0, ⟨1, 2, 1, (2, [98]), false⟩, wrote (wrote dk0 1 (frameL (1, [97]))) 2 (frameL (2, [98]))) := snSave_free (k := wrote dk0 1 (frameL (1, [97]))) (s := ⟨1, 2, 0, (1, [97]), false⟩) (t := [98]) (wrote_free dk0_free _ _) rfl (by decide) (by rw [show snFile ⟨1, 2, 0, (1, [97]), false⟩ = 2 from rfl, wrote_l, upd_ne _ _ (by omega)]; decide) (by decide) (by decide)
  refine f64 (s := ⟨1, 2, 0, (1, [97]), false⟩) (k := wrote dk0 1 (frameL (1, [97]))) (t := [98]) (p := p) (d := d) (u := v5) (R := vw v5 [98] :: L) (by decide) (by decide) (by decide) (S5.sub inferInstance) fun w6 S6 => ?_
  rw [h2] at S6 ⊢
  dsimp only at S6 ⊢
  clear S5
  have hk2 := wrote_free (wrote_free dk0_free 1 (frameL (1, [97]))) 2 (frameL (2, [98]))
  have hl1 : (wrote (wrote dk0 1 (frameL (1, [97]))) 2 (frameL (2, [98]))).l 1 = frameL (1, [97]) := by rw [wrote_l, upd_ne _ _ (by omega), wrote_l, upd_same]
  have hl2 : (wrote (wrote dk0 1 (frameL (1, [97]))) 2 (frameL (2, [98]))).l 2 = frameL (2, [98]) := by rw [wrote_l, upd_same]
  refine f59 (f0 := 1) (f1 := 2) (k := wrote (wrote dk0 1 (frameL (1, [97]))) 2 (frameL (2, [98]))) (d := d) (by omega) (may_free hk2 (by omega)) (may_free hk2 (by omega)) (S6.perm (.swap _ _ _)) fun w7 p2 S7 => ?_
  rw [hl1, hl2] at S7
  clear S6
  have ho : snOpen 1 2 (frameL (1, [97])) (frameL (2, [98])) = ⟨1, 2, 1, (2, [98]), false⟩ := by
    unfold snOpen
    rw [ofL_frame (r := (1, [97])) ⟨by decide, by decide⟩ (by decide), ofL_frame (r := (2, [98])) ⟨by decide, by decide⟩ (by decide)]
    rfl
  rw [ho] at S7
  (repeat refine Stp.h ?_)
  refine f61 (p := p2) (d := d) (s := ⟨1, 2, 1, (2, [98]), false⟩) (by decide) S7 fun w8 v8 S8 => ?_
  clear S7
  have S := S8
  clear S8
  dsimp only at S ⊢
  (repeat refine Stp.h ?_)
  refine brX_dt (by first | omega | simp | decide) ?_
  (repeat refine Stp.h ?_)
  refine brX_dt (by first | omega | simp | decide) ?_
  (repeat refine Stp.h ?_)
  refine brX_dt (by first | omega | simp | decide) ?_
  (repeat refine Stp.h ?_)
  refine brX_dt (by first | omega | simp | decide) ?_
  (repeat refine Stp.h ?_)
  show eqX .str (str [98]) (str [98]) _
  (repeat refine Stp.h ?_)
  refine brX_dt (by first | omega | simp | decide) ?_
  (repeat refine Stp.h ?_)
  refine brX_dt (by first | omega | simp | decide) ?_
  refine f62 (p := p2) (d := d) (s := ⟨1, 2, 1, (2, [98]), false⟩) (by decide) S fun w9 S9 => ?_
  rw [show snSlot ⟨1, 2, 1, (2, [98]), false⟩ = 2 from rfl]
  (repeat refine Stp.h ?_)
  exact hk _ (S9.sub inferInstance)
end
end Go.Proofs.YtgnmelnohclpgaaDoor

