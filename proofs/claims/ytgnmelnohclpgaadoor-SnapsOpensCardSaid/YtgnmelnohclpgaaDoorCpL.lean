/- JournalFalls: the law's function answers true. -/
import Derived.Test.YtgnmelnohclpgaaDoorCpK
set_option linter.unusedVariables false
set_option linter.unusedSimpArgs false
namespace Go.Proofs.YtgnmelnohclpgaaDoor
open Go Go.RowKit

theorem and3_lt (n : Int) : bitsV .i64 (fun p q => p &&& q) n 3 < 9223372036854775808 := by
  unfold bitsV
  rw [IntKind.wrap_i64]
  omega
section
variable {M : List Nat} {w0 w : World} {L L1 R : List Item} {v u x tl : Value} {l m t : List UInt8} {K : Cont} {b d p c : Nat} {k : Dk} {g : Lg} {rs : List Rc} {ss : List Sp}

/-- one cell of an element, at a place that is known -/
theorem fld2 {K : Value → Prop} {i j : Nat} {cs : List (List Value)} {e : List Value} {s : Nat} (h : RdR w s v cs) (hx : cs[i]? = some e) (hj : e[j]? = some x) (hk : K x) : indexSX s v (.int .i64 (i : Nat)) fun t => fieldAddrX j t fun u => load1X u w K := h.fld hx hj hk
theorem fldN {K : Value → Prop} {i : Nat} {cs : List (List Value)} {e : List Value} {s n : Nat} (h : RdR w s v cs) (hx : cs[i]? = some e) (hn : n ≤ e.length) (hk : K (.agg (e.take n).toArray)) : indexSX s v (.int .i64 (i : Nat)) fun t => fieldAddrX 0 t fun u => loadNX n u w K := by
  obtain ⟨a, he, hi, hc⟩ := rdr_at (S := fun w' => w' = w) (fun w' hw => hw ▸ h) rfl hx
  refine hi _ (fldA ⟨e.take n, by simp [hn], fun j y hj => ?_, hk⟩)
  have hj2 : e[j]? = some y := by
    have := (List.getElem?_eq_some_iff.1 hj).1
    rw [List.getElem?_take_of_lt (by simp at this; omega)] at hj
    exact hj
  have := hc w rfl j y hj2
  simpa [Addr.add] using this

theorem f56p {c : Lg} [hp : Pk (jl p d) c L R] (S : St M w0 w L) (hk : K (.bool c.torn) w) : callX Tryd.prog 56 [.pointer (some ⟨p, 0, none⟩)] w K := by
  refine c56 _ _ _ ?_
  unfold s56
  obtain ⟨v, S1⟩ := S.jlOpen (hp := hp)
  (repeat refine Stp.h ?_)
  exact hk
theorem drs_rd {v : Value} (h : Has L w) (hm : InI (drs v) rs L) : RdR w 2 v (rs.map fun r => drC r.1 r.2) := by
  obtain ⟨fp, o, hp⟩ := h.get hm.mem
  exact hp.2.rd
theorem f13 {a1 : Int} {bs : List Value} (hE : ErrW w) (ha1 : -9223372036854775808 ≤ a1 ∧ a1 < 9223372036854775808) (hb : bs.length = ss.length) (hv : RdR w 4 v (spCells bs ss)) (hss : ∀ s, s ∈ ss → -9223372036854775808 ≤ s.1.1 ∧ s.1.1 < 9223372036854775808)
    (S : St [] w w (rdsp bs v ss)) (hk0 : ∀ w', Ext w w' → K (.bool true) w') : callX Tryd.prog 13 [v, .int .i64 a1] w K := by
  haveI : Err [] w := ⟨hE, by simp⟩
  have hvr : ∀ (A : List Item) W, Has (A ++ rdsp bs v ss) W → RdR W 4 v (spCells bs ss) := fun A W h => h.vrow (rdsp_in A)
  have hlen : (spCells bs ss).length = ss.length := spCells_len hb
  refine c13 _ _ _ _ ?_
  unfold s13
  refine f50 S fun w1 d S1 => ?_
  refine f51 S1 (fun hm => absurd (may_free dk0_free (n := 2) (by omega)) hm) (fun n hn h4 hd hm hl w2 p S2 => ?_)
  obtain rfl : n = 2 := by omega
  clear S1 S
  have S := S2
  clear S2
  have hp0 : lgOpen 2 (dk0.l 2) = ⟨2, [], 0, false, false⟩ := by
    show lgOpen 2 [] = _
    unfold lgOpen
    rw [parseL_nil]
    rfl
  rw [hp0] at S
  (repeat refine Stp.h ?_)
  refine joinX_of (fun J => J (.bool false) w2) ?_ (fun J hJ => ?_)
  · (repeat refine Stp.h ?_)
    refine ⟨fun t6 t7 t8 W => ∃ (i p : Nat) (want : List Rc) (k : Dk), t8 = .int .i64 i ∧ t7 = .pointer (some ⟨p, 0, none⟩) ∧ i ≤ ss.length ∧ i ≤ 30 ∧ want.length ≤ i ∧ (∀ r, r ∈ want → r.2.length < 301 ∧ -9223372036854775808 ≤ r.1 ∧ r.1 < 9223372036854775808) ∧ k.free ∧ k.l 2 = framesL want ∧ k.s 2 = (framesL want).length ∧
        St [] w W (jl p d ⟨2, want, (framesL want).length, false, false⟩ :: dsk d k :: drs t6 want :: rdsp bs v ss),
      fun _ _ t W => match t with | .int _ i => ss.length - i.toNat | _ => 0, ⟨0, p, [], dk0, rfl, rfl, by omega, by omega, by simp, by simp, dk0_free, rfl, rfl, ?_⟩, ?_⟩
    · exact (orow_nil (t := 68) (s := 2) S).perm ((List.Perm.swap _ _ _).trans ((List.Perm.swap _ _ _).cons _))
    · clear S
      rintro t6 t7 t8 W ⟨i, p, want, k, rfl, rfl, hi, hi30, hwl, hsm, hkf, hkl, hks, S⟩
      have hfl := framesL_small' _ hsm
      refine joinX_of (fun J => (∀ s, ss[i]? = some s → i < 30 → J (.bool true) W) ∧ J (.bool false) W) ⟨fun s hs hi2 => ?_, ?_⟩ (fun J hJ => ?_)
      · have hok := hss s (List.mem_of_getElem? hs)
        obtain ⟨y, hm, hc⟩ := sp_mem hb hs
        have hlt := (List.getElem?_eq_some_iff.1 hs).1
        (repeat refine Stp.h ?_)
        refine joinX_of (fun J => ∀ t10 p' W' want' k', want'.length ≤ i + 1 → (∀ r, r ∈ want' → r.2.length < 301 ∧ -9223372036854775808 ≤ r.1 ∧ r.1 < 9223372036854775808) → k'.free → k'.l 2 = framesL want' → k'.s 2 = (framesL want').length →
          St [] w W' (jl p' d ⟨2, want', (framesL want').length, false, false⟩ :: dsk d k' :: drs t10 want' :: rdsp bs v ss) → J t10 (.pointer (some ⟨p', 0, none⟩)) W') (fun t10 p' W' want' k' h1 h2 h3 h4 h5 S' => ?_) (fun J hJ => ?_)
        · clear S
          (repeat refine Stp.h ?_)
          rw [wi64 (n := ((i : Nat) : Int) + 1) (by omega)]
          exact ⟨⟨i + 1, p', want', k', by simp, rfl, by omega, by omega, h1, h2, h3, h4, h5, S'⟩, by show _ < _; simp; omega⟩
        · refine fldN (hvr [_, _, _] W S.hs) hc (n := 2) (by simp [spC]) ?_
          have hyo : One y := (S.hs.vw (rdsp_vw [_, _, _] hm)).one
          show newX 62 [.int .i64 0, .slice none 0 0] W fun t16 w7 => storeNX 2 t16 (.agg [.int .i64 s.1.1, y].toArray) w7 _
          (refine StpA.h ?_; clear S; intro b2 w3 S)
          (refine StpW.h ?_; clear S; intro w4 S)
          (repeat refine Stp.h ?_)
          refine (S.hs.vw (rdsp_vw [_, _, _, _] hm)).len ?_
          (repeat refine Stp.h ?_)
          refine brX_d (fun hbig => ?_) (fun hbig => ?_)
          · exact hJ t6 p _ want k (by omega) hsm hkf hkl hks S.drop
          · have hr3 : s.1.2.length < 301 := by omega
            refine fld2 (hvr [_, _, _, _] _ S.hs) hc (j := 2) (x := .int .i64 s.2.1) rfl ?_
            (repeat refine Stp.h ?_)
            refine joinX_of (fun J => ∀ W' n, -1 ≤ n → n < 2 ^ 63 → St [] w W' (jl p d ⟨2, want, (framesL want).length, false, false⟩ :: dsk d { k with left := n } :: blk b2 (.cells [.int .i64 s.1.1, y].toArray 62 (0, 0)) :: drs t6 want :: rdsp bs v ss) → J W') (fun W' n hn1 hn2 S' => ?_) (fun J hJ => ?_)
            · clear S
              have S := S'
              clear S'
              (repeat refine Stp.h ?_)
              haveI hI : InI (vw y) s.1.2 (blk b2 (.cells [.int .i64 s.1.1, y].toArray 62 (0, 0)) :: drs t6 want :: rdsp bs v ss) := rdsp_vw [_, _] hm
              have hpl := putI_len s.1.1 hok
              have hfr := frameL_len s.1
              have htl : (textL s.1).length = (putI s.1.1).length + s.1.2.length := by simp [textL]
              have hrok : Rc.ok s.1 := ⟨hok, by omega⟩
              have hwok : ∀ q, q ∈ want → Rc.ok q := fun q hq => ⟨(hsm q hq).2, by have := (hsm q hq).1; omega⟩
              have hadd := add_armed (k := { k with left := n }) (g := ⟨2, want, (framesL want).length, false, false⟩) (r := s.1) hkf.down (by show 2 < 4; omega) (by omega) rfl rfl (by show (k.l 2).length + _ ≤ _; rw [hkl]; omega)
              refine f52 (r := s.1) (g := ⟨2, want, (framesL want).length, false, false⟩) (k := { k with left := n }) (d := d) (p := p) (x := y) hok (by dsimp only; omega) (by dsimp only; omega) S fun w5 S5 => ?_
              clear S
              generalize lgAdd (⟨2, want, (framesL want).length, false, false⟩ : Lg) { k with left := n } s.1 = A at hadd S5 ⊢
              refine f65 (k := A.2.2) (n := -1) (by omega) S5 fun w6 S6 => ?_
              clear S5
              rw [show (if (-1 : Int) > -1 then (-1 : Int) else -1) = -1 from rfl] at S6
              generalize hK2 : ({ A.2.2 with left := -1 } : Dk) = k2 at S6
              rcases hadd with ⟨e1, e2, e3, e4, e5⟩ | ⟨e1, e2, e4, e5⟩
              · rw [e1]
                (repeat refine Stp.h ?_)
                refine brX_dt (by first | omega | simp | decide) ?_
                (repeat refine Stp.h ?_)
                haveI hI : InI (vw y) s.1.2 (dsk d k2 :: jl p d A.2.1 :: blk b2 (.cells [.int .i64 s.1.1, y].toArray 62 (0, 0)) :: drs t6 want :: rdsp bs v ss) := rdsp_vw [_, _, _, _] hm
                show callX _ 39 [.agg (rcC s.1.1 y).toArray] _ _
                refine f39 (l := s.1.2) S6 fun w7 S7 => ?_
                clear S6 hI
                rw [e2] at S7
                refine drs_push (r := s.1) (rs := want) rfl (by omega) (S7.sub (l := drs t6 want :: jl p d ⟨2, want ++ [s.1], (framesL want).length + (frameL s.1).length, false, false⟩ :: dsk d k2 :: rdsp bs v ss) inferInstance) fun w8 t8 S8 => ?_
                have hfw : framesL (want ++ [s.1]) = framesL want ++ frameL s.1 := by rw [framesL_app]; simp [framesL]
                have hl2 : k2.l 2 = framesL (want ++ [s.1]) := by rw [← hK2, hfw]; show A.2.2.l 2 = _; rw [e4, upd_same, ← hkl]
                refine hJ t8 p _ (want ++ [s.1]) k2 (by simp; omega) ?_ ⟨by rw [← hK2], by rw [← hK2]; exact e3⟩ hl2 ?_ ?_
                · intro q hq
                  rcases List.mem_append.1 hq with hq | hq
                  · exact hsm q hq
                  · obtain rfl : q = s.1 := by simpa using hq
                    exact ⟨hr3, hok⟩
                · rw [← hK2]
                  show A.2.2.s 2 = _
                  rw [e5, upd_same]
                  show (k.l 2 ++ _).length = _
                  rw [hkl, hfw]
                · rw [hfw, List.length_append]
                  exact S8.sub inferInstance
              · rw [e1]
                (repeat refine Stp.h ?_)
                refine brX_df (by first | omega | simp | decide) ?_
                rw [e2] at S6
                have hl2 : k2.l 2 = framesL want ++ frameL s.1 := by rw [← hK2]; show A.2.2.l 2 = _; rw [e4, upd_same, ← hkl]
                have hs2 : k2.s 2 = (framesL want).length := by rw [← hK2]; show A.2.2.s 2 = _; rw [e5]; exact hks
                clear e4 e5 hK2
                refine joinX_of (fun J => ∀ W', St [] w W' (dsk d k2 :: blk b2 (.cells [.int .i64 s.1.1, y].toArray 62 (0, 0)) :: drs t6 want :: rdsp bs v ss) → J (.bool false) W') (fun W' S' => ?_) (fun J hJ2 => ?_)
                · clear S6
                  have S := S'
                  clear S'
                  (repeat refine Stp.h ?_)
                  refine fld2 (hvr [_, _, _] _ S.hs) hc (j := 3) (x := .int .i64 s.2.2) rfl ?_
                  (repeat refine Stp.h ?_)
                  show callX _ 66 [_, .agg #[.int .i64 0, .int .i64 0, .int .i64 s.2.2, .int .i64 0]] _ _
                  refine f66 S fun w7 S7 => ?_
                  clear S
                  obtain ⟨hfl3, hfs3⟩ := fall_l k2 (four4 0 0 s.2.2 0) (n := 2) (by omega)
                  generalize hk3 : k2.fall (four4 0 0 s.2.2 0) = k3 at S7 hfl3 hfs3
                  have hk3f : k3.free := by rw [← hk3]; exact ⟨rfl, rfl⟩
                  obtain ⟨z, hz, hl3⟩ : ∃ z, z ≤ (frameL s.1).length ∧ k3.l 2 = framesL want ++ (frameL s.1).take z := by
                    have hcl := clip_le (k := k2) (q := four4 0 0 s.2.2 0) (i := 2) (by rw [hs2, hl2]; simp)
                    have hcs : k2.s 2 ≤ clip k2 (four4 0 0 s.2.2 0) 2 := by unfold clip; omega
                    rw [hl2, List.length_append] at hcl
                    rw [hs2] at hcs
                    refine ⟨clip k2 (four4 0 0 s.2.2 0) 2 - (framesL want).length, by omega, ?_⟩
                    rw [hfl3, hl2, List.take_append, List.take_of_length_le hcs]
                  have hs3 : k3.s 2 = (k3.l 2).length := by rw [hfs3, ← hfl3]
                  have hll3 : (k3.l 2).length ≤ 20000 := by rw [hl3]; simp; omega
                  clear hfl3 hfs3 hk3
                  (repeat refine Stp.h ?_)
                  refine f58 S7 (fun hm => absurd (may_free hk3f (n := 2) (by omega)) hm) (fun n hn _ _ _ _ w8 v8 S8 => ?_)
                  obtain rfl : n = 2 := by omega
                  clear S7
                  (repeat refine Stp.h ?_)
                  refine f51 S8 (fun hm => absurd (may_free hk3f (n := 2) (by omega)) hm) (fun n hn _ _ _ _ w9 p2 S9 => ?_)
                  obtain rfl : n = 2 := by omega
                  clear S8
                  have S := S9
                  clear S9
                  (repeat refine Stp.h ?_)
                  refine brX_df (by first | omega | simp | decide) ?_
                  (repeat refine Stp.h ?_)
                  refine f41 (l := k3.l 2) (by omega) S fun w10 od S10 => ?_
                  clear S
                  have S := S10
                  clear S10
                  have hpf := parse_fall hwok hrok hz
                  rw [← hl3] at hpf
                  have hpn := parseL_len (k3.l 2).length (k3.l 2) (Nat.le_refl _)
                  generalize hP : parseL (k3.l 2) = P at S hpf hpn ⊢
                  have hlg : lgOpen 2 (k3.l 2) = ⟨2, P.1, P.2, decide (P.2 < (k3.l 2).length), false⟩ := by unfold lgOpen; rw [hP]
                  rw [hlg] at S
                  (repeat refine Stp.h ?_)
                  refine joinX_of (fun J => ∀ W', St [] w W' (drs od P.1 :: jl p2 d ⟨2, P.1, P.2, decide (P.2 < (k3.l 2).length), false⟩ :: dsk d k3 :: vw v8 (k3.l 2) :: blk b2 (.cells [.int .i64 s.1.1, y].toArray 62 (0, 0)) :: drs t6 want :: rdsp bs v ss) → J (.bool false) W') (fun W' S' => ?_) (fun J hJ3 => ?_)
                  · clear S
                    have S := S'
                    clear S'
                    (repeat refine Stp.h ?_)
                    refine f56p (p := p2) (d := d) S ?_
                    dsimp only
                    by_cases htn : P.2 < (k3.l 2).length
                    · have ht : decide (P.2 < (k3.l 2).length) = true := decide_eq_true htn
                      rw [ht] at S ⊢
                      (repeat refine Stp.h ?_)
                      refine joinX_of (fun J => ∀ W', St [] w W' (jl p2 d ⟨2, [], 0, false, false⟩ :: dsk d (k3.clear 2) :: rdsp bs v ss) → J (.bool false) W') (fun W' S' => ?_) (fun J hJ4 => ?_)
                      · (repeat refine Stp.h ?_)
                        refine hJ (.slice none 0 0) p2 W' [] (k3.clear 2) (by simp) (by simp) (clear_free hk3f 2) (clear_l k3 2) (by simp [Dk.clear, upd_same, framesL]) ?_
                        exact (orow_nil (t := 68) (s := 2) S').perm ((List.Perm.swap _ _ _).trans ((List.Perm.swap _ _ _).cons _))
                      · have hclr := lgClear_free (k := k3) (g := ⟨2, P.1, P.2, true, false⟩) hk3f (by show 2 < 4; omega) (by dsimp only; omega)
                        (repeat refine Stp.h ?_)
                        haveI hI : InI (vw y) s.1.2 (drs od P.1 :: vw v8 (k3.l 2) :: blk b2 (.cells [.int .i64 s.1.1, y].toArray 62 (0, 0)) :: drs t6 want :: rdsp bs v ss) := rdsp_vw [_, _, _, _] hm
                        show callX _ 52 [_, .agg (rcC s.1.1 y).toArray] _ _
                        refine f52 (r := s.1) (g := ⟨2, P.1, P.2, true, false⟩) (k := k3) (d := d) (p := p2) (x := y) (R := drs od P.1 :: vw v8 (k3.l 2) :: blk b2 (.cells [.int .i64 s.1.1, y].toArray 62 (0, 0)) :: drs t6 want :: rdsp bs v ss) hok (by dsimp only; omega) (by dsimp only; omega) (S.sub inferInstance) fun w11 S11 => ?_
                        rw [add_bad (.inl rfl)] at S11 ⊢
                        clear S
                        dsimp only at S11 ⊢
                        (repeat refine Stp.h ?_)
                        refine brX_df (by first | omega | simp | decide) ?_
                        refine f55 (p := p2) (d := d) (g := ⟨2, P.1, P.2, true, false⟩) (k := k3) S11 fun w12 S12 => ?_
                        clear S11 hI
                        rw [hclr] at S12 ⊢
                        dsimp only at S12 ⊢
                        (repeat refine Stp.h ?_)
                        refine brX_df (by first | omega | simp | decide) ?_
                        refine f56p (p := p2) (d := d) S12 ?_
                        (repeat refine Stp.h ?_)
                        refine f54p (p := p2) (d := d) S12 ?_
                        (repeat refine Stp.h ?_)
                        rw [decide_eq_false (by simp)]
                        exact hJ4 _ (S12.sub inferInstance)
                    · have ht : decide (P.2 < (k3.l 2).length) = false := decide_eq_false htn
                      rw [ht] at S ⊢
                      (repeat refine Stp.h ?_)
                      have hfin : k3.l 2 = framesL P.1 ∧ P.2 = (framesL P.1).length ∧ P.1.length ≤ i + 1 ∧ ∀ r, r ∈ P.1 → r.2.length < 301 ∧ -9223372036854775808 ≤ r.1 ∧ r.1 < 9223372036854775808 := by
                        rcases hpf with ⟨h1, h2, h3⟩ | ⟨h1, h3⟩
                        · rw [h3]
                          refine ⟨h2, rfl, by simp; omega, fun q hq => ?_⟩
                          rcases List.mem_append.1 hq with hq | hq
                          · exact hsm q hq
                          · obtain rfl : q = s.1 := by simpa using hq
                            exact ⟨hr3, hok⟩
                        · have hle : (k3.l 2).length = (framesL want).length + z := by rw [hl3]; simp; omega
                          rw [h3] at htn ⊢
                          have hz0 : z = 0 := by dsimp only at htn; omega
                          refine ⟨?_, rfl, by dsimp only; omega, hsm⟩
                          rw [hl3, hz0]
                          simp
                      obtain ⟨g1, g2, g3, g4⟩ := hfin
                      rw [g2] at S
                      exact hJ od p2 _ P.1 k3 g3 g4 hk3f g1 (by rw [hs3, g1]) (S.sub inferInstance)
                  · have tail : ∀ W', St [] w W' (drs od P.1 :: jl p2 d ⟨2, P.1, P.2, decide (P.2 < (k3.l 2).length), false⟩ :: dsk d k3 :: vw v8 (k3.l 2) :: blk b2 (.cells [.int .i64 s.1.1, y].toArray 62 (0, 0)) :: drs t6 want :: rdsp bs v ss) →
                        lenSX v8 fun t75 => ltX (Value.int .i64 (P.2 : Nat)) t75 fun t76 => callX Tryd.prog 56 [.pointer (some ⟨p2, 0, none⟩)] W' fun t77 w29 => neX EqK.bool t77 t76 fun t78 => brX t78 (J (Value.bool true) w29) (callX Tryd.prog 54 [.pointer (some ⟨p2, 0, none⟩)] w29 fun t79 w30 => neX EqK.num t79 (Value.int .i64 (P.2 : Nat)) fun t80 => J t80 w30) := by
                      intro W' S
                      refine (S.hs.vw (v := v8) (l := k3.l 2) inferInstance).len ?_
                      (repeat refine Stp.h ?_)
                      refine f56p (p := p2) (d := d) S ?_
                      (repeat refine Stp.h ?_)
                      refine brX_bf (by simp) ?_
                      refine f54p (p := p2) (d := d) S ?_
                      (repeat refine Stp.h ?_)
                      rw [decide_eq_false (by simp)]
                      exact hJ3 _ S
                    (refine S.drew ?_; clear S; intro w11 S)
                    refine ⟨Has _, S.hs, ?_⟩
                    have hr48 := drs_rd S.hs (v := od) inferInstance
                    have hr6 := drs_rd S.hs (v := t6) inferInstance
                    refine hr48.len (hr6.len ?_)
                    simp only [List.length_map]
                    (repeat refine Stp.h ?_)
                    rcases hpf with ⟨h1, h2, h3⟩ | ⟨h1, h3⟩
                    · rw [h3] at S tail hr48 ⊢
                      dsimp only at S tail hr48 ⊢
                      rw [decide_eq_true (by simp; omega)]
                      (repeat refine Stp.h ?_)
                      refine hr48.len (hr6.len ?_)
                      simp only [List.length_map, List.length_append, List.length_cons, List.length_nil]
                      (repeat refine Stp.h ?_)
                      rw [wi64 (n := ((want.length : Nat) : Int) + 1) (by omega)]
                      (repeat refine Stp.h ?_)
                      refine brX_df (by first | omega | simp | decide) ?_
                      refine hr6.len ?_
                      rw [List.length_map]
                      obtain ⟨a1, he1, hi1, hc1⟩ := rdr_at (S := Has _) (fun w h => drs_rd h (v := od) inferInstance) S.hs (i := want.length) (e := drC s.1.1 s.1.2) (by simp)
                      refine hi1 _ ?_
                      refine ⟨_, he1, hc1, ?_⟩
                      (repeat refine Stp.h ?_)
                      haveI hI : InI (vw y) s.1.2 (drs od (want ++ [s.1]) :: jl p2 d ⟨2, want ++ [s.1], (framesL (want ++ [s.1])).length, decide ((framesL (want ++ [s.1])).length < (k3.l 2).length), false⟩ :: dsk d k3 :: vw v8 (k3.l 2) :: blk b2 (.cells [.int .i64 s.1.1, y].toArray 62 (0, 0)) :: drs t6 want :: rdsp bs v ss) := rdsp_vw [_, _, _, _, _, _] hm
                      show callX _ 39 [.agg (rcC s.1.1 y).toArray] _ _
                      refine f39 (l := s.1.2) S fun w12 S12 => ?_
                      refine ⟨S12.hs, ?_⟩
                      rw [drC_lit]
                      (repeat refine Stp.h ?_)
                      refine brX_bf (by simp) ?_
                      exact tail _ S12
                    · rw [h3] at S tail hr48 ⊢
                      dsimp only at S tail hr48 ⊢
                      rw [decide_eq_false (by simp)]
                      (repeat refine Stp.h ?_)
                      exact tail _ S
                · (repeat refine Stp.h ?_)
                  refine brX_df (by first | omega | simp | decide) ?_
                  (repeat refine Stp.h ?_)
                  haveI hI : InI (vw y) s.1.2 (blk b2 (.cells [.int .i64 s.1.1, y].toArray 62 (0, 0)) :: drs t6 want :: rdsp bs v ss) := rdsp_vw [_, _] hm
                  show callX _ 52 [_, .agg (rcC s.1.1 y).toArray] _ _
                  refine f52 (r := s.1) (g := ⟨2, want, (framesL want).length, false, true⟩) (k := k2) (d := d) (p := p) (x := y) hok (by dsimp only; omega) (by dsimp only; omega) (S6.perm (.swap _ _ _)) fun w7 S7 => ?_
                  rw [add_bad (.inr rfl)] at S7 ⊢
                  (repeat refine Stp.h ?_)
                  rw [decide_eq_false (by simp)]
                  exact hJ2 _ S7.drop
            · refine brX_d (fun hf => ?_) (fun hf => ?_)
              · refine fld2 (hvr [_, _, _, _] _ S.hs) hc (j := 2) (x := .int .i64 s.2.1) rfl ?_
                (repeat refine Stp.h ?_)
                have := and3_lt s.2.1
                refine f65 (by omega) S fun w5 S5 => ?_
                refine hJ w5 (if -1 > bitsV .i64 (fun p q => p &&& q) s.2.1 3 then -1 else bitsV .i64 (fun p q => p &&& q) s.2.1 3) ?_ ?_ (S5.sub inferInstance)
                · split <;> omega
                · split <;> omega
              · exact hJ w4 (-1) (by omega) (by omega) (by
                  have e : ({ k with left := -1 } : Dk) = k := by rw [← hkf.left]
                  rw [e]
                  exact S.sub inferInstance)
      · (repeat refine Stp.h ?_)
        refine f53 (p := p) (d := d) (g := ⟨2, want, (framesL want).length, false, false⟩) (gen := a1) (by dsimp only; omega) (fun r hr => by have := (hsm r hr).1; omega) S fun w4 t45 S4 => ?_
        clear S
        have S := S4
        clear S4
        have htn := txsN_len a1 want
        rw [show txs a1 (Lg.mk 2 want (framesL want).length false false).rs = txsN a1 want from txs_all (show (txsN a1 want).length < 1000 by omega)] at S
        (repeat refine Stp.h ?_)
        refine ⟨fun t97 t98 W => ∃ j : Nat, t98 = .int .i64 j ∧ j ≤ want.length ∧ t97 = .int .i64 ((txsN a1 (want.take j)).length : Nat) ∧ St [] w W (srow t45 (txsN a1 want) :: jl p d ⟨2, want, (framesL want).length, false, false⟩ :: dsk d k :: drs t6 want :: rdsp bs v ss),
          fun _ t W => match t with | .int _ j => want.length - j.toNat | _ => 0, ⟨0, rfl, by omega, by simp [txsN], S⟩, ?_⟩
        clear S
        rintro t97 t98 W ⟨j, rfl, hj, rfl, S⟩
        have r6 := drs_rd S.hs (v := t6) inferInstance
        have r45 := srow_rd S.hs (v := t45) inferInstance
        refine r6.len ?_
        rw [List.length_map]
        (repeat refine Stp.h ?_)
        refine brX_d (fun hlt => ?_) (fun hlt => ?_)
        · have hlt : j < want.length := by omega
          have hr := List.getElem?_eq_getElem hlt
          generalize want[j] = r at hr
          have hs := txsN_snoc (g := a1) hr
          refine joinX_of (fun J => ∀ W', St [] w W' (srow t45 (txsN a1 want) :: jl p d ⟨2, want, (framesL want).length, false, false⟩ :: dsk d k :: drs t6 want :: rdsp bs v ss) → J (.int .i64 ((txsN a1 (want.take (j + 1))).length : Nat)) W') (fun W' S' => ?_) (fun J hJ => ?_)
          · clear S
            have S := S'
            clear S'
            (repeat refine Stp.h ?_)
            rw [wi64 (n := ((j : Nat) : Int) + 1) (by omega)]
            exact ⟨⟨j + 1, by simp, by omega, rfl, S⟩, by show _ < _; simp; omega⟩
          · refine fld2 r6 (i := j) (e := drC r.1 r.2) (by simp [hr]) (j := 0) (x := .int .i64 r.1) rfl ?_
            (repeat refine Stp.h ?_)
            refine brX_d (fun hne => ?_) (fun hne => ?_)
            · rw [if_neg (by simpa using hne), List.append_nil] at hs
              rw [hs] at hJ
              exact hJ _ S
            · have he : r.1 = a1 := by simpa using hne
              rw [if_pos he] at hs
              have hw : txsN a1 want = (txsN a1 (want.take j) ++ [r.2]) ++ txsN a1 (want.drop (j + 1)) := by rw [← hs, ← txsN_app, List.take_append_drop]
              have hl2 := congrArg List.length hw
              have hl3 := congrArg List.length hs
              simp only [List.length_append, List.length_cons, List.length_nil] at hl2 hl3
              refine joinX_of (fun J => ∀ W', St [] w W' (srow t45 (txsN a1 want) :: jl p d ⟨2, want, (framesL want).length, false, false⟩ :: dsk d k :: drs t6 want :: rdsp bs v ss) → J (.bool false) W') (fun W' S' => ?_) (fun J hJ2 => ?_)
              · clear S
                have S := S'
                clear S'
                (repeat refine Stp.h ?_)
                rw [wi64 (n := (((txsN a1 (want.take j)).length : Nat) : Int) + 1) (by omega)]
                have := hJ _ S
                rw [hl3] at this
                simpa using this
              · (refine S.drew ?_; clear S; intro w5 S)
                refine ⟨Has _, S.hs, ?_⟩
                refine r45.len ?_
                rw [List.length_map]
                (repeat refine Stp.h ?_)
                refine brX_df (by first | omega | simp | decide) ?_
                obtain ⟨b1, he1, hi1, hb1⟩ := rdr_at (S := Has _) (fun w h => srow_rd h (v := t45) inferInstance) S.hs (i := (txsN a1 (want.take j)).length) (e := [str r.2]) (by rw [hw]; simp)
                obtain ⟨b2, he2, hi2, hb2⟩ := rdr_at (S := Has (srow t45 (txsN a1 want) :: jl p d ⟨2, want, (framesL want).length, false, false⟩ :: dsk d k :: drs t6 want :: rdsp bs v ss)) (fun w h => drs_rd h (v := t6) inferInstance) S.hs (i := j) (e := drC r.1 r.2) (by simp [hr])
                refine hi1 _ (hi2 _ (fldA ?_))
                refine ⟨str r.2, fun w hw => by simpa [Addr.add] using hb1 w hw 0 _ rfl, ?_⟩
                refine ⟨str r.2, fun w hw => hb2 w hw 1 _ rfl, ?_⟩
                (repeat refine Stp.h ?_)
                have := hJ2 _ S
                simpa using this
        · refine r45.len ?_
          have : j = want.length := by omega
          subst this
          rw [List.take_length, List.length_map]
          (repeat refine Stp.h ?_)
          refine brX_dt (by first | omega | simp | decide) ?_
          exact f42 S fun w5 S5 => hk0 _ S5.toExt
      · refine (hvr [_, _, _] W S.hs).len ?_
        rw [hlen]
        (repeat refine Stp.h ?_)
        refine brX_d (fun hlt => ?_) (fun hlt => ?_)
        · have hlt : i < ss.length := by omega
          (repeat refine Stp.h ?_)
          by_cases h30 : i < 30
          · rw [decide_eq_true (by omega)]
            exact hJ.1 _ (List.getElem?_eq_getElem hlt) h30
          · rw [decide_eq_false (by omega)]
            exact hJ.2
        · exact hJ.2
  · (repeat refine Stp.h ?_)
    refine brX_df (by first | omega | simp | decide) ?_
    (repeat refine Stp.h ?_)
    exact hJ
end
end Go.Proofs.YtgnmelnohclpgaaDoor
