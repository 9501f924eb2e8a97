/- JournalGens: the law's function answers true. -/
import Derived.Test.YtgnmelnohclpgaaDoorCpH
set_option linter.unusedVariables false
set_option linter.unusedSimpArgs false
namespace Go.Proofs.YtgnmelnohclpgaaDoor
open Go Go.RowKit

theorem txsN_len (g : Int) (rs : List Rc) : (txsN g rs).length ≤ rs.length := by
  unfold txsN
  rw [List.length_map]
  exact List.length_filter_le _ _

theorem framesL_small' : ∀ (rs : List Rc), (∀ r, r ∈ rs → r.2.length < 301 ∧ -9223372036854775808 ≤ r.1 ∧ r.1 < 9223372036854775808) → (framesL rs).length ≤ 320 * rs.length
  | [], _ => by simp [framesL]
  | r :: rs, h => by
    have ih := framesL_small' rs fun q hq => h q (by simp [hq])
    have hr := h r (by simp)
    have hp := putI_len r.1 hr.2
    have := frameL_len r
    simp only [framesL, List.length_append, List.length_cons, textL] at *
    omega

section
variable {M : List Nat} {w0 w : World} {L L1 R : List Item} {v u x tl : Value} {l m t : List UInt8} {K : Cont} {b d p c : Nat} {k : Dk} {g : Lg} {rs : List Rc} {ss : List (List UInt8)}

theorem f54p {c : Lg} [hp : Pk (jl p d) c L R] (S : St M w0 w L) (hk : K (.int .i64 (c.n : Nat)) w) : callX Tryd.prog 54 [.pointer (some ⟨p, 0, none⟩)] w K := by
  refine c54 _ _ _ ?_
  unfold s54
  obtain ⟨v, S1⟩ := S.jlOpen (hp := hp)
  (repeat refine Stp.h ?_)
  exact hk
theorem f8 {a1 : Int} {bs : List Value} (hE : ErrW w) (ha1 : -9223372036854775808 ≤ a1 ∧ a1 < 9223372036854775808) (hb : bs.length = rs.length) (hv : RdR w 2 v (rcCells bs rs)) (hrs : ∀ r, r ∈ rs → -9223372036854775808 ≤ r.1 ∧ r.1 < 9223372036854775808)
    (S : St [] w w (rdrs bs v rs)) (hk0 : ∀ w', Ext w w' → K (.bool true) w') : callX Tryd.prog 8 [v, .int .i64 a1] w K := by
  haveI : Err [] w := ⟨hE, by simp⟩
  have hvr : ∀ (A : List Item) W, Has (A ++ rdrs bs v rs) W → RdR W 2 v (rcCells bs rs) := fun A W h => h.vrow (rdrs_in A)
  have hlen : (rcCells bs rs).length = rs.length := rcCells_len bs rs hb
  refine c8 _ _ _ _ ?_
  unfold s8
  refine f50 S fun w1 d S1 => ?_
  refine f51 S1 (fun hm => absurd (may_free dk0_free (n := 1) (by omega)) hm) (fun n hn h4 hd hm hl w2 p S2 => ?_)
  obtain rfl : n = 1 := by omega
  clear S1 S
  have S := S2
  clear S2
  have hp0 : lgOpen 1 (dk0.l 1) = ⟨1, [], 0, false, false⟩ := by
    show lgOpen 1 [] = _
    unfold lgOpen
    rw [parseL_nil]
    rfl
  rw [hp0] at S
  (repeat refine Stp.h ?_)
  refine joinX_of (fun J => J (.bool false) w2) ?_ (fun J hJ => ?_)
  · (repeat refine Stp.h ?_)
    refine ⟨fun t6 t7 t8 W => ∃ (i : Nat) (k : Dk), t8 = .int .i64 i ∧ i ≤ rs.length ∧ i ≤ 30 ∧ (∀ r, r ∈ rs.take i → r.2.length ≤ 300) ∧ t7 = .int .i64 ((framesL (rs.take i)).length : Nat) ∧ k.free ∧ k.l 1 = framesL (rs.take i) ∧
        St [] w W (jl p d ⟨1, rs.take i, (framesL (rs.take i)).length, false, false⟩ :: dsk d k :: srow t6 (txsN a1 (rs.take i)) :: rdrs bs v rs),
      fun _ _ t W => match t with | .int _ i => rs.length - i.toNat | _ => 0, ⟨0, dk0, rfl, by omega, by omega, by simp, rfl, dk0_free, rfl, ?_⟩, ?_⟩
    · exact (orow_nil (t := 9) (s := 1) S).perm ((List.Perm.swap _ _ _).trans ((List.Perm.swap _ _ _).cons _))
    · clear S
      rintro t6 t7 t8 W ⟨i, k, rfl, hi, hi30, hsm, rfl, hkf, hkl, S⟩
      have hsm' : ∀ r, r ∈ rs.take i → r.2.length < 301 ∧ -9223372036854775808 ≤ r.1 ∧ r.1 < 9223372036854775808 := fun r hr => ⟨by have := hsm r hr; omega, hrs r (List.mem_of_mem_take hr)⟩
      have hfl : (framesL (rs.take i)).length ≤ 10000 := by
        have := framesL_small' _ hsm'
        simp only [List.length_take] at this
        omega
      refine joinX_of (fun J => (∀ r, rs[i]? = some r → i < 30 → J (.bool true) W) ∧ J (.bool false) W) ⟨fun r hr hi2 => ?_, ?_⟩ (fun J hJ => ?_)
      · have hok := hrs r (List.mem_of_getElem? hr)
        obtain ⟨y, hm, hc⟩ := vws_mem hb hr
        have hlt := (List.getElem?_eq_some_iff.1 hr).1
        (repeat refine Stp.h ?_)
        refine joinX_of (fun J => ∀ t10 t11 W', t11 = .int .i64 ((framesL (rs.take (i + 1))).length : Nat) → r.2.length ≤ 300 → ∀ k' : Dk, k'.free → k'.l 1 = framesL (rs.take (i + 1)) →
          St [] w W' (jl p d ⟨1, rs.take (i + 1), (framesL (rs.take (i + 1))).length, false, false⟩ :: dsk d k' :: srow t10 (txsN a1 (rs.take (i + 1))) :: rdrs bs v rs) → J t10 t11 W') (fun t10 t11 W' ht hr3 k' hk'f hk'l S' => ?_) (fun J hJ => ?_)
        · clear S
          (repeat refine Stp.h ?_)
          rw [wi64 (n := ((i : Nat) : Int) + 1) (by omega)]
          exact ⟨⟨i + 1, k', by simp, by omega, by omega, take_small hsm hr hr3, ht, hk'f, hk'l, S'⟩, by show _ < _; simp; omega⟩
        · refine joinX_of (fun J => (300 < r.2.length → J (.bool true) W) ∧ (∀ W' k', r.2.length ≤ 300 → k'.free → k'.l 1 = framesL (rs.take (i + 1)) →
            St [] w W' (jl p d ⟨1, rs.take (i + 1), (framesL (rs.take (i + 1))).length, false, false⟩ :: dsk d k' :: srow t6 (txsN a1 (rs.take i)) :: rdrs bs v rs) → J (.bool false) W')) ⟨fun hbig => ?_, fun W' k' hr3 hk'f hk'l S' => ?_⟩ (fun J hJ => ?_)
          · (repeat refine Stp.h ?_)
            refine RdR.fld (hvr [_, _, _] W S.hs) hc (j := 1) (x := y) rfl ?_
            refine (S.hs.vw (rdrs_vw [_, _, _] hm)).len ?_
            (repeat refine Stp.h ?_)
            rw [decide_eq_true (by omega)]
            exact hk0 _ S.toExt
          · clear S
            have S := S'
            clear S'
            (repeat refine Stp.h ?_)
            refine (hvr [_, _, _] _ S.hs).atN hc ?_
            haveI hI : InI (vw y) r.2 (jl p d ⟨1, rs.take (i + 1), (framesL (rs.take (i + 1))).length, false, false⟩ :: dsk d k' :: srow t6 (txsN a1 (rs.take i)) :: rdrs bs v rs) := rdrs_vw [_, _, _] hm
            refine f37 (g := r.1) (l := r.2) hok S (fun hb _ _ => by omega) (fun _ w4 v4 S4 => ?_)
            clear S hI
            have S := S4
            clear S4
            have hsn := framesL_snoc hr
            have hfr := frameL_len r
            have hpl := putI_len r.1 hok
            have htl : (textL r).length = (putI r.1).length + r.2.length := by simp [textL]
            have htx := txsN_snoc (g := a1) hr
            (repeat refine Stp.h ?_)
            refine (S.hs.byt (v := v4) (l := frameL r) inferInstance).len ?_
            (repeat refine Stp.h ?_)
            rw [wi64 (n := ((framesL (rs.take i)).length : Nat) + ((frameL r).length : Nat)) (by omega)]
            have ht : Value.int .i64 (((framesL (rs.take i)).length : Nat) + ((frameL r).length : Nat) : Int) = .int .i64 ((framesL (rs.take (i + 1))).length : Nat) := by rw [hsn, List.length_append]; simp
            refine RdR.fld (hvr [_, _, _, _] _ S.hs) hc (j := 0) (x := .int .i64 r.1) rfl ?_
            (repeat refine Stp.h ?_)
            refine brX_d (fun he => ?_) (fun he => ?_)
            · rw [if_pos he] at htx
              refine RdR.fld (hvr [_, _, _, _] _ S.hs) hc (j := 1) (x := y) rfl ?_
              haveI hI : InI (vw y) r.2 (byt v4 (frameL (r.1, r.2)) :: jl p d ⟨1, rs.take (i + 1), (framesL (rs.take (i + 1))).length, false, false⟩ :: dsk d k' :: srow t6 (txsN a1 (rs.take i)) :: rdrs bs v rs) := rdrs_vw [_, _, _, _] hm
              (repeat refine Stp.h ?_)
              have htn := txsN_len a1 (rs.take i)
              simp only [List.length_take] at htn
              refine srow_push (ss := txsN a1 (rs.take i)) (t := r.2) (by omega) (S.sub (l := srow t6 (txsN a1 (rs.take i)) :: jl p d ⟨1, rs.take (i + 1), (framesL (rs.take (i + 1))).length, false, false⟩ :: dsk d k' :: rdrs bs v rs) inferInstance) fun w5 t35 S5 => ?_
              rw [← htx] at S5
              exact hJ t35 _ _ ht hr3 k' hk'f hk'l (S5.sub inferInstance)
            · rw [if_neg he, List.append_nil] at htx
              rw [← htx] at S
              exact hJ t6 _ _ ht hr3 k' hk'f hk'l S.drop
          · refine RdR.fld (hvr [_, _, _] W S.hs) hc (j := 1) (x := y) rfl ?_
            refine (S.hs.vw (rdrs_vw [_, _, _] hm)).len ?_
            (repeat refine Stp.h ?_)
            refine brX_d (fun hbig => ?_) (fun hbig => ?_)
            · exact hJ.1 (by omega)
            · have hr3 : r.2.length ≤ 300 := by omega
              refine (hvr [_, _, _] W S.hs).atN hc ?_
              haveI hI : InI (vw y) r.2 (srow t6 (txsN a1 (rs.take i)) :: rdrs bs v rs) := rdrs_vw [_] hm
              have hsn := framesL_snoc hr
              have hfr := frameL_len r
              have hpl := putI_len r.1 hok
              have htl : (textL r).length = (putI r.1).length + r.2.length := by simp [textL]
              have hadd := lgAdd_free (k := k) (g := ⟨1, rs.take i, (framesL (rs.take i)).length, false, false⟩) (r := r) hkf (by show 1 < 4; omega) (by omega) rfl rfl (by show (k.l 1).length + _ ≤ _; rw [hkl]; omega)
              refine f52 (r := r) (g := ⟨1, rs.take i, (framesL (rs.take i)).length, false, false⟩) (k := k) (d := d) (p := p) hok (by show _ ≤ 2 ^ 40; dsimp only; omega) (by dsimp only; simp only [List.length_take]; omega) S fun w4 S4 => ?_
              rw [hadd] at S4 ⊢
              (repeat refine Stp.h ?_)
              refine hJ.2 w4 ((k.lay 1 (frameL r)).keep 1) hr3 (keep_free (lay_free hkf _ _) _) (by rw [lay_l, hkl, hsn]) ?_
              dsimp only at S4
              have e1 : rs.take (i + 1) = rs.take i ++ [r] := by rw [List.take_add_one, hr]; rfl
              rw [hsn, List.length_append, e1]
              exact S4
      · (repeat refine Stp.h ?_)
        have hrl : (rs.take i).length ≤ 30 := by simp; omega
        have htn := txsN_len a1 (rs.take i)
        refine f53 (p := p) (d := d) (g := ⟨1, rs.take i, (framesL (rs.take i)).length, false, false⟩) (gen := a1) (by dsimp only; omega) (fun r hr => by have := (hsm' r hr).1; omega) S fun w4 t45 S4 => ?_
        clear S
        have S := S4
        clear S4
        rw [show txs a1 (Lg.mk 1 (rs.take i) (framesL (rs.take i)).length false false).rs = txsN a1 (rs.take i) from txs_all (show (txsN a1 (rs.take i)).length < 1000 by omega)] at S
        generalize hss : txsN a1 (rs.take i) = ss at S htn
        have r45 := srow_rd S.hs (v := t45) inferInstance
        have r6 := srow_rd S.hs (v := t6) inferInstance
        refine joinX_of (fun J => J (.bool false) w4) ?_ (fun J hJ => ?_)
        · clear r45 r6
          (repeat refine Stp.h ?_)
          refine ⟨fun t W => ∃ j : Nat, t = .int .i64 j ∧ j ≤ ss.length ∧ St [] w W (srow t45 ss :: jl p d ⟨1, rs.take i, (framesL (rs.take i)).length, false, false⟩ :: dsk d k :: srow t6 ss :: rdrs bs v rs),
            fun t W => match t with | .int _ j => ss.length - j.toNat | _ => 0, ⟨0, rfl, by omega, S⟩, ?_⟩
          clear S
          rintro t W ⟨j, rfl, hj, S⟩
          have r45 := srow_rd S.hs (v := t45) inferInstance
          refine r45.len ?_
          rw [List.length_map]
          (repeat refine Stp.h ?_)
          refine brX_d (fun hlt => ?_) (fun hlt => ?_)
          · have hlt : j < ss.length := by omega
            (refine S.drew ?_; clear S; intro w5 S)
            refine ⟨Has _, S.hs, ?_⟩
            have hsj := List.getElem?_eq_getElem hlt
            generalize ss[j] = q at hsj
            obtain ⟨b1, he1, hi1, hb1⟩ := rdr_at (S := Has _) (fun w h => srow_rd h (v := t45) inferInstance) S.hs (i := j) (e := [str q]) (by simp [hsj])
            obtain ⟨b2, he2, hi2, hb2⟩ := rdr_at (S := Has (srow t45 ss :: jl p d ⟨1, rs.take i, (framesL (rs.take i)).length, false, false⟩ :: dsk d k :: srow t6 ss :: rdrs bs v rs)) (fun w h => srow_rd h (v := t6) inferInstance) S.hs (i := j) (e := [str q]) (by simp [hsj])
            refine hi1 _ (hi2 _ ?_)
            refine ⟨str q, fun w hw => by simpa [Addr.add] using hb1 w hw 0 _ rfl, ?_⟩
            refine ⟨str q, fun w hw => by simpa [Addr.add] using hb2 w hw 0 _ rfl, ?_⟩
            (repeat refine Stp.h ?_)
            refine brX_bf (by simp) ?_
            (repeat refine Stp.h ?_)
            rw [wi64 (n := ((j : Nat) : Int) + 1) (by omega)]
            exact ⟨⟨j + 1, by simp, by omega, S⟩, by show _ < _; simp; omega⟩
          · refine joinX_of (fun J => ∀ W' k', k'.free → k'.l 1 = frameL (a1, []) → St [] w W' (dsk d k' :: []) → J (.bool false) W') (fun W' k' hk'f hk'l S' => ?_) (fun J hJ => ?_)
            · clear S r45
              (repeat refine Stp.h ?_)
              refine f51 S' (fun hm => absurd (may_free hk'f (n := 1) (by omega)) hm) (fun n hn h4 hd hm hl w2 p2 S2 => ?_)
              obtain rfl : n = 1 := by omega
              have hp1 : lgOpen 1 (k'.l 1) = ⟨1, [(a1, [])], (frameL (a1, [])).length, false, false⟩ := by
                rw [hk'l]
                unfold lgOpen
                have := parseL_frame (r := (a1, [])) ⟨ha1, by simp⟩ []
                rw [List.append_nil, parseL_nil] at this
                rw [this]
                simp
              rw [hp1] at S2
              clear S'
              have S := S2
              clear S2
              (repeat refine Stp.h ?_)
              refine brX_dt (by first | omega | simp | decide) ?_
              refine f53 (p := p2) (d := d) (g := ⟨1, [(a1, [])], (frameL (a1, [])).length, false, false⟩) (gen := a1) (by simp) (by simp) S fun w5 ov S5 => ?_
              clear S
              have S := S5
              clear S5
              have e1 : txs a1 (Lg.mk 1 [(a1, [])] (frameL (a1, [])).length false false).rs = [[]] := by simp [txs, txsN]
              rw [e1] at S
              refine (srow_rd S.hs (v := ov) inferInstance).len ?_
              (repeat refine Stp.h ?_)
              refine brX_dt (by first | omega | simp | decide) ?_
              exact f42 S fun w6 S6 => hk0 _ S6.toExt
            · have hclr := lgClear_free (k := k) (g := ⟨1, rs.take i, (framesL (rs.take i)).length, false, false⟩) hkf (by show 1 < 4; omega) (by show (k.l 1).length ≤ _; rw [hkl]; omega)
              refine f55 (p := p) (d := d) (g := ⟨1, rs.take i, (framesL (rs.take i)).length, false, false⟩) (k := k) (R := []) (S.sub inferInstance) fun w6 S6 => ?_
              rw [hclr] at S6 ⊢
              clear S
              have S := S6
              clear S6
              dsimp only at S ⊢
              (repeat refine Stp.h ?_)
              refine brX_df (by first | omega | simp | decide) ?_
              refine f54p (p := p) (d := d) S ?_
              (repeat refine Stp.h ?_)
              refine brX_df (by first | omega | simp | decide) ?_
              refine f53 (p := p) (d := d) (gen := a1) (by simp) (by simp) S fun w7 ov S7 => ?_
              clear S
              have S := S7
              clear S7
              have e1 : txs a1 (Lg.mk 1 [] 0 false false).rs = [] := by simp [txs, txsN]
              rw [e1] at S
              refine (srow_rd S.hs (v := ov) inferInstance).len ?_
              (repeat refine Stp.h ?_)
              refine brX_df (by first | omega | simp | decide) ?_
              (repeat refine Stp.h ?_)
              have hadd := lgAdd_free (k := k.clear 1) (g := ⟨1, [], 0, false, false⟩) (r := (a1, [])) (clear_free hkf 1) (by show 1 < 4; omega) (by simp) rfl rfl (by
                show ((k.clear 1).l 1).length + _ ≤ _
                rw [clear_l, frameL_len]
                have := putI_len a1 ha1
                simp [textL]
                omega)
              show callX _ 52 [_, .agg (rcC a1 (.slice none 0 0)).toArray] _ _
              refine f52 (r := (a1, [])) (g := ⟨1, [], 0, false, false⟩) (k := k.clear 1) (d := d) (p := p) (R := [vw (.slice none 0 0) []]) ha1 (by simp) (by simp) ((vw_nil S).sub inferInstance) fun w8 S8 => ?_
              rw [hadd] at S8 ⊢
              (repeat refine Stp.h ?_)
              rw [decide_eq_false (by simp)]
              refine hJ w8 (((k.clear 1).lay 1 (frameL (a1, []))).keep 1) (keep_free (lay_free (clear_free hkf 1) _ _) _) (by rw [lay_l, clear_l]; rfl) (S8.sub inferInstance)
        · refine r45.len (r6.len ?_)
          (repeat refine Stp.h ?_)
          refine brX_df (by first | omega | simp | decide) ?_
          refine f54p (p := p) (d := d) S ?_
          (repeat refine Stp.h ?_)
          rw [decide_eq_false (by simp)]
          exact hJ
      · refine (hvr [_, _, _] W S.hs).len ?_
        rw [hlen]
        (repeat refine Stp.h ?_)
        refine brX_d (fun hlt => ?_) (fun hlt => ?_)
        · have hlt : i < rs.length := by omega
          (repeat refine Stp.h ?_)
          by_cases h30 : i < 30
          · rw [decide_eq_true (by omega)]
            exact hJ.1 _ (List.getElem?_eq_getElem hlt) h30
          · rw [decide_eq_false (by omega)]
            exact hJ.2
        · exact hJ.2
  · (repeat refine Stp.h ?_)
    refine brX_df (by first | omega | simp | decide) ?_
    (repeat refine Stp.h ?_)
    exact hJ
end
end Go.Proofs.YtgnmelnohclpgaaDoor
