/- JournalNobody: the law's function answers true. -/
import Derived.Test.YtgnmelnohclpgaaDoorCpF
set_option linter.unusedVariables false
set_option linter.unusedSimpArgs false
namespace Go.Proofs.YtgnmelnohclpgaaDoor
open Go Go.RowKit

def zlog : Obj := .cells [.pointer none, .int .i64 0, .slice none 0 0, .int .i64 0, .bool false, .bool false].toArray 99 (0, 0)
def NoLog (t : Value) (L : List Item) : Prop := t = .pointer none ∨ ∃ p, t = .pointer (some ⟨p, 0, none⟩) ∧ blk p zlog ∈ L
section
variable {M : List Nat} {w0 w : World} {L L1 R : List Item} {v u x tl : Value} {l m t : List UInt8} {K : Cont} {b d p c : Nat} {k : Dk} {g : Lg} {rs : List Rc} {ss : List (List UInt8)}

theorem zlog_in (h : blk p zlog ∈ L) : InL p (.cells [.pointer none, .int .i64 0, .slice none 0 0, .int .i64 0, .bool false, .bool false].toArray 99 (0, 0)) L :=
  ⟨fun w hh => by obtain ⟨fp, _, hp⟩ := hh.get h; exact hp.2.2⟩
theorem NoLog.mono {I : Item} (h : NoLog tl L) : NoLog tl (I :: L) := by
  rcases h with h | ⟨p, h, hi⟩
  · exact .inl h
  · exact .inr ⟨p, h, List.mem_cons_of_mem _ hi⟩
theorem f111z (h : NoLog tl L) (S : St M w0 w L) (hk : K (.bool true) w) : callX Tryd.prog 111 [tl] w K := by
  rcases h with rfl | ⟨p, rfl, hi⟩
  · exact f111n hk
  · haveI := zlog_in hi
    refine c111 _ _ _ ?_
    unfold s111
    (repeat refine Stp.h ?_)
    exact hk
theorem f52z {a : Value} {cs : List Value} [hc : Cel a cs] (h : NoLog tl L) (S : St M w0 w L) (hk : ∀ w', St M w0 w' L → K (.int .i64 1) w') : callX Tryd.prog 52 [tl, a] w K := by
  refine c52 _ _ _ _ ?_
  unfold s52
  (refine StpA.h ?_; clear S; intro b1 w1 S)
  refine f111z h.mono S ?_
  (repeat refine Stp.h ?_)
  exact hk _ S.drop
theorem f55z (h : NoLog tl L) (S : St M w0 w L) (hk : ∀ w', St M w0 w' L → K (.int .i64 1) w') : callX Tryd.prog 55 [tl] w K := by
  refine c55 _ _ _ ?_
  unfold s55
  refine f111z h S ?_
  (repeat refine Stp.h ?_)
  exact hk _ S
theorem f54z (h : NoLog tl L) (S : St M w0 w L) (hk : K (.int .i64 0) w) : callX Tryd.prog 54 [tl] w K := by
  rcases h with rfl | ⟨p, rfl, hi⟩
  · exact f54n hk
  · haveI := zlog_in hi
    refine c54 _ _ _ ?_
    unfold s54
    (repeat refine Stp.h ?_)
    exact hk
theorem f56z (h : NoLog tl L) (S : St M w0 w L) (hk : K (.bool false) w) : callX Tryd.prog 56 [tl] w K := by
  rcases h with rfl | ⟨p, rfl, hi⟩
  · exact f56n hk
  · haveI := zlog_in hi
    refine c56 _ _ _ ?_
    unfold s56
    (repeat refine Stp.h ?_)
    exact hk
theorem f53z {gen : Int} (h : NoLog tl L) (S : St M w0 w L) (hk : ∀ w', St M w0 w' L → K (.slice none 0 0) w') : callX Tryd.prog 53 [tl, .int .i64 gen] w K := by
  rcases h with rfl | ⟨p, rfl, hi⟩
  · exact f53n S hk
  · haveI := zlog_in hi
    refine c53 _ _ _ _ ?_
    unfold s53
    (refine StpA.h ?_; clear S; intro c w1 S)
    refine c113 _ _ _ _ ?_
    unfold s113
    (refine StpA.h ?_; clear S; intro b1 w2 S)
    (refine StpA.h ?_; clear S; intro b2 w3 S)
    (repeat refine Stp.h ?_)
    refine ⟨by kernel_rfl, ?_⟩
    refine c166 _ _ _ _ _ ?_
    unfold s166
    (repeat refine Stp.h ?_)
    refine ⟨fun t W => t = .int .i64 0 ∧ St M w0 W (blk b2 (.cells [.int .i64 gen].toArray 2 (0, 0)) :: blk b1 (.cells [.pointer (some ⟨p, 0, none⟩)].toArray 90 (0, 0)) :: blk c (.cells [.slice none 0 0].toArray 93 (0, 0)) :: L), fun _ _ => 0, ⟨rfl, S⟩, ?_⟩
    clear S
    rintro _ W ⟨rfl, S⟩
    (repeat refine Stp.h ?_)
    refine brX_df (by first | omega | simp | decide) ?_
    (repeat refine Stp.h ?_)
    exact hk _ S.drop.drop.drop

theorem f9 {r : Rc} (hE : ErrW w) (hr : -9223372036854775808 ≤ r.1 ∧ r.1 < 9223372036854775808) (h1 : RdB w x r.2) (hk : ∀ w', Ext w w' → K (.bool true) w') : callX Tryd.prog 9 [.agg (rcC r.1 x).toArray] w K := by
  haveI : Err [] w := ⟨hE, by simp⟩
  have S : St [] w w [vw x r.2] := St.kn (I := vw x r.2) (St.begin w) ⟨rfl, rfl, h1⟩ (by simp)
  have hxo := h1.one
  refine c9 _ _ _ ?_
  unfold s9
  rw [rcC_lit]
  (refine StpA.h ?_; clear S; intro b1 w1 S)
  (repeat refine Stp.h ?_)
  refine h1.len ?_
  (repeat refine Stp.h ?_)
  refine brX_d (fun hbig => ?_) (fun hbig => ?_)
  · exact hk _ S.toExt
  · refine ⟨fun t W => ∃ i : Nat, t = .int .i64 i ∧ i ≤ 2 ∧ St [] w W (blk b1 (.cells [.int .i64 r.1, x].toArray 62 (0, 0)) :: [vw x r.2]), fun t W => match t with | .int _ i => 2 - i.toNat | _ => 0, ⟨0, rfl, by omega, S⟩, ?_⟩
    clear S
    rintro t W ⟨i, rfl, hi, S⟩
    (repeat refine Stp.h ?_)
    refine brX_d (fun hlt => ?_) (fun hlt => ?_)
    · (repeat refine Stp.h ?_)
      (refine StpA.h ?_; clear S; intro p w2 S)
      (repeat refine Stp.h ?_)
      refine joinX_of (fun J => ∀ t11, NoLog t11 (blk p zlog :: blk b1 (.cells [.int .i64 r.1, x].toArray 62 (0, 0)) :: [vw x r.2]) → J t11 w2) (fun t11 hz => ?_) (fun J hJ => ?_)
      · refine joinX_of (fun J => ∀ W', St [] w W' (blk p zlog :: blk b1 (.cells [.int .i64 r.1, x].toArray 62 (0, 0)) :: [vw x r.2]) → J (.bool false) W') (fun W' S' => ?_) (fun J hJ => ?_)
        · clear S
          (repeat refine Stp.h ?_)
          rw [wi64 (n := ((i : Nat) : Int) + 1) (by omega)]
          exact ⟨⟨i + 1, by simp, by omega, S'.drop⟩, by show _ < _; simp; omega⟩
        · have S0 : St [] w w2 (blk p zlog :: blk b1 (.cells [.int .i64 r.1, x].toArray 62 (0, 0)) :: [vw x r.2]) := S
          clear S
          (repeat refine Stp.h ?_)
          refine f52z hz S0 fun w3 S3 => ?_
          (repeat refine Stp.h ?_)
          refine brX_df (by first | omega | simp | decide) ?_
          refine f55z hz S3 fun w4 S4 => ?_
          (repeat refine Stp.h ?_)
          refine brX_df (by first | omega | simp | decide) ?_
          clear S0 S3
          (repeat refine Stp.h ?_)
          refine f53z hz S4 fun w5 S5 => ?_
          clear S4
          (repeat refine Stp.h ?_)
          refine brX_df (by first | omega | simp | decide) ?_
          refine f54z hz S5 ?_
          (repeat refine Stp.h ?_)
          refine brX_df (by first | omega | simp | decide) ?_
          refine f56z hz S5 ?_
          exact hJ _ S5
      · refine brX_d (fun h1 => ?_) (fun h1 => ?_)
        · exact hJ _ (.inl rfl)
        · exact hJ _ (.inr ⟨p, rfl, List.mem_cons_self⟩)
    · refine f51n ?_
      (repeat refine Stp.h ?_)
      refine f50 S fun w2 d S2 => ?_
      clear S
      refine f51 S2 (fun _ w3 S3 => ?_) (fun n hn h4 => by omega)
      rw [show dk0.may 9 = 13 from rfl]
      clear S2
      (repeat refine Stp.h ?_)
      refine brX_dt (by first | omega | simp | decide) ?_
      (repeat refine Stp.h ?_)
      refine brX_dt (by first | omega | simp | decide) ?_
      exact f42 S3 fun w4 S4 => hk _ S4.toExt
end
end Go.Proofs.YtgnmelnohclpgaaDoor
