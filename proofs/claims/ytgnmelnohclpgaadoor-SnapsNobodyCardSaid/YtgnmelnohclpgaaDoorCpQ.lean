/- SnapsNobody: the law's function answers true. -/
import Derived.Test.YtgnmelnohclpgaaDoorCpP
set_option linter.unusedVariables false
set_option linter.unusedSimpArgs false
namespace Go.Proofs.YtgnmelnohclpgaaDoor
open Go Go.RowKit

def zsn : Obj := .cells [.pointer none, .int .i64 0, .int .i64 0, .int .i64 0, .int .i64 0, .slice none 0 0, .bool false].toArray 117 (0, 0)
def NoSn (t : Value) (L : List Item) : Prop := t = .pointer none ∨ ∃ p, t = .pointer (some ⟨p, 0, none⟩) ∧ blk p zsn ∈ L
section
variable {M : List Nat} {w0 w : World} {L L1 R : List Item} {v u x tl : Value} {l m t : List UInt8} {K : Cont} {b d p c : Nat} {k : Dk} {s : Sn} {rs : List Rc}

theorem zsn_in (h : blk p zsn ∈ L) : InL p (.cells [.pointer none, .int .i64 0, .int .i64 0, .int .i64 0, .int .i64 0, .slice none 0 0, .bool false].toArray 117 (0, 0)) L :=
  ⟨fun w hh => by obtain ⟨fp, _, hp⟩ := hh.get h; exact hp.2.2⟩
theorem NoSn.mono {I : Item} (h : NoSn tl L) : NoSn tl (I :: L) := by
  rcases h with h | ⟨p, h, hi⟩
  · exact .inl h
  · exact .inr ⟨p, h, List.mem_cons_of_mem _ hi⟩
theorem f120z (h : NoSn tl L) (S : St M w0 w L) (hk : K (.bool true) w) : callX Tryd.prog 120 [tl] w K := by
  rcases h with rfl | ⟨p, rfl, hi⟩
  · exact f120n hk
  · haveI := zsn_in hi
    refine c120 _ _ _ ?_
    unfold s120
    (repeat refine Stp.h ?_)
    exact hk
theorem f61z (h : NoSn tl L) (S : St M w0 w L) (hk : K (.tuple #[.slice none 0 0, .int .i64 0]) w) : callX Tryd.prog 61 [tl] w K := by
  refine c61 _ _ _ ?_
  unfold s61
  refine f120z h S ?_
  (repeat refine Stp.h ?_)
  exact hk
theorem f62z (h : NoSn tl L) (S : St M w0 w L) (hk : K (.int .i64 (-1)) w) : callX Tryd.prog 62 [tl] w K := by
  refine c62 _ _ _ ?_
  unfold s62
  refine joinX_i ?_
  refine f120z h S ?_
  (repeat refine Stp.h ?_)
  exact hk
theorem NoSn.cel (h : NoSn tl L) : Cel tl [tl] := by
  rcases h with rfl | ⟨p, rfl, hi⟩ <;> infer_instance
theorem f64z (h : NoSn tl L) (S : St M w0 w L) (hk : ∀ w', St M w0 w' L → K (.int .i64 1) w') : callX Tryd.prog 64 [tl, u] w K := by
  haveI := h.cel
  refine c64 _ _ _ _ ?_
  unfold s64
  (refine StpA.h ?_; clear S; intro b1 w1 S)
  (refine StpA.h ?_; clear S; intro b2 w2 S)
  refine ldO (c := [tl]) (S.get (List.mem_cons_of_mem _ List.mem_cons_self)) rfl ?_
  refine f120z h.mono.mono S ?_
  (repeat refine Stp.h ?_)
  (refine StpW.h ?_; clear S; intro w3 S)
  (repeat refine Stp.h ?_)
  exact hk _ S.drop.drop
theorem f59n (S : St M w0 w L) (hk : ∀ w', St M w0 w' L → K (.tuple #[.pointer none, .int .i64 1]) w') : callX Tryd.prog 59 [.pointer none, .int .i64 0, .int .i64 1] w K := by
  refine c59 _ _ _ _ _ ?_
  unfold s59
  (repeat refine Stp.h ?_)
  refine brX_df (by first | omega | simp | decide) ?_
  (repeat refine Stp.h ?_)
  (refine StpA.h ?_; clear S; intro p w1 S)
  (repeat refine Stp.h ?_)
  refine ⟨fun t W => t = .int .i64 0 ∧ St M w0 W (blk p (.cells [.pointer none, .int .i64 0, .int .i64 1, .int .i64 (-1), .int .i64 0, .slice none 0 0, .bool false].toArray 117 (0, 0)) :: L), fun _ _ => 0, ⟨rfl, S⟩, ?_⟩
  clear S
  rintro t W ⟨rfl, S⟩
  (repeat refine Stp.h ?_)
  refine brX_dt (by first | omega | simp | decide) ?_
  refine joinX_i ?_
  refine ⟨by omega, by omega, .int .i64 0, rfl, ?_⟩
  refine c58 _ _ _ _ ?_
  unfold s58
  refine f116n ?_
  (repeat refine Stp.h ?_)
  refine brX_dt (by first | omega | simp | decide) ?_
  (repeat refine Stp.h ?_)
  refine brX_dt (by first | omega | simp | decide) ?_
  exact hk _ S.drop
theorem f59b [hE : Err M w0] [hp : Pk (dsk d) dk0 L R] (S : St M w0 w L) (hk : ∀ w', St M w0 w' (dsk d dk0 :: R) → K (.tuple #[.pointer none, .int .i64 13]) w') : callX Tryd.prog 59 [.pointer (some ⟨d, 0, none⟩), .int .i64 0, .int .i64 7] w K := by
  refine c59 _ _ _ _ _ ?_
  unfold s59
  (repeat refine Stp.h ?_)
  refine brX_df (by first | omega | simp | decide) ?_
  (repeat refine Stp.h ?_)
  (refine StpA.h ?_; clear S; intro p w1 S)
  (repeat refine Stp.h ?_)
  refine ⟨fun t W => ∃ i : Nat, t = .int .i64 i ∧ i ≤ 1 ∧ St M w0 W (blk p (.cells [.pointer (some ⟨d, 0, none⟩), .int .i64 0, .int .i64 7, .int .i64 (-1), .int .i64 0, .slice none 0 0, .bool false].toArray 117 (0, 0)) :: dsk d dk0 :: R), fun t W => match t with | .int _ i => 2 - i.toNat | _ => 0, ⟨0, rfl, by omega, S.perm (hp.p.cons _)⟩, ?_⟩
  clear S
  rintro t W ⟨i, rfl, hi, S⟩
  (repeat refine Stp.h ?_)
  refine brX_dt (by first | omega | simp | decide) ?_
  refine joinX_of (fun J => i = 0 → ∀ W', St M w0 W' (blk p (.cells [.pointer (some ⟨d, 0, none⟩), .int .i64 0, .int .i64 7, .int .i64 (-1), .int .i64 0, .slice none 0 0, .bool false].toArray 117 (0, 0)) :: dsk d dk0 :: R) → J W') (fun hi0 W' S' => ?_) (fun J hJ => ?_)
  · subst hi0
    clear S
    (repeat refine Stp.h ?_)
    rw [wi64 (n := ((0 : Nat) : Int) + 1) (by omega)]
    exact ⟨⟨1, rfl, by omega, S'⟩, by show _ < _; simp⟩
  · by_cases h0 : i = 0
    · subst h0
      refine ⟨by omega, by omega, .int .i64 0, rfl, ?_⟩
      refine f58 S (fun hm => absurd rfl hm) (fun n hn h4 hd hm hl w2 v2 S2 => ?_)
      clear S
      obtain rfl : n = 0 := by omega
      (repeat refine Stp.h ?_)
      refine brX_df (by first | omega | simp | decide) ?_
      refine f118 (v := v2) (l := dk0.l 0) (by omega) S2 (fun hno w3 S3 => ?_) (fun r hr w3 x S3 => ?_)
      · clear S2
        have S := S3
        clear S3
        rw [rcC_lit]
        (repeat refine Stp.h ?_)
        (refine StpA.h ?_; clear S; intro b3 w4 S)
        (refine StpW.h ?_; clear S; intro w5 S)
        refine joinX_of (fun J => ∀ W', St M w0 W' (blk b3 (.cells [.int .i64 0, .slice none 0 0].toArray 62 (0, 0)) :: vw v2 (dk0.l 0) :: dsk d dk0 :: blk p (.cells [.pointer (some ⟨d, 0, none⟩), .int .i64 0, .int .i64 7, .int .i64 (-1), .int .i64 0, .slice none 0 0, .bool false].toArray 117 (0, 0)) :: R) → J (.bool false) W') (fun W' S' => ?_) (fun J hJ5 => ?_)
        · clear S
          (repeat refine Stp.h ?_)
          exact hJ rfl _ (S'.sub inferInstance)
        · (refine S.drew ?_; clear S; intro w6 S)
          refine ⟨Has _, S.hs, ?_⟩
          (repeat refine Stp.h ?_)
          exact hJ5 _ S
      · rw [show dk0.l 0 = [] from rfl, ofL_nil] at hr
        cases hr
    · obtain rfl : i = 1 := by omega
      refine ⟨by omega, by omega, .int .i64 7, rfl, ?_⟩
      refine f58 S (fun hm w2 S2 => ?_) (fun n hn h4 => by omega)
      rw [show dk0.may 7 = 13 from rfl]
      (repeat refine Stp.h ?_)
      refine brX_dt (by first | omega | simp | decide) ?_
      exact hk _ (S2.sub inferInstance)

theorem f11 (hE : ErrW w) (h1 : RdB w u t) (hk : ∀ w', Ext w w' → K (.bool true) w') : callX Tryd.prog 11 [u] w K := by
  haveI : Err [] w := ⟨hE, by simp⟩
  have S : St [] w w [] := St.begin w
  refine c11 _ _ _ ?_
  unfold s11
  refine h1.len ?_
  (repeat refine Stp.h ?_)
  refine brX_d (fun hbig => ?_) (fun hbig => ?_)
  · exact hk _ S.toExt
  · refine ⟨fun t W => ∃ i : Nat, t = .int .i64 i ∧ i ≤ 2 ∧ St [] w W [], fun t W => match t with | .int _ i => 2 - i.toNat | _ => 0, ⟨0, rfl, by omega, S⟩, ?_⟩
    clear S
    rintro t W ⟨i, rfl, hi, S⟩
    (repeat refine Stp.h ?_)
    refine brX_d (fun hlt => ?_) (fun hlt => ?_)
    · (repeat refine Stp.h ?_)
      (refine StpA.h ?_; clear S; intro p w2 S)
      (repeat refine Stp.h ?_)
      refine joinX_of (fun J => ∀ t8, NoSn t8 [blk p zsn] → J t8 w2) (fun t8 hz => ?_) (fun J hJ => ?_)
      · have S0 : St [] w w2 [blk p zsn] := S
        clear S
        refine f61z hz S0 ?_
        (repeat refine Stp.h ?_)
        refine joinX_of (fun J => ∀ W', St [] w W' [blk p zsn] → J (.bool false) W') (fun W' S' => ?_) (fun J hJ => ?_)
        · clear S0
          (repeat refine Stp.h ?_)
          rw [wi64 (n := ((i : Nat) : Int) + 1) (by omega)]
          exact ⟨⟨i + 1, by simp, by omega, S'.drop⟩, by show _ < _; simp; omega⟩
        · refine f64z hz S0 fun w3 S3 => ?_
          clear S0
          (repeat refine Stp.h ?_)
          refine brX_df (by first | omega | simp | decide) ?_
          (repeat refine Stp.h ?_)
          refine brX_df (by first | omega | simp | decide) ?_
          (repeat refine Stp.h ?_)
          refine brX_df (by first | omega | simp | decide) ?_
          refine f62z hz S3 ?_
          (repeat refine Stp.h ?_)
          exact hJ _ S3
      · refine brX_d (fun h1 => ?_) (fun h1 => ?_)
        · exact hJ _ (.inl rfl)
        · exact hJ _ (.inr ⟨p, rfl, List.mem_cons_self⟩)
    · refine f50 S fun w2 d S2 => ?_
      clear S
      refine f59n S2 fun w3 S3 => ?_
      clear S2
      (repeat refine Stp.h ?_)
      refine f59same ?_
      (repeat refine Stp.h ?_)
      refine f59b (d := d) S3 fun w4 S4 => ?_
      clear S3
      (repeat refine Stp.h ?_)
      refine brX_dt (by first | omega | simp | decide) ?_
      (repeat refine Stp.h ?_)
      refine brX_dt (by first | omega | simp | decide) ?_
      (repeat refine Stp.h ?_)
      refine brX_dt (by first | omega | simp | decide) ?_
      exact f63 S4 fun w5 S5 => hk _ S5.toExt
end
end Go.Proofs.YtgnmelnohclpgaaDoor
