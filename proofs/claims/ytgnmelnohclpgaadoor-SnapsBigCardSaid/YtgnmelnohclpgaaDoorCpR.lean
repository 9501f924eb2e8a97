/- SnapsBig: the law's function answers true. -/
import Derived.Test.YtgnmelnohclpgaaDoorCpP
set_option linter.unusedVariables false
set_option linter.unusedSimpArgs false
namespace Go.Proofs.YtgnmelnohclpgaaDoor
open Go Go.RowKit

theorem and_big (a : Int) : 0 ≤ bitsV .i64 (fun p q => p &&& q) a 131071 ∧ bitsV .i64 (fun p q => p &&& q) a 131071 ≤ 131071 := by
  unfold bitsV
  have h1 : ((BitVec.ofInt IntKind.i64.bits a) &&& (BitVec.ofInt IntKind.i64.bits 131071)).toNat ≤ 131071 := by
    rw [BitVec.toNat_and]
    exact Nat.le_trans Nat.and_le_right (by decide)
  generalize ((BitVec.ofInt IntKind.i64.bits a) &&& (BitVec.ofInt IntKind.i64.bits 131071)).toNat = z at h1
  rw [wi64 (by omega)]
  omega
theorem bytesCells_set (l : List UInt8) (i : Nat) (x : UInt8) : (bytesCells l).set i (by1 x) = bytesCells (l.set i x) := by
  rw [bytesCells_map, bytesCells_map, List.map_set]
section
variable {M : List Nat} {w0 w : World} {L L1 R : List Item} {v u tl : Value} {l m t : List UInt8} {K : Cont} {b d p c : Nat} {k : Dk} {s : Sn} {rs : List Rc}

/-- b[i] = x, of bytes of one's own -/
theorem St.bytSet {K : World → Prop} {i : Nat} {x : UInt8} (S : St M w0 w (byt v l :: L)) (hi : i < l.length) (hk : ∀ w', St M w0 w' (byt v (l.set i x) :: L) → K w') : indexSX 1 v (.int .i64 (i : Nat)) fun t => store1X t (by1 x) w K := by
  obtain ⟨F, O, h1, h2⟩ := S.has
  cases h1 with
  | @cons _ _ fp o F2 O2 k1 k2 k3 k4 =>
    obtain ⟨rfl, hb⟩ := k1
    rcases hb with ⟨rfl, rfl, rfl⟩ | ⟨b, r, rfl, rfl, hb⟩
    · simp at hi
    · have hcl := bytesCells_len l
      refine ⟨by omega, by omega, ?_⟩
      rw [Int.toNat_natCast, add_none]
      refine ⟨rfl, (bytesCells l ++ r).toArray, 5, (0, 0), hb, by simp; omega, thawed0 _ _, fun w' hst => ?_⟩
      refine hk w' ⟨by rw [hst.size]; exact S.size, fun q hq hM => (hst.old q ?_).trans (S.old q hq hM), S.same.trans hst.same, _, _, .cons (I := byt _ (l.set i x)) (fp := [b]) (o := [b]) ⟨rfl, .inr ⟨b, r, by simp, rfl, ?_⟩⟩ (k2.loc fun q hq => hst.old q ?_) k3 k4, h2⟩
      · rintro rfl
        rcases h2 q (by simp) with h | h
        · exact hM h
        · omega
      · rw [hst.obj, ← bytesCells_set]
        simp only [Nat.zero_add, Nat.mul_one, List.setIfInBounds_toArray]
        rw [List.set_append_left _ _ (by omega)]
      · rintro rfl
        exact k3 q (by simp) hq
theorem zeros_one (n : Nat) : zeros [.int .u8 0] n = bytesCells (List.replicate n 0) := by
  unfold zeros
  rw [bytesCells_map, List.map_replicate]
  induction n with
  | zero => rfl
  | succ n ih => rw [List.replicate_succ, List.flatten_cons, ih]; rfl
theorem St.makeB {n : Nat} (hn : n ≤ 2 ^ 40) (S : St M w0 w L) (hk : ∀ w' v, St M w0 w' (byt v (List.replicate n 0) :: L) → K v w') : makeSX 5 1 [Value.int .u8 0] (.int .i64 (n : Nat)) (.int .i64 (n : Nat)) w K := by
  refine ⟨by omega, by omega, by omega, by omega, fun b w' h => ?_⟩
  rw [Int.toNat_natCast] at h ⊢
  have := hk w' (.slice (some ⟨b, 0, none⟩) n n) (S.newI (I := byt _ (List.replicate n 0)) (by rw [h.size]; omega) h.old h.same ⟨rfl, .inr ⟨b, [], by simp, rfl, by rw [h.obj, zeros_one]; simp⟩⟩ (fun r hr => by rw [List.mem_singleton.1 hr, h.isNew]; exact Nat.le_refl _))
  exact this

theorem f12 {a0 : Int} {x : UInt8} (hE : ErrW w) (hk0 : ∀ w', Ext w w' → K (.bool true) w') : callX Tryd.prog 12 [.int .i64 a0, by1 x] w K := by
  haveI : Err [] w := ⟨hE, by simp⟩
  have S : St [] w w [] := St.begin w
  refine c12 _ _ _ _ ?_
  unfold s12
  (repeat refine Stp.h ?_)
  obtain ⟨n, hn, hn2⟩ : ∃ n : Nat, bitsV .i64 (fun p q => p &&& q) a0 131071 = n ∧ n ≤ 131071 := ⟨(bitsV .i64 (fun p q => p &&& q) a0 131071).toNat, by have := and_big a0; omega, by have := and_big a0; omega⟩
  rw [hn]
  refine f50 S fun w1 d S1 => ?_
  clear S
  refine f59 (f0 := 0) (f1 := 1) (k := dk0) (d := d) (by omega) rfl rfl S1 fun w2 p S2 => ?_
  rw [show snOpen 0 1 (dk0.l 0) (dk0.l 1) = ⟨0, 1, -1, (0, []), false⟩ from snOpen0 0 1] at S2
  clear S1
  have S := S2
  clear S2
  have h1 : snSave ⟨0, 1, -1, (0, []), false⟩ dk0 [x] = (0, ⟨0, 1, 0, (1, [x]), false⟩, wrote dk0 0 (frameL (1, [x]))) := snSave_free (k := dk0) (s := ⟨0, 1, -1, (0, []), false⟩) (t := [x]) dk0_free rfl (by decide) (by decide) (by simp) (by decide)
  have hk1 := wrote_free dk0_free 0 (frameL (1, [x]))
  have hfr1 : (frameL (1, [x])).length ≤ 100 := by
    have := putI_len 1 (by decide)
    rw [frameL_len]
    simp [textL]
    omega
  (repeat refine Stp.h ?_)
  refine joinX_of (fun J => ∀ W, St [] w W (sn p d ⟨0, 1, 0, (1, [x]), false⟩ :: dsk d (wrote dk0 0 (frameL (1, [x]))) :: []) → J (.bool false) W) (fun W S' => ?_) (fun J hJ => ?_)
  · clear S
    have S := S'
    clear S'
    (repeat refine Stp.h ?_)
    refine St.makeB (by omega) S fun w3 v3 S3 => ?_
    clear S
    refine ⟨fun t W => ∃ i : Nat, t = .int .i64 i ∧ i ≤ n ∧ St [] w W (byt v3 (List.replicate i x ++ List.replicate (n - i) 0) :: sn p d ⟨0, 1, 0, (1, [x]), false⟩ :: dsk d (wrote dk0 0 (frameL (1, [x]))) :: []), fun t W => match t with | .int _ i => n - i.toNat | _ => 0, ⟨0, rfl, by omega, by simpa using S3⟩, ?_⟩
    clear S3
    rintro t W ⟨i, rfl, hi, S⟩
    (repeat refine Stp.h ?_)
    refine brX_d (fun hlt => ?_) (fun hlt => ?_)
    · refine S.bytSet (by simp; omega) fun w4 S4 => ?_
      (repeat refine Stp.h ?_)
      rw [wi64 (n := ((i : Nat) : Int) + 1) (by omega)]
      refine ⟨⟨i + 1, by simp, by omega, ?_⟩, by show _ < _; simp; omega⟩
      have e : (List.replicate i x ++ List.replicate (n - i) 0).set i x = List.replicate (i + 1) x ++ List.replicate (n - (i + 1)) 0 := by
        rw [List.set_append_right _ _ (by simp), List.length_replicate, Nat.sub_self, show n - i = (n - (i + 1)) + 1 by omega, List.replicate_succ, List.set_cons_zero, List.replicate_succ']
        simp
      rw [e] at S4
      exact S4
    · obtain rfl : i = n := by omega
      rw [Nat.sub_self, List.replicate_zero, List.append_nil] at S
      replace S := S.frz
      have hTl : (List.replicate i x).length = i := by simp
      generalize List.replicate i x = T at S hTl
      have hl0 : (wrote dk0 0 (frameL (1, [x]))).l 0 = frameL (1, [x]) := by rw [wrote_l, upd_same]
      have hl1 : (wrote dk0 0 (frameL (1, [x]))).l 1 = [] := by rw [wrote_l, upd_ne _ _ (by omega)]; rfl
      have ho1 : ofL (frameL (1, [x])) = some (1, [x]) := ofL_frame ⟨by simp, by simp⟩ (by simp)
      refine f64 (s := ⟨0, 1, 0, (1, [x]), false⟩) (k := wrote dk0 0 (frameL (1, [x]))) (t := T) (p := p) (d := d) (u := v3) (R := vw v3 T :: []) (by simp) (by simp) (by omega) (S.sub inferInstance) fun w4 S4 => ?_
      clear S
      by_cases hbig : 65536 < i
      · have h2 : snSave ⟨0, 1, 0, (1, [x]), false⟩ (wrote dk0 0 (frameL (1, [x]))) T = (3, ⟨0, 1, 0, (1, [x]), false⟩, wrote dk0 0 (frameL (1, [x]))) := by
          unfold snSave
          rw [if_neg (by simp), if_pos (by omega)]
        rw [h2] at S4 ⊢
        dsimp only at S4 ⊢
        refine f59 (f0 := 0) (f1 := 1) (k := wrote dk0 0 (frameL (1, [x]))) (d := d) (by omega) (may_free hk1 (by omega)) (may_free hk1 (by omega)) (S4.perm (.swap _ _ _)) fun w7 p2 S7 => ?_
        rw [hl0, hl1] at S7
        clear S4
        have ho : snOpen 0 1 (frameL (1, [x])) [] = ⟨0, 1, 0, (1, [x]), false⟩ := by
          unfold snOpen
          rw [ho1, ofL_nil]
          rfl
        rw [ho] at S7
        (repeat refine Stp.h ?_)
        refine f61 (p := p2) (d := d) (s := ⟨0, 1, 0, (1, [x]), false⟩) (by simp) S7 fun w8 v8 S8 => ?_
        clear S7
        have S := S8
        clear S8
        dsimp only at S ⊢
        (repeat refine Stp.h ?_)
        refine brX_df (by first | omega | simp | decide) ?_
        (repeat refine Stp.h ?_)
        refine brX_dt (by first | omega | simp | decide) ?_
        (repeat refine Stp.h ?_)
        refine brX_dt (by first | omega | simp | decide) ?_
        (repeat refine Stp.h ?_)
        refine St.one (x := x) rfl S fun w9 S9 => ?_
        clear S
        (repeat refine Stp.h ?_)
        refine brX_dt (by first | omega | simp | decide) ?_
        (repeat refine Stp.h ?_)
        refine brX_dt (by first | omega | simp | decide) ?_
        exact f63 S9 fun w10 S10 => hk0 _ S10.toExt
      · have h2 : snSave ⟨0, 1, 0, (1, [x]), false⟩ (wrote dk0 0 (frameL (1, [x]))) T = (0, ⟨0, 1, 1, (2, T), false⟩, wrote (wrote dk0 0 (frameL (1, [x]))) 1 (frameL (2, T))) :=
          snSave_free (s := ⟨0, 1, 0, (1, [x]), false⟩) (t := T) hk1 rfl (by rw [show snFile ⟨0, 1, 0, (1, [x]), false⟩ = 1 from rfl]; omega) (by rw [show snFile ⟨0, 1, 0, (1, [x]), false⟩ = 1 from rfl, hl1]; simp) (by omega) (by simp)
        rw [h2] at S4 ⊢
        dsimp only at S4 ⊢
        have hk2 := wrote_free hk1 1 (frameL (2, T))
        refine f59 (f0 := 0) (f1 := 1) (k := wrote (wrote dk0 0 (frameL (1, [x]))) 1 (frameL (2, T))) (d := d) (by omega) (may_free hk2 (by omega)) (may_free hk2 (by omega)) (S4.perm (.swap _ _ _)) fun w7 p2 S7 => ?_
        rw [wrote_l, upd_same, upd_ne _ _ (show 0 ≠ 1 by omega), hl0] at S7
        clear S4
        have ho : snOpen 0 1 (frameL (1, [x])) (frameL (2, T)) = ⟨0, 1, 1, (2, T), false⟩ := by
          unfold snOpen
          rw [ho1, ofL_frame (r := (2, T)) ⟨by simp, by show T.length ≤ _; omega⟩ (by simp)]
          rfl
        rw [ho] at S7
        (repeat refine Stp.h ?_)
        refine f61 (p := p2) (d := d) (s := ⟨0, 1, 1, (2, T), false⟩) (by show T.length ≤ _; omega) S7 fun w8 v8 S8 => ?_
        clear S7
        have S := S8
        clear S8
        dsimp only at S ⊢
        (repeat refine Stp.h ?_)
        refine brX_df (by first | omega | simp | decide) ?_
        (repeat refine Stp.h ?_)
        refine brX_df (by omega) ?_
        (repeat refine Stp.h ?_)
        refine brX_dt (by first | omega | simp | decide) ?_
        (repeat refine Stp.h ?_)
        refine brX_dt (by first | omega | simp | decide) ?_
        (repeat refine Stp.h ?_)
        refine brX_dt (by first | omega | simp | decide) ?_
        exact f63 S fun w10 S10 => hk0 _ S10.toExt
  · (repeat refine Stp.h ?_)
    refine brX_df (by first | omega | simp | decide) ?_
    refine S.bytes (l := [x]) rfl fun w3 v3 S3 => ?_
    clear S
    have S := S3.frz
    clear S3
    refine f64 (s := ⟨0, 1, -1, (0, []), false⟩) (k := dk0) (t := [x]) (p := p) (d := d) (u := v3) (R := vw v3 [x] :: []) (by decide) (by decide) (by simp) (S.sub inferInstance) fun w4 S4 => ?_
    rw [h1] at S4 ⊢
    dsimp only at S4 ⊢
    (repeat refine Stp.h ?_)
    rw [decide_eq_false (by simp)]
    exact hJ _ (S4.sub inferInstance)
end
end Go.Proofs.YtgnmelnohclpgaaDoor
