/- JournalFrames: the law's function answers true. -/
import Derived.Test.YtgnmelnohclpgaaDoorCpE
import Derived.Test.YtgnmelnohclpgaaDoorGnI
set_option linter.unusedVariables false
set_option linter.unusedSimpArgs false
namespace Go.Proofs.YtgnmelnohclpgaaDoor
open Go Go.RowKit

theorem eq_str {s : ByteArray} {a b : List UInt8} : True := trivial
instance {l : List (Nat × EqK)} {xs ys : List Value} {t : Bool} {i : Nat} {a b : List UInt8} [h1 : GetL xs i (str a)] [h2 : GetL ys i (str b)] [h : EqL l xs ys t] : EqL ((i, .str) :: l) xs ys (decide (a = b) && t) :=
  ⟨by
    simp only [eqAll, h1.get, h2.get, str, eqV, if_true, h.eq, toList_str]
    congr 2
    by_cases h : a = b <;> simp [h]⟩

/-- an element's place -/
theorem rdr_at {S : World → Prop} {s i : Nat} {v : Value} {cs : List (List Value)} {e : List Value} (h : ∀ w, S w → RdR w s v cs) {w : World} (hw : S w) (hx : cs[i]? = some e) :
    ∃ a : Addr, e.length = s ∧ (∀ K : Value → Prop, K (.pointer (some a)) → indexSX s v (.int .i64 (i : Nat)) K) ∧ ∀ w, S w → ∀ (j : Nat) (x : Value), e[j]? = some x → w.cell? (a.add j) = some x := by
  rcases h w hw with ⟨rfl, rfl⟩ | ⟨p, c, rfl, hc, ha, h1⟩
  · simp at hx
  · have hlt := (List.getElem?_eq_some_iff.1 hx).1
    refine ⟨p.add (i * s), ha e (List.mem_of_getElem? hx), fun K hk => ⟨by omega, by omega, by rw [Int.toNat_natCast]; exact hk⟩, fun w hw j x hj => ?_⟩
    rcases h w hw with ⟨h2, _⟩ | ⟨p', c', h2, hc', ha', h3⟩
    · cases h2
    · cases h2
      rw [cells_add']
      exact h3 i e hx j x hj

section
variable {M : List Nat} {w0 w : World} {L L1 R : List Item} {v u x : Value} {l m t : List UInt8} {K : Cont} {b d p c : Nat} {k : Dk} {g : Lg} {rs : List Rc} {ss : List (List UInt8)}

theorem recs_open (S : St M w0 w L) [hp : Pk (recs v) rs L R] : ∃ bs : List Value, bs.length = rs.length ∧ St M w0 w (orow 62 2 v (rcCells bs rs) :: (vws bs rs ++ R)) := by
  obtain ⟨bs, hb, S⟩ := (S.perm hp.p).unpack
  exact ⟨bs, hb, S⟩
theorem vws_mem {bs : List Value} {i : Nat} {r : Rc} (hb : bs.length = rs.length) (h : rs[i]? = some r) : ∃ x, vw x r.2 ∈ vws bs rs ∧ (rcCells bs rs)[i]? = some (rcC r.1 x) := by
  have hi := (List.getElem?_eq_some_iff.1 h).1
  obtain ⟨x, hx⟩ : ∃ x, bs[i]? = some x := ⟨bs[i], List.getElem?_eq_getElem (by omega)⟩
  refine ⟨x, List.mem_iff_getElem?.2 ⟨i, ?_⟩, ?_⟩
  · unfold vws
    rw [List.getElem?_zipWith, hx, h]
  · unfold rcCells
    rw [List.getElem?_zipWith, hx, h]

theorem f5 {r : Rc} (hE : ErrW w) (hr : -9223372036854775808 ≤ r.1 ∧ r.1 < 9223372036854775808) (h1 : RdB w x r.2) (h2 : RdB w v l) (hk : ∀ w', Ext w w' → K (.bool true) w') : callX Tryd.prog 5 [.agg (rcC r.1 x).toArray, v] w K := by
  haveI : Err [] w := ⟨hE, by simp⟩
  have S : St [] w w [vw v l, vw x r.2] := St.kn (I := vw v l) (St.kn (I := vw x r.2) (St.begin w) ⟨rfl, rfl, h1⟩ (by simp)) ⟨rfl, rfl, h2⟩ (by simp)
  have hxo := h1.one
  have hvo := h2.one
  refine c5 _ _ _ _ ?_
  unfold s5
  rw [rcC_lit]
  (refine StpA.h ?_; clear S; intro b1 w1 S)
  refine joinX_of (fun J => J (.bool (decide (3000 < r.2.length ∨ 5000 < l.length))) w1) ?_ (fun J hJ => ?_)
  · refine brX_d (fun hbig => ?_) (fun hbig => ?_)
    · exact hk _ S.toExt
    · (repeat refine Stp.h ?_)
      rw [← rcC_lit]
      refine f37 hr S (fun hb _ _ => by omega) (fun hsm w2 v2 S2 => ?_)
      clear S
      have S := S2.frz
      clear S2
      haveI := (S.hs.vw (v := v2) (l := frameL r) inferInstance).one
      (repeat refine Stp.h ?_)
      rw [← rcC_lit]
      refine f39 (l := r.2) S fun w3 S3 => ?_
      refine f38 hr S3 (fun hb _ _ => by omega) (fun _ w4 S4 => ?_)
      clear S S3
      (repeat refine Stp.h ?_)
      refine f40 (v := v) (l := l) (by omega) S4 fun w5 ov S5 => ?_
      clear S4
      obtain ⟨ho, cs, hcs, hlen⟩ := recs_one S5.hs (v := ov) inferInstance
      (repeat refine Stp.h ?_)
      refine f41 (by omega) S5 fun w6 od S6 => ?_
      clear S5 hcs hlen cs
      have S := S6
      clear S6
      have hpl := (parseL_len l.length l (by omega)).2
      generalize hrs : (parseL l).1 = rs at S hpl
      (repeat refine Stp.h ?_)
      obtain ⟨bs, hb, S2⟩ := recs_open (v := ov) S
      clear S
      have S := S2
      clear S2
      have hcs := S.hs.orow (t := 62) (s := 2) (v := ov) inferInstance
      have hds := S.hs.orow (t := 68) (s := 2) (v := od) (cs := rs.map fun r => drC r.1 r.2) ⟨by
        refine List.mem_cons_of_mem _ (List.mem_append_right _ ?_)
        show drs od rs ∈ _
        simp⟩
      have hlen : (rcCells bs rs).length = rs.length := rcCells_len bs rs hb
      refine joinX_of (fun J => J (.bool false) w6) ?_ (fun J hJ => ?_)
      · (repeat refine Stp.h ?_)
        refine ⟨fun t W => ∃ i : Nat, t = .int .i64 i ∧ i ≤ rs.length ∧ St [] w W (orow 62 2 ov (rcCells bs rs) :: (vws bs rs ++ (drs od rs :: vw v2 (frameL r) :: blk b1 (.cells [.int .i64 r.1, x].toArray 62 (0, 0)) :: [vw v l, vw x r.2]))),
          fun t W => match t with | .int _ i => rs.length - i.toNat | _ => 0, ⟨0, rfl, by omega, ?_⟩, ?_⟩
        · exact S
        · clear S hcs hds
          rintro t W ⟨i, rfl, hi, S⟩
          have hcs := S.hs.orow (t := 62) (s := 2) (v := ov) inferInstance
          refine hcs.len ?_
          rw [hlen]
          (repeat refine Stp.h ?_)
          refine brX_d (fun hlt => ?_) (fun hlt => ?_)
          · have hlt : i < rs.length := by omega
            have hr := List.getElem?_eq_getElem hlt
            generalize rs[i] = q at hr
            obtain ⟨y, hm, hc⟩ := vws_mem hb hr
            (refine S.drew ?_; clear S; intro w7 S)
            refine ⟨Has _, S.hs, ?_⟩
            haveI hI : InI (vw y) q.2 (orow 62 2 ov (rcCells bs rs) :: (vws bs rs ++ (drs od rs :: vw v2 (frameL r) :: blk b1 (.cells [.int .i64 r.1, x].toArray 62 (0, 0)) :: [vw v l, vw x r.2]))) := ⟨List.mem_cons_of_mem _ (List.mem_append_left _ hm)⟩
            obtain ⟨a1, he1, hi1, hc1⟩ := rdr_at (S := Has _) (fun w h => h.orow (t := 62) (s := 2) (v := ov) inferInstance) S.hs hc
            obtain ⟨a2, he2, hi2, hc2⟩ := rdr_at (S := Has (orow 62 2 ov (rcCells bs rs) :: (vws bs rs ++ (drs od rs :: vw v2 (frameL r) :: blk b1 (.cells [.int .i64 r.1, x].toArray 62 (0, 0)) :: [vw v l, vw x r.2])))) (s := 2) (v := od) (cs := rs.map fun r => drC r.1 r.2) (i := i) (e := drC q.1 q.2) (fun w h => h.orow (t := 68) (s := 2) (v := od) ⟨List.mem_cons_of_mem _ (List.mem_append_right _ (List.mem_cons_self))⟩) S.hs (by simp [hr])
            refine hi1 _ (hi2 _ ?_)
            refine ⟨_, he1, hc1, ?_⟩
            refine ⟨_, he2, hc2, ?_⟩
            refine f39 (v := y) (l := q.2) S fun w8 S8 => ?_
            refine ⟨S8.hs, ?_⟩
            clear S
            have S := S8
            clear S8
            rw [drC_lit]
            (repeat refine Stp.h ?_)
            refine brX_bf (by simp) ?_
            (repeat refine Stp.h ?_)
            rw [wi64 (n := ((i : Nat) : Int) + 1) (by omega)]
            exact ⟨⟨i + 1, by simp, by omega, S⟩, by show _ < _; simp; omega⟩
          · refine f42 S fun w7 S7 => hk _ S7.toExt
      · haveI := hcs.one
        (repeat refine Stp.h ?_)
        refine brX_bf (by simp) ?_
        (repeat refine Stp.h ?_)
        refine brX_df (by first | omega | simp | decide) ?_
        (repeat refine Stp.h ?_)
        refine brX_df (by first | omega | simp | decide) ?_
        refine hcs.len (hds.len ?_)
        (repeat refine Stp.h ?_)
        rw [hlen, List.length_map]
        rw [decide_eq_false (by simp)]
        exact hJ
  · (repeat refine Stp.h ?_)
    refine h1.len ?_
    (repeat refine Stp.h ?_)
    refine brX_d (fun h3 => ?_) (fun h3 => ?_)
    · rw [decide_eq_true (.inl (by omega))] at hJ
      exact hJ
    · refine h2.len ?_
      (repeat refine Stp.h ?_)
      have e : decide (3000 < r.2.length ∨ 5000 < l.length) = decide ((5000 : Int) < ((l.length : Nat) : Int)) := by congr 1; apply propext; omega
      rw [e] at hJ
      exact hJ
end
end Go.Proofs.YtgnmelnohclpgaaDoor
