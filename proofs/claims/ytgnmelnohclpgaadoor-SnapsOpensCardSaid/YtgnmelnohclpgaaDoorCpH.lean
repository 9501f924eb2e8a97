/- JournalCuts: the law's function answers true. -/
import Derived.Test.YtgnmelnohclpgaaDoorCpG
set_option linter.unusedVariables false
set_option linter.unusedSimpArgs false
namespace Go.Proofs.YtgnmelnohclpgaaDoor
open Go Go.RowKit

/-! ### The plain law -/
theorem framesL_app : ∀ (a c : List Rc), framesL (a ++ c) = framesL a ++ framesL c
  | [], c => rfl
  | r :: a, c => by simp [framesL, framesL_app a c]
theorem framesL_snoc {rs : List Rc} {i : Nat} {r : Rc} (h : rs[i]? = some r) : framesL (rs.take (i + 1)) = framesL (rs.take i) ++ frameL r := by
  rw [List.take_add_one, framesL_app, h]
  simp [framesL]
theorem putI_pos (v : Int) : 0 < (putI v).length := by
  unfold putI
  rw [groups]
  split <;> simp
theorem frameL_len (r : Rc) : (frameL r).length = 8 + (textL r).length := by simp [frameL, le4_len]; omega
theorem firstL_short {r : Rc} (h : Rc.ok r) (m : List UInt8) {c : Nat} (hc : c < (frameL r).length) : firstL ((frameL r ++ m).take c) = none := by
  have ht := textL_len h
  have e0 : frameL r ++ m = le4 (textL r).length ++ (le4 (sumL (textL r)) ++ (textL r ++ m)) := by simp [frameL, List.append_assoc]
  have e1 : num4 (frameL r ++ m) = (textL r).length := by rw [e0, num4_le4 (by omega)]
  have e6 := frameL_len r
  have hl : ((frameL r ++ m).take c).length = c := by simp; omega
  unfold firstL
  by_cases h8 : c < 8
  · rw [if_pos (by omega)]
  · have e2 : num4 ((frameL r ++ m).take c) = (textL r).length := by
      rw [← num4_take, List.take_take, Nat.min_eq_left (by omega), num4_take, e1]
    rw [if_neg (by omega), if_pos (by omega)]
theorem framesL_le (rs : List Rc) {i j : Nat} (h : i ≤ j) : (framesL (rs.take i)).length ≤ (framesL (rs.take j)).length := by
  have : rs.take j = (rs.take j).take i ++ (rs.take j).drop i := (List.take_append_drop i _).symm
  rw [List.take_take, Nat.min_eq_left h] at this
  rw [this, framesL_app]
  simp
theorem parse_cut {rs : List Rc} (h : ∀ r, r ∈ rs → Rc.ok r) {c k : Nat} (hk : k ≤ rs.length) (h1 : (framesL (rs.take k)).length ≤ c) (h2 : k = rs.length ∨ c < (framesL (rs.take (k + 1))).length) :
    parseL ((framesL rs).take c) = (rs.take k, (framesL (rs.take k)).length) := by
  have hs : framesL rs = framesL (rs.take k) ++ framesL (rs.drop k) := by rw [← framesL_app, List.take_append_drop]
  have e : (framesL rs).take c = framesL (rs.take k) ++ (framesL (rs.drop k)).take (c - (framesL (rs.take k)).length) := by
    rw [hs, List.take_append, List.take_of_length_le h1]
  rw [e, parseL_frames _ _ fun r hr => h r (List.mem_of_mem_take hr)]
  have hrest : parseL ((framesL (rs.drop k)).take (c - (framesL (rs.take k)).length)) = ([], 0) := by
    by_cases hkn : k = rs.length
    · subst hkn
      rw [List.drop_length]
      simp [framesL, parseL_nil]
    · have hlt : k < rs.length := by omega
      have hr := List.getElem?_eq_getElem hlt
      have hmem := List.getElem_mem hlt
      have hd : rs.drop k = rs[k] :: rs.drop (k + 1) := List.drop_eq_getElem_cons hlt
      rw [framesL_snoc hr] at h2
      rw [hd]
      simp only [framesL]
      refine parseL_none (firstL_short (h _ hmem) _ ?_)
      simp only [List.length_append] at h2
      omega
  rw [hrest]
  simp
def endsL (rs : List Rc) (n : Nat) : List (List Value) := (List.range n).map fun j => [.int .i64 ((framesL (rs.take (j + 1))).length : Nat)]
theorem endsL_succ (rs : List Rc) (n : Nat) : endsL rs (n + 1) = endsL rs n ++ [[.int .i64 ((framesL (rs.take (n + 1))).length : Nat)]] := by simp [endsL, List.range_succ]
theorem endsL_get (rs : List Rc) {n j : Nat} (h : j < n) : (endsL rs n)[j]? = some [.int .i64 ((framesL (rs.take (j + 1))).length : Nat)] := by simp [endsL, h]
theorem framesL_small : ∀ (rs : List Rc), (∀ r, r ∈ rs → r.2.length < 300 ∧ -9223372036854775808 ≤ r.1 ∧ r.1 < 9223372036854775808) → (framesL rs).length ≤ 320 * rs.length
  | [], _ => by simp [framesL]
  | r :: rs, h => by
    have ih := framesL_small rs fun q hq => h q (by simp [hq])
    have hr := h r (by simp)
    have hp := putI_len r.1 hr.2
    have := frameL_len r
    simp only [framesL, List.length_append, List.length_cons, textL] at *
    omega
theorem take_small {rs : List Rc} {i : Nat} {r : Rc} {P : Rc → Prop} (h : ∀ q, q ∈ rs.take i → P q) (hr : rs[i]? = some r) (hp : P r) : ∀ q, q ∈ rs.take (i + 1) → P q := by
  intro q hq
  rw [List.take_add_one, hr] at hq
  rcases List.mem_append.1 hq with hq | hq
  · exact h q hq
  · obtain rfl : q = r := by simpa using hq
    exact hp

section
variable {M : List Nat} {w0 w : World} {L L1 R : List Item} {v u x tl : Value} {l m t : List UInt8} {K : Cont} {b d p c : Nat} {k : Dk} {g : Lg} {rs : List Rc} {ss : List (List UInt8)}

theorem fldA {K : Value → Prop} {a : Addr} {f : Nat} (h : K (.pointer (some (a.add f)))) : fieldAddrX f (.pointer (some a)) K := h
theorem RdR.fld {K : Value → Prop} {s i j : Nat} {cs : List (List Value)} {e : List Value} (h : RdR w s v cs) (hx : cs[i]? = some e) (hj : e[j]? = some x) (hk : K x) : indexSX s v (.int .i64 (i : Nat)) fun t => fieldAddrX j t fun u => load1X u w K := by
  obtain ⟨a, he, hi, hc⟩ := rdr_at (S := fun w' => w' = w) (fun w' hw => hw ▸ h) rfl hx
  exact hi _ (fldA ⟨x, hc w rfl j x hj, hk⟩)
/-- records that are read alone -/
def rdrs (bs : List Value) (v : Value) (rs : List Rc) : List Item := vws bs rs ++ [vrow 2 v (rcCells bs rs)]
theorem rdrs_in {bs : List Value} (A : List Item) : InI (vrow 2 v) (rcCells bs rs) (A ++ rdrs bs v rs) := ⟨List.mem_append_right _ (List.mem_append_right _ (by simp))⟩
theorem rdrs_vw {bs : List Value} {r : Rc} (A : List Item) (h : vw x r.2 ∈ vws bs rs) : InI (vw x) r.2 (A ++ rdrs bs v rs) := ⟨List.mem_append_right _ (List.mem_append_left _ h)⟩

theorem f6 {n0 : Int} {bs : List Value} (hE : ErrW w) (hn0 : -9223372036854775808 ≤ n0 ∧ n0 < 9223372036854775808) (hb : bs.length = rs.length) (hv : RdR w 2 v (rcCells bs rs)) (hrs : ∀ r, r ∈ rs → -9223372036854775808 ≤ r.1 ∧ r.1 < 9223372036854775808)
    (S : St [] w w (rdrs bs v rs)) (hk0 : ∀ w', Ext w w' → K (.bool true) w') : callX Tryd.prog 6 [v, .int .i64 n0] w K := by
  haveI : Err [] w := ⟨hE, by simp⟩
  have hvr : ∀ W, Has (rdrs bs v rs) W → RdR W 2 v (rcCells bs rs) := fun W h => h.vrow (rdrs_in [])
  refine c6 _ _ _ _ ?_
  unfold s6
  refine ⟨fun t1 t2 t3 W => ∃ i : Nat, t3 = .int .i64 i ∧ i ≤ rs.length ∧ i ≤ 12 ∧ (∀ r, r ∈ rs.take i → r.2.length < 300 ∧ -9223372036854775808 ≤ r.1 ∧ r.1 < 9223372036854775808) ∧
      St [] w W (byt t1 (framesL (rs.take i)) :: orow 3 1 t2 (endsL rs i) :: rdrs bs v rs),
    fun _ _ t W => match t with | .int _ i => rs.length - i.toNat | _ => 0, ⟨0, rfl, by omega, by omega, by simp, byt_nil (orow_nil S)⟩, ?_⟩
  clear S
  rintro t1 t2 t3 W ⟨i, rfl, hi, hi12, hsm, S⟩
  have hfl := framesL_small _ hsm
  have hfl' : (framesL (rs.take i)).length ≤ 4000 := by
    simp only [List.length_take] at hfl
    omega
  have hlen : (rcCells bs rs).length = rs.length := rcCells_len bs rs hb
  refine joinX_of (fun J => (∀ r, rs[i]? = some r → r.2.length < 300 → i < 12 → J (.bool true) W) ∧ J (.bool false) W) ⟨fun r hr hr3 hi2 => ?_, ?_⟩ (fun J hJ => ?_)
  · have hok := hrs r (List.mem_of_getElem? hr)
    obtain ⟨y, hm, hc⟩ := vws_mem hb hr
    have hlt := (List.getElem?_eq_some_iff.1 hr).1
    (repeat refine Stp.h ?_)
    refine (hvr W S.drop.drop.hs).atN hc ?_
    haveI hI : InI (vw y) r.2 (byt t1 (framesL (rs.take i)) :: orow 3 1 t2 (endsL rs i) :: rdrs bs v rs) := rdrs_vw [_, _] hm
    refine f37 (g := r.1) (l := r.2) hok S (fun hb _ _ => by omega) (fun _ w2 v2 S2 => ?_)
    clear hI S
    have S := S2.frz
    clear S2
    have hfr := frameL_len r
    have hpl := putI_len r.1 hok
    have htl : (textL r).length = (putI r.1).length + r.2.length := by simp [textL]
    haveI := (S.hs.vw (v := v2) (l := frameL r) inferInstance).one
    (repeat refine Stp.h ?_)
    refine joinX_of (fun J => J (.bool false) w2) ?_ (fun J hJ => ?_)
    · (repeat refine Stp.h ?_)
      refine S.append (v := t1) (l := framesL (rs.take i)) (m := frameL r) (S.hs.vw (v := v2) (l := frameL r) inferInstance) (by omega) fun w5 t11 S5 => ?_
      rw [← framesL_snoc hr] at S5
      clear S
      have S := S5
      clear S5
      refine (S.hs.byt (v := t11) (l := framesL (rs.take (i + 1))) inferInstance).len ?_
      refine St.push (t := 3) (s := 1) (v := t2) (cs := endsL rs i) (e := [.int .i64 ((framesL (rs.take (i + 1))).length : Nat)]) (L := byt t11 (framesL (rs.take (i + 1))) :: vw v2 (frameL r) :: rdrs bs v rs) (S.perm ?_) rfl rfl (by simp [Value.oneCell']) rfl (by simp [endsL]; omega) fun w7 t14 S7 => ?_
      · exact ((List.Perm.swap _ _ _).cons _).trans (.swap _ _ _)
      · rw [← endsL_succ] at S7
        (repeat refine Stp.h ?_)
        rw [wi64 (n := ((i : Nat) : Int) + 1) (by omega)]
        refine ⟨⟨i + 1, by simp, by omega, by omega, take_small hsm hr ⟨hr3, hok⟩, ?_⟩, by show _ < _; simp; omega⟩
        exact S7.sub inferInstance
    · (repeat refine Stp.h ?_)
      refine brX_df (by first | omega | simp | decide) ?_
      refine (S.hs.vw (v := v2) (l := frameL r) inferInstance).len ?_
      (repeat refine Stp.h ?_)
      have hpp := putI_pos r.1
      rw [decide_eq_false (by omega)]
      exact hJ
  · (repeat refine Stp.h ?_)
    refine (S.hs.byt (v := t1) (l := framesL (rs.take i)) inferInstance).len ?_
    (repeat refine Stp.h ?_)
    refine joinX_of (fun J => ∀ c : Nat, c ≤ (framesL (rs.take i)).length → J (.int .i64 c) W) (fun c hc => ?_) (fun J hJ => ?_)
    · replace S := S.frz
      refine S.cut (v := t1) (l := framesL (rs.take i)) (lo := 0) (hi := c) inferInstance (by omega) hc (fun v1 S1 => ?_) rfl (by simp [natOf]) (.inl rfl)
      rw [List.drop_zero] at S1
      clear S
      refine f40 (v := v1) (l := (framesL (rs.take i)).take c) (by simp; omega) S1 fun w2 ov S2 => ?_
      clear S1
      have S := S2
      clear S2
      (repeat refine Stp.h ?_)
      refine ⟨fun t W => ∃ k : Nat, t = .int .i64 k ∧ k ≤ i ∧ (framesL (rs.take k)).length ≤ c ∧ W = w2, fun t W => match t with | .int _ k => i - k.toNat | _ => 0, ⟨0, rfl, by omega, by simp [framesL], rfl⟩, ?_⟩
      rintro t W ⟨k, rfl, hk, hkc, rfl⟩
      have hends := S.hs.orow (t := 3) (s := 1) (v := t2) inferInstance
      have helen : (endsL rs i).length = i := by simp [endsL]
      refine joinX_of (fun J => (k < i → (framesL (rs.take (k + 1))).length ≤ c → J (.bool true) W) ∧ ((k = i ∨ c < (framesL (rs.take (k + 1))).length) → J (.bool false) W)) ⟨fun hki hkc => ?_, fun hstop => ?_⟩ (fun J hJ => ?_)
      · (repeat refine Stp.h ?_)
        rw [wi64 (n := ((k : Nat) : Int) + 1) (by omega)]
        exact ⟨⟨k + 1, by simp, by omega, hkc, rfl⟩, by show _ < _; simp; omega⟩
      · have htk : ∀ j, j ≤ i → (rs.take i).take j = rs.take j := fun j hj => by rw [List.take_take, Nat.min_eq_left hj]
        have htl : (rs.take i).length = i := by simp; omega
        have hpar := parse_cut (rs := rs.take i) (c := c) (k := k) (fun r hr => ⟨(hsm r hr).2, by have := (hsm r hr).1; omega⟩) (by omega) (by rw [htk k hk]; exact hkc) (by
          rcases hstop with h | h
          · exact .inl (by omega)
          · by_cases hki : k = i
            · exact .inl (by omega)
            · exact .inr (by rw [htk (k + 1) (by omega)]; exact h))
        rw [htk k hk] at hpar
        rw [hpar] at S ⊢
        dsimp only at S ⊢
        have hkl : (rs.take k).length = k := by simp; omega
        obtain ⟨bs2, hb2, S2⟩ := recs_open (v := ov) S
        clear S
        have S := S2
        clear S2
        have hl2 : (rcCells bs2 (rs.take k)).length = k := by rw [rcCells_len bs2 _ hb2, hkl]
        (repeat refine Stp.h ?_)
        refine joinX_of (fun J => J (.bool false) W) ?_ (fun J hJ => ?_)
        · (repeat refine Stp.h ?_)
          refine ⟨fun t W => ∃ j : Nat, t = .int .i64 j ∧ j ≤ k ∧ St [] w W (orow 62 2 ov (rcCells bs2 (rs.take k)) :: (vws bs2 (rs.take k) ++ (vw v1 ((framesL (rs.take i)).take c) :: vw t1 (framesL (rs.take i)) :: orow 3 1 t2 (endsL rs i) :: rdrs bs v rs))),
            fun t W => match t with | .int _ j => k - j.toNat | _ => 0, ⟨0, rfl, by omega, S⟩, ?_⟩
          clear S hends
          rintro t W ⟨j, rfl, hj, S⟩
          (repeat refine Stp.h ?_)
          refine brX_d (fun hjk => ?_) (fun hjk => ?_)
          · refine joinX_of (fun J => ∀ W', St [] w W' (orow 62 2 ov (rcCells bs2 (rs.take k)) :: (vws bs2 (rs.take k) ++ (vw v1 ((framesL (rs.take i)).take c) :: vw t1 (framesL (rs.take i)) :: orow 3 1 t2 (endsL rs i) :: rdrs bs v rs))) → J (.bool false) W') (fun W' S' => ?_) (fun J hJ => ?_)
            · clear S
              (repeat refine Stp.h ?_)
              rw [wi64 (n := ((j : Nat) : Int) + 1) (by omega)]
              exact ⟨⟨j + 1, by simp, by omega, S'⟩, by show _ < _; simp; omega⟩
            · (refine S.drew ?_; clear S; intro w9 S)
              refine ⟨Has _, S.hs, ?_⟩
              have hlt : j < rs.length := by omega
              have hr := List.getElem?_eq_getElem hlt
              generalize rs[j] = r at hr
              have hr2 : (rs.take k)[j]? = some r := by rw [List.getElem?_take_of_lt (by omega)]; exact hr
              obtain ⟨y, hm, hc1⟩ := vws_mem hb hr
              obtain ⟨y2, hm2, hc2⟩ := vws_mem hb2 hr2
              obtain ⟨a1, he1, hi1, ha1⟩ := rdr_at (S := Has _) (fun w h => h.orow (t := 62) (s := 2) (v := ov) inferInstance) S.hs hc2
              obtain ⟨a2, he2, hi2, ha2⟩ := rdr_at (S := Has (orow 62 2 ov (rcCells bs2 (rs.take k)) :: (vws bs2 (rs.take k) ++ (vw v1 ((framesL (rs.take i)).take c) :: vw t1 (framesL (rs.take i)) :: orow 3 1 t2 (endsL rs i) :: rdrs bs v rs)))) (fun w h => h.vrow (s := 2) (v := v) ⟨List.mem_cons_of_mem _ (List.mem_append_right _ (by simp [rdrs]))⟩) S.hs hc1
              refine hi1 _ (fldA (hi2 _ (fldA ?_)))
              refine ⟨_, fun w hw => ha1 w hw 0 _ rfl, ?_⟩
              refine ⟨_, fun w hw => ha2 w hw 0 _ rfl, ?_⟩
              (repeat refine Stp.h ?_)
              refine brX_df (by first | omega | simp | decide) ?_
              refine hi1 _ (fldA (hi2 _ (fldA ?_)))
              refine ⟨y2, fun w hw => ha1 w hw 1 _ rfl, ?_⟩
              refine strH_i (l := r.2) S.hs ⟨List.mem_cons_of_mem _ (List.mem_append_left _ hm2)⟩ ?_
              refine ⟨y, fun w hw => ha2 w hw 1 _ rfl, ?_⟩
              refine strH_i (l := r.2) S.hs ⟨List.mem_cons_of_mem _ (List.mem_append_right _ (by simp [rdrs, hm]))⟩ ?_
              (repeat refine Stp.h ?_)
              have := hJ _ S
              simpa using this
          · exact f42 S fun w7 S7 => hk0 _ S7.toExt
        · refine (S.hs.orow (t := 62) (s := 2) (v := ov) inferInstance).len ?_
          rw [hl2]
          (repeat refine Stp.h ?_)
          refine brX_df (by first | omega | simp | decide) ?_
          (repeat refine Stp.h ?_)
          refine brX_d (fun hkpos => ?_) (fun hkpos => ?_)
          · (repeat refine Stp.h ?_)
            rw [wi64 (n := ((k : Nat) : Int) - 1) (by omega)]
            have hee := endsL_get rs (n := i) (j := k - 1) (by omega)
            rw [show k - 1 + 1 = k by omega] at hee
            rw [show ((k : Nat) : Int) - 1 = ((k - 1 : Nat) : Int) by omega]
            refine hends.at1 hee ?_
            (repeat refine Stp.h ?_)
            refine brX_df (by first | omega | simp | decide) ?_
            (repeat refine Stp.h ?_)
            refine brX_df (by first | omega | simp | decide) ?_
            exact hJ
          · obtain rfl : k = 0 := by omega
            (repeat refine Stp.h ?_)
            refine brX_dt (by first | omega | simp | decide) ?_
            (repeat refine Stp.h ?_)
            exact hJ
      · refine hends.len ?_
        rw [helen]
        (repeat refine Stp.h ?_)
        refine brX_d (fun hki => ?_) (fun hki => ?_)
        · refine hends.at1 (endsL_get rs (by omega)) ?_
          (repeat refine Stp.h ?_)
          by_cases h : (framesL (rs.take (k + 1))).length ≤ c
          · rw [decide_eq_true (by omega)]
            exact hJ.1 (by omega) h
          · rw [decide_eq_false (by omega)]
            exact hJ.2 (.inr (by omega))
        · exact hJ.2 (.inl (by omega))
    · refine brX_d (fun hpos => ?_) (fun hpos => ?_)
      · have hbl := S.hs.byt (v := t1) (l := framesL (rs.take i)) inferInstance
        refine hbl.len ?_
        (repeat refine Stp.h ?_)
        rw [wi64 (n := ((framesL (rs.take i)).length : Nat) + 1) (by omega)]
        have h1 := Int.tmod_lt_of_pos n0 (b := ((framesL (rs.take i)).length : Nat) + 1) (by omega)
        have h2 := Int.lt_tmod_of_pos n0 (b := ((framesL (rs.take i)).length : Nat) + 1) (by omega)
        refine ⟨rfl, by omega, ?_⟩
        generalize n0.tmod (((framesL (rs.take i)).length : Nat) + 1) = q at h1 h2
        refine hbl.len ?_
        (repeat refine Stp.h ?_)
        rw [wi64 (n := q + ((framesL (rs.take i)).length : Nat)) (by omega)]
        (repeat refine Stp.h ?_)
        rw [wi64 (n := q + ((framesL (rs.take i)).length : Nat) + 1) (by omega)]
        refine hbl.len ?_
        (repeat refine Stp.h ?_)
        rw [wi64 (n := ((framesL (rs.take i)).length : Nat) + 1) (by omega)]
        refine ⟨rfl, by omega, ?_⟩
        have h3 := Int.tmod_lt_of_pos (q + ((framesL (rs.take i)).length : Nat) + 1) (b := ((framesL (rs.take i)).length : Nat) + 1) (by omega)
        have h4 := Int.tmod_nonneg (a := q + ((framesL (rs.take i)).length : Nat) + 1) (((framesL (rs.take i)).length : Nat) + 1) (by omega)
        generalize (q + ((framesL (rs.take i)).length : Nat) + 1).tmod (((framesL (rs.take i)).length : Nat) + 1) = z at h3 h4
        obtain ⟨c, rfl⟩ : ∃ c : Nat, z = c := ⟨z.toNat, by omega⟩
        exact hJ c (by omega)
      · exact hJ 0 (by omega)
  · refine hv.len ?_
    rw [hlen]
    (repeat refine Stp.h ?_)
    refine brX_d (fun hlt => ?_) (fun hlt => ?_)
    · (repeat refine Stp.h ?_)
      refine brX_d (fun h12 => ?_) (fun h12 => ?_)
      · have hlt : i < rs.length := by omega
        have hr := List.getElem?_eq_getElem hlt
        obtain ⟨y, hm, hc⟩ := vws_mem hb hr
        refine RdR.fld (hvr W S.drop.drop.hs) hc (j := 1) (x := y) rfl ?_
        refine (S.drop.drop.hs.vw (rdrs_vw [] hm)).len ?_
        (repeat refine Stp.h ?_)
        by_cases h3 : rs[i].2.length < 300
        · rw [decide_eq_true (by omega)]
          exact hJ.1 _ hr h3 (by omega)
        · rw [decide_eq_false (by omega)]
          exact hJ.2
      · exact hJ.2
    · exact hJ.2
end
end Go.Proofs.YtgnmelnohclpgaaDoor
