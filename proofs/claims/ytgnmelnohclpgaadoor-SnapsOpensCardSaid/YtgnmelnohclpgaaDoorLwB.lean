/- Laws of this seat: what the listed variables hold; the lifted form of a walk. -/
import Derived.Test.YtgnmelnohclpgaaDoorLwA
import Derived.Test.YtgnmelnohclpgaaDoorLwE
import Derived.Test.YtgnmelnohclpgaaDoorCards
import Derived.Test.YtgnmelnohclpgaaDoorTie
import Derived.Test.YtgnmelnohclpgaaDoorFlB
import Derived.SevenTiedAt
import Derived.Stop.Joined
set_option linter.unusedVariables false
set_option linter.unusedSimpArgs false
namespace Go.Proofs.YtgnmelnohclpgaaDoor
open Go Go.RowKit Go.ChangeShapes Go.WideShapes

theorem Tryd.own : ownKnob Tryd.prog.godebug = none := by kernel_rfl
theorem Tryd.laidOut : laidOutB Tryd.prog = true := by kernel_rfl
theorem Tryd.et : Tryd.prog.globalNamed "errors.errorType" = some 0 := by kernel_rfl
theorem Tryd.dt : Tryd.prog.globalNamed "math/bits.deBruijn64tab" = some 1 := by kernel_rfl
theorem Tryd.rt : (Tryd.prog.cutTypes.find? (·.1 == "internal/reflectlite.rtype")).map (·.2) = some 260 := by kernel_rfl
theorem Tryd.oneRow : ((List.range 301).filter fun t => Tryd.prog.rowNamed t [101, 114, 114, 111, 114]) = [215] := by kernel_rfl
theorem Tryd.size : Tryd.prog.types.size = 301 := by kernel_rfl

def tabZ : List Int := List.map (fun n : Nat => (n : Int)) Lib.deBruijn64tab
theorem tab_laid {H : Type} : (Rows.laid_math_bits_deBruijn64tab : DataW H) = Lib.tabData .u8 tabZ := by kernel_rfl
theorem tabW_of {w : World} {rest : List (String × DataW Unit)} (h : laidMet Tryd.prog (("math/bits.deBruijn64tab", Rows.laid_math_bits_deBruijn64tab) :: rest) w) : TabW w := by
  rw [tab_laid] at h
  have h1 := Lib.tabIs_of_head Tryd.dt (t := 273) (by kernel_rfl) Tryd.underlying273 (e := 5) Tryd.underlying5 (by kernel_rfl) (by kernel_rfl) h
  intro j hj
  have h2 := h1.cell Tryd.dt j (by simpa [tabZ, Lib.deBruijn64tab] using hj)
  rw [h2]
  have h3 : j < Lib.deBruijn64tab.length := by simpa [Lib.deBruijn64tab] using hj
  simp [tabZ, List.getD, h3]

theorem errW_of {w : World} {hs : List (String × DataW Unit)} (h : handlesMet Tryd.prog hs w) (hm : ("errors.errorType", Rows.laid_errors_errorType) ∈ hs) : ErrW w := by
  have h1 := h _ hm
  have : (Rows.laid_errors_errorType : DataW Unit).funcsIn? = none := by kernel_rfl
  rw [this] at h1
  obtain ⟨name, u, ty, e1, e2, e3, e4, e5⟩ := h1
  have en : name = [101, 114, 114, 111, 114] := (Option.some.inj e1).symm
  subst en
  obtain rfl := Option.some.inj (Tryd.rt.symm.trans e2)
  have hm : ty ∈ (List.range 301).filter fun t => Tryd.prog.rowNamed t [101, 114, 114, 111, 114] := List.mem_filter.2 ⟨List.mem_range.2 (by rw [← Tryd.size]; exact e3), e4⟩
  rw [Tryd.oneRow] at hm
  obtain rfl := List.mem_singleton.1 hm
  have hh : typeHandle Tryd.prog 215 = .pointer (some ⟨2, 215, none⟩) := by kernel_rfl
  rw [hh] at e5
  have := World.var?_cell Tryd.et e5 0
  unfold ErrW
  simpa using this

/-- a world in which both variables hold what is listed -/
noncomputable def laidWorld (os : Os) : World :=
  let w0 := World.holding Tryd.prog os ⟨#[], #[], []⟩
  { w0 with heap := (w0.heap.modify 0 fun
      | .cells _ t frozen => .cells #[.iface 260 (.agg #[.pointer (some ⟨2, 215, none⟩)])] t frozen
      | o => o).modify 1 fun
      | .cells _ t frozen => .cells (tabZ.map fun z => Value.int .u8 z).toArray t frozen
      | o => o }
theorem laidWorld_tab (os : Os) (args : Array Value) : laidMetH Tryd.prog [("math/bits.deBruijn64tab", Rows.laid_math_bits_deBruijn64tab)] ((laidWorld os).forCall (fun _ _ => 0) ⟨#[], args, []⟩).memory :=
  laidMetH_of_parts (laidMet_of_run (ps := (List.range 64).map fun i => .cell 1 i) 8 (by kernel_rfl) (by kernel_rfl) (by kernel_rfl)) (by kernel_rfl)
theorem laidWorld_err (os : Os) (args : Array Value) : laidMetH Tryd.prog [("errors.errorType", Rows.laid_errors_errorType)] ((laidWorld os).forCall (fun _ _ => 0) ⟨#[], args, []⟩).memory :=
  laidMetH_of_parts (laidMet_nil _ _) (by kernel_rfl)
theorem laidWorld_both (os : Os) (args : Array Value) : laidMetH Tryd.prog [("math/bits.deBruijn64tab", Rows.laid_math_bits_deBruijn64tab), ("errors.errorType", Rows.laid_errors_errorType)] ((laidWorld os).forCall (fun _ _ => 0) ⟨#[], args, []⟩).memory :=
  laidMetH_of_parts (laidMet_of_run (ps := (List.range 64).map fun i => .cell 1 i) 8 (by kernel_rfl) (by kernel_rfl) (by kernel_rfl)) (by kernel_rfl)

theorem tab_of_laid {w : World} (h : laidMetH Tryd.prog [("math/bits.deBruijn64tab", Rows.laid_math_bits_deBruijn64tab)] w) : TabW w := tabW_of (rest := []) h
theorem err_of_laid {w : World} (h : laidMetH Tryd.prog [("errors.errorType", Rows.laid_errors_errorType)] w) : ErrW w := by
  have h' : laidMet Tryd.prog [] w ∧ handlesMet Tryd.prog [("errors.errorType", Rows.laid_errors_errorType)] w := h
  exact errW_of h'.2 (by simp)
theorem both_of_laid {w : World} (h : laidMetH Tryd.prog [("math/bits.deBruijn64tab", Rows.laid_math_bits_deBruijn64tab), ("errors.errorType", Rows.laid_errors_errorType)] w) : TabW w ∧ ErrW w := by
  have h' : laidMet Tryd.prog [("math/bits.deBruijn64tab", Rows.laid_math_bits_deBruijn64tab)] w ∧ handlesMet Tryd.prog [("errors.errorType", Rows.laid_errors_errorType)] w := h
  exact ⟨tabW_of (rest := []) h'.1, errW_of h'.2 (by simp)⟩

theorem memory_heap_X {laid : List (String × DataW Unit)} : ∀ (w w' : World), w.heap = w'.heap → laidMetH Tryd.prog laid w → laidMetH Tryd.prog laid w' := fun _ _ hh h => h.of_heap hh

section
variable {H : Type} {enc : TypeId × Value → H}
set_option maxRecDepth 100000 in
theorem lifted {f : FuncId} {fn : Func} {s : ChangeSpec} {laid : List (String × DataW Unit)} (ss : List Sh) (os : Os) (started : os.Started) (noInit : Tryd.checked.prog.inits.idxOf? f = none) (hfn : Tryd.prog.funcs[f]? = some fn)
    (witness : ∃ (w : World) (tape : Tape) (i : Input), w.os = os ∧ (w.forCall tape i).Shaped Tryd.checked.prog ∧ i.vars = [] ∧ Input.okWide Tryd.checked.prog (w.forCall tape i) .any w.heap.size f i ∧
      ((s.pre enc Tryd.checked.prog fn [] false (w.forCall tape i).memory i.args ∧ laidMetH Tryd.prog laid (w.forCall tape i).memory) ∧ sizedMet enc Tryd.checked.prog fn (OpenSpec.ofChange s) false (w.forCall tape i).memory i.args) ∧ ({} : Assume).holds Tryd.checked.prog (lone (Frame.enter Tryd.checked.prog f i.args .normal) [] (w.forCall tape i)))
    (hres : fn.resultTypes = #[4]) (hvars : s.vars = []) (hspec : ∀ ds : List (DataW H), ds.length = fn.params.size → s.fn H ds = { results := [.lit (.bool true)], args := ds })
    (hread : (fn.params.toList.all fun t => Tryd.prog.readableRec t && decide (t < Tryd.prog.types.size)) = true) (hsl : ss.length = fn.params.toList.length) (hsh : ((ss.zip fn.params.toList).all fun st => shOk Tryd.prog st.1 st.2) = true)
    (walk : ∀ (W : World) (vs : List Value), laidMetH Tryd.prog laid W → Args W ss vs → callX Tryd.prog f vs W (fun v w' => v = .bool true ∧ Ext W w')) :
    ReturnsInHanded {} Tryd.checked os f .any (fun w args => (s.pre enc Tryd.prog fn [] false w args ∧ laidMetH Tryd.prog laid w) ∧ sizedMet enc Tryd.prog fn (OpenSpec.ofChange s) false w args) (s.post enc Tryd.prog fn false true false false) := by
  refine returnsInHanded_of_change_and (C := Tryd.checked) (X := fun w _ => laidMetH Tryd.prog laid w) (fun _ _ _ hh h => h.of_heap hh) Tryd.own started noInit hfn witness ?_
  intro W base args ds gs before hval hW _ _ hL _
  have hval' : ∀ (j : Nat) t v, fn.params.toList[j]? = some t → args.toList[j]? = some v → Value.okWide Tryd.prog W .any base t v := fun j t v h1 h2 => hval j t v (by simpa using h1) (by simpa using h2)
  have hA := hW
  obtain ⟨p, q, hA, _⟩ := hA
  have hargs : Args W ss args.toList := args_of hsl (fun st hst => List.all_eq_true.1 hsh st hst) hval' hA
  have hc := walk W args.toList hL hargs
  unfold callX at hc
  simp only [Array.toArray_toList] at hc
  refine hc.mono fun e W' ⟨v, he, hv, hx⟩ => ⟨v, he, ?_⟩
  subst hv
  refine post_true Tryd.laidOut Tryd.underlying4 hres hvars hspec (fun t ht => ?_) hW hx
  have := List.all_eq_true.1 hread t ht
  simp only [Bool.and_eq_true, decide_eq_true_eq] at this
  exact this
end
end Go.Proofs.YtgnmelnohclpgaaDoor
