/- Meanings of functions: errors -/
import Derived.Test.YtgnmelnohclpgaaDoorSxS
set_option linter.unusedVariables false
namespace Go.Proofs.YtgnmelnohclpgaaDoor
open Go

/-- errors.As -/
def an152 : Ann := (.n none .nil .o (.n none .nil .o (.n none .nil (.n none .nil .o (.n (some ([12], [])) .nil .o .o)) (.n none .nil .o (.n none .nil .o (.n none .nil (.n none .nil (.n (some ([17, 18, 19, 20, 21, 22, 23], [23])) .nil .o .o) (.n (some ([24], [])) .nil .o .o)) (.n none .nil .o (.n none .nil (.n none .nil (.n (some ([27, 28, 29, 30, 31, 32, 33, 34, 35], [35])) .nil .o .o) (.n (some ([36], [])) .nil .o .o)) .o))))))))
def s152 (a0 a1 : Value) (w : World) (K : Cont) : Prop :=
  eqX EqK.iface a0 Value.nilIface fun t1 =>
  brX t1
    (K (Value.bool false) w)
  (eqX EqK.iface a1 Value.nilIface fun t2 =>
  joinX (α := World → Prop)
  (fun w1 =>
   extX Tryd.prog 173 [a1] w1 fun t3 w2 =>
   newX 241 [Value.pointer none, Value.pointer none, Value.int IntKind.u64 0] w2 fun t4 w3 =>
   storeNX 3 t4 t3 w3 fun w4 =>
   loadNX 3 t4 w4 fun t5 =>
   extX Tryd.prog 174 [t5] w4 fun t6 w5 =>
   joinX (α := Value → World → Prop)
   (fun t7 w6 =>
    joinX (α := World → Prop)
    (fun w7 =>
     invX Tryd.prog t6 "Elem" [] w7 fun t8 w8 =>
     joinX (α := Value → World → Prop)
     (fun t9 w9 =>
      joinX (α := World → Prop)
      (fun w10 =>
       loadNX 3 t4 w10 fun t10 =>
       callX Tryd.prog 176 [a0, a1, t10, t8] w10 fun t11 w11 =>
       K t11 w11)
      fun J1 =>
      brX t9
        (ifaceX 9 (Value.string { data := #[101, 114, 114, 111, 114, 115, 58, 32, 42, 116, 97, 114, 103, 101, 116, 32, 109, 117, 115, 116, 32, 98, 101, 32, 105, 110, 116, 101, 114, 102, 97, 99, 101, 32, 111, 114, 32, 105, 109, 112, 108, 101, 109, 101, 110, 116, 32, 101, 114, 114, 111, 114] }) fun t12 =>
         False)
      (J1 w9))
     fun J2 =>
     invX Tryd.prog t8 "Kind" [] w8 fun t13 w12 =>
     neX EqK.num t13 (Value.int IntKind.u8 20) fun t14 =>
     brX t14
       (load1X (Value.pointer (some { block := 0, off := 0 })) w12 fun t15 =>
        invX Tryd.prog t8 "Implements" [t15] w12 fun t16 w13 =>
        notX t16 fun t17 =>
        J2 t17 w13)
     (J2 (Value.bool false) w12))
    fun J3 =>
    brX t7
      (ifaceX 9 (Value.string { data := #[101, 114, 114, 111, 114, 115, 58, 32, 116, 97, 114, 103, 101, 116, 32, 109, 117, 115, 116, 32, 98, 101, 32, 97, 32, 110, 111, 110, 45, 110, 105, 108, 32, 112, 111, 105, 110, 116, 101, 114] }) fun t18 =>
       False)
    (J3 w6))
   fun J4 =>
   invX Tryd.prog t6 "Kind" [] w5 fun t19 w14 =>
   neX EqK.num t19 (Value.int IntKind.u8 22) fun t20 =>
   brX t20
     (J4 (Value.bool true) w14)
   (loadNX 3 t4 w14 fun t21 =>
   extX Tryd.prog 175 [t21] w14 fun t22 w15 =>
   J4 t22 w15))
  fun J5 =>
  brX t2
    (ifaceX 9 (Value.string { data := #[101, 114, 114, 111, 114, 115, 58, 32, 116, 97, 114, 103, 101, 116, 32, 99, 97, 110, 110, 111, 116, 32, 98, 101, 32, 110, 105, 108] }) fun t23 =>
     False)
  (J5 w))
theorem e152 (a0 a1 : Value) (w : World) (K : Cont) : fX Tryd.prog 152 an152 [a0, a1] w K = s152 a0 a1 w K := by kernel_rfl
theorem c152 (a0 a1 : Value) (w : World) (K : Cont) (h : s152 a0 a1 w K) : callX Tryd.prog 152 [a0, a1] w K := fX_call mixed (e152 a0 a1 w K) h

/-- errors.as -/
def an176 : Ann := (.n none .nil .o (.n none .nil (.n (some ([0, 8, 9, 10, 11, 12, 14, 15, 16, 17, 18, 19, 20, 21, 22, 23, 24, 25, 26, 27, 28, 29, 30, 31, 32, 33, 34, 35, 36, 37, 38, 39, 40, 41, 42, 43, 44, 45, 46, 47, 48, 49, 50, 51, 52, 53, 54, 55, 56, 57, 58, 59, 60, 61], [0])) .nil (.n none .nil (.n none .nil .o (.n none .nil (.n none .nil .o (.n none .nil (.n (some ([30, 31, 32, 33, 34, 35], [35])) .nil .o .o) .o)) (.n none .nil .o (.n none .nil (.n none .nil .o (.n none .nil .o (.n none .nil .o (.n none .nil (.n none .nil .o (.n none .nil (.n none .nil .o (.n none .nil (.n (some ([8, 14, 50, 51, 52, 53, 54, 55, 56, 57, 58, 59, 60, 61], [50])) .nil (.n none .nil .o (.n none .nil .o (.n none .nil (.n (some ([8, 14, 52, 53, 54, 55, 56, 57, 58, 59, 60], [])) .nil .o .o) .o))) .o) .o)) .o)) .o)))) .o)))) .o) .o) .o))
def s176 (a0 a1 a2 a3 : Value) (w : World) (K : Cont) : Prop :=
  boxX 241 a2 w fun t1 w1 =>
  ∃ (I1 : Value → World → Prop), ∃ (m2 : Value → World → Nat), (I1 a0 w1 ∧
  ∀ (t2 : Value), ∀ (w2 : World), (I1 t2 w2 →
  extX Tryd.prog 188 [t2] w2 fun t3 w3 =>
  invX Tryd.prog t3 "AssignableTo" [a3] w3 fun t4 w4 =>
  brX t4
    (loadNX 3 t1 w4 fun t5 =>
     extX Tryd.prog 189 [t5] w4 fun t6 w5 =>
     extX Tryd.prog 173 [t2] w5 fun t7 w6 =>
     extX Tryd.prog 190 [t6, t7] w6 fun t8 w7 =>
     K (Value.bool true) w7)
  (False)))
theorem e176 (a0 a1 a2 a3 : Value) (w : World) (K : Cont) : fX Tryd.prog 176 an176 [a0, a1, a2, a3] w K = s176 a0 a1 a2 a3 w K := by kernel_rfl
theorem c176 (a0 a1 a2 a3 : Value) (w : World) (K : Cont) (h : s176 a0 a1 a2 a3 w K) : callX Tryd.prog 176 [a0, a1, a2, a3] w K := fX_call mixed (e176 a0 a1 a2 a3 w K) h

end Go.Proofs.YtgnmelnohclpgaaDoor
