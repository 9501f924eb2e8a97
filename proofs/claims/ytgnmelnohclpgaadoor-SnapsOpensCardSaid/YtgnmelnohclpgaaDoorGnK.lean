/- The snaps' laws, their meanings. -/
import Derived.Test.YtgnmelnohclpgaaDoorSxS
set_option linter.unusedVariables false
namespace Go.Proofs.YtgnmelnohclpgaaDoor
open Go

/-- berthing/berthinglaw06.SnapsOpens -/
def an10 : Ann := (.n none .nil .o (.n none .nil (.n none .nil (.n (some ([19, 20, 21, 22, 23, 24, 25, 26], [26])) .nil .o .o) .o) (.n none .nil .o (.n none .nil .o (.n none .nil .o (.n none .nil (.n none .nil .o (.n none .nil (.n (some ([8, 34, 35, 36, 37, 38, 39, 40, 41, 42, 43, 44, 45, 46, 47, 48, 49, 50, 51, 52, 53, 54, 55, 56, 57, 58, 59, 60, 61, 62, 63, 64, 65, 66, 67, 68, 69, 70], [8])) .nil (.n none .nil (.n none .nil (.n (some ([34, 35, 36, 37, 38, 39, 40, 41], [41])) .nil .o .o) .o) (.n none .nil (.n (some ([44, 45, 46, 47, 48, 49, 50, 51, 52, 53, 54, 55, 56, 57, 58, 59, 60, 61, 62, 63, 64, 65, 66, 67, 68, 69, 70], [])) .nil (.n none .nil (.n (some ([44, 45, 46, 47, 48, 49, 50, 51, 52, 53, 54, 55, 56, 57, 58], [58])) .nil .o .o) (.n none .nil (.n none (.one 0 (.one 1 (.one 2 (.one 3 (.one 4 (.one 6 (.one 7 (.one 8 (.one 9 (.one 5 (.one 10 (.eff (.alt 11 (some [0, 5, 10, 4, 9, 3, 8, 1, 2, 6, 7]) .nil .stop))))))))))))) .o .o) .o)) .o) .o)) .o) .o)) (.n none .nil .o (.n none .nil .o (.n none .nil .o (.n none .nil (.n none .nil (.n (some ([86, 87, 88, 89, 90, 91, 92, 93, 94, 95], [95])) .nil .o .o) .o) .o))))))))))
def s10 (a0 a1 a2 : Value) (w : World) (K : Cont) : Prop :=
  joinX (α := Value → World → Prop)
  (fun t1 w1 =>
   brX t1
     (K (Value.bool true) w1)
   (callX Tryd.prog 50 [] w1 fun t2 w2 =>
   callX Tryd.prog 57 [t2, Value.int IntKind.i64 0, a0] w2 fun t3 w3 =>
   callX Tryd.prog 57 [t2, Value.int IntKind.i64 1, a1] w3 fun t4 w4 =>
   ∃ (I1 : Value → World → Prop), ∃ (m2 : Value → World → Nat), (I1 (Value.int IntKind.i64 0) w4 ∧
   ∀ (t5 : Value), ∀ (w5 : World), (I1 t5 w5 →
   joinX (α := Value → World → Prop)
   (fun t6 w6 =>
    brX t6
      (joinX (α := World → Prop)
       (fun w7 =>
        addX t5 (Value.int IntKind.i64 1) fun t7 =>
        (I1 t7 w7 ∧
        lessN (m2 t7 w7) (m2 t5 w5)))
       fun J3 =>
       joinX (α := Value → World → Prop)
       (fun t8 w8 =>
        brX t8
          (∀ (w9 : World), (Drew w8 w9 →
           ∃ (S4 : World → Prop), (S4 w9 ∧
           indexSX 8 a2 t5 fun t9 =>
           fieldAddrX 1 t9 fun t10 =>
           indexSX 8 a2 t5 fun t11 =>
           fieldAddrX 3 t11 fun t12 =>
           load1H S4 t10 fun t13 =>
           load1H S4 t12 fun t14 =>
           callX Tryd.prog 57 [t2, t13, t14] w9 fun t15 w10 =>
           J3 w10)))
        (J3 w8))
       fun J5 =>
       indexSX 8 a2 t5 fun t16 =>
       fieldAddrX 0 t16 fun t17 =>
       load1X t17 w6 fun t18 =>
       eqX EqK.num t18 (Value.int IntKind.i64 0) fun t19 =>
       brX t19
         (indexSX 8 a2 t5 fun t20 =>
          fieldAddrX 3 t20 fun t21 =>
          load1X t21 w6 fun t22 =>
          lenSX t22 fun t23 =>
          ltX t23 (Value.int IntKind.i64 100) fun t24 =>
          J5 t24 w6)
       (J5 (Value.bool false) w6))
    (callX Tryd.prog 58 [t2, Value.int IntKind.i64 0] w6 fun t25 w11 =>
    extractX t25 0 fun t26 =>
    extractX t25 1 fun t27 =>
    callX Tryd.prog 58 [t2, Value.int IntKind.i64 1] w11 fun t28 w12 =>
    extractX t28 0 fun t29 =>
    extractX t28 1 fun t30 =>
    callX Tryd.prog 59 [t2, Value.int IntKind.i64 0, Value.int IntKind.i64 1] w12 fun t31 w13 =>
    extractX t31 0 fun t32 =>
    extractX t31 1 fun t33 =>
    joinX (α := Value → World → Prop)
    (fun t34 w14 =>
     brX t34
       (K (Value.bool false) w14)
     (strX t26 w14 fun t35 =>
     strX t29 w14 fun t36 =>
     callX Tryd.prog 60 [t35, t36] w14 fun t37 w15 =>
     extractX t37 0 fun t38 =>
     extractX t37 1 fun t39 =>
     newX 68 [Value.int IntKind.i64 0, Value.string { data := #[] }] w15 fun t40 w16 =>
     storeNX 2 t40 t38 w16 fun w17 =>
     callX Tryd.prog 61 [t32] w17 fun t41 w18 =>
     extractX t41 0 fun t42 =>
     extractX t41 1 fun t43 =>
     strX t42 w18 fun t44 =>
     fieldAddrX 1 t40 fun t45 =>
     load1X t45 w18 fun t46 =>
     eqX EqK.str t44 t46 fun t47 =>
     brX t47
       (fieldAddrX 0 t40 fun t48 =>
        load1X t48 w18 fun t49 =>
        eqX EqK.num t43 t49 fun t50 =>
        brX t50
          (callX Tryd.prog 62 [t32] w18 fun t51 w19 =>
           eqX EqK.num t51 t39 fun t52 =>
           brX t52
             (callX Tryd.prog 63 [] w19 fun t53 w20 =>
              K t53 w20)
           (K (Value.bool false) w19))
        (K (Value.bool false) w18))
     (K (Value.bool false) w18)))
    fun J6 =>
    neX EqK.num t27 (Value.int IntKind.i64 0) fun t54 =>
    brX t54
      (J6 (Value.bool true) w13)
    (neX EqK.num t30 (Value.int IntKind.i64 0) fun t55 =>
    brX t55
      (J6 (Value.bool true) w13)
    (neX EqK.num t33 (Value.int IntKind.i64 0) fun t56 =>
    J6 t56 w13))))
   fun J7 =>
   lenSX a2 fun t57 =>
   ltX t5 t57 fun t58 =>
   brX t58
     (ltX t5 (Value.int IntKind.i64 10) fun t59 =>
      J7 t59 w5)
   (J7 (Value.bool false) w5)))))
  fun J8 =>
  lenSX a0 fun t60 =>
  gtX t60 (Value.int IntKind.i64 1000) fun t61 =>
  brX t61
    (J8 (Value.bool true) w)
  (lenSX a1 fun t62 =>
  gtX t62 (Value.int IntKind.i64 1000) fun t63 =>
  J8 t63 w)
theorem e10 (a0 a1 a2 : Value) (w : World) (K : Cont) : fX Tryd.prog 10 an10 [a0, a1, a2] w K = s10 a0 a1 a2 w K := by kernel_rfl
theorem c10 (a0 a1 a2 : Value) (w : World) (K : Cont) (h : s10 a0 a1 a2 w K) : callX Tryd.prog 10 [a0, a1, a2] w K := fX_call mixed (e10 a0 a1 a2 w K) h

/-- berthing/berthinglaw06.SnapsNobody -/
def an11 : Ann := (.n none .nil .o (.n none .nil .o (.n none .nil (.n none .nil .o (.n none .nil (.n (some ([2, 3, 4, 5, 6, 17, 18, 19, 20, 21, 22, 23, 24, 25, 26, 27, 28, 29, 30, 31, 32, 33, 34, 35, 36, 37, 38, 39, 40, 41, 42, 43, 44, 45, 46, 47], [3])) .nil (.n none .nil .o (.n none .nil (.n none .nil (.n none .nil .o (.n none .nil (.n none .nil .o (.n (some ([4], [4])) .nil .o .o)) (.n none .nil .o (.n none .nil (.n (some ([30, 31, 32, 33, 34, 35, 36, 37, 38, 39, 40, 41, 42, 43, 44, 45, 46, 47], [47])) .nil .o .o) .o)))) .o) .o)) .o) .o)) .o)))
def s11 (a0 : Value) (w : World) (K : Cont) : Prop :=
  lenSX a0 fun t1 =>
  gtX t1 (Value.int IntKind.i64 1000) fun t2 =>
  brX t2
    (K (Value.bool true) w)
  (∃ (I1 : Value → World → Prop), ∃ (m2 : Value → World → Nat), (I1 (Value.int IntKind.i64 0) w ∧
  ∀ (t3 : Value), ∀ (w1 : World), (I1 t3 w1 →
  ltX t3 (Value.int IntKind.i64 2) fun t4 =>
  brX t4
    (buildX [Value.pointer none, Value.int IntKind.i64 0, Value.int IntKind.i64 0, Value.int IntKind.i64 0, Value.int IntKind.i64 0, Value.slice none 0 0, Value.bool false] [] fun t5 =>
     boxX 117 t5 w1 fun t6 w2 =>
     eqX EqK.num t3 (Value.int IntKind.i64 1) fun t7 =>
     joinX (α := Value → World → Prop)
     (fun t8 w3 =>
      callX Tryd.prog 61 [t8] w3 fun t9 w4 =>
      extractX t9 0 fun t10 =>
      extractX t9 1 fun t11 =>
      joinX (α := Value → World → Prop)
      (fun t12 w5 =>
       brX t12
         (K (Value.bool false) w5)
       (addX t3 (Value.int IntKind.i64 1) fun t13 =>
       (I1 t13 w5 ∧
       lessN (m2 t13 w5) (m2 t3 w1))))
      fun J3 =>
      callX Tryd.prog 64 [t8, a0] w4 fun t14 w6 =>
      neX EqK.num t14 (Value.int IntKind.i64 1) fun t15 =>
      brX t15
        (J3 (Value.bool true) w6)
      (lenSX t10 fun t16 =>
      neX EqK.num t16 (Value.int IntKind.i64 0) fun t17 =>
      brX t17
        (J3 (Value.bool true) w6)
      (neX EqK.num t11 (Value.int IntKind.i64 0) fun t18 =>
      brX t18
        (J3 (Value.bool true) w6)
      (callX Tryd.prog 62 [t8] w6 fun t19 w7 =>
      neX EqK.num t19 (Value.int IntKind.i64 (-1)) fun t20 =>
      J3 t20 w7))))
     fun J4 =>
     brX t7
       (J4 (Value.pointer none) w2)
     (J4 t6 w2))
  (callX Tryd.prog 50 [] w1 fun t21 w8 =>
  callX Tryd.prog 59 [Value.pointer none, Value.int IntKind.i64 0, Value.int IntKind.i64 1] w8 fun t22 w9 =>
  extractX t22 0 fun t23 =>
  extractX t22 1 fun t24 =>
  callX Tryd.prog 59 [t21, Value.int IntKind.i64 2, Value.int IntKind.i64 2] w9 fun t25 w10 =>
  extractX t25 0 fun t26 =>
  extractX t25 1 fun t27 =>
  callX Tryd.prog 59 [t21, Value.int IntKind.i64 0, Value.int IntKind.i64 7] w10 fun t28 w11 =>
  extractX t28 0 fun t29 =>
  extractX t28 1 fun t30 =>
  eqX EqK.num t24 (Value.int IntKind.i64 1) fun t31 =>
  brX t31
    (eqX EqK.num t27 (Value.int IntKind.i64 2) fun t32 =>
     brX t32
       (eqX EqK.num t30 (Value.int IntKind.i64 13) fun t33 =>
        brX t33
          (callX Tryd.prog 63 [] w11 fun t34 w12 =>
           K t34 w12)
        (K (Value.bool false) w11))
     (K (Value.bool false) w11))
  (K (Value.bool false) w11)))))
theorem e11 (a0 : Value) (w : World) (K : Cont) : fX Tryd.prog 11 an11 [a0] w K = s11 a0 w K := by kernel_rfl
theorem c11 (a0 : Value) (w : World) (K : Cont) (h : s11 a0 w K) : callX Tryd.prog 11 [a0] w K := fX_call mixed (e11 a0 w K) h

/-- berthing/berthinglaw06.SnapsBig -/
def an12 : Ann := (.n none .nil .o (.n none .nil .o (.n none .nil .o (.n none .nil .o (.n none .nil (.n none .nil (.n (some ([23, 24, 25, 26, 27, 28, 29, 30, 31], [31])) .nil .o .o) .o) (.n none .nil .o (.n none .nil (.n none .nil .o (.n none .nil (.n (some ([9, 34, 35, 36, 37, 38, 39, 40, 41, 42], [9])) .nil .o .o) .o)) .o)))))))
def s12 (a0 a1 : Value) (w : World) (K : Cont) : Prop :=
  andX a0 (Value.int IntKind.i64 131071) fun t1 =>
  callX Tryd.prog 50 [] w fun t2 w1 =>
  callX Tryd.prog 59 [t2, Value.int IntKind.i64 0, Value.int IntKind.i64 1] w1 fun t3 w2 =>
  extractX t3 0 fun t4 =>
  extractX t3 1 fun t5 =>
  joinX (α := Value → World → Prop)
  (fun t6 w3 =>
   brX t6
     (K (Value.bool false) w3)
   (makeSX 5 1 [Value.int IntKind.u8 0] t1 t1 w3 fun t7 w4 =>
   ∃ (I1 : Value → World → Prop), ∃ (m2 : Value → World → Nat), (I1 (Value.int IntKind.i64 0) w4 ∧
   ∀ (t8 : Value), ∀ (w5 : World), (I1 t8 w5 →
   ltX t8 t1 fun t9 =>
   brX t9
     (indexSX 1 t7 t8 fun t10 =>
      store1X t10 a1 w5 fun w6 =>
      addX t8 (Value.int IntKind.i64 1) fun t11 =>
      (I1 t11 w6 ∧
      lessN (m2 t11 w6) (m2 t8 w5)))
   (callX Tryd.prog 64 [t4, t7] w5 fun t12 w7 =>
   callX Tryd.prog 59 [t2, Value.int IntKind.i64 0, Value.int IntKind.i64 1] w7 fun t13 w8 =>
   extractX t13 0 fun t14 =>
   extractX t13 1 fun t15 =>
   callX Tryd.prog 61 [t14] w8 fun t16 w9 =>
   extractX t16 0 fun t17 =>
   extractX t16 1 fun t18 =>
   neX EqK.num t15 (Value.int IntKind.i64 0) fun t19 =>
   brX t19
     (K (Value.bool false) w9)
   (gtX t1 (Value.int IntKind.i64 65536) fun t20 =>
   brX t20
     (eqX EqK.num t12 (Value.int IntKind.i64 3) fun t21 =>
      brX t21
        (strX t17 w9 fun t22 =>
         buildSX 5 1 [a1] w9 fun t23 w10 =>
         strX t23 w10 fun t24 =>
         eqX EqK.str t22 t24 fun t25 =>
         brX t25
           (eqX EqK.num t18 (Value.int IntKind.i64 1) fun t26 =>
            brX t26
              (callX Tryd.prog 63 [] w10 fun t27 w11 =>
               K t27 w11)
            (K (Value.bool false) w10))
         (K (Value.bool false) w10))
      (K (Value.bool false) w9))
   (eqX EqK.num t12 (Value.int IntKind.i64 0) fun t28 =>
   brX t28
     (strX t17 w9 fun t29 =>
      strX t7 w9 fun t30 =>
      eqX EqK.str t29 t30 fun t31 =>
      brX t31
        (eqX EqK.num t18 (Value.int IntKind.i64 2) fun t32 =>
         brX t32
           (callX Tryd.prog 63 [] w9 fun t33 w12 =>
            K t33 w12)
         (K (Value.bool false) w9))
      (K (Value.bool false) w9))
   (K (Value.bool false) w9))))))))
  fun J3 =>
  neX EqK.num t5 (Value.int IntKind.i64 0) fun t34 =>
  brX t34
    (J3 (Value.bool true) w2)
  (buildSX 5 1 [a1] w2 fun t35 w13 =>
  callX Tryd.prog 64 [t4, t35] w13 fun t36 w14 =>
  neX EqK.num t36 (Value.int IntKind.i64 0) fun t37 =>
  J3 t37 w14)
theorem e12 (a0 a1 : Value) (w : World) (K : Cont) : fX Tryd.prog 12 an12 [a0, a1] w K = s12 a0 a1 w K := by kernel_rfl
theorem c12 (a0 a1 : Value) (w : World) (K : Cont) (h : s12 a0 a1 w K) : callX Tryd.prog 12 [a0, a1] w K := fX_call mixed (e12 a0 a1 w K) h

/-- berthing/berthinglaw06.SnapsTurns -/
def an14 : Ann := (.n none .nil .o (.n none .nil .o (.n none .nil .o (.n none .nil (.n none .nil (.n (some ([20, 21, 22, 23, 24, 25, 26, 27, 28, 29, 30], [30])) .nil .o .o) .o) (.n none .nil (.n none .nil .o (.n none .nil (.n (some ([2, 6, 7, 8, 9, 10, 11, 12, 13, 31, 32, 33, 34, 35, 36, 37, 38, 39, 40, 41, 42, 43, 44, 45, 46, 47, 48, 49, 50, 51, 52, 53, 54, 55, 56, 57, 58, 59, 60, 61, 62, 63, 64, 65, 66, 67, 68, 69, 70, 71, 72, 73, 74, 75, 76, 77, 78, 79, 80, 81, 82, 83, 84, 85, 86, 87, 88, 89, 90, 91, 92, 93, 94, 95, 96, 97, 98, 99, 100, 101, 102, 103, 104, 105, 106, 107, 108, 109, 110, 111, 112, 113, 114, 115, 116, 117, 118, 119], [6])) .nil (.n none .nil (.n none .nil (.n (some ([31, 32, 33, 34, 35, 36, 37, 38], [38])) .nil .o .o) .o) (.n none .nil (.n (some ([2, 7, 8, 9, 10, 11, 12, 13, 41, 42, 43, 44, 45, 46, 47, 48, 49, 50, 51, 52, 53, 54, 55, 56, 57, 58, 59, 60, 61, 62, 63, 64, 65, 66, 67, 68, 69, 70, 71, 72, 73, 74, 75, 76, 77, 78, 79, 80, 81, 82, 83, 84, 85, 86, 87, 88, 89, 90, 91, 92, 93, 94, 95, 96, 97, 98, 99, 100, 101, 102, 103, 104, 105, 106, 107, 108, 109, 110, 111, 112, 113, 114, 115, 116, 117, 118, 119], [])) .nil (.n none .nil .o (.n none .nil .o (.n none .nil .o (.n none .nil (.n none .nil (.n (some ([59, 60, 61, 62, 63, 64, 65, 66, 67, 68, 69, 70, 71, 72, 73, 74, 75, 76, 77, 78, 79, 80, 81, 82], [82])) (.one 0 (.one 2 (.one 3 (.one 4 (.one 1 (.one 5 (.one 6 (.one 7 (.one 8 (.one 9 (.one 10 (.one 11 (.one 12 (.one 13 (.one 14 (.one 15 (.one 18 (.one 19 (.eff (.alt 16 none (.eff (.alt 17 none (.one 20 (.one 21 (.one 22 (.one 23 .nil)))) .stop)) (.alt 17 none (.one 20 (.one 21 (.eff (.alt 16 none (.one 22 (.one 23 .nil)) .stop)))) .stop))))))))))))))))))))) .o .o) .o) (.n none .nil .o (.n none .nil .o (.n none .nil .o (.n none .nil .o (.n none .nil .o (.n none .nil (.n (some ([102, 103, 104, 105, 106, 107, 108, 109, 110, 111, 112, 113, 114, 115, 116, 117, 118, 119], [119])) (.one 0 (.one 1 (.one 2 (.one 3 (.one 5 (.one 6 (.one 7 (.one 8 (.one 4 (.one 9 (.one 10 (.one 11 (.one 12 (.one 13 (.one 14 (.one 15 (.one 16 (.one 17 .nil)))))))))))))))))) .o .o) .o)))))))))) .o) .o)) .o) .o)) .o)))))
def s14 (a0 : Value) (w : World) (K : Cont) : Prop :=
  callX Tryd.prog 50 [] w fun t1 w1 =>
  callX Tryd.prog 59 [t1, Value.int IntKind.i64 0, Value.int IntKind.i64 3] w1 fun t2 w2 =>
  extractX t2 0 fun t3 =>
  extractX t2 1 fun t4 =>
  joinX (α := Value → World → Prop)
  (fun t5 w3 =>
   brX t5
     (K (Value.bool false) w3)
   (∃ (I1 : Value → World → Prop), ∃ (m2 : Value → World → Nat), (I1 (Value.int IntKind.i64 0) w3 ∧
   ∀ (t6 : Value), ∀ (w4 : World), (I1 t6 w4 →
   joinX (α := Value → World → Prop)
   (fun t7 w5 =>
    brX t7
      (joinX (α := World → Prop)
       (fun w6 =>
        addX t6 (Value.int IntKind.i64 1) fun t8 =>
        (I1 t8 w6 ∧
        lessN (m2 t8 w6) (m2 t6 w4)))
       fun J3 =>
       indexSX 1 a0 t6 fun t9 =>
       load1X t9 w5 fun t10 =>
       lenSX t10 fun t11 =>
       gtX t11 (Value.int IntKind.i64 400) fun t12 =>
       brX t12
         (K (Value.bool true) w5)
       (indexSX 1 a0 t6 fun t13 =>
       load1X t13 w5 fun t14 =>
       callX Tryd.prog 64 [t3, t14] w5 fun t15 w7 =>
       neX EqK.num t15 (Value.int IntKind.i64 0) fun t16 =>
       brX t16
         (K (Value.bool false) w7)
       (callX Tryd.prog 61 [t3] w7 fun t17 w8 =>
       extractX t17 0 fun t18 =>
       extractX t17 1 fun t19 =>
       joinX (α := Value → World → Prop)
       (fun t20 w9 =>
        brX t20
          (K (Value.bool false) w9)
        (eqX EqK.num t6 (Value.int IntKind.i64 0) fun t21 =>
        brX t21
          (J3 w9)
        (callX Tryd.prog 67 [t1] w9 fun t22 w10 =>
        callX Tryd.prog 62 [t3] w10 fun t23 w11 =>
        callX Tryd.prog 68 [t22, t23] w11 fun t24 w12 =>
        neX EqK.num t24 (Value.int IntKind.i64 0) fun t25 =>
        brX t25
          (K (Value.bool false) w12)
        (callX Tryd.prog 59 [t22, Value.int IntKind.i64 0, Value.int IntKind.i64 3] w12 fun t26 w13 =>
        extractX t26 0 fun t27 =>
        extractX t26 1 fun t28 =>
        callX Tryd.prog 61 [t27] w13 fun t29 w14 =>
        extractX t29 0 fun t30 =>
        extractX t29 1 fun t31 =>
        joinX (α := Value → World → Prop)
        (fun t32 w15 =>
         brX t32
           (K (Value.bool false) w15)
         (J3 w15))
        fun J4 =>
        ∀ (w16 : World), (Drew w14 w16 →
        ∃ (S5 : World → Prop), (S5 w16 ∧
        neX EqK.num t28 (Value.int IntKind.i64 0) fun t33 =>
        brX t33
          (J4 (Value.bool true) w16)
        (subX t6 (Value.int IntKind.i64 1) fun t34 =>
        indexSX 1 a0 t34 fun t35 =>
        strH S5 t30 fun t36 =>
        load1H S5 t35 fun t37 =>
        strH S5 t37 fun t38 =>
        neX EqK.str t36 t38 fun t39 =>
        brX t39
          (J4 (Value.bool true) w16)
        (neX EqK.num t31 t6 fun t40 =>
        J4 t40 w16))))))))
       fun J6 =>
       ∀ (w17 : World), (Drew w8 w17 →
       ∃ (S7 : World → Prop), (S7 w17 ∧
       indexSX 1 a0 t6 fun t41 =>
       strH S7 t18 fun t42 =>
       load1H S7 t41 fun t43 =>
       strH S7 t43 fun t44 =>
       neX EqK.str t42 t44 fun t45 =>
       brX t45
         ((J6 (Value.bool true) w17 ∧
          J6 (Value.bool true) w17))
       (addX t6 (Value.int IntKind.i64 1) fun t46 =>
       neX EqK.num t19 t46 fun t47 =>
       brX t47
         ((J6 (Value.bool true) w17 ∧
          J6 (Value.bool true) w17))
       (remX t6 (Value.int IntKind.i64 2) fun t48 =>
       ((callX Tryd.prog 62 [t3] w17 fun t49 w18 =>
       (S7 w18 ∧
       buildSX 3 1 [Value.int IntKind.i64 0, Value.int IntKind.i64 3] w18 fun t50 w19 =>
       (S7 w19 ∧
       indexSX 1 t50 t48 fun t51 =>
       load1H S7 t51 fun t52 =>
       neX EqK.num t49 t52 fun t53 =>
       J6 t53 w19))) ∧
       buildSX 3 1 [Value.int IntKind.i64 0, Value.int IntKind.i64 3] w17 fun t54 w20 =>
       (S7 w20 ∧
       indexSX 1 t54 t48 fun t55 =>
       load1H S7 t55 fun t56 =>
       callX Tryd.prog 62 [t3] w20 fun t57 w21 =>
       (S7 w21 ∧
       neX EqK.num t57 t56 fun t58 =>
       J6 t58 w21))))))))))
    (callX Tryd.prog 63 [] w5 fun t59 w22 =>
    K t59 w22))
   fun J8 =>
   lenSX a0 fun t60 =>
   ltX t6 t60 fun t61 =>
   brX t61
     (ltX t6 (Value.int IntKind.i64 20) fun t62 =>
      J8 t62 w4)
   (J8 (Value.bool false) w4)))))
  fun J9 =>
  neX EqK.num t4 (Value.int IntKind.i64 0) fun t63 =>
  brX t63
    (J9 (Value.bool true) w2)
  (eqX EqK.ptr t3 (Value.pointer none) fun t64 =>
  brX t64
    (J9 (Value.bool true) w2)
  (callX Tryd.prog 62 [t3] w2 fun t65 w23 =>
  neX EqK.num t65 (Value.int IntKind.i64 (-1)) fun t66 =>
  J9 t66 w23))
theorem e14 (a0 : Value) (w : World) (K : Cont) : fX Tryd.prog 14 an14 [a0] w K = s14 a0 w K := by kernel_rfl
theorem c14 (a0 : Value) (w : World) (K : Cont) (h : s14 a0 w K) : callX Tryd.prog 14 [a0] w K := fX_call mixed (e14 a0 w K) h

/-- berthing/berthinglaw06.SnapsFalls -/
def an15 : Ann := (.n none .nil .o (.n none .nil .o (.n none .nil .o (.n none .nil (.n none .nil (.n (some ([21, 22, 23, 24, 25, 26], [26])) .nil .o .o) .o) (.n none .nil .o (.n none .nil (.n none .nil .o (.n none .nil (.n (some ([2, 4, 6, 7, 8, 9, 10, 11, 12, 13, 14, 27, 28, 29, 30, 31, 32, 33, 34, 35, 36, 37, 38, 39, 40, 41, 42, 43, 44, 45, 46, 47, 48, 49, 50, 51, 52, 53, 54, 55, 56, 57, 58, 59, 60, 61, 62, 63, 64, 65, 66, 67, 68, 69, 70, 71, 72, 73, 74, 75, 76, 77, 78, 79, 80, 81, 82, 83, 84, 85, 86, 87, 88, 89, 90, 91, 92, 93, 94, 95, 96, 97, 98, 99, 100, 101, 102, 103, 104, 105, 106, 107, 108, 109, 110, 111, 112, 113, 114, 115, 116, 117, 118, 119, 120, 121, 122], [4, 6, 7, 8])) .nil (.n none .nil (.n none .nil (.n (some ([27, 28, 29, 30, 31, 32, 33, 34], [34])) .nil .o .o) .o) (.n none .nil (.n (some ([2, 4, 6, 7, 9, 10, 11, 12, 13, 14, 37, 38, 39, 40, 41, 42, 43, 44, 45, 46, 47, 48, 49, 50, 51, 52, 53, 54, 55, 56, 57, 58, 59, 60, 61, 62, 63, 64, 65, 66, 67, 68, 69, 70, 71, 72, 73, 74, 75, 76, 77, 78, 79, 80, 81, 82, 83, 84, 85, 86, 87, 88, 89, 90, 91, 92, 93, 94, 95, 96, 97, 98, 99, 100, 101, 102, 103, 104, 105, 106, 107, 108, 109, 110, 111, 112, 113, 114, 115, 116, 117, 118, 119, 120, 121, 122], [4, 6, 7])) .nil (.n none .nil .o (.n none .nil .o (.n none .nil (.n none .nil .o (.n (some ([48, 49, 50, 51, 52], [])) .nil .o .o)) (.n none .nil .o (.n none .nil .o (.n none .nil (.n none .nil .o (.n (some ([2, 4, 6, 7, 10, 11, 12, 61, 62, 63, 64, 65, 66, 67, 68, 69, 70, 71, 72, 73, 74, 75, 76, 77, 78, 79, 80, 81, 82, 83, 84, 85, 86, 87, 88, 89, 90, 91, 92, 93, 94, 95, 96, 97, 98, 99, 100, 101, 102, 103, 104, 105, 106, 107, 108], [4, 6, 7])) .nil .o (.n none .nil (.n none .nil (.n (some ([66, 67, 68, 69, 70, 71, 72], [72])) .nil .o .o) .o) (.n none .nil .o (.n none .nil .o (.n none .nil .o (.n none .nil .o (.n none .nil (.n (some ([94, 95, 96, 97, 98, 99, 100, 101, 102, 103, 104, 105], [105])) .nil .o .o) .o)))))))) (.n none .nil .o (.n none .nil (.n (some ([114, 115, 116, 117, 118, 119, 120, 121, 122], [122])) .nil .o .o) .o)))))))) .o) .o)) .o) .o)) .o))))))
def s15 (a0 : Value) (w : World) (K : Cont) : Prop :=
  callX Tryd.prog 50 [] w fun t1 w1 =>
  callX Tryd.prog 59 [t1, Value.int IntKind.i64 3, Value.int IntKind.i64 1] w1 fun t2 w2 =>
  extractX t2 0 fun t3 =>
  extractX t2 1 fun t4 =>
  joinX (α := Value → World → Prop)
  (fun t5 w3 =>
   brX t5
     (K (Value.bool false) w3)
   (∃ (I1 : Value → Value → Value → Value → World → Prop), ∃ (m2 : Value → Value → Value → Value → World → Nat), (I1 t3 (Value.string { data := #[] }) (Value.int IntKind.i64 0) (Value.int IntKind.i64 0) w3 ∧
   ∀ (t6 : Value), ∀ (t7 : Value), ∀ (t8 : Value), ∀ (t9 : Value), ∀ (w4 : World), (I1 t6 t7 t8 t9 w4 →
   joinX (α := Value → World → Prop)
   (fun t10 w5 =>
    brX t10
      (joinX (α := Value → Value → Value → World → Prop)
       (fun t11 t12 t13 w6 =>
        addX t9 (Value.int IntKind.i64 1) fun t14 =>
        (I1 t11 t12 t13 t14 w6 ∧
        lessN (m2 t11 t12 t13 t14 w6) (m2 t6 t7 t8 t9 w4)))
       fun J3 =>
       indexSX 3 a0 t9 fun t15 =>
       loadNX 3 t15 w5 fun t16 =>
       newX 132 [Value.slice none 0 0, Value.int IntKind.i64 0, Value.int IntKind.i64 0] w5 fun t17 w7 =>
       storeNX 3 t17 t16 w7 fun w8 =>
       fieldAddrX 0 t17 fun t18 =>
       load1X t18 w8 fun t19 =>
       lenSX t19 fun t20 =>
       gtX t20 (Value.int IntKind.i64 300) fun t21 =>
       brX t21
         (J3 t6 t7 t8 w8)
       (fieldAddrX 1 t17 fun t22 =>
       load1X t22 w8 fun t23 =>
       geX t23 (Value.int IntKind.i64 0) fun t24 =>
       joinX (α := World → Prop)
       (fun w9 =>
        fieldAddrX 0 t17 fun t25 =>
        load1X t25 w9 fun t26 =>
        callX Tryd.prog 64 [t6, t26] w9 fun t27 w10 =>
        callX Tryd.prog 65 [t1, Value.int IntKind.i64 (-1)] w10 fun t28 w11 =>
        eqX EqK.num t27 (Value.int IntKind.i64 0) fun t29 =>
        joinX (α := Value → Value → Value → World → Prop)
        (fun t30 t31 t32 w12 =>
         callX Tryd.prog 61 [t30] w12 fun t33 w13 =>
         extractX t33 0 fun t34 =>
         extractX t33 1 fun t35 =>
         joinX (α := Value → World → Prop)
         (fun t36 w14 =>
          brX t36
            (K (Value.bool false) w14)
          (J3 t30 t31 t32 w14))
         fun J4 =>
         strX t34 w13 fun t37 =>
         neX EqK.str t37 t31 fun t38 =>
         brX t38
           (J4 (Value.bool true) w13)
         (neX EqK.num t35 t32 fun t39 =>
         J4 t39 w13))
        fun J5 =>
        brX t29
          (fieldAddrX 0 t17 fun t40 =>
           load1X t40 w11 fun t41 =>
           strX t41 w11 fun t42 =>
           addX t8 (Value.int IntKind.i64 1) fun t43 =>
           J5 t6 t42 t43 w11)
        (joinX (α := Value → World → Prop)
        (fun t44 w15 =>
         brX t44
           (K (Value.bool false) w15)
         (fieldAddrX 2 t17 fun t45 =>
         load1X t45 w15 fun t46 =>
         fieldAddrX 2 t17 fun t47 =>
         load1X t47 w15 fun t48 =>
         fieldAddrX 2 t17 fun t49 =>
         load1X t49 w15 fun t50 =>
         buildX [Value.int IntKind.i64 0, Value.int IntKind.i64 0, Value.int IntKind.i64 0, Value.int IntKind.i64 0] [(0, 1, t46), (1, 1, t48), (2, 1, Value.int IntKind.i64 0), (3, 1, t50)] fun t51 =>
         callX Tryd.prog 66 [t1, t51] w15 fun t52 w16 =>
         callX Tryd.prog 59 [t1, Value.int IntKind.i64 3, Value.int IntKind.i64 1] w16 fun t53 w17 =>
         extractX t53 0 fun t54 =>
         extractX t53 1 fun t55 =>
         neX EqK.num t55 (Value.int IntKind.i64 0) fun t56 =>
         brX t56
           (K (Value.bool false) w17)
         (callX Tryd.prog 61 [t54] w17 fun t57 w18 =>
         extractX t57 0 fun t58 =>
         extractX t57 1 fun t59 =>
         joinX (α := Value → World → Prop)
         (fun t60 w19 =>
          brX t60
            (strX t58 w19 fun t61 =>
             J5 t54 t61 t59 w19)
          (J5 t54 t7 t8 w19))
         fun J6 =>
         addX t8 (Value.int IntKind.i64 1) fun t62 =>
         eqX EqK.num t59 t62 fun t63 =>
         brX t63
           (strX t58 w18 fun t64 =>
            fieldAddrX 0 t17 fun t65 =>
            load1X t65 w18 fun t66 =>
            strX t66 w18 fun t67 =>
            eqX EqK.str t64 t67 fun t68 =>
            J6 t68 w18)
         (J6 (Value.bool false) w18))))
        fun J7 =>
        neX EqK.num t27 (Value.int IntKind.i64 17) fun t69 =>
        brX t69
          (J7 (Value.bool true) w11)
        (callX Tryd.prog 64 [t6, Value.slice none 0 0] w11 fun t70 w20 =>
        neX EqK.num t70 (Value.int IntKind.i64 16) fun t71 =>
        J7 t71 w20)))
       fun J8 =>
       brX t24
         (fieldAddrX 1 t17 fun t72 =>
          load1X t72 w8 fun t73 =>
          andX t73 (Value.int IntKind.i64 3) fun t74 =>
          callX Tryd.prog 65 [t1, t74] w8 fun t75 w21 =>
          J8 w21)
       (J8 w8)))
    (callX Tryd.prog 63 [] w5 fun t76 w22 =>
    K t76 w22))
   fun J9 =>
   lenSX a0 fun t77 =>
   ltX t9 t77 fun t78 =>
   brX t78
     (ltX t9 (Value.int IntKind.i64 30) fun t79 =>
      J9 t79 w4)
   (J9 (Value.bool false) w4)))))
  fun J10 =>
  neX EqK.num t4 (Value.int IntKind.i64 0) fun t80 =>
  brX t80
    (J10 (Value.bool true) w2)
  (eqX EqK.ptr t3 (Value.pointer none) fun t81 =>
  J10 t81 w2)
theorem e15 (a0 : Value) (w : World) (K : Cont) : fX Tryd.prog 15 an15 [a0] w K = s15 a0 w K := by kernel_rfl
theorem c15 (a0 : Value) (w : World) (K : Cont) (h : s15 a0 w K) : callX Tryd.prog 15 [a0] w K := fX_call mixed (e15 a0 w K) h

end Go.Proofs.YtgnmelnohclpgaaDoor
