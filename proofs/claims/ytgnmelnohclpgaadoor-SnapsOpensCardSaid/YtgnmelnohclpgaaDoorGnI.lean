/- The journal's laws, their meanings. -/
import Derived.Test.YtgnmelnohclpgaaDoorSxS
set_option linter.unusedVariables false
namespace Go.Proofs.YtgnmelnohclpgaaDoor
open Go

/-- berthing/berthinglaw05.JournalFrames -/
def an5 : Ann := (.n none .nil .o (.n none .nil (.n none .nil (.n (some ([14, 15, 16, 17, 18, 19, 20, 21, 22], [22])) .nil .o .o) .o) (.n none .nil .o (.n none .nil .o (.n none .nil .o (.n none .nil .o (.n none .nil (.n none .nil (.n (some ([45, 46, 47, 48, 49, 50, 51, 52, 53, 54, 55, 56, 57, 58, 59, 60, 61, 62, 63, 64, 65], [65])) .nil .o .o) .o) (.n none .nil (.n none .nil .o (.n none .nil (.n (some ([4, 13, 66, 67, 68, 69, 70, 71, 72, 73, 74, 75, 76, 77, 78, 79, 80, 81], [13])) .nil (.n none .nil .o (.n none .nil (.n none .nil (.n none .nil (.n none (.one 0 (.one 1 (.one 2 (.one 5 (.one 6 (.one 7 (.one 3 (.one 8 (.eff (.alt 4 none (.one 9 .nil) .stop)))))))))) .o .o) .o) .o) .o)) .o) .o)) .o))))))))
def s5 (a0 a1 : Value) (w : World) (K : Cont) : Prop :=
  boxX 62 a0 w fun t1 w1 =>
  joinX (α := Value → World → Prop)
  (fun t2 w2 =>
   brX t2
     (K (Value.bool true) w2)
   (loadNX 2 t1 w2 fun t3 =>
   callX Tryd.prog 37 [t3] w2 fun t4 w3 =>
   extractX t4 0 fun t5 =>
   extractX t4 1 fun t6 =>
   loadNX 2 t1 w3 fun t7 =>
   callX Tryd.prog 39 [t7] w3 fun t8 w4 =>
   callX Tryd.prog 38 [t8] w4 fun t9 w5 =>
   extractX t9 0 fun t10 =>
   extractX t9 1 fun t11 =>
   callX Tryd.prog 40 [a1] w5 fun t12 w6 =>
   extractX t12 0 fun t13 =>
   extractX t12 1 fun t14 =>
   strX a1 w6 fun t15 =>
   callX Tryd.prog 41 [t15] w6 fun t16 w7 =>
   extractX t16 0 fun t17 =>
   extractX t16 1 fun t18 =>
   joinX (α := Value → World → Prop)
   (fun t19 w8 =>
    brX t19
      (K (Value.bool false) w8)
    (∃ (I1 : Value → World → Prop), ∃ (m2 : Value → World → Nat), (I1 (Value.int IntKind.i64 0) w8 ∧
    ∀ (t20 : Value), ∀ (w9 : World), (I1 t20 w9 →
    lenSX t13 fun t21 =>
    ltX t20 t21 fun t22 =>
    brX t22
      (∀ (w10 : World), (Drew w9 w10 →
       ∃ (S3 : World → Prop), (S3 w10 ∧
       indexSX 2 t13 t20 fun t23 =>
       indexSX 2 t17 t20 fun t24 =>
       loadNH S3 2 t23 fun t25 =>
       loadNH S3 2 t24 fun t26 =>
       callX Tryd.prog 39 [t25] w10 fun t27 w11 =>
       (S3 w11 ∧
       neNX 2 [(0, EqK.num), (1, EqK.str)] t27 t26 fun t28 =>
       brX t28
         (K (Value.bool false) w11)
       (addX t20 (Value.int IntKind.i64 1) fun t29 =>
       (I1 t29 w11 ∧
       lessN (m2 t29 w11) (m2 t20 w9)))))))
    (callX Tryd.prog 42 [] w9 fun t30 w12 =>
    K t30 w12)))))
   fun J4 =>
   strX t5 w7 fun t31 =>
   neX EqK.str t31 t10 fun t32 =>
   brX t32
     (J4 (Value.bool true) w7)
   (neX EqK.num t6 t11 fun t33 =>
   brX t33
     (J4 (Value.bool true) w7)
   (neX EqK.num t14 t18 fun t34 =>
   brX t34
     (J4 (Value.bool true) w7)
   (lenSX t13 fun t35 =>
   lenSX t17 fun t36 =>
   neX EqK.num t35 t36 fun t37 =>
   J4 t37 w7)))))
  fun J5 =>
  fieldAddrX 1 t1 fun t38 =>
  load1X t38 w1 fun t39 =>
  lenSX t39 fun t40 =>
  gtX t40 (Value.int IntKind.i64 3000) fun t41 =>
  brX t41
    (J5 (Value.bool true) w1)
  (lenSX a1 fun t42 =>
  gtX t42 (Value.int IntKind.i64 5000) fun t43 =>
  J5 t43 w1)
theorem e5 (a0 a1 : Value) (w : World) (K : Cont) : fX Tryd.prog 5 an5 [a0, a1] w K = s5 a0 a1 w K := by kernel_rfl
theorem c5 (a0 a1 : Value) (w : World) (K : Cont) (h : s5 a0 a1 w K) : callX Tryd.prog 5 [a0, a1] w K := fX_call mixed (e5 a0 a1 w K) h

/-- berthing/berthinglaw05.JournalNobody -/
def an9 : Ann := (.n none .nil .o (.n none .nil .o (.n none .nil (.n none .nil .o (.n none .nil (.n (some ([2, 3, 4, 13, 14, 15, 16, 17, 18, 19, 20, 21, 22, 23, 24, 25, 26, 27, 28, 29, 30, 31, 32, 33, 34, 35, 36, 37, 38, 39, 40, 41, 42, 43, 44, 45, 46], [3])) .nil (.n none .nil .o (.n none .nil (.n none .nil (.n none .nil .o (.n none .nil (.n none .nil .o (.n (some ([4], [4])) .nil .o .o)) (.n none .nil (.n (some ([21, 22, 23, 24, 25, 26, 27, 28, 29, 30, 31, 32, 33, 34, 35, 36, 37, 38, 39, 40, 41, 42, 43, 44, 45, 46], [46])) .nil .o .o) .o))) .o) .o)) .o) .o)) .o)))
def s9 (a0 : Value) (w : World) (K : Cont) : Prop :=
  boxX 62 a0 w fun t1 w1 =>
  fieldAddrX 1 t1 fun t2 =>
  load1X t2 w1 fun t3 =>
  lenSX t3 fun t4 =>
  gtX t4 (Value.int IntKind.i64 1000) fun t5 =>
  brX t5
    (K (Value.bool true) w1)
  (∃ (I1 : Value → World → Prop), ∃ (m2 : Value → World → Nat), (I1 (Value.int IntKind.i64 0) w1 ∧
  ∀ (t6 : Value), ∀ (w2 : World), (I1 t6 w2 →
  ltX t6 (Value.int IntKind.i64 2) fun t7 =>
  brX t7
    (buildX [Value.pointer none, Value.int IntKind.i64 0, Value.slice none 0 0, Value.int IntKind.i64 0, Value.bool false, Value.bool false] [] fun t8 =>
     boxX 99 t8 w2 fun t9 w3 =>
     eqX EqK.num t6 (Value.int IntKind.i64 1) fun t10 =>
     joinX (α := Value → World → Prop)
     (fun t11 w4 =>
      joinX (α := Value → World → Prop)
      (fun t12 w5 =>
       brX t12
         (K (Value.bool false) w5)
       (addX t6 (Value.int IntKind.i64 1) fun t13 =>
       (I1 t13 w5 ∧
       lessN (m2 t13 w5) (m2 t6 w2))))
      fun J3 =>
      loadNX 2 t1 w4 fun t14 =>
      callX Tryd.prog 52 [t11, t14] w4 fun t15 w6 =>
      neX EqK.num t15 (Value.int IntKind.i64 1) fun t16 =>
      brX t16
        (J3 (Value.bool true) w6)
      (callX Tryd.prog 55 [t11] w6 fun t17 w7 =>
      neX EqK.num t17 (Value.int IntKind.i64 1) fun t18 =>
      brX t18
        (J3 (Value.bool true) w7)
      (fieldAddrX 0 t1 fun t19 =>
      load1X t19 w7 fun t20 =>
      callX Tryd.prog 53 [t11, t20] w7 fun t21 w8 =>
      lenSX t21 fun t22 =>
      neX EqK.num t22 (Value.int IntKind.i64 0) fun t23 =>
      brX t23
        (J3 (Value.bool true) w8)
      (callX Tryd.prog 54 [t11] w8 fun t24 w9 =>
      neX EqK.num t24 (Value.int IntKind.i64 0) fun t25 =>
      brX t25
        (J3 (Value.bool true) w9)
      (callX Tryd.prog 56 [t11] w9 fun t26 w10 =>
      J3 t26 w10)))))
     fun J4 =>
     brX t10
       (J4 (Value.pointer none) w3)
     (J4 t9 w3))
  (callX Tryd.prog 51 [Value.pointer none, Value.int IntKind.i64 0] w2 fun t27 w11 =>
  extractX t27 0 fun t28 =>
  extractX t27 1 fun t29 =>
  callX Tryd.prog 50 [] w11 fun t30 w12 =>
  callX Tryd.prog 51 [t30, Value.int IntKind.i64 9] w12 fun t31 w13 =>
  extractX t31 0 fun t32 =>
  extractX t31 1 fun t33 =>
  eqX EqK.num t29 (Value.int IntKind.i64 1) fun t34 =>
  brX t34
    (eqX EqK.num t33 (Value.int IntKind.i64 13) fun t35 =>
     brX t35
       (callX Tryd.prog 42 [] w13 fun t36 w14 =>
        K t36 w14)
     (K (Value.bool false) w13))
  (K (Value.bool false) w13)))))
theorem e9 (a0 : Value) (w : World) (K : Cont) : fX Tryd.prog 9 an9 [a0] w K = s9 a0 w K := by kernel_rfl
theorem c9 (a0 : Value) (w : World) (K : Cont) (h : s9 a0 w K) : callX Tryd.prog 9 [a0] w K := fX_call mixed (e9 a0 w K) h

/-- berthing/berthinglaw05.JournalCuts -/
def an6 : Ann := (.n none .nil .o (.n none .nil .o (.n none .nil .o (.n none .nil (.n none .nil .o (.n none .nil (.n (some ([4, 5, 6, 7, 8, 9, 15, 16, 17, 18, 19, 20, 21, 22, 23, 24, 25, 26, 27, 28, 29, 30, 31, 32, 33, 34, 35, 36, 37, 38, 39, 40, 41, 42, 43, 44, 45, 46, 47, 48, 49, 50, 51, 52, 53, 54, 55, 56], [5, 6, 7])) .nil (.n none .nil (.n none .nil (.n (some ([15, 16, 17, 18, 19, 20, 21, 22, 23, 24, 25, 26, 27, 28, 29, 30, 31], [31])) .nil .o .o) .o) (.n none .nil (.n none .nil (.n none .nil .o (.n none .nil (.n none .nil (.n (some ([42, 43, 44, 45, 46, 47, 48], [48])) .nil .o .o) .o) .o)) .o) .o)) .o) .o)) (.n none .nil .o (.n none .nil (.n none .nil .o (.n (some ([10, 60, 61, 62, 63, 64, 65, 66, 67, 68, 69, 70, 71, 72], [10])) .nil .o .o)) (.n none .nil .o (.n none .nil .o (.n none .nil (.n none .nil (.n (some ([13, 80, 81, 82, 83, 84, 85, 86, 87, 88, 89, 90, 91, 92, 93], [13])) .nil (.n none .nil (.n none .nil (.n (some ([80, 81, 82, 83, 84, 85, 86, 87, 88, 89, 90, 91], [91])) .nil .o .o) .o) .o) .o) .o) (.n none .nil (.n none .nil (.n (some ([94, 95, 96, 97, 98, 99, 100, 101, 102, 103, 104, 105, 106, 107, 108, 109, 110, 111, 112, 113, 114, 115, 116, 117, 118], [118])) .nil .o .o) .o) (.n none .nil (.n none .nil .o (.n none .nil (.n (some ([4, 14, 119, 120, 121, 122, 123, 124, 125, 126, 127, 128, 129, 130, 131, 132, 133, 134, 135, 136, 137, 138, 139, 140, 141, 142, 143, 144, 145, 146, 147, 148, 149], [14])) .nil (.n none .nil .o (.n none .nil (.n none .nil (.n none .nil (.n (some ([124, 125, 126, 127, 128, 129, 130, 131, 132, 133, 134, 135, 136, 137, 138, 139, 140, 141, 142, 143, 144, 145, 146, 147, 148, 149], [149])) (.one 0 (.one 1 (.one 2 (.one 3 (.one 5 (.one 6 (.one 7 (.one 8 (.one 4 (.one 9 (.one 10 (.one 11 (.one 12 (.one 13 (.one 14 (.one 15 (.one 18 (.one 19 (.one 20 (.one 21 (.one 16 (.one 17 (.one 22 (.one 23 (.one 24 (.one 25 .nil)))))))))))))))))))))))))) .o .o) .o) .o) .o)) .o) .o)) .o)))))))))))
def s6 (a0 a1 : Value) (w : World) (K : Cont) : Prop :=
  ∃ (I1 : Value → Value → Value → World → Prop), ∃ (m2 : Value → Value → Value → World → Nat), (I1 (Value.slice none 0 0) (Value.slice none 0 0) (Value.int IntKind.i64 0) w ∧
  ∀ (t1 : Value), ∀ (t2 : Value), ∀ (t3 : Value), ∀ (w1 : World), (I1 t1 t2 t3 w1 →
  joinX (α := Value → World → Prop)
  (fun t4 w2 =>
   brX t4
     (indexSX 2 a0 t3 fun t5 =>
      loadNX 2 t5 w2 fun t6 =>
      callX Tryd.prog 37 [t6] w2 fun t7 w3 =>
      extractX t7 0 fun t8 =>
      extractX t7 1 fun t9 =>
      joinX (α := Value → World → Prop)
      (fun t10 w4 =>
       brX t10
         (K (Value.bool false) w4)
       (appendX 5 1 1 [Value.int IntKind.u8 0] t1 t8 w4 fun t11 w5 =>
       lenSX t11 fun t12 =>
       buildSX 3 1 [t12] w5 fun t13 w6 =>
       appendX 3 1 8 [Value.int IntKind.i64 0] t2 t13 w6 fun t14 w7 =>
       addX t3 (Value.int IntKind.i64 1) fun t15 =>
       (I1 t11 t14 t15 w7 ∧
       lessN (m2 t11 t14 t15 w7) (m2 t1 t2 t3 w1))))
      fun J3 =>
      neX EqK.num t9 (Value.int IntKind.i64 0) fun t16 =>
      brX t16
        (J3 (Value.bool true) w3)
      (lenSX t8 fun t17 =>
      ltX t17 (Value.int IntKind.i64 9) fun t18 =>
      J3 t18 w3))
   (lenSX t1 fun t19 =>
   gtX t19 (Value.int IntKind.i64 0) fun t20 =>
   joinX (α := Value → World → Prop)
   (fun t21 w8 =>
    sliceX 1 t1 none (some t21) none fun t22 =>
    callX Tryd.prog 40 [t22] w8 fun t23 w9 =>
    extractX t23 0 fun t24 =>
    extractX t23 1 fun t25 =>
    ∃ (I4 : Value → World → Prop), ∃ (m5 : Value → World → Nat), (I4 (Value.int IntKind.i64 0) w9 ∧
    ∀ (t26 : Value), ∀ (w10 : World), (I4 t26 w10 →
    joinX (α := Value → World → Prop)
    (fun t27 w11 =>
     brX t27
       (addX t26 (Value.int IntKind.i64 1) fun t28 =>
        (I4 t28 w11 ∧
        lessN (m5 t28 w11) (m5 t26 w10)))
     (joinX (α := Value → World → Prop)
     (fun t29 w12 =>
      brX t29
        (K (Value.bool false) w12)
      (∃ (I6 : Value → World → Prop), ∃ (m7 : Value → World → Nat), (I6 (Value.int IntKind.i64 0) w12 ∧
      ∀ (t30 : Value), ∀ (w13 : World), (I6 t30 w13 →
      ltX t30 t26 fun t31 =>
      brX t31
        (joinX (α := Value → World → Prop)
         (fun t32 w14 =>
          brX t32
            (K (Value.bool false) w14)
          (addX t30 (Value.int IntKind.i64 1) fun t33 =>
          (I6 t33 w14 ∧
          lessN (m7 t33 w14) (m7 t30 w13))))
         fun J8 =>
         ∀ (w15 : World), (Drew w13 w15 →
         ∃ (S9 : World → Prop), (S9 w15 ∧
         indexSX 2 t24 t30 fun t34 =>
         fieldAddrX 0 t34 fun t35 =>
         indexSX 2 a0 t30 fun t36 =>
         fieldAddrX 0 t36 fun t37 =>
         load1H S9 t35 fun t38 =>
         load1H S9 t37 fun t39 =>
         neX EqK.num t38 t39 fun t40 =>
         brX t40
           (J8 (Value.bool true) w15)
         (indexSX 2 t24 t30 fun t41 =>
         fieldAddrX 1 t41 fun t42 =>
         indexSX 2 a0 t30 fun t43 =>
         fieldAddrX 1 t43 fun t44 =>
         load1H S9 t42 fun t45 =>
         strH S9 t45 fun t46 =>
         load1H S9 t44 fun t47 =>
         strH S9 t47 fun t48 =>
         neX EqK.str t46 t48 fun t49 =>
         J8 t49 w15))))
      (callX Tryd.prog 42 [] w13 fun t50 w16 =>
      K t50 w16)))))
     fun J10 =>
     lenSX t24 fun t51 =>
     neX EqK.num t51 t26 fun t52 =>
     brX t52
       (J10 (Value.bool true) w11)
     (gtX t26 (Value.int IntKind.i64 0) fun t53 =>
     brX t53
       (subX t26 (Value.int IntKind.i64 1) fun t54 =>
        indexSX 1 t2 t54 fun t55 =>
        load1X t55 w11 fun t56 =>
        neX EqK.num t25 t56 fun t57 =>
        brX t57
          (J10 (Value.bool true) w11)
        (eqX EqK.num t26 (Value.int IntKind.i64 0) fun t58 =>
        brX t58
          (neX EqK.num t25 (Value.int IntKind.i64 0) fun t59 =>
           J10 t59 w11)
        (J10 (Value.bool false) w11)))
     (eqX EqK.num t26 (Value.int IntKind.i64 0) fun t60 =>
     brX t60
       (neX EqK.num t25 (Value.int IntKind.i64 0) fun t61 =>
        J10 t61 w11)
     (J10 (Value.bool false) w11)))))
    fun J11 =>
    lenSX t2 fun t62 =>
    ltX t26 t62 fun t63 =>
    brX t63
      (indexSX 1 t2 t26 fun t64 =>
       load1X t64 w10 fun t65 =>
       leX t65 t21 fun t66 =>
       J11 t66 w10)
    (J11 (Value.bool false) w10))))
   fun J12 =>
   brX t20
     (lenSX t1 fun t67 =>
      addX t67 (Value.int IntKind.i64 1) fun t68 =>
      remX a1 t68 fun t69 =>
      lenSX t1 fun t70 =>
      addX t69 t70 fun t71 =>
      addX t71 (Value.int IntKind.i64 1) fun t72 =>
      lenSX t1 fun t73 =>
      addX t73 (Value.int IntKind.i64 1) fun t74 =>
      remX t72 t74 fun t75 =>
      J12 t75 w2)
   (J12 (Value.int IntKind.i64 0) w2)))
  fun J13 =>
  lenSX a0 fun t76 =>
  ltX t3 t76 fun t77 =>
  brX t77
    (ltX t3 (Value.int IntKind.i64 12) fun t78 =>
     brX t78
       (indexSX 2 a0 t3 fun t79 =>
        fieldAddrX 1 t79 fun t80 =>
        load1X t80 w1 fun t81 =>
        lenSX t81 fun t82 =>
        ltX t82 (Value.int IntKind.i64 300) fun t83 =>
        J13 t83 w1)
     (J13 (Value.bool false) w1))
  (J13 (Value.bool false) w1)))
theorem e6 (a0 a1 : Value) (w : World) (K : Cont) : fX Tryd.prog 6 an6 [a0, a1] w K = s6 a0 a1 w K := by kernel_rfl
theorem c6 (a0 a1 : Value) (w : World) (K : Cont) (h : s6 a0 a1 w K) : callX Tryd.prog 6 [a0, a1] w K := fX_call mixed (e6 a0 a1 w K) h

/-- berthing/berthinglaw05.JournalGens -/
def an8 : Ann := (.n none .nil .o (.n none .nil .o (.n none .nil .o (.n none .nil (.n none .nil (.n (some ([23, 24, 25, 26, 27, 28], [28])) .nil .o .o) .o) (.n none .nil .o (.n none .nil .o (.n none .nil (.n none .nil .o (.n none .nil (.n (some ([4, 8, 9, 10, 11, 12, 29, 30, 31, 32, 33, 34, 35, 36, 37, 38, 39, 40, 41, 42, 43, 44, 45, 46, 47, 48, 49, 50, 51, 52, 53, 54, 55, 56, 57, 58, 59, 60, 61, 62, 63, 64, 65, 66, 67, 68, 69, 70, 71, 72, 73, 74, 75, 76, 77, 78, 79, 80, 81, 82, 83, 84, 85, 86, 87, 88, 89], [8, 9, 10])) .nil (.n none .nil (.n none .nil (.n (some ([29, 30, 31, 32, 33, 34, 35, 36], [36])) .nil .o .o) .o) (.n none .nil (.n (some ([4, 8, 9, 11, 12, 39, 40, 41, 42, 43, 44, 45, 46, 47, 48, 49, 50, 51, 52, 53, 54, 55, 56, 57, 58, 59, 60, 61, 62, 63, 64, 65, 66, 67, 68, 69, 70, 71, 72, 73, 74, 75, 76, 77, 78, 79, 80, 81, 82, 83, 84, 85, 86, 87, 88, 89], [8, 9])) .nil (.n none .nil (.n none .nil (.n (some ([39, 40, 41, 42, 43, 44, 45, 46, 47, 48, 49, 50, 51, 52, 53, 54], [54])) .nil .o .o) .o) .o) .o) .o)) .o) .o)) (.n none .nil .o (.n none .nil (.n none .nil (.n (some ([93, 94, 95, 96, 97, 98, 99, 100, 101, 102, 103], [103])) .nil .o .o) .o) (.n none .nil (.n none .nil .o (.n none .nil (.n (some ([4, 14, 104, 105, 106, 107, 108, 109, 110, 111, 112, 113, 114, 115, 116, 117, 118], [14])) .nil (.n none .nil .o (.n none .nil (.n none .nil (.n none .nil (.n none (.one 0 (.one 1 (.one 2 (.one 4 (.one 5 (.one 6 (.one 3 (.one 7 (.one 8 .nil))))))))) .o .o) .o) .o) .o)) .o) .o)) (.n none .nil (.n none .nil (.n (some ([119, 120, 121, 122, 123, 124, 125, 126, 127, 128, 129, 130, 131, 132, 133, 134, 135, 136, 137, 138, 139, 140], [140])) .nil .o .o) .o) .o)))))))))))
def s8 (a0 a1 : Value) (w : World) (K : Cont) : Prop :=
  callX Tryd.prog 50 [] w fun t1 w1 =>
  callX Tryd.prog 51 [t1, Value.int IntKind.i64 1] w1 fun t2 w2 =>
  extractX t2 0 fun t3 =>
  extractX t2 1 fun t4 =>
  joinX (α := Value → World → Prop)
  (fun t5 w3 =>
   brX t5
     (K (Value.bool false) w3)
   (∃ (I1 : Value → Value → Value → World → Prop), ∃ (m2 : Value → Value → Value → World → Nat), (I1 (Value.slice none 0 0) (Value.int IntKind.i64 0) (Value.int IntKind.i64 0) w3 ∧
   ∀ (t6 : Value), ∀ (t7 : Value), ∀ (t8 : Value), ∀ (w4 : World), (I1 t6 t7 t8 w4 →
   joinX (α := Value → World → Prop)
   (fun t9 w5 =>
    brX t9
      (joinX (α := Value → Value → World → Prop)
       (fun t10 t11 w6 =>
        addX t8 (Value.int IntKind.i64 1) fun t12 =>
        (I1 t10 t11 t12 w6 ∧
        lessN (m2 t10 t11 t12 w6) (m2 t6 t7 t8 w4)))
       fun J3 =>
       joinX (α := Value → World → Prop)
       (fun t13 w7 =>
        brX t13
          (indexSX 2 a0 t8 fun t14 =>
           fieldAddrX 1 t14 fun t15 =>
           load1X t15 w7 fun t16 =>
           lenSX t16 fun t17 =>
           gtX t17 (Value.int IntKind.i64 300) fun t18 =>
           K t18 w7)
        (indexSX 2 a0 t8 fun t19 =>
        loadNX 2 t19 w7 fun t20 =>
        callX Tryd.prog 37 [t20] w7 fun t21 w8 =>
        extractX t21 0 fun t22 =>
        extractX t21 1 fun t23 =>
        lenSX t22 fun t24 =>
        addX t7 t24 fun t25 =>
        indexSX 2 a0 t8 fun t26 =>
        fieldAddrX 0 t26 fun t27 =>
        load1X t27 w8 fun t28 =>
        eqX EqK.num t28 a1 fun t29 =>
        brX t29
          (indexSX 2 a0 t8 fun t30 =>
           fieldAddrX 1 t30 fun t31 =>
           load1X t31 w8 fun t32 =>
           strX t32 w8 fun t33 =>
           buildSX 9 1 [t33] w8 fun t34 w9 =>
           appendX 9 1 16 [Value.string { data := #[] }] t6 t34 w9 fun t35 w10 =>
           J3 t35 t25 w10)
        (J3 t6 t25 w8)))
       fun J4 =>
       indexSX 2 a0 t8 fun t36 =>
       fieldAddrX 1 t36 fun t37 =>
       load1X t37 w5 fun t38 =>
       lenSX t38 fun t39 =>
       gtX t39 (Value.int IntKind.i64 300) fun t40 =>
       brX t40
         (J4 (Value.bool true) w5)
       (indexSX 2 a0 t8 fun t41 =>
       loadNX 2 t41 w5 fun t42 =>
       callX Tryd.prog 52 [t3, t42] w5 fun t43 w11 =>
       neX EqK.num t43 (Value.int IntKind.i64 0) fun t44 =>
       J4 t44 w11))
    (callX Tryd.prog 53 [t3, a1] w5 fun t45 w12 =>
    joinX (α := Value → World → Prop)
    (fun t46 w13 =>
     brX t46
       (K (Value.bool false) w13)
     (∃ (I5 : Value → World → Prop), ∃ (m6 : Value → World → Nat), (I5 (Value.int IntKind.i64 0) w13 ∧
     ∀ (t47 : Value), ∀ (w14 : World), (I5 t47 w14 →
     lenSX t45 fun t48 =>
     ltX t47 t48 fun t49 =>
     brX t49
       (∀ (w15 : World), (Drew w14 w15 →
        ∃ (S7 : World → Prop), (S7 w15 ∧
        indexSX 1 t45 t47 fun t50 =>
        indexSX 1 t6 t47 fun t51 =>
        load1H S7 t50 fun t52 =>
        load1H S7 t51 fun t53 =>
        neX EqK.str t52 t53 fun t54 =>
        brX t54
          (K (Value.bool false) w15)
        (addX t47 (Value.int IntKind.i64 1) fun t55 =>
        (I5 t55 w15 ∧
        lessN (m6 t55 w15) (m6 t47 w14))))))
     (joinX (α := Value → World → Prop)
     (fun t56 w16 =>
      brX t56
        (K (Value.bool false) w16)
      (callX Tryd.prog 51 [t1, Value.int IntKind.i64 1] w16 fun t57 w17 =>
      extractX t57 0 fun t58 =>
      extractX t57 1 fun t59 =>
      eqX EqK.num t59 (Value.int IntKind.i64 0) fun t60 =>
      brX t60
        (callX Tryd.prog 53 [t58, a1] w17 fun t61 w18 =>
         lenSX t61 fun t62 =>
         eqX EqK.num t62 (Value.int IntKind.i64 1) fun t63 =>
         brX t63
           (callX Tryd.prog 42 [] w18 fun t64 w19 =>
            K t64 w19)
         (K (Value.bool false) w18))
      (K (Value.bool false) w17)))
     fun J8 =>
     callX Tryd.prog 55 [t3] w14 fun t65 w20 =>
     neX EqK.num t65 (Value.int IntKind.i64 0) fun t66 =>
     brX t66
       (J8 (Value.bool true) w20)
     (callX Tryd.prog 54 [t3] w20 fun t67 w21 =>
     neX EqK.num t67 (Value.int IntKind.i64 0) fun t68 =>
     brX t68
       (J8 (Value.bool true) w21)
     (callX Tryd.prog 53 [t3, a1] w21 fun t69 w22 =>
     lenSX t69 fun t70 =>
     neX EqK.num t70 (Value.int IntKind.i64 0) fun t71 =>
     brX t71
       (J8 (Value.bool true) w22)
     (buildX [Value.int IntKind.i64 0, Value.slice none 0 0] [(0, 1, a1)] fun t72 =>
     callX Tryd.prog 52 [t3, t72] w22 fun t73 w23 =>
     neX EqK.num t73 (Value.int IntKind.i64 0) fun t74 =>
     J8 t74 w23))))))))
    fun J9 =>
    lenSX t45 fun t75 =>
    lenSX t6 fun t76 =>
    neX EqK.num t75 t76 fun t77 =>
    brX t77
      (J9 (Value.bool true) w12)
    (callX Tryd.prog 54 [t3] w12 fun t78 w24 =>
    neX EqK.num t78 t7 fun t79 =>
    J9 t79 w24)))
   fun J10 =>
   lenSX a0 fun t80 =>
   ltX t8 t80 fun t81 =>
   brX t81
     (ltX t8 (Value.int IntKind.i64 30) fun t82 =>
      J10 t82 w4)
   (J10 (Value.bool false) w4)))))
  fun J11 =>
  neX EqK.num t4 (Value.int IntKind.i64 0) fun t83 =>
  brX t83
    (J11 (Value.bool true) w2)
  (eqX EqK.ptr t3 (Value.pointer none) fun t84 =>
  J11 t84 w2)
theorem e8 (a0 a1 : Value) (w : World) (K : Cont) : fX Tryd.prog 8 an8 [a0, a1] w K = s8 a0 a1 w K := by kernel_rfl
theorem c8 (a0 a1 : Value) (w : World) (K : Cont) (h : s8 a0 a1 w K) : callX Tryd.prog 8 [a0, a1] w K := fX_call mixed (e8 a0 a1 w K) h

/-- berthing/berthinglaw05.JournalFalls -/
def an13 : Ann := (.n none .nil .o (.n none .nil .o (.n none .nil .o (.n none .nil .o (.n none .nil (.n none .nil (.n (some ([25, 26, 27, 28, 29, 30], [30])) .nil .o .o) .o) (.n none .nil (.n none .nil .o (.n none .nil (.n (some ([4, 6, 7, 9, 10, 11, 12, 13, 14, 15, 31, 32, 33, 34, 35, 36, 37, 38, 39, 40, 41, 42, 43, 44, 45, 46, 47, 48, 49, 50, 51, 52, 53, 54, 55, 56, 57, 58, 59, 60, 61, 62, 63, 64, 65, 66, 67, 68, 69, 70, 71, 72, 73, 74, 75, 76, 77, 78, 79, 80, 81, 82, 83, 84, 85, 86, 87, 88, 89, 90, 91, 92, 93, 94, 95, 96, 97, 98, 99, 100, 101, 102, 103, 104, 105, 106, 107, 108, 109, 110, 111, 112, 113, 114, 115, 116, 117, 118, 119, 120, 121, 122, 123, 124, 125, 126, 127, 128, 129, 130, 131, 132, 133, 134, 135, 136, 137, 138, 139, 140, 141, 142, 143, 144, 145, 146, 147, 148, 149, 150, 151, 152, 153, 154, 155, 156, 157, 158, 159, 160, 161, 162, 163, 164, 165, 166, 167, 168, 169], [6, 7, 9])) .nil (.n none .nil (.n none .nil (.n (some ([31, 32, 33, 34, 35, 36, 37, 38], [38])) .nil .o .o) .o) (.n none .nil (.n (some ([4, 6, 7, 10, 11, 12, 13, 14, 15, 41, 42, 43, 44, 45, 46, 47, 48, 49, 50, 51, 52, 53, 54, 55, 56, 57, 58, 59, 60, 61, 62, 63, 64, 65, 66, 67, 68, 69, 70, 71, 72, 73, 74, 75, 76, 77, 78, 79, 80, 81, 82, 83, 84, 85, 86, 87, 88, 89, 90, 91, 92, 93, 94, 95, 96, 97, 98, 99, 100, 101, 102, 103, 104, 105, 106, 107, 108, 109, 110, 111, 112, 113, 114, 115, 116, 117, 118, 119, 120, 121, 122, 123, 124, 125, 126, 127, 128, 129, 130, 131, 132, 133, 134, 135, 136, 137, 138, 139, 140, 141, 142, 143, 144, 145, 146, 147, 148, 149, 150, 151, 152, 153, 154, 155, 156, 157, 158, 159, 160, 161, 162, 163, 164, 165, 166, 167, 168, 169], [6, 7])) .nil (.n none .nil .o (.n none .nil .o (.n none .nil (.n none .nil .o (.n (some ([56, 57, 58, 59, 60, 61, 62, 63], [])) .nil .o .o)) (.n none .nil .o (.n none .nil .o (.n none .nil .o (.n none .nil (.n none .nil (.n (some ([76, 77, 78, 79, 80, 81, 82, 83], [83])) .nil .o .o) .o) (.n none .nil .o (.n none .nil .o (.n none .nil .o (.n none .nil .o (.n none .nil .o (.n none .nil (.n none .nil (.n (some ([110, 111, 112, 113, 114, 115, 116, 117, 118, 119, 120, 121, 122, 123, 124, 125, 126, 127, 128, 129, 130, 131, 132, 133, 134, 135, 136, 137, 138, 139, 140, 141, 142, 143, 144, 145, 146, 147], [147])) (.one 0 (.one 1 (.one 2 (.one 3 (.one 4 (.one 5 (.one 6 (.one 7 (.one 8 (.one 9 (.one 10 (.one 11 (.one 12 (.one 13 (.one 14 (.one 15 (.one 16 (.one 17 (.one 18 (.eff (.alt 19 none (.one 20 (.one 21 (.one 22 (.one 23 (.one 24 (.one 26 (.one 27 (.one 28 (.one 29 (.eff (.alt 25 (some [24, 23, 22, 19, 5, 21, 18, 12, 4, 20, 11, 1, 3, 17, 7, 10, 0, 2, 16, 6, 9, 13, 15, 8, 14]) (.one 30 (.one 31 (.one 32 (.one 33 (.one 35 (.eff (.alt 34 (some [33, 32, 31, 25, 23, 30, 24, 22, 19, 29, 5, 21, 18, 12, 26, 28, 4, 20, 11, 27, 1, 3, 17, 7, 10, 0, 2, 16, 6, 9, 13, 15, 8, 14]) (.one 36 (.one 37 .nil)) .stop))))))) .stop))))))))))) .stop))))))))))))))))))))) .o .o) .o) (.n none .nil .o (.n none .nil .o (.n none .nil (.n none .nil (.n (some ([152, 153, 154, 155, 156, 157, 158, 159, 160, 161, 162, 163, 164, 165, 166, 167, 168, 169], [169])) .nil .o .o) .o) .o)))))))))))))))) .o) .o)) .o) .o)) (.n none .nil .o (.n none .nil .o (.n none .nil (.n none .nil .o (.n none .nil (.n (some ([4, 17, 18, 173, 174, 175, 176, 177, 178, 179, 180, 181, 182, 183, 184, 185, 186, 187, 188, 189, 190, 191, 192, 193, 194, 195, 196, 197, 198, 199, 200, 201, 202, 203], [17, 18])) .nil (.n none .nil .o (.n none .nil (.n (some ([4, 17, 179, 180, 181, 182, 183, 184, 185, 186, 187, 188, 189, 190, 191, 192, 193, 194, 195, 196, 197, 198, 199, 200, 201, 202, 203], [17])) .nil (.n none .nil .o (.n none .nil (.n none .nil (.n (some ([186, 187, 188, 189, 190, 191, 192, 193, 194, 195, 196, 197, 198, 199, 200, 201], [201])) (.one 0 (.one 1 (.one 2 (.one 3 (.one 4 (.one 5 (.one 6 (.one 7 (.one 9 (.one 10 (.one 11 (.one 12 (.one 8 (.one 13 (.one 14 (.one 15 .nil)))))))))))))))) .o .o) .o) .o)) .o) .o)) .o) .o)) .o)))))))))
def s13 (a0 a1 : Value) (w : World) (K : Cont) : Prop :=
  callX Tryd.prog 50 [] w fun t1 w1 =>
  callX Tryd.prog 51 [t1, Value.int IntKind.i64 2] w1 fun t2 w2 =>
  extractX t2 0 fun t3 =>
  extractX t2 1 fun t4 =>
  joinX (α := Value → World → Prop)
  (fun t5 w3 =>
   brX t5
     (K (Value.bool false) w3)
   (∃ (I1 : Value → Value → Value → World → Prop), ∃ (m2 : Value → Value → Value → World → Nat), (I1 (Value.slice none 0 0) t3 (Value.int IntKind.i64 0) w3 ∧
   ∀ (t6 : Value), ∀ (t7 : Value), ∀ (t8 : Value), ∀ (w4 : World), (I1 t6 t7 t8 w4 →
   joinX (α := Value → World → Prop)
   (fun t9 w5 =>
    brX t9
      (joinX (α := Value → Value → World → Prop)
       (fun t10 t11 w6 =>
        addX t8 (Value.int IntKind.i64 1) fun t12 =>
        (I1 t10 t11 t12 w6 ∧
        lessN (m2 t10 t11 t12 w6) (m2 t6 t7 t8 w4)))
       fun J3 =>
       indexSX 4 a0 t8 fun t13 =>
       fieldAddrX 0 t13 fun t14 =>
       loadNX 2 t14 w5 fun t15 =>
       newX 62 [Value.int IntKind.i64 0, Value.slice none 0 0] w5 fun t16 w7 =>
       storeNX 2 t16 t15 w7 fun w8 =>
       fieldAddrX 1 t16 fun t17 =>
       load1X t17 w8 fun t18 =>
       lenSX t18 fun t19 =>
       gtX t19 (Value.int IntKind.i64 300) fun t20 =>
       brX t20
         (J3 t6 t7 w8)
       (indexSX 4 a0 t8 fun t21 =>
       fieldAddrX 2 t21 fun t22 =>
       load1X t22 w8 fun t23 =>
       geX t23 (Value.int IntKind.i64 0) fun t24 =>
       joinX (α := World → Prop)
       (fun w9 =>
        loadNX 2 t16 w9 fun t25 =>
        callX Tryd.prog 52 [t7, t25] w9 fun t26 w10 =>
        callX Tryd.prog 65 [t1, Value.int IntKind.i64 (-1)] w10 fun t27 w11 =>
        eqX EqK.num t26 (Value.int IntKind.i64 0) fun t28 =>
        brX t28
          (loadNX 2 t16 w11 fun t29 =>
           callX Tryd.prog 39 [t29] w11 fun t30 w12 =>
           buildSX 68 2 [t30] w12 fun t31 w13 =>
           appendX 68 2 24 [Value.int IntKind.i64 0, Value.string { data := #[] }] t6 t31 w13 fun t32 w14 =>
           J3 t32 t7 w14)
        (joinX (α := Value → World → Prop)
        (fun t33 w15 =>
         brX t33
           (K (Value.bool false) w15)
         (indexSX 4 a0 t8 fun t34 =>
         fieldAddrX 3 t34 fun t35 =>
         load1X t35 w15 fun t36 =>
         buildX [Value.int IntKind.i64 0, Value.int IntKind.i64 0, Value.int IntKind.i64 0, Value.int IntKind.i64 0] [(0, 1, Value.int IntKind.i64 0), (1, 1, Value.int IntKind.i64 0), (2, 1, t36), (3, 1, Value.int IntKind.i64 0)] fun t37 =>
         callX Tryd.prog 66 [t1, t37] w15 fun t38 w16 =>
         callX Tryd.prog 58 [t1, Value.int IntKind.i64 2] w16 fun t39 w17 =>
         extractX t39 0 fun t40 =>
         extractX t39 1 fun t41 =>
         callX Tryd.prog 51 [t1, Value.int IntKind.i64 2] w17 fun t42 w18 =>
         extractX t42 0 fun t43 =>
         extractX t42 1 fun t44 =>
         neX EqK.num t44 (Value.int IntKind.i64 0) fun t45 =>
         brX t45
           (K (Value.bool false) w18)
         (strX t40 w18 fun t46 =>
         callX Tryd.prog 41 [t46] w18 fun t47 w19 =>
         extractX t47 0 fun t48 =>
         extractX t47 1 fun t49 =>
         joinX (α := Value → World → Prop)
         (fun t50 w20 =>
          brX t50
            (K (Value.bool false) w20)
          (callX Tryd.prog 56 [t43] w20 fun t51 w21 =>
          notX t51 fun t52 =>
          brX t52
            (J3 t48 t43 w21)
          (joinX (α := Value → World → Prop)
          (fun t53 w22 =>
           brX t53
             (K (Value.bool false) w22)
           (J3 (Value.slice none 0 0) t43 w22))
          fun J4 =>
          loadNX 2 t16 w21 fun t54 =>
          callX Tryd.prog 52 [t43, t54] w21 fun t55 w23 =>
          neX EqK.num t55 (Value.int IntKind.i64 16) fun t56 =>
          brX t56
            (J4 (Value.bool true) w23)
          (callX Tryd.prog 55 [t43] w23 fun t57 w24 =>
          neX EqK.num t57 (Value.int IntKind.i64 0) fun t58 =>
          brX t58
            (J4 (Value.bool true) w24)
          (callX Tryd.prog 56 [t43] w24 fun t59 w25 =>
          brX t59
            (J4 (Value.bool true) w25)
          (callX Tryd.prog 54 [t43] w25 fun t60 w26 =>
          neX EqK.num t60 (Value.int IntKind.i64 0) fun t61 =>
          J4 t61 w26))))))
         fun J5 =>
         ∀ (w27 : World), (Drew w19 w27 →
         ∃ (S6 : World → Prop), (S6 w27 ∧
         lenSX t48 fun t62 =>
         lenSX t6 fun t63 =>
         neX EqK.num t62 t63 fun t64 =>
         brX t64
           (lenSX t48 fun t65 =>
            lenSX t6 fun t66 =>
            addX t66 (Value.int IntKind.i64 1) fun t67 =>
            neX EqK.num t65 t67 fun t68 =>
            brX t68
              (J5 (Value.bool true) w27)
            (lenSX t6 fun t69 =>
            indexSX 2 t48 t69 fun t70 =>
            loadNH S6 2 t70 fun t71 =>
            loadNH S6 2 t16 fun t72 =>
            callX Tryd.prog 39 [t72] w27 fun t73 w28 =>
            (S6 w28 ∧
            neNX 2 [(0, EqK.num), (1, EqK.str)] t71 t73 fun t74 =>
            brX t74
              (J5 (Value.bool true) w28)
            (lenSX t40 fun t75 =>
            ltX t49 t75 fun t76 =>
            callX Tryd.prog 56 [t43] w28 fun t77 w29 =>
            neX EqK.bool t77 t76 fun t78 =>
            brX t78
              (J5 (Value.bool true) w29)
            (callX Tryd.prog 54 [t43] w29 fun t79 w30 =>
            neX EqK.num t79 t49 fun t80 =>
            J5 t80 w30)))))
         (lenSX t40 fun t81 =>
         ltX t49 t81 fun t82 =>
         callX Tryd.prog 56 [t43] w27 fun t83 w31 =>
         neX EqK.bool t83 t82 fun t84 =>
         brX t84
           (J5 (Value.bool true) w31)
         (callX Tryd.prog 54 [t43] w31 fun t85 w32 =>
         neX EqK.num t85 t49 fun t86 =>
         J5 t86 w32)))))))
        fun J7 =>
        neX EqK.num t26 (Value.int IntKind.i64 17) fun t87 =>
        brX t87
          (J7 (Value.bool true) w11)
        (loadNX 2 t16 w11 fun t88 =>
        callX Tryd.prog 52 [t7, t88] w11 fun t89 w33 =>
        neX EqK.num t89 (Value.int IntKind.i64 16) fun t90 =>
        J7 t90 w33)))
       fun J8 =>
       brX t24
         (indexSX 4 a0 t8 fun t91 =>
          fieldAddrX 2 t91 fun t92 =>
          load1X t92 w8 fun t93 =>
          andX t93 (Value.int IntKind.i64 3) fun t94 =>
          callX Tryd.prog 65 [t1, t94] w8 fun t95 w34 =>
          J8 w34)
       (J8 w8)))
    (callX Tryd.prog 53 [t7, a1] w5 fun t96 w35 =>
    ∃ (I9 : Value → Value → World → Prop), ∃ (m10 : Value → Value → World → Nat), (I9 (Value.int IntKind.i64 0) (Value.int IntKind.i64 0) w35 ∧
    ∀ (t97 : Value), ∀ (t98 : Value), ∀ (w36 : World), (I9 t97 t98 w36 →
    lenSX t6 fun t99 =>
    ltX t98 t99 fun t100 =>
    brX t100
      (joinX (α := Value → World → Prop)
       (fun t101 w37 =>
        addX t98 (Value.int IntKind.i64 1) fun t102 =>
        (I9 t101 t102 w37 ∧
        lessN (m10 t101 t102 w37) (m10 t97 t98 w36)))
       fun J11 =>
       indexSX 2 t6 t98 fun t103 =>
       fieldAddrX 0 t103 fun t104 =>
       load1X t104 w36 fun t105 =>
       neX EqK.num t105 a1 fun t106 =>
       brX t106
         (J11 t97 w36)
       (joinX (α := Value → World → Prop)
       (fun t107 w38 =>
        brX t107
          (K (Value.bool false) w38)
        (addX t97 (Value.int IntKind.i64 1) fun t108 =>
        J11 t108 w38))
       fun J12 =>
       ∀ (w39 : World), (Drew w36 w39 →
       ∃ (S13 : World → Prop), (S13 w39 ∧
       lenSX t96 fun t109 =>
       geX t97 t109 fun t110 =>
       brX t110
         (J12 (Value.bool true) w39)
       (indexSX 1 t96 t97 fun t111 =>
       indexSX 2 t6 t98 fun t112 =>
       fieldAddrX 1 t112 fun t113 =>
       load1H S13 t111 fun t114 =>
       load1H S13 t113 fun t115 =>
       neX EqK.str t114 t115 fun t116 =>
       J12 t116 w39)))))
    (lenSX t96 fun t117 =>
    eqX EqK.num t97 t117 fun t118 =>
    brX t118
      (callX Tryd.prog 42 [] w36 fun t119 w40 =>
       K t119 w40)
    (K (Value.bool false) w36))))))
   fun J14 =>
   lenSX a0 fun t120 =>
   ltX t8 t120 fun t121 =>
   brX t121
     (ltX t8 (Value.int IntKind.i64 30) fun t122 =>
      J14 t122 w4)
   (J14 (Value.bool false) w4)))))
  fun J15 =>
  neX EqK.num t4 (Value.int IntKind.i64 0) fun t123 =>
  brX t123
    (J15 (Value.bool true) w2)
  (eqX EqK.ptr t3 (Value.pointer none) fun t124 =>
  J15 t124 w2)
theorem e13 (a0 a1 : Value) (w : World) (K : Cont) : fX Tryd.prog 13 an13 [a0, a1] w K = s13 a0 a1 w K := by kernel_rfl
theorem c13 (a0 a1 : Value) (w : World) (K : Cont) (h : s13 a0 a1 w K) : callX Tryd.prog 13 [a0, a1] w K := fX_call mixed (e13 a0 a1 w K) h

end Go.Proofs.YtgnmelnohclpgaaDoor
