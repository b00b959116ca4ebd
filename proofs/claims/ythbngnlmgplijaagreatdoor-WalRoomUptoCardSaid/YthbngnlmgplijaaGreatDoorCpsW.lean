import Derived.Test.YthbngnlmgplijaaGreatDoorCpsP
import Derived.Test.YthbngnlmgplijaaGreatDoorAlDraw2
import Derived.Test.YthbngnlmgplijaaGreatDoorRows
namespace Go.Proofs.YthbngnlmgplijaaGreatDoor
open Go.Al Go.Proofs
set_option maxRecDepth 100000
set_option linter.unusedVariables false
set_option linter.unusedSimpArgs false
/-- Function 18: almonry/wal.Format. -/
def T18 (k : KV) (d0 : Value) (fromv1 : Value) (n2 : Value) (w : World) : Prop :=
  Cl Tryz.prog 93 [d0, fromv1, n2] w fun t13_1 w_2 =>
  Pu (unV .not t13_1) fun t14_3 =>
  IfB t14_3
    (k (.tuple #[(Value.pointer none), (Value.int IntKind.i64 1)]) w_2)
    (Pu (binV (TypeDesc.int IntKind.i64) .mul n2 (Value.int IntKind.i64 64)) fun t18_4 =>
  Cl Tryz.prog 95 [(Value.string (ByteArray.mk #[0])), t18_4] w_2 fun t19_5 w_6 =>
  Cl Tryz.prog 94 [d0, fromv1, t19_5] w_6 fun t20_7 w_8 =>
  Pu (binV (TypeDesc.int IntKind.i64) .neq t20_7 (Value.int IntKind.i64 0)) fun t22_9 =>
  IfB t22_9
    (k (.tuple #[(Value.pointer none), t20_7]) w_8)
    (Cl Tryz.prog 38 [d0] w_8 fun t25_10 w_11 =>
  Pu (binV (TypeDesc.int IntKind.i64) .neq t25_10 (Value.int IntKind.i64 0)) fun t27_12 =>
  IfB t27_12
    (k (.tuple #[(Value.pointer none), t25_10]) w_11)
    (RunS Tryz.prog (Instr.makeMap 130 none) w_11 fun t32_13 w_14 =>
  RunS Tryz.prog (Instr.build 132 #[(0, d0), (1, fromv1), (2, n2), (3, (Value.int IntKind.i64 1)), (5, (Value.int IntKind.i64 1)), (6, (Value.int IntKind.i64 1)), (8, t32_13)]) w_14 fun t33_15 w_16 =>
  New (Value.cells t33_15) 132 w_16 fun t34_17 w_18 =>
  k (.tuple #[t34_17, (Value.int IntKind.i64 0)]) w_18)))
theorem e18 (k : KV) (d0 : Value) (fromv1 : Value) (n2 : Value) (w : World) : K KD Tryz.prog 35 (fun j =>  []) (fun j =>  none) (Tryz.f18.body.getD .skip) (retQ Tryz.prog Tryz.f18 k) (argF [d0, fromv1, n2]) w = T18 k d0 fromv1 n2 w := by kernel_rfl
theorem c18 {k : KV} {d0 : Value} {fromv1 : Value} {n2 : Value} {w : World} (h : T18 k d0 fromv1 n2 w) : Cl Tryz.prog 18 [d0, fromv1, n2] w k :=
  Cl_of_K KD_sound mixed Tryz.func18 (by kernel_rfl) (by kernel_rfl) ((e18 k d0 fromv1 n2 w).symm ▸ h)

/-- Function 19: (*almonry/wal.Log).Room. -/
def T19 (k : KV) (l0 : Value) (w : World) : Prop :=
  Pu (binV (TypeDesc.pointer 132) .eql l0 (Value.pointer none)) fun t4_1 =>
  IfB t4_1
    (k (Value.int IntKind.i64 0) w)
    (∃ C_2 : World → Prop, C_2 (World.drew w) ∧
  (Pu (nilV l0) fun t6_3 =>
  Pu (faV 2 t6_3) fun t7_4 =>
  ∃ t8_5, (∀ w_6, C_2 w_6 → Ld w_6 t7_4 fun t8_7 w_8 =>
  t8_7 = t8_5 ∧ w_8 = w_6) ∧
  (Pu (binV (TypeDesc.int IntKind.i64) .sub t8_5 (Value.int IntKind.i64 2)) fun t9_9 =>
  Pu (binV (TypeDesc.int IntKind.i64) .mul (Value.int IntKind.i64 54) t9_9) fun t10_10 =>
  Pu (nilV l0) fun t14_11 =>
  Pu (faV 5 t14_11) fun t15_12 =>
  ∃ t16_13, (∀ w_14, C_2 w_14 → Ld w_14 t15_12 fun t16_15 w_16 =>
  t16_15 = t16_13 ∧ w_16 = w_14) ∧
  (Pu (nilV l0) fun t20_17 =>
  Pu (faV 7 t20_17) fun t21_18 =>
  ∃ t22_19, (∀ w_20, C_2 w_20 → Ld w_20 t21_18 fun t22_21 w_22 =>
  t22_21 = t22_19 ∧ w_22 = w_20) ∧
  (Cl Tryz.prog 20 [l0] (World.drew w) fun t12_23 w_24 =>
  C_2 w_24 ∧
  (Pu (binV (TypeDesc.int IntKind.i64) .sub t12_23 t16_13) fun t17_25 =>
  Pu (binV (TypeDesc.int IntKind.i64) .sub t10_10 t17_25) fun t18_26 =>
  Pu (binV (TypeDesc.int IntKind.i64) .sub t18_26 t22_19) fun t23_27 =>
  k t23_27 w_24))))))
theorem e19 (k : KV) (l0 : Value) (w : World) : K KD Tryz.prog 24 (fun j =>  []) (fun j =>  none) (Tryz.f19.body.getD .skip) (retQ Tryz.prog Tryz.f19 k) (argF [l0]) w = T19 k l0 w := by kernel_rfl
theorem c19 {k : KV} {l0 : Value} {w : World} (h : T19 k l0 w) : Cl Tryz.prog 19 [l0] w k :=
  Cl_of_K KD_sound mixed Tryz.func19 (by kernel_rfl) (by kernel_rfl) ((e19 k l0 w).symm ▸ h)

/-- Function 20: (*almonry/wal.Log).Tail. -/
def T20 (k : KV) (l0 : Value) (w : World) : Prop :=
  Pu (binV (TypeDesc.pointer 132) .eql l0 (Value.pointer none)) fun t4_1 =>
  IfB t4_1
    (k (Value.int IntKind.i64 0) w)
    (Pu (nilV l0) fun t6_2 =>
  Pu (faV 3 t6_2) fun t7_3 =>
  Ld (World.drew w) t7_3 fun t8_4 w_5 =>
  w_5 = (World.drew w) ∧
  Pu (nilV l0) fun t10_6 =>
  Pu (faV 4 t10_6) fun t11_7 =>
  Ld (World.drew w) t11_7 fun t12_8 w_9 =>
  w_9 = (World.drew w) ∧
  Pu (lenV t12_8) fun t13_10 =>
  Pu (binV (TypeDesc.int IntKind.i64) .add t8_4 t13_10) fun t14_11 =>
  k t14_11 (World.drew w))
theorem e20 (k : KV) (l0 : Value) (w : World) : K KD Tryz.prog 15 (fun j =>  []) (fun j =>  none) (Tryz.f20.body.getD .skip) (retQ Tryz.prog Tryz.f20 k) (argF [l0]) w = T20 k l0 w := by kernel_rfl
theorem c20 {k : KV} {l0 : Value} {w : World} (h : T20 k l0 w) : Cl Tryz.prog 20 [l0] w k :=
  Cl_of_K KD_sound mixed Tryz.func20 (by kernel_rfl) (by kernel_rfl) ((e20 k l0 w).symm ▸ h)

/-- Function 21: (*almonry/wal.Log).Append. -/
def T21 (k : KV) (l0 : Value) (r1 : Value) (w : World) : Prop :=
  New (Value.cells r1) 28 w fun r3_1 w_2 =>
  Pu (binV (TypeDesc.pointer 132) .eql l0 (Value.pointer none)) fun t9_3 =>
  IfB t9_3
    (k (.tuple #[(Value.int IntKind.i64 0), (Value.int IntKind.i64 2)]) w_2)
    (Cl Tryz.prog 20 [l0] w_2 fun t11_4 w_5 =>
  Pu (faV 0 r3_1) fun t12_6 =>
  St 1 w_5 t12_6 t11_4 fun u_7 w_8 =>
  LdN 16 w_8 r3_1 fun t14_9 w_10 =>
  Cl Tryz.prog 89 [t14_9] w_10 fun t15_11 w_12 =>
  Pu (extV t15_11 0) fun t16_13 =>
  Pu (extV t15_11 1) fun t17_14 =>
  Pu (binV (TypeDesc.int IntKind.i64) .neq t17_14 (Value.int IntKind.i64 0)) fun t19_15 =>
  IfB t19_15
    (k (.tuple #[(Value.int IntKind.i64 0), t17_14]) w_12)
    (Pu (lenS t16_13) fun t22_16 =>
  Cl Tryz.prog 19 [l0] w_12 fun t24_17 w_18 =>
  Pu (binV (TypeDesc.int IntKind.i64) .gtr t22_16 t24_17) fun t25_19 =>
  IfB t25_19
    (k (.tuple #[(Value.int IntKind.i64 0), (Value.int IntKind.i64 50)]) w_18)
    (Pu (nilV l0) fun t28_20 =>
  Pu (faV 4 t28_20) fun t29_21 =>
  Ld w_18 t29_21 fun t30_22 w_23 =>
  RunS Tryz.prog (Builtin.append_ #[123, 9] 123 #[t30_22, t16_13]) w_23 fun t32_24 w_25 =>
  Pu (nilV l0) fun t33_26 =>
  Pu (faV 4 t33_26) fun t34_27 =>
  St 1 w_25 t34_27 t32_24 fun u_28 w_29 =>
  ∃ C_30 : World → Prop, C_30 (World.drew w_29) ∧
  (Pu (nilV l0) fun t36_31 =>
  Pu (faV 8 t36_31) fun t37_32 =>
  ∃ t38_33, (∀ w_34, C_30 w_34 → Ld w_34 t37_32 fun t38_35 w_36 =>
  t38_35 = t38_33 ∧ w_36 = w_34) ∧
  (Pu (faV 0 r3_1) fun t39_37 =>
  ∃ t40_38, (∀ w_39, C_30 w_39 → Ld w_39 t39_37 fun t40_40 w_41 =>
  t40_40 = t40_38 ∧ w_41 = w_39) ∧
  (LdN 16 (World.drew w_29) r3_1 fun t41_42 w_43 =>
  w_43 = (World.drew w_29) ∧
  Cl Tryz.prog 96 [t41_42] (World.drew w_29) fun t42_44 w_45 =>
  C_30 w_45 ∧
  (RunU Tryz.prog (Instr.mapUpdate 130 t38_33 t40_38 t42_44) w_45 fun u_46 w_47 =>
  Pu (faV 0 r3_1) fun t43_48 =>
  Ld w_47 t43_48 fun t44_49 w_50 =>
  k (.tuple #[t44_49, (Value.int IntKind.i64 0)]) w_50)))))))
theorem e21 (k : KV) (l0 : Value) (r1 : Value) (w : World) : K KD Tryz.prog 45 (fun j =>  []) (fun j =>  none) (Tryz.f21.body.getD .skip) (retQ Tryz.prog Tryz.f21 k) (argF [l0, r1]) w = T21 k l0 r1 w := by kernel_rfl
theorem c21 {k : KV} {l0 : Value} {r1 : Value} {w : World} (h : T21 k l0 r1 w) : Cl Tryz.prog 21 [l0, r1] w k :=
  Cl_of_K KD_sound mixed Tryz.func21 (by kernel_rfl) (by kernel_rfl) ((e21 k l0 r1 w).symm ▸ h)

/-- Function 22: (*almonry/wal.Log).Reserve. -/
def T22 (k : KV) (l0 : Value) (n1 : Value) (w : World) : Prop :=
  Pu (binV (TypeDesc.pointer 132) .eql l0 (Value.pointer none)) fun t7_1 =>
  IfB t7_1
    (k (Value.int IntKind.i64 2) w)
    (Pu (binV (TypeDesc.int IntKind.i64) .lss n1 (Value.int IntKind.i64 0)) fun t10_2 =>
      IfB t10_2
        (k (Value.int IntKind.i64 1) w)
        (Cl Tryz.prog 19 [l0] w fun t14_3 w_4 =>
          Pu (binV (TypeDesc.int IntKind.i64) .gtr n1 t14_3) fun t15_5 =>
          IfB t15_5
            (k (Value.int IntKind.i64 50) w_4)
            (Pu (nilV l0) fun t17_6 =>
  Pu (faV 7 t17_6) fun t18_7 =>
  Ld w_4 t18_7 fun t19_8 w_9 =>
  Pu (binV (TypeDesc.int IntKind.i64) .add t19_8 n1) fun t21_10 =>
  Pu (nilV l0) fun t22_11 =>
  Pu (faV 7 t22_11) fun t23_12 =>
  St 1 w_9 t23_12 t21_10 fun u_13 w_14 =>
  k (Value.int IntKind.i64 0) w_14)))
theorem e22 (k : KV) (l0 : Value) (n1 : Value) (w : World) : K KD Tryz.prog 24 (fun j =>  []) (fun j =>  none) (Tryz.f22.body.getD .skip) (retQ Tryz.prog Tryz.f22 k) (argF [l0, n1]) w = T22 k l0 n1 w := by kernel_rfl
theorem c22 {k : KV} {l0 : Value} {n1 : Value} {w : World} (h : T22 k l0 n1 w) : Cl Tryz.prog 22 [l0, n1] w k :=
  Cl_of_K KD_sound mixed Tryz.func22 (by kernel_rfl) (by kernel_rfl) ((e22 k l0 n1 w).symm ▸ h)

/-- Function 23: (*almonry/wal.Log).Release. -/
def T23 (k : KV) (l0 : Value) (n1 : Value) (w : World) : Prop :=
  Pu (binV (TypeDesc.pointer 132) .eql l0 (Value.pointer none)) fun t7_1 =>
  IfB t7_1
    (k (Value.int IntKind.i64 2) w)
    (Pu (binV (TypeDesc.int IntKind.i64) .lss n1 (Value.int IntKind.i64 0)) fun t10_2 =>
      Gd (isB false t10_2) (fun kk => kk n1 w) w fun t12_3 w_4 =>
      Gd (isB false t10_2) (fun kk => kk l0 w_4) w_4 fun t13_5 w_6 =>
      Gd (isB false t10_2) (fun kk => Pu (nilV t13_5) fun vv => kk vv w_6) w_6 fun t14_7 w_8 =>
      Gd (isB false t10_2) (fun kk => Pu (faV 7 t14_7) fun vv => kk vv w_8) w_8 fun t15_9 w_10 =>
      Gd (isB false t10_2) (fun kk => Ld w_10 t15_9 kk) w_10 fun t16_11 w_12 =>
      Gd (isB false t10_2) (fun kk => Pu (binV (TypeDesc.int IntKind.i64) .gtr t12_3 t16_11) fun vv => kk vv w_12) w_12 fun t17_13 w_14 =>
      Pu (pickV t10_2 (Value.bool true) t17_13) fun t18_15 =>
      IfB t18_15
        (k (Value.int IntKind.i64 1) w_14)
        (Pu (nilV l0) fun t20_16 =>
  Pu (faV 7 t20_16) fun t21_17 =>
  Ld w_14 t21_17 fun t22_18 w_19 =>
  Pu (binV (TypeDesc.int IntKind.i64) .sub t22_18 n1) fun t24_20 =>
  Pu (nilV l0) fun t25_21 =>
  Pu (faV 7 t25_21) fun t26_22 =>
  St 1 w_19 t26_22 t24_20 fun u_23 w_24 =>
  k (Value.int IntKind.i64 0) w_24))
theorem e23 (k : KV) (l0 : Value) (n1 : Value) (w : World) : K KD Tryz.prog 27 (fun j =>  []) (fun j =>  none) (Tryz.f23.body.getD .skip) (retQ Tryz.prog Tryz.f23 k) (argF [l0, n1]) w = T23 k l0 n1 w := by kernel_rfl
theorem c23 {k : KV} {l0 : Value} {n1 : Value} {w : World} (h : T23 k l0 n1 w) : Cl Tryz.prog 23 [l0, n1] w k :=
  Cl_of_K KD_sound mixed Tryz.func23 (by kernel_rfl) (by kernel_rfl) ((e23 k l0 n1 w).symm ▸ h)

/-- Function 24: (*almonry/wal.Log).Start. -/
def T24 (k : KV) (l0 : Value) (w : World) : Prop :=
  Pu (binV (TypeDesc.pointer 132) .eql l0 (Value.pointer none)) fun t4_1 =>
  IfB t4_1
    (k (Value.int IntKind.i64 0) w)
    (Pu (nilV l0) fun t6_2 =>
  Pu (faV 5 t6_2) fun t7_3 =>
  Ld w t7_3 fun t8_4 w_5 =>
  k t8_4 w_5)
theorem e24 (k : KV) (l0 : Value) (w : World) : K KD Tryz.prog 9 (fun j =>  []) (fun j =>  none) (Tryz.f24.body.getD .skip) (retQ Tryz.prog Tryz.f24 k) (argF [l0]) w = T24 k l0 w := by kernel_rfl
theorem c24 {k : KV} {l0 : Value} {w : World} (h : T24 k l0 w) : Cl Tryz.prog 24 [l0] w k :=
  Cl_of_K KD_sound mixed Tryz.func24 (by kernel_rfl) (by kernel_rfl) ((e24 k l0 w).symm ▸ h)

/-- Function 26: (*almonry/wal.Log).Flush. -/
def T26 (k : KV) (l0 : Value) (to1 : Value) (w : World) : Prop :=
  Pu (binV (TypeDesc.pointer 132) .eql l0 (Value.pointer none)) fun t10_1 =>
  IfB t10_1
    (k (Value.int IntKind.i64 2) w)
    (Cl Tryz.prog 20 [l0] w fun t12_2 w_3 =>
  Pu (nilV l0) fun t15_4 =>
  Pu (faV 6 t15_4) fun t16_5 =>
  Ld w_3 t16_5 fun t17_6 w_7 =>
  Pu (binV (TypeDesc.int IntKind.i64) .lss to1 t17_6) fun t18_8 =>
  Gd (isB false t18_8) (fun kk => kk l0 w_7) w_7 fun t20_9 w_10 =>
  Gd (isB false t18_8) (fun kk => Pu (nilV t20_9) fun vv => kk vv w_10) w_10 fun t21_11 w_12 =>
  Gd (isB false t18_8) (fun kk => Pu (faV 6 t21_11) fun vv => kk vv w_12) w_12 fun t22_13 w_14 =>
  Gd (isB false t18_8) (fun kk => Ld w_14 t22_13 kk) w_14 fun t23_15 w_16 =>
  Gd (isB false t18_8) (fun kk => kk t12_2 w_16) w_16 fun t24_17 w_18 =>
  Gd (isB false t18_8) (fun kk => Pu (binV (TypeDesc.int IntKind.i64) .eql t23_15 t24_17) fun vv => kk vv w_18) w_18 fun t25_19 w_20 =>
  Pu (pickV t18_8 (Value.bool true) t25_19) fun t26_21 =>
  IfB t26_21
    (k (Value.int IntKind.i64 0) w_20)
    (Pu (nilV l0) fun t28_22 =>
  Pu (faV 6 t28_22) fun t29_23 =>
  Ld w_20 t29_23 fun t30_24 w_25 =>
  Cl Tryz.prog 97 [t30_24] w_25 fun t31_26 w_27 =>
  ∃ (I_28 : List Value → World → Prop) (m_29 : List Value → World → Nat), I_28 [t31_26] w_27 ∧
  ∀ (g_57 : Fr) (w_56 : World), ∀ kv6_32 : Value, I_28 [kv6_32] w_56 →
    (Cl Tryz.prog 98 [kv6_32] w_56 fun t33_58 w_59 =>
    Pu (binV (TypeDesc.int IntKind.i64) .lss t33_58 t12_2) fun t35_60 =>
    IfB t35_60
      (∃ C_61 : World → Prop, C_61 (World.drew w_59) ∧
    (Pu (nilV l0) fun t39_62 =>
    Pu (faV 0 t39_62) fun t40_63 =>
    ∃ t41_64, (∀ w_65, C_61 w_65 → Ld w_65 t40_63 fun t41_66 w_67 =>
    t41_66 = t41_64 ∧ w_67 = w_65) ∧
    (Cl Tryz.prog 99 [l0, kv6_32] (World.drew w_59) fun t44_68 w_69 =>
    C_61 w_69 ∧
    (Cl Tryz.prog 101 [l0, kv6_32] w_69 fun t48_70 w_71 =>
    C_61 w_71 ∧
    (Cl Tryz.prog 100 [kv6_32, t48_70] w_71 fun t49_72 w_73 =>
    C_61 w_73 ∧
    (Cl Tryz.prog 94 [t41_64, t44_68, t49_72] w_73 fun t50_74 w_75 =>
    Pu (binV (TypeDesc.int IntKind.i64) .neq t50_74 (Value.int IntKind.i64 0)) fun t52_76 =>
    IfB t52_76
      (k t50_74 w_75)
      (Pu (binV (TypeDesc.int IntKind.i64) .add kv6_32 (Value.int IntKind.i64 1)) fun t37_77 =>
    I_28 [t37_77] w_75 ∧ m_29 [t37_77] w_75 < m_29 [kv6_32] w_56)))))))
      (Pu (nilV l0) fun t55_78 =>
  Pu (faV 0 t55_78) fun t56_79 =>
  Ld w_59 t56_79 fun t57_80 w_81 =>
  Cl Tryz.prog 38 [t57_80] w_81 fun t58_82 w_83 =>
  Pu (binV (TypeDesc.int IntKind.i64) .neq t58_82 (Value.int IntKind.i64 0)) fun t60_84 =>
  IfB t60_84
    (k t58_82 w_83)
    (Pu (nilV l0) fun t64_85 =>
  Pu (faV 6 t64_85) fun t65_86 =>
  St 1 w_83 t65_86 t12_2 fun u_87 w_88 =>
  k (Value.int IntKind.i64 0) w_88)))))
theorem e26 (k : KV) (l0 : Value) (to1 : Value) (w : World) : K KD Tryz.prog 66 (fun j => bif Nat.beq j 7 then [6] else []) (fun j =>  none) (Tryz.f26.body.getD .skip) (retQ Tryz.prog Tryz.f26 k) (argF [l0, to1]) w = T26 k l0 to1 w := by kernel_rfl
theorem c26 {k : KV} {l0 : Value} {to1 : Value} {w : World} (h : T26 k l0 to1 w) : Cl Tryz.prog 26 [l0, to1] w k :=
  Cl_of_K KD_sound mixed Tryz.func26 (by kernel_rfl) (by kernel_rfl) ((e26 k l0 to1 w).symm ▸ h)

/-- Function 27: (*almonry/wal.Log).Flushed. -/
def T27 (k : KV) (l0 : Value) (w : World) : Prop :=
  Pu (binV (TypeDesc.pointer 132) .eql l0 (Value.pointer none)) fun t4_1 =>
  IfB t4_1
    (k (Value.int IntKind.i64 0) w)
    (Pu (nilV l0) fun t6_2 =>
  Pu (faV 6 t6_2) fun t7_3 =>
  Ld w t7_3 fun t8_4 w_5 =>
  k t8_4 w_5)
theorem e27 (k : KV) (l0 : Value) (w : World) : K KD Tryz.prog 9 (fun j =>  []) (fun j =>  none) (Tryz.f27.body.getD .skip) (retQ Tryz.prog Tryz.f27 k) (argF [l0]) w = T27 k l0 w := by kernel_rfl
theorem c27 {k : KV} {l0 : Value} {w : World} (h : T27 k l0 w) : Cl Tryz.prog 27 [l0] w k :=
  Cl_of_K KD_sound mixed Tryz.func27 (by kernel_rfl) (by kernel_rfl) ((e27 k l0 w).symm ▸ h)

/-- Function 28: (*almonry/wal.Log).Recycle. -/
def T28 (k : KV) (l0 : Value) (below1 : Value) (w : World) : Prop :=
  Pu (binV (TypeDesc.pointer 132) .eql l0 (Value.pointer none)) fun t10_1 =>
  IfB t10_1
    (k (Value.int IntKind.i64 2) w)
    (Pu (nilV l0) fun t13_2 =>
  Pu (faV 8 t13_2) fun t14_3 =>
  Ld w t14_3 fun t15_4 w_5 =>
  RunS Tryz.prog (Instr.lookup 130 t15_4 below1 true) w_5 fun t17_6 w_7 =>
  Pu (extV t17_6 0) fun t18_8 =>
  Pu (extV t17_6 1) fun t19_9 =>
  New #[(Value.int IntKind.i64 0), (Value.int IntKind.i64 0), (Value.int IntKind.i64 0), (Value.int IntKind.u8 0), (Value.int IntKind.i64 0), (Value.int IntKind.i64 0), (Value.int IntKind.i64 0), (Value.int IntKind.i64 0), (Value.int IntKind.i64 0), (Value.int IntKind.i64 0), (Value.string (ByteArray.mk #[])), (Value.slice none 0 0), (Value.slice none 0 0), (Value.slice none 0 0), (Value.slice none 0 0), (Value.slice none 0 0)] 28 w_7 fun t5_10 w_11 =>
  St 16 w_11 t5_10 t18_8 fun u_12 w_13 =>
  Pu (nilV l0) fun t22_14 =>
  Pu (faV 5 t22_14) fun t23_15 =>
  Ld w_13 t23_15 fun t24_16 w_17 =>
  Pu (binV (TypeDesc.int IntKind.i64) .lss below1 t24_16) fun t25_18 =>
  Gd (isB false t25_18) (fun kk => kk below1 w_17) w_17 fun t27_19 w_20 =>
  Gd (isB false t25_18) (fun kk => kk l0 w_20) w_20 fun t28_21 w_22 =>
  Gd (isB false t25_18) (fun kk => Pu (nilV t28_21) fun vv => kk vv w_22) w_22 fun t29_23 w_24 =>
  Gd (isB false t25_18) (fun kk => Pu (faV 6 t29_23) fun vv => kk vv w_24) w_24 fun t30_25 w_26 =>
  Gd (isB false t25_18) (fun kk => Ld w_26 t30_25 kk) w_26 fun t31_27 w_28 =>
  Gd (isB false t25_18) (fun kk => Pu (binV (TypeDesc.int IntKind.i64) .gtr t27_19 t31_27) fun vv => kk vv w_28) w_28 fun t32_29 w_30 =>
  Pu (pickV t25_18 (Value.bool true) t32_29) fun t33_31 =>
  Gd (isB false t33_31) (fun kk => kk t19_9 w_30) w_30 fun t35_32 w_33 =>
  Gd (isB false t33_31) (fun kk => Pu (unV .not t35_32) fun vv => kk vv w_33) w_33 fun t36_34 w_35 =>
  Gd (isB false t33_31) (fun kk => kk t36_34 w_35) w_35 fun t37_36 w_37 =>
  Gd (isB true t37_36) (fun kk => kk below1 w_37) w_37 fun t38_38 w_39 =>
  Gd (isB true t37_36) (fun kk => kk l0 w_39) w_39 fun t39_40 w_41 =>
  Gd (isB true t37_36) (fun kk => Cl Tryz.prog 20 [t39_40] w_41 kk) w_41 fun t40_42 w_43 =>
  Gd (isB true t37_36) (fun kk => Pu (binV (TypeDesc.int IntKind.i64) .neq t38_38 t40_42) fun vv => kk vv w_43) w_43 fun t41_44 w_45 =>
  Gd (isB false t33_31) (fun kk => Pu (pickV t37_36 t41_44 (Value.bool false)) fun vv => kk vv w_45) w_45 fun t42_46 w_47 =>
  Pu (pickV t33_31 (Value.bool true) t42_46) fun t43_48 =>
  IfB t43_48
    (k (Value.int IntKind.i64 51) w_47)
    (Pu (nilV l0) fun t46_49 =>
  Pu (faV 5 t46_49) fun t47_50 =>
  St 1 w_47 t47_50 below1 fun u_51 w_52 =>
  Pu (nilV l0) fun t49_53 =>
  Pu (faV 8 t49_53) fun t50_54 =>
  Ld w_52 t50_54 fun t51_55 w_56 =>
  RunS Tryz.prog (Instr.range 130 t51_55) w_56 fun t52_57 w_58 =>
  ∃ (I_59 : List Value → World → Prop) (m_60 : List Value → World → Nat), I_59 [] w_58 ∧
  ∀ (g_76 : Fr) (w_75 : World), I_59 [] w_75 →
    (RunS Tryz.prog (Instr.next t52_57 false 0) w_75 fun t53_77 w_78 =>
    Pu (extV t53_77 0) fun t54_79 =>
    IfB t54_79
      (RunS Tryz.prog (Instr.entry t52_57) w_78 fun t55_80 w_81 =>
    Pu (extV t55_80 0) fun t56_82 =>
    Pu (binV (TypeDesc.int IntKind.i64) .lss t56_82 below1) fun t59_83 =>
    IfB t59_83
      (Pu (nilV l0) fun t61_84 =>
        Pu (faV 8 t61_84) fun t62_85 =>
        Ld w_81 t62_85 fun t63_86 w_87 =>
        RunS Tryz.prog (Builtin.delete_ #[130, 3] 0 #[t63_86, t56_82]) w_87 fun u_88 w_89 =>
        I_59 [] w_89 ∧ m_60 [] w_89 < m_60 [] w_75)
      (I_59 [] w_81 ∧ m_60 [] w_81 < m_60 [] w_75))
      (Cl Tryz.prog 97 [below1] w_78 fun t66_90 w_91 =>
  Cl Tryz.prog 98 [t66_90] w_91 fun t67_92 w_93 =>
  ∃ C_94 : World → Prop, C_94 (World.drew w_93) ∧
  (Pu (nilV l0) fun t71_95 =>
  Pu (faV 4 t71_95) fun t72_96 =>
  ∃ t73_97, (∀ w_98, C_94 w_98 → Ld w_98 t72_96 fun t73_99 w_100 =>
  t73_99 = t73_97 ∧ w_100 = w_98) ∧
  (Pu (nilV l0) fun t76_101 =>
  Pu (faV 3 t76_101) fun t77_102 =>
  ∃ t78_103, (∀ w_104, C_94 w_104 → Ld w_104 t77_102 fun t78_105 w_106 =>
  t78_105 = t78_103 ∧ w_106 = w_104) ∧
  (Pu (binV (TypeDesc.int IntKind.i64) .sub t67_92 t78_103) fun t79_107 =>
  Pu (slV 1 t73_97 (some t79_107) none none) fun t80_108 =>
  RunS Tryz.prog (Instr.buildSlice 123 0 #[]) (World.drew w_93) fun t69_109 w_110 =>
  C_94 w_110 ∧
  (RunS Tryz.prog (Builtin.append_ #[123, 123] 123 #[t69_109, t80_108]) w_110 fun t81_111 w_112 =>
  Pu (nilV l0) fun t82_113 =>
  Pu (faV 4 t82_113) fun t83_114 =>
  St 1 w_112 t83_114 t81_111 fun u_115 w_116 =>
  Pu (nilV l0) fun t86_117 =>
  Pu (faV 3 t86_117) fun t87_118 =>
  St 1 w_116 t87_118 t67_92 fun u_119 w_120 =>
  k (Value.int IntKind.i64 0) w_120))))))))
theorem e28 (k : KV) (l0 : Value) (below1 : Value) (w : World) : K KD Tryz.prog 88 (fun j => bif Nat.beq j 8 then [] else []) (fun j =>  none) (Tryz.f28.body.getD .skip) (retQ Tryz.prog Tryz.f28 k) (argF [l0, below1]) w = T28 k l0 below1 w := by kernel_rfl
theorem c28 {k : KV} {l0 : Value} {below1 : Value} {w : World} (h : T28 k l0 below1 w) : Cl Tryz.prog 28 [l0, below1] w k :=
  Cl_of_K KD_sound mixed Tryz.func28 (by kernel_rfl) (by kernel_rfl) ((e28 k l0 below1 w).symm ▸ h)

/-- Function 29: (*almonry/wal.Log).Get. -/
def T29 (k : KV) (l0 : Value) (atv1 : Value) (w : World) : Prop :=
  New #[(Value.int IntKind.i64 0), (Value.int IntKind.i64 0), (Value.int IntKind.i64 0), (Value.int IntKind.u8 0), (Value.int IntKind.i64 0), (Value.int IntKind.i64 0), (Value.int IntKind.i64 0), (Value.int IntKind.i64 0), (Value.int IntKind.i64 0), (Value.int IntKind.i64 0), (Value.string (ByteArray.mk #[])), (Value.slice none 0 0), (Value.slice none 0 0), (Value.slice none 0 0), (Value.slice none 0 0), (Value.slice none 0 0)] 28 w fun t4_1 w_2 =>
  Pu (binV (TypeDesc.pointer 132) .eql l0 (Value.pointer none)) fun t9_3 =>
  IfB t9_3
    (RunS Tryz.prog (Instr.build 28 #[]) w_2 fun t10_4 w_5 =>
      St 16 w_5 t4_1 t10_4 fun u_6 w_7 =>
      RetO (resL Tryz.prog (fun j => bif Nat.beq j 4 then t4_1 else bif Nat.beq j 5 then (Value.int IntKind.i64 2) else undef) w_7 [(ResultVar.cell 4 28), (ResultVar.tmp 5)]) w_7 k)
    (Pu (nilV l0) fun t13_8 =>
  Pu (faV 8 t13_8) fun t14_9 =>
  Ld w_2 t14_9 fun t15_10 w_11 =>
  RunS Tryz.prog (Instr.lookup 130 t15_10 atv1 true) w_11 fun t17_12 w_13 =>
  Pu (extV t17_12 0) fun t18_14 =>
  Pu (extV t17_12 1) fun t19_15 =>
  New #[(Value.int IntKind.i64 0), (Value.int IntKind.i64 0), (Value.int IntKind.i64 0), (Value.int IntKind.u8 0), (Value.int IntKind.i64 0), (Value.int IntKind.i64 0), (Value.int IntKind.i64 0), (Value.int IntKind.i64 0), (Value.int IntKind.i64 0), (Value.int IntKind.i64 0), (Value.string (ByteArray.mk #[])), (Value.slice none 0 0), (Value.slice none 0 0), (Value.slice none 0 0), (Value.slice none 0 0), (Value.slice none 0 0)] 28 w_13 fun r6_16 w_17 =>
  St 16 w_17 r6_16 t18_14 fun u_18 w_19 =>
  Pu (unV .not t19_15) fun t21_20 =>
  IfB t21_20
    (RunS Tryz.prog (Instr.build 28 #[]) w_19 fun t22_21 w_22 =>
      St 16 w_22 t4_1 t22_21 fun u_23 w_24 =>
      RetO (resL Tryz.prog (fun j => bif Nat.beq j 4 then t4_1 else bif Nat.beq j 5 then (Value.int IntKind.i64 51) else undef) w_24 [(ResultVar.cell 4 28), (ResultVar.tmp 5)]) w_24 k)
    (LdN 16 w_19 r6_16 fun t23_25 w_26 =>
  Cl Tryz.prog 96 [t23_25] w_26 fun t24_27 w_28 =>
  St 16 w_28 t4_1 t24_27 fun u_29 w_30 =>
  RetO (resL Tryz.prog (fun j => bif Nat.beq j 4 then t4_1 else bif Nat.beq j 5 then (Value.int IntKind.i64 0) else undef) w_30 [(ResultVar.cell 4 28), (ResultVar.tmp 5)]) w_30 k))
theorem e29 (k : KV) (l0 : Value) (atv1 : Value) (w : World) : K KD Tryz.prog 25 (fun j =>  []) (fun j =>  none) (Tryz.f29.body.getD .skip) (retQ Tryz.prog Tryz.f29 k) (argF [l0, atv1]) w = T29 k l0 atv1 w := by kernel_rfl
theorem c29 {k : KV} {l0 : Value} {atv1 : Value} {w : World} (h : T29 k l0 atv1 w) : Cl Tryz.prog 29 [l0, atv1] w k :=
  Cl_of_K KD_sound mixed Tryz.func29 (by kernel_rfl) (by kernel_rfl) ((e29 k l0 atv1 w).symm ▸ h)

/-- Function 93: almonry/wal.fits. -/
def T93 (k : KV) (d0 : Value) (fromv1 : Value) (n2 : Value) (w : World) : Prop :=
  Pu (binV (TypeDesc.pointer 126) .neq d0 (Value.pointer none)) fun t8_1 =>
  Gd (isB true t8_1) (fun kk => kk n2 w) w fun t10_2 w_3 =>
  Gd (isB true t8_1) (fun kk => Pu (binV (TypeDesc.int IntKind.i64) .geq t10_2 (Value.int IntKind.i64 4)) fun vv => kk vv w_3) w_3 fun t11_4 w_5 =>
  Pu (pickV t8_1 t11_4 (Value.bool false)) fun t12_6 =>
  Gd (isB true t12_6) (fun kk => kk fromv1 w_5) w_5 fun t14_7 w_8 =>
  Gd (isB true t12_6) (fun kk => Pu (binV (TypeDesc.int IntKind.i64) .geq t14_7 (Value.int IntKind.i64 0)) fun vv => kk vv w_8) w_8 fun t15_9 w_10 =>
  Pu (pickV t12_6 t15_9 (Value.bool false)) fun t16_11 =>
  Gd (isB true t16_11) (fun kk => kk n2 w_10) w_10 fun t18_12 w_13 =>
  Gd (isB true t16_11) (fun kk => kk d0 w_13) w_13 fun t19_14 w_15 =>
  Gd (isB true t16_11) (fun kk => Cl Tryz.prog 108 [t19_14] w_15 kk) w_15 fun t20_16 w_17 =>
  Gd (isB true t16_11) (fun kk => Pu (binV (TypeDesc.int IntKind.i64) .leq t18_12 t20_16) fun vv => kk vv w_17) w_17 fun t21_18 w_19 =>
  Pu (pickV t16_11 t21_18 (Value.bool false)) fun t22_20 =>
  Gd (isB true t22_20) (fun kk => kk fromv1 w_19) w_19 fun t24_21 w_22 =>
  Gd (isB true t22_20) (fun kk => kk d0 w_22) w_22 fun t25_23 w_24 =>
  Gd (isB true t22_20) (fun kk => Cl Tryz.prog 108 [t25_23] w_24 kk) w_24 fun t26_25 w_26 =>
  Gd (isB true t22_20) (fun kk => kk n2 w_26) w_26 fun t27_27 w_28 =>
  Gd (isB true t22_20) (fun kk => Pu (binV (TypeDesc.int IntKind.i64) .sub t26_25 t27_27) fun vv => kk vv w_28) w_28 fun t28_29 w_30 =>
  Gd (isB true t22_20) (fun kk => Pu (binV (TypeDesc.int IntKind.i64) .leq t24_21 t28_29) fun vv => kk vv w_30) w_30 fun t29_31 w_32 =>
  Pu (pickV t22_20 t29_31 (Value.bool false)) fun t30_33 =>
  k t30_33 w_32
theorem e93 (k : KV) (d0 : Value) (fromv1 : Value) (n2 : Value) (w : World) : K KD Tryz.prog 31 (fun j =>  []) (fun j =>  none) (Tryz.f93.body.getD .skip) (retQ Tryz.prog Tryz.f93 k) (argF [d0, fromv1, n2]) w = T93 k d0 fromv1 n2 w := by kernel_rfl
theorem c93 {k : KV} {d0 : Value} {fromv1 : Value} {n2 : Value} {w : World} (h : T93 k d0 fromv1 n2 w) : Cl Tryz.prog 93 [d0, fromv1, n2] w k :=
  Cl_of_K KD_sound mixed Tryz.func93 (by kernel_rfl) (by kernel_rfl) ((e93 k d0 fromv1 n2 w).symm ▸ h)

/-- Function 96: almonry/wal.own. -/
def T96 (k : KV) (r0 : Value) (w : World) : Prop :=
  New (Value.cells r0) 28 w fun r1_1 w_2 =>
  New #[(Value.int IntKind.i64 0), (Value.int IntKind.i64 0), (Value.int IntKind.i64 0), (Value.int IntKind.u8 0), (Value.int IntKind.i64 0), (Value.int IntKind.i64 0), (Value.int IntKind.i64 0), (Value.int IntKind.i64 0), (Value.int IntKind.i64 0), (Value.int IntKind.i64 0), (Value.string (ByteArray.mk #[])), (Value.slice none 0 0), (Value.slice none 0 0), (Value.slice none 0 0), (Value.slice none 0 0), (Value.slice none 0 0)] 28 w_2 fun t2_3 w_4 =>
  LdN 16 w_4 r1_1 fun t9_5 w_6 =>
  Cl Tryz.prog 89 [t9_5] w_6 fun t10_7 w_8 =>
  Pu (extV t10_7 0) fun t11_9 =>
  Pu (extV t10_7 1) fun t12_10 =>
  Cl Tryz.prog 13 [t11_9] w_8 fun t15_11 w_12 =>
  Pu (extV t15_11 0) fun t16_13 =>
  Pu (extV t15_11 1) fun t17_14 =>
  Pu (extV t15_11 2) fun t18_15 =>
  New #[(Value.int IntKind.i64 0), (Value.int IntKind.i64 0), (Value.int IntKind.i64 0), (Value.int IntKind.u8 0), (Value.int IntKind.i64 0), (Value.int IntKind.i64 0), (Value.int IntKind.i64 0), (Value.int IntKind.i64 0), (Value.int IntKind.i64 0), (Value.int IntKind.i64 0), (Value.string (ByteArray.mk #[])), (Value.slice none 0 0), (Value.slice none 0 0), (Value.slice none 0 0), (Value.slice none 0 0), (Value.slice none 0 0)] 28 w_12 fun c5_16 w_17 =>
  St 16 w_17 c5_16 t16_13 fun u_18 w_19 =>
  LdN 16 w_19 c5_16 fun t19_20 w_21 =>
  St 16 w_21 t2_3 t19_20 fun u_22 w_23 =>
  RetO (resL Tryz.prog (fun j => bif Nat.beq j 2 then t2_3 else undef) w_23 [(ResultVar.cell 2 28)]) w_23 k
theorem e96 (k : KV) (r0 : Value) (w : World) : K KD Tryz.prog 20 (fun j =>  []) (fun j =>  none) (Tryz.f96.body.getD .skip) (retQ Tryz.prog Tryz.f96 k) (argF [r0]) w = T96 k r0 w := by kernel_rfl
theorem c96 {k : KV} {r0 : Value} {w : World} (h : T96 k r0 w) : Cl Tryz.prog 96 [r0] w k :=
  Cl_of_K KD_sound mixed Tryz.func96 (by kernel_rfl) (by kernel_rfl) ((e96 k r0 w).symm ▸ h)

/-- Function 97: almonry/wal.of. -/
def T97 (k : KV) (atv0 : Value) (w : World) : Prop :=
  Pu (binV (TypeDesc.int IntKind.i64) .sub atv0 (Value.int IntKind.i64 1)) fun t4_1 =>
  Pu (binV (TypeDesc.int IntKind.i64) .quo t4_1 (Value.int IntKind.i64 54)) fun t5_2 =>
  k t5_2 w
theorem e97 (k : KV) (atv0 : Value) (w : World) : K KD Tryz.prog 6 (fun j =>  []) (fun j =>  none) (Tryz.f97.body.getD .skip) (retQ Tryz.prog Tryz.f97 k) (argF [atv0]) w = T97 k atv0 w := by kernel_rfl
theorem c97 {k : KV} {atv0 : Value} {w : World} (h : T97 k atv0 w) : Cl Tryz.prog 97 [atv0] w k :=
  Cl_of_K KD_sound mixed Tryz.func97 (by kernel_rfl) (by kernel_rfl) ((e97 k atv0 w).symm ▸ h)

/-- Function 98: almonry/wal.first. -/
def T98 (k : KV) (kv0 : Value) (w : World) : Prop :=
  Pu (binV (TypeDesc.int IntKind.i64) .mul kv0 (Value.int IntKind.i64 54)) fun t4_1 =>
  Pu (binV (TypeDesc.int IntKind.i64) .add t4_1 (Value.int IntKind.i64 1)) fun t5_2 =>
  k t5_2 w
theorem e98 (k : KV) (kv0 : Value) (w : World) : K KD Tryz.prog 6 (fun j =>  []) (fun j =>  none) (Tryz.f98.body.getD .skip) (retQ Tryz.prog Tryz.f98 k) (argF [kv0]) w = T98 k kv0 w := by kernel_rfl
theorem c98 {k : KV} {kv0 : Value} {w : World} (h : T98 k kv0 w) : Cl Tryz.prog 98 [kv0] w k :=
  Cl_of_K KD_sound mixed Tryz.func98 (by kernel_rfl) (by kernel_rfl) ((e98 k kv0 w).symm ▸ h)

/-- Function 99: (*almonry/wal.Log).sector. -/
def T99 (k : KV) (l0 : Value) (kv1 : Value) (w : World) : Prop :=
  Pu (nilV l0) fun t6_1 =>
  Pu (faV 1 t6_1) fun t7_2 =>
  Ld (World.drew w) t7_2 fun t8_3 w_4 =>
  w_4 = (World.drew w) ∧
  Pu (nilV l0) fun t11_5 =>
  Pu (faV 2 t11_5) fun t12_6 =>
  Ld (World.drew w) t12_6 fun t13_7 w_8 =>
  w_8 = (World.drew w) ∧
  Pu (binV (TypeDesc.int IntKind.i64) .rem kv1 t13_7) fun t14_9 =>
  Pu (binV (TypeDesc.int IntKind.i64) .add t8_3 t14_9) fun t15_10 =>
  k t15_10 (World.drew w)
theorem e99 (k : KV) (l0 : Value) (kv1 : Value) (w : World) : K KD Tryz.prog 16 (fun j =>  []) (fun j =>  none) (Tryz.f99.body.getD .skip) (retQ Tryz.prog Tryz.f99 k) (argF [l0, kv1]) w = T99 k l0 kv1 w := by kernel_rfl
theorem c99 {k : KV} {l0 : Value} {kv1 : Value} {w : World} (h : T99 k l0 kv1 w) : Cl Tryz.prog 99 [l0, kv1] w k :=
  Cl_of_K KD_sound mixed Tryz.func99 (by kernel_rfl) (by kernel_rfl) ((e99 k l0 kv1 w).symm ▸ h)

/-- Function 100: almonry/wal.sealed. -/
def T100 (k : KV) (kv0 : Value) (b1 : Value) (w : World) : Prop :=
  Pu (lenS b1) fun t7_1 =>
  Pu (cvI IntKind.u8 t7_1) fun t8_2 =>
  RunS Tryz.prog (Instr.buildSlice 123 1 #[(0, t8_2)]) w fun t9_3 w_4 =>
  RunS Tryz.prog (convert 123 9 t9_3) w_4 fun t10_5 w_6 =>
  Cl Tryz.prog 179 [kv0] w_6 fun t12_7 w_8 =>
  Pu (binV TypeDesc.string .add t12_7 t10_5) fun t14_9 =>
  Pu (binV TypeDesc.string .add t14_9 b1) fun t16_10 =>
  Pu (lenS b1) fun t18_11 =>
  Pu (binV (TypeDesc.int IntKind.i64) .sub (Value.int IntKind.i64 54) t18_11) fun t19_12 =>
  Cl Tryz.prog 95 [(Value.string (ByteArray.mk #[0])), t19_12] w_8 fun t20_13 w_14 =>
  Pu (binV TypeDesc.string .add t16_10 t20_13) fun t21_15 =>
  Pu (binV TypeDesc.string .add t21_15 t10_5) fun t23_16 =>
  Cl Tryz.prog 179 [kv0] w_14 fun t25_17 w_18 =>
  Pu (binV TypeDesc.string .add t23_16 t25_17) fun t26_19 =>
  k t26_19 w_18
theorem e100 (k : KV) (kv0 : Value) (b1 : Value) (w : World) : K KD Tryz.prog 27 (fun j =>  []) (fun j =>  none) (Tryz.f100.body.getD .skip) (retQ Tryz.prog Tryz.f100 k) (argF [kv0, b1]) w = T100 k kv0 b1 w := by kernel_rfl
theorem c100 {k : KV} {kv0 : Value} {b1 : Value} {w : World} (h : T100 k kv0 b1 w) : Cl Tryz.prog 100 [kv0, b1] w k :=
  Cl_of_K KD_sound mixed Tryz.func100 (by kernel_rfl) (by kernel_rfl) ((e100 k kv0 b1 w).symm ▸ h)

/-- Function 101: (*almonry/wal.Log).bytes. -/
def T101 (k : KV) (l0 : Value) (kv1 : Value) (w : World) : Prop :=
  ∃ C_1 : World → Prop, C_1 (World.drew w) ∧
  (Pu (nilV l0) fun t9_2 =>
  Pu (faV 3 t9_2) fun t10_3 =>
  ∃ t11_4, (∀ w_5, C_1 w_5 → Ld w_5 t10_3 fun t11_6 w_7 =>
  t11_6 = t11_4 ∧ w_7 = w_5) ∧
  (Cl Tryz.prog 98 [kv1] (World.drew w) fun t7_8 w_9 =>
  C_1 w_9 ∧
  (Pu (binV (TypeDesc.int IntKind.i64) .sub t7_8 t11_4) fun t12_10 =>
  Pu (nilV l0) fun t14_11 =>
  Pu (faV 4 t14_11) fun t15_12 =>
  Ld (World.drew w_9) t15_12 fun t16_13 w_14 =>
  w_14 = (World.drew w_9) ∧
  Pu (binV (TypeDesc.int IntKind.i64) .add t12_10 (Value.int IntKind.i64 54)) fun t19_15 =>
  Pu (nilV l0) fun t21_16 =>
  Pu (faV 4 t21_16) fun t22_17 =>
  Ld (World.drew w_9) t22_17 fun t23_18 w_19 =>
  w_19 = (World.drew w_9) ∧
  Pu (lenV t23_18) fun t24_20 =>
  Pu (foldV0 min2V [t19_15, t24_20]) fun t25_21 =>
  Pu (slV 1 t16_13 (some t12_10) (some t25_21) none) fun t26_22 =>
  RunS Tryz.prog (convert 123 9 t26_22) (World.drew w_9) fun t27_23 w_24 =>
  w_24 = (World.drew w_9) ∧
  k t27_23 (World.drew w_9))))
theorem e101 (k : KV) (l0 : Value) (kv1 : Value) (w : World) : K KD Tryz.prog 28 (fun j =>  []) (fun j =>  none) (Tryz.f101.body.getD .skip) (retQ Tryz.prog Tryz.f101 k) (argF [l0, kv1]) w = T101 k l0 kv1 w := by kernel_rfl
theorem c101 {k : KV} {l0 : Value} {kv1 : Value} {w : World} (h : T101 k l0 kv1 w) : Cl Tryz.prog 101 [l0, kv1] w k :=
  Cl_of_K KD_sound mixed Tryz.func101 (by kernel_rfl) (by kernel_rfl) ((e101 k l0 kv1 w).symm ▸ h)

/-- Function 140: (*almonry/wal.Log).read. -/
def T140 (k : KV) (l0 : Value) (kv1 : Value) (w : World) : Prop :=
  Jn (fun vs_45 w_44 => ∀ g_46 : Fr, ∃ out6_4 : Value, vs_45 = [out6_4] ∧
      (k (.tuple #[out6_4, (Value.int IntKind.i64 0)]) w_44))
    (fun jj_1 =>
    Pu (nilV l0) fun t12_47 =>
    Pu (faV 2 t12_47) fun t13_48 =>
    Ld w t13_48 fun t14_49 w_50 =>
    ∃ (I_51 : List Value → World → Prop) (m_52 : List Value → World → Nat), I_51 [(Value.slice none 0 0), (Value.int IntKind.i64 0)] w_50 ∧
    ∀ (g_93 : Fr) (w_92 : World), ∀ out6_56 : Value, ∀ t15_61 : Value, I_51 [out6_56, t15_61] w_92 →
      (Pu (binV (TypeDesc.int IntKind.i64) .lss t15_61 t14_49) fun t16_94 =>
      IfB t16_94
        (∃ C_95 : World → Prop, C_95 (World.drew w_92) ∧
      (Pu (nilV l0) fun t20_96 =>
      Pu (faV 0 t20_96) fun t21_97 =>
      ∃ t22_98, (∀ w_99, C_95 w_99 → Ld w_99 t21_97 fun t22_100 w_101 =>
      t22_100 = t22_98 ∧ w_101 = w_99) ∧
      (Pu (binV (TypeDesc.int IntKind.i64) .add kv1 t15_61) fun t26_102 =>
      Cl Tryz.prog 99 [l0, t26_102] (World.drew w_92) fun t27_103 w_104 =>
      C_95 w_104 ∧
      (Cl Tryz.prog 40 [t22_98, t27_103, (Value.int IntKind.i64 1)] w_104 fun t28_105 w_106 =>
      Pu (extV t28_105 0) fun t29_107 =>
      Pu (extV t28_105 1) fun t30_108 =>
      Pu (binV (TypeDesc.int IntKind.i64) .neq t30_108 (Value.int IntKind.i64 0)) fun t32_109 =>
      IfB t32_109
        (k (.tuple #[(Value.slice none 0 0), t30_108]) w_106)
        (Pu (binV (TypeDesc.int IntKind.i64) .add kv1 t15_61) fun t37_110 =>
      Cl Tryz.prog 194 [t29_107, t37_110] w_106 fun t38_111 w_112 =>
      RunS Tryz.prog (Builtin.append_ #[123, 9] 123 #[out6_56, t38_111]) w_112 fun t41_113 w_114 =>
      Pu (lenS t38_111) fun t43_115 =>
      Pu (binV (TypeDesc.int IntKind.i64) .lss t43_115 (Value.int IntKind.i64 54)) fun t44_116 =>
      IfB t44_116
        (jj_1 [t41_113] w_114)
        (Pu (binV (TypeDesc.int IntKind.i64) .add t15_61 (Value.int IntKind.i64 1)) fun t45_117 =>
      I_51 [t41_113, t45_117] w_114 ∧ m_52 [t41_113, t45_117] w_114 < m_52 [out6_56, t15_61] w_92))))))
        (jj_1 [out6_56] w_92)))
theorem e140 (k : KV) (l0 : Value) (kv1 : Value) (w : World) : K KD Tryz.prog 47 (fun j => bif Nat.beq j 3 then [6, 15] else []) (fun j => bif Nat.beq j 12 then some [6] else none) (Tryz.f140.body.getD .skip) (retQ Tryz.prog Tryz.f140 k) (argF [l0, kv1]) w = T140 k l0 kv1 w := by kernel_rfl
theorem c140 {k : KV} {l0 : Value} {kv1 : Value} {w : World} (h : T140 k l0 kv1 w) : Cl Tryz.prog 140 [l0, kv1] w k :=
  Cl_of_K KD_sound mixed Tryz.func140 (by kernel_rfl) (by kernel_rfl) ((e140 k l0 kv1 w).symm ▸ h)

/-- Function 141: (*almonry/wal.Log).wipe. -/
def T141 (k : KV) (l0 : Value) (w : World) : Prop :=
  Pu (nilV l0) fun t14_1 =>
  Pu (faV 2 t14_1) fun t15_2 =>
  Ld w t15_2 fun t16_3 w_4 =>
  RunS Tryz.prog (Instr.makeSlice 59 t16_3 t16_3) w_4 fun t17_5 w_6 =>
  Pu (lenV t17_5) fun t19_7 =>
  ∃ (I_8 : List Value → World → Prop) (m_9 : List Value → World → Nat), I_8 [(Value.int IntKind.i64 0)] w_6 ∧
  ∀ (g_21 : Fr) (w_20 : World), ∀ t20_12 : Value, I_8 [t20_12] w_20 →
    (Pu (binV (TypeDesc.int IntKind.i64) .lss t20_12 t19_7) fun t21_22 =>
    IfB t21_22
      (Cl Tryz.prog 95 [(Value.string (ByteArray.mk #[0])), (Value.int IntKind.i64 64)] w_20 fun t25_23 w_24 =>
    Pu (ixV 1 t17_5 t20_12) fun t26_25 =>
    St 1 w_24 t26_25 t25_23 fun u_26 w_27 =>
    Pu (binV (TypeDesc.int IntKind.i64) .add t20_12 (Value.int IntKind.i64 1)) fun t27_28 =>
    I_8 [t27_28] w_27 ∧ m_9 [t27_28] w_27 < m_9 [t20_12] w_20)
      (Cl Tryz.prog 20 [l0] w_20 fun t29_29 w_30 =>
  Cl Tryz.prog 97 [t29_29] w_30 fun t30_31 w_32 =>
  Pu (nilV l0) fun t32_33 =>
  Pu (faV 5 t32_33) fun t33_34 =>
  Ld w_32 t33_34 fun t34_35 w_36 =>
  Cl Tryz.prog 97 [t34_35] w_36 fun t35_37 w_38 =>
  ∃ (I_39 : List Value → World → Prop) (m_40 : List Value → World → Nat), I_39 [t35_37] w_38 ∧
  ∀ (g_57 : Fr) (w_56 : World), ∀ kv6_42 : Value, I_39 [kv6_42] w_56 →
    (Pu (binV (TypeDesc.int IntKind.i64) .lss kv6_42 t30_31) fun t38_58 =>
    IfB t38_58
      (Pu (nilV l0) fun t44_59 =>
    Pu (faV 2 t44_59) fun t45_60 =>
    Ld w_56 t45_60 fun t46_61 w_62 =>
    Pu (binV (TypeDesc.int IntKind.i64) .rem kv6_42 t46_61) fun t47_63 =>
    Pu (ixV 1 t17_5 t47_63) fun t48_64 =>
    St 1 w_62 t48_64 (Value.string (ByteArray.mk #[])) fun u_65 w_66 =>
    Pu (binV (TypeDesc.int IntKind.i64) .add kv6_42 (Value.int IntKind.i64 1)) fun t40_67 =>
    I_39 [t40_67] w_66 ∧ m_40 [t40_67] w_66 < m_40 [kv6_42] w_56)
      (Jn (fun vs_87 w_86 => ∀ g_88 : Fr, vs_87 = [] ∧
      (Pu (lenV t17_5) fun t66_89 =>
      ∃ (I_90 : List Value → World → Prop) (m_91 : List Value → World → Nat), I_90 [(Value.bool false), (Value.int IntKind.i64 0)] w_86 ∧
      ∀ (g_144 : Fr) (w_143 : World), ∀ wrote8_94 : Value, ∀ t67_99 : Value, I_90 [wrote8_94, t67_99] w_143 →
        (Pu (binV (TypeDesc.int IntKind.i64) .lss t67_99 t66_89) fun t68_145 =>
        IfB t68_145
          (Jn (fun vs_195 w_194 => ∀ g_196 : Fr, ∃ wrote8_148 : Value, vs_195 = [wrote8_148] ∧
            (Pu (binV (TypeDesc.int IntKind.i64) .add t67_99 (Value.int IntKind.i64 1)) fun t110_197 =>
            I_90 [wrote8_148, t110_197] w_194 ∧ m_91 [wrote8_148, t110_197] w_194 < m_91 [wrote8_94, t67_99] w_143))
          (fun jj_146 =>
          Pu (ixV 1 t17_5 t67_99) fun t70_198 =>
          Ld w_143 t70_198 fun t71_199 w_200 =>
          Pu (binV TypeDesc.string .eql t71_199 (Value.string (ByteArray.mk #[]))) fun t73_201 =>
          IfB t73_201
            (jj_146 [wrote8_94] w_200)
            (Pu (nilV l0) fun t76_202 =>
          Pu (faV 0 t76_202) fun t77_203 =>
          Ld (World.drew w_200) t77_203 fun t78_204 w_205 =>
          w_205 = (World.drew w_200) ∧
          Pu (nilV l0) fun t80_206 =>
          Pu (faV 1 t80_206) fun t81_207 =>
          Ld (World.drew w_200) t81_207 fun t82_208 w_209 =>
          w_209 = (World.drew w_200) ∧
          Pu (binV (TypeDesc.int IntKind.i64) .add t82_208 t67_99) fun t84_210 =>
          Cl Tryz.prog 40 [t78_204, t84_210, (Value.int IntKind.i64 1)] (World.drew w_200) fun t85_211 w_212 =>
          Pu (extV t85_211 0) fun t86_213 =>
          Pu (extV t85_211 1) fun t87_214 =>
          Jn (fun vs_238 w_237 => ∀ g_239 : Fr, ∃ wrote8_216 : Value, ∃ e12_217 : Value, vs_238 = [wrote8_216, e12_217] ∧
              (Pu (binV (TypeDesc.int IntKind.i64) .neq e12_217 (Value.int IntKind.i64 0)) fun t108_240 =>
              IfB t108_240
                (k e12_217 w_237)
                (jj_146 [wrote8_216] w_237)))
            (fun jj_215 =>
            Pu (binV (TypeDesc.int IntKind.i64) .eql t87_214 (Value.int IntKind.i64 0)) fun t89_241 =>
            Gd (isB true t89_241) (fun kk => kk t86_213 w_212) w_212 fun t91_242 w_243 =>
            Gd (isB true t89_241) (fun kk => kk t71_199 w_243) w_243 fun t92_244 w_245 =>
            Gd (isB true t89_241) (fun kk => Pu (binV TypeDesc.string .neq t91_242 t92_244) fun vv => kk vv w_245) w_245 fun t93_246 w_247 =>
            Pu (pickV t89_241 t93_246 (Value.bool false)) fun t94_248 =>
            IfB t94_248
              (Pu (nilV l0) fun t96_249 =>
                Pu (faV 0 t96_249) fun t97_250 =>
                Ld (World.drew w_247) t97_250 fun t98_251 w_252 =>
                w_252 = (World.drew w_247) ∧
                Pu (nilV l0) fun t100_253 =>
                Pu (faV 1 t100_253) fun t101_254 =>
                Ld (World.drew w_247) t101_254 fun t102_255 w_256 =>
                w_256 = (World.drew w_247) ∧
                Pu (binV (TypeDesc.int IntKind.i64) .add t102_255 t67_99) fun t104_257 =>
                Cl Tryz.prog 94 [t98_251, t104_257, t71_199] (World.drew w_247) fun t106_258 w_259 =>
                jj_215 [(Value.bool true), t106_258] w_259)
              (jj_215 [wrote8_94, t87_214] w_247)))))
          (Pu (unV .not wrote8_94) fun t112_260 =>
      IfB t112_260
        (k (Value.int IntKind.i64 0) w_143)
        (Pu (nilV l0) fun t114_261 =>
      Pu (faV 0 t114_261) fun t115_262 =>
      Ld w_143 t115_262 fun t116_263 w_264 =>
      Cl Tryz.prog 38 [t116_263] w_264 fun t117_265 w_266 =>
      k t117_265 w_266)))))
    (fun jj_68 =>
    Cl Tryz.prog 101 [l0, t30_31] w_56 fun t51_267 w_268 =>
    Pu (binV TypeDesc.string .neq t51_267 (Value.string (ByteArray.mk #[]))) fun t53_269 =>
    IfB t53_269
      (∃ C_270 : World → Prop, C_270 (World.drew w_268) ∧
        (Pu (nilV l0) fun t57_271 =>
        Pu (faV 2 t57_271) fun t58_272 =>
        ∃ t59_273, (∀ w_274, C_270 w_274 → Ld w_274 t58_272 fun t59_275 w_276 =>
        t59_275 = t59_273 ∧ w_276 = w_274) ∧
        (Pu (binV (TypeDesc.int IntKind.i64) .rem t30_31 t59_273) fun t60_277 =>
        Cl Tryz.prog 100 [t30_31, t51_267] (World.drew w_268) fun t63_278 w_279 =>
        C_270 w_279 ∧
        (Pu (ixV 1 t17_5 t60_277) fun t64_280 =>
        St 1 w_279 t64_280 t63_278 fun u_281 w_282 =>
        jj_68 [] w_282))))
      (jj_68 [] w_268))))))
theorem e141 (k : KV) (l0 : Value) (w : World) : K KD Tryz.prog 118 (fun j => bif Nat.beq j 17 then [8, 67] else bif Nat.beq j 9 then [6] else bif Nat.beq j 3 then [20] else []) (fun j => bif Nat.beq j 15 then some [] else bif Nat.beq j 26 then some [8] else bif Nat.beq j 24 then some [8, 12] else none) (Tryz.f141.body.getD .skip) (retQ Tryz.prog Tryz.f141 k) (argF [l0]) w = T141 k l0 w := by kernel_rfl
theorem c141 {k : KV} {l0 : Value} {w : World} (h : T141 k l0 w) : Cl Tryz.prog 141 [l0] w k :=
  Cl_of_K KD_sound mixed Tryz.func141 (by kernel_rfl) (by kernel_rfl) ((e141 k l0 w).symm ▸ h)

/-- Function 74: almonry/wal.Open. -/
def T74 (k : KV) (d0 : Value) (fromv1 : Value) (n2 : Value) (start3 : Value) (w : World) : Prop :=
  Cl Tryz.prog 93 [d0, fromv1, n2] w fun t24_1 w_2 =>
  Pu (unV .not t24_1) fun t25_3 =>
  Gd (isB false t25_3) (fun kk => kk start3 w_2) w_2 fun t27_4 w_5 =>
  Gd (isB false t25_3) (fun kk => Pu (binV (TypeDesc.int IntKind.i64) .lss t27_4 (Value.int IntKind.i64 1)) fun vv => kk vv w_5) w_5 fun t28_6 w_7 =>
  Pu (pickV t25_3 (Value.bool true) t28_6) fun t29_8 =>
  IfB t29_8
    (k (.tuple #[(Value.pointer none), (Value.slice none 0 0), (Value.int IntKind.i64 1)]) w_7)
    (Cl Tryz.prog 58 [d0] w_7 fun t31_9 w_10 =>
  IfB t31_9
    (k (.tuple #[(Value.pointer none), (Value.slice none 0 0), (Value.int IntKind.i64 5)]) w_10)
    (Cl Tryz.prog 97 [start3] w_10 fun t36_11 w_12 =>
  Cl Tryz.prog 98 [t36_11] w_12 fun t37_13 w_14 =>
  RunS Tryz.prog (Instr.makeMap 130 none) w_14 fun t39_15 w_16 =>
  RunS Tryz.prog (Instr.build 132 #[(0, d0), (1, fromv1), (2, n2), (3, t37_13), (5, start3), (8, t39_15)]) w_16 fun t40_17 w_18 =>
  New (Value.cells t40_17) 132 w_18 fun t41_19 w_20 =>
  Cl Tryz.prog 97 [start3] w_20 fun t45_21 w_22 =>
  Cl Tryz.prog 140 [t41_19, t45_21] w_22 fun t46_23 w_24 =>
  Pu (extV t46_23 0) fun t47_25 =>
  Pu (extV t46_23 1) fun t48_26 =>
  Pu (binV (TypeDesc.int IntKind.i64) .neq t48_26 (Value.int IntKind.i64 0)) fun t50_27 =>
  IfB t50_27
    (k (.tuple #[(Value.pointer none), (Value.slice none 0 0), t48_26]) w_24)
    (Pu (nilV t41_19) fun t54_28 =>
  Pu (faV 3 t54_28) fun t55_29 =>
  Ld w_24 t55_29 fun t56_30 w_31 =>
  Pu (binV (TypeDesc.int IntKind.i64) .sub start3 t56_30) fun t57_32 =>
  Jn (fun vs_42 w_41 => ∀ g_43 : Fr, ∃ all12_34 : Value, vs_42 = [all12_34] ∧
      (∃ (I_44 : List Value → World → Prop) (m_45 : List Value → World → Nat), I_44 [(Value.slice none 0 0), t57_32] w_41 ∧
      ∀ (g_90 : Fr) (w_89 : World), ∀ out15_47 : Value, ∀ endv16_48 : Value, I_44 [out15_47, endv16_48] w_89 →
        (Pu (slV 1 all12_34 (some endv16_48) none none) fun t68_91 =>
        RunS Tryz.prog (convert 123 9 t68_91) w_89 fun t69_92 w_93 =>
        Cl Tryz.prog 13 [t69_92] w_93 fun t70_94 w_95 =>
        Pu (extV t70_94 0) fun t71_96 =>
        Pu (extV t70_94 1) fun t72_97 =>
        Pu (extV t70_94 2) fun t73_98 =>
        New #[(Value.int IntKind.i64 0), (Value.int IntKind.i64 0), (Value.int IntKind.i64 0), (Value.int IntKind.u8 0), (Value.int IntKind.i64 0), (Value.int IntKind.i64 0), (Value.int IntKind.i64 0), (Value.int IntKind.i64 0), (Value.int IntKind.i64 0), (Value.int IntKind.i64 0), (Value.string (ByteArray.mk #[])), (Value.slice none 0 0), (Value.slice none 0 0), (Value.slice none 0 0), (Value.slice none 0 0), (Value.slice none 0 0)] 28 w_95 fun r17_99 w_100 =>
        St 16 w_100 r17_99 t71_96 fun u_101 w_102 =>
        Pu (binV (TypeDesc.int IntKind.i64) .neq t73_98 (Value.int IntKind.i64 0)) fun t75_103 =>
        Gd (isB false t75_103) (fun kk => Pu (faV 0 r17_99) fun vv => kk vv (World.drew w_102)) (World.drew w_102) fun t77_104 w_105 =>
        Gd (isB false t75_103) (fun kk => Ld w_105 t77_104 kk) w_105 fun t78_106 w_107 =>
        w_107 = w_105 ∧
        Gd (isB false t75_103) (fun kk => kk t41_19 w_105) w_105 fun t79_108 w_109 =>
        Gd (isB false t75_103) (fun kk => Pu (nilV t79_108) fun vv => kk vv w_109) w_109 fun t80_110 w_111 =>
        Gd (isB false t75_103) (fun kk => Pu (faV 3 t80_110) fun vv => kk vv w_111) w_111 fun t81_112 w_113 =>
        Gd (isB false t75_103) (fun kk => Ld w_113 t81_112 kk) w_113 fun t82_114 w_115 =>
        w_115 = w_113 ∧
        Gd (isB false t75_103) (fun kk => kk endv16_48 w_113) w_113 fun t83_116 w_117 =>
        Gd (isB false t75_103) (fun kk => Pu (binV (TypeDesc.int IntKind.i64) .add t82_114 t83_116) fun vv => kk vv w_117) w_117 fun t84_118 w_119 =>
        Gd (isB false t75_103) (fun kk => Pu (binV (TypeDesc.int IntKind.i64) .neq t78_106 t84_118) fun vv => kk vv w_119) w_119 fun t85_120 w_121 =>
        Pu (pickV t75_103 (Value.bool true) t85_120) fun t86_122 =>
        IfB t86_122
          (Pu (slV 1 all12_34 none (some endv16_48) (some endv16_48)) fun t106_123 =>
      Pu (nilV t41_19) fun t107_124 =>
      Pu (faV 4 t107_124) fun t108_125 =>
      St 1 w_121 t108_125 t106_123 fun u_126 w_127 =>
      Cl Tryz.prog 20 [t41_19] w_127 fun t111_128 w_129 =>
      Pu (nilV t41_19) fun t112_130 =>
      Pu (faV 6 t112_130) fun t113_131 =>
      St 1 w_129 t113_131 t111_128 fun u_132 w_133 =>
      Cl Tryz.prog 141 [t41_19] w_133 fun t115_134 w_135 =>
      Pu (binV (TypeDesc.int IntKind.i64) .neq t115_134 (Value.int IntKind.i64 0)) fun t117_136 =>
      IfB t117_136
        (k (.tuple #[(Value.pointer none), (Value.slice none 0 0), t115_134]) w_135)
        (k (.tuple #[t41_19, out15_47, (Value.int IntKind.i64 0)]) w_135))
          (Pu (nilV t41_19) fun t88_137 =>
        Pu (faV 8 t88_137) fun t89_138 =>
        Ld (World.drew w_121) t89_138 fun t90_139 w_140 =>
        w_140 = (World.drew w_121) ∧
        Pu (faV 0 r17_99) fun t91_141 =>
        Ld (World.drew w_121) t91_141 fun t92_142 w_143 =>
        w_143 = (World.drew w_121) ∧
        LdN 16 (World.drew w_121) r17_99 fun t93_144 w_145 =>
        w_145 = (World.drew w_121) ∧
        RunU Tryz.prog (Instr.mapUpdate 130 t90_139 t92_142 t93_144) (World.drew w_121) fun u_146 w_147 =>
        LdN 16 w_147 r17_99 fun t95_148 w_149 =>
        Cl Tryz.prog 96 [t95_148] w_149 fun t96_150 w_151 =>
        RunS Tryz.prog (Instr.buildSlice 49 1 #[(0, t96_150)]) w_151 fun t97_152 w_153 =>
        RunS Tryz.prog (Builtin.append_ #[49, 49] 49 #[out15_47, t97_152]) w_153 fun t98_154 w_155 =>
        Pu (binV (TypeDesc.int IntKind.i64) .add endv16_48 t72_97) fun t101_156 =>
        I_44 [t98_154, t101_156] w_155 ∧ m_45 [t98_154, t101_156] w_155 < m_45 [out15_47, endv16_48] w_89))))
    (fun jj_33 =>
    Pu (lenV t47_25) fun t59_157 =>
    Pu (binV (TypeDesc.int IntKind.i64) .lss t59_157 t57_32) fun t61_158 =>
    IfB t61_158
      (RunS Tryz.prog (Instr.makeSlice 123 t57_32 t57_32) w_31 fun t63_159 w_160 =>
        jj_33 [t63_159] w_160)
      (jj_33 [t47_25] w_31)))))
theorem e74 (k : KV) (d0 : Value) (fromv1 : Value) (n2 : Value) (start3 : Value) (w : World) : K KD Tryz.prog 121 (fun j => bif Nat.beq j 14 then [15, 16] else []) (fun j => bif Nat.beq j 12 then some [12] else none) (Tryz.f74.body.getD .skip) (retQ Tryz.prog Tryz.f74 k) (argF [d0, fromv1, n2, start3]) w = T74 k d0 fromv1 n2 start3 w := by kernel_rfl
theorem c74 {k : KV} {d0 : Value} {fromv1 : Value} {n2 : Value} {start3 : Value} {w : World} (h : T74 k d0 fromv1 n2 start3 w) : Cl Tryz.prog 74 [d0, fromv1, n2, start3] w k :=
  Cl_of_K KD_sound mixed Tryz.func74 (by kernel_rfl) (by kernel_rfl) ((e74 k d0 fromv1 n2 start3 w).symm ▸ h)

/-- Function 179: almonry/wal.name. -/
def T179 (k : KV) (kv0 : Value) (w : World) : Prop :=
  Pu (binV (TypeDesc.int IntKind.i64) .add kv0 (Value.int IntKind.i64 1)) fun t4_1 =>
  Pu (binV (TypeDesc.int IntKind.i64) .rem t4_1 (Value.int IntKind.i64 4294967296)) fun t5_2 =>
  Cl Tryz.prog 115 [t5_2, (Value.int IntKind.i64 4)] w fun t6_3 w_4 =>
  k t6_3 w_4
theorem e179 (k : KV) (kv0 : Value) (w : World) : K KD Tryz.prog 7 (fun j =>  []) (fun j =>  none) (Tryz.f179.body.getD .skip) (retQ Tryz.prog Tryz.f179 k) (argF [kv0]) w = T179 k kv0 w := by kernel_rfl
theorem c179 {k : KV} {kv0 : Value} {w : World} (h : T179 k kv0 w) : Cl Tryz.prog 179 [kv0] w k :=
  Cl_of_K KD_sound mixed Tryz.func179 (by kernel_rfl) (by kernel_rfl) ((e179 k kv0 w).symm ▸ h)

/-- Function 194: almonry/wal.opened. -/
def T194 (k : KV) (s0 : Value) (kv1 : Value) (w : World) : Prop :=
  Cl Tryz.prog 179 [kv1] w fun t7_1 w_2 =>
  Cl Tryz.prog 174 [s0, t7_1] w_2 fun t8_3 w_4 =>
  Pu (unV .not t8_3) fun t9_5 =>
  Gd (isB false t9_5) (fun kk => kk s0 w_4) w_4 fun t11_6 w_7 =>
  Gd (isB false t9_5) (fun kk => kk kv1 w_7) w_7 fun t12_8 w_9 =>
  Gd (isB false t9_5) (fun kk => Cl Tryz.prog 179 [t12_8] w_9 kk) w_9 fun t13_10 w_11 =>
  Gd (isB false t9_5) (fun kk => Cl Tryz.prog 222 [t11_6, t13_10] w_11 kk) w_11 fun t14_12 w_13 =>
  Gd (isB false t9_5) (fun kk => Pu (unV .not t14_12) fun vv => kk vv w_13) w_13 fun t15_14 w_15 =>
  Pu (pickV t9_5 (Value.bool true) t15_14) fun t16_16 =>
  IfB t16_16
    (k (Value.string (ByteArray.mk #[])) w_15)
    (Pu (slS s0 (some (Value.int IntKind.i64 5)) none) fun t18_17 =>
  Pu (ixS s0 (Value.int IntKind.i64 4)) fun t20_18 =>
  Pu (ixS s0 (Value.int IntKind.i64 59)) fun t22_19 =>
  Pu (foldV0 min2V [t20_18, t22_19, (Value.int IntKind.u8 54)]) fun t23_20 =>
  Pu (slS t18_17 none (some t23_20)) fun t24_21 =>
  k t24_21 (World.drew w_15))
theorem e194 (k : KV) (s0 : Value) (kv1 : Value) (w : World) : K KD Tryz.prog 25 (fun j =>  []) (fun j =>  none) (Tryz.f194.body.getD .skip) (retQ Tryz.prog Tryz.f194 k) (argF [s0, kv1]) w = T194 k s0 kv1 w := by kernel_rfl
theorem c194 {k : KV} {s0 : Value} {kv1 : Value} {w : World} (h : T194 k s0 kv1 w) : Cl Tryz.prog 194 [s0, kv1] w k :=
  Cl_of_K KD_sound mixed Tryz.func194 (by kernel_rfl) (by kernel_rfl) ((e194 k s0 kv1 w).symm ▸ h)

/-- Function 174: strings.HasPrefix. -/
def T174 (k : KV) (s0 : Value) (prefixv1 : Value) (w : World) : Prop :=
  Cl Tryz.prog 210 [s0, prefixv1] w fun t7_1 w_2 =>
  k t7_1 w_2
theorem e174 (k : KV) (s0 : Value) (prefixv1 : Value) (w : World) : K KD Tryz.prog 8 (fun j =>  []) (fun j =>  none) (Tryz.f174.body.getD .skip) (retQ Tryz.prog Tryz.f174 k) (argF [s0, prefixv1]) w = T174 k s0 prefixv1 w := by kernel_rfl
theorem c174 {k : KV} {s0 : Value} {prefixv1 : Value} {w : World} (h : T174 k s0 prefixv1 w) : Cl Tryz.prog 174 [s0, prefixv1] w k :=
  Cl_of_K KD_sound mixed Tryz.func174 (by kernel_rfl) (by kernel_rfl) ((e174 k s0 prefixv1 w).symm ▸ h)

/-- Function 222: strings.HasSuffix. -/
def T222 (k : KV) (s0 : Value) (suffix1 : Value) (w : World) : Prop :=
  Cl Tryz.prog 239 [s0, suffix1] w fun t7_1 w_2 =>
  k t7_1 w_2
theorem e222 (k : KV) (s0 : Value) (suffix1 : Value) (w : World) : K KD Tryz.prog 8 (fun j =>  []) (fun j =>  none) (Tryz.f222.body.getD .skip) (retQ Tryz.prog Tryz.f222 k) (argF [s0, suffix1]) w = T222 k s0 suffix1 w := by kernel_rfl
theorem c222 {k : KV} {s0 : Value} {suffix1 : Value} {w : World} (h : T222 k s0 suffix1 w) : Cl Tryz.prog 222 [s0, suffix1] w k :=
  Cl_of_K KD_sound mixed Tryz.func222 (by kernel_rfl) (by kernel_rfl) ((e222 k s0 suffix1 w).symm ▸ h)

/-- Function 210: internal/stringslite.HasPrefix. -/
def T210 (k : KV) (s0 : Value) (prefixv1 : Value) (w : World) : Prop :=
  Pu (lenS s0) fun t6_1 =>
  Pu (lenS prefixv1) fun t8_2 =>
  Pu (binV (TypeDesc.int IntKind.i64) .geq t6_1 t8_2) fun t9_3 =>
  Gd (isB true t9_3) (fun kk => kk s0 w) w fun t11_4 w_5 =>
  Gd (isB true t9_3) (fun kk => kk prefixv1 w_5) w_5 fun t12_6 w_7 =>
  Gd (isB true t9_3) (fun kk => Pu (lenS t12_6) fun vv => kk vv w_7) w_7 fun t13_8 w_9 =>
  Gd (isB true t9_3) (fun kk => Pu (slS t11_4 none (some t13_8)) fun vv => kk vv w_9) w_9 fun t14_10 w_11 =>
  Gd (isB true t9_3) (fun kk => kk prefixv1 w_11) w_11 fun t15_12 w_13 =>
  Gd (isB true t9_3) (fun kk => Pu (binV TypeDesc.string .eql t14_10 t15_12) fun vv => kk vv w_13) w_13 fun t16_14 w_15 =>
  Pu (pickV t9_3 t16_14 (Value.bool false)) fun t17_16 =>
  k t17_16 w_15
theorem e210 (k : KV) (s0 : Value) (prefixv1 : Value) (w : World) : K KD Tryz.prog 18 (fun j =>  []) (fun j =>  none) (Tryz.f210.body.getD .skip) (retQ Tryz.prog Tryz.f210 k) (argF [s0, prefixv1]) w = T210 k s0 prefixv1 w := by kernel_rfl
theorem c210 {k : KV} {s0 : Value} {prefixv1 : Value} {w : World} (h : T210 k s0 prefixv1 w) : Cl Tryz.prog 210 [s0, prefixv1] w k :=
  Cl_of_K KD_sound mixed Tryz.func210 (by kernel_rfl) (by kernel_rfl) ((e210 k s0 prefixv1 w).symm ▸ h)

/-- Function 239: internal/stringslite.HasSuffix. -/
def T239 (k : KV) (s0 : Value) (suffix1 : Value) (w : World) : Prop :=
  Pu (lenS s0) fun t6_1 =>
  Pu (lenS suffix1) fun t8_2 =>
  Pu (binV (TypeDesc.int IntKind.i64) .geq t6_1 t8_2) fun t9_3 =>
  Gd (isB true t9_3) (fun kk => kk s0 w) w fun t11_4 w_5 =>
  Gd (isB true t9_3) (fun kk => kk s0 w_5) w_5 fun t12_6 w_7 =>
  Gd (isB true t9_3) (fun kk => Pu (lenS t12_6) fun vv => kk vv w_7) w_7 fun t13_8 w_9 =>
  Gd (isB true t9_3) (fun kk => kk suffix1 w_9) w_9 fun t14_10 w_11 =>
  Gd (isB true t9_3) (fun kk => Pu (lenS t14_10) fun vv => kk vv w_11) w_11 fun t15_12 w_13 =>
  Gd (isB true t9_3) (fun kk => Pu (binV (TypeDesc.int IntKind.i64) .sub t13_8 t15_12) fun vv => kk vv w_13) w_13 fun t16_14 w_15 =>
  Gd (isB true t9_3) (fun kk => Pu (slS t11_4 (some t16_14) none) fun vv => kk vv w_15) w_15 fun t17_16 w_17 =>
  Gd (isB true t9_3) (fun kk => kk suffix1 w_17) w_17 fun t18_18 w_19 =>
  Gd (isB true t9_3) (fun kk => Pu (binV TypeDesc.string .eql t17_16 t18_18) fun vv => kk vv w_19) w_19 fun t19_20 w_21 =>
  Pu (pickV t9_3 t19_20 (Value.bool false)) fun t20_22 =>
  k t20_22 w_21
theorem e239 (k : KV) (s0 : Value) (suffix1 : Value) (w : World) : K KD Tryz.prog 21 (fun j =>  []) (fun j =>  none) (Tryz.f239.body.getD .skip) (retQ Tryz.prog Tryz.f239 k) (argF [s0, suffix1]) w = T239 k s0 suffix1 w := by kernel_rfl
theorem c239 {k : KV} {s0 : Value} {suffix1 : Value} {w : World} (h : T239 k s0 suffix1 w) : Cl Tryz.prog 239 [s0, suffix1] w k :=
  Cl_of_K KD_sound mixed Tryz.func239 (by kernel_rfl) (by kernel_rfl) ((e239 k s0 suffix1 w).symm ▸ h)

/-- Function 25: almonry/almonrylaw05.awake. -/
def T25 (k : KV) (w : World) : Prop :=
  Cl Tryz.prog 17 [(Value.int IntKind.i64 10)] w fun t13_1 w_2 =>
  Pu (extV t13_1 0) fun t14_3 =>
  Pu (extV t13_1 1) fun t15_4 =>
  Pu (binV (TypeDesc.int IntKind.i64) .neq t15_4 (Value.int IntKind.i64 0)) fun t17_5 =>
  Gd (isB false t17_5) (fun kk => kk t14_3 w_2) w_2 fun t19_6 w_7 =>
  Gd (isB false t17_5) (fun kk => Pu (binV (TypeDesc.pointer 126) .eql t19_6 (Value.pointer none)) fun vv => kk vv w_7) w_7 fun t20_8 w_9 =>
  Pu (pickV t17_5 (Value.bool true) t20_8) fun t21_10 =>
  IfB t21_10
    (k (Value.bool false) w_9)
    (Cl Tryz.prog 18 [t14_3, (Value.int IntKind.i64 2), (Value.int IntKind.i64 4)] w_9 fun t24_11 w_12 =>
  Pu (extV t24_11 0) fun t25_13 =>
  Pu (extV t24_11 1) fun t26_14 =>
  Pu (binV (TypeDesc.int IntKind.i64) .neq t26_14 (Value.int IntKind.i64 0)) fun t28_15 =>
  Gd (isB false t28_15) (fun kk => kk t25_13 w_12) w_12 fun t30_16 w_17 =>
  Gd (isB false t28_15) (fun kk => Pu (binV (TypeDesc.pointer 132) .eql t30_16 (Value.pointer none)) fun vv => kk vv w_17) w_17 fun t31_18 w_19 =>
  Pu (pickV t28_15 (Value.bool true) t31_18) fun t32_20 =>
  Gd (isB false t32_20) (fun kk => kk t25_13 w_19) w_19 fun t34_21 w_22 =>
  Gd (isB false t32_20) (fun kk => Cl Tryz.prog 19 [t34_21] w_22 kk) w_22 fun t35_23 w_24 =>
  Gd (isB false t32_20) (fun kk => Pu (binV (TypeDesc.int IntKind.i64) .neq t35_23 (Value.int IntKind.i64 108)) fun vv => kk vv w_24) w_24 fun t36_25 w_26 =>
  Pu (pickV t32_20 (Value.bool true) t36_25) fun t37_27 =>
  IfB t37_27
    (k (Value.bool false) w_26)
    (Cl Tryz.prog 42 [] w_26 fun t40_28 w_29 =>
  Cl Tryz.prog 21 [t25_13, t40_28] w_29 fun t41_30 w_31 =>
  Pu (extV t41_30 0) fun t42_32 =>
  Pu (extV t41_30 1) fun t43_33 =>
  Cl Tryz.prog 42 [] w_31 fun t46_34 w_35 =>
  Cl Tryz.prog 21 [t25_13, t46_34] w_35 fun t47_36 w_37 =>
  Pu (extV t47_36 0) fun t48_38 =>
  Pu (extV t47_36 1) fun t49_39 =>
  Cl Tryz.prog 26 [t25_13, (Value.int IntKind.i64 1)] w_37 fun t51_40 w_41 =>
  Pu (binV (TypeDesc.int IntKind.i64) .neq t51_40 (Value.int IntKind.i64 0)) fun t52_42 =>
  IfB t52_42
    (k (Value.bool false) w_41)
    (Cl Tryz.prog 74 [t14_3, (Value.int IntKind.i64 2), (Value.int IntKind.i64 4), (Value.int IntKind.i64 1)] w_41 fun t55_43 w_44 =>
  Pu (extV t55_43 0) fun t56_45 =>
  Pu (extV t55_43 1) fun t57_46 =>
  Pu (extV t55_43 2) fun t58_47 =>
  Pu (binV (TypeDesc.int IntKind.i64) .eql t42_32 (Value.int IntKind.i64 1)) fun t60_48 =>
  Gd (isB true t60_48) (fun kk => kk t48_38 w_44) w_44 fun t62_49 w_50 =>
  Gd (isB true t60_48) (fun kk => Pu (binV (TypeDesc.int IntKind.i64) .eql t62_49 (Value.int IntKind.i64 25)) fun vv => kk vv w_50) w_50 fun t63_51 w_52 =>
  Pu (pickV t60_48 t63_51 (Value.bool false)) fun t64_53 =>
  Gd (isB true t64_53) (fun kk => kk t58_47 w_52) w_52 fun t66_54 w_55 =>
  Gd (isB true t64_53) (fun kk => Pu (binV (TypeDesc.int IntKind.i64) .eql t66_54 (Value.int IntKind.i64 0)) fun vv => kk vv w_55) w_55 fun t67_56 w_57 =>
  Pu (pickV t64_53 t67_56 (Value.bool false)) fun t68_58 =>
  Gd (isB true t68_58) (fun kk => kk t56_45 w_57) w_57 fun t70_59 w_60 =>
  Gd (isB true t68_58) (fun kk => Pu (binV (TypeDesc.pointer 132) .neq t70_59 (Value.pointer none)) fun vv => kk vv w_60) w_60 fun t71_61 w_62 =>
  Pu (pickV t68_58 t71_61 (Value.bool false)) fun t72_63 =>
  Gd (isB true t72_63) (fun kk => kk t57_46 w_62) w_62 fun t74_64 w_65 =>
  Gd (isB true t72_63) (fun kk => Pu (lenV t74_64) fun vv => kk vv w_65) w_65 fun t75_66 w_67 =>
  Gd (isB true t72_63) (fun kk => Pu (binV (TypeDesc.int IntKind.i64) .eql t75_66 (Value.int IntKind.i64 2)) fun vv => kk vv w_67) w_67 fun t76_68 w_69 =>
  Pu (pickV t72_63 t76_68 (Value.bool false)) fun t77_70 =>
  Gd (isB true t77_70) (fun kk => kk t57_46 w_69) w_69 fun t79_71 w_72 =>
  Gd (isB true t77_70) (fun kk => Pu (ixV 16 t79_71 (Value.int IntKind.i64 1)) fun vv => kk vv w_72) w_72 fun t80_73 w_74 =>
  Gd (isB true t77_70) (fun kk => Pu (faV 0 t80_73) fun vv => kk vv w_74) w_74 fun t81_75 w_76 =>
  Gd (isB true t77_70) (fun kk => Ld w_76 t81_75 kk) w_76 fun t82_77 w_78 =>
  Gd (isB true t77_70) (fun kk => Pu (binV (TypeDesc.int IntKind.i64) .eql t82_77 (Value.int IntKind.i64 25)) fun vv => kk vv w_78) w_78 fun t83_79 w_80 =>
  Pu (pickV t77_70 t83_79 (Value.bool false)) fun t84_81 =>
  Gd (isB true t84_81) (fun kk => kk t56_45 w_80) w_80 fun t86_82 w_83 =>
  Gd (isB true t84_81) (fun kk => Cl Tryz.prog 20 [t86_82] w_83 kk) w_83 fun t87_84 w_85 =>
  Gd (isB true t84_81) (fun kk => Pu (binV (TypeDesc.int IntKind.i64) .eql t87_84 (Value.int IntKind.i64 49)) fun vv => kk vv w_85) w_85 fun t88_86 w_87 =>
  Pu (pickV t84_81 t88_86 (Value.bool false)) fun t89_88 =>
  k t89_88 w_87)))
theorem e25 (k : KV) (w : World) : K KD Tryz.prog 90 (fun j =>  []) (fun j =>  none) (Tryz.f25.body.getD .skip) (retQ Tryz.prog Tryz.f25 k) (argF []) w = T25 k  w := by kernel_rfl
theorem c25 {k : KV} {w : World} (h : T25 k  w) : Cl Tryz.prog 25 [] w k :=
  Cl_of_K KD_sound mixed Tryz.func25 (by kernel_rfl) (by kernel_rfl) ((e25 k  w).symm ▸ h)

/-- Function 42: almonry/almonrylaw05.small. -/
def T42 (k : KV) (w : World) : Prop :=
  New #[(Value.int IntKind.i64 0), (Value.int IntKind.i64 0), (Value.int IntKind.i64 0), (Value.int IntKind.u8 0), (Value.int IntKind.i64 0), (Value.int IntKind.i64 0), (Value.int IntKind.i64 0), (Value.int IntKind.i64 0), (Value.int IntKind.i64 0), (Value.int IntKind.i64 0), (Value.string (ByteArray.mk #[])), (Value.slice none 0 0), (Value.slice none 0 0), (Value.slice none 0 0), (Value.slice none 0 0), (Value.slice none 0 0)] 28 w fun t0_1 w_2 =>
  RunS Tryz.prog (Instr.build 28 #[(3, (Value.int IntKind.u8 8)), (5, (Value.int IntKind.i64 1))]) w_2 fun t1_3 w_4 =>
  St 16 w_4 t0_1 t1_3 fun u_5 w_6 =>
  RetO (resL Tryz.prog (fun j => bif Nat.beq j 0 then t0_1 else undef) w_6 [(ResultVar.cell 0 28)]) w_6 k
theorem e42 (k : KV) (w : World) : K KD Tryz.prog 2 (fun j =>  []) (fun j =>  none) (Tryz.f42.body.getD .skip) (retQ Tryz.prog Tryz.f42 k) (argF []) w = T42 k  w := by kernel_rfl
theorem c42 {k : KV} {w : World} (h : T42 k  w) : Cl Tryz.prog 42 [] w k :=
  Cl_of_K KD_sound mixed Tryz.func42 (by kernel_rfl) (by kernel_rfl) ((e42 k  w).symm ▸ h)

/-- Function 4: almonry/almonrylaw05.WalRoom. -/
def T4 (k : KV) (ops0 : Value) (w : World) : Prop :=
  Cl Tryz.prog 17 [(Value.int IntKind.i64 20)] w fun t17_1 w_2 =>
  Pu (extV t17_1 0) fun t18_3 =>
  Pu (extV t17_1 1) fun t19_4 =>
  Pu (binV (TypeDesc.int IntKind.i64) .neq t19_4 (Value.int IntKind.i64 0)) fun t21_5 =>
  Gd (isB false t21_5) (fun kk => kk t18_3 w_2) w_2 fun t23_6 w_7 =>
  Gd (isB false t21_5) (fun kk => Pu (binV (TypeDesc.pointer 126) .eql t23_6 (Value.pointer none)) fun vv => kk vv w_7) w_7 fun t24_8 w_9 =>
  Pu (pickV t21_5 (Value.bool true) t24_8) fun t25_10 =>
  IfB t25_10
    (k (Value.bool false) w_9)
    (Cl Tryz.prog 18 [t18_3, (Value.int IntKind.i64 0), (Value.int IntKind.i64 20)] w_9 fun t28_11 w_12 =>
  Pu (extV t28_11 0) fun t29_13 =>
  Pu (extV t28_11 1) fun t30_14 =>
  Pu (binV (TypeDesc.int IntKind.i64) .neq t30_14 (Value.int IntKind.i64 0)) fun t32_15 =>
  Gd (isB false t32_15) (fun kk => kk t29_13 w_12) w_12 fun t34_16 w_17 =>
  Gd (isB false t32_15) (fun kk => Pu (binV (TypeDesc.pointer 132) .eql t34_16 (Value.pointer none)) fun vv => kk vv w_17) w_17 fun t35_18 w_19 =>
  Pu (pickV t32_15 (Value.bool true) t35_18) fun t36_20 =>
  IfB t36_20
    (k (Value.bool false) w_19)
    (∃ (I_21 : List Value → World → Prop) (m_22 : List Value → World → Nat), I_21 [(Value.int IntKind.i64 0), (Value.int IntKind.i64 0)] w_19 ∧
  ∀ (g_142 : Fr) (w_141 : World), ∀ kept7_25 : Value, ∀ i8_26 : Value, I_21 [kept7_25, i8_26] w_141 →
    (Pu (lenV ops0) fun t39_143 =>
    Pu (binV (TypeDesc.int IntKind.i64) .lss i8_26 t39_143) fun t40_144 =>
    IfB t40_144
      (Cl Tryz.prog 19 [t29_13] w_141 fun t44_145 w_146 =>
    Cl Tryz.prog 20 [t29_13] w_146 fun t46_147 w_148 =>
    Pu (ixV 20 ops0 i8_26) fun t49_149 =>
    Pu (faV 1 t49_149) fun t50_150 =>
    Ld w_148 t50_150 fun t51_151 w_152 =>
    Jn (fun vs_237 w_236 => ∀ g_238 : Fr, ∃ kept7_155 : Value, vs_237 = [kept7_155] ∧
        (Cl Tryz.prog 19 [t29_13] w_236 fun t129_239 w_240 =>
        Pu (binV (TypeDesc.int IntKind.i64) .lss t129_239 (Value.int IntKind.i64 0)) fun t130_241 =>
        Gd (isB false t130_241) (fun kk => kk t29_13 w_240) w_240 fun t132_242 w_243 =>
        Gd (isB false t130_241) (fun kk => Cl Tryz.prog 19 [t132_242] w_243 kk) w_243 fun t133_244 w_245 =>
        Gd (isB false t130_241) (fun kk => kk t29_13 w_245) w_245 fun t134_246 w_247 =>
        Gd (isB false t130_241) (fun kk => Cl Tryz.prog 20 [t134_246] w_247 kk) w_247 fun t135_248 w_249 =>
        Gd (isB false t130_241) (fun kk => kk t29_13 w_249) w_249 fun t136_250 w_251 =>
        Gd (isB false t130_241) (fun kk => Cl Tryz.prog 24 [t136_250] w_251 kk) w_251 fun t137_252 w_253 =>
        Gd (isB false t130_241) (fun kk => Pu (binV (TypeDesc.int IntKind.i64) .sub t135_248 t137_252) fun vv => kk vv w_253) w_253 fun t138_254 w_255 =>
        Gd (isB false t130_241) (fun kk => Pu (binV (TypeDesc.int IntKind.i64) .sub (Value.int IntKind.i64 972) t138_254) fun vv => kk vv w_255) w_255 fun t139_256 w_257 =>
        Gd (isB false t130_241) (fun kk => kk kept7_155 w_257) w_257 fun t140_258 w_259 =>
        Gd (isB false t130_241) (fun kk => Pu (binV (TypeDesc.int IntKind.i64) .sub t139_256 t140_258) fun vv => kk vv w_259) w_259 fun t141_260 w_261 =>
        Gd (isB false t130_241) (fun kk => Pu (binV (TypeDesc.int IntKind.i64) .neq t133_244 t141_260) fun vv => kk vv w_261) w_261 fun t142_262 w_263 =>
        Pu (pickV t130_241 (Value.bool true) t142_262) fun t143_264 =>
        IfB t143_264
          (k (Value.bool false) w_263)
          (Pu (binV (TypeDesc.int IntKind.i64) .add i8_26 (Value.int IntKind.i64 1)) fun t42_265 =>
    I_21 [kept7_155, t42_265] w_263 ∧ m_22 [kept7_155, t42_265] w_263 < m_22 [kept7_25, i8_26] w_141)))
      (fun jj_153 =>
      Pu (ixV 20 ops0 i8_26) fun t54_266 =>
      Pu (faV 0 t54_266) fun t55_267 =>
      Ld w_152 t55_267 fun t56_268 w_269 =>
      Pu (binV (TypeDesc.int IntKind.i64) .eql t56_268 (Value.int IntKind.i64 0)) fun t58_270 =>
      IfB t58_270
        (Pu (ixV 20 ops0 i8_26) fun t63_271 =>
          Pu (faV 3 t63_271) fun t64_272 =>
          LdN 16 w_269 t64_272 fun t65_273 w_274 =>
          Cl Tryz.prog 21 [t29_13, t65_273] w_274 fun t66_275 w_276 =>
          Pu (extV t66_275 0) fun t67_277 =>
          Pu (extV t66_275 1) fun t68_278 =>
          Pu (binV (TypeDesc.int IntKind.i64) .neq t68_278 (Value.int IntKind.i64 0)) fun t70_279 =>
          Gd (isB true t70_279) (fun kk => kk t29_13 w_276) w_276 fun t72_280 w_281 =>
          Gd (isB true t70_279) (fun kk => Cl Tryz.prog 20 [t72_280] w_281 kk) w_281 fun t73_282 w_283 =>
          Gd (isB true t70_279) (fun kk => kk t46_147 w_283) w_283 fun t74_284 w_285 =>
          Gd (isB true t70_279) (fun kk => Pu (binV (TypeDesc.int IntKind.i64) .neq t73_282 t74_284) fun vv => kk vv w_285) w_285 fun t75_286 w_287 =>
          Pu (pickV t70_279 t75_286 (Value.bool false)) fun t76_288 =>
          Gd (isB false t76_288) (fun kk => kk t29_13 w_287) w_287 fun t78_289 w_290 =>
          Gd (isB false t76_288) (fun kk => Cl Tryz.prog 19 [t78_289] w_290 kk) w_290 fun t79_291 w_292 =>
          Gd (isB false t76_288) (fun kk => kk t44_145 w_292) w_292 fun t80_293 w_294 =>
          Gd (isB false t76_288) (fun kk => kk t29_13 w_294) w_294 fun t81_295 w_296 =>
          Gd (isB false t76_288) (fun kk => Cl Tryz.prog 20 [t81_295] w_296 kk) w_296 fun t82_297 w_298 =>
          Gd (isB false t76_288) (fun kk => kk t46_147 w_298) w_298 fun t83_299 w_300 =>
          Gd (isB false t76_288) (fun kk => Pu (binV (TypeDesc.int IntKind.i64) .sub t82_297 t83_299) fun vv => kk vv w_300) w_300 fun t84_301 w_302 =>
          Gd (isB false t76_288) (fun kk => Pu (binV (TypeDesc.int IntKind.i64) .sub t80_293 t84_301) fun vv => kk vv w_302) w_302 fun t85_303 w_304 =>
          Gd (isB false t76_288) (fun kk => Pu (binV (TypeDesc.int IntKind.i64) .neq t79_291 t85_303) fun vv => kk vv w_304) w_304 fun t86_305 w_306 =>
          Pu (pickV t76_288 (Value.bool true) t86_305) fun t87_307 =>
          IfB t87_307
            (k (Value.bool false) w_306)
            (jj_153 [kept7_25] w_306))
        (Pu (binV (TypeDesc.int IntKind.i64) .eql t56_268 (Value.int IntKind.i64 1)) fun t89_308 =>
          IfB t89_308
            (Cl Tryz.prog 22 [t29_13, t51_151] w_269 fun t92_309 w_310 =>
              Pu (binV (TypeDesc.int IntKind.i64) .eql t92_309 (Value.int IntKind.i64 0)) fun t94_311 =>
              Pu (binV (TypeDesc.int IntKind.i64) .geq t51_151 (Value.int IntKind.i64 0)) fun t96_312 =>
              Gd (isB true t96_312) (fun kk => kk t51_151 w_310) w_310 fun t98_313 w_314 =>
              Gd (isB true t96_312) (fun kk => kk t44_145 w_314) w_314 fun t99_315 w_316 =>
              Gd (isB true t96_312) (fun kk => Pu (binV (TypeDesc.int IntKind.i64) .leq t98_313 t99_315) fun vv => kk vv w_316) w_316 fun t100_317 w_318 =>
              Pu (pickV t96_312 t100_317 (Value.bool false)) fun t101_319 =>
              Pu (binV TypeDesc.bool .neq t94_311 t101_319) fun t102_320 =>
              IfB t102_320
                (k (Value.bool false) w_318)
                (Pu (binV (TypeDesc.int IntKind.i64) .eql t92_309 (Value.int IntKind.i64 0)) fun t104_321 =>
              IfB t104_321
                (Pu (binV (TypeDesc.int IntKind.i64) .add kept7_25 t51_151) fun t107_322 =>
                  jj_153 [t107_322] w_318)
                (jj_153 [kept7_25] w_318)))
            (Pu (binV (TypeDesc.int IntKind.i64) .eql t56_268 (Value.int IntKind.i64 2)) fun t109_323 =>
              IfB t109_323
                (Cl Tryz.prog 23 [t29_13, t51_151] w_269 fun t112_324 w_325 =>
                  Pu (binV (TypeDesc.int IntKind.i64) .eql t112_324 (Value.int IntKind.i64 0)) fun t114_326 =>
                  Pu (binV (TypeDesc.int IntKind.i64) .geq t51_151 (Value.int IntKind.i64 0)) fun t116_327 =>
                  Gd (isB true t116_327) (fun kk => kk t51_151 w_325) w_325 fun t118_328 w_329 =>
                  Gd (isB true t116_327) (fun kk => kk kept7_25 w_329) w_329 fun t119_330 w_331 =>
                  Gd (isB true t116_327) (fun kk => Pu (binV (TypeDesc.int IntKind.i64) .leq t118_328 t119_330) fun vv => kk vv w_331) w_331 fun t120_332 w_333 =>
                  Pu (pickV t116_327 t120_332 (Value.bool false)) fun t121_334 =>
                  Pu (binV TypeDesc.bool .neq t114_326 t121_334) fun t122_335 =>
                  IfB t122_335
                    (k (Value.bool false) w_333)
                    (Pu (binV (TypeDesc.int IntKind.i64) .eql t112_324 (Value.int IntKind.i64 0)) fun t124_336 =>
                  IfB t124_336
                    (Pu (binV (TypeDesc.int IntKind.i64) .sub kept7_25 t51_151) fun t127_337 =>
                      jj_153 [t127_337] w_333)
                    (jj_153 [kept7_25] w_333)))
                (jj_153 [kept7_25] w_269)))))
      (Cl Tryz.prog 25 [] w_141 fun t144_338 w_339 =>
  k t144_338 w_339))))
theorem e4 (k : KV) (ops0 : Value) (w : World) : K KD Tryz.prog 145 (fun j => bif Nat.beq j 9 then [7, 8] else []) (fun j => bif Nat.beq j 31 then some [7] else none) (Tryz.f4.body.getD .skip) (retQ Tryz.prog Tryz.f4 k) (argF [ops0]) w = T4 k ops0 w := by kernel_rfl
theorem c4 {k : KV} {ops0 : Value} {w : World} (h : T4 k ops0 w) : Cl Tryz.prog 4 [ops0] w k :=
  Cl_of_K KD_sound mixed Tryz.func4 (by kernel_rfl) (by kernel_rfl) ((e4 k ops0 w).symm ▸ h)

/-- Function 5: almonry/almonrylaw05.WalGets. -/
def T5 (k : KV) (l0 : Value) (to1 : Value) (atv2 : Value) (w : World) : Prop :=
  Cl Tryz.prog 17 [(Value.int IntKind.i64 200)] w fun t25_1 w_2 =>
  Pu (extV t25_1 0) fun t26_3 =>
  Pu (extV t25_1 1) fun t27_4 =>
  Pu (binV (TypeDesc.int IntKind.i64) .neq t27_4 (Value.int IntKind.i64 0)) fun t29_5 =>
  Gd (isB false t29_5) (fun kk => kk t26_3 w_2) w_2 fun t31_6 w_7 =>
  Gd (isB false t29_5) (fun kk => Pu (binV (TypeDesc.pointer 126) .eql t31_6 (Value.pointer none)) fun vv => kk vv w_7) w_7 fun t32_8 w_9 =>
  Pu (pickV t29_5 (Value.bool true) t32_8) fun t33_10 =>
  IfB t33_10
    (k (Value.bool false) w_9)
    (Cl Tryz.prog 18 [t26_3, (Value.int IntKind.i64 0), (Value.int IntKind.i64 200)] w_9 fun t36_11 w_12 =>
  Pu (extV t36_11 0) fun t37_13 =>
  Pu (extV t36_11 1) fun t38_14 =>
  Pu (binV (TypeDesc.int IntKind.i64) .neq t38_14 (Value.int IntKind.i64 0)) fun t40_15 =>
  Gd (isB false t40_15) (fun kk => kk t37_13 w_12) w_12 fun t42_16 w_17 =>
  Gd (isB false t40_15) (fun kk => Pu (binV (TypeDesc.pointer 132) .eql t42_16 (Value.pointer none)) fun vv => kk vv w_17) w_17 fun t43_18 w_19 =>
  Pu (pickV t40_15 (Value.bool true) t43_18) fun t44_20 =>
  IfB t44_20
    (k (Value.bool false) w_19)
    (∃ (I_21 : List Value → World → Prop) (m_22 : List Value → World → Nat), I_21 [(Value.slice none 0 0), (Value.int IntKind.i64 0)] w_19 ∧
  ∀ (g_67 : Fr) (w_66 : World), ∀ all11_25 : Value, ∀ i12_26 : Value, I_21 [all11_25, i12_26] w_66 →
    (Pu (lenV l0) fun t47_68 =>
    Pu (binV (TypeDesc.int IntKind.i64) .lss i12_26 t47_68) fun t48_69 =>
    IfB t48_69
      (Pu (ixV 16 l0 i12_26) fun t53_70 =>
    LdN 16 w_66 t53_70 fun t54_71 w_72 =>
    New #[(Value.int IntKind.i64 0), (Value.int IntKind.i64 0), (Value.int IntKind.i64 0), (Value.int IntKind.u8 0), (Value.int IntKind.i64 0), (Value.int IntKind.i64 0), (Value.int IntKind.i64 0), (Value.int IntKind.i64 0), (Value.int IntKind.i64 0), (Value.int IntKind.i64 0), (Value.string (ByteArray.mk #[])), (Value.slice none 0 0), (Value.slice none 0 0), (Value.slice none 0 0), (Value.slice none 0 0), (Value.slice none 0 0)] 28 w_72 fun r13_73 w_74 =>
    St 16 w_74 r13_73 t54_71 fun u_75 w_76 =>
    LdN 16 w_76 r13_73 fun t57_77 w_78 =>
    Cl Tryz.prog 21 [t37_13, t57_77] w_78 fun t58_79 w_80 =>
    Pu (extV t58_79 0) fun t59_81 =>
    Pu (extV t58_79 1) fun t60_82 =>
    Jn (fun vs_94 w_93 => ∀ g_95 : Fr, ∃ all11_84 : Value, vs_94 = [all11_84] ∧
        (Pu (lenV l0) fun t71_96 =>
        Pu (binV (TypeDesc.int IntKind.i64) .quo t71_96 (Value.int IntKind.i64 2)) fun t72_97 =>
        Pu (binV (TypeDesc.int IntKind.i64) .eql i12_26 t72_97) fun t73_98 =>
        Gd (isB true t73_98) (fun kk => kk t37_13 w_93) w_93 fun t75_99 w_100 =>
        Gd (isB true t73_98) (fun kk => kk t37_13 w_100) w_100 fun t76_101 w_102 =>
        Gd (isB true t73_98) (fun kk => Cl Tryz.prog 20 [t76_101] w_102 kk) w_102 fun t77_103 w_104 =>
        Gd (isB true t73_98) (fun kk => Cl Tryz.prog 26 [t75_99, t77_103] w_104 kk) w_104 fun t78_105 w_106 =>
        Gd (isB true t73_98) (fun kk => Pu (binV (TypeDesc.int IntKind.i64) .neq t78_105 (Value.int IntKind.i64 0)) fun vv => kk vv w_106) w_106 fun t79_107 w_108 =>
        Pu (pickV t73_98 t79_107 (Value.bool false)) fun t80_109 =>
        IfB t80_109
          (k (Value.bool false) w_108)
          (Pu (binV (TypeDesc.int IntKind.i64) .add i12_26 (Value.int IntKind.i64 1)) fun t50_110 =>
    I_21 [all11_84, t50_110] w_108 ∧ m_22 [all11_84, t50_110] w_108 < m_22 [all11_25, i12_26] w_66)))
      (fun jj_83 =>
      Pu (binV (TypeDesc.int IntKind.i64) .eql t60_82 (Value.int IntKind.i64 0)) fun t62_111 =>
      IfB t62_111
        (Pu (faV 0 r13_73) fun t64_112 =>
          St 1 w_80 t64_112 t59_81 fun u_113 w_114 =>
          LdN 16 w_114 r13_73 fun t66_115 w_116 =>
          RunS Tryz.prog (Instr.buildSlice 49 1 #[(0, t66_115)]) w_116 fun t67_117 w_118 =>
          RunS Tryz.prog (Builtin.append_ #[49, 49] 49 #[all11_25, t67_117]) w_118 fun t68_119 w_120 =>
          jj_83 [t68_119] w_120)
        (jj_83 [all11_25] w_80)))
      (Jn (fun vs_162 w_161 => ∀ g_163 : Fr, ∃ all11_123 : Value, vs_162 = [all11_123] ∧
      (∃ (I_164 : List Value → World → Prop) (m_165 : List Value → World → Nat), I_164 [(Value.bool false), (Value.int IntKind.i64 0)] w_161 ∧
      ∀ (g_210 : Fr) (w_209 : World), ∀ is18_168 : Value, ∀ i19_169 : Value, I_164 [is18_168, i19_169] w_209 →
        (Pu (lenV all11_123) fun t118_211 =>
        Pu (binV (TypeDesc.int IntKind.i64) .lss i19_169 t118_211) fun t119_212 =>
        IfB t119_212
          (Pu (ixV 16 all11_123 i19_169) fun t126_213 =>
        Pu (faV 0 t126_213) fun t127_214 =>
        Ld w_209 t127_214 fun t128_215 w_216 =>
        Cl Tryz.prog 29 [t37_13, t128_215] w_216 fun t129_217 w_218 =>
        Pu (extV t129_217 0) fun t130_219 =>
        Pu (extV t129_217 1) fun t131_220 =>
        New #[(Value.int IntKind.i64 0), (Value.int IntKind.i64 0), (Value.int IntKind.i64 0), (Value.int IntKind.u8 0), (Value.int IntKind.i64 0), (Value.int IntKind.i64 0), (Value.int IntKind.i64 0), (Value.int IntKind.i64 0), (Value.int IntKind.i64 0), (Value.int IntKind.i64 0), (Value.string (ByteArray.mk #[])), (Value.slice none 0 0), (Value.slice none 0 0), (Value.slice none 0 0), (Value.slice none 0 0), (Value.slice none 0 0)] 28 w_218 fun r20_221 w_222 =>
        St 16 w_222 r20_221 t130_219 fun u_223 w_224 =>
        Pu (binV (TypeDesc.int IntKind.i64) .neq t131_220 (Value.int IntKind.i64 0)) fun t133_225 =>
        Gd (isB false t133_225) (fun kk => LdN 16 (World.drew w_224) r20_221 kk) (World.drew w_224) fun t135_226 w_227 =>
        w_227 = (World.drew w_224) ∧
        Gd (isB false t133_225) (fun kk => kk all11_123 (World.drew w_224)) (World.drew w_224) fun t136_228 w_229 =>
        Gd (isB false t133_225) (fun kk => kk i19_169 w_229) w_229 fun t137_230 w_231 =>
        Gd (isB false t133_225) (fun kk => Pu (ixV 16 t136_228 t137_230) fun vv => kk vv w_231) w_231 fun t138_232 w_233 =>
        Gd (isB false t133_225) (fun kk => LdN 16 w_233 t138_232 kk) w_233 fun t139_234 w_235 =>
        w_235 = w_233 ∧
        Gd (isB false t133_225) (fun kk => Cl Tryz.prog 15 [t135_226, t139_234] w_233 kk) w_233 fun t140_236 w_237 =>
        Gd (isB false t133_225) (fun kk => Pu (unV .not t140_236) fun vv => kk vv w_237) w_237 fun t141_238 w_239 =>
        Pu (pickV t133_225 (Value.bool true) t141_238) fun t142_240 =>
        IfB t142_240
          (k (Value.bool false) w_239)
          (Gd (isB false is18_168) (fun kk => kk all11_123 w_239) w_239 fun t145_241 w_242 =>
        Gd (isB false is18_168) (fun kk => kk i19_169 w_242) w_242 fun t146_243 w_244 =>
        Gd (isB false is18_168) (fun kk => Pu (ixV 16 t145_241 t146_243) fun vv => kk vv w_244) w_244 fun t147_245 w_246 =>
        Gd (isB false is18_168) (fun kk => Pu (faV 0 t147_245) fun vv => kk vv w_246) w_246 fun t148_247 w_248 =>
        Gd (isB false is18_168) (fun kk => Ld w_248 t148_247 kk) w_248 fun t149_249 w_250 =>
        Gd (isB false is18_168) (fun kk => kk atv2 w_250) w_250 fun t150_251 w_252 =>
        Gd (isB false is18_168) (fun kk => Pu (binV (TypeDesc.int IntKind.i64) .eql t149_249 t150_251) fun vv => kk vv w_252) w_252 fun t151_253 w_254 =>
        Pu (pickV is18_168 (Value.bool true) t151_253) fun t152_255 =>
        Pu (binV (TypeDesc.int IntKind.i64) .add i19_169 (Value.int IntKind.i64 1)) fun t121_256 =>
        I_164 [t152_255, t121_256] w_254 ∧ m_165 [t152_255, t121_256] w_254 < m_165 [is18_168, i19_169] w_209))
          (Cl Tryz.prog 29 [t37_13, atv2] w_209 fun t156_257 w_258 =>
      Pu (extV t156_257 0) fun t157_259 =>
      Pu (extV t156_257 1) fun t158_260 =>
      New #[(Value.int IntKind.i64 0), (Value.int IntKind.i64 0), (Value.int IntKind.i64 0), (Value.int IntKind.u8 0), (Value.int IntKind.i64 0), (Value.int IntKind.i64 0), (Value.int IntKind.i64 0), (Value.int IntKind.i64 0), (Value.int IntKind.i64 0), (Value.int IntKind.i64 0), (Value.string (ByteArray.mk #[])), (Value.slice none 0 0), (Value.slice none 0 0), (Value.slice none 0 0), (Value.slice none 0 0), (Value.slice none 0 0)] 28 w_258 fun t22_261 w_262 =>
      St 16 w_262 t22_261 t157_259 fun u_263 w_264 =>
      Pu (binV (TypeDesc.int IntKind.i64) .eql t158_260 (Value.int IntKind.i64 0)) fun t160_265 =>
      Pu (binV TypeDesc.bool .eql t160_265 is18_168) fun t162_266 =>
      Gd (isB true t162_266) (fun kk => kk t158_260 w_264) w_264 fun t164_267 w_268 =>
      Gd (isB true t162_266) (fun kk => Pu (binV (TypeDesc.int IntKind.i64) .eql t164_267 (Value.int IntKind.i64 0)) fun vv => kk vv w_268) w_268 fun t165_269 w_270 =>
      Gd (isB true t162_266) (fun kk => kk t165_269 w_270) w_270 fun t166_271 w_272 =>
      Gd (isB false t166_271) (fun kk => kk t158_260 w_272) w_272 fun t167_273 w_274 =>
      Gd (isB false t166_271) (fun kk => Pu (binV (TypeDesc.int IntKind.i64) .eql t167_273 (Value.int IntKind.i64 51)) fun vv => kk vv w_274) w_274 fun t168_275 w_276 =>
      Gd (isB true t162_266) (fun kk => Pu (pickV t166_271 (Value.bool true) t168_275) fun vv => kk vv w_276) w_276 fun t169_277 w_278 =>
      Pu (pickV t162_266 t169_277 (Value.bool false)) fun t170_279 =>
      Gd (isB true t170_279) (fun kk => Cl Tryz.prog 25 [] w_278 kk) w_278 fun t172_280 w_281 =>
      Pu (pickV t170_279 t172_280 (Value.bool false)) fun t173_282 =>
      k t173_282 w_281))))
    (fun jj_121 =>
    Pu (lenV all11_25) fun t82_283 =>
    Pu (binV (TypeDesc.int IntKind.i64) .gtr t82_283 (Value.int IntKind.i64 0)) fun t83_284 =>
    IfB t83_284
      (Pu (lenV all11_25) fun t86_285 =>
        Pu (binV (TypeDesc.int IntKind.i64) .rem to1 t86_285) fun t87_286 =>
        Pu (lenV all11_25) fun t89_287 =>
        Pu (binV (TypeDesc.int IntKind.i64) .add t87_286 t89_287) fun t90_288 =>
        Pu (lenV all11_25) fun t92_289 =>
        Pu (binV (TypeDesc.int IntKind.i64) .rem t90_288 t92_289) fun t93_290 =>
        ∃ C_291 : World → Prop, C_291 (World.drew w_66) ∧
        (Pu (ixV 16 all11_25 t93_290) fun t96_292 =>
        Pu (faV 0 t96_292) fun t97_293 =>
        ∃ t98_294, (∀ w_295, C_291 w_295 → Ld w_295 t97_293 fun t98_296 w_297 =>
        t98_296 = t98_294 ∧ w_297 = w_295) ∧
        (Cl Tryz.prog 27 [t37_13] (World.drew w_66) fun t100_298 w_299 =>
        C_291 w_299 ∧
        (Pu (binV (TypeDesc.int IntKind.i64) .leq t98_294 t100_298) fun t101_300 =>
        Pu (ixV 16 all11_25 t93_290) fun t105_301 =>
        Pu (faV 0 t105_301) fun t106_302 =>
        Ld w_299 t106_302 fun t107_303 w_304 =>
        Cl Tryz.prog 28 [t37_13, t107_303] w_304 fun t108_305 w_306 =>
        Pu (binV (TypeDesc.int IntKind.i64) .eql t108_305 (Value.int IntKind.i64 0)) fun t109_307 =>
        Pu (binV TypeDesc.bool .neq t109_307 t101_300) fun t111_308 =>
        IfB t111_308
          (k (Value.bool false) w_306)
          (IfB t101_300
          (Pu (slV 16 all11_25 (some t93_290) none none) fun t115_309 =>
            jj_121 [t115_309] w_306)
          (jj_121 [all11_25] w_306))))))
      (jj_121 [all11_25] w_66))))))
theorem e5 (k : KV) (l0 : Value) (to1 : Value) (atv2 : Value) (w : World) : K KD Tryz.prog 174 (fun j => bif Nat.beq j 27 then [18, 19] else bif Nat.beq j 9 then [11, 12] else []) (fun j => bif Nat.beq j 16 then some [11] else bif Nat.beq j 25 then some [11] else none) (Tryz.f5.body.getD .skip) (retQ Tryz.prog Tryz.f5 k) (argF [l0, to1, atv2]) w = T5 k l0 to1 atv2 w := by kernel_rfl
theorem c5 {k : KV} {l0 : Value} {to1 : Value} {atv2 : Value} {w : World} (h : T5 k l0 to1 atv2 w) : Cl Tryz.prog 5 [l0, to1, atv2] w k :=
  Cl_of_K KD_sound mixed Tryz.func5 (by kernel_rfl) (by kernel_rfl) ((e5 k l0 to1 atv2 w).symm ▸ h)

/-- Function 8: almonry/almonrylaw05.WalNil. -/
def T8 (k : KV) (n0 : Value) (w : World) : Prop :=
  Cl Tryz.prog 42 [] w fun t10_1 w_2 =>
  Cl Tryz.prog 21 [(Value.pointer none), t10_1] w_2 fun t11_3 w_4 =>
  Pu (extV t11_3 0) fun t12_5 =>
  Pu (extV t11_3 1) fun t13_6 =>
  Cl Tryz.prog 29 [(Value.pointer none), n0] w_4 fun t17_7 w_8 =>
  Pu (extV t17_7 0) fun t18_9 =>
  Pu (extV t17_7 1) fun t19_10 =>
  New #[(Value.int IntKind.i64 0), (Value.int IntKind.i64 0), (Value.int IntKind.i64 0), (Value.int IntKind.u8 0), (Value.int IntKind.i64 0), (Value.int IntKind.i64 0), (Value.int IntKind.i64 0), (Value.int IntKind.i64 0), (Value.int IntKind.i64 0), (Value.int IntKind.i64 0), (Value.string (ByteArray.mk #[])), (Value.slice none 0 0), (Value.slice none 0 0), (Value.slice none 0 0), (Value.slice none 0 0), (Value.slice none 0 0)] 28 w_8 fun t6_11 w_12 =>
  St 16 w_12 t6_11 t18_9 fun u_13 w_14 =>
  Pu (binV (TypeDesc.int IntKind.i64) .eql t12_5 (Value.int IntKind.i64 0)) fun t21_15 =>
  Gd (isB true t21_15) (fun kk => kk t13_6 w_14) w_14 fun t23_16 w_17 =>
  Gd (isB true t21_15) (fun kk => Pu (binV (TypeDesc.int IntKind.i64) .eql t23_16 (Value.int IntKind.i64 2)) fun vv => kk vv w_17) w_17 fun t24_18 w_19 =>
  Pu (pickV t21_15 t24_18 (Value.bool false)) fun t25_20 =>
  Gd (isB true t25_20) (fun kk => kk t19_10 w_19) w_19 fun t27_21 w_22 =>
  Gd (isB true t25_20) (fun kk => Pu (binV (TypeDesc.int IntKind.i64) .eql t27_21 (Value.int IntKind.i64 2)) fun vv => kk vv w_22) w_22 fun t28_23 w_24 =>
  Pu (pickV t25_20 t28_23 (Value.bool false)) fun t29_25 =>
  Gd (isB true t29_25) (fun kk => kk (Value.pointer none) w_24) w_24 fun t31_26 w_27 =>
  Gd (isB true t29_25) (fun kk => kk n0 w_27) w_27 fun t32_28 w_29 =>
  Gd (isB true t29_25) (fun kk => Cl Tryz.prog 22 [t31_26, t32_28] w_29 kk) w_29 fun t33_30 w_31 =>
  Gd (isB true t29_25) (fun kk => Pu (binV (TypeDesc.int IntKind.i64) .eql t33_30 (Value.int IntKind.i64 2)) fun vv => kk vv w_31) w_31 fun t34_32 w_33 =>
  Pu (pickV t29_25 t34_32 (Value.bool false)) fun t35_34 =>
  Gd (isB true t35_34) (fun kk => kk (Value.pointer none) w_33) w_33 fun t37_35 w_36 =>
  Gd (isB true t35_34) (fun kk => kk n0 w_36) w_36 fun t38_37 w_38 =>
  Gd (isB true t35_34) (fun kk => Cl Tryz.prog 23 [t37_35, t38_37] w_38 kk) w_38 fun t39_39 w_40 =>
  Gd (isB true t35_34) (fun kk => Pu (binV (TypeDesc.int IntKind.i64) .eql t39_39 (Value.int IntKind.i64 2)) fun vv => kk vv w_40) w_40 fun t40_41 w_42 =>
  Pu (pickV t35_34 t40_41 (Value.bool false)) fun t41_43 =>
  Gd (isB true t41_43) (fun kk => kk (Value.pointer none) w_42) w_42 fun t43_44 w_45 =>
  Gd (isB true t41_43) (fun kk => kk n0 w_45) w_45 fun t44_46 w_47 =>
  Gd (isB true t41_43) (fun kk => Cl Tryz.prog 26 [t43_44, t44_46] w_47 kk) w_47 fun t45_48 w_49 =>
  Gd (isB true t41_43) (fun kk => Pu (binV (TypeDesc.int IntKind.i64) .eql t45_48 (Value.int IntKind.i64 2)) fun vv => kk vv w_49) w_49 fun t46_50 w_51 =>
  Pu (pickV t41_43 t46_50 (Value.bool false)) fun t47_52 =>
  Gd (isB true t47_52) (fun kk => kk (Value.pointer none) w_51) w_51 fun t49_53 w_54 =>
  Gd (isB true t47_52) (fun kk => kk n0 w_54) w_54 fun t50_55 w_56 =>
  Gd (isB true t47_52) (fun kk => Cl Tryz.prog 28 [t49_53, t50_55] w_56 kk) w_56 fun t51_57 w_58 =>
  Gd (isB true t47_52) (fun kk => Pu (binV (TypeDesc.int IntKind.i64) .eql t51_57 (Value.int IntKind.i64 2)) fun vv => kk vv w_58) w_58 fun t52_59 w_60 =>
  Pu (pickV t47_52 t52_59 (Value.bool false)) fun t53_61 =>
  Gd (isB true t53_61) (fun kk => kk (Value.pointer none) w_60) w_60 fun t55_62 w_63 =>
  Gd (isB true t53_61) (fun kk => Cl Tryz.prog 20 [t55_62] w_63 kk) w_63 fun t56_64 w_65 =>
  Gd (isB true t53_61) (fun kk => Pu (binV (TypeDesc.int IntKind.i64) .eql t56_64 (Value.int IntKind.i64 0)) fun vv => kk vv w_65) w_65 fun t57_66 w_67 =>
  Pu (pickV t53_61 t57_66 (Value.bool false)) fun t58_68 =>
  Gd (isB true t58_68) (fun kk => kk (Value.pointer none) w_67) w_67 fun t60_69 w_70 =>
  Gd (isB true t58_68) (fun kk => Cl Tryz.prog 27 [t60_69] w_70 kk) w_70 fun t61_71 w_72 =>
  Gd (isB true t58_68) (fun kk => Pu (binV (TypeDesc.int IntKind.i64) .eql t61_71 (Value.int IntKind.i64 0)) fun vv => kk vv w_72) w_72 fun t62_73 w_74 =>
  Pu (pickV t58_68 t62_73 (Value.bool false)) fun t63_75 =>
  Gd (isB true t63_75) (fun kk => kk (Value.pointer none) w_74) w_74 fun t65_76 w_77 =>
  Gd (isB true t63_75) (fun kk => Cl Tryz.prog 24 [t65_76] w_77 kk) w_77 fun t66_78 w_79 =>
  Gd (isB true t63_75) (fun kk => Pu (binV (TypeDesc.int IntKind.i64) .eql t66_78 (Value.int IntKind.i64 0)) fun vv => kk vv w_79) w_79 fun t67_80 w_81 =>
  Pu (pickV t63_75 t67_80 (Value.bool false)) fun t68_82 =>
  Gd (isB true t68_82) (fun kk => kk (Value.pointer none) w_81) w_81 fun t70_83 w_84 =>
  Gd (isB true t68_82) (fun kk => Cl Tryz.prog 19 [t70_83] w_84 kk) w_84 fun t71_85 w_86 =>
  Gd (isB true t68_82) (fun kk => Pu (binV (TypeDesc.int IntKind.i64) .eql t71_85 (Value.int IntKind.i64 0)) fun vv => kk vv w_86) w_86 fun t72_87 w_88 =>
  Pu (pickV t68_82 t72_87 (Value.bool false)) fun t73_89 =>
  Gd (isB true t73_89) (fun kk => Cl Tryz.prog 25 [] w_88 kk) w_88 fun t75_90 w_91 =>
  Pu (pickV t73_89 t75_90 (Value.bool false)) fun t76_92 =>
  k t76_92 w_91
theorem e8 (k : KV) (n0 : Value) (w : World) : K KD Tryz.prog 77 (fun j =>  []) (fun j =>  none) (Tryz.f8.body.getD .skip) (retQ Tryz.prog Tryz.f8 k) (argF [n0]) w = T8 k n0 w := by kernel_rfl
theorem c8 {k : KV} {n0 : Value} {w : World} (h : T8 k n0 w) : Cl Tryz.prog 8 [n0] w k :=
  Cl_of_K KD_sound mixed Tryz.func8 (by kernel_rfl) (by kernel_rfl) ((e8 k n0 w).symm ▸ h)

end Go.Proofs.YthbngnlmgplijaaGreatDoor
