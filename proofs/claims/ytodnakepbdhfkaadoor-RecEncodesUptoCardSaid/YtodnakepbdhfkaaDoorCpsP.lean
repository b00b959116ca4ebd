import Derived.Test.YtodnakepbdhfkaaDoorAlDraw2
import Derived.Test.YtodnakepbdhfkaaDoorRows
namespace Go.Proofs.YtodnakepbdhfkaaDoor
open Go.Al Go.Proofs
set_option maxRecDepth 100000
set_option linter.unusedVariables false
set_option linter.unusedSimpArgs false
theorem mixed : Tryd.prog.follows .mixedOrders = true := by kernel_rfl
/-- Function 3: almonry/almonrylaw03.PageSizes. -/
def T3 (k : KV) (p0 : Value) (w : World) : Prop :=
  New (Value.cells p0) 24 w fun p1_1 w_2 =>
  ∃ C_3 : World → Prop, C_3 (World.drew w_2) ∧
  (Cl Tryd.prog 17 [] (World.drew w_2) fun t3_4 w_5 =>
  C_3 w_5 ∧
  (Gd (isB true t3_4) (fun kk => LdN 6 w_5 p1_1 kk) w_5 fun t5_6 w_7 =>
  w_7 = w_5 ∧
  ∃ t7_8, (∀ w_9, C_3 w_9 → Gd (isB true t3_4) (fun kk => LdN 6 w_9 p1_1 kk) w_9 fun t7_10 w_11 =>
  t7_10 = t7_8 ∧ w_11 = w_9) ∧
  (Gd (isB true t3_4) (fun kk => Cl Tryd.prog 18 [t5_6] w_5 kk) w_5 fun t6_12 w_13 =>
  C_3 w_13 ∧
  (Gd (isB true t3_4) (fun kk => Cl Tryd.prog 19 [t7_8] w_13 kk) w_13 fun t8_14 w_15 =>
  C_3 w_15 ∧
  (Gd (isB true t3_4) (fun kk => Pu (binV (TypeDesc.int IntKind.i64) .eql t6_12 t8_14) fun vv => kk vv w_15) w_15 fun t9_16 w_17 =>
  Pu (pickV t3_4 t9_16 (Value.bool false)) fun t10_18 =>
  Gd (isB true t10_18) (fun kk => LdN 6 w_17 p1_1 kk) w_17 fun t12_19 w_20 =>
  w_20 = w_17 ∧
  ∃ t14_21, (∀ w_22, C_3 w_22 → Gd (isB true t10_18) (fun kk => LdN 6 w_22 p1_1 kk) w_22 fun t14_23 w_24 =>
  t14_23 = t14_21 ∧ w_24 = w_22) ∧
  (Gd (isB true t10_18) (fun kk => Cl Tryd.prog 20 [t12_19] w_17 kk) w_17 fun t13_25 w_26 =>
  C_3 w_26 ∧
  (Gd (isB true t10_18) (fun kk => Cl Tryd.prog 21 [t14_21] w_26 kk) w_26 fun t15_27 w_28 =>
  Gd (isB true t10_18) (fun kk => Pu (binV (TypeDesc.int IntKind.i64) .eql t13_25 t15_27) fun vv => kk vv w_28) w_28 fun t16_29 w_30 =>
  Pu (pickV t10_18 t16_29 (Value.bool false)) fun t17_31 =>
  k t17_31 w_30)))))))
theorem e3 (k : KV) (p0 : Value) (w : World) : K KD Tryd.prog 18 (fun j =>  []) (fun j =>  none) (Tryd.f3.body.getD .skip) (retQ Tryd.prog Tryd.f3 k) (argF [p0]) w = T3 k p0 w := by kernel_rfl
theorem c3 {k : KV} {p0 : Value} {w : World} (h : T3 k p0 w) : Cl Tryd.prog 3 [p0] w k :=
  Cl_of_K KD_sound mixed Tryd.func3 (by kernel_rfl) (by kernel_rfl) ((e3 k p0 w).symm ▸ h)

/-- Function 4: almonry/almonrylaw03.PageEncodes. -/
def T4 (k : KV) (p0 : Value) (w : World) : Prop :=
  New (Value.cells p0) 24 w fun p1_1 w_2 =>
  LdN 6 w_2 p1_1 fun t8_3 w_4 =>
  Cl Tryd.prog 22 [t8_3] w_4 fun t9_5 w_6 =>
  New #[(Value.int IntKind.i64 0), (Value.int IntKind.i64 0), (Value.int IntKind.i64 0), (Value.int IntKind.i64 0), (Value.string (ByteArray.mk #[])), (Value.slice none 0 0)] 24 w_6 fun own3_7 w_8 =>
  St 6 w_8 own3_7 t9_5 fun u_9 w_10 =>
  LdN 6 w_10 own3_7 fun t11_11 w_12 =>
  Cl Tryd.prog 23 [t11_11] w_12 fun t12_13 w_14 =>
  Pu (extV t12_13 0) fun t13_15 =>
  Pu (extV t12_13 1) fun t14_16 =>
  LdN 6 w_14 p1_1 fun t16_17 w_18 =>
  Cl Tryd.prog 24 [t16_17] w_18 fun t17_19 w_20 =>
  Pu (extV t17_19 0) fun t18_21 =>
  Pu (extV t17_19 1) fun t19_22 =>
  Cl Tryd.prog 17 [] w_20 fun t20_23 w_24 =>
  Gd (isB true t20_23) (fun kk => kk t13_15 w_24) w_24 fun t22_25 w_26 =>
  Gd (isB true t20_23) (fun kk => kk t18_21 w_26) w_26 fun t23_27 w_28 =>
  Gd (isB true t20_23) (fun kk => Pu (binV TypeDesc.string .eql t22_25 t23_27) fun vv => kk vv w_28) w_28 fun t24_29 w_30 =>
  Pu (pickV t20_23 t24_29 (Value.bool false)) fun t25_31 =>
  Gd (isB true t25_31) (fun kk => kk t14_16 w_30) w_30 fun t27_32 w_33 =>
  Gd (isB true t25_31) (fun kk => kk t19_22 w_33) w_33 fun t28_34 w_35 =>
  Gd (isB true t25_31) (fun kk => Pu (binV (TypeDesc.int IntKind.i64) .eql t27_32 t28_34) fun vv => kk vv w_35) w_35 fun t29_36 w_37 =>
  Pu (pickV t25_31 t29_36 (Value.bool false)) fun t30_38 =>
  Gd (isB true t30_38) (fun kk => LdN 6 w_37 own3_7 kk) w_37 fun t32_39 w_40 =>
  Gd (isB true t30_38) (fun kk => LdN 6 w_40 p1_1 kk) w_40 fun t33_41 w_42 =>
  Gd (isB true t30_38) (fun kk => Cl Tryd.prog 25 [t32_39, t33_41] w_42 kk) w_42 fun t34_43 w_44 =>
  Pu (pickV t30_38 t34_43 (Value.bool false)) fun t35_45 =>
  k t35_45 w_44
theorem e4 (k : KV) (p0 : Value) (w : World) : K KD Tryd.prog 36 (fun j =>  []) (fun j =>  none) (Tryd.f4.body.getD .skip) (retQ Tryd.prog Tryd.f4 k) (argF [p0]) w = T4 k p0 w := by kernel_rfl
theorem c4 {k : KV} {p0 : Value} {w : World} (h : T4 k p0 w) : Cl Tryd.prog 4 [p0] w k :=
  Cl_of_K KD_sound mixed Tryd.func4 (by kernel_rfl) (by kernel_rfl) ((e4 k p0 w).symm ▸ h)

/-- Function 5: almonry/almonrylaw03.PageDecodes. -/
def T5 (k : KV) (data0 : Value) (right1 : Value) (w : World) : Prop :=
  Cl Tryd.prog 26 [data0, right1] w fun t15_1 w_2 =>
  Cl Tryd.prog 27 [t15_1] w_2 fun t18_3 w_4 =>
  Pu (extV t18_3 0) fun t19_5 =>
  Pu (extV t18_3 1) fun t20_6 =>
  New #[(Value.int IntKind.i64 0), (Value.int IntKind.i64 0), (Value.int IntKind.i64 0), (Value.int IntKind.i64 0), (Value.string (ByteArray.mk #[])), (Value.slice none 0 0)] 24 w_4 fun p6_7 w_8 =>
  St 6 w_8 p6_7 t19_5 fun u_9 w_10 =>
  Cl Tryd.prog 27 [t15_1] w_10 fun t23_11 w_12 =>
  Pu (extV t23_11 0) fun t24_13 =>
  Pu (extV t23_11 1) fun t25_14 =>
  New #[(Value.int IntKind.i64 0), (Value.int IntKind.i64 0), (Value.int IntKind.i64 0), (Value.int IntKind.i64 0), (Value.string (ByteArray.mk #[])), (Value.slice none 0 0)] 24 w_12 fun q8_15 w_16 =>
  St 6 w_16 q8_15 t24_13 fun u_17 w_18 =>
  Cl Tryd.prog 28 [t15_1] w_18 fun t28_19 w_20 =>
  Pu (extV t28_19 0) fun t29_21 =>
  Pu (extV t28_19 1) fun t30_22 =>
  New #[(Value.int IntKind.i64 0), (Value.int IntKind.i64 0), (Value.int IntKind.i64 0), (Value.int IntKind.i64 0), (Value.string (ByteArray.mk #[])), (Value.slice none 0 0)] 24 w_20 fun want10_23 w_24 =>
  St 6 w_24 want10_23 t29_21 fun u_25 w_26 =>
  Pu (binV (TypeDesc.int IntKind.i64) .neq t20_6 t30_22) fun t33_27 =>
  Gd (isB false t33_27) (fun kk => kk t25_14 w_26) w_26 fun t35_28 w_29 =>
  Gd (isB false t33_27) (fun kk => kk t30_22 w_29) w_29 fun t36_30 w_31 =>
  Gd (isB false t33_27) (fun kk => Pu (binV (TypeDesc.int IntKind.i64) .neq t35_28 t36_30) fun vv => kk vv w_31) w_31 fun t37_32 w_33 =>
  Pu (pickV t33_27 (Value.bool true) t37_32) fun t38_34 =>
  Gd (isB false t38_34) (fun kk => LdN 6 w_33 p6_7 kk) w_33 fun t40_35 w_36 =>
  Gd (isB false t38_34) (fun kk => LdN 6 w_36 want10_23 kk) w_36 fun t41_37 w_38 =>
  Gd (isB false t38_34) (fun kk => Cl Tryd.prog 29 [t40_35, t41_37] w_38 kk) w_38 fun t42_39 w_40 =>
  Gd (isB false t38_34) (fun kk => Pu (unV .not t42_39) fun vv => kk vv w_40) w_40 fun t43_41 w_42 =>
  Pu (pickV t38_34 (Value.bool true) t43_41) fun t44_43 =>
  IfB t44_43
    (k (Value.bool false) w_42)
    (∃ (I_44 : List Value → World → Prop) (m_45 : List Value → World → Nat), I_44 [(Value.int IntKind.i64 0)] w_42 ∧
  ∀ (g_60 : Fr) (w_59 : World), ∀ i12_47 : Value, I_44 [i12_47] w_59 →
    (Pu (faV 5 p6_7) fun t46_61 =>
    Ld w_59 t46_61 fun t47_62 w_63 =>
    Pu (lenV t47_62) fun t48_64 =>
    Pu (binV (TypeDesc.int IntKind.i64) .lss i12_47 t48_64) fun t49_65 =>
    IfB t49_65
      (Pu (faV 5 p6_7) fun t52_66 =>
    Ld w_63 t52_66 fun t53_67 w_68 =>
    Pu (ixV 1 t53_67 i12_47) fun t55_69 =>
    St 1 w_68 t55_69 (Value.string (ByteArray.mk #[111, 118, 101, 114])) fun u_70 w_71 =>
    Pu (binV (TypeDesc.int IntKind.i64) .add i12_47 (Value.int IntKind.i64 1)) fun t51_72 =>
    I_44 [t51_72] w_71 ∧ m_45 [t51_72] w_71 < m_45 [i12_47] w_59)
      (Pu (faV 5 p6_7) fun t56_73 =>
  Ld w_63 t56_73 fun t57_74 w_75 =>
  RunS Tryd.prog (Instr.buildSlice 22 1 #[(0, (Value.string (ByteArray.mk #[109, 111, 114, 101])))]) w_75 fun t58_76 w_77 =>
  RunS Tryd.prog (Builtin.append_ #[22, 22] 22 #[t57_74, t58_76]) w_77 fun t59_78 w_79 =>
  Pu (faV 5 p6_7) fun t60_80 =>
  St 1 w_79 t60_80 t59_78 fun u_81 w_82 =>
  Cl Tryd.prog 17 [] w_82 fun t61_83 w_84 =>
  Gd (isB true t61_83) (fun kk => LdN 6 w_84 q8_15 kk) w_84 fun t63_85 w_86 =>
  Gd (isB true t61_83) (fun kk => LdN 6 w_86 want10_23 kk) w_86 fun t64_87 w_88 =>
  Gd (isB true t61_83) (fun kk => Cl Tryd.prog 29 [t63_85, t64_87] w_88 kk) w_88 fun t65_89 w_90 =>
  Pu (pickV t61_83 t65_89 (Value.bool false)) fun t66_91 =>
  k t66_91 w_90)))
theorem e5 (k : KV) (data0 : Value) (right1 : Value) (w : World) : K KD Tryd.prog 67 (fun j => bif Nat.beq j 8 then [12] else []) (fun j =>  none) (Tryd.f5.body.getD .skip) (retQ Tryd.prog Tryd.f5 k) (argF [data0, right1]) w = T5 k data0 right1 w := by kernel_rfl
theorem c5 {k : KV} {data0 : Value} {right1 : Value} {w : World} (h : T5 k data0 right1 w) : Cl Tryd.prog 5 [data0, right1] w k :=
  Cl_of_K KD_sound mixed Tryd.func5 (by kernel_rfl) (by kernel_rfl) ((e5 k data0 right1 w).symm ▸ h)

/-- Function 6: almonry/almonrylaw03.PageSames. -/
def T6 (k : KV) (a0 : Value) (b1 : Value) (w : World) : Prop :=
  New (Value.cells a0) 24 w fun a2_1 w_2 =>
  New (Value.cells b1) 24 w_2 fun b3_3 w_4 =>
  ∃ C_5 : World → Prop, C_5 (World.drew w_4) ∧
  (Cl Tryd.prog 17 [] (World.drew w_4) fun t5_6 w_7 =>
  C_5 w_7 ∧
  (Gd (isB true t5_6) (fun kk => LdN 6 w_7 a2_1 kk) w_7 fun t7_8 w_9 =>
  w_9 = w_7 ∧
  Gd (isB true t5_6) (fun kk => LdN 6 w_7 b3_3 kk) w_7 fun t8_10 w_11 =>
  w_11 = w_7 ∧
  ∃ t10_12, (∀ w_13, C_5 w_13 → Gd (isB true t5_6) (fun kk => LdN 6 w_13 a2_1 kk) w_13 fun t10_14 w_15 =>
  t10_14 = t10_12 ∧ w_15 = w_13) ∧
  (∃ t11_16, (∀ w_17, C_5 w_17 → Gd (isB true t5_6) (fun kk => LdN 6 w_17 b3_3 kk) w_17 fun t11_18 w_19 =>
  t11_18 = t11_16 ∧ w_19 = w_17) ∧
  (Gd (isB true t5_6) (fun kk => Cl Tryd.prog 30 [t7_8, t8_10] w_7 kk) w_7 fun t9_20 w_21 =>
  C_5 w_21 ∧
  (Gd (isB true t5_6) (fun kk => Cl Tryd.prog 29 [t10_12, t11_16] w_21 kk) w_21 fun t12_22 w_23 =>
  C_5 w_23 ∧
  (Gd (isB true t5_6) (fun kk => Pu (binV TypeDesc.bool .eql t9_20 t12_22) fun vv => kk vv w_23) w_23 fun t13_24 w_25 =>
  Pu (pickV t5_6 t13_24 (Value.bool false)) fun t14_26 =>
  Gd (isB true t14_26) (fun kk => LdN 6 w_25 a2_1 kk) w_25 fun t16_27 w_28 =>
  w_28 = w_25 ∧
  Gd (isB true t14_26) (fun kk => LdN 6 w_25 a2_1 kk) w_25 fun t17_29 w_30 =>
  w_30 = w_25 ∧
  Gd (isB true t14_26) (fun kk => Cl Tryd.prog 30 [t16_27, t17_29] w_25 kk) w_25 fun t18_31 w_32 =>
  C_5 w_32 ∧
  (Pu (pickV t14_26 t18_31 (Value.bool false)) fun t19_33 =>
  Gd (isB true t19_33) (fun kk => LdN 6 w_32 a2_1 kk) w_32 fun t21_34 w_35 =>
  w_35 = w_32 ∧
  Gd (isB true t19_33) (fun kk => LdN 6 w_32 b3_3 kk) w_32 fun t22_36 w_37 =>
  w_37 = w_32 ∧
  ∃ t24_38, (∀ w_39, C_5 w_39 → Gd (isB true t19_33) (fun kk => LdN 6 w_39 b3_3 kk) w_39 fun t24_40 w_41 =>
  t24_40 = t24_38 ∧ w_41 = w_39) ∧
  (∃ t25_42, (∀ w_43, C_5 w_43 → Gd (isB true t19_33) (fun kk => LdN 6 w_43 a2_1 kk) w_43 fun t25_44 w_45 =>
  t25_44 = t25_42 ∧ w_45 = w_43) ∧
  (Gd (isB true t19_33) (fun kk => Cl Tryd.prog 30 [t21_34, t22_36] w_32 kk) w_32 fun t23_46 w_47 =>
  C_5 w_47 ∧
  (Gd (isB true t19_33) (fun kk => Cl Tryd.prog 30 [t24_38, t25_42] w_47 kk) w_47 fun t26_48 w_49 =>
  Gd (isB true t19_33) (fun kk => Pu (binV TypeDesc.bool .eql t23_46 t26_48) fun vv => kk vv w_49) w_49 fun t27_50 w_51 =>
  Pu (pickV t19_33 t27_50 (Value.bool false)) fun t28_52 =>
  k t28_52 w_51))))))))))
theorem e6 (k : KV) (a0 : Value) (b1 : Value) (w : World) : K KD Tryd.prog 29 (fun j =>  []) (fun j =>  none) (Tryd.f6.body.getD .skip) (retQ Tryd.prog Tryd.f6 k) (argF [a0, b1]) w = T6 k a0 b1 w := by kernel_rfl
theorem c6 {k : KV} {a0 : Value} {b1 : Value} {w : World} (h : T6 k a0 b1 w) : Cl Tryd.prog 6 [a0, b1] w k :=
  Cl_of_K KD_sound mixed Tryd.func6 (by kernel_rfl) (by kernel_rfl) ((e6 k a0 b1 w).symm ▸ h)

/-- Function 7: almonry/almonrylaw03.PageBack. -/
def T7 (k : KV) (p0 : Value) (data1 : Value) (w : World) : Prop :=
  New (Value.cells p0) 24 w fun p2_1 w_2 =>
  LdN 6 w_2 p2_1 fun t15_3 w_4 =>
  Cl Tryd.prog 23 [t15_3] w_4 fun t16_5 w_6 =>
  Pu (extV t16_5 0) fun t17_7 =>
  Pu (extV t16_5 1) fun t18_8 =>
  Jn (fun vs_34 w_33 => ∀ g_35 : Fr, vs_34 = [] ∧
      (Cl Tryd.prog 26 [data1, (Value.bool true)] w_33 fun t40_36 w_37 =>
      Cl Tryd.prog 27 [t40_36] w_37 fun t43_38 w_39 =>
      Pu (extV t43_38 0) fun t44_40 =>
      Pu (extV t43_38 1) fun t45_41 =>
      New #[(Value.int IntKind.i64 0), (Value.int IntKind.i64 0), (Value.int IntKind.i64 0), (Value.int IntKind.i64 0), (Value.string (ByteArray.mk #[])), (Value.slice none 0 0)] 24 w_39 fun q10_42 w_43 =>
      St 6 w_43 q10_42 t44_40 fun u_44 w_45 =>
      Pu (binV (TypeDesc.int IntKind.i64) .neq t45_41 (Value.int IntKind.i64 0)) fun t47_46 =>
      IfB t47_46
        (Cl Tryd.prog 17 [] w_45 fun t48_47 w_48 =>
          Gd (isB true t48_47) (fun kk => LdN 6 w_48 q10_42 kk) w_48 fun t50_49 w_50 =>
          Gd (isB true t48_47) (fun kk => RunS Tryd.prog (Instr.build 24 #[]) w_50 kk) w_50 fun t51_51 w_52 =>
          Gd (isB true t48_47) (fun kk => Cl Tryd.prog 30 [t50_49, t51_51] w_52 kk) w_52 fun t52_53 w_54 =>
          Pu (pickV t48_47 t52_53 (Value.bool false)) fun t53_55 =>
          k t53_55 w_54)
        (LdN 6 w_45 q10_42 fun t55_56 w_57 =>
      Cl Tryd.prog 23 [t55_56] w_57 fun t56_58 w_59 =>
      Pu (extV t56_58 0) fun t57_60 =>
      Pu (extV t56_58 1) fun t58_61 =>
      Cl Tryd.prog 17 [] w_59 fun t59_62 w_63 =>
      Gd (isB true t59_62) (fun kk => kk t58_61 w_63) w_63 fun t61_64 w_65 =>
      Gd (isB true t59_62) (fun kk => Pu (binV (TypeDesc.int IntKind.i64) .eql t61_64 (Value.int IntKind.i64 0)) fun vv => kk vv w_65) w_65 fun t62_66 w_67 =>
      Pu (pickV t59_62 t62_66 (Value.bool false)) fun t63_68 =>
      Gd (isB true t63_68) (fun kk => kk t57_60 w_67) w_67 fun t65_69 w_70 =>
      Gd (isB true t63_68) (fun kk => kk t40_36 w_70) w_70 fun t66_71 w_72 =>
      Gd (isB true t63_68) (fun kk => Pu (binV TypeDesc.string .eql t65_69 t66_71) fun vv => kk vv w_72) w_72 fun t67_73 w_74 =>
      Pu (pickV t63_68 t67_73 (Value.bool false)) fun t68_75 =>
      k t68_75 w_74)))
    (fun jj_9 =>
    Pu (binV (TypeDesc.int IntKind.i64) .eql t18_8 (Value.int IntKind.i64 0)) fun t20_76 =>
    IfB t20_76
      (Cl Tryd.prog 27 [t17_7] w_6 fun t23_77 w_78 =>
        Pu (extV t23_77 0) fun t24_79 =>
        Pu (extV t23_77 1) fun t25_80 =>
        New #[(Value.int IntKind.i64 0), (Value.int IntKind.i64 0), (Value.int IntKind.i64 0), (Value.int IntKind.i64 0), (Value.string (ByteArray.mk #[])), (Value.slice none 0 0)] 24 w_78 fun q7_81 w_82 =>
        St 6 w_82 q7_81 t24_79 fun u_83 w_84 =>
        Pu (binV (TypeDesc.int IntKind.i64) .neq t25_80 (Value.int IntKind.i64 0)) fun t27_85 =>
        Gd (isB false t27_85) (fun kk => LdN 6 w_84 p2_1 kk) w_84 fun t29_86 w_87 =>
        Gd (isB false t27_85) (fun kk => LdN 6 w_87 q7_81 kk) w_87 fun t30_88 w_89 =>
        Gd (isB false t27_85) (fun kk => Cl Tryd.prog 30 [t29_86, t30_88] w_89 kk) w_89 fun t31_90 w_91 =>
        Gd (isB false t27_85) (fun kk => Pu (unV .not t31_90) fun vv => kk vv w_91) w_91 fun t32_92 w_93 =>
        Pu (pickV t27_85 (Value.bool true) t32_92) fun t33_94 =>
        Gd (isB false t33_94) (fun kk => kk t17_7 w_93) w_93 fun t35_95 w_96 =>
        Gd (isB false t33_94) (fun kk => Pu (lenS t35_95) fun vv => kk vv w_96) w_96 fun t36_97 w_98 =>
        Gd (isB false t33_94) (fun kk => Pu (binV (TypeDesc.int IntKind.i64) .neq t36_97 (Value.int IntKind.i64 512)) fun vv => kk vv w_98) w_98 fun t37_99 w_100 =>
        Pu (pickV t33_94 (Value.bool true) t37_99) fun t38_101 =>
        IfB t38_101
          (k (Value.bool false) w_100)
          (jj_9 [] w_100))
      (jj_9 [] w_6))
theorem e7 (k : KV) (p0 : Value) (data1 : Value) (w : World) : K KD Tryd.prog 69 (fun j =>  []) (fun j => bif Nat.beq j 6 then some [] else none) (Tryd.f7.body.getD .skip) (retQ Tryd.prog Tryd.f7 k) (argF [p0, data1]) w = T7 k p0 data1 w := by kernel_rfl
theorem c7 {k : KV} {p0 : Value} {data1 : Value} {w : World} (h : T7 k p0 data1 w) : Cl Tryd.prog 7 [p0, data1] w k :=
  Cl_of_K KD_sound mixed Tryd.func7 (by kernel_rfl) (by kernel_rfl) ((e7 k p0 data1 w).symm ▸ h)

/-- Function 8: almonry/almonrylaw03.PageTorn. -/
def T8 (k : KV) (p0 : Value) (atv1 : Value) (byv2 : Value) (w : World) : Prop :=
  New (Value.cells p0) 24 w fun p3_1 w_2 =>
  LdN 6 w_2 p3_1 fun t13_3 w_4 =>
  Cl Tryd.prog 23 [t13_3] w_4 fun t14_5 w_6 =>
  Pu (extV t14_5 0) fun t15_7 =>
  Pu (extV t14_5 1) fun t16_8 =>
  Pu (binV (TypeDesc.int IntKind.i64) .neq t16_8 (Value.int IntKind.i64 0)) fun t18_9 =>
  Gd (isB false t18_9) (fun kk => kk byv2 w_6) w_6 fun t20_10 w_11 =>
  Gd (isB false t18_9) (fun kk => Pu (binV (TypeDesc.int IntKind.u8) .eql t20_10 (Value.int IntKind.u8 0)) fun vv => kk vv w_11) w_11 fun t21_12 w_13 =>
  Pu (pickV t18_9 (Value.bool true) t21_12) fun t22_14 =>
  Gd (isB false t22_14) (fun kk => kk t15_7 w_13) w_13 fun t24_15 w_16 =>
  Gd (isB false t22_14) (fun kk => Pu (binV TypeDesc.string .eql t24_15 (Value.string (ByteArray.mk #[]))) fun vv => kk vv w_16) w_16 fun t25_17 w_18 =>
  Pu (pickV t22_14 (Value.bool true) t25_17) fun t26_19 =>
  IfB t26_19
    (Cl Tryd.prog 17 [] w_18 fun t27_20 w_21 =>
      Gd (isB true t27_20) (fun kk => kk t16_8 w_21) w_21 fun t29_22 w_23 =>
      Gd (isB true t27_20) (fun kk => Pu (binV (TypeDesc.int IntKind.i64) .neq t29_22 (Value.int IntKind.i64 0)) fun vv => kk vv w_23) w_23 fun t30_24 w_25 =>
      Gd (isB true t27_20) (fun kk => kk t30_24 w_25) w_25 fun t31_26 w_27 =>
      Gd (isB false t31_26) (fun kk => kk byv2 w_27) w_27 fun t32_28 w_29 =>
      Gd (isB false t31_26) (fun kk => Pu (binV (TypeDesc.int IntKind.u8) .eql t32_28 (Value.int IntKind.u8 0)) fun vv => kk vv w_29) w_29 fun t33_30 w_31 =>
      Gd (isB true t27_20) (fun kk => Pu (pickV t31_26 (Value.bool true) t33_30) fun vv => kk vv w_31) w_31 fun t34_32 w_33 =>
      Pu (pickV t27_20 t34_32 (Value.bool false)) fun t35_34 =>
      k t35_34 w_33)
    (Jn (fun vs_43 w_42 => ∀ g_44 : Fr, ∃ atv1_36 : Value, vs_43 = [atv1_36] ∧
      (RunS Tryd.prog (convert 9 38 t15_7) w_42 fun t42_45 w_46 =>
      Pu (lenV t42_45) fun t46_47 =>
      Pu (binV (TypeDesc.int IntKind.i64) .rem atv1_36 t46_47) fun t47_48 =>
      Pu (lenV t42_45) fun t51_49 =>
      Pu (binV (TypeDesc.int IntKind.i64) .rem atv1_36 t51_49) fun t52_50 =>
      Pu (ixV 1 t42_45 t52_50) fun t53_51 =>
      Ld (World.drew w_46) t53_51 fun t54_52 w_53 =>
      w_53 = (World.drew w_46) ∧
      Pu (binV (TypeDesc.int IntKind.u8) .xor t54_52 byv2) fun t56_54 =>
      Pu (ixV 1 t42_45 t47_48) fun t57_55 =>
      St 1 (World.drew w_46) t57_55 t56_54 fun u_56 w_57 =>
      RunS Tryd.prog (convert 38 9 t42_45) w_57 fun t60_58 w_59 =>
      Cl Tryd.prog 27 [t60_58] w_59 fun t61_60 w_61 =>
      Pu (extV t61_60 0) fun t62_62 =>
      Pu (extV t61_60 1) fun t63_63 =>
      New #[(Value.int IntKind.i64 0), (Value.int IntKind.i64 0), (Value.int IntKind.i64 0), (Value.int IntKind.i64 0), (Value.string (ByteArray.mk #[])), (Value.slice none 0 0)] 24 w_61 fun t10_64 w_65 =>
      St 6 w_65 t10_64 t62_62 fun u_66 w_67 =>
      Cl Tryd.prog 17 [] w_67 fun t64_68 w_69 =>
      Gd (isB true t64_68) (fun kk => kk t63_63 w_69) w_69 fun t66_70 w_71 =>
      Gd (isB true t64_68) (fun kk => Pu (binV (TypeDesc.int IntKind.i64) .eql t66_70 (Value.int IntKind.i64 30)) fun vv => kk vv w_71) w_71 fun t67_72 w_73 =>
      Pu (pickV t64_68 t67_72 (Value.bool false)) fun t68_74 =>
      k t68_74 w_73))
    (fun jj_35 =>
    Pu (binV (TypeDesc.int IntKind.i64) .lss atv1 (Value.int IntKind.i64 0)) fun t37_75 =>
    IfB t37_75
      (Pu (binV (TypeDesc.int IntKind.i64) .add atv1 (Value.int IntKind.i64 1)) fun t39_76 =>
        Pu (unV .neg t39_76) fun t40_77 =>
        jj_35 [t40_77] w_18)
      (jj_35 [atv1] w_18)))
theorem e8 (k : KV) (p0 : Value) (atv1 : Value) (byv2 : Value) (w : World) : K KD Tryd.prog 69 (fun j =>  []) (fun j => bif Nat.beq j 6 then some [1] else none) (Tryd.f8.body.getD .skip) (retQ Tryd.prog Tryd.f8 k) (argF [p0, atv1, byv2]) w = T8 k p0 atv1 byv2 w := by kernel_rfl
theorem c8 {k : KV} {p0 : Value} {atv1 : Value} {byv2 : Value} {w : World} (h : T8 k p0 atv1 byv2 w) : Cl Tryd.prog 8 [p0, atv1, byv2] w k :=
  Cl_of_K KD_sound mixed Tryd.func8 (by kernel_rfl) (by kernel_rfl) ((e8 k p0 atv1 byv2 w).symm ▸ h)

/-- Function 9: almonry/almonrylaw03.PageFits. -/
def T9 (k : KV) (p0 : Value) (i1 : Value) (w : World) : Prop :=
  New (Value.cells p0) 24 w fun p2_1 w_2 =>
  LdN 6 w_2 p2_1 fun t17_3 w_4 =>
  Cl Tryd.prog 23 [t17_3] w_4 fun t18_5 w_6 =>
  Pu (extV t18_5 0) fun t19_7 =>
  Pu (extV t18_5 1) fun t20_8 =>
  Pu (binV (TypeDesc.int IntKind.i64) .neq t20_8 (Value.int IntKind.i64 0)) fun t22_9 =>
  Gd (isB false t22_9) (fun kk => kk t19_7 w_6) w_6 fun t24_10 w_11 =>
  Gd (isB false t22_9) (fun kk => Pu (binV TypeDesc.string .eql t24_10 (Value.string (ByteArray.mk #[]))) fun vv => kk vv w_11) w_11 fun t25_12 w_13 =>
  Pu (pickV t22_9 (Value.bool true) t25_12) fun t26_14 =>
  IfB t26_14
    (Cl Tryd.prog 17 [] w_13 fun t27_15 w_16 =>
      Gd (isB true t27_15) (fun kk => kk t19_7 w_16) w_16 fun t29_17 w_18 =>
      Gd (isB true t27_15) (fun kk => Pu (binV TypeDesc.string .eql t29_17 (Value.string (ByteArray.mk #[]))) fun vv => kk vv w_18) w_18 fun t30_19 w_20 =>
      Pu (pickV t27_15 t30_19 (Value.bool false)) fun t31_21 =>
      k t31_21 w_20)
    (LdN 6 w_13 p2_1 fun t32_22 w_23 =>
  Cl Tryd.prog 20 [t32_22] w_23 fun t33_24 w_25 =>
  Jn (fun vs_34 w_33 => ∀ g_35 : Fr, ∃ i1_27 : Value, vs_34 = [i1_27] ∧
      (Pu (faV 5 p2_1) fun t40_36 =>
      Ld w_33 t40_36 fun t41_37 w_38 =>
      Pu (lenV t41_37) fun t42_39 =>
      Pu (binV (TypeDesc.int IntKind.i64) .add t42_39 (Value.int IntKind.i64 1)) fun t43_40 =>
      Pu (binV (TypeDesc.int IntKind.i64) .rem i1_27 t43_40) fun t44_41 =>
      Jn (fun vs_56 w_55 => ∀ g_57 : Fr, ∃ f9_44 : Value, vs_56 = [f9_44] ∧
          (Pu (binV (TypeDesc.int IntKind.i64) .lss t33_24 (Value.int IntKind.i64 0)) fun t56_58 =>
          IfB t56_58
            (Cl Tryd.prog 17 [] w_55 fun t57_59 w_60 =>
              Gd (isB true t57_59) (fun kk => kk t33_24 w_60) w_60 fun t59_61 w_62 =>
              Gd (isB true t57_59) (fun kk => Pu (binV (TypeDesc.int IntKind.i64) .eql t59_61 (Value.int IntKind.i64 (-1))) fun vv => kk vv w_62) w_62 fun t60_63 w_64 =>
              Pu (pickV t57_59 t60_63 (Value.bool false)) fun t61_65 =>
              Gd (isB true t61_65) (fun kk => kk f9_44 w_64) w_64 fun t63_66 w_67 =>
              Gd (isB true t61_65) (fun kk => Pu (binV (TypeDesc.int IntKind.i64) .eql t63_66 (Value.int IntKind.i64 3)) fun vv => kk vv w_67) w_67 fun t64_68 w_69 =>
              Pu (pickV t61_65 t64_68 (Value.bool false)) fun t65_70 =>
              k t65_70 w_69)
            (Jn (fun vs_84 w_83 => ∀ g_85 : Fr, ∃ q10_72 : Value, ∃ g11_73 : Value, vs_84 = [q10_72, g11_73] ∧
              (LdN 6 w_83 q10_72 fun t76_86 w_87 =>
              Cl Tryd.prog 32 [t76_86, t44_41] w_87 fun t78_88 w_89 =>
              Pu (extV t78_88 0) fun t79_90 =>
              Pu (extV t78_88 1) fun t80_91 =>
              New #[(Value.int IntKind.i64 0), (Value.int IntKind.i64 0), (Value.int IntKind.i64 0), (Value.int IntKind.i64 0), (Value.string (ByteArray.mk #[])), (Value.slice none 0 0)] 24 w_89 fun r12_92 w_93 =>
              St 6 w_93 r12_92 t79_90 fun u_94 w_95 =>
              LdN 6 w_95 q10_72 fun t82_96 w_97 =>
              Cl Tryd.prog 23 [t82_96] w_97 fun t83_98 w_99 =>
              Pu (extV t83_98 0) fun t84_100 =>
              Pu (extV t83_98 1) fun t85_101 =>
              Cl Tryd.prog 17 [] w_99 fun t86_102 w_103 =>
              Gd (isB true t86_102) (fun kk => kk f9_44 w_103) w_103 fun t88_104 w_105 =>
              Gd (isB true t86_102) (fun kk => Pu (binV (TypeDesc.int IntKind.i64) .eql t88_104 (Value.int IntKind.i64 3)) fun vv => kk vv w_105) w_105 fun t89_106 w_107 =>
              Pu (pickV t86_102 t89_106 (Value.bool false)) fun t90_108 =>
              Gd (isB true t90_108) (fun kk => kk g11_73 w_107) w_107 fun t92_109 w_110 =>
              Gd (isB true t90_108) (fun kk => Pu (binV (TypeDesc.int IntKind.i64) .eql t92_109 (Value.int IntKind.i64 0)) fun vv => kk vv w_110) w_110 fun t93_111 w_112 =>
              Pu (pickV t90_108 t93_111 (Value.bool false)) fun t94_113 =>
              Gd (isB true t94_113) (fun kk => kk t80_91 w_112) w_112 fun t96_114 w_115 =>
              Gd (isB true t94_113) (fun kk => Pu (binV (TypeDesc.int IntKind.i64) .eql t96_114 (Value.int IntKind.i64 0)) fun vv => kk vv w_115) w_115 fun t97_116 w_117 =>
              Pu (pickV t94_113 t97_116 (Value.bool false)) fun t98_118 =>
              Gd (isB true t98_118) (fun kk => kk t85_101 w_117) w_117 fun t100_119 w_120 =>
              Gd (isB true t98_118) (fun kk => Pu (binV (TypeDesc.int IntKind.i64) .eql t100_119 (Value.int IntKind.i64 0)) fun vv => kk vv w_120) w_120 fun t101_121 w_122 =>
              Pu (pickV t98_118 t101_121 (Value.bool false)) fun t102_123 =>
              Gd (isB true t102_123) (fun kk => LdN 6 w_122 r12_92 kk) w_122 fun t104_124 w_125 =>
              Gd (isB true t102_123) (fun kk => LdN 6 w_125 p2_1 kk) w_125 fun t105_126 w_127 =>
              Gd (isB true t102_123) (fun kk => Cl Tryd.prog 30 [t104_124, t105_126] w_127 kk) w_127 fun t106_128 w_129 =>
              Pu (pickV t102_123 t106_128 (Value.bool false)) fun t107_130 =>
              Gd (isB true t107_130) (fun kk => LdN 6 w_129 q10_72 kk) w_129 fun t109_131 w_132 =>
              Gd (isB true t107_130) (fun kk => Cl Tryd.prog 18 [t109_131] w_132 kk) w_132 fun t110_133 w_134 =>
              Gd (isB true t107_130) (fun kk => Pu (binV (TypeDesc.int IntKind.i64) .leq t110_133 (Value.int IntKind.i64 512)) fun vv => kk vv w_134) w_134 fun t111_135 w_136 =>
              Pu (pickV t107_130 t111_135 (Value.bool false)) fun t112_137 =>
              k t112_137 w_136))
            (fun jj_71 =>
            ∃ C_138 : World → Prop, C_138 (World.drew w_55) ∧
            (∃ t67_139, (∀ w_140, C_138 w_140 → LdN 6 w_140 p2_1 fun t67_141 w_142 =>
            t67_141 = t67_139 ∧ w_142 = w_140) ∧
            ((RunS Tryd.prog (Instr.makeSlice 38 t33_24 t33_24) (World.drew w_55) fun t70_143 w_144 =>
            C_138 w_144 ∧
            (∃ t71_145, (∀ w_146, C_138 w_146 → RunS Tryd.prog (convert 38 9 t70_143) w_146 fun t71_147 w_148 =>
            t71_147 = t71_145 ∧ w_148 = w_146) ∧
            ((Cl Tryd.prog 31 [t67_139, t44_41, t71_145] w_144 fun t72_149 w_150 =>
            Pu (extV t72_149 0) fun t73_151 =>
            Pu (extV t72_149 1) fun t74_152 =>
            New #[(Value.int IntKind.i64 0), (Value.int IntKind.i64 0), (Value.int IntKind.i64 0), (Value.int IntKind.i64 0), (Value.string (ByteArray.mk #[])), (Value.slice none 0 0)] 24 w_150 fun q10_153 w_154 =>
            St 6 w_154 q10_153 t73_151 fun u_155 w_156 =>
            jj_71 [q10_153, t74_152] w_156) ∧
            (New #[(Value.int IntKind.i64 0), (Value.int IntKind.i64 0), (Value.int IntKind.i64 0), (Value.int IntKind.i64 0), (Value.string (ByteArray.mk #[])), (Value.slice none 0 0)] 24 w_144 fun q10_157 w_158 =>
            C_138 w_158 ∧
            (Cl Tryd.prog 31 [t67_139, t44_41, t71_145] w_158 fun t72_159 w_160 =>
            Pu (extV t72_159 0) fun t73_161 =>
            Pu (extV t72_159 1) fun t74_162 =>
            St 6 w_160 q10_157 t73_161 fun u_163 w_164 =>
            jj_71 [q10_157, t74_162] w_164)) ∧
            True))) ∧
            (New #[(Value.int IntKind.i64 0), (Value.int IntKind.i64 0), (Value.int IntKind.i64 0), (Value.int IntKind.i64 0), (Value.string (ByteArray.mk #[])), (Value.slice none 0 0)] 24 (World.drew w_55) fun q10_165 w_166 =>
            C_138 w_166 ∧
            (RunS Tryd.prog (Instr.makeSlice 38 t33_24 t33_24) w_166 fun t70_167 w_168 =>
            C_138 w_168 ∧
            (RunS Tryd.prog (convert 38 9 t70_167) w_168 fun t71_169 w_170 =>
            w_170 = w_168 ∧
            Cl Tryd.prog 31 [t67_139, t44_41, t71_169] w_168 fun t72_171 w_172 =>
            Pu (extV t72_171 0) fun t73_173 =>
            Pu (extV t72_171 1) fun t74_174 =>
            St 6 w_172 q10_165 t73_173 fun u_175 w_176 =>
            jj_71 [q10_165, t74_174] w_176))) ∧
            True))))))
        (fun jj_42 =>
        ∃ C_177 : World → Prop, C_177 (World.drew w_38) ∧
        (∃ t46_178, (∀ w_179, C_177 w_179 → LdN 6 w_179 p2_1 fun t46_180 w_181 =>
        t46_180 = t46_178 ∧ w_181 = w_179) ∧
        (Pu (binV (TypeDesc.int IntKind.i64) .add t33_24 (Value.int IntKind.i64 1)) fun t49_182 =>
        (RunS Tryd.prog (Instr.makeSlice 38 t49_182 t49_182) (World.drew w_38) fun t50_183 w_184 =>
        C_177 w_184 ∧
        (∃ t51_185, (∀ w_186, C_177 w_186 → RunS Tryd.prog (convert 38 9 t50_183) w_186 fun t51_187 w_188 =>
        t51_187 = t51_185 ∧ w_188 = w_186) ∧
        ((Cl Tryd.prog 31 [t46_178, t44_41, t51_185] w_184 fun t52_189 w_190 =>
        Pu (extV t52_189 0) fun t53_191 =>
        Pu (extV t52_189 1) fun t54_192 =>
        New #[(Value.int IntKind.i64 0), (Value.int IntKind.i64 0), (Value.int IntKind.i64 0), (Value.int IntKind.i64 0), (Value.string (ByteArray.mk #[])), (Value.slice none 0 0)] 24 w_190 fun t8_193 w_194 =>
        St 6 w_194 t8_193 t53_191 fun u_195 w_196 =>
        jj_42 [t54_192] w_196) ∧
        (New #[(Value.int IntKind.i64 0), (Value.int IntKind.i64 0), (Value.int IntKind.i64 0), (Value.int IntKind.i64 0), (Value.string (ByteArray.mk #[])), (Value.slice none 0 0)] 24 w_184 fun t8_197 w_198 =>
        C_177 w_198 ∧
        (Cl Tryd.prog 31 [t46_178, t44_41, t51_185] w_198 fun t52_199 w_200 =>
        Pu (extV t52_199 0) fun t53_201 =>
        Pu (extV t52_199 1) fun t54_202 =>
        St 6 w_200 t8_197 t53_201 fun u_203 w_204 =>
        jj_42 [t54_202] w_204)) ∧
        True))) ∧
        (New #[(Value.int IntKind.i64 0), (Value.int IntKind.i64 0), (Value.int IntKind.i64 0), (Value.int IntKind.i64 0), (Value.string (ByteArray.mk #[])), (Value.slice none 0 0)] 24 (World.drew w_38) fun t8_205 w_206 =>
        C_177 w_206 ∧
        (RunS Tryd.prog (Instr.makeSlice 38 t49_182 t49_182) w_206 fun t50_207 w_208 =>
        C_177 w_208 ∧
        (RunS Tryd.prog (convert 38 9 t50_207) w_208 fun t51_209 w_210 =>
        w_210 = w_208 ∧
        Cl Tryd.prog 31 [t46_178, t44_41, t51_209] w_208 fun t52_211 w_212 =>
        Pu (extV t52_211 0) fun t53_213 =>
        Pu (extV t52_211 1) fun t54_214 =>
        St 6 w_212 t8_205 t53_213 fun u_215 w_216 =>
        jj_42 [t54_214] w_216))) ∧
        True)))))
    (fun jj_26 =>
    Pu (binV (TypeDesc.int IntKind.i64) .lss i1 (Value.int IntKind.i64 0)) fun t35_217 =>
    IfB t35_217
      (Pu (binV (TypeDesc.int IntKind.i64) .add i1 (Value.int IntKind.i64 1)) fun t37_218 =>
        Pu (unV .neg t37_218) fun t38_219 =>
        jj_26 [t38_219] w_25)
      (jj_26 [i1] w_25)))
theorem e9 (k : KV) (p0 : Value) (i1 : Value) (w : World) : K KD Tryd.prog 113 (fun j =>  []) (fun j => bif Nat.beq j 7 then some [1] else bif Nat.beq j 9 then some [9] else bif Nat.beq j 12 then some [10, 11] else none) (Tryd.f9.body.getD .skip) (retQ Tryd.prog Tryd.f9 k) (argF [p0, i1]) w = T9 k p0 i1 w := by kernel_rfl
theorem c9 {k : KV} {p0 : Value} {i1 : Value} {w : World} (h : T9 k p0 i1 w) : Cl Tryd.prog 9 [p0, i1] w k :=
  Cl_of_K KD_sound mixed Tryd.func9 (by kernel_rfl) (by kernel_rfl) ((e9 k p0 i1 w).symm ▸ h)

/-- Function 10: almonry/almonrylaw03.PageChanges. -/
def T10 (k : KV) (p0 : Value) (x1 : Value) (w : World) : Prop :=
  New (Value.cells p0) 24 w fun p2_1 w_2 =>
  New (Value.cells x1) 44 w_2 fun x3_3 w_4 =>
  LdN 6 w_4 p2_1 fun t18_5 w_6 =>
  Cl Tryd.prog 22 [t18_5] w_6 fun t19_7 w_8 =>
  New #[(Value.int IntKind.i64 0), (Value.int IntKind.i64 0), (Value.int IntKind.i64 0), (Value.int IntKind.i64 0), (Value.string (ByteArray.mk #[])), (Value.slice none 0 0)] 24 w_8 fun own5_9 w_10 =>
  St 6 w_10 own5_9 t19_7 fun u_11 w_12 =>
  LdN 6 w_12 own5_9 fun t21_13 w_14 =>
  Pu (faV 0 x3_3) fun t22_15 =>
  Ld w_14 t22_15 fun t23_16 w_17 =>
  Pu (faV 1 x3_3) fun t24_18 =>
  Ld w_17 t24_18 fun t25_19 w_20 =>
  Cl Tryd.prog 33 [t21_13, t23_16, t25_19] w_20 fun t26_21 w_22 =>
  Pu (extV t26_21 0) fun t27_23 =>
  Pu (extV t26_21 1) fun t28_24 =>
  New #[(Value.int IntKind.i64 0), (Value.int IntKind.i64 0), (Value.int IntKind.i64 0), (Value.int IntKind.i64 0), (Value.string (ByteArray.mk #[])), (Value.slice none 0 0)] 24 w_22 fun a6_25 w_26 =>
  St 6 w_26 a6_25 t27_23 fun u_27 w_28 =>
  LdN 6 w_28 own5_9 fun t30_29 w_30 =>
  Pu (faV 0 x3_3) fun t31_31 =>
  Ld w_30 t31_31 fun t32_32 w_33 =>
  Pu (faV 1 x3_3) fun t33_34 =>
  Ld w_33 t33_34 fun t34_35 w_36 =>
  Cl Tryd.prog 31 [t30_29, t32_32, t34_35] w_36 fun t35_37 w_38 =>
  Pu (extV t35_37 0) fun t36_39 =>
  Pu (extV t35_37 1) fun t37_40 =>
  New #[(Value.int IntKind.i64 0), (Value.int IntKind.i64 0), (Value.int IntKind.i64 0), (Value.int IntKind.i64 0), (Value.string (ByteArray.mk #[])), (Value.slice none 0 0)] 24 w_38 fun b8_41 w_42 =>
  St 6 w_42 b8_41 t36_39 fun u_43 w_44 =>
  LdN 6 w_44 own5_9 fun t39_45 w_46 =>
  Pu (faV 0 x3_3) fun t40_47 =>
  Ld w_46 t40_47 fun t41_48 w_49 =>
  Cl Tryd.prog 32 [t39_45, t41_48] w_49 fun t42_50 w_51 =>
  Pu (extV t42_50 0) fun t43_52 =>
  Pu (extV t42_50 1) fun t44_53 =>
  New #[(Value.int IntKind.i64 0), (Value.int IntKind.i64 0), (Value.int IntKind.i64 0), (Value.int IntKind.i64 0), (Value.string (ByteArray.mk #[])), (Value.slice none 0 0)] 24 w_51 fun c10_54 w_55 =>
  St 6 w_55 c10_54 t43_52 fun u_56 w_57 =>
  LdN 6 w_57 own5_9 fun t45_58 w_59 =>
  LdN 6 w_59 p2_1 fun t46_60 w_61 =>
  Cl Tryd.prog 25 [t45_58, t46_60] w_61 fun t47_62 w_63 =>
  Pu (unV .not t47_62) fun t48_64 =>
  IfB t48_64
    (k (Value.bool false) w_63)
    (LdN 6 w_63 p2_1 fun t50_65 w_66 =>
  Pu (faV 0 x3_3) fun t51_67 =>
  Ld w_66 t51_67 fun t52_68 w_69 =>
  Pu (faV 1 x3_3) fun t53_70 =>
  Ld w_69 t53_70 fun t54_71 w_72 =>
  Cl Tryd.prog 34 [t50_65, t52_68, t54_71] w_72 fun t55_73 w_74 =>
  Pu (extV t55_73 0) fun t56_75 =>
  Pu (extV t55_73 1) fun t57_76 =>
  New #[(Value.int IntKind.i64 0), (Value.int IntKind.i64 0), (Value.int IntKind.i64 0), (Value.int IntKind.i64 0), (Value.string (ByteArray.mk #[])), (Value.slice none 0 0)] 24 w_74 fun i12_77 w_78 =>
  St 6 w_78 i12_77 t56_75 fun u_79 w_80 =>
  LdN 6 w_80 p2_1 fun t59_81 w_82 =>
  Pu (faV 0 x3_3) fun t60_83 =>
  Ld w_82 t60_83 fun t61_84 w_85 =>
  Pu (faV 1 x3_3) fun t62_86 =>
  Ld w_85 t62_86 fun t63_87 w_88 =>
  Cl Tryd.prog 35 [t59_81, t61_84, t63_87] w_88 fun t64_89 w_90 =>
  Pu (extV t64_89 0) fun t65_91 =>
  Pu (extV t64_89 1) fun t66_92 =>
  New #[(Value.int IntKind.i64 0), (Value.int IntKind.i64 0), (Value.int IntKind.i64 0), (Value.int IntKind.i64 0), (Value.string (ByteArray.mk #[])), (Value.slice none 0 0)] 24 w_90 fun kv14_93 w_94 =>
  St 6 w_94 kv14_93 t65_91 fun u_95 w_96 =>
  LdN 6 w_96 p2_1 fun t68_97 w_98 =>
  Pu (faV 0 x3_3) fun t69_99 =>
  Ld w_98 t69_99 fun t70_100 w_101 =>
  Cl Tryd.prog 36 [t68_97, t70_100] w_101 fun t71_102 w_103 =>
  Pu (extV t71_102 0) fun t72_104 =>
  Pu (extV t71_102 1) fun t73_105 =>
  New #[(Value.int IntKind.i64 0), (Value.int IntKind.i64 0), (Value.int IntKind.i64 0), (Value.int IntKind.i64 0), (Value.string (ByteArray.mk #[])), (Value.slice none 0 0)] 24 w_103 fun m16_106 w_107 =>
  St 6 w_107 m16_106 t72_104 fun u_108 w_109 =>
  Cl Tryd.prog 17 [] w_109 fun t74_110 w_111 =>
  Gd (isB true t74_110) (fun kk => LdN 6 w_111 a6_25 kk) w_111 fun t76_112 w_113 =>
  Gd (isB true t74_110) (fun kk => LdN 6 w_113 i12_77 kk) w_113 fun t77_114 w_115 =>
  Gd (isB true t74_110) (fun kk => Cl Tryd.prog 29 [t76_112, t77_114] w_115 kk) w_115 fun t78_116 w_117 =>
  Pu (pickV t74_110 t78_116 (Value.bool false)) fun t79_118 =>
  Gd (isB true t79_118) (fun kk => kk t28_24 w_117) w_117 fun t81_119 w_120 =>
  Gd (isB true t79_118) (fun kk => kk t57_76 w_120) w_120 fun t82_121 w_122 =>
  Gd (isB true t79_118) (fun kk => Pu (binV (TypeDesc.int IntKind.i64) .eql t81_119 t82_121) fun vv => kk vv w_122) w_122 fun t83_123 w_124 =>
  Pu (pickV t79_118 t83_123 (Value.bool false)) fun t84_125 =>
  Gd (isB true t84_125) (fun kk => LdN 6 w_124 b8_41 kk) w_124 fun t86_126 w_127 =>
  Gd (isB true t84_125) (fun kk => LdN 6 w_127 kv14_93 kk) w_127 fun t87_128 w_129 =>
  Gd (isB true t84_125) (fun kk => Cl Tryd.prog 29 [t86_126, t87_128] w_129 kk) w_129 fun t88_130 w_131 =>
  Pu (pickV t84_125 t88_130 (Value.bool false)) fun t89_132 =>
  Gd (isB true t89_132) (fun kk => kk t37_40 w_131) w_131 fun t91_133 w_134 =>
  Gd (isB true t89_132) (fun kk => kk t66_92 w_134) w_134 fun t92_135 w_136 =>
  Gd (isB true t89_132) (fun kk => Pu (binV (TypeDesc.int IntKind.i64) .eql t91_133 t92_135) fun vv => kk vv w_136) w_136 fun t93_137 w_138 =>
  Pu (pickV t89_132 t93_137 (Value.bool false)) fun t94_139 =>
  Gd (isB true t94_139) (fun kk => LdN 6 w_138 c10_54 kk) w_138 fun t96_140 w_141 =>
  Gd (isB true t94_139) (fun kk => LdN 6 w_141 m16_106 kk) w_141 fun t97_142 w_143 =>
  Gd (isB true t94_139) (fun kk => Cl Tryd.prog 29 [t96_140, t97_142] w_143 kk) w_143 fun t98_144 w_145 =>
  Pu (pickV t94_139 t98_144 (Value.bool false)) fun t99_146 =>
  Gd (isB true t99_146) (fun kk => kk t44_53 w_145) w_145 fun t101_147 w_148 =>
  Gd (isB true t99_146) (fun kk => kk t73_105 w_148) w_148 fun t102_149 w_150 =>
  Gd (isB true t99_146) (fun kk => Pu (binV (TypeDesc.int IntKind.i64) .eql t101_147 t102_149) fun vv => kk vv w_150) w_150 fun t103_151 w_152 =>
  Pu (pickV t99_146 t103_151 (Value.bool false)) fun t104_153 =>
  k t104_153 w_152)
theorem e10 (k : KV) (p0 : Value) (x1 : Value) (w : World) : K KD Tryd.prog 105 (fun j =>  []) (fun j =>  none) (Tryd.f10.body.getD .skip) (retQ Tryd.prog Tryd.f10 k) (argF [p0, x1]) w = T10 k p0 x1 w := by kernel_rfl
theorem c10 {k : KV} {p0 : Value} {x1 : Value} {w : World} (h : T10 k p0 x1 w) : Cl Tryd.prog 10 [p0, x1] w k :=
  Cl_of_K KD_sound mixed Tryd.func10 (by kernel_rfl) (by kernel_rfl) ((e10 k p0 x1 w).symm ▸ h)

/-- Function 17: almonry/almonrylaw03.awake. -/
def T17 (k : KV) (w : World) : Prop :=
  RunS Tryd.prog (Instr.build 24 #[(0, (Value.int IntKind.i64 5)), (1, (Value.int IntKind.i64 2))]) w fun t10_1 w_2 =>
  Cl Tryd.prog 31 [t10_1, (Value.int IntKind.i64 0), (Value.string (ByteArray.mk #[97, 98]))] w_2 fun t11_3 w_4 =>
  Pu (extV t11_3 0) fun t12_5 =>
  Pu (extV t11_3 1) fun t13_6 =>
  New #[(Value.int IntKind.i64 0), (Value.int IntKind.i64 0), (Value.int IntKind.i64 0), (Value.int IntKind.i64 0), (Value.string (ByteArray.mk #[])), (Value.slice none 0 0)] 24 w_4 fun p1_7 w_8 =>
  St 6 w_8 p1_7 t12_5 fun u_9 w_10 =>
  LdN 6 w_10 p1_7 fun t15_11 w_12 =>
  Cl Tryd.prog 23 [t15_11] w_12 fun t16_13 w_14 =>
  Pu (extV t16_13 0) fun t17_15 =>
  Pu (extV t16_13 1) fun t18_16 =>
  Cl Tryd.prog 27 [t17_15] w_14 fun t21_17 w_18 =>
  Pu (extV t21_17 0) fun t22_19 =>
  Pu (extV t21_17 1) fun t23_20 =>
  New #[(Value.int IntKind.i64 0), (Value.int IntKind.i64 0), (Value.int IntKind.i64 0), (Value.int IntKind.i64 0), (Value.string (ByteArray.mk #[])), (Value.slice none 0 0)] 24 w_18 fun q5_21 w_22 =>
  St 6 w_22 q5_21 t22_19 fun u_23 w_24 =>
  RunS Tryd.prog (Instr.makeSlice 38 (Value.int IntKind.i64 512) (Value.int IntKind.i64 512)) w_24 fun t25_25 w_26 =>
  RunS Tryd.prog (convert 38 9 t25_25) w_26 fun t26_27 w_28 =>
  Cl Tryd.prog 27 [t26_27] w_28 fun t27_29 w_30 =>
  Pu (extV t27_29 0) fun t28_31 =>
  Pu (extV t27_29 1) fun t29_32 =>
  New #[(Value.int IntKind.i64 0), (Value.int IntKind.i64 0), (Value.int IntKind.i64 0), (Value.int IntKind.i64 0), (Value.string (ByteArray.mk #[])), (Value.slice none 0 0)] 24 w_30 fun t7_33 w_34 =>
  St 6 w_34 t7_33 t28_31 fun u_35 w_36 =>
  Pu (binV (TypeDesc.int IntKind.i64) .eql t13_6 (Value.int IntKind.i64 0)) fun t31_37 =>
  Gd (isB true t31_37) (fun kk => kk t18_16 w_36) w_36 fun t33_38 w_39 =>
  Gd (isB true t31_37) (fun kk => Pu (binV (TypeDesc.int IntKind.i64) .eql t33_38 (Value.int IntKind.i64 0)) fun vv => kk vv w_39) w_39 fun t34_40 w_41 =>
  Pu (pickV t31_37 t34_40 (Value.bool false)) fun t35_42 =>
  Gd (isB true t35_42) (fun kk => kk t23_20 w_41) w_41 fun t37_43 w_44 =>
  Gd (isB true t35_42) (fun kk => Pu (binV (TypeDesc.int IntKind.i64) .eql t37_43 (Value.int IntKind.i64 0)) fun vv => kk vv w_44) w_44 fun t38_45 w_46 =>
  Pu (pickV t35_42 t38_45 (Value.bool false)) fun t39_47 =>
  Gd (isB true t39_47) (fun kk => LdN 6 w_46 p1_7 kk) w_46 fun t41_48 w_49 =>
  Gd (isB true t39_47) (fun kk => LdN 6 w_49 q5_21 kk) w_49 fun t42_50 w_51 =>
  Gd (isB true t39_47) (fun kk => Cl Tryd.prog 30 [t41_48, t42_50] w_51 kk) w_51 fun t43_52 w_53 =>
  Pu (pickV t39_47 t43_52 (Value.bool false)) fun t44_54 =>
  Gd (isB true t44_54) (fun kk => kk t17_15 w_53) w_53 fun t46_55 w_56 =>
  Gd (isB true t44_54) (fun kk => Pu (lenS t46_55) fun vv => kk vv w_56) w_56 fun t47_57 w_58 =>
  Gd (isB true t44_54) (fun kk => Pu (binV (TypeDesc.int IntKind.i64) .eql t47_57 (Value.int IntKind.i64 512)) fun vv => kk vv w_58) w_58 fun t48_59 w_60 =>
  Pu (pickV t44_54 t48_59 (Value.bool false)) fun t49_61 =>
  Gd (isB true t49_61) (fun kk => kk t17_15 w_60) w_60 fun t51_62 w_63 =>
  Gd (isB true t49_61) (fun kk => Pu (slS t51_62 (some (Value.int IntKind.i64 11)) (some (Value.int IntKind.i64 13))) fun vv => kk vv w_63) w_63 fun t52_64 w_65 =>
  Gd (isB true t49_61) (fun kk => Pu (binV TypeDesc.string .eql t52_64 (Value.string (ByteArray.mk #[5, 2]))) fun vv => kk vv w_65) w_65 fun t53_66 w_67 =>
  Pu (pickV t49_61 t53_66 (Value.bool false)) fun t54_68 =>
  Gd (isB true t54_68) (fun kk => LdN 6 w_67 p1_7 kk) w_67 fun t56_69 w_70 =>
  Gd (isB true t54_68) (fun kk => Cl Tryd.prog 18 [t56_69] w_70 kk) w_70 fun t57_71 w_72 =>
  Gd (isB true t54_68) (fun kk => Pu (binV (TypeDesc.int IntKind.i64) .eql t57_71 (Value.int IntKind.i64 24)) fun vv => kk vv w_72) w_72 fun t58_73 w_74 =>
  Pu (pickV t54_68 t58_73 (Value.bool false)) fun t59_75 =>
  Gd (isB true t59_75) (fun kk => LdN 6 w_74 p1_7 kk) w_74 fun t61_76 w_77 =>
  Gd (isB true t59_75) (fun kk => Cl Tryd.prog 20 [t61_76] w_77 kk) w_77 fun t62_78 w_79 =>
  Gd (isB true t59_75) (fun kk => Pu (binV (TypeDesc.int IntKind.i64) .eql t62_78 (Value.int IntKind.i64 486)) fun vv => kk vv w_79) w_79 fun t63_80 w_81 =>
  Pu (pickV t59_75 t63_80 (Value.bool false)) fun t64_82 =>
  Gd (isB true t64_82) (fun kk => kk t29_32 w_81) w_81 fun t66_83 w_84 =>
  Gd (isB true t64_82) (fun kk => Pu (binV (TypeDesc.int IntKind.i64) .eql t66_83 (Value.int IntKind.i64 30)) fun vv => kk vv w_84) w_84 fun t67_85 w_86 =>
  Pu (pickV t64_82 t67_85 (Value.bool false)) fun t68_87 =>
  k t68_87 w_86
theorem e17 (k : KV) (w : World) : K KD Tryd.prog 69 (fun j =>  []) (fun j =>  none) (Tryd.f17.body.getD .skip) (retQ Tryd.prog Tryd.f17 k) (argF []) w = T17 k  w := by kernel_rfl
theorem c17 {k : KV} {w : World} (h : T17 k  w) : Cl Tryd.prog 17 [] w k :=
  Cl_of_K KD_sound mixed Tryd.func17 (by kernel_rfl) (by kernel_rfl) ((e17 k  w).symm ▸ h)

/-- Function 18: almonry/page.Size. -/
def T18 (k : KV) (p0 : Value) (w : World) : Prop :=
  New (Value.cells p0) 24 w fun p1_1 w_2 =>
  Pu (faV 4 p1_1) fun t6_3 =>
  Ld w_2 t6_3 fun t7_4 w_5 =>
  Pu (lenS t7_4) fun t8_6 =>
  Pu (binV (TypeDesc.int IntKind.i64) .add (Value.int IntKind.i64 20) t8_6) fun t9_7 =>
  Pu (faV 5 p1_1) fun t10_8 =>
  Ld w_5 t10_8 fun t11_9 w_10 =>
  Pu (lenV t11_9) fun t12_11 =>
  ∃ (I_12 : List Value → World → Prop) (m_13 : List Value → World → Nat), I_12 [t9_7, (Value.int IntKind.i64 0)] w_10 ∧
  ∀ (g_28 : Fr) (w_27 : World), ∀ n3_15 : Value, ∀ t13_17 : Value, I_12 [n3_15, t13_17] w_27 →
    (Pu (binV (TypeDesc.int IntKind.i64) .lss t13_17 t12_11) fun t14_29 =>
    IfB t14_29
      (Pu (ixV 1 t11_9 t13_17) fun t15_30 =>
    Ld w_27 t15_30 fun t16_31 w_32 =>
    Pu (lenS t16_31) fun t19_33 =>
    Pu (binV (TypeDesc.int IntKind.i64) .add (Value.int IntKind.i64 2) t19_33) fun t20_34 =>
    Pu (binV (TypeDesc.int IntKind.i64) .add n3_15 t20_34) fun t21_35 =>
    Pu (binV (TypeDesc.int IntKind.i64) .add t13_17 (Value.int IntKind.i64 1)) fun t22_36 =>
    I_12 [t21_35, t22_36] w_32 ∧ m_13 [t21_35, t22_36] w_32 < m_13 [n3_15, t13_17] w_27)
      (k n3_15 w_27))
theorem e18 (k : KV) (p0 : Value) (w : World) : K KD Tryd.prog 24 (fun j => bif Nat.beq j 3 then [3, 13] else []) (fun j =>  none) (Tryd.f18.body.getD .skip) (retQ Tryd.prog Tryd.f18 k) (argF [p0]) w = T18 k p0 w := by kernel_rfl
theorem c18 {k : KV} {p0 : Value} {w : World} (h : T18 k p0 w) : Cl Tryd.prog 18 [p0] w k :=
  Cl_of_K KD_sound mixed Tryd.func18 (by kernel_rfl) (by kernel_rfl) ((e18 k p0 w).symm ▸ h)

/-- Function 19: almonry/almonryref03.Size. -/
def T19 (k : KV) (p0 : Value) (w : World) : Prop :=
  New (Value.cells p0) 24 w fun p1_1 w_2 =>
  Pu (faV 4 p1_1) fun t5_3 =>
  Ld w_2 t5_3 fun t6_4 w_5 =>
  Pu (lenS t6_4) fun t7_6 =>
  Pu (binV (TypeDesc.int IntKind.i64) .add (Value.int IntKind.i64 20) t7_6) fun t8_7 =>
  ∃ (I_8 : List Value → World → Prop) (m_9 : List Value → World → Nat), I_8 [t8_7, (Value.int IntKind.i64 0)] w_5 ∧
  ∀ (g_30 : Fr) (w_29 : World), ∀ n3_11 : Value, ∀ i4_12 : Value, I_8 [n3_11, i4_12] w_29 →
    (Pu (faV 5 p1_1) fun t10_31 =>
    Ld w_29 t10_31 fun t11_32 w_33 =>
    Pu (lenV t11_32) fun t12_34 =>
    Pu (binV (TypeDesc.int IntKind.i64) .lss i4_12 t12_34) fun t13_35 =>
    IfB t13_35
      (Pu (binV (TypeDesc.int IntKind.i64) .add n3_11 (Value.int IntKind.i64 2)) fun t17_36 =>
    Pu (faV 5 p1_1) fun t18_37 =>
    Ld w_33 t18_37 fun t19_38 w_39 =>
    Pu (ixV 1 t19_38 i4_12) fun t21_40 =>
    Ld w_39 t21_40 fun t22_41 w_42 =>
    Pu (lenS t22_41) fun t23_43 =>
    Pu (binV (TypeDesc.int IntKind.i64) .add t17_36 t23_43) fun t24_44 =>
    Pu (binV (TypeDesc.int IntKind.i64) .add i4_12 (Value.int IntKind.i64 1)) fun t15_45 =>
    I_8 [t24_44, t15_45] w_42 ∧ m_9 [t24_44, t15_45] w_42 < m_9 [n3_11, i4_12] w_29)
      (k n3_11 w_33))
theorem e19 (k : KV) (p0 : Value) (w : World) : K KD Tryd.prog 26 (fun j => bif Nat.beq j 3 then [3, 4] else []) (fun j =>  none) (Tryd.f19.body.getD .skip) (retQ Tryd.prog Tryd.f19 k) (argF [p0]) w = T19 k p0 w := by kernel_rfl
theorem c19 {k : KV} {p0 : Value} {w : World} (h : T19 k p0 w) : Cl Tryd.prog 19 [p0] w k :=
  Cl_of_K KD_sound mixed Tryd.func19 (by kernel_rfl) (by kernel_rfl) ((e19 k p0 w).symm ▸ h)

/-- Function 20: almonry/page.Room. -/
def T20 (k : KV) (p0 : Value) (w : World) : Prop :=
  New (Value.cells p0) 24 w fun p1_1 w_2 =>
  LdN 6 w_2 p1_1 fun t4_3 w_4 =>
  Cl Tryd.prog 18 [t4_3] w_4 fun t5_5 w_6 =>
  Pu (binV (TypeDesc.int IntKind.i64) .sub (Value.int IntKind.i64 512) t5_5) fun t6_7 =>
  Pu (binV (TypeDesc.int IntKind.i64) .sub t6_7 (Value.int IntKind.i64 2)) fun t7_8 =>
  Pu (binV (TypeDesc.int IntKind.i64) .lss t7_8 (Value.int IntKind.i64 0)) fun t9_9 =>
  Gd (isB false t9_9) (fun kk => Pu (faV 5 p1_1) fun vv => kk vv w_6) w_6 fun t11_10 w_11 =>
  Gd (isB false t9_9) (fun kk => Ld w_11 t11_10 kk) w_11 fun t12_12 w_13 =>
  Gd (isB false t9_9) (fun kk => Pu (lenV t12_12) fun vv => kk vv w_13) w_13 fun t13_14 w_15 =>
  Gd (isB false t9_9) (fun kk => Pu (binV (TypeDesc.int IntKind.i64) .geq t13_14 (Value.int IntKind.i64 255)) fun vv => kk vv w_15) w_15 fun t14_16 w_17 =>
  Pu (pickV t9_9 (Value.bool true) t14_16) fun t15_18 =>
  IfB t15_18
    (k (Value.int IntKind.i64 (-1)) w_17)
    (k t7_8 w_17)
theorem e20 (k : KV) (p0 : Value) (w : World) : K KD Tryd.prog 17 (fun j =>  []) (fun j =>  none) (Tryd.f20.body.getD .skip) (retQ Tryd.prog Tryd.f20 k) (argF [p0]) w = T20 k p0 w := by kernel_rfl
theorem c20 {k : KV} {p0 : Value} {w : World} (h : T20 k p0 w) : Cl Tryd.prog 20 [p0] w k :=
  Cl_of_K KD_sound mixed Tryd.func20 (by kernel_rfl) (by kernel_rfl) ((e20 k p0 w).symm ▸ h)

/-- Function 21: almonry/almonryref03.Room. -/
def T21 (k : KV) (p0 : Value) (w : World) : Prop :=
  New (Value.cells p0) 24 w fun p1_1 w_2 =>
  LdN 6 w_2 p1_1 fun t4_3 w_4 =>
  Cl Tryd.prog 19 [t4_3] w_4 fun t5_5 w_6 =>
  Pu (binV (TypeDesc.int IntKind.i64) .sub (Value.int IntKind.i64 510) t5_5) fun t6_7 =>
  Pu (binV (TypeDesc.int IntKind.i64) .lss t6_7 (Value.int IntKind.i64 0)) fun t8_8 =>
  Gd (isB false t8_8) (fun kk => Pu (faV 5 p1_1) fun vv => kk vv w_6) w_6 fun t10_9 w_10 =>
  Gd (isB false t8_8) (fun kk => Ld w_10 t10_9 kk) w_10 fun t11_11 w_12 =>
  Gd (isB false t8_8) (fun kk => Pu (lenV t11_11) fun vv => kk vv w_12) w_12 fun t12_13 w_14 =>
  Gd (isB false t8_8) (fun kk => Pu (binV (TypeDesc.int IntKind.i64) .geq t12_13 (Value.int IntKind.i64 255)) fun vv => kk vv w_14) w_14 fun t13_15 w_16 =>
  Pu (pickV t8_8 (Value.bool true) t13_15) fun t14_17 =>
  IfB t14_17
    (k (Value.int IntKind.i64 (-1)) w_16)
    (k t6_7 w_16)
theorem e21 (k : KV) (p0 : Value) (w : World) : K KD Tryd.prog 16 (fun j =>  []) (fun j =>  none) (Tryd.f21.body.getD .skip) (retQ Tryd.prog Tryd.f21 k) (argF [p0]) w = T21 k p0 w := by kernel_rfl
theorem c21 {k : KV} {p0 : Value} {w : World} (h : T21 k p0 w) : Cl Tryd.prog 21 [p0] w k :=
  Cl_of_K KD_sound mixed Tryd.func21 (by kernel_rfl) (by kernel_rfl) ((e21 k p0 w).symm ▸ h)

/-- Function 22: almonry/almonrylaw03.Lent. -/
def T22 (k : KV) (p0 : Value) (w : World) : Prop :=
  New (Value.cells p0) 24 w fun p1_1 w_2 =>
  New #[(Value.int IntKind.i64 0), (Value.int IntKind.i64 0), (Value.int IntKind.i64 0), (Value.int IntKind.i64 0), (Value.string (ByteArray.mk #[])), (Value.slice none 0 0)] 24 w_2 fun t2_3 w_4 =>
  Pu (faV 5 p1_1) fun t5_5 =>
  Ld w_4 t5_5 fun t6_6 w_7 =>
  RunS Tryd.prog (Builtin.append_ #[22, 22] 22 #[(Value.slice none 0 0), t6_6]) w_7 fun t7_8 w_9 =>
  RunS Tryd.prog (Instr.buildSlice 22 1 #[(0, (Value.string (ByteArray.mk #[109, 97, 114, 107])))]) w_9 fun t9_10 w_11 =>
  RunS Tryd.prog (Builtin.append_ #[22, 22] 22 #[t7_8, t9_10]) w_11 fun t10_12 w_13 =>
  Pu (lenV t10_12) fun t13_14 =>
  Pu (binV (TypeDesc.int IntKind.i64) .sub t13_14 (Value.int IntKind.i64 1)) fun t14_15 =>
  Pu (slV 1 t10_12 none (some t14_15) none) fun t15_16 =>
  Pu (faV 5 p1_1) fun t16_17 =>
  St 1 w_13 t16_17 t15_16 fun u_18 w_19 =>
  LdN 6 w_19 p1_1 fun t17_20 w_21 =>
  St 6 w_21 t2_3 t17_20 fun u_22 w_23 =>
  RetO (resL Tryd.prog (fun j => bif Nat.beq j 2 then t2_3 else undef) w_23 [(ResultVar.cell 2 24)]) w_23 k
theorem e22 (k : KV) (p0 : Value) (w : World) : K KD Tryd.prog 18 (fun j =>  []) (fun j =>  none) (Tryd.f22.body.getD .skip) (retQ Tryd.prog Tryd.f22 k) (argF [p0]) w = T22 k p0 w := by kernel_rfl
theorem c22 {k : KV} {p0 : Value} {w : World} (h : T22 k p0 w) : Cl Tryd.prog 22 [p0] w k :=
  Cl_of_K KD_sound mixed Tryd.func22 (by kernel_rfl) (by kernel_rfl) ((e22 k p0 w).symm ▸ h)

/-- Function 23: almonry/page.Encode. -/
def T23 (k : KV) (p0 : Value) (w : World) : Prop :=
  New (Value.cells p0) 24 w fun p1_1 w_2 =>
  Jn (fun vs_26 w_25 => ∀ g_27 : Fr, ∃ t7_4 : Value, vs_26 = [t7_4] ∧
      (IfB t7_4
        (k (.tuple #[(Value.string (ByteArray.mk #[])), (Value.int IntKind.i64 4)]) w_25)
        (Jn (fun vs_38 w_37 => ∀ g_39 : Fr, ∃ t28_29 : Value, vs_38 = [t28_29] ∧
              (IfB t28_29
                (k (.tuple #[(Value.string (ByteArray.mk #[])), (Value.int IntKind.i64 3)]) w_37)
                (New #[(Value.pointer none), (Value.slice none 0 0)] 65 w_37 fun b4_40 w_41 =>
  ∃ C_42 : World → Prop, C_42 (World.drew w_41) ∧
  (Pu (faV 0 p1_1) fun t36_43 =>
  Ld (World.drew w_41) t36_43 fun t37_44 w_45 =>
  w_45 = (World.drew w_41) ∧
  Pu (faV 1 p1_1) fun t39_46 =>
  ∃ t40_47, (∀ w_48, C_42 w_48 → Ld w_48 t39_46 fun t40_49 w_50 =>
  t40_49 = t40_47 ∧ w_50 = w_48) ∧
  (Pu (faV 2 p1_1) fun t43_51 =>
  ∃ t44_52, (∀ w_53, C_42 w_53 → Ld w_53 t43_51 fun t44_54 w_55 =>
  t44_54 = t44_52 ∧ w_55 = w_53) ∧
  (Pu (faV 3 p1_1) fun t47_56 =>
  ∃ t48_57, (∀ w_58, C_42 w_58 → Ld w_58 t47_56 fun t48_59 w_60 =>
  t48_59 = t48_57 ∧ w_60 = w_58) ∧
  (Cl Tryd.prog 47 [t37_44, (Value.int IntKind.i64 8)] (World.drew w_41) fun t38_61 w_62 =>
  C_42 w_62 ∧
  (Cl Tryd.prog 47 [t40_47, (Value.int IntKind.i64 1)] w_62 fun t41_63 w_64 =>
  C_42 w_64 ∧
  (Pu (binV TypeDesc.string .add t38_61 t41_63) fun t42_65 =>
  Cl Tryd.prog 47 [t44_52, (Value.int IntKind.i64 1)] w_64 fun t45_66 w_67 =>
  C_42 w_67 ∧
  (Pu (binV TypeDesc.string .add t42_65 t45_66) fun t46_68 =>
  Cl Tryd.prog 47 [t48_57, (Value.int IntKind.i64 4)] w_67 fun t49_69 w_70 =>
  Pu (binV TypeDesc.string .add t46_68 t49_69) fun t50_71 =>
  Cl Tryd.prog 46 [b4_40, t50_71] w_70 fun t51_72 w_73 =>
  ∃ C_74 : World → Prop, C_74 (World.drew w_73) ∧
  (Pu (faV 5 p1_1) fun t52_75 =>
  Ld (World.drew w_73) t52_75 fun t53_76 w_77 =>
  w_77 = (World.drew w_73) ∧
  Pu (lenV t53_76) fun t54_78 =>
  Pu (faV 4 p1_1) fun t56_79 =>
  ∃ t57_80, (∀ w_81, C_74 w_81 → Ld w_81 t56_79 fun t57_82 w_83 =>
  t57_82 = t57_80 ∧ w_83 = w_81) ∧
  (Pu (lenS t57_80) fun t58_84 =>
  Pu (faV 4 p1_1) fun t61_85 =>
  ∃ t62_86, (∀ w_87, C_74 w_87 → Ld w_87 t61_85 fun t62_88 w_89 =>
  t62_88 = t62_86 ∧ w_89 = w_87) ∧
  (Cl Tryd.prog 47 [t54_78, (Value.int IntKind.i64 1)] (World.drew w_73) fun t55_90 w_91 =>
  C_74 w_91 ∧
  (Cl Tryd.prog 47 [t58_84, (Value.int IntKind.i64 1)] w_91 fun t59_92 w_93 =>
  C_74 w_93 ∧
  (Pu (binV TypeDesc.string .add t55_90 t59_92) fun t60_94 =>
  Pu (binV TypeDesc.string .add t60_94 t62_86) fun t63_95 =>
  Cl Tryd.prog 46 [b4_40, t63_95] w_93 fun t64_96 w_97 =>
  Pu (faV 5 p1_1) fun t65_98 =>
  Ld w_97 t65_98 fun t66_99 w_100 =>
  Pu (lenV t66_99) fun t67_101 =>
  ∃ (I_102 : List Value → World → Prop) (m_103 : List Value → World → Nat), I_102 [(Value.int IntKind.i64 0)] w_100 ∧
  ∀ (g_118 : Fr) (w_117 : World), ∀ t68_106 : Value, I_102 [t68_106] w_117 →
    (Pu (binV (TypeDesc.int IntKind.i64) .lss t68_106 t67_101) fun t69_119 =>
    IfB t69_119
      (Pu (ixV 1 t66_99 t68_106) fun t70_120 =>
    Ld w_117 t70_120 fun t71_121 w_122 =>
    Pu (lenS t71_121) fun t73_123 =>
    Cl Tryd.prog 47 [t73_123, (Value.int IntKind.i64 2)] w_122 fun t74_124 w_125 =>
    Pu (binV TypeDesc.string .add t74_124 t71_121) fun t76_126 =>
    Cl Tryd.prog 46 [b4_40, t76_126] w_125 fun t77_127 w_128 =>
    Pu (binV (TypeDesc.int IntKind.i64) .add t68_106 (Value.int IntKind.i64 1)) fun t78_129 =>
    I_102 [t78_129] w_128 ∧ m_103 [t78_129] w_128 < m_103 [t68_106] w_117)
      (Cl Tryd.prog 49 [b4_40] w_117 fun t79_130 w_131 =>
  Pu (binV (TypeDesc.int IntKind.i64) .sub (Value.int IntKind.i64 508) t79_130) fun t80_132 =>
  Cl Tryd.prog 48 [(Value.string (ByteArray.mk #[0])), t80_132] w_131 fun t81_133 w_134 =>
  Cl Tryd.prog 46 [b4_40, t81_133] w_134 fun t82_135 w_136 =>
  Cl Tryd.prog 51 [b4_40] w_136 fun t83_137 w_138 =>
  Cl Tryd.prog 50 [t83_137] w_138 fun t84_139 w_140 =>
  Pu (cvI IntKind.i64 t84_139) fun t85_141 =>
  Cl Tryd.prog 47 [t85_141, (Value.int IntKind.i64 4)] w_140 fun t86_142 w_143 =>
  Cl Tryd.prog 51 [b4_40] w_143 fun t87_144 w_145 =>
  Pu (binV TypeDesc.string .add t86_142 t87_144) fun t88_146 =>
  k (.tuple #[t88_146, (Value.int IntKind.i64 0)]) w_145)))))))))))))))))
            (fun jj_28 =>
            Pu (faV 4 p1_1) fun t29_147 =>
            Ld w_25 t29_147 fun t30_148 w_149 =>
            Pu (lenS t30_148) fun t31_150 =>
            Pu (binV (TypeDesc.int IntKind.i64) .gtr t31_150 (Value.int IntKind.i64 255)) fun t32_151 =>
            IfB t32_151
              (jj_28 [t32_151] w_149)
              (LdN 6 w_149 p1_1 fun t33_152 w_153 =>
                Cl Tryd.prog 45 [t33_152] w_153 fun t34_154 w_155 =>
                Pu (unV .not t34_154) fun t35_156 =>
                jj_28 [t35_156] w_155)))))
    (fun jj_3 =>
    Pu (faV 0 p1_1) fun t8_157 =>
    Ld w_2 t8_157 fun t9_158 w_159 =>
    Pu (faV 2 p1_1) fun t10_160 =>
    Ld w_159 t10_160 fun t11_161 w_162 =>
    Pu (faV 3 p1_1) fun t12_163 =>
    Ld w_162 t12_163 fun t13_164 w_165 =>
    Pu (foldV0 min2V [t9_158, t11_161, t13_164]) fun t14_166 =>
    Pu (binV (TypeDesc.int IntKind.i64) .lss t14_166 (Value.int IntKind.i64 0)) fun t15_167 =>
    IfB t15_167
      (jj_3 [t15_167] w_165)
      (Pu (faV 1 p1_1) fun t16_168 =>
        Ld w_165 t16_168 fun t17_169 w_170 =>
        Pu (binV (TypeDesc.int IntKind.i64) .lss t17_169 (Value.int IntKind.i64 1)) fun t18_171 =>
        IfB t18_171
          (jj_3 [t18_171] w_170)
          (Pu (faV 1 p1_1) fun t19_172 =>
            Ld w_170 t19_172 fun t20_173 w_174 =>
            Pu (binV (TypeDesc.int IntKind.i64) .gtr t20_173 (Value.int IntKind.i64 3)) fun t21_175 =>
            IfB t21_175
              (jj_3 [t21_175] w_174)
              (Pu (faV 2 p1_1) fun t22_176 =>
                Ld w_174 t22_176 fun t23_177 w_178 =>
                Pu (binV (TypeDesc.int IntKind.i64) .gtr t23_177 (Value.int IntKind.i64 255)) fun t24_179 =>
                IfB t24_179
                  (jj_3 [t24_179] w_178)
                  (Pu (faV 3 p1_1) fun t25_180 =>
                    Ld w_178 t25_180 fun t26_181 w_182 =>
                    Pu (binV (TypeDesc.int IntKind.i64) .gtr t26_181 (Value.int IntKind.i64 4294967295)) fun t27_183 =>
                    jj_3 [t27_183] w_182)))))
theorem e23 (k : KV) (p0 : Value) (w : World) : K KD Tryd.prog 89 (fun j => bif Nat.beq j 14 then [68] else []) (fun j => bif Nat.beq j 6 then some [7] else bif Nat.beq j 9 then some [28] else none) (Tryd.f23.body.getD .skip) (retQ Tryd.prog Tryd.f23 k) (argF [p0]) w = T23 k p0 w := by kernel_rfl
theorem c23 {k : KV} {p0 : Value} {w : World} (h : T23 k p0 w) : Cl Tryd.prog 23 [p0] w k :=
  Cl_of_K KD_sound mixed Tryd.func23 (by kernel_rfl) (by kernel_rfl) ((e23 k p0 w).symm ▸ h)

/-- Function 24: almonry/almonryref03.Encode. -/
def T24 (k : KV) (p0 : Value) (w : World) : Prop :=
  New (Value.cells p0) 24 w fun p1_1 w_2 =>
  Pu (faV 0 p1_1) fun t6_3 =>
  Ld w_2 t6_3 fun t7_4 w_5 =>
  Pu (binV (TypeDesc.int IntKind.i64) .lss t7_4 (Value.int IntKind.i64 0)) fun t8_6 =>
  Gd (isB false t8_6) (fun kk => Pu (faV 1 p1_1) fun vv => kk vv w_5) w_5 fun t10_7 w_8 =>
  Gd (isB false t8_6) (fun kk => Ld w_8 t10_7 kk) w_8 fun t11_9 w_10 =>
  Gd (isB false t8_6) (fun kk => Pu (binV (TypeDesc.int IntKind.i64) .lss t11_9 (Value.int IntKind.i64 1)) fun vv => kk vv w_10) w_10 fun t12_11 w_12 =>
  Pu (pickV t8_6 (Value.bool true) t12_11) fun t13_13 =>
  Gd (isB false t13_13) (fun kk => Pu (faV 1 p1_1) fun vv => kk vv w_12) w_12 fun t15_14 w_15 =>
  Gd (isB false t13_13) (fun kk => Ld w_15 t15_14 kk) w_15 fun t16_16 w_17 =>
  Gd (isB false t13_13) (fun kk => Pu (binV (TypeDesc.int IntKind.i64) .gtr t16_16 (Value.int IntKind.i64 3)) fun vv => kk vv w_17) w_17 fun t17_18 w_19 =>
  Pu (pickV t13_13 (Value.bool true) t17_18) fun t18_20 =>
  Gd (isB false t18_20) (fun kk => Pu (faV 2 p1_1) fun vv => kk vv w_19) w_19 fun t20_21 w_22 =>
  Gd (isB false t18_20) (fun kk => Ld w_22 t20_21 kk) w_22 fun t21_23 w_24 =>
  Gd (isB false t18_20) (fun kk => Pu (binV (TypeDesc.int IntKind.i64) .lss t21_23 (Value.int IntKind.i64 0)) fun vv => kk vv w_24) w_24 fun t22_25 w_26 =>
  Pu (pickV t18_20 (Value.bool true) t22_25) fun t23_27 =>
  Gd (isB false t23_27) (fun kk => Pu (faV 2 p1_1) fun vv => kk vv w_26) w_26 fun t25_28 w_29 =>
  Gd (isB false t23_27) (fun kk => Ld w_29 t25_28 kk) w_29 fun t26_30 w_31 =>
  Gd (isB false t23_27) (fun kk => Pu (binV (TypeDesc.int IntKind.i64) .gtr t26_30 (Value.int IntKind.i64 255)) fun vv => kk vv w_31) w_31 fun t27_32 w_33 =>
  Pu (pickV t23_27 (Value.bool true) t27_32) fun t28_34 =>
  Gd (isB false t28_34) (fun kk => Pu (faV 3 p1_1) fun vv => kk vv w_33) w_33 fun t30_35 w_36 =>
  Gd (isB false t28_34) (fun kk => Ld w_36 t30_35 kk) w_36 fun t31_37 w_38 =>
  Gd (isB false t28_34) (fun kk => Pu (binV (TypeDesc.int IntKind.i64) .lss t31_37 (Value.int IntKind.i64 0)) fun vv => kk vv w_38) w_38 fun t32_39 w_40 =>
  Pu (pickV t28_34 (Value.bool true) t32_39) fun t33_41 =>
  Gd (isB false t33_41) (fun kk => Pu (faV 3 p1_1) fun vv => kk vv w_40) w_40 fun t35_42 w_43 =>
  Gd (isB false t33_41) (fun kk => Ld w_43 t35_42 kk) w_43 fun t36_44 w_45 =>
  Gd (isB false t33_41) (fun kk => Pu (binV (TypeDesc.int IntKind.i64) .gtr t36_44 (Value.int IntKind.i64 4294967295)) fun vv => kk vv w_45) w_45 fun t37_46 w_47 =>
  Pu (pickV t33_41 (Value.bool true) t37_46) fun t38_48 =>
  IfB t38_48
    (k (.tuple #[(Value.string (ByteArray.mk #[])), (Value.int IntKind.i64 4)]) w_47)
    (Pu (faV 4 p1_1) fun t39_49 =>
  Ld w_47 t39_49 fun t40_50 w_51 =>
  Pu (lenS t40_50) fun t41_52 =>
  Pu (binV (TypeDesc.int IntKind.i64) .gtr t41_52 (Value.int IntKind.i64 255)) fun t42_53 =>
  Gd (isB false t42_53) (fun kk => Pu (faV 5 p1_1) fun vv => kk vv w_51) w_51 fun t44_54 w_55 =>
  Gd (isB false t42_53) (fun kk => Ld w_55 t44_54 kk) w_55 fun t45_56 w_57 =>
  Gd (isB false t42_53) (fun kk => Pu (lenV t45_56) fun vv => kk vv w_57) w_57 fun t46_58 w_59 =>
  Gd (isB false t42_53) (fun kk => Pu (binV (TypeDesc.int IntKind.i64) .gtr t46_58 (Value.int IntKind.i64 255)) fun vv => kk vv w_59) w_59 fun t47_60 w_61 =>
  Pu (pickV t42_53 (Value.bool true) t47_60) fun t48_62 =>
  Gd (isB false t48_62) (fun kk => LdN 6 w_61 p1_1 kk) w_61 fun t50_63 w_64 =>
  Gd (isB false t48_62) (fun kk => Cl Tryd.prog 19 [t50_63] w_64 kk) w_64 fun t51_65 w_66 =>
  Gd (isB false t48_62) (fun kk => Pu (binV (TypeDesc.int IntKind.i64) .gtr t51_65 (Value.int IntKind.i64 512)) fun vv => kk vv w_66) w_66 fun t52_67 w_68 =>
  Pu (pickV t48_62 (Value.bool true) t52_67) fun t53_69 =>
  IfB t53_69
    (k (.tuple #[(Value.string (ByteArray.mk #[])), (Value.int IntKind.i64 3)]) w_68)
    (∃ C_70 : World → Prop, C_70 (World.drew w_68) ∧
  (Pu (faV 0 p1_1) fun t54_71 =>
  Ld (World.drew w_68) t54_71 fun t55_72 w_73 =>
  w_73 = (World.drew w_68) ∧
  Pu (faV 1 p1_1) fun t57_74 =>
  ∃ t58_75, (∀ w_76, C_70 w_76 → Ld w_76 t57_74 fun t58_77 w_78 =>
  t58_77 = t58_75 ∧ w_78 = w_76) ∧
  (Pu (faV 2 p1_1) fun t61_79 =>
  ∃ t62_80, (∀ w_81, C_70 w_81 → Ld w_81 t61_79 fun t62_82 w_83 =>
  t62_82 = t62_80 ∧ w_83 = w_81) ∧
  (Pu (faV 3 p1_1) fun t65_84 =>
  ∃ t66_85, (∀ w_86, C_70 w_86 → Ld w_86 t65_84 fun t66_87 w_88 =>
  t66_87 = t66_85 ∧ w_88 = w_86) ∧
  (Pu (faV 5 p1_1) fun t69_89 =>
  ∃ t70_90, (∀ w_91, C_70 w_91 → Ld w_91 t69_89 fun t70_92 w_93 =>
  t70_92 = t70_90 ∧ w_93 = w_91) ∧
  (Pu (lenV t70_90) fun t71_94 =>
  Pu (faV 4 p1_1) fun t74_95 =>
  ∃ t75_96, (∀ w_97, C_70 w_97 → Ld w_97 t74_95 fun t75_98 w_99 =>
  t75_98 = t75_96 ∧ w_99 = w_97) ∧
  (Pu (lenS t75_96) fun t76_100 =>
  Pu (faV 4 p1_1) fun t79_101 =>
  ∃ t80_102, (∀ w_103, C_70 w_103 → Ld w_103 t79_101 fun t80_104 w_105 =>
  t80_104 = t80_102 ∧ w_105 = w_103) ∧
  (Cl Tryd.prog 52 [t55_72, (Value.int IntKind.i64 8)] (World.drew w_68) fun t56_106 w_107 =>
  C_70 w_107 ∧
  (Cl Tryd.prog 52 [t58_75, (Value.int IntKind.i64 1)] w_107 fun t59_108 w_109 =>
  C_70 w_109 ∧
  (Pu (binV TypeDesc.string .add t56_106 t59_108) fun t60_110 =>
  Cl Tryd.prog 52 [t62_80, (Value.int IntKind.i64 1)] w_109 fun t63_111 w_112 =>
  C_70 w_112 ∧
  (Pu (binV TypeDesc.string .add t60_110 t63_111) fun t64_113 =>
  Cl Tryd.prog 52 [t66_85, (Value.int IntKind.i64 4)] w_112 fun t67_114 w_115 =>
  C_70 w_115 ∧
  (Pu (binV TypeDesc.string .add t64_113 t67_114) fun t68_116 =>
  Cl Tryd.prog 52 [t71_94, (Value.int IntKind.i64 1)] w_115 fun t72_117 w_118 =>
  C_70 w_118 ∧
  (Pu (binV TypeDesc.string .add t68_116 t72_117) fun t73_119 =>
  Cl Tryd.prog 52 [t76_100, (Value.int IntKind.i64 1)] w_118 fun t77_120 w_121 =>
  C_70 w_121 ∧
  (Pu (binV TypeDesc.string .add t73_119 t77_120) fun t78_122 =>
  Pu (binV TypeDesc.string .add t78_122 t80_102) fun t81_123 =>
  ∃ (I_124 : List Value → World → Prop) (m_125 : List Value → World → Nat), I_124 [t81_123, (Value.int IntKind.i64 0)] w_121 ∧
  ∀ (g_152 : Fr) (w_151 : World), ∀ s4_127 : Value, ∀ i5_128 : Value, I_124 [s4_127, i5_128] w_151 →
    (Pu (faV 5 p1_1) fun t83_153 =>
    Ld w_151 t83_153 fun t84_154 w_155 =>
    Pu (lenV t84_154) fun t85_156 =>
    Pu (binV (TypeDesc.int IntKind.i64) .lss i5_128 t85_156) fun t86_157 =>
    IfB t86_157
      (∃ C_158 : World → Prop, C_158 (World.drew w_155) ∧
    (Pu (faV 5 p1_1) fun t90_159 =>
    Ld (World.drew w_155) t90_159 fun t91_160 w_161 =>
    w_161 = (World.drew w_155) ∧
    Pu (ixV 1 t91_160 i5_128) fun t93_162 =>
    Ld (World.drew w_155) t93_162 fun t94_163 w_164 =>
    w_164 = (World.drew w_155) ∧
    Pu (lenS t94_163) fun t95_165 =>
    Pu (faV 5 p1_1) fun t98_166 =>
    ∃ t99_167, (∀ w_168, C_158 w_168 → Ld w_168 t98_166 fun t99_169 w_170 =>
    t99_169 = t99_167 ∧ w_170 = w_168) ∧
    (Pu (ixV 1 t99_167 i5_128) fun t101_171 =>
    ∃ t102_172, (∀ w_173, C_158 w_173 → Ld w_173 t101_171 fun t102_174 w_175 =>
    t102_174 = t102_172 ∧ w_175 = w_173) ∧
    (Cl Tryd.prog 52 [t95_165, (Value.int IntKind.i64 2)] (World.drew w_155) fun t96_176 w_177 =>
    C_158 w_177 ∧
    (Pu (binV TypeDesc.string .add s4_127 t96_176) fun t97_178 =>
    Pu (binV TypeDesc.string .add t97_178 t102_172) fun t103_179 =>
    Pu (binV (TypeDesc.int IntKind.i64) .add i5_128 (Value.int IntKind.i64 1)) fun t88_180 =>
    I_124 [t103_179, t88_180] w_177 ∧ m_125 [t103_179, t88_180] w_177 < m_125 [s4_127, i5_128] w_151)))))
      (Pu (lenS s4_127) fun t106_181 =>
  Pu (binV (TypeDesc.int IntKind.i64) .sub (Value.int IntKind.i64 508) t106_181) fun t107_182 =>
  RunS Tryd.prog (Instr.makeSlice 38 t107_182 t107_182) w_155 fun t108_183 w_184 =>
  RunS Tryd.prog (convert 38 9 t108_183) w_184 fun t109_185 w_186 =>
  Pu (binV TypeDesc.string .add s4_127 t109_185) fun t110_187 =>
  Cl Tryd.prog 53 [t110_187] w_186 fun t112_188 w_189 =>
  Pu (cvI IntKind.i64 t112_188) fun t113_190 =>
  Cl Tryd.prog 52 [t113_190, (Value.int IntKind.i64 4)] w_189 fun t114_191 w_192 =>
  Pu (binV TypeDesc.string .add t114_191 t110_187) fun t116_193 =>
  k (.tuple #[t116_193, (Value.int IntKind.i64 0)]) w_192)))))))))))))))))
theorem e24 (k : KV) (p0 : Value) (w : World) : K KD Tryd.prog 117 (fun j => bif Nat.beq j 7 then [4, 5] else []) (fun j =>  none) (Tryd.f24.body.getD .skip) (retQ Tryd.prog Tryd.f24 k) (argF [p0]) w = T24 k p0 w := by kernel_rfl
theorem c24 {k : KV} {p0 : Value} {w : World} (h : T24 k p0 w) : Cl Tryd.prog 24 [p0] w k :=
  Cl_of_K KD_sound mixed Tryd.func24 (by kernel_rfl) (by kernel_rfl) ((e24 k p0 w).symm ▸ h)

/-- Function 25: almonry/almonrylaw03.kept. -/
def T25 (k : KV) (own0 : Value) (p1 : Value) (w : World) : Prop :=
  New (Value.cells own0) 24 w fun own2_1 w_2 =>
  New (Value.cells p1) 24 w_2 fun p3_3 w_4 =>
  Pu (faV 5 p3_3) fun t9_5 =>
  Ld w_4 t9_5 fun t10_6 w_7 =>
  Pu (lenV t10_6) fun t11_8 =>
  Pu (faV 5 own2_1) fun t12_9 =>
  Ld w_7 t12_9 fun t13_10 w_11 =>
  Pu (binV (TypeDesc.int IntKind.i64) .add t11_8 (Value.int IntKind.i64 1)) fun t15_12 =>
  Pu (slV 1 t13_10 none (some t15_12) none) fun t16_13 =>
  LdN 6 w_11 own2_1 fun t17_14 w_15 =>
  LdN 6 w_15 p3_3 fun t18_16 w_17 =>
  Cl Tryd.prog 29 [t17_14, t18_16] w_17 fun t19_18 w_19 =>
  Gd (isB true t19_18) (fun kk => kk t16_13 w_19) w_19 fun t21_20 w_21 =>
  Gd (isB true t19_18) (fun kk => kk t11_8 w_21) w_21 fun t22_22 w_23 =>
  Gd (isB true t19_18) (fun kk => Pu (ixV 1 t21_20 t22_22) fun vv => kk vv w_23) w_23 fun t23_24 w_25 =>
  Gd (isB true t19_18) (fun kk => Ld w_25 t23_24 kk) w_25 fun t24_26 w_27 =>
  Gd (isB true t19_18) (fun kk => Pu (binV TypeDesc.string .eql t24_26 (Value.string (ByteArray.mk #[109, 97, 114, 107]))) fun vv => kk vv w_27) w_27 fun t25_28 w_29 =>
  Pu (pickV t19_18 t25_28 (Value.bool false)) fun t26_30 =>
  ∃ (I_31 : List Value → World → Prop) (m_32 : List Value → World → Nat), I_31 [(Value.int IntKind.i64 0)] w_29 ∧
  ∀ (g_44 : Fr) (w_43 : World), ∀ i8_34 : Value, I_31 [i8_34] w_43 →
    (Pu (binV (TypeDesc.int IntKind.i64) .leq i8_34 t11_8) fun t29_45 =>
    IfB t29_45
      (Pu (ixV 1 t16_13 i8_34) fun t34_46 =>
    St 1 w_43 t34_46 (Value.string (ByteArray.mk #[111, 118, 101, 114])) fun u_47 w_48 =>
    Pu (binV (TypeDesc.int IntKind.i64) .add i8_34 (Value.int IntKind.i64 1)) fun t31_49 =>
    I_31 [t31_49] w_48 ∧ m_32 [t31_49] w_48 < m_32 [i8_34] w_43)
      (k t26_30 w_43))
theorem e25 (k : KV) (own0 : Value) (p1 : Value) (w : World) : K KD Tryd.prog 36 (fun j => bif Nat.beq j 5 then [8] else []) (fun j =>  none) (Tryd.f25.body.getD .skip) (retQ Tryd.prog Tryd.f25 k) (argF [own0, p1]) w = T25 k own0 p1 w := by kernel_rfl
theorem c25 {k : KV} {own0 : Value} {p1 : Value} {w : World} (h : T25 k own0 p1 w) : Cl Tryd.prog 25 [own0, p1] w k :=
  Cl_of_K KD_sound mixed Tryd.func25 (by kernel_rfl) (by kernel_rfl) ((e25 k own0 p1 w).symm ▸ h)

/-- Function 26: almonry/almonrylaw03.fixed. -/
def T26 (k : KV) (data0 : Value) (right1 : Value) (w : World) : Prop :=
  Pu (lenS data0) fun t6_1 =>
  Pu (binV (TypeDesc.int IntKind.i64) .neq t6_1 (Value.int IntKind.i64 512)) fun t7_2 =>
  Gd (isB false t7_2) (fun kk => kk right1 w) w fun t9_3 w_4 =>
  Gd (isB false t7_2) (fun kk => Pu (unV .not t9_3) fun vv => kk vv w_4) w_4 fun t10_5 w_6 =>
  Pu (pickV t7_2 (Value.bool true) t10_5) fun t11_7 =>
  IfB t11_7
    (k data0 w_6)
    (Pu (slS data0 (some (Value.int IntKind.i64 4)) none) fun t14_8 =>
  Pu (slS data0 (some (Value.int IntKind.i64 4)) none) fun t19_9 =>
  Cl Tryd.prog 53 [t14_8] (World.drew w_6) fun t15_10 w_11 =>
  Pu (cvI IntKind.i64 t15_10) fun t16_12 =>
  Cl Tryd.prog 52 [t16_12, (Value.int IntKind.i64 4)] w_11 fun t17_13 w_14 =>
  Pu (binV TypeDesc.string .add t17_13 t19_9) fun t20_15 =>
  k t20_15 w_14)
theorem e26 (k : KV) (data0 : Value) (right1 : Value) (w : World) : K KD Tryd.prog 21 (fun j =>  []) (fun j =>  none) (Tryd.f26.body.getD .skip) (retQ Tryd.prog Tryd.f26 k) (argF [data0, right1]) w = T26 k data0 right1 w := by kernel_rfl
theorem c26 {k : KV} {data0 : Value} {right1 : Value} {w : World} (h : T26 k data0 right1 w) : Cl Tryd.prog 26 [data0, right1] w k :=
  Cl_of_K KD_sound mixed Tryd.func26 (by kernel_rfl) (by kernel_rfl) ((e26 k data0 right1 w).symm ▸ h)

/-- Function 27: almonry/page.Decode. -/
def T27 (k : KV) (data0 : Value) (w : World) : Prop :=
  New #[(Value.int IntKind.i64 0), (Value.int IntKind.i64 0), (Value.int IntKind.i64 0), (Value.int IntKind.i64 0), (Value.string (ByteArray.mk #[])), (Value.slice none 0 0)] 24 w fun t2_1 w_2 =>
  Pu (lenS data0) fun t11_3 =>
  Pu (binV (TypeDesc.int IntKind.i64) .neq t11_3 (Value.int IntKind.i64 512)) fun t12_4 =>
  IfB t12_4
    (RunS Tryd.prog (Instr.build 24 #[]) w_2 fun t13_5 w_6 =>
      St 6 w_6 t2_1 t13_5 fun u_7 w_8 =>
      RetO (resL Tryd.prog (fun j => bif Nat.beq j 2 then t2_1 else bif Nat.beq j 3 then (Value.int IntKind.i64 31) else undef) w_8 [(ResultVar.cell 2 24), (ResultVar.tmp 3)]) w_8 k)
    (Pu (slS data0 (some (Value.int IntKind.i64 4)) none) fun t15_9 =>
  Pu (slS data0 none (some (Value.int IntKind.i64 4))) fun t20_10 =>
  Cl Tryd.prog 50 [t15_9] (World.drew w_2) fun t16_11 w_12 =>
  Pu (cvI IntKind.i64 t16_11) fun t17_13 =>
  Cl Tryd.prog 47 [t17_13, (Value.int IntKind.i64 4)] w_12 fun t18_14 w_15 =>
  Pu (binV TypeDesc.string .neq t18_14 t20_10) fun t21_16 =>
  IfB t21_16
    (RunS Tryd.prog (Instr.build 24 #[]) w_15 fun t22_17 w_18 =>
      St 6 w_18 t2_1 t22_17 fun u_19 w_20 =>
      RetO (resL Tryd.prog (fun j => bif Nat.beq j 2 then t2_1 else bif Nat.beq j 3 then (Value.int IntKind.i64 30) else undef) w_20 [(ResultVar.cell 2 24), (ResultVar.tmp 3)]) w_20 k)
    (Jn (fun vs_37 w_36 => ∀ g_38 : Fr, ∃ p4_22 : Value, vs_37 = [p4_22] ∧
      (Pu (slS data0 (some (Value.int IntKind.i64 20)) none) fun t37_39 =>
      New #[(Value.string (ByteArray.mk #[]))] 9 w_36 fun rest5_40 w_41 =>
      St 1 w_41 rest5_40 t37_39 fun u_42 w_43 =>
      Pu (ixS data0 (Value.int IntKind.i64 19)) fun t40_44 =>
      Pu (cvI IntKind.i64 t40_44) fun t41_45 =>
      Cl Tryd.prog 55 [rest5_40, t41_45] w_43 fun t42_46 w_47 =>
      Pu (extV t42_46 0) fun t43_48 =>
      Pu (extV t42_46 1) fun t44_49 =>
      Pu (faV 4 p4_22) fun t45_50 =>
      St 1 w_47 t45_50 t43_48 fun u_51 w_52 =>
      Pu (ixS data0 (Value.int IntKind.i64 18)) fun t47_53 =>
      Pu (cvI IntKind.i64 t47_53) fun t48_54 =>
      ∃ (I_55 : List Value → World → Prop) (m_56 : List Value → World → Nat), I_55 [(Value.int IntKind.i64 0)] w_52 ∧
      ∀ (g_90 : Fr) (w_89 : World), ∀ t49_63 : Value, I_55 [t49_63] w_89 →
        (Pu (binV (TypeDesc.int IntKind.i64) .lss t49_63 t48_54) fun t50_91 =>
        IfB t50_91
          (Cl Tryd.prog 55 [rest5_40, (Value.int IntKind.i64 2)] w_89 fun t52_92 w_93 =>
        Pu (extV t52_92 0) fun t53_94 =>
        Pu (extV t52_92 1) fun t54_95 =>
        Cl Tryd.prog 54 [t53_94] w_93 fun t57_96 w_97 =>
        Cl Tryd.prog 55 [rest5_40, t57_96] w_97 fun t58_98 w_99 =>
        Pu (extV t58_98 0) fun t59_100 =>
        Pu (extV t58_98 1) fun t60_101 =>
        Pu (unV .not t54_95) fun t62_102 =>
        Gd (isB false t62_102) (fun kk => kk t60_101 w_99) w_99 fun t64_103 w_104 =>
        Gd (isB false t62_102) (fun kk => Pu (unV .not t64_103) fun vv => kk vv w_104) w_104 fun t65_105 w_106 =>
        Pu (pickV t62_102 (Value.bool true) t65_105) fun t66_107 =>
        IfB t66_107
          (RunS Tryd.prog (Instr.build 24 #[]) w_106 fun t67_108 w_109 =>
            St 6 w_109 t2_1 t67_108 fun u_110 w_111 =>
            RetO (resL Tryd.prog (fun j => bif Nat.beq j 2 then t2_1 else bif Nat.beq j 3 then (Value.int IntKind.i64 31) else undef) w_111 [(ResultVar.cell 2 24), (ResultVar.tmp 3)]) w_111 k)
          (Pu (faV 5 p4_22) fun t68_112 =>
        Ld w_106 t68_112 fun t69_113 w_114 =>
        RunS Tryd.prog (Instr.buildSlice 22 1 #[(0, t59_100)]) w_114 fun t71_115 w_116 =>
        RunS Tryd.prog (Builtin.append_ #[22, 22] 22 #[t69_113, t71_115]) w_116 fun t72_117 w_118 =>
        Pu (faV 5 p4_22) fun t73_119 =>
        St 1 w_118 t73_119 t72_117 fun u_120 w_121 =>
        Pu (binV (TypeDesc.int IntKind.i64) .add t49_63 (Value.int IntKind.i64 1)) fun t74_122 =>
        I_55 [t74_122] w_121 ∧ m_56 [t74_122] w_121 < m_56 [t49_63] w_89))
          (Ld w_89 rest5_40 fun t75_123 w_124 =>
      Cl Tryd.prog 56 [t75_123, (Value.string (ByteArray.mk #[0]))] w_124 fun t76_125 w_126 =>
      Pu (binV TypeDesc.string .neq t76_125 (Value.string (ByteArray.mk #[]))) fun t77_127 =>
      Gd (isB false t77_127) (fun kk => kk data0 w_126) w_126 fun t79_128 w_129 =>
      Gd (isB false t77_127) (fun kk => Pu (ixS t79_128 (Value.int IntKind.i64 4)) fun vv => kk vv w_129) w_129 fun t80_130 w_131 =>
      Gd (isB false t77_127) (fun kk => Pu (binV (TypeDesc.int IntKind.u8) .gtr t80_130 (Value.int IntKind.u8 127)) fun vv => kk vv w_131) w_131 fun t81_132 w_133 =>
      Pu (pickV t77_127 (Value.bool true) t81_132) fun t82_134 =>
      Gd (isB false t82_134) (fun kk => Pu (faV 1 p4_22) fun vv => kk vv w_133) w_133 fun t84_135 w_136 =>
      Gd (isB false t82_134) (fun kk => Ld w_136 t84_135 kk) w_136 fun t85_137 w_138 =>
      Gd (isB false t82_134) (fun kk => Pu (binV (TypeDesc.int IntKind.i64) .lss t85_137 (Value.int IntKind.i64 1)) fun vv => kk vv w_138) w_138 fun t86_139 w_140 =>
      Pu (pickV t82_134 (Value.bool true) t86_139) fun t87_141 =>
      Gd (isB false t87_141) (fun kk => Pu (faV 1 p4_22) fun vv => kk vv w_140) w_140 fun t89_142 w_143 =>
      Gd (isB false t87_141) (fun kk => Ld w_143 t89_142 kk) w_143 fun t90_144 w_145 =>
      Gd (isB false t87_141) (fun kk => Pu (binV (TypeDesc.int IntKind.i64) .gtr t90_144 (Value.int IntKind.i64 3)) fun vv => kk vv w_145) w_145 fun t91_146 w_147 =>
      Pu (pickV t87_141 (Value.bool true) t91_146) fun t92_148 =>
      IfB t92_148
        (RunS Tryd.prog (Instr.build 24 #[]) w_147 fun t93_149 w_150 =>
          St 6 w_150 t2_1 t93_149 fun u_151 w_152 =>
          RetO (resL Tryd.prog (fun j => bif Nat.beq j 2 then t2_1 else bif Nat.beq j 3 then (Value.int IntKind.i64 31) else undef) w_152 [(ResultVar.cell 2 24), (ResultVar.tmp 3)]) w_152 k)
        (LdN 6 w_147 p4_22 fun t94_153 w_154 =>
      St 6 w_154 t2_1 t94_153 fun u_155 w_156 =>
      RetO (resL Tryd.prog (fun j => bif Nat.beq j 2 then t2_1 else bif Nat.beq j 3 then (Value.int IntKind.i64 0) else undef) w_156 [(ResultVar.cell 2 24), (ResultVar.tmp 3)]) w_156 k)))))
    (fun jj_21 =>
    ∃ C_157 : World → Prop, C_157 (World.drew w_15) ∧
    (Pu (slS data0 (some (Value.int IntKind.i64 4)) (some (Value.int IntKind.i64 12))) fun t24_158 =>
    Pu (ixS data0 (Value.int IntKind.i64 12)) fun t27_159 =>
    Pu (cvI IntKind.i64 t27_159) fun t28_160 =>
    Pu (ixS data0 (Value.int IntKind.i64 13)) fun t30_161 =>
    Pu (cvI IntKind.i64 t30_161) fun t31_162 =>
    Pu (slS data0 (some (Value.int IntKind.i64 14)) (some (Value.int IntKind.i64 18))) fun t33_163 =>
    (Cl Tryd.prog 54 [t24_158] (World.drew w_15) fun t25_164 w_165 =>
    C_157 w_165 ∧
    ((Cl Tryd.prog 54 [t33_163] w_165 fun t34_166 w_167 =>
    C_157 w_167 ∧
    (∃ t35_168, (∀ w_169, C_157 w_169 → RunS Tryd.prog (Instr.build 24 #[(0, t25_164), (1, t28_160), (2, t31_162), (3, t34_166)]) w_169 fun t35_170 w_171 =>
    t35_170 = t35_168 ∧ w_171 = w_169) ∧
    (New #[(Value.int IntKind.i64 0), (Value.int IntKind.i64 0), (Value.int IntKind.i64 0), (Value.int IntKind.i64 0), (Value.string (ByteArray.mk #[])), (Value.slice none 0 0)] 24 w_167 fun p4_172 w_173 =>
    C_157 w_173 ∧
    (St 6 w_173 p4_172 t35_168 fun u_174 w_175 =>
    jj_21 [p4_172] w_175)))) ∧
    (New #[(Value.int IntKind.i64 0), (Value.int IntKind.i64 0), (Value.int IntKind.i64 0), (Value.int IntKind.i64 0), (Value.string (ByteArray.mk #[])), (Value.slice none 0 0)] 24 w_165 fun p4_176 w_177 =>
    C_157 w_177 ∧
    (Cl Tryd.prog 54 [t33_163] w_177 fun t34_178 w_179 =>
    C_157 w_179 ∧
    (RunS Tryd.prog (Instr.build 24 #[(0, t25_164), (1, t28_160), (2, t31_162), (3, t34_178)]) w_179 fun t35_180 w_181 =>
    w_181 = w_179 ∧
    St 6 w_179 p4_176 t35_180 fun u_182 w_183 =>
    jj_21 [p4_176] w_183))) ∧
    True)) ∧
    (New #[(Value.int IntKind.i64 0), (Value.int IntKind.i64 0), (Value.int IntKind.i64 0), (Value.int IntKind.i64 0), (Value.string (ByteArray.mk #[])), (Value.slice none 0 0)] 24 (World.drew w_15) fun p4_184 w_185 =>
    C_157 w_185 ∧
    (Cl Tryd.prog 54 [t24_158] w_185 fun t25_186 w_187 =>
    C_157 w_187 ∧
    (Cl Tryd.prog 54 [t33_163] w_187 fun t34_188 w_189 =>
    C_157 w_189 ∧
    (RunS Tryd.prog (Instr.build 24 #[(0, t25_186), (1, t28_160), (2, t31_162), (3, t34_188)]) w_189 fun t35_190 w_191 =>
    w_191 = w_189 ∧
    St 6 w_189 p4_184 t35_190 fun u_192 w_193 =>
    jj_21 [p4_184] w_193)))) ∧
    True))))
theorem e27 (k : KV) (data0 : Value) (w : World) : K KD Tryd.prog 95 (fun j => bif Nat.beq j 9 then [49] else []) (fun j => bif Nat.beq j 6 then some [4] else none) (Tryd.f27.body.getD .skip) (retQ Tryd.prog Tryd.f27 k) (argF [data0]) w = T27 k data0 w := by kernel_rfl
theorem c27 {k : KV} {data0 : Value} {w : World} (h : T27 k data0 w) : Cl Tryd.prog 27 [data0] w k :=
  Cl_of_K KD_sound mixed Tryd.func27 (by kernel_rfl) (by kernel_rfl) ((e27 k data0 w).symm ▸ h)

/-- Function 28: almonry/almonryref03.Decode. -/
def T28 (k : KV) (data0 : Value) (w : World) : Prop :=
  New #[(Value.int IntKind.i64 0), (Value.int IntKind.i64 0), (Value.int IntKind.i64 0), (Value.int IntKind.i64 0), (Value.string (ByteArray.mk #[])), (Value.slice none 0 0)] 24 w fun t2_1 w_2 =>
  Pu (lenS data0) fun t12_3 =>
  Pu (binV (TypeDesc.int IntKind.i64) .neq t12_3 (Value.int IntKind.i64 512)) fun t13_4 =>
  IfB t13_4
    (RunS Tryd.prog (Instr.build 24 #[]) w_2 fun t14_5 w_6 =>
      St 6 w_6 t2_1 t14_5 fun u_7 w_8 =>
      RetO (resL Tryd.prog (fun j => bif Nat.beq j 2 then t2_1 else bif Nat.beq j 3 then (Value.int IntKind.i64 31) else undef) w_8 [(ResultVar.cell 2 24), (ResultVar.tmp 3)]) w_8 k)
    (Pu (slS data0 none (some (Value.int IntKind.i64 4))) fun t16_9 =>
  Pu (slS data0 (some (Value.int IntKind.i64 4)) none) fun t19_10 =>
  Cl Tryd.prog 57 [t16_9] (World.drew w_2) fun t17_11 w_12 =>
  Cl Tryd.prog 53 [t19_10] w_12 fun t20_13 w_14 =>
  Pu (cvI IntKind.i64 t20_13) fun t21_15 =>
  Pu (binV (TypeDesc.int IntKind.i64) .neq t17_11 t21_15) fun t22_16 =>
  IfB t22_16
    (RunS Tryd.prog (Instr.build 24 #[]) w_14 fun t23_17 w_18 =>
      St 6 w_18 t2_1 t23_17 fun u_19 w_20 =>
      RetO (resL Tryd.prog (fun j => bif Nat.beq j 2 then t2_1 else bif Nat.beq j 3 then (Value.int IntKind.i64 30) else undef) w_20 [(ResultVar.cell 2 24), (ResultVar.tmp 3)]) w_20 k)
    (Jn (fun vs_37 w_36 => ∀ g_38 : Fr, ∃ p4_22 : Value, vs_37 = [p4_22] ∧
      (Pu (ixS data0 (Value.int IntKind.i64 18)) fun t38_39 =>
      Pu (cvI IntKind.i64 t38_39) fun t39_40 =>
      Pu (ixS data0 (Value.int IntKind.i64 19)) fun t41_41 =>
      Pu (cvI IntKind.i64 t41_41) fun t42_42 =>
      Pu (binV (TypeDesc.int IntKind.i64) .add (Value.int IntKind.i64 20) t42_42) fun t43_43 =>
      Pu (slS data0 (some (Value.int IntKind.i64 20)) (some t43_43)) fun t46_44 =>
      Pu (faV 4 p4_22) fun t47_45 =>
      St 1 w_36 t47_45 t46_44 fun u_46 w_47 =>
      ∃ (I_48 : List Value → World → Prop) (m_49 : List Value → World → Nat), I_48 [t43_43, (Value.int IntKind.i64 0)] w_47 ∧
      ∀ (g_94 : Fr) (w_93 : World), ∀ atv6_52 : Value, ∀ i7_53 : Value, I_48 [atv6_52, i7_53] w_93 →
        (Pu (binV (TypeDesc.int IntKind.i64) .lss i7_53 t39_40) fun t50_95 =>
        IfB t50_95
          (Pu (binV (TypeDesc.int IntKind.i64) .add atv6_52 (Value.int IntKind.i64 2)) fun t54_96 =>
        Pu (binV (TypeDesc.int IntKind.i64) .gtr t54_96 (Value.int IntKind.i64 512)) fun t55_97 =>
        IfB t55_97
          (RunS Tryd.prog (Instr.build 24 #[]) w_93 fun t56_98 w_99 =>
            St 6 w_99 t2_1 t56_98 fun u_100 w_101 =>
            RetO (resL Tryd.prog (fun j => bif Nat.beq j 2 then t2_1 else bif Nat.beq j 3 then (Value.int IntKind.i64 31) else undef) w_101 [(ResultVar.cell 2 24), (ResultVar.tmp 3)]) w_101 k)
          (Pu (binV (TypeDesc.int IntKind.i64) .add atv6_52 (Value.int IntKind.i64 2)) fun t60_102 =>
        Pu (slS data0 (some atv6_52) (some t60_102)) fun t61_103 =>
        Cl Tryd.prog 57 [t61_103] w_93 fun t62_104 w_105 =>
        Pu (binV (TypeDesc.int IntKind.i64) .add atv6_52 (Value.int IntKind.i64 2)) fun t64_106 =>
        Pu (binV (TypeDesc.int IntKind.i64) .add t64_106 t62_104) fun t66_107 =>
        Pu (binV (TypeDesc.int IntKind.i64) .gtr t66_107 (Value.int IntKind.i64 512)) fun t67_108 =>
        IfB t67_108
          (RunS Tryd.prog (Instr.build 24 #[]) w_105 fun t68_109 w_110 =>
            St 6 w_110 t2_1 t68_109 fun u_111 w_112 =>
            RetO (resL Tryd.prog (fun j => bif Nat.beq j 2 then t2_1 else bif Nat.beq j 3 then (Value.int IntKind.i64 31) else undef) w_112 [(ResultVar.cell 2 24), (ResultVar.tmp 3)]) w_112 k)
          (∃ C_113 : World → Prop, C_113 (World.drew w_105) ∧
        (Pu (faV 5 p4_22) fun t69_114 =>
        ∃ t70_115, (∀ w_116, C_113 w_116 → Ld w_116 t69_114 fun t70_117 w_118 =>
        t70_117 = t70_115 ∧ w_118 = w_116) ∧
        (Pu (binV (TypeDesc.int IntKind.i64) .add atv6_52 (Value.int IntKind.i64 2)) fun t73_119 =>
        Pu (binV (TypeDesc.int IntKind.i64) .add atv6_52 (Value.int IntKind.i64 2)) fun t75_120 =>
        Pu (binV (TypeDesc.int IntKind.i64) .add t75_120 t62_104) fun t77_121 =>
        Pu (slS data0 (some t73_119) (some t77_121)) fun t78_122 =>
        RunS Tryd.prog (Instr.buildSlice 22 1 #[(0, t78_122)]) (World.drew w_105) fun t79_123 w_124 =>
        C_113 w_124 ∧
        (RunS Tryd.prog (Builtin.append_ #[22, 22] 22 #[t70_115, t79_123]) w_124 fun t80_125 w_126 =>
        Pu (faV 5 p4_22) fun t81_127 =>
        St 1 w_126 t81_127 t80_125 fun u_128 w_129 =>
        Pu (binV (TypeDesc.int IntKind.i64) .add atv6_52 (Value.int IntKind.i64 2)) fun t83_130 =>
        Pu (binV (TypeDesc.int IntKind.i64) .add t83_130 t62_104) fun t85_131 =>
        Pu (binV (TypeDesc.int IntKind.i64) .add i7_53 (Value.int IntKind.i64 1)) fun t52_132 =>
        I_48 [t85_131, t52_132] w_129 ∧ m_49 [t85_131, t52_132] w_129 < m_49 [atv6_52, i7_53] w_93))))))
          (LdN 6 w_93 p4_22 fun t87_133 w_134 =>
      Cl Tryd.prog 24 [t87_133] w_134 fun t88_135 w_136 =>
      Pu (extV t88_135 0) fun t89_137 =>
      Pu (extV t88_135 1) fun t90_138 =>
      Pu (binV (TypeDesc.int IntKind.i64) .neq t90_138 (Value.int IntKind.i64 0)) fun t92_139 =>
      Gd (isB false t92_139) (fun kk => kk t89_137 w_136) w_136 fun t94_140 w_141 =>
      Gd (isB false t92_139) (fun kk => kk data0 w_141) w_141 fun t95_142 w_143 =>
      Gd (isB false t92_139) (fun kk => Pu (binV TypeDesc.string .neq t94_140 t95_142) fun vv => kk vv w_143) w_143 fun t96_144 w_145 =>
      Pu (pickV t92_139 (Value.bool true) t96_144) fun t97_146 =>
      IfB t97_146
        (RunS Tryd.prog (Instr.build 24 #[]) w_145 fun t98_147 w_148 =>
          St 6 w_148 t2_1 t98_147 fun u_149 w_150 =>
          RetO (resL Tryd.prog (fun j => bif Nat.beq j 2 then t2_1 else bif Nat.beq j 3 then (Value.int IntKind.i64 31) else undef) w_150 [(ResultVar.cell 2 24), (ResultVar.tmp 3)]) w_150 k)
        (LdN 6 w_145 p4_22 fun t99_151 w_152 =>
      St 6 w_152 t2_1 t99_151 fun u_153 w_154 =>
      RetO (resL Tryd.prog (fun j => bif Nat.beq j 2 then t2_1 else bif Nat.beq j 3 then (Value.int IntKind.i64 0) else undef) w_154 [(ResultVar.cell 2 24), (ResultVar.tmp 3)]) w_154 k)))))
    (fun jj_21 =>
    ∃ C_155 : World → Prop, C_155 (World.drew w_14) ∧
    (Pu (slS data0 (some (Value.int IntKind.i64 4)) (some (Value.int IntKind.i64 12))) fun t25_156 =>
    Pu (ixS data0 (Value.int IntKind.i64 12)) fun t28_157 =>
    Pu (cvI IntKind.i64 t28_157) fun t29_158 =>
    Pu (ixS data0 (Value.int IntKind.i64 13)) fun t31_159 =>
    Pu (cvI IntKind.i64 t31_159) fun t32_160 =>
    Pu (slS data0 (some (Value.int IntKind.i64 14)) (some (Value.int IntKind.i64 18))) fun t34_161 =>
    (Cl Tryd.prog 57 [t25_156] (World.drew w_14) fun t26_162 w_163 =>
    C_155 w_163 ∧
    ((Cl Tryd.prog 57 [t34_161] w_163 fun t35_164 w_165 =>
    C_155 w_165 ∧
    (∃ t36_166, (∀ w_167, C_155 w_167 → RunS Tryd.prog (Instr.build 24 #[(0, t26_162), (1, t29_158), (2, t32_160), (3, t35_164)]) w_167 fun t36_168 w_169 =>
    t36_168 = t36_166 ∧ w_169 = w_167) ∧
    (New #[(Value.int IntKind.i64 0), (Value.int IntKind.i64 0), (Value.int IntKind.i64 0), (Value.int IntKind.i64 0), (Value.string (ByteArray.mk #[])), (Value.slice none 0 0)] 24 w_165 fun p4_170 w_171 =>
    C_155 w_171 ∧
    (St 6 w_171 p4_170 t36_166 fun u_172 w_173 =>
    jj_21 [p4_170] w_173)))) ∧
    (New #[(Value.int IntKind.i64 0), (Value.int IntKind.i64 0), (Value.int IntKind.i64 0), (Value.int IntKind.i64 0), (Value.string (ByteArray.mk #[])), (Value.slice none 0 0)] 24 w_163 fun p4_174 w_175 =>
    C_155 w_175 ∧
    (Cl Tryd.prog 57 [t34_161] w_175 fun t35_176 w_177 =>
    C_155 w_177 ∧
    (RunS Tryd.prog (Instr.build 24 #[(0, t26_162), (1, t29_158), (2, t32_160), (3, t35_176)]) w_177 fun t36_178 w_179 =>
    w_179 = w_177 ∧
    St 6 w_177 p4_174 t36_178 fun u_180 w_181 =>
    jj_21 [p4_174] w_181))) ∧
    True)) ∧
    (New #[(Value.int IntKind.i64 0), (Value.int IntKind.i64 0), (Value.int IntKind.i64 0), (Value.int IntKind.i64 0), (Value.string (ByteArray.mk #[])), (Value.slice none 0 0)] 24 (World.drew w_14) fun p4_182 w_183 =>
    C_155 w_183 ∧
    (Cl Tryd.prog 57 [t25_156] w_183 fun t26_184 w_185 =>
    C_155 w_185 ∧
    (Cl Tryd.prog 57 [t34_161] w_185 fun t35_186 w_187 =>
    C_155 w_187 ∧
    (RunS Tryd.prog (Instr.build 24 #[(0, t26_184), (1, t29_158), (2, t32_160), (3, t35_186)]) w_187 fun t36_188 w_189 =>
    w_189 = w_187 ∧
    St 6 w_187 p4_182 t36_188 fun u_190 w_191 =>
    jj_21 [p4_182] w_191)))) ∧
    True))))
theorem e28 (k : KV) (data0 : Value) (w : World) : K KD Tryd.prog 100 (fun j => bif Nat.beq j 10 then [6, 7] else []) (fun j => bif Nat.beq j 6 then some [4] else none) (Tryd.f28.body.getD .skip) (retQ Tryd.prog Tryd.f28 k) (argF [data0]) w = T28 k data0 w := by kernel_rfl
theorem c28 {k : KV} {data0 : Value} {w : World} (h : T28 k data0 w) : Cl Tryd.prog 28 [data0] w k :=
  Cl_of_K KD_sound mixed Tryd.func28 (by kernel_rfl) (by kernel_rfl) ((e28 k data0 w).symm ▸ h)

/-- Function 29: almonry/almonryref03.Same. -/
def T29 (k : KV) (a0 : Value) (b1 : Value) (w : World) : Prop :=
  New (Value.cells a0) 24 w fun a2_1 w_2 =>
  New (Value.cells b1) 24 w_2 fun b3_3 w_4 =>
  Pu (faV 0 a2_1) fun t6_5 =>
  Ld w_4 t6_5 fun t7_6 w_7 =>
  Pu (faV 0 b3_3) fun t8_8 =>
  Ld w_7 t8_8 fun t9_9 w_10 =>
  Pu (binV (TypeDesc.int IntKind.i64) .neq t7_6 t9_9) fun t10_11 =>
  Gd (isB false t10_11) (fun kk => Pu (faV 1 a2_1) fun vv => kk vv w_10) w_10 fun t12_12 w_13 =>
  Gd (isB false t10_11) (fun kk => Ld w_13 t12_12 kk) w_13 fun t13_14 w_15 =>
  Gd (isB false t10_11) (fun kk => Pu (faV 1 b3_3) fun vv => kk vv w_15) w_15 fun t14_16 w_17 =>
  Gd (isB false t10_11) (fun kk => Ld w_17 t14_16 kk) w_17 fun t15_18 w_19 =>
  Gd (isB false t10_11) (fun kk => Pu (binV (TypeDesc.int IntKind.i64) .neq t13_14 t15_18) fun vv => kk vv w_19) w_19 fun t16_20 w_21 =>
  Pu (pickV t10_11 (Value.bool true) t16_20) fun t17_22 =>
  Gd (isB false t17_22) (fun kk => Pu (faV 2 a2_1) fun vv => kk vv w_21) w_21 fun t19_23 w_24 =>
  Gd (isB false t17_22) (fun kk => Ld w_24 t19_23 kk) w_24 fun t20_25 w_26 =>
  Gd (isB false t17_22) (fun kk => Pu (faV 2 b3_3) fun vv => kk vv w_26) w_26 fun t21_27 w_28 =>
  Gd (isB false t17_22) (fun kk => Ld w_28 t21_27 kk) w_28 fun t22_29 w_30 =>
  Gd (isB false t17_22) (fun kk => Pu (binV (TypeDesc.int IntKind.i64) .neq t20_25 t22_29) fun vv => kk vv w_30) w_30 fun t23_31 w_32 =>
  Pu (pickV t17_22 (Value.bool true) t23_31) fun t24_33 =>
  Gd (isB false t24_33) (fun kk => Pu (faV 3 a2_1) fun vv => kk vv w_32) w_32 fun t26_34 w_35 =>
  Gd (isB false t24_33) (fun kk => Ld w_35 t26_34 kk) w_35 fun t27_36 w_37 =>
  Gd (isB false t24_33) (fun kk => Pu (faV 3 b3_3) fun vv => kk vv w_37) w_37 fun t28_38 w_39 =>
  Gd (isB false t24_33) (fun kk => Ld w_39 t28_38 kk) w_39 fun t29_40 w_41 =>
  Gd (isB false t24_33) (fun kk => Pu (binV (TypeDesc.int IntKind.i64) .neq t27_36 t29_40) fun vv => kk vv w_41) w_41 fun t30_42 w_43 =>
  Pu (pickV t24_33 (Value.bool true) t30_42) fun t31_44 =>
  Gd (isB false t31_44) (fun kk => Pu (faV 4 a2_1) fun vv => kk vv w_43) w_43 fun t33_45 w_46 =>
  Gd (isB false t31_44) (fun kk => Ld w_46 t33_45 kk) w_46 fun t34_47 w_48 =>
  Gd (isB false t31_44) (fun kk => Pu (faV 4 b3_3) fun vv => kk vv w_48) w_48 fun t35_49 w_50 =>
  Gd (isB false t31_44) (fun kk => Ld w_50 t35_49 kk) w_50 fun t36_51 w_52 =>
  Gd (isB false t31_44) (fun kk => Pu (binV TypeDesc.string .neq t34_47 t36_51) fun vv => kk vv w_52) w_52 fun t37_53 w_54 =>
  Pu (pickV t31_44 (Value.bool true) t37_53) fun t38_55 =>
  Gd (isB false t38_55) (fun kk => Pu (faV 5 a2_1) fun vv => kk vv w_54) w_54 fun t40_56 w_57 =>
  Gd (isB false t38_55) (fun kk => Ld w_57 t40_56 kk) w_57 fun t41_58 w_59 =>
  Gd (isB false t38_55) (fun kk => Pu (lenV t41_58) fun vv => kk vv w_59) w_59 fun t42_60 w_61 =>
  Gd (isB false t38_55) (fun kk => Pu (faV 5 b3_3) fun vv => kk vv w_61) w_61 fun t43_62 w_63 =>
  Gd (isB false t38_55) (fun kk => Ld w_63 t43_62 kk) w_63 fun t44_64 w_65 =>
  Gd (isB false t38_55) (fun kk => Pu (lenV t44_64) fun vv => kk vv w_65) w_65 fun t45_66 w_67 =>
  Gd (isB false t38_55) (fun kk => Pu (binV (TypeDesc.int IntKind.i64) .neq t42_60 t45_66) fun vv => kk vv w_67) w_67 fun t46_68 w_69 =>
  Pu (pickV t38_55 (Value.bool true) t46_68) fun t47_70 =>
  IfB t47_70
    (k (Value.bool false) w_69)
    (∃ (I_71 : List Value → World → Prop) (m_72 : List Value → World → Nat), I_71 [(Value.int IntKind.i64 0)] w_69 ∧
  ∀ (g_95 : Fr) (w_94 : World), ∀ i5_75 : Value, I_71 [i5_75] w_94 →
    (Pu (faV 5 a2_1) fun t49_96 =>
    Ld w_94 t49_96 fun t50_97 w_98 =>
    Pu (lenV t50_97) fun t51_99 =>
    Pu (binV (TypeDesc.int IntKind.i64) .lss i5_75 t51_99) fun t52_100 =>
    IfB t52_100
      (Pu (faV 5 a2_1) fun t55_101 =>
    Ld (World.drew w_98) t55_101 fun t56_102 w_103 =>
    w_103 = (World.drew w_98) ∧
    Pu (ixV 1 t56_102 i5_75) fun t58_104 =>
    Ld (World.drew w_98) t58_104 fun t59_105 w_106 =>
    w_106 = (World.drew w_98) ∧
    Pu (faV 5 b3_3) fun t60_107 =>
    Ld (World.drew w_98) t60_107 fun t61_108 w_109 =>
    w_109 = (World.drew w_98) ∧
    Pu (ixV 1 t61_108 i5_75) fun t63_110 =>
    Ld (World.drew w_98) t63_110 fun t64_111 w_112 =>
    w_112 = (World.drew w_98) ∧
    Pu (binV TypeDesc.string .neq t59_105 t64_111) fun t65_113 =>
    IfB t65_113
      (k (Value.bool false) (World.drew w_98))
      (Pu (binV (TypeDesc.int IntKind.i64) .add i5_75 (Value.int IntKind.i64 1)) fun t54_114 =>
    I_71 [t54_114] (World.drew w_98) ∧ m_72 [t54_114] (World.drew w_98) < m_72 [i5_75] w_94))
      (k (Value.bool true) w_98)))
theorem e29 (k : KV) (a0 : Value) (b1 : Value) (w : World) : K KD Tryd.prog 66 (fun j => bif Nat.beq j 4 then [5] else []) (fun j =>  none) (Tryd.f29.body.getD .skip) (retQ Tryd.prog Tryd.f29 k) (argF [a0, b1]) w = T29 k a0 b1 w := by kernel_rfl
theorem c29 {k : KV} {a0 : Value} {b1 : Value} {w : World} (h : T29 k a0 b1 w) : Cl Tryd.prog 29 [a0, b1] w k :=
  Cl_of_K KD_sound mixed Tryd.func29 (by kernel_rfl) (by kernel_rfl) ((e29 k a0 b1 w).symm ▸ h)

/-- Function 30: almonry/page.Same. -/
def T30 (k : KV) (a0 : Value) (b1 : Value) (w : World) : Prop :=
  New (Value.cells a0) 24 w fun a2_1 w_2 =>
  New (Value.cells b1) 24 w_2 fun b3_3 w_4 =>
  Pu (faV 5 a2_1) fun t5_5 =>
  Ld w_4 t5_5 fun t6_6 w_7 =>
  Pu (faV 5 b3_3) fun t7_8 =>
  Ld w_7 t7_8 fun t8_9 w_10 =>
  Cl Tryd.prog 58 [t6_6, t8_9] w_10 fun t9_11 w_12 =>
  Pu (unV .not t9_11) fun t10_13 =>
  IfB t10_13
    (k (Value.bool false) w_12)
    (Pu (faV 5 a2_1) fun t11_14 =>
  St 1 w_12 t11_14 (Value.slice none 0 0) fun u_15 w_16 =>
  Pu (faV 5 b3_3) fun t12_17 =>
  St 1 w_16 t12_17 (Value.slice none 0 0) fun u_18 w_19 =>
  Pu (faV 0 a2_1) fun t13_20 =>
  Ld w_19 t13_20 fun t14_21 w_22 =>
  Pu (faV 0 b3_3) fun t15_23 =>
  Ld w_22 t15_23 fun t16_24 w_25 =>
  Pu (binV (TypeDesc.int IntKind.i64) .eql t14_21 t16_24) fun t17_26 =>
  Gd (isB true t17_26) (fun kk => Pu (faV 1 a2_1) fun vv => kk vv w_25) w_25 fun t19_27 w_28 =>
  Gd (isB true t17_26) (fun kk => Ld w_28 t19_27 kk) w_28 fun t20_29 w_30 =>
  Gd (isB true t17_26) (fun kk => Pu (faV 1 b3_3) fun vv => kk vv w_30) w_30 fun t21_31 w_32 =>
  Gd (isB true t17_26) (fun kk => Ld w_32 t21_31 kk) w_32 fun t22_33 w_34 =>
  Gd (isB true t17_26) (fun kk => Pu (binV (TypeDesc.int IntKind.i64) .eql t20_29 t22_33) fun vv => kk vv w_34) w_34 fun t23_35 w_36 =>
  Pu (pickV t17_26 t23_35 (Value.bool false)) fun t24_37 =>
  Gd (isB true t24_37) (fun kk => Pu (faV 2 a2_1) fun vv => kk vv w_36) w_36 fun t26_38 w_39 =>
  Gd (isB true t24_37) (fun kk => Ld w_39 t26_38 kk) w_39 fun t27_40 w_41 =>
  Gd (isB true t24_37) (fun kk => Pu (faV 2 b3_3) fun vv => kk vv w_41) w_41 fun t28_42 w_43 =>
  Gd (isB true t24_37) (fun kk => Ld w_43 t28_42 kk) w_43 fun t29_44 w_45 =>
  Gd (isB true t24_37) (fun kk => Pu (binV (TypeDesc.int IntKind.i64) .eql t27_40 t29_44) fun vv => kk vv w_45) w_45 fun t30_46 w_47 =>
  Pu (pickV t24_37 t30_46 (Value.bool false)) fun t31_48 =>
  Gd (isB true t31_48) (fun kk => Pu (faV 3 a2_1) fun vv => kk vv w_47) w_47 fun t33_49 w_50 =>
  Gd (isB true t31_48) (fun kk => Ld w_50 t33_49 kk) w_50 fun t34_51 w_52 =>
  Gd (isB true t31_48) (fun kk => Pu (faV 3 b3_3) fun vv => kk vv w_52) w_52 fun t35_53 w_54 =>
  Gd (isB true t31_48) (fun kk => Ld w_54 t35_53 kk) w_54 fun t36_55 w_56 =>
  Gd (isB true t31_48) (fun kk => Pu (binV (TypeDesc.int IntKind.i64) .eql t34_51 t36_55) fun vv => kk vv w_56) w_56 fun t37_57 w_58 =>
  Pu (pickV t31_48 t37_57 (Value.bool false)) fun t38_59 =>
  Gd (isB true t38_59) (fun kk => Pu (faV 4 a2_1) fun vv => kk vv w_58) w_58 fun t40_60 w_61 =>
  Gd (isB true t38_59) (fun kk => Ld w_61 t40_60 kk) w_61 fun t41_62 w_63 =>
  Gd (isB true t38_59) (fun kk => Pu (faV 4 b3_3) fun vv => kk vv w_63) w_63 fun t42_64 w_65 =>
  Gd (isB true t38_59) (fun kk => Ld w_65 t42_64 kk) w_65 fun t43_66 w_67 =>
  Gd (isB true t38_59) (fun kk => Pu (binV TypeDesc.string .eql t41_62 t43_66) fun vv => kk vv w_67) w_67 fun t44_68 w_69 =>
  Pu (pickV t38_59 t44_68 (Value.bool false)) fun t45_70 =>
  k t45_70 w_69)
theorem e30 (k : KV) (a0 : Value) (b1 : Value) (w : World) : K KD Tryd.prog 46 (fun j =>  []) (fun j =>  none) (Tryd.f30.body.getD .skip) (retQ Tryd.prog Tryd.f30 k) (argF [a0, b1]) w = T30 k a0 b1 w := by kernel_rfl
theorem c30 {k : KV} {a0 : Value} {b1 : Value} {w : World} (h : T30 k a0 b1 w) : Cl Tryd.prog 30 [a0, b1] w k :=
  Cl_of_K KD_sound mixed Tryd.func30 (by kernel_rfl) (by kernel_rfl) ((e30 k a0 b1 w).symm ▸ h)

/-- Function 31: almonry/page.Put. -/
def T31 (k : KV) (p0 : Value) (i1 : Value) (item2 : Value) (w : World) : Prop :=
  New (Value.cells p0) 24 w fun p3_1 w_2 =>
  New #[(Value.int IntKind.i64 0), (Value.int IntKind.i64 0), (Value.int IntKind.i64 0), (Value.int IntKind.i64 0), (Value.string (ByteArray.mk #[])), (Value.slice none 0 0)] 24 w_2 fun t6_3 w_4 =>
  Pu (binV (TypeDesc.int IntKind.i64) .lss i1 (Value.int IntKind.i64 0)) fun t9_5 =>
  Gd (isB false t9_5) (fun kk => kk i1 w_4) w_4 fun t11_6 w_7 =>
  Gd (isB false t9_5) (fun kk => Pu (faV 5 p3_1) fun vv => kk vv w_7) w_7 fun t12_8 w_9 =>
  Gd (isB false t9_5) (fun kk => Ld w_9 t12_8 kk) w_9 fun t13_10 w_11 =>
  Gd (isB false t9_5) (fun kk => Pu (lenV t13_10) fun vv => kk vv w_11) w_11 fun t14_12 w_13 =>
  Gd (isB false t9_5) (fun kk => Pu (binV (TypeDesc.int IntKind.i64) .gtr t11_6 t14_12) fun vv => kk vv w_13) w_13 fun t15_14 w_15 =>
  Pu (pickV t9_5 (Value.bool true) t15_14) fun t16_16 =>
  IfB t16_16
    (RunS Tryd.prog (Instr.build 24 #[]) w_15 fun t17_17 w_18 =>
      St 6 w_18 t6_3 t17_17 fun u_19 w_20 =>
      RetO (resL Tryd.prog (fun j => bif Nat.beq j 6 then t6_3 else bif Nat.beq j 7 then (Value.int IntKind.i64 1) else undef) w_20 [(ResultVar.cell 6 24), (ResultVar.tmp 7)]) w_20 k)
    (∃ C_21 : World → Prop, C_21 (World.drew w_15) ∧
  (∃ t18_22, (∀ w_23, C_21 w_23 → LdN 6 w_23 p3_1 fun t18_24 w_25 =>
  t18_24 = t18_22 ∧ w_25 = w_23) ∧
  (Pu (faV 5 p3_1) fun t19_26 =>
  ∃ t20_27, (∀ w_28, C_21 w_28 → Ld w_28 t19_26 fun t20_29 w_30 =>
  t20_29 = t20_27 ∧ w_30 = w_28) ∧
  ((Cl Tryd.prog 61 [t20_27] (World.drew w_15) fun t21_31 w_32 =>
  C_21 w_32 ∧
  (RunS Tryd.prog (Instr.buildSlice 22 1 #[(0, item2)]) w_32 fun t24_33 w_34 =>
  C_21 w_34 ∧
  (Cl Tryd.prog 60 [t21_31, i1, t24_33] w_34 fun t25_35 w_36 =>
  C_21 w_36 ∧
  (Cl Tryd.prog 59 [t18_22, t25_35] w_36 fun t26_37 w_38 =>
  Pu (extV t26_37 0) fun t27_39 =>
  Pu (extV t26_37 1) fun t28_40 =>
  St 6 w_38 t6_3 t27_39 fun u_41 w_42 =>
  RetO (resL Tryd.prog (fun j => bif Nat.beq j 6 then t6_3 else bif Nat.beq j 7 then t28_40 else undef) w_42 [(ResultVar.cell 6 24), (ResultVar.tmp 7)]) w_42 k)))) ∧
  (RunS Tryd.prog (Instr.buildSlice 22 1 #[(0, item2)]) (World.drew w_15) fun t24_43 w_44 =>
  C_21 w_44 ∧
  (Cl Tryd.prog 61 [t20_27] w_44 fun t21_45 w_46 =>
  C_21 w_46 ∧
  (Cl Tryd.prog 60 [t21_45, i1, t24_43] w_46 fun t25_47 w_48 =>
  C_21 w_48 ∧
  (Cl Tryd.prog 59 [t18_22, t25_47] w_48 fun t26_49 w_50 =>
  Pu (extV t26_49 0) fun t27_51 =>
  Pu (extV t26_49 1) fun t28_52 =>
  St 6 w_50 t6_3 t27_51 fun u_53 w_54 =>
  RetO (resL Tryd.prog (fun j => bif Nat.beq j 6 then t6_3 else bif Nat.beq j 7 then t28_52 else undef) w_54 [(ResultVar.cell 6 24), (ResultVar.tmp 7)]) w_54 k)))) ∧
  True))))
theorem e31 (k : KV) (p0 : Value) (i1 : Value) (item2 : Value) (w : World) : K KD Tryd.prog 29 (fun j =>  []) (fun j =>  none) (Tryd.f31.body.getD .skip) (retQ Tryd.prog Tryd.f31 k) (argF [p0, i1, item2]) w = T31 k p0 i1 item2 w := by kernel_rfl
theorem c31 {k : KV} {p0 : Value} {i1 : Value} {item2 : Value} {w : World} (h : T31 k p0 i1 item2 w) : Cl Tryd.prog 31 [p0, i1, item2] w k :=
  Cl_of_K KD_sound mixed Tryd.func31 (by kernel_rfl) (by kernel_rfl) ((e31 k p0 i1 item2 w).symm ▸ h)

/-- Function 32: almonry/page.Out. -/
def T32 (k : KV) (p0 : Value) (i1 : Value) (w : World) : Prop :=
  New (Value.cells p0) 24 w fun p2_1 w_2 =>
  New #[(Value.int IntKind.i64 0), (Value.int IntKind.i64 0), (Value.int IntKind.i64 0), (Value.int IntKind.i64 0), (Value.string (ByteArray.mk #[])), (Value.slice none 0 0)] 24 w_2 fun t4_3 w_4 =>
  Pu (binV (TypeDesc.int IntKind.i64) .lss i1 (Value.int IntKind.i64 0)) fun t7_5 =>
  Gd (isB false t7_5) (fun kk => kk i1 w_4) w_4 fun t9_6 w_7 =>
  Gd (isB false t7_5) (fun kk => Pu (faV 5 p2_1) fun vv => kk vv w_7) w_7 fun t10_8 w_9 =>
  Gd (isB false t7_5) (fun kk => Ld w_9 t10_8 kk) w_9 fun t11_10 w_11 =>
  Gd (isB false t7_5) (fun kk => Pu (lenV t11_10) fun vv => kk vv w_11) w_11 fun t12_12 w_13 =>
  Gd (isB false t7_5) (fun kk => Pu (binV (TypeDesc.int IntKind.i64) .geq t9_6 t12_12) fun vv => kk vv w_13) w_13 fun t13_14 w_15 =>
  Pu (pickV t7_5 (Value.bool true) t13_14) fun t14_16 =>
  IfB t14_16
    (RunS Tryd.prog (Instr.build 24 #[]) w_15 fun t15_17 w_18 =>
      St 6 w_18 t4_3 t15_17 fun u_19 w_20 =>
      RetO (resL Tryd.prog (fun j => bif Nat.beq j 4 then t4_3 else bif Nat.beq j 5 then (Value.int IntKind.i64 1) else undef) w_20 [(ResultVar.cell 4 24), (ResultVar.tmp 5)]) w_20 k)
    (Pu (faV 5 p2_1) fun t16_21 =>
  Ld w_15 t16_21 fun t17_22 w_23 =>
  Cl Tryd.prog 61 [t17_22] w_23 fun t18_24 w_25 =>
  Pu (binV (TypeDesc.int IntKind.i64) .add i1 (Value.int IntKind.i64 1)) fun t21_26 =>
  Cl Tryd.prog 62 [t18_24, i1, t21_26] w_25 fun t22_27 w_28 =>
  Pu (faV 5 p2_1) fun t23_29 =>
  St 1 w_28 t23_29 t22_27 fun u_30 w_31 =>
  LdN 6 w_31 p2_1 fun t24_32 w_33 =>
  St 6 w_33 t4_3 t24_32 fun u_34 w_35 =>
  RetO (resL Tryd.prog (fun j => bif Nat.beq j 4 then t4_3 else bif Nat.beq j 5 then (Value.int IntKind.i64 0) else undef) w_35 [(ResultVar.cell 4 24), (ResultVar.tmp 5)]) w_35 k)
theorem e32 (k : KV) (p0 : Value) (i1 : Value) (w : World) : K KD Tryd.prog 25 (fun j =>  []) (fun j =>  none) (Tryd.f32.body.getD .skip) (retQ Tryd.prog Tryd.f32 k) (argF [p0, i1]) w = T32 k p0 i1 w := by kernel_rfl
theorem c32 {k : KV} {p0 : Value} {i1 : Value} {w : World} (h : T32 k p0 i1 w) : Cl Tryd.prog 32 [p0, i1] w k :=
  Cl_of_K KD_sound mixed Tryd.func32 (by kernel_rfl) (by kernel_rfl) ((e32 k p0 i1 w).symm ▸ h)

/-- Function 33: almonry/page.With. -/
def T33 (k : KV) (p0 : Value) (i1 : Value) (item2 : Value) (w : World) : Prop :=
  New (Value.cells p0) 24 w fun p3_1 w_2 =>
  New #[(Value.int IntKind.i64 0), (Value.int IntKind.i64 0), (Value.int IntKind.i64 0), (Value.int IntKind.i64 0), (Value.string (ByteArray.mk #[])), (Value.slice none 0 0)] 24 w_2 fun t6_3 w_4 =>
  Pu (binV (TypeDesc.int IntKind.i64) .lss i1 (Value.int IntKind.i64 0)) fun t10_5 =>
  Gd (isB false t10_5) (fun kk => kk i1 w_4) w_4 fun t12_6 w_7 =>
  Gd (isB false t10_5) (fun kk => Pu (faV 5 p3_1) fun vv => kk vv w_7) w_7 fun t13_8 w_9 =>
  Gd (isB false t10_5) (fun kk => Ld w_9 t13_8 kk) w_9 fun t14_10 w_11 =>
  Gd (isB false t10_5) (fun kk => Pu (lenV t14_10) fun vv => kk vv w_11) w_11 fun t15_12 w_13 =>
  Gd (isB false t10_5) (fun kk => Pu (binV (TypeDesc.int IntKind.i64) .geq t12_6 t15_12) fun vv => kk vv w_13) w_13 fun t16_14 w_15 =>
  Pu (pickV t10_5 (Value.bool true) t16_14) fun t17_16 =>
  IfB t17_16
    (RunS Tryd.prog (Instr.build 24 #[]) w_15 fun t18_17 w_18 =>
      St 6 w_18 t6_3 t18_17 fun u_19 w_20 =>
      RetO (resL Tryd.prog (fun j => bif Nat.beq j 6 then t6_3 else bif Nat.beq j 7 then (Value.int IntKind.i64 1) else undef) w_20 [(ResultVar.cell 6 24), (ResultVar.tmp 7)]) w_20 k)
    (Pu (faV 5 p3_1) fun t19_21 =>
  Ld w_15 t19_21 fun t20_22 w_23 =>
  Cl Tryd.prog 61 [t20_22] w_23 fun t21_24 w_25 =>
  Pu (ixV 1 t21_24 i1) fun t25_26 =>
  St 1 w_25 t25_26 item2 fun u_27 w_28 =>
  LdN 6 w_28 p3_1 fun t26_29 w_30 =>
  Cl Tryd.prog 59 [t26_29, t21_24] w_30 fun t28_31 w_32 =>
  Pu (extV t28_31 0) fun t29_33 =>
  Pu (extV t28_31 1) fun t30_34 =>
  St 6 w_32 t6_3 t29_33 fun u_35 w_36 =>
  RetO (resL Tryd.prog (fun j => bif Nat.beq j 6 then t6_3 else bif Nat.beq j 7 then t30_34 else undef) w_36 [(ResultVar.cell 6 24), (ResultVar.tmp 7)]) w_36 k)
theorem e33 (k : KV) (p0 : Value) (i1 : Value) (item2 : Value) (w : World) : K KD Tryd.prog 31 (fun j =>  []) (fun j =>  none) (Tryd.f33.body.getD .skip) (retQ Tryd.prog Tryd.f33 k) (argF [p0, i1, item2]) w = T33 k p0 i1 item2 w := by kernel_rfl
theorem c33 {k : KV} {p0 : Value} {i1 : Value} {item2 : Value} {w : World} (h : T33 k p0 i1 item2 w) : Cl Tryd.prog 33 [p0, i1, item2] w k :=
  Cl_of_K KD_sound mixed Tryd.func33 (by kernel_rfl) (by kernel_rfl) ((e33 k p0 i1 item2 w).symm ▸ h)

/-- Function 34: almonry/almonryref03.With. -/
def T34 (k : KV) (p0 : Value) (i1 : Value) (item2 : Value) (w : World) : Prop :=
  New (Value.cells p0) 24 w fun p3_1 w_2 =>
  New #[(Value.int IntKind.i64 0), (Value.int IntKind.i64 0), (Value.int IntKind.i64 0), (Value.int IntKind.i64 0), (Value.string (ByteArray.mk #[])), (Value.slice none 0 0)] 24 w_2 fun t6_3 w_4 =>
  Pu (binV (TypeDesc.int IntKind.i64) .lss i1 (Value.int IntKind.i64 0)) fun t9_5 =>
  Gd (isB false t9_5) (fun kk => kk i1 w_4) w_4 fun t11_6 w_7 =>
  Gd (isB false t9_5) (fun kk => Pu (faV 5 p3_1) fun vv => kk vv w_7) w_7 fun t12_8 w_9 =>
  Gd (isB false t9_5) (fun kk => Ld w_9 t12_8 kk) w_9 fun t13_10 w_11 =>
  Gd (isB false t9_5) (fun kk => Pu (lenV t13_10) fun vv => kk vv w_11) w_11 fun t14_12 w_13 =>
  Gd (isB false t9_5) (fun kk => Pu (binV (TypeDesc.int IntKind.i64) .geq t11_6 t14_12) fun vv => kk vv w_13) w_13 fun t15_14 w_15 =>
  Pu (pickV t9_5 (Value.bool true) t15_14) fun t16_16 =>
  IfB t16_16
    (RunS Tryd.prog (Instr.build 24 #[]) w_15 fun t17_17 w_18 =>
      St 6 w_18 t6_3 t17_17 fun u_19 w_20 =>
      RetO (resL Tryd.prog (fun j => bif Nat.beq j 6 then t6_3 else bif Nat.beq j 7 then (Value.int IntKind.i64 1) else undef) w_20 [(ResultVar.cell 6 24), (ResultVar.tmp 7)]) w_20 k)
    (∃ C_21 : World → Prop, C_21 (World.drew w_15) ∧
  (∃ t18_22, (∀ w_23, C_21 w_23 → LdN 6 w_23 p3_1 fun t18_24 w_25 =>
  t18_24 = t18_22 ∧ w_25 = w_23) ∧
  (Pu (faV 5 p3_1) fun t19_26 =>
  ∃ t20_27, (∀ w_28, C_21 w_28 → Ld w_28 t19_26 fun t20_29 w_30 =>
  t20_29 = t20_27 ∧ w_30 = w_28) ∧
  (Pu (slV 1 t20_27 none (some i1) none) fun t22_31 =>
  Pu (faV 5 p3_1) fun t25_32 =>
  ∃ t26_33, (∀ w_34, C_21 w_34 → Ld w_34 t25_32 fun t26_35 w_36 =>
  t26_35 = t26_33 ∧ w_36 = w_34) ∧
  (Pu (binV (TypeDesc.int IntKind.i64) .add i1 (Value.int IntKind.i64 1)) fun t28_37 =>
  Pu (slV 1 t26_33 (some t28_37) none none) fun t29_38 =>
  RunS Tryd.prog (Instr.buildSlice 22 1 #[(0, item2)]) (World.drew w_15) fun t24_39 w_40 =>
  C_21 w_40 ∧
  (Cl Tryd.prog 63 [t18_22, t22_31, t24_39, t29_38, (Value.bool true)] w_40 fun t30_41 w_42 =>
  Pu (extV t30_41 0) fun t31_43 =>
  Pu (extV t30_41 1) fun t32_44 =>
  St 6 w_42 t6_3 t31_43 fun u_45 w_46 =>
  RetO (resL Tryd.prog (fun j => bif Nat.beq j 6 then t6_3 else bif Nat.beq j 7 then t32_44 else undef) w_46 [(ResultVar.cell 6 24), (ResultVar.tmp 7)]) w_46 k))))))
theorem e34 (k : KV) (p0 : Value) (i1 : Value) (item2 : Value) (w : World) : K KD Tryd.prog 33 (fun j =>  []) (fun j =>  none) (Tryd.f34.body.getD .skip) (retQ Tryd.prog Tryd.f34 k) (argF [p0, i1, item2]) w = T34 k p0 i1 item2 w := by kernel_rfl
theorem c34 {k : KV} {p0 : Value} {i1 : Value} {item2 : Value} {w : World} (h : T34 k p0 i1 item2 w) : Cl Tryd.prog 34 [p0, i1, item2] w k :=
  Cl_of_K KD_sound mixed Tryd.func34 (by kernel_rfl) (by kernel_rfl) ((e34 k p0 i1 item2 w).symm ▸ h)

/-- Function 35: almonry/almonryref03.Put. -/
def T35 (k : KV) (p0 : Value) (i1 : Value) (item2 : Value) (w : World) : Prop :=
  New (Value.cells p0) 24 w fun p3_1 w_2 =>
  New #[(Value.int IntKind.i64 0), (Value.int IntKind.i64 0), (Value.int IntKind.i64 0), (Value.int IntKind.i64 0), (Value.string (ByteArray.mk #[])), (Value.slice none 0 0)] 24 w_2 fun t6_3 w_4 =>
  Pu (binV (TypeDesc.int IntKind.i64) .lss i1 (Value.int IntKind.i64 0)) fun t9_5 =>
  Gd (isB false t9_5) (fun kk => kk i1 w_4) w_4 fun t11_6 w_7 =>
  Gd (isB false t9_5) (fun kk => Pu (faV 5 p3_1) fun vv => kk vv w_7) w_7 fun t12_8 w_9 =>
  Gd (isB false t9_5) (fun kk => Ld w_9 t12_8 kk) w_9 fun t13_10 w_11 =>
  Gd (isB false t9_5) (fun kk => Pu (lenV t13_10) fun vv => kk vv w_11) w_11 fun t14_12 w_13 =>
  Gd (isB false t9_5) (fun kk => Pu (binV (TypeDesc.int IntKind.i64) .gtr t11_6 t14_12) fun vv => kk vv w_13) w_13 fun t15_14 w_15 =>
  Pu (pickV t9_5 (Value.bool true) t15_14) fun t16_16 =>
  IfB t16_16
    (RunS Tryd.prog (Instr.build 24 #[]) w_15 fun t17_17 w_18 =>
      St 6 w_18 t6_3 t17_17 fun u_19 w_20 =>
      RetO (resL Tryd.prog (fun j => bif Nat.beq j 6 then t6_3 else bif Nat.beq j 7 then (Value.int IntKind.i64 1) else undef) w_20 [(ResultVar.cell 6 24), (ResultVar.tmp 7)]) w_20 k)
    (∃ C_21 : World → Prop, C_21 (World.drew w_15) ∧
  (∃ t18_22, (∀ w_23, C_21 w_23 → LdN 6 w_23 p3_1 fun t18_24 w_25 =>
  t18_24 = t18_22 ∧ w_25 = w_23) ∧
  (Pu (faV 5 p3_1) fun t19_26 =>
  ∃ t20_27, (∀ w_28, C_21 w_28 → Ld w_28 t19_26 fun t20_29 w_30 =>
  t20_29 = t20_27 ∧ w_30 = w_28) ∧
  (Pu (slV 1 t20_27 none (some i1) none) fun t22_31 =>
  Pu (faV 5 p3_1) fun t25_32 =>
  ∃ t26_33, (∀ w_34, C_21 w_34 → Ld w_34 t25_32 fun t26_35 w_36 =>
  t26_35 = t26_33 ∧ w_36 = w_34) ∧
  (Pu (slV 1 t26_33 (some i1) none none) fun t28_37 =>
  RunS Tryd.prog (Instr.buildSlice 22 1 #[(0, item2)]) (World.drew w_15) fun t24_38 w_39 =>
  C_21 w_39 ∧
  (Cl Tryd.prog 63 [t18_22, t22_31, t24_38, t28_37, (Value.bool true)] w_39 fun t29_40 w_41 =>
  Pu (extV t29_40 0) fun t30_42 =>
  Pu (extV t29_40 1) fun t31_43 =>
  St 6 w_41 t6_3 t30_42 fun u_44 w_45 =>
  RetO (resL Tryd.prog (fun j => bif Nat.beq j 6 then t6_3 else bif Nat.beq j 7 then t31_43 else undef) w_45 [(ResultVar.cell 6 24), (ResultVar.tmp 7)]) w_45 k))))))
theorem e35 (k : KV) (p0 : Value) (i1 : Value) (item2 : Value) (w : World) : K KD Tryd.prog 32 (fun j =>  []) (fun j =>  none) (Tryd.f35.body.getD .skip) (retQ Tryd.prog Tryd.f35 k) (argF [p0, i1, item2]) w = T35 k p0 i1 item2 w := by kernel_rfl
theorem c35 {k : KV} {p0 : Value} {i1 : Value} {item2 : Value} {w : World} (h : T35 k p0 i1 item2 w) : Cl Tryd.prog 35 [p0, i1, item2] w k :=
  Cl_of_K KD_sound mixed Tryd.func35 (by kernel_rfl) (by kernel_rfl) ((e35 k p0 i1 item2 w).symm ▸ h)

/-- Function 36: almonry/almonryref03.Out. -/
def T36 (k : KV) (p0 : Value) (i1 : Value) (w : World) : Prop :=
  New (Value.cells p0) 24 w fun p2_1 w_2 =>
  New #[(Value.int IntKind.i64 0), (Value.int IntKind.i64 0), (Value.int IntKind.i64 0), (Value.int IntKind.i64 0), (Value.string (ByteArray.mk #[])), (Value.slice none 0 0)] 24 w_2 fun t4_3 w_4 =>
  Pu (binV (TypeDesc.int IntKind.i64) .lss i1 (Value.int IntKind.i64 0)) fun t7_5 =>
  Gd (isB false t7_5) (fun kk => kk i1 w_4) w_4 fun t9_6 w_7 =>
  Gd (isB false t7_5) (fun kk => Pu (faV 5 p2_1) fun vv => kk vv w_7) w_7 fun t10_8 w_9 =>
  Gd (isB false t7_5) (fun kk => Ld w_9 t10_8 kk) w_9 fun t11_10 w_11 =>
  Gd (isB false t7_5) (fun kk => Pu (lenV t11_10) fun vv => kk vv w_11) w_11 fun t12_12 w_13 =>
  Gd (isB false t7_5) (fun kk => Pu (binV (TypeDesc.int IntKind.i64) .geq t9_6 t12_12) fun vv => kk vv w_13) w_13 fun t13_14 w_15 =>
  Pu (pickV t7_5 (Value.bool true) t13_14) fun t14_16 =>
  IfB t14_16
    (RunS Tryd.prog (Instr.build 24 #[]) w_15 fun t15_17 w_18 =>
      St 6 w_18 t4_3 t15_17 fun u_19 w_20 =>
      RetO (resL Tryd.prog (fun j => bif Nat.beq j 4 then t4_3 else bif Nat.beq j 5 then (Value.int IntKind.i64 1) else undef) w_20 [(ResultVar.cell 4 24), (ResultVar.tmp 5)]) w_20 k)
    (LdN 6 (World.drew w_15) p2_1 fun t16_21 w_22 =>
  w_22 = (World.drew w_15) ∧
  Pu (faV 5 p2_1) fun t17_23 =>
  Ld (World.drew w_15) t17_23 fun t18_24 w_25 =>
  w_25 = (World.drew w_15) ∧
  Pu (slV 1 t18_24 none (some i1) none) fun t20_26 =>
  Pu (faV 5 p2_1) fun t21_27 =>
  Ld (World.drew w_15) t21_27 fun t22_28 w_29 =>
  w_29 = (World.drew w_15) ∧
  Pu (binV (TypeDesc.int IntKind.i64) .add i1 (Value.int IntKind.i64 1)) fun t24_30 =>
  Pu (slV 1 t22_28 (some t24_30) none none) fun t25_31 =>
  Cl Tryd.prog 63 [t16_21, t20_26, (Value.slice none 0 0), t25_31, (Value.bool false)] (World.drew w_15) fun t26_32 w_33 =>
  Pu (extV t26_32 0) fun t27_34 =>
  Pu (extV t26_32 1) fun t28_35 =>
  St 6 w_33 t4_3 t27_34 fun u_36 w_37 =>
  RetO (resL Tryd.prog (fun j => bif Nat.beq j 4 then t4_3 else bif Nat.beq j 5 then t28_35 else undef) w_37 [(ResultVar.cell 4 24), (ResultVar.tmp 5)]) w_37 k)
theorem e36 (k : KV) (p0 : Value) (i1 : Value) (w : World) : K KD Tryd.prog 29 (fun j =>  []) (fun j =>  none) (Tryd.f36.body.getD .skip) (retQ Tryd.prog Tryd.f36 k) (argF [p0, i1]) w = T36 k p0 i1 w := by kernel_rfl
theorem c36 {k : KV} {p0 : Value} {i1 : Value} {w : World} (h : T36 k p0 i1 w) : Cl Tryd.prog 36 [p0, i1] w k :=
  Cl_of_K KD_sound mixed Tryd.func36 (by kernel_rfl) (by kernel_rfl) ((e36 k p0 i1 w).symm ▸ h)

/-- Function 45: almonry/page.fits. -/
def T45 (k : KV) (p0 : Value) (w : World) : Prop :=
  New (Value.cells p0) 24 w fun p1_1 w_2 =>
  Pu (faV 5 p1_1) fun t3_3 =>
  Ld w_2 t3_3 fun t4_4 w_5 =>
  Pu (lenV t4_4) fun t5_6 =>
  Pu (binV (TypeDesc.int IntKind.i64) .leq t5_6 (Value.int IntKind.i64 255)) fun t6_7 =>
  Gd (isB true t6_7) (fun kk => LdN 6 w_5 p1_1 kk) w_5 fun t8_8 w_9 =>
  Gd (isB true t6_7) (fun kk => Cl Tryd.prog 18 [t8_8] w_9 kk) w_9 fun t9_10 w_11 =>
  Gd (isB true t6_7) (fun kk => Pu (binV (TypeDesc.int IntKind.i64) .leq t9_10 (Value.int IntKind.i64 512)) fun vv => kk vv w_11) w_11 fun t10_12 w_13 =>
  Pu (pickV t6_7 t10_12 (Value.bool false)) fun t11_14 =>
  k t11_14 w_13
theorem e45 (k : KV) (p0 : Value) (w : World) : K KD Tryd.prog 12 (fun j =>  []) (fun j =>  none) (Tryd.f45.body.getD .skip) (retQ Tryd.prog Tryd.f45 k) (argF [p0]) w = T45 k p0 w := by kernel_rfl
theorem c45 {k : KV} {p0 : Value} {w : World} (h : T45 k p0 w) : Cl Tryd.prog 45 [p0] w k :=
  Cl_of_K KD_sound mixed Tryd.func45 (by kernel_rfl) (by kernel_rfl) ((e45 k p0 w).symm ▸ h)

/-- Function 47: almonry/bits.Big. -/
def T47 (k : KV) (n0 : Value) (width1 : Value) (w : World) : Prop :=
  Pu (binV (TypeDesc.int IntKind.i64) .lss width1 (Value.int IntKind.i64 1)) fun t8_1 =>
  Gd (isB false t8_1) (fun kk => kk width1 w) w fun t10_2 w_3 =>
  Gd (isB false t8_1) (fun kk => Pu (binV (TypeDesc.int IntKind.i64) .gtr t10_2 (Value.int IntKind.i64 8)) fun vv => kk vv w_3) w_3 fun t11_4 w_5 =>
  Pu (pickV t8_1 (Value.bool true) t11_4) fun t12_6 =>
  Gd (isB false t12_6) (fun kk => kk n0 w_5) w_5 fun t14_7 w_8 =>
  Gd (isB false t12_6) (fun kk => Pu (binV (TypeDesc.int IntKind.i64) .lss t14_7 (Value.int IntKind.i64 0)) fun vv => kk vv w_8) w_8 fun t15_9 w_10 =>
  Pu (pickV t12_6 (Value.bool true) t15_9) fun t16_11 =>
  IfB t16_11
    (k (Value.string (ByteArray.mk #[])) w_10)
    (RunS Tryd.prog (Instr.makeSlice 38 width1 width1) w_10 fun t18_12 w_13 =>
  Pu (lenV t18_12) fun t20_14 =>
  ∃ (I_15 : List Value → World → Prop) (m_16 : List Value → World → Nat), I_15 [(Value.int IntKind.i64 0)] w_13 ∧
  ∀ (g_35 : Fr) (w_34 : World), ∀ t21_19 : Value, I_15 [t21_19] w_34 →
    (Pu (binV (TypeDesc.int IntKind.i64) .lss t21_19 t20_14) fun t22_36 =>
    IfB t22_36
      (Pu (binV (TypeDesc.int IntKind.i64) .sub width1 (Value.int IntKind.i64 1)) fun t28_37 =>
    Pu (binV (TypeDesc.int IntKind.i64) .sub t28_37 t21_19) fun t30_38 =>
    Pu (binV (TypeDesc.int IntKind.i64) .mul (Value.int IntKind.i64 8) t30_38) fun t31_39 =>
    Pu (binV (TypeDesc.int IntKind.i64) .shr n0 t31_39) fun t32_40 =>
    Pu (cvI IntKind.u8 t32_40) fun t33_41 =>
    Pu (ixV 1 t18_12 t21_19) fun t34_42 =>
    St 1 w_34 t34_42 t33_41 fun u_43 w_44 =>
    Pu (binV (TypeDesc.int IntKind.i64) .add t21_19 (Value.int IntKind.i64 1)) fun t35_45 =>
    I_15 [t35_45] w_44 ∧ m_16 [t35_45] w_44 < m_16 [t21_19] w_34)
      (RunS Tryd.prog (convert 38 9 t18_12) w_34 fun t37_46 w_47 =>
  k t37_46 w_47)))
theorem e47 (k : KV) (n0 : Value) (width1 : Value) (w : World) : K KD Tryd.prog 38 (fun j => bif Nat.beq j 5 then [21] else []) (fun j =>  none) (Tryd.f47.body.getD .skip) (retQ Tryd.prog Tryd.f47 k) (argF [n0, width1]) w = T47 k n0 width1 w := by kernel_rfl
theorem c47 {k : KV} {n0 : Value} {width1 : Value} {w : World} (h : T47 k n0 width1 w) : Cl Tryd.prog 47 [n0, width1] w k :=
  Cl_of_K KD_sound mixed Tryd.func47 (by kernel_rfl) (by kernel_rfl) ((e47 k n0 width1 w).symm ▸ h)

/-- Function 50: almonry/bits.Sum. -/
def T50 (k : KV) (data0 : Value) (w : World) : Prop :=
  Pu (lenS data0) fun t6_1 =>
  ∃ (I_2 : List Value → World → Prop) (m_3 : List Value → World → Nat), I_2 [(Value.int IntKind.u32 4294967295), (Value.int IntKind.i64 0)] w ∧
  ∀ (g_23 : Fr) (w_22 : World), ∀ c3_5 : Value, ∀ t7_7 : Value, I_2 [c3_5, t7_7] w_22 →
    (Pu (binV (TypeDesc.int IntKind.i64) .lss t7_7 t6_1) fun t8_24 =>
    IfB t8_24
      (Pu (binV (TypeDesc.int IntKind.u32) .shr c3_5 (Value.int IntKind.u64 8)) fun t11_25 =>
    Pu (binV (TypeDesc.int IntKind.u32) .and c3_5 (Value.int IntKind.u32 255)) fun t13_26 =>
    Pu (ixS data0 t7_7) fun t16_27 =>
    Pu (cvI IntKind.u32 t16_27) fun t17_28 =>
    Pu (binV (TypeDesc.int IntKind.u32) .xor t13_26 t17_28) fun t18_29 =>
    Cl Tryd.prog 79 [t18_29] w_22 fun t19_30 w_31 =>
    Pu (binV (TypeDesc.int IntKind.u32) .xor t11_25 t19_30) fun t20_32 =>
    Pu (binV (TypeDesc.int IntKind.i64) .add t7_7 (Value.int IntKind.i64 1)) fun t21_33 =>
    I_2 [t20_32, t21_33] w_31 ∧ m_3 [t20_32, t21_33] w_31 < m_3 [c3_5, t7_7] w_22)
      (Pu (unV .xor c3_5) fun t23_34 =>
  k t23_34 w_22))
theorem e50 (k : KV) (data0 : Value) (w : World) : K KD Tryd.prog 24 (fun j => bif Nat.beq j 3 then [3, 7] else []) (fun j =>  none) (Tryd.f50.body.getD .skip) (retQ Tryd.prog Tryd.f50 k) (argF [data0]) w = T50 k data0 w := by kernel_rfl
theorem c50 {k : KV} {data0 : Value} {w : World} (h : T50 k data0 w) : Cl Tryd.prog 50 [data0] w k :=
  Cl_of_K KD_sound mixed Tryd.func50 (by kernel_rfl) (by kernel_rfl) ((e50 k data0 w).symm ▸ h)

/-- Function 52: almonry/almonryref01.Big. -/
def T52 (k : KV) (n0 : Value) (width1 : Value) (w : World) : Prop :=
  Pu (binV (TypeDesc.int IntKind.i64) .lss width1 (Value.int IntKind.i64 1)) fun t8_1 =>
  Gd (isB false t8_1) (fun kk => kk width1 w) w fun t10_2 w_3 =>
  Gd (isB false t8_1) (fun kk => Pu (binV (TypeDesc.int IntKind.i64) .gtr t10_2 (Value.int IntKind.i64 8)) fun vv => kk vv w_3) w_3 fun t11_4 w_5 =>
  Pu (pickV t8_1 (Value.bool true) t11_4) fun t12_6 =>
  Gd (isB false t12_6) (fun kk => kk n0 w_5) w_5 fun t14_7 w_8 =>
  Gd (isB false t12_6) (fun kk => Pu (binV (TypeDesc.int IntKind.i64) .lss t14_7 (Value.int IntKind.i64 0)) fun vv => kk vv w_8) w_8 fun t15_9 w_10 =>
  Pu (pickV t12_6 (Value.bool true) t15_9) fun t16_11 =>
  IfB t16_11
    (k (Value.string (ByteArray.mk #[])) w_10)
    (RunS Tryd.prog (Instr.makeSlice 38 width1 width1) w_10 fun t18_12 w_13 =>
  Pu (binV (TypeDesc.int IntKind.i64) .sub width1 (Value.int IntKind.i64 1)) fun t20_14 =>
  ∃ (I_15 : List Value → World → Prop) (m_16 : List Value → World → Nat), I_15 [n0, t20_14] w_13 ∧
  ∀ (g_33 : Fr) (w_32 : World), ∀ n0_18 : Value, ∀ i6_19 : Value, I_15 [n0_18, i6_19] w_32 →
    (Pu (binV (TypeDesc.int IntKind.i64) .geq i6_19 (Value.int IntKind.i64 0)) fun t22_34 =>
    IfB t22_34
      (Pu (binV (TypeDesc.int IntKind.i64) .rem n0_18 (Value.int IntKind.i64 256)) fun t28_35 =>
    Pu (cvI IntKind.u8 t28_35) fun t29_36 =>
    Pu (ixV 1 t18_12 i6_19) fun t30_37 =>
    St 1 w_32 t30_37 t29_36 fun u_38 w_39 =>
    Pu (binV (TypeDesc.int IntKind.i64) .quo n0_18 (Value.int IntKind.i64 256)) fun t32_40 =>
    Pu (binV (TypeDesc.int IntKind.i64) .sub i6_19 (Value.int IntKind.i64 1)) fun t24_41 =>
    I_15 [t32_40, t24_41] w_39 ∧ m_16 [t32_40, t24_41] w_39 < m_16 [n0_18, i6_19] w_32)
      (RunS Tryd.prog (convert 38 9 t18_12) w_32 fun t34_42 w_43 =>
  k t34_42 w_43)))
theorem e52 (k : KV) (n0 : Value) (width1 : Value) (w : World) : K KD Tryd.prog 35 (fun j => bif Nat.beq j 5 then [0, 6] else []) (fun j =>  none) (Tryd.f52.body.getD .skip) (retQ Tryd.prog Tryd.f52 k) (argF [n0, width1]) w = T52 k n0 width1 w := by kernel_rfl
theorem c52 {k : KV} {n0 : Value} {width1 : Value} {w : World} (h : T52 k n0 width1 w) : Cl Tryd.prog 52 [n0, width1] w k :=
  Cl_of_K KD_sound mixed Tryd.func52 (by kernel_rfl) (by kernel_rfl) ((e52 k n0 width1 w).symm ▸ h)

/-- Function 53: almonry/almonryref01.Sum. -/
def T53 (k : KV) (data0 : Value) (w : World) : Prop :=
  ∃ (I_1 : List Value → World → Prop) (m_2 : List Value → World → Nat), I_1 [(Value.int IntKind.u32 4294967295), (Value.int IntKind.i64 0)] w ∧
  ∀ (g_33 : Fr) (w_32 : World), ∀ c3_4 : Value, ∀ i4_5 : Value, I_1 [c3_4, i4_5] w_32 →
    (Pu (lenS data0) fun t9_34 =>
    Pu (binV (TypeDesc.int IntKind.i64) .lss i4_5 t9_34) fun t10_35 =>
    IfB t10_35
      (Pu (ixS data0 i4_5) fun t16_36 =>
    Pu (cvI IntKind.u32 t16_36) fun t17_37 =>
    Pu (binV (TypeDesc.int IntKind.u32) .xor c3_4 t17_37) fun t18_38 =>
    ∃ (I_39 : List Value → World → Prop) (m_40 : List Value → World → Nat), I_39 [t18_38, (Value.int IntKind.i64 0)] w_32 ∧
    ∀ (g_58 : Fr) (w_57 : World), ∀ c3_42 : Value, ∀ kv5_43 : Value, I_39 [c3_42, kv5_43] w_57 →
      (Pu (binV (TypeDesc.int IntKind.i64) .lss kv5_43 (Value.int IntKind.i64 8)) fun t20_59 =>
      IfB t20_59
        (Jn (fun vs_72 w_71 => ∀ g_73 : Fr, ∃ c3_61 : Value, vs_72 = [c3_61] ∧
          (Pu (binV (TypeDesc.int IntKind.i64) .add kv5_43 (Value.int IntKind.i64 1)) fun t22_74 =>
          I_39 [c3_61, t22_74] w_71 ∧ m_40 [c3_61, t22_74] w_71 < m_40 [c3_42, kv5_43] w_57))
        (fun jj_60 =>
        Pu (binV (TypeDesc.int IntKind.u32) .rem c3_42 (Value.int IntKind.u32 2)) fun t24_75 =>
        Pu (binV (TypeDesc.int IntKind.u32) .eql t24_75 (Value.int IntKind.u32 1)) fun t25_76 =>
        Pu (binV (TypeDesc.int IntKind.u32) .quo c3_42 (Value.int IntKind.u32 2)) fun t27_77 =>
        IfB t25_76
          (Pu (binV (TypeDesc.int IntKind.u32) .xor t27_77 (Value.int IntKind.u32 3988292384)) fun t30_78 =>
            jj_60 [t30_78] w_57)
          (jj_60 [t27_77] w_57)))
        (Pu (binV (TypeDesc.int IntKind.i64) .add i4_5 (Value.int IntKind.i64 1)) fun t12_79 =>
    I_1 [c3_42, t12_79] w_57 ∧ m_2 [c3_42, t12_79] w_57 < m_2 [c3_4, i4_5] w_32)))
      (Pu (binV (TypeDesc.int IntKind.u32) .xor c3_4 (Value.int IntKind.u32 4294967295)) fun t32_80 =>
  k t32_80 w_32))
theorem e53 (k : KV) (data0 : Value) (w : World) : K KD Tryd.prog 33 (fun j => bif Nat.beq j 7 then [3, 5] else bif Nat.beq j 3 then [3, 4] else []) (fun j => bif Nat.beq j 8 then some [3] else none) (Tryd.f53.body.getD .skip) (retQ Tryd.prog Tryd.f53 k) (argF [data0]) w = T53 k data0 w := by kernel_rfl
theorem c53 {k : KV} {data0 : Value} {w : World} (h : T53 k data0 w) : Cl Tryd.prog 53 [data0] w k :=
  Cl_of_K KD_sound mixed Tryd.func53 (by kernel_rfl) (by kernel_rfl) ((e53 k data0 w).symm ▸ h)

/-- Function 54: almonry/bits.Of. -/
def T54 (k : KV) (data0 : Value) (w : World) : Prop :=
  Pu (lenS data0) fun t6_1 =>
  ∃ (I_2 : List Value → World → Prop) (m_3 : List Value → World → Nat), I_2 [(Value.int IntKind.u64 0), (Value.int IntKind.i64 0)] w ∧
  ∀ (g_19 : Fr) (w_18 : World), ∀ n3_5 : Value, ∀ t7_7 : Value, I_2 [n3_5, t7_7] w_18 →
    (Pu (binV (TypeDesc.int IntKind.i64) .lss t7_7 t6_1) fun t8_20 =>
    IfB t8_20
      (Pu (binV (TypeDesc.int IntKind.u64) .shl n3_5 (Value.int IntKind.u64 8)) fun t11_21 =>
    Pu (ixS data0 t7_7) fun t14_22 =>
    Pu (cvI IntKind.u64 t14_22) fun t15_23 =>
    Pu (binV (TypeDesc.int IntKind.u64) .or t11_21 t15_23) fun t16_24 =>
    Pu (binV (TypeDesc.int IntKind.i64) .add t7_7 (Value.int IntKind.i64 1)) fun t17_25 =>
    I_2 [t16_24, t17_25] w_18 ∧ m_3 [t16_24, t17_25] w_18 < m_3 [n3_5, t7_7] w_18)
      (Pu (binV (TypeDesc.int IntKind.u64) .andNot n3_5 (Value.int IntKind.u64 9223372036854775808)) fun t19_26 =>
  Pu (cvI IntKind.i64 t19_26) fun t20_27 =>
  k t20_27 w_18))
theorem e54 (k : KV) (data0 : Value) (w : World) : K KD Tryd.prog 21 (fun j => bif Nat.beq j 3 then [3, 7] else []) (fun j =>  none) (Tryd.f54.body.getD .skip) (retQ Tryd.prog Tryd.f54 k) (argF [data0]) w = T54 k data0 w := by kernel_rfl
theorem c54 {k : KV} {data0 : Value} {w : World} (h : T54 k data0 w) : Cl Tryd.prog 54 [data0] w k :=
  Cl_of_K KD_sound mixed Tryd.func54 (by kernel_rfl) (by kernel_rfl) ((e54 k data0 w).symm ▸ h)

/-- Function 55: almonry/page.cut. -/
def T55 (k : KV) (s0 : Value) (n1 : Value) (w : World) : Prop :=
  Pu (nilV s0) fun t9_1 =>
  Ld w t9_1 fun t10_2 w_3 =>
  Pu (lenS t10_2) fun t11_4 =>
  Pu (binV (TypeDesc.int IntKind.i64) .gtr n1 t11_4) fun t12_5 =>
  IfB t12_5
    (k (.tuple #[(Value.string (ByteArray.mk #[])), (Value.bool false)]) w_3)
    (Pu (nilV s0) fun t14_6 =>
  Ld w_3 t14_6 fun t15_7 w_8 =>
  Pu (slS t15_7 none (some n1)) fun t17_9 =>
  Pu (nilV s0) fun t20_10 =>
  Ld w_8 t20_10 fun t21_11 w_12 =>
  Pu (slS t21_11 (some n1) none) fun t23_13 =>
  Pu (nilV s0) fun t24_14 =>
  St 1 w_12 t24_14 t23_13 fun u_15 w_16 =>
  k (.tuple #[t17_9, (Value.bool true)]) w_16)
theorem e55 (k : KV) (s0 : Value) (n1 : Value) (w : World) : K KD Tryd.prog 26 (fun j =>  []) (fun j =>  none) (Tryd.f55.body.getD .skip) (retQ Tryd.prog Tryd.f55 k) (argF [s0, n1]) w = T55 k s0 n1 w := by kernel_rfl
theorem c55 {k : KV} {s0 : Value} {n1 : Value} {w : World} (h : T55 k s0 n1 w) : Cl Tryd.prog 55 [s0, n1] w k :=
  Cl_of_K KD_sound mixed Tryd.func55 (by kernel_rfl) (by kernel_rfl) ((e55 k s0 n1 w).symm ▸ h)

/-- Function 56: strings.Trim. -/
def T56 (k : KV) (s0 : Value) (cutset1 : Value) (w : World) : Prop :=
  Pu (binV TypeDesc.string .eql s0 (Value.string (ByteArray.mk #[]))) fun t8_1 =>
  Gd (isB false t8_1) (fun kk => kk cutset1 w) w fun t10_2 w_3 =>
  Gd (isB false t8_1) (fun kk => Pu (binV TypeDesc.string .eql t10_2 (Value.string (ByteArray.mk #[]))) fun vv => kk vv w_3) w_3 fun t11_4 w_5 =>
  Pu (pickV t8_1 (Value.bool true) t11_4) fun t12_6 =>
  IfB t12_6
    (k s0 w_5)
    (Pu (lenS cutset1) fun t15_7 =>
  Pu (binV (TypeDesc.int IntKind.i64) .eql t15_7 (Value.int IntKind.i64 1)) fun t16_8 =>
  Gd (isB true t16_8) (fun kk => kk cutset1 w_5) w_5 fun t18_9 w_10 =>
  Gd (isB true t16_8) (fun kk => Pu (ixS t18_9 (Value.int IntKind.i64 0)) fun vv => kk vv w_10) w_10 fun t19_11 w_12 =>
  Gd (isB true t16_8) (fun kk => Pu (binV (TypeDesc.int IntKind.u8) .lss t19_11 (Value.int IntKind.u8 128)) fun vv => kk vv w_12) w_12 fun t20_13 w_14 =>
  Pu (pickV t16_8 t20_13 (Value.bool false)) fun t21_15 =>
  IfB t21_15
    (Pu (ixS cutset1 (Value.int IntKind.i64 0)) fun t24_16 =>
      Pu (ixS cutset1 (Value.int IntKind.i64 0)) fun t27_17 =>
      Cl Tryd.prog 81 [s0, t24_16] (World.drew w_14) fun t25_18 w_19 =>
      Cl Tryd.prog 80 [t25_18, t27_17] w_19 fun t28_20 w_21 =>
      k t28_20 w_21)
    (Cl Tryd.prog 82 [cutset1] w_14 fun t31_22 w_23 =>
  Pu (extV t31_22 0) fun t32_24 =>
  Pu (extV t31_22 1) fun t33_25 =>
  New #[(Value.bool false), (Value.bool false), (Value.bool false), (Value.bool false), (Value.bool false), (Value.bool false), (Value.bool false), (Value.bool false), (Value.bool false), (Value.bool false), (Value.bool false), (Value.bool false), (Value.bool false), (Value.bool false), (Value.bool false), (Value.bool false), (Value.bool false), (Value.bool false), (Value.bool false), (Value.bool false), (Value.bool false), (Value.bool false), (Value.bool false), (Value.bool false), (Value.bool false), (Value.bool false), (Value.bool false), (Value.bool false), (Value.bool false), (Value.bool false), (Value.bool false), (Value.bool false), (Value.bool false), (Value.bool false), (Value.bool false), (Value.bool false), (Value.bool false), (Value.bool false), (Value.bool false), (Value.bool false), (Value.bool false), (Value.bool false), (Value.bool false), (Value.bool false), (Value.bool false), (Value.bool false), (Value.bool false), (Value.bool false), (Value.bool false), (Value.bool false), (Value.bool false), (Value.bool false), (Value.bool false), (Value.bool false), (Value.bool false), (Value.bool false), (Value.bool false), (Value.bool false), (Value.bool false), (Value.bool false), (Value.bool false), (Value.bool false), (Value.bool false), (Value.bool false), (Value.bool false), (Value.bool false), (Value.bool false), (Value.bool false), (Value.bool false), (Value.bool false), (Value.bool false), (Value.bool false), (Value.bool false), (Value.bool false), (Value.bool false), (Value.bool false), (Value.bool false), (Value.bool false), (Value.bool false), (Value.bool false), (Value.bool false), (Value.bool false), (Value.bool false), (Value.bool false), (Value.bool false), (Value.bool false), (Value.bool false), (Value.bool false), (Value.bool false), (Value.bool false), (Value.bool false), (Value.bool false), (Value.bool false), (Value.bool false), (Value.bool false), (Value.bool false), (Value.bool false), (Value.bool false), (Value.bool false), (Value.bool false), (Value.bool false), (Value.bool false), (Value.bool false), (Value.bool false), (Value.bool false), (Value.bool false), (Value.bool false), (Value.bool false), (Value.bool false), (Value.bool false), (Value.bool false), (Value.bool false), (Value.bool false), (Value.bool false), (Value.bool false), (Value.bool false), (Value.bool false), (Value.bool false), (Value.bool false), (Value.bool false), (Value.bool false), (Value.bool false), (Value.bool false), (Value.bool false), (Value.bool false), (Value.bool false), (Value.bool false), (Value.bool false), (Value.bool false), (Value.bool false), (Value.bool false), (Value.bool false), (Value.bool false), (Value.bool false), (Value.bool false), (Value.bool false), (Value.bool false), (Value.bool false), (Value.bool false), (Value.bool false), (Value.bool false), (Value.bool false), (Value.bool false), (Value.bool false), (Value.bool false), (Value.bool false), (Value.bool false), (Value.bool false), (Value.bool false), (Value.bool false), (Value.bool false), (Value.bool false), (Value.bool false), (Value.bool false), (Value.bool false), (Value.bool false), (Value.bool false), (Value.bool false), (Value.bool false), (Value.bool false), (Value.bool false), (Value.bool false), (Value.bool false), (Value.bool false), (Value.bool false), (Value.bool false), (Value.bool false), (Value.bool false), (Value.bool false), (Value.bool false), (Value.bool false), (Value.bool false), (Value.bool false), (Value.bool false), (Value.bool false), (Value.bool false), (Value.bool false), (Value.bool false), (Value.bool false), (Value.bool false), (Value.bool false), (Value.bool false), (Value.bool false), (Value.bool false), (Value.bool false), (Value.bool false), (Value.bool false), (Value.bool false), (Value.bool false), (Value.bool false), (Value.bool false), (Value.bool false), (Value.bool false), (Value.bool false), (Value.bool false), (Value.bool false), (Value.bool false), (Value.bool false), (Value.bool false), (Value.bool false), (Value.bool false), (Value.bool false), (Value.bool false), (Value.bool false), (Value.bool false), (Value.bool false), (Value.bool false), (Value.bool false), (Value.bool false), (Value.bool false), (Value.bool false), (Value.bool false), (Value.bool false), (Value.bool false), (Value.bool false), (Value.bool false), (Value.bool false), (Value.bool false), (Value.bool false), (Value.bool false), (Value.bool false), (Value.bool false), (Value.bool false), (Value.bool false), (Value.bool false), (Value.bool false), (Value.bool false), (Value.bool false), (Value.bool false), (Value.bool false), (Value.bool false), (Value.bool false), (Value.bool false), (Value.bool false), (Value.bool false), (Value.bool false), (Value.bool false), (Value.bool false), (Value.bool false), (Value.bool false), (Value.bool false), (Value.bool false), (Value.bool false), (Value.bool false), (Value.bool false), (Value.bool false), (Value.bool false), (Value.bool false), (Value.bool false), (Value.bool false), (Value.bool false), (Value.bool false), (Value.bool false), (Value.bool false), (Value.bool false), (Value.bool false)] 113 w_23 fun as5_26 w_27 =>
  St 256 w_27 as5_26 t32_24 fun u_28 w_29 =>
  IfB t33_25
    (Cl Tryd.prog 84 [s0, as5_26] w_29 fun t36_30 w_31 =>
      Cl Tryd.prog 83 [t36_30, as5_26] w_31 fun t37_32 w_33 =>
      k t37_32 w_33)
    (Cl Tryd.prog 86 [s0, cutset1] w_29 fun t40_34 w_35 =>
  Cl Tryd.prog 85 [t40_34, cutset1] w_35 fun t42_36 w_37 =>
  k t42_36 w_37)))
theorem e56 (k : KV) (s0 : Value) (cutset1 : Value) (w : World) : K KD Tryd.prog 43 (fun j =>  []) (fun j =>  none) (Tryd.f56.body.getD .skip) (retQ Tryd.prog Tryd.f56 k) (argF [s0, cutset1]) w = T56 k s0 cutset1 w := by kernel_rfl
theorem c56 {k : KV} {s0 : Value} {cutset1 : Value} {w : World} (h : T56 k s0 cutset1 w) : Cl Tryd.prog 56 [s0, cutset1] w k :=
  Cl_of_K KD_sound mixed Tryd.func56 (by kernel_rfl) (by kernel_rfl) ((e56 k s0 cutset1 w).symm ▸ h)

/-- Function 57: almonry/almonryref01.Of. -/
def T57 (k : KV) (data0 : Value) (w : World) : Prop :=
  ∃ (I_1 : List Value → World → Prop) (m_2 : List Value → World → Nat), I_1 [(Value.int IntKind.i64 0), (Value.int IntKind.i64 0)] w ∧
  ∀ (g_21 : Fr) (w_20 : World), ∀ n3_4 : Value, ∀ i4_5 : Value, I_1 [n3_4, i4_5] w_20 →
    (Pu (lenS data0) fun t7_22 =>
    Pu (binV (TypeDesc.int IntKind.i64) .lss i4_5 t7_22) fun t8_23 =>
    IfB t8_23
      (Pu (binV (TypeDesc.int IntKind.i64) .rem n3_4 (Value.int IntKind.i64 36028797018963968)) fun t12_24 =>
    Pu (binV (TypeDesc.int IntKind.i64) .mul t12_24 (Value.int IntKind.i64 256)) fun t13_25 =>
    Pu (ixS data0 i4_5) fun t16_26 =>
    Pu (cvI IntKind.i64 t16_26) fun t17_27 =>
    Pu (binV (TypeDesc.int IntKind.i64) .add t13_25 t17_27) fun t18_28 =>
    Pu (binV (TypeDesc.int IntKind.i64) .add i4_5 (Value.int IntKind.i64 1)) fun t10_29 =>
    I_1 [t18_28, t10_29] w_20 ∧ m_2 [t18_28, t10_29] w_20 < m_2 [n3_4, i4_5] w_20)
      (k n3_4 w_20))
theorem e57 (k : KV) (data0 : Value) (w : World) : K KD Tryd.prog 20 (fun j => bif Nat.beq j 3 then [3, 4] else []) (fun j =>  none) (Tryd.f57.body.getD .skip) (retQ Tryd.prog Tryd.f57 k) (argF [data0]) w = T57 k data0 w := by kernel_rfl
theorem c57 {k : KV} {data0 : Value} {w : World} (h : T57 k data0 w) : Cl Tryd.prog 57 [data0] w k :=
  Cl_of_K KD_sound mixed Tryd.func57 (by kernel_rfl) (by kernel_rfl) ((e57 k data0 w).symm ▸ h)

/-- Function 58: slices.Equal[[]string,string]. -/
def T58 (k : KV) (s10 : Value) (s21 : Value) (w : World) : Prop :=
  Pu (lenV s10) fun t7_1 =>
  Pu (lenV s21) fun t9_2 =>
  Pu (binV (TypeDesc.int IntKind.i64) .neq t7_1 t9_2) fun t10_3 =>
  IfB t10_3
    (k (Value.bool false) w)
    (Pu (lenV s10) fun t12_4 =>
  ∃ (I_5 : List Value → World → Prop) (m_6 : List Value → World → Nat), I_5 [(Value.int IntKind.i64 0)] w ∧
  ∀ (g_24 : Fr) (w_23 : World), ∀ t13_10 : Value, I_5 [t13_10] w_23 →
    (Pu (binV (TypeDesc.int IntKind.i64) .lss t13_10 t12_4) fun t14_25 =>
    IfB t14_25
      (Pu (ixV 1 s10 t13_10) fun t18_26 =>
    Ld (World.drew w_23) t18_26 fun t19_27 w_28 =>
    w_28 = (World.drew w_23) ∧
    Pu (ixV 1 s21 t13_10) fun t22_29 =>
    Ld (World.drew w_23) t22_29 fun t23_30 w_31 =>
    w_31 = (World.drew w_23) ∧
    Pu (binV TypeDesc.string .neq t19_27 t23_30) fun t24_32 =>
    IfB t24_32
      (k (Value.bool false) (World.drew w_23))
      (Pu (binV (TypeDesc.int IntKind.i64) .add t13_10 (Value.int IntKind.i64 1)) fun t25_33 =>
    I_5 [t25_33] (World.drew w_23) ∧ m_6 [t25_33] (World.drew w_23) < m_6 [t13_10] w_23))
      (k (Value.bool true) w_23)))
theorem e58 (k : KV) (s10 : Value) (s21 : Value) (w : World) : K KD Tryd.prog 26 (fun j => bif Nat.beq j 4 then [13] else []) (fun j =>  none) (Tryd.f58.body.getD .skip) (retQ Tryd.prog Tryd.f58 k) (argF [s10, s21]) w = T58 k s10 s21 w := by kernel_rfl
theorem c58 {k : KV} {s10 : Value} {s21 : Value} {w : World} (h : T58 k s10 s21 w) : Cl Tryd.prog 58 [s10, s21] w k :=
  Cl_of_K KD_sound mixed Tryd.func58 (by kernel_rfl) (by kernel_rfl) ((e58 k s10 s21 w).symm ▸ h)

/-- Function 59: almonry/page.turned. -/
def T59 (k : KV) (p0 : Value) (items1 : Value) (w : World) : Prop :=
  New (Value.cells p0) 24 w fun p2_1 w_2 =>
  New #[(Value.int IntKind.i64 0), (Value.int IntKind.i64 0), (Value.int IntKind.i64 0), (Value.int IntKind.i64 0), (Value.string (ByteArray.mk #[])), (Value.slice none 0 0)] 24 w_2 fun t4_3 w_4 =>
  Pu (faV 5 p2_1) fun t7_5 =>
  St 1 w_4 t7_5 items1 fun u_6 w_7 =>
  LdN 6 w_7 p2_1 fun t8_8 w_9 =>
  Cl Tryd.prog 45 [t8_8] w_9 fun t9_10 w_11 =>
  Pu (unV .not t9_10) fun t10_12 =>
  IfB t10_12
    (RunS Tryd.prog (Instr.build 24 #[]) w_11 fun t11_13 w_14 =>
      St 6 w_14 t4_3 t11_13 fun u_15 w_16 =>
      RetO (resL Tryd.prog (fun j => bif Nat.beq j 4 then t4_3 else bif Nat.beq j 5 then (Value.int IntKind.i64 3) else undef) w_16 [(ResultVar.cell 4 24), (ResultVar.tmp 5)]) w_16 k)
    (LdN 6 w_11 p2_1 fun t12_17 w_18 =>
  St 6 w_18 t4_3 t12_17 fun u_19 w_20 =>
  RetO (resL Tryd.prog (fun j => bif Nat.beq j 4 then t4_3 else bif Nat.beq j 5 then (Value.int IntKind.i64 0) else undef) w_20 [(ResultVar.cell 4 24), (ResultVar.tmp 5)]) w_20 k)
theorem e59 (k : KV) (p0 : Value) (items1 : Value) (w : World) : K KD Tryd.prog 13 (fun j =>  []) (fun j =>  none) (Tryd.f59.body.getD .skip) (retQ Tryd.prog Tryd.f59 k) (argF [p0, items1]) w = T59 k p0 items1 w := by kernel_rfl
theorem c59 {k : KV} {p0 : Value} {items1 : Value} {w : World} (h : T59 k p0 items1 w) : Cl Tryd.prog 59 [p0, items1] w k :=
  Cl_of_K KD_sound mixed Tryd.func59 (by kernel_rfl) (by kernel_rfl) ((e59 k p0 items1 w).symm ▸ h)

/-- Function 61: slices.Clone[[]string,string]. -/
def T61 (k : KV) (s0 : Value) (w : World) : Prop :=
  Pu (binV (TypeDesc.slice 9) .eql s0 (Value.slice none 0 0)) fun t4_1 =>
  IfB t4_1
    (k (Value.slice none 0 0) w)
    (RunS Tryd.prog (Instr.buildSlice 22 0 #[]) w fun t5_2 w_3 =>
  RunS Tryd.prog (Builtin.append_ #[22, 22] 22 #[t5_2, s0]) w_3 fun t7_4 w_5 =>
  k t7_4 w_5)
theorem e61 (k : KV) (s0 : Value) (w : World) : K KD Tryd.prog 8 (fun j =>  []) (fun j =>  none) (Tryd.f61.body.getD .skip) (retQ Tryd.prog Tryd.f61 k) (argF [s0]) w = T61 k s0 w := by kernel_rfl
theorem c61 {k : KV} {s0 : Value} {w : World} (h : T61 k s0 w) : Cl Tryd.prog 61 [s0] w k :=
  Cl_of_K KD_sound mixed Tryd.func61 (by kernel_rfl) (by kernel_rfl) ((e61 k s0 w).symm ▸ h)

/-- Function 62: slices.Delete[[]string,string]. -/
def T62 (k : KV) (s0 : Value) (i1 : Value) (j2 : Value) (w : World) : Prop :=
  Pu (lenV s0) fun t12_1 =>
  Pu (slV 1 s0 (some i1) (some j2) (some t12_1)) fun t13_2 =>
  Pu (binV (TypeDesc.int IntKind.i64) .eql i1 j2) fun t16_3 =>
  IfB t16_3
    (k s0 w)
    (Pu (lenV s0) fun t19_4 =>
  Pu (slV 1 s0 none (some i1) none) fun t22_5 =>
  Pu (slV 1 s0 (some j2) none none) fun t25_6 =>
  RunS Tryd.prog (Builtin.append_ #[22, 22] 22 #[t22_5, t25_6]) (World.drew w) fun t26_7 w_8 =>
  Pu (lenV t26_7) fun t29_9 =>
  Pu (slV 1 t26_7 (some t29_9) (some t19_4) none) fun t31_10 =>
  RunS Tryd.prog (Builtin.clear_ #[22] 0 #[t31_10]) w_8 fun u_11 w_12 =>
  k t26_7 w_12)
theorem e62 (k : KV) (s0 : Value) (i1 : Value) (j2 : Value) (w : World) : K KD Tryd.prog 33 (fun j =>  []) (fun j =>  none) (Tryd.f62.body.getD .skip) (retQ Tryd.prog Tryd.f62 k) (argF [s0, i1, j2]) w = T62 k s0 i1 j2 w := by kernel_rfl
theorem c62 {k : KV} {s0 : Value} {i1 : Value} {j2 : Value} {w : World} (h : T62 k s0 i1 j2 w) : Cl Tryd.prog 62 [s0, i1, j2] w k :=
  Cl_of_K KD_sound mixed Tryd.func62 (by kernel_rfl) (by kernel_rfl) ((e62 k s0 i1 j2 w).symm ▸ h)

/-- Function 63: almonry/almonryref03.changed. -/
def T63 (k : KV) (p0 : Value) (head1 : Value) (item2 : Value) (tail3 : Value) (more4 : Value) (w : World) : Prop :=
  New (Value.cells p0) 24 w fun p5_1 w_2 =>
  New #[(Value.int IntKind.i64 0), (Value.int IntKind.i64 0), (Value.int IntKind.i64 0), (Value.int IntKind.i64 0), (Value.string (ByteArray.mk #[])), (Value.slice none 0 0)] 24 w_2 fun t10_3 w_4 =>
  RunS Tryd.prog (Builtin.append_ #[22, 22] 22 #[(Value.slice none 0 0), head1]) w_4 fun t15_5 w_6 =>
  RunS Tryd.prog (Builtin.append_ #[22, 22] 22 #[t15_5, item2]) w_6 fun t18_7 w_8 =>
  RunS Tryd.prog (Builtin.append_ #[22, 22] 22 #[t18_7, tail3]) w_8 fun t21_9 w_10 =>
  Pu (faV 5 p5_1) fun t23_11 =>
  St 1 w_10 t23_11 t21_9 fun u_12 w_13 =>
  Gd (isB true more4) (fun kk => kk t21_9 w_13) w_13 fun t26_14 w_15 =>
  Gd (isB true more4) (fun kk => Pu (lenV t26_14) fun vv => kk vv w_15) w_15 fun t27_16 w_17 =>
  Gd (isB true more4) (fun kk => Pu (binV (TypeDesc.int IntKind.i64) .gtr t27_16 (Value.int IntKind.i64 255)) fun vv => kk vv w_17) w_17 fun t28_18 w_19 =>
  Gd (isB true more4) (fun kk => kk t28_18 w_19) w_19 fun t29_20 w_21 =>
  Gd (isB false t29_20) (fun kk => LdN 6 w_21 p5_1 kk) w_21 fun t30_22 w_23 =>
  Gd (isB false t29_20) (fun kk => Cl Tryd.prog 19 [t30_22] w_23 kk) w_23 fun t31_24 w_25 =>
  Gd (isB false t29_20) (fun kk => Pu (binV (TypeDesc.int IntKind.i64) .gtr t31_24 (Value.int IntKind.i64 512)) fun vv => kk vv w_25) w_25 fun t32_26 w_27 =>
  Gd (isB true more4) (fun kk => Pu (pickV t29_20 (Value.bool true) t32_26) fun vv => kk vv w_27) w_27 fun t33_28 w_29 =>
  Pu (pickV more4 t33_28 (Value.bool false)) fun t34_30 =>
  IfB t34_30
    (RunS Tryd.prog (Instr.build 24 #[]) w_29 fun t35_31 w_32 =>
      St 6 w_32 t10_3 t35_31 fun u_33 w_34 =>
      RetO (resL Tryd.prog (fun j => bif Nat.beq j 10 then t10_3 else bif Nat.beq j 11 then (Value.int IntKind.i64 3) else undef) w_34 [(ResultVar.cell 10 24), (ResultVar.tmp 11)]) w_34 k)
    (LdN 6 w_29 p5_1 fun t36_35 w_36 =>
  St 6 w_36 t10_3 t36_35 fun u_37 w_38 =>
  RetO (resL Tryd.prog (fun j => bif Nat.beq j 10 then t10_3 else bif Nat.beq j 11 then (Value.int IntKind.i64 0) else undef) w_38 [(ResultVar.cell 10 24), (ResultVar.tmp 11)]) w_38 k)
theorem e63 (k : KV) (p0 : Value) (head1 : Value) (item2 : Value) (tail3 : Value) (more4 : Value) (w : World) : K KD Tryd.prog 37 (fun j =>  []) (fun j =>  none) (Tryd.f63.body.getD .skip) (retQ Tryd.prog Tryd.f63 k) (argF [p0, head1, item2, tail3, more4]) w = T63 k p0 head1 item2 tail3 more4 w := by kernel_rfl
theorem c63 {k : KV} {p0 : Value} {head1 : Value} {item2 : Value} {tail3 : Value} {more4 : Value} {w : World} (h : T63 k p0 head1 item2 tail3 more4 w) : Cl Tryd.prog 63 [p0, head1, item2, tail3, more4] w k :=
  Cl_of_K KD_sound mixed Tryd.func63 (by kernel_rfl) (by kernel_rfl) ((e63 k p0 head1 item2 tail3 more4 w).symm ▸ h)

/-- Function 79: almonry/bits.turned. -/
def T79 (k : KV) (c0 : Value) (w : World) : Prop :=
  ∃ (I_1 : List Value → World → Prop) (m_2 : List Value → World → Nat), I_1 [c0, (Value.int IntKind.i64 0)] w ∧
  ∀ (g_16 : Fr) (w_15 : World), ∀ c0_4 : Value, ∀ t3_5 : Value, I_1 [c0_4, t3_5] w_15 →
    (Pu (binV (TypeDesc.int IntKind.i64) .lss t3_5 (Value.int IntKind.i64 8)) fun t4_17 =>
    IfB t4_17
      (Pu (binV (TypeDesc.int IntKind.u32) .shr c0_4 (Value.int IntKind.u64 1)) fun t6_18 =>
    Pu (binV (TypeDesc.int IntKind.u32) .and c0_4 (Value.int IntKind.u32 1)) fun t8_19 =>
    Pu (unV .neg t8_19) fun t9_20 =>
    Pu (binV (TypeDesc.int IntKind.u32) .and (Value.int IntKind.u32 3988292384) t9_20) fun t10_21 =>
    Pu (binV (TypeDesc.int IntKind.u32) .xor t6_18 t10_21) fun t11_22 =>
    Pu (binV (TypeDesc.int IntKind.i64) .add t3_5 (Value.int IntKind.i64 1)) fun t12_23 =>
    I_1 [t11_22, t12_23] w_15 ∧ m_2 [t11_22, t12_23] w_15 < m_2 [c0_4, t3_5] w_15)
      (k c0_4 w_15))
theorem e79 (k : KV) (c0 : Value) (w : World) : K KD Tryd.prog 14 (fun j => bif Nat.beq j 2 then [0, 3] else []) (fun j =>  none) (Tryd.f79.body.getD .skip) (retQ Tryd.prog Tryd.f79 k) (argF [c0]) w = T79 k c0 w := by kernel_rfl
theorem c79 {k : KV} {c0 : Value} {w : World} (h : T79 k c0 w) : Cl Tryd.prog 79 [c0] w k :=
  Cl_of_K KD_sound mixed Tryd.func79 (by kernel_rfl) (by kernel_rfl) ((e79 k c0 w).symm ▸ h)

/-- Function 80: strings.trimLeftByte. -/
def T80 (k : KV) (s0 : Value) (c1 : Value) (w : World) : Prop :=
  ∃ (I_1 : List Value → World → Prop) (m_2 : List Value → World → Nat), I_1 [s0] w ∧
  ∀ (g_17 : Fr) (w_16 : World), ∀ s0_4 : Value, I_1 [s0_4] w_16 →
    (Pu (lenS s0_4) fun t6_18 =>
    Pu (binV (TypeDesc.int IntKind.i64) .gtr t6_18 (Value.int IntKind.i64 0)) fun t7_19 =>
    Gd (isB true t7_19) (fun kk => kk s0_4 w_16) w_16 fun t9_20 w_21 =>
    Gd (isB true t7_19) (fun kk => Pu (ixS t9_20 (Value.int IntKind.i64 0)) fun vv => kk vv w_21) w_21 fun t10_22 w_23 =>
    Gd (isB true t7_19) (fun kk => kk c1 w_23) w_23 fun t11_24 w_25 =>
    Gd (isB true t7_19) (fun kk => Pu (binV (TypeDesc.int IntKind.u8) .eql t10_22 t11_24) fun vv => kk vv w_25) w_25 fun t12_26 w_27 =>
    Pu (pickV t7_19 t12_26 (Value.bool false)) fun t13_28 =>
    IfB t13_28
      (Pu (slS s0_4 (some (Value.int IntKind.i64 1)) none) fun t15_29 =>
    I_1 [t15_29] w_27 ∧ m_2 [t15_29] w_27 < m_2 [s0_4] w_16)
      (k s0_4 w_27))
theorem e80 (k : KV) (s0 : Value) (c1 : Value) (w : World) : K KD Tryd.prog 17 (fun j => bif Nat.beq j 1 then [0] else []) (fun j =>  none) (Tryd.f80.body.getD .skip) (retQ Tryd.prog Tryd.f80 k) (argF [s0, c1]) w = T80 k s0 c1 w := by kernel_rfl
theorem c80 {k : KV} {s0 : Value} {c1 : Value} {w : World} (h : T80 k s0 c1 w) : Cl Tryd.prog 80 [s0, c1] w k :=
  Cl_of_K KD_sound mixed Tryd.func80 (by kernel_rfl) (by kernel_rfl) ((e80 k s0 c1 w).symm ▸ h)

/-- Function 81: strings.trimRightByte. -/
def T81 (k : KV) (s0 : Value) (c1 : Value) (w : World) : Prop :=
  ∃ (I_1 : List Value → World → Prop) (m_2 : List Value → World → Nat), I_1 [s0] w ∧
  ∀ (g_23 : Fr) (w_22 : World), ∀ s0_4 : Value, I_1 [s0_4] w_22 →
    (Pu (lenS s0_4) fun t6_24 =>
    Pu (binV (TypeDesc.int IntKind.i64) .gtr t6_24 (Value.int IntKind.i64 0)) fun t7_25 =>
    Gd (isB true t7_25) (fun kk => kk s0_4 w_22) w_22 fun t9_26 w_27 =>
    Gd (isB true t7_25) (fun kk => kk s0_4 w_27) w_27 fun t10_28 w_29 =>
    Gd (isB true t7_25) (fun kk => Pu (lenS t10_28) fun vv => kk vv w_29) w_29 fun t11_30 w_31 =>
    Gd (isB true t7_25) (fun kk => Pu (binV (TypeDesc.int IntKind.i64) .sub t11_30 (Value.int IntKind.i64 1)) fun vv => kk vv w_31) w_31 fun t12_32 w_33 =>
    Gd (isB true t7_25) (fun kk => Pu (ixS t9_26 t12_32) fun vv => kk vv w_33) w_33 fun t13_34 w_35 =>
    Gd (isB true t7_25) (fun kk => kk c1 w_35) w_35 fun t14_36 w_37 =>
    Gd (isB true t7_25) (fun kk => Pu (binV (TypeDesc.int IntKind.u8) .eql t13_34 t14_36) fun vv => kk vv w_37) w_37 fun t15_38 w_39 =>
    Pu (pickV t7_25 t15_38 (Value.bool false)) fun t16_40 =>
    IfB t16_40
      (Pu (lenS s0_4) fun t19_41 =>
    Pu (binV (TypeDesc.int IntKind.i64) .sub t19_41 (Value.int IntKind.i64 1)) fun t20_42 =>
    Pu (slS s0_4 none (some t20_42)) fun t21_43 =>
    I_1 [t21_43] w_39 ∧ m_2 [t21_43] w_39 < m_2 [s0_4] w_22)
      (k s0_4 w_39))
theorem e81 (k : KV) (s0 : Value) (c1 : Value) (w : World) : K KD Tryd.prog 23 (fun j => bif Nat.beq j 1 then [0] else []) (fun j =>  none) (Tryd.f81.body.getD .skip) (retQ Tryd.prog Tryd.f81 k) (argF [s0, c1]) w = T81 k s0 c1 w := by kernel_rfl
theorem c81 {k : KV} {s0 : Value} {c1 : Value} {w : World} (h : T81 k s0 c1 w) : Cl Tryd.prog 81 [s0, c1] w k :=
  Cl_of_K KD_sound mixed Tryd.func81 (by kernel_rfl) (by kernel_rfl) ((e81 k s0 c1 w).symm ▸ h)

end Go.Proofs.YtodnakepbdhfkaaDoor
