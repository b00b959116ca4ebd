import Derived.Test.YtodnakepbdhfkaaDoorCpsP
import Derived.Test.YtodnakepbdhfkaaDoorAlDraw2
import Derived.Test.YtodnakepbdhfkaaDoorRows
namespace Go.Proofs.YtodnakepbdhfkaaDoor
open Go.Al Go.Proofs
set_option maxRecDepth 100000
set_option linter.unusedVariables false
set_option linter.unusedSimpArgs false
/-- Function 11: almonry/almonrylaw04.RecEncodes. -/
def T11 (k : KV) (a0 : Value) (b1 : Value) (w : World) : Prop :=
  New (Value.cells a0) 52 w fun a2_1 w_2 =>
  New (Value.cells b1) 52 w_2 fun b3_3 w_4 =>
  LdN 16 w_4 a2_1 fun t10_5 w_6 =>
  Cl Tryd.prog 37 [t10_5] w_6 fun t11_7 w_8 =>
  Pu (extV t11_7 0) fun t12_9 =>
  Pu (extV t11_7 1) fun t13_10 =>
  LdN 16 w_8 a2_1 fun t15_11 w_12 =>
  Cl Tryd.prog 38 [t15_11] w_12 fun t16_13 w_14 =>
  Pu (extV t16_13 0) fun t17_15 =>
  Pu (extV t16_13 1) fun t18_16 =>
  ∃ C_17 : World → Prop, C_17 (World.drew w_14) ∧
  (Pu (binV TypeDesc.string .eql t12_9 t17_15) fun t21_18 =>
  Gd (isB true t21_18) (fun kk => kk t13_10 (World.drew w_14)) (World.drew w_14) fun t23_19 w_20 =>
  Gd (isB true t21_18) (fun kk => kk t18_16 w_20) w_20 fun t24_21 w_22 =>
  Gd (isB true t21_18) (fun kk => Pu (binV (TypeDesc.int IntKind.i64) .eql t23_19 t24_21) fun vv => kk vv w_22) w_22 fun t25_23 w_24 =>
  Pu (pickV t21_18 t25_23 (Value.bool false)) fun t26_25 =>
  Gd (isB true t26_25) (fun kk => LdN 16 w_24 a2_1 kk) w_24 fun t28_26 w_27 =>
  w_27 = w_24 ∧
  ∃ t30_28, (∀ w_29, C_17 w_29 → Gd (isB true t26_25) (fun kk => LdN 16 w_29 a2_1 kk) w_29 fun t30_30 w_31 =>
  t30_30 = t30_28 ∧ w_31 = w_29) ∧
  (Gd (isB true t26_25) (fun kk => Cl Tryd.prog 39 [t28_26] w_24 kk) w_24 fun t29_32 w_33 =>
  C_17 w_33 ∧
  (Gd (isB true t26_25) (fun kk => Cl Tryd.prog 40 [t30_28] w_33 kk) w_33 fun t31_34 w_35 =>
  C_17 w_35 ∧
  (Gd (isB true t26_25) (fun kk => Pu (binV (TypeDesc.int IntKind.i64) .eql t29_32 t31_34) fun vv => kk vv w_35) w_35 fun t32_36 w_37 =>
  Pu (pickV t26_25 t32_36 (Value.bool false)) fun t33_38 =>
  Gd (isB true t33_38) (fun kk => LdN 16 w_37 a2_1 kk) w_37 fun t35_39 w_40 =>
  w_40 = w_37 ∧
  Gd (isB true t33_38) (fun kk => LdN 16 w_37 b3_3 kk) w_37 fun t36_41 w_42 =>
  w_42 = w_37 ∧
  ∃ t38_43, (∀ w_44, C_17 w_44 → Gd (isB true t33_38) (fun kk => LdN 16 w_44 a2_1 kk) w_44 fun t38_45 w_46 =>
  t38_45 = t38_43 ∧ w_46 = w_44) ∧
  (∃ t39_47, (∀ w_48, C_17 w_48 → Gd (isB true t33_38) (fun kk => LdN 16 w_48 b3_3 kk) w_48 fun t39_49 w_50 =>
  t39_49 = t39_47 ∧ w_50 = w_48) ∧
  (Gd (isB true t33_38) (fun kk => Cl Tryd.prog 41 [t35_39, t36_41] w_37 kk) w_37 fun t37_51 w_52 =>
  C_17 w_52 ∧
  (Gd (isB true t33_38) (fun kk => Cl Tryd.prog 42 [t38_43, t39_47] w_52 kk) w_52 fun t40_53 w_54 =>
  Gd (isB true t33_38) (fun kk => Pu (binV TypeDesc.bool .eql t37_51 t40_53) fun vv => kk vv w_54) w_54 fun t41_55 w_56 =>
  Pu (pickV t33_38 t41_55 (Value.bool false)) fun t42_57 =>
  Gd (isB true t42_57) (fun kk => LdN 16 w_56 a2_1 kk) w_56 fun t44_58 w_59 =>
  w_59 = w_56 ∧
  Gd (isB true t42_57) (fun kk => LdN 16 w_56 a2_1 kk) w_56 fun t45_60 w_61 =>
  w_61 = w_56 ∧
  Gd (isB true t42_57) (fun kk => Cl Tryd.prog 41 [t44_58, t45_60] w_56 kk) w_56 fun t46_62 w_63 =>
  Pu (pickV t42_57 t46_62 (Value.bool false)) fun t47_64 =>
  Gd (isB true t47_64) (fun kk => Cl Tryd.prog 43 [] w_63 kk) w_63 fun t49_65 w_66 =>
  Pu (pickV t47_64 t49_65 (Value.bool false)) fun t50_67 =>
  k t50_67 w_66)))))))
theorem e11 (k : KV) (a0 : Value) (b1 : Value) (w : World) : K KD Tryd.prog 51 (fun j =>  []) (fun j =>  none) (Tryd.f11.body.getD .skip) (retQ Tryd.prog Tryd.f11 k) (argF [a0, b1]) w = T11 k a0 b1 w := by kernel_rfl
theorem c11 {k : KV} {a0 : Value} {b1 : Value} {w : World} (h : T11 k a0 b1 w) : Cl Tryd.prog 11 [a0, b1] w k :=
  Cl_of_K KD_sound mixed Tryd.func11 (by kernel_rfl) (by kernel_rfl) ((e11 k a0 b1 w).symm ▸ h)

/-- Function 12: almonry/almonrylaw04.RecBack. -/
def T12 (k : KV) (r0 : Value) (behind1 : Value) (cut2 : Value) (w : World) : Prop :=
  New (Value.cells r0) 52 w fun r3_1 w_2 =>
  LdN 16 w_2 r3_1 fun t16_3 w_4 =>
  Cl Tryd.prog 37 [t16_3] w_4 fun t17_5 w_6 =>
  Pu (extV t17_5 0) fun t18_7 =>
  Pu (extV t17_5 1) fun t19_8 =>
  Pu (binV (TypeDesc.int IntKind.i64) .neq t19_8 (Value.int IntKind.i64 0)) fun t21_9 =>
  IfB t21_9
    (Pu (binV TypeDesc.string .eql t18_7 (Value.string (ByteArray.mk #[]))) fun t23_10 =>
      Gd (isB true t23_10) (fun kk => Cl Tryd.prog 43 [] w_6 kk) w_6 fun t25_11 w_12 =>
      Pu (pickV t23_10 t25_11 (Value.bool false)) fun t26_13 =>
      k t26_13 w_12)
    (Pu (binV TypeDesc.string .add t18_7 behind1) fun t30_14 =>
  Cl Tryd.prog 44 [t30_14] w_6 fun t31_15 w_16 =>
  Pu (extV t31_15 0) fun t32_17 =>
  Pu (extV t31_15 1) fun t33_18 =>
  Pu (extV t31_15 2) fun t34_19 =>
  New #[(Value.int IntKind.i64 0), (Value.int IntKind.i64 0), (Value.int IntKind.i64 0), (Value.int IntKind.u8 0), (Value.int IntKind.i64 0), (Value.int IntKind.i64 0), (Value.int IntKind.i64 0), (Value.int IntKind.i64 0), (Value.int IntKind.i64 0), (Value.int IntKind.i64 0), (Value.string (ByteArray.mk #[])), (Value.slice none 0 0), (Value.slice none 0 0), (Value.slice none 0 0), (Value.slice none 0 0), (Value.slice none 0 0)] 52 w_16 fun a9_20 w_21 =>
  St 16 w_21 a9_20 t32_17 fun u_22 w_23 =>
  Pu (foldV0 max2V [cut2, (Value.int IntKind.i64 0)]) fun t38_24 =>
  Pu (lenS t18_7) fun t40_25 =>
  Pu (binV (TypeDesc.int IntKind.i64) .sub t40_25 (Value.int IntKind.i64 1)) fun t41_26 =>
  Pu (foldV0 max2V [(Value.int IntKind.i64 0), t41_26]) fun t42_27 =>
  Pu (foldV0 min2V [t38_24, t42_27]) fun t43_28 =>
  Pu (slS t18_7 none (some t43_28)) fun t44_29 =>
  Cl Tryd.prog 44 [t44_29] w_23 fun t45_30 w_31 =>
  Pu (extV t45_30 0) fun t46_32 =>
  Pu (extV t45_30 1) fun t47_33 =>
  Pu (extV t45_30 2) fun t48_34 =>
  New #[(Value.int IntKind.i64 0), (Value.int IntKind.i64 0), (Value.int IntKind.i64 0), (Value.int IntKind.u8 0), (Value.int IntKind.i64 0), (Value.int IntKind.i64 0), (Value.int IntKind.i64 0), (Value.int IntKind.i64 0), (Value.int IntKind.i64 0), (Value.int IntKind.i64 0), (Value.string (ByteArray.mk #[])), (Value.slice none 0 0), (Value.slice none 0 0), (Value.slice none 0 0), (Value.slice none 0 0), (Value.slice none 0 0)] 52 w_31 fun t12_35 w_36 =>
  St 16 w_36 t12_35 t46_32 fun u_37 w_38 =>
  Pu (binV (TypeDesc.int IntKind.i64) .eql t34_19 (Value.int IntKind.i64 0)) fun t50_39 =>
  Gd (isB true t50_39) (fun kk => kk t33_18 w_38) w_38 fun t52_40 w_41 =>
  Gd (isB true t50_39) (fun kk => kk t18_7 w_41) w_41 fun t53_42 w_43 =>
  Gd (isB true t50_39) (fun kk => Pu (lenS t53_42) fun vv => kk vv w_43) w_43 fun t54_44 w_45 =>
  Gd (isB true t50_39) (fun kk => Pu (binV (TypeDesc.int IntKind.i64) .eql t52_40 t54_44) fun vv => kk vv w_45) w_45 fun t55_46 w_47 =>
  Pu (pickV t50_39 t55_46 (Value.bool false)) fun t56_48 =>
  Gd (isB true t56_48) (fun kk => LdN 16 w_47 a9_20 kk) w_47 fun t58_49 w_50 =>
  Gd (isB true t56_48) (fun kk => LdN 16 w_50 r3_1 kk) w_50 fun t59_51 w_52 =>
  Gd (isB true t56_48) (fun kk => Cl Tryd.prog 41 [t58_49, t59_51] w_52 kk) w_52 fun t60_53 w_54 =>
  Pu (pickV t56_48 t60_53 (Value.bool false)) fun t61_55 =>
  Gd (isB true t61_55) (fun kk => kk t48_34 w_54) w_54 fun t63_56 w_57 =>
  Gd (isB true t61_55) (fun kk => Pu (binV (TypeDesc.int IntKind.i64) .eql t63_56 (Value.int IntKind.i64 40)) fun vv => kk vv w_57) w_57 fun t64_58 w_59 =>
  Pu (pickV t61_55 t64_58 (Value.bool false)) fun t65_60 =>
  Gd (isB true t65_60) (fun kk => Cl Tryd.prog 43 [] w_59 kk) w_59 fun t67_61 w_62 =>
  Pu (pickV t65_60 t67_61 (Value.bool false)) fun t68_63 =>
  k t68_63 w_62)
theorem e12 (k : KV) (r0 : Value) (behind1 : Value) (cut2 : Value) (w : World) : K KD Tryd.prog 69 (fun j =>  []) (fun j =>  none) (Tryd.f12.body.getD .skip) (retQ Tryd.prog Tryd.f12 k) (argF [r0, behind1, cut2]) w = T12 k r0 behind1 cut2 w := by kernel_rfl
theorem c12 {k : KV} {r0 : Value} {behind1 : Value} {cut2 : Value} {w : World} (h : T12 k r0 behind1 cut2 w) : Cl Tryd.prog 12 [r0, behind1, cut2] w k :=
  Cl_of_K KD_sound mixed Tryd.func12 (by kernel_rfl) (by kernel_rfl) ((e12 k r0 behind1 cut2 w).symm ▸ h)

/-- Function 13: almonry/almonrylaw04.RecThere. -/
def T13 (k : KV) (data0 : Value) (w : World) : Prop :=
  Cl Tryd.prog 44 [data0] w fun t10_1 w_2 =>
  Pu (extV t10_1 0) fun t11_3 =>
  Pu (extV t10_1 1) fun t12_4 =>
  Pu (extV t10_1 2) fun t13_5 =>
  New #[(Value.int IntKind.i64 0), (Value.int IntKind.i64 0), (Value.int IntKind.i64 0), (Value.int IntKind.u8 0), (Value.int IntKind.i64 0), (Value.int IntKind.i64 0), (Value.int IntKind.i64 0), (Value.int IntKind.i64 0), (Value.int IntKind.i64 0), (Value.int IntKind.i64 0), (Value.string (ByteArray.mk #[])), (Value.slice none 0 0), (Value.slice none 0 0), (Value.slice none 0 0), (Value.slice none 0 0), (Value.slice none 0 0)] 52 w_2 fun r3_6 w_7 =>
  St 16 w_7 r3_6 t11_3 fun u_8 w_9 =>
  Pu (binV (TypeDesc.int IntKind.i64) .neq t13_5 (Value.int IntKind.i64 0)) fun t15_10 =>
  IfB t15_10
    (Pu (binV (TypeDesc.int IntKind.i64) .eql t12_4 (Value.int IntKind.i64 0)) fun t17_11 =>
      Gd (isB true t17_11) (fun kk => kk t13_5 w_9) w_9 fun t19_12 w_13 =>
      Gd (isB true t17_11) (fun kk => Pu (binV (TypeDesc.int IntKind.i64) .eql t19_12 (Value.int IntKind.i64 40)) fun vv => kk vv w_13) w_13 fun t20_14 w_15 =>
      Gd (isB true t17_11) (fun kk => kk t20_14 w_15) w_15 fun t21_16 w_17 =>
      Gd (isB false t21_16) (fun kk => kk t13_5 w_17) w_17 fun t22_18 w_19 =>
      Gd (isB false t21_16) (fun kk => Pu (binV (TypeDesc.int IntKind.i64) .eql t22_18 (Value.int IntKind.i64 41)) fun vv => kk vv w_19) w_19 fun t23_20 w_21 =>
      Gd (isB true t17_11) (fun kk => Pu (pickV t21_16 (Value.bool true) t23_20) fun vv => kk vv w_21) w_21 fun t24_22 w_23 =>
      Gd (isB true t17_11) (fun kk => kk t24_22 w_23) w_23 fun t25_24 w_25 =>
      Gd (isB false t25_24) (fun kk => kk t13_5 w_25) w_25 fun t26_26 w_27 =>
      Gd (isB false t25_24) (fun kk => Pu (binV (TypeDesc.int IntKind.i64) .eql t26_26 (Value.int IntKind.i64 30)) fun vv => kk vv w_27) w_27 fun t27_28 w_29 =>
      Gd (isB true t17_11) (fun kk => Pu (pickV t25_24 (Value.bool true) t27_28) fun vv => kk vv w_29) w_29 fun t28_30 w_31 =>
      Pu (pickV t17_11 t28_30 (Value.bool false)) fun t29_32 =>
      Gd (isB true t29_32) (fun kk => Cl Tryd.prog 43 [] w_31 kk) w_31 fun t31_33 w_34 =>
      Pu (pickV t29_32 t31_33 (Value.bool false)) fun t32_35 =>
      k t32_35 w_34)
    (LdN 16 w_9 r3_6 fun t34_36 w_37 =>
  Cl Tryd.prog 37 [t34_36] w_37 fun t35_38 w_39 =>
  Pu (extV t35_38 0) fun t36_40 =>
  Pu (extV t35_38 1) fun t37_41 =>
  Pu (binV (TypeDesc.int IntKind.i64) .eql t37_41 (Value.int IntKind.i64 0)) fun t39_42 =>
  Gd (isB true t39_42) (fun kk => kk t12_4 w_39) w_39 fun t41_43 w_44 =>
  Gd (isB true t39_42) (fun kk => kk t36_40 w_44) w_44 fun t42_45 w_46 =>
  Gd (isB true t39_42) (fun kk => Pu (lenS t42_45) fun vv => kk vv w_46) w_46 fun t43_47 w_48 =>
  Gd (isB true t39_42) (fun kk => Pu (binV (TypeDesc.int IntKind.i64) .eql t41_43 t43_47) fun vv => kk vv w_48) w_48 fun t44_49 w_50 =>
  Pu (pickV t39_42 t44_49 (Value.bool false)) fun t45_51 =>
  Gd (isB true t45_51) (fun kk => kk t12_4 w_50) w_50 fun t47_52 w_53 =>
  Gd (isB true t45_51) (fun kk => kk data0 w_53) w_53 fun t48_54 w_55 =>
  Gd (isB true t45_51) (fun kk => Pu (lenS t48_54) fun vv => kk vv w_55) w_55 fun t49_56 w_57 =>
  Gd (isB true t45_51) (fun kk => Pu (binV (TypeDesc.int IntKind.i64) .leq t47_52 t49_56) fun vv => kk vv w_57) w_57 fun t50_58 w_59 =>
  Pu (pickV t45_51 t50_58 (Value.bool false)) fun t51_60 =>
  Gd (isB true t51_60) (fun kk => kk data0 w_59) w_59 fun t53_61 w_62 =>
  Gd (isB true t51_60) (fun kk => kk t12_4 w_62) w_62 fun t54_63 w_64 =>
  Gd (isB true t51_60) (fun kk => Pu (slS t53_61 none (some t54_63)) fun vv => kk vv w_64) w_64 fun t55_65 w_66 =>
  Gd (isB true t51_60) (fun kk => kk t36_40 w_66) w_66 fun t56_67 w_68 =>
  Gd (isB true t51_60) (fun kk => Pu (binV TypeDesc.string .eql t55_65 t56_67) fun vv => kk vv w_68) w_68 fun t57_69 w_70 =>
  Pu (pickV t51_60 t57_69 (Value.bool false)) fun t58_71 =>
  Gd (isB true t58_71) (fun kk => LdN 16 w_70 r3_6 kk) w_70 fun t60_72 w_73 =>
  Gd (isB true t58_71) (fun kk => Cl Tryd.prog 39 [t60_72] w_73 kk) w_73 fun t61_74 w_75 =>
  Gd (isB true t58_71) (fun kk => Pu (binV (TypeDesc.int IntKind.i64) .eql t61_74 (Value.int IntKind.i64 0)) fun vv => kk vv w_75) w_75 fun t62_76 w_77 =>
  Pu (pickV t58_71 t62_76 (Value.bool false)) fun t63_78 =>
  Gd (isB true t63_78) (fun kk => Cl Tryd.prog 43 [] w_77 kk) w_77 fun t65_79 w_80 =>
  Pu (pickV t63_78 t65_79 (Value.bool false)) fun t66_81 =>
  k t66_81 w_80)
theorem e13 (k : KV) (data0 : Value) (w : World) : K KD Tryd.prog 67 (fun j =>  []) (fun j =>  none) (Tryd.f13.body.getD .skip) (retQ Tryd.prog Tryd.f13 k) (argF [data0]) w = T13 k data0 w := by kernel_rfl
theorem c13 {k : KV} {data0 : Value} {w : World} (h : T13 k data0 w) : Cl Tryd.prog 13 [data0] w k :=
  Cl_of_K KD_sound mixed Tryd.func13 (by kernel_rfl) (by kernel_rfl) ((e13 k data0 w).symm ▸ h)

/-- Function 14: almonry/almonrylaw04.RecTorn. -/
def T14 (k : KV) (r0 : Value) (atv1 : Value) (b2 : Value) (w : World) : Prop :=
  New (Value.cells r0) 52 w fun r3_1 w_2 =>
  LdN 16 w_2 r3_1 fun t14_3 w_4 =>
  Cl Tryd.prog 37 [t14_3] w_4 fun t15_5 w_6 =>
  Pu (extV t15_5 0) fun t16_7 =>
  Pu (extV t15_5 1) fun t17_8 =>
  Pu (binV (TypeDesc.int IntKind.i64) .neq t17_8 (Value.int IntKind.i64 0)) fun t19_9 =>
  Gd (isB false t19_9) (fun kk => kk atv1 w_6) w_6 fun t21_10 w_11 =>
  Gd (isB false t19_9) (fun kk => Pu (binV (TypeDesc.int IntKind.i64) .lss t21_10 (Value.int IntKind.i64 0)) fun vv => kk vv w_11) w_11 fun t22_12 w_13 =>
  Pu (pickV t19_9 (Value.bool true) t22_12) fun t23_14 =>
  Gd (isB false t23_14) (fun kk => kk atv1 w_13) w_13 fun t25_15 w_16 =>
  Gd (isB false t23_14) (fun kk => kk t16_7 w_16) w_16 fun t26_17 w_18 =>
  Gd (isB false t23_14) (fun kk => Pu (lenS t26_17) fun vv => kk vv w_18) w_18 fun t27_19 w_20 =>
  Gd (isB false t23_14) (fun kk => Pu (binV (TypeDesc.int IntKind.i64) .geq t25_15 t27_19) fun vv => kk vv w_20) w_20 fun t28_21 w_22 =>
  Pu (pickV t23_14 (Value.bool true) t28_21) fun t29_23 =>
  Gd (isB false t29_23) (fun kk => kk t16_7 w_22) w_22 fun t31_24 w_25 =>
  Gd (isB false t29_23) (fun kk => kk atv1 w_25) w_25 fun t32_26 w_27 =>
  Gd (isB false t29_23) (fun kk => Pu (ixS t31_24 t32_26) fun vv => kk vv w_27) w_27 fun t33_28 w_29 =>
  Gd (isB false t29_23) (fun kk => kk b2 w_29) w_29 fun t34_30 w_31 =>
  Gd (isB false t29_23) (fun kk => Pu (binV (TypeDesc.int IntKind.u8) .eql t33_28 t34_30) fun vv => kk vv w_31) w_31 fun t35_32 w_33 =>
  Pu (pickV t29_23 (Value.bool true) t35_32) fun t36_34 =>
  IfB t36_34
    (Cl Tryd.prog 43 [] w_33 fun t37_35 w_36 =>
      k t37_35 w_36)
    (Pu (slS t16_7 none (some atv1)) fun t40_37 =>
  Pu (binV (TypeDesc.int IntKind.i64) .add atv1 (Value.int IntKind.i64 1)) fun t47_38 =>
  Pu (slS t16_7 (some t47_38) none) fun t48_39 =>
  RunS Tryd.prog (Instr.buildSlice 38 1 #[(0, b2)]) (World.drew w_33) fun t42_40 w_41 =>
  RunS Tryd.prog (convert 38 9 t42_40) w_41 fun t43_42 w_43 =>
  w_43 = w_41 ∧
  Pu (binV TypeDesc.string .add t40_37 t43_42) fun t44_44 =>
  Pu (binV TypeDesc.string .add t44_44 t48_39) fun t49_45 =>
  Cl Tryd.prog 44 [t49_45] w_41 fun t52_46 w_47 =>
  Pu (extV t52_46 0) fun t53_48 =>
  Pu (extV t52_46 1) fun t54_49 =>
  Pu (extV t52_46 2) fun t55_50 =>
  New #[(Value.int IntKind.i64 0), (Value.int IntKind.i64 0), (Value.int IntKind.i64 0), (Value.int IntKind.u8 0), (Value.int IntKind.i64 0), (Value.int IntKind.i64 0), (Value.int IntKind.i64 0), (Value.int IntKind.i64 0), (Value.int IntKind.i64 0), (Value.int IntKind.i64 0), (Value.string (ByteArray.mk #[])), (Value.slice none 0 0), (Value.slice none 0 0), (Value.slice none 0 0), (Value.slice none 0 0), (Value.slice none 0 0)] 52 w_47 fun a10_51 w_52 =>
  St 16 w_52 a10_51 t53_48 fun u_53 w_54 =>
  Pu (binV (TypeDesc.int IntKind.i64) .neq t55_50 (Value.int IntKind.i64 0)) fun t57_55 =>
  Gd (isB false t57_55) (fun kk => kk t54_49 w_54) w_54 fun t59_56 w_57 =>
  Gd (isB false t57_55) (fun kk => kk t16_7 w_57) w_57 fun t60_58 w_59 =>
  Gd (isB false t57_55) (fun kk => Pu (lenS t60_58) fun vv => kk vv w_59) w_59 fun t61_60 w_61 =>
  Gd (isB false t57_55) (fun kk => Pu (binV (TypeDesc.int IntKind.i64) .neq t59_56 t61_60) fun vv => kk vv w_61) w_61 fun t62_62 w_63 =>
  Pu (pickV t57_55 (Value.bool true) t62_62) fun t63_64 =>
  Gd (isB false t63_64) (fun kk => LdN 16 w_63 a10_51 kk) w_63 fun t65_65 w_66 =>
  Gd (isB false t63_64) (fun kk => LdN 16 w_66 r3_1 kk) w_66 fun t66_67 w_68 =>
  Gd (isB false t63_64) (fun kk => Cl Tryd.prog 41 [t65_65, t66_67] w_68 kk) w_68 fun t67_69 w_70 =>
  Gd (isB false t63_64) (fun kk => Pu (unV .not t67_69) fun vv => kk vv w_70) w_70 fun t68_71 w_72 =>
  Pu (pickV t63_64 (Value.bool true) t68_71) fun t69_73 =>
  Gd (isB true t69_73) (fun kk => Cl Tryd.prog 43 [] w_72 kk) w_72 fun t71_74 w_75 =>
  Pu (pickV t69_73 t71_74 (Value.bool false)) fun t72_76 =>
  k t72_76 w_75)
theorem e14 (k : KV) (r0 : Value) (atv1 : Value) (b2 : Value) (w : World) : K KD Tryd.prog 73 (fun j =>  []) (fun j =>  none) (Tryd.f14.body.getD .skip) (retQ Tryd.prog Tryd.f14 k) (argF [r0, atv1, b2]) w = T14 k r0 atv1 b2 w := by kernel_rfl
theorem c14 {k : KV} {r0 : Value} {atv1 : Value} {b2 : Value} {w : World} (h : T14 k r0 atv1 b2 w) : Cl Tryd.prog 14 [r0, atv1, b2] w k :=
  Cl_of_K KD_sound mixed Tryd.func14 (by kernel_rfl) (by kernel_rfl) ((e14 k r0 atv1 b2 w).symm ▸ h)

/-- Function 15: almonry/almonrylaw04.RecSame. -/
def T15 (k : KV) (a0 : Value) (b1 : Value) (w : World) : Prop :=
  New (Value.cells a0) 52 w fun a2_1 w_2 =>
  New (Value.cells b1) 52 w_2 fun b3_3 w_4 =>
  LdN 16 w_4 a2_1 fun t10_5 w_6 =>
  Cl Tryd.prog 37 [t10_5] w_6 fun t11_7 w_8 =>
  Pu (extV t11_7 0) fun t12_9 =>
  Pu (extV t11_7 1) fun t13_10 =>
  LdN 16 w_8 b3_3 fun t15_11 w_12 =>
  Cl Tryd.prog 37 [t15_11] w_12 fun t16_13 w_14 =>
  Pu (extV t16_13 0) fun t17_15 =>
  Pu (extV t16_13 1) fun t18_16 =>
  ∃ C_17 : World → Prop, C_17 (World.drew w_14) ∧
  (LdN 16 (World.drew w_14) a2_1 fun t19_18 w_19 =>
  w_19 = (World.drew w_14) ∧
  LdN 16 (World.drew w_14) b3_3 fun t20_20 w_21 =>
  w_21 = (World.drew w_14) ∧
  ∃ t22_22, (∀ w_23, C_17 w_23 → LdN 16 w_23 b3_3 fun t22_24 w_25 =>
  t22_24 = t22_22 ∧ w_25 = w_23) ∧
  (∃ t23_26, (∀ w_27, C_17 w_27 → LdN 16 w_27 a2_1 fun t23_28 w_29 =>
  t23_28 = t23_26 ∧ w_29 = w_27) ∧
  (Cl Tryd.prog 41 [t19_18, t20_20] (World.drew w_14) fun t21_30 w_31 =>
  C_17 w_31 ∧
  (Cl Tryd.prog 41 [t22_22, t23_26] w_31 fun t24_32 w_33 =>
  Pu (binV TypeDesc.bool .neq t21_30 t24_32) fun t25_34 =>
  Gd (isB false t25_34) (fun kk => LdN 16 w_33 a2_1 kk) w_33 fun t27_35 w_36 =>
  w_36 = w_33 ∧
  Gd (isB false t25_34) (fun kk => LdN 16 w_33 a2_1 kk) w_33 fun t28_37 w_38 =>
  w_38 = w_33 ∧
  Gd (isB false t25_34) (fun kk => Cl Tryd.prog 41 [t27_35, t28_37] w_33 kk) w_33 fun t29_39 w_40 =>
  Gd (isB false t25_34) (fun kk => Pu (unV .not t29_39) fun vv => kk vv w_40) w_40 fun t30_41 w_42 =>
  Pu (pickV t25_34 (Value.bool true) t30_41) fun t31_43 =>
  IfB t31_43
    (k (Value.bool false) w_42)
    (Pu (binV (TypeDesc.int IntKind.i64) .neq t13_10 (Value.int IntKind.i64 0)) fun t33_44 =>
  Gd (isB false t33_44) (fun kk => kk t18_16 w_42) w_42 fun t35_45 w_46 =>
  Gd (isB false t33_44) (fun kk => Pu (binV (TypeDesc.int IntKind.i64) .neq t35_45 (Value.int IntKind.i64 0)) fun vv => kk vv w_46) w_46 fun t36_47 w_48 =>
  Pu (pickV t33_44 (Value.bool true) t36_47) fun t37_49 =>
  IfB t37_49
    (Cl Tryd.prog 43 [] w_48 fun t38_50 w_51 =>
      k t38_50 w_51)
    (LdN 16 w_48 a2_1 fun t39_52 w_53 =>
  LdN 16 w_53 b3_3 fun t40_54 w_55 =>
  Cl Tryd.prog 41 [t39_52, t40_54] w_55 fun t41_56 w_57 =>
  Pu (binV TypeDesc.string .eql t12_9 t17_15) fun t44_58 =>
  Pu (binV TypeDesc.bool .eql t41_56 t44_58) fun t45_59 =>
  Gd (isB true t45_59) (fun kk => Cl Tryd.prog 43 [] w_57 kk) w_57 fun t47_60 w_61 =>
  Pu (pickV t45_59 t47_60 (Value.bool false)) fun t48_62 =>
  k t48_62 w_61))))))
theorem e15 (k : KV) (a0 : Value) (b1 : Value) (w : World) : K KD Tryd.prog 49 (fun j =>  []) (fun j =>  none) (Tryd.f15.body.getD .skip) (retQ Tryd.prog Tryd.f15 k) (argF [a0, b1]) w = T15 k a0 b1 w := by kernel_rfl
theorem c15 {k : KV} {a0 : Value} {b1 : Value} {w : World} (h : T15 k a0 b1 w) : Cl Tryd.prog 15 [a0, b1] w k :=
  Cl_of_K KD_sound mixed Tryd.func15 (by kernel_rfl) (by kernel_rfl) ((e15 k a0 b1 w).symm ▸ h)

/-- Function 16: almonry/almonrylaw04.RecRow. -/
def T16 (k : KV) (l0 : Value) (w : World) : Prop :=
  ∃ (I_1 : List Value → World → Prop) (m_2 : List Value → World → Nat), I_1 [(Value.string (ByteArray.mk #[])), (Value.slice none 0 0), (Value.int IntKind.i64 0)] w ∧
  ∀ (g_36 : Fr) (w_35 : World), ∀ all3_4 : Value, ∀ want4_5 : Value, ∀ i5_6 : Value, I_1 [all3_4, want4_5, i5_6] w_35 →
    (Pu (lenV l0) fun t17_37 =>
    Pu (binV (TypeDesc.int IntKind.i64) .lss i5_6 t17_37) fun t18_38 =>
    IfB t18_38
      (Jn (fun vs_65 w_64 => ∀ g_66 : Fr, ∃ all3_40 : Value, ∃ want4_41 : Value, vs_65 = [all3_40, want4_41] ∧
        (Pu (binV (TypeDesc.int IntKind.i64) .add i5_6 (Value.int IntKind.i64 1)) fun t20_67 =>
        I_1 [all3_40, want4_41, t20_67] w_64 ∧ m_2 [all3_40, want4_41, t20_67] w_64 < m_2 [all3_4, want4_5, i5_6] w_35))
      (fun jj_39 =>
      Pu (ixV 16 l0 i5_6) fun t24_68 =>
      LdN 16 w_35 t24_68 fun t25_69 w_70 =>
      Cl Tryd.prog 37 [t25_69] w_70 fun t26_71 w_72 =>
      Pu (extV t26_71 0) fun t27_73 =>
      Pu (extV t26_71 1) fun t28_74 =>
      Pu (binV (TypeDesc.int IntKind.i64) .eql t28_74 (Value.int IntKind.i64 0)) fun t30_75 =>
      IfB t30_75
        (Pu (binV TypeDesc.string .add all3_4 t27_73) fun t33_76 =>
          Pu (ixV 16 l0 i5_6) fun t37_77 =>
          LdN 16 w_72 t37_77 fun t38_78 w_79 =>
          RunS Tryd.prog (Instr.buildSlice 61 1 #[(0, t38_78)]) w_79 fun t39_80 w_81 =>
          RunS Tryd.prog (Builtin.append_ #[61, 61] 61 #[want4_5, t39_80]) w_81 fun t40_82 w_83 =>
          jj_39 [t33_76, t40_82] w_83)
        (jj_39 [all3_4, want4_5] w_72)))
      (∃ (I_84 : List Value → World → Prop) (m_85 : List Value → World → Nat), I_84 [all3_4, (Value.int IntKind.i64 0)] w_35 ∧
  ∀ (g_130 : Fr) (w_129 : World), ∀ all3_88 : Value, ∀ i8_89 : Value, I_84 [all3_88, i8_89] w_129 →
    (Pu (lenV want4_5) fun t43_131 =>
    Pu (binV (TypeDesc.int IntKind.i64) .lss i8_89 t43_131) fun t44_132 =>
    IfB t44_132
      (Cl Tryd.prog 44 [all3_88] w_129 fun t49_133 w_134 =>
    Pu (extV t49_133 0) fun t50_135 =>
    Pu (extV t49_133 1) fun t51_136 =>
    Pu (extV t49_133 2) fun t52_137 =>
    New #[(Value.int IntKind.i64 0), (Value.int IntKind.i64 0), (Value.int IntKind.i64 0), (Value.int IntKind.u8 0), (Value.int IntKind.i64 0), (Value.int IntKind.i64 0), (Value.int IntKind.i64 0), (Value.int IntKind.i64 0), (Value.int IntKind.i64 0), (Value.int IntKind.i64 0), (Value.string (ByteArray.mk #[])), (Value.slice none 0 0), (Value.slice none 0 0), (Value.slice none 0 0), (Value.slice none 0 0), (Value.slice none 0 0)] 52 w_134 fun r9_138 w_139 =>
    St 16 w_139 r9_138 t50_135 fun u_140 w_141 =>
    Pu (binV (TypeDesc.int IntKind.i64) .neq t52_137 (Value.int IntKind.i64 0)) fun t54_142 =>
    Gd (isB false t54_142) (fun kk => kk t51_136 (World.drew w_141)) (World.drew w_141) fun t56_143 w_144 =>
    Gd (isB false t54_142) (fun kk => Pu (binV (TypeDesc.int IntKind.i64) .lss t56_143 (Value.int IntKind.i64 1)) fun vv => kk vv w_144) w_144 fun t57_145 w_146 =>
    Pu (pickV t54_142 (Value.bool true) t57_145) fun t58_147 =>
    Gd (isB false t58_147) (fun kk => kk t51_136 w_146) w_146 fun t60_148 w_149 =>
    Gd (isB false t58_147) (fun kk => kk all3_88 w_149) w_149 fun t61_150 w_151 =>
    Gd (isB false t58_147) (fun kk => Pu (lenS t61_150) fun vv => kk vv w_151) w_151 fun t62_152 w_153 =>
    Gd (isB false t58_147) (fun kk => Pu (binV (TypeDesc.int IntKind.i64) .gtr t60_148 t62_152) fun vv => kk vv w_153) w_153 fun t63_154 w_155 =>
    Pu (pickV t58_147 (Value.bool true) t63_154) fun t64_156 =>
    Gd (isB false t64_156) (fun kk => LdN 16 w_155 r9_138 kk) w_155 fun t66_157 w_158 =>
    w_158 = w_155 ∧
    Gd (isB false t64_156) (fun kk => kk want4_5 w_155) w_155 fun t67_159 w_160 =>
    Gd (isB false t64_156) (fun kk => kk i8_89 w_160) w_160 fun t68_161 w_162 =>
    Gd (isB false t64_156) (fun kk => Pu (ixV 16 t67_159 t68_161) fun vv => kk vv w_162) w_162 fun t69_163 w_164 =>
    Gd (isB false t64_156) (fun kk => LdN 16 w_164 t69_163 kk) w_164 fun t70_165 w_166 =>
    w_166 = w_164 ∧
    Gd (isB false t64_156) (fun kk => Cl Tryd.prog 41 [t66_157, t70_165] w_164 kk) w_164 fun t71_167 w_168 =>
    Gd (isB false t64_156) (fun kk => Pu (unV .not t71_167) fun vv => kk vv w_168) w_168 fun t72_169 w_170 =>
    Pu (pickV t64_156 (Value.bool true) t72_169) fun t73_171 =>
    IfB t73_171
      (k (Value.bool false) w_170)
      (Pu (slS all3_88 (some t51_136) none) fun t76_172 =>
    Pu (binV (TypeDesc.int IntKind.i64) .add i8_89 (Value.int IntKind.i64 1)) fun t46_173 =>
    I_84 [t76_172, t46_173] w_170 ∧ m_85 [t76_172, t46_173] w_170 < m_85 [all3_88, i8_89] w_129))
      (Cl Tryd.prog 44 [all3_88] w_129 fun t79_174 w_175 =>
  Pu (extV t79_174 0) fun t80_176 =>
  Pu (extV t79_174 1) fun t81_177 =>
  Pu (extV t79_174 2) fun t82_178 =>
  New #[(Value.int IntKind.i64 0), (Value.int IntKind.i64 0), (Value.int IntKind.i64 0), (Value.int IntKind.u8 0), (Value.int IntKind.i64 0), (Value.int IntKind.i64 0), (Value.int IntKind.i64 0), (Value.int IntKind.i64 0), (Value.int IntKind.i64 0), (Value.int IntKind.i64 0), (Value.string (ByteArray.mk #[])), (Value.slice none 0 0), (Value.slice none 0 0), (Value.slice none 0 0), (Value.slice none 0 0), (Value.slice none 0 0)] 52 w_175 fun t12_179 w_180 =>
  St 16 w_180 t12_179 t80_176 fun u_181 w_182 =>
  Pu (binV TypeDesc.string .eql all3_88 (Value.string (ByteArray.mk #[]))) fun t84_183 =>
  Gd (isB true t84_183) (fun kk => kk t82_178 w_182) w_182 fun t86_184 w_185 =>
  Gd (isB true t84_183) (fun kk => Pu (binV (TypeDesc.int IntKind.i64) .eql t86_184 (Value.int IntKind.i64 40)) fun vv => kk vv w_185) w_185 fun t87_186 w_187 =>
  Pu (pickV t84_183 t87_186 (Value.bool false)) fun t88_188 =>
  Gd (isB true t88_188) (fun kk => Cl Tryd.prog 43 [] w_187 kk) w_187 fun t90_189 w_190 =>
  Pu (pickV t88_188 t90_189 (Value.bool false)) fun t91_191 =>
  k t91_191 w_190))))
theorem e16 (k : KV) (l0 : Value) (w : World) : K KD Tryd.prog 92 (fun j => bif Nat.beq j 11 then [3, 8] else bif Nat.beq j 4 then [3, 4, 5] else []) (fun j => bif Nat.beq j 5 then some [3, 4] else none) (Tryd.f16.body.getD .skip) (retQ Tryd.prog Tryd.f16 k) (argF [l0]) w = T16 k l0 w := by kernel_rfl
theorem c16 {k : KV} {l0 : Value} {w : World} (h : T16 k l0 w) : Cl Tryd.prog 16 [l0] w k :=
  Cl_of_K KD_sound mixed Tryd.func16 (by kernel_rfl) (by kernel_rfl) ((e16 k l0 w).symm ▸ h)

/-- Function 37: almonry/rec.Encode. -/
def T37 (k : KV) (r0 : Value) (w : World) : Prop :=
  New (Value.cells r0) 52 w fun r1_1 w_2 =>
  LdN 16 w_2 r1_1 fun t7_3 w_4 =>
  Cl Tryd.prog 64 [t7_3] w_4 fun t8_5 w_6 =>
  Pu (extV t8_5 0) fun t9_7 =>
  Pu (extV t8_5 1) fun t10_8 =>
  Pu (binV (TypeDesc.int IntKind.i64) .neq t10_8 (Value.int IntKind.i64 0)) fun t12_9 =>
  IfB t12_9
    (k (.tuple #[(Value.string (ByteArray.mk #[])), t10_8]) w_6)
    (Pu (lenS t9_7) fun t15_10 =>
  Cl Tryd.prog 47 [t15_10, (Value.int IntKind.i64 4)] w_6 fun t16_11 w_12 =>
  Cl Tryd.prog 50 [t9_7] w_12 fun t18_13 w_14 =>
  Pu (cvI IntKind.i64 t18_13) fun t19_15 =>
  Cl Tryd.prog 47 [t19_15, (Value.int IntKind.i64 4)] w_14 fun t20_16 w_17 =>
  Pu (binV TypeDesc.string .add t16_11 t20_16) fun t21_18 =>
  Pu (binV TypeDesc.string .add t21_18 t9_7) fun t23_19 =>
  k (.tuple #[t23_19, (Value.int IntKind.i64 0)]) w_17)
theorem e37 (k : KV) (r0 : Value) (w : World) : K KD Tryd.prog 24 (fun j =>  []) (fun j =>  none) (Tryd.f37.body.getD .skip) (retQ Tryd.prog Tryd.f37 k) (argF [r0]) w = T37 k r0 w := by kernel_rfl
theorem c37 {k : KV} {r0 : Value} {w : World} (h : T37 k r0 w) : Cl Tryd.prog 37 [r0] w k :=
  Cl_of_K KD_sound mixed Tryd.func37 (by kernel_rfl) (by kernel_rfl) ((e37 k r0 w).symm ▸ h)

/-- Function 38: almonry/almonryref04.Encode. -/
def T38 (k : KV) (r0 : Value) (w : World) : Prop :=
  New (Value.cells r0) 52 w fun r1_1 w_2 =>
  LdN 16 w_2 r1_1 fun t6_3 w_4 =>
  Cl Tryd.prog 40 [t6_3] w_4 fun t7_5 w_6 =>
  Pu (binV (TypeDesc.int IntKind.i64) .neq t7_5 (Value.int IntKind.i64 0)) fun t9_7 =>
  IfB t9_7
    (k (.tuple #[(Value.string (ByteArray.mk #[])), t7_5]) w_6)
    (LdN 16 w_6 r1_1 fun t11_8 w_9 =>
  Cl Tryd.prog 65 [t11_8] w_9 fun t12_10 w_11 =>
  Pu (lenS t12_10) fun t14_12 =>
  Cl Tryd.prog 52 [t14_12, (Value.int IntKind.i64 4)] w_11 fun t15_13 w_14 =>
  Cl Tryd.prog 53 [t12_10] w_14 fun t17_15 w_16 =>
  Pu (cvI IntKind.i64 t17_15) fun t18_17 =>
  Cl Tryd.prog 52 [t18_17, (Value.int IntKind.i64 4)] w_16 fun t19_18 w_19 =>
  Pu (binV TypeDesc.string .add t15_13 t19_18) fun t20_20 =>
  Pu (binV TypeDesc.string .add t20_20 t12_10) fun t22_21 =>
  k (.tuple #[t22_21, (Value.int IntKind.i64 0)]) w_19)
theorem e38 (k : KV) (r0 : Value) (w : World) : K KD Tryd.prog 23 (fun j =>  []) (fun j =>  none) (Tryd.f38.body.getD .skip) (retQ Tryd.prog Tryd.f38 k) (argF [r0]) w = T38 k r0 w := by kernel_rfl
theorem c38 {k : KV} {r0 : Value} {w : World} (h : T38 k r0 w) : Cl Tryd.prog 38 [r0] w k :=
  Cl_of_K KD_sound mixed Tryd.func38 (by kernel_rfl) (by kernel_rfl) ((e38 k r0 w).symm ▸ h)

/-- Function 39: almonry/rec.Check. -/
def T39 (k : KV) (r0 : Value) (w : World) : Prop :=
  New (Value.cells r0) 52 w fun r1_1 w_2 =>
  LdN 16 w_2 r1_1 fun t6_3 w_4 =>
  Cl Tryd.prog 64 [t6_3] w_4 fun t7_5 w_6 =>
  Pu (extV t7_5 0) fun t8_7 =>
  Pu (extV t7_5 1) fun t9_8 =>
  k t9_8 w_6
theorem e39 (k : KV) (r0 : Value) (w : World) : K KD Tryd.prog 11 (fun j =>  []) (fun j =>  none) (Tryd.f39.body.getD .skip) (retQ Tryd.prog Tryd.f39 k) (argF [r0]) w = T39 k r0 w := by kernel_rfl
theorem c39 {k : KV} {r0 : Value} {w : World} (h : T39 k r0 w) : Cl Tryd.prog 39 [r0] w k :=
  Cl_of_K KD_sound mixed Tryd.func39 (by kernel_rfl) (by kernel_rfl) ((e39 k r0 w).symm ▸ h)

/-- Function 40: almonry/almonryref04.Check. -/
def T40 (k : KV) (r0 : Value) (w : World) : Prop :=
  New (Value.cells r0) 52 w fun r1_1 w_2 =>
  Pu (faV 3 r1_1) fun t6_3 =>
  Ld w_2 t6_3 fun t7_4 w_5 =>
  Pu (binV (TypeDesc.int IntKind.u8) .lss t7_4 (Value.int IntKind.u8 1)) fun t8_6 =>
  Gd (isB false t8_6) (fun kk => Pu (faV 3 r1_1) fun vv => kk vv w_5) w_5 fun t10_7 w_8 =>
  Gd (isB false t8_6) (fun kk => Ld w_8 t10_7 kk) w_8 fun t11_9 w_10 =>
  Gd (isB false t8_6) (fun kk => Pu (binV (TypeDesc.int IntKind.u8) .gtr t11_9 (Value.int IntKind.u8 13)) fun vv => kk vv w_10) w_10 fun t12_11 w_12 =>
  Pu (pickV t8_6 (Value.bool true) t12_11) fun t13_13 =>
  IfB t13_13
    (k (Value.int IntKind.i64 41) w_12)
    (LdN 16 w_12 r1_1 fun t14_14 w_15 =>
  Cl Tryd.prog 66 [t14_14] w_15 fun t15_16 w_17 =>
  Pu (unV .not t15_16) fun t16_18 =>
  IfB t16_18
    (k (Value.int IntKind.i64 4) w_17)
    (Pu (faV 10 r1_1) fun t17_19 =>
  Ld w_17 t17_19 fun t18_20 w_21 =>
  Pu (lenS t18_20) fun t19_22 =>
  Pu (binV (TypeDesc.int IntKind.i64) .gtr t19_22 (Value.int IntKind.i64 512)) fun t20_23 =>
  Gd (isB false t20_23) (fun kk => Pu (faV 11 r1_1) fun vv => kk vv w_21) w_21 fun t22_24 w_25 =>
  Gd (isB false t20_23) (fun kk => Ld w_25 t22_24 kk) w_25 fun t23_26 w_27 =>
  Gd (isB false t20_23) (fun kk => Pu (lenV t23_26) fun vv => kk vv w_27) w_27 fun t24_28 w_29 =>
  Gd (isB false t20_23) (fun kk => Pu (binV (TypeDesc.int IntKind.i64) .gtr t24_28 (Value.int IntKind.i64 255)) fun vv => kk vv w_29) w_29 fun t25_30 w_31 =>
  Pu (pickV t20_23 (Value.bool true) t25_30) fun t26_32 =>
  Gd (isB false t26_32) (fun kk => Pu (faV 12 r1_1) fun vv => kk vv w_31) w_31 fun t28_33 w_34 =>
  Gd (isB false t26_32) (fun kk => Ld w_34 t28_33 kk) w_34 fun t29_35 w_36 =>
  Gd (isB false t26_32) (fun kk => Pu (lenV t29_35) fun vv => kk vv w_36) w_36 fun t30_37 w_38 =>
  Gd (isB false t26_32) (fun kk => Pu (binV (TypeDesc.int IntKind.i64) .gtr t30_37 (Value.int IntKind.i64 255)) fun vv => kk vv w_38) w_38 fun t31_39 w_40 =>
  Pu (pickV t26_32 (Value.bool true) t31_39) fun t32_41 =>
  Gd (isB false t32_41) (fun kk => Pu (faV 13 r1_1) fun vv => kk vv w_40) w_40 fun t34_42 w_43 =>
  Gd (isB false t32_41) (fun kk => Ld w_43 t34_42 kk) w_43 fun t35_44 w_45 =>
  Gd (isB false t32_41) (fun kk => Pu (lenV t35_44) fun vv => kk vv w_45) w_45 fun t36_46 w_47 =>
  Gd (isB false t32_41) (fun kk => Pu (binV (TypeDesc.int IntKind.i64) .gtr t36_46 (Value.int IntKind.i64 4)) fun vv => kk vv w_47) w_47 fun t37_48 w_49 =>
  Pu (pickV t32_41 (Value.bool true) t37_48) fun t38_50 =>
  Gd (isB false t38_50) (fun kk => Pu (faV 14 r1_1) fun vv => kk vv w_49) w_49 fun t40_51 w_52 =>
  Gd (isB false t38_50) (fun kk => Ld w_52 t40_51 kk) w_52 fun t41_53 w_54 =>
  Gd (isB false t38_50) (fun kk => Pu (lenV t41_53) fun vv => kk vv w_54) w_54 fun t42_55 w_56 =>
  Gd (isB false t38_50) (fun kk => Pu (binV (TypeDesc.int IntKind.i64) .gtr t42_55 (Value.int IntKind.i64 8192)) fun vv => kk vv w_56) w_56 fun t43_57 w_58 =>
  Pu (pickV t38_50 (Value.bool true) t43_57) fun t44_59 =>
  Gd (isB false t44_59) (fun kk => Pu (faV 15 r1_1) fun vv => kk vv w_58) w_58 fun t46_60 w_61 =>
  Gd (isB false t44_59) (fun kk => Ld w_61 t46_60 kk) w_61 fun t47_62 w_63 =>
  Gd (isB false t44_59) (fun kk => Pu (lenV t47_62) fun vv => kk vv w_63) w_63 fun t48_64 w_65 =>
  Gd (isB false t44_59) (fun kk => Pu (binV (TypeDesc.int IntKind.i64) .gtr t48_64 (Value.int IntKind.i64 1024)) fun vv => kk vv w_65) w_65 fun t49_66 w_67 =>
  Pu (pickV t44_59 (Value.bool true) t49_66) fun t50_68 =>
  IfB t50_68
    (k (Value.int IntKind.i64 3) w_67)
    (∃ (I_69 : List Value → World → Prop) (m_70 : List Value → World → Nat), I_69 [(Value.int IntKind.i64 0)] w_67 ∧
  ∀ (g_97 : Fr) (w_96 : World), ∀ i3_73 : Value, I_69 [i3_73] w_96 →
    (Pu (faV 13 r1_1) fun t52_98 =>
    Ld w_96 t52_98 fun t53_99 w_100 =>
    Pu (lenV t53_99) fun t54_101 =>
    Pu (binV (TypeDesc.int IntKind.i64) .lss i3_73 t54_101) fun t55_102 =>
    IfB t55_102
      (Pu (faV 13 r1_1) fun t59_103 =>
    Ld w_100 t59_103 fun t60_104 w_105 =>
    Pu (ixV 7 t60_104 i3_73) fun t62_106 =>
    Pu (faV 1 t62_106) fun t63_107 =>
    LdN 6 w_105 t63_107 fun t64_108 w_109 =>
    Cl Tryd.prog 24 [t64_108] w_109 fun t65_110 w_111 =>
    Pu (extV t65_110 0) fun t66_112 =>
    Pu (extV t65_110 1) fun t67_113 =>
    Pu (binV (TypeDesc.int IntKind.i64) .neq t67_113 (Value.int IntKind.i64 0)) fun t69_114 =>
    IfB t69_114
      (k t67_113 w_111)
      (Pu (binV (TypeDesc.int IntKind.i64) .add i3_73 (Value.int IntKind.i64 1)) fun t57_115 =>
    I_69 [t57_115] w_111 ∧ m_70 [t57_115] w_111 < m_70 [i3_73] w_96))
      (LdN 16 w_100 r1_1 fun t71_116 w_117 =>
  Cl Tryd.prog 65 [t71_116] w_117 fun t72_118 w_119 =>
  Pu (lenS t72_118) fun t73_120 =>
  Pu (binV (TypeDesc.int IntKind.i64) .gtr t73_120 (Value.int IntKind.i64 65535)) fun t74_121 =>
  IfB t74_121
    (k (Value.int IntKind.i64 3) w_119)
    (k (Value.int IntKind.i64 0) w_119))))))
theorem e40 (k : KV) (r0 : Value) (w : World) : K KD Tryd.prog 75 (fun j => bif Nat.beq j 8 then [3] else []) (fun j =>  none) (Tryd.f40.body.getD .skip) (retQ Tryd.prog Tryd.f40 k) (argF [r0]) w = T40 k r0 w := by kernel_rfl
theorem c40 {k : KV} {r0 : Value} {w : World} (h : T40 k r0 w) : Cl Tryd.prog 40 [r0] w k :=
  Cl_of_K KD_sound mixed Tryd.func40 (by kernel_rfl) (by kernel_rfl) ((e40 k r0 w).symm ▸ h)

/-- Function 41: almonry/rec.Same. -/
def T41 (k : KV) (a0 : Value) (b1 : Value) (w : World) : Prop :=
  New (Value.cells a0) 52 w fun a2_1 w_2 =>
  New (Value.cells b1) 52 w_2 fun b3_3 w_4 =>
  Pu (faV 0 a2_1) fun t6_5 =>
  Ld w_4 t6_5 fun t7_6 w_7 =>
  Pu (faV 0 b3_3) fun t8_8 =>
  Ld w_7 t8_8 fun t9_9 w_10 =>
  Pu (binV (TypeDesc.int IntKind.i64) .neq t7_6 t9_9) fun t10_11 =>
  Gd (isB false t10_11) (fun kk => Pu (faV 1 a2_1) fun vv => kk vv w_10) w_10 fun t12_12 w_13 =>
  Gd (isB false t10_11) (fun kk => Ld w_13 t12_12 kk) w_13 fun t13_14 w_15 =>
  Gd (isB false t10_11) (fun kk => Pu (faV 1 b3_3) fun vv => kk vv w_15) w_15 fun t14_16 w_17 =>
  Gd (isB false t10_11) (fun kk => Ld w_17 t14_16 kk) w_17 fun t15_18 w_19 =>
  Gd (isB false t10_11) (fun kk => Pu (binV (TypeDesc.int IntKind.i64) .neq t13_14 t15_18) fun vv => kk vv w_19) w_19 fun t16_20 w_21 =>
  Pu (pickV t10_11 (Value.bool true) t16_20) fun t17_22 =>
  Gd (isB false t17_22) (fun kk => Pu (faV 2 a2_1) fun vv => kk vv w_21) w_21 fun t19_23 w_24 =>
  Gd (isB false t17_22) (fun kk => Ld w_24 t19_23 kk) w_24 fun t20_25 w_26 =>
  Gd (isB false t17_22) (fun kk => Pu (faV 2 b3_3) fun vv => kk vv w_26) w_26 fun t21_27 w_28 =>
  Gd (isB false t17_22) (fun kk => Ld w_28 t21_27 kk) w_28 fun t22_29 w_30 =>
  Gd (isB false t17_22) (fun kk => Pu (binV (TypeDesc.int IntKind.i64) .neq t20_25 t22_29) fun vv => kk vv w_30) w_30 fun t23_31 w_32 =>
  Pu (pickV t17_22 (Value.bool true) t23_31) fun t24_33 =>
  Gd (isB false t24_33) (fun kk => Pu (faV 3 a2_1) fun vv => kk vv w_32) w_32 fun t26_34 w_35 =>
  Gd (isB false t24_33) (fun kk => Ld w_35 t26_34 kk) w_35 fun t27_36 w_37 =>
  Gd (isB false t24_33) (fun kk => Pu (faV 3 b3_3) fun vv => kk vv w_37) w_37 fun t28_38 w_39 =>
  Gd (isB false t24_33) (fun kk => Ld w_39 t28_38 kk) w_39 fun t29_40 w_41 =>
  Gd (isB false t24_33) (fun kk => Pu (binV (TypeDesc.int IntKind.u8) .neq t27_36 t29_40) fun vv => kk vv w_41) w_41 fun t30_42 w_43 =>
  Pu (pickV t24_33 (Value.bool true) t30_42) fun t31_44 =>
  Gd (isB false t31_44) (fun kk => Pu (faV 4 a2_1) fun vv => kk vv w_43) w_43 fun t33_45 w_46 =>
  Gd (isB false t31_44) (fun kk => Ld w_46 t33_45 kk) w_46 fun t34_47 w_48 =>
  Gd (isB false t31_44) (fun kk => Pu (faV 4 b3_3) fun vv => kk vv w_48) w_48 fun t35_49 w_50 =>
  Gd (isB false t31_44) (fun kk => Ld w_50 t35_49 kk) w_50 fun t36_51 w_52 =>
  Gd (isB false t31_44) (fun kk => Pu (binV (TypeDesc.int IntKind.i64) .neq t34_47 t36_51) fun vv => kk vv w_52) w_52 fun t37_53 w_54 =>
  Pu (pickV t31_44 (Value.bool true) t37_53) fun t38_55 =>
  Gd (isB false t38_55) (fun kk => Pu (faV 5 a2_1) fun vv => kk vv w_54) w_54 fun t40_56 w_57 =>
  Gd (isB false t38_55) (fun kk => Ld w_57 t40_56 kk) w_57 fun t41_58 w_59 =>
  Gd (isB false t38_55) (fun kk => Pu (faV 5 b3_3) fun vv => kk vv w_59) w_59 fun t42_60 w_61 =>
  Gd (isB false t38_55) (fun kk => Ld w_61 t42_60 kk) w_61 fun t43_62 w_63 =>
  Gd (isB false t38_55) (fun kk => Pu (binV (TypeDesc.int IntKind.i64) .neq t41_58 t43_62) fun vv => kk vv w_63) w_63 fun t44_64 w_65 =>
  Pu (pickV t38_55 (Value.bool true) t44_64) fun t45_66 =>
  Gd (isB false t45_66) (fun kk => Pu (faV 6 a2_1) fun vv => kk vv w_65) w_65 fun t47_67 w_68 =>
  Gd (isB false t45_66) (fun kk => Ld w_68 t47_67 kk) w_68 fun t48_69 w_70 =>
  Gd (isB false t45_66) (fun kk => Pu (faV 6 b3_3) fun vv => kk vv w_70) w_70 fun t49_71 w_72 =>
  Gd (isB false t45_66) (fun kk => Ld w_72 t49_71 kk) w_72 fun t50_73 w_74 =>
  Gd (isB false t45_66) (fun kk => Pu (binV (TypeDesc.int IntKind.i64) .neq t48_69 t50_73) fun vv => kk vv w_74) w_74 fun t51_75 w_76 =>
  Pu (pickV t45_66 (Value.bool true) t51_75) fun t52_77 =>
  IfB t52_77
    (k (Value.bool false) w_76)
    (Pu (faV 7 a2_1) fun t53_78 =>
  Ld w_76 t53_78 fun t54_79 w_80 =>
  Pu (faV 7 b3_3) fun t55_81 =>
  Ld w_80 t55_81 fun t56_82 w_83 =>
  Pu (binV (TypeDesc.int IntKind.i64) .neq t54_79 t56_82) fun t57_84 =>
  Gd (isB false t57_84) (fun kk => Pu (faV 8 a2_1) fun vv => kk vv w_83) w_83 fun t59_85 w_86 =>
  Gd (isB false t57_84) (fun kk => Ld w_86 t59_85 kk) w_86 fun t60_87 w_88 =>
  Gd (isB false t57_84) (fun kk => Pu (faV 8 b3_3) fun vv => kk vv w_88) w_88 fun t61_89 w_90 =>
  Gd (isB false t57_84) (fun kk => Ld w_90 t61_89 kk) w_90 fun t62_91 w_92 =>
  Gd (isB false t57_84) (fun kk => Pu (binV (TypeDesc.int IntKind.i64) .neq t60_87 t62_91) fun vv => kk vv w_92) w_92 fun t63_93 w_94 =>
  Pu (pickV t57_84 (Value.bool true) t63_93) fun t64_95 =>
  Gd (isB false t64_95) (fun kk => Pu (faV 9 a2_1) fun vv => kk vv w_94) w_94 fun t66_96 w_97 =>
  Gd (isB false t64_95) (fun kk => Ld w_97 t66_96 kk) w_97 fun t67_98 w_99 =>
  Gd (isB false t64_95) (fun kk => Pu (faV 9 b3_3) fun vv => kk vv w_99) w_99 fun t68_100 w_101 =>
  Gd (isB false t64_95) (fun kk => Ld w_101 t68_100 kk) w_101 fun t69_102 w_103 =>
  Gd (isB false t64_95) (fun kk => Pu (binV (TypeDesc.int IntKind.i64) .neq t67_98 t69_102) fun vv => kk vv w_103) w_103 fun t70_104 w_105 =>
  Pu (pickV t64_95 (Value.bool true) t70_104) fun t71_106 =>
  Gd (isB false t71_106) (fun kk => Pu (faV 10 a2_1) fun vv => kk vv w_105) w_105 fun t73_107 w_108 =>
  Gd (isB false t71_106) (fun kk => Ld w_108 t73_107 kk) w_108 fun t74_109 w_110 =>
  Gd (isB false t71_106) (fun kk => Pu (faV 10 b3_3) fun vv => kk vv w_110) w_110 fun t75_111 w_112 =>
  Gd (isB false t71_106) (fun kk => Ld w_112 t75_111 kk) w_112 fun t76_113 w_114 =>
  Gd (isB false t71_106) (fun kk => Pu (binV TypeDesc.string .neq t74_109 t76_113) fun vv => kk vv w_114) w_114 fun t77_115 w_116 =>
  Pu (pickV t71_106 (Value.bool true) t77_115) fun t78_117 =>
  Gd (isB false t78_117) (fun kk => Pu (faV 11 a2_1) fun vv => kk vv w_116) w_116 fun t80_118 w_119 =>
  Gd (isB false t78_117) (fun kk => Ld w_119 t80_118 kk) w_119 fun t81_120 w_121 =>
  Gd (isB false t78_117) (fun kk => Pu (faV 11 b3_3) fun vv => kk vv w_121) w_121 fun t82_122 w_123 =>
  Gd (isB false t78_117) (fun kk => Ld w_123 t82_122 kk) w_123 fun t83_124 w_125 =>
  Gd (isB false t78_117) (fun kk => Cl Tryd.prog 67 [t81_120, t83_124] w_125 kk) w_125 fun t84_126 w_127 =>
  Gd (isB false t78_117) (fun kk => Pu (unV .not t84_126) fun vv => kk vv w_127) w_127 fun t85_128 w_129 =>
  Pu (pickV t78_117 (Value.bool true) t85_128) fun t86_130 =>
  Gd (isB false t86_130) (fun kk => Pu (faV 12 a2_1) fun vv => kk vv w_129) w_129 fun t88_131 w_132 =>
  Gd (isB false t86_130) (fun kk => Ld w_132 t88_131 kk) w_132 fun t89_133 w_134 =>
  Gd (isB false t86_130) (fun kk => Pu (faV 12 b3_3) fun vv => kk vv w_134) w_134 fun t90_135 w_136 =>
  Gd (isB false t86_130) (fun kk => Ld w_136 t90_135 kk) w_136 fun t91_137 w_138 =>
  Gd (isB false t86_130) (fun kk => Cl Tryd.prog 67 [t89_133, t91_137] w_138 kk) w_138 fun t92_139 w_140 =>
  Gd (isB false t86_130) (fun kk => Pu (unV .not t92_139) fun vv => kk vv w_140) w_140 fun t93_141 w_142 =>
  Pu (pickV t86_130 (Value.bool true) t93_141) fun t94_143 =>
  IfB t94_143
    (k (Value.bool false) w_142)
    (Pu (faV 13 a2_1) fun t95_144 =>
  Ld w_142 t95_144 fun t96_145 w_146 =>
  Pu (faV 13 b3_3) fun t97_147 =>
  Ld w_146 t97_147 fun t98_148 w_149 =>
  Cl Tryd.prog 69 [t96_145, t98_148, (.func (.func 68) #[] #[])] w_149 fun t100_150 w_151 =>
  Gd (isB true t100_150) (fun kk => Pu (faV 14 a2_1) fun vv => kk vv w_151) w_151 fun t102_152 w_153 =>
  Gd (isB true t100_150) (fun kk => Ld w_153 t102_152 kk) w_153 fun t103_154 w_155 =>
  Gd (isB true t100_150) (fun kk => Pu (faV 14 b3_3) fun vv => kk vv w_155) w_155 fun t104_156 w_157 =>
  Gd (isB true t100_150) (fun kk => Ld w_157 t104_156 kk) w_157 fun t105_158 w_159 =>
  Gd (isB true t100_150) (fun kk => Cl Tryd.prog 70 [t103_154, t105_158] w_159 kk) w_159 fun t106_160 w_161 =>
  Pu (pickV t100_150 t106_160 (Value.bool false)) fun t107_162 =>
  Gd (isB true t107_162) (fun kk => Pu (faV 15 a2_1) fun vv => kk vv w_161) w_161 fun t109_163 w_164 =>
  Gd (isB true t107_162) (fun kk => Ld w_164 t109_163 kk) w_164 fun t110_165 w_166 =>
  Gd (isB true t107_162) (fun kk => Pu (faV 15 b3_3) fun vv => kk vv w_166) w_166 fun t111_167 w_168 =>
  Gd (isB true t107_162) (fun kk => Ld w_168 t111_167 kk) w_168 fun t112_169 w_170 =>
  Gd (isB true t107_162) (fun kk => Cl Tryd.prog 71 [t110_165, t112_169] w_170 kk) w_170 fun t113_171 w_172 =>
  Pu (pickV t107_162 t113_171 (Value.bool false)) fun t114_173 =>
  k t114_173 w_172))
theorem e41 (k : KV) (a0 : Value) (b1 : Value) (w : World) : K KD Tryd.prog 115 (fun j =>  []) (fun j =>  none) (Tryd.f41.body.getD .skip) (retQ Tryd.prog Tryd.f41 k) (argF [a0, b1]) w = T41 k a0 b1 w := by kernel_rfl
theorem c41 {k : KV} {a0 : Value} {b1 : Value} {w : World} (h : T41 k a0 b1 w) : Cl Tryd.prog 41 [a0, b1] w k :=
  Cl_of_K KD_sound mixed Tryd.func41 (by kernel_rfl) (by kernel_rfl) ((e41 k a0 b1 w).symm ▸ h)

/-- Function 42: almonry/almonryref04.Same. -/
def T42 (k : KV) (a0 : Value) (b1 : Value) (w : World) : Prop :=
  New (Value.cells a0) 52 w fun a2_1 w_2 =>
  New (Value.cells b1) 52 w_2 fun b3_3 w_4 =>
  Pu (faV 0 a2_1) fun t8_5 =>
  Ld w_4 t8_5 fun t9_6 w_7 =>
  Pu (faV 0 b3_3) fun t10_8 =>
  Ld w_7 t10_8 fun t11_9 w_10 =>
  Pu (binV (TypeDesc.int IntKind.i64) .neq t9_6 t11_9) fun t12_11 =>
  Gd (isB false t12_11) (fun kk => Pu (faV 1 a2_1) fun vv => kk vv w_10) w_10 fun t14_12 w_13 =>
  Gd (isB false t12_11) (fun kk => Ld w_13 t14_12 kk) w_13 fun t15_14 w_15 =>
  Gd (isB false t12_11) (fun kk => Pu (faV 1 b3_3) fun vv => kk vv w_15) w_15 fun t16_16 w_17 =>
  Gd (isB false t12_11) (fun kk => Ld w_17 t16_16 kk) w_17 fun t17_18 w_19 =>
  Gd (isB false t12_11) (fun kk => Pu (binV (TypeDesc.int IntKind.i64) .neq t15_14 t17_18) fun vv => kk vv w_19) w_19 fun t18_20 w_21 =>
  Pu (pickV t12_11 (Value.bool true) t18_20) fun t19_22 =>
  Gd (isB false t19_22) (fun kk => Pu (faV 2 a2_1) fun vv => kk vv w_21) w_21 fun t21_23 w_24 =>
  Gd (isB false t19_22) (fun kk => Ld w_24 t21_23 kk) w_24 fun t22_25 w_26 =>
  Gd (isB false t19_22) (fun kk => Pu (faV 2 b3_3) fun vv => kk vv w_26) w_26 fun t23_27 w_28 =>
  Gd (isB false t19_22) (fun kk => Ld w_28 t23_27 kk) w_28 fun t24_29 w_30 =>
  Gd (isB false t19_22) (fun kk => Pu (binV (TypeDesc.int IntKind.i64) .neq t22_25 t24_29) fun vv => kk vv w_30) w_30 fun t25_31 w_32 =>
  Pu (pickV t19_22 (Value.bool true) t25_31) fun t26_33 =>
  Gd (isB false t26_33) (fun kk => Pu (faV 3 a2_1) fun vv => kk vv w_32) w_32 fun t28_34 w_35 =>
  Gd (isB false t26_33) (fun kk => Ld w_35 t28_34 kk) w_35 fun t29_36 w_37 =>
  Gd (isB false t26_33) (fun kk => Pu (faV 3 b3_3) fun vv => kk vv w_37) w_37 fun t30_38 w_39 =>
  Gd (isB false t26_33) (fun kk => Ld w_39 t30_38 kk) w_39 fun t31_40 w_41 =>
  Gd (isB false t26_33) (fun kk => Pu (binV (TypeDesc.int IntKind.u8) .neq t29_36 t31_40) fun vv => kk vv w_41) w_41 fun t32_42 w_43 =>
  Pu (pickV t26_33 (Value.bool true) t32_42) fun t33_44 =>
  Gd (isB false t33_44) (fun kk => Pu (faV 4 a2_1) fun vv => kk vv w_43) w_43 fun t35_45 w_46 =>
  Gd (isB false t33_44) (fun kk => Ld w_46 t35_45 kk) w_46 fun t36_47 w_48 =>
  Gd (isB false t33_44) (fun kk => Pu (faV 4 b3_3) fun vv => kk vv w_48) w_48 fun t37_49 w_50 =>
  Gd (isB false t33_44) (fun kk => Ld w_50 t37_49 kk) w_50 fun t38_51 w_52 =>
  Gd (isB false t33_44) (fun kk => Pu (binV (TypeDesc.int IntKind.i64) .neq t36_47 t38_51) fun vv => kk vv w_52) w_52 fun t39_53 w_54 =>
  Pu (pickV t33_44 (Value.bool true) t39_53) fun t40_55 =>
  Gd (isB false t40_55) (fun kk => Pu (faV 5 a2_1) fun vv => kk vv w_54) w_54 fun t42_56 w_57 =>
  Gd (isB false t40_55) (fun kk => Ld w_57 t42_56 kk) w_57 fun t43_58 w_59 =>
  Gd (isB false t40_55) (fun kk => Pu (faV 5 b3_3) fun vv => kk vv w_59) w_59 fun t44_60 w_61 =>
  Gd (isB false t40_55) (fun kk => Ld w_61 t44_60 kk) w_61 fun t45_62 w_63 =>
  Gd (isB false t40_55) (fun kk => Pu (binV (TypeDesc.int IntKind.i64) .neq t43_58 t45_62) fun vv => kk vv w_63) w_63 fun t46_64 w_65 =>
  Pu (pickV t40_55 (Value.bool true) t46_64) fun t47_66 =>
  Gd (isB false t47_66) (fun kk => Pu (faV 6 a2_1) fun vv => kk vv w_65) w_65 fun t49_67 w_68 =>
  Gd (isB false t47_66) (fun kk => Ld w_68 t49_67 kk) w_68 fun t50_69 w_70 =>
  Gd (isB false t47_66) (fun kk => Pu (faV 6 b3_3) fun vv => kk vv w_70) w_70 fun t51_71 w_72 =>
  Gd (isB false t47_66) (fun kk => Ld w_72 t51_71 kk) w_72 fun t52_73 w_74 =>
  Gd (isB false t47_66) (fun kk => Pu (binV (TypeDesc.int IntKind.i64) .neq t50_69 t52_73) fun vv => kk vv w_74) w_74 fun t53_75 w_76 =>
  Pu (pickV t47_66 (Value.bool true) t53_75) fun t54_77 =>
  Gd (isB false t54_77) (fun kk => Pu (faV 7 a2_1) fun vv => kk vv w_76) w_76 fun t56_78 w_79 =>
  Gd (isB false t54_77) (fun kk => Ld w_79 t56_78 kk) w_79 fun t57_80 w_81 =>
  Gd (isB false t54_77) (fun kk => Pu (faV 7 b3_3) fun vv => kk vv w_81) w_81 fun t58_82 w_83 =>
  Gd (isB false t54_77) (fun kk => Ld w_83 t58_82 kk) w_83 fun t59_84 w_85 =>
  Gd (isB false t54_77) (fun kk => Pu (binV (TypeDesc.int IntKind.i64) .neq t57_80 t59_84) fun vv => kk vv w_85) w_85 fun t60_86 w_87 =>
  Pu (pickV t54_77 (Value.bool true) t60_86) fun t61_88 =>
  Gd (isB false t61_88) (fun kk => Pu (faV 8 a2_1) fun vv => kk vv w_87) w_87 fun t63_89 w_90 =>
  Gd (isB false t61_88) (fun kk => Ld w_90 t63_89 kk) w_90 fun t64_91 w_92 =>
  Gd (isB false t61_88) (fun kk => Pu (faV 8 b3_3) fun vv => kk vv w_92) w_92 fun t65_93 w_94 =>
  Gd (isB false t61_88) (fun kk => Ld w_94 t65_93 kk) w_94 fun t66_95 w_96 =>
  Gd (isB false t61_88) (fun kk => Pu (binV (TypeDesc.int IntKind.i64) .neq t64_91 t66_95) fun vv => kk vv w_96) w_96 fun t67_97 w_98 =>
  Pu (pickV t61_88 (Value.bool true) t67_97) fun t68_99 =>
  Gd (isB false t68_99) (fun kk => Pu (faV 9 a2_1) fun vv => kk vv w_98) w_98 fun t70_100 w_101 =>
  Gd (isB false t68_99) (fun kk => Ld w_101 t70_100 kk) w_101 fun t71_102 w_103 =>
  Gd (isB false t68_99) (fun kk => Pu (faV 9 b3_3) fun vv => kk vv w_103) w_103 fun t72_104 w_105 =>
  Gd (isB false t68_99) (fun kk => Ld w_105 t72_104 kk) w_105 fun t73_106 w_107 =>
  Gd (isB false t68_99) (fun kk => Pu (binV (TypeDesc.int IntKind.i64) .neq t71_102 t73_106) fun vv => kk vv w_107) w_107 fun t74_108 w_109 =>
  Pu (pickV t68_99 (Value.bool true) t74_108) fun t75_110 =>
  Gd (isB false t75_110) (fun kk => Pu (faV 10 a2_1) fun vv => kk vv w_109) w_109 fun t77_111 w_112 =>
  Gd (isB false t75_110) (fun kk => Ld w_112 t77_111 kk) w_112 fun t78_113 w_114 =>
  Gd (isB false t75_110) (fun kk => Pu (faV 10 b3_3) fun vv => kk vv w_114) w_114 fun t79_115 w_116 =>
  Gd (isB false t75_110) (fun kk => Ld w_116 t79_115 kk) w_116 fun t80_117 w_118 =>
  Gd (isB false t75_110) (fun kk => Pu (binV TypeDesc.string .neq t78_113 t80_117) fun vv => kk vv w_118) w_118 fun t81_119 w_120 =>
  Pu (pickV t75_110 (Value.bool true) t81_119) fun t82_121 =>
  IfB t82_121
    (k (Value.bool false) w_120)
    (Pu (faV 11 a2_1) fun t83_122 =>
  Ld w_120 t83_122 fun t84_123 w_124 =>
  Pu (faV 11 b3_3) fun t85_125 =>
  Ld w_124 t85_125 fun t86_126 w_127 =>
  Cl Tryd.prog 72 [t84_123, t86_126] w_127 fun t87_128 w_129 =>
  Pu (unV .not t87_128) fun t88_130 =>
  Gd (isB false t88_130) (fun kk => Pu (faV 12 a2_1) fun vv => kk vv w_129) w_129 fun t90_131 w_132 =>
  Gd (isB false t88_130) (fun kk => Ld w_132 t90_131 kk) w_132 fun t91_133 w_134 =>
  Gd (isB false t88_130) (fun kk => Pu (faV 12 b3_3) fun vv => kk vv w_134) w_134 fun t92_135 w_136 =>
  Gd (isB false t88_130) (fun kk => Ld w_136 t92_135 kk) w_136 fun t93_137 w_138 =>
  Gd (isB false t88_130) (fun kk => Cl Tryd.prog 72 [t91_133, t93_137] w_138 kk) w_138 fun t94_139 w_140 =>
  Gd (isB false t88_130) (fun kk => Pu (unV .not t94_139) fun vv => kk vv w_140) w_140 fun t95_141 w_142 =>
  Pu (pickV t88_130 (Value.bool true) t95_141) fun t96_143 =>
  Gd (isB false t96_143) (fun kk => Pu (faV 13 a2_1) fun vv => kk vv w_142) w_142 fun t98_144 w_145 =>
  Gd (isB false t96_143) (fun kk => Ld w_145 t98_144 kk) w_145 fun t99_146 w_147 =>
  Gd (isB false t96_143) (fun kk => Pu (lenV t99_146) fun vv => kk vv w_147) w_147 fun t100_148 w_149 =>
  Gd (isB false t96_143) (fun kk => Pu (faV 13 b3_3) fun vv => kk vv w_149) w_149 fun t101_150 w_151 =>
  Gd (isB false t96_143) (fun kk => Ld w_151 t101_150 kk) w_151 fun t102_152 w_153 =>
  Gd (isB false t96_143) (fun kk => Pu (lenV t102_152) fun vv => kk vv w_153) w_153 fun t103_154 w_155 =>
  Gd (isB false t96_143) (fun kk => Pu (binV (TypeDesc.int IntKind.i64) .neq t100_148 t103_154) fun vv => kk vv w_155) w_155 fun t104_156 w_157 =>
  Pu (pickV t96_143 (Value.bool true) t104_156) fun t105_158 =>
  Gd (isB false t105_158) (fun kk => Pu (faV 14 a2_1) fun vv => kk vv w_157) w_157 fun t107_159 w_160 =>
  Gd (isB false t105_158) (fun kk => Ld w_160 t107_159 kk) w_160 fun t108_161 w_162 =>
  Gd (isB false t105_158) (fun kk => Pu (lenV t108_161) fun vv => kk vv w_162) w_162 fun t109_163 w_164 =>
  Gd (isB false t105_158) (fun kk => Pu (faV 14 b3_3) fun vv => kk vv w_164) w_164 fun t110_165 w_166 =>
  Gd (isB false t105_158) (fun kk => Ld w_166 t110_165 kk) w_166 fun t111_167 w_168 =>
  Gd (isB false t105_158) (fun kk => Pu (lenV t111_167) fun vv => kk vv w_168) w_168 fun t112_169 w_170 =>
  Gd (isB false t105_158) (fun kk => Pu (binV (TypeDesc.int IntKind.i64) .neq t109_163 t112_169) fun vv => kk vv w_170) w_170 fun t113_171 w_172 =>
  Pu (pickV t105_158 (Value.bool true) t113_171) fun t114_173 =>
  Gd (isB false t114_173) (fun kk => Pu (faV 15 a2_1) fun vv => kk vv w_172) w_172 fun t116_174 w_175 =>
  Gd (isB false t114_173) (fun kk => Ld w_175 t116_174 kk) w_175 fun t117_176 w_177 =>
  Gd (isB false t114_173) (fun kk => Pu (lenV t117_176) fun vv => kk vv w_177) w_177 fun t118_178 w_179 =>
  Gd (isB false t114_173) (fun kk => Pu (faV 15 b3_3) fun vv => kk vv w_179) w_179 fun t119_180 w_181 =>
  Gd (isB false t114_173) (fun kk => Ld w_181 t119_180 kk) w_181 fun t120_182 w_183 =>
  Gd (isB false t114_173) (fun kk => Pu (lenV t120_182) fun vv => kk vv w_183) w_183 fun t121_184 w_185 =>
  Gd (isB false t114_173) (fun kk => Pu (binV (TypeDesc.int IntKind.i64) .neq t118_178 t121_184) fun vv => kk vv w_185) w_185 fun t122_186 w_187 =>
  Pu (pickV t114_173 (Value.bool true) t122_186) fun t123_188 =>
  IfB t123_188
    (k (Value.bool false) w_187)
    (∃ (I_189 : List Value → World → Prop) (m_190 : List Value → World → Nat), I_189 [(Value.int IntKind.i64 0)] w_187 ∧
  ∀ (g_231 : Fr) (w_230 : World), ∀ i5_193 : Value, I_189 [i5_193] w_230 →
    (Pu (faV 13 a2_1) fun t125_232 =>
    Ld w_230 t125_232 fun t126_233 w_234 =>
    Pu (lenV t126_233) fun t127_235 =>
    Pu (binV (TypeDesc.int IntKind.i64) .lss i5_193 t127_235) fun t128_236 =>
    IfB t128_236
      (Pu (faV 13 a2_1) fun t131_237 =>
    Ld (World.drew w_234) t131_237 fun t132_238 w_239 =>
    w_239 = (World.drew w_234) ∧
    Pu (ixV 7 t132_238 i5_193) fun t134_240 =>
    Pu (faV 0 t134_240) fun t135_241 =>
    Ld (World.drew w_234) t135_241 fun t136_242 w_243 =>
    w_243 = (World.drew w_234) ∧
    Pu (faV 13 b3_3) fun t137_244 =>
    Ld (World.drew w_234) t137_244 fun t138_245 w_246 =>
    w_246 = (World.drew w_234) ∧
    Pu (ixV 7 t138_245 i5_193) fun t140_247 =>
    Pu (faV 0 t140_247) fun t141_248 =>
    Ld (World.drew w_234) t141_248 fun t142_249 w_250 =>
    w_250 = (World.drew w_234) ∧
    Pu (binV (TypeDesc.int IntKind.i64) .neq t136_242 t142_249) fun t143_251 =>
    Gd (isB false t143_251) (fun kk => Pu (faV 13 a2_1) fun vv => kk vv (World.drew w_234)) (World.drew w_234) fun t145_252 w_253 =>
    Gd (isB false t143_251) (fun kk => Ld w_253 t145_252 kk) w_253 fun t146_254 w_255 =>
    w_255 = w_253 ∧
    Gd (isB false t143_251) (fun kk => kk i5_193 w_253) w_253 fun t147_256 w_257 =>
    Gd (isB false t143_251) (fun kk => Pu (ixV 7 t146_254 t147_256) fun vv => kk vv w_257) w_257 fun t148_258 w_259 =>
    Gd (isB false t143_251) (fun kk => Pu (faV 1 t148_258) fun vv => kk vv w_259) w_259 fun t149_260 w_261 =>
    Gd (isB false t143_251) (fun kk => LdN 6 w_261 t149_260 kk) w_261 fun t150_262 w_263 =>
    w_263 = w_261 ∧
    Gd (isB false t143_251) (fun kk => Pu (faV 13 b3_3) fun vv => kk vv w_261) w_261 fun t151_264 w_265 =>
    Gd (isB false t143_251) (fun kk => Ld w_265 t151_264 kk) w_265 fun t152_266 w_267 =>
    w_267 = w_265 ∧
    Gd (isB false t143_251) (fun kk => kk i5_193 w_265) w_265 fun t153_268 w_269 =>
    Gd (isB false t143_251) (fun kk => Pu (ixV 7 t152_266 t153_268) fun vv => kk vv w_269) w_269 fun t154_270 w_271 =>
    Gd (isB false t143_251) (fun kk => Pu (faV 1 t154_270) fun vv => kk vv w_271) w_271 fun t155_272 w_273 =>
    Gd (isB false t143_251) (fun kk => LdN 6 w_273 t155_272 kk) w_273 fun t156_274 w_275 =>
    w_275 = w_273 ∧
    Gd (isB false t143_251) (fun kk => Cl Tryd.prog 29 [t150_262, t156_274] w_273 kk) w_273 fun t157_276 w_277 =>
    Gd (isB false t143_251) (fun kk => Pu (unV .not t157_276) fun vv => kk vv w_277) w_277 fun t158_278 w_279 =>
    Pu (pickV t143_251 (Value.bool true) t158_278) fun t159_280 =>
    IfB t159_280
      (k (Value.bool false) w_279)
      (Pu (binV (TypeDesc.int IntKind.i64) .add i5_193 (Value.int IntKind.i64 1)) fun t130_281 =>
    I_189 [t130_281] w_279 ∧ m_190 [t130_281] w_279 < m_190 [i5_193] w_230))
      (∃ (I_282 : List Value → World → Prop) (m_283 : List Value → World → Nat), I_282 [(Value.int IntKind.i64 0)] w_234 ∧
  ∀ (g_306 : Fr) (w_305 : World), ∀ i6_286 : Value, I_282 [i6_286] w_305 →
    (Pu (faV 14 a2_1) fun t161_307 =>
    Ld w_305 t161_307 fun t162_308 w_309 =>
    Pu (lenV t162_308) fun t163_310 =>
    Pu (binV (TypeDesc.int IntKind.i64) .lss i6_286 t163_310) fun t164_311 =>
    IfB t164_311
      (Pu (faV 14 a2_1) fun t167_312 =>
    Ld (World.drew w_309) t167_312 fun t168_313 w_314 =>
    w_314 = (World.drew w_309) ∧
    Pu (ixV 2 t168_313 i6_286) fun t170_315 =>
    LdN 2 (World.drew w_309) t170_315 fun t171_316 w_317 =>
    w_317 = (World.drew w_309) ∧
    Pu (faV 14 b3_3) fun t172_318 =>
    Ld (World.drew w_309) t172_318 fun t173_319 w_320 =>
    w_320 = (World.drew w_309) ∧
    Pu (ixV 2 t173_319 i6_286) fun t175_321 =>
    LdN 2 (World.drew w_309) t175_321 fun t176_322 w_323 =>
    w_323 = (World.drew w_309) ∧
    RunS Tryd.prog (do eqGuard .neq 96 (Operand.tmp 171) (Operand.tmp 176) t171_316 t176_322; binOp .neq 96 t171_316 t176_322) (World.drew w_309) fun t177_324 w_325 =>
    w_325 = (World.drew w_309) ∧
    IfB t177_324
      (k (Value.bool false) (World.drew w_309))
      (Pu (binV (TypeDesc.int IntKind.i64) .add i6_286 (Value.int IntKind.i64 1)) fun t166_326 =>
    I_282 [t166_326] (World.drew w_309) ∧ m_283 [t166_326] (World.drew w_309) < m_283 [i6_286] w_305))
      (∃ (I_327 : List Value → World → Prop) (m_328 : List Value → World → Nat), I_327 [(Value.int IntKind.i64 0)] w_309 ∧
  ∀ (g_351 : Fr) (w_350 : World), ∀ i7_331 : Value, I_327 [i7_331] w_350 →
    (Pu (faV 15 a2_1) fun t179_352 =>
    Ld w_350 t179_352 fun t180_353 w_354 =>
    Pu (lenV t180_353) fun t181_355 =>
    Pu (binV (TypeDesc.int IntKind.i64) .lss i7_331 t181_355) fun t182_356 =>
    IfB t182_356
      (Pu (faV 15 a2_1) fun t185_357 =>
    Ld (World.drew w_354) t185_357 fun t186_358 w_359 =>
    w_359 = (World.drew w_354) ∧
    Pu (ixV 2 t186_358 i7_331) fun t188_360 =>
    LdN 2 (World.drew w_354) t188_360 fun t189_361 w_362 =>
    w_362 = (World.drew w_354) ∧
    Pu (faV 15 b3_3) fun t190_363 =>
    Ld (World.drew w_354) t190_363 fun t191_364 w_365 =>
    w_365 = (World.drew w_354) ∧
    Pu (ixV 2 t191_364 i7_331) fun t193_366 =>
    LdN 2 (World.drew w_354) t193_366 fun t194_367 w_368 =>
    w_368 = (World.drew w_354) ∧
    RunS Tryd.prog (do eqGuard .neq 99 (Operand.tmp 189) (Operand.tmp 194) t189_361 t194_367; binOp .neq 99 t189_361 t194_367) (World.drew w_354) fun t195_369 w_370 =>
    w_370 = (World.drew w_354) ∧
    IfB t195_369
      (k (Value.bool false) (World.drew w_354))
      (Pu (binV (TypeDesc.int IntKind.i64) .add i7_331 (Value.int IntKind.i64 1)) fun t184_371 =>
    I_327 [t184_371] (World.drew w_354) ∧ m_328 [t184_371] (World.drew w_354) < m_328 [i7_331] w_350))
      (k (Value.bool true) w_354))))))))
theorem e42 (k : KV) (a0 : Value) (b1 : Value) (w : World) : K KD Tryd.prog 196 (fun j => bif Nat.beq j 16 then [7] else bif Nat.beq j 11 then [6] else bif Nat.beq j 6 then [5] else []) (fun j =>  none) (Tryd.f42.body.getD .skip) (retQ Tryd.prog Tryd.f42 k) (argF [a0, b1]) w = T42 k a0 b1 w := by kernel_rfl
theorem c42 {k : KV} {a0 : Value} {b1 : Value} {w : World} (h : T42 k a0 b1 w) : Cl Tryd.prog 42 [a0, b1] w k :=
  Cl_of_K KD_sound mixed Tryd.func42 (by kernel_rfl) (by kernel_rfl) ((e42 k a0 b1 w).symm ▸ h)

/-- Function 43: almonry/almonrylaw04.awake. -/
def T43 (k : KV) (w : World) : Prop :=
  Cl Tryd.prog 73 [] w fun t10_1 w_2 =>
  Cl Tryd.prog 37 [t10_1] w_2 fun t11_3 w_4 =>
  Pu (extV t11_3 0) fun t12_5 =>
  Pu (extV t11_3 1) fun t13_6 =>
  Cl Tryd.prog 44 [t12_5] w_4 fun t16_7 w_8 =>
  Pu (extV t16_7 0) fun t17_9 =>
  Pu (extV t16_7 1) fun t18_10 =>
  Pu (extV t16_7 2) fun t19_11 =>
  New #[(Value.int IntKind.i64 0), (Value.int IntKind.i64 0), (Value.int IntKind.i64 0), (Value.int IntKind.u8 0), (Value.int IntKind.i64 0), (Value.int IntKind.i64 0), (Value.int IntKind.i64 0), (Value.int IntKind.i64 0), (Value.int IntKind.i64 0), (Value.int IntKind.i64 0), (Value.string (ByteArray.mk #[])), (Value.slice none 0 0), (Value.slice none 0 0), (Value.slice none 0 0), (Value.slice none 0 0), (Value.slice none 0 0)] 52 w_8 fun r3_12 w_13 =>
  St 16 w_13 r3_12 t17_9 fun u_14 w_15 =>
  Pu (lenS t12_5) fun t23_16 =>
  Pu (foldV0 min2V [t23_16, (Value.int IntKind.i64 7)]) fun t24_17 =>
  Pu (slS t12_5 none (some t24_17)) fun t25_18 =>
  Cl Tryd.prog 44 [t25_18] w_15 fun t26_19 w_20 =>
  Pu (extV t26_19 0) fun t27_21 =>
  Pu (extV t26_19 1) fun t28_22 =>
  Pu (extV t26_19 2) fun t29_23 =>
  New #[(Value.int IntKind.i64 0), (Value.int IntKind.i64 0), (Value.int IntKind.i64 0), (Value.int IntKind.u8 0), (Value.int IntKind.i64 0), (Value.int IntKind.i64 0), (Value.int IntKind.i64 0), (Value.int IntKind.i64 0), (Value.int IntKind.i64 0), (Value.int IntKind.i64 0), (Value.string (ByteArray.mk #[])), (Value.slice none 0 0), (Value.slice none 0 0), (Value.slice none 0 0), (Value.slice none 0 0), (Value.slice none 0 0)] 52 w_20 fun t6_24 w_25 =>
  St 16 w_25 t6_24 t27_21 fun u_26 w_27 =>
  ∃ C_28 : World → Prop, C_28 (World.drew w_27) ∧
  (Pu (binV (TypeDesc.int IntKind.i64) .eql t13_6 (Value.int IntKind.i64 0)) fun t31_29 =>
  Gd (isB true t31_29) (fun kk => kk t19_11 (World.drew w_27)) (World.drew w_27) fun t33_30 w_31 =>
  Gd (isB true t31_29) (fun kk => Pu (binV (TypeDesc.int IntKind.i64) .eql t33_30 (Value.int IntKind.i64 0)) fun vv => kk vv w_31) w_31 fun t34_32 w_33 =>
  Pu (pickV t31_29 t34_32 (Value.bool false)) fun t35_34 =>
  Gd (isB true t35_34) (fun kk => kk t29_23 w_33) w_33 fun t37_35 w_36 =>
  Gd (isB true t35_34) (fun kk => Pu (binV (TypeDesc.int IntKind.i64) .eql t37_35 (Value.int IntKind.i64 40)) fun vv => kk vv w_36) w_36 fun t38_37 w_38 =>
  Pu (pickV t35_34 t38_37 (Value.bool false)) fun t39_39 =>
  Gd (isB true t39_39) (fun kk => kk t12_5 w_38) w_38 fun t41_40 w_41 =>
  Gd (isB true t39_39) (fun kk => Pu (lenS t41_40) fun vv => kk vv w_41) w_41 fun t42_42 w_43 =>
  Gd (isB true t39_39) (fun kk => Pu (binV (TypeDesc.int IntKind.i64) .eql t42_42 (Value.int IntKind.i64 24)) fun vv => kk vv w_43) w_43 fun t43_44 w_45 =>
  Pu (pickV t39_39 t43_44 (Value.bool false)) fun t44_46 =>
  Gd (isB true t44_46) (fun kk => kk t18_10 w_45) w_45 fun t46_47 w_48 =>
  Gd (isB true t44_46) (fun kk => Pu (binV (TypeDesc.int IntKind.i64) .eql t46_47 (Value.int IntKind.i64 24)) fun vv => kk vv w_48) w_48 fun t47_49 w_50 =>
  Pu (pickV t44_46 t47_49 (Value.bool false)) fun t48_51 =>
  Gd (isB true t48_51) (fun kk => kk t12_5 w_50) w_50 fun t50_52 w_53 =>
  Gd (isB true t48_51) (fun kk => Pu (ixS t50_52 (Value.int IntKind.i64 3)) fun vv => kk vv w_53) w_53 fun t51_54 w_55 =>
  Gd (isB true t48_51) (fun kk => Pu (binV (TypeDesc.int IntKind.u8) .eql t51_54 (Value.int IntKind.u8 16)) fun vv => kk vv w_55) w_55 fun t52_56 w_57 =>
  Pu (pickV t48_51 t52_56 (Value.bool false)) fun t53_58 =>
  Gd (isB true t53_58) (fun kk => kk t12_5 w_57) w_57 fun t55_59 w_60 =>
  Gd (isB true t53_58) (fun kk => Pu (ixS t55_59 (Value.int IntKind.i64 8)) fun vv => kk vv w_60) w_60 fun t56_61 w_62 =>
  Gd (isB true t53_58) (fun kk => Pu (binV (TypeDesc.int IntKind.u8) .eql t56_61 (Value.int IntKind.u8 1)) fun vv => kk vv w_62) w_62 fun t57_63 w_64 =>
  Pu (pickV t53_58 t57_63 (Value.bool false)) fun t58_65 =>
  ∃ t60_66, (∀ w_67, C_28 w_67 → Gd (isB true t58_65) (fun kk => LdN 16 w_67 r3_12 kk) w_67 fun t60_68 w_69 =>
  t60_68 = t60_66 ∧ w_69 = w_67) ∧
  (Gd (isB true t58_65) (fun kk => Cl Tryd.prog 73 [] w_64 kk) w_64 fun t61_70 w_71 =>
  C_28 w_71 ∧
  (Gd (isB true t58_65) (fun kk => Cl Tryd.prog 41 [t60_66, t61_70] w_71 kk) w_71 fun t62_72 w_73 =>
  Pu (pickV t58_65 t62_72 (Value.bool false)) fun t63_74 =>
  Gd (isB true t63_74) (fun kk => RunS Tryd.prog (Instr.build 52 #[]) w_73 kk) w_73 fun t65_75 w_76 =>
  w_76 = w_73 ∧
  Gd (isB true t63_74) (fun kk => Cl Tryd.prog 39 [t65_75] w_73 kk) w_73 fun t66_77 w_78 =>
  Gd (isB true t63_74) (fun kk => Pu (binV (TypeDesc.int IntKind.i64) .eql t66_77 (Value.int IntKind.i64 41)) fun vv => kk vv w_78) w_78 fun t67_79 w_80 =>
  Pu (pickV t63_74 t67_79 (Value.bool false)) fun t68_81 =>
  k t68_81 w_80)))
theorem e43 (k : KV) (w : World) : K KD Tryd.prog 69 (fun j =>  []) (fun j =>  none) (Tryd.f43.body.getD .skip) (retQ Tryd.prog Tryd.f43 k) (argF []) w = T43 k  w := by kernel_rfl
theorem c43 {k : KV} {w : World} (h : T43 k  w) : Cl Tryd.prog 43 [] w k :=
  Cl_of_K KD_sound mixed Tryd.func43 (by kernel_rfl) (by kernel_rfl) ((e43 k  w).symm ▸ h)

/-- Function 44: almonry/rec.Decode. -/
def T44 (k : KV) (s0 : Value) (w : World) : Prop :=
  New #[(Value.int IntKind.i64 0), (Value.int IntKind.i64 0), (Value.int IntKind.i64 0), (Value.int IntKind.u8 0), (Value.int IntKind.i64 0), (Value.int IntKind.i64 0), (Value.int IntKind.i64 0), (Value.int IntKind.i64 0), (Value.int IntKind.i64 0), (Value.int IntKind.i64 0), (Value.string (ByteArray.mk #[])), (Value.slice none 0 0), (Value.slice none 0 0), (Value.slice none 0 0), (Value.slice none 0 0), (Value.slice none 0 0)] 52 w fun t2_1 w_2 =>
  Pu (lenS s0) fun t12_3 =>
  Pu (binV (TypeDesc.int IntKind.i64) .lss t12_3 (Value.int IntKind.i64 8)) fun t13_4 =>
  IfB t13_4
    (RunS Tryd.prog (Instr.build 52 #[]) w_2 fun t14_5 w_6 =>
      St 16 w_6 t2_1 t14_5 fun u_7 w_8 =>
      RetO (resL Tryd.prog (fun j => bif Nat.beq j 2 then t2_1 else bif Nat.beq j 3 then (Value.int IntKind.i64 0) else bif Nat.beq j 4 then (Value.int IntKind.i64 40) else undef) w_8 [(ResultVar.cell 2 52), (ResultVar.tmp 3), (ResultVar.tmp 4)]) w_8 k)
    (Pu (slS s0 none (some (Value.int IntKind.i64 4))) fun t16_9 =>
  Cl Tryd.prog 54 [t16_9] w_2 fun t17_10 w_11 =>
  Pu (binV (TypeDesc.int IntKind.i64) .eql t17_10 (Value.int IntKind.i64 0)) fun t20_12 =>
  Gd (isB false t20_12) (fun kk => kk t17_10 w_11) w_11 fun t22_13 w_14 =>
  Gd (isB false t20_12) (fun kk => Pu (binV (TypeDesc.int IntKind.i64) .gtr t22_13 (Value.int IntKind.i64 65535)) fun vv => kk vv w_14) w_14 fun t23_15 w_16 =>
  Pu (pickV t20_12 (Value.bool true) t23_15) fun t24_17 =>
  IfB t24_17
    (RunS Tryd.prog (Instr.build 52 #[]) w_16 fun t25_18 w_19 =>
      St 16 w_19 t2_1 t25_18 fun u_20 w_21 =>
      RetO (resL Tryd.prog (fun j => bif Nat.beq j 2 then t2_1 else bif Nat.beq j 3 then (Value.int IntKind.i64 0) else bif Nat.beq j 4 then (Value.int IntKind.i64 41) else undef) w_21 [(ResultVar.cell 2 52), (ResultVar.tmp 3), (ResultVar.tmp 4)]) w_21 k)
    (Pu (lenS s0) fun t28_22 =>
      Pu (binV (TypeDesc.int IntKind.i64) .add (Value.int IntKind.i64 8) t17_10) fun t30_23 =>
      Pu (binV (TypeDesc.int IntKind.i64) .lss t28_22 t30_23) fun t31_24 =>
      IfB t31_24
        (RunS Tryd.prog (Instr.build 52 #[]) w_16 fun t32_25 w_26 =>
          St 16 w_26 t2_1 t32_25 fun u_27 w_28 =>
          RetO (resL Tryd.prog (fun j => bif Nat.beq j 2 then t2_1 else bif Nat.beq j 3 then (Value.int IntKind.i64 0) else bif Nat.beq j 4 then (Value.int IntKind.i64 40) else undef) w_28 [(ResultVar.cell 2 52), (ResultVar.tmp 3), (ResultVar.tmp 4)]) w_28 k)
        (Pu (binV (TypeDesc.int IntKind.i64) .add (Value.int IntKind.i64 8) t17_10) fun t35_29 =>
  Pu (slS s0 (some (Value.int IntKind.i64 8)) (some t35_29)) fun t36_30 =>
  Pu (slS s0 (some (Value.int IntKind.i64 4)) (some (Value.int IntKind.i64 8))) fun t38_31 =>
  Cl Tryd.prog 54 [t38_31] w_16 fun t39_32 w_33 =>
  Cl Tryd.prog 50 [t36_30] w_33 fun t41_34 w_35 =>
  Pu (cvI IntKind.i64 t41_34) fun t42_36 =>
  Pu (binV (TypeDesc.int IntKind.i64) .neq t39_32 t42_36) fun t43_37 =>
  IfB t43_37
    (RunS Tryd.prog (Instr.build 52 #[]) w_35 fun t44_38 w_39 =>
      St 16 w_39 t2_1 t44_38 fun u_40 w_41 =>
      RetO (resL Tryd.prog (fun j => bif Nat.beq j 2 then t2_1 else bif Nat.beq j 3 then (Value.int IntKind.i64 0) else bif Nat.beq j 4 then (Value.int IntKind.i64 30) else undef) w_41 [(ResultVar.cell 2 52), (ResultVar.tmp 3), (ResultVar.tmp 4)]) w_41 k)
    (Cl Tryd.prog 74 [t36_30] w_35 fun t47_42 w_43 =>
  Pu (extV t47_42 0) fun t48_44 =>
  Pu (extV t47_42 1) fun t49_45 =>
  New #[(Value.int IntKind.i64 0), (Value.int IntKind.i64 0), (Value.int IntKind.i64 0), (Value.int IntKind.u8 0), (Value.int IntKind.i64 0), (Value.int IntKind.i64 0), (Value.int IntKind.i64 0), (Value.int IntKind.i64 0), (Value.int IntKind.i64 0), (Value.int IntKind.i64 0), (Value.string (ByteArray.mk #[])), (Value.slice none 0 0), (Value.slice none 0 0), (Value.slice none 0 0), (Value.slice none 0 0), (Value.slice none 0 0)] 52 w_43 fun r7_46 w_47 =>
  St 16 w_47 r7_46 t48_44 fun u_48 w_49 =>
  Pu (unV .not t49_45) fun t51_50 =>
  IfB t51_50
    (RunS Tryd.prog (Instr.build 52 #[]) w_49 fun t52_51 w_52 =>
      St 16 w_52 t2_1 t52_51 fun u_53 w_54 =>
      RetO (resL Tryd.prog (fun j => bif Nat.beq j 2 then t2_1 else bif Nat.beq j 3 then (Value.int IntKind.i64 0) else bif Nat.beq j 4 then (Value.int IntKind.i64 41) else undef) w_54 [(ResultVar.cell 2 52), (ResultVar.tmp 3), (ResultVar.tmp 4)]) w_54 k)
    (LdN 16 w_49 r7_46 fun t54_55 w_56 =>
  Cl Tryd.prog 64 [t54_55] w_56 fun t55_57 w_58 =>
  Pu (extV t55_57 0) fun t56_59 =>
  Pu (extV t55_57 1) fun t57_60 =>
  Pu (binV (TypeDesc.int IntKind.i64) .neq t57_60 (Value.int IntKind.i64 0)) fun t59_61 =>
  Gd (isB false t59_61) (fun kk => kk t56_59 w_58) w_58 fun t61_62 w_63 =>
  Gd (isB false t59_61) (fun kk => kk t36_30 w_63) w_63 fun t62_64 w_65 =>
  Gd (isB false t59_61) (fun kk => Pu (binV TypeDesc.string .neq t61_62 t62_64) fun vv => kk vv w_65) w_65 fun t63_66 w_67 =>
  Pu (pickV t59_61 (Value.bool true) t63_66) fun t64_68 =>
  IfB t64_68
    (RunS Tryd.prog (Instr.build 52 #[]) w_67 fun t65_69 w_70 =>
      St 16 w_70 t2_1 t65_69 fun u_71 w_72 =>
      RetO (resL Tryd.prog (fun j => bif Nat.beq j 2 then t2_1 else bif Nat.beq j 3 then (Value.int IntKind.i64 0) else bif Nat.beq j 4 then (Value.int IntKind.i64 41) else undef) w_72 [(ResultVar.cell 2 52), (ResultVar.tmp 3), (ResultVar.tmp 4)]) w_72 k)
    (LdN 16 w_67 r7_46 fun t66_73 w_74 =>
  Pu (binV (TypeDesc.int IntKind.i64) .add (Value.int IntKind.i64 8) t17_10) fun t68_75 =>
  St 16 w_74 t2_1 t66_73 fun u_76 w_77 =>
  RetO (resL Tryd.prog (fun j => bif Nat.beq j 2 then t2_1 else bif Nat.beq j 3 then t68_75 else bif Nat.beq j 4 then (Value.int IntKind.i64 0) else undef) w_77 [(ResultVar.cell 2 52), (ResultVar.tmp 3), (ResultVar.tmp 4)]) w_77 k))))))
theorem e44 (k : KV) (s0 : Value) (w : World) : K KD Tryd.prog 69 (fun j =>  []) (fun j =>  none) (Tryd.f44.body.getD .skip) (retQ Tryd.prog Tryd.f44 k) (argF [s0]) w = T44 k s0 w := by kernel_rfl
theorem c44 {k : KV} {s0 : Value} {w : World} (h : T44 k s0 w) : Cl Tryd.prog 44 [s0] w k :=
  Cl_of_K KD_sound mixed Tryd.func44 (by kernel_rfl) (by kernel_rfl) ((e44 k s0 w).symm ▸ h)

/-- Function 64: almonry/rec.checked. -/
def T64 (k : KV) (r0 : Value) (w : World) : Prop :=
  New (Value.cells r0) 52 w fun r1_1 w_2 =>
  Pu (faV 3 r1_1) fun t5_3 =>
  Ld w_2 t5_3 fun t6_4 w_5 =>
  Pu (binV (TypeDesc.int IntKind.u8) .lss t6_4 (Value.int IntKind.u8 1)) fun t7_6 =>
  Gd (isB false t7_6) (fun kk => Pu (faV 3 r1_1) fun vv => kk vv w_5) w_5 fun t9_7 w_8 =>
  Gd (isB false t7_6) (fun kk => Ld w_8 t9_7 kk) w_8 fun t10_9 w_10 =>
  Gd (isB false t7_6) (fun kk => Pu (binV (TypeDesc.int IntKind.u8) .gtr t10_9 (Value.int IntKind.u8 13)) fun vv => kk vv w_10) w_10 fun t11_11 w_12 =>
  Pu (pickV t7_6 (Value.bool true) t11_11) fun t12_13 =>
  IfB t12_13
    (k (.tuple #[(Value.string (ByteArray.mk #[])), (Value.int IntKind.i64 41)]) w_12)
    (Pu (faV 0 r1_1) fun t14_14 =>
      Ld w_12 t14_14 fun t15_15 w_16 =>
      Pu (binV (TypeDesc.int IntKind.i64) .lss t15_15 (Value.int IntKind.i64 1)) fun t16_17 =>
      Gd (isB false t16_17) (fun kk => LdN 16 w_16 r1_1 kk) w_16 fun t18_18 w_19 =>
      Gd (isB false t16_17) (fun kk => Cl Tryd.prog 90 [t18_18] w_19 kk) w_19 fun t19_20 w_21 =>
      Gd (isB false t16_17) (fun kk => Cl Tryd.prog 89 [t19_20, (.func (.func 91) #[] #[])] w_21 kk) w_21 fun t20_22 w_23 =>
      Pu (pickV t16_17 (Value.bool true) t20_22) fun t21_24 =>
      IfB t21_24
        (k (.tuple #[(Value.string (ByteArray.mk #[])), (Value.int IntKind.i64 4)]) w_23)
        (Pu (faV 10 r1_1) fun t23_25 =>
          Ld w_23 t23_25 fun t24_26 w_27 =>
          Pu (lenS t24_26) fun t25_28 =>
          Pu (binV (TypeDesc.int IntKind.i64) .gtr t25_28 (Value.int IntKind.i64 512)) fun t26_29 =>
          Gd (isB false t26_29) (fun kk => Pu (faV 11 r1_1) fun vv => kk vv w_27) w_27 fun t28_30 w_31 =>
          Gd (isB false t26_29) (fun kk => Ld w_31 t28_30 kk) w_31 fun t29_32 w_33 =>
          Gd (isB false t26_29) (fun kk => Pu (lenV t29_32) fun vv => kk vv w_33) w_33 fun t30_34 w_35 =>
          Gd (isB false t26_29) (fun kk => Pu (binV (TypeDesc.int IntKind.i64) .gtr t30_34 (Value.int IntKind.i64 255)) fun vv => kk vv w_35) w_35 fun t31_36 w_37 =>
          Pu (pickV t26_29 (Value.bool true) t31_36) fun t32_38 =>
          Gd (isB false t32_38) (fun kk => Pu (faV 12 r1_1) fun vv => kk vv w_37) w_37 fun t34_39 w_40 =>
          Gd (isB false t32_38) (fun kk => Ld w_40 t34_39 kk) w_40 fun t35_41 w_42 =>
          Gd (isB false t32_38) (fun kk => Pu (lenV t35_41) fun vv => kk vv w_42) w_42 fun t36_43 w_44 =>
          Gd (isB false t32_38) (fun kk => Pu (binV (TypeDesc.int IntKind.i64) .gtr t36_43 (Value.int IntKind.i64 255)) fun vv => kk vv w_44) w_44 fun t37_45 w_46 =>
          Pu (pickV t32_38 (Value.bool true) t37_45) fun t38_47 =>
          Gd (isB false t38_47) (fun kk => Pu (faV 13 r1_1) fun vv => kk vv w_46) w_46 fun t40_48 w_49 =>
          Gd (isB false t38_47) (fun kk => Ld w_49 t40_48 kk) w_49 fun t41_50 w_51 =>
          Gd (isB false t38_47) (fun kk => Pu (lenV t41_50) fun vv => kk vv w_51) w_51 fun t42_52 w_53 =>
          Gd (isB false t38_47) (fun kk => Pu (binV (TypeDesc.int IntKind.i64) .gtr t42_52 (Value.int IntKind.i64 4)) fun vv => kk vv w_53) w_53 fun t43_54 w_55 =>
          Pu (pickV t38_47 (Value.bool true) t43_54) fun t44_56 =>
          Gd (isB false t44_56) (fun kk => Pu (faV 14 r1_1) fun vv => kk vv w_55) w_55 fun t46_57 w_58 =>
          Gd (isB false t44_56) (fun kk => Ld w_58 t46_57 kk) w_58 fun t47_59 w_60 =>
          Gd (isB false t44_56) (fun kk => Pu (lenV t47_59) fun vv => kk vv w_60) w_60 fun t48_61 w_62 =>
          Gd (isB false t44_56) (fun kk => Pu (binV (TypeDesc.int IntKind.i64) .gtr t48_61 (Value.int IntKind.i64 8192)) fun vv => kk vv w_62) w_62 fun t49_63 w_64 =>
          Pu (pickV t44_56 (Value.bool true) t49_63) fun t50_65 =>
          Gd (isB false t50_65) (fun kk => Pu (faV 15 r1_1) fun vv => kk vv w_64) w_64 fun t52_66 w_67 =>
          Gd (isB false t50_65) (fun kk => Ld w_67 t52_66 kk) w_67 fun t53_68 w_69 =>
          Gd (isB false t50_65) (fun kk => Pu (lenV t53_68) fun vv => kk vv w_69) w_69 fun t54_70 w_71 =>
          Gd (isB false t50_65) (fun kk => Pu (binV (TypeDesc.int IntKind.i64) .gtr t54_70 (Value.int IntKind.i64 1024)) fun vv => kk vv w_71) w_71 fun t55_72 w_73 =>
          Pu (pickV t50_65 (Value.bool true) t55_72) fun t56_74 =>
          IfB t56_74
            (k (.tuple #[(Value.string (ByteArray.mk #[])), (Value.int IntKind.i64 3)]) w_73)
            (LdN 16 w_73 r1_1 fun t57_75 w_76 =>
  Cl Tryd.prog 92 [t57_75] w_76 fun t58_77 w_78 =>
  Pu (extV t58_77 0) fun t59_79 =>
  Pu (extV t58_77 1) fun t60_80 =>
  k (.tuple #[t59_79, t60_80]) w_78)))
theorem e64 (k : KV) (r0 : Value) (w : World) : K KD Tryd.prog 61 (fun j =>  []) (fun j =>  none) (Tryd.f64.body.getD .skip) (retQ Tryd.prog Tryd.f64 k) (argF [r0]) w = T64 k r0 w := by kernel_rfl
theorem c64 {k : KV} {r0 : Value} {w : World} (h : T64 k r0 w) : Cl Tryd.prog 64 [r0] w k :=
  Cl_of_K KD_sound mixed Tryd.func64 (by kernel_rfl) (by kernel_rfl) ((e64 k r0 w).symm ▸ h)

/-- Function 65: almonry/almonryref04.body. -/
def T65 (k : KV) (r0 : Value) (w : World) : Prop :=
  New (Value.cells r0) 52 w fun r1_1 w_2 =>
  ∃ C_3 : World → Prop, C_3 (World.drew w_2) ∧
  (Pu (faV 0 r1_1) fun t7_4 =>
  Ld (World.drew w_2) t7_4 fun t8_5 w_6 =>
  w_6 = (World.drew w_2) ∧
  Pu (faV 1 r1_1) fun t9_7 =>
  Ld (World.drew w_2) t9_7 fun t10_8 w_9 =>
  w_9 = (World.drew w_2) ∧
  Pu (faV 2 r1_1) fun t11_10 =>
  Ld (World.drew w_2) t11_10 fun t12_11 w_12 =>
  w_12 = (World.drew w_2) ∧
  Pu (faV 3 r1_1) fun t13_13 =>
  Ld (World.drew w_2) t13_13 fun t14_14 w_15 =>
  w_15 = (World.drew w_2) ∧
  Pu (cvI IntKind.i64 t14_14) fun t15_16 =>
  Pu (faV 4 r1_1) fun t16_17 =>
  Ld (World.drew w_2) t16_17 fun t17_18 w_19 =>
  w_19 = (World.drew w_2) ∧
  Pu (faV 5 r1_1) fun t18_20 =>
  Ld (World.drew w_2) t18_20 fun t19_21 w_22 =>
  w_22 = (World.drew w_2) ∧
  Pu (faV 6 r1_1) fun t20_23 =>
  Ld (World.drew w_2) t20_23 fun t21_24 w_25 =>
  w_25 = (World.drew w_2) ∧
  Pu (faV 7 r1_1) fun t22_26 =>
  Ld (World.drew w_2) t22_26 fun t23_27 w_28 =>
  w_28 = (World.drew w_2) ∧
  Pu (faV 8 r1_1) fun t24_29 =>
  Ld (World.drew w_2) t24_29 fun t25_30 w_31 =>
  w_31 = (World.drew w_2) ∧
  Pu (faV 9 r1_1) fun t26_32 =>
  Ld (World.drew w_2) t26_32 fun t27_33 w_34 =>
  w_34 = (World.drew w_2) ∧
  Pu (faV 10 r1_1) fun t30_35 =>
  ∃ t31_36, (∀ w_37, C_3 w_37 → Ld w_37 t30_35 fun t31_38 w_39 =>
  t31_38 = t31_36 ∧ w_39 = w_37) ∧
  (RunS Tryd.prog (Instr.buildSlice 47 10 #[(0, t8_5), (1, t10_8), (2, t12_11), (3, t15_16), (4, t17_18), (5, t19_21), (6, t21_24), (7, t23_27), (8, t25_30), (9, t27_33)]) (World.drew w_2) fun t28_40 w_41 =>
  C_3 w_41 ∧
  (Cl Tryd.prog 93 [t28_40] w_41 fun t29_42 w_43 =>
  C_3 w_43 ∧
  (Cl Tryd.prog 94 [t31_36] w_43 fun t32_44 w_45 =>
  Pu (binV TypeDesc.string .add t29_42 t32_44) fun t33_46 =>
  RunS Tryd.prog (convert 9 38 t33_46) w_45 fun t34_47 w_48 =>
  Pu (faV 11 r1_1) fun t36_49 =>
  Ld w_48 t36_49 fun t37_50 w_51 =>
  Pu (lenV t37_50) fun t38_52 =>
  RunS Tryd.prog (Instr.buildSlice 47 1 #[(0, t38_52)]) w_51 fun t39_53 w_54 =>
  Cl Tryd.prog 93 [t39_53] w_54 fun t40_55 w_56 =>
  RunS Tryd.prog (Builtin.append_ #[38, 9] 38 #[t34_47, t40_55]) w_56 fun t41_57 w_58 =>
  Pu (faV 11 r1_1) fun t43_59 =>
  Ld w_58 t43_59 fun t44_60 w_61 =>
  Cl Tryd.prog 93 [t44_60] w_61 fun t45_62 w_63 =>
  RunS Tryd.prog (Builtin.append_ #[38, 9] 38 #[t41_57, t45_62]) w_63 fun t46_64 w_65 =>
  Pu (faV 12 r1_1) fun t48_66 =>
  Ld w_65 t48_66 fun t49_67 w_68 =>
  Pu (lenV t49_67) fun t50_69 =>
  RunS Tryd.prog (Instr.buildSlice 47 1 #[(0, t50_69)]) w_68 fun t51_70 w_71 =>
  Cl Tryd.prog 93 [t51_70] w_71 fun t52_72 w_73 =>
  RunS Tryd.prog (Builtin.append_ #[38, 9] 38 #[t46_64, t52_72]) w_73 fun t53_74 w_75 =>
  Pu (faV 12 r1_1) fun t55_76 =>
  Ld w_75 t55_76 fun t56_77 w_78 =>
  Cl Tryd.prog 93 [t56_77] w_78 fun t57_79 w_80 =>
  RunS Tryd.prog (Builtin.append_ #[38, 9] 38 #[t53_74, t57_79]) w_80 fun t58_81 w_82 =>
  Pu (faV 13 r1_1) fun t60_83 =>
  Ld w_82 t60_83 fun t61_84 w_85 =>
  Pu (lenV t61_84) fun t62_86 =>
  RunS Tryd.prog (Instr.buildSlice 47 1 #[(0, t62_86)]) w_85 fun t63_87 w_88 =>
  Cl Tryd.prog 93 [t63_87] w_88 fun t64_89 w_90 =>
  RunS Tryd.prog (Builtin.append_ #[38, 9] 38 #[t58_81, t64_89]) w_90 fun t65_91 w_92 =>
  ∃ (I_93 : List Value → World → Prop) (m_94 : List Value → World → Nat), I_93 [t65_91, (Value.int IntKind.i64 0)] w_92 ∧
  ∀ (g_125 : Fr) (w_124 : World), ∀ out3_96 : Value, ∀ i4_97 : Value, I_93 [out3_96, i4_97] w_124 →
    (Pu (faV 13 r1_1) fun t67_126 =>
    Ld w_124 t67_126 fun t68_127 w_128 =>
    Pu (lenV t68_127) fun t69_129 =>
    Pu (binV (TypeDesc.int IntKind.i64) .lss i4_97 t69_129) fun t70_130 =>
    IfB t70_130
      (∃ C_131 : World → Prop, C_131 (World.drew w_128) ∧
    (Pu (faV 13 r1_1) fun t74_132 =>
    Ld (World.drew w_128) t74_132 fun t75_133 w_134 =>
    w_134 = (World.drew w_128) ∧
    Pu (ixV 7 t75_133 i4_97) fun t77_135 =>
    Pu (faV 0 t77_135) fun t78_136 =>
    Ld (World.drew w_128) t78_136 fun t79_137 w_138 =>
    w_138 = (World.drew w_128) ∧
    Pu (faV 13 r1_1) fun t82_139 =>
    ∃ t83_140, (∀ w_141, C_131 w_141 → Ld w_141 t82_139 fun t83_142 w_143 =>
    t83_142 = t83_140 ∧ w_143 = w_141) ∧
    (Pu (ixV 7 t83_140 i4_97) fun t85_144 =>
    Pu (faV 1 t85_144) fun t86_145 =>
    ∃ t87_146, (∀ w_147, C_131 w_147 → LdN 6 w_147 t86_145 fun t87_148 w_149 =>
    t87_148 = t87_146 ∧ w_149 = w_147) ∧
    (RunS Tryd.prog (Instr.buildSlice 47 1 #[(0, t79_137)]) (World.drew w_128) fun t80_150 w_151 =>
    C_131 w_151 ∧
    (Cl Tryd.prog 93 [t80_150] w_151 fun t81_152 w_153 =>
    C_131 w_153 ∧
    (Cl Tryd.prog 95 [t87_146] w_153 fun t88_154 w_155 =>
    Cl Tryd.prog 94 [t88_154] w_155 fun t89_156 w_157 =>
    Pu (binV TypeDesc.string .add t81_152 t89_156) fun t90_158 =>
    RunS Tryd.prog (Builtin.append_ #[38, 9] 38 #[out3_96, t90_158]) w_157 fun t91_159 w_160 =>
    Pu (binV (TypeDesc.int IntKind.i64) .add i4_97 (Value.int IntKind.i64 1)) fun t72_161 =>
    I_93 [t91_159, t72_161] w_160 ∧ m_94 [t91_159, t72_161] w_160 < m_94 [out3_96, i4_97] w_124))))))
      (Pu (faV 14 r1_1) fun t93_162 =>
  Ld w_128 t93_162 fun t94_163 w_164 =>
  Pu (lenV t94_163) fun t95_165 =>
  RunS Tryd.prog (Instr.buildSlice 47 1 #[(0, t95_165)]) w_164 fun t96_166 w_167 =>
  Cl Tryd.prog 93 [t96_166] w_167 fun t97_168 w_169 =>
  RunS Tryd.prog (Builtin.append_ #[38, 9] 38 #[out3_96, t97_168]) w_169 fun t98_170 w_171 =>
  ∃ (I_172 : List Value → World → Prop) (m_173 : List Value → World → Nat), I_172 [t98_170, (Value.int IntKind.i64 0)] w_171 ∧
  ∀ (g_201 : Fr) (w_200 : World), ∀ out3_175 : Value, ∀ i5_176 : Value, I_172 [out3_175, i5_176] w_200 →
    (Pu (faV 14 r1_1) fun t100_202 =>
    Ld w_200 t100_202 fun t101_203 w_204 =>
    Pu (lenV t101_203) fun t102_205 =>
    Pu (binV (TypeDesc.int IntKind.i64) .lss i5_176 t102_205) fun t103_206 =>
    IfB t103_206
      (Pu (faV 14 r1_1) fun t107_207 =>
    Ld (World.drew w_204) t107_207 fun t108_208 w_209 =>
    w_209 = (World.drew w_204) ∧
    Pu (ixV 2 t108_208 i5_176) fun t110_210 =>
    Pu (faV 0 t110_210) fun t111_211 =>
    Ld (World.drew w_204) t111_211 fun t112_212 w_213 =>
    w_213 = (World.drew w_204) ∧
    Pu (faV 14 r1_1) fun t113_214 =>
    Ld (World.drew w_204) t113_214 fun t114_215 w_216 =>
    w_216 = (World.drew w_204) ∧
    Pu (ixV 2 t114_215 i5_176) fun t116_217 =>
    Pu (faV 1 t116_217) fun t117_218 =>
    Ld (World.drew w_204) t117_218 fun t118_219 w_220 =>
    w_220 = (World.drew w_204) ∧
    RunS Tryd.prog (Instr.buildSlice 47 2 #[(0, t112_212), (1, t118_219)]) (World.drew w_204) fun t119_221 w_222 =>
    Cl Tryd.prog 93 [t119_221] w_222 fun t120_223 w_224 =>
    RunS Tryd.prog (Builtin.append_ #[38, 9] 38 #[out3_175, t120_223]) w_224 fun t121_225 w_226 =>
    Pu (binV (TypeDesc.int IntKind.i64) .add i5_176 (Value.int IntKind.i64 1)) fun t105_227 =>
    I_172 [t121_225, t105_227] w_226 ∧ m_173 [t121_225, t105_227] w_226 < m_173 [out3_175, i5_176] w_200)
      (Pu (faV 15 r1_1) fun t123_228 =>
  Ld w_204 t123_228 fun t124_229 w_230 =>
  Pu (lenV t124_229) fun t125_231 =>
  RunS Tryd.prog (Instr.buildSlice 47 1 #[(0, t125_231)]) w_230 fun t126_232 w_233 =>
  Cl Tryd.prog 93 [t126_232] w_233 fun t127_234 w_235 =>
  RunS Tryd.prog (Builtin.append_ #[38, 9] 38 #[out3_175, t127_234]) w_235 fun t128_236 w_237 =>
  ∃ (I_238 : List Value → World → Prop) (m_239 : List Value → World → Nat), I_238 [t128_236, (Value.int IntKind.i64 0)] w_237 ∧
  ∀ (g_267 : Fr) (w_266 : World), ∀ out3_241 : Value, ∀ i6_242 : Value, I_238 [out3_241, i6_242] w_266 →
    (Pu (faV 15 r1_1) fun t130_268 =>
    Ld w_266 t130_268 fun t131_269 w_270 =>
    Pu (lenV t131_269) fun t132_271 =>
    Pu (binV (TypeDesc.int IntKind.i64) .lss i6_242 t132_271) fun t133_272 =>
    IfB t133_272
      (Pu (faV 15 r1_1) fun t137_273 =>
    Ld (World.drew w_270) t137_273 fun t138_274 w_275 =>
    w_275 = (World.drew w_270) ∧
    Pu (ixV 2 t138_274 i6_242) fun t140_276 =>
    Pu (faV 0 t140_276) fun t141_277 =>
    Ld (World.drew w_270) t141_277 fun t142_278 w_279 =>
    w_279 = (World.drew w_270) ∧
    Pu (faV 15 r1_1) fun t143_280 =>
    Ld (World.drew w_270) t143_280 fun t144_281 w_282 =>
    w_282 = (World.drew w_270) ∧
    Pu (ixV 2 t144_281 i6_242) fun t146_283 =>
    Pu (faV 1 t146_283) fun t147_284 =>
    Ld (World.drew w_270) t147_284 fun t148_285 w_286 =>
    w_286 = (World.drew w_270) ∧
    RunS Tryd.prog (Instr.buildSlice 47 2 #[(0, t142_278), (1, t148_285)]) (World.drew w_270) fun t149_287 w_288 =>
    Cl Tryd.prog 93 [t149_287] w_288 fun t150_289 w_290 =>
    RunS Tryd.prog (Builtin.append_ #[38, 9] 38 #[out3_241, t150_289]) w_290 fun t151_291 w_292 =>
    Pu (binV (TypeDesc.int IntKind.i64) .add i6_242 (Value.int IntKind.i64 1)) fun t135_293 =>
    I_238 [t151_291, t135_293] w_292 ∧ m_239 [t151_291, t135_293] w_292 < m_239 [out3_241, i6_242] w_266)
      (RunS Tryd.prog (convert 38 9 out3_241) w_270 fun t153_294 w_295 =>
  k t153_294 w_295))))))))))
theorem e65 (k : KV) (r0 : Value) (w : World) : K KD Tryd.prog 154 (fun j => bif Nat.beq j 18 then [3, 6] else bif Nat.beq j 13 then [3, 5] else bif Nat.beq j 8 then [3, 4] else []) (fun j =>  none) (Tryd.f65.body.getD .skip) (retQ Tryd.prog Tryd.f65 k) (argF [r0]) w = T65 k r0 w := by kernel_rfl
theorem c65 {k : KV} {r0 : Value} {w : World} (h : T65 k r0 w) : Cl Tryd.prog 65 [r0] w k :=
  Cl_of_K KD_sound mixed Tryd.func65 (by kernel_rfl) (by kernel_rfl) ((e65 k r0 w).symm ▸ h)

/-- Function 66: almonry/almonryref04.ranges. -/
def T66 (k : KV) (r0 : Value) (w : World) : Prop :=
  New (Value.cells r0) 52 w fun r1_1 w_2 =>
  Pu (faV 0 r1_1) fun t6_3 =>
  Ld w_2 t6_3 fun t7_4 w_5 =>
  Pu (binV (TypeDesc.int IntKind.i64) .lss t7_4 (Value.int IntKind.i64 1)) fun t8_6 =>
  Gd (isB false t8_6) (fun kk => Pu (faV 0 r1_1) fun vv => kk vv w_5) w_5 fun t10_7 w_8 =>
  Gd (isB false t8_6) (fun kk => Ld w_8 t10_7 kk) w_8 fun t11_9 w_10 =>
  Gd (isB false t8_6) (fun kk => Pu (faV 1 r1_1) fun vv => kk vv w_10) w_10 fun t12_11 w_12 =>
  Gd (isB false t8_6) (fun kk => Ld w_12 t12_11 kk) w_12 fun t13_13 w_14 =>
  Gd (isB false t8_6) (fun kk => Pu (faV 2 r1_1) fun vv => kk vv w_14) w_14 fun t14_15 w_16 =>
  Gd (isB false t8_6) (fun kk => Ld w_16 t14_15 kk) w_16 fun t15_17 w_18 =>
  Gd (isB false t8_6) (fun kk => Pu (faV 9 r1_1) fun vv => kk vv w_18) w_18 fun t16_19 w_20 =>
  Gd (isB false t8_6) (fun kk => Ld w_20 t16_19 kk) w_20 fun t17_21 w_22 =>
  Gd (isB false t8_6) (fun kk => Pu (faV 4 r1_1) fun vv => kk vv w_22) w_22 fun t18_23 w_24 =>
  Gd (isB false t8_6) (fun kk => Ld w_24 t18_23 kk) w_24 fun t19_25 w_26 =>
  Gd (isB false t8_6) (fun kk => Pu (faV 5 r1_1) fun vv => kk vv w_26) w_26 fun t20_27 w_28 =>
  Gd (isB false t8_6) (fun kk => Ld w_28 t20_27 kk) w_28 fun t21_29 w_30 =>
  Gd (isB false t8_6) (fun kk => Pu (faV 6 r1_1) fun vv => kk vv w_30) w_30 fun t22_31 w_32 =>
  Gd (isB false t8_6) (fun kk => Ld w_32 t22_31 kk) w_32 fun t23_33 w_34 =>
  Gd (isB false t8_6) (fun kk => Pu (faV 7 r1_1) fun vv => kk vv w_34) w_34 fun t24_35 w_36 =>
  Gd (isB false t8_6) (fun kk => Ld w_36 t24_35 kk) w_36 fun t25_37 w_38 =>
  Gd (isB false t8_6) (fun kk => Pu (faV 8 r1_1) fun vv => kk vv w_38) w_38 fun t26_39 w_40 =>
  Gd (isB false t8_6) (fun kk => Ld w_40 t26_39 kk) w_40 fun t27_41 w_42 =>
  Gd (isB false t8_6) (fun kk => RunS Tryd.prog (Instr.buildSlice 47 9 #[(0, t11_9), (1, t13_13), (2, t15_17), (3, t17_21), (4, t19_25), (5, t21_29), (6, t23_33), (7, t25_37), (8, t27_41)]) w_42 kk) w_42 fun t28_43 w_44 =>
  Gd (isB false t8_6) (fun kk => Cl Tryd.prog 96 [t28_43] w_44 kk) w_44 fun t29_45 w_46 =>
  Gd (isB false t8_6) (fun kk => Pu (unV .not t29_45) fun vv => kk vv w_46) w_46 fun t30_47 w_48 =>
  Pu (pickV t8_6 (Value.bool true) t30_47) fun t31_49 =>
  Gd (isB false t31_49) (fun kk => Pu (faV 11 r1_1) fun vv => kk vv w_48) w_48 fun t33_50 w_51 =>
  Gd (isB false t31_49) (fun kk => Ld w_51 t33_50 kk) w_51 fun t34_52 w_53 =>
  Gd (isB false t31_49) (fun kk => Cl Tryd.prog 96 [t34_52] w_53 kk) w_53 fun t35_54 w_55 =>
  Gd (isB false t31_49) (fun kk => Pu (unV .not t35_54) fun vv => kk vv w_55) w_55 fun t36_56 w_57 =>
  Pu (pickV t31_49 (Value.bool true) t36_56) fun t37_58 =>
  Gd (isB false t37_58) (fun kk => Pu (faV 12 r1_1) fun vv => kk vv w_57) w_57 fun t39_59 w_60 =>
  Gd (isB false t37_58) (fun kk => Ld w_60 t39_59 kk) w_60 fun t40_61 w_62 =>
  Gd (isB false t37_58) (fun kk => Cl Tryd.prog 96 [t40_61] w_62 kk) w_62 fun t41_63 w_64 =>
  Gd (isB false t37_58) (fun kk => Pu (unV .not t41_63) fun vv => kk vv w_64) w_64 fun t42_65 w_66 =>
  Pu (pickV t37_58 (Value.bool true) t42_65) fun t43_67 =>
  IfB t43_67
    (k (Value.bool false) w_66)
    (∃ (I_68 : List Value → World → Prop) (m_69 : List Value → World → Nat), I_68 [(Value.int IntKind.i64 0)] w_66 ∧
  ∀ (g_89 : Fr) (w_88 : World), ∀ i3_72 : Value, I_68 [i3_72] w_88 →
    (Pu (faV 13 r1_1) fun t45_90 =>
    Ld w_88 t45_90 fun t46_91 w_92 =>
    Pu (lenV t46_91) fun t47_93 =>
    Pu (binV (TypeDesc.int IntKind.i64) .lss i3_72 t47_93) fun t48_94 =>
    IfB t48_94
      (Pu (faV 13 r1_1) fun t51_95 =>
    Ld w_92 t51_95 fun t52_96 w_97 =>
    Pu (ixV 7 t52_96 i3_72) fun t54_98 =>
    Pu (faV 0 t54_98) fun t55_99 =>
    Ld w_97 t55_99 fun t56_100 w_101 =>
    Cl Tryd.prog 97 [t56_100] w_101 fun t57_102 w_103 =>
    Pu (unV .not t57_102) fun t58_104 =>
    IfB t58_104
      (k (Value.bool false) w_103)
      (Pu (binV (TypeDesc.int IntKind.i64) .add i3_72 (Value.int IntKind.i64 1)) fun t50_105 =>
    I_68 [t50_105] w_103 ∧ m_69 [t50_105] w_103 < m_69 [i3_72] w_88))
      (∃ (I_106 : List Value → World → Prop) (m_107 : List Value → World → Nat), I_106 [(Value.int IntKind.i64 0)] w_92 ∧
  ∀ (g_137 : Fr) (w_136 : World), ∀ i4_110 : Value, I_106 [i4_110] w_136 →
    (Pu (faV 14 r1_1) fun t60_138 =>
    Ld w_136 t60_138 fun t61_139 w_140 =>
    Pu (lenV t61_139) fun t62_141 =>
    Pu (binV (TypeDesc.int IntKind.i64) .lss i4_110 t62_141) fun t63_142 =>
    IfB t63_142
      (Pu (faV 14 r1_1) fun t66_143 =>
    Ld w_140 t66_143 fun t67_144 w_145 =>
    Pu (ixV 2 t67_144 i4_110) fun t69_146 =>
    Pu (faV 0 t69_146) fun t70_147 =>
    Ld w_145 t70_147 fun t71_148 w_149 =>
    Cl Tryd.prog 97 [t71_148] w_149 fun t72_150 w_151 =>
    Pu (unV .not t72_150) fun t73_152 =>
    Gd (isB false t73_152) (fun kk => Pu (faV 14 r1_1) fun vv => kk vv w_151) w_151 fun t75_153 w_154 =>
    Gd (isB false t73_152) (fun kk => Ld w_154 t75_153 kk) w_154 fun t76_155 w_156 =>
    Gd (isB false t73_152) (fun kk => kk i4_110 w_156) w_156 fun t77_157 w_158 =>
    Gd (isB false t73_152) (fun kk => Pu (ixV 2 t76_155 t77_157) fun vv => kk vv w_158) w_158 fun t78_159 w_160 =>
    Gd (isB false t73_152) (fun kk => Pu (faV 1 t78_159) fun vv => kk vv w_160) w_160 fun t79_161 w_162 =>
    Gd (isB false t73_152) (fun kk => Ld w_162 t79_161 kk) w_162 fun t80_163 w_164 =>
    Gd (isB false t73_152) (fun kk => Cl Tryd.prog 97 [t80_163] w_164 kk) w_164 fun t81_165 w_166 =>
    Gd (isB false t73_152) (fun kk => Pu (unV .not t81_165) fun vv => kk vv w_166) w_166 fun t82_167 w_168 =>
    Pu (pickV t73_152 (Value.bool true) t82_167) fun t83_169 =>
    IfB t83_169
      (k (Value.bool false) w_168)
      (Pu (binV (TypeDesc.int IntKind.i64) .add i4_110 (Value.int IntKind.i64 1)) fun t65_170 =>
    I_106 [t65_170] w_168 ∧ m_107 [t65_170] w_168 < m_107 [i4_110] w_136))
      (∃ (I_171 : List Value → World → Prop) (m_172 : List Value → World → Nat), I_171 [(Value.int IntKind.i64 0)] w_140 ∧
  ∀ (g_202 : Fr) (w_201 : World), ∀ i5_175 : Value, I_171 [i5_175] w_201 →
    (Pu (faV 15 r1_1) fun t85_203 =>
    Ld w_201 t85_203 fun t86_204 w_205 =>
    Pu (lenV t86_204) fun t87_206 =>
    Pu (binV (TypeDesc.int IntKind.i64) .lss i5_175 t87_206) fun t88_207 =>
    IfB t88_207
      (Pu (faV 15 r1_1) fun t91_208 =>
    Ld w_205 t91_208 fun t92_209 w_210 =>
    Pu (ixV 2 t92_209 i5_175) fun t94_211 =>
    Pu (faV 0 t94_211) fun t95_212 =>
    Ld w_210 t95_212 fun t96_213 w_214 =>
    Cl Tryd.prog 97 [t96_213] w_214 fun t97_215 w_216 =>
    Pu (unV .not t97_215) fun t98_217 =>
    Gd (isB false t98_217) (fun kk => Pu (faV 15 r1_1) fun vv => kk vv w_216) w_216 fun t100_218 w_219 =>
    Gd (isB false t98_217) (fun kk => Ld w_219 t100_218 kk) w_219 fun t101_220 w_221 =>
    Gd (isB false t98_217) (fun kk => kk i5_175 w_221) w_221 fun t102_222 w_223 =>
    Gd (isB false t98_217) (fun kk => Pu (ixV 2 t101_220 t102_222) fun vv => kk vv w_223) w_223 fun t103_224 w_225 =>
    Gd (isB false t98_217) (fun kk => Pu (faV 1 t103_224) fun vv => kk vv w_225) w_225 fun t104_226 w_227 =>
    Gd (isB false t98_217) (fun kk => Ld w_227 t104_226 kk) w_227 fun t105_228 w_229 =>
    Gd (isB false t98_217) (fun kk => Cl Tryd.prog 97 [t105_228] w_229 kk) w_229 fun t106_230 w_231 =>
    Gd (isB false t98_217) (fun kk => Pu (unV .not t106_230) fun vv => kk vv w_231) w_231 fun t107_232 w_233 =>
    Pu (pickV t98_217 (Value.bool true) t107_232) fun t108_234 =>
    IfB t108_234
      (k (Value.bool false) w_233)
      (Pu (binV (TypeDesc.int IntKind.i64) .add i5_175 (Value.int IntKind.i64 1)) fun t90_235 =>
    I_171 [t90_235] w_233 ∧ m_172 [t90_235] w_233 < m_172 [i5_175] w_201))
      (k (Value.bool true) w_205)))))))
theorem e66 (k : KV) (r0 : Value) (w : World) : K KD Tryd.prog 109 (fun j => bif Nat.beq j 14 then [5] else bif Nat.beq j 9 then [4] else bif Nat.beq j 4 then [3] else []) (fun j =>  none) (Tryd.f66.body.getD .skip) (retQ Tryd.prog Tryd.f66 k) (argF [r0]) w = T66 k r0 w := by kernel_rfl
theorem c66 {k : KV} {r0 : Value} {w : World} (h : T66 k r0 w) : Cl Tryd.prog 66 [r0] w k :=
  Cl_of_K KD_sound mixed Tryd.func66 (by kernel_rfl) (by kernel_rfl) ((e66 k r0 w).symm ▸ h)

/-- Function 67: slices.Equal[[]int,int]. -/
def T67 (k : KV) (s10 : Value) (s21 : Value) (w : World) : Prop :=
  Pu (lenV s10) fun t7_1 =>
  Pu (lenV s21) fun t9_2 =>
  Pu (binV (TypeDesc.int IntKind.i64) .neq t7_1 t9_2) fun t10_3 =>
  IfB t10_3
    (k (Value.bool false) w)
    (Pu (lenV s10) fun t12_4 =>
  ∃ (I_5 : List Value → World → Prop) (m_6 : List Value → World → Nat), I_5 [(Value.int IntKind.i64 0)] w ∧
  ∀ (g_24 : Fr) (w_23 : World), ∀ t13_10 : Value, I_5 [t13_10] w_23 →
    (Pu (binV (TypeDesc.int IntKind.i64) .lss t13_10 t12_4) fun t14_25 =>
    IfB t14_25
      (Pu (ixV 1 s10 t13_10) fun t18_26 =>
    Ld (World.drew w_23) t18_26 fun t19_27 w_28 =>
    w_28 = (World.drew w_23) ∧
    Pu (ixV 1 s21 t13_10) fun t22_29 =>
    Ld (World.drew w_23) t22_29 fun t23_30 w_31 =>
    w_31 = (World.drew w_23) ∧
    Pu (binV (TypeDesc.int IntKind.i64) .neq t19_27 t23_30) fun t24_32 =>
    IfB t24_32
      (k (Value.bool false) (World.drew w_23))
      (Pu (binV (TypeDesc.int IntKind.i64) .add t13_10 (Value.int IntKind.i64 1)) fun t25_33 =>
    I_5 [t25_33] (World.drew w_23) ∧ m_6 [t25_33] (World.drew w_23) < m_6 [t13_10] w_23))
      (k (Value.bool true) w_23)))
theorem e67 (k : KV) (s10 : Value) (s21 : Value) (w : World) : K KD Tryd.prog 26 (fun j => bif Nat.beq j 4 then [13] else []) (fun j =>  none) (Tryd.f67.body.getD .skip) (retQ Tryd.prog Tryd.f67 k) (argF [s10, s21]) w = T67 k s10 s21 w := by kernel_rfl
theorem c67 {k : KV} {s10 : Value} {s21 : Value} {w : World} (h : T67 k s10 s21 w) : Cl Tryd.prog 67 [s10, s21] w k :=
  Cl_of_K KD_sound mixed Tryd.func67 (by kernel_rfl) (by kernel_rfl) ((e67 k s10 s21 w).symm ▸ h)

/-- Function 68: almonry/rec.Same$1. -/
def T68 (k : KV) (x0 : Value) (y1 : Value) (w : World) : Prop :=
  New (Value.cells x0) 90 w fun x2_1 w_2 =>
  New (Value.cells y1) 90 w_2 fun y3_3 w_4 =>
  Pu (faV 0 x2_1) fun t5_5 =>
  Ld w_4 t5_5 fun t6_6 w_7 =>
  Pu (faV 0 y3_3) fun t7_8 =>
  Ld w_7 t7_8 fun t8_9 w_10 =>
  Pu (binV (TypeDesc.int IntKind.i64) .eql t6_6 t8_9) fun t9_11 =>
  Gd (isB true t9_11) (fun kk => Pu (faV 1 x2_1) fun vv => kk vv w_10) w_10 fun t11_12 w_13 =>
  Gd (isB true t9_11) (fun kk => LdN 6 w_13 t11_12 kk) w_13 fun t12_14 w_15 =>
  Gd (isB true t9_11) (fun kk => Pu (faV 1 y3_3) fun vv => kk vv w_15) w_15 fun t13_16 w_17 =>
  Gd (isB true t9_11) (fun kk => LdN 6 w_17 t13_16 kk) w_17 fun t14_18 w_19 =>
  Gd (isB true t9_11) (fun kk => Cl Tryd.prog 30 [t12_14, t14_18] w_19 kk) w_19 fun t15_20 w_21 =>
  Pu (pickV t9_11 t15_20 (Value.bool false)) fun t16_22 =>
  k t16_22 w_21
theorem e68 (k : KV) (x0 : Value) (y1 : Value) (w : World) : K KD Tryd.prog 17 (fun j =>  []) (fun j =>  none) (Tryd.f68.body.getD .skip) (retQ Tryd.prog Tryd.f68 k) (argF [x0, y1]) w = T68 k x0 y1 w := by kernel_rfl
theorem c68 {k : KV} {x0 : Value} {y1 : Value} {w : World} (h : T68 k x0 y1 w) : Cl Tryd.prog 68 [x0, y1] w k :=
  Cl_of_K KD_sound mixed Tryd.func68 (by kernel_rfl) (by kernel_rfl) ((e68 k x0 y1 w).symm ▸ h)

/-- Function 69: slices.EqualFunc[[]almonry/api.Image,[]almonry/api.Image,almonry/api.Image,almonry/api.Image]. -/
def T69 (k : KV) (s10 : Value) (s21 : Value) (eq2 : Value) (w : World) : Prop :=
  Pu (lenV s10) fun t11_1 =>
  Pu (lenV s21) fun t13_2 =>
  Pu (binV (TypeDesc.int IntKind.i64) .neq t11_1 t13_2) fun t14_3 =>
  IfB t14_3
    (k (Value.bool false) w)
    (Pu (lenV s10) fun t16_4 =>
  ∃ (I_5 : List Value → World → Prop) (m_6 : List Value → World → Nat), I_5 [(Value.int IntKind.i64 0)] w ∧
  ∀ (g_28 : Fr) (w_27 : World), ∀ t17_12 : Value, I_5 [t17_12] w_27 →
    (Pu (binV (TypeDesc.int IntKind.i64) .lss t17_12 t16_4) fun t18_29 =>
    IfB t18_29
      (Pu (ixV 7 s10 t17_12) fun t20_30 =>
    LdN 7 w_27 t20_30 fun t21_31 w_32 =>
    New #[(Value.int IntKind.i64 0), (Value.int IntKind.i64 0), (Value.int IntKind.i64 0), (Value.int IntKind.i64 0), (Value.int IntKind.i64 0), (Value.string (ByteArray.mk #[])), (Value.slice none 0 0)] 90 w_32 fun v18_33 w_34 =>
    St 7 w_34 v18_33 t21_31 fun u_35 w_36 =>
    Pu (ixV 7 s21 t17_12) fun t24_37 =>
    LdN 7 w_36 t24_37 fun t25_38 w_39 =>
    New #[(Value.int IntKind.i64 0), (Value.int IntKind.i64 0), (Value.int IntKind.i64 0), (Value.int IntKind.i64 0), (Value.int IntKind.i64 0), (Value.string (ByteArray.mk #[])), (Value.slice none 0 0)] 90 w_39 fun v29_40 w_41 =>
    St 7 w_41 v29_40 t25_38 fun u_42 w_43 =>
    LdN 7 w_43 v18_33 fun t27_44 w_45 =>
    LdN 7 w_45 v29_40 fun t28_46 w_47 =>
    ClV Tryd.prog eq2 [t27_44, t28_46] w_47 fun t29_48 w_49 =>
    Pu (unV .not t29_48) fun t30_50 =>
    IfB t30_50
      (k (Value.bool false) w_49)
      (Pu (binV (TypeDesc.int IntKind.i64) .add t17_12 (Value.int IntKind.i64 1)) fun t31_51 =>
    I_5 [t31_51] w_49 ∧ m_6 [t31_51] w_49 < m_6 [t17_12] w_27))
      (k (Value.bool true) w_27)))
theorem e69 (k : KV) (s10 : Value) (s21 : Value) (eq2 : Value) (w : World) : K KD Tryd.prog 32 (fun j => bif Nat.beq j 4 then [17] else []) (fun j =>  none) (Tryd.f69.body.getD .skip) (retQ Tryd.prog Tryd.f69 k) (argF [s10, s21, eq2]) w = T69 k s10 s21 eq2 w := by kernel_rfl
theorem c69 {k : KV} {s10 : Value} {s21 : Value} {eq2 : Value} {w : World} (h : T69 k s10 s21 eq2 w) : Cl Tryd.prog 69 [s10, s21, eq2] w k :=
  Cl_of_K KD_sound mixed Tryd.func69 (by kernel_rfl) (by kernel_rfl) ((e69 k s10 s21 eq2 w).symm ▸ h)

/-- Function 70: slices.Equal[[]almonry/api.Owed,almonry/api.Owed]. -/
def T70 (k : KV) (s10 : Value) (s21 : Value) (w : World) : Prop :=
  Pu (lenV s10) fun t7_1 =>
  Pu (lenV s21) fun t9_2 =>
  Pu (binV (TypeDesc.int IntKind.i64) .neq t7_1 t9_2) fun t10_3 =>
  IfB t10_3
    (k (Value.bool false) w)
    (Pu (lenV s10) fun t12_4 =>
  ∃ (I_5 : List Value → World → Prop) (m_6 : List Value → World → Nat), I_5 [(Value.int IntKind.i64 0)] w ∧
  ∀ (g_24 : Fr) (w_23 : World), ∀ t13_10 : Value, I_5 [t13_10] w_23 →
    (Pu (binV (TypeDesc.int IntKind.i64) .lss t13_10 t12_4) fun t14_25 =>
    IfB t14_25
      (Pu (ixV 2 s10 t13_10) fun t18_26 =>
    LdN 2 (World.drew w_23) t18_26 fun t19_27 w_28 =>
    w_28 = (World.drew w_23) ∧
    Pu (ixV 2 s21 t13_10) fun t22_29 =>
    LdN 2 (World.drew w_23) t22_29 fun t23_30 w_31 =>
    w_31 = (World.drew w_23) ∧
    RunS Tryd.prog (do eqGuard .neq 96 (Operand.tmp 19) (Operand.tmp 23) t19_27 t23_30; binOp .neq 96 t19_27 t23_30) (World.drew w_23) fun t24_32 w_33 =>
    w_33 = (World.drew w_23) ∧
    IfB t24_32
      (k (Value.bool false) (World.drew w_23))
      (Pu (binV (TypeDesc.int IntKind.i64) .add t13_10 (Value.int IntKind.i64 1)) fun t25_34 =>
    I_5 [t25_34] (World.drew w_23) ∧ m_6 [t25_34] (World.drew w_23) < m_6 [t13_10] w_23))
      (k (Value.bool true) w_23)))
theorem e70 (k : KV) (s10 : Value) (s21 : Value) (w : World) : K KD Tryd.prog 26 (fun j => bif Nat.beq j 4 then [13] else []) (fun j =>  none) (Tryd.f70.body.getD .skip) (retQ Tryd.prog Tryd.f70 k) (argF [s10, s21]) w = T70 k s10 s21 w := by kernel_rfl
theorem c70 {k : KV} {s10 : Value} {s21 : Value} {w : World} (h : T70 k s10 s21 w) : Cl Tryd.prog 70 [s10, s21] w k :=
  Cl_of_K KD_sound mixed Tryd.func70 (by kernel_rfl) (by kernel_rfl) ((e70 k s10 s21 w).symm ▸ h)

/-- Function 71: slices.Equal[[]almonry/api.Begun,almonry/api.Begun]. -/
def T71 (k : KV) (s10 : Value) (s21 : Value) (w : World) : Prop :=
  Pu (lenV s10) fun t7_1 =>
  Pu (lenV s21) fun t9_2 =>
  Pu (binV (TypeDesc.int IntKind.i64) .neq t7_1 t9_2) fun t10_3 =>
  IfB t10_3
    (k (Value.bool false) w)
    (Pu (lenV s10) fun t12_4 =>
  ∃ (I_5 : List Value → World → Prop) (m_6 : List Value → World → Nat), I_5 [(Value.int IntKind.i64 0)] w ∧
  ∀ (g_24 : Fr) (w_23 : World), ∀ t13_10 : Value, I_5 [t13_10] w_23 →
    (Pu (binV (TypeDesc.int IntKind.i64) .lss t13_10 t12_4) fun t14_25 =>
    IfB t14_25
      (Pu (ixV 2 s10 t13_10) fun t18_26 =>
    LdN 2 (World.drew w_23) t18_26 fun t19_27 w_28 =>
    w_28 = (World.drew w_23) ∧
    Pu (ixV 2 s21 t13_10) fun t22_29 =>
    LdN 2 (World.drew w_23) t22_29 fun t23_30 w_31 =>
    w_31 = (World.drew w_23) ∧
    RunS Tryd.prog (do eqGuard .neq 99 (Operand.tmp 19) (Operand.tmp 23) t19_27 t23_30; binOp .neq 99 t19_27 t23_30) (World.drew w_23) fun t24_32 w_33 =>
    w_33 = (World.drew w_23) ∧
    IfB t24_32
      (k (Value.bool false) (World.drew w_23))
      (Pu (binV (TypeDesc.int IntKind.i64) .add t13_10 (Value.int IntKind.i64 1)) fun t25_34 =>
    I_5 [t25_34] (World.drew w_23) ∧ m_6 [t25_34] (World.drew w_23) < m_6 [t13_10] w_23))
      (k (Value.bool true) w_23)))
theorem e71 (k : KV) (s10 : Value) (s21 : Value) (w : World) : K KD Tryd.prog 26 (fun j => bif Nat.beq j 4 then [13] else []) (fun j =>  none) (Tryd.f71.body.getD .skip) (retQ Tryd.prog Tryd.f71 k) (argF [s10, s21]) w = T71 k s10 s21 w := by kernel_rfl
theorem c71 {k : KV} {s10 : Value} {s21 : Value} {w : World} (h : T71 k s10 s21 w) : Cl Tryd.prog 71 [s10, s21] w k :=
  Cl_of_K KD_sound mixed Tryd.func71 (by kernel_rfl) (by kernel_rfl) ((e71 k s10 s21 w).symm ▸ h)

/-- Function 72: almonry/almonryref04.ints. -/
def T72 (k : KV) (a0 : Value) (b1 : Value) (w : World) : Prop :=
  Pu (lenV a0) fun t7_1 =>
  Pu (lenV b1) fun t9_2 =>
  Pu (binV (TypeDesc.int IntKind.i64) .neq t7_1 t9_2) fun t10_3 =>
  IfB t10_3
    (k (Value.bool false) w)
    (∃ (I_4 : List Value → World → Prop) (m_5 : List Value → World → Nat), I_4 [(Value.int IntKind.i64 0)] w ∧
  ∀ (g_25 : Fr) (w_24 : World), ∀ i5_8 : Value, I_4 [i5_8] w_24 →
    (Pu (lenV a0) fun t13_26 =>
    Pu (binV (TypeDesc.int IntKind.i64) .lss i5_8 t13_26) fun t14_27 =>
    IfB t14_27
      (Pu (ixV 1 a0 i5_8) fun t19_28 =>
    Ld (World.drew w_24) t19_28 fun t20_29 w_30 =>
    w_30 = (World.drew w_24) ∧
    Pu (ixV 1 b1 i5_8) fun t23_31 =>
    Ld (World.drew w_24) t23_31 fun t24_32 w_33 =>
    w_33 = (World.drew w_24) ∧
    Pu (binV (TypeDesc.int IntKind.i64) .neq t20_29 t24_32) fun t25_34 =>
    IfB t25_34
      (k (Value.bool false) (World.drew w_24))
      (Pu (binV (TypeDesc.int IntKind.i64) .add i5_8 (Value.int IntKind.i64 1)) fun t16_35 =>
    I_4 [t16_35] (World.drew w_24) ∧ m_5 [t16_35] (World.drew w_24) < m_5 [i5_8] w_24))
      (k (Value.bool true) w_24)))
theorem e72 (k : KV) (a0 : Value) (b1 : Value) (w : World) : K KD Tryd.prog 26 (fun j => bif Nat.beq j 4 then [5] else []) (fun j =>  none) (Tryd.f72.body.getD .skip) (retQ Tryd.prog Tryd.f72 k) (argF [a0, b1]) w = T72 k a0 b1 w := by kernel_rfl
theorem c72 {k : KV} {a0 : Value} {b1 : Value} {w : World} (h : T72 k a0 b1 w) : Cl Tryd.prog 72 [a0, b1] w k :=
  Cl_of_K KD_sound mixed Tryd.func72 (by kernel_rfl) (by kernel_rfl) ((e72 k a0 b1 w).symm ▸ h)

/-- Function 73: almonry/almonrylaw04.small. -/
def T73 (k : KV) (w : World) : Prop :=
  New #[(Value.int IntKind.i64 0), (Value.int IntKind.i64 0), (Value.int IntKind.i64 0), (Value.int IntKind.u8 0), (Value.int IntKind.i64 0), (Value.int IntKind.i64 0), (Value.int IntKind.i64 0), (Value.int IntKind.i64 0), (Value.int IntKind.i64 0), (Value.int IntKind.i64 0), (Value.string (ByteArray.mk #[])), (Value.slice none 0 0), (Value.slice none 0 0), (Value.slice none 0 0), (Value.slice none 0 0), (Value.slice none 0 0)] 52 w fun t0_1 w_2 =>
  RunS Tryd.prog (Instr.build 52 #[(0, (Value.int IntKind.i64 1)), (3, (Value.int IntKind.u8 8)), (5, (Value.int IntKind.i64 1))]) w_2 fun t1_3 w_4 =>
  St 16 w_4 t0_1 t1_3 fun u_5 w_6 =>
  RetO (resL Tryd.prog (fun j => bif Nat.beq j 0 then t0_1 else undef) w_6 [(ResultVar.cell 0 52)]) w_6 k
theorem e73 (k : KV) (w : World) : K KD Tryd.prog 2 (fun j =>  []) (fun j =>  none) (Tryd.f73.body.getD .skip) (retQ Tryd.prog Tryd.f73 k) (argF []) w = T73 k  w := by kernel_rfl
theorem c73 {k : KV} {w : World} (h : T73 k  w) : Cl Tryd.prog 73 [] w k :=
  Cl_of_K KD_sound mixed Tryd.func73 (by kernel_rfl) (by kernel_rfl) ((e73 k  w).symm ▸ h)

/-- Function 74: almonry/rec.outer. -/
def T74 (k : KV) (s0 : Value) (w : World) : Prop :=
  New #[(Value.int IntKind.i64 0), (Value.int IntKind.i64 0), (Value.int IntKind.i64 0), (Value.int IntKind.u8 0), (Value.int IntKind.i64 0), (Value.int IntKind.i64 0), (Value.int IntKind.i64 0), (Value.int IntKind.i64 0), (Value.int IntKind.i64 0), (Value.int IntKind.i64 0), (Value.string (ByteArray.mk #[])), (Value.slice none 0 0), (Value.slice none 0 0), (Value.slice none 0 0), (Value.slice none 0 0), (Value.slice none 0 0)] 52 w fun t2_1 w_2 =>
  Cl Tryd.prog 98 [s0] w_2 fun t12_3 w_4 =>
  New #[(Value.pointer none)] 126 w_4 fun r4_5 w_6 =>
  St 1 w_6 r4_5 t12_3 fun u_7 w_8 =>
  New #[(Value.int IntKind.i64 0), (Value.int IntKind.i64 0), (Value.int IntKind.i64 0), (Value.int IntKind.u8 0), (Value.int IntKind.i64 0), (Value.int IntKind.i64 0), (Value.int IntKind.i64 0), (Value.int IntKind.i64 0), (Value.int IntKind.i64 0), (Value.int IntKind.i64 0), (Value.string (ByteArray.mk #[])), (Value.slice none 0 0), (Value.slice none 0 0), (Value.slice none 0 0), (Value.slice none 0 0), (Value.slice none 0 0)] 52 w_8 fun x5_9 w_10 =>
  ClV Tryd.prog (.func (Fn.func 99) #[] #[r4_5]) [] w_10 fun t15_11 w_12 =>
  ClV Tryd.prog (.func (Fn.func 99) #[] #[r4_5]) [] w_12 fun t17_13 w_14 =>
  ClV Tryd.prog (.func (Fn.func 99) #[] #[r4_5]) [] w_14 fun t19_15 w_16 =>
  Pu (faV 0 x5_9) fun t20_17 =>
  St 1 w_16 t20_17 t15_11 fun u_18 w_19 =>
  Pu (faV 1 x5_9) fun t21_20 =>
  St 1 w_19 t21_20 t17_13 fun u_21 w_22 =>
  Pu (faV 2 x5_9) fun t22_23 =>
  St 1 w_22 t22_23 t19_15 fun u_24 w_25 =>
  Ld w_25 r4_5 fun t23_26 w_27 =>
  Cl Tryd.prog 100 [t23_26, (Value.int IntKind.i64 13)] w_27 fun t24_28 w_29 =>
  Pu (cvI IntKind.u8 t24_28) fun t25_30 =>
  Pu (faV 3 x5_9) fun t26_31 =>
  St 1 w_29 t26_31 t25_30 fun u_32 w_33 =>
  ClV Tryd.prog (.func (Fn.func 99) #[] #[r4_5]) [] w_33 fun t28_34 w_35 =>
  ClV Tryd.prog (.func (Fn.func 99) #[] #[r4_5]) [] w_35 fun t30_36 w_37 =>
  ClV Tryd.prog (.func (Fn.func 99) #[] #[r4_5]) [] w_37 fun t32_38 w_39 =>
  ClV Tryd.prog (.func (Fn.func 99) #[] #[r4_5]) [] w_39 fun t34_40 w_41 =>
  ClV Tryd.prog (.func (Fn.func 99) #[] #[r4_5]) [] w_41 fun t36_42 w_43 =>
  ClV Tryd.prog (.func (Fn.func 99) #[] #[r4_5]) [] w_43 fun t38_44 w_45 =>
  Pu (faV 4 x5_9) fun t39_46 =>
  St 1 w_45 t39_46 t28_34 fun u_47 w_48 =>
  Pu (faV 5 x5_9) fun t40_49 =>
  St 1 w_48 t40_49 t30_36 fun u_50 w_51 =>
  Pu (faV 6 x5_9) fun t41_52 =>
  St 1 w_51 t41_52 t32_38 fun u_53 w_54 =>
  Pu (faV 7 x5_9) fun t42_55 =>
  St 1 w_54 t42_55 t34_40 fun u_56 w_57 =>
  Pu (faV 8 x5_9) fun t43_58 =>
  St 1 w_57 t43_58 t36_42 fun u_59 w_60 =>
  Pu (faV 9 x5_9) fun t44_61 =>
  St 1 w_60 t44_61 t38_44 fun u_62 w_63 =>
  Ld w_63 r4_5 fun t45_64 w_65 =>
  Cl Tryd.prog 101 [t45_64, (Value.int IntKind.i64 512)] w_65 fun t46_66 w_67 =>
  Pu (faV 10 x5_9) fun t47_68 =>
  St 1 w_67 t47_68 t46_66 fun u_69 w_70 =>
  ∃ C_71 : World → Prop, C_71 (World.drew w_70) ∧
  (Ld (World.drew w_70) r4_5 fun t48_72 w_73 =>
  w_73 = (World.drew w_70) ∧
  ∃ t50_74, (∀ w_75, C_71 w_75 → Ld w_75 r4_5 fun t50_76 w_77 =>
  t50_76 = t50_74 ∧ w_77 = w_75) ∧
  (Cl Tryd.prog 102 [t48_72, (Value.int IntKind.i64 255)] (World.drew w_70) fun t49_78 w_79 =>
  C_71 w_79 ∧
  (Pu (faV 11 x5_9) fun t52_80 =>
  Cl Tryd.prog 102 [t50_74, (Value.int IntKind.i64 255)] w_79 fun t51_81 w_82 =>
  St 1 w_82 t52_80 t49_78 fun u_83 w_84 =>
  Pu (faV 12 x5_9) fun t53_85 =>
  St 1 w_84 t53_85 t51_81 fun u_86 w_87 =>
  Ld w_87 r4_5 fun t54_88 w_89 =>
  Cl Tryd.prog 100 [t54_88, (Value.int IntKind.i64 4)] w_89 fun t55_90 w_91 =>
  ∃ (I_92 : List Value → World → Prop) (m_93 : List Value → World → Nat), I_92 [(Value.int IntKind.i64 0)] w_91 ∧
  ∀ (g_134 : Fr) (w_133 : World), ∀ t56_100 : Value, I_92 [t56_100] w_133 →
    (Pu (binV (TypeDesc.int IntKind.i64) .lss t56_100 t55_90) fun t57_135 =>
    IfB t57_135
      (∃ C_136 : World → Prop, C_136 (World.drew w_133) ∧
    (∃ t60_137, (∀ w_138, C_136 w_138 → Ld w_138 r4_5 fun t60_139 w_140 =>
    t60_139 = t60_137 ∧ w_140 = w_138) ∧
    (ClV Tryd.prog (.func (Fn.func 99) #[] #[r4_5]) [] (World.drew w_133) fun t59_141 w_142 =>
    C_136 w_142 ∧
    (Cl Tryd.prog 101 [t60_137, (Value.int IntKind.i64 512)] w_142 fun t61_143 w_144 =>
    Pu (lenS t61_143) fun t65_145 =>
    Pu (binV (TypeDesc.int IntKind.i64) .sub (Value.int IntKind.i64 512) t65_145) fun t66_146 =>
    Cl Tryd.prog 48 [(Value.string (ByteArray.mk #[0])), t66_146] w_144 fun t67_147 w_148 =>
    Pu (binV TypeDesc.string .add t61_143 t67_147) fun t68_149 =>
    Cl Tryd.prog 27 [t68_149] w_148 fun t69_150 w_151 =>
    Pu (extV t69_150 0) fun t70_152 =>
    Pu (extV t69_150 1) fun t71_153 =>
    New #[(Value.int IntKind.i64 0), (Value.int IntKind.i64 0), (Value.int IntKind.i64 0), (Value.int IntKind.i64 0), (Value.string (ByteArray.mk #[])), (Value.slice none 0 0)] 24 w_151 fun p9_154 w_155 =>
    St 6 w_155 p9_154 t70_152 fun u_156 w_157 =>
    Pu (binV (TypeDesc.int IntKind.i64) .neq t71_153 (Value.int IntKind.i64 0)) fun t73_158 =>
    Gd (isB false t73_158) (fun kk => Ld w_157 r4_5 kk) w_157 fun t75_159 w_160 =>
    Gd (isB false t73_158) (fun kk => Cl Tryd.prog 103 [t75_159] w_160 kk) w_160 fun t76_161 w_162 =>
    Gd (isB false t73_158) (fun kk => Pu (binV (TypeDesc.int IntKind.i64) .neq t76_161 (Value.int IntKind.i64 0)) fun vv => kk vv w_162) w_162 fun t77_163 w_164 =>
    Pu (pickV t73_158 (Value.bool true) t77_163) fun t78_165 =>
    IfB t78_165
      (LdN 16 w_164 x5_9 fun t79_166 w_167 =>
        St 16 w_167 t2_1 t79_166 fun u_168 w_169 =>
        RetO (resL Tryd.prog (fun j => bif Nat.beq j 2 then t2_1 else bif Nat.beq j 3 then (Value.bool false) else undef) w_169 [(ResultVar.cell 2 52), (ResultVar.tmp 3)]) w_169 k)
      (Pu (faV 13 x5_9) fun t80_170 =>
    Ld w_164 t80_170 fun t81_171 w_172 =>
    LdN 6 w_172 p9_154 fun t83_173 w_174 =>
    RunS Tryd.prog (Instr.build 90 #[(0, t59_141), (1, t83_173)]) w_174 fun t84_175 w_176 =>
    RunS Tryd.prog (Instr.buildSlice 48 1 #[(0, t84_175)]) w_176 fun t85_177 w_178 =>
    RunS Tryd.prog (Builtin.append_ #[48, 48] 48 #[t81_171, t85_177]) w_178 fun t86_179 w_180 =>
    Pu (faV 13 x5_9) fun t87_181 =>
    St 1 w_180 t87_181 t86_179 fun u_182 w_183 =>
    Pu (binV (TypeDesc.int IntKind.i64) .add t56_100 (Value.int IntKind.i64 1)) fun t88_184 =>
    I_92 [t88_184] w_183 ∧ m_93 [t88_184] w_183 < m_93 [t56_100] w_133)))))
      (Ld w_133 r4_5 fun t89_185 w_186 =>
  Cl Tryd.prog 100 [t89_185, (Value.int IntKind.i64 8192)] w_186 fun t90_187 w_188 =>
  ∃ (I_189 : List Value → World → Prop) (m_190 : List Value → World → Nat), I_189 [(Value.int IntKind.i64 0)] w_188 ∧
  ∀ (g_211 : Fr) (w_210 : World), ∀ t91_193 : Value, I_189 [t91_193] w_210 →
    (Pu (binV (TypeDesc.int IntKind.i64) .lss t91_193 t90_187) fun t92_212 =>
    IfB t92_212
      (Ld w_210 r4_5 fun t93_213 w_214 =>
    Cl Tryd.prog 103 [t93_213] w_214 fun t94_215 w_216 =>
    Pu (binV (TypeDesc.int IntKind.i64) .neq t94_215 (Value.int IntKind.i64 0)) fun t95_217 =>
    IfB t95_217
      (LdN 16 w_216 x5_9 fun t96_218 w_219 =>
        St 16 w_219 t2_1 t96_218 fun u_220 w_221 =>
        RetO (resL Tryd.prog (fun j => bif Nat.beq j 2 then t2_1 else bif Nat.beq j 3 then (Value.bool false) else undef) w_221 [(ResultVar.cell 2 52), (ResultVar.tmp 3)]) w_221 k)
      (∃ C_222 : World → Prop, C_222 (World.drew w_216) ∧
    (Pu (faV 14 x5_9) fun t97_223 =>
    ∃ t98_224, (∀ w_225, C_222 w_225 → Ld w_225 t97_223 fun t98_226 w_227 =>
    t98_226 = t98_224 ∧ w_227 = w_225) ∧
    (ClV Tryd.prog (.func (Fn.func 99) #[] #[r4_5]) [] (World.drew w_216) fun t100_228 w_229 =>
    C_222 w_229 ∧
    (ClV Tryd.prog (.func (Fn.func 99) #[] #[r4_5]) [] w_229 fun t102_230 w_231 =>
    C_222 w_231 ∧
    (RunS Tryd.prog (Instr.build 96 #[(0, t100_228), (1, t102_230)]) w_231 fun t103_232 w_233 =>
    w_233 = w_231 ∧
    RunS Tryd.prog (Instr.buildSlice 49 1 #[(0, t103_232)]) w_231 fun t104_234 w_235 =>
    C_222 w_235 ∧
    (RunS Tryd.prog (Builtin.append_ #[49, 49] 49 #[t98_224, t104_234]) w_235 fun t105_236 w_237 =>
    Pu (faV 14 x5_9) fun t106_238 =>
    St 1 w_237 t106_238 t105_236 fun u_239 w_240 =>
    Pu (binV (TypeDesc.int IntKind.i64) .add t91_193 (Value.int IntKind.i64 1)) fun t107_241 =>
    I_189 [t107_241] w_240 ∧ m_190 [t107_241] w_240 < m_190 [t91_193] w_210)))))))
      (Ld w_210 r4_5 fun t108_242 w_243 =>
  Cl Tryd.prog 100 [t108_242, (Value.int IntKind.i64 1024)] w_243 fun t109_244 w_245 =>
  ∃ (I_246 : List Value → World → Prop) (m_247 : List Value → World → Nat), I_246 [(Value.int IntKind.i64 0)] w_245 ∧
  ∀ (g_268 : Fr) (w_267 : World), ∀ t110_250 : Value, I_246 [t110_250] w_267 →
    (Pu (binV (TypeDesc.int IntKind.i64) .lss t110_250 t109_244) fun t111_269 =>
    IfB t111_269
      (Ld w_267 r4_5 fun t112_270 w_271 =>
    Cl Tryd.prog 103 [t112_270] w_271 fun t113_272 w_273 =>
    Pu (binV (TypeDesc.int IntKind.i64) .neq t113_272 (Value.int IntKind.i64 0)) fun t114_274 =>
    IfB t114_274
      (LdN 16 w_273 x5_9 fun t115_275 w_276 =>
        St 16 w_276 t2_1 t115_275 fun u_277 w_278 =>
        RetO (resL Tryd.prog (fun j => bif Nat.beq j 2 then t2_1 else bif Nat.beq j 3 then (Value.bool false) else undef) w_278 [(ResultVar.cell 2 52), (ResultVar.tmp 3)]) w_278 k)
      (∃ C_279 : World → Prop, C_279 (World.drew w_273) ∧
    (Pu (faV 15 x5_9) fun t116_280 =>
    ∃ t117_281, (∀ w_282, C_279 w_282 → Ld w_282 t116_280 fun t117_283 w_284 =>
    t117_283 = t117_281 ∧ w_284 = w_282) ∧
    (ClV Tryd.prog (.func (Fn.func 99) #[] #[r4_5]) [] (World.drew w_273) fun t119_285 w_286 =>
    C_279 w_286 ∧
    (ClV Tryd.prog (.func (Fn.func 99) #[] #[r4_5]) [] w_286 fun t121_287 w_288 =>
    C_279 w_288 ∧
    (RunS Tryd.prog (Instr.build 99 #[(0, t119_285), (1, t121_287)]) w_288 fun t122_289 w_290 =>
    w_290 = w_288 ∧
    RunS Tryd.prog (Instr.buildSlice 50 1 #[(0, t122_289)]) w_288 fun t123_291 w_292 =>
    C_279 w_292 ∧
    (RunS Tryd.prog (Builtin.append_ #[50, 50] 50 #[t117_281, t123_291]) w_292 fun t124_293 w_294 =>
    Pu (faV 15 x5_9) fun t125_295 =>
    St 1 w_294 t125_295 t124_293 fun u_296 w_297 =>
    Pu (binV (TypeDesc.int IntKind.i64) .add t110_250 (Value.int IntKind.i64 1)) fun t126_298 =>
    I_246 [t126_298] w_297 ∧ m_247 [t126_298] w_297 < m_247 [t110_250] w_267)))))))
      (∃ C_299 : World → Prop, C_299 (World.drew w_267) ∧
  (∃ t127_300, (∀ w_301, C_299 w_301 → LdN 16 w_301 x5_9 fun t127_302 w_303 =>
  t127_302 = t127_300 ∧ w_303 = w_301) ∧
  (Ld (World.drew w_267) r4_5 fun t128_304 w_305 =>
  w_305 = (World.drew w_267) ∧
  Cl Tryd.prog 104 [t128_304] (World.drew w_267) fun t129_306 w_307 =>
  C_299 w_307 ∧
  (Pu (binV (TypeDesc.int IntKind.i64) .eql t129_306 (Value.int IntKind.i64 0)) fun t130_308 =>
  St 16 w_307 t2_1 t127_300 fun u_309 w_310 =>
  RetO (resL Tryd.prog (fun j => bif Nat.beq j 2 then t2_1 else bif Nat.beq j 3 then t130_308 else undef) w_310 [(ResultVar.cell 2 52), (ResultVar.tmp 3)]) w_310 k))))))))))))
theorem e74 (k : KV) (s0 : Value) (w : World) : K KD Tryd.prog 131 (fun j => bif Nat.beq j 24 then [110] else bif Nat.beq j 18 then [91] else bif Nat.beq j 10 then [56] else []) (fun j =>  none) (Tryd.f74.body.getD .skip) (retQ Tryd.prog Tryd.f74 k) (argF [s0]) w = T74 k s0 w := by kernel_rfl
theorem c74 {k : KV} {s0 : Value} {w : World} (h : T74 k s0 w) : Cl Tryd.prog 74 [s0] w k :=
  Cl_of_K KD_sound mixed Tryd.func74 (by kernel_rfl) (by kernel_rfl) ((e74 k s0 w).symm ▸ h)

/-- Function 89: slices.ContainsFunc[[]int,int]. -/
def T89 (k : KV) (s0 : Value) (f1 : Value) (w : World) : Prop :=
  Cl Tryd.prog 115 [s0, f1] w fun t7_1 w_2 =>
  Pu (binV (TypeDesc.int IntKind.i64) .geq t7_1 (Value.int IntKind.i64 0)) fun t8_3 =>
  k t8_3 w_2
theorem e89 (k : KV) (s0 : Value) (f1 : Value) (w : World) : K KD Tryd.prog 9 (fun j =>  []) (fun j =>  none) (Tryd.f89.body.getD .skip) (retQ Tryd.prog Tryd.f89 k) (argF [s0, f1]) w = T89 k s0 f1 w := by kernel_rfl
theorem c89 {k : KV} {s0 : Value} {f1 : Value} {w : World} (h : T89 k s0 f1 w) : Cl Tryd.prog 89 [s0, f1] w k :=
  Cl_of_K KD_sound mixed Tryd.func89 (by kernel_rfl) (by kernel_rfl) ((e89 k s0 f1 w).symm ▸ h)

/-- Function 90: almonry/rec.numbers. -/
def T90 (k : KV) (r0 : Value) (w : World) : Prop :=
  New (Value.cells r0) 52 w fun r1_1 w_2 =>
  Pu (faV 0 r1_1) fun t10_3 =>
  Ld w_2 t10_3 fun t11_4 w_5 =>
  Pu (faV 1 r1_1) fun t12_6 =>
  Ld w_5 t12_6 fun t13_7 w_8 =>
  Pu (faV 2 r1_1) fun t14_9 =>
  Ld w_8 t14_9 fun t15_10 w_11 =>
  Pu (faV 9 r1_1) fun t16_12 =>
  Ld w_11 t16_12 fun t17_13 w_14 =>
  Pu (faV 4 r1_1) fun t18_15 =>
  Ld w_14 t18_15 fun t19_16 w_17 =>
  Pu (faV 5 r1_1) fun t20_18 =>
  Ld w_17 t20_18 fun t21_19 w_20 =>
  Pu (faV 6 r1_1) fun t22_21 =>
  Ld w_20 t22_21 fun t23_22 w_23 =>
  Pu (faV 7 r1_1) fun t24_24 =>
  Ld w_23 t24_24 fun t25_25 w_26 =>
  Pu (faV 8 r1_1) fun t26_27 =>
  Ld w_26 t26_27 fun t27_28 w_29 =>
  RunS Tryd.prog (Instr.buildSlice 47 9 #[(0, t11_4), (1, t13_7), (2, t15_10), (3, t17_13), (4, t19_16), (5, t21_19), (6, t23_22), (7, t25_25), (8, t27_28)]) w_29 fun t28_30 w_31 =>
  ∃ C_32 : World → Prop, C_32 (World.drew w_31) ∧
  (Pu (faV 11 r1_1) fun t30_33 =>
  Ld (World.drew w_31) t30_33 fun t31_34 w_35 =>
  w_35 = (World.drew w_31) ∧
  Pu (faV 12 r1_1) fun t33_36 =>
  ∃ t34_37, (∀ w_38, C_32 w_38 → Ld w_38 t33_36 fun t34_39 w_40 =>
  t34_39 = t34_37 ∧ w_40 = w_38) ∧
  (RunS Tryd.prog (Builtin.append_ #[47, 47] 47 #[t28_30, t31_34]) (World.drew w_31) fun t32_41 w_42 =>
  C_32 w_42 ∧
  (RunS Tryd.prog (Builtin.append_ #[47, 47] 47 #[t32_41, t34_37]) w_42 fun t35_43 w_44 =>
  Pu (faV 13 r1_1) fun t36_45 =>
  Ld w_44 t36_45 fun t37_46 w_47 =>
  Pu (lenV t37_46) fun t38_48 =>
  ∃ (I_49 : List Value → World → Prop) (m_50 : List Value → World → Nat), I_49 [t35_43, (Value.int IntKind.i64 0)] w_47 ∧
  ∀ (g_65 : Fr) (w_64 : World), ∀ l3_52 : Value, ∀ t39_54 : Value, I_49 [l3_52, t39_54] w_64 →
    (Pu (binV (TypeDesc.int IntKind.i64) .lss t39_54 t38_48) fun t40_66 =>
    IfB t40_66
      (Pu (ixV 7 t37_46 t39_54) fun t41_67 =>
    LdN 7 w_64 t41_67 fun t42_68 w_69 =>
    New #[(Value.int IntKind.i64 0), (Value.int IntKind.i64 0), (Value.int IntKind.i64 0), (Value.int IntKind.i64 0), (Value.int IntKind.i64 0), (Value.string (ByteArray.mk #[])), (Value.slice none 0 0)] 90 w_69 fun m5_70 w_71 =>
    St 7 w_71 m5_70 t42_68 fun u_72 w_73 =>
    Pu (faV 0 m5_70) fun t44_74 =>
    Ld w_73 t44_74 fun t45_75 w_76 =>
    RunS Tryd.prog (Instr.buildSlice 47 1 #[(0, t45_75)]) w_76 fun t46_77 w_78 =>
    RunS Tryd.prog (Builtin.append_ #[47, 47] 47 #[l3_52, t46_77]) w_78 fun t47_79 w_80 =>
    Pu (binV (TypeDesc.int IntKind.i64) .add t39_54 (Value.int IntKind.i64 1)) fun t48_81 =>
    I_49 [t47_79, t48_81] w_80 ∧ m_50 [t47_79, t48_81] w_80 < m_50 [l3_52, t39_54] w_64)
      (Pu (faV 14 r1_1) fun t49_82 =>
  Ld w_64 t49_82 fun t50_83 w_84 =>
  Pu (lenV t50_83) fun t51_85 =>
  ∃ (I_86 : List Value → World → Prop) (m_87 : List Value → World → Nat), I_86 [l3_52, (Value.int IntKind.i64 0)] w_84 ∧
  ∀ (g_104 : Fr) (w_103 : World), ∀ l3_89 : Value, ∀ t52_91 : Value, I_86 [l3_89, t52_91] w_103 →
    (Pu (binV (TypeDesc.int IntKind.i64) .lss t52_91 t51_85) fun t53_105 =>
    IfB t53_105
      (Pu (ixV 2 t50_83 t52_91) fun t54_106 =>
    LdN 2 w_103 t54_106 fun t55_107 w_108 =>
    New #[(Value.int IntKind.i64 0), (Value.int IntKind.i64 0)] 96 w_108 fun p7_109 w_110 =>
    St 2 w_110 p7_109 t55_107 fun u_111 w_112 =>
    Pu (faV 0 p7_109) fun t57_113 =>
    Ld w_112 t57_113 fun t58_114 w_115 =>
    Pu (faV 1 p7_109) fun t59_116 =>
    Ld w_115 t59_116 fun t60_117 w_118 =>
    RunS Tryd.prog (Instr.buildSlice 47 2 #[(0, t58_114), (1, t60_117)]) w_118 fun t61_119 w_120 =>
    RunS Tryd.prog (Builtin.append_ #[47, 47] 47 #[l3_89, t61_119]) w_120 fun t62_121 w_122 =>
    Pu (binV (TypeDesc.int IntKind.i64) .add t52_91 (Value.int IntKind.i64 1)) fun t63_123 =>
    I_86 [t62_121, t63_123] w_122 ∧ m_87 [t62_121, t63_123] w_122 < m_87 [l3_89, t52_91] w_103)
      (Pu (faV 15 r1_1) fun t64_124 =>
  Ld w_103 t64_124 fun t65_125 w_126 =>
  Pu (lenV t65_125) fun t66_127 =>
  ∃ (I_128 : List Value → World → Prop) (m_129 : List Value → World → Nat), I_128 [l3_89, (Value.int IntKind.i64 0)] w_126 ∧
  ∀ (g_146 : Fr) (w_145 : World), ∀ l3_131 : Value, ∀ t67_133 : Value, I_128 [l3_131, t67_133] w_145 →
    (Pu (binV (TypeDesc.int IntKind.i64) .lss t67_133 t66_127) fun t68_147 =>
    IfB t68_147
      (Pu (ixV 2 t65_125 t67_133) fun t69_148 =>
    LdN 2 w_145 t69_148 fun t70_149 w_150 =>
    New #[(Value.int IntKind.i64 0), (Value.int IntKind.i64 0)] 99 w_150 fun t9_151 w_152 =>
    St 2 w_152 t9_151 t70_149 fun u_153 w_154 =>
    Pu (faV 0 t9_151) fun t72_155 =>
    Ld w_154 t72_155 fun t73_156 w_157 =>
    Pu (faV 1 t9_151) fun t74_158 =>
    Ld w_157 t74_158 fun t75_159 w_160 =>
    RunS Tryd.prog (Instr.buildSlice 47 2 #[(0, t73_156), (1, t75_159)]) w_160 fun t76_161 w_162 =>
    RunS Tryd.prog (Builtin.append_ #[47, 47] 47 #[l3_131, t76_161]) w_162 fun t77_163 w_164 =>
    Pu (binV (TypeDesc.int IntKind.i64) .add t67_133 (Value.int IntKind.i64 1)) fun t78_165 =>
    I_128 [t77_163, t78_165] w_164 ∧ m_129 [t77_163, t78_165] w_164 < m_129 [l3_131, t67_133] w_145)
      (k l3_131 w_145)))))))))
theorem e90 (k : KV) (r0 : Value) (w : World) : K KD Tryd.prog 80 (fun j => bif Nat.beq j 14 then [3, 67] else bif Nat.beq j 9 then [3, 52] else bif Nat.beq j 4 then [3, 39] else []) (fun j =>  none) (Tryd.f90.body.getD .skip) (retQ Tryd.prog Tryd.f90 k) (argF [r0]) w = T90 k r0 w := by kernel_rfl
theorem c90 {k : KV} {r0 : Value} {w : World} (h : T90 k r0 w) : Cl Tryd.prog 90 [r0] w k :=
  Cl_of_K KD_sound mixed Tryd.func90 (by kernel_rfl) (by kernel_rfl) ((e90 k r0 w).symm ▸ h)

/-- Function 91: almonry/rec.checked$1. -/
def T91 (k : KV) (n0 : Value) (w : World) : Prop :=
  Pu (binV (TypeDesc.int IntKind.i64) .lss n0 (Value.int IntKind.i64 0)) fun t4_1 =>
  Gd (isB false t4_1) (fun kk => kk n0 w) w fun t6_2 w_3 =>
  Gd (isB false t4_1) (fun kk => Pu (binV (TypeDesc.int IntKind.i64) .gtr t6_2 (Value.int IntKind.i64 4611686018427387904)) fun vv => kk vv w_3) w_3 fun t7_4 w_5 =>
  Pu (pickV t4_1 (Value.bool true) t7_4) fun t8_6 =>
  k t8_6 w_5
theorem e91 (k : KV) (n0 : Value) (w : World) : K KD Tryd.prog 9 (fun j =>  []) (fun j =>  none) (Tryd.f91.body.getD .skip) (retQ Tryd.prog Tryd.f91 k) (argF [n0]) w = T91 k n0 w := by kernel_rfl
theorem c91 {k : KV} {n0 : Value} {w : World} (h : T91 k n0 w) : Cl Tryd.prog 91 [n0] w k :=
  Cl_of_K KD_sound mixed Tryd.func91 (by kernel_rfl) (by kernel_rfl) ((e91 k n0 w).symm ▸ h)

/-- Function 92: almonry/rec.inner. -/
def T92 (k : KV) (r0 : Value) (w : World) : Prop :=
  New (Value.cells r0) 52 w fun r1_1 w_2 =>
  Cl Tryd.prog 116 [] w_2 fun t16_3 w_4 =>
  Pu (faV 0 r1_1) fun t18_5 =>
  Ld w_4 t18_5 fun t19_6 w_7 =>
  Pu (faV 1 r1_1) fun t20_8 =>
  Ld w_7 t20_8 fun t21_9 w_10 =>
  Pu (faV 2 r1_1) fun t22_11 =>
  Ld w_10 t22_11 fun t23_12 w_13 =>
  Pu (faV 3 r1_1) fun t24_14 =>
  Ld w_13 t24_14 fun t25_15 w_16 =>
  Pu (cvI IntKind.i64 t25_15) fun t26_17 =>
  Pu (faV 4 r1_1) fun t27_18 =>
  Ld w_16 t27_18 fun t28_19 w_20 =>
  Pu (faV 5 r1_1) fun t29_21 =>
  Ld w_20 t29_21 fun t30_22 w_23 =>
  Pu (faV 6 r1_1) fun t31_24 =>
  Ld w_23 t31_24 fun t32_25 w_26 =>
  Pu (faV 7 r1_1) fun t33_27 =>
  Ld w_26 t33_27 fun t34_28 w_29 =>
  Pu (faV 8 r1_1) fun t35_30 =>
  Ld w_29 t35_30 fun t36_31 w_32 =>
  Pu (faV 9 r1_1) fun t37_33 =>
  Ld w_32 t37_33 fun t38_34 w_35 =>
  RunS Tryd.prog (Instr.buildSlice 47 10 #[(0, t19_6), (1, t21_9), (2, t23_12), (3, t26_17), (4, t28_19), (5, t30_22), (6, t32_25), (7, t34_28), (8, t36_31), (9, t38_34)]) w_35 fun t39_36 w_37 =>
  Cl Tryd.prog 117 [t16_3, t39_36] w_37 fun t40_38 w_39 =>
  Pu (faV 10 r1_1) fun t42_40 =>
  Ld w_39 t42_40 fun t43_41 w_42 =>
  Cl Tryd.prog 118 [t16_3, t43_41] w_42 fun t44_43 w_44 =>
  Pu (faV 11 r1_1) fun t45_45 =>
  Ld w_44 t45_45 fun t46_46 w_47 =>
  Pu (faV 12 r1_1) fun t47_48 =>
  Ld w_47 t47_48 fun t48_49 w_50 =>
  RunS Tryd.prog (Instr.build 147 #[(0, t46_46), (1, t48_49)]) w_50 fun t49_51 w_52 =>
  ∃ (I_53 : List Value → World → Prop) (m_54 : List Value → World → Nat), I_53 [(Value.int IntKind.i64 0)] w_52 ∧
  ∀ (g_70 : Fr) (w_69 : World), ∀ t50_57 : Value, I_53 [t50_57] w_69 →
    (Pu (binV (TypeDesc.int IntKind.i64) .lss t50_57 (Value.int IntKind.i64 2)) fun t51_71 =>
    IfB t51_71
      (Pu (ixG false 2 1 t49_51 t50_57) fun t52_72 =>
    Pu (lenV t52_72) fun t55_73 =>
    RunS Tryd.prog (Instr.buildSlice 47 1 #[(0, t55_73)]) w_69 fun t56_74 w_75 =>
    Cl Tryd.prog 117 [t16_3, t56_74] w_75 fun t57_76 w_77 =>
    Cl Tryd.prog 117 [t16_3, t52_72] w_77 fun t60_78 w_79 =>
    Pu (binV (TypeDesc.int IntKind.i64) .add t50_57 (Value.int IntKind.i64 1)) fun t61_80 =>
    I_53 [t61_80] w_79 ∧ m_54 [t61_80] w_79 < m_54 [t50_57] w_69)
      (Pu (faV 13 r1_1) fun t63_81 =>
  Ld w_69 t63_81 fun t64_82 w_83 =>
  Pu (lenV t64_82) fun t65_84 =>
  RunS Tryd.prog (Instr.buildSlice 47 1 #[(0, t65_84)]) w_83 fun t66_85 w_86 =>
  Cl Tryd.prog 117 [t16_3, t66_85] w_86 fun t67_87 w_88 =>
  Pu (faV 13 r1_1) fun t68_89 =>
  Ld w_88 t68_89 fun t69_90 w_91 =>
  Pu (lenV t69_90) fun t70_92 =>
  ∃ (I_93 : List Value → World → Prop) (m_94 : List Value → World → Nat), I_93 [(Value.int IntKind.i64 0)] w_91 ∧
  ∀ (g_125 : Fr) (w_124 : World), ∀ t71_101 : Value, I_93 [t71_101] w_124 →
    (Pu (binV (TypeDesc.int IntKind.i64) .lss t71_101 t70_92) fun t72_126 =>
    IfB t72_126
      (Pu (ixV 7 t69_90 t71_101) fun t73_127 =>
    LdN 7 w_124 t73_127 fun t74_128 w_129 =>
    New #[(Value.int IntKind.i64 0), (Value.int IntKind.i64 0), (Value.int IntKind.i64 0), (Value.int IntKind.i64 0), (Value.int IntKind.i64 0), (Value.string (ByteArray.mk #[])), (Value.slice none 0 0)] 90 w_129 fun m8_130 w_131 =>
    St 7 w_131 m8_130 t74_128 fun u_132 w_133 =>
    Pu (faV 1 m8_130) fun t76_134 =>
    LdN 6 w_133 t76_134 fun t77_135 w_136 =>
    Cl Tryd.prog 23 [t77_135] w_136 fun t78_137 w_138 =>
    Pu (extV t78_137 0) fun t79_139 =>
    Pu (extV t78_137 1) fun t80_140 =>
    Pu (binV (TypeDesc.int IntKind.i64) .neq t80_140 (Value.int IntKind.i64 0)) fun t82_141 =>
    IfB t82_141
      (k (.tuple #[(Value.string (ByteArray.mk #[])), t80_140]) w_138)
      (Pu (faV 0 m8_130) fun t85_142 =>
    Ld w_138 t85_142 fun t86_143 w_144 =>
    RunS Tryd.prog (Instr.buildSlice 47 1 #[(0, t86_143)]) w_144 fun t87_145 w_146 =>
    Cl Tryd.prog 117 [t16_3, t87_145] w_146 fun t88_147 w_148 =>
    Cl Tryd.prog 119 [t79_139, (Value.string (ByteArray.mk #[0]))] w_148 fun t91_149 w_150 =>
    Cl Tryd.prog 118 [t16_3, t91_149] w_150 fun t92_151 w_152 =>
    Pu (binV (TypeDesc.int IntKind.i64) .add t71_101 (Value.int IntKind.i64 1)) fun t93_153 =>
    I_93 [t93_153] w_152 ∧ m_94 [t93_153] w_152 < m_94 [t71_101] w_124))
      (Pu (faV 14 r1_1) fun t95_154 =>
  Ld w_124 t95_154 fun t96_155 w_156 =>
  Pu (lenV t96_155) fun t97_157 =>
  RunS Tryd.prog (Instr.buildSlice 47 1 #[(0, t97_157)]) w_156 fun t98_158 w_159 =>
  Cl Tryd.prog 117 [t16_3, t98_158] w_159 fun t99_160 w_161 =>
  Pu (faV 14 r1_1) fun t100_162 =>
  Ld w_161 t100_162 fun t101_163 w_164 =>
  Pu (lenV t101_163) fun t102_165 =>
  ∃ (I_166 : List Value → World → Prop) (m_167 : List Value → World → Nat), I_166 [(Value.int IntKind.i64 0)] w_164 ∧
  ∀ (g_183 : Fr) (w_182 : World), ∀ t103_170 : Value, I_166 [t103_170] w_182 →
    (Pu (binV (TypeDesc.int IntKind.i64) .lss t103_170 t102_165) fun t104_184 =>
    IfB t104_184
      (Pu (ixV 2 t101_163 t103_170) fun t105_185 =>
    LdN 2 w_182 t105_185 fun t106_186 w_187 =>
    New #[(Value.int IntKind.i64 0), (Value.int IntKind.i64 0)] 96 w_187 fun p12_188 w_189 =>
    St 2 w_189 p12_188 t106_186 fun u_190 w_191 =>
    Pu (faV 0 p12_188) fun t108_192 =>
    Ld w_191 t108_192 fun t109_193 w_194 =>
    Pu (faV 1 p12_188) fun t110_195 =>
    Ld w_194 t110_195 fun t111_196 w_197 =>
    RunS Tryd.prog (Instr.buildSlice 47 2 #[(0, t109_193), (1, t111_196)]) w_197 fun t112_198 w_199 =>
    Cl Tryd.prog 117 [t16_3, t112_198] w_199 fun t113_200 w_201 =>
    Pu (binV (TypeDesc.int IntKind.i64) .add t103_170 (Value.int IntKind.i64 1)) fun t114_202 =>
    I_166 [t114_202] w_201 ∧ m_167 [t114_202] w_201 < m_167 [t103_170] w_182)
      (Pu (faV 15 r1_1) fun t116_203 =>
  Ld w_182 t116_203 fun t117_204 w_205 =>
  Pu (lenV t117_204) fun t118_206 =>
  RunS Tryd.prog (Instr.buildSlice 47 1 #[(0, t118_206)]) w_205 fun t119_207 w_208 =>
  Cl Tryd.prog 117 [t16_3, t119_207] w_208 fun t120_209 w_210 =>
  Pu (faV 15 r1_1) fun t121_211 =>
  Ld w_210 t121_211 fun t122_212 w_213 =>
  Pu (lenV t122_212) fun t123_214 =>
  ∃ (I_215 : List Value → World → Prop) (m_216 : List Value → World → Nat), I_215 [(Value.int IntKind.i64 0)] w_213 ∧
  ∀ (g_232 : Fr) (w_231 : World), ∀ t124_219 : Value, I_215 [t124_219] w_231 →
    (Pu (binV (TypeDesc.int IntKind.i64) .lss t124_219 t123_214) fun t125_233 =>
    IfB t125_233
      (Pu (ixV 2 t122_212 t124_219) fun t126_234 =>
    LdN 2 w_231 t126_234 fun t127_235 w_236 =>
    New #[(Value.int IntKind.i64 0), (Value.int IntKind.i64 0)] 99 w_236 fun t14_237 w_238 =>
    St 2 w_238 t14_237 t127_235 fun u_239 w_240 =>
    Pu (faV 0 t14_237) fun t129_241 =>
    Ld w_240 t129_241 fun t130_242 w_243 =>
    Pu (faV 1 t14_237) fun t131_244 =>
    Ld w_243 t131_244 fun t132_245 w_246 =>
    RunS Tryd.prog (Instr.buildSlice 47 2 #[(0, t130_242), (1, t132_245)]) w_246 fun t133_247 w_248 =>
    Cl Tryd.prog 117 [t16_3, t133_247] w_248 fun t134_249 w_250 =>
    Pu (binV (TypeDesc.int IntKind.i64) .add t124_219 (Value.int IntKind.i64 1)) fun t135_251 =>
    I_215 [t135_251] w_250 ∧ m_216 [t135_251] w_250 < m_216 [t124_219] w_231)
      (Cl Tryd.prog 120 [t16_3] w_231 fun t137_252 w_253 =>
  Pu (lenS t137_252) fun t139_254 =>
  Pu (binV (TypeDesc.int IntKind.i64) .gtr t139_254 (Value.int IntKind.i64 65535)) fun t140_255 =>
  IfB t140_255
    (k (.tuple #[(Value.string (ByteArray.mk #[])), (Value.int IntKind.i64 3)]) w_253)
    (k (.tuple #[t137_252, (Value.int IntKind.i64 0)]) w_253)))))))))
theorem e92 (k : KV) (r0 : Value) (w : World) : K KD Tryd.prog 142 (fun j => bif Nat.beq j 28 then [124] else bif Nat.beq j 22 then [103] else bif Nat.beq j 12 then [71] else bif Nat.beq j 5 then [50] else []) (fun j =>  none) (Tryd.f92.body.getD .skip) (retQ Tryd.prog Tryd.f92 k) (argF [r0]) w = T92 k r0 w := by kernel_rfl
theorem c92 {k : KV} {r0 : Value} {w : World} (h : T92 k r0 w) : Cl Tryd.prog 92 [r0] w k :=
  Cl_of_K KD_sound mixed Tryd.func92 (by kernel_rfl) (by kernel_rfl) ((e92 k r0 w).symm ▸ h)

/-- Function 93: almonry/almonryref01.Num. -/
def T93 (k : KV) (ns0 : Value) (w : World) : Prop :=
  ∃ (I_1 : List Value → World → Prop) (m_2 : List Value → World → Nat), I_1 [(Value.slice none 0 0), (Value.int IntKind.i64 0)] w ∧
  ∀ (g_35 : Fr) (w_34 : World), ∀ b3_4 : Value, ∀ i4_5 : Value, I_1 [b3_4, i4_5] w_34 →
    (Pu (lenV ns0) fun t8_36 =>
    Pu (binV (TypeDesc.int IntKind.i64) .lss i4_5 t8_36) fun t9_37 =>
    IfB t9_37
      (Pu (ixV 1 ns0 i4_5) fun t14_38 =>
    Ld w_34 t14_38 fun t15_39 w_40 =>
    Pu (foldV0 max2V [t15_39, (Value.int IntKind.i64 0)]) fun t16_41 =>
    ∃ (I_42 : List Value → World → Prop) (m_43 : List Value → World → Nat), I_42 [b3_4, t16_41] w_40 ∧
    ∀ (g_59 : Fr) (w_58 : World), ∀ b3_45 : Value, ∀ n5_46 : Value, I_42 [b3_45, n5_46] w_58 →
      (Pu (binV (TypeDesc.int IntKind.i64) .geq n5_46 (Value.int IntKind.i64 128)) fun t18_60 =>
      IfB t18_60
        (Pu (binV (TypeDesc.int IntKind.i64) .rem n5_46 (Value.int IntKind.i64 128)) fun t21_61 =>
      Pu (binV (TypeDesc.int IntKind.i64) .add t21_61 (Value.int IntKind.i64 128)) fun t22_62 =>
      Pu (cvI IntKind.u8 t22_62) fun t23_63 =>
      RunS Tryd.prog (Instr.buildSlice 38 1 #[(0, t23_63)]) w_58 fun t24_64 w_65 =>
      RunS Tryd.prog (Builtin.append_ #[38, 38] 38 #[b3_45, t24_64]) w_65 fun t25_66 w_67 =>
      Pu (binV (TypeDesc.int IntKind.i64) .quo n5_46 (Value.int IntKind.i64 128)) fun t27_68 =>
      I_42 [t25_66, t27_68] w_67 ∧ m_43 [t25_66, t27_68] w_67 < m_43 [b3_45, n5_46] w_58)
        (Pu (cvI IntKind.u8 n5_46) fun t30_69 =>
    RunS Tryd.prog (Instr.buildSlice 38 1 #[(0, t30_69)]) w_58 fun t31_70 w_71 =>
    RunS Tryd.prog (Builtin.append_ #[38, 38] 38 #[b3_45, t31_70]) w_71 fun t32_72 w_73 =>
    Pu (binV (TypeDesc.int IntKind.i64) .add i4_5 (Value.int IntKind.i64 1)) fun t11_74 =>
    I_1 [t32_72, t11_74] w_73 ∧ m_2 [t32_72, t11_74] w_73 < m_2 [b3_4, i4_5] w_34)))
      (RunS Tryd.prog (convert 38 9 b3_4) w_34 fun t34_75 w_76 =>
  k t34_75 w_76))
theorem e93 (k : KV) (ns0 : Value) (w : World) : K KD Tryd.prog 35 (fun j => bif Nat.beq j 6 then [3, 5] else bif Nat.beq j 3 then [3, 4] else []) (fun j =>  none) (Tryd.f93.body.getD .skip) (retQ Tryd.prog Tryd.f93 k) (argF [ns0]) w = T93 k ns0 w := by kernel_rfl
theorem c93 {k : KV} {ns0 : Value} {w : World} (h : T93 k ns0 w) : Cl Tryd.prog 93 [ns0] w k :=
  Cl_of_K KD_sound mixed Tryd.func93 (by kernel_rfl) (by kernel_rfl) ((e93 k ns0 w).symm ▸ h)

/-- Function 94: almonry/almonryref01.Text. -/
def T94 (k : KV) (s0 : Value) (w : World) : Prop :=
  Pu (lenS s0) fun t4_1 =>
  RunS Tryd.prog (Instr.buildSlice 47 1 #[(0, t4_1)]) w fun t5_2 w_3 =>
  Cl Tryd.prog 93 [t5_2] w_3 fun t6_4 w_5 =>
  Pu (binV TypeDesc.string .add t6_4 s0) fun t8_6 =>
  k t8_6 w_5
theorem e94 (k : KV) (s0 : Value) (w : World) : K KD Tryd.prog 9 (fun j =>  []) (fun j =>  none) (Tryd.f94.body.getD .skip) (retQ Tryd.prog Tryd.f94 k) (argF [s0]) w = T94 k s0 w := by kernel_rfl
theorem c94 {k : KV} {s0 : Value} {w : World} (h : T94 k s0 w) : Cl Tryd.prog 94 [s0] w k :=
  Cl_of_K KD_sound mixed Tryd.func94 (by kernel_rfl) (by kernel_rfl) ((e94 k s0 w).symm ▸ h)

/-- Function 95: almonry/almonryref04.bare. -/
def T95 (k : KV) (p0 : Value) (w : World) : Prop :=
  New (Value.cells p0) 24 w fun p1_1 w_2 =>
  LdN 6 w_2 p1_1 fun t6_3 w_4 =>
  Cl Tryd.prog 24 [t6_3] w_4 fun t7_5 w_6 =>
  Pu (extV t7_5 0) fun t8_7 =>
  Pu (extV t7_5 1) fun t9_8 =>
  ∃ (I_9 : List Value → World → Prop) (m_10 : List Value → World → Nat), I_9 [t8_7] w_6 ∧
  ∀ (g_30 : Fr) (w_29 : World), ∀ s3_12 : Value, I_9 [s3_12] w_29 →
    (Pu (lenS s3_12) fun t11_31 =>
    Pu (binV (TypeDesc.int IntKind.i64) .gtr t11_31 (Value.int IntKind.i64 0)) fun t12_32 =>
    Gd (isB true t12_32) (fun kk => kk s3_12 w_29) w_29 fun t14_33 w_34 =>
    Gd (isB true t12_32) (fun kk => kk s3_12 w_34) w_34 fun t15_35 w_36 =>
    Gd (isB true t12_32) (fun kk => Pu (lenS t15_35) fun vv => kk vv w_36) w_36 fun t16_37 w_38 =>
    Gd (isB true t12_32) (fun kk => Pu (binV (TypeDesc.int IntKind.i64) .sub t16_37 (Value.int IntKind.i64 1)) fun vv => kk vv w_38) w_38 fun t17_39 w_40 =>
    Gd (isB true t12_32) (fun kk => Pu (ixS t14_33 t17_39) fun vv => kk vv w_40) w_40 fun t18_41 w_42 =>
    Gd (isB true t12_32) (fun kk => Pu (binV (TypeDesc.int IntKind.u8) .eql t18_41 (Value.int IntKind.u8 0)) fun vv => kk vv w_42) w_42 fun t19_43 w_44 =>
    Pu (pickV t12_32 t19_43 (Value.bool false)) fun t20_45 =>
    IfB t20_45
      (Pu (lenS s3_12) fun t23_46 =>
    Pu (binV (TypeDesc.int IntKind.i64) .sub t23_46 (Value.int IntKind.i64 1)) fun t24_47 =>
    Pu (slS s3_12 none (some t24_47)) fun t25_48 =>
    I_9 [t25_48] w_44 ∧ m_10 [t25_48] w_44 < m_10 [s3_12] w_29)
      (k s3_12 w_44))
theorem e95 (k : KV) (p0 : Value) (w : World) : K KD Tryd.prog 27 (fun j => bif Nat.beq j 2 then [3] else []) (fun j =>  none) (Tryd.f95.body.getD .skip) (retQ Tryd.prog Tryd.f95 k) (argF [p0]) w = T95 k p0 w := by kernel_rfl
theorem c95 {k : KV} {p0 : Value} {w : World} (h : T95 k p0 w) : Cl Tryd.prog 95 [p0] w k :=
  Cl_of_K KD_sound mixed Tryd.func95 (by kernel_rfl) (by kernel_rfl) ((e95 k p0 w).symm ▸ h)

/-- Function 96: almonry/almonryref04.lists. -/
def T96 (k : KV) (l0 : Value) (w : World) : Prop :=
  ∃ (I_1 : List Value → World → Prop) (m_2 : List Value → World → Nat), I_1 [(Value.int IntKind.i64 0)] w ∧
  ∀ (g_19 : Fr) (w_18 : World), ∀ i3_5 : Value, I_1 [i3_5] w_18 →
    (Pu (lenV l0) fun t6_20 =>
    Pu (binV (TypeDesc.int IntKind.i64) .lss i3_5 t6_20) fun t7_21 =>
    IfB t7_21
      (Pu (ixV 1 l0 i3_5) fun t12_22 =>
    Ld w_18 t12_22 fun t13_23 w_24 =>
    Cl Tryd.prog 97 [t13_23] w_24 fun t14_25 w_26 =>
    Pu (unV .not t14_25) fun t15_27 =>
    IfB t15_27
      (k (Value.bool false) w_26)
      (Pu (binV (TypeDesc.int IntKind.i64) .add i3_5 (Value.int IntKind.i64 1)) fun t9_28 =>
    I_1 [t9_28] w_26 ∧ m_2 [t9_28] w_26 < m_2 [i3_5] w_18))
      (k (Value.bool true) w_18))
theorem e96 (k : KV) (l0 : Value) (w : World) : K KD Tryd.prog 16 (fun j => bif Nat.beq j 2 then [3] else []) (fun j =>  none) (Tryd.f96.body.getD .skip) (retQ Tryd.prog Tryd.f96 k) (argF [l0]) w = T96 k l0 w := by kernel_rfl
theorem c96 {k : KV} {l0 : Value} {w : World} (h : T96 k l0 w) : Cl Tryd.prog 96 [l0] w k :=
  Cl_of_K KD_sound mixed Tryd.func96 (by kernel_rfl) (by kernel_rfl) ((e96 k l0 w).symm ▸ h)

/-- Function 97: almonry/almonryref04.within. -/
def T97 (k : KV) (n0 : Value) (w : World) : Prop :=
  Pu (binV (TypeDesc.int IntKind.i64) .geq n0 (Value.int IntKind.i64 0)) fun t4_1 =>
  Gd (isB true t4_1) (fun kk => kk n0 w) w fun t6_2 w_3 =>
  Gd (isB true t4_1) (fun kk => Pu (binV (TypeDesc.int IntKind.i64) .leq t6_2 (Value.int IntKind.i64 4611686018427387904)) fun vv => kk vv w_3) w_3 fun t7_4 w_5 =>
  Pu (pickV t4_1 t7_4 (Value.bool false)) fun t8_6 =>
  k t8_6 w_5
theorem e97 (k : KV) (n0 : Value) (w : World) : K KD Tryd.prog 9 (fun j =>  []) (fun j =>  none) (Tryd.f97.body.getD .skip) (retQ Tryd.prog Tryd.f97 k) (argF [n0]) w = T97 k n0 w := by kernel_rfl
theorem c97 {k : KV} {n0 : Value} {w : World} (h : T97 k n0 w) : Cl Tryd.prog 97 [n0] w k :=
  Cl_of_K KD_sound mixed Tryd.func97 (by kernel_rfl) (by kernel_rfl) ((e97 k n0 w).symm ▸ h)

/-- Function 98: almonry/bits.Read. -/
def T98 (k : KV) (data0 : Value) (w : World) : Prop :=
  RunS Tryd.prog (Instr.build 149 #[(0, data0)]) w fun t4_1 w_2 =>
  New (Value.cells t4_1) 149 w_2 fun t5_3 w_4 =>
  k t5_3 w_4
theorem e98 (k : KV) (data0 : Value) (w : World) : K KD Tryd.prog 6 (fun j =>  []) (fun j =>  none) (Tryd.f98.body.getD .skip) (retQ Tryd.prog Tryd.f98 k) (argF [data0]) w = T98 k data0 w := by kernel_rfl
theorem c98 {k : KV} {data0 : Value} {w : World} (h : T98 k data0 w) : Cl Tryd.prog 98 [data0] w k :=
  Cl_of_K KD_sound mixed Tryd.func98 (by kernel_rfl) (by kernel_rfl) ((e98 k data0 w).symm ▸ h)

/-- Function 99: almonry/rec.outer$1. -/
def T99 (k : KV) (t0 : Value) (w : World) : Prop :=
  Ld w t0 fun t2_1 w_2 =>
  Cl Tryd.prog 100 [t2_1, (Value.int IntKind.i64 4611686018427387904)] w_2 fun t3_3 w_4 =>
  k t3_3 w_4
theorem e99 (k : KV) (t0 : Value) (w : World) : K KD Tryd.prog 4 (fun j =>  []) (fun j =>  none) (Tryd.f99.body.getD .skip) (retQ Tryd.prog Tryd.f99 k) (argF [t0]) w = T99 k t0 w := by kernel_rfl
theorem c99 {k : KV} {t0 : Value} {w : World} (h : T99 k t0 w) : Cl Tryd.prog 99 [t0] w k :=
  Cl_of_K KD_sound mixed Tryd.func99 (by kernel_rfl) (by kernel_rfl) ((e99 k t0 w).symm ▸ h)

/-- Function 100: (*almonry/bits.Reader).Num. -/
def T100 (k : KV) (r0 : Value) (most1 : Value) (w : World) : Prop :=
  Pu (binV (TypeDesc.pointer 149) .eql r0 (Value.pointer none)) fun t9_1 =>
  Gd (isB false t9_1) (fun kk => kk r0 w) w fun t11_2 w_3 =>
  Gd (isB false t9_1) (fun kk => Pu (nilV t11_2) fun vv => kk vv w_3) w_3 fun t12_4 w_5 =>
  Gd (isB false t9_1) (fun kk => Pu (faV 1 t12_4) fun vv => kk vv w_5) w_5 fun t13_6 w_7 =>
  Gd (isB false t9_1) (fun kk => Ld w_7 t13_6 kk) w_7 fun t14_8 w_9 =>
  Gd (isB false t9_1) (fun kk => Pu (binV (TypeDesc.int IntKind.i64) .neq t14_8 (Value.int IntKind.i64 0)) fun vv => kk vv w_9) w_9 fun t15_10 w_11 =>
  Pu (pickV t9_1 (Value.bool true) t15_10) fun t16_12 =>
  IfB t16_12
    (k (Value.int IntKind.i64 0) w_11)
    (∃ (I_13 : List Value → World → Prop) (m_14 : List Value → World → Nat), I_13 [(Value.int IntKind.i64 0), (Value.int IntKind.i64 0)] w_11 ∧
  ∀ (g_78 : Fr) (w_77 : World), ∀ n5_17 : Value, ∀ t17_20 : Value, I_13 [n5_17, t17_20] w_77 →
    (Pu (binV (TypeDesc.int IntKind.i64) .lss t17_20 (Value.int IntKind.i64 9)) fun t18_79 =>
    IfB t18_79
      (Pu (nilV r0) fun t22_80 =>
    Pu (faV 0 t22_80) fun t23_81 =>
    Ld w_77 t23_81 fun t24_82 w_83 =>
    Pu (lenS t24_82) fun t25_84 =>
    Pu (binV (TypeDesc.int IntKind.i64) .geq t17_20 t25_84) fun t26_85 =>
    IfB t26_85
      (Cl Tryd.prog 121 [r0, (Value.int IntKind.i64 10)] w_83 fun t28_86 w_87 =>
        k t28_86 w_87)
      (Pu (nilV r0) fun t30_88 =>
    Pu (faV 0 t30_88) fun t31_89 =>
    Ld w_83 t31_89 fun t32_90 w_91 =>
    Pu (ixS t32_90 t17_20) fun t34_92 =>
    Pu (binV (TypeDesc.int IntKind.u8) .and t34_92 (Value.int IntKind.u8 127)) fun t37_93 =>
    Pu (cvI IntKind.i64 t37_93) fun t38_94 =>
    Pu (binV (TypeDesc.int IntKind.i64) .mul (Value.int IntKind.i64 7) t17_20) fun t40_95 =>
    Pu (binV (TypeDesc.int IntKind.i64) .shl t38_94 t40_95) fun t41_96 =>
    Pu (binV (TypeDesc.int IntKind.i64) .or n5_17 t41_96) fun t42_97 =>
    Pu (binV (TypeDesc.int IntKind.u8) .eql t34_92 (Value.int IntKind.u8 0)) fun t45_98 =>
    Gd (isB true t45_98) (fun kk => kk t17_20 w_91) w_91 fun t47_99 w_100 =>
    Gd (isB true t45_98) (fun kk => Pu (binV (TypeDesc.int IntKind.i64) .gtr t47_99 (Value.int IntKind.i64 0)) fun vv => kk vv w_100) w_100 fun t48_101 w_102 =>
    Pu (pickV t45_98 t48_101 (Value.bool false)) fun t49_103 =>
    IfB t49_103
      (Cl Tryd.prog 121 [r0, (Value.int IntKind.i64 11)] w_102 fun t51_104 w_105 =>
        k t51_104 w_105)
      (Pu (binV (TypeDesc.int IntKind.u8) .geq t34_92 (Value.int IntKind.u8 128)) fun t54_106 =>
        IfB t54_106
          (Pu (binV (TypeDesc.int IntKind.i64) .add t17_20 (Value.int IntKind.i64 1)) fun t73_107 =>
    I_13 [t42_97, t73_107] w_102 ∧ m_14 [t42_97, t73_107] w_102 < m_14 [n5_17, t17_20] w_77)
          (Pu (foldV0 max2V [most1, (Value.int IntKind.i64 0)]) fun t58_108 =>
            Pu (binV (TypeDesc.int IntKind.i64) .gtr t42_97 t58_108) fun t59_109 =>
            IfB t59_109
              (Cl Tryd.prog 121 [r0, (Value.int IntKind.i64 11)] w_102 fun t61_110 w_111 =>
                k t61_110 w_111)
              (Pu (nilV r0) fun t64_112 =>
    Pu (faV 0 t64_112) fun t65_113 =>
    Ld w_102 t65_113 fun t66_114 w_115 =>
    Pu (binV (TypeDesc.int IntKind.i64) .add t17_20 (Value.int IntKind.i64 1)) fun t68_116 =>
    Pu (slS t66_114 (some t68_116) none) fun t69_117 =>
    Pu (nilV r0) fun t70_118 =>
    Pu (faV 0 t70_118) fun t71_119 =>
    St 1 w_115 t71_119 t69_117 fun u_120 w_121 =>
    k t42_97 w_121)))))
      (Cl Tryd.prog 121 [r0, (Value.int IntKind.i64 11)] w_77 fun t75_122 w_123 =>
  k t75_122 w_123)))
theorem e100 (k : KV) (r0 : Value) (most1 : Value) (w : World) : K KD Tryd.prog 76 (fun j => bif Nat.beq j 5 then [5, 17] else []) (fun j =>  none) (Tryd.f100.body.getD .skip) (retQ Tryd.prog Tryd.f100 k) (argF [r0, most1]) w = T100 k r0 most1 w := by kernel_rfl
theorem c100 {k : KV} {r0 : Value} {most1 : Value} {w : World} (h : T100 k r0 most1 w) : Cl Tryd.prog 100 [r0, most1] w k :=
  Cl_of_K KD_sound mixed Tryd.func100 (by kernel_rfl) (by kernel_rfl) ((e100 k r0 most1 w).symm ▸ h)

/-- Function 101: (*almonry/bits.Reader).Text. -/
def T101 (k : KV) (r0 : Value) (most1 : Value) (w : World) : Prop :=
  Cl Tryd.prog 100 [r0, most1] w fun t9_1 w_2 =>
  Pu (binV (TypeDesc.pointer 149) .eql r0 (Value.pointer none)) fun t11_3 =>
  Gd (isB false t11_3) (fun kk => kk r0 w_2) w_2 fun t13_4 w_5 =>
  Gd (isB false t11_3) (fun kk => Pu (nilV t13_4) fun vv => kk vv w_5) w_5 fun t14_6 w_7 =>
  Gd (isB false t11_3) (fun kk => Pu (faV 1 t14_6) fun vv => kk vv w_7) w_7 fun t15_8 w_9 =>
  Gd (isB false t11_3) (fun kk => Ld w_9 t15_8 kk) w_9 fun t16_10 w_11 =>
  Gd (isB false t11_3) (fun kk => Pu (binV (TypeDesc.int IntKind.i64) .neq t16_10 (Value.int IntKind.i64 0)) fun vv => kk vv w_11) w_11 fun t17_12 w_13 =>
  Pu (pickV t11_3 (Value.bool true) t17_12) fun t18_14 =>
  IfB t18_14
    (k (Value.string (ByteArray.mk #[])) w_13)
    (Pu (nilV r0) fun t21_15 =>
  Pu (faV 0 t21_15) fun t22_16 =>
  Ld w_13 t22_16 fun t23_17 w_18 =>
  Pu (lenS t23_17) fun t24_19 =>
  Pu (binV (TypeDesc.int IntKind.i64) .gtr t9_1 t24_19) fun t25_20 =>
  IfB t25_20
    (Cl Tryd.prog 121 [r0, (Value.int IntKind.i64 10)] w_18 fun t27_21 w_22 =>
      k (Value.string (ByteArray.mk #[])) w_22)
    (Pu (nilV r0) fun t29_23 =>
  Pu (faV 0 t29_23) fun t30_24 =>
  Ld w_18 t30_24 fun t31_25 w_26 =>
  Pu (slS t31_25 none (some t9_1)) fun t33_27 =>
  Pu (nilV r0) fun t36_28 =>
  Pu (faV 0 t36_28) fun t37_29 =>
  Ld w_26 t37_29 fun t38_30 w_31 =>
  Pu (slS t38_30 (some t9_1) none) fun t40_32 =>
  Pu (nilV r0) fun t41_33 =>
  Pu (faV 0 t41_33) fun t42_34 =>
  St 1 w_31 t42_34 t40_32 fun u_35 w_36 =>
  k t33_27 w_36))
theorem e101 (k : KV) (r0 : Value) (most1 : Value) (w : World) : K KD Tryd.prog 44 (fun j =>  []) (fun j =>  none) (Tryd.f101.body.getD .skip) (retQ Tryd.prog Tryd.f101 k) (argF [r0, most1]) w = T101 k r0 most1 w := by kernel_rfl
theorem c101 {k : KV} {r0 : Value} {most1 : Value} {w : World} (h : T101 k r0 most1 w) : Cl Tryd.prog 101 [r0, most1] w k :=
  Cl_of_K KD_sound mixed Tryd.func101 (by kernel_rfl) (by kernel_rfl) ((e101 k r0 most1 w).symm ▸ h)

/-- Function 102: almonry/rec.list. -/
def T102 (k : KV) (r0 : Value) (most1 : Value) (w : World) : Prop :=
  Jn (fun vs_18 w_17 => ∀ g_19 : Fr, ∃ out5_2 : Value, vs_18 = [out5_2] ∧
      (k out5_2 w_17))
    (fun jj_1 =>
    Cl Tryd.prog 100 [r0, most1] w fun t8_20 w_21 =>
    ∃ (I_22 : List Value → World → Prop) (m_23 : List Value → World → Nat), I_22 [(Value.slice none 0 0), (Value.int IntKind.i64 0)] w_21 ∧
    ∀ (g_38 : Fr) (w_37 : World), ∀ out5_25 : Value, ∀ t9_26 : Value, I_22 [out5_25, t9_26] w_37 →
      (Pu (binV (TypeDesc.int IntKind.i64) .lss t9_26 t8_20) fun t10_39 =>
      IfB t10_39
        (Cl Tryd.prog 100 [r0, (Value.int IntKind.i64 4611686018427387904)] w_37 fun t13_40 w_41 =>
      RunS Tryd.prog (Instr.buildSlice 47 1 #[(0, t13_40)]) w_41 fun t14_42 w_43 =>
      RunS Tryd.prog (Builtin.append_ #[47, 47] 47 #[out5_25, t14_42]) w_43 fun t15_44 w_45 =>
      Cl Tryd.prog 103 [r0] w_45 fun t17_46 w_47 =>
      Pu (binV (TypeDesc.int IntKind.i64) .neq t17_46 (Value.int IntKind.i64 0)) fun t18_48 =>
      IfB t18_48
        (jj_1 [t15_44] w_47)
        (Pu (binV (TypeDesc.int IntKind.i64) .add t9_26 (Value.int IntKind.i64 1)) fun t19_49 =>
      I_22 [t15_44, t19_49] w_47 ∧ m_23 [t15_44, t19_49] w_47 < m_23 [out5_25, t9_26] w_37))
        (jj_1 [out5_25] w_37)))
theorem e102 (k : KV) (r0 : Value) (most1 : Value) (w : World) : K KD Tryd.prog 21 (fun j => bif Nat.beq j 3 then [5, 9] else []) (fun j => bif Nat.beq j 7 then some [5] else none) (Tryd.f102.body.getD .skip) (retQ Tryd.prog Tryd.f102 k) (argF [r0, most1]) w = T102 k r0 most1 w := by kernel_rfl
theorem c102 {k : KV} {r0 : Value} {most1 : Value} {w : World} (h : T102 k r0 most1 w) : Cl Tryd.prog 102 [r0, most1] w k :=
  Cl_of_K KD_sound mixed Tryd.func102 (by kernel_rfl) (by kernel_rfl) ((e102 k r0 most1 w).symm ▸ h)

/-- Function 103: (*almonry/bits.Reader).Err. -/
def T103 (k : KV) (r0 : Value) (w : World) : Prop :=
  Pu (binV (TypeDesc.pointer 149) .eql r0 (Value.pointer none)) fun t4_1 =>
  IfB t4_1
    (k (Value.int IntKind.i64 2) w)
    (Pu (nilV r0) fun t6_2 =>
  Pu (faV 1 t6_2) fun t7_3 =>
  Ld w t7_3 fun t8_4 w_5 =>
  k t8_4 w_5)
theorem e103 (k : KV) (r0 : Value) (w : World) : K KD Tryd.prog 9 (fun j =>  []) (fun j =>  none) (Tryd.f103.body.getD .skip) (retQ Tryd.prog Tryd.f103 k) (argF [r0]) w = T103 k r0 w := by kernel_rfl
theorem c103 {k : KV} {r0 : Value} {w : World} (h : T103 k r0 w) : Cl Tryd.prog 103 [r0] w k :=
  Cl_of_K KD_sound mixed Tryd.func103 (by kernel_rfl) (by kernel_rfl) ((e103 k r0 w).symm ▸ h)

/-- Function 104: (*almonry/bits.Reader).End. -/
def T104 (k : KV) (r0 : Value) (w : World) : Prop :=
  Cl Tryd.prog 103 [r0] w fun t4_1 w_2 =>
  Pu (binV (TypeDesc.int IntKind.i64) .eql t4_1 (Value.int IntKind.i64 0)) fun t5_3 =>
  Gd (isB true t5_3) (fun kk => kk r0 w_2) w_2 fun t7_4 w_5 =>
  Gd (isB true t5_3) (fun kk => Cl Tryd.prog 122 [t7_4] w_5 kk) w_5 fun t8_6 w_7 =>
  Gd (isB true t5_3) (fun kk => Pu (binV (TypeDesc.int IntKind.i64) .gtr t8_6 (Value.int IntKind.i64 0)) fun vv => kk vv w_7) w_7 fun t9_8 w_9 =>
  Pu (pickV t5_3 t9_8 (Value.bool false)) fun t10_10 =>
  IfB t10_10
    (k (Value.int IntKind.i64 12) w_9)
    (Cl Tryd.prog 103 [r0] w_9 fun t12_11 w_12 =>
  k t12_11 w_12)
theorem e104 (k : KV) (r0 : Value) (w : World) : K KD Tryd.prog 13 (fun j =>  []) (fun j =>  none) (Tryd.f104.body.getD .skip) (retQ Tryd.prog Tryd.f104 k) (argF [r0]) w = T104 k r0 w := by kernel_rfl
theorem c104 {k : KV} {r0 : Value} {w : World} (h : T104 k r0 w) : Cl Tryd.prog 104 [r0] w k :=
  Cl_of_K KD_sound mixed Tryd.func104 (by kernel_rfl) (by kernel_rfl) ((e104 k r0 w).symm ▸ h)

/-- Function 115: slices.IndexFunc[[]int,int]. -/
def T115 (k : KV) (s0 : Value) (f1 : Value) (w : World) : Prop :=
  Pu (lenV s0) fun t7_1 =>
  ∃ (I_2 : List Value → World → Prop) (m_3 : List Value → World → Nat), I_2 [(Value.int IntKind.i64 0)] w ∧
  ∀ (g_19 : Fr) (w_18 : World), ∀ t8_7 : Value, I_2 [t8_7] w_18 →
    (Pu (binV (TypeDesc.int IntKind.i64) .lss t8_7 t7_1) fun t9_20 =>
    IfB t9_20
      (Pu (ixV 1 s0 t8_7) fun t14_21 =>
    Ld w_18 t14_21 fun t15_22 w_23 =>
    ClV Tryd.prog f1 [t15_22] w_23 fun t16_24 w_25 =>
    IfB t16_24
      (k t8_7 w_25)
      (Pu (binV (TypeDesc.int IntKind.i64) .add t8_7 (Value.int IntKind.i64 1)) fun t18_26 =>
    I_2 [t18_26] w_25 ∧ m_3 [t18_26] w_25 < m_3 [t8_7] w_18))
      (k (Value.int IntKind.i64 (-1)) w_18))
theorem e115 (k : KV) (s0 : Value) (f1 : Value) (w : World) : K KD Tryd.prog 19 (fun j => bif Nat.beq j 2 then [8] else []) (fun j =>  none) (Tryd.f115.body.getD .skip) (retQ Tryd.prog Tryd.f115 k) (argF [s0, f1]) w = T115 k s0 f1 w := by kernel_rfl
theorem c115 {k : KV} {s0 : Value} {f1 : Value} {w : World} (h : T115 k s0 f1 w) : Cl Tryd.prog 115 [s0, f1] w k :=
  Cl_of_K KD_sound mixed Tryd.func115 (by kernel_rfl) (by kernel_rfl) ((e115 k s0 f1 w).symm ▸ h)

/-- Function 116: almonry/bits.New. -/
def T116 (k : KV) (w : World) : Prop :=
  RunS Tryd.prog (Instr.build 155 #[]) w fun t1_1 w_2 =>
  New (Value.cells t1_1) 155 w_2 fun t2_3 w_4 =>
  k t2_3 w_4
theorem e116 (k : KV) (w : World) : K KD Tryd.prog 3 (fun j =>  []) (fun j =>  none) (Tryd.f116.body.getD .skip) (retQ Tryd.prog Tryd.f116 k) (argF []) w = T116 k  w := by kernel_rfl
theorem c116 {k : KV} {w : World} (h : T116 k  w) : Cl Tryd.prog 116 [] w k :=
  Cl_of_K KD_sound mixed Tryd.func116 (by kernel_rfl) (by kernel_rfl) ((e116 k  w).symm ▸ h)

/-- Function 117: (*almonry/bits.Writer).Num. -/
def T117 (k : KV) (wv0 : Value) (ns1 : Value) (w : World) : Prop :=
  Pu (binV (TypeDesc.pointer 155) .eql wv0 (Value.pointer none)) fun t7_1 =>
  IfB t7_1
    (k (.tuple #[]) w)
    (Pu (lenV ns1) fun t9_2 =>
  ∃ (I_3 : List Value → World → Prop) (m_4 : List Value → World → Nat), I_3 [(Value.int IntKind.i64 0)] w ∧
  ∀ (g_42 : Fr) (w_41 : World), ∀ t10_7 : Value, I_3 [t10_7] w_41 →
    (Pu (binV (TypeDesc.int IntKind.i64) .lss t10_7 t9_2) fun t11_43 =>
    IfB t11_43
      (Pu (ixV 1 ns1 t10_7) fun t12_44 =>
    Ld w_41 t12_44 fun t13_45 w_46 =>
    Pu (foldV0 max2V [t13_45, (Value.int IntKind.i64 0)]) fun t15_47 =>
    ∃ (I_48 : List Value → World → Prop) (m_49 : List Value → World → Nat), I_48 [t15_47] w_46 ∧
    ∀ (g_69 : Fr) (w_68 : World), ∀ n5_51 : Value, I_48 [n5_51] w_68 →
      (Pu (binV (TypeDesc.int IntKind.i64) .gtr n5_51 (Value.int IntKind.i64 127)) fun t17_70 =>
      IfB t17_70
        (Pu (nilV wv0) fun t22_71 =>
      Pu (faV 0 t22_71) fun t23_72 =>
      Ld w_68 t23_72 fun t24_73 w_74 =>
      Pu (cvI IntKind.u8 n5_51) fun t26_75 =>
      Pu (binV (TypeDesc.int IntKind.u8) .or t26_75 (Value.int IntKind.u8 128)) fun t27_76 =>
      RunS Tryd.prog (Instr.buildSlice 38 1 #[(0, t27_76)]) w_74 fun t28_77 w_78 =>
      RunS Tryd.prog (Builtin.append_ #[38, 38] 38 #[t24_73, t28_77]) w_78 fun t29_79 w_80 =>
      Pu (nilV wv0) fun t30_81 =>
      Pu (faV 0 t30_81) fun t31_82 =>
      St 1 w_80 t31_82 t29_79 fun u_83 w_84 =>
      Pu (binV (TypeDesc.int IntKind.i64) .shr n5_51 (Value.int IntKind.u64 7)) fun t19_85 =>
      I_48 [t19_85] w_84 ∧ m_49 [t19_85] w_84 < m_49 [n5_51] w_68)
        (Pu (nilV wv0) fun t34_86 =>
    Pu (faV 0 t34_86) fun t35_87 =>
    Ld w_68 t35_87 fun t36_88 w_89 =>
    Pu (cvI IntKind.u8 n5_51) fun t38_90 =>
    RunS Tryd.prog (Instr.buildSlice 38 1 #[(0, t38_90)]) w_89 fun t39_91 w_92 =>
    RunS Tryd.prog (Builtin.append_ #[38, 38] 38 #[t36_88, t39_91]) w_92 fun t40_93 w_94 =>
    Pu (nilV wv0) fun t41_95 =>
    Pu (faV 0 t41_95) fun t42_96 =>
    St 1 w_94 t42_96 t40_93 fun u_97 w_98 =>
    Pu (binV (TypeDesc.int IntKind.i64) .add t10_7 (Value.int IntKind.i64 1)) fun t43_99 =>
    I_3 [t43_99] w_98 ∧ m_4 [t43_99] w_98 < m_4 [t10_7] w_41)))
      (k (.tuple #[]) w_41)))
theorem e117 (k : KV) (wv0 : Value) (ns1 : Value) (w : World) : K KD Tryd.prog 44 (fun j => bif Nat.beq j 5 then [5] else bif Nat.beq j 2 then [10] else []) (fun j =>  none) (Tryd.f117.body.getD .skip) (retQ Tryd.prog Tryd.f117 k) (argF [wv0, ns1]) w = T117 k wv0 ns1 w := by kernel_rfl
theorem c117 {k : KV} {wv0 : Value} {ns1 : Value} {w : World} (h : T117 k wv0 ns1 w) : Cl Tryd.prog 117 [wv0, ns1] w k :=
  Cl_of_K KD_sound mixed Tryd.func117 (by kernel_rfl) (by kernel_rfl) ((e117 k wv0 ns1 w).symm ▸ h)

/-- Function 118: (*almonry/bits.Writer).Text. -/
def T118 (k : KV) (wv0 : Value) (s1 : Value) (w : World) : Prop :=
  Pu (binV (TypeDesc.pointer 155) .eql wv0 (Value.pointer none)) fun t5_1 =>
  IfB t5_1
    (k (.tuple #[]) w)
    (Pu (lenS s1) fun t8_2 =>
  RunS Tryd.prog (Instr.buildSlice 47 1 #[(0, t8_2)]) w fun t9_3 w_4 =>
  Cl Tryd.prog 117 [wv0, t9_3] w_4 fun t10_5 w_6 =>
  Pu (nilV wv0) fun t13_7 =>
  Pu (faV 0 t13_7) fun t14_8 =>
  Ld w_6 t14_8 fun t15_9 w_10 =>
  RunS Tryd.prog (Builtin.append_ #[38, 9] 38 #[t15_9, s1]) w_10 fun t17_11 w_12 =>
  Pu (nilV wv0) fun t18_13 =>
  Pu (faV 0 t18_13) fun t19_14 =>
  St 1 w_12 t19_14 t17_11 fun u_15 w_16 =>
  k (.tuple #[]) w_16)
theorem e118 (k : KV) (wv0 : Value) (s1 : Value) (w : World) : K KD Tryd.prog 20 (fun j =>  []) (fun j =>  none) (Tryd.f118.body.getD .skip) (retQ Tryd.prog Tryd.f118 k) (argF [wv0, s1]) w = T118 k wv0 s1 w := by kernel_rfl
theorem c118 {k : KV} {wv0 : Value} {s1 : Value} {w : World} (h : T118 k wv0 s1 w) : Cl Tryd.prog 118 [wv0, s1] w k :=
  Cl_of_K KD_sound mixed Tryd.func118 (by kernel_rfl) (by kernel_rfl) ((e118 k wv0 s1 w).symm ▸ h)

/-- Function 119: strings.TrimRight. -/
def T119 (k : KV) (s0 : Value) (cutset1 : Value) (w : World) : Prop :=
  Pu (binV TypeDesc.string .eql s0 (Value.string (ByteArray.mk #[]))) fun t8_1 =>
  Gd (isB false t8_1) (fun kk => kk cutset1 w) w fun t10_2 w_3 =>
  Gd (isB false t8_1) (fun kk => Pu (binV TypeDesc.string .eql t10_2 (Value.string (ByteArray.mk #[]))) fun vv => kk vv w_3) w_3 fun t11_4 w_5 =>
  Pu (pickV t8_1 (Value.bool true) t11_4) fun t12_6 =>
  IfB t12_6
    (k s0 w_5)
    (Pu (lenS cutset1) fun t15_7 =>
  Pu (binV (TypeDesc.int IntKind.i64) .eql t15_7 (Value.int IntKind.i64 1)) fun t16_8 =>
  Gd (isB true t16_8) (fun kk => kk cutset1 w_5) w_5 fun t18_9 w_10 =>
  Gd (isB true t16_8) (fun kk => Pu (ixS t18_9 (Value.int IntKind.i64 0)) fun vv => kk vv w_10) w_10 fun t19_11 w_12 =>
  Gd (isB true t16_8) (fun kk => Pu (binV (TypeDesc.int IntKind.u8) .lss t19_11 (Value.int IntKind.u8 128)) fun vv => kk vv w_12) w_12 fun t20_13 w_14 =>
  Pu (pickV t16_8 t20_13 (Value.bool false)) fun t21_15 =>
  IfB t21_15
    (Pu (ixS cutset1 (Value.int IntKind.i64 0)) fun t24_16 =>
      Cl Tryd.prog 81 [s0, t24_16] w_14 fun t25_17 w_18 =>
      k t25_17 w_18)
    (Cl Tryd.prog 82 [cutset1] w_14 fun t28_19 w_20 =>
  Pu (extV t28_19 0) fun t29_21 =>
  Pu (extV t28_19 1) fun t30_22 =>
  New #[(Value.bool false), (Value.bool false), (Value.bool false), (Value.bool false), (Value.bool false), (Value.bool false), (Value.bool false), (Value.bool false), (Value.bool false), (Value.bool false), (Value.bool false), (Value.bool false), (Value.bool false), (Value.bool false), (Value.bool false), (Value.bool false), (Value.bool false), (Value.bool false), (Value.bool false), (Value.bool false), (Value.bool false), (Value.bool false), (Value.bool false), (Value.bool false), (Value.bool false), (Value.bool false), (Value.bool false), (Value.bool false), (Value.bool false), (Value.bool false), (Value.bool false), (Value.bool false), (Value.bool false), (Value.bool false), (Value.bool false), (Value.bool false), (Value.bool false), (Value.bool false), (Value.bool false), (Value.bool false), (Value.bool false), (Value.bool false), (Value.bool false), (Value.bool false), (Value.bool false), (Value.bool false), (Value.bool false), (Value.bool false), (Value.bool false), (Value.bool false), (Value.bool false), (Value.bool false), (Value.bool false), (Value.bool false), (Value.bool false), (Value.bool false), (Value.bool false), (Value.bool false), (Value.bool false), (Value.bool false), (Value.bool false), (Value.bool false), (Value.bool false), (Value.bool false), (Value.bool false), (Value.bool false), (Value.bool false), (Value.bool false), (Value.bool false), (Value.bool false), (Value.bool false), (Value.bool false), (Value.bool false), (Value.bool false), (Value.bool false), (Value.bool false), (Value.bool false), (Value.bool false), (Value.bool false), (Value.bool false), (Value.bool false), (Value.bool false), (Value.bool false), (Value.bool false), (Value.bool false), (Value.bool false), (Value.bool false), (Value.bool false), (Value.bool false), (Value.bool false), (Value.bool false), (Value.bool false), (Value.bool false), (Value.bool false), (Value.bool false), (Value.bool false), (Value.bool false), (Value.bool false), (Value.bool false), (Value.bool false), (Value.bool false), (Value.bool false), (Value.bool false), (Value.bool false), (Value.bool false), (Value.bool false), (Value.bool false), (Value.bool false), (Value.bool false), (Value.bool false), (Value.bool false), (Value.bool false), (Value.bool false), (Value.bool false), (Value.bool false), (Value.bool false), (Value.bool false), (Value.bool false), (Value.bool false), (Value.bool false), (Value.bool false), (Value.bool false), (Value.bool false), (Value.bool false), (Value.bool false), (Value.bool false), (Value.bool false), (Value.bool false), (Value.bool false), (Value.bool false), (Value.bool false), (Value.bool false), (Value.bool false), (Value.bool false), (Value.bool false), (Value.bool false), (Value.bool false), (Value.bool false), (Value.bool false), (Value.bool false), (Value.bool false), (Value.bool false), (Value.bool false), (Value.bool false), (Value.bool false), (Value.bool false), (Value.bool false), (Value.bool false), (Value.bool false), (Value.bool false), (Value.bool false), (Value.bool false), (Value.bool false), (Value.bool false), (Value.bool false), (Value.bool false), (Value.bool false), (Value.bool false), (Value.bool false), (Value.bool false), (Value.bool false), (Value.bool false), (Value.bool false), (Value.bool false), (Value.bool false), (Value.bool false), (Value.bool false), (Value.bool false), (Value.bool false), (Value.bool false), (Value.bool false), (Value.bool false), (Value.bool false), (Value.bool false), (Value.bool false), (Value.bool false), (Value.bool false), (Value.bool false), (Value.bool false), (Value.bool false), (Value.bool false), (Value.bool false), (Value.bool false), (Value.bool false), (Value.bool false), (Value.bool false), (Value.bool false), (Value.bool false), (Value.bool false), (Value.bool false), (Value.bool false), (Value.bool false), (Value.bool false), (Value.bool false), (Value.bool false), (Value.bool false), (Value.bool false), (Value.bool false), (Value.bool false), (Value.bool false), (Value.bool false), (Value.bool false), (Value.bool false), (Value.bool false), (Value.bool false), (Value.bool false), (Value.bool false), (Value.bool false), (Value.bool false), (Value.bool false), (Value.bool false), (Value.bool false), (Value.bool false), (Value.bool false), (Value.bool false), (Value.bool false), (Value.bool false), (Value.bool false), (Value.bool false), (Value.bool false), (Value.bool false), (Value.bool false), (Value.bool false), (Value.bool false), (Value.bool false), (Value.bool false), (Value.bool false), (Value.bool false), (Value.bool false), (Value.bool false), (Value.bool false), (Value.bool false), (Value.bool false), (Value.bool false), (Value.bool false), (Value.bool false), (Value.bool false), (Value.bool false), (Value.bool false), (Value.bool false), (Value.bool false), (Value.bool false), (Value.bool false), (Value.bool false), (Value.bool false), (Value.bool false), (Value.bool false), (Value.bool false), (Value.bool false), (Value.bool false), (Value.bool false), (Value.bool false), (Value.bool false), (Value.bool false), (Value.bool false), (Value.bool false)] 113 w_20 fun as5_23 w_24 =>
  St 256 w_24 as5_23 t29_21 fun u_25 w_26 =>
  IfB t30_22
    (Cl Tryd.prog 84 [s0, as5_23] w_26 fun t33_27 w_28 =>
      k t33_27 w_28)
    (Cl Tryd.prog 86 [s0, cutset1] w_26 fun t36_29 w_30 =>
  k t36_29 w_30)))
theorem e119 (k : KV) (s0 : Value) (cutset1 : Value) (w : World) : K KD Tryd.prog 37 (fun j =>  []) (fun j =>  none) (Tryd.f119.body.getD .skip) (retQ Tryd.prog Tryd.f119 k) (argF [s0, cutset1]) w = T119 k s0 cutset1 w := by kernel_rfl
theorem c119 {k : KV} {s0 : Value} {cutset1 : Value} {w : World} (h : T119 k s0 cutset1 w) : Cl Tryd.prog 119 [s0, cutset1] w k :=
  Cl_of_K KD_sound mixed Tryd.func119 (by kernel_rfl) (by kernel_rfl) ((e119 k s0 cutset1 w).symm ▸ h)

/-- Function 120: (*almonry/bits.Writer).Bytes. -/
def T120 (k : KV) (wv0 : Value) (w : World) : Prop :=
  Pu (binV (TypeDesc.pointer 155) .eql wv0 (Value.pointer none)) fun t4_1 =>
  IfB t4_1
    (k (Value.string (ByteArray.mk #[])) w)
    (Pu (nilV wv0) fun t6_2 =>
  Pu (faV 0 t6_2) fun t7_3 =>
  Ld w t7_3 fun t8_4 w_5 =>
  RunS Tryd.prog (convert 38 9 t8_4) w_5 fun t9_6 w_7 =>
  k t9_6 w_7)
theorem e120 (k : KV) (wv0 : Value) (w : World) : K KD Tryd.prog 10 (fun j =>  []) (fun j =>  none) (Tryd.f120.body.getD .skip) (retQ Tryd.prog Tryd.f120 k) (argF [wv0]) w = T120 k wv0 w := by kernel_rfl
theorem c120 {k : KV} {wv0 : Value} {w : World} (h : T120 k wv0 w) : Cl Tryd.prog 120 [wv0] w k :=
  Cl_of_K KD_sound mixed Tryd.func120 (by kernel_rfl) (by kernel_rfl) ((e120 k wv0 w).symm ▸ h)

/-- Function 121: (*almonry/bits.Reader).fail. -/
def T121 (k : KV) (r0 : Value) (e1 : Value) (w : World) : Prop :=
  Pu (nilV r0) fun t8_1 =>
  Pu (faV 0 t8_1) fun t9_2 =>
  St 1 w t9_2 (Value.string (ByteArray.mk #[])) fun u_3 w_4 =>
  Pu (nilV r0) fun t10_5 =>
  Pu (faV 1 t10_5) fun t11_6 =>
  St 1 w_4 t11_6 e1 fun u_7 w_8 =>
  k (Value.int IntKind.i64 0) w_8
theorem e121 (k : KV) (r0 : Value) (e1 : Value) (w : World) : K KD Tryd.prog 12 (fun j =>  []) (fun j =>  none) (Tryd.f121.body.getD .skip) (retQ Tryd.prog Tryd.f121 k) (argF [r0, e1]) w = T121 k r0 e1 w := by kernel_rfl
theorem c121 {k : KV} {r0 : Value} {e1 : Value} {w : World} (h : T121 k r0 e1 w) : Cl Tryd.prog 121 [r0, e1] w k :=
  Cl_of_K KD_sound mixed Tryd.func121 (by kernel_rfl) (by kernel_rfl) ((e121 k r0 e1 w).symm ▸ h)

/-- Function 122: (*almonry/bits.Reader).Left. -/
def T122 (k : KV) (r0 : Value) (w : World) : Prop :=
  Pu (binV (TypeDesc.pointer 149) .eql r0 (Value.pointer none)) fun t4_1 =>
  IfB t4_1
    (k (Value.int IntKind.i64 0) w)
    (Pu (nilV r0) fun t6_2 =>
  Pu (faV 0 t6_2) fun t7_3 =>
  Ld w t7_3 fun t8_4 w_5 =>
  Pu (lenS t8_4) fun t9_6 =>
  k t9_6 w_5)
theorem e122 (k : KV) (r0 : Value) (w : World) : K KD Tryd.prog 10 (fun j =>  []) (fun j =>  none) (Tryd.f122.body.getD .skip) (retQ Tryd.prog Tryd.f122 k) (argF [r0]) w = T122 k r0 w := by kernel_rfl
theorem c122 {k : KV} {r0 : Value} {w : World} (h : T122 k r0 w) : Cl Tryd.prog 122 [r0] w k :=
  Cl_of_K KD_sound mixed Tryd.func122 (by kernel_rfl) (by kernel_rfl) ((e122 k r0 w).symm ▸ h)

end Go.Proofs.YtodnakepbdhfkaaDoor
