/- Laid for one claim by slim.py out of: CpsQR PgREnc AlOut RcRef1 RcRef2 RcRef3 RcRef5 RcRd RcOut RcDecS RcNum RcTxt. -/
import Derived.Test.YthbngnlmgplijaaGreatDoorRDeC
namespace Go.Proofs.YthbngnlmgplijaaGreatDoor
open Go.Al Go.Proofs
set_option maxRecDepth 100000
set_option linter.unusedVariables false
set_option linter.unusedSimpArgs false
/-- Function 3: almonry/almonrylaw04.RecDecodes. -/
def T3 (k : KV) (data0 : Value) (w : World) : Prop :=
  Cl Tryz.prog 13 [data0] w fun t15_1 w_2 =>
  Pu (extV t15_1 0) fun t16_3 =>
  Pu (extV t15_1 1) fun t17_4 =>
  Pu (extV t15_1 2) fun t18_5 =>
  New #[(Value.int IntKind.i64 0), (Value.int IntKind.i64 0), (Value.int IntKind.i64 0), (Value.int IntKind.u8 0), (Value.int IntKind.i64 0), (Value.int IntKind.i64 0), (Value.int IntKind.i64 0), (Value.int IntKind.i64 0), (Value.int IntKind.i64 0), (Value.int IntKind.i64 0), (Value.string (ByteArray.mk #[])), (Value.slice none 0 0), (Value.slice none 0 0), (Value.slice none 0 0), (Value.slice none 0 0), (Value.slice none 0 0)] 28 w_2 fun a3_6 w_7 =>
  St 16 w_7 a3_6 t16_3 fun u_8 w_9 =>
  Cl Tryz.prog 14 [data0] w_9 fun t21_10 w_11 =>
  Pu (extV t21_10 0) fun t22_12 =>
  Pu (extV t21_10 1) fun t23_13 =>
  Pu (extV t21_10 2) fun t24_14 =>
  New #[(Value.int IntKind.i64 0), (Value.int IntKind.i64 0), (Value.int IntKind.i64 0), (Value.int IntKind.u8 0), (Value.int IntKind.i64 0), (Value.int IntKind.i64 0), (Value.int IntKind.i64 0), (Value.int IntKind.i64 0), (Value.int IntKind.i64 0), (Value.int IntKind.i64 0), (Value.string (ByteArray.mk #[])), (Value.slice none 0 0), (Value.slice none 0 0), (Value.slice none 0 0), (Value.slice none 0 0), (Value.slice none 0 0)] 28 w_11 fun b6_15 w_16 =>
  St 16 w_16 b6_15 t22_12 fun u_17 w_18 =>
  Pu (binV (TypeDesc.int IntKind.i64) .neq t17_4 t23_13) fun t27_19 =>
  Gd (isB false t27_19) (fun kk => kk t18_5 w_18) w_18 fun t29_20 w_21 =>
  Gd (isB false t27_19) (fun kk => kk t24_14 w_21) w_21 fun t30_22 w_23 =>
  Gd (isB false t27_19) (fun kk => Pu (binV (TypeDesc.int IntKind.i64) .neq t29_20 t30_22) fun vv => kk vv w_23) w_23 fun t31_24 w_25 =>
  Pu (pickV t27_19 (Value.bool true) t31_24) fun t32_26 =>
  Gd (isB false t32_26) (fun kk => LdN 16 w_25 a3_6 kk) w_25 fun t34_27 w_28 =>
  Gd (isB false t32_26) (fun kk => LdN 16 w_28 b6_15 kk) w_28 fun t35_29 w_30 =>
  Gd (isB false t32_26) (fun kk => Cl Tryz.prog 15 [t34_27, t35_29] w_30 kk) w_30 fun t36_31 w_32 =>
  Gd (isB false t32_26) (fun kk => Pu (unV .not t36_31) fun vv => kk vv w_32) w_32 fun t37_33 w_34 =>
  Pu (pickV t32_26 (Value.bool true) t37_33) fun t38_35 =>
  IfB t38_35
    (k (Value.bool false) w_34)
    (∃ (I_36 : List Value → World → Prop) (m_37 : List Value → World → Nat), I_36 [(Value.int IntKind.i64 0)] w_34 ∧
  ∀ (g_52 : Fr) (w_51 : World), ∀ i9_39 : Value, I_36 [i9_39] w_51 →
    (Pu (faV 11 a3_6) fun t40_53 =>
    Ld w_51 t40_53 fun t41_54 w_55 =>
    Pu (lenV t41_54) fun t42_56 =>
    Pu (binV (TypeDesc.int IntKind.i64) .lss i9_39 t42_56) fun t43_57 =>
    IfB t43_57
      (Pu (faV 11 a3_6) fun t46_58 =>
    Ld w_55 t46_58 fun t47_59 w_60 =>
    Pu (ixV 1 t47_59 i9_39) fun t49_61 =>
    St 1 w_60 t49_61 (Value.int IntKind.i64 (-1)) fun u_62 w_63 =>
    Pu (binV (TypeDesc.int IntKind.i64) .add i9_39 (Value.int IntKind.i64 1)) fun t45_64 =>
    I_36 [t45_64] w_63 ∧ m_37 [t45_64] w_63 < m_37 [i9_39] w_51)
      (Cl Tryz.prog 13 [data0] w_55 fun t52_65 w_66 =>
  Pu (extV t52_65 0) fun t53_67 =>
  Pu (extV t52_65 1) fun t54_68 =>
  Pu (extV t52_65 2) fun t55_69 =>
  New #[(Value.int IntKind.i64 0), (Value.int IntKind.i64 0), (Value.int IntKind.i64 0), (Value.int IntKind.u8 0), (Value.int IntKind.i64 0), (Value.int IntKind.i64 0), (Value.int IntKind.i64 0), (Value.int IntKind.i64 0), (Value.int IntKind.i64 0), (Value.int IntKind.i64 0), (Value.string (ByteArray.mk #[])), (Value.slice none 0 0), (Value.slice none 0 0), (Value.slice none 0 0), (Value.slice none 0 0), (Value.slice none 0 0)] 28 w_66 fun c10_70 w_71 =>
  St 16 w_71 c10_70 t53_67 fun u_72 w_73 =>
  LdN 16 w_73 c10_70 fun t56_74 w_75 =>
  LdN 16 w_75 b6_15 fun t57_76 w_77 =>
  Cl Tryz.prog 15 [t56_74, t57_76] w_77 fun t58_78 w_79 =>
  Gd (isB true t58_78) (fun kk => Cl Tryz.prog 16 [] w_79 kk) w_79 fun t60_80 w_81 =>
  Pu (pickV t58_78 t60_80 (Value.bool false)) fun t61_82 =>
  k t61_82 w_81)))
theorem e3 (k : KV) (data0 : Value) (w : World) : K KD Tryz.prog 62 (fun j => bif Nat.beq j 6 then [9] else []) (fun j =>  none) (Tryz.f3.body.getD .skip) (retQ Tryz.prog Tryz.f3 k) (argF [data0]) w = T3 k data0 w := by kernel_rfl
theorem c3 {k : KV} {data0 : Value} {w : World} (h : T3 k data0 w) : Cl Tryz.prog 3 [data0] w k :=
  Cl_of_K KD_sound mixed Tryz.func3 (by kernel_rfl) (by kernel_rfl) ((e3 k data0 w).symm ▸ h)

/-- Function 14: almonry/almonryref04.Decode. -/
def T14 (k : KV) (data0 : Value) (w : World) : Prop :=
  New #[(Value.int IntKind.i64 0), (Value.int IntKind.i64 0), (Value.int IntKind.i64 0), (Value.int IntKind.u8 0), (Value.int IntKind.i64 0), (Value.int IntKind.i64 0), (Value.int IntKind.i64 0), (Value.int IntKind.i64 0), (Value.int IntKind.i64 0), (Value.int IntKind.i64 0), (Value.string (ByteArray.mk #[])), (Value.slice none 0 0), (Value.slice none 0 0), (Value.slice none 0 0), (Value.slice none 0 0), (Value.slice none 0 0)] 28 w fun t2_1 w_2 =>
  Pu (lenS data0) fun t10_3 =>
  Pu (binV (TypeDesc.int IntKind.i64) .lss t10_3 (Value.int IntKind.i64 8)) fun t11_4 =>
  IfB t11_4
    (RunS Tryz.prog (Instr.build 28 #[]) w_2 fun t12_5 w_6 =>
      St 16 w_6 t2_1 t12_5 fun u_7 w_8 =>
      RetO (resL Tryz.prog (fun j => bif Nat.beq j 2 then t2_1 else bif Nat.beq j 3 then (Value.int IntKind.i64 0) else bif Nat.beq j 4 then (Value.int IntKind.i64 40) else undef) w_8 [(ResultVar.cell 2 28), (ResultVar.tmp 3), (ResultVar.tmp 4)]) w_8 k)
    (Pu (slS data0 none (some (Value.int IntKind.i64 4))) fun t14_9 =>
  Cl Tryz.prog 83 [t14_9] w_2 fun t15_10 w_11 =>
  Pu (binV (TypeDesc.int IntKind.i64) .lss t15_10 (Value.int IntKind.i64 1)) fun t17_12 =>
  Gd (isB false t17_12) (fun kk => kk t15_10 w_11) w_11 fun t19_13 w_14 =>
  Gd (isB false t17_12) (fun kk => Pu (binV (TypeDesc.int IntKind.i64) .gtr t19_13 (Value.int IntKind.i64 65535)) fun vv => kk vv w_14) w_14 fun t20_15 w_16 =>
  Pu (pickV t17_12 (Value.bool true) t20_15) fun t21_17 =>
  IfB t21_17
    (RunS Tryz.prog (Instr.build 28 #[]) w_16 fun t22_18 w_19 =>
      St 16 w_19 t2_1 t22_18 fun u_20 w_21 =>
      RetO (resL Tryz.prog (fun j => bif Nat.beq j 2 then t2_1 else bif Nat.beq j 3 then (Value.int IntKind.i64 0) else bif Nat.beq j 4 then (Value.int IntKind.i64 41) else undef) w_21 [(ResultVar.cell 2 28), (ResultVar.tmp 3), (ResultVar.tmp 4)]) w_21 k)
    (Pu (lenS data0) fun t24_22 =>
  Pu (binV (TypeDesc.int IntKind.i64) .sub t24_22 (Value.int IntKind.i64 8)) fun t25_23 =>
  Pu (binV (TypeDesc.int IntKind.i64) .lss t25_23 t15_10) fun t27_24 =>
  IfB t27_24
    (RunS Tryz.prog (Instr.build 28 #[]) w_16 fun t28_25 w_26 =>
      St 16 w_26 t2_1 t28_25 fun u_27 w_28 =>
      RetO (resL Tryz.prog (fun j => bif Nat.beq j 2 then t2_1 else bif Nat.beq j 3 then (Value.int IntKind.i64 0) else bif Nat.beq j 4 then (Value.int IntKind.i64 40) else undef) w_28 [(ResultVar.cell 2 28), (ResultVar.tmp 3), (ResultVar.tmp 4)]) w_28 k)
    (Pu (binV (TypeDesc.int IntKind.i64) .add (Value.int IntKind.i64 8) t15_10) fun t31_29 =>
  Pu (slS data0 (some (Value.int IntKind.i64 8)) (some t31_29)) fun t32_30 =>
  Pu (slS data0 (some (Value.int IntKind.i64 4)) (some (Value.int IntKind.i64 8))) fun t34_31 =>
  Cl Tryz.prog 83 [t34_31] w_16 fun t35_32 w_33 =>
  Cl Tryz.prog 84 [t32_30] w_33 fun t37_34 w_35 =>
  Pu (cvI IntKind.i64 t37_34) fun t38_36 =>
  Pu (binV (TypeDesc.int IntKind.i64) .neq t35_32 t38_36) fun t39_37 =>
  IfB t39_37
    (RunS Tryz.prog (Instr.build 28 #[]) w_35 fun t40_38 w_39 =>
      St 16 w_39 t2_1 t40_38 fun u_40 w_41 =>
      RetO (resL Tryz.prog (fun j => bif Nat.beq j 2 then t2_1 else bif Nat.beq j 3 then (Value.int IntKind.i64 0) else bif Nat.beq j 4 then (Value.int IntKind.i64 30) else undef) w_41 [(ResultVar.cell 2 28), (ResultVar.tmp 3), (ResultVar.tmp 4)]) w_41 k)
    (Cl Tryz.prog 85 [t32_30] w_35 fun t43_42 w_43 =>
  Pu (extV t43_42 0) fun t44_44 =>
  Pu (extV t43_42 1) fun t45_45 =>
  New #[(Value.int IntKind.i64 0), (Value.int IntKind.i64 0), (Value.int IntKind.i64 0), (Value.int IntKind.u8 0), (Value.int IntKind.i64 0), (Value.int IntKind.i64 0), (Value.int IntKind.i64 0), (Value.int IntKind.i64 0), (Value.int IntKind.i64 0), (Value.int IntKind.i64 0), (Value.string (ByteArray.mk #[])), (Value.slice none 0 0), (Value.slice none 0 0), (Value.slice none 0 0), (Value.slice none 0 0), (Value.slice none 0 0)] 28 w_43 fun r7_46 w_47 =>
  St 16 w_47 r7_46 t44_44 fun u_48 w_49 =>
  Pu (unV .not t45_45) fun t47_50 =>
  Gd (isB false t47_50) (fun kk => LdN 16 w_49 r7_46 kk) w_49 fun t49_51 w_52 =>
  Gd (isB false t47_50) (fun kk => Cl Tryz.prog 86 [t49_51] w_52 kk) w_52 fun t50_53 w_54 =>
  Gd (isB false t47_50) (fun kk => Pu (binV (TypeDesc.int IntKind.i64) .neq t50_53 (Value.int IntKind.i64 0)) fun vv => kk vv w_54) w_54 fun t51_55 w_56 =>
  Pu (pickV t47_50 (Value.bool true) t51_55) fun t52_57 =>
  Gd (isB false t52_57) (fun kk => LdN 16 w_56 r7_46 kk) w_56 fun t54_58 w_59 =>
  Gd (isB false t52_57) (fun kk => Cl Tryz.prog 87 [t54_58] w_59 kk) w_59 fun t55_60 w_61 =>
  Gd (isB false t52_57) (fun kk => kk t32_30 w_61) w_61 fun t56_62 w_63 =>
  Gd (isB false t52_57) (fun kk => Pu (binV TypeDesc.string .neq t55_60 t56_62) fun vv => kk vv w_63) w_63 fun t57_64 w_65 =>
  Pu (pickV t52_57 (Value.bool true) t57_64) fun t58_66 =>
  IfB t58_66
    (RunS Tryz.prog (Instr.build 28 #[]) w_65 fun t59_67 w_68 =>
      St 16 w_68 t2_1 t59_67 fun u_69 w_70 =>
      RetO (resL Tryz.prog (fun j => bif Nat.beq j 2 then t2_1 else bif Nat.beq j 3 then (Value.int IntKind.i64 0) else bif Nat.beq j 4 then (Value.int IntKind.i64 41) else undef) w_70 [(ResultVar.cell 2 28), (ResultVar.tmp 3), (ResultVar.tmp 4)]) w_70 k)
    (LdN 16 w_65 r7_46 fun t60_71 w_72 =>
  Pu (binV (TypeDesc.int IntKind.i64) .add (Value.int IntKind.i64 8) t15_10) fun t62_73 =>
  St 16 w_72 t2_1 t60_71 fun u_74 w_75 =>
  RetO (resL Tryz.prog (fun j => bif Nat.beq j 2 then t2_1 else bif Nat.beq j 3 then t62_73 else bif Nat.beq j 4 then (Value.int IntKind.i64 0) else undef) w_75 [(ResultVar.cell 2 28), (ResultVar.tmp 3), (ResultVar.tmp 4)]) w_75 k)))))
theorem e14 (k : KV) (data0 : Value) (w : World) : K KD Tryz.prog 63 (fun j =>  []) (fun j =>  none) (Tryz.f14.body.getD .skip) (retQ Tryz.prog Tryz.f14 k) (argF [data0]) w = T14 k data0 w := by kernel_rfl
theorem c14 {k : KV} {data0 : Value} {w : World} (h : T14 k data0 w) : Cl Tryz.prog 14 [data0] w k :=
  Cl_of_K KD_sound mixed Tryz.func14 (by kernel_rfl) (by kernel_rfl) ((e14 k data0 w).symm ▸ h)

/-- Function 85: almonry/almonryref04.taken. -/
def T85 (k : KV) (s0 : Value) (w : World) : Prop :=
  New #[(Value.int IntKind.i64 0), (Value.int IntKind.i64 0), (Value.int IntKind.i64 0), (Value.int IntKind.u8 0), (Value.int IntKind.i64 0), (Value.int IntKind.i64 0), (Value.int IntKind.i64 0), (Value.int IntKind.i64 0), (Value.int IntKind.i64 0), (Value.int IntKind.i64 0), (Value.string (ByteArray.mk #[])), (Value.slice none 0 0), (Value.slice none 0 0), (Value.slice none 0 0), (Value.slice none 0 0), (Value.slice none 0 0)] 28 w fun t2_1 w_2 =>
  RunS Tryz.prog (Instr.build 188 #[(0, s0)]) w_2 fun t15_3 w_4 =>
  New (Value.cells t15_3) 188 w_4 fun t16_5 w_6 =>
  New #[(Value.int IntKind.i64 0), (Value.int IntKind.i64 0), (Value.int IntKind.i64 0), (Value.int IntKind.u8 0), (Value.int IntKind.i64 0), (Value.int IntKind.i64 0), (Value.int IntKind.i64 0), (Value.int IntKind.i64 0), (Value.int IntKind.i64 0), (Value.int IntKind.i64 0), (Value.string (ByteArray.mk #[])), (Value.slice none 0 0), (Value.slice none 0 0), (Value.slice none 0 0), (Value.slice none 0 0), (Value.slice none 0 0)] 28 w_6 fun x5_7 w_8 =>
  Cl Tryz.prog 159 [t16_5, (Value.int IntKind.i64 4611686018427387904)] w_8 fun t18_9 w_10 =>
  Pu (faV 0 x5_7) fun t19_11 =>
  St 1 w_10 t19_11 t18_9 fun u_12 w_13 =>
  Cl Tryz.prog 159 [t16_5, (Value.int IntKind.i64 4611686018427387904)] w_13 fun t21_14 w_15 =>
  Pu (faV 1 x5_7) fun t22_16 =>
  St 1 w_15 t22_16 t21_14 fun u_17 w_18 =>
  Cl Tryz.prog 159 [t16_5, (Value.int IntKind.i64 4611686018427387904)] w_18 fun t24_19 w_20 =>
  Pu (faV 2 x5_7) fun t25_21 =>
  St 1 w_20 t25_21 t24_19 fun u_22 w_23 =>
  Cl Tryz.prog 159 [t16_5, (Value.int IntKind.i64 13)] w_23 fun t27_24 w_25 =>
  Pu (cvI IntKind.u8 t27_24) fun t28_26 =>
  Pu (faV 3 x5_7) fun t29_27 =>
  St 1 w_25 t29_27 t28_26 fun u_28 w_29 =>
  Cl Tryz.prog 159 [t16_5, (Value.int IntKind.i64 4611686018427387904)] w_29 fun t31_30 w_31 =>
  Pu (faV 4 x5_7) fun t32_32 =>
  St 1 w_31 t32_32 t31_30 fun u_33 w_34 =>
  Cl Tryz.prog 159 [t16_5, (Value.int IntKind.i64 4611686018427387904)] w_34 fun t34_35 w_36 =>
  Pu (faV 5 x5_7) fun t35_37 =>
  St 1 w_36 t35_37 t34_35 fun u_38 w_39 =>
  Cl Tryz.prog 159 [t16_5, (Value.int IntKind.i64 4611686018427387904)] w_39 fun t37_40 w_41 =>
  Pu (faV 6 x5_7) fun t38_42 =>
  St 1 w_41 t38_42 t37_40 fun u_43 w_44 =>
  Cl Tryz.prog 159 [t16_5, (Value.int IntKind.i64 4611686018427387904)] w_44 fun t40_45 w_46 =>
  Pu (faV 7 x5_7) fun t41_47 =>
  St 1 w_46 t41_47 t40_45 fun u_48 w_49 =>
  Cl Tryz.prog 159 [t16_5, (Value.int IntKind.i64 4611686018427387904)] w_49 fun t43_50 w_51 =>
  Pu (faV 8 x5_7) fun t44_52 =>
  St 1 w_51 t44_52 t43_50 fun u_53 w_54 =>
  Cl Tryz.prog 159 [t16_5, (Value.int IntKind.i64 4611686018427387904)] w_54 fun t46_55 w_56 =>
  Pu (faV 9 x5_7) fun t47_57 =>
  St 1 w_56 t47_57 t46_55 fun u_58 w_59 =>
  Cl Tryz.prog 160 [t16_5, (Value.int IntKind.i64 512)] w_59 fun t49_60 w_61 =>
  Pu (faV 10 x5_7) fun t50_62 =>
  St 1 w_61 t50_62 t49_60 fun u_63 w_64 =>
  Cl Tryz.prog 161 [t16_5, (Value.int IntKind.i64 255)] w_64 fun t52_65 w_66 =>
  Pu (faV 11 x5_7) fun t53_67 =>
  St 1 w_66 t53_67 t52_65 fun u_68 w_69 =>
  Cl Tryz.prog 161 [t16_5, (Value.int IntKind.i64 255)] w_69 fun t55_70 w_71 =>
  Pu (faV 12 x5_7) fun t56_72 =>
  St 1 w_71 t56_72 t55_70 fun u_73 w_74 =>
  Cl Tryz.prog 159 [t16_5, (Value.int IntKind.i64 4)] w_74 fun t58_75 w_76 =>
  ∃ (I_77 : List Value → World → Prop) (m_78 : List Value → World → Nat), I_77 [(Value.int IntKind.i64 0)] w_76 ∧
  ∀ (g_125 : Fr) (w_124 : World), ∀ i7_81 : Value, I_77 [i7_81] w_124 →
    (Pu (binV (TypeDesc.int IntKind.i64) .lss i7_81 t58_75) fun t61_126 =>
    Gd (isB true t61_126) (fun kk => kk t16_5 w_124) w_124 fun t63_127 w_128 =>
    Gd (isB true t61_126) (fun kk => Pu (nilV t63_127) fun vv => kk vv w_128) w_128 fun t64_129 w_130 =>
    Gd (isB true t61_126) (fun kk => Pu (faV 2 t64_129) fun vv => kk vv w_130) w_130 fun t65_131 w_132 =>
    Gd (isB true t61_126) (fun kk => Ld w_132 t65_131 kk) w_132 fun t66_133 w_134 =>
    Gd (isB true t61_126) (fun kk => Pu (binV (TypeDesc.int IntKind.i64) .eql t66_133 (Value.int IntKind.i64 0)) fun vv => kk vv w_134) w_134 fun t67_135 w_136 =>
    Pu (pickV t61_126 t67_135 (Value.bool false)) fun t68_137 =>
    IfB t68_137
      (Cl Tryz.prog 159 [t16_5, (Value.int IntKind.i64 4611686018427387904)] w_136 fun t72_138 w_139 =>
    Cl Tryz.prog 160 [t16_5, (Value.int IntKind.i64 512)] w_139 fun t74_140 w_141 =>
    Pu (lenS t74_140) fun t78_142 =>
    Pu (binV (TypeDesc.int IntKind.i64) .sub (Value.int IntKind.i64 512) t78_142) fun t79_143 =>
    RunS Tryz.prog (Instr.makeSlice 123 t79_143 t79_143) w_141 fun t80_144 w_145 =>
    RunS Tryz.prog (convert 123 9 t80_144) w_145 fun t81_146 w_147 =>
    Pu (binV TypeDesc.string .add t74_140 t81_146) fun t82_148 =>
    Cl Tryz.prog 127 [t82_148] w_147 fun t83_149 w_150 =>
    Pu (extV t83_149 0) fun t84_151 =>
    Pu (extV t83_149 1) fun t85_152 =>
    New #[(Value.int IntKind.i64 0), (Value.int IntKind.i64 0), (Value.int IntKind.i64 0), (Value.int IntKind.i64 0), (Value.string (ByteArray.mk #[])), (Value.slice none 0 0)] 61 w_150 fun p10_153 w_154 =>
    St 6 w_154 p10_153 t84_151 fun u_155 w_156 =>
    Pu (binV (TypeDesc.int IntKind.i64) .neq t85_152 (Value.int IntKind.i64 0)) fun t87_157 =>
    IfB t87_157
      (RunS Tryz.prog (Instr.build 28 #[]) w_156 fun t88_158 w_159 =>
        St 16 w_159 t2_1 t88_158 fun u_160 w_161 =>
        RetO (resL Tryz.prog (fun j => bif Nat.beq j 2 then t2_1 else bif Nat.beq j 3 then (Value.bool false) else undef) w_161 [(ResultVar.cell 2 28), (ResultVar.tmp 3)]) w_161 k)
      (Pu (faV 13 x5_7) fun t89_162 =>
    Ld w_156 t89_162 fun t90_163 w_164 =>
    LdN 6 w_164 p10_153 fun t92_165 w_166 =>
    RunS Tryz.prog (Instr.build 118 #[(0, t72_138), (1, t92_165)]) w_166 fun t93_167 w_168 =>
    RunS Tryz.prog (Instr.buildSlice 24 1 #[(0, t93_167)]) w_168 fun t94_169 w_170 =>
    RunS Tryz.prog (Builtin.append_ #[24, 24] 24 #[t90_163, t94_169]) w_170 fun t95_171 w_172 =>
    Pu (faV 13 x5_7) fun t96_173 =>
    St 1 w_172 t96_173 t95_171 fun u_174 w_175 =>
    Pu (binV (TypeDesc.int IntKind.i64) .add i7_81 (Value.int IntKind.i64 1)) fun t70_176 =>
    I_77 [t70_176] w_175 ∧ m_78 [t70_176] w_175 < m_78 [i7_81] w_124))
      (Cl Tryz.prog 159 [t16_5, (Value.int IntKind.i64 8192)] w_136 fun t98_177 w_178 =>
  ∃ (I_179 : List Value → World → Prop) (m_180 : List Value → World → Nat), I_179 [(Value.int IntKind.i64 0)] w_178 ∧
  ∀ (g_206 : Fr) (w_205 : World), ∀ i12_182 : Value, I_179 [i12_182] w_205 →
    (Pu (binV (TypeDesc.int IntKind.i64) .lss i12_182 t98_177) fun t101_207 =>
    Gd (isB true t101_207) (fun kk => kk t16_5 w_205) w_205 fun t103_208 w_209 =>
    Gd (isB true t101_207) (fun kk => Pu (nilV t103_208) fun vv => kk vv w_209) w_209 fun t104_210 w_211 =>
    Gd (isB true t101_207) (fun kk => Pu (faV 2 t104_210) fun vv => kk vv w_211) w_211 fun t105_212 w_213 =>
    Gd (isB true t101_207) (fun kk => Ld w_213 t105_212 kk) w_213 fun t106_214 w_215 =>
    Gd (isB true t101_207) (fun kk => Pu (binV (TypeDesc.int IntKind.i64) .eql t106_214 (Value.int IntKind.i64 0)) fun vv => kk vv w_215) w_215 fun t107_216 w_217 =>
    Pu (pickV t101_207 t107_216 (Value.bool false)) fun t108_218 =>
    IfB t108_218
      (∃ C_219 : World → Prop, C_219 (World.drew w_217) ∧
    (Pu (faV 14 x5_7) fun t111_220 =>
    ∃ t112_221, (∀ w_222, C_219 w_222 → Ld w_222 t111_220 fun t112_223 w_224 =>
    t112_223 = t112_221 ∧ w_224 = w_222) ∧
    (Cl Tryz.prog 159 [t16_5, (Value.int IntKind.i64 4611686018427387904)] (World.drew w_217) fun t114_225 w_226 =>
    C_219 w_226 ∧
    (Cl Tryz.prog 159 [t16_5, (Value.int IntKind.i64 4611686018427387904)] w_226 fun t116_227 w_228 =>
    C_219 w_228 ∧
    (RunS Tryz.prog (Instr.build 120 #[(0, t114_225), (1, t116_227)]) w_228 fun t117_229 w_230 =>
    w_230 = w_228 ∧
    RunS Tryz.prog (Instr.buildSlice 25 1 #[(0, t117_229)]) w_228 fun t118_231 w_232 =>
    C_219 w_232 ∧
    (RunS Tryz.prog (Builtin.append_ #[25, 25] 25 #[t112_221, t118_231]) w_232 fun t119_233 w_234 =>
    Pu (faV 14 x5_7) fun t120_235 =>
    St 1 w_234 t120_235 t119_233 fun u_236 w_237 =>
    Pu (binV (TypeDesc.int IntKind.i64) .add i12_182 (Value.int IntKind.i64 1)) fun t110_238 =>
    I_179 [t110_238] w_237 ∧ m_180 [t110_238] w_237 < m_180 [i12_182] w_205))))))
      (Cl Tryz.prog 159 [t16_5, (Value.int IntKind.i64 1024)] w_217 fun t122_239 w_240 =>
  ∃ (I_241 : List Value → World → Prop) (m_242 : List Value → World → Nat), I_241 [(Value.int IntKind.i64 0)] w_240 ∧
  ∀ (g_268 : Fr) (w_267 : World), ∀ i13_244 : Value, I_241 [i13_244] w_267 →
    (Pu (binV (TypeDesc.int IntKind.i64) .lss i13_244 t122_239) fun t125_269 =>
    Gd (isB true t125_269) (fun kk => kk t16_5 w_267) w_267 fun t127_270 w_271 =>
    Gd (isB true t125_269) (fun kk => Pu (nilV t127_270) fun vv => kk vv w_271) w_271 fun t128_272 w_273 =>
    Gd (isB true t125_269) (fun kk => Pu (faV 2 t128_272) fun vv => kk vv w_273) w_273 fun t129_274 w_275 =>
    Gd (isB true t125_269) (fun kk => Ld w_275 t129_274 kk) w_275 fun t130_276 w_277 =>
    Gd (isB true t125_269) (fun kk => Pu (binV (TypeDesc.int IntKind.i64) .eql t130_276 (Value.int IntKind.i64 0)) fun vv => kk vv w_277) w_277 fun t131_278 w_279 =>
    Pu (pickV t125_269 t131_278 (Value.bool false)) fun t132_280 =>
    IfB t132_280
      (∃ C_281 : World → Prop, C_281 (World.drew w_279) ∧
    (Pu (faV 15 x5_7) fun t135_282 =>
    ∃ t136_283, (∀ w_284, C_281 w_284 → Ld w_284 t135_282 fun t136_285 w_286 =>
    t136_285 = t136_283 ∧ w_286 = w_284) ∧
    (Cl Tryz.prog 159 [t16_5, (Value.int IntKind.i64 4611686018427387904)] (World.drew w_279) fun t138_287 w_288 =>
    C_281 w_288 ∧
    (Cl Tryz.prog 159 [t16_5, (Value.int IntKind.i64 4611686018427387904)] w_288 fun t140_289 w_290 =>
    C_281 w_290 ∧
    (RunS Tryz.prog (Instr.build 122 #[(0, t138_287), (1, t140_289)]) w_290 fun t141_291 w_292 =>
    w_292 = w_290 ∧
    RunS Tryz.prog (Instr.buildSlice 26 1 #[(0, t141_291)]) w_290 fun t142_293 w_294 =>
    C_281 w_294 ∧
    (RunS Tryz.prog (Builtin.append_ #[26, 26] 26 #[t136_283, t142_293]) w_294 fun t143_295 w_296 =>
    Pu (faV 15 x5_7) fun t144_297 =>
    St 1 w_296 t144_297 t143_295 fun u_298 w_299 =>
    Pu (binV (TypeDesc.int IntKind.i64) .add i13_244 (Value.int IntKind.i64 1)) fun t134_300 =>
    I_241 [t134_300] w_299 ∧ m_242 [t134_300] w_299 < m_242 [i13_244] w_267))))))
      (∃ C_301 : World → Prop, C_301 (World.drew w_279) ∧
  (∃ t145_302, (∀ w_303, C_301 w_303 → LdN 16 w_303 x5_7 fun t145_304 w_305 =>
  t145_304 = t145_302 ∧ w_305 = w_303) ∧
  (Cl Tryz.prog 162 [t16_5] (World.drew w_279) fun t147_306 w_307 =>
  C_301 w_307 ∧
  (Pu (binV (TypeDesc.int IntKind.i64) .eql t147_306 (Value.int IntKind.i64 0)) fun t148_308 =>
  St 16 w_307 t2_1 t145_302 fun u_309 w_310 =>
  RetO (resL Tryz.prog (fun j => bif Nat.beq j 2 then t2_1 else bif Nat.beq j 3 then t148_308 else undef) w_310 [(ResultVar.cell 2 28), (ResultVar.tmp 3)]) w_310 k)))))))))
theorem e85 (k : KV) (s0 : Value) (w : World) : K KD Tryz.prog 149 (fun j => bif Nat.beq j 33 then [13] else bif Nat.beq j 28 then [12] else bif Nat.beq j 18 then [7] else []) (fun j =>  none) (Tryz.f85.body.getD .skip) (retQ Tryz.prog Tryz.f85 k) (argF [s0]) w = T85 k s0 w := by kernel_rfl
theorem c85 {k : KV} {s0 : Value} {w : World} (h : T85 k s0 w) : Cl Tryz.prog 85 [s0] w k :=
  Cl_of_K KD_sound mixed Tryz.func85 (by kernel_rfl) (by kernel_rfl) ((e85 k s0 w).symm ▸ h)

/-- Function 86: almonry/almonryref04.Check. -/
def T86 (k : KV) (r0 : Value) (w : World) : Prop :=
  New (Value.cells r0) 28 w fun r1_1 w_2 =>
  Pu (faV 3 r1_1) fun t6_3 =>
  Ld w_2 t6_3 fun t7_4 w_5 =>
  Pu (binV (TypeDesc.int IntKind.u8) .lss t7_4 (Value.int IntKind.u8 1)) fun t8_6 =>
  Gd (isB false t8_6) (fun kk => Pu (faV 3 r1_1) fun vv => kk vv w_5) w_5 fun t10_7 w_8 =>
  Gd (isB false t8_6) (fun kk => Ld w_8 t10_7 kk) w_8 fun t11_9 w_10 =>
  Gd (isB false t8_6) (fun kk => Pu (binV (TypeDesc.int IntKind.u8) .gtr t11_9 (Value.int IntKind.u8 13)) fun vv => kk vv w_10) w_10 fun t12_11 w_12 =>
  Pu (pickV t8_6 (Value.bool true) t12_11) fun t13_13 =>
  IfB t13_13
    (k (Value.int IntKind.i64 41) w_12)
    (LdN 16 w_12 r1_1 fun t14_14 w_15 =>
  Cl Tryz.prog 163 [t14_14] w_15 fun t15_16 w_17 =>
  Pu (unV .not t15_16) fun t16_18 =>
  IfB t16_18
    (k (Value.int IntKind.i64 4) w_17)
    (Pu (faV 10 r1_1) fun t17_19 =>
  Ld w_17 t17_19 fun t18_20 w_21 =>
  Pu (lenS t18_20) fun t19_22 =>
  Pu (binV (TypeDesc.int IntKind.i64) .gtr t19_22 (Value.int IntKind.i64 512)) fun t20_23 =>
  Gd (isB false t20_23) (fun kk => Pu (faV 11 r1_1) fun vv => kk vv w_21) w_21 fun t22_24 w_25 =>
  Gd (isB false t20_23) (fun kk => Ld w_25 t22_24 kk) w_25 fun t23_26 w_27 =>
  Gd (isB false t20_23) (fun kk => Pu (lenV t23_26) fun vv => kk vv w_27) w_27 fun t24_28 w_29 =>
  Gd (isB false t20_23) (fun kk => Pu (binV (TypeDesc.int IntKind.i64) .gtr t24_28 (Value.int IntKind.i64 255)) fun vv => kk vv w_29) w_29 fun t25_30 w_31 =>
  Pu (pickV t20_23 (Value.bool true) t25_30) fun t26_32 =>
  Gd (isB false t26_32) (fun kk => Pu (faV 12 r1_1) fun vv => kk vv w_31) w_31 fun t28_33 w_34 =>
  Gd (isB false t26_32) (fun kk => Ld w_34 t28_33 kk) w_34 fun t29_35 w_36 =>
  Gd (isB false t26_32) (fun kk => Pu (lenV t29_35) fun vv => kk vv w_36) w_36 fun t30_37 w_38 =>
  Gd (isB false t26_32) (fun kk => Pu (binV (TypeDesc.int IntKind.i64) .gtr t30_37 (Value.int IntKind.i64 255)) fun vv => kk vv w_38) w_38 fun t31_39 w_40 =>
  Pu (pickV t26_32 (Value.bool true) t31_39) fun t32_41 =>
  Gd (isB false t32_41) (fun kk => Pu (faV 13 r1_1) fun vv => kk vv w_40) w_40 fun t34_42 w_43 =>
  Gd (isB false t32_41) (fun kk => Ld w_43 t34_42 kk) w_43 fun t35_44 w_45 =>
  Gd (isB false t32_41) (fun kk => Pu (lenV t35_44) fun vv => kk vv w_45) w_45 fun t36_46 w_47 =>
  Gd (isB false t32_41) (fun kk => Pu (binV (TypeDesc.int IntKind.i64) .gtr t36_46 (Value.int IntKind.i64 4)) fun vv => kk vv w_47) w_47 fun t37_48 w_49 =>
  Pu (pickV t32_41 (Value.bool true) t37_48) fun t38_50 =>
  Gd (isB false t38_50) (fun kk => Pu (faV 14 r1_1) fun vv => kk vv w_49) w_49 fun t40_51 w_52 =>
  Gd (isB false t38_50) (fun kk => Ld w_52 t40_51 kk) w_52 fun t41_53 w_54 =>
  Gd (isB false t38_50) (fun kk => Pu (lenV t41_53) fun vv => kk vv w_54) w_54 fun t42_55 w_56 =>
  Gd (isB false t38_50) (fun kk => Pu (binV (TypeDesc.int IntKind.i64) .gtr t42_55 (Value.int IntKind.i64 8192)) fun vv => kk vv w_56) w_56 fun t43_57 w_58 =>
  Pu (pickV t38_50 (Value.bool true) t43_57) fun t44_59 =>
  Gd (isB false t44_59) (fun kk => Pu (faV 15 r1_1) fun vv => kk vv w_58) w_58 fun t46_60 w_61 =>
  Gd (isB false t44_59) (fun kk => Ld w_61 t46_60 kk) w_61 fun t47_62 w_63 =>
  Gd (isB false t44_59) (fun kk => Pu (lenV t47_62) fun vv => kk vv w_63) w_63 fun t48_64 w_65 =>
  Gd (isB false t44_59) (fun kk => Pu (binV (TypeDesc.int IntKind.i64) .gtr t48_64 (Value.int IntKind.i64 1024)) fun vv => kk vv w_65) w_65 fun t49_66 w_67 =>
  Pu (pickV t44_59 (Value.bool true) t49_66) fun t50_68 =>
  IfB t50_68
    (k (Value.int IntKind.i64 3) w_67)
    (∃ (I_69 : List Value → World → Prop) (m_70 : List Value → World → Nat), I_69 [(Value.int IntKind.i64 0)] w_67 ∧
  ∀ (g_97 : Fr) (w_96 : World), ∀ i3_73 : Value, I_69 [i3_73] w_96 →
    (Pu (faV 13 r1_1) fun t52_98 =>
    Ld w_96 t52_98 fun t53_99 w_100 =>
    Pu (lenV t53_99) fun t54_101 =>
    Pu (binV (TypeDesc.int IntKind.i64) .lss i3_73 t54_101) fun t55_102 =>
    IfB t55_102
      (Pu (faV 13 r1_1) fun t59_103 =>
    Ld w_100 t59_103 fun t60_104 w_105 =>
    Pu (ixV 7 t60_104 i3_73) fun t62_106 =>
    Pu (faV 1 t62_106) fun t63_107 =>
    LdN 6 w_105 t63_107 fun t64_108 w_109 =>
    Cl Tryz.prog 132 [t64_108] w_109 fun t65_110 w_111 =>
    Pu (extV t65_110 0) fun t66_112 =>
    Pu (extV t65_110 1) fun t67_113 =>
    Pu (binV (TypeDesc.int IntKind.i64) .neq t67_113 (Value.int IntKind.i64 0)) fun t69_114 =>
    IfB t69_114
      (k t67_113 w_111)
      (Pu (binV (TypeDesc.int IntKind.i64) .add i3_73 (Value.int IntKind.i64 1)) fun t57_115 =>
    I_69 [t57_115] w_111 ∧ m_70 [t57_115] w_111 < m_70 [i3_73] w_96))
      (LdN 16 w_100 r1_1 fun t71_116 w_117 =>
  Cl Tryz.prog 87 [t71_116] w_117 fun t72_118 w_119 =>
  Pu (lenS t72_118) fun t73_120 =>
  Pu (binV (TypeDesc.int IntKind.i64) .gtr t73_120 (Value.int IntKind.i64 65535)) fun t74_121 =>
  IfB t74_121
    (k (Value.int IntKind.i64 3) w_119)
    (k (Value.int IntKind.i64 0) w_119))))))
theorem e86 (k : KV) (r0 : Value) (w : World) : K KD Tryz.prog 75 (fun j => bif Nat.beq j 8 then [3] else []) (fun j =>  none) (Tryz.f86.body.getD .skip) (retQ Tryz.prog Tryz.f86 k) (argF [r0]) w = T86 k r0 w := by kernel_rfl
theorem c86 {k : KV} {r0 : Value} {w : World} (h : T86 k r0 w) : Cl Tryz.prog 86 [r0] w k :=
  Cl_of_K KD_sound mixed Tryz.func86 (by kernel_rfl) (by kernel_rfl) ((e86 k r0 w).symm ▸ h)

/-- Function 87: almonry/almonryref04.body. -/
def T87 (k : KV) (r0 : Value) (w : World) : Prop :=
  New (Value.cells r0) 28 w fun r1_1 w_2 =>
  ∃ C_3 : World → Prop, C_3 (World.drew w_2) ∧
  (Pu (faV 0 r1_1) fun t7_4 =>
  Ld (World.drew w_2) t7_4 fun t8_5 w_6 =>
  w_6 = (World.drew w_2) ∧
  Pu (faV 1 r1_1) fun t9_7 =>
  Ld (World.drew w_2) t9_7 fun t10_8 w_9 =>
  w_9 = (World.drew w_2) ∧
  Pu (faV 2 r1_1) fun t11_10 =>
  Ld (World.drew w_2) t11_10 fun t12_11 w_12 =>
  w_12 = (World.drew w_2) ∧
  Pu (faV 3 r1_1) fun t13_13 =>
  Ld (World.drew w_2) t13_13 fun t14_14 w_15 =>
  w_15 = (World.drew w_2) ∧
  Pu (cvI IntKind.i64 t14_14) fun t15_16 =>
  Pu (faV 4 r1_1) fun t16_17 =>
  Ld (World.drew w_2) t16_17 fun t17_18 w_19 =>
  w_19 = (World.drew w_2) ∧
  Pu (faV 5 r1_1) fun t18_20 =>
  Ld (World.drew w_2) t18_20 fun t19_21 w_22 =>
  w_22 = (World.drew w_2) ∧
  Pu (faV 6 r1_1) fun t20_23 =>
  Ld (World.drew w_2) t20_23 fun t21_24 w_25 =>
  w_25 = (World.drew w_2) ∧
  Pu (faV 7 r1_1) fun t22_26 =>
  Ld (World.drew w_2) t22_26 fun t23_27 w_28 =>
  w_28 = (World.drew w_2) ∧
  Pu (faV 8 r1_1) fun t24_29 =>
  Ld (World.drew w_2) t24_29 fun t25_30 w_31 =>
  w_31 = (World.drew w_2) ∧
  Pu (faV 9 r1_1) fun t26_32 =>
  Ld (World.drew w_2) t26_32 fun t27_33 w_34 =>
  w_34 = (World.drew w_2) ∧
  Pu (faV 10 r1_1) fun t30_35 =>
  ∃ t31_36, (∀ w_37, C_3 w_37 → Ld w_37 t30_35 fun t31_38 w_39 =>
  t31_38 = t31_36 ∧ w_39 = w_37) ∧
  (RunS Tryz.prog (Instr.buildSlice 23 10 #[(0, t8_5), (1, t10_8), (2, t12_11), (3, t15_16), (4, t17_18), (5, t19_21), (6, t21_24), (7, t23_27), (8, t25_30), (9, t27_33)]) (World.drew w_2) fun t28_40 w_41 =>
  C_3 w_41 ∧
  (Cl Tryz.prog 164 [t28_40] w_41 fun t29_42 w_43 =>
  C_3 w_43 ∧
  (Cl Tryz.prog 165 [t31_36] w_43 fun t32_44 w_45 =>
  Pu (binV TypeDesc.string .add t29_42 t32_44) fun t33_46 =>
  RunS Tryz.prog (convert 9 123 t33_46) w_45 fun t34_47 w_48 =>
  Pu (faV 11 r1_1) fun t36_49 =>
  Ld w_48 t36_49 fun t37_50 w_51 =>
  Pu (lenV t37_50) fun t38_52 =>
  RunS Tryz.prog (Instr.buildSlice 23 1 #[(0, t38_52)]) w_51 fun t39_53 w_54 =>
  Cl Tryz.prog 164 [t39_53] w_54 fun t40_55 w_56 =>
  RunS Tryz.prog (Builtin.append_ #[123, 9] 123 #[t34_47, t40_55]) w_56 fun t41_57 w_58 =>
  Pu (faV 11 r1_1) fun t43_59 =>
  Ld w_58 t43_59 fun t44_60 w_61 =>
  Cl Tryz.prog 164 [t44_60] w_61 fun t45_62 w_63 =>
  RunS Tryz.prog (Builtin.append_ #[123, 9] 123 #[t41_57, t45_62]) w_63 fun t46_64 w_65 =>
  Pu (faV 12 r1_1) fun t48_66 =>
  Ld w_65 t48_66 fun t49_67 w_68 =>
  Pu (lenV t49_67) fun t50_69 =>
  RunS Tryz.prog (Instr.buildSlice 23 1 #[(0, t50_69)]) w_68 fun t51_70 w_71 =>
  Cl Tryz.prog 164 [t51_70] w_71 fun t52_72 w_73 =>
  RunS Tryz.prog (Builtin.append_ #[123, 9] 123 #[t46_64, t52_72]) w_73 fun t53_74 w_75 =>
  Pu (faV 12 r1_1) fun t55_76 =>
  Ld w_75 t55_76 fun t56_77 w_78 =>
  Cl Tryz.prog 164 [t56_77] w_78 fun t57_79 w_80 =>
  RunS Tryz.prog (Builtin.append_ #[123, 9] 123 #[t53_74, t57_79]) w_80 fun t58_81 w_82 =>
  Pu (faV 13 r1_1) fun t60_83 =>
  Ld w_82 t60_83 fun t61_84 w_85 =>
  Pu (lenV t61_84) fun t62_86 =>
  RunS Tryz.prog (Instr.buildSlice 23 1 #[(0, t62_86)]) w_85 fun t63_87 w_88 =>
  Cl Tryz.prog 164 [t63_87] w_88 fun t64_89 w_90 =>
  RunS Tryz.prog (Builtin.append_ #[123, 9] 123 #[t58_81, t64_89]) w_90 fun t65_91 w_92 =>
  ∃ (I_93 : List Value → World → Prop) (m_94 : List Value → World → Nat), I_93 [t65_91, (Value.int IntKind.i64 0)] w_92 ∧
  ∀ (g_125 : Fr) (w_124 : World), ∀ out3_96 : Value, ∀ i4_97 : Value, I_93 [out3_96, i4_97] w_124 →
    (Pu (faV 13 r1_1) fun t67_126 =>
    Ld w_124 t67_126 fun t68_127 w_128 =>
    Pu (lenV t68_127) fun t69_129 =>
    Pu (binV (TypeDesc.int IntKind.i64) .lss i4_97 t69_129) fun t70_130 =>
    IfB t70_130
      (∃ C_131 : World → Prop, C_131 (World.drew w_128) ∧
    (Pu (faV 13 r1_1) fun t74_132 =>
    Ld (World.drew w_128) t74_132 fun t75_133 w_134 =>
    w_134 = (World.drew w_128) ∧
    Pu (ixV 7 t75_133 i4_97) fun t77_135 =>
    Pu (faV 0 t77_135) fun t78_136 =>
    Ld (World.drew w_128) t78_136 fun t79_137 w_138 =>
    w_138 = (World.drew w_128) ∧
    Pu (faV 13 r1_1) fun t82_139 =>
    ∃ t83_140, (∀ w_141, C_131 w_141 → Ld w_141 t82_139 fun t83_142 w_143 =>
    t83_142 = t83_140 ∧ w_143 = w_141) ∧
    (Pu (ixV 7 t83_140 i4_97) fun t85_144 =>
    Pu (faV 1 t85_144) fun t86_145 =>
    ∃ t87_146, (∀ w_147, C_131 w_147 → LdN 6 w_147 t86_145 fun t87_148 w_149 =>
    t87_148 = t87_146 ∧ w_149 = w_147) ∧
    (RunS Tryz.prog (Instr.buildSlice 23 1 #[(0, t79_137)]) (World.drew w_128) fun t80_150 w_151 =>
    C_131 w_151 ∧
    (Cl Tryz.prog 164 [t80_150] w_151 fun t81_152 w_153 =>
    C_131 w_153 ∧
    (Cl Tryz.prog 166 [t87_146] w_153 fun t88_154 w_155 =>
    Cl Tryz.prog 165 [t88_154] w_155 fun t89_156 w_157 =>
    Pu (binV TypeDesc.string .add t81_152 t89_156) fun t90_158 =>
    RunS Tryz.prog (Builtin.append_ #[123, 9] 123 #[out3_96, t90_158]) w_157 fun t91_159 w_160 =>
    Pu (binV (TypeDesc.int IntKind.i64) .add i4_97 (Value.int IntKind.i64 1)) fun t72_161 =>
    I_93 [t91_159, t72_161] w_160 ∧ m_94 [t91_159, t72_161] w_160 < m_94 [out3_96, i4_97] w_124))))))
      (Pu (faV 14 r1_1) fun t93_162 =>
  Ld w_128 t93_162 fun t94_163 w_164 =>
  Pu (lenV t94_163) fun t95_165 =>
  RunS Tryz.prog (Instr.buildSlice 23 1 #[(0, t95_165)]) w_164 fun t96_166 w_167 =>
  Cl Tryz.prog 164 [t96_166] w_167 fun t97_168 w_169 =>
  RunS Tryz.prog (Builtin.append_ #[123, 9] 123 #[out3_96, t97_168]) w_169 fun t98_170 w_171 =>
  ∃ (I_172 : List Value → World → Prop) (m_173 : List Value → World → Nat), I_172 [t98_170, (Value.int IntKind.i64 0)] w_171 ∧
  ∀ (g_201 : Fr) (w_200 : World), ∀ out3_175 : Value, ∀ i5_176 : Value, I_172 [out3_175, i5_176] w_200 →
    (Pu (faV 14 r1_1) fun t100_202 =>
    Ld w_200 t100_202 fun t101_203 w_204 =>
    Pu (lenV t101_203) fun t102_205 =>
    Pu (binV (TypeDesc.int IntKind.i64) .lss i5_176 t102_205) fun t103_206 =>
    IfB t103_206
      (Pu (faV 14 r1_1) fun t107_207 =>
    Ld (World.drew w_204) t107_207 fun t108_208 w_209 =>
    w_209 = (World.drew w_204) ∧
    Pu (ixV 2 t108_208 i5_176) fun t110_210 =>
    Pu (faV 0 t110_210) fun t111_211 =>
    Ld (World.drew w_204) t111_211 fun t112_212 w_213 =>
    w_213 = (World.drew w_204) ∧
    Pu (faV 14 r1_1) fun t113_214 =>
    Ld (World.drew w_204) t113_214 fun t114_215 w_216 =>
    w_216 = (World.drew w_204) ∧
    Pu (ixV 2 t114_215 i5_176) fun t116_217 =>
    Pu (faV 1 t116_217) fun t117_218 =>
    Ld (World.drew w_204) t117_218 fun t118_219 w_220 =>
    w_220 = (World.drew w_204) ∧
    RunS Tryz.prog (Instr.buildSlice 23 2 #[(0, t112_212), (1, t118_219)]) (World.drew w_204) fun t119_221 w_222 =>
    Cl Tryz.prog 164 [t119_221] w_222 fun t120_223 w_224 =>
    RunS Tryz.prog (Builtin.append_ #[123, 9] 123 #[out3_175, t120_223]) w_224 fun t121_225 w_226 =>
    Pu (binV (TypeDesc.int IntKind.i64) .add i5_176 (Value.int IntKind.i64 1)) fun t105_227 =>
    I_172 [t121_225, t105_227] w_226 ∧ m_173 [t121_225, t105_227] w_226 < m_173 [out3_175, i5_176] w_200)
      (Pu (faV 15 r1_1) fun t123_228 =>
  Ld w_204 t123_228 fun t124_229 w_230 =>
  Pu (lenV t124_229) fun t125_231 =>
  RunS Tryz.prog (Instr.buildSlice 23 1 #[(0, t125_231)]) w_230 fun t126_232 w_233 =>
  Cl Tryz.prog 164 [t126_232] w_233 fun t127_234 w_235 =>
  RunS Tryz.prog (Builtin.append_ #[123, 9] 123 #[out3_175, t127_234]) w_235 fun t128_236 w_237 =>
  ∃ (I_238 : List Value → World → Prop) (m_239 : List Value → World → Nat), I_238 [t128_236, (Value.int IntKind.i64 0)] w_237 ∧
  ∀ (g_267 : Fr) (w_266 : World), ∀ out3_241 : Value, ∀ i6_242 : Value, I_238 [out3_241, i6_242] w_266 →
    (Pu (faV 15 r1_1) fun t130_268 =>
    Ld w_266 t130_268 fun t131_269 w_270 =>
    Pu (lenV t131_269) fun t132_271 =>
    Pu (binV (TypeDesc.int IntKind.i64) .lss i6_242 t132_271) fun t133_272 =>
    IfB t133_272
      (Pu (faV 15 r1_1) fun t137_273 =>
    Ld (World.drew w_270) t137_273 fun t138_274 w_275 =>
    w_275 = (World.drew w_270) ∧
    Pu (ixV 2 t138_274 i6_242) fun t140_276 =>
    Pu (faV 0 t140_276) fun t141_277 =>
    Ld (World.drew w_270) t141_277 fun t142_278 w_279 =>
    w_279 = (World.drew w_270) ∧
    Pu (faV 15 r1_1) fun t143_280 =>
    Ld (World.drew w_270) t143_280 fun t144_281 w_282 =>
    w_282 = (World.drew w_270) ∧
    Pu (ixV 2 t144_281 i6_242) fun t146_283 =>
    Pu (faV 1 t146_283) fun t147_284 =>
    Ld (World.drew w_270) t147_284 fun t148_285 w_286 =>
    w_286 = (World.drew w_270) ∧
    RunS Tryz.prog (Instr.buildSlice 23 2 #[(0, t142_278), (1, t148_285)]) (World.drew w_270) fun t149_287 w_288 =>
    Cl Tryz.prog 164 [t149_287] w_288 fun t150_289 w_290 =>
    RunS Tryz.prog (Builtin.append_ #[123, 9] 123 #[out3_241, t150_289]) w_290 fun t151_291 w_292 =>
    Pu (binV (TypeDesc.int IntKind.i64) .add i6_242 (Value.int IntKind.i64 1)) fun t135_293 =>
    I_238 [t151_291, t135_293] w_292 ∧ m_239 [t151_291, t135_293] w_292 < m_239 [out3_241, i6_242] w_266)
      (RunS Tryz.prog (convert 123 9 out3_241) w_270 fun t153_294 w_295 =>
  k t153_294 w_295))))))))))
theorem e87 (k : KV) (r0 : Value) (w : World) : K KD Tryz.prog 154 (fun j => bif Nat.beq j 18 then [3, 6] else bif Nat.beq j 13 then [3, 5] else bif Nat.beq j 8 then [3, 4] else []) (fun j =>  none) (Tryz.f87.body.getD .skip) (retQ Tryz.prog Tryz.f87 k) (argF [r0]) w = T87 k r0 w := by kernel_rfl
theorem c87 {k : KV} {r0 : Value} {w : World} (h : T87 k r0 w) : Cl Tryz.prog 87 [r0] w k :=
  Cl_of_K KD_sound mixed Tryz.func87 (by kernel_rfl) (by kernel_rfl) ((e87 k r0 w).symm ▸ h)

/-- Function 159: (*almonry/almonryref01.Reader).Num. -/
def T159 (k : KV) (r0 : Value) (most1 : Value) (w : World) : Prop :=
  Pu (nilV r0) fun t10_1 =>
  Pu (faV 2 t10_1) fun t11_2 =>
  Ld w t11_2 fun t12_3 w_4 =>
  Pu (binV (TypeDesc.int IntKind.i64) .neq t12_3 (Value.int IntKind.i64 0)) fun t13_5 =>
  IfB t13_5
    (k (Value.int IntKind.i64 0) w_4)
    (∃ (I_6 : List Value → World → Prop) (m_7 : List Value → World → Nat), I_6 [(Value.int IntKind.i64 0), (Value.int IntKind.i64 1), (Value.int IntKind.i64 1)] w_4 ∧
  ∀ (g_79 : Fr) (w_78 : World), ∀ n5_10 : Value, ∀ unit6_11 : Value, ∀ kv7_12 : Value, I_6 [n5_10, unit6_11, kv7_12] w_78 →
    (Pu (nilV r0) fun t17_80 =>
    Pu (faV 1 t17_80) fun t18_81 =>
    Ld (World.drew w_78) t18_81 fun t19_82 w_83 =>
    w_83 = (World.drew w_78) ∧
    Pu (binV (TypeDesc.int IntKind.i64) .add t19_82 kv7_12) fun t21_84 =>
    Pu (nilV r0) fun t23_85 =>
    Pu (faV 0 t23_85) fun t24_86 =>
    Ld (World.drew w_78) t24_86 fun t25_87 w_88 =>
    w_88 = (World.drew w_78) ∧
    Pu (lenS t25_87) fun t26_89 =>
    Pu (binV (TypeDesc.int IntKind.i64) .gtr t21_84 t26_89) fun t27_90 =>
    IfB t27_90
      (Cl Tryz.prog 204 [r0, (Value.int IntKind.i64 10)] (World.drew w_78) fun t29_91 w_92 =>
        k t29_91 w_92)
      (Pu (nilV r0) fun t31_93 =>
    Pu (faV 0 t31_93) fun t32_94 =>
    Ld (World.drew (World.drew w_78)) t32_94 fun t33_95 w_96 =>
    w_96 = (World.drew (World.drew w_78)) ∧
    Pu (nilV r0) fun t35_97 =>
    Pu (faV 1 t35_97) fun t36_98 =>
    Ld (World.drew (World.drew w_78)) t36_98 fun t37_99 w_100 =>
    w_100 = (World.drew (World.drew w_78)) ∧
    Pu (binV (TypeDesc.int IntKind.i64) .add t37_99 kv7_12) fun t39_101 =>
    Pu (binV (TypeDesc.int IntKind.i64) .sub t39_101 (Value.int IntKind.i64 1)) fun t40_102 =>
    Pu (ixS t33_95 t40_102) fun t41_103 =>
    Pu (cvI IntKind.i64 t41_103) fun t42_104 =>
    Pu (binV (TypeDesc.int IntKind.i64) .eql kv7_12 (Value.int IntKind.i64 9)) fun t44_105 =>
    Gd (isB true t44_105) (fun kk => kk t42_104 (World.drew (World.drew w_78))) (World.drew (World.drew w_78)) fun t46_106 w_107 =>
    Gd (isB true t44_105) (fun kk => Pu (binV (TypeDesc.int IntKind.i64) .geq t46_106 (Value.int IntKind.i64 128)) fun vv => kk vv w_107) w_107 fun t47_108 w_109 =>
    Pu (pickV t44_105 t47_108 (Value.bool false)) fun t48_110 =>
    Gd (isB false t48_110) (fun kk => kk t42_104 w_109) w_109 fun t50_111 w_112 =>
    Gd (isB false t48_110) (fun kk => Pu (binV (TypeDesc.int IntKind.i64) .eql t50_111 (Value.int IntKind.i64 0)) fun vv => kk vv w_112) w_112 fun t51_113 w_114 =>
    Gd (isB false t48_110) (fun kk => kk t51_113 w_114) w_114 fun t52_115 w_116 =>
    Gd (isB true t52_115) (fun kk => kk kv7_12 w_116) w_116 fun t53_117 w_118 =>
    Gd (isB true t52_115) (fun kk => Pu (binV (TypeDesc.int IntKind.i64) .gtr t53_117 (Value.int IntKind.i64 1)) fun vv => kk vv w_118) w_118 fun t54_119 w_120 =>
    Gd (isB false t48_110) (fun kk => Pu (pickV t52_115 t54_119 (Value.bool false)) fun vv => kk vv w_120) w_120 fun t55_121 w_122 =>
    Pu (pickV t48_110 (Value.bool true) t55_121) fun t56_123 =>
    IfB t56_123
      (Cl Tryz.prog 204 [r0, (Value.int IntKind.i64 11)] w_122 fun t58_124 w_125 =>
        k t58_124 w_125)
      (Pu (binV (TypeDesc.int IntKind.i64) .rem t42_104 (Value.int IntKind.i64 128)) fun t61_126 =>
    Pu (binV (TypeDesc.int IntKind.i64) .mul t61_126 unit6_11) fun t63_127 =>
    Pu (binV (TypeDesc.int IntKind.i64) .add n5_10 t63_127) fun t64_128 =>
    Pu (binV (TypeDesc.int IntKind.i64) .lss t42_104 (Value.int IntKind.i64 128)) fun t66_129 =>
    IfB t66_129
      (Pu (nilV r0) fun t69_130 =>
        Pu (faV 1 t69_130) fun t70_131 =>
        Ld w_122 t70_131 fun t71_132 w_133 =>
        Pu (binV (TypeDesc.int IntKind.i64) .add t71_132 kv7_12) fun t73_134 =>
        Pu (nilV r0) fun t74_135 =>
        Pu (faV 1 t74_135) fun t75_136 =>
        St 1 w_133 t75_136 t73_134 fun u_137 w_138 =>
        Pu (foldV0 max2V [most1, (Value.int IntKind.i64 0)]) fun t80_139 =>
  Pu (binV (TypeDesc.int IntKind.i64) .gtr t64_128 t80_139) fun t81_140 =>
  IfB t81_140
    (Cl Tryz.prog 204 [r0, (Value.int IntKind.i64 11)] w_138 fun t83_141 w_142 =>
      k t83_141 w_142)
    (k t64_128 w_138))
      (Pu (binV (TypeDesc.int IntKind.i64) .mul (Value.int IntKind.i64 128) unit6_11) fun t77_143 =>
    Pu (binV (TypeDesc.int IntKind.i64) .add kv7_12 (Value.int IntKind.i64 1)) fun t15_144 =>
    I_6 [t64_128, t77_143, t15_144] w_122 ∧ m_7 [t64_128, t77_143, t15_144] w_122 < m_7 [n5_10, unit6_11, kv7_12] w_78)))))
theorem e159 (k : KV) (r0 : Value) (most1 : Value) (w : World) : K KD Tryz.prog 85 (fun j => bif Nat.beq j 7 then [5, 6, 7] else []) (fun j =>  none) (Tryz.f159.body.getD .skip) (retQ Tryz.prog Tryz.f159 k) (argF [r0, most1]) w = T159 k r0 most1 w := by kernel_rfl
theorem c159 {k : KV} {r0 : Value} {most1 : Value} {w : World} (h : T159 k r0 most1 w) : Cl Tryz.prog 159 [r0, most1] w k :=
  Cl_of_K KD_sound mixed Tryz.func159 (by kernel_rfl) (by kernel_rfl) ((e159 k r0 most1 w).symm ▸ h)

/-- Function 160: (*almonry/almonryref01.Reader).Text. -/
def T160 (k : KV) (r0 : Value) (most1 : Value) (w : World) : Prop :=
  Cl Tryz.prog 159 [r0, most1] w fun t9_1 w_2 =>
  Jn (fun vs_26 w_25 => ∀ g_27 : Fr, vs_26 = [] ∧
      (Pu (nilV r0) fun t32_28 =>
      Pu (faV 2 t32_28) fun t33_29 =>
      Ld w_25 t33_29 fun t34_30 w_31 =>
      Pu (binV (TypeDesc.int IntKind.i64) .neq t34_30 (Value.int IntKind.i64 0)) fun t35_32 =>
      IfB t35_32
        (k (Value.string (ByteArray.mk #[])) w_31)
        (Pu (nilV r0) fun t37_33 =>
      Pu (faV 0 t37_33) fun t38_34 =>
      Ld (World.drew w_31) t38_34 fun t39_35 w_36 =>
      w_36 = (World.drew w_31) ∧
      Pu (nilV r0) fun t41_37 =>
      Pu (faV 1 t41_37) fun t42_38 =>
      Ld (World.drew w_31) t42_38 fun t43_39 w_40 =>
      w_40 = (World.drew w_31) ∧
      Pu (nilV r0) fun t45_41 =>
      Pu (faV 1 t45_41) fun t46_42 =>
      Ld (World.drew w_31) t46_42 fun t47_43 w_44 =>
      w_44 = (World.drew w_31) ∧
      Pu (binV (TypeDesc.int IntKind.i64) .add t47_43 t9_1) fun t49_45 =>
      Pu (slS t39_35 (some t43_39) (some t49_45)) fun t50_46 =>
      Pu (nilV r0) fun t53_47 =>
      Pu (faV 1 t53_47) fun t54_48 =>
      Ld (World.drew w_31) t54_48 fun t55_49 w_50 =>
      Pu (binV (TypeDesc.int IntKind.i64) .add t55_49 t9_1) fun t57_51 =>
      Pu (nilV r0) fun t58_52 =>
      Pu (faV 1 t58_52) fun t59_53 =>
      St 1 w_50 t59_53 t57_51 fun u_54 w_55 =>
      k t50_46 w_55)))
    (fun jj_3 =>
    Pu (nilV r0) fun t11_56 =>
    Pu (faV 2 t11_56) fun t12_57 =>
    Ld (World.drew w_2) t12_57 fun t13_58 w_59 =>
    w_59 = (World.drew w_2) ∧
    Pu (binV (TypeDesc.int IntKind.i64) .eql t13_58 (Value.int IntKind.i64 0)) fun t14_60 =>
    Gd (isB true t14_60) (fun kk => kk t9_1 (World.drew w_2)) (World.drew w_2) fun t16_61 w_62 =>
    Gd (isB true t14_60) (fun kk => kk r0 w_62) w_62 fun t17_63 w_64 =>
    Gd (isB true t14_60) (fun kk => Pu (nilV t17_63) fun vv => kk vv w_64) w_64 fun t18_65 w_66 =>
    Gd (isB true t14_60) (fun kk => Pu (faV 0 t18_65) fun vv => kk vv w_66) w_66 fun t19_67 w_68 =>
    Gd (isB true t14_60) (fun kk => Ld w_68 t19_67 kk) w_68 fun t20_69 w_70 =>
    w_70 = w_68 ∧
    Gd (isB true t14_60) (fun kk => Pu (lenS t20_69) fun vv => kk vv w_68) w_68 fun t21_71 w_72 =>
    Gd (isB true t14_60) (fun kk => kk r0 w_72) w_72 fun t22_73 w_74 =>
    Gd (isB true t14_60) (fun kk => Pu (nilV t22_73) fun vv => kk vv w_74) w_74 fun t23_75 w_76 =>
    Gd (isB true t14_60) (fun kk => Pu (faV 1 t23_75) fun vv => kk vv w_76) w_76 fun t24_77 w_78 =>
    Gd (isB true t14_60) (fun kk => Ld w_78 t24_77 kk) w_78 fun t25_79 w_80 =>
    w_80 = w_78 ∧
    Gd (isB true t14_60) (fun kk => Pu (binV (TypeDesc.int IntKind.i64) .sub t21_71 t25_79) fun vv => kk vv w_78) w_78 fun t26_81 w_82 =>
    Gd (isB true t14_60) (fun kk => Pu (binV (TypeDesc.int IntKind.i64) .gtr t16_61 t26_81) fun vv => kk vv w_82) w_82 fun t27_83 w_84 =>
    Pu (pickV t14_60 t27_83 (Value.bool false)) fun t28_85 =>
    IfB t28_85
      (Cl Tryz.prog 204 [r0, (Value.int IntKind.i64 10)] w_84 fun t30_86 w_87 =>
        jj_3 [] w_87)
      (jj_3 [] w_84))
theorem e160 (k : KV) (r0 : Value) (most1 : Value) (w : World) : K KD Tryz.prog 61 (fun j =>  []) (fun j => bif Nat.beq j 4 then some [] else none) (Tryz.f160.body.getD .skip) (retQ Tryz.prog Tryz.f160 k) (argF [r0, most1]) w = T160 k r0 most1 w := by kernel_rfl
theorem c160 {k : KV} {r0 : Value} {most1 : Value} {w : World} (h : T160 k r0 most1 w) : Cl Tryz.prog 160 [r0, most1] w k :=
  Cl_of_K KD_sound mixed Tryz.func160 (by kernel_rfl) (by kernel_rfl) ((e160 k r0 most1 w).symm ▸ h)

/-- Function 161: almonry/almonryref04.numbers. -/
def T161 (k : KV) (r0 : Value) (many1 : Value) (w : World) : Prop :=
  Cl Tryz.prog 159 [r0, many1] w fun t10_1 w_2 =>
  ∃ (I_3 : List Value → World → Prop) (m_4 : List Value → World → Nat), I_3 [(Value.slice none 0 0), (Value.int IntKind.i64 0)] w_2 ∧
  ∀ (g_26 : Fr) (w_25 : World), ∀ out5_6 : Value, ∀ i7_7 : Value, I_3 [out5_6, i7_7] w_25 →
    (Pu (binV (TypeDesc.int IntKind.i64) .lss i7_7 t10_1) fun t13_27 =>
    Gd (isB true t13_27) (fun kk => kk r0 w_25) w_25 fun t15_28 w_29 =>
    Gd (isB true t13_27) (fun kk => Pu (nilV t15_28) fun vv => kk vv w_29) w_29 fun t16_30 w_31 =>
    Gd (isB true t13_27) (fun kk => Pu (faV 2 t16_30) fun vv => kk vv w_31) w_31 fun t17_32 w_33 =>
    Gd (isB true t13_27) (fun kk => Ld w_33 t17_32 kk) w_33 fun t18_34 w_35 =>
    Gd (isB true t13_27) (fun kk => Pu (binV (TypeDesc.int IntKind.i64) .eql t18_34 (Value.int IntKind.i64 0)) fun vv => kk vv w_35) w_35 fun t19_36 w_37 =>
    Pu (pickV t13_27 t19_36 (Value.bool false)) fun t20_38 =>
    IfB t20_38
      (Cl Tryz.prog 159 [r0, (Value.int IntKind.i64 4611686018427387904)] w_37 fun t25_39 w_40 =>
    RunS Tryz.prog (Instr.buildSlice 23 1 #[(0, t25_39)]) w_40 fun t26_41 w_42 =>
    RunS Tryz.prog (Builtin.append_ #[23, 23] 23 #[out5_6, t26_41]) w_42 fun t27_43 w_44 =>
    Pu (binV (TypeDesc.int IntKind.i64) .add i7_7 (Value.int IntKind.i64 1)) fun t22_45 =>
    I_3 [t27_43, t22_45] w_44 ∧ m_4 [t27_43, t22_45] w_44 < m_4 [out5_6, i7_7] w_25)
      (k out5_6 w_37))
theorem e161 (k : KV) (r0 : Value) (many1 : Value) (w : World) : K KD Tryz.prog 29 (fun j => bif Nat.beq j 4 then [5, 7] else []) (fun j =>  none) (Tryz.f161.body.getD .skip) (retQ Tryz.prog Tryz.f161 k) (argF [r0, many1]) w = T161 k r0 many1 w := by kernel_rfl
theorem c161 {k : KV} {r0 : Value} {many1 : Value} {w : World} (h : T161 k r0 many1 w) : Cl Tryz.prog 161 [r0, many1] w k :=
  Cl_of_K KD_sound mixed Tryz.func161 (by kernel_rfl) (by kernel_rfl) ((e161 k r0 many1 w).symm ▸ h)

/-- Function 162: (*almonry/almonryref01.Reader).End. -/
def T162 (k : KV) (r0 : Value) (w : World) : Prop :=
  Pu (nilV r0) fun t4_1 =>
  Pu (faV 2 t4_1) fun t5_2 =>
  Ld (World.drew w) t5_2 fun t6_3 w_4 =>
  w_4 = (World.drew w) ∧
  Pu (binV (TypeDesc.int IntKind.i64) .eql t6_3 (Value.int IntKind.i64 0)) fun t7_5 =>
  Gd (isB true t7_5) (fun kk => kk r0 (World.drew w)) (World.drew w) fun t9_6 w_7 =>
  Gd (isB true t7_5) (fun kk => Pu (nilV t9_6) fun vv => kk vv w_7) w_7 fun t10_8 w_9 =>
  Gd (isB true t7_5) (fun kk => Pu (faV 1 t10_8) fun vv => kk vv w_9) w_9 fun t11_10 w_11 =>
  Gd (isB true t7_5) (fun kk => Ld w_11 t11_10 kk) w_11 fun t12_12 w_13 =>
  w_13 = w_11 ∧
  Gd (isB true t7_5) (fun kk => kk r0 w_11) w_11 fun t13_14 w_15 =>
  Gd (isB true t7_5) (fun kk => Pu (nilV t13_14) fun vv => kk vv w_15) w_15 fun t14_16 w_17 =>
  Gd (isB true t7_5) (fun kk => Pu (faV 0 t14_16) fun vv => kk vv w_17) w_17 fun t15_18 w_19 =>
  Gd (isB true t7_5) (fun kk => Ld w_19 t15_18 kk) w_19 fun t16_20 w_21 =>
  w_21 = w_19 ∧
  Gd (isB true t7_5) (fun kk => Pu (lenS t16_20) fun vv => kk vv w_19) w_19 fun t17_22 w_23 =>
  Gd (isB true t7_5) (fun kk => Pu (binV (TypeDesc.int IntKind.i64) .lss t12_12 t17_22) fun vv => kk vv w_23) w_23 fun t18_24 w_25 =>
  Pu (pickV t7_5 t18_24 (Value.bool false)) fun t19_26 =>
  IfB t19_26
    (k (Value.int IntKind.i64 12) w_25)
    (Pu (nilV r0) fun t21_27 =>
  Pu (faV 2 t21_27) fun t22_28 =>
  Ld w_25 t22_28 fun t23_29 w_30 =>
  k t23_29 w_30)
theorem e162 (k : KV) (r0 : Value) (w : World) : K KD Tryz.prog 24 (fun j =>  []) (fun j =>  none) (Tryz.f162.body.getD .skip) (retQ Tryz.prog Tryz.f162 k) (argF [r0]) w = T162 k r0 w := by kernel_rfl
theorem c162 {k : KV} {r0 : Value} {w : World} (h : T162 k r0 w) : Cl Tryz.prog 162 [r0] w k :=
  Cl_of_K KD_sound mixed Tryz.func162 (by kernel_rfl) (by kernel_rfl) ((e162 k r0 w).symm ▸ h)

/-- Function 163: almonry/almonryref04.ranges. -/
def T163 (k : KV) (r0 : Value) (w : World) : Prop :=
  New (Value.cells r0) 28 w fun r1_1 w_2 =>
  Pu (faV 0 r1_1) fun t6_3 =>
  Ld w_2 t6_3 fun t7_4 w_5 =>
  Pu (binV (TypeDesc.int IntKind.i64) .lss t7_4 (Value.int IntKind.i64 1)) fun t8_6 =>
  Gd (isB false t8_6) (fun kk => Pu (faV 0 r1_1) fun vv => kk vv w_5) w_5 fun t10_7 w_8 =>
  Gd (isB false t8_6) (fun kk => Ld w_8 t10_7 kk) w_8 fun t11_9 w_10 =>
  Gd (isB false t8_6) (fun kk => Pu (faV 1 r1_1) fun vv => kk vv w_10) w_10 fun t12_11 w_12 =>
  Gd (isB false t8_6) (fun kk => Ld w_12 t12_11 kk) w_12 fun t13_13 w_14 =>
  Gd (isB false t8_6) (fun kk => Pu (faV 2 r1_1) fun vv => kk vv w_14) w_14 fun t14_15 w_16 =>
  Gd (isB false t8_6) (fun kk => Ld w_16 t14_15 kk) w_16 fun t15_17 w_18 =>
  Gd (isB false t8_6) (fun kk => Pu (faV 9 r1_1) fun vv => kk vv w_18) w_18 fun t16_19 w_20 =>
  Gd (isB false t8_6) (fun kk => Ld w_20 t16_19 kk) w_20 fun t17_21 w_22 =>
  Gd (isB false t8_6) (fun kk => Pu (faV 4 r1_1) fun vv => kk vv w_22) w_22 fun t18_23 w_24 =>
  Gd (isB false t8_6) (fun kk => Ld w_24 t18_23 kk) w_24 fun t19_25 w_26 =>
  Gd (isB false t8_6) (fun kk => Pu (faV 5 r1_1) fun vv => kk vv w_26) w_26 fun t20_27 w_28 =>
  Gd (isB false t8_6) (fun kk => Ld w_28 t20_27 kk) w_28 fun t21_29 w_30 =>
  Gd (isB false t8_6) (fun kk => Pu (faV 6 r1_1) fun vv => kk vv w_30) w_30 fun t22_31 w_32 =>
  Gd (isB false t8_6) (fun kk => Ld w_32 t22_31 kk) w_32 fun t23_33 w_34 =>
  Gd (isB false t8_6) (fun kk => Pu (faV 7 r1_1) fun vv => kk vv w_34) w_34 fun t24_35 w_36 =>
  Gd (isB false t8_6) (fun kk => Ld w_36 t24_35 kk) w_36 fun t25_37 w_38 =>
  Gd (isB false t8_6) (fun kk => Pu (faV 8 r1_1) fun vv => kk vv w_38) w_38 fun t26_39 w_40 =>
  Gd (isB false t8_6) (fun kk => Ld w_40 t26_39 kk) w_40 fun t27_41 w_42 =>
  Gd (isB false t8_6) (fun kk => RunS Tryz.prog (Instr.buildSlice 23 9 #[(0, t11_9), (1, t13_13), (2, t15_17), (3, t17_21), (4, t19_25), (5, t21_29), (6, t23_33), (7, t25_37), (8, t27_41)]) w_42 kk) w_42 fun t28_43 w_44 =>
  Gd (isB false t8_6) (fun kk => Cl Tryz.prog 205 [t28_43] w_44 kk) w_44 fun t29_45 w_46 =>
  Gd (isB false t8_6) (fun kk => Pu (unV .not t29_45) fun vv => kk vv w_46) w_46 fun t30_47 w_48 =>
  Pu (pickV t8_6 (Value.bool true) t30_47) fun t31_49 =>
  Gd (isB false t31_49) (fun kk => Pu (faV 11 r1_1) fun vv => kk vv w_48) w_48 fun t33_50 w_51 =>
  Gd (isB false t31_49) (fun kk => Ld w_51 t33_50 kk) w_51 fun t34_52 w_53 =>
  Gd (isB false t31_49) (fun kk => Cl Tryz.prog 205 [t34_52] w_53 kk) w_53 fun t35_54 w_55 =>
  Gd (isB false t31_49) (fun kk => Pu (unV .not t35_54) fun vv => kk vv w_55) w_55 fun t36_56 w_57 =>
  Pu (pickV t31_49 (Value.bool true) t36_56) fun t37_58 =>
  Gd (isB false t37_58) (fun kk => Pu (faV 12 r1_1) fun vv => kk vv w_57) w_57 fun t39_59 w_60 =>
  Gd (isB false t37_58) (fun kk => Ld w_60 t39_59 kk) w_60 fun t40_61 w_62 =>
  Gd (isB false t37_58) (fun kk => Cl Tryz.prog 205 [t40_61] w_62 kk) w_62 fun t41_63 w_64 =>
  Gd (isB false t37_58) (fun kk => Pu (unV .not t41_63) fun vv => kk vv w_64) w_64 fun t42_65 w_66 =>
  Pu (pickV t37_58 (Value.bool true) t42_65) fun t43_67 =>
  IfB t43_67
    (k (Value.bool false) w_66)
    (∃ (I_68 : List Value → World → Prop) (m_69 : List Value → World → Nat), I_68 [(Value.int IntKind.i64 0)] w_66 ∧
  ∀ (g_89 : Fr) (w_88 : World), ∀ i3_72 : Value, I_68 [i3_72] w_88 →
    (Pu (faV 13 r1_1) fun t45_90 =>
    Ld w_88 t45_90 fun t46_91 w_92 =>
    Pu (lenV t46_91) fun t47_93 =>
    Pu (binV (TypeDesc.int IntKind.i64) .lss i3_72 t47_93) fun t48_94 =>
    IfB t48_94
      (Pu (faV 13 r1_1) fun t51_95 =>
    Ld w_92 t51_95 fun t52_96 w_97 =>
    Pu (ixV 7 t52_96 i3_72) fun t54_98 =>
    Pu (faV 0 t54_98) fun t55_99 =>
    Ld w_97 t55_99 fun t56_100 w_101 =>
    Cl Tryz.prog 206 [t56_100] w_101 fun t57_102 w_103 =>
    Pu (unV .not t57_102) fun t58_104 =>
    IfB t58_104
      (k (Value.bool false) w_103)
      (Pu (binV (TypeDesc.int IntKind.i64) .add i3_72 (Value.int IntKind.i64 1)) fun t50_105 =>
    I_68 [t50_105] w_103 ∧ m_69 [t50_105] w_103 < m_69 [i3_72] w_88))
      (∃ (I_106 : List Value → World → Prop) (m_107 : List Value → World → Nat), I_106 [(Value.int IntKind.i64 0)] w_92 ∧
  ∀ (g_137 : Fr) (w_136 : World), ∀ i4_110 : Value, I_106 [i4_110] w_136 →
    (Pu (faV 14 r1_1) fun t60_138 =>
    Ld w_136 t60_138 fun t61_139 w_140 =>
    Pu (lenV t61_139) fun t62_141 =>
    Pu (binV (TypeDesc.int IntKind.i64) .lss i4_110 t62_141) fun t63_142 =>
    IfB t63_142
      (Pu (faV 14 r1_1) fun t66_143 =>
    Ld w_140 t66_143 fun t67_144 w_145 =>
    Pu (ixV 2 t67_144 i4_110) fun t69_146 =>
    Pu (faV 0 t69_146) fun t70_147 =>
    Ld w_145 t70_147 fun t71_148 w_149 =>
    Cl Tryz.prog 206 [t71_148] w_149 fun t72_150 w_151 =>
    Pu (unV .not t72_150) fun t73_152 =>
    Gd (isB false t73_152) (fun kk => Pu (faV 14 r1_1) fun vv => kk vv w_151) w_151 fun t75_153 w_154 =>
    Gd (isB false t73_152) (fun kk => Ld w_154 t75_153 kk) w_154 fun t76_155 w_156 =>
    Gd (isB false t73_152) (fun kk => kk i4_110 w_156) w_156 fun t77_157 w_158 =>
    Gd (isB false t73_152) (fun kk => Pu (ixV 2 t76_155 t77_157) fun vv => kk vv w_158) w_158 fun t78_159 w_160 =>
    Gd (isB false t73_152) (fun kk => Pu (faV 1 t78_159) fun vv => kk vv w_160) w_160 fun t79_161 w_162 =>
    Gd (isB false t73_152) (fun kk => Ld w_162 t79_161 kk) w_162 fun t80_163 w_164 =>
    Gd (isB false t73_152) (fun kk => Cl Tryz.prog 206 [t80_163] w_164 kk) w_164 fun t81_165 w_166 =>
    Gd (isB false t73_152) (fun kk => Pu (unV .not t81_165) fun vv => kk vv w_166) w_166 fun t82_167 w_168 =>
    Pu (pickV t73_152 (Value.bool true) t82_167) fun t83_169 =>
    IfB t83_169
      (k (Value.bool false) w_168)
      (Pu (binV (TypeDesc.int IntKind.i64) .add i4_110 (Value.int IntKind.i64 1)) fun t65_170 =>
    I_106 [t65_170] w_168 ∧ m_107 [t65_170] w_168 < m_107 [i4_110] w_136))
      (∃ (I_171 : List Value → World → Prop) (m_172 : List Value → World → Nat), I_171 [(Value.int IntKind.i64 0)] w_140 ∧
  ∀ (g_202 : Fr) (w_201 : World), ∀ i5_175 : Value, I_171 [i5_175] w_201 →
    (Pu (faV 15 r1_1) fun t85_203 =>
    Ld w_201 t85_203 fun t86_204 w_205 =>
    Pu (lenV t86_204) fun t87_206 =>
    Pu (binV (TypeDesc.int IntKind.i64) .lss i5_175 t87_206) fun t88_207 =>
    IfB t88_207
      (Pu (faV 15 r1_1) fun t91_208 =>
    Ld w_205 t91_208 fun t92_209 w_210 =>
    Pu (ixV 2 t92_209 i5_175) fun t94_211 =>
    Pu (faV 0 t94_211) fun t95_212 =>
    Ld w_210 t95_212 fun t96_213 w_214 =>
    Cl Tryz.prog 206 [t96_213] w_214 fun t97_215 w_216 =>
    Pu (unV .not t97_215) fun t98_217 =>
    Gd (isB false t98_217) (fun kk => Pu (faV 15 r1_1) fun vv => kk vv w_216) w_216 fun t100_218 w_219 =>
    Gd (isB false t98_217) (fun kk => Ld w_219 t100_218 kk) w_219 fun t101_220 w_221 =>
    Gd (isB false t98_217) (fun kk => kk i5_175 w_221) w_221 fun t102_222 w_223 =>
    Gd (isB false t98_217) (fun kk => Pu (ixV 2 t101_220 t102_222) fun vv => kk vv w_223) w_223 fun t103_224 w_225 =>
    Gd (isB false t98_217) (fun kk => Pu (faV 1 t103_224) fun vv => kk vv w_225) w_225 fun t104_226 w_227 =>
    Gd (isB false t98_217) (fun kk => Ld w_227 t104_226 kk) w_227 fun t105_228 w_229 =>
    Gd (isB false t98_217) (fun kk => Cl Tryz.prog 206 [t105_228] w_229 kk) w_229 fun t106_230 w_231 =>
    Gd (isB false t98_217) (fun kk => Pu (unV .not t106_230) fun vv => kk vv w_231) w_231 fun t107_232 w_233 =>
    Pu (pickV t98_217 (Value.bool true) t107_232) fun t108_234 =>
    IfB t108_234
      (k (Value.bool false) w_233)
      (Pu (binV (TypeDesc.int IntKind.i64) .add i5_175 (Value.int IntKind.i64 1)) fun t90_235 =>
    I_171 [t90_235] w_233 ∧ m_172 [t90_235] w_233 < m_172 [i5_175] w_201))
      (k (Value.bool true) w_205)))))))
theorem e163 (k : KV) (r0 : Value) (w : World) : K KD Tryz.prog 109 (fun j => bif Nat.beq j 14 then [5] else bif Nat.beq j 9 then [4] else bif Nat.beq j 4 then [3] else []) (fun j =>  none) (Tryz.f163.body.getD .skip) (retQ Tryz.prog Tryz.f163 k) (argF [r0]) w = T163 k r0 w := by kernel_rfl
theorem c163 {k : KV} {r0 : Value} {w : World} (h : T163 k r0 w) : Cl Tryz.prog 163 [r0] w k :=
  Cl_of_K KD_sound mixed Tryz.func163 (by kernel_rfl) (by kernel_rfl) ((e163 k r0 w).symm ▸ h)

/-- Function 164: almonry/almonryref01.Num. -/
def T164 (k : KV) (ns0 : Value) (w : World) : Prop :=
  ∃ (I_1 : List Value → World → Prop) (m_2 : List Value → World → Nat), I_1 [(Value.slice none 0 0), (Value.int IntKind.i64 0)] w ∧
  ∀ (g_35 : Fr) (w_34 : World), ∀ b3_4 : Value, ∀ i4_5 : Value, I_1 [b3_4, i4_5] w_34 →
    (Pu (lenV ns0) fun t8_36 =>
    Pu (binV (TypeDesc.int IntKind.i64) .lss i4_5 t8_36) fun t9_37 =>
    IfB t9_37
      (Pu (ixV 1 ns0 i4_5) fun t14_38 =>
    Ld w_34 t14_38 fun t15_39 w_40 =>
    Pu (foldV0 max2V [t15_39, (Value.int IntKind.i64 0)]) fun t16_41 =>
    ∃ (I_42 : List Value → World → Prop) (m_43 : List Value → World → Nat), I_42 [b3_4, t16_41] w_40 ∧
    ∀ (g_59 : Fr) (w_58 : World), ∀ b3_45 : Value, ∀ n5_46 : Value, I_42 [b3_45, n5_46] w_58 →
      (Pu (binV (TypeDesc.int IntKind.i64) .geq n5_46 (Value.int IntKind.i64 128)) fun t18_60 =>
      IfB t18_60
        (Pu (binV (TypeDesc.int IntKind.i64) .rem n5_46 (Value.int IntKind.i64 128)) fun t21_61 =>
      Pu (binV (TypeDesc.int IntKind.i64) .add t21_61 (Value.int IntKind.i64 128)) fun t22_62 =>
      Pu (cvI IntKind.u8 t22_62) fun t23_63 =>
      RunS Tryz.prog (Instr.buildSlice 123 1 #[(0, t23_63)]) w_58 fun t24_64 w_65 =>
      RunS Tryz.prog (Builtin.append_ #[123, 123] 123 #[b3_45, t24_64]) w_65 fun t25_66 w_67 =>
      Pu (binV (TypeDesc.int IntKind.i64) .quo n5_46 (Value.int IntKind.i64 128)) fun t27_68 =>
      I_42 [t25_66, t27_68] w_67 ∧ m_43 [t25_66, t27_68] w_67 < m_43 [b3_45, n5_46] w_58)
        (Pu (cvI IntKind.u8 n5_46) fun t30_69 =>
    RunS Tryz.prog (Instr.buildSlice 123 1 #[(0, t30_69)]) w_58 fun t31_70 w_71 =>
    RunS Tryz.prog (Builtin.append_ #[123, 123] 123 #[b3_45, t31_70]) w_71 fun t32_72 w_73 =>
    Pu (binV (TypeDesc.int IntKind.i64) .add i4_5 (Value.int IntKind.i64 1)) fun t11_74 =>
    I_1 [t32_72, t11_74] w_73 ∧ m_2 [t32_72, t11_74] w_73 < m_2 [b3_4, i4_5] w_34)))
      (RunS Tryz.prog (convert 123 9 b3_4) w_34 fun t34_75 w_76 =>
  k t34_75 w_76))
theorem e164 (k : KV) (ns0 : Value) (w : World) : K KD Tryz.prog 35 (fun j => bif Nat.beq j 6 then [3, 5] else bif Nat.beq j 3 then [3, 4] else []) (fun j =>  none) (Tryz.f164.body.getD .skip) (retQ Tryz.prog Tryz.f164 k) (argF [ns0]) w = T164 k ns0 w := by kernel_rfl
theorem c164 {k : KV} {ns0 : Value} {w : World} (h : T164 k ns0 w) : Cl Tryz.prog 164 [ns0] w k :=
  Cl_of_K KD_sound mixed Tryz.func164 (by kernel_rfl) (by kernel_rfl) ((e164 k ns0 w).symm ▸ h)

/-- Function 165: almonry/almonryref01.Text. -/
def T165 (k : KV) (s0 : Value) (w : World) : Prop :=
  Pu (lenS s0) fun t4_1 =>
  RunS Tryz.prog (Instr.buildSlice 23 1 #[(0, t4_1)]) w fun t5_2 w_3 =>
  Cl Tryz.prog 164 [t5_2] w_3 fun t6_4 w_5 =>
  Pu (binV TypeDesc.string .add t6_4 s0) fun t8_6 =>
  k t8_6 w_5
theorem e165 (k : KV) (s0 : Value) (w : World) : K KD Tryz.prog 9 (fun j =>  []) (fun j =>  none) (Tryz.f165.body.getD .skip) (retQ Tryz.prog Tryz.f165 k) (argF [s0]) w = T165 k s0 w := by kernel_rfl
theorem c165 {k : KV} {s0 : Value} {w : World} (h : T165 k s0 w) : Cl Tryz.prog 165 [s0] w k :=
  Cl_of_K KD_sound mixed Tryz.func165 (by kernel_rfl) (by kernel_rfl) ((e165 k s0 w).symm ▸ h)

/-- Function 166: almonry/almonryref04.bare. -/
def T166 (k : KV) (p0 : Value) (w : World) : Prop :=
  New (Value.cells p0) 61 w fun p1_1 w_2 =>
  LdN 6 w_2 p1_1 fun t6_3 w_4 =>
  Cl Tryz.prog 132 [t6_3] w_4 fun t7_5 w_6 =>
  Pu (extV t7_5 0) fun t8_7 =>
  Pu (extV t7_5 1) fun t9_8 =>
  ∃ (I_9 : List Value → World → Prop) (m_10 : List Value → World → Nat), I_9 [t8_7] w_6 ∧
  ∀ (g_30 : Fr) (w_29 : World), ∀ s3_12 : Value, I_9 [s3_12] w_29 →
    (Pu (lenS s3_12) fun t11_31 =>
    Pu (binV (TypeDesc.int IntKind.i64) .gtr t11_31 (Value.int IntKind.i64 0)) fun t12_32 =>
    Gd (isB true t12_32) (fun kk => kk s3_12 w_29) w_29 fun t14_33 w_34 =>
    Gd (isB true t12_32) (fun kk => kk s3_12 w_34) w_34 fun t15_35 w_36 =>
    Gd (isB true t12_32) (fun kk => Pu (lenS t15_35) fun vv => kk vv w_36) w_36 fun t16_37 w_38 =>
    Gd (isB true t12_32) (fun kk => Pu (binV (TypeDesc.int IntKind.i64) .sub t16_37 (Value.int IntKind.i64 1)) fun vv => kk vv w_38) w_38 fun t17_39 w_40 =>
    Gd (isB true t12_32) (fun kk => Pu (ixS t14_33 t17_39) fun vv => kk vv w_40) w_40 fun t18_41 w_42 =>
    Gd (isB true t12_32) (fun kk => Pu (binV (TypeDesc.int IntKind.u8) .eql t18_41 (Value.int IntKind.u8 0)) fun vv => kk vv w_42) w_42 fun t19_43 w_44 =>
    Pu (pickV t12_32 t19_43 (Value.bool false)) fun t20_45 =>
    IfB t20_45
      (Pu (lenS s3_12) fun t23_46 =>
    Pu (binV (TypeDesc.int IntKind.i64) .sub t23_46 (Value.int IntKind.i64 1)) fun t24_47 =>
    Pu (slS s3_12 none (some t24_47)) fun t25_48 =>
    I_9 [t25_48] w_44 ∧ m_10 [t25_48] w_44 < m_10 [s3_12] w_29)
      (k s3_12 w_44))
theorem e166 (k : KV) (p0 : Value) (w : World) : K KD Tryz.prog 27 (fun j => bif Nat.beq j 2 then [3] else []) (fun j =>  none) (Tryz.f166.body.getD .skip) (retQ Tryz.prog Tryz.f166 k) (argF [p0]) w = T166 k p0 w := by kernel_rfl
theorem c166 {k : KV} {p0 : Value} {w : World} (h : T166 k p0 w) : Cl Tryz.prog 166 [p0] w k :=
  Cl_of_K KD_sound mixed Tryz.func166 (by kernel_rfl) (by kernel_rfl) ((e166 k p0 w).symm ▸ h)

/-- Function 204: (*almonry/almonryref01.Reader).wrong. -/
def T204 (k : KV) (r0 : Value) (e1 : Value) (w : World) : Prop :=
  Pu (nilV r0) fun t7_1 =>
  Pu (faV 2 t7_1) fun t8_2 =>
  St 1 w t8_2 e1 fun u_3 w_4 =>
  k (Value.int IntKind.i64 0) w_4
theorem e204 (k : KV) (r0 : Value) (e1 : Value) (w : World) : K KD Tryz.prog 9 (fun j =>  []) (fun j =>  none) (Tryz.f204.body.getD .skip) (retQ Tryz.prog Tryz.f204 k) (argF [r0, e1]) w = T204 k r0 e1 w := by kernel_rfl
theorem c204 {k : KV} {r0 : Value} {e1 : Value} {w : World} (h : T204 k r0 e1 w) : Cl Tryz.prog 204 [r0, e1] w k :=
  Cl_of_K KD_sound mixed Tryz.func204 (by kernel_rfl) (by kernel_rfl) ((e204 k r0 e1 w).symm ▸ h)

/-- Function 205: almonry/almonryref04.lists. -/
def T205 (k : KV) (l0 : Value) (w : World) : Prop :=
  ∃ (I_1 : List Value → World → Prop) (m_2 : List Value → World → Nat), I_1 [(Value.int IntKind.i64 0)] w ∧
  ∀ (g_19 : Fr) (w_18 : World), ∀ i3_5 : Value, I_1 [i3_5] w_18 →
    (Pu (lenV l0) fun t6_20 =>
    Pu (binV (TypeDesc.int IntKind.i64) .lss i3_5 t6_20) fun t7_21 =>
    IfB t7_21
      (Pu (ixV 1 l0 i3_5) fun t12_22 =>
    Ld w_18 t12_22 fun t13_23 w_24 =>
    Cl Tryz.prog 206 [t13_23] w_24 fun t14_25 w_26 =>
    Pu (unV .not t14_25) fun t15_27 =>
    IfB t15_27
      (k (Value.bool false) w_26)
      (Pu (binV (TypeDesc.int IntKind.i64) .add i3_5 (Value.int IntKind.i64 1)) fun t9_28 =>
    I_1 [t9_28] w_26 ∧ m_2 [t9_28] w_26 < m_2 [i3_5] w_18))
      (k (Value.bool true) w_18))
theorem e205 (k : KV) (l0 : Value) (w : World) : K KD Tryz.prog 16 (fun j => bif Nat.beq j 2 then [3] else []) (fun j =>  none) (Tryz.f205.body.getD .skip) (retQ Tryz.prog Tryz.f205 k) (argF [l0]) w = T205 k l0 w := by kernel_rfl
theorem c205 {k : KV} {l0 : Value} {w : World} (h : T205 k l0 w) : Cl Tryz.prog 205 [l0] w k :=
  Cl_of_K KD_sound mixed Tryz.func205 (by kernel_rfl) (by kernel_rfl) ((e205 k l0 w).symm ▸ h)

/-- Function 206: almonry/almonryref04.within. -/
def T206 (k : KV) (n0 : Value) (w : World) : Prop :=
  Pu (binV (TypeDesc.int IntKind.i64) .geq n0 (Value.int IntKind.i64 0)) fun t4_1 =>
  Gd (isB true t4_1) (fun kk => kk n0 w) w fun t6_2 w_3 =>
  Gd (isB true t4_1) (fun kk => Pu (binV (TypeDesc.int IntKind.i64) .leq t6_2 (Value.int IntKind.i64 4611686018427387904)) fun vv => kk vv w_3) w_3 fun t7_4 w_5 =>
  Pu (pickV t4_1 t7_4 (Value.bool false)) fun t8_6 =>
  k t8_6 w_5
theorem e206 (k : KV) (n0 : Value) (w : World) : K KD Tryz.prog 9 (fun j =>  []) (fun j =>  none) (Tryz.f206.body.getD .skip) (retQ Tryz.prog Tryz.f206 k) (argF [n0]) w = T206 k n0 w := by kernel_rfl
theorem c206 {k : KV} {n0 : Value} {w : World} (h : T206 k n0 w) : Cl Tryz.prog 206 [n0] w k :=
  Cl_of_K KD_sound mixed Tryz.func206 (by kernel_rfl) (by kernel_rfl) ((e206 k n0 w).symm ▸ h)

end Go.Proofs.YthbngnlmgplijaaGreatDoor

namespace Go.Proofs.YthbngnlmgplijaaGreatDoor
open Go.Al Go.Proofs
set_option linter.unusedVariables false
set_option linter.unusedSimpArgs false
set_option linter.unusedSectionVars false
set_option maxRecDepth 100000

theorem make_zeros (w : World) (n : Nat) (h : n ≤ 281474976710656) : ∃ w', (Instr.makeSlice 123 (.int .i64 n) (.int .i64 n)).run Tryz.prog w = .ok (.slice (some ⟨w.heap.size, 0, none⟩) n n) w' ∧ BRow w' w.heap.size 5 (zeros n) ∧ Fm (fun _ => False) w w' :=
  ⟨_, BRow.make B38 w n h, alloc_new w _, Fm.alloc _ _ _⟩
theorem conv_zeros {w : World} {g n : Nat} (h : BRow w g 5 (zeros n)) : (convert 123 9 (.slice (some ⟨g, 0, none⟩) n n)).run Tryz.prog w = .ok (stv (zeros n)) w := by
  have := BRow.conv B38 h (o := 0) (n := n) (by rw [zeros_len]; omega) n
  rw [List.drop_zero, List.take_of_length_le (by rw [zeros_len]; exact Nat.le_refl _)] at this
  exact this

set_option maxHeartbeats 4000000 in
theorem rencode_spec {w : World} {cs : Array Value} {p : Pg} (h : PgAs w cs p) : Cl Tryz.prog 132 [.agg cs] w fun r w' => r = encR p ∧ Fm (fun _ => False) w w' := by
  obtain ⟨v, rfl, hone, hc⟩ := h.ex
  have hin := h.ins
  have hclt := hc.lt
  unfold maxLen at hclt
  refine c132 ?_; unfold T132
  refine New_any ?_
  intro x1 w1 hx1 hs1 hw1 hf1
  replace hw1 : PB w1 x1 p v := hw1
  have hc1 := hc.keep hf1 (fun _ _ e => e)
  have hlen := hc.lenV
  have hall := hw1.all
  have rg : ∀ {P : Prop}, rangeB p = true → encR p = .tuple #[stv [], iv 4] := fun hr => encR_range hr
  simp only [RS0, RS1, RS2, RS3, RS4, RS5, hw1.c0]
  cases h1 : decide (p.lsn < 0) with
  | true => simp only [RS0, RS1, RS2, RS3, RS4, RS5]; exact ⟨(encR_range (by unfold rangeB; simp only [decide_eq_true_eq] at *; omega)).symm, hf1⟩
  | false =>
  simp only [RS0, RS1, RS2, RS3, RS4, RS5, hw1.c1]
  cases h2 : decide (p.kind < 1) with
  | true => simp only [RS0, RS1, RS2, RS3, RS4, RS5]; exact ⟨(encR_range (by unfold rangeB; simp only [decide_eq_true_eq] at *; omega)).symm, hf1⟩
  | false =>
  simp only [RS0, RS1, RS2, RS3, RS4, RS5, hw1.c1]
  cases h3 : decide (3 < p.kind) with
  | true => simp only [RS0, RS1, RS2, RS3, RS4, RS5]; exact ⟨(encR_range (by unfold rangeB; simp only [decide_eq_true_eq] at *; omega)).symm, hf1⟩
  | false =>
  simp only [RS0, RS1, RS2, RS3, RS4, RS5, hw1.c2]
  cases h4 : decide (p.level < 0) with
  | true => simp only [RS0, RS1, RS2, RS3, RS4, RS5]; exact ⟨(encR_range (by unfold rangeB; simp only [decide_eq_true_eq] at *; omega)).symm, hf1⟩
  | false =>
  simp only [RS0, RS1, RS2, RS3, RS4, RS5, hw1.c2]
  cases h5 : decide (255 < p.level) with
  | true => simp only [RS0, RS1, RS2, RS3, RS4, RS5]; exact ⟨(encR_range (by unfold rangeB; simp only [decide_eq_true_eq] at *; omega)).symm, hf1⟩
  | false =>
  simp only [RS0, RS1, RS2, RS3, RS4, RS5, hw1.c3]
  cases h6 : decide (p.right < 0) with
  | true => simp only [RS0, RS1, RS2, RS3, RS4, RS5]; exact ⟨(encR_range (by unfold rangeB; simp only [decide_eq_true_eq] at *; omega)).symm, hf1⟩
  | false =>
  simp only [RS0, RS1, RS2, RS3, RS4, RS5, hw1.c3]
  cases h7 : decide (4294967295 < p.right) with
  | true => simp only [RS0, RS1, RS2, RS3, RS4, RS5]; exact ⟨(encR_range (by unfold rangeB; simp only [decide_eq_true_eq] at *; omega)).symm, hf1⟩
  | false =>
  have hr : rangeB p = false := by unfold rangeB; simp only [decide_eq_false_iff_not] at *; omega
  have d1 : decide ((255 : Int) < (p.high.length : Int)) = decide (255 < p.high.length) := by rw [decide_eq_decide]; omega
  have d2 : decide ((255 : Int) < (p.items.length : Int)) = decide (255 < p.items.length) := by rw [decide_eq_decide]; omega
  simp only [RS0, RS1, RS2, RS3, RS4, RS5, hw1.c4, str_size, d1]
  cases h8 : decide (255 < p.high.length) with
  | true => simp only [RS0, RS1, RS2, RS3, RS4, RS5]; exact ⟨(encR_long hr (by unfold longB; rw [decide_eq_true_eq] at *; omega)).symm, hf1⟩
  | false =>
  simp only [RS0, RS1, RS2, RS3, RS4, RS5, hw1.c5, hlen, d2]
  cases h9 : decide (255 < p.items.length) with
  | true => simp only [RS0, RS1, RS2, RS3, RS4, RS5]; exact ⟨(encR_long hr (by unfold longB; rw [decide_eq_true_eq] at *; omega)).symm, hf1⟩
  | false =>
  simp only [RS0, RS1, RS2, RS3, RS4, RS5, hall]
  refine (rsize_spec (p := p) ⟨⟨v, rfl, hone, hc1⟩, h.small, h.ins⟩).mono ?_
  rintro _ w2 ⟨rfl, hf2⟩
  have hsb := size_bound h (by rw [decide_eq_false_iff_not] at h9; omega)
  have d3 : decide (512 < IntKind.i64.wrap (pSize p)) = decide (512 < pSize p) := by rw [wrap_nat (by omega), decide_eq_decide]; omega
  have hw2 := hw1.keep hf2 (fun e => e)
  have hF2 := Fmf hf1 hf2
  simp only [RS0, RS1, RS2, RS3, RS4, RS5, d3]
  cases h10 : decide (512 < pSize p) with
  | true => simp only [RS0, RS1, RS2, RS3, RS4, RS5]; exact ⟨(encR_long hr (by unfold longB; rw [decide_eq_true_eq] at *; omega)).symm, hF2⟩
  | false =>
  have hl : longB p = false := by unfold longB; simp only [decide_eq_false_iff_not] at *; omega
  have hok := pErr_zero hr hl
  obtain ⟨⟨b1, b2, b3, b4, b5, b6, b7⟩, b8, b9, b10⟩ := pErr_ok hok
  have hbl := pBody_len p
  have hf5 := Fm.drew (fun _ => False) w2
  have hP5 : PB w2.drew x1 p v := hw2.keep hf5 (fun e => e)
  have hF5 : Fm (fun _ => False) w w2.drew := Fmf hF2 hf5
  simp only [RS0, RS1, RS2, RS3, RS4, RS5]
  generalize hw5 : w2.drew = w5 at hP5 hF5
  refine ⟨fun w => PB w x1 p v, hP5, ?_⟩
  simp only [RS0, RS1, RS2, RS3, RS4, RS5, hw2.c0, hP5.c0, true_and]
  refine ⟨iv p.kind, fun w6 h6 => ?_, ?_⟩
  · simp only [RS0, RS1, RS2, RS3, RS4, RS5, h6.c1]; trivial
  refine ⟨iv p.level, fun w6 h6 => ?_, ?_⟩
  · simp only [RS0, RS1, RS2, RS3, RS4, RS5, h6.c2]; trivial
  refine ⟨iv p.right, fun w6 h6 => ?_, ?_⟩
  · simp only [RS0, RS1, RS2, RS3, RS4, RS5, h6.c3]; trivial
  refine ⟨v, fun w6 h6 => ?_, ?_⟩
  · simp only [RS0, RS1, RS2, RS3, RS4, RS5, h6.c5]; trivial
  simp only [RS0, RS1, RS2, RS3, RS4, RS5, hlen]
  refine ⟨stv p.high, fun w6 h6 => ?_, ?_⟩
  · simp only [RS0, RS1, RS2, RS3, RS4, RS5, h6.c4]; trivial
  simp only [RS0, RS1, RS2, RS3, RS4, RS5, str_size]
  refine ⟨stv p.high, fun w6 h6 => ?_, ?_⟩
  · simp only [RS0, RS1, RS2, RS3, RS4, RS5, h6.c4]; trivial
  have g1 : bigB p.lsn 8 = beN 8 p.lsn.toNat := bigB_nn (k := 8) b1 (by omega) (by omega)
  have g2 : bigB p.kind 1 = beN 1 p.kind.toNat := bigB_nn (k := 1) (by omega) (by omega) (by omega)
  have g3 : bigB p.level 1 = beN 1 p.level.toNat := bigB_nn (k := 1) b2 (by omega) (by omega)
  have g4 : bigB p.right 4 = beN 4 p.right.toNat := bigB_nn (k := 4) b3 (by omega) (by omega)
  have g5 : bigB (p.items.length : Nat) 1 = beN 1 p.items.length := bigB_of (n := p.items.length) (w := 1) (by omega) (by omega)
  have g6 : bigB (p.high.length : Nat) 1 = beN 1 p.high.length := bigB_of (n := p.high.length) (w := 1) (by omega) (by omega)
  refine (rbig_spec w5 hin.1 8).mono ?_
  rintro _ w6 ⟨rfl, hf6⟩
  have hP6 := hP5.keep hf6 (fun e => e)
  refine ⟨hP6, ?_⟩
  refine (rbig_spec w6 hin.2.1 1).mono ?_
  rintro _ w7 ⟨rfl, hf7⟩
  have hP7 := hP6.keep hf7 (fun e => e)
  refine ⟨hP7, ?_⟩
  rw [g1, g2, sadd (by rw [beN_len, beN_len]; omega)]
  try simp only [RS0, RS1, RS2, RS3, RS4, RS5]
  refine (rbig_spec w7 hin.2.2.1 1).mono ?_
  rintro _ w8 ⟨rfl, hf8⟩
  have hP8 := hP7.keep hf8 (fun e => e)
  refine ⟨hP8, ?_⟩
  rw [g3, sadd (by simp only [List.length_append, beN_len]; omega)]
  try simp only [RS0, RS1, RS2, RS3, RS4, RS5]
  refine (rbig_spec w8 hin.2.2.2.1 4).mono ?_
  rintro _ w9 ⟨rfl, hf9⟩
  have hP9 := hP8.keep hf9 (fun e => e)
  refine ⟨hP9, ?_⟩
  rw [g4, sadd (by simp only [List.length_append, beN_len]; omega)]
  try simp only [RS0, RS1, RS2, RS3, RS4, RS5]
  refine (rbig_spec w9 (n := (p.items.length : Nat)) (by unfold In; omega) 1).mono ?_
  rintro _ w10 ⟨rfl, hf10⟩
  have hP10 := hP9.keep hf10 (fun e => e)
  refine ⟨hP10, ?_⟩
  rw [g5, sadd (by simp only [List.length_append, beN_len]; omega)]
  try simp only [RS0, RS1, RS2, RS3, RS4, RS5]
  refine (rbig_spec w10 (n := (p.high.length : Nat)) (by unfold In; omega) 1).mono ?_
  rintro _ w11 ⟨rfl, hf11⟩
  have hP11 := hP10.keep hf11 (fun e => e)
  refine ⟨hP11, ?_⟩
  rw [g6, sadd (by simp only [List.length_append, beN_len]; omega)]
  try simp only [RS0, RS1, RS2, RS3, RS4, RS5]
  rw [sadd (by simp only [List.length_append, beN_len]; omega)]
  try simp only [RS0, RS1, RS2, RS3, RS4, RS5]
  have hhead : beN 8 p.lsn.toNat ++ beN 1 p.kind.toNat ++ beN 1 p.level.toNat ++ beN 4 p.right.toNat ++ beN 1 p.items.length ++ beN 1 p.high.length ++ p.high = pHead p := by
    simp only [pHead, List.append_assoc]
  rw [hhead]
  have hF11 : Fm (fun _ => False) w w11 := Fmf hF5 (Fmf (Fmf (Fmf hf6 hf7) (Fmf hf8 hf9)) (Fmf hf10 hf11))
  refine ⟨fun vs w15 => ∃ i : Nat, vs = [stv (pHead p ++ (p.items.take i).flatMap itB), iv i] ∧ i ≤ p.items.length ∧ PB w15 x1 p v ∧ Fm (fun _ => False) w w15, fun vs _ => (p.items.length - nth vs 1).toNat, ⟨0, by simp, by omega, hP11, hF11⟩, ?_⟩
  rintro _ w15 sv ivv ⟨i, hvs, hi, hP15, hF15⟩
  cases hvs
  have hpl : (pBody p).length = (pHead p).length + (p.items.flatMap itB).length := by rw [pBody, List.length_append]
  by_cases hlt : i < p.items.length
  · have e1 : decide ((i : Int) < (p.items.length : Int)) = true := by rw [decide_eq_true_eq]; omega
    have e2 : IntKind.i64.wrap ((i : Int) + 1) = ((i + 1 : Nat) : Int) := by rw [wrap_id] <;> omega
    have hx : p.items[i]? = some p.items[i] := List.getElem?_eq_getElem hlt
    have hxm : p.items[i] ∈ p.items := List.getElem_mem hlt
    generalize p.items[i] = x at hx hxm
    have hxs := item_short b10 x hxm
    have hfl := flat_le p.items (i + 1)
    rw [flat_take hx, List.length_append, itB_len] at hfl
    obtain ⟨ad, hix, _, hcx⟩ := (hc.keep hF15 (fun _ _ e => e)).at1 (i := i) (x := stv x) (by rw [List.getElem?_map, hx]; rfl) .i64
    have hf16 := Fm.drew (fun _ => False) w15
    have hP16 : PB w15.drew x1 p v := hP15.keep hf16 (fun e => e)
    have hcx16 : w15.drew.cell? ad = some (stv x) := hf16.cell' hcx (fun e => e)
    simp only [RS0, RS1, RS2, RS3, RS4, RS5, hP15.c5, hlen, e1]
    refine ⟨fun w => PB w x1 p v ∧ w.cell? ad = some (stv x), ⟨hP16, hcx16⟩, ?_⟩
    have hF16 := Fmf hF15 hf16
    generalize w15.drew = w16 at hP16 hcx16 hF16 hf16
    simp only [RS0, RS1, RS2, RS3, RS4, RS5, hP15.c5, hP16.c5, true_and, hix, hcx, hcx16, str_size]
    refine ⟨v, fun w6 h6 => ?_, ?_⟩
    · simp only [RS0, RS1, RS2, RS3, RS4, RS5, h6.1.c5]; trivial
    simp only [RS0, RS1, RS2, RS3, RS4, RS5, hix]
    refine ⟨stv x, fun w6 h6 => ?_, ?_⟩
    · simp only [RS0, RS1, RS2, RS3, RS4, RS5, h6.2]; trivial
    refine (rbig_spec w16 (n := (x.length : Nat)) (by unfold In; omega) 2).mono ?_
    rintro _ w17 ⟨rfl, hf17⟩
    have hP17 := hP16.keep hf17 (fun e => e)
    refine ⟨⟨hP17, hf17.cell' hcx16 (fun e => e)⟩, ?_⟩
    have g7 : bigB (x.length : Nat) 2 = beN 2 x.length := bigB_of (n := x.length) (w := 2) (by omega) (by omega)
    rw [g7, sadd (by simp only [List.length_append, beN_len]; omega)]
    try simp only [RS0, RS1, RS2, RS3, RS4, RS5]
    rw [sadd (by simp only [List.length_append, beN_len]; omega)]
    simp only [RS0, RS1, RS2, RS3, RS4, RS5, e2]
    refine ⟨⟨i + 1, ?_, by omega, hP17, Fmf hF16 hf17⟩, by simp only [nth_1]; omega⟩
    rw [flat_take hx, itB]
    simp only [List.append_assoc]
  · obtain rfl : i = p.items.length := by omega
    have e1 : decide (((p.items.length : Nat) : Int) < (p.items.length : Int)) = false := by simp
    rw [List.take_length, show pHead p ++ p.items.flatMap itB = pBody p from rfl]
    have e3 : IntKind.i64.wrap (508 - ((pBody p).length : Int)) = ((508 - (pBody p).length : Nat) : Int) := by rw [wrap_id] <;> omega
    simp only [RS0, RS1, RS2, RS3, RS4, RS5, hP15.c5, hlen, e1, str_size, e3]
    obtain ⟨w16, hm, hb16, hf16⟩ := make_zeros w15 (508 - (pBody p).length) (by omega)
    refine RunS_ok hm ?_
    refine RunS_ok (conv_zeros hb16) ?_
    rw [sadd (by rw [zeros_len]; omega), show pBody p ++ zeros (508 - (pBody p).length) = pText p from rfl]
    try simp only [RS0, RS1, RS2, RS3, RS4, RS5]
    have htl := pText_len b10
    refine (rsum_spec w16 (pText p) (by omega)).mono ?_
    rintro _ w16 ⟨rfl, rfl⟩
    obtain ⟨q1, q2⟩ := crc_in (pText p)
    simp only [RS0, RS1, RS2, RS3, RS4, RS5, cvI_int, q2]
    refine (rbig_spec w16 q1 4).mono ?_
    rintro _ w19 ⟨rfl, hf19⟩
    have g8 : bigB (crc (pText p) : Nat) 4 = beN 4 (crc (pText p)) := bigB_of (n := crc (pText p)) (w := 4) (by omega) (by omega)
    rw [g8, sadd (by rw [beN_len]; omega)]
    try simp only [RS0, RS1, RS2, RS3, RS4, RS5]
    exact ⟨(encR_ok hok).symm, Fmf (Fmf hF15 hf16) hf19⟩

end Go.Proofs.YthbngnlmgplijaaGreatDoor

namespace Go.Al
set_option linter.unusedVariables false
set_option linter.unusedSimpArgs false
set_option linter.unusedSectionVars false

/-- v is a row of the call's own (from block b0 on) that holds B; no cell of it bears a mark. -/
def OutAt (w : World) (b0 : Nat) (e : TypeId) (v : Value) (B : Bs) : Prop :=
  ∃ g cap cur fz, v = .slice (some ⟨g, 0, none⟩) B.length cap ∧ b0 ≤ g ∧ w.heap[g]? = some (.cells cur e fz) ∧ B.length ≤ cap ∧ cap ≤ maxLen ∧ cur.size = cap ∧ cur.toList.take B.length = bc B ∧ (fz = (0, 0) ∨ cap ≤ fz.1)
theorem OutAt.keep {S : Nat → Prop} {w w' : World} {b0 : Nat} {e : TypeId} {v : Value} {B : Bs} (h : OutAt w b0 e v B) (hf : Fm S w w') (hs : ∀ y, b0 ≤ y → y < w.heap.size → ¬ S y) : OutAt w' b0 e v B := by
  obtain ⟨g, cap, cur, fz, h1, h2, h3, h4⟩ := h
  exact ⟨g, cap, cur, fz, h1, h2, hf.heap h3 (hs g h2 (lt_of_heap h3)), h4⟩
/-- '[]byte(s)'. -/
theorem OutAt.new {P : Program} {t e s : TypeId} (B : ByteT P t e s) (w : World) (l : Bs) (hl : l.length ≤ maxLen) {b0 : Nat} (hb : b0 ≤ w.heap.size) : ∃ v w', (convert s t (stv l)).run P w = .ok v w' ∧ OutAt w' b0 e v l ∧ Fm (fun _ => False) w w' := by
  have hr := run_bytes_of_string (P := P) w s t e (str l) B.st B.sl B.u8
  rw [str_size] at hr
  have hge := grownCap_ge w l.length 0 e
  have hle := grownCap_le_maxLen w l.length 0 e hl
  have hz : (bytesRow (str l) (grownCap w l.length 0 e)).size = grownCap w l.length 0 e := by
    unfold bytesRow
    simp only [Array.size_append, Array.size_map, Array.size_replicate]
    have : (str l).data.size = l.length := by simp [str]
    rw [str_size]
    omega
  refine ⟨_, _, hr, ⟨_, _, _, _, rfl, hb, alloc_new w.drew _, hge, hle, hz, ?_, .inr (by rw [hz]; exact Nat.le_refl _)⟩, (Fm.drew _ w).trans (Fm.alloc _ w.drew _) (fun _ _ e => e) (fun _ _ e => e)⟩
  have : (bytesRow (str l) (grownCap w l.length 0 e)).toList = bc l ++ List.replicate (grownCap w l.length 0 e - l.length) (.int .u8 0) := by
    unfold bytesRow
    rw [Array.toList_append, Array.toList_map, Array.toList_replicate, str_size]; rfl
  rw [this, List.take_append_of_le_length (by rw [bc_len]; exact Nat.le_refl _), List.take_of_length_le (by rw [bc_len]; exact Nat.le_refl _)]

/-- Cells are laid ahead of a mark. -/
theorem store_ahead (P : Program) (g o : Nat) (t : TypeId) (fz : Nat × Nat) : ∀ (vs : List Value) (i : Nat) (cur : Array Value) (w : World), w.heap[g]? = some (.cells cur t fz) → (fz = (0, 0) ∨ cur.size ≤ fz.1) → o + i + vs.length ≤ cur.size → (∀ v ∈ vs, v.oneCell' = true) →
    (storeCells ⟨g, o, none⟩ vs i).run P w = .ok () (w.setRow g (cur.toList.take (o + i) ++ vs ++ cur.toList.drop (o + i + vs.length)).toArray)
  | [], i, cur, w, hg, _, _, _ => by
    simp only [storeCells, List.append_nil, List.length_nil, Nat.add_zero, List.take_append_drop, Array.toArray_toList]
    rw [setRow_self w g cur t fz hg]
    rfl
  | v :: rest, i, cur, w, hg, hfz, hl, h1 => by
    have hi : o + i < cur.size := by simp at hl; omega
    have hadd : (⟨g, o, none⟩ : Addr).add i = ⟨g, o + i, none⟩ := by unfold Addr.add; split <;> simp_all
    have hcell : w.cell? ⟨g, o + i, none⟩ = some cur[o + i] := by simp [World.cell?, hg, hi]
    have hfro : w.frozen? ⟨g, o + i, none⟩ = false := by
      obtain ⟨lo, hi'⟩ := fz
      simp only [World.frozen?, hg, Bool.and_eq_false_iff, decide_eq_false_iff_not]
      rcases hfz with h | h
      · cases h; right; omega
      · left
        simp only at h
        omega
    have hst : (store ((⟨g, o, none⟩ : Addr).add i) v).run P w = .ok () (w.setRow g (cur.setIfInBounds (o + i) v)) := by
      rw [hadd, run_store P w _ v _ (h1 v (by simp)), hcell]
      simp [hfro, setCell_eq_setRow w g (o + i) cur t fz v hg]
    have ih := store_ahead P g o t fz rest (i + 1) (cur.setIfInBounds (o + i) v) (w.setRow g (cur.setIfInBounds (o + i) v)) (setRow_heap w g cur _ t _ hg) (by simpa using hfz) (by simp at hl ⊢; omega) (fun x hx => h1 x (by simp [hx]))
    simp only [storeCells, Sem.run_bind, hst, Result.andThen_ok, ih, setRow_setRow]
    congr 3
    have e := list_seg_step cur.toList (o + i) v rest (by simp at hl ⊢; omega)
    simpa [Array.toList_setIfInBounds, Nat.add_assoc] using e

/-- 'append(out, s...)'. -/
theorem OutAt.app {P : Program} {t e s : TypeId} (B : ByteT P t e s) {w : World} {b0 : Nat} {v : Value} {L : Bs} (h : OutAt w b0 e v L) (x : Bs) (ty : TypeId) (hl : L.length + x.length ≤ 100000000000) (hb : b0 ≤ w.heap.size) :
    ∃ v' w', (Builtin.append_ #[t, s] ty #[v, stv x]).run P w = .ok v' w' ∧ OutAt w' b0 e v' (L ++ x) ∧ Fm (fun y => b0 ≤ y) w w' := by
  obtain ⟨i, h1, h2, h3, h4⟩ := B.info
  obtain ⟨g, cap, cur, fz, rfl, hbg, hg, hnc, hcm, hcs, htake, hfz⟩ := h
  have hsx : Lib.strCells (str x) = bc x := rfl
  have hxz : (str x).size = x.length := str_size x
  by_cases hroom : L.length + x.length ≤ cap
  · have hf := Lib.run_firstCells_string (P := P) w 1 (str x)
    rw [hsx, hxz] at hf
    have hst := store_ahead P g L.length e fz (bc x) 0 cur w hg (by rw [hcs]; exact hfz) (by rw [bc_len, hcs]; omega) (bc_one x)
    simp only [Nat.add_zero, bc_len] at hst
    have hr : (Builtin.append_ #[t, s] ty #[.slice (some ⟨g, 0, none⟩) L.length cap, stv x]).run P w = .ok (.slice (some ⟨g, 0, none⟩) (L.length + x.length) cap) (w.setRow g (cur.toList.take L.length ++ bc x ++ cur.toList.drop (L.length + x.length)).toArray) := by
      simp [Builtin.append_, run_underlying B.sl, run_underlying B.st, sizeOf, typeInfo, h1, h3, Builtin.lenOf, str_size, hroom, hf, Addr.add_lit, hst]
    refine ⟨_, _, hr, ⟨g, cap, _, fz, by rw [List.length_append], hbg, setRow_heap w g cur _ e _ hg, by rw [List.length_append]; exact hroom, hcm, ?_, ?_, hfz⟩, ⟨rfl, rfl, rfl, by simp, fun k _ hk => setRow_other w g k _ (fun e => hk (by rw [e]; exact hbg))⟩⟩
    · simp only [List.size_toArray, List.length_append, List.length_take, List.length_drop, Array.length_toList, bc_len]
      omega
    · rw [htake, ← bc_append, List.take_append_of_le_length (by rw [bc_len]; exact Nat.le_refl _), List.take_of_length_le (by rw [bc_len]; exact Nat.le_refl _)]
  · have holds : ∀ j u, (bc L)[j]? = some u → w.cell? ((⟨g, 0, none⟩ : Addr).add j) = some u := by
      intro j u hj
      rw [← htake, List.getElem?_take] at hj
      split at hj
      · rw [Addr.add_lit, cell_at hg]
        simpa using hj
      · cases hj
    have hr := Lib.run_append_grow_string (P := P) w t s ty e i (.int .u8 0) B.sl B.st h1 h2 ⟨g, 0, none⟩ L.length cap (bc L) (by rw [bc_len, h3, Nat.mul_one]) holds (str x) (by rw [hxz]; omega) (by rw [hxz]; omega) (by rw [hxz, h4]; exact growslice_fits (by omega) (by omega))
    rw [hxz, hsx] at hr
    have hge := grownCap_ge w (L.length + x.length) cap e
    have hcm' : grownCap w (L.length + x.length) cap e ≤ maxLen := grownCap_le_maxLen w (L.length + x.length) cap e (by unfold maxLen; omega)
    refine ⟨_, _, hr, ⟨w.heap.size, _, _, (0, 0), by rw [List.length_append], hb, alloc_new w.drew _, by rw [List.length_append]; exact hge, hcm', ?_, ?_, .inl rfl⟩, ⟨rfl, rfl, rfl, by simp, fun k hk _ => (Fm.alloc (fun _ => False) w.drew _).block k hk (fun e => e)⟩⟩
    · have hz1 : (Value.int IntKind.u8 0).cells.size = 1 := rfl
      simp only [Array.size_append, List.size_toArray, size_zeroCells, hz1, bc_len]
      omega
    · simp only [Array.toList_append, List.append_assoc]
      rw [← List.append_assoc, ← bc_append, List.take_append_of_le_length (by rw [bc_len]; exact Nat.le_refl _), List.take_of_length_le (by rw [bc_len]; exact Nat.le_refl _)]
/-- 'string(out)'. -/
theorem OutAt.conv {P : Program} {t e s : TypeId} (B : ByteT P t e s) {w : World} {b0 : Nat} {v : Value} {L : Bs} {e' : TypeId} (h : OutAt w b0 e' v L) : (convert t s v).run P w = .ok (stv L) w := by
  obtain ⟨g, cap, cur, fz, rfl, hbg, hg, hnc, hcm, hcs, htake, hfz⟩ := h
  have hx : BX w g e' L := ⟨cur, fz, hg, htake, by rw [hcs]; exact hnc, hfz.imp id fun h => by omega⟩
  have := hx.conv (P := P) B (o := 0) (n := L.length) (by omega) cap
  rw [List.drop_zero, List.take_length] at this
  exact this

end Go.Al

namespace Go.Proofs.YthbngnlmgplijaaGreatDoor
open Go.Al Go.Proofs
set_option linter.unusedVariables false
set_option linter.unusedSimpArgs false
set_option linter.unusedSectionVars false
set_option maxRecDepth 100000

theorem within_spec (w : World) (n : Int) : Cl Tryz.prog 206 [iv n] w fun v w' => v = .bool (!badN n) ∧ w' = w := by
  refine c206 ?_; unfold T206
  simp only [RS0, RS1, RS2, RS3, RS4, RS5]
  cases h1 : decide (0 ≤ n) with
  | true =>
    rw [decide_eq_true_eq] at h1
    have e1 : decide (n < 0) = false := by rw [decide_eq_false_iff_not]; omega
    have e2 : decide (n ≤ 4611686018427387904) = !decide (4611686018427387904 < n) := by
      rw [← decide_not, decide_eq_decide]; omega
    unfold badN
    rw [e1]
    simp only [RS0, RS1, RS2, RS3, RS4, RS5, e2, Bool.false_or]
    exact ⟨(by trivial), (by trivial)⟩
  | false =>
    rw [decide_eq_false_iff_not] at h1
    have e1 : decide (n < 0) = true := by rw [decide_eq_true_eq]; omega
    unfold badN
    rw [e1]
    simp only [RS0, RS1, RS2, RS3, RS4, RS5, Bool.true_or]
    exact ⟨(by trivial), (by trivial)⟩
theorem lists_spec {w : World} {v : Value} {L : List Int} (h : CellsAt w v L.length 1 (L.map iv)) : Cl Tryz.prog 205 [v] w fun u w' => u = .bool (!L.any badN) ∧ w' = w := by
  have hlt := h.lt
  unfold maxLen at hlt
  refine c205 ?_; unfold T205
  refine ⟨fun vs w2 => ∃ i : Nat, vs = [iv i] ∧ i ≤ L.length ∧ (L.take i).any badN = false ∧ w2 = w, fun vs _ => (L.length - nth vs 0).toNat, ⟨0, rfl, by omega, rfl, rfl⟩, ?_⟩
  rintro _ w2 ivv ⟨i, hvs, hi, hno, rfl⟩
  cases hvs
  by_cases hl : i < L.length
  · have e1 : decide ((i : Int) < (L.length : Int)) = true := by rw [decide_eq_true_eq]; omega
    have e2 : IntKind.i64.wrap ((i : Int) + 1) = ((i + 1 : Nat) : Int) := by rw [wrap_id] <;> omega
    have hx : L[i]? = some L[i] := List.getElem?_eq_getElem hl
    generalize L[i] = n at hx
    obtain ⟨ad, hix, _, hc⟩ := h.at1 (i := i) (x := iv n) (by rw [List.getElem?_map, hx]; rfl) .i64
    simp only [RS0, RS1, RS2, RS3, RS4, RS5, h.lenV, e1, hix, hc]
    refine (within_spec w2 n).mono ?_
    rintro _ w3 ⟨rfl, rfl⟩
    cases hb : badN n with
    | true =>
      simp only [RS0, RS1, RS2, RS3, RS4, RS5]
      refine ⟨?_, (by trivial)⟩
      rw [List.any_eq_true.2 ⟨n, List.mem_of_getElem? hx, hb⟩]
      rfl
    | false =>
      simp only [RS0, RS1, RS2, RS3, RS4, RS5, e2]
      refine ⟨⟨i + 1, rfl, by omega, ?_, (by trivial)⟩, by simp only [nth_0]; omega⟩
      rw [List.take_add_one, hx, List.any_append, hno]
      simp [hb]
  · have hie : i = L.length := by omega
    subst hie
    have e1 : decide (((L.length : Nat) : Int) < (L.length : Int)) = false := by simp
    rw [List.take_length] at hno
    simp only [RS0, RS1, RS2, RS3, RS4, RS5, h.lenV, e1]
    exact ⟨by rw [hno]; rfl, (by trivial)⟩

set_option maxHeartbeats 1000000 in
theorem dnum_spec {w : World} {v : Value} {ns : List Int} (hns : CellsAt w v ns.length 1 (ns.map iv)) (hin : ∀ n ∈ ns, n ≤ 9223372036854775807) (hl : ns.length ≤ 1000000000) :
    Cl Tryz.prog 164 [v] w fun u w' => u = stv (numsB ns) ∧ Fm (fun _ => False) w w' := by
  refine c164 ?_; unfold T164
  refine ⟨fun vs w2 => ∃ (k : Nat) (o : Value), vs = [o, iv k] ∧ k ≤ ns.length ∧ w2.ownsRow w.heap.size 5 1 o (numsB (ns.take k)).length (bc (numsB (ns.take k))) ∧ Fm (fun _ => False) w w2, fun vs _ => (ns.length - nth vs 1).toNat, ⟨0, _, rfl, by omega, World.ownsRow_nil _ _ _ _, Fm.refl _ _⟩, ?_⟩
  rintro _ w2 ov ik ⟨k, o, hvs, hk, h2, hf2⟩
  cases hvs
  by_cases hlt : k < ns.length
  · have e1 : decide ((k : Int) < (ns.length : Int)) = true := by rw [decide_eq_true_eq]; omega
    have hx : ns[k]? = some ns[k] := List.getElem?_eq_getElem hlt
    have hmem := List.getElem_mem hlt
    have hxin := hin _ hmem
    have hel := encI_len hxin
    have hpre := numsB_len (l := ns.take k) (fun n hn => hin n (List.mem_of_mem_take hn))
    rw [List.length_take, Nat.min_eq_left hk] at hpre
    generalize ns[k] = n at hx hxin hel
    obtain ⟨ad, hix, _, hc⟩ := (hns.keep hf2 (fun _ _ e => e)).at1 (i := k) (x := iv n) (by rw [List.getElem?_map, hx]; rfl) .i64
    have z3 : max2V (iv n) (iv 0) = some (iv (max n 0)) := by
      show some (iv (if (0 : Int) > n then 0 else n)) = _
      congr 2
      split <;> omega
    have hlenV := hns.lenV
    simp only [RS0, RS1, RS2, RS3, RS4, RS5, hlenV, e1, hix, hc, foldV0, foldV, z3, Option.bind_some]
    obtain ⟨c0, hc0⟩ := Int.eq_ofNat_of_zero_le (show 0 ≤ max n 0 by omega)
    have henc : encI n = encN c0 := by unfold encI; rw [hc0]; rfl
    rw [hc0]
    have hpl : (numsB (ns.take k)).length ≤ 9000000000 := by omega
    rw [henc] at hel
    have hstep : numsB (ns.take (k + 1)) = numsB (ns.take k) ++ encN c0 := by
      rw [List.take_add_one, hx, numsB_app]
      show numsB (ns.take k) ++ numsB [n] = _
      rw [numsB1, henc]
    generalize numsB (ns.take k) = P at h2 hpl hstep
    refine ⟨fun vs w3 => ∃ (c : Nat) (Q : Bs) (o : Value), vs = [o, iv c] ∧ c ≤ 9223372036854775807 ∧ w3.ownsRow w.heap.size 5 1 o Q.length (bc Q) ∧ Q ++ encN c = P ++ encN c0 ∧ Fm (fun _ => False) w w3, fun vs _ => (nth vs 1).toNat, ⟨c0, P, _, rfl, by omega, h2, rfl, hf2⟩, ?_⟩
    rintro _ w3 ob ic ⟨c, Q, o, hvs, hcm, h3, hQ, hf3⟩
    cases hvs
    have hz3 := hf3.size
    have hQl : Q.length ≤ 10000000000 := by
      have := congrArg List.length hQ
      rw [List.length_append, List.length_append] at this
      omega
    by_cases hbig : 127 < c
    · have e2 : decide ((128 : Int) ≤ (c : Int)) = true := by rw [decide_eq_true_eq]; omega
      have e3 := rem_nat (TypeDesc.int IntKind.i64) (n := c) (m := 128) (by decide) hcm (b := 128) rfl
      have e4 := quo_nat (TypeDesc.int IntKind.i64) (n := c) (m := 128) (by decide) hcm (b := 128) rfl
      have e5 : IntKind.i64.wrap (((c % 128 : Nat) : Int) + 128) = ((c % 128 + 128 : Nat) : Int) := by rw [wrap_id] <;> omega
      have e6 : cvI .u8 (iv ((c % 128 + 128 : Nat) : Int)) = some (.int .u8 (((UInt8.ofNat (c % 128 + 128)).toNat : Nat) : Int)) := by
        show some (Value.int .u8 (IntKind.u8.wrap ((c % 128 + 128 : Nat) : Int))) = _
        rw [u8_wrap_nat, Nat.mod_eq_of_lt (by omega), u8_ofNat (by omega)]
      simp only [RS0, RS1, RS2, RS3, RS4, RS5, e2, e3, e5, e6]
      refine append_elF E38w (by omega) 123 (cs := [.int .u8 (UInt8.ofNat (c % 128 + 128)).toNat]) rfl (bs38w _ _) (by intro u hu; simp at hu; subst hu; rfl) h3 (by unfold maxLen; omega) (by omega) hz3 ?_
      intro v' w4 ho4 hcase
      have hF4 : Fm (fun _ => False) w w4 := by
        rcases hcase with ⟨g, k1, k2, k3⟩ | ⟨g, k1, k2, k3⟩
        · exact Fm.own hf3 k3 (by rintro y rfl; exact (own_lt h3 y k1).1)
        · exact Fmf hf3 k3
      rw [e4, Pu_some]
      refine ⟨⟨c / 128, Q ++ [UInt8.ofNat (c % 128 + 128)], v', rfl, by omega, ?_, ?_, hF4⟩, by simp only [nth_1]; omega⟩
      · rw [List.length_append, bc_append]; exact ho4
      · rw [← hQ, encN_big hbig, List.append_assoc]; rfl
    · have e2 : decide ((128 : Int) ≤ (c : Int)) = false := by rw [decide_eq_false_iff_not]; omega
      have e6 : IntKind.i64.wrap ((k : Int) + 1) = ((k + 1 : Nat) : Int) := by rw [wrap_id] <;> omega
      have e3 : cvI .u8 (iv c) = some (.int .u8 (((UInt8.ofNat c).toNat : Nat) : Int)) := by
        show some (Value.int .u8 (IntKind.u8.wrap (c : Int))) = _
        rw [u8_wrap_nat, Nat.mod_eq_of_lt (by omega), u8_ofNat (by omega)]
      simp only [RS0, RS1, RS2, RS3, RS4, RS5, e2, e3]
      refine append_elF E38w (by omega) 123 (cs := [.int .u8 (UInt8.ofNat c).toNat]) rfl (bs38w _ _) (by intro u hu; simp at hu; subst hu; rfl) h3 (by unfold maxLen; omega) (by omega) hz3 ?_
      intro v' w4 ho4 hcase
      have hF4 : Fm (fun _ => False) w w4 := by
        rcases hcase with ⟨g, k1, k2, k3⟩ | ⟨g, k1, k2, k3⟩
        · exact Fm.own hf3 k3 (by rintro y rfl; exact (own_lt h3 y k1).1)
        · exact Fmf hf3 k3
      rw [e6]
      refine ⟨⟨k + 1, v', rfl, by omega, ?_, hF4⟩, by simp only [nth_1]; omega⟩
      rw [hstep, ← hQ, encN_small (by omega), List.length_append, bc_append]
      exact ho4
  · have hke : k = ns.length := by omega
    subst hke
    have e1 : decide (((ns.length : Nat) : Int) < (ns.length : Int)) = false := by simp
    rw [List.take_length] at h2
    have hlenV := hns.lenV
    simp only [RS0, RS1, RS2, RS3, RS4, RS5, hlenV, e1]
    exact RunS_ok (conv_own B38 h2) ⟨rfl, hf2⟩
/-- A literal of numbers, laid. -/
theorem rnum_lit {w : World} {n : Nat} {ns : List Int} {items : Array (Nat × Value)} (hb : (Instr.buildSlice 23 n items).run Tryz.prog w = .ok (.slice (some ⟨w.heap.size, 0, none⟩) n n) (w.alloc (.cells (ns.map iv).toArray 3))) (hn : ns.length = n) (hin : ∀ n ∈ ns, n ≤ 9223372036854775807) (hl : n ≤ 1000) {k : KV}
    (hk : ∀ w', Fm (fun _ => False) w w' → k (stv (numsB ns)) w') : RunS Tryz.prog (Instr.buildSlice 23 n items) w fun t w1 => Cl Tryz.prog 164 [t] w1 k := by
  refine RunS_ok hb ?_
  subst hn
  have hf := Fm.alloc (fun _ => False) w (.cells (ns.map iv).toArray 3)
  have hnew := own_new (w := w) (e := 3) (sz := 1) (base := w.heap.size) (n := ns.length) (l := ns.map iv) (by simp) (Nat.le_refl _) (by unfold maxLen; omega)
  refine (dnum_spec (CellsAt.of_own hnew) hin (by omega)).mono ?_
  rintro _ w2 ⟨rfl, hf2⟩
  exact hk w2 (Fmf hf hf2)
theorem dtext_spec (w : World) (s : Bs) (hs : s.length ≤ 1000000000) : Cl Tryz.prog 165 [stv s] w fun v w' => v = stv (txtB s) ∧ Fm (fun _ => False) w w' := by
  refine c165 ?_; unfold T165
  simp only [RS0, RS1, RS2, RS3, RS4, RS5, str_size]
  refine rnum_lit (bs47_1 _ _) rfl (by intro n hn; simp at hn; omega) (by omega) ?_
  intro w2 hf2
  rw [numsB1]
  have := encI_len (n := s.length) (by omega)
  rw [sadd (by omega)]
  try simp only [RS0, RS1, RS2, RS3, RS4, RS5]
  exact ⟨rfl, hf2⟩
theorem bare_spec {w : World} {cs : Array Value} {p : Pg} (h : PgAs w cs p) (hl : (pEnc p).1.length ≤ 1000000) : Cl Tryz.prog 166 [.agg cs] w fun v w' => v = stv (trimZ (pEnc p).1) ∧ Fm (fun _ => False) w w' := by
  have hsz : cs.size = 6 := by obtain ⟨v, rfl, _⟩ := h.ex; rfl
  refine c166 ?_; unfold T166
  refine New_any ?_
  intro x1 w1 hx1 hs1 hw1 hf1
  simp only [RS0, RS1, RS2, RS3, RS4, RS5, cellsV_blk hw1 hsz]
  refine (rencode_spec (h.keep hf1)).mono ?_
  rintro _ w2 ⟨rfl, hf2⟩
  have he : encR p = .tuple #[stv (pEnc p).1, iv (pErr p)] := by unfold encR; rw [pEnc_err]
  rw [he]
  generalize (pEnc p).1 = s at hl
  simp only [RS0, RS1, RS2, RS3, RS4, RS5]
  refine ⟨fun vs w3 => ∃ t : Bs, vs = [stv t] ∧ t.length ≤ s.length ∧ trimZ t = trimZ s ∧ w3 = w2, fun vs _ => match vs with
    | [.string b] => b.size
    | _ => 0, ⟨s, rfl, Nat.le_refl _, rfl, rfl⟩, ?_⟩
  rintro _ w3 tv ⟨t, hvs, hlt, htr, rfl⟩
  cases hvs
  simp only [RS0, RS1, RS2, RS3, RS4, RS5, str_size]
  by_cases h0 : 0 < t.length
  · have d1 : decide ((0 : Int) < (t.length : Int)) = true := by rw [decide_eq_true_eq]; omega
    have e5 : IntKind.i64.wrap ((t.length : Int) - 1) = ((t.length - 1 : Nat) : Int) := by rw [wrap_id] <;> omega
    have hx : t[t.length - 1]? = some t[t.length - 1] := List.getElem?_eq_getElem (by omega)
    generalize t[t.length - 1] = b at hx
    have hlast := trimZ_last hx
    have e6 := ixS_str hx .i64
    have e7 : ((b.toNat : Int) == 0) = decide (b = 0) := by
      rw [beq_dec, decide_eq_decide]
      constructor
      · intro e
        exact UInt8.toNat_inj.1 (by simpa using (show b.toNat = 0 by omega))
      · rintro rfl; rfl
    have e8 := slS_hi (l := t) (i := t.length - 1) (by omega) .i64
    simp only [RS0, RS1, RS2, RS3, RS4, RS5, d1, str_size, e5, e6, e7]
    cases hb : decide (b = 0) with
    | true =>
      rw [hb, cond_true] at hlast
      simp only [RS0, RS1, RS2, RS3, RS4, RS5, str_size, e5, e8]
      refine ⟨⟨t.take (t.length - 1), rfl, by rw [List.length_take]; omega, by rw [← hlast]; exact htr, (by trivial)⟩, ?_⟩
      simp only [str_size, List.length_take]; omega
    | false =>
      rw [hb, cond_false] at hlast
      simp only [RS0, RS1, RS2, RS3, RS4, RS5]
      exact ⟨by rw [← htr, hlast], Fmf hf1 hf2⟩
  · have ht0 : t = [] := List.eq_nil_of_length_eq_zero (by omega)
    subst ht0
    have d1 : decide ((0 : Int) < (([] : Bs).length : Int)) = false := by decide
    simp only [RS0, RS1, RS2, RS3, RS4, RS5, d1]
    exact ⟨by rw [← htr]; rfl, Fmf hf1 hf2⟩

end Go.Proofs.YthbngnlmgplijaaGreatDoor

namespace Go.Proofs.YthbngnlmgplijaaGreatDoor
open Go.Al Go.Proofs
set_option linter.unusedVariables false
set_option linter.unusedSimpArgs false
set_option linter.unusedSectionVars false
set_option maxRecDepth 100000

theorem cellsV_cell {w : World} {ad : Addr} {n : Nat} {cs : Array Value} (h : cellsV w ad n = some (.agg cs)) {i : Nat} {x : Value} (hx : cs[i]? = some x) : w.cell? (ad.add i) = some x := by
  have key : ∀ (n j : Nat) (l : List Value), cellsAt w ad j n = some l → ∀ (i : Nat) (x : Value), l[i]? = some x → w.cell? (ad.add (j + i)) = some x := by
    intro n
    induction n with
    | zero => intro j l hl i x hx; simp only [cellsAt, Option.some.injEq] at hl; subst hl; simp at hx
    | succ n ih =>
      intro j l hl i x hx
      simp only [cellsAt] at hl
      cases hc : w.cell? (ad.add j) with
      | none => rw [hc] at hl; cases hl
      | some v =>
        rw [hc] at hl
        cases hr : cellsAt w ad (j + 1) n with
        | none => rw [hr] at hl; cases hl
        | some l' =>
          rw [hr] at hl
          simp only [Option.map_some, Option.some.injEq] at hl
          subst hl
          cases i with
          | zero => simp at hx; subst hx; exact hc
          | succ i =>
            have := ih (j + 1) l' hr i x (by simpa using hx)
            rw [show j + (i + 1) = j + 1 + i by omega]; exact this
  unfold cellsV at h
  cases hc : cellsAt w ad 0 n with
  | none => rw [hc] at h; cases h
  | some l =>
    rw [hc] at h
    simp only [Option.map_some, Option.some.injEq, Value.agg.injEq] at h
    subst h
    have := key n 0 l hc i x (by simpa using hx)
    rw [Nat.zero_add] at this; exact this
def rangeR (r : Rc) : Bool := !(decide (r.lsn < 1) || (rNums r).any badN)
theorem prs_take_step {l : List (Int × Int)} {i : Nat} {m : Int × Int} (hx : l[i]? = some m) : (prs (l.take (i + 1))).any badN = ((prs (l.take i)).any badN || badN m.1 || badN m.2) := by
  rw [List.take_add_one, hx]
  simp [prs, Bool.or_assoc]
theorem prs_any_mem {l : List (Int × Int)} {m : Int × Int} (hm : m ∈ l) (hb : badN m.1 = true ∨ badN m.2 = true) : (prs l).any badN = true := by
  obtain ⟨q1, q2⟩ := mem_prs hm
  rcases hb with h | h
  · exact List.any_eq_true.2 ⟨_, q1, h⟩
  · exact List.any_eq_true.2 ⟨_, q2, h⟩
set_option maxHeartbeats 8000000 in
theorem ranges_spec {w : World} {cs : Array Value} {r : Rc} (h : RcAs w cs r) : Cl Tryz.prog 163 [.agg cs] w fun v w' => v = .bool (rangeR r) ∧ Fm (fun _ => False) w w' := by
  obtain ⟨vs, vm, vi, vp, vt, hcs, _, hs, hm, hi, hp, ht⟩ := h.ex
  have hbulk := h.bulk
  have hA : (rNums r).any badN = ([r.lsn, r.prev, r.next, r.redo, r.xid, r.page, r.slot, r.old, r.new].any badN || r.slots.any badN || r.more.any badN || (r.imgs.map (·.1)).any badN || (prs r.pages).any badN || (prs r.txns).any badN) := by
    unfold rNums
    simp only [List.any_append]
  refine c163 ?_; unfold T163
  refine New_any ?_
  intro x1 w1 hx1 hs1 hw1 hf1
  have hR1 : RB w1 x1 r vs vm vi vp vt := ⟨by rw [← hcs]; exact hw1⟩
  unfold rangeR
  rw [hA]
  simp only [RS0, RS1, RS2, RS3, RS4, RS5, hR1.c0]
  cases e1 : decide (r.lsn < 1) with
  | true =>
    simp only [RS0, RS1, RS2, RS3, RS4, RS5, Bool.true_or]
    exact ⟨(by trivial), hf1⟩
  | false =>
  simp only [RS0, RS1, RS2, RS3, RS4, RS5, hR1.c0, hR1.c1, hR1.c2, hR1.c9, hR1.c4, hR1.c5, hR1.c6, hR1.c7, hR1.c8, Bool.false_or]
  refine RunS_ok (bs47_9 _ _ _ _ _ _ _ _ _ _) ?_
  have hfa := Fm.alloc (fun _ => False) w1 (.cells ([r.lsn, r.prev, r.next, r.redo, r.xid, r.page, r.slot, r.old, r.new].map iv).toArray 3)
  have hnew := own_new (w := w1) (e := 3) (sz := 1) (base := w1.heap.size) (n := 9) (l := [r.lsn, r.prev, r.next, r.redo, r.xid, r.page, r.slot, r.old, r.new].map iv) rfl (Nat.le_refl _) (by decide)
  refine (lists_spec (L := [r.lsn, r.prev, r.next, r.redo, r.xid, r.page, r.slot, r.old, r.new]) (CellsAt.of_own hnew)).mono ?_
  rintro _ w2 ⟨rfl, rfl⟩
  have hF2 := Fmf hf1 hfa
  have hR2 := hR1.keep hfa (fun e => e)
  generalize (w1.alloc (.cells ([r.lsn, r.prev, r.next, r.redo, r.xid, r.page, r.slot, r.old, r.new].map iv).toArray 3)) = w2 at hF2 hR2
  generalize [r.lsn, r.prev, r.next, r.redo, r.xid, r.page, r.slot, r.old, r.new].any badN = b9
  clear hnew hfa
  have hs2 := hs.keep hF2 (fun _ _ e => e)
  have hm2 := hm.keep hF2 (fun _ _ e => e)
  have hi2 := hi.keep hF2
  have hp2 := hp.keep hF2 (fun _ _ e => e)
  have ht2 := ht.keep hF2 (fun _ _ e => e)
  cases b9 with
  | true =>
    simp only [RS0, RS1, RS2, RS3, RS4, RS5, Bool.true_or]
    exact ⟨(by trivial), hF2⟩
  | false =>
  simp only [RS0, RS1, RS2, RS3, RS4, RS5, Bool.false_or, hR2.c11]
  refine (lists_spec hs2).mono ?_
  rintro _ w3 ⟨rfl, rfl⟩
  cases q1 : r.slots.any badN with
  | true =>
    simp only [RS0, RS1, RS2, RS3, RS4, RS5, Bool.true_or]
    exact ⟨(by trivial), hF2⟩
  | false =>
  simp only [RS0, RS1, RS2, RS3, RS4, RS5, Bool.false_or, hR2.c12]
  refine (lists_spec hm2).mono ?_
  rintro _ w4 ⟨rfl, rfl⟩
  cases q2 : r.more.any badN with
  | true =>
    simp only [RS0, RS1, RS2, RS3, RS4, RS5, Bool.true_or]
    exact ⟨(by trivial), hF2⟩
  | false =>
  simp only [RS0, RS1, RS2, RS3, RS4, RS5, Bool.false_or]
  refine ⟨fun vl w5 => ∃ i : Nat, vl = [iv i] ∧ i ≤ r.imgs.length ∧ ((r.imgs.take i).map (·.1)).any badN = false ∧ w5 = w4, fun vl _ => (r.imgs.length - nth vl 0).toNat, ⟨0, rfl, by omega, rfl, rfl⟩, ?_⟩
  rintro _ w5 iv5 ⟨i, hvl, hile, hno, rfl⟩
  cases hvl
  by_cases hlt : i < r.imgs.length
  · have hx : r.imgs[i]? = some r.imgs[i] := List.getElem?_eq_getElem hlt
    generalize r.imgs[i] = m at hx
    have hmm := List.mem_of_getElem? hx
    obtain ⟨ad, u, hix, hcv, hone, hpg⟩ := hi2.ld hx
    have hc0 : w5.cell? ad = some (iv m.1) := by
      have := cellsV_cell hcv (i := 0) (x := iv m.1) rfl
      rw [Go.Al.add_zero] at this; exact this
    have d2 : decide ((i : Int) < (r.imgs.length : Int)) = true := by rw [decide_eq_true_eq]; omega
    have e2 : IntKind.i64.wrap ((i : Int) + 1) = ((i + 1 : Nat) : Int) := by rw [wrap_id] <;> omega
    simp only [RS0, RS1, RS2, RS3, RS4, RS5, hR2.c13, hi2.lenV, d2, hix, hc0]
    refine (within_spec w5 m.1).mono ?_
    rintro _ w6 ⟨rfl, rfl⟩
    cases hb : badN m.1 with
    | true =>
      simp only [RS0, RS1, RS2, RS3, RS4, RS5]
      have : (r.imgs.map (·.1)).any badN = true := List.any_eq_true.2 ⟨_, List.mem_map.2 ⟨m, hmm, rfl⟩, hb⟩
      rw [this]
      exact ⟨(by trivial), hF2⟩
    | false =>
      simp only [RS0, RS1, RS2, RS3, RS4, RS5, e2]
      refine ⟨⟨i + 1, rfl, by omega, ?_, (by trivial)⟩, by simp only [nth_0]; omega⟩
      rw [List.take_add_one, hx, List.map_append, List.any_append, hno]
      simp [hb]
  have hie : i = r.imgs.length := by omega
  subst hie
  have d2 : decide (((r.imgs.length : Nat) : Int) < (r.imgs.length : Int)) = false := by simp
  rw [List.take_length] at hno
  rw [hno]
  simp only [RS0, RS1, RS2, RS3, RS4, RS5, hR2.c13, hi2.lenV, d2, Bool.false_or]
  clear hno d2 hlt
  refine ⟨fun vl w6 => ∃ i : Nat, vl = [iv i] ∧ i ≤ r.pages.length ∧ (prs (r.pages.take i)).any badN = false ∧ w6 = w5, fun vl _ => (r.pages.length - nth vl 0).toNat, ⟨0, rfl, by omega, rfl, rfl⟩, ?_⟩
  rintro _ w6 iv6 ⟨i, hvl, hile, hno, rfl⟩
  cases hvl
  by_cases hlt : i < r.pages.length
  · have hx : r.pages[i]? = some r.pages[i] := List.getElem?_eq_getElem hlt
    generalize r.pages[i] = m at hx
    have hmm := List.mem_of_getElem? hx
    obtain ⟨ad, hix, hcv, _⟩ := cells_ld pc2_len (by omega) hp2 hx
    have hc0 : w6.cell? ad = some (iv m.1) := by
      have := cellsV_cell hcv (i := 0) (x := iv m.1) rfl
      rw [Go.Al.add_zero] at this; exact this
    have hc1 : w6.cell? (ad.add 1) = some (iv m.2) := cellsV_cell hcv (i := 1) (x := iv m.2) rfl
    have d2 : decide ((i : Int) < (r.pages.length : Int)) = true := by rw [decide_eq_true_eq]; omega
    have e2 : IntKind.i64.wrap ((i : Int) + 1) = ((i + 1 : Nat) : Int) := by rw [wrap_id] <;> omega
    have hstep := prs_take_step hx
    simp only [RS0, RS1, RS2, RS3, RS4, RS5, hR2.c14, hp2.lenV, d2, hix, hc0]
    refine (within_spec w6 m.1).mono ?_
    rintro _ w7 ⟨rfl, rfl⟩
    cases hb : badN m.1 with
    | true =>
      simp only [RS0, RS1, RS2, RS3, RS4, RS5]
      rw [prs_any_mem hmm (.inl hb)]
      exact ⟨(by trivial), hF2⟩
    | false =>
      simp only [RS0, RS1, RS2, RS3, RS4, RS5, hR2.c14, hix, hc1]
      refine (within_spec w7 m.2).mono ?_
      rintro _ w8 ⟨rfl, rfl⟩
      cases hb2 : badN m.2 with
      | true =>
        simp only [RS0, RS1, RS2, RS3, RS4, RS5]
        rw [prs_any_mem hmm (.inr hb2)]
        exact ⟨(by trivial), hF2⟩
      | false =>
        simp only [RS0, RS1, RS2, RS3, RS4, RS5, e2]
        refine ⟨⟨i + 1, rfl, by omega, ?_, (by trivial)⟩, by simp only [nth_0]; omega⟩
        rw [hstep, hno, hb, hb2]; rfl
  have hie : i = r.pages.length := by omega
  subst hie
  have d2 : decide (((r.pages.length : Nat) : Int) < (r.pages.length : Int)) = false := by simp
  rw [List.take_length] at hno
  rw [hno]
  simp only [RS0, RS1, RS2, RS3, RS4, RS5, hR2.c14, hp2.lenV, d2, Bool.false_or]
  clear hno d2 hlt
  refine ⟨fun vl w7 => ∃ i : Nat, vl = [iv i] ∧ i ≤ r.txns.length ∧ (prs (r.txns.take i)).any badN = false ∧ w7 = w6, fun vl _ => (r.txns.length - nth vl 0).toNat, ⟨0, rfl, by omega, rfl, rfl⟩, ?_⟩
  rintro _ w7 iv7 ⟨i, hvl, hile, hno, rfl⟩
  cases hvl
  by_cases hlt : i < r.txns.length
  · have hx : r.txns[i]? = some r.txns[i] := List.getElem?_eq_getElem hlt
    generalize r.txns[i] = m at hx
    have hmm := List.mem_of_getElem? hx
    obtain ⟨ad, hix, hcv, _⟩ := cells_ld pc2_len (by omega) ht2 hx
    have hc0 : w7.cell? ad = some (iv m.1) := by
      have := cellsV_cell hcv (i := 0) (x := iv m.1) rfl
      rw [Go.Al.add_zero] at this; exact this
    have hc1 : w7.cell? (ad.add 1) = some (iv m.2) := cellsV_cell hcv (i := 1) (x := iv m.2) rfl
    have d2 : decide ((i : Int) < (r.txns.length : Int)) = true := by rw [decide_eq_true_eq]; omega
    have e2 : IntKind.i64.wrap ((i : Int) + 1) = ((i + 1 : Nat) : Int) := by rw [wrap_id] <;> omega
    have hstep := prs_take_step hx
    simp only [RS0, RS1, RS2, RS3, RS4, RS5, hR2.c15, ht2.lenV, d2, hix, hc0]
    refine (within_spec w7 m.1).mono ?_
    rintro _ w8 ⟨rfl, rfl⟩
    cases hb : badN m.1 with
    | true =>
      simp only [RS0, RS1, RS2, RS3, RS4, RS5]
      rw [prs_any_mem hmm (.inl hb)]
      exact ⟨(by trivial), hF2⟩
    | false =>
      simp only [RS0, RS1, RS2, RS3, RS4, RS5, hR2.c15, hix, hc1]
      refine (within_spec w8 m.2).mono ?_
      rintro _ w9 ⟨rfl, rfl⟩
      cases hb2 : badN m.2 with
      | true =>
        simp only [RS0, RS1, RS2, RS3, RS4, RS5]
        rw [prs_any_mem hmm (.inr hb2)]
        exact ⟨(by trivial), hF2⟩
      | false =>
        simp only [RS0, RS1, RS2, RS3, RS4, RS5, e2]
        refine ⟨⟨i + 1, rfl, by omega, ?_, (by trivial)⟩, by simp only [nth_0]; omega⟩
        rw [hstep, hno, hb, hb2]; rfl
  have hie : i = r.txns.length := by omega
  subst hie
  have d2 : decide (((r.txns.length : Nat) : Int) < (r.txns.length : Int)) = false := by simp
  rw [List.take_length] at hno
  rw [hno]
  simp only [RS0, RS1, RS2, RS3, RS4, RS5, hR2.c15, ht2.lenV, d2]
  exact ⟨(by trivial), hF2⟩

end Go.Proofs.YthbngnlmgplijaaGreatDoor

namespace Go.Proofs.YthbngnlmgplijaaGreatDoor
open Go.Al Go.Proofs
set_option linter.unusedVariables false
set_option linter.unusedSimpArgs false
set_option linter.unusedSectionVars false
set_option maxRecDepth 100000

/-- A row of bytes laid since w0. -/
structure OS (w0 w : World) (v : Value) (B : Bs) : Prop where
  o : OutAt w w0.heap.size 5 v B
  fm : Fm (fun _ => False) w0 w
theorem OS.keep {w0 w w' : World} {v : Value} {B : Bs} (h : OS w0 w v B) (hf : Fm (fun _ => False) w w') : OS w0 w' v B := ⟨h.o.keep hf (fun _ _ _ e => e), Fmf h.fm hf⟩
theorem OS.app {w0 w : World} {v : Value} {B : Bs} (h : OS w0 w v B) (x : Bs) (hl : B.length + x.length ≤ 100000000000) {k : KV} (hk : ∀ v' w', OS w0 w' v' (B ++ x) → k v' w') : RunS Tryz.prog (Builtin.append_ #[123, 9] 123 #[v, stv x]) w k := by
  obtain ⟨v', w', hr, ho, hf⟩ := h.o.app B38 x 123 hl h.fm.size
  exact RunS_ok hr (hk v' w' ⟨ho, Fm.own h.fm hf (fun _ e => e)⟩)
theorem OS.num {w0 w : World} {v : Value} {B : Bs} (h : OS w0 w v B) {u : Value} {ns : List Int} (hns : CellsAt w u ns.length 1 (ns.map iv)) (hin : ∀ n ∈ ns, n ≤ 9223372036854775807) (hl : B.length + 9 * ns.length ≤ 1000000000) {k : KV}
    (hk : ∀ v' w', OS w0 w' v' (B ++ numsB ns) → k v' w') : Cl Tryz.prog 164 [u] w fun t2 w2 => RunS Tryz.prog (Builtin.append_ #[123, 9] 123 #[v, t2]) w2 k := by
  refine (dnum_spec hns hin (by omega)).mono ?_
  rintro _ w2 ⟨rfl, hf2⟩
  have := numsB_len hin
  exact (h.keep hf2).app (numsB ns) (by omega) hk
theorem OS.lit {w0 w : World} {v : Value} {B : Bs} (h : OS w0 w v B) {n : Nat} {ns : List Int} {items : Array (Nat × Value)} (hb : (Instr.buildSlice 23 n items).run Tryz.prog w = .ok (.slice (some ⟨w.heap.size, 0, none⟩) n n) (w.alloc (.cells (ns.map iv).toArray 3))) (hn : ns.length = n) (hin : ∀ n ∈ ns, n ≤ 9223372036854775807) (hl : B.length + 9 * n ≤ 1000000000) {k : KV}
    (hk : ∀ v' w', OS w0 w' v' (B ++ numsB ns) → k v' w') : RunS Tryz.prog (Instr.buildSlice 23 n items) w fun t w1 => Cl Tryz.prog 164 [t] w1 fun t2 w2 => RunS Tryz.prog (Builtin.append_ #[123, 9] 123 #[v, t2]) w2 k := by
  refine RunS_ok hb ?_
  subst hn
  have hf := Fm.alloc (fun _ => False) w (.cells (ns.map iv).toArray 3)
  have hnew := own_new (w := w) (e := 3) (sz := 1) (base := w.heap.size) (n := ns.length) (l := ns.map iv) (by simp) (Nat.le_refl _) (by unfold maxLen; omega)
  exact (h.keep hf).num (CellsAt.of_own hnew) hin hl hk
theorem im_sub {w : World} {ad : Addr} {m : Int} {p : Pg} {u : Value} (h : cellsV w ad 7 = some (.agg (imC (m, p, u)).toArray)) : cellsV w (ad.add 1) 6 = some (.agg (pcs p u)) := by
  refine cellsV_of (l := (pcs p u).toList) rfl fun j hj => ?_
  rw [add_add, Nat.add_comm 1 j]
  have hx : (imC (m, p, u)).toArray[j + 1]? = (pcs p u).toList[j]? := by
    rw [List.getElem?_toArray]; rfl
  have hlt : j < (pcs p u).toList.length := hj
  rw [List.getElem?_eq_getElem hlt] at hx ⊢
  exact cellsV_cell h (i := j + 1) hx

set_option maxHeartbeats 16000000 in
theorem rbody_spec {w : World} {cs : Array Value} {r : Rc} (h : RcAs w cs r) (hlong : longR r = false) (hi0 : ∀ m ∈ r.imgs, pErr m.2 = 0) : Cl Tryz.prog 87 [.agg cs] w fun v w' => v = stv (rBody r) ∧ Fm (fun _ => False) w w' := by
  obtain ⟨vs, vm, vi, vp, vt, hcs, _, hs, hm, hi, hp, ht⟩ := h.ex
  simp only [longR, Bool.or_eq_false_iff, decide_eq_false_iff_not] at hlong
  obtain ⟨⟨⟨⟨⟨l1, l2⟩, l3⟩, l4⟩, l5⟩, l6⟩ := hlong
  have hins := h.ins
  have hk8 := h.kin
  have n9 : ∀ n ∈ [r.lsn, r.prev, r.next, r.redo, r.xid, r.page, r.slot, r.old, r.new], In n := fun n hn => hins n (by unfold rNums; simp only [List.mem_append]; exact .inl (.inl (.inl (.inl (.inl hn)))))
  have nsl : ∀ n ∈ r.slots, n ≤ 9223372036854775807 := fun n hn => (hins n (by unfold rNums; simp only [List.mem_append]; exact .inl (.inl (.inl (.inl (.inr hn)))))).2
  have nmo : ∀ n ∈ r.more, n ≤ 9223372036854775807 := fun n hn => (hins n (by unfold rNums; simp only [List.mem_append]; exact .inl (.inl (.inl (.inr hn))))).2
  have nim : ∀ m ∈ r.imgs, m.1 ≤ 9223372036854775807 := fun m hm => (hins m.1 (by unfold rNums; simp only [List.mem_append]; exact .inl (.inl (.inr (List.mem_map.2 ⟨m, hm, rfl⟩))))).2
  have npg : ∀ m ∈ r.pages, m.1 ≤ 9223372036854775807 ∧ m.2 ≤ 9223372036854775807 := fun m hm => ⟨(hins m.1 (by unfold rNums; simp only [List.mem_append]; exact .inl (.inr (mem_prs hm).1))).2, (hins m.2 (by unfold rNums; simp only [List.mem_append]; exact .inl (.inr (mem_prs hm).2))).2⟩
  have ntx : ∀ m ∈ r.txns, m.1 ≤ 9223372036854775807 ∧ m.2 ≤ 9223372036854775807 := fun m hm => ⟨(hins m.1 (by unfold rNums; simp only [List.mem_append]; exact .inr (mem_prs hm).1)).2, (hins m.2 (by unfold rNums; simp only [List.mem_append]; exact .inr (mem_prs hm).2)).2⟩
  have nhd : ∀ n ∈ headL r, n ≤ 9223372036854775807 := fun n hn => by
    unfold headL at hn
    simp only [List.mem_cons, List.not_mem_nil, or_false] at hn
    rcases hn with rfl | rfl | rfl | rfl | rfl | rfl | rfl | rfl | rfl | rfl <;> first | omega | exact (n9 _ (by simp)).2
  refine c87 ?_; unfold T87
  refine New_any ?_
  intro x1 w1 hx1 hs1 hw1 hf1
  have hR1 : RB w1 x1 r vs vm vi vp vt := ⟨by rw [← hcs]; exact hw1⟩
  have kS : ∀ {w'}, Fm (fun _ => False) w1 w' → CellsAt w' vs r.slots.length 1 (r.slots.map iv) := fun hf => hs.keep (Fmf hf1 hf) (fun _ _ e => e)
  have kM : ∀ {w'}, Fm (fun _ => False) w1 w' → CellsAt w' vm r.more.length 1 (r.more.map iv) := fun hf => hm.keep (Fmf hf1 hf) (fun _ _ e => e)
  have kI : ∀ {w'}, Fm (fun _ => False) w1 w' → ImAs w' vi r.imgs := fun hf => hi.keep (Fmf hf1 hf)
  have kP : ∀ {w'}, Fm (fun _ => False) w1 w' → CellsAt w' vp r.pages.length 2 (r.pages.flatMap pc2) := fun hf => hp.keep (Fmf hf1 hf) (fun _ _ e => e)
  have kT : ∀ {w'}, Fm (fun _ => False) w1 w' → CellsAt w' vt r.txns.length 2 (r.txns.flatMap pc2) := fun hf => ht.keep (Fmf hf1 hf) (fun _ _ e => e)
  have kR : ∀ {w'}, Fm (fun _ => False) w1 w' → RB w' x1 r vs vm vi vp vt := fun hf => hR1.keep hf (fun e => e)
  have ek : IntKind.i64.wrap r.kind = r.kind := by rw [wrap_id]; omega
  have ekc : cvI .i64 (.int .u8 r.kind) = some (iv r.kind) := by
    show some (Value.int .i64 (IntKind.i64.wrap r.kind)) = _
    rw [ek]
  refine ⟨fun w' => w'.cell? ⟨x1, 10, none⟩ = some (stv r.data), (kR (Fm.drew _ w1)).c10, ?_⟩
  simp only [RS0, RS1, RS2, RS3, RS4, RS5, hR1.c0, hR1.c1, hR1.c2, hR1.c3, hR1.c4, hR1.c5, hR1.c6, hR1.c7, hR1.c8, hR1.c9, ekc, true_and]
  refine ⟨stv r.data, fun w9 h9 => ?_, ?_⟩
  · simp only [RS0, RS1, RS2, RS3, RS4, RS5, h9]; trivial
  have hfd := Fm.drew (fun _ => False) w1
  generalize w1.drew = w2 at hfd
  refine RunS_ok (bs47_10 _ _ _ _ _ _ _ _ _ _ _) ?_
  have hfa := Fm.alloc (fun _ => False) w2 (.cells ((headL r).map iv).toArray 3)
  have hnew := own_new (w := w2) (e := 3) (sz := 1) (base := w2.heap.size) (n := 10) (l := (headL r).map iv) rfl (Nat.le_refl _) (by decide)
  have hF3 := Fmf hfd hfa
  refine ⟨(kR hF3).c10, ?_⟩
  refine (dnum_spec (ns := headL r) (CellsAt.of_own hnew) nhd (by simp [headL])).mono ?_
  rintro _ w3 ⟨rfl, hf3⟩
  replace hF3 := Fmf hF3 hf3
  refine ⟨(kR hF3).c10, ?_⟩
  refine (dtext_spec w3 r.data (by omega)).mono ?_
  rintro _ w4 ⟨rfl, hf4⟩
  replace hF3 := Fmf hF3 hf4
  clear hf4 hf3 hnew hfa hfd
  have hl3 : (numsB (headL r)).length ≤ 90 := by have := numsB_len nhd; exact this
  have hlt4 : (txtB r.data).length ≤ 600 := by
    have := encI_len (n := r.data.length) (by omega)
    unfold txtB; rw [List.length_append]; omega
  rw [sadd (by omega)]
  try simp only [RS0, RS1, RS2, RS3, RS4, RS5]
  have hl4 : (numsB (headL r) ++ txtB r.data).length ≤ 700 := by rw [List.length_append]; omega
  generalize hB4 : numsB (headL r) ++ txtB r.data = B4 at hl4
  obtain ⟨v5, w5, hr5, ho5, hf5⟩ := OutAt.new B38 w4 B4 (by unfold maxLen; omega) hF3.size
  refine RunS_ok hr5 ?_
  have h5 : OS w1 w5 v5 B4 := ⟨ho5, Fmf hF3 hf5⟩
  clear ho5 hf5 hr5 hF3
  simp only [RS0, RS1, RS2, RS3, RS4, RS5, (kR h5.fm).c11, (kS h5.fm).lenV]
  have hls : (listB r.slots).length ≤ 2400 := by
    have := numsB_len nsl
    have := encI_len (n := r.slots.length) (by omega)
    unfold listB; rw [List.length_append]; omega
  have hlm : (listB r.more).length ≤ 2400 := by
    have := numsB_len nmo
    have := encI_len (n := r.more.length) (by omega)
    unfold listB; rw [List.length_append]; omega
  have eS := encI_len (n := r.slots.length) (by omega)
  have eM := encI_len (n := r.more.length) (by omega)
  have eI := encI_len (n := r.imgs.length) (by omega)
  have eP := encI_len (n := r.pages.length) (by omega)
  have eT := encI_len (n := r.txns.length) (by omega)
  refine h5.lit (bs47_1 _ _) rfl (by intro n hn; simp at hn; omega) (by omega) ?_
  intro v6 w6 h6
  rw [numsB1] at h6
  simp only [RS0, RS1, RS2, RS3, RS4, RS5, (kR h6.fm).c11]
  refine h6.num (kS h6.fm) nsl (by rw [List.length_append]; omega) ?_
  intro v7 w7 h7
  replace h7 : OS w1 w7 v7 (B4 ++ listB r.slots) := by have := h7; rw [List.append_assoc] at this; exact this
  simp only [RS0, RS1, RS2, RS3, RS4, RS5, (kR h7.fm).c12, (kM h7.fm).lenV]
  refine h7.lit (bs47_1 _ _) rfl (by intro n hn; simp at hn; omega) (by rw [List.length_append]; omega) ?_
  intro v8 w8 h8
  rw [numsB1] at h8
  simp only [RS0, RS1, RS2, RS3, RS4, RS5, (kR h8.fm).c12]
  refine h8.num (kM h8.fm) nmo (by simp only [List.length_append]; omega) ?_
  intro v9 w9 h9
  replace h9 : OS w1 w9 v9 (B4 ++ listB r.slots ++ listB r.more) := by have := h9; rw [List.append_assoc (B4 ++ listB r.slots)] at this; exact this
  have hl5 : (B4 ++ listB r.slots ++ listB r.more).length ≤ 6000 := by simp only [List.length_append]; omega
  generalize hB5 : B4 ++ listB r.slots ++ listB r.more = B5 at h9 hl5
  simp only [RS0, RS1, RS2, RS3, RS4, RS5, (kR h9.fm).c13, (kI h9.fm).lenV]
  refine h9.lit (bs47_1 _ _) rfl (by intro n hn; simp at hn; omega) (by omega) ?_
  intro v10 w10 h10
  rw [numsB1] at h10
  have hl6 : (B5 ++ encI (r.imgs.length : Int)).length ≤ 6010 := by rw [List.length_append]; omega
  generalize hB6 : B5 ++ encI (r.imgs.length : Int) = B6 at h10 hl6
  refine ⟨fun vl w' => ∃ (i : Nat) (o : Value), vl = [o, iv i] ∧ i ≤ r.imgs.length ∧ OS w1 w' o (B6 ++ (r.imgs.take i).flatMap imgB) ∧ (B6 ++ (r.imgs.take i).flatMap imgB).length ≤ 6010 + 600 * i, fun vl _ => (r.imgs.length - nth vl 1).toNat, ⟨0, _, rfl, by omega, by simpa using h10, by simpa using hl6⟩, ?_⟩
  rintro _ w11 ov iw ⟨i, o, hvl, hile, h11, hl11⟩
  cases hvl
  have hR11 := kR h11.fm
  have hI11 := kI h11.fm
  by_cases hlt : i < r.imgs.length
  · have hx : r.imgs[i]? = some r.imgs[i] := List.getElem?_eq_getElem hlt
    generalize r.imgs[i] = m at hx
    have hmm := List.mem_of_getElem? hx
    obtain ⟨ad, u, hix, hcv, hone, hpg⟩ := hI11.ld hx
    have hc0 : w11.cell? ad = some (iv m.1) := by
      have := cellsV_cell hcv (i := 0) (x := iv m.1) rfl
      rw [Go.Al.add_zero] at this; exact this
    have d2 : decide ((i : Int) < (r.imgs.length : Int)) = true := by rw [decide_eq_true_eq]; omega
    have e1 : IntKind.i64.wrap ((i : Int) + 1) = ((i + 1 : Nat) : Int) := by rw [wrap_id] <;> omega
    have h0 := hi0 m hmm
    have hlen := pEnc_len h0
    simp only [RS0, RS1, RS2, RS3, RS4, RS5, hR11.c13, hI11.lenV, d2]
    have hsub := im_sub hcv
    refine ⟨fun w' => w'.cell? ⟨x1, 13, none⟩ = some vi ∧ cellsV w' (ad.add 1) 6 = some (.agg (pcs m.2 u)), ⟨hR11.c13, cellsV_keep hsub (Fm.drew (fun _ => False) w11) (fun e => e)⟩, ?_⟩
    simp only [RS0, RS1, RS2, RS3, RS4, RS5, hR11.c13, hix, hc0, true_and]
    refine ⟨vi, fun w9 h9 => ?_, ?_⟩
    · simp only [RS0, RS1, RS2, RS3, RS4, RS5, h9.1]; trivial
    simp only [RS0, RS1, RS2, RS3, RS4, RS5, hix]
    refine ⟨.agg (pcs m.2 u), fun w9 h9 => ?_, ?_⟩
    · simp only [RS0, RS1, RS2, RS3, RS4, RS5, h9.2]; trivial
    have hfd := Fm.drew (fun _ => False) w11
    have h12 := h11.keep hfd
    generalize w11.drew = w12 at hfd h12
    refine RunS_ok (bs47_1 _ _) ?_
    have hfa := Fm.alloc (fun _ => False) w12 (.cells ([m.1].map iv).toArray 3)
    have hnew := own_new (w := w12) (e := 3) (sz := 1) (base := w12.heap.size) (n := 1) (l := [m.1].map iv) rfl (Nat.le_refl _) (by decide)
    have hF13 := Fmf hfd hfa
    refine ⟨⟨(hR11.keep hF13 (fun e => e)).c13, cellsV_keep hsub hF13 (fun e => e)⟩, ?_⟩
    refine (dnum_spec (ns := [m.1]) (CellsAt.of_own hnew) (by intro n hn; simp at hn; subst hn; exact nim m hmm) (by simp)).mono ?_
    rintro _ w13 ⟨rfl, hf13⟩
    replace hF13 := Fmf hF13 hf13
    refine ⟨⟨(hR11.keep hF13 (fun e => e)).c13, cellsV_keep hsub hF13 (fun e => e)⟩, ?_⟩
    refine (bare_spec (hpg.keep hF13) (by omega)).mono ?_
    rintro _ w14 ⟨rfl, hf14⟩
    obtain ⟨_, htl⟩ := trim_pad hlen
    have hel := encI_len (nim m hmm)
    have hel2 := encI_len (n := (trimZ (pEnc m.2).1).length) (by omega)
    refine (dtext_spec w14 _ (by omega)).mono ?_
    rintro _ w15 ⟨rfl, hf15⟩
    replace hF13 := Fmf hF13 (Fmf hf14 hf15)
    rw [numsB1]
    have htx : (txtB (trimZ (pEnc m.2).1)).length ≤ 530 := by unfold txtB; rw [List.length_append]; omega
    rw [sadd (by omega)]
    try simp only [RS0, RS1, RS2, RS3, RS4, RS5]
    have hq : (encI m.1 ++ txtB (trimZ (pEnc m.2).1)).length ≤ 540 := by rw [List.length_append]; omega
    refine (h11.keep hF13).app _ (by omega) ?_
    intro v16 w16 h16
    simp only [RS0, RS1, RS2, RS3, RS4, RS5, e1]
    have e2 : B6 ++ (r.imgs.take (i + 1)).flatMap imgB = B6 ++ (r.imgs.take i).flatMap imgB ++ (encI m.1 ++ txtB (trimZ (pEnc m.2).1)) := by rw [List.take_add_one, hx]; simp [imgB]
    refine ⟨⟨i + 1, _, rfl, by omega, by rw [e2]; exact h16, ?_⟩, by simp only [nth_1]; omega⟩
    rw [e2]
    simp only [List.length_append] at hl11 ⊢
    omega
  have hie2 : i = r.imgs.length := by omega
  subst hie2
  have d2 : decide (((r.imgs.length : Nat) : Int) < (r.imgs.length : Int)) = false := by simp
  rw [List.take_length] at h11 hl11
  have hl7' : (B6 ++ r.imgs.flatMap imgB).length ≤ 9000 := by omega
  generalize hB7 : B6 ++ r.imgs.flatMap imgB = B7 at h11 hl7'
  simp only [RS0, RS1, RS2, RS3, RS4, RS5, hR11.c13, hI11.lenV, d2, hR11.c14, (kP h11.fm).lenV]
  refine h11.lit (bs47_1 _ _) rfl (by intro n hn; simp at hn; omega) (by omega) ?_
  intro v20 w20 h20
  rw [numsB1] at h20
  have hl16 : (B7 ++ encI (r.pages.length : Int)).length ≤ 9100 := by rw [List.length_append]; omega
  generalize hB16 : B7 ++ encI (r.pages.length : Int) = B16 at h20 hl16
  clear hlt hl11 h11 hR11 hI11 d2
  refine ⟨fun vl w' => ∃ (i : Nat) (o : Value), vl = [o, iv i] ∧ i ≤ r.pages.length ∧ OS w1 w' o (B16 ++ (r.pages.take i).flatMap prB) ∧ (B16 ++ (r.pages.take i).flatMap prB).length ≤ 9100 + 18 * i, fun vl _ => (r.pages.length - nth vl 1).toNat, ⟨0, _, rfl, by omega, by simpa using h20, by simpa using hl16⟩, ?_⟩
  rintro _ w21 ov iw ⟨i, o, hvl, hile, h21, hl21⟩
  cases hvl
  have hR21 := kR h21.fm
  have hP21 := kP h21.fm
  by_cases hlt : i < r.pages.length
  · have hx : r.pages[i]? = some r.pages[i] := List.getElem?_eq_getElem hlt
    generalize r.pages[i] = m at hx
    have hmm := List.mem_of_getElem? hx
    obtain ⟨ad, hix, hcv, _⟩ := cells_ld pc2_len (by omega) hP21 hx
    have hc0 : w21.cell? ad = some (iv m.1) := by
      have := cellsV_cell hcv (i := 0) (x := iv m.1) rfl
      rw [Go.Al.add_zero] at this; exact this
    have hc1 : w21.cell? (ad.add 1) = some (iv m.2) := cellsV_cell hcv (i := 1) (x := iv m.2) rfl
    have d2 : decide ((i : Int) < (r.pages.length : Int)) = true := by rw [decide_eq_true_eq]; omega
    have e1 : IntKind.i64.wrap ((i : Int) + 1) = ((i + 1 : Nat) : Int) := by rw [wrap_id] <;> omega
    obtain ⟨hm1, hm2⟩ := npg m hmm
    simp only [RS0, RS1, RS2, RS3, RS4, RS5, hR21.c14, hP21.lenV, d2, hix, hc0, hc1, true_and]
    have h22 := h21.keep (Fm.drew (fun _ => False) w21)
    refine h22.lit (bs47_2 _ _ _) rfl (by intro n hn; simp at hn; rcases hn with rfl | rfl <;> assumption) (by omega) ?_
    intro v23 w23 h23
    rw [numsB2] at h23
    simp only [RS0, RS1, RS2, RS3, RS4, RS5, e1]
    have e2 : B16 ++ (r.pages.take (i + 1)).flatMap prB = B16 ++ (r.pages.take i).flatMap prB ++ prB (m.1, m.2) := by rw [List.take_add_one, hx]; simp
    refine ⟨⟨i + 1, _, rfl, by omega, by rw [e2]; exact h23, ?_⟩, by simp only [nth_1]; omega⟩
    rw [e2]
    have := prB_len (p := (m.1, m.2)) hm1 hm2
    rw [List.length_append]
    omega
  have hie2 : i = r.pages.length := by omega
  subst hie2
  have d2 : decide (((r.pages.length : Nat) : Int) < (r.pages.length : Int)) = false := by simp
  rw [List.take_length] at h21 hl21
  have hl17' : (B16 ++ r.pages.flatMap prB).length ≤ 160000 := by omega
  generalize hB17 : B16 ++ r.pages.flatMap prB = B17 at h21 hl17'
  simp only [RS0, RS1, RS2, RS3, RS4, RS5, hR21.c14, hP21.lenV, d2, hR21.c15, (kT h21.fm).lenV]
  refine h21.lit (bs47_1 _ _) rfl (by intro n hn; simp at hn; omega) (by omega) ?_
  intro v30 w30 h30
  rw [numsB1] at h30
  have hl26 : (B17 ++ encI (r.txns.length : Int)).length ≤ 160100 := by rw [List.length_append]; omega
  generalize hB26 : B17 ++ encI (r.txns.length : Int) = B26 at h30 hl26
  clear hlt hl21 h21 hR21 hP21 d2
  refine ⟨fun vl w' => ∃ (i : Nat) (o : Value), vl = [o, iv i] ∧ i ≤ r.txns.length ∧ OS w1 w' o (B26 ++ (r.txns.take i).flatMap prB) ∧ (B26 ++ (r.txns.take i).flatMap prB).length ≤ 160100 + 18 * i, fun vl _ => (r.txns.length - nth vl 1).toNat, ⟨0, _, rfl, by omega, by simpa using h30, by simpa using hl26⟩, ?_⟩
  rintro _ w31 ov iw ⟨i, o, hvl, hile, h31, hl31⟩
  cases hvl
  have hR31 := kR h31.fm
  have hT31 := kT h31.fm
  by_cases hlt : i < r.txns.length
  · have hx : r.txns[i]? = some r.txns[i] := List.getElem?_eq_getElem hlt
    generalize r.txns[i] = m at hx
    have hmm := List.mem_of_getElem? hx
    obtain ⟨ad, hix, hcv, _⟩ := cells_ld pc2_len (by omega) hT31 hx
    have hc0 : w31.cell? ad = some (iv m.1) := by
      have := cellsV_cell hcv (i := 0) (x := iv m.1) rfl
      rw [Go.Al.add_zero] at this; exact this
    have hc1 : w31.cell? (ad.add 1) = some (iv m.2) := cellsV_cell hcv (i := 1) (x := iv m.2) rfl
    have d2 : decide ((i : Int) < (r.txns.length : Int)) = true := by rw [decide_eq_true_eq]; omega
    have e1 : IntKind.i64.wrap ((i : Int) + 1) = ((i + 1 : Nat) : Int) := by rw [wrap_id] <;> omega
    obtain ⟨hm1, hm2⟩ := ntx m hmm
    simp only [RS0, RS1, RS2, RS3, RS4, RS5, hR31.c15, hT31.lenV, d2, hix, hc0, hc1, true_and]
    have h22 := h31.keep (Fm.drew (fun _ => False) w31)
    refine h22.lit (bs47_2 _ _ _) rfl (by intro n hn; simp at hn; rcases hn with rfl | rfl <;> assumption) (by omega) ?_
    intro v23 w23 h23
    rw [numsB2] at h23
    simp only [RS0, RS1, RS2, RS3, RS4, RS5, e1]
    have e2 : B26 ++ (r.txns.take (i + 1)).flatMap prB = B26 ++ (r.txns.take i).flatMap prB ++ prB (m.1, m.2) := by rw [List.take_add_one, hx]; simp
    refine ⟨⟨i + 1, _, rfl, by omega, by rw [e2]; exact h23, ?_⟩, by simp only [nth_1]; omega⟩
    rw [e2]
    have := prB_len (p := (m.1, m.2)) hm1 hm2
    rw [List.length_append]
    omega
  have hie2 : i = r.txns.length := by omega
  subst hie2
  have d2 : decide (((r.txns.length : Nat) : Int) < (r.txns.length : Int)) = false := by simp
  rw [List.take_length] at h31 hl31
  simp only [RS0, RS1, RS2, RS3, RS4, RS5, hR31.c15, hT31.lenV, d2]
  refine RunS_ok (h31.o.conv B38) ⟨?_, Fmf hf1 h31.fm⟩
  rw [← hB26, ← hB17, ← hB16, ← hB7, ← hB6, ← hB5, ← hB4]
  rfl

end Go.Proofs.YthbngnlmgplijaaGreatDoor

namespace Go.Proofs.YthbngnlmgplijaaGreatDoor
open Go.Al Go.Proofs
set_option linter.unusedVariables false
set_option linter.unusedSimpArgs false
set_option linter.unusedSectionVars false
set_option maxRecDepth 100000

set_option maxHeartbeats 8000000 in
theorem rcheckR_spec {w : World} {cs : Array Value} {r : Rc} (h : RcAs w cs r) : Cl Tryz.prog 86 [.agg cs] w fun v w' => v = iv (rCheck r).2 ∧ Fm (fun _ => False) w w' := by
  obtain ⟨vs, vm, vi, vp, vt, hcs, _, hs, hm, hi, hp, ht⟩ := h.ex
  have hk8 := h.kin
  have hbulk := h.bulk
  refine c86 ?_; unfold T86
  refine New_any ?_
  intro x1 w1 hx1 hs1 hw1 hf1
  have hR1 : RB w1 x1 r vs vm vi vp vt := ⟨by rw [← hcs]; exact hw1⟩
  have h1 := h.keep hf1
  rw [hcs] at h1
  unfold rCheck
  simp only [RS0, RS1, RS2, RS3, RS4, RS5, hR1.c3]
  cases e1 : decide (r.kind < 1) with
  | true =>
    simp only [RS0, RS1, RS2, RS3, RS4, RS5, Bool.true_or, cond_true]
    exact ⟨(by trivial), hf1⟩
  | false =>
  simp only [RS0, RS1, RS2, RS3, RS4, RS5, hR1.c3, Bool.false_or]
  cases e2 : decide (13 < r.kind) with
  | true =>
    simp only [RS0, RS1, RS2, RS3, RS4, RS5, cond_true]
    exact ⟨(by trivial), hf1⟩
  | false =>
  simp only [RS0, RS1, RS2, RS3, RS4, RS5, cond_false, hR1.all]
  refine (ranges_spec h1).mono ?_
  rintro _ w2 ⟨rfl, hf2⟩
  have hF2 := Fmf hf1 hf2
  have hR2 := hR1.keep hf2 (fun e => e)
  unfold rangeR
  cases e3 : decide (r.lsn < 1) || (rNums r).any badN with
  | true =>
    simp only [RS0, RS1, RS2, RS3, RS4, RS5, cond_true]
    exact ⟨(by trivial), hF2⟩
  | false =>
  have m1 : decide ((512 : Int) < (r.data.length : Int)) = decide (512 < r.data.length) := by rw [decide_eq_decide]; omega
  have m2 : decide ((255 : Int) < (r.slots.length : Int)) = decide (255 < r.slots.length) := by rw [decide_eq_decide]; omega
  have m3 : decide ((255 : Int) < (r.more.length : Int)) = decide (255 < r.more.length) := by rw [decide_eq_decide]; omega
  have m4 : decide ((4 : Int) < (r.imgs.length : Int)) = decide (4 < r.imgs.length) := by rw [decide_eq_decide]; omega
  have m5 : decide ((8192 : Int) < (r.pages.length : Int)) = decide (8192 < r.pages.length) := by rw [decide_eq_decide]; omega
  have m6 : decide ((1024 : Int) < (r.txns.length : Int)) = decide (1024 < r.txns.length) := by rw [decide_eq_decide]; omega
  simp only [RS0, RS1, RS2, RS3, RS4, RS5, cond_false, hR2.c10, str_size, m1]
  have long : ∀ {w'}, longR r = true → Fm (fun _ => False) w w' → Value.int .i64 3 = iv (bif longR r then (([] : Bs), (3 : Int)) else rInner r).2 ∧ Fm (fun _ => False) w w' := fun hl hf => ⟨by rw [hl]; rfl, hf⟩
  cases q1 : decide (512 < r.data.length) with
  | true => simp only [RS0, RS1, RS2, RS3, RS4, RS5]; exact long (by simp [longR, q1]) hF2
  | false =>
  simp only [RS0, RS1, RS2, RS3, RS4, RS5, hR2.c11, hs.lenV, m2]
  cases q2 : decide (255 < r.slots.length) with
  | true => simp only [RS0, RS1, RS2, RS3, RS4, RS5]; exact long (by simp [longR, q2]) hF2
  | false =>
  simp only [RS0, RS1, RS2, RS3, RS4, RS5, hR2.c12, hm.lenV, m3]
  cases q3 : decide (255 < r.more.length) with
  | true => simp only [RS0, RS1, RS2, RS3, RS4, RS5]; exact long (by simp [longR, q3]) hF2
  | false =>
  simp only [RS0, RS1, RS2, RS3, RS4, RS5, hR2.c13, hi.lenV, m4]
  cases q4 : decide (4 < r.imgs.length) with
  | true => simp only [RS0, RS1, RS2, RS3, RS4, RS5]; exact long (by simp [longR, q4]) hF2
  | false =>
  simp only [RS0, RS1, RS2, RS3, RS4, RS5, hR2.c14, hp.lenV, m5]
  cases q5 : decide (8192 < r.pages.length) with
  | true => simp only [RS0, RS1, RS2, RS3, RS4, RS5]; exact long (by simp [longR, q5]) hF2
  | false =>
  simp only [RS0, RS1, RS2, RS3, RS4, RS5, hR2.c15, ht.lenV, m6]
  cases q6 : decide (1024 < r.txns.length) with
  | true => simp only [RS0, RS1, RS2, RS3, RS4, RS5]; exact long (by simp [longR, q6]) hF2
  | false =>
  have hl : longR r = false := by unfold longR; rw [q1, q2, q3, q4, q5, q6]; rfl
  rw [hl, cond_false]
  simp only [RS0, RS1, RS2, RS3, RS4, RS5]
  clear long
  refine ⟨fun vl w3 => ∃ i : Nat, vl = [iv i] ∧ i ≤ r.imgs.length ∧ imgErr r.imgs = imgErr (r.imgs.drop i) ∧ (∀ m ∈ r.imgs.take i, pErr m.2 = 0) ∧ Fm (fun _ => False) w2 w3, fun vl _ => (r.imgs.length - nth vl 0).toNat, ⟨0, rfl, by omega, rfl, by simp, Fm.refl _ _⟩, ?_⟩
  rintro _ w3 iv3 ⟨i, hvl, hile, hie, hno, hf3⟩
  cases hvl
  have hF3 := Fmf hF2 hf3
  have hR3 := hR2.keep hf3 (fun e => e)
  have hi3 := hi.keep hF3
  by_cases hlt : i < r.imgs.length
  · have hx : r.imgs[i]? = some r.imgs[i] := List.getElem?_eq_getElem hlt
    have hdr := List.drop_eq_getElem_cons hlt
    generalize r.imgs[i] = m at hx hdr
    rw [hdr] at hie
    obtain ⟨ad, u, hix, hcv, hone, hpg⟩ := hi3.ld hx
    have d2 : decide ((i : Int) < (r.imgs.length : Int)) = true := by rw [decide_eq_true_eq]; omega
    have e2 : IntKind.i64.wrap ((i : Int) + 1) = ((i + 1 : Nat) : Int) := by rw [wrap_id] <;> omega
    simp only [RS0, RS1, RS2, RS3, RS4, RS5, hR3.c13, hi3.lenV, d2, hix, im_sub hcv]
    refine (rencode_spec hpg).mono ?_
    rintro _ w4 ⟨rfl, hf4⟩
    have he : encR m.2 = .tuple #[stv (pEnc m.2).1, iv (pErr m.2)] := by unfold encR; rw [pEnc_err]
    rw [he]
    rw [show imgErr (m :: r.imgs.drop (i + 1)) = bif decide (pErr m.2 = 0) then imgErr (r.imgs.drop (i + 1)) else pErr m.2 from rfl] at hie
    simp only [RS0, RS1, RS2, RS3, RS4, RS5, bne_dec]
    cases hz : decide (pErr m.2 = 0) with
    | false =>
      rw [hz, cond_false] at hie
      have hz' : decide (imgErr r.imgs = 0) = false := by rw [hie]; exact hz
      simp only [RS0, RS1, RS2, RS3, RS4, RS5, Bool.not_false]
      refine ⟨?_, Fmf hF3 hf4⟩
      unfold rInner
      rw [hz', cond_false, hie]
    | true =>
      rw [hz, cond_true] at hie
      have h0 : pErr m.2 = 0 := by simpa using hz
      simp only [RS0, RS1, RS2, RS3, RS4, RS5, Bool.not_true, e2]
      refine ⟨⟨i + 1, rfl, by omega, hie, ?_, Fmf hf3 hf4⟩, by simp only [nth_0]; omega⟩
      intro y hy
      rw [List.take_add_one, hx] at hy
      rcases List.mem_append.1 hy with hy | hy
      · exact hno y hy
      · simp at hy; subst hy; exact h0
  have hie2 : i = r.imgs.length := by omega
  subst hie2
  rw [List.drop_length] at hie
  rw [List.take_length] at hno
  have d2 : decide (((r.imgs.length : Nat) : Int) < (r.imgs.length : Int)) = false := by simp
  have hie0 : decide (imgErr r.imgs = 0) = true := by rw [hie]; rfl
  simp only [RS0, RS1, RS2, RS3, RS4, RS5, hR3.c13, hi3.lenV, d2, hR3.all]
  refine (rbody_spec ((h1.keep hf2).keep hf3) hl hno).mono ?_
  rintro _ w4 ⟨rfl, hf4⟩
  have hF4 := Fmf hF3 hf4
  unfold rInner
  rw [hie0, cond_true]
  generalize rBody r = B
  have d9 : decide ((65535 : Int) < (B.length : Int)) = decide (65535 < B.length) := by rw [decide_eq_decide]; omega
  simp only [RS0, RS1, RS2, RS3, RS4, RS5, str_size, d9]
  cases hbig : decide (65535 < B.length) with
  | true =>
    simp only [RS0, RS1, RS2, RS3, RS4, RS5, cond_true]
    exact ⟨(by trivial), hF4⟩
  | false =>
    simp only [RS0, RS1, RS2, RS3, RS4, RS5, cond_false]
    exact ⟨(by trivial), hF4⟩

end Go.Proofs.YthbngnlmgplijaaGreatDoor

namespace Go.Proofs.YthbngnlmgplijaaGreatDoor
open Go.Al Go.Proofs
set_option linter.unusedVariables false
set_option linter.unusedSimpArgs false
set_option linter.unusedSectionVars false
set_option maxRecDepth 100000

theorem rn_in (most : Int) (st : St2) : 0 ≤ (rn most st).1 ∧ (rn most st).1 ≤ max most 0 ∧ (rn most st).2.1.length ≤ st.1.length := by
  unfold rn rdNum
  cases decide (st.2 = 0) with
  | true => exact rdN_in most 9 0 0 st.1
  | false => exact ⟨Int.le_refl _, by show (0 : Int) ≤ _; omega, Nat.le_refl _⟩
theorem rt_in {most : Int} (hm : 0 ≤ most) (st : St2) : ((rt most st).1.length : Int) ≤ most ∧ (rt most st).2.1.length ≤ st.1.length := by
  have h := rn_in most st
  unfold rt
  cases decide ((rn most st).2.2 = 0) with
  | true =>
    cases hd : decide (((rn most st).2.1.length : Int) < (rn most st).1) with
    | true => simp; omega
    | false => simp only [cond_true, cond_false, List.length_take, List.length_drop]; omega
  | false => simp only [cond_false, List.length_nil]; omega
theorem rlGo_in : ∀ (n : Nat) (st : St2), (rlGo n st).1.length ≤ n ∧ (∀ x ∈ (rlGo n st).1, okN x) ∧ (rlGo n st).2.1.length ≤ st.1.length
  | 0, st => ⟨Nat.le_refl _, by simp [rlGo], Nat.le_refl _⟩
  | n + 1, st => by
    have h := rn_in 4611686018427387904 st
    have ih := rlGo_in n (rn 4611686018427387904 st).2
    have h1 : okN (rn 4611686018427387904 st).1 := ⟨h.1, by have := h.2.1; omega⟩
    unfold rlGo
    cases decide ((rn 4611686018427387904 st).2.2 = 0) with
    | true =>
      simp only [cond_true, List.length_cons]
      refine ⟨by omega, fun x hx => ?_, by omega⟩
      rcases List.mem_cons.1 hx with rfl | hx
      · exact h1
      · exact ih.2.1 x hx
    | false =>
      simp only [cond_false]
      refine ⟨by simp, fun x hx => ?_, h.2.2⟩
      obtain rfl : x = _ := by simpa using hx
      exact h1
theorem rl_in {most : Int} (hm : 0 ≤ most) (st : St2) : ((rl most st).1.length : Int) ≤ most ∧ (∀ x ∈ (rl most st).1, okN x) ∧ (rl most st).2.1.length ≤ st.1.length := by
  have h := rn_in most st
  have h2 := rlGo_in (rn most st).1.toNat (rn most st).2
  unfold rl
  exact ⟨by omega, h2.2.1, by omega⟩
theorem riGo_in : ∀ (n : Nat) (st : St2) {r : List (Int × Pg) × St2}, riGo n st = some r → r.1.length = n ∧ (∀ m ∈ r.1, okN m.1 ∧ m.2.lsn ≤ 9223372036854775807) ∧ r.2.1.length ≤ st.1.length
  | 0, st, r, h => by cases h; exact ⟨rfl, by simp, Nat.le_refl _⟩
  | n + 1, st, r, h => by
    have h0 := rn_in 4611686018427387904 st
    have h1 := rt_in (most := 512) (by omega) (rn 4611686018427387904 st).2
    unfold riGo at h
    cases hc : decide ((pDec (padZ (rt 512 (rn 4611686018427387904 st).2).1)).2 = 0) && decide ((rt 512 (rn 4611686018427387904 st).2).2.2 = 0) with
    | false => rw [hc, cond_false] at h; cases h
    | true =>
      rw [hc, cond_true, Option.map_eq_some_iff] at h
      obtain ⟨q, hq, rfl⟩ := h
      have ih := riGo_in n _ hq
      rw [Bool.and_eq_true, decide_eq_true_eq] at hc
      refine ⟨by simp only [List.length_cons]; omega, fun m hm => ?_, by simp only; omega⟩
      rcases List.mem_cons.1 hm with rfl | hm
      · exact ⟨⟨h0.1, by have := h0.2.1; simp only; omega⟩, (enc_dec hc.1).2.2⟩
      · exact ih.2.1 m hm
theorem rpGo_in : ∀ (n : Nat) (st : St2) {r : List (Int × Int) × St2}, rpGo n st = some r → r.1.length = n ∧ (∀ m ∈ r.1, okN m.1 ∧ okN m.2) ∧ r.2.1.length ≤ st.1.length
  | 0, st, r, h => by cases h; exact ⟨rfl, by simp, Nat.le_refl _⟩
  | n + 1, st, r, h => by
    have h0 := rn_in 4611686018427387904 st
    have h1 := rn_in 4611686018427387904 (rn 4611686018427387904 st).2
    unfold rpGo at h
    cases hc : decide (st.2 = 0) with
    | false => rw [hc, cond_false] at h; cases h
    | true =>
      rw [hc, cond_true, Option.map_eq_some_iff] at h
      obtain ⟨q, hq, rfl⟩ := h
      have ih := rpGo_in n _ hq
      refine ⟨by simp only [List.length_cons]; omega, fun m hm => ?_, by simp only; omega⟩
      rcases List.mem_cons.1 hm with rfl | hm
      · exact ⟨⟨h0.1, by have := h0.2.1; simp only; omega⟩, ⟨h1.1, by have := h1.2.1; simp only; omega⟩⟩
      · exact ih.2.1 m hm
structure Bnd (r : Rc) : Prop where
  nums : ∀ n ∈ rNums r, okN n
  kind : 0 ≤ r.kind ∧ r.kind ≤ 13
  data : r.data.length ≤ 512
  slots : r.slots.length ≤ 255
  more : r.more.length ≤ 255
  imgs : r.imgs.length ≤ 4
  pages : r.pages.length ≤ 8192
  txns : r.txns.length ≤ 1024
  lsns : ∀ m ∈ r.imgs, m.2.lsn ≤ 9223372036854775807
theorem mem_prs2 {l : List (Int × Int)} {n : Int} (h : n ∈ prs l) : ∃ p ∈ l, n = p.1 ∨ n = p.2 := by
  unfold prs at h
  obtain ⟨p, hp, hn⟩ := List.mem_flatMap.1 h
  simp at hn
  exact ⟨p, hp, hn⟩
theorem tail_in {a : List Int} {st : St2} {x : Rc} (h : tailP a st = some x) (ha : ∀ i, i < 10 → i ≠ 3 → okN (gI a i)) (hk : 0 ≤ gI a 3 ∧ gI a 3 ≤ 13) : Bnd x := by
  unfold tailP at h
  have t1 := rt_in (most := 512) (by omega) st
  have t2 := rl_in (most := 255) (by omega) (rt 512 st).2
  have t3 := rl_in (most := 255) (by omega) (rl 255 (rt 512 st).2).2
  have t4 := rn_in 4 (rl 255 (rl 255 (rt 512 st).2).2).2
  simp only at h
  rw [Option.bind_eq_some_iff] at h
  obtain ⟨im, h1, h⟩ := h
  rw [Option.bind_eq_some_iff] at h
  obtain ⟨pg, h2, h⟩ := h
  rw [Option.bind_eq_some_iff] at h
  obtain ⟨tx, h3, h⟩ := h
  have t5 := rn_in 8192 im.2
  have t6 := rn_in 1024 pg.2
  have u1 := riGo_in _ _ h1
  have u2 := rpGo_in _ _ h2
  have u3 := rpGo_in _ _ h3
  cases he : decide (endE tx.2.1 tx.2.2 = 0) with
  | false => rw [he, cond_false] at h; cases h
  | true =>
    rw [he, cond_true] at h
    cases h
    refine ⟨fun n hn => ?_, hk, by simp only; omega, by simp only; omega, by simp only; omega, by simp only; omega, by simp only; omega, by simp only; omega, fun m hm => (u1.2.1 m hm).2⟩
    unfold rNums at hn
    simp only [List.mem_append] at hn
    rcases hn with ((((hn | hn) | hn) | hn) | hn) | hn
    · simp only [List.mem_cons, List.not_mem_nil, or_false] at hn
      rcases hn with rfl | rfl | rfl | rfl | rfl | rfl | rfl | rfl | rfl <;> exact ha _ (by omega) (by omega)
    · exact t2.2.1 n hn
    · exact t3.2.1 n hn
    · obtain ⟨m, hm, rfl⟩ := List.mem_map.1 hn
      exact (u1.2.1 m hm).1
    · obtain ⟨p, hp, e | e⟩ := mem_prs2 hn <;> rw [e]
      · exact (u2.2.1 p hp).1
      · exact (u2.2.1 p hp).2
    · obtain ⟨p, hp, e | e⟩ := mem_prs2 hn <;> rw [e]
      · exact (u3.2.1 p hp).1
      · exact (u3.2.1 p hp).2

/-! ### The reader's texts and lists -/
theorem rnum_spec {w : World} {rb : Nat} {st : St2} (h : RdAt w rb st.1 st.2) (hs : st.1.length ≤ 1000000) {most : Int} (hm : most ≤ 9223372036854775807) : Cl Tryz.prog 150 [pv rb, iv most] w fun v w' => v = iv (rn most st).1 ∧ RdAt w' rb (rn most st).2.1 (rn most st).2.2 ∧ Fm (· = rb) w w' :=
  bnum_spec h most (by omega) hm
set_option maxHeartbeats 1000000 in
theorem rtext_spec {w : World} {rb : Nat} {st : St2} (h : RdAt w rb st.1 st.2) (hs : st.1.length ≤ 1000000) {most : Int} (hm : most ≤ 9223372036854775807) : Cl Tryz.prog 151 [pv rb, iv most] w fun v w' => v = stv (rt most st).1 ∧ RdAt w' rb (rt most st).2.1 (rt most st).2.2 ∧ Fm (· = rb) w w' := by
  refine c151 ?_; unfold T151
  refine (rnum_spec h hs hm).mono ?_
  have hin := rn_in most st
  unfold rt
  rintro _ w1 ⟨rfl, h1, hf1⟩
  generalize (rn most st).1 = n at hin ⊢
  generalize (rn most st).2 = st1 at hin h1
  simp only [RS0, RS1, RS2, RS3, RS4, RS5, h1.c1, bne_dec]
  cases hz : decide (st1.2 = 0) with
  | false =>
    simp only [RS0, RS1, RS2, RS3, RS4, RS5, cond_false]
    exact ⟨(by trivial), h1, hf1⟩
  | true =>
    obtain ⟨j, rfl⟩ := Int.eq_ofNat_of_zero_le hin.1
    simp only [RS0, RS1, RS2, RS3, RS4, RS5, cond_true, h1.c0, str_size, Int.toNat_natCast]
    cases hd : decide ((st1.1.length : Int) < (j : Int)) with
    | true =>
      simp only [RS0, RS1, RS2, RS3, RS4, RS5, cond_true]
      refine (bfail_spec h1 10).mono ?_
      rintro _ w2 ⟨rfl, h2, hf2⟩
      try simp only [RS0, RS1, RS2, RS3, RS4, RS5]
      exact ⟨(by trivial), h2, hf1.trans hf2 (fun _ _ e => e) (fun _ _ e => e)⟩
    | false =>
      rw [decide_eq_false_iff_not] at hd
      have s1 := slS_hi (l := st1.1) (i := j) (by omega) .i64
      have s2 := slS_lo (l := st1.1) (i := j) (by omega) .i64
      simp only [RS0, RS1, RS2, RS3, RS4, RS5, cond_false, h1.c0, s1, s2]
      refine St_blk h1 (by show 0 < 2; decide) rfl ?_
      intro w2 hw2 hs2 hf2
      rw [decide_eq_true_eq] at hz
      refine ⟨(by trivial), ?_, hf1.trans hf2 (fun _ _ e => e) (fun _ _ e => e)⟩
      have : RdAt w2 rb (st1.1.drop j) st1.2 := hw2
      rw [hz] at this
      exact this
set_option maxHeartbeats 2000000 in
theorem rlist_spec {w : World} {rb : Nat} {st : St2} (h : RdAt w rb st.1 st.2) (hs : st.1.length ≤ 1000000) : Cl Tryz.prog 152 [pv rb, iv 255] w fun v w' => w'.ownsRow w.heap.size 3 1 v (rl 255 st).1.length ((rl 255 st).1.map iv) ∧ RdAt w' rb (rl 255 st).2.1 (rl 255 st).2.2 ∧ Fm (· = rb) w w' := by
  refine c152 ?_; unfold T152
  refine Jn_at (fun vs w' => ∃ v, vs = [v] ∧ w'.ownsRow w.heap.size 3 1 v (rl 255 st).1.length ((rl 255 st).1.map iv) ∧ RdAt w' rb (rl 255 st).2.1 (rl 255 st).2.2 ∧ Fm (· = rb) w w') ?_ ?_
  · rintro _ w' ⟨v, rfl, g⟩ _
    exact ⟨v, rfl, g⟩
  · intro jj hjj
    refine (rnum_spec h hs (by omega)).mono ?_
    have hin := rn_in 255 st
    unfold rl at hjj
    rintro _ w1 ⟨rfl, h1, hf1⟩
    generalize (rn 255 st).1 = n at hin hjj ⊢
    generalize (rn 255 st).2 = st1 at hin h1 hjj
    obtain ⟨N, rfl⟩ := Int.eq_ofNat_of_zero_le hin.1
    rw [Int.toNat_natCast] at hjj
    have hz1 := hf1.size
    refine ⟨fun vs w' => ∃ (i : Nat) (v : Value) (L : List Int) (st2 : St2), vs = [v, iv i] ∧ i ≤ N ∧ L.length = i ∧ w'.ownsRow w.heap.size 3 1 v L.length (L.map iv) ∧ RdAt w' rb st2.1 st2.2 ∧ st2.1.length ≤ 1000000 ∧ rlGo N st1 = (L ++ (rlGo (N - i) st2).1, (rlGo (N - i) st2).2) ∧ Fm (· = rb) w w', fun vs _ => (N - nth vs 1).toNat, ⟨0, _, [], st1, rfl, by omega, rfl, World.ownsRow_nil _ _ _ _, h1, by omega, rfl, hf1⟩, ?_⟩
    rintro _ w2 v iv2 ⟨i, v0, L, st2, hvs, hi, hL, ho2, h2, hl2, heq, hf2⟩
    cases hvs
    have hz2 := hf2.size
    by_cases hlt : i < N
    · have d1 : decide ((i : Int) < (N : Int)) = true := by rw [decide_eq_true_eq]; omega
      have e1 : IntKind.i64.wrap ((i : Int) + 1) = ((i + 1 : Nat) : Int) := by rw [wrap_id] <;> omega
      obtain ⟨m, hm⟩ : ∃ m, N - i = m + 1 := ⟨N - i - 1, by omega⟩
      have hm1 : N - (i + 1) = m := by omega
      simp only [RS0, RS1, RS2, RS3, RS4, RS5, d1]
      refine (rnum_spec h2 hl2 (by omega)).mono ?_
      rw [hm, rlGo] at heq
      have hin2 := rn_in 4611686018427387904 st2
      rintro _ w3 ⟨rfl, h3, hf3⟩
      generalize (rn 4611686018427387904 st2).1 = x at heq hin2 ⊢
      generalize (rn 4611686018427387904 st2).2 = st3 at heq hin2 h3
      have hF3 : Fm (· = rb) w w3 := hf2.trans hf3 (fun _ _ e => e) (fun _ _ e => e)
      have hz3 := hF3.size
      have hrd : RdAt w2 rb st2.1 st2.2 := h2
      have hrbne : ∀ k, v.ownBlock = some k → k ≠ rb := by
        intro k hk e
        rcases ho2.2 with ⟨rfl, _⟩ | ⟨g, cap, cur, rfl, _, hg, _⟩
        · cases hk
        · have e1 : g = k := by simpa [Value.ownBlock] using hk
          rw [e1, e] at hg
          have hq : w2.heap[rb]? = _ := hrd
          rw [hq] at hg; cases hg
      have ho3 := own_keep ho2 hf3 (fun k _ _ hk e => hrbne k hk e)
      refine row_lit ho3 (bs47_1 _ _) rfl (by omega) hz3 ?_
      intro v4 w4 ho4 hf4
      have hrl := h.lt
      have h4 := h3.keep hf4 (fun e => by omega)
      have hF4 : Fm (· = rb) w w4 := hF3.trans hf4 (fun _ _ e => e) (fun y hy e => by omega)
      refine (berr_spec h4).mono ?_
      rintro _ w5 ⟨rfl, rfl⟩
      simp only [RS0, RS1, RS2, RS3, RS4, RS5, bne_dec]
      cases hz : decide (st3.2 = 0) with
      | false =>
        rw [hz, cond_false] at heq
        simp only [RS0, RS1, RS2, RS3, RS4, RS5]
        refine hjj _ _ ⟨v4, rfl, ?_⟩
        rw [heq]
        exact ⟨ho4, h4, hF4⟩
      | true =>
        rw [hz, cond_true] at heq
        simp only [RS0, RS1, RS2, RS3, RS4, RS5, e1]
        refine ⟨⟨i + 1, v4, L ++ [x], st3, rfl, by omega, by rw [List.length_append, hL]; rfl, ho4, h4, by omega, ?_, hF4⟩, by simp only [nth_1]; omega⟩
        rw [heq, hm1]
        simp
    · have hie : i = N := by omega
      subst hie
      have d1 : decide ((i : Int) < (i : Int)) = false := by simp
      rw [Nat.sub_self, rlGo] at heq
      simp only [List.append_nil] at heq
      simp only [RS0, RS1, RS2, RS3, RS4, RS5, d1]
      refine hjj _ _ ⟨v, rfl, ?_⟩
      rw [heq]
      exact ⟨ho2, h2, hf2⟩

/-- One more, and where it lies. -/
theorem app_fine {w : World} {base n bytes sz : Nat} {t e : TypeId} {v : Value} {xs : List Value} (E : ElemT Tryz.prog t e sz bytes) (hsz : 0 < sz) (h : w.ownsRow base e sz v n xs) {b : Nat} {cs : List Value} (hb : w.heap[b]? = some (.cells cs.toArray e)) (hcs : cs.length = sz) (h1 : ∀ u ∈ cs, u.oneCell' = true) (hn : (n + 1) * bytes ≤ 140737488355328) (h63 : n + 1 ≤ maxLen) (hbs : base ≤ w.heap.size) :
    ∃ v' w', (Builtin.append_ #[t, t] t #[v, .slice (some ⟨b, 0, none⟩) 1 1]).run Tryz.prog w = .ok v' w' ∧ w'.ownsRow base e sz v' (n + 1) (xs ++ cs) ∧ (∀ y, v'.ownBlock = some y → v.ownBlock = some y ∨ w.heap.size ≤ y) ∧ Fm (fun y => v.ownBlock = some y) w w' := by
  obtain ⟨v', w', hr, ho, hc⟩ := append_fine E hsz h t ⟨b, 0, none⟩ 1 1 (by omega) cs (by omega) (fun j u hj => by rw [add_none, Nat.zero_add, cell_at hb]; simpa using hj) h1 h63 hn hbs
  refine ⟨v', w', hr, ho, ?_⟩
  rcases hc with ⟨g, e1, e2, e3⟩ | ⟨g, e1, e2, e3⟩
  · exact ⟨fun y hy => .inl (by rw [e1, ← e2]; exact hy), e3.mono (fun y _ e => by rw [e]; exact e1)⟩
  · exact ⟨fun y hy => .inr (by rw [e1] at hy; cases hy; exact e2), e3.mono (fun _ _ e => e.elim)⟩


end Go.Proofs.YthbngnlmgplijaaGreatDoor

namespace Go.Proofs.YthbngnlmgplijaaGreatDoor
open Go.Al Go.Proofs
set_option linter.unusedVariables false
set_option linter.unusedSimpArgs false
set_option linter.unusedSectionVars false
set_option maxRecDepth 100000

abbrev nl : Value := .slice none 0 0
def rc0 : Rc := ⟨0, 0, 0, 0, 0, 0, 0, 0, 0, 0, [], [], [], [], [], []⟩
theorem rcs_one {r : Rc} {vs vm vi vp vt : Value} (h1 : vs.oneCell' = true) (h2 : vm.oneCell' = true) (h3 : vi.oneCell' = true) (h4 : vp.oneCell' = true) (h5 : vt.oneCell' = true) : ∀ u ∈ (rcs r vs vm vi vp vt).toList, u.oneCell' = true := by
  intro u hu
  simp [rcs] at hu
  rcases hu with rfl | rfl | rfl | rfl | rfl | rfl | rfl | rfl | rfl | rfl | rfl | rfl | rfl | rfl | rfl | rfl <;> first | rfl | assumption
theorem bld52z (w : World) : (Instr.build 28 #[]).run Tryz.prog w = .ok (.agg (rcs rc0 nl nl nl nl nl)) w := by kernel_rfl
theorem agg52 : aggB Tryz.prog 28 = some true := by kernel_rfl
theorem size52 : sizeB Tryz.prog 28 = some 16 := by kernel_rfl
theorem Er48 : ElemT Tryz.prog 24 118 7 80 := elemT_of Tryz.underlying24 (by kernel_rfl)
theorem Er49 : ElemT Tryz.prog 25 120 2 16 := elemT_of Tryz.underlying25 (by kernel_rfl)
theorem Er50 : ElemT Tryz.prog 26 122 2 16 := elemT_of Tryz.underlying26 (by kernel_rfl)
theorem bld90 (m : Int) (p : Pg) (a : Option Addr) (n c : Nat) (w : World) : (Instr.build 118 #[(0, iv m), (1, .agg (pcs p (.slice a n c)))]).run Tryz.prog w = .ok (.agg (imC (m, p, .slice a n c)).toArray) w := by kernel_rfl
theorem bs48 (m : Int) (p : Pg) (a : Option Addr) (n c : Nat) (w : World) : (Instr.buildSlice 24 1 #[(0, .agg (imC (m, p, .slice a n c)).toArray)]).run Tryz.prog w = .ok (.slice (some ⟨w.heap.size, 0, none⟩) 1 1) (w.alloc (.cells (imC (m, p, .slice a n c)).toArray 118)) := by kernel_rfl
theorem bld96 (a b : Int) (w : World) : (Instr.build 120 #[(0, iv a), (1, iv b)]).run Tryz.prog w = .ok (.agg (pc2 (a, b)).toArray) w := by kernel_rfl
theorem bld99 (a b : Int) (w : World) : (Instr.build 122 #[(0, iv a), (1, iv b)]).run Tryz.prog w = .ok (.agg (pc2 (a, b)).toArray) w := by kernel_rfl
theorem bs49 (a b : Int) (w : World) : (Instr.buildSlice 25 1 #[(0, .agg (pc2 (a, b)).toArray)]).run Tryz.prog w = .ok (.slice (some ⟨w.heap.size, 0, none⟩) 1 1) (w.alloc (.cells (pc2 (a, b)).toArray 120)) := by kernel_rfl
theorem bs50 (a b : Int) (w : World) : (Instr.buildSlice 26 1 #[(0, .agg (pc2 (a, b)).toArray)]).run Tryz.prog w = .ok (.slice (some ⟨w.heap.size, 0, none⟩) 1 1) (w.alloc (.cells (pc2 (a, b)).toArray 122)) := by kernel_rfl

/-- What is in the heap while a body is read. -/
structure HS (w0 w : World) (x2 rb r4 x5 : Nat) (st : St2) (r : Rc) (vs vm vi vp vt : Value) : Prop where
  res : w.heap[x2]? = some (.cells (rcs rc0 nl nl nl nl nl) 28)
  rd : RdAt w rb st.1 st.2
  rp : w.heap[r4]? = some (.cells #[pv rb] 181)
  x : RB w x5 r vs vm vi vp vt
  fm : Fm (fun _ => False) w0 w
  o1 : w0.heap.size ≤ x2
  o2 : x2 < rb
  o3 : rb < r4
  o4 : r4 < x5
  len : st.1.length ≤ 1000000
section
variable {w0 w w' : World} {x2 rb r4 x5 : Nat} {st : St2} {r : Rc} {vs vm vi vp vt : Value}
theorem HS.keepG {S : Nat → Prop} (h : HS w0 w x2 rb r4 x5 st r vs vm vi vp vt) (hf : Fm S w w') (hS : ∀ y, S y → x5 < y) : HS w0 w' x2 rb r4 x5 st r vs vm vi vp vt := by
  have := h.o1
  have := h.o2
  have := h.o3
  have := h.o4
  have hn : ∀ y, y ≤ x5 → ¬ S y := fun y hy e => by have := hS y e; omega
  exact ⟨hf.heap h.res (hn _ (by omega)), h.rd.keep hf (hn _ (by omega)), hf.heap h.rp (hn _ (by omega)), h.x.keep hf (hn _ (by omega)), Fm.own h.fm hf (fun y hy => by have := hS y hy; omega), h.o1, h.o2, h.o3, h.o4, h.len⟩
theorem HS.rdr (h : HS w0 w x2 rb r4 x5 st r vs vm vi vp vt) {st' : St2} (hr : RdAt w' rb st'.1 st'.2) (hf : Fm (· = rb) w w') (hl : st'.1.length ≤ st.1.length) : HS w0 w' x2 rb r4 x5 st' r vs vm vi vp vt := by
  have := h.o1
  have := h.o2
  have := h.o3
  have := h.o4
  have := h.len
  exact ⟨hf.heap h.res (by omega), hr, hf.heap h.rp (by omega), h.x.keep hf (by omega), Fm.own h.fm hf (by rintro y rfl; omega), h.o1, h.o2, h.o3, h.o4, by omega⟩
theorem HS.cp (h : HS w0 w x2 rb r4 x5 st r vs vm vi vp vt) : w.cell? ⟨r4, 0, none⟩ = some (pv rb) := by rw [cell_at h.rp]; rfl
theorem HS.numk (h : HS w0 w x2 rb r4 x5 st r vs vm vi vp vt) {most : Int} (hm : most ≤ 9223372036854775807) {k : KV} (hk : ∀ w', HS w0 w' x2 rb r4 x5 (rn most st).2 r vs vm vi vp vt → Fm (· = rb) w w' → k (iv (rn most st).1) w') : Cl Tryz.prog 150 [pv rb, iv most] w k := by
  refine (rnum_spec h.rd h.len hm).mono ?_
  rintro _ w' ⟨rfl, h1, hf⟩
  exact hk w' (h.rdr h1 hf (rn_in most st).2.2) hf
theorem HS.num (h : HS w0 w x2 rb r4 x5 st r vs vm vi vp vt) {k : KV} (hk : ∀ w', HS w0 w' x2 rb r4 x5 (rn 4611686018427387904 st).2 r vs vm vi vp vt → Fm (· = rb) w w' → k (iv (rn 4611686018427387904 st).1) w') : ClV Tryz.prog (.func (.func 149) #[] #[pv r4]) [] w k := by
  refine ClV_func (by kernel_rfl) ?_
  show Cl Tryz.prog 149 [pv r4] w k
  refine c149 ?_; unfold T149
  simp only [RS0, RS1, RS2, RS3, RS4, RS5, h.cp]
  refine h.numk (by omega) ?_
  intro w' h' hf
  exact hk w' h' hf
theorem HS.text (h : HS w0 w x2 rb r4 x5 st r vs vm vi vp vt) {k : KV} (hk : ∀ w', HS w0 w' x2 rb r4 x5 (rt 512 st).2 r vs vm vi vp vt → Fm (· = rb) w w' → k (stv (rt 512 st).1) w') : Cl Tryz.prog 151 [pv rb, iv 512] w k := by
  refine (rtext_spec h.rd h.len (by omega)).mono ?_
  rintro _ w' ⟨rfl, h1, hf⟩
  exact hk w' (h.rdr h1 hf (rt_in (by omega) st).2) hf
theorem HS.list (h : HS w0 w x2 rb r4 x5 st r vs vm vi vp vt) {k : KV} (hk : ∀ v w', HS w0 w' x2 rb r4 x5 (rl 255 st).2 r vs vm vi vp vt → w'.ownsRow w.heap.size 3 1 v (rl 255 st).1.length ((rl 255 st).1.map iv) → Fm (· = rb) w w' → k v w') : Cl Tryz.prog 152 [pv rb, iv 255] w k := by
  refine (rlist_spec h.rd h.len).mono ?_
  rintro v w' ⟨ho, h1, hf⟩
  exact hk v w' (h.rdr h1 hf (rl_in (by omega) st).2.2) ho hf
theorem HS.put (h : HS w0 w x2 rb r4 x5 st r vs vm vi vp vt) {j : Nat} {u : Value} {r' : Rc} {vs' vm' vi' vp' vt' : Value} (hj : j < 16) (hu : u.oneCell' = true) (e : (rcs r vs vm vi vp vt).setIfInBounds j u = rcs r' vs' vm' vi' vp' vt') {k : KV}
    (hk : ∀ w', HS w0 w' x2 rb r4 x5 st r' vs' vm' vi' vp' vt' → Fm (· = x5) w w' → k undef w') : St 1 w (.pointer (some ⟨x5, j, none⟩)) u k := by
  have := h.o1
  have := h.o2
  have := h.o3
  have := h.o4
  refine St_blk h.x.h (by show j < 16; exact hj) hu ?_
  intro w' hw' hs' hf'
  rw [e] at hw'
  exact hk w' ⟨hf'.heap h.res (by omega), h.rd.keep hf' (by omega), hf'.heap h.rp (by omega), ⟨hw'⟩, Fm.own h.fm hf' (by rintro y rfl; omega), h.o1, h.o2, h.o3, h.o4, h.len⟩ hf'
/-- What is returned. -/
theorem HS.ret (h : HS w0 w x2 rb r4 x5 st r vs vm vi vp vt) (hone : ∀ u ∈ (rcs r vs vm vi vp vt).toList, u.oneCell' = true) (b : Bool) {k : KV} (hk : ∀ w', Fm (· = x2) w w' → k (.tuple #[.agg (rcs r vs vm vi vp vt), .bool b]) w') :
    St 16 w (.pointer (some ⟨x2, 0, none⟩)) (.agg (rcs r vs vm vi vp vt)) fun u_168 w_169 =>
        RetO (resL Tryz.prog (fun j => bif Nat.beq j 2 then .pointer (some ⟨x2, 0, none⟩) else bif Nat.beq j 3 then (Value.bool b) else undef) w_169 [(ResultVar.cell 2 28), (ResultVar.tmp 3)]) w_169 k := by
  refine St_all h.res rfl rfl hone ?_
  intro w' hw' hs' hf'
  have hj' : resV Tryz.prog (fun j => bif Nat.beq j 2 then .pointer (some ⟨x2, 0, none⟩) else bif Nat.beq j 3 then (Value.bool b) else undef) w' (.tmp 3) = some (.bool b) := rfl
  simp only [resL, resV_blk (f := (fun j => bif Nat.beq j 2 then .pointer (some ⟨x2, 0, none⟩) else bif Nat.beq j 3 then (Value.bool b) else undef)) (a := 2) rfl agg52 size52 hw' rfl, hj', RetO, RetV]
  exact hk w' hf'
end
/-- The lists of a record, the call's own. -/
structure Rows (w : World) (b : Nat) (r : Rc) (vs vm vi vp vt : Value) : Prop where
  hs : w.ownsRow b 3 1 vs r.slots.length (r.slots.map iv)
  hm : w.ownsRow b 3 1 vm r.more.length (r.more.map iv)
  hi : ∃ X : List (Int × Pg × Value), X.map (fun x => (x.1, x.2.1)) = r.imgs ∧ w.ownsRow b 118 7 vi X.length (X.flatMap imC) ∧ ∀ x ∈ X, x.2.2.oneCell' = true ∧ w.ownsRow b 9 1 x.2.2 x.2.1.items.length (x.2.1.items.map stv) ∧ PgAs w (pcs x.2.1 x.2.2) x.2.1
  hp : w.ownsRow b 120 2 vp r.pages.length (r.pages.flatMap pc2)
  ht : w.ownsRow b 122 2 vt r.txns.length (r.txns.flatMap pc2)
section
variable {w w' : World} {b : Nat} {r : Rc} {vs vm vi vp vt : Value}
theorem pgas_own {p : Pg} {v : Value} (ho : w'.ownsRow b 9 1 v p.items.length (p.items.map stv)) (h : PgAs w (pcs p v) p) : PgAs w' (pcs p v) p := ⟨⟨v, rfl, own_one ho, CellsAt.of_own ho⟩, h.small, h.ins⟩
theorem Rows.keep {S : Nat → Prop} (h : Rows w b r vs vm vi vp vt) (hf : Fm S w w') (hS : ∀ y, S y → y < b) : Rows w' b r vs vm vi vp vt := by
  have hn : ∀ k, b ≤ k → ¬ S k := fun k hk e => by have := hS k e; omega
  obtain ⟨X, h1, h2, h3⟩ := h.hi
  exact ⟨own_keep h.hs hf (fun k hk _ _ => hn k hk), own_keep h.hm hf (fun k hk _ _ => hn k hk), ⟨X, h1, own_keep h2 hf (fun k hk _ _ => hn k hk), fun x hx => by
    obtain ⟨q1, q2, q3⟩ := h3 x hx
    have q4 := own_keep q2 hf (fun k hk _ _ => hn k hk)
    exact ⟨q1, q4, pgas_own q4 q3⟩⟩, own_keep h.hp hf (fun k hk _ _ => hn k hk), own_keep h.ht hf (fun k hk _ _ => hn k hk)⟩
theorem Rows.one (h : Rows w b r vs vm vi vp vt) : ∀ u ∈ (rcs r vs vm vi vp vt).toList, u.oneCell' = true := by
  obtain ⟨X, h1, h2, h3⟩ := h.hi
  exact rcs_one (own_one h.hs) (own_one h.hm) (own_one h2) (own_one h.hp) (own_one h.ht)
theorem Rows.asR (h : Rows w b r vs vm vi vp vt) (hb : Bnd r) : RcAs w (rcs r vs vm vi vp vt) r := by
  obtain ⟨X, h1, h2, h3⟩ := h.hi
  refine ⟨⟨vs, vm, vi, vp, vt, rfl, ⟨own_one h.hs, own_one h.hm, own_one h2, own_one h.hp, own_one h.ht⟩, CellsAt.of_own h.hs, CellsAt.of_own h.hm, ⟨X, h1, CellsAt.of_own h2, fun x hx => ⟨(h3 x hx).1, (h3 x hx).2.2⟩⟩, CellsAt.of_own h.hp, CellsAt.of_own h.ht⟩, fun n hn => ?_, ?_, ?_, ?_, hb.lsns⟩
  · have := hb.nums n hn
    unfold okN at this
    unfold In; omega
  · have := hb.kind; omega
  · have := hb.data; omega
  · have := hb.slots
    have := hb.more
    have := hb.imgs
    have := hb.pages
    have := hb.txns
    omega
end
def tailI (a : List Int) (t : Bs) (sl mo : List Int) (im : List (Int × Pg)) (pg tx : List (Int × Int)) (st : St2) : Option Rc := bif decide (endE st.1 st.2 = 0) then some ⟨gI a 0, gI a 1, gI a 2, gI a 3, gI a 4, gI a 5, gI a 6, gI a 7, gI a 8, gI a 9, t, sl, mo, im, pg, tx⟩ else none
def tailH (a : List Int) (t : Bs) (sl mo : List Int) (im : List (Int × Pg)) (pg : List (Int × Int) × St2) : Option Rc := (rpGo (rn 1024 pg.2).1.toNat (rn 1024 pg.2).2).bind fun tx => tailI a t sl mo im pg.1 tx.1 tx.2
def tailG (a : List Int) (t : Bs) (sl mo : List Int) (im : List (Int × Pg) × St2) : Option Rc := (rpGo (rn 8192 im.2).1.toNat (rn 8192 im.2).2).bind (tailH a t sl mo im.1)
theorem tail_eq (a : List Int) (st : St2) : tailP a st = (riGo (rn 4 (rl 255 (rl 255 (rt 512 st).2).2).2).1.toNat (rn 4 (rl 255 (rl 255 (rt 512 st).2).2).2).2).bind (tailG a (rt 512 st).1 (rl 255 (rt 512 st).2).1 (rl 255 (rl 255 (rt 512 st).2).2).1) := rfl
theorem outer_in {s : Bs} {x : Rc} (h : outerP s = some x) : Bnd x := by
  unfold outerP at h
  refine tail_in h (fun i hi h3 => ?_) ?_
  · simp only [ten]
    have q : ∀ st, okN (rn 4611686018427387904 st).1 := fun st => ⟨(rn_in _ st).1, by have := (rn_in 4611686018427387904 st).2.1; omega⟩
    have : i = 0 ∨ i = 1 ∨ i = 2 ∨ i = 4 ∨ i = 5 ∨ i = 6 ∨ i = 7 ∨ i = 8 ∨ i = 9 := by omega
    rcases this with rfl | rfl | rfl | rfl | rfl | rfl | rfl | rfl | rfl <;> exact q _
  · simp only [ten]
    have q : ∀ st, 0 ≤ (rn 13 st).1 ∧ (rn 13 st).1 ≤ 13 := fun st => ⟨(rn_in _ st).1, by have := (rn_in 13 st).2.1; omega⟩
    exact q _

set_option maxHeartbeats 32000000 in
theorem outer_spec (w : World) (s : Bs) (hs : s.length ≤ 1000000) : Cl Tryz.prog 81 [stv s] w fun v w' => ∃ cs ok, v = .tuple #[.agg cs, .bool ok] ∧ cs.size = 16 ∧ (∀ u ∈ cs.toList, u.oneCell' = true) ∧ (ok = false → outerP s = none) ∧ (ok = true → ∃ x vs vm vi vp vt, outerP s = some x ∧ cs = rcs x vs vm vi vp vt ∧ Rows w' w.heap.size x vs vm vi vp vt) ∧ Fm (fun _ => False) w w' := by
  refine c81 ?_; unfold T81
  refine New_any ?_
  intro x2 w1 hx2 hs1 hw1 hf1
  refine (bread_spec w1 s).mono ?_
  rintro _ w2 ⟨rb, rfl, hrb, hrd, hf2⟩
  have hz2 := hf2.size
  have hrl := hrd.lt
  refine New_any ?_
  intro r4 w3 hr4 hs3 hw3 hf3
  refine St_blk hw3 (by show 0 < 1; decide) rfl ?_
  intro w4 hw4 hs4 hf4
  refine New_any ?_
  intro x5 w5 hx5 hs5 hw5 hf5
  have hf35 : Fm (fun _ => False) w2 w5 := Fmf (Fm.own hf3 hf4 (by rintro y rfl; omega)) hf5
  have h0 : HS w w5 x2 rb r4 x5 (s, 0) rc0 nl nl nl nl nl := ⟨(Fmf hf2 hf35).heap hw1 (fun e => e), hrd.keep hf35 (fun e => e), hf5.heap hw4 (fun e => e), ⟨hw5⟩, Fmf hf1 (Fmf hf2 hf35), by omega, by omega, by omega, by omega, hs⟩
  have hr0 : Rows w5 (x5 + 1) rc0 nl nl nl nl nl := ⟨World.ownsRow_nil _ _ _ _, World.ownsRow_nil _ _ _ _, ⟨[], rfl, World.ownsRow_nil _ _ _ _, by simp⟩, World.ownsRow_nil _ _ _ _, World.ownsRow_nil _ _ _ _⟩
  have hx5l := h0.x.lt
  clear hw1 hrd hw3 hw4 hw5 hr0
  refine h0.num ?_
  intro w6 h6a hq6
  have i0 := rn_in 4611686018427387904 (s, 0)
  generalize e0 : rn 4611686018427387904 (s, 0) = a0 at h6a i0 ⊢
  refine h6a.num ?_
  intro w7 h7a hq7
  have i1 := rn_in 4611686018427387904 a0.2
  generalize e1 : rn 4611686018427387904 a0.2 = a1 at h7a i1 ⊢
  refine h7a.num ?_
  intro w8 h8a hq8
  have i2 := rn_in 4611686018427387904 a1.2
  generalize e2 : rn 4611686018427387904 a1.2 = a2 at h8a i2 ⊢
  try simp only [RS0, RS1, RS2, RS3, RS4, RS5]
  refine h8a.put (j := 0) (r' := ⟨a0.1, 0, 0, 0, 0, 0, 0, 0, 0, 0, [], [], [], [], [], []⟩) (vs' := nl) (vm' := nl) (vi' := nl) (vp' := nl) (vt' := nl) (by omega) rfl rfl ?_
  intro w9 h9a hq9
  try simp only [RS0, RS1, RS2, RS3, RS4, RS5]
  refine h9a.put (j := 1) (r' := ⟨a0.1, a1.1, 0, 0, 0, 0, 0, 0, 0, 0, [], [], [], [], [], []⟩) (vs' := nl) (vm' := nl) (vi' := nl) (vp' := nl) (vt' := nl) (by omega) rfl rfl ?_
  intro w10 h10a hq10
  try simp only [RS0, RS1, RS2, RS3, RS4, RS5]
  refine h10a.put (j := 2) (r' := ⟨a0.1, a1.1, a2.1, 0, 0, 0, 0, 0, 0, 0, [], [], [], [], [], []⟩) (vs' := nl) (vm' := nl) (vi' := nl) (vp' := nl) (vt' := nl) (by omega) rfl rfl ?_
  intro w11 h11a hq11
  simp only [RS0, RS1, RS2, RS3, RS4, RS5, h11a.cp]
  refine h11a.numk (by omega) ?_
  intro w12 h12a hq12
  have i3 := rn_in 13 a2.2
  generalize e3 : rn 13 a2.2 = a3 at h12a i3 ⊢
  have ek : cvI .u8 (iv a3.1) = some (.int .u8 a3.1) := by
    show some (Value.int .u8 (IntKind.u8.wrap a3.1)) = _
    obtain ⟨q, hq⟩ := Int.eq_ofNat_of_zero_le i3.1
    have := i3.2.1
    rw [hq, u8_wrap_nat, Nat.mod_eq_of_lt (by omega)]
  simp only [RS0, RS1, RS2, RS3, RS4, RS5, ek]
  try simp only [RS0, RS1, RS2, RS3, RS4, RS5]
  refine h12a.put (j := 3) (r' := ⟨a0.1, a1.1, a2.1, a3.1, 0, 0, 0, 0, 0, 0, [], [], [], [], [], []⟩) (vs' := nl) (vm' := nl) (vi' := nl) (vp' := nl) (vt' := nl) (by omega) rfl rfl ?_
  intro w13 h13a hq13
  refine h13a.num ?_
  intro w14 h14a hq14
  have i4 := rn_in 4611686018427387904 a3.2
  generalize e4 : rn 4611686018427387904 a3.2 = a4 at h14a i4 ⊢
  refine h14a.num ?_
  intro w15 h15a hq15
  have i5 := rn_in 4611686018427387904 a4.2
  generalize e5 : rn 4611686018427387904 a4.2 = a5 at h15a i5 ⊢
  refine h15a.num ?_
  intro w16 h16a hq16
  have i6 := rn_in 4611686018427387904 a5.2
  generalize e6 : rn 4611686018427387904 a5.2 = a6 at h16a i6 ⊢
  refine h16a.num ?_
  intro w17 h17a hq17
  have i7 := rn_in 4611686018427387904 a6.2
  generalize e7 : rn 4611686018427387904 a6.2 = a7 at h17a i7 ⊢
  refine h17a.num ?_
  intro w18 h18a hq18
  have i8 := rn_in 4611686018427387904 a7.2
  generalize e8 : rn 4611686018427387904 a7.2 = a8 at h18a i8 ⊢
  refine h18a.num ?_
  intro w19 h19a hq19
  have i9 := rn_in 4611686018427387904 a8.2
  generalize e9 : rn 4611686018427387904 a8.2 = a9 at h19a i9 ⊢
  try simp only [RS0, RS1, RS2, RS3, RS4, RS5]
  refine h19a.put (j := 4) (r' := ⟨a0.1, a1.1, a2.1, a3.1, a4.1, 0, 0, 0, 0, 0, [], [], [], [], [], []⟩) (vs' := nl) (vm' := nl) (vi' := nl) (vp' := nl) (vt' := nl) (by omega) rfl rfl ?_
  intro w20 h20a hq20
  try simp only [RS0, RS1, RS2, RS3, RS4, RS5]
  refine h20a.put (j := 5) (r' := ⟨a0.1, a1.1, a2.1, a3.1, a4.1, a5.1, 0, 0, 0, 0, [], [], [], [], [], []⟩) (vs' := nl) (vm' := nl) (vi' := nl) (vp' := nl) (vt' := nl) (by omega) rfl rfl ?_
  intro w21 h21a hq21
  try simp only [RS0, RS1, RS2, RS3, RS4, RS5]
  refine h21a.put (j := 6) (r' := ⟨a0.1, a1.1, a2.1, a3.1, a4.1, a5.1, a6.1, 0, 0, 0, [], [], [], [], [], []⟩) (vs' := nl) (vm' := nl) (vi' := nl) (vp' := nl) (vt' := nl) (by omega) rfl rfl ?_
  intro w22 h22a hq22
  try simp only [RS0, RS1, RS2, RS3, RS4, RS5]
  refine h22a.put (j := 7) (r' := ⟨a0.1, a1.1, a2.1, a3.1, a4.1, a5.1, a6.1, a7.1, 0, 0, [], [], [], [], [], []⟩) (vs' := nl) (vm' := nl) (vi' := nl) (vp' := nl) (vt' := nl) (by omega) rfl rfl ?_
  intro w23 h23a hq23
  try simp only [RS0, RS1, RS2, RS3, RS4, RS5]
  refine h23a.put (j := 8) (r' := ⟨a0.1, a1.1, a2.1, a3.1, a4.1, a5.1, a6.1, a7.1, a8.1, 0, [], [], [], [], [], []⟩) (vs' := nl) (vm' := nl) (vi' := nl) (vp' := nl) (vt' := nl) (by omega) rfl rfl ?_
  intro w24 h24a hq24
  try simp only [RS0, RS1, RS2, RS3, RS4, RS5]
  refine h24a.put (j := 9) (r' := ⟨a0.1, a1.1, a2.1, a3.1, a4.1, a5.1, a6.1, a7.1, a8.1, a9.1, [], [], [], [], [], []⟩) (vs' := nl) (vm' := nl) (vi' := nl) (vp' := nl) (vt' := nl) (by omega) rfl rfl ?_
  intro w25 h25a hq25
  simp only [RS0, RS1, RS2, RS3, RS4, RS5, h25a.cp]
  refine h25a.text ?_
  intro w26 h26a hq26
  have it := rt_in (most := 512) (by omega) a9.2
  generalize et : rt 512 a9.2 = at_ at h26a it ⊢
  try simp only [RS0, RS1, RS2, RS3, RS4, RS5]
  refine h26a.put (j := 10) (r' := ⟨a0.1, a1.1, a2.1, a3.1, a4.1, a5.1, a6.1, a7.1, a8.1, a9.1, at_.1, [], [], [], [], []⟩) (vs' := nl) (vm' := nl) (vi' := nl) (vp' := nl) (vt' := nl) (by omega) rfl rfl ?_
  intro w27 h27a hq27
  have hten : ten s = ([a0.1, a1.1, a2.1, a3.1, a4.1, a5.1, a6.1, a7.1, a8.1, a9.1], a9.2) := by
    simp only [ten, e0, e1, e2, e3, e4, e5, e6, e7, e8, e9]
  have hout : outerP s = tailP [a0.1, a1.1, a2.1, a3.1, a4.1, a5.1, a6.1, a7.1, a8.1, a9.1] a9.2 := by unfold outerP; rw [hten]
  rw [tail_eq, et] at hout
  have hz27 : x5 < w27.heap.size := h27a.x.lt
  have hd27 := Fm.drew (fun _ => False) w27
  have g0 := h27a.keepG hd27 (fun _ e => e.elim)
  refine ⟨fun w' => w'.heap[r4]? = some (.cells #[pv rb] 181), g0.rp, ?_⟩
  simp only [RS0, RS1, RS2, RS3, RS4, RS5, h27a.cp, g0.cp, true_and]
  refine ⟨pv rb, fun w9 h9 => ?_, ?_⟩
  · have : w9.cell? ⟨r4, 0, none⟩ = some (pv rb) := by rw [cell_at h9]; rfl
    simp only [RS0, RS1, RS2, RS3, RS4, RS5, this]; trivial
  have hzd : x5 < w27.drew.heap.size := hz27
  generalize w27.drew = wd at hd27 g0 hzd
  refine g0.list ?_
  intro vs w30 g30 ho30 hq30
  refine ⟨g30.rp, ?_⟩
  have hz30 := hq30.size
  try simp only [RS0, RS1, RS2, RS3, RS4, RS5]
  refine g30.list ?_
  intro vm w31 g31 ho31 hq31
  have isl := rl_in (most := 255) (by omega) at_.2
  generalize rl 255 at_.2 = sl at g30 ho30 g31 ho31 hout isl ⊢
  have imo := rl_in (most := 255) (by omega) sl.2
  generalize rl 255 sl.2 = mo at g31 ho31 hout imo ⊢
  have ho4 := g0.o3
  have ho5 := g0.o4
  have ho30' := own_keep ho30 hq31 (fun k hk _ _ e => by omega)
  refine g31.put (j := 11) (r' := ⟨a0.1, a1.1, a2.1, a3.1, a4.1, a5.1, a6.1, a7.1, a8.1, a9.1, at_.1, sl.1, [], [], [], []⟩) (vs' := vs) (vm' := nl) (vi' := nl) (vp' := nl) (vt' := nl) (by omega) (own_one ho30) rfl ?_
  intro w32 g32 hq32
  try simp only [RS0, RS1, RS2, RS3, RS4, RS5]
  refine g32.put (j := 12) (r' := ⟨a0.1, a1.1, a2.1, a3.1, a4.1, a5.1, a6.1, a7.1, a8.1, a9.1, at_.1, sl.1, mo.1, [], [], []⟩) (vs' := vs) (vm' := vm) (vi' := nl) (vp' := nl) (vt' := nl) (by omega) (own_one ho31) rfl ?_
  intro w33 g33 hq33
  have hrow : Rows w33 (x5 + 1) ⟨a0.1, a1.1, a2.1, a3.1, a4.1, a5.1, a6.1, a7.1, a8.1, a9.1, at_.1, sl.1, mo.1, [], [], []⟩ vs vm nl nl nl := by
    refine ⟨own_base (own_keep (own_keep ho30' hq32 (fun k hk _ _ e => by omega)) hq33 (fun k hk _ _ e => by omega)) (by omega), own_base (own_keep (own_keep ho31 hq32 (fun k hk _ _ e => by omega)) hq33 (fun k hk _ _ e => by omega)) (by omega), ⟨[], rfl, World.ownsRow_nil _ _ _ _, by simp⟩, World.ownsRow_nil _ _ _ _, World.ownsRow_nil _ _ _ _⟩
  -- the images
  simp only [RS0, RS1, RS2, RS3, RS4, RS5, g33.cp]
  refine g33.numk (by omega) ?_
  intro w34 g34 hq34
  have ini := rn_in 4 mo.2
  generalize rn 4 mo.2 = ni at g34 hout ini ⊢
  have hrow34 := hrow.keep hq34 (fun y e => by omega)
  obtain ⟨N, hN⟩ := Int.eq_ofNat_of_zero_le ini.1
  rw [hN, Int.toNat_natCast] at hout
  rw [hN]
  have hN4 : N ≤ 4 := by have := ini.2.1; omega
  refine ⟨fun vl w' => ∃ (i : Nat) (L : List (Int × Pg)) (st : St2) (vi : Value), vl = [iv i] ∧ i ≤ N ∧ L.length = i ∧ HS w w' x2 rb r4 x5 st ⟨a0.1, a1.1, a2.1, a3.1, a4.1, a5.1, a6.1, a7.1, a8.1, a9.1, at_.1, sl.1, mo.1, L, [], []⟩ vs vm vi nl nl ∧ Rows w' (x5 + 1) ⟨a0.1, a1.1, a2.1, a3.1, a4.1, a5.1, a6.1, a7.1, a8.1, a9.1, at_.1, sl.1, mo.1, L, [], []⟩ vs vm vi nl nl ∧ riGo N ni.2 = (riGo (N - i) st).map fun q => (L ++ q.1, q.2), fun vl _ => (N - nth vl 0).toNat, ⟨0, [], ni.2, nl, rfl, by omega, rfl, g34, hrow34, by rw [Nat.sub_zero]; simp⟩, ?_⟩
  rintro _ w35 iv35 ⟨i, L, st, vi, hvl, hi, hL, g35, hr35, heq⟩
  cases hvl
  by_cases hlt : i < N
  · have d1 : decide ((i : Int) < (N : Int)) = true := by rw [decide_eq_true_eq]; omega
    have ei : IntKind.i64.wrap ((i : Int) + 1) = ((i + 1 : Nat) : Int) := by rw [wrap_id] <;> omega
    obtain ⟨m, hm⟩ : ∃ m, N - i = m + 1 := ⟨N - i - 1, by omega⟩
    have hm1 : N - (i + 1) = m := by omega
    rw [hm, riGo] at heq
    have hd35 := Fm.drew (fun _ => False) w35
    have g36 := g35.keepG hd35 (fun _ e => e.elim)
    have hr36 := hr35.keep hd35 (fun _ e => e.elim)
    simp only [RS0, RS1, RS2, RS3, RS4, RS5, d1]
    refine ⟨fun w' => w'.heap[r4]? = some (.cells #[pv rb] 181), g36.rp, pv rb, fun w9 h9 => ?_, ?_⟩
    · have : w9.cell? ⟨r4, 0, none⟩ = some (pv rb) := by rw [cell_at h9]; rfl
      simp only [RS0, RS1, RS2, RS3, RS4, RS5, this]; trivial
    generalize w35.drew = w36 at hd35 g36 hr36
    refine g36.num ?_
    intro w37 g37 hq37
    have hr37 := hr36.keep hq37 (fun y e => by omega)
    refine ⟨g37.rp, ?_⟩
    refine g37.text ?_
    intro w38 g38 hq38
    have hr38 := hr37.keep hq38 (fun y e => by omega)
    have ip := rn_in 4611686018427387904 st
    generalize rn 4611686018427387904 st = pa at g37 g38 heq ip ⊢
    have itt := rt_in (most := 512) (by omega) pa.2
    generalize rt 512 pa.2 = tt at g38 heq itt ⊢
    have e5 : IntKind.i64.wrap (512 - (tt.1.length : Int)) = ((512 - tt.1.length : Nat) : Int) := by rw [wrap_id] <;> omega
    have hmk : ByteArray.mk #[0] = str [0] := rfl
    simp only [RS0, RS1, RS2, RS3, RS4, RS5, str_size, e5, hmk]
    refine (repeat_spec w38 (512 - tt.1.length) (by omega)).mono ?_
    rintro _ w39 ⟨rfl, hq39⟩
    have g39 := g38.keepG hq39 (fun _ e => e.elim)
    have hr39 := hr38.keep hq39 (fun _ e => e.elim)
    rw [sadd (by rw [zeros_len]; omega)]
    try simp only [RS0, RS1, RS2, RS3, RS4, RS5]
    have hpad : tt.1 ++ zeros (512 - tt.1.length) = padZ tt.1 := rfl
    have hpl : (padZ tt.1).length = 512 := by unfold padZ; rw [List.length_append, zeros_len]; omega
    rw [hpad]
    refine (decode_spec w39 (padZ tt.1) (by omega)).mono ?_
    rintro _ w40 ⟨pc, rfl, hO40, hq40⟩
    have g40 := g39.keepG hq40 (fun _ e => e.elim)
    have hr40 := hr39.keep hq40 (fun _ e => e.elim)
    have hA40 := hO40.as
    have hz40 := hq40.size
    have hx39 := g39.x.lt
    simp only [RS0, RS1, RS2, RS3, RS4, RS5]
    refine New_any ?_
    intro x9 w41 hx9 hs41 hw41 hf41
    refine St_all hw41 rfl hA40.size hA40.one ?_
    intro w42 hw42 hs42 hf42
    have hf4042 : Fm (fun _ => False) w40 w42 := Fm.own hf41 hf42 (by rintro y rfl; omega)
    have g42 := g40.keepG hf4042 (fun _ e => e.elim)
    have hr42 := hr40.keep hf4042 (fun _ e => e.elim)
    have hO42 := hO40.keep hf4042
    -- out of the images
    have bad : (decide ((pDec (padZ tt.1)).2 = 0) && decide (tt.2.2 = 0)) = false → outerP s = none := fun hb => by
      rw [hout, heq, hb]; rfl
    have early : ∀ w', HS w w' x2 rb r4 x5 tt.2 ⟨a0.1, a1.1, a2.1, a3.1, a4.1, a5.1, a6.1, a7.1, a8.1, a9.1, at_.1, sl.1, mo.1, L, [], []⟩ vs vm vi nl nl → Rows w' (x5 + 1) ⟨a0.1, a1.1, a2.1, a3.1, a4.1, a5.1, a6.1, a7.1, a8.1, a9.1, at_.1, sl.1, mo.1, L, [], []⟩ vs vm vi nl nl → outerP s = none → Pu (cellsV w' ⟨x5, 0, none⟩ 16) (fun t79_166 =>
        St 16 w' (.pointer (some ⟨x2, 0, none⟩)) t79_166 fun u_168 w_169 =>
        RetO (resL Tryz.prog (fun j => bif Nat.beq j 2 then .pointer (some ⟨x2, 0, none⟩) else bif Nat.beq j 3 then (Value.bool false) else undef) w_169 [(ResultVar.cell 2 28), (ResultVar.tmp 3)]) w_169 (fun v w' => ∃ cs ok, v = .tuple #[.agg cs, .bool ok] ∧ cs.size = 16 ∧ (∀ u ∈ cs.toList, u.oneCell' = true) ∧ (ok = false → outerP s = none) ∧ (ok = true → ∃ x vs vm vi vp vt, outerP s = some x ∧ cs = rcs x vs vm vi vp vt ∧ Rows w' w.heap.size x vs vm vi vp vt) ∧ Fm (fun _ => False) w w')) := by
      intro w' gg rr hno
      simp only [RS0, RS1, RS2, RS3, RS4, RS5, gg.x.all]
      refine gg.ret rr.one false ?_
      intro w'' hf''
      have := gg.o1
      exact ⟨_, _, rfl, rfl, rr.one, fun _ => hno, fun e => (by cases e), Fm.own gg.fm hf'' (by rintro y rfl; omega)⟩
    simp only [RS0, RS1, RS2, RS3, RS4, RS5, bne_dec]
    cases hz1 : decide ((pDec (padZ tt.1)).2 = 0) with
    | false =>
      simp only [RS0, RS1, RS2, RS3, RS4, RS5]
      have := early w42 g42 hr42 (bad (by rw [hz1, Bool.false_and]))
      exact this
    | true =>
    simp only [RS0, RS1, RS2, RS3, RS4, RS5, g42.cp]
    refine (berr_spec g42.rd).mono ?_
    rintro _ w43 ⟨rfl, rfl⟩
    simp only [RS0, RS1, RS2, RS3, RS4, RS5, bne_dec]
    cases hz2 : decide (tt.2.2 = 0) with
    | false =>
      simp only [RS0, RS1, RS2, RS3, RS4, RS5]
      have := early w43 g42 hr42 (bad (by rw [hz2, Bool.and_false]))
      exact this
    | true =>
    rw [hz1, hz2] at heq
    obtain ⟨pv_, rfl, hov⟩ := hO42.ex
    have hps : ∃ a n c, pv_ = .slice a n c := by
      rcases hov.2 with ⟨rfl, _⟩ | ⟨g, cap, cur, rfl, _⟩ <;> exact ⟨_, _, _, rfl⟩
    obtain ⟨pa1, pn1, pc1, rfl⟩ := hps
    simp only [RS0, RS1, RS2, RS3, RS4, RS5, g42.x.c13, cellsV_blk hw42 hA40.size]
    refine RunS_ok (bld90 _ _ _ _ _ _) ?_
    refine RunS_ok (bs48 _ _ _ _ _ _) ?_
    have hf44 := Fm.alloc (fun _ => False) w43 (.cells (imC (pa.1, (pDec (padZ tt.1)).1, .slice pa1 pn1 pc1)).toArray 118)
    have hn44 := alloc_new w43 (.cells (imC (pa.1, (pDec (padZ tt.1)).1, .slice pa1 pn1 pc1)).toArray 118)
    have g44 := g42.keepG hf44 (fun _ e => e.elim)
    have hr44 := hr42.keep hf44 (fun _ e => e.elim)
    have hO44 := own_keep hov hf44 (fun _ _ _ _ e => e)
    have hz44 := hf44.size
    generalize w43.alloc (.cells (imC (pa.1, (pDec (padZ tt.1)).1, .slice pa1 pn1 pc1)).toArray 118) = w44 at hf44 hn44 g44 hr44 hO44 hz44
    have hx44 := g44.x.lt
    obtain ⟨X, hX1, hX2, hX3⟩ := hr44.hi
    have hXl : X.length = i := by have := congrArg List.length hX1; rw [List.length_map] at this; rw [this]; exact hL
    obtain ⟨vi', w45, hr45, ho45, _, hf45⟩ := app_fine Er48 (by omega) hX2 (cs := imC (pa.1, (pDec (padZ tt.1)).1, .slice pa1 pn1 pc1)) hn44 rfl (by intro q hq; simp [imC, pcs] at hq; rcases hq with rfl | rfl | rfl | rfl | rfl | rfl | rfl <;> rfl) (by omega) (by unfold maxLen; omega) (by omega)
    refine RunS_ok hr45 ?_
    have hlt45 := own_lt hX2
    have g45 := g44.keepG hf45 (fun y hy => by have := hlt45 y hy; omega)
    try simp only [RS0, RS1, RS2, RS3, RS4, RS5]
    refine g45.put (j := 13) (r' := ⟨a0.1, a1.1, a2.1, a3.1, a4.1, a5.1, a6.1, a7.1, a8.1, a9.1, at_.1, sl.1, mo.1, (L ++ [(pa.1, (pDec (padZ tt.1)).1)]), [], []⟩) (vs' := vs) (vm' := vm) (vi' := vi') (vp' := nl) (vt' := nl) (by omega) (own_one ho45) rfl ?_
    intro w46 g46 hq46
    simp only [RS0, RS1, RS2, RS3, RS4, RS5, ei]
    refine ⟨⟨i + 1, L ++ [(pa.1, (pDec (padZ tt.1)).1)], tt.2, vi', rfl, by omega, by rw [List.length_append, hL]; rfl, g46, ?_, ?_⟩, by simp only [nth_0]; omega⟩
    · have q46 : ∀ k, x5 + 1 ≤ k → ¬ k = x5 := fun k hk e => by omega
      have a3 := fun k hk => own_apart hX2 hr44.hs (by decide) k hk
      refine ⟨own_keep (own_keep hr44.hs hf45 (fun k _ _ hk e => own_apart hX2 hr44.hs (by decide) k e hk)) hq46 (fun k hk _ _ => q46 k hk), own_keep (own_keep hr44.hm hf45 (fun k _ _ hk e => own_apart hX2 hr44.hm (by decide) k e hk)) hq46 (fun k hk _ _ => q46 k hk), ⟨X ++ [(pa.1, (pDec (padZ tt.1)).1, .slice pa1 pn1 pc1)], ?_, ?_, ?_⟩, World.ownsRow_nil _ _ _ _, World.ownsRow_nil _ _ _ _⟩
      · rw [List.map_append, hX1]; rfl
      · rw [List.length_append, List.flatMap_append, List.flatMap_cons, List.flatMap_nil, List.append_nil]
        exact own_keep ho45 hq46 (fun k hk _ _ => q46 k hk)
      · intro x hx
        rcases List.mem_append.1 hx with hx | hx
        · obtain ⟨q1, q2, q3⟩ := hX3 x hx
          have q4 := own_keep (own_keep q2 hf45 (fun k _ _ hk e => own_apart hX2 q2 (by decide) k e hk)) hq46 (fun k hk _ _ => q46 k hk)
          exact ⟨q1, q4, pgas_own q4 q3⟩
        · obtain rfl : x = (pa.1, (pDec (padZ tt.1)).1, .slice pa1 pn1 pc1) := by simpa using hx
          have q2 := own_base hO44 (show x5 + 1 ≤ w39.heap.size by omega)
          have q4 := own_keep (own_keep q2 hf45 (fun k _ _ hk e => own_apart hX2 q2 (by decide) k e hk)) hq46 (fun k hk _ _ => q46 k hk)
          exact ⟨rfl, q4, pgas_own q4 hO42.as⟩
    · rw [heq, hm1]
      cases riGo m tt.2 with
      | none => rfl
      | some q => simp
  · have hie : i = N := by omega
    subst hie
    have d1 : decide ((i : Int) < (i : Int)) = false := by simp
    rw [Nat.sub_self, riGo] at heq
    simp only [Option.map_some, List.append_nil] at heq
    rw [heq, Option.bind_some] at hout
    unfold tailG at hout
    simp only at hout
    -- pairs
    simp only [RS0, RS1, RS2, RS3, RS4, RS5, d1, g35.cp]
    refine g35.numk (by omega) ?_
    intro w60 g60 hq60
    have in60 := rn_in 8192 st
    generalize rn 8192 st = n60 at g60 hout in60 ⊢
    have hr60 := hr35.keep hq60 (fun y e => by omega)
    obtain ⟨N60, hN60⟩ := Int.eq_ofNat_of_zero_le in60.1
    rw [hN60, Int.toNat_natCast] at hout
    rw [hN60]
    have hNl60 : N60 ≤ 8192 := by have := in60.2.1; omega
    refine ⟨fun vl w' => ∃ (i : Nat) (P : List (Int × Int)) (st : St2) (vx : Value), vl = [iv i] ∧ i ≤ N60 ∧ P.length = i ∧ HS w w' x2 rb r4 x5 st ⟨a0.1, a1.1, a2.1, a3.1, a4.1, a5.1, a6.1, a7.1, a8.1, a9.1, at_.1, sl.1, mo.1, L, P, []⟩ vs vm vi vx nl ∧ Rows w' (x5 + 1) ⟨a0.1, a1.1, a2.1, a3.1, a4.1, a5.1, a6.1, a7.1, a8.1, a9.1, at_.1, sl.1, mo.1, L, P, []⟩ vs vm vi vx nl ∧ rpGo N60 n60.2 = (rpGo (N60 - i) st).map fun q => (P ++ q.1, q.2), fun vl _ => (N60 - nth vl 0).toNat, ⟨0, [], n60.2, nl, rfl, by omega, rfl, g60, hr60, by rw [Nat.sub_zero]; simp⟩, ?_⟩
    rintro _ w61 iv61 ⟨j, PG1, st61, vx61, hvl, hj, hP, g61, hr61, heq61⟩
    cases hvl
    by_cases hlt : j < N60
    · have d2 : decide ((j : Int) < (N60 : Int)) = true := by rw [decide_eq_true_eq]; omega
      have ei : IntKind.i64.wrap ((j : Int) + 1) = ((j + 1 : Nat) : Int) := by rw [wrap_id] <;> omega
      obtain ⟨m, hm⟩ : ∃ m, N60 - j = m + 1 := ⟨N60 - j - 1, by omega⟩
      have hm1 : N60 - (j + 1) = m := by omega
      rw [hm, rpGo] at heq61
      simp only [RS0, RS1, RS2, RS3, RS4, RS5, d2, g61.cp]
      refine (berr_spec g61.rd).mono ?_
      rintro _ w50 ⟨rfl, rfl⟩
      simp only [RS0, RS1, RS2, RS3, RS4, RS5, bne_dec]
      cases hz3 : decide (st61.2 = 0) with
      | false =>
        rw [hz3, cond_false] at heq61
        have hno : outerP s = none := by rw [hout, heq61]; rfl
        simp only [RS0, RS1, RS2, RS3, RS4, RS5, g61.x.all]
        refine g61.ret hr61.one false ?_
        intro w'' hf''
        have := g61.o1
        exact ⟨_, _, rfl, rfl, hr61.one, fun _ => hno, fun e => (by cases e), Fm.own g61.fm hf'' (by rintro y rfl; omega)⟩
      | true =>
      rw [hz3, cond_true] at heq61
      have hd50 := Fm.drew (fun _ => False) w50
      have g51 := g61.keepG hd50 (fun _ e => e.elim)
      have hr51 := hr61.keep hd50 (fun _ e => e.elim)
      simp only [RS0, RS1, RS2, RS3, RS4, RS5]
      refine ⟨fun w' => w'.cell? ⟨x5, 14, none⟩ = some vx61, g51.x.c14, ?_⟩
      try simp only [RS0, RS1, RS2, RS3, RS4, RS5]
      refine ⟨vx61, fun w9 h9 => ?_, ?_⟩
      · simp only [RS0, RS1, RS2, RS3, RS4, RS5, h9]; trivial
      generalize w50.drew = w51 at hd50 g51 hr51
      refine g51.num ?_
      intro w52 g52 hq52
      have hr52 := hr51.keep hq52 (fun y e => by omega)
      refine ⟨g52.x.c14, ?_⟩
      refine g52.num ?_
      intro w53 g53 hq53
      have hr53 := hr52.keep hq53 (fun y e => by omega)
      refine ⟨g53.x.c14, ?_⟩
      generalize rn 4611686018427387904 st61 = pa at g52 g53 heq61 ⊢
      generalize rn 4611686018427387904 pa.2 = pb at g53 heq61 ⊢
      refine RunS_ok (bld96 _ _ _) ⟨rfl, ?_⟩
      refine RunS_ok (bs49 _ _ _) ?_
      have hf54 := Fm.alloc (fun _ => False) w53 (.cells (pc2 (pa.1, pb.1)).toArray 120)
      have hn54 := alloc_new w53 (.cells (pc2 (pa.1, pb.1)).toArray 120)
      have g54 := g53.keepG hf54 (fun _ e => e.elim)
      have hr54 := hr53.keep hf54 (fun _ e => e.elim)
      generalize w53.alloc (.cells (pc2 (pa.1, pb.1)).toArray 120) = w54 at hf54 hn54 g54 hr54
      refine ⟨g54.x.c14, ?_⟩
      have hx54 := g54.x.lt
      have hh54 : w54.ownsRow (x5 + 1) 120 2 vx61 PG1.length (PG1.flatMap pc2) := hr54.hp
      obtain ⟨vx', w55, hr55, ho55, _, hf55⟩ := app_fine Er49 (by omega) hh54 (cs := pc2 (pa.1, pb.1)) hn54 rfl (by intro q hq; simp [pc2] at hq; rcases hq with rfl | rfl <;> rfl) (by omega) (by unfold maxLen; omega) (by omega)
      refine RunS_ok hr55 ?_
      have hlt55 := own_lt hr54.hp
      have g55 := g54.keepG hf55 (fun y hy => by have := hlt55 y hy; omega)
      try simp only [RS0, RS1, RS2, RS3, RS4, RS5]
      refine g55.put (j := 14) (r' := ⟨a0.1, a1.1, a2.1, a3.1, a4.1, a5.1, a6.1, a7.1, a8.1, a9.1, at_.1, sl.1, mo.1, L, (PG1 ++ [(pa.1, pb.1)]), []⟩) (vs' := vs) (vm' := vm) (vi' := vi) (vp' := vx') (vt' := nl) (by omega) (own_one ho55) rfl ?_
      intro w56 g56 hq56
      simp only [RS0, RS1, RS2, RS3, RS4, RS5, ei]
      refine ⟨⟨j + 1, PG1 ++ [(pa.1, pb.1)], pb.2, vx', rfl, by omega, by rw [List.length_append, hP]; rfl, g56, ?_, ?_⟩, by simp only [nth_0]; omega⟩
      · have q56 : ∀ k, x5 + 1 ≤ k → ¬ k = x5 := fun k hk e => by omega
        have hrow56 := ho55
        have kk : ∀ {b1 : Nat} {e1 : TypeId} {s1 : Nat} {v1 : Value} {n1 : Nat} {y1 : List Value}, w54.ownsRow (x5 + 1) e1 s1 v1 n1 y1 → 120 ≠ e1 → w56.ownsRow (x5 + 1) e1 s1 v1 n1 y1 := fun hh he => own_keep (own_keep hh hf55 (fun k _ _ hk e => own_apart hr54.hp hh he k e hk)) hq56 (fun k hk _ _ => q56 k hk)
        obtain ⟨X, hX1, hX2, hX3⟩ := hr54.hi
        refine ⟨kk (b1 := 0) hr54.hs (by decide), kk (b1 := 0) hr54.hm (by decide), ⟨X, hX1, kk (b1 := 0) hX2 (by decide), fun x hx => ?_⟩, by
          show w56.ownsRow _ _ _ _ (PG1 ++ [(pa.1, pb.1)]).length _
          rw [List.length_append, List.flatMap_append, List.flatMap_cons, List.flatMap_nil, List.append_nil]
          exact own_keep ho55 hq56 (fun k hk _ _ => q56 k hk), World.ownsRow_nil _ _ _ _⟩
        obtain ⟨q1, q2, q3⟩ := hX3 x hx
        have q4 := kk (b1 := 0) q2 (by decide)
        exact ⟨q1, q4, pgas_own q4 q3⟩
      · rw [heq61, hm1]
        cases rpGo m pb.2 with
        | none => rfl
        | some q => simp
    have hje : j = N60 := by omega
    subst hje
    have d61 : decide ((j : Int) < (j : Int)) = false := by simp
    rw [Nat.sub_self, rpGo] at heq61
    simp only [Option.map_some, List.append_nil] at heq61
    rw [heq61, Option.bind_some] at hout
    unfold tailH at hout
    simp only at hout
    -- pairs
    simp only [RS0, RS1, RS2, RS3, RS4, RS5, d61, g61.cp]
    refine g61.numk (by omega) ?_
    intro w70 g70 hq70
    have in70 := rn_in 1024 st61
    generalize rn 1024 st61 = n70 at g70 hout in70 ⊢
    have hr70 := hr61.keep hq70 (fun y e => by omega)
    obtain ⟨N70, hN70⟩ := Int.eq_ofNat_of_zero_le in70.1
    rw [hN70, Int.toNat_natCast] at hout
    rw [hN70]
    have hNl70 : N70 ≤ 1024 := by have := in70.2.1; omega
    refine ⟨fun vl w' => ∃ (i : Nat) (P : List (Int × Int)) (st : St2) (vx : Value), vl = [iv i] ∧ i ≤ N70 ∧ P.length = i ∧ HS w w' x2 rb r4 x5 st ⟨a0.1, a1.1, a2.1, a3.1, a4.1, a5.1, a6.1, a7.1, a8.1, a9.1, at_.1, sl.1, mo.1, L, PG1, P⟩ vs vm vi vx61 vx ∧ Rows w' (x5 + 1) ⟨a0.1, a1.1, a2.1, a3.1, a4.1, a5.1, a6.1, a7.1, a8.1, a9.1, at_.1, sl.1, mo.1, L, PG1, P⟩ vs vm vi vx61 vx ∧ rpGo N70 n70.2 = (rpGo (N70 - i) st).map fun q => (P ++ q.1, q.2), fun vl _ => (N70 - nth vl 0).toNat, ⟨0, [], n70.2, nl, rfl, by omega, rfl, g70, hr70, by rw [Nat.sub_zero]; simp⟩, ?_⟩
    rintro _ w71 iv71 ⟨j, TX1, st71, vx71, hvl, hj, hP, g71, hr71, heq71⟩
    cases hvl
    by_cases hlt : j < N70
    · have d2 : decide ((j : Int) < (N70 : Int)) = true := by rw [decide_eq_true_eq]; omega
      have ei : IntKind.i64.wrap ((j : Int) + 1) = ((j + 1 : Nat) : Int) := by rw [wrap_id] <;> omega
      obtain ⟨m, hm⟩ : ∃ m, N70 - j = m + 1 := ⟨N70 - j - 1, by omega⟩
      have hm1 : N70 - (j + 1) = m := by omega
      rw [hm, rpGo] at heq71
      simp only [RS0, RS1, RS2, RS3, RS4, RS5, d2, g71.cp]
      refine (berr_spec g71.rd).mono ?_
      rintro _ w50 ⟨rfl, rfl⟩
      simp only [RS0, RS1, RS2, RS3, RS4, RS5, bne_dec]
      cases hz3 : decide (st71.2 = 0) with
      | false =>
        rw [hz3, cond_false] at heq71
        have hno : outerP s = none := by rw [hout, heq71]; rfl
        simp only [RS0, RS1, RS2, RS3, RS4, RS5, g71.x.all]
        refine g71.ret hr71.one false ?_
        intro w'' hf''
        have := g71.o1
        exact ⟨_, _, rfl, rfl, hr71.one, fun _ => hno, fun e => (by cases e), Fm.own g71.fm hf'' (by rintro y rfl; omega)⟩
      | true =>
      rw [hz3, cond_true] at heq71
      have hd50 := Fm.drew (fun _ => False) w50
      have g51 := g71.keepG hd50 (fun _ e => e.elim)
      have hr51 := hr71.keep hd50 (fun _ e => e.elim)
      simp only [RS0, RS1, RS2, RS3, RS4, RS5]
      refine ⟨fun w' => w'.cell? ⟨x5, 15, none⟩ = some vx71, g51.x.c15, ?_⟩
      try simp only [RS0, RS1, RS2, RS3, RS4, RS5]
      refine ⟨vx71, fun w9 h9 => ?_, ?_⟩
      · simp only [RS0, RS1, RS2, RS3, RS4, RS5, h9]; trivial
      generalize w50.drew = w51 at hd50 g51 hr51
      refine g51.num ?_
      intro w52 g52 hq52
      have hr52 := hr51.keep hq52 (fun y e => by omega)
      refine ⟨g52.x.c15, ?_⟩
      refine g52.num ?_
      intro w53 g53 hq53
      have hr53 := hr52.keep hq53 (fun y e => by omega)
      refine ⟨g53.x.c15, ?_⟩
      generalize rn 4611686018427387904 st71 = pa at g52 g53 heq71 ⊢
      generalize rn 4611686018427387904 pa.2 = pb at g53 heq71 ⊢
      refine RunS_ok (bld99 _ _ _) ⟨rfl, ?_⟩
      refine RunS_ok (bs50 _ _ _) ?_
      have hf54 := Fm.alloc (fun _ => False) w53 (.cells (pc2 (pa.1, pb.1)).toArray 122)
      have hn54 := alloc_new w53 (.cells (pc2 (pa.1, pb.1)).toArray 122)
      have g54 := g53.keepG hf54 (fun _ e => e.elim)
      have hr54 := hr53.keep hf54 (fun _ e => e.elim)
      generalize w53.alloc (.cells (pc2 (pa.1, pb.1)).toArray 122) = w54 at hf54 hn54 g54 hr54
      refine ⟨g54.x.c15, ?_⟩
      have hx54 := g54.x.lt
      have hh54 : w54.ownsRow (x5 + 1) 122 2 vx71 TX1.length (TX1.flatMap pc2) := hr54.ht
      obtain ⟨vx', w55, hr55, ho55, _, hf55⟩ := app_fine Er50 (by omega) hh54 (cs := pc2 (pa.1, pb.1)) hn54 rfl (by intro q hq; simp [pc2] at hq; rcases hq with rfl | rfl <;> rfl) (by omega) (by unfold maxLen; omega) (by omega)
      refine RunS_ok hr55 ?_
      have hlt55 := own_lt hr54.ht
      have g55 := g54.keepG hf55 (fun y hy => by have := hlt55 y hy; omega)
      try simp only [RS0, RS1, RS2, RS3, RS4, RS5]
      refine g55.put (j := 15) (r' := ⟨a0.1, a1.1, a2.1, a3.1, a4.1, a5.1, a6.1, a7.1, a8.1, a9.1, at_.1, sl.1, mo.1, L, PG1, (TX1 ++ [(pa.1, pb.1)])⟩) (vs' := vs) (vm' := vm) (vi' := vi) (vp' := vx61) (vt' := vx') (by omega) (own_one ho55) rfl ?_
      intro w56 g56 hq56
      simp only [RS0, RS1, RS2, RS3, RS4, RS5, ei]
      refine ⟨⟨j + 1, TX1 ++ [(pa.1, pb.1)], pb.2, vx', rfl, by omega, by rw [List.length_append, hP]; rfl, g56, ?_, ?_⟩, by simp only [nth_0]; omega⟩
      · have q56 : ∀ k, x5 + 1 ≤ k → ¬ k = x5 := fun k hk e => by omega
        have hrow56 := ho55
        have kk : ∀ {b1 : Nat} {e1 : TypeId} {s1 : Nat} {v1 : Value} {n1 : Nat} {y1 : List Value}, w54.ownsRow (x5 + 1) e1 s1 v1 n1 y1 → 122 ≠ e1 → w56.ownsRow (x5 + 1) e1 s1 v1 n1 y1 := fun hh he => own_keep (own_keep hh hf55 (fun k _ _ hk e => own_apart hr54.ht hh he k e hk)) hq56 (fun k hk _ _ => q56 k hk)
        obtain ⟨X, hX1, hX2, hX3⟩ := hr54.hi
        refine ⟨kk (b1 := 0) hr54.hs (by decide), kk (b1 := 0) hr54.hm (by decide), ⟨X, hX1, kk (b1 := 0) hX2 (by decide), fun x hx => ?_⟩, kk (b1 := 0) hr54.hp (by decide), by
          show w56.ownsRow _ _ _ _ (TX1 ++ [(pa.1, pb.1)]).length _
          rw [List.length_append, List.flatMap_append, List.flatMap_cons, List.flatMap_nil, List.append_nil]
          exact own_keep ho55 hq56 (fun k hk _ _ => q56 k hk)⟩
        obtain ⟨q1, q2, q3⟩ := hX3 x hx
        have q4 := kk (b1 := 0) q2 (by decide)
        exact ⟨q1, q4, pgas_own q4 q3⟩
      · rw [heq71, hm1]
        cases rpGo m pb.2 with
        | none => rfl
        | some q => simp
    have hje : j = N70 := by omega
    subst hje
    have d71 : decide ((j : Int) < (j : Int)) = false := by simp
    rw [Nat.sub_self, rpGo] at heq71
    simp only [Option.map_some, List.append_nil] at heq71
    rw [heq71, Option.bind_some] at hout
    unfold tailI at hout
    simp only at hout
    have hd71 := Fm.drew (fun _ => False) w71
    have g72 := g71.keepG hd71 (fun _ e => e.elim)
    have hr72 := hr71.keep hd71 (fun _ e => e.elim)
    simp only [RS0, RS1, RS2, RS3, RS4, RS5, d71]
    refine ⟨fun w' => RB w' x5 ⟨a0.1, a1.1, a2.1, a3.1, a4.1, a5.1, a6.1, a7.1, a8.1, a9.1, at_.1, sl.1, mo.1, L, PG1, TX1⟩ vs vm vi vx61 vx71, g72.x, .agg (rcs ⟨a0.1, a1.1, a2.1, a3.1, a4.1, a5.1, a6.1, a7.1, a8.1, a9.1, at_.1, sl.1, mo.1, L, PG1, TX1⟩ vs vm vi vx61 vx71), fun w9 h9 => ?_, ?_⟩
    · simp only [RS0, RS1, RS2, RS3, RS4, RS5, h9.all]; trivial
    simp only [RS0, RS1, RS2, RS3, RS4, RS5, g71.cp, g72.cp, true_and]
    generalize w71.drew = w72 at hd71 g72 hr72
    refine (bend_spec g72.rd).mono ?_
    rintro _ w73 ⟨rfl, rfl⟩
    refine ⟨g72.x, ?_⟩
    simp only [RS0, RS1, RS2, RS3, RS4, RS5, beq_dec]
    refine g72.ret hr72.one _ ?_
    intro w74 hf74
    have ho1 := g72.o1
    have ho2 := g72.o2
    have ho3 := g72.o3
    refine ⟨_, _, rfl, rfl, hr72.one, fun e => ?_, fun e => ?_, Fm.own g72.fm hf74 (by rintro y rfl; omega)⟩
    · rw [hout, e]; rfl
    · rw [e, cond_true] at hout
      have hr74 := hr72.keep hf74 (fun y e => by omega)
      have b74 : ∀ {e1 : TypeId} {s1 : Nat} {v1 : Value} {n1 : Nat} {y1 : List Value}, w74.ownsRow (x5 + 1) e1 s1 v1 n1 y1 → w74.ownsRow w.heap.size e1 s1 v1 n1 y1 := fun hh => own_base hh (by have := g72.o4; omega)
      obtain ⟨X, hX1, hX2, hX3⟩ := hr74.hi
      exact ⟨_, _, _, _, _, _, hout, rfl, b74 hr74.hs, b74 hr74.hm, ⟨X, hX1, b74 hX2, fun x hx => ⟨(hX3 x hx).1, b74 (hX3 x hx).2.1, (hX3 x hx).2.2⟩⟩, b74 hr74.hp, b74 hr74.ht⟩

end Go.Proofs.YthbngnlmgplijaaGreatDoor

namespace Go.Proofs.YthbngnlmgplijaaGreatDoor
open Go.Al Go.Proofs
set_option linter.unusedVariables false
set_option linter.unusedSimpArgs false
set_option linter.unusedSectionVars false
set_option maxRecDepth 100000

def RdOk (w : World) (b : Nat) (cs : Array Value) : Option Rc → Prop
  | none => cs = rcs rc0 nl nl nl nl nl
  | some x => ∃ vs vm vi vp vt, cs = rcs x vs vm vi vp vt ∧ Rows w b x vs vm vi vp vt ∧ Bnd x
theorem rows0 (w : World) (b : Nat) : Rows w b rc0 nl nl nl nl nl := ⟨World.ownsRow_nil _ _ _ _, World.ownsRow_nil _ _ _ _, ⟨[], rfl, World.ownsRow_nil _ _ _ _, by simp⟩, World.ownsRow_nil _ _ _ _, World.ownsRow_nil _ _ _ _⟩
theorem bnd0 : Bnd rc0 := ⟨by intro n hn; simp [rNums, rc0, prs] at hn; subst hn; unfold okN; omega, by simp [rc0], by simp [rc0], by simp [rc0], by simp [rc0], by simp [rc0], by simp [rc0], by simp [rc0], by simp [rc0]⟩
theorem RdOk.as {w : World} {b : Nat} {cs : Array Value} {o : Option Rc} (h : RdOk w b cs o) : RcAs w cs (o.getD rc0) := by
  cases o with
  | none =>
    have h : cs = rcs rc0 nl nl nl nl nl := h
    subst h; exact (rows0 w b).asR bnd0
  | some x => obtain ⟨vs, vm, vi, vp, vt, rfl, h1, h2⟩ := h; exact h1.asR h2
theorem retRc {w : World} {g : Nat} {cs : Array Value} {n e : Value} (h : w.heap[g]? = some (.cells cs 28)) (hn : cs.size = 16) (k : KV) (hk : k (.tuple #[.agg cs, n, e]) w) :
    RetO (resL Tryz.prog (fun j => bif Nat.beq j 2 then .pointer (some ⟨g, 0, none⟩) else bif Nat.beq j 3 then n else bif Nat.beq j 4 then e else undef) w [(ResultVar.cell 2 28), (ResultVar.tmp 3), (ResultVar.tmp 4)]) w k := by
  have h3 : resV Tryz.prog (fun j => bif Nat.beq j 2 then .pointer (some ⟨g, 0, none⟩) else bif Nat.beq j 3 then n else bif Nat.beq j 4 then e else undef) w (.tmp 3) = some n := rfl
  have h4 : resV Tryz.prog (fun j => bif Nat.beq j 2 then .pointer (some ⟨g, 0, none⟩) else bif Nat.beq j 3 then n else bif Nat.beq j 4 then e else undef) w (.tmp 4) = some e := rfl
  simp only [resL, resV_blk (f := (fun j => bif Nat.beq j 2 then .pointer (some ⟨g, 0, none⟩) else bif Nat.beq j 3 then n else bif Nat.beq j 4 then e else undef)) (a := 2) rfl agg52 size52 h hn, h3, h4, RetO, RetV]
  exact hk

set_option maxHeartbeats 8000000 in
theorem rdec_spec (w : World) (d : Bs) (hd : d.length ≤ 1000000000000000) : Cl Tryz.prog 13 [stv d] w fun v w' => ∃ cs, v = .tuple #[.agg cs, iv (rDec d).2.1, iv (rDec d).2.2] ∧ RdOk w' w.heap.size cs (rDec d).1 ∧ Fm (fun _ => False) w w' := by
  refine c13 ?_; unfold T13
  refine New_any ?_
  intro x2 w1 hx2 hs1 hw1 hf1
  have hw1' : w1.heap[x2]? = some (.cells (rcs rc0 nl nl nl nl nl) 28) := hw1
  clear hw1
  have one0 : ∀ u ∈ (rcs rc0 nl nl nl nl nl).toList, u.oneCell' = true := rcs_one rfl rfl rfl rfl rfl
  -- an empty record
  have bad : ∀ (w' : World) (e : Int), w'.heap[x2]? = some (.cells (rcs rc0 nl nl nl nl nl) 28) → Fm (fun _ => False) w w' → rDec d = (none, 0, e) →
      RunS Tryz.prog (Instr.build 28 #[]) w' (fun t14_5 w_6 =>
      St 16 w_6 (pv x2) t14_5 fun u_7 w_8 =>
      RetO (resL Tryz.prog (fun j => bif Nat.beq j 2 then pv x2 else bif Nat.beq j 3 then (Value.int IntKind.i64 0) else bif Nat.beq j 4 then (Value.int IntKind.i64 e) else undef) w_8 [(ResultVar.cell 2 28), (ResultVar.tmp 3), (ResultVar.tmp 4)]) w_8 (fun v w' => ∃ cs, v = .tuple #[.agg cs, iv (rDec d).2.1, iv (rDec d).2.2] ∧ RdOk w' w.heap.size cs (rDec d).1 ∧ Fm (fun _ => False) w w')) := by
    intro w' e hw' hF hr
    refine RunS_ok (bld52z _) ?_
    refine St_all hw' rfl rfl one0 ?_
    intro w2 hw2 hs2 hf2
    refine retRc hw2 rfl _ ⟨_, by rw [hr]; rfl, by rw [hr]; rfl, Fm.own hF hf2 (by rintro y rfl; omega)⟩
  have hb : rDec d = (bif decide (d.length < 8) then (none, 0, 40)
    else bif decide (ofN (d.take 4) = 0) || decide (65535 < ofN (d.take 4)) then (none, 0, 41)
    else bif decide (d.length < 8 + ofN (d.take 4)) then (none, 0, 40)
    else bif !decide (ofN ((d.drop 4).take 4) = crc ((d.drop 8).take (ofN (d.take 4)))) then (none, 0, 30)
    else match outerP ((d.drop 8).take (ofN (d.take 4))) with
      | none => (none, 0, 41)
      | some x => bif decide ((rCheck x).2 = 0) && decide ((rCheck x).1 = (d.drop 8).take (ofN (d.take 4))) then (some x, 8 + ofN (d.take 4), 0) else (none, 0, 41) : Option Rc × Nat × Int) := rfl
  have d8 : decide ((d.length : Int) < 8) = decide (d.length < 8) := by rw [decide_eq_decide]; omega
  simp only [RS0, RS1, RS2, RS3, RS4, RS5, str_size, d8]
  cases h1 : decide (d.length < 8) with
  | true =>
    simp only [RS0, RS1, RS2, RS3, RS4, RS5]
    exact bad w1 40 hw1' hf1 (by rw [hb, h1]; rfl)
  | false =>
  have h8 : 8 ≤ d.length := by rw [decide_eq_false_iff_not] at h1; omega
  have s1 := slS_hi (l := d) (i := 4) (by omega) .i64
  have s1' : slS (stv d) none (some (Value.int .i64 4)) = some (stv (d.take 4)) := s1
  simp only [RS0, RS1, RS2, RS3, RS4, RS5, s1']
  refine (of_spec w1 (d.take 4) (by rw [List.length_take]; omega)).mono ?_
  rintro _ w2 ⟨rfl, rfl⟩
  have hn32 : ofN (d.take 4) < 4294967296 := by
    have := ofB_lt 4 (d.take 4) (by rw [List.length_take]; omega)
    rw [ofN_short (by rw [List.length_take]; omega)]
    omega
  rw [h1, cond_false] at hb
  generalize hn : ofN (d.take 4) = n at hb hn32 ⊢
  have e0 : ((n : Int) == 0) = decide (n = 0) := by rw [beq_dec, decide_eq_decide]; omega
  have e1 : decide ((65535 : Int) < (n : Int)) = decide (65535 < n) := by rw [decide_eq_decide]; omega
  simp only [RS0, RS1, RS2, RS3, RS4, RS5, e0]
  cases h2 : decide (n = 0) with
  | true =>
    simp only [RS0, RS1, RS2, RS3, RS4, RS5]
    exact bad w2 41 hw1' hf1 (by rw [hb, h2]; rfl)
  | false =>
  simp only [RS0, RS1, RS2, RS3, RS4, RS5, e1]
  cases h3 : decide (65535 < n) with
  | true =>
    simp only [RS0, RS1, RS2, RS3, RS4, RS5]
    exact bad w2 41 hw1' hf1 (by rw [hb, h2, h3]; rfl)
  | false =>
  rw [h2, h3, Bool.or_false, cond_false] at hb
  rw [decide_eq_false_iff_not] at h2 h3
  have e2 : IntKind.i64.wrap (8 + (n : Int)) = ((8 + n : Nat) : Int) := by rw [wrap_id] <;> omega
  have e3 : decide ((d.length : Int) < ((8 + n : Nat) : Int)) = decide (d.length < 8 + n) := by rw [decide_eq_decide]; omega
  simp only [RS0, RS1, RS2, RS3, RS4, RS5, str_size, e2, e3]
  cases h4 : decide (d.length < 8 + n) with
  | true =>
    simp only [RS0, RS1, RS2, RS3, RS4, RS5]
    exact bad w2 40 hw1' hf1 (by rw [hb, h4]; rfl)
  | false =>
  rw [h4, cond_false] at hb
  rw [decide_eq_false_iff_not] at h4
  have s2 := slS_lh (l := d) (i := 8) (j := 8 + n) (by omega) (by omega) .i64 .i64
  rw [show 8 + n - 8 = n by omega] at s2
  have s2' : slS (stv d) (some (Value.int .i64 8)) (some (iv ((8 + n : Nat) : Int))) = some (stv ((d.drop 8).take n)) := s2
  have s3 := slS_lh (l := d) (i := 4) (j := 8) (by omega) (by omega) .i64 .i64
  have s3' : slS (stv d) (some (Value.int .i64 4)) (some (Value.int .i64 8)) = some (stv ((d.drop 4).take 4)) := s3
  have hbl : ((d.drop 8).take n).length = n := by rw [List.length_take, List.length_drop]; omega
  simp only [RS0, RS1, RS2, RS3, RS4, RS5, e2, s2', s3']
  generalize hB : (d.drop 8).take n = B at hb hbl ⊢
  refine (of_spec w2 ((d.drop 4).take 4) (by rw [List.length_take]; omega)).mono ?_
  rintro _ w3 ⟨rfl, rfl⟩
  refine (sum_spec w3 B (by omega)).mono ?_
  rintro _ w4 ⟨rfl, rfl⟩
  obtain ⟨q1, q2⟩ := crc_in B
  have e4 : decide ((ofN ((d.drop 4).take 4) : Int) = (crc B : Nat)) = decide (ofN ((d.drop 4).take 4) = crc B) := by rw [decide_eq_decide]; omega
  simp only [RS0, RS1, RS2, RS3, RS4, RS5, cvI_int, q2, bne_dec, e4]
  cases h5 : decide (ofN ((d.drop 4).take 4) = crc B) with
  | false =>
    simp only [RS0, RS1, RS2, RS3, RS4, RS5, Bool.not_false]
    exact bad w4 30 hw1' hf1 (by rw [hb, h5]; rfl)
  | true =>
  rw [h5, Bool.not_true, cond_false] at hb
  simp only [RS0, RS1, RS2, RS3, RS4, RS5, Bool.not_true]
  refine (outer_spec w4 B (by omega)).mono ?_
  rintro _ w5 ⟨cs, ok, rfl, hsz, hone, hno, hyes, hf5⟩
  have hx5 := hf5.heap hw1' (fun e => e)
  have hF5 := Fmf hf1 hf5
  have hz5 := hF5.size
  simp only [RS0, RS1, RS2, RS3, RS4, RS5]
  refine New_any ?_
  intro x7 w6 hx7 hs6 hw6 hf6
  refine St_all hw6 rfl hsz hone ?_
  intro w7 hw7 hs7 hf7
  have hf57 : Fm (fun _ => False) w5 w7 := Fm.own hf6 hf7 (by rintro y rfl; omega)
  have hx7' := hf57.heap hx5 (fun e => e)
  have hF7 := Fmf hF5 hf57
  cases ok with
  | false =>
    simp only [RS0, RS1, RS2, RS3, RS4, RS5, Bool.not_false]
    exact bad w7 41 hx7' hF7 (by rw [hb, hno rfl])
  | true =>
  obtain ⟨x, vs, vm, vi, vp, vt, hx, rfl, hrow⟩ := hyes rfl
  have hbd := outer_in hx
  have hr7 := hrow.keep hf57 (fun _ e => e.elim)
  rw [hx] at hb
  simp only at hb
  simp only [RS0, RS1, RS2, RS3, RS4, RS5, Bool.not_true, cellsV_blk hw7 hsz]
  refine (checked_spec (hr7.asR hbd)).mono ?_
  rintro _ w8 ⟨rfl, hf8⟩
  have hx8 := hf8.heap hx7' (fun e => e)
  have hq8 := hf8.heap hw7 (fun e => e)
  have hF8 := Fmf hF7 hf8
  have hr8 := hr7.keep hf8 (fun _ e => e.elim)
  have hz7 := hF7.size
  simp only [RS0, RS1, RS2, RS3, RS4, RS5, bne_dec]
  cases h6 : decide ((rCheck x).2 = 0) with
  | false =>
    simp only [RS0, RS1, RS2, RS3, RS4, RS5, Bool.not_false]
    exact bad w8 41 hx8 hF8 (by rw [hb, h6]; rfl)
  | true =>
  rw [h6, Bool.true_and] at hb
  simp only [RS0, RS1, RS2, RS3, RS4, RS5, Bool.not_true, str_inj]
  cases h7 : decide ((rCheck x).1 = B) with
  | false =>
    simp only [RS0, RS1, RS2, RS3, RS4, RS5, Bool.not_false]
    exact bad w8 41 hx8 hF8 (by rw [hb, h7]; rfl)
  | true =>
  rw [h7, cond_true] at hb
  simp only [RS0, RS1, RS2, RS3, RS4, RS5, Bool.not_true, cellsV_blk hq8 hsz, e2]
  refine St_all hx8 rfl rfl hone ?_
  intro w9 hw9 hs9 hf9
  refine retRc hw9 rfl _ ⟨_, by rw [hb], ?_, Fm.own hF8 hf9 (by rintro y rfl; omega)⟩
  rw [hb]
  have hwsz : w.heap.size ≤ w4.heap.size := hf1.size
  have b9 : ∀ {e1 : TypeId} {s1 : Nat} {v1 : Value} {n1 : Nat} {y1 : List Value}, w9.ownsRow w4.heap.size e1 s1 v1 n1 y1 → w9.ownsRow w.heap.size e1 s1 v1 n1 y1 := fun hh => own_base hh hwsz
  have hr9 := hr8.keep hf9 (fun y e => by omega)
  obtain ⟨X, hX1, hX2, hX3⟩ := hr9.hi
  exact ⟨vs, vm, vi, vp, vt, rfl, ⟨b9 hr9.hs, b9 hr9.hm, ⟨X, hX1, b9 hX2, fun x hx => ⟨(hX3 x hx).1, b9 (hX3 x hx).2.1, (hX3 x hx).2.2⟩⟩, b9 hr9.hp, b9 hr9.ht⟩, hbd⟩

/-! ### What is laid is read, plainly -/
theorem body_ne (r : Rc) : 10 ≤ (rBody r).length := by
  have q : ∀ n : Int, 1 ≤ (encI n).length := fun n => by
    unfold encI
    by_cases h : 127 < (max n 0).toNat
    · rw [encN_big h]; simp
    · rw [encN_small (by omega)]; simp
  have e : rBody r = encI r.lsn ++ (encI r.prev ++ (encI r.next ++ (encI r.kind ++ (encI r.xid ++ (encI r.page ++ (encI r.slot ++ (encI r.old ++ (encI r.new ++ (encI r.redo ++ (txtB r.data ++ listB r.slots ++ listB r.more ++ encI r.imgs.length ++ r.imgs.flatMap imgB ++ encI r.pages.length ++ r.pages.flatMap prB ++ encI r.txns.length ++ r.txns.flatMap prB)))))))))) := by simp [rBody, numsB, headL]
  have h := congrArg List.length e
  simp only [List.length_append] at h
  have := q r.lsn
  have := q r.prev
  have := q r.next
  have := q r.kind
  have := q r.xid
  have := q r.page
  have := q r.slot
  have := q r.old
  have := q r.new
  have := q r.redo
  omega
theorem ofN_beN4 {n : Nat} (h : n < 4294967296) : ofN (beN 4 n) = n := by
  rw [ofN_short (by rw [beN_len]; omega), ofB_beN, Nat.mod_eq_of_lt (by omega)]
theorem rEnc_ok {r : Rc} (h : (rCheck r).2 = 0) (hl : ∀ m ∈ r.imgs, m.2.lsn ≤ 9223372036854775807) : rEnc r = (beN 4 (rBody r).length ++ beN 4 (crc (rBody r)) ++ rBody r, 0) := by
  have h2 := (rCheck_ok h hl).2.2.1
  unfold rEnc
  rw [h, h2]; rfl
theorem dec_head {b t : Bs} (hb : b.length ≤ 65535) : (beN 4 b.length ++ beN 4 (crc b) ++ b ++ t).take 4 = beN 4 b.length ∧ ((beN 4 b.length ++ beN 4 (crc b) ++ b ++ t).drop 4).take 4 = beN 4 (crc b) ∧ ((beN 4 b.length ++ beN 4 (crc b) ++ b ++ t).drop 8).take b.length = b ∧ (beN 4 b.length ++ beN 4 (crc b) ++ b ++ t).length = 8 + b.length + t.length := by
  have e1 : beN 4 b.length ++ beN 4 (crc b) ++ b ++ t = beN 4 b.length ++ (beN 4 (crc b) ++ (b ++ t)) := by simp
  have l1 := beN_len 4 b.length
  have l2 := beN_len 4 (crc b)
  refine ⟨by rw [e1, List.take_left' l1], by rw [e1, List.drop_left' l1, List.take_left' l2], ?_, by rw [e1]; simp only [List.length_append, l1, l2]; omega⟩
  have e2 : beN 4 b.length ++ beN 4 (crc b) ++ b ++ t = (beN 4 b.length ++ beN 4 (crc b)) ++ (b ++ t) := by simp
  rw [e2, List.drop_left' (by rw [List.length_append, l1, l2]), List.take_left]
theorem dec_back {r : Rc} (h : (rCheck r).2 = 0) (hl : ∀ m ∈ r.imgs, m.2.lsn ≤ 9223372036854775807) (t : Bs) : rDec ((rEnc r).1 ++ t) = (some r, (rEnc r).1.length, 0) := by
  obtain ⟨hg, _, hb, hlen⟩ := rCheck_ok h hl
  have hne := body_ne r
  have ho := outer_enc hg
  rw [rEnc_ok h hl]
  simp only
  generalize rBody r = b at hlen hne ho hb
  obtain ⟨h1, h2, h3, h4⟩ := dec_head (b := b) (t := t) hlen
  have h5 := (dec_head (b := b) (t := []) hlen).2.2.2
  rw [List.append_nil, List.length_nil, Nat.add_zero] at h5
  have hcl := crc_lt b
  unfold rDec
  rw [h1, h2, h4, h5, ofN_beN4 (by omega), h3, ofN_beN4 (by omega), decide_eq_false (show ¬ 8 + b.length + t.length < 8 by omega), decide_eq_false (show ¬ b.length = 0 by omega), decide_eq_false (show ¬ 65535 < b.length by omega), decide_eq_false (show ¬ 8 + b.length + t.length < 8 + b.length by omega), decide_eq_true rfl, ho]
  simp only [cond_false, Bool.or_false, Bool.not_true]
  rw [h, hb, decide_eq_true rfl, decide_eq_true rfl]
  rfl
theorem dec_short {r : Rc} (h : (rCheck r).2 = 0) (hl : ∀ m ∈ r.imgs, m.2.lsn ≤ 9223372036854775807) {k : Nat} (hk : k < (rEnc r).1.length) : rDec ((rEnc r).1.take k) = (none, 0, 40) := by
  obtain ⟨hg, _, hb, hlen⟩ := rCheck_ok h hl
  have hne := body_ne r
  rw [rEnc_ok h hl] at hk ⊢
  simp only at hk ⊢
  generalize rBody r = b at hlen hne hk
  obtain ⟨h1, h2, h3, h4⟩ := dec_head (b := b) (t := []) hlen
  rw [List.append_nil] at h1 h4
  rw [List.length_nil, Nat.add_zero] at h4
  generalize hs : beN 4 b.length ++ beN 4 (crc b) ++ b = s at h1 h4 hk ⊢
  have hkl : (s.take k).length = k := by rw [List.length_take]; omega
  unfold rDec
  rw [hkl]
  by_cases h8 : k < 8
  · rw [decide_eq_true h8]; rfl
  · rw [decide_eq_false h8, cond_false, List.take_take, Nat.min_eq_left (by omega), h1, ofN_beN4 (by omega), decide_eq_false (show ¬ b.length = 0 by omega), decide_eq_false (show ¬ 65535 < b.length by omega), decide_eq_true (show k < 8 + b.length by omega)]
    rfl
end Go.Proofs.YthbngnlmgplijaaGreatDoor

namespace Go.Proofs.YthbngnlmgplijaaGreatDoor
open Go.Al Go.Proofs
set_option linter.unusedVariables false
set_option linter.unusedSimpArgs false
set_option linter.unusedSectionVars false
set_option maxRecDepth 100000

theorem encN_step {c : Nat} {B t : Bs} {b : UInt8} (h : b :: B = encN c ++ t) : (b.toNat < 128 ∧ c ≤ 127 ∧ b.toNat = c ∧ B = t) ∨ (128 ≤ b.toNat ∧ 127 < c ∧ b.toNat % 128 = c % 128 ∧ B = encN (c / 128) ++ t) := by
  by_cases hc : 127 < c
  · rw [encN_big hc, List.cons_append, List.cons.injEq] at h
    obtain ⟨h1, h2⟩ := h
    have h3 : b.toNat = c % 128 + 128 := by rw [h1, UInt8.toNat_ofNat']; omega
    exact .inr ⟨by omega, hc, by omega, h2⟩
  · rw [encN_small (by omega), List.cons_append, List.nil_append, List.cons.injEq] at h
    obtain ⟨h1, h2⟩ := h
    have h3 : b.toNat = c := by rw [h1, UInt8.toNat_ofNat']; omega
    exact .inl ⟨by omega, by omega, h3, h2⟩
theorem encN_ne (c : Nat) (t : Bs) : encN c ++ t ≠ [] := by
  intro h
  by_cases hc : 127 < c
  · rw [encN_big hc] at h; cases h
  · rw [encN_small (by omega)] at h; cases h
structure RR (w : World) (rb : Nat) (S : Bs) (at_ : Nat) (e : Int) : Prop where
  h : w.heap[rb]? = some (.cells #[stv S, iv (at_ : Int), iv e] 188)
section
variable {w w' : World} {rb at_ : Nat} {S : Bs} {e : Int} {T : Nat → Prop}
theorem RR.keep (h : RR w rb S at_ e) (hf : Fm T w w') (hs : ¬ T rb) : RR w' rb S at_ e := ⟨hf.heap h.h hs⟩
theorem RR.c0 (h : RR w rb S at_ e) : w.cell? ⟨rb, 0, none⟩ = some (stv S) := by rw [cell_at h.h]; rfl
theorem RR.c1 (h : RR w rb S at_ e) : w.cell? ⟨rb, 1, none⟩ = some (iv (at_ : Int)) := by rw [cell_at h.h]; rfl
theorem RR.c2 (h : RR w rb S at_ e) : w.cell? ⟨rb, 2, none⟩ = some (iv e) := by rw [cell_at h.h]; rfl
theorem rwrong_spec (h : RR w rb S at_ e) (x : Int) : Cl Tryz.prog 204 [pv rb, iv x] w fun v w' => v = iv 0 ∧ RR w' rb S at_ x ∧ Fm (· = rb) w w' := by
  refine c204 ?_; unfold T204
  simp only [RS0, RS1, RS2, RS3, RS4, RS5]
  refine St_blk h.h (by show 2 < 3; decide) rfl ?_
  intro w' hw' hs' hf'
  exact ⟨(by trivial), ⟨hw'⟩, hf'⟩
theorem pow_lt9 {j : Nat} (h : j ≤ 8) : 128 ^ j ≤ 72057594037927936 := Nat.le_trans (Nat.pow_le_pow_right (by omega) h) (by decide)
set_option maxHeartbeats 4000000 in
theorem rdn_spec (h : RR w rb S at_ e) (hat : at_ ≤ S.length) (hS : S.length ≤ 1000000) {most : Int} (hm : 0 ≤ most ∧ most ≤ 4611686018427387904) {k : KV} (hk : ∀ (n : Int) (at' : Nat) (e' : Int) (w' : World), RR w' rb S at' e' → at' ≤ S.length → 0 ≤ n → n ≤ most → Fm (· = rb) w w' →
    (∀ c t, e = 0 → S.drop at_ = encI c ++ t → 0 ≤ c → c ≤ most → n = c ∧ S.drop at' = t ∧ e' = 0) → k (iv n) w') : Cl Tryz.prog 159 [pv rb, iv most] w k := by
  refine c159 ?_; unfold T159
  simp only [RS0, RS1, RS2, RS3, RS4, RS5, h.c2, bne_dec]
  cases he : decide (e = 0) with
  | false =>
    rw [decide_eq_false_iff_not] at he
    simp only [RS0, RS1, RS2, RS3, RS4, RS5]
    exact hk 0 at_ e w h hat (by omega) hm.1 (Fm.refl _ _) (fun c t e0 => absurd e0 he)
  | true =>
  rw [decide_eq_true_eq] at he
  subst he
  simp only [RS0, RS1, RS2, RS3, RS4, RS5]
  refine ⟨fun vs w' => ∃ j nn : Nat, vs = [iv (nn : Int), iv ((128 ^ j : Nat) : Int), iv ((j + 1 : Nat) : Int)] ∧ j ≤ 8 ∧ nn < 128 ^ j ∧ at_ + j ≤ S.length ∧ RR w' rb S at_ 0 ∧ Fm (fun _ => False) w w' ∧ ∀ c t, S.drop at_ = encN c ++ t → c ≤ 4611686018427387904 → S.drop (at_ + j) = encN (c / 128 ^ j) ++ t ∧ nn = c % 128 ^ j ∧ (j = 0 ∨ 1 ≤ c / 128 ^ j),
    fun vs _ => (10 - nth vs 2).toNat, ⟨0, 0, rfl, by omega, by decide, by omega, h, Fm.refl _ _, fun c t hc _ => ⟨by rw [Nat.add_zero, Nat.pow_zero, Nat.div_one]; exact hc, by rw [Nat.pow_zero, Nat.mod_one], .inl rfl⟩⟩, ?_⟩
  rintro _ w2 nv uv_ kv ⟨j, nn, hvs, hj, hnn, hle, hR, hf, hinv⟩
  cases hvs
  have hp := pow_lt9 hj
  have hpos : 0 < 128 ^ j := Nat.pos_of_ne_zero (by intro e; have := Nat.pow_eq_zero.1 e; omega)
  have hfd := Fm.drew (fun _ => False) w2
  have hR2 := hR.keep hfd (fun e => e)
  have hfd2 := Fm.drew (fun _ => False) w2.drew
  have hR3 := hR2.keep hfd2 (fun e => e)
  have hF3 := Fmf hf (Fmf hfd hfd2)
  have e1 : IntKind.i64.wrap ((at_ : Int) + ((j + 1 : Nat) : Int)) = ((at_ + (j + 1) : Nat) : Int) := by rw [wrap_id] <;> omega
  have up : ∀ {a b : World}, Fm (fun _ => False) a b → Fm (· = rb) a b := fun hf => hf.mono (fun _ _ e => e.elim)
  simp only [RS0, RS1, RS2, RS3, RS4, RS5, hR.c1, hR.c0, true_and, e1, str_size]
  cases hlt : decide ((S.length : Int) < ((at_ + (j + 1) : Nat) : Int)) with
  | true =>
    rw [decide_eq_true_eq] at hlt
    simp only [RS0, RS1, RS2, RS3, RS4, RS5]
    refine (rwrong_spec hR2 10).mono ?_
    rintro _ w3 ⟨rfl, hR4, hf4⟩
    refine hk 0 at_ 10 w3 hR4 hat (by omega) hm.1 ((up (Fmf hf hfd)).trans hf4 (fun _ _ e => e) (fun _ _ e => e)) (fun c t _ hc h0 h1 => ?_)
    obtain ⟨q1, _⟩ := hinv c.toNat t (by rw [hc]; unfold encI; rw [show (max c 0).toNat = c.toNat by omega]) (by omega)
    have hnil : S.drop (at_ + j) = [] := List.drop_eq_nil_of_le (by omega)
    rw [hnil] at q1
    exact absurd q1.symm (encN_ne _ _)
  | false =>
  rw [decide_eq_false_iff_not] at hlt
  have hlt2 : at_ + j < S.length := by omega
  have hb : S[at_ + j]? = some S[at_ + j] := List.getElem?_eq_getElem hlt2
  have hdr : S.drop (at_ + j) = S[at_ + j] :: S.drop (at_ + j + 1) := List.drop_eq_getElem_cons hlt2
  generalize S[at_ + j] = b at hb hdr
  have hb256 := b.toNat_lt
  have e2 : IntKind.i64.wrap (((at_ + (j + 1) : Nat) : Int) - 1) = ((at_ + j : Nat) : Int) := by rw [wrap_id] <;> omega
  have e3 : cvI .i64 (.int .u8 (b.toNat : Int)) = some (iv (b.toNat : Int)) := by
    rw [cvI_int, wrap_nat (by omega)]
  have hixb := ixS_str hb .i64
  simp only [RS0, RS1, RS2, RS3, RS4, RS5, hR2.c0, hR2.c1, true_and, e1, e2, hixb, e3, beq_dec]
  -- what is read, if it was laid
  have key : ∀ (c : Int) (t : Bs), S.drop at_ = encI c ++ t → 0 ≤ c → c ≤ most → (b.toNat < 128 ∧ c.toNat / 128 ^ j ≤ 127 ∧ b.toNat = c.toNat / 128 ^ j ∧ S.drop (at_ + j + 1) = t ∨ 128 ≤ b.toNat ∧ 127 < c.toNat / 128 ^ j ∧ b.toNat % 128 = c.toNat / 128 ^ j % 128 ∧ S.drop (at_ + j + 1) = encN (c.toNat / 128 ^ j / 128) ++ t) ∧ nn = c.toNat % 128 ^ j ∧ (j = 0 ∨ 1 ≤ c.toNat / 128 ^ j) ∧ c.toNat ≤ 4611686018427387904 := by
    intro c t hc h0 h1
    obtain ⟨q1, q2, q3⟩ := hinv c.toNat t (by rw [hc]; unfold encI; rw [show (max c 0).toNat = c.toNat by omega]) (by omega)
    rw [hdr] at q1
    exact ⟨encN_step q1, q2, q3, by omega⟩
  have wrong : ∀ (w3 : World), RR w3 rb S at_ 0 → Fm (fun _ => False) w w3 → (∀ (c : Int) (t : Bs), S.drop at_ = encI c ++ t → 0 ≤ c → c ≤ most → False) → Cl Tryz.prog 204 [pv rb, Value.int .i64 11] w3 k := by
    intro w3 hR4 hf4 hno
    refine (rwrong_spec hR4 11).mono ?_
    rintro _ w4 ⟨rfl, hR5, hf5⟩
    exact hk 0 at_ 11 w4 hR5 hat (by omega) hm.1 ((up hf4).trans hf5 (fun _ _ e => e) (fun _ _ e => e)) (fun c t _ h1 h2 h3 => (hno c t h1 h2 h3).elim)
  have hbad : ∀ x : Bool, x = (decide (((j + 1 : Nat) : Int) = 9) && decide ((128 : Int) ≤ (b.toNat : Int)) || decide ((b.toNat : Int) = 0) && decide ((1 : Int) < ((j + 1 : Nat) : Int))) → x = true → ∀ (c : Int) (t : Bs), S.drop at_ = encI c ++ t → 0 ≤ c → c ≤ most → False := by
    intro x hx ht c t h1 h2 h3
    obtain ⟨k1, k2, k3, k4⟩ := key c t h1 h2 h3
    rw [hx, Bool.or_eq_true, Bool.and_eq_true, Bool.and_eq_true, decide_eq_true_eq, decide_eq_true_eq, decide_eq_true_eq, decide_eq_true_eq] at ht
    rcases ht with ⟨g1, g2⟩ | ⟨g1, g2⟩
    · have hj8 : j = 8 := by omega
      subst hj8
      rcases k1 with ⟨a1, _⟩ | ⟨a1, a2, _⟩
      · omega
      · have : c.toNat / 128 ^ 8 ≤ 127 := by
          rw [show (128 : Nat) ^ 8 = 72057594037927936 from rfl]; omega
        omega
    · rcases k1 with ⟨a1, a2, a3, _⟩ | ⟨a1, _⟩
      · rcases k3 with k3 | k3
        · omega
        · omega
      · omega
  have hrem := rem_nat (TypeDesc.int IntKind.i64) (n := b.toNat) (m := 128) (by decide) (by omega) (b := 128) rfl
  have hmul0 : b.toNat % 128 * 128 ^ j ≤ 127 * 72057594037927936 := Nat.mul_le_mul (by omega) hp
  have hmul : IntKind.i64.wrap (((b.toNat % 128 : Nat) : Int) * ((128 ^ j : Nat) : Int)) = ((b.toNat % 128 * 128 ^ j : Nat) : Int) := by
    rw [← Int.natCast_mul, wrap_nat (by omega)]
  have hsum : IntKind.i64.wrap ((nn : Int) + ((b.toNat % 128 * 128 ^ j : Nat) : Int)) = ((nn + b.toNat % 128 * 128 ^ j : Nat) : Int) := by
    rw [← Int.natCast_add, wrap_nat (by omega)]
  have fin : (decide (((j + 1 : Nat) : Int) = 9) && decide ((128 : Int) ≤ (b.toNat : Int))) = false →
     (Pu (binV (TypeDesc.int IntKind.i64) .rem (iv (b.toNat : Int)) (Value.int IntKind.i64 128)) fun t61_126 =>
    Pu (binV (TypeDesc.int IntKind.i64) .mul t61_126 (iv ((128 ^ j : Nat) : Int))) fun t63_127 =>
    Pu (binV (TypeDesc.int IntKind.i64) .add (iv (nn : Int)) t63_127) fun t64_128 =>
    Pu (binV (TypeDesc.int IntKind.i64) .lss (iv (b.toNat : Int)) (Value.int IntKind.i64 128)) fun t66_129 =>
    IfB t66_129
      (Pu (nilV (pv rb)) fun t69_130 =>
        Pu (faV 1 t69_130) fun t70_131 =>
        Ld w2.drew.drew t70_131 fun t71_132 w_133 =>
        Pu (binV (TypeDesc.int IntKind.i64) .add t71_132 (iv ((j + 1 : Nat) : Int))) fun t73_134 =>
        Pu (nilV (pv rb)) fun t74_135 =>
        Pu (faV 1 t74_135) fun t75_136 =>
        St 1 w_133 t75_136 t73_134 fun u_137 w_138 =>
        Pu (foldV0 max2V [iv most, (Value.int IntKind.i64 0)]) fun t80_139 =>
  Pu (binV (TypeDesc.int IntKind.i64) .gtr t64_128 t80_139) fun t81_140 =>
  IfB t81_140
    (Cl Tryz.prog 204 [pv rb, (Value.int IntKind.i64 11)] w_138 fun t83_141 w_142 =>
      k t83_141 w_142)
    (k t64_128 w_138))
      (Pu (binV (TypeDesc.int IntKind.i64) .mul (Value.int IntKind.i64 128) (iv ((128 ^ j : Nat) : Int))) fun t77_143 =>
    Pu (binV (TypeDesc.int IntKind.i64) .add (iv ((j + 1 : Nat) : Int)) (Value.int IntKind.i64 1)) fun t15_144 =>
    (∃ j nn : Nat, [t64_128, t77_143, t15_144] = [iv (nn : Int), iv ((128 ^ j : Nat) : Int), iv ((j + 1 : Nat) : Int)] ∧ j ≤ 8 ∧ nn < 128 ^ j ∧ at_ + j ≤ S.length ∧ RR w2.drew.drew rb S at_ 0 ∧ Fm (fun _ => False) w w2.drew.drew ∧ ∀ c t, S.drop at_ = encN c ++ t → c ≤ 4611686018427387904 → S.drop (at_ + j) = encN (c / 128 ^ j) ++ t ∧ nn = c % 128 ^ j ∧ (j = 0 ∨ 1 ≤ c / 128 ^ j)) ∧ (10 - nth [t64_128, t77_143, t15_144] 2).toNat < (10 - nth [iv (nn : Int), iv ((128 ^ j : Nat) : Int), iv ((j + 1 : Nat) : Int)] 2).toNat)) := by
    intro hg
    rw [Bool.and_eq_false_iff, decide_eq_false_iff_not, decide_eq_false_iff_not] at hg
    simp only [RS0, RS1, RS2, RS3, RS4, RS5, hrem, hmul, hsum]
    cases h128 : decide ((b.toNat : Int) < 128) with
    | true =>
      rw [decide_eq_true_eq] at h128
      have z3 : max2V (iv most) (iv 0) = some (iv most) := by
        show some (iv (if (0 : Int) > most then 0 else most)) = _
        rw [if_neg (by omega)]
      simp only [RS0, RS1, RS2, RS3, RS4, RS5, hR.c1, e1]
      refine St_blk hR3.h (by show 1 < 3; decide) rfl ?_
      intro w4 hw4 hs4 hf4
      have hR4 : RR w4 rb S (at_ + (j + 1)) 0 := ⟨hw4⟩
      have hF4 : Fm (· = rb) w w4 := (up hF3).trans hf4 (fun _ _ e => e) (fun _ _ e => e)
      have hval : ∀ (c : Int) (t : Bs), S.drop at_ = encI c ++ t → 0 ≤ c → c ≤ most → (nn + b.toNat % 128 * 128 ^ j : Nat) = c.toNat ∧ S.drop (at_ + (j + 1)) = t := by
        intro c t h1 h2 h3
        obtain ⟨k1, k2, _, _⟩ := key c t h1 h2 h3
        rcases k1 with ⟨a1, a2, a3, a4⟩ | ⟨a1, _⟩
        · refine ⟨?_, a4⟩
          rw [k2, show b.toNat % 128 = c.toNat / 128 ^ j by omega, Nat.mul_comm]
          exact Nat.mod_add_div _ _
        · omega
      simp only [RS0, RS1, RS2, RS3, RS4, RS5, foldV0, foldV, z3, Option.bind_some]
      cases hmx : decide (most < ((nn + b.toNat % 128 * 128 ^ j : Nat) : Int)) with
      | true =>
        rw [decide_eq_true_eq] at hmx
        simp only [RS0, RS1, RS2, RS3, RS4, RS5]
        refine (rwrong_spec hR4 11).mono ?_
        rintro _ w5 ⟨rfl, hR5, hf5⟩
        refine hk 0 _ 11 w5 hR5 (by omega) (by omega) hm.1 (hF4.trans hf5 (fun _ _ e => e) (fun _ _ e => e)) (fun c t _ h1 h2 h3 => ?_)
        have := (hval c t h1 h2 h3).1
        omega
      | false =>
        rw [decide_eq_false_iff_not] at hmx
        simp only [RS0, RS1, RS2, RS3, RS4, RS5]
        refine hk _ _ 0 w4 hR4 (by omega) (by omega) (by omega) hF4 (fun c t _ h1 h2 h3 => ?_)
        obtain ⟨v1, v2⟩ := hval c t h1 h2 h3
        exact ⟨by omega, v2, rfl⟩
    | false =>
      rw [decide_eq_false_iff_not] at h128
      have hj7 : j ≤ 7 := by omega
      have hps : 128 ^ (j + 1) = 128 * 128 ^ j := by rw [Nat.pow_succ, Nat.mul_comm]
      have hpl : 128 ^ (j + 1) ≤ 72057594037927936 := pow_lt9 (by omega)
      have e5 : IntKind.i64.wrap (128 * ((128 ^ j : Nat) : Int)) = ((128 ^ (j + 1) : Nat) : Int) := by
        rw [show (128 : Int) * ((128 ^ j : Nat) : Int) = ((128 * 128 ^ j : Nat) : Int) by omega, ← hps, wrap_nat (by omega)]
      have e6 : IntKind.i64.wrap (((j + 1 : Nat) : Int) + 1) = ((j + 1 + 1 : Nat) : Int) := by rw [wrap_id] <;> omega
      simp only [RS0, RS1, RS2, RS3, RS4, RS5, e5, e6]
      refine ⟨⟨j + 1, nn + b.toNat % 128 * 128 ^ j, rfl, by omega, ?_, by omega, hR3, hF3, fun c t hc hcl => ?_⟩, by simp only [nth_2]; omega⟩
      · rw [hps]
        have : b.toNat % 128 * 128 ^ j ≤ 127 * 128 ^ j := Nat.mul_le_mul_right _ (by omega)
        omega
      · obtain ⟨q1, q2, q3⟩ := hinv c t hc hcl
        rw [hdr] at q1
        rcases encN_step q1 with ⟨a1, _⟩ | ⟨a1, a2, a3, a4⟩
        · omega
        · have hdd : c / 128 ^ j / 128 = c / 128 ^ (j + 1) := by rw [Nat.div_div_eq_div_mul, Nat.pow_succ]
          refine ⟨by rw [← Nat.add_assoc, a4, hdd], ?_, .inr ?_⟩
          · rw [q2, a3, Nat.pow_succ, Nat.mod_mul, Nat.mul_comm (c / 128 ^ j % 128)]
          · rw [← hdd]; omega
  cases h9 : decide (((j + 1 : Nat) : Int) = 9) with
  | true =>
    rw [h9] at hbad fin
    cases hb1 : decide ((128 : Int) ≤ (b.toNat : Int)) with
    | true =>
      simp only [RS0, RS1, RS2, RS3, RS4, RS5, hb1]
      exact wrong _ hR3 hF3 (hbad _ rfl (by rw [hb1]; rfl))
    | false =>
      rw [hb1] at hbad fin
      have fin := fin rfl
      simp only [RS0, RS1, RS2, RS3, RS4, RS5] at fin
      cases hb0 : decide ((b.toNat : Int) = 0) with
      | true =>
        have h1k : decide ((1 : Int) < ((j + 1 : Nat) : Int)) = true := by rw [decide_eq_true_eq] at h9 ⊢; omega
        simp only [RS0, RS1, RS2, RS3, RS4, RS5, hb1, beq_dec, hb0, h1k]
        exact wrong _ hR3 hF3 (hbad _ rfl (by rw [hb0, h1k]; rfl))
      | false =>
        simp only [RS0, RS1, RS2, RS3, RS4, RS5, hb1, beq_dec, hb0]
        exact fin
  | false =>
    rw [h9] at hbad fin
    have fin := fin rfl
    simp only [RS0, RS1, RS2, RS3, RS4, RS5] at fin
    cases hb0 : decide ((b.toNat : Int) = 0) with
    | true =>
      cases h1k : decide ((1 : Int) < ((j + 1 : Nat) : Int)) with
      | true =>
        simp only [RS0, RS1, RS2, RS3, RS4, RS5, hb0, beq_dec, h1k]
        exact wrong _ hR3 hF3 (hbad _ rfl (by rw [hb0, h1k]; simp))
      | false =>
        simp only [RS0, RS1, RS2, RS3, RS4, RS5, hb0, beq_dec, h1k]
        exact fin
    | false =>
      simp only [RS0, RS1, RS2, RS3, RS4, RS5, hb0, beq_dec]
      exact fin
end
end Go.Proofs.YthbngnlmgplijaaGreatDoor

namespace Go.Proofs.YthbngnlmgplijaaGreatDoor
open Go.Al Go.Proofs
set_option linter.unusedVariables false
set_option linter.unusedSimpArgs false
set_option linter.unusedSectionVars false
set_option maxRecDepth 100000

section
variable {w w' : World} {rb at_ : Nat} {S : Bs} {e : Int} {T : Nat → Prop}
set_option maxHeartbeats 4000000 in
theorem rtx_spec (h : RR w rb S at_ e) (hat : at_ ≤ S.length) (hS : S.length ≤ 1000000) {most : Int} (hm : 0 ≤ most ∧ most ≤ 1000000) {k : KV} (hk : ∀ (s : Bs) (at' : Nat) (e' : Int) (w' : World), RR w' rb S at' e' → at' ≤ S.length → (s.length : Int) ≤ most → Fm (· = rb) w w' →
    (∀ s0 t, e = 0 → S.drop at_ = txtB s0 ++ t → (s0.length : Int) ≤ most → s = s0 ∧ S.drop at' = t ∧ e' = 0) → k (stv s) w') : Cl Tryz.prog 160 [pv rb, iv most] w k := by
  refine c160 ?_; unfold T160
  refine rdn_spec h hat hS ⟨hm.1, by omega⟩ ?_
  intro n at1 e1 w1 hR1 hat1 hn0 hn1 hf1 himp
  obtain ⟨n, rfl⟩ := Int.eq_ofNat_of_zero_le hn0
  have himp' : ∀ s0 t, e = 0 → S.drop at_ = txtB s0 ++ t → (s0.length : Int) ≤ most → n = s0.length ∧ S.drop at1 = s0 ++ t ∧ e1 = 0 := by
    intro s0 t h0 h1 h2
    unfold txtB at h1
    rw [List.append_assoc] at h1
    obtain ⟨q1, q2, q3⟩ := himp _ _ h0 h1 (by omega) h2
    exact ⟨by omega, q2, q3⟩
  refine Jn_at (fun vs w' => vs = [] ∧ ∃ e2, RR w' rb S at1 e2 ∧ (e2 = 0 → at1 + n ≤ S.length) ∧ (e1 = 0 → at1 + n ≤ S.length → e2 = 0) ∧ Fm (· = rb) w w') ?_ ?_
  · rintro _ w2 ⟨rfl, e2, hR2, hle, hz, hf2⟩ _
    refine ⟨rfl, ?_⟩
    have hno : ∀ s0 t, e = 0 → S.drop at_ = txtB s0 ++ t → (s0.length : Int) ≤ most → e2 = 0 := by
      intro s0 t h0 h1 h2
      obtain ⟨q1, q2, q3⟩ := himp' s0 t h0 h1 h2
      have := congrArg List.length q2
      rw [List.length_drop, List.length_append] at this
      exact hz q3 (by omega)
    simp only [RS0, RS1, RS2, RS3, RS4, RS5, hR2.c2, bne_dec]
    cases he : decide (e2 = 0) with
    | false =>
      rw [decide_eq_false_iff_not] at he
      simp only [RS0, RS1, RS2, RS3, RS4, RS5]
      exact hk [] at1 e2 w2 hR2 hat1 hm.1 hf2 (fun s0 t h0 h1 h2 => absurd (hno s0 t h0 h1 h2) he)
    | true =>
      rw [decide_eq_true_eq] at he
      subst he
      have hle := hle rfl
      have hfd := Fm.drew (fun _ => False) w2
      have e1' : IntKind.i64.wrap ((at1 : Int) + (n : Int)) = ((at1 + n : Nat) : Int) := by rw [wrap_id] <;> omega
      have hsl := slS_lh (l := S) (i := at1) (j := at1 + n) (by omega) hle .i64 .i64
      simp only [RS0, RS1, RS2, RS3, RS4, RS5, hR2.c0, hR2.c1, true_and, e1', hsl]
      refine St_blk (hfd.heap hR2.h (fun e => e)) (by show 1 < 3; decide) rfl ?_
      intro w3 hw3 hs3 hf3
      refine hk _ (at1 + n) 0 w3 ⟨hw3⟩ hle ?_ ((hf2.trans hfd (fun _ _ e => e) (fun _ _ e => e.elim)).trans hf3 (fun _ _ e => e) (fun _ _ e => e)) (fun s0 t h0 h1 h2 => ?_)
      · rw [List.length_take]; omega
      · obtain ⟨q1, q2, q3⟩ := himp' s0 t h0 h1 h2
        refine ⟨?_, ?_, rfl⟩
        · rw [q2, Nat.add_sub_cancel_left, q1, List.take_left]
        · rw [← List.drop_drop, q2, q1, List.drop_left]
  intro jj hjj
  have hfd := Fm.drew (fun _ => False) w1
  have hRd := hR1.keep hfd (fun e => e)
  have hFd : Fm (· = rb) w w1.drew := hf1.trans hfd (fun _ _ e => e) (fun _ _ e => e.elim)
  simp only [RS0, RS1, RS2, RS3, RS4, RS5, hR1.c2, true_and, beq_dec]
  cases he : decide (e1 = 0) with
  | false =>
    rw [decide_eq_false_iff_not] at he
    simp only [RS0, RS1, RS2, RS3, RS4, RS5, true_and]
    exact hjj _ _ ⟨rfl, e1, hRd, fun e => absurd e he, fun e => absurd e he, hFd⟩
  | true =>
    rw [decide_eq_true_eq] at he
    subst he
    have e2' : IntKind.i64.wrap ((S.length : Int) - (at1 : Int)) = ((S.length - at1 : Nat) : Int) := by rw [wrap_id] <;> omega
    simp only [RS0, RS1, RS2, RS3, RS4, RS5, hR1.c0, hR1.c1, true_and, str_size, e2']
    cases hlt : decide (((S.length - at1 : Nat) : Int) < (n : Int)) with
    | true =>
      rw [decide_eq_true_eq] at hlt
      simp only [RS0, RS1, RS2, RS3, RS4, RS5]
      refine (rwrong_spec hRd 10).mono ?_
      rintro _ w3 ⟨_, hR3, hf3⟩
      exact hjj _ _ ⟨rfl, 10, hR3, fun e => absurd e (by decide), fun _ hle => by omega, hFd.trans hf3 (fun _ _ e => e) (fun _ _ e => e)⟩
    | false =>
      rw [decide_eq_false_iff_not] at hlt
      simp only [RS0, RS1, RS2, RS3, RS4, RS5]
      exact hjj _ _ ⟨rfl, 0, hRd, fun _ => by omega, fun _ _ => rfl, hFd⟩
set_option maxHeartbeats 4000000 in
theorem rli_spec (h : RR w rb S at_ e) (hat : at_ ≤ S.length) (hS : S.length ≤ 1000000) {k : KV} (hk : ∀ (v : Value) (L : List Int) (at' : Nat) (e' : Int) (w' : World), RR w' rb S at' e' → at' ≤ S.length → L.length ≤ 255 → (∀ n ∈ L, okN n) → w'.ownsRow w.heap.size 3 1 v L.length (L.map iv) → Fm (· = rb) w w' →
    (∀ l t, e = 0 → S.drop at_ = listB l ++ t → l.length ≤ 255 → (∀ n ∈ l, okN n) → L = l ∧ S.drop at' = t ∧ e' = 0) → k v w') : Cl Tryz.prog 161 [pv rb, iv 255] w k := by
  have hrl := lt_of_heap h.h
  refine c161 ?_; unfold T161
  refine rdn_spec h hat hS ⟨by omega, by omega⟩ ?_
  intro n at1 e1 w1 hR1 hat1 hn0 hn1 hf1 himp
  obtain ⟨N, rfl⟩ := Int.eq_ofNat_of_zero_le hn0
  have hz1 := hf1.size
  refine ⟨fun vs w' => ∃ (i : Nat) (v : Value) (L : List Int) (at2 : Nat) (e2 : Int), vs = [v, iv (i : Int)] ∧ i ≤ N ∧ L.length = i ∧ (∀ n ∈ L, okN n) ∧ w'.ownsRow w.heap.size 3 1 v L.length (L.map iv) ∧ RR w' rb S at2 e2 ∧ at2 ≤ S.length ∧ Fm (· = rb) w w' ∧
    ∀ l t, e = 0 → S.drop at_ = listB l ++ t → l.length ≤ 255 → (∀ n ∈ l, okN n) → N = l.length ∧ L = l.take i ∧ S.drop at2 = numsB (l.drop i) ++ t ∧ e2 = 0, fun vs _ => (N - nth vs 1).toNat,
    ⟨0, _, [], at1, e1, rfl, by omega, rfl, by simp, World.ownsRow_nil _ _ _ _, hR1, hat1, hf1, fun l t h0 h1 h2 h3 => ?_⟩, ?_⟩
  · unfold listB at h1
    rw [List.append_assoc] at h1
    obtain ⟨q1, q2, q3⟩ := himp _ _ h0 h1 (by omega) (by omega)
    exact ⟨by omega, rfl, q2, q3⟩
  rintro _ w2 v iv2 ⟨i, v0, L, at2, e2, hvs, hi, hL, hok, ho2, hR2, hat2, hf2, hinv⟩
  cases hvs
  have hz2 := hf2.size
  have fin : (decide ((i : Int) < (N : Int)) && decide (e2 = 0)) = false → k v w2 := by
    intro hb
    refine hk v L at2 e2 w2 hR2 hat2 (by omega) hok ho2 hf2 (fun l t h0 h1 h2 h3 => ?_)
    obtain ⟨q1, q2, q3, q4⟩ := hinv l t h0 h1 h2 h3
    rw [Bool.and_eq_false_iff, decide_eq_false_iff_not, decide_eq_false_iff_not] at hb
    have hie : i = l.length := by
      rcases hb with hb | hb
      · omega
      · exact absurd q4 hb
    subst hie
    rw [List.take_length] at q2
    rw [List.drop_length] at q3
    exact ⟨q2, q3, q4⟩
  cases hlt : decide ((i : Int) < (N : Int)) with
  | false =>
    rw [hlt, Bool.false_and] at fin
    simp only [RS0, RS1, RS2, RS3, RS4, RS5, hlt]
    exact fin rfl
  | true =>
  cases he : decide (e2 = 0) with
  | false =>
    rw [hlt, he] at fin
    simp only [RS0, RS1, RS2, RS3, RS4, RS5, hlt, hR2.c2, beq_dec, he]
    exact fin rfl
  | true =>
    rw [decide_eq_true_eq] at hlt he
    subst he
    have hlt' : decide ((i : Int) < (N : Int)) = true := decide_eq_true hlt
    have e1' : IntKind.i64.wrap ((i : Int) + 1) = ((i + 1 : Nat) : Int) := by rw [wrap_id] <;> omega
    simp only [RS0, RS1, RS2, RS3, RS4, RS5, hlt', hR2.c2, beq_dec, decide_true]
    refine rdn_spec hR2 hat2 hS ⟨by omega, by omega⟩ ?_
    intro x at3 e3 w3 hR3 hat3 hx0 hx1 hf3 himp3
    have hF3 : Fm (· = rb) w w3 := hf2.trans hf3 (fun _ _ e => e) (fun _ _ e => e)
    have hz3 := hF3.size
    have hrbne : ∀ k, v.ownBlock = some k → k ≠ rb := by
      intro k hk e
      rcases ho2.2 with ⟨rfl, _⟩ | ⟨g, cap, cur, rfl, _, hg, _⟩
      · cases hk
      · have e1 : g = k := by simpa [Value.ownBlock] using hk
        rw [e1, e, hR2.h] at hg
        cases hg
    have ho3 := own_keep ho2 hf3 (fun k _ _ hk e => hrbne k hk e)
    refine row_lit ho3 (bs47_1 _ _) rfl (by omega) hz3 ?_
    intro v4 w4 ho4 hf4
    have hR4 := hR3.keep hf4 (fun e => by omega)
    have hF4 : Fm (· = rb) w w4 := hF3.trans hf4 (fun _ _ e => e) (fun y hy e => by omega)
    simp only [RS0, RS1, RS2, RS3, RS4, RS5, e1']
    refine ⟨⟨i + 1, v4, L ++ [x], at3, e3, rfl, by omega, by rw [List.length_append, hL]; rfl, ?_, ho4, hR4, hat3, hF4, fun l t h0 h1 h2 h3 => ?_⟩, by simp only [nth_1]; omega⟩
    · intro y hy
      rcases List.mem_append.1 hy with hy | hy
      · exact hok y hy
      · obtain rfl : y = x := by simpa using hy
        exact ⟨hx0, by omega⟩
    · obtain ⟨q1, q2, q3, q4⟩ := hinv l t h0 h1 h2 h3
      have hil : i < l.length := by omega
      rw [List.drop_eq_getElem_cons hil] at q3
      have hnb : numsB (l[i] :: l.drop (i + 1)) = encI l[i] ++ numsB (l.drop (i + 1)) := by unfold numsB; rw [List.flatMap_cons]
      rw [hnb, List.append_assoc] at q3
      have hlo := h3 l[i] (List.getElem_mem hil)
      obtain ⟨z1, z2, z3⟩ := himp3 _ _ rfl q3 hlo.1 hlo.2
      exact ⟨q1, by rw [q2, z1, List.take_add_one, List.getElem?_eq_getElem hil]; rfl, z2, z3⟩
theorem rend_spec (h : RR w rb S at_ e) : Cl Tryz.prog 162 [pv rb] w fun v w' => v = iv (if e = 0 ∧ at_ < S.length then 12 else e) ∧ Fm (fun _ => False) w w' := by
  have hfd := Fm.drew (fun _ => False) w
  refine c162 ?_; unfold T162
  simp only [RS0, RS1, RS2, RS3, RS4, RS5, h.c2, true_and, beq_dec]
  cases he : decide (e = 0) with
  | false =>
    rw [decide_eq_false_iff_not] at he
    simp only [RS0, RS1, RS2, RS3, RS4, RS5, h.c2, true_and]
    exact ⟨by rw [if_neg (fun x => he x.1)], hfd⟩
  | true =>
    rw [decide_eq_true_eq] at he
    simp only [RS0, RS1, RS2, RS3, RS4, RS5, h.c0, h.c1, h.c2, str_size, true_and]
    cases hl : decide ((at_ : Int) < (S.length : Int)) with
    | true =>
      rw [decide_eq_true_eq] at hl
      simp only [RS0, RS1, RS2, RS3, RS4, RS5, h.c2]
      exact ⟨by rw [if_pos ⟨he, by omega⟩], hfd⟩
    | false =>
      rw [decide_eq_false_iff_not] at hl
      simp only [RS0, RS1, RS2, RS3, RS4, RS5, h.c2]
      exact ⟨by rw [if_neg (fun x => hl (by omega))], hfd⟩
end
end Go.Proofs.YthbngnlmgplijaaGreatDoor
