import Derived.Test.YthgdinjgdjiknaaAlDraw2
import Derived.Test.YthgdinjgdjiknaaRows
namespace Go.Proofs.Ythgdinjgdjiknaa
open Go.Al Go.Proofs
set_option maxRecDepth 100000
set_option linter.unusedVariables false
set_option linter.unusedSimpArgs false
theorem mixed : Try.prog.follows .mixedOrders = true := by kernel_rfl
/-- Function 10: almonry/almonrylaw09.SnapOwn. -/
def T10 (k : KV) (x0 : Value) (raw1 : Value) (t2 : Value) (w : World) : Prop :=
  New (Value.cells x0) 91 w fun x3_1 w_2 =>
  New (Value.cells raw1) 97 w_2 fun raw4_3 w_4 =>
  New (Value.cells t2) 99 w_4 fun t5_5 w_6 =>
  Pu (faV 0 x3_1) fun t12_7 =>
  Ld w_6 t12_7 fun t13_8 w_9 =>
  Pu (faV 1 x3_1) fun t14_10 =>
  Ld w_9 t14_10 fun t15_11 w_12 =>
  Pu (faV 2 x3_1) fun t16_13 =>
  Ld w_12 t16_13 fun t17_14 w_15 =>
  LdN 11 w_15 raw4_3 fun t18_16 w_17 =>
  Cl Try.prog 37 [t13_8, t15_11, t17_14, t18_16] w_17 fun t19_18 w_19 =>
  Pu (extV t19_18 0) fun t20_20 =>
  Pu (extV t19_18 1) fun t21_21 =>
  New #[(Value.int IntKind.i64 0), (Value.int IntKind.i64 0), (Value.slice none 0 0), (Value.int IntKind.i64 0), (Value.slice none 0 0), (Value.int IntKind.i64 0), (Value.int IntKind.i64 0), (Value.int IntKind.i64 0), (Value.int IntKind.i64 0), (Value.string (ByteArray.mk #[])), (Value.slice none 0 0)] 97 w_19 fun v7_22 w_23 =>
  St 11 w_23 v7_22 t20_20 fun u_24 w_25 =>
  Pu (faV 3 v7_22) fun t22_26 =>
  Ld w_25 t22_26 fun t23_27 w_28 =>
  Pu (binV (TypeDesc.int IntKind.i64) .eql t23_27 (Value.int IntKind.i64 0)) fun t24_29 =>
  IfB t24_29
    (Cl Try.prog 38 [] w_28 fun t25_30 w_31 =>
      k t25_30 w_31)
    (LdN 5 w_28 t5_5 fun t26_32 w_33 =>
  New #[(Value.int IntKind.i64 0), (Value.int IntKind.i64 0), (Value.bool false), (Value.string (ByteArray.mk #[])), (Value.string (ByteArray.mk #[]))] 99 w_33 fun mine9_34 w_35 =>
  St 5 w_35 mine9_34 t26_32 fun u_36 w_37 =>
  Pu (faV 2 mine9_34) fun t27_38 =>
  St 1 w_37 t27_38 (Value.bool false) fun u_39 w_40 =>
  Pu (faV 3 v7_22) fun t28_41 =>
  Ld w_40 t28_41 fun t29_42 w_43 =>
  Pu (faV 0 mine9_34) fun t30_44 =>
  St 1 w_43 t30_44 t29_42 fun u_45 w_46 =>
  Pu (faV 1 mine9_34) fun t31_47 =>
  St 1 w_46 t31_47 (Value.int IntKind.i64 0) fun u_48 w_49 =>
  LdN 5 w_49 t5_5 fun t32_50 w_51 =>
  New #[(Value.int IntKind.i64 0), (Value.int IntKind.i64 0), (Value.bool false), (Value.string (ByteArray.mk #[])), (Value.string (ByteArray.mk #[]))] 99 w_51 fun ended10_52 w_53 =>
  St 5 w_53 ended10_52 t32_50 fun u_54 w_55 =>
  Pu (faV 3 v7_22) fun t33_56 =>
  Ld w_55 t33_56 fun t34_57 w_58 =>
  Pu (faV 1 ended10_52) fun t35_59 =>
  St 1 w_58 t35_59 t34_57 fun u_60 w_61 =>
  LdN 11 w_61 v7_22 fun t36_62 w_63 =>
  Pu (faV 3 v7_22) fun t37_64 =>
  Ld w_63 t37_64 fun t38_65 w_66 =>
  Cl Try.prog 39 [t36_62, t38_65] w_66 fun t39_67 w_68 =>
  Gd (isB true t39_67) (fun kk => LdN 11 w_68 v7_22 kk) w_68 fun t41_69 w_70 =>
  Gd (isB true t39_67) (fun kk => LdN 5 w_70 mine9_34 kk) w_70 fun t42_71 w_72 =>
  Gd (isB true t39_67) (fun kk => Cl Try.prog 40 [t41_69, t42_71] w_72 kk) w_72 fun t43_73 w_74 =>
  Pu (pickV t39_67 t43_73 (Value.bool false)) fun t44_75 =>
  Gd (isB true t44_75) (fun kk => LdN 11 w_74 v7_22 kk) w_74 fun t46_76 w_77 =>
  Gd (isB true t44_75) (fun kk => LdN 5 w_77 ended10_52 kk) w_77 fun t47_78 w_79 =>
  Gd (isB true t44_75) (fun kk => Cl Try.prog 40 [t46_76, t47_78] w_79 kk) w_79 fun t48_80 w_81 =>
  Gd (isB true t44_75) (fun kk => Pu (unV .not t48_80) fun vv => kk vv w_81) w_81 fun t49_82 w_83 =>
  Pu (pickV t44_75 t49_82 (Value.bool false)) fun t50_84 =>
  Gd (isB true t50_84) (fun kk => LdN 11 w_83 v7_22 kk) w_83 fun t52_85 w_86 =>
  Gd (isB true t50_84) (fun kk => LdN 5 w_86 mine9_34 kk) w_86 fun t53_87 w_88 =>
  Gd (isB true t50_84) (fun kk => Cl Try.prog 41 [t52_85, t53_87] w_88 kk) w_88 fun t54_89 w_90 =>
  Gd (isB true t50_84) (fun kk => Pu (unV .not t54_89) fun vv => kk vv w_90) w_90 fun t55_91 w_92 =>
  Pu (pickV t50_84 t55_91 (Value.bool false)) fun t56_93 =>
  Gd (isB true t56_93) (fun kk => Cl Try.prog 38 [] w_92 kk) w_92 fun t58_94 w_95 =>
  Pu (pickV t56_93 t58_94 (Value.bool false)) fun t59_96 =>
  k t59_96 w_95)
theorem e10 (k : KV) (x0 : Value) (raw1 : Value) (t2 : Value) (w : World) : K KD Try.prog 60 (fun j =>  []) (fun j =>  none) (Try.f10.body.getD .skip) (retQ Try.prog Try.f10 k) (argF [x0, raw1, t2]) w = T10 k x0 raw1 t2 w := by kernel_rfl
theorem c10 {k : KV} {x0 : Value} {raw1 : Value} {t2 : Value} {w : World} (h : T10 k x0 raw1 t2 w) : Cl Try.prog 10 [x0, raw1, t2] w k :=
  Cl_of_K KD_sound mixed Try.func10 (by kernel_rfl) (by kernel_rfl) ((e10 k x0 raw1 t2 w).symm ▸ h)

/-- Function 11: almonry/almonrylaw09.SnapOne. -/
def T11 (k : KV) (x0 : Value) (raw1 : Value) (t2 : Value) (w : World) : Prop :=
  New (Value.cells x0) 91 w fun x3_1 w_2 =>
  New (Value.cells raw1) 97 w_2 fun raw4_3 w_4 =>
  New (Value.cells t2) 99 w_4 fun t5_5 w_6 =>
  Pu (faV 0 x3_1) fun t14_7 =>
  Ld w_6 t14_7 fun t15_8 w_9 =>
  Pu (faV 1 x3_1) fun t16_10 =>
  Ld w_9 t16_10 fun t17_11 w_12 =>
  Pu (faV 2 x3_1) fun t18_13 =>
  Ld w_12 t18_13 fun t19_14 w_15 =>
  LdN 11 w_15 raw4_3 fun t20_16 w_17 =>
  Cl Try.prog 37 [t15_8, t17_11, t19_14, t20_16] w_17 fun t21_18 w_19 =>
  Pu (extV t21_18 0) fun t22_20 =>
  Pu (extV t21_18 1) fun t23_21 =>
  New #[(Value.int IntKind.i64 0), (Value.int IntKind.i64 0), (Value.slice none 0 0), (Value.int IntKind.i64 0), (Value.slice none 0 0), (Value.int IntKind.i64 0), (Value.int IntKind.i64 0), (Value.int IntKind.i64 0), (Value.int IntKind.i64 0), (Value.string (ByteArray.mk #[])), (Value.slice none 0 0)] 97 w_19 fun v7_22 w_23 =>
  St 11 w_23 v7_22 t22_20 fun u_24 w_25 =>
  Pu (faV 1 t5_5) fun t24_26 =>
  Ld w_25 t24_26 fun t25_27 w_28 =>
  Pu (binV (TypeDesc.int IntKind.i64) .eql t25_27 (Value.int IntKind.i64 0)) fun t26_29 =>
  IfB t26_29
    (Cl Try.prog 38 [] w_28 fun t27_30 w_31 =>
      k t27_30 w_31)
    (Pu (faV 1 t5_5) fun t28_32 =>
  Ld w_28 t28_32 fun t29_33 w_34 =>
  Pu (faV 3 t5_5) fun t30_35 =>
  Ld w_34 t30_35 fun t31_36 w_37 =>
  RunS Try.prog (Instr.build 99 #[(0, t29_33), (3, t31_36)]) w_37 fun t32_38 w_39 =>
  New #[(Value.int IntKind.i64 0), (Value.int IntKind.i64 0), (Value.bool false), (Value.string (ByteArray.mk #[])), (Value.string (ByteArray.mk #[]))] 99 w_39 fun next9_40 w_41 =>
  St 5 w_41 next9_40 t32_38 fun u_42 w_43 =>
  LdN 11 w_43 v7_22 fun t33_44 w_45 =>
  LdN 5 w_45 t5_5 fun t34_46 w_47 =>
  Cl Try.prog 40 [t33_44, t34_46] w_47 fun t35_48 w_49 =>
  LdN 11 w_49 v7_22 fun t36_50 w_51 =>
  LdN 5 w_51 next9_40 fun t37_52 w_53 =>
  Cl Try.prog 40 [t36_50, t37_52] w_53 fun t38_54 w_55 =>
  Pu (faV 2 t5_5) fun t39_56 =>
  Ld w_55 t39_56 fun t40_57 w_58 =>
  Gd (isB false t40_57) (fun kk => LdN 11 w_58 v7_22 kk) w_58 fun t42_59 w_60 =>
  Gd (isB false t40_57) (fun kk => Pu (faV 0 t5_5) fun vv => kk vv w_60) w_60 fun t43_61 w_62 =>
  Gd (isB false t40_57) (fun kk => Ld w_62 t43_61 kk) w_62 fun t44_63 w_64 =>
  Gd (isB false t40_57) (fun kk => Cl Try.prog 39 [t42_59, t44_63] w_64 kk) w_64 fun t45_65 w_66 =>
  Pu (pickV t40_57 (Value.bool true) t45_65) fun t46_67 =>
  Gd (isB true t35_48) (fun kk => kk t38_54 w_66) w_66 fun t49_68 w_69 =>
  Pu (pickV t35_48 t49_68 (Value.bool false)) fun t50_70 =>
  Pu (unV .not t50_70) fun t51_71 =>
  Gd (isB true t51_71) (fun kk => kk t46_67 w_69) w_69 fun t53_72 w_73 =>
  Gd (isB true t51_71) (fun kk => Pu (unV .not t53_72) fun vv => kk vv w_73) w_73 fun t54_74 w_75 =>
  Gd (isB true t51_71) (fun kk => kk t54_74 w_75) w_75 fun t55_76 w_77 =>
  Gd (isB false t55_76) (fun kk => kk t35_48 w_77) w_77 fun t56_78 w_79 =>
  Gd (isB true t51_71) (fun kk => Pu (pickV t55_76 (Value.bool true) t56_78) fun vv => kk vv w_79) w_79 fun t57_80 w_81 =>
  Gd (isB true t51_71) (fun kk => kk t57_80 w_81) w_81 fun t58_82 w_83 =>
  Gd (isB false t58_82) (fun kk => kk t38_54 w_83) w_83 fun t59_84 w_85 =>
  Gd (isB true t51_71) (fun kk => Pu (pickV t58_82 (Value.bool true) t59_84) fun vv => kk vv w_85) w_85 fun t60_86 w_87 =>
  Pu (pickV t51_71 t60_86 (Value.bool false)) fun t61_88 =>
  Gd (isB true t61_88) (fun kk => Cl Try.prog 38 [] w_87 kk) w_87 fun t63_89 w_90 =>
  Pu (pickV t61_88 t63_89 (Value.bool false)) fun t64_91 =>
  k t64_91 w_90)
theorem e11 (k : KV) (x0 : Value) (raw1 : Value) (t2 : Value) (w : World) : K KD Try.prog 65 (fun j =>  []) (fun j =>  none) (Try.f11.body.getD .skip) (retQ Try.prog Try.f11 k) (argF [x0, raw1, t2]) w = T11 k x0 raw1 t2 w := by kernel_rfl
theorem c11 {k : KV} {x0 : Value} {raw1 : Value} {t2 : Value} {w : World} (h : T11 k x0 raw1 t2 w) : Cl Try.prog 11 [x0, raw1, t2] w k :=
  Cl_of_K KD_sound mixed Try.func11 (by kernel_rfl) (by kernel_rfl) ((e11 k x0 raw1 t2 w).symm ▸ h)

/-- Function 12: almonry/almonrylaw09.SnapFirst. -/
def T12 (k : KV) (modulus0 : Value) (next1 : Value) (x2 : Value) (w : World) : Prop :=
  New (Value.cells x2) 107 w fun x5_1 w_2 =>
  RunS Try.prog (Instr.buildSlice 34 1 #[(0, next1)]) w_2 fun t14_3 w_4 =>
  Pu (faV 0 x5_1) fun t15_5 =>
  Ld w_4 t15_5 fun t16_6 w_7 =>
  RunS Try.prog (Builtin.append_ #[34, 34] 34 #[t14_3, t16_6]) w_7 fun t17_8 w_9 =>
  ∃ (I_10 : List Value → World → Prop) (m_11 : List Value → World → Nat), I_10 [t17_8, (Value.int IntKind.i64 0)] w_9 ∧
  ∀ (g_40 : Fr) (w_39 : World), ∀ l7_13 : Value, ∀ i8_14 : Value, I_10 [l7_13, i8_14] w_39 →
    (Pu (faV 1 x5_1) fun t19_41 =>
    Ld w_39 t19_41 fun t20_42 w_43 =>
    Pu (lenV t20_42) fun t21_44 =>
    Pu (binV (TypeDesc.int IntKind.i64) .lss i8_14 t21_44) fun t22_45 =>
    IfB t22_45
      (Pu (faV 1 x5_1) fun t26_46 =>
    Ld w_43 t26_46 fun t27_47 w_48 =>
    Pu (ixV 2 t27_47 i8_14) fun t29_49 =>
    Pu (faV 0 t29_49) fun t30_50 =>
    Ld w_48 t30_50 fun t31_51 w_52 =>
    RunS Try.prog (Instr.buildSlice 34 1 #[(0, t31_51)]) w_52 fun t32_53 w_54 =>
    RunS Try.prog (Builtin.append_ #[34, 34] 34 #[l7_13, t32_53]) w_54 fun t33_55 w_56 =>
    Pu (faV 1 x5_1) fun t35_57 =>
    Ld w_56 t35_57 fun t36_58 w_59 =>
    Pu (ixV 2 t36_58 i8_14) fun t38_60 =>
    Pu (faV 1 t38_60) fun t39_61 =>
    Ld w_59 t39_61 fun t40_62 w_63 =>
    RunS Try.prog (Builtin.append_ #[34, 34] 34 #[t33_55, t40_62]) w_63 fun t41_64 w_65 =>
    Pu (binV (TypeDesc.int IntKind.i64) .add i8_14 (Value.int IntKind.i64 1)) fun t24_66 =>
    I_10 [t41_64, t24_66] w_65 ∧ m_11 [t41_64, t24_66] w_65 < m_11 [l7_13, i8_14] w_39)
      (∃ (I_67 : List Value → World → Prop) (m_68 : List Value → World → Nat), I_67 [(Value.int IntKind.i64 0)] w_43 ∧
  ∀ (g_99 : Fr) (w_98 : World), ∀ i9_71 : Value, I_67 [i9_71] w_98 →
    (Pu (lenV l7_13) fun t44_100 =>
    Pu (binV (TypeDesc.int IntKind.i64) .lss i9_71 t44_100) fun t45_101 =>
    IfB t45_101
      (Pu (ixV 1 l7_13 i9_71) fun t51_102 =>
    Ld w_98 t51_102 fun t52_103 w_104 =>
    Cl Try.prog 42 [modulus0, t52_103, (Value.int IntKind.i64 0)] w_104 fun t53_105 w_106 =>
    Pu (binV (TypeDesc.int IntKind.i64) .eql t53_105 (Value.int IntKind.i64 0)) fun t54_107 =>
    Gd (isB false t54_107) (fun kk => kk modulus0 w_106) w_106 fun t56_108 w_109 =>
    Gd (isB false t54_107) (fun kk => kk l7_13 w_109) w_109 fun t57_110 w_111 =>
    Gd (isB false t54_107) (fun kk => kk i9_71 w_111) w_111 fun t58_112 w_113 =>
    Gd (isB false t54_107) (fun kk => Pu (ixV 1 t57_110 t58_112) fun vv => kk vv w_113) w_113 fun t59_114 w_115 =>
    Gd (isB false t54_107) (fun kk => Ld w_115 t59_114 kk) w_115 fun t60_116 w_117 =>
    Gd (isB false t54_107) (fun kk => kk next1 w_117) w_117 fun t61_118 w_119 =>
    Gd (isB false t54_107) (fun kk => Cl Try.prog 43 [t56_108, t60_116, t61_118] w_119 kk) w_119 fun t62_120 w_121 =>
    Gd (isB false t54_107) (fun kk => kk modulus0 w_121) w_121 fun t63_122 w_123 =>
    Gd (isB false t54_107) (fun kk => Pu (binV (TypeDesc.int IntKind.i64) .quo t63_122 (Value.int IntKind.i64 4)) fun vv => kk vv w_123) w_123 fun t64_124 w_125 =>
    Gd (isB false t54_107) (fun kk => Pu (binV (TypeDesc.int IntKind.i64) .gtr t62_120 t64_124) fun vv => kk vv w_125) w_125 fun t65_126 w_127 =>
    Pu (pickV t54_107 (Value.bool true) t65_126) fun t66_128 =>
    IfB t66_128
      (Cl Try.prog 38 [] w_127 fun t67_129 w_130 =>
        k t67_129 w_130)
      (Pu (binV (TypeDesc.int IntKind.i64) .add i9_71 (Value.int IntKind.i64 1)) fun t47_131 =>
    I_67 [t47_131] w_127 ∧ m_68 [t47_131] w_127 < m_68 [i9_71] w_98))
      (Pu (faV 0 x5_1) fun t70_132 =>
  Ld w_98 t70_132 fun t71_133 w_134 =>
  Pu (faV 1 x5_1) fun t72_135 =>
  Ld w_134 t72_135 fun t73_136 w_137 =>
  Cl Try.prog 44 [modulus0, next1, t71_133, t73_136] w_137 fun t74_138 w_139 =>
  ∃ (I_140 : List Value → World → Prop) (m_141 : List Value → World → Nat), I_140 [(Value.bool false), (Value.int IntKind.i64 0)] w_139 ∧
  ∀ (g_169 : Fr) (w_168 : World), ∀ is11_144 : Value, ∀ i12_145 : Value, I_140 [is11_144, i12_145] w_168 →
    (Pu (lenV l7_13) fun t77_170 =>
    Pu (binV (TypeDesc.int IntKind.i64) .lss i12_145 t77_170) fun t78_171 =>
    IfB t78_171
      (Gd (isB false is11_144) (fun kk => kk l7_13 w_168) w_168 fun t83_172 w_173 =>
    Gd (isB false is11_144) (fun kk => kk i12_145 w_173) w_173 fun t84_174 w_175 =>
    Gd (isB false is11_144) (fun kk => Pu (ixV 1 t83_172 t84_174) fun vv => kk vv w_175) w_175 fun t85_176 w_177 =>
    Gd (isB false is11_144) (fun kk => Ld w_177 t85_176 kk) w_177 fun t86_178 w_179 =>
    Gd (isB false is11_144) (fun kk => kk t74_138 w_179) w_179 fun t87_180 w_181 =>
    Gd (isB false is11_144) (fun kk => Pu (binV (TypeDesc.int IntKind.i64) .eql t86_178 t87_180) fun vv => kk vv w_181) w_181 fun t88_182 w_183 =>
    Pu (pickV is11_144 (Value.bool true) t88_182) fun t89_184 =>
    Pu (ixV 1 l7_13 i12_145) fun t93_185 =>
    Ld w_183 t93_185 fun t94_186 w_187 =>
    Cl Try.prog 45 [modulus0, t94_186, t74_138] w_187 fun t96_188 w_189 =>
    IfB t96_188
      (k (Value.bool false) w_189)
      (Pu (binV (TypeDesc.int IntKind.i64) .add i12_145 (Value.int IntKind.i64 1)) fun t80_190 =>
    I_140 [t89_184, t80_190] w_189 ∧ m_141 [t89_184, t80_190] w_189 < m_141 [is11_144, i12_145] w_168))
      (Gd (isB true is11_144) (fun kk => Cl Try.prog 38 [] w_168 kk) w_168 fun t99_191 w_192 =>
  Pu (pickV is11_144 t99_191 (Value.bool false)) fun t100_193 =>
  k t100_193 w_192))))))
theorem e12 (k : KV) (modulus0 : Value) (next1 : Value) (x2 : Value) (w : World) : K KD Try.prog 101 (fun j => bif Nat.beq j 15 then [11, 12] else bif Nat.beq j 8 then [9] else bif Nat.beq j 3 then [7, 8] else []) (fun j =>  none) (Try.f12.body.getD .skip) (retQ Try.prog Try.f12 k) (argF [modulus0, next1, x2]) w = T12 k modulus0 next1 x2 w := by kernel_rfl
theorem c12 {k : KV} {modulus0 : Value} {next1 : Value} {x2 : Value} {w : World} (h : T12 k modulus0 next1 x2 w) : Cl Try.prog 12 [modulus0, next1, x2] w k :=
  Cl_of_K KD_sound mixed Try.func12 (by kernel_rfl) (by kernel_rfl) ((e12 k modulus0 next1 x2 w).symm ▸ h)

/-- Function 13: almonry/almonrylaw09.SnapLater. -/
def T13 (k : KV) (x0 : Value) (raw1 : Value) (who2 : Value) (w : World) : Prop :=
  New (Value.cells x0) 91 w fun x3_1 w_2 =>
  New (Value.cells raw1) 97 w_2 fun raw4_3 w_4 =>
  Pu (faV 0 x3_1) fun t15_5 =>
  Ld w_4 t15_5 fun t16_6 w_7 =>
  Pu (faV 1 x3_1) fun t17_8 =>
  Ld w_7 t17_8 fun t18_9 w_10 =>
  Pu (faV 2 x3_1) fun t19_11 =>
  Ld w_10 t19_11 fun t20_12 w_13 =>
  LdN 11 w_13 raw4_3 fun t21_14 w_15 =>
  Cl Try.prog 37 [t16_6, t18_9, t20_12, t21_14] w_15 fun t22_16 w_17 =>
  Pu (extV t22_16 0) fun t23_18 =>
  Pu (extV t22_16 1) fun t24_19 =>
  New #[(Value.int IntKind.i64 0), (Value.int IntKind.i64 0), (Value.slice none 0 0), (Value.int IntKind.i64 0), (Value.slice none 0 0), (Value.int IntKind.i64 0), (Value.int IntKind.i64 0), (Value.int IntKind.i64 0), (Value.int IntKind.i64 0), (Value.string (ByteArray.mk #[])), (Value.slice none 0 0)] 97 w_17 fun v7_20 w_21 =>
  St 11 w_21 v7_20 t23_18 fun u_22 w_23 =>
  ∃ (I_24 : List Value → World → Prop) (m_25 : List Value → World → Nat), I_24 [(Value.bool false), (Value.int IntKind.i64 0)] w_23 ∧
  ∀ (g_49 : Fr) (w_48 : World), ∀ active9_27 : Value, ∀ i10_28 : Value, I_24 [active9_27, i10_28] w_48 →
    (Pu (faV 1 v7_20) fun t26_50 =>
    Pu (faV 1 t26_50) fun t27_51 =>
    Ld w_48 t27_51 fun t28_52 w_53 =>
    Pu (lenV t28_52) fun t29_54 =>
    Pu (binV (TypeDesc.int IntKind.i64) .lss i10_28 t29_54) fun t30_55 =>
    IfB t30_55
      (Gd (isB false active9_27) (fun kk => Pu (faV 1 v7_20) fun vv => kk vv w_53) w_53 fun t35_56 w_57 =>
    Gd (isB false active9_27) (fun kk => Pu (faV 1 t35_56) fun vv => kk vv w_57) w_57 fun t36_58 w_59 =>
    Gd (isB false active9_27) (fun kk => Ld w_59 t36_58 kk) w_59 fun t37_60 w_61 =>
    Gd (isB false active9_27) (fun kk => kk i10_28 w_61) w_61 fun t38_62 w_63 =>
    Gd (isB false active9_27) (fun kk => Pu (ixV 1 t37_60 t38_62) fun vv => kk vv w_63) w_63 fun t39_64 w_65 =>
    Gd (isB false active9_27) (fun kk => Ld w_65 t39_64 kk) w_65 fun t40_66 w_67 =>
    Gd (isB false active9_27) (fun kk => kk who2 w_67) w_67 fun t41_68 w_69 =>
    Gd (isB false active9_27) (fun kk => Pu (binV (TypeDesc.int IntKind.i64) .eql t40_66 t41_68) fun vv => kk vv w_69) w_69 fun t42_70 w_71 =>
    Pu (pickV active9_27 (Value.bool true) t42_70) fun t43_72 =>
    Pu (binV (TypeDesc.int IntKind.i64) .add i10_28 (Value.int IntKind.i64 1)) fun t32_73 =>
    I_24 [t43_72, t32_73] w_71 ∧ m_25 [t43_72, t32_73] w_71 < m_25 [active9_27, i10_28] w_48)
      (Pu (unV .not t24_19) fun t45_74 =>
  Gd (isB false t45_74) (fun kk => kk who2 w_53) w_53 fun t47_75 w_76 =>
  Gd (isB false t45_74) (fun kk => Pu (faV 3 v7_20) fun vv => kk vv w_76) w_76 fun t48_77 w_78 =>
  Gd (isB false t45_74) (fun kk => Ld w_78 t48_77 kk) w_78 fun t49_79 w_80 =>
  Gd (isB false t45_74) (fun kk => Pu (binV (TypeDesc.int IntKind.i64) .eql t47_75 t49_79) fun vv => kk vv w_80) w_80 fun t50_81 w_82 =>
  Pu (pickV t45_74 (Value.bool true) t50_81) fun t51_83 =>
  Gd (isB false t51_83) (fun kk => kk active9_27 w_82) w_82 fun t53_84 w_85 =>
  Gd (isB false t51_83) (fun kk => Pu (unV .not t53_84) fun vv => kk vv w_85) w_85 fun t54_86 w_87 =>
  Gd (isB false t51_83) (fun kk => kk t54_86 w_87) w_87 fun t55_88 w_89 =>
  Gd (isB true t55_88) (fun kk => Pu (faV 0 v7_20) fun vv => kk vv w_89) w_89 fun t56_90 w_91 =>
  Gd (isB true t55_88) (fun kk => Ld w_91 t56_90 kk) w_91 fun t57_92 w_93 =>
  Gd (isB true t55_88) (fun kk => kk who2 w_93) w_93 fun t58_94 w_95 =>
  Gd (isB true t55_88) (fun kk => Pu (faV 1 v7_20) fun vv => kk vv w_95) w_95 fun t59_96 w_97 =>
  Gd (isB true t55_88) (fun kk => Pu (faV 0 t59_96) fun vv => kk vv w_97) w_97 fun t60_98 w_99 =>
  Gd (isB true t55_88) (fun kk => Ld w_99 t60_98 kk) w_99 fun t61_100 w_101 =>
  Gd (isB true t55_88) (fun kk => Cl Try.prog 45 [t57_92, t58_94, t61_100] w_101 kk) w_101 fun t62_102 w_103 =>
  Gd (isB false t51_83) (fun kk => Pu (pickV t55_88 t62_102 (Value.bool false)) fun vv => kk vv w_103) w_103 fun t63_104 w_105 =>
  Pu (pickV t51_83 (Value.bool true) t63_104) fun t64_106 =>
  IfB t64_106
    (Cl Try.prog 38 [] w_105 fun t65_107 w_108 =>
      k t65_107 w_108)
    (Pu (faV 0 v7_20) fun t67_109 =>
  Ld w_105 t67_109 fun t68_110 w_111 =>
  Pu (faV 5 v7_20) fun t69_112 =>
  LdN 6 w_111 t69_112 fun t70_113 w_114 =>
  Cl Try.prog 46 [t68_110, t70_113, who2, (Value.int IntKind.u8 2)] w_114 fun t72_115 w_116 =>
  Pu (extV t72_115 0) fun t73_117 =>
  Pu (extV t72_115 1) fun t74_118 =>
  New #[(Value.int IntKind.i64 0), (Value.int IntKind.i64 0), (Value.int IntKind.i64 0), (Value.int IntKind.i64 0), (Value.string (ByteArray.mk #[])), (Value.slice none 0 0)] 95 w_116 fun q11_119 w_120 =>
  St 6 w_120 q11_119 t73_117 fun u_121 w_122 =>
  Pu (binV (TypeDesc.int IntKind.i64) .neq t74_118 (Value.int IntKind.i64 0)) fun t76_123 =>
  IfB t76_123
    (Cl Try.prog 38 [] w_122 fun t77_124 w_125 =>
      k t77_124 w_125)
    (LdN 11 w_122 v7_20 fun t78_126 w_127 =>
  Cl Try.prog 39 [t78_126, who2] w_127 fun t80_128 w_129 =>
  LdN 6 w_129 q11_119 fun t81_130 w_131 =>
  Pu (faV 5 v7_20) fun t82_132 =>
  St 6 w_131 t82_132 t81_130 fun u_133 w_134 =>
  Pu (faV 4 v7_20) fun t83_135 =>
  St 1 w_134 t83_135 (Value.slice none 0 0) fun u_136 w_137 =>
  Pu (unV .not t80_128) fun t85_138 =>
  Gd (isB true t85_138) (fun kk => LdN 11 w_137 v7_20 kk) w_137 fun t87_139 w_140 =>
  Gd (isB true t85_138) (fun kk => kk who2 w_140) w_140 fun t88_141 w_142 =>
  Gd (isB true t85_138) (fun kk => Cl Try.prog 39 [t87_139, t88_141] w_142 kk) w_142 fun t89_143 w_144 =>
  Gd (isB true t85_138) (fun kk => Pu (unV .not t89_143) fun vv => kk vv w_144) w_144 fun t90_145 w_146 =>
  Pu (pickV t85_138 t90_145 (Value.bool false)) fun t91_147 =>
  Gd (isB true t91_147) (fun kk => LdN 11 w_146 v7_20 kk) w_146 fun t93_148 w_149 =>
  Gd (isB true t91_147) (fun kk => kk who2 w_149) w_149 fun t94_150 w_151 =>
  Gd (isB true t91_147) (fun kk => RunS Try.prog (Instr.build 99 #[(0, t94_150), (3, (Value.string (ByteArray.mk #[107])))]) w_151 kk) w_151 fun t95_152 w_153 =>
  Gd (isB true t91_147) (fun kk => Cl Try.prog 40 [t93_148, t95_152] w_153 kk) w_153 fun t96_154 w_155 =>
  Gd (isB true t91_147) (fun kk => Pu (unV .not t96_154) fun vv => kk vv w_155) w_155 fun t97_156 w_157 =>
  Pu (pickV t91_147 t97_156 (Value.bool false)) fun t98_158 =>
  Gd (isB true t98_158) (fun kk => Cl Try.prog 38 [] w_157 kk) w_157 fun t100_159 w_160 =>
  Pu (pickV t98_158 t100_159 (Value.bool false)) fun t101_161 =>
  k t101_161 w_160))))
theorem e13 (k : KV) (x0 : Value) (raw1 : Value) (who2 : Value) (w : World) : K KD Try.prog 102 (fun j => bif Nat.beq j 4 then [9, 10] else []) (fun j =>  none) (Try.f13.body.getD .skip) (retQ Try.prog Try.f13 k) (argF [x0, raw1, who2]) w = T13 k x0 raw1 who2 w := by kernel_rfl
theorem c13 {k : KV} {x0 : Value} {raw1 : Value} {who2 : Value} {w : World} (h : T13 k x0 raw1 who2 w) : Cl Try.prog 13 [x0, raw1, who2] w k :=
  Cl_of_K KD_sound mixed Try.func13 (by kernel_rfl) (by kernel_rfl) ((e13 k x0 raw1 who2 w).symm ▸ h)

/-- Function 14: almonry/almonrylaw09.SnapSees. -/
def T14 (k : KV) (x0 : Value) (raw1 : Value) (t2 : Value) (w : World) : Prop :=
  New (Value.cells x0) 91 w fun x3_1 w_2 =>
  New (Value.cells raw1) 97 w_2 fun raw4_3 w_4 =>
  New (Value.cells t2) 99 w_4 fun t5_5 w_6 =>
  Pu (faV 0 x3_1) fun t15_7 =>
  Ld w_6 t15_7 fun t16_8 w_9 =>
  Pu (faV 1 x3_1) fun t17_10 =>
  Ld w_9 t17_10 fun t18_11 w_12 =>
  Pu (faV 2 x3_1) fun t19_13 =>
  Ld w_12 t19_13 fun t20_14 w_15 =>
  LdN 11 w_15 raw4_3 fun t21_16 w_17 =>
  Cl Try.prog 37 [t16_8, t18_11, t20_14, t21_16] w_17 fun t22_18 w_19 =>
  Pu (extV t22_18 0) fun t23_20 =>
  Pu (extV t22_18 1) fun t24_21 =>
  New #[(Value.int IntKind.i64 0), (Value.int IntKind.i64 0), (Value.slice none 0 0), (Value.int IntKind.i64 0), (Value.slice none 0 0), (Value.int IntKind.i64 0), (Value.int IntKind.i64 0), (Value.int IntKind.i64 0), (Value.int IntKind.i64 0), (Value.string (ByteArray.mk #[])), (Value.slice none 0 0)] 97 w_19 fun v7_22 w_23 =>
  St 11 w_23 v7_22 t23_20 fun u_24 w_25 =>
  ∃ (I_26 : List Value → World → Prop) (m_27 : List Value → World → Nat), I_26 [(Value.int IntKind.i64 0)] w_25 ∧
  ∀ (g_59 : Fr) (w_58 : World), ∀ i9_30 : Value, I_26 [i9_30] w_58 →
    (Pu (binV (TypeDesc.int IntKind.i64) .lss i9_30 (Value.int IntKind.i64 2)) fun t26_60 =>
    IfB t26_60
      (Pu (faV 0 t5_5) fun t29_61 =>
    Ld w_58 t29_61 fun t30_62 w_63 =>
    Jn (fun vs_71 w_70 => ∀ g_72 : Fr, ∃ n10_65 : Value, vs_71 = [n10_65] ∧
        (∃ C_73 : World → Prop, C_73 (World.drew w_70) ∧
        (LdN 11 (World.drew w_70) v7_22 fun t35_74 w_75 =>
        w_75 = (World.drew w_70) ∧
        ∃ t38_76, (∀ w_77, C_73 w_77 → LdN 11 w_77 v7_22 fun t38_78 w_79 =>
        t38_78 = t38_76 ∧ w_79 = w_77) ∧
        (Cl Try.prog 47 [t35_74, n10_65] (World.drew w_70) fun t37_80 w_81 =>
        C_73 w_81 ∧
        (Cl Try.prog 48 [t38_76, n10_65] w_81 fun t40_82 w_83 =>
        C_73 w_83 ∧
        (Pu (binV (TypeDesc.int IntKind.u8) .neq t37_80 t40_82) fun t41_84 =>
        Gd (isB false t41_84) (fun kk => LdN 11 w_83 v7_22 kk) w_83 fun t43_85 w_86 =>
        w_86 = w_83 ∧
        Gd (isB false t41_84) (fun kk => kk n10_65 w_83) w_83 fun t44_87 w_88 =>
        ∃ t46_89, (∀ w_90, C_73 w_90 → Gd (isB false t41_84) (fun kk => LdN 11 w_90 v7_22 kk) w_90 fun t46_91 w_92 =>
        t46_91 = t46_89 ∧ w_92 = w_90) ∧
        (Gd (isB false t41_84) (fun kk => kk n10_65 w_88) w_88 fun t47_93 w_94 =>
        Gd (isB false t41_84) (fun kk => Cl Try.prog 39 [t43_85, t44_87] w_94 kk) w_94 fun t45_95 w_96 =>
        C_73 w_96 ∧
        (Gd (isB false t41_84) (fun kk => Cl Try.prog 49 [t46_89, t47_93] w_96 kk) w_96 fun t48_97 w_98 =>
        Gd (isB false t41_84) (fun kk => Pu (binV TypeDesc.bool .neq t45_95 t48_97) fun vv => kk vv w_98) w_98 fun t49_99 w_100 =>
        Pu (pickV t41_84 (Value.bool true) t49_99) fun t50_101 =>
        IfB t50_101
          (k (Value.bool false) w_100)
          (Pu (binV (TypeDesc.int IntKind.i64) .add i9_30 (Value.int IntKind.i64 1)) fun t28_102 =>
    I_26 [t28_102] w_100 ∧ m_27 [t28_102] w_100 < m_27 [i9_30] w_58)))))))))
      (fun jj_64 =>
      Pu (binV (TypeDesc.int IntKind.i64) .gtr i9_30 (Value.int IntKind.i64 0)) fun t32_103 =>
      IfB t32_103
        (Pu (faV 1 t5_5) fun t33_104 =>
          Ld w_63 t33_104 fun t34_105 w_106 =>
          jj_64 [t34_105] w_106)
        (jj_64 [t30_62] w_63)))
      (Pu (faV 1 raw4_3) fun t51_107 =>
  Pu (faV 0 t51_107) fun t52_108 =>
  Ld w_58 t52_108 fun t53_109 w_110 =>
  ∃ C_111 : World → Prop, C_111 (World.drew w_110) ∧
  (LdN 11 (World.drew w_110) v7_22 fun t54_112 w_113 =>
  w_113 = (World.drew w_110) ∧
  LdN 5 (World.drew w_110) t5_5 fun t55_114 w_115 =>
  w_115 = (World.drew w_110) ∧
  ∃ t57_116, (∀ w_117, C_111 w_117 → LdN 11 w_117 v7_22 fun t57_118 w_119 =>
  t57_118 = t57_116 ∧ w_119 = w_117) ∧
  (∃ t58_120, (∀ w_121, C_111 w_121 → LdN 5 w_121 t5_5 fun t58_122 w_123 =>
  t58_122 = t58_120 ∧ w_123 = w_121) ∧
  (Cl Try.prog 40 [t54_112, t55_114] (World.drew w_110) fun t56_124 w_125 =>
  C_111 w_125 ∧
  (Cl Try.prog 50 [t57_116, t58_120] w_125 fun t59_126 w_127 =>
  C_111 w_127 ∧
  (Pu (binV TypeDesc.bool .eql t56_124 t59_126) fun t60_128 =>
  Gd (isB true t60_128) (fun kk => LdN 11 w_127 v7_22 kk) w_127 fun t62_129 w_130 =>
  w_130 = w_127 ∧
  Gd (isB true t60_128) (fun kk => LdN 5 w_127 t5_5 kk) w_127 fun t63_131 w_132 =>
  w_132 = w_127 ∧
  ∃ t65_133, (∀ w_134, C_111 w_134 → Gd (isB true t60_128) (fun kk => LdN 11 w_134 v7_22 kk) w_134 fun t65_135 w_136 =>
  t65_135 = t65_133 ∧ w_136 = w_134) ∧
  (∃ t66_137, (∀ w_138, C_111 w_138 → Gd (isB true t60_128) (fun kk => LdN 5 w_138 t5_5 kk) w_138 fun t66_139 w_140 =>
  t66_139 = t66_137 ∧ w_140 = w_138) ∧
  (Gd (isB true t60_128) (fun kk => Cl Try.prog 41 [t62_129, t63_131] w_127 kk) w_127 fun t64_141 w_142 =>
  C_111 w_142 ∧
  (Gd (isB true t60_128) (fun kk => Cl Try.prog 51 [t65_133, t66_137] w_142 kk) w_142 fun t67_143 w_144 =>
  Gd (isB true t60_128) (fun kk => Pu (binV TypeDesc.bool .eql t64_141 t67_143) fun vv => kk vv w_144) w_144 fun t68_145 w_146 =>
  Pu (pickV t60_128 t68_145 (Value.bool false)) fun t69_147 =>
  ∃ C_148 : World → Prop, C_148 (World.drew w_146) ∧
  (LdN 11 (World.drew w_146) v7_22 fun t70_149 w_150 =>
  w_150 = (World.drew w_146) ∧
  LdN 5 (World.drew w_146) t5_5 fun t71_151 w_152 =>
  w_152 = (World.drew w_146) ∧
  ∃ t74_153, (∀ w_154, C_148 w_154 → LdN 11 w_154 v7_22 fun t74_155 w_156 =>
  t74_155 = t74_153 ∧ w_156 = w_154) ∧
  (∃ t75_157, (∀ w_158, C_148 w_158 → LdN 5 w_158 t5_5 fun t75_159 w_160 =>
  t75_159 = t75_157 ∧ w_160 = w_158) ∧
  (Cl Try.prog 52 [t70_149, t71_151, t53_109] (World.drew w_146) fun t73_161 w_162 =>
  C_148 w_162 ∧
  (Cl Try.prog 53 [t74_153, t75_157, t53_109] w_162 fun t77_163 w_164 =>
  C_148 w_164 ∧
  (Pu (binV TypeDesc.bool .eql t73_161 t77_163) fun t78_165 =>
  Gd (isB true t78_165) (fun kk => LdN 11 w_164 v7_22 kk) w_164 fun t80_166 w_167 =>
  w_167 = w_164 ∧
  Gd (isB true t78_165) (fun kk => LdN 5 w_164 t5_5 kk) w_164 fun t81_168 w_169 =>
  w_169 = w_164 ∧
  Gd (isB true t78_165) (fun kk => kk t53_109 w_164) w_164 fun t82_170 w_171 =>
  ∃ t84_172, (∀ w_173, C_148 w_173 → Gd (isB true t78_165) (fun kk => LdN 11 w_173 v7_22 kk) w_173 fun t84_174 w_175 =>
  t84_174 = t84_172 ∧ w_175 = w_173) ∧
  (∃ t85_176, (∀ w_177, C_148 w_177 → Gd (isB true t78_165) (fun kk => LdN 5 w_177 t5_5 kk) w_177 fun t85_178 w_179 =>
  t85_178 = t85_176 ∧ w_179 = w_177) ∧
  (Gd (isB true t78_165) (fun kk => kk t53_109 w_171) w_171 fun t86_180 w_181 =>
  Gd (isB true t78_165) (fun kk => Cl Try.prog 54 [t80_166, t81_168, t82_170] w_181 kk) w_181 fun t83_182 w_183 =>
  C_148 w_183 ∧
  (Gd (isB true t78_165) (fun kk => Cl Try.prog 55 [t84_172, t85_176, t86_180] w_183 kk) w_183 fun t87_184 w_185 =>
  C_148 w_185 ∧
  (Gd (isB true t78_165) (fun kk => Pu (binV TypeDesc.bool .eql t83_182 t87_184) fun vv => kk vv w_185) w_185 fun t88_186 w_187 =>
  Pu (pickV t78_165 t88_186 (Value.bool false)) fun t89_188 =>
  Gd (isB true t89_188) (fun kk => LdN 11 w_187 v7_22 kk) w_187 fun t91_189 w_190 =>
  w_190 = w_187 ∧
  Gd (isB true t89_188) (fun kk => LdN 5 w_187 t5_5 kk) w_187 fun t92_191 w_192 =>
  w_192 = w_187 ∧
  ∃ t94_193, (∀ w_194, C_148 w_194 → Gd (isB true t89_188) (fun kk => LdN 11 w_194 v7_22 kk) w_194 fun t94_195 w_196 =>
  t94_195 = t94_193 ∧ w_196 = w_194) ∧
  (∃ t95_197, (∀ w_198, C_148 w_198 → Gd (isB true t89_188) (fun kk => LdN 5 w_198 t5_5 kk) w_198 fun t95_199 w_200 =>
  t95_199 = t95_197 ∧ w_200 = w_198) ∧
  (Gd (isB true t89_188) (fun kk => Cl Try.prog 56 [t91_189, t92_191] w_187 kk) w_187 fun t93_201 w_202 =>
  C_148 w_202 ∧
  (Gd (isB true t89_188) (fun kk => Cl Try.prog 57 [t94_193, t95_197] w_202 kk) w_202 fun t96_203 w_204 =>
  Gd (isB true t89_188) (fun kk => Pu (binV TypeDesc.bool .eql t93_201 t96_203) fun vv => kk vv w_204) w_204 fun t97_205 w_206 =>
  Pu (pickV t89_188 t97_205 (Value.bool false)) fun t98_207 =>
  Gd (isB true t69_147) (fun kk => kk t98_207 w_206) w_206 fun t101_208 w_209 =>
  Pu (pickV t69_147 t101_208 (Value.bool false)) fun t102_210 =>
  Gd (isB true t102_210) (fun kk => Cl Try.prog 38 [] w_209 kk) w_209 fun t104_211 w_212 =>
  Pu (pickV t102_210 t104_211 (Value.bool false)) fun t105_213 =>
  k t105_213 w_212))))))))))))))))))))))
theorem e14 (k : KV) (x0 : Value) (raw1 : Value) (t2 : Value) (w : World) : K KD Try.prog 106 (fun j => bif Nat.beq j 3 then [9] else []) (fun j => bif Nat.beq j 8 then some [10] else none) (Try.f14.body.getD .skip) (retQ Try.prog Try.f14 k) (argF [x0, raw1, t2]) w = T14 k x0 raw1 t2 w := by kernel_rfl
theorem c14 {k : KV} {x0 : Value} {raw1 : Value} {t2 : Value} {w : World} (h : T14 k x0 raw1 t2 w) : Cl Try.prog 14 [x0, raw1, t2] w k :=
  Cl_of_K KD_sound mixed Try.func14 (by kernel_rfl) (by kernel_rfl) ((e14 k x0 raw1 t2 w).symm ▸ h)

/-- Function 37: almonry/almonrylaw09.made. -/
def T37 (k : KV) (modulus0 : Value) (frozen1 : Value) (said2 : Value) (v3 : Value) (w : World) : Prop :=
  New (Value.cells v3) 97 w fun v7_1 w_2 =>
  New #[(Value.int IntKind.i64 0), (Value.int IntKind.i64 0), (Value.slice none 0 0), (Value.int IntKind.i64 0), (Value.slice none 0 0), (Value.int IntKind.i64 0), (Value.int IntKind.i64 0), (Value.int IntKind.i64 0), (Value.int IntKind.i64 0), (Value.string (ByteArray.mk #[])), (Value.slice none 0 0)] 97 w_2 fun t8_3 w_4 =>
  Cl Try.prog 84 [modulus0, frozen1] w_4 fun t18_5 w_6 =>
  Pu (extV t18_5 0) fun t19_7 =>
  Pu (extV t18_5 1) fun t20_8 =>
  New #[(Value.int IntKind.i64 0), (Value.int IntKind.i64 0), (Value.int IntKind.i64 0), (Value.int IntKind.i64 0), (Value.string (ByteArray.mk #[])), (Value.slice none 0 0)] 95 w_6 fun p10_9 w_10 =>
  St 6 w_10 p10_9 t19_7 fun u_11 w_12 =>
  Pu (binV (TypeDesc.int IntKind.i64) .neq t20_8 (Value.int IntKind.i64 0)) fun t22_13 =>
  IfB t22_13
    (LdN 11 w_12 v7_1 fun t23_14 w_15 =>
      St 11 w_15 t8_3 t23_14 fun u_16 w_17 =>
      RetO (resL Try.prog (fun j => bif Nat.beq j 8 then t8_3 else bif Nat.beq j 9 then (Value.bool false) else undef) w_17 [(ResultVar.cell 8 97), (ResultVar.tmp 9)]) w_17 k)
    (∃ (I_18 : List Value → World → Prop) (m_19 : List Value → World → Nat), I_18 [(Value.int IntKind.i64 0)] w_12 ∧
  ∀ (g_50 : Fr) (w_49 : World), ∀ i12_21 : Value, I_18 [i12_21] w_49 →
    (Pu (lenV said2) fun t26_51 =>
    Pu (binV (TypeDesc.int IntKind.i64) .lss i12_21 t26_51) fun t27_52 =>
    IfB t27_52
      (Jn (fun vs_76 w_75 => ∀ g_77 : Fr, vs_76 = [] ∧
        (Pu (binV (TypeDesc.int IntKind.i64) .add i12_21 (Value.int IntKind.i64 1)) fun t29_78 =>
        I_18 [t29_78] w_75 ∧ m_19 [t29_78] w_75 < m_19 [i12_21] w_49))
      (fun jj_53 =>
      Jn (fun vs_99 w_98 => ∀ g_100 : Fr, ∃ q13_80 : Value, ∃ f14_81 : Value, vs_99 = [q13_80, f14_81] ∧
          (Pu (binV (TypeDesc.int IntKind.i64) .eql f14_81 (Value.int IntKind.i64 0)) fun t47_101 =>
          IfB t47_101
            (LdN 6 w_98 q13_80 fun t48_102 w_103 =>
              St 6 w_103 p10_9 t48_102 fun u_104 w_105 =>
              jj_53 [] w_105)
            (jj_53 [] w_98)))
        (fun jj_79 =>
        ∃ C_106 : World → Prop, C_106 (World.drew w_49) ∧
        (∃ t32_107, (∀ w_108, C_106 w_108 → LdN 6 w_108 p10_9 fun t32_109 w_110 =>
        t32_109 = t32_107 ∧ w_110 = w_108) ∧
        (Pu (ixV 2 said2 i12_21) fun t35_111 =>
        Pu (faV 0 t35_111) fun t36_112 =>
        ∃ t37_113, (∀ w_114, C_106 w_114 → Ld w_114 t36_112 fun t37_115 w_116 =>
        t37_115 = t37_113 ∧ w_116 = w_114) ∧
        (Pu (ixV 2 said2 i12_21) fun t40_117 =>
        Pu (faV 1 t40_117) fun t41_118 =>
        ∃ t42_119, (∀ w_120, C_106 w_120 → Ld w_120 t41_118 fun t42_121 w_122 =>
        t42_121 = t42_119 ∧ w_122 = w_120) ∧
        ((Cl Try.prog 46 [modulus0, t32_107, t37_113, t42_119] (World.drew w_49) fun t43_123 w_124 =>
        Pu (extV t43_123 0) fun t44_125 =>
        Pu (extV t43_123 1) fun t45_126 =>
        New #[(Value.int IntKind.i64 0), (Value.int IntKind.i64 0), (Value.int IntKind.i64 0), (Value.int IntKind.i64 0), (Value.string (ByteArray.mk #[])), (Value.slice none 0 0)] 95 w_124 fun q13_127 w_128 =>
        St 6 w_128 q13_127 t44_125 fun u_129 w_130 =>
        jj_79 [q13_127, t45_126] w_130) ∧
        (New #[(Value.int IntKind.i64 0), (Value.int IntKind.i64 0), (Value.int IntKind.i64 0), (Value.int IntKind.i64 0), (Value.string (ByteArray.mk #[])), (Value.slice none 0 0)] 95 (World.drew w_49) fun q13_131 w_132 =>
        C_106 w_132 ∧
        (Cl Try.prog 46 [modulus0, t32_107, t37_113, t42_119] w_132 fun t43_133 w_134 =>
        Pu (extV t43_133 0) fun t44_135 =>
        Pu (extV t43_133 1) fun t45_136 =>
        St 6 w_134 q13_131 t44_135 fun u_137 w_138 =>
        jj_79 [q13_131, t45_136] w_138)) ∧
        True)))))))
      (Pu (faV 0 v7_1) fun t50_139 =>
  St 1 w_49 t50_139 modulus0 fun u_140 w_141 =>
  LdN 6 w_141 p10_9 fun t51_142 w_143 =>
  Pu (faV 5 v7_1) fun t52_144 =>
  St 6 w_143 t52_144 t51_142 fun u_145 w_146 =>
  LdN 11 w_146 v7_1 fun t53_147 w_148 =>
  St 11 w_148 t8_3 t53_147 fun u_149 w_150 =>
  RetO (resL Try.prog (fun j => bif Nat.beq j 8 then t8_3 else bif Nat.beq j 9 then (Value.bool true) else undef) w_150 [(ResultVar.cell 8 97), (ResultVar.tmp 9)]) w_150 k)))
theorem e37 (k : KV) (modulus0 : Value) (frozen1 : Value) (said2 : Value) (v3 : Value) (w : World) : K KD Try.prog 54 (fun j => bif Nat.beq j 5 then [12] else []) (fun j => bif Nat.beq j 6 then some [] else bif Nat.beq j 8 then some [13, 14] else none) (Try.f37.body.getD .skip) (retQ Try.prog Try.f37 k) (argF [modulus0, frozen1, said2, v3]) w = T37 k modulus0 frozen1 said2 v3 w := by kernel_rfl
theorem c37 {k : KV} {modulus0 : Value} {frozen1 : Value} {said2 : Value} {v3 : Value} {w : World} (h : T37 k modulus0 frozen1 said2 v3 w) : Cl Try.prog 37 [modulus0, frozen1, said2, v3] w k :=
  Cl_of_K KD_sound mixed Try.func37 (by kernel_rfl) (by kernel_rfl) ((e37 k modulus0 frozen1 said2 v3 w).symm ▸ h)

/-- Function 38: almonry/almonrylaw09.awake. -/
def T38 (k : KV) (w : World) : Prop :=
  RunS Try.prog (Instr.build 149 #[(0, (Value.int IntKind.i64 1)), (1, (Value.int IntKind.u8 2))]) w fun t4_1 w_2 =>
  RunS Try.prog (Instr.build 149 #[(0, (Value.int IntKind.i64 2)), (1, (Value.int IntKind.u8 3))]) w_2 fun t5_3 w_4 =>
  RunS Try.prog (Instr.build 149 #[(0, (Value.int IntKind.i64 3)), (1, (Value.int IntKind.u8 2))]) w_4 fun t6_5 w_6 =>
  RunS Try.prog (Instr.buildSlice 89 3 #[(0, t4_1), (1, t5_3), (2, t6_5)]) w_6 fun t7_7 w_8 =>
  RunS Try.prog (Instr.buildSlice 34 1 #[(0, (Value.int IntKind.i64 3))]) w_8 fun t8_9 w_10 =>
  Cl Try.prog 85 [(Value.int IntKind.i64 4), t8_9] w_10 fun t9_11 w_12 =>
  RunS Try.prog (Instr.buildSlice 34 1 #[(0, (Value.int IntKind.i64 4))]) w_12 fun t10_13 w_14 =>
  RunS Try.prog (Instr.build 97 #[(1, t9_11), (3, t10_13)]) w_14 fun t11_15 w_16 =>
  Cl Try.prog 37 [(Value.int IntKind.i64 16), (Value.int IntKind.i64 1), t7_7, t11_15] w_16 fun t12_17 w_18 =>
  Pu (extV t12_17 0) fun t13_19 =>
  Pu (extV t12_17 1) fun t14_20 =>
  New #[(Value.int IntKind.i64 0), (Value.int IntKind.i64 0), (Value.slice none 0 0), (Value.int IntKind.i64 0), (Value.slice none 0 0), (Value.int IntKind.i64 0), (Value.int IntKind.i64 0), (Value.int IntKind.i64 0), (Value.int IntKind.i64 0), (Value.string (ByteArray.mk #[])), (Value.slice none 0 0)] 97 w_18 fun v1_21 w_22 =>
  St 11 w_22 v1_21 t13_19 fun u_23 w_24 =>
  Pu (unV .not t14_20) fun t16_25 =>
  IfB t16_25
    (k (Value.bool false) w_24)
    (LdN 11 w_24 v1_21 fun t17_26 w_27 =>
  Cl Try.prog 47 [t17_26, (Value.int IntKind.i64 4)] w_27 fun t18_28 w_29 =>
  Pu (binV (TypeDesc.int IntKind.u8) .eql t18_28 (Value.int IntKind.u8 1)) fun t19_30 =>
  Gd (isB true t19_30) (fun kk => LdN 11 w_29 v1_21 kk) w_29 fun t21_31 w_32 =>
  Gd (isB true t19_30) (fun kk => Cl Try.prog 39 [t21_31, (Value.int IntKind.i64 1)] w_32 kk) w_32 fun t22_33 w_34 =>
  Pu (pickV t19_30 t22_33 (Value.bool false)) fun t23_35 =>
  Gd (isB true t23_35) (fun kk => LdN 11 w_34 v1_21 kk) w_34 fun t25_36 w_37 =>
  Gd (isB true t23_35) (fun kk => Cl Try.prog 39 [t25_36, (Value.int IntKind.i64 3)] w_37 kk) w_37 fun t26_38 w_39 =>
  Gd (isB true t23_35) (fun kk => Pu (unV .not t26_38) fun vv => kk vv w_39) w_39 fun t27_40 w_41 =>
  Pu (pickV t23_35 t27_40 (Value.bool false)) fun t28_42 =>
  Gd (isB true t28_42) (fun kk => LdN 11 w_41 v1_21 kk) w_41 fun t30_43 w_44 =>
  Gd (isB true t28_42) (fun kk => RunS Try.prog (Instr.build 99 #[(0, (Value.int IntKind.i64 1)), (1, (Value.int IntKind.i64 3))]) w_44 kk) w_44 fun t31_45 w_46 =>
  Gd (isB true t28_42) (fun kk => Cl Try.prog 40 [t30_43, t31_45] w_46 kk) w_46 fun t32_47 w_48 =>
  Pu (pickV t28_42 t32_47 (Value.bool false)) fun t33_49 =>
  Gd (isB true t33_49) (fun kk => LdN 11 w_48 v1_21 kk) w_48 fun t35_50 w_51 =>
  Gd (isB true t33_49) (fun kk => RunS Try.prog (Instr.build 99 #[(0, (Value.int IntKind.i64 1)), (1, (Value.int IntKind.i64 3))]) w_51 kk) w_51 fun t36_52 w_53 =>
  Gd (isB true t33_49) (fun kk => Cl Try.prog 41 [t35_50, t36_52] w_53 kk) w_53 fun t37_54 w_55 =>
  Pu (pickV t33_49 t37_54 (Value.bool false)) fun t38_56 =>
  Gd (isB true t38_56) (fun kk => LdN 11 w_55 v1_21 kk) w_55 fun t40_57 w_58 =>
  Gd (isB true t38_56) (fun kk => RunS Try.prog (Instr.build 99 #[(0, (Value.int IntKind.i64 2))]) w_58 kk) w_58 fun t41_59 w_60 =>
  Gd (isB true t38_56) (fun kk => Cl Try.prog 52 [t40_57, t41_59, (Value.int IntKind.i64 4)] w_60 kk) w_60 fun t42_61 w_62 =>
  Pu (pickV t38_56 t42_61 (Value.bool false)) fun t43_63 =>
  Gd (isB true t43_63) (fun kk => RunS Try.prog (Instr.buildSlice 34 1 #[(0, (Value.int IntKind.i64 4))]) w_62 kk) w_62 fun t45_64 w_65 =>
  Gd (isB true t43_63) (fun kk => RunS Try.prog (Instr.buildSlice 34 1 #[(0, (Value.int IntKind.i64 3))]) w_65 kk) w_65 fun t46_66 w_67 =>
  Gd (isB true t43_63) (fun kk => RunS Try.prog (Instr.build 93 #[(0, (Value.int IntKind.i64 5)), (1, t46_66)]) w_67 kk) w_67 fun t47_68 w_69 =>
  Gd (isB true t43_63) (fun kk => RunS Try.prog (Instr.buildSlice 105 1 #[(0, t47_68)]) w_69 kk) w_69 fun t48_70 w_71 =>
  Gd (isB true t43_63) (fun kk => Cl Try.prog 44 [(Value.int IntKind.i64 16), (Value.int IntKind.i64 5), t45_64, t48_70] w_71 kk) w_71 fun t49_72 w_73 =>
  Gd (isB true t43_63) (fun kk => Pu (binV (TypeDesc.int IntKind.i64) .eql t49_72 (Value.int IntKind.i64 3)) fun vv => kk vv w_73) w_73 fun t50_74 w_75 =>
  Pu (pickV t43_63 t50_74 (Value.bool false)) fun t51_76 =>
  k t51_76 w_75)
theorem e38 (k : KV) (w : World) : K KD Try.prog 52 (fun j =>  []) (fun j =>  none) (Try.f38.body.getD .skip) (retQ Try.prog Try.f38 k) (argF []) w = T38 k  w := by kernel_rfl
theorem c38 {k : KV} {w : World} (h : T38 k  w) : Cl Try.prog 38 [] w k :=
  Cl_of_K KD_sound mixed Try.func38 (by kernel_rfl) (by kernel_rfl) ((e38 k  w).symm ▸ h)

/-- Function 39: almonry/snap.Sees. -/
def T39 (k : KV) (v0 : Value) (x1 : Value) (w : World) : Prop :=
  New (Value.cells v0) 97 w fun v2_1 w_2 =>
  Pu (binV (TypeDesc.int IntKind.i64) .eql x1 (Value.int IntKind.i64 0)) fun t7_3 =>
  IfB t7_3
    (k (Value.bool false) w_2)
    (Pu (faV 3 v2_1) fun t10_4 =>
      Ld w_2 t10_4 fun t11_5 w_6 =>
      Pu (binV (TypeDesc.int IntKind.i64) .eql x1 t11_5) fun t12_7 =>
      IfB t12_7
        (k (Value.bool true) w_6)
        (Pu (faV 1 v2_1) fun t14_8 =>
          Pu (faV 1 t14_8) fun t15_9 =>
          Ld w_6 t15_9 fun t16_10 w_11 =>
          Cl Try.prog 86 [t16_10, x1] w_11 fun t18_12 w_13 =>
          Gd (isB false t18_12) (fun kk => Pu (faV 0 v2_1) fun vv => kk vv w_13) w_13 fun t20_14 w_15 =>
          Gd (isB false t18_12) (fun kk => Ld w_15 t20_14 kk) w_15 fun t21_16 w_17 =>
          Gd (isB false t18_12) (fun kk => kk x1 w_17) w_17 fun t22_18 w_19 =>
          Gd (isB false t18_12) (fun kk => Pu (faV 1 v2_1) fun vv => kk vv w_19) w_19 fun t23_20 w_21 =>
          Gd (isB false t18_12) (fun kk => Pu (faV 0 t23_20) fun vv => kk vv w_21) w_21 fun t24_22 w_23 =>
          Gd (isB false t18_12) (fun kk => Ld w_23 t24_22 kk) w_23 fun t25_24 w_25 =>
          Gd (isB false t18_12) (fun kk => Cl Try.prog 77 [t21_16, t22_18, t25_24] w_25 kk) w_25 fun t26_26 w_27 =>
          Gd (isB false t18_12) (fun kk => Pu (unV .not t26_26) fun vv => kk vv w_27) w_27 fun t27_28 w_29 =>
          Pu (pickV t18_12 (Value.bool true) t27_28) fun t28_30 =>
          IfB t28_30
            (k (Value.bool false) w_29)
            (LdN 11 w_29 v2_1 fun t29_31 w_32 =>
  Cl Try.prog 47 [t29_31, x1] w_32 fun t31_33 w_34 =>
  Pu (binV (TypeDesc.int IntKind.u8) .eql t31_33 (Value.int IntKind.u8 2)) fun t32_35 =>
  k t32_35 w_34)))
theorem e39 (k : KV) (v0 : Value) (x1 : Value) (w : World) : K KD Try.prog 33 (fun j =>  []) (fun j =>  none) (Try.f39.body.getD .skip) (retQ Try.prog Try.f39 k) (argF [v0, x1]) w = T39 k v0 x1 w := by kernel_rfl
theorem c39 {k : KV} {v0 : Value} {x1 : Value} {w : World} (h : T39 k v0 x1 w) : Cl Try.prog 39 [v0, x1] w k :=
  Cl_of_K KD_sound mixed Try.func39 (by kernel_rfl) (by kernel_rfl) ((e39 k v0 x1 w).symm ▸ h)

/-- Function 40: almonry/snap.Visible. -/
def T40 (k : KV) (v0 : Value) (t1 : Value) (w : World) : Prop :=
  New (Value.cells v0) 97 w fun v2_1 w_2 =>
  New (Value.cells t1) 99 w_2 fun t3_3 w_4 =>
  Pu (faV 2 t3_3) fun t5_5 =>
  Ld w_4 t5_5 fun t6_6 w_7 =>
  Pu (unV .not t6_6) fun t7_8 =>
  Gd (isB true t7_8) (fun kk => LdN 11 w_7 v2_1 kk) w_7 fun t9_9 w_10 =>
  Gd (isB true t7_8) (fun kk => Pu (faV 0 t3_3) fun vv => kk vv w_10) w_10 fun t10_11 w_12 =>
  Gd (isB true t7_8) (fun kk => Ld w_12 t10_11 kk) w_12 fun t11_13 w_14 =>
  Gd (isB true t7_8) (fun kk => Cl Try.prog 39 [t9_9, t11_13] w_14 kk) w_14 fun t12_15 w_16 =>
  Gd (isB true t7_8) (fun kk => Pu (unV .not t12_15) fun vv => kk vv w_16) w_16 fun t13_17 w_18 =>
  Pu (pickV t7_8 t13_17 (Value.bool false)) fun t14_19 =>
  IfB t14_19
    (k (Value.bool false) w_18)
    (LdN 11 w_18 v2_1 fun t15_20 w_21 =>
  Pu (faV 1 t3_3) fun t16_22 =>
  Ld w_21 t16_22 fun t17_23 w_24 =>
  Cl Try.prog 39 [t15_20, t17_23] w_24 fun t18_25 w_26 =>
  Pu (unV .not t18_25) fun t19_27 =>
  k t19_27 w_26)
theorem e40 (k : KV) (v0 : Value) (t1 : Value) (w : World) : K KD Try.prog 20 (fun j =>  []) (fun j =>  none) (Try.f40.body.getD .skip) (retQ Try.prog Try.f40 k) (argF [v0, t1]) w = T40 k v0 t1 w := by kernel_rfl
theorem c40 {k : KV} {v0 : Value} {t1 : Value} {w : World} (h : T40 k v0 t1 w) : Cl Try.prog 40 [v0, t1] w k :=
  Cl_of_K KD_sound mixed Try.func40 (by kernel_rfl) (by kernel_rfl) ((e40 k v0 t1 w).symm ▸ h)

/-- Function 41: almonry/snap.Newer. -/
def T41 (k : KV) (v0 : Value) (t1 : Value) (w : World) : Prop :=
  New (Value.cells v0) 97 w fun v2_1 w_2 =>
  New (Value.cells t1) 99 w_2 fun t3_3 w_4 =>
  Pu (faV 2 t3_3) fun t5_5 =>
  Ld w_4 t5_5 fun t6_6 w_7 =>
  Pu (unV .not t6_6) fun t7_8 =>
  Gd (isB true t7_8) (fun kk => LdN 11 w_7 v2_1 kk) w_7 fun t9_9 w_10 =>
  Gd (isB true t7_8) (fun kk => Pu (faV 0 t3_3) fun vv => kk vv w_10) w_10 fun t10_11 w_12 =>
  Gd (isB true t7_8) (fun kk => Ld w_12 t10_11 kk) w_12 fun t11_13 w_14 =>
  Gd (isB true t7_8) (fun kk => Cl Try.prog 87 [t9_9, t11_13] w_14 kk) w_14 fun t12_15 w_16 =>
  Pu (pickV t7_8 t12_15 (Value.bool false)) fun t13_17 =>
  Gd (isB false t13_17) (fun kk => LdN 11 w_16 v2_1 kk) w_16 fun t15_18 w_19 =>
  Gd (isB false t13_17) (fun kk => Pu (faV 1 t3_3) fun vv => kk vv w_19) w_19 fun t16_20 w_21 =>
  Gd (isB false t13_17) (fun kk => Ld w_21 t16_20 kk) w_21 fun t17_22 w_23 =>
  Gd (isB false t13_17) (fun kk => Cl Try.prog 87 [t15_18, t17_22] w_23 kk) w_23 fun t18_24 w_25 =>
  Pu (pickV t13_17 (Value.bool true) t18_24) fun t19_26 =>
  k t19_26 w_25
theorem e41 (k : KV) (v0 : Value) (t1 : Value) (w : World) : K KD Try.prog 20 (fun j =>  []) (fun j =>  none) (Try.f41.body.getD .skip) (retQ Try.prog Try.f41 k) (argF [v0, t1]) w = T41 k v0 t1 w := by kernel_rfl
theorem c41 {k : KV} {v0 : Value} {t1 : Value} {w : World} (h : T41 k v0 t1 w) : Cl Try.prog 41 [v0, t1] w k :=
  Cl_of_K KD_sound mixed Try.func41 (by kernel_rfl) (by kernel_rfl) ((e41 k v0 t1 w).symm ▸ h)

/-- Function 42: almonry/almonryref07.Add. -/
def T42 (k : KV) (m0 : Value) (x1 : Value) (n2 : Value) (w : World) : Prop :=
  Cl Try.prog 88 [m0] w fun t9_1 w_2 =>
  Pu (unV .not t9_1) fun t10_3 =>
  Gd (isB false t10_3) (fun kk => kk m0 w_2) w_2 fun t12_4 w_5 =>
  Gd (isB false t10_3) (fun kk => kk x1 w_5) w_5 fun t13_6 w_7 =>
  Gd (isB false t10_3) (fun kk => Cl Try.prog 89 [t12_4, t13_6] w_7 kk) w_7 fun t14_8 w_9 =>
  Gd (isB false t10_3) (fun kk => Pu (unV .not t14_8) fun vv => kk vv w_9) w_9 fun t15_10 w_11 =>
  Pu (pickV t10_3 (Value.bool true) t15_10) fun t16_12 =>
  IfB t16_12
    (k (Value.int IntKind.i64 0) w_11)
    (Pu (binV (TypeDesc.int IntKind.i64) .rem n2 m0) fun t19_13 =>
  Jn (fun vs_22 w_21 => ∀ g_23 : Fr, ∃ kv7_15 : Value, vs_22 = [kv7_15] ∧
      (Pu (binV (TypeDesc.int IntKind.i64) .sub x1 (Value.int IntKind.i64 1)) fun t26_24 =>
      Pu (binV (TypeDesc.int IntKind.i64) .add t26_24 kv7_15) fun t28_25 =>
      Pu (binV (TypeDesc.int IntKind.i64) .rem t28_25 m0) fun t30_26 =>
      Pu (binV (TypeDesc.int IntKind.i64) .add t30_26 (Value.int IntKind.i64 1)) fun t31_27 =>
      k t31_27 w_21))
    (fun jj_14 =>
    Pu (binV (TypeDesc.int IntKind.i64) .lss t19_13 (Value.int IntKind.i64 0)) fun t21_28 =>
    IfB t21_28
      (Pu (binV (TypeDesc.int IntKind.i64) .add t19_13 m0) fun t24_29 =>
        jj_14 [t24_29] w_11)
      (jj_14 [t19_13] w_11)))
theorem e42 (k : KV) (m0 : Value) (x1 : Value) (n2 : Value) (w : World) : K KD Try.prog 32 (fun j =>  []) (fun j => bif Nat.beq j 6 then some [7] else none) (Try.f42.body.getD .skip) (retQ Try.prog Try.f42 k) (argF [m0, x1, n2]) w = T42 k m0 x1 n2 w := by kernel_rfl
theorem c42 {k : KV} {m0 : Value} {x1 : Value} {n2 : Value} {w : World} (h : T42 k m0 x1 n2 w) : Cl Try.prog 42 [m0, x1, n2] w k :=
  Cl_of_K KD_sound mixed Try.func42 (by kernel_rfl) (by kernel_rfl) ((e42 k m0 x1 n2 w).symm ▸ h)

/-- Function 43: almonry/almonryref07.Gap. -/
def T43 (k : KV) (m0 : Value) (fromv1 : Value) (to2 : Value) (w : World) : Prop :=
  Cl Try.prog 88 [m0] w fun t9_1 w_2 =>
  Pu (unV .not t9_1) fun t10_3 =>
  Gd (isB false t10_3) (fun kk => kk m0 w_2) w_2 fun t12_4 w_5 =>
  Gd (isB false t10_3) (fun kk => kk fromv1 w_5) w_5 fun t13_6 w_7 =>
  Gd (isB false t10_3) (fun kk => Cl Try.prog 89 [t12_4, t13_6] w_7 kk) w_7 fun t14_8 w_9 =>
  Gd (isB false t10_3) (fun kk => Pu (unV .not t14_8) fun vv => kk vv w_9) w_9 fun t15_10 w_11 =>
  Pu (pickV t10_3 (Value.bool true) t15_10) fun t16_12 =>
  Gd (isB false t16_12) (fun kk => kk m0 w_11) w_11 fun t18_13 w_14 =>
  Gd (isB false t16_12) (fun kk => kk to2 w_14) w_14 fun t19_15 w_16 =>
  Gd (isB false t16_12) (fun kk => Cl Try.prog 89 [t18_13, t19_15] w_16 kk) w_16 fun t20_17 w_18 =>
  Gd (isB false t16_12) (fun kk => Pu (unV .not t20_17) fun vv => kk vv w_18) w_18 fun t21_19 w_20 =>
  Pu (pickV t16_12 (Value.bool true) t21_19) fun t22_21 =>
  IfB t22_21
    (k (Value.int IntKind.i64 0) w_20)
    (∃ (I_22 : List Value → World → Prop) (m_23 : List Value → World → Nat), I_22 [(Value.int IntKind.i64 0)] w_20 ∧
  ∀ (g_35 : Fr) (w_34 : World), ∀ n7_25 : Value, I_22 [n7_25] w_34 →
    (Cl Try.prog 42 [m0, fromv1, n7_25] w_34 fun t26_36 w_37 =>
    Pu (binV (TypeDesc.int IntKind.i64) .neq t26_36 to2) fun t28_38 =>
    IfB t28_38
      (Pu (binV (TypeDesc.int IntKind.i64) .add n7_25 (Value.int IntKind.i64 1)) fun t30_39 =>
    I_22 [t30_39] w_37 ∧ m_23 [t30_39] w_37 < m_23 [n7_25] w_34)
      (k n7_25 w_37)))
theorem e43 (k : KV) (m0 : Value) (fromv1 : Value) (to2 : Value) (w : World) : K KD Try.prog 32 (fun j => bif Nat.beq j 4 then [7] else []) (fun j =>  none) (Try.f43.body.getD .skip) (retQ Try.prog Try.f43 k) (argF [m0, fromv1, to2]) w = T43 k m0 fromv1 to2 w := by kernel_rfl
theorem c43 {k : KV} {m0 : Value} {fromv1 : Value} {to2 : Value} {w : World} (h : T43 k m0 fromv1 to2 w) : Cl Try.prog 43 [m0, fromv1, to2] w k :=
  Cl_of_K KD_sound mixed Try.func43 (by kernel_rfl) (by kernel_rfl) ((e43 k m0 fromv1 to2 w).symm ▸ h)

/-- Function 44: almonry/snap.Horizon. -/
def T44 (k : KV) (modulus0 : Value) (next1 : Value) (running2 : Value) (snaps3 : Value) (w : World) : Prop :=
  New (Value.cells modulus0) 3 w fun modulus4_1 w_2 =>
  RunS Try.prog (Instr.buildSlice 34 1 #[(0, next1)]) w_2 fun t14_3 w_4 =>
  RunS Try.prog (Builtin.append_ #[34, 34] 34 #[t14_3, running2]) w_4 fun t16_5 w_6 =>
  New #[(Value.slice none 0 0)] 34 w_6 fun l9_7 w_8 =>
  St 1 w_8 l9_7 t16_5 fun u_9 w_10 =>
  Pu (lenV snaps3) fun t18_11 =>
  ∃ (I_12 : List Value → World → Prop) (m_13 : List Value → World → Nat), I_12 [(Value.int IntKind.i64 0)] w_10 ∧
  ∀ (g_30 : Fr) (w_29 : World), ∀ t19_16 : Value, I_12 [t19_16] w_29 →
    (Pu (binV (TypeDesc.int IntKind.i64) .lss t19_16 t18_11) fun t20_31 =>
    IfB t20_31
      (Pu (ixV 2 snaps3 t19_16) fun t21_32 =>
    LdN 2 w_29 t21_32 fun t22_33 w_34 =>
    New #[(Value.int IntKind.i64 0), (Value.slice none 0 0)] 93 w_34 fun s11_35 w_36 =>
    St 2 w_36 s11_35 t22_33 fun u_37 w_38 =>
    ∃ C_39 : World → Prop, C_39 (World.drew w_38) ∧
    (∃ t23_40, (∀ w_41, C_39 w_41 → Ld w_41 l9_7 fun t23_42 w_43 =>
    t23_42 = t23_40 ∧ w_43 = w_41) ∧
    (Pu (faV 0 s11_35) fun t24_44 =>
    Ld (World.drew w_38) t24_44 fun t25_45 w_46 =>
    w_46 = (World.drew w_38) ∧
    Pu (faV 1 s11_35) fun t28_47 =>
    ∃ t29_48, (∀ w_49, C_39 w_49 → Ld w_49 t28_47 fun t29_50 w_51 =>
    t29_50 = t29_48 ∧ w_51 = w_49) ∧
    (RunS Try.prog (Instr.buildSlice 34 1 #[(0, t25_45)]) (World.drew w_38) fun t26_52 w_53 =>
    C_39 w_53 ∧
    (RunS Try.prog (Builtin.append_ #[34, 34] 34 #[t23_40, t26_52]) w_53 fun t27_54 w_55 =>
    C_39 w_55 ∧
    (RunS Try.prog (Builtin.append_ #[34, 34] 34 #[t27_54, t29_48]) w_55 fun t30_56 w_57 =>
    St 1 w_57 l9_7 t30_56 fun u_58 w_59 =>
    Pu (binV (TypeDesc.int IntKind.i64) .add t19_16 (Value.int IntKind.i64 1)) fun t31_60 =>
    I_12 [t31_60] w_59 ∧ m_13 [t31_60] w_59 < m_13 [t19_16] w_29))))))
      (Ld w_29 l9_7 fun t32_61 w_62 =>
  Cl Try.prog 90 [t32_61, (.func (Fn.func 91) #[] #[l9_7, modulus4_1])] w_62 fun t34_63 w_64 =>
  Ld w_64 l9_7 fun t35_65 w_66 =>
  Pu (foldV0 max2V [(Value.int IntKind.i64 0), t34_63]) fun t37_67 =>
  Pu (ixV 1 t35_65 t37_67) fun t38_68 =>
  Ld w_66 t38_68 fun t39_69 w_70 =>
  k t39_69 w_70))
theorem e44 (k : KV) (modulus0 : Value) (next1 : Value) (running2 : Value) (snaps3 : Value) (w : World) : K KD Try.prog 40 (fun j => bif Nat.beq j 3 then [19] else []) (fun j =>  none) (Try.f44.body.getD .skip) (retQ Try.prog Try.f44 k) (argF [modulus0, next1, running2, snaps3]) w = T44 k modulus0 next1 running2 snaps3 w := by kernel_rfl
theorem c44 {k : KV} {modulus0 : Value} {next1 : Value} {running2 : Value} {snaps3 : Value} {w : World} (h : T44 k modulus0 next1 running2 snaps3 w) : Cl Try.prog 44 [modulus0, next1, running2, snaps3] w k :=
  Cl_of_K KD_sound mixed Try.func44 (by kernel_rfl) (by kernel_rfl) ((e44 k modulus0 next1 running2 snaps3 w).symm ▸ h)

/-- Function 45: almonry/almonryref07.Before. -/
def T45 (k : KV) (m0 : Value) (a1 : Value) (b2 : Value) (w : World) : Prop :=
  Cl Try.prog 43 [m0, a1, b2] w fun t11_1 w_2 =>
  Pu (binV (TypeDesc.int IntKind.i64) .geq t11_1 (Value.int IntKind.i64 1)) fun t13_3 =>
  Gd (isB true t13_3) (fun kk => kk t11_1 w_2) w_2 fun t15_4 w_5 =>
  Gd (isB true t13_3) (fun kk => kk m0 w_5) w_5 fun t16_6 w_7 =>
  Gd (isB true t13_3) (fun kk => Pu (binV (TypeDesc.int IntKind.i64) .quo t16_6 (Value.int IntKind.i64 2)) fun vv => kk vv w_7) w_7 fun t17_8 w_9 =>
  Gd (isB true t13_3) (fun kk => Pu (binV (TypeDesc.int IntKind.i64) .sub t17_8 (Value.int IntKind.i64 1)) fun vv => kk vv w_9) w_9 fun t18_10 w_11 =>
  Gd (isB true t13_3) (fun kk => Pu (binV (TypeDesc.int IntKind.i64) .leq t15_4 t18_10) fun vv => kk vv w_11) w_11 fun t19_12 w_13 =>
  Pu (pickV t13_3 t19_12 (Value.bool false)) fun t20_14 =>
  k t20_14 w_13
theorem e45 (k : KV) (m0 : Value) (a1 : Value) (b2 : Value) (w : World) : K KD Try.prog 21 (fun j =>  []) (fun j =>  none) (Try.f45.body.getD .skip) (retQ Try.prog Try.f45 k) (argF [m0, a1, b2]) w = T45 k m0 a1 b2 w := by kernel_rfl
theorem c45 {k : KV} {m0 : Value} {a1 : Value} {b2 : Value} {w : World} (h : T45 k m0 a1 b2 w) : Cl Try.prog 45 [m0, a1, b2] w k :=
  Cl_of_K KD_sound mixed Try.func45 (by kernel_rfl) (by kernel_rfl) ((e45 k m0 a1 b2 w).symm ▸ h)

/-- Function 46: almonry/clog.Set. -/
def T46 (k : KV) (m0 : Value) (p1 : Value) (x2 : Value) (s3 : Value) (w : World) : Prop :=
  New (Value.cells p1) 95 w fun p5_1 w_2 =>
  New #[(Value.int IntKind.i64 0), (Value.int IntKind.i64 0), (Value.int IntKind.i64 0), (Value.int IntKind.i64 0), (Value.string (ByteArray.mk #[])), (Value.slice none 0 0)] 95 w_2 fun t8_3 w_4 =>
  LdN 6 w_4 p5_1 fun t15_5 w_6 =>
  Cl Try.prog 94 [m0, t15_5] w_6 fun t16_7 w_8 =>
  Pu (extV t16_7 0) fun t17_9 =>
  Pu (extV t16_7 1) fun t18_10 =>
  Pu (extV t16_7 2) fun t19_11 =>
  Pu (binV (TypeDesc.int IntKind.i64) .neq t19_11 (Value.int IntKind.i64 0)) fun t21_12 =>
  IfB t21_12
    (RunS Try.prog (Instr.build 95 #[]) w_8 fun t22_13 w_14 =>
      St 6 w_14 t8_3 t22_13 fun u_15 w_16 =>
      RetO (resL Try.prog (fun j => bif Nat.beq j 8 then t8_3 else bif Nat.beq j 9 then t19_11 else undef) w_16 [(ResultVar.cell 8 95), (ResultVar.tmp 9)]) w_16 k)
    (Cl Try.prog 95 [m0, x2] w_8 fun t26_17 w_18 =>
  Pu (unV .not t26_17) fun t27_19 =>
  Gd (isB false t27_19) (fun kk => kk s3 w_18) w_18 fun t29_20 w_21 =>
  Gd (isB false t27_19) (fun kk => Pu (binV (TypeDesc.int IntKind.u8) .gtr t29_20 (Value.int IntKind.u8 3)) fun vv => kk vv w_21) w_21 fun t30_22 w_23 =>
  Pu (pickV t27_19 (Value.bool true) t30_22) fun t31_24 =>
  IfB t31_24
    (RunS Try.prog (Instr.build 95 #[]) w_23 fun t32_25 w_26 =>
      St 6 w_26 t8_3 t32_25 fun u_27 w_28 =>
      RetO (resL Try.prog (fun j => bif Nat.beq j 8 then t8_3 else bif Nat.beq j 9 then (Value.int IntKind.i64 1) else undef) w_28 [(ResultVar.cell 8 95), (ResultVar.tmp 9)]) w_28 k)
    (Cl Try.prog 96 [t18_10, x2, s3] w_23 fun t36_29 w_30 =>
  Pu (faV 0 p5_1) fun t39_31 =>
  Ld w_30 t39_31 fun t40_32 w_33 =>
  Cl Try.prog 97 [t17_9, t18_10, t40_32] w_33 fun t41_34 w_35 =>
  St 6 w_35 t8_3 t41_34 fun u_36 w_37 =>
  RetO (resL Try.prog (fun j => bif Nat.beq j 8 then t8_3 else bif Nat.beq j 9 then (Value.int IntKind.i64 0) else undef) w_37 [(ResultVar.cell 8 95), (ResultVar.tmp 9)]) w_37 k))
theorem e46 (k : KV) (m0 : Value) (p1 : Value) (x2 : Value) (s3 : Value) (w : World) : K KD Try.prog 42 (fun j =>  []) (fun j =>  none) (Try.f46.body.getD .skip) (retQ Try.prog Try.f46 k) (argF [m0, p1, x2, s3]) w = T46 k m0 p1 x2 s3 w := by kernel_rfl
theorem c46 {k : KV} {m0 : Value} {p1 : Value} {x2 : Value} {s3 : Value} {w : World} (h : T46 k m0 p1 x2 s3 w) : Cl Try.prog 46 [m0, p1, x2, s3] w k :=
  Cl_of_K KD_sound mixed Try.func46 (by kernel_rfl) (by kernel_rfl) ((e46 k m0 p1 x2 s3 w).symm ▸ h)

/-- Function 47: almonry/snap.Status. -/
def T47 (k : KV) (v0 : Value) (x1 : Value) (w : World) : Prop :=
  New (Value.cells v0) 97 w fun v2_1 w_2 =>
  Pu (faV 4 v2_1) fun t7_3 =>
  Ld w_2 t7_3 fun t8_4 w_5 =>
  Cl Try.prog 86 [t8_4, x1] w_5 fun t10_6 w_7 =>
  IfB t10_6
    (k (Value.int IntKind.u8 1) w_7)
    (Pu (faV 0 v2_1) fun t12_8 =>
  Ld w_7 t12_8 fun t13_9 w_10 =>
  Pu (faV 5 v2_1) fun t14_11 =>
  LdN 6 w_10 t14_11 fun t15_12 w_13 =>
  Cl Try.prog 98 [t13_9, t15_12, x1] w_13 fun t17_14 w_15 =>
  Pu (extV t17_14 0) fun t18_16 =>
  Pu (extV t17_14 1) fun t19_17 =>
  Pu (binV (TypeDesc.int IntKind.i64) .neq t19_17 (Value.int IntKind.i64 0)) fun t21_18 =>
  IfB t21_18
    (k (Value.int IntKind.u8 0) w_15)
    (k t18_16 w_15))
theorem e47 (k : KV) (v0 : Value) (x1 : Value) (w : World) : K KD Try.prog 23 (fun j =>  []) (fun j =>  none) (Try.f47.body.getD .skip) (retQ Try.prog Try.f47 k) (argF [v0, x1]) w = T47 k v0 x1 w := by kernel_rfl
theorem c47 {k : KV} {v0 : Value} {x1 : Value} {w : World} (h : T47 k v0 x1 w) : Cl Try.prog 47 [v0, x1] w k :=
  Cl_of_K KD_sound mixed Try.func47 (by kernel_rfl) (by kernel_rfl) ((e47 k v0 x1 w).symm ▸ h)

/-- Function 48: almonry/almonryref09.Status. -/
def T48 (k : KV) (v0 : Value) (x1 : Value) (w : World) : Prop :=
  New (Value.cells v0) 97 w fun v2_1 w_2 =>
  Pu (faV 4 v2_1) fun t7_3 =>
  Ld w_2 t7_3 fun t8_4 w_5 =>
  Cl Try.prog 99 [t8_4, x1] w_5 fun t10_6 w_7 =>
  IfB t10_6
    (k (Value.int IntKind.u8 1) w_7)
    (Pu (faV 0 v2_1) fun t12_8 =>
  Ld w_7 t12_8 fun t13_9 w_10 =>
  Pu (faV 5 v2_1) fun t14_11 =>
  LdN 6 w_10 t14_11 fun t15_12 w_13 =>
  Cl Try.prog 100 [t13_9, t15_12, x1] w_13 fun t17_14 w_15 =>
  Pu (extV t17_14 0) fun t18_16 =>
  Pu (extV t17_14 1) fun t19_17 =>
  Pu (binV (TypeDesc.int IntKind.i64) .neq t19_17 (Value.int IntKind.i64 0)) fun t21_18 =>
  IfB t21_18
    (k (Value.int IntKind.u8 0) w_15)
    (k t18_16 w_15))
theorem e48 (k : KV) (v0 : Value) (x1 : Value) (w : World) : K KD Try.prog 23 (fun j =>  []) (fun j =>  none) (Try.f48.body.getD .skip) (retQ Try.prog Try.f48 k) (argF [v0, x1]) w = T48 k v0 x1 w := by kernel_rfl
theorem c48 {k : KV} {v0 : Value} {x1 : Value} {w : World} (h : T48 k v0 x1 w) : Cl Try.prog 48 [v0, x1] w k :=
  Cl_of_K KD_sound mixed Try.func48 (by kernel_rfl) (by kernel_rfl) ((e48 k v0 x1 w).symm ▸ h)

/-- Function 49: almonry/almonryref09.Sees. -/
def T49 (k : KV) (v0 : Value) (x1 : Value) (w : World) : Prop :=
  New (Value.cells v0) 97 w fun v2_1 w_2 =>
  Pu (binV (TypeDesc.int IntKind.i64) .neq x1 (Value.int IntKind.i64 0)) fun t6_3 =>
  Gd (isB true t6_3) (fun kk => kk x1 w_2) w_2 fun t8_4 w_5 =>
  Gd (isB true t6_3) (fun kk => Pu (faV 3 v2_1) fun vv => kk vv w_5) w_5 fun t9_6 w_7 =>
  Gd (isB true t6_3) (fun kk => Ld w_7 t9_6 kk) w_7 fun t10_8 w_9 =>
  Gd (isB true t6_3) (fun kk => Pu (binV (TypeDesc.int IntKind.i64) .eql t8_4 t10_8) fun vv => kk vv w_9) w_9 fun t11_10 w_11 =>
  Pu (pickV t6_3 t11_10 (Value.bool false)) fun t12_12 =>
  IfB t12_12
    (k (Value.bool true) w_11)
    (LdN 11 w_11 v2_1 fun t13_13 w_14 =>
  Cl Try.prog 48 [t13_13, x1] w_14 fun t15_15 w_16 =>
  Pu (binV (TypeDesc.int IntKind.u8) .eql t15_15 (Value.int IntKind.u8 2)) fun t16_17 =>
  Gd (isB true t16_17) (fun kk => Pu (faV 0 v2_1) fun vv => kk vv w_16) w_16 fun t18_18 w_19 =>
  Gd (isB true t16_17) (fun kk => Ld w_19 t18_18 kk) w_19 fun t19_20 w_21 =>
  Gd (isB true t16_17) (fun kk => kk x1 w_21) w_21 fun t20_22 w_23 =>
  Gd (isB true t16_17) (fun kk => Pu (faV 1 v2_1) fun vv => kk vv w_23) w_23 fun t21_24 w_25 =>
  Gd (isB true t16_17) (fun kk => Pu (faV 0 t21_24) fun vv => kk vv w_25) w_25 fun t22_26 w_27 =>
  Gd (isB true t16_17) (fun kk => Ld w_27 t22_26 kk) w_27 fun t23_28 w_29 =>
  Gd (isB true t16_17) (fun kk => Cl Try.prog 45 [t19_20, t20_22, t23_28] w_29 kk) w_29 fun t24_30 w_31 =>
  Pu (pickV t16_17 t24_30 (Value.bool false)) fun t25_32 =>
  Gd (isB true t25_32) (fun kk => Pu (faV 1 v2_1) fun vv => kk vv w_31) w_31 fun t27_33 w_34 =>
  Gd (isB true t25_32) (fun kk => Pu (faV 1 t27_33) fun vv => kk vv w_34) w_34 fun t28_35 w_36 =>
  Gd (isB true t25_32) (fun kk => Ld w_36 t28_35 kk) w_36 fun t29_37 w_38 =>
  Gd (isB true t25_32) (fun kk => kk x1 w_38) w_38 fun t30_39 w_40 =>
  Gd (isB true t25_32) (fun kk => Cl Try.prog 99 [t29_37, t30_39] w_40 kk) w_40 fun t31_41 w_42 =>
  Gd (isB true t25_32) (fun kk => Pu (unV .not t31_41) fun vv => kk vv w_42) w_42 fun t32_43 w_44 =>
  Pu (pickV t25_32 t32_43 (Value.bool false)) fun t33_45 =>
  k t33_45 w_44)
theorem e49 (k : KV) (v0 : Value) (x1 : Value) (w : World) : K KD Try.prog 34 (fun j =>  []) (fun j =>  none) (Try.f49.body.getD .skip) (retQ Try.prog Try.f49 k) (argF [v0, x1]) w = T49 k v0 x1 w := by kernel_rfl
theorem c49 {k : KV} {v0 : Value} {x1 : Value} {w : World} (h : T49 k v0 x1 w) : Cl Try.prog 49 [v0, x1] w k :=
  Cl_of_K KD_sound mixed Try.func49 (by kernel_rfl) (by kernel_rfl) ((e49 k v0 x1 w).symm ▸ h)

/-- Function 50: almonry/almonryref09.Visible. -/
def T50 (k : KV) (v0 : Value) (t1 : Value) (w : World) : Prop :=
  New (Value.cells v0) 97 w fun v2_1 w_2 =>
  New (Value.cells t1) 99 w_2 fun t3_3 w_4 =>
  Pu (faV 2 t3_3) fun t5_5 =>
  Ld w_4 t5_5 fun t6_6 w_7 =>
  Gd (isB false t6_6) (fun kk => LdN 11 w_7 v2_1 kk) w_7 fun t8_8 w_9 =>
  Gd (isB false t6_6) (fun kk => Pu (faV 0 t3_3) fun vv => kk vv w_9) w_9 fun t9_10 w_11 =>
  Gd (isB false t6_6) (fun kk => Ld w_11 t9_10 kk) w_11 fun t10_12 w_13 =>
  Gd (isB false t6_6) (fun kk => Cl Try.prog 49 [t8_8, t10_12] w_13 kk) w_13 fun t11_14 w_15 =>
  Pu (pickV t6_6 (Value.bool true) t11_14) fun t12_16 =>
  Gd (isB true t12_16) (fun kk => Pu (faV 1 t3_3) fun vv => kk vv w_15) w_15 fun t14_17 w_18 =>
  Gd (isB true t12_16) (fun kk => Ld w_18 t14_17 kk) w_18 fun t15_19 w_20 =>
  Gd (isB true t12_16) (fun kk => Pu (binV (TypeDesc.int IntKind.i64) .eql t15_19 (Value.int IntKind.i64 0)) fun vv => kk vv w_20) w_20 fun t16_21 w_22 =>
  Gd (isB true t12_16) (fun kk => kk t16_21 w_22) w_22 fun t17_23 w_24 =>
  Gd (isB false t17_23) (fun kk => LdN 11 w_24 v2_1 kk) w_24 fun t18_25 w_26 =>
  Gd (isB false t17_23) (fun kk => Pu (faV 1 t3_3) fun vv => kk vv w_26) w_26 fun t19_27 w_28 =>
  Gd (isB false t17_23) (fun kk => Ld w_28 t19_27 kk) w_28 fun t20_29 w_30 =>
  Gd (isB false t17_23) (fun kk => Cl Try.prog 49 [t18_25, t20_29] w_30 kk) w_30 fun t21_31 w_32 =>
  Gd (isB false t17_23) (fun kk => Pu (unV .not t21_31) fun vv => kk vv w_32) w_32 fun t22_33 w_34 =>
  Gd (isB true t12_16) (fun kk => Pu (pickV t17_23 (Value.bool true) t22_33) fun vv => kk vv w_34) w_34 fun t23_35 w_36 =>
  Pu (pickV t12_16 t23_35 (Value.bool false)) fun t24_37 =>
  k t24_37 w_36
theorem e50 (k : KV) (v0 : Value) (t1 : Value) (w : World) : K KD Try.prog 25 (fun j =>  []) (fun j =>  none) (Try.f50.body.getD .skip) (retQ Try.prog Try.f50 k) (argF [v0, t1]) w = T50 k v0 t1 w := by kernel_rfl
theorem c50 {k : KV} {v0 : Value} {t1 : Value} {w : World} (h : T50 k v0 t1 w) : Cl Try.prog 50 [v0, t1] w k :=
  Cl_of_K KD_sound mixed Try.func50 (by kernel_rfl) (by kernel_rfl) ((e50 k v0 t1 w).symm ▸ h)

/-- Function 51: almonry/almonryref09.Newer. -/
def T51 (k : KV) (v0 : Value) (t1 : Value) (w : World) : Prop :=
  New (Value.cells v0) 97 w fun v2_1 w_2 =>
  New (Value.cells t1) 99 w_2 fun t3_3 w_4 =>
  Pu (faV 2 t3_3) fun t5_5 =>
  Ld w_4 t5_5 fun t6_6 w_7 =>
  Pu (unV .not t6_6) fun t7_8 =>
  Gd (isB true t7_8) (fun kk => LdN 11 w_7 v2_1 kk) w_7 fun t9_9 w_10 =>
  Gd (isB true t7_8) (fun kk => Pu (faV 0 t3_3) fun vv => kk vv w_10) w_10 fun t10_11 w_12 =>
  Gd (isB true t7_8) (fun kk => Ld w_12 t10_11 kk) w_12 fun t11_13 w_14 =>
  Gd (isB true t7_8) (fun kk => Cl Try.prog 101 [t9_9, t11_13] w_14 kk) w_14 fun t12_15 w_16 =>
  Pu (pickV t7_8 t12_15 (Value.bool false)) fun t13_17 =>
  Gd (isB false t13_17) (fun kk => Pu (faV 1 t3_3) fun vv => kk vv w_16) w_16 fun t15_18 w_19 =>
  Gd (isB false t13_17) (fun kk => Ld w_19 t15_18 kk) w_19 fun t16_20 w_21 =>
  Gd (isB false t13_17) (fun kk => Pu (binV (TypeDesc.int IntKind.i64) .neq t16_20 (Value.int IntKind.i64 0)) fun vv => kk vv w_21) w_21 fun t17_22 w_23 =>
  Gd (isB false t13_17) (fun kk => kk t17_22 w_23) w_23 fun t18_24 w_25 =>
  Gd (isB true t18_24) (fun kk => LdN 11 w_25 v2_1 kk) w_25 fun t19_26 w_27 =>
  Gd (isB true t18_24) (fun kk => Pu (faV 1 t3_3) fun vv => kk vv w_27) w_27 fun t20_28 w_29 =>
  Gd (isB true t18_24) (fun kk => Ld w_29 t20_28 kk) w_29 fun t21_30 w_31 =>
  Gd (isB true t18_24) (fun kk => Cl Try.prog 101 [t19_26, t21_30] w_31 kk) w_31 fun t22_32 w_33 =>
  Gd (isB false t13_17) (fun kk => Pu (pickV t18_24 t22_32 (Value.bool false)) fun vv => kk vv w_33) w_33 fun t23_34 w_35 =>
  Pu (pickV t13_17 (Value.bool true) t23_34) fun t24_36 =>
  k t24_36 w_35
theorem e51 (k : KV) (v0 : Value) (t1 : Value) (w : World) : K KD Try.prog 25 (fun j =>  []) (fun j =>  none) (Try.f51.body.getD .skip) (retQ Try.prog Try.f51 k) (argF [v0, t1]) w = T51 k v0 t1 w := by kernel_rfl
theorem c51 {k : KV} {v0 : Value} {t1 : Value} {w : World} (h : T51 k v0 t1 w) : Cl Try.prog 51 [v0, t1] w k :=
  Cl_of_K KD_sound mixed Try.func51 (by kernel_rfl) (by kernel_rfl) ((e51 k v0 t1 w).symm ▸ h)

/-- Function 52: almonry/snap.Gone. -/
def T52 (k : KV) (v0 : Value) (t1 : Value) (horizon2 : Value) (w : World) : Prop :=
  New (Value.cells v0) 97 w fun v3_1 w_2 =>
  New (Value.cells t1) 99 w_2 fun t4_3 w_4 =>
  Pu (faV 2 t4_3) fun t7_5 =>
  Ld w_4 t7_5 fun t8_6 w_7 =>
  Pu (unV .not t8_6) fun t9_8 =>
  Gd (isB true t9_8) (fun kk => LdN 11 w_7 v3_1 kk) w_7 fun t11_9 w_10 =>
  Gd (isB true t9_8) (fun kk => Pu (faV 0 t4_3) fun vv => kk vv w_10) w_10 fun t12_11 w_12 =>
  Gd (isB true t9_8) (fun kk => Ld w_12 t12_11 kk) w_12 fun t13_13 w_14 =>
  Gd (isB true t9_8) (fun kk => Cl Try.prog 47 [t11_9, t13_13] w_14 kk) w_14 fun t14_15 w_16 =>
  Gd (isB true t9_8) (fun kk => Pu (binV (TypeDesc.int IntKind.u8) .eql t14_15 (Value.int IntKind.u8 3)) fun vv => kk vv w_16) w_16 fun t15_17 w_18 =>
  Pu (pickV t9_8 t15_17 (Value.bool false)) fun t16_19 =>
  IfB t16_19
    (k (Value.bool true) w_18)
    (Pu (faV 1 t4_3) fun t17_20 =>
  Ld w_18 t17_20 fun t18_21 w_22 =>
  Pu (binV (TypeDesc.int IntKind.i64) .neq t18_21 (Value.int IntKind.i64 0)) fun t19_23 =>
  Gd (isB true t19_23) (fun kk => Pu (faV 0 v3_1) fun vv => kk vv w_22) w_22 fun t21_24 w_25 =>
  Gd (isB true t19_23) (fun kk => Ld w_25 t21_24 kk) w_25 fun t22_26 w_27 =>
  Gd (isB true t19_23) (fun kk => Pu (faV 1 t4_3) fun vv => kk vv w_27) w_27 fun t23_28 w_29 =>
  Gd (isB true t19_23) (fun kk => Ld w_29 t23_28 kk) w_29 fun t24_30 w_31 =>
  Gd (isB true t19_23) (fun kk => kk horizon2 w_31) w_31 fun t25_32 w_33 =>
  Gd (isB true t19_23) (fun kk => Cl Try.prog 77 [t22_26, t24_30, t25_32] w_33 kk) w_33 fun t26_34 w_35 =>
  Pu (pickV t19_23 t26_34 (Value.bool false)) fun t27_36 =>
  Gd (isB true t27_36) (fun kk => LdN 11 w_35 v3_1 kk) w_35 fun t29_37 w_38 =>
  Gd (isB true t27_36) (fun kk => Pu (faV 1 t4_3) fun vv => kk vv w_38) w_38 fun t30_39 w_40 =>
  Gd (isB true t27_36) (fun kk => Ld w_40 t30_39 kk) w_40 fun t31_41 w_42 =>
  Gd (isB true t27_36) (fun kk => Cl Try.prog 47 [t29_37, t31_41] w_42 kk) w_42 fun t32_43 w_44 =>
  Gd (isB true t27_36) (fun kk => Pu (binV (TypeDesc.int IntKind.u8) .eql t32_43 (Value.int IntKind.u8 2)) fun vv => kk vv w_44) w_44 fun t33_45 w_46 =>
  Pu (pickV t27_36 t33_45 (Value.bool false)) fun t34_47 =>
  k t34_47 w_46)
theorem e52 (k : KV) (v0 : Value) (t1 : Value) (horizon2 : Value) (w : World) : K KD Try.prog 35 (fun j =>  []) (fun j =>  none) (Try.f52.body.getD .skip) (retQ Try.prog Try.f52 k) (argF [v0, t1, horizon2]) w = T52 k v0 t1 horizon2 w := by kernel_rfl
theorem c52 {k : KV} {v0 : Value} {t1 : Value} {horizon2 : Value} {w : World} (h : T52 k v0 t1 horizon2 w) : Cl Try.prog 52 [v0, t1, horizon2] w k :=
  Cl_of_K KD_sound mixed Try.func52 (by kernel_rfl) (by kernel_rfl) ((e52 k v0 t1 horizon2 w).symm ▸ h)

/-- Function 53: almonry/almonryref09.Gone. -/
def T53 (k : KV) (v0 : Value) (t1 : Value) (horizon2 : Value) (w : World) : Prop :=
  New (Value.cells v0) 97 w fun v3_1 w_2 =>
  New (Value.cells t1) 99 w_2 fun t4_3 w_4 =>
  Pu (faV 2 t4_3) fun t7_5 =>
  Ld w_4 t7_5 fun t8_6 w_7 =>
  Pu (unV .not t8_6) fun t9_8 =>
  Gd (isB true t9_8) (fun kk => LdN 11 w_7 v3_1 kk) w_7 fun t11_9 w_10 =>
  Gd (isB true t9_8) (fun kk => Pu (faV 0 t4_3) fun vv => kk vv w_10) w_10 fun t12_11 w_12 =>
  Gd (isB true t9_8) (fun kk => Ld w_12 t12_11 kk) w_12 fun t13_13 w_14 =>
  Gd (isB true t9_8) (fun kk => Cl Try.prog 48 [t11_9, t13_13] w_14 kk) w_14 fun t14_15 w_16 =>
  Gd (isB true t9_8) (fun kk => Pu (binV (TypeDesc.int IntKind.u8) .eql t14_15 (Value.int IntKind.u8 3)) fun vv => kk vv w_16) w_16 fun t15_17 w_18 =>
  Pu (pickV t9_8 t15_17 (Value.bool false)) fun t16_19 =>
  IfB t16_19
    (k (Value.bool true) w_18)
    (Pu (faV 1 t4_3) fun t17_20 =>
  Ld w_18 t17_20 fun t18_21 w_22 =>
  Pu (binV (TypeDesc.int IntKind.i64) .neq t18_21 (Value.int IntKind.i64 0)) fun t19_23 =>
  Gd (isB true t19_23) (fun kk => LdN 11 w_22 v3_1 kk) w_22 fun t21_24 w_25 =>
  Gd (isB true t19_23) (fun kk => Pu (faV 1 t4_3) fun vv => kk vv w_25) w_25 fun t22_26 w_27 =>
  Gd (isB true t19_23) (fun kk => Ld w_27 t22_26 kk) w_27 fun t23_28 w_29 =>
  Gd (isB true t19_23) (fun kk => Cl Try.prog 48 [t21_24, t23_28] w_29 kk) w_29 fun t24_30 w_31 =>
  Gd (isB true t19_23) (fun kk => Pu (binV (TypeDesc.int IntKind.u8) .eql t24_30 (Value.int IntKind.u8 2)) fun vv => kk vv w_31) w_31 fun t25_32 w_33 =>
  Pu (pickV t19_23 t25_32 (Value.bool false)) fun t26_34 =>
  Gd (isB true t26_34) (fun kk => Pu (faV 0 v3_1) fun vv => kk vv w_33) w_33 fun t28_35 w_36 =>
  Gd (isB true t26_34) (fun kk => Ld w_36 t28_35 kk) w_36 fun t29_37 w_38 =>
  Gd (isB true t26_34) (fun kk => Pu (faV 1 t4_3) fun vv => kk vv w_38) w_38 fun t30_39 w_40 =>
  Gd (isB true t26_34) (fun kk => Ld w_40 t30_39 kk) w_40 fun t31_41 w_42 =>
  Gd (isB true t26_34) (fun kk => kk horizon2 w_42) w_42 fun t32_43 w_44 =>
  Gd (isB true t26_34) (fun kk => Cl Try.prog 45 [t29_37, t31_41, t32_43] w_44 kk) w_44 fun t33_45 w_46 =>
  Pu (pickV t26_34 t33_45 (Value.bool false)) fun t34_47 =>
  k t34_47 w_46)
theorem e53 (k : KV) (v0 : Value) (t1 : Value) (horizon2 : Value) (w : World) : K KD Try.prog 35 (fun j =>  []) (fun j =>  none) (Try.f53.body.getD .skip) (retQ Try.prog Try.f53 k) (argF [v0, t1, horizon2]) w = T53 k v0 t1 horizon2 w := by kernel_rfl
theorem c53 {k : KV} {v0 : Value} {t1 : Value} {horizon2 : Value} {w : World} (h : T53 k v0 t1 horizon2 w) : Cl Try.prog 53 [v0, t1, horizon2] w k :=
  Cl_of_K KD_sound mixed Try.func53 (by kernel_rfl) (by kernel_rfl) ((e53 k v0 t1 horizon2 w).symm ▸ h)

/-- Function 54: almonry/snap.Old. -/
def T54 (k : KV) (v0 : Value) (t1 : Value) (horizon2 : Value) (w : World) : Prop :=
  New (Value.cells v0) 97 w fun v3_1 w_2 =>
  New (Value.cells t1) 99 w_2 fun t4_3 w_4 =>
  Pu (faV 2 t4_3) fun t7_5 =>
  Ld w_4 t7_5 fun t8_6 w_7 =>
  Pu (unV .not t8_6) fun t9_8 =>
  Gd (isB true t9_8) (fun kk => Pu (faV 0 v3_1) fun vv => kk vv w_7) w_7 fun t11_9 w_10 =>
  Gd (isB true t9_8) (fun kk => Ld w_10 t11_9 kk) w_10 fun t12_11 w_12 =>
  Gd (isB true t9_8) (fun kk => Pu (faV 0 t4_3) fun vv => kk vv w_12) w_12 fun t13_13 w_14 =>
  Gd (isB true t9_8) (fun kk => Ld w_14 t13_13 kk) w_14 fun t14_15 w_16 =>
  Gd (isB true t9_8) (fun kk => kk horizon2 w_16) w_16 fun t15_17 w_18 =>
  Gd (isB true t9_8) (fun kk => Cl Try.prog 77 [t12_11, t14_15, t15_17] w_18 kk) w_18 fun t16_19 w_20 =>
  Pu (pickV t9_8 t16_19 (Value.bool false)) fun t17_21 =>
  Gd (isB true t17_21) (fun kk => LdN 11 w_20 v3_1 kk) w_20 fun t19_22 w_23 =>
  Gd (isB true t17_21) (fun kk => Pu (faV 0 t4_3) fun vv => kk vv w_23) w_23 fun t20_24 w_25 =>
  Gd (isB true t17_21) (fun kk => Ld w_25 t20_24 kk) w_25 fun t21_26 w_27 =>
  Gd (isB true t17_21) (fun kk => Cl Try.prog 47 [t19_22, t21_26] w_27 kk) w_27 fun t22_28 w_29 =>
  Gd (isB true t17_21) (fun kk => Pu (binV (TypeDesc.int IntKind.u8) .eql t22_28 (Value.int IntKind.u8 2)) fun vv => kk vv w_29) w_29 fun t23_30 w_31 =>
  Pu (pickV t17_21 t23_30 (Value.bool false)) fun t24_32 =>
  k t24_32 w_31
theorem e54 (k : KV) (v0 : Value) (t1 : Value) (horizon2 : Value) (w : World) : K KD Try.prog 25 (fun j =>  []) (fun j =>  none) (Try.f54.body.getD .skip) (retQ Try.prog Try.f54 k) (argF [v0, t1, horizon2]) w = T54 k v0 t1 horizon2 w := by kernel_rfl
theorem c54 {k : KV} {v0 : Value} {t1 : Value} {horizon2 : Value} {w : World} (h : T54 k v0 t1 horizon2 w) : Cl Try.prog 54 [v0, t1, horizon2] w k :=
  Cl_of_K KD_sound mixed Try.func54 (by kernel_rfl) (by kernel_rfl) ((e54 k v0 t1 horizon2 w).symm ▸ h)

/-- Function 55: almonry/almonryref09.Old. -/
def T55 (k : KV) (v0 : Value) (t1 : Value) (horizon2 : Value) (w : World) : Prop :=
  New (Value.cells v0) 97 w fun v3_1 w_2 =>
  New (Value.cells t1) 99 w_2 fun t4_3 w_4 =>
  Pu (faV 2 t4_3) fun t7_5 =>
  Ld w_4 t7_5 fun t8_6 w_7 =>
  Pu (unV .not t8_6) fun t9_8 =>
  Gd (isB true t9_8) (fun kk => LdN 11 w_7 v3_1 kk) w_7 fun t11_9 w_10 =>
  Gd (isB true t9_8) (fun kk => Pu (faV 0 t4_3) fun vv => kk vv w_10) w_10 fun t12_11 w_12 =>
  Gd (isB true t9_8) (fun kk => Ld w_12 t12_11 kk) w_12 fun t13_13 w_14 =>
  Gd (isB true t9_8) (fun kk => Cl Try.prog 48 [t11_9, t13_13] w_14 kk) w_14 fun t14_15 w_16 =>
  Gd (isB true t9_8) (fun kk => Pu (binV (TypeDesc.int IntKind.u8) .eql t14_15 (Value.int IntKind.u8 2)) fun vv => kk vv w_16) w_16 fun t15_17 w_18 =>
  Pu (pickV t9_8 t15_17 (Value.bool false)) fun t16_19 =>
  Gd (isB true t16_19) (fun kk => Pu (faV 0 v3_1) fun vv => kk vv w_18) w_18 fun t18_20 w_21 =>
  Gd (isB true t16_19) (fun kk => Ld w_21 t18_20 kk) w_21 fun t19_22 w_23 =>
  Gd (isB true t16_19) (fun kk => Pu (faV 0 t4_3) fun vv => kk vv w_23) w_23 fun t20_24 w_25 =>
  Gd (isB true t16_19) (fun kk => Ld w_25 t20_24 kk) w_25 fun t21_26 w_27 =>
  Gd (isB true t16_19) (fun kk => kk horizon2 w_27) w_27 fun t22_28 w_29 =>
  Gd (isB true t16_19) (fun kk => Cl Try.prog 45 [t19_22, t21_26, t22_28] w_29 kk) w_29 fun t23_30 w_31 =>
  Pu (pickV t16_19 t23_30 (Value.bool false)) fun t24_32 =>
  k t24_32 w_31
theorem e55 (k : KV) (v0 : Value) (t1 : Value) (horizon2 : Value) (w : World) : K KD Try.prog 25 (fun j =>  []) (fun j =>  none) (Try.f55.body.getD .skip) (retQ Try.prog Try.f55 k) (argF [v0, t1, horizon2]) w = T55 k v0 t1 horizon2 w := by kernel_rfl
theorem c55 {k : KV} {v0 : Value} {t1 : Value} {horizon2 : Value} {w : World} (h : T55 k v0 t1 horizon2 w) : Cl Try.prog 55 [v0, t1, horizon2] w k :=
  Cl_of_K KD_sound mixed Try.func55 (by kernel_rfl) (by kernel_rfl) ((e55 k v0 t1 horizon2 w).symm ▸ h)

/-- Function 56: almonry/snap.Off. -/
def T56 (k : KV) (v0 : Value) (t1 : Value) (w : World) : Prop :=
  New (Value.cells v0) 97 w fun v2_1 w_2 =>
  New (Value.cells t1) 99 w_2 fun t3_3 w_4 =>
  Pu (faV 1 t3_3) fun t5_5 =>
  Ld w_4 t5_5 fun t6_6 w_7 =>
  Pu (binV (TypeDesc.int IntKind.i64) .neq t6_6 (Value.int IntKind.i64 0)) fun t7_8 =>
  Gd (isB true t7_8) (fun kk => LdN 11 w_7 v2_1 kk) w_7 fun t9_9 w_10 =>
  Gd (isB true t7_8) (fun kk => Pu (faV 1 t3_3) fun vv => kk vv w_10) w_10 fun t10_11 w_12 =>
  Gd (isB true t7_8) (fun kk => Ld w_12 t10_11 kk) w_12 fun t11_13 w_14 =>
  Gd (isB true t7_8) (fun kk => Cl Try.prog 47 [t9_9, t11_13] w_14 kk) w_14 fun t12_15 w_16 =>
  Gd (isB true t7_8) (fun kk => Pu (binV (TypeDesc.int IntKind.u8) .eql t12_15 (Value.int IntKind.u8 3)) fun vv => kk vv w_16) w_16 fun t13_17 w_18 =>
  Pu (pickV t7_8 t13_17 (Value.bool false)) fun t14_19 =>
  k t14_19 w_18
theorem e56 (k : KV) (v0 : Value) (t1 : Value) (w : World) : K KD Try.prog 15 (fun j =>  []) (fun j =>  none) (Try.f56.body.getD .skip) (retQ Try.prog Try.f56 k) (argF [v0, t1]) w = T56 k v0 t1 w := by kernel_rfl
theorem c56 {k : KV} {v0 : Value} {t1 : Value} {w : World} (h : T56 k v0 t1 w) : Cl Try.prog 56 [v0, t1] w k :=
  Cl_of_K KD_sound mixed Try.func56 (by kernel_rfl) (by kernel_rfl) ((e56 k v0 t1 w).symm ▸ h)

/-- Function 57: almonry/almonryref09.Off. -/
def T57 (k : KV) (v0 : Value) (t1 : Value) (w : World) : Prop :=
  New (Value.cells v0) 97 w fun v2_1 w_2 =>
  New (Value.cells t1) 99 w_2 fun t3_3 w_4 =>
  Pu (faV 1 t3_3) fun t5_5 =>
  Ld w_4 t5_5 fun t6_6 w_7 =>
  Pu (binV (TypeDesc.int IntKind.i64) .neq t6_6 (Value.int IntKind.i64 0)) fun t7_8 =>
  Gd (isB true t7_8) (fun kk => LdN 11 w_7 v2_1 kk) w_7 fun t9_9 w_10 =>
  Gd (isB true t7_8) (fun kk => Pu (faV 1 t3_3) fun vv => kk vv w_10) w_10 fun t10_11 w_12 =>
  Gd (isB true t7_8) (fun kk => Ld w_12 t10_11 kk) w_12 fun t11_13 w_14 =>
  Gd (isB true t7_8) (fun kk => Cl Try.prog 48 [t9_9, t11_13] w_14 kk) w_14 fun t12_15 w_16 =>
  Gd (isB true t7_8) (fun kk => Pu (binV (TypeDesc.int IntKind.u8) .eql t12_15 (Value.int IntKind.u8 3)) fun vv => kk vv w_16) w_16 fun t13_17 w_18 =>
  Pu (pickV t7_8 t13_17 (Value.bool false)) fun t14_19 =>
  k t14_19 w_18
theorem e57 (k : KV) (v0 : Value) (t1 : Value) (w : World) : K KD Try.prog 15 (fun j =>  []) (fun j =>  none) (Try.f57.body.getD .skip) (retQ Try.prog Try.f57 k) (argF [v0, t1]) w = T57 k v0 t1 w := by kernel_rfl
theorem c57 {k : KV} {v0 : Value} {t1 : Value} {w : World} (h : T57 k v0 t1 w) : Cl Try.prog 57 [v0, t1] w k :=
  Cl_of_K KD_sound mixed Try.func57 (by kernel_rfl) (by kernel_rfl) ((e57 k v0 t1 w).symm ▸ h)

/-- Function 77: almonry/xid.Before. -/
def T77 (k : KV) (m0 : Value) (a1 : Value) (b2 : Value) (w : World) : Prop :=
  Cl Try.prog 107 [m0, a1, b2] w fun t11_1 w_2 =>
  Pu (binV (TypeDesc.int IntKind.i64) .gtr t11_1 (Value.int IntKind.i64 0)) fun t13_3 =>
  Gd (isB true t13_3) (fun kk => kk t11_1 w_2) w_2 fun t15_4 w_5 =>
  Gd (isB true t13_3) (fun kk => kk m0 w_5) w_5 fun t16_6 w_7 =>
  Gd (isB true t13_3) (fun kk => Pu (binV (TypeDesc.int IntKind.i64) .quo t16_6 (Value.int IntKind.i64 2)) fun vv => kk vv w_7) w_7 fun t17_8 w_9 =>
  Gd (isB true t13_3) (fun kk => Pu (binV (TypeDesc.int IntKind.i64) .lss t15_4 t17_8) fun vv => kk vv w_9) w_9 fun t18_10 w_11 =>
  Pu (pickV t13_3 t18_10 (Value.bool false)) fun t19_12 =>
  k t19_12 w_11
theorem e77 (k : KV) (m0 : Value) (a1 : Value) (b2 : Value) (w : World) : K KD Try.prog 20 (fun j =>  []) (fun j =>  none) (Try.f77.body.getD .skip) (retQ Try.prog Try.f77 k) (argF [m0, a1, b2]) w = T77 k m0 a1 b2 w := by kernel_rfl
theorem c77 {k : KV} {m0 : Value} {a1 : Value} {b2 : Value} {w : World} (h : T77 k m0 a1 b2 w) : Cl Try.prog 77 [m0, a1, b2] w k :=
  Cl_of_K KD_sound mixed Try.func77 (by kernel_rfl) (by kernel_rfl) ((e77 k m0 a1 b2 w).symm ▸ h)

/-- Function 78: almonry/xid.Add. -/
def T78 (k : KV) (m0 : Value) (x1 : Value) (n2 : Value) (w : World) : Prop :=
  RunS Try.prog (Instr.buildSlice 34 1 #[(0, x1)]) w fun t9_1 w_2 =>
  Cl Try.prog 108 [m0, t9_1] w_2 fun t10_3 w_4 =>
  Pu (unV .not t10_3) fun t11_5 =>
  IfB t11_5
    (k (Value.int IntKind.i64 0) w_4)
    (Pu (binV (TypeDesc.int IntKind.i64) .sub x1 (Value.int IntKind.i64 1)) fun t14_6 =>
  Cl Try.prog 109 [m0, n2] w_4 fun t17_7 w_8 =>
  Pu (binV (TypeDesc.int IntKind.i64) .add t14_6 t17_7) fun t18_9 =>
  Cl Try.prog 109 [m0, t18_9] w_8 fun t19_10 w_11 =>
  Pu (binV (TypeDesc.int IntKind.i64) .add t19_10 (Value.int IntKind.i64 1)) fun t20_12 =>
  k t20_12 w_11)
theorem e78 (k : KV) (m0 : Value) (x1 : Value) (n2 : Value) (w : World) : K KD Try.prog 21 (fun j =>  []) (fun j =>  none) (Try.f78.body.getD .skip) (retQ Try.prog Try.f78 k) (argF [m0, x1, n2]) w = T78 k m0 x1 n2 w := by kernel_rfl
theorem c78 {k : KV} {m0 : Value} {x1 : Value} {n2 : Value} {w : World} (h : T78 k m0 x1 n2 w) : Cl Try.prog 78 [m0, x1, n2] w k :=
  Cl_of_K KD_sound mixed Try.func78 (by kernel_rfl) (by kernel_rfl) ((e78 k m0 x1 n2 w).symm ▸ h)

/-- Function 81: slices.Clone[[]almonry/api.Begun,almonry/api.Begun]. -/
def T81 (k : KV) (s0 : Value) (w : World) : Prop :=
  Pu (binV (TypeDesc.slice 77) .eql s0 (Value.slice none 0 0)) fun t4_1 =>
  IfB t4_1
    (k (Value.slice none 0 0) w)
    (RunS Try.prog (Instr.buildSlice 67 0 #[]) w fun t5_2 w_3 =>
  RunS Try.prog (Builtin.append_ #[67, 67] 67 #[t5_2, s0]) w_3 fun t7_4 w_5 =>
  k t7_4 w_5)
theorem e81 (k : KV) (s0 : Value) (w : World) : K KD Try.prog 8 (fun j =>  []) (fun j =>  none) (Try.f81.body.getD .skip) (retQ Try.prog Try.f81 k) (argF [s0]) w = T81 k s0 w := by kernel_rfl
theorem c81 {k : KV} {s0 : Value} {w : World} (h : T81 k s0 w) : Cl Try.prog 81 [s0] w k :=
  Cl_of_K KD_sound mixed Try.func81 (by kernel_rfl) (by kernel_rfl) ((e81 k s0 w).symm ▸ h)

/-- Function 82: slices.IndexFunc[[]almonry/api.Begun,almonry/api.Begun]. -/
def T82 (k : KV) (s0 : Value) (f1 : Value) (w : World) : Prop :=
  Pu (lenV s0) fun t7_1 =>
  ∃ (I_2 : List Value → World → Prop) (m_3 : List Value → World → Nat), I_2 [(Value.int IntKind.i64 0)] w ∧
  ∀ (g_19 : Fr) (w_18 : World), ∀ t8_7 : Value, I_2 [t8_7] w_18 →
    (Pu (binV (TypeDesc.int IntKind.i64) .lss t8_7 t7_1) fun t9_20 =>
    IfB t9_20
      (Pu (ixV 2 s0 t8_7) fun t14_21 =>
    LdN 2 w_18 t14_21 fun t15_22 w_23 =>
    ClV Try.prog f1 [t15_22] w_23 fun t16_24 w_25 =>
    IfB t16_24
      (k t8_7 w_25)
      (Pu (binV (TypeDesc.int IntKind.i64) .add t8_7 (Value.int IntKind.i64 1)) fun t18_26 =>
    I_2 [t18_26] w_25 ∧ m_3 [t18_26] w_25 < m_3 [t8_7] w_18))
      (k (Value.int IntKind.i64 (-1)) w_18))
theorem e82 (k : KV) (s0 : Value) (f1 : Value) (w : World) : K KD Try.prog 19 (fun j => bif Nat.beq j 2 then [8] else []) (fun j =>  none) (Try.f82.body.getD .skip) (retQ Try.prog Try.f82 k) (argF [s0, f1]) w = T82 k s0 f1 w := by kernel_rfl
theorem c82 {k : KV} {s0 : Value} {f1 : Value} {w : World} (h : T82 k s0 f1 w) : Cl Try.prog 82 [s0, f1] w k :=
  Cl_of_K KD_sound mixed Try.func82 (by kernel_rfl) (by kernel_rfl) ((e82 k s0 f1 w).symm ▸ h)

/-- Function 84: almonry/clog.Blank. -/
def T84 (k : KV) (m0 : Value) (frozen1 : Value) (w : World) : Prop :=
  New #[(Value.int IntKind.i64 0), (Value.int IntKind.i64 0), (Value.int IntKind.i64 0), (Value.int IntKind.i64 0), (Value.string (ByteArray.mk #[])), (Value.slice none 0 0)] 95 w fun t4_1 w_2 =>
  Cl Try.prog 111 [m0] w_2 fun t7_3 w_4 =>
  Pu (unV .not t7_3) fun t8_5 =>
  Gd (isB false t8_5) (fun kk => kk m0 w_4) w_4 fun t10_6 w_7 =>
  Gd (isB false t8_5) (fun kk => kk frozen1 w_7) w_7 fun t11_8 w_9 =>
  Gd (isB false t8_5) (fun kk => Cl Try.prog 95 [t10_6, t11_8] w_9 kk) w_9 fun t12_10 w_11 =>
  Gd (isB false t8_5) (fun kk => Pu (unV .not t12_10) fun vv => kk vv w_11) w_11 fun t13_12 w_13 =>
  Pu (pickV t8_5 (Value.bool true) t13_12) fun t14_14 =>
  IfB t14_14
    (RunS Try.prog (Instr.build 95 #[]) w_13 fun t15_15 w_16 =>
      St 6 w_16 t4_1 t15_15 fun u_17 w_18 =>
      RetO (resL Try.prog (fun j => bif Nat.beq j 4 then t4_1 else bif Nat.beq j 5 then (Value.int IntKind.i64 1) else undef) w_18 [(ResultVar.cell 4 95), (ResultVar.tmp 5)]) w_18 k)
    (Cl Try.prog 112 [m0] w_13 fun t18_19 w_20 =>
  RunS Try.prog (Instr.makeSlice 44 t18_19 t18_19) w_20 fun t19_21 w_22 =>
  Cl Try.prog 97 [frozen1, t19_21, (Value.int IntKind.i64 0)] w_22 fun t20_23 w_24 =>
  St 6 w_24 t4_1 t20_23 fun u_25 w_26 =>
  RetO (resL Try.prog (fun j => bif Nat.beq j 4 then t4_1 else bif Nat.beq j 5 then (Value.int IntKind.i64 0) else undef) w_26 [(ResultVar.cell 4 95), (ResultVar.tmp 5)]) w_26 k)
theorem e84 (k : KV) (m0 : Value) (frozen1 : Value) (w : World) : K KD Try.prog 21 (fun j =>  []) (fun j =>  none) (Try.f84.body.getD .skip) (retQ Try.prog Try.f84 k) (argF [m0, frozen1]) w = T84 k m0 frozen1 w := by kernel_rfl
theorem c84 {k : KV} {m0 : Value} {frozen1 : Value} {w : World} (h : T84 k m0 frozen1 w) : Cl Try.prog 84 [m0, frozen1] w k :=
  Cl_of_K KD_sound mixed Try.func84 (by kernel_rfl) (by kernel_rfl) ((e84 k m0 frozen1 w).symm ▸ h)

/-- Function 85: almonry/snap.Take. -/
def T85 (k : KV) (next0 : Value) (running1 : Value) (w : World) : Prop :=
  New #[(Value.int IntKind.i64 0), (Value.slice none 0 0)] 93 w fun t4_1 w_2 =>
  Cl Try.prog 113 [running1] w_2 fun t7_3 w_4 =>
  Cl Try.prog 105 [t7_3] w_4 fun t9_5 w_6 =>
  Cl Try.prog 114 [t7_3] w_6 fun t12_7 w_8 =>
  RunS Try.prog (Instr.build 93 #[(0, next0), (1, t12_7)]) w_8 fun t13_9 w_10 =>
  St 2 w_10 t4_1 t13_9 fun u_11 w_12 =>
  RetO (resL Try.prog (fun j => bif Nat.beq j 4 then t4_1 else undef) w_12 [(ResultVar.cell 4 93)]) w_12 k
theorem e85 (k : KV) (next0 : Value) (running1 : Value) (w : World) : K KD Try.prog 14 (fun j =>  []) (fun j =>  none) (Try.f85.body.getD .skip) (retQ Try.prog Try.f85 k) (argF [next0, running1]) w = T85 k next0 running1 w := by kernel_rfl
theorem c85 {k : KV} {next0 : Value} {running1 : Value} {w : World} (h : T85 k next0 running1 w) : Cl Try.prog 85 [next0, running1] w k :=
  Cl_of_K KD_sound mixed Try.func85 (by kernel_rfl) (by kernel_rfl) ((e85 k next0 running1 w).symm ▸ h)

/-- Function 86: slices.Contains[[]int,int]. -/
def T86 (k : KV) (s0 : Value) (v1 : Value) (w : World) : Prop :=
  Cl Try.prog 115 [s0, v1] w fun t7_1 w_2 =>
  Pu (binV (TypeDesc.int IntKind.i64) .geq t7_1 (Value.int IntKind.i64 0)) fun t8_3 =>
  k t8_3 w_2
theorem e86 (k : KV) (s0 : Value) (v1 : Value) (w : World) : K KD Try.prog 9 (fun j =>  []) (fun j =>  none) (Try.f86.body.getD .skip) (retQ Try.prog Try.f86 k) (argF [s0, v1]) w = T86 k s0 v1 w := by kernel_rfl
theorem c86 {k : KV} {s0 : Value} {v1 : Value} {w : World} (h : T86 k s0 v1 w) : Cl Try.prog 86 [s0, v1] w k :=
  Cl_of_K KD_sound mixed Try.func86 (by kernel_rfl) (by kernel_rfl) ((e86 k s0 v1 w).symm ▸ h)

/-- Function 87: almonry/snap.unseen. -/
def T87 (k : KV) (v0 : Value) (x1 : Value) (w : World) : Prop :=
  New (Value.cells v0) 97 w fun v2_1 w_2 =>
  Pu (binV (TypeDesc.int IntKind.i64) .neq x1 (Value.int IntKind.i64 0)) fun t6_3 =>
  Gd (isB true t6_3) (fun kk => LdN 11 w_2 v2_1 kk) w_2 fun t8_4 w_5 =>
  Gd (isB true t6_3) (fun kk => kk x1 w_5) w_5 fun t9_6 w_7 =>
  Gd (isB true t6_3) (fun kk => Cl Try.prog 39 [t8_4, t9_6] w_7 kk) w_7 fun t10_8 w_9 =>
  Gd (isB true t6_3) (fun kk => Pu (unV .not t10_8) fun vv => kk vv w_9) w_9 fun t11_10 w_11 =>
  Pu (pickV t6_3 t11_10 (Value.bool false)) fun t12_12 =>
  Gd (isB true t12_12) (fun kk => LdN 11 w_11 v2_1 kk) w_11 fun t14_13 w_14 =>
  Gd (isB true t12_12) (fun kk => kk x1 w_14) w_14 fun t15_15 w_16 =>
  Gd (isB true t12_12) (fun kk => Cl Try.prog 47 [t14_13, t15_15] w_16 kk) w_16 fun t16_17 w_18 =>
  Gd (isB true t12_12) (fun kk => Pu (binV (TypeDesc.int IntKind.u8) .eql t16_17 (Value.int IntKind.u8 2)) fun vv => kk vv w_18) w_18 fun t17_19 w_20 =>
  Pu (pickV t12_12 t17_19 (Value.bool false)) fun t18_21 =>
  k t18_21 w_20
theorem e87 (k : KV) (v0 : Value) (x1 : Value) (w : World) : K KD Try.prog 19 (fun j =>  []) (fun j =>  none) (Try.f87.body.getD .skip) (retQ Try.prog Try.f87 k) (argF [v0, x1]) w = T87 k v0 x1 w := by kernel_rfl
theorem c87 {k : KV} {v0 : Value} {x1 : Value} {w : World} (h : T87 k v0 x1 w) : Cl Try.prog 87 [v0, x1] w k :=
  Cl_of_K KD_sound mixed Try.func87 (by kernel_rfl) (by kernel_rfl) ((e87 k v0 x1 w).symm ▸ h)

/-- Function 88: almonry/almonryref07.Right. -/
def T88 (k : KV) (m0 : Value) (w : World) : Prop :=
  Pu (binV (TypeDesc.int IntKind.i64) .geq m0 (Value.int IntKind.i64 16)) fun t4_1 =>
  Gd (isB true t4_1) (fun kk => kk m0 w) w fun t6_2 w_3 =>
  Gd (isB true t4_1) (fun kk => Pu (binV (TypeDesc.int IntKind.i64) .leq t6_2 (Value.int IntKind.i64 1024)) fun vv => kk vv w_3) w_3 fun t7_4 w_5 =>
  Pu (pickV t4_1 t7_4 (Value.bool false)) fun t8_6 =>
  Gd (isB true t8_6) (fun kk => kk m0 w_5) w_5 fun t10_7 w_8 =>
  Gd (isB true t8_6) (fun kk => Pu (binV (TypeDesc.int IntKind.i64) .rem t10_7 (Value.int IntKind.i64 2)) fun vv => kk vv w_8) w_8 fun t11_9 w_10 =>
  Gd (isB true t8_6) (fun kk => Pu (binV (TypeDesc.int IntKind.i64) .eql t11_9 (Value.int IntKind.i64 0)) fun vv => kk vv w_10) w_10 fun t12_11 w_12 =>
  Pu (pickV t8_6 t12_11 (Value.bool false)) fun t13_13 =>
  k t13_13 w_12
theorem e88 (k : KV) (m0 : Value) (w : World) : K KD Try.prog 14 (fun j =>  []) (fun j =>  none) (Try.f88.body.getD .skip) (retQ Try.prog Try.f88 k) (argF [m0]) w = T88 k m0 w := by kernel_rfl
theorem c88 {k : KV} {m0 : Value} {w : World} (h : T88 k m0 w) : Cl Try.prog 88 [m0] w k :=
  Cl_of_K KD_sound mixed Try.func88 (by kernel_rfl) (by kernel_rfl) ((e88 k m0 w).symm ▸ h)

/-- Function 89: almonry/almonryref07.id. -/
def T89 (k : KV) (m0 : Value) (x1 : Value) (w : World) : Prop :=
  Pu (binV (TypeDesc.int IntKind.i64) .geq x1 (Value.int IntKind.i64 1)) fun t6_1 =>
  Gd (isB true t6_1) (fun kk => kk x1 w) w fun t8_2 w_3 =>
  Gd (isB true t6_1) (fun kk => kk m0 w_3) w_3 fun t9_4 w_5 =>
  Gd (isB true t6_1) (fun kk => Pu (binV (TypeDesc.int IntKind.i64) .leq t8_2 t9_4) fun vv => kk vv w_5) w_5 fun t10_6 w_7 =>
  Pu (pickV t6_1 t10_6 (Value.bool false)) fun t11_8 =>
  k t11_8 w_7
theorem e89 (k : KV) (m0 : Value) (x1 : Value) (w : World) : K KD Try.prog 12 (fun j =>  []) (fun j =>  none) (Try.f89.body.getD .skip) (retQ Try.prog Try.f89 k) (argF [m0, x1]) w = T89 k m0 x1 w := by kernel_rfl
theorem c89 {k : KV} {m0 : Value} {x1 : Value} {w : World} (h : T89 k m0 x1 w) : Cl Try.prog 89 [m0, x1] w k :=
  Cl_of_K KD_sound mixed Try.func89 (by kernel_rfl) (by kernel_rfl) ((e89 k m0 x1 w).symm ▸ h)

/-- Function 90: slices.IndexFunc[[]int,int]. -/
def T90 (k : KV) (s0 : Value) (f1 : Value) (w : World) : Prop :=
  Pu (lenV s0) fun t7_1 =>
  ∃ (I_2 : List Value → World → Prop) (m_3 : List Value → World → Nat), I_2 [(Value.int IntKind.i64 0)] w ∧
  ∀ (g_19 : Fr) (w_18 : World), ∀ t8_7 : Value, I_2 [t8_7] w_18 →
    (Pu (binV (TypeDesc.int IntKind.i64) .lss t8_7 t7_1) fun t9_20 =>
    IfB t9_20
      (Pu (ixV 1 s0 t8_7) fun t14_21 =>
    Ld w_18 t14_21 fun t15_22 w_23 =>
    ClV Try.prog f1 [t15_22] w_23 fun t16_24 w_25 =>
    IfB t16_24
      (k t8_7 w_25)
      (Pu (binV (TypeDesc.int IntKind.i64) .add t8_7 (Value.int IntKind.i64 1)) fun t18_26 =>
    I_2 [t18_26] w_25 ∧ m_3 [t18_26] w_25 < m_3 [t8_7] w_18))
      (k (Value.int IntKind.i64 (-1)) w_18))
theorem e90 (k : KV) (s0 : Value) (f1 : Value) (w : World) : K KD Try.prog 19 (fun j => bif Nat.beq j 2 then [8] else []) (fun j =>  none) (Try.f90.body.getD .skip) (retQ Try.prog Try.f90 k) (argF [s0, f1]) w = T90 k s0 f1 w := by kernel_rfl
theorem c90 {k : KV} {s0 : Value} {f1 : Value} {w : World} (h : T90 k s0 f1 w) : Cl Try.prog 90 [s0, f1] w k :=
  Cl_of_K KD_sound mixed Try.func90 (by kernel_rfl) (by kernel_rfl) ((e90 k s0 f1 w).symm ▸ h)

/-- Function 91: almonry/snap.Horizon$1. -/
def T91 (k : KV) (x0 : Value) (t1 : Value) (t2 : Value) (w : World) : Prop :=
  New (Value.cells x0) 3 w fun x3_1 w_2 =>
  Ld w_2 t1 fun t5_3 w_4 =>
  Cl Try.prog 92 [t5_3, (.func (Fn.func 93) #[] #[t2, x3_1])] w_4 fun t7_5 w_6 =>
  Pu (unV .not t7_5) fun t8_7 =>
  k t8_7 w_6
theorem e91 (k : KV) (x0 : Value) (t1 : Value) (t2 : Value) (w : World) : K KD Try.prog 9 (fun j =>  []) (fun j =>  none) (Try.f91.body.getD .skip) (retQ Try.prog Try.f91 k) (argF [x0, t1, t2]) w = T91 k x0 t1 t2 w := by kernel_rfl
theorem c91 {k : KV} {x0 : Value} {t1 : Value} {t2 : Value} {w : World} (h : T91 k x0 t1 t2 w) : Cl Try.prog 91 [x0, t1, t2] w k :=
  Cl_of_K KD_sound mixed Try.func91 (by kernel_rfl) (by kernel_rfl) ((e91 k x0 t1 t2 w).symm ▸ h)

/-- Function 92: slices.ContainsFunc[[]int,int]. -/
def T92 (k : KV) (s0 : Value) (f1 : Value) (w : World) : Prop :=
  Cl Try.prog 90 [s0, f1] w fun t7_1 w_2 =>
  Pu (binV (TypeDesc.int IntKind.i64) .geq t7_1 (Value.int IntKind.i64 0)) fun t8_3 =>
  k t8_3 w_2
theorem e92 (k : KV) (s0 : Value) (f1 : Value) (w : World) : K KD Try.prog 9 (fun j =>  []) (fun j =>  none) (Try.f92.body.getD .skip) (retQ Try.prog Try.f92 k) (argF [s0, f1]) w = T92 k s0 f1 w := by kernel_rfl
theorem c92 {k : KV} {s0 : Value} {f1 : Value} {w : World} (h : T92 k s0 f1 w) : Cl Try.prog 92 [s0, f1] w k :=
  Cl_of_K KD_sound mixed Try.func92 (by kernel_rfl) (by kernel_rfl) ((e92 k s0 f1 w).symm ▸ h)

/-- Function 93: almonry/snap.Horizon$1$1. -/
def T93 (k : KV) (y0 : Value) (t1 : Value) (t2 : Value) (w : World) : Prop :=
  Ld w t1 fun t5_1 w_2 =>
  Ld w_2 t2 fun t7_3 w_4 =>
  Cl Try.prog 77 [t5_1, y0, t7_3] w_4 fun t8_5 w_6 =>
  k t8_5 w_6
theorem e93 (k : KV) (y0 : Value) (t1 : Value) (t2 : Value) (w : World) : K KD Try.prog 9 (fun j =>  []) (fun j =>  none) (Try.f93.body.getD .skip) (retQ Try.prog Try.f93 k) (argF [y0, t1, t2]) w = T93 k y0 t1 t2 w := by kernel_rfl
theorem c93 {k : KV} {y0 : Value} {t1 : Value} {t2 : Value} {w : World} (h : T93 k y0 t1 t2 w) : Cl Try.prog 93 [y0, t1, t2] w k :=
  Cl_of_K KD_sound mixed Try.func93 (by kernel_rfl) (by kernel_rfl) ((e93 k y0 t1 t2 w).symm ▸ h)

/-- Function 94: almonry/clog.open. -/
def T94 (k : KV) (m0 : Value) (p1 : Value) (w : World) : Prop :=
  New (Value.cells p1) 95 w fun p3_1 w_2 =>
  Cl Try.prog 111 [m0] w_2 fun t11_3 w_4 =>
  Pu (unV .not t11_3) fun t12_5 =>
  IfB t12_5
    (k (.tuple #[(Value.int IntKind.i64 0), (Value.slice none 0 0), (Value.int IntKind.i64 1)]) w_4)
    (∃ C_6 : World → Prop, C_6 (World.drew w_4) ∧
  (Pu (faV 1 p3_1) fun t13_7 =>
  Ld (World.drew w_4) t13_7 fun t14_8 w_9 =>
  w_9 = (World.drew w_4) ∧
  Pu (binV (TypeDesc.int IntKind.i64) .neq t14_8 (Value.int IntKind.i64 1)) fun t15_10 =>
  Gd (isB false t15_10) (fun kk => Pu (faV 0 p3_1) fun vv => kk vv (World.drew w_4)) (World.drew w_4) fun t17_11 w_12 =>
  Gd (isB false t15_10) (fun kk => Ld w_12 t17_11 kk) w_12 fun t18_13 w_14 =>
  w_14 = w_12 ∧
  Gd (isB false t15_10) (fun kk => Pu (binV (TypeDesc.int IntKind.i64) .lss t18_13 (Value.int IntKind.i64 0)) fun vv => kk vv w_12) w_12 fun t19_15 w_16 =>
  Pu (pickV t15_10 (Value.bool true) t19_15) fun t20_17 =>
  Gd (isB false t20_17) (fun kk => Pu (faV 2 p3_1) fun vv => kk vv w_16) w_16 fun t22_18 w_19 =>
  Gd (isB false t20_17) (fun kk => Ld w_19 t22_18 kk) w_19 fun t23_20 w_21 =>
  w_21 = w_19 ∧
  Gd (isB false t20_17) (fun kk => Pu (binV (TypeDesc.int IntKind.i64) .neq t23_20 (Value.int IntKind.i64 0)) fun vv => kk vv w_19) w_19 fun t24_22 w_23 =>
  Pu (pickV t20_17 (Value.bool true) t24_22) fun t25_24 =>
  Gd (isB false t25_24) (fun kk => Pu (faV 3 p3_1) fun vv => kk vv w_23) w_23 fun t27_25 w_26 =>
  Gd (isB false t25_24) (fun kk => Ld w_26 t27_25 kk) w_26 fun t28_27 w_28 =>
  w_28 = w_26 ∧
  Gd (isB false t25_24) (fun kk => Pu (binV (TypeDesc.int IntKind.i64) .neq t28_27 (Value.int IntKind.i64 0)) fun vv => kk vv w_26) w_26 fun t29_29 w_30 =>
  Pu (pickV t25_24 (Value.bool true) t29_29) fun t30_31 =>
  Gd (isB false t30_31) (fun kk => Pu (faV 4 p3_1) fun vv => kk vv w_30) w_30 fun t32_32 w_33 =>
  Gd (isB false t30_31) (fun kk => Ld w_33 t32_32 kk) w_33 fun t33_34 w_35 =>
  w_35 = w_33 ∧
  Gd (isB false t30_31) (fun kk => Pu (binV TypeDesc.string .neq t33_34 (Value.string (ByteArray.mk #[]))) fun vv => kk vv w_33) w_33 fun t34_36 w_37 =>
  Pu (pickV t30_31 (Value.bool true) t34_36) fun t35_38 =>
  Gd (isB false t35_38) (fun kk => Pu (faV 5 p3_1) fun vv => kk vv w_37) w_37 fun t37_39 w_40 =>
  Gd (isB false t35_38) (fun kk => Ld w_40 t37_39 kk) w_40 fun t38_41 w_42 =>
  w_42 = w_40 ∧
  Gd (isB false t35_38) (fun kk => Pu (lenV t38_41) fun vv => kk vv w_40) w_40 fun t39_43 w_44 =>
  Gd (isB false t35_38) (fun kk => Pu (binV (TypeDesc.int IntKind.i64) .neq t39_43 (Value.int IntKind.i64 2)) fun vv => kk vv w_44) w_44 fun t40_45 w_46 =>
  Pu (pickV t35_38 (Value.bool true) t40_45) fun t41_47 =>
  Gd (isB false t41_47) (fun kk => Pu (faV 5 p3_1) fun vv => kk vv w_46) w_46 fun t43_48 w_49 =>
  ∃ t44_50, (∀ w_51, C_6 w_51 → Gd (isB false t41_47) (fun kk => Ld w_51 t43_48 kk) w_51 fun t44_52 w_53 =>
  t44_52 = t44_50 ∧ w_53 = w_51) ∧
  (Gd (isB false t41_47) (fun kk => Pu (ixV 1 t44_50 (Value.int IntKind.i64 1)) fun vv => kk vv w_49) w_49 fun t45_54 w_55 =>
  ∃ t46_56, (∀ w_57, C_6 w_57 → Gd (isB false t41_47) (fun kk => Ld w_57 t45_54 kk) w_57 fun t46_58 w_59 =>
  t46_58 = t46_56 ∧ w_59 = w_57) ∧
  (Gd (isB false t41_47) (fun kk => Pu (lenS t46_56) fun vv => kk vv w_55) w_55 fun t47_60 w_61 =>
  Gd (isB false t41_47) (fun kk => kk m0 w_61) w_61 fun t48_62 w_63 =>
  Gd (isB false t41_47) (fun kk => Cl Try.prog 112 [t48_62] w_63 kk) w_63 fun t49_64 w_65 =>
  C_6 w_65 ∧
  (Gd (isB false t41_47) (fun kk => Pu (binV (TypeDesc.int IntKind.i64) .neq t47_60 t49_64) fun vv => kk vv w_65) w_65 fun t50_66 w_67 =>
  Pu (pickV t41_47 (Value.bool true) t50_66) fun t51_68 =>
  IfB t51_68
    (k (.tuple #[(Value.int IntKind.i64 0), (Value.slice none 0 0), (Value.int IntKind.i64 31)]) w_67)
    (Pu (faV 5 p3_1) fun t52_69 =>
  Ld w_67 t52_69 fun t53_70 w_71 =>
  Pu (ixV 1 t53_70 (Value.int IntKind.i64 0)) fun t54_72 =>
  Ld w_71 t54_72 fun t55_73 w_74 =>
  Cl Try.prog 116 [t55_73] w_74 fun t56_75 w_76 =>
  Cl Try.prog 117 [t56_75, m0] w_76 fun t59_77 w_78 =>
  Pu (faV 5 p3_1) fun t60_79 =>
  Ld w_78 t60_79 fun t61_80 w_81 =>
  Pu (ixV 1 t61_80 (Value.int IntKind.i64 1)) fun t62_82 =>
  Ld w_81 t62_82 fun t63_83 w_84 =>
  RunS Try.prog (convert 9 44 t63_83) w_84 fun t64_85 w_86 =>
  Cl Try.prog 118 [t56_75] w_86 fun t66_87 w_88 =>
  Pu (binV (TypeDesc.int IntKind.i64) .neq t66_87 (Value.int IntKind.i64 0)) fun t67_89 =>
  Gd (isB false t67_89) (fun kk => kk t59_77 w_88) w_88 fun t69_90 w_91 =>
  Gd (isB false t67_89) (fun kk => Pu (binV (TypeDesc.int IntKind.i64) .eql t69_90 (Value.int IntKind.i64 0)) fun vv => kk vv w_91) w_91 fun t70_92 w_93 =>
  Pu (pickV t67_89 (Value.bool true) t70_92) fun t71_94 =>
  Gd (isB false t71_94) (fun kk => kk m0 w_93) w_93 fun t73_95 w_96 =>
  Gd (isB false t71_94) (fun kk => Pu (binV (TypeDesc.int IntKind.i64) .rem t73_95 (Value.int IntKind.i64 4)) fun vv => kk vv w_96) w_96 fun t74_97 w_98 =>
  Gd (isB false t71_94) (fun kk => Pu (binV (TypeDesc.int IntKind.i64) .neq t74_97 (Value.int IntKind.i64 0)) fun vv => kk vv w_98) w_98 fun t75_99 w_100 =>
  Gd (isB false t71_94) (fun kk => kk t75_99 w_100) w_100 fun t76_101 w_102 =>
  Gd (isB true t76_101) (fun kk => kk t64_85 w_102) w_102 fun t77_103 w_104 =>
  Gd (isB true t76_101) (fun kk => kk t64_85 w_104) w_104 fun t78_105 w_106 =>
  Gd (isB true t76_101) (fun kk => Pu (lenV t78_105) fun vv => kk vv w_106) w_106 fun t79_107 w_108 =>
  Gd (isB true t76_101) (fun kk => Pu (binV (TypeDesc.int IntKind.i64) .sub t79_107 (Value.int IntKind.i64 1)) fun vv => kk vv w_108) w_108 fun t80_109 w_110 =>
  Gd (isB true t76_101) (fun kk => Pu (ixV 1 t77_103 t80_109) fun vv => kk vv w_110) w_110 fun t81_111 w_112 =>
  Gd (isB true t76_101) (fun kk => Ld w_112 t81_111 kk) w_112 fun t82_113 w_114 =>
  Gd (isB true t76_101) (fun kk => kk m0 w_114) w_114 fun t83_115 w_116 =>
  Gd (isB true t76_101) (fun kk => Pu (binV (TypeDesc.int IntKind.i64) .rem t83_115 (Value.int IntKind.i64 4)) fun vv => kk vv w_116) w_116 fun t84_117 w_118 =>
  Gd (isB true t76_101) (fun kk => Pu (binV (TypeDesc.int IntKind.i64) .mul (Value.int IntKind.i64 2) t84_117) fun vv => kk vv w_118) w_118 fun t85_119 w_120 =>
  Gd (isB true t76_101) (fun kk => Pu (binV (TypeDesc.int IntKind.u8) .shr t82_113 t85_119) fun vv => kk vv w_120) w_120 fun t86_121 w_122 =>
  Gd (isB true t76_101) (fun kk => Pu (binV (TypeDesc.int IntKind.u8) .neq t86_121 (Value.int IntKind.u8 0)) fun vv => kk vv w_122) w_122 fun t87_123 w_124 =>
  Gd (isB false t71_94) (fun kk => Pu (pickV t76_101 t87_123 (Value.bool false)) fun vv => kk vv w_124) w_124 fun t88_125 w_126 =>
  Pu (pickV t71_94 (Value.bool true) t88_125) fun t89_127 =>
  IfB t89_127
    (k (.tuple #[(Value.int IntKind.i64 0), (Value.slice none 0 0), (Value.int IntKind.i64 31)]) w_126)
    (k (.tuple #[t59_77, t64_85, (Value.int IntKind.i64 0)]) w_126)))))))
theorem e94 (k : KV) (m0 : Value) (p1 : Value) (w : World) : K KD Try.prog 92 (fun j =>  []) (fun j =>  none) (Try.f94.body.getD .skip) (retQ Try.prog Try.f94 k) (argF [m0, p1]) w = T94 k m0 p1 w := by kernel_rfl
theorem c94 {k : KV} {m0 : Value} {p1 : Value} {w : World} (h : T94 k m0 p1 w) : Cl Try.prog 94 [m0, p1] w k :=
  Cl_of_K KD_sound mixed Try.func94 (by kernel_rfl) (by kernel_rfl) ((e94 k m0 p1 w).symm ▸ h)

/-- Function 95: almonry/clog.isID. -/
def T95 (k : KV) (m0 : Value) (x1 : Value) (w : World) : Prop :=
  Cl Try.prog 78 [m0, x1, (Value.int IntKind.i64 0)] w fun t7_1 w_2 =>
  Pu (binV (TypeDesc.int IntKind.i64) .eql t7_1 x1) fun t9_3 =>
  Gd (isB true t9_3) (fun kk => kk x1 w_2) w_2 fun t11_4 w_5 =>
  Gd (isB true t9_3) (fun kk => Pu (binV (TypeDesc.int IntKind.i64) .neq t11_4 (Value.int IntKind.i64 0)) fun vv => kk vv w_5) w_5 fun t12_6 w_7 =>
  Pu (pickV t9_3 t12_6 (Value.bool false)) fun t13_8 =>
  k t13_8 w_7
theorem e95 (k : KV) (m0 : Value) (x1 : Value) (w : World) : K KD Try.prog 14 (fun j =>  []) (fun j =>  none) (Try.f95.body.getD .skip) (retQ Try.prog Try.f95 k) (argF [m0, x1]) w = T95 k m0 x1 w := by kernel_rfl
theorem c95 {k : KV} {m0 : Value} {x1 : Value} {w : World} (h : T95 k m0 x1 w) : Cl Try.prog 95 [m0, x1] w k :=
  Cl_of_K KD_sound mixed Try.func95 (by kernel_rfl) (by kernel_rfl) ((e95 k m0 x1 w).symm ▸ h)

/-- Function 96: almonry/clog.put. -/
def T96 (k : KV) (b0 : Value) (x1 : Value) (s2 : Value) (w : World) : Prop :=
  Cl Try.prog 119 [x1] w fun t10_1 w_2 =>
  Pu (extV t10_1 0) fun t11_3 =>
  Pu (extV t10_1 1) fun t12_4 =>
  Pu (ixV 1 b0 t11_3) fun t17_5 =>
  Ld (World.drew w_2) t17_5 fun t18_6 w_7 =>
  w_7 = (World.drew w_2) ∧
  Pu (binV (TypeDesc.int IntKind.u8) .shl (Value.int IntKind.u8 3) t12_4) fun t20_8 =>
  Pu (binV (TypeDesc.int IntKind.u8) .andNot t18_6 t20_8) fun t21_9 =>
  Pu (binV (TypeDesc.int IntKind.u8) .shl s2 t12_4) fun t24_10 =>
  Pu (binV (TypeDesc.int IntKind.u8) .or t21_9 t24_10) fun t25_11 =>
  Pu (ixV 1 b0 t11_3) fun t26_12 =>
  St 1 (World.drew w_2) t26_12 t25_11 fun u_13 w_14 =>
  k (.tuple #[]) w_14
theorem e96 (k : KV) (b0 : Value) (x1 : Value) (s2 : Value) (w : World) : K KD Try.prog 27 (fun j =>  []) (fun j =>  none) (Try.f96.body.getD .skip) (retQ Try.prog Try.f96 k) (argF [b0, x1, s2]) w = T96 k b0 x1 s2 w := by kernel_rfl
theorem c96 {k : KV} {b0 : Value} {x1 : Value} {s2 : Value} {w : World} (h : T96 k b0 x1 s2 w) : Cl Try.prog 96 [b0, x1, s2] w k :=
  Cl_of_K KD_sound mixed Try.func96 (by kernel_rfl) (by kernel_rfl) ((e96 k b0 x1 s2 w).symm ▸ h)

/-- Function 97: almonry/clog.made. -/
def T97 (k : KV) (frozen0 : Value) (b1 : Value) (lsn2 : Value) (w : World) : Prop :=
  New #[(Value.int IntKind.i64 0), (Value.int IntKind.i64 0), (Value.int IntKind.i64 0), (Value.int IntKind.i64 0), (Value.string (ByteArray.mk #[])), (Value.slice none 0 0)] 95 w fun t6_1 w_2 =>
  Cl Try.prog 120 [] w_2 fun t8_3 w_4 =>
  RunS Try.prog (Instr.buildSlice 34 1 #[(0, frozen0)]) w_4 fun t11_5 w_6 =>
  Cl Try.prog 121 [t8_3, t11_5] w_6 fun t12_7 w_8 =>
  ∃ C_9 : World → Prop, C_9 (World.drew w_8) ∧
  (∃ t17_10, (∀ w_11, C_9 w_11 → RunS Try.prog (convert 44 9 b1) w_11 fun t17_12 w_13 =>
  t17_12 = t17_10 ∧ w_13 = w_11) ∧
  (Cl Try.prog 122 [t8_3] (World.drew w_8) fun t15_14 w_15 =>
  C_9 w_15 ∧
  (RunS Try.prog (Instr.buildSlice 45 2 #[(0, t15_14), (1, t17_10)]) w_15 fun t18_16 w_17 =>
  RunS Try.prog (Instr.build 95 #[(0, lsn2), (1, (Value.int IntKind.i64 1)), (5, t18_16)]) w_17 fun t19_18 w_19 =>
  w_19 = w_17 ∧
  St 6 w_17 t6_1 t19_18 fun u_20 w_21 =>
  RetO (resL Try.prog (fun j => bif Nat.beq j 6 then t6_1 else undef) w_21 [(ResultVar.cell 6 95)]) w_21 k)))
theorem e97 (k : KV) (frozen0 : Value) (b1 : Value) (lsn2 : Value) (w : World) : K KD Try.prog 20 (fun j =>  []) (fun j =>  none) (Try.f97.body.getD .skip) (retQ Try.prog Try.f97 k) (argF [frozen0, b1, lsn2]) w = T97 k frozen0 b1 lsn2 w := by kernel_rfl
theorem c97 {k : KV} {frozen0 : Value} {b1 : Value} {lsn2 : Value} {w : World} (h : T97 k frozen0 b1 lsn2 w) : Cl Try.prog 97 [frozen0, b1, lsn2] w k :=
  Cl_of_K KD_sound mixed Try.func97 (by kernel_rfl) (by kernel_rfl) ((e97 k frozen0 b1 lsn2 w).symm ▸ h)

/-- Function 98: almonry/clog.Get. -/
def T98 (k : KV) (m0 : Value) (p1 : Value) (x2 : Value) (w : World) : Prop :=
  New (Value.cells p1) 95 w fun p4_1 w_2 =>
  LdN 6 w_2 p4_1 fun t15_3 w_4 =>
  Cl Try.prog 94 [m0, t15_3] w_4 fun t16_5 w_6 =>
  Pu (extV t16_5 0) fun t17_7 =>
  Pu (extV t16_5 1) fun t18_8 =>
  Pu (extV t16_5 2) fun t19_9 =>
  Pu (binV (TypeDesc.int IntKind.i64) .neq t19_9 (Value.int IntKind.i64 0)) fun t21_10 =>
  IfB t21_10
    (k (.tuple #[(Value.int IntKind.u8 0), t19_9]) w_6)
    (Cl Try.prog 95 [m0, x2] w_6 fun t25_11 w_12 =>
  Pu (unV .not t25_11) fun t26_13 =>
  IfB t26_13
    (k (.tuple #[(Value.int IntKind.u8 0), (Value.int IntKind.i64 1)]) w_12)
    (Cl Try.prog 119 [x2] w_12 fun t29_14 w_15 =>
  Pu (extV t29_14 0) fun t30_16 =>
  Pu (extV t29_14 1) fun t31_17 =>
  Pu (ixV 1 t18_8 t30_16) fun t34_18 =>
  Ld w_15 t34_18 fun t35_19 w_20 =>
  Pu (binV (TypeDesc.int IntKind.u8) .shr t35_19 t31_17) fun t37_21 =>
  Pu (binV (TypeDesc.int IntKind.u8) .and t37_21 (Value.int IntKind.u8 3)) fun t38_22 =>
  k (.tuple #[t38_22, (Value.int IntKind.i64 0)]) w_20))
theorem e98 (k : KV) (m0 : Value) (p1 : Value) (x2 : Value) (w : World) : K KD Try.prog 39 (fun j =>  []) (fun j =>  none) (Try.f98.body.getD .skip) (retQ Try.prog Try.f98 k) (argF [m0, p1, x2]) w = T98 k m0 p1 x2 w := by kernel_rfl
theorem c98 {k : KV} {m0 : Value} {p1 : Value} {x2 : Value} {w : World} (h : T98 k m0 p1 x2 w) : Cl Try.prog 98 [m0, p1, x2] w k :=
  Cl_of_K KD_sound mixed Try.func98 (by kernel_rfl) (by kernel_rfl) ((e98 k m0 p1 x2 w).symm ▸ h)

/-- Function 99: almonry/almonryref09.in. -/
def T99 (k : KV) (l0 : Value) (x1 : Value) (w : World) : Prop :=
  ∃ (I_1 : List Value → World → Prop) (m_2 : List Value → World → Nat), I_1 [(Value.int IntKind.i64 0)] w ∧
  ∀ (g_19 : Fr) (w_18 : World), ∀ i5_5 : Value, I_1 [i5_5] w_18 →
    (Pu (lenV l0) fun t8_20 =>
    Pu (binV (TypeDesc.int IntKind.i64) .lss i5_5 t8_20) fun t9_21 =>
    IfB t9_21
      (Pu (ixV 1 l0 i5_5) fun t14_22 =>
    Ld w_18 t14_22 fun t15_23 w_24 =>
    Pu (binV (TypeDesc.int IntKind.i64) .eql t15_23 x1) fun t17_25 =>
    IfB t17_25
      (k (Value.bool true) w_24)
      (Pu (binV (TypeDesc.int IntKind.i64) .add i5_5 (Value.int IntKind.i64 1)) fun t11_26 =>
    I_1 [t11_26] w_24 ∧ m_2 [t11_26] w_24 < m_2 [i5_5] w_18))
      (k (Value.bool false) w_18))
theorem e99 (k : KV) (l0 : Value) (x1 : Value) (w : World) : K KD Try.prog 18 (fun j => bif Nat.beq j 2 then [5] else []) (fun j =>  none) (Try.f99.body.getD .skip) (retQ Try.prog Try.f99 k) (argF [l0, x1]) w = T99 k l0 x1 w := by kernel_rfl
theorem c99 {k : KV} {l0 : Value} {x1 : Value} {w : World} (h : T99 k l0 x1 w) : Cl Try.prog 99 [l0, x1] w k :=
  Cl_of_K KD_sound mixed Try.func99 (by kernel_rfl) (by kernel_rfl) ((e99 k l0 x1 w).symm ▸ h)

/-- Function 100: almonry/almonryref08.Get. -/
def T100 (k : KV) (m0 : Value) (p1 : Value) (x2 : Value) (w : World) : Prop :=
  New (Value.cells p1) 95 w fun p4_1 w_2 =>
  LdN 6 w_2 p4_1 fun t13_3 w_4 =>
  Cl Try.prog 123 [m0, t13_3] w_4 fun t14_5 w_6 =>
  Pu (extV t14_5 0) fun t15_7 =>
  Pu (extV t14_5 1) fun t16_8 =>
  Pu (extV t14_5 2) fun t17_9 =>
  Pu (binV (TypeDesc.int IntKind.i64) .neq t17_9 (Value.int IntKind.i64 0)) fun t19_10 =>
  IfB t19_10
    (k (.tuple #[(Value.int IntKind.u8 0), t17_9]) w_6)
    (Pu (binV (TypeDesc.int IntKind.i64) .lss x2 (Value.int IntKind.i64 1)) fun t22_11 =>
  Gd (isB false t22_11) (fun kk => kk x2 w_6) w_6 fun t24_12 w_13 =>
  Gd (isB false t22_11) (fun kk => kk m0 w_13) w_13 fun t25_14 w_15 =>
  Gd (isB false t22_11) (fun kk => Pu (binV (TypeDesc.int IntKind.i64) .gtr t24_12 t25_14) fun vv => kk vv w_15) w_15 fun t26_16 w_17 =>
  Pu (pickV t22_11 (Value.bool true) t26_16) fun t27_18 =>
  IfB t27_18
    (k (.tuple #[(Value.int IntKind.u8 0), (Value.int IntKind.i64 1)]) w_17)
    (Pu (binV (TypeDesc.int IntKind.i64) .sub x2 (Value.int IntKind.i64 1)) fun t30_19 =>
  Pu (ixV 1 t16_8 t30_19) fun t31_20 =>
  Ld w_17 t31_20 fun t32_21 w_22 =>
  k (.tuple #[t32_21, (Value.int IntKind.i64 0)]) w_22))
theorem e100 (k : KV) (m0 : Value) (p1 : Value) (x2 : Value) (w : World) : K KD Try.prog 33 (fun j =>  []) (fun j =>  none) (Try.f100.body.getD .skip) (retQ Try.prog Try.f100 k) (argF [m0, p1, x2]) w = T100 k m0 p1 x2 w := by kernel_rfl
theorem c100 {k : KV} {m0 : Value} {p1 : Value} {x2 : Value} {w : World} (h : T100 k m0 p1 x2 w) : Cl Try.prog 100 [m0, p1, x2] w k :=
  Cl_of_K KD_sound mixed Try.func100 (by kernel_rfl) (by kernel_rfl) ((e100 k m0 p1 x2 w).symm ▸ h)

/-- Function 101: almonry/almonryref09.done. -/
def T101 (k : KV) (v0 : Value) (x1 : Value) (w : World) : Prop :=
  New (Value.cells v0) 97 w fun v2_1 w_2 =>
  LdN 11 w_2 v2_1 fun t5_3 w_4 =>
  Cl Try.prog 48 [t5_3, x1] w_4 fun t7_5 w_6 =>
  Pu (binV (TypeDesc.int IntKind.u8) .eql t7_5 (Value.int IntKind.u8 2)) fun t8_7 =>
  Gd (isB true t8_7) (fun kk => LdN 11 w_6 v2_1 kk) w_6 fun t10_8 w_9 =>
  Gd (isB true t8_7) (fun kk => kk x1 w_9) w_9 fun t11_10 w_11 =>
  Gd (isB true t8_7) (fun kk => Cl Try.prog 49 [t10_8, t11_10] w_11 kk) w_11 fun t12_12 w_13 =>
  Gd (isB true t8_7) (fun kk => Pu (unV .not t12_12) fun vv => kk vv w_13) w_13 fun t13_14 w_15 =>
  Pu (pickV t8_7 t13_14 (Value.bool false)) fun t14_16 =>
  k t14_16 w_15
theorem e101 (k : KV) (v0 : Value) (x1 : Value) (w : World) : K KD Try.prog 15 (fun j =>  []) (fun j =>  none) (Try.f101.body.getD .skip) (retQ Try.prog Try.f101 k) (argF [v0, x1]) w = T101 k v0 x1 w := by kernel_rfl
theorem c101 {k : KV} {v0 : Value} {x1 : Value} {w : World} (h : T101 k v0 x1 w) : Cl Try.prog 101 [v0, x1] w k :=
  Cl_of_K KD_sound mixed Try.func101 (by kernel_rfl) (by kernel_rfl) ((e101 k v0 x1 w).symm ▸ h)

/-- Function 107: almonry/xid.Gap. -/
def T107 (k : KV) (m0 : Value) (fromv1 : Value) (to2 : Value) (w : World) : Prop :=
  RunS Try.prog (Instr.buildSlice 34 2 #[(0, fromv1), (1, to2)]) w fun t10_1 w_2 =>
  Cl Try.prog 108 [m0, t10_1] w_2 fun t11_3 w_4 =>
  Pu (unV .not t11_3) fun t12_5 =>
  IfB t12_5
    (k (Value.int IntKind.i64 0) w_4)
    (Pu (binV (TypeDesc.int IntKind.i64) .sub to2 fromv1) fun t16_6 =>
  Cl Try.prog 109 [m0, t16_6] w_4 fun t17_7 w_8 =>
  k t17_7 w_8)
theorem e107 (k : KV) (m0 : Value) (fromv1 : Value) (to2 : Value) (w : World) : K KD Try.prog 18 (fun j =>  []) (fun j =>  none) (Try.f107.body.getD .skip) (retQ Try.prog Try.f107 k) (argF [m0, fromv1, to2]) w = T107 k m0 fromv1 to2 w := by kernel_rfl
theorem c107 {k : KV} {m0 : Value} {fromv1 : Value} {to2 : Value} {w : World} (h : T107 k m0 fromv1 to2 w) : Cl Try.prog 107 [m0, fromv1, to2] w k :=
  Cl_of_K KD_sound mixed Try.func107 (by kernel_rfl) (by kernel_rfl) ((e107 k m0 fromv1 to2 w).symm ▸ h)

/-- Function 108: almonry/xid.ids. -/
def T108 (k : KV) (m0 : Value) (l1 : Value) (w : World) : Prop :=
  Pu (lenV l1) fun t8_1 =>
  ∃ (I_2 : List Value → World → Prop) (m_3 : List Value → World → Nat), I_2 [(Value.int IntKind.i64 0)] w ∧
  ∀ (g_20 : Fr) (w_19 : World), ∀ t9_7 : Value, I_2 [t9_7] w_19 →
    (Pu (binV (TypeDesc.int IntKind.i64) .lss t9_7 t8_1) fun t10_21 =>
    IfB t10_21
      (Pu (ixV 1 l1 t9_7) fun t11_22 =>
    Ld w_19 t11_22 fun t12_23 w_24 =>
    Pu (binV (TypeDesc.int IntKind.i64) .lss t12_23 (Value.int IntKind.i64 1)) fun t14_25 =>
    Gd (isB false t14_25) (fun kk => kk t12_23 w_24) w_24 fun t16_26 w_27 =>
    Gd (isB false t14_25) (fun kk => kk m0 w_27) w_27 fun t17_28 w_29 =>
    Gd (isB false t14_25) (fun kk => Pu (binV (TypeDesc.int IntKind.i64) .gtr t16_26 t17_28) fun vv => kk vv w_29) w_29 fun t18_30 w_31 =>
    Pu (pickV t14_25 (Value.bool true) t18_30) fun t19_32 =>
    IfB t19_32
      (k (Value.bool false) w_31)
      (Pu (binV (TypeDesc.int IntKind.i64) .add t9_7 (Value.int IntKind.i64 1)) fun t20_33 =>
    I_2 [t20_33] w_31 ∧ m_3 [t20_33] w_31 < m_3 [t9_7] w_19))
      (Cl Try.prog 127 [m0] w_19 fun t22_34 w_35 =>
  k t22_34 w_35))
theorem e108 (k : KV) (m0 : Value) (l1 : Value) (w : World) : K KD Try.prog 23 (fun j => bif Nat.beq j 2 then [9] else []) (fun j =>  none) (Try.f108.body.getD .skip) (retQ Try.prog Try.f108 k) (argF [m0, l1]) w = T108 k m0 l1 w := by kernel_rfl
theorem c108 {k : KV} {m0 : Value} {l1 : Value} {w : World} (h : T108 k m0 l1 w) : Cl Try.prog 108 [m0, l1] w k :=
  Cl_of_K KD_sound mixed Try.func108 (by kernel_rfl) (by kernel_rfl) ((e108 k m0 l1 w).symm ▸ h)

/-- Function 109: almonry/xid.ring. -/
def T109 (k : KV) (m0 : Value) (n1 : Value) (w : World) : Prop :=
  Pu (binV (TypeDesc.int IntKind.i64) .rem n1 m0) fun t7_1 =>
  Pu (binV (TypeDesc.int IntKind.i64) .add t7_1 m0) fun t9_2 =>
  Pu (binV (TypeDesc.int IntKind.i64) .rem t9_2 m0) fun t11_3 =>
  k t11_3 w
theorem e109 (k : KV) (m0 : Value) (n1 : Value) (w : World) : K KD Try.prog 12 (fun j =>  []) (fun j =>  none) (Try.f109.body.getD .skip) (retQ Try.prog Try.f109 k) (argF [m0, n1]) w = T109 k m0 n1 w := by kernel_rfl
theorem c109 {k : KV} {m0 : Value} {n1 : Value} {w : World} (h : T109 k m0 n1 w) : Cl Try.prog 109 [m0, n1] w k :=
  Cl_of_K KD_sound mixed Try.func109 (by kernel_rfl) (by kernel_rfl) ((e109 k m0 n1 w).symm ▸ h)

/-- Function 111: almonry/clog.isModulus. -/
def T111 (k : KV) (m0 : Value) (w : World) : Prop :=
  Cl Try.prog 78 [m0, (Value.int IntKind.i64 1), (Value.int IntKind.i64 0)] w fun t4_1 w_2 =>
  Pu (binV (TypeDesc.int IntKind.i64) .eql t4_1 (Value.int IntKind.i64 1)) fun t5_3 =>
  k t5_3 w_2
theorem e111 (k : KV) (m0 : Value) (w : World) : K KD Try.prog 6 (fun j =>  []) (fun j =>  none) (Try.f111.body.getD .skip) (retQ Try.prog Try.f111 k) (argF [m0]) w = T111 k m0 w := by kernel_rfl
theorem c111 {k : KV} {m0 : Value} {w : World} (h : T111 k m0 w) : Cl Try.prog 111 [m0] w k :=
  Cl_of_K KD_sound mixed Try.func111 (by kernel_rfl) (by kernel_rfl) ((e111 k m0 w).symm ▸ h)

/-- Function 112: almonry/clog.size. -/
def T112 (k : KV) (m0 : Value) (w : World) : Prop :=
  Pu (binV (TypeDesc.int IntKind.i64) .add m0 (Value.int IntKind.i64 4)) fun t4_1 =>
  Pu (binV (TypeDesc.int IntKind.i64) .sub t4_1 (Value.int IntKind.i64 1)) fun t5_2 =>
  Pu (binV (TypeDesc.int IntKind.i64) .quo t5_2 (Value.int IntKind.i64 4)) fun t6_3 =>
  k t6_3 w
theorem e112 (k : KV) (m0 : Value) (w : World) : K KD Try.prog 7 (fun j =>  []) (fun j =>  none) (Try.f112.body.getD .skip) (retQ Try.prog Try.f112 k) (argF [m0]) w = T112 k m0 w := by kernel_rfl
theorem c112 {k : KV} {m0 : Value} {w : World} (h : T112 k m0 w) : Cl Try.prog 112 [m0] w k :=
  Cl_of_K KD_sound mixed Try.func112 (by kernel_rfl) (by kernel_rfl) ((e112 k m0 w).symm ▸ h)

/-- Function 113: slices.Clone[[]int,int]. -/
def T113 (k : KV) (s0 : Value) (w : World) : Prop :=
  Pu (binV (TypeDesc.slice 3) .eql s0 (Value.slice none 0 0)) fun t4_1 =>
  IfB t4_1
    (k (Value.slice none 0 0) w)
    (RunS Try.prog (Instr.buildSlice 34 0 #[]) w fun t5_2 w_3 =>
  RunS Try.prog (Builtin.append_ #[34, 34] 34 #[t5_2, s0]) w_3 fun t7_4 w_5 =>
  k t7_4 w_5)
theorem e113 (k : KV) (s0 : Value) (w : World) : K KD Try.prog 8 (fun j =>  []) (fun j =>  none) (Try.f113.body.getD .skip) (retQ Try.prog Try.f113 k) (argF [s0]) w = T113 k s0 w := by kernel_rfl
theorem c113 {k : KV} {s0 : Value} {w : World} (h : T113 k s0 w) : Cl Try.prog 113 [s0] w k :=
  Cl_of_K KD_sound mixed Try.func113 (by kernel_rfl) (by kernel_rfl) ((e113 k s0 w).symm ▸ h)

/-- Function 114: slices.Compact[[]int,int]. -/
def T114 (k : KV) (s0 : Value) (w : World) : Prop :=
  Pu (lenV s0) fun t7_1 =>
  Pu (binV (TypeDesc.int IntKind.i64) .lss t7_1 (Value.int IntKind.i64 2)) fun t8_2 =>
  IfB t8_2
    (k s0 w)
    (∃ (I_3 : List Value → World → Prop) (m_4 : List Value → World → Nat), I_3 [(Value.int IntKind.i64 1)] w ∧
  ∀ (g_61 : Fr) (w_60 : World), ∀ kv3_7 : Value, I_3 [kv3_7] w_60 →
    (Pu (lenV s0) fun t12_62 =>
    Pu (binV (TypeDesc.int IntKind.i64) .lss kv3_7 t12_62) fun t13_63 =>
    IfB t13_63
      (Pu (ixV 1 s0 kv3_7) fun t18_64 =>
    Ld (World.drew w_60) t18_64 fun t19_65 w_66 =>
    w_66 = (World.drew w_60) ∧
    Pu (binV (TypeDesc.int IntKind.i64) .sub kv3_7 (Value.int IntKind.i64 1)) fun t22_67 =>
    Pu (ixV 1 s0 t22_67) fun t23_68 =>
    Ld (World.drew w_60) t23_68 fun t24_69 w_70 =>
    w_70 = (World.drew w_60) ∧
    Pu (binV (TypeDesc.int IntKind.i64) .eql t19_65 t24_69) fun t25_71 =>
    IfB t25_71
      (Pu (slV 1 s0 (some kv3_7) none none) fun t28_72 =>
        ∃ (I_73 : List Value → World → Prop) (m_74 : List Value → World → Nat), I_73 [kv3_7, (Value.int IntKind.i64 1)] (World.drew w_60) ∧
        ∀ (g_104 : Fr) (w_103 : World), ∀ kv3_76 : Value, ∀ k25_77 : Value, I_73 [kv3_76, k25_77] w_103 →
          (Pu (lenV t28_72) fun t31_105 =>
          Pu (binV (TypeDesc.int IntKind.i64) .lss k25_77 t31_105) fun t32_106 =>
          IfB t32_106
            (Jn (fun vs_129 w_128 => ∀ g_130 : Fr, ∃ kv3_108 : Value, vs_129 = [kv3_108] ∧
              (Pu (binV (TypeDesc.int IntKind.i64) .add k25_77 (Value.int IntKind.i64 1)) fun t34_131 =>
              I_73 [kv3_108, t34_131] w_128 ∧ m_74 [kv3_108, t34_131] w_128 < m_74 [kv3_76, k25_77] w_103))
            (fun jj_107 =>
            Pu (ixV 1 t28_72 k25_77) fun t37_132 =>
            Ld (World.drew w_103) t37_132 fun t38_133 w_134 =>
            w_134 = (World.drew w_103) ∧
            Pu (binV (TypeDesc.int IntKind.i64) .sub k25_77 (Value.int IntKind.i64 1)) fun t41_135 =>
            Pu (ixV 1 t28_72 t41_135) fun t42_136 =>
            Ld (World.drew w_103) t42_136 fun t43_137 w_138 =>
            w_138 = (World.drew w_103) ∧
            Pu (binV (TypeDesc.int IntKind.i64) .neq t38_133 t43_137) fun t44_139 =>
            IfB t44_139
              (Pu (ixV 1 t28_72 k25_77) fun t49_140 =>
                Ld (World.drew w_103) t49_140 fun t50_141 w_142 =>
                Pu (ixV 1 s0 kv3_76) fun t51_143 =>
                St 1 w_142 t51_143 t50_141 fun u_144 w_145 =>
                Pu (binV (TypeDesc.int IntKind.i64) .add kv3_76 (Value.int IntKind.i64 1)) fun t53_146 =>
                jj_107 [t53_146] w_145)
              (jj_107 [kv3_76] (World.drew w_103))))
            (Pu (slV 1 s0 (some kv3_76) none none) fun t56_147 =>
        RunS Try.prog (Builtin.clear_ #[34] 0 #[t56_147]) w_103 fun u_148 w_149 =>
        Pu (slV 1 s0 none (some kv3_76) none) fun t59_150 =>
        k t59_150 w_149)))
      (Pu (binV (TypeDesc.int IntKind.i64) .add kv3_7 (Value.int IntKind.i64 1)) fun t15_151 =>
    I_3 [t15_151] (World.drew w_60) ∧ m_4 [t15_151] (World.drew w_60) < m_4 [kv3_7] w_60))
      (k s0 w_60)))
theorem e114 (k : KV) (s0 : Value) (w : World) : K KD Try.prog 61 (fun j => bif Nat.beq j 9 then [3, 5] else bif Nat.beq j 4 then [3] else []) (fun j => bif Nat.beq j 10 then some [3] else none) (Try.f114.body.getD .skip) (retQ Try.prog Try.f114 k) (argF [s0]) w = T114 k s0 w := by kernel_rfl
theorem c114 {k : KV} {s0 : Value} {w : World} (h : T114 k s0 w) : Cl Try.prog 114 [s0] w k :=
  Cl_of_K KD_sound mixed Try.func114 (by kernel_rfl) (by kernel_rfl) ((e114 k s0 w).symm ▸ h)

/-- Function 115: slices.Index[[]int,int]. -/
def T115 (k : KV) (s0 : Value) (v1 : Value) (w : World) : Prop :=
  Pu (lenV s0) fun t7_1 =>
  ∃ (I_2 : List Value → World → Prop) (m_3 : List Value → World → Nat), I_2 [(Value.int IntKind.i64 0)] w ∧
  ∀ (g_19 : Fr) (w_18 : World), ∀ t8_7 : Value, I_2 [t8_7] w_18 →
    (Pu (binV (TypeDesc.int IntKind.i64) .lss t8_7 t7_1) fun t9_20 =>
    IfB t9_20
      (Pu (ixV 1 s0 t8_7) fun t14_21 =>
    Ld w_18 t14_21 fun t15_22 w_23 =>
    Pu (binV (TypeDesc.int IntKind.i64) .eql v1 t15_22) fun t16_24 =>
    IfB t16_24
      (k t8_7 w_23)
      (Pu (binV (TypeDesc.int IntKind.i64) .add t8_7 (Value.int IntKind.i64 1)) fun t18_25 =>
    I_2 [t18_25] w_23 ∧ m_3 [t18_25] w_23 < m_3 [t8_7] w_18))
      (k (Value.int IntKind.i64 (-1)) w_18))
theorem e115 (k : KV) (s0 : Value) (v1 : Value) (w : World) : K KD Try.prog 19 (fun j => bif Nat.beq j 2 then [8] else []) (fun j =>  none) (Try.f115.body.getD .skip) (retQ Try.prog Try.f115 k) (argF [s0, v1]) w = T115 k s0 v1 w := by kernel_rfl
theorem c115 {k : KV} {s0 : Value} {v1 : Value} {w : World} (h : T115 k s0 v1 w) : Cl Try.prog 115 [s0, v1] w k :=
  Cl_of_K KD_sound mixed Try.func115 (by kernel_rfl) (by kernel_rfl) ((e115 k s0 v1 w).symm ▸ h)

/-- Function 116: almonry/bits.Read. -/
def T116 (k : KV) (data0 : Value) (w : World) : Prop :=
  RunS Try.prog (Instr.build 178 #[(0, data0)]) w fun t4_1 w_2 =>
  New (Value.cells t4_1) 178 w_2 fun t5_3 w_4 =>
  k t5_3 w_4
theorem e116 (k : KV) (data0 : Value) (w : World) : K KD Try.prog 6 (fun j =>  []) (fun j =>  none) (Try.f116.body.getD .skip) (retQ Try.prog Try.f116 k) (argF [data0]) w = T116 k data0 w := by kernel_rfl
theorem c116 {k : KV} {data0 : Value} {w : World} (h : T116 k data0 w) : Cl Try.prog 116 [data0] w k :=
  Cl_of_K KD_sound mixed Try.func116 (by kernel_rfl) (by kernel_rfl) ((e116 k data0 w).symm ▸ h)

/-- Function 117: (*almonry/bits.Reader).Num. -/
def T117 (k : KV) (r0 : Value) (most1 : Value) (w : World) : Prop :=
  Pu (binV (TypeDesc.pointer 178) .eql r0 (Value.pointer none)) fun t9_1 =>
  Gd (isB false t9_1) (fun kk => kk r0 w) w fun t11_2 w_3 =>
  Gd (isB false t9_1) (fun kk => Pu (nilV t11_2) fun vv => kk vv w_3) w_3 fun t12_4 w_5 =>
  Gd (isB false t9_1) (fun kk => Pu (faV 1 t12_4) fun vv => kk vv w_5) w_5 fun t13_6 w_7 =>
  Gd (isB false t9_1) (fun kk => Ld w_7 t13_6 kk) w_7 fun t14_8 w_9 =>
  Gd (isB false t9_1) (fun kk => Pu (binV (TypeDesc.int IntKind.i64) .neq t14_8 (Value.int IntKind.i64 0)) fun vv => kk vv w_9) w_9 fun t15_10 w_11 =>
  Pu (pickV t9_1 (Value.bool true) t15_10) fun t16_12 =>
  IfB t16_12
    (k (Value.int IntKind.i64 0) w_11)
    (∃ (I_13 : List Value → World → Prop) (m_14 : List Value → World → Nat), I_13 [(Value.int IntKind.i64 0), (Value.int IntKind.i64 0)] w_11 ∧
  ∀ (g_78 : Fr) (w_77 : World), ∀ n5_17 : Value, ∀ t17_20 : Value, I_13 [n5_17, t17_20] w_77 →
    (Pu (binV (TypeDesc.int IntKind.i64) .lss t17_20 (Value.int IntKind.i64 9)) fun t18_79 =>
    IfB t18_79
      (Pu (nilV r0) fun t22_80 =>
    Pu (faV 0 t22_80) fun t23_81 =>
    Ld w_77 t23_81 fun t24_82 w_83 =>
    Pu (lenS t24_82) fun t25_84 =>
    Pu (binV (TypeDesc.int IntKind.i64) .geq t17_20 t25_84) fun t26_85 =>
    IfB t26_85
      (Cl Try.prog 128 [r0, (Value.int IntKind.i64 10)] w_83 fun t28_86 w_87 =>
        k t28_86 w_87)
      (Pu (nilV r0) fun t30_88 =>
    Pu (faV 0 t30_88) fun t31_89 =>
    Ld w_83 t31_89 fun t32_90 w_91 =>
    Pu (ixS t32_90 t17_20) fun t34_92 =>
    Pu (binV (TypeDesc.int IntKind.u8) .and t34_92 (Value.int IntKind.u8 127)) fun t37_93 =>
    Pu (cvI IntKind.i64 t37_93) fun t38_94 =>
    Pu (binV (TypeDesc.int IntKind.i64) .mul (Value.int IntKind.i64 7) t17_20) fun t40_95 =>
    Pu (binV (TypeDesc.int IntKind.i64) .shl t38_94 t40_95) fun t41_96 =>
    Pu (binV (TypeDesc.int IntKind.i64) .or n5_17 t41_96) fun t42_97 =>
    Pu (binV (TypeDesc.int IntKind.u8) .eql t34_92 (Value.int IntKind.u8 0)) fun t45_98 =>
    Gd (isB true t45_98) (fun kk => kk t17_20 w_91) w_91 fun t47_99 w_100 =>
    Gd (isB true t45_98) (fun kk => Pu (binV (TypeDesc.int IntKind.i64) .gtr t47_99 (Value.int IntKind.i64 0)) fun vv => kk vv w_100) w_100 fun t48_101 w_102 =>
    Pu (pickV t45_98 t48_101 (Value.bool false)) fun t49_103 =>
    IfB t49_103
      (Cl Try.prog 128 [r0, (Value.int IntKind.i64 11)] w_102 fun t51_104 w_105 =>
        k t51_104 w_105)
      (Pu (binV (TypeDesc.int IntKind.u8) .geq t34_92 (Value.int IntKind.u8 128)) fun t54_106 =>
        IfB t54_106
          (Pu (binV (TypeDesc.int IntKind.i64) .add t17_20 (Value.int IntKind.i64 1)) fun t73_107 =>
    I_13 [t42_97, t73_107] w_102 ∧ m_14 [t42_97, t73_107] w_102 < m_14 [n5_17, t17_20] w_77)
          (Pu (foldV0 max2V [most1, (Value.int IntKind.i64 0)]) fun t58_108 =>
            Pu (binV (TypeDesc.int IntKind.i64) .gtr t42_97 t58_108) fun t59_109 =>
            IfB t59_109
              (Cl Try.prog 128 [r0, (Value.int IntKind.i64 11)] w_102 fun t61_110 w_111 =>
                k t61_110 w_111)
              (Pu (nilV r0) fun t64_112 =>
    Pu (faV 0 t64_112) fun t65_113 =>
    Ld w_102 t65_113 fun t66_114 w_115 =>
    Pu (binV (TypeDesc.int IntKind.i64) .add t17_20 (Value.int IntKind.i64 1)) fun t68_116 =>
    Pu (slS t66_114 (some t68_116) none) fun t69_117 =>
    Pu (nilV r0) fun t70_118 =>
    Pu (faV 0 t70_118) fun t71_119 =>
    St 1 w_115 t71_119 t69_117 fun u_120 w_121 =>
    k t42_97 w_121)))))
      (Cl Try.prog 128 [r0, (Value.int IntKind.i64 11)] w_77 fun t75_122 w_123 =>
  k t75_122 w_123)))
theorem e117 (k : KV) (r0 : Value) (most1 : Value) (w : World) : K KD Try.prog 76 (fun j => bif Nat.beq j 5 then [5, 17] else []) (fun j =>  none) (Try.f117.body.getD .skip) (retQ Try.prog Try.f117 k) (argF [r0, most1]) w = T117 k r0 most1 w := by kernel_rfl
theorem c117 {k : KV} {r0 : Value} {most1 : Value} {w : World} (h : T117 k r0 most1 w) : Cl Try.prog 117 [r0, most1] w k :=
  Cl_of_K KD_sound mixed Try.func117 (by kernel_rfl) (by kernel_rfl) ((e117 k r0 most1 w).symm ▸ h)

/-- Function 118: (*almonry/bits.Reader).End. -/
def T118 (k : KV) (r0 : Value) (w : World) : Prop :=
  Cl Try.prog 129 [r0] w fun t4_1 w_2 =>
  Pu (binV (TypeDesc.int IntKind.i64) .eql t4_1 (Value.int IntKind.i64 0)) fun t5_3 =>
  Gd (isB true t5_3) (fun kk => kk r0 w_2) w_2 fun t7_4 w_5 =>
  Gd (isB true t5_3) (fun kk => Cl Try.prog 130 [t7_4] w_5 kk) w_5 fun t8_6 w_7 =>
  Gd (isB true t5_3) (fun kk => Pu (binV (TypeDesc.int IntKind.i64) .gtr t8_6 (Value.int IntKind.i64 0)) fun vv => kk vv w_7) w_7 fun t9_8 w_9 =>
  Pu (pickV t5_3 t9_8 (Value.bool false)) fun t10_10 =>
  IfB t10_10
    (k (Value.int IntKind.i64 12) w_9)
    (Cl Try.prog 129 [r0] w_9 fun t12_11 w_12 =>
  k t12_11 w_12)
theorem e118 (k : KV) (r0 : Value) (w : World) : K KD Try.prog 13 (fun j =>  []) (fun j =>  none) (Try.f118.body.getD .skip) (retQ Try.prog Try.f118 k) (argF [r0]) w = T118 k r0 w := by kernel_rfl
theorem c118 {k : KV} {r0 : Value} {w : World} (h : T118 k r0 w) : Cl Try.prog 118 [r0] w k :=
  Cl_of_K KD_sound mixed Try.func118 (by kernel_rfl) (by kernel_rfl) ((e118 k r0 w).symm ▸ h)

/-- Function 119: almonry/clog.place. -/
def T119 (k : KV) (x0 : Value) (w : World) : Prop :=
  Pu (binV (TypeDesc.int IntKind.i64) .sub x0 (Value.int IntKind.i64 1)) fun t5_1 =>
  Pu (binV (TypeDesc.int IntKind.i64) .quo t5_1 (Value.int IntKind.i64 4)) fun t6_2 =>
  Pu (binV (TypeDesc.int IntKind.i64) .sub x0 (Value.int IntKind.i64 1)) fun t8_3 =>
  Pu (binV (TypeDesc.int IntKind.i64) .rem t8_3 (Value.int IntKind.i64 4)) fun t9_4 =>
  Pu (binV (TypeDesc.int IntKind.i64) .mul (Value.int IntKind.i64 2) t9_4) fun t10_5 =>
  k (.tuple #[t6_2, t10_5]) w
theorem e119 (k : KV) (x0 : Value) (w : World) : K KD Try.prog 11 (fun j =>  []) (fun j =>  none) (Try.f119.body.getD .skip) (retQ Try.prog Try.f119 k) (argF [x0]) w = T119 k x0 w := by kernel_rfl
theorem c119 {k : KV} {x0 : Value} {w : World} (h : T119 k x0 w) : Cl Try.prog 119 [x0] w k :=
  Cl_of_K KD_sound mixed Try.func119 (by kernel_rfl) (by kernel_rfl) ((e119 k x0 w).symm ▸ h)

/-- Function 120: almonry/bits.New. -/
def T120 (k : KV) (w : World) : Prop :=
  RunS Try.prog (Instr.build 181 #[]) w fun t1_1 w_2 =>
  New (Value.cells t1_1) 181 w_2 fun t2_3 w_4 =>
  k t2_3 w_4
theorem e120 (k : KV) (w : World) : K KD Try.prog 3 (fun j =>  []) (fun j =>  none) (Try.f120.body.getD .skip) (retQ Try.prog Try.f120 k) (argF []) w = T120 k  w := by kernel_rfl
theorem c120 {k : KV} {w : World} (h : T120 k  w) : Cl Try.prog 120 [] w k :=
  Cl_of_K KD_sound mixed Try.func120 (by kernel_rfl) (by kernel_rfl) ((e120 k  w).symm ▸ h)

/-- Function 121: (*almonry/bits.Writer).Num. -/
def T121 (k : KV) (wv0 : Value) (ns1 : Value) (w : World) : Prop :=
  Pu (binV (TypeDesc.pointer 181) .eql wv0 (Value.pointer none)) fun t7_1 =>
  IfB t7_1
    (k (.tuple #[]) w)
    (Pu (lenV ns1) fun t9_2 =>
  ∃ (I_3 : List Value → World → Prop) (m_4 : List Value → World → Nat), I_3 [(Value.int IntKind.i64 0)] w ∧
  ∀ (g_42 : Fr) (w_41 : World), ∀ t10_7 : Value, I_3 [t10_7] w_41 →
    (Pu (binV (TypeDesc.int IntKind.i64) .lss t10_7 t9_2) fun t11_43 =>
    IfB t11_43
      (Pu (ixV 1 ns1 t10_7) fun t12_44 =>
    Ld w_41 t12_44 fun t13_45 w_46 =>
    Pu (foldV0 max2V [t13_45, (Value.int IntKind.i64 0)]) fun t15_47 =>
    ∃ (I_48 : List Value → World → Prop) (m_49 : List Value → World → Nat), I_48 [t15_47] w_46 ∧
    ∀ (g_69 : Fr) (w_68 : World), ∀ n5_51 : Value, I_48 [n5_51] w_68 →
      (Pu (binV (TypeDesc.int IntKind.i64) .gtr n5_51 (Value.int IntKind.i64 127)) fun t17_70 =>
      IfB t17_70
        (Pu (nilV wv0) fun t22_71 =>
      Pu (faV 0 t22_71) fun t23_72 =>
      Ld w_68 t23_72 fun t24_73 w_74 =>
      Pu (cvI IntKind.u8 n5_51) fun t26_75 =>
      Pu (binV (TypeDesc.int IntKind.u8) .or t26_75 (Value.int IntKind.u8 128)) fun t27_76 =>
      RunS Try.prog (Instr.buildSlice 44 1 #[(0, t27_76)]) w_74 fun t28_77 w_78 =>
      RunS Try.prog (Builtin.append_ #[44, 44] 44 #[t24_73, t28_77]) w_78 fun t29_79 w_80 =>
      Pu (nilV wv0) fun t30_81 =>
      Pu (faV 0 t30_81) fun t31_82 =>
      St 1 w_80 t31_82 t29_79 fun u_83 w_84 =>
      Pu (binV (TypeDesc.int IntKind.i64) .shr n5_51 (Value.int IntKind.u64 7)) fun t19_85 =>
      I_48 [t19_85] w_84 ∧ m_49 [t19_85] w_84 < m_49 [n5_51] w_68)
        (Pu (nilV wv0) fun t34_86 =>
    Pu (faV 0 t34_86) fun t35_87 =>
    Ld w_68 t35_87 fun t36_88 w_89 =>
    Pu (cvI IntKind.u8 n5_51) fun t38_90 =>
    RunS Try.prog (Instr.buildSlice 44 1 #[(0, t38_90)]) w_89 fun t39_91 w_92 =>
    RunS Try.prog (Builtin.append_ #[44, 44] 44 #[t36_88, t39_91]) w_92 fun t40_93 w_94 =>
    Pu (nilV wv0) fun t41_95 =>
    Pu (faV 0 t41_95) fun t42_96 =>
    St 1 w_94 t42_96 t40_93 fun u_97 w_98 =>
    Pu (binV (TypeDesc.int IntKind.i64) .add t10_7 (Value.int IntKind.i64 1)) fun t43_99 =>
    I_3 [t43_99] w_98 ∧ m_4 [t43_99] w_98 < m_4 [t10_7] w_41)))
      (k (.tuple #[]) w_41)))
theorem e121 (k : KV) (wv0 : Value) (ns1 : Value) (w : World) : K KD Try.prog 44 (fun j => bif Nat.beq j 5 then [5] else bif Nat.beq j 2 then [10] else []) (fun j =>  none) (Try.f121.body.getD .skip) (retQ Try.prog Try.f121 k) (argF [wv0, ns1]) w = T121 k wv0 ns1 w := by kernel_rfl
theorem c121 {k : KV} {wv0 : Value} {ns1 : Value} {w : World} (h : T121 k wv0 ns1 w) : Cl Try.prog 121 [wv0, ns1] w k :=
  Cl_of_K KD_sound mixed Try.func121 (by kernel_rfl) (by kernel_rfl) ((e121 k wv0 ns1 w).symm ▸ h)

/-- Function 122: (*almonry/bits.Writer).Bytes. -/
def T122 (k : KV) (wv0 : Value) (w : World) : Prop :=
  Pu (binV (TypeDesc.pointer 181) .eql wv0 (Value.pointer none)) fun t4_1 =>
  IfB t4_1
    (k (Value.string (ByteArray.mk #[])) w)
    (Pu (nilV wv0) fun t6_2 =>
  Pu (faV 0 t6_2) fun t7_3 =>
  Ld w t7_3 fun t8_4 w_5 =>
  RunS Try.prog (convert 44 9 t8_4) w_5 fun t9_6 w_7 =>
  k t9_6 w_7)
theorem e122 (k : KV) (wv0 : Value) (w : World) : K KD Try.prog 10 (fun j =>  []) (fun j =>  none) (Try.f122.body.getD .skip) (retQ Try.prog Try.f122 k) (argF [wv0]) w = T122 k wv0 w := by kernel_rfl
theorem c122 {k : KV} {wv0 : Value} {w : World} (h : T122 k wv0 w) : Cl Try.prog 122 [wv0] w k :=
  Cl_of_K KD_sound mixed Try.func122 (by kernel_rfl) (by kernel_rfl) ((e122 k wv0 w).symm ▸ h)

/-- Function 123: almonry/almonryref08.taken. -/
def T123 (k : KV) (m0 : Value) (p1 : Value) (w : World) : Prop :=
  New (Value.cells p1) 95 w fun p3_1 w_2 =>
  Cl Try.prog 88 [m0] w_2 fun t15_3 w_4 =>
  Pu (unV .not t15_3) fun t16_5 =>
  IfB t16_5
    (k (.tuple #[(Value.int IntKind.i64 0), (Value.slice none 0 0), (Value.int IntKind.i64 1)]) w_4)
    (Pu (faV 1 p3_1) fun t17_6 =>
  Ld w_4 t17_6 fun t18_7 w_8 =>
  Pu (binV (TypeDesc.int IntKind.i64) .neq t18_7 (Value.int IntKind.i64 1)) fun t19_9 =>
  Gd (isB false t19_9) (fun kk => Pu (faV 0 p3_1) fun vv => kk vv w_8) w_8 fun t21_10 w_11 =>
  Gd (isB false t19_9) (fun kk => Ld w_11 t21_10 kk) w_11 fun t22_12 w_13 =>
  Gd (isB false t19_9) (fun kk => Pu (binV (TypeDesc.int IntKind.i64) .lss t22_12 (Value.int IntKind.i64 0)) fun vv => kk vv w_13) w_13 fun t23_14 w_15 =>
  Pu (pickV t19_9 (Value.bool true) t23_14) fun t24_16 =>
  Gd (isB false t24_16) (fun kk => Pu (faV 2 p3_1) fun vv => kk vv w_15) w_15 fun t26_17 w_18 =>
  Gd (isB false t24_16) (fun kk => Ld w_18 t26_17 kk) w_18 fun t27_19 w_20 =>
  Gd (isB false t24_16) (fun kk => Pu (binV (TypeDesc.int IntKind.i64) .neq t27_19 (Value.int IntKind.i64 0)) fun vv => kk vv w_20) w_20 fun t28_21 w_22 =>
  Pu (pickV t24_16 (Value.bool true) t28_21) fun t29_23 =>
  Gd (isB false t29_23) (fun kk => Pu (faV 3 p3_1) fun vv => kk vv w_22) w_22 fun t31_24 w_25 =>
  Gd (isB false t29_23) (fun kk => Ld w_25 t31_24 kk) w_25 fun t32_26 w_27 =>
  Gd (isB false t29_23) (fun kk => Pu (binV (TypeDesc.int IntKind.i64) .neq t32_26 (Value.int IntKind.i64 0)) fun vv => kk vv w_27) w_27 fun t33_28 w_29 =>
  Pu (pickV t29_23 (Value.bool true) t33_28) fun t34_30 =>
  Gd (isB false t34_30) (fun kk => Pu (faV 4 p3_1) fun vv => kk vv w_29) w_29 fun t36_31 w_32 =>
  Gd (isB false t34_30) (fun kk => Ld w_32 t36_31 kk) w_32 fun t37_33 w_34 =>
  Gd (isB false t34_30) (fun kk => Pu (binV TypeDesc.string .neq t37_33 (Value.string (ByteArray.mk #[]))) fun vv => kk vv w_34) w_34 fun t38_35 w_36 =>
  Pu (pickV t34_30 (Value.bool true) t38_35) fun t39_37 =>
  Gd (isB false t39_37) (fun kk => Pu (faV 5 p3_1) fun vv => kk vv w_36) w_36 fun t41_38 w_39 =>
  Gd (isB false t39_37) (fun kk => Ld w_39 t41_38 kk) w_39 fun t42_40 w_41 =>
  Gd (isB false t39_37) (fun kk => Pu (lenV t42_40) fun vv => kk vv w_41) w_41 fun t43_42 w_43 =>
  Gd (isB false t39_37) (fun kk => Pu (binV (TypeDesc.int IntKind.i64) .neq t43_42 (Value.int IntKind.i64 2)) fun vv => kk vv w_43) w_43 fun t44_44 w_45 =>
  Pu (pickV t39_37 (Value.bool true) t44_44) fun t45_46 =>
  Gd (isB false t45_46) (fun kk => Pu (faV 5 p3_1) fun vv => kk vv w_45) w_45 fun t47_47 w_48 =>
  Gd (isB false t45_46) (fun kk => Ld w_48 t47_47 kk) w_48 fun t48_49 w_50 =>
  Gd (isB false t45_46) (fun kk => Pu (ixV 1 t48_49 (Value.int IntKind.i64 1)) fun vv => kk vv w_50) w_50 fun t49_51 w_52 =>
  Gd (isB false t45_46) (fun kk => Ld w_52 t49_51 kk) w_52 fun t50_53 w_54 =>
  Gd (isB false t45_46) (fun kk => Pu (lenS t50_53) fun vv => kk vv w_54) w_54 fun t51_55 w_56 =>
  Gd (isB false t45_46) (fun kk => kk m0 w_56) w_56 fun t52_57 w_58 =>
  Gd (isB false t45_46) (fun kk => Pu (binV (TypeDesc.int IntKind.i64) .add t52_57 (Value.int IntKind.i64 3)) fun vv => kk vv w_58) w_58 fun t53_59 w_60 =>
  Gd (isB false t45_46) (fun kk => Pu (binV (TypeDesc.int IntKind.i64) .quo t53_59 (Value.int IntKind.i64 4)) fun vv => kk vv w_60) w_60 fun t54_61 w_62 =>
  Gd (isB false t45_46) (fun kk => Pu (binV (TypeDesc.int IntKind.i64) .neq t51_55 t54_61) fun vv => kk vv w_62) w_62 fun t55_63 w_64 =>
  Pu (pickV t45_46 (Value.bool true) t55_63) fun t56_65 =>
  IfB t56_65
    (k (.tuple #[(Value.int IntKind.i64 0), (Value.slice none 0 0), (Value.int IntKind.i64 31)]) w_64)
    (Pu (faV 5 p3_1) fun t57_66 =>
  Ld w_64 t57_66 fun t58_67 w_68 =>
  Pu (ixV 1 t58_67 (Value.int IntKind.i64 0)) fun t59_69 =>
  Ld w_68 t59_69 fun t60_70 w_71 =>
  RunS Try.prog (Instr.build 184 #[(0, t60_70)]) w_71 fun t61_72 w_73 =>
  New (Value.cells t61_72) 184 w_73 fun t62_74 w_75 =>
  Cl Try.prog 131 [t62_74, m0] w_75 fun t65_76 w_77 =>
  Cl Try.prog 132 [t62_74] w_77 fun t67_78 w_79 =>
  Pu (binV (TypeDesc.int IntKind.i64) .neq t67_78 (Value.int IntKind.i64 0)) fun t68_80 =>
  Gd (isB false t68_80) (fun kk => kk t65_76 w_79) w_79 fun t70_81 w_82 =>
  Gd (isB false t68_80) (fun kk => Pu (binV (TypeDesc.int IntKind.i64) .lss t70_81 (Value.int IntKind.i64 1)) fun vv => kk vv w_82) w_82 fun t71_83 w_84 =>
  Pu (pickV t68_80 (Value.bool true) t71_83) fun t72_85 =>
  IfB t72_85
    (k (.tuple #[(Value.int IntKind.i64 0), (Value.slice none 0 0), (Value.int IntKind.i64 31)]) w_84)
    (∃ (I_86 : List Value → World → Prop) (m_87 : List Value → World → Nat), I_86 [(Value.slice none 0 0), (Value.int IntKind.i64 0)] w_84 ∧
  ∀ (g_136 : Fr) (w_135 : World), ∀ out9_92 : Value, ∀ i10_93 : Value, I_86 [out9_92, i10_93] w_135 →
    (Pu (faV 5 p3_1) fun t74_137 =>
    Ld w_135 t74_137 fun t75_138 w_139 =>
    Pu (ixV 1 t75_138 (Value.int IntKind.i64 1)) fun t76_140 =>
    Ld w_139 t76_140 fun t77_141 w_142 =>
    Pu (lenS t77_141) fun t78_143 =>
    Pu (binV (TypeDesc.int IntKind.i64) .mul (Value.int IntKind.i64 4) t78_143) fun t79_144 =>
    Pu (binV (TypeDesc.int IntKind.i64) .lss i10_93 t79_144) fun t80_145 =>
    IfB t80_145
      (Jn (fun vs_183 w_182 => ∀ g_184 : Fr, ∃ out9_150 : Value, vs_183 = [out9_150] ∧
        (Pu (binV (TypeDesc.int IntKind.i64) .add i10_93 (Value.int IntKind.i64 1)) fun t82_185 =>
        I_86 [out9_150, t82_185] w_182 ∧ m_87 [out9_150, t82_185] w_182 < m_87 [out9_92, i10_93] w_135))
      (fun jj_146 =>
      Pu (faV 5 p3_1) fun t83_186 =>
      Ld w_142 t83_186 fun t84_187 w_188 =>
      Pu (ixV 1 t84_187 (Value.int IntKind.i64 1)) fun t85_189 =>
      Ld w_188 t85_189 fun t86_190 w_191 =>
      Pu (binV (TypeDesc.int IntKind.i64) .quo i10_93 (Value.int IntKind.i64 4)) fun t88_192 =>
      Pu (ixS t86_190 t88_192) fun t89_193 =>
      Pu (cvI IntKind.i64 t89_193) fun t90_194 =>
      ∃ (I_195 : List Value → World → Prop) (m_196 : List Value → World → Nat), I_195 [t90_194, (Value.int IntKind.i64 0)] w_191 ∧
      ∀ (g_209 : Fr) (w_208 : World), ∀ n11_198 : Value, ∀ kv12_199 : Value, I_195 [n11_198, kv12_199] w_208 →
        (Pu (binV (TypeDesc.int IntKind.i64) .rem i10_93 (Value.int IntKind.i64 4)) fun t93_210 =>
        Pu (binV (TypeDesc.int IntKind.i64) .lss kv12_199 t93_210) fun t94_211 =>
        IfB t94_211
          (Pu (binV (TypeDesc.int IntKind.i64) .quo n11_198 (Value.int IntKind.i64 4)) fun t98_212 =>
        Pu (binV (TypeDesc.int IntKind.i64) .add kv12_199 (Value.int IntKind.i64 1)) fun t96_213 =>
        I_195 [t98_212, t96_213] w_208 ∧ m_196 [t98_212, t96_213] w_208 < m_196 [n11_198, kv12_199] w_208)
          (Pu (binV (TypeDesc.int IntKind.i64) .rem n11_198 (Value.int IntKind.i64 4)) fun t100_214 =>
      Pu (cvI IntKind.u8 t100_214) fun t101_215 =>
      Pu (binV (TypeDesc.int IntKind.i64) .lss i10_93 m0) fun t104_216 =>
      IfB t104_216
        (RunS Try.prog (Instr.buildSlice 170 1 #[(0, t101_215)]) w_208 fun t107_217 w_218 =>
          RunS Try.prog (Builtin.append_ #[170, 170] 170 #[out9_92, t107_217]) w_218 fun t108_219 w_220 =>
          jj_146 [t108_219] w_220)
        (Pu (binV (TypeDesc.int IntKind.u8) .neq t101_215 (Value.int IntKind.u8 0)) fun t110_221 =>
          IfB t110_221
            (k (.tuple #[(Value.int IntKind.i64 0), (Value.slice none 0 0), (Value.int IntKind.i64 31)]) w_208)
            (jj_146 [out9_92] w_208))))))
      (k (.tuple #[t65_76, out9_92, (Value.int IntKind.i64 0)]) w_142)))))
theorem e123 (k : KV) (m0 : Value) (p1 : Value) (w : World) : K KD Try.prog 113 (fun j => bif Nat.beq j 15 then [11, 12] else bif Nat.beq j 11 then [9, 10] else []) (fun j => bif Nat.beq j 12 then some [9] else none) (Try.f123.body.getD .skip) (retQ Try.prog Try.f123 k) (argF [m0, p1]) w = T123 k m0 p1 w := by kernel_rfl
theorem c123 {k : KV} {m0 : Value} {p1 : Value} {w : World} (h : T123 k m0 p1 w) : Cl Try.prog 123 [m0, p1] w k :=
  Cl_of_K KD_sound mixed Try.func123 (by kernel_rfl) (by kernel_rfl) ((e123 k m0 p1 w).symm ▸ h)

/-- Function 127: almonry/xid.modulus. -/
def T127 (k : KV) (m0 : Value) (w : World) : Prop :=
  Pu (binV (TypeDesc.int IntKind.i64) .geq m0 (Value.int IntKind.i64 16)) fun t4_1 =>
  Gd (isB true t4_1) (fun kk => kk m0 w) w fun t6_2 w_3 =>
  Gd (isB true t4_1) (fun kk => Pu (binV (TypeDesc.int IntKind.i64) .leq t6_2 (Value.int IntKind.i64 1024)) fun vv => kk vv w_3) w_3 fun t7_4 w_5 =>
  Pu (pickV t4_1 t7_4 (Value.bool false)) fun t8_6 =>
  Gd (isB true t8_6) (fun kk => kk m0 w_5) w_5 fun t10_7 w_8 =>
  Gd (isB true t8_6) (fun kk => Pu (binV (TypeDesc.int IntKind.i64) .and t10_7 (Value.int IntKind.i64 1)) fun vv => kk vv w_8) w_8 fun t11_9 w_10 =>
  Gd (isB true t8_6) (fun kk => Pu (binV (TypeDesc.int IntKind.i64) .eql t11_9 (Value.int IntKind.i64 0)) fun vv => kk vv w_10) w_10 fun t12_11 w_12 =>
  Pu (pickV t8_6 t12_11 (Value.bool false)) fun t13_13 =>
  k t13_13 w_12
theorem e127 (k : KV) (m0 : Value) (w : World) : K KD Try.prog 14 (fun j =>  []) (fun j =>  none) (Try.f127.body.getD .skip) (retQ Try.prog Try.f127 k) (argF [m0]) w = T127 k m0 w := by kernel_rfl
theorem c127 {k : KV} {m0 : Value} {w : World} (h : T127 k m0 w) : Cl Try.prog 127 [m0] w k :=
  Cl_of_K KD_sound mixed Try.func127 (by kernel_rfl) (by kernel_rfl) ((e127 k m0 w).symm ▸ h)

/-- Function 128: (*almonry/bits.Reader).fail. -/
def T128 (k : KV) (r0 : Value) (e1 : Value) (w : World) : Prop :=
  Pu (nilV r0) fun t8_1 =>
  Pu (faV 0 t8_1) fun t9_2 =>
  St 1 w t9_2 (Value.string (ByteArray.mk #[])) fun u_3 w_4 =>
  Pu (nilV r0) fun t10_5 =>
  Pu (faV 1 t10_5) fun t11_6 =>
  St 1 w_4 t11_6 e1 fun u_7 w_8 =>
  k (Value.int IntKind.i64 0) w_8
theorem e128 (k : KV) (r0 : Value) (e1 : Value) (w : World) : K KD Try.prog 12 (fun j =>  []) (fun j =>  none) (Try.f128.body.getD .skip) (retQ Try.prog Try.f128 k) (argF [r0, e1]) w = T128 k r0 e1 w := by kernel_rfl
theorem c128 {k : KV} {r0 : Value} {e1 : Value} {w : World} (h : T128 k r0 e1 w) : Cl Try.prog 128 [r0, e1] w k :=
  Cl_of_K KD_sound mixed Try.func128 (by kernel_rfl) (by kernel_rfl) ((e128 k r0 e1 w).symm ▸ h)

/-- Function 129: (*almonry/bits.Reader).Err. -/
def T129 (k : KV) (r0 : Value) (w : World) : Prop :=
  Pu (binV (TypeDesc.pointer 178) .eql r0 (Value.pointer none)) fun t4_1 =>
  IfB t4_1
    (k (Value.int IntKind.i64 2) w)
    (Pu (nilV r0) fun t6_2 =>
  Pu (faV 1 t6_2) fun t7_3 =>
  Ld w t7_3 fun t8_4 w_5 =>
  k t8_4 w_5)
theorem e129 (k : KV) (r0 : Value) (w : World) : K KD Try.prog 9 (fun j =>  []) (fun j =>  none) (Try.f129.body.getD .skip) (retQ Try.prog Try.f129 k) (argF [r0]) w = T129 k r0 w := by kernel_rfl
theorem c129 {k : KV} {r0 : Value} {w : World} (h : T129 k r0 w) : Cl Try.prog 129 [r0] w k :=
  Cl_of_K KD_sound mixed Try.func129 (by kernel_rfl) (by kernel_rfl) ((e129 k r0 w).symm ▸ h)

/-- Function 130: (*almonry/bits.Reader).Left. -/
def T130 (k : KV) (r0 : Value) (w : World) : Prop :=
  Pu (binV (TypeDesc.pointer 178) .eql r0 (Value.pointer none)) fun t4_1 =>
  IfB t4_1
    (k (Value.int IntKind.i64 0) w)
    (Pu (nilV r0) fun t6_2 =>
  Pu (faV 0 t6_2) fun t7_3 =>
  Ld w t7_3 fun t8_4 w_5 =>
  Pu (lenS t8_4) fun t9_6 =>
  k t9_6 w_5)
theorem e130 (k : KV) (r0 : Value) (w : World) : K KD Try.prog 10 (fun j =>  []) (fun j =>  none) (Try.f130.body.getD .skip) (retQ Try.prog Try.f130 k) (argF [r0]) w = T130 k r0 w := by kernel_rfl
theorem c130 {k : KV} {r0 : Value} {w : World} (h : T130 k r0 w) : Cl Try.prog 130 [r0] w k :=
  Cl_of_K KD_sound mixed Try.func130 (by kernel_rfl) (by kernel_rfl) ((e130 k r0 w).symm ▸ h)

/-- Function 131: (*almonry/almonryref01.Reader).Num. -/
def T131 (k : KV) (r0 : Value) (most1 : Value) (w : World) : Prop :=
  Pu (nilV r0) fun t10_1 =>
  Pu (faV 2 t10_1) fun t11_2 =>
  Ld w t11_2 fun t12_3 w_4 =>
  Pu (binV (TypeDesc.int IntKind.i64) .neq t12_3 (Value.int IntKind.i64 0)) fun t13_5 =>
  IfB t13_5
    (k (Value.int IntKind.i64 0) w_4)
    (∃ (I_6 : List Value → World → Prop) (m_7 : List Value → World → Nat), I_6 [(Value.int IntKind.i64 0), (Value.int IntKind.i64 1), (Value.int IntKind.i64 1)] w_4 ∧
  ∀ (g_79 : Fr) (w_78 : World), ∀ n5_10 : Value, ∀ unit6_11 : Value, ∀ kv7_12 : Value, I_6 [n5_10, unit6_11, kv7_12] w_78 →
    (Pu (nilV r0) fun t17_80 =>
    Pu (faV 1 t17_80) fun t18_81 =>
    Ld (World.drew w_78) t18_81 fun t19_82 w_83 =>
    w_83 = (World.drew w_78) ∧
    Pu (binV (TypeDesc.int IntKind.i64) .add t19_82 kv7_12) fun t21_84 =>
    Pu (nilV r0) fun t23_85 =>
    Pu (faV 0 t23_85) fun t24_86 =>
    Ld (World.drew w_78) t24_86 fun t25_87 w_88 =>
    w_88 = (World.drew w_78) ∧
    Pu (lenS t25_87) fun t26_89 =>
    Pu (binV (TypeDesc.int IntKind.i64) .gtr t21_84 t26_89) fun t27_90 =>
    IfB t27_90
      (Cl Try.prog 144 [r0, (Value.int IntKind.i64 10)] (World.drew w_78) fun t29_91 w_92 =>
        k t29_91 w_92)
      (Pu (nilV r0) fun t31_93 =>
    Pu (faV 0 t31_93) fun t32_94 =>
    Ld (World.drew (World.drew w_78)) t32_94 fun t33_95 w_96 =>
    w_96 = (World.drew (World.drew w_78)) ∧
    Pu (nilV r0) fun t35_97 =>
    Pu (faV 1 t35_97) fun t36_98 =>
    Ld (World.drew (World.drew w_78)) t36_98 fun t37_99 w_100 =>
    w_100 = (World.drew (World.drew w_78)) ∧
    Pu (binV (TypeDesc.int IntKind.i64) .add t37_99 kv7_12) fun t39_101 =>
    Pu (binV (TypeDesc.int IntKind.i64) .sub t39_101 (Value.int IntKind.i64 1)) fun t40_102 =>
    Pu (ixS t33_95 t40_102) fun t41_103 =>
    Pu (cvI IntKind.i64 t41_103) fun t42_104 =>
    Pu (binV (TypeDesc.int IntKind.i64) .eql kv7_12 (Value.int IntKind.i64 9)) fun t44_105 =>
    Gd (isB true t44_105) (fun kk => kk t42_104 (World.drew (World.drew w_78))) (World.drew (World.drew w_78)) fun t46_106 w_107 =>
    Gd (isB true t44_105) (fun kk => Pu (binV (TypeDesc.int IntKind.i64) .geq t46_106 (Value.int IntKind.i64 128)) fun vv => kk vv w_107) w_107 fun t47_108 w_109 =>
    Pu (pickV t44_105 t47_108 (Value.bool false)) fun t48_110 =>
    Gd (isB false t48_110) (fun kk => kk t42_104 w_109) w_109 fun t50_111 w_112 =>
    Gd (isB false t48_110) (fun kk => Pu (binV (TypeDesc.int IntKind.i64) .eql t50_111 (Value.int IntKind.i64 0)) fun vv => kk vv w_112) w_112 fun t51_113 w_114 =>
    Gd (isB false t48_110) (fun kk => kk t51_113 w_114) w_114 fun t52_115 w_116 =>
    Gd (isB true t52_115) (fun kk => kk kv7_12 w_116) w_116 fun t53_117 w_118 =>
    Gd (isB true t52_115) (fun kk => Pu (binV (TypeDesc.int IntKind.i64) .gtr t53_117 (Value.int IntKind.i64 1)) fun vv => kk vv w_118) w_118 fun t54_119 w_120 =>
    Gd (isB false t48_110) (fun kk => Pu (pickV t52_115 t54_119 (Value.bool false)) fun vv => kk vv w_120) w_120 fun t55_121 w_122 =>
    Pu (pickV t48_110 (Value.bool true) t55_121) fun t56_123 =>
    IfB t56_123
      (Cl Try.prog 144 [r0, (Value.int IntKind.i64 11)] w_122 fun t58_124 w_125 =>
        k t58_124 w_125)
      (Pu (binV (TypeDesc.int IntKind.i64) .rem t42_104 (Value.int IntKind.i64 128)) fun t61_126 =>
    Pu (binV (TypeDesc.int IntKind.i64) .mul t61_126 unit6_11) fun t63_127 =>
    Pu (binV (TypeDesc.int IntKind.i64) .add n5_10 t63_127) fun t64_128 =>
    Pu (binV (TypeDesc.int IntKind.i64) .lss t42_104 (Value.int IntKind.i64 128)) fun t66_129 =>
    IfB t66_129
      (Pu (nilV r0) fun t69_130 =>
        Pu (faV 1 t69_130) fun t70_131 =>
        Ld w_122 t70_131 fun t71_132 w_133 =>
        Pu (binV (TypeDesc.int IntKind.i64) .add t71_132 kv7_12) fun t73_134 =>
        Pu (nilV r0) fun t74_135 =>
        Pu (faV 1 t74_135) fun t75_136 =>
        St 1 w_133 t75_136 t73_134 fun u_137 w_138 =>
        Pu (foldV0 max2V [most1, (Value.int IntKind.i64 0)]) fun t80_139 =>
  Pu (binV (TypeDesc.int IntKind.i64) .gtr t64_128 t80_139) fun t81_140 =>
  IfB t81_140
    (Cl Try.prog 144 [r0, (Value.int IntKind.i64 11)] w_138 fun t83_141 w_142 =>
      k t83_141 w_142)
    (k t64_128 w_138))
      (Pu (binV (TypeDesc.int IntKind.i64) .mul (Value.int IntKind.i64 128) unit6_11) fun t77_143 =>
    Pu (binV (TypeDesc.int IntKind.i64) .add kv7_12 (Value.int IntKind.i64 1)) fun t15_144 =>
    I_6 [t64_128, t77_143, t15_144] w_122 ∧ m_7 [t64_128, t77_143, t15_144] w_122 < m_7 [n5_10, unit6_11, kv7_12] w_78)))))
theorem e131 (k : KV) (r0 : Value) (most1 : Value) (w : World) : K KD Try.prog 85 (fun j => bif Nat.beq j 7 then [5, 6, 7] else []) (fun j =>  none) (Try.f131.body.getD .skip) (retQ Try.prog Try.f131 k) (argF [r0, most1]) w = T131 k r0 most1 w := by kernel_rfl
theorem c131 {k : KV} {r0 : Value} {most1 : Value} {w : World} (h : T131 k r0 most1 w) : Cl Try.prog 131 [r0, most1] w k :=
  Cl_of_K KD_sound mixed Try.func131 (by kernel_rfl) (by kernel_rfl) ((e131 k r0 most1 w).symm ▸ h)

/-- Function 132: (*almonry/almonryref01.Reader).End. -/
def T132 (k : KV) (r0 : Value) (w : World) : Prop :=
  Pu (nilV r0) fun t4_1 =>
  Pu (faV 2 t4_1) fun t5_2 =>
  Ld (World.drew w) t5_2 fun t6_3 w_4 =>
  w_4 = (World.drew w) ∧
  Pu (binV (TypeDesc.int IntKind.i64) .eql t6_3 (Value.int IntKind.i64 0)) fun t7_5 =>
  Gd (isB true t7_5) (fun kk => kk r0 (World.drew w)) (World.drew w) fun t9_6 w_7 =>
  Gd (isB true t7_5) (fun kk => Pu (nilV t9_6) fun vv => kk vv w_7) w_7 fun t10_8 w_9 =>
  Gd (isB true t7_5) (fun kk => Pu (faV 1 t10_8) fun vv => kk vv w_9) w_9 fun t11_10 w_11 =>
  Gd (isB true t7_5) (fun kk => Ld w_11 t11_10 kk) w_11 fun t12_12 w_13 =>
  w_13 = w_11 ∧
  Gd (isB true t7_5) (fun kk => kk r0 w_11) w_11 fun t13_14 w_15 =>
  Gd (isB true t7_5) (fun kk => Pu (nilV t13_14) fun vv => kk vv w_15) w_15 fun t14_16 w_17 =>
  Gd (isB true t7_5) (fun kk => Pu (faV 0 t14_16) fun vv => kk vv w_17) w_17 fun t15_18 w_19 =>
  Gd (isB true t7_5) (fun kk => Ld w_19 t15_18 kk) w_19 fun t16_20 w_21 =>
  w_21 = w_19 ∧
  Gd (isB true t7_5) (fun kk => Pu (lenS t16_20) fun vv => kk vv w_19) w_19 fun t17_22 w_23 =>
  Gd (isB true t7_5) (fun kk => Pu (binV (TypeDesc.int IntKind.i64) .lss t12_12 t17_22) fun vv => kk vv w_23) w_23 fun t18_24 w_25 =>
  Pu (pickV t7_5 t18_24 (Value.bool false)) fun t19_26 =>
  IfB t19_26
    (k (Value.int IntKind.i64 12) w_25)
    (Pu (nilV r0) fun t21_27 =>
  Pu (faV 2 t21_27) fun t22_28 =>
  Ld w_25 t22_28 fun t23_29 w_30 =>
  k t23_29 w_30)
theorem e132 (k : KV) (r0 : Value) (w : World) : K KD Try.prog 24 (fun j =>  []) (fun j =>  none) (Try.f132.body.getD .skip) (retQ Try.prog Try.f132 k) (argF [r0]) w = T132 k r0 w := by kernel_rfl
theorem c132 {k : KV} {r0 : Value} {w : World} (h : T132 k r0 w) : Cl Try.prog 132 [r0] w k :=
  Cl_of_K KD_sound mixed Try.func132 (by kernel_rfl) (by kernel_rfl) ((e132 k r0 w).symm ▸ h)

/-- Function 144: (*almonry/almonryref01.Reader).wrong. -/
def T144 (k : KV) (r0 : Value) (e1 : Value) (w : World) : Prop :=
  Pu (nilV r0) fun t7_1 =>
  Pu (faV 2 t7_1) fun t8_2 =>
  St 1 w t8_2 e1 fun u_3 w_4 =>
  k (Value.int IntKind.i64 0) w_4
theorem e144 (k : KV) (r0 : Value) (e1 : Value) (w : World) : K KD Try.prog 9 (fun j =>  []) (fun j =>  none) (Try.f144.body.getD .skip) (retQ Try.prog Try.f144 k) (argF [r0, e1]) w = T144 k r0 e1 w := by kernel_rfl
theorem c144 {k : KV} {r0 : Value} {e1 : Value} {w : World} (h : T144 k r0 e1 w) : Cl Try.prog 144 [r0, e1] w k :=
  Cl_of_K KD_sound mixed Try.func144 (by kernel_rfl) (by kernel_rfl) ((e144 k r0 e1 w).symm ▸ h)

end Go.Proofs.Ythgdinjgdjiknaa
