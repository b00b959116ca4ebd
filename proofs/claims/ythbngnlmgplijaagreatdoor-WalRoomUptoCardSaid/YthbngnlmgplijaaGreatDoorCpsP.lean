import Derived.Test.YthbngnlmgplijaaGreatDoorAlDraw2
import Derived.Test.YthbngnlmgplijaaGreatDoorRows
namespace Go.Proofs.YthbngnlmgplijaaGreatDoor
open Go.Al Go.Proofs
set_option maxRecDepth 100000
set_option linter.unusedVariables false
set_option linter.unusedSimpArgs false
theorem mixed : Tryz.prog.follows .mixedOrders = true := by kernel_rfl
/-- Function 103: almonry/page.Encode. -/
def T103 (k : KV) (p0 : Value) (w : World) : Prop :=
  New (Value.cells p0) 61 w fun p1_1 w_2 =>
  Jn (fun vs_26 w_25 => ∀ g_27 : Fr, ∃ t7_4 : Value, vs_26 = [t7_4] ∧
      (IfB t7_4
        (k (.tuple #[(Value.string (ByteArray.mk #[])), (Value.int IntKind.i64 4)]) w_25)
        (Jn (fun vs_38 w_37 => ∀ g_39 : Fr, ∃ t28_29 : Value, vs_38 = [t28_29] ∧
              (IfB t28_29
                (k (.tuple #[(Value.string (ByteArray.mk #[])), (Value.int IntKind.i64 3)]) w_37)
                (New #[(Value.pointer none), (Value.slice none 0 0)] 202 w_37 fun b4_40 w_41 =>
  ∃ C_42 : World → Prop, C_42 (World.drew w_41) ∧
  (Pu (faV 0 p1_1) fun t36_43 =>
  Ld (World.drew w_41) t36_43 fun t37_44 w_45 =>
  w_45 = (World.drew w_41) ∧
  Pu (faV 1 p1_1) fun t39_46 =>
  ∃ t40_47, (∀ w_48, C_42 w_48 → Ld w_48 t39_46 fun t40_49 w_50 =>
  t40_49 = t40_47 ∧ w_50 = w_48) ∧
  (Pu (faV 2 p1_1) fun t43_51 =>
  ∃ t44_52, (∀ w_53, C_42 w_53 → Ld w_53 t43_51 fun t44_54 w_55 =>
  t44_54 = t44_52 ∧ w_55 = w_53) ∧
  (Pu (faV 3 p1_1) fun t47_56 =>
  ∃ t48_57, (∀ w_58, C_42 w_58 → Ld w_58 t47_56 fun t48_59 w_60 =>
  t48_59 = t48_57 ∧ w_60 = w_58) ∧
  (Cl Tryz.prog 115 [t37_44, (Value.int IntKind.i64 8)] (World.drew w_41) fun t38_61 w_62 =>
  C_42 w_62 ∧
  (Cl Tryz.prog 115 [t40_47, (Value.int IntKind.i64 1)] w_62 fun t41_63 w_64 =>
  C_42 w_64 ∧
  (Pu (binV TypeDesc.string .add t38_61 t41_63) fun t42_65 =>
  Cl Tryz.prog 115 [t44_52, (Value.int IntKind.i64 1)] w_64 fun t45_66 w_67 =>
  C_42 w_67 ∧
  (Pu (binV TypeDesc.string .add t42_65 t45_66) fun t46_68 =>
  Cl Tryz.prog 115 [t48_57, (Value.int IntKind.i64 4)] w_67 fun t49_69 w_70 =>
  Pu (binV TypeDesc.string .add t46_68 t49_69) fun t50_71 =>
  Cl Tryz.prog 176 [b4_40, t50_71] w_70 fun t51_72 w_73 =>
  ∃ C_74 : World → Prop, C_74 (World.drew w_73) ∧
  (Pu (faV 5 p1_1) fun t52_75 =>
  Ld (World.drew w_73) t52_75 fun t53_76 w_77 =>
  w_77 = (World.drew w_73) ∧
  Pu (lenV t53_76) fun t54_78 =>
  Pu (faV 4 p1_1) fun t56_79 =>
  ∃ t57_80, (∀ w_81, C_74 w_81 → Ld w_81 t56_79 fun t57_82 w_83 =>
  t57_82 = t57_80 ∧ w_83 = w_81) ∧
  (Pu (lenS t57_80) fun t58_84 =>
  Pu (faV 4 p1_1) fun t61_85 =>
  ∃ t62_86, (∀ w_87, C_74 w_87 → Ld w_87 t61_85 fun t62_88 w_89 =>
  t62_88 = t62_86 ∧ w_89 = w_87) ∧
  (Cl Tryz.prog 115 [t54_78, (Value.int IntKind.i64 1)] (World.drew w_73) fun t55_90 w_91 =>
  C_74 w_91 ∧
  (Cl Tryz.prog 115 [t58_84, (Value.int IntKind.i64 1)] w_91 fun t59_92 w_93 =>
  C_74 w_93 ∧
  (Pu (binV TypeDesc.string .add t55_90 t59_92) fun t60_94 =>
  Pu (binV TypeDesc.string .add t60_94 t62_86) fun t63_95 =>
  Cl Tryz.prog 176 [b4_40, t63_95] w_93 fun t64_96 w_97 =>
  Pu (faV 5 p1_1) fun t65_98 =>
  Ld w_97 t65_98 fun t66_99 w_100 =>
  Pu (lenV t66_99) fun t67_101 =>
  ∃ (I_102 : List Value → World → Prop) (m_103 : List Value → World → Nat), I_102 [(Value.int IntKind.i64 0)] w_100 ∧
  ∀ (g_118 : Fr) (w_117 : World), ∀ t68_106 : Value, I_102 [t68_106] w_117 →
    (Pu (binV (TypeDesc.int IntKind.i64) .lss t68_106 t67_101) fun t69_119 =>
    IfB t69_119
      (Pu (ixV 1 t66_99 t68_106) fun t70_120 =>
    Ld w_117 t70_120 fun t71_121 w_122 =>
    Pu (lenS t71_121) fun t73_123 =>
    Cl Tryz.prog 115 [t73_123, (Value.int IntKind.i64 2)] w_122 fun t74_124 w_125 =>
    Pu (binV TypeDesc.string .add t74_124 t71_121) fun t76_126 =>
    Cl Tryz.prog 176 [b4_40, t76_126] w_125 fun t77_127 w_128 =>
    Pu (binV (TypeDesc.int IntKind.i64) .add t68_106 (Value.int IntKind.i64 1)) fun t78_129 =>
    I_102 [t78_129] w_128 ∧ m_103 [t78_129] w_128 < m_103 [t68_106] w_117)
      (Cl Tryz.prog 177 [b4_40] w_117 fun t79_130 w_131 =>
  Pu (binV (TypeDesc.int IntKind.i64) .sub (Value.int IntKind.i64 508) t79_130) fun t80_132 =>
  Cl Tryz.prog 95 [(Value.string (ByteArray.mk #[0])), t80_132] w_131 fun t81_133 w_134 =>
  Cl Tryz.prog 176 [b4_40, t81_133] w_134 fun t82_135 w_136 =>
  Cl Tryz.prog 178 [b4_40] w_136 fun t83_137 w_138 =>
  Cl Tryz.prog 80 [t83_137] w_138 fun t84_139 w_140 =>
  Pu (cvI IntKind.i64 t84_139) fun t85_141 =>
  Cl Tryz.prog 115 [t85_141, (Value.int IntKind.i64 4)] w_140 fun t86_142 w_143 =>
  Cl Tryz.prog 178 [b4_40] w_143 fun t87_144 w_145 =>
  Pu (binV TypeDesc.string .add t86_142 t87_144) fun t88_146 =>
  k (.tuple #[t88_146, (Value.int IntKind.i64 0)]) w_145)))))))))))))))))
            (fun jj_28 =>
            Pu (faV 4 p1_1) fun t29_147 =>
            Ld w_25 t29_147 fun t30_148 w_149 =>
            Pu (lenS t30_148) fun t31_150 =>
            Pu (binV (TypeDesc.int IntKind.i64) .gtr t31_150 (Value.int IntKind.i64 255)) fun t32_151 =>
            IfB t32_151
              (jj_28 [t32_151] w_149)
              (LdN 6 w_149 p1_1 fun t33_152 w_153 =>
                Cl Tryz.prog 180 [t33_152] w_153 fun t34_154 w_155 =>
                Pu (unV .not t34_154) fun t35_156 =>
                jj_28 [t35_156] w_155)))))
    (fun jj_3 =>
    Pu (faV 0 p1_1) fun t8_157 =>
    Ld w_2 t8_157 fun t9_158 w_159 =>
    Pu (faV 2 p1_1) fun t10_160 =>
    Ld w_159 t10_160 fun t11_161 w_162 =>
    Pu (faV 3 p1_1) fun t12_163 =>
    Ld w_162 t12_163 fun t13_164 w_165 =>
    Pu (foldV0 min2V [t9_158, t11_161, t13_164]) fun t14_166 =>
    Pu (binV (TypeDesc.int IntKind.i64) .lss t14_166 (Value.int IntKind.i64 0)) fun t15_167 =>
    IfB t15_167
      (jj_3 [t15_167] w_165)
      (Pu (faV 1 p1_1) fun t16_168 =>
        Ld w_165 t16_168 fun t17_169 w_170 =>
        Pu (binV (TypeDesc.int IntKind.i64) .lss t17_169 (Value.int IntKind.i64 1)) fun t18_171 =>
        IfB t18_171
          (jj_3 [t18_171] w_170)
          (Pu (faV 1 p1_1) fun t19_172 =>
            Ld w_170 t19_172 fun t20_173 w_174 =>
            Pu (binV (TypeDesc.int IntKind.i64) .gtr t20_173 (Value.int IntKind.i64 3)) fun t21_175 =>
            IfB t21_175
              (jj_3 [t21_175] w_174)
              (Pu (faV 2 p1_1) fun t22_176 =>
                Ld w_174 t22_176 fun t23_177 w_178 =>
                Pu (binV (TypeDesc.int IntKind.i64) .gtr t23_177 (Value.int IntKind.i64 255)) fun t24_179 =>
                IfB t24_179
                  (jj_3 [t24_179] w_178)
                  (Pu (faV 3 p1_1) fun t25_180 =>
                    Ld w_178 t25_180 fun t26_181 w_182 =>
                    Pu (binV (TypeDesc.int IntKind.i64) .gtr t26_181 (Value.int IntKind.i64 4294967295)) fun t27_183 =>
                    jj_3 [t27_183] w_182)))))
theorem e103 (k : KV) (p0 : Value) (w : World) : K KD Tryz.prog 89 (fun j => bif Nat.beq j 14 then [68] else []) (fun j => bif Nat.beq j 6 then some [7] else bif Nat.beq j 9 then some [28] else none) (Tryz.f103.body.getD .skip) (retQ Tryz.prog Tryz.f103 k) (argF [p0]) w = T103 k p0 w := by kernel_rfl
theorem c103 {k : KV} {p0 : Value} {w : World} (h : T103 k p0 w) : Cl Tryz.prog 103 [p0] w k :=
  Cl_of_K KD_sound mixed Tryz.func103 (by kernel_rfl) (by kernel_rfl) ((e103 k p0 w).symm ▸ h)

/-- Function 41: almonry/page.Decode. -/
def T41 (k : KV) (data0 : Value) (w : World) : Prop :=
  New #[(Value.int IntKind.i64 0), (Value.int IntKind.i64 0), (Value.int IntKind.i64 0), (Value.int IntKind.i64 0), (Value.string (ByteArray.mk #[])), (Value.slice none 0 0)] 61 w fun t2_1 w_2 =>
  Pu (lenS data0) fun t11_3 =>
  Pu (binV (TypeDesc.int IntKind.i64) .neq t11_3 (Value.int IntKind.i64 512)) fun t12_4 =>
  IfB t12_4
    (RunS Tryz.prog (Instr.build 61 #[]) w_2 fun t13_5 w_6 =>
      St 6 w_6 t2_1 t13_5 fun u_7 w_8 =>
      RetO (resL Tryz.prog (fun j => bif Nat.beq j 2 then t2_1 else bif Nat.beq j 3 then (Value.int IntKind.i64 31) else undef) w_8 [(ResultVar.cell 2 61), (ResultVar.tmp 3)]) w_8 k)
    (Pu (slS data0 (some (Value.int IntKind.i64 4)) none) fun t15_9 =>
  Pu (slS data0 none (some (Value.int IntKind.i64 4))) fun t20_10 =>
  Cl Tryz.prog 80 [t15_9] (World.drew w_2) fun t16_11 w_12 =>
  Pu (cvI IntKind.i64 t16_11) fun t17_13 =>
  Cl Tryz.prog 115 [t17_13, (Value.int IntKind.i64 4)] w_12 fun t18_14 w_15 =>
  Pu (binV TypeDesc.string .neq t18_14 t20_10) fun t21_16 =>
  IfB t21_16
    (RunS Tryz.prog (Instr.build 61 #[]) w_15 fun t22_17 w_18 =>
      St 6 w_18 t2_1 t22_17 fun u_19 w_20 =>
      RetO (resL Tryz.prog (fun j => bif Nat.beq j 2 then t2_1 else bif Nat.beq j 3 then (Value.int IntKind.i64 30) else undef) w_20 [(ResultVar.cell 2 61), (ResultVar.tmp 3)]) w_20 k)
    (Jn (fun vs_37 w_36 => ∀ g_38 : Fr, ∃ p4_22 : Value, vs_37 = [p4_22] ∧
      (Pu (slS data0 (some (Value.int IntKind.i64 20)) none) fun t37_39 =>
      New #[(Value.string (ByteArray.mk #[]))] 9 w_36 fun rest5_40 w_41 =>
      St 1 w_41 rest5_40 t37_39 fun u_42 w_43 =>
      Pu (ixS data0 (Value.int IntKind.i64 19)) fun t40_44 =>
      Pu (cvI IntKind.i64 t40_44) fun t41_45 =>
      Cl Tryz.prog 116 [rest5_40, t41_45] w_43 fun t42_46 w_47 =>
      Pu (extV t42_46 0) fun t43_48 =>
      Pu (extV t42_46 1) fun t44_49 =>
      Pu (faV 4 p4_22) fun t45_50 =>
      St 1 w_47 t45_50 t43_48 fun u_51 w_52 =>
      Pu (ixS data0 (Value.int IntKind.i64 18)) fun t47_53 =>
      Pu (cvI IntKind.i64 t47_53) fun t48_54 =>
      ∃ (I_55 : List Value → World → Prop) (m_56 : List Value → World → Nat), I_55 [(Value.int IntKind.i64 0)] w_52 ∧
      ∀ (g_90 : Fr) (w_89 : World), ∀ t49_63 : Value, I_55 [t49_63] w_89 →
        (Pu (binV (TypeDesc.int IntKind.i64) .lss t49_63 t48_54) fun t50_91 =>
        IfB t50_91
          (Cl Tryz.prog 116 [rest5_40, (Value.int IntKind.i64 2)] w_89 fun t52_92 w_93 =>
        Pu (extV t52_92 0) fun t53_94 =>
        Pu (extV t52_92 1) fun t54_95 =>
        Cl Tryz.prog 79 [t53_94] w_93 fun t57_96 w_97 =>
        Cl Tryz.prog 116 [rest5_40, t57_96] w_97 fun t58_98 w_99 =>
        Pu (extV t58_98 0) fun t59_100 =>
        Pu (extV t58_98 1) fun t60_101 =>
        Pu (unV .not t54_95) fun t62_102 =>
        Gd (isB false t62_102) (fun kk => kk t60_101 w_99) w_99 fun t64_103 w_104 =>
        Gd (isB false t62_102) (fun kk => Pu (unV .not t64_103) fun vv => kk vv w_104) w_104 fun t65_105 w_106 =>
        Pu (pickV t62_102 (Value.bool true) t65_105) fun t66_107 =>
        IfB t66_107
          (RunS Tryz.prog (Instr.build 61 #[]) w_106 fun t67_108 w_109 =>
            St 6 w_109 t2_1 t67_108 fun u_110 w_111 =>
            RetO (resL Tryz.prog (fun j => bif Nat.beq j 2 then t2_1 else bif Nat.beq j 3 then (Value.int IntKind.i64 31) else undef) w_111 [(ResultVar.cell 2 61), (ResultVar.tmp 3)]) w_111 k)
          (Pu (faV 5 p4_22) fun t68_112 =>
        Ld w_106 t68_112 fun t69_113 w_114 =>
        RunS Tryz.prog (Instr.buildSlice 59 1 #[(0, t59_100)]) w_114 fun t71_115 w_116 =>
        RunS Tryz.prog (Builtin.append_ #[59, 59] 59 #[t69_113, t71_115]) w_116 fun t72_117 w_118 =>
        Pu (faV 5 p4_22) fun t73_119 =>
        St 1 w_118 t73_119 t72_117 fun u_120 w_121 =>
        Pu (binV (TypeDesc.int IntKind.i64) .add t49_63 (Value.int IntKind.i64 1)) fun t74_122 =>
        I_55 [t74_122] w_121 ∧ m_56 [t74_122] w_121 < m_56 [t49_63] w_89))
          (Ld w_89 rest5_40 fun t75_123 w_124 =>
      Cl Tryz.prog 117 [t75_123, (Value.string (ByteArray.mk #[0]))] w_124 fun t76_125 w_126 =>
      Pu (binV TypeDesc.string .neq t76_125 (Value.string (ByteArray.mk #[]))) fun t77_127 =>
      Gd (isB false t77_127) (fun kk => kk data0 w_126) w_126 fun t79_128 w_129 =>
      Gd (isB false t77_127) (fun kk => Pu (ixS t79_128 (Value.int IntKind.i64 4)) fun vv => kk vv w_129) w_129 fun t80_130 w_131 =>
      Gd (isB false t77_127) (fun kk => Pu (binV (TypeDesc.int IntKind.u8) .gtr t80_130 (Value.int IntKind.u8 127)) fun vv => kk vv w_131) w_131 fun t81_132 w_133 =>
      Pu (pickV t77_127 (Value.bool true) t81_132) fun t82_134 =>
      Gd (isB false t82_134) (fun kk => Pu (faV 1 p4_22) fun vv => kk vv w_133) w_133 fun t84_135 w_136 =>
      Gd (isB false t82_134) (fun kk => Ld w_136 t84_135 kk) w_136 fun t85_137 w_138 =>
      Gd (isB false t82_134) (fun kk => Pu (binV (TypeDesc.int IntKind.i64) .lss t85_137 (Value.int IntKind.i64 1)) fun vv => kk vv w_138) w_138 fun t86_139 w_140 =>
      Pu (pickV t82_134 (Value.bool true) t86_139) fun t87_141 =>
      Gd (isB false t87_141) (fun kk => Pu (faV 1 p4_22) fun vv => kk vv w_140) w_140 fun t89_142 w_143 =>
      Gd (isB false t87_141) (fun kk => Ld w_143 t89_142 kk) w_143 fun t90_144 w_145 =>
      Gd (isB false t87_141) (fun kk => Pu (binV (TypeDesc.int IntKind.i64) .gtr t90_144 (Value.int IntKind.i64 3)) fun vv => kk vv w_145) w_145 fun t91_146 w_147 =>
      Pu (pickV t87_141 (Value.bool true) t91_146) fun t92_148 =>
      IfB t92_148
        (RunS Tryz.prog (Instr.build 61 #[]) w_147 fun t93_149 w_150 =>
          St 6 w_150 t2_1 t93_149 fun u_151 w_152 =>
          RetO (resL Tryz.prog (fun j => bif Nat.beq j 2 then t2_1 else bif Nat.beq j 3 then (Value.int IntKind.i64 31) else undef) w_152 [(ResultVar.cell 2 61), (ResultVar.tmp 3)]) w_152 k)
        (LdN 6 w_147 p4_22 fun t94_153 w_154 =>
      St 6 w_154 t2_1 t94_153 fun u_155 w_156 =>
      RetO (resL Tryz.prog (fun j => bif Nat.beq j 2 then t2_1 else bif Nat.beq j 3 then (Value.int IntKind.i64 0) else undef) w_156 [(ResultVar.cell 2 61), (ResultVar.tmp 3)]) w_156 k)))))
    (fun jj_21 =>
    ∃ C_157 : World → Prop, C_157 (World.drew w_15) ∧
    (Pu (slS data0 (some (Value.int IntKind.i64 4)) (some (Value.int IntKind.i64 12))) fun t24_158 =>
    Pu (ixS data0 (Value.int IntKind.i64 12)) fun t27_159 =>
    Pu (cvI IntKind.i64 t27_159) fun t28_160 =>
    Pu (ixS data0 (Value.int IntKind.i64 13)) fun t30_161 =>
    Pu (cvI IntKind.i64 t30_161) fun t31_162 =>
    Pu (slS data0 (some (Value.int IntKind.i64 14)) (some (Value.int IntKind.i64 18))) fun t33_163 =>
    (Cl Tryz.prog 79 [t24_158] (World.drew w_15) fun t25_164 w_165 =>
    C_157 w_165 ∧
    ((Cl Tryz.prog 79 [t33_163] w_165 fun t34_166 w_167 =>
    C_157 w_167 ∧
    (∃ t35_168, (∀ w_169, C_157 w_169 → RunS Tryz.prog (Instr.build 61 #[(0, t25_164), (1, t28_160), (2, t31_162), (3, t34_166)]) w_169 fun t35_170 w_171 =>
    t35_170 = t35_168 ∧ w_171 = w_169) ∧
    (New #[(Value.int IntKind.i64 0), (Value.int IntKind.i64 0), (Value.int IntKind.i64 0), (Value.int IntKind.i64 0), (Value.string (ByteArray.mk #[])), (Value.slice none 0 0)] 61 w_167 fun p4_172 w_173 =>
    C_157 w_173 ∧
    (St 6 w_173 p4_172 t35_168 fun u_174 w_175 =>
    jj_21 [p4_172] w_175)))) ∧
    (New #[(Value.int IntKind.i64 0), (Value.int IntKind.i64 0), (Value.int IntKind.i64 0), (Value.int IntKind.i64 0), (Value.string (ByteArray.mk #[])), (Value.slice none 0 0)] 61 w_165 fun p4_176 w_177 =>
    C_157 w_177 ∧
    (Cl Tryz.prog 79 [t33_163] w_177 fun t34_178 w_179 =>
    C_157 w_179 ∧
    (RunS Tryz.prog (Instr.build 61 #[(0, t25_164), (1, t28_160), (2, t31_162), (3, t34_178)]) w_179 fun t35_180 w_181 =>
    w_181 = w_179 ∧
    St 6 w_179 p4_176 t35_180 fun u_182 w_183 =>
    jj_21 [p4_176] w_183))) ∧
    True)) ∧
    (New #[(Value.int IntKind.i64 0), (Value.int IntKind.i64 0), (Value.int IntKind.i64 0), (Value.int IntKind.i64 0), (Value.string (ByteArray.mk #[])), (Value.slice none 0 0)] 61 (World.drew w_15) fun p4_184 w_185 =>
    C_157 w_185 ∧
    (Cl Tryz.prog 79 [t24_158] w_185 fun t25_186 w_187 =>
    C_157 w_187 ∧
    (Cl Tryz.prog 79 [t33_163] w_187 fun t34_188 w_189 =>
    C_157 w_189 ∧
    (RunS Tryz.prog (Instr.build 61 #[(0, t25_186), (1, t28_160), (2, t31_162), (3, t34_188)]) w_189 fun t35_190 w_191 =>
    w_191 = w_189 ∧
    St 6 w_189 p4_184 t35_190 fun u_192 w_193 =>
    jj_21 [p4_184] w_193)))) ∧
    True))))
theorem e41 (k : KV) (data0 : Value) (w : World) : K KD Tryz.prog 95 (fun j => bif Nat.beq j 9 then [49] else []) (fun j => bif Nat.beq j 6 then some [4] else none) (Tryz.f41.body.getD .skip) (retQ Tryz.prog Tryz.f41 k) (argF [data0]) w = T41 k data0 w := by kernel_rfl
theorem c41 {k : KV} {data0 : Value} {w : World} (h : T41 k data0 w) : Cl Tryz.prog 41 [data0] w k :=
  Cl_of_K KD_sound mixed Tryz.func41 (by kernel_rfl) (by kernel_rfl) ((e41 k data0 w).symm ▸ h)

/-- Function 116: almonry/page.cut. -/
def T116 (k : KV) (s0 : Value) (n1 : Value) (w : World) : Prop :=
  Pu (nilV s0) fun t9_1 =>
  Ld w t9_1 fun t10_2 w_3 =>
  Pu (lenS t10_2) fun t11_4 =>
  Pu (binV (TypeDesc.int IntKind.i64) .gtr n1 t11_4) fun t12_5 =>
  IfB t12_5
    (k (.tuple #[(Value.string (ByteArray.mk #[])), (Value.bool false)]) w_3)
    (Pu (nilV s0) fun t14_6 =>
  Ld w_3 t14_6 fun t15_7 w_8 =>
  Pu (slS t15_7 none (some n1)) fun t17_9 =>
  Pu (nilV s0) fun t20_10 =>
  Ld w_8 t20_10 fun t21_11 w_12 =>
  Pu (slS t21_11 (some n1) none) fun t23_13 =>
  Pu (nilV s0) fun t24_14 =>
  St 1 w_12 t24_14 t23_13 fun u_15 w_16 =>
  k (.tuple #[t17_9, (Value.bool true)]) w_16)
theorem e116 (k : KV) (s0 : Value) (n1 : Value) (w : World) : K KD Tryz.prog 26 (fun j =>  []) (fun j =>  none) (Tryz.f116.body.getD .skip) (retQ Tryz.prog Tryz.f116 k) (argF [s0, n1]) w = T116 k s0 n1 w := by kernel_rfl
theorem c116 {k : KV} {s0 : Value} {n1 : Value} {w : World} (h : T116 k s0 n1 w) : Cl Tryz.prog 116 [s0, n1] w k :=
  Cl_of_K KD_sound mixed Tryz.func116 (by kernel_rfl) (by kernel_rfl) ((e116 k s0 n1 w).symm ▸ h)

/-- Function 180: almonry/page.fits. -/
def T180 (k : KV) (p0 : Value) (w : World) : Prop :=
  New (Value.cells p0) 61 w fun p1_1 w_2 =>
  Pu (faV 5 p1_1) fun t3_3 =>
  Ld w_2 t3_3 fun t4_4 w_5 =>
  Pu (lenV t4_4) fun t5_6 =>
  Pu (binV (TypeDesc.int IntKind.i64) .leq t5_6 (Value.int IntKind.i64 255)) fun t6_7 =>
  Gd (isB true t6_7) (fun kk => LdN 6 w_5 p1_1 kk) w_5 fun t8_8 w_9 =>
  Gd (isB true t6_7) (fun kk => Cl Tryz.prog 213 [t8_8] w_9 kk) w_9 fun t9_10 w_11 =>
  Gd (isB true t6_7) (fun kk => Pu (binV (TypeDesc.int IntKind.i64) .leq t9_10 (Value.int IntKind.i64 512)) fun vv => kk vv w_11) w_11 fun t10_12 w_13 =>
  Pu (pickV t6_7 t10_12 (Value.bool false)) fun t11_14 =>
  k t11_14 w_13
theorem e180 (k : KV) (p0 : Value) (w : World) : K KD Tryz.prog 12 (fun j =>  []) (fun j =>  none) (Tryz.f180.body.getD .skip) (retQ Tryz.prog Tryz.f180 k) (argF [p0]) w = T180 k p0 w := by kernel_rfl
theorem c180 {k : KV} {p0 : Value} {w : World} (h : T180 k p0 w) : Cl Tryz.prog 180 [p0] w k :=
  Cl_of_K KD_sound mixed Tryz.func180 (by kernel_rfl) (by kernel_rfl) ((e180 k p0 w).symm ▸ h)

/-- Function 213: almonry/page.Size. -/
def T213 (k : KV) (p0 : Value) (w : World) : Prop :=
  New (Value.cells p0) 61 w fun p1_1 w_2 =>
  Pu (faV 4 p1_1) fun t6_3 =>
  Ld w_2 t6_3 fun t7_4 w_5 =>
  Pu (lenS t7_4) fun t8_6 =>
  Pu (binV (TypeDesc.int IntKind.i64) .add (Value.int IntKind.i64 20) t8_6) fun t9_7 =>
  Pu (faV 5 p1_1) fun t10_8 =>
  Ld w_5 t10_8 fun t11_9 w_10 =>
  Pu (lenV t11_9) fun t12_11 =>
  ∃ (I_12 : List Value → World → Prop) (m_13 : List Value → World → Nat), I_12 [t9_7, (Value.int IntKind.i64 0)] w_10 ∧
  ∀ (g_28 : Fr) (w_27 : World), ∀ n3_15 : Value, ∀ t13_17 : Value, I_12 [n3_15, t13_17] w_27 →
    (Pu (binV (TypeDesc.int IntKind.i64) .lss t13_17 t12_11) fun t14_29 =>
    IfB t14_29
      (Pu (ixV 1 t11_9 t13_17) fun t15_30 =>
    Ld w_27 t15_30 fun t16_31 w_32 =>
    Pu (lenS t16_31) fun t19_33 =>
    Pu (binV (TypeDesc.int IntKind.i64) .add (Value.int IntKind.i64 2) t19_33) fun t20_34 =>
    Pu (binV (TypeDesc.int IntKind.i64) .add n3_15 t20_34) fun t21_35 =>
    Pu (binV (TypeDesc.int IntKind.i64) .add t13_17 (Value.int IntKind.i64 1)) fun t22_36 =>
    I_12 [t21_35, t22_36] w_32 ∧ m_13 [t21_35, t22_36] w_32 < m_13 [n3_15, t13_17] w_27)
      (k n3_15 w_27))
theorem e213 (k : KV) (p0 : Value) (w : World) : K KD Tryz.prog 24 (fun j => bif Nat.beq j 3 then [3, 13] else []) (fun j =>  none) (Tryz.f213.body.getD .skip) (retQ Tryz.prog Tryz.f213 k) (argF [p0]) w = T213 k p0 w := by kernel_rfl
theorem c213 {k : KV} {p0 : Value} {w : World} (h : T213 k p0 w) : Cl Tryz.prog 213 [p0] w k :=
  Cl_of_K KD_sound mixed Tryz.func213 (by kernel_rfl) (by kernel_rfl) ((e213 k p0 w).symm ▸ h)

/-- Function 169: almonry/page.Same. -/
def T169 (k : KV) (a0 : Value) (b1 : Value) (w : World) : Prop :=
  New (Value.cells a0) 61 w fun a2_1 w_2 =>
  New (Value.cells b1) 61 w_2 fun b3_3 w_4 =>
  Pu (faV 5 a2_1) fun t5_5 =>
  Ld w_4 t5_5 fun t6_6 w_7 =>
  Pu (faV 5 b3_3) fun t7_8 =>
  Ld w_7 t7_8 fun t8_9 w_10 =>
  Cl Tryz.prog 207 [t6_6, t8_9] w_10 fun t9_11 w_12 =>
  Pu (unV .not t9_11) fun t10_13 =>
  IfB t10_13
    (k (Value.bool false) w_12)
    (Pu (faV 5 a2_1) fun t11_14 =>
  St 1 w_12 t11_14 (Value.slice none 0 0) fun u_15 w_16 =>
  Pu (faV 5 b3_3) fun t12_17 =>
  St 1 w_16 t12_17 (Value.slice none 0 0) fun u_18 w_19 =>
  Pu (faV 0 a2_1) fun t13_20 =>
  Ld w_19 t13_20 fun t14_21 w_22 =>
  Pu (faV 0 b3_3) fun t15_23 =>
  Ld w_22 t15_23 fun t16_24 w_25 =>
  Pu (binV (TypeDesc.int IntKind.i64) .eql t14_21 t16_24) fun t17_26 =>
  Gd (isB true t17_26) (fun kk => Pu (faV 1 a2_1) fun vv => kk vv w_25) w_25 fun t19_27 w_28 =>
  Gd (isB true t17_26) (fun kk => Ld w_28 t19_27 kk) w_28 fun t20_29 w_30 =>
  Gd (isB true t17_26) (fun kk => Pu (faV 1 b3_3) fun vv => kk vv w_30) w_30 fun t21_31 w_32 =>
  Gd (isB true t17_26) (fun kk => Ld w_32 t21_31 kk) w_32 fun t22_33 w_34 =>
  Gd (isB true t17_26) (fun kk => Pu (binV (TypeDesc.int IntKind.i64) .eql t20_29 t22_33) fun vv => kk vv w_34) w_34 fun t23_35 w_36 =>
  Pu (pickV t17_26 t23_35 (Value.bool false)) fun t24_37 =>
  Gd (isB true t24_37) (fun kk => Pu (faV 2 a2_1) fun vv => kk vv w_36) w_36 fun t26_38 w_39 =>
  Gd (isB true t24_37) (fun kk => Ld w_39 t26_38 kk) w_39 fun t27_40 w_41 =>
  Gd (isB true t24_37) (fun kk => Pu (faV 2 b3_3) fun vv => kk vv w_41) w_41 fun t28_42 w_43 =>
  Gd (isB true t24_37) (fun kk => Ld w_43 t28_42 kk) w_43 fun t29_44 w_45 =>
  Gd (isB true t24_37) (fun kk => Pu (binV (TypeDesc.int IntKind.i64) .eql t27_40 t29_44) fun vv => kk vv w_45) w_45 fun t30_46 w_47 =>
  Pu (pickV t24_37 t30_46 (Value.bool false)) fun t31_48 =>
  Gd (isB true t31_48) (fun kk => Pu (faV 3 a2_1) fun vv => kk vv w_47) w_47 fun t33_49 w_50 =>
  Gd (isB true t31_48) (fun kk => Ld w_50 t33_49 kk) w_50 fun t34_51 w_52 =>
  Gd (isB true t31_48) (fun kk => Pu (faV 3 b3_3) fun vv => kk vv w_52) w_52 fun t35_53 w_54 =>
  Gd (isB true t31_48) (fun kk => Ld w_54 t35_53 kk) w_54 fun t36_55 w_56 =>
  Gd (isB true t31_48) (fun kk => Pu (binV (TypeDesc.int IntKind.i64) .eql t34_51 t36_55) fun vv => kk vv w_56) w_56 fun t37_57 w_58 =>
  Pu (pickV t31_48 t37_57 (Value.bool false)) fun t38_59 =>
  Gd (isB true t38_59) (fun kk => Pu (faV 4 a2_1) fun vv => kk vv w_58) w_58 fun t40_60 w_61 =>
  Gd (isB true t38_59) (fun kk => Ld w_61 t40_60 kk) w_61 fun t41_62 w_63 =>
  Gd (isB true t38_59) (fun kk => Pu (faV 4 b3_3) fun vv => kk vv w_63) w_63 fun t42_64 w_65 =>
  Gd (isB true t38_59) (fun kk => Ld w_65 t42_64 kk) w_65 fun t43_66 w_67 =>
  Gd (isB true t38_59) (fun kk => Pu (binV TypeDesc.string .eql t41_62 t43_66) fun vv => kk vv w_67) w_67 fun t44_68 w_69 =>
  Pu (pickV t38_59 t44_68 (Value.bool false)) fun t45_70 =>
  k t45_70 w_69)
theorem e169 (k : KV) (a0 : Value) (b1 : Value) (w : World) : K KD Tryz.prog 46 (fun j =>  []) (fun j =>  none) (Tryz.f169.body.getD .skip) (retQ Tryz.prog Tryz.f169 k) (argF [a0, b1]) w = T169 k a0 b1 w := by kernel_rfl
theorem c169 {k : KV} {a0 : Value} {b1 : Value} {w : World} (h : T169 k a0 b1 w) : Cl Tryz.prog 169 [a0, b1] w k :=
  Cl_of_K KD_sound mixed Tryz.func169 (by kernel_rfl) (by kernel_rfl) ((e169 k a0 b1 w).symm ▸ h)

/-- Function 79: almonry/bits.Of. -/
def T79 (k : KV) (data0 : Value) (w : World) : Prop :=
  Pu (lenS data0) fun t6_1 =>
  ∃ (I_2 : List Value → World → Prop) (m_3 : List Value → World → Nat), I_2 [(Value.int IntKind.u64 0), (Value.int IntKind.i64 0)] w ∧
  ∀ (g_19 : Fr) (w_18 : World), ∀ n3_5 : Value, ∀ t7_7 : Value, I_2 [n3_5, t7_7] w_18 →
    (Pu (binV (TypeDesc.int IntKind.i64) .lss t7_7 t6_1) fun t8_20 =>
    IfB t8_20
      (Pu (binV (TypeDesc.int IntKind.u64) .shl n3_5 (Value.int IntKind.u64 8)) fun t11_21 =>
    Pu (ixS data0 t7_7) fun t14_22 =>
    Pu (cvI IntKind.u64 t14_22) fun t15_23 =>
    Pu (binV (TypeDesc.int IntKind.u64) .or t11_21 t15_23) fun t16_24 =>
    Pu (binV (TypeDesc.int IntKind.i64) .add t7_7 (Value.int IntKind.i64 1)) fun t17_25 =>
    I_2 [t16_24, t17_25] w_18 ∧ m_3 [t16_24, t17_25] w_18 < m_3 [n3_5, t7_7] w_18)
      (Pu (binV (TypeDesc.int IntKind.u64) .andNot n3_5 (Value.int IntKind.u64 9223372036854775808)) fun t19_26 =>
  Pu (cvI IntKind.i64 t19_26) fun t20_27 =>
  k t20_27 w_18))
theorem e79 (k : KV) (data0 : Value) (w : World) : K KD Tryz.prog 21 (fun j => bif Nat.beq j 3 then [3, 7] else []) (fun j =>  none) (Tryz.f79.body.getD .skip) (retQ Tryz.prog Tryz.f79 k) (argF [data0]) w = T79 k data0 w := by kernel_rfl
theorem c79 {k : KV} {data0 : Value} {w : World} (h : T79 k data0 w) : Cl Tryz.prog 79 [data0] w k :=
  Cl_of_K KD_sound mixed Tryz.func79 (by kernel_rfl) (by kernel_rfl) ((e79 k data0 w).symm ▸ h)

/-- Function 80: almonry/bits.Sum. -/
def T80 (k : KV) (data0 : Value) (w : World) : Prop :=
  Pu (lenS data0) fun t6_1 =>
  ∃ (I_2 : List Value → World → Prop) (m_3 : List Value → World → Nat), I_2 [(Value.int IntKind.u32 4294967295), (Value.int IntKind.i64 0)] w ∧
  ∀ (g_23 : Fr) (w_22 : World), ∀ c3_5 : Value, ∀ t7_7 : Value, I_2 [c3_5, t7_7] w_22 →
    (Pu (binV (TypeDesc.int IntKind.i64) .lss t7_7 t6_1) fun t8_24 =>
    IfB t8_24
      (Pu (binV (TypeDesc.int IntKind.u32) .shr c3_5 (Value.int IntKind.u64 8)) fun t11_25 =>
    Pu (binV (TypeDesc.int IntKind.u32) .and c3_5 (Value.int IntKind.u32 255)) fun t13_26 =>
    Pu (ixS data0 t7_7) fun t16_27 =>
    Pu (cvI IntKind.u32 t16_27) fun t17_28 =>
    Pu (binV (TypeDesc.int IntKind.u32) .xor t13_26 t17_28) fun t18_29 =>
    Cl Tryz.prog 147 [t18_29] w_22 fun t19_30 w_31 =>
    Pu (binV (TypeDesc.int IntKind.u32) .xor t11_25 t19_30) fun t20_32 =>
    Pu (binV (TypeDesc.int IntKind.i64) .add t7_7 (Value.int IntKind.i64 1)) fun t21_33 =>
    I_2 [t20_32, t21_33] w_31 ∧ m_3 [t20_32, t21_33] w_31 < m_3 [c3_5, t7_7] w_22)
      (Pu (unV .xor c3_5) fun t23_34 =>
  k t23_34 w_22))
theorem e80 (k : KV) (data0 : Value) (w : World) : K KD Tryz.prog 24 (fun j => bif Nat.beq j 3 then [3, 7] else []) (fun j =>  none) (Tryz.f80.body.getD .skip) (retQ Tryz.prog Tryz.f80 k) (argF [data0]) w = T80 k data0 w := by kernel_rfl
theorem c80 {k : KV} {data0 : Value} {w : World} (h : T80 k data0 w) : Cl Tryz.prog 80 [data0] w k :=
  Cl_of_K KD_sound mixed Tryz.func80 (by kernel_rfl) (by kernel_rfl) ((e80 k data0 w).symm ▸ h)

/-- Function 115: almonry/bits.Big. -/
def T115 (k : KV) (n0 : Value) (width1 : Value) (w : World) : Prop :=
  Pu (binV (TypeDesc.int IntKind.i64) .lss width1 (Value.int IntKind.i64 1)) fun t8_1 =>
  Gd (isB false t8_1) (fun kk => kk width1 w) w fun t10_2 w_3 =>
  Gd (isB false t8_1) (fun kk => Pu (binV (TypeDesc.int IntKind.i64) .gtr t10_2 (Value.int IntKind.i64 8)) fun vv => kk vv w_3) w_3 fun t11_4 w_5 =>
  Pu (pickV t8_1 (Value.bool true) t11_4) fun t12_6 =>
  Gd (isB false t12_6) (fun kk => kk n0 w_5) w_5 fun t14_7 w_8 =>
  Gd (isB false t12_6) (fun kk => Pu (binV (TypeDesc.int IntKind.i64) .lss t14_7 (Value.int IntKind.i64 0)) fun vv => kk vv w_8) w_8 fun t15_9 w_10 =>
  Pu (pickV t12_6 (Value.bool true) t15_9) fun t16_11 =>
  IfB t16_11
    (k (Value.string (ByteArray.mk #[])) w_10)
    (RunS Tryz.prog (Instr.makeSlice 123 width1 width1) w_10 fun t18_12 w_13 =>
  Pu (lenV t18_12) fun t20_14 =>
  ∃ (I_15 : List Value → World → Prop) (m_16 : List Value → World → Nat), I_15 [(Value.int IntKind.i64 0)] w_13 ∧
  ∀ (g_35 : Fr) (w_34 : World), ∀ t21_19 : Value, I_15 [t21_19] w_34 →
    (Pu (binV (TypeDesc.int IntKind.i64) .lss t21_19 t20_14) fun t22_36 =>
    IfB t22_36
      (Pu (binV (TypeDesc.int IntKind.i64) .sub width1 (Value.int IntKind.i64 1)) fun t28_37 =>
    Pu (binV (TypeDesc.int IntKind.i64) .sub t28_37 t21_19) fun t30_38 =>
    Pu (binV (TypeDesc.int IntKind.i64) .mul (Value.int IntKind.i64 8) t30_38) fun t31_39 =>
    Pu (binV (TypeDesc.int IntKind.i64) .shr n0 t31_39) fun t32_40 =>
    Pu (cvI IntKind.u8 t32_40) fun t33_41 =>
    Pu (ixV 1 t18_12 t21_19) fun t34_42 =>
    St 1 w_34 t34_42 t33_41 fun u_43 w_44 =>
    Pu (binV (TypeDesc.int IntKind.i64) .add t21_19 (Value.int IntKind.i64 1)) fun t35_45 =>
    I_15 [t35_45] w_44 ∧ m_16 [t35_45] w_44 < m_16 [t21_19] w_34)
      (RunS Tryz.prog (convert 123 9 t18_12) w_34 fun t37_46 w_47 =>
  k t37_46 w_47)))
theorem e115 (k : KV) (n0 : Value) (width1 : Value) (w : World) : K KD Tryz.prog 38 (fun j => bif Nat.beq j 5 then [21] else []) (fun j =>  none) (Tryz.f115.body.getD .skip) (retQ Tryz.prog Tryz.f115 k) (argF [n0, width1]) w = T115 k n0 width1 w := by kernel_rfl
theorem c115 {k : KV} {n0 : Value} {width1 : Value} {w : World} (h : T115 k n0 width1 w) : Cl Tryz.prog 115 [n0, width1] w k :=
  Cl_of_K KD_sound mixed Tryz.func115 (by kernel_rfl) (by kernel_rfl) ((e115 k n0 width1 w).symm ▸ h)

/-- Function 147: almonry/bits.turned. -/
def T147 (k : KV) (c0 : Value) (w : World) : Prop :=
  ∃ (I_1 : List Value → World → Prop) (m_2 : List Value → World → Nat), I_1 [c0, (Value.int IntKind.i64 0)] w ∧
  ∀ (g_16 : Fr) (w_15 : World), ∀ c0_4 : Value, ∀ t3_5 : Value, I_1 [c0_4, t3_5] w_15 →
    (Pu (binV (TypeDesc.int IntKind.i64) .lss t3_5 (Value.int IntKind.i64 8)) fun t4_17 =>
    IfB t4_17
      (Pu (binV (TypeDesc.int IntKind.u32) .shr c0_4 (Value.int IntKind.u64 1)) fun t6_18 =>
    Pu (binV (TypeDesc.int IntKind.u32) .and c0_4 (Value.int IntKind.u32 1)) fun t8_19 =>
    Pu (unV .neg t8_19) fun t9_20 =>
    Pu (binV (TypeDesc.int IntKind.u32) .and (Value.int IntKind.u32 3988292384) t9_20) fun t10_21 =>
    Pu (binV (TypeDesc.int IntKind.u32) .xor t6_18 t10_21) fun t11_22 =>
    Pu (binV (TypeDesc.int IntKind.i64) .add t3_5 (Value.int IntKind.i64 1)) fun t12_23 =>
    I_1 [t11_22, t12_23] w_15 ∧ m_2 [t11_22, t12_23] w_15 < m_2 [c0_4, t3_5] w_15)
      (k c0_4 w_15))
theorem e147 (k : KV) (c0 : Value) (w : World) : K KD Tryz.prog 14 (fun j => bif Nat.beq j 2 then [0, 3] else []) (fun j =>  none) (Tryz.f147.body.getD .skip) (retQ Tryz.prog Tryz.f147 k) (argF [c0]) w = T147 k c0 w := by kernel_rfl
theorem c147 {k : KV} {c0 : Value} {w : World} (h : T147 k c0 w) : Cl Tryz.prog 147 [c0] w k :=
  Cl_of_K KD_sound mixed Tryz.func147 (by kernel_rfl) (by kernel_rfl) ((e147 k c0 w).symm ▸ h)

/-- Function 106: slices.Clone[[]string,string]. -/
def T106 (k : KV) (s0 : Value) (w : World) : Prop :=
  Pu (binV (TypeDesc.slice 9) .eql s0 (Value.slice none 0 0)) fun t4_1 =>
  IfB t4_1
    (k (Value.slice none 0 0) w)
    (RunS Tryz.prog (Instr.buildSlice 59 0 #[]) w fun t5_2 w_3 =>
  RunS Tryz.prog (Builtin.append_ #[59, 59] 59 #[t5_2, s0]) w_3 fun t7_4 w_5 =>
  k t7_4 w_5)
theorem e106 (k : KV) (s0 : Value) (w : World) : K KD Tryz.prog 8 (fun j =>  []) (fun j =>  none) (Tryz.f106.body.getD .skip) (retQ Tryz.prog Tryz.f106 k) (argF [s0]) w = T106 k s0 w := by kernel_rfl
theorem c106 {k : KV} {s0 : Value} {w : World} (h : T106 k s0 w) : Cl Tryz.prog 106 [s0] w k :=
  Cl_of_K KD_sound mixed Tryz.func106 (by kernel_rfl) (by kernel_rfl) ((e106 k s0 w).symm ▸ h)

/-- Function 207: slices.Equal[[]string,string]. -/
def T207 (k : KV) (s10 : Value) (s21 : Value) (w : World) : Prop :=
  Pu (lenV s10) fun t7_1 =>
  Pu (lenV s21) fun t9_2 =>
  Pu (binV (TypeDesc.int IntKind.i64) .neq t7_1 t9_2) fun t10_3 =>
  IfB t10_3
    (k (Value.bool false) w)
    (Pu (lenV s10) fun t12_4 =>
  ∃ (I_5 : List Value → World → Prop) (m_6 : List Value → World → Nat), I_5 [(Value.int IntKind.i64 0)] w ∧
  ∀ (g_24 : Fr) (w_23 : World), ∀ t13_10 : Value, I_5 [t13_10] w_23 →
    (Pu (binV (TypeDesc.int IntKind.i64) .lss t13_10 t12_4) fun t14_25 =>
    IfB t14_25
      (Pu (ixV 1 s10 t13_10) fun t18_26 =>
    Ld (World.drew w_23) t18_26 fun t19_27 w_28 =>
    w_28 = (World.drew w_23) ∧
    Pu (ixV 1 s21 t13_10) fun t22_29 =>
    Ld (World.drew w_23) t22_29 fun t23_30 w_31 =>
    w_31 = (World.drew w_23) ∧
    Pu (binV TypeDesc.string .neq t19_27 t23_30) fun t24_32 =>
    IfB t24_32
      (k (Value.bool false) (World.drew w_23))
      (Pu (binV (TypeDesc.int IntKind.i64) .add t13_10 (Value.int IntKind.i64 1)) fun t25_33 =>
    I_5 [t25_33] (World.drew w_23) ∧ m_6 [t25_33] (World.drew w_23) < m_6 [t13_10] w_23))
      (k (Value.bool true) w_23)))
theorem e207 (k : KV) (s10 : Value) (s21 : Value) (w : World) : K KD Tryz.prog 26 (fun j => bif Nat.beq j 4 then [13] else []) (fun j =>  none) (Tryz.f207.body.getD .skip) (retQ Tryz.prog Tryz.f207 k) (argF [s10, s21]) w = T207 k s10 s21 w := by kernel_rfl
theorem c207 {k : KV} {s10 : Value} {s21 : Value} {w : World} (h : T207 k s10 s21 w) : Cl Tryz.prog 207 [s10, s21] w k :=
  Cl_of_K KD_sound mixed Tryz.func207 (by kernel_rfl) (by kernel_rfl) ((e207 k s10 s21 w).symm ▸ h)

/-- Function 34: almonry/almonryref03.Same. -/
def T34 (k : KV) (a0 : Value) (b1 : Value) (w : World) : Prop :=
  New (Value.cells a0) 61 w fun a2_1 w_2 =>
  New (Value.cells b1) 61 w_2 fun b3_3 w_4 =>
  Pu (faV 0 a2_1) fun t6_5 =>
  Ld w_4 t6_5 fun t7_6 w_7 =>
  Pu (faV 0 b3_3) fun t8_8 =>
  Ld w_7 t8_8 fun t9_9 w_10 =>
  Pu (binV (TypeDesc.int IntKind.i64) .neq t7_6 t9_9) fun t10_11 =>
  Gd (isB false t10_11) (fun kk => Pu (faV 1 a2_1) fun vv => kk vv w_10) w_10 fun t12_12 w_13 =>
  Gd (isB false t10_11) (fun kk => Ld w_13 t12_12 kk) w_13 fun t13_14 w_15 =>
  Gd (isB false t10_11) (fun kk => Pu (faV 1 b3_3) fun vv => kk vv w_15) w_15 fun t14_16 w_17 =>
  Gd (isB false t10_11) (fun kk => Ld w_17 t14_16 kk) w_17 fun t15_18 w_19 =>
  Gd (isB false t10_11) (fun kk => Pu (binV (TypeDesc.int IntKind.i64) .neq t13_14 t15_18) fun vv => kk vv w_19) w_19 fun t16_20 w_21 =>
  Pu (pickV t10_11 (Value.bool true) t16_20) fun t17_22 =>
  Gd (isB false t17_22) (fun kk => Pu (faV 2 a2_1) fun vv => kk vv w_21) w_21 fun t19_23 w_24 =>
  Gd (isB false t17_22) (fun kk => Ld w_24 t19_23 kk) w_24 fun t20_25 w_26 =>
  Gd (isB false t17_22) (fun kk => Pu (faV 2 b3_3) fun vv => kk vv w_26) w_26 fun t21_27 w_28 =>
  Gd (isB false t17_22) (fun kk => Ld w_28 t21_27 kk) w_28 fun t22_29 w_30 =>
  Gd (isB false t17_22) (fun kk => Pu (binV (TypeDesc.int IntKind.i64) .neq t20_25 t22_29) fun vv => kk vv w_30) w_30 fun t23_31 w_32 =>
  Pu (pickV t17_22 (Value.bool true) t23_31) fun t24_33 =>
  Gd (isB false t24_33) (fun kk => Pu (faV 3 a2_1) fun vv => kk vv w_32) w_32 fun t26_34 w_35 =>
  Gd (isB false t24_33) (fun kk => Ld w_35 t26_34 kk) w_35 fun t27_36 w_37 =>
  Gd (isB false t24_33) (fun kk => Pu (faV 3 b3_3) fun vv => kk vv w_37) w_37 fun t28_38 w_39 =>
  Gd (isB false t24_33) (fun kk => Ld w_39 t28_38 kk) w_39 fun t29_40 w_41 =>
  Gd (isB false t24_33) (fun kk => Pu (binV (TypeDesc.int IntKind.i64) .neq t27_36 t29_40) fun vv => kk vv w_41) w_41 fun t30_42 w_43 =>
  Pu (pickV t24_33 (Value.bool true) t30_42) fun t31_44 =>
  Gd (isB false t31_44) (fun kk => Pu (faV 4 a2_1) fun vv => kk vv w_43) w_43 fun t33_45 w_46 =>
  Gd (isB false t31_44) (fun kk => Ld w_46 t33_45 kk) w_46 fun t34_47 w_48 =>
  Gd (isB false t31_44) (fun kk => Pu (faV 4 b3_3) fun vv => kk vv w_48) w_48 fun t35_49 w_50 =>
  Gd (isB false t31_44) (fun kk => Ld w_50 t35_49 kk) w_50 fun t36_51 w_52 =>
  Gd (isB false t31_44) (fun kk => Pu (binV TypeDesc.string .neq t34_47 t36_51) fun vv => kk vv w_52) w_52 fun t37_53 w_54 =>
  Pu (pickV t31_44 (Value.bool true) t37_53) fun t38_55 =>
  Gd (isB false t38_55) (fun kk => Pu (faV 5 a2_1) fun vv => kk vv w_54) w_54 fun t40_56 w_57 =>
  Gd (isB false t38_55) (fun kk => Ld w_57 t40_56 kk) w_57 fun t41_58 w_59 =>
  Gd (isB false t38_55) (fun kk => Pu (lenV t41_58) fun vv => kk vv w_59) w_59 fun t42_60 w_61 =>
  Gd (isB false t38_55) (fun kk => Pu (faV 5 b3_3) fun vv => kk vv w_61) w_61 fun t43_62 w_63 =>
  Gd (isB false t38_55) (fun kk => Ld w_63 t43_62 kk) w_63 fun t44_64 w_65 =>
  Gd (isB false t38_55) (fun kk => Pu (lenV t44_64) fun vv => kk vv w_65) w_65 fun t45_66 w_67 =>
  Gd (isB false t38_55) (fun kk => Pu (binV (TypeDesc.int IntKind.i64) .neq t42_60 t45_66) fun vv => kk vv w_67) w_67 fun t46_68 w_69 =>
  Pu (pickV t38_55 (Value.bool true) t46_68) fun t47_70 =>
  IfB t47_70
    (k (Value.bool false) w_69)
    (∃ (I_71 : List Value → World → Prop) (m_72 : List Value → World → Nat), I_71 [(Value.int IntKind.i64 0)] w_69 ∧
  ∀ (g_95 : Fr) (w_94 : World), ∀ i5_75 : Value, I_71 [i5_75] w_94 →
    (Pu (faV 5 a2_1) fun t49_96 =>
    Ld w_94 t49_96 fun t50_97 w_98 =>
    Pu (lenV t50_97) fun t51_99 =>
    Pu (binV (TypeDesc.int IntKind.i64) .lss i5_75 t51_99) fun t52_100 =>
    IfB t52_100
      (Pu (faV 5 a2_1) fun t55_101 =>
    Ld (World.drew w_98) t55_101 fun t56_102 w_103 =>
    w_103 = (World.drew w_98) ∧
    Pu (ixV 1 t56_102 i5_75) fun t58_104 =>
    Ld (World.drew w_98) t58_104 fun t59_105 w_106 =>
    w_106 = (World.drew w_98) ∧
    Pu (faV 5 b3_3) fun t60_107 =>
    Ld (World.drew w_98) t60_107 fun t61_108 w_109 =>
    w_109 = (World.drew w_98) ∧
    Pu (ixV 1 t61_108 i5_75) fun t63_110 =>
    Ld (World.drew w_98) t63_110 fun t64_111 w_112 =>
    w_112 = (World.drew w_98) ∧
    Pu (binV TypeDesc.string .neq t59_105 t64_111) fun t65_113 =>
    IfB t65_113
      (k (Value.bool false) (World.drew w_98))
      (Pu (binV (TypeDesc.int IntKind.i64) .add i5_75 (Value.int IntKind.i64 1)) fun t54_114 =>
    I_71 [t54_114] (World.drew w_98) ∧ m_72 [t54_114] (World.drew w_98) < m_72 [i5_75] w_94))
      (k (Value.bool true) w_98)))
theorem e34 (k : KV) (a0 : Value) (b1 : Value) (w : World) : K KD Tryz.prog 66 (fun j => bif Nat.beq j 4 then [5] else []) (fun j =>  none) (Tryz.f34.body.getD .skip) (retQ Tryz.prog Tryz.f34 k) (argF [a0, b1]) w = T34 k a0 b1 w := by kernel_rfl
theorem c34 {k : KV} {a0 : Value} {b1 : Value} {w : World} (h : T34 k a0 b1 w) : Cl Tryz.prog 34 [a0, b1] w k :=
  Cl_of_K KD_sound mixed Tryz.func34 (by kernel_rfl) (by kernel_rfl) ((e34 k a0 b1 w).symm ▸ h)

end Go.Proofs.YthbngnlmgplijaaGreatDoor
