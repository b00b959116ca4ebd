import Derived.Test.YthgdinjgdjiknaaAlDraw2
import Derived.Test.YthgdinjgdjiknaaRows
namespace Go.Proofs.Ythgdinjgdjiknaa
open Go.Al Go.Proofs
set_option maxRecDepth 100000
set_option linter.unusedVariables false
set_option linter.unusedSimpArgs false
theorem mixed : Try.prog.follows .mixedOrders = true := by kernel_rfl
/-- Function 3: almonry/almonrylaw02.DiskPlays. -/
def T3 (k : KV) (z0 : Value) (acts1 : Value) (others2 : Value) (w : World) : Prop :=
  New (Value.cells z0) 23 w fun z3_1 w_2 =>
  Pu (faV 0 z3_1) fun t18_3 =>
  Ld w_2 t18_3 fun t19_4 w_5 =>
  Pu (faV 1 z3_1) fun t20_6 =>
  Ld w_5 t20_6 fun t21_7 w_8 =>
  Cl Try.prog 15 [t19_4] w_8 fun t24_9 w_10 =>
  Pu (extV t24_9 0) fun t25_11 =>
  Pu (extV t24_9 1) fun t26_12 =>
  Cl Try.prog 16 [t19_4] w_10 fun t29_13 w_14 =>
  Pu (extV t29_13 0) fun t30_15 =>
  Pu (extV t29_13 1) fun t31_16 =>
  Cl Try.prog 15 [t21_7] w_14 fun t34_17 w_18 =>
  Pu (extV t34_17 0) fun t35_19 =>
  Pu (extV t34_17 1) fun t36_20 =>
  Cl Try.prog 16 [t21_7] w_18 fun t39_21 w_22 =>
  Pu (extV t39_21 0) fun t40_23 =>
  Pu (extV t39_21 1) fun t41_24 =>
  Pu (binV (TypeDesc.int IntKind.i64) .neq t26_12 t31_16) fun t44_25 =>
  Gd (isB false t44_25) (fun kk => kk t36_20 w_22) w_22 fun t46_26 w_27 =>
  Gd (isB false t44_25) (fun kk => kk t41_24 w_27) w_27 fun t47_28 w_29 =>
  Gd (isB false t44_25) (fun kk => Pu (binV (TypeDesc.int IntKind.i64) .neq t46_26 t47_28) fun vv => kk vv w_29) w_29 fun t48_30 w_31 =>
  Pu (pickV t44_25 (Value.bool true) t48_30) fun t49_32 =>
  Gd (isB false t49_32) (fun kk => kk t25_11 w_31) w_31 fun t51_33 w_34 =>
  Gd (isB false t49_32) (fun kk => Pu (binV (TypeDesc.pointer 120) .eql t51_33 (Value.pointer none)) fun vv => kk vv w_34) w_34 fun t52_35 w_36 =>
  Gd (isB false t49_32) (fun kk => kk t30_15 w_36) w_36 fun t53_37 w_38 =>
  Gd (isB false t49_32) (fun kk => Pu (binV (TypeDesc.pointer 122) .eql t53_37 (Value.pointer none)) fun vv => kk vv w_38) w_38 fun t54_39 w_40 =>
  Gd (isB false t49_32) (fun kk => Pu (binV TypeDesc.bool .neq t52_35 t54_39) fun vv => kk vv w_40) w_40 fun t55_41 w_42 =>
  Pu (pickV t49_32 (Value.bool true) t55_41) fun t56_43 =>
  Gd (isB false t56_43) (fun kk => kk t35_19 w_42) w_42 fun t58_44 w_45 =>
  Gd (isB false t56_43) (fun kk => Pu (binV (TypeDesc.pointer 120) .eql t58_44 (Value.pointer none)) fun vv => kk vv w_45) w_45 fun t59_46 w_47 =>
  Gd (isB false t56_43) (fun kk => kk t40_23 w_47) w_47 fun t60_48 w_49 =>
  Gd (isB false t56_43) (fun kk => Pu (binV (TypeDesc.pointer 122) .eql t60_48 (Value.pointer none)) fun vv => kk vv w_49) w_49 fun t61_50 w_51 =>
  Gd (isB false t56_43) (fun kk => Pu (binV TypeDesc.bool .neq t59_46 t61_50) fun vv => kk vv w_51) w_51 fun t62_52 w_53 =>
  Pu (pickV t56_43 (Value.bool true) t62_52) fun t63_54 =>
  IfB t63_54
    (k (Value.bool false) w_53)
    (Pu (binV (TypeDesc.pointer 120) .eql t25_11 (Value.pointer none)) fun t65_55 =>
  Gd (isB false t65_55) (fun kk => kk t35_19 w_53) w_53 fun t67_56 w_57 =>
  Gd (isB false t65_55) (fun kk => Pu (binV (TypeDesc.pointer 120) .eql t67_56 (Value.pointer none)) fun vv => kk vv w_57) w_57 fun t68_58 w_59 =>
  Pu (pickV t65_55 (Value.bool true) t68_58) fun t69_60 =>
  IfB t69_60
    (Cl Try.prog 17 [] w_59 fun t70_61 w_62 =>
      k t70_61 w_62)
    (∃ (I_63 : List Value → World → Prop) (m_64 : List Value → World → Nat), I_63 [(Value.int IntKind.i64 0)] w_59 ∧
  ∀ (g_111 : Fr) (w_110 : World), ∀ i17_67 : Value, I_63 [i17_67] w_110 →
    (Pu (lenV acts1) fun t73_112 =>
    Pu (binV (TypeDesc.int IntKind.i64) .lss i17_67 t73_112) fun t74_113 =>
    Gd (isB false t74_113) (fun kk => kk i17_67 w_110) w_110 fun t76_114 w_115 =>
    Gd (isB false t74_113) (fun kk => kk others2 w_115) w_115 fun t77_116 w_117 =>
    Gd (isB false t74_113) (fun kk => Pu (lenV t77_116) fun vv => kk vv w_117) w_117 fun t78_118 w_119 =>
    Gd (isB false t74_113) (fun kk => Pu (binV (TypeDesc.int IntKind.i64) .lss t76_114 t78_118) fun vv => kk vv w_119) w_119 fun t79_120 w_121 =>
    Pu (pickV t74_113 (Value.bool true) t79_120) fun t80_122 =>
    IfB t80_122
      (Pu (lenV acts1) fun t85_123 =>
    Pu (binV (TypeDesc.int IntKind.i64) .lss i17_67 t85_123) fun t86_124 =>
    Gd (isB true t86_124) (fun kk => kk t25_11 w_121) w_121 fun t88_125 w_126 =>
    Gd (isB true t86_124) (fun kk => kk t30_15 w_126) w_126 fun t89_127 w_128 =>
    Gd (isB true t86_124) (fun kk => kk acts1 w_128) w_128 fun t90_129 w_130 =>
    Gd (isB true t86_124) (fun kk => kk i17_67 w_130) w_130 fun t91_131 w_132 =>
    Gd (isB true t86_124) (fun kk => Pu (ixV 6 t90_129 t91_131) fun vv => kk vv w_132) w_132 fun t92_133 w_134 =>
    Gd (isB true t86_124) (fun kk => LdN 6 w_134 t92_133 kk) w_134 fun t93_135 w_136 =>
    Gd (isB true t86_124) (fun kk => Cl Try.prog 18 [t88_125, t89_127, t93_135] w_136 kk) w_136 fun t94_137 w_138 =>
    Gd (isB true t86_124) (fun kk => Pu (unV .not t94_137) fun vv => kk vv w_138) w_138 fun t95_139 w_140 =>
    Pu (pickV t86_124 t95_139 (Value.bool false)) fun t96_141 =>
    Gd (isB false t96_141) (fun kk => kk i17_67 w_140) w_140 fun t98_142 w_143 =>
    Gd (isB false t96_141) (fun kk => kk others2 w_143) w_143 fun t99_144 w_145 =>
    Gd (isB false t96_141) (fun kk => Pu (lenV t99_144) fun vv => kk vv w_145) w_145 fun t100_146 w_147 =>
    Gd (isB false t96_141) (fun kk => Pu (binV (TypeDesc.int IntKind.i64) .lss t98_142 t100_146) fun vv => kk vv w_147) w_147 fun t101_148 w_149 =>
    Gd (isB false t96_141) (fun kk => kk t101_148 w_149) w_149 fun t102_150 w_151 =>
    Gd (isB true t102_150) (fun kk => kk t35_19 w_151) w_151 fun t103_152 w_153 =>
    Gd (isB true t102_150) (fun kk => kk t40_23 w_153) w_153 fun t104_154 w_155 =>
    Gd (isB true t102_150) (fun kk => kk others2 w_155) w_155 fun t105_156 w_157 =>
    Gd (isB true t102_150) (fun kk => kk i17_67 w_157) w_157 fun t106_158 w_159 =>
    Gd (isB true t102_150) (fun kk => Pu (ixV 6 t105_156 t106_158) fun vv => kk vv w_159) w_159 fun t107_160 w_161 =>
    Gd (isB true t102_150) (fun kk => LdN 6 w_161 t107_160 kk) w_161 fun t108_162 w_163 =>
    Gd (isB true t102_150) (fun kk => Cl Try.prog 18 [t103_152, t104_154, t108_162] w_163 kk) w_163 fun t109_164 w_165 =>
    Gd (isB true t102_150) (fun kk => Pu (unV .not t109_164) fun vv => kk vv w_165) w_165 fun t110_166 w_167 =>
    Gd (isB false t96_141) (fun kk => Pu (pickV t102_150 t110_166 (Value.bool false)) fun vv => kk vv w_167) w_167 fun t111_168 w_169 =>
    Pu (pickV t96_141 (Value.bool true) t111_168) fun t112_170 =>
    IfB t112_170
      (k (Value.bool false) w_169)
      (Pu (binV (TypeDesc.int IntKind.i64) .add i17_67 (Value.int IntKind.i64 1)) fun t82_171 =>
    I_63 [t82_171] w_169 ∧ m_64 [t82_171] w_169 < m_64 [i17_67] w_110))
      (Cl Try.prog 19 [t25_11, t30_15] w_121 fun t115_172 w_173 =>
  Pu (unV .not t115_172) fun t116_174 =>
  Gd (isB false t116_174) (fun kk => kk t35_19 w_173) w_173 fun t118_175 w_176 =>
  Gd (isB false t116_174) (fun kk => kk t40_23 w_176) w_176 fun t119_177 w_178 =>
  Gd (isB false t116_174) (fun kk => Cl Try.prog 19 [t118_175, t119_177] w_178 kk) w_178 fun t120_179 w_180 =>
  Gd (isB false t116_174) (fun kk => Pu (unV .not t120_179) fun vv => kk vv w_180) w_180 fun t121_181 w_182 =>
  Pu (pickV t116_174 (Value.bool true) t121_181) fun t122_183 =>
  IfB t122_183
    (k (Value.bool false) w_182)
    (RunS Try.prog (Instr.buildSlice 34 3 #[(0, (Value.int IntKind.i64 1)), (1, (Value.int IntKind.i64 2)), (2, (Value.int IntKind.i64 5))]) w_182 fun t124_184 w_185 =>
  Cl Try.prog 20 [t25_11, t124_184] w_185 fun t125_186 w_187 =>
  RunS Try.prog (Instr.buildSlice 34 3 #[(0, (Value.int IntKind.i64 1)), (1, (Value.int IntKind.i64 2)), (2, (Value.int IntKind.i64 5))]) w_187 fun t127_188 w_189 =>
  Cl Try.prog 21 [t30_15, t127_188] w_189 fun t128_190 w_191 =>
  Cl Try.prog 17 [] w_191 fun t129_192 w_193 =>
  Gd (isB true t129_192) (fun kk => kk t25_11 w_193) w_193 fun t131_194 w_195 =>
  Gd (isB true t129_192) (fun kk => kk t30_15 w_195) w_195 fun t132_196 w_197 =>
  Gd (isB true t129_192) (fun kk => Cl Try.prog 19 [t131_194, t132_196] w_197 kk) w_197 fun t133_198 w_199 =>
  Pu (pickV t129_192 t133_198 (Value.bool false)) fun t134_200 =>
  Gd (isB true t134_200) (fun kk => kk t35_19 w_199) w_199 fun t136_201 w_202 =>
  Gd (isB true t134_200) (fun kk => kk t40_23 w_202) w_202 fun t137_203 w_204 =>
  Gd (isB true t134_200) (fun kk => Cl Try.prog 19 [t136_201, t137_203] w_204 kk) w_204 fun t138_205 w_206 =>
  Pu (pickV t134_200 t138_205 (Value.bool false)) fun t139_207 =>
  k t139_207 w_206)))))
theorem e3 (k : KV) (z0 : Value) (acts1 : Value) (others2 : Value) (w : World) : K KD Try.prog 140 (fun j => bif Nat.beq j 12 then [17] else []) (fun j =>  none) (Try.f3.body.getD .skip) (retQ Try.prog Try.f3 k) (argF [z0, acts1, others2]) w = T3 k z0 acts1 others2 w := by kernel_rfl
theorem c3 {k : KV} {z0 : Value} {acts1 : Value} {others2 : Value} {w : World} (h : T3 k z0 acts1 others2 w) : Cl Try.prog 3 [z0, acts1, others2] w k :=
  Cl_of_K KD_sound mixed Try.func3 (by kernel_rfl) (by kernel_rfl) ((e3 k z0 acts1 others2 w).symm ▸ h)

/-- Function 4: almonry/almonrylaw02.DiskLasts. -/
def T4 (k : KV) (first0 : Value) (thenv1 : Value) (x2 : Value) (w : World) : Prop :=
  New (Value.cells x2) 43 w fun x5_1 w_2 =>
  Pu (faV 0 x5_1) fun t26_3 =>
  Ld w_2 t26_3 fun t27_4 w_5 =>
  Pu (faV 1 x5_1) fun t28_6 =>
  Ld w_5 t28_6 fun t29_7 w_8 =>
  Cl Try.prog 15 [(Value.int IntKind.i64 24)] w_8 fun t31_9 w_10 =>
  Pu (extV t31_9 0) fun t32_11 =>
  Pu (extV t31_9 1) fun t33_12 =>
  Pu (binV (TypeDesc.pointer 120) .eql t32_11 (Value.pointer none)) fun t35_13 =>
  Gd (isB false t35_13) (fun kk => kk t33_12 w_10) w_10 fun t37_14 w_15 =>
  Gd (isB false t35_13) (fun kk => Pu (binV (TypeDesc.int IntKind.i64) .neq t37_14 (Value.int IntKind.i64 0)) fun vv => kk vv w_15) w_15 fun t38_16 w_17 =>
  Pu (pickV t35_13 (Value.bool true) t38_16) fun t39_18 =>
  IfB t39_18
    (k (Value.bool false) w_17)
    (RunS Try.prog (Instr.makeSlice 44 (Value.int IntKind.i64 64) (Value.int IntKind.i64 64)) w_17 fun t40_19 w_20 =>
  RunS Try.prog (convert 44 9 t40_19) w_20 fun t41_21 w_22 =>
  RunS Try.prog (Instr.makeSlice 45 (Value.int IntKind.i64 24) (Value.int IntKind.i64 24)) w_22 fun t42_23 w_24 =>
  ∃ (I_25 : List Value → World → Prop) (m_26 : List Value → World → Nat), I_25 [(Value.int IntKind.i64 0)] w_24 ∧
  ∀ (g_38 : Fr) (w_37 : World), ∀ i13_28 : Value, I_25 [i13_28] w_37 →
    (Pu (binV (TypeDesc.int IntKind.i64) .lss i13_28 (Value.int IntKind.i64 24)) fun t44_39 =>
    IfB t44_39
      (Pu (ixV 1 t42_23 i13_28) fun t50_40 =>
    St 1 w_37 t50_40 t41_21 fun u_41 w_42 =>
    Pu (binV (TypeDesc.int IntKind.i64) .add i13_28 (Value.int IntKind.i64 1)) fun t46_43 =>
    I_25 [t46_43] w_42 ∧ m_26 [t46_43] w_42 < m_26 [i13_28] w_37)
      (∃ (I_44 : List Value → World → Prop) (m_45 : List Value → World → Nat), I_44 [(Value.int IntKind.i64 0)] w_37 ∧
  ∀ (g_80 : Fr) (w_79 : World), ∀ i14_48 : Value, I_44 [i14_48] w_79 →
    (Pu (lenV first0) fun t53_81 =>
    Pu (binV (TypeDesc.int IntKind.i64) .lss i14_48 t53_81) fun t54_82 =>
    IfB t54_82
      (Pu (ixV 2 first0 i14_48) fun t59_83 =>
    Pu (faV 0 t59_83) fun t60_84 =>
    Ld w_79 t60_84 fun t61_85 w_86 =>
    Cl Try.prog 22 [t61_85, (Value.int IntKind.i64 24)] w_86 fun t62_87 w_88 =>
    Pu (ixV 2 first0 i14_48) fun t67_89 =>
    Pu (faV 1 t67_89) fun t68_90 =>
    Ld w_88 t68_90 fun t69_91 w_92 =>
    Cl Try.prog 23 [t69_91] w_92 fun t70_93 w_94 =>
    Pu (ixV 1 t42_23 t62_87) fun t71_95 =>
    St 1 w_94 t71_95 t70_93 fun u_96 w_97 =>
    Pu (ixV 1 t42_23 t62_87) fun t76_98 =>
    Ld w_97 t76_98 fun t77_99 w_100 =>
    Cl Try.prog 24 [t32_11, t62_87, t77_99] w_100 fun t78_101 w_102 =>
    Pu (binV (TypeDesc.int IntKind.i64) .neq t78_101 (Value.int IntKind.i64 0)) fun t79_103 =>
    IfB t79_103
      (k (Value.bool false) w_102)
      (Pu (binV (TypeDesc.int IntKind.i64) .add i14_48 (Value.int IntKind.i64 1)) fun t56_104 =>
    I_44 [t56_104] w_102 ∧ m_45 [t56_104] w_102 < m_45 [i14_48] w_79))
      (Cl Try.prog 25 [t32_11] w_79 fun t81_105 w_106 =>
  Pu (binV (TypeDesc.int IntKind.i64) .neq t81_105 (Value.int IntKind.i64 0)) fun t82_107 =>
  Gd (isB false t82_107) (fun kk => kk t32_11 w_106) w_106 fun t84_108 w_109 =>
  Gd (isB false t82_107) (fun kk => kk t27_4 w_109) w_109 fun t85_110 w_111 =>
  Gd (isB false t82_107) (fun kk => Cl Try.prog 22 [t85_110, (Value.int IntKind.i64 40)] w_111 kk) w_111 fun t86_112 w_113 =>
  Gd (isB false t82_107) (fun kk => Cl Try.prog 26 [t84_108, t86_112] w_113 kk) w_113 fun t87_114 w_115 =>
  Gd (isB false t82_107) (fun kk => Pu (binV (TypeDesc.int IntKind.i64) .neq t87_114 (Value.int IntKind.i64 0)) fun vv => kk vv w_115) w_115 fun t88_116 w_117 =>
  Pu (pickV t82_107 (Value.bool true) t88_116) fun t89_118 =>
  IfB t89_118
    (k (Value.bool false) w_117)
    (RunS Try.prog (Instr.makeSlice 45 (Value.int IntKind.i64 24) (Value.int IntKind.i64 24)) w_117 fun t90_119 w_120 =>
  RunS Try.prog (Builtin.copy_ #[45, 45] 3 #[t90_119, t42_23]) w_120 fun t93_121 w_122 =>
  ∃ (I_123 : List Value → World → Prop) (m_124 : List Value → World → Nat), I_123 [(Value.int IntKind.i64 0)] w_122 ∧
  ∀ (g_179 : Fr) (w_178 : World), ∀ i17_127 : Value, I_123 [i17_127] w_178 →
    (Pu (lenV thenv1) fun t96_180 =>
    Pu (binV (TypeDesc.int IntKind.i64) .lss i17_127 t96_180) fun t97_181 =>
    IfB t97_181
      (Jn (fun vs_229 w_228 => ∀ g_230 : Fr, vs_229 = [] ∧
        (Pu (binV (TypeDesc.int IntKind.i64) .add i17_127 (Value.int IntKind.i64 1)) fun t99_231 =>
        I_123 [t99_231] w_228 ∧ m_124 [t99_231] w_228 < m_124 [i17_127] w_178))
      (fun jj_182 =>
      Pu (ixV 2 thenv1 i17_127) fun t102_232 =>
      Pu (faV 0 t102_232) fun t103_233 =>
      Ld w_178 t103_233 fun t104_234 w_235 =>
      Cl Try.prog 22 [t104_234, (Value.int IntKind.i64 24)] w_235 fun t105_236 w_237 =>
      Cl Try.prog 27 [t32_11] w_237 fun t107_238 w_239 =>
      Pu (ixV 2 thenv1 i17_127) fun t112_240 =>
      Pu (faV 1 t112_240) fun t113_241 =>
      Ld w_239 t113_241 fun t114_242 w_243 =>
      Cl Try.prog 23 [t114_242] w_243 fun t115_244 w_245 =>
      Cl Try.prog 24 [t32_11, t105_236, t115_244] w_245 fun t116_246 w_247 =>
      Pu (binV (TypeDesc.int IntKind.i64) .eql t116_246 (Value.int IntKind.i64 0)) fun t118_248 =>
      Cl Try.prog 27 [t32_11] w_247 fun t120_249 w_250 =>
      Pu (binV TypeDesc.bool .eql t118_248 t120_249) fun t121_251 =>
      Gd (isB false t121_251) (fun kk => kk t116_246 w_250) w_250 fun t123_252 w_253 =>
      Gd (isB false t121_251) (fun kk => Pu (binV (TypeDesc.int IntKind.i64) .neq t123_252 (Value.int IntKind.i64 0)) fun vv => kk vv w_253) w_253 fun t124_254 w_255 =>
      Gd (isB false t121_251) (fun kk => kk t124_254 w_255) w_255 fun t125_256 w_257 =>
      Gd (isB true t125_256) (fun kk => kk t116_246 w_257) w_257 fun t126_258 w_259 =>
      Gd (isB true t125_256) (fun kk => Pu (binV (TypeDesc.int IntKind.i64) .neq t126_258 (Value.int IntKind.i64 5)) fun vv => kk vv w_259) w_259 fun t127_260 w_261 =>
      Gd (isB false t121_251) (fun kk => Pu (pickV t125_256 t127_260 (Value.bool false)) fun vv => kk vv w_261) w_261 fun t128_262 w_263 =>
      Pu (pickV t121_251 (Value.bool true) t128_262) fun t129_264 =>
      IfB t129_264
        (k (Value.bool false) w_263)
        (Pu (unV .not t107_238) fun t131_265 =>
      IfB t131_265
        (Pu (ixV 2 thenv1 i17_127) fun t136_266 =>
          Pu (faV 1 t136_266) fun t137_267 =>
          Ld w_263 t137_267 fun t138_268 w_269 =>
          Cl Try.prog 23 [t138_268] w_269 fun t139_270 w_271 =>
          Pu (ixV 1 t90_119 t105_236) fun t140_272 =>
          St 1 w_271 t140_272 t139_270 fun u_273 w_274 =>
          jj_182 [] w_274)
        (jj_182 [] w_263))))
      (Cl Try.prog 20 [t32_11, t29_7] w_178 fun t143_275 w_276 =>
  Cl Try.prog 27 [t32_11] w_276 fun t145_277 w_278 =>
  Gd (isB false t145_277) (fun kk => kk t32_11 w_278) w_278 fun t147_279 w_280 =>
  Gd (isB false t145_277) (fun kk => Cl Try.prog 28 [t147_279] w_280 kk) w_280 fun t148_281 w_282 =>
  Gd (isB false t145_277) (fun kk => Pu (lenV t148_281) fun vv => kk vv w_282) w_282 fun t149_283 w_284 =>
  Gd (isB false t145_277) (fun kk => Pu (binV (TypeDesc.int IntKind.i64) .neq t149_283 (Value.int IntKind.i64 0)) fun vv => kk vv w_284) w_284 fun t150_285 w_286 =>
  Pu (pickV t145_277 (Value.bool true) t150_285) fun t151_287 =>
  IfB t151_287
    (k (Value.bool false) w_286)
    (∃ (I_288 : List Value → World → Prop) (m_289 : List Value → World → Nat), I_288 [(Value.int IntKind.i64 0)] w_286 ∧
  ∀ (g_339 : Fr) (w_338 : World), ∀ kv21_292 : Value, I_288 [kv21_292] w_338 →
    (Pu (binV (TypeDesc.int IntKind.i64) .lss kv21_292 (Value.int IntKind.i64 24)) fun t153_340 =>
    IfB t153_340
      (Cl Try.prog 29 [t32_11, kv21_292, (Value.int IntKind.i64 1)] w_338 fun t159_341 w_342 =>
    Pu (extV t159_341 0) fun t160_343 =>
    Pu (extV t159_341 1) fun t161_344 =>
    Pu (binV (TypeDesc.int IntKind.i64) .neq t161_344 (Value.int IntKind.i64 0)) fun t163_345 =>
    Gd (isB false t163_345) (fun kk => kk t160_343 w_342) w_342 fun t165_346 w_347 =>
    Gd (isB false t163_345) (fun kk => Pu (lenS t165_346) fun vv => kk vv w_347) w_347 fun t166_348 w_349 =>
    Gd (isB false t163_345) (fun kk => Pu (binV (TypeDesc.int IntKind.i64) .neq t166_348 (Value.int IntKind.i64 64)) fun vv => kk vv w_349) w_349 fun t167_350 w_351 =>
    Pu (pickV t163_345 (Value.bool true) t167_350) fun t168_352 =>
    IfB t168_352
      (k (Value.bool false) w_351)
      (∃ (I_353 : List Value → World → Prop) (m_354 : List Value → World → Nat), I_353 [(Value.bool false), (Value.int IntKind.i64 0)] w_351 ∧
    ∀ (g_381 : Fr) (w_380 : World), ∀ torn24_356 : Value, ∀ b25_357 : Value, I_353 [torn24_356, b25_357] w_380 →
      (Pu (binV (TypeDesc.int IntKind.i64) .leq b25_357 (Value.int IntKind.i64 64)) fun t170_382 =>
      IfB t170_382
        (Gd (isB false torn24_356) (fun kk => kk t160_343 (World.drew w_380)) (World.drew w_380) fun t175_383 w_384 =>
      Gd (isB false torn24_356) (fun kk => kk t90_119 w_384) w_384 fun t176_385 w_386 =>
      Gd (isB false torn24_356) (fun kk => kk kv21_292 w_386) w_386 fun t177_387 w_388 =>
      Gd (isB false torn24_356) (fun kk => Pu (ixV 1 t176_385 t177_387) fun vv => kk vv w_388) w_388 fun t178_389 w_390 =>
      Gd (isB false torn24_356) (fun kk => Ld w_390 t178_389 kk) w_390 fun t179_391 w_392 =>
      w_392 = w_390 ∧
      Gd (isB false torn24_356) (fun kk => kk b25_357 w_390) w_390 fun t180_393 w_394 =>
      Gd (isB false torn24_356) (fun kk => Pu (slS t179_391 none (some t180_393)) fun vv => kk vv w_394) w_394 fun t181_395 w_396 =>
      Gd (isB false torn24_356) (fun kk => kk t42_23 w_396) w_396 fun t182_397 w_398 =>
      Gd (isB false torn24_356) (fun kk => kk kv21_292 w_398) w_398 fun t183_399 w_400 =>
      Gd (isB false torn24_356) (fun kk => Pu (ixV 1 t182_397 t183_399) fun vv => kk vv w_400) w_400 fun t184_401 w_402 =>
      Gd (isB false torn24_356) (fun kk => Ld w_402 t184_401 kk) w_402 fun t185_403 w_404 =>
      w_404 = w_402 ∧
      Gd (isB false torn24_356) (fun kk => kk b25_357 w_402) w_402 fun t186_405 w_406 =>
      Gd (isB false torn24_356) (fun kk => Pu (slS t185_403 (some t186_405) none) fun vv => kk vv w_406) w_406 fun t187_407 w_408 =>
      Gd (isB false torn24_356) (fun kk => Pu (binV TypeDesc.string .add t181_395 t187_407) fun vv => kk vv w_408) w_408 fun t188_409 w_410 =>
      Gd (isB false torn24_356) (fun kk => Pu (binV TypeDesc.string .eql t175_383 t188_409) fun vv => kk vv w_410) w_410 fun t189_411 w_412 =>
      Pu (pickV torn24_356 (Value.bool true) t189_411) fun t190_413 =>
      Pu (binV (TypeDesc.int IntKind.i64) .add b25_357 (Value.int IntKind.i64 1)) fun t172_414 =>
      I_353 [t190_413, t172_414] w_412 ∧ m_354 [t190_413, t172_414] w_412 < m_354 [torn24_356, b25_357] w_380)
        (Pu (unV .not torn24_356) fun t192_415 =>
    IfB t192_415
      (k (Value.bool false) w_380)
      (Pu (binV (TypeDesc.int IntKind.i64) .add kv21_292 (Value.int IntKind.i64 1)) fun t155_416 =>
    I_288 [t155_416] w_380 ∧ m_289 [t155_416] w_380 < m_289 [kv21_292] w_338)))))
      (Cl Try.prog 17 [] w_338 fun t193_417 w_418 =>
  k t193_417 w_418)))))))))))
theorem e4 (k : KV) (first0 : Value) (thenv1 : Value) (x2 : Value) (w : World) : K KD Try.prog 194 (fun j => bif Nat.beq j 44 then [24, 25] else bif Nat.beq j 37 then [21] else bif Nat.beq j 24 then [17] else bif Nat.beq j 13 then [14] else bif Nat.beq j 9 then [13] else []) (fun j => bif Nat.beq j 25 then some [] else none) (Try.f4.body.getD .skip) (retQ Try.prog Try.f4 k) (argF [first0, thenv1, x2]) w = T4 k first0 thenv1 x2 w := by kernel_rfl
theorem c4 {k : KV} {first0 : Value} {thenv1 : Value} {x2 : Value} {w : World} (h : T4 k first0 thenv1 x2 w) : Cl Try.prog 4 [first0, thenv1, x2] w k :=
  Cl_of_K KD_sound mixed Try.func4 (by kernel_rfl) (by kernel_rfl) ((e4 k first0 thenv1 x2 w).symm ▸ h)

/-- Function 5: almonry/almonrylaw02.DiskDies. -/
def T5 (k : KV) (act0 : Value) (syncs1 : Value) (w : World) : Prop :=
  Cl Try.prog 15 [(Value.int IntKind.i64 8)] w fun t14_1 w_2 =>
  Pu (extV t14_1 0) fun t15_3 =>
  Pu (extV t14_1 1) fun t16_4 =>
  Pu (binV (TypeDesc.pointer 120) .eql t15_3 (Value.pointer none)) fun t18_5 =>
  Gd (isB false t18_5) (fun kk => kk t16_4 w_2) w_2 fun t20_6 w_7 =>
  Gd (isB false t18_5) (fun kk => Pu (binV (TypeDesc.int IntKind.i64) .neq t20_6 (Value.int IntKind.i64 0)) fun vv => kk vv w_7) w_7 fun t21_8 w_9 =>
  Pu (pickV t18_5 (Value.bool true) t21_8) fun t22_10 =>
  IfB t22_10
    (k (Value.bool false) w_9)
    (Cl Try.prog 22 [act0, (Value.int IntKind.i64 30)] w_9 fun t24_11 w_12 =>
  Pu (binV (TypeDesc.int IntKind.i64) .add (Value.int IntKind.i64 1) t24_11) fun t25_13 =>
  Cl Try.prog 26 [t15_3, t25_13] w_12 fun t28_14 w_15 =>
  Pu (binV (TypeDesc.int IntKind.i64) .neq t28_14 (Value.int IntKind.i64 0)) fun t29_16 =>
  IfB t29_16
    (k (Value.bool false) w_15)
    (∃ (I_17 : List Value → World → Prop) (m_18 : List Value → World → Nat), I_17 [(Value.int IntKind.i64 1)] w_15 ∧
  ∀ (g_68 : Fr) (w_67 : World), ∀ i8_21 : Value, I_17 [i8_21] w_67 →
    (Pu (binV (TypeDesc.int IntKind.i64) .leq i8_21 t25_13) fun t32_69 =>
    IfB t32_69
      (Jn (fun vs_92 w_91 => ∀ g_93 : Fr, ∃ f9_71 : Value, vs_92 = [f9_71] ∧
        (Pu (binV (TypeDesc.int IntKind.i64) .eql f9_71 (Value.int IntKind.i64 5)) fun t55_94 =>
        Pu (binV (TypeDesc.int IntKind.i64) .eql i8_21 t25_13) fun t58_95 =>
        Pu (binV TypeDesc.bool .neq t55_94 t58_95) fun t59_96 =>
        Gd (isB false t59_96) (fun kk => kk t15_3 w_91) w_91 fun t61_97 w_98 =>
        Gd (isB false t59_96) (fun kk => Cl Try.prog 27 [t61_97] w_98 kk) w_98 fun t62_99 w_100 =>
        Gd (isB false t59_96) (fun kk => kk i8_21 w_100) w_100 fun t63_101 w_102 =>
        Gd (isB false t59_96) (fun kk => kk t25_13 w_102) w_102 fun t64_103 w_104 =>
        Gd (isB false t59_96) (fun kk => Pu (binV (TypeDesc.int IntKind.i64) .eql t63_101 t64_103) fun vv => kk vv w_104) w_104 fun t65_105 w_106 =>
        Gd (isB false t59_96) (fun kk => Pu (binV TypeDesc.bool .neq t62_99 t65_105) fun vv => kk vv w_106) w_106 fun t66_107 w_108 =>
        Pu (pickV t59_96 (Value.bool true) t66_107) fun t67_109 =>
        Gd (isB false t67_109) (fun kk => kk t15_3 w_108) w_108 fun t69_110 w_111 =>
        Gd (isB false t67_109) (fun kk => Cl Try.prog 30 [t69_110] w_111 kk) w_111 fun t70_112 w_113 =>
        Gd (isB false t67_109) (fun kk => kk i8_21 w_113) w_113 fun t71_114 w_115 =>
        Gd (isB false t67_109) (fun kk => Pu (binV (TypeDesc.int IntKind.i64) .neq t70_112 t71_114) fun vv => kk vv w_115) w_115 fun t72_116 w_117 =>
        Pu (pickV t67_109 (Value.bool true) t72_116) fun t73_118 =>
        IfB t73_118
          (k (Value.bool false) w_117)
          (Pu (binV (TypeDesc.int IntKind.i64) .add i8_21 (Value.int IntKind.i64 1)) fun t34_119 =>
    I_17 [t34_119] w_117 ∧ m_18 [t34_119] w_117 < m_18 [i8_21] w_67)))
      (fun jj_70 =>
      Pu (lenV syncs1) fun t37_120 =>
      Pu (binV (TypeDesc.int IntKind.i64) .leq i8_21 t37_120) fun t38_121 =>
      Gd (isB true t38_121) (fun kk => kk syncs1 w_67) w_67 fun t40_122 w_123 =>
      Gd (isB true t38_121) (fun kk => kk i8_21 w_123) w_123 fun t41_124 w_125 =>
      Gd (isB true t38_121) (fun kk => Pu (binV (TypeDesc.int IntKind.i64) .sub t41_124 (Value.int IntKind.i64 1)) fun vv => kk vv w_125) w_125 fun t42_126 w_127 =>
      Gd (isB true t38_121) (fun kk => Pu (ixV 1 t40_122 t42_126) fun vv => kk vv w_127) w_127 fun t43_128 w_129 =>
      Gd (isB true t38_121) (fun kk => Ld w_129 t43_128 kk) w_129 fun t44_130 w_131 =>
      Pu (pickV t38_121 t44_130 (Value.bool false)) fun t45_132 =>
      IfB t45_132
        (Cl Try.prog 25 [t15_3] w_131 fun t47_133 w_134 =>
          jj_70 [t47_133] w_134)
        (Pu (binV (TypeDesc.int IntKind.i64) .rem i8_21 (Value.int IntKind.i64 8)) fun t50_135 =>
          Cl Try.prog 23 [i8_21] w_131 fun t52_136 w_137 =>
          Cl Try.prog 24 [t15_3, t50_135, t52_136] w_137 fun t53_138 w_139 =>
          jj_70 [t53_138] w_139)))
      (Cl Try.prog 29 [t15_3, (Value.int IntKind.i64 0), (Value.int IntKind.i64 1)] w_67 fun t76_140 w_141 =>
  Pu (extV t76_140 0) fun t77_142 =>
  Pu (extV t76_140 1) fun t78_143 =>
  Cl Try.prog 23 [(Value.int IntKind.i64 1)] w_141 fun t80_144 w_145 =>
  Cl Try.prog 24 [t15_3, (Value.int IntKind.i64 0), t80_144] w_145 fun t81_146 w_147 =>
  Pu (binV (TypeDesc.int IntKind.i64) .eql t81_146 (Value.int IntKind.i64 5)) fun t82_148 =>
  Gd (isB true t82_148) (fun kk => kk t15_3 w_147) w_147 fun t84_149 w_150 =>
  Gd (isB true t82_148) (fun kk => Cl Try.prog 25 [t84_149] w_150 kk) w_150 fun t85_151 w_152 =>
  Gd (isB true t82_148) (fun kk => Pu (binV (TypeDesc.int IntKind.i64) .eql t85_151 (Value.int IntKind.i64 5)) fun vv => kk vv w_152) w_152 fun t86_153 w_154 =>
  Pu (pickV t82_148 t86_153 (Value.bool false)) fun t87_155 =>
  Gd (isB true t87_155) (fun kk => kk t15_3 w_154) w_154 fun t89_156 w_157 =>
  Gd (isB true t87_155) (fun kk => Cl Try.prog 26 [t89_156, (Value.int IntKind.i64 0)] w_157 kk) w_157 fun t90_158 w_159 =>
  Gd (isB true t87_155) (fun kk => Pu (binV (TypeDesc.int IntKind.i64) .eql t90_158 (Value.int IntKind.i64 5)) fun vv => kk vv w_159) w_159 fun t91_160 w_161 =>
  Pu (pickV t87_155 t91_160 (Value.bool false)) fun t92_162 =>
  Gd (isB true t92_162) (fun kk => kk t78_143 w_161) w_161 fun t94_163 w_164 =>
  Gd (isB true t92_162) (fun kk => Pu (binV (TypeDesc.int IntKind.i64) .eql t94_163 (Value.int IntKind.i64 5)) fun vv => kk vv w_164) w_164 fun t95_165 w_166 =>
  Pu (pickV t92_162 t95_165 (Value.bool false)) fun t96_167 =>
  Gd (isB true t96_167) (fun kk => kk t15_3 w_166) w_166 fun t98_168 w_169 =>
  Gd (isB true t96_167) (fun kk => Cl Try.prog 30 [t98_168] w_169 kk) w_169 fun t99_170 w_171 =>
  Gd (isB true t96_167) (fun kk => kk t25_13 w_171) w_171 fun t100_172 w_173 =>
  Gd (isB true t96_167) (fun kk => Pu (binV (TypeDesc.int IntKind.i64) .eql t99_170 t100_172) fun vv => kk vv w_173) w_173 fun t101_174 w_175 =>
  Pu (pickV t96_167 t101_174 (Value.bool false)) fun t102_176 =>
  Cl Try.prog 20 [t15_3, (Value.slice none 0 0)] w_175 fun t104_177 w_178 =>
  Cl Try.prog 17 [] w_178 fun t105_179 w_180 =>
  Gd (isB true t105_179) (fun kk => kk t102_176 w_180) w_180 fun t107_181 w_182 =>
  Pu (pickV t105_179 t107_181 (Value.bool false)) fun t108_183 =>
  Gd (isB true t108_183) (fun kk => kk t15_3 w_182) w_182 fun t110_184 w_185 =>
  Gd (isB true t108_183) (fun kk => Cl Try.prog 27 [t110_184] w_185 kk) w_185 fun t111_186 w_187 =>
  Gd (isB true t108_183) (fun kk => Pu (unV .not t111_186) fun vv => kk vv w_187) w_187 fun t112_188 w_189 =>
  Pu (pickV t108_183 t112_188 (Value.bool false)) fun t113_190 =>
  Gd (isB true t113_190) (fun kk => kk t15_3 w_189) w_189 fun t115_191 w_192 =>
  Gd (isB true t113_190) (fun kk => Cl Try.prog 23 [(Value.int IntKind.i64 1)] w_192 kk) w_192 fun t116_193 w_194 =>
  Gd (isB true t113_190) (fun kk => Cl Try.prog 24 [t115_191, (Value.int IntKind.i64 0), t116_193] w_194 kk) w_194 fun t117_195 w_196 =>
  Gd (isB true t113_190) (fun kk => Pu (binV (TypeDesc.int IntKind.i64) .eql t117_195 (Value.int IntKind.i64 0)) fun vv => kk vv w_196) w_196 fun t118_197 w_198 =>
  Pu (pickV t113_190 t118_197 (Value.bool false)) fun t119_199 =>
  k t119_199 w_198))))
theorem e5 (k : KV) (act0 : Value) (syncs1 : Value) (w : World) : K KD Try.prog 120 (fun j => bif Nat.beq j 8 then [8] else []) (fun j => bif Nat.beq j 14 then some [9] else none) (Try.f5.body.getD .skip) (retQ Try.prog Try.f5 k) (argF [act0, syncs1]) w = T5 k act0 syncs1 w := by kernel_rfl
theorem c5 {k : KV} {act0 : Value} {syncs1 : Value} {w : World} (h : T5 k act0 syncs1 w) : Cl Try.prog 5 [act0, syncs1] w k :=
  Cl_of_K KD_sound mixed Try.func5 (by kernel_rfl) (by kernel_rfl) ((e5 k act0 syncs1 w).symm ▸ h)

/-- Function 6: almonry/almonrylaw02.DiskTwice. -/
def T6 (k : KV) (acts0 : Value) (how1 : Value) (again2 : Value) (w : World) : Prop :=
  Cl Try.prog 15 [(Value.int IntKind.i64 12)] w fun t20_1 w_2 =>
  Pu (extV t20_1 0) fun t21_3 =>
  Pu (extV t20_1 1) fun t22_4 =>
  Cl Try.prog 16 [(Value.int IntKind.i64 12)] w_2 fun t24_5 w_6 =>
  Pu (extV t24_5 0) fun t25_7 =>
  Pu (extV t24_5 1) fun t26_8 =>
  Pu (binV (TypeDesc.pointer 120) .eql t21_3 (Value.pointer none)) fun t28_9 =>
  Gd (isB false t28_9) (fun kk => kk t22_4 w_6) w_6 fun t30_10 w_11 =>
  Gd (isB false t28_9) (fun kk => Pu (binV (TypeDesc.int IntKind.i64) .neq t30_10 (Value.int IntKind.i64 0)) fun vv => kk vv w_11) w_11 fun t31_12 w_13 =>
  Pu (pickV t28_9 (Value.bool true) t31_12) fun t32_14 =>
  IfB t32_14
    (k (Value.bool false) w_13)
    (∃ (I_15 : List Value → World → Prop) (m_16 : List Value → World → Nat), I_15 [(Value.int IntKind.i64 0)] w_13 ∧
  ∀ (g_33 : Fr) (w_32 : World), ∀ i11_18 : Value, I_15 [i11_18] w_32 →
    (Pu (lenV acts0) fun t35_34 =>
    Pu (binV (TypeDesc.int IntKind.i64) .lss i11_18 t35_34) fun t36_35 =>
    IfB t36_35
      (Pu (ixV 6 acts0 i11_18) fun t43_36 =>
    LdN 6 w_32 t43_36 fun t44_37 w_38 =>
    Cl Try.prog 18 [t21_3, t25_7, t44_37] w_38 fun t45_39 w_40 =>
    Pu (binV (TypeDesc.int IntKind.i64) .add i11_18 (Value.int IntKind.i64 1)) fun t38_41 =>
    I_15 [t38_41] w_40 ∧ m_16 [t38_41] w_40 < m_16 [i11_18] w_32)
      (Cl Try.prog 20 [t21_3, how1] w_32 fun t48_42 w_43 =>
  Cl Try.prog 29 [t21_3, (Value.int IntKind.i64 0), (Value.int IntKind.i64 12)] w_43 fun t51_44 w_45 =>
  Pu (extV t51_44 0) fun t52_46 =>
  Pu (extV t51_44 1) fun t53_47 =>
  Cl Try.prog 20 [t21_3, again2] w_45 fun t56_48 w_49 =>
  Cl Try.prog 29 [t21_3, (Value.int IntKind.i64 0), (Value.int IntKind.i64 12)] w_49 fun t59_50 w_51 =>
  Pu (extV t59_50 0) fun t60_52 =>
  Pu (extV t59_50 1) fun t61_53 =>
  Cl Try.prog 24 [t21_3, (Value.int IntKind.i64 0), t60_52] w_51 fun t64_54 w_55 =>
  Cl Try.prog 20 [t21_3, again2] w_55 fun t67_56 w_57 =>
  Cl Try.prog 29 [t21_3, (Value.int IntKind.i64 0), (Value.int IntKind.i64 12)] w_57 fun t70_58 w_59 =>
  Pu (extV t70_58 0) fun t71_60 =>
  Pu (extV t70_58 1) fun t72_61 =>
  Cl Try.prog 17 [] w_59 fun t73_62 w_63 =>
  Gd (isB true t73_62) (fun kk => kk t53_47 w_63) w_63 fun t75_64 w_65 =>
  Gd (isB true t73_62) (fun kk => Pu (binV (TypeDesc.int IntKind.i64) .eql t75_64 (Value.int IntKind.i64 0)) fun vv => kk vv w_65) w_65 fun t76_66 w_67 =>
  Pu (pickV t73_62 t76_66 (Value.bool false)) fun t77_68 =>
  Gd (isB true t77_68) (fun kk => kk t61_53 w_67) w_67 fun t79_69 w_70 =>
  Gd (isB true t77_68) (fun kk => Pu (binV (TypeDesc.int IntKind.i64) .eql t79_69 (Value.int IntKind.i64 0)) fun vv => kk vv w_70) w_70 fun t80_71 w_72 =>
  Pu (pickV t77_68 t80_71 (Value.bool false)) fun t81_73 =>
  Gd (isB true t81_73) (fun kk => kk t72_61 w_72) w_72 fun t83_74 w_75 =>
  Gd (isB true t81_73) (fun kk => Pu (binV (TypeDesc.int IntKind.i64) .eql t83_74 (Value.int IntKind.i64 0)) fun vv => kk vv w_75) w_75 fun t84_76 w_77 =>
  Pu (pickV t81_73 t84_76 (Value.bool false)) fun t85_78 =>
  Gd (isB true t85_78) (fun kk => kk t64_54 w_77) w_77 fun t87_79 w_80 =>
  Gd (isB true t85_78) (fun kk => Pu (binV (TypeDesc.int IntKind.i64) .eql t87_79 (Value.int IntKind.i64 0)) fun vv => kk vv w_80) w_80 fun t88_81 w_82 =>
  Pu (pickV t85_78 t88_81 (Value.bool false)) fun t89_83 =>
  Gd (isB true t89_83) (fun kk => kk t52_46 w_82) w_82 fun t91_84 w_85 =>
  Gd (isB true t89_83) (fun kk => kk t60_52 w_85) w_85 fun t92_86 w_87 =>
  Gd (isB true t89_83) (fun kk => Pu (binV TypeDesc.string .eql t91_84 t92_86) fun vv => kk vv w_87) w_87 fun t93_88 w_89 =>
  Pu (pickV t89_83 t93_88 (Value.bool false)) fun t94_90 =>
  Gd (isB true t94_90) (fun kk => kk t71_60 w_89) w_89 fun t96_91 w_92 =>
  Gd (isB true t94_90) (fun kk => kk t60_52 w_92) w_92 fun t97_93 w_94 =>
  Gd (isB true t94_90) (fun kk => Pu (binV TypeDesc.string .eql t96_91 t97_93) fun vv => kk vv w_94) w_94 fun t98_95 w_96 =>
  Pu (pickV t94_90 t98_95 (Value.bool false)) fun t99_97 =>
  k t99_97 w_96)))
theorem e6 (k : KV) (acts0 : Value) (how1 : Value) (again2 : Value) (w : World) : K KD Try.prog 100 (fun j => bif Nat.beq j 6 then [11] else []) (fun j =>  none) (Try.f6.body.getD .skip) (retQ Try.prog Try.f6 k) (argF [acts0, how1, again2]) w = T6 k acts0 how1 again2 w := by kernel_rfl
theorem c6 {k : KV} {acts0 : Value} {how1 : Value} {again2 : Value} {w : World} (h : T6 k acts0 how1 again2 w) : Cl Try.prog 6 [acts0, how1, again2] w k :=
  Cl_of_K KD_sound mixed Try.func6 (by kernel_rfl) (by kernel_rfl) ((e6 k acts0 how1 again2 w).symm ▸ h)

/-- Function 7: almonry/almonrylaw02.DiskNil. -/
def T7 (k : KV) (atv0 : Value) (w : World) : Prop :=
  Cl Try.prog 29 [(Value.pointer none), atv0, (Value.int IntKind.i64 1)] w fun t9_1 w_2 =>
  Pu (extV t9_1 0) fun t10_3 =>
  Pu (extV t9_1 1) fun t11_4 =>
  RunS Try.prog (Instr.buildSlice 34 1 #[(0, atv0)]) w_2 fun t14_5 w_6 =>
  Cl Try.prog 20 [(Value.pointer none), t14_5] w_6 fun t15_7 w_8 =>
  Cl Try.prog 17 [] w_8 fun t16_9 w_10 =>
  Gd (isB true t16_9) (fun kk => kk t10_3 w_10) w_10 fun t18_11 w_12 =>
  Gd (isB true t16_9) (fun kk => Pu (binV TypeDesc.string .eql t18_11 (Value.string (ByteArray.mk #[]))) fun vv => kk vv w_12) w_12 fun t19_13 w_14 =>
  Pu (pickV t16_9 t19_13 (Value.bool false)) fun t20_15 =>
  Gd (isB true t20_15) (fun kk => kk t11_4 w_14) w_14 fun t22_16 w_17 =>
  Gd (isB true t20_15) (fun kk => Pu (binV (TypeDesc.int IntKind.i64) .eql t22_16 (Value.int IntKind.i64 2)) fun vv => kk vv w_17) w_17 fun t23_18 w_19 =>
  Pu (pickV t20_15 t23_18 (Value.bool false)) fun t24_20 =>
  Gd (isB true t24_20) (fun kk => kk (Value.pointer none) w_19) w_19 fun t26_21 w_22 =>
  Gd (isB true t24_20) (fun kk => kk atv0 w_22) w_22 fun t27_23 w_24 =>
  Gd (isB true t24_20) (fun kk => Cl Try.prog 24 [t26_21, t27_23, (Value.string (ByteArray.mk #[]))] w_24 kk) w_24 fun t28_25 w_26 =>
  Gd (isB true t24_20) (fun kk => Pu (binV (TypeDesc.int IntKind.i64) .eql t28_25 (Value.int IntKind.i64 2)) fun vv => kk vv w_26) w_26 fun t29_27 w_28 =>
  Pu (pickV t24_20 t29_27 (Value.bool false)) fun t30_29 =>
  Gd (isB true t30_29) (fun kk => kk (Value.pointer none) w_28) w_28 fun t32_30 w_31 =>
  Gd (isB true t30_29) (fun kk => Cl Try.prog 25 [t32_30] w_31 kk) w_31 fun t33_32 w_33 =>
  Gd (isB true t30_29) (fun kk => Pu (binV (TypeDesc.int IntKind.i64) .eql t33_32 (Value.int IntKind.i64 2)) fun vv => kk vv w_33) w_33 fun t34_34 w_35 =>
  Pu (pickV t30_29 t34_34 (Value.bool false)) fun t35_36 =>
  Gd (isB true t35_36) (fun kk => kk (Value.pointer none) w_35) w_35 fun t37_37 w_38 =>
  Gd (isB true t35_36) (fun kk => kk atv0 w_38) w_38 fun t38_39 w_40 =>
  Gd (isB true t35_36) (fun kk => Cl Try.prog 26 [t37_37, t38_39] w_40 kk) w_40 fun t39_41 w_42 =>
  Gd (isB true t35_36) (fun kk => Pu (binV (TypeDesc.int IntKind.i64) .eql t39_41 (Value.int IntKind.i64 2)) fun vv => kk vv w_42) w_42 fun t40_43 w_44 =>
  Pu (pickV t35_36 t40_43 (Value.bool false)) fun t41_45 =>
  Gd (isB true t41_45) (fun kk => kk (Value.pointer none) w_44) w_44 fun t43_46 w_47 =>
  Gd (isB true t41_45) (fun kk => Cl Try.prog 31 [t43_46] w_47 kk) w_47 fun t44_48 w_49 =>
  Gd (isB true t41_45) (fun kk => Pu (binV (TypeDesc.int IntKind.i64) .eql t44_48 (Value.int IntKind.i64 0)) fun vv => kk vv w_49) w_49 fun t45_50 w_51 =>
  Pu (pickV t41_45 t45_50 (Value.bool false)) fun t46_52 =>
  Gd (isB true t46_52) (fun kk => kk (Value.pointer none) w_51) w_51 fun t48_53 w_54 =>
  Gd (isB true t46_52) (fun kk => Cl Try.prog 27 [t48_53] w_54 kk) w_54 fun t49_55 w_56 =>
  Gd (isB true t46_52) (fun kk => Pu (unV .not t49_55) fun vv => kk vv w_56) w_56 fun t50_57 w_58 =>
  Pu (pickV t46_52 t50_57 (Value.bool false)) fun t51_59 =>
  Gd (isB true t51_59) (fun kk => kk (Value.pointer none) w_58) w_58 fun t53_60 w_61 =>
  Gd (isB true t51_59) (fun kk => Cl Try.prog 30 [t53_60] w_61 kk) w_61 fun t54_62 w_63 =>
  Gd (isB true t51_59) (fun kk => Pu (binV (TypeDesc.int IntKind.i64) .eql t54_62 (Value.int IntKind.i64 0)) fun vv => kk vv w_63) w_63 fun t55_64 w_65 =>
  Pu (pickV t51_59 t55_64 (Value.bool false)) fun t56_66 =>
  Gd (isB true t56_66) (fun kk => kk (Value.pointer none) w_65) w_65 fun t58_67 w_68 =>
  Gd (isB true t56_66) (fun kk => Cl Try.prog 28 [t58_67] w_68 kk) w_68 fun t59_69 w_70 =>
  Gd (isB true t56_66) (fun kk => Pu (lenV t59_69) fun vv => kk vv w_70) w_70 fun t60_71 w_72 =>
  Gd (isB true t56_66) (fun kk => Pu (binV (TypeDesc.int IntKind.i64) .eql t60_71 (Value.int IntKind.i64 0)) fun vv => kk vv w_72) w_72 fun t61_73 w_74 =>
  Pu (pickV t56_66 t61_73 (Value.bool false)) fun t62_75 =>
  k t62_75 w_74
theorem e7 (k : KV) (atv0 : Value) (w : World) : K KD Try.prog 63 (fun j =>  []) (fun j =>  none) (Try.f7.body.getD .skip) (retQ Try.prog Try.f7 k) (argF [atv0]) w = T7 k atv0 w := by kernel_rfl
theorem c7 {k : KV} {atv0 : Value} {w : World} (h : T7 k atv0 w) : Cl Try.prog 7 [atv0] w k :=
  Cl_of_K KD_sound mixed Try.func7 (by kernel_rfl) (by kernel_rfl) ((e7 k atv0 w).symm ▸ h)

/-- Function 15: almonry/disk.New. -/
def T15 (k : KV) (sectors0 : Value) (w : World) : Prop :=
  Pu (binV (TypeDesc.int IntKind.i64) .lss sectors0 (Value.int IntKind.i64 1)) fun t5_1 =>
  Gd (isB false t5_1) (fun kk => kk sectors0 w) w fun t7_2 w_3 =>
  Gd (isB false t5_1) (fun kk => Pu (binV (TypeDesc.int IntKind.i64) .gtr t7_2 (Value.int IntKind.i64 65536)) fun vv => kk vv w_3) w_3 fun t8_4 w_5 =>
  Pu (pickV t5_1 (Value.bool true) t8_4) fun t9_6 =>
  IfB t9_6
    (k (.tuple #[(Value.pointer none), (Value.int IntKind.i64 1)]) w_5)
    (Pu (binV (TypeDesc.int IntKind.i64) .mul sectors0 (Value.int IntKind.i64 64)) fun t11_7 =>
  RunS Try.prog (Instr.makeSlice 44 t11_7 t11_7) w_5 fun t12_8 w_9 =>
  RunS Try.prog (Instr.makeMap 118 none) w_9 fun t13_10 w_11 =>
  RunS Try.prog (Instr.build 120 #[(0, t12_8), (1, t13_10)]) w_11 fun t14_12 w_13 =>
  New (Value.cells t14_12) 120 w_13 fun t15_14 w_15 =>
  k (.tuple #[t15_14, (Value.int IntKind.i64 0)]) w_15)
theorem e15 (k : KV) (sectors0 : Value) (w : World) : K KD Try.prog 16 (fun j =>  []) (fun j =>  none) (Try.f15.body.getD .skip) (retQ Try.prog Try.f15 k) (argF [sectors0]) w = T15 k sectors0 w := by kernel_rfl
theorem c15 {k : KV} {sectors0 : Value} {w : World} (h : T15 k sectors0 w) : Cl Try.prog 15 [sectors0] w k :=
  Cl_of_K KD_sound mixed Try.func15 (by kernel_rfl) (by kernel_rfl) ((e15 k sectors0 w).symm ▸ h)

/-- Function 16: almonry/almonryref02.New. -/
def T16 (k : KV) (sectors0 : Value) (w : World) : Prop :=
  Pu (binV (TypeDesc.int IntKind.i64) .lss sectors0 (Value.int IntKind.i64 1)) fun t8_1 =>
  Gd (isB false t8_1) (fun kk => kk sectors0 w) w fun t10_2 w_3 =>
  Gd (isB false t8_1) (fun kk => Pu (binV (TypeDesc.int IntKind.i64) .gtr t10_2 (Value.int IntKind.i64 65536)) fun vv => kk vv w_3) w_3 fun t11_4 w_5 =>
  Pu (pickV t8_1 (Value.bool true) t11_4) fun t12_6 =>
  IfB t12_6
    (k (.tuple #[(Value.pointer none), (Value.int IntKind.i64 1)]) w_5)
    (RunS Try.prog (Instr.build 122 #[]) w_5 fun t13_7 w_8 =>
  New (Value.cells t13_7) 122 w_8 fun t14_9 w_10 =>
  RunS Try.prog (Instr.makeSlice 44 (Value.int IntKind.i64 64) (Value.int IntKind.i64 64)) w_10 fun t15_11 w_12 =>
  RunS Try.prog (convert 44 9 t15_11) w_12 fun t16_13 w_14 =>
  ∃ (I_15 : List Value → World → Prop) (m_16 : List Value → World → Nat), I_15 [(Value.int IntKind.i64 0)] w_14 ∧
  ∀ (g_54 : Fr) (w_53 : World), ∀ i6_18 : Value, I_15 [i6_18] w_53 →
    (Pu (binV (TypeDesc.int IntKind.i64) .lss i6_18 sectors0) fun t19_55 =>
    IfB t19_55
      (Pu (nilV t14_9) fun t24_56 =>
    Pu (faV 0 t24_56) fun t25_57 =>
    Ld w_53 t25_57 fun t26_58 w_59 =>
    RunS Try.prog (Instr.buildSlice 45 1 #[(0, t16_13)]) w_59 fun t28_60 w_61 =>
    RunS Try.prog (Builtin.append_ #[45, 45] 45 #[t26_58, t28_60]) w_61 fun t29_62 w_63 =>
    Pu (nilV t14_9) fun t30_64 =>
    Pu (faV 0 t30_64) fun t31_65 =>
    St 1 w_63 t31_65 t29_62 fun u_66 w_67 =>
    Pu (nilV t14_9) fun t34_68 =>
    Pu (faV 1 t34_68) fun t35_69 =>
    Ld w_67 t35_69 fun t36_70 w_71 =>
    RunS Try.prog (Instr.buildSlice 45 1 #[(0, t16_13)]) w_71 fun t38_72 w_73 =>
    RunS Try.prog (Builtin.append_ #[45, 45] 45 #[t36_70, t38_72]) w_73 fun t39_74 w_75 =>
    Pu (nilV t14_9) fun t40_76 =>
    Pu (faV 1 t40_76) fun t41_77 =>
    St 1 w_75 t41_77 t39_74 fun u_78 w_79 =>
    Pu (nilV t14_9) fun t44_80 =>
    Pu (faV 2 t44_80) fun t45_81 =>
    Ld w_79 t45_81 fun t46_82 w_83 =>
    RunS Try.prog (Instr.buildSlice 57 1 #[(0, (Value.bool false))]) w_83 fun t47_84 w_85 =>
    RunS Try.prog (Builtin.append_ #[57, 57] 57 #[t46_82, t47_84]) w_85 fun t48_86 w_87 =>
    Pu (nilV t14_9) fun t49_88 =>
    Pu (faV 2 t49_88) fun t50_89 =>
    St 1 w_87 t50_89 t48_86 fun u_90 w_91 =>
    Pu (binV (TypeDesc.int IntKind.i64) .add i6_18 (Value.int IntKind.i64 1)) fun t21_92 =>
    I_15 [t21_92] w_91 ∧ m_16 [t21_92] w_91 < m_16 [i6_18] w_53)
      (k (.tuple #[t14_9, (Value.int IntKind.i64 0)]) w_53)))
theorem e16 (k : KV) (sectors0 : Value) (w : World) : K KD Try.prog 52 (fun j => bif Nat.beq j 6 then [6] else []) (fun j =>  none) (Try.f16.body.getD .skip) (retQ Try.prog Try.f16 k) (argF [sectors0]) w = T16 k sectors0 w := by kernel_rfl
theorem c16 {k : KV} {sectors0 : Value} {w : World} (h : T16 k sectors0 w) : Cl Try.prog 16 [sectors0] w k :=
  Cl_of_K KD_sound mixed Try.func16 (by kernel_rfl) (by kernel_rfl) ((e16 k sectors0 w).symm ▸ h)

/-- Function 17: almonry/almonrylaw02.awake. -/
def T17 (k : KV) (w : World) : Prop :=
  Cl Try.prog 15 [(Value.int IntKind.i64 4)] w fun t13_1 w_2 =>
  Pu (extV t13_1 0) fun t14_3 =>
  Pu (extV t13_1 1) fun t15_4 =>
  Pu (binV (TypeDesc.pointer 120) .eql t14_3 (Value.pointer none)) fun t17_5 =>
  Gd (isB false t17_5) (fun kk => kk t15_4 w_2) w_2 fun t19_6 w_7 =>
  Gd (isB false t17_5) (fun kk => Pu (binV (TypeDesc.int IntKind.i64) .neq t19_6 (Value.int IntKind.i64 0)) fun vv => kk vv w_7) w_7 fun t20_8 w_9 =>
  Pu (pickV t17_5 (Value.bool true) t20_8) fun t21_10 =>
  IfB t21_10
    (k (Value.bool false) w_9)
    (Cl Try.prog 23 [(Value.int IntKind.i64 8)] w_9 fun t22_11 w_12 =>
  Cl Try.prog 23 [(Value.int IntKind.i64 16)] w_12 fun t23_13 w_14 =>
  Cl Try.prog 24 [t14_3, (Value.int IntKind.i64 1), t22_11] w_14 fun t26_15 w_16 =>
  Cl Try.prog 25 [t14_3] w_16 fun t28_17 w_18 =>
  Pu (binV TypeDesc.string .add t23_13 t23_13) fun t32_19 =>
  Cl Try.prog 24 [t14_3, (Value.int IntKind.i64 1), t32_19] w_18 fun t33_20 w_21 =>
  Cl Try.prog 30 [t14_3] w_21 fun t35_22 w_23 =>
  RunS Try.prog (Instr.buildSlice 34 1 #[(0, (Value.int IntKind.i64 14))]) w_23 fun t37_24 w_25 =>
  Cl Try.prog 20 [t14_3, t37_24] w_25 fun t38_26 w_27 =>
  Cl Try.prog 29 [t14_3, (Value.int IntKind.i64 1), (Value.int IntKind.i64 2)] w_27 fun t41_28 w_29 =>
  Pu (extV t41_28 0) fun t42_30 =>
  Pu (extV t41_28 1) fun t43_31 =>
  Pu (binV TypeDesc.string .add t22_11 t22_11) fun t47_32 =>
  Cl Try.prog 24 [t14_3, (Value.int IntKind.i64 3), t47_32] w_29 fun t48_33 w_34 =>
  Pu (binV (TypeDesc.int IntKind.i64) .eql t26_15 (Value.int IntKind.i64 0)) fun t50_35 =>
  Gd (isB true t50_35) (fun kk => kk t28_17 (World.drew w_34)) (World.drew w_34) fun t52_36 w_37 =>
  Gd (isB true t50_35) (fun kk => Pu (binV (TypeDesc.int IntKind.i64) .eql t52_36 (Value.int IntKind.i64 0)) fun vv => kk vv w_37) w_37 fun t53_38 w_39 =>
  Pu (pickV t50_35 t53_38 (Value.bool false)) fun t54_40 =>
  Gd (isB true t54_40) (fun kk => kk t33_20 w_39) w_39 fun t56_41 w_42 =>
  Gd (isB true t54_40) (fun kk => Pu (binV (TypeDesc.int IntKind.i64) .eql t56_41 (Value.int IntKind.i64 0)) fun vv => kk vv w_42) w_42 fun t57_43 w_44 =>
  Pu (pickV t54_40 t57_43 (Value.bool false)) fun t58_45 =>
  Gd (isB true t58_45) (fun kk => kk t43_31 w_44) w_44 fun t60_46 w_47 =>
  Gd (isB true t58_45) (fun kk => Pu (binV (TypeDesc.int IntKind.i64) .eql t60_46 (Value.int IntKind.i64 0)) fun vv => kk vv w_47) w_47 fun t61_48 w_49 =>
  Pu (pickV t58_45 t61_48 (Value.bool false)) fun t62_50 =>
  Gd (isB true t62_50) (fun kk => kk t35_22 w_49) w_49 fun t64_51 w_52 =>
  Gd (isB true t62_50) (fun kk => Pu (binV (TypeDesc.int IntKind.i64) .eql t64_51 (Value.int IntKind.i64 4)) fun vv => kk vv w_52) w_52 fun t65_53 w_54 =>
  Pu (pickV t62_50 t65_53 (Value.bool false)) fun t66_55 =>
  Gd (isB true t66_55) (fun kk => kk t42_30 w_54) w_54 fun t68_56 w_57 =>
  Gd (isB true t66_55) (fun kk => kk t23_13 w_57) w_57 fun t69_58 w_59 =>
  Gd (isB true t66_55) (fun kk => Pu (slS t69_58 none (some (Value.int IntKind.i64 4))) fun vv => kk vv w_59) w_59 fun t70_60 w_61 =>
  Gd (isB true t66_55) (fun kk => kk t22_11 w_61) w_61 fun t71_62 w_63 =>
  Gd (isB true t66_55) (fun kk => Pu (slS t71_62 (some (Value.int IntKind.i64 4)) none) fun vv => kk vv w_63) w_63 fun t72_64 w_65 =>
  Gd (isB true t66_55) (fun kk => Pu (binV TypeDesc.string .add t70_60 t72_64) fun vv => kk vv w_65) w_65 fun t73_66 w_67 =>
  Gd (isB true t66_55) (fun kk => RunS Try.prog (Instr.makeSlice 44 (Value.int IntKind.i64 64) (Value.int IntKind.i64 64)) w_67 kk) w_67 fun t74_68 w_69 =>
  Gd (isB true t66_55) (fun kk => RunS Try.prog (convert 44 9 t74_68) w_69 kk) w_69 fun t75_70 w_71 =>
  w_71 = w_69 ∧
  Gd (isB true t66_55) (fun kk => Pu (binV TypeDesc.string .add t73_66 t75_70) fun vv => kk vv w_69) w_69 fun t76_72 w_73 =>
  Gd (isB true t66_55) (fun kk => Pu (binV TypeDesc.string .eql t68_56 t76_72) fun vv => kk vv w_73) w_73 fun t77_74 w_75 =>
  Pu (pickV t66_55 t77_74 (Value.bool false)) fun t78_76 =>
  Gd (isB true t78_76) (fun kk => kk t48_33 w_75) w_75 fun t80_77 w_78 =>
  Gd (isB true t78_76) (fun kk => Pu (binV (TypeDesc.int IntKind.i64) .eql t80_77 (Value.int IntKind.i64 20)) fun vv => kk vv w_78) w_78 fun t81_79 w_80 =>
  Pu (pickV t78_76 t81_79 (Value.bool false)) fun t82_81 =>
  k t82_81 w_80)
theorem e17 (k : KV) (w : World) : K KD Try.prog 83 (fun j =>  []) (fun j =>  none) (Try.f17.body.getD .skip) (retQ Try.prog Try.f17 k) (argF []) w = T17 k  w := by kernel_rfl
theorem c17 {k : KV} {w : World} (h : T17 k  w) : Cl Try.prog 17 [] w k :=
  Cl_of_K KD_sound mixed Try.func17 (by kernel_rfl) (by kernel_rfl) ((e17 k  w).symm ▸ h)

/-- Function 18: almonry/almonrylaw02.does. -/
def T18 (k : KV) (d0 : Value) (x1 : Value) (a2 : Value) (w : World) : Prop :=
  New (Value.cells a2) 36 w fun a5_1 w_2 =>
  Pu (faV 0 a5_1) fun t15_3 =>
  Ld w_2 t15_3 fun t16_4 w_5 =>
  Pu (binV (TypeDesc.int IntKind.u8) .rem t16_4 (Value.int IntKind.u8 6)) fun t17_6 =>
  Pu (binV (TypeDesc.int IntKind.u8) .eql t17_6 (Value.int IntKind.u8 0)) fun t19_7 =>
  IfB t19_7
    (LdN 6 w_5 a5_1 fun t20_8 w_9 =>
      Cl Try.prog 58 [t20_8] w_9 fun t21_10 w_11 =>
      ∃ C_12 : World → Prop, C_12 (World.drew w_11) ∧
      (Pu (faV 1 a5_1) fun t23_13 =>
      Ld (World.drew w_11) t23_13 fun t24_14 w_15 =>
      w_15 = (World.drew w_11) ∧
      Pu (faV 1 a5_1) fun t28_16 =>
      ∃ t29_17, (∀ w_18, C_12 w_18 → Ld w_18 t28_16 fun t29_19 w_20 =>
      t29_19 = t29_17 ∧ w_20 = w_18) ∧
      (Cl Try.prog 24 [d0, t24_14, t21_10] (World.drew w_11) fun t26_21 w_22 =>
      C_12 w_22 ∧
      (Cl Try.prog 59 [x1, t29_17, t21_10] w_22 fun t31_23 w_24 =>
      C_12 w_24 ∧
      (Pu (binV (TypeDesc.int IntKind.i64) .eql t26_21 t31_23) fun t32_25 =>
      k t32_25 w_24)))))
    (Pu (binV (TypeDesc.int IntKind.u8) .eql t17_6 (Value.int IntKind.u8 1)) fun t34_26 =>
      IfB t34_26
        (Cl Try.prog 25 [d0] w_5 fun t36_27 w_28 =>
          Cl Try.prog 60 [x1] w_28 fun t38_29 w_30 =>
          Pu (binV (TypeDesc.int IntKind.i64) .eql t36_27 t38_29) fun t39_31 =>
          k t39_31 w_30)
        (Pu (binV (TypeDesc.int IntKind.u8) .eql t17_6 (Value.int IntKind.u8 2)) fun t41_32 =>
          IfB t41_32
            (Pu (faV 1 a5_1) fun t44_33 =>
              Ld w_5 t44_33 fun t45_34 w_35 =>
              Pu (faV 2 a5_1) fun t46_36 =>
              Ld w_35 t46_36 fun t47_37 w_38 =>
              Cl Try.prog 29 [d0, t45_34, t47_37] w_38 fun t48_39 w_40 =>
              Pu (extV t48_39 0) fun t49_41 =>
              Pu (extV t48_39 1) fun t50_42 =>
              Pu (faV 1 a5_1) fun t53_43 =>
              Ld w_40 t53_43 fun t54_44 w_45 =>
              Pu (faV 2 a5_1) fun t55_46 =>
              Ld w_45 t55_46 fun t56_47 w_48 =>
              Cl Try.prog 61 [x1, t54_44, t56_47] w_48 fun t57_49 w_50 =>
              Pu (extV t57_49 0) fun t58_51 =>
              Pu (extV t57_49 1) fun t59_52 =>
              Pu (binV TypeDesc.string .eql t49_41 t58_51) fun t62_53 =>
              Gd (isB true t62_53) (fun kk => kk t50_42 w_50) w_50 fun t64_54 w_55 =>
              Gd (isB true t62_53) (fun kk => kk t59_52 w_55) w_55 fun t65_56 w_57 =>
              Gd (isB true t62_53) (fun kk => Pu (binV (TypeDesc.int IntKind.i64) .eql t64_54 t65_56) fun vv => kk vv w_57) w_57 fun t66_58 w_59 =>
              Pu (pickV t62_53 t66_58 (Value.bool false)) fun t67_60 =>
              k t67_60 w_59)
            (Pu (binV (TypeDesc.int IntKind.u8) .eql t17_6 (Value.int IntKind.u8 3)) fun t69_61 =>
              IfB t69_61
                (∃ C_62 : World → Prop, C_62 (World.drew w_5) ∧
                  (Pu (faV 1 a5_1) fun t71_63 =>
                  Ld (World.drew w_5) t71_63 fun t72_64 w_65 =>
                  w_65 = (World.drew w_5) ∧
                  Pu (faV 1 a5_1) fun t75_66 =>
                  ∃ t76_67, (∀ w_68, C_62 w_68 → Ld w_68 t75_66 fun t76_69 w_70 =>
                  t76_69 = t76_67 ∧ w_70 = w_68) ∧
                  (Cl Try.prog 26 [d0, t72_64] (World.drew w_5) fun t73_71 w_72 =>
                  C_62 w_72 ∧
                  (Cl Try.prog 62 [x1, t76_67] w_72 fun t77_73 w_74 =>
                  C_62 w_74 ∧
                  (Pu (binV (TypeDesc.int IntKind.i64) .eql t73_71 t77_73) fun t78_75 =>
                  k t78_75 w_74)))))
                (Pu (binV (TypeDesc.int IntKind.u8) .eql t17_6 (Value.int IntKind.u8 4)) fun t80_76 =>
                  IfB t80_76
                    (Pu (faV 5 a5_1) fun t81_77 =>
                      Ld w_5 t81_77 fun t82_78 w_79 =>
                      Cl Try.prog 63 [t82_78] w_79 fun t83_80 w_81 =>
                      Cl Try.prog 20 [d0, t83_80] w_81 fun t86_82 w_83 =>
                      Pu (faV 5 a5_1) fun t88_84 =>
                      Ld w_83 t88_84 fun t89_85 w_86 =>
                      Cl Try.prog 21 [x1, t89_85] w_86 fun t90_87 w_88 =>
                      Pu (faV 5 a5_1) fun t92_89 =>
                      Ld w_88 t92_89 fun t93_90 w_91 =>
                      Cl Try.prog 64 [t83_80, t93_90] w_91 fun t94_92 w_93 =>
                      k t94_92 w_93)
                    (Cl Try.prog 28 [d0] w_5 fun t96_94 w_95 =>
  Cl Try.prog 28 [d0] w_95 fun t98_96 w_97 =>
  Cl Try.prog 66 [x1] w_97 fun t101_98 w_99 =>
  Cl Try.prog 65 [t96_94, t101_98] w_99 fun t102_100 w_101 =>
  Pu (unV .not t102_100) fun t103_102 =>
  Gd (isB false t103_102) (fun kk => kk t96_94 w_101) w_101 fun t105_103 w_104 =>
  Gd (isB false t103_102) (fun kk => kk t98_96 w_104) w_104 fun t106_105 w_106 =>
  Gd (isB false t103_102) (fun kk => RunS Try.prog (Instr.buildSlice 82 2 #[(0, t105_103), (1, t106_105)]) w_106 kk) w_106 fun t107_107 w_108 =>
  Gd (isB false t103_102) (fun kk => Cl Try.prog 67 [t107_107] w_108 kk) w_108 fun t108_109 w_110 =>
  Gd (isB false t103_102) (fun kk => Pu (unV .not t108_109) fun vv => kk vv w_110) w_110 fun t109_111 w_112 =>
  Pu (pickV t103_102 (Value.bool true) t109_111) fun t110_113 =>
  IfB t110_113
    (k (Value.bool false) w_112)
    (∃ C_114 : World → Prop, C_114 (World.drew w_112) ∧
  (Pu (nilV x1) fun t114_115 =>
  Pu (faV 5 t114_115) fun t115_116 =>
  ∃ t116_117, (∀ w_118, C_114 w_118 → Ld w_118 t115_116 fun t116_119 w_120 =>
  t116_119 = t116_117 ∧ w_120 = w_118) ∧
  (Cl Try.prog 30 [d0] (World.drew w_112) fun t112_121 w_122 =>
  C_114 w_122 ∧
  (Pu (binV (TypeDesc.int IntKind.i64) .eql t112_121 t116_117) fun t117_123 =>
  Gd (isB true t117_123) (fun kk => kk d0 w_122) w_122 fun t119_124 w_125 =>
  Gd (isB true t117_123) (fun kk => kk x1 w_125) w_125 fun t121_126 w_127 =>
  Gd (isB true t117_123) (fun kk => Pu (nilV t121_126) fun vv => kk vv w_127) w_127 fun t122_128 w_129 =>
  Gd (isB true t117_123) (fun kk => Pu (faV 4 t122_128) fun vv => kk vv w_129) w_129 fun t123_130 w_131 =>
  ∃ t124_132, (∀ w_133, C_114 w_133 → Gd (isB true t117_123) (fun kk => Ld w_133 t123_130 kk) w_133 fun t124_134 w_135 =>
  t124_134 = t124_132 ∧ w_135 = w_133) ∧
  (Gd (isB true t117_123) (fun kk => Cl Try.prog 27 [t119_124] w_131 kk) w_131 fun t120_136 w_137 =>
  C_114 w_137 ∧
  (Gd (isB true t117_123) (fun kk => Pu (binV TypeDesc.bool .eql t120_136 t124_132) fun vv => kk vv w_137) w_137 fun t125_138 w_139 =>
  Pu (pickV t117_123 t125_138 (Value.bool false)) fun t126_140 =>
  Gd (isB true t126_140) (fun kk => kk d0 w_139) w_139 fun t128_141 w_142 =>
  Gd (isB true t126_140) (fun kk => kk x1 w_142) w_142 fun t130_143 w_144 =>
  Gd (isB true t126_140) (fun kk => Pu (nilV t130_143) fun vv => kk vv w_144) w_144 fun t131_145 w_146 =>
  Gd (isB true t126_140) (fun kk => Pu (faV 0 t131_145) fun vv => kk vv w_146) w_146 fun t132_147 w_148 =>
  ∃ t133_149, (∀ w_150, C_114 w_150 → Gd (isB true t126_140) (fun kk => Ld w_150 t132_147 kk) w_150 fun t133_151 w_152 =>
  t133_151 = t133_149 ∧ w_152 = w_150) ∧
  (Gd (isB true t126_140) (fun kk => Pu (lenV t133_149) fun vv => kk vv w_148) w_148 fun t134_153 w_154 =>
  Gd (isB true t126_140) (fun kk => Cl Try.prog 31 [t128_141] w_154 kk) w_154 fun t129_155 w_156 =>
  C_114 w_156 ∧
  (Gd (isB true t126_140) (fun kk => Pu (binV (TypeDesc.int IntKind.i64) .eql t129_155 t134_153) fun vv => kk vv w_156) w_156 fun t135_157 w_158 =>
  Pu (pickV t126_140 t135_157 (Value.bool false)) fun t136_159 =>
  k t136_159 w_158)))))))))))))
theorem e18 (k : KV) (d0 : Value) (x1 : Value) (a2 : Value) (w : World) : K KD Try.prog 137 (fun j =>  []) (fun j =>  none) (Try.f18.body.getD .skip) (retQ Try.prog Try.f18 k) (argF [d0, x1, a2]) w = T18 k d0 x1 a2 w := by kernel_rfl
theorem c18 {k : KV} {d0 : Value} {x1 : Value} {a2 : Value} {w : World} (h : T18 k d0 x1 a2 w) : Cl Try.prog 18 [d0, x1, a2] w k :=
  Cl_of_K KD_sound mixed Try.func18 (by kernel_rfl) (by kernel_rfl) ((e18 k d0 x1 a2 w).symm ▸ h)

/-- Function 19: almonry/almonrylaw02.alike. -/
def T19 (k : KV) (d0 : Value) (x1 : Value) (w : World) : Prop :=
  ∃ C_1 : World → Prop, C_1 (World.drew w) ∧
  (Pu (nilV x1) fun t12_2 =>
  Pu (faV 0 t12_2) fun t13_3 =>
  ∃ t14_4, (∀ w_5, C_1 w_5 → Ld w_5 t13_3 fun t14_6 w_7 =>
  t14_6 = t14_4 ∧ w_7 = w_5) ∧
  (Pu (lenV t14_4) fun t15_8 =>
  Cl Try.prog 31 [d0] (World.drew w) fun t10_9 w_10 =>
  C_1 w_10 ∧
  (Pu (binV (TypeDesc.int IntKind.i64) .neq t10_9 t15_8) fun t16_11 =>
  Gd (isB false t16_11) (fun kk => kk d0 w_10) w_10 fun t18_12 w_13 =>
  Gd (isB false t16_11) (fun kk => kk x1 w_13) w_13 fun t20_14 w_15 =>
  Gd (isB false t16_11) (fun kk => Pu (nilV t20_14) fun vv => kk vv w_15) w_15 fun t21_16 w_17 =>
  Gd (isB false t16_11) (fun kk => Pu (faV 4 t21_16) fun vv => kk vv w_17) w_17 fun t22_18 w_19 =>
  ∃ t23_20, (∀ w_21, C_1 w_21 → Gd (isB false t16_11) (fun kk => Ld w_21 t22_18 kk) w_21 fun t23_22 w_23 =>
  t23_22 = t23_20 ∧ w_23 = w_21) ∧
  (Gd (isB false t16_11) (fun kk => Cl Try.prog 27 [t18_12] w_19 kk) w_19 fun t19_24 w_25 =>
  C_1 w_25 ∧
  (Gd (isB false t16_11) (fun kk => Pu (binV TypeDesc.bool .neq t19_24 t23_20) fun vv => kk vv w_25) w_25 fun t24_26 w_27 =>
  Pu (pickV t16_11 (Value.bool true) t24_26) fun t25_28 =>
  Gd (isB false t25_28) (fun kk => kk d0 w_27) w_27 fun t27_29 w_30 =>
  Gd (isB false t25_28) (fun kk => kk x1 w_30) w_30 fun t29_31 w_32 =>
  Gd (isB false t25_28) (fun kk => Pu (nilV t29_31) fun vv => kk vv w_32) w_32 fun t30_33 w_34 =>
  Gd (isB false t25_28) (fun kk => Pu (faV 5 t30_33) fun vv => kk vv w_34) w_34 fun t31_35 w_36 =>
  ∃ t32_37, (∀ w_38, C_1 w_38 → Gd (isB false t25_28) (fun kk => Ld w_38 t31_35 kk) w_38 fun t32_39 w_40 =>
  t32_39 = t32_37 ∧ w_40 = w_38) ∧
  (Gd (isB false t25_28) (fun kk => Cl Try.prog 30 [t27_29] w_36 kk) w_36 fun t28_41 w_42 =>
  C_1 w_42 ∧
  (Gd (isB false t25_28) (fun kk => Pu (binV (TypeDesc.int IntKind.i64) .neq t28_41 t32_37) fun vv => kk vv w_42) w_42 fun t33_43 w_44 =>
  Pu (pickV t25_28 (Value.bool true) t33_43) fun t34_45 =>
  Gd (isB false t34_45) (fun kk => kk d0 w_44) w_44 fun t36_46 w_47 =>
  Gd (isB false t34_45) (fun kk => kk x1 w_47) w_47 fun t38_48 w_49 =>
  Gd (isB false t34_45) (fun kk => Cl Try.prog 28 [t36_46] w_49 kk) w_49 fun t37_50 w_51 =>
  C_1 w_51 ∧
  (Gd (isB false t34_45) (fun kk => Cl Try.prog 66 [t38_48] w_51 kk) w_51 fun t39_52 w_53 =>
  C_1 w_53 ∧
  (Gd (isB false t34_45) (fun kk => Cl Try.prog 65 [t37_50, t39_52] w_53 kk) w_53 fun t40_54 w_55 =>
  C_1 w_55 ∧
  (Gd (isB false t34_45) (fun kk => Pu (unV .not t40_54) fun vv => kk vv w_55) w_55 fun t41_56 w_57 =>
  Pu (pickV t34_45 (Value.bool true) t41_56) fun t42_58 =>
  IfB t42_58
    (k (Value.bool false) w_57)
    (Pu (nilV x1) fun t46_59 =>
  Pu (faV 0 t46_59) fun t47_60 =>
  Ld w_57 t47_60 fun t48_61 w_62 =>
  Pu (lenV t48_61) fun t49_63 =>
  Cl Try.prog 29 [d0, (Value.int IntKind.i64 0), t49_63] w_62 fun t50_64 w_65 =>
  Pu (extV t50_64 0) fun t51_66 =>
  Pu (extV t50_64 1) fun t52_67 =>
  Pu (nilV x1) fun t56_68 =>
  Pu (faV 0 t56_68) fun t57_69 =>
  Ld w_65 t57_69 fun t58_70 w_71 =>
  Pu (lenV t58_70) fun t59_72 =>
  Cl Try.prog 61 [x1, (Value.int IntKind.i64 0), t59_72] w_71 fun t60_73 w_74 =>
  Pu (extV t60_73 0) fun t61_75 =>
  Pu (extV t60_73 1) fun t62_76 =>
  Pu (binV TypeDesc.string .eql t51_66 t61_75) fun t65_77 =>
  Gd (isB true t65_77) (fun kk => kk t52_67 w_74) w_74 fun t67_78 w_79 =>
  Gd (isB true t65_77) (fun kk => kk t62_76 w_79) w_79 fun t68_80 w_81 =>
  Gd (isB true t65_77) (fun kk => Pu (binV (TypeDesc.int IntKind.i64) .eql t67_78 t68_80) fun vv => kk vv w_81) w_81 fun t69_82 w_83 =>
  Pu (pickV t65_77 t69_82 (Value.bool false)) fun t70_84 =>
  k t70_84 w_83)))))))))))
theorem e19 (k : KV) (d0 : Value) (x1 : Value) (w : World) : K KD Try.prog 71 (fun j =>  []) (fun j =>  none) (Try.f19.body.getD .skip) (retQ Try.prog Try.f19 k) (argF [d0, x1]) w = T19 k d0 x1 w := by kernel_rfl
theorem c19 {k : KV} {d0 : Value} {x1 : Value} {w : World} (h : T19 k d0 x1 w) : Cl Try.prog 19 [d0, x1] w k :=
  Cl_of_K KD_sound mixed Try.func19 (by kernel_rfl) (by kernel_rfl) ((e19 k d0 x1 w).symm ▸ h)

/-- Function 20: (*almonry/disk.Disk).Crash. -/
def T20 (k : KV) (d0 : Value) (how1 : Value) (w : World) : Prop :=
  Pu (binV (TypeDesc.pointer 120) .eql d0 (Value.pointer none)) fun t9_1 =>
  IfB t9_1
    (k (.tuple #[]) w)
    (Cl Try.prog 28 [d0] w fun t11_2 w_3 =>
  Pu (lenV t11_2) fun t12_4 =>
  ∃ (I_5 : List Value → World → Prop) (m_6 : List Value → World → Nat), I_5 [(Value.int IntKind.i64 0)] w_3 ∧
  ∀ (g_54 : Fr) (w_53 : World), ∀ t13_12 : Value, I_5 [t13_12] w_53 →
    (Pu (binV (TypeDesc.int IntKind.i64) .lss t13_12 t12_4) fun t14_55 =>
    IfB t14_55
      (Pu (ixV 1 t11_2 t13_12) fun t16_56 =>
    Ld w_53 t16_56 fun t17_57 w_58 =>
    Jn (fun vs_76 w_75 => ∀ g_77 : Fr, ∃ fate6_60 : Value, vs_76 = [fate6_60] ∧
        (Pu (binV (TypeDesc.int IntKind.i64) .quo fate6_60 (Value.int IntKind.i64 3)) fun t33_78 =>
        Pu (binV (TypeDesc.int IntKind.i64) .rem t33_78 (Value.int IntKind.i64 65)) fun t34_79 =>
        RunS Try.prog (Instr.build 127 #[(0, (Value.int IntKind.i64 0)), (1, (Value.int IntKind.i64 64)), (2, t34_79)]) w_75 fun t35_80 w_81 =>
        Pu (binV (TypeDesc.int IntKind.i64) .rem fate6_60 (Value.int IntKind.i64 3)) fun t37_82 =>
        Pu (ixG false 3 1 t35_80 t37_82) fun t38_83 =>
        ∃ C_84 : World → Prop, C_84 (World.drew w_81) ∧
        (Pu (nilV d0) fun t45_85 =>
        Pu (faV 1 t45_85) fun t46_86 =>
        ∃ t47_87, (∀ w_88, C_84 w_88 → Ld w_88 t46_86 fun t47_89 w_90 =>
        t47_89 = t47_87 ∧ w_90 = w_88) ∧
        (∃ t49_91, (∀ w_92, C_84 w_92 → RunS Try.prog (Instr.lookup 118 t47_87 t17_57 false) w_92 fun t49_93 w_94 =>
        t49_93 = t49_91 ∧ w_94 = w_92) ∧
        (Pu (slS t49_91 (some t38_83) none) fun t51_95 =>
        Cl Try.prog 68 [d0, t17_57] (World.drew w_81) fun t41_96 w_97 =>
        C_84 w_97 ∧
        (Pu (slV 1 t41_96 (some t38_83) none none) fun t43_98 =>
        RunS Try.prog (Builtin.copy_ #[44, 9] 3 #[t43_98, t51_95]) w_97 fun t52_99 w_100 =>
        C_84 w_100 ∧
        (Pu (binV (TypeDesc.int IntKind.i64) .add t13_12 (Value.int IntKind.i64 1)) fun t53_101 =>
    I_5 [t53_101] w_100 ∧ m_6 [t53_101] w_100 < m_6 [t13_12] w_53)))))))
      (fun jj_59 =>
      Pu (lenV how1) fun t20_102 =>
      Pu (binV (TypeDesc.int IntKind.i64) .lss t13_12 t20_102) fun t21_103 =>
      IfB t21_103
        (Pu (ixV 1 how1 t13_12) fun t24_104 =>
          Ld (World.drew w_58) t24_104 fun t25_105 w_106 =>
          w_106 = (World.drew w_58) ∧
          Pu (ixV 1 how1 t13_12) fun t28_107 =>
          Ld (World.drew w_58) t28_107 fun t29_108 w_109 =>
          w_109 = (World.drew w_58) ∧
          Pu (unV .xor t29_108) fun t30_110 =>
          Pu (foldV0 max2V [t25_105, t30_110]) fun t31_111 =>
          jj_59 [t31_111] (World.drew w_58))
        (jj_59 [(Value.int IntKind.i64 0)] w_58)))
      (Pu (nilV d0) fun t55_112 =>
  Pu (faV 1 t55_112) fun t56_113 =>
  Ld w_53 t56_113 fun t57_114 w_115 =>
  RunS Try.prog (Builtin.clear_ #[118] 0 #[t57_114]) w_115 fun u_116 w_117 =>
  Pu (nilV d0) fun t60_118 =>
  Pu (faV 3 t60_118) fun t61_119 =>
  St 1 w_117 t61_119 (Value.bool false) fun u_120 w_121 =>
  Pu (nilV d0) fun t62_122 =>
  Pu (faV 2 t62_122) fun t63_123 =>
  St 1 w_121 t63_123 (Value.int IntKind.i64 0) fun u_124 w_125 =>
  k (.tuple #[]) w_125)))
theorem e20 (k : KV) (d0 : Value) (how1 : Value) (w : World) : K KD Try.prog 64 (fun j => bif Nat.beq j 2 then [13] else []) (fun j => bif Nat.beq j 7 then some [6] else none) (Try.f20.body.getD .skip) (retQ Try.prog Try.f20 k) (argF [d0, how1]) w = T20 k d0 how1 w := by kernel_rfl
theorem c20 {k : KV} {d0 : Value} {how1 : Value} {w : World} (h : T20 k d0 how1 w) : Cl Try.prog 20 [d0, how1] w k :=
  Cl_of_K KD_sound mixed Try.func20 (by kernel_rfl) (by kernel_rfl) ((e20 k d0 how1 w).symm ▸ h)

/-- Function 21: (*almonry/almonryref02.Disk).Crash. -/
def T21 (k : KV) (d0 : Value) (how1 : Value) (w : World) : Prop :=
  ∃ (I_1 : List Value → World → Prop) (m_2 : List Value → World → Nat), I_1 [(Value.int IntKind.i64 0), (Value.int IntKind.i64 0)] w ∧
  ∀ (g_107 : Fr) (w_106 : World), ∀ kv4_4 : Value, ∀ i5_5 : Value, I_1 [kv4_4, i5_5] w_106 →
    (Pu (nilV d0) fun t10_108 =>
    Pu (faV 0 t10_108) fun t11_109 =>
    Ld w_106 t11_109 fun t12_110 w_111 =>
    Pu (lenV t12_110) fun t13_112 =>
    Pu (binV (TypeDesc.int IntKind.i64) .lss i5_5 t13_112) fun t14_113 =>
    IfB t14_113
      (Jn (fun vs_208 w_207 => ∀ g_209 : Fr, ∃ kv4_115 : Value, vs_208 = [kv4_115] ∧
        (Pu (binV (TypeDesc.int IntKind.i64) .add i5_5 (Value.int IntKind.i64 1)) fun t16_210 =>
        I_1 [kv4_115, t16_210] w_207 ∧ m_2 [kv4_115, t16_210] w_207 < m_2 [kv4_4, i5_5] w_106))
      (fun jj_114 =>
      Pu (nilV d0) fun t18_211 =>
      Pu (faV 2 t18_211) fun t19_212 =>
      Ld w_111 t19_212 fun t20_213 w_214 =>
      Pu (ixV 1 t20_213 i5_5) fun t22_215 =>
      Ld w_214 t22_215 fun t23_216 w_217 =>
      Pu (unV .not t23_216) fun t24_218 =>
      IfB t24_218
        (jj_114 [kv4_4] w_217)
        (Jn (fun vs_230 w_229 => ∀ g_231 : Fr, ∃ fate6_220 : Value, vs_230 = [fate6_220] ∧
          (Jn (fun vs_240 w_239 => ∀ g_241 : Fr, ∃ fate6_233 : Value, vs_240 = [fate6_233] ∧
              (Pu (binV (TypeDesc.int IntKind.i64) .add kv4_4 (Value.int IntKind.i64 1)) fun t39_242 =>
              Jn (fun vs_293 w_292 => ∀ g_294 : Fr, vs_293 = [] ∧
                  (Pu (nilV d0) fun t88_295 =>
                  Pu (faV 1 t88_295) fun t89_296 =>
                  Ld (World.drew w_292) t89_296 fun t90_297 w_298 =>
                  w_298 = (World.drew w_292) ∧
                  Pu (nilV d0) fun t93_299 =>
                  Pu (faV 0 t93_299) fun t94_300 =>
                  Ld (World.drew w_292) t94_300 fun t95_301 w_302 =>
                  w_302 = (World.drew w_292) ∧
                  Pu (ixV 1 t95_301 i5_5) fun t97_303 =>
                  Ld (World.drew w_292) t97_303 fun t98_304 w_305 =>
                  w_305 = (World.drew w_292) ∧
                  Pu (ixV 1 t90_297 i5_5) fun t99_306 =>
                  St 1 (World.drew w_292) t99_306 t98_304 fun u_307 w_308 =>
                  Pu (nilV d0) fun t101_309 =>
                  Pu (faV 2 t101_309) fun t102_310 =>
                  Ld w_308 t102_310 fun t103_311 w_312 =>
                  Pu (ixV 1 t103_311 i5_5) fun t105_313 =>
                  St 1 w_312 t105_313 (Value.bool false) fun u_314 w_315 =>
                  jj_114 [t39_242] w_315))
                (fun jj_243 =>
                Pu (binV (TypeDesc.int IntKind.i64) .rem fate6_233 (Value.int IntKind.i64 3)) fun t41_316 =>
                Pu (binV (TypeDesc.int IntKind.i64) .eql t41_316 (Value.int IntKind.i64 1)) fun t43_317 =>
                IfB t43_317
                  (Pu (nilV d0) fun t45_318 =>
                    Pu (faV 0 t45_318) fun t46_319 =>
                    Ld (World.drew w_239) t46_319 fun t47_320 w_321 =>
                    w_321 = (World.drew w_239) ∧
                    Pu (nilV d0) fun t50_322 =>
                    Pu (faV 1 t50_322) fun t51_323 =>
                    Ld (World.drew w_239) t51_323 fun t52_324 w_325 =>
                    w_325 = (World.drew w_239) ∧
                    Pu (ixV 1 t52_324 i5_5) fun t54_326 =>
                    Ld (World.drew w_239) t54_326 fun t55_327 w_328 =>
                    w_328 = (World.drew w_239) ∧
                    Pu (ixV 1 t47_320 i5_5) fun t56_329 =>
                    St 1 (World.drew w_239) t56_329 t55_327 fun u_330 w_331 =>
                    jj_243 [] w_331)
                  (Pu (binV (TypeDesc.int IntKind.i64) .eql t41_316 (Value.int IntKind.i64 2)) fun t58_332 =>
                    IfB t58_332
                      (Pu (binV (TypeDesc.int IntKind.i64) .quo fate6_233 (Value.int IntKind.i64 3)) fun t60_333 =>
                        Pu (binV (TypeDesc.int IntKind.i64) .rem t60_333 (Value.int IntKind.i64 65)) fun t61_334 =>
                        Pu (nilV d0) fun t63_335 =>
                        Pu (faV 0 t63_335) fun t64_336 =>
                        Ld (World.drew w_239) t64_336 fun t65_337 w_338 =>
                        w_338 = (World.drew w_239) ∧
                        Pu (nilV d0) fun t68_339 =>
                        Pu (faV 1 t68_339) fun t69_340 =>
                        Ld (World.drew w_239) t69_340 fun t70_341 w_342 =>
                        w_342 = (World.drew w_239) ∧
                        Pu (ixV 1 t70_341 i5_5) fun t72_343 =>
                        Ld (World.drew w_239) t72_343 fun t73_344 w_345 =>
                        w_345 = (World.drew w_239) ∧
                        Pu (slS t73_344 none (some t61_334)) fun t75_346 =>
                        Pu (nilV d0) fun t77_347 =>
                        Pu (faV 0 t77_347) fun t78_348 =>
                        Ld (World.drew w_239) t78_348 fun t79_349 w_350 =>
                        w_350 = (World.drew w_239) ∧
                        Pu (ixV 1 t79_349 i5_5) fun t81_351 =>
                        Ld (World.drew w_239) t81_351 fun t82_352 w_353 =>
                        w_353 = (World.drew w_239) ∧
                        Pu (slS t82_352 (some t61_334) none) fun t84_354 =>
                        Pu (binV TypeDesc.string .add t75_346 t84_354) fun t85_355 =>
                        Pu (ixV 1 t65_337 i5_5) fun t86_356 =>
                        St 1 (World.drew w_239) t86_356 t85_355 fun u_357 w_358 =>
                        jj_243 [] w_358)
                      (jj_243 [] w_239)))))
            (fun jj_232 =>
            Pu (binV (TypeDesc.int IntKind.i64) .lss fate6_220 (Value.int IntKind.i64 0)) fun t34_359 =>
            IfB t34_359
              (Pu (binV (TypeDesc.int IntKind.i64) .add fate6_220 (Value.int IntKind.i64 1)) fun t36_360 =>
                Pu (unV .neg t36_360) fun t37_361 =>
                jj_232 [t37_361] w_229)
              (jj_232 [fate6_220] w_229))))
        (fun jj_219 =>
        Pu (lenV how1) fun t27_362 =>
        Pu (binV (TypeDesc.int IntKind.i64) .lss kv4_4 t27_362) fun t28_363 =>
        IfB t28_363
          (Pu (ixV 1 how1 kv4_4) fun t31_364 =>
            Ld w_217 t31_364 fun t32_365 w_366 =>
            jj_219 [t32_365] w_366)
          (jj_219 [(Value.int IntKind.i64 0)] w_217)))))
      (Pu (nilV d0) fun t107_367 =>
  Pu (faV 4 t107_367) fun t108_368 =>
  St 1 w_111 t108_368 (Value.bool false) fun u_369 w_370 =>
  Pu (nilV d0) fun t110_371 =>
  Pu (faV 3 t110_371) fun t111_372 =>
  St 1 w_370 t111_372 (Value.int IntKind.i64 0) fun u_373 w_374 =>
  k (.tuple #[]) w_374))
theorem e21 (k : KV) (d0 : Value) (how1 : Value) (w : World) : K KD Try.prog 112 (fun j => bif Nat.beq j 2 then [4, 5] else []) (fun j => bif Nat.beq j 3 then some [4] else bif Nat.beq j 8 then some [6] else bif Nat.beq j 10 then some [6] else bif Nat.beq j 17 then some [] else none) (Try.f21.body.getD .skip) (retQ Try.prog Try.f21 k) (argF [d0, how1]) w = T21 k d0 how1 w := by kernel_rfl
theorem c21 {k : KV} {d0 : Value} {how1 : Value} {w : World} (h : T21 k d0 how1 w) : Cl Try.prog 21 [d0, how1] w k :=
  Cl_of_K KD_sound mixed Try.func21 (by kernel_rfl) (by kernel_rfl) ((e21 k d0 how1 w).symm ▸ h)

/-- Function 22: almonry/almonrylaw02.pick. -/
def T22 (k : KV) (c0 : Value) (n1 : Value) (w : World) : Prop :=
  Jn (fun vs_9 w_8 => ∀ g_10 : Fr, ∃ c0_2 : Value, vs_9 = [c0_2] ∧
      (Pu (binV (TypeDesc.int IntKind.i64) .rem c0_2 n1) fun t12_11 =>
      k t12_11 w_8))
    (fun jj_1 =>
    Pu (binV (TypeDesc.int IntKind.i64) .lss c0 (Value.int IntKind.i64 0)) fun t6_12 =>
    IfB t6_12
      (Pu (binV (TypeDesc.int IntKind.i64) .add c0 (Value.int IntKind.i64 1)) fun t8_13 =>
        Pu (unV .neg t8_13) fun t9_14 =>
        jj_1 [t9_14] w)
      (jj_1 [c0] w))
theorem e22 (k : KV) (c0 : Value) (n1 : Value) (w : World) : K KD Try.prog 13 (fun j =>  []) (fun j => bif Nat.beq j 3 then some [0] else none) (Try.f22.body.getD .skip) (retQ Try.prog Try.f22 k) (argF [c0, n1]) w = T22 k c0 n1 w := by kernel_rfl
theorem c22 {k : KV} {c0 : Value} {n1 : Value} {w : World} (h : T22 k c0 n1 w) : Cl Try.prog 22 [c0, n1] w k :=
  Cl_of_K KD_sound mixed Try.func22 (by kernel_rfl) (by kernel_rfl) ((e22 k c0 n1 w).symm ▸ h)

/-- Function 23: almonry/almonrylaw02.Fill. -/
def T23 (k : KV) (n0 : Value) (w : World) : Prop :=
  RunS Try.prog (Instr.makeSlice 44 (Value.int IntKind.i64 64) (Value.int IntKind.i64 64)) w fun t5_1 w_2 =>
  ∃ (I_3 : List Value → World → Prop) (m_4 : List Value → World → Nat), I_3 [(Value.int IntKind.i64 0)] w_2 ∧
  ∀ (g_22 : Fr) (w_21 : World), ∀ i4_6 : Value, I_3 [i4_6] w_21 →
    (Pu (binV (TypeDesc.int IntKind.i64) .lss i4_6 (Value.int IntKind.i64 64)) fun t7_23 =>
    IfB t7_23
      (Pu (binV (TypeDesc.int IntKind.i64) .and n0 (Value.int IntKind.i64 7)) fun t15_24 =>
    Pu (binV (TypeDesc.int IntKind.i64) .mul i4_6 t15_24) fun t16_25 =>
    Pu (binV (TypeDesc.int IntKind.i64) .add n0 t16_25) fun t17_26 =>
    Pu (cvI IntKind.u8 t17_26) fun t18_27 =>
    Pu (ixV 1 t5_1 i4_6) fun t19_28 =>
    St 1 w_21 t19_28 t18_27 fun u_29 w_30 =>
    Pu (binV (TypeDesc.int IntKind.i64) .add i4_6 (Value.int IntKind.i64 1)) fun t9_31 =>
    I_3 [t9_31] w_30 ∧ m_4 [t9_31] w_30 < m_4 [i4_6] w_21)
      (RunS Try.prog (convert 44 9 t5_1) w_21 fun t21_32 w_33 =>
  k t21_32 w_33))
theorem e23 (k : KV) (n0 : Value) (w : World) : K KD Try.prog 22 (fun j => bif Nat.beq j 3 then [4] else []) (fun j =>  none) (Try.f23.body.getD .skip) (retQ Try.prog Try.f23 k) (argF [n0]) w = T23 k n0 w := by kernel_rfl
theorem c23 {k : KV} {n0 : Value} {w : World} (h : T23 k n0 w) : Cl Try.prog 23 [n0] w k :=
  Cl_of_K KD_sound mixed Try.func23 (by kernel_rfl) (by kernel_rfl) ((e23 k n0 w).symm ▸ h)

/-- Function 24: (*almonry/disk.Disk).Write. -/
def T24 (k : KV) (d0 : Value) (atv1 : Value) (data2 : Value) (w : World) : Prop :=
  Cl Try.prog 69 [d0] w fun t11_1 w_2 =>
  Pu (binV (TypeDesc.int IntKind.i64) .neq t11_1 (Value.int IntKind.i64 0)) fun t13_3 =>
  IfB t13_3
    (k t11_1 w_2)
    (Pu (lenS data2) fun t16_4 =>
  Pu (binV (TypeDesc.int IntKind.i64) .rem t16_4 (Value.int IntKind.i64 64)) fun t17_5 =>
  Pu (binV (TypeDesc.int IntKind.i64) .neq t17_5 (Value.int IntKind.i64 0)) fun t18_6 =>
  Gd (isB false t18_6) (fun kk => kk d0 w_2) w_2 fun t20_7 w_8 =>
  Gd (isB false t18_6) (fun kk => kk atv1 w_8) w_8 fun t21_9 w_10 =>
  Gd (isB false t18_6) (fun kk => kk data2 w_10) w_10 fun t22_11 w_12 =>
  Gd (isB false t18_6) (fun kk => Pu (lenS t22_11) fun vv => kk vv w_12) w_12 fun t23_13 w_14 =>
  Gd (isB false t18_6) (fun kk => Pu (binV (TypeDesc.int IntKind.i64) .quo t23_13 (Value.int IntKind.i64 64)) fun vv => kk vv w_14) w_14 fun t24_15 w_16 =>
  Gd (isB false t18_6) (fun kk => Cl Try.prog 70 [t20_7, t21_9, t24_15] w_16 kk) w_16 fun t25_17 w_18 =>
  Gd (isB false t18_6) (fun kk => Pu (unV .not t25_17) fun vv => kk vv w_18) w_18 fun t26_19 w_20 =>
  Pu (pickV t18_6 (Value.bool true) t26_19) fun t27_21 =>
  IfB t27_21
    (k (Value.int IntKind.i64 20) w_20)
    (∃ (I_22 : List Value → World → Prop) (m_23 : List Value → World → Nat), I_22 [atv1, data2] w_20 ∧
  ∀ (g_65 : Fr) (w_64 : World), ∀ atv1_25 : Value, ∀ data2_26 : Value, I_22 [atv1_25, data2_26] w_64 →
    (Pu (binV TypeDesc.string .neq data2_26 (Value.string (ByteArray.mk #[]))) fun t29_66 =>
    IfB t29_66
      (Jn (fun vs_91 w_90 => ∀ g_92 : Fr, vs_91 = [] ∧
        (Pu (slS data2_26 none (some (Value.int IntKind.i64 64))) fun t56_93 =>
        Cl Try.prog 68 [d0, atv1_25] (World.drew w_90) fun t54_94 w_95 =>
        RunS Try.prog (Builtin.copy_ #[44, 9] 3 #[t54_94, t56_93]) w_95 fun t57_96 w_97 =>
        Pu (slS data2_26 (some (Value.int IntKind.i64 64)) none) fun t59_98 =>
        Cl Try.prog 71 [d0] w_97 fun t61_99 w_100 =>
        IfB t61_99
          (k (Value.int IntKind.i64 5) w_100)
          (Pu (binV (TypeDesc.int IntKind.i64) .add atv1_25 (Value.int IntKind.i64 1)) fun t31_101 =>
    I_22 [t31_101, t59_98] w_100 ∧ m_23 [t31_101, t59_98] w_100 < m_23 [atv1_25, data2_26] w_64)))
      (fun jj_67 =>
      Pu (nilV d0) fun t34_102 =>
      Pu (faV 1 t34_102) fun t35_103 =>
      Ld w_64 t35_103 fun t36_104 w_105 =>
      RunS Try.prog (Instr.lookup 118 t36_104 atv1_25 true) w_105 fun t38_106 w_107 =>
      Pu (extV t38_106 0) fun t39_108 =>
      Pu (extV t38_106 1) fun t40_109 =>
      Pu (unV .not t40_109) fun t42_110 =>
      IfB t42_110
        (∃ C_111 : World → Prop, C_111 (World.drew w_107) ∧
          (Pu (nilV d0) fun t44_112 =>
          Pu (faV 1 t44_112) fun t45_113 =>
          ∃ t46_114, (∀ w_115, C_111 w_115 → Ld w_115 t45_113 fun t46_116 w_117 =>
          t46_116 = t46_114 ∧ w_117 = w_115) ∧
          (Cl Try.prog 68 [d0, atv1_25] (World.drew w_107) fun t50_118 w_119 =>
          C_111 w_119 ∧
          (RunS Try.prog (convert 44 9 t50_118) w_119 fun t51_120 w_121 =>
          w_121 = w_119 ∧
          RunU Try.prog (Instr.mapUpdate 118 t46_114 atv1_25 t51_120) w_119 fun u_122 w_123 =>
          C_111 w_123 ∧
          (jj_67 [] w_123)))))
        (jj_67 [] w_107)))
      (k (Value.int IntKind.i64 0) w_64))))
theorem e24 (k : KV) (d0 : Value) (atv1 : Value) (data2 : Value) (w : World) : K KD Try.prog 62 (fun j => bif Nat.beq j 6 then [1, 2] else []) (fun j => bif Nat.beq j 11 then some [] else none) (Try.f24.body.getD .skip) (retQ Try.prog Try.f24 k) (argF [d0, atv1, data2]) w = T24 k d0 atv1 data2 w := by kernel_rfl
theorem c24 {k : KV} {d0 : Value} {atv1 : Value} {data2 : Value} {w : World} (h : T24 k d0 atv1 data2 w) : Cl Try.prog 24 [d0, atv1, data2] w k :=
  Cl_of_K KD_sound mixed Try.func24 (by kernel_rfl) (by kernel_rfl) ((e24 k d0 atv1 data2 w).symm ▸ h)

/-- Function 25: (*almonry/disk.Disk).Sync. -/
def T25 (k : KV) (d0 : Value) (w : World) : Prop :=
  Cl Try.prog 69 [d0] w fun t5_1 w_2 =>
  Pu (binV (TypeDesc.int IntKind.i64) .neq t5_1 (Value.int IntKind.i64 0)) fun t7_3 =>
  IfB t7_3
    (k t5_1 w_2)
    (Cl Try.prog 71 [d0] w_2 fun t10_4 w_5 =>
  IfB t10_4
    (k (Value.int IntKind.i64 5) w_5)
    (Pu (nilV d0) fun t12_6 =>
  Pu (faV 1 t12_6) fun t13_7 =>
  Ld w_5 t13_7 fun t14_8 w_9 =>
  RunS Try.prog (Builtin.clear_ #[118] 0 #[t14_8]) w_9 fun u_10 w_11 =>
  k (Value.int IntKind.i64 0) w_11))
theorem e25 (k : KV) (d0 : Value) (w : World) : K KD Try.prog 15 (fun j =>  []) (fun j =>  none) (Try.f25.body.getD .skip) (retQ Try.prog Try.f25 k) (argF [d0]) w = T25 k d0 w := by kernel_rfl
theorem c25 {k : KV} {d0 : Value} {w : World} (h : T25 k d0 w) : Cl Try.prog 25 [d0] w k :=
  Cl_of_K KD_sound mixed Try.func25 (by kernel_rfl) (by kernel_rfl) ((e25 k d0 w).symm ▸ h)

/-- Function 26: (*almonry/disk.Disk).Arm. -/
def T26 (k : KV) (d0 : Value) (act1 : Value) (w : World) : Prop :=
  Cl Try.prog 69 [d0] w fun t7_1 w_2 =>
  Pu (binV (TypeDesc.int IntKind.i64) .neq t7_1 (Value.int IntKind.i64 0)) fun t9_3 =>
  IfB t9_3
    (k t7_1 w_2)
    (Pu (binV (TypeDesc.int IntKind.i64) .lss act1 (Value.int IntKind.i64 0)) fun t12_4 =>
  IfB t12_4
    (k (Value.int IntKind.i64 1) w_2)
    (Pu (nilV d0) fun t15_5 =>
  Pu (faV 2 t15_5) fun t16_6 =>
  St 1 w_2 t16_6 act1 fun u_7 w_8 =>
  k (Value.int IntKind.i64 0) w_8))
theorem e26 (k : KV) (d0 : Value) (act1 : Value) (w : World) : K KD Try.prog 17 (fun j =>  []) (fun j =>  none) (Try.f26.body.getD .skip) (retQ Try.prog Try.f26 k) (argF [d0, act1]) w = T26 k d0 act1 w := by kernel_rfl
theorem c26 {k : KV} {d0 : Value} {act1 : Value} {w : World} (h : T26 k d0 act1 w) : Cl Try.prog 26 [d0, act1] w k :=
  Cl_of_K KD_sound mixed Try.func26 (by kernel_rfl) (by kernel_rfl) ((e26 k d0 act1 w).symm ▸ h)

/-- Function 27: (*almonry/disk.Disk).Dead. -/
def T27 (k : KV) (d0 : Value) (w : World) : Prop :=
  Pu (binV (TypeDesc.pointer 120) .neq d0 (Value.pointer none)) fun t4_1 =>
  Gd (isB true t4_1) (fun kk => kk d0 w) w fun t6_2 w_3 =>
  Gd (isB true t4_1) (fun kk => Pu (nilV t6_2) fun vv => kk vv w_3) w_3 fun t7_4 w_5 =>
  Gd (isB true t4_1) (fun kk => Pu (faV 3 t7_4) fun vv => kk vv w_5) w_5 fun t8_6 w_7 =>
  Gd (isB true t4_1) (fun kk => Ld w_7 t8_6 kk) w_7 fun t9_8 w_9 =>
  Pu (pickV t4_1 t9_8 (Value.bool false)) fun t10_10 =>
  k t10_10 w_9
theorem e27 (k : KV) (d0 : Value) (w : World) : K KD Try.prog 11 (fun j =>  []) (fun j =>  none) (Try.f27.body.getD .skip) (retQ Try.prog Try.f27 k) (argF [d0]) w = T27 k d0 w := by kernel_rfl
theorem c27 {k : KV} {d0 : Value} {w : World} (h : T27 k d0 w) : Cl Try.prog 27 [d0] w k :=
  Cl_of_K KD_sound mixed Try.func27 (by kernel_rfl) (by kernel_rfl) ((e27 k d0 w).symm ▸ h)

/-- Function 28: (*almonry/disk.Disk).Pending. -/
def T28 (k : KV) (d0 : Value) (w : World) : Prop :=
  Pu (binV (TypeDesc.pointer 120) .eql d0 (Value.pointer none)) fun t4_1 =>
  IfB t4_1
    (k (Value.slice none 0 0) w)
    (Pu (nilV d0) fun t6_2 =>
  Pu (faV 1 t6_2) fun t7_3 =>
  Ld w t7_3 fun t8_4 w_5 =>
  Cl Try.prog 73 [t8_4] w_5 fun t9_6 w_7 =>
  Cl Try.prog 72 [t9_6] w_7 fun t10_8 w_9 =>
  k t10_8 w_9)
theorem e28 (k : KV) (d0 : Value) (w : World) : K KD Try.prog 11 (fun j =>  []) (fun j =>  none) (Try.f28.body.getD .skip) (retQ Try.prog Try.f28 k) (argF [d0]) w = T28 k d0 w := by kernel_rfl
theorem c28 {k : KV} {d0 : Value} {w : World} (h : T28 k d0 w) : Cl Try.prog 28 [d0] w k :=
  Cl_of_K KD_sound mixed Try.func28 (by kernel_rfl) (by kernel_rfl) ((e28 k d0 w).symm ▸ h)

/-- Function 29: (*almonry/disk.Disk).Read. -/
def T29 (k : KV) (d0 : Value) (atv1 : Value) (n2 : Value) (w : World) : Prop :=
  Cl Try.prog 69 [d0] w fun t10_1 w_2 =>
  Pu (binV (TypeDesc.int IntKind.i64) .neq t10_1 (Value.int IntKind.i64 0)) fun t12_3 =>
  IfB t12_3
    (k (.tuple #[(Value.string (ByteArray.mk #[])), t10_1]) w_2)
    (Cl Try.prog 70 [d0, atv1, n2] w_2 fun t17_4 w_5 =>
  Pu (unV .not t17_4) fun t18_6 =>
  IfB t18_6
    (k (.tuple #[(Value.string (ByteArray.mk #[])), (Value.int IntKind.i64 20)]) w_5)
    (Pu (nilV d0) fun t20_7 =>
  Pu (faV 0 t20_7) fun t21_8 =>
  Ld w_5 t21_8 fun t22_9 w_10 =>
  Pu (binV (TypeDesc.int IntKind.i64) .mul atv1 (Value.int IntKind.i64 64)) fun t24_11 =>
  Pu (binV (TypeDesc.int IntKind.i64) .add atv1 n2) fun t27_12 =>
  Pu (binV (TypeDesc.int IntKind.i64) .mul t27_12 (Value.int IntKind.i64 64)) fun t28_13 =>
  Pu (slV 1 t22_9 (some t24_11) (some t28_13) none) fun t29_14 =>
  RunS Try.prog (convert 44 9 t29_14) w_10 fun t30_15 w_16 =>
  k (.tuple #[t30_15, (Value.int IntKind.i64 0)]) w_16))
theorem e29 (k : KV) (d0 : Value) (atv1 : Value) (n2 : Value) (w : World) : K KD Try.prog 31 (fun j =>  []) (fun j =>  none) (Try.f29.body.getD .skip) (retQ Try.prog Try.f29 k) (argF [d0, atv1, n2]) w = T29 k d0 atv1 n2 w := by kernel_rfl
theorem c29 {k : KV} {d0 : Value} {atv1 : Value} {n2 : Value} {w : World} (h : T29 k d0 atv1 n2 w) : Cl Try.prog 29 [d0, atv1, n2] w k :=
  Cl_of_K KD_sound mixed Try.func29 (by kernel_rfl) (by kernel_rfl) ((e29 k d0 atv1 n2 w).symm ▸ h)

/-- Function 30: (*almonry/disk.Disk).Acts. -/
def T30 (k : KV) (d0 : Value) (w : World) : Prop :=
  Pu (binV (TypeDesc.pointer 120) .eql d0 (Value.pointer none)) fun t4_1 =>
  IfB t4_1
    (k (Value.int IntKind.i64 0) w)
    (Pu (nilV d0) fun t6_2 =>
  Pu (faV 4 t6_2) fun t7_3 =>
  Ld w t7_3 fun t8_4 w_5 =>
  k t8_4 w_5)
theorem e30 (k : KV) (d0 : Value) (w : World) : K KD Try.prog 9 (fun j =>  []) (fun j =>  none) (Try.f30.body.getD .skip) (retQ Try.prog Try.f30 k) (argF [d0]) w = T30 k d0 w := by kernel_rfl
theorem c30 {k : KV} {d0 : Value} {w : World} (h : T30 k d0 w) : Cl Try.prog 30 [d0] w k :=
  Cl_of_K KD_sound mixed Try.func30 (by kernel_rfl) (by kernel_rfl) ((e30 k d0 w).symm ▸ h)

/-- Function 31: (*almonry/disk.Disk).Size. -/
def T31 (k : KV) (d0 : Value) (w : World) : Prop :=
  Pu (binV (TypeDesc.pointer 120) .eql d0 (Value.pointer none)) fun t4_1 =>
  IfB t4_1
    (k (Value.int IntKind.i64 0) w)
    (Pu (nilV d0) fun t6_2 =>
  Pu (faV 0 t6_2) fun t7_3 =>
  Ld w t7_3 fun t8_4 w_5 =>
  Pu (lenV t8_4) fun t9_6 =>
  Pu (binV (TypeDesc.int IntKind.i64) .quo t9_6 (Value.int IntKind.i64 64)) fun t10_7 =>
  k t10_7 w_5)
theorem e31 (k : KV) (d0 : Value) (w : World) : K KD Try.prog 11 (fun j =>  []) (fun j =>  none) (Try.f31.body.getD .skip) (retQ Try.prog Try.f31 k) (argF [d0]) w = T31 k d0 w := by kernel_rfl
theorem c31 {k : KV} {d0 : Value} {w : World} (h : T31 k d0 w) : Cl Try.prog 31 [d0] w k :=
  Cl_of_K KD_sound mixed Try.func31 (by kernel_rfl) (by kernel_rfl) ((e31 k d0 w).symm ▸ h)

/-- Function 58: almonry/almonrylaw02.data. -/
def T58 (k : KV) (a0 : Value) (w : World) : Prop :=
  New (Value.cells a0) 36 w fun a1_1 w_2 =>
  ∃ (I_3 : List Value → World → Prop) (m_4 : List Value → World → Nat), I_3 [(Value.string (ByteArray.mk #[])), (Value.int IntKind.i64 0)] w_2 ∧
  ∀ (g_26 : Fr) (w_25 : World), ∀ s3_6 : Value, ∀ i4_7 : Value, I_3 [s3_6, i4_7] w_25 →
    (Pu (faV 2 a1_1) fun t6_27 =>
    Ld w_25 t6_27 fun t7_28 w_29 =>
    Pu (binV (TypeDesc.int IntKind.i64) .lss i4_7 t7_28) fun t8_30 =>
    Gd (isB true t8_30) (fun kk => kk i4_7 w_29) w_29 fun t10_31 w_32 =>
    Gd (isB true t8_30) (fun kk => Pu (binV (TypeDesc.int IntKind.i64) .lss t10_31 (Value.int IntKind.i64 20)) fun vv => kk vv w_32) w_32 fun t11_33 w_34 =>
    Pu (pickV t8_30 t11_33 (Value.bool false)) fun t12_35 =>
    IfB t12_35
      (Pu (faV 3 a1_1) fun t16_36 =>
    Ld w_34 t16_36 fun t17_37 w_38 =>
    Pu (binV (TypeDesc.int IntKind.i64) .add t17_37 i4_7) fun t19_39 =>
    Cl Try.prog 23 [t19_39] w_38 fun t20_40 w_41 =>
    Pu (binV TypeDesc.string .add s3_6 t20_40) fun t21_42 =>
    Pu (binV (TypeDesc.int IntKind.i64) .add i4_7 (Value.int IntKind.i64 1)) fun t14_43 =>
    I_3 [t21_42, t14_43] w_41 ∧ m_4 [t21_42, t14_43] w_41 < m_4 [s3_6, i4_7] w_25)
      (Jn (fun vs_55 w_54 => ∀ g_56 : Fr, ∃ s3_45 : Value, vs_55 = [s3_45] ∧
      (k s3_45 w_54))
    (fun jj_44 =>
    Pu (faV 4 a1_1) fun t22_57 =>
    Ld w_34 t22_57 fun t23_58 w_59 =>
    Gd (isB true t23_58) (fun kk => kk s3_6 w_59) w_59 fun t25_60 w_61 =>
    Gd (isB true t23_58) (fun kk => Pu (binV TypeDesc.string .neq t25_60 (Value.string (ByteArray.mk #[]))) fun vv => kk vv w_61) w_61 fun t26_62 w_63 =>
    Pu (pickV t23_58 t26_62 (Value.bool false)) fun t27_64 =>
    IfB t27_64
      (Pu (slS s3_6 (some (Value.int IntKind.i64 1)) none) fun t29_65 =>
        jj_44 [t29_65] w_63)
      (jj_44 [s3_6] w_63))))
theorem e58 (k : KV) (a0 : Value) (w : World) : K KD Try.prog 31 (fun j => bif Nat.beq j 3 then [3, 4] else []) (fun j => bif Nat.beq j 8 then some [3] else none) (Try.f58.body.getD .skip) (retQ Try.prog Try.f58 k) (argF [a0]) w = T58 k a0 w := by kernel_rfl
theorem c58 {k : KV} {a0 : Value} {w : World} (h : T58 k a0 w) : Cl Try.prog 58 [a0] w k :=
  Cl_of_K KD_sound mixed Try.func58 (by kernel_rfl) (by kernel_rfl) ((e58 k a0 w).symm ▸ h)

/-- Function 59: (*almonry/almonryref02.Disk).Write. -/
def T59 (k : KV) (d0 : Value) (atv1 : Value) (data2 : Value) (w : World) : Prop :=
  Pu (nilV d0) fun t9_1 =>
  Pu (faV 4 t9_1) fun t10_2 =>
  Ld w t10_2 fun t11_3 w_4 =>
  IfB t11_3
    (k (Value.int IntKind.i64 5) w_4)
    (Pu (lenS data2) fun t13_5 =>
  Pu (binV (TypeDesc.int IntKind.i64) .rem t13_5 (Value.int IntKind.i64 64)) fun t14_6 =>
  Pu (binV (TypeDesc.int IntKind.i64) .neq t14_6 (Value.int IntKind.i64 0)) fun t15_7 =>
  Gd (isB false t15_7) (fun kk => kk d0 w_4) w_4 fun t17_8 w_9 =>
  Gd (isB false t15_7) (fun kk => kk atv1 w_9) w_9 fun t18_10 w_11 =>
  Gd (isB false t15_7) (fun kk => kk data2 w_11) w_11 fun t19_12 w_13 =>
  Gd (isB false t15_7) (fun kk => Pu (lenS t19_12) fun vv => kk vv w_13) w_13 fun t20_14 w_15 =>
  Gd (isB false t15_7) (fun kk => Pu (binV (TypeDesc.int IntKind.i64) .quo t20_14 (Value.int IntKind.i64 64)) fun vv => kk vv w_15) w_15 fun t21_16 w_17 =>
  Gd (isB false t15_7) (fun kk => Cl Try.prog 102 [t17_8, t18_10, t21_16] w_17 kk) w_17 fun t22_18 w_19 =>
  Gd (isB false t15_7) (fun kk => Pu (unV .not t22_18) fun vv => kk vv w_19) w_19 fun t23_20 w_21 =>
  Pu (pickV t15_7 (Value.bool true) t23_20) fun t24_22 =>
  IfB t24_22
    (k (Value.int IntKind.i64 20) w_21)
    (∃ (I_23 : List Value → World → Prop) (m_24 : List Value → World → Nat), I_23 [(Value.int IntKind.i64 0)] w_21 ∧
  ∀ (g_61 : Fr) (w_60 : World), ∀ i7_27 : Value, I_23 [i7_27] w_60 →
    (Pu (lenS data2) fun t27_62 =>
    Pu (binV (TypeDesc.int IntKind.i64) .quo t27_62 (Value.int IntKind.i64 64)) fun t28_63 =>
    Pu (binV (TypeDesc.int IntKind.i64) .lss i7_27 t28_63) fun t29_64 =>
    IfB t29_64
      (Pu (nilV d0) fun t33_65 =>
    Pu (faV 1 t33_65) fun t34_66 =>
    Ld (World.drew w_60) t34_66 fun t35_67 w_68 =>
    w_68 = (World.drew w_60) ∧
    Pu (binV (TypeDesc.int IntKind.i64) .add atv1 i7_27) fun t38_69 =>
    Pu (binV (TypeDesc.int IntKind.i64) .mul (Value.int IntKind.i64 64) i7_27) fun t41_70 =>
    Pu (binV (TypeDesc.int IntKind.i64) .mul (Value.int IntKind.i64 64) i7_27) fun t43_71 =>
    Pu (binV (TypeDesc.int IntKind.i64) .add t43_71 (Value.int IntKind.i64 64)) fun t44_72 =>
    Pu (slS data2 (some t41_70) (some t44_72)) fun t45_73 =>
    Pu (ixV 1 t35_67 t38_69) fun t46_74 =>
    St 1 (World.drew w_60) t46_74 t45_73 fun u_75 w_76 =>
    Pu (nilV d0) fun t48_77 =>
    Pu (faV 2 t48_77) fun t49_78 =>
    Ld w_76 t49_78 fun t50_79 w_80 =>
    Pu (binV (TypeDesc.int IntKind.i64) .add atv1 i7_27) fun t53_81 =>
    Pu (ixV 1 t50_79 t53_81) fun t54_82 =>
    St 1 w_80 t54_82 (Value.bool true) fun u_83 w_84 =>
    Cl Try.prog 103 [d0] w_84 fun t56_85 w_86 =>
    IfB t56_85
      (k (Value.int IntKind.i64 5) w_86)
      (Pu (binV (TypeDesc.int IntKind.i64) .add i7_27 (Value.int IntKind.i64 1)) fun t31_87 =>
    I_23 [t31_87] w_86 ∧ m_24 [t31_87] w_86 < m_24 [i7_27] w_60))
      (k (Value.int IntKind.i64 0) w_60))))
theorem e59 (k : KV) (d0 : Value) (atv1 : Value) (data2 : Value) (w : World) : K KD Try.prog 57 (fun j => bif Nat.beq j 6 then [7] else []) (fun j =>  none) (Try.f59.body.getD .skip) (retQ Try.prog Try.f59 k) (argF [d0, atv1, data2]) w = T59 k d0 atv1 data2 w := by kernel_rfl
theorem c59 {k : KV} {d0 : Value} {atv1 : Value} {data2 : Value} {w : World} (h : T59 k d0 atv1 data2 w) : Cl Try.prog 59 [d0, atv1, data2] w k :=
  Cl_of_K KD_sound mixed Try.func59 (by kernel_rfl) (by kernel_rfl) ((e59 k d0 atv1 data2 w).symm ▸ h)

/-- Function 60: (*almonry/almonryref02.Disk).Sync. -/
def T60 (k : KV) (d0 : Value) (w : World) : Prop :=
  Pu (nilV d0) fun t5_1 =>
  Pu (faV 4 t5_1) fun t6_2 =>
  Ld w t6_2 fun t7_3 w_4 =>
  Gd (isB false t7_3) (fun kk => kk d0 w_4) w_4 fun t9_5 w_6 =>
  Gd (isB false t7_3) (fun kk => Cl Try.prog 103 [t9_5] w_6 kk) w_6 fun t10_7 w_8 =>
  Pu (pickV t7_3 (Value.bool true) t10_7) fun t11_9 =>
  IfB t11_9
    (k (Value.int IntKind.i64 5) w_8)
    (∃ (I_10 : List Value → World → Prop) (m_11 : List Value → World → Nat), I_10 [(Value.int IntKind.i64 0)] w_8 ∧
  ∀ (g_43 : Fr) (w_42 : World), ∀ i3_13 : Value, I_10 [i3_13] w_42 →
    (Pu (nilV d0) fun t14_44 =>
    Pu (faV 0 t14_44) fun t15_45 =>
    Ld w_42 t15_45 fun t16_46 w_47 =>
    Pu (lenV t16_46) fun t17_48 =>
    Pu (binV (TypeDesc.int IntKind.i64) .lss i3_13 t17_48) fun t18_49 =>
    IfB t18_49
      (Pu (nilV d0) fun t22_50 =>
    Pu (faV 0 t22_50) fun t23_51 =>
    Ld (World.drew w_47) t23_51 fun t24_52 w_53 =>
    w_53 = (World.drew w_47) ∧
    Pu (nilV d0) fun t27_54 =>
    Pu (faV 1 t27_54) fun t28_55 =>
    Ld (World.drew w_47) t28_55 fun t29_56 w_57 =>
    w_57 = (World.drew w_47) ∧
    Pu (ixV 1 t29_56 i3_13) fun t31_58 =>
    Ld (World.drew w_47) t31_58 fun t32_59 w_60 =>
    w_60 = (World.drew w_47) ∧
    Pu (ixV 1 t24_52 i3_13) fun t33_61 =>
    St 1 (World.drew w_47) t33_61 t32_59 fun u_62 w_63 =>
    Pu (nilV d0) fun t35_64 =>
    Pu (faV 2 t35_64) fun t36_65 =>
    Ld w_63 t36_65 fun t37_66 w_67 =>
    Pu (ixV 1 t37_66 i3_13) fun t39_68 =>
    St 1 w_67 t39_68 (Value.bool false) fun u_69 w_70 =>
    Pu (binV (TypeDesc.int IntKind.i64) .add i3_13 (Value.int IntKind.i64 1)) fun t20_71 =>
    I_10 [t20_71] w_70 ∧ m_11 [t20_71] w_70 < m_11 [i3_13] w_42)
      (k (Value.int IntKind.i64 0) w_47)))
theorem e60 (k : KV) (d0 : Value) (w : World) : K KD Try.prog 40 (fun j => bif Nat.beq j 4 then [3] else []) (fun j =>  none) (Try.f60.body.getD .skip) (retQ Try.prog Try.f60 k) (argF [d0]) w = T60 k d0 w := by kernel_rfl
theorem c60 {k : KV} {d0 : Value} {w : World} (h : T60 k d0 w) : Cl Try.prog 60 [d0] w k :=
  Cl_of_K KD_sound mixed Try.func60 (by kernel_rfl) (by kernel_rfl) ((e60 k d0 w).symm ▸ h)

/-- Function 61: (*almonry/almonryref02.Disk).Read. -/
def T61 (k : KV) (d0 : Value) (atv1 : Value) (n2 : Value) (w : World) : Prop :=
  Pu (nilV d0) fun t11_1 =>
  Pu (faV 4 t11_1) fun t12_2 =>
  Ld w t12_2 fun t13_3 w_4 =>
  IfB t13_3
    (k (.tuple #[(Value.string (ByteArray.mk #[])), (Value.int IntKind.i64 5)]) w_4)
    (Cl Try.prog 102 [d0, atv1, n2] w_4 fun t17_5 w_6 =>
  Pu (unV .not t17_5) fun t18_7 =>
  IfB t18_7
    (k (.tuple #[(Value.string (ByteArray.mk #[])), (Value.int IntKind.i64 20)]) w_6)
    (∃ (I_8 : List Value → World → Prop) (m_9 : List Value → World → Nat), I_8 [(Value.slice none 0 0), atv1] w_6 ∧
  ∀ (g_30 : Fr) (w_29 : World), ∀ b8_11 : Value, ∀ i9_12 : Value, I_8 [b8_11, i9_12] w_29 →
    (Pu (binV (TypeDesc.int IntKind.i64) .add atv1 n2) fun t23_31 =>
    Pu (binV (TypeDesc.int IntKind.i64) .lss i9_12 t23_31) fun t24_32 =>
    IfB t24_32
      (Pu (nilV d0) fun t29_33 =>
    Pu (faV 1 t29_33) fun t30_34 =>
    Ld w_29 t30_34 fun t31_35 w_36 =>
    Pu (ixV 1 t31_35 i9_12) fun t33_37 =>
    Ld w_36 t33_37 fun t34_38 w_39 =>
    RunS Try.prog (Builtin.append_ #[44, 9] 44 #[b8_11, t34_38]) w_39 fun t35_40 w_41 =>
    Pu (binV (TypeDesc.int IntKind.i64) .add i9_12 (Value.int IntKind.i64 1)) fun t26_42 =>
    I_8 [t35_40, t26_42] w_41 ∧ m_9 [t35_40, t26_42] w_41 < m_9 [b8_11, i9_12] w_29)
      (RunS Try.prog (convert 44 9 b8_11) w_29 fun t37_43 w_44 =>
  k (.tuple #[t37_43, (Value.int IntKind.i64 0)]) w_44))))
theorem e61 (k : KV) (d0 : Value) (atv1 : Value) (n2 : Value) (w : World) : K KD Try.prog 38 (fun j => bif Nat.beq j 7 then [8, 9] else []) (fun j =>  none) (Try.f61.body.getD .skip) (retQ Try.prog Try.f61 k) (argF [d0, atv1, n2]) w = T61 k d0 atv1 n2 w := by kernel_rfl
theorem c61 {k : KV} {d0 : Value} {atv1 : Value} {n2 : Value} {w : World} (h : T61 k d0 atv1 n2 w) : Cl Try.prog 61 [d0, atv1, n2] w k :=
  Cl_of_K KD_sound mixed Try.func61 (by kernel_rfl) (by kernel_rfl) ((e61 k d0 atv1 n2 w).symm ▸ h)

/-- Function 62: (*almonry/almonryref02.Disk).Arm. -/
def T62 (k : KV) (d0 : Value) (act1 : Value) (w : World) : Prop :=
  Pu (nilV d0) fun t6_1 =>
  Pu (faV 4 t6_1) fun t7_2 =>
  Ld w t7_2 fun t8_3 w_4 =>
  IfB t8_3
    (k (Value.int IntKind.i64 5) w_4)
    (Pu (binV (TypeDesc.int IntKind.i64) .lss act1 (Value.int IntKind.i64 0)) fun t10_5 =>
  IfB t10_5
    (k (Value.int IntKind.i64 1) w_4)
    (Pu (nilV d0) fun t13_6 =>
  Pu (faV 3 t13_6) fun t14_7 =>
  St 1 w_4 t14_7 act1 fun u_8 w_9 =>
  k (Value.int IntKind.i64 0) w_9))
theorem e62 (k : KV) (d0 : Value) (act1 : Value) (w : World) : K KD Try.prog 15 (fun j =>  []) (fun j =>  none) (Try.f62.body.getD .skip) (retQ Try.prog Try.f62 k) (argF [d0, act1]) w = T62 k d0 act1 w := by kernel_rfl
theorem c62 {k : KV} {d0 : Value} {act1 : Value} {w : World} (h : T62 k d0 act1 w) : Cl Try.prog 62 [d0, act1] w k :=
  Cl_of_K KD_sound mixed Try.func62 (by kernel_rfl) (by kernel_rfl) ((e62 k d0 act1 w).symm ▸ h)

/-- Function 63: almonry/almonrykeep.Lent. -/
def T63 (k : KV) (l0 : Value) (w : World) : Prop :=
  Pu (lenV l0) fun t6_1 =>
  Pu (binV (TypeDesc.int IntKind.i64) .add t6_1 (Value.int IntKind.i64 4)) fun t7_2 =>
  RunS Try.prog (Instr.makeSlice 34 (Value.int IntKind.i64 0) t7_2) w fun t8_3 w_4 =>
  RunS Try.prog (Builtin.append_ #[34, 34] 34 #[t8_3, l0]) w_4 fun t11_5 w_6 =>
  ∃ (I_7 : List Value → World → Prop) (m_8 : List Value → World → Nat), I_7 [t11_5, (Value.int IntKind.i64 0)] w_6 ∧
  ∀ (g_20 : Fr) (w_19 : World), ∀ out3_10 : Value, ∀ i4_11 : Value, I_7 [out3_10, i4_11] w_19 →
    (Pu (binV (TypeDesc.int IntKind.i64) .lss i4_11 (Value.int IntKind.i64 4)) fun t13_21 =>
    IfB t13_21
      (RunS Try.prog (Instr.buildSlice 34 1 #[(0, (Value.int IntKind.i64 (-7770777)))]) w_19 fun t17_22 w_23 =>
    RunS Try.prog (Builtin.append_ #[34, 34] 34 #[out3_10, t17_22]) w_23 fun t18_24 w_25 =>
    Pu (binV (TypeDesc.int IntKind.i64) .add i4_11 (Value.int IntKind.i64 1)) fun t15_26 =>
    I_7 [t18_24, t15_26] w_25 ∧ m_8 [t18_24, t15_26] w_25 < m_8 [out3_10, i4_11] w_19)
      (Pu (lenV l0) fun t21_27 =>
  Pu (slV 1 out3_10 none (some t21_27) none) fun t22_28 =>
  k t22_28 w_19))
theorem e63 (k : KV) (l0 : Value) (w : World) : K KD Try.prog 23 (fun j => bif Nat.beq j 4 then [3, 4] else []) (fun j =>  none) (Try.f63.body.getD .skip) (retQ Try.prog Try.f63 k) (argF [l0]) w = T63 k l0 w := by kernel_rfl
theorem c63 {k : KV} {l0 : Value} {w : World} (h : T63 k l0 w) : Cl Try.prog 63 [l0] w k :=
  Cl_of_K KD_sound mixed Try.func63 (by kernel_rfl) (by kernel_rfl) ((e63 k l0 w).symm ▸ h)

/-- Function 64: almonry/almonrykeep.Kept. -/
def T64 (k : KV) (own0 : Value) (l1 : Value) (w : World) : Prop :=
  Cl Try.prog 65 [own0, l1] w fun t9_1 w_2 =>
  Pu (unV .not t9_1) fun t10_3 =>
  IfB t10_3
    (k (Value.bool false) w_2)
    (Pu (lenV l1) fun t13_4 =>
  Pu (binV (TypeDesc.int IntKind.i64) .add t13_4 (Value.int IntKind.i64 4)) fun t14_5 =>
  Pu (slV 1 own0 none (some t14_5) none) fun t15_6 =>
  Pu (lenV l1) fun t17_7 =>
  ∃ (I_8 : List Value → World → Prop) (m_9 : List Value → World → Nat), I_8 [t17_7] w_2 ∧
  ∀ (g_25 : Fr) (w_24 : World), ∀ i6_12 : Value, I_8 [i6_12] w_24 →
    (Pu (lenV t15_6) fun t20_26 =>
    Pu (binV (TypeDesc.int IntKind.i64) .lss i6_12 t20_26) fun t21_27 =>
    IfB t21_27
      (Pu (ixV 1 t15_6 i6_12) fun t26_28 =>
    Ld w_24 t26_28 fun t27_29 w_30 =>
    Pu (binV (TypeDesc.int IntKind.i64) .neq t27_29 (Value.int IntKind.i64 (-7770777))) fun t28_31 =>
    IfB t28_31
      (k (Value.bool false) w_30)
      (Pu (binV (TypeDesc.int IntKind.i64) .add i6_12 (Value.int IntKind.i64 1)) fun t23_32 =>
    I_8 [t23_32] w_30 ∧ m_9 [t23_32] w_30 < m_9 [i6_12] w_24))
      (k (Value.bool true) w_24)))
theorem e64 (k : KV) (own0 : Value) (l1 : Value) (w : World) : K KD Try.prog 29 (fun j => bif Nat.beq j 5 then [6] else []) (fun j =>  none) (Try.f64.body.getD .skip) (retQ Try.prog Try.f64 k) (argF [own0, l1]) w = T64 k own0 l1 w := by kernel_rfl
theorem c64 {k : KV} {own0 : Value} {l1 : Value} {w : World} (h : T64 k own0 l1 w) : Cl Try.prog 64 [own0, l1] w k :=
  Cl_of_K KD_sound mixed Try.func64 (by kernel_rfl) (by kernel_rfl) ((e64 k own0 l1 w).symm ▸ h)

/-- Function 65: almonry/almonryref00.SameInts. -/
def T65 (k : KV) (a0 : Value) (b1 : Value) (w : World) : Prop :=
  Pu (lenV a0) fun t7_1 =>
  Pu (lenV b1) fun t9_2 =>
  Pu (binV (TypeDesc.int IntKind.i64) .neq t7_1 t9_2) fun t10_3 =>
  IfB t10_3
    (k (Value.bool false) w)
    (∃ (I_4 : List Value → World → Prop) (m_5 : List Value → World → Nat), I_4 [(Value.int IntKind.i64 0)] w ∧
  ∀ (g_25 : Fr) (w_24 : World), ∀ i5_8 : Value, I_4 [i5_8] w_24 →
    (Pu (lenV a0) fun t13_26 =>
    Pu (binV (TypeDesc.int IntKind.i64) .lss i5_8 t13_26) fun t14_27 =>
    IfB t14_27
      (Pu (ixV 1 a0 i5_8) fun t19_28 =>
    Ld (World.drew w_24) t19_28 fun t20_29 w_30 =>
    w_30 = (World.drew w_24) ∧
    Pu (ixV 1 b1 i5_8) fun t23_31 =>
    Ld (World.drew w_24) t23_31 fun t24_32 w_33 =>
    w_33 = (World.drew w_24) ∧
    Pu (binV (TypeDesc.int IntKind.i64) .neq t20_29 t24_32) fun t25_34 =>
    IfB t25_34
      (k (Value.bool false) (World.drew w_24))
      (Pu (binV (TypeDesc.int IntKind.i64) .add i5_8 (Value.int IntKind.i64 1)) fun t16_35 =>
    I_4 [t16_35] (World.drew w_24) ∧ m_5 [t16_35] (World.drew w_24) < m_5 [i5_8] w_24))
      (k (Value.bool true) w_24)))
theorem e65 (k : KV) (a0 : Value) (b1 : Value) (w : World) : K KD Try.prog 26 (fun j => bif Nat.beq j 4 then [5] else []) (fun j =>  none) (Try.f65.body.getD .skip) (retQ Try.prog Try.f65 k) (argF [a0, b1]) w = T65 k a0 b1 w := by kernel_rfl
theorem c65 {k : KV} {a0 : Value} {b1 : Value} {w : World} (h : T65 k a0 b1 w) : Cl Try.prog 65 [a0, b1] w k :=
  Cl_of_K KD_sound mixed Try.func65 (by kernel_rfl) (by kernel_rfl) ((e65 k a0 b1 w).symm ▸ h)

/-- Function 66: (*almonry/almonryref02.Disk).Pending. -/
def T66 (k : KV) (d0 : Value) (w : World) : Prop :=
  ∃ (I_1 : List Value → World → Prop) (m_2 : List Value → World → Nat), I_1 [(Value.slice none 0 0), (Value.int IntKind.i64 0)] w ∧
  ∀ (g_27 : Fr) (w_26 : World), ∀ out3_4 : Value, ∀ i4_5 : Value, I_1 [out3_4, i4_5] w_26 →
    (Pu (nilV d0) fun t7_28 =>
    Pu (faV 2 t7_28) fun t8_29 =>
    Ld w_26 t8_29 fun t9_30 w_31 =>
    Pu (lenV t9_30) fun t10_32 =>
    Pu (binV (TypeDesc.int IntKind.i64) .lss i4_5 t10_32) fun t11_33 =>
    IfB t11_33
      (Jn (fun vs_48 w_47 => ∀ g_49 : Fr, ∃ out3_35 : Value, vs_48 = [out3_35] ∧
        (Pu (binV (TypeDesc.int IntKind.i64) .add i4_5 (Value.int IntKind.i64 1)) fun t13_50 =>
        I_1 [out3_35, t13_50] w_47 ∧ m_2 [out3_35, t13_50] w_47 < m_2 [out3_4, i4_5] w_26))
      (fun jj_34 =>
      Pu (nilV d0) fun t15_51 =>
      Pu (faV 2 t15_51) fun t16_52 =>
      Ld w_31 t16_52 fun t17_53 w_54 =>
      Pu (ixV 1 t17_53 i4_5) fun t19_55 =>
      Ld w_54 t19_55 fun t20_56 w_57 =>
      IfB t20_56
        (RunS Try.prog (Instr.buildSlice 34 1 #[(0, i4_5)]) w_57 fun t23_58 w_59 =>
          RunS Try.prog (Builtin.append_ #[34, 34] 34 #[out3_4, t23_58]) w_59 fun t24_60 w_61 =>
          jj_34 [t24_60] w_61)
        (jj_34 [out3_4] w_57)))
      (k out3_4 w_31))
theorem e66 (k : KV) (d0 : Value) (w : World) : K KD Try.prog 26 (fun j => bif Nat.beq j 3 then [3, 4] else []) (fun j => bif Nat.beq j 4 then some [3] else none) (Try.f66.body.getD .skip) (retQ Try.prog Try.f66 k) (argF [d0]) w = T66 k d0 w := by kernel_rfl
theorem c66 {k : KV} {d0 : Value} {w : World} (h : T66 k d0 w) : Cl Try.prog 66 [d0] w k :=
  Cl_of_K KD_sound mixed Try.func66 (by kernel_rfl) (by kernel_rfl) ((e66 k d0 w).symm ▸ h)

/-- Function 67: almonry/almonrykeep.Apart. -/
def T67 (k : KV) (ls0 : Value) (w : World) : Prop :=
  Pu (lenV ls0) fun t12_1 =>
  RunS Try.prog (Instr.makeSlice 82 t12_1 t12_1) w fun t13_2 w_3 =>
  ∃ (I_4 : List Value → World → Prop) (m_5 : List Value → World → Nat), I_4 [(Value.int IntKind.i64 0)] w_3 ∧
  ∀ (g_42 : Fr) (w_41 : World), ∀ i4_7 : Value, I_4 [i4_7] w_41 →
    (Pu (lenV ls0) fun t16_43 =>
    Pu (binV (TypeDesc.int IntKind.i64) .lss i4_7 t16_43) fun t17_44 =>
    IfB t17_44
      (∃ (I_45 : List Value → World → Prop) (m_46 : List Value → World → Nat), I_45 [(Value.int IntKind.i64 0)] w_41 ∧
    ∀ (g_69 : Fr) (w_68 : World), ∀ kv5_48 : Value, I_45 [kv5_48] w_68 →
      (Pu (ixV 1 ls0 i4_7) fun t23_70 =>
      Ld w_68 t23_70 fun t24_71 w_72 =>
      Pu (lenV t24_71) fun t25_73 =>
      Pu (binV (TypeDesc.int IntKind.i64) .lss kv5_48 t25_73) fun t26_74 =>
      IfB t26_74
        (Pu (ixV 1 ls0 i4_7) fun t31_75 =>
      Ld w_72 t31_75 fun t32_76 w_77 =>
      Pu (binV (TypeDesc.int IntKind.i64) .mul i4_7 (Value.int IntKind.i64 1000003)) fun t35_78 =>
      Pu (binV (TypeDesc.int IntKind.i64) .add t35_78 kv5_48) fun t37_79 =>
      Pu (ixV 1 t32_76 kv5_48) fun t38_80 =>
      St 1 w_77 t38_80 t37_79 fun u_81 w_82 =>
      Pu (binV (TypeDesc.int IntKind.i64) .add kv5_48 (Value.int IntKind.i64 1)) fun t28_83 =>
      I_45 [t28_83] w_82 ∧ m_46 [t28_83] w_82 < m_46 [kv5_48] w_68)
        (Pu (ixV 1 ls0 i4_7) fun t43_84 =>
    Ld w_72 t43_84 fun t44_85 w_86 =>
    Pu (ixV 1 t13_2 i4_7) fun t45_87 =>
    St 1 w_86 t45_87 t44_85 fun u_88 w_89 =>
    Pu (binV (TypeDesc.int IntKind.i64) .add i4_7 (Value.int IntKind.i64 1)) fun t19_90 =>
    I_4 [t19_90] w_89 ∧ m_5 [t19_90] w_89 < m_5 [i4_7] w_41)))
      (∃ (I_91 : List Value → World → Prop) (m_92 : List Value → World → Nat), I_91 [(Value.int IntKind.i64 0)] w_41 ∧
  ∀ (g_122 : Fr) (w_121 : World), ∀ i6_94 : Value, I_91 [i6_94] w_121 →
    (Pu (lenV ls0) fun t48_123 =>
    Pu (binV (TypeDesc.int IntKind.i64) .lss i6_94 t48_123) fun t49_124 =>
    IfB t49_124
      (∃ (I_125 : List Value → World → Prop) (m_126 : List Value → World → Nat), I_125 [(Value.int IntKind.i64 0)] w_121 ∧
    ∀ (g_149 : Fr) (w_148 : World), ∀ kv7_128 : Value, I_125 [kv7_128] w_148 →
      (Pu (binV (TypeDesc.int IntKind.i64) .lss kv7_128 (Value.int IntKind.i64 16)) fun t53_150 =>
      IfB t53_150
        (Pu (ixV 1 t13_2 i6_94) fun t60_151 =>
      Ld w_148 t60_151 fun t61_152 w_153 =>
      Pu (unV .neg i6_94) fun t63_154 =>
      Pu (binV (TypeDesc.int IntKind.i64) .mul t63_154 (Value.int IntKind.i64 1000003)) fun t64_155 =>
      Pu (binV (TypeDesc.int IntKind.i64) .sub t64_155 kv7_128) fun t66_156 =>
      Pu (binV (TypeDesc.int IntKind.i64) .sub t66_156 (Value.int IntKind.i64 1)) fun t67_157 =>
      RunS Try.prog (Instr.buildSlice 34 1 #[(0, t67_157)]) w_153 fun t68_158 w_159 =>
      RunS Try.prog (Builtin.append_ #[34, 34] 34 #[t61_152, t68_158]) w_159 fun t69_160 w_161 =>
      Pu (ixV 1 t13_2 i6_94) fun t70_162 =>
      St 1 w_161 t70_162 t69_160 fun u_163 w_164 =>
      Pu (binV (TypeDesc.int IntKind.i64) .add kv7_128 (Value.int IntKind.i64 1)) fun t55_165 =>
      I_125 [t55_165] w_164 ∧ m_126 [t55_165] w_164 < m_126 [kv7_128] w_148)
        (Pu (binV (TypeDesc.int IntKind.i64) .add i6_94 (Value.int IntKind.i64 1)) fun t51_166 =>
    I_91 [t51_166] w_148 ∧ m_92 [t51_166] w_148 < m_92 [i6_94] w_121)))
      (∃ (I_167 : List Value → World → Prop) (m_168 : List Value → World → Nat), I_167 [(Value.int IntKind.i64 0)] w_121 ∧
  ∀ (g_240 : Fr) (w_239 : World), ∀ i8_171 : Value, I_167 [i8_171] w_239 →
    (Pu (lenV ls0) fun t73_241 =>
    Pu (binV (TypeDesc.int IntKind.i64) .lss i8_171 t73_241) fun t74_242 =>
    IfB t74_242
      (∃ (I_243 : List Value → World → Prop) (m_244 : List Value → World → Nat), I_243 [(Value.int IntKind.i64 0)] w_239 ∧
    ∀ (g_284 : Fr) (w_283 : World), ∀ kv9_247 : Value, I_243 [kv9_247] w_283 →
      (Pu (ixV 1 ls0 i8_171) fun t80_285 =>
      Ld w_283 t80_285 fun t81_286 w_287 =>
      Pu (lenV t81_286) fun t82_288 =>
      Pu (binV (TypeDesc.int IntKind.i64) .lss kv9_247 t82_288) fun t83_289 =>
      IfB t83_289
        (Pu (ixV 1 ls0 i8_171) fun t88_290 =>
      Ld w_287 t88_290 fun t89_291 w_292 =>
      Pu (ixV 1 t89_291 kv9_247) fun t91_293 =>
      Ld w_292 t91_293 fun t92_294 w_295 =>
      Pu (binV (TypeDesc.int IntKind.i64) .mul i8_171 (Value.int IntKind.i64 1000003)) fun t94_296 =>
      Pu (binV (TypeDesc.int IntKind.i64) .add t94_296 kv9_247) fun t96_297 =>
      Pu (binV (TypeDesc.int IntKind.i64) .neq t92_294 t96_297) fun t97_298 =>
      Gd (isB false t97_298) (fun kk => kk t13_2 w_295) w_295 fun t99_299 w_300 =>
      Gd (isB false t97_298) (fun kk => kk i8_171 w_300) w_300 fun t100_301 w_302 =>
      Gd (isB false t97_298) (fun kk => Pu (ixV 1 t99_299 t100_301) fun vv => kk vv w_302) w_302 fun t101_303 w_304 =>
      Gd (isB false t97_298) (fun kk => Ld w_304 t101_303 kk) w_304 fun t102_305 w_306 =>
      Gd (isB false t97_298) (fun kk => kk kv9_247 w_306) w_306 fun t103_307 w_308 =>
      Gd (isB false t97_298) (fun kk => Pu (ixV 1 t102_305 t103_307) fun vv => kk vv w_308) w_308 fun t104_309 w_310 =>
      Gd (isB false t97_298) (fun kk => Ld w_310 t104_309 kk) w_310 fun t105_311 w_312 =>
      Gd (isB false t97_298) (fun kk => kk i8_171 w_312) w_312 fun t106_313 w_314 =>
      Gd (isB false t97_298) (fun kk => Pu (binV (TypeDesc.int IntKind.i64) .mul t106_313 (Value.int IntKind.i64 1000003)) fun vv => kk vv w_314) w_314 fun t107_315 w_316 =>
      Gd (isB false t97_298) (fun kk => kk kv9_247 w_316) w_316 fun t108_317 w_318 =>
      Gd (isB false t97_298) (fun kk => Pu (binV (TypeDesc.int IntKind.i64) .add t107_315 t108_317) fun vv => kk vv w_318) w_318 fun t109_319 w_320 =>
      Gd (isB false t97_298) (fun kk => Pu (binV (TypeDesc.int IntKind.i64) .neq t105_311 t109_319) fun vv => kk vv w_320) w_320 fun t110_321 w_322 =>
      Pu (pickV t97_298 (Value.bool true) t110_321) fun t111_323 =>
      IfB t111_323
        (k (Value.bool false) w_322)
        (Pu (binV (TypeDesc.int IntKind.i64) .add kv9_247 (Value.int IntKind.i64 1)) fun t85_324 =>
      I_243 [t85_324] w_322 ∧ m_244 [t85_324] w_322 < m_244 [kv9_247] w_283))
        (∃ (I_325 : List Value → World → Prop) (m_326 : List Value → World → Nat), I_325 [(Value.int IntKind.i64 0)] w_287 ∧
    ∀ (g_355 : Fr) (w_354 : World), ∀ kv10_329 : Value, I_325 [kv10_329] w_354 →
      (Pu (binV (TypeDesc.int IntKind.i64) .lss kv10_329 (Value.int IntKind.i64 16)) fun t113_356 =>
      IfB t113_356
        (Pu (ixV 1 t13_2 i8_171) fun t118_357 =>
      Ld (World.drew w_354) t118_357 fun t119_358 w_359 =>
      w_359 = (World.drew w_354) ∧
      Pu (ixV 1 ls0 i8_171) fun t122_360 =>
      Ld (World.drew w_354) t122_360 fun t123_361 w_362 =>
      w_362 = (World.drew w_354) ∧
      Pu (lenV t123_361) fun t124_363 =>
      Pu (binV (TypeDesc.int IntKind.i64) .add t124_363 kv10_329) fun t126_364 =>
      Pu (ixV 1 t119_358 t126_364) fun t127_365 =>
      Ld (World.drew w_354) t127_365 fun t128_366 w_367 =>
      w_367 = (World.drew w_354) ∧
      Pu (unV .neg i8_171) fun t130_368 =>
      Pu (binV (TypeDesc.int IntKind.i64) .mul t130_368 (Value.int IntKind.i64 1000003)) fun t131_369 =>
      Pu (binV (TypeDesc.int IntKind.i64) .sub t131_369 kv10_329) fun t133_370 =>
      Pu (binV (TypeDesc.int IntKind.i64) .sub t133_370 (Value.int IntKind.i64 1)) fun t134_371 =>
      Pu (binV (TypeDesc.int IntKind.i64) .neq t128_366 t134_371) fun t135_372 =>
      IfB t135_372
        (k (Value.bool false) (World.drew w_354))
        (Pu (binV (TypeDesc.int IntKind.i64) .add kv10_329 (Value.int IntKind.i64 1)) fun t115_373 =>
      I_325 [t115_373] (World.drew w_354) ∧ m_326 [t115_373] (World.drew w_354) < m_326 [kv10_329] w_354))
        (Pu (binV (TypeDesc.int IntKind.i64) .add i8_171 (Value.int IntKind.i64 1)) fun t76_374 =>
    I_167 [t76_374] w_354 ∧ m_168 [t76_374] w_354 < m_168 [i8_171] w_239)))))
      (k (Value.bool true) w_239))))))
theorem e67 (k : KV) (ls0 : Value) (w : World) : K KD Try.prog 136 (fun j => bif Nat.beq j 6 then [5] else bif Nat.beq j 14 then [7] else bif Nat.beq j 26 then [10] else bif Nat.beq j 21 then [9] else bif Nat.beq j 18 then [8] else bif Nat.beq j 11 then [6] else bif Nat.beq j 3 then [4] else []) (fun j =>  none) (Try.f67.body.getD .skip) (retQ Try.prog Try.f67 k) (argF [ls0]) w = T67 k ls0 w := by kernel_rfl
theorem c67 {k : KV} {ls0 : Value} {w : World} (h : T67 k ls0 w) : Cl Try.prog 67 [ls0] w k :=
  Cl_of_K KD_sound mixed Try.func67 (by kernel_rfl) (by kernel_rfl) ((e67 k ls0 w).symm ▸ h)

/-- Function 68: (*almonry/disk.Disk).sector. -/
def T68 (k : KV) (d0 : Value) (n1 : Value) (w : World) : Prop :=
  Pu (nilV d0) fun t6_1 =>
  Pu (faV 0 t6_1) fun t7_2 =>
  Ld w t7_2 fun t8_3 w_4 =>
  Pu (binV (TypeDesc.int IntKind.i64) .mul n1 (Value.int IntKind.i64 64)) fun t10_5 =>
  Pu (binV (TypeDesc.int IntKind.i64) .add n1 (Value.int IntKind.i64 1)) fun t12_6 =>
  Pu (binV (TypeDesc.int IntKind.i64) .mul t12_6 (Value.int IntKind.i64 64)) fun t13_7 =>
  Pu (slV 1 t8_3 (some t10_5) (some t13_7) none) fun t14_8 =>
  k t14_8 w_4
theorem e68 (k : KV) (d0 : Value) (n1 : Value) (w : World) : K KD Try.prog 15 (fun j =>  []) (fun j =>  none) (Try.f68.body.getD .skip) (retQ Try.prog Try.f68 k) (argF [d0, n1]) w = T68 k d0 n1 w := by kernel_rfl
theorem c68 {k : KV} {d0 : Value} {n1 : Value} {w : World} (h : T68 k d0 n1 w) : Cl Try.prog 68 [d0, n1] w k :=
  Cl_of_K KD_sound mixed Try.func68 (by kernel_rfl) (by kernel_rfl) ((e68 k d0 n1 w).symm ▸ h)

/-- Function 69: (*almonry/disk.Disk).alive. -/
def T69 (k : KV) (d0 : Value) (w : World) : Prop :=
  Pu (binV (TypeDesc.pointer 120) .eql d0 (Value.pointer none)) fun t5_1 =>
  IfB t5_1
    (k (Value.int IntKind.i64 2) w)
    (Pu (nilV d0) fun t8_2 =>
      Pu (faV 3 t8_2) fun t9_3 =>
      Ld w t9_3 fun t10_4 w_5 =>
      IfB t10_4
        (k (Value.int IntKind.i64 5) w_5)
        (k (Value.int IntKind.i64 0) w_5))
theorem e69 (k : KV) (d0 : Value) (w : World) : K KD Try.prog 11 (fun j =>  []) (fun j =>  none) (Try.f69.body.getD .skip) (retQ Try.prog Try.f69 k) (argF [d0]) w = T69 k d0 w := by kernel_rfl
theorem c69 {k : KV} {d0 : Value} {w : World} (h : T69 k d0 w) : Cl Try.prog 69 [d0] w k :=
  Cl_of_K KD_sound mixed Try.func69 (by kernel_rfl) (by kernel_rfl) ((e69 k d0 w).symm ▸ h)

/-- Function 70: (*almonry/disk.Disk).has. -/
def T70 (k : KV) (d0 : Value) (atv1 : Value) (n2 : Value) (w : World) : Prop :=
  Pu (binV (TypeDesc.int IntKind.i64) .geq atv1 (Value.int IntKind.i64 0)) fun t8_1 =>
  Gd (isB true t8_1) (fun kk => kk n2 w) w fun t10_2 w_3 =>
  Gd (isB true t8_1) (fun kk => Pu (binV (TypeDesc.int IntKind.i64) .geq t10_2 (Value.int IntKind.i64 0)) fun vv => kk vv w_3) w_3 fun t11_4 w_5 =>
  Pu (pickV t8_1 t11_4 (Value.bool false)) fun t12_6 =>
  Gd (isB true t12_6) (fun kk => kk atv1 w_5) w_5 fun t14_7 w_8 =>
  Gd (isB true t12_6) (fun kk => kk d0 w_8) w_8 fun t15_9 w_10 =>
  Gd (isB true t12_6) (fun kk => Cl Try.prog 31 [t15_9] w_10 kk) w_10 fun t16_11 w_12 =>
  Gd (isB true t12_6) (fun kk => Pu (binV (TypeDesc.int IntKind.i64) .leq t14_7 t16_11) fun vv => kk vv w_12) w_12 fun t17_13 w_14 =>
  Pu (pickV t12_6 t17_13 (Value.bool false)) fun t18_15 =>
  Gd (isB true t18_15) (fun kk => kk n2 w_14) w_14 fun t20_16 w_17 =>
  Gd (isB true t18_15) (fun kk => kk d0 w_17) w_17 fun t21_18 w_19 =>
  Gd (isB true t18_15) (fun kk => Cl Try.prog 31 [t21_18] w_19 kk) w_19 fun t22_20 w_21 =>
  Gd (isB true t18_15) (fun kk => kk atv1 w_21) w_21 fun t23_22 w_23 =>
  Gd (isB true t18_15) (fun kk => Pu (binV (TypeDesc.int IntKind.i64) .sub t22_20 t23_22) fun vv => kk vv w_23) w_23 fun t24_24 w_25 =>
  Gd (isB true t18_15) (fun kk => Pu (binV (TypeDesc.int IntKind.i64) .leq t20_16 t24_24) fun vv => kk vv w_25) w_25 fun t25_26 w_27 =>
  Pu (pickV t18_15 t25_26 (Value.bool false)) fun t26_28 =>
  k t26_28 w_27
theorem e70 (k : KV) (d0 : Value) (atv1 : Value) (n2 : Value) (w : World) : K KD Try.prog 27 (fun j =>  []) (fun j =>  none) (Try.f70.body.getD .skip) (retQ Try.prog Try.f70 k) (argF [d0, atv1, n2]) w = T70 k d0 atv1 n2 w := by kernel_rfl
theorem c70 {k : KV} {d0 : Value} {atv1 : Value} {n2 : Value} {w : World} (h : T70 k d0 atv1 n2 w) : Cl Try.prog 70 [d0, atv1, n2] w k :=
  Cl_of_K KD_sound mixed Try.func70 (by kernel_rfl) (by kernel_rfl) ((e70 k d0 atv1 n2 w).symm ▸ h)

/-- Function 71: (*almonry/disk.Disk).act. -/
def T71 (k : KV) (d0 : Value) (w : World) : Prop :=
  Pu (nilV d0) fun t4_1 =>
  Pu (faV 4 t4_1) fun t5_2 =>
  Ld w t5_2 fun t6_3 w_4 =>
  Pu (binV (TypeDesc.int IntKind.i64) .add t6_3 (Value.int IntKind.i64 1)) fun t7_5 =>
  Pu (nilV d0) fun t8_6 =>
  Pu (faV 4 t8_6) fun t9_7 =>
  St 1 w_4 t9_7 t7_5 fun u_8 w_9 =>
  Jn (fun vs_32 w_31 => ∀ g_33 : Fr, vs_32 = [] ∧
      (Pu (nilV d0) fun t31_34 =>
      Pu (faV 3 t31_34) fun t32_35 =>
      Ld w_31 t32_35 fun t33_36 w_37 =>
      k t33_36 w_37))
    (fun jj_10 =>
    Pu (nilV d0) fun t11_38 =>
    Pu (faV 2 t11_38) fun t12_39 =>
    Ld w_9 t12_39 fun t13_40 w_41 =>
    Pu (binV (TypeDesc.int IntKind.i64) .gtr t13_40 (Value.int IntKind.i64 0)) fun t14_42 =>
    IfB t14_42
      (Pu (nilV d0) fun t16_43 =>
        Pu (faV 2 t16_43) fun t17_44 =>
        Ld w_41 t17_44 fun t18_45 w_46 =>
        Pu (binV (TypeDesc.int IntKind.i64) .sub t18_45 (Value.int IntKind.i64 1)) fun t19_47 =>
        Pu (nilV d0) fun t20_48 =>
        Pu (faV 2 t20_48) fun t21_49 =>
        St 1 w_46 t21_49 t19_47 fun u_50 w_51 =>
        Pu (nilV d0) fun t24_52 =>
        Pu (faV 2 t24_52) fun t25_53 =>
        Ld w_51 t25_53 fun t26_54 w_55 =>
        Pu (binV (TypeDesc.int IntKind.i64) .eql t26_54 (Value.int IntKind.i64 0)) fun t27_56 =>
        Pu (nilV d0) fun t28_57 =>
        Pu (faV 3 t28_57) fun t29_58 =>
        St 1 w_55 t29_58 t27_56 fun u_59 w_60 =>
        jj_10 [] w_60)
      (jj_10 [] w_41))
theorem e71 (k : KV) (d0 : Value) (w : World) : K KD Try.prog 34 (fun j =>  []) (fun j => bif Nat.beq j 5 then some [] else none) (Try.f71.body.getD .skip) (retQ Try.prog Try.f71 k) (argF [d0]) w = T71 k d0 w := by kernel_rfl
theorem c71 {k : KV} {d0 : Value} {w : World} (h : T71 k d0 w) : Cl Try.prog 71 [d0] w k :=
  Cl_of_K KD_sound mixed Try.func71 (by kernel_rfl) (by kernel_rfl) ((e71 k d0 w).symm ▸ h)

/-- Function 102: (*almonry/almonryref02.Disk).within. -/
def T102 (k : KV) (d0 : Value) (atv1 : Value) (n2 : Value) (w : World) : Prop :=
  Pu (binV (TypeDesc.int IntKind.i64) .geq atv1 (Value.int IntKind.i64 0)) fun t8_1 =>
  Gd (isB true t8_1) (fun kk => kk n2 w) w fun t10_2 w_3 =>
  Gd (isB true t8_1) (fun kk => Pu (binV (TypeDesc.int IntKind.i64) .geq t10_2 (Value.int IntKind.i64 0)) fun vv => kk vv w_3) w_3 fun t11_4 w_5 =>
  Pu (pickV t8_1 t11_4 (Value.bool false)) fun t12_6 =>
  Gd (isB true t12_6) (fun kk => kk atv1 w_5) w_5 fun t14_7 w_8 =>
  Gd (isB true t12_6) (fun kk => kk d0 w_8) w_8 fun t15_9 w_10 =>
  Gd (isB true t12_6) (fun kk => Pu (nilV t15_9) fun vv => kk vv w_10) w_10 fun t16_11 w_12 =>
  Gd (isB true t12_6) (fun kk => Pu (faV 0 t16_11) fun vv => kk vv w_12) w_12 fun t17_13 w_14 =>
  Gd (isB true t12_6) (fun kk => Ld w_14 t17_13 kk) w_14 fun t18_15 w_16 =>
  Gd (isB true t12_6) (fun kk => Pu (lenV t18_15) fun vv => kk vv w_16) w_16 fun t19_17 w_18 =>
  Gd (isB true t12_6) (fun kk => Pu (binV (TypeDesc.int IntKind.i64) .leq t14_7 t19_17) fun vv => kk vv w_18) w_18 fun t20_19 w_20 =>
  Pu (pickV t12_6 t20_19 (Value.bool false)) fun t21_21 =>
  Gd (isB true t21_21) (fun kk => kk n2 w_20) w_20 fun t23_22 w_23 =>
  Gd (isB true t21_21) (fun kk => kk d0 w_23) w_23 fun t24_24 w_25 =>
  Gd (isB true t21_21) (fun kk => Pu (nilV t24_24) fun vv => kk vv w_25) w_25 fun t25_26 w_27 =>
  Gd (isB true t21_21) (fun kk => Pu (faV 0 t25_26) fun vv => kk vv w_27) w_27 fun t26_28 w_29 =>
  Gd (isB true t21_21) (fun kk => Ld w_29 t26_28 kk) w_29 fun t27_30 w_31 =>
  Gd (isB true t21_21) (fun kk => Pu (lenV t27_30) fun vv => kk vv w_31) w_31 fun t28_32 w_33 =>
  Gd (isB true t21_21) (fun kk => kk atv1 w_33) w_33 fun t29_34 w_35 =>
  Gd (isB true t21_21) (fun kk => Pu (binV (TypeDesc.int IntKind.i64) .sub t28_32 t29_34) fun vv => kk vv w_35) w_35 fun t30_36 w_37 =>
  Gd (isB true t21_21) (fun kk => Pu (binV (TypeDesc.int IntKind.i64) .leq t23_22 t30_36) fun vv => kk vv w_37) w_37 fun t31_38 w_39 =>
  Pu (pickV t21_21 t31_38 (Value.bool false)) fun t32_40 =>
  k t32_40 w_39
theorem e102 (k : KV) (d0 : Value) (atv1 : Value) (n2 : Value) (w : World) : K KD Try.prog 33 (fun j =>  []) (fun j =>  none) (Try.f102.body.getD .skip) (retQ Try.prog Try.f102 k) (argF [d0, atv1, n2]) w = T102 k d0 atv1 n2 w := by kernel_rfl
theorem c102 {k : KV} {d0 : Value} {atv1 : Value} {n2 : Value} {w : World} (h : T102 k d0 atv1 n2 w) : Cl Try.prog 102 [d0, atv1, n2] w k :=
  Cl_of_K KD_sound mixed Try.func102 (by kernel_rfl) (by kernel_rfl) ((e102 k d0 atv1 n2 w).symm ▸ h)

/-- Function 103: (*almonry/almonryref02.Disk).act. -/
def T103 (k : KV) (d0 : Value) (w : World) : Prop :=
  Pu (nilV d0) fun t4_1 =>
  Pu (faV 5 t4_1) fun t5_2 =>
  Ld w t5_2 fun t6_3 w_4 =>
  Pu (binV (TypeDesc.int IntKind.i64) .add t6_3 (Value.int IntKind.i64 1)) fun t7_5 =>
  Pu (nilV d0) fun t8_6 =>
  Pu (faV 5 t8_6) fun t9_7 =>
  St 1 w_4 t9_7 t7_5 fun u_8 w_9 =>
  Jn (fun vs_32 w_31 => ∀ g_33 : Fr, vs_32 = [] ∧
      (Pu (nilV d0) fun t31_34 =>
      Pu (faV 4 t31_34) fun t32_35 =>
      Ld w_31 t32_35 fun t33_36 w_37 =>
      k t33_36 w_37))
    (fun jj_10 =>
    Pu (nilV d0) fun t11_38 =>
    Pu (faV 3 t11_38) fun t12_39 =>
    Ld w_9 t12_39 fun t13_40 w_41 =>
    Pu (binV (TypeDesc.int IntKind.i64) .gtr t13_40 (Value.int IntKind.i64 0)) fun t14_42 =>
    IfB t14_42
      (Pu (nilV d0) fun t16_43 =>
        Pu (faV 3 t16_43) fun t17_44 =>
        Ld w_41 t17_44 fun t18_45 w_46 =>
        Pu (binV (TypeDesc.int IntKind.i64) .sub t18_45 (Value.int IntKind.i64 1)) fun t19_47 =>
        Pu (nilV d0) fun t20_48 =>
        Pu (faV 3 t20_48) fun t21_49 =>
        St 1 w_46 t21_49 t19_47 fun u_50 w_51 =>
        Pu (nilV d0) fun t24_52 =>
        Pu (faV 3 t24_52) fun t25_53 =>
        Ld w_51 t25_53 fun t26_54 w_55 =>
        Pu (binV (TypeDesc.int IntKind.i64) .eql t26_54 (Value.int IntKind.i64 0)) fun t27_56 =>
        Pu (nilV d0) fun t28_57 =>
        Pu (faV 4 t28_57) fun t29_58 =>
        St 1 w_55 t29_58 t27_56 fun u_59 w_60 =>
        jj_10 [] w_60)
      (jj_10 [] w_41))
theorem e103 (k : KV) (d0 : Value) (w : World) : K KD Try.prog 34 (fun j =>  []) (fun j => bif Nat.beq j 5 then some [] else none) (Try.f103.body.getD .skip) (retQ Try.prog Try.f103 k) (argF [d0]) w = T103 k d0 w := by kernel_rfl
theorem c103 {k : KV} {d0 : Value} {w : World} (h : T103 k d0 w) : Cl Try.prog 103 [d0] w k :=
  Cl_of_K KD_sound mixed Try.func103 (by kernel_rfl) (by kernel_rfl) ((e103 k d0 w).symm ▸ h)

/-- Function 72: slices.Sorted[int]. -/
def T72 (k : KV) (seq0 : Value) (w : World) : Prop :=
  Cl Try.prog 104 [seq0] w fun t5_1 w_2 =>
  Cl Try.prog 105 [t5_1] w_2 fun t7_3 w_4 =>
  k t5_1 w_4
theorem e72 (k : KV) (seq0 : Value) (w : World) : K KD Try.prog 9 (fun j =>  []) (fun j =>  none) (Try.f72.body.getD .skip) (retQ Try.prog Try.f72 k) (argF [seq0]) w = T72 k seq0 w := by kernel_rfl
theorem c72 {k : KV} {seq0 : Value} {w : World} (h : T72 k seq0 w) : Cl Try.prog 72 [seq0] w k :=
  Cl_of_K KD_sound mixed Try.func72 (by kernel_rfl) (by kernel_rfl) ((e72 k seq0 w).symm ▸ h)

end Go.Proofs.Ythgdinjgdjiknaa
