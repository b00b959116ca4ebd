import Derived.Test.YthgdinjgdjiknaaAlDraw2
import Derived.Test.YthgdinjgdjiknaaRows
namespace Go.Proofs.Ythgdinjgdjiknaa
open Go.Al Go.Proofs
set_option maxRecDepth 100000
set_option linter.unusedVariables false
set_option linter.unusedSimpArgs false
theorem mixed : Try.prog.follows .mixedOrders = true := by kernel_rfl
/-- Function 8: almonry/almonrylaw21.RestartWins. -/
def T8 (k : KV) (c0 : Value) (l1 : Value) (who2 : Value) (w : World) : Prop :=
  New (Value.cells c0) 65 w fun c3_1 w_2 =>
  LdN 7 w_2 c3_1 fun t14_3 w_4 =>
  Cl Try.prog 32 [(Value.int IntKind.i64 16), t14_3, l1] w_4 fun t16_5 w_6 =>
  New #[(Value.int IntKind.i64 0), (Value.int IntKind.i64 0), (Value.int IntKind.i64 0), (Value.int IntKind.i64 0), (Value.slice none 0 0), (Value.int IntKind.i64 0)] 69 w_6 fun f7_7 w_8 =>
  St 6 w_8 f7_7 t16_5 fun u_9 w_10 =>
  ∃ (I_11 : List Value → World → Prop) (m_12 : List Value → World → Nat), I_11 [(Value.bool false), (Value.int IntKind.i64 0)] w_10 ∧
  ∀ (g_45 : Fr) (w_44 : World), ∀ openv8_14 : Value, ∀ i9_15 : Value, I_11 [openv8_14, i9_15] w_44 →
    (Pu (lenV l1) fun t19_46 =>
    Pu (binV (TypeDesc.int IntKind.i64) .lss i9_15 t19_46) fun t20_47 =>
    IfB t20_47
      (Jn (fun vs_73 w_72 => ∀ g_74 : Fr, ∃ openv8_49 : Value, vs_73 = [openv8_49] ∧
        (Pu (binV (TypeDesc.int IntKind.i64) .add i9_15 (Value.int IntKind.i64 1)) fun t22_75 =>
        I_11 [openv8_49, t22_75] w_72 ∧ m_12 [openv8_49, t22_75] w_72 < m_12 [openv8_14, i9_15] w_44))
      (fun jj_48 =>
      Pu (ixV 16 l1 i9_15) fun t25_76 =>
      LdN 16 w_44 t25_76 fun t26_77 w_78 =>
      New #[(Value.int IntKind.i64 0), (Value.int IntKind.i64 0), (Value.int IntKind.i64 0), (Value.int IntKind.u8 0), (Value.int IntKind.i64 0), (Value.int IntKind.i64 0), (Value.int IntKind.i64 0), (Value.int IntKind.i64 0), (Value.int IntKind.i64 0), (Value.int IntKind.i64 0), (Value.string (ByteArray.mk #[])), (Value.slice none 0 0), (Value.slice none 0 0), (Value.slice none 0 0), (Value.slice none 0 0), (Value.slice none 0 0)] 75 w_78 fun r10_79 w_80 =>
      St 16 w_80 r10_79 t26_77 fun u_81 w_82 =>
      Pu (faV 4 r10_79) fun t27_83 =>
      Ld w_82 t27_83 fun t28_84 w_85 =>
      Pu (binV (TypeDesc.int IntKind.i64) .neq t28_84 who2) fun t30_86 =>
      Gd (isB false t30_86) (fun kk => kk who2 w_85) w_85 fun t32_87 w_88 =>
      Gd (isB false t30_86) (fun kk => Pu (binV (TypeDesc.int IntKind.i64) .lss t32_87 (Value.int IntKind.i64 1)) fun vv => kk vv w_88) w_88 fun t33_89 w_90 =>
      Pu (pickV t30_86 (Value.bool true) t33_89) fun t34_91 =>
      IfB t34_91
        (jj_48 [openv8_14] w_90)
        (Pu (faV 3 r10_79) fun t35_92 =>
      Ld w_90 t35_92 fun t36_93 w_94 =>
      Jn (fun vs_100 w_99 => ∀ g_101 : Fr, ∃ t37_96 : Value, vs_100 = [t37_96] ∧
          (IfB t37_96
            (jj_48 [(Value.bool false)] w_99)
            (Jn (fun vs_108 w_107 => ∀ g_109 : Fr, ∃ t40_103 : Value, vs_108 = [t40_103] ∧
                  (IfB t40_103
                    (jj_48 [(Value.bool true)] w_107)
                    (jj_48 [openv8_14] w_107)))
                (fun jj_102 =>
                Pu (binV (TypeDesc.int IntKind.u8) .eql t36_93 (Value.int IntKind.u8 1)) fun t41_110 =>
                IfB t41_110
                  (jj_102 [t41_110] w_99)
                  (Pu (binV (TypeDesc.int IntKind.u8) .eql t36_93 (Value.int IntKind.u8 2)) fun t42_111 =>
                    IfB t42_111
                      (jj_102 [t42_111] w_99)
                      (Pu (binV (TypeDesc.int IntKind.u8) .eql t36_93 (Value.int IntKind.u8 6)) fun t43_112 =>
                        jj_102 [t43_112] w_99))))))
        (fun jj_95 =>
        Pu (binV (TypeDesc.int IntKind.u8) .eql t36_93 (Value.int IntKind.u8 7)) fun t38_113 =>
        IfB t38_113
          (jj_95 [t38_113] w_94)
          (Pu (binV (TypeDesc.int IntKind.u8) .eql t36_93 (Value.int IntKind.u8 8)) fun t39_114 =>
            jj_95 [t39_114] w_94)))))
      (∃ (I_115 : List Value → World → Prop) (m_116 : List Value → World → Nat), I_115 [(Value.int IntKind.i64 0), (Value.int IntKind.i64 0)] w_44 ∧
  ∀ (g_157 : Fr) (w_156 : World), ∀ is11_119 : Value, ∀ i12_120 : Value, I_115 [is11_119, i12_120] w_156 →
    (Pu (faV 4 f7_7) fun t45_158 =>
    Ld w_156 t45_158 fun t46_159 w_160 =>
    Pu (lenV t46_159) fun t47_161 =>
    Pu (binV (TypeDesc.int IntKind.i64) .lss i12_120 t47_161) fun t48_162 =>
    IfB t48_162
      (Jn (fun vs_176 w_175 => ∀ g_177 : Fr, ∃ is11_164 : Value, vs_176 = [is11_164] ∧
        (Pu (binV (TypeDesc.int IntKind.i64) .gtr i12_120 (Value.int IntKind.i64 0)) fun t62_178 =>
        Gd (isB true t62_178) (fun kk => Pu (faV 4 f7_7) fun vv => kk vv (World.drew w_175)) (World.drew w_175) fun t64_179 w_180 =>
        Gd (isB true t62_178) (fun kk => Ld w_180 t64_179 kk) w_180 fun t65_181 w_182 =>
        w_182 = w_180 ∧
        Gd (isB true t62_178) (fun kk => kk i12_120 w_180) w_180 fun t66_183 w_184 =>
        Gd (isB true t62_178) (fun kk => Pu (ixV 2 t65_181 t66_183) fun vv => kk vv w_184) w_184 fun t67_185 w_186 =>
        Gd (isB true t62_178) (fun kk => Pu (faV 0 t67_185) fun vv => kk vv w_186) w_186 fun t68_187 w_188 =>
        Gd (isB true t62_178) (fun kk => Ld w_188 t68_187 kk) w_188 fun t69_189 w_190 =>
        w_190 = w_188 ∧
        Gd (isB true t62_178) (fun kk => Pu (faV 4 f7_7) fun vv => kk vv w_188) w_188 fun t70_191 w_192 =>
        Gd (isB true t62_178) (fun kk => Ld w_192 t70_191 kk) w_192 fun t71_193 w_194 =>
        w_194 = w_192 ∧
        Gd (isB true t62_178) (fun kk => kk i12_120 w_192) w_192 fun t72_195 w_196 =>
        Gd (isB true t62_178) (fun kk => Pu (binV (TypeDesc.int IntKind.i64) .sub t72_195 (Value.int IntKind.i64 1)) fun vv => kk vv w_196) w_196 fun t73_197 w_198 =>
        Gd (isB true t62_178) (fun kk => Pu (ixV 2 t71_193 t73_197) fun vv => kk vv w_198) w_198 fun t74_199 w_200 =>
        Gd (isB true t62_178) (fun kk => Pu (faV 0 t74_199) fun vv => kk vv w_200) w_200 fun t75_201 w_202 =>
        Gd (isB true t62_178) (fun kk => Ld w_202 t75_201 kk) w_202 fun t76_203 w_204 =>
        w_204 = w_202 ∧
        Gd (isB true t62_178) (fun kk => Pu (binV (TypeDesc.int IntKind.i64) .leq t69_189 t76_203) fun vv => kk vv w_202) w_202 fun t77_205 w_206 =>
        Pu (pickV t62_178 t77_205 (Value.bool false)) fun t78_207 =>
        IfB t78_207
          (k (Value.bool false) w_206)
          (Pu (binV (TypeDesc.int IntKind.i64) .add i12_120 (Value.int IntKind.i64 1)) fun t50_208 =>
    I_115 [is11_164, t50_208] w_206 ∧ m_116 [is11_164, t50_208] w_206 < m_116 [is11_119, i12_120] w_156)))
      (fun jj_163 =>
      Pu (faV 4 f7_7) fun t51_209 =>
      Ld w_160 t51_209 fun t52_210 w_211 =>
      Pu (ixV 2 t52_210 i12_120) fun t54_212 =>
      Pu (faV 0 t54_212) fun t55_213 =>
      Ld w_211 t55_213 fun t56_214 w_215 =>
      Pu (binV (TypeDesc.int IntKind.i64) .eql t56_214 who2) fun t58_216 =>
      IfB t58_216
        (Pu (binV (TypeDesc.int IntKind.i64) .add is11_119 (Value.int IntKind.i64 1)) fun t60_217 =>
          jj_163 [t60_217] w_215)
        (jj_163 [is11_119] w_215)))
      (Jn (fun vs_222 w_221 => ∀ g_223 : Fr, ∃ want13_219 : Value, vs_222 = [want13_219] ∧
      (Pu (binV (TypeDesc.int IntKind.i64) .eql is11_119 want13_219) fun t82_224 =>
      Gd (isB true t82_224) (fun kk => Cl Try.prog 33 [] w_221 kk) w_221 fun t84_225 w_226 =>
      Pu (pickV t82_224 t84_225 (Value.bool false)) fun t85_227 =>
      k t85_227 w_226))
    (fun jj_218 =>
    IfB openv8_14
      (jj_218 [(Value.int IntKind.i64 1)] w_160)
      (jj_218 [(Value.int IntKind.i64 0)] w_160))))))
theorem e8 (k : KV) (c0 : Value) (l1 : Value) (who2 : Value) (w : World) : K KD Try.prog 86 (fun j => bif Nat.beq j 18 then [11, 12] else bif Nat.beq j 4 then [8, 9] else []) (fun j => bif Nat.beq j 5 then some [8] else bif Nat.beq j 11 then some [37] else bif Nat.beq j 15 then some [40] else bif Nat.beq j 22 then some [11] else bif Nat.beq j 27 then some [13] else none) (Try.f8.body.getD .skip) (retQ Try.prog Try.f8 k) (argF [c0, l1, who2]) w = T8 k c0 l1 who2 w := by kernel_rfl
theorem c8 {k : KV} {c0 : Value} {l1 : Value} {who2 : Value} {w : World} (h : T8 k c0 l1 who2 w) : Cl Try.prog 8 [c0, l1, who2] w k :=
  Cl_of_K KD_sound mixed Try.func8 (by kernel_rfl) (by kernel_rfl) ((e8 k c0 l1 who2 w).symm ▸ h)

/-- Function 9: almonry/almonrylaw21.RestartUndoes. -/
def T9 (k : KV) (acts0 : Value) (w : World) : Prop :=
  RunS Try.prog (Instr.makeSlice 57 (Value.int IntKind.i64 8) (Value.int IntKind.i64 8)) w fun t23_1 w_2 =>
  ∃ (I_3 : List Value → World → Prop) (m_4 : List Value → World → Nat), I_3 [(Value.slice none 0 0), (Value.int IntKind.i64 0)] w_2 ∧
  ∀ (g_70 : Fr) (w_69 : World), ∀ own3_6 : Value, ∀ i5_7 : Value, I_3 [own3_6, i5_7] w_69 →
    (Pu (lenV acts0) fun t26_71 =>
    Pu (binV (TypeDesc.int IntKind.i64) .lss i5_7 t26_71) fun t27_72 =>
    Gd (isB true t27_72) (fun kk => kk i5_7 w_69) w_69 fun t29_73 w_74 =>
    Gd (isB true t27_72) (fun kk => Pu (binV (TypeDesc.int IntKind.i64) .lss t29_73 (Value.int IntKind.i64 200)) fun vv => kk vv w_74) w_74 fun t30_75 w_76 =>
    Pu (pickV t27_72 t30_75 (Value.bool false)) fun t31_77 =>
    IfB t31_77
      (Jn (fun vs_132 w_131 => ∀ g_133 : Fr, ∃ own3_79 : Value, vs_132 = [own3_79] ∧
        (Pu (binV (TypeDesc.int IntKind.i64) .add i5_7 (Value.int IntKind.i64 1)) fun t33_134 =>
        I_3 [own3_79, t33_134] w_131 ∧ m_4 [own3_79, t33_134] w_131 < m_4 [own3_6, i5_7] w_69))
      (fun jj_78 =>
      Pu (ixV 2 acts0 i5_7) fun t36_135 =>
      Pu (faV 1 t36_135) fun t37_136 =>
      Ld w_76 t37_136 fun t38_137 w_138 =>
      Pu (binV (TypeDesc.int IntKind.i64) .rem t38_137 (Value.int IntKind.i64 8)) fun t39_139 =>
      Pu (binV (TypeDesc.int IntKind.i64) .add t39_139 (Value.int IntKind.i64 8)) fun t40_140 =>
      Pu (binV (TypeDesc.int IntKind.i64) .rem t40_140 (Value.int IntKind.i64 8)) fun t41_141 =>
      Pu (ixV 1 t23_1 t41_141) fun t44_142 =>
      Ld w_138 t44_142 fun t45_143 w_144 =>
      Gd (isB true t45_143) (fun kk => kk acts0 w_144) w_144 fun t47_145 w_146 =>
      Gd (isB true t45_143) (fun kk => kk i5_7 w_146) w_146 fun t48_147 w_148 =>
      Gd (isB true t45_143) (fun kk => Pu (ixV 2 t47_145 t48_147) fun vv => kk vv w_148) w_148 fun t49_149 w_150 =>
      Gd (isB true t45_143) (fun kk => Pu (faV 0 t49_149) fun vv => kk vv w_150) w_150 fun t50_151 w_152 =>
      Gd (isB true t45_143) (fun kk => Ld w_152 t50_151 kk) w_152 fun t51_153 w_154 =>
      Gd (isB true t45_143) (fun kk => Pu (binV (TypeDesc.int IntKind.i64) .lss t51_153 (Value.int IntKind.i64 2)) fun vv => kk vv w_154) w_154 fun t52_155 w_156 =>
      Gd (isB true t45_143) (fun kk => kk t52_155 w_156) w_156 fun t53_157 w_158 =>
      Gd (isB false t53_157) (fun kk => kk acts0 w_158) w_158 fun t54_159 w_160 =>
      Gd (isB false t53_157) (fun kk => kk i5_7 w_160) w_160 fun t55_161 w_162 =>
      Gd (isB false t53_157) (fun kk => Pu (ixV 2 t54_159 t55_161) fun vv => kk vv w_162) w_162 fun t56_163 w_164 =>
      Gd (isB false t53_157) (fun kk => Pu (faV 0 t56_163) fun vv => kk vv w_164) w_164 fun t57_165 w_166 =>
      Gd (isB false t53_157) (fun kk => Ld w_166 t57_165 kk) w_166 fun t58_167 w_168 =>
      Gd (isB false t53_157) (fun kk => Pu (binV (TypeDesc.int IntKind.i64) .eql t58_167 (Value.int IntKind.i64 2)) fun vv => kk vv w_168) w_168 fun t59_169 w_170 =>
      Gd (isB true t45_143) (fun kk => Pu (pickV t53_157 (Value.bool true) t59_169) fun vv => kk vv w_170) w_170 fun t60_171 w_172 =>
      Pu (pickV t45_143 t60_171 (Value.bool false)) fun t61_173 =>
      IfB t61_173
        (jj_78 [own3_6] w_172)
        (Pu (ixV 1 t23_1 t41_141) fun t66_174 =>
      Ld w_172 t66_174 fun t67_175 w_176 =>
      Gd (isB false t67_175) (fun kk => kk acts0 w_176) w_176 fun t69_177 w_178 =>
      Gd (isB false t67_175) (fun kk => kk i5_7 w_178) w_178 fun t70_179 w_180 =>
      Gd (isB false t67_175) (fun kk => Pu (ixV 2 t69_177 t70_179) fun vv => kk vv w_180) w_180 fun t71_181 w_182 =>
      Gd (isB false t67_175) (fun kk => Pu (faV 0 t71_181) fun vv => kk vv w_182) w_182 fun t72_183 w_184 =>
      Gd (isB false t67_175) (fun kk => Ld w_184 t72_183 kk) w_184 fun t73_185 w_186 =>
      Gd (isB false t67_175) (fun kk => Pu (binV (TypeDesc.int IntKind.i64) .eql t73_185 (Value.int IntKind.i64 3)) fun vv => kk vv w_186) w_186 fun t74_187 w_188 =>
      Pu (pickV t67_175 (Value.bool true) t74_187) fun t75_189 =>
      Pu (ixV 1 t23_1 t41_141) fun t76_190 =>
      St 1 w_188 t76_190 t75_189 fun u_191 w_192 =>
      Pu (ixV 2 acts0 i5_7) fun t80_193 =>
      LdN 2 w_192 t80_193 fun t81_194 w_195 =>
      RunS Try.prog (Instr.buildSlice 79 1 #[(0, t81_194)]) w_195 fun t82_196 w_197 =>
      RunS Try.prog (Builtin.append_ #[79, 79] 79 #[own3_6, t82_196]) w_197 fun t83_198 w_199 =>
      jj_78 [t83_198] w_199)))
      (Cl Try.prog 34 [(Value.int IntKind.i64 16), own3_6] w_76 fun t86_200 w_201 =>
  Pu (extV t86_200 0) fun t87_202 =>
  Pu (extV t86_200 1) fun t88_203 =>
  RunS Try.prog (Instr.build 65 #[(2, (Value.int IntKind.i64 1))]) w_201 fun t89_204 w_205 =>
  Cl Try.prog 32 [(Value.int IntKind.i64 16), t89_204, t87_202] w_205 fun t91_206 w_207 =>
  New #[(Value.int IntKind.i64 0), (Value.int IntKind.i64 0), (Value.int IntKind.i64 0), (Value.int IntKind.i64 0), (Value.slice none 0 0), (Value.int IntKind.i64 0)] 69 w_207 fun f9_208 w_209 =>
  St 6 w_209 f9_208 t91_206 fun u_210 w_211 =>
  ∃ (I_212 : List Value → World → Prop) (m_213 : List Value → World → Nat), I_212 [(Value.int IntKind.i64 0), (Value.int IntKind.i64 0)] w_211 ∧
  ∀ (g_231 : Fr) (w_230 : World), ∀ want10_215 : Value, ∀ i11_216 : Value, I_212 [want10_215, i11_216] w_230 →
    (Pu (lenV t88_203) fun t94_232 =>
    Pu (binV (TypeDesc.int IntKind.i64) .lss i11_216 t94_232) fun t95_233 =>
    IfB t95_233
      (Pu (ixV 1 t88_203 i11_216) fun t101_234 =>
    Ld w_230 t101_234 fun t102_235 w_236 =>
    Pu (lenV t102_235) fun t103_237 =>
    Pu (binV (TypeDesc.int IntKind.i64) .add want10_215 t103_237) fun t104_238 =>
    Pu (binV (TypeDesc.int IntKind.i64) .add i11_216 (Value.int IntKind.i64 1)) fun t97_239 =>
    I_212 [t104_238, t97_239] w_236 ∧ m_213 [t104_238, t97_239] w_236 < m_213 [want10_215, i11_216] w_230)
      (Pu (faV 5 f9_208) fun t105_240 =>
  Ld w_230 t105_240 fun t106_241 w_242 =>
  Pu (binV (TypeDesc.int IntKind.i64) .neq t106_241 want10_215) fun t108_243 =>
  IfB t108_243
    (k (Value.bool false) w_242)
    (Pu (faV 4 f9_208) fun t109_244 =>
  Ld w_242 t109_244 fun t110_245 w_246 =>
  ∃ (I_247 : List Value → World → Prop) (m_248 : List Value → World → Nat), I_247 [t110_245, (Value.int IntKind.i64 4611686018427387904), (Value.int IntKind.i64 0)] w_246 ∧
  ∀ (g_331 : Fr) (w_330 : World), ∀ losers12_251 : Value, ∀ before13_252 : Value, ∀ kv14_253 : Value, I_247 [losers12_251, before13_252, kv14_253] w_330 →
    (Pu (binV (TypeDesc.int IntKind.i64) .lss kv14_253 want10_215) fun t113_332 =>
    IfB t113_332
      (Cl Try.prog 35 [losers12_251] w_330 fun t118_333 w_334 =>
    Pu (extV t118_333 0) fun t119_335 =>
    Pu (extV t118_333 1) fun t120_336 =>
    Pu (unV .not t120_336) fun t122_337 =>
    Gd (isB false t122_337) (fun kk => kk t119_335 w_334) w_334 fun t124_338 w_339 =>
    Gd (isB false t122_337) (fun kk => kk before13_252 w_339) w_339 fun t125_340 w_341 =>
    Gd (isB false t122_337) (fun kk => Pu (binV (TypeDesc.int IntKind.i64) .geq t124_338 t125_340) fun vv => kk vv w_341) w_341 fun t126_342 w_343 =>
    Pu (pickV t122_337 (Value.bool true) t126_342) fun t127_344 =>
    IfB t127_344
      (k (Value.bool false) w_343)
      (∃ (I_345 : List Value → World → Prop) (m_346 : List Value → World → Nat), I_345 [(Value.int IntKind.i64 (-1)), (Value.int IntKind.i64 0), (Value.int IntKind.i64 0)] w_343 ∧
    ∀ (g_399 : Fr) (w_398 : World), ∀ hit17_348 : Value, ∀ next18_349 : Value, ∀ i19_350 : Value, I_345 [hit17_348, next18_349, i19_350] w_398 →
      (Pu (lenV t88_203) fun t131_400 =>
      Pu (binV (TypeDesc.int IntKind.i64) .lss i19_350 t131_400) fun t132_401 =>
      IfB t132_401
        (Jn (fun vs_447 w_446 => ∀ g_448 : Fr, ∃ hit17_403 : Value, ∃ next18_404 : Value, vs_447 = [hit17_403, next18_404] ∧
          (Pu (binV (TypeDesc.int IntKind.i64) .add i19_350 (Value.int IntKind.i64 1)) fun t134_449 =>
          I_345 [hit17_403, next18_404, t134_449] w_446 ∧ m_346 [hit17_403, next18_404, t134_449] w_446 < m_346 [hit17_348, next18_349, i19_350] w_398))
        (fun jj_402 =>
        Pu (ixV 1 t88_203 i19_350) fun t137_450 =>
        Ld w_398 t137_450 fun t138_451 w_452 =>
        Pu (lenV t138_451) fun t139_453 =>
        Pu (binV (TypeDesc.int IntKind.i64) .gtr t139_453 (Value.int IntKind.i64 0)) fun t141_454 =>
        Gd (isB true t141_454) (fun kk => kk t88_203 w_452) w_452 fun t143_455 w_456 =>
        Gd (isB true t141_454) (fun kk => kk i19_350 w_456) w_456 fun t144_457 w_458 =>
        Gd (isB true t141_454) (fun kk => Pu (ixV 1 t143_455 t144_457) fun vv => kk vv w_458) w_458 fun t145_459 w_460 =>
        Gd (isB true t141_454) (fun kk => Ld w_460 t145_459 kk) w_460 fun t146_461 w_462 =>
        Gd (isB true t141_454) (fun kk => kk t139_453 w_462) w_462 fun t147_463 w_464 =>
        Gd (isB true t141_454) (fun kk => Pu (binV (TypeDesc.int IntKind.i64) .sub t147_463 (Value.int IntKind.i64 1)) fun vv => kk vv w_464) w_464 fun t148_465 w_466 =>
        Gd (isB true t141_454) (fun kk => Pu (ixV 1 t146_461 t148_465) fun vv => kk vv w_466) w_466 fun t149_467 w_468 =>
        Gd (isB true t141_454) (fun kk => Ld w_468 t149_467 kk) w_468 fun t150_469 w_470 =>
        Gd (isB true t141_454) (fun kk => kk t119_335 w_470) w_470 fun t151_471 w_472 =>
        Gd (isB true t141_454) (fun kk => Pu (binV (TypeDesc.int IntKind.i64) .eql t150_469 t151_471) fun vv => kk vv w_472) w_472 fun t152_473 w_474 =>
        Pu (pickV t141_454 t152_473 (Value.bool false)) fun t153_475 =>
        IfB t153_475
          (Pu (ixV 1 t88_203 i19_350) fun t159_476 =>
            Ld w_474 t159_476 fun t160_477 w_478 =>
            Pu (binV (TypeDesc.int IntKind.i64) .sub t139_453 (Value.int IntKind.i64 1)) fun t162_479 =>
            Pu (slV 1 t160_477 none (some t162_479) none) fun t163_480 =>
            Pu (ixV 1 t88_203 i19_350) fun t164_481 =>
            St 1 w_478 t164_481 t163_480 fun u_482 w_483 =>
            Pu (binV (TypeDesc.int IntKind.i64) .gtr t139_453 (Value.int IntKind.i64 1)) fun t166_484 =>
            IfB t166_484
              (Pu (ixV 1 t88_203 i19_350) fun t169_485 =>
                Ld w_483 t169_485 fun t170_486 w_487 =>
                Pu (binV (TypeDesc.int IntKind.i64) .sub t139_453 (Value.int IntKind.i64 2)) fun t172_488 =>
                Pu (ixV 1 t170_486 t172_488) fun t173_489 =>
                Ld w_487 t173_489 fun t174_490 w_491 =>
                jj_402 [i19_350, t174_490] w_491)
              (jj_402 [i19_350, next18_349] w_483))
          (jj_402 [hit17_348, next18_349] w_474)))
        (Pu (binV (TypeDesc.int IntKind.i64) .lss hit17_348 (Value.int IntKind.i64 0)) fun t176_492 =>
    IfB t176_492
      (k (Value.bool false) w_398)
      (Cl Try.prog 36 [losers12_251, t119_335, next18_349] w_398 fun t180_493 w_494 =>
    Pu (binV (TypeDesc.int IntKind.i64) .add kv14_253 (Value.int IntKind.i64 1)) fun t115_495 =>
    I_247 [t180_493, t119_335, t115_495] w_494 ∧ m_248 [t180_493, t119_335, t115_495] w_494 < m_248 [losers12_251, before13_252, kv14_253] w_330)))))
      (Cl Try.prog 35 [losers12_251] w_330 fun t183_496 w_497 =>
  Pu (extV t183_496 0) fun t184_498 =>
  Pu (extV t183_496 1) fun t185_499 =>
  Pu (unV .not t185_499) fun t187_500 =>
  Gd (isB true t187_500) (fun kk => Cl Try.prog 33 [] w_497 kk) w_497 fun t189_501 w_502 =>
  Pu (pickV t187_500 t189_501 (Value.bool false)) fun t190_503 =>
  k t190_503 w_502)))))))
theorem e9 (k : KV) (acts0 : Value) (w : World) : K KD Try.prog 191 (fun j => bif Nat.beq j 31 then [17, 18, 19] else bif Nat.beq j 22 then [12, 13, 14] else bif Nat.beq j 14 then [10, 11] else bif Nat.beq j 4 then [3, 5] else []) (fun j => bif Nat.beq j 5 then some [3] else bif Nat.beq j 32 then some [17, 18] else none) (Try.f9.body.getD .skip) (retQ Try.prog Try.f9 k) (argF [acts0]) w = T9 k acts0 w := by kernel_rfl
theorem c9 {k : KV} {acts0 : Value} {w : World} (h : T9 k acts0 w) : Cl Try.prog 9 [acts0] w k :=
  Cl_of_K KD_sound mixed Try.func9 (by kernel_rfl) (by kernel_rfl) ((e9 k acts0 w).symm ▸ h)

/-- Function 32: almonry/restart.Find. -/
def T32 (k : KV) (modulus0 : Value) (c1 : Value) (records2 : Value) (w : World) : Prop :=
  New (Value.cells c1) 65 w fun c4_1 w_2 =>
  New #[(Value.int IntKind.i64 0), (Value.int IntKind.i64 0), (Value.int IntKind.i64 0), (Value.int IntKind.i64 0), (Value.slice none 0 0), (Value.int IntKind.i64 0)] 69 w_2 fun t6_3 w_4 =>
  Pu (faV 5 c4_1) fun t23_5 =>
  Ld w_4 t23_5 fun t24_6 w_7 =>
  RunS Try.prog (Instr.build 69 #[(0, t24_6), (1, (Value.int IntKind.i64 1)), (2, (Value.int IntKind.i64 2)), (3, (Value.int IntKind.i64 1))]) w_7 fun t25_8 w_9 =>
  New #[(Value.int IntKind.i64 0), (Value.int IntKind.i64 0), (Value.int IntKind.i64 0), (Value.int IntKind.i64 0), (Value.slice none 0 0), (Value.int IntKind.i64 0)] 69 w_9 fun f7_10 w_11 =>
  St 6 w_11 f7_10 t25_8 fun u_12 w_13 =>
  Jn (fun vs_40 w_39 => ∀ g_41 : Fr, ∃ rest8_15 : Value, vs_40 = [rest8_15] ∧
      (Pu (lenV rest8_15) fun t49_42 =>
      ∃ (I_43 : List Value → World → Prop) (m_44 : List Value → World → Nat), I_43 [(Value.int IntKind.i64 0)] w_39 ∧
      ∀ (g_103 : Fr) (w_102 : World), ∀ t50_48 : Value, I_43 [t50_48] w_102 →
        (Pu (binV (TypeDesc.int IntKind.i64) .lss t50_48 t49_42) fun t51_104 =>
        IfB t51_104
          (Jn (fun vs_160 w_159 => ∀ g_161 : Fr, vs_160 = [] ∧
            (Pu (binV (TypeDesc.int IntKind.i64) .add t50_48 (Value.int IntKind.i64 1)) fun t103_162 =>
            I_43 [t103_162] w_159 ∧ m_44 [t103_162] w_159 < m_44 [t50_48] w_102))
          (fun jj_105 =>
          Pu (ixV 16 rest8_15 t50_48) fun t52_163 =>
          LdN 16 w_102 t52_163 fun t53_164 w_165 =>
          New #[(Value.int IntKind.i64 0), (Value.int IntKind.i64 0), (Value.int IntKind.i64 0), (Value.int IntKind.u8 0), (Value.int IntKind.i64 0), (Value.int IntKind.i64 0), (Value.int IntKind.i64 0), (Value.int IntKind.i64 0), (Value.int IntKind.i64 0), (Value.int IntKind.i64 0), (Value.string (ByteArray.mk #[])), (Value.slice none 0 0), (Value.slice none 0 0), (Value.slice none 0 0), (Value.slice none 0 0), (Value.slice none 0 0)] 75 w_165 fun r12_166 w_167 =>
          St 16 w_167 r12_166 t53_164 fun u_168 w_169 =>
          Jn (fun vs_188 w_187 => ∀ g_189 : Fr, vs_188 = [] ∧
              (Pu (faV 13 r12_166) fun t70_190 =>
              Ld w_187 t70_190 fun t71_191 w_192 =>
              Pu (lenV t71_191) fun t72_193 =>
              ∃ (I_194 : List Value → World → Prop) (m_195 : List Value → World → Nat), I_194 [(Value.int IntKind.i64 0)] w_192 ∧
              ∀ (g_214 : Fr) (w_213 : World), ∀ t73_198 : Value, I_194 [t73_198] w_213 →
                (Pu (binV (TypeDesc.int IntKind.i64) .lss t73_198 t72_193) fun t74_215 =>
                IfB t74_215
                  (Jn (fun vs_231 w_230 => ∀ g_232 : Fr, vs_231 = [] ∧
                    (Pu (binV (TypeDesc.int IntKind.i64) .add t73_198 (Value.int IntKind.i64 1)) fun t87_233 =>
                    I_194 [t87_233] w_230 ∧ m_195 [t87_233] w_230 < m_195 [t73_198] w_213))
                  (fun jj_216 =>
                  Pu (ixV 7 t71_191 t73_198) fun t75_234 =>
                  LdN 7 w_213 t75_234 fun t76_235 w_236 =>
                  New #[(Value.int IntKind.i64 0), (Value.int IntKind.i64 0), (Value.int IntKind.i64 0), (Value.int IntKind.i64 0), (Value.int IntKind.i64 0), (Value.string (ByteArray.mk #[])), (Value.slice none 0 0)] 138 w_236 fun m14_237 w_238 =>
                  St 7 w_238 m14_237 t76_235 fun u_239 w_240 =>
                  Pu (faV 0 m14_237) fun t77_241 =>
                  Ld w_240 t77_241 fun t78_242 w_243 =>
                  Pu (binV (TypeDesc.int IntKind.i64) .leq t78_242 (Value.int IntKind.i64 65535)) fun t79_244 =>
                  IfB t79_244
                    (Pu (faV 2 f7_10) fun t80_245 =>
                      Ld w_243 t80_245 fun t81_246 w_247 =>
                      Pu (faV 0 m14_237) fun t82_248 =>
                      Ld w_247 t82_248 fun t83_249 w_250 =>
                      Pu (binV (TypeDesc.int IntKind.i64) .add t83_249 (Value.int IntKind.i64 1)) fun t84_251 =>
                      Pu (foldV0 max2V [t81_246, t84_251]) fun t85_252 =>
                      Pu (faV 2 f7_10) fun t86_253 =>
                      St 1 w_250 t86_253 t85_252 fun u_254 w_255 =>
                      jj_216 [] w_255)
                    (jj_216 [] w_243)))
                  (Pu (faV 3 r12_166) fun t88_256 =>
              Ld w_213 t88_256 fun t89_257 w_258 =>
              Pu (binV (TypeDesc.int IntKind.u8) .neq t89_257 (Value.int IntKind.u8 11)) fun t90_259 =>
              IfB t90_259
                (jj_105 [] w_258)
                (Pu (faV 8 r12_166) fun t91_260 =>
              Ld w_258 t91_260 fun t92_261 w_262 =>
              Pu (faV 3 f7_10) fun t93_263 =>
              St 1 w_262 t93_263 t92_261 fun u_264 w_265 =>
              Pu (faV 1 f7_10) fun t95_266 =>
              Ld w_265 t95_266 fun t96_267 w_268 =>
              Pu (faV 8 r12_166) fun t97_269 =>
              Ld w_268 t97_269 fun t98_270 w_271 =>
              Cl Try.prog 77 [modulus0, t96_267, t98_270] w_271 fun t99_272 w_273 =>
              IfB t99_272
                (Pu (faV 8 r12_166) fun t100_274 =>
                  Ld w_273 t100_274 fun t101_275 w_276 =>
                  Pu (faV 1 f7_10) fun t102_277 =>
                  St 1 w_276 t102_277 t101_275 fun u_278 w_279 =>
                  jj_105 [] w_279)
                (jj_105 [] w_273))))))
            (fun jj_170 =>
            LdN 16 w_169 r12_166 fun t54_280 w_281 =>
            Cl Try.prog 76 [t54_280] w_281 fun t55_282 w_283 =>
            Gd (isB true t55_282) (fun kk => kk modulus0 w_283) w_283 fun t57_284 w_285 =>
            Gd (isB true t55_282) (fun kk => Pu (faV 4 r12_166) fun vv => kk vv w_285) w_285 fun t58_286 w_287 =>
            Gd (isB true t55_282) (fun kk => Ld w_287 t58_286 kk) w_287 fun t59_288 w_289 =>
            Gd (isB true t55_282) (fun kk => Pu (faV 1 f7_10) fun vv => kk vv w_289) w_289 fun t60_290 w_291 =>
            Gd (isB true t55_282) (fun kk => Ld w_291 t60_290 kk) w_291 fun t61_292 w_293 =>
            Gd (isB true t55_282) (fun kk => Cl Try.prog 77 [t57_284, t59_288, t61_292] w_293 kk) w_293 fun t62_294 w_295 =>
            Gd (isB true t55_282) (fun kk => Pu (unV .not t62_294) fun vv => kk vv w_295) w_295 fun t63_296 w_297 =>
            Pu (pickV t55_282 t63_296 (Value.bool false)) fun t64_298 =>
            IfB t64_298
              (Pu (faV 4 r12_166) fun t66_299 =>
                Ld w_297 t66_299 fun t67_300 w_301 =>
                Cl Try.prog 78 [modulus0, t67_300, (Value.int IntKind.i64 1)] w_301 fun t68_302 w_303 =>
                Pu (faV 1 f7_10) fun t69_304 =>
                St 1 w_303 t69_304 t68_302 fun u_305 w_306 =>
                jj_170 [] w_306)
              (jj_170 [] w_297))))
          (RunS Try.prog (Instr.makeMap 139 none) w_102 fun t104_307 w_308 =>
      RunS Try.prog (Instr.makeMap 140 none) w_308 fun t105_309 w_310 =>
      Pu (lenV records2) fun t107_311 =>
      ∃ (I_312 : List Value → World → Prop) (m_313 : List Value → World → Nat), I_312 [(Value.int IntKind.i64 0)] w_310 ∧
      ∀ (g_360 : Fr) (w_359 : World), ∀ t108_318 : Value, I_312 [t108_318] w_359 →
        (Pu (binV (TypeDesc.int IntKind.i64) .lss t108_318 t107_311) fun t109_361 =>
        IfB t109_361
          (Jn (fun vs_405 w_404 => ∀ g_406 : Fr, vs_405 = [] ∧
            (Pu (binV (TypeDesc.int IntKind.i64) .add t108_318 (Value.int IntKind.i64 1)) fun t148_407 =>
            I_312 [t148_407] w_404 ∧ m_313 [t148_407] w_404 < m_313 [t108_318] w_359))
          (fun jj_362 =>
          Pu (ixV 16 records2 t108_318) fun t110_408 =>
          LdN 16 w_359 t110_408 fun t111_409 w_410 =>
          New #[(Value.int IntKind.i64 0), (Value.int IntKind.i64 0), (Value.int IntKind.i64 0), (Value.int IntKind.u8 0), (Value.int IntKind.i64 0), (Value.int IntKind.i64 0), (Value.int IntKind.i64 0), (Value.int IntKind.i64 0), (Value.int IntKind.i64 0), (Value.int IntKind.i64 0), (Value.string (ByteArray.mk #[])), (Value.slice none 0 0), (Value.slice none 0 0), (Value.slice none 0 0), (Value.slice none 0 0), (Value.slice none 0 0)] 75 w_410 fun r18_411 w_412 =>
          St 16 w_412 r18_411 t111_409 fun u_413 w_414 =>
          Jn (fun vs_432 w_431 => ∀ g_433 : Fr, vs_432 = [] ∧
              (LdN 16 w_431 r18_411 fun t125_434 w_435 =>
              Cl Try.prog 76 [t125_434] w_435 fun t126_436 w_437 =>
              Pu (unV .not t126_436) fun t127_438 =>
              IfB t127_438
                (jj_362 [] w_437)
                (Pu (faV 3 r18_411) fun t128_439 =>
              Ld w_437 t128_439 fun t129_440 w_441 =>
              Jn (fun vs_447 w_446 => ∀ g_448 : Fr, ∃ t135_443 : Value, vs_447 = [t135_443] ∧
                  (IfB t135_443
                    (Pu (faV 4 r18_411) fun t139_449 =>
                      Ld w_446 t139_449 fun t140_450 w_451 =>
                      RunS Try.prog (Builtin.delete_ #[140, 3] 0 #[t105_309, t140_450]) w_451 fun u_452 w_453 =>
                      jj_362 [] w_453)
                    (Pu (binV (TypeDesc.int IntKind.u8) .eql t129_440 (Value.int IntKind.u8 6)) fun t142_454 =>
                      IfB t142_454
                        (Pu (faV 4 r18_411) fun t144_455 =>
                          Ld w_446 t144_455 fun t145_456 w_457 =>
                          Pu (faV 2 r18_411) fun t146_458 =>
                          Ld w_457 t146_458 fun t147_459 w_460 =>
                          RunU Try.prog (Instr.mapUpdate 140 t105_309 t145_456 t147_459) w_460 fun u_461 w_462 =>
                          jj_362 [] w_462)
                        (Pu (faV 4 r18_411) fun t131_463 =>
                          Ld w_446 t131_463 fun t132_464 w_465 =>
                          Pu (faV 0 r18_411) fun t133_466 =>
                          Ld w_465 t133_466 fun t134_467 w_468 =>
                          RunU Try.prog (Instr.mapUpdate 140 t105_309 t132_464 t134_467) w_468 fun u_469 w_470 =>
                          jj_362 [] w_470))))
                (fun jj_442 =>
                Pu (binV (TypeDesc.int IntKind.u8) .eql t129_440 (Value.int IntKind.u8 7)) fun t136_471 =>
                IfB t136_471
                  (jj_442 [t136_471] w_441)
                  (Pu (binV (TypeDesc.int IntKind.u8) .eql t129_440 (Value.int IntKind.u8 8)) fun t137_472 =>
                    jj_442 [t137_472] w_441)))))
            (fun jj_415 =>
            Pu (faV 0 r18_411) fun t114_473 =>
            Ld w_414 t114_473 fun t115_474 w_475 =>
            RunS Try.prog (Instr.lookup 139 t104_307 t115_474 true) w_475 fun t116_476 w_477 =>
            Pu (extV t116_476 0) fun t117_478 =>
            Pu (extV t116_476 1) fun t118_479 =>
            New #[(Value.int IntKind.i64 0), (Value.int IntKind.i64 0), (Value.int IntKind.i64 0), (Value.int IntKind.u8 0), (Value.int IntKind.i64 0), (Value.int IntKind.i64 0), (Value.int IntKind.i64 0), (Value.int IntKind.i64 0), (Value.int IntKind.i64 0), (Value.int IntKind.i64 0), (Value.string (ByteArray.mk #[])), (Value.slice none 0 0), (Value.slice none 0 0), (Value.slice none 0 0), (Value.slice none 0 0), (Value.slice none 0 0)] 75 w_477 fun t19_480 w_481 =>
            St 16 w_481 t19_480 t117_478 fun u_482 w_483 =>
            Pu (unV .not t118_479) fun t120_484 =>
            IfB t120_484
              (Pu (faV 0 r18_411) fun t122_485 =>
                Ld w_483 t122_485 fun t123_486 w_487 =>
                LdN 16 w_487 r18_411 fun t124_488 w_489 =>
                RunU Try.prog (Instr.mapUpdate 139 t104_307 t123_486 t124_488) w_489 fun u_490 w_491 =>
                jj_415 [] w_491)
              (jj_415 [] w_483))))
          (Cl Try.prog 79 [t105_309] w_359 fun t150_492 w_493 =>
      Cl Try.prog 72 [t150_492] w_493 fun t151_494 w_495 =>
      Pu (lenV t151_494) fun t152_496 =>
      ∃ (I_497 : List Value → World → Prop) (m_498 : List Value → World → Nat), I_497 [(Value.int IntKind.i64 0)] w_495 ∧
      ∀ (g_528 : Fr) (w_527 : World), ∀ t153_501 : Value, I_497 [t153_501] w_527 →
        (Pu (binV (TypeDesc.int IntKind.i64) .lss t153_501 t152_496) fun t154_529 =>
        IfB t154_529
          (Pu (ixV 1 t151_494 t153_501) fun t155_530 =>
        Ld w_527 t155_530 fun t156_531 w_532 =>
        Pu (faV 4 f7_10) fun t157_533 =>
        Ld w_532 t157_533 fun t158_534 w_535 =>
        RunS Try.prog (Instr.lookup 140 t105_309 t156_531 false) w_535 fun t162_536 w_537 =>
        RunS Try.prog (Instr.build 77 #[(0, t156_531), (1, t162_536)]) w_537 fun t163_538 w_539 =>
        RunS Try.prog (Instr.buildSlice 67 1 #[(0, t163_538)]) w_539 fun t164_540 w_541 =>
        RunS Try.prog (Builtin.append_ #[67, 67] 67 #[t158_534, t164_540]) w_541 fun t165_542 w_543 =>
        Pu (faV 4 f7_10) fun t166_544 =>
        St 1 w_543 t166_544 t165_542 fun u_545 w_546 =>
        ∃ C_547 : World → Prop, C_547 (World.drew w_546) ∧
        (Pu (faV 5 f7_10) fun t167_548 =>
        ∃ t168_549, (∀ w_550, C_547 w_550 → Ld w_550 t167_548 fun t168_551 w_552 =>
        t168_551 = t168_549 ∧ w_552 = w_550) ∧
        (RunS Try.prog (Instr.lookup 140 t105_309 t156_531 false) (World.drew w_546) fun t172_553 w_554 =>
        w_554 = (World.drew w_546) ∧
        Pu (lenV records2) fun t174_555 =>
        Cl Try.prog 80 [t104_307, t172_553, t174_555] (World.drew w_546) fun t175_556 w_557 =>
        C_547 w_557 ∧
        (Pu (binV (TypeDesc.int IntKind.i64) .add t168_549 t175_556) fun t176_558 =>
        Pu (faV 5 f7_10) fun t177_559 =>
        St 1 w_557 t177_559 t176_558 fun u_560 w_561 =>
        Pu (binV (TypeDesc.int IntKind.i64) .add t153_501 (Value.int IntKind.i64 1)) fun t178_562 =>
        I_497 [t178_562] w_561 ∧ m_498 [t178_562] w_561 < m_498 [t153_501] w_527))))
          (LdN 6 w_527 f7_10 fun t179_563 w_564 =>
      St 6 w_564 t6_3 t179_563 fun u_565 w_566 =>
      RetO (resL Try.prog (fun j => bif Nat.beq j 6 then t6_3 else undef) w_566 [(ResultVar.cell 6 69)]) w_566 k))))))))
    (fun jj_14 =>
    Cl Try.prog 74 [records2, (.func (Fn.func 75) #[] #[c4_1])] w_13 fun t29_567 w_568 =>
    Pu (binV (TypeDesc.int IntKind.i64) .geq t29_567 (Value.int IntKind.i64 0)) fun t31_569 =>
    IfB t31_569
      (Pu (ixV 16 records2 t29_567) fun t34_570 =>
        LdN 16 w_568 t34_570 fun t35_571 w_572 =>
        New #[(Value.int IntKind.i64 0), (Value.int IntKind.i64 0), (Value.int IntKind.i64 0), (Value.int IntKind.u8 0), (Value.int IntKind.i64 0), (Value.int IntKind.i64 0), (Value.int IntKind.i64 0), (Value.int IntKind.i64 0), (Value.int IntKind.i64 0), (Value.int IntKind.i64 0), (Value.string (ByteArray.mk #[])), (Value.slice none 0 0), (Value.slice none 0 0), (Value.slice none 0 0), (Value.slice none 0 0), (Value.slice none 0 0)] 75 w_572 fun r10_573 w_574 =>
        St 16 w_574 r10_573 t35_571 fun u_575 w_576 =>
        Pu (faV 9 r10_573) fun t36_577 =>
        Ld w_576 t36_577 fun t37_578 w_579 =>
        Pu (faV 4 r10_573) fun t38_580 =>
        Ld w_579 t38_580 fun t39_581 w_582 =>
        Pu (faV 8 r10_573) fun t40_583 =>
        Ld w_582 t40_583 fun t41_584 w_585 =>
        Pu (faV 7 r10_573) fun t42_586 =>
        Ld w_585 t42_586 fun t43_587 w_588 =>
        RunS Try.prog (Instr.build 69 #[(0, t37_578), (1, t39_581), (2, t41_584), (3, t43_587)]) w_588 fun t44_589 w_590 =>
        St 6 w_590 f7_10 t44_589 fun u_591 w_592 =>
        Pu (slV 16 records2 (some t29_567) none none) fun t47_593 =>
        jj_14 [t47_593] w_592)
      (jj_14 [records2] w_568))
theorem e32 (k : KV) (modulus0 : Value) (c1 : Value) (records2 : Value) (w : World) : K KD Try.prog 180 (fun j => bif Nat.beq j 14 then [73] else bif Nat.beq j 42 then [153] else bif Nat.beq j 27 then [108] else bif Nat.beq j 9 then [50] else []) (fun j => bif Nat.beq j 8 then some [8] else bif Nat.beq j 23 then some [] else bif Nat.beq j 13 then some [] else bif Nat.beq j 18 then some [] else bif Nat.beq j 40 then some [] else bif Nat.beq j 32 then some [] else bif Nat.beq j 37 then some [135] else none) (Try.f32.body.getD .skip) (retQ Try.prog Try.f32 k) (argF [modulus0, c1, records2]) w = T32 k modulus0 c1 records2 w := by kernel_rfl
theorem c32 {k : KV} {modulus0 : Value} {c1 : Value} {records2 : Value} {w : World} (h : T32 k modulus0 c1 records2 w) : Cl Try.prog 32 [modulus0, c1, records2] w k :=
  Cl_of_K KD_sound mixed Try.func32 (by kernel_rfl) (by kernel_rfl) ((e32 k modulus0 c1 records2 w).symm ▸ h)

/-- Function 33: almonry/almonrylaw21.awake. -/
def T33 (k : KV) (w : World) : Prop :=
  RunS Try.prog (Instr.build 75 #[(0, (Value.int IntKind.i64 1)), (3, (Value.int IntKind.u8 1)), (4, (Value.int IntKind.i64 3))]) w fun t5_1 w_2 =>
  RunS Try.prog (Instr.build 75 #[(0, (Value.int IntKind.i64 50)), (3, (Value.int IntKind.u8 1)), (4, (Value.int IntKind.i64 4))]) w_2 fun t6_3 w_4 =>
  RunS Try.prog (Instr.build 75 #[(0, (Value.int IntKind.i64 90)), (3, (Value.int IntKind.u8 2)), (4, (Value.int IntKind.i64 3)), (1, (Value.int IntKind.i64 1))]) w_4 fun t7_5 w_6 =>
  RunS Try.prog (Instr.build 75 #[(0, (Value.int IntKind.i64 120)), (3, (Value.int IntKind.u8 7)), (4, (Value.int IntKind.i64 4)), (1, (Value.int IntKind.i64 50))]) w_6 fun t8_7 w_8 =>
  RunS Try.prog (Instr.build 75 #[(0, (Value.int IntKind.i64 150)), (3, (Value.int IntKind.u8 6)), (4, (Value.int IntKind.i64 3)), (1, (Value.int IntKind.i64 90)), (2, (Value.int IntKind.i64 1))]) w_8 fun t9_9 w_10 =>
  RunS Try.prog (Instr.buildSlice 66 5 #[(0, t5_1), (1, t6_3), (2, t7_5), (3, t8_7), (4, t9_9)]) w_10 fun t10_11 w_12 =>
  RunS Try.prog (Instr.build 65 #[(2, (Value.int IntKind.i64 1))]) w_12 fun t11_13 w_14 =>
  Cl Try.prog 32 [(Value.int IntKind.i64 16), t11_13, t10_11] w_14 fun t13_15 w_16 =>
  New #[(Value.int IntKind.i64 0), (Value.int IntKind.i64 0), (Value.int IntKind.i64 0), (Value.int IntKind.i64 0), (Value.slice none 0 0), (Value.int IntKind.i64 0)] 69 w_16 fun f2_17 w_18 =>
  St 6 w_18 f2_17 t13_15 fun u_19 w_20 =>
  Pu (faV 4 f2_17) fun t15_21 =>
  Ld w_20 t15_21 fun t16_22 w_23 =>
  Cl Try.prog 35 [t16_22] w_23 fun t17_24 w_25 =>
  Pu (extV t17_24 0) fun t18_26 =>
  Pu (extV t17_24 1) fun t19_27 =>
  Pu (faV 0 f2_17) fun t20_28 =>
  Ld w_25 t20_28 fun t21_29 w_30 =>
  Pu (binV (TypeDesc.int IntKind.i64) .eql t21_29 (Value.int IntKind.i64 1)) fun t22_31 =>
  Gd (isB true t22_31) (fun kk => Pu (faV 1 f2_17) fun vv => kk vv w_30) w_30 fun t24_32 w_33 =>
  Gd (isB true t22_31) (fun kk => Ld w_33 t24_32 kk) w_33 fun t25_34 w_35 =>
  Gd (isB true t22_31) (fun kk => Pu (binV (TypeDesc.int IntKind.i64) .eql t25_34 (Value.int IntKind.i64 5)) fun vv => kk vv w_35) w_35 fun t26_36 w_37 =>
  Pu (pickV t22_31 t26_36 (Value.bool false)) fun t27_38 =>
  Gd (isB true t27_38) (fun kk => Pu (faV 2 f2_17) fun vv => kk vv w_37) w_37 fun t29_39 w_40 =>
  Gd (isB true t27_38) (fun kk => Ld w_40 t29_39 kk) w_40 fun t30_41 w_42 =>
  Gd (isB true t27_38) (fun kk => Pu (binV (TypeDesc.int IntKind.i64) .eql t30_41 (Value.int IntKind.i64 2)) fun vv => kk vv w_42) w_42 fun t31_43 w_44 =>
  Pu (pickV t27_38 t31_43 (Value.bool false)) fun t32_45 =>
  Gd (isB true t32_45) (fun kk => Pu (faV 5 f2_17) fun vv => kk vv w_44) w_44 fun t34_46 w_47 =>
  Gd (isB true t32_45) (fun kk => Ld w_47 t34_46 kk) w_47 fun t35_48 w_49 =>
  Gd (isB true t32_45) (fun kk => Pu (binV (TypeDesc.int IntKind.i64) .eql t35_48 (Value.int IntKind.i64 1)) fun vv => kk vv w_49) w_49 fun t36_50 w_51 =>
  Pu (pickV t32_45 t36_50 (Value.bool false)) fun t37_52 =>
  Gd (isB true t37_52) (fun kk => Pu (faV 4 f2_17) fun vv => kk vv w_51) w_51 fun t39_53 w_54 =>
  Gd (isB true t37_52) (fun kk => Ld w_54 t39_53 kk) w_54 fun t40_55 w_56 =>
  Gd (isB true t37_52) (fun kk => Pu (lenV t40_55) fun vv => kk vv w_56) w_56 fun t41_57 w_58 =>
  Gd (isB true t37_52) (fun kk => Pu (binV (TypeDesc.int IntKind.i64) .eql t41_57 (Value.int IntKind.i64 1)) fun vv => kk vv w_58) w_58 fun t42_59 w_60 =>
  Pu (pickV t37_52 t42_59 (Value.bool false)) fun t43_61 =>
  Gd (isB true t43_61) (fun kk => Pu (faV 4 f2_17) fun vv => kk vv w_60) w_60 fun t45_62 w_63 =>
  Gd (isB true t43_61) (fun kk => Ld w_63 t45_62 kk) w_63 fun t46_64 w_65 =>
  Gd (isB true t43_61) (fun kk => Pu (ixV 2 t46_64 (Value.int IntKind.i64 0)) fun vv => kk vv w_65) w_65 fun t47_66 w_67 =>
  Gd (isB true t43_61) (fun kk => LdN 2 w_67 t47_66 kk) w_67 fun t48_68 w_69 =>
  Gd (isB true t43_61) (fun kk => RunS Try.prog (Instr.build 77 #[(0, (Value.int IntKind.i64 3)), (1, (Value.int IntKind.i64 1))]) w_69 kk) w_69 fun t49_70 w_71 =>
  Gd (isB true t43_61) (fun kk => RunS Try.prog (do eqGuard .eql 77 (Operand.tmp 48) (Operand.tmp 49) t48_68 t49_70; binOp .eql 77 t48_68 t49_70) w_71 kk) w_71 fun t50_72 w_73 =>
  Pu (pickV t43_61 t50_72 (Value.bool false)) fun t51_74 =>
  Gd (isB true t51_74) (fun kk => kk t19_27 w_73) w_73 fun t53_75 w_76 =>
  Pu (pickV t51_74 t53_75 (Value.bool false)) fun t54_77 =>
  Gd (isB true t54_77) (fun kk => kk t18_26 w_76) w_76 fun t56_78 w_79 =>
  Gd (isB true t54_77) (fun kk => Pu (binV (TypeDesc.int IntKind.i64) .eql t56_78 (Value.int IntKind.i64 1)) fun vv => kk vv w_79) w_79 fun t57_80 w_81 =>
  Pu (pickV t54_77 t57_80 (Value.bool false)) fun t58_82 =>
  k t58_82 w_81
theorem e33 (k : KV) (w : World) : K KD Try.prog 59 (fun j =>  []) (fun j =>  none) (Try.f33.body.getD .skip) (retQ Try.prog Try.f33 k) (argF []) w = T33 k  w := by kernel_rfl
theorem c33 {k : KV} {w : World} (h : T33 k  w) : Cl Try.prog 33 [] w k :=
  Cl_of_K KD_sound mixed Try.func33 (by kernel_rfl) (by kernel_rfl) ((e33 k  w).symm ▸ h)

/-- Function 34: almonry/almonrylaw21.log. -/
def T34 (k : KV) (modulus0 : Value) (acts1 : Value) (w : World) : Prop :=
  RunS Try.prog (Instr.makeSlice 34 (Value.int IntKind.i64 8) (Value.int IntKind.i64 8)) w fun t14_1 w_2 =>
  RunS Try.prog (Instr.makeSlice 82 (Value.int IntKind.i64 8) (Value.int IntKind.i64 8)) w_2 fun t15_3 w_4 =>
  RunS Try.prog (Instr.makeSlice 57 (Value.int IntKind.i64 8) (Value.int IntKind.i64 8)) w_4 fun t16_5 w_6 =>
  ∃ (I_7 : List Value → World → Prop) (m_8 : List Value → World → Nat), I_7 [(Value.slice none 0 0), (Value.int IntKind.i64 0)] w_6 ∧
  ∀ (g_147 : Fr) (w_146 : World), ∀ out6_10 : Value, ∀ i10_11 : Value, I_7 [out6_10, i10_11] w_146 →
    (Pu (lenV acts1) fun t19_148 =>
    Pu (binV (TypeDesc.int IntKind.i64) .lss i10_11 t19_148) fun t20_149 =>
    IfB t20_149
      (Jn (fun vs_281 w_280 => ∀ g_282 : Fr, ∃ out6_151 : Value, vs_281 = [out6_151] ∧
        (Pu (binV (TypeDesc.int IntKind.i64) .add i10_11 (Value.int IntKind.i64 1)) fun t22_283 =>
        I_7 [out6_151, t22_283] w_280 ∧ m_8 [out6_151, t22_283] w_280 < m_8 [out6_10, i10_11] w_146))
      (fun jj_150 =>
      Pu (ixV 2 acts1 i10_11) fun t25_284 =>
      Pu (faV 1 t25_284) fun t26_285 =>
      Ld w_146 t26_285 fun t27_286 w_287 =>
      Pu (binV (TypeDesc.int IntKind.i64) .rem t27_286 (Value.int IntKind.i64 8)) fun t28_288 =>
      Jn (fun vs_296 w_295 => ∀ g_297 : Fr, ∃ wv11_290 : Value, vs_296 = [wv11_290] ∧
          (Pu (ixV 1 t16_5 wv11_290) fun t35_298 =>
          Ld w_295 t35_298 fun t36_299 w_300 =>
          Gd (isB false t36_299) (fun kk => kk wv11_290 w_300) w_300 fun t38_301 w_302 =>
          Gd (isB false t36_299) (fun kk => Pu (binV (TypeDesc.int IntKind.i64) .add t38_301 (Value.int IntKind.i64 1)) fun vv => kk vv w_302) w_302 fun t39_303 w_304 =>
          Gd (isB false t36_299) (fun kk => kk modulus0 w_304) w_304 fun t40_305 w_306 =>
          Gd (isB false t36_299) (fun kk => Pu (binV (TypeDesc.int IntKind.i64) .gtr t39_303 t40_305) fun vv => kk vv w_306) w_306 fun t41_307 w_308 =>
          Pu (pickV t36_299 (Value.bool true) t41_307) fun t42_309 =>
          IfB t42_309
            (jj_150 [out6_10] w_308)
            (Pu (binV (TypeDesc.int IntKind.i64) .mul (Value.int IntKind.i64 10) i10_11) fun t44_310 =>
          Pu (binV (TypeDesc.int IntKind.i64) .add t44_310 (Value.int IntKind.i64 1)) fun t45_311 =>
          Pu (ixV 1 t14_1 wv11_290) fun t48_312 =>
          Ld w_308 t48_312 fun t49_313 w_314 =>
          Pu (binV (TypeDesc.int IntKind.i64) .add wv11_290 (Value.int IntKind.i64 1)) fun t51_315 =>
          RunS Try.prog (Instr.build 75 #[(0, t45_311), (1, t49_313), (4, t51_315)]) w_314 fun t52_316 w_317 =>
          New #[(Value.int IntKind.i64 0), (Value.int IntKind.i64 0), (Value.int IntKind.i64 0), (Value.int IntKind.u8 0), (Value.int IntKind.i64 0), (Value.int IntKind.i64 0), (Value.int IntKind.i64 0), (Value.int IntKind.i64 0), (Value.int IntKind.i64 0), (Value.int IntKind.i64 0), (Value.string (ByteArray.mk #[])), (Value.slice none 0 0), (Value.slice none 0 0), (Value.slice none 0 0), (Value.slice none 0 0), (Value.slice none 0 0)] 75 w_317 fun r12_318 w_319 =>
          St 16 w_319 r12_318 t52_316 fun u_320 w_321 =>
          Pu (ixV 1 t15_3 wv11_290) fun t55_322 =>
          Ld w_321 t55_322 fun t56_323 w_324 =>
          Pu (lenV t56_323) fun t57_325 =>
          Jn (fun vs_409 w_408 => ∀ g_410 : Fr, vs_409 = [] ∧
              (Pu (faV 0 r12_318) fun t141_411 =>
              Ld w_408 t141_411 fun t142_412 w_413 =>
              Pu (ixV 1 t14_1 wv11_290) fun t143_414 =>
              St 1 w_413 t143_414 t142_412 fun u_415 w_416 =>
              LdN 16 w_416 r12_318 fun t145_417 w_418 =>
              RunS Try.prog (Instr.buildSlice 66 1 #[(0, t145_417)]) w_418 fun t146_419 w_420 =>
              RunS Try.prog (Builtin.append_ #[66, 66] 66 #[out6_10, t146_419]) w_420 fun t147_421 w_422 =>
              jj_150 [t147_421] w_422))
            (fun jj_326 =>
            Pu (ixV 2 acts1 i10_11) fun t60_423 =>
            Pu (faV 0 t60_423) fun t61_424 =>
            Ld w_324 t61_424 fun t62_425 w_426 =>
            Pu (binV (TypeDesc.int IntKind.i64) .eql t62_425 (Value.int IntKind.i64 0)) fun t64_427 =>
            IfB t64_427
              (Pu (faV 3 r12_318) fun t65_428 =>
                St 1 w_426 t65_428 (Value.int IntKind.u8 1) fun u_429 w_430 =>
                ∃ C_431 : World → Prop, C_431 (World.drew w_430) ∧
                (Pu (ixV 1 t15_3 wv11_290) fun t70_432 =>
                ∃ t71_433, (∀ w_434, C_431 w_434 → Ld w_434 t70_432 fun t71_435 w_436 =>
                t71_435 = t71_433 ∧ w_436 = w_434) ∧
                (Pu (faV 0 r12_318) fun t72_437 =>
                Ld (World.drew w_430) t72_437 fun t73_438 w_439 =>
                w_439 = (World.drew w_430) ∧
                RunS Try.prog (Instr.buildSlice 34 1 #[(0, t73_438)]) (World.drew w_430) fun t74_440 w_441 =>
                C_431 w_441 ∧
                (RunS Try.prog (Builtin.append_ #[34, 34] 34 #[t71_433, t74_440]) w_441 fun t75_442 w_443 =>
                Pu (ixV 1 t15_3 wv11_290) fun t76_444 =>
                St 1 w_443 t76_444 t75_442 fun u_445 w_446 =>
                jj_326 [] w_446))))
              (Pu (binV (TypeDesc.int IntKind.i64) .eql t62_425 (Value.int IntKind.i64 1)) fun t78_447 =>
                IfB t78_447
                  (Pu (faV 3 r12_318) fun t79_448 =>
                    St 1 w_426 t79_448 (Value.int IntKind.u8 2) fun u_449 w_450 =>
                    ∃ C_451 : World → Prop, C_451 (World.drew w_450) ∧
                    (Pu (ixV 1 t15_3 wv11_290) fun t84_452 =>
                    ∃ t85_453, (∀ w_454, C_451 w_454 → Ld w_454 t84_452 fun t85_455 w_456 =>
                    t85_455 = t85_453 ∧ w_456 = w_454) ∧
                    (Pu (faV 0 r12_318) fun t86_457 =>
                    Ld (World.drew w_450) t86_457 fun t87_458 w_459 =>
                    w_459 = (World.drew w_450) ∧
                    RunS Try.prog (Instr.buildSlice 34 1 #[(0, t87_458)]) (World.drew w_450) fun t88_460 w_461 =>
                    C_451 w_461 ∧
                    (RunS Try.prog (Builtin.append_ #[34, 34] 34 #[t85_453, t88_460]) w_461 fun t89_462 w_463 =>
                    Pu (ixV 1 t15_3 wv11_290) fun t90_464 =>
                    St 1 w_463 t90_464 t89_462 fun u_465 w_466 =>
                    jj_326 [] w_466))))
                  (Pu (binV (TypeDesc.int IntKind.i64) .eql t62_425 (Value.int IntKind.i64 3)) fun t92_467 =>
                    IfB t92_467
                      (Pu (binV (TypeDesc.int IntKind.i64) .eql t57_325 (Value.int IntKind.i64 0)) fun t94_468 =>
                        IfB t94_468
                          (jj_150 [out6_10] w_426)
                          (Pu (faV 3 r12_318) fun t95_469 =>
                        St 1 w_426 t95_469 (Value.int IntKind.u8 6) fun u_470 w_471 =>
                        Jn (fun vs_485 w_484 => ∀ g_486 : Fr, vs_485 = [] ∧
                            (Pu (ixV 1 t15_3 wv11_290) fun t111_487 =>
                            Ld w_484 t111_487 fun t112_488 w_489 =>
                            Pu (binV (TypeDesc.int IntKind.i64) .sub t57_325 (Value.int IntKind.i64 1)) fun t114_490 =>
                            Pu (slV 1 t112_488 none (some t114_490) none) fun t115_491 =>
                            Pu (ixV 1 t15_3 wv11_290) fun t116_492 =>
                            St 1 w_489 t116_492 t115_491 fun u_493 w_494 =>
                            jj_326 [] w_494))
                          (fun jj_472 =>
                          Pu (binV (TypeDesc.int IntKind.i64) .gtr t57_325 (Value.int IntKind.i64 1)) fun t97_495 =>
                          IfB t97_495
                            (Pu (ixV 1 t15_3 wv11_290) fun t100_496 =>
                              Ld w_471 t100_496 fun t101_497 w_498 =>
                              Pu (binV (TypeDesc.int IntKind.i64) .sub t57_325 (Value.int IntKind.i64 2)) fun t103_499 =>
                              Pu (ixV 1 t101_497 t103_499) fun t104_500 =>
                              Ld w_498 t104_500 fun t105_501 w_502 =>
                              Pu (faV 2 r12_318) fun t106_503 =>
                              St 1 w_502 t106_503 t105_501 fun u_504 w_505 =>
                              jj_472 [] w_505)
                            (jj_472 [] w_471))))
                      (Jn (fun vs_511 w_510 => ∀ g_512 : Fr, ∃ t117_507 : Value, vs_511 = [t117_507] ∧
                            (IfB t117_507
                              (Pu (faV 3 r12_318) fun t120_513 =>
                                St 1 w_510 t120_513 (Value.int IntKind.u8 7) fun u_514 w_515 =>
                                Jn (fun vs_525 w_524 => ∀ g_526 : Fr, vs_525 = [] ∧
                                    (Pu (ixV 1 t14_1 wv11_290) fun t130_527 =>
                                    Ld w_524 t130_527 fun t131_528 w_529 =>
                                    Pu (binV (TypeDesc.int IntKind.i64) .eql t131_528 (Value.int IntKind.i64 0)) fun t132_530 =>
                                    IfB t132_530
                                      (jj_150 [out6_10] w_529)
                                      (Pu (ixV 1 t16_5 wv11_290) fun t135_531 =>
                                    St 1 w_529 t135_531 (Value.bool true) fun u_532 w_533 =>
                                    Pu (ixV 1 t15_3 wv11_290) fun t138_534 =>
                                    St 1 w_533 t138_534 (Value.slice none 0 0) fun u_535 w_536 =>
                                    jj_326 [] w_536)))
                                  (fun jj_516 =>
                                  Pu (ixV 2 acts1 i10_11) fun t123_537 =>
                                  Pu (faV 0 t123_537) fun t124_538 =>
                                  Ld w_515 t124_538 fun t125_539 w_540 =>
                                  Pu (binV (TypeDesc.int IntKind.i64) .eql t125_539 (Value.int IntKind.i64 4)) fun t126_541 =>
                                  IfB t126_541
                                    (Pu (faV 3 r12_318) fun t127_542 =>
                                      St 1 w_540 t127_542 (Value.int IntKind.u8 8) fun u_543 w_544 =>
                                      jj_516 [] w_544)
                                    (jj_516 [] w_540)))
                              (jj_150 [out6_10] w_510)))
                          (fun jj_506 =>
                          Pu (binV (TypeDesc.int IntKind.i64) .eql t62_425 (Value.int IntKind.i64 2)) fun t118_545 =>
                          IfB t118_545
                            (jj_506 [t118_545] w_426)
                            (Pu (binV (TypeDesc.int IntKind.i64) .eql t62_425 (Value.int IntKind.i64 4)) fun t119_546 =>
                              jj_506 [t119_546] w_426)))))))))
        (fun jj_289 =>
        Pu (binV (TypeDesc.int IntKind.i64) .lss t28_288 (Value.int IntKind.i64 0)) fun t30_547 =>
        IfB t30_547
          (Pu (binV (TypeDesc.int IntKind.i64) .add t28_288 (Value.int IntKind.i64 8)) fun t32_548 =>
            jj_289 [t32_548] w_287)
          (jj_289 [t28_288] w_287))))
      (k (.tuple #[out6_10, t15_3]) w_146))
theorem e34 (k : KV) (modulus0 : Value) (acts1 : Value) (w : World) : K KD Try.prog 150 (fun j => bif Nat.beq j 6 then [6, 10] else []) (fun j => bif Nat.beq j 7 then some [6] else bif Nat.beq j 11 then some [11] else bif Nat.beq j 35 then some [] else bif Nat.beq j 26 then some [] else bif Nat.beq j 29 then some [117] else bif Nat.beq j 32 then some [] else none) (Try.f34.body.getD .skip) (retQ Try.prog Try.f34 k) (argF [modulus0, acts1]) w = T34 k modulus0 acts1 w := by kernel_rfl
theorem c34 {k : KV} {modulus0 : Value} {acts1 : Value} {w : World} (h : T34 k modulus0 acts1 w) : Cl Try.prog 34 [modulus0, acts1] w k :=
  Cl_of_K KD_sound mixed Try.func34 (by kernel_rfl) (by kernel_rfl) ((e34 k modulus0 acts1 w).symm ▸ h)

/-- Function 35: almonry/restart.Next. -/
def T35 (k : KV) (losers0 : Value) (w : World) : Prop :=
  Pu (lenV losers0) fun t8_1 =>
  ∃ (I_2 : List Value → World → Prop) (m_3 : List Value → World → Nat), I_2 [(Value.int IntKind.i64 0), (Value.int IntKind.i64 0)] w ∧
  ∀ (g_17 : Fr) (w_16 : World), ∀ n4_5 : Value, ∀ t9_7 : Value, I_2 [n4_5, t9_7] w_16 →
    (Pu (binV (TypeDesc.int IntKind.i64) .lss t9_7 t8_1) fun t10_18 =>
    IfB t10_18
      (Pu (ixV 2 losers0 t9_7) fun t11_19 =>
    LdN 2 w_16 t11_19 fun t12_20 w_21 =>
    New #[(Value.int IntKind.i64 0), (Value.int IntKind.i64 0)] 77 w_21 fun b6_22 w_23 =>
    St 2 w_23 b6_22 t12_20 fun u_24 w_25 =>
    Pu (faV 1 b6_22) fun t14_26 =>
    Ld w_25 t14_26 fun t15_27 w_28 =>
    Pu (foldV0 max2V [n4_5, t15_27]) fun t16_29 =>
    Pu (binV (TypeDesc.int IntKind.i64) .add t9_7 (Value.int IntKind.i64 1)) fun t17_30 =>
    I_2 [t16_29, t17_30] w_28 ∧ m_3 [t16_29, t17_30] w_28 < m_3 [n4_5, t9_7] w_16)
      (Pu (binV (TypeDesc.int IntKind.i64) .gtr n4_5 (Value.int IntKind.i64 0)) fun t20_31 =>
  k (.tuple #[n4_5, t20_31]) w_16))
theorem e35 (k : KV) (losers0 : Value) (w : World) : K KD Try.prog 21 (fun j => bif Nat.beq j 3 then [4, 9] else []) (fun j =>  none) (Try.f35.body.getD .skip) (retQ Try.prog Try.f35 k) (argF [losers0]) w = T35 k losers0 w := by kernel_rfl
theorem c35 {k : KV} {losers0 : Value} {w : World} (h : T35 k losers0 w) : Cl Try.prog 35 [losers0] w k :=
  Cl_of_K KD_sound mixed Try.func35 (by kernel_rfl) (by kernel_rfl) ((e35 k losers0 w).symm ▸ h)

/-- Function 36: almonry/restart.Undone. -/
def T36 (k : KV) (losers0 : Value) (atv1 : Value) (next2 : Value) (w : World) : Prop :=
  New (Value.cells atv1) 3 w fun atv4_1 w_2 =>
  Cl Try.prog 81 [losers0] w_2 fun t10_3 w_4 =>
  Jn (fun vs_18 w_17 => ∀ g_19 : Fr, vs_18 = [] ∧
      (k t10_3 w_17))
    (fun jj_5 =>
    Cl Try.prog 82 [t10_3, (.func (Fn.func 83) #[] #[atv4_1])] w_4 fun t13_20 w_21 =>
    Pu (binV (TypeDesc.int IntKind.i64) .geq t13_20 (Value.int IntKind.i64 0)) fun t15_22 =>
    IfB t15_22
      (Pu (ixV 2 t10_3 t13_20) fun t19_23 =>
        Pu (faV 1 t19_23) fun t20_24 =>
        St 1 w_21 t20_24 next2 fun u_25 w_26 =>
        jj_5 [] w_26)
      (jj_5 [] w_21))
theorem e36 (k : KV) (losers0 : Value) (atv1 : Value) (next2 : Value) (w : World) : K KD Try.prog 22 (fun j =>  []) (fun j => bif Nat.beq j 5 then some [] else none) (Try.f36.body.getD .skip) (retQ Try.prog Try.f36 k) (argF [losers0, atv1, next2]) w = T36 k losers0 atv1 next2 w := by kernel_rfl
theorem c36 {k : KV} {losers0 : Value} {atv1 : Value} {next2 : Value} {w : World} (h : T36 k losers0 atv1 next2 w) : Cl Try.prog 36 [losers0, atv1, next2] w k :=
  Cl_of_K KD_sound mixed Try.func36 (by kernel_rfl) (by kernel_rfl) ((e36 k losers0 atv1 next2 w).symm ▸ h)

/-- Function 42: almonry/almonryref07.Add. -/
def T42 (k : KV) (m0 : Value) (x1 : Value) (n2 : Value) (w : World) : Prop :=
  Cl Try.prog 88 [m0] w fun t9_1 w_2 =>
  Pu (unV .not t9_1) fun t10_3 =>
  Gd (isB false t10_3) (fun kk => kk m0 w_2) w_2 fun t12_4 w_5 =>
  Gd (isB false t10_3) (fun kk => kk x1 w_5) w_5 fun t13_6 w_7 =>
  Gd (isB false t10_3) (fun kk => Cl Try.prog 89 [t12_4, t13_6] w_7 kk) w_7 fun t14_8 w_9 =>
  Gd (isB false t10_3) (fun kk => Pu (unV .not t14_8) fun vv => kk vv w_9) w_9 fun t15_10 w_11 =>
  Pu (pickV t10_3 (Value.bool true) t15_10) fun t16_12 =>
  IfB t16_12
    (k (Value.int IntKind.i64 0) w_11)
    (Pu (binV (TypeDesc.int IntKind.i64) .rem n2 m0) fun t19_13 =>
  Jn (fun vs_22 w_21 => ∀ g_23 : Fr, ∃ kv7_15 : Value, vs_22 = [kv7_15] ∧
      (Pu (binV (TypeDesc.int IntKind.i64) .sub x1 (Value.int IntKind.i64 1)) fun t26_24 =>
      Pu (binV (TypeDesc.int IntKind.i64) .add t26_24 kv7_15) fun t28_25 =>
      Pu (binV (TypeDesc.int IntKind.i64) .rem t28_25 m0) fun t30_26 =>
      Pu (binV (TypeDesc.int IntKind.i64) .add t30_26 (Value.int IntKind.i64 1)) fun t31_27 =>
      k t31_27 w_21))
    (fun jj_14 =>
    Pu (binV (TypeDesc.int IntKind.i64) .lss t19_13 (Value.int IntKind.i64 0)) fun t21_28 =>
    IfB t21_28
      (Pu (binV (TypeDesc.int IntKind.i64) .add t19_13 m0) fun t24_29 =>
        jj_14 [t24_29] w_11)
      (jj_14 [t19_13] w_11)))
theorem e42 (k : KV) (m0 : Value) (x1 : Value) (n2 : Value) (w : World) : K KD Try.prog 32 (fun j =>  []) (fun j => bif Nat.beq j 6 then some [7] else none) (Try.f42.body.getD .skip) (retQ Try.prog Try.f42 k) (argF [m0, x1, n2]) w = T42 k m0 x1 n2 w := by kernel_rfl
theorem c42 {k : KV} {m0 : Value} {x1 : Value} {n2 : Value} {w : World} (h : T42 k m0 x1 n2 w) : Cl Try.prog 42 [m0, x1, n2] w k :=
  Cl_of_K KD_sound mixed Try.func42 (by kernel_rfl) (by kernel_rfl) ((e42 k m0 x1 n2 w).symm ▸ h)

/-- Function 43: almonry/almonryref07.Gap. -/
def T43 (k : KV) (m0 : Value) (fromv1 : Value) (to2 : Value) (w : World) : Prop :=
  Cl Try.prog 88 [m0] w fun t9_1 w_2 =>
  Pu (unV .not t9_1) fun t10_3 =>
  Gd (isB false t10_3) (fun kk => kk m0 w_2) w_2 fun t12_4 w_5 =>
  Gd (isB false t10_3) (fun kk => kk fromv1 w_5) w_5 fun t13_6 w_7 =>
  Gd (isB false t10_3) (fun kk => Cl Try.prog 89 [t12_4, t13_6] w_7 kk) w_7 fun t14_8 w_9 =>
  Gd (isB false t10_3) (fun kk => Pu (unV .not t14_8) fun vv => kk vv w_9) w_9 fun t15_10 w_11 =>
  Pu (pickV t10_3 (Value.bool true) t15_10) fun t16_12 =>
  Gd (isB false t16_12) (fun kk => kk m0 w_11) w_11 fun t18_13 w_14 =>
  Gd (isB false t16_12) (fun kk => kk to2 w_14) w_14 fun t19_15 w_16 =>
  Gd (isB false t16_12) (fun kk => Cl Try.prog 89 [t18_13, t19_15] w_16 kk) w_16 fun t20_17 w_18 =>
  Gd (isB false t16_12) (fun kk => Pu (unV .not t20_17) fun vv => kk vv w_18) w_18 fun t21_19 w_20 =>
  Pu (pickV t16_12 (Value.bool true) t21_19) fun t22_21 =>
  IfB t22_21
    (k (Value.int IntKind.i64 0) w_20)
    (∃ (I_22 : List Value → World → Prop) (m_23 : List Value → World → Nat), I_22 [(Value.int IntKind.i64 0)] w_20 ∧
  ∀ (g_35 : Fr) (w_34 : World), ∀ n7_25 : Value, I_22 [n7_25] w_34 →
    (Cl Try.prog 42 [m0, fromv1, n7_25] w_34 fun t26_36 w_37 =>
    Pu (binV (TypeDesc.int IntKind.i64) .neq t26_36 to2) fun t28_38 =>
    IfB t28_38
      (Pu (binV (TypeDesc.int IntKind.i64) .add n7_25 (Value.int IntKind.i64 1)) fun t30_39 =>
    I_22 [t30_39] w_37 ∧ m_23 [t30_39] w_37 < m_23 [n7_25] w_34)
      (k n7_25 w_37)))
theorem e43 (k : KV) (m0 : Value) (fromv1 : Value) (to2 : Value) (w : World) : K KD Try.prog 32 (fun j => bif Nat.beq j 4 then [7] else []) (fun j =>  none) (Try.f43.body.getD .skip) (retQ Try.prog Try.f43 k) (argF [m0, fromv1, to2]) w = T43 k m0 fromv1 to2 w := by kernel_rfl
theorem c43 {k : KV} {m0 : Value} {fromv1 : Value} {to2 : Value} {w : World} (h : T43 k m0 fromv1 to2 w) : Cl Try.prog 43 [m0, fromv1, to2] w k :=
  Cl_of_K KD_sound mixed Try.func43 (by kernel_rfl) (by kernel_rfl) ((e43 k m0 fromv1 to2 w).symm ▸ h)

/-- Function 45: almonry/almonryref07.Before. -/
def T45 (k : KV) (m0 : Value) (a1 : Value) (b2 : Value) (w : World) : Prop :=
  Cl Try.prog 43 [m0, a1, b2] w fun t11_1 w_2 =>
  Pu (binV (TypeDesc.int IntKind.i64) .geq t11_1 (Value.int IntKind.i64 1)) fun t13_3 =>
  Gd (isB true t13_3) (fun kk => kk t11_1 w_2) w_2 fun t15_4 w_5 =>
  Gd (isB true t13_3) (fun kk => kk m0 w_5) w_5 fun t16_6 w_7 =>
  Gd (isB true t13_3) (fun kk => Pu (binV (TypeDesc.int IntKind.i64) .quo t16_6 (Value.int IntKind.i64 2)) fun vv => kk vv w_7) w_7 fun t17_8 w_9 =>
  Gd (isB true t13_3) (fun kk => Pu (binV (TypeDesc.int IntKind.i64) .sub t17_8 (Value.int IntKind.i64 1)) fun vv => kk vv w_9) w_9 fun t18_10 w_11 =>
  Gd (isB true t13_3) (fun kk => Pu (binV (TypeDesc.int IntKind.i64) .leq t15_4 t18_10) fun vv => kk vv w_11) w_11 fun t19_12 w_13 =>
  Pu (pickV t13_3 t19_12 (Value.bool false)) fun t20_14 =>
  k t20_14 w_13
theorem e45 (k : KV) (m0 : Value) (a1 : Value) (b2 : Value) (w : World) : K KD Try.prog 21 (fun j =>  []) (fun j =>  none) (Try.f45.body.getD .skip) (retQ Try.prog Try.f45 k) (argF [m0, a1, b2]) w = T45 k m0 a1 b2 w := by kernel_rfl
theorem c45 {k : KV} {m0 : Value} {a1 : Value} {b2 : Value} {w : World} (h : T45 k m0 a1 b2 w) : Cl Try.prog 45 [m0, a1, b2] w k :=
  Cl_of_K KD_sound mixed Try.func45 (by kernel_rfl) (by kernel_rfl) ((e45 k m0 a1 b2 w).symm ▸ h)

/-- Function 74: slices.IndexFunc[[]almonry/api.Record,almonry/api.Record]. -/
def T74 (k : KV) (s0 : Value) (f1 : Value) (w : World) : Prop :=
  Pu (lenV s0) fun t7_1 =>
  ∃ (I_2 : List Value → World → Prop) (m_3 : List Value → World → Nat), I_2 [(Value.int IntKind.i64 0)] w ∧
  ∀ (g_19 : Fr) (w_18 : World), ∀ t8_7 : Value, I_2 [t8_7] w_18 →
    (Pu (binV (TypeDesc.int IntKind.i64) .lss t8_7 t7_1) fun t9_20 =>
    IfB t9_20
      (Pu (ixV 16 s0 t8_7) fun t14_21 =>
    LdN 16 w_18 t14_21 fun t15_22 w_23 =>
    ClV Try.prog f1 [t15_22] w_23 fun t16_24 w_25 =>
    IfB t16_24
      (k t8_7 w_25)
      (Pu (binV (TypeDesc.int IntKind.i64) .add t8_7 (Value.int IntKind.i64 1)) fun t18_26 =>
    I_2 [t18_26] w_25 ∧ m_3 [t18_26] w_25 < m_3 [t8_7] w_18))
      (k (Value.int IntKind.i64 (-1)) w_18))
theorem e74 (k : KV) (s0 : Value) (f1 : Value) (w : World) : K KD Try.prog 19 (fun j => bif Nat.beq j 2 then [8] else []) (fun j =>  none) (Try.f74.body.getD .skip) (retQ Try.prog Try.f74 k) (argF [s0, f1]) w = T74 k s0 f1 w := by kernel_rfl
theorem c74 {k : KV} {s0 : Value} {f1 : Value} {w : World} (h : T74 k s0 f1 w) : Cl Try.prog 74 [s0, f1] w k :=
  Cl_of_K KD_sound mixed Try.func74 (by kernel_rfl) (by kernel_rfl) ((e74 k s0 f1 w).symm ▸ h)

/-- Function 75: almonry/restart.Find$1. -/
def T75 (k : KV) (r0 : Value) (t1 : Value) (w : World) : Prop :=
  New (Value.cells r0) 75 w fun r2_1 w_2 =>
  Pu (faV 6 t1) fun t4_3 =>
  Ld w_2 t4_3 fun t5_4 w_5 =>
  Pu (binV (TypeDesc.int IntKind.i64) .gtr t5_4 (Value.int IntKind.i64 0)) fun t6_6 =>
  Gd (isB true t6_6) (fun kk => Pu (faV 0 r2_1) fun vv => kk vv w_5) w_5 fun t8_7 w_8 =>
  Gd (isB true t6_6) (fun kk => Ld w_8 t8_7 kk) w_8 fun t9_9 w_10 =>
  Gd (isB true t6_6) (fun kk => Pu (faV 6 t1) fun vv => kk vv w_10) w_10 fun t10_11 w_12 =>
  Gd (isB true t6_6) (fun kk => Ld w_12 t10_11 kk) w_12 fun t11_13 w_14 =>
  Gd (isB true t6_6) (fun kk => Pu (binV (TypeDesc.int IntKind.i64) .eql t9_9 t11_13) fun vv => kk vv w_14) w_14 fun t12_15 w_16 =>
  Pu (pickV t6_6 t12_15 (Value.bool false)) fun t13_17 =>
  Gd (isB true t13_17) (fun kk => Pu (faV 3 r2_1) fun vv => kk vv w_16) w_16 fun t15_18 w_19 =>
  Gd (isB true t13_17) (fun kk => Ld w_19 t15_18 kk) w_19 fun t16_20 w_21 =>
  Gd (isB true t13_17) (fun kk => Pu (binV (TypeDesc.int IntKind.u8) .eql t16_20 (Value.int IntKind.u8 12)) fun vv => kk vv w_21) w_21 fun t17_22 w_23 =>
  Pu (pickV t13_17 t17_22 (Value.bool false)) fun t18_24 =>
  k t18_24 w_23
theorem e75 (k : KV) (r0 : Value) (t1 : Value) (w : World) : K KD Try.prog 19 (fun j =>  []) (fun j =>  none) (Try.f75.body.getD .skip) (retQ Try.prog Try.f75 k) (argF [r0, t1]) w = T75 k r0 t1 w := by kernel_rfl
theorem c75 {k : KV} {r0 : Value} {t1 : Value} {w : World} (h : T75 k r0 t1 w) : Cl Try.prog 75 [r0, t1] w k :=
  Cl_of_K KD_sound mixed Try.func75 (by kernel_rfl) (by kernel_rfl) ((e75 k r0 t1 w).symm ▸ h)

/-- Function 76: almonry/restart.mine. -/
def T76 (k : KV) (r0 : Value) (w : World) : Prop :=
  New (Value.cells r0) 75 w fun r1_1 w_2 =>
  Pu (faV 3 r1_1) fun t3_3 =>
  Ld w_2 t3_3 fun t4_4 w_5 =>
  Jn (fun vs_14 w_13 => ∀ g_15 : Fr, ∃ t5_7 : Value, vs_14 = [t5_7] ∧
      (IfB t5_7
        (Pu (faV 4 r1_1) fun t11_16 =>
          Ld w_13 t11_16 fun t12_17 w_18 =>
          Pu (binV (TypeDesc.int IntKind.i64) .gtr t12_17 (Value.int IntKind.i64 0)) fun t13_19 =>
          k t13_19 w_18)
        (k (Value.bool false) w_13)))
    (fun jj_6 =>
    Pu (binV (TypeDesc.int IntKind.u8) .eql t4_4 (Value.int IntKind.u8 1)) fun t6_20 =>
    IfB t6_20
      (jj_6 [t6_20] w_5)
      (Pu (binV (TypeDesc.int IntKind.u8) .eql t4_4 (Value.int IntKind.u8 2)) fun t7_21 =>
        IfB t7_21
          (jj_6 [t7_21] w_5)
          (Pu (binV (TypeDesc.int IntKind.u8) .eql t4_4 (Value.int IntKind.u8 6)) fun t8_22 =>
            IfB t8_22
              (jj_6 [t8_22] w_5)
              (Pu (binV (TypeDesc.int IntKind.u8) .eql t4_4 (Value.int IntKind.u8 7)) fun t9_23 =>
                IfB t9_23
                  (jj_6 [t9_23] w_5)
                  (Pu (binV (TypeDesc.int IntKind.u8) .eql t4_4 (Value.int IntKind.u8 8)) fun t10_24 =>
                    jj_6 [t10_24] w_5)))))
theorem e76 (k : KV) (r0 : Value) (w : World) : K KD Try.prog 14 (fun j =>  []) (fun j => bif Nat.beq j 7 then some [5] else none) (Try.f76.body.getD .skip) (retQ Try.prog Try.f76 k) (argF [r0]) w = T76 k r0 w := by kernel_rfl
theorem c76 {k : KV} {r0 : Value} {w : World} (h : T76 k r0 w) : Cl Try.prog 76 [r0] w k :=
  Cl_of_K KD_sound mixed Try.func76 (by kernel_rfl) (by kernel_rfl) ((e76 k r0 w).symm ▸ h)

/-- Function 77: almonry/xid.Before. -/
def T77 (k : KV) (m0 : Value) (a1 : Value) (b2 : Value) (w : World) : Prop :=
  Cl Try.prog 107 [m0, a1, b2] w fun t11_1 w_2 =>
  Pu (binV (TypeDesc.int IntKind.i64) .gtr t11_1 (Value.int IntKind.i64 0)) fun t13_3 =>
  Gd (isB true t13_3) (fun kk => kk t11_1 w_2) w_2 fun t15_4 w_5 =>
  Gd (isB true t13_3) (fun kk => kk m0 w_5) w_5 fun t16_6 w_7 =>
  Gd (isB true t13_3) (fun kk => Pu (binV (TypeDesc.int IntKind.i64) .quo t16_6 (Value.int IntKind.i64 2)) fun vv => kk vv w_7) w_7 fun t17_8 w_9 =>
  Gd (isB true t13_3) (fun kk => Pu (binV (TypeDesc.int IntKind.i64) .lss t15_4 t17_8) fun vv => kk vv w_9) w_9 fun t18_10 w_11 =>
  Pu (pickV t13_3 t18_10 (Value.bool false)) fun t19_12 =>
  k t19_12 w_11
theorem e77 (k : KV) (m0 : Value) (a1 : Value) (b2 : Value) (w : World) : K KD Try.prog 20 (fun j =>  []) (fun j =>  none) (Try.f77.body.getD .skip) (retQ Try.prog Try.f77 k) (argF [m0, a1, b2]) w = T77 k m0 a1 b2 w := by kernel_rfl
theorem c77 {k : KV} {m0 : Value} {a1 : Value} {b2 : Value} {w : World} (h : T77 k m0 a1 b2 w) : Cl Try.prog 77 [m0, a1, b2] w k :=
  Cl_of_K KD_sound mixed Try.func77 (by kernel_rfl) (by kernel_rfl) ((e77 k m0 a1 b2 w).symm ▸ h)

/-- Function 78: almonry/xid.Add. -/
def T78 (k : KV) (m0 : Value) (x1 : Value) (n2 : Value) (w : World) : Prop :=
  RunS Try.prog (Instr.buildSlice 34 1 #[(0, x1)]) w fun t9_1 w_2 =>
  Cl Try.prog 108 [m0, t9_1] w_2 fun t10_3 w_4 =>
  Pu (unV .not t10_3) fun t11_5 =>
  IfB t11_5
    (k (Value.int IntKind.i64 0) w_4)
    (Pu (binV (TypeDesc.int IntKind.i64) .sub x1 (Value.int IntKind.i64 1)) fun t14_6 =>
  Cl Try.prog 109 [m0, n2] w_4 fun t17_7 w_8 =>
  Pu (binV (TypeDesc.int IntKind.i64) .add t14_6 t17_7) fun t18_9 =>
  Cl Try.prog 109 [m0, t18_9] w_8 fun t19_10 w_11 =>
  Pu (binV (TypeDesc.int IntKind.i64) .add t19_10 (Value.int IntKind.i64 1)) fun t20_12 =>
  k t20_12 w_11)
theorem e78 (k : KV) (m0 : Value) (x1 : Value) (n2 : Value) (w : World) : K KD Try.prog 21 (fun j =>  []) (fun j =>  none) (Try.f78.body.getD .skip) (retQ Try.prog Try.f78 k) (argF [m0, x1, n2]) w = T78 k m0 x1 n2 w := by kernel_rfl
theorem c78 {k : KV} {m0 : Value} {x1 : Value} {n2 : Value} {w : World} (h : T78 k m0 x1 n2 w) : Cl Try.prog 78 [m0, x1, n2] w k :=
  Cl_of_K KD_sound mixed Try.func78 (by kernel_rfl) (by kernel_rfl) ((e78 k m0 x1 n2 w).symm ▸ h)

/-- Function 79: maps.Keys[map[int]int,int,int]. -/
def T79 (k : KV) (m0 : Value) (w : World) : Prop :=
  New (Value.cells m0) 140 w fun m1_1 w_2 =>
  k (.func (Fn.func 110) #[] #[m1_1]) w_2
theorem e79 (k : KV) (m0 : Value) (w : World) : K KD Try.prog 4 (fun j =>  []) (fun j =>  none) (Try.f79.body.getD .skip) (retQ Try.prog Try.f79 k) (argF [m0]) w = T79 k m0 w := by kernel_rfl
theorem c79 {k : KV} {m0 : Value} {w : World} (h : T79 k m0 w) : Cl Try.prog 79 [m0] w k :=
  Cl_of_K KD_sound mixed Try.func79 (by kernel_rfl) (by kernel_rfl) ((e79 k m0 w).symm ▸ h)

/-- Function 80: almonry/restart.left. -/
def T80 (k : KV) (byv0 : Value) (atv1 : Value) (most2 : Value) (w : World) : Prop :=
  Jn (fun vs_37 w_36 => ∀ g_38 : Fr, ∃ n7_3 : Value, vs_37 = [n7_3] ∧
      (k n7_3 w_36))
    (fun jj_1 =>
    Pu (binV (TypeDesc.int IntKind.i64) .add most2 (Value.int IntKind.i64 1)) fun t11_39 =>
    ∃ (I_40 : List Value → World → Prop) (m_41 : List Value → World → Nat), I_40 [atv1, (Value.int IntKind.i64 0), (Value.int IntKind.i64 0)] w ∧
    ∀ (g_76 : Fr) (w_75 : World), ∀ atv1_43 : Value, ∀ n7_44 : Value, ∀ t12_47 : Value, I_40 [atv1_43, n7_44, t12_47] w_75 →
      (Pu (binV (TypeDesc.int IntKind.i64) .lss t12_47 t11_39) fun t13_77 =>
      IfB t13_77
        (Jn (fun vs_109 w_108 => ∀ g_110 : Fr, ∃ atv1_79 : Value, ∃ n7_80 : Value, vs_109 = [atv1_79, n7_80] ∧
          (Pu (binV (TypeDesc.int IntKind.i64) .add t12_47 (Value.int IntKind.i64 1)) fun t39_111 =>
          I_40 [atv1_79, n7_80, t39_111] w_108 ∧ m_41 [atv1_79, n7_80, t39_111] w_108 < m_41 [atv1_43, n7_44, t12_47] w_75))
        (fun jj_78 =>
        RunS Try.prog (Instr.lookup 139 byv0 atv1_43 true) w_75 fun t17_112 w_113 =>
        Pu (extV t17_112 0) fun t18_114 =>
        Pu (extV t17_112 1) fun t19_115 =>
        New #[(Value.int IntKind.i64 0), (Value.int IntKind.i64 0), (Value.int IntKind.i64 0), (Value.int IntKind.u8 0), (Value.int IntKind.i64 0), (Value.int IntKind.i64 0), (Value.int IntKind.i64 0), (Value.int IntKind.i64 0), (Value.int IntKind.i64 0), (Value.int IntKind.i64 0), (Value.string (ByteArray.mk #[])), (Value.slice none 0 0), (Value.slice none 0 0), (Value.slice none 0 0), (Value.slice none 0 0), (Value.slice none 0 0)] 75 w_113 fun r8_116 w_117 =>
        St 16 w_117 r8_116 t18_114 fun u_118 w_119 =>
        Pu (binV (TypeDesc.int IntKind.i64) .leq atv1_43 (Value.int IntKind.i64 0)) fun t21_120 =>
        Gd (isB false t21_120) (fun kk => kk t19_115 w_119) w_119 fun t23_121 w_122 =>
        Gd (isB false t21_120) (fun kk => Pu (unV .not t23_121) fun vv => kk vv w_122) w_122 fun t24_123 w_124 =>
        Pu (pickV t21_120 (Value.bool true) t24_123) fun t25_125 =>
        IfB t25_125
          (jj_1 [n7_44] w_124)
          (Pu (faV 1 r8_116) fun t26_126 =>
        Ld w_124 t26_126 fun t27_127 w_128 =>
        Pu (faV 3 r8_116) fun t28_129 =>
        Ld w_128 t28_129 fun t29_130 w_131 =>
        Jn (fun vs_137 w_136 => ∀ g_138 : Fr, ∃ t30_133 : Value, vs_137 = [t30_133] ∧
            (IfB t30_133
              (Pu (binV (TypeDesc.int IntKind.i64) .add n7_44 (Value.int IntKind.i64 1)) fun t34_139 =>
                jj_78 [t27_127, t34_139] w_136)
              (Pu (binV (TypeDesc.int IntKind.u8) .eql t29_130 (Value.int IntKind.u8 6)) fun t36_140 =>
                IfB t36_140
                  (Pu (faV 2 r8_116) fun t37_141 =>
                    Ld w_136 t37_141 fun t38_142 w_143 =>
                    jj_78 [t38_142, n7_44] w_143)
                  (jj_78 [t27_127, n7_44] w_136))))
          (fun jj_132 =>
          Pu (binV (TypeDesc.int IntKind.u8) .eql t29_130 (Value.int IntKind.u8 1)) fun t31_144 =>
          IfB t31_144
            (jj_132 [t31_144] w_131)
            (Pu (binV (TypeDesc.int IntKind.u8) .eql t29_130 (Value.int IntKind.u8 2)) fun t32_145 =>
              jj_132 [t32_145] w_131)))))
        (jj_1 [n7_44] w_75)))
theorem e80 (k : KV) (byv0 : Value) (atv1 : Value) (most2 : Value) (w : World) : K KD Try.prog 41 (fun j => bif Nat.beq j 3 then [1, 7, 12] else []) (fun j => bif Nat.beq j 14 then some [7] else bif Nat.beq j 13 then some [1, 7] else bif Nat.beq j 10 then some [30] else none) (Try.f80.body.getD .skip) (retQ Try.prog Try.f80 k) (argF [byv0, atv1, most2]) w = T80 k byv0 atv1 most2 w := by kernel_rfl
theorem c80 {k : KV} {byv0 : Value} {atv1 : Value} {most2 : Value} {w : World} (h : T80 k byv0 atv1 most2 w) : Cl Try.prog 80 [byv0, atv1, most2] w k :=
  Cl_of_K KD_sound mixed Try.func80 (by kernel_rfl) (by kernel_rfl) ((e80 k byv0 atv1 most2 w).symm ▸ h)

/-- Function 81: slices.Clone[[]almonry/api.Begun,almonry/api.Begun]. -/
def T81 (k : KV) (s0 : Value) (w : World) : Prop :=
  Pu (binV (TypeDesc.slice 77) .eql s0 (Value.slice none 0 0)) fun t4_1 =>
  IfB t4_1
    (k (Value.slice none 0 0) w)
    (RunS Try.prog (Instr.buildSlice 67 0 #[]) w fun t5_2 w_3 =>
  RunS Try.prog (Builtin.append_ #[67, 67] 67 #[t5_2, s0]) w_3 fun t7_4 w_5 =>
  k t7_4 w_5)
theorem e81 (k : KV) (s0 : Value) (w : World) : K KD Try.prog 8 (fun j =>  []) (fun j =>  none) (Try.f81.body.getD .skip) (retQ Try.prog Try.f81 k) (argF [s0]) w = T81 k s0 w := by kernel_rfl
theorem c81 {k : KV} {s0 : Value} {w : World} (h : T81 k s0 w) : Cl Try.prog 81 [s0] w k :=
  Cl_of_K KD_sound mixed Try.func81 (by kernel_rfl) (by kernel_rfl) ((e81 k s0 w).symm ▸ h)

/-- Function 82: slices.IndexFunc[[]almonry/api.Begun,almonry/api.Begun]. -/
def T82 (k : KV) (s0 : Value) (f1 : Value) (w : World) : Prop :=
  Pu (lenV s0) fun t7_1 =>
  ∃ (I_2 : List Value → World → Prop) (m_3 : List Value → World → Nat), I_2 [(Value.int IntKind.i64 0)] w ∧
  ∀ (g_19 : Fr) (w_18 : World), ∀ t8_7 : Value, I_2 [t8_7] w_18 →
    (Pu (binV (TypeDesc.int IntKind.i64) .lss t8_7 t7_1) fun t9_20 =>
    IfB t9_20
      (Pu (ixV 2 s0 t8_7) fun t14_21 =>
    LdN 2 w_18 t14_21 fun t15_22 w_23 =>
    ClV Try.prog f1 [t15_22] w_23 fun t16_24 w_25 =>
    IfB t16_24
      (k t8_7 w_25)
      (Pu (binV (TypeDesc.int IntKind.i64) .add t8_7 (Value.int IntKind.i64 1)) fun t18_26 =>
    I_2 [t18_26] w_25 ∧ m_3 [t18_26] w_25 < m_3 [t8_7] w_18))
      (k (Value.int IntKind.i64 (-1)) w_18))
theorem e82 (k : KV) (s0 : Value) (f1 : Value) (w : World) : K KD Try.prog 19 (fun j => bif Nat.beq j 2 then [8] else []) (fun j =>  none) (Try.f82.body.getD .skip) (retQ Try.prog Try.f82 k) (argF [s0, f1]) w = T82 k s0 f1 w := by kernel_rfl
theorem c82 {k : KV} {s0 : Value} {f1 : Value} {w : World} (h : T82 k s0 f1 w) : Cl Try.prog 82 [s0, f1] w k :=
  Cl_of_K KD_sound mixed Try.func82 (by kernel_rfl) (by kernel_rfl) ((e82 k s0 f1 w).symm ▸ h)

/-- Function 83: almonry/restart.Undone$1. -/
def T83 (k : KV) (b0 : Value) (t1 : Value) (w : World) : Prop :=
  New (Value.cells b0) 77 w fun b2_1 w_2 =>
  Pu (faV 1 b2_1) fun t4_3 =>
  Ld w_2 t4_3 fun t5_4 w_5 =>
  Ld w_5 t1 fun t6_6 w_7 =>
  Pu (binV (TypeDesc.int IntKind.i64) .eql t5_4 t6_6) fun t7_8 =>
  k t7_8 w_7
theorem e83 (k : KV) (b0 : Value) (t1 : Value) (w : World) : K KD Try.prog 8 (fun j =>  []) (fun j =>  none) (Try.f83.body.getD .skip) (retQ Try.prog Try.f83 k) (argF [b0, t1]) w = T83 k b0 t1 w := by kernel_rfl
theorem c83 {k : KV} {b0 : Value} {t1 : Value} {w : World} (h : T83 k b0 t1 w) : Cl Try.prog 83 [b0, t1] w k :=
  Cl_of_K KD_sound mixed Try.func83 (by kernel_rfl) (by kernel_rfl) ((e83 k b0 t1 w).symm ▸ h)

/-- Function 88: almonry/almonryref07.Right. -/
def T88 (k : KV) (m0 : Value) (w : World) : Prop :=
  Pu (binV (TypeDesc.int IntKind.i64) .geq m0 (Value.int IntKind.i64 16)) fun t4_1 =>
  Gd (isB true t4_1) (fun kk => kk m0 w) w fun t6_2 w_3 =>
  Gd (isB true t4_1) (fun kk => Pu (binV (TypeDesc.int IntKind.i64) .leq t6_2 (Value.int IntKind.i64 1024)) fun vv => kk vv w_3) w_3 fun t7_4 w_5 =>
  Pu (pickV t4_1 t7_4 (Value.bool false)) fun t8_6 =>
  Gd (isB true t8_6) (fun kk => kk m0 w_5) w_5 fun t10_7 w_8 =>
  Gd (isB true t8_6) (fun kk => Pu (binV (TypeDesc.int IntKind.i64) .rem t10_7 (Value.int IntKind.i64 2)) fun vv => kk vv w_8) w_8 fun t11_9 w_10 =>
  Gd (isB true t8_6) (fun kk => Pu (binV (TypeDesc.int IntKind.i64) .eql t11_9 (Value.int IntKind.i64 0)) fun vv => kk vv w_10) w_10 fun t12_11 w_12 =>
  Pu (pickV t8_6 t12_11 (Value.bool false)) fun t13_13 =>
  k t13_13 w_12
theorem e88 (k : KV) (m0 : Value) (w : World) : K KD Try.prog 14 (fun j =>  []) (fun j =>  none) (Try.f88.body.getD .skip) (retQ Try.prog Try.f88 k) (argF [m0]) w = T88 k m0 w := by kernel_rfl
theorem c88 {k : KV} {m0 : Value} {w : World} (h : T88 k m0 w) : Cl Try.prog 88 [m0] w k :=
  Cl_of_K KD_sound mixed Try.func88 (by kernel_rfl) (by kernel_rfl) ((e88 k m0 w).symm ▸ h)

/-- Function 89: almonry/almonryref07.id. -/
def T89 (k : KV) (m0 : Value) (x1 : Value) (w : World) : Prop :=
  Pu (binV (TypeDesc.int IntKind.i64) .geq x1 (Value.int IntKind.i64 1)) fun t6_1 =>
  Gd (isB true t6_1) (fun kk => kk x1 w) w fun t8_2 w_3 =>
  Gd (isB true t6_1) (fun kk => kk m0 w_3) w_3 fun t9_4 w_5 =>
  Gd (isB true t6_1) (fun kk => Pu (binV (TypeDesc.int IntKind.i64) .leq t8_2 t9_4) fun vv => kk vv w_5) w_5 fun t10_6 w_7 =>
  Pu (pickV t6_1 t10_6 (Value.bool false)) fun t11_8 =>
  k t11_8 w_7
theorem e89 (k : KV) (m0 : Value) (x1 : Value) (w : World) : K KD Try.prog 12 (fun j =>  []) (fun j =>  none) (Try.f89.body.getD .skip) (retQ Try.prog Try.f89 k) (argF [m0, x1]) w = T89 k m0 x1 w := by kernel_rfl
theorem c89 {k : KV} {m0 : Value} {x1 : Value} {w : World} (h : T89 k m0 x1 w) : Cl Try.prog 89 [m0, x1] w k :=
  Cl_of_K KD_sound mixed Try.func89 (by kernel_rfl) (by kernel_rfl) ((e89 k m0 x1 w).symm ▸ h)

/-- Function 90: slices.IndexFunc[[]int,int]. -/
def T90 (k : KV) (s0 : Value) (f1 : Value) (w : World) : Prop :=
  Pu (lenV s0) fun t7_1 =>
  ∃ (I_2 : List Value → World → Prop) (m_3 : List Value → World → Nat), I_2 [(Value.int IntKind.i64 0)] w ∧
  ∀ (g_19 : Fr) (w_18 : World), ∀ t8_7 : Value, I_2 [t8_7] w_18 →
    (Pu (binV (TypeDesc.int IntKind.i64) .lss t8_7 t7_1) fun t9_20 =>
    IfB t9_20
      (Pu (ixV 1 s0 t8_7) fun t14_21 =>
    Ld w_18 t14_21 fun t15_22 w_23 =>
    ClV Try.prog f1 [t15_22] w_23 fun t16_24 w_25 =>
    IfB t16_24
      (k t8_7 w_25)
      (Pu (binV (TypeDesc.int IntKind.i64) .add t8_7 (Value.int IntKind.i64 1)) fun t18_26 =>
    I_2 [t18_26] w_25 ∧ m_3 [t18_26] w_25 < m_3 [t8_7] w_18))
      (k (Value.int IntKind.i64 (-1)) w_18))
theorem e90 (k : KV) (s0 : Value) (f1 : Value) (w : World) : K KD Try.prog 19 (fun j => bif Nat.beq j 2 then [8] else []) (fun j =>  none) (Try.f90.body.getD .skip) (retQ Try.prog Try.f90 k) (argF [s0, f1]) w = T90 k s0 f1 w := by kernel_rfl
theorem c90 {k : KV} {s0 : Value} {f1 : Value} {w : World} (h : T90 k s0 f1 w) : Cl Try.prog 90 [s0, f1] w k :=
  Cl_of_K KD_sound mixed Try.func90 (by kernel_rfl) (by kernel_rfl) ((e90 k s0 f1 w).symm ▸ h)

/-- Function 107: almonry/xid.Gap. -/
def T107 (k : KV) (m0 : Value) (fromv1 : Value) (to2 : Value) (w : World) : Prop :=
  RunS Try.prog (Instr.buildSlice 34 2 #[(0, fromv1), (1, to2)]) w fun t10_1 w_2 =>
  Cl Try.prog 108 [m0, t10_1] w_2 fun t11_3 w_4 =>
  Pu (unV .not t11_3) fun t12_5 =>
  IfB t12_5
    (k (Value.int IntKind.i64 0) w_4)
    (Pu (binV (TypeDesc.int IntKind.i64) .sub to2 fromv1) fun t16_6 =>
  Cl Try.prog 109 [m0, t16_6] w_4 fun t17_7 w_8 =>
  k t17_7 w_8)
theorem e107 (k : KV) (m0 : Value) (fromv1 : Value) (to2 : Value) (w : World) : K KD Try.prog 18 (fun j =>  []) (fun j =>  none) (Try.f107.body.getD .skip) (retQ Try.prog Try.f107 k) (argF [m0, fromv1, to2]) w = T107 k m0 fromv1 to2 w := by kernel_rfl
theorem c107 {k : KV} {m0 : Value} {fromv1 : Value} {to2 : Value} {w : World} (h : T107 k m0 fromv1 to2 w) : Cl Try.prog 107 [m0, fromv1, to2] w k :=
  Cl_of_K KD_sound mixed Try.func107 (by kernel_rfl) (by kernel_rfl) ((e107 k m0 fromv1 to2 w).symm ▸ h)

/-- Function 108: almonry/xid.ids. -/
def T108 (k : KV) (m0 : Value) (l1 : Value) (w : World) : Prop :=
  Pu (lenV l1) fun t8_1 =>
  ∃ (I_2 : List Value → World → Prop) (m_3 : List Value → World → Nat), I_2 [(Value.int IntKind.i64 0)] w ∧
  ∀ (g_20 : Fr) (w_19 : World), ∀ t9_7 : Value, I_2 [t9_7] w_19 →
    (Pu (binV (TypeDesc.int IntKind.i64) .lss t9_7 t8_1) fun t10_21 =>
    IfB t10_21
      (Pu (ixV 1 l1 t9_7) fun t11_22 =>
    Ld w_19 t11_22 fun t12_23 w_24 =>
    Pu (binV (TypeDesc.int IntKind.i64) .lss t12_23 (Value.int IntKind.i64 1)) fun t14_25 =>
    Gd (isB false t14_25) (fun kk => kk t12_23 w_24) w_24 fun t16_26 w_27 =>
    Gd (isB false t14_25) (fun kk => kk m0 w_27) w_27 fun t17_28 w_29 =>
    Gd (isB false t14_25) (fun kk => Pu (binV (TypeDesc.int IntKind.i64) .gtr t16_26 t17_28) fun vv => kk vv w_29) w_29 fun t18_30 w_31 =>
    Pu (pickV t14_25 (Value.bool true) t18_30) fun t19_32 =>
    IfB t19_32
      (k (Value.bool false) w_31)
      (Pu (binV (TypeDesc.int IntKind.i64) .add t9_7 (Value.int IntKind.i64 1)) fun t20_33 =>
    I_2 [t20_33] w_31 ∧ m_3 [t20_33] w_31 < m_3 [t9_7] w_19))
      (Cl Try.prog 127 [m0] w_19 fun t22_34 w_35 =>
  k t22_34 w_35))
theorem e108 (k : KV) (m0 : Value) (l1 : Value) (w : World) : K KD Try.prog 23 (fun j => bif Nat.beq j 2 then [9] else []) (fun j =>  none) (Try.f108.body.getD .skip) (retQ Try.prog Try.f108 k) (argF [m0, l1]) w = T108 k m0 l1 w := by kernel_rfl
theorem c108 {k : KV} {m0 : Value} {l1 : Value} {w : World} (h : T108 k m0 l1 w) : Cl Try.prog 108 [m0, l1] w k :=
  Cl_of_K KD_sound mixed Try.func108 (by kernel_rfl) (by kernel_rfl) ((e108 k m0 l1 w).symm ▸ h)

/-- Function 109: almonry/xid.ring. -/
def T109 (k : KV) (m0 : Value) (n1 : Value) (w : World) : Prop :=
  Pu (binV (TypeDesc.int IntKind.i64) .rem n1 m0) fun t7_1 =>
  Pu (binV (TypeDesc.int IntKind.i64) .add t7_1 m0) fun t9_2 =>
  Pu (binV (TypeDesc.int IntKind.i64) .rem t9_2 m0) fun t11_3 =>
  k t11_3 w
theorem e109 (k : KV) (m0 : Value) (n1 : Value) (w : World) : K KD Try.prog 12 (fun j =>  []) (fun j =>  none) (Try.f109.body.getD .skip) (retQ Try.prog Try.f109 k) (argF [m0, n1]) w = T109 k m0 n1 w := by kernel_rfl
theorem c109 {k : KV} {m0 : Value} {n1 : Value} {w : World} (h : T109 k m0 n1 w) : Cl Try.prog 109 [m0, n1] w k :=
  Cl_of_K KD_sound mixed Try.func109 (by kernel_rfl) (by kernel_rfl) ((e109 k m0 n1 w).symm ▸ h)

/-- Function 110: maps.Keys[map[int]int,int,int]$1. -/
def T110 (k : KV) (yield0 : Value) (t1 : Value) (w : World) : Prop :=
  Ld w t1 fun t4_1 w_2 =>
  RunS Try.prog (Instr.range 140 t4_1) w_2 fun t5_3 w_4 =>
  ∃ (I_5 : List Value → World → Prop) (m_6 : List Value → World → Nat), I_5 [] w_4 ∧
  ∀ (g_18 : Fr) (w_17 : World), I_5 [] w_17 →
    (RunS Try.prog (Instr.next t5_3 false 0) w_17 fun t6_19 w_20 =>
    Pu (extV t6_19 0) fun t7_21 =>
    IfB t7_21
      (RunS Try.prog (Instr.entry t5_3) w_20 fun t8_22 w_23 =>
    Pu (extV t8_22 0) fun t9_24 =>
    ClV Try.prog yield0 [t9_24] w_23 fun t12_25 w_26 =>
    Pu (unV .not t12_25) fun t13_27 =>
    IfB t13_27
      (k (.tuple #[]) w_26)
      (I_5 [] w_26 ∧ m_6 [] w_26 < m_6 [] w_17))
      (k (.tuple #[]) w_20))
theorem e110 (k : KV) (yield0 : Value) (t1 : Value) (w : World) : K KD Try.prog 14 (fun j => bif Nat.beq j 1 then [] else []) (fun j =>  none) (Try.f110.body.getD .skip) (retQ Try.prog Try.f110 k) (argF [yield0, t1]) w = T110 k yield0 t1 w := by kernel_rfl
theorem c110 {k : KV} {yield0 : Value} {t1 : Value} {w : World} (h : T110 k yield0 t1 w) : Cl Try.prog 110 [yield0, t1] w k :=
  Cl_of_K KD_sound mixed Try.func110 (by kernel_rfl) (by kernel_rfl) ((e110 k yield0 t1 w).symm ▸ h)

/-- Function 111: almonry/clog.isModulus. -/
def T111 (k : KV) (m0 : Value) (w : World) : Prop :=
  Cl Try.prog 78 [m0, (Value.int IntKind.i64 1), (Value.int IntKind.i64 0)] w fun t4_1 w_2 =>
  Pu (binV (TypeDesc.int IntKind.i64) .eql t4_1 (Value.int IntKind.i64 1)) fun t5_3 =>
  k t5_3 w_2
theorem e111 (k : KV) (m0 : Value) (w : World) : K KD Try.prog 6 (fun j =>  []) (fun j =>  none) (Try.f111.body.getD .skip) (retQ Try.prog Try.f111 k) (argF [m0]) w = T111 k m0 w := by kernel_rfl
theorem c111 {k : KV} {m0 : Value} {w : World} (h : T111 k m0 w) : Cl Try.prog 111 [m0] w k :=
  Cl_of_K KD_sound mixed Try.func111 (by kernel_rfl) (by kernel_rfl) ((e111 k m0 w).symm ▸ h)

/-- Function 127: almonry/xid.modulus. -/
def T127 (k : KV) (m0 : Value) (w : World) : Prop :=
  Pu (binV (TypeDesc.int IntKind.i64) .geq m0 (Value.int IntKind.i64 16)) fun t4_1 =>
  Gd (isB true t4_1) (fun kk => kk m0 w) w fun t6_2 w_3 =>
  Gd (isB true t4_1) (fun kk => Pu (binV (TypeDesc.int IntKind.i64) .leq t6_2 (Value.int IntKind.i64 1024)) fun vv => kk vv w_3) w_3 fun t7_4 w_5 =>
  Pu (pickV t4_1 t7_4 (Value.bool false)) fun t8_6 =>
  Gd (isB true t8_6) (fun kk => kk m0 w_5) w_5 fun t10_7 w_8 =>
  Gd (isB true t8_6) (fun kk => Pu (binV (TypeDesc.int IntKind.i64) .and t10_7 (Value.int IntKind.i64 1)) fun vv => kk vv w_8) w_8 fun t11_9 w_10 =>
  Gd (isB true t8_6) (fun kk => Pu (binV (TypeDesc.int IntKind.i64) .eql t11_9 (Value.int IntKind.i64 0)) fun vv => kk vv w_10) w_10 fun t12_11 w_12 =>
  Pu (pickV t8_6 t12_11 (Value.bool false)) fun t13_13 =>
  k t13_13 w_12
theorem e127 (k : KV) (m0 : Value) (w : World) : K KD Try.prog 14 (fun j =>  []) (fun j =>  none) (Try.f127.body.getD .skip) (retQ Try.prog Try.f127 k) (argF [m0]) w = T127 k m0 w := by kernel_rfl
theorem c127 {k : KV} {m0 : Value} {w : World} (h : T127 k m0 w) : Cl Try.prog 127 [m0] w k :=
  Cl_of_K KD_sound mixed Try.func127 (by kernel_rfl) (by kernel_rfl) ((e127 k m0 w).symm ▸ h)

end Go.Proofs.Ythgdinjgdjiknaa
