import Derived.Test.YtgknklnbcjjlkaaAlDraw2
import Derived.Test.YtgknklnbcjjlkaaRows
namespace Go.Proofs.Ytgknklnbcjjlkaa
open Go.Al Go.Proofs
set_option maxRecDepth 100000
set_option linter.unusedVariables false
set_option linter.unusedSimpArgs false
theorem mixed : Try.prog.follows .mixedOrders = true := by kernel_rfl
/-- Function 3: almonry/almonrylaw13.SpaceApart. -/
def T3 (k : KV) (ops0 : Value) (own1 : Value) (page2 : Value) (w : World) : Prop :=
  Cl Try.prog 12 [] w fun t14_1 w_2 =>
  Pu (binV (TypeDesc.pointer 64) .eql t14_1 (Value.pointer none)) fun t16_3 =>
  IfB t16_3
    (k (Value.bool false) w_2)
    (∃ (I_4 : List Value → World → Prop) (m_5 : List Value → World → Nat), I_4 [(Value.int IntKind.i64 0)] w_2 ∧
  ∀ (g_39 : Fr) (w_38 : World), ∀ i8_7 : Value, I_4 [i8_7] w_38 →
    (Pu (lenV ops0) fun t19_40 =>
    Pu (binV (TypeDesc.int IntKind.i64) .lss i8_7 t19_40) fun t20_41 =>
    IfB t20_41
      (Jn (fun vs_68 w_67 => ∀ g_69 : Fr, vs_68 = [] ∧
        (Pu (binV (TypeDesc.int IntKind.i64) .add i8_7 (Value.int IntKind.i64 1)) fun t22_70 =>
        I_4 [t22_70] w_67 ∧ m_5 [t22_70] w_67 < m_5 [i8_7] w_38))
      (fun jj_42 =>
      Pu (ixV 3 ops0 i8_7) fun t25_71 =>
      Pu (faV 0 t25_71) fun t26_72 =>
      Ld w_38 t26_72 fun t27_73 w_74 =>
      IfB t27_73
        (Pu (ixV 3 ops0 i8_7) fun t31_75 =>
          Pu (faV 1 t31_75) fun t32_76 =>
          Ld w_74 t32_76 fun t33_77 w_78 =>
          Cl Try.prog 13 [t14_1, t33_77] w_78 fun t34_79 w_80 =>
          jj_42 [] w_80)
        (Pu (ixV 3 ops0 i8_7) fun t38_81 =>
          Pu (faV 1 t38_81) fun t39_82 =>
          Ld (World.drew w_74) t39_82 fun t40_83 w_84 =>
          w_84 = (World.drew w_74) ∧
          Pu (ixV 3 ops0 i8_7) fun t43_85 =>
          Pu (faV 2 t43_85) fun t44_86 =>
          Ld (World.drew w_74) t44_86 fun t45_87 w_88 =>
          w_88 = (World.drew w_74) ∧
          Cl Try.prog 14 [t14_1, t40_83, t45_87] (World.drew w_74) fun t46_89 w_90 =>
          jj_42 [] w_90)))
      (Cl Try.prog 15 [t14_1, page2] w_38 fun t50_91 w_92 =>
  Pu (extV t50_91 0) fun t51_93 =>
  Pu (extV t50_91 1) fun t52_94 =>
  ∃ (I_95 : List Value → World → Prop) (m_96 : List Value → World → Nat), I_95 [(Value.int IntKind.i64 0)] w_92 ∧
  ∀ (g_137 : Fr) (w_136 : World), ∀ i11_98 : Value, I_95 [i11_98] w_136 →
    (Pu (lenV own1) fun t55_138 =>
    Pu (binV (TypeDesc.int IntKind.i64) .lss i11_98 t55_138) fun t56_139 =>
    IfB t56_139
      (Jn (fun vs_173 w_172 => ∀ g_174 : Fr, vs_173 = [] ∧
        (Pu (binV (TypeDesc.int IntKind.i64) .add i11_98 (Value.int IntKind.i64 1)) fun t58_175 =>
        I_95 [t58_175] w_172 ∧ m_96 [t58_175] w_172 < m_96 [i11_98] w_136))
      (fun jj_140 =>
      Pu (ixV 3 own1 i11_98) fun t61_176 =>
      Pu (faV 1 t61_176) fun t62_177 =>
      Ld w_136 t62_177 fun t63_178 w_179 =>
      Pu (binV (TypeDesc.int IntKind.i64) .eql t63_178 page2) fun t65_180 =>
      IfB t65_180
        (jj_140 [] w_179)
        (Pu (ixV 3 own1 i11_98) fun t68_181 =>
      Pu (faV 0 t68_181) fun t69_182 =>
      Ld w_179 t69_182 fun t70_183 w_184 =>
      IfB t70_183
        (Pu (ixV 3 own1 i11_98) fun t74_185 =>
          Pu (faV 1 t74_185) fun t75_186 =>
          Ld w_184 t75_186 fun t76_187 w_188 =>
          Cl Try.prog 13 [t14_1, t76_187] w_188 fun t77_189 w_190 =>
          jj_140 [] w_190)
        (Pu (ixV 3 own1 i11_98) fun t81_191 =>
          Pu (faV 1 t81_191) fun t82_192 =>
          Ld (World.drew w_184) t82_192 fun t83_193 w_194 =>
          w_194 = (World.drew w_184) ∧
          Pu (ixV 3 own1 i11_98) fun t86_195 =>
          Pu (faV 2 t86_195) fun t87_196 =>
          Ld (World.drew w_184) t87_196 fun t88_197 w_198 =>
          w_198 = (World.drew w_184) ∧
          Cl Try.prog 14 [t14_1, t83_193, t88_197] (World.drew w_184) fun t89_199 w_200 =>
          jj_140 [] w_200))))
      (Cl Try.prog 15 [t14_1, page2] w_136 fun t93_201 w_202 =>
  Pu (extV t93_201 0) fun t94_203 =>
  Pu (extV t93_201 1) fun t95_204 =>
  Pu (binV (TypeDesc.int IntKind.i64) .eql t51_93 t94_203) fun t98_205 =>
  Gd (isB true t98_205) (fun kk => kk t52_94 w_202) w_202 fun t100_206 w_207 =>
  Gd (isB true t98_205) (fun kk => kk t95_204 w_207) w_207 fun t101_208 w_209 =>
  Gd (isB true t98_205) (fun kk => Pu (binV TypeDesc.bool .eql t100_206 t101_208) fun vv => kk vv w_209) w_209 fun t102_210 w_211 =>
  Pu (pickV t98_205 t102_210 (Value.bool false)) fun t103_212 =>
  Gd (isB true t103_212) (fun kk => Cl Try.prog 16 [] w_211 kk) w_211 fun t105_213 w_214 =>
  Pu (pickV t103_212 t105_213 (Value.bool false)) fun t106_215 =>
  k t106_215 w_214)))))
theorem e3 (k : KV) (ops0 : Value) (own1 : Value) (page2 : Value) (w : World) : K KD Try.prog 107 (fun j => bif Nat.beq j 12 then [11] else bif Nat.beq j 5 then [8] else []) (fun j => bif Nat.beq j 6 then some [] else bif Nat.beq j 13 then some [] else none) (Try.f3.body.getD .skip) (retQ Try.prog Try.f3 k) (argF [ops0, own1, page2]) w = T3 k ops0 own1 page2 w := by kernel_rfl
theorem c3 {k : KV} {ops0 : Value} {own1 : Value} {page2 : Value} {w : World} (h : T3 k ops0 own1 page2 w) : Cl Try.prog 3 [ops0, own1, page2] w k :=
  Cl_of_K KD_sound mixed Try.func3 (by kernel_rfl) (by kernel_rfl) ((e3 k ops0 own1 page2 w).symm ▸ h)

/-- Function 4: almonry/almonrylaw13.SpacePlays. -/
def T4 (k : KV) (ops0 : Value) (ask1 : Value) (w : World) : Prop :=
  Cl Try.prog 12 [] w fun t19_1 w_2 =>
  Cl Try.prog 17 [] w_2 fun t20_3 w_4 =>
  Pu (binV (TypeDesc.pointer 64) .eql t19_1 (Value.pointer none)) fun t22_5 =>
  IfB t22_5
    (k (Value.bool false) w_4)
    (∃ (I_6 : List Value → World → Prop) (m_7 : List Value → World → Nat), I_6 [(Value.int IntKind.i64 0)] w_4 ∧
  ∀ (g_123 : Fr) (w_122 : World), ∀ i7_10 : Value, I_6 [i7_10] w_122 →
    (Pu (lenV ops0) fun t25_124 =>
    Pu (binV (TypeDesc.int IntKind.i64) .lss i7_10 t25_124) fun t26_125 =>
    IfB t26_125
      (Pu (ixV 3 ops0 i7_10) fun t31_126 =>
    LdN 3 w_122 t31_126 fun t32_127 w_128 =>
    New #[(Value.bool false), (Value.int IntKind.i64 0), (Value.int IntKind.i64 0)] 26 w_128 fun x8_129 w_130 =>
    St 3 w_130 x8_129 t32_127 fun u_131 w_132 =>
    Jn (fun vs_157 w_156 => ∀ g_158 : Fr, vs_157 = [] ∧
        (Cl Try.prog 20 [t19_1, ask1] w_156 fun t58_159 w_160 =>
        Pu (extV t58_159 0) fun t59_161 =>
        Pu (extV t58_159 1) fun t60_162 =>
        Cl Try.prog 21 [t20_3, ask1] w_160 fun t64_163 w_164 =>
        Pu (extV t64_163 0) fun t65_165 =>
        Pu (extV t64_163 1) fun t66_166 =>
        Pu (faV 1 x8_129) fun t69_167 =>
        Ld w_164 t69_167 fun t70_168 w_169 =>
        Cl Try.prog 15 [t19_1, t70_168] w_169 fun t71_170 w_171 =>
        Pu (extV t71_170 0) fun t72_172 =>
        Pu (extV t71_170 1) fun t73_173 =>
        Pu (faV 1 x8_129) fun t76_174 =>
        Ld w_171 t76_174 fun t77_175 w_176 =>
        Cl Try.prog 22 [t20_3, t77_175] w_176 fun t78_177 w_178 =>
        Pu (extV t78_177 0) fun t79_179 =>
        Pu (extV t78_177 1) fun t80_180 =>
        Cl Try.prog 23 [t19_1] w_178 fun t82_181 w_182 =>
        Pu (binV (TypeDesc.int IntKind.i64) .neq t59_161 t65_165) fun t85_183 =>
        Gd (isB false t85_183) (fun kk => kk t60_162 w_182) w_182 fun t87_184 w_185 =>
        Gd (isB false t85_183) (fun kk => kk t66_166 w_185) w_185 fun t88_186 w_187 =>
        Gd (isB false t85_183) (fun kk => Pu (binV TypeDesc.bool .neq t87_184 t88_186) fun vv => kk vv w_187) w_187 fun t89_188 w_189 =>
        Pu (pickV t85_183 (Value.bool true) t89_188) fun t90_190 =>
        Gd (isB false t90_190) (fun kk => kk t72_172 w_189) w_189 fun t92_191 w_192 =>
        Gd (isB false t90_190) (fun kk => kk t79_179 w_192) w_192 fun t93_193 w_194 =>
        Gd (isB false t90_190) (fun kk => Pu (binV (TypeDesc.int IntKind.i64) .neq t92_191 t93_193) fun vv => kk vv w_194) w_194 fun t94_195 w_196 =>
        Pu (pickV t90_190 (Value.bool true) t94_195) fun t95_197 =>
        Gd (isB false t95_197) (fun kk => kk t73_173 w_196) w_196 fun t97_198 w_199 =>
        Gd (isB false t95_197) (fun kk => kk t80_180 w_199) w_199 fun t98_200 w_201 =>
        Gd (isB false t95_197) (fun kk => Pu (binV TypeDesc.bool .neq t97_198 t98_200) fun vv => kk vv w_201) w_201 fun t99_202 w_203 =>
        Pu (pickV t95_197 (Value.bool true) t99_202) fun t100_204 =>
        Gd (isB false t100_204) (fun kk => kk t82_181 w_203) w_203 fun t102_205 w_206 =>
        Gd (isB false t100_204) (fun kk => kk t20_3 w_206) w_206 fun t103_207 w_208 =>
        Gd (isB false t100_204) (fun kk => Cl Try.prog 25 [t103_207] w_208 kk) w_208 fun t104_209 w_210 =>
        Gd (isB false t100_204) (fun kk => Cl Try.prog 24 [t102_205, t104_209] w_210 kk) w_210 fun t105_211 w_212 =>
        Gd (isB false t100_204) (fun kk => Pu (unV .not t105_211) fun vv => kk vv w_212) w_212 fun t106_213 w_214 =>
        Pu (pickV t100_204 (Value.bool true) t106_213) fun t107_215 =>
        IfB t107_215
          (k (Value.bool false) w_214)
          (∃ (I_216 : List Value → World → Prop) (m_217 : List Value → World → Nat), I_216 [(Value.int IntKind.i64 0)] w_214 ∧
        ∀ (g_230 : Fr) (w_229 : World), ∀ kv18_219 : Value, I_216 [kv18_219] w_229 →
          (Pu (lenV t82_181) fun t110_231 =>
          Pu (binV (TypeDesc.int IntKind.i64) .lss kv18_219 t110_231) fun t111_232 =>
          IfB t111_232
            (Pu (ixV 1 t82_181 kv18_219) fun t116_233 =>
          St 1 w_229 t116_233 (Value.int IntKind.i64 (-1)) fun u_234 w_235 =>
          Pu (binV (TypeDesc.int IntKind.i64) .add kv18_219 (Value.int IntKind.i64 1)) fun t113_236 =>
          I_216 [t113_236] w_235 ∧ m_217 [t113_236] w_235 < m_217 [kv18_219] w_229)
            (Cl Try.prog 23 [t19_1] w_229 fun t118_237 w_238 =>
        Cl Try.prog 25 [t20_3] w_238 fun t120_239 w_240 =>
        Cl Try.prog 24 [t118_237, t120_239] w_240 fun t121_241 w_242 =>
        Pu (unV .not t121_241) fun t122_243 =>
        IfB t122_243
          (k (Value.bool false) w_242)
          (Pu (binV (TypeDesc.int IntKind.i64) .add i7_10 (Value.int IntKind.i64 1)) fun t28_244 =>
    I_6 [t28_244] w_242 ∧ m_7 [t28_244] w_242 < m_7 [i7_10] w_122))))))
      (fun jj_133 =>
      Pu (faV 0 x8_129) fun t33_245 =>
      Ld w_132 t33_245 fun t34_246 w_247 =>
      IfB t34_246
        (Pu (faV 1 x8_129) fun t36_248 =>
          Ld w_247 t36_248 fun t37_249 w_250 =>
          Cl Try.prog 13 [t19_1, t37_249] w_250 fun t38_251 w_252 =>
          Pu (faV 1 x8_129) fun t40_253 =>
          Ld w_252 t40_253 fun t41_254 w_255 =>
          Cl Try.prog 18 [t20_3, t41_254] w_255 fun t42_256 w_257 =>
          jj_133 [] w_257)
        (Pu (faV 1 x8_129) fun t44_258 =>
          Ld w_247 t44_258 fun t45_259 w_260 =>
          Pu (faV 2 x8_129) fun t46_261 =>
          Ld w_260 t46_261 fun t47_262 w_263 =>
          Cl Try.prog 14 [t19_1, t45_259, t47_262] w_263 fun t48_264 w_265 =>
          Pu (faV 1 x8_129) fun t50_266 =>
          Ld w_265 t50_266 fun t51_267 w_268 =>
          Pu (faV 2 x8_129) fun t52_269 =>
          Ld w_268 t52_269 fun t53_270 w_271 =>
          Cl Try.prog 19 [t20_3, t51_267, t53_270] w_271 fun t54_272 w_273 =>
          jj_133 [] w_273)))
      (Cl Try.prog 16 [] w_122 fun t123_274 w_275 =>
  k t123_274 w_275)))
theorem e4 (k : KV) (ops0 : Value) (ask1 : Value) (w : World) : K KD Try.prog 124 (fun j => bif Nat.beq j 22 then [18] else bif Nat.beq j 6 then [7] else []) (fun j => bif Nat.beq j 14 then some [] else none) (Try.f4.body.getD .skip) (retQ Try.prog Try.f4 k) (argF [ops0, ask1]) w = T4 k ops0 ask1 w := by kernel_rfl
theorem c4 {k : KV} {ops0 : Value} {ask1 : Value} {w : World} (h : T4 k ops0 ask1 w) : Cl Try.prog 4 [ops0, ask1] w k :=
  Cl_of_K KD_sound mixed Try.func4 (by kernel_rfl) (by kernel_rfl) ((e4 k ops0 ask1 w).symm ▸ h)

/-- Function 5: almonry/almonrylaw13.SpaceFinds. -/
def T5 (k : KV) (ops0 : Value) (room1 : Value) (less2 : Value) (w : World) : Prop :=
  Cl Try.prog 12 [] w fun t19_1 w_2 =>
  Pu (binV (TypeDesc.pointer 64) .eql t19_1 (Value.pointer none)) fun t21_3 =>
  IfB t21_3
    (k (Value.bool false) w_2)
    (∃ (I_4 : List Value → World → Prop) (m_5 : List Value → World → Nat), I_4 [(Value.int IntKind.i64 0)] w_2 ∧
  ∀ (g_39 : Fr) (w_38 : World), ∀ i8_7 : Value, I_4 [i8_7] w_38 →
    (Pu (lenV ops0) fun t24_40 =>
    Pu (binV (TypeDesc.int IntKind.i64) .lss i8_7 t24_40) fun t25_41 =>
    IfB t25_41
      (Jn (fun vs_68 w_67 => ∀ g_69 : Fr, vs_68 = [] ∧
        (Pu (binV (TypeDesc.int IntKind.i64) .add i8_7 (Value.int IntKind.i64 1)) fun t27_70 =>
        I_4 [t27_70] w_67 ∧ m_5 [t27_70] w_67 < m_5 [i8_7] w_38))
      (fun jj_42 =>
      Pu (ixV 3 ops0 i8_7) fun t30_71 =>
      Pu (faV 0 t30_71) fun t31_72 =>
      Ld w_38 t31_72 fun t32_73 w_74 =>
      IfB t32_73
        (Pu (ixV 3 ops0 i8_7) fun t36_75 =>
          Pu (faV 1 t36_75) fun t37_76 =>
          Ld w_74 t37_76 fun t38_77 w_78 =>
          Cl Try.prog 13 [t19_1, t38_77] w_78 fun t39_79 w_80 =>
          jj_42 [] w_80)
        (Pu (ixV 3 ops0 i8_7) fun t43_81 =>
          Pu (faV 1 t43_81) fun t44_82 =>
          Ld (World.drew w_74) t44_82 fun t45_83 w_84 =>
          w_84 = (World.drew w_74) ∧
          Pu (ixV 3 ops0 i8_7) fun t48_85 =>
          Pu (faV 2 t48_85) fun t49_86 =>
          Ld (World.drew w_74) t49_86 fun t50_87 w_88 =>
          w_88 = (World.drew w_74) ∧
          Cl Try.prog 14 [t19_1, t45_83, t50_87] (World.drew w_74) fun t51_89 w_90 =>
          jj_42 [] w_90)))
      (Cl Try.prog 20 [t19_1, room1] w_38 fun t55_91 w_92 =>
  Pu (extV t55_91 0) fun t56_93 =>
  Pu (extV t55_91 1) fun t57_94 =>
  Cl Try.prog 23 [t19_1] w_92 fun t59_95 w_96 =>
  ∃ (I_97 : List Value → World → Prop) (m_98 : List Value → World → Nat), I_97 [(Value.int IntKind.i64 0)] w_96 ∧
  ∀ (g_155 : Fr) (w_154 : World), ∀ i12_101 : Value, I_97 [i12_101] w_154 →
    (Pu (lenV t59_95) fun t62_156 =>
    Pu (binV (TypeDesc.int IntKind.i64) .lss i12_101 t62_156) fun t63_157 =>
    IfB t63_157
      (Pu (ixV 1 t59_95 i12_101) fun t70_158 =>
    Ld w_154 t70_158 fun t71_159 w_160 =>
    Cl Try.prog 15 [t19_1, t71_159] w_160 fun t72_161 w_162 =>
    Pu (extV t72_161 0) fun t73_163 =>
    Pu (extV t72_161 1) fun t74_164 =>
    Pu (unV .not t74_164) fun t76_165 =>
    Gd (isB false t76_165) (fun kk => kk i12_101 (World.drew w_162)) (World.drew w_162) fun t78_166 w_167 =>
    Gd (isB false t76_165) (fun kk => Pu (binV (TypeDesc.int IntKind.i64) .gtr t78_166 (Value.int IntKind.i64 0)) fun vv => kk vv w_167) w_167 fun t79_168 w_169 =>
    Gd (isB false t76_165) (fun kk => kk t79_168 w_169) w_169 fun t80_170 w_171 =>
    Gd (isB true t80_170) (fun kk => kk t59_95 w_171) w_171 fun t81_172 w_173 =>
    Gd (isB true t80_170) (fun kk => kk i12_101 w_173) w_173 fun t82_174 w_175 =>
    Gd (isB true t80_170) (fun kk => Pu (ixV 1 t81_172 t82_174) fun vv => kk vv w_175) w_175 fun t83_176 w_177 =>
    Gd (isB true t80_170) (fun kk => Ld w_177 t83_176 kk) w_177 fun t84_178 w_179 =>
    w_179 = w_177 ∧
    Gd (isB true t80_170) (fun kk => kk t59_95 w_177) w_177 fun t85_180 w_181 =>
    Gd (isB true t80_170) (fun kk => kk i12_101 w_181) w_181 fun t86_182 w_183 =>
    Gd (isB true t80_170) (fun kk => Pu (binV (TypeDesc.int IntKind.i64) .sub t86_182 (Value.int IntKind.i64 1)) fun vv => kk vv w_183) w_183 fun t87_184 w_185 =>
    Gd (isB true t80_170) (fun kk => Pu (ixV 1 t85_180 t87_184) fun vv => kk vv w_185) w_185 fun t88_186 w_187 =>
    Gd (isB true t80_170) (fun kk => Ld w_187 t88_186 kk) w_187 fun t89_188 w_189 =>
    w_189 = w_187 ∧
    Gd (isB true t80_170) (fun kk => Pu (binV (TypeDesc.int IntKind.i64) .leq t84_178 t89_188) fun vv => kk vv w_187) w_187 fun t90_190 w_191 =>
    Gd (isB false t76_165) (fun kk => Pu (pickV t80_170 t90_190 (Value.bool false)) fun vv => kk vv w_191) w_191 fun t91_192 w_193 =>
    Pu (pickV t76_165 (Value.bool true) t91_192) fun t92_194 =>
    Gd (isB false t92_194) (fun kk => kk t73_163 w_193) w_193 fun t94_195 w_196 =>
    Gd (isB false t92_194) (fun kk => kk room1 w_196) w_196 fun t95_197 w_198 =>
    Gd (isB false t92_194) (fun kk => Pu (binV (TypeDesc.int IntKind.i64) .geq t94_195 t95_197) fun vv => kk vv w_198) w_198 fun t96_199 w_200 =>
    Gd (isB false t92_194) (fun kk => kk t96_199 w_200) w_200 fun t97_201 w_202 =>
    Gd (isB true t97_201) (fun kk => kk t57_94 w_202) w_202 fun t98_203 w_204 =>
    Gd (isB true t97_201) (fun kk => Pu (unV .not t98_203) fun vv => kk vv w_204) w_204 fun t99_205 w_206 =>
    Gd (isB true t97_201) (fun kk => kk t99_205 w_206) w_206 fun t100_207 w_208 =>
    Gd (isB false t100_207) (fun kk => kk t59_95 w_208) w_208 fun t101_209 w_210 =>
    Gd (isB false t100_207) (fun kk => kk i12_101 w_210) w_210 fun t102_211 w_212 =>
    Gd (isB false t100_207) (fun kk => Pu (ixV 1 t101_209 t102_211) fun vv => kk vv w_212) w_212 fun t103_213 w_214 =>
    Gd (isB false t100_207) (fun kk => Ld w_214 t103_213 kk) w_214 fun t104_215 w_216 =>
    w_216 = w_214 ∧
    Gd (isB false t100_207) (fun kk => kk t56_93 w_214) w_214 fun t105_217 w_218 =>
    Gd (isB false t100_207) (fun kk => Pu (binV (TypeDesc.int IntKind.i64) .lss t104_215 t105_217) fun vv => kk vv w_218) w_218 fun t106_219 w_220 =>
    Gd (isB true t97_201) (fun kk => Pu (pickV t100_207 (Value.bool true) t106_219) fun vv => kk vv w_220) w_220 fun t107_221 w_222 =>
    Gd (isB false t92_194) (fun kk => Pu (pickV t97_201 t107_221 (Value.bool false)) fun vv => kk vv w_222) w_222 fun t108_223 w_224 =>
    Pu (pickV t92_194 (Value.bool true) t108_223) fun t109_225 =>
    IfB t109_225
      (k (Value.bool false) w_224)
      (Pu (binV (TypeDesc.int IntKind.i64) .add i12_101 (Value.int IntKind.i64 1)) fun t65_226 =>
    I_97 [t65_226] w_224 ∧ m_98 [t65_226] w_224 < m_98 [i12_101] w_154))
      (Jn (fun vs_246 w_245 => ∀ g_247 : Fr, vs_246 = [] ∧
      (Pu (foldV0 min2V [less2, room1]) fun t128_248 =>
      Cl Try.prog 20 [t19_1, t128_248] w_245 fun t129_249 w_250 =>
      Pu (extV t129_249 0) fun t130_251 =>
      Pu (extV t129_249 1) fun t131_252 =>
      Pu (unV .not t57_94) fun t133_253 =>
      Gd (isB false t133_253) (fun kk => kk t131_252 w_250) w_250 fun t135_254 w_255 =>
      Gd (isB false t133_253) (fun kk => kk t135_254 w_255) w_255 fun t136_256 w_257 =>
      Gd (isB true t136_256) (fun kk => kk t130_251 w_257) w_257 fun t137_258 w_259 =>
      Gd (isB true t136_256) (fun kk => kk t56_93 w_259) w_259 fun t138_260 w_261 =>
      Gd (isB true t136_256) (fun kk => Pu (binV (TypeDesc.int IntKind.i64) .leq t137_258 t138_260) fun vv => kk vv w_261) w_261 fun t139_262 w_263 =>
      Gd (isB false t133_253) (fun kk => Pu (pickV t136_256 t139_262 (Value.bool false)) fun vv => kk vv w_263) w_263 fun t140_264 w_265 =>
      Pu (pickV t133_253 (Value.bool true) t140_264) fun t141_266 =>
      Gd (isB true t141_266) (fun kk => Cl Try.prog 16 [] w_265 kk) w_265 fun t143_267 w_268 =>
      Pu (pickV t141_266 t143_267 (Value.bool false)) fun t144_269 =>
      k t144_269 w_268))
    (fun jj_227 =>
    IfB t57_94
      (Cl Try.prog 15 [t19_1, t56_93] w_154 fun t114_270 w_271 =>
        Pu (extV t114_270 0) fun t115_272 =>
        Pu (extV t114_270 1) fun t116_273 =>
        Pu (unV .not t116_273) fun t118_274 =>
        Gd (isB false t118_274) (fun kk => kk t115_272 w_271) w_271 fun t120_275 w_276 =>
        Gd (isB false t118_274) (fun kk => kk room1 w_276) w_276 fun t121_277 w_278 =>
        Gd (isB false t118_274) (fun kk => Pu (binV (TypeDesc.int IntKind.i64) .lss t120_275 t121_277) fun vv => kk vv w_278) w_278 fun t122_279 w_280 =>
        Pu (pickV t118_274 (Value.bool true) t122_279) fun t123_281 =>
        IfB t123_281
          (k (Value.bool false) w_280)
          (jj_227 [] w_280))
      (jj_227 [] w_154)))))))
theorem e5 (k : KV) (ops0 : Value) (room1 : Value) (less2 : Value) (w : World) : K KD Try.prog 145 (fun j => bif Nat.beq j 13 then [12] else bif Nat.beq j 5 then [8] else []) (fun j => bif Nat.beq j 6 then some [] else bif Nat.beq j 22 then some [] else none) (Try.f5.body.getD .skip) (retQ Try.prog Try.f5 k) (argF [ops0, room1, less2]) w = T5 k ops0 room1 less2 w := by kernel_rfl
theorem c5 {k : KV} {ops0 : Value} {room1 : Value} {less2 : Value} {w : World} (h : T5 k ops0 room1 less2 w) : Cl Try.prog 5 [ops0, room1, less2] w k :=
  Cl_of_K KD_sound mixed Try.func5 (by kernel_rfl) (by kernel_rfl) ((e5 k ops0 room1 less2 w).symm ▸ h)

/-- Function 6: almonry/almonrylaw13.SpaceNil. -/
def T6 (k : KV) (n0 : Value) (w : World) : Prop :=
  Cl Try.prog 14 [(Value.pointer none), n0, n0] w fun t11_1 w_2 =>
  Cl Try.prog 13 [(Value.pointer none), n0] w_2 fun t14_3 w_4 =>
  Cl Try.prog 15 [(Value.pointer none), n0] w_4 fun t18_5 w_6 =>
  Pu (extV t18_5 0) fun t19_7 =>
  Pu (extV t18_5 1) fun t20_8 =>
  Cl Try.prog 20 [(Value.pointer none), n0] w_6 fun t24_9 w_10 =>
  Pu (extV t24_9 0) fun t25_11 =>
  Pu (extV t24_9 1) fun t26_12 =>
  Pu (unV .not t20_8) fun t28_13 =>
  Gd (isB true t28_13) (fun kk => kk t26_12 w_10) w_10 fun t30_14 w_15 =>
  Gd (isB true t28_13) (fun kk => Pu (unV .not t30_14) fun vv => kk vv w_15) w_15 fun t31_16 w_17 =>
  Pu (pickV t28_13 t31_16 (Value.bool false)) fun t32_18 =>
  Gd (isB true t32_18) (fun kk => kk (Value.pointer none) w_17) w_17 fun t34_19 w_20 =>
  Gd (isB true t32_18) (fun kk => Cl Try.prog 23 [t34_19] w_20 kk) w_20 fun t35_21 w_22 =>
  Gd (isB true t32_18) (fun kk => Pu (lenV t35_21) fun vv => kk vv w_22) w_22 fun t36_23 w_24 =>
  Gd (isB true t32_18) (fun kk => Pu (binV (TypeDesc.int IntKind.i64) .eql t36_23 (Value.int IntKind.i64 0)) fun vv => kk vv w_24) w_24 fun t37_25 w_26 =>
  Pu (pickV t32_18 t37_25 (Value.bool false)) fun t38_27 =>
  Gd (isB true t38_27) (fun kk => Cl Try.prog 16 [] w_26 kk) w_26 fun t40_28 w_29 =>
  Pu (pickV t38_27 t40_28 (Value.bool false)) fun t41_30 =>
  k t41_30 w_29
theorem e6 (k : KV) (n0 : Value) (w : World) : K KD Try.prog 42 (fun j =>  []) (fun j =>  none) (Try.f6.body.getD .skip) (retQ Try.prog Try.f6 k) (argF [n0]) w = T6 k n0 w := by kernel_rfl
theorem c6 {k : KV} {n0 : Value} {w : World} (h : T6 k n0 w) : Cl Try.prog 6 [n0] w k :=
  Cl_of_K KD_sound mixed Try.func6 (by kernel_rfl) (by kernel_rfl) ((e6 k n0 w).symm ▸ h)

/-- Function 7: almonry/almonrylaw10.LocksOne. -/
def T7 (k : KV) (ops0 : Value) (w : World) : Prop :=
  Cl Try.prog 26 [] w fun t14_1 w_2 =>
  Pu (binV (TypeDesc.pointer 77) .eql t14_1 (Value.pointer none)) fun t16_3 =>
  IfB t16_3
    (k (Value.bool false) w_2)
    (∃ (I_4 : List Value → World → Prop) (m_5 : List Value → World → Nat), I_4 [(Value.int IntKind.i64 0)] w_2 ∧
  ∀ (g_113 : Fr) (w_112 : World), ∀ i4_8 : Value, I_4 [i4_8] w_112 →
    (Pu (lenV ops0) fun t19_114 =>
    Pu (binV (TypeDesc.int IntKind.i64) .lss i4_8 t19_114) fun t20_115 =>
    IfB t20_115
      (Jn (fun vs_216 w_215 => ∀ g_217 : Fr, vs_216 = [] ∧
        (Pu (binV (TypeDesc.int IntKind.i64) .add i4_8 (Value.int IntKind.i64 1)) fun t22_218 =>
        I_4 [t22_218] w_215 ∧ m_5 [t22_218] w_215 < m_5 [i4_8] w_112))
      (fun jj_116 =>
      Pu (ixV 3 ops0 i4_8) fun t25_219 =>
      LdN 3 w_112 t25_219 fun t26_220 w_221 =>
      New #[(Value.bool false), (Value.int IntKind.i64 0), (Value.string (ByteArray.mk #[]))] 45 w_221 fun x5_222 w_223 =>
      St 3 w_223 x5_222 t26_220 fun u_224 w_225 =>
      Pu (faV 2 x5_222) fun t29_226 =>
      Ld w_225 t29_226 fun t30_227 w_228 =>
      Cl Try.prog 27 [t14_1, t30_227] w_228 fun t31_229 w_230 =>
      Pu (extV t31_229 0) fun t32_231 =>
      Pu (extV t31_229 1) fun t33_232 =>
      Pu (faV 0 x5_222) fun t34_233 =>
      Ld w_230 t34_233 fun t35_234 w_235 =>
      IfB t35_234
        (Pu (faV 1 x5_222) fun t37_236 =>
          Ld w_235 t37_236 fun t38_237 w_238 =>
          Cl Try.prog 28 [t14_1, t38_237] w_238 fun t39_239 w_240 =>
          Pu (faV 2 x5_222) fun t42_241 =>
          Ld w_240 t42_241 fun t43_242 w_243 =>
          Cl Try.prog 27 [t14_1, t43_242] w_243 fun t44_244 w_245 =>
          Pu (extV t44_244 0) fun t45_246 =>
          Pu (extV t44_244 1) fun t46_247 =>
          Gd (isB true t33_232) (fun kk => kk t32_231 w_245) w_245 fun t50_248 w_249 =>
          Gd (isB true t33_232) (fun kk => Pu (faV 1 x5_222) fun vv => kk vv w_249) w_249 fun t51_250 w_251 =>
          Gd (isB true t33_232) (fun kk => Ld w_251 t51_250 kk) w_251 fun t52_252 w_253 =>
          Gd (isB true t33_232) (fun kk => Pu (binV (TypeDesc.int IntKind.i64) .neq t50_248 t52_252) fun vv => kk vv w_253) w_253 fun t53_254 w_255 =>
          Pu (pickV t33_232 t53_254 (Value.bool false)) fun t54_256 =>
          Pu (binV TypeDesc.bool .neq t46_247 t54_256) fun t55_257 =>
          IfB t55_257
            (k (Value.bool false) w_255)
            (jj_116 [] w_255))
        (Pu (faV 1 x5_222) fun t58_258 =>
      Ld w_235 t58_258 fun t59_259 w_260 =>
      Pu (faV 2 x5_222) fun t60_261 =>
      Ld w_260 t60_261 fun t61_262 w_263 =>
      Cl Try.prog 29 [t14_1, t59_259, t61_262] w_263 fun t62_264 w_265 =>
      Pu (extV t62_264 0) fun t63_266 =>
      Pu (extV t62_264 1) fun t64_267 =>
      Pu (faV 2 x5_222) fun t67_268 =>
      Ld w_265 t67_268 fun t68_269 w_270 =>
      Cl Try.prog 27 [t14_1, t68_269] w_270 fun t69_271 w_272 =>
      Pu (extV t69_271 0) fun t70_273 =>
      Pu (extV t69_271 1) fun t71_274 =>
      Pu (unV .not t33_232) fun t74_275 =>
      Gd (isB false t74_275) (fun kk => kk t32_231 w_272) w_272 fun t76_276 w_277 =>
      Gd (isB false t74_275) (fun kk => Pu (faV 1 x5_222) fun vv => kk vv w_277) w_277 fun t77_278 w_279 =>
      Gd (isB false t74_275) (fun kk => Ld w_279 t77_278 kk) w_279 fun t78_280 w_281 =>
      Gd (isB false t74_275) (fun kk => Pu (binV (TypeDesc.int IntKind.i64) .eql t76_276 t78_280) fun vv => kk vv w_281) w_281 fun t79_282 w_283 =>
      Pu (pickV t74_275 (Value.bool true) t79_282) fun t80_284 =>
      Pu (binV TypeDesc.bool .neq t63_266 t80_284) fun t81_285 =>
      Gd (isB false t81_285) (fun kk => kk t63_266 w_283) w_283 fun t83_286 w_287 =>
      Gd (isB false t81_285) (fun kk => kk t83_286 w_287) w_287 fun t84_288 w_289 =>
      Gd (isB true t84_288) (fun kk => kk t64_267 w_289) w_289 fun t85_290 w_291 =>
      Gd (isB true t84_288) (fun kk => Pu (binV (TypeDesc.int IntKind.i64) .neq t85_290 (Value.int IntKind.i64 0)) fun vv => kk vv w_291) w_291 fun t86_292 w_293 =>
      Gd (isB false t81_285) (fun kk => Pu (pickV t84_288 t86_292 (Value.bool false)) fun vv => kk vv w_293) w_293 fun t87_294 w_295 =>
      Pu (pickV t81_285 (Value.bool true) t87_294) fun t88_296 =>
      Gd (isB false t88_296) (fun kk => kk t71_274 w_295) w_295 fun t90_297 w_298 =>
      Gd (isB false t88_296) (fun kk => Pu (unV .not t90_297) fun vv => kk vv w_298) w_298 fun t91_299 w_300 =>
      Pu (pickV t88_296 (Value.bool true) t91_299) fun t92_301 =>
      Gd (isB false t92_301) (fun kk => kk t33_232 w_300) w_300 fun t94_302 w_303 =>
      Gd (isB false t92_301) (fun kk => kk t94_302 w_303) w_303 fun t95_304 w_305 =>
      Gd (isB true t95_304) (fun kk => kk t70_273 w_305) w_305 fun t96_306 w_307 =>
      Gd (isB true t95_304) (fun kk => kk t32_231 w_307) w_307 fun t97_308 w_309 =>
      Gd (isB true t95_304) (fun kk => Pu (binV (TypeDesc.int IntKind.i64) .neq t96_306 t97_308) fun vv => kk vv w_309) w_309 fun t98_310 w_311 =>
      Gd (isB false t92_301) (fun kk => Pu (pickV t95_304 t98_310 (Value.bool false)) fun vv => kk vv w_311) w_311 fun t99_312 w_313 =>
      Pu (pickV t92_301 (Value.bool true) t99_312) fun t100_314 =>
      Gd (isB false t100_314) (fun kk => kk t33_232 w_313) w_313 fun t102_315 w_316 =>
      Gd (isB false t100_314) (fun kk => Pu (unV .not t102_315) fun vv => kk vv w_316) w_316 fun t103_317 w_318 =>
      Gd (isB false t100_314) (fun kk => kk t103_317 w_318) w_318 fun t104_319 w_320 =>
      Gd (isB true t104_319) (fun kk => kk t70_273 w_320) w_320 fun t105_321 w_322 =>
      Gd (isB true t104_319) (fun kk => Pu (faV 1 x5_222) fun vv => kk vv w_322) w_322 fun t106_323 w_324 =>
      Gd (isB true t104_319) (fun kk => Ld w_324 t106_323 kk) w_324 fun t107_325 w_326 =>
      Gd (isB true t104_319) (fun kk => Pu (binV (TypeDesc.int IntKind.i64) .neq t105_321 t107_325) fun vv => kk vv w_326) w_326 fun t108_327 w_328 =>
      Gd (isB false t100_314) (fun kk => Pu (pickV t104_319 t108_327 (Value.bool false)) fun vv => kk vv w_328) w_328 fun t109_329 w_330 =>
      Pu (pickV t100_314 (Value.bool true) t109_329) fun t110_331 =>
      IfB t110_331
        (k (Value.bool false) w_330)
        (jj_116 [] w_330))))
      (Cl Try.prog 30 [] w_112 fun t111_332 w_333 =>
  k t111_332 w_333)))
theorem e7 (k : KV) (ops0 : Value) (w : World) : K KD Try.prog 112 (fun j => bif Nat.beq j 5 then [4] else []) (fun j => bif Nat.beq j 6 then some [] else none) (Try.f7.body.getD .skip) (retQ Try.prog Try.f7 k) (argF [ops0]) w = T7 k ops0 w := by kernel_rfl
theorem c7 {k : KV} {ops0 : Value} {w : World} (h : T7 k ops0 w) : Cl Try.prog 7 [ops0] w k :=
  Cl_of_K KD_sound mixed Try.func7 (by kernel_rfl) (by kernel_rfl) ((e7 k ops0 w).symm ▸ h)

/-- Function 8: almonry/almonrylaw10.LocksPlays. -/
def T8 (k : KV) (ops0 : Value) (w : World) : Prop :=
  Cl Try.prog 26 [] w fun t21_1 w_2 =>
  Pu (binV (TypeDesc.pointer 77) .eql t21_1 (Value.pointer none)) fun t23_3 =>
  IfB t23_3
    (k (Value.bool false) w_2)
    (New #[(Value.slice none 0 0), (Value.slice none 0 0)] 54 w_2 fun r4_4 w_5 =>
  ∃ (I_6 : List Value → World → Prop) (m_7 : List Value → World → Nat), I_6 [(Value.int IntKind.i64 0)] w_5 ∧
  ∀ (g_157 : Fr) (w_156 : World), ∀ i5_10 : Value, I_6 [i5_10] w_156 →
    (Pu (lenV ops0) fun t26_158 =>
    Pu (binV (TypeDesc.int IntKind.i64) .lss i5_10 t26_158) fun t27_159 =>
    IfB t27_159
      (Pu (ixV 3 ops0 i5_10) fun t32_160 =>
    LdN 3 w_156 t32_160 fun t33_161 w_162 =>
    New #[(Value.bool false), (Value.int IntKind.i64 0), (Value.string (ByteArray.mk #[]))] 45 w_162 fun x6_163 w_164 =>
    St 3 w_164 x6_163 t33_161 fun u_165 w_166 =>
    Jn (fun vs_210 w_209 => ∀ g_211 : Fr, vs_210 = [] ∧
        (Pu (faV 2 x6_163) fun t72_212 =>
        Ld w_209 t72_212 fun t73_213 w_214 =>
        Cl Try.prog 27 [t21_1, t73_213] w_214 fun t74_215 w_216 =>
        Pu (extV t74_215 0) fun t75_217 =>
        Pu (extV t74_215 1) fun t76_218 =>
        Pu (faV 2 x6_163) fun t78_219 =>
        Ld w_216 t78_219 fun t79_220 w_221 =>
        Cl Try.prog 33 [r4_4, t79_220] w_221 fun t80_222 w_223 =>
        Pu (extV t80_222 0) fun t81_224 =>
        Pu (extV t80_222 1) fun t82_225 =>
        Pu (faV 1 x6_163) fun t85_226 =>
        Ld w_223 t85_226 fun t86_227 w_228 =>
        Cl Try.prog 34 [t21_1, t86_227] w_228 fun t87_229 w_230 =>
        Pu (extV t87_229 0) fun t88_231 =>
        Pu (extV t87_229 1) fun t89_232 =>
        Pu (faV 1 x6_163) fun t91_233 =>
        Ld w_230 t91_233 fun t92_234 w_235 =>
        Cl Try.prog 35 [r4_4, t92_234] w_235 fun t93_236 w_237 =>
        Pu (extV t93_236 0) fun t94_238 =>
        Pu (extV t93_236 1) fun t95_239 =>
        ∃ C_240 : World → Prop, C_240 (World.drew w_237) ∧
        (Pu (binV (TypeDesc.int IntKind.i64) .neq t75_217 t81_224) fun t98_241 =>
        Gd (isB false t98_241) (fun kk => kk t76_218 (World.drew w_237)) (World.drew w_237) fun t100_242 w_243 =>
        Gd (isB false t98_241) (fun kk => kk t82_225 w_243) w_243 fun t101_244 w_245 =>
        Gd (isB false t98_241) (fun kk => Pu (binV TypeDesc.bool .neq t100_242 t101_244) fun vv => kk vv w_245) w_245 fun t102_246 w_247 =>
        Pu (pickV t98_241 (Value.bool true) t102_246) fun t103_248 =>
        Gd (isB false t103_248) (fun kk => kk t88_231 w_247) w_247 fun t105_249 w_250 =>
        Gd (isB false t103_248) (fun kk => kk t94_238 w_250) w_250 fun t106_251 w_252 =>
        Gd (isB false t103_248) (fun kk => Pu (binV TypeDesc.string .neq t105_249 t106_251) fun vv => kk vv w_252) w_252 fun t107_253 w_254 =>
        Pu (pickV t103_248 (Value.bool true) t107_253) fun t108_255 =>
        Gd (isB false t108_255) (fun kk => kk t89_232 w_254) w_254 fun t110_256 w_257 =>
        Gd (isB false t108_255) (fun kk => kk t95_239 w_257) w_257 fun t111_258 w_259 =>
        Gd (isB false t108_255) (fun kk => Pu (binV TypeDesc.bool .neq t110_256 t111_258) fun vv => kk vv w_259) w_259 fun t112_260 w_261 =>
        Pu (pickV t108_255 (Value.bool true) t112_260) fun t113_262 =>
        Gd (isB false t113_262) (fun kk => kk t21_1 w_261) w_261 fun t115_263 w_264 =>
        Gd (isB false t113_262) (fun kk => Pu (faV 1 x6_163) fun vv => kk vv w_264) w_264 fun t116_265 w_266 =>
        Gd (isB false t113_262) (fun kk => Ld w_266 t116_265 kk) w_266 fun t117_267 w_268 =>
        w_268 = w_266 ∧
        Gd (isB false t113_262) (fun kk => Pu (faV 1 x6_163) fun vv => kk vv w_266) w_266 fun t119_269 w_270 =>
        ∃ t120_271, (∀ w_272, C_240 w_272 → Gd (isB false t113_262) (fun kk => Ld w_272 t119_269 kk) w_272 fun t120_273 w_274 =>
        t120_273 = t120_271 ∧ w_274 = w_272) ∧
        (Gd (isB false t113_262) (fun kk => Cl Try.prog 37 [t115_263, t117_267] w_270 kk) w_270 fun t118_275 w_276 =>
        C_240 w_276 ∧
        (Gd (isB false t113_262) (fun kk => Cl Try.prog 38 [r4_4, t120_271] w_276 kk) w_276 fun t121_277 w_278 =>
        C_240 w_278 ∧
        (Gd (isB false t113_262) (fun kk => Cl Try.prog 36 [t118_275, t121_277] w_278 kk) w_278 fun t122_279 w_280 =>
        C_240 w_280 ∧
        (Gd (isB false t113_262) (fun kk => Pu (unV .not t122_279) fun vv => kk vv w_280) w_280 fun t123_281 w_282 =>
        Pu (pickV t113_262 (Value.bool true) t123_281) fun t124_283 =>
        Gd (isB false t124_283) (fun kk => kk t21_1 w_282) w_282 fun t126_284 w_285 =>
        Gd (isB false t124_283) (fun kk => Cl Try.prog 39 [t126_284] w_285 kk) w_285 fun t127_286 w_287 =>
        C_240 w_287 ∧
        (Gd (isB false t124_283) (fun kk => Cl Try.prog 40 [r4_4] w_287 kk) w_287 fun t128_288 w_289 =>
        C_240 w_289 ∧
        (Gd (isB false t124_283) (fun kk => Cl Try.prog 24 [t127_286, t128_288] w_289 kk) w_289 fun t129_290 w_291 =>
        C_240 w_291 ∧
        (Gd (isB false t124_283) (fun kk => Pu (unV .not t129_290) fun vv => kk vv w_291) w_291 fun t130_292 w_293 =>
        Pu (pickV t124_283 (Value.bool true) t130_292) fun t131_294 =>
        IfB t131_294
          (k (Value.bool false) w_293)
          (Pu (faV 1 x6_163) fun t133_295 =>
        Ld w_293 t133_295 fun t134_296 w_297 =>
        Cl Try.prog 37 [t21_1, t134_296] w_297 fun t135_298 w_299 =>
        ∃ (I_300 : List Value → World → Prop) (m_301 : List Value → World → Nat), I_300 [(Value.int IntKind.i64 0)] w_299 ∧
        ∀ (g_314 : Fr) (w_313 : World), ∀ j20_303 : Value, I_300 [j20_303] w_313 →
          (Pu (lenV t135_298) fun t138_315 =>
          Pu (binV (TypeDesc.int IntKind.i64) .lss j20_303 t138_315) fun t139_316 =>
          IfB t139_316
            (Pu (ixV 1 t135_298 j20_303) fun t144_317 =>
          St 1 w_313 t144_317 (Value.string (ByteArray.mk #[110, 111])) fun u_318 w_319 =>
          Pu (binV (TypeDesc.int IntKind.i64) .add j20_303 (Value.int IntKind.i64 1)) fun t141_320 =>
          I_300 [t141_320] w_319 ∧ m_301 [t141_320] w_319 < m_301 [j20_303] w_313)
            (∃ C_321 : World → Prop, C_321 (World.drew w_313) ∧
        (Pu (faV 1 x6_163) fun t146_322 =>
        Ld (World.drew w_313) t146_322 fun t147_323 w_324 =>
        w_324 = (World.drew w_313) ∧
        Pu (faV 1 x6_163) fun t149_325 =>
        ∃ t150_326, (∀ w_327, C_321 w_327 → Ld w_327 t149_325 fun t150_328 w_329 =>
        t150_328 = t150_326 ∧ w_329 = w_327) ∧
        (Cl Try.prog 37 [t21_1, t147_323] (World.drew w_313) fun t148_330 w_331 =>
        C_321 w_331 ∧
        (Cl Try.prog 38 [r4_4, t150_326] w_331 fun t151_332 w_333 =>
        C_321 w_333 ∧
        (Cl Try.prog 36 [t148_330, t151_332] w_333 fun t152_334 w_335 =>
        C_321 w_335 ∧
        (Pu (unV .not t152_334) fun t153_336 =>
        IfB t153_336
          (k (Value.bool false) w_335)
          (Pu (binV (TypeDesc.int IntKind.i64) .add i5_10 (Value.int IntKind.i64 1)) fun t29_337 =>
    I_6 [t29_337] w_335 ∧ m_7 [t29_337] w_335 < m_7 [i5_10] w_156)))))))))))))))))))
      (fun jj_167 =>
      Pu (faV 0 x6_163) fun t34_338 =>
      Ld w_166 t34_338 fun t35_339 w_340 =>
      IfB t35_339
        (∃ C_341 : World → Prop, C_341 (World.drew w_340) ∧
          (Pu (faV 1 x6_163) fun t37_342 =>
          Ld (World.drew w_340) t37_342 fun t38_343 w_344 =>
          w_344 = (World.drew w_340) ∧
          Pu (faV 1 x6_163) fun t40_345 =>
          ∃ t41_346, (∀ w_347, C_341 w_347 → Ld w_347 t40_345 fun t41_348 w_349 =>
          t41_348 = t41_346 ∧ w_349 = w_347) ∧
          (Cl Try.prog 28 [t21_1, t38_343] (World.drew w_340) fun t39_350 w_351 =>
          C_341 w_351 ∧
          (Cl Try.prog 31 [r4_4, t41_346] w_351 fun t42_352 w_353 =>
          C_341 w_353 ∧
          (Cl Try.prog 24 [t39_350, t42_352] w_353 fun t43_354 w_355 =>
          C_341 w_355 ∧
          (Pu (unV .not t43_354) fun t44_356 =>
          IfB t44_356
            (k (Value.bool false) w_355)
            (jj_167 [] w_355)))))))
        (Pu (faV 1 x6_163) fun t47_357 =>
          Ld w_340 t47_357 fun t48_358 w_359 =>
          Pu (faV 2 x6_163) fun t49_360 =>
          Ld w_359 t49_360 fun t50_361 w_362 =>
          Cl Try.prog 29 [t21_1, t48_358, t50_361] w_362 fun t51_363 w_364 =>
          Pu (extV t51_363 0) fun t52_365 =>
          Pu (extV t51_363 1) fun t53_366 =>
          Pu (faV 1 x6_163) fun t55_367 =>
          Ld w_364 t55_367 fun t56_368 w_369 =>
          Pu (faV 2 x6_163) fun t57_370 =>
          Ld w_369 t57_370 fun t58_371 w_372 =>
          Cl Try.prog 32 [r4_4, t56_368, t58_371] w_372 fun t59_373 w_374 =>
          Pu (extV t59_373 0) fun t60_375 =>
          Pu (extV t59_373 1) fun t61_376 =>
          Pu (binV TypeDesc.bool .neq t52_365 t60_375) fun t64_377 =>
          Gd (isB false t64_377) (fun kk => kk t53_366 w_374) w_374 fun t66_378 w_379 =>
          Gd (isB false t64_377) (fun kk => kk t61_376 w_379) w_379 fun t67_380 w_381 =>
          Gd (isB false t64_377) (fun kk => Pu (binV (TypeDesc.int IntKind.i64) .neq t66_378 t67_380) fun vv => kk vv w_381) w_381 fun t68_382 w_383 =>
          Pu (pickV t64_377 (Value.bool true) t68_382) fun t69_384 =>
          IfB t69_384
            (k (Value.bool false) w_383)
            (jj_167 [] w_383))))
      (Cl Try.prog 30 [] w_156 fun t154_385 w_386 =>
  k t154_385 w_386)))
theorem e8 (k : KV) (ops0 : Value) (w : World) : K KD Try.prog 155 (fun j => bif Nat.beq j 24 then [20] else bif Nat.beq j 6 then [5] else []) (fun j => bif Nat.beq j 16 then some [] else none) (Try.f8.body.getD .skip) (retQ Try.prog Try.f8 k) (argF [ops0]) w = T8 k ops0 w := by kernel_rfl
theorem c8 {k : KV} {ops0 : Value} {w : World} (h : T8 k ops0 w) : Cl Try.prog 8 [ops0] w k :=
  Cl_of_K KD_sound mixed Try.func8 (by kernel_rfl) (by kernel_rfl) ((e8 k ops0 w).symm ▸ h)

/-- Function 9: almonry/almonrylaw10.LocksRing. -/
def T9 (k : KV) (ops0 : Value) (w : World) : Prop :=
  Cl Try.prog 26 [] w fun t13_1 w_2 =>
  Pu (binV (TypeDesc.pointer 77) .eql t13_1 (Value.pointer none)) fun t15_3 =>
  IfB t15_3
    (k (Value.bool false) w_2)
    (∃ (I_4 : List Value → World → Prop) (m_5 : List Value → World → Nat), I_4 [(Value.int IntKind.i64 0)] w_2 ∧
  ∀ (g_98 : Fr) (w_97 : World), ∀ i4_8 : Value, I_4 [i4_8] w_97 →
    (Pu (lenV ops0) fun t18_99 =>
    Pu (binV (TypeDesc.int IntKind.i64) .lss i4_8 t18_99) fun t19_100 =>
    IfB t19_100
      (Jn (fun vs_127 w_126 => ∀ g_128 : Fr, vs_127 = [] ∧
        (Cl Try.prog 39 [t13_1] w_126 fun t47_129 w_130 =>
        ∃ (I_131 : List Value → World → Prop) (m_132 : List Value → World → Nat), I_131 [(Value.int IntKind.i64 0)] w_130 ∧
        ∀ (g_191 : Fr) (w_190 : World), ∀ kv6_135 : Value, I_131 [kv6_135] w_190 →
          (Pu (lenV t47_129) fun t50_192 =>
          Pu (binV (TypeDesc.int IntKind.i64) .lss kv6_135 t50_192) fun t51_193 =>
          IfB t51_193
            (Pu (ixV 1 t47_129 kv6_135) fun t56_194 =>
          Ld w_190 t56_194 fun t57_195 w_196 =>
          ∃ (I_197 : List Value → World → Prop) (m_198 : List Value → World → Nat), I_197 [t57_195, (Value.int IntKind.i64 0)] w_196 ∧
          ∀ (g_241 : Fr) (w_240 : World), ∀ atv7_201 : Value, ∀ n8_202 : Value, I_197 [atv7_201, n8_202] w_240 →
            (Cl Try.prog 34 [t13_1, atv7_201] w_240 fun t63_242 w_243 =>
            Pu (extV t63_242 0) fun t64_244 =>
            Pu (extV t63_242 1) fun t65_245 =>
            Pu (unV .not t65_245) fun t67_246 =>
            IfB t67_246
              (Cl Try.prog 37 [t13_1, atv7_201] w_243 fun t93_247 w_248 =>
          Pu (lenV t93_247) fun t94_249 =>
          Pu (binV (TypeDesc.int IntKind.i64) .eql t94_249 (Value.int IntKind.i64 0)) fun t95_250 =>
          IfB t95_250
            (k (Value.bool false) w_248)
            (Pu (binV (TypeDesc.int IntKind.i64) .add kv6_135 (Value.int IntKind.i64 1)) fun t53_251 =>
          I_131 [t53_251] w_248 ∧ m_132 [t53_251] w_248 < m_132 [kv6_135] w_190))
              (Cl Try.prog 27 [t13_1, t64_244] w_243 fun t71_252 w_253 =>
            Pu (extV t71_252 0) fun t72_254 =>
            Pu (extV t71_252 1) fun t73_255 =>
            Pu (unV .not t73_255) fun t75_256 =>
            Gd (isB false t75_256) (fun kk => kk t72_254 w_253) w_253 fun t77_257 w_258 =>
            Gd (isB false t75_256) (fun kk => kk t47_129 w_258) w_258 fun t78_259 w_260 =>
            Gd (isB false t75_256) (fun kk => kk kv6_135 w_260) w_260 fun t79_261 w_262 =>
            Gd (isB false t75_256) (fun kk => Pu (ixV 1 t78_259 t79_261) fun vv => kk vv w_262) w_262 fun t80_263 w_264 =>
            Gd (isB false t75_256) (fun kk => Ld w_264 t80_263 kk) w_264 fun t81_265 w_266 =>
            Gd (isB false t75_256) (fun kk => Pu (binV (TypeDesc.int IntKind.i64) .eql t77_257 t81_265) fun vv => kk vv w_266) w_266 fun t82_267 w_268 =>
            Pu (pickV t75_256 (Value.bool true) t82_267) fun t83_269 =>
            Gd (isB false t83_269) (fun kk => kk n8_202 w_268) w_268 fun t85_270 w_271 =>
            Gd (isB false t83_269) (fun kk => kk t47_129 w_271) w_271 fun t86_272 w_273 =>
            Gd (isB false t83_269) (fun kk => Pu (lenV t86_272) fun vv => kk vv w_273) w_273 fun t87_274 w_275 =>
            Gd (isB false t83_269) (fun kk => Pu (binV (TypeDesc.int IntKind.i64) .gtr t85_270 t87_274) fun vv => kk vv w_275) w_275 fun t88_276 w_277 =>
            Pu (pickV t83_269 (Value.bool true) t88_276) fun t89_278 =>
            IfB t89_278
              (k (Value.bool false) w_277)
              (Pu (binV (TypeDesc.int IntKind.i64) .add n8_202 (Value.int IntKind.i64 1)) fun t59_279 =>
            I_197 [t72_254, t59_279] w_277 ∧ m_198 [t72_254, t59_279] w_277 < m_198 [atv7_201, n8_202] w_240))))
            (Pu (binV (TypeDesc.int IntKind.i64) .add i4_8 (Value.int IntKind.i64 1)) fun t21_280 =>
    I_4 [t21_280] w_190 ∧ m_5 [t21_280] w_190 < m_5 [i4_8] w_97))))
      (fun jj_101 =>
      Pu (ixV 3 ops0 i4_8) fun t24_281 =>
      Pu (faV 0 t24_281) fun t25_282 =>
      Ld w_97 t25_282 fun t26_283 w_284 =>
      IfB t26_283
        (Pu (ixV 3 ops0 i4_8) fun t30_285 =>
          Pu (faV 1 t30_285) fun t31_286 =>
          Ld w_284 t31_286 fun t32_287 w_288 =>
          Cl Try.prog 28 [t13_1, t32_287] w_288 fun t33_289 w_290 =>
          jj_101 [] w_290)
        (Pu (ixV 3 ops0 i4_8) fun t37_291 =>
          Pu (faV 1 t37_291) fun t38_292 =>
          Ld (World.drew w_284) t38_292 fun t39_293 w_294 =>
          w_294 = (World.drew w_284) ∧
          Pu (ixV 3 ops0 i4_8) fun t42_295 =>
          Pu (faV 2 t42_295) fun t43_296 =>
          Ld (World.drew w_284) t43_296 fun t44_297 w_298 =>
          w_298 = (World.drew w_284) ∧
          Cl Try.prog 29 [t13_1, t39_293, t44_297] (World.drew w_284) fun t45_299 w_300 =>
          jj_101 [] w_300)))
      (Cl Try.prog 30 [] w_97 fun t96_301 w_302 =>
  k t96_301 w_302)))
theorem e9 (k : KV) (ops0 : Value) (w : World) : K KD Try.prog 97 (fun j => bif Nat.beq j 17 then [7, 8] else bif Nat.beq j 12 then [6] else bif Nat.beq j 5 then [4] else []) (fun j => bif Nat.beq j 10 then some [] else none) (Try.f9.body.getD .skip) (retQ Try.prog Try.f9 k) (argF [ops0]) w = T9 k ops0 w := by kernel_rfl
theorem c9 {k : KV} {ops0 : Value} {w : World} (h : T9 k ops0 w) : Cl Try.prog 9 [ops0] w k :=
  Cl_of_K KD_sound mixed Try.func9 (by kernel_rfl) (by kernel_rfl) ((e9 k ops0 w).symm ▸ h)

/-- Function 10: almonry/almonrylaw10.LocksFree. -/
def T10 (k : KV) (ops0 : Value) (who1 : Value) (w : World) : Prop :=
  Cl Try.prog 26 [] w fun t24_1 w_2 =>
  Pu (binV (TypeDesc.pointer 77) .eql t24_1 (Value.pointer none)) fun t26_3 =>
  IfB t26_3
    (k (Value.bool false) w_2)
    (∃ (I_4 : List Value → World → Prop) (m_5 : List Value → World → Nat), I_4 [(Value.int IntKind.i64 0)] w_2 ∧
  ∀ (g_39 : Fr) (w_38 : World), ∀ i6_7 : Value, I_4 [i6_7] w_38 →
    (Pu (lenV ops0) fun t29_40 =>
    Pu (binV (TypeDesc.int IntKind.i64) .lss i6_7 t29_40) fun t30_41 =>
    IfB t30_41
      (Jn (fun vs_68 w_67 => ∀ g_69 : Fr, vs_68 = [] ∧
        (Pu (binV (TypeDesc.int IntKind.i64) .add i6_7 (Value.int IntKind.i64 1)) fun t32_70 =>
        I_4 [t32_70] w_67 ∧ m_5 [t32_70] w_67 < m_5 [i6_7] w_38))
      (fun jj_42 =>
      Pu (ixV 3 ops0 i6_7) fun t35_71 =>
      Pu (faV 0 t35_71) fun t36_72 =>
      Ld w_38 t36_72 fun t37_73 w_74 =>
      IfB t37_73
        (Pu (ixV 3 ops0 i6_7) fun t41_75 =>
          Pu (faV 1 t41_75) fun t42_76 =>
          Ld w_74 t42_76 fun t43_77 w_78 =>
          Cl Try.prog 28 [t24_1, t43_77] w_78 fun t44_79 w_80 =>
          jj_42 [] w_80)
        (Pu (ixV 3 ops0 i6_7) fun t48_81 =>
          Pu (faV 1 t48_81) fun t49_82 =>
          Ld (World.drew w_74) t49_82 fun t50_83 w_84 =>
          w_84 = (World.drew w_74) ∧
          Pu (ixV 3 ops0 i6_7) fun t53_85 =>
          Pu (faV 2 t53_85) fun t54_86 =>
          Ld (World.drew w_74) t54_86 fun t55_87 w_88 =>
          w_88 = (World.drew w_74) ∧
          Cl Try.prog 29 [t24_1, t50_83, t55_87] (World.drew w_74) fun t56_89 w_90 =>
          jj_42 [] w_90)))
      (Cl Try.prog 37 [t24_1, who1] w_38 fun t59_91 w_92 =>
  Cl Try.prog 39 [t24_1] w_92 fun t61_93 w_94 =>
  ∃ (I_95 : List Value → World → Prop) (m_96 : List Value → World → Nat), I_95 [(Value.slice none 0 0), (Value.slice none 0 0), (Value.int IntKind.i64 0)] w_94 ∧
  ∀ (g_149 : Fr) (w_148 : World), ∀ want8_98 : Value, ∀ told10_99 : Value, ∀ i11_100 : Value, I_95 [want8_98, told10_99, i11_100] w_148 →
    (Pu (lenV t61_93) fun t64_150 =>
    Pu (binV (TypeDesc.int IntKind.i64) .lss i11_100 t64_150) fun t65_151 =>
    IfB t65_151
      (Jn (fun vs_197 w_196 => ∀ g_198 : Fr, ∃ want8_153 : Value, ∃ told10_154 : Value, vs_197 = [want8_153, told10_154] ∧
        (Pu (binV (TypeDesc.int IntKind.i64) .add i11_100 (Value.int IntKind.i64 1)) fun t67_199 =>
        I_95 [want8_153, told10_154, t67_199] w_196 ∧ m_96 [want8_153, told10_154, t67_199] w_196 < m_96 [want8_98, told10_99, i11_100] w_148))
      (fun jj_152 =>
      Pu (ixV 1 t61_93 i11_100) fun t72_200 =>
      Ld w_148 t72_200 fun t73_201 w_202 =>
      Cl Try.prog 34 [t24_1, t73_201] w_202 fun t74_203 w_204 =>
      Pu (extV t74_203 0) fun t75_205 =>
      Pu (extV t74_203 1) fun t76_206 =>
      Cl Try.prog 27 [t24_1, t75_205] w_204 fun t80_207 w_208 =>
      Pu (extV t80_207 0) fun t81_209 =>
      Pu (extV t80_207 1) fun t82_210 =>
      Pu (binV (TypeDesc.int IntKind.i64) .eql t81_209 who1) fun t85_211 =>
      Gd (isB true t85_211) (fun kk => kk t61_93 w_208) w_208 fun t87_212 w_213 =>
      Gd (isB true t85_211) (fun kk => kk i11_100 w_213) w_213 fun t88_214 w_215 =>
      Gd (isB true t85_211) (fun kk => Pu (ixV 1 t87_212 t88_214) fun vv => kk vv w_215) w_215 fun t89_216 w_217 =>
      Gd (isB true t85_211) (fun kk => Ld w_217 t89_216 kk) w_217 fun t90_218 w_219 =>
      Gd (isB true t85_211) (fun kk => kk who1 w_219) w_219 fun t91_220 w_221 =>
      Gd (isB true t85_211) (fun kk => Pu (binV (TypeDesc.int IntKind.i64) .neq t90_218 t91_220) fun vv => kk vv w_221) w_221 fun t92_222 w_223 =>
      Pu (pickV t85_211 t92_222 (Value.bool false)) fun t93_224 =>
      IfB t93_224
        (Pu (ixV 1 t61_93 i11_100) fun t97_225 =>
          Ld w_223 t97_225 fun t98_226 w_227 =>
          RunS Try.prog (Instr.buildSlice 35 1 #[(0, t98_226)]) w_227 fun t99_228 w_229 =>
          RunS Try.prog (Builtin.append_ #[35, 35] 35 #[told10_99, t99_228]) w_229 fun t100_230 w_231 =>
          RunS Try.prog (Instr.buildSlice 58 1 #[(0, t75_205)]) w_231 fun t103_232 w_233 =>
          RunS Try.prog (Builtin.append_ #[58, 58] 58 #[want8_98, t103_232]) w_233 fun t104_234 w_235 =>
          jj_152 [t104_234, t100_230] w_235)
        (jj_152 [want8_98, told10_99] w_223)))
      (Cl Try.prog 28 [t24_1, who1] w_148 fun t107_236 w_237 =>
  Cl Try.prog 24 [t107_236, told10_99] w_237 fun t109_238 w_239 =>
  Pu (unV .not t109_238) fun t110_240 =>
  Gd (isB false t110_240) (fun kk => kk t24_1 w_239) w_239 fun t112_241 w_242 =>
  Gd (isB false t110_240) (fun kk => kk who1 w_242) w_242 fun t113_243 w_244 =>
  Gd (isB false t110_240) (fun kk => Cl Try.prog 37 [t112_241, t113_243] w_244 kk) w_244 fun t114_245 w_246 =>
  Gd (isB false t110_240) (fun kk => Pu (lenV t114_245) fun vv => kk vv w_246) w_246 fun t115_247 w_248 =>
  Gd (isB false t110_240) (fun kk => Pu (binV (TypeDesc.int IntKind.i64) .neq t115_247 (Value.int IntKind.i64 0)) fun vv => kk vv w_248) w_248 fun t116_249 w_250 =>
  Pu (pickV t110_240 (Value.bool true) t116_249) fun t117_251 =>
  IfB t117_251
    (k (Value.bool false) w_250)
    (∃ (I_252 : List Value → World → Prop) (m_253 : List Value → World → Nat), I_252 [(Value.int IntKind.i64 0)] w_250 ∧
  ∀ (g_276 : Fr) (w_275 : World), ∀ i16_256 : Value, I_252 [i16_256] w_275 →
    (Pu (lenV t59_91) fun t120_277 =>
    Pu (binV (TypeDesc.int IntKind.i64) .lss i16_256 t120_277) fun t121_278 =>
    IfB t121_278
      (Pu (ixV 1 t59_91 i16_256) fun t128_279 =>
    Ld w_275 t128_279 fun t129_280 w_281 =>
    Cl Try.prog 27 [t24_1, t129_280] w_281 fun t130_282 w_283 =>
    Pu (extV t130_282 0) fun t131_284 =>
    Pu (extV t130_282 1) fun t132_285 =>
    IfB t132_285
      (k (Value.bool false) w_283)
      (Pu (binV (TypeDesc.int IntKind.i64) .add i16_256 (Value.int IntKind.i64 1)) fun t123_286 =>
    I_252 [t123_286] w_283 ∧ m_253 [t123_286] w_283 < m_253 [i16_256] w_275))
      (∃ (I_287 : List Value → World → Prop) (m_288 : List Value → World → Nat), I_287 [(Value.int IntKind.i64 0)] w_275 ∧
  ∀ (g_311 : Fr) (w_310 : World), ∀ i19_291 : Value, I_287 [i19_291] w_310 →
    (Pu (lenV told10_99) fun t136_312 =>
    Pu (binV (TypeDesc.int IntKind.i64) .lss i19_291 t136_312) fun t137_313 =>
    IfB t137_313
      (Pu (ixV 1 told10_99 i19_291) fun t144_314 =>
    Ld w_310 t144_314 fun t145_315 w_316 =>
    Cl Try.prog 34 [t24_1, t145_315] w_316 fun t146_317 w_318 =>
    Pu (extV t146_317 0) fun t147_319 =>
    Pu (extV t146_317 1) fun t148_320 =>
    IfB t148_320
      (k (Value.bool false) w_318)
      (Pu (binV (TypeDesc.int IntKind.i64) .add i19_291 (Value.int IntKind.i64 1)) fun t139_321 =>
    I_287 [t139_321] w_318 ∧ m_288 [t139_321] w_318 < m_288 [i19_291] w_310))
      (Pu (lenV told10_99) fun t151_322 =>
  Pu (binV (TypeDesc.int IntKind.i64) .gtr t151_322 (Value.int IntKind.i64 0)) fun t152_323 =>
  IfB t152_323
    (Pu (ixV 1 told10_99 (Value.int IntKind.i64 0)) fun t156_324 =>
      Ld (World.drew w_310) t156_324 fun t157_325 w_326 =>
      w_326 = (World.drew w_310) ∧
      Pu (ixV 1 want8_98 (Value.int IntKind.i64 0)) fun t159_327 =>
      Ld (World.drew w_310) t159_327 fun t160_328 w_329 =>
      w_329 = (World.drew w_310) ∧
      Cl Try.prog 29 [t24_1, t157_325, t160_328] (World.drew w_310) fun t161_330 w_331 =>
      Pu (extV t161_330 0) fun t162_332 =>
      Pu (extV t161_330 1) fun t163_333 =>
      Gd (isB true t162_332) (fun kk => kk t163_333 w_331) w_331 fun t166_334 w_335 =>
      Gd (isB true t162_332) (fun kk => Pu (binV (TypeDesc.int IntKind.i64) .eql t166_334 (Value.int IntKind.i64 0)) fun vv => kk vv w_335) w_335 fun t167_336 w_337 =>
      Pu (pickV t162_332 t167_336 (Value.bool false)) fun t168_338 =>
      Gd (isB true t168_338) (fun kk => Cl Try.prog 30 [] w_337 kk) w_337 fun t170_339 w_340 =>
      Pu (pickV t168_338 t170_339 (Value.bool false)) fun t171_341 =>
      k t171_341 w_340)
    (Cl Try.prog 30 [] w_310 fun t172_342 w_343 =>
  k t172_342 w_343)))))))))))
theorem e10 (k : KV) (ops0 : Value) (who1 : Value) (w : World) : K KD Try.prog 173 (fun j => bif Nat.beq j 31 then [19] else bif Nat.beq j 25 then [16] else bif Nat.beq j 15 then [8, 10, 11] else bif Nat.beq j 5 then [6] else []) (fun j => bif Nat.beq j 6 then some [] else bif Nat.beq j 16 then some [8, 10] else none) (Try.f10.body.getD .skip) (retQ Try.prog Try.f10 k) (argF [ops0, who1]) w = T10 k ops0 who1 w := by kernel_rfl
theorem c10 {k : KV} {ops0 : Value} {who1 : Value} {w : World} (h : T10 k ops0 who1 w) : Cl Try.prog 10 [ops0, who1] w k :=
  Cl_of_K KD_sound mixed Try.func10 (by kernel_rfl) (by kernel_rfl) ((e10 k ops0 who1 w).symm ▸ h)

/-- Function 11: almonry/almonrylaw10.LocksNil. -/
def T11 (k : KV) (who0 : Value) (key1 : Value) (w : World) : Prop :=
  Cl Try.prog 29 [(Value.pointer none), who0, key1] w fun t16_1 w_2 =>
  Pu (extV t16_1 0) fun t17_3 =>
  Pu (extV t16_1 1) fun t18_4 =>
  Cl Try.prog 27 [(Value.pointer none), key1] w_2 fun t22_5 w_6 =>
  Pu (extV t22_5 0) fun t23_7 =>
  Pu (extV t22_5 1) fun t24_8 =>
  Cl Try.prog 34 [(Value.pointer none), who0] w_6 fun t28_9 w_10 =>
  Pu (extV t28_9 0) fun t29_11 =>
  Pu (extV t28_9 1) fun t30_12 =>
  Pu (unV .not t17_3) fun t32_13 =>
  Gd (isB true t32_13) (fun kk => kk t18_4 w_10) w_10 fun t34_14 w_15 =>
  Gd (isB true t32_13) (fun kk => Pu (binV (TypeDesc.int IntKind.i64) .eql t34_14 (Value.int IntKind.i64 2)) fun vv => kk vv w_15) w_15 fun t35_16 w_17 =>
  Pu (pickV t32_13 t35_16 (Value.bool false)) fun t36_18 =>
  Gd (isB true t36_18) (fun kk => kk t24_8 w_17) w_17 fun t38_19 w_20 =>
  Gd (isB true t36_18) (fun kk => Pu (unV .not t38_19) fun vv => kk vv w_20) w_20 fun t39_21 w_22 =>
  Pu (pickV t36_18 t39_21 (Value.bool false)) fun t40_23 =>
  Gd (isB true t40_23) (fun kk => kk t30_12 w_22) w_22 fun t42_24 w_25 =>
  Gd (isB true t40_23) (fun kk => Pu (unV .not t42_24) fun vv => kk vv w_25) w_25 fun t43_26 w_27 =>
  Pu (pickV t40_23 t43_26 (Value.bool false)) fun t44_28 =>
  Gd (isB true t44_28) (fun kk => kk t29_11 w_27) w_27 fun t46_29 w_30 =>
  Gd (isB true t44_28) (fun kk => Pu (binV TypeDesc.string .eql t46_29 (Value.string (ByteArray.mk #[]))) fun vv => kk vv w_30) w_30 fun t47_31 w_32 =>
  Pu (pickV t44_28 t47_31 (Value.bool false)) fun t48_33 =>
  Gd (isB true t48_33) (fun kk => kk (Value.pointer none) w_32) w_32 fun t50_34 w_35 =>
  Gd (isB true t48_33) (fun kk => kk who0 w_35) w_35 fun t51_36 w_37 =>
  Gd (isB true t48_33) (fun kk => Cl Try.prog 28 [t50_34, t51_36] w_37 kk) w_37 fun t52_38 w_39 =>
  Gd (isB true t48_33) (fun kk => Pu (lenV t52_38) fun vv => kk vv w_39) w_39 fun t53_40 w_41 =>
  Gd (isB true t48_33) (fun kk => Pu (binV (TypeDesc.int IntKind.i64) .eql t53_40 (Value.int IntKind.i64 0)) fun vv => kk vv w_41) w_41 fun t54_42 w_43 =>
  Pu (pickV t48_33 t54_42 (Value.bool false)) fun t55_44 =>
  Gd (isB true t55_44) (fun kk => kk (Value.pointer none) w_43) w_43 fun t57_45 w_46 =>
  Gd (isB true t55_44) (fun kk => kk who0 w_46) w_46 fun t58_47 w_48 =>
  Gd (isB true t55_44) (fun kk => Cl Try.prog 37 [t57_45, t58_47] w_48 kk) w_48 fun t59_49 w_50 =>
  Gd (isB true t55_44) (fun kk => Pu (lenV t59_49) fun vv => kk vv w_50) w_50 fun t60_51 w_52 =>
  Gd (isB true t55_44) (fun kk => Pu (binV (TypeDesc.int IntKind.i64) .eql t60_51 (Value.int IntKind.i64 0)) fun vv => kk vv w_52) w_52 fun t61_53 w_54 =>
  Pu (pickV t55_44 t61_53 (Value.bool false)) fun t62_55 =>
  Gd (isB true t62_55) (fun kk => kk (Value.pointer none) w_54) w_54 fun t64_56 w_57 =>
  Gd (isB true t62_55) (fun kk => Cl Try.prog 39 [t64_56] w_57 kk) w_57 fun t65_58 w_59 =>
  Gd (isB true t62_55) (fun kk => Pu (lenV t65_58) fun vv => kk vv w_59) w_59 fun t66_60 w_61 =>
  Gd (isB true t62_55) (fun kk => Pu (binV (TypeDesc.int IntKind.i64) .eql t66_60 (Value.int IntKind.i64 0)) fun vv => kk vv w_61) w_61 fun t67_62 w_63 =>
  Pu (pickV t62_55 t67_62 (Value.bool false)) fun t68_64 =>
  Gd (isB true t68_64) (fun kk => Cl Try.prog 30 [] w_63 kk) w_63 fun t70_65 w_66 =>
  Pu (pickV t68_64 t70_65 (Value.bool false)) fun t71_67 =>
  k t71_67 w_66
theorem e11 (k : KV) (who0 : Value) (key1 : Value) (w : World) : K KD Try.prog 72 (fun j =>  []) (fun j =>  none) (Try.f11.body.getD .skip) (retQ Try.prog Try.f11 k) (argF [who0, key1]) w = T11 k who0 key1 w := by kernel_rfl
theorem c11 {k : KV} {who0 : Value} {key1 : Value} {w : World} (h : T11 k who0 key1 w) : Cl Try.prog 11 [who0, key1] w k :=
  Cl_of_K KD_sound mixed Try.func11 (by kernel_rfl) (by kernel_rfl) ((e11 k who0 key1 w).symm ▸ h)

/-- Function 12: almonry/space.New. -/
def T12 (k : KV) (w : World) : Prop :=
  RunS Try.prog (Instr.makeMap 62 none) w fun t1_1 w_2 =>
  RunS Try.prog (Instr.build 64 #[(0, t1_1)]) w_2 fun t2_3 w_4 =>
  New (Value.cells t2_3) 64 w_4 fun t3_5 w_6 =>
  k t3_5 w_6
theorem e12 (k : KV) (w : World) : K KD Try.prog 4 (fun j =>  []) (fun j =>  none) (Try.f12.body.getD .skip) (retQ Try.prog Try.f12 k) (argF []) w = T12 k  w := by kernel_rfl
theorem c12 {k : KV} {w : World} (h : T12 k  w) : Cl Try.prog 12 [] w k :=
  Cl_of_K KD_sound mixed Try.func12 (by kernel_rfl) (by kernel_rfl) ((e12 k  w).symm ▸ h)

/-- Function 13: (*almonry/space.Map).Drop. -/
def T13 (k : KV) (m0 : Value) (page1 : Value) (w : World) : Prop :=
  Pu (binV (TypeDesc.pointer 64) .neq m0 (Value.pointer none)) fun t5_1 =>
  IfB t5_1
    (Pu (nilV m0) fun t7_2 =>
      Pu (faV 0 t7_2) fun t8_3 =>
      Ld w t8_3 fun t9_4 w_5 =>
      RunS Try.prog (Builtin.delete_ #[62, 3] 0 #[t9_4, page1]) w_5 fun u_6 w_7 =>
      k (.tuple #[]) w_7)
    (k (.tuple #[]) w)
theorem e13 (k : KV) (m0 : Value) (page1 : Value) (w : World) : K KD Try.prog 11 (fun j =>  []) (fun j =>  none) (Try.f13.body.getD .skip) (retQ Try.prog Try.f13 k) (argF [m0, page1]) w = T13 k m0 page1 w := by kernel_rfl
theorem c13 {k : KV} {m0 : Value} {page1 : Value} {w : World} (h : T13 k m0 page1 w) : Cl Try.prog 13 [m0, page1] w k :=
  Cl_of_K KD_sound mixed Try.func13 (by kernel_rfl) (by kernel_rfl) ((e13 k m0 page1 w).symm ▸ h)

/-- Function 14: (*almonry/space.Map).Set. -/
def T14 (k : KV) (m0 : Value) (page1 : Value) (room2 : Value) (w : World) : Prop :=
  Pu (binV (TypeDesc.pointer 64) .neq m0 (Value.pointer none)) fun t7_1 =>
  IfB t7_1
    (Pu (nilV m0) fun t9_2 =>
      Pu (faV 0 t9_2) fun t10_3 =>
      Ld w t10_3 fun t11_4 w_5 =>
      RunU Try.prog (Instr.mapUpdate 62 t11_4 page1 room2) w_5 fun u_6 w_7 =>
      k (.tuple #[]) w_7)
    (k (.tuple #[]) w)
theorem e14 (k : KV) (m0 : Value) (page1 : Value) (room2 : Value) (w : World) : K KD Try.prog 14 (fun j =>  []) (fun j =>  none) (Try.f14.body.getD .skip) (retQ Try.prog Try.f14 k) (argF [m0, page1, room2]) w = T14 k m0 page1 room2 w := by kernel_rfl
theorem c14 {k : KV} {m0 : Value} {page1 : Value} {room2 : Value} {w : World} (h : T14 k m0 page1 room2 w) : Cl Try.prog 14 [m0, page1, room2] w k :=
  Cl_of_K KD_sound mixed Try.func14 (by kernel_rfl) (by kernel_rfl) ((e14 k m0 page1 room2 w).symm ▸ h)

/-- Function 15: (*almonry/space.Map).Room. -/
def T15 (k : KV) (m0 : Value) (page1 : Value) (w : World) : Prop :=
  Pu (binV (TypeDesc.pointer 64) .eql m0 (Value.pointer none)) fun t9_1 =>
  IfB t9_1
    (k (.tuple #[(Value.int IntKind.i64 0), (Value.bool false)]) w)
    (Pu (nilV m0) fun t12_2 =>
  Pu (faV 0 t12_2) fun t13_3 =>
  Ld w t13_3 fun t14_4 w_5 =>
  RunS Try.prog (Instr.lookup 62 t14_4 page1 true) w_5 fun t16_6 w_7 =>
  Pu (extV t16_6 0) fun t17_8 =>
  Pu (extV t16_6 1) fun t18_9 =>
  k (.tuple #[t17_8, t18_9]) w_7)
theorem e15 (k : KV) (m0 : Value) (page1 : Value) (w : World) : K KD Try.prog 21 (fun j =>  []) (fun j =>  none) (Try.f15.body.getD .skip) (retQ Try.prog Try.f15 k) (argF [m0, page1]) w = T15 k m0 page1 w := by kernel_rfl
theorem c15 {k : KV} {m0 : Value} {page1 : Value} {w : World} (h : T15 k m0 page1 w) : Cl Try.prog 15 [m0, page1] w k :=
  Cl_of_K KD_sound mixed Try.func15 (by kernel_rfl) (by kernel_rfl) ((e15 k m0 page1 w).symm ▸ h)

/-- Function 16: almonry/almonrylaw13.awake. -/
def T16 (k : KV) (w : World) : Prop :=
  Cl Try.prog 12 [] w fun t8_1 w_2 =>
  Cl Try.prog 14 [t8_1, (Value.int IntKind.i64 5), (Value.int IntKind.i64 100)] w_2 fun t10_3 w_4 =>
  Cl Try.prog 14 [t8_1, (Value.int IntKind.i64 3), (Value.int IntKind.i64 10)] w_4 fun t12_5 w_6 =>
  Cl Try.prog 20 [t8_1, (Value.int IntKind.i64 11)] w_6 fun t15_7 w_8 =>
  Pu (extV t15_7 0) fun t16_9 =>
  Pu (extV t15_7 1) fun t17_10 =>
  Cl Try.prog 20 [t8_1, (Value.int IntKind.i64 10)] w_8 fun t20_11 w_12 =>
  Pu (extV t20_11 0) fun t21_13 =>
  Pu (extV t20_11 1) fun t22_14 =>
  Cl Try.prog 20 [t8_1, (Value.int IntKind.i64 101)] w_12 fun t25_15 w_16 =>
  Pu (extV t25_15 0) fun t26_17 =>
  Pu (extV t25_15 1) fun t27_18 =>
  Gd (isB true t17_10) (fun kk => kk t22_14 w_16) w_16 fun t30_19 w_20 =>
  Pu (pickV t17_10 t30_19 (Value.bool false)) fun t31_21 =>
  Gd (isB true t31_21) (fun kk => kk t27_18 w_20) w_20 fun t33_22 w_23 =>
  Gd (isB true t31_21) (fun kk => Pu (unV .not t33_22) fun vv => kk vv w_23) w_23 fun t34_24 w_25 =>
  Pu (pickV t31_21 t34_24 (Value.bool false)) fun t35_26 =>
  Gd (isB true t35_26) (fun kk => kk t16_9 w_25) w_25 fun t37_27 w_28 =>
  Gd (isB true t35_26) (fun kk => Pu (binV (TypeDesc.int IntKind.i64) .eql t37_27 (Value.int IntKind.i64 5)) fun vv => kk vv w_28) w_28 fun t38_29 w_30 =>
  Pu (pickV t35_26 t38_29 (Value.bool false)) fun t39_31 =>
  Gd (isB true t39_31) (fun kk => kk t21_13 w_30) w_30 fun t41_32 w_33 =>
  Gd (isB true t39_31) (fun kk => Pu (binV (TypeDesc.int IntKind.i64) .eql t41_32 (Value.int IntKind.i64 3)) fun vv => kk vv w_33) w_33 fun t42_34 w_35 =>
  Pu (pickV t39_31 t42_34 (Value.bool false)) fun t43_36 =>
  k t43_36 w_35
theorem e16 (k : KV) (w : World) : K KD Try.prog 44 (fun j =>  []) (fun j =>  none) (Try.f16.body.getD .skip) (retQ Try.prog Try.f16 k) (argF []) w = T16 k  w := by kernel_rfl
theorem c16 {k : KV} {w : World} (h : T16 k  w) : Cl Try.prog 16 [] w k :=
  Cl_of_K KD_sound mixed Try.func16 (by kernel_rfl) (by kernel_rfl) ((e16 k  w).symm ▸ h)

/-- Function 17: almonry/almonryref13.New. -/
def T17 (k : KV) (w : World) : Prop :=
  RunS Try.prog (Instr.build 67 #[]) w fun t1_1 w_2 =>
  New (Value.cells t1_1) 67 w_2 fun t2_3 w_4 =>
  k t2_3 w_4
theorem e17 (k : KV) (w : World) : K KD Try.prog 3 (fun j =>  []) (fun j =>  none) (Try.f17.body.getD .skip) (retQ Try.prog Try.f17 k) (argF []) w = T17 k  w := by kernel_rfl
theorem c17 {k : KV} {w : World} (h : T17 k  w) : Cl Try.prog 17 [] w k :=
  Cl_of_K KD_sound mixed Try.func17 (by kernel_rfl) (by kernel_rfl) ((e17 k  w).symm ▸ h)

/-- Function 18: (*almonry/almonryref13.Map).Drop. -/
def T18 (k : KV) (m0 : Value) (page1 : Value) (w : World) : Prop :=
  ∃ (I_1 : List Value → World → Prop) (m_2 : List Value → World → Nat), I_1 [(Value.slice none 0 0), (Value.int IntKind.i64 0)] w ∧
  ∀ (g_36 : Fr) (w_35 : World), ∀ l4_4 : Value, ∀ i5_5 : Value, I_1 [l4_4, i5_5] w_35 →
    (Pu (nilV m0) fun t8_37 =>
    Pu (faV 0 t8_37) fun t9_38 =>
    Ld w_35 t9_38 fun t10_39 w_40 =>
    Pu (lenV t10_39) fun t11_41 =>
    Pu (binV (TypeDesc.int IntKind.i64) .lss i5_5 t11_41) fun t12_42 =>
    IfB t12_42
      (Jn (fun vs_66 w_65 => ∀ g_67 : Fr, ∃ l4_44 : Value, vs_66 = [l4_44] ∧
        (Pu (binV (TypeDesc.int IntKind.i64) .add i5_5 (Value.int IntKind.i64 1)) fun t14_68 =>
        I_1 [l4_44, t14_68] w_65 ∧ m_2 [l4_44, t14_68] w_65 < m_2 [l4_4, i5_5] w_35))
      (fun jj_43 =>
      Pu (nilV m0) fun t16_69 =>
      Pu (faV 0 t16_69) fun t17_70 =>
      Ld w_40 t17_70 fun t18_71 w_72 =>
      Pu (ixV 2 t18_71 i5_5) fun t20_73 =>
      Pu (faV 0 t20_73) fun t21_74 =>
      Ld w_72 t21_74 fun t22_75 w_76 =>
      Pu (binV (TypeDesc.int IntKind.i64) .neq t22_75 page1) fun t24_77 =>
      IfB t24_77
        (Pu (nilV m0) fun t27_78 =>
          Pu (faV 0 t27_78) fun t28_79 =>
          Ld w_76 t28_79 fun t29_80 w_81 =>
          Pu (ixV 2 t29_80 i5_5) fun t31_82 =>
          LdN 2 w_81 t31_82 fun t32_83 w_84 =>
          RunS Try.prog (Instr.buildSlice 65 1 #[(0, t32_83)]) w_84 fun t33_85 w_86 =>
          RunS Try.prog (Builtin.append_ #[65, 65] 65 #[l4_4, t33_85]) w_86 fun t34_87 w_88 =>
          jj_43 [t34_87] w_88)
        (jj_43 [l4_4] w_76)))
      (Pu (nilV m0) fun t37_89 =>
  Pu (faV 0 t37_89) fun t38_90 =>
  St 1 w_40 t38_90 l4_4 fun u_91 w_92 =>
  k (.tuple #[]) w_92))
theorem e18 (k : KV) (m0 : Value) (page1 : Value) (w : World) : K KD Try.prog 39 (fun j => bif Nat.beq j 2 then [4, 5] else []) (fun j => bif Nat.beq j 3 then some [4] else none) (Try.f18.body.getD .skip) (retQ Try.prog Try.f18 k) (argF [m0, page1]) w = T18 k m0 page1 w := by kernel_rfl
theorem c18 {k : KV} {m0 : Value} {page1 : Value} {w : World} (h : T18 k m0 page1 w) : Cl Try.prog 18 [m0, page1] w k :=
  Cl_of_K KD_sound mixed Try.func18 (by kernel_rfl) (by kernel_rfl) ((e18 k m0 page1 w).symm ▸ h)

/-- Function 19: (*almonry/almonryref13.Map).Set. -/
def T19 (k : KV) (m0 : Value) (page1 : Value) (room2 : Value) (w : World) : Prop :=
  Cl Try.prog 18 [m0, page1] w fun t10_1 w_2 =>
  ∃ (I_3 : List Value → World → Prop) (m_4 : List Value → World → Nat), I_3 [(Value.int IntKind.i64 0)] w_2 ∧
  ∀ (g_29 : Fr) (w_28 : World), ∀ atv6_6 : Value, I_3 [atv6_6] w_28 →
    (Pu (nilV m0) fun t13_30 =>
    Pu (faV 0 t13_30) fun t14_31 =>
    Ld w_28 t14_31 fun t15_32 w_33 =>
    Pu (lenV t15_32) fun t16_34 =>
    Pu (binV (TypeDesc.int IntKind.i64) .lss atv6_6 t16_34) fun t17_35 =>
    Gd (isB true t17_35) (fun kk => kk m0 w_33) w_33 fun t19_36 w_37 =>
    Gd (isB true t17_35) (fun kk => Pu (nilV t19_36) fun vv => kk vv w_37) w_37 fun t20_38 w_39 =>
    Gd (isB true t17_35) (fun kk => Pu (faV 0 t20_38) fun vv => kk vv w_39) w_39 fun t21_40 w_41 =>
    Gd (isB true t17_35) (fun kk => Ld w_41 t21_40 kk) w_41 fun t22_42 w_43 =>
    Gd (isB true t17_35) (fun kk => kk atv6_6 w_43) w_43 fun t23_44 w_45 =>
    Gd (isB true t17_35) (fun kk => Pu (ixV 2 t22_42 t23_44) fun vv => kk vv w_45) w_45 fun t24_46 w_47 =>
    Gd (isB true t17_35) (fun kk => Pu (faV 0 t24_46) fun vv => kk vv w_47) w_47 fun t25_48 w_49 =>
    Gd (isB true t17_35) (fun kk => Ld w_49 t25_48 kk) w_49 fun t26_50 w_51 =>
    Gd (isB true t17_35) (fun kk => kk page1 w_51) w_51 fun t27_52 w_53 =>
    Gd (isB true t17_35) (fun kk => Pu (binV (TypeDesc.int IntKind.i64) .lss t26_50 t27_52) fun vv => kk vv w_53) w_53 fun t28_54 w_55 =>
    Pu (pickV t17_35 t28_54 (Value.bool false)) fun t29_56 =>
    IfB t29_56
      (Pu (binV (TypeDesc.int IntKind.i64) .add atv6_6 (Value.int IntKind.i64 1)) fun t31_57 =>
    I_3 [t31_57] w_55 ∧ m_4 [t31_57] w_55 < m_4 [atv6_6] w_28)
      (Pu (nilV m0) fun t34_58 =>
  Pu (faV 0 t34_58) fun t35_59 =>
  Ld w_55 t35_59 fun t36_60 w_61 =>
  Pu (slV 2 t36_60 none (some atv6_6) none) fun t38_62 =>
  RunS Try.prog (Builtin.append_ #[65, 65] 65 #[(Value.slice none 0 0), t38_62]) w_61 fun t39_63 w_64 =>
  RunS Try.prog (Instr.build 69 #[(0, page1), (1, room2)]) w_64 fun t43_65 w_66 =>
  RunS Try.prog (Instr.buildSlice 65 1 #[(0, t43_65)]) w_66 fun t44_67 w_68 =>
  RunS Try.prog (Builtin.append_ #[65, 65] 65 #[t39_63, t44_67]) w_68 fun t45_69 w_70 =>
  Pu (nilV m0) fun t49_71 =>
  Pu (faV 0 t49_71) fun t50_72 =>
  Ld w_70 t50_72 fun t51_73 w_74 =>
  Pu (slV 2 t51_73 (some atv6_6) none none) fun t53_75 =>
  RunS Try.prog (Builtin.append_ #[65, 65] 65 #[t45_69, t53_75]) w_74 fun t54_76 w_77 =>
  Pu (nilV m0) fun t55_78 =>
  Pu (faV 0 t55_78) fun t56_79 =>
  St 1 w_77 t56_79 t54_76 fun u_80 w_81 =>
  k (.tuple #[]) w_81))
theorem e19 (k : KV) (m0 : Value) (page1 : Value) (room2 : Value) (w : World) : K KD Try.prog 57 (fun j => bif Nat.beq j 2 then [6] else []) (fun j =>  none) (Try.f19.body.getD .skip) (retQ Try.prog Try.f19 k) (argF [m0, page1, room2]) w = T19 k m0 page1 room2 w := by kernel_rfl
theorem c19 {k : KV} {m0 : Value} {page1 : Value} {room2 : Value} {w : World} (h : T19 k m0 page1 room2 w) : Cl Try.prog 19 [m0, page1, room2] w k :=
  Cl_of_K KD_sound mixed Try.func19 (by kernel_rfl) (by kernel_rfl) ((e19 k m0 page1 room2 w).symm ▸ h)

/-- Function 20: (*almonry/space.Map).Find. -/
def T20 (k : KV) (m0 : Value) (room1 : Value) (w : World) : Prop :=
  Pu (binV (TypeDesc.pointer 64) .eql m0 (Value.pointer none)) fun t11_1 =>
  IfB t11_1
    (k (.tuple #[(Value.int IntKind.i64 0), (Value.bool false)]) w)
    (Pu (nilV m0) fun t13_2 =>
  Pu (faV 0 t13_2) fun t14_3 =>
  Ld w t14_3 fun t15_4 w_5 =>
  RunS Try.prog (Instr.range 62 t15_4) w_5 fun t16_6 w_7 =>
  ∃ (I_8 : List Value → World → Prop) (m_9 : List Value → World → Nat), I_8 [(Value.int IntKind.i64 0), (Value.bool false)] w_7 ∧
  ∀ (g_34 : Fr) (w_33 : World), ∀ best6_11 : Value, ∀ found7_12 : Value, I_8 [best6_11, found7_12] w_33 →
    (RunS Try.prog (Instr.next t16_6 false 0) w_33 fun t17_35 w_36 =>
    Pu (extV t17_35 0) fun t18_37 =>
    IfB t18_37
      (RunS Try.prog (Instr.entry t16_6) w_36 fun t19_38 w_39 =>
    Pu (extV t19_38 0) fun t20_40 =>
    Pu (extV t19_38 1) fun t21_41 =>
    Pu (binV (TypeDesc.int IntKind.i64) .geq t21_41 room1) fun t24_42 =>
    Gd (isB true t24_42) (fun kk => kk found7_12 w_39) w_39 fun t26_43 w_44 =>
    Gd (isB true t24_42) (fun kk => Pu (unV .not t26_43) fun vv => kk vv w_44) w_44 fun t27_45 w_46 =>
    Gd (isB true t24_42) (fun kk => kk t27_45 w_46) w_46 fun t28_47 w_48 =>
    Gd (isB false t28_47) (fun kk => kk t20_40 w_48) w_48 fun t29_49 w_50 =>
    Gd (isB false t28_47) (fun kk => kk best6_11 w_50) w_50 fun t30_51 w_52 =>
    Gd (isB false t28_47) (fun kk => Pu (binV (TypeDesc.int IntKind.i64) .lss t29_49 t30_51) fun vv => kk vv w_52) w_52 fun t31_53 w_54 =>
    Gd (isB true t24_42) (fun kk => Pu (pickV t28_47 (Value.bool true) t31_53) fun vv => kk vv w_54) w_54 fun t32_55 w_56 =>
    Pu (pickV t24_42 t32_55 (Value.bool false)) fun t33_57 =>
    IfB t33_57
      (I_8 [t20_40, (Value.bool true)] w_56 ∧ m_9 [t20_40, (Value.bool true)] w_56 < m_9 [best6_11, found7_12] w_33)
      (I_8 [best6_11, found7_12] w_56 ∧ m_9 [best6_11, found7_12] w_56 < m_9 [best6_11, found7_12] w_33))
      (k (.tuple #[best6_11, found7_12]) w_36)))
theorem e20 (k : KV) (m0 : Value) (room1 : Value) (w : World) : K KD Try.prog 37 (fun j => bif Nat.beq j 5 then [6, 7] else []) (fun j =>  none) (Try.f20.body.getD .skip) (retQ Try.prog Try.f20 k) (argF [m0, room1]) w = T20 k m0 room1 w := by kernel_rfl
theorem c20 {k : KV} {m0 : Value} {room1 : Value} {w : World} (h : T20 k m0 room1 w) : Cl Try.prog 20 [m0, room1] w k :=
  Cl_of_K KD_sound mixed Try.func20 (by kernel_rfl) (by kernel_rfl) ((e20 k m0 room1 w).symm ▸ h)

/-- Function 21: (*almonry/almonryref13.Map).Find. -/
def T21 (k : KV) (m0 : Value) (room1 : Value) (w : World) : Prop :=
  ∃ (I_1 : List Value → World → Prop) (m_2 : List Value → World → Nat), I_1 [(Value.int IntKind.i64 0)] w ∧
  ∀ (g_35 : Fr) (w_34 : World), ∀ i6_6 : Value, I_1 [i6_6] w_34 →
    (Pu (nilV m0) fun t9_36 =>
    Pu (faV 0 t9_36) fun t10_37 =>
    Ld w_34 t10_37 fun t11_38 w_39 =>
    Pu (lenV t11_38) fun t12_40 =>
    Pu (binV (TypeDesc.int IntKind.i64) .lss i6_6 t12_40) fun t13_41 =>
    IfB t13_41
      (Pu (nilV m0) fun t17_42 =>
    Pu (faV 0 t17_42) fun t18_43 =>
    Ld w_39 t18_43 fun t19_44 w_45 =>
    Pu (ixV 2 t19_44 i6_6) fun t21_46 =>
    Pu (faV 1 t21_46) fun t22_47 =>
    Ld w_45 t22_47 fun t23_48 w_49 =>
    Pu (binV (TypeDesc.int IntKind.i64) .geq t23_48 room1) fun t25_50 =>
    IfB t25_50
      (Pu (nilV m0) fun t27_51 =>
        Pu (faV 0 t27_51) fun t28_52 =>
        Ld w_49 t28_52 fun t29_53 w_54 =>
        Pu (ixV 2 t29_53 i6_6) fun t31_55 =>
        Pu (faV 0 t31_55) fun t32_56 =>
        Ld w_54 t32_56 fun t33_57 w_58 =>
        k (.tuple #[t33_57, (Value.bool true)]) w_58)
      (Pu (binV (TypeDesc.int IntKind.i64) .add i6_6 (Value.int IntKind.i64 1)) fun t15_59 =>
    I_1 [t15_59] w_49 ∧ m_2 [t15_59] w_49 < m_2 [i6_6] w_34))
      (k (.tuple #[(Value.int IntKind.i64 0), (Value.bool false)]) w_39))
theorem e21 (k : KV) (m0 : Value) (room1 : Value) (w : World) : K KD Try.prog 34 (fun j => bif Nat.beq j 2 then [6] else []) (fun j =>  none) (Try.f21.body.getD .skip) (retQ Try.prog Try.f21 k) (argF [m0, room1]) w = T21 k m0 room1 w := by kernel_rfl
theorem c21 {k : KV} {m0 : Value} {room1 : Value} {w : World} (h : T21 k m0 room1 w) : Cl Try.prog 21 [m0, room1] w k :=
  Cl_of_K KD_sound mixed Try.func21 (by kernel_rfl) (by kernel_rfl) ((e21 k m0 room1 w).symm ▸ h)

/-- Function 22: (*almonry/almonryref13.Map).Room. -/
def T22 (k : KV) (m0 : Value) (page1 : Value) (w : World) : Prop :=
  ∃ (I_1 : List Value → World → Prop) (m_2 : List Value → World → Nat), I_1 [(Value.int IntKind.i64 0)] w ∧
  ∀ (g_35 : Fr) (w_34 : World), ∀ i6_6 : Value, I_1 [i6_6] w_34 →
    (Pu (nilV m0) fun t9_36 =>
    Pu (faV 0 t9_36) fun t10_37 =>
    Ld w_34 t10_37 fun t11_38 w_39 =>
    Pu (lenV t11_38) fun t12_40 =>
    Pu (binV (TypeDesc.int IntKind.i64) .lss i6_6 t12_40) fun t13_41 =>
    IfB t13_41
      (Pu (nilV m0) fun t17_42 =>
    Pu (faV 0 t17_42) fun t18_43 =>
    Ld w_39 t18_43 fun t19_44 w_45 =>
    Pu (ixV 2 t19_44 i6_6) fun t21_46 =>
    Pu (faV 0 t21_46) fun t22_47 =>
    Ld w_45 t22_47 fun t23_48 w_49 =>
    Pu (binV (TypeDesc.int IntKind.i64) .eql t23_48 page1) fun t25_50 =>
    IfB t25_50
      (Pu (nilV m0) fun t27_51 =>
        Pu (faV 0 t27_51) fun t28_52 =>
        Ld w_49 t28_52 fun t29_53 w_54 =>
        Pu (ixV 2 t29_53 i6_6) fun t31_55 =>
        Pu (faV 1 t31_55) fun t32_56 =>
        Ld w_54 t32_56 fun t33_57 w_58 =>
        k (.tuple #[t33_57, (Value.bool true)]) w_58)
      (Pu (binV (TypeDesc.int IntKind.i64) .add i6_6 (Value.int IntKind.i64 1)) fun t15_59 =>
    I_1 [t15_59] w_49 ∧ m_2 [t15_59] w_49 < m_2 [i6_6] w_34))
      (k (.tuple #[(Value.int IntKind.i64 0), (Value.bool false)]) w_39))
theorem e22 (k : KV) (m0 : Value) (page1 : Value) (w : World) : K KD Try.prog 34 (fun j => bif Nat.beq j 2 then [6] else []) (fun j =>  none) (Try.f22.body.getD .skip) (retQ Try.prog Try.f22 k) (argF [m0, page1]) w = T22 k m0 page1 w := by kernel_rfl
theorem c22 {k : KV} {m0 : Value} {page1 : Value} {w : World} (h : T22 k m0 page1 w) : Cl Try.prog 22 [m0, page1] w k :=
  Cl_of_K KD_sound mixed Try.func22 (by kernel_rfl) (by kernel_rfl) ((e22 k m0 page1 w).symm ▸ h)

/-- Function 23: (*almonry/space.Map).Pages. -/
def T23 (k : KV) (m0 : Value) (w : World) : Prop :=
  Pu (binV (TypeDesc.pointer 64) .eql m0 (Value.pointer none)) fun t4_1 =>
  IfB t4_1
    (k (Value.slice none 0 0) w)
    (Pu (nilV m0) fun t6_2 =>
  Pu (faV 0 t6_2) fun t7_3 =>
  Ld w t7_3 fun t8_4 w_5 =>
  Cl Try.prog 42 [t8_4] w_5 fun t9_6 w_7 =>
  Cl Try.prog 41 [t9_6] w_7 fun t10_8 w_9 =>
  k t10_8 w_9)
theorem e23 (k : KV) (m0 : Value) (w : World) : K KD Try.prog 11 (fun j =>  []) (fun j =>  none) (Try.f23.body.getD .skip) (retQ Try.prog Try.f23 k) (argF [m0]) w = T23 k m0 w := by kernel_rfl
theorem c23 {k : KV} {m0 : Value} {w : World} (h : T23 k m0 w) : Cl Try.prog 23 [m0] w k :=
  Cl_of_K KD_sound mixed Try.func23 (by kernel_rfl) (by kernel_rfl) ((e23 k m0 w).symm ▸ h)

/-- Function 24: almonry/almonryref00.SameInts. -/
def T24 (k : KV) (a0 : Value) (b1 : Value) (w : World) : Prop :=
  Pu (lenV a0) fun t7_1 =>
  Pu (lenV b1) fun t9_2 =>
  Pu (binV (TypeDesc.int IntKind.i64) .neq t7_1 t9_2) fun t10_3 =>
  IfB t10_3
    (k (Value.bool false) w)
    (∃ (I_4 : List Value → World → Prop) (m_5 : List Value → World → Nat), I_4 [(Value.int IntKind.i64 0)] w ∧
  ∀ (g_25 : Fr) (w_24 : World), ∀ i5_8 : Value, I_4 [i5_8] w_24 →
    (Pu (lenV a0) fun t13_26 =>
    Pu (binV (TypeDesc.int IntKind.i64) .lss i5_8 t13_26) fun t14_27 =>
    IfB t14_27
      (Pu (ixV 1 a0 i5_8) fun t19_28 =>
    Ld (World.drew w_24) t19_28 fun t20_29 w_30 =>
    w_30 = (World.drew w_24) ∧
    Pu (ixV 1 b1 i5_8) fun t23_31 =>
    Ld (World.drew w_24) t23_31 fun t24_32 w_33 =>
    w_33 = (World.drew w_24) ∧
    Pu (binV (TypeDesc.int IntKind.i64) .neq t20_29 t24_32) fun t25_34 =>
    IfB t25_34
      (k (Value.bool false) (World.drew w_24))
      (Pu (binV (TypeDesc.int IntKind.i64) .add i5_8 (Value.int IntKind.i64 1)) fun t16_35 =>
    I_4 [t16_35] (World.drew w_24) ∧ m_5 [t16_35] (World.drew w_24) < m_5 [i5_8] w_24))
      (k (Value.bool true) w_24)))
theorem e24 (k : KV) (a0 : Value) (b1 : Value) (w : World) : K KD Try.prog 26 (fun j => bif Nat.beq j 4 then [5] else []) (fun j =>  none) (Try.f24.body.getD .skip) (retQ Try.prog Try.f24 k) (argF [a0, b1]) w = T24 k a0 b1 w := by kernel_rfl
theorem c24 {k : KV} {a0 : Value} {b1 : Value} {w : World} (h : T24 k a0 b1 w) : Cl Try.prog 24 [a0, b1] w k :=
  Cl_of_K KD_sound mixed Try.func24 (by kernel_rfl) (by kernel_rfl) ((e24 k a0 b1 w).symm ▸ h)

/-- Function 25: (*almonry/almonryref13.Map).Pages. -/
def T25 (k : KV) (m0 : Value) (w : World) : Prop :=
  ∃ (I_1 : List Value → World → Prop) (m_2 : List Value → World → Nat), I_1 [(Value.slice none 0 0), (Value.int IntKind.i64 0)] w ∧
  ∀ (g_27 : Fr) (w_26 : World), ∀ out3_4 : Value, ∀ i4_5 : Value, I_1 [out3_4, i4_5] w_26 →
    (Pu (nilV m0) fun t7_28 =>
    Pu (faV 0 t7_28) fun t8_29 =>
    Ld w_26 t8_29 fun t9_30 w_31 =>
    Pu (lenV t9_30) fun t10_32 =>
    Pu (binV (TypeDesc.int IntKind.i64) .lss i4_5 t10_32) fun t11_33 =>
    IfB t11_33
      (Pu (nilV m0) fun t16_34 =>
    Pu (faV 0 t16_34) fun t17_35 =>
    Ld w_31 t17_35 fun t18_36 w_37 =>
    Pu (ixV 2 t18_36 i4_5) fun t20_38 =>
    Pu (faV 0 t20_38) fun t21_39 =>
    Ld w_37 t21_39 fun t22_40 w_41 =>
    RunS Try.prog (Instr.buildSlice 35 1 #[(0, t22_40)]) w_41 fun t23_42 w_43 =>
    RunS Try.prog (Builtin.append_ #[35, 35] 35 #[out3_4, t23_42]) w_43 fun t24_44 w_45 =>
    Pu (binV (TypeDesc.int IntKind.i64) .add i4_5 (Value.int IntKind.i64 1)) fun t13_46 =>
    I_1 [t24_44, t13_46] w_45 ∧ m_2 [t24_44, t13_46] w_45 < m_2 [out3_4, i4_5] w_26)
      (k out3_4 w_31))
theorem e25 (k : KV) (m0 : Value) (w : World) : K KD Try.prog 26 (fun j => bif Nat.beq j 3 then [3, 4] else []) (fun j =>  none) (Try.f25.body.getD .skip) (retQ Try.prog Try.f25 k) (argF [m0]) w = T25 k m0 w := by kernel_rfl
theorem c25 {k : KV} {m0 : Value} {w : World} (h : T25 k m0 w) : Cl Try.prog 25 [m0] w k :=
  Cl_of_K KD_sound mixed Try.func25 (by kernel_rfl) (by kernel_rfl) ((e25 k m0 w).symm ▸ h)

/-- Function 26: almonry/locks.New. -/
def T26 (k : KV) (w : World) : Prop :=
  RunS Try.prog (Instr.makeMap 74 none) w fun t1_1 w_2 =>
  RunS Try.prog (Instr.makeMap 75 none) w_2 fun t2_3 w_4 =>
  RunS Try.prog (Instr.build 77 #[(0, t1_1), (1, t2_3)]) w_4 fun t3_5 w_6 =>
  New (Value.cells t3_5) 77 w_6 fun t4_7 w_8 =>
  k t4_7 w_8
theorem e26 (k : KV) (w : World) : K KD Try.prog 5 (fun j =>  []) (fun j =>  none) (Try.f26.body.getD .skip) (retQ Try.prog Try.f26 k) (argF []) w = T26 k  w := by kernel_rfl
theorem c26 {k : KV} {w : World} (h : T26 k  w) : Cl Try.prog 26 [] w k :=
  Cl_of_K KD_sound mixed Try.func26 (by kernel_rfl) (by kernel_rfl) ((e26 k  w).symm ▸ h)

/-- Function 27: (*almonry/locks.Table).Holder. -/
def T27 (k : KV) (t0 : Value) (key1 : Value) (w : World) : Prop :=
  Pu (binV (TypeDesc.pointer 77) .eql t0 (Value.pointer none)) fun t9_1 =>
  IfB t9_1
    (k (.tuple #[(Value.int IntKind.i64 0), (Value.bool false)]) w)
    (Pu (nilV t0) fun t12_2 =>
  Pu (faV 0 t12_2) fun t13_3 =>
  Ld w t13_3 fun t14_4 w_5 =>
  RunS Try.prog (Instr.lookup 74 t14_4 key1 true) w_5 fun t16_6 w_7 =>
  Pu (extV t16_6 0) fun t17_8 =>
  Pu (extV t16_6 1) fun t18_9 =>
  k (.tuple #[t17_8, t18_9]) w_7)
theorem e27 (k : KV) (t0 : Value) (key1 : Value) (w : World) : K KD Try.prog 21 (fun j =>  []) (fun j =>  none) (Try.f27.body.getD .skip) (retQ Try.prog Try.f27 k) (argF [t0, key1]) w = T27 k t0 key1 w := by kernel_rfl
theorem c27 {k : KV} {t0 : Value} {key1 : Value} {w : World} (h : T27 k t0 key1 w) : Cl Try.prog 27 [t0, key1] w k :=
  Cl_of_K KD_sound mixed Try.func27 (by kernel_rfl) (by kernel_rfl) ((e27 k t0 key1 w).symm ▸ h)

/-- Function 28: (*almonry/locks.Table).Release. -/
def T28 (k : KV) (t0 : Value) (who1 : Value) (w : World) : Prop :=
  New (Value.cells who1) 3 w fun who3_1 w_2 =>
  Pu (binV (TypeDesc.pointer 77) .eql t0 (Value.pointer none)) fun t13_3 =>
  IfB t13_3
    (k (Value.slice none 0 0) w_2)
    (Pu (nilV t0) fun t15_4 =>
  Pu (faV 1 t15_4) fun t16_5 =>
  Ld (World.drew w_2) t16_5 fun t17_6 w_7 =>
  w_7 = (World.drew w_2) ∧
  Ld (World.drew w_2) who3_1 fun t18_8 w_9 =>
  w_9 = (World.drew w_2) ∧
  RunS Try.prog (Builtin.delete_ #[75, 3] 0 #[t17_6, t18_8]) (World.drew w_2) fun u_10 w_11 =>
  Pu (nilV t0) fun t20_12 =>
  Pu (faV 1 t20_12) fun t21_13 =>
  Ld w_11 t21_13 fun t22_14 w_15 =>
  RunS Try.prog (Instr.range 75 t22_14) w_15 fun t23_16 w_17 =>
  ∃ (I_18 : List Value → World → Prop) (m_19 : List Value → World → Nat), I_18 [(Value.slice none 0 0)] w_17 ∧
  ∀ (g_51 : Fr) (w_50 : World), ∀ out5_21 : Value, I_18 [out5_21] w_50 →
    (RunS Try.prog (Instr.next t23_16 false 0) w_50 fun t24_52 w_53 =>
    Pu (extV t24_52 0) fun t25_54 =>
    IfB t25_54
      (RunS Try.prog (Instr.entry t23_16) w_53 fun t26_55 w_56 =>
    Pu (extV t26_55 0) fun t27_57 =>
    Pu (extV t26_55 1) fun t28_58 =>
    Pu (nilV t0) fun t31_59 =>
    Pu (faV 0 t31_59) fun t32_60 =>
    Ld w_56 t32_60 fun t33_61 w_62 =>
    RunS Try.prog (Instr.lookup 74 t33_61 t28_58 true) w_62 fun t35_63 w_64 =>
    Pu (extV t35_63 0) fun t36_65 =>
    Pu (extV t35_63 1) fun t37_66 =>
    Gd (isB true t37_66) (fun kk => kk t36_65 w_64) w_64 fun t40_67 w_68 =>
    Gd (isB true t37_66) (fun kk => Ld w_68 who3_1 kk) w_68 fun t41_69 w_70 =>
    Gd (isB true t37_66) (fun kk => Pu (binV (TypeDesc.int IntKind.i64) .eql t40_67 t41_69) fun vv => kk vv w_70) w_70 fun t42_71 w_72 =>
    Pu (pickV t37_66 t42_71 (Value.bool false)) fun t43_73 =>
    IfB t43_73
      (RunS Try.prog (Instr.buildSlice 35 1 #[(0, t27_57)]) w_72 fun t46_74 w_75 =>
        RunS Try.prog (Builtin.append_ #[35, 35] 35 #[out5_21, t46_74]) w_75 fun t47_76 w_77 =>
        I_18 [t47_76] w_77 ∧ m_19 [t47_76] w_77 < m_19 [out5_21] w_50)
      (I_18 [out5_21] w_72 ∧ m_19 [out5_21] w_72 < m_19 [out5_21] w_50))
      (Pu (lenV out5_21) fun t49_78 =>
  ∃ (I_79 : List Value → World → Prop) (m_80 : List Value → World → Nat), I_79 [(Value.int IntKind.i64 0)] w_53 ∧
  ∀ (g_94 : Fr) (w_93 : World), ∀ t50_83 : Value, I_79 [t50_83] w_93 →
    (Pu (binV (TypeDesc.int IntKind.i64) .lss t50_83 t49_78) fun t51_95 =>
    IfB t51_95
      (Pu (ixV 1 out5_21 t50_83) fun t52_96 =>
    Ld w_93 t52_96 fun t53_97 w_98 =>
    Pu (nilV t0) fun t55_99 =>
    Pu (faV 1 t55_99) fun t56_100 =>
    Ld w_98 t56_100 fun t57_101 w_102 =>
    RunS Try.prog (Builtin.delete_ #[75, 3] 0 #[t57_101, t53_97]) w_102 fun u_103 w_104 =>
    Pu (binV (TypeDesc.int IntKind.i64) .add t50_83 (Value.int IntKind.i64 1)) fun t59_105 =>
    I_79 [t59_105] w_104 ∧ m_80 [t59_105] w_104 < m_80 [t50_83] w_93)
      (Pu (nilV t0) fun t61_106 =>
  Pu (faV 0 t61_106) fun t62_107 =>
  Ld w_93 t62_107 fun t63_108 w_109 =>
  Cl Try.prog 43 [t63_108, (.func (Fn.func 44) #[] #[who3_1])] w_109 fun t65_110 w_111 =>
  Cl Try.prog 45 [out5_21] w_111 fun t67_112 w_113 =>
  k out5_21 w_113)))))
theorem e28 (k : KV) (t0 : Value) (who1 : Value) (w : World) : K KD Try.prog 69 (fun j => bif Nat.beq j 12 then [50] else bif Nat.beq j 6 then [5] else []) (fun j =>  none) (Try.f28.body.getD .skip) (retQ Try.prog Try.f28 k) (argF [t0, who1]) w = T28 k t0 who1 w := by kernel_rfl
theorem c28 {k : KV} {t0 : Value} {who1 : Value} {w : World} (h : T28 k t0 who1 w) : Cl Try.prog 28 [t0, who1] w k :=
  Cl_of_K KD_sound mixed Try.func28 (by kernel_rfl) (by kernel_rfl) ((e28 k t0 who1 w).symm ▸ h)

/-- Function 29: (*almonry/locks.Table).Try. -/
def T29 (k : KV) (t0 : Value) (who1 : Value) (key2 : Value) (w : World) : Prop :=
  Pu (binV (TypeDesc.pointer 77) .eql t0 (Value.pointer none)) fun t11_1 =>
  IfB t11_1
    (k (.tuple #[(Value.bool false), (Value.int IntKind.i64 2)]) w)
    (Pu (nilV t0) fun t13_2 =>
  Pu (faV 1 t13_2) fun t14_3 =>
  Ld w t14_3 fun t15_4 w_5 =>
  RunS Try.prog (Builtin.delete_ #[75, 3] 0 #[t15_4, who1]) w_5 fun u_6 w_7 =>
  Pu (nilV t0) fun t19_8 =>
  Pu (faV 0 t19_8) fun t20_9 =>
  Ld w_7 t20_9 fun t21_10 w_11 =>
  RunS Try.prog (Instr.lookup 74 t21_10 key2 true) w_11 fun t23_12 w_13 =>
  Pu (extV t23_12 0) fun t24_14 =>
  Pu (extV t23_12 1) fun t25_15 =>
  Jn (fun vs_24 w_23 => ∀ g_25 : Fr, ∃ t26_17 : Value, vs_24 = [t26_17] ∧
      (IfB t26_17
        (Pu (nilV t0) fun t33_26 =>
          Pu (faV 0 t33_26) fun t34_27 =>
          Ld w_23 t34_27 fun t35_28 w_29 =>
          RunU Try.prog (Instr.mapUpdate 74 t35_28 key2 who1) w_29 fun u_30 w_31 =>
          k (.tuple #[(Value.bool true), (Value.int IntKind.i64 0)]) w_31)
        (Cl Try.prog 46 [t0, who1, t24_14] w_23 fun t42_32 w_33 =>
          IfB t42_32
            (k (.tuple #[(Value.bool false), (Value.int IntKind.i64 181)]) w_33)
            (Pu (nilV t0) fun t44_34 =>
  Pu (faV 1 t44_34) fun t45_35 =>
  Ld w_33 t45_35 fun t46_36 w_37 =>
  RunU Try.prog (Instr.mapUpdate 75 t46_36 who1 key2) w_37 fun u_38 w_39 =>
  k (.tuple #[(Value.bool false), (Value.int IntKind.i64 0)]) w_39))))
    (fun jj_16 =>
    Pu (unV .not t25_15) fun t28_40 =>
    IfB t28_40
      (jj_16 [t28_40] w_13)
      (Pu (binV (TypeDesc.int IntKind.i64) .eql t24_14 who1) fun t31_41 =>
        jj_16 [t31_41] w_13)))
theorem e29 (k : KV) (t0 : Value) (who1 : Value) (key2 : Value) (w : World) : K KD Try.prog 49 (fun j =>  []) (fun j => bif Nat.beq j 7 then some [26] else none) (Try.f29.body.getD .skip) (retQ Try.prog Try.f29 k) (argF [t0, who1, key2]) w = T29 k t0 who1 key2 w := by kernel_rfl
theorem c29 {k : KV} {t0 : Value} {who1 : Value} {key2 : Value} {w : World} (h : T29 k t0 who1 key2 w) : Cl Try.prog 29 [t0, who1, key2] w k :=
  Cl_of_K KD_sound mixed Try.func29 (by kernel_rfl) (by kernel_rfl) ((e29 k t0 who1 key2 w).symm ▸ h)

/-- Function 30: almonry/almonrylaw10.awake. -/
def T30 (k : KV) (w : World) : Prop :=
  Cl Try.prog 26 [] w fun t10_1 w_2 =>
  Pu (binV (TypeDesc.pointer 77) .eql t10_1 (Value.pointer none)) fun t12_3 =>
  IfB t12_3
    (k (Value.bool false) w_2)
    (Cl Try.prog 29 [t10_1, (Value.int IntKind.i64 1), (Value.string (ByteArray.mk #[97]))] w_2 fun t15_4 w_5 =>
  Pu (extV t15_4 0) fun t16_6 =>
  Pu (extV t15_4 1) fun t17_7 =>
  Cl Try.prog 29 [t10_1, (Value.int IntKind.i64 2), (Value.string (ByteArray.mk #[98]))] w_5 fun t20_8 w_9 =>
  Pu (extV t20_8 0) fun t21_10 =>
  Pu (extV t20_8 1) fun t22_11 =>
  Cl Try.prog 29 [t10_1, (Value.int IntKind.i64 2), (Value.string (ByteArray.mk #[97]))] w_9 fun t25_12 w_13 =>
  Pu (extV t25_12 0) fun t26_14 =>
  Pu (extV t25_12 1) fun t27_15 =>
  Cl Try.prog 29 [t10_1, (Value.int IntKind.i64 1), (Value.string (ByteArray.mk #[98]))] w_13 fun t30_16 w_17 =>
  Pu (extV t30_16 0) fun t31_18 =>
  Pu (extV t30_16 1) fun t32_19 =>
  Gd (isB true t16_6) (fun kk => kk t21_10 w_17) w_17 fun t35_20 w_21 =>
  Pu (pickV t16_6 t35_20 (Value.bool false)) fun t36_22 =>
  Gd (isB true t36_22) (fun kk => kk t26_14 w_21) w_21 fun t38_23 w_24 =>
  Gd (isB true t36_22) (fun kk => Pu (unV .not t38_23) fun vv => kk vv w_24) w_24 fun t39_25 w_26 =>
  Pu (pickV t36_22 t39_25 (Value.bool false)) fun t40_27 =>
  Gd (isB true t40_27) (fun kk => kk t27_15 w_26) w_26 fun t42_28 w_29 =>
  Gd (isB true t40_27) (fun kk => Pu (binV (TypeDesc.int IntKind.i64) .eql t42_28 (Value.int IntKind.i64 0)) fun vv => kk vv w_29) w_29 fun t43_30 w_31 =>
  Pu (pickV t40_27 t43_30 (Value.bool false)) fun t44_32 =>
  Gd (isB true t44_32) (fun kk => kk t31_18 w_31) w_31 fun t46_33 w_34 =>
  Gd (isB true t44_32) (fun kk => Pu (unV .not t46_33) fun vv => kk vv w_34) w_34 fun t47_35 w_36 =>
  Pu (pickV t44_32 t47_35 (Value.bool false)) fun t48_37 =>
  Gd (isB true t48_37) (fun kk => kk t32_19 w_36) w_36 fun t50_38 w_39 =>
  Gd (isB true t48_37) (fun kk => Pu (binV (TypeDesc.int IntKind.i64) .eql t50_38 (Value.int IntKind.i64 181)) fun vv => kk vv w_39) w_39 fun t51_40 w_41 =>
  Pu (pickV t48_37 t51_40 (Value.bool false)) fun t52_42 =>
  Gd (isB true t52_42) (fun kk => kk t10_1 w_41) w_41 fun t54_43 w_44 =>
  Gd (isB true t52_42) (fun kk => Cl Try.prog 39 [t54_43] w_44 kk) w_44 fun t55_45 w_46 =>
  Gd (isB true t52_42) (fun kk => Pu (lenV t55_45) fun vv => kk vv w_46) w_46 fun t56_47 w_48 =>
  Gd (isB true t52_42) (fun kk => Pu (binV (TypeDesc.int IntKind.i64) .eql t56_47 (Value.int IntKind.i64 1)) fun vv => kk vv w_48) w_48 fun t57_49 w_50 =>
  Pu (pickV t52_42 t57_49 (Value.bool false)) fun t58_51 =>
  k t58_51 w_50)
theorem e30 (k : KV) (w : World) : K KD Try.prog 59 (fun j =>  []) (fun j =>  none) (Try.f30.body.getD .skip) (retQ Try.prog Try.f30 k) (argF []) w = T30 k  w := by kernel_rfl
theorem c30 {k : KV} {w : World} (h : T30 k  w) : Cl Try.prog 30 [] w k :=
  Cl_of_K KD_sound mixed Try.func30 (by kernel_rfl) (by kernel_rfl) ((e30 k  w).symm ▸ h)

/-- Function 31: (*almonry/almonryref10.Table).Release. -/
def T31 (k : KV) (t0 : Value) (who1 : Value) (w : World) : Prop :=
  Cl Try.prog 47 [t0, who1] w fun t14_1 w_2 =>
  ∃ (I_3 : List Value → World → Prop) (m_4 : List Value → World → Nat), I_3 [(Value.slice none 0 0), (Value.slice none 0 0), (Value.int IntKind.i64 0)] w_2 ∧
  ∀ (g_58 : Fr) (w_57 : World), ∀ out5_6 : Value, ∀ stay6_7 : Value, ∀ i7_8 : Value, I_3 [out5_6, stay6_7, i7_8] w_57 →
    (Pu (nilV t0) fun t17_59 =>
    Pu (faV 1 t17_59) fun t18_60 =>
    Ld w_57 t18_60 fun t19_61 w_62 =>
    Pu (lenV t19_61) fun t20_63 =>
    Pu (binV (TypeDesc.int IntKind.i64) .lss i7_8 t20_63) fun t21_64 =>
    IfB t21_64
      (Jn (fun vs_108 w_107 => ∀ g_109 : Fr, ∃ out5_66 : Value, ∃ stay6_67 : Value, vs_108 = [out5_66, stay6_67] ∧
        (Pu (binV (TypeDesc.int IntKind.i64) .add i7_8 (Value.int IntKind.i64 1)) fun t23_110 =>
        I_3 [out5_66, stay6_67, t23_110] w_107 ∧ m_4 [out5_66, stay6_67, t23_110] w_107 < m_4 [out5_6, stay6_7, i7_8] w_57))
      (fun jj_65 =>
      Pu (nilV t0) fun t27_111 =>
      Pu (faV 1 t27_111) fun t28_112 =>
      Ld w_62 t28_112 fun t29_113 w_114 =>
      Pu (ixV 2 t29_113 i7_8) fun t31_115 =>
      Pu (faV 0 t31_115) fun t32_116 =>
      Ld w_114 t32_116 fun t33_117 w_118 =>
      Cl Try.prog 33 [t0, t33_117] w_118 fun t34_119 w_120 =>
      Pu (extV t34_119 0) fun t35_121 =>
      Pu (extV t34_119 1) fun t36_122 =>
      Pu (binV (TypeDesc.int IntKind.i64) .eql t35_121 who1) fun t39_123 =>
      IfB t39_123
        (Pu (nilV t0) fun t42_124 =>
          Pu (faV 1 t42_124) fun t43_125 =>
          Ld w_120 t43_125 fun t44_126 w_127 =>
          Pu (ixV 2 t44_126 i7_8) fun t46_128 =>
          Pu (faV 1 t46_128) fun t47_129 =>
          Ld w_127 t47_129 fun t48_130 w_131 =>
          RunS Try.prog (Instr.buildSlice 35 1 #[(0, t48_130)]) w_131 fun t49_132 w_133 =>
          RunS Try.prog (Builtin.append_ #[35, 35] 35 #[out5_6, t49_132]) w_133 fun t50_134 w_135 =>
          jj_65 [t50_134, stay6_7] w_135)
        (Pu (nilV t0) fun t53_136 =>
          Pu (faV 1 t53_136) fun t54_137 =>
          Ld w_120 t54_137 fun t55_138 w_139 =>
          Pu (ixV 2 t55_138 i7_8) fun t57_140 =>
          LdN 2 w_139 t57_140 fun t58_141 w_142 =>
          RunS Try.prog (Instr.buildSlice 52 1 #[(0, t58_141)]) w_142 fun t59_143 w_144 =>
          RunS Try.prog (Builtin.append_ #[52, 52] 52 #[stay6_7, t59_143]) w_144 fun t60_145 w_146 =>
          jj_65 [out5_6, t60_145] w_146)))
      (Pu (nilV t0) fun t63_147 =>
  Pu (faV 1 t63_147) fun t64_148 =>
  St 1 w_62 t64_148 stay6_7 fun u_149 w_150 =>
  ∃ (I_151 : List Value → World → Prop) (m_152 : List Value → World → Nat), I_151 [(Value.slice none 0 0), (Value.int IntKind.i64 0)] w_150 ∧
  ∀ (g_186 : Fr) (w_185 : World), ∀ l10_154 : Value, ∀ i11_155 : Value, I_151 [l10_154, i11_155] w_185 →
    (Pu (nilV t0) fun t67_187 =>
    Pu (faV 0 t67_187) fun t68_188 =>
    Ld w_185 t68_188 fun t69_189 w_190 =>
    Pu (lenV t69_189) fun t70_191 =>
    Pu (binV (TypeDesc.int IntKind.i64) .lss i11_155 t70_191) fun t71_192 =>
    IfB t71_192
      (Jn (fun vs_216 w_215 => ∀ g_217 : Fr, ∃ l10_194 : Value, vs_216 = [l10_194] ∧
        (Pu (binV (TypeDesc.int IntKind.i64) .add i11_155 (Value.int IntKind.i64 1)) fun t73_218 =>
        I_151 [l10_194, t73_218] w_215 ∧ m_152 [l10_194, t73_218] w_215 < m_152 [l10_154, i11_155] w_185))
      (fun jj_193 =>
      Pu (nilV t0) fun t75_219 =>
      Pu (faV 0 t75_219) fun t76_220 =>
      Ld w_190 t76_220 fun t77_221 w_222 =>
      Pu (ixV 2 t77_221 i11_155) fun t79_223 =>
      Pu (faV 1 t79_223) fun t80_224 =>
      Ld w_222 t80_224 fun t81_225 w_226 =>
      Pu (binV (TypeDesc.int IntKind.i64) .neq t81_225 who1) fun t83_227 =>
      IfB t83_227
        (Pu (nilV t0) fun t86_228 =>
          Pu (faV 0 t86_228) fun t87_229 =>
          Ld w_226 t87_229 fun t88_230 w_231 =>
          Pu (ixV 2 t88_230 i11_155) fun t90_232 =>
          LdN 2 w_231 t90_232 fun t91_233 w_234 =>
          RunS Try.prog (Instr.buildSlice 52 1 #[(0, t91_233)]) w_234 fun t92_235 w_236 =>
          RunS Try.prog (Builtin.append_ #[52, 52] 52 #[l10_154, t92_235]) w_236 fun t93_237 w_238 =>
          jj_193 [t93_237] w_238)
        (jj_193 [l10_154] w_226)))
      (Pu (nilV t0) fun t96_239 =>
  Pu (faV 0 t96_239) fun t97_240 =>
  St 1 w_190 t97_240 l10_154 fun u_241 w_242 =>
  k out5_6 w_242))))
theorem e31 (k : KV) (t0 : Value) (who1 : Value) (w : World) : K KD Try.prog 99 (fun j => bif Nat.beq j 14 then [10, 11] else bif Nat.beq j 5 then [5, 6, 7] else []) (fun j => bif Nat.beq j 6 then some [5, 6] else bif Nat.beq j 15 then some [10] else none) (Try.f31.body.getD .skip) (retQ Try.prog Try.f31 k) (argF [t0, who1]) w = T31 k t0 who1 w := by kernel_rfl
theorem c31 {k : KV} {t0 : Value} {who1 : Value} {w : World} (h : T31 k t0 who1 w) : Cl Try.prog 31 [t0, who1] w k :=
  Cl_of_K KD_sound mixed Try.func31 (by kernel_rfl) (by kernel_rfl) ((e31 k t0 who1 w).symm ▸ h)

/-- Function 32: (*almonry/almonryref10.Table).Try. -/
def T32 (k : KV) (t0 : Value) (who1 : Value) (key2 : Value) (w : World) : Prop :=
  Cl Try.prog 47 [t0, who1] w fun t16_1 w_2 =>
  Cl Try.prog 33 [t0, key2] w_2 fun t20_3 w_4 =>
  Pu (extV t20_3 0) fun t21_5 =>
  Pu (extV t20_3 1) fun t22_6 =>
  Gd (isB true t22_6) (fun kk => kk t21_5 w_4) w_4 fun t25_7 w_8 =>
  Gd (isB true t22_6) (fun kk => kk who1 w_8) w_8 fun t26_9 w_10 =>
  Gd (isB true t22_6) (fun kk => Pu (binV (TypeDesc.int IntKind.i64) .eql t25_7 t26_9) fun vv => kk vv w_10) w_10 fun t27_11 w_12 =>
  Pu (pickV t22_6 t27_11 (Value.bool false)) fun t28_13 =>
  IfB t28_13
    (k (.tuple #[(Value.bool true), (Value.int IntKind.i64 0)]) w_12)
    (Pu (unV .not t22_6) fun t30_14 =>
  IfB t30_14
    (∃ (I_15 : List Value → World → Prop) (m_16 : List Value → World → Nat), I_15 [(Value.int IntKind.i64 0)] w_12 ∧
      ∀ (g_41 : Fr) (w_40 : World), ∀ atv10_18 : Value, I_15 [atv10_18] w_40 →
        (Pu (nilV t0) fun t33_42 =>
        Pu (faV 0 t33_42) fun t34_43 =>
        Ld w_40 t34_43 fun t35_44 w_45 =>
        Pu (lenV t35_44) fun t36_46 =>
        Pu (binV (TypeDesc.int IntKind.i64) .lss atv10_18 t36_46) fun t37_47 =>
        Gd (isB true t37_47) (fun kk => kk t0 w_45) w_45 fun t39_48 w_49 =>
        Gd (isB true t37_47) (fun kk => Pu (nilV t39_48) fun vv => kk vv w_49) w_49 fun t40_50 w_51 =>
        Gd (isB true t37_47) (fun kk => Pu (faV 0 t40_50) fun vv => kk vv w_51) w_51 fun t41_52 w_53 =>
        Gd (isB true t37_47) (fun kk => Ld w_53 t41_52 kk) w_53 fun t42_54 w_55 =>
        Gd (isB true t37_47) (fun kk => kk atv10_18 w_55) w_55 fun t43_56 w_57 =>
        Gd (isB true t37_47) (fun kk => Pu (ixV 2 t42_54 t43_56) fun vv => kk vv w_57) w_57 fun t44_58 w_59 =>
        Gd (isB true t37_47) (fun kk => Pu (faV 0 t44_58) fun vv => kk vv w_59) w_59 fun t45_60 w_61 =>
        Gd (isB true t37_47) (fun kk => Ld w_61 t45_60 kk) w_61 fun t46_62 w_63 =>
        Gd (isB true t37_47) (fun kk => kk key2 w_63) w_63 fun t47_64 w_65 =>
        Gd (isB true t37_47) (fun kk => Pu (binV TypeDesc.string .lss t46_62 t47_64) fun vv => kk vv w_65) w_65 fun t48_66 w_67 =>
        Pu (pickV t37_47 t48_66 (Value.bool false)) fun t49_68 =>
        IfB t49_68
          (Pu (binV (TypeDesc.int IntKind.i64) .add atv10_18 (Value.int IntKind.i64 1)) fun t51_69 =>
        I_15 [t51_69] w_67 ∧ m_16 [t51_69] w_67 < m_16 [atv10_18] w_40)
          (Pu (nilV t0) fun t54_70 =>
      Pu (faV 0 t54_70) fun t55_71 =>
      Ld w_67 t55_71 fun t56_72 w_73 =>
      Pu (slV 2 t56_72 none (some atv10_18) none) fun t58_74 =>
      RunS Try.prog (Builtin.append_ #[52, 52] 52 #[(Value.slice none 0 0), t58_74]) w_73 fun t59_75 w_76 =>
      RunS Try.prog (Instr.build 84 #[(0, key2), (1, who1)]) w_76 fun t63_77 w_78 =>
      RunS Try.prog (Instr.buildSlice 52 1 #[(0, t63_77)]) w_78 fun t64_79 w_80 =>
      RunS Try.prog (Builtin.append_ #[52, 52] 52 #[t59_75, t64_79]) w_80 fun t65_81 w_82 =>
      Pu (nilV t0) fun t69_83 =>
      Pu (faV 0 t69_83) fun t70_84 =>
      Ld w_82 t70_84 fun t71_85 w_86 =>
      Pu (slV 2 t71_85 (some atv10_18) none none) fun t73_87 =>
      RunS Try.prog (Builtin.append_ #[52, 52] 52 #[t65_81, t73_87]) w_86 fun t74_88 w_89 =>
      Pu (nilV t0) fun t75_90 =>
      Pu (faV 0 t75_90) fun t76_91 =>
      St 1 w_89 t76_91 t74_88 fun u_92 w_93 =>
      k (.tuple #[(Value.bool true), (Value.int IntKind.i64 0)]) w_93)))
    (Cl Try.prog 48 [t0, who1, t21_5] w_12 fun t80_94 w_95 =>
  IfB t80_94
    (k (.tuple #[(Value.bool false), (Value.int IntKind.i64 181)]) w_95)
    (∃ (I_96 : List Value → World → Prop) (m_97 : List Value → World → Nat), I_96 [(Value.int IntKind.i64 0)] w_95 ∧
  ∀ (g_122 : Fr) (w_121 : World), ∀ atv12_99 : Value, I_96 [atv12_99] w_121 →
    (Pu (nilV t0) fun t83_123 =>
    Pu (faV 1 t83_123) fun t84_124 =>
    Ld w_121 t84_124 fun t85_125 w_126 =>
    Pu (lenV t85_125) fun t86_127 =>
    Pu (binV (TypeDesc.int IntKind.i64) .lss atv12_99 t86_127) fun t87_128 =>
    Gd (isB true t87_128) (fun kk => kk t0 w_126) w_126 fun t89_129 w_130 =>
    Gd (isB true t87_128) (fun kk => Pu (nilV t89_129) fun vv => kk vv w_130) w_130 fun t90_131 w_132 =>
    Gd (isB true t87_128) (fun kk => Pu (faV 1 t90_131) fun vv => kk vv w_132) w_132 fun t91_133 w_134 =>
    Gd (isB true t87_128) (fun kk => Ld w_134 t91_133 kk) w_134 fun t92_135 w_136 =>
    Gd (isB true t87_128) (fun kk => kk atv12_99 w_136) w_136 fun t93_137 w_138 =>
    Gd (isB true t87_128) (fun kk => Pu (ixV 2 t92_135 t93_137) fun vv => kk vv w_138) w_138 fun t94_139 w_140 =>
    Gd (isB true t87_128) (fun kk => Pu (faV 1 t94_139) fun vv => kk vv w_140) w_140 fun t95_141 w_142 =>
    Gd (isB true t87_128) (fun kk => Ld w_142 t95_141 kk) w_142 fun t96_143 w_144 =>
    Gd (isB true t87_128) (fun kk => kk who1 w_144) w_144 fun t97_145 w_146 =>
    Gd (isB true t87_128) (fun kk => Pu (binV (TypeDesc.int IntKind.i64) .lss t96_143 t97_145) fun vv => kk vv w_146) w_146 fun t98_147 w_148 =>
    Pu (pickV t87_128 t98_147 (Value.bool false)) fun t99_149 =>
    IfB t99_149
      (Pu (binV (TypeDesc.int IntKind.i64) .add atv12_99 (Value.int IntKind.i64 1)) fun t101_150 =>
    I_96 [t101_150] w_148 ∧ m_97 [t101_150] w_148 < m_97 [atv12_99] w_121)
      (Pu (nilV t0) fun t104_151 =>
  Pu (faV 1 t104_151) fun t105_152 =>
  Ld w_148 t105_152 fun t106_153 w_154 =>
  Pu (slV 2 t106_153 none (some atv12_99) none) fun t108_155 =>
  RunS Try.prog (Builtin.append_ #[52, 52] 52 #[(Value.slice none 0 0), t108_155]) w_154 fun t109_156 w_157 =>
  RunS Try.prog (Instr.build 84 #[(0, key2), (1, who1)]) w_157 fun t113_158 w_159 =>
  RunS Try.prog (Instr.buildSlice 52 1 #[(0, t113_158)]) w_159 fun t114_160 w_161 =>
  RunS Try.prog (Builtin.append_ #[52, 52] 52 #[t109_156, t114_160]) w_161 fun t115_162 w_163 =>
  Pu (nilV t0) fun t119_164 =>
  Pu (faV 1 t119_164) fun t120_165 =>
  Ld w_163 t120_165 fun t121_166 w_167 =>
  Pu (slV 2 t121_166 (some atv12_99) none none) fun t123_168 =>
  RunS Try.prog (Builtin.append_ #[52, 52] 52 #[t115_162, t123_168]) w_167 fun t124_169 w_170 =>
  Pu (nilV t0) fun t125_171 =>
  Pu (faV 1 t125_171) fun t126_172 =>
  St 1 w_170 t126_172 t124_169 fun u_173 w_174 =>
  k (.tuple #[(Value.bool false), (Value.int IntKind.i64 0)]) w_174)))))
theorem e32 (k : KV) (t0 : Value) (who1 : Value) (key2 : Value) (w : World) : K KD Try.prog 127 (fun j => bif Nat.beq j 7 then [10] else bif Nat.beq j 17 then [12] else []) (fun j =>  none) (Try.f32.body.getD .skip) (retQ Try.prog Try.f32 k) (argF [t0, who1, key2]) w = T32 k t0 who1 key2 w := by kernel_rfl
theorem c32 {k : KV} {t0 : Value} {who1 : Value} {key2 : Value} {w : World} (h : T32 k t0 who1 key2 w) : Cl Try.prog 32 [t0, who1, key2] w k :=
  Cl_of_K KD_sound mixed Try.func32 (by kernel_rfl) (by kernel_rfl) ((e32 k t0 who1 key2 w).symm ▸ h)

/-- Function 33: (*almonry/almonryref10.Table).Holder. -/
def T33 (k : KV) (t0 : Value) (key1 : Value) (w : World) : Prop :=
  ∃ (I_1 : List Value → World → Prop) (m_2 : List Value → World → Nat), I_1 [(Value.int IntKind.i64 0)] w ∧
  ∀ (g_35 : Fr) (w_34 : World), ∀ i6_6 : Value, I_1 [i6_6] w_34 →
    (Pu (nilV t0) fun t9_36 =>
    Pu (faV 0 t9_36) fun t10_37 =>
    Ld w_34 t10_37 fun t11_38 w_39 =>
    Pu (lenV t11_38) fun t12_40 =>
    Pu (binV (TypeDesc.int IntKind.i64) .lss i6_6 t12_40) fun t13_41 =>
    IfB t13_41
      (Pu (nilV t0) fun t17_42 =>
    Pu (faV 0 t17_42) fun t18_43 =>
    Ld w_39 t18_43 fun t19_44 w_45 =>
    Pu (ixV 2 t19_44 i6_6) fun t21_46 =>
    Pu (faV 0 t21_46) fun t22_47 =>
    Ld w_45 t22_47 fun t23_48 w_49 =>
    Pu (binV TypeDesc.string .eql t23_48 key1) fun t25_50 =>
    IfB t25_50
      (Pu (nilV t0) fun t27_51 =>
        Pu (faV 0 t27_51) fun t28_52 =>
        Ld w_49 t28_52 fun t29_53 w_54 =>
        Pu (ixV 2 t29_53 i6_6) fun t31_55 =>
        Pu (faV 1 t31_55) fun t32_56 =>
        Ld w_54 t32_56 fun t33_57 w_58 =>
        k (.tuple #[t33_57, (Value.bool true)]) w_58)
      (Pu (binV (TypeDesc.int IntKind.i64) .add i6_6 (Value.int IntKind.i64 1)) fun t15_59 =>
    I_1 [t15_59] w_49 ∧ m_2 [t15_59] w_49 < m_2 [i6_6] w_34))
      (k (.tuple #[(Value.int IntKind.i64 0), (Value.bool false)]) w_39))
theorem e33 (k : KV) (t0 : Value) (key1 : Value) (w : World) : K KD Try.prog 34 (fun j => bif Nat.beq j 2 then [6] else []) (fun j =>  none) (Try.f33.body.getD .skip) (retQ Try.prog Try.f33 k) (argF [t0, key1]) w = T33 k t0 key1 w := by kernel_rfl
theorem c33 {k : KV} {t0 : Value} {key1 : Value} {w : World} (h : T33 k t0 key1 w) : Cl Try.prog 33 [t0, key1] w k :=
  Cl_of_K KD_sound mixed Try.func33 (by kernel_rfl) (by kernel_rfl) ((e33 k t0 key1 w).symm ▸ h)

/-- Function 34: (*almonry/locks.Table).Waits. -/
def T34 (k : KV) (t0 : Value) (who1 : Value) (w : World) : Prop :=
  Pu (binV (TypeDesc.pointer 77) .eql t0 (Value.pointer none)) fun t9_1 =>
  IfB t9_1
    (k (.tuple #[(Value.string (ByteArray.mk #[])), (Value.bool false)]) w)
    (Pu (nilV t0) fun t12_2 =>
  Pu (faV 1 t12_2) fun t13_3 =>
  Ld w t13_3 fun t14_4 w_5 =>
  RunS Try.prog (Instr.lookup 75 t14_4 who1 true) w_5 fun t16_6 w_7 =>
  Pu (extV t16_6 0) fun t17_8 =>
  Pu (extV t16_6 1) fun t18_9 =>
  k (.tuple #[t17_8, t18_9]) w_7)
theorem e34 (k : KV) (t0 : Value) (who1 : Value) (w : World) : K KD Try.prog 21 (fun j =>  []) (fun j =>  none) (Try.f34.body.getD .skip) (retQ Try.prog Try.f34 k) (argF [t0, who1]) w = T34 k t0 who1 w := by kernel_rfl
theorem c34 {k : KV} {t0 : Value} {who1 : Value} {w : World} (h : T34 k t0 who1 w) : Cl Try.prog 34 [t0, who1] w k :=
  Cl_of_K KD_sound mixed Try.func34 (by kernel_rfl) (by kernel_rfl) ((e34 k t0 who1 w).symm ▸ h)

/-- Function 35: (*almonry/almonryref10.Table).For. -/
def T35 (k : KV) (t0 : Value) (who1 : Value) (w : World) : Prop :=
  ∃ (I_1 : List Value → World → Prop) (m_2 : List Value → World → Nat), I_1 [(Value.int IntKind.i64 0)] w ∧
  ∀ (g_35 : Fr) (w_34 : World), ∀ i6_6 : Value, I_1 [i6_6] w_34 →
    (Pu (nilV t0) fun t9_36 =>
    Pu (faV 1 t9_36) fun t10_37 =>
    Ld w_34 t10_37 fun t11_38 w_39 =>
    Pu (lenV t11_38) fun t12_40 =>
    Pu (binV (TypeDesc.int IntKind.i64) .lss i6_6 t12_40) fun t13_41 =>
    IfB t13_41
      (Pu (nilV t0) fun t17_42 =>
    Pu (faV 1 t17_42) fun t18_43 =>
    Ld w_39 t18_43 fun t19_44 w_45 =>
    Pu (ixV 2 t19_44 i6_6) fun t21_46 =>
    Pu (faV 1 t21_46) fun t22_47 =>
    Ld w_45 t22_47 fun t23_48 w_49 =>
    Pu (binV (TypeDesc.int IntKind.i64) .eql t23_48 who1) fun t25_50 =>
    IfB t25_50
      (Pu (nilV t0) fun t27_51 =>
        Pu (faV 1 t27_51) fun t28_52 =>
        Ld w_49 t28_52 fun t29_53 w_54 =>
        Pu (ixV 2 t29_53 i6_6) fun t31_55 =>
        Pu (faV 0 t31_55) fun t32_56 =>
        Ld w_54 t32_56 fun t33_57 w_58 =>
        k (.tuple #[t33_57, (Value.bool true)]) w_58)
      (Pu (binV (TypeDesc.int IntKind.i64) .add i6_6 (Value.int IntKind.i64 1)) fun t15_59 =>
    I_1 [t15_59] w_49 ∧ m_2 [t15_59] w_49 < m_2 [i6_6] w_34))
      (k (.tuple #[(Value.string (ByteArray.mk #[])), (Value.bool false)]) w_39))
theorem e35 (k : KV) (t0 : Value) (who1 : Value) (w : World) : K KD Try.prog 34 (fun j => bif Nat.beq j 2 then [6] else []) (fun j =>  none) (Try.f35.body.getD .skip) (retQ Try.prog Try.f35 k) (argF [t0, who1]) w = T35 k t0 who1 w := by kernel_rfl
theorem c35 {k : KV} {t0 : Value} {who1 : Value} {w : World} (h : T35 k t0 who1 w) : Cl Try.prog 35 [t0, who1] w k :=
  Cl_of_K KD_sound mixed Try.func35 (by kernel_rfl) (by kernel_rfl) ((e35 k t0 who1 w).symm ▸ h)

/-- Function 36: almonry/almonryref10.Same. -/
def T36 (k : KV) (a0 : Value) (b1 : Value) (w : World) : Prop :=
  Pu (lenV a0) fun t7_1 =>
  Pu (lenV b1) fun t9_2 =>
  Pu (binV (TypeDesc.int IntKind.i64) .neq t7_1 t9_2) fun t10_3 =>
  IfB t10_3
    (k (Value.bool false) w)
    (∃ (I_4 : List Value → World → Prop) (m_5 : List Value → World → Nat), I_4 [(Value.int IntKind.i64 0)] w ∧
  ∀ (g_25 : Fr) (w_24 : World), ∀ i5_8 : Value, I_4 [i5_8] w_24 →
    (Pu (lenV a0) fun t13_26 =>
    Pu (binV (TypeDesc.int IntKind.i64) .lss i5_8 t13_26) fun t14_27 =>
    IfB t14_27
      (Pu (ixV 1 a0 i5_8) fun t19_28 =>
    Ld (World.drew w_24) t19_28 fun t20_29 w_30 =>
    w_30 = (World.drew w_24) ∧
    Pu (ixV 1 b1 i5_8) fun t23_31 =>
    Ld (World.drew w_24) t23_31 fun t24_32 w_33 =>
    w_33 = (World.drew w_24) ∧
    Pu (binV TypeDesc.string .neq t20_29 t24_32) fun t25_34 =>
    IfB t25_34
      (k (Value.bool false) (World.drew w_24))
      (Pu (binV (TypeDesc.int IntKind.i64) .add i5_8 (Value.int IntKind.i64 1)) fun t16_35 =>
    I_4 [t16_35] (World.drew w_24) ∧ m_5 [t16_35] (World.drew w_24) < m_5 [i5_8] w_24))
      (k (Value.bool true) w_24)))
theorem e36 (k : KV) (a0 : Value) (b1 : Value) (w : World) : K KD Try.prog 26 (fun j => bif Nat.beq j 4 then [5] else []) (fun j =>  none) (Try.f36.body.getD .skip) (retQ Try.prog Try.f36 k) (argF [a0, b1]) w = T36 k a0 b1 w := by kernel_rfl
theorem c36 {k : KV} {a0 : Value} {b1 : Value} {w : World} (h : T36 k a0 b1 w) : Cl Try.prog 36 [a0, b1] w k :=
  Cl_of_K KD_sound mixed Try.func36 (by kernel_rfl) (by kernel_rfl) ((e36 k a0 b1 w).symm ▸ h)

/-- Function 37: (*almonry/locks.Table).Held. -/
def T37 (k : KV) (t0 : Value) (who1 : Value) (w : World) : Prop :=
  Pu (binV (TypeDesc.pointer 77) .eql t0 (Value.pointer none)) fun t9_1 =>
  IfB t9_1
    (k (Value.slice none 0 0) w)
    (Pu (nilV t0) fun t11_2 =>
  Pu (faV 0 t11_2) fun t12_3 =>
  Ld w t12_3 fun t13_4 w_5 =>
  RunS Try.prog (Instr.range 74 t13_4) w_5 fun t14_6 w_7 =>
  ∃ (I_8 : List Value → World → Prop) (m_9 : List Value → World → Nat), I_8 [(Value.slice none 0 0)] w_7 ∧
  ∀ (g_27 : Fr) (w_26 : World), ∀ out5_11 : Value, I_8 [out5_11] w_26 →
    (RunS Try.prog (Instr.next t14_6 false 0) w_26 fun t15_28 w_29 =>
    Pu (extV t15_28 0) fun t16_30 =>
    IfB t16_30
      (RunS Try.prog (Instr.entry t14_6) w_29 fun t17_31 w_32 =>
    Pu (extV t17_31 0) fun t18_33 =>
    Pu (extV t17_31 1) fun t19_34 =>
    Pu (binV (TypeDesc.int IntKind.i64) .eql t19_34 who1) fun t22_35 =>
    IfB t22_35
      (RunS Try.prog (Instr.buildSlice 58 1 #[(0, t18_33)]) w_32 fun t25_36 w_37 =>
        RunS Try.prog (Builtin.append_ #[58, 58] 58 #[out5_11, t25_36]) w_37 fun t26_38 w_39 =>
        I_8 [t26_38] w_39 ∧ m_9 [t26_38] w_39 < m_9 [out5_11] w_26)
      (I_8 [out5_11] w_32 ∧ m_9 [out5_11] w_32 < m_9 [out5_11] w_26))
      (Cl Try.prog 49 [out5_11] w_29 fun t28_40 w_41 =>
  k out5_11 w_41)))
theorem e37 (k : KV) (t0 : Value) (who1 : Value) (w : World) : K KD Try.prog 30 (fun j => bif Nat.beq j 5 then [5] else []) (fun j =>  none) (Try.f37.body.getD .skip) (retQ Try.prog Try.f37 k) (argF [t0, who1]) w = T37 k t0 who1 w := by kernel_rfl
theorem c37 {k : KV} {t0 : Value} {who1 : Value} {w : World} (h : T37 k t0 who1 w) : Cl Try.prog 37 [t0, who1] w k :=
  Cl_of_K KD_sound mixed Try.func37 (by kernel_rfl) (by kernel_rfl) ((e37 k t0 who1 w).symm ▸ h)

/-- Function 38: (*almonry/almonryref10.Table).Held. -/
def T38 (k : KV) (t0 : Value) (who1 : Value) (w : World) : Prop :=
  ∃ (I_1 : List Value → World → Prop) (m_2 : List Value → World → Nat), I_1 [(Value.slice none 0 0), (Value.int IntKind.i64 0)] w ∧
  ∀ (g_37 : Fr) (w_36 : World), ∀ out5_4 : Value, ∀ i6_5 : Value, I_1 [out5_4, i6_5] w_36 →
    (Pu (nilV t0) fun t9_38 =>
    Pu (faV 0 t9_38) fun t10_39 =>
    Ld w_36 t10_39 fun t11_40 w_41 =>
    Pu (lenV t11_40) fun t12_42 =>
    Pu (binV (TypeDesc.int IntKind.i64) .lss i6_5 t12_42) fun t13_43 =>
    IfB t13_43
      (Jn (fun vs_68 w_67 => ∀ g_69 : Fr, ∃ out5_45 : Value, vs_68 = [out5_45] ∧
        (Pu (binV (TypeDesc.int IntKind.i64) .add i6_5 (Value.int IntKind.i64 1)) fun t15_70 =>
        I_1 [out5_45, t15_70] w_67 ∧ m_2 [out5_45, t15_70] w_67 < m_2 [out5_4, i6_5] w_36))
      (fun jj_44 =>
      Pu (nilV t0) fun t17_71 =>
      Pu (faV 0 t17_71) fun t18_72 =>
      Ld w_41 t18_72 fun t19_73 w_74 =>
      Pu (ixV 2 t19_73 i6_5) fun t21_75 =>
      Pu (faV 1 t21_75) fun t22_76 =>
      Ld w_74 t22_76 fun t23_77 w_78 =>
      Pu (binV (TypeDesc.int IntKind.i64) .eql t23_77 who1) fun t25_79 =>
      IfB t25_79
        (Pu (nilV t0) fun t28_80 =>
          Pu (faV 0 t28_80) fun t29_81 =>
          Ld w_78 t29_81 fun t30_82 w_83 =>
          Pu (ixV 2 t30_82 i6_5) fun t32_84 =>
          Pu (faV 0 t32_84) fun t33_85 =>
          Ld w_83 t33_85 fun t34_86 w_87 =>
          RunS Try.prog (Instr.buildSlice 58 1 #[(0, t34_86)]) w_87 fun t35_88 w_89 =>
          RunS Try.prog (Builtin.append_ #[58, 58] 58 #[out5_4, t35_88]) w_89 fun t36_90 w_91 =>
          jj_44 [t36_90] w_91)
        (jj_44 [out5_4] w_78)))
      (k out5_4 w_41))
theorem e38 (k : KV) (t0 : Value) (who1 : Value) (w : World) : K KD Try.prog 38 (fun j => bif Nat.beq j 3 then [5, 6] else []) (fun j => bif Nat.beq j 4 then some [5] else none) (Try.f38.body.getD .skip) (retQ Try.prog Try.f38 k) (argF [t0, who1]) w = T38 k t0 who1 w := by kernel_rfl
theorem c38 {k : KV} {t0 : Value} {who1 : Value} {w : World} (h : T38 k t0 who1 w) : Cl Try.prog 38 [t0, who1] w k :=
  Cl_of_K KD_sound mixed Try.func38 (by kernel_rfl) (by kernel_rfl) ((e38 k t0 who1 w).symm ▸ h)

/-- Function 39: (*almonry/locks.Table).Waiting. -/
def T39 (k : KV) (t0 : Value) (w : World) : Prop :=
  Pu (binV (TypeDesc.pointer 77) .eql t0 (Value.pointer none)) fun t4_1 =>
  IfB t4_1
    (k (Value.slice none 0 0) w)
    (Pu (nilV t0) fun t6_2 =>
  Pu (faV 1 t6_2) fun t7_3 =>
  Ld w t7_3 fun t8_4 w_5 =>
  Cl Try.prog 50 [t8_4] w_5 fun t9_6 w_7 =>
  Cl Try.prog 41 [t9_6] w_7 fun t10_8 w_9 =>
  k t10_8 w_9)
theorem e39 (k : KV) (t0 : Value) (w : World) : K KD Try.prog 11 (fun j =>  []) (fun j =>  none) (Try.f39.body.getD .skip) (retQ Try.prog Try.f39 k) (argF [t0]) w = T39 k t0 w := by kernel_rfl
theorem c39 {k : KV} {t0 : Value} {w : World} (h : T39 k t0 w) : Cl Try.prog 39 [t0] w k :=
  Cl_of_K KD_sound mixed Try.func39 (by kernel_rfl) (by kernel_rfl) ((e39 k t0 w).symm ▸ h)

/-- Function 40: (*almonry/almonryref10.Table).Waiting. -/
def T40 (k : KV) (t0 : Value) (w : World) : Prop :=
  ∃ (I_1 : List Value → World → Prop) (m_2 : List Value → World → Nat), I_1 [(Value.slice none 0 0), (Value.int IntKind.i64 0)] w ∧
  ∀ (g_27 : Fr) (w_26 : World), ∀ out3_4 : Value, ∀ i4_5 : Value, I_1 [out3_4, i4_5] w_26 →
    (Pu (nilV t0) fun t7_28 =>
    Pu (faV 1 t7_28) fun t8_29 =>
    Ld w_26 t8_29 fun t9_30 w_31 =>
    Pu (lenV t9_30) fun t10_32 =>
    Pu (binV (TypeDesc.int IntKind.i64) .lss i4_5 t10_32) fun t11_33 =>
    IfB t11_33
      (Pu (nilV t0) fun t16_34 =>
    Pu (faV 1 t16_34) fun t17_35 =>
    Ld w_31 t17_35 fun t18_36 w_37 =>
    Pu (ixV 2 t18_36 i4_5) fun t20_38 =>
    Pu (faV 1 t20_38) fun t21_39 =>
    Ld w_37 t21_39 fun t22_40 w_41 =>
    RunS Try.prog (Instr.buildSlice 35 1 #[(0, t22_40)]) w_41 fun t23_42 w_43 =>
    RunS Try.prog (Builtin.append_ #[35, 35] 35 #[out3_4, t23_42]) w_43 fun t24_44 w_45 =>
    Pu (binV (TypeDesc.int IntKind.i64) .add i4_5 (Value.int IntKind.i64 1)) fun t13_46 =>
    I_1 [t24_44, t13_46] w_45 ∧ m_2 [t24_44, t13_46] w_45 < m_2 [out3_4, i4_5] w_26)
      (k out3_4 w_31))
theorem e40 (k : KV) (t0 : Value) (w : World) : K KD Try.prog 26 (fun j => bif Nat.beq j 3 then [3, 4] else []) (fun j =>  none) (Try.f40.body.getD .skip) (retQ Try.prog Try.f40 k) (argF [t0]) w = T40 k t0 w := by kernel_rfl
theorem c40 {k : KV} {t0 : Value} {w : World} (h : T40 k t0 w) : Cl Try.prog 40 [t0] w k :=
  Cl_of_K KD_sound mixed Try.func40 (by kernel_rfl) (by kernel_rfl) ((e40 k t0 w).symm ▸ h)

/-- Function 43: maps.DeleteFunc[map[string]int,string,int]. -/
def T43 (k : KV) (m0 : Value) (del1 : Value) (w : World) : Prop :=
  RunS Try.prog (Instr.range 74 m0) w fun t7_1 w_2 =>
  ∃ (I_3 : List Value → World → Prop) (m_4 : List Value → World → Nat), I_3 [] w_2 ∧
  ∀ (g_20 : Fr) (w_19 : World), I_3 [] w_19 →
    (RunS Try.prog (Instr.next t7_1 false 0) w_19 fun t8_21 w_22 =>
    Pu (extV t8_21 0) fun t9_23 =>
    IfB t9_23
      (RunS Try.prog (Instr.entry t7_1) w_22 fun t10_24 w_25 =>
    Pu (extV t10_24 0) fun t11_26 =>
    Pu (extV t10_24 1) fun t12_27 =>
    ClV Try.prog del1 [t11_26, t12_27] w_25 fun t16_28 w_29 =>
    IfB t16_28
      (RunS Try.prog (Builtin.delete_ #[74, 9] 0 #[m0, t11_26]) w_29 fun u_30 w_31 =>
        I_3 [] w_31 ∧ m_4 [] w_31 < m_4 [] w_19)
      (I_3 [] w_29 ∧ m_4 [] w_29 < m_4 [] w_19))
      (k (.tuple #[]) w_22))
theorem e43 (k : KV) (m0 : Value) (del1 : Value) (w : World) : K KD Try.prog 19 (fun j => bif Nat.beq j 1 then [] else []) (fun j =>  none) (Try.f43.body.getD .skip) (retQ Try.prog Try.f43 k) (argF [m0, del1]) w = T43 k m0 del1 w := by kernel_rfl
theorem c43 {k : KV} {m0 : Value} {del1 : Value} {w : World} (h : T43 k m0 del1 w) : Cl Try.prog 43 [m0, del1] w k :=
  Cl_of_K KD_sound mixed Try.func43 (by kernel_rfl) (by kernel_rfl) ((e43 k m0 del1 w).symm ▸ h)

/-- Function 44: (*almonry/locks.Table).Release$1. -/
def T44 (k : KV) (t0 : Value) (h1 : Value) (t2 : Value) (w : World) : Prop :=
  Ld w t2 fun t7_1 w_2 =>
  Pu (binV (TypeDesc.int IntKind.i64) .eql h1 t7_1) fun t8_3 =>
  k t8_3 w_2
theorem e44 (k : KV) (t0 : Value) (h1 : Value) (t2 : Value) (w : World) : K KD Try.prog 9 (fun j =>  []) (fun j =>  none) (Try.f44.body.getD .skip) (retQ Try.prog Try.f44 k) (argF [t0, h1, t2]) w = T44 k t0 h1 t2 w := by kernel_rfl
theorem c44 {k : KV} {t0 : Value} {h1 : Value} {t2 : Value} {w : World} (h : T44 k t0 h1 t2 w) : Cl Try.prog 44 [t0, h1, t2] w k :=
  Cl_of_K KD_sound mixed Try.func44 (by kernel_rfl) (by kernel_rfl) ((e44 k t0 h1 t2 w).symm ▸ h)

/-- Function 46: (*almonry/locks.Table).rings. -/
def T46 (k : KV) (t0 : Value) (who1 : Value) (atv2 : Value) (w : World) : Prop :=
  ∃ (I_1 : List Value → World → Prop) (m_2 : List Value → World → Nat), I_1 [atv2] w ∧
  ∀ (g_29 : Fr) (w_28 : World), ∀ atv2_4 : Value, I_1 [atv2_4] w_28 →
    (Pu (binV (TypeDesc.int IntKind.i64) .neq atv2_4 who1) fun t11_30 =>
    IfB t11_30
      (Pu (nilV t0) fun t14_31 =>
    Pu (faV 1 t14_31) fun t15_32 =>
    Ld w_28 t15_32 fun t16_33 w_34 =>
    RunS Try.prog (Instr.lookup 75 t16_33 atv2_4 true) w_34 fun t18_35 w_36 =>
    Pu (extV t18_35 0) fun t19_37 =>
    Pu (extV t18_35 1) fun t20_38 =>
    Pu (unV .not t20_38) fun t22_39 =>
    IfB t22_39
      (k (Value.bool false) w_36)
      (Pu (nilV t0) fun t24_40 =>
    Pu (faV 0 t24_40) fun t25_41 =>
    Ld w_36 t25_41 fun t26_42 w_43 =>
    RunS Try.prog (Instr.lookup 74 t26_42 t19_37 false) w_43 fun t28_44 w_45 =>
    I_1 [t28_44] w_45 ∧ m_2 [t28_44] w_45 < m_2 [atv2_4] w_28))
      (k (Value.bool true) w_28))
theorem e46 (k : KV) (t0 : Value) (who1 : Value) (atv2 : Value) (w : World) : K KD Try.prog 29 (fun j => bif Nat.beq j 1 then [2] else []) (fun j =>  none) (Try.f46.body.getD .skip) (retQ Try.prog Try.f46 k) (argF [t0, who1, atv2]) w = T46 k t0 who1 atv2 w := by kernel_rfl
theorem c46 {k : KV} {t0 : Value} {who1 : Value} {atv2 : Value} {w : World} (h : T46 k t0 who1 atv2 w) : Cl Try.prog 46 [t0, who1, atv2] w k :=
  Cl_of_K KD_sound mixed Try.func46 (by kernel_rfl) (by kernel_rfl) ((e46 k t0 who1 atv2 w).symm ▸ h)

/-- Function 47: (*almonry/almonryref10.Table).quit. -/
def T47 (k : KV) (t0 : Value) (who1 : Value) (w : World) : Prop :=
  ∃ (I_1 : List Value → World → Prop) (m_2 : List Value → World → Nat), I_1 [(Value.slice none 0 0), (Value.int IntKind.i64 0)] w ∧
  ∀ (g_36 : Fr) (w_35 : World), ∀ l4_4 : Value, ∀ i5_5 : Value, I_1 [l4_4, i5_5] w_35 →
    (Pu (nilV t0) fun t8_37 =>
    Pu (faV 1 t8_37) fun t9_38 =>
    Ld w_35 t9_38 fun t10_39 w_40 =>
    Pu (lenV t10_39) fun t11_41 =>
    Pu (binV (TypeDesc.int IntKind.i64) .lss i5_5 t11_41) fun t12_42 =>
    IfB t12_42
      (Jn (fun vs_66 w_65 => ∀ g_67 : Fr, ∃ l4_44 : Value, vs_66 = [l4_44] ∧
        (Pu (binV (TypeDesc.int IntKind.i64) .add i5_5 (Value.int IntKind.i64 1)) fun t14_68 =>
        I_1 [l4_44, t14_68] w_65 ∧ m_2 [l4_44, t14_68] w_65 < m_2 [l4_4, i5_5] w_35))
      (fun jj_43 =>
      Pu (nilV t0) fun t16_69 =>
      Pu (faV 1 t16_69) fun t17_70 =>
      Ld w_40 t17_70 fun t18_71 w_72 =>
      Pu (ixV 2 t18_71 i5_5) fun t20_73 =>
      Pu (faV 1 t20_73) fun t21_74 =>
      Ld w_72 t21_74 fun t22_75 w_76 =>
      Pu (binV (TypeDesc.int IntKind.i64) .neq t22_75 who1) fun t24_77 =>
      IfB t24_77
        (Pu (nilV t0) fun t27_78 =>
          Pu (faV 1 t27_78) fun t28_79 =>
          Ld w_76 t28_79 fun t29_80 w_81 =>
          Pu (ixV 2 t29_80 i5_5) fun t31_82 =>
          LdN 2 w_81 t31_82 fun t32_83 w_84 =>
          RunS Try.prog (Instr.buildSlice 52 1 #[(0, t32_83)]) w_84 fun t33_85 w_86 =>
          RunS Try.prog (Builtin.append_ #[52, 52] 52 #[l4_4, t33_85]) w_86 fun t34_87 w_88 =>
          jj_43 [t34_87] w_88)
        (jj_43 [l4_4] w_76)))
      (Pu (nilV t0) fun t37_89 =>
  Pu (faV 1 t37_89) fun t38_90 =>
  St 1 w_40 t38_90 l4_4 fun u_91 w_92 =>
  k (.tuple #[]) w_92))
theorem e47 (k : KV) (t0 : Value) (who1 : Value) (w : World) : K KD Try.prog 39 (fun j => bif Nat.beq j 2 then [4, 5] else []) (fun j => bif Nat.beq j 3 then some [4] else none) (Try.f47.body.getD .skip) (retQ Try.prog Try.f47 k) (argF [t0, who1]) w = T47 k t0 who1 w := by kernel_rfl
theorem c47 {k : KV} {t0 : Value} {who1 : Value} {w : World} (h : T47 k t0 who1 w) : Cl Try.prog 47 [t0, who1] w k :=
  Cl_of_K KD_sound mixed Try.func47 (by kernel_rfl) (by kernel_rfl) ((e47 k t0 who1 w).symm ▸ h)

/-- Function 48: (*almonry/almonryref10.Table).round. -/
def T48 (k : KV) (t0 : Value) (who1 : Value) (fromv2 : Value) (w : World) : Prop :=
  ∃ (I_1 : List Value → World → Prop) (m_2 : List Value → World → Nat), I_1 [fromv2, (Value.int IntKind.i64 0)] w ∧
  ∀ (g_41 : Fr) (w_40 : World), ∀ atv7_5 : Value, ∀ i8_6 : Value, I_1 [atv7_5, i8_6] w_40 →
    (Pu (nilV t0) fun t16_42 =>
    Pu (faV 1 t16_42) fun t17_43 =>
    Ld w_40 t17_43 fun t18_44 w_45 =>
    Pu (lenV t18_44) fun t19_46 =>
    Pu (binV (TypeDesc.int IntKind.i64) .leq i8_6 t19_46) fun t20_47 =>
    IfB t20_47
      (Pu (binV (TypeDesc.int IntKind.i64) .eql atv7_5 who1) fun t25_48 =>
    IfB t25_48
      (k (Value.bool true) w_45)
      (Cl Try.prog 35 [t0, atv7_5] w_45 fun t29_49 w_50 =>
    Pu (extV t29_49 0) fun t30_51 =>
    Pu (extV t29_49 1) fun t31_52 =>
    Pu (unV .not t31_52) fun t33_53 =>
    IfB t33_53
      (k (Value.bool false) w_50)
      (Cl Try.prog 33 [t0, t30_51] w_50 fun t37_54 w_55 =>
    Pu (extV t37_54 0) fun t38_56 =>
    Pu (extV t37_54 1) fun t39_57 =>
    Pu (unV .not t39_57) fun t41_58 =>
    IfB t41_58
      (k (Value.bool false) w_55)
      (Pu (binV (TypeDesc.int IntKind.i64) .add i8_6 (Value.int IntKind.i64 1)) fun t22_59 =>
    I_1 [t38_56, t22_59] w_55 ∧ m_2 [t38_56, t22_59] w_55 < m_2 [atv7_5, i8_6] w_40))))
      (k (Value.bool false) w_45))
theorem e48 (k : KV) (t0 : Value) (who1 : Value) (fromv2 : Value) (w : World) : K KD Try.prog 43 (fun j => bif Nat.beq j 3 then [7, 8] else []) (fun j =>  none) (Try.f48.body.getD .skip) (retQ Try.prog Try.f48 k) (argF [t0, who1, fromv2]) w = T48 k t0 who1 fromv2 w := by kernel_rfl
theorem c48 {k : KV} {t0 : Value} {who1 : Value} {fromv2 : Value} {w : World} (h : T48 k t0 who1 fromv2 w) : Cl Try.prog 48 [t0, who1, fromv2] w k :=
  Cl_of_K KD_sound mixed Try.func48 (by kernel_rfl) (by kernel_rfl) ((e48 k t0 who1 fromv2 w).symm ▸ h)

end Go.Proofs.Ytgknklnbcjjlkaa
