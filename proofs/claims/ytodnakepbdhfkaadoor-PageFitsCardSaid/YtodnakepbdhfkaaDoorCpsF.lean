import Derived.Test.YtodnakepbdhfkaaDoorAlDraw3
import Derived.Test.YtodnakepbdhfkaaDoorCpsP
import Derived.Test.YtodnakepbdhfkaaDoorRows
namespace Go.Proofs.YtodnakepbdhfkaaDoor
open Go.Al Go.Proofs
set_option maxRecDepth 100000
set_option linter.unusedVariables false
set_option linter.unusedSimpArgs false
/-- Function 9: almonry/almonrylaw03.PageFits. -/
def T9f (k : KV) (p0 : Value) (i1 : Value) (w : World) : Prop :=
  New (Value.cells p0) 24 w fun p2_1 w_2 =>
  LdN 6 w_2 p2_1 fun t17_3 w_4 =>
  Cl Tryd.prog 23 [t17_3] w_4 fun t18_5 w_6 =>
  Pu (extV t18_5 0) fun t19_7 =>
  Pu (extV t18_5 1) fun t20_8 =>
  Pu (binV (TypeDesc.int IntKind.i64) .neq t20_8 (Value.int IntKind.i64 0)) fun t22_9 =>
  Gd (isB false t22_9) (fun kk => kk t19_7 w_6) w_6 fun t24_10 w_11 =>
  Gd (isB false t22_9) (fun kk => Pu (binV TypeDesc.string .eql t24_10 (Value.string (ByteArray.mk #[]))) fun vv => kk vv w_11) w_11 fun t25_12 w_13 =>
  Pu (pickV t22_9 (Value.bool true) t25_12) fun t26_14 =>
  IfB t26_14
    (Cl Tryd.prog 17 [] w_13 fun t27_15 w_16 =>
      Gd (isB true t27_15) (fun kk => kk t19_7 w_16) w_16 fun t29_17 w_18 =>
      Gd (isB true t27_15) (fun kk => Pu (binV TypeDesc.string .eql t29_17 (Value.string (ByteArray.mk #[]))) fun vv => kk vv w_18) w_18 fun t30_19 w_20 =>
      Pu (pickV t27_15 t30_19 (Value.bool false)) fun t31_21 =>
      k t31_21 w_20)
    (LdN 6 w_13 p2_1 fun t32_22 w_23 =>
  Cl Tryd.prog 20 [t32_22] w_23 fun t33_24 w_25 =>
  Jn (fun vs_34 w_33 => ∀ g_35 : Fr, ∃ i1_27 : Value, vs_34 = [i1_27] ∧
      (Pu (faV 5 p2_1) fun t40_36 =>
      Ld w_33 t40_36 fun t41_37 w_38 =>
      Pu (lenV t41_37) fun t42_39 =>
      Pu (binV (TypeDesc.int IntKind.i64) .add t42_39 (Value.int IntKind.i64 1)) fun t43_40 =>
      Pu (binV (TypeDesc.int IntKind.i64) .rem i1_27 t43_40) fun t44_41 =>
      Jn (fun vs_56 w_55 => ∀ g_57 : Fr, ∃ f9_44 : Value, vs_56 = [f9_44] ∧
          (Pu (binV (TypeDesc.int IntKind.i64) .lss t33_24 (Value.int IntKind.i64 0)) fun t56_58 =>
          IfB t56_58
            (Cl Tryd.prog 17 [] w_55 fun t57_59 w_60 =>
              Gd (isB true t57_59) (fun kk => kk t33_24 w_60) w_60 fun t59_61 w_62 =>
              Gd (isB true t57_59) (fun kk => Pu (binV (TypeDesc.int IntKind.i64) .eql t59_61 (Value.int IntKind.i64 (-1))) fun vv => kk vv w_62) w_62 fun t60_63 w_64 =>
              Pu (pickV t57_59 t60_63 (Value.bool false)) fun t61_65 =>
              Gd (isB true t61_65) (fun kk => kk f9_44 w_64) w_64 fun t63_66 w_67 =>
              Gd (isB true t61_65) (fun kk => Pu (binV (TypeDesc.int IntKind.i64) .eql t63_66 (Value.int IntKind.i64 3)) fun vv => kk vv w_67) w_67 fun t64_68 w_69 =>
              Pu (pickV t61_65 t64_68 (Value.bool false)) fun t65_70 =>
              k t65_70 w_69)
            (Jn (fun vs_84 w_83 => ∀ g_85 : Fr, ∃ q10_72 : Value, ∃ g11_73 : Value, vs_84 = [q10_72, g11_73] ∧
              (LdN 6 w_83 q10_72 fun t76_86 w_87 =>
              Cl Tryd.prog 32 [t76_86, t44_41] w_87 fun t78_88 w_89 =>
              Pu (extV t78_88 0) fun t79_90 =>
              Pu (extV t78_88 1) fun t80_91 =>
              New #[(Value.int IntKind.i64 0), (Value.int IntKind.i64 0), (Value.int IntKind.i64 0), (Value.int IntKind.i64 0), (Value.string (ByteArray.mk #[])), (Value.slice none 0 0)] 24 w_89 fun r12_92 w_93 =>
              St 6 w_93 r12_92 t79_90 fun u_94 w_95 =>
              LdN 6 w_95 q10_72 fun t82_96 w_97 =>
              Cl Tryd.prog 23 [t82_96] w_97 fun t83_98 w_99 =>
              Pu (extV t83_98 0) fun t84_100 =>
              Pu (extV t83_98 1) fun t85_101 =>
              Cl Tryd.prog 17 [] w_99 fun t86_102 w_103 =>
              Gd (isB true t86_102) (fun kk => kk f9_44 w_103) w_103 fun t88_104 w_105 =>
              Gd (isB true t86_102) (fun kk => Pu (binV (TypeDesc.int IntKind.i64) .eql t88_104 (Value.int IntKind.i64 3)) fun vv => kk vv w_105) w_105 fun t89_106 w_107 =>
              Pu (pickV t86_102 t89_106 (Value.bool false)) fun t90_108 =>
              Gd (isB true t90_108) (fun kk => kk g11_73 w_107) w_107 fun t92_109 w_110 =>
              Gd (isB true t90_108) (fun kk => Pu (binV (TypeDesc.int IntKind.i64) .eql t92_109 (Value.int IntKind.i64 0)) fun vv => kk vv w_110) w_110 fun t93_111 w_112 =>
              Pu (pickV t90_108 t93_111 (Value.bool false)) fun t94_113 =>
              Gd (isB true t94_113) (fun kk => kk t80_91 w_112) w_112 fun t96_114 w_115 =>
              Gd (isB true t94_113) (fun kk => Pu (binV (TypeDesc.int IntKind.i64) .eql t96_114 (Value.int IntKind.i64 0)) fun vv => kk vv w_115) w_115 fun t97_116 w_117 =>
              Pu (pickV t94_113 t97_116 (Value.bool false)) fun t98_118 =>
              Gd (isB true t98_118) (fun kk => kk t85_101 w_117) w_117 fun t100_119 w_120 =>
              Gd (isB true t98_118) (fun kk => Pu (binV (TypeDesc.int IntKind.i64) .eql t100_119 (Value.int IntKind.i64 0)) fun vv => kk vv w_120) w_120 fun t101_121 w_122 =>
              Pu (pickV t98_118 t101_121 (Value.bool false)) fun t102_123 =>
              Gd (isB true t102_123) (fun kk => LdN 6 w_122 r12_92 kk) w_122 fun t104_124 w_125 =>
              Gd (isB true t102_123) (fun kk => LdN 6 w_125 p2_1 kk) w_125 fun t105_126 w_127 =>
              Gd (isB true t102_123) (fun kk => Cl Tryd.prog 30 [t104_124, t105_126] w_127 kk) w_127 fun t106_128 w_129 =>
              Pu (pickV t102_123 t106_128 (Value.bool false)) fun t107_130 =>
              Gd (isB true t107_130) (fun kk => LdN 6 w_129 q10_72 kk) w_129 fun t109_131 w_132 =>
              Gd (isB true t107_130) (fun kk => Cl Tryd.prog 18 [t109_131] w_132 kk) w_132 fun t110_133 w_134 =>
              Gd (isB true t107_130) (fun kk => Pu (binV (TypeDesc.int IntKind.i64) .leq t110_133 (Value.int IntKind.i64 512)) fun vv => kk vv w_134) w_134 fun t111_135 w_136 =>
              Pu (pickV t107_130 t111_135 (Value.bool false)) fun t112_137 =>
              k t112_137 w_136))
            (fun jj_71 =>
            ∃ C_138 : World → Prop, C_138 (World.drew w_55) ∧
            (∃ t67_139, (∀ w_140, C_138 w_140 → LdN 6 w_140 p2_1 fun t67_141 w_142 =>
            t67_141 = t67_139 ∧ w_142 = w_140) ∧
            ((RunS Tryd.prog (Instr.makeSlice 38 t33_24 t33_24) (World.drew w_55) fun t70_143 w_144 =>
            ∃ C_173 : World → Prop, (∀ w_174, C_173 w_174 → C_138 w_174) ∧ C_173 w_144 ∧
            (∃ t71_175, (∀ w_176, C_173 w_176 → RunS Tryd.prog (convert 38 9 t70_143) w_176 fun t71_177 w_178 =>
            t71_177 = t71_175 ∧ w_178 = w_176) ∧
            ((Cl Tryd.prog 31 [t67_139, t44_41, t71_175] w_144 fun t72_179 w_180 =>
            Pu (extV t72_179 0) fun t73_181 =>
            Pu (extV t72_179 1) fun t74_182 =>
            New #[(Value.int IntKind.i64 0), (Value.int IntKind.i64 0), (Value.int IntKind.i64 0), (Value.int IntKind.i64 0), (Value.string (ByteArray.mk #[])), (Value.slice none 0 0)] 24 w_180 fun q10_183 w_184 =>
            St 6 w_184 q10_183 t73_181 fun u_185 w_186 =>
            jj_71 [q10_183, t74_182] w_186) ∧
            (New #[(Value.int IntKind.i64 0), (Value.int IntKind.i64 0), (Value.int IntKind.i64 0), (Value.int IntKind.i64 0), (Value.string (ByteArray.mk #[])), (Value.slice none 0 0)] 24 w_144 fun q10_187 w_188 =>
            ∃ C_195 : World → Prop, (∀ w_196, C_195 w_196 → C_173 w_196) ∧ C_195 w_188 ∧
            (Cl Tryd.prog 31 [t67_139, t44_41, t71_175] w_188 fun t72_197 w_198 =>
            Pu (extV t72_197 0) fun t73_199 =>
            Pu (extV t72_197 1) fun t74_200 =>
            St 6 w_198 q10_187 t73_199 fun u_201 w_202 =>
            jj_71 [q10_187, t74_200] w_202)) ∧
            True))) ∧
            (New #[(Value.int IntKind.i64 0), (Value.int IntKind.i64 0), (Value.int IntKind.i64 0), (Value.int IntKind.i64 0), (Value.string (ByteArray.mk #[])), (Value.slice none 0 0)] 24 (World.drew w_55) fun q10_203 w_204 =>
            ∃ C_225 : World → Prop, (∀ w_226, C_225 w_226 → C_138 w_226) ∧ C_225 w_204 ∧
            (RunS Tryd.prog (Instr.makeSlice 38 t33_24 t33_24) w_204 fun t70_227 w_228 =>
            ∃ C_237 : World → Prop, (∀ w_238, C_237 w_238 → C_225 w_238) ∧ C_237 w_228 ∧
            (RunS Tryd.prog (convert 38 9 t70_227) w_228 fun t71_239 w_240 =>
            w_240 = w_228 ∧
            Cl Tryd.prog 31 [t67_139, t44_41, t71_239] w_228 fun t72_241 w_242 =>
            Pu (extV t72_241 0) fun t73_243 =>
            Pu (extV t72_241 1) fun t74_244 =>
            St 6 w_242 q10_203 t73_243 fun u_245 w_246 =>
            jj_71 [q10_203, t74_244] w_246))) ∧
            True))))))
        (fun jj_42 =>
        ∃ C_247 : World → Prop, C_247 (World.drew w_38) ∧
        (∃ t46_248, (∀ w_249, C_247 w_249 → LdN 6 w_249 p2_1 fun t46_250 w_251 =>
        t46_250 = t46_248 ∧ w_251 = w_249) ∧
        (Pu (binV (TypeDesc.int IntKind.i64) .add t33_24 (Value.int IntKind.i64 1)) fun t49_252 =>
        (RunS Tryd.prog (Instr.makeSlice 38 t49_252 t49_252) (World.drew w_38) fun t50_253 w_254 =>
        ∃ C_283 : World → Prop, (∀ w_284, C_283 w_284 → C_247 w_284) ∧ C_283 w_254 ∧
        (∃ t51_285, (∀ w_286, C_283 w_286 → RunS Tryd.prog (convert 38 9 t50_253) w_286 fun t51_287 w_288 =>
        t51_287 = t51_285 ∧ w_288 = w_286) ∧
        ((Cl Tryd.prog 31 [t46_248, t44_41, t51_285] w_254 fun t52_289 w_290 =>
        Pu (extV t52_289 0) fun t53_291 =>
        Pu (extV t52_289 1) fun t54_292 =>
        New #[(Value.int IntKind.i64 0), (Value.int IntKind.i64 0), (Value.int IntKind.i64 0), (Value.int IntKind.i64 0), (Value.string (ByteArray.mk #[])), (Value.slice none 0 0)] 24 w_290 fun t8_293 w_294 =>
        St 6 w_294 t8_293 t53_291 fun u_295 w_296 =>
        jj_42 [t54_292] w_296) ∧
        (New #[(Value.int IntKind.i64 0), (Value.int IntKind.i64 0), (Value.int IntKind.i64 0), (Value.int IntKind.i64 0), (Value.string (ByteArray.mk #[])), (Value.slice none 0 0)] 24 w_254 fun t8_297 w_298 =>
        ∃ C_305 : World → Prop, (∀ w_306, C_305 w_306 → C_283 w_306) ∧ C_305 w_298 ∧
        (Cl Tryd.prog 31 [t46_248, t44_41, t51_285] w_298 fun t52_307 w_308 =>
        Pu (extV t52_307 0) fun t53_309 =>
        Pu (extV t52_307 1) fun t54_310 =>
        St 6 w_308 t8_297 t53_309 fun u_311 w_312 =>
        jj_42 [t54_310] w_312)) ∧
        True))) ∧
        (New #[(Value.int IntKind.i64 0), (Value.int IntKind.i64 0), (Value.int IntKind.i64 0), (Value.int IntKind.i64 0), (Value.string (ByteArray.mk #[])), (Value.slice none 0 0)] 24 (World.drew w_38) fun t8_313 w_314 =>
        ∃ C_335 : World → Prop, (∀ w_336, C_335 w_336 → C_247 w_336) ∧ C_335 w_314 ∧
        (RunS Tryd.prog (Instr.makeSlice 38 t49_252 t49_252) w_314 fun t50_337 w_338 =>
        ∃ C_347 : World → Prop, (∀ w_348, C_347 w_348 → C_335 w_348) ∧ C_347 w_338 ∧
        (RunS Tryd.prog (convert 38 9 t50_337) w_338 fun t51_349 w_350 =>
        w_350 = w_338 ∧
        Cl Tryd.prog 31 [t46_248, t44_41, t51_349] w_338 fun t52_351 w_352 =>
        Pu (extV t52_351 0) fun t53_353 =>
        Pu (extV t52_351 1) fun t54_354 =>
        St 6 w_352 t8_313 t53_353 fun u_355 w_356 =>
        jj_42 [t54_354] w_356))) ∧
        True)))))
    (fun jj_26 =>
    Pu (binV (TypeDesc.int IntKind.i64) .lss i1 (Value.int IntKind.i64 0)) fun t35_357 =>
    IfB t35_357
      (Pu (binV (TypeDesc.int IntKind.i64) .add i1 (Value.int IntKind.i64 1)) fun t37_358 =>
        Pu (unV .neg t37_358) fun t38_359 =>
        jj_26 [t38_359] w_25)
      (jj_26 [i1] w_25)))
theorem e9f (k : KV) (p0 : Value) (i1 : Value) (w : World) : K KD3 Tryd.prog 113 (fun j =>  []) (fun j => bif Nat.beq j 7 then some [1] else bif Nat.beq j 9 then some [9] else bif Nat.beq j 12 then some [10, 11] else none) (Tryd.f9.body.getD .skip) (retQ Tryd.prog Tryd.f9 k) (argF [p0, i1]) w = T9f k p0 i1 w := by kernel_rfl
theorem c9f {k : KV} {p0 : Value} {i1 : Value} {w : World} (h : T9f k p0 i1 w) : Cl Tryd.prog 9 [p0, i1] w k :=
  Cl_of_K KD3_sound mixed Tryd.func9 (by kernel_rfl) (by kernel_rfl) ((e9f k p0 i1 w).symm ▸ h)

end Go.Proofs.YtodnakepbdhfkaaDoor
