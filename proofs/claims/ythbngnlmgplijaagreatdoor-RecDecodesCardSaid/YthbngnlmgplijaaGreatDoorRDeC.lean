/- Laid for one claim by slim.py out of: CpsQ RcBits RcPure RcMem RcEnc RcEnc2. -/
import Derived.Test.YthbngnlmgplijaaGreatDoorRDeB
namespace Go.Proofs.YthbngnlmgplijaaGreatDoor
open Go.Al Go.Proofs
set_option maxRecDepth 100000
set_option linter.unusedVariables false
set_option linter.unusedSimpArgs false
/-- Function 13: almonry/rec.Decode. -/
def T13 (k : KV) (s0 : Value) (w : World) : Prop :=
  New #[(Value.int IntKind.i64 0), (Value.int IntKind.i64 0), (Value.int IntKind.i64 0), (Value.int IntKind.u8 0), (Value.int IntKind.i64 0), (Value.int IntKind.i64 0), (Value.int IntKind.i64 0), (Value.int IntKind.i64 0), (Value.int IntKind.i64 0), (Value.int IntKind.i64 0), (Value.string (ByteArray.mk #[])), (Value.slice none 0 0), (Value.slice none 0 0), (Value.slice none 0 0), (Value.slice none 0 0), (Value.slice none 0 0)] 28 w fun t2_1 w_2 =>
  Pu (lenS s0) fun t12_3 =>
  Pu (binV (TypeDesc.int IntKind.i64) .lss t12_3 (Value.int IntKind.i64 8)) fun t13_4 =>
  IfB t13_4
    (RunS Tryz.prog (Instr.build 28 #[]) w_2 fun t14_5 w_6 =>
      St 16 w_6 t2_1 t14_5 fun u_7 w_8 =>
      RetO (resL Tryz.prog (fun j => bif Nat.beq j 2 then t2_1 else bif Nat.beq j 3 then (Value.int IntKind.i64 0) else bif Nat.beq j 4 then (Value.int IntKind.i64 40) else undef) w_8 [(ResultVar.cell 2 28), (ResultVar.tmp 3), (ResultVar.tmp 4)]) w_8 k)
    (Pu (slS s0 none (some (Value.int IntKind.i64 4))) fun t16_9 =>
  Cl Tryz.prog 79 [t16_9] w_2 fun t17_10 w_11 =>
  Pu (binV (TypeDesc.int IntKind.i64) .eql t17_10 (Value.int IntKind.i64 0)) fun t20_12 =>
  Gd (isB false t20_12) (fun kk => kk t17_10 w_11) w_11 fun t22_13 w_14 =>
  Gd (isB false t20_12) (fun kk => Pu (binV (TypeDesc.int IntKind.i64) .gtr t22_13 (Value.int IntKind.i64 65535)) fun vv => kk vv w_14) w_14 fun t23_15 w_16 =>
  Pu (pickV t20_12 (Value.bool true) t23_15) fun t24_17 =>
  IfB t24_17
    (RunS Tryz.prog (Instr.build 28 #[]) w_16 fun t25_18 w_19 =>
      St 16 w_19 t2_1 t25_18 fun u_20 w_21 =>
      RetO (resL Tryz.prog (fun j => bif Nat.beq j 2 then t2_1 else bif Nat.beq j 3 then (Value.int IntKind.i64 0) else bif Nat.beq j 4 then (Value.int IntKind.i64 41) else undef) w_21 [(ResultVar.cell 2 28), (ResultVar.tmp 3), (ResultVar.tmp 4)]) w_21 k)
    (Pu (lenS s0) fun t28_22 =>
      Pu (binV (TypeDesc.int IntKind.i64) .add (Value.int IntKind.i64 8) t17_10) fun t30_23 =>
      Pu (binV (TypeDesc.int IntKind.i64) .lss t28_22 t30_23) fun t31_24 =>
      IfB t31_24
        (RunS Tryz.prog (Instr.build 28 #[]) w_16 fun t32_25 w_26 =>
          St 16 w_26 t2_1 t32_25 fun u_27 w_28 =>
          RetO (resL Tryz.prog (fun j => bif Nat.beq j 2 then t2_1 else bif Nat.beq j 3 then (Value.int IntKind.i64 0) else bif Nat.beq j 4 then (Value.int IntKind.i64 40) else undef) w_28 [(ResultVar.cell 2 28), (ResultVar.tmp 3), (ResultVar.tmp 4)]) w_28 k)
        (Pu (binV (TypeDesc.int IntKind.i64) .add (Value.int IntKind.i64 8) t17_10) fun t35_29 =>
  Pu (slS s0 (some (Value.int IntKind.i64 8)) (some t35_29)) fun t36_30 =>
  Pu (slS s0 (some (Value.int IntKind.i64 4)) (some (Value.int IntKind.i64 8))) fun t38_31 =>
  Cl Tryz.prog 79 [t38_31] w_16 fun t39_32 w_33 =>
  Cl Tryz.prog 80 [t36_30] w_33 fun t41_34 w_35 =>
  Pu (cvI IntKind.i64 t41_34) fun t42_36 =>
  Pu (binV (TypeDesc.int IntKind.i64) .neq t39_32 t42_36) fun t43_37 =>
  IfB t43_37
    (RunS Tryz.prog (Instr.build 28 #[]) w_35 fun t44_38 w_39 =>
      St 16 w_39 t2_1 t44_38 fun u_40 w_41 =>
      RetO (resL Tryz.prog (fun j => bif Nat.beq j 2 then t2_1 else bif Nat.beq j 3 then (Value.int IntKind.i64 0) else bif Nat.beq j 4 then (Value.int IntKind.i64 30) else undef) w_41 [(ResultVar.cell 2 28), (ResultVar.tmp 3), (ResultVar.tmp 4)]) w_41 k)
    (Cl Tryz.prog 81 [t36_30] w_35 fun t47_42 w_43 =>
  Pu (extV t47_42 0) fun t48_44 =>
  Pu (extV t47_42 1) fun t49_45 =>
  New #[(Value.int IntKind.i64 0), (Value.int IntKind.i64 0), (Value.int IntKind.i64 0), (Value.int IntKind.u8 0), (Value.int IntKind.i64 0), (Value.int IntKind.i64 0), (Value.int IntKind.i64 0), (Value.int IntKind.i64 0), (Value.int IntKind.i64 0), (Value.int IntKind.i64 0), (Value.string (ByteArray.mk #[])), (Value.slice none 0 0), (Value.slice none 0 0), (Value.slice none 0 0), (Value.slice none 0 0), (Value.slice none 0 0)] 28 w_43 fun r7_46 w_47 =>
  St 16 w_47 r7_46 t48_44 fun u_48 w_49 =>
  Pu (unV .not t49_45) fun t51_50 =>
  IfB t51_50
    (RunS Tryz.prog (Instr.build 28 #[]) w_49 fun t52_51 w_52 =>
      St 16 w_52 t2_1 t52_51 fun u_53 w_54 =>
      RetO (resL Tryz.prog (fun j => bif Nat.beq j 2 then t2_1 else bif Nat.beq j 3 then (Value.int IntKind.i64 0) else bif Nat.beq j 4 then (Value.int IntKind.i64 41) else undef) w_54 [(ResultVar.cell 2 28), (ResultVar.tmp 3), (ResultVar.tmp 4)]) w_54 k)
    (LdN 16 w_49 r7_46 fun t54_55 w_56 =>
  Cl Tryz.prog 82 [t54_55] w_56 fun t55_57 w_58 =>
  Pu (extV t55_57 0) fun t56_59 =>
  Pu (extV t55_57 1) fun t57_60 =>
  Pu (binV (TypeDesc.int IntKind.i64) .neq t57_60 (Value.int IntKind.i64 0)) fun t59_61 =>
  Gd (isB false t59_61) (fun kk => kk t56_59 w_58) w_58 fun t61_62 w_63 =>
  Gd (isB false t59_61) (fun kk => kk t36_30 w_63) w_63 fun t62_64 w_65 =>
  Gd (isB false t59_61) (fun kk => Pu (binV TypeDesc.string .neq t61_62 t62_64) fun vv => kk vv w_65) w_65 fun t63_66 w_67 =>
  Pu (pickV t59_61 (Value.bool true) t63_66) fun t64_68 =>
  IfB t64_68
    (RunS Tryz.prog (Instr.build 28 #[]) w_67 fun t65_69 w_70 =>
      St 16 w_70 t2_1 t65_69 fun u_71 w_72 =>
      RetO (resL Tryz.prog (fun j => bif Nat.beq j 2 then t2_1 else bif Nat.beq j 3 then (Value.int IntKind.i64 0) else bif Nat.beq j 4 then (Value.int IntKind.i64 41) else undef) w_72 [(ResultVar.cell 2 28), (ResultVar.tmp 3), (ResultVar.tmp 4)]) w_72 k)
    (LdN 16 w_67 r7_46 fun t66_73 w_74 =>
  Pu (binV (TypeDesc.int IntKind.i64) .add (Value.int IntKind.i64 8) t17_10) fun t68_75 =>
  St 16 w_74 t2_1 t66_73 fun u_76 w_77 =>
  RetO (resL Tryz.prog (fun j => bif Nat.beq j 2 then t2_1 else bif Nat.beq j 3 then t68_75 else bif Nat.beq j 4 then (Value.int IntKind.i64 0) else undef) w_77 [(ResultVar.cell 2 28), (ResultVar.tmp 3), (ResultVar.tmp 4)]) w_77 k))))))
theorem e13 (k : KV) (s0 : Value) (w : World) : K KD Tryz.prog 69 (fun j =>  []) (fun j =>  none) (Tryz.f13.body.getD .skip) (retQ Tryz.prog Tryz.f13 k) (argF [s0]) w = T13 k s0 w := by kernel_rfl
theorem c13 {k : KV} {s0 : Value} {w : World} (h : T13 k s0 w) : Cl Tryz.prog 13 [s0] w k :=
  Cl_of_K KD_sound mixed Tryz.func13 (by kernel_rfl) (by kernel_rfl) ((e13 k s0 w).symm ▸ h)

/-- Function 81: almonry/rec.outer. -/
def T81 (k : KV) (s0 : Value) (w : World) : Prop :=
  New #[(Value.int IntKind.i64 0), (Value.int IntKind.i64 0), (Value.int IntKind.i64 0), (Value.int IntKind.u8 0), (Value.int IntKind.i64 0), (Value.int IntKind.i64 0), (Value.int IntKind.i64 0), (Value.int IntKind.i64 0), (Value.int IntKind.i64 0), (Value.int IntKind.i64 0), (Value.string (ByteArray.mk #[])), (Value.slice none 0 0), (Value.slice none 0 0), (Value.slice none 0 0), (Value.slice none 0 0), (Value.slice none 0 0)] 28 w fun t2_1 w_2 =>
  Cl Tryz.prog 148 [s0] w_2 fun t12_3 w_4 =>
  New #[(Value.pointer none)] 181 w_4 fun r4_5 w_6 =>
  St 1 w_6 r4_5 t12_3 fun u_7 w_8 =>
  New #[(Value.int IntKind.i64 0), (Value.int IntKind.i64 0), (Value.int IntKind.i64 0), (Value.int IntKind.u8 0), (Value.int IntKind.i64 0), (Value.int IntKind.i64 0), (Value.int IntKind.i64 0), (Value.int IntKind.i64 0), (Value.int IntKind.i64 0), (Value.int IntKind.i64 0), (Value.string (ByteArray.mk #[])), (Value.slice none 0 0), (Value.slice none 0 0), (Value.slice none 0 0), (Value.slice none 0 0), (Value.slice none 0 0)] 28 w_8 fun x5_9 w_10 =>
  ClV Tryz.prog (.func (Fn.func 149) #[] #[r4_5]) [] w_10 fun t15_11 w_12 =>
  ClV Tryz.prog (.func (Fn.func 149) #[] #[r4_5]) [] w_12 fun t17_13 w_14 =>
  ClV Tryz.prog (.func (Fn.func 149) #[] #[r4_5]) [] w_14 fun t19_15 w_16 =>
  Pu (faV 0 x5_9) fun t20_17 =>
  St 1 w_16 t20_17 t15_11 fun u_18 w_19 =>
  Pu (faV 1 x5_9) fun t21_20 =>
  St 1 w_19 t21_20 t17_13 fun u_21 w_22 =>
  Pu (faV 2 x5_9) fun t22_23 =>
  St 1 w_22 t22_23 t19_15 fun u_24 w_25 =>
  Ld w_25 r4_5 fun t23_26 w_27 =>
  Cl Tryz.prog 150 [t23_26, (Value.int IntKind.i64 13)] w_27 fun t24_28 w_29 =>
  Pu (cvI IntKind.u8 t24_28) fun t25_30 =>
  Pu (faV 3 x5_9) fun t26_31 =>
  St 1 w_29 t26_31 t25_30 fun u_32 w_33 =>
  ClV Tryz.prog (.func (Fn.func 149) #[] #[r4_5]) [] w_33 fun t28_34 w_35 =>
  ClV Tryz.prog (.func (Fn.func 149) #[] #[r4_5]) [] w_35 fun t30_36 w_37 =>
  ClV Tryz.prog (.func (Fn.func 149) #[] #[r4_5]) [] w_37 fun t32_38 w_39 =>
  ClV Tryz.prog (.func (Fn.func 149) #[] #[r4_5]) [] w_39 fun t34_40 w_41 =>
  ClV Tryz.prog (.func (Fn.func 149) #[] #[r4_5]) [] w_41 fun t36_42 w_43 =>
  ClV Tryz.prog (.func (Fn.func 149) #[] #[r4_5]) [] w_43 fun t38_44 w_45 =>
  Pu (faV 4 x5_9) fun t39_46 =>
  St 1 w_45 t39_46 t28_34 fun u_47 w_48 =>
  Pu (faV 5 x5_9) fun t40_49 =>
  St 1 w_48 t40_49 t30_36 fun u_50 w_51 =>
  Pu (faV 6 x5_9) fun t41_52 =>
  St 1 w_51 t41_52 t32_38 fun u_53 w_54 =>
  Pu (faV 7 x5_9) fun t42_55 =>
  St 1 w_54 t42_55 t34_40 fun u_56 w_57 =>
  Pu (faV 8 x5_9) fun t43_58 =>
  St 1 w_57 t43_58 t36_42 fun u_59 w_60 =>
  Pu (faV 9 x5_9) fun t44_61 =>
  St 1 w_60 t44_61 t38_44 fun u_62 w_63 =>
  Ld w_63 r4_5 fun t45_64 w_65 =>
  Cl Tryz.prog 151 [t45_64, (Value.int IntKind.i64 512)] w_65 fun t46_66 w_67 =>
  Pu (faV 10 x5_9) fun t47_68 =>
  St 1 w_67 t47_68 t46_66 fun u_69 w_70 =>
  ∃ C_71 : World → Prop, C_71 (World.drew w_70) ∧
  (Ld (World.drew w_70) r4_5 fun t48_72 w_73 =>
  w_73 = (World.drew w_70) ∧
  ∃ t50_74, (∀ w_75, C_71 w_75 → Ld w_75 r4_5 fun t50_76 w_77 =>
  t50_76 = t50_74 ∧ w_77 = w_75) ∧
  (Cl Tryz.prog 152 [t48_72, (Value.int IntKind.i64 255)] (World.drew w_70) fun t49_78 w_79 =>
  C_71 w_79 ∧
  (Pu (faV 11 x5_9) fun t52_80 =>
  Cl Tryz.prog 152 [t50_74, (Value.int IntKind.i64 255)] w_79 fun t51_81 w_82 =>
  St 1 w_82 t52_80 t49_78 fun u_83 w_84 =>
  Pu (faV 12 x5_9) fun t53_85 =>
  St 1 w_84 t53_85 t51_81 fun u_86 w_87 =>
  Ld w_87 r4_5 fun t54_88 w_89 =>
  Cl Tryz.prog 150 [t54_88, (Value.int IntKind.i64 4)] w_89 fun t55_90 w_91 =>
  ∃ (I_92 : List Value → World → Prop) (m_93 : List Value → World → Nat), I_92 [(Value.int IntKind.i64 0)] w_91 ∧
  ∀ (g_134 : Fr) (w_133 : World), ∀ t56_100 : Value, I_92 [t56_100] w_133 →
    (Pu (binV (TypeDesc.int IntKind.i64) .lss t56_100 t55_90) fun t57_135 =>
    IfB t57_135
      (∃ C_136 : World → Prop, C_136 (World.drew w_133) ∧
    (∃ t60_137, (∀ w_138, C_136 w_138 → Ld w_138 r4_5 fun t60_139 w_140 =>
    t60_139 = t60_137 ∧ w_140 = w_138) ∧
    (ClV Tryz.prog (.func (Fn.func 149) #[] #[r4_5]) [] (World.drew w_133) fun t59_141 w_142 =>
    C_136 w_142 ∧
    (Cl Tryz.prog 151 [t60_137, (Value.int IntKind.i64 512)] w_142 fun t61_143 w_144 =>
    Pu (lenS t61_143) fun t65_145 =>
    Pu (binV (TypeDesc.int IntKind.i64) .sub (Value.int IntKind.i64 512) t65_145) fun t66_146 =>
    Cl Tryz.prog 95 [(Value.string (ByteArray.mk #[0])), t66_146] w_144 fun t67_147 w_148 =>
    Pu (binV TypeDesc.string .add t61_143 t67_147) fun t68_149 =>
    Cl Tryz.prog 41 [t68_149] w_148 fun t69_150 w_151 =>
    Pu (extV t69_150 0) fun t70_152 =>
    Pu (extV t69_150 1) fun t71_153 =>
    New #[(Value.int IntKind.i64 0), (Value.int IntKind.i64 0), (Value.int IntKind.i64 0), (Value.int IntKind.i64 0), (Value.string (ByteArray.mk #[])), (Value.slice none 0 0)] 61 w_151 fun p9_154 w_155 =>
    St 6 w_155 p9_154 t70_152 fun u_156 w_157 =>
    Pu (binV (TypeDesc.int IntKind.i64) .neq t71_153 (Value.int IntKind.i64 0)) fun t73_158 =>
    Gd (isB false t73_158) (fun kk => Ld w_157 r4_5 kk) w_157 fun t75_159 w_160 =>
    Gd (isB false t73_158) (fun kk => Cl Tryz.prog 153 [t75_159] w_160 kk) w_160 fun t76_161 w_162 =>
    Gd (isB false t73_158) (fun kk => Pu (binV (TypeDesc.int IntKind.i64) .neq t76_161 (Value.int IntKind.i64 0)) fun vv => kk vv w_162) w_162 fun t77_163 w_164 =>
    Pu (pickV t73_158 (Value.bool true) t77_163) fun t78_165 =>
    IfB t78_165
      (LdN 16 w_164 x5_9 fun t79_166 w_167 =>
        St 16 w_167 t2_1 t79_166 fun u_168 w_169 =>
        RetO (resL Tryz.prog (fun j => bif Nat.beq j 2 then t2_1 else bif Nat.beq j 3 then (Value.bool false) else undef) w_169 [(ResultVar.cell 2 28), (ResultVar.tmp 3)]) w_169 k)
      (Pu (faV 13 x5_9) fun t80_170 =>
    Ld w_164 t80_170 fun t81_171 w_172 =>
    LdN 6 w_172 p9_154 fun t83_173 w_174 =>
    RunS Tryz.prog (Instr.build 118 #[(0, t59_141), (1, t83_173)]) w_174 fun t84_175 w_176 =>
    RunS Tryz.prog (Instr.buildSlice 24 1 #[(0, t84_175)]) w_176 fun t85_177 w_178 =>
    RunS Tryz.prog (Builtin.append_ #[24, 24] 24 #[t81_171, t85_177]) w_178 fun t86_179 w_180 =>
    Pu (faV 13 x5_9) fun t87_181 =>
    St 1 w_180 t87_181 t86_179 fun u_182 w_183 =>
    Pu (binV (TypeDesc.int IntKind.i64) .add t56_100 (Value.int IntKind.i64 1)) fun t88_184 =>
    I_92 [t88_184] w_183 ∧ m_93 [t88_184] w_183 < m_93 [t56_100] w_133)))))
      (Ld w_133 r4_5 fun t89_185 w_186 =>
  Cl Tryz.prog 150 [t89_185, (Value.int IntKind.i64 8192)] w_186 fun t90_187 w_188 =>
  ∃ (I_189 : List Value → World → Prop) (m_190 : List Value → World → Nat), I_189 [(Value.int IntKind.i64 0)] w_188 ∧
  ∀ (g_211 : Fr) (w_210 : World), ∀ t91_193 : Value, I_189 [t91_193] w_210 →
    (Pu (binV (TypeDesc.int IntKind.i64) .lss t91_193 t90_187) fun t92_212 =>
    IfB t92_212
      (Ld w_210 r4_5 fun t93_213 w_214 =>
    Cl Tryz.prog 153 [t93_213] w_214 fun t94_215 w_216 =>
    Pu (binV (TypeDesc.int IntKind.i64) .neq t94_215 (Value.int IntKind.i64 0)) fun t95_217 =>
    IfB t95_217
      (LdN 16 w_216 x5_9 fun t96_218 w_219 =>
        St 16 w_219 t2_1 t96_218 fun u_220 w_221 =>
        RetO (resL Tryz.prog (fun j => bif Nat.beq j 2 then t2_1 else bif Nat.beq j 3 then (Value.bool false) else undef) w_221 [(ResultVar.cell 2 28), (ResultVar.tmp 3)]) w_221 k)
      (∃ C_222 : World → Prop, C_222 (World.drew w_216) ∧
    (Pu (faV 14 x5_9) fun t97_223 =>
    ∃ t98_224, (∀ w_225, C_222 w_225 → Ld w_225 t97_223 fun t98_226 w_227 =>
    t98_226 = t98_224 ∧ w_227 = w_225) ∧
    (ClV Tryz.prog (.func (Fn.func 149) #[] #[r4_5]) [] (World.drew w_216) fun t100_228 w_229 =>
    C_222 w_229 ∧
    (ClV Tryz.prog (.func (Fn.func 149) #[] #[r4_5]) [] w_229 fun t102_230 w_231 =>
    C_222 w_231 ∧
    (RunS Tryz.prog (Instr.build 120 #[(0, t100_228), (1, t102_230)]) w_231 fun t103_232 w_233 =>
    w_233 = w_231 ∧
    RunS Tryz.prog (Instr.buildSlice 25 1 #[(0, t103_232)]) w_231 fun t104_234 w_235 =>
    C_222 w_235 ∧
    (RunS Tryz.prog (Builtin.append_ #[25, 25] 25 #[t98_224, t104_234]) w_235 fun t105_236 w_237 =>
    Pu (faV 14 x5_9) fun t106_238 =>
    St 1 w_237 t106_238 t105_236 fun u_239 w_240 =>
    Pu (binV (TypeDesc.int IntKind.i64) .add t91_193 (Value.int IntKind.i64 1)) fun t107_241 =>
    I_189 [t107_241] w_240 ∧ m_190 [t107_241] w_240 < m_190 [t91_193] w_210)))))))
      (Ld w_210 r4_5 fun t108_242 w_243 =>
  Cl Tryz.prog 150 [t108_242, (Value.int IntKind.i64 1024)] w_243 fun t109_244 w_245 =>
  ∃ (I_246 : List Value → World → Prop) (m_247 : List Value → World → Nat), I_246 [(Value.int IntKind.i64 0)] w_245 ∧
  ∀ (g_268 : Fr) (w_267 : World), ∀ t110_250 : Value, I_246 [t110_250] w_267 →
    (Pu (binV (TypeDesc.int IntKind.i64) .lss t110_250 t109_244) fun t111_269 =>
    IfB t111_269
      (Ld w_267 r4_5 fun t112_270 w_271 =>
    Cl Tryz.prog 153 [t112_270] w_271 fun t113_272 w_273 =>
    Pu (binV (TypeDesc.int IntKind.i64) .neq t113_272 (Value.int IntKind.i64 0)) fun t114_274 =>
    IfB t114_274
      (LdN 16 w_273 x5_9 fun t115_275 w_276 =>
        St 16 w_276 t2_1 t115_275 fun u_277 w_278 =>
        RetO (resL Tryz.prog (fun j => bif Nat.beq j 2 then t2_1 else bif Nat.beq j 3 then (Value.bool false) else undef) w_278 [(ResultVar.cell 2 28), (ResultVar.tmp 3)]) w_278 k)
      (∃ C_279 : World → Prop, C_279 (World.drew w_273) ∧
    (Pu (faV 15 x5_9) fun t116_280 =>
    ∃ t117_281, (∀ w_282, C_279 w_282 → Ld w_282 t116_280 fun t117_283 w_284 =>
    t117_283 = t117_281 ∧ w_284 = w_282) ∧
    (ClV Tryz.prog (.func (Fn.func 149) #[] #[r4_5]) [] (World.drew w_273) fun t119_285 w_286 =>
    C_279 w_286 ∧
    (ClV Tryz.prog (.func (Fn.func 149) #[] #[r4_5]) [] w_286 fun t121_287 w_288 =>
    C_279 w_288 ∧
    (RunS Tryz.prog (Instr.build 122 #[(0, t119_285), (1, t121_287)]) w_288 fun t122_289 w_290 =>
    w_290 = w_288 ∧
    RunS Tryz.prog (Instr.buildSlice 26 1 #[(0, t122_289)]) w_288 fun t123_291 w_292 =>
    C_279 w_292 ∧
    (RunS Tryz.prog (Builtin.append_ #[26, 26] 26 #[t117_281, t123_291]) w_292 fun t124_293 w_294 =>
    Pu (faV 15 x5_9) fun t125_295 =>
    St 1 w_294 t125_295 t124_293 fun u_296 w_297 =>
    Pu (binV (TypeDesc.int IntKind.i64) .add t110_250 (Value.int IntKind.i64 1)) fun t126_298 =>
    I_246 [t126_298] w_297 ∧ m_247 [t126_298] w_297 < m_247 [t110_250] w_267)))))))
      (∃ C_299 : World → Prop, C_299 (World.drew w_267) ∧
  (∃ t127_300, (∀ w_301, C_299 w_301 → LdN 16 w_301 x5_9 fun t127_302 w_303 =>
  t127_302 = t127_300 ∧ w_303 = w_301) ∧
  (Ld (World.drew w_267) r4_5 fun t128_304 w_305 =>
  w_305 = (World.drew w_267) ∧
  Cl Tryz.prog 154 [t128_304] (World.drew w_267) fun t129_306 w_307 =>
  C_299 w_307 ∧
  (Pu (binV (TypeDesc.int IntKind.i64) .eql t129_306 (Value.int IntKind.i64 0)) fun t130_308 =>
  St 16 w_307 t2_1 t127_300 fun u_309 w_310 =>
  RetO (resL Tryz.prog (fun j => bif Nat.beq j 2 then t2_1 else bif Nat.beq j 3 then t130_308 else undef) w_310 [(ResultVar.cell 2 28), (ResultVar.tmp 3)]) w_310 k))))))))))))
theorem e81 (k : KV) (s0 : Value) (w : World) : K KD Tryz.prog 131 (fun j => bif Nat.beq j 24 then [110] else bif Nat.beq j 18 then [91] else bif Nat.beq j 10 then [56] else []) (fun j =>  none) (Tryz.f81.body.getD .skip) (retQ Tryz.prog Tryz.f81 k) (argF [s0]) w = T81 k s0 w := by kernel_rfl
theorem c81 {k : KV} {s0 : Value} {w : World} (h : T81 k s0 w) : Cl Tryz.prog 81 [s0] w k :=
  Cl_of_K KD_sound mixed Tryz.func81 (by kernel_rfl) (by kernel_rfl) ((e81 k s0 w).symm ▸ h)

/-- Function 82: almonry/rec.checked. -/
def T82 (k : KV) (r0 : Value) (w : World) : Prop :=
  New (Value.cells r0) 28 w fun r1_1 w_2 =>
  Pu (faV 3 r1_1) fun t5_3 =>
  Ld w_2 t5_3 fun t6_4 w_5 =>
  Pu (binV (TypeDesc.int IntKind.u8) .lss t6_4 (Value.int IntKind.u8 1)) fun t7_6 =>
  Gd (isB false t7_6) (fun kk => Pu (faV 3 r1_1) fun vv => kk vv w_5) w_5 fun t9_7 w_8 =>
  Gd (isB false t7_6) (fun kk => Ld w_8 t9_7 kk) w_8 fun t10_9 w_10 =>
  Gd (isB false t7_6) (fun kk => Pu (binV (TypeDesc.int IntKind.u8) .gtr t10_9 (Value.int IntKind.u8 13)) fun vv => kk vv w_10) w_10 fun t11_11 w_12 =>
  Pu (pickV t7_6 (Value.bool true) t11_11) fun t12_13 =>
  IfB t12_13
    (k (.tuple #[(Value.string (ByteArray.mk #[])), (Value.int IntKind.i64 41)]) w_12)
    (Pu (faV 0 r1_1) fun t14_14 =>
      Ld w_12 t14_14 fun t15_15 w_16 =>
      Pu (binV (TypeDesc.int IntKind.i64) .lss t15_15 (Value.int IntKind.i64 1)) fun t16_17 =>
      Gd (isB false t16_17) (fun kk => LdN 16 w_16 r1_1 kk) w_16 fun t18_18 w_19 =>
      Gd (isB false t16_17) (fun kk => Cl Tryz.prog 156 [t18_18] w_19 kk) w_19 fun t19_20 w_21 =>
      Gd (isB false t16_17) (fun kk => Cl Tryz.prog 155 [t19_20, (.func (.func 157) #[] #[])] w_21 kk) w_21 fun t20_22 w_23 =>
      Pu (pickV t16_17 (Value.bool true) t20_22) fun t21_24 =>
      IfB t21_24
        (k (.tuple #[(Value.string (ByteArray.mk #[])), (Value.int IntKind.i64 4)]) w_23)
        (Pu (faV 10 r1_1) fun t23_25 =>
          Ld w_23 t23_25 fun t24_26 w_27 =>
          Pu (lenS t24_26) fun t25_28 =>
          Pu (binV (TypeDesc.int IntKind.i64) .gtr t25_28 (Value.int IntKind.i64 512)) fun t26_29 =>
          Gd (isB false t26_29) (fun kk => Pu (faV 11 r1_1) fun vv => kk vv w_27) w_27 fun t28_30 w_31 =>
          Gd (isB false t26_29) (fun kk => Ld w_31 t28_30 kk) w_31 fun t29_32 w_33 =>
          Gd (isB false t26_29) (fun kk => Pu (lenV t29_32) fun vv => kk vv w_33) w_33 fun t30_34 w_35 =>
          Gd (isB false t26_29) (fun kk => Pu (binV (TypeDesc.int IntKind.i64) .gtr t30_34 (Value.int IntKind.i64 255)) fun vv => kk vv w_35) w_35 fun t31_36 w_37 =>
          Pu (pickV t26_29 (Value.bool true) t31_36) fun t32_38 =>
          Gd (isB false t32_38) (fun kk => Pu (faV 12 r1_1) fun vv => kk vv w_37) w_37 fun t34_39 w_40 =>
          Gd (isB false t32_38) (fun kk => Ld w_40 t34_39 kk) w_40 fun t35_41 w_42 =>
          Gd (isB false t32_38) (fun kk => Pu (lenV t35_41) fun vv => kk vv w_42) w_42 fun t36_43 w_44 =>
          Gd (isB false t32_38) (fun kk => Pu (binV (TypeDesc.int IntKind.i64) .gtr t36_43 (Value.int IntKind.i64 255)) fun vv => kk vv w_44) w_44 fun t37_45 w_46 =>
          Pu (pickV t32_38 (Value.bool true) t37_45) fun t38_47 =>
          Gd (isB false t38_47) (fun kk => Pu (faV 13 r1_1) fun vv => kk vv w_46) w_46 fun t40_48 w_49 =>
          Gd (isB false t38_47) (fun kk => Ld w_49 t40_48 kk) w_49 fun t41_50 w_51 =>
          Gd (isB false t38_47) (fun kk => Pu (lenV t41_50) fun vv => kk vv w_51) w_51 fun t42_52 w_53 =>
          Gd (isB false t38_47) (fun kk => Pu (binV (TypeDesc.int IntKind.i64) .gtr t42_52 (Value.int IntKind.i64 4)) fun vv => kk vv w_53) w_53 fun t43_54 w_55 =>
          Pu (pickV t38_47 (Value.bool true) t43_54) fun t44_56 =>
          Gd (isB false t44_56) (fun kk => Pu (faV 14 r1_1) fun vv => kk vv w_55) w_55 fun t46_57 w_58 =>
          Gd (isB false t44_56) (fun kk => Ld w_58 t46_57 kk) w_58 fun t47_59 w_60 =>
          Gd (isB false t44_56) (fun kk => Pu (lenV t47_59) fun vv => kk vv w_60) w_60 fun t48_61 w_62 =>
          Gd (isB false t44_56) (fun kk => Pu (binV (TypeDesc.int IntKind.i64) .gtr t48_61 (Value.int IntKind.i64 8192)) fun vv => kk vv w_62) w_62 fun t49_63 w_64 =>
          Pu (pickV t44_56 (Value.bool true) t49_63) fun t50_65 =>
          Gd (isB false t50_65) (fun kk => Pu (faV 15 r1_1) fun vv => kk vv w_64) w_64 fun t52_66 w_67 =>
          Gd (isB false t50_65) (fun kk => Ld w_67 t52_66 kk) w_67 fun t53_68 w_69 =>
          Gd (isB false t50_65) (fun kk => Pu (lenV t53_68) fun vv => kk vv w_69) w_69 fun t54_70 w_71 =>
          Gd (isB false t50_65) (fun kk => Pu (binV (TypeDesc.int IntKind.i64) .gtr t54_70 (Value.int IntKind.i64 1024)) fun vv => kk vv w_71) w_71 fun t55_72 w_73 =>
          Pu (pickV t50_65 (Value.bool true) t55_72) fun t56_74 =>
          IfB t56_74
            (k (.tuple #[(Value.string (ByteArray.mk #[])), (Value.int IntKind.i64 3)]) w_73)
            (LdN 16 w_73 r1_1 fun t57_75 w_76 =>
  Cl Tryz.prog 158 [t57_75] w_76 fun t58_77 w_78 =>
  Pu (extV t58_77 0) fun t59_79 =>
  Pu (extV t58_77 1) fun t60_80 =>
  k (.tuple #[t59_79, t60_80]) w_78)))
theorem e82 (k : KV) (r0 : Value) (w : World) : K KD Tryz.prog 61 (fun j =>  []) (fun j =>  none) (Tryz.f82.body.getD .skip) (retQ Tryz.prog Tryz.f82 k) (argF [r0]) w = T82 k r0 w := by kernel_rfl
theorem c82 {k : KV} {r0 : Value} {w : World} (h : T82 k r0 w) : Cl Tryz.prog 82 [r0] w k :=
  Cl_of_K KD_sound mixed Tryz.func82 (by kernel_rfl) (by kernel_rfl) ((e82 k r0 w).symm ▸ h)

/-- Function 89: almonry/rec.Encode. -/
def T89 (k : KV) (r0 : Value) (w : World) : Prop :=
  New (Value.cells r0) 28 w fun r1_1 w_2 =>
  LdN 16 w_2 r1_1 fun t7_3 w_4 =>
  Cl Tryz.prog 82 [t7_3] w_4 fun t8_5 w_6 =>
  Pu (extV t8_5 0) fun t9_7 =>
  Pu (extV t8_5 1) fun t10_8 =>
  Pu (binV (TypeDesc.int IntKind.i64) .neq t10_8 (Value.int IntKind.i64 0)) fun t12_9 =>
  IfB t12_9
    (k (.tuple #[(Value.string (ByteArray.mk #[])), t10_8]) w_6)
    (Pu (lenS t9_7) fun t15_10 =>
  Cl Tryz.prog 115 [t15_10, (Value.int IntKind.i64 4)] w_6 fun t16_11 w_12 =>
  Cl Tryz.prog 80 [t9_7] w_12 fun t18_13 w_14 =>
  Pu (cvI IntKind.i64 t18_13) fun t19_15 =>
  Cl Tryz.prog 115 [t19_15, (Value.int IntKind.i64 4)] w_14 fun t20_16 w_17 =>
  Pu (binV TypeDesc.string .add t16_11 t20_16) fun t21_18 =>
  Pu (binV TypeDesc.string .add t21_18 t9_7) fun t23_19 =>
  k (.tuple #[t23_19, (Value.int IntKind.i64 0)]) w_17)
theorem e89 (k : KV) (r0 : Value) (w : World) : K KD Tryz.prog 24 (fun j =>  []) (fun j =>  none) (Tryz.f89.body.getD .skip) (retQ Tryz.prog Tryz.f89 k) (argF [r0]) w = T89 k r0 w := by kernel_rfl
theorem c89 {k : KV} {r0 : Value} {w : World} (h : T89 k r0 w) : Cl Tryz.prog 89 [r0] w k :=
  Cl_of_K KD_sound mixed Tryz.func89 (by kernel_rfl) (by kernel_rfl) ((e89 k r0 w).symm ▸ h)

/-- Function 90: almonry/almonrylaw04.small. -/
def T90 (k : KV) (w : World) : Prop :=
  New #[(Value.int IntKind.i64 0), (Value.int IntKind.i64 0), (Value.int IntKind.i64 0), (Value.int IntKind.u8 0), (Value.int IntKind.i64 0), (Value.int IntKind.i64 0), (Value.int IntKind.i64 0), (Value.int IntKind.i64 0), (Value.int IntKind.i64 0), (Value.int IntKind.i64 0), (Value.string (ByteArray.mk #[])), (Value.slice none 0 0), (Value.slice none 0 0), (Value.slice none 0 0), (Value.slice none 0 0), (Value.slice none 0 0)] 28 w fun t0_1 w_2 =>
  RunS Tryz.prog (Instr.build 28 #[(0, (Value.int IntKind.i64 1)), (3, (Value.int IntKind.u8 8)), (5, (Value.int IntKind.i64 1))]) w_2 fun t1_3 w_4 =>
  St 16 w_4 t0_1 t1_3 fun u_5 w_6 =>
  RetO (resL Tryz.prog (fun j => bif Nat.beq j 0 then t0_1 else undef) w_6 [(ResultVar.cell 0 28)]) w_6 k
theorem e90 (k : KV) (w : World) : K KD Tryz.prog 2 (fun j =>  []) (fun j =>  none) (Tryz.f90.body.getD .skip) (retQ Tryz.prog Tryz.f90 k) (argF []) w = T90 k  w := by kernel_rfl
theorem c90 {k : KV} {w : World} (h : T90 k  w) : Cl Tryz.prog 90 [] w k :=
  Cl_of_K KD_sound mixed Tryz.func90 (by kernel_rfl) (by kernel_rfl) ((e90 k  w).symm ▸ h)

/-- Function 91: almonry/rec.Same. -/
def T91 (k : KV) (a0 : Value) (b1 : Value) (w : World) : Prop :=
  New (Value.cells a0) 28 w fun a2_1 w_2 =>
  New (Value.cells b1) 28 w_2 fun b3_3 w_4 =>
  Pu (faV 0 a2_1) fun t6_5 =>
  Ld w_4 t6_5 fun t7_6 w_7 =>
  Pu (faV 0 b3_3) fun t8_8 =>
  Ld w_7 t8_8 fun t9_9 w_10 =>
  Pu (binV (TypeDesc.int IntKind.i64) .neq t7_6 t9_9) fun t10_11 =>
  Gd (isB false t10_11) (fun kk => Pu (faV 1 a2_1) fun vv => kk vv w_10) w_10 fun t12_12 w_13 =>
  Gd (isB false t10_11) (fun kk => Ld w_13 t12_12 kk) w_13 fun t13_14 w_15 =>
  Gd (isB false t10_11) (fun kk => Pu (faV 1 b3_3) fun vv => kk vv w_15) w_15 fun t14_16 w_17 =>
  Gd (isB false t10_11) (fun kk => Ld w_17 t14_16 kk) w_17 fun t15_18 w_19 =>
  Gd (isB false t10_11) (fun kk => Pu (binV (TypeDesc.int IntKind.i64) .neq t13_14 t15_18) fun vv => kk vv w_19) w_19 fun t16_20 w_21 =>
  Pu (pickV t10_11 (Value.bool true) t16_20) fun t17_22 =>
  Gd (isB false t17_22) (fun kk => Pu (faV 2 a2_1) fun vv => kk vv w_21) w_21 fun t19_23 w_24 =>
  Gd (isB false t17_22) (fun kk => Ld w_24 t19_23 kk) w_24 fun t20_25 w_26 =>
  Gd (isB false t17_22) (fun kk => Pu (faV 2 b3_3) fun vv => kk vv w_26) w_26 fun t21_27 w_28 =>
  Gd (isB false t17_22) (fun kk => Ld w_28 t21_27 kk) w_28 fun t22_29 w_30 =>
  Gd (isB false t17_22) (fun kk => Pu (binV (TypeDesc.int IntKind.i64) .neq t20_25 t22_29) fun vv => kk vv w_30) w_30 fun t23_31 w_32 =>
  Pu (pickV t17_22 (Value.bool true) t23_31) fun t24_33 =>
  Gd (isB false t24_33) (fun kk => Pu (faV 3 a2_1) fun vv => kk vv w_32) w_32 fun t26_34 w_35 =>
  Gd (isB false t24_33) (fun kk => Ld w_35 t26_34 kk) w_35 fun t27_36 w_37 =>
  Gd (isB false t24_33) (fun kk => Pu (faV 3 b3_3) fun vv => kk vv w_37) w_37 fun t28_38 w_39 =>
  Gd (isB false t24_33) (fun kk => Ld w_39 t28_38 kk) w_39 fun t29_40 w_41 =>
  Gd (isB false t24_33) (fun kk => Pu (binV (TypeDesc.int IntKind.u8) .neq t27_36 t29_40) fun vv => kk vv w_41) w_41 fun t30_42 w_43 =>
  Pu (pickV t24_33 (Value.bool true) t30_42) fun t31_44 =>
  Gd (isB false t31_44) (fun kk => Pu (faV 4 a2_1) fun vv => kk vv w_43) w_43 fun t33_45 w_46 =>
  Gd (isB false t31_44) (fun kk => Ld w_46 t33_45 kk) w_46 fun t34_47 w_48 =>
  Gd (isB false t31_44) (fun kk => Pu (faV 4 b3_3) fun vv => kk vv w_48) w_48 fun t35_49 w_50 =>
  Gd (isB false t31_44) (fun kk => Ld w_50 t35_49 kk) w_50 fun t36_51 w_52 =>
  Gd (isB false t31_44) (fun kk => Pu (binV (TypeDesc.int IntKind.i64) .neq t34_47 t36_51) fun vv => kk vv w_52) w_52 fun t37_53 w_54 =>
  Pu (pickV t31_44 (Value.bool true) t37_53) fun t38_55 =>
  Gd (isB false t38_55) (fun kk => Pu (faV 5 a2_1) fun vv => kk vv w_54) w_54 fun t40_56 w_57 =>
  Gd (isB false t38_55) (fun kk => Ld w_57 t40_56 kk) w_57 fun t41_58 w_59 =>
  Gd (isB false t38_55) (fun kk => Pu (faV 5 b3_3) fun vv => kk vv w_59) w_59 fun t42_60 w_61 =>
  Gd (isB false t38_55) (fun kk => Ld w_61 t42_60 kk) w_61 fun t43_62 w_63 =>
  Gd (isB false t38_55) (fun kk => Pu (binV (TypeDesc.int IntKind.i64) .neq t41_58 t43_62) fun vv => kk vv w_63) w_63 fun t44_64 w_65 =>
  Pu (pickV t38_55 (Value.bool true) t44_64) fun t45_66 =>
  Gd (isB false t45_66) (fun kk => Pu (faV 6 a2_1) fun vv => kk vv w_65) w_65 fun t47_67 w_68 =>
  Gd (isB false t45_66) (fun kk => Ld w_68 t47_67 kk) w_68 fun t48_69 w_70 =>
  Gd (isB false t45_66) (fun kk => Pu (faV 6 b3_3) fun vv => kk vv w_70) w_70 fun t49_71 w_72 =>
  Gd (isB false t45_66) (fun kk => Ld w_72 t49_71 kk) w_72 fun t50_73 w_74 =>
  Gd (isB false t45_66) (fun kk => Pu (binV (TypeDesc.int IntKind.i64) .neq t48_69 t50_73) fun vv => kk vv w_74) w_74 fun t51_75 w_76 =>
  Pu (pickV t45_66 (Value.bool true) t51_75) fun t52_77 =>
  IfB t52_77
    (k (Value.bool false) w_76)
    (Pu (faV 7 a2_1) fun t53_78 =>
  Ld w_76 t53_78 fun t54_79 w_80 =>
  Pu (faV 7 b3_3) fun t55_81 =>
  Ld w_80 t55_81 fun t56_82 w_83 =>
  Pu (binV (TypeDesc.int IntKind.i64) .neq t54_79 t56_82) fun t57_84 =>
  Gd (isB false t57_84) (fun kk => Pu (faV 8 a2_1) fun vv => kk vv w_83) w_83 fun t59_85 w_86 =>
  Gd (isB false t57_84) (fun kk => Ld w_86 t59_85 kk) w_86 fun t60_87 w_88 =>
  Gd (isB false t57_84) (fun kk => Pu (faV 8 b3_3) fun vv => kk vv w_88) w_88 fun t61_89 w_90 =>
  Gd (isB false t57_84) (fun kk => Ld w_90 t61_89 kk) w_90 fun t62_91 w_92 =>
  Gd (isB false t57_84) (fun kk => Pu (binV (TypeDesc.int IntKind.i64) .neq t60_87 t62_91) fun vv => kk vv w_92) w_92 fun t63_93 w_94 =>
  Pu (pickV t57_84 (Value.bool true) t63_93) fun t64_95 =>
  Gd (isB false t64_95) (fun kk => Pu (faV 9 a2_1) fun vv => kk vv w_94) w_94 fun t66_96 w_97 =>
  Gd (isB false t64_95) (fun kk => Ld w_97 t66_96 kk) w_97 fun t67_98 w_99 =>
  Gd (isB false t64_95) (fun kk => Pu (faV 9 b3_3) fun vv => kk vv w_99) w_99 fun t68_100 w_101 =>
  Gd (isB false t64_95) (fun kk => Ld w_101 t68_100 kk) w_101 fun t69_102 w_103 =>
  Gd (isB false t64_95) (fun kk => Pu (binV (TypeDesc.int IntKind.i64) .neq t67_98 t69_102) fun vv => kk vv w_103) w_103 fun t70_104 w_105 =>
  Pu (pickV t64_95 (Value.bool true) t70_104) fun t71_106 =>
  Gd (isB false t71_106) (fun kk => Pu (faV 10 a2_1) fun vv => kk vv w_105) w_105 fun t73_107 w_108 =>
  Gd (isB false t71_106) (fun kk => Ld w_108 t73_107 kk) w_108 fun t74_109 w_110 =>
  Gd (isB false t71_106) (fun kk => Pu (faV 10 b3_3) fun vv => kk vv w_110) w_110 fun t75_111 w_112 =>
  Gd (isB false t71_106) (fun kk => Ld w_112 t75_111 kk) w_112 fun t76_113 w_114 =>
  Gd (isB false t71_106) (fun kk => Pu (binV TypeDesc.string .neq t74_109 t76_113) fun vv => kk vv w_114) w_114 fun t77_115 w_116 =>
  Pu (pickV t71_106 (Value.bool true) t77_115) fun t78_117 =>
  Gd (isB false t78_117) (fun kk => Pu (faV 11 a2_1) fun vv => kk vv w_116) w_116 fun t80_118 w_119 =>
  Gd (isB false t78_117) (fun kk => Ld w_119 t80_118 kk) w_119 fun t81_120 w_121 =>
  Gd (isB false t78_117) (fun kk => Pu (faV 11 b3_3) fun vv => kk vv w_121) w_121 fun t82_122 w_123 =>
  Gd (isB false t78_117) (fun kk => Ld w_123 t82_122 kk) w_123 fun t83_124 w_125 =>
  Gd (isB false t78_117) (fun kk => Cl Tryz.prog 167 [t81_120, t83_124] w_125 kk) w_125 fun t84_126 w_127 =>
  Gd (isB false t78_117) (fun kk => Pu (unV .not t84_126) fun vv => kk vv w_127) w_127 fun t85_128 w_129 =>
  Pu (pickV t78_117 (Value.bool true) t85_128) fun t86_130 =>
  Gd (isB false t86_130) (fun kk => Pu (faV 12 a2_1) fun vv => kk vv w_129) w_129 fun t88_131 w_132 =>
  Gd (isB false t86_130) (fun kk => Ld w_132 t88_131 kk) w_132 fun t89_133 w_134 =>
  Gd (isB false t86_130) (fun kk => Pu (faV 12 b3_3) fun vv => kk vv w_134) w_134 fun t90_135 w_136 =>
  Gd (isB false t86_130) (fun kk => Ld w_136 t90_135 kk) w_136 fun t91_137 w_138 =>
  Gd (isB false t86_130) (fun kk => Cl Tryz.prog 167 [t89_133, t91_137] w_138 kk) w_138 fun t92_139 w_140 =>
  Gd (isB false t86_130) (fun kk => Pu (unV .not t92_139) fun vv => kk vv w_140) w_140 fun t93_141 w_142 =>
  Pu (pickV t86_130 (Value.bool true) t93_141) fun t94_143 =>
  IfB t94_143
    (k (Value.bool false) w_142)
    (Pu (faV 13 a2_1) fun t95_144 =>
  Ld w_142 t95_144 fun t96_145 w_146 =>
  Pu (faV 13 b3_3) fun t97_147 =>
  Ld w_146 t97_147 fun t98_148 w_149 =>
  Cl Tryz.prog 170 [t96_145, t98_148, (.func (.func 168) #[] #[])] w_149 fun t100_150 w_151 =>
  Gd (isB true t100_150) (fun kk => Pu (faV 14 a2_1) fun vv => kk vv w_151) w_151 fun t102_152 w_153 =>
  Gd (isB true t100_150) (fun kk => Ld w_153 t102_152 kk) w_153 fun t103_154 w_155 =>
  Gd (isB true t100_150) (fun kk => Pu (faV 14 b3_3) fun vv => kk vv w_155) w_155 fun t104_156 w_157 =>
  Gd (isB true t100_150) (fun kk => Ld w_157 t104_156 kk) w_157 fun t105_158 w_159 =>
  Gd (isB true t100_150) (fun kk => Cl Tryz.prog 171 [t103_154, t105_158] w_159 kk) w_159 fun t106_160 w_161 =>
  Pu (pickV t100_150 t106_160 (Value.bool false)) fun t107_162 =>
  Gd (isB true t107_162) (fun kk => Pu (faV 15 a2_1) fun vv => kk vv w_161) w_161 fun t109_163 w_164 =>
  Gd (isB true t107_162) (fun kk => Ld w_164 t109_163 kk) w_164 fun t110_165 w_166 =>
  Gd (isB true t107_162) (fun kk => Pu (faV 15 b3_3) fun vv => kk vv w_166) w_166 fun t111_167 w_168 =>
  Gd (isB true t107_162) (fun kk => Ld w_168 t111_167 kk) w_168 fun t112_169 w_170 =>
  Gd (isB true t107_162) (fun kk => Cl Tryz.prog 172 [t110_165, t112_169] w_170 kk) w_170 fun t113_171 w_172 =>
  Pu (pickV t107_162 t113_171 (Value.bool false)) fun t114_173 =>
  k t114_173 w_172))
theorem e91 (k : KV) (a0 : Value) (b1 : Value) (w : World) : K KD Tryz.prog 115 (fun j =>  []) (fun j =>  none) (Tryz.f91.body.getD .skip) (retQ Tryz.prog Tryz.f91 k) (argF [a0, b1]) w = T91 k a0 b1 w := by kernel_rfl
theorem c91 {k : KV} {a0 : Value} {b1 : Value} {w : World} (h : T91 k a0 b1 w) : Cl Tryz.prog 91 [a0, b1] w k :=
  Cl_of_K KD_sound mixed Tryz.func91 (by kernel_rfl) (by kernel_rfl) ((e91 k a0 b1 w).symm ▸ h)

/-- Function 92: almonry/rec.Check. -/
def T92 (k : KV) (r0 : Value) (w : World) : Prop :=
  New (Value.cells r0) 28 w fun r1_1 w_2 =>
  LdN 16 w_2 r1_1 fun t6_3 w_4 =>
  Cl Tryz.prog 82 [t6_3] w_4 fun t7_5 w_6 =>
  Pu (extV t7_5 0) fun t8_7 =>
  Pu (extV t7_5 1) fun t9_8 =>
  k t9_8 w_6
theorem e92 (k : KV) (r0 : Value) (w : World) : K KD Tryz.prog 11 (fun j =>  []) (fun j =>  none) (Tryz.f92.body.getD .skip) (retQ Tryz.prog Tryz.f92 k) (argF [r0]) w = T92 k r0 w := by kernel_rfl
theorem c92 {k : KV} {r0 : Value} {w : World} (h : T92 k r0 w) : Cl Tryz.prog 92 [r0] w k :=
  Cl_of_K KD_sound mixed Tryz.func92 (by kernel_rfl) (by kernel_rfl) ((e92 k r0 w).symm ▸ h)

/-- Function 148: almonry/bits.Read. -/
def T148 (k : KV) (data0 : Value) (w : World) : Prop :=
  RunS Tryz.prog (Instr.build 221 #[(0, data0)]) w fun t4_1 w_2 =>
  New (Value.cells t4_1) 221 w_2 fun t5_3 w_4 =>
  k t5_3 w_4
theorem e148 (k : KV) (data0 : Value) (w : World) : K KD Tryz.prog 6 (fun j =>  []) (fun j =>  none) (Tryz.f148.body.getD .skip) (retQ Tryz.prog Tryz.f148 k) (argF [data0]) w = T148 k data0 w := by kernel_rfl
theorem c148 {k : KV} {data0 : Value} {w : World} (h : T148 k data0 w) : Cl Tryz.prog 148 [data0] w k :=
  Cl_of_K KD_sound mixed Tryz.func148 (by kernel_rfl) (by kernel_rfl) ((e148 k data0 w).symm ▸ h)

/-- Function 149: almonry/rec.outer$1. -/
def T149 (k : KV) (t0 : Value) (w : World) : Prop :=
  Ld w t0 fun t2_1 w_2 =>
  Cl Tryz.prog 150 [t2_1, (Value.int IntKind.i64 4611686018427387904)] w_2 fun t3_3 w_4 =>
  k t3_3 w_4
theorem e149 (k : KV) (t0 : Value) (w : World) : K KD Tryz.prog 4 (fun j =>  []) (fun j =>  none) (Tryz.f149.body.getD .skip) (retQ Tryz.prog Tryz.f149 k) (argF [t0]) w = T149 k t0 w := by kernel_rfl
theorem c149 {k : KV} {t0 : Value} {w : World} (h : T149 k t0 w) : Cl Tryz.prog 149 [t0] w k :=
  Cl_of_K KD_sound mixed Tryz.func149 (by kernel_rfl) (by kernel_rfl) ((e149 k t0 w).symm ▸ h)

/-- Function 150: (*almonry/bits.Reader).Num. -/
def T150 (k : KV) (r0 : Value) (most1 : Value) (w : World) : Prop :=
  Pu (binV (TypeDesc.pointer 221) .eql r0 (Value.pointer none)) fun t9_1 =>
  Gd (isB false t9_1) (fun kk => kk r0 w) w fun t11_2 w_3 =>
  Gd (isB false t9_1) (fun kk => Pu (nilV t11_2) fun vv => kk vv w_3) w_3 fun t12_4 w_5 =>
  Gd (isB false t9_1) (fun kk => Pu (faV 1 t12_4) fun vv => kk vv w_5) w_5 fun t13_6 w_7 =>
  Gd (isB false t9_1) (fun kk => Ld w_7 t13_6 kk) w_7 fun t14_8 w_9 =>
  Gd (isB false t9_1) (fun kk => Pu (binV (TypeDesc.int IntKind.i64) .neq t14_8 (Value.int IntKind.i64 0)) fun vv => kk vv w_9) w_9 fun t15_10 w_11 =>
  Pu (pickV t9_1 (Value.bool true) t15_10) fun t16_12 =>
  IfB t16_12
    (k (Value.int IntKind.i64 0) w_11)
    (∃ (I_13 : List Value → World → Prop) (m_14 : List Value → World → Nat), I_13 [(Value.int IntKind.i64 0), (Value.int IntKind.i64 0)] w_11 ∧
  ∀ (g_78 : Fr) (w_77 : World), ∀ n5_17 : Value, ∀ t17_20 : Value, I_13 [n5_17, t17_20] w_77 →
    (Pu (binV (TypeDesc.int IntKind.i64) .lss t17_20 (Value.int IntKind.i64 9)) fun t18_79 =>
    IfB t18_79
      (Pu (nilV r0) fun t22_80 =>
    Pu (faV 0 t22_80) fun t23_81 =>
    Ld w_77 t23_81 fun t24_82 w_83 =>
    Pu (lenS t24_82) fun t25_84 =>
    Pu (binV (TypeDesc.int IntKind.i64) .geq t17_20 t25_84) fun t26_85 =>
    IfB t26_85
      (Cl Tryz.prog 196 [r0, (Value.int IntKind.i64 10)] w_83 fun t28_86 w_87 =>
        k t28_86 w_87)
      (Pu (nilV r0) fun t30_88 =>
    Pu (faV 0 t30_88) fun t31_89 =>
    Ld w_83 t31_89 fun t32_90 w_91 =>
    Pu (ixS t32_90 t17_20) fun t34_92 =>
    Pu (binV (TypeDesc.int IntKind.u8) .and t34_92 (Value.int IntKind.u8 127)) fun t37_93 =>
    Pu (cvI IntKind.i64 t37_93) fun t38_94 =>
    Pu (binV (TypeDesc.int IntKind.i64) .mul (Value.int IntKind.i64 7) t17_20) fun t40_95 =>
    Pu (binV (TypeDesc.int IntKind.i64) .shl t38_94 t40_95) fun t41_96 =>
    Pu (binV (TypeDesc.int IntKind.i64) .or n5_17 t41_96) fun t42_97 =>
    Pu (binV (TypeDesc.int IntKind.u8) .eql t34_92 (Value.int IntKind.u8 0)) fun t45_98 =>
    Gd (isB true t45_98) (fun kk => kk t17_20 w_91) w_91 fun t47_99 w_100 =>
    Gd (isB true t45_98) (fun kk => Pu (binV (TypeDesc.int IntKind.i64) .gtr t47_99 (Value.int IntKind.i64 0)) fun vv => kk vv w_100) w_100 fun t48_101 w_102 =>
    Pu (pickV t45_98 t48_101 (Value.bool false)) fun t49_103 =>
    IfB t49_103
      (Cl Tryz.prog 196 [r0, (Value.int IntKind.i64 11)] w_102 fun t51_104 w_105 =>
        k t51_104 w_105)
      (Pu (binV (TypeDesc.int IntKind.u8) .geq t34_92 (Value.int IntKind.u8 128)) fun t54_106 =>
        IfB t54_106
          (Pu (binV (TypeDesc.int IntKind.i64) .add t17_20 (Value.int IntKind.i64 1)) fun t73_107 =>
    I_13 [t42_97, t73_107] w_102 ∧ m_14 [t42_97, t73_107] w_102 < m_14 [n5_17, t17_20] w_77)
          (Pu (foldV0 max2V [most1, (Value.int IntKind.i64 0)]) fun t58_108 =>
            Pu (binV (TypeDesc.int IntKind.i64) .gtr t42_97 t58_108) fun t59_109 =>
            IfB t59_109
              (Cl Tryz.prog 196 [r0, (Value.int IntKind.i64 11)] w_102 fun t61_110 w_111 =>
                k t61_110 w_111)
              (Pu (nilV r0) fun t64_112 =>
    Pu (faV 0 t64_112) fun t65_113 =>
    Ld w_102 t65_113 fun t66_114 w_115 =>
    Pu (binV (TypeDesc.int IntKind.i64) .add t17_20 (Value.int IntKind.i64 1)) fun t68_116 =>
    Pu (slS t66_114 (some t68_116) none) fun t69_117 =>
    Pu (nilV r0) fun t70_118 =>
    Pu (faV 0 t70_118) fun t71_119 =>
    St 1 w_115 t71_119 t69_117 fun u_120 w_121 =>
    k t42_97 w_121)))))
      (Cl Tryz.prog 196 [r0, (Value.int IntKind.i64 11)] w_77 fun t75_122 w_123 =>
  k t75_122 w_123)))
theorem e150 (k : KV) (r0 : Value) (most1 : Value) (w : World) : K KD Tryz.prog 76 (fun j => bif Nat.beq j 5 then [5, 17] else []) (fun j =>  none) (Tryz.f150.body.getD .skip) (retQ Tryz.prog Tryz.f150 k) (argF [r0, most1]) w = T150 k r0 most1 w := by kernel_rfl
theorem c150 {k : KV} {r0 : Value} {most1 : Value} {w : World} (h : T150 k r0 most1 w) : Cl Tryz.prog 150 [r0, most1] w k :=
  Cl_of_K KD_sound mixed Tryz.func150 (by kernel_rfl) (by kernel_rfl) ((e150 k r0 most1 w).symm ▸ h)

/-- Function 151: (*almonry/bits.Reader).Text. -/
def T151 (k : KV) (r0 : Value) (most1 : Value) (w : World) : Prop :=
  Cl Tryz.prog 150 [r0, most1] w fun t9_1 w_2 =>
  Pu (binV (TypeDesc.pointer 221) .eql r0 (Value.pointer none)) fun t11_3 =>
  Gd (isB false t11_3) (fun kk => kk r0 w_2) w_2 fun t13_4 w_5 =>
  Gd (isB false t11_3) (fun kk => Pu (nilV t13_4) fun vv => kk vv w_5) w_5 fun t14_6 w_7 =>
  Gd (isB false t11_3) (fun kk => Pu (faV 1 t14_6) fun vv => kk vv w_7) w_7 fun t15_8 w_9 =>
  Gd (isB false t11_3) (fun kk => Ld w_9 t15_8 kk) w_9 fun t16_10 w_11 =>
  Gd (isB false t11_3) (fun kk => Pu (binV (TypeDesc.int IntKind.i64) .neq t16_10 (Value.int IntKind.i64 0)) fun vv => kk vv w_11) w_11 fun t17_12 w_13 =>
  Pu (pickV t11_3 (Value.bool true) t17_12) fun t18_14 =>
  IfB t18_14
    (k (Value.string (ByteArray.mk #[])) w_13)
    (Pu (nilV r0) fun t21_15 =>
  Pu (faV 0 t21_15) fun t22_16 =>
  Ld w_13 t22_16 fun t23_17 w_18 =>
  Pu (lenS t23_17) fun t24_19 =>
  Pu (binV (TypeDesc.int IntKind.i64) .gtr t9_1 t24_19) fun t25_20 =>
  IfB t25_20
    (Cl Tryz.prog 196 [r0, (Value.int IntKind.i64 10)] w_18 fun t27_21 w_22 =>
      k (Value.string (ByteArray.mk #[])) w_22)
    (Pu (nilV r0) fun t29_23 =>
  Pu (faV 0 t29_23) fun t30_24 =>
  Ld w_18 t30_24 fun t31_25 w_26 =>
  Pu (slS t31_25 none (some t9_1)) fun t33_27 =>
  Pu (nilV r0) fun t36_28 =>
  Pu (faV 0 t36_28) fun t37_29 =>
  Ld w_26 t37_29 fun t38_30 w_31 =>
  Pu (slS t38_30 (some t9_1) none) fun t40_32 =>
  Pu (nilV r0) fun t41_33 =>
  Pu (faV 0 t41_33) fun t42_34 =>
  St 1 w_31 t42_34 t40_32 fun u_35 w_36 =>
  k t33_27 w_36))
theorem e151 (k : KV) (r0 : Value) (most1 : Value) (w : World) : K KD Tryz.prog 44 (fun j =>  []) (fun j =>  none) (Tryz.f151.body.getD .skip) (retQ Tryz.prog Tryz.f151 k) (argF [r0, most1]) w = T151 k r0 most1 w := by kernel_rfl
theorem c151 {k : KV} {r0 : Value} {most1 : Value} {w : World} (h : T151 k r0 most1 w) : Cl Tryz.prog 151 [r0, most1] w k :=
  Cl_of_K KD_sound mixed Tryz.func151 (by kernel_rfl) (by kernel_rfl) ((e151 k r0 most1 w).symm ▸ h)

/-- Function 152: almonry/rec.list. -/
def T152 (k : KV) (r0 : Value) (most1 : Value) (w : World) : Prop :=
  Jn (fun vs_18 w_17 => ∀ g_19 : Fr, ∃ out5_2 : Value, vs_18 = [out5_2] ∧
      (k out5_2 w_17))
    (fun jj_1 =>
    Cl Tryz.prog 150 [r0, most1] w fun t8_20 w_21 =>
    ∃ (I_22 : List Value → World → Prop) (m_23 : List Value → World → Nat), I_22 [(Value.slice none 0 0), (Value.int IntKind.i64 0)] w_21 ∧
    ∀ (g_38 : Fr) (w_37 : World), ∀ out5_25 : Value, ∀ t9_26 : Value, I_22 [out5_25, t9_26] w_37 →
      (Pu (binV (TypeDesc.int IntKind.i64) .lss t9_26 t8_20) fun t10_39 =>
      IfB t10_39
        (Cl Tryz.prog 150 [r0, (Value.int IntKind.i64 4611686018427387904)] w_37 fun t13_40 w_41 =>
      RunS Tryz.prog (Instr.buildSlice 23 1 #[(0, t13_40)]) w_41 fun t14_42 w_43 =>
      RunS Tryz.prog (Builtin.append_ #[23, 23] 23 #[out5_25, t14_42]) w_43 fun t15_44 w_45 =>
      Cl Tryz.prog 153 [r0] w_45 fun t17_46 w_47 =>
      Pu (binV (TypeDesc.int IntKind.i64) .neq t17_46 (Value.int IntKind.i64 0)) fun t18_48 =>
      IfB t18_48
        (jj_1 [t15_44] w_47)
        (Pu (binV (TypeDesc.int IntKind.i64) .add t9_26 (Value.int IntKind.i64 1)) fun t19_49 =>
      I_22 [t15_44, t19_49] w_47 ∧ m_23 [t15_44, t19_49] w_47 < m_23 [out5_25, t9_26] w_37))
        (jj_1 [out5_25] w_37)))
theorem e152 (k : KV) (r0 : Value) (most1 : Value) (w : World) : K KD Tryz.prog 21 (fun j => bif Nat.beq j 3 then [5, 9] else []) (fun j => bif Nat.beq j 7 then some [5] else none) (Tryz.f152.body.getD .skip) (retQ Tryz.prog Tryz.f152 k) (argF [r0, most1]) w = T152 k r0 most1 w := by kernel_rfl
theorem c152 {k : KV} {r0 : Value} {most1 : Value} {w : World} (h : T152 k r0 most1 w) : Cl Tryz.prog 152 [r0, most1] w k :=
  Cl_of_K KD_sound mixed Tryz.func152 (by kernel_rfl) (by kernel_rfl) ((e152 k r0 most1 w).symm ▸ h)

/-- Function 153: (*almonry/bits.Reader).Err. -/
def T153 (k : KV) (r0 : Value) (w : World) : Prop :=
  Pu (binV (TypeDesc.pointer 221) .eql r0 (Value.pointer none)) fun t4_1 =>
  IfB t4_1
    (k (Value.int IntKind.i64 2) w)
    (Pu (nilV r0) fun t6_2 =>
  Pu (faV 1 t6_2) fun t7_3 =>
  Ld w t7_3 fun t8_4 w_5 =>
  k t8_4 w_5)
theorem e153 (k : KV) (r0 : Value) (w : World) : K KD Tryz.prog 9 (fun j =>  []) (fun j =>  none) (Tryz.f153.body.getD .skip) (retQ Tryz.prog Tryz.f153 k) (argF [r0]) w = T153 k r0 w := by kernel_rfl
theorem c153 {k : KV} {r0 : Value} {w : World} (h : T153 k r0 w) : Cl Tryz.prog 153 [r0] w k :=
  Cl_of_K KD_sound mixed Tryz.func153 (by kernel_rfl) (by kernel_rfl) ((e153 k r0 w).symm ▸ h)

/-- Function 154: (*almonry/bits.Reader).End. -/
def T154 (k : KV) (r0 : Value) (w : World) : Prop :=
  Cl Tryz.prog 153 [r0] w fun t4_1 w_2 =>
  Pu (binV (TypeDesc.int IntKind.i64) .eql t4_1 (Value.int IntKind.i64 0)) fun t5_3 =>
  Gd (isB true t5_3) (fun kk => kk r0 w_2) w_2 fun t7_4 w_5 =>
  Gd (isB true t5_3) (fun kk => Cl Tryz.prog 197 [t7_4] w_5 kk) w_5 fun t8_6 w_7 =>
  Gd (isB true t5_3) (fun kk => Pu (binV (TypeDesc.int IntKind.i64) .gtr t8_6 (Value.int IntKind.i64 0)) fun vv => kk vv w_7) w_7 fun t9_8 w_9 =>
  Pu (pickV t5_3 t9_8 (Value.bool false)) fun t10_10 =>
  IfB t10_10
    (k (Value.int IntKind.i64 12) w_9)
    (Cl Tryz.prog 153 [r0] w_9 fun t12_11 w_12 =>
  k t12_11 w_12)
theorem e154 (k : KV) (r0 : Value) (w : World) : K KD Tryz.prog 13 (fun j =>  []) (fun j =>  none) (Tryz.f154.body.getD .skip) (retQ Tryz.prog Tryz.f154 k) (argF [r0]) w = T154 k r0 w := by kernel_rfl
theorem c154 {k : KV} {r0 : Value} {w : World} (h : T154 k r0 w) : Cl Tryz.prog 154 [r0] w k :=
  Cl_of_K KD_sound mixed Tryz.func154 (by kernel_rfl) (by kernel_rfl) ((e154 k r0 w).symm ▸ h)

/-- Function 155: slices.ContainsFunc[[]int,int]. -/
def T155 (k : KV) (s0 : Value) (f1 : Value) (w : World) : Prop :=
  Cl Tryz.prog 198 [s0, f1] w fun t7_1 w_2 =>
  Pu (binV (TypeDesc.int IntKind.i64) .geq t7_1 (Value.int IntKind.i64 0)) fun t8_3 =>
  k t8_3 w_2
theorem e155 (k : KV) (s0 : Value) (f1 : Value) (w : World) : K KD Tryz.prog 9 (fun j =>  []) (fun j =>  none) (Tryz.f155.body.getD .skip) (retQ Tryz.prog Tryz.f155 k) (argF [s0, f1]) w = T155 k s0 f1 w := by kernel_rfl
theorem c155 {k : KV} {s0 : Value} {f1 : Value} {w : World} (h : T155 k s0 f1 w) : Cl Tryz.prog 155 [s0, f1] w k :=
  Cl_of_K KD_sound mixed Tryz.func155 (by kernel_rfl) (by kernel_rfl) ((e155 k s0 f1 w).symm ▸ h)

/-- Function 156: almonry/rec.numbers. -/
def T156 (k : KV) (r0 : Value) (w : World) : Prop :=
  New (Value.cells r0) 28 w fun r1_1 w_2 =>
  Pu (faV 0 r1_1) fun t10_3 =>
  Ld w_2 t10_3 fun t11_4 w_5 =>
  Pu (faV 1 r1_1) fun t12_6 =>
  Ld w_5 t12_6 fun t13_7 w_8 =>
  Pu (faV 2 r1_1) fun t14_9 =>
  Ld w_8 t14_9 fun t15_10 w_11 =>
  Pu (faV 9 r1_1) fun t16_12 =>
  Ld w_11 t16_12 fun t17_13 w_14 =>
  Pu (faV 4 r1_1) fun t18_15 =>
  Ld w_14 t18_15 fun t19_16 w_17 =>
  Pu (faV 5 r1_1) fun t20_18 =>
  Ld w_17 t20_18 fun t21_19 w_20 =>
  Pu (faV 6 r1_1) fun t22_21 =>
  Ld w_20 t22_21 fun t23_22 w_23 =>
  Pu (faV 7 r1_1) fun t24_24 =>
  Ld w_23 t24_24 fun t25_25 w_26 =>
  Pu (faV 8 r1_1) fun t26_27 =>
  Ld w_26 t26_27 fun t27_28 w_29 =>
  RunS Tryz.prog (Instr.buildSlice 23 9 #[(0, t11_4), (1, t13_7), (2, t15_10), (3, t17_13), (4, t19_16), (5, t21_19), (6, t23_22), (7, t25_25), (8, t27_28)]) w_29 fun t28_30 w_31 =>
  ∃ C_32 : World → Prop, C_32 (World.drew w_31) ∧
  (Pu (faV 11 r1_1) fun t30_33 =>
  Ld (World.drew w_31) t30_33 fun t31_34 w_35 =>
  w_35 = (World.drew w_31) ∧
  Pu (faV 12 r1_1) fun t33_36 =>
  ∃ t34_37, (∀ w_38, C_32 w_38 → Ld w_38 t33_36 fun t34_39 w_40 =>
  t34_39 = t34_37 ∧ w_40 = w_38) ∧
  (RunS Tryz.prog (Builtin.append_ #[23, 23] 23 #[t28_30, t31_34]) (World.drew w_31) fun t32_41 w_42 =>
  C_32 w_42 ∧
  (RunS Tryz.prog (Builtin.append_ #[23, 23] 23 #[t32_41, t34_37]) w_42 fun t35_43 w_44 =>
  Pu (faV 13 r1_1) fun t36_45 =>
  Ld w_44 t36_45 fun t37_46 w_47 =>
  Pu (lenV t37_46) fun t38_48 =>
  ∃ (I_49 : List Value → World → Prop) (m_50 : List Value → World → Nat), I_49 [t35_43, (Value.int IntKind.i64 0)] w_47 ∧
  ∀ (g_65 : Fr) (w_64 : World), ∀ l3_52 : Value, ∀ t39_54 : Value, I_49 [l3_52, t39_54] w_64 →
    (Pu (binV (TypeDesc.int IntKind.i64) .lss t39_54 t38_48) fun t40_66 =>
    IfB t40_66
      (Pu (ixV 7 t37_46 t39_54) fun t41_67 =>
    LdN 7 w_64 t41_67 fun t42_68 w_69 =>
    New #[(Value.int IntKind.i64 0), (Value.int IntKind.i64 0), (Value.int IntKind.i64 0), (Value.int IntKind.i64 0), (Value.int IntKind.i64 0), (Value.string (ByteArray.mk #[])), (Value.slice none 0 0)] 118 w_69 fun m5_70 w_71 =>
    St 7 w_71 m5_70 t42_68 fun u_72 w_73 =>
    Pu (faV 0 m5_70) fun t44_74 =>
    Ld w_73 t44_74 fun t45_75 w_76 =>
    RunS Tryz.prog (Instr.buildSlice 23 1 #[(0, t45_75)]) w_76 fun t46_77 w_78 =>
    RunS Tryz.prog (Builtin.append_ #[23, 23] 23 #[l3_52, t46_77]) w_78 fun t47_79 w_80 =>
    Pu (binV (TypeDesc.int IntKind.i64) .add t39_54 (Value.int IntKind.i64 1)) fun t48_81 =>
    I_49 [t47_79, t48_81] w_80 ∧ m_50 [t47_79, t48_81] w_80 < m_50 [l3_52, t39_54] w_64)
      (Pu (faV 14 r1_1) fun t49_82 =>
  Ld w_64 t49_82 fun t50_83 w_84 =>
  Pu (lenV t50_83) fun t51_85 =>
  ∃ (I_86 : List Value → World → Prop) (m_87 : List Value → World → Nat), I_86 [l3_52, (Value.int IntKind.i64 0)] w_84 ∧
  ∀ (g_104 : Fr) (w_103 : World), ∀ l3_89 : Value, ∀ t52_91 : Value, I_86 [l3_89, t52_91] w_103 →
    (Pu (binV (TypeDesc.int IntKind.i64) .lss t52_91 t51_85) fun t53_105 =>
    IfB t53_105
      (Pu (ixV 2 t50_83 t52_91) fun t54_106 =>
    LdN 2 w_103 t54_106 fun t55_107 w_108 =>
    New #[(Value.int IntKind.i64 0), (Value.int IntKind.i64 0)] 120 w_108 fun p7_109 w_110 =>
    St 2 w_110 p7_109 t55_107 fun u_111 w_112 =>
    Pu (faV 0 p7_109) fun t57_113 =>
    Ld w_112 t57_113 fun t58_114 w_115 =>
    Pu (faV 1 p7_109) fun t59_116 =>
    Ld w_115 t59_116 fun t60_117 w_118 =>
    RunS Tryz.prog (Instr.buildSlice 23 2 #[(0, t58_114), (1, t60_117)]) w_118 fun t61_119 w_120 =>
    RunS Tryz.prog (Builtin.append_ #[23, 23] 23 #[l3_89, t61_119]) w_120 fun t62_121 w_122 =>
    Pu (binV (TypeDesc.int IntKind.i64) .add t52_91 (Value.int IntKind.i64 1)) fun t63_123 =>
    I_86 [t62_121, t63_123] w_122 ∧ m_87 [t62_121, t63_123] w_122 < m_87 [l3_89, t52_91] w_103)
      (Pu (faV 15 r1_1) fun t64_124 =>
  Ld w_103 t64_124 fun t65_125 w_126 =>
  Pu (lenV t65_125) fun t66_127 =>
  ∃ (I_128 : List Value → World → Prop) (m_129 : List Value → World → Nat), I_128 [l3_89, (Value.int IntKind.i64 0)] w_126 ∧
  ∀ (g_146 : Fr) (w_145 : World), ∀ l3_131 : Value, ∀ t67_133 : Value, I_128 [l3_131, t67_133] w_145 →
    (Pu (binV (TypeDesc.int IntKind.i64) .lss t67_133 t66_127) fun t68_147 =>
    IfB t68_147
      (Pu (ixV 2 t65_125 t67_133) fun t69_148 =>
    LdN 2 w_145 t69_148 fun t70_149 w_150 =>
    New #[(Value.int IntKind.i64 0), (Value.int IntKind.i64 0)] 122 w_150 fun t9_151 w_152 =>
    St 2 w_152 t9_151 t70_149 fun u_153 w_154 =>
    Pu (faV 0 t9_151) fun t72_155 =>
    Ld w_154 t72_155 fun t73_156 w_157 =>
    Pu (faV 1 t9_151) fun t74_158 =>
    Ld w_157 t74_158 fun t75_159 w_160 =>
    RunS Tryz.prog (Instr.buildSlice 23 2 #[(0, t73_156), (1, t75_159)]) w_160 fun t76_161 w_162 =>
    RunS Tryz.prog (Builtin.append_ #[23, 23] 23 #[l3_131, t76_161]) w_162 fun t77_163 w_164 =>
    Pu (binV (TypeDesc.int IntKind.i64) .add t67_133 (Value.int IntKind.i64 1)) fun t78_165 =>
    I_128 [t77_163, t78_165] w_164 ∧ m_129 [t77_163, t78_165] w_164 < m_129 [l3_131, t67_133] w_145)
      (k l3_131 w_145)))))))))
theorem e156 (k : KV) (r0 : Value) (w : World) : K KD Tryz.prog 80 (fun j => bif Nat.beq j 14 then [3, 67] else bif Nat.beq j 9 then [3, 52] else bif Nat.beq j 4 then [3, 39] else []) (fun j =>  none) (Tryz.f156.body.getD .skip) (retQ Tryz.prog Tryz.f156 k) (argF [r0]) w = T156 k r0 w := by kernel_rfl
theorem c156 {k : KV} {r0 : Value} {w : World} (h : T156 k r0 w) : Cl Tryz.prog 156 [r0] w k :=
  Cl_of_K KD_sound mixed Tryz.func156 (by kernel_rfl) (by kernel_rfl) ((e156 k r0 w).symm ▸ h)

/-- Function 157: almonry/rec.checked$1. -/
def T157 (k : KV) (n0 : Value) (w : World) : Prop :=
  Pu (binV (TypeDesc.int IntKind.i64) .lss n0 (Value.int IntKind.i64 0)) fun t4_1 =>
  Gd (isB false t4_1) (fun kk => kk n0 w) w fun t6_2 w_3 =>
  Gd (isB false t4_1) (fun kk => Pu (binV (TypeDesc.int IntKind.i64) .gtr t6_2 (Value.int IntKind.i64 4611686018427387904)) fun vv => kk vv w_3) w_3 fun t7_4 w_5 =>
  Pu (pickV t4_1 (Value.bool true) t7_4) fun t8_6 =>
  k t8_6 w_5
theorem e157 (k : KV) (n0 : Value) (w : World) : K KD Tryz.prog 9 (fun j =>  []) (fun j =>  none) (Tryz.f157.body.getD .skip) (retQ Tryz.prog Tryz.f157 k) (argF [n0]) w = T157 k n0 w := by kernel_rfl
theorem c157 {k : KV} {n0 : Value} {w : World} (h : T157 k n0 w) : Cl Tryz.prog 157 [n0] w k :=
  Cl_of_K KD_sound mixed Tryz.func157 (by kernel_rfl) (by kernel_rfl) ((e157 k n0 w).symm ▸ h)

/-- Function 158: almonry/rec.inner. -/
def T158 (k : KV) (r0 : Value) (w : World) : Prop :=
  New (Value.cells r0) 28 w fun r1_1 w_2 =>
  Cl Tryz.prog 199 [] w_2 fun t16_3 w_4 =>
  Pu (faV 0 r1_1) fun t18_5 =>
  Ld w_4 t18_5 fun t19_6 w_7 =>
  Pu (faV 1 r1_1) fun t20_8 =>
  Ld w_7 t20_8 fun t21_9 w_10 =>
  Pu (faV 2 r1_1) fun t22_11 =>
  Ld w_10 t22_11 fun t23_12 w_13 =>
  Pu (faV 3 r1_1) fun t24_14 =>
  Ld w_13 t24_14 fun t25_15 w_16 =>
  Pu (cvI IntKind.i64 t25_15) fun t26_17 =>
  Pu (faV 4 r1_1) fun t27_18 =>
  Ld w_16 t27_18 fun t28_19 w_20 =>
  Pu (faV 5 r1_1) fun t29_21 =>
  Ld w_20 t29_21 fun t30_22 w_23 =>
  Pu (faV 6 r1_1) fun t31_24 =>
  Ld w_23 t31_24 fun t32_25 w_26 =>
  Pu (faV 7 r1_1) fun t33_27 =>
  Ld w_26 t33_27 fun t34_28 w_29 =>
  Pu (faV 8 r1_1) fun t35_30 =>
  Ld w_29 t35_30 fun t36_31 w_32 =>
  Pu (faV 9 r1_1) fun t37_33 =>
  Ld w_32 t37_33 fun t38_34 w_35 =>
  RunS Tryz.prog (Instr.buildSlice 23 10 #[(0, t19_6), (1, t21_9), (2, t23_12), (3, t26_17), (4, t28_19), (5, t30_22), (6, t32_25), (7, t34_28), (8, t36_31), (9, t38_34)]) w_35 fun t39_36 w_37 =>
  Cl Tryz.prog 200 [t16_3, t39_36] w_37 fun t40_38 w_39 =>
  Pu (faV 10 r1_1) fun t42_40 =>
  Ld w_39 t42_40 fun t43_41 w_42 =>
  Cl Tryz.prog 201 [t16_3, t43_41] w_42 fun t44_43 w_44 =>
  Pu (faV 11 r1_1) fun t45_45 =>
  Ld w_44 t45_45 fun t46_46 w_47 =>
  Pu (faV 12 r1_1) fun t47_48 =>
  Ld w_47 t47_48 fun t48_49 w_50 =>
  RunS Tryz.prog (Instr.build 227 #[(0, t46_46), (1, t48_49)]) w_50 fun t49_51 w_52 =>
  ∃ (I_53 : List Value → World → Prop) (m_54 : List Value → World → Nat), I_53 [(Value.int IntKind.i64 0)] w_52 ∧
  ∀ (g_70 : Fr) (w_69 : World), ∀ t50_57 : Value, I_53 [t50_57] w_69 →
    (Pu (binV (TypeDesc.int IntKind.i64) .lss t50_57 (Value.int IntKind.i64 2)) fun t51_71 =>
    IfB t51_71
      (Pu (ixG false 2 1 t49_51 t50_57) fun t52_72 =>
    Pu (lenV t52_72) fun t55_73 =>
    RunS Tryz.prog (Instr.buildSlice 23 1 #[(0, t55_73)]) w_69 fun t56_74 w_75 =>
    Cl Tryz.prog 200 [t16_3, t56_74] w_75 fun t57_76 w_77 =>
    Cl Tryz.prog 200 [t16_3, t52_72] w_77 fun t60_78 w_79 =>
    Pu (binV (TypeDesc.int IntKind.i64) .add t50_57 (Value.int IntKind.i64 1)) fun t61_80 =>
    I_53 [t61_80] w_79 ∧ m_54 [t61_80] w_79 < m_54 [t50_57] w_69)
      (Pu (faV 13 r1_1) fun t63_81 =>
  Ld w_69 t63_81 fun t64_82 w_83 =>
  Pu (lenV t64_82) fun t65_84 =>
  RunS Tryz.prog (Instr.buildSlice 23 1 #[(0, t65_84)]) w_83 fun t66_85 w_86 =>
  Cl Tryz.prog 200 [t16_3, t66_85] w_86 fun t67_87 w_88 =>
  Pu (faV 13 r1_1) fun t68_89 =>
  Ld w_88 t68_89 fun t69_90 w_91 =>
  Pu (lenV t69_90) fun t70_92 =>
  ∃ (I_93 : List Value → World → Prop) (m_94 : List Value → World → Nat), I_93 [(Value.int IntKind.i64 0)] w_91 ∧
  ∀ (g_125 : Fr) (w_124 : World), ∀ t71_101 : Value, I_93 [t71_101] w_124 →
    (Pu (binV (TypeDesc.int IntKind.i64) .lss t71_101 t70_92) fun t72_126 =>
    IfB t72_126
      (Pu (ixV 7 t69_90 t71_101) fun t73_127 =>
    LdN 7 w_124 t73_127 fun t74_128 w_129 =>
    New #[(Value.int IntKind.i64 0), (Value.int IntKind.i64 0), (Value.int IntKind.i64 0), (Value.int IntKind.i64 0), (Value.int IntKind.i64 0), (Value.string (ByteArray.mk #[])), (Value.slice none 0 0)] 118 w_129 fun m8_130 w_131 =>
    St 7 w_131 m8_130 t74_128 fun u_132 w_133 =>
    Pu (faV 1 m8_130) fun t76_134 =>
    LdN 6 w_133 t76_134 fun t77_135 w_136 =>
    Cl Tryz.prog 103 [t77_135] w_136 fun t78_137 w_138 =>
    Pu (extV t78_137 0) fun t79_139 =>
    Pu (extV t78_137 1) fun t80_140 =>
    Pu (binV (TypeDesc.int IntKind.i64) .neq t80_140 (Value.int IntKind.i64 0)) fun t82_141 =>
    IfB t82_141
      (k (.tuple #[(Value.string (ByteArray.mk #[])), t80_140]) w_138)
      (Pu (faV 0 m8_130) fun t85_142 =>
    Ld w_138 t85_142 fun t86_143 w_144 =>
    RunS Tryz.prog (Instr.buildSlice 23 1 #[(0, t86_143)]) w_144 fun t87_145 w_146 =>
    Cl Tryz.prog 200 [t16_3, t87_145] w_146 fun t88_147 w_148 =>
    Cl Tryz.prog 202 [t79_139, (Value.string (ByteArray.mk #[0]))] w_148 fun t91_149 w_150 =>
    Cl Tryz.prog 201 [t16_3, t91_149] w_150 fun t92_151 w_152 =>
    Pu (binV (TypeDesc.int IntKind.i64) .add t71_101 (Value.int IntKind.i64 1)) fun t93_153 =>
    I_93 [t93_153] w_152 ∧ m_94 [t93_153] w_152 < m_94 [t71_101] w_124))
      (Pu (faV 14 r1_1) fun t95_154 =>
  Ld w_124 t95_154 fun t96_155 w_156 =>
  Pu (lenV t96_155) fun t97_157 =>
  RunS Tryz.prog (Instr.buildSlice 23 1 #[(0, t97_157)]) w_156 fun t98_158 w_159 =>
  Cl Tryz.prog 200 [t16_3, t98_158] w_159 fun t99_160 w_161 =>
  Pu (faV 14 r1_1) fun t100_162 =>
  Ld w_161 t100_162 fun t101_163 w_164 =>
  Pu (lenV t101_163) fun t102_165 =>
  ∃ (I_166 : List Value → World → Prop) (m_167 : List Value → World → Nat), I_166 [(Value.int IntKind.i64 0)] w_164 ∧
  ∀ (g_183 : Fr) (w_182 : World), ∀ t103_170 : Value, I_166 [t103_170] w_182 →
    (Pu (binV (TypeDesc.int IntKind.i64) .lss t103_170 t102_165) fun t104_184 =>
    IfB t104_184
      (Pu (ixV 2 t101_163 t103_170) fun t105_185 =>
    LdN 2 w_182 t105_185 fun t106_186 w_187 =>
    New #[(Value.int IntKind.i64 0), (Value.int IntKind.i64 0)] 120 w_187 fun p12_188 w_189 =>
    St 2 w_189 p12_188 t106_186 fun u_190 w_191 =>
    Pu (faV 0 p12_188) fun t108_192 =>
    Ld w_191 t108_192 fun t109_193 w_194 =>
    Pu (faV 1 p12_188) fun t110_195 =>
    Ld w_194 t110_195 fun t111_196 w_197 =>
    RunS Tryz.prog (Instr.buildSlice 23 2 #[(0, t109_193), (1, t111_196)]) w_197 fun t112_198 w_199 =>
    Cl Tryz.prog 200 [t16_3, t112_198] w_199 fun t113_200 w_201 =>
    Pu (binV (TypeDesc.int IntKind.i64) .add t103_170 (Value.int IntKind.i64 1)) fun t114_202 =>
    I_166 [t114_202] w_201 ∧ m_167 [t114_202] w_201 < m_167 [t103_170] w_182)
      (Pu (faV 15 r1_1) fun t116_203 =>
  Ld w_182 t116_203 fun t117_204 w_205 =>
  Pu (lenV t117_204) fun t118_206 =>
  RunS Tryz.prog (Instr.buildSlice 23 1 #[(0, t118_206)]) w_205 fun t119_207 w_208 =>
  Cl Tryz.prog 200 [t16_3, t119_207] w_208 fun t120_209 w_210 =>
  Pu (faV 15 r1_1) fun t121_211 =>
  Ld w_210 t121_211 fun t122_212 w_213 =>
  Pu (lenV t122_212) fun t123_214 =>
  ∃ (I_215 : List Value → World → Prop) (m_216 : List Value → World → Nat), I_215 [(Value.int IntKind.i64 0)] w_213 ∧
  ∀ (g_232 : Fr) (w_231 : World), ∀ t124_219 : Value, I_215 [t124_219] w_231 →
    (Pu (binV (TypeDesc.int IntKind.i64) .lss t124_219 t123_214) fun t125_233 =>
    IfB t125_233
      (Pu (ixV 2 t122_212 t124_219) fun t126_234 =>
    LdN 2 w_231 t126_234 fun t127_235 w_236 =>
    New #[(Value.int IntKind.i64 0), (Value.int IntKind.i64 0)] 122 w_236 fun t14_237 w_238 =>
    St 2 w_238 t14_237 t127_235 fun u_239 w_240 =>
    Pu (faV 0 t14_237) fun t129_241 =>
    Ld w_240 t129_241 fun t130_242 w_243 =>
    Pu (faV 1 t14_237) fun t131_244 =>
    Ld w_243 t131_244 fun t132_245 w_246 =>
    RunS Tryz.prog (Instr.buildSlice 23 2 #[(0, t130_242), (1, t132_245)]) w_246 fun t133_247 w_248 =>
    Cl Tryz.prog 200 [t16_3, t133_247] w_248 fun t134_249 w_250 =>
    Pu (binV (TypeDesc.int IntKind.i64) .add t124_219 (Value.int IntKind.i64 1)) fun t135_251 =>
    I_215 [t135_251] w_250 ∧ m_216 [t135_251] w_250 < m_216 [t124_219] w_231)
      (Cl Tryz.prog 203 [t16_3] w_231 fun t137_252 w_253 =>
  Pu (lenS t137_252) fun t139_254 =>
  Pu (binV (TypeDesc.int IntKind.i64) .gtr t139_254 (Value.int IntKind.i64 65535)) fun t140_255 =>
  IfB t140_255
    (k (.tuple #[(Value.string (ByteArray.mk #[])), (Value.int IntKind.i64 3)]) w_253)
    (k (.tuple #[t137_252, (Value.int IntKind.i64 0)]) w_253)))))))))
theorem e158 (k : KV) (r0 : Value) (w : World) : K KD Tryz.prog 142 (fun j => bif Nat.beq j 28 then [124] else bif Nat.beq j 22 then [103] else bif Nat.beq j 12 then [71] else bif Nat.beq j 5 then [50] else []) (fun j =>  none) (Tryz.f158.body.getD .skip) (retQ Tryz.prog Tryz.f158 k) (argF [r0]) w = T158 k r0 w := by kernel_rfl
theorem c158 {k : KV} {r0 : Value} {w : World} (h : T158 k r0 w) : Cl Tryz.prog 158 [r0] w k :=
  Cl_of_K KD_sound mixed Tryz.func158 (by kernel_rfl) (by kernel_rfl) ((e158 k r0 w).symm ▸ h)

/-- Function 167: slices.Equal[[]int,int]. -/
def T167 (k : KV) (s10 : Value) (s21 : Value) (w : World) : Prop :=
  Pu (lenV s10) fun t7_1 =>
  Pu (lenV s21) fun t9_2 =>
  Pu (binV (TypeDesc.int IntKind.i64) .neq t7_1 t9_2) fun t10_3 =>
  IfB t10_3
    (k (Value.bool false) w)
    (Pu (lenV s10) fun t12_4 =>
  ∃ (I_5 : List Value → World → Prop) (m_6 : List Value → World → Nat), I_5 [(Value.int IntKind.i64 0)] w ∧
  ∀ (g_24 : Fr) (w_23 : World), ∀ t13_10 : Value, I_5 [t13_10] w_23 →
    (Pu (binV (TypeDesc.int IntKind.i64) .lss t13_10 t12_4) fun t14_25 =>
    IfB t14_25
      (Pu (ixV 1 s10 t13_10) fun t18_26 =>
    Ld (World.drew w_23) t18_26 fun t19_27 w_28 =>
    w_28 = (World.drew w_23) ∧
    Pu (ixV 1 s21 t13_10) fun t22_29 =>
    Ld (World.drew w_23) t22_29 fun t23_30 w_31 =>
    w_31 = (World.drew w_23) ∧
    Pu (binV (TypeDesc.int IntKind.i64) .neq t19_27 t23_30) fun t24_32 =>
    IfB t24_32
      (k (Value.bool false) (World.drew w_23))
      (Pu (binV (TypeDesc.int IntKind.i64) .add t13_10 (Value.int IntKind.i64 1)) fun t25_33 =>
    I_5 [t25_33] (World.drew w_23) ∧ m_6 [t25_33] (World.drew w_23) < m_6 [t13_10] w_23))
      (k (Value.bool true) w_23)))
theorem e167 (k : KV) (s10 : Value) (s21 : Value) (w : World) : K KD Tryz.prog 26 (fun j => bif Nat.beq j 4 then [13] else []) (fun j =>  none) (Tryz.f167.body.getD .skip) (retQ Tryz.prog Tryz.f167 k) (argF [s10, s21]) w = T167 k s10 s21 w := by kernel_rfl
theorem c167 {k : KV} {s10 : Value} {s21 : Value} {w : World} (h : T167 k s10 s21 w) : Cl Tryz.prog 167 [s10, s21] w k :=
  Cl_of_K KD_sound mixed Tryz.func167 (by kernel_rfl) (by kernel_rfl) ((e167 k s10 s21 w).symm ▸ h)

/-- Function 168: almonry/rec.Same$1. -/
def T168 (k : KV) (x0 : Value) (y1 : Value) (w : World) : Prop :=
  New (Value.cells x0) 118 w fun x2_1 w_2 =>
  New (Value.cells y1) 118 w_2 fun y3_3 w_4 =>
  Pu (faV 0 x2_1) fun t5_5 =>
  Ld w_4 t5_5 fun t6_6 w_7 =>
  Pu (faV 0 y3_3) fun t7_8 =>
  Ld w_7 t7_8 fun t8_9 w_10 =>
  Pu (binV (TypeDesc.int IntKind.i64) .eql t6_6 t8_9) fun t9_11 =>
  Gd (isB true t9_11) (fun kk => Pu (faV 1 x2_1) fun vv => kk vv w_10) w_10 fun t11_12 w_13 =>
  Gd (isB true t9_11) (fun kk => LdN 6 w_13 t11_12 kk) w_13 fun t12_14 w_15 =>
  Gd (isB true t9_11) (fun kk => Pu (faV 1 y3_3) fun vv => kk vv w_15) w_15 fun t13_16 w_17 =>
  Gd (isB true t9_11) (fun kk => LdN 6 w_17 t13_16 kk) w_17 fun t14_18 w_19 =>
  Gd (isB true t9_11) (fun kk => Cl Tryz.prog 169 [t12_14, t14_18] w_19 kk) w_19 fun t15_20 w_21 =>
  Pu (pickV t9_11 t15_20 (Value.bool false)) fun t16_22 =>
  k t16_22 w_21
theorem e168 (k : KV) (x0 : Value) (y1 : Value) (w : World) : K KD Tryz.prog 17 (fun j =>  []) (fun j =>  none) (Tryz.f168.body.getD .skip) (retQ Tryz.prog Tryz.f168 k) (argF [x0, y1]) w = T168 k x0 y1 w := by kernel_rfl
theorem c168 {k : KV} {x0 : Value} {y1 : Value} {w : World} (h : T168 k x0 y1 w) : Cl Tryz.prog 168 [x0, y1] w k :=
  Cl_of_K KD_sound mixed Tryz.func168 (by kernel_rfl) (by kernel_rfl) ((e168 k x0 y1 w).symm ▸ h)

/-- Function 170: slices.EqualFunc[[]almonry/api.Image,[]almonry/api.Image,almonry/api.Image,almonry/api.Image]. -/
def T170 (k : KV) (s10 : Value) (s21 : Value) (eq2 : Value) (w : World) : Prop :=
  Pu (lenV s10) fun t11_1 =>
  Pu (lenV s21) fun t13_2 =>
  Pu (binV (TypeDesc.int IntKind.i64) .neq t11_1 t13_2) fun t14_3 =>
  IfB t14_3
    (k (Value.bool false) w)
    (Pu (lenV s10) fun t16_4 =>
  ∃ (I_5 : List Value → World → Prop) (m_6 : List Value → World → Nat), I_5 [(Value.int IntKind.i64 0)] w ∧
  ∀ (g_28 : Fr) (w_27 : World), ∀ t17_12 : Value, I_5 [t17_12] w_27 →
    (Pu (binV (TypeDesc.int IntKind.i64) .lss t17_12 t16_4) fun t18_29 =>
    IfB t18_29
      (Pu (ixV 7 s10 t17_12) fun t20_30 =>
    LdN 7 w_27 t20_30 fun t21_31 w_32 =>
    New #[(Value.int IntKind.i64 0), (Value.int IntKind.i64 0), (Value.int IntKind.i64 0), (Value.int IntKind.i64 0), (Value.int IntKind.i64 0), (Value.string (ByteArray.mk #[])), (Value.slice none 0 0)] 118 w_32 fun v18_33 w_34 =>
    St 7 w_34 v18_33 t21_31 fun u_35 w_36 =>
    Pu (ixV 7 s21 t17_12) fun t24_37 =>
    LdN 7 w_36 t24_37 fun t25_38 w_39 =>
    New #[(Value.int IntKind.i64 0), (Value.int IntKind.i64 0), (Value.int IntKind.i64 0), (Value.int IntKind.i64 0), (Value.int IntKind.i64 0), (Value.string (ByteArray.mk #[])), (Value.slice none 0 0)] 118 w_39 fun v29_40 w_41 =>
    St 7 w_41 v29_40 t25_38 fun u_42 w_43 =>
    LdN 7 w_43 v18_33 fun t27_44 w_45 =>
    LdN 7 w_45 v29_40 fun t28_46 w_47 =>
    ClV Tryz.prog eq2 [t27_44, t28_46] w_47 fun t29_48 w_49 =>
    Pu (unV .not t29_48) fun t30_50 =>
    IfB t30_50
      (k (Value.bool false) w_49)
      (Pu (binV (TypeDesc.int IntKind.i64) .add t17_12 (Value.int IntKind.i64 1)) fun t31_51 =>
    I_5 [t31_51] w_49 ∧ m_6 [t31_51] w_49 < m_6 [t17_12] w_27))
      (k (Value.bool true) w_27)))
theorem e170 (k : KV) (s10 : Value) (s21 : Value) (eq2 : Value) (w : World) : K KD Tryz.prog 32 (fun j => bif Nat.beq j 4 then [17] else []) (fun j =>  none) (Tryz.f170.body.getD .skip) (retQ Tryz.prog Tryz.f170 k) (argF [s10, s21, eq2]) w = T170 k s10 s21 eq2 w := by kernel_rfl
theorem c170 {k : KV} {s10 : Value} {s21 : Value} {eq2 : Value} {w : World} (h : T170 k s10 s21 eq2 w) : Cl Tryz.prog 170 [s10, s21, eq2] w k :=
  Cl_of_K KD_sound mixed Tryz.func170 (by kernel_rfl) (by kernel_rfl) ((e170 k s10 s21 eq2 w).symm ▸ h)

/-- Function 171: slices.Equal[[]almonry/api.Owed,almonry/api.Owed]. -/
def T171 (k : KV) (s10 : Value) (s21 : Value) (w : World) : Prop :=
  Pu (lenV s10) fun t7_1 =>
  Pu (lenV s21) fun t9_2 =>
  Pu (binV (TypeDesc.int IntKind.i64) .neq t7_1 t9_2) fun t10_3 =>
  IfB t10_3
    (k (Value.bool false) w)
    (Pu (lenV s10) fun t12_4 =>
  ∃ (I_5 : List Value → World → Prop) (m_6 : List Value → World → Nat), I_5 [(Value.int IntKind.i64 0)] w ∧
  ∀ (g_24 : Fr) (w_23 : World), ∀ t13_10 : Value, I_5 [t13_10] w_23 →
    (Pu (binV (TypeDesc.int IntKind.i64) .lss t13_10 t12_4) fun t14_25 =>
    IfB t14_25
      (Pu (ixV 2 s10 t13_10) fun t18_26 =>
    LdN 2 (World.drew w_23) t18_26 fun t19_27 w_28 =>
    w_28 = (World.drew w_23) ∧
    Pu (ixV 2 s21 t13_10) fun t22_29 =>
    LdN 2 (World.drew w_23) t22_29 fun t23_30 w_31 =>
    w_31 = (World.drew w_23) ∧
    RunS Tryz.prog (do eqGuard .neq 120 (Operand.tmp 19) (Operand.tmp 23) t19_27 t23_30; binOp .neq 120 t19_27 t23_30) (World.drew w_23) fun t24_32 w_33 =>
    w_33 = (World.drew w_23) ∧
    IfB t24_32
      (k (Value.bool false) (World.drew w_23))
      (Pu (binV (TypeDesc.int IntKind.i64) .add t13_10 (Value.int IntKind.i64 1)) fun t25_34 =>
    I_5 [t25_34] (World.drew w_23) ∧ m_6 [t25_34] (World.drew w_23) < m_6 [t13_10] w_23))
      (k (Value.bool true) w_23)))
theorem e171 (k : KV) (s10 : Value) (s21 : Value) (w : World) : K KD Tryz.prog 26 (fun j => bif Nat.beq j 4 then [13] else []) (fun j =>  none) (Tryz.f171.body.getD .skip) (retQ Tryz.prog Tryz.f171 k) (argF [s10, s21]) w = T171 k s10 s21 w := by kernel_rfl
theorem c171 {k : KV} {s10 : Value} {s21 : Value} {w : World} (h : T171 k s10 s21 w) : Cl Tryz.prog 171 [s10, s21] w k :=
  Cl_of_K KD_sound mixed Tryz.func171 (by kernel_rfl) (by kernel_rfl) ((e171 k s10 s21 w).symm ▸ h)

/-- Function 172: slices.Equal[[]almonry/api.Begun,almonry/api.Begun]. -/
def T172 (k : KV) (s10 : Value) (s21 : Value) (w : World) : Prop :=
  Pu (lenV s10) fun t7_1 =>
  Pu (lenV s21) fun t9_2 =>
  Pu (binV (TypeDesc.int IntKind.i64) .neq t7_1 t9_2) fun t10_3 =>
  IfB t10_3
    (k (Value.bool false) w)
    (Pu (lenV s10) fun t12_4 =>
  ∃ (I_5 : List Value → World → Prop) (m_6 : List Value → World → Nat), I_5 [(Value.int IntKind.i64 0)] w ∧
  ∀ (g_24 : Fr) (w_23 : World), ∀ t13_10 : Value, I_5 [t13_10] w_23 →
    (Pu (binV (TypeDesc.int IntKind.i64) .lss t13_10 t12_4) fun t14_25 =>
    IfB t14_25
      (Pu (ixV 2 s10 t13_10) fun t18_26 =>
    LdN 2 (World.drew w_23) t18_26 fun t19_27 w_28 =>
    w_28 = (World.drew w_23) ∧
    Pu (ixV 2 s21 t13_10) fun t22_29 =>
    LdN 2 (World.drew w_23) t22_29 fun t23_30 w_31 =>
    w_31 = (World.drew w_23) ∧
    RunS Tryz.prog (do eqGuard .neq 122 (Operand.tmp 19) (Operand.tmp 23) t19_27 t23_30; binOp .neq 122 t19_27 t23_30) (World.drew w_23) fun t24_32 w_33 =>
    w_33 = (World.drew w_23) ∧
    IfB t24_32
      (k (Value.bool false) (World.drew w_23))
      (Pu (binV (TypeDesc.int IntKind.i64) .add t13_10 (Value.int IntKind.i64 1)) fun t25_34 =>
    I_5 [t25_34] (World.drew w_23) ∧ m_6 [t25_34] (World.drew w_23) < m_6 [t13_10] w_23))
      (k (Value.bool true) w_23)))
theorem e172 (k : KV) (s10 : Value) (s21 : Value) (w : World) : K KD Tryz.prog 26 (fun j => bif Nat.beq j 4 then [13] else []) (fun j =>  none) (Tryz.f172.body.getD .skip) (retQ Tryz.prog Tryz.f172 k) (argF [s10, s21]) w = T172 k s10 s21 w := by kernel_rfl
theorem c172 {k : KV} {s10 : Value} {s21 : Value} {w : World} (h : T172 k s10 s21 w) : Cl Tryz.prog 172 [s10, s21] w k :=
  Cl_of_K KD_sound mixed Tryz.func172 (by kernel_rfl) (by kernel_rfl) ((e172 k s10 s21 w).symm ▸ h)

/-- Function 182: strings.trimRightByte. -/
def T182 (k : KV) (s0 : Value) (c1 : Value) (w : World) : Prop :=
  ∃ (I_1 : List Value → World → Prop) (m_2 : List Value → World → Nat), I_1 [s0] w ∧
  ∀ (g_23 : Fr) (w_22 : World), ∀ s0_4 : Value, I_1 [s0_4] w_22 →
    (Pu (lenS s0_4) fun t6_24 =>
    Pu (binV (TypeDesc.int IntKind.i64) .gtr t6_24 (Value.int IntKind.i64 0)) fun t7_25 =>
    Gd (isB true t7_25) (fun kk => kk s0_4 w_22) w_22 fun t9_26 w_27 =>
    Gd (isB true t7_25) (fun kk => kk s0_4 w_27) w_27 fun t10_28 w_29 =>
    Gd (isB true t7_25) (fun kk => Pu (lenS t10_28) fun vv => kk vv w_29) w_29 fun t11_30 w_31 =>
    Gd (isB true t7_25) (fun kk => Pu (binV (TypeDesc.int IntKind.i64) .sub t11_30 (Value.int IntKind.i64 1)) fun vv => kk vv w_31) w_31 fun t12_32 w_33 =>
    Gd (isB true t7_25) (fun kk => Pu (ixS t9_26 t12_32) fun vv => kk vv w_33) w_33 fun t13_34 w_35 =>
    Gd (isB true t7_25) (fun kk => kk c1 w_35) w_35 fun t14_36 w_37 =>
    Gd (isB true t7_25) (fun kk => Pu (binV (TypeDesc.int IntKind.u8) .eql t13_34 t14_36) fun vv => kk vv w_37) w_37 fun t15_38 w_39 =>
    Pu (pickV t7_25 t15_38 (Value.bool false)) fun t16_40 =>
    IfB t16_40
      (Pu (lenS s0_4) fun t19_41 =>
    Pu (binV (TypeDesc.int IntKind.i64) .sub t19_41 (Value.int IntKind.i64 1)) fun t20_42 =>
    Pu (slS s0_4 none (some t20_42)) fun t21_43 =>
    I_1 [t21_43] w_39 ∧ m_2 [t21_43] w_39 < m_2 [s0_4] w_22)
      (k s0_4 w_39))
theorem e182 (k : KV) (s0 : Value) (c1 : Value) (w : World) : K KD Tryz.prog 23 (fun j => bif Nat.beq j 1 then [0] else []) (fun j =>  none) (Tryz.f182.body.getD .skip) (retQ Tryz.prog Tryz.f182 k) (argF [s0, c1]) w = T182 k s0 c1 w := by kernel_rfl
theorem c182 {k : KV} {s0 : Value} {c1 : Value} {w : World} (h : T182 k s0 c1 w) : Cl Tryz.prog 182 [s0, c1] w k :=
  Cl_of_K KD_sound mixed Tryz.func182 (by kernel_rfl) (by kernel_rfl) ((e182 k s0 c1 w).symm ▸ h)

/-- Function 196: (*almonry/bits.Reader).fail. -/
def T196 (k : KV) (r0 : Value) (e1 : Value) (w : World) : Prop :=
  Pu (nilV r0) fun t8_1 =>
  Pu (faV 0 t8_1) fun t9_2 =>
  St 1 w t9_2 (Value.string (ByteArray.mk #[])) fun u_3 w_4 =>
  Pu (nilV r0) fun t10_5 =>
  Pu (faV 1 t10_5) fun t11_6 =>
  St 1 w_4 t11_6 e1 fun u_7 w_8 =>
  k (Value.int IntKind.i64 0) w_8
theorem e196 (k : KV) (r0 : Value) (e1 : Value) (w : World) : K KD Tryz.prog 12 (fun j =>  []) (fun j =>  none) (Tryz.f196.body.getD .skip) (retQ Tryz.prog Tryz.f196 k) (argF [r0, e1]) w = T196 k r0 e1 w := by kernel_rfl
theorem c196 {k : KV} {r0 : Value} {e1 : Value} {w : World} (h : T196 k r0 e1 w) : Cl Tryz.prog 196 [r0, e1] w k :=
  Cl_of_K KD_sound mixed Tryz.func196 (by kernel_rfl) (by kernel_rfl) ((e196 k r0 e1 w).symm ▸ h)

/-- Function 197: (*almonry/bits.Reader).Left. -/
def T197 (k : KV) (r0 : Value) (w : World) : Prop :=
  Pu (binV (TypeDesc.pointer 221) .eql r0 (Value.pointer none)) fun t4_1 =>
  IfB t4_1
    (k (Value.int IntKind.i64 0) w)
    (Pu (nilV r0) fun t6_2 =>
  Pu (faV 0 t6_2) fun t7_3 =>
  Ld w t7_3 fun t8_4 w_5 =>
  Pu (lenS t8_4) fun t9_6 =>
  k t9_6 w_5)
theorem e197 (k : KV) (r0 : Value) (w : World) : K KD Tryz.prog 10 (fun j =>  []) (fun j =>  none) (Tryz.f197.body.getD .skip) (retQ Tryz.prog Tryz.f197 k) (argF [r0]) w = T197 k r0 w := by kernel_rfl
theorem c197 {k : KV} {r0 : Value} {w : World} (h : T197 k r0 w) : Cl Tryz.prog 197 [r0] w k :=
  Cl_of_K KD_sound mixed Tryz.func197 (by kernel_rfl) (by kernel_rfl) ((e197 k r0 w).symm ▸ h)

/-- Function 198: slices.IndexFunc[[]int,int]. -/
def T198 (k : KV) (s0 : Value) (f1 : Value) (w : World) : Prop :=
  Pu (lenV s0) fun t7_1 =>
  ∃ (I_2 : List Value → World → Prop) (m_3 : List Value → World → Nat), I_2 [(Value.int IntKind.i64 0)] w ∧
  ∀ (g_19 : Fr) (w_18 : World), ∀ t8_7 : Value, I_2 [t8_7] w_18 →
    (Pu (binV (TypeDesc.int IntKind.i64) .lss t8_7 t7_1) fun t9_20 =>
    IfB t9_20
      (Pu (ixV 1 s0 t8_7) fun t14_21 =>
    Ld w_18 t14_21 fun t15_22 w_23 =>
    ClV Tryz.prog f1 [t15_22] w_23 fun t16_24 w_25 =>
    IfB t16_24
      (k t8_7 w_25)
      (Pu (binV (TypeDesc.int IntKind.i64) .add t8_7 (Value.int IntKind.i64 1)) fun t18_26 =>
    I_2 [t18_26] w_25 ∧ m_3 [t18_26] w_25 < m_3 [t8_7] w_18))
      (k (Value.int IntKind.i64 (-1)) w_18))
theorem e198 (k : KV) (s0 : Value) (f1 : Value) (w : World) : K KD Tryz.prog 19 (fun j => bif Nat.beq j 2 then [8] else []) (fun j =>  none) (Tryz.f198.body.getD .skip) (retQ Tryz.prog Tryz.f198 k) (argF [s0, f1]) w = T198 k s0 f1 w := by kernel_rfl
theorem c198 {k : KV} {s0 : Value} {f1 : Value} {w : World} (h : T198 k s0 f1 w) : Cl Tryz.prog 198 [s0, f1] w k :=
  Cl_of_K KD_sound mixed Tryz.func198 (by kernel_rfl) (by kernel_rfl) ((e198 k s0 f1 w).symm ▸ h)

/-- Function 199: almonry/bits.New. -/
def T199 (k : KV) (w : World) : Prop :=
  RunS Tryz.prog (Instr.build 243 #[]) w fun t1_1 w_2 =>
  New (Value.cells t1_1) 243 w_2 fun t2_3 w_4 =>
  k t2_3 w_4
theorem e199 (k : KV) (w : World) : K KD Tryz.prog 3 (fun j =>  []) (fun j =>  none) (Tryz.f199.body.getD .skip) (retQ Tryz.prog Tryz.f199 k) (argF []) w = T199 k  w := by kernel_rfl
theorem c199 {k : KV} {w : World} (h : T199 k  w) : Cl Tryz.prog 199 [] w k :=
  Cl_of_K KD_sound mixed Tryz.func199 (by kernel_rfl) (by kernel_rfl) ((e199 k  w).symm ▸ h)

/-- Function 200: (*almonry/bits.Writer).Num. -/
def T200 (k : KV) (wv0 : Value) (ns1 : Value) (w : World) : Prop :=
  Pu (binV (TypeDesc.pointer 243) .eql wv0 (Value.pointer none)) fun t7_1 =>
  IfB t7_1
    (k (.tuple #[]) w)
    (Pu (lenV ns1) fun t9_2 =>
  ∃ (I_3 : List Value → World → Prop) (m_4 : List Value → World → Nat), I_3 [(Value.int IntKind.i64 0)] w ∧
  ∀ (g_42 : Fr) (w_41 : World), ∀ t10_7 : Value, I_3 [t10_7] w_41 →
    (Pu (binV (TypeDesc.int IntKind.i64) .lss t10_7 t9_2) fun t11_43 =>
    IfB t11_43
      (Pu (ixV 1 ns1 t10_7) fun t12_44 =>
    Ld w_41 t12_44 fun t13_45 w_46 =>
    Pu (foldV0 max2V [t13_45, (Value.int IntKind.i64 0)]) fun t15_47 =>
    ∃ (I_48 : List Value → World → Prop) (m_49 : List Value → World → Nat), I_48 [t15_47] w_46 ∧
    ∀ (g_69 : Fr) (w_68 : World), ∀ n5_51 : Value, I_48 [n5_51] w_68 →
      (Pu (binV (TypeDesc.int IntKind.i64) .gtr n5_51 (Value.int IntKind.i64 127)) fun t17_70 =>
      IfB t17_70
        (Pu (nilV wv0) fun t22_71 =>
      Pu (faV 0 t22_71) fun t23_72 =>
      Ld w_68 t23_72 fun t24_73 w_74 =>
      Pu (cvI IntKind.u8 n5_51) fun t26_75 =>
      Pu (binV (TypeDesc.int IntKind.u8) .or t26_75 (Value.int IntKind.u8 128)) fun t27_76 =>
      RunS Tryz.prog (Instr.buildSlice 123 1 #[(0, t27_76)]) w_74 fun t28_77 w_78 =>
      RunS Tryz.prog (Builtin.append_ #[123, 123] 123 #[t24_73, t28_77]) w_78 fun t29_79 w_80 =>
      Pu (nilV wv0) fun t30_81 =>
      Pu (faV 0 t30_81) fun t31_82 =>
      St 1 w_80 t31_82 t29_79 fun u_83 w_84 =>
      Pu (binV (TypeDesc.int IntKind.i64) .shr n5_51 (Value.int IntKind.u64 7)) fun t19_85 =>
      I_48 [t19_85] w_84 ∧ m_49 [t19_85] w_84 < m_49 [n5_51] w_68)
        (Pu (nilV wv0) fun t34_86 =>
    Pu (faV 0 t34_86) fun t35_87 =>
    Ld w_68 t35_87 fun t36_88 w_89 =>
    Pu (cvI IntKind.u8 n5_51) fun t38_90 =>
    RunS Tryz.prog (Instr.buildSlice 123 1 #[(0, t38_90)]) w_89 fun t39_91 w_92 =>
    RunS Tryz.prog (Builtin.append_ #[123, 123] 123 #[t36_88, t39_91]) w_92 fun t40_93 w_94 =>
    Pu (nilV wv0) fun t41_95 =>
    Pu (faV 0 t41_95) fun t42_96 =>
    St 1 w_94 t42_96 t40_93 fun u_97 w_98 =>
    Pu (binV (TypeDesc.int IntKind.i64) .add t10_7 (Value.int IntKind.i64 1)) fun t43_99 =>
    I_3 [t43_99] w_98 ∧ m_4 [t43_99] w_98 < m_4 [t10_7] w_41)))
      (k (.tuple #[]) w_41)))
theorem e200 (k : KV) (wv0 : Value) (ns1 : Value) (w : World) : K KD Tryz.prog 44 (fun j => bif Nat.beq j 5 then [5] else bif Nat.beq j 2 then [10] else []) (fun j =>  none) (Tryz.f200.body.getD .skip) (retQ Tryz.prog Tryz.f200 k) (argF [wv0, ns1]) w = T200 k wv0 ns1 w := by kernel_rfl
theorem c200 {k : KV} {wv0 : Value} {ns1 : Value} {w : World} (h : T200 k wv0 ns1 w) : Cl Tryz.prog 200 [wv0, ns1] w k :=
  Cl_of_K KD_sound mixed Tryz.func200 (by kernel_rfl) (by kernel_rfl) ((e200 k wv0 ns1 w).symm ▸ h)

/-- Function 201: (*almonry/bits.Writer).Text. -/
def T201 (k : KV) (wv0 : Value) (s1 : Value) (w : World) : Prop :=
  Pu (binV (TypeDesc.pointer 243) .eql wv0 (Value.pointer none)) fun t5_1 =>
  IfB t5_1
    (k (.tuple #[]) w)
    (Pu (lenS s1) fun t8_2 =>
  RunS Tryz.prog (Instr.buildSlice 23 1 #[(0, t8_2)]) w fun t9_3 w_4 =>
  Cl Tryz.prog 200 [wv0, t9_3] w_4 fun t10_5 w_6 =>
  Pu (nilV wv0) fun t13_7 =>
  Pu (faV 0 t13_7) fun t14_8 =>
  Ld w_6 t14_8 fun t15_9 w_10 =>
  RunS Tryz.prog (Builtin.append_ #[123, 9] 123 #[t15_9, s1]) w_10 fun t17_11 w_12 =>
  Pu (nilV wv0) fun t18_13 =>
  Pu (faV 0 t18_13) fun t19_14 =>
  St 1 w_12 t19_14 t17_11 fun u_15 w_16 =>
  k (.tuple #[]) w_16)
theorem e201 (k : KV) (wv0 : Value) (s1 : Value) (w : World) : K KD Tryz.prog 20 (fun j =>  []) (fun j =>  none) (Tryz.f201.body.getD .skip) (retQ Tryz.prog Tryz.f201 k) (argF [wv0, s1]) w = T201 k wv0 s1 w := by kernel_rfl
theorem c201 {k : KV} {wv0 : Value} {s1 : Value} {w : World} (h : T201 k wv0 s1 w) : Cl Tryz.prog 201 [wv0, s1] w k :=
  Cl_of_K KD_sound mixed Tryz.func201 (by kernel_rfl) (by kernel_rfl) ((e201 k wv0 s1 w).symm ▸ h)

/-- Function 202: strings.TrimRight. -/
def T202 (k : KV) (s0 : Value) (cutset1 : Value) (w : World) : Prop :=
  Pu (binV TypeDesc.string .eql s0 (Value.string (ByteArray.mk #[]))) fun t8_1 =>
  Gd (isB false t8_1) (fun kk => kk cutset1 w) w fun t10_2 w_3 =>
  Gd (isB false t8_1) (fun kk => Pu (binV TypeDesc.string .eql t10_2 (Value.string (ByteArray.mk #[]))) fun vv => kk vv w_3) w_3 fun t11_4 w_5 =>
  Pu (pickV t8_1 (Value.bool true) t11_4) fun t12_6 =>
  IfB t12_6
    (k s0 w_5)
    (Pu (lenS cutset1) fun t15_7 =>
  Pu (binV (TypeDesc.int IntKind.i64) .eql t15_7 (Value.int IntKind.i64 1)) fun t16_8 =>
  Gd (isB true t16_8) (fun kk => kk cutset1 w_5) w_5 fun t18_9 w_10 =>
  Gd (isB true t16_8) (fun kk => Pu (ixS t18_9 (Value.int IntKind.i64 0)) fun vv => kk vv w_10) w_10 fun t19_11 w_12 =>
  Gd (isB true t16_8) (fun kk => Pu (binV (TypeDesc.int IntKind.u8) .lss t19_11 (Value.int IntKind.u8 128)) fun vv => kk vv w_12) w_12 fun t20_13 w_14 =>
  Pu (pickV t16_8 t20_13 (Value.bool false)) fun t21_15 =>
  IfB t21_15
    (Pu (ixS cutset1 (Value.int IntKind.i64 0)) fun t24_16 =>
      Cl Tryz.prog 182 [s0, t24_16] w_14 fun t25_17 w_18 =>
      k t25_17 w_18)
    (Cl Tryz.prog 183 [cutset1] w_14 fun t28_19 w_20 =>
  Pu (extV t28_19 0) fun t29_21 =>
  Pu (extV t28_19 1) fun t30_22 =>
  New #[(Value.bool false), (Value.bool false), (Value.bool false), (Value.bool false), (Value.bool false), (Value.bool false), (Value.bool false), (Value.bool false), (Value.bool false), (Value.bool false), (Value.bool false), (Value.bool false), (Value.bool false), (Value.bool false), (Value.bool false), (Value.bool false), (Value.bool false), (Value.bool false), (Value.bool false), (Value.bool false), (Value.bool false), (Value.bool false), (Value.bool false), (Value.bool false), (Value.bool false), (Value.bool false), (Value.bool false), (Value.bool false), (Value.bool false), (Value.bool false), (Value.bool false), (Value.bool false), (Value.bool false), (Value.bool false), (Value.bool false), (Value.bool false), (Value.bool false), (Value.bool false), (Value.bool false), (Value.bool false), (Value.bool false), (Value.bool false), (Value.bool false), (Value.bool false), (Value.bool false), (Value.bool false), (Value.bool false), (Value.bool false), (Value.bool false), (Value.bool false), (Value.bool false), (Value.bool false), (Value.bool false), (Value.bool false), (Value.bool false), (Value.bool false), (Value.bool false), (Value.bool false), (Value.bool false), (Value.bool false), (Value.bool false), (Value.bool false), (Value.bool false), (Value.bool false), (Value.bool false), (Value.bool false), (Value.bool false), (Value.bool false), (Value.bool false), (Value.bool false), (Value.bool false), (Value.bool false), (Value.bool false), (Value.bool false), (Value.bool false), (Value.bool false), (Value.bool false), (Value.bool false), (Value.bool false), (Value.bool false), (Value.bool false), (Value.bool false), (Value.bool false), (Value.bool false), (Value.bool false), (Value.bool false), (Value.bool false), (Value.bool false), (Value.bool false), (Value.bool false), (Value.bool false), (Value.bool false), (Value.bool false), (Value.bool false), (Value.bool false), (Value.bool false), (Value.bool false), (Value.bool false), (Value.bool false), (Value.bool false), (Value.bool false), (Value.bool false), (Value.bool false), (Value.bool false), (Value.bool false), (Value.bool false), (Value.bool false), (Value.bool false), (Value.bool false), (Value.bool false), (Value.bool false), (Value.bool false), (Value.bool false), (Value.bool false), (Value.bool false), (Value.bool false), (Value.bool false), (Value.bool false), (Value.bool false), (Value.bool false), (Value.bool false), (Value.bool false), (Value.bool false), (Value.bool false), (Value.bool false), (Value.bool false), (Value.bool false), (Value.bool false), (Value.bool false), (Value.bool false), (Value.bool false), (Value.bool false), (Value.bool false), (Value.bool false), (Value.bool false), (Value.bool false), (Value.bool false), (Value.bool false), (Value.bool false), (Value.bool false), (Value.bool false), (Value.bool false), (Value.bool false), (Value.bool false), (Value.bool false), (Value.bool false), (Value.bool false), (Value.bool false), (Value.bool false), (Value.bool false), (Value.bool false), (Value.bool false), (Value.bool false), (Value.bool false), (Value.bool false), (Value.bool false), (Value.bool false), (Value.bool false), (Value.bool false), (Value.bool false), (Value.bool false), (Value.bool false), (Value.bool false), (Value.bool false), (Value.bool false), (Value.bool false), (Value.bool false), (Value.bool false), (Value.bool false), (Value.bool false), (Value.bool false), (Value.bool false), (Value.bool false), (Value.bool false), (Value.bool false), (Value.bool false), (Value.bool false), (Value.bool false), (Value.bool false), (Value.bool false), (Value.bool false), (Value.bool false), (Value.bool false), (Value.bool false), (Value.bool false), (Value.bool false), (Value.bool false), (Value.bool false), (Value.bool false), (Value.bool false), (Value.bool false), (Value.bool false), (Value.bool false), (Value.bool false), (Value.bool false), (Value.bool false), (Value.bool false), (Value.bool false), (Value.bool false), (Value.bool false), (Value.bool false), (Value.bool false), (Value.bool false), (Value.bool false), (Value.bool false), (Value.bool false), (Value.bool false), (Value.bool false), (Value.bool false), (Value.bool false), (Value.bool false), (Value.bool false), (Value.bool false), (Value.bool false), (Value.bool false), (Value.bool false), (Value.bool false), (Value.bool false), (Value.bool false), (Value.bool false), (Value.bool false), (Value.bool false), (Value.bool false), (Value.bool false), (Value.bool false), (Value.bool false), (Value.bool false), (Value.bool false), (Value.bool false), (Value.bool false), (Value.bool false), (Value.bool false), (Value.bool false), (Value.bool false), (Value.bool false), (Value.bool false), (Value.bool false), (Value.bool false), (Value.bool false), (Value.bool false), (Value.bool false), (Value.bool false), (Value.bool false), (Value.bool false), (Value.bool false), (Value.bool false), (Value.bool false), (Value.bool false), (Value.bool false), (Value.bool false), (Value.bool false), (Value.bool false), (Value.bool false), (Value.bool false), (Value.bool false), (Value.bool false)] 212 w_20 fun as5_23 w_24 =>
  St 256 w_24 as5_23 t29_21 fun u_25 w_26 =>
  IfB t30_22
    (Cl Tryz.prog 185 [s0, as5_23] w_26 fun t33_27 w_28 =>
      k t33_27 w_28)
    (Cl Tryz.prog 187 [s0, cutset1] w_26 fun t36_29 w_30 =>
  k t36_29 w_30)))
theorem e202 (k : KV) (s0 : Value) (cutset1 : Value) (w : World) : K KD Tryz.prog 37 (fun j =>  []) (fun j =>  none) (Tryz.f202.body.getD .skip) (retQ Tryz.prog Tryz.f202 k) (argF [s0, cutset1]) w = T202 k s0 cutset1 w := by kernel_rfl
theorem c202 {k : KV} {s0 : Value} {cutset1 : Value} {w : World} (h : T202 k s0 cutset1 w) : Cl Tryz.prog 202 [s0, cutset1] w k :=
  Cl_of_K KD_sound mixed Tryz.func202 (by kernel_rfl) (by kernel_rfl) ((e202 k s0 cutset1 w).symm ▸ h)

/-- Function 203: (*almonry/bits.Writer).Bytes. -/
def T203 (k : KV) (wv0 : Value) (w : World) : Prop :=
  Pu (binV (TypeDesc.pointer 243) .eql wv0 (Value.pointer none)) fun t4_1 =>
  IfB t4_1
    (k (Value.string (ByteArray.mk #[])) w)
    (Pu (nilV wv0) fun t6_2 =>
  Pu (faV 0 t6_2) fun t7_3 =>
  Ld w t7_3 fun t8_4 w_5 =>
  RunS Tryz.prog (convert 123 9 t8_4) w_5 fun t9_6 w_7 =>
  k t9_6 w_7)
theorem e203 (k : KV) (wv0 : Value) (w : World) : K KD Tryz.prog 10 (fun j =>  []) (fun j =>  none) (Tryz.f203.body.getD .skip) (retQ Tryz.prog Tryz.f203 k) (argF [wv0]) w = T203 k wv0 w := by kernel_rfl
theorem c203 {k : KV} {wv0 : Value} {w : World} (h : T203 k wv0 w) : Cl Tryz.prog 203 [wv0] w k :=
  Cl_of_K KD_sound mixed Tryz.func203 (by kernel_rfl) (by kernel_rfl) ((e203 k wv0 w).symm ▸ h)

/-- Function 15: almonry/almonryref04.Same. -/
def T15 (k : KV) (a0 : Value) (b1 : Value) (w : World) : Prop :=
  New (Value.cells a0) 28 w fun a2_1 w_2 =>
  New (Value.cells b1) 28 w_2 fun b3_3 w_4 =>
  Pu (faV 0 a2_1) fun t8_5 =>
  Ld w_4 t8_5 fun t9_6 w_7 =>
  Pu (faV 0 b3_3) fun t10_8 =>
  Ld w_7 t10_8 fun t11_9 w_10 =>
  Pu (binV (TypeDesc.int IntKind.i64) .neq t9_6 t11_9) fun t12_11 =>
  Gd (isB false t12_11) (fun kk => Pu (faV 1 a2_1) fun vv => kk vv w_10) w_10 fun t14_12 w_13 =>
  Gd (isB false t12_11) (fun kk => Ld w_13 t14_12 kk) w_13 fun t15_14 w_15 =>
  Gd (isB false t12_11) (fun kk => Pu (faV 1 b3_3) fun vv => kk vv w_15) w_15 fun t16_16 w_17 =>
  Gd (isB false t12_11) (fun kk => Ld w_17 t16_16 kk) w_17 fun t17_18 w_19 =>
  Gd (isB false t12_11) (fun kk => Pu (binV (TypeDesc.int IntKind.i64) .neq t15_14 t17_18) fun vv => kk vv w_19) w_19 fun t18_20 w_21 =>
  Pu (pickV t12_11 (Value.bool true) t18_20) fun t19_22 =>
  Gd (isB false t19_22) (fun kk => Pu (faV 2 a2_1) fun vv => kk vv w_21) w_21 fun t21_23 w_24 =>
  Gd (isB false t19_22) (fun kk => Ld w_24 t21_23 kk) w_24 fun t22_25 w_26 =>
  Gd (isB false t19_22) (fun kk => Pu (faV 2 b3_3) fun vv => kk vv w_26) w_26 fun t23_27 w_28 =>
  Gd (isB false t19_22) (fun kk => Ld w_28 t23_27 kk) w_28 fun t24_29 w_30 =>
  Gd (isB false t19_22) (fun kk => Pu (binV (TypeDesc.int IntKind.i64) .neq t22_25 t24_29) fun vv => kk vv w_30) w_30 fun t25_31 w_32 =>
  Pu (pickV t19_22 (Value.bool true) t25_31) fun t26_33 =>
  Gd (isB false t26_33) (fun kk => Pu (faV 3 a2_1) fun vv => kk vv w_32) w_32 fun t28_34 w_35 =>
  Gd (isB false t26_33) (fun kk => Ld w_35 t28_34 kk) w_35 fun t29_36 w_37 =>
  Gd (isB false t26_33) (fun kk => Pu (faV 3 b3_3) fun vv => kk vv w_37) w_37 fun t30_38 w_39 =>
  Gd (isB false t26_33) (fun kk => Ld w_39 t30_38 kk) w_39 fun t31_40 w_41 =>
  Gd (isB false t26_33) (fun kk => Pu (binV (TypeDesc.int IntKind.u8) .neq t29_36 t31_40) fun vv => kk vv w_41) w_41 fun t32_42 w_43 =>
  Pu (pickV t26_33 (Value.bool true) t32_42) fun t33_44 =>
  Gd (isB false t33_44) (fun kk => Pu (faV 4 a2_1) fun vv => kk vv w_43) w_43 fun t35_45 w_46 =>
  Gd (isB false t33_44) (fun kk => Ld w_46 t35_45 kk) w_46 fun t36_47 w_48 =>
  Gd (isB false t33_44) (fun kk => Pu (faV 4 b3_3) fun vv => kk vv w_48) w_48 fun t37_49 w_50 =>
  Gd (isB false t33_44) (fun kk => Ld w_50 t37_49 kk) w_50 fun t38_51 w_52 =>
  Gd (isB false t33_44) (fun kk => Pu (binV (TypeDesc.int IntKind.i64) .neq t36_47 t38_51) fun vv => kk vv w_52) w_52 fun t39_53 w_54 =>
  Pu (pickV t33_44 (Value.bool true) t39_53) fun t40_55 =>
  Gd (isB false t40_55) (fun kk => Pu (faV 5 a2_1) fun vv => kk vv w_54) w_54 fun t42_56 w_57 =>
  Gd (isB false t40_55) (fun kk => Ld w_57 t42_56 kk) w_57 fun t43_58 w_59 =>
  Gd (isB false t40_55) (fun kk => Pu (faV 5 b3_3) fun vv => kk vv w_59) w_59 fun t44_60 w_61 =>
  Gd (isB false t40_55) (fun kk => Ld w_61 t44_60 kk) w_61 fun t45_62 w_63 =>
  Gd (isB false t40_55) (fun kk => Pu (binV (TypeDesc.int IntKind.i64) .neq t43_58 t45_62) fun vv => kk vv w_63) w_63 fun t46_64 w_65 =>
  Pu (pickV t40_55 (Value.bool true) t46_64) fun t47_66 =>
  Gd (isB false t47_66) (fun kk => Pu (faV 6 a2_1) fun vv => kk vv w_65) w_65 fun t49_67 w_68 =>
  Gd (isB false t47_66) (fun kk => Ld w_68 t49_67 kk) w_68 fun t50_69 w_70 =>
  Gd (isB false t47_66) (fun kk => Pu (faV 6 b3_3) fun vv => kk vv w_70) w_70 fun t51_71 w_72 =>
  Gd (isB false t47_66) (fun kk => Ld w_72 t51_71 kk) w_72 fun t52_73 w_74 =>
  Gd (isB false t47_66) (fun kk => Pu (binV (TypeDesc.int IntKind.i64) .neq t50_69 t52_73) fun vv => kk vv w_74) w_74 fun t53_75 w_76 =>
  Pu (pickV t47_66 (Value.bool true) t53_75) fun t54_77 =>
  Gd (isB false t54_77) (fun kk => Pu (faV 7 a2_1) fun vv => kk vv w_76) w_76 fun t56_78 w_79 =>
  Gd (isB false t54_77) (fun kk => Ld w_79 t56_78 kk) w_79 fun t57_80 w_81 =>
  Gd (isB false t54_77) (fun kk => Pu (faV 7 b3_3) fun vv => kk vv w_81) w_81 fun t58_82 w_83 =>
  Gd (isB false t54_77) (fun kk => Ld w_83 t58_82 kk) w_83 fun t59_84 w_85 =>
  Gd (isB false t54_77) (fun kk => Pu (binV (TypeDesc.int IntKind.i64) .neq t57_80 t59_84) fun vv => kk vv w_85) w_85 fun t60_86 w_87 =>
  Pu (pickV t54_77 (Value.bool true) t60_86) fun t61_88 =>
  Gd (isB false t61_88) (fun kk => Pu (faV 8 a2_1) fun vv => kk vv w_87) w_87 fun t63_89 w_90 =>
  Gd (isB false t61_88) (fun kk => Ld w_90 t63_89 kk) w_90 fun t64_91 w_92 =>
  Gd (isB false t61_88) (fun kk => Pu (faV 8 b3_3) fun vv => kk vv w_92) w_92 fun t65_93 w_94 =>
  Gd (isB false t61_88) (fun kk => Ld w_94 t65_93 kk) w_94 fun t66_95 w_96 =>
  Gd (isB false t61_88) (fun kk => Pu (binV (TypeDesc.int IntKind.i64) .neq t64_91 t66_95) fun vv => kk vv w_96) w_96 fun t67_97 w_98 =>
  Pu (pickV t61_88 (Value.bool true) t67_97) fun t68_99 =>
  Gd (isB false t68_99) (fun kk => Pu (faV 9 a2_1) fun vv => kk vv w_98) w_98 fun t70_100 w_101 =>
  Gd (isB false t68_99) (fun kk => Ld w_101 t70_100 kk) w_101 fun t71_102 w_103 =>
  Gd (isB false t68_99) (fun kk => Pu (faV 9 b3_3) fun vv => kk vv w_103) w_103 fun t72_104 w_105 =>
  Gd (isB false t68_99) (fun kk => Ld w_105 t72_104 kk) w_105 fun t73_106 w_107 =>
  Gd (isB false t68_99) (fun kk => Pu (binV (TypeDesc.int IntKind.i64) .neq t71_102 t73_106) fun vv => kk vv w_107) w_107 fun t74_108 w_109 =>
  Pu (pickV t68_99 (Value.bool true) t74_108) fun t75_110 =>
  Gd (isB false t75_110) (fun kk => Pu (faV 10 a2_1) fun vv => kk vv w_109) w_109 fun t77_111 w_112 =>
  Gd (isB false t75_110) (fun kk => Ld w_112 t77_111 kk) w_112 fun t78_113 w_114 =>
  Gd (isB false t75_110) (fun kk => Pu (faV 10 b3_3) fun vv => kk vv w_114) w_114 fun t79_115 w_116 =>
  Gd (isB false t75_110) (fun kk => Ld w_116 t79_115 kk) w_116 fun t80_117 w_118 =>
  Gd (isB false t75_110) (fun kk => Pu (binV TypeDesc.string .neq t78_113 t80_117) fun vv => kk vv w_118) w_118 fun t81_119 w_120 =>
  Pu (pickV t75_110 (Value.bool true) t81_119) fun t82_121 =>
  IfB t82_121
    (k (Value.bool false) w_120)
    (Pu (faV 11 a2_1) fun t83_122 =>
  Ld w_120 t83_122 fun t84_123 w_124 =>
  Pu (faV 11 b3_3) fun t85_125 =>
  Ld w_124 t85_125 fun t86_126 w_127 =>
  Cl Tryz.prog 88 [t84_123, t86_126] w_127 fun t87_128 w_129 =>
  Pu (unV .not t87_128) fun t88_130 =>
  Gd (isB false t88_130) (fun kk => Pu (faV 12 a2_1) fun vv => kk vv w_129) w_129 fun t90_131 w_132 =>
  Gd (isB false t88_130) (fun kk => Ld w_132 t90_131 kk) w_132 fun t91_133 w_134 =>
  Gd (isB false t88_130) (fun kk => Pu (faV 12 b3_3) fun vv => kk vv w_134) w_134 fun t92_135 w_136 =>
  Gd (isB false t88_130) (fun kk => Ld w_136 t92_135 kk) w_136 fun t93_137 w_138 =>
  Gd (isB false t88_130) (fun kk => Cl Tryz.prog 88 [t91_133, t93_137] w_138 kk) w_138 fun t94_139 w_140 =>
  Gd (isB false t88_130) (fun kk => Pu (unV .not t94_139) fun vv => kk vv w_140) w_140 fun t95_141 w_142 =>
  Pu (pickV t88_130 (Value.bool true) t95_141) fun t96_143 =>
  Gd (isB false t96_143) (fun kk => Pu (faV 13 a2_1) fun vv => kk vv w_142) w_142 fun t98_144 w_145 =>
  Gd (isB false t96_143) (fun kk => Ld w_145 t98_144 kk) w_145 fun t99_146 w_147 =>
  Gd (isB false t96_143) (fun kk => Pu (lenV t99_146) fun vv => kk vv w_147) w_147 fun t100_148 w_149 =>
  Gd (isB false t96_143) (fun kk => Pu (faV 13 b3_3) fun vv => kk vv w_149) w_149 fun t101_150 w_151 =>
  Gd (isB false t96_143) (fun kk => Ld w_151 t101_150 kk) w_151 fun t102_152 w_153 =>
  Gd (isB false t96_143) (fun kk => Pu (lenV t102_152) fun vv => kk vv w_153) w_153 fun t103_154 w_155 =>
  Gd (isB false t96_143) (fun kk => Pu (binV (TypeDesc.int IntKind.i64) .neq t100_148 t103_154) fun vv => kk vv w_155) w_155 fun t104_156 w_157 =>
  Pu (pickV t96_143 (Value.bool true) t104_156) fun t105_158 =>
  Gd (isB false t105_158) (fun kk => Pu (faV 14 a2_1) fun vv => kk vv w_157) w_157 fun t107_159 w_160 =>
  Gd (isB false t105_158) (fun kk => Ld w_160 t107_159 kk) w_160 fun t108_161 w_162 =>
  Gd (isB false t105_158) (fun kk => Pu (lenV t108_161) fun vv => kk vv w_162) w_162 fun t109_163 w_164 =>
  Gd (isB false t105_158) (fun kk => Pu (faV 14 b3_3) fun vv => kk vv w_164) w_164 fun t110_165 w_166 =>
  Gd (isB false t105_158) (fun kk => Ld w_166 t110_165 kk) w_166 fun t111_167 w_168 =>
  Gd (isB false t105_158) (fun kk => Pu (lenV t111_167) fun vv => kk vv w_168) w_168 fun t112_169 w_170 =>
  Gd (isB false t105_158) (fun kk => Pu (binV (TypeDesc.int IntKind.i64) .neq t109_163 t112_169) fun vv => kk vv w_170) w_170 fun t113_171 w_172 =>
  Pu (pickV t105_158 (Value.bool true) t113_171) fun t114_173 =>
  Gd (isB false t114_173) (fun kk => Pu (faV 15 a2_1) fun vv => kk vv w_172) w_172 fun t116_174 w_175 =>
  Gd (isB false t114_173) (fun kk => Ld w_175 t116_174 kk) w_175 fun t117_176 w_177 =>
  Gd (isB false t114_173) (fun kk => Pu (lenV t117_176) fun vv => kk vv w_177) w_177 fun t118_178 w_179 =>
  Gd (isB false t114_173) (fun kk => Pu (faV 15 b3_3) fun vv => kk vv w_179) w_179 fun t119_180 w_181 =>
  Gd (isB false t114_173) (fun kk => Ld w_181 t119_180 kk) w_181 fun t120_182 w_183 =>
  Gd (isB false t114_173) (fun kk => Pu (lenV t120_182) fun vv => kk vv w_183) w_183 fun t121_184 w_185 =>
  Gd (isB false t114_173) (fun kk => Pu (binV (TypeDesc.int IntKind.i64) .neq t118_178 t121_184) fun vv => kk vv w_185) w_185 fun t122_186 w_187 =>
  Pu (pickV t114_173 (Value.bool true) t122_186) fun t123_188 =>
  IfB t123_188
    (k (Value.bool false) w_187)
    (∃ (I_189 : List Value → World → Prop) (m_190 : List Value → World → Nat), I_189 [(Value.int IntKind.i64 0)] w_187 ∧
  ∀ (g_231 : Fr) (w_230 : World), ∀ i5_193 : Value, I_189 [i5_193] w_230 →
    (Pu (faV 13 a2_1) fun t125_232 =>
    Ld w_230 t125_232 fun t126_233 w_234 =>
    Pu (lenV t126_233) fun t127_235 =>
    Pu (binV (TypeDesc.int IntKind.i64) .lss i5_193 t127_235) fun t128_236 =>
    IfB t128_236
      (Pu (faV 13 a2_1) fun t131_237 =>
    Ld (World.drew w_234) t131_237 fun t132_238 w_239 =>
    w_239 = (World.drew w_234) ∧
    Pu (ixV 7 t132_238 i5_193) fun t134_240 =>
    Pu (faV 0 t134_240) fun t135_241 =>
    Ld (World.drew w_234) t135_241 fun t136_242 w_243 =>
    w_243 = (World.drew w_234) ∧
    Pu (faV 13 b3_3) fun t137_244 =>
    Ld (World.drew w_234) t137_244 fun t138_245 w_246 =>
    w_246 = (World.drew w_234) ∧
    Pu (ixV 7 t138_245 i5_193) fun t140_247 =>
    Pu (faV 0 t140_247) fun t141_248 =>
    Ld (World.drew w_234) t141_248 fun t142_249 w_250 =>
    w_250 = (World.drew w_234) ∧
    Pu (binV (TypeDesc.int IntKind.i64) .neq t136_242 t142_249) fun t143_251 =>
    Gd (isB false t143_251) (fun kk => Pu (faV 13 a2_1) fun vv => kk vv (World.drew w_234)) (World.drew w_234) fun t145_252 w_253 =>
    Gd (isB false t143_251) (fun kk => Ld w_253 t145_252 kk) w_253 fun t146_254 w_255 =>
    w_255 = w_253 ∧
    Gd (isB false t143_251) (fun kk => kk i5_193 w_253) w_253 fun t147_256 w_257 =>
    Gd (isB false t143_251) (fun kk => Pu (ixV 7 t146_254 t147_256) fun vv => kk vv w_257) w_257 fun t148_258 w_259 =>
    Gd (isB false t143_251) (fun kk => Pu (faV 1 t148_258) fun vv => kk vv w_259) w_259 fun t149_260 w_261 =>
    Gd (isB false t143_251) (fun kk => LdN 6 w_261 t149_260 kk) w_261 fun t150_262 w_263 =>
    w_263 = w_261 ∧
    Gd (isB false t143_251) (fun kk => Pu (faV 13 b3_3) fun vv => kk vv w_261) w_261 fun t151_264 w_265 =>
    Gd (isB false t143_251) (fun kk => Ld w_265 t151_264 kk) w_265 fun t152_266 w_267 =>
    w_267 = w_265 ∧
    Gd (isB false t143_251) (fun kk => kk i5_193 w_265) w_265 fun t153_268 w_269 =>
    Gd (isB false t143_251) (fun kk => Pu (ixV 7 t152_266 t153_268) fun vv => kk vv w_269) w_269 fun t154_270 w_271 =>
    Gd (isB false t143_251) (fun kk => Pu (faV 1 t154_270) fun vv => kk vv w_271) w_271 fun t155_272 w_273 =>
    Gd (isB false t143_251) (fun kk => LdN 6 w_273 t155_272 kk) w_273 fun t156_274 w_275 =>
    w_275 = w_273 ∧
    Gd (isB false t143_251) (fun kk => Cl Tryz.prog 34 [t150_262, t156_274] w_273 kk) w_273 fun t157_276 w_277 =>
    Gd (isB false t143_251) (fun kk => Pu (unV .not t157_276) fun vv => kk vv w_277) w_277 fun t158_278 w_279 =>
    Pu (pickV t143_251 (Value.bool true) t158_278) fun t159_280 =>
    IfB t159_280
      (k (Value.bool false) w_279)
      (Pu (binV (TypeDesc.int IntKind.i64) .add i5_193 (Value.int IntKind.i64 1)) fun t130_281 =>
    I_189 [t130_281] w_279 ∧ m_190 [t130_281] w_279 < m_190 [i5_193] w_230))
      (∃ (I_282 : List Value → World → Prop) (m_283 : List Value → World → Nat), I_282 [(Value.int IntKind.i64 0)] w_234 ∧
  ∀ (g_306 : Fr) (w_305 : World), ∀ i6_286 : Value, I_282 [i6_286] w_305 →
    (Pu (faV 14 a2_1) fun t161_307 =>
    Ld w_305 t161_307 fun t162_308 w_309 =>
    Pu (lenV t162_308) fun t163_310 =>
    Pu (binV (TypeDesc.int IntKind.i64) .lss i6_286 t163_310) fun t164_311 =>
    IfB t164_311
      (Pu (faV 14 a2_1) fun t167_312 =>
    Ld (World.drew w_309) t167_312 fun t168_313 w_314 =>
    w_314 = (World.drew w_309) ∧
    Pu (ixV 2 t168_313 i6_286) fun t170_315 =>
    LdN 2 (World.drew w_309) t170_315 fun t171_316 w_317 =>
    w_317 = (World.drew w_309) ∧
    Pu (faV 14 b3_3) fun t172_318 =>
    Ld (World.drew w_309) t172_318 fun t173_319 w_320 =>
    w_320 = (World.drew w_309) ∧
    Pu (ixV 2 t173_319 i6_286) fun t175_321 =>
    LdN 2 (World.drew w_309) t175_321 fun t176_322 w_323 =>
    w_323 = (World.drew w_309) ∧
    RunS Tryz.prog (do eqGuard .neq 120 (Operand.tmp 171) (Operand.tmp 176) t171_316 t176_322; binOp .neq 120 t171_316 t176_322) (World.drew w_309) fun t177_324 w_325 =>
    w_325 = (World.drew w_309) ∧
    IfB t177_324
      (k (Value.bool false) (World.drew w_309))
      (Pu (binV (TypeDesc.int IntKind.i64) .add i6_286 (Value.int IntKind.i64 1)) fun t166_326 =>
    I_282 [t166_326] (World.drew w_309) ∧ m_283 [t166_326] (World.drew w_309) < m_283 [i6_286] w_305))
      (∃ (I_327 : List Value → World → Prop) (m_328 : List Value → World → Nat), I_327 [(Value.int IntKind.i64 0)] w_309 ∧
  ∀ (g_351 : Fr) (w_350 : World), ∀ i7_331 : Value, I_327 [i7_331] w_350 →
    (Pu (faV 15 a2_1) fun t179_352 =>
    Ld w_350 t179_352 fun t180_353 w_354 =>
    Pu (lenV t180_353) fun t181_355 =>
    Pu (binV (TypeDesc.int IntKind.i64) .lss i7_331 t181_355) fun t182_356 =>
    IfB t182_356
      (Pu (faV 15 a2_1) fun t185_357 =>
    Ld (World.drew w_354) t185_357 fun t186_358 w_359 =>
    w_359 = (World.drew w_354) ∧
    Pu (ixV 2 t186_358 i7_331) fun t188_360 =>
    LdN 2 (World.drew w_354) t188_360 fun t189_361 w_362 =>
    w_362 = (World.drew w_354) ∧
    Pu (faV 15 b3_3) fun t190_363 =>
    Ld (World.drew w_354) t190_363 fun t191_364 w_365 =>
    w_365 = (World.drew w_354) ∧
    Pu (ixV 2 t191_364 i7_331) fun t193_366 =>
    LdN 2 (World.drew w_354) t193_366 fun t194_367 w_368 =>
    w_368 = (World.drew w_354) ∧
    RunS Tryz.prog (do eqGuard .neq 122 (Operand.tmp 189) (Operand.tmp 194) t189_361 t194_367; binOp .neq 122 t189_361 t194_367) (World.drew w_354) fun t195_369 w_370 =>
    w_370 = (World.drew w_354) ∧
    IfB t195_369
      (k (Value.bool false) (World.drew w_354))
      (Pu (binV (TypeDesc.int IntKind.i64) .add i7_331 (Value.int IntKind.i64 1)) fun t184_371 =>
    I_327 [t184_371] (World.drew w_354) ∧ m_328 [t184_371] (World.drew w_354) < m_328 [i7_331] w_350))
      (k (Value.bool true) w_354))))))))
theorem e15 (k : KV) (a0 : Value) (b1 : Value) (w : World) : K KD Tryz.prog 196 (fun j => bif Nat.beq j 16 then [7] else bif Nat.beq j 11 then [6] else bif Nat.beq j 6 then [5] else []) (fun j =>  none) (Tryz.f15.body.getD .skip) (retQ Tryz.prog Tryz.f15 k) (argF [a0, b1]) w = T15 k a0 b1 w := by kernel_rfl
theorem c15 {k : KV} {a0 : Value} {b1 : Value} {w : World} (h : T15 k a0 b1 w) : Cl Tryz.prog 15 [a0, b1] w k :=
  Cl_of_K KD_sound mixed Tryz.func15 (by kernel_rfl) (by kernel_rfl) ((e15 k a0 b1 w).symm ▸ h)

/-- Function 88: almonry/almonryref04.ints. -/
def T88 (k : KV) (a0 : Value) (b1 : Value) (w : World) : Prop :=
  Pu (lenV a0) fun t7_1 =>
  Pu (lenV b1) fun t9_2 =>
  Pu (binV (TypeDesc.int IntKind.i64) .neq t7_1 t9_2) fun t10_3 =>
  IfB t10_3
    (k (Value.bool false) w)
    (∃ (I_4 : List Value → World → Prop) (m_5 : List Value → World → Nat), I_4 [(Value.int IntKind.i64 0)] w ∧
  ∀ (g_25 : Fr) (w_24 : World), ∀ i5_8 : Value, I_4 [i5_8] w_24 →
    (Pu (lenV a0) fun t13_26 =>
    Pu (binV (TypeDesc.int IntKind.i64) .lss i5_8 t13_26) fun t14_27 =>
    IfB t14_27
      (Pu (ixV 1 a0 i5_8) fun t19_28 =>
    Ld (World.drew w_24) t19_28 fun t20_29 w_30 =>
    w_30 = (World.drew w_24) ∧
    Pu (ixV 1 b1 i5_8) fun t23_31 =>
    Ld (World.drew w_24) t23_31 fun t24_32 w_33 =>
    w_33 = (World.drew w_24) ∧
    Pu (binV (TypeDesc.int IntKind.i64) .neq t20_29 t24_32) fun t25_34 =>
    IfB t25_34
      (k (Value.bool false) (World.drew w_24))
      (Pu (binV (TypeDesc.int IntKind.i64) .add i5_8 (Value.int IntKind.i64 1)) fun t16_35 =>
    I_4 [t16_35] (World.drew w_24) ∧ m_5 [t16_35] (World.drew w_24) < m_5 [i5_8] w_24))
      (k (Value.bool true) w_24)))
theorem e88 (k : KV) (a0 : Value) (b1 : Value) (w : World) : K KD Tryz.prog 26 (fun j => bif Nat.beq j 4 then [5] else []) (fun j =>  none) (Tryz.f88.body.getD .skip) (retQ Tryz.prog Tryz.f88 k) (argF [a0, b1]) w = T88 k a0 b1 w := by kernel_rfl
theorem c88 {k : KV} {a0 : Value} {b1 : Value} {w : World} (h : T88 k a0 b1 w) : Cl Tryz.prog 88 [a0, b1] w k :=
  Cl_of_K KD_sound mixed Tryz.func88 (by kernel_rfl) (by kernel_rfl) ((e88 k a0 b1 w).symm ▸ h)

/-- Function 16: almonry/almonrylaw04.awake. -/
def T16 (k : KV) (w : World) : Prop :=
  Cl Tryz.prog 90 [] w fun t10_1 w_2 =>
  Cl Tryz.prog 89 [t10_1] w_2 fun t11_3 w_4 =>
  Pu (extV t11_3 0) fun t12_5 =>
  Pu (extV t11_3 1) fun t13_6 =>
  Cl Tryz.prog 13 [t12_5] w_4 fun t16_7 w_8 =>
  Pu (extV t16_7 0) fun t17_9 =>
  Pu (extV t16_7 1) fun t18_10 =>
  Pu (extV t16_7 2) fun t19_11 =>
  New #[(Value.int IntKind.i64 0), (Value.int IntKind.i64 0), (Value.int IntKind.i64 0), (Value.int IntKind.u8 0), (Value.int IntKind.i64 0), (Value.int IntKind.i64 0), (Value.int IntKind.i64 0), (Value.int IntKind.i64 0), (Value.int IntKind.i64 0), (Value.int IntKind.i64 0), (Value.string (ByteArray.mk #[])), (Value.slice none 0 0), (Value.slice none 0 0), (Value.slice none 0 0), (Value.slice none 0 0), (Value.slice none 0 0)] 28 w_8 fun r3_12 w_13 =>
  St 16 w_13 r3_12 t17_9 fun u_14 w_15 =>
  Pu (lenS t12_5) fun t23_16 =>
  Pu (foldV0 min2V [t23_16, (Value.int IntKind.i64 7)]) fun t24_17 =>
  Pu (slS t12_5 none (some t24_17)) fun t25_18 =>
  Cl Tryz.prog 13 [t25_18] w_15 fun t26_19 w_20 =>
  Pu (extV t26_19 0) fun t27_21 =>
  Pu (extV t26_19 1) fun t28_22 =>
  Pu (extV t26_19 2) fun t29_23 =>
  New #[(Value.int IntKind.i64 0), (Value.int IntKind.i64 0), (Value.int IntKind.i64 0), (Value.int IntKind.u8 0), (Value.int IntKind.i64 0), (Value.int IntKind.i64 0), (Value.int IntKind.i64 0), (Value.int IntKind.i64 0), (Value.int IntKind.i64 0), (Value.int IntKind.i64 0), (Value.string (ByteArray.mk #[])), (Value.slice none 0 0), (Value.slice none 0 0), (Value.slice none 0 0), (Value.slice none 0 0), (Value.slice none 0 0)] 28 w_20 fun t6_24 w_25 =>
  St 16 w_25 t6_24 t27_21 fun u_26 w_27 =>
  ∃ C_28 : World → Prop, C_28 (World.drew w_27) ∧
  (Pu (binV (TypeDesc.int IntKind.i64) .eql t13_6 (Value.int IntKind.i64 0)) fun t31_29 =>
  Gd (isB true t31_29) (fun kk => kk t19_11 (World.drew w_27)) (World.drew w_27) fun t33_30 w_31 =>
  Gd (isB true t31_29) (fun kk => Pu (binV (TypeDesc.int IntKind.i64) .eql t33_30 (Value.int IntKind.i64 0)) fun vv => kk vv w_31) w_31 fun t34_32 w_33 =>
  Pu (pickV t31_29 t34_32 (Value.bool false)) fun t35_34 =>
  Gd (isB true t35_34) (fun kk => kk t29_23 w_33) w_33 fun t37_35 w_36 =>
  Gd (isB true t35_34) (fun kk => Pu (binV (TypeDesc.int IntKind.i64) .eql t37_35 (Value.int IntKind.i64 40)) fun vv => kk vv w_36) w_36 fun t38_37 w_38 =>
  Pu (pickV t35_34 t38_37 (Value.bool false)) fun t39_39 =>
  Gd (isB true t39_39) (fun kk => kk t12_5 w_38) w_38 fun t41_40 w_41 =>
  Gd (isB true t39_39) (fun kk => Pu (lenS t41_40) fun vv => kk vv w_41) w_41 fun t42_42 w_43 =>
  Gd (isB true t39_39) (fun kk => Pu (binV (TypeDesc.int IntKind.i64) .eql t42_42 (Value.int IntKind.i64 24)) fun vv => kk vv w_43) w_43 fun t43_44 w_45 =>
  Pu (pickV t39_39 t43_44 (Value.bool false)) fun t44_46 =>
  Gd (isB true t44_46) (fun kk => kk t18_10 w_45) w_45 fun t46_47 w_48 =>
  Gd (isB true t44_46) (fun kk => Pu (binV (TypeDesc.int IntKind.i64) .eql t46_47 (Value.int IntKind.i64 24)) fun vv => kk vv w_48) w_48 fun t47_49 w_50 =>
  Pu (pickV t44_46 t47_49 (Value.bool false)) fun t48_51 =>
  Gd (isB true t48_51) (fun kk => kk t12_5 w_50) w_50 fun t50_52 w_53 =>
  Gd (isB true t48_51) (fun kk => Pu (ixS t50_52 (Value.int IntKind.i64 3)) fun vv => kk vv w_53) w_53 fun t51_54 w_55 =>
  Gd (isB true t48_51) (fun kk => Pu (binV (TypeDesc.int IntKind.u8) .eql t51_54 (Value.int IntKind.u8 16)) fun vv => kk vv w_55) w_55 fun t52_56 w_57 =>
  Pu (pickV t48_51 t52_56 (Value.bool false)) fun t53_58 =>
  Gd (isB true t53_58) (fun kk => kk t12_5 w_57) w_57 fun t55_59 w_60 =>
  Gd (isB true t53_58) (fun kk => Pu (ixS t55_59 (Value.int IntKind.i64 8)) fun vv => kk vv w_60) w_60 fun t56_61 w_62 =>
  Gd (isB true t53_58) (fun kk => Pu (binV (TypeDesc.int IntKind.u8) .eql t56_61 (Value.int IntKind.u8 1)) fun vv => kk vv w_62) w_62 fun t57_63 w_64 =>
  Pu (pickV t53_58 t57_63 (Value.bool false)) fun t58_65 =>
  ∃ t60_66, (∀ w_67, C_28 w_67 → Gd (isB true t58_65) (fun kk => LdN 16 w_67 r3_12 kk) w_67 fun t60_68 w_69 =>
  t60_68 = t60_66 ∧ w_69 = w_67) ∧
  (Gd (isB true t58_65) (fun kk => Cl Tryz.prog 90 [] w_64 kk) w_64 fun t61_70 w_71 =>
  C_28 w_71 ∧
  (Gd (isB true t58_65) (fun kk => Cl Tryz.prog 91 [t60_66, t61_70] w_71 kk) w_71 fun t62_72 w_73 =>
  Pu (pickV t58_65 t62_72 (Value.bool false)) fun t63_74 =>
  Gd (isB true t63_74) (fun kk => RunS Tryz.prog (Instr.build 28 #[]) w_73 kk) w_73 fun t65_75 w_76 =>
  w_76 = w_73 ∧
  Gd (isB true t63_74) (fun kk => Cl Tryz.prog 92 [t65_75] w_73 kk) w_73 fun t66_77 w_78 =>
  Gd (isB true t63_74) (fun kk => Pu (binV (TypeDesc.int IntKind.i64) .eql t66_77 (Value.int IntKind.i64 41)) fun vv => kk vv w_78) w_78 fun t67_79 w_80 =>
  Pu (pickV t63_74 t67_79 (Value.bool false)) fun t68_81 =>
  k t68_81 w_80)))
theorem e16 (k : KV) (w : World) : K KD Tryz.prog 69 (fun j =>  []) (fun j =>  none) (Tryz.f16.body.getD .skip) (retQ Tryz.prog Tryz.f16 k) (argF []) w = T16 k  w := by kernel_rfl
theorem c16 {k : KV} {w : World} (h : T16 k  w) : Cl Tryz.prog 16 [] w k :=
  Cl_of_K KD_sound mixed Tryz.func16 (by kernel_rfl) (by kernel_rfl) ((e16 k  w).symm ▸ h)

end Go.Proofs.YthbngnlmgplijaaGreatDoor

namespace Go.Proofs.YthbngnlmgplijaaGreatDoor
open Go.Al Go.Proofs
set_option linter.unusedVariables false
set_option linter.unusedSimpArgs false
set_option linter.unusedSectionVars false
set_option maxRecDepth 100000

theorem E38w : ElemT Tryz.prog 123 5 1 1 := elemT_of Tryz.underlying123 (by kernel_rfl)
theorem bs38w (x : Int) (w : World) : (Instr.buildSlice 123 1 #[(0, .int .u8 x)]).run Tryz.prog w = .ok (.slice (some ⟨w.heap.size, 0, none⟩) 1 1) (w.alloc (.cells #[.int .u8 x] 5)) := by kernel_rfl
theorem bldR (s : Bs) (w : World) : (Instr.build 221 #[(0, stv s)]).run Tryz.prog w = .ok (.agg #[stv s, iv 0]) w := by kernel_rfl
theorem bldW (w : World) : (Instr.build 243 #[]).run Tryz.prog w = .ok (.agg #[.slice none 0 0]) w := by kernel_rfl

/-- A reader: in block r; the rest, and what was wrong. -/
def RdAt (w : World) (r : Nat) (s : Bs) (e : Int) : Prop := w.heap[r]? = some (.cells #[stv s, iv e] 221)
theorem RdAt.keep {S : Nat → Prop} {w w' : World} {r : Nat} {s : Bs} {e : Int} (h : RdAt w r s e) (hf : Fm S w w') (hs : ¬ S r) : RdAt w' r s e := hf.heap h hs
theorem RdAt.c0 {w : World} {r : Nat} {s : Bs} {e : Int} (h : RdAt w r s e) : w.cell? ⟨r, 0, none⟩ = some (stv s) := by rw [cell_at h]; rfl
theorem RdAt.c1 {w : World} {r : Nat} {s : Bs} {e : Int} (h : RdAt w r s e) : w.cell? ⟨r, 1, none⟩ = some (iv e) := by rw [cell_at h]; rfl
theorem RdAt.lt {w : World} {r : Nat} {s : Bs} {e : Int} (h : RdAt w r s e) : r < w.heap.size := lt_of_heap h

theorem bread_spec (w : World) (s : Bs) : Cl Tryz.prog 148 [stv s] w fun v w' => ∃ r, v = pv r ∧ w.heap.size ≤ r ∧ RdAt w' r s 0 ∧ Fm (fun _ => False) w w' := by
  refine c148 ?_; unfold T148
  refine RunS_ok (bldR s w) (New_any ?_)
  intro b w' hb hs hw hf
  exact ⟨b, rfl, by omega, hw, hf⟩
theorem bfail_spec {w : World} {r : Nat} {s : Bs} {e : Int} (h : RdAt w r s e) (x : Int) : Cl Tryz.prog 196 [pv r, iv x] w fun v w' => v = iv 0 ∧ RdAt w' r [] x ∧ Fm (· = r) w w' := by
  refine c196 ?_; unfold T196
  simp only [RS0, RS1, RS2, RS3, RS4, RS5, str_size, str_nil, str_inj]
  refine St_blk h (by simp) rfl ?_
  intro w1 h1 _ hf1
  refine St_blk h1 (by simp) rfl ?_
  intro w2 h2 _ hf2
  exact ⟨(by trivial), h2, hf1.trans hf2 (fun _ _ e => e) (fun _ _ e => e)⟩
theorem berr_spec {w : World} {r : Nat} {s : Bs} {e : Int} (h : RdAt w r s e) : Cl Tryz.prog 153 [pv r] w fun v w' => v = iv e ∧ w' = w := by
  refine c153 ?_; unfold T153
  simp only [RS0, RS1, RS2, RS3, RS4, RS5, h.c1, and_self]
theorem bleft_spec {w : World} {r : Nat} {s : Bs} {e : Int} (h : RdAt w r s e) : Cl Tryz.prog 197 [pv r] w fun v w' => v = iv s.length ∧ w' = w := by
  refine c197 ?_; unfold T197
  simp only [RS0, RS1, RS2, RS3, RS4, RS5, str_size, str_nil, str_inj, h.c0, and_self]
theorem bend_spec {w : World} {r : Nat} {s : Bs} {e : Int} (h : RdAt w r s e) : Cl Tryz.prog 154 [pv r] w fun v w' => v = iv (endE s e) ∧ w' = w := by
  refine c154 ?_; unfold T154
  refine (berr_spec h).mono ?_
  rintro _ w ⟨rfl, rfl⟩
  unfold endE
  by_cases he : e = 0
  · have e1 : (e == 0) = true := by simpa using he
    simp only [RS0, RS1, RS2, RS3, RS4, RS5, e1]
    refine (bleft_spec h).mono ?_
    rintro _ w ⟨rfl, rfl⟩
    have e2 : decide (e = 0) = true := by simpa using he
    by_cases hs : 0 < s.length
    · have e3 : decide ((0 : Int) < (s.length : Int)) = true := by rw [decide_eq_true_eq]; omega
      have e4 : decide (0 < s.length) = true := by simpa using hs
      simp only [RS0, RS1, RS2, RS3, RS4, RS5, e3, e2, e4, Bool.and_self, cond_true]
      exact ⟨(by trivial), (by trivial)⟩
    · have e3 : decide ((0 : Int) < (s.length : Int)) = false := by rw [decide_eq_false_iff_not]; omega
      have e4 : decide (0 < s.length) = false := by simpa using hs
      simp only [RS0, RS1, RS2, RS3, RS4, RS5, e3, e2, e4, Bool.and_false, cond_false]
      refine (berr_spec h).mono ?_
      rintro _ w ⟨rfl, rfl⟩
      exact ⟨(by trivial), (by trivial)⟩
  · have e1 : (e == 0) = false := by simpa using he
    have e2 : decide (e = 0) = false := by simpa using he
    simp only [RS0, RS1, RS2, RS3, RS4, RS5, e1, e2, Bool.false_and, cond_false]
    refine (berr_spec h).mono ?_
    rintro _ w ⟨rfl, rfl⟩
    exact ⟨(by trivial), (by trivial)⟩

theorem bnum_spec {w : World} {r : Nat} {s : Bs} {e : Int} (h : RdAt w r s e) (most : Int) (hs : s.length ≤ 9223372036854775807) (hm : most ≤ 9223372036854775807) :
    Cl Tryz.prog 150 [pv r, iv most] w fun v w' => v = iv (rdNum most s e).1 ∧ RdAt w' r (rdNum most s e).2.1 (rdNum most s e).2.2 ∧ Fm (· = r) w w' := by
  refine c150 ?_; unfold T150
  unfold rdNum
  by_cases he : e = 0
  · subst he
    simp only [RS0, RS1, RS2, RS3, RS4, RS5, h.c1, bne_self_eq_false, decide_true, cond_true]
    refine ⟨fun vs w2 => ∃ (k n : Nat), vs = [iv n, iv k] ∧ k ≤ 9 ∧ n < 2 ^ (7 * k) ∧ k ≤ s.length ∧ rdN most 9 0 0 s = rdN most (9 - k) k n (s.drop k) ∧ w2 = w, fun vs _ => (9 - nth vs 1).toNat, ⟨0, 0, rfl, by omega, by decide, by omega, rfl, rfl⟩, ?_⟩
    rintro _ w2 in_ ik ⟨k, n, hvs, hk, hn, hks, heq, rfl⟩
    cases hvs
    by_cases hlt : k < 9
    · have e1 : decide ((k : Int) < 9) = true := by rw [decide_eq_true_eq]; omega
      obtain ⟨f, hf⟩ : ∃ f, 9 - k = f + 1 := ⟨8 - k, by omega⟩
      rw [hf] at heq
      simp only [RS0, RS1, RS2, RS3, RS4, RS5, str_size, str_nil, str_inj, e1, h.c0]
      by_cases hsl : k < s.length
      · have e2 : decide ((s.length : Int) ≤ (k : Int)) = false := by rw [decide_eq_false_iff_not]; omega
        have hb : s[k]? = some s[k] := List.getElem?_eq_getElem hsl
        rw [List.drop_eq_getElem_cons hsl, rdN] at heq
        generalize s[k] = b at hb heq
        have hb256 : b.toNat < 256 := b.toNat_lt
        have hk63 : (2 : Nat) ^ (7 * k) ≤ 2 ^ 56 := Nat.pow_le_pow_right (by decide) (by omega)
        have hmod : b.toNat % 128 < 128 := Nat.mod_lt _ (by decide)
        have hpr : b.toNat % 128 * 2 ^ (7 * k) ≤ 127 * 2 ^ 56 := Nat.mul_le_mul (by omega) hk63
        have e3 : andI .u8 (b.toNat : Int) 127 = ((b.toNat % 128 : Nat) : Int) := by
          have := and_u8 b.toNat 127 hb256 (by decide)
          rw [and127] at this; exact this
        have e4 : cvI .i64 (.int .u8 ((b.toNat % 128 : Nat) : Int)) = some (iv ((b.toNat % 128 : Nat) : Int)) := by
          show some (iv (IntKind.i64.wrap _)) = _
          rw [wrap_nat (by omega)]
        have e5 : IntKind.i64.wrap (7 * (k : Int)) = ((7 * k : Nat) : Int) := by rw [wrap_id] <;> omega
        have e6 := shl_nat (b.toNat % 128) (7 * k) (by omega) (by omega) (TypeDesc.int IntKind.i64) .i64
        have e7 : orI .i64 (n : Int) ((b.toNat % 128 * 2 ^ (7 * k) : Nat) : Int) = ((n + b.toNat % 128 * 2 ^ (7 * k) : Nat) : Int) := by
          rw [or_i64 _ _ (by omega) (by omega), or_add hn]
        have e8 : 128 ^ k = 2 ^ (7 * k) := by rw [Nat.pow_mul]
        rw [e8] at heq
        have hn' : n + b.toNat % 128 * 2 ^ (7 * k) < 2 ^ (7 * (k + 1)) := by
          have h1 : 2 ^ (7 * (k + 1)) = 128 * 2 ^ (7 * k) := by rw [show 7 * (k + 1) = 7 * k + 7 by omega, Nat.pow_add]; omega
          have h2 : b.toNat % 128 * 2 ^ (7 * k) ≤ 127 * 2 ^ (7 * k) := Nat.mul_le_mul_right _ (by omega)
          omega
        generalize n + b.toNat % 128 * 2 ^ (7 * k) = n' at e7 heq hn'
        have hn62 : n' < 2 ^ 63 := Nat.lt_of_lt_of_le hn' (Nat.pow_le_pow_right (by decide) (by omega))
        simp only [RS0, RS1, RS2, RS3, RS4, RS5, str_size, str_nil, str_inj, e2, ixS_str hb, binV_and, e3, e4, e5, e6, binV_or, e7]
        have ebz : ((b.toNat : Int) == 0) = decide (b = 0) := by
          rw [beq_dec, decide_eq_decide]
          constructor
          · intro h; apply UInt8.toNat.inj; simp; omega
          · rintro rfl; rfl
        have cont : decide (b = 0 ∧ 0 < k) = false → IfB (.bool (decide ((128 : Int) ≤ (b.toNat : Int))))
            (Pu (binV (TypeDesc.int IntKind.i64) .add (iv (k : Nat)) (Value.int IntKind.i64 1)) fun t73_107 =>
              (∃ (k_1 n_1 : Nat), [iv (n' : Nat), t73_107] = [iv n_1, iv k_1] ∧ k_1 ≤ 9 ∧ n_1 < 2 ^ (7 * k_1) ∧ k_1 ≤ s.length ∧ rdN most 9 0 0 s = rdN most (9 - k_1) k_1 n_1 (s.drop k_1) ∧ w2 = w2) ∧ (9 - nth [iv (n' : Nat), t73_107] 1).toNat < (9 - nth [iv (n : Nat), iv (k : Nat)] 1).toNat)
            (Pu (foldV0 max2V [iv most, (Value.int IntKind.i64 0)]) fun t58_108 =>
            Pu (binV (TypeDesc.int IntKind.i64) .gtr (iv (n' : Nat)) t58_108) fun t59_109 =>
            IfB t59_109
              (Cl Tryz.prog 196 [pv r, (Value.int IntKind.i64 11)] w2 fun v w' => v = iv (rdN most 9 0 0 s).1 ∧ RdAt w' r (rdN most 9 0 0 s).2.1 (rdN most 9 0 0 s).2.2 ∧ Fm (· = r) w2 w')
              (Pu (nilV (pv r)) fun t64_112 =>
              Pu (faV 0 t64_112) fun t65_113 =>
              Ld w2 t65_113 fun t66_114 w_115 =>
              Pu (binV (TypeDesc.int IntKind.i64) .add (iv (k : Nat)) (Value.int IntKind.i64 1)) fun t68_116 =>
              Pu (slS t66_114 (some t68_116) none) fun t69_117 =>
              Pu (nilV (pv r)) fun t70_118 =>
              Pu (faV 0 t70_118) fun t71_119 =>
              St 1 w_115 t71_119 t69_117 fun u_120 w_121 =>
              iv (n' : Nat) = iv (rdN most 9 0 0 s).1 ∧ RdAt w_121 r (rdN most 9 0 0 s).2.1 (rdN most 9 0 0 s).2.2 ∧ Fm (· = r) w2 w_121)) := by
          intro hz
          simp only [hz, cond_false] at heq
          have e9 : IntKind.i64.wrap ((k : Int) + 1) = ((k + 1 : Nat) : Int) := by rw [wrap_id] <;> omega
          by_cases hbig : 128 ≤ b.toNat
          · have z1 : decide ((128 : Int) ≤ (b.toNat : Int)) = true := by rw [decide_eq_true_eq]; omega
            have z2 : decide (128 ≤ b.toNat) = true := by simpa using hbig
            simp only [z2, cond_true] at heq
            simp only [RS0, RS1, RS2, RS3, RS4, RS5, z1, e9]
            exact ⟨⟨k + 1, n', rfl, by omega, hn', by omega, by rw [heq, show 9 - (k + 1) = f by omega], trivial⟩, by simp only [nth_1]; omega⟩
          · have z1 : decide ((128 : Int) ≤ (b.toNat : Int)) = false := by rw [decide_eq_false_iff_not]; omega
            have z2 : decide (128 ≤ b.toNat) = false := by simpa using hbig
            have z3 : max2V (iv most) (iv 0) = some (iv (max most 0)) := by
              show some (iv (if (0 : Int) > most then 0 else most)) = _
              congr 2
              split <;> omega
            simp only [z2, cond_false] at heq
            simp only [RS0, RS1, RS2, RS3, RS4, RS5, z1, foldV0, foldV, z3, Option.bind_some]
            by_cases hmx : max most 0 < (n' : Int)
            · have z4 : decide (max most 0 < (n' : Int)) = true := by simpa using hmx
              simp only [z4, cond_true] at heq
              simp only [RS0, RS1, RS2, RS3, RS4, RS5, z4]
              refine (bfail_spec h 11).mono ?_
              rintro _ w3 ⟨rfl, h3, hf3⟩
              rw [heq]
              exact ⟨(by trivial), h3, hf3⟩
            · have z4 : decide (max most 0 < (n' : Int)) = false := by simpa using hmx
              simp only [z4, cond_false] at heq
              have z5 := slS_lo (l := s) (i := k + 1) (by omega) .i64
              simp only [RS0, RS1, RS2, RS3, RS4, RS5, z4, h.c0, e9, z5]
              refine St_blk h (by simp) rfl ?_
              intro w3 h3 _ hf3
              rw [heq]
              exact ⟨rfl, h3, hf3⟩
        rw [ebz]
        by_cases hz : b = 0
        · have z1 : decide (b = 0) = true := by simpa using hz
          by_cases hkp : 0 < k
          · have z2 : decide ((0 : Int) < (k : Int)) = true := by rw [decide_eq_true_eq]; omega
            have z3 : decide (b = 0 ∧ 0 < k) = true := by simp [hz, hkp]
            simp only [z3, cond_true] at heq
            simp only [RS0, RS1, RS2, RS3, RS4, RS5, z1, z2]
            refine (bfail_spec h 11).mono ?_
            rintro _ w3 ⟨rfl, h3, hf3⟩
            rw [heq]
            exact ⟨(by trivial), h3, hf3⟩
          · have z2 : decide ((0 : Int) < (k : Int)) = false := by rw [decide_eq_false_iff_not]; omega
            have c := cont (by simp [hkp])
            simp only [RS0, RS1, RS2, RS3, RS4, RS5] at c
            simp only [RS0, RS1, RS2, RS3, RS4, RS5, z1, z2]
            exact c
        · have z1 : decide (b = 0) = false := by simpa using hz
          have c := cont (by simp [hz])
          simp only [RS0, RS1, RS2, RS3, RS4, RS5] at c
          simp only [RS0, RS1, RS2, RS3, RS4, RS5, z1]
          exact c
      · have e2 : decide ((s.length : Int) ≤ (k : Int)) = true := by rw [decide_eq_true_eq]; omega
        rw [List.drop_eq_nil_of_le (by omega), rdN] at heq
        simp only [RS0, RS1, RS2, RS3, RS4, RS5, e2]
        refine (bfail_spec h 10).mono ?_
        rintro _ w3 ⟨rfl, h3, hf3⟩
        rw [heq]
        exact ⟨(by trivial), h3, hf3⟩
    · have hke : k = 9 := by omega
      subst hke
      have e1 : decide (((9 : Nat) : Int) < 9) = false := rfl
      rw [Nat.sub_self, rdN] at heq
      simp only [RS0, RS1, RS2, RS3, RS4, RS5, e1]
      refine (bfail_spec h 11).mono ?_
      rintro _ w3 ⟨rfl, h3, hf3⟩
      rw [heq]
      exact ⟨(by trivial), h3, hf3⟩
  · have e1 : (e != 0) = true := by rw [bne_dec]; simp [he]
    have e2 : decide (e = 0) = false := by simpa using he
    simp only [RS0, RS1, RS2, RS3, RS4, RS5, h.c1, e1, e2, cond_false]
    exact ⟨(by trivial), h, Fm.refl _ _⟩

/-- What a writer's row is. -/
def ownNow (w : World) (r y : Nat) : Prop := ∃ v, w.heap[r]? = some (.cells #[v] 243) ∧ v.ownBlock = some y
/-- What a writer may turn: its block and its row. -/
def wrM (w : World) (r y : Nat) : Prop := y = r ∨ ownNow w r y
/-- A writer: in block r; what it has laid, in a row of the call's own. -/
structure WrAt (w : World) (r : Nat) (B : Bs) : Prop where
  ex : ∃ v, w.heap[r]? = some (.cells #[v] 243) ∧ w.ownsRow 0 5 1 v B.length (bc B)
theorem WrAt.keep {S : Nat → Prop} {w w' : World} {r : Nat} {B : Bs} (h : WrAt w r B) (hf : Fm S w w') (hs : ∀ y, wrM w r y → ¬ S y) : WrAt w' r B ∧ ∀ y, wrM w' r y ↔ wrM w r y := by
  obtain ⟨v, hv, ho⟩ := h.ex
  have hr := hf.heap hv (hs r (.inl rfl))
  refine ⟨⟨v, hr, own_keep ho hf fun k _ _ hk => hs k (.inr ⟨v, hv, hk⟩)⟩, fun y => ?_⟩
  unfold wrM ownNow
  rw [hr, hv]
theorem WrAt.lt {w : World} {r : Nat} {B : Bs} (h : WrAt w r B) : ∀ y, wrM w r y → y < w.heap.size := by
  obtain ⟨v, hv, ho⟩ := h.ex
  rintro y (rfl | ⟨v', hv', hy⟩)
  · exact lt_of_heap hv
  · rw [hv] at hv'; cases hv'; exact (ho.lt y hy).2
theorem bnew_spec (w : World) : Cl Tryz.prog 199 [] w fun v w' => v = pv w.heap.size ∧ WrAt w' w.heap.size [] ∧ (∀ y, wrM w' w.heap.size y → y = w.heap.size) ∧ Fm (fun _ => False) w w' := by
  refine c199 ?_; unfold T199
  refine RunS_ok (bldW w) (New_any ?_)
  intro b w' hb hs hw hf
  subst hb
  refine ⟨rfl, ⟨_, hw, World.ownsRow_nil _ _ _ _⟩, ?_, hf⟩
  rintro y (h | ⟨v, hv, hy⟩)
  · exact h
  · rw [hw] at hv; cases hv; cases hy
theorem bbytes_spec {w : World} {r : Nat} {B : Bs} (h : WrAt w r B) : Cl Tryz.prog 203 [pv r] w fun v w' => v = stv B ∧ w' = w := by
  obtain ⟨v, hv, ho⟩ := h.ex
  refine c203 ?_; unfold T203
  have c0 : w.cell? ⟨r, 0, none⟩ = some v := by rw [cell_at hv]; rfl
  simp only [RS0, RS1, RS2, RS3, RS4, RS5, c0]
  exact RunS_ok (conv_own B38 ho) ⟨rfl, rfl⟩
/-- A byte is laid. -/
theorem wput {w : World} {r : Nat} {B : Bs} (h : WrAt w r B) (hl : B.length ≤ 1099511627776) (x : UInt8) {k : KV} (hk : ∀ w', WrAt w' r (B ++ [x]) → Fm (wrM w r) w w' → (∀ y, wrM w' r y → wrM w r y ∨ w.heap.size ≤ y) → k undef w') :
    Pu (nilV (pv r)) fun t22_71 =>
      Pu (faV 0 t22_71) fun t23_72 =>
      Ld w t23_72 fun t24_73 w_74 =>
      RunS Tryz.prog (Instr.buildSlice 123 1 #[(0, .int .u8 x.toNat)]) w_74 fun t28_77 w_78 =>
      RunS Tryz.prog (Builtin.append_ #[123, 123] 123 #[t24_73, t28_77]) w_78 fun t29_79 w_80 =>
      Pu (nilV (pv r)) fun t30_81 =>
      Pu (faV 0 t30_81) fun t31_82 =>
      St 1 w_80 t31_82 t29_79 k := by
  obtain ⟨v, hv, ho⟩ := h.ex
  have c0 : w.cell? ⟨r, 0, none⟩ = some v := by rw [cell_at hv]; rfl
  have hrlt := lt_of_heap hv
  simp only [RS0, RS1, RS2, RS3, RS4, RS5, c0]
  refine append_elF E38w (by omega) 123 (cs := [.int .u8 x.toNat]) rfl (bs38w _ _) (by intro u hu; simp at hu; subst hu; rfl) ho (by unfold maxLen; omega) (by omega) (Nat.zero_le _) ?_
  intro v' w1 ho1 hcase
  try simp only [RS0, RS1, RS2, RS3, RS4, RS5]
  have hvr : ∀ g, v.ownBlock = some g → g ≠ r := by
    rintro g hg rfl
    rcases ho.2 with ⟨rfl, _⟩ | ⟨g', cap, cur, rfl, _, hgg, _⟩
    · cases hg
    · have : g' = g := by simpa [Value.ownBlock] using hg
      subst this
      rw [hv] at hgg; cases hgg
  obtain ⟨S, hfS, hS1, hS2⟩ : ∃ S : Nat → Prop, Fm S w w1 ∧ (∀ y, S y → v.ownBlock = some y) ∧ (∀ g, v'.ownBlock = some g → v.ownBlock = some g ∨ w.heap.size ≤ g) := by
    rcases hcase with ⟨g, k1, k2, k3⟩ | ⟨g, k1, k2, k3⟩
    · exact ⟨_, k3, fun y hy => by rw [hy]; exact k1, fun g' hg' => by rw [k2] at hg'; cases hg'; exact .inl k1⟩
    · exact ⟨_, k3, fun _ e => e.elim, fun g' hg' => by rw [k1] at hg'; cases hg'; exact .inr k2⟩
  have hv1 := hfS.heap hv (fun e => hvr r (hS1 r e) rfl)
  refine St_blk hv1 (by simp) (own_one ho1) ?_
  intro w2 hw2 hs2 hf2
  refine hk w2 ⟨v', hw2, ?_⟩ (hfS.trans hf2 (fun y _ e => .inr ⟨v, hv, hS1 y e⟩) (fun _ _ e => .inl e)) ?_
  · have := own_keep ho1 hf2 (fun g _ _ hg e => by
      have e' : g = r := e
      rw [e'] at hg
      rcases hS2 r hg with h1 | h1
      · exact hvr r h1 rfl
      · omega)
    rw [List.length_append, bc_append]; exact this
  · rintro y (h1 | ⟨v2, hv2, hy⟩)
    · exact .inl (.inl h1)
    · replace hw2 : w2.heap[r]? = some (.cells #[v'] 243) := hw2
      rw [hw2] at hv2; cases hv2
      rcases hS2 y hy with h1 | h1
      · exact .inl (.inr ⟨v, hv, h1⟩)
      · exact .inr h1
theorem u8_wrap_nat (c : Nat) : IntKind.u8.wrap (c : Int) = ((c % 256 : Nat) : Int) := by
  unfold IntKind.wrap; simp [IntKind.bits, IntKind.signed]
def encI (n : Int) : Bs := encN (max n 0).toNat
set_option maxHeartbeats 1000000 in
theorem wnum_spec {w : World} {r : Nat} {B : Bs} (h : WrAt w r B) {v : Value} {ns : List Int} (hns : CellsAt w v ns.length 1 (ns.map iv)) (hblk : ns ≠ [] → ∀ g, blockOf v = some g → ¬ wrM w r g) (hin : ∀ n ∈ ns, n ≤ 9223372036854775807)
    (hl : B.length + 9 * ns.length ≤ 1000000000000) :
    Cl Tryz.prog 200 [pv r, v] w fun u w' => WrAt w' r (B ++ ns.flatMap encI) ∧ Fm (wrM w r) w w' ∧ ∀ y, wrM w' r y → wrM w r y ∨ w.heap.size ≤ y := by
  refine c200 ?_; unfold T200
  simp only [RS0, RS1, RS2, RS3, RS4, RS5, hns.lenV]
  refine ⟨fun vs w2 => ∃ k : Nat, vs = [iv k] ∧ k ≤ ns.length ∧ WrAt w2 r (B ++ (ns.take k).flatMap encI) ∧ Fm (wrM w r) w w2 ∧ (∀ y, wrM w2 r y → wrM w r y ∨ w.heap.size ≤ y), fun vs _ => (ns.length - nth vs 0).toNat, ⟨0, rfl, by omega, by simpa using h, Fm.refl _ _, fun _ h => .inl h⟩, ?_⟩
  rintro _ w2 ik ⟨k, hvs, hk, h2, hf2, hm2⟩
  cases hvs
  have elen : ∀ n ∈ ns, (encI n).length ≤ 9 := fun n hn => (encN_le (by have := hin n hn; omega)).2
  have hfl : ∀ l : List Int, (∀ n ∈ l, (encI n).length ≤ 9) → (l.flatMap encI).length ≤ 9 * l.length := by
    intro l
    induction l with
    | nil => intro _; simp
    | cons n l ih =>
      intro hl
      have := ih (fun m hm => hl m (by simp [hm]))
      have := hl n (by simp)
      simp only [List.flatMap_cons, List.length_append, List.length_cons]; omega
  by_cases hlt : k < ns.length
  · have e1 : decide ((k : Int) < (ns.length : Int)) = true := by rw [decide_eq_true_eq]; omega
    have hx : ns[k]? = some ns[k] := List.getElem?_eq_getElem hlt
    have hmem := List.getElem_mem hlt
    have hxin := hin _ hmem
    have hel := elen _ hmem
    have hpre := hfl (ns.take k) (fun n hn => elen n (List.mem_of_mem_take hn))
    rw [List.length_take, Nat.min_eq_left hk] at hpre
    generalize ns[k] = n at hx hxin hel
    obtain ⟨ad, hix, _, hc⟩ := (hns.keepAny hf2 (fun hne g hg => hblk (fun e => hne (by rw [e]; rfl)) g hg)).at1 (i := k) (x := iv n) (by rw [List.getElem?_map, hx]; rfl) .i64
    have z3 : max2V (iv n) (iv 0) = some (iv (max n 0)) := by
      show some (iv (if (0 : Int) > n then 0 else n)) = _
      congr 2
      split <;> omega
    simp only [RS0, RS1, RS2, RS3, RS4, RS5, e1, hix, hc, foldV0, foldV, z3, Option.bind_some]
    obtain ⟨c0, hc0⟩ := Int.eq_ofNat_of_zero_le (show 0 ≤ max n 0 by omega)
    have henc : encI n = encN c0 := by unfold encI; rw [hc0]; rfl
    rw [hc0]
    have hpl : (B ++ (ns.take k).flatMap encI).length ≤ 999999999991 := by rw [List.length_append]; omega
    rw [henc] at hel
    generalize hP : B ++ (ns.take k).flatMap encI = P at h2 hpl
    refine ⟨fun vs w3 => ∃ (c : Nat) (Q : Bs), vs = [iv c] ∧ c ≤ 9223372036854775807 ∧ WrAt w3 r Q ∧ Q ++ encN c = P ++ encN c0 ∧ Fm (wrM w r) w w3 ∧ (∀ y, wrM w3 r y → wrM w r y ∨ w.heap.size ≤ y), fun vs _ => (nth vs 0).toNat, ⟨c0, P, rfl, by omega, h2, rfl, hf2, hm2⟩, ?_⟩
    rintro _ w3 ic ⟨c, Q, hvs, hcm, h3, hQ, hf3, hm3⟩
    cases hvs
    have hQl : Q.length ≤ 1000000000000 := by
      have := congrArg List.length hQ
      rw [List.length_append, List.length_append] at this
      omega
    by_cases hbig : 127 < c
    · have e2 : decide ((127 : Int) < (c : Int)) = true := by rw [decide_eq_true_eq]; omega
      have e3 : cvI .u8 (iv c) = some (.int .u8 ((c % 256 : Nat) : Int)) := by rw [← u8_wrap_nat]; rfl
      have e4 : orI .u8 ((c % 256 : Nat) : Int) 128 = (((UInt8.ofNat (c % 128 + 128)).toNat : Nat) : Int) := by
        have := or_u8 (c % 256) 128 (by omega) (by decide)
        rw [or128 (by omega), Nat.mod_mod_of_dvd c (by decide)] at this
        rw [u8_ofNat (by omega)]; exact this
      have e5 := shr_nat c 7 (by omega) (TypeDesc.int IntKind.i64) .u64
      simp only [RS0, RS1, RS2, RS3, RS4, RS5, e2, e3, binV_or, e4]
      have key := wput h3 (by omega) (UInt8.ofNat (c % 128 + 128)) (k := fun u_83 w_84 => Pu (binV (TypeDesc.int IntKind.i64) .shr (iv c) (Value.int IntKind.u64 7)) fun t19_85 =>
        (∃ (c : Nat) (Q : Bs), [t19_85] = [iv c] ∧ c ≤ 9223372036854775807 ∧ WrAt w_84 r Q ∧ Q ++ encN c = P ++ encN c0 ∧ Fm (wrM w r) w w_84 ∧ (∀ y, wrM w_84 r y → wrM w r y ∨ w.heap.size ≤ y)) ∧ (nth [t19_85] 0).toNat < (nth [iv (c : Nat)] 0).toNat) (by
          intro w4 h4 hf4 hm4
          have hF4 : Fm (wrM w r) w w4 := hf3.trans hf4 (fun _ _ e => e) (fun y hy e => by rcases hm3 y e with h | h; exact h; omega)
          have hM4 : ∀ y, wrM w4 r y → wrM w r y ∨ w.heap.size ≤ y := fun y hy => by
            rcases hm4 y hy with h | h
            · exact hm3 y h
            · have := hf3.size; exact .inr (by omega)
          have e5' : binV (TypeDesc.int IntKind.i64) .shr (iv c) (Value.int IntKind.u64 7) = some (iv ((c / 2 ^ 7 : Nat) : Int)) := e5
          rw [e5', Pu_some]
          refine ⟨⟨c / 2 ^ 7, _, rfl, by omega, h4, ?_, hF4, hM4⟩, by simp only [nth_0]; omega⟩
          rw [← hQ, encN_big hbig, List.append_assoc]; rfl)
      simp only [RS0, RS1, RS2, RS3, RS4, RS5] at key
      exact key
    · have e2 : decide ((127 : Int) < (c : Int)) = false := by rw [decide_eq_false_iff_not]; omega
      have e3 : cvI .u8 (iv c) = some (.int .u8 (((UInt8.ofNat c).toNat : Nat) : Int)) := by
        rw [u8_ofNat (by omega)]
        have := u8_wrap_nat c
        rw [Nat.mod_eq_of_lt (by omega)] at this
        show some (Value.int .u8 (IntKind.u8.wrap (c : Int))) = _
        rw [this]
      have e6 : IntKind.i64.wrap ((k : Int) + 1) = ((k + 1 : Nat) : Int) := by rw [wrap_id] <;> have := hns.lt <;> unfold maxLen at this <;> omega
      simp only [RS0, RS1, RS2, RS3, RS4, RS5, e2, e3]
      have key := wput h3 (by omega) (UInt8.ofNat c) (k := fun u_97 w_98 => Pu (binV (TypeDesc.int IntKind.i64) .add (iv (k : Nat)) (Value.int IntKind.i64 1)) fun t43_99 =>
        (∃ k : Nat, [t43_99] = [iv k] ∧ k ≤ ns.length ∧ WrAt w_98 r (B ++ (ns.take k).flatMap encI) ∧ Fm (wrM w r) w w_98 ∧ (∀ y, wrM w_98 r y → wrM w r y ∨ w.heap.size ≤ y)) ∧ (ns.length - nth [t43_99] 0).toNat < (ns.length - nth [iv (k : Nat)] 0).toNat) (by
          intro w4 h4 hf4 hm4
          have hF4 : Fm (wrM w r) w w4 := hf3.trans hf4 (fun _ _ e => e) (fun y hy e => by rcases hm3 y e with h | h; exact h; omega)
          have hM4 : ∀ y, wrM w4 r y → wrM w r y ∨ w.heap.size ≤ y := fun y hy => by
            rcases hm4 y hy with h | h
            · exact hm3 y h
            · have := hf3.size; exact .inr (by omega)
          rw [binV_add, Pu_some, e6]
          refine ⟨⟨k + 1, rfl, by omega, ?_, hF4, hM4⟩, by simp only [nth_0]; omega⟩
          have : B ++ (ns.take (k + 1)).flatMap encI = Q ++ [UInt8.ofNat c] := by
            rw [List.take_add_one, hx, List.flatMap_append, ← List.append_assoc, hP]
            show P ++ ([n].flatMap encI) = _
            rw [List.flatMap_cons, List.flatMap_nil, List.append_nil, henc, ← hQ, encN_small (by omega)]
          rw [this]; exact h4)
      simp only [RS0, RS1, RS2, RS3, RS4, RS5] at key
      exact key
  · have hke : k = ns.length := by omega
    subst hke
    have e1 : decide (((ns.length : Nat) : Int) < (ns.length : Int)) = false := by simp
    rw [List.take_length] at h2
    simp only [RS0, RS1, RS2, RS3, RS4, RS5, e1]
    exact ⟨h2, hf2, hm2⟩

end Go.Proofs.YthbngnlmgplijaaGreatDoor

namespace Go.Proofs.YthbngnlmgplijaaGreatDoor
open Go.Al Go.Proofs
set_option linter.unusedVariables false
set_option linter.unusedSimpArgs false
set_option linter.unusedSectionVars false
set_option maxRecDepth 100000

structure Rc where
  lsn : Int
  prev : Int
  next : Int
  kind : Int
  xid : Int
  page : Int
  slot : Int
  old : Int
  new : Int
  redo : Int
  data : Bs
  slots : List Int
  more : List Int
  imgs : List (Int × Pg)
  pages : List (Int × Int)
  txns : List (Int × Int)
  deriving DecidableEq
/-! ### Laid -/
def numsB (l : List Int) : Bs := l.flatMap encI
def txtB (s : Bs) : Bs := encI s.length ++ s
def listB (l : List Int) : Bs := encI l.length ++ numsB l
def trimZ (s : Bs) : Bs := (s.reverse.dropWhile (· == 0)).reverse
def imgB (m : Int × Pg) : Bs := encI m.1 ++ txtB (trimZ (pEnc m.2).1)
def prB (p : Int × Int) : Bs := encI p.1 ++ encI p.2
def headL (r : Rc) : List Int := [r.lsn, r.prev, r.next, r.kind, r.xid, r.page, r.slot, r.old, r.new, r.redo]
def rBody (r : Rc) : Bs := numsB (headL r) ++ txtB r.data ++ listB r.slots ++ listB r.more ++ encI r.imgs.length ++ r.imgs.flatMap imgB ++ encI r.pages.length ++ r.pages.flatMap prB ++ encI r.txns.length ++ r.txns.flatMap prB
def prs (l : List (Int × Int)) : List Int := l.flatMap fun p => [p.1, p.2]
def rNums (r : Rc) : List Int := [r.lsn, r.prev, r.next, r.redo, r.xid, r.page, r.slot, r.old, r.new] ++ r.slots ++ r.more ++ r.imgs.map (·.1) ++ prs r.pages ++ prs r.txns
def badN (n : Int) : Bool := decide (n < 0) || decide (4611686018427387904 < n)
/-- The first page that cannot be laid. -/
def imgErr : List (Int × Pg) → Int
  | [] => 0
  | m :: l => bif decide (pErr m.2 = 0) then imgErr l else pErr m.2
def rInner (r : Rc) : Bs × Int := bif decide (imgErr r.imgs = 0) then (bif decide (65535 < (rBody r).length) then ([], 3) else (rBody r, 0)) else ([], imgErr r.imgs)
def longR (r : Rc) : Bool := decide (512 < r.data.length) || decide (255 < r.slots.length) || decide (255 < r.more.length) || decide (4 < r.imgs.length) || decide (8192 < r.pages.length) || decide (1024 < r.txns.length)
def rCheck (r : Rc) : Bs × Int :=
  bif decide (r.kind < 1) || decide (13 < r.kind) then ([], 41)
  else bif decide (r.lsn < 1) || (rNums r).any badN then ([], 4)
  else bif longR r then ([], 3) else rInner r
def rEnc (r : Rc) : Bs × Int := bif decide ((rCheck r).2 = 0) then (beN 4 (rCheck r).1.length ++ beN 4 (crc (rCheck r).1) ++ (rCheck r).1, 0) else ([], (rCheck r).2)

/-! ### Read -/
abbrev St2 := Bs × Int
def rn (most : Int) (st : St2) : Int × St2 := rdNum most st.1 st.2
def rt (most : Int) (st : St2) : Bs × St2 :=
  bif decide ((rn most st).2.2 = 0) then (bif decide (((rn most st).2.1.length : Int) < (rn most st).1) then ([], ([], 10)) else ((rn most st).2.1.take (rn most st).1.toNat, ((rn most st).2.1.drop (rn most st).1.toNat, 0))) else ([], (rn most st).2)
def rlGo : Nat → St2 → List Int × St2
  | 0, st => ([], st)
  | n + 1, st => bif decide ((rn 4611686018427387904 st).2.2 = 0) then ((rn 4611686018427387904 st).1 :: (rlGo n (rn 4611686018427387904 st).2).1, (rlGo n (rn 4611686018427387904 st).2).2) else ([(rn 4611686018427387904 st).1], (rn 4611686018427387904 st).2)
def rl (most : Int) (st : St2) : List Int × St2 := rlGo (rn most st).1.toNat (rn most st).2
def padZ (t : Bs) : Bs := t ++ zeros (512 - t.length)
def riGo : Nat → St2 → Option (List (Int × Pg) × St2)
  | 0, st => some ([], st)
  | n + 1, st => bif decide ((pDec (padZ (rt 512 (rn 4611686018427387904 st).2).1)).2 = 0) && decide ((rt 512 (rn 4611686018427387904 st).2).2.2 = 0) then (riGo n (rt 512 (rn 4611686018427387904 st).2).2).map fun r => (((rn 4611686018427387904 st).1, (pDec (padZ (rt 512 (rn 4611686018427387904 st).2).1)).1) :: r.1, r.2) else none
def rpGo : Nat → St2 → Option (List (Int × Int) × St2)
  | 0, st => some ([], st)
  | n + 1, st => bif decide (st.2 = 0) then (rpGo n (rn 4611686018427387904 (rn 4611686018427387904 st).2).2).map fun r => (((rn 4611686018427387904 st).1, (rn 4611686018427387904 (rn 4611686018427387904 st).2).1) :: r.1, r.2) else none
def ten (s : Bs) : List Int × St2 :=
  let a0 := rn 4611686018427387904 (s, 0)
  let a1 := rn 4611686018427387904 a0.2
  let a2 := rn 4611686018427387904 a1.2
  let a3 := rn 13 a2.2
  let a4 := rn 4611686018427387904 a3.2
  let a5 := rn 4611686018427387904 a4.2
  let a6 := rn 4611686018427387904 a5.2
  let a7 := rn 4611686018427387904 a6.2
  let a8 := rn 4611686018427387904 a7.2
  let a9 := rn 4611686018427387904 a8.2
  ([a0.1, a1.1, a2.1, a3.1, a4.1, a5.1, a6.1, a7.1, a8.1, a9.1], a9.2)
def gI (l : List Int) (i : Nat) : Int := l.getD i 0
def tailP (a : List Int) (st : St2) : Option Rc :=
  let t := rt 512 st
  let sl := rl 255 t.2
  let mo := rl 255 sl.2
  let ni := rn 4 mo.2
  (riGo ni.1.toNat ni.2).bind fun im =>
  (rpGo (rn 8192 im.2).1.toNat (rn 8192 im.2).2).bind fun pg =>
  (rpGo (rn 1024 pg.2).1.toNat (rn 1024 pg.2).2).bind fun tx =>
  bif decide (endE tx.2.1 tx.2.2 = 0) then some ⟨gI a 0, gI a 1, gI a 2, gI a 3, gI a 4, gI a 5, gI a 6, gI a 7, gI a 8, gI a 9, t.1, sl.1, mo.1, im.1, pg.1, tx.1⟩ else none
def outerP (s : Bs) : Option Rc := tailP (ten s).1 (ten s).2
/-- What bytes begin with: the record, how many bytes, what is wrong. -/
def rDec (d : Bs) : Option Rc × Nat × Int :=
  bif decide (d.length < 8) then (none, 0, 40)
  else bif decide (ofN (d.take 4) = 0) || decide (65535 < ofN (d.take 4)) then (none, 0, 41)
  else bif decide (d.length < 8 + ofN (d.take 4)) then (none, 0, 40)
  else bif !decide (ofN ((d.drop 4).take 4) = crc ((d.drop 8).take (ofN (d.take 4)))) then (none, 0, 30)
  else match outerP ((d.drop 8).take (ofN (d.take 4))) with
    | none => (none, 0, 41)
    | some x => bif decide ((rCheck x).2 = 0) && decide ((rCheck x).1 = (d.drop 8).take (ofN (d.take 4))) then (some x, 8 + ofN (d.take 4), 0) else (none, 0, 41)

/-! ### What is laid is read -/
def okN (n : Int) : Prop := 0 ≤ n ∧ n ≤ 4611686018427387904
theorem encI_nat (n : Nat) : encI n = encN n := by
  unfold encI; rw [show (max (n : Int) 0).toNat = n by omega]
theorem rn_enc {n most : Int} (h0 : 0 ≤ n) (h1 : n ≤ most) (hm : most ≤ 4611686018427387904) (t : Bs) : rn most (encI n ++ t, 0) = (n, (t, 0)) := by
  obtain ⟨k, rfl⟩ := Int.eq_ofNat_of_zero_le h0
  unfold rn rdNum
  rw [decide_eq_true rfl, cond_true, encI_nat]
  have := rdN_enc most 9 0 k 0 t (by omega) (by omega) (by omega) (by simp only [Nat.pow_zero, Nat.mul_one, Nat.zero_add]; omega)
  simp only [Nat.pow_zero, Nat.mul_one, Nat.zero_add] at this
  exact this
theorem rt_enc {s : Bs} {most : Int} (h1 : (s.length : Int) ≤ most) (hm : most ≤ 4611686018427387904) (t : Bs) : rt most (txtB s ++ t, 0) = (s, (t, 0)) := by
  have := rn_enc (n := s.length) (most := most) (by omega) h1 hm (s ++ t)
  unfold rt txtB
  rw [List.append_assoc, this]
  simp only [decide_true, cond_true]
  rw [decide_eq_false (by rw [List.length_append]; omega), cond_false, Int.toNat_natCast, List.take_left, List.drop_left]
theorem rlGo_enc : ∀ (l : List Int) (t : Bs), (∀ n ∈ l, okN n) → rlGo l.length (numsB l ++ t, 0) = (l, (t, 0))
  | [], t, _ => rfl
  | n :: l, t, h => by
    have h0 := h n (by simp)
    have ih := rlGo_enc l t (fun m hm => h m (by simp [hm]))
    have e : numsB (n :: l) ++ t = encI n ++ (numsB l ++ t) := by simp [numsB]
    rw [List.length_cons, rlGo, e, rn_enc h0.1 h0.2 (Int.le_refl _)]
    simp only [decide_true, cond_true]
    rw [ih]
theorem rl_enc {l : List Int} {most : Int} (h1 : (l.length : Int) ≤ most) (hm : most ≤ 4611686018427387904) (h : ∀ n ∈ l, okN n) (t : Bs) : rl most (listB l ++ t, 0) = (l, (t, 0)) := by
  unfold rl listB
  rw [List.append_assoc, rn_enc (by omega) h1 hm]
  simp only [Int.toNat_natCast]
  exact rlGo_enc l t h
theorem trim_pad {s : Bs} (h : s.length = 512) : padZ (trimZ s) = s ∧ (trimZ s).length ≤ 512 := by
  have key : ∀ l : Bs, ∃ n, l = List.replicate n 0 ++ l.dropWhile (· == 0) := by
    intro l
    induction l with
    | nil => exact ⟨0, rfl⟩
    | cons x l ih =>
      rw [List.dropWhile_cons]
      by_cases hx : x = 0
      · subst hx
        obtain ⟨n, hn⟩ := ih
        refine ⟨n + 1, ?_⟩
        simp only [beq_self_eq_true, if_true, List.replicate_succ, List.cons_append]
        rw [← hn]
      · refine ⟨0, ?_⟩
        rw [if_neg (by simpa using hx)]; rfl
  obtain ⟨n, hn⟩ := key s.reverse
  have h1 : s = trimZ s ++ zeros n := by
    have := congrArg List.reverse hn
    rw [List.reverse_reverse, List.reverse_append, List.reverse_replicate] at this
    exact this
  have hl := congrArg List.length h1
  rw [List.length_append, zeros_len] at hl
  refine ⟨?_, by omega⟩
  unfold padZ
  rw [show 512 - (trimZ s).length = n by omega]
  exact h1.symm
theorem imgErr_ok {l : List (Int × Pg)} (h : imgErr l = 0) : ∀ m ∈ l, pErr m.2 = 0 := by
  induction l with
  | nil => intro m hm; cases hm
  | cons x l ih =>
    unfold imgErr at h
    cases hx : decide (pErr x.2 = 0) with
    | true =>
      rw [hx, cond_true] at h
      intro m hm
      rcases List.mem_cons.1 hm with rfl | hm
      · simpa using hx
      · exact ih h m hm
    | false =>
      rw [hx, cond_false] at h
      rw [decide_eq_false_iff_not] at hx
      exact absurd h hx
theorem riGo_enc : ∀ (l : List (Int × Pg)) (t : Bs), (∀ m ∈ l, okN m.1 ∧ pErr m.2 = 0 ∧ m.2.lsn ≤ 9223372036854775807) → riGo l.length (l.flatMap imgB ++ t, 0) = some (l, (t, 0))
  | [], t, _ => rfl
  | m :: l, t, h => by
    obtain ⟨h0, h1, h2⟩ := h m (by simp)
    have ih := riGo_enc l t (fun m hm => h m (by simp [hm]))
    have e : (m :: l).flatMap imgB ++ t = encI m.1 ++ (txtB (trimZ (pEnc m.2).1) ++ (l.flatMap imgB ++ t)) := by simp [imgB]
    obtain ⟨e1, e2⟩ := trim_pad (pEnc_len h1)
    rw [List.length_cons, riGo, e, rn_enc h0.1 h0.2 (Int.le_refl _)]
    simp only
    rw [rt_enc (by omega) (by omega)]
    simp only
    rw [e1, dec_enc h1 h2, ih]
    rfl
theorem rpGo_enc : ∀ (l : List (Int × Int)) (t : Bs), (∀ m ∈ l, okN m.1 ∧ okN m.2) → rpGo l.length (l.flatMap prB ++ t, 0) = some (l, (t, 0))
  | [], t, _ => rfl
  | m :: l, t, h => by
    obtain ⟨h0, h1⟩ := h m (by simp)
    have ih := rpGo_enc l t (fun m hm => h m (by simp [hm]))
    have e : (m :: l).flatMap prB ++ t = encI m.1 ++ (encI m.2 ++ (l.flatMap prB ++ t)) := by simp [prB]
    rw [List.length_cons, rpGo, e, rn_enc h0.1 h0.2 (Int.le_refl _)]
    simp only
    rw [rn_enc h1.1 h1.2 (Int.le_refl _), ih]
    rfl
structure Good (r : Rc) : Prop where
  kind : 1 ≤ r.kind ∧ r.kind ≤ 13
  nums : ∀ n ∈ rNums r, okN n
  data : r.data.length ≤ 512
  slots : r.slots.length ≤ 255
  more : r.more.length ≤ 255
  imgs : r.imgs.length ≤ 4
  pages : r.pages.length ≤ 8192
  txns : r.txns.length ≤ 1024
  img : ∀ m ∈ r.imgs, pErr m.2 = 0
  lsns : ∀ m ∈ r.imgs, m.2.lsn ≤ 9223372036854775807
theorem badN_ok {n : Int} (h : badN n = false) : okN n := by
  unfold badN at h
  rw [Bool.or_eq_false_iff, decide_eq_false_iff_not, decide_eq_false_iff_not] at h
  unfold okN; omega
theorem rCheck_ok {r : Rc} (h : (rCheck r).2 = 0) (hl : ∀ m ∈ r.imgs, m.2.lsn ≤ 9223372036854775807) : Good r ∧ 1 ≤ r.lsn ∧ (rCheck r).1 = rBody r ∧ (rBody r).length ≤ 65535 := by
  unfold rCheck at h ⊢
  cases h1 : decide (r.kind < 1) || decide (13 < r.kind) with
  | true => rw [h1, cond_true] at h; cases h
  | false =>
  rw [h1, cond_false] at h
  cases h2 : decide (r.lsn < 1) || (rNums r).any badN with
  | true => rw [h2, cond_true] at h; cases h
  | false =>
  rw [h2, cond_false] at h
  cases h3 : longR r with
  | true => rw [h3, cond_true] at h; cases h
  | false =>
  rw [h3, cond_false] at h
  simp only [cond_false]
  unfold rInner at h ⊢
  cases h4 : decide (imgErr r.imgs = 0) with
  | false =>
    rw [h4, cond_false] at h
    rw [decide_eq_false_iff_not] at h4
    exact absurd h h4
  | true =>
  rw [h4, cond_true] at h
  cases h5 : decide (65535 < (rBody r).length) with
  | true => rw [h5, cond_true] at h; cases h
  | false =>
  simp only [cond_true, cond_false]
  rw [Bool.or_eq_false_iff, decide_eq_false_iff_not, decide_eq_false_iff_not] at h1
  rw [Bool.or_eq_false_iff, decide_eq_false_iff_not] at h2
  simp only [longR, Bool.or_eq_false_iff, decide_eq_false_iff_not] at h3
  rw [decide_eq_true_eq] at h4
  rw [decide_eq_false_iff_not] at h5
  refine ⟨⟨by omega, fun n hn => badN_ok ?_, by omega, by omega, by omega, by omega, by omega, by omega, imgErr_ok h4, hl⟩, by omega, trivial, by omega⟩
  have := List.any_eq_false.1 h2.2 n hn
  simpa using this
theorem mem_prs {l : List (Int × Int)} {p : Int × Int} (h : p ∈ l) : p.1 ∈ prs l ∧ p.2 ∈ prs l := by
  unfold prs
  exact ⟨List.mem_flatMap.2 ⟨p, h, by simp⟩, List.mem_flatMap.2 ⟨p, h, by simp⟩⟩
theorem ten_enc {r : Rc} (h : Good r) (t : Bs) : ten (numsB (headL r) ++ t) = (headL r, (t, 0)) := by
  have hn : ∀ n, n ∈ [r.lsn, r.prev, r.next, r.redo, r.xid, r.page, r.slot, r.old, r.new] → okN n := fun n hm => h.nums n (by unfold rNums; simp only [List.mem_append]; exact .inl (.inl (.inl (.inl (.inl hm)))))
  have e : numsB (headL r) ++ t = encI r.lsn ++ (encI r.prev ++ (encI r.next ++ (encI r.kind ++ (encI r.xid ++ (encI r.page ++ (encI r.slot ++ (encI r.old ++ (encI r.new ++ (encI r.redo ++ t))))))))) := by simp [numsB, headL]
  have hk := h.kind
  have q := fun n hm t => rn_enc (hn n hm).1 (hn n hm).2 (Int.le_refl _) t
  have q0 := q r.lsn (by simp)
  have q1 := q r.prev (by simp)
  have q2 := q r.next (by simp)
  have q4 := q r.xid (by simp)
  have q5 := q r.page (by simp)
  have q6 := q r.slot (by simp)
  have q7 := q r.old (by simp)
  have q8 := q r.new (by simp)
  have q9 := q r.redo (by simp)
  have q3 : ∀ t, rn 13 (encI r.kind ++ t, 0) = (r.kind, (t, 0)) := fun t => rn_enc (by omega) hk.2 (by omega) t
  rw [e]
  simp only [ten, q0, q1, q2, q3, q4, q5, q6, q7, q8, q9]
  rfl
theorem outer_enc {r : Rc} (h : Good r) : outerP (rBody r) = some r := by
  have e : rBody r = numsB (headL r) ++ (txtB r.data ++ (listB r.slots ++ (listB r.more ++ (encI (r.imgs.length : Int) ++ (r.imgs.flatMap imgB ++ (encI (r.pages.length : Int) ++ (r.pages.flatMap prB ++ (encI (r.txns.length : Int) ++ (r.txns.flatMap prB ++ []))))))))) := by simp [rBody]
  have hd := h.data
  have hs := h.slots
  have hm := h.more
  have hi := h.imgs
  have hp := h.pages
  have ht := h.txns
  unfold outerP
  rw [e, ten_enc h]
  simp only [tailP]
  rw [rt_enc (by omega) (by omega)]
  simp only
  rw [rl_enc (by omega) (by omega) (fun n hn => h.nums n (by unfold rNums; simp only [List.mem_append]; exact .inl (.inl (.inl (.inl (.inr hn))))))]
  simp only
  rw [rl_enc (by omega) (by omega) (fun n hn => h.nums n (by unfold rNums; simp only [List.mem_append]; exact .inl (.inl (.inl (.inr hn)))))]
  simp only
  rw [rn_enc (by omega) (by omega) (by omega)]
  simp only [Int.toNat_natCast]
  rw [riGo_enc _ _ (fun m hm => ⟨h.nums _ (by unfold rNums; simp only [List.mem_append]; exact .inl (.inl (.inr (List.mem_map.2 ⟨m, hm, rfl⟩)))), h.img m hm, h.lsns m hm⟩)]
  simp only [Option.bind_some]
  rw [rn_enc (by omega) (by omega) (by omega)]
  simp only [Int.toNat_natCast]
  rw [rpGo_enc _ _ (fun m hm => ⟨h.nums _ (by unfold rNums; simp only [List.mem_append]; exact .inl (.inr (mem_prs hm).1)), h.nums _ (by unfold rNums; simp only [List.mem_append]; exact .inl (.inr (mem_prs hm).2))⟩)]
  simp only [Option.bind_some]
  rw [rn_enc (by omega) (by omega) (by omega)]
  simp only [Int.toNat_natCast]
  rw [rpGo_enc _ _ (fun m hm => ⟨h.nums _ (by unfold rNums; simp only [List.mem_append]; exact .inr (mem_prs hm).1), h.nums _ (by unfold rNums; simp only [List.mem_append]; exact .inr (mem_prs hm).2)⟩)]
  rfl

end Go.Proofs.YthbngnlmgplijaaGreatDoor

namespace Go.Proofs.YthbngnlmgplijaaGreatDoor
open Go.Al Go.Proofs
set_option linter.unusedVariables false
set_option linter.unusedSimpArgs false
set_option linter.unusedSectionVars false
set_option maxRecDepth 100000

theorem E47 : ElemT Tryz.prog 23 3 1 8 := elemT_of Tryz.underlying23 (by kernel_rfl)
/-- Cells, one behind the other, as one value. -/
theorem cellsV_of {w : World} {ad : Addr} {l : List Value} {n : Nat} (hl : l.length = n) (h : ∀ j, j < n → w.cell? (ad.add j) = l[j]?) : cellsV w ad n = some (.agg l.toArray) := by
  have key : ∀ (m j : Nat), j + m ≤ n → cellsAt w ad j m = some ((l.drop j).take m) := by
    intro m
    induction m with
    | zero => intro j hj; simp [cellsAt]
    | succ m ih =>
      intro j hj
      have hlt : j < l.length := by omega
      have hcell := h j (by omega)
      rw [List.getElem?_eq_getElem hlt] at hcell
      simp only [cellsAt, hcell, ih (j + 1) (by omega), Option.map_some]
      rw [List.drop_eq_getElem_cons hlt, List.take_succ_cons]
  unfold cellsV
  rw [key n 0 (by omega)]
  simp only [List.drop_zero, Option.map_some]
  rw [List.take_of_length_le (by omega)]
theorem flat_get {α : Type} {f : α → List Value} {n : Nat} (hf : ∀ x, (f x).length = n) {L : List α} {i : Nat} {x : α} (h : L[i]? = some x) {j : Nat} (hj : j < n) : (L.flatMap f)[i * n + j]? = (f x)[j]? := by
  induction L generalizing i with
  | nil => simp at h
  | cons y L ih =>
    rw [List.flatMap_cons]
    cases i with
    | zero =>
      simp at h; subst h
      rw [Nat.zero_mul, Nat.zero_add, List.getElem?_append_left (by rw [hf]; exact hj)]
    | succ i =>
      rw [List.getElem?_append_right (by rw [hf, Nat.succ_mul]; omega), hf, Nat.succ_mul]
      rw [show i * n + n + j - n = i * n + j by omega]
      exact ih (by simpa using h)
theorem flat_len {α : Type} {f : α → List Value} {n : Nat} (hf : ∀ x, (f x).length = n) (L : List α) : (L.flatMap f).length = L.length * n := by
  induction L with
  | nil => simp
  | cons y L ih => rw [List.flatMap_cons, List.length_append, hf, ih, List.length_cons, Nat.succ_mul]; omega
theorem cells_ld {α : Type} {f : α → List Value} {n : Nat} (hf : ∀ x, (f x).length = n) (hn : 0 < n) {w : World} {v : Value} {L : List α} (h : CellsAt w v L.length n (L.flatMap f)) {i : Nat} {x : α} (hx : L[i]? = some x) :
    ∃ ad, ixV n v (iv i) = some (.pointer (some ad)) ∧ cellsV w ad n = some (.agg (f x).toArray) ∧ blockOf v = some ad.block := by
  obtain ⟨ad, h1, h2, h3⟩ := h.at hn (List.getElem?_eq_some_iff.1 hx).1 .i64
  exact ⟨ad, h1, cellsV_of (hf x) (fun j hj => by rw [h3 j hj, flat_get hf hx hj]), h2⟩
theorem own_new {w : World} {e : TypeId} {sz base n : Nat} {l : List Value} (hl : l.length = n * sz) (hb : base ≤ w.heap.size) (hn : n ≤ maxLen) : (w.alloc (.cells l.toArray e)).ownsRow base e sz (.slice (some ⟨w.heap.size, 0, none⟩) n n) n l :=
  ⟨hl, .inr ⟨_, n, l.toArray, rfl, hb, alloc_new _ _, Nat.le_refl _, hn, by simp [hl], by simp [← hl]⟩⟩
theorem own_up {w : World} {base base' : Nat} {e : TypeId} {sz : Nat} {v : Value} {n : Nat} {xs : List Value} (h : w.ownsRow base e sz v n xs) (hb : ∀ k, v.ownBlock = some k → base' ≤ k) : w.ownsRow base' e sz v n xs := by
  refine ⟨h.1, ?_⟩
  rcases h.2 with h2 | ⟨g, cap, cur, rfl, hb', r⟩
  · exact .inl h2
  · exact .inr ⟨g, cap, cur, rfl, hb g rfl, r⟩

/-! ### A record -/
def pc2 (p : Int × Int) : List Value := [iv p.1, iv p.2]
theorem pc2_len (p : Int × Int) : (pc2 p).length = 2 := rfl
theorem pc2_prs (l : List (Int × Int)) : l.flatMap pc2 = (prs l).map iv := by
  induction l with
  | nil => rfl
  | cons p l ih => rw [List.flatMap_cons, ih]; rfl
def imC (x : Int × Pg × Value) : List Value := iv x.1 :: (pcs x.2.1 x.2.2).toList
theorem imC_len (x : Int × Pg × Value) : (imC x).length = 7 := rfl
def rcs (r : Rc) (vs vm vi vp vt : Value) : Array Value := #[iv r.lsn, iv r.prev, iv r.next, .int .u8 r.kind, iv r.xid, iv r.page, iv r.slot, iv r.old, iv r.new, iv r.redo, stv r.data, vs, vm, vi, vp, vt]
/-- A slice of images. -/
structure ImAs (w : World) (v : Value) (L : List (Int × Pg)) : Prop where
  ex : ∃ X : List (Int × Pg × Value), X.map (fun x => (x.1, x.2.1)) = L ∧ CellsAt w v X.length 7 (X.flatMap imC) ∧ ∀ x ∈ X, x.2.2.oneCell' = true ∧ PgAs w (pcs x.2.1 x.2.2) x.2.1
theorem ImAs.keep {w w' : World} {v : Value} {L : List (Int × Pg)} (h : ImAs w v L) (hf : Fm (fun _ => False) w w') : ImAs w' v L := by
  obtain ⟨X, h1, h2, h3⟩ := h.ex
  exact ⟨X, h1, h2.keep hf (fun _ _ e => e), fun x hx => ⟨(h3 x hx).1, (h3 x hx).2.keep hf⟩⟩
theorem ImAs.lenV {w : World} {v : Value} {L : List (Int × Pg)} (h : ImAs w v L) : lenV v = some (iv L.length) := by
  obtain ⟨X, h1, h2, h3⟩ := h.ex
  rw [← h1, List.length_map]; exact h2.lenV
theorem ImAs.ld {w : World} {v : Value} {L : List (Int × Pg)} (h : ImAs w v L) {i : Nat} {m : Int × Pg} (hi : L[i]? = some m) : ∃ ad u, ixV 7 v (iv i) = some (.pointer (some ad)) ∧ cellsV w ad 7 = some (.agg (imC (m.1, m.2, u)).toArray) ∧ u.oneCell' = true ∧ PgAs w (pcs m.2 u) m.2 := by
  obtain ⟨X, h1, h2, h3⟩ := h.ex
  rw [← h1, List.getElem?_map, Option.map_eq_some_iff] at hi
  obtain ⟨x, hx, rfl⟩ := hi
  obtain ⟨ad, q1, q2, _⟩ := cells_ld imC_len (by omega) h2 hx
  obtain ⟨q3, q4⟩ := h3 x (List.mem_of_getElem? hx)
  exact ⟨ad, x.2.2, q1, q2, q3, q4⟩
structure RcAs (w : World) (cs : Array Value) (r : Rc) : Prop where
  ex : ∃ vs vm vi vp vt, cs = rcs r vs vm vi vp vt ∧ (vs.oneCell' = true ∧ vm.oneCell' = true ∧ vi.oneCell' = true ∧ vp.oneCell' = true ∧ vt.oneCell' = true) ∧ CellsAt w vs r.slots.length 1 (r.slots.map iv) ∧ CellsAt w vm r.more.length 1 (r.more.map iv) ∧ ImAs w vi r.imgs ∧
    CellsAt w vp r.pages.length 2 (r.pages.flatMap pc2) ∧ CellsAt w vt r.txns.length 2 (r.txns.flatMap pc2)
  ins : ∀ n ∈ rNums r, In n
  kin : 0 ≤ r.kind ∧ r.kind ≤ 255
  data : r.data.length ≤ 140737488355328
  bulk : r.slots.length + r.more.length + r.imgs.length + r.pages.length + r.txns.length ≤ 2000000
  lsns : ∀ m ∈ r.imgs, m.2.lsn ≤ 9223372036854775807
theorem RcAs.keep {w w' : World} {cs : Array Value} {r : Rc} (h : RcAs w cs r) (hf : Fm (fun _ => False) w w') : RcAs w' cs r := by
  obtain ⟨vs, vm, vi, vp, vt, h1, h2, h3, h4, h5, h6, h7⟩ := h.ex
  exact ⟨⟨vs, vm, vi, vp, vt, h1, h2, h3.keep hf (fun _ _ e => e), h4.keep hf (fun _ _ e => e), h5.keep hf, h6.keep hf (fun _ _ e => e), h7.keep hf (fun _ _ e => e)⟩, h.ins, h.kin, h.data, h.bulk, h.lsns⟩
theorem RcAs.size {w : World} {cs : Array Value} {r : Rc} (h : RcAs w cs r) : cs.size = 16 := by obtain ⟨vs, vm, vi, vp, vt, rfl, _⟩ := h.ex; rfl
theorem RcAs.one {w : World} {cs : Array Value} {r : Rc} (h : RcAs w cs r) : ∀ u ∈ cs.toList, u.oneCell' = true := by
  obtain ⟨vs, vm, vi, vp, vt, rfl, ⟨h1, h2, h3, h4, h5⟩, _⟩ := h.ex
  intro u hu
  simp [rcs] at hu
  rcases hu with rfl | rfl | rfl | rfl | rfl | rfl | rfl | rfl | rfl | rfl | rfl | rfl | rfl | rfl | rfl | rfl <;> first | rfl | assumption
/-- A record's block. -/
structure RB (w : World) (g : Nat) (r : Rc) (vs vm vi vp vt : Value) : Prop where
  h : w.heap[g]? = some (.cells (rcs r vs vm vi vp vt) 28)
section
variable {S : Nat → Prop} {w w' : World} {g : Nat} {r : Rc} {vs vm vi vp vt : Value}
theorem RB.keep (h : RB w g r vs vm vi vp vt) (hf : Fm S w w') (hs : ¬ S g) : RB w' g r vs vm vi vp vt := ⟨hf.heap h.h hs⟩
theorem RB.c0 (h : RB w g r vs vm vi vp vt) : w.cell? ⟨g, 0, none⟩ = some (iv r.lsn) := by rw [cell_at h.h]; rfl
theorem RB.c1 (h : RB w g r vs vm vi vp vt) : w.cell? ⟨g, 1, none⟩ = some (iv r.prev) := by rw [cell_at h.h]; rfl
theorem RB.c2 (h : RB w g r vs vm vi vp vt) : w.cell? ⟨g, 2, none⟩ = some (iv r.next) := by rw [cell_at h.h]; rfl
theorem RB.c3 (h : RB w g r vs vm vi vp vt) : w.cell? ⟨g, 3, none⟩ = some (.int .u8 r.kind) := by rw [cell_at h.h]; rfl
theorem RB.c4 (h : RB w g r vs vm vi vp vt) : w.cell? ⟨g, 4, none⟩ = some (iv r.xid) := by rw [cell_at h.h]; rfl
theorem RB.c5 (h : RB w g r vs vm vi vp vt) : w.cell? ⟨g, 5, none⟩ = some (iv r.page) := by rw [cell_at h.h]; rfl
theorem RB.c6 (h : RB w g r vs vm vi vp vt) : w.cell? ⟨g, 6, none⟩ = some (iv r.slot) := by rw [cell_at h.h]; rfl
theorem RB.c7 (h : RB w g r vs vm vi vp vt) : w.cell? ⟨g, 7, none⟩ = some (iv r.old) := by rw [cell_at h.h]; rfl
theorem RB.c8 (h : RB w g r vs vm vi vp vt) : w.cell? ⟨g, 8, none⟩ = some (iv r.new) := by rw [cell_at h.h]; rfl
theorem RB.c9 (h : RB w g r vs vm vi vp vt) : w.cell? ⟨g, 9, none⟩ = some (iv r.redo) := by rw [cell_at h.h]; rfl
theorem RB.c10 (h : RB w g r vs vm vi vp vt) : w.cell? ⟨g, 10, none⟩ = some (stv r.data) := by rw [cell_at h.h]; rfl
theorem RB.c11 (h : RB w g r vs vm vi vp vt) : w.cell? ⟨g, 11, none⟩ = some vs := by rw [cell_at h.h]; rfl
theorem RB.c12 (h : RB w g r vs vm vi vp vt) : w.cell? ⟨g, 12, none⟩ = some vm := by rw [cell_at h.h]; rfl
theorem RB.c13 (h : RB w g r vs vm vi vp vt) : w.cell? ⟨g, 13, none⟩ = some vi := by rw [cell_at h.h]; rfl
theorem RB.c14 (h : RB w g r vs vm vi vp vt) : w.cell? ⟨g, 14, none⟩ = some vp := by rw [cell_at h.h]; rfl
theorem RB.c15 (h : RB w g r vs vm vi vp vt) : w.cell? ⟨g, 15, none⟩ = some vt := by rw [cell_at h.h]; rfl
theorem RB.all (h : RB w g r vs vm vi vp vt) : cellsV w ⟨g, 0, none⟩ 16 = some (.agg (rcs r vs vm vi vp vt)) := cellsV_blk h.h rfl
theorem RB.lt (h : RB w g r vs vm vi vp vt) : g < w.heap.size := lt_of_heap h.h
end

/-! ### A writer of the call's own -/
structure WS (w0 w : World) (r : Nat) (B : Bs) : Prop where
  ex : ∃ v, w.heap[r]? = some (.cells #[v] 243) ∧ w.ownsRow w0.heap.size 5 1 v B.length (bc B)
  fm : Fm (fun _ => False) w0 w
  ge : w0.heap.size ≤ r
theorem WS.wr {w0 w : World} {r : Nat} {B : Bs} (h : WS w0 w r B) : WrAt w r B ∧ ∀ y, wrM w r y → w0.heap.size ≤ y ∧ y < w.heap.size := by
  obtain ⟨v, hv, ho⟩ := h.ex
  refine ⟨⟨v, hv, own_base ho (Nat.zero_le _)⟩, ?_⟩
  rintro y (rfl | ⟨v', hv', hy⟩)
  · exact ⟨h.ge, lt_of_heap hv⟩
  · rw [hv] at hv'; cases hv'; exact own_lt ho y hy
theorem WS.of {w0 w w' : World} {r : Nat} {B B' : Bs} {S : Nat → Prop} (h : WS w0 w r B) (h' : WrAt w' r B') (hf : Fm S w w') (hS : ∀ y, S y → w0.heap.size ≤ y) (hM : ∀ y, wrM w' r y → wrM w r y ∨ w.heap.size ≤ y) : WS w0 w' r B' := by
  obtain ⟨v, hv, ho⟩ := h'.ex
  have hz := h.fm.size
  refine ⟨⟨v, hv, own_up ho (fun k hk => ?_)⟩, Fm.own h.fm hf hS, h.ge⟩
  rcases hM k (.inr ⟨v, hv, hk⟩) with e | e
  · exact (h.wr.2 k e).1
  · omega
theorem WS.keep {w0 w w' : World} {r : Nat} {B : Bs} (h : WS w0 w r B) (hf : Fm (fun _ => False) w w') : WS w0 w' r B := by
  obtain ⟨v, hv, ho⟩ := h.ex
  exact ⟨⟨v, hf.heap hv (fun e => e), own_keep ho hf (fun _ _ _ _ e => e)⟩, Fmf h.fm hf, h.ge⟩
theorem WS.new {w0 w : World} (hf : Fm (fun _ => False) w0 w) {k : KV} (hk : ∀ w' r, WS w0 w' r [] → Fm (fun _ => False) w w' → k (pv r) w') : Cl Tryz.prog 199 [] w k := by
  refine (bnew_spec w).mono ?_
  rintro _ w' ⟨rfl, h1, h2, h3⟩
  have hz := hf.size
  obtain ⟨v, hv, ho⟩ := h1.ex
  refine hk w' _ ⟨⟨v, hv, own_up ho (fun k hk => ?_)⟩, Fmf hf h3, hz⟩ h3
  have := h2 k (.inr ⟨v, hv, hk⟩)
  omega
theorem WS.num {w0 w : World} {r : Nat} {B : Bs} (h : WS w0 w r B) {v : Value} {ns : List Int} (hns : CellsAt w v ns.length 1 (ns.map iv)) (hb : ns ≠ [] → ∀ g, blockOf v = some g → g < w0.heap.size) (hin : ∀ n ∈ ns, n ≤ 9223372036854775807) (hl : B.length + 9 * ns.length ≤ 1000000000000) {k : KV}
    (hk : ∀ u w', WS w0 w' r (B ++ numsB ns) → k u w') : Cl Tryz.prog 200 [pv r, v] w k := by
  obtain ⟨hw, hm⟩ := h.wr
  refine (wnum_spec hw hns (fun hne g hg e => by have := hb hne g hg; have := (hm g e).1; omega) hin hl).mono ?_
  rintro u w' ⟨h1, h2, h3⟩
  exact hk u w' (h.of h1 h2 (fun y hy => (hm y hy).1) h3)
theorem WS.lit {w0 w : World} {r n : Nat} {B : Bs} (h : WS w0 w r B) {ns : List Int} {items : Array (Nat × Value)} (hb : (Instr.buildSlice 23 n items).run Tryz.prog w = .ok (.slice (some ⟨w.heap.size, 0, none⟩) n n) (w.alloc (.cells (ns.map iv).toArray 3))) (hn : ns.length = n) (hin : ∀ n ∈ ns, n ≤ 9223372036854775807) (hl : B.length + 9 * n ≤ 1000000000000) {k : KV}
    (hk : ∀ u w', WS w0 w' r (B ++ numsB ns) → k u w') : RunS Tryz.prog (Instr.buildSlice 23 n items) w fun t w1 => Cl Tryz.prog 200 [pv r, t] w1 k := by
  refine RunS_ok hb ?_
  subst hn
  have hf := Fm.alloc (fun _ => False) w (.cells (ns.map iv).toArray 3)
  have ho := own_new (w := w) (e := 3) (sz := 1) (base := w.heap.size) (n := ns.length) (l := ns.map iv) (by simp) (Nat.le_refl _) (by unfold maxLen; omega)
  have h1 := h.keep hf
  obtain ⟨hw, hm⟩ := h.wr
  generalize w.alloc (.cells (ns.map iv).toArray 3) = w1 at hf ho h1
  obtain ⟨hw1, hm1⟩ := h1.wr
  have hsame : ∀ y, wrM w1 r y → y < w.heap.size := fun y hy => by
    obtain ⟨_, e⟩ := hw.keep hf (fun _ _ e => e)
    exact hw.lt y ((e y).1 hy)
  refine (wnum_spec hw1 (CellsAt.of_own ho) (fun hne g hg e => ?_) hin hl).mono ?_
  · have h0 := hsame g e
    have h1 : g = w.heap.size := (Option.some.inj hg).symm
    omega
  · rintro u w' ⟨g1, g2, g3⟩
    exact hk u w' (h1.of g1 g2 (fun y hy => (hm1 y hy).1) g3)
theorem bs47_1 (a : Int) (w : World) : (Instr.buildSlice 23 1 #[(0, iv a)]).run Tryz.prog w = .ok (.slice (some ⟨w.heap.size, 0, none⟩) 1 1) (w.alloc (.cells ([a].map iv).toArray 3)) := by kernel_rfl
theorem bs47_2 (a b : Int) (w : World) : (Instr.buildSlice 23 2 #[(0, iv a), (1, iv b)]).run Tryz.prog w = .ok (.slice (some ⟨w.heap.size, 0, none⟩) 2 2) (w.alloc (.cells ([a, b].map iv).toArray 3)) := by kernel_rfl
theorem bs47_9 (a b c d e f g h i : Int) (w : World) : (Instr.buildSlice 23 9 #[(0, iv a), (1, iv b), (2, iv c), (3, iv d), (4, iv e), (5, iv f), (6, iv g), (7, iv h), (8, iv i)]).run Tryz.prog w = .ok (.slice (some ⟨w.heap.size, 0, none⟩) 9 9) (w.alloc (.cells ([a, b, c, d, e, f, g, h, i].map iv).toArray 3)) := by kernel_rfl
theorem bs47_10 (a b c d e f g h i j : Int) (w : World) : (Instr.buildSlice 23 10 #[(0, iv a), (1, iv b), (2, iv c), (3, iv d), (4, iv e), (5, iv f), (6, iv g), (7, iv h), (8, iv i), (9, iv j)]).run Tryz.prog w = .ok (.slice (some ⟨w.heap.size, 0, none⟩) 10 10) (w.alloc (.cells ([a, b, c, d, e, f, g, h, i, j].map iv).toArray 3)) := by kernel_rfl
theorem numsB1 (a : Int) : numsB [a] = encI a := by simp [numsB]
theorem encI_len {n : Int} (h : n ≤ 9223372036854775807) : (encI n).length ≤ 9 := by unfold encI; exact (encN_le (by omega)).2
theorem numsB_len : ∀ {l : List Int}, (∀ n ∈ l, n ≤ 9223372036854775807) → (numsB l).length ≤ 9 * l.length
  | [], _ => by simp [numsB]
  | n :: l, h => by
    have := numsB_len (l := l) (fun m hm => h m (by simp [hm]))
    have := encI_len (h n (by simp))
    unfold numsB at *
    rw [List.flatMap_cons, List.length_append, List.length_cons]; omega
set_option maxHeartbeats 1000000 in
theorem WS.text {w0 w : World} {r : Nat} {B : Bs} (h : WS w0 w r B) {s : Bs} (hs : s.length ≤ 1000000) (hl : B.length + 9 + s.length ≤ 1000000000) {k : KV} (hk : ∀ u w', WS w0 w' r (B ++ txtB s) → k u w') : Cl Tryz.prog 201 [pv r, stv s] w k := by
  refine c201 ?_; unfold T201
  simp only [RS0, RS1, RS2, RS3, RS4, RS5, str_size]
  refine h.lit (bs47_1 _ _) rfl (by intro n hn; simp at hn; omega) (by omega) ?_
  intro u w1 h1
  rw [numsB1] at h1
  obtain ⟨v, hv, ho⟩ := h1.ex
  have c0 : w1.cell? ⟨r, 0, none⟩ = some v := by rw [cell_at hv]; rfl
  have hel := encI_len (n := s.length) (by omega)
  have hz := h1.fm.size
  simp only [RS0, RS1, RS2, RS3, RS4, RS5, c0]
  obtain ⟨v', w2, hr2, ho2, hf2, _⟩ := append_text B38 ho s 123 (by rw [List.length_append]; omega) hz
  refine RunS_ok hr2 ?_
  have hne : v.ownBlock ≠ some r := fun e => by
    rcases ho.2 with ⟨rfl, _⟩ | ⟨g, cap, cur, rfl, _, hg, _⟩
    · cases e
    · have : g = r := by simpa [Value.ownBlock] using e
      subst this
      rw [hv] at hg; cases hg
  have hlt := own_lt ho
  refine St_blk (hf2.heap hv hne) (by show 0 < 1; decide) (own_one ho2) ?_
  intro w3 hw3 hs3 hf3
  replace hw3 : w3.heap[r]? = some (.cells #[v'] 243) := hw3
  have ho3 : w3.ownsRow w0.heap.size 5 1 v' _ _ := own_keep ho2 hf3 (fun g _ _ hg e => by
    rcases ho2.2 with ⟨rfl, _⟩ | ⟨g', cap, cur, rfl, _, hgg, _⟩
    · cases hg
    · have e1 : g' = g := by simpa [Value.ownBlock] using hg
      rw [e1, e] at hgg
      rw [hf2.heap hv hne] at hgg; cases hgg)
  refine hk _ _ ⟨⟨v', hw3, ?_⟩, Fm.own (Fm.own h1.fm hf2 (fun y hy => (hlt y hy).1)) hf3 (by rintro y rfl; exact h1.ge), h1.ge⟩
  have e1 : (B ++ txtB s) = (B ++ encI s.length) ++ s := by simp [txtB]
  rw [e1]
  have e2 : ((B ++ encI s.length) ++ s).length = (B ++ encI s.length).length + s.length := List.length_append
  rw [e2]
  exact ho3

end Go.Proofs.YthbngnlmgplijaaGreatDoor

namespace Go.Proofs.YthbngnlmgplijaaGreatDoor
open Go.Al Go.Proofs
set_option linter.unusedVariables false
set_option linter.unusedSimpArgs false
set_option linter.unusedSectionVars false
set_option maxRecDepth 100000

theorem iv_one (l : List Int) : ∀ u ∈ l.map iv, u.oneCell' = true := by
  intro u hu
  obtain ⟨n, _, rfl⟩ := List.mem_map.1 hu
  rfl
theorem row_src {w : World} {b0 : Nat} {lv v : Value} {L ns : List Int} (ho : w.ownsRow b0 3 1 lv L.length (L.map iv)) (hc : CellsAt w v ns.length 1 (ns.map iv)) (hl : L.length + ns.length ≤ 100000000) (hb : b0 ≤ w.heap.size) :
    ∃ v' w', (Builtin.append_ #[23, 23] 23 #[lv, v]).run Tryz.prog w = .ok v' w' ∧ w'.ownsRow b0 3 1 v' (L ++ ns).length ((L ++ ns).map iv) ∧ Fm (fun y => b0 ≤ y) w w' := by
  obtain ⟨v', w', hr, ho', hf⟩ := append_srcO E47 (by omega) ho hc (iv_one ns) 23 (by unfold maxLen; omega) (by omega) hb
  refine ⟨v', w', hr, ?_, hf.mono (fun y _ e => (own_lt ho y e).1)⟩
  rw [List.length_append, List.map_append]; exact ho'
theorem row_lit {w : World} {b0 n : Nat} {lv : Value} {L ns : List Int} {items : Array (Nat × Value)} (ho : w.ownsRow b0 3 1 lv L.length (L.map iv)) (hbs : (Instr.buildSlice 23 n items).run Tryz.prog w = .ok (.slice (some ⟨w.heap.size, 0, none⟩) n n) (w.alloc (.cells (ns.map iv).toArray 3))) (hn : ns.length = n) (hl : L.length + n ≤ 100000000) (hb : b0 ≤ w.heap.size) {k : KV}
    (hk : ∀ v' w', w'.ownsRow b0 3 1 v' (L ++ ns).length ((L ++ ns).map iv) → Fm (fun y => b0 ≤ y) w w' → k v' w') : RunS Tryz.prog (Instr.buildSlice 23 n items) w fun t w1 => RunS Tryz.prog (Builtin.append_ #[23, 23] 23 #[lv, t]) w1 k := by
  refine RunS_ok hbs ?_
  subst hn
  have hf := Fm.alloc (fun _ => False) w (.cells (ns.map iv).toArray 3)
  have hnew := own_new (w := w) (e := 3) (sz := 1) (base := w.heap.size) (n := ns.length) (l := ns.map iv) (by simp) (Nat.le_refl _) (by unfold maxLen; omega)
  have ho1 := own_keep ho hf (fun _ _ _ _ e => e)
  have hz := hf.size
  generalize w.alloc (.cells (ns.map iv).toArray 3) = w1 at hf hnew ho1 hz
  obtain ⟨v', w', hr, ho', hf'⟩ := row_src ho1 (CellsAt.of_own hnew) hl (by omega)
  exact RunS_ok hr (hk v' w' ho' ((hf.mono (fun _ _ e => e.elim)).trans hf' (fun _ _ e => e) (fun _ _ e => e)))

set_option maxHeartbeats 8000000 in
theorem numbers_spec {w : World} {cs : Array Value} {r : Rc} (h : RcAs w cs r) : Cl Tryz.prog 156 [.agg cs] w fun v w' => w'.ownsRow w.heap.size 3 1 v (rNums r).length ((rNums r).map iv) ∧ Fm (fun _ => False) w w' := by
  obtain ⟨vs, vm, vi, vp, vt, hcs, _, hs, hm, hi, hp, ht⟩ := h.ex
  have hbulk := h.bulk
  refine c156 ?_; unfold T156
  refine New_any ?_
  intro x1 w1 hx1 hs1 hw1 hf1
  have hR1 : RB w1 x1 r vs vm vi vp vt := ⟨by rw [← hcs]; exact hw1⟩
  have hz1 := hf1.size
  simp only [RS0, RS1, RS2, RS3, RS4, RS5, hR1.c0, hR1.c1, hR1.c2, hR1.c4, hR1.c5, hR1.c6, hR1.c7, hR1.c8, hR1.c9]
  refine RunS_ok (bs47_9 _ _ _ _ _ _ _ _ _ _) ?_
  have hf2 := Fm.alloc (fun _ => False) w1 (.cells ([r.lsn, r.prev, r.next, r.redo, r.xid, r.page, r.slot, r.old, r.new].map iv).toArray 3)
  have ho2 := own_new (w := w1) (e := 3) (sz := 1) (base := w1.heap.size) (n := 9) (l := [r.lsn, r.prev, r.next, r.redo, r.xid, r.page, r.slot, r.old, r.new].map iv) (by simp) (Nat.le_refl _) (by simp [maxLen])
  have hL : rNums r = [r.lsn, r.prev, r.next, r.redo, r.xid, r.page, r.slot, r.old, r.new] ++ r.slots ++ r.more ++ r.imgs.map (·.1) ++ prs r.pages ++ prs r.txns := rfl
  have h9 : ([r.lsn, r.prev, r.next, r.redo, r.xid, r.page, r.slot, r.old, r.new] : List Int).length = 9 := rfl
  rw [hL]
  replace ho2 : (w1.alloc (.cells ([r.lsn, r.prev, r.next, r.redo, r.xid, r.page, r.slot, r.old, r.new].map iv).toArray 3)).ownsRow w1.heap.size 3 1 (.slice (some ⟨w1.heap.size, 0, none⟩) 9 9) ([r.lsn, r.prev, r.next, r.redo, r.xid, r.page, r.slot, r.old, r.new] : List Int).length ([r.lsn, r.prev, r.next, r.redo, r.xid, r.page, r.slot, r.old, r.new].map iv) := ho2
  generalize w1.alloc (.cells ([r.lsn, r.prev, r.next, r.redo, r.xid, r.page, r.slot, r.old, r.new].map iv).toArray 3) = w2 at hf2 ho2
  generalize ([r.lsn, r.prev, r.next, r.redo, r.xid, r.page, r.slot, r.old, r.new] : List Int) = L9 at ho2 h9
  have hf3 := Fm.drew (fun _ => False) w2
  have hR2 := hR1.keep hf2 (fun e => e)
  have hR3 := hR2.keep hf3 (fun e => e)
  refine ⟨fun w' => w'.cell? ⟨x1, 12, none⟩ = some vm, hR3.c12, ?_⟩
  simp only [RS0, RS1, RS2, RS3, RS4, RS5, hR2.c11, hR3.c11, true_and]
  refine ⟨vm, fun w9 h9 => ?_, ?_⟩
  · simp only [RS0, RS1, RS2, RS3, RS4, RS5, h9]; trivial
  have ho3 := own_keep ho2 hf3 (fun _ _ _ _ e => e)
  have hF3 := Fmf hf2 hf3
  generalize w2.drew = w3 at hf3 hR3 ho3 hF3
  have hz3 := hF3.size
  obtain ⟨v4, w4, hr4, ho4, hf4⟩ := row_src ho3 (hs.keep (Fmf hf1 hF3) (fun _ _ e => e)) (by omega) hz3
  have hx1lt := hR1.lt
  have hF4 : Fm (fun _ => False) w1 w4 := Fm.own hF3 hf4 (fun y e => e)
  have hR4 := hR1.keep hF4 (fun e => e)
  have hz4 := hF4.size
  refine RunS_ok hr4 ⟨hR4.c12, ?_⟩
  obtain ⟨v5, w5, hr5, ho5, hf5⟩ := row_src ho4 (hm.keep (Fmf hf1 hF4) (fun _ _ e => e)) (by rw [List.length_append]; omega) hz4
  have hF5 : Fm (fun _ => False) w1 w5 := Fm.own hF4 hf5 (fun y e => e)
  have hR5 := hR1.keep hF5 (fun e => e)
  have hz5 := hF5.size
  refine RunS_ok hr5 ?_
  have hi5 := hi.keep (Fmf hf1 hF5)
  have hl5 : (L9 ++ r.slots ++ r.more).length ≤ 2000009 := by simp only [List.length_append]; omega
  generalize L9 ++ r.slots ++ r.more = L5 at ho5 hl5
  simp only [RS0, RS1, RS2, RS3, RS4, RS5, hR5.c13, hi5.lenV]
  refine ⟨fun vs w' => ∃ (i : Nat) (lv : Value), vs = [lv, iv i] ∧ i ≤ r.imgs.length ∧ w'.ownsRow w1.heap.size 3 1 lv (L5 ++ (r.imgs.take i).map (·.1)).length ((L5 ++ (r.imgs.take i).map (·.1)).map iv) ∧ Fm (fun _ => False) w1 w', fun vs _ => (r.imgs.length - nth vs 1).toNat, ⟨0, v5, rfl, by omega, by simpa using ho5, hF5⟩, ?_⟩
  rintro _ w6 lv iv6 ⟨i, lv', hvs, hile, ho6, hF6⟩
  cases hvs
  have hz6 := hF6.size
  have hti : ((r.imgs.take i).map (·.1)).length = i := by rw [List.length_map, List.length_take]; omega
  by_cases hlt : i < r.imgs.length
  · have hx : r.imgs[i]? = some r.imgs[i] := List.getElem?_eq_getElem hlt
    generalize r.imgs[i] = m at hx
    obtain ⟨ad, u, hix, hcv, hone, hpg⟩ := (hi.keep (Fmf hf1 hF6)).ld hx
    have d1 : decide ((i : Int) < (r.imgs.length : Int)) = true := by rw [decide_eq_true_eq]; omega
    have e1 : IntKind.i64.wrap ((i : Int) + 1) = ((i + 1 : Nat) : Int) := by rw [wrap_id] <;> omega
    simp only [RS0, RS1, RS2, RS3, RS4, RS5, d1, hix, hcv]
    refine New_any ?_
    intro x7 w7 hx7 hs7 hw7 hf7
    refine St_all hw7 rfl (imC_len _) (by intro q hq; simp [imC, pcs] at hq; rcases hq with rfl | rfl | rfl | rfl | rfl | rfl | rfl <;> first | rfl | exact hone) ?_
    intro w8 hw8 hs8 hf8
    have hf68 : Fm (fun _ => False) w6 w8 := Fm.own hf7 hf8 (by rintro y rfl; omega)
    have ho8 := own_keep ho6 hf68 (fun _ _ _ _ e => e)
    have c8 : w8.cell? ⟨x7, 0, none⟩ = some (iv m.1) := by rw [cell_at hw8]; rfl
    have hF8 := Fmf hF6 hf68
    have hz8 := hF8.size
    simp only [RS0, RS1, RS2, RS3, RS4, RS5, c8]
    refine row_lit ho8 (bs47_1 _ _) rfl (by rw [List.length_append, hti]; omega) hz8 ?_
    intro v9 w9 ho9 hf9
    simp only [RS0, RS1, RS2, RS3, RS4, RS5, e1]
    refine ⟨⟨i + 1, v9, rfl, by omega, ?_, Fm.own hF8 hf9 (fun y e => e)⟩, by simp only [nth_1]; omega⟩
    have e2 : L5 ++ (r.imgs.take (i + 1)).map (·.1) = L5 ++ (r.imgs.take i).map (·.1) ++ [m.1] := by rw [List.take_add_one, hx]; simp
    rw [e2]; exact ho9
  · have hie : i = r.imgs.length := by omega
    subst hie
    have d1 : decide (((r.imgs.length : Nat) : Int) < (r.imgs.length : Int)) = false := by simp
    rw [List.take_length] at ho6
    have hl6 : (L5 ++ r.imgs.map (·.1)).length ≤ 4000009 := by rw [List.length_append, List.length_map]; omega
    generalize L5 ++ r.imgs.map (·.1) = L6 at ho6 hl6
    have hR6 := hR1.keep hF6 (fun e => e)
    have hp6 := hp.keep (Fmf hf1 hF6) (fun _ _ e => e)
    simp only [RS0, RS1, RS2, RS3, RS4, RS5, d1, hR6.c14, hp6.lenV]
    refine ⟨fun vs w' => ∃ (i : Nat) (lv : Value), vs = [lv, iv i] ∧ i ≤ r.pages.length ∧ w'.ownsRow w1.heap.size 3 1 lv (L6 ++ prs (r.pages.take i)).length ((L6 ++ prs (r.pages.take i)).map iv) ∧ Fm (fun _ => False) w1 w', fun vs _ => (r.pages.length - nth vs 1).toNat, ⟨0, lv, rfl, by omega, by simpa [prs] using ho6, hF6⟩, ?_⟩
    rintro _ w7 lv iv7 ⟨i, lv', hvs, hile, ho7, hF7⟩
    cases hvs
    have hz7 := hF7.size
    have hti : (prs (r.pages.take i)).length = i * 2 := by
      have := congrArg List.length (pc2_prs (r.pages.take i))
      rw [List.length_map, flat_len pc2_len, List.length_take, Nat.min_eq_left hile] at this
      omega
    by_cases hlt : i < r.pages.length
    · have hx : r.pages[i]? = some r.pages[i] := List.getElem?_eq_getElem hlt
      generalize r.pages[i] = m at hx
      obtain ⟨ad, hix, hcv, _⟩ := cells_ld pc2_len (by omega) (hp.keep (Fmf hf1 hF7) (fun _ _ e => e)) hx
      have d1 : decide ((i : Int) < (r.pages.length : Int)) = true := by rw [decide_eq_true_eq]; omega
      have e1 : IntKind.i64.wrap ((i : Int) + 1) = ((i + 1 : Nat) : Int) := by rw [wrap_id] <;> omega
      simp only [RS0, RS1, RS2, RS3, RS4, RS5, d1, hix, hcv]
      refine New_any ?_
      intro x8 w8 hx8 hs8 hw8 hf8
      refine St_all hw8 rfl (pc2_len _) (by intro q hq; simp [pc2] at hq; rcases hq with rfl | rfl <;> rfl) ?_
      intro w9 hw9 hs9 hf9
      have hf79 : Fm (fun _ => False) w7 w9 := Fm.own hf8 hf9 (by rintro y rfl; omega)
      have ho9 := own_keep ho7 hf79 (fun _ _ _ _ e => e)
      have c0 : w9.cell? ⟨x8, 0, none⟩ = some (iv m.1) := by rw [cell_at hw9]; rfl
      have c1 : w9.cell? ⟨x8, 1, none⟩ = some (iv m.2) := by rw [cell_at hw9]; rfl
      have hF9 := Fmf hF7 hf79
      have hz9 := hF9.size
      simp only [RS0, RS1, RS2, RS3, RS4, RS5, c0, c1]
      refine row_lit ho9 (bs47_2 _ _ _) rfl (by rw [List.length_append, hti]; omega) hz9 ?_
      intro v10 w10 ho10 hf10
      simp only [RS0, RS1, RS2, RS3, RS4, RS5, e1]
      refine ⟨⟨i + 1, v10, rfl, by omega, ?_, Fm.own hF9 hf10 (fun y e => e)⟩, by simp only [nth_1]; omega⟩
      have e2 : L6 ++ prs (r.pages.take (i + 1)) = L6 ++ prs (r.pages.take i) ++ [m.1, m.2] := by rw [List.take_add_one, hx]; simp [prs]
      rw [e2]; exact ho10
    · have hie : i = r.pages.length := by omega
      subst hie
      have d1 : decide (((r.pages.length : Nat) : Int) < (r.pages.length : Int)) = false := by simp
      rw [List.take_length] at ho7 hti
      have hl7 : (L6 ++ prs r.pages).length ≤ 8000009 := by rw [List.length_append, hti]; omega
      generalize L6 ++ prs r.pages = L7 at ho7 hl7
      have hR7 := hR1.keep hF7 (fun e => e)
      have ht7 := ht.keep (Fmf hf1 hF7) (fun _ _ e => e)
      simp only [RS0, RS1, RS2, RS3, RS4, RS5, d1, hR7.c15, ht7.lenV]
      refine ⟨fun vs w' => ∃ (i : Nat) (lv : Value), vs = [lv, iv i] ∧ i ≤ r.txns.length ∧ w'.ownsRow w1.heap.size 3 1 lv (L7 ++ prs (r.txns.take i)).length ((L7 ++ prs (r.txns.take i)).map iv) ∧ Fm (fun _ => False) w1 w', fun vs _ => (r.txns.length - nth vs 1).toNat, ⟨0, lv, rfl, by omega, by simpa [prs] using ho7, hF7⟩, ?_⟩
      rintro _ w8 lv iv8 ⟨i, lv', hvs, hile, ho8, hF8⟩
      cases hvs
      have hz8 := hF8.size
      have hti : (prs (r.txns.take i)).length = i * 2 := by
        have := congrArg List.length (pc2_prs (r.txns.take i))
        rw [List.length_map, flat_len pc2_len, List.length_take, Nat.min_eq_left hile] at this
        omega
      by_cases hlt : i < r.txns.length
      · have hx : r.txns[i]? = some r.txns[i] := List.getElem?_eq_getElem hlt
        generalize r.txns[i] = m at hx
        obtain ⟨ad, hix, hcv, _⟩ := cells_ld pc2_len (by omega) (ht.keep (Fmf hf1 hF8) (fun _ _ e => e)) hx
        have d1 : decide ((i : Int) < (r.txns.length : Int)) = true := by rw [decide_eq_true_eq]; omega
        have e1 : IntKind.i64.wrap ((i : Int) + 1) = ((i + 1 : Nat) : Int) := by rw [wrap_id] <;> omega
        simp only [RS0, RS1, RS2, RS3, RS4, RS5, d1, hix, hcv]
        refine New_any ?_
        intro x9 w9 hx9 hs9 hw9 hf9
        refine St_all hw9 rfl (pc2_len _) (by intro q hq; simp [pc2] at hq; rcases hq with rfl | rfl <;> rfl) ?_
        intro w10 hw10 hs10 hf10
        have hf810 : Fm (fun _ => False) w8 w10 := Fm.own hf9 hf10 (by rintro y rfl; omega)
        have ho10 := own_keep ho8 hf810 (fun _ _ _ _ e => e)
        have c0 : w10.cell? ⟨x9, 0, none⟩ = some (iv m.1) := by rw [cell_at hw10]; rfl
        have c1 : w10.cell? ⟨x9, 1, none⟩ = some (iv m.2) := by rw [cell_at hw10]; rfl
        have hF10 := Fmf hF8 hf810
        have hz10 := hF10.size
        simp only [RS0, RS1, RS2, RS3, RS4, RS5, c0, c1]
        refine row_lit ho10 (bs47_2 _ _ _) rfl (by rw [List.length_append, hti]; omega) hz10 ?_
        intro v11 w11 ho11 hf11
        simp only [RS0, RS1, RS2, RS3, RS4, RS5, e1]
        refine ⟨⟨i + 1, v11, rfl, by omega, ?_, Fm.own hF10 hf11 (fun y e => e)⟩, by simp only [nth_1]; omega⟩
        have e2 : L7 ++ prs (r.txns.take (i + 1)) = L7 ++ prs (r.txns.take i) ++ [m.1, m.2] := by rw [List.take_add_one, hx]; simp [prs]
        rw [e2]; exact ho11
      · have hie : i = r.txns.length := by omega
        subst hie
        have d1 : decide (((r.txns.length : Nat) : Int) < (r.txns.length : Int)) = false := by simp
        rw [List.take_length] at ho8
        simp only [RS0, RS1, RS2, RS3, RS4, RS5, d1]
        exact ⟨own_base ho8 (by omega), Fmf hf1 hF8⟩

/-! ### Is any beyond bounds? -/
theorem bad_spec (w : World) (n : Int) : Cl Tryz.prog 157 [iv n] w fun v w' => v = .bool (badN n) ∧ w' = w := by
  refine c157 ?_; unfold T157
  unfold badN
  simp only [RS0, RS1, RS2, RS3, RS4, RS5]
  cases h1 : decide (n < 0) with
  | true =>
    simp only [RS0, RS1, RS2, RS3, RS4, RS5, Bool.true_or]
    exact ⟨(by trivial), (by trivial)⟩
  | false =>
    simp only [RS0, RS1, RS2, RS3, RS4, RS5, Bool.false_or]
    exact ⟨(by trivial), (by trivial)⟩
theorem contains_spec {w : World} {v : Value} {L : List Int} (h : CellsAt w v L.length 1 (L.map iv)) : Cl Tryz.prog 155 [v, .func (.func 157) #[] #[]] w fun u w' => u = .bool (L.any badN) ∧ w' = w := by
  have hlt := h.lt
  unfold maxLen at hlt
  have key : Cl Tryz.prog 198 [v, .func (.func 157) #[] #[]] w fun u w' => ∃ i : Int, u = iv i ∧ decide (0 ≤ i) = L.any badN ∧ w' = w := by
    refine c198 ?_; unfold T198
    simp only [RS0, RS1, RS2, RS3, RS4, RS5, h.lenV]
    refine ⟨fun vs w2 => ∃ i : Nat, vs = [iv i] ∧ i ≤ L.length ∧ (L.take i).any badN = false ∧ w2 = w, fun vs _ => (L.length - nth vs 0).toNat, ⟨0, rfl, by omega, rfl, rfl⟩, ?_⟩
    rintro _ w2 ivv ⟨i, hvs, hi, hno, rfl⟩
    cases hvs
    by_cases hl : i < L.length
    · have e1 : decide ((i : Int) < (L.length : Int)) = true := by rw [decide_eq_true_eq]; omega
      have e2 : IntKind.i64.wrap ((i : Int) + 1) = ((i + 1 : Nat) : Int) := by rw [wrap_id] <;> omega
      have hx : L[i]? = some L[i] := List.getElem?_eq_getElem hl
      generalize L[i] = n at hx
      obtain ⟨ad, hix, _, hc⟩ := h.at1 (i := i) (x := iv n) (by rw [List.getElem?_map, hx]; rfl) .i64
      simp only [RS0, RS1, RS2, RS3, RS4, RS5, e1, hix, hc]
      refine ClV_func (by kernel_rfl) ?_
      refine (bad_spec w2 n).mono ?_
      rintro _ w3 ⟨rfl, rfl⟩
      cases hb : badN n with
      | true =>
        simp only [RS0, RS1, RS2, RS3, RS4, RS5]
        refine ⟨i, (by trivial), ?_, (by trivial)⟩
        rw [decide_eq_true (by omega)]
        exact (List.any_eq_true.2 ⟨n, List.mem_of_getElem? hx, hb⟩).symm
      | false =>
        simp only [RS0, RS1, RS2, RS3, RS4, RS5, e2]
        refine ⟨⟨i + 1, rfl, by omega, ?_, (by trivial)⟩, by simp only [nth_0]; omega⟩
        rw [List.take_add_one, hx, List.any_append, hno]
        simp [hb]
    · have hie : i = L.length := by omega
      subst hie
      have e1 : decide (((L.length : Nat) : Int) < (L.length : Int)) = false := by simp
      rw [List.take_length] at hno
      simp only [RS0, RS1, RS2, RS3, RS4, RS5, e1]
      exact ⟨-1, (by trivial), by rw [hno]; rfl, (by trivial)⟩
  refine c155 ?_; unfold T155
  refine key.mono ?_
  rintro _ w2 ⟨i, rfl, hi, rfl⟩
  simp only [RS0, RS1, RS2, RS3, RS4, RS5, hi]
  exact ⟨(by trivial), (by trivial)⟩

/-! ### The noughts at the end -/
theorem trimZ_last {t : Bs} {b : UInt8} (h : t[t.length - 1]? = some b) : trimZ t = bif decide (b = 0) then trimZ (t.take (t.length - 1)) else t := by
  have hl := (List.getElem?_eq_some_iff.1 h).1
  have ht : t = t.take (t.length - 1) ++ [b] := by
    have := List.take_append_drop (t.length - 1) t
    rw [List.drop_eq_getElem_cons hl, (List.getElem?_eq_some_iff.1 h).2, show t.length - 1 + 1 = t.length by omega, List.drop_length] at this
    exact this.symm
  generalize t.take (t.length - 1) = s at ht
  subst ht
  unfold trimZ
  rw [List.reverse_append, List.reverse_singleton, List.singleton_append, List.dropWhile_cons]
  cases hb : decide (b = 0) with
  | true =>
    rw [decide_eq_true_eq] at hb
    subst hb
    rfl
  | false =>
    rw [decide_eq_false_iff_not] at hb
    rw [if_neg (by simpa using hb)]
    simp
theorem trimr_spec (w : World) (s : Bs) (hs : s.length ≤ 1000000) : Cl Tryz.prog 202 [stv s, stv [0]] w fun v w' => v = stv (trimZ s) ∧ w' = w := by
  refine c202 ?_; unfold T202
  have e0 : decide (([0] : Bs) = []) = false := by decide
  simp only [RS0, RS1, RS2, RS3, RS4, RS5, str_nil, str_inj, e0]
  cases hn : decide (s = []) with
  | true =>
    rw [decide_eq_true_eq] at hn
    subst hn
    simp only [RS0, RS1, RS2, RS3, RS4, RS5]
    exact ⟨(by trivial), (by trivial)⟩
  | false =>
  have e1 : lenS (stv [0]) = some (iv 1) := rfl
  have e2 : ixS (stv [0]) (Value.int .i64 0) = some (.int .u8 0) := rfl
  have e3 : decide ((0 : Int) < 128) = true := by decide
  have e4 : (((str ([0] : Bs)).size : Int) == 1) = true := rfl
  have e5 : decide (str ([0] : Bs) = str []) = false := by rw [decide_eq_false_iff_not, str_inj]; decide
  simp only [RS0, RS1, RS2, RS3, RS4, RS5, e1, e2, e3, e4, e5]
  refine c182 ?_; unfold T182
  refine ⟨fun vs w2 => ∃ t : Bs, vs = [stv t] ∧ t.length ≤ s.length ∧ trimZ t = trimZ s ∧ w2 = w, fun vs _ => match vs with
    | [.string b] => b.size
    | _ => 0, ⟨s, rfl, Nat.le_refl _, rfl, rfl⟩, ?_⟩
  rintro _ w2 tv ⟨t, hvs, hl, htr, rfl⟩
  cases hvs
  simp only [RS0, RS1, RS2, RS3, RS4, RS5, str_size]
  by_cases h0 : 0 < t.length
  · have d1 : decide ((0 : Int) < (t.length : Int)) = true := by rw [decide_eq_true_eq]; omega
    have e5 : IntKind.i64.wrap ((t.length : Int) - 1) = ((t.length - 1 : Nat) : Int) := by rw [wrap_id] <;> omega
    have hx : t[t.length - 1]? = some t[t.length - 1] := List.getElem?_eq_getElem (by omega)
    generalize t[t.length - 1] = b at hx
    have hlast := trimZ_last hx
    have e6 := ixS_str hx .i64
    have e7 : ((b.toNat : Int) == 0) = decide (b = 0) := by
      rw [beq_dec, decide_eq_decide]
      constructor
      · intro e
        exact UInt8.toNat_inj.1 (by simpa using (show b.toNat = 0 by omega))
      · rintro rfl; rfl
    have e8 := slS_hi (l := t) (i := t.length - 1) (by omega) .i64
    simp only [RS0, RS1, RS2, RS3, RS4, RS5, d1, str_size, e5, e6, e7]
    cases hb : decide (b = 0) with
    | true =>
      rw [hb, cond_true] at hlast
      simp only [RS0, RS1, RS2, RS3, RS4, RS5, str_size, e5, e8]
      refine ⟨⟨t.take (t.length - 1), rfl, by rw [List.length_take]; omega, by rw [← hlast]; exact htr, (by trivial)⟩, ?_⟩
      simp only [str_size, List.length_take]; omega
    | false =>
      rw [hb, cond_false] at hlast
      simp only [RS0, RS1, RS2, RS3, RS4, RS5]
      exact ⟨by rw [← htr, hlast], (by trivial)⟩
  · have ht0 : t = [] := List.eq_nil_of_length_eq_zero (by omega)
    subst ht0
    have d1 : decide ((0 : Int) < (([] : Bs).length : Int)) = false := by decide
    simp only [RS0, RS1, RS2, RS3, RS4, RS5, d1]
    exact ⟨by rw [← htr]; rfl, (by trivial)⟩

end Go.Proofs.YthbngnlmgplijaaGreatDoor

namespace Go.Proofs.YthbngnlmgplijaaGreatDoor
open Go.Al Go.Proofs
set_option linter.unusedVariables false
set_option linter.unusedSimpArgs false
set_option linter.unusedSectionVars false
set_option maxRecDepth 100000

theorem bld147 (a1 a2 : Option Addr) (n1 c1 n2 c2 : Nat) (w : World) : (Instr.build 227 #[(0, .slice a1 n1 c1), (1, .slice a2 n2 c2)]).run Tryz.prog w = .ok (.agg #[.slice a1 n1 c1, .slice a2 n2 c2]) w := by kernel_rfl
theorem im_body {w : World} {x : Nat} {m : Int} {p : Pg} {u : Value} (h : w.heap[x]? = some (.cells (imC (m, p, u)).toArray 118)) : cellsV w ⟨x, 1, none⟩ 6 = some (.agg (pcs p u)) := by
  refine cellsV_of (l := (pcs p u).toList) rfl (fun j hj => ?_)
  have : j = 0 ∨ j = 1 ∨ j = 2 ∨ j = 3 ∨ j = 4 ∨ j = 5 := by omega
  rcases this with rfl | rfl | rfl | rfl | rfl | rfl <;> (rw [add_none, cell_at h]; rfl)
theorem numsB_app (a b : List Int) : numsB (a ++ b) = numsB a ++ numsB b := by simp [numsB]
theorem numsB2 (a b : Int) : numsB [a, b] = prB (a, b) := by simp [numsB, prB]
theorem prB_len {p : Int × Int} (h1 : p.1 ≤ 9223372036854775807) (h2 : p.2 ≤ 9223372036854775807) : (prB p).length ≤ 18 := by
  have := encI_len h1
  have := encI_len h2
  unfold prB
  rw [List.length_append]; omega
set_option maxHeartbeats 16000000 in
theorem inner_spec {w : World} {cs : Array Value} {r : Rc} (h : RcAs w cs r) (hlong : longR r = false) : Cl Tryz.prog 158 [.agg cs] w fun v w' => v = .tuple #[stv (rInner r).1, iv (rInner r).2] ∧ Fm (fun _ => False) w w' := by
  obtain ⟨vs, vm, vi, vp, vt, hcs, _, hs, hm, hi, hp, ht⟩ := h.ex
  simp only [longR, Bool.or_eq_false_iff, decide_eq_false_iff_not] at hlong
  obtain ⟨⟨⟨⟨⟨l1, l2⟩, l3⟩, l4⟩, l5⟩, l6⟩ := hlong
  have hins := h.ins
  have hk8 := h.kin
  have n9 : ∀ n ∈ [r.lsn, r.prev, r.next, r.redo, r.xid, r.page, r.slot, r.old, r.new], In n := fun n hn => hins n (by unfold rNums; simp only [List.mem_append]; exact .inl (.inl (.inl (.inl (.inl hn)))))
  have nsl : ∀ n ∈ r.slots, n ≤ 9223372036854775807 := fun n hn => (hins n (by unfold rNums; simp only [List.mem_append]; exact .inl (.inl (.inl (.inl (.inr hn)))))).2
  have nmo : ∀ n ∈ r.more, n ≤ 9223372036854775807 := fun n hn => (hins n (by unfold rNums; simp only [List.mem_append]; exact .inl (.inl (.inl (.inr hn))))).2
  have nim : ∀ m ∈ r.imgs, m.1 ≤ 9223372036854775807 := fun m hm => (hins m.1 (by unfold rNums; simp only [List.mem_append]; exact .inl (.inl (.inr (List.mem_map.2 ⟨m, hm, rfl⟩))))).2
  have npg : ∀ m ∈ r.pages, m.1 ≤ 9223372036854775807 ∧ m.2 ≤ 9223372036854775807 := fun m hm => ⟨(hins m.1 (by unfold rNums; simp only [List.mem_append]; exact .inl (.inr (mem_prs hm).1))).2, (hins m.2 (by unfold rNums; simp only [List.mem_append]; exact .inl (.inr (mem_prs hm).2))).2⟩
  have ntx : ∀ m ∈ r.txns, m.1 ≤ 9223372036854775807 ∧ m.2 ≤ 9223372036854775807 := fun m hm => ⟨(hins m.1 (by unfold rNums; simp only [List.mem_append]; exact .inr (mem_prs hm).1)).2, (hins m.2 (by unfold rNums; simp only [List.mem_append]; exact .inr (mem_prs hm).2)).2⟩
  have nhd : ∀ n ∈ headL r, n ≤ 9223372036854775807 := fun n hn => by
    unfold headL at hn
    simp only [List.mem_cons, List.not_mem_nil, or_false] at hn
    rcases hn with rfl | rfl | rfl | rfl | rfl | rfl | rfl | rfl | rfl | rfl <;> first | omega | exact (n9 _ (by simp)).2
  refine c158 ?_; unfold T158
  refine New_any ?_
  intro x1 w1 hx1 hs1 hw1 hf1
  have hR1 : RB w1 x1 r vs vm vi vp vt := ⟨by rw [← hcs]; exact hw1⟩
  have hlt1 := hR1.lt
  -- whatever the writer turns, the record's lists stay
  have kS : ∀ {w'}, Fm (fun _ => False) w1 w' → CellsAt w' vs r.slots.length 1 (r.slots.map iv) := fun hf => hs.keep (Fmf hf1 hf) (fun _ _ e => e)
  have kM : ∀ {w'}, Fm (fun _ => False) w1 w' → CellsAt w' vm r.more.length 1 (r.more.map iv) := fun hf => hm.keep (Fmf hf1 hf) (fun _ _ e => e)
  have kI : ∀ {w'}, Fm (fun _ => False) w1 w' → ImAs w' vi r.imgs := fun hf => hi.keep (Fmf hf1 hf)
  have kP : ∀ {w'}, Fm (fun _ => False) w1 w' → CellsAt w' vp r.pages.length 2 (r.pages.flatMap pc2) := fun hf => hp.keep (Fmf hf1 hf) (fun _ _ e => e)
  have kT : ∀ {w'}, Fm (fun _ => False) w1 w' → CellsAt w' vt r.txns.length 2 (r.txns.flatMap pc2) := fun hf => ht.keep (Fmf hf1 hf) (fun _ _ e => e)
  have kR : ∀ {w'}, Fm (fun _ => False) w1 w' → RB w' x1 r vs vm vi vp vt := fun hf => hR1.keep hf (fun e => e)
  have blt : ∀ {v : Value} {ns : List Int}, CellsAt w v ns.length 1 (ns.map iv) → ns ≠ [] → ∀ g, blockOf v = some g → g < w1.heap.size := fun hc hne g hg => by
    have := hc.blt (by simpa using hne) g hg
    omega
  refine WS.new (Fm.refl _ w1) ?_
  intro w2 rw h2 hf2
  have hR2 := kR hf2
  have ek : IntKind.i64.wrap r.kind = r.kind := by rw [wrap_id]; omega
  have ekc : cvI .i64 (.int .u8 r.kind) = some (iv r.kind) := by
    show some (Value.int .i64 (IntKind.i64.wrap r.kind)) = _
    rw [ek]
  simp only [RS0, RS1, RS2, RS3, RS4, RS5, hR2.c0, hR2.c1, hR2.c2, hR2.c3, hR2.c4, hR2.c5, hR2.c6, hR2.c7, hR2.c8, hR2.c9, ekc]
  refine h2.lit (bs47_10 _ _ _ _ _ _ _ _ _ _ _) rfl (fun n hn => nhd n hn) (by simp) ?_
  intro u3 w3 h3
  replace h3 : WS w1 w3 rw (numsB (headL r)) := by have := h3; rw [List.nil_append] at this; exact this
  have hl3 : (numsB (headL r)).length ≤ 90 := by have := numsB_len nhd; exact this
  have hR3 := kR h3.fm
  simp only [RS0, RS1, RS2, RS3, RS4, RS5, hR3.c10]
  refine h3.text (by omega) (by omega) ?_
  intro u4 w4 h4
  have hR4 := kR h4.fm
  have hl4 : (numsB (headL r) ++ txtB r.data).length ≤ 700 := by
    have := encI_len (n := r.data.length) (by omega)
    rw [List.length_append]; unfold txtB; rw [List.length_append]; omega
  simp only [RS0, RS1, RS2, RS3, RS4, RS5, hR4.c11, hR4.c12]
  have hsv : ∃ a c, vs = .slice a r.slots.length c := by obtain ⟨⟨a, c, e, _⟩, _⟩ := hs; exact ⟨a, c, e⟩
  have hmv : ∃ a c, vm = .slice a r.more.length c := by obtain ⟨⟨a, c, e, _⟩, _⟩ := hm; exact ⟨a, c, e⟩
  have hbld : (Instr.build 227 #[(0, vs), (1, vm)]).run Tryz.prog w4 = .ok (.agg #[vs, vm]) w4 := by
    obtain ⟨a, c, rfl⟩ := hsv
    obtain ⟨a', c', rfl⟩ := hmv
    exact bld147 _ _ _ _ _ _ _
  refine RunS_ok hbld ?_
  generalize hB4 : numsB (headL r) ++ txtB r.data = B4 at h4 hl4
  refine ⟨fun vl w' => (vl = [iv 0] ∧ WS w1 w' rw B4) ∨ (vl = [iv 1] ∧ WS w1 w' rw (B4 ++ listB r.slots)) ∨ (vl = [iv 2] ∧ WS w1 w' rw (B4 ++ listB r.slots ++ listB r.more)), fun vl _ => (2 - nth vl 0).toNat, .inl ⟨rfl, h4⟩, ?_⟩
  have hls : (listB r.slots).length ≤ 2400 := by
    have := numsB_len nsl
    have := encI_len (n := r.slots.length) (by omega)
    unfold listB; rw [List.length_append]; omega
  have hlm : (listB r.more).length ≤ 2400 := by
    have := numsB_len nmo
    have := encI_len (n := r.more.length) (by omega)
    unfold listB; rw [List.length_append]; omega
  rintro _ w5 iv5 (⟨hvl, h5⟩ | ⟨hvl, h5⟩ | ⟨hvl, h5⟩)
  · cases hvl
    have d1 : decide ((0 : Int) < 2) = true := by decide
    have e1 : ixG false 2 1 (.agg #[vs, vm]) (iv 0) = some vs := rfl
    have e2 : IntKind.i64.wrap (0 + 1) = 1 := rfl
    simp only [RS0, RS1, RS2, RS3, RS4, RS5, d1, e1, (kS h5.fm).lenV]
    refine h5.lit (bs47_1 _ _) rfl (by intro n hn; simp at hn; omega) (by omega) ?_
    intro u6 w6 h6
    rw [numsB1] at h6
    have := encI_len (n := r.slots.length) (by omega)
    refine h6.num (kS h6.fm) (blt hs) nsl (by rw [List.length_append]; omega) ?_
    intro u7 w7 h7
    simp only [RS0, RS1, RS2, RS3, RS4, RS5, e2]
    exact ⟨.inr (.inl ⟨(by trivial), by have := h7; rw [List.append_assoc] at this; exact this⟩), by simp [nth, iv]⟩
  · cases hvl
    have d1 : decide ((1 : Int) < 2) = true := by decide
    have e1 : ixG false 2 1 (.agg #[vs, vm]) (iv 1) = some vm := rfl
    have e2 : IntKind.i64.wrap (1 + 1) = 2 := rfl
    simp only [RS0, RS1, RS2, RS3, RS4, RS5, d1, e1, (kM h5.fm).lenV]
    refine h5.lit (bs47_1 _ _) rfl (by intro n hn; simp at hn; omega) (by rw [List.length_append]; omega) ?_
    intro u6 w6 h6
    rw [numsB1] at h6
    have := encI_len (n := r.more.length) (by omega)
    refine h6.num (kM h6.fm) (blt hm) nmo (by simp only [List.length_append]; omega) ?_
    intro u7 w7 h7
    simp only [RS0, RS1, RS2, RS3, RS4, RS5, e2]
    exact ⟨.inr (.inr ⟨(by trivial), by have := h7; rw [List.append_assoc (B4 ++ listB r.slots)] at this; exact this⟩), by simp [nth, iv]⟩
  · cases hvl
    have d1 : decide ((2 : Int) < 2) = false := by decide
    have hR5 := kR h5.fm
    have hl5 : (B4 ++ listB r.slots ++ listB r.more).length ≤ 6000 := by simp only [List.length_append]; omega
    generalize hB5 : B4 ++ listB r.slots ++ listB r.more = B5 at h5 hl5
    simp only [RS0, RS1, RS2, RS3, RS4, RS5, d1, hR5.c13, (kI h5.fm).lenV]
    refine h5.lit (bs47_1 _ _) rfl (by intro n hn; simp at hn; omega) (by omega) ?_
    intro u6 w6 h6
    rw [numsB1] at h6
    have hR6 := kR h6.fm
    have hl6 : (B5 ++ encI (r.imgs.length : Int)).length ≤ 6010 := by
      have := encI_len (n := r.imgs.length) (by omega)
      rw [List.length_append]; omega
    generalize hB6 : B5 ++ encI (r.imgs.length : Int) = B6 at h6 hl6
    simp only [RS0, RS1, RS2, RS3, RS4, RS5, hR6.c13, (kI h6.fm).lenV]
    refine ⟨fun vl w' => ∃ i : Nat, vl = [iv i] ∧ i ≤ r.imgs.length ∧ WS w1 w' rw (B6 ++ (r.imgs.take i).flatMap imgB) ∧ (B6 ++ (r.imgs.take i).flatMap imgB).length ≤ 6010 + 600 * i ∧ imgErr r.imgs = imgErr (r.imgs.drop i), fun vl _ => (r.imgs.length - nth vl 0).toNat, ⟨0, rfl, by omega, by simpa using h6, by simpa using hl6, rfl⟩, ?_⟩
    rintro _ w7 iv7 ⟨i, hvl, hile, h7, hl7, hie⟩
    cases hvl
    by_cases hlt : i < r.imgs.length
    · have hx : r.imgs[i]? = some r.imgs[i] := List.getElem?_eq_getElem hlt
      have hdr := List.drop_eq_getElem_cons hlt
      generalize r.imgs[i] = m at hx hdr
      rw [hdr] at hie
      have hmm := List.mem_of_getElem? hx
      obtain ⟨ad, u, hix, hcv, hone, hpg⟩ := (kI h7.fm).ld hx
      have d2 : decide ((i : Int) < (r.imgs.length : Int)) = true := by rw [decide_eq_true_eq]; omega
      have e1 : IntKind.i64.wrap ((i : Int) + 1) = ((i + 1 : Nat) : Int) := by rw [wrap_id] <;> omega
      simp only [RS0, RS1, RS2, RS3, RS4, RS5, d2, hix, hcv]
      refine New_any ?_
      intro x8 w8 hx8 hs8 hw8 hf8
      refine St_all hw8 rfl (imC_len _) (by intro q hq; simp [imC, pcs] at hq; rcases hq with rfl | rfl | rfl | rfl | rfl | rfl | rfl <;> first | rfl | exact hone) ?_
      intro w9 hw9 hs9 hf9
      have hf79 : Fm (fun _ => False) w7 w9 := Fm.own hf8 hf9 (by rintro y rfl; omega)
      have h9 := h7.keep hf79
      simp only [RS0, RS1, RS2, RS3, RS4, RS5, im_body hw9]
      refine (encode_spec (hpg.keep hf79)).mono ?_
      rintro _ w10 ⟨rfl, hf10⟩
      have h10 := h9.keep hf10
      have he : encR m.2 = .tuple #[stv (pEnc m.2).1, iv (pErr m.2)] := by unfold encR; rw [pEnc_err]
      rw [he]
      simp only [RS0, RS1, RS2, RS3, RS4, RS5, bne_dec]
      rw [show imgErr (m :: r.imgs.drop (i + 1)) = bif decide (pErr m.2 = 0) then imgErr (r.imgs.drop (i + 1)) else pErr m.2 from rfl] at hie
      cases hz : decide (pErr m.2 = 0) with
      | false =>
        rw [hz, cond_false] at hie
        have hz' : decide (imgErr r.imgs = 0) = false := by rw [hie]; exact hz
        simp only [RS0, RS1, RS2, RS3, RS4, RS5]
        refine ⟨?_, Fmf hf1 h10.fm⟩
        unfold rInner
        rw [hz', cond_false, hie]
        rfl
      | true =>
        rw [hz, cond_true] at hie
        have h0 : pErr m.2 = 0 := by simpa using hz
        have c10 : w10.cell? ⟨x8, 0, none⟩ = some (iv m.1) := by rw [cell_at (hf10.heap hw9 (fun e => e))]; rfl
        simp only [RS0, RS1, RS2, RS3, RS4, RS5, c10]
        refine h10.lit (bs47_1 _ _) rfl (by intro n hn; simp at hn; subst hn; exact nim m hmm) (by omega) ?_
        intro u11 w11 h11
        rw [numsB1] at h11
        have hel := encI_len (nim m hmm)
        have hlen := pEnc_len h0
        obtain ⟨_, htl⟩ := trim_pad hlen
        refine (trimr_spec w11 (pEnc m.2).1 (by omega)).mono ?_
        rintro _ w12 ⟨rfl, rfl⟩
        refine h11.text (by omega) (by rw [List.length_append]; omega) ?_
        intro u13 w13 h13
        simp only [RS0, RS1, RS2, RS3, RS4, RS5, e1]
        have e2 : B6 ++ (r.imgs.take (i + 1)).flatMap imgB = B6 ++ (r.imgs.take i).flatMap imgB ++ encI m.1 ++ txtB (trimZ (pEnc m.2).1) := by rw [List.take_add_one, hx]; simp [imgB]
        refine ⟨⟨i + 1, rfl, by omega, by rw [e2]; exact h13, ?_, hie⟩, by simp only [nth_0]; omega⟩
        rw [e2]
        have := encI_len (n := (trimZ (pEnc m.2).1).length) (by omega)
        simp only [List.length_append] at hl7 ⊢
        unfold txtB
        rw [List.length_append]
        omega
    · have hie2 : i = r.imgs.length := by omega
      subst hie2
      rw [List.drop_length] at hie
      have d2 : decide (((r.imgs.length : Nat) : Int) < (r.imgs.length : Int)) = false := by simp
      rw [List.take_length] at h7 hl7
      have hl7' : (B6 ++ r.imgs.flatMap imgB).length ≤ 9000 := by omega
      generalize hB7 : B6 ++ r.imgs.flatMap imgB = B7 at h7 hl7'
      have hR7 := kR h7.fm
      simp only [RS0, RS1, RS2, RS3, RS4, RS5, d2, hR7.c14, (kP h7.fm).lenV]
      refine h7.lit (bs47_1 _ _) rfl (by intro n hn; simp at hn; omega) (by omega) ?_
      intro u16 w16 h16
      rw [numsB1] at h16
      have hR16 := kR h16.fm
      have hl16 : (B7 ++ encI (r.pages.length : Int)).length ≤ 9100 := by
        have := encI_len (n := r.pages.length) (by omega)
        rw [List.length_append]; omega
      generalize hB16 : B7 ++ encI (r.pages.length : Int) = B16 at h16 hl16
      simp only [RS0, RS1, RS2, RS3, RS4, RS5, hR16.c14, (kP h16.fm).lenV]
      refine ⟨fun vl w' => ∃ i : Nat, vl = [iv i] ∧ i ≤ r.pages.length ∧ WS w1 w' rw (B16 ++ (r.pages.take i).flatMap prB) ∧ (B16 ++ (r.pages.take i).flatMap prB).length ≤ 9100 + 18 * i, fun vl _ => (r.pages.length - nth vl 0).toNat, ⟨0, rfl, by omega, by simpa using h16, by simpa using hl16⟩, ?_⟩
      rintro _ w17 iv17 ⟨i, hvl, hile, h17, hl17⟩
      cases hvl
      by_cases hlt : i < r.pages.length
      · have hx : r.pages[i]? = some r.pages[i] := List.getElem?_eq_getElem hlt
        generalize r.pages[i] = m at hx
        have hmm := List.mem_of_getElem? hx
        obtain ⟨ad, hix, hcv, _⟩ := cells_ld pc2_len (by omega) (kP h17.fm) hx
        have d2 : decide ((i : Int) < (r.pages.length : Int)) = true := by rw [decide_eq_true_eq]; omega
        have e1 : IntKind.i64.wrap ((i : Int) + 1) = ((i + 1 : Nat) : Int) := by rw [wrap_id] <;> omega
        simp only [RS0, RS1, RS2, RS3, RS4, RS5, d2, hix, hcv]
        refine New_any ?_
        intro x8 w8 hx8 hs8 hw8 hf8
        refine St_all hw8 rfl (pc2_len _) (by intro q hq; simp [pc2] at hq; rcases hq with rfl | rfl <;> rfl) ?_
        intro w9 hw9 hs9 hf9
        have hf79 : Fm (fun _ => False) w17 w9 := Fm.own hf8 hf9 (by rintro y rfl; omega)
        have h9 := h17.keep hf79
        have c0 : w9.cell? ⟨x8, 0, none⟩ = some (iv m.1) := by rw [cell_at hw9]; rfl
        have c1 : w9.cell? ⟨x8, 1, none⟩ = some (iv m.2) := by rw [cell_at hw9]; rfl
        simp only [RS0, RS1, RS2, RS3, RS4, RS5, c0, c1]
        obtain ⟨hm1, hm2⟩ := npg m hmm
        refine h9.lit (bs47_2 _ _ _) rfl (by intro n hn; simp at hn; rcases hn with rfl | rfl <;> assumption) (by omega) ?_
        intro u11 w11 h11
        rw [numsB2] at h11
        simp only [RS0, RS1, RS2, RS3, RS4, RS5, e1]
        have e2 : B16 ++ (r.pages.take (i + 1)).flatMap prB = B16 ++ (r.pages.take i).flatMap prB ++ prB (m.1, m.2) := by rw [List.take_add_one, hx]; simp
        refine ⟨⟨i + 1, rfl, by omega, by rw [e2]; exact h11, ?_⟩, by simp only [nth_0]; omega⟩
        rw [e2]
        have := prB_len (p := (m.1, m.2)) hm1 hm2
        rw [List.length_append]
        omega
      have hie3 : i = r.pages.length := by omega
      subst hie3
      have d17 : decide (((r.pages.length : Nat) : Int) < (r.pages.length : Int)) = false := by simp
      rw [List.take_length] at h17 hl17
      have hl17' : (B16 ++ r.pages.flatMap prB).length ≤ 160000 := by omega
      generalize hB17 : B16 ++ r.pages.flatMap prB = B17 at h17 hl17'
      have hR17 := kR h17.fm
      simp only [RS0, RS1, RS2, RS3, RS4, RS5, d17, hR17.c15, (kT h17.fm).lenV]
      refine h17.lit (bs47_1 _ _) rfl (by intro n hn; simp at hn; omega) (by omega) ?_
      intro u26 w26 h26
      rw [numsB1] at h26
      have hR26 := kR h26.fm
      have hl26 : (B17 ++ encI (r.txns.length : Int)).length ≤ 160100 := by
        have := encI_len (n := r.txns.length) (by omega)
        rw [List.length_append]; omega
      generalize hB26 : B17 ++ encI (r.txns.length : Int) = B26 at h26 hl26
      simp only [RS0, RS1, RS2, RS3, RS4, RS5, hR26.c15, (kT h26.fm).lenV]
      refine ⟨fun vl w' => ∃ i : Nat, vl = [iv i] ∧ i ≤ r.txns.length ∧ WS w1 w' rw (B26 ++ (r.txns.take i).flatMap prB) ∧ (B26 ++ (r.txns.take i).flatMap prB).length ≤ 160100 + 18 * i, fun vl _ => (r.txns.length - nth vl 0).toNat, ⟨0, rfl, by omega, by simpa using h26, by simpa using hl26⟩, ?_⟩
      rintro _ w27 iv27 ⟨i, hvl, hile, h27, hl27⟩
      cases hvl
      by_cases hlt : i < r.txns.length
      · have hx : r.txns[i]? = some r.txns[i] := List.getElem?_eq_getElem hlt
        generalize r.txns[i] = m at hx
        have hmm := List.mem_of_getElem? hx
        obtain ⟨ad, hix, hcv, _⟩ := cells_ld pc2_len (by omega) (kT h27.fm) hx
        have d2 : decide ((i : Int) < (r.txns.length : Int)) = true := by rw [decide_eq_true_eq]; omega
        have e1 : IntKind.i64.wrap ((i : Int) + 1) = ((i + 1 : Nat) : Int) := by rw [wrap_id] <;> omega
        simp only [RS0, RS1, RS2, RS3, RS4, RS5, d2, hix, hcv]
        refine New_any ?_
        intro x8 w8 hx8 hs8 hw8 hf8
        refine St_all hw8 rfl (pc2_len _) (by intro q hq; simp [pc2] at hq; rcases hq with rfl | rfl <;> rfl) ?_
        intro w9 hw9 hs9 hf9
        have hf79 : Fm (fun _ => False) w27 w9 := Fm.own hf8 hf9 (by rintro y rfl; omega)
        have h9 := h27.keep hf79
        have c0 : w9.cell? ⟨x8, 0, none⟩ = some (iv m.1) := by rw [cell_at hw9]; rfl
        have c1 : w9.cell? ⟨x8, 1, none⟩ = some (iv m.2) := by rw [cell_at hw9]; rfl
        simp only [RS0, RS1, RS2, RS3, RS4, RS5, c0, c1]
        obtain ⟨hm1, hm2⟩ := ntx m hmm
        refine h9.lit (bs47_2 _ _ _) rfl (by intro n hn; simp at hn; rcases hn with rfl | rfl <;> assumption) (by omega) ?_
        intro u11 w11 h11
        rw [numsB2] at h11
        simp only [RS0, RS1, RS2, RS3, RS4, RS5, e1]
        have e2 : B26 ++ (r.txns.take (i + 1)).flatMap prB = B26 ++ (r.txns.take i).flatMap prB ++ prB (m.1, m.2) := by rw [List.take_add_one, hx]; simp
        refine ⟨⟨i + 1, rfl, by omega, by rw [e2]; exact h11, ?_⟩, by simp only [nth_0]; omega⟩
        rw [e2]
        have := prB_len (p := (m.1, m.2)) hm1 hm2
        rw [List.length_append]
        omega
      have hie3 : i = r.txns.length := by omega
      subst hie3
      have d27 : decide (((r.txns.length : Nat) : Int) < (r.txns.length : Int)) = false := by simp
      rw [List.take_length] at h27 hl27
      have hl27' : (B26 ++ r.txns.flatMap prB).length ≤ 180000 := by omega
      generalize hB27 : B26 ++ r.txns.flatMap prB = B27 at h27 hl27'
      have hR27 := kR h27.fm
      simp only [RS0, RS1, RS2, RS3, RS4, RS5, d27]
      refine (bbytes_spec h27.wr.1).mono ?_
      rintro _ w30 ⟨rfl, rfl⟩
      have hbody : rBody r = B27 := by
        rw [← hB27, ← hB26, ← hB17, ← hB16, ← hB7, ← hB6, ← hB5, ← hB4]
        rfl
      have hie0 : decide (imgErr r.imgs = 0) = true := by rw [hie]; rfl
      have d9 : decide ((65535 : Int) < (B27.length : Int)) = decide (65535 < B27.length) := by rw [decide_eq_decide]; omega
      unfold rInner
      rw [hie0, cond_true, hbody]
      simp only [RS0, RS1, RS2, RS3, RS4, RS5, str_size, d9]
      cases hbig : decide (65535 < B27.length) with
      | true =>
        simp only [RS0, RS1, RS2, RS3, RS4, RS5, cond_true]
        exact ⟨(by trivial), Fmf hf1 h27.fm⟩
      | false =>
        simp only [RS0, RS1, RS2, RS3, RS4, RS5, cond_false]
        exact ⟨(by trivial), Fmf hf1 h27.fm⟩

set_option maxHeartbeats 4000000 in
theorem checked_spec {w : World} {cs : Array Value} {r : Rc} (h : RcAs w cs r) : Cl Tryz.prog 82 [.agg cs] w fun v w' => v = .tuple #[stv (rCheck r).1, iv (rCheck r).2] ∧ Fm (fun _ => False) w w' := by
  obtain ⟨vs, vm, vi, vp, vt, hcs, _, hs, hm, hi, hp, ht⟩ := h.ex
  have hk8 := h.kin
  refine c82 ?_; unfold T82
  refine New_any ?_
  intro x1 w1 hx1 hs1 hw1 hf1
  have hR1 : RB w1 x1 r vs vm vi vp vt := ⟨by rw [← hcs]; exact hw1⟩
  have h1 := h.keep hf1
  rw [hcs] at h1
  unfold rCheck
  simp only [RS0, RS1, RS2, RS3, RS4, RS5, hR1.c3]
  cases e1 : decide (r.kind < 1) with
  | true =>
    simp only [RS0, RS1, RS2, RS3, RS4, RS5, Bool.true_or, cond_true]
    exact ⟨(by trivial), hf1⟩
  | false =>
  simp only [RS0, RS1, RS2, RS3, RS4, RS5, hR1.c3, Bool.false_or]
  cases e2 : decide (13 < r.kind) with
  | true =>
    simp only [RS0, RS1, RS2, RS3, RS4, RS5, cond_true]
    exact ⟨(by trivial), hf1⟩
  | false =>
  simp only [RS0, RS1, RS2, RS3, RS4, RS5, cond_false, hR1.c0]
  cases e3 : decide (r.lsn < 1) with
  | true =>
    simp only [RS0, RS1, RS2, RS3, RS4, RS5, Bool.true_or, cond_true]
    exact ⟨(by trivial), hf1⟩
  | false =>
  simp only [RS0, RS1, RS2, RS3, RS4, RS5, hR1.all, Bool.false_or]
  refine (numbers_spec h1).mono ?_
  rintro v2 w2 ⟨ho2, hf2⟩
  refine (contains_spec (CellsAt.of_own ho2)).mono ?_
  rintro _ w3 ⟨rfl, rfl⟩
  have hF2 := Fmf hf1 hf2
  have hR2 := hR1.keep hf2 (fun e => e)
  cases e4 : (rNums r).any badN with
  | true =>
    simp only [RS0, RS1, RS2, RS3, RS4, RS5, cond_true]
    exact ⟨(by trivial), hF2⟩
  | false =>
  have m1 : decide ((512 : Int) < (r.data.length : Int)) = decide (512 < r.data.length) := by rw [decide_eq_decide]; omega
  have m2 : decide ((255 : Int) < (r.slots.length : Int)) = decide (255 < r.slots.length) := by rw [decide_eq_decide]; omega
  have m3 : decide ((255 : Int) < (r.more.length : Int)) = decide (255 < r.more.length) := by rw [decide_eq_decide]; omega
  have m4 : decide ((4 : Int) < (r.imgs.length : Int)) = decide (4 < r.imgs.length) := by rw [decide_eq_decide]; omega
  have m5 : decide ((8192 : Int) < (r.pages.length : Int)) = decide (8192 < r.pages.length) := by rw [decide_eq_decide]; omega
  have m6 : decide ((1024 : Int) < (r.txns.length : Int)) = decide (1024 < r.txns.length) := by rw [decide_eq_decide]; omega
  simp only [RS0, RS1, RS2, RS3, RS4, RS5, cond_false, hR2.c10, str_size, m1]
  have long : ∀ {w'}, longR r = true → Fm (fun _ => False) w w' → Value.tuple #[.string (ByteArray.mk #[]), .int .i64 3] = .tuple #[stv (bif longR r then (([] : Bs), (3 : Int)) else rInner r).1, iv (bif longR r then (([] : Bs), (3 : Int)) else rInner r).2] ∧ Fm (fun _ => False) w w' := fun hl hf => ⟨by rw [hl]; rfl, hf⟩
  cases q1 : decide (512 < r.data.length) with
  | true => simp only [RS0, RS1, RS2, RS3, RS4, RS5]; exact long (by simp [longR, q1]) hF2
  | false =>
  simp only [RS0, RS1, RS2, RS3, RS4, RS5, hR2.c11, hs.lenV, m2]
  cases q2 : decide (255 < r.slots.length) with
  | true => simp only [RS0, RS1, RS2, RS3, RS4, RS5]; exact long (by simp [longR, q2]) hF2
  | false =>
  simp only [RS0, RS1, RS2, RS3, RS4, RS5, hR2.c12, hm.lenV, m3]
  cases q3 : decide (255 < r.more.length) with
  | true => simp only [RS0, RS1, RS2, RS3, RS4, RS5]; exact long (by simp [longR, q3]) hF2
  | false =>
  simp only [RS0, RS1, RS2, RS3, RS4, RS5, hR2.c13, hi.lenV, m4]
  cases q4 : decide (4 < r.imgs.length) with
  | true => simp only [RS0, RS1, RS2, RS3, RS4, RS5]; exact long (by simp [longR, q4]) hF2
  | false =>
  simp only [RS0, RS1, RS2, RS3, RS4, RS5, hR2.c14, hp.lenV, m5]
  cases q5 : decide (8192 < r.pages.length) with
  | true => simp only [RS0, RS1, RS2, RS3, RS4, RS5]; exact long (by simp [longR, q5]) hF2
  | false =>
  simp only [RS0, RS1, RS2, RS3, RS4, RS5, hR2.c15, ht.lenV, m6]
  cases q6 : decide (1024 < r.txns.length) with
  | true => simp only [RS0, RS1, RS2, RS3, RS4, RS5]; exact long (by simp [longR, q6]) hF2
  | false =>
  have hl : longR r = false := by unfold longR; rw [q1, q2, q3, q4, q5, q6]; rfl
  simp only [RS0, RS1, RS2, RS3, RS4, RS5, hR2.all]
  refine (inner_spec (h1.keep hf2) hl).mono ?_
  rintro _ w4 ⟨rfl, hf4⟩
  simp only [RS0, RS1, RS2, RS3, RS4, RS5]
  refine ⟨?_, Fmf hF2 hf4⟩
  rw [hl]
  rfl
theorem check_spec {w : World} {cs : Array Value} {r : Rc} (h : RcAs w cs r) : Cl Tryz.prog 92 [.agg cs] w fun v w' => v = iv (rCheck r).2 ∧ Fm (fun _ => False) w w' := by
  refine c92 ?_; unfold T92
  refine New_any ?_
  intro x1 w1 hx1 hs1 hw1 hf1
  simp only [RS0, RS1, RS2, RS3, RS4, RS5, cellsV_blk hw1 h.size]
  refine (checked_spec (h.keep hf1)).mono ?_
  rintro _ w2 ⟨rfl, hf2⟩
  simp only [RS0, RS1, RS2, RS3, RS4, RS5]
  exact ⟨(by trivial), Fmf hf1 hf2⟩
theorem rCheck_len (r : Rc) : (rCheck r).1.length ≤ 65535 := by
  unfold rCheck
  cases decide (r.kind < 1) || decide (13 < r.kind) with
  | true => simp
  | false =>
  cases decide (r.lsn < 1) || (rNums r).any badN with
  | true => simp
  | false =>
  cases longR r with
  | true => simp
  | false =>
  simp only [cond_false]
  unfold rInner
  cases decide (imgErr r.imgs = 0) with
  | false => simp
  | true =>
  cases hb : decide (65535 < (rBody r).length) with
  | true => simp
  | false =>
    rw [decide_eq_false_iff_not] at hb
    simp only [cond_true, cond_false]
    omega
set_option maxHeartbeats 1000000 in
theorem renc_spec {w : World} {cs : Array Value} {r : Rc} (h : RcAs w cs r) : Cl Tryz.prog 89 [.agg cs] w fun v w' => v = .tuple #[stv (rEnc r).1, iv (rEnc r).2] ∧ Fm (fun _ => False) w w' := by
  refine c89 ?_; unfold T89
  refine New_any ?_
  intro x1 w1 hx1 hs1 hw1 hf1
  simp only [RS0, RS1, RS2, RS3, RS4, RS5, cellsV_blk hw1 h.size]
  refine (checked_spec (h.keep hf1)).mono ?_
  rintro _ w2 ⟨rfl, hf2⟩
  have hF2 := Fmf hf1 hf2
  have hlen := rCheck_len r
  unfold rEnc
  simp only [RS0, RS1, RS2, RS3, RS4, RS5, bne_dec]
  cases hz : decide ((rCheck r).2 = 0) with
  | false =>
    simp only [RS0, RS1, RS2, RS3, RS4, RS5, cond_false]
    exact ⟨(by trivial), hF2⟩
  | true =>
  generalize (rCheck r).1 = s at hlen
  simp only [RS0, RS1, RS2, RS3, RS4, RS5, cond_true, str_size]
  refine (big_spec w2 (by omega) 4).mono ?_
  rintro _ w3 ⟨rfl, hf3⟩
  refine (sum_spec w3 s (by omega)).mono ?_
  rintro _ w4 ⟨rfl, rfl⟩
  obtain ⟨q1, q2⟩ := crc_in s
  simp only [RS0, RS1, RS2, RS3, RS4, RS5, cvI_int, q2]
  refine (big_spec w4 q1 4).mono ?_
  rintro _ w5 ⟨rfl, hf5⟩
  have g1 : bigB (s.length : Nat) 4 = beN 4 s.length := bigB_of (n := s.length) (w := 4) (by omega) (by omega)
  have g2 : bigB (crc s : Nat) 4 = beN 4 (crc s) := bigB_of (n := crc s) (w := 4) (by omega) (by omega)
  rw [g1, g2, sadd (by rw [beN_len, beN_len]; omega)]
  try simp only [RS0, RS1, RS2, RS3, RS4, RS5]
  rw [sadd (by rw [List.length_append, beN_len, beN_len]; omega)]
  try simp only [RS0, RS1, RS2, RS3, RS4, RS5]
  exact ⟨(by trivial), Fmf hF2 (Fmf hf3 hf5)⟩

end Go.Proofs.YthbngnlmgplijaaGreatDoor
