import Derived.Test.YthbngnlmgplijaaGreatDoorCpsP
import Derived.Test.YthbngnlmgplijaaGreatDoorAlDraw2
import Derived.Test.YthbngnlmgplijaaGreatDoorRows
namespace Go.Proofs.YthbngnlmgplijaaGreatDoor
open Go.Al Go.Proofs
set_option maxRecDepth 100000
set_option linter.unusedVariables false
set_option linter.unusedSimpArgs false
/-- Function 13: almonry/rec.Decode. -/
def T13 (k : KV) (s0 : Value) (w : World) : Prop :=
  New #[(Value.int IntKind.i64 0), (Value.int IntKind.i64 0), (Value.int IntKind.i64 0), (Value.int IntKind.u8 0), (Value.int IntKind.i64 0), (Value.int IntKind.i64 0), (Value.int IntKind.i64 0), (Value.int IntKind.i64 0), (Value.int IntKind.i64 0), (Value.int IntKind.i64 0), (Value.string (ByteArray.mk #[])), (Value.slice none 0 0), (Value.slice none 0 0), (Value.slice none 0 0), (Value.slice none 0 0), (Value.slice none 0 0)] 28 w fun t2_1 w_2 =>
  Pu (lenS s0) fun t12_3 =>
  Pu (binV (TypeDesc.int IntKind.i64) .lss t12_3 (Value.int IntKind.i64 8)) fun t13_4 =>
  IfB t13_4
    (RunS Tryz.prog (Instr.build 28 #[]) w_2 fun t14_5 w_6 =>
      St 16 w_6 t2_1 t14_5 fun u_7 w_8 =>
      RetO (resL Tryz.prog (fun j => bif Nat.beq j 2 then t2_1 else bif Nat.beq j 3 then (Value.int IntKind.i64 0) else bif Nat.beq j 4 then (Value.int IntKind.i64 40) else undef) w_8 [(ResultVar.cell 2 28), (ResultVar.tmp 3), (ResultVar.tmp 4)]) w_8 k)
    (Pu (slS s0 none (some (Value.int IntKind.i64 4))) fun t16_9 =>
  Cl Tryz.prog 79 [t16_9] w_2 fun t17_10 w_11 =>
  Pu (binV (TypeDesc.int IntKind.i64) .eql t17_10 (Value.int IntKind.i64 0)) fun t20_12 =>
  Gd (isB false t20_12) (fun kk => kk t17_10 w_11) w_11 fun t22_13 w_14 =>
  Gd (isB false t20_12) (fun kk => Pu (binV (TypeDesc.int IntKind.i64) .gtr t22_13 (Value.int IntKind.i64 65535)) fun vv => kk vv w_14) w_14 fun t23_15 w_16 =>
  Pu (pickV t20_12 (Value.bool true) t23_15) fun t24_17 =>
  IfB t24_17
    (RunS Tryz.prog (Instr.build 28 #[]) w_16 fun t25_18 w_19 =>
      St 16 w_19 t2_1 t25_18 fun u_20 w_21 =>
      RetO (resL Tryz.prog (fun j => bif Nat.beq j 2 then t2_1 else bif Nat.beq j 3 then (Value.int IntKind.i64 0) else bif Nat.beq j 4 then (Value.int IntKind.i64 41) else undef) w_21 [(ResultVar.cell 2 28), (ResultVar.tmp 3), (ResultVar.tmp 4)]) w_21 k)
    (Pu (lenS s0) fun t28_22 =>
      Pu (binV (TypeDesc.int IntKind.i64) .add (Value.int IntKind.i64 8) t17_10) fun t30_23 =>
      Pu (binV (TypeDesc.int IntKind.i64) .lss t28_22 t30_23) fun t31_24 =>
      IfB t31_24
        (RunS Tryz.prog (Instr.build 28 #[]) w_16 fun t32_25 w_26 =>
          St 16 w_26 t2_1 t32_25 fun u_27 w_28 =>
          RetO (resL Tryz.prog (fun j => bif Nat.beq j 2 then t2_1 else bif Nat.beq j 3 then (Value.int IntKind.i64 0) else bif Nat.beq j 4 then (Value.int IntKind.i64 40) else undef) w_28 [(ResultVar.cell 2 28), (ResultVar.tmp 3), (ResultVar.tmp 4)]) w_28 k)
        (Pu (binV (TypeDesc.int IntKind.i64) .add (Value.int IntKind.i64 8) t17_10) fun t35_29 =>
  Pu (slS s0 (some (Value.int IntKind.i64 8)) (some t35_29)) fun t36_30 =>
  Pu (slS s0 (some (Value.int IntKind.i64 4)) (some (Value.int IntKind.i64 8))) fun t38_31 =>
  Cl Tryz.prog 79 [t38_31] w_16 fun t39_32 w_33 =>
  Cl Tryz.prog 80 [t36_30] w_33 fun t41_34 w_35 =>
  Pu (cvI IntKind.i64 t41_34) fun t42_36 =>
  Pu (binV (TypeDesc.int IntKind.i64) .neq t39_32 t42_36) fun t43_37 =>
  IfB t43_37
    (RunS Tryz.prog (Instr.build 28 #[]) w_35 fun t44_38 w_39 =>
      St 16 w_39 t2_1 t44_38 fun u_40 w_41 =>
      RetO (resL Tryz.prog (fun j => bif Nat.beq j 2 then t2_1 else bif Nat.beq j 3 then (Value.int IntKind.i64 0) else bif Nat.beq j 4 then (Value.int IntKind.i64 30) else undef) w_41 [(ResultVar.cell 2 28), (ResultVar.tmp 3), (ResultVar.tmp 4)]) w_41 k)
    (Cl Tryz.prog 81 [t36_30] w_35 fun t47_42 w_43 =>
  Pu (extV t47_42 0) fun t48_44 =>
  Pu (extV t47_42 1) fun t49_45 =>
  New #[(Value.int IntKind.i64 0), (Value.int IntKind.i64 0), (Value.int IntKind.i64 0), (Value.int IntKind.u8 0), (Value.int IntKind.i64 0), (Value.int IntKind.i64 0), (Value.int IntKind.i64 0), (Value.int IntKind.i64 0), (Value.int IntKind.i64 0), (Value.int IntKind.i64 0), (Value.string (ByteArray.mk #[])), (Value.slice none 0 0), (Value.slice none 0 0), (Value.slice none 0 0), (Value.slice none 0 0), (Value.slice none 0 0)] 28 w_43 fun r7_46 w_47 =>
  St 16 w_47 r7_46 t48_44 fun u_48 w_49 =>
  Pu (unV .not t49_45) fun t51_50 =>
  IfB t51_50
    (RunS Tryz.prog (Instr.build 28 #[]) w_49 fun t52_51 w_52 =>
      St 16 w_52 t2_1 t52_51 fun u_53 w_54 =>
      RetO (resL Tryz.prog (fun j => bif Nat.beq j 2 then t2_1 else bif Nat.beq j 3 then (Value.int IntKind.i64 0) else bif Nat.beq j 4 then (Value.int IntKind.i64 41) else undef) w_54 [(ResultVar.cell 2 28), (ResultVar.tmp 3), (ResultVar.tmp 4)]) w_54 k)
    (LdN 16 w_49 r7_46 fun t54_55 w_56 =>
  Cl Tryz.prog 82 [t54_55] w_56 fun t55_57 w_58 =>
  Pu (extV t55_57 0) fun t56_59 =>
  Pu (extV t55_57 1) fun t57_60 =>
  Pu (binV (TypeDesc.int IntKind.i64) .neq t57_60 (Value.int IntKind.i64 0)) fun t59_61 =>
  Gd (isB false t59_61) (fun kk => kk t56_59 w_58) w_58 fun t61_62 w_63 =>
  Gd (isB false t59_61) (fun kk => kk t36_30 w_63) w_63 fun t62_64 w_65 =>
  Gd (isB false t59_61) (fun kk => Pu (binV TypeDesc.string .neq t61_62 t62_64) fun vv => kk vv w_65) w_65 fun t63_66 w_67 =>
  Pu (pickV t59_61 (Value.bool true) t63_66) fun t64_68 =>
  IfB t64_68
    (RunS Tryz.prog (Instr.build 28 #[]) w_67 fun t65_69 w_70 =>
      St 16 w_70 t2_1 t65_69 fun u_71 w_72 =>
      RetO (resL Tryz.prog (fun j => bif Nat.beq j 2 then t2_1 else bif Nat.beq j 3 then (Value.int IntKind.i64 0) else bif Nat.beq j 4 then (Value.int IntKind.i64 41) else undef) w_72 [(ResultVar.cell 2 28), (ResultVar.tmp 3), (ResultVar.tmp 4)]) w_72 k)
    (LdN 16 w_67 r7_46 fun t66_73 w_74 =>
  Pu (binV (TypeDesc.int IntKind.i64) .add (Value.int IntKind.i64 8) t17_10) fun t68_75 =>
  St 16 w_74 t2_1 t66_73 fun u_76 w_77 =>
  RetO (resL Tryz.prog (fun j => bif Nat.beq j 2 then t2_1 else bif Nat.beq j 3 then t68_75 else bif Nat.beq j 4 then (Value.int IntKind.i64 0) else undef) w_77 [(ResultVar.cell 2 28), (ResultVar.tmp 3), (ResultVar.tmp 4)]) w_77 k))))))
theorem e13 (k : KV) (s0 : Value) (w : World) : K KD Tryz.prog 69 (fun j =>  []) (fun j =>  none) (Tryz.f13.body.getD .skip) (retQ Tryz.prog Tryz.f13 k) (argF [s0]) w = T13 k s0 w := by kernel_rfl
theorem c13 {k : KV} {s0 : Value} {w : World} (h : T13 k s0 w) : Cl Tryz.prog 13 [s0] w k :=
  Cl_of_K KD_sound mixed Tryz.func13 (by kernel_rfl) (by kernel_rfl) ((e13 k s0 w).symm ▸ h)

/-- Function 81: almonry/rec.outer. -/
def T81 (k : KV) (s0 : Value) (w : World) : Prop :=
  New #[(Value.int IntKind.i64 0), (Value.int IntKind.i64 0), (Value.int IntKind.i64 0), (Value.int IntKind.u8 0), (Value.int IntKind.i64 0), (Value.int IntKind.i64 0), (Value.int IntKind.i64 0), (Value.int IntKind.i64 0), (Value.int IntKind.i64 0), (Value.int IntKind.i64 0), (Value.string (ByteArray.mk #[])), (Value.slice none 0 0), (Value.slice none 0 0), (Value.slice none 0 0), (Value.slice none 0 0), (Value.slice none 0 0)] 28 w fun t2_1 w_2 =>
  Cl Tryz.prog 148 [s0] w_2 fun t12_3 w_4 =>
  New #[(Value.pointer none)] 181 w_4 fun r4_5 w_6 =>
  St 1 w_6 r4_5 t12_3 fun u_7 w_8 =>
  New #[(Value.int IntKind.i64 0), (Value.int IntKind.i64 0), (Value.int IntKind.i64 0), (Value.int IntKind.u8 0), (Value.int IntKind.i64 0), (Value.int IntKind.i64 0), (Value.int IntKind.i64 0), (Value.int IntKind.i64 0), (Value.int IntKind.i64 0), (Value.int IntKind.i64 0), (Value.string (ByteArray.mk #[])), (Value.slice none 0 0), (Value.slice none 0 0), (Value.slice none 0 0), (Value.slice none 0 0), (Value.slice none 0 0)] 28 w_8 fun x5_9 w_10 =>
  ClV Tryz.prog (.func (Fn.func 149) #[] #[r4_5]) [] w_10 fun t15_11 w_12 =>
  ClV Tryz.prog (.func (Fn.func 149) #[] #[r4_5]) [] w_12 fun t17_13 w_14 =>
  ClV Tryz.prog (.func (Fn.func 149) #[] #[r4_5]) [] w_14 fun t19_15 w_16 =>
  Pu (faV 0 x5_9) fun t20_17 =>
  St 1 w_16 t20_17 t15_11 fun u_18 w_19 =>
  Pu (faV 1 x5_9) fun t21_20 =>
  St 1 w_19 t21_20 t17_13 fun u_21 w_22 =>
  Pu (faV 2 x5_9) fun t22_23 =>
  St 1 w_22 t22_23 t19_15 fun u_24 w_25 =>
  Ld w_25 r4_5 fun t23_26 w_27 =>
  Cl Tryz.prog 150 [t23_26, (Value.int IntKind.i64 13)] w_27 fun t24_28 w_29 =>
  Pu (cvI IntKind.u8 t24_28) fun t25_30 =>
  Pu (faV 3 x5_9) fun t26_31 =>
  St 1 w_29 t26_31 t25_30 fun u_32 w_33 =>
  ClV Tryz.prog (.func (Fn.func 149) #[] #[r4_5]) [] w_33 fun t28_34 w_35 =>
  ClV Tryz.prog (.func (Fn.func 149) #[] #[r4_5]) [] w_35 fun t30_36 w_37 =>
  ClV Tryz.prog (.func (Fn.func 149) #[] #[r4_5]) [] w_37 fun t32_38 w_39 =>
  ClV Tryz.prog (.func (Fn.func 149) #[] #[r4_5]) [] w_39 fun t34_40 w_41 =>
  ClV Tryz.prog (.func (Fn.func 149) #[] #[r4_5]) [] w_41 fun t36_42 w_43 =>
  ClV Tryz.prog (.func (Fn.func 149) #[] #[r4_5]) [] w_43 fun t38_44 w_45 =>
  Pu (faV 4 x5_9) fun t39_46 =>
  St 1 w_45 t39_46 t28_34 fun u_47 w_48 =>
  Pu (faV 5 x5_9) fun t40_49 =>
  St 1 w_48 t40_49 t30_36 fun u_50 w_51 =>
  Pu (faV 6 x5_9) fun t41_52 =>
  St 1 w_51 t41_52 t32_38 fun u_53 w_54 =>
  Pu (faV 7 x5_9) fun t42_55 =>
  St 1 w_54 t42_55 t34_40 fun u_56 w_57 =>
  Pu (faV 8 x5_9) fun t43_58 =>
  St 1 w_57 t43_58 t36_42 fun u_59 w_60 =>
  Pu (faV 9 x5_9) fun t44_61 =>
  St 1 w_60 t44_61 t38_44 fun u_62 w_63 =>
  Ld w_63 r4_5 fun t45_64 w_65 =>
  Cl Tryz.prog 151 [t45_64, (Value.int IntKind.i64 512)] w_65 fun t46_66 w_67 =>
  Pu (faV 10 x5_9) fun t47_68 =>
  St 1 w_67 t47_68 t46_66 fun u_69 w_70 =>
  ∃ C_71 : World → Prop, C_71 (World.drew w_70) ∧
  (Ld (World.drew w_70) r4_5 fun t48_72 w_73 =>
  w_73 = (World.drew w_70) ∧
  ∃ t50_74, (∀ w_75, C_71 w_75 → Ld w_75 r4_5 fun t50_76 w_77 =>
  t50_76 = t50_74 ∧ w_77 = w_75) ∧
  (Cl Tryz.prog 152 [t48_72, (Value.int IntKind.i64 255)] (World.drew w_70) fun t49_78 w_79 =>
  C_71 w_79 ∧
  (Pu (faV 11 x5_9) fun t52_80 =>
  Cl Tryz.prog 152 [t50_74, (Value.int IntKind.i64 255)] w_79 fun t51_81 w_82 =>
  St 1 w_82 t52_80 t49_78 fun u_83 w_84 =>
  Pu (faV 12 x5_9) fun t53_85 =>
  St 1 w_84 t53_85 t51_81 fun u_86 w_87 =>
  Ld w_87 r4_5 fun t54_88 w_89 =>
  Cl Tryz.prog 150 [t54_88, (Value.int IntKind.i64 4)] w_89 fun t55_90 w_91 =>
  ∃ (I_92 : List Value → World → Prop) (m_93 : List Value → World → Nat), I_92 [(Value.int IntKind.i64 0)] w_91 ∧
  ∀ (g_134 : Fr) (w_133 : World), ∀ t56_100 : Value, I_92 [t56_100] w_133 →
    (Pu (binV (TypeDesc.int IntKind.i64) .lss t56_100 t55_90) fun t57_135 =>
    IfB t57_135
      (∃ C_136 : World → Prop, C_136 (World.drew w_133) ∧
    (∃ t60_137, (∀ w_138, C_136 w_138 → Ld w_138 r4_5 fun t60_139 w_140 =>
    t60_139 = t60_137 ∧ w_140 = w_138) ∧
    (ClV Tryz.prog (.func (Fn.func 149) #[] #[r4_5]) [] (World.drew w_133) fun t59_141 w_142 =>
    C_136 w_142 ∧
    (Cl Tryz.prog 151 [t60_137, (Value.int IntKind.i64 512)] w_142 fun t61_143 w_144 =>
    Pu (lenS t61_143) fun t65_145 =>
    Pu (binV (TypeDesc.int IntKind.i64) .sub (Value.int IntKind.i64 512) t65_145) fun t66_146 =>
    Cl Tryz.prog 95 [(Value.string (ByteArray.mk #[0])), t66_146] w_144 fun t67_147 w_148 =>
    Pu (binV TypeDesc.string .add t61_143 t67_147) fun t68_149 =>
    Cl Tryz.prog 41 [t68_149] w_148 fun t69_150 w_151 =>
    Pu (extV t69_150 0) fun t70_152 =>
    Pu (extV t69_150 1) fun t71_153 =>
    New #[(Value.int IntKind.i64 0), (Value.int IntKind.i64 0), (Value.int IntKind.i64 0), (Value.int IntKind.i64 0), (Value.string (ByteArray.mk #[])), (Value.slice none 0 0)] 61 w_151 fun p9_154 w_155 =>
    St 6 w_155 p9_154 t70_152 fun u_156 w_157 =>
    Pu (binV (TypeDesc.int IntKind.i64) .neq t71_153 (Value.int IntKind.i64 0)) fun t73_158 =>
    Gd (isB false t73_158) (fun kk => Ld w_157 r4_5 kk) w_157 fun t75_159 w_160 =>
    Gd (isB false t73_158) (fun kk => Cl Tryz.prog 153 [t75_159] w_160 kk) w_160 fun t76_161 w_162 =>
    Gd (isB false t73_158) (fun kk => Pu (binV (TypeDesc.int IntKind.i64) .neq t76_161 (Value.int IntKind.i64 0)) fun vv => kk vv w_162) w_162 fun t77_163 w_164 =>
    Pu (pickV t73_158 (Value.bool true) t77_163) fun t78_165 =>
    IfB t78_165
      (LdN 16 w_164 x5_9 fun t79_166 w_167 =>
        St 16 w_167 t2_1 t79_166 fun u_168 w_169 =>
        RetO (resL Tryz.prog (fun j => bif Nat.beq j 2 then t2_1 else bif Nat.beq j 3 then (Value.bool false) else undef) w_169 [(ResultVar.cell 2 28), (ResultVar.tmp 3)]) w_169 k)
      (Pu (faV 13 x5_9) fun t80_170 =>
    Ld w_164 t80_170 fun t81_171 w_172 =>
    LdN 6 w_172 p9_154 fun t83_173 w_174 =>
    RunS Tryz.prog (Instr.build 118 #[(0, t59_141), (1, t83_173)]) w_174 fun t84_175 w_176 =>
    RunS Tryz.prog (Instr.buildSlice 24 1 #[(0, t84_175)]) w_176 fun t85_177 w_178 =>
    RunS Tryz.prog (Builtin.append_ #[24, 24] 24 #[t81_171, t85_177]) w_178 fun t86_179 w_180 =>
    Pu (faV 13 x5_9) fun t87_181 =>
    St 1 w_180 t87_181 t86_179 fun u_182 w_183 =>
    Pu (binV (TypeDesc.int IntKind.i64) .add t56_100 (Value.int IntKind.i64 1)) fun t88_184 =>
    I_92 [t88_184] w_183 ∧ m_93 [t88_184] w_183 < m_93 [t56_100] w_133)))))
      (Ld w_133 r4_5 fun t89_185 w_186 =>
  Cl Tryz.prog 150 [t89_185, (Value.int IntKind.i64 8192)] w_186 fun t90_187 w_188 =>
  ∃ (I_189 : List Value → World → Prop) (m_190 : List Value → World → Nat), I_189 [(Value.int IntKind.i64 0)] w_188 ∧
  ∀ (g_211 : Fr) (w_210 : World), ∀ t91_193 : Value, I_189 [t91_193] w_210 →
    (Pu (binV (TypeDesc.int IntKind.i64) .lss t91_193 t90_187) fun t92_212 =>
    IfB t92_212
      (Ld w_210 r4_5 fun t93_213 w_214 =>
    Cl Tryz.prog 153 [t93_213] w_214 fun t94_215 w_216 =>
    Pu (binV (TypeDesc.int IntKind.i64) .neq t94_215 (Value.int IntKind.i64 0)) fun t95_217 =>
    IfB t95_217
      (LdN 16 w_216 x5_9 fun t96_218 w_219 =>
        St 16 w_219 t2_1 t96_218 fun u_220 w_221 =>
        RetO (resL Tryz.prog (fun j => bif Nat.beq j 2 then t2_1 else bif Nat.beq j 3 then (Value.bool false) else undef) w_221 [(ResultVar.cell 2 28), (ResultVar.tmp 3)]) w_221 k)
      (∃ C_222 : World → Prop, C_222 (World.drew w_216) ∧
    (Pu (faV 14 x5_9) fun t97_223 =>
    ∃ t98_224, (∀ w_225, C_222 w_225 → Ld w_225 t97_223 fun t98_226 w_227 =>
    t98_226 = t98_224 ∧ w_227 = w_225) ∧
    (ClV Tryz.prog (.func (Fn.func 149) #[] #[r4_5]) [] (World.drew w_216) fun t100_228 w_229 =>
    C_222 w_229 ∧
    (ClV Tryz.prog (.func (Fn.func 149) #[] #[r4_5]) [] w_229 fun t102_230 w_231 =>
    C_222 w_231 ∧
    (RunS Tryz.prog (Instr.build 120 #[(0, t100_228), (1, t102_230)]) w_231 fun t103_232 w_233 =>
    w_233 = w_231 ∧
    RunS Tryz.prog (Instr.buildSlice 25 1 #[(0, t103_232)]) w_231 fun t104_234 w_235 =>
    C_222 w_235 ∧
    (RunS Tryz.prog (Builtin.append_ #[25, 25] 25 #[t98_224, t104_234]) w_235 fun t105_236 w_237 =>
    Pu (faV 14 x5_9) fun t106_238 =>
    St 1 w_237 t106_238 t105_236 fun u_239 w_240 =>
    Pu (binV (TypeDesc.int IntKind.i64) .add t91_193 (Value.int IntKind.i64 1)) fun t107_241 =>
    I_189 [t107_241] w_240 ∧ m_190 [t107_241] w_240 < m_190 [t91_193] w_210)))))))
      (Ld w_210 r4_5 fun t108_242 w_243 =>
  Cl Tryz.prog 150 [t108_242, (Value.int IntKind.i64 1024)] w_243 fun t109_244 w_245 =>
  ∃ (I_246 : List Value → World → Prop) (m_247 : List Value → World → Nat), I_246 [(Value.int IntKind.i64 0)] w_245 ∧
  ∀ (g_268 : Fr) (w_267 : World), ∀ t110_250 : Value, I_246 [t110_250] w_267 →
    (Pu (binV (TypeDesc.int IntKind.i64) .lss t110_250 t109_244) fun t111_269 =>
    IfB t111_269
      (Ld w_267 r4_5 fun t112_270 w_271 =>
    Cl Tryz.prog 153 [t112_270] w_271 fun t113_272 w_273 =>
    Pu (binV (TypeDesc.int IntKind.i64) .neq t113_272 (Value.int IntKind.i64 0)) fun t114_274 =>
    IfB t114_274
      (LdN 16 w_273 x5_9 fun t115_275 w_276 =>
        St 16 w_276 t2_1 t115_275 fun u_277 w_278 =>
        RetO (resL Tryz.prog (fun j => bif Nat.beq j 2 then t2_1 else bif Nat.beq j 3 then (Value.bool false) else undef) w_278 [(ResultVar.cell 2 28), (ResultVar.tmp 3)]) w_278 k)
      (∃ C_279 : World → Prop, C_279 (World.drew w_273) ∧
    (Pu (faV 15 x5_9) fun t116_280 =>
    ∃ t117_281, (∀ w_282, C_279 w_282 → Ld w_282 t116_280 fun t117_283 w_284 =>
    t117_283 = t117_281 ∧ w_284 = w_282) ∧
    (ClV Tryz.prog (.func (Fn.func 149) #[] #[r4_5]) [] (World.drew w_273) fun t119_285 w_286 =>
    C_279 w_286 ∧
    (ClV Tryz.prog (.func (Fn.func 149) #[] #[r4_5]) [] w_286 fun t121_287 w_288 =>
    C_279 w_288 ∧
    (RunS Tryz.prog (Instr.build 122 #[(0, t119_285), (1, t121_287)]) w_288 fun t122_289 w_290 =>
    w_290 = w_288 ∧
    RunS Tryz.prog (Instr.buildSlice 26 1 #[(0, t122_289)]) w_288 fun t123_291 w_292 =>
    C_279 w_292 ∧
    (RunS Tryz.prog (Builtin.append_ #[26, 26] 26 #[t117_281, t123_291]) w_292 fun t124_293 w_294 =>
    Pu (faV 15 x5_9) fun t125_295 =>
    St 1 w_294 t125_295 t124_293 fun u_296 w_297 =>
    Pu (binV (TypeDesc.int IntKind.i64) .add t110_250 (Value.int IntKind.i64 1)) fun t126_298 =>
    I_246 [t126_298] w_297 ∧ m_247 [t126_298] w_297 < m_247 [t110_250] w_267)))))))
      (∃ C_299 : World → Prop, C_299 (World.drew w_267) ∧
  (∃ t127_300, (∀ w_301, C_299 w_301 → LdN 16 w_301 x5_9 fun t127_302 w_303 =>
  t127_302 = t127_300 ∧ w_303 = w_301) ∧
  (Ld (World.drew w_267) r4_5 fun t128_304 w_305 =>
  w_305 = (World.drew w_267) ∧
  Cl Tryz.prog 154 [t128_304] (World.drew w_267) fun t129_306 w_307 =>
  C_299 w_307 ∧
  (Pu (binV (TypeDesc.int IntKind.i64) .eql t129_306 (Value.int IntKind.i64 0)) fun t130_308 =>
  St 16 w_307 t2_1 t127_300 fun u_309 w_310 =>
  RetO (resL Tryz.prog (fun j => bif Nat.beq j 2 then t2_1 else bif Nat.beq j 3 then t130_308 else undef) w_310 [(ResultVar.cell 2 28), (ResultVar.tmp 3)]) w_310 k))))))))))))
theorem e81 (k : KV) (s0 : Value) (w : World) : K KD Tryz.prog 131 (fun j => bif Nat.beq j 24 then [110] else bif Nat.beq j 18 then [91] else bif Nat.beq j 10 then [56] else []) (fun j =>  none) (Tryz.f81.body.getD .skip) (retQ Tryz.prog Tryz.f81 k) (argF [s0]) w = T81 k s0 w := by kernel_rfl
theorem c81 {k : KV} {s0 : Value} {w : World} (h : T81 k s0 w) : Cl Tryz.prog 81 [s0] w k :=
  Cl_of_K KD_sound mixed Tryz.func81 (by kernel_rfl) (by kernel_rfl) ((e81 k s0 w).symm ▸ h)

/-- Function 82: almonry/rec.checked. -/
def T82 (k : KV) (r0 : Value) (w : World) : Prop :=
  New (Value.cells r0) 28 w fun r1_1 w_2 =>
  Pu (faV 3 r1_1) fun t5_3 =>
  Ld w_2 t5_3 fun t6_4 w_5 =>
  Pu (binV (TypeDesc.int IntKind.u8) .lss t6_4 (Value.int IntKind.u8 1)) fun t7_6 =>
  Gd (isB false t7_6) (fun kk => Pu (faV 3 r1_1) fun vv => kk vv w_5) w_5 fun t9_7 w_8 =>
  Gd (isB false t7_6) (fun kk => Ld w_8 t9_7 kk) w_8 fun t10_9 w_10 =>
  Gd (isB false t7_6) (fun kk => Pu (binV (TypeDesc.int IntKind.u8) .gtr t10_9 (Value.int IntKind.u8 13)) fun vv => kk vv w_10) w_10 fun t11_11 w_12 =>
  Pu (pickV t7_6 (Value.bool true) t11_11) fun t12_13 =>
  IfB t12_13
    (k (.tuple #[(Value.string (ByteArray.mk #[])), (Value.int IntKind.i64 41)]) w_12)
    (Pu (faV 0 r1_1) fun t14_14 =>
      Ld w_12 t14_14 fun t15_15 w_16 =>
      Pu (binV (TypeDesc.int IntKind.i64) .lss t15_15 (Value.int IntKind.i64 1)) fun t16_17 =>
      Gd (isB false t16_17) (fun kk => LdN 16 w_16 r1_1 kk) w_16 fun t18_18 w_19 =>
      Gd (isB false t16_17) (fun kk => Cl Tryz.prog 156 [t18_18] w_19 kk) w_19 fun t19_20 w_21 =>
      Gd (isB false t16_17) (fun kk => Cl Tryz.prog 155 [t19_20, (.func (.func 157) #[] #[])] w_21 kk) w_21 fun t20_22 w_23 =>
      Pu (pickV t16_17 (Value.bool true) t20_22) fun t21_24 =>
      IfB t21_24
        (k (.tuple #[(Value.string (ByteArray.mk #[])), (Value.int IntKind.i64 4)]) w_23)
        (Pu (faV 10 r1_1) fun t23_25 =>
          Ld w_23 t23_25 fun t24_26 w_27 =>
          Pu (lenS t24_26) fun t25_28 =>
          Pu (binV (TypeDesc.int IntKind.i64) .gtr t25_28 (Value.int IntKind.i64 512)) fun t26_29 =>
          Gd (isB false t26_29) (fun kk => Pu (faV 11 r1_1) fun vv => kk vv w_27) w_27 fun t28_30 w_31 =>
          Gd (isB false t26_29) (fun kk => Ld w_31 t28_30 kk) w_31 fun t29_32 w_33 =>
          Gd (isB false t26_29) (fun kk => Pu (lenV t29_32) fun vv => kk vv w_33) w_33 fun t30_34 w_35 =>
          Gd (isB false t26_29) (fun kk => Pu (binV (TypeDesc.int IntKind.i64) .gtr t30_34 (Value.int IntKind.i64 255)) fun vv => kk vv w_35) w_35 fun t31_36 w_37 =>
          Pu (pickV t26_29 (Value.bool true) t31_36) fun t32_38 =>
          Gd (isB false t32_38) (fun kk => Pu (faV 12 r1_1) fun vv => kk vv w_37) w_37 fun t34_39 w_40 =>
          Gd (isB false t32_38) (fun kk => Ld w_40 t34_39 kk) w_40 fun t35_41 w_42 =>
          Gd (isB false t32_38) (fun kk => Pu (lenV t35_41) fun vv => kk vv w_42) w_42 fun t36_43 w_44 =>
          Gd (isB false t32_38) (fun kk => Pu (binV (TypeDesc.int IntKind.i64) .gtr t36_43 (Value.int IntKind.i64 255)) fun vv => kk vv w_44) w_44 fun t37_45 w_46 =>
          Pu (pickV t32_38 (Value.bool true) t37_45) fun t38_47 =>
          Gd (isB false t38_47) (fun kk => Pu (faV 13 r1_1) fun vv => kk vv w_46) w_46 fun t40_48 w_49 =>
          Gd (isB false t38_47) (fun kk => Ld w_49 t40_48 kk) w_49 fun t41_50 w_51 =>
          Gd (isB false t38_47) (fun kk => Pu (lenV t41_50) fun vv => kk vv w_51) w_51 fun t42_52 w_53 =>
          Gd (isB false t38_47) (fun kk => Pu (binV (TypeDesc.int IntKind.i64) .gtr t42_52 (Value.int IntKind.i64 4)) fun vv => kk vv w_53) w_53 fun t43_54 w_55 =>
          Pu (pickV t38_47 (Value.bool true) t43_54) fun t44_56 =>
          Gd (isB false t44_56) (fun kk => Pu (faV 14 r1_1) fun vv => kk vv w_55) w_55 fun t46_57 w_58 =>
          Gd (isB false t44_56) (fun kk => Ld w_58 t46_57 kk) w_58 fun t47_59 w_60 =>
          Gd (isB false t44_56) (fun kk => Pu (lenV t47_59) fun vv => kk vv w_60) w_60 fun t48_61 w_62 =>
          Gd (isB false t44_56) (fun kk => Pu (binV (TypeDesc.int IntKind.i64) .gtr t48_61 (Value.int IntKind.i64 8192)) fun vv => kk vv w_62) w_62 fun t49_63 w_64 =>
          Pu (pickV t44_56 (Value.bool true) t49_63) fun t50_65 =>
          Gd (isB false t50_65) (fun kk => Pu (faV 15 r1_1) fun vv => kk vv w_64) w_64 fun t52_66 w_67 =>
          Gd (isB false t50_65) (fun kk => Ld w_67 t52_66 kk) w_67 fun t53_68 w_69 =>
          Gd (isB false t50_65) (fun kk => Pu (lenV t53_68) fun vv => kk vv w_69) w_69 fun t54_70 w_71 =>
          Gd (isB false t50_65) (fun kk => Pu (binV (TypeDesc.int IntKind.i64) .gtr t54_70 (Value.int IntKind.i64 1024)) fun vv => kk vv w_71) w_71 fun t55_72 w_73 =>
          Pu (pickV t50_65 (Value.bool true) t55_72) fun t56_74 =>
          IfB t56_74
            (k (.tuple #[(Value.string (ByteArray.mk #[])), (Value.int IntKind.i64 3)]) w_73)
            (LdN 16 w_73 r1_1 fun t57_75 w_76 =>
  Cl Tryz.prog 158 [t57_75] w_76 fun t58_77 w_78 =>
  Pu (extV t58_77 0) fun t59_79 =>
  Pu (extV t58_77 1) fun t60_80 =>
  k (.tuple #[t59_79, t60_80]) w_78)))
theorem e82 (k : KV) (r0 : Value) (w : World) : K KD Tryz.prog 61 (fun j =>  []) (fun j =>  none) (Tryz.f82.body.getD .skip) (retQ Tryz.prog Tryz.f82 k) (argF [r0]) w = T82 k r0 w := by kernel_rfl
theorem c82 {k : KV} {r0 : Value} {w : World} (h : T82 k r0 w) : Cl Tryz.prog 82 [r0] w k :=
  Cl_of_K KD_sound mixed Tryz.func82 (by kernel_rfl) (by kernel_rfl) ((e82 k r0 w).symm ▸ h)

/-- Function 89: almonry/rec.Encode. -/
def T89 (k : KV) (r0 : Value) (w : World) : Prop :=
  New (Value.cells r0) 28 w fun r1_1 w_2 =>
  LdN 16 w_2 r1_1 fun t7_3 w_4 =>
  Cl Tryz.prog 82 [t7_3] w_4 fun t8_5 w_6 =>
  Pu (extV t8_5 0) fun t9_7 =>
  Pu (extV t8_5 1) fun t10_8 =>
  Pu (binV (TypeDesc.int IntKind.i64) .neq t10_8 (Value.int IntKind.i64 0)) fun t12_9 =>
  IfB t12_9
    (k (.tuple #[(Value.string (ByteArray.mk #[])), t10_8]) w_6)
    (Pu (lenS t9_7) fun t15_10 =>
  Cl Tryz.prog 115 [t15_10, (Value.int IntKind.i64 4)] w_6 fun t16_11 w_12 =>
  Cl Tryz.prog 80 [t9_7] w_12 fun t18_13 w_14 =>
  Pu (cvI IntKind.i64 t18_13) fun t19_15 =>
  Cl Tryz.prog 115 [t19_15, (Value.int IntKind.i64 4)] w_14 fun t20_16 w_17 =>
  Pu (binV TypeDesc.string .add t16_11 t20_16) fun t21_18 =>
  Pu (binV TypeDesc.string .add t21_18 t9_7) fun t23_19 =>
  k (.tuple #[t23_19, (Value.int IntKind.i64 0)]) w_17)
theorem e89 (k : KV) (r0 : Value) (w : World) : K KD Tryz.prog 24 (fun j =>  []) (fun j =>  none) (Tryz.f89.body.getD .skip) (retQ Tryz.prog Tryz.f89 k) (argF [r0]) w = T89 k r0 w := by kernel_rfl
theorem c89 {k : KV} {r0 : Value} {w : World} (h : T89 k r0 w) : Cl Tryz.prog 89 [r0] w k :=
  Cl_of_K KD_sound mixed Tryz.func89 (by kernel_rfl) (by kernel_rfl) ((e89 k r0 w).symm ▸ h)

/-- Function 90: almonry/almonrylaw04.small. -/
def T90 (k : KV) (w : World) : Prop :=
  New #[(Value.int IntKind.i64 0), (Value.int IntKind.i64 0), (Value.int IntKind.i64 0), (Value.int IntKind.u8 0), (Value.int IntKind.i64 0), (Value.int IntKind.i64 0), (Value.int IntKind.i64 0), (Value.int IntKind.i64 0), (Value.int IntKind.i64 0), (Value.int IntKind.i64 0), (Value.string (ByteArray.mk #[])), (Value.slice none 0 0), (Value.slice none 0 0), (Value.slice none 0 0), (Value.slice none 0 0), (Value.slice none 0 0)] 28 w fun t0_1 w_2 =>
  RunS Tryz.prog (Instr.build 28 #[(0, (Value.int IntKind.i64 1)), (3, (Value.int IntKind.u8 8)), (5, (Value.int IntKind.i64 1))]) w_2 fun t1_3 w_4 =>
  St 16 w_4 t0_1 t1_3 fun u_5 w_6 =>
  RetO (resL Tryz.prog (fun j => bif Nat.beq j 0 then t0_1 else undef) w_6 [(ResultVar.cell 0 28)]) w_6 k
theorem e90 (k : KV) (w : World) : K KD Tryz.prog 2 (fun j =>  []) (fun j =>  none) (Tryz.f90.body.getD .skip) (retQ Tryz.prog Tryz.f90 k) (argF []) w = T90 k  w := by kernel_rfl
theorem c90 {k : KV} {w : World} (h : T90 k  w) : Cl Tryz.prog 90 [] w k :=
  Cl_of_K KD_sound mixed Tryz.func90 (by kernel_rfl) (by kernel_rfl) ((e90 k  w).symm ▸ h)

/-- Function 91: almonry/rec.Same. -/
def T91 (k : KV) (a0 : Value) (b1 : Value) (w : World) : Prop :=
  New (Value.cells a0) 28 w fun a2_1 w_2 =>
  New (Value.cells b1) 28 w_2 fun b3_3 w_4 =>
  Pu (faV 0 a2_1) fun t6_5 =>
  Ld w_4 t6_5 fun t7_6 w_7 =>
  Pu (faV 0 b3_3) fun t8_8 =>
  Ld w_7 t8_8 fun t9_9 w_10 =>
  Pu (binV (TypeDesc.int IntKind.i64) .neq t7_6 t9_9) fun t10_11 =>
  Gd (isB false t10_11) (fun kk => Pu (faV 1 a2_1) fun vv => kk vv w_10) w_10 fun t12_12 w_13 =>
  Gd (isB false t10_11) (fun kk => Ld w_13 t12_12 kk) w_13 fun t13_14 w_15 =>
  Gd (isB false t10_11) (fun kk => Pu (faV 1 b3_3) fun vv => kk vv w_15) w_15 fun t14_16 w_17 =>
  Gd (isB false t10_11) (fun kk => Ld w_17 t14_16 kk) w_17 fun t15_18 w_19 =>
  Gd (isB false t10_11) (fun kk => Pu (binV (TypeDesc.int IntKind.i64) .neq t13_14 t15_18) fun vv => kk vv w_19) w_19 fun t16_20 w_21 =>
  Pu (pickV t10_11 (Value.bool true) t16_20) fun t17_22 =>
  Gd (isB false t17_22) (fun kk => Pu (faV 2 a2_1) fun vv => kk vv w_21) w_21 fun t19_23 w_24 =>
  Gd (isB false t17_22) (fun kk => Ld w_24 t19_23 kk) w_24 fun t20_25 w_26 =>
  Gd (isB false t17_22) (fun kk => Pu (faV 2 b3_3) fun vv => kk vv w_26) w_26 fun t21_27 w_28 =>
  Gd (isB false t17_22) (fun kk => Ld w_28 t21_27 kk) w_28 fun t22_29 w_30 =>
  Gd (isB false t17_22) (fun kk => Pu (binV (TypeDesc.int IntKind.i64) .neq t20_25 t22_29) fun vv => kk vv w_30) w_30 fun t23_31 w_32 =>
  Pu (pickV t17_22 (Value.bool true) t23_31) fun t24_33 =>
  Gd (isB false t24_33) (fun kk => Pu (faV 3 a2_1) fun vv => kk vv w_32) w_32 fun t26_34 w_35 =>
  Gd (isB false t24_33) (fun kk => Ld w_35 t26_34 kk) w_35 fun t27_36 w_37 =>
  Gd (isB false t24_33) (fun kk => Pu (faV 3 b3_3) fun vv => kk vv w_37) w_37 fun t28_38 w_39 =>
  Gd (isB false t24_33) (fun kk => Ld w_39 t28_38 kk) w_39 fun t29_40 w_41 =>
  Gd (isB false t24_33) (fun kk => Pu (binV (TypeDesc.int IntKind.u8) .neq t27_36 t29_40) fun vv => kk vv w_41) w_41 fun t30_42 w_43 =>
  Pu (pickV t24_33 (Value.bool true) t30_42) fun t31_44 =>
  Gd (isB false t31_44) (fun kk => Pu (faV 4 a2_1) fun vv => kk vv w_43) w_43 fun t33_45 w_46 =>
  Gd (isB false t31_44) (fun kk => Ld w_46 t33_45 kk) w_46 fun t34_47 w_48 =>
  Gd (isB false t31_44) (fun kk => Pu (faV 4 b3_3) fun vv => kk vv w_48) w_48 fun t35_49 w_50 =>
  Gd (isB false t31_44) (fun kk => Ld w_50 t35_49 kk) w_50 fun t36_51 w_52 =>
  Gd (isB false t31_44) (fun kk => Pu (binV (TypeDesc.int IntKind.i64) .neq t34_47 t36_51) fun vv => kk vv w_52) w_52 fun t37_53 w_54 =>
  Pu (pickV t31_44 (Value.bool true) t37_53) fun t38_55 =>
  Gd (isB false t38_55) (fun kk => Pu (faV 5 a2_1) fun vv => kk vv w_54) w_54 fun t40_56 w_57 =>
  Gd (isB false t38_55) (fun kk => Ld w_57 t40_56 kk) w_57 fun t41_58 w_59 =>
  Gd (isB false t38_55) (fun kk => Pu (faV 5 b3_3) fun vv => kk vv w_59) w_59 fun t42_60 w_61 =>
  Gd (isB false t38_55) (fun kk => Ld w_61 t42_60 kk) w_61 fun t43_62 w_63 =>
  Gd (isB false t38_55) (fun kk => Pu (binV (TypeDesc.int IntKind.i64) .neq t41_58 t43_62) fun vv => kk vv w_63) w_63 fun t44_64 w_65 =>
  Pu (pickV t38_55 (Value.bool true) t44_64) fun t45_66 =>
  Gd (isB false t45_66) (fun kk => Pu (faV 6 a2_1) fun vv => kk vv w_65) w_65 fun t47_67 w_68 =>
  Gd (isB false t45_66) (fun kk => Ld w_68 t47_67 kk) w_68 fun t48_69 w_70 =>
  Gd (isB false t45_66) (fun kk => Pu (faV 6 b3_3) fun vv => kk vv w_70) w_70 fun t49_71 w_72 =>
  Gd (isB false t45_66) (fun kk => Ld w_72 t49_71 kk) w_72 fun t50_73 w_74 =>
  Gd (isB false t45_66) (fun kk => Pu (binV (TypeDesc.int IntKind.i64) .neq t48_69 t50_73) fun vv => kk vv w_74) w_74 fun t51_75 w_76 =>
  Pu (pickV t45_66 (Value.bool true) t51_75) fun t52_77 =>
  IfB t52_77
    (k (Value.bool false) w_76)
    (Pu (faV 7 a2_1) fun t53_78 =>
  Ld w_76 t53_78 fun t54_79 w_80 =>
  Pu (faV 7 b3_3) fun t55_81 =>
  Ld w_80 t55_81 fun t56_82 w_83 =>
  Pu (binV (TypeDesc.int IntKind.i64) .neq t54_79 t56_82) fun t57_84 =>
  Gd (isB false t57_84) (fun kk => Pu (faV 8 a2_1) fun vv => kk vv w_83) w_83 fun t59_85 w_86 =>
  Gd (isB false t57_84) (fun kk => Ld w_86 t59_85 kk) w_86 fun t60_87 w_88 =>
  Gd (isB false t57_84) (fun kk => Pu (faV 8 b3_3) fun vv => kk vv w_88) w_88 fun t61_89 w_90 =>
  Gd (isB false t57_84) (fun kk => Ld w_90 t61_89 kk) w_90 fun t62_91 w_92 =>
  Gd (isB false t57_84) (fun kk => Pu (binV (TypeDesc.int IntKind.i64) .neq t60_87 t62_91) fun vv => kk vv w_92) w_92 fun t63_93 w_94 =>
  Pu (pickV t57_84 (Value.bool true) t63_93) fun t64_95 =>
  Gd (isB false t64_95) (fun kk => Pu (faV 9 a2_1) fun vv => kk vv w_94) w_94 fun t66_96 w_97 =>
  Gd (isB false t64_95) (fun kk => Ld w_97 t66_96 kk) w_97 fun t67_98 w_99 =>
  Gd (isB false t64_95) (fun kk => Pu (faV 9 b3_3) fun vv => kk vv w_99) w_99 fun t68_100 w_101 =>
  Gd (isB false t64_95) (fun kk => Ld w_101 t68_100 kk) w_101 fun t69_102 w_103 =>
  Gd (isB false t64_95) (fun kk => Pu (binV (TypeDesc.int IntKind.i64) .neq t67_98 t69_102) fun vv => kk vv w_103) w_103 fun t70_104 w_105 =>
  Pu (pickV t64_95 (Value.bool true) t70_104) fun t71_106 =>
  Gd (isB false t71_106) (fun kk => Pu (faV 10 a2_1) fun vv => kk vv w_105) w_105 fun t73_107 w_108 =>
  Gd (isB false t71_106) (fun kk => Ld w_108 t73_107 kk) w_108 fun t74_109 w_110 =>
  Gd (isB false t71_106) (fun kk => Pu (faV 10 b3_3) fun vv => kk vv w_110) w_110 fun t75_111 w_112 =>
  Gd (isB false t71_106) (fun kk => Ld w_112 t75_111 kk) w_112 fun t76_113 w_114 =>
  Gd (isB false t71_106) (fun kk => Pu (binV TypeDesc.string .neq t74_109 t76_113) fun vv => kk vv w_114) w_114 fun t77_115 w_116 =>
  Pu (pickV t71_106 (Value.bool true) t77_115) fun t78_117 =>
  Gd (isB false t78_117) (fun kk => Pu (faV 11 a2_1) fun vv => kk vv w_116) w_116 fun t80_118 w_119 =>
  Gd (isB false t78_117) (fun kk => Ld w_119 t80_118 kk) w_119 fun t81_120 w_121 =>
  Gd (isB false t78_117) (fun kk => Pu (faV 11 b3_3) fun vv => kk vv w_121) w_121 fun t82_122 w_123 =>
  Gd (isB false t78_117) (fun kk => Ld w_123 t82_122 kk) w_123 fun t83_124 w_125 =>
  Gd (isB false t78_117) (fun kk => Cl Tryz.prog 167 [t81_120, t83_124] w_125 kk) w_125 fun t84_126 w_127 =>
  Gd (isB false t78_117) (fun kk => Pu (unV .not t84_126) fun vv => kk vv w_127) w_127 fun t85_128 w_129 =>
  Pu (pickV t78_117 (Value.bool true) t85_128) fun t86_130 =>
  Gd (isB false t86_130) (fun kk => Pu (faV 12 a2_1) fun vv => kk vv w_129) w_129 fun t88_131 w_132 =>
  Gd (isB false t86_130) (fun kk => Ld w_132 t88_131 kk) w_132 fun t89_133 w_134 =>
  Gd (isB false t86_130) (fun kk => Pu (faV 12 b3_3) fun vv => kk vv w_134) w_134 fun t90_135 w_136 =>
  Gd (isB false t86_130) (fun kk => Ld w_136 t90_135 kk) w_136 fun t91_137 w_138 =>
  Gd (isB false t86_130) (fun kk => Cl Tryz.prog 167 [t89_133, t91_137] w_138 kk) w_138 fun t92_139 w_140 =>
  Gd (isB false t86_130) (fun kk => Pu (unV .not t92_139) fun vv => kk vv w_140) w_140 fun t93_141 w_142 =>
  Pu (pickV t86_130 (Value.bool true) t93_141) fun t94_143 =>
  IfB t94_143
    (k (Value.bool false) w_142)
    (Pu (faV 13 a2_1) fun t95_144 =>
  Ld w_142 t95_144 fun t96_145 w_146 =>
  Pu (faV 13 b3_3) fun t97_147 =>
  Ld w_146 t97_147 fun t98_148 w_149 =>
  Cl Tryz.prog 170 [t96_145, t98_148, (.func (.func 168) #[] #[])] w_149 fun t100_150 w_151 =>
  Gd (isB true t100_150) (fun kk => Pu (faV 14 a2_1) fun vv => kk vv w_151) w_151 fun t102_152 w_153 =>
  Gd (isB true t100_150) (fun kk => Ld w_153 t102_152 kk) w_153 fun t103_154 w_155 =>
  Gd (isB true t100_150) (fun kk => Pu (faV 14 b3_3) fun vv => kk vv w_155) w_155 fun t104_156 w_157 =>
  Gd (isB true t100_150) (fun kk => Ld w_157 t104_156 kk) w_157 fun t105_158 w_159 =>
  Gd (isB true t100_150) (fun kk => Cl Tryz.prog 171 [t103_154, t105_158] w_159 kk) w_159 fun t106_160 w_161 =>
  Pu (pickV t100_150 t106_160 (Value.bool false)) fun t107_162 =>
  Gd (isB true t107_162) (fun kk => Pu (faV 15 a2_1) fun vv => kk vv w_161) w_161 fun t109_163 w_164 =>
  Gd (isB true t107_162) (fun kk => Ld w_164 t109_163 kk) w_164 fun t110_165 w_166 =>
  Gd (isB true t107_162) (fun kk => Pu (faV 15 b3_3) fun vv => kk vv w_166) w_166 fun t111_167 w_168 =>
  Gd (isB true t107_162) (fun kk => Ld w_168 t111_167 kk) w_168 fun t112_169 w_170 =>
  Gd (isB true t107_162) (fun kk => Cl Tryz.prog 172 [t110_165, t112_169] w_170 kk) w_170 fun t113_171 w_172 =>
  Pu (pickV t107_162 t113_171 (Value.bool false)) fun t114_173 =>
  k t114_173 w_172))
theorem e91 (k : KV) (a0 : Value) (b1 : Value) (w : World) : K KD Tryz.prog 115 (fun j =>  []) (fun j =>  none) (Tryz.f91.body.getD .skip) (retQ Tryz.prog Tryz.f91 k) (argF [a0, b1]) w = T91 k a0 b1 w := by kernel_rfl
theorem c91 {k : KV} {a0 : Value} {b1 : Value} {w : World} (h : T91 k a0 b1 w) : Cl Tryz.prog 91 [a0, b1] w k :=
  Cl_of_K KD_sound mixed Tryz.func91 (by kernel_rfl) (by kernel_rfl) ((e91 k a0 b1 w).symm ▸ h)

/-- Function 92: almonry/rec.Check. -/
def T92 (k : KV) (r0 : Value) (w : World) : Prop :=
  New (Value.cells r0) 28 w fun r1_1 w_2 =>
  LdN 16 w_2 r1_1 fun t6_3 w_4 =>
  Cl Tryz.prog 82 [t6_3] w_4 fun t7_5 w_6 =>
  Pu (extV t7_5 0) fun t8_7 =>
  Pu (extV t7_5 1) fun t9_8 =>
  k t9_8 w_6
theorem e92 (k : KV) (r0 : Value) (w : World) : K KD Tryz.prog 11 (fun j =>  []) (fun j =>  none) (Tryz.f92.body.getD .skip) (retQ Tryz.prog Tryz.f92 k) (argF [r0]) w = T92 k r0 w := by kernel_rfl
theorem c92 {k : KV} {r0 : Value} {w : World} (h : T92 k r0 w) : Cl Tryz.prog 92 [r0] w k :=
  Cl_of_K KD_sound mixed Tryz.func92 (by kernel_rfl) (by kernel_rfl) ((e92 k r0 w).symm ▸ h)

/-- Function 148: almonry/bits.Read. -/
def T148 (k : KV) (data0 : Value) (w : World) : Prop :=
  RunS Tryz.prog (Instr.build 221 #[(0, data0)]) w fun t4_1 w_2 =>
  New (Value.cells t4_1) 221 w_2 fun t5_3 w_4 =>
  k t5_3 w_4
theorem e148 (k : KV) (data0 : Value) (w : World) : K KD Tryz.prog 6 (fun j =>  []) (fun j =>  none) (Tryz.f148.body.getD .skip) (retQ Tryz.prog Tryz.f148 k) (argF [data0]) w = T148 k data0 w := by kernel_rfl
theorem c148 {k : KV} {data0 : Value} {w : World} (h : T148 k data0 w) : Cl Tryz.prog 148 [data0] w k :=
  Cl_of_K KD_sound mixed Tryz.func148 (by kernel_rfl) (by kernel_rfl) ((e148 k data0 w).symm ▸ h)

/-- Function 149: almonry/rec.outer$1. -/
def T149 (k : KV) (t0 : Value) (w : World) : Prop :=
  Ld w t0 fun t2_1 w_2 =>
  Cl Tryz.prog 150 [t2_1, (Value.int IntKind.i64 4611686018427387904)] w_2 fun t3_3 w_4 =>
  k t3_3 w_4
theorem e149 (k : KV) (t0 : Value) (w : World) : K KD Tryz.prog 4 (fun j =>  []) (fun j =>  none) (Tryz.f149.body.getD .skip) (retQ Tryz.prog Tryz.f149 k) (argF [t0]) w = T149 k t0 w := by kernel_rfl
theorem c149 {k : KV} {t0 : Value} {w : World} (h : T149 k t0 w) : Cl Tryz.prog 149 [t0] w k :=
  Cl_of_K KD_sound mixed Tryz.func149 (by kernel_rfl) (by kernel_rfl) ((e149 k t0 w).symm ▸ h)

/-- Function 150: (*almonry/bits.Reader).Num. -/
def T150 (k : KV) (r0 : Value) (most1 : Value) (w : World) : Prop :=
  Pu (binV (TypeDesc.pointer 221) .eql r0 (Value.pointer none)) fun t9_1 =>
  Gd (isB false t9_1) (fun kk => kk r0 w) w fun t11_2 w_3 =>
  Gd (isB false t9_1) (fun kk => Pu (nilV t11_2) fun vv => kk vv w_3) w_3 fun t12_4 w_5 =>
  Gd (isB false t9_1) (fun kk => Pu (faV 1 t12_4) fun vv => kk vv w_5) w_5 fun t13_6 w_7 =>
  Gd (isB false t9_1) (fun kk => Ld w_7 t13_6 kk) w_7 fun t14_8 w_9 =>
  Gd (isB false t9_1) (fun kk => Pu (binV (TypeDesc.int IntKind.i64) .neq t14_8 (Value.int IntKind.i64 0)) fun vv => kk vv w_9) w_9 fun t15_10 w_11 =>
  Pu (pickV t9_1 (Value.bool true) t15_10) fun t16_12 =>
  IfB t16_12
    (k (Value.int IntKind.i64 0) w_11)
    (∃ (I_13 : List Value → World → Prop) (m_14 : List Value → World → Nat), I_13 [(Value.int IntKind.i64 0), (Value.int IntKind.i64 0)] w_11 ∧
  ∀ (g_78 : Fr) (w_77 : World), ∀ n5_17 : Value, ∀ t17_20 : Value, I_13 [n5_17, t17_20] w_77 →
    (Pu (binV (TypeDesc.int IntKind.i64) .lss t17_20 (Value.int IntKind.i64 9)) fun t18_79 =>
    IfB t18_79
      (Pu (nilV r0) fun t22_80 =>
    Pu (faV 0 t22_80) fun t23_81 =>
    Ld w_77 t23_81 fun t24_82 w_83 =>
    Pu (lenS t24_82) fun t25_84 =>
    Pu (binV (TypeDesc.int IntKind.i64) .geq t17_20 t25_84) fun t26_85 =>
    IfB t26_85
      (Cl Tryz.prog 196 [r0, (Value.int IntKind.i64 10)] w_83 fun t28_86 w_87 =>
        k t28_86 w_87)
      (Pu (nilV r0) fun t30_88 =>
    Pu (faV 0 t30_88) fun t31_89 =>
    Ld w_83 t31_89 fun t32_90 w_91 =>
    Pu (ixS t32_90 t17_20) fun t34_92 =>
    Pu (binV (TypeDesc.int IntKind.u8) .and t34_92 (Value.int IntKind.u8 127)) fun t37_93 =>
    Pu (cvI IntKind.i64 t37_93) fun t38_94 =>
    Pu (binV (TypeDesc.int IntKind.i64) .mul (Value.int IntKind.i64 7) t17_20) fun t40_95 =>
    Pu (binV (TypeDesc.int IntKind.i64) .shl t38_94 t40_95) fun t41_96 =>
    Pu (binV (TypeDesc.int IntKind.i64) .or n5_17 t41_96) fun t42_97 =>
    Pu (binV (TypeDesc.int IntKind.u8) .eql t34_92 (Value.int IntKind.u8 0)) fun t45_98 =>
    Gd (isB true t45_98) (fun kk => kk t17_20 w_91) w_91 fun t47_99 w_100 =>
    Gd (isB true t45_98) (fun kk => Pu (binV (TypeDesc.int IntKind.i64) .gtr t47_99 (Value.int IntKind.i64 0)) fun vv => kk vv w_100) w_100 fun t48_101 w_102 =>
    Pu (pickV t45_98 t48_101 (Value.bool false)) fun t49_103 =>
    IfB t49_103
      (Cl Tryz.prog 196 [r0, (Value.int IntKind.i64 11)] w_102 fun t51_104 w_105 =>
        k t51_104 w_105)
      (Pu (binV (TypeDesc.int IntKind.u8) .geq t34_92 (Value.int IntKind.u8 128)) fun t54_106 =>
        IfB t54_106
          (Pu (binV (TypeDesc.int IntKind.i64) .add t17_20 (Value.int IntKind.i64 1)) fun t73_107 =>
    I_13 [t42_97, t73_107] w_102 ∧ m_14 [t42_97, t73_107] w_102 < m_14 [n5_17, t17_20] w_77)
          (Pu (foldV0 max2V [most1, (Value.int IntKind.i64 0)]) fun t58_108 =>
            Pu (binV (TypeDesc.int IntKind.i64) .gtr t42_97 t58_108) fun t59_109 =>
            IfB t59_109
              (Cl Tryz.prog 196 [r0, (Value.int IntKind.i64 11)] w_102 fun t61_110 w_111 =>
                k t61_110 w_111)
              (Pu (nilV r0) fun t64_112 =>
    Pu (faV 0 t64_112) fun t65_113 =>
    Ld w_102 t65_113 fun t66_114 w_115 =>
    Pu (binV (TypeDesc.int IntKind.i64) .add t17_20 (Value.int IntKind.i64 1)) fun t68_116 =>
    Pu (slS t66_114 (some t68_116) none) fun t69_117 =>
    Pu (nilV r0) fun t70_118 =>
    Pu (faV 0 t70_118) fun t71_119 =>
    St 1 w_115 t71_119 t69_117 fun u_120 w_121 =>
    k t42_97 w_121)))))
      (Cl Tryz.prog 196 [r0, (Value.int IntKind.i64 11)] w_77 fun t75_122 w_123 =>
  k t75_122 w_123)))
theorem e150 (k : KV) (r0 : Value) (most1 : Value) (w : World) : K KD Tryz.prog 76 (fun j => bif Nat.beq j 5 then [5, 17] else []) (fun j =>  none) (Tryz.f150.body.getD .skip) (retQ Tryz.prog Tryz.f150 k) (argF [r0, most1]) w = T150 k r0 most1 w := by kernel_rfl
theorem c150 {k : KV} {r0 : Value} {most1 : Value} {w : World} (h : T150 k r0 most1 w) : Cl Tryz.prog 150 [r0, most1] w k :=
  Cl_of_K KD_sound mixed Tryz.func150 (by kernel_rfl) (by kernel_rfl) ((e150 k r0 most1 w).symm ▸ h)

/-- Function 151: (*almonry/bits.Reader).Text. -/
def T151 (k : KV) (r0 : Value) (most1 : Value) (w : World) : Prop :=
  Cl Tryz.prog 150 [r0, most1] w fun t9_1 w_2 =>
  Pu (binV (TypeDesc.pointer 221) .eql r0 (Value.pointer none)) fun t11_3 =>
  Gd (isB false t11_3) (fun kk => kk r0 w_2) w_2 fun t13_4 w_5 =>
  Gd (isB false t11_3) (fun kk => Pu (nilV t13_4) fun vv => kk vv w_5) w_5 fun t14_6 w_7 =>
  Gd (isB false t11_3) (fun kk => Pu (faV 1 t14_6) fun vv => kk vv w_7) w_7 fun t15_8 w_9 =>
  Gd (isB false t11_3) (fun kk => Ld w_9 t15_8 kk) w_9 fun t16_10 w_11 =>
  Gd (isB false t11_3) (fun kk => Pu (binV (TypeDesc.int IntKind.i64) .neq t16_10 (Value.int IntKind.i64 0)) fun vv => kk vv w_11) w_11 fun t17_12 w_13 =>
  Pu (pickV t11_3 (Value.bool true) t17_12) fun t18_14 =>
  IfB t18_14
    (k (Value.string (ByteArray.mk #[])) w_13)
    (Pu (nilV r0) fun t21_15 =>
  Pu (faV 0 t21_15) fun t22_16 =>
  Ld w_13 t22_16 fun t23_17 w_18 =>
  Pu (lenS t23_17) fun t24_19 =>
  Pu (binV (TypeDesc.int IntKind.i64) .gtr t9_1 t24_19) fun t25_20 =>
  IfB t25_20
    (Cl Tryz.prog 196 [r0, (Value.int IntKind.i64 10)] w_18 fun t27_21 w_22 =>
      k (Value.string (ByteArray.mk #[])) w_22)
    (Pu (nilV r0) fun t29_23 =>
  Pu (faV 0 t29_23) fun t30_24 =>
  Ld w_18 t30_24 fun t31_25 w_26 =>
  Pu (slS t31_25 none (some t9_1)) fun t33_27 =>
  Pu (nilV r0) fun t36_28 =>
  Pu (faV 0 t36_28) fun t37_29 =>
  Ld w_26 t37_29 fun t38_30 w_31 =>
  Pu (slS t38_30 (some t9_1) none) fun t40_32 =>
  Pu (nilV r0) fun t41_33 =>
  Pu (faV 0 t41_33) fun t42_34 =>
  St 1 w_31 t42_34 t40_32 fun u_35 w_36 =>
  k t33_27 w_36))
theorem e151 (k : KV) (r0 : Value) (most1 : Value) (w : World) : K KD Tryz.prog 44 (fun j =>  []) (fun j =>  none) (Tryz.f151.body.getD .skip) (retQ Tryz.prog Tryz.f151 k) (argF [r0, most1]) w = T151 k r0 most1 w := by kernel_rfl
theorem c151 {k : KV} {r0 : Value} {most1 : Value} {w : World} (h : T151 k r0 most1 w) : Cl Tryz.prog 151 [r0, most1] w k :=
  Cl_of_K KD_sound mixed Tryz.func151 (by kernel_rfl) (by kernel_rfl) ((e151 k r0 most1 w).symm ▸ h)

/-- Function 152: almonry/rec.list. -/
def T152 (k : KV) (r0 : Value) (most1 : Value) (w : World) : Prop :=
  Jn (fun vs_18 w_17 => ∀ g_19 : Fr, ∃ out5_2 : Value, vs_18 = [out5_2] ∧
      (k out5_2 w_17))
    (fun jj_1 =>
    Cl Tryz.prog 150 [r0, most1] w fun t8_20 w_21 =>
    ∃ (I_22 : List Value → World → Prop) (m_23 : List Value → World → Nat), I_22 [(Value.slice none 0 0), (Value.int IntKind.i64 0)] w_21 ∧
    ∀ (g_38 : Fr) (w_37 : World), ∀ out5_25 : Value, ∀ t9_26 : Value, I_22 [out5_25, t9_26] w_37 →
      (Pu (binV (TypeDesc.int IntKind.i64) .lss t9_26 t8_20) fun t10_39 =>
      IfB t10_39
        (Cl Tryz.prog 150 [r0, (Value.int IntKind.i64 4611686018427387904)] w_37 fun t13_40 w_41 =>
      RunS Tryz.prog (Instr.buildSlice 23 1 #[(0, t13_40)]) w_41 fun t14_42 w_43 =>
      RunS Tryz.prog (Builtin.append_ #[23, 23] 23 #[out5_25, t14_42]) w_43 fun t15_44 w_45 =>
      Cl Tryz.prog 153 [r0] w_45 fun t17_46 w_47 =>
      Pu (binV (TypeDesc.int IntKind.i64) .neq t17_46 (Value.int IntKind.i64 0)) fun t18_48 =>
      IfB t18_48
        (jj_1 [t15_44] w_47)
        (Pu (binV (TypeDesc.int IntKind.i64) .add t9_26 (Value.int IntKind.i64 1)) fun t19_49 =>
      I_22 [t15_44, t19_49] w_47 ∧ m_23 [t15_44, t19_49] w_47 < m_23 [out5_25, t9_26] w_37))
        (jj_1 [out5_25] w_37)))
theorem e152 (k : KV) (r0 : Value) (most1 : Value) (w : World) : K KD Tryz.prog 21 (fun j => bif Nat.beq j 3 then [5, 9] else []) (fun j => bif Nat.beq j 7 then some [5] else none) (Tryz.f152.body.getD .skip) (retQ Tryz.prog Tryz.f152 k) (argF [r0, most1]) w = T152 k r0 most1 w := by kernel_rfl
theorem c152 {k : KV} {r0 : Value} {most1 : Value} {w : World} (h : T152 k r0 most1 w) : Cl Tryz.prog 152 [r0, most1] w k :=
  Cl_of_K KD_sound mixed Tryz.func152 (by kernel_rfl) (by kernel_rfl) ((e152 k r0 most1 w).symm ▸ h)

/-- Function 153: (*almonry/bits.Reader).Err. -/
def T153 (k : KV) (r0 : Value) (w : World) : Prop :=
  Pu (binV (TypeDesc.pointer 221) .eql r0 (Value.pointer none)) fun t4_1 =>
  IfB t4_1
    (k (Value.int IntKind.i64 2) w)
    (Pu (nilV r0) fun t6_2 =>
  Pu (faV 1 t6_2) fun t7_3 =>
  Ld w t7_3 fun t8_4 w_5 =>
  k t8_4 w_5)
theorem e153 (k : KV) (r0 : Value) (w : World) : K KD Tryz.prog 9 (fun j =>  []) (fun j =>  none) (Tryz.f153.body.getD .skip) (retQ Tryz.prog Tryz.f153 k) (argF [r0]) w = T153 k r0 w := by kernel_rfl
theorem c153 {k : KV} {r0 : Value} {w : World} (h : T153 k r0 w) : Cl Tryz.prog 153 [r0] w k :=
  Cl_of_K KD_sound mixed Tryz.func153 (by kernel_rfl) (by kernel_rfl) ((e153 k r0 w).symm ▸ h)

/-- Function 154: (*almonry/bits.Reader).End. -/
def T154 (k : KV) (r0 : Value) (w : World) : Prop :=
  Cl Tryz.prog 153 [r0] w fun t4_1 w_2 =>
  Pu (binV (TypeDesc.int IntKind.i64) .eql t4_1 (Value.int IntKind.i64 0)) fun t5_3 =>
  Gd (isB true t5_3) (fun kk => kk r0 w_2) w_2 fun t7_4 w_5 =>
  Gd (isB true t5_3) (fun kk => Cl Tryz.prog 197 [t7_4] w_5 kk) w_5 fun t8_6 w_7 =>
  Gd (isB true t5_3) (fun kk => Pu (binV (TypeDesc.int IntKind.i64) .gtr t8_6 (Value.int IntKind.i64 0)) fun vv => kk vv w_7) w_7 fun t9_8 w_9 =>
  Pu (pickV t5_3 t9_8 (Value.bool false)) fun t10_10 =>
  IfB t10_10
    (k (Value.int IntKind.i64 12) w_9)
    (Cl Tryz.prog 153 [r0] w_9 fun t12_11 w_12 =>
  k t12_11 w_12)
theorem e154 (k : KV) (r0 : Value) (w : World) : K KD Tryz.prog 13 (fun j =>  []) (fun j =>  none) (Tryz.f154.body.getD .skip) (retQ Tryz.prog Tryz.f154 k) (argF [r0]) w = T154 k r0 w := by kernel_rfl
theorem c154 {k : KV} {r0 : Value} {w : World} (h : T154 k r0 w) : Cl Tryz.prog 154 [r0] w k :=
  Cl_of_K KD_sound mixed Tryz.func154 (by kernel_rfl) (by kernel_rfl) ((e154 k r0 w).symm ▸ h)

/-- Function 155: slices.ContainsFunc[[]int,int]. -/
def T155 (k : KV) (s0 : Value) (f1 : Value) (w : World) : Prop :=
  Cl Tryz.prog 198 [s0, f1] w fun t7_1 w_2 =>
  Pu (binV (TypeDesc.int IntKind.i64) .geq t7_1 (Value.int IntKind.i64 0)) fun t8_3 =>
  k t8_3 w_2
theorem e155 (k : KV) (s0 : Value) (f1 : Value) (w : World) : K KD Tryz.prog 9 (fun j =>  []) (fun j =>  none) (Tryz.f155.body.getD .skip) (retQ Tryz.prog Tryz.f155 k) (argF [s0, f1]) w = T155 k s0 f1 w := by kernel_rfl
theorem c155 {k : KV} {s0 : Value} {f1 : Value} {w : World} (h : T155 k s0 f1 w) : Cl Tryz.prog 155 [s0, f1] w k :=
  Cl_of_K KD_sound mixed Tryz.func155 (by kernel_rfl) (by kernel_rfl) ((e155 k s0 f1 w).symm ▸ h)

/-- Function 156: almonry/rec.numbers. -/
def T156 (k : KV) (r0 : Value) (w : World) : Prop :=
  New (Value.cells r0) 28 w fun r1_1 w_2 =>
  Pu (faV 0 r1_1) fun t10_3 =>
  Ld w_2 t10_3 fun t11_4 w_5 =>
  Pu (faV 1 r1_1) fun t12_6 =>
  Ld w_5 t12_6 fun t13_7 w_8 =>
  Pu (faV 2 r1_1) fun t14_9 =>
  Ld w_8 t14_9 fun t15_10 w_11 =>
  Pu (faV 9 r1_1) fun t16_12 =>
  Ld w_11 t16_12 fun t17_13 w_14 =>
  Pu (faV 4 r1_1) fun t18_15 =>
  Ld w_14 t18_15 fun t19_16 w_17 =>
  Pu (faV 5 r1_1) fun t20_18 =>
  Ld w_17 t20_18 fun t21_19 w_20 =>
  Pu (faV 6 r1_1) fun t22_21 =>
  Ld w_20 t22_21 fun t23_22 w_23 =>
  Pu (faV 7 r1_1) fun t24_24 =>
  Ld w_23 t24_24 fun t25_25 w_26 =>
  Pu (faV 8 r1_1) fun t26_27 =>
  Ld w_26 t26_27 fun t27_28 w_29 =>
  RunS Tryz.prog (Instr.buildSlice 23 9 #[(0, t11_4), (1, t13_7), (2, t15_10), (3, t17_13), (4, t19_16), (5, t21_19), (6, t23_22), (7, t25_25), (8, t27_28)]) w_29 fun t28_30 w_31 =>
  ∃ C_32 : World → Prop, C_32 (World.drew w_31) ∧
  (Pu (faV 11 r1_1) fun t30_33 =>
  Ld (World.drew w_31) t30_33 fun t31_34 w_35 =>
  w_35 = (World.drew w_31) ∧
  Pu (faV 12 r1_1) fun t33_36 =>
  ∃ t34_37, (∀ w_38, C_32 w_38 → Ld w_38 t33_36 fun t34_39 w_40 =>
  t34_39 = t34_37 ∧ w_40 = w_38) ∧
  (RunS Tryz.prog (Builtin.append_ #[23, 23] 23 #[t28_30, t31_34]) (World.drew w_31) fun t32_41 w_42 =>
  C_32 w_42 ∧
  (RunS Tryz.prog (Builtin.append_ #[23, 23] 23 #[t32_41, t34_37]) w_42 fun t35_43 w_44 =>
  Pu (faV 13 r1_1) fun t36_45 =>
  Ld w_44 t36_45 fun t37_46 w_47 =>
  Pu (lenV t37_46) fun t38_48 =>
  ∃ (I_49 : List Value → World → Prop) (m_50 : List Value → World → Nat), I_49 [t35_43, (Value.int IntKind.i64 0)] w_47 ∧
  ∀ (g_65 : Fr) (w_64 : World), ∀ l3_52 : Value, ∀ t39_54 : Value, I_49 [l3_52, t39_54] w_64 →
    (Pu (binV (TypeDesc.int IntKind.i64) .lss t39_54 t38_48) fun t40_66 =>
    IfB t40_66
      (Pu (ixV 7 t37_46 t39_54) fun t41_67 =>
    LdN 7 w_64 t41_67 fun t42_68 w_69 =>
    New #[(Value.int IntKind.i64 0), (Value.int IntKind.i64 0), (Value.int IntKind.i64 0), (Value.int IntKind.i64 0), (Value.int IntKind.i64 0), (Value.string (ByteArray.mk #[])), (Value.slice none 0 0)] 118 w_69 fun m5_70 w_71 =>
    St 7 w_71 m5_70 t42_68 fun u_72 w_73 =>
    Pu (faV 0 m5_70) fun t44_74 =>
    Ld w_73 t44_74 fun t45_75 w_76 =>
    RunS Tryz.prog (Instr.buildSlice 23 1 #[(0, t45_75)]) w_76 fun t46_77 w_78 =>
    RunS Tryz.prog (Builtin.append_ #[23, 23] 23 #[l3_52, t46_77]) w_78 fun t47_79 w_80 =>
    Pu (binV (TypeDesc.int IntKind.i64) .add t39_54 (Value.int IntKind.i64 1)) fun t48_81 =>
    I_49 [t47_79, t48_81] w_80 ∧ m_50 [t47_79, t48_81] w_80 < m_50 [l3_52, t39_54] w_64)
      (Pu (faV 14 r1_1) fun t49_82 =>
  Ld w_64 t49_82 fun t50_83 w_84 =>
  Pu (lenV t50_83) fun t51_85 =>
  ∃ (I_86 : List Value → World → Prop) (m_87 : List Value → World → Nat), I_86 [l3_52, (Value.int IntKind.i64 0)] w_84 ∧
  ∀ (g_104 : Fr) (w_103 : World), ∀ l3_89 : Value, ∀ t52_91 : Value, I_86 [l3_89, t52_91] w_103 →
    (Pu (binV (TypeDesc.int IntKind.i64) .lss t52_91 t51_85) fun t53_105 =>
    IfB t53_105
      (Pu (ixV 2 t50_83 t52_91) fun t54_106 =>
    LdN 2 w_103 t54_106 fun t55_107 w_108 =>
    New #[(Value.int IntKind.i64 0), (Value.int IntKind.i64 0)] 120 w_108 fun p7_109 w_110 =>
    St 2 w_110 p7_109 t55_107 fun u_111 w_112 =>
    Pu (faV 0 p7_109) fun t57_113 =>
    Ld w_112 t57_113 fun t58_114 w_115 =>
    Pu (faV 1 p7_109) fun t59_116 =>
    Ld w_115 t59_116 fun t60_117 w_118 =>
    RunS Tryz.prog (Instr.buildSlice 23 2 #[(0, t58_114), (1, t60_117)]) w_118 fun t61_119 w_120 =>
    RunS Tryz.prog (Builtin.append_ #[23, 23] 23 #[l3_89, t61_119]) w_120 fun t62_121 w_122 =>
    Pu (binV (TypeDesc.int IntKind.i64) .add t52_91 (Value.int IntKind.i64 1)) fun t63_123 =>
    I_86 [t62_121, t63_123] w_122 ∧ m_87 [t62_121, t63_123] w_122 < m_87 [l3_89, t52_91] w_103)
      (Pu (faV 15 r1_1) fun t64_124 =>
  Ld w_103 t64_124 fun t65_125 w_126 =>
  Pu (lenV t65_125) fun t66_127 =>
  ∃ (I_128 : List Value → World → Prop) (m_129 : List Value → World → Nat), I_128 [l3_89, (Value.int IntKind.i64 0)] w_126 ∧
  ∀ (g_146 : Fr) (w_145 : World), ∀ l3_131 : Value, ∀ t67_133 : Value, I_128 [l3_131, t67_133] w_145 →
    (Pu (binV (TypeDesc.int IntKind.i64) .lss t67_133 t66_127) fun t68_147 =>
    IfB t68_147
      (Pu (ixV 2 t65_125 t67_133) fun t69_148 =>
    LdN 2 w_145 t69_148 fun t70_149 w_150 =>
    New #[(Value.int IntKind.i64 0), (Value.int IntKind.i64 0)] 122 w_150 fun t9_151 w_152 =>
    St 2 w_152 t9_151 t70_149 fun u_153 w_154 =>
    Pu (faV 0 t9_151) fun t72_155 =>
    Ld w_154 t72_155 fun t73_156 w_157 =>
    Pu (faV 1 t9_151) fun t74_158 =>
    Ld w_157 t74_158 fun t75_159 w_160 =>
    RunS Tryz.prog (Instr.buildSlice 23 2 #[(0, t73_156), (1, t75_159)]) w_160 fun t76_161 w_162 =>
    RunS Tryz.prog (Builtin.append_ #[23, 23] 23 #[l3_131, t76_161]) w_162 fun t77_163 w_164 =>
    Pu (binV (TypeDesc.int IntKind.i64) .add t67_133 (Value.int IntKind.i64 1)) fun t78_165 =>
    I_128 [t77_163, t78_165] w_164 ∧ m_129 [t77_163, t78_165] w_164 < m_129 [l3_131, t67_133] w_145)
      (k l3_131 w_145)))))))))
theorem e156 (k : KV) (r0 : Value) (w : World) : K KD Tryz.prog 80 (fun j => bif Nat.beq j 14 then [3, 67] else bif Nat.beq j 9 then [3, 52] else bif Nat.beq j 4 then [3, 39] else []) (fun j =>  none) (Tryz.f156.body.getD .skip) (retQ Tryz.prog Tryz.f156 k) (argF [r0]) w = T156 k r0 w := by kernel_rfl
theorem c156 {k : KV} {r0 : Value} {w : World} (h : T156 k r0 w) : Cl Tryz.prog 156 [r0] w k :=
  Cl_of_K KD_sound mixed Tryz.func156 (by kernel_rfl) (by kernel_rfl) ((e156 k r0 w).symm ▸ h)

/-- Function 157: almonry/rec.checked$1. -/
def T157 (k : KV) (n0 : Value) (w : World) : Prop :=
  Pu (binV (TypeDesc.int IntKind.i64) .lss n0 (Value.int IntKind.i64 0)) fun t4_1 =>
  Gd (isB false t4_1) (fun kk => kk n0 w) w fun t6_2 w_3 =>
  Gd (isB false t4_1) (fun kk => Pu (binV (TypeDesc.int IntKind.i64) .gtr t6_2 (Value.int IntKind.i64 4611686018427387904)) fun vv => kk vv w_3) w_3 fun t7_4 w_5 =>
  Pu (pickV t4_1 (Value.bool true) t7_4) fun t8_6 =>
  k t8_6 w_5
theorem e157 (k : KV) (n0 : Value) (w : World) : K KD Tryz.prog 9 (fun j =>  []) (fun j =>  none) (Tryz.f157.body.getD .skip) (retQ Tryz.prog Tryz.f157 k) (argF [n0]) w = T157 k n0 w := by kernel_rfl
theorem c157 {k : KV} {n0 : Value} {w : World} (h : T157 k n0 w) : Cl Tryz.prog 157 [n0] w k :=
  Cl_of_K KD_sound mixed Tryz.func157 (by kernel_rfl) (by kernel_rfl) ((e157 k n0 w).symm ▸ h)

/-- Function 158: almonry/rec.inner. -/
def T158 (k : KV) (r0 : Value) (w : World) : Prop :=
  New (Value.cells r0) 28 w fun r1_1 w_2 =>
  Cl Tryz.prog 199 [] w_2 fun t16_3 w_4 =>
  Pu (faV 0 r1_1) fun t18_5 =>
  Ld w_4 t18_5 fun t19_6 w_7 =>
  Pu (faV 1 r1_1) fun t20_8 =>
  Ld w_7 t20_8 fun t21_9 w_10 =>
  Pu (faV 2 r1_1) fun t22_11 =>
  Ld w_10 t22_11 fun t23_12 w_13 =>
  Pu (faV 3 r1_1) fun t24_14 =>
  Ld w_13 t24_14 fun t25_15 w_16 =>
  Pu (cvI IntKind.i64 t25_15) fun t26_17 =>
  Pu (faV 4 r1_1) fun t27_18 =>
  Ld w_16 t27_18 fun t28_19 w_20 =>
  Pu (faV 5 r1_1) fun t29_21 =>
  Ld w_20 t29_21 fun t30_22 w_23 =>
  Pu (faV 6 r1_1) fun t31_24 =>
  Ld w_23 t31_24 fun t32_25 w_26 =>
  Pu (faV 7 r1_1) fun t33_27 =>
  Ld w_26 t33_27 fun t34_28 w_29 =>
  Pu (faV 8 r1_1) fun t35_30 =>
  Ld w_29 t35_30 fun t36_31 w_32 =>
  Pu (faV 9 r1_1) fun t37_33 =>
  Ld w_32 t37_33 fun t38_34 w_35 =>
  RunS Tryz.prog (Instr.buildSlice 23 10 #[(0, t19_6), (1, t21_9), (2, t23_12), (3, t26_17), (4, t28_19), (5, t30_22), (6, t32_25), (7, t34_28), (8, t36_31), (9, t38_34)]) w_35 fun t39_36 w_37 =>
  Cl Tryz.prog 200 [t16_3, t39_36] w_37 fun t40_38 w_39 =>
  Pu (faV 10 r1_1) fun t42_40 =>
  Ld w_39 t42_40 fun t43_41 w_42 =>
  Cl Tryz.prog 201 [t16_3, t43_41] w_42 fun t44_43 w_44 =>
  Pu (faV 11 r1_1) fun t45_45 =>
  Ld w_44 t45_45 fun t46_46 w_47 =>
  Pu (faV 12 r1_1) fun t47_48 =>
  Ld w_47 t47_48 fun t48_49 w_50 =>
  RunS Tryz.prog (Instr.build 227 #[(0, t46_46), (1, t48_49)]) w_50 fun t49_51 w_52 =>
  ∃ (I_53 : List Value → World → Prop) (m_54 : List Value → World → Nat), I_53 [(Value.int IntKind.i64 0)] w_52 ∧
  ∀ (g_70 : Fr) (w_69 : World), ∀ t50_57 : Value, I_53 [t50_57] w_69 →
    (Pu (binV (TypeDesc.int IntKind.i64) .lss t50_57 (Value.int IntKind.i64 2)) fun t51_71 =>
    IfB t51_71
      (Pu (ixG false 2 1 t49_51 t50_57) fun t52_72 =>
    Pu (lenV t52_72) fun t55_73 =>
    RunS Tryz.prog (Instr.buildSlice 23 1 #[(0, t55_73)]) w_69 fun t56_74 w_75 =>
    Cl Tryz.prog 200 [t16_3, t56_74] w_75 fun t57_76 w_77 =>
    Cl Tryz.prog 200 [t16_3, t52_72] w_77 fun t60_78 w_79 =>
    Pu (binV (TypeDesc.int IntKind.i64) .add t50_57 (Value.int IntKind.i64 1)) fun t61_80 =>
    I_53 [t61_80] w_79 ∧ m_54 [t61_80] w_79 < m_54 [t50_57] w_69)
      (Pu (faV 13 r1_1) fun t63_81 =>
  Ld w_69 t63_81 fun t64_82 w_83 =>
  Pu (lenV t64_82) fun t65_84 =>
  RunS Tryz.prog (Instr.buildSlice 23 1 #[(0, t65_84)]) w_83 fun t66_85 w_86 =>
  Cl Tryz.prog 200 [t16_3, t66_85] w_86 fun t67_87 w_88 =>
  Pu (faV 13 r1_1) fun t68_89 =>
  Ld w_88 t68_89 fun t69_90 w_91 =>
  Pu (lenV t69_90) fun t70_92 =>
  ∃ (I_93 : List Value → World → Prop) (m_94 : List Value → World → Nat), I_93 [(Value.int IntKind.i64 0)] w_91 ∧
  ∀ (g_125 : Fr) (w_124 : World), ∀ t71_101 : Value, I_93 [t71_101] w_124 →
    (Pu (binV (TypeDesc.int IntKind.i64) .lss t71_101 t70_92) fun t72_126 =>
    IfB t72_126
      (Pu (ixV 7 t69_90 t71_101) fun t73_127 =>
    LdN 7 w_124 t73_127 fun t74_128 w_129 =>
    New #[(Value.int IntKind.i64 0), (Value.int IntKind.i64 0), (Value.int IntKind.i64 0), (Value.int IntKind.i64 0), (Value.int IntKind.i64 0), (Value.string (ByteArray.mk #[])), (Value.slice none 0 0)] 118 w_129 fun m8_130 w_131 =>
    St 7 w_131 m8_130 t74_128 fun u_132 w_133 =>
    Pu (faV 1 m8_130) fun t76_134 =>
    LdN 6 w_133 t76_134 fun t77_135 w_136 =>
    Cl Tryz.prog 103 [t77_135] w_136 fun t78_137 w_138 =>
    Pu (extV t78_137 0) fun t79_139 =>
    Pu (extV t78_137 1) fun t80_140 =>
    Pu (binV (TypeDesc.int IntKind.i64) .neq t80_140 (Value.int IntKind.i64 0)) fun t82_141 =>
    IfB t82_141
      (k (.tuple #[(Value.string (ByteArray.mk #[])), t80_140]) w_138)
      (Pu (faV 0 m8_130) fun t85_142 =>
    Ld w_138 t85_142 fun t86_143 w_144 =>
    RunS Tryz.prog (Instr.buildSlice 23 1 #[(0, t86_143)]) w_144 fun t87_145 w_146 =>
    Cl Tryz.prog 200 [t16_3, t87_145] w_146 fun t88_147 w_148 =>
    Cl Tryz.prog 202 [t79_139, (Value.string (ByteArray.mk #[0]))] w_148 fun t91_149 w_150 =>
    Cl Tryz.prog 201 [t16_3, t91_149] w_150 fun t92_151 w_152 =>
    Pu (binV (TypeDesc.int IntKind.i64) .add t71_101 (Value.int IntKind.i64 1)) fun t93_153 =>
    I_93 [t93_153] w_152 ∧ m_94 [t93_153] w_152 < m_94 [t71_101] w_124))
      (Pu (faV 14 r1_1) fun t95_154 =>
  Ld w_124 t95_154 fun t96_155 w_156 =>
  Pu (lenV t96_155) fun t97_157 =>
  RunS Tryz.prog (Instr.buildSlice 23 1 #[(0, t97_157)]) w_156 fun t98_158 w_159 =>
  Cl Tryz.prog 200 [t16_3, t98_158] w_159 fun t99_160 w_161 =>
  Pu (faV 14 r1_1) fun t100_162 =>
  Ld w_161 t100_162 fun t101_163 w_164 =>
  Pu (lenV t101_163) fun t102_165 =>
  ∃ (I_166 : List Value → World → Prop) (m_167 : List Value → World → Nat), I_166 [(Value.int IntKind.i64 0)] w_164 ∧
  ∀ (g_183 : Fr) (w_182 : World), ∀ t103_170 : Value, I_166 [t103_170] w_182 →
    (Pu (binV (TypeDesc.int IntKind.i64) .lss t103_170 t102_165) fun t104_184 =>
    IfB t104_184
      (Pu (ixV 2 t101_163 t103_170) fun t105_185 =>
    LdN 2 w_182 t105_185 fun t106_186 w_187 =>
    New #[(Value.int IntKind.i64 0), (Value.int IntKind.i64 0)] 120 w_187 fun p12_188 w_189 =>
    St 2 w_189 p12_188 t106_186 fun u_190 w_191 =>
    Pu (faV 0 p12_188) fun t108_192 =>
    Ld w_191 t108_192 fun t109_193 w_194 =>
    Pu (faV 1 p12_188) fun t110_195 =>
    Ld w_194 t110_195 fun t111_196 w_197 =>
    RunS Tryz.prog (Instr.buildSlice 23 2 #[(0, t109_193), (1, t111_196)]) w_197 fun t112_198 w_199 =>
    Cl Tryz.prog 200 [t16_3, t112_198] w_199 fun t113_200 w_201 =>
    Pu (binV (TypeDesc.int IntKind.i64) .add t103_170 (Value.int IntKind.i64 1)) fun t114_202 =>
    I_166 [t114_202] w_201 ∧ m_167 [t114_202] w_201 < m_167 [t103_170] w_182)
      (Pu (faV 15 r1_1) fun t116_203 =>
  Ld w_182 t116_203 fun t117_204 w_205 =>
  Pu (lenV t117_204) fun t118_206 =>
  RunS Tryz.prog (Instr.buildSlice 23 1 #[(0, t118_206)]) w_205 fun t119_207 w_208 =>
  Cl Tryz.prog 200 [t16_3, t119_207] w_208 fun t120_209 w_210 =>
  Pu (faV 15 r1_1) fun t121_211 =>
  Ld w_210 t121_211 fun t122_212 w_213 =>
  Pu (lenV t122_212) fun t123_214 =>
  ∃ (I_215 : List Value → World → Prop) (m_216 : List Value → World → Nat), I_215 [(Value.int IntKind.i64 0)] w_213 ∧
  ∀ (g_232 : Fr) (w_231 : World), ∀ t124_219 : Value, I_215 [t124_219] w_231 →
    (Pu (binV (TypeDesc.int IntKind.i64) .lss t124_219 t123_214) fun t125_233 =>
    IfB t125_233
      (Pu (ixV 2 t122_212 t124_219) fun t126_234 =>
    LdN 2 w_231 t126_234 fun t127_235 w_236 =>
    New #[(Value.int IntKind.i64 0), (Value.int IntKind.i64 0)] 122 w_236 fun t14_237 w_238 =>
    St 2 w_238 t14_237 t127_235 fun u_239 w_240 =>
    Pu (faV 0 t14_237) fun t129_241 =>
    Ld w_240 t129_241 fun t130_242 w_243 =>
    Pu (faV 1 t14_237) fun t131_244 =>
    Ld w_243 t131_244 fun t132_245 w_246 =>
    RunS Tryz.prog (Instr.buildSlice 23 2 #[(0, t130_242), (1, t132_245)]) w_246 fun t133_247 w_248 =>
    Cl Tryz.prog 200 [t16_3, t133_247] w_248 fun t134_249 w_250 =>
    Pu (binV (TypeDesc.int IntKind.i64) .add t124_219 (Value.int IntKind.i64 1)) fun t135_251 =>
    I_215 [t135_251] w_250 ∧ m_216 [t135_251] w_250 < m_216 [t124_219] w_231)
      (Cl Tryz.prog 203 [t16_3] w_231 fun t137_252 w_253 =>
  Pu (lenS t137_252) fun t139_254 =>
  Pu (binV (TypeDesc.int IntKind.i64) .gtr t139_254 (Value.int IntKind.i64 65535)) fun t140_255 =>
  IfB t140_255
    (k (.tuple #[(Value.string (ByteArray.mk #[])), (Value.int IntKind.i64 3)]) w_253)
    (k (.tuple #[t137_252, (Value.int IntKind.i64 0)]) w_253)))))))))
theorem e158 (k : KV) (r0 : Value) (w : World) : K KD Tryz.prog 142 (fun j => bif Nat.beq j 28 then [124] else bif Nat.beq j 22 then [103] else bif Nat.beq j 12 then [71] else bif Nat.beq j 5 then [50] else []) (fun j =>  none) (Tryz.f158.body.getD .skip) (retQ Tryz.prog Tryz.f158 k) (argF [r0]) w = T158 k r0 w := by kernel_rfl
theorem c158 {k : KV} {r0 : Value} {w : World} (h : T158 k r0 w) : Cl Tryz.prog 158 [r0] w k :=
  Cl_of_K KD_sound mixed Tryz.func158 (by kernel_rfl) (by kernel_rfl) ((e158 k r0 w).symm ▸ h)

/-- Function 167: slices.Equal[[]int,int]. -/
def T167 (k : KV) (s10 : Value) (s21 : Value) (w : World) : Prop :=
  Pu (lenV s10) fun t7_1 =>
  Pu (lenV s21) fun t9_2 =>
  Pu (binV (TypeDesc.int IntKind.i64) .neq t7_1 t9_2) fun t10_3 =>
  IfB t10_3
    (k (Value.bool false) w)
    (Pu (lenV s10) fun t12_4 =>
  ∃ (I_5 : List Value → World → Prop) (m_6 : List Value → World → Nat), I_5 [(Value.int IntKind.i64 0)] w ∧
  ∀ (g_24 : Fr) (w_23 : World), ∀ t13_10 : Value, I_5 [t13_10] w_23 →
    (Pu (binV (TypeDesc.int IntKind.i64) .lss t13_10 t12_4) fun t14_25 =>
    IfB t14_25
      (Pu (ixV 1 s10 t13_10) fun t18_26 =>
    Ld (World.drew w_23) t18_26 fun t19_27 w_28 =>
    w_28 = (World.drew w_23) ∧
    Pu (ixV 1 s21 t13_10) fun t22_29 =>
    Ld (World.drew w_23) t22_29 fun t23_30 w_31 =>
    w_31 = (World.drew w_23) ∧
    Pu (binV (TypeDesc.int IntKind.i64) .neq t19_27 t23_30) fun t24_32 =>
    IfB t24_32
      (k (Value.bool false) (World.drew w_23))
      (Pu (binV (TypeDesc.int IntKind.i64) .add t13_10 (Value.int IntKind.i64 1)) fun t25_33 =>
    I_5 [t25_33] (World.drew w_23) ∧ m_6 [t25_33] (World.drew w_23) < m_6 [t13_10] w_23))
      (k (Value.bool true) w_23)))
theorem e167 (k : KV) (s10 : Value) (s21 : Value) (w : World) : K KD Tryz.prog 26 (fun j => bif Nat.beq j 4 then [13] else []) (fun j =>  none) (Tryz.f167.body.getD .skip) (retQ Tryz.prog Tryz.f167 k) (argF [s10, s21]) w = T167 k s10 s21 w := by kernel_rfl
theorem c167 {k : KV} {s10 : Value} {s21 : Value} {w : World} (h : T167 k s10 s21 w) : Cl Tryz.prog 167 [s10, s21] w k :=
  Cl_of_K KD_sound mixed Tryz.func167 (by kernel_rfl) (by kernel_rfl) ((e167 k s10 s21 w).symm ▸ h)

/-- Function 168: almonry/rec.Same$1. -/
def T168 (k : KV) (x0 : Value) (y1 : Value) (w : World) : Prop :=
  New (Value.cells x0) 118 w fun x2_1 w_2 =>
  New (Value.cells y1) 118 w_2 fun y3_3 w_4 =>
  Pu (faV 0 x2_1) fun t5_5 =>
  Ld w_4 t5_5 fun t6_6 w_7 =>
  Pu (faV 0 y3_3) fun t7_8 =>
  Ld w_7 t7_8 fun t8_9 w_10 =>
  Pu (binV (TypeDesc.int IntKind.i64) .eql t6_6 t8_9) fun t9_11 =>
  Gd (isB true t9_11) (fun kk => Pu (faV 1 x2_1) fun vv => kk vv w_10) w_10 fun t11_12 w_13 =>
  Gd (isB true t9_11) (fun kk => LdN 6 w_13 t11_12 kk) w_13 fun t12_14 w_15 =>
  Gd (isB true t9_11) (fun kk => Pu (faV 1 y3_3) fun vv => kk vv w_15) w_15 fun t13_16 w_17 =>
  Gd (isB true t9_11) (fun kk => LdN 6 w_17 t13_16 kk) w_17 fun t14_18 w_19 =>
  Gd (isB true t9_11) (fun kk => Cl Tryz.prog 169 [t12_14, t14_18] w_19 kk) w_19 fun t15_20 w_21 =>
  Pu (pickV t9_11 t15_20 (Value.bool false)) fun t16_22 =>
  k t16_22 w_21
theorem e168 (k : KV) (x0 : Value) (y1 : Value) (w : World) : K KD Tryz.prog 17 (fun j =>  []) (fun j =>  none) (Tryz.f168.body.getD .skip) (retQ Tryz.prog Tryz.f168 k) (argF [x0, y1]) w = T168 k x0 y1 w := by kernel_rfl
theorem c168 {k : KV} {x0 : Value} {y1 : Value} {w : World} (h : T168 k x0 y1 w) : Cl Tryz.prog 168 [x0, y1] w k :=
  Cl_of_K KD_sound mixed Tryz.func168 (by kernel_rfl) (by kernel_rfl) ((e168 k x0 y1 w).symm ▸ h)

/-- Function 170: slices.EqualFunc[[]almonry/api.Image,[]almonry/api.Image,almonry/api.Image,almonry/api.Image]. -/
def T170 (k : KV) (s10 : Value) (s21 : Value) (eq2 : Value) (w : World) : Prop :=
  Pu (lenV s10) fun t11_1 =>
  Pu (lenV s21) fun t13_2 =>
  Pu (binV (TypeDesc.int IntKind.i64) .neq t11_1 t13_2) fun t14_3 =>
  IfB t14_3
    (k (Value.bool false) w)
    (Pu (lenV s10) fun t16_4 =>
  ∃ (I_5 : List Value → World → Prop) (m_6 : List Value → World → Nat), I_5 [(Value.int IntKind.i64 0)] w ∧
  ∀ (g_28 : Fr) (w_27 : World), ∀ t17_12 : Value, I_5 [t17_12] w_27 →
    (Pu (binV (TypeDesc.int IntKind.i64) .lss t17_12 t16_4) fun t18_29 =>
    IfB t18_29
      (Pu (ixV 7 s10 t17_12) fun t20_30 =>
    LdN 7 w_27 t20_30 fun t21_31 w_32 =>
    New #[(Value.int IntKind.i64 0), (Value.int IntKind.i64 0), (Value.int IntKind.i64 0), (Value.int IntKind.i64 0), (Value.int IntKind.i64 0), (Value.string (ByteArray.mk #[])), (Value.slice none 0 0)] 118 w_32 fun v18_33 w_34 =>
    St 7 w_34 v18_33 t21_31 fun u_35 w_36 =>
    Pu (ixV 7 s21 t17_12) fun t24_37 =>
    LdN 7 w_36 t24_37 fun t25_38 w_39 =>
    New #[(Value.int IntKind.i64 0), (Value.int IntKind.i64 0), (Value.int IntKind.i64 0), (Value.int IntKind.i64 0), (Value.int IntKind.i64 0), (Value.string (ByteArray.mk #[])), (Value.slice none 0 0)] 118 w_39 fun v29_40 w_41 =>
    St 7 w_41 v29_40 t25_38 fun u_42 w_43 =>
    LdN 7 w_43 v18_33 fun t27_44 w_45 =>
    LdN 7 w_45 v29_40 fun t28_46 w_47 =>
    ClV Tryz.prog eq2 [t27_44, t28_46] w_47 fun t29_48 w_49 =>
    Pu (unV .not t29_48) fun t30_50 =>
    IfB t30_50
      (k (Value.bool false) w_49)
      (Pu (binV (TypeDesc.int IntKind.i64) .add t17_12 (Value.int IntKind.i64 1)) fun t31_51 =>
    I_5 [t31_51] w_49 ∧ m_6 [t31_51] w_49 < m_6 [t17_12] w_27))
      (k (Value.bool true) w_27)))
theorem e170 (k : KV) (s10 : Value) (s21 : Value) (eq2 : Value) (w : World) : K KD Tryz.prog 32 (fun j => bif Nat.beq j 4 then [17] else []) (fun j =>  none) (Tryz.f170.body.getD .skip) (retQ Tryz.prog Tryz.f170 k) (argF [s10, s21, eq2]) w = T170 k s10 s21 eq2 w := by kernel_rfl
theorem c170 {k : KV} {s10 : Value} {s21 : Value} {eq2 : Value} {w : World} (h : T170 k s10 s21 eq2 w) : Cl Tryz.prog 170 [s10, s21, eq2] w k :=
  Cl_of_K KD_sound mixed Tryz.func170 (by kernel_rfl) (by kernel_rfl) ((e170 k s10 s21 eq2 w).symm ▸ h)

/-- Function 171: slices.Equal[[]almonry/api.Owed,almonry/api.Owed]. -/
def T171 (k : KV) (s10 : Value) (s21 : Value) (w : World) : Prop :=
  Pu (lenV s10) fun t7_1 =>
  Pu (lenV s21) fun t9_2 =>
  Pu (binV (TypeDesc.int IntKind.i64) .neq t7_1 t9_2) fun t10_3 =>
  IfB t10_3
    (k (Value.bool false) w)
    (Pu (lenV s10) fun t12_4 =>
  ∃ (I_5 : List Value → World → Prop) (m_6 : List Value → World → Nat), I_5 [(Value.int IntKind.i64 0)] w ∧
  ∀ (g_24 : Fr) (w_23 : World), ∀ t13_10 : Value, I_5 [t13_10] w_23 →
    (Pu (binV (TypeDesc.int IntKind.i64) .lss t13_10 t12_4) fun t14_25 =>
    IfB t14_25
      (Pu (ixV 2 s10 t13_10) fun t18_26 =>
    LdN 2 (World.drew w_23) t18_26 fun t19_27 w_28 =>
    w_28 = (World.drew w_23) ∧
    Pu (ixV 2 s21 t13_10) fun t22_29 =>
    LdN 2 (World.drew w_23) t22_29 fun t23_30 w_31 =>
    w_31 = (World.drew w_23) ∧
    RunS Tryz.prog (do eqGuard .neq 120 (Operand.tmp 19) (Operand.tmp 23) t19_27 t23_30; binOp .neq 120 t19_27 t23_30) (World.drew w_23) fun t24_32 w_33 =>
    w_33 = (World.drew w_23) ∧
    IfB t24_32
      (k (Value.bool false) (World.drew w_23))
      (Pu (binV (TypeDesc.int IntKind.i64) .add t13_10 (Value.int IntKind.i64 1)) fun t25_34 =>
    I_5 [t25_34] (World.drew w_23) ∧ m_6 [t25_34] (World.drew w_23) < m_6 [t13_10] w_23))
      (k (Value.bool true) w_23)))
theorem e171 (k : KV) (s10 : Value) (s21 : Value) (w : World) : K KD Tryz.prog 26 (fun j => bif Nat.beq j 4 then [13] else []) (fun j =>  none) (Tryz.f171.body.getD .skip) (retQ Tryz.prog Tryz.f171 k) (argF [s10, s21]) w = T171 k s10 s21 w := by kernel_rfl
theorem c171 {k : KV} {s10 : Value} {s21 : Value} {w : World} (h : T171 k s10 s21 w) : Cl Tryz.prog 171 [s10, s21] w k :=
  Cl_of_K KD_sound mixed Tryz.func171 (by kernel_rfl) (by kernel_rfl) ((e171 k s10 s21 w).symm ▸ h)

/-- Function 172: slices.Equal[[]almonry/api.Begun,almonry/api.Begun]. -/
def T172 (k : KV) (s10 : Value) (s21 : Value) (w : World) : Prop :=
  Pu (lenV s10) fun t7_1 =>
  Pu (lenV s21) fun t9_2 =>
  Pu (binV (TypeDesc.int IntKind.i64) .neq t7_1 t9_2) fun t10_3 =>
  IfB t10_3
    (k (Value.bool false) w)
    (Pu (lenV s10) fun t12_4 =>
  ∃ (I_5 : List Value → World → Prop) (m_6 : List Value → World → Nat), I_5 [(Value.int IntKind.i64 0)] w ∧
  ∀ (g_24 : Fr) (w_23 : World), ∀ t13_10 : Value, I_5 [t13_10] w_23 →
    (Pu (binV (TypeDesc.int IntKind.i64) .lss t13_10 t12_4) fun t14_25 =>
    IfB t14_25
      (Pu (ixV 2 s10 t13_10) fun t18_26 =>
    LdN 2 (World.drew w_23) t18_26 fun t19_27 w_28 =>
    w_28 = (World.drew w_23) ∧
    Pu (ixV 2 s21 t13_10) fun t22_29 =>
    LdN 2 (World.drew w_23) t22_29 fun t23_30 w_31 =>
    w_31 = (World.drew w_23) ∧
    RunS Tryz.prog (do eqGuard .neq 122 (Operand.tmp 19) (Operand.tmp 23) t19_27 t23_30; binOp .neq 122 t19_27 t23_30) (World.drew w_23) fun t24_32 w_33 =>
    w_33 = (World.drew w_23) ∧
    IfB t24_32
      (k (Value.bool false) (World.drew w_23))
      (Pu (binV (TypeDesc.int IntKind.i64) .add t13_10 (Value.int IntKind.i64 1)) fun t25_34 =>
    I_5 [t25_34] (World.drew w_23) ∧ m_6 [t25_34] (World.drew w_23) < m_6 [t13_10] w_23))
      (k (Value.bool true) w_23)))
theorem e172 (k : KV) (s10 : Value) (s21 : Value) (w : World) : K KD Tryz.prog 26 (fun j => bif Nat.beq j 4 then [13] else []) (fun j =>  none) (Tryz.f172.body.getD .skip) (retQ Tryz.prog Tryz.f172 k) (argF [s10, s21]) w = T172 k s10 s21 w := by kernel_rfl
theorem c172 {k : KV} {s10 : Value} {s21 : Value} {w : World} (h : T172 k s10 s21 w) : Cl Tryz.prog 172 [s10, s21] w k :=
  Cl_of_K KD_sound mixed Tryz.func172 (by kernel_rfl) (by kernel_rfl) ((e172 k s10 s21 w).symm ▸ h)

/-- Function 182: strings.trimRightByte. -/
def T182 (k : KV) (s0 : Value) (c1 : Value) (w : World) : Prop :=
  ∃ (I_1 : List Value → World → Prop) (m_2 : List Value → World → Nat), I_1 [s0] w ∧
  ∀ (g_23 : Fr) (w_22 : World), ∀ s0_4 : Value, I_1 [s0_4] w_22 →
    (Pu (lenS s0_4) fun t6_24 =>
    Pu (binV (TypeDesc.int IntKind.i64) .gtr t6_24 (Value.int IntKind.i64 0)) fun t7_25 =>
    Gd (isB true t7_25) (fun kk => kk s0_4 w_22) w_22 fun t9_26 w_27 =>
    Gd (isB true t7_25) (fun kk => kk s0_4 w_27) w_27 fun t10_28 w_29 =>
    Gd (isB true t7_25) (fun kk => Pu (lenS t10_28) fun vv => kk vv w_29) w_29 fun t11_30 w_31 =>
    Gd (isB true t7_25) (fun kk => Pu (binV (TypeDesc.int IntKind.i64) .sub t11_30 (Value.int IntKind.i64 1)) fun vv => kk vv w_31) w_31 fun t12_32 w_33 =>
    Gd (isB true t7_25) (fun kk => Pu (ixS t9_26 t12_32) fun vv => kk vv w_33) w_33 fun t13_34 w_35 =>
    Gd (isB true t7_25) (fun kk => kk c1 w_35) w_35 fun t14_36 w_37 =>
    Gd (isB true t7_25) (fun kk => Pu (binV (TypeDesc.int IntKind.u8) .eql t13_34 t14_36) fun vv => kk vv w_37) w_37 fun t15_38 w_39 =>
    Pu (pickV t7_25 t15_38 (Value.bool false)) fun t16_40 =>
    IfB t16_40
      (Pu (lenS s0_4) fun t19_41 =>
    Pu (binV (TypeDesc.int IntKind.i64) .sub t19_41 (Value.int IntKind.i64 1)) fun t20_42 =>
    Pu (slS s0_4 none (some t20_42)) fun t21_43 =>
    I_1 [t21_43] w_39 ∧ m_2 [t21_43] w_39 < m_2 [s0_4] w_22)
      (k s0_4 w_39))
theorem e182 (k : KV) (s0 : Value) (c1 : Value) (w : World) : K KD Tryz.prog 23 (fun j => bif Nat.beq j 1 then [0] else []) (fun j =>  none) (Tryz.f182.body.getD .skip) (retQ Tryz.prog Tryz.f182 k) (argF [s0, c1]) w = T182 k s0 c1 w := by kernel_rfl
theorem c182 {k : KV} {s0 : Value} {c1 : Value} {w : World} (h : T182 k s0 c1 w) : Cl Tryz.prog 182 [s0, c1] w k :=
  Cl_of_K KD_sound mixed Tryz.func182 (by kernel_rfl) (by kernel_rfl) ((e182 k s0 c1 w).symm ▸ h)

/-- Function 196: (*almonry/bits.Reader).fail. -/
def T196 (k : KV) (r0 : Value) (e1 : Value) (w : World) : Prop :=
  Pu (nilV r0) fun t8_1 =>
  Pu (faV 0 t8_1) fun t9_2 =>
  St 1 w t9_2 (Value.string (ByteArray.mk #[])) fun u_3 w_4 =>
  Pu (nilV r0) fun t10_5 =>
  Pu (faV 1 t10_5) fun t11_6 =>
  St 1 w_4 t11_6 e1 fun u_7 w_8 =>
  k (Value.int IntKind.i64 0) w_8
theorem e196 (k : KV) (r0 : Value) (e1 : Value) (w : World) : K KD Tryz.prog 12 (fun j =>  []) (fun j =>  none) (Tryz.f196.body.getD .skip) (retQ Tryz.prog Tryz.f196 k) (argF [r0, e1]) w = T196 k r0 e1 w := by kernel_rfl
theorem c196 {k : KV} {r0 : Value} {e1 : Value} {w : World} (h : T196 k r0 e1 w) : Cl Tryz.prog 196 [r0, e1] w k :=
  Cl_of_K KD_sound mixed Tryz.func196 (by kernel_rfl) (by kernel_rfl) ((e196 k r0 e1 w).symm ▸ h)

/-- Function 197: (*almonry/bits.Reader).Left. -/
def T197 (k : KV) (r0 : Value) (w : World) : Prop :=
  Pu (binV (TypeDesc.pointer 221) .eql r0 (Value.pointer none)) fun t4_1 =>
  IfB t4_1
    (k (Value.int IntKind.i64 0) w)
    (Pu (nilV r0) fun t6_2 =>
  Pu (faV 0 t6_2) fun t7_3 =>
  Ld w t7_3 fun t8_4 w_5 =>
  Pu (lenS t8_4) fun t9_6 =>
  k t9_6 w_5)
theorem e197 (k : KV) (r0 : Value) (w : World) : K KD Tryz.prog 10 (fun j =>  []) (fun j =>  none) (Tryz.f197.body.getD .skip) (retQ Tryz.prog Tryz.f197 k) (argF [r0]) w = T197 k r0 w := by kernel_rfl
theorem c197 {k : KV} {r0 : Value} {w : World} (h : T197 k r0 w) : Cl Tryz.prog 197 [r0] w k :=
  Cl_of_K KD_sound mixed Tryz.func197 (by kernel_rfl) (by kernel_rfl) ((e197 k r0 w).symm ▸ h)

/-- Function 198: slices.IndexFunc[[]int,int]. -/
def T198 (k : KV) (s0 : Value) (f1 : Value) (w : World) : Prop :=
  Pu (lenV s0) fun t7_1 =>
  ∃ (I_2 : List Value → World → Prop) (m_3 : List Value → World → Nat), I_2 [(Value.int IntKind.i64 0)] w ∧
  ∀ (g_19 : Fr) (w_18 : World), ∀ t8_7 : Value, I_2 [t8_7] w_18 →
    (Pu (binV (TypeDesc.int IntKind.i64) .lss t8_7 t7_1) fun t9_20 =>
    IfB t9_20
      (Pu (ixV 1 s0 t8_7) fun t14_21 =>
    Ld w_18 t14_21 fun t15_22 w_23 =>
    ClV Tryz.prog f1 [t15_22] w_23 fun t16_24 w_25 =>
    IfB t16_24
      (k t8_7 w_25)
      (Pu (binV (TypeDesc.int IntKind.i64) .add t8_7 (Value.int IntKind.i64 1)) fun t18_26 =>
    I_2 [t18_26] w_25 ∧ m_3 [t18_26] w_25 < m_3 [t8_7] w_18))
      (k (Value.int IntKind.i64 (-1)) w_18))
theorem e198 (k : KV) (s0 : Value) (f1 : Value) (w : World) : K KD Tryz.prog 19 (fun j => bif Nat.beq j 2 then [8] else []) (fun j =>  none) (Tryz.f198.body.getD .skip) (retQ Tryz.prog Tryz.f198 k) (argF [s0, f1]) w = T198 k s0 f1 w := by kernel_rfl
theorem c198 {k : KV} {s0 : Value} {f1 : Value} {w : World} (h : T198 k s0 f1 w) : Cl Tryz.prog 198 [s0, f1] w k :=
  Cl_of_K KD_sound mixed Tryz.func198 (by kernel_rfl) (by kernel_rfl) ((e198 k s0 f1 w).symm ▸ h)

/-- Function 199: almonry/bits.New. -/
def T199 (k : KV) (w : World) : Prop :=
  RunS Tryz.prog (Instr.build 243 #[]) w fun t1_1 w_2 =>
  New (Value.cells t1_1) 243 w_2 fun t2_3 w_4 =>
  k t2_3 w_4
theorem e199 (k : KV) (w : World) : K KD Tryz.prog 3 (fun j =>  []) (fun j =>  none) (Tryz.f199.body.getD .skip) (retQ Tryz.prog Tryz.f199 k) (argF []) w = T199 k  w := by kernel_rfl
theorem c199 {k : KV} {w : World} (h : T199 k  w) : Cl Tryz.prog 199 [] w k :=
  Cl_of_K KD_sound mixed Tryz.func199 (by kernel_rfl) (by kernel_rfl) ((e199 k  w).symm ▸ h)

/-- Function 200: (*almonry/bits.Writer).Num. -/
def T200 (k : KV) (wv0 : Value) (ns1 : Value) (w : World) : Prop :=
  Pu (binV (TypeDesc.pointer 243) .eql wv0 (Value.pointer none)) fun t7_1 =>
  IfB t7_1
    (k (.tuple #[]) w)
    (Pu (lenV ns1) fun t9_2 =>
  ∃ (I_3 : List Value → World → Prop) (m_4 : List Value → World → Nat), I_3 [(Value.int IntKind.i64 0)] w ∧
  ∀ (g_42 : Fr) (w_41 : World), ∀ t10_7 : Value, I_3 [t10_7] w_41 →
    (Pu (binV (TypeDesc.int IntKind.i64) .lss t10_7 t9_2) fun t11_43 =>
    IfB t11_43
      (Pu (ixV 1 ns1 t10_7) fun t12_44 =>
    Ld w_41 t12_44 fun t13_45 w_46 =>
    Pu (foldV0 max2V [t13_45, (Value.int IntKind.i64 0)]) fun t15_47 =>
    ∃ (I_48 : List Value → World → Prop) (m_49 : List Value → World → Nat), I_48 [t15_47] w_46 ∧
    ∀ (g_69 : Fr) (w_68 : World), ∀ n5_51 : Value, I_48 [n5_51] w_68 →
      (Pu (binV (TypeDesc.int IntKind.i64) .gtr n5_51 (Value.int IntKind.i64 127)) fun t17_70 =>
      IfB t17_70
        (Pu (nilV wv0) fun t22_71 =>
      Pu (faV 0 t22_71) fun t23_72 =>
      Ld w_68 t23_72 fun t24_73 w_74 =>
      Pu (cvI IntKind.u8 n5_51) fun t26_75 =>
      Pu (binV (TypeDesc.int IntKind.u8) .or t26_75 (Value.int IntKind.u8 128)) fun t27_76 =>
      RunS Tryz.prog (Instr.buildSlice 123 1 #[(0, t27_76)]) w_74 fun t28_77 w_78 =>
      RunS Tryz.prog (Builtin.append_ #[123, 123] 123 #[t24_73, t28_77]) w_78 fun t29_79 w_80 =>
      Pu (nilV wv0) fun t30_81 =>
      Pu (faV 0 t30_81) fun t31_82 =>
      St 1 w_80 t31_82 t29_79 fun u_83 w_84 =>
      Pu (binV (TypeDesc.int IntKind.i64) .shr n5_51 (Value.int IntKind.u64 7)) fun t19_85 =>
      I_48 [t19_85] w_84 ∧ m_49 [t19_85] w_84 < m_49 [n5_51] w_68)
        (Pu (nilV wv0) fun t34_86 =>
    Pu (faV 0 t34_86) fun t35_87 =>
    Ld w_68 t35_87 fun t36_88 w_89 =>
    Pu (cvI IntKind.u8 n5_51) fun t38_90 =>
    RunS Tryz.prog (Instr.buildSlice 123 1 #[(0, t38_90)]) w_89 fun t39_91 w_92 =>
    RunS Tryz.prog (Builtin.append_ #[123, 123] 123 #[t36_88, t39_91]) w_92 fun t40_93 w_94 =>
    Pu (nilV wv0) fun t41_95 =>
    Pu (faV 0 t41_95) fun t42_96 =>
    St 1 w_94 t42_96 t40_93 fun u_97 w_98 =>
    Pu (binV (TypeDesc.int IntKind.i64) .add t10_7 (Value.int IntKind.i64 1)) fun t43_99 =>
    I_3 [t43_99] w_98 ∧ m_4 [t43_99] w_98 < m_4 [t10_7] w_41)))
      (k (.tuple #[]) w_41)))
theorem e200 (k : KV) (wv0 : Value) (ns1 : Value) (w : World) : K KD Tryz.prog 44 (fun j => bif Nat.beq j 5 then [5] else bif Nat.beq j 2 then [10] else []) (fun j =>  none) (Tryz.f200.body.getD .skip) (retQ Tryz.prog Tryz.f200 k) (argF [wv0, ns1]) w = T200 k wv0 ns1 w := by kernel_rfl
theorem c200 {k : KV} {wv0 : Value} {ns1 : Value} {w : World} (h : T200 k wv0 ns1 w) : Cl Tryz.prog 200 [wv0, ns1] w k :=
  Cl_of_K KD_sound mixed Tryz.func200 (by kernel_rfl) (by kernel_rfl) ((e200 k wv0 ns1 w).symm ▸ h)

/-- Function 201: (*almonry/bits.Writer).Text. -/
def T201 (k : KV) (wv0 : Value) (s1 : Value) (w : World) : Prop :=
  Pu (binV (TypeDesc.pointer 243) .eql wv0 (Value.pointer none)) fun t5_1 =>
  IfB t5_1
    (k (.tuple #[]) w)
    (Pu (lenS s1) fun t8_2 =>
  RunS Tryz.prog (Instr.buildSlice 23 1 #[(0, t8_2)]) w fun t9_3 w_4 =>
  Cl Tryz.prog 200 [wv0, t9_3] w_4 fun t10_5 w_6 =>
  Pu (nilV wv0) fun t13_7 =>
  Pu (faV 0 t13_7) fun t14_8 =>
  Ld w_6 t14_8 fun t15_9 w_10 =>
  RunS Tryz.prog (Builtin.append_ #[123, 9] 123 #[t15_9, s1]) w_10 fun t17_11 w_12 =>
  Pu (nilV wv0) fun t18_13 =>
  Pu (faV 0 t18_13) fun t19_14 =>
  St 1 w_12 t19_14 t17_11 fun u_15 w_16 =>
  k (.tuple #[]) w_16)
theorem e201 (k : KV) (wv0 : Value) (s1 : Value) (w : World) : K KD Tryz.prog 20 (fun j =>  []) (fun j =>  none) (Tryz.f201.body.getD .skip) (retQ Tryz.prog Tryz.f201 k) (argF [wv0, s1]) w = T201 k wv0 s1 w := by kernel_rfl
theorem c201 {k : KV} {wv0 : Value} {s1 : Value} {w : World} (h : T201 k wv0 s1 w) : Cl Tryz.prog 201 [wv0, s1] w k :=
  Cl_of_K KD_sound mixed Tryz.func201 (by kernel_rfl) (by kernel_rfl) ((e201 k wv0 s1 w).symm ▸ h)

/-- Function 202: strings.TrimRight. -/
def T202 (k : KV) (s0 : Value) (cutset1 : Value) (w : World) : Prop :=
  Pu (binV TypeDesc.string .eql s0 (Value.string (ByteArray.mk #[]))) fun t8_1 =>
  Gd (isB false t8_1) (fun kk => kk cutset1 w) w fun t10_2 w_3 =>
  Gd (isB false t8_1) (fun kk => Pu (binV TypeDesc.string .eql t10_2 (Value.string (ByteArray.mk #[]))) fun vv => kk vv w_3) w_3 fun t11_4 w_5 =>
  Pu (pickV t8_1 (Value.bool true) t11_4) fun t12_6 =>
  IfB t12_6
    (k s0 w_5)
    (Pu (lenS cutset1) fun t15_7 =>
  Pu (binV (TypeDesc.int IntKind.i64) .eql t15_7 (Value.int IntKind.i64 1)) fun t16_8 =>
  Gd (isB true t16_8) (fun kk => kk cutset1 w_5) w_5 fun t18_9 w_10 =>
  Gd (isB true t16_8) (fun kk => Pu (ixS t18_9 (Value.int IntKind.i64 0)) fun vv => kk vv w_10) w_10 fun t19_11 w_12 =>
  Gd (isB true t16_8) (fun kk => Pu (binV (TypeDesc.int IntKind.u8) .lss t19_11 (Value.int IntKind.u8 128)) fun vv => kk vv w_12) w_12 fun t20_13 w_14 =>
  Pu (pickV t16_8 t20_13 (Value.bool false)) fun t21_15 =>
  IfB t21_15
    (Pu (ixS cutset1 (Value.int IntKind.i64 0)) fun t24_16 =>
      Cl Tryz.prog 182 [s0, t24_16] w_14 fun t25_17 w_18 =>
      k t25_17 w_18)
    (Cl Tryz.prog 183 [cutset1] w_14 fun t28_19 w_20 =>
  Pu (extV t28_19 0) fun t29_21 =>
  Pu (extV t28_19 1) fun t30_22 =>
  New #[(Value.bool false), (Value.bool false), (Value.bool false), (Value.bool false), (Value.bool false), (Value.bool false), (Value.bool false), (Value.bool false), (Value.bool false), (Value.bool false), (Value.bool false), (Value.bool false), (Value.bool false), (Value.bool false), (Value.bool false), (Value.bool false), (Value.bool false), (Value.bool false), (Value.bool false), (Value.bool false), (Value.bool false), (Value.bool false), (Value.bool false), (Value.bool false), (Value.bool false), (Value.bool false), (Value.bool false), (Value.bool false), (Value.bool false), (Value.bool false), (Value.bool false), (Value.bool false), (Value.bool false), (Value.bool false), (Value.bool false), (Value.bool false), (Value.bool false), (Value.bool false), (Value.bool false), (Value.bool false), (Value.bool false), (Value.bool false), (Value.bool false), (Value.bool false), (Value.bool false), (Value.bool false), (Value.bool false), (Value.bool false), (Value.bool false), (Value.bool false), (Value.bool false), (Value.bool false), (Value.bool false), (Value.bool false), (Value.bool false), (Value.bool false), (Value.bool false), (Value.bool false), (Value.bool false), (Value.bool false), (Value.bool false), (Value.bool false), (Value.bool false), (Value.bool false), (Value.bool false), (Value.bool false), (Value.bool false), (Value.bool false), (Value.bool false), (Value.bool false), (Value.bool false), (Value.bool false), (Value.bool false), (Value.bool false), (Value.bool false), (Value.bool false), (Value.bool false), (Value.bool false), (Value.bool false), (Value.bool false), (Value.bool false), (Value.bool false), (Value.bool false), (Value.bool false), (Value.bool false), (Value.bool false), (Value.bool false), (Value.bool false), (Value.bool false), (Value.bool false), (Value.bool false), (Value.bool false), (Value.bool false), (Value.bool false), (Value.bool false), (Value.bool false), (Value.bool false), (Value.bool false), (Value.bool false), (Value.bool false), (Value.bool false), (Value.bool false), (Value.bool false), (Value.bool false), (Value.bool false), (Value.bool false), (Value.bool false), (Value.bool false), (Value.bool false), (Value.bool false), (Value.bool false), (Value.bool false), (Value.bool false), (Value.bool false), (Value.bool false), (Value.bool false), (Value.bool false), (Value.bool false), (Value.bool false), (Value.bool false), (Value.bool false), (Value.bool false), (Value.bool false), (Value.bool false), (Value.bool false), (Value.bool false), (Value.bool false), (Value.bool false), (Value.bool false), (Value.bool false), (Value.bool false), (Value.bool false), (Value.bool false), (Value.bool false), (Value.bool false), (Value.bool false), (Value.bool false), (Value.bool false), (Value.bool false), (Value.bool false), (Value.bool false), (Value.bool false), (Value.bool false), (Value.bool false), (Value.bool false), (Value.bool false), (Value.bool false), (Value.bool false), (Value.bool false), (Value.bool false), (Value.bool false), (Value.bool false), (Value.bool false), (Value.bool false), (Value.bool false), (Value.bool false), (Value.bool false), (Value.bool false), (Value.bool false), (Value.bool false), (Value.bool false), (Value.bool false), (Value.bool false), (Value.bool false), (Value.bool false), (Value.bool false), (Value.bool false), (Value.bool false), (Value.bool false), (Value.bool false), (Value.bool false), (Value.bool false), (Value.bool false), (Value.bool false), (Value.bool false), (Value.bool false), (Value.bool false), (Value.bool false), (Value.bool false), (Value.bool false), (Value.bool false), (Value.bool false), (Value.bool false), (Value.bool false), (Value.bool false), (Value.bool false), (Value.bool false), (Value.bool false), (Value.bool false), (Value.bool false), (Value.bool false), (Value.bool false), (Value.bool false), (Value.bool false), (Value.bool false), (Value.bool false), (Value.bool false), (Value.bool false), (Value.bool false), (Value.bool false), (Value.bool false), (Value.bool false), (Value.bool false), (Value.bool false), (Value.bool false), (Value.bool false), (Value.bool false), (Value.bool false), (Value.bool false), (Value.bool false), (Value.bool false), (Value.bool false), (Value.bool false), (Value.bool false), (Value.bool false), (Value.bool false), (Value.bool false), (Value.bool false), (Value.bool false), (Value.bool false), (Value.bool false), (Value.bool false), (Value.bool false), (Value.bool false), (Value.bool false), (Value.bool false), (Value.bool false), (Value.bool false), (Value.bool false), (Value.bool false), (Value.bool false), (Value.bool false), (Value.bool false), (Value.bool false), (Value.bool false), (Value.bool false), (Value.bool false), (Value.bool false), (Value.bool false), (Value.bool false), (Value.bool false), (Value.bool false), (Value.bool false), (Value.bool false), (Value.bool false), (Value.bool false), (Value.bool false), (Value.bool false), (Value.bool false), (Value.bool false), (Value.bool false), (Value.bool false), (Value.bool false), (Value.bool false), (Value.bool false), (Value.bool false)] 212 w_20 fun as5_23 w_24 =>
  St 256 w_24 as5_23 t29_21 fun u_25 w_26 =>
  IfB t30_22
    (Cl Tryz.prog 185 [s0, as5_23] w_26 fun t33_27 w_28 =>
      k t33_27 w_28)
    (Cl Tryz.prog 187 [s0, cutset1] w_26 fun t36_29 w_30 =>
  k t36_29 w_30)))
theorem e202 (k : KV) (s0 : Value) (cutset1 : Value) (w : World) : K KD Tryz.prog 37 (fun j =>  []) (fun j =>  none) (Tryz.f202.body.getD .skip) (retQ Tryz.prog Tryz.f202 k) (argF [s0, cutset1]) w = T202 k s0 cutset1 w := by kernel_rfl
theorem c202 {k : KV} {s0 : Value} {cutset1 : Value} {w : World} (h : T202 k s0 cutset1 w) : Cl Tryz.prog 202 [s0, cutset1] w k :=
  Cl_of_K KD_sound mixed Tryz.func202 (by kernel_rfl) (by kernel_rfl) ((e202 k s0 cutset1 w).symm ▸ h)

/-- Function 203: (*almonry/bits.Writer).Bytes. -/
def T203 (k : KV) (wv0 : Value) (w : World) : Prop :=
  Pu (binV (TypeDesc.pointer 243) .eql wv0 (Value.pointer none)) fun t4_1 =>
  IfB t4_1
    (k (Value.string (ByteArray.mk #[])) w)
    (Pu (nilV wv0) fun t6_2 =>
  Pu (faV 0 t6_2) fun t7_3 =>
  Ld w t7_3 fun t8_4 w_5 =>
  RunS Tryz.prog (convert 123 9 t8_4) w_5 fun t9_6 w_7 =>
  k t9_6 w_7)
theorem e203 (k : KV) (wv0 : Value) (w : World) : K KD Tryz.prog 10 (fun j =>  []) (fun j =>  none) (Tryz.f203.body.getD .skip) (retQ Tryz.prog Tryz.f203 k) (argF [wv0]) w = T203 k wv0 w := by kernel_rfl
theorem c203 {k : KV} {wv0 : Value} {w : World} (h : T203 k wv0 w) : Cl Tryz.prog 203 [wv0] w k :=
  Cl_of_K KD_sound mixed Tryz.func203 (by kernel_rfl) (by kernel_rfl) ((e203 k wv0 w).symm ▸ h)

/-- Function 15: almonry/almonryref04.Same. -/
def T15 (k : KV) (a0 : Value) (b1 : Value) (w : World) : Prop :=
  New (Value.cells a0) 28 w fun a2_1 w_2 =>
  New (Value.cells b1) 28 w_2 fun b3_3 w_4 =>
  Pu (faV 0 a2_1) fun t8_5 =>
  Ld w_4 t8_5 fun t9_6 w_7 =>
  Pu (faV 0 b3_3) fun t10_8 =>
  Ld w_7 t10_8 fun t11_9 w_10 =>
  Pu (binV (TypeDesc.int IntKind.i64) .neq t9_6 t11_9) fun t12_11 =>
  Gd (isB false t12_11) (fun kk => Pu (faV 1 a2_1) fun vv => kk vv w_10) w_10 fun t14_12 w_13 =>
  Gd (isB false t12_11) (fun kk => Ld w_13 t14_12 kk) w_13 fun t15_14 w_15 =>
  Gd (isB false t12_11) (fun kk => Pu (faV 1 b3_3) fun vv => kk vv w_15) w_15 fun t16_16 w_17 =>
  Gd (isB false t12_11) (fun kk => Ld w_17 t16_16 kk) w_17 fun t17_18 w_19 =>
  Gd (isB false t12_11) (fun kk => Pu (binV (TypeDesc.int IntKind.i64) .neq t15_14 t17_18) fun vv => kk vv w_19) w_19 fun t18_20 w_21 =>
  Pu (pickV t12_11 (Value.bool true) t18_20) fun t19_22 =>
  Gd (isB false t19_22) (fun kk => Pu (faV 2 a2_1) fun vv => kk vv w_21) w_21 fun t21_23 w_24 =>
  Gd (isB false t19_22) (fun kk => Ld w_24 t21_23 kk) w_24 fun t22_25 w_26 =>
  Gd (isB false t19_22) (fun kk => Pu (faV 2 b3_3) fun vv => kk vv w_26) w_26 fun t23_27 w_28 =>
  Gd (isB false t19_22) (fun kk => Ld w_28 t23_27 kk) w_28 fun t24_29 w_30 =>
  Gd (isB false t19_22) (fun kk => Pu (binV (TypeDesc.int IntKind.i64) .neq t22_25 t24_29) fun vv => kk vv w_30) w_30 fun t25_31 w_32 =>
  Pu (pickV t19_22 (Value.bool true) t25_31) fun t26_33 =>
  Gd (isB false t26_33) (fun kk => Pu (faV 3 a2_1) fun vv => kk vv w_32) w_32 fun t28_34 w_35 =>
  Gd (isB false t26_33) (fun kk => Ld w_35 t28_34 kk) w_35 fun t29_36 w_37 =>
  Gd (isB false t26_33) (fun kk => Pu (faV 3 b3_3) fun vv => kk vv w_37) w_37 fun t30_38 w_39 =>
  Gd (isB false t26_33) (fun kk => Ld w_39 t30_38 kk) w_39 fun t31_40 w_41 =>
  Gd (isB false t26_33) (fun kk => Pu (binV (TypeDesc.int IntKind.u8) .neq t29_36 t31_40) fun vv => kk vv w_41) w_41 fun t32_42 w_43 =>
  Pu (pickV t26_33 (Value.bool true) t32_42) fun t33_44 =>
  Gd (isB false t33_44) (fun kk => Pu (faV 4 a2_1) fun vv => kk vv w_43) w_43 fun t35_45 w_46 =>
  Gd (isB false t33_44) (fun kk => Ld w_46 t35_45 kk) w_46 fun t36_47 w_48 =>
  Gd (isB false t33_44) (fun kk => Pu (faV 4 b3_3) fun vv => kk vv w_48) w_48 fun t37_49 w_50 =>
  Gd (isB false t33_44) (fun kk => Ld w_50 t37_49 kk) w_50 fun t38_51 w_52 =>
  Gd (isB false t33_44) (fun kk => Pu (binV (TypeDesc.int IntKind.i64) .neq t36_47 t38_51) fun vv => kk vv w_52) w_52 fun t39_53 w_54 =>
  Pu (pickV t33_44 (Value.bool true) t39_53) fun t40_55 =>
  Gd (isB false t40_55) (fun kk => Pu (faV 5 a2_1) fun vv => kk vv w_54) w_54 fun t42_56 w_57 =>
  Gd (isB false t40_55) (fun kk => Ld w_57 t42_56 kk) w_57 fun t43_58 w_59 =>
  Gd (isB false t40_55) (fun kk => Pu (faV 5 b3_3) fun vv => kk vv w_59) w_59 fun t44_60 w_61 =>
  Gd (isB false t40_55) (fun kk => Ld w_61 t44_60 kk) w_61 fun t45_62 w_63 =>
  Gd (isB false t40_55) (fun kk => Pu (binV (TypeDesc.int IntKind.i64) .neq t43_58 t45_62) fun vv => kk vv w_63) w_63 fun t46_64 w_65 =>
  Pu (pickV t40_55 (Value.bool true) t46_64) fun t47_66 =>
  Gd (isB false t47_66) (fun kk => Pu (faV 6 a2_1) fun vv => kk vv w_65) w_65 fun t49_67 w_68 =>
  Gd (isB false t47_66) (fun kk => Ld w_68 t49_67 kk) w_68 fun t50_69 w_70 =>
  Gd (isB false t47_66) (fun kk => Pu (faV 6 b3_3) fun vv => kk vv w_70) w_70 fun t51_71 w_72 =>
  Gd (isB false t47_66) (fun kk => Ld w_72 t51_71 kk) w_72 fun t52_73 w_74 =>
  Gd (isB false t47_66) (fun kk => Pu (binV (TypeDesc.int IntKind.i64) .neq t50_69 t52_73) fun vv => kk vv w_74) w_74 fun t53_75 w_76 =>
  Pu (pickV t47_66 (Value.bool true) t53_75) fun t54_77 =>
  Gd (isB false t54_77) (fun kk => Pu (faV 7 a2_1) fun vv => kk vv w_76) w_76 fun t56_78 w_79 =>
  Gd (isB false t54_77) (fun kk => Ld w_79 t56_78 kk) w_79 fun t57_80 w_81 =>
  Gd (isB false t54_77) (fun kk => Pu (faV 7 b3_3) fun vv => kk vv w_81) w_81 fun t58_82 w_83 =>
  Gd (isB false t54_77) (fun kk => Ld w_83 t58_82 kk) w_83 fun t59_84 w_85 =>
  Gd (isB false t54_77) (fun kk => Pu (binV (TypeDesc.int IntKind.i64) .neq t57_80 t59_84) fun vv => kk vv w_85) w_85 fun t60_86 w_87 =>
  Pu (pickV t54_77 (Value.bool true) t60_86) fun t61_88 =>
  Gd (isB false t61_88) (fun kk => Pu (faV 8 a2_1) fun vv => kk vv w_87) w_87 fun t63_89 w_90 =>
  Gd (isB false t61_88) (fun kk => Ld w_90 t63_89 kk) w_90 fun t64_91 w_92 =>
  Gd (isB false t61_88) (fun kk => Pu (faV 8 b3_3) fun vv => kk vv w_92) w_92 fun t65_93 w_94 =>
  Gd (isB false t61_88) (fun kk => Ld w_94 t65_93 kk) w_94 fun t66_95 w_96 =>
  Gd (isB false t61_88) (fun kk => Pu (binV (TypeDesc.int IntKind.i64) .neq t64_91 t66_95) fun vv => kk vv w_96) w_96 fun t67_97 w_98 =>
  Pu (pickV t61_88 (Value.bool true) t67_97) fun t68_99 =>
  Gd (isB false t68_99) (fun kk => Pu (faV 9 a2_1) fun vv => kk vv w_98) w_98 fun t70_100 w_101 =>
  Gd (isB false t68_99) (fun kk => Ld w_101 t70_100 kk) w_101 fun t71_102 w_103 =>
  Gd (isB false t68_99) (fun kk => Pu (faV 9 b3_3) fun vv => kk vv w_103) w_103 fun t72_104 w_105 =>
  Gd (isB false t68_99) (fun kk => Ld w_105 t72_104 kk) w_105 fun t73_106 w_107 =>
  Gd (isB false t68_99) (fun kk => Pu (binV (TypeDesc.int IntKind.i64) .neq t71_102 t73_106) fun vv => kk vv w_107) w_107 fun t74_108 w_109 =>
  Pu (pickV t68_99 (Value.bool true) t74_108) fun t75_110 =>
  Gd (isB false t75_110) (fun kk => Pu (faV 10 a2_1) fun vv => kk vv w_109) w_109 fun t77_111 w_112 =>
  Gd (isB false t75_110) (fun kk => Ld w_112 t77_111 kk) w_112 fun t78_113 w_114 =>
  Gd (isB false t75_110) (fun kk => Pu (faV 10 b3_3) fun vv => kk vv w_114) w_114 fun t79_115 w_116 =>
  Gd (isB false t75_110) (fun kk => Ld w_116 t79_115 kk) w_116 fun t80_117 w_118 =>
  Gd (isB false t75_110) (fun kk => Pu (binV TypeDesc.string .neq t78_113 t80_117) fun vv => kk vv w_118) w_118 fun t81_119 w_120 =>
  Pu (pickV t75_110 (Value.bool true) t81_119) fun t82_121 =>
  IfB t82_121
    (k (Value.bool false) w_120)
    (Pu (faV 11 a2_1) fun t83_122 =>
  Ld w_120 t83_122 fun t84_123 w_124 =>
  Pu (faV 11 b3_3) fun t85_125 =>
  Ld w_124 t85_125 fun t86_126 w_127 =>
  Cl Tryz.prog 88 [t84_123, t86_126] w_127 fun t87_128 w_129 =>
  Pu (unV .not t87_128) fun t88_130 =>
  Gd (isB false t88_130) (fun kk => Pu (faV 12 a2_1) fun vv => kk vv w_129) w_129 fun t90_131 w_132 =>
  Gd (isB false t88_130) (fun kk => Ld w_132 t90_131 kk) w_132 fun t91_133 w_134 =>
  Gd (isB false t88_130) (fun kk => Pu (faV 12 b3_3) fun vv => kk vv w_134) w_134 fun t92_135 w_136 =>
  Gd (isB false t88_130) (fun kk => Ld w_136 t92_135 kk) w_136 fun t93_137 w_138 =>
  Gd (isB false t88_130) (fun kk => Cl Tryz.prog 88 [t91_133, t93_137] w_138 kk) w_138 fun t94_139 w_140 =>
  Gd (isB false t88_130) (fun kk => Pu (unV .not t94_139) fun vv => kk vv w_140) w_140 fun t95_141 w_142 =>
  Pu (pickV t88_130 (Value.bool true) t95_141) fun t96_143 =>
  Gd (isB false t96_143) (fun kk => Pu (faV 13 a2_1) fun vv => kk vv w_142) w_142 fun t98_144 w_145 =>
  Gd (isB false t96_143) (fun kk => Ld w_145 t98_144 kk) w_145 fun t99_146 w_147 =>
  Gd (isB false t96_143) (fun kk => Pu (lenV t99_146) fun vv => kk vv w_147) w_147 fun t100_148 w_149 =>
  Gd (isB false t96_143) (fun kk => Pu (faV 13 b3_3) fun vv => kk vv w_149) w_149 fun t101_150 w_151 =>
  Gd (isB false t96_143) (fun kk => Ld w_151 t101_150 kk) w_151 fun t102_152 w_153 =>
  Gd (isB false t96_143) (fun kk => Pu (lenV t102_152) fun vv => kk vv w_153) w_153 fun t103_154 w_155 =>
  Gd (isB false t96_143) (fun kk => Pu (binV (TypeDesc.int IntKind.i64) .neq t100_148 t103_154) fun vv => kk vv w_155) w_155 fun t104_156 w_157 =>
  Pu (pickV t96_143 (Value.bool true) t104_156) fun t105_158 =>
  Gd (isB false t105_158) (fun kk => Pu (faV 14 a2_1) fun vv => kk vv w_157) w_157 fun t107_159 w_160 =>
  Gd (isB false t105_158) (fun kk => Ld w_160 t107_159 kk) w_160 fun t108_161 w_162 =>
  Gd (isB false t105_158) (fun kk => Pu (lenV t108_161) fun vv => kk vv w_162) w_162 fun t109_163 w_164 =>
  Gd (isB false t105_158) (fun kk => Pu (faV 14 b3_3) fun vv => kk vv w_164) w_164 fun t110_165 w_166 =>
  Gd (isB false t105_158) (fun kk => Ld w_166 t110_165 kk) w_166 fun t111_167 w_168 =>
  Gd (isB false t105_158) (fun kk => Pu (lenV t111_167) fun vv => kk vv w_168) w_168 fun t112_169 w_170 =>
  Gd (isB false t105_158) (fun kk => Pu (binV (TypeDesc.int IntKind.i64) .neq t109_163 t112_169) fun vv => kk vv w_170) w_170 fun t113_171 w_172 =>
  Pu (pickV t105_158 (Value.bool true) t113_171) fun t114_173 =>
  Gd (isB false t114_173) (fun kk => Pu (faV 15 a2_1) fun vv => kk vv w_172) w_172 fun t116_174 w_175 =>
  Gd (isB false t114_173) (fun kk => Ld w_175 t116_174 kk) w_175 fun t117_176 w_177 =>
  Gd (isB false t114_173) (fun kk => Pu (lenV t117_176) fun vv => kk vv w_177) w_177 fun t118_178 w_179 =>
  Gd (isB false t114_173) (fun kk => Pu (faV 15 b3_3) fun vv => kk vv w_179) w_179 fun t119_180 w_181 =>
  Gd (isB false t114_173) (fun kk => Ld w_181 t119_180 kk) w_181 fun t120_182 w_183 =>
  Gd (isB false t114_173) (fun kk => Pu (lenV t120_182) fun vv => kk vv w_183) w_183 fun t121_184 w_185 =>
  Gd (isB false t114_173) (fun kk => Pu (binV (TypeDesc.int IntKind.i64) .neq t118_178 t121_184) fun vv => kk vv w_185) w_185 fun t122_186 w_187 =>
  Pu (pickV t114_173 (Value.bool true) t122_186) fun t123_188 =>
  IfB t123_188
    (k (Value.bool false) w_187)
    (∃ (I_189 : List Value → World → Prop) (m_190 : List Value → World → Nat), I_189 [(Value.int IntKind.i64 0)] w_187 ∧
  ∀ (g_231 : Fr) (w_230 : World), ∀ i5_193 : Value, I_189 [i5_193] w_230 →
    (Pu (faV 13 a2_1) fun t125_232 =>
    Ld w_230 t125_232 fun t126_233 w_234 =>
    Pu (lenV t126_233) fun t127_235 =>
    Pu (binV (TypeDesc.int IntKind.i64) .lss i5_193 t127_235) fun t128_236 =>
    IfB t128_236
      (Pu (faV 13 a2_1) fun t131_237 =>
    Ld (World.drew w_234) t131_237 fun t132_238 w_239 =>
    w_239 = (World.drew w_234) ∧
    Pu (ixV 7 t132_238 i5_193) fun t134_240 =>
    Pu (faV 0 t134_240) fun t135_241 =>
    Ld (World.drew w_234) t135_241 fun t136_242 w_243 =>
    w_243 = (World.drew w_234) ∧
    Pu (faV 13 b3_3) fun t137_244 =>
    Ld (World.drew w_234) t137_244 fun t138_245 w_246 =>
    w_246 = (World.drew w_234) ∧
    Pu (ixV 7 t138_245 i5_193) fun t140_247 =>
    Pu (faV 0 t140_247) fun t141_248 =>
    Ld (World.drew w_234) t141_248 fun t142_249 w_250 =>
    w_250 = (World.drew w_234) ∧
    Pu (binV (TypeDesc.int IntKind.i64) .neq t136_242 t142_249) fun t143_251 =>
    Gd (isB false t143_251) (fun kk => Pu (faV 13 a2_1) fun vv => kk vv (World.drew w_234)) (World.drew w_234) fun t145_252 w_253 =>
    Gd (isB false t143_251) (fun kk => Ld w_253 t145_252 kk) w_253 fun t146_254 w_255 =>
    w_255 = w_253 ∧
    Gd (isB false t143_251) (fun kk => kk i5_193 w_253) w_253 fun t147_256 w_257 =>
    Gd (isB false t143_251) (fun kk => Pu (ixV 7 t146_254 t147_256) fun vv => kk vv w_257) w_257 fun t148_258 w_259 =>
    Gd (isB false t143_251) (fun kk => Pu (faV 1 t148_258) fun vv => kk vv w_259) w_259 fun t149_260 w_261 =>
    Gd (isB false t143_251) (fun kk => LdN 6 w_261 t149_260 kk) w_261 fun t150_262 w_263 =>
    w_263 = w_261 ∧
    Gd (isB false t143_251) (fun kk => Pu (faV 13 b3_3) fun vv => kk vv w_261) w_261 fun t151_264 w_265 =>
    Gd (isB false t143_251) (fun kk => Ld w_265 t151_264 kk) w_265 fun t152_266 w_267 =>
    w_267 = w_265 ∧
    Gd (isB false t143_251) (fun kk => kk i5_193 w_265) w_265 fun t153_268 w_269 =>
    Gd (isB false t143_251) (fun kk => Pu (ixV 7 t152_266 t153_268) fun vv => kk vv w_269) w_269 fun t154_270 w_271 =>
    Gd (isB false t143_251) (fun kk => Pu (faV 1 t154_270) fun vv => kk vv w_271) w_271 fun t155_272 w_273 =>
    Gd (isB false t143_251) (fun kk => LdN 6 w_273 t155_272 kk) w_273 fun t156_274 w_275 =>
    w_275 = w_273 ∧
    Gd (isB false t143_251) (fun kk => Cl Tryz.prog 34 [t150_262, t156_274] w_273 kk) w_273 fun t157_276 w_277 =>
    Gd (isB false t143_251) (fun kk => Pu (unV .not t157_276) fun vv => kk vv w_277) w_277 fun t158_278 w_279 =>
    Pu (pickV t143_251 (Value.bool true) t158_278) fun t159_280 =>
    IfB t159_280
      (k (Value.bool false) w_279)
      (Pu (binV (TypeDesc.int IntKind.i64) .add i5_193 (Value.int IntKind.i64 1)) fun t130_281 =>
    I_189 [t130_281] w_279 ∧ m_190 [t130_281] w_279 < m_190 [i5_193] w_230))
      (∃ (I_282 : List Value → World → Prop) (m_283 : List Value → World → Nat), I_282 [(Value.int IntKind.i64 0)] w_234 ∧
  ∀ (g_306 : Fr) (w_305 : World), ∀ i6_286 : Value, I_282 [i6_286] w_305 →
    (Pu (faV 14 a2_1) fun t161_307 =>
    Ld w_305 t161_307 fun t162_308 w_309 =>
    Pu (lenV t162_308) fun t163_310 =>
    Pu (binV (TypeDesc.int IntKind.i64) .lss i6_286 t163_310) fun t164_311 =>
    IfB t164_311
      (Pu (faV 14 a2_1) fun t167_312 =>
    Ld (World.drew w_309) t167_312 fun t168_313 w_314 =>
    w_314 = (World.drew w_309) ∧
    Pu (ixV 2 t168_313 i6_286) fun t170_315 =>
    LdN 2 (World.drew w_309) t170_315 fun t171_316 w_317 =>
    w_317 = (World.drew w_309) ∧
    Pu (faV 14 b3_3) fun t172_318 =>
    Ld (World.drew w_309) t172_318 fun t173_319 w_320 =>
    w_320 = (World.drew w_309) ∧
    Pu (ixV 2 t173_319 i6_286) fun t175_321 =>
    LdN 2 (World.drew w_309) t175_321 fun t176_322 w_323 =>
    w_323 = (World.drew w_309) ∧
    RunS Tryz.prog (do eqGuard .neq 120 (Operand.tmp 171) (Operand.tmp 176) t171_316 t176_322; binOp .neq 120 t171_316 t176_322) (World.drew w_309) fun t177_324 w_325 =>
    w_325 = (World.drew w_309) ∧
    IfB t177_324
      (k (Value.bool false) (World.drew w_309))
      (Pu (binV (TypeDesc.int IntKind.i64) .add i6_286 (Value.int IntKind.i64 1)) fun t166_326 =>
    I_282 [t166_326] (World.drew w_309) ∧ m_283 [t166_326] (World.drew w_309) < m_283 [i6_286] w_305))
      (∃ (I_327 : List Value → World → Prop) (m_328 : List Value → World → Nat), I_327 [(Value.int IntKind.i64 0)] w_309 ∧
  ∀ (g_351 : Fr) (w_350 : World), ∀ i7_331 : Value, I_327 [i7_331] w_350 →
    (Pu (faV 15 a2_1) fun t179_352 =>
    Ld w_350 t179_352 fun t180_353 w_354 =>
    Pu (lenV t180_353) fun t181_355 =>
    Pu (binV (TypeDesc.int IntKind.i64) .lss i7_331 t181_355) fun t182_356 =>
    IfB t182_356
      (Pu (faV 15 a2_1) fun t185_357 =>
    Ld (World.drew w_354) t185_357 fun t186_358 w_359 =>
    w_359 = (World.drew w_354) ∧
    Pu (ixV 2 t186_358 i7_331) fun t188_360 =>
    LdN 2 (World.drew w_354) t188_360 fun t189_361 w_362 =>
    w_362 = (World.drew w_354) ∧
    Pu (faV 15 b3_3) fun t190_363 =>
    Ld (World.drew w_354) t190_363 fun t191_364 w_365 =>
    w_365 = (World.drew w_354) ∧
    Pu (ixV 2 t191_364 i7_331) fun t193_366 =>
    LdN 2 (World.drew w_354) t193_366 fun t194_367 w_368 =>
    w_368 = (World.drew w_354) ∧
    RunS Tryz.prog (do eqGuard .neq 122 (Operand.tmp 189) (Operand.tmp 194) t189_361 t194_367; binOp .neq 122 t189_361 t194_367) (World.drew w_354) fun t195_369 w_370 =>
    w_370 = (World.drew w_354) ∧
    IfB t195_369
      (k (Value.bool false) (World.drew w_354))
      (Pu (binV (TypeDesc.int IntKind.i64) .add i7_331 (Value.int IntKind.i64 1)) fun t184_371 =>
    I_327 [t184_371] (World.drew w_354) ∧ m_328 [t184_371] (World.drew w_354) < m_328 [i7_331] w_350))
      (k (Value.bool true) w_354))))))))
theorem e15 (k : KV) (a0 : Value) (b1 : Value) (w : World) : K KD Tryz.prog 196 (fun j => bif Nat.beq j 16 then [7] else bif Nat.beq j 11 then [6] else bif Nat.beq j 6 then [5] else []) (fun j =>  none) (Tryz.f15.body.getD .skip) (retQ Tryz.prog Tryz.f15 k) (argF [a0, b1]) w = T15 k a0 b1 w := by kernel_rfl
theorem c15 {k : KV} {a0 : Value} {b1 : Value} {w : World} (h : T15 k a0 b1 w) : Cl Tryz.prog 15 [a0, b1] w k :=
  Cl_of_K KD_sound mixed Tryz.func15 (by kernel_rfl) (by kernel_rfl) ((e15 k a0 b1 w).symm ▸ h)

/-- Function 88: almonry/almonryref04.ints. -/
def T88 (k : KV) (a0 : Value) (b1 : Value) (w : World) : Prop :=
  Pu (lenV a0) fun t7_1 =>
  Pu (lenV b1) fun t9_2 =>
  Pu (binV (TypeDesc.int IntKind.i64) .neq t7_1 t9_2) fun t10_3 =>
  IfB t10_3
    (k (Value.bool false) w)
    (∃ (I_4 : List Value → World → Prop) (m_5 : List Value → World → Nat), I_4 [(Value.int IntKind.i64 0)] w ∧
  ∀ (g_25 : Fr) (w_24 : World), ∀ i5_8 : Value, I_4 [i5_8] w_24 →
    (Pu (lenV a0) fun t13_26 =>
    Pu (binV (TypeDesc.int IntKind.i64) .lss i5_8 t13_26) fun t14_27 =>
    IfB t14_27
      (Pu (ixV 1 a0 i5_8) fun t19_28 =>
    Ld (World.drew w_24) t19_28 fun t20_29 w_30 =>
    w_30 = (World.drew w_24) ∧
    Pu (ixV 1 b1 i5_8) fun t23_31 =>
    Ld (World.drew w_24) t23_31 fun t24_32 w_33 =>
    w_33 = (World.drew w_24) ∧
    Pu (binV (TypeDesc.int IntKind.i64) .neq t20_29 t24_32) fun t25_34 =>
    IfB t25_34
      (k (Value.bool false) (World.drew w_24))
      (Pu (binV (TypeDesc.int IntKind.i64) .add i5_8 (Value.int IntKind.i64 1)) fun t16_35 =>
    I_4 [t16_35] (World.drew w_24) ∧ m_5 [t16_35] (World.drew w_24) < m_5 [i5_8] w_24))
      (k (Value.bool true) w_24)))
theorem e88 (k : KV) (a0 : Value) (b1 : Value) (w : World) : K KD Tryz.prog 26 (fun j => bif Nat.beq j 4 then [5] else []) (fun j =>  none) (Tryz.f88.body.getD .skip) (retQ Tryz.prog Tryz.f88 k) (argF [a0, b1]) w = T88 k a0 b1 w := by kernel_rfl
theorem c88 {k : KV} {a0 : Value} {b1 : Value} {w : World} (h : T88 k a0 b1 w) : Cl Tryz.prog 88 [a0, b1] w k :=
  Cl_of_K KD_sound mixed Tryz.func88 (by kernel_rfl) (by kernel_rfl) ((e88 k a0 b1 w).symm ▸ h)

/-- Function 16: almonry/almonrylaw04.awake. -/
def T16 (k : KV) (w : World) : Prop :=
  Cl Tryz.prog 90 [] w fun t10_1 w_2 =>
  Cl Tryz.prog 89 [t10_1] w_2 fun t11_3 w_4 =>
  Pu (extV t11_3 0) fun t12_5 =>
  Pu (extV t11_3 1) fun t13_6 =>
  Cl Tryz.prog 13 [t12_5] w_4 fun t16_7 w_8 =>
  Pu (extV t16_7 0) fun t17_9 =>
  Pu (extV t16_7 1) fun t18_10 =>
  Pu (extV t16_7 2) fun t19_11 =>
  New #[(Value.int IntKind.i64 0), (Value.int IntKind.i64 0), (Value.int IntKind.i64 0), (Value.int IntKind.u8 0), (Value.int IntKind.i64 0), (Value.int IntKind.i64 0), (Value.int IntKind.i64 0), (Value.int IntKind.i64 0), (Value.int IntKind.i64 0), (Value.int IntKind.i64 0), (Value.string (ByteArray.mk #[])), (Value.slice none 0 0), (Value.slice none 0 0), (Value.slice none 0 0), (Value.slice none 0 0), (Value.slice none 0 0)] 28 w_8 fun r3_12 w_13 =>
  St 16 w_13 r3_12 t17_9 fun u_14 w_15 =>
  Pu (lenS t12_5) fun t23_16 =>
  Pu (foldV0 min2V [t23_16, (Value.int IntKind.i64 7)]) fun t24_17 =>
  Pu (slS t12_5 none (some t24_17)) fun t25_18 =>
  Cl Tryz.prog 13 [t25_18] w_15 fun t26_19 w_20 =>
  Pu (extV t26_19 0) fun t27_21 =>
  Pu (extV t26_19 1) fun t28_22 =>
  Pu (extV t26_19 2) fun t29_23 =>
  New #[(Value.int IntKind.i64 0), (Value.int IntKind.i64 0), (Value.int IntKind.i64 0), (Value.int IntKind.u8 0), (Value.int IntKind.i64 0), (Value.int IntKind.i64 0), (Value.int IntKind.i64 0), (Value.int IntKind.i64 0), (Value.int IntKind.i64 0), (Value.int IntKind.i64 0), (Value.string (ByteArray.mk #[])), (Value.slice none 0 0), (Value.slice none 0 0), (Value.slice none 0 0), (Value.slice none 0 0), (Value.slice none 0 0)] 28 w_20 fun t6_24 w_25 =>
  St 16 w_25 t6_24 t27_21 fun u_26 w_27 =>
  ∃ C_28 : World → Prop, C_28 (World.drew w_27) ∧
  (Pu (binV (TypeDesc.int IntKind.i64) .eql t13_6 (Value.int IntKind.i64 0)) fun t31_29 =>
  Gd (isB true t31_29) (fun kk => kk t19_11 (World.drew w_27)) (World.drew w_27) fun t33_30 w_31 =>
  Gd (isB true t31_29) (fun kk => Pu (binV (TypeDesc.int IntKind.i64) .eql t33_30 (Value.int IntKind.i64 0)) fun vv => kk vv w_31) w_31 fun t34_32 w_33 =>
  Pu (pickV t31_29 t34_32 (Value.bool false)) fun t35_34 =>
  Gd (isB true t35_34) (fun kk => kk t29_23 w_33) w_33 fun t37_35 w_36 =>
  Gd (isB true t35_34) (fun kk => Pu (binV (TypeDesc.int IntKind.i64) .eql t37_35 (Value.int IntKind.i64 40)) fun vv => kk vv w_36) w_36 fun t38_37 w_38 =>
  Pu (pickV t35_34 t38_37 (Value.bool false)) fun t39_39 =>
  Gd (isB true t39_39) (fun kk => kk t12_5 w_38) w_38 fun t41_40 w_41 =>
  Gd (isB true t39_39) (fun kk => Pu (lenS t41_40) fun vv => kk vv w_41) w_41 fun t42_42 w_43 =>
  Gd (isB true t39_39) (fun kk => Pu (binV (TypeDesc.int IntKind.i64) .eql t42_42 (Value.int IntKind.i64 24)) fun vv => kk vv w_43) w_43 fun t43_44 w_45 =>
  Pu (pickV t39_39 t43_44 (Value.bool false)) fun t44_46 =>
  Gd (isB true t44_46) (fun kk => kk t18_10 w_45) w_45 fun t46_47 w_48 =>
  Gd (isB true t44_46) (fun kk => Pu (binV (TypeDesc.int IntKind.i64) .eql t46_47 (Value.int IntKind.i64 24)) fun vv => kk vv w_48) w_48 fun t47_49 w_50 =>
  Pu (pickV t44_46 t47_49 (Value.bool false)) fun t48_51 =>
  Gd (isB true t48_51) (fun kk => kk t12_5 w_50) w_50 fun t50_52 w_53 =>
  Gd (isB true t48_51) (fun kk => Pu (ixS t50_52 (Value.int IntKind.i64 3)) fun vv => kk vv w_53) w_53 fun t51_54 w_55 =>
  Gd (isB true t48_51) (fun kk => Pu (binV (TypeDesc.int IntKind.u8) .eql t51_54 (Value.int IntKind.u8 16)) fun vv => kk vv w_55) w_55 fun t52_56 w_57 =>
  Pu (pickV t48_51 t52_56 (Value.bool false)) fun t53_58 =>
  Gd (isB true t53_58) (fun kk => kk t12_5 w_57) w_57 fun t55_59 w_60 =>
  Gd (isB true t53_58) (fun kk => Pu (ixS t55_59 (Value.int IntKind.i64 8)) fun vv => kk vv w_60) w_60 fun t56_61 w_62 =>
  Gd (isB true t53_58) (fun kk => Pu (binV (TypeDesc.int IntKind.u8) .eql t56_61 (Value.int IntKind.u8 1)) fun vv => kk vv w_62) w_62 fun t57_63 w_64 =>
  Pu (pickV t53_58 t57_63 (Value.bool false)) fun t58_65 =>
  ∃ t60_66, (∀ w_67, C_28 w_67 → Gd (isB true t58_65) (fun kk => LdN 16 w_67 r3_12 kk) w_67 fun t60_68 w_69 =>
  t60_68 = t60_66 ∧ w_69 = w_67) ∧
  (Gd (isB true t58_65) (fun kk => Cl Tryz.prog 90 [] w_64 kk) w_64 fun t61_70 w_71 =>
  C_28 w_71 ∧
  (Gd (isB true t58_65) (fun kk => Cl Tryz.prog 91 [t60_66, t61_70] w_71 kk) w_71 fun t62_72 w_73 =>
  Pu (pickV t58_65 t62_72 (Value.bool false)) fun t63_74 =>
  Gd (isB true t63_74) (fun kk => RunS Tryz.prog (Instr.build 28 #[]) w_73 kk) w_73 fun t65_75 w_76 =>
  w_76 = w_73 ∧
  Gd (isB true t63_74) (fun kk => Cl Tryz.prog 92 [t65_75] w_73 kk) w_73 fun t66_77 w_78 =>
  Gd (isB true t63_74) (fun kk => Pu (binV (TypeDesc.int IntKind.i64) .eql t66_77 (Value.int IntKind.i64 41)) fun vv => kk vv w_78) w_78 fun t67_79 w_80 =>
  Pu (pickV t63_74 t67_79 (Value.bool false)) fun t68_81 =>
  k t68_81 w_80)))
theorem e16 (k : KV) (w : World) : K KD Tryz.prog 69 (fun j =>  []) (fun j =>  none) (Tryz.f16.body.getD .skip) (retQ Tryz.prog Tryz.f16 k) (argF []) w = T16 k  w := by kernel_rfl
theorem c16 {k : KV} {w : World} (h : T16 k  w) : Cl Tryz.prog 16 [] w k :=
  Cl_of_K KD_sound mixed Tryz.func16 (by kernel_rfl) (by kernel_rfl) ((e16 k  w).symm ▸ h)

end Go.Proofs.YthbngnlmgplijaaGreatDoor
