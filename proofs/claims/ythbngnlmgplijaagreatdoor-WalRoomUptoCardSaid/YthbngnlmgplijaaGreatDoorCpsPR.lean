import Derived.Test.YthbngnlmgplijaaGreatDoorCpsP
import Derived.Test.YthbngnlmgplijaaGreatDoorAlDraw2
import Derived.Test.YthbngnlmgplijaaGreatDoorRows
namespace Go.Proofs.YthbngnlmgplijaaGreatDoor
open Go.Al Go.Proofs
set_option maxRecDepth 100000
set_option linter.unusedVariables false
set_option linter.unusedSimpArgs false
/-- Function 192: almonry/almonryref01.Big. -/
def T192 (k : KV) (n0 : Value) (width1 : Value) (w : World) : Prop :=
  Pu (binV (TypeDesc.int IntKind.i64) .lss width1 (Value.int IntKind.i64 1)) fun t8_1 =>
  Gd (isB false t8_1) (fun kk => kk width1 w) w fun t10_2 w_3 =>
  Gd (isB false t8_1) (fun kk => Pu (binV (TypeDesc.int IntKind.i64) .gtr t10_2 (Value.int IntKind.i64 8)) fun vv => kk vv w_3) w_3 fun t11_4 w_5 =>
  Pu (pickV t8_1 (Value.bool true) t11_4) fun t12_6 =>
  Gd (isB false t12_6) (fun kk => kk n0 w_5) w_5 fun t14_7 w_8 =>
  Gd (isB false t12_6) (fun kk => Pu (binV (TypeDesc.int IntKind.i64) .lss t14_7 (Value.int IntKind.i64 0)) fun vv => kk vv w_8) w_8 fun t15_9 w_10 =>
  Pu (pickV t12_6 (Value.bool true) t15_9) fun t16_11 =>
  IfB t16_11
    (k (Value.string (ByteArray.mk #[])) w_10)
    (RunS Tryz.prog (Instr.makeSlice 123 width1 width1) w_10 fun t18_12 w_13 =>
  Pu (binV (TypeDesc.int IntKind.i64) .sub width1 (Value.int IntKind.i64 1)) fun t20_14 =>
  ∃ (I_15 : List Value → World → Prop) (m_16 : List Value → World → Nat), I_15 [n0, t20_14] w_13 ∧
  ∀ (g_33 : Fr) (w_32 : World), ∀ n0_18 : Value, ∀ i6_19 : Value, I_15 [n0_18, i6_19] w_32 →
    (Pu (binV (TypeDesc.int IntKind.i64) .geq i6_19 (Value.int IntKind.i64 0)) fun t22_34 =>
    IfB t22_34
      (Pu (binV (TypeDesc.int IntKind.i64) .rem n0_18 (Value.int IntKind.i64 256)) fun t28_35 =>
    Pu (cvI IntKind.u8 t28_35) fun t29_36 =>
    Pu (ixV 1 t18_12 i6_19) fun t30_37 =>
    St 1 w_32 t30_37 t29_36 fun u_38 w_39 =>
    Pu (binV (TypeDesc.int IntKind.i64) .quo n0_18 (Value.int IntKind.i64 256)) fun t32_40 =>
    Pu (binV (TypeDesc.int IntKind.i64) .sub i6_19 (Value.int IntKind.i64 1)) fun t24_41 =>
    I_15 [t32_40, t24_41] w_39 ∧ m_16 [t32_40, t24_41] w_39 < m_16 [n0_18, i6_19] w_32)
      (RunS Tryz.prog (convert 123 9 t18_12) w_32 fun t34_42 w_43 =>
  k t34_42 w_43)))
theorem e192 (k : KV) (n0 : Value) (width1 : Value) (w : World) : K KD Tryz.prog 35 (fun j => bif Nat.beq j 5 then [0, 6] else []) (fun j =>  none) (Tryz.f192.body.getD .skip) (retQ Tryz.prog Tryz.f192 k) (argF [n0, width1]) w = T192 k n0 width1 w := by kernel_rfl
theorem c192 {k : KV} {n0 : Value} {width1 : Value} {w : World} (h : T192 k n0 width1 w) : Cl Tryz.prog 192 [n0, width1] w k :=
  Cl_of_K KD_sound mixed Tryz.func192 (by kernel_rfl) (by kernel_rfl) ((e192 k n0 width1 w).symm ▸ h)

/-- Function 83: almonry/almonryref01.Of. -/
def T83 (k : KV) (data0 : Value) (w : World) : Prop :=
  ∃ (I_1 : List Value → World → Prop) (m_2 : List Value → World → Nat), I_1 [(Value.int IntKind.i64 0), (Value.int IntKind.i64 0)] w ∧
  ∀ (g_21 : Fr) (w_20 : World), ∀ n3_4 : Value, ∀ i4_5 : Value, I_1 [n3_4, i4_5] w_20 →
    (Pu (lenS data0) fun t7_22 =>
    Pu (binV (TypeDesc.int IntKind.i64) .lss i4_5 t7_22) fun t8_23 =>
    IfB t8_23
      (Pu (binV (TypeDesc.int IntKind.i64) .rem n3_4 (Value.int IntKind.i64 36028797018963968)) fun t12_24 =>
    Pu (binV (TypeDesc.int IntKind.i64) .mul t12_24 (Value.int IntKind.i64 256)) fun t13_25 =>
    Pu (ixS data0 i4_5) fun t16_26 =>
    Pu (cvI IntKind.i64 t16_26) fun t17_27 =>
    Pu (binV (TypeDesc.int IntKind.i64) .add t13_25 t17_27) fun t18_28 =>
    Pu (binV (TypeDesc.int IntKind.i64) .add i4_5 (Value.int IntKind.i64 1)) fun t10_29 =>
    I_1 [t18_28, t10_29] w_20 ∧ m_2 [t18_28, t10_29] w_20 < m_2 [n3_4, i4_5] w_20)
      (k n3_4 w_20))
theorem e83 (k : KV) (data0 : Value) (w : World) : K KD Tryz.prog 20 (fun j => bif Nat.beq j 3 then [3, 4] else []) (fun j =>  none) (Tryz.f83.body.getD .skip) (retQ Tryz.prog Tryz.f83 k) (argF [data0]) w = T83 k data0 w := by kernel_rfl
theorem c83 {k : KV} {data0 : Value} {w : World} (h : T83 k data0 w) : Cl Tryz.prog 83 [data0] w k :=
  Cl_of_K KD_sound mixed Tryz.func83 (by kernel_rfl) (by kernel_rfl) ((e83 k data0 w).symm ▸ h)

/-- Function 84: almonry/almonryref01.Sum. -/
def T84 (k : KV) (data0 : Value) (w : World) : Prop :=
  ∃ (I_1 : List Value → World → Prop) (m_2 : List Value → World → Nat), I_1 [(Value.int IntKind.u32 4294967295), (Value.int IntKind.i64 0)] w ∧
  ∀ (g_33 : Fr) (w_32 : World), ∀ c3_4 : Value, ∀ i4_5 : Value, I_1 [c3_4, i4_5] w_32 →
    (Pu (lenS data0) fun t9_34 =>
    Pu (binV (TypeDesc.int IntKind.i64) .lss i4_5 t9_34) fun t10_35 =>
    IfB t10_35
      (Pu (ixS data0 i4_5) fun t16_36 =>
    Pu (cvI IntKind.u32 t16_36) fun t17_37 =>
    Pu (binV (TypeDesc.int IntKind.u32) .xor c3_4 t17_37) fun t18_38 =>
    ∃ (I_39 : List Value → World → Prop) (m_40 : List Value → World → Nat), I_39 [t18_38, (Value.int IntKind.i64 0)] w_32 ∧
    ∀ (g_58 : Fr) (w_57 : World), ∀ c3_42 : Value, ∀ kv5_43 : Value, I_39 [c3_42, kv5_43] w_57 →
      (Pu (binV (TypeDesc.int IntKind.i64) .lss kv5_43 (Value.int IntKind.i64 8)) fun t20_59 =>
      IfB t20_59
        (Jn (fun vs_72 w_71 => ∀ g_73 : Fr, ∃ c3_61 : Value, vs_72 = [c3_61] ∧
          (Pu (binV (TypeDesc.int IntKind.i64) .add kv5_43 (Value.int IntKind.i64 1)) fun t22_74 =>
          I_39 [c3_61, t22_74] w_71 ∧ m_40 [c3_61, t22_74] w_71 < m_40 [c3_42, kv5_43] w_57))
        (fun jj_60 =>
        Pu (binV (TypeDesc.int IntKind.u32) .rem c3_42 (Value.int IntKind.u32 2)) fun t24_75 =>
        Pu (binV (TypeDesc.int IntKind.u32) .eql t24_75 (Value.int IntKind.u32 1)) fun t25_76 =>
        Pu (binV (TypeDesc.int IntKind.u32) .quo c3_42 (Value.int IntKind.u32 2)) fun t27_77 =>
        IfB t25_76
          (Pu (binV (TypeDesc.int IntKind.u32) .xor t27_77 (Value.int IntKind.u32 3988292384)) fun t30_78 =>
            jj_60 [t30_78] w_57)
          (jj_60 [t27_77] w_57)))
        (Pu (binV (TypeDesc.int IntKind.i64) .add i4_5 (Value.int IntKind.i64 1)) fun t12_79 =>
    I_1 [c3_42, t12_79] w_57 ∧ m_2 [c3_42, t12_79] w_57 < m_2 [c3_4, i4_5] w_32)))
      (Pu (binV (TypeDesc.int IntKind.u32) .xor c3_4 (Value.int IntKind.u32 4294967295)) fun t32_80 =>
  k t32_80 w_32))
theorem e84 (k : KV) (data0 : Value) (w : World) : K KD Tryz.prog 33 (fun j => bif Nat.beq j 7 then [3, 5] else bif Nat.beq j 3 then [3, 4] else []) (fun j => bif Nat.beq j 8 then some [3] else none) (Tryz.f84.body.getD .skip) (retQ Tryz.prog Tryz.f84 k) (argF [data0]) w = T84 k data0 w := by kernel_rfl
theorem c84 {k : KV} {data0 : Value} {w : World} (h : T84 k data0 w) : Cl Tryz.prog 84 [data0] w k :=
  Cl_of_K KD_sound mixed Tryz.func84 (by kernel_rfl) (by kernel_rfl) ((e84 k data0 w).symm ▸ h)

/-- Function 127: almonry/almonryref03.Decode. -/
def T127 (k : KV) (data0 : Value) (w : World) : Prop :=
  New #[(Value.int IntKind.i64 0), (Value.int IntKind.i64 0), (Value.int IntKind.i64 0), (Value.int IntKind.i64 0), (Value.string (ByteArray.mk #[])), (Value.slice none 0 0)] 61 w fun t2_1 w_2 =>
  Pu (lenS data0) fun t12_3 =>
  Pu (binV (TypeDesc.int IntKind.i64) .neq t12_3 (Value.int IntKind.i64 512)) fun t13_4 =>
  IfB t13_4
    (RunS Tryz.prog (Instr.build 61 #[]) w_2 fun t14_5 w_6 =>
      St 6 w_6 t2_1 t14_5 fun u_7 w_8 =>
      RetO (resL Tryz.prog (fun j => bif Nat.beq j 2 then t2_1 else bif Nat.beq j 3 then (Value.int IntKind.i64 31) else undef) w_8 [(ResultVar.cell 2 61), (ResultVar.tmp 3)]) w_8 k)
    (Pu (slS data0 none (some (Value.int IntKind.i64 4))) fun t16_9 =>
  Pu (slS data0 (some (Value.int IntKind.i64 4)) none) fun t19_10 =>
  Cl Tryz.prog 83 [t16_9] (World.drew w_2) fun t17_11 w_12 =>
  Cl Tryz.prog 84 [t19_10] w_12 fun t20_13 w_14 =>
  Pu (cvI IntKind.i64 t20_13) fun t21_15 =>
  Pu (binV (TypeDesc.int IntKind.i64) .neq t17_11 t21_15) fun t22_16 =>
  IfB t22_16
    (RunS Tryz.prog (Instr.build 61 #[]) w_14 fun t23_17 w_18 =>
      St 6 w_18 t2_1 t23_17 fun u_19 w_20 =>
      RetO (resL Tryz.prog (fun j => bif Nat.beq j 2 then t2_1 else bif Nat.beq j 3 then (Value.int IntKind.i64 30) else undef) w_20 [(ResultVar.cell 2 61), (ResultVar.tmp 3)]) w_20 k)
    (Jn (fun vs_37 w_36 => ∀ g_38 : Fr, ∃ p4_22 : Value, vs_37 = [p4_22] ∧
      (Pu (ixS data0 (Value.int IntKind.i64 18)) fun t38_39 =>
      Pu (cvI IntKind.i64 t38_39) fun t39_40 =>
      Pu (ixS data0 (Value.int IntKind.i64 19)) fun t41_41 =>
      Pu (cvI IntKind.i64 t41_41) fun t42_42 =>
      Pu (binV (TypeDesc.int IntKind.i64) .add (Value.int IntKind.i64 20) t42_42) fun t43_43 =>
      Pu (slS data0 (some (Value.int IntKind.i64 20)) (some t43_43)) fun t46_44 =>
      Pu (faV 4 p4_22) fun t47_45 =>
      St 1 w_36 t47_45 t46_44 fun u_46 w_47 =>
      ∃ (I_48 : List Value → World → Prop) (m_49 : List Value → World → Nat), I_48 [t43_43, (Value.int IntKind.i64 0)] w_47 ∧
      ∀ (g_94 : Fr) (w_93 : World), ∀ atv6_52 : Value, ∀ i7_53 : Value, I_48 [atv6_52, i7_53] w_93 →
        (Pu (binV (TypeDesc.int IntKind.i64) .lss i7_53 t39_40) fun t50_95 =>
        IfB t50_95
          (Pu (binV (TypeDesc.int IntKind.i64) .add atv6_52 (Value.int IntKind.i64 2)) fun t54_96 =>
        Pu (binV (TypeDesc.int IntKind.i64) .gtr t54_96 (Value.int IntKind.i64 512)) fun t55_97 =>
        IfB t55_97
          (RunS Tryz.prog (Instr.build 61 #[]) w_93 fun t56_98 w_99 =>
            St 6 w_99 t2_1 t56_98 fun u_100 w_101 =>
            RetO (resL Tryz.prog (fun j => bif Nat.beq j 2 then t2_1 else bif Nat.beq j 3 then (Value.int IntKind.i64 31) else undef) w_101 [(ResultVar.cell 2 61), (ResultVar.tmp 3)]) w_101 k)
          (Pu (binV (TypeDesc.int IntKind.i64) .add atv6_52 (Value.int IntKind.i64 2)) fun t60_102 =>
        Pu (slS data0 (some atv6_52) (some t60_102)) fun t61_103 =>
        Cl Tryz.prog 83 [t61_103] w_93 fun t62_104 w_105 =>
        Pu (binV (TypeDesc.int IntKind.i64) .add atv6_52 (Value.int IntKind.i64 2)) fun t64_106 =>
        Pu (binV (TypeDesc.int IntKind.i64) .add t64_106 t62_104) fun t66_107 =>
        Pu (binV (TypeDesc.int IntKind.i64) .gtr t66_107 (Value.int IntKind.i64 512)) fun t67_108 =>
        IfB t67_108
          (RunS Tryz.prog (Instr.build 61 #[]) w_105 fun t68_109 w_110 =>
            St 6 w_110 t2_1 t68_109 fun u_111 w_112 =>
            RetO (resL Tryz.prog (fun j => bif Nat.beq j 2 then t2_1 else bif Nat.beq j 3 then (Value.int IntKind.i64 31) else undef) w_112 [(ResultVar.cell 2 61), (ResultVar.tmp 3)]) w_112 k)
          (∃ C_113 : World → Prop, C_113 (World.drew w_105) ∧
        (Pu (faV 5 p4_22) fun t69_114 =>
        ∃ t70_115, (∀ w_116, C_113 w_116 → Ld w_116 t69_114 fun t70_117 w_118 =>
        t70_117 = t70_115 ∧ w_118 = w_116) ∧
        (Pu (binV (TypeDesc.int IntKind.i64) .add atv6_52 (Value.int IntKind.i64 2)) fun t73_119 =>
        Pu (binV (TypeDesc.int IntKind.i64) .add atv6_52 (Value.int IntKind.i64 2)) fun t75_120 =>
        Pu (binV (TypeDesc.int IntKind.i64) .add t75_120 t62_104) fun t77_121 =>
        Pu (slS data0 (some t73_119) (some t77_121)) fun t78_122 =>
        RunS Tryz.prog (Instr.buildSlice 59 1 #[(0, t78_122)]) (World.drew w_105) fun t79_123 w_124 =>
        C_113 w_124 ∧
        (RunS Tryz.prog (Builtin.append_ #[59, 59] 59 #[t70_115, t79_123]) w_124 fun t80_125 w_126 =>
        Pu (faV 5 p4_22) fun t81_127 =>
        St 1 w_126 t81_127 t80_125 fun u_128 w_129 =>
        Pu (binV (TypeDesc.int IntKind.i64) .add atv6_52 (Value.int IntKind.i64 2)) fun t83_130 =>
        Pu (binV (TypeDesc.int IntKind.i64) .add t83_130 t62_104) fun t85_131 =>
        Pu (binV (TypeDesc.int IntKind.i64) .add i7_53 (Value.int IntKind.i64 1)) fun t52_132 =>
        I_48 [t85_131, t52_132] w_129 ∧ m_49 [t85_131, t52_132] w_129 < m_49 [atv6_52, i7_53] w_93))))))
          (LdN 6 w_93 p4_22 fun t87_133 w_134 =>
      Cl Tryz.prog 132 [t87_133] w_134 fun t88_135 w_136 =>
      Pu (extV t88_135 0) fun t89_137 =>
      Pu (extV t88_135 1) fun t90_138 =>
      Pu (binV (TypeDesc.int IntKind.i64) .neq t90_138 (Value.int IntKind.i64 0)) fun t92_139 =>
      Gd (isB false t92_139) (fun kk => kk t89_137 w_136) w_136 fun t94_140 w_141 =>
      Gd (isB false t92_139) (fun kk => kk data0 w_141) w_141 fun t95_142 w_143 =>
      Gd (isB false t92_139) (fun kk => Pu (binV TypeDesc.string .neq t94_140 t95_142) fun vv => kk vv w_143) w_143 fun t96_144 w_145 =>
      Pu (pickV t92_139 (Value.bool true) t96_144) fun t97_146 =>
      IfB t97_146
        (RunS Tryz.prog (Instr.build 61 #[]) w_145 fun t98_147 w_148 =>
          St 6 w_148 t2_1 t98_147 fun u_149 w_150 =>
          RetO (resL Tryz.prog (fun j => bif Nat.beq j 2 then t2_1 else bif Nat.beq j 3 then (Value.int IntKind.i64 31) else undef) w_150 [(ResultVar.cell 2 61), (ResultVar.tmp 3)]) w_150 k)
        (LdN 6 w_145 p4_22 fun t99_151 w_152 =>
      St 6 w_152 t2_1 t99_151 fun u_153 w_154 =>
      RetO (resL Tryz.prog (fun j => bif Nat.beq j 2 then t2_1 else bif Nat.beq j 3 then (Value.int IntKind.i64 0) else undef) w_154 [(ResultVar.cell 2 61), (ResultVar.tmp 3)]) w_154 k)))))
    (fun jj_21 =>
    ∃ C_155 : World → Prop, C_155 (World.drew w_14) ∧
    (Pu (slS data0 (some (Value.int IntKind.i64 4)) (some (Value.int IntKind.i64 12))) fun t25_156 =>
    Pu (ixS data0 (Value.int IntKind.i64 12)) fun t28_157 =>
    Pu (cvI IntKind.i64 t28_157) fun t29_158 =>
    Pu (ixS data0 (Value.int IntKind.i64 13)) fun t31_159 =>
    Pu (cvI IntKind.i64 t31_159) fun t32_160 =>
    Pu (slS data0 (some (Value.int IntKind.i64 14)) (some (Value.int IntKind.i64 18))) fun t34_161 =>
    (Cl Tryz.prog 83 [t25_156] (World.drew w_14) fun t26_162 w_163 =>
    C_155 w_163 ∧
    ((Cl Tryz.prog 83 [t34_161] w_163 fun t35_164 w_165 =>
    C_155 w_165 ∧
    (∃ t36_166, (∀ w_167, C_155 w_167 → RunS Tryz.prog (Instr.build 61 #[(0, t26_162), (1, t29_158), (2, t32_160), (3, t35_164)]) w_167 fun t36_168 w_169 =>
    t36_168 = t36_166 ∧ w_169 = w_167) ∧
    (New #[(Value.int IntKind.i64 0), (Value.int IntKind.i64 0), (Value.int IntKind.i64 0), (Value.int IntKind.i64 0), (Value.string (ByteArray.mk #[])), (Value.slice none 0 0)] 61 w_165 fun p4_170 w_171 =>
    C_155 w_171 ∧
    (St 6 w_171 p4_170 t36_166 fun u_172 w_173 =>
    jj_21 [p4_170] w_173)))) ∧
    (New #[(Value.int IntKind.i64 0), (Value.int IntKind.i64 0), (Value.int IntKind.i64 0), (Value.int IntKind.i64 0), (Value.string (ByteArray.mk #[])), (Value.slice none 0 0)] 61 w_163 fun p4_174 w_175 =>
    C_155 w_175 ∧
    (Cl Tryz.prog 83 [t34_161] w_175 fun t35_176 w_177 =>
    C_155 w_177 ∧
    (RunS Tryz.prog (Instr.build 61 #[(0, t26_162), (1, t29_158), (2, t32_160), (3, t35_176)]) w_177 fun t36_178 w_179 =>
    w_179 = w_177 ∧
    St 6 w_177 p4_174 t36_178 fun u_180 w_181 =>
    jj_21 [p4_174] w_181))) ∧
    True)) ∧
    (New #[(Value.int IntKind.i64 0), (Value.int IntKind.i64 0), (Value.int IntKind.i64 0), (Value.int IntKind.i64 0), (Value.string (ByteArray.mk #[])), (Value.slice none 0 0)] 61 (World.drew w_14) fun p4_182 w_183 =>
    C_155 w_183 ∧
    (Cl Tryz.prog 83 [t25_156] w_183 fun t26_184 w_185 =>
    C_155 w_185 ∧
    (Cl Tryz.prog 83 [t34_161] w_185 fun t35_186 w_187 =>
    C_155 w_187 ∧
    (RunS Tryz.prog (Instr.build 61 #[(0, t26_184), (1, t29_158), (2, t32_160), (3, t35_186)]) w_187 fun t36_188 w_189 =>
    w_189 = w_187 ∧
    St 6 w_187 p4_182 t36_188 fun u_190 w_191 =>
    jj_21 [p4_182] w_191)))) ∧
    True))))
theorem e127 (k : KV) (data0 : Value) (w : World) : K KD Tryz.prog 100 (fun j => bif Nat.beq j 10 then [6, 7] else []) (fun j => bif Nat.beq j 6 then some [4] else none) (Tryz.f127.body.getD .skip) (retQ Tryz.prog Tryz.f127 k) (argF [data0]) w = T127 k data0 w := by kernel_rfl
theorem c127 {k : KV} {data0 : Value} {w : World} (h : T127 k data0 w) : Cl Tryz.prog 127 [data0] w k :=
  Cl_of_K KD_sound mixed Tryz.func127 (by kernel_rfl) (by kernel_rfl) ((e127 k data0 w).symm ▸ h)

/-- Function 132: almonry/almonryref03.Encode. -/
def T132 (k : KV) (p0 : Value) (w : World) : Prop :=
  New (Value.cells p0) 61 w fun p1_1 w_2 =>
  Pu (faV 0 p1_1) fun t6_3 =>
  Ld w_2 t6_3 fun t7_4 w_5 =>
  Pu (binV (TypeDesc.int IntKind.i64) .lss t7_4 (Value.int IntKind.i64 0)) fun t8_6 =>
  Gd (isB false t8_6) (fun kk => Pu (faV 1 p1_1) fun vv => kk vv w_5) w_5 fun t10_7 w_8 =>
  Gd (isB false t8_6) (fun kk => Ld w_8 t10_7 kk) w_8 fun t11_9 w_10 =>
  Gd (isB false t8_6) (fun kk => Pu (binV (TypeDesc.int IntKind.i64) .lss t11_9 (Value.int IntKind.i64 1)) fun vv => kk vv w_10) w_10 fun t12_11 w_12 =>
  Pu (pickV t8_6 (Value.bool true) t12_11) fun t13_13 =>
  Gd (isB false t13_13) (fun kk => Pu (faV 1 p1_1) fun vv => kk vv w_12) w_12 fun t15_14 w_15 =>
  Gd (isB false t13_13) (fun kk => Ld w_15 t15_14 kk) w_15 fun t16_16 w_17 =>
  Gd (isB false t13_13) (fun kk => Pu (binV (TypeDesc.int IntKind.i64) .gtr t16_16 (Value.int IntKind.i64 3)) fun vv => kk vv w_17) w_17 fun t17_18 w_19 =>
  Pu (pickV t13_13 (Value.bool true) t17_18) fun t18_20 =>
  Gd (isB false t18_20) (fun kk => Pu (faV 2 p1_1) fun vv => kk vv w_19) w_19 fun t20_21 w_22 =>
  Gd (isB false t18_20) (fun kk => Ld w_22 t20_21 kk) w_22 fun t21_23 w_24 =>
  Gd (isB false t18_20) (fun kk => Pu (binV (TypeDesc.int IntKind.i64) .lss t21_23 (Value.int IntKind.i64 0)) fun vv => kk vv w_24) w_24 fun t22_25 w_26 =>
  Pu (pickV t18_20 (Value.bool true) t22_25) fun t23_27 =>
  Gd (isB false t23_27) (fun kk => Pu (faV 2 p1_1) fun vv => kk vv w_26) w_26 fun t25_28 w_29 =>
  Gd (isB false t23_27) (fun kk => Ld w_29 t25_28 kk) w_29 fun t26_30 w_31 =>
  Gd (isB false t23_27) (fun kk => Pu (binV (TypeDesc.int IntKind.i64) .gtr t26_30 (Value.int IntKind.i64 255)) fun vv => kk vv w_31) w_31 fun t27_32 w_33 =>
  Pu (pickV t23_27 (Value.bool true) t27_32) fun t28_34 =>
  Gd (isB false t28_34) (fun kk => Pu (faV 3 p1_1) fun vv => kk vv w_33) w_33 fun t30_35 w_36 =>
  Gd (isB false t28_34) (fun kk => Ld w_36 t30_35 kk) w_36 fun t31_37 w_38 =>
  Gd (isB false t28_34) (fun kk => Pu (binV (TypeDesc.int IntKind.i64) .lss t31_37 (Value.int IntKind.i64 0)) fun vv => kk vv w_38) w_38 fun t32_39 w_40 =>
  Pu (pickV t28_34 (Value.bool true) t32_39) fun t33_41 =>
  Gd (isB false t33_41) (fun kk => Pu (faV 3 p1_1) fun vv => kk vv w_40) w_40 fun t35_42 w_43 =>
  Gd (isB false t33_41) (fun kk => Ld w_43 t35_42 kk) w_43 fun t36_44 w_45 =>
  Gd (isB false t33_41) (fun kk => Pu (binV (TypeDesc.int IntKind.i64) .gtr t36_44 (Value.int IntKind.i64 4294967295)) fun vv => kk vv w_45) w_45 fun t37_46 w_47 =>
  Pu (pickV t33_41 (Value.bool true) t37_46) fun t38_48 =>
  IfB t38_48
    (k (.tuple #[(Value.string (ByteArray.mk #[])), (Value.int IntKind.i64 4)]) w_47)
    (Pu (faV 4 p1_1) fun t39_49 =>
  Ld w_47 t39_49 fun t40_50 w_51 =>
  Pu (lenS t40_50) fun t41_52 =>
  Pu (binV (TypeDesc.int IntKind.i64) .gtr t41_52 (Value.int IntKind.i64 255)) fun t42_53 =>
  Gd (isB false t42_53) (fun kk => Pu (faV 5 p1_1) fun vv => kk vv w_51) w_51 fun t44_54 w_55 =>
  Gd (isB false t42_53) (fun kk => Ld w_55 t44_54 kk) w_55 fun t45_56 w_57 =>
  Gd (isB false t42_53) (fun kk => Pu (lenV t45_56) fun vv => kk vv w_57) w_57 fun t46_58 w_59 =>
  Gd (isB false t42_53) (fun kk => Pu (binV (TypeDesc.int IntKind.i64) .gtr t46_58 (Value.int IntKind.i64 255)) fun vv => kk vv w_59) w_59 fun t47_60 w_61 =>
  Pu (pickV t42_53 (Value.bool true) t47_60) fun t48_62 =>
  Gd (isB false t48_62) (fun kk => LdN 6 w_61 p1_1 kk) w_61 fun t50_63 w_64 =>
  Gd (isB false t48_62) (fun kk => Cl Tryz.prog 193 [t50_63] w_64 kk) w_64 fun t51_65 w_66 =>
  Gd (isB false t48_62) (fun kk => Pu (binV (TypeDesc.int IntKind.i64) .gtr t51_65 (Value.int IntKind.i64 512)) fun vv => kk vv w_66) w_66 fun t52_67 w_68 =>
  Pu (pickV t48_62 (Value.bool true) t52_67) fun t53_69 =>
  IfB t53_69
    (k (.tuple #[(Value.string (ByteArray.mk #[])), (Value.int IntKind.i64 3)]) w_68)
    (∃ C_70 : World → Prop, C_70 (World.drew w_68) ∧
  (Pu (faV 0 p1_1) fun t54_71 =>
  Ld (World.drew w_68) t54_71 fun t55_72 w_73 =>
  w_73 = (World.drew w_68) ∧
  Pu (faV 1 p1_1) fun t57_74 =>
  ∃ t58_75, (∀ w_76, C_70 w_76 → Ld w_76 t57_74 fun t58_77 w_78 =>
  t58_77 = t58_75 ∧ w_78 = w_76) ∧
  (Pu (faV 2 p1_1) fun t61_79 =>
  ∃ t62_80, (∀ w_81, C_70 w_81 → Ld w_81 t61_79 fun t62_82 w_83 =>
  t62_82 = t62_80 ∧ w_83 = w_81) ∧
  (Pu (faV 3 p1_1) fun t65_84 =>
  ∃ t66_85, (∀ w_86, C_70 w_86 → Ld w_86 t65_84 fun t66_87 w_88 =>
  t66_87 = t66_85 ∧ w_88 = w_86) ∧
  (Pu (faV 5 p1_1) fun t69_89 =>
  ∃ t70_90, (∀ w_91, C_70 w_91 → Ld w_91 t69_89 fun t70_92 w_93 =>
  t70_92 = t70_90 ∧ w_93 = w_91) ∧
  (Pu (lenV t70_90) fun t71_94 =>
  Pu (faV 4 p1_1) fun t74_95 =>
  ∃ t75_96, (∀ w_97, C_70 w_97 → Ld w_97 t74_95 fun t75_98 w_99 =>
  t75_98 = t75_96 ∧ w_99 = w_97) ∧
  (Pu (lenS t75_96) fun t76_100 =>
  Pu (faV 4 p1_1) fun t79_101 =>
  ∃ t80_102, (∀ w_103, C_70 w_103 → Ld w_103 t79_101 fun t80_104 w_105 =>
  t80_104 = t80_102 ∧ w_105 = w_103) ∧
  (Cl Tryz.prog 192 [t55_72, (Value.int IntKind.i64 8)] (World.drew w_68) fun t56_106 w_107 =>
  C_70 w_107 ∧
  (Cl Tryz.prog 192 [t58_75, (Value.int IntKind.i64 1)] w_107 fun t59_108 w_109 =>
  C_70 w_109 ∧
  (Pu (binV TypeDesc.string .add t56_106 t59_108) fun t60_110 =>
  Cl Tryz.prog 192 [t62_80, (Value.int IntKind.i64 1)] w_109 fun t63_111 w_112 =>
  C_70 w_112 ∧
  (Pu (binV TypeDesc.string .add t60_110 t63_111) fun t64_113 =>
  Cl Tryz.prog 192 [t66_85, (Value.int IntKind.i64 4)] w_112 fun t67_114 w_115 =>
  C_70 w_115 ∧
  (Pu (binV TypeDesc.string .add t64_113 t67_114) fun t68_116 =>
  Cl Tryz.prog 192 [t71_94, (Value.int IntKind.i64 1)] w_115 fun t72_117 w_118 =>
  C_70 w_118 ∧
  (Pu (binV TypeDesc.string .add t68_116 t72_117) fun t73_119 =>
  Cl Tryz.prog 192 [t76_100, (Value.int IntKind.i64 1)] w_118 fun t77_120 w_121 =>
  C_70 w_121 ∧
  (Pu (binV TypeDesc.string .add t73_119 t77_120) fun t78_122 =>
  Pu (binV TypeDesc.string .add t78_122 t80_102) fun t81_123 =>
  ∃ (I_124 : List Value → World → Prop) (m_125 : List Value → World → Nat), I_124 [t81_123, (Value.int IntKind.i64 0)] w_121 ∧
  ∀ (g_152 : Fr) (w_151 : World), ∀ s4_127 : Value, ∀ i5_128 : Value, I_124 [s4_127, i5_128] w_151 →
    (Pu (faV 5 p1_1) fun t83_153 =>
    Ld w_151 t83_153 fun t84_154 w_155 =>
    Pu (lenV t84_154) fun t85_156 =>
    Pu (binV (TypeDesc.int IntKind.i64) .lss i5_128 t85_156) fun t86_157 =>
    IfB t86_157
      (∃ C_158 : World → Prop, C_158 (World.drew w_155) ∧
    (Pu (faV 5 p1_1) fun t90_159 =>
    Ld (World.drew w_155) t90_159 fun t91_160 w_161 =>
    w_161 = (World.drew w_155) ∧
    Pu (ixV 1 t91_160 i5_128) fun t93_162 =>
    Ld (World.drew w_155) t93_162 fun t94_163 w_164 =>
    w_164 = (World.drew w_155) ∧
    Pu (lenS t94_163) fun t95_165 =>
    Pu (faV 5 p1_1) fun t98_166 =>
    ∃ t99_167, (∀ w_168, C_158 w_168 → Ld w_168 t98_166 fun t99_169 w_170 =>
    t99_169 = t99_167 ∧ w_170 = w_168) ∧
    (Pu (ixV 1 t99_167 i5_128) fun t101_171 =>
    ∃ t102_172, (∀ w_173, C_158 w_173 → Ld w_173 t101_171 fun t102_174 w_175 =>
    t102_174 = t102_172 ∧ w_175 = w_173) ∧
    (Cl Tryz.prog 192 [t95_165, (Value.int IntKind.i64 2)] (World.drew w_155) fun t96_176 w_177 =>
    C_158 w_177 ∧
    (Pu (binV TypeDesc.string .add s4_127 t96_176) fun t97_178 =>
    Pu (binV TypeDesc.string .add t97_178 t102_172) fun t103_179 =>
    Pu (binV (TypeDesc.int IntKind.i64) .add i5_128 (Value.int IntKind.i64 1)) fun t88_180 =>
    I_124 [t103_179, t88_180] w_177 ∧ m_125 [t103_179, t88_180] w_177 < m_125 [s4_127, i5_128] w_151)))))
      (Pu (lenS s4_127) fun t106_181 =>
  Pu (binV (TypeDesc.int IntKind.i64) .sub (Value.int IntKind.i64 508) t106_181) fun t107_182 =>
  RunS Tryz.prog (Instr.makeSlice 123 t107_182 t107_182) w_155 fun t108_183 w_184 =>
  RunS Tryz.prog (convert 123 9 t108_183) w_184 fun t109_185 w_186 =>
  Pu (binV TypeDesc.string .add s4_127 t109_185) fun t110_187 =>
  Cl Tryz.prog 84 [t110_187] w_186 fun t112_188 w_189 =>
  Pu (cvI IntKind.i64 t112_188) fun t113_190 =>
  Cl Tryz.prog 192 [t113_190, (Value.int IntKind.i64 4)] w_189 fun t114_191 w_192 =>
  Pu (binV TypeDesc.string .add t114_191 t110_187) fun t116_193 =>
  k (.tuple #[t116_193, (Value.int IntKind.i64 0)]) w_192)))))))))))))))))
theorem e132 (k : KV) (p0 : Value) (w : World) : K KD Tryz.prog 117 (fun j => bif Nat.beq j 7 then [4, 5] else []) (fun j =>  none) (Tryz.f132.body.getD .skip) (retQ Tryz.prog Tryz.f132 k) (argF [p0]) w = T132 k p0 w := by kernel_rfl
theorem c132 {k : KV} {p0 : Value} {w : World} (h : T132 k p0 w) : Cl Tryz.prog 132 [p0] w k :=
  Cl_of_K KD_sound mixed Tryz.func132 (by kernel_rfl) (by kernel_rfl) ((e132 k p0 w).symm ▸ h)

/-- Function 193: almonry/almonryref03.Size. -/
def T193 (k : KV) (p0 : Value) (w : World) : Prop :=
  New (Value.cells p0) 61 w fun p1_1 w_2 =>
  Pu (faV 4 p1_1) fun t5_3 =>
  Ld w_2 t5_3 fun t6_4 w_5 =>
  Pu (lenS t6_4) fun t7_6 =>
  Pu (binV (TypeDesc.int IntKind.i64) .add (Value.int IntKind.i64 20) t7_6) fun t8_7 =>
  ∃ (I_8 : List Value → World → Prop) (m_9 : List Value → World → Nat), I_8 [t8_7, (Value.int IntKind.i64 0)] w_5 ∧
  ∀ (g_30 : Fr) (w_29 : World), ∀ n3_11 : Value, ∀ i4_12 : Value, I_8 [n3_11, i4_12] w_29 →
    (Pu (faV 5 p1_1) fun t10_31 =>
    Ld w_29 t10_31 fun t11_32 w_33 =>
    Pu (lenV t11_32) fun t12_34 =>
    Pu (binV (TypeDesc.int IntKind.i64) .lss i4_12 t12_34) fun t13_35 =>
    IfB t13_35
      (Pu (binV (TypeDesc.int IntKind.i64) .add n3_11 (Value.int IntKind.i64 2)) fun t17_36 =>
    Pu (faV 5 p1_1) fun t18_37 =>
    Ld w_33 t18_37 fun t19_38 w_39 =>
    Pu (ixV 1 t19_38 i4_12) fun t21_40 =>
    Ld w_39 t21_40 fun t22_41 w_42 =>
    Pu (lenS t22_41) fun t23_43 =>
    Pu (binV (TypeDesc.int IntKind.i64) .add t17_36 t23_43) fun t24_44 =>
    Pu (binV (TypeDesc.int IntKind.i64) .add i4_12 (Value.int IntKind.i64 1)) fun t15_45 =>
    I_8 [t24_44, t15_45] w_42 ∧ m_9 [t24_44, t15_45] w_42 < m_9 [n3_11, i4_12] w_29)
      (k n3_11 w_33))
theorem e193 (k : KV) (p0 : Value) (w : World) : K KD Tryz.prog 26 (fun j => bif Nat.beq j 3 then [3, 4] else []) (fun j =>  none) (Tryz.f193.body.getD .skip) (retQ Tryz.prog Tryz.f193 k) (argF [p0]) w = T193 k p0 w := by kernel_rfl
theorem c193 {k : KV} {p0 : Value} {w : World} (h : T193 k p0 w) : Cl Tryz.prog 193 [p0] w k :=
  Cl_of_K KD_sound mixed Tryz.func193 (by kernel_rfl) (by kernel_rfl) ((e193 k p0 w).symm ▸ h)

end Go.Proofs.YthbngnlmgplijaaGreatDoor
