import Derived.Test.YthbngnlmgplijaaGreatDoorCpsP
import Derived.Test.YthbngnlmgplijaaGreatDoorAlDraw2
import Derived.Test.YthbngnlmgplijaaGreatDoorRows
namespace Go.Proofs.YthbngnlmgplijaaGreatDoor
open Go.Al Go.Proofs
set_option maxRecDepth 100000
set_option linter.unusedVariables false
set_option linter.unusedSimpArgs false
/-- Function 17: almonry/disk.New. -/
def T17 (k : KV) (sectors0 : Value) (w : World) : Prop :=
  Pu (binV (TypeDesc.int IntKind.i64) .lss sectors0 (Value.int IntKind.i64 1)) fun t5_1 =>
  Gd (isB false t5_1) (fun kk => kk sectors0 w) w fun t7_2 w_3 =>
  Gd (isB false t5_1) (fun kk => Pu (binV (TypeDesc.int IntKind.i64) .gtr t7_2 (Value.int IntKind.i64 65536)) fun vv => kk vv w_3) w_3 fun t8_4 w_5 =>
  Pu (pickV t5_1 (Value.bool true) t8_4) fun t9_6 =>
  IfB t9_6
    (k (.tuple #[(Value.pointer none), (Value.int IntKind.i64 1)]) w_5)
    (Pu (binV (TypeDesc.int IntKind.i64) .mul sectors0 (Value.int IntKind.i64 64)) fun t11_7 =>
  RunS Tryz.prog (Instr.makeSlice 123 t11_7 t11_7) w_5 fun t12_8 w_9 =>
  RunS Tryz.prog (Instr.makeMap 124 none) w_9 fun t13_10 w_11 =>
  RunS Tryz.prog (Instr.build 126 #[(0, t12_8), (1, t13_10)]) w_11 fun t14_12 w_13 =>
  New (Value.cells t14_12) 126 w_13 fun t15_14 w_15 =>
  k (.tuple #[t15_14, (Value.int IntKind.i64 0)]) w_15)
theorem e17 (k : KV) (sectors0 : Value) (w : World) : K KD Tryz.prog 16 (fun j =>  []) (fun j =>  none) (Tryz.f17.body.getD .skip) (retQ Tryz.prog Tryz.f17 k) (argF [sectors0]) w = T17 k sectors0 w := by kernel_rfl
theorem c17 {k : KV} {sectors0 : Value} {w : World} (h : T17 k sectors0 w) : Cl Tryz.prog 17 [sectors0] w k :=
  Cl_of_K KD_sound mixed Tryz.func17 (by kernel_rfl) (by kernel_rfl) ((e17 k sectors0 w).symm ▸ h)

/-- Function 38: (*almonry/disk.Disk).Sync. -/
def T38 (k : KV) (d0 : Value) (w : World) : Prop :=
  Cl Tryz.prog 110 [d0] w fun t5_1 w_2 =>
  Pu (binV (TypeDesc.int IntKind.i64) .neq t5_1 (Value.int IntKind.i64 0)) fun t7_3 =>
  IfB t7_3
    (k t5_1 w_2)
    (Cl Tryz.prog 111 [d0] w_2 fun t10_4 w_5 =>
  IfB t10_4
    (k (Value.int IntKind.i64 5) w_5)
    (Pu (nilV d0) fun t12_6 =>
  Pu (faV 1 t12_6) fun t13_7 =>
  Ld w_5 t13_7 fun t14_8 w_9 =>
  RunS Tryz.prog (Builtin.clear_ #[124] 0 #[t14_8]) w_9 fun u_10 w_11 =>
  k (Value.int IntKind.i64 0) w_11))
theorem e38 (k : KV) (d0 : Value) (w : World) : K KD Tryz.prog 15 (fun j =>  []) (fun j =>  none) (Tryz.f38.body.getD .skip) (retQ Tryz.prog Tryz.f38 k) (argF [d0]) w = T38 k d0 w := by kernel_rfl
theorem c38 {k : KV} {d0 : Value} {w : World} (h : T38 k d0 w) : Cl Tryz.prog 38 [d0] w k :=
  Cl_of_K KD_sound mixed Tryz.func38 (by kernel_rfl) (by kernel_rfl) ((e38 k d0 w).symm ▸ h)

/-- Function 40: (*almonry/disk.Disk).Read. -/
def T40 (k : KV) (d0 : Value) (atv1 : Value) (n2 : Value) (w : World) : Prop :=
  Cl Tryz.prog 110 [d0] w fun t10_1 w_2 =>
  Pu (binV (TypeDesc.int IntKind.i64) .neq t10_1 (Value.int IntKind.i64 0)) fun t12_3 =>
  IfB t12_3
    (k (.tuple #[(Value.string (ByteArray.mk #[])), t10_1]) w_2)
    (Cl Tryz.prog 114 [d0, atv1, n2] w_2 fun t17_4 w_5 =>
  Pu (unV .not t17_4) fun t18_6 =>
  IfB t18_6
    (k (.tuple #[(Value.string (ByteArray.mk #[])), (Value.int IntKind.i64 20)]) w_5)
    (Pu (nilV d0) fun t20_7 =>
  Pu (faV 0 t20_7) fun t21_8 =>
  Ld w_5 t21_8 fun t22_9 w_10 =>
  Pu (binV (TypeDesc.int IntKind.i64) .mul atv1 (Value.int IntKind.i64 64)) fun t24_11 =>
  Pu (binV (TypeDesc.int IntKind.i64) .add atv1 n2) fun t27_12 =>
  Pu (binV (TypeDesc.int IntKind.i64) .mul t27_12 (Value.int IntKind.i64 64)) fun t28_13 =>
  Pu (slV 1 t22_9 (some t24_11) (some t28_13) none) fun t29_14 =>
  RunS Tryz.prog (convert 123 9 t29_14) w_10 fun t30_15 w_16 =>
  k (.tuple #[t30_15, (Value.int IntKind.i64 0)]) w_16))
theorem e40 (k : KV) (d0 : Value) (atv1 : Value) (n2 : Value) (w : World) : K KD Tryz.prog 31 (fun j =>  []) (fun j =>  none) (Tryz.f40.body.getD .skip) (retQ Tryz.prog Tryz.f40 k) (argF [d0, atv1, n2]) w = T40 k d0 atv1 n2 w := by kernel_rfl
theorem c40 {k : KV} {d0 : Value} {atv1 : Value} {n2 : Value} {w : World} (h : T40 k d0 atv1 n2 w) : Cl Tryz.prog 40 [d0, atv1, n2] w k :=
  Cl_of_K KD_sound mixed Tryz.func40 (by kernel_rfl) (by kernel_rfl) ((e40 k d0 atv1 n2 w).symm ▸ h)

/-- Function 46: (*almonry/disk.Disk).Crash. -/
def T46 (k : KV) (d0 : Value) (how1 : Value) (w : World) : Prop :=
  Pu (binV (TypeDesc.pointer 126) .eql d0 (Value.pointer none)) fun t9_1 =>
  IfB t9_1
    (k (.tuple #[]) w)
    (Cl Tryz.prog 120 [d0] w fun t11_2 w_3 =>
  Pu (lenV t11_2) fun t12_4 =>
  ∃ (I_5 : List Value → World → Prop) (m_6 : List Value → World → Nat), I_5 [(Value.int IntKind.i64 0)] w_3 ∧
  ∀ (g_54 : Fr) (w_53 : World), ∀ t13_12 : Value, I_5 [t13_12] w_53 →
    (Pu (binV (TypeDesc.int IntKind.i64) .lss t13_12 t12_4) fun t14_55 =>
    IfB t14_55
      (Pu (ixV 1 t11_2 t13_12) fun t16_56 =>
    Ld w_53 t16_56 fun t17_57 w_58 =>
    Jn (fun vs_76 w_75 => ∀ g_77 : Fr, ∃ fate6_60 : Value, vs_76 = [fate6_60] ∧
        (Pu (binV (TypeDesc.int IntKind.i64) .quo fate6_60 (Value.int IntKind.i64 3)) fun t33_78 =>
        Pu (binV (TypeDesc.int IntKind.i64) .rem t33_78 (Value.int IntKind.i64 65)) fun t34_79 =>
        RunS Tryz.prog (Instr.build 163 #[(0, (Value.int IntKind.i64 0)), (1, (Value.int IntKind.i64 64)), (2, t34_79)]) w_75 fun t35_80 w_81 =>
        Pu (binV (TypeDesc.int IntKind.i64) .rem fate6_60 (Value.int IntKind.i64 3)) fun t37_82 =>
        Pu (ixG false 3 1 t35_80 t37_82) fun t38_83 =>
        ∃ C_84 : World → Prop, C_84 (World.drew w_81) ∧
        (Pu (nilV d0) fun t45_85 =>
        Pu (faV 1 t45_85) fun t46_86 =>
        ∃ t47_87, (∀ w_88, C_84 w_88 → Ld w_88 t46_86 fun t47_89 w_90 =>
        t47_89 = t47_87 ∧ w_90 = w_88) ∧
        (∃ t49_91, (∀ w_92, C_84 w_92 → RunS Tryz.prog (Instr.lookup 124 t47_87 t17_57 false) w_92 fun t49_93 w_94 =>
        t49_93 = t49_91 ∧ w_94 = w_92) ∧
        (Pu (slS t49_91 (some t38_83) none) fun t51_95 =>
        Cl Tryz.prog 121 [d0, t17_57] (World.drew w_81) fun t41_96 w_97 =>
        C_84 w_97 ∧
        (Pu (slV 1 t41_96 (some t38_83) none none) fun t43_98 =>
        RunS Tryz.prog (Builtin.copy_ #[123, 9] 3 #[t43_98, t51_95]) w_97 fun t52_99 w_100 =>
        Pu (binV (TypeDesc.int IntKind.i64) .add t13_12 (Value.int IntKind.i64 1)) fun t53_101 =>
    I_5 [t53_101] w_100 ∧ m_6 [t53_101] w_100 < m_6 [t13_12] w_53))))))
      (fun jj_59 =>
      Pu (lenV how1) fun t20_102 =>
      Pu (binV (TypeDesc.int IntKind.i64) .lss t13_12 t20_102) fun t21_103 =>
      IfB t21_103
        (Pu (ixV 1 how1 t13_12) fun t24_104 =>
          Ld (World.drew w_58) t24_104 fun t25_105 w_106 =>
          w_106 = (World.drew w_58) ∧
          Pu (ixV 1 how1 t13_12) fun t28_107 =>
          Ld (World.drew w_58) t28_107 fun t29_108 w_109 =>
          w_109 = (World.drew w_58) ∧
          Pu (unV .xor t29_108) fun t30_110 =>
          Pu (foldV0 max2V [t25_105, t30_110]) fun t31_111 =>
          jj_59 [t31_111] (World.drew w_58))
        (jj_59 [(Value.int IntKind.i64 0)] w_58)))
      (Pu (nilV d0) fun t55_112 =>
  Pu (faV 1 t55_112) fun t56_113 =>
  Ld w_53 t56_113 fun t57_114 w_115 =>
  RunS Tryz.prog (Builtin.clear_ #[124] 0 #[t57_114]) w_115 fun u_116 w_117 =>
  Pu (nilV d0) fun t60_118 =>
  Pu (faV 3 t60_118) fun t61_119 =>
  St 1 w_117 t61_119 (Value.bool false) fun u_120 w_121 =>
  Pu (nilV d0) fun t62_122 =>
  Pu (faV 2 t62_122) fun t63_123 =>
  St 1 w_121 t63_123 (Value.int IntKind.i64 0) fun u_124 w_125 =>
  k (.tuple #[]) w_125)))
theorem e46 (k : KV) (d0 : Value) (how1 : Value) (w : World) : K KD Tryz.prog 64 (fun j => bif Nat.beq j 2 then [13] else []) (fun j => bif Nat.beq j 7 then some [6] else none) (Tryz.f46.body.getD .skip) (retQ Tryz.prog Tryz.f46 k) (argF [d0, how1]) w = T46 k d0 how1 w := by kernel_rfl
theorem c46 {k : KV} {d0 : Value} {how1 : Value} {w : World} (h : T46 k d0 how1 w) : Cl Tryz.prog 46 [d0, how1] w k :=
  Cl_of_K KD_sound mixed Tryz.func46 (by kernel_rfl) (by kernel_rfl) ((e46 k d0 how1 w).symm ▸ h)

/-- Function 56: (*almonry/disk.Disk).Arm. -/
def T56 (k : KV) (d0 : Value) (act1 : Value) (w : World) : Prop :=
  Cl Tryz.prog 110 [d0] w fun t7_1 w_2 =>
  Pu (binV (TypeDesc.int IntKind.i64) .neq t7_1 (Value.int IntKind.i64 0)) fun t9_3 =>
  IfB t9_3
    (k t7_1 w_2)
    (Pu (binV (TypeDesc.int IntKind.i64) .lss act1 (Value.int IntKind.i64 0)) fun t12_4 =>
  IfB t12_4
    (k (Value.int IntKind.i64 1) w_2)
    (Pu (nilV d0) fun t15_5 =>
  Pu (faV 2 t15_5) fun t16_6 =>
  St 1 w_2 t16_6 act1 fun u_7 w_8 =>
  k (Value.int IntKind.i64 0) w_8))
theorem e56 (k : KV) (d0 : Value) (act1 : Value) (w : World) : K KD Tryz.prog 17 (fun j =>  []) (fun j =>  none) (Tryz.f56.body.getD .skip) (retQ Tryz.prog Tryz.f56 k) (argF [d0, act1]) w = T56 k d0 act1 w := by kernel_rfl
theorem c56 {k : KV} {d0 : Value} {act1 : Value} {w : World} (h : T56 k d0 act1 w) : Cl Tryz.prog 56 [d0, act1] w k :=
  Cl_of_K KD_sound mixed Tryz.func56 (by kernel_rfl) (by kernel_rfl) ((e56 k d0 act1 w).symm ▸ h)

/-- Function 58: (*almonry/disk.Disk).Dead. -/
def T58 (k : KV) (d0 : Value) (w : World) : Prop :=
  Pu (binV (TypeDesc.pointer 126) .neq d0 (Value.pointer none)) fun t4_1 =>
  Gd (isB true t4_1) (fun kk => kk d0 w) w fun t6_2 w_3 =>
  Gd (isB true t4_1) (fun kk => Pu (nilV t6_2) fun vv => kk vv w_3) w_3 fun t7_4 w_5 =>
  Gd (isB true t4_1) (fun kk => Pu (faV 3 t7_4) fun vv => kk vv w_5) w_5 fun t8_6 w_7 =>
  Gd (isB true t4_1) (fun kk => Ld w_7 t8_6 kk) w_7 fun t9_8 w_9 =>
  Pu (pickV t4_1 t9_8 (Value.bool false)) fun t10_10 =>
  k t10_10 w_9
theorem e58 (k : KV) (d0 : Value) (w : World) : K KD Tryz.prog 11 (fun j =>  []) (fun j =>  none) (Tryz.f58.body.getD .skip) (retQ Tryz.prog Tryz.f58 k) (argF [d0]) w = T58 k d0 w := by kernel_rfl
theorem c58 {k : KV} {d0 : Value} {w : World} (h : T58 k d0 w) : Cl Tryz.prog 58 [d0] w k :=
  Cl_of_K KD_sound mixed Tryz.func58 (by kernel_rfl) (by kernel_rfl) ((e58 k d0 w).symm ▸ h)

/-- Function 94: (*almonry/disk.Disk).Write. -/
def T94 (k : KV) (d0 : Value) (atv1 : Value) (data2 : Value) (w : World) : Prop :=
  Cl Tryz.prog 110 [d0] w fun t11_1 w_2 =>
  Pu (binV (TypeDesc.int IntKind.i64) .neq t11_1 (Value.int IntKind.i64 0)) fun t13_3 =>
  IfB t13_3
    (k t11_1 w_2)
    (Pu (lenS data2) fun t16_4 =>
  Pu (binV (TypeDesc.int IntKind.i64) .rem t16_4 (Value.int IntKind.i64 64)) fun t17_5 =>
  Pu (binV (TypeDesc.int IntKind.i64) .neq t17_5 (Value.int IntKind.i64 0)) fun t18_6 =>
  Gd (isB false t18_6) (fun kk => kk d0 w_2) w_2 fun t20_7 w_8 =>
  Gd (isB false t18_6) (fun kk => kk atv1 w_8) w_8 fun t21_9 w_10 =>
  Gd (isB false t18_6) (fun kk => kk data2 w_10) w_10 fun t22_11 w_12 =>
  Gd (isB false t18_6) (fun kk => Pu (lenS t22_11) fun vv => kk vv w_12) w_12 fun t23_13 w_14 =>
  Gd (isB false t18_6) (fun kk => Pu (binV (TypeDesc.int IntKind.i64) .quo t23_13 (Value.int IntKind.i64 64)) fun vv => kk vv w_14) w_14 fun t24_15 w_16 =>
  Gd (isB false t18_6) (fun kk => Cl Tryz.prog 114 [t20_7, t21_9, t24_15] w_16 kk) w_16 fun t25_17 w_18 =>
  Gd (isB false t18_6) (fun kk => Pu (unV .not t25_17) fun vv => kk vv w_18) w_18 fun t26_19 w_20 =>
  Pu (pickV t18_6 (Value.bool true) t26_19) fun t27_21 =>
  IfB t27_21
    (k (Value.int IntKind.i64 20) w_20)
    (∃ (I_22 : List Value → World → Prop) (m_23 : List Value → World → Nat), I_22 [atv1, data2] w_20 ∧
  ∀ (g_65 : Fr) (w_64 : World), ∀ atv1_25 : Value, ∀ data2_26 : Value, I_22 [atv1_25, data2_26] w_64 →
    (Pu (binV TypeDesc.string .neq data2_26 (Value.string (ByteArray.mk #[]))) fun t29_66 =>
    IfB t29_66
      (Jn (fun vs_91 w_90 => ∀ g_92 : Fr, vs_91 = [] ∧
        (Pu (slS data2_26 none (some (Value.int IntKind.i64 64))) fun t56_93 =>
        Cl Tryz.prog 121 [d0, atv1_25] (World.drew w_90) fun t54_94 w_95 =>
        RunS Tryz.prog (Builtin.copy_ #[123, 9] 3 #[t54_94, t56_93]) w_95 fun t57_96 w_97 =>
        Pu (slS data2_26 (some (Value.int IntKind.i64 64)) none) fun t59_98 =>
        Cl Tryz.prog 111 [d0] w_97 fun t61_99 w_100 =>
        IfB t61_99
          (k (Value.int IntKind.i64 5) w_100)
          (Pu (binV (TypeDesc.int IntKind.i64) .add atv1_25 (Value.int IntKind.i64 1)) fun t31_101 =>
    I_22 [t31_101, t59_98] w_100 ∧ m_23 [t31_101, t59_98] w_100 < m_23 [atv1_25, data2_26] w_64)))
      (fun jj_67 =>
      Pu (nilV d0) fun t34_102 =>
      Pu (faV 1 t34_102) fun t35_103 =>
      Ld w_64 t35_103 fun t36_104 w_105 =>
      RunS Tryz.prog (Instr.lookup 124 t36_104 atv1_25 true) w_105 fun t38_106 w_107 =>
      Pu (extV t38_106 0) fun t39_108 =>
      Pu (extV t38_106 1) fun t40_109 =>
      Pu (unV .not t40_109) fun t42_110 =>
      IfB t42_110
        (∃ C_111 : World → Prop, C_111 (World.drew w_107) ∧
          (Pu (nilV d0) fun t44_112 =>
          Pu (faV 1 t44_112) fun t45_113 =>
          ∃ t46_114, (∀ w_115, C_111 w_115 → Ld w_115 t45_113 fun t46_116 w_117 =>
          t46_116 = t46_114 ∧ w_117 = w_115) ∧
          (Cl Tryz.prog 121 [d0, atv1_25] (World.drew w_107) fun t50_118 w_119 =>
          C_111 w_119 ∧
          (RunS Tryz.prog (convert 123 9 t50_118) w_119 fun t51_120 w_121 =>
          w_121 = w_119 ∧
          RunU Tryz.prog (Instr.mapUpdate 124 t46_114 atv1_25 t51_120) w_119 fun u_122 w_123 =>
          jj_67 [] w_123))))
        (jj_67 [] w_107)))
      (k (Value.int IntKind.i64 0) w_64))))
theorem e94 (k : KV) (d0 : Value) (atv1 : Value) (data2 : Value) (w : World) : K KD Tryz.prog 62 (fun j => bif Nat.beq j 6 then [1, 2] else []) (fun j => bif Nat.beq j 11 then some [] else none) (Tryz.f94.body.getD .skip) (retQ Tryz.prog Tryz.f94 k) (argF [d0, atv1, data2]) w = T94 k d0 atv1 data2 w := by kernel_rfl
theorem c94 {k : KV} {d0 : Value} {atv1 : Value} {data2 : Value} {w : World} (h : T94 k d0 atv1 data2 w) : Cl Tryz.prog 94 [d0, atv1, data2] w k :=
  Cl_of_K KD_sound mixed Tryz.func94 (by kernel_rfl) (by kernel_rfl) ((e94 k d0 atv1 data2 w).symm ▸ h)

/-- Function 108: (*almonry/disk.Disk).Size. -/
def T108 (k : KV) (d0 : Value) (w : World) : Prop :=
  Pu (binV (TypeDesc.pointer 126) .eql d0 (Value.pointer none)) fun t4_1 =>
  IfB t4_1
    (k (Value.int IntKind.i64 0) w)
    (Pu (nilV d0) fun t6_2 =>
  Pu (faV 0 t6_2) fun t7_3 =>
  Ld w t7_3 fun t8_4 w_5 =>
  Pu (lenV t8_4) fun t9_6 =>
  Pu (binV (TypeDesc.int IntKind.i64) .quo t9_6 (Value.int IntKind.i64 64)) fun t10_7 =>
  k t10_7 w_5)
theorem e108 (k : KV) (d0 : Value) (w : World) : K KD Tryz.prog 11 (fun j =>  []) (fun j =>  none) (Tryz.f108.body.getD .skip) (retQ Tryz.prog Tryz.f108 k) (argF [d0]) w = T108 k d0 w := by kernel_rfl
theorem c108 {k : KV} {d0 : Value} {w : World} (h : T108 k d0 w) : Cl Tryz.prog 108 [d0] w k :=
  Cl_of_K KD_sound mixed Tryz.func108 (by kernel_rfl) (by kernel_rfl) ((e108 k d0 w).symm ▸ h)

/-- Function 110: (*almonry/disk.Disk).alive. -/
def T110 (k : KV) (d0 : Value) (w : World) : Prop :=
  Pu (binV (TypeDesc.pointer 126) .eql d0 (Value.pointer none)) fun t5_1 =>
  IfB t5_1
    (k (Value.int IntKind.i64 2) w)
    (Pu (nilV d0) fun t8_2 =>
      Pu (faV 3 t8_2) fun t9_3 =>
      Ld w t9_3 fun t10_4 w_5 =>
      IfB t10_4
        (k (Value.int IntKind.i64 5) w_5)
        (k (Value.int IntKind.i64 0) w_5))
theorem e110 (k : KV) (d0 : Value) (w : World) : K KD Tryz.prog 11 (fun j =>  []) (fun j =>  none) (Tryz.f110.body.getD .skip) (retQ Tryz.prog Tryz.f110 k) (argF [d0]) w = T110 k d0 w := by kernel_rfl
theorem c110 {k : KV} {d0 : Value} {w : World} (h : T110 k d0 w) : Cl Tryz.prog 110 [d0] w k :=
  Cl_of_K KD_sound mixed Tryz.func110 (by kernel_rfl) (by kernel_rfl) ((e110 k d0 w).symm ▸ h)

/-- Function 111: (*almonry/disk.Disk).act. -/
def T111 (k : KV) (d0 : Value) (w : World) : Prop :=
  Pu (nilV d0) fun t4_1 =>
  Pu (faV 4 t4_1) fun t5_2 =>
  Ld w t5_2 fun t6_3 w_4 =>
  Pu (binV (TypeDesc.int IntKind.i64) .add t6_3 (Value.int IntKind.i64 1)) fun t7_5 =>
  Pu (nilV d0) fun t8_6 =>
  Pu (faV 4 t8_6) fun t9_7 =>
  St 1 w_4 t9_7 t7_5 fun u_8 w_9 =>
  Jn (fun vs_32 w_31 => ∀ g_33 : Fr, vs_32 = [] ∧
      (Pu (nilV d0) fun t31_34 =>
      Pu (faV 3 t31_34) fun t32_35 =>
      Ld w_31 t32_35 fun t33_36 w_37 =>
      k t33_36 w_37))
    (fun jj_10 =>
    Pu (nilV d0) fun t11_38 =>
    Pu (faV 2 t11_38) fun t12_39 =>
    Ld w_9 t12_39 fun t13_40 w_41 =>
    Pu (binV (TypeDesc.int IntKind.i64) .gtr t13_40 (Value.int IntKind.i64 0)) fun t14_42 =>
    IfB t14_42
      (Pu (nilV d0) fun t16_43 =>
        Pu (faV 2 t16_43) fun t17_44 =>
        Ld w_41 t17_44 fun t18_45 w_46 =>
        Pu (binV (TypeDesc.int IntKind.i64) .sub t18_45 (Value.int IntKind.i64 1)) fun t19_47 =>
        Pu (nilV d0) fun t20_48 =>
        Pu (faV 2 t20_48) fun t21_49 =>
        St 1 w_46 t21_49 t19_47 fun u_50 w_51 =>
        Pu (nilV d0) fun t24_52 =>
        Pu (faV 2 t24_52) fun t25_53 =>
        Ld w_51 t25_53 fun t26_54 w_55 =>
        Pu (binV (TypeDesc.int IntKind.i64) .eql t26_54 (Value.int IntKind.i64 0)) fun t27_56 =>
        Pu (nilV d0) fun t28_57 =>
        Pu (faV 3 t28_57) fun t29_58 =>
        St 1 w_55 t29_58 t27_56 fun u_59 w_60 =>
        jj_10 [] w_60)
      (jj_10 [] w_41))
theorem e111 (k : KV) (d0 : Value) (w : World) : K KD Tryz.prog 34 (fun j =>  []) (fun j => bif Nat.beq j 5 then some [] else none) (Tryz.f111.body.getD .skip) (retQ Tryz.prog Tryz.f111 k) (argF [d0]) w = T111 k d0 w := by kernel_rfl
theorem c111 {k : KV} {d0 : Value} {w : World} (h : T111 k d0 w) : Cl Tryz.prog 111 [d0] w k :=
  Cl_of_K KD_sound mixed Tryz.func111 (by kernel_rfl) (by kernel_rfl) ((e111 k d0 w).symm ▸ h)

/-- Function 114: (*almonry/disk.Disk).has. -/
def T114 (k : KV) (d0 : Value) (atv1 : Value) (n2 : Value) (w : World) : Prop :=
  Pu (binV (TypeDesc.int IntKind.i64) .geq atv1 (Value.int IntKind.i64 0)) fun t8_1 =>
  Gd (isB true t8_1) (fun kk => kk n2 w) w fun t10_2 w_3 =>
  Gd (isB true t8_1) (fun kk => Pu (binV (TypeDesc.int IntKind.i64) .geq t10_2 (Value.int IntKind.i64 0)) fun vv => kk vv w_3) w_3 fun t11_4 w_5 =>
  Pu (pickV t8_1 t11_4 (Value.bool false)) fun t12_6 =>
  Gd (isB true t12_6) (fun kk => kk atv1 w_5) w_5 fun t14_7 w_8 =>
  Gd (isB true t12_6) (fun kk => kk d0 w_8) w_8 fun t15_9 w_10 =>
  Gd (isB true t12_6) (fun kk => Cl Tryz.prog 108 [t15_9] w_10 kk) w_10 fun t16_11 w_12 =>
  Gd (isB true t12_6) (fun kk => Pu (binV (TypeDesc.int IntKind.i64) .leq t14_7 t16_11) fun vv => kk vv w_12) w_12 fun t17_13 w_14 =>
  Pu (pickV t12_6 t17_13 (Value.bool false)) fun t18_15 =>
  Gd (isB true t18_15) (fun kk => kk n2 w_14) w_14 fun t20_16 w_17 =>
  Gd (isB true t18_15) (fun kk => kk d0 w_17) w_17 fun t21_18 w_19 =>
  Gd (isB true t18_15) (fun kk => Cl Tryz.prog 108 [t21_18] w_19 kk) w_19 fun t22_20 w_21 =>
  Gd (isB true t18_15) (fun kk => kk atv1 w_21) w_21 fun t23_22 w_23 =>
  Gd (isB true t18_15) (fun kk => Pu (binV (TypeDesc.int IntKind.i64) .sub t22_20 t23_22) fun vv => kk vv w_23) w_23 fun t24_24 w_25 =>
  Gd (isB true t18_15) (fun kk => Pu (binV (TypeDesc.int IntKind.i64) .leq t20_16 t24_24) fun vv => kk vv w_25) w_25 fun t25_26 w_27 =>
  Pu (pickV t18_15 t25_26 (Value.bool false)) fun t26_28 =>
  k t26_28 w_27
theorem e114 (k : KV) (d0 : Value) (atv1 : Value) (n2 : Value) (w : World) : K KD Tryz.prog 27 (fun j =>  []) (fun j =>  none) (Tryz.f114.body.getD .skip) (retQ Tryz.prog Tryz.f114 k) (argF [d0, atv1, n2]) w = T114 k d0 atv1 n2 w := by kernel_rfl
theorem c114 {k : KV} {d0 : Value} {atv1 : Value} {n2 : Value} {w : World} (h : T114 k d0 atv1 n2 w) : Cl Tryz.prog 114 [d0, atv1, n2] w k :=
  Cl_of_K KD_sound mixed Tryz.func114 (by kernel_rfl) (by kernel_rfl) ((e114 k d0 atv1 n2 w).symm ▸ h)

/-- Function 120: (*almonry/disk.Disk).Pending. -/
def T120 (k : KV) (d0 : Value) (w : World) : Prop :=
  Pu (binV (TypeDesc.pointer 126) .eql d0 (Value.pointer none)) fun t4_1 =>
  IfB t4_1
    (k (Value.slice none 0 0) w)
    (Pu (nilV d0) fun t6_2 =>
  Pu (faV 1 t6_2) fun t7_3 =>
  Ld w t7_3 fun t8_4 w_5 =>
  Cl Tryz.prog 191 [t8_4] w_5 fun t9_6 w_7 =>
  Cl Tryz.prog 118 [t9_6] w_7 fun t10_8 w_9 =>
  k t10_8 w_9)
theorem e120 (k : KV) (d0 : Value) (w : World) : K KD Tryz.prog 11 (fun j =>  []) (fun j =>  none) (Tryz.f120.body.getD .skip) (retQ Tryz.prog Tryz.f120 k) (argF [d0]) w = T120 k d0 w := by kernel_rfl
theorem c120 {k : KV} {d0 : Value} {w : World} (h : T120 k d0 w) : Cl Tryz.prog 120 [d0] w k :=
  Cl_of_K KD_sound mixed Tryz.func120 (by kernel_rfl) (by kernel_rfl) ((e120 k d0 w).symm ▸ h)

/-- Function 121: (*almonry/disk.Disk).sector. -/
def T121 (k : KV) (d0 : Value) (n1 : Value) (w : World) : Prop :=
  Pu (nilV d0) fun t6_1 =>
  Pu (faV 0 t6_1) fun t7_2 =>
  Ld w t7_2 fun t8_3 w_4 =>
  Pu (binV (TypeDesc.int IntKind.i64) .mul n1 (Value.int IntKind.i64 64)) fun t10_5 =>
  Pu (binV (TypeDesc.int IntKind.i64) .add n1 (Value.int IntKind.i64 1)) fun t12_6 =>
  Pu (binV (TypeDesc.int IntKind.i64) .mul t12_6 (Value.int IntKind.i64 64)) fun t13_7 =>
  Pu (slV 1 t8_3 (some t10_5) (some t13_7) none) fun t14_8 =>
  k t14_8 w_4
theorem e121 (k : KV) (d0 : Value) (n1 : Value) (w : World) : K KD Tryz.prog 15 (fun j =>  []) (fun j =>  none) (Tryz.f121.body.getD .skip) (retQ Tryz.prog Tryz.f121 k) (argF [d0, n1]) w = T121 k d0 n1 w := by kernel_rfl
theorem c121 {k : KV} {d0 : Value} {n1 : Value} {w : World} (h : T121 k d0 n1 w) : Cl Tryz.prog 121 [d0, n1] w k :=
  Cl_of_K KD_sound mixed Tryz.func121 (by kernel_rfl) (by kernel_rfl) ((e121 k d0 n1 w).symm ▸ h)

/-- Function 145: (*almonry/disk.Disk).Acts. -/
def T145 (k : KV) (d0 : Value) (w : World) : Prop :=
  Pu (binV (TypeDesc.pointer 126) .eql d0 (Value.pointer none)) fun t4_1 =>
  IfB t4_1
    (k (Value.int IntKind.i64 0) w)
    (Pu (nilV d0) fun t6_2 =>
  Pu (faV 4 t6_2) fun t7_3 =>
  Ld w t7_3 fun t8_4 w_5 =>
  k t8_4 w_5)
theorem e145 (k : KV) (d0 : Value) (w : World) : K KD Tryz.prog 9 (fun j =>  []) (fun j =>  none) (Tryz.f145.body.getD .skip) (retQ Tryz.prog Tryz.f145 k) (argF [d0]) w = T145 k d0 w := by kernel_rfl
theorem c145 {k : KV} {d0 : Value} {w : World} (h : T145 k d0 w) : Cl Tryz.prog 145 [d0] w k :=
  Cl_of_K KD_sound mixed Tryz.func145 (by kernel_rfl) (by kernel_rfl) ((e145 k d0 w).symm ▸ h)

/-- Function 118: slices.Sorted[int]. -/
def T118 (k : KV) (seq0 : Value) (w : World) : Prop :=
  Cl Tryz.prog 188 [seq0] w fun t5_1 w_2 =>
  Cl Tryz.prog 189 [t5_1] w_2 fun t7_3 w_4 =>
  k t5_1 w_4
theorem e118 (k : KV) (seq0 : Value) (w : World) : K KD Tryz.prog 9 (fun j =>  []) (fun j =>  none) (Tryz.f118.body.getD .skip) (retQ Tryz.prog Tryz.f118 k) (argF [seq0]) w = T118 k seq0 w := by kernel_rfl
theorem c118 {k : KV} {seq0 : Value} {w : World} (h : T118 k seq0 w) : Cl Tryz.prog 118 [seq0] w k :=
  Cl_of_K KD_sound mixed Tryz.func118 (by kernel_rfl) (by kernel_rfl) ((e118 k seq0 w).symm ▸ h)

/-- Function 191: maps.Keys[map[int]string,int,string]. -/
def T191 (k : KV) (m0 : Value) (w : World) : Prop :=
  New (Value.cells m0) 124 w fun m1_1 w_2 =>
  k (.func (Fn.func 221) #[] #[m1_1]) w_2
theorem e191 (k : KV) (m0 : Value) (w : World) : K KD Tryz.prog 4 (fun j =>  []) (fun j =>  none) (Tryz.f191.body.getD .skip) (retQ Tryz.prog Tryz.f191 k) (argF [m0]) w = T191 k m0 w := by kernel_rfl
theorem c191 {k : KV} {m0 : Value} {w : World} (h : T191 k m0 w) : Cl Tryz.prog 191 [m0] w k :=
  Cl_of_K KD_sound mixed Tryz.func191 (by kernel_rfl) (by kernel_rfl) ((e191 k m0 w).symm ▸ h)

end Go.Proofs.YthbngnlmgplijaaGreatDoor
