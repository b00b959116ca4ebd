/- Laid for one claim by slim.py out of: CpsW WalA WlRef WlRef2 WalB WlRef3 WlRef4 RcSame WalC WalD WalE2 WalGet PoolPure PoolGood CpsL PoolMem PoolOps. -/
import Derived.Test.YthbngnlmgplijaaGreatDoorPlyD
namespace Go.Proofs.YthbngnlmgplijaaGreatDoor
open Go.Al Go.Proofs
set_option maxRecDepth 100000
set_option linter.unusedVariables false
set_option linter.unusedSimpArgs false
def T18 (k : KV) (d0 fromv1 n2 : Value) (w : World) : Prop :=
 Cl Tryz.prog 93 [d0, fromv1, n2] w fun t1 w2 =>
 Pu (unV .not t1) fun t3 =>
 IfB t3
 (k (.tuple #[(.pointer none), (.int .i64 1)]) w2)
 (Pu (binV (.int .i64) .mul n2 (.int .i64 64)) fun t4 =>
 Cl Tryz.prog 95 [(.string (.mk #[0])), t4] w2 fun t5 w6 =>
 Cl Tryz.prog 94 [d0, fromv1, t5] w6 fun t7 w8 =>
 Pu (binV (.int .i64) .neq t7 (.int .i64 0)) fun t9 =>
 IfB t9
 (k (.tuple #[(.pointer none), t7]) w8)
 (Cl Tryz.prog 38 [d0] w8 fun t10 w11 =>
 Pu (binV (.int .i64) .neq t10 (.int .i64 0)) fun t12 =>
 IfB t12
 (k (.tuple #[(.pointer none), t10]) w11)
 (RunS Tryz.prog (Instr.makeMap 130 none) w11 fun t13 w14 =>
 RunS Tryz.prog (Instr.build 132 #[(0, d0), (1, fromv1), (2, n2), (3, (.int .i64 1)), (5, (.int .i64 1)), (6, (.int .i64 1)), (8, t13)]) w14 fun t15 w16 =>
 New (Value.cells t15) 132 w16 fun t17 w18 =>
 k (.tuple #[t17, (.int .i64 0)]) w18)))
theorem e18 (k : KV) (d0 fromv1 n2 : Value) (w : World) : K KD Tryz.prog 35 (fun j =>  []) (fun j =>  none) (Tryz.f18.body.getD .skip) (retQ Tryz.prog Tryz.f18 k) (argF [d0, fromv1, n2]) w = T18 k d0 fromv1 n2 w := by kernel_rfl
theorem c18 {k : KV} {d0 fromv1 n2 : Value} {w : World} (h : T18 k d0 fromv1 n2 w) : Cl Tryz.prog 18 [d0, fromv1, n2] w k :=
  Cl_of_K KD_sound mixed Tryz.func18 (by kernel_rfl) (by kernel_rfl) ((e18 k d0 fromv1 n2 w).symm ▸ h)

def T19 (k : KV) (l0 : Value) (w : World) : Prop :=
 Pu (binV (TypeDesc.pointer 132) .eql l0 (.pointer none)) fun t1 =>
 IfB t1
 (k (.int .i64 0) w)
 (∃ C2 : World → Prop, C2 (World.drew w) ∧
 (Pu (nilV l0) fun t3 =>
 Pu (faV 2 t3) fun t4 =>
 ∃ t5, (∀ w6, C2 w6 → Ld w6 t4 fun t7 w8 =>
 t7 = t5 ∧ w8 = w6) ∧
 (Pu (binV (.int .i64) .sub t5 (.int .i64 2)) fun t9 =>
 Pu (binV (.int .i64) .mul (.int .i64 54) t9) fun t10 =>
 Pu (nilV l0) fun t11 =>
 Pu (faV 5 t11) fun t12 =>
 ∃ t13, (∀ w14, C2 w14 → Ld w14 t12 fun t15 w16 =>
 t15 = t13 ∧ w16 = w14) ∧
 (Pu (nilV l0) fun t17 =>
 Pu (faV 7 t17) fun t18 =>
 ∃ t19, (∀ w20, C2 w20 → Ld w20 t18 fun t21 w22 =>
 t21 = t19 ∧ w22 = w20) ∧
 (Cl Tryz.prog 20 [l0] (World.drew w) fun t23 w24 =>
 C2 w24 ∧
 (Pu (binV (.int .i64) .sub t23 t13) fun t25 =>
 Pu (binV (.int .i64) .sub t10 t25) fun t26 =>
 Pu (binV (.int .i64) .sub t26 t19) fun t27 =>
 k t27 w24))))))
theorem e19 (k : KV) (l0 : Value) (w : World) : K KD Tryz.prog 24 (fun j =>  []) (fun j =>  none) (Tryz.f19.body.getD .skip) (retQ Tryz.prog Tryz.f19 k) (argF [l0]) w = T19 k l0 w := by kernel_rfl
theorem c19 {k : KV} {l0 : Value} {w : World} (h : T19 k l0 w) : Cl Tryz.prog 19 [l0] w k :=
  Cl_of_K KD_sound mixed Tryz.func19 (by kernel_rfl) (by kernel_rfl) ((e19 k l0 w).symm ▸ h)

def T20 (k : KV) (l0 : Value) (w : World) : Prop :=
 Pu (binV (TypeDesc.pointer 132) .eql l0 (.pointer none)) fun t1 =>
 IfB t1
 (k (.int .i64 0) w)
 (Pu (nilV l0) fun t2 =>
 Pu (faV 3 t2) fun t3 =>
 Ld (World.drew w) t3 fun t4 w5 =>
 w5 = (World.drew w) ∧
 Pu (nilV l0) fun t6 =>
 Pu (faV 4 t6) fun t7 =>
 Ld (World.drew w) t7 fun t8 w9 =>
 w9 = (World.drew w) ∧
 Pu (lenV t8) fun t10 =>
 Pu (binV (.int .i64) .add t4 t10) fun t11 =>
 k t11 (World.drew w))
theorem e20 (k : KV) (l0 : Value) (w : World) : K KD Tryz.prog 15 (fun j =>  []) (fun j =>  none) (Tryz.f20.body.getD .skip) (retQ Tryz.prog Tryz.f20 k) (argF [l0]) w = T20 k l0 w := by kernel_rfl
theorem c20 {k : KV} {l0 : Value} {w : World} (h : T20 k l0 w) : Cl Tryz.prog 20 [l0] w k :=
  Cl_of_K KD_sound mixed Tryz.func20 (by kernel_rfl) (by kernel_rfl) ((e20 k l0 w).symm ▸ h)

def T21 (k : KV) (l0 r1 : Value) (w : World) : Prop :=
 New (Value.cells r1) 28 w fun r3_1 w2 =>
 Pu (binV (TypeDesc.pointer 132) .eql l0 (.pointer none)) fun t3 =>
 IfB t3
 (k (.tuple #[(.int .i64 0), (.int .i64 2)]) w2)
 (Cl Tryz.prog 20 [l0] w2 fun t4 w5 =>
 Pu (faV 0 r3_1) fun t6 =>
 St 1 w5 t6 t4 fun u7 w8 =>
 LdN 16 w8 r3_1 fun t9 w10 =>
 Cl Tryz.prog 89 [t9] w10 fun t11 w12 =>
 Pu (extV t11 0) fun t13 =>
 Pu (extV t11 1) fun t14 =>
 Pu (binV (.int .i64) .neq t14 (.int .i64 0)) fun t15 =>
 IfB t15
 (k (.tuple #[(.int .i64 0), t14]) w12)
 (Pu (lenS t13) fun t16 =>
 Cl Tryz.prog 19 [l0] w12 fun t17 w18 =>
 Pu (binV (.int .i64) .gtr t16 t17) fun t19 =>
 IfB t19
 (k (.tuple #[(.int .i64 0), (.int .i64 50)]) w18)
 (Pu (nilV l0) fun t20 =>
 Pu (faV 4 t20) fun t21 =>
 Ld w18 t21 fun t22 w23 =>
 RunS Tryz.prog (Builtin.append_ #[123, 9] 123 #[t22, t13]) w23 fun t24 w25 =>
 Pu (nilV l0) fun t26 =>
 Pu (faV 4 t26) fun t27 =>
 St 1 w25 t27 t24 fun u28 w29 =>
 ∃ C30 : World → Prop, C30 (World.drew w29) ∧
 (Pu (nilV l0) fun t31 =>
 Pu (faV 8 t31) fun t32 =>
 ∃ t33, (∀ w34, C30 w34 → Ld w34 t32 fun t35 w36 =>
 t35 = t33 ∧ w36 = w34) ∧
 (Pu (faV 0 r3_1) fun t37 =>
 ∃ t38, (∀ w39, C30 w39 → Ld w39 t37 fun t40 w41 =>
 t40 = t38 ∧ w41 = w39) ∧
 (LdN 16 (World.drew w29) r3_1 fun t42 w43 =>
 w43 = (World.drew w29) ∧
 Cl Tryz.prog 96 [t42] (World.drew w29) fun t44 w45 =>
 C30 w45 ∧
 (RunU Tryz.prog (Instr.mapUpdate 130 t33 t38 t44) w45 fun u46 w47 =>
 Pu (faV 0 r3_1) fun t48 =>
 Ld w47 t48 fun t49 w50 =>
 k (.tuple #[t49, (.int .i64 0)]) w50)))))))
theorem e21 (k : KV) (l0 r1 : Value) (w : World) : K KD Tryz.prog 45 (fun j =>  []) (fun j =>  none) (Tryz.f21.body.getD .skip) (retQ Tryz.prog Tryz.f21 k) (argF [l0, r1]) w = T21 k l0 r1 w := by kernel_rfl
theorem c21 {k : KV} {l0 r1 : Value} {w : World} (h : T21 k l0 r1 w) : Cl Tryz.prog 21 [l0, r1] w k :=
  Cl_of_K KD_sound mixed Tryz.func21 (by kernel_rfl) (by kernel_rfl) ((e21 k l0 r1 w).symm ▸ h)

def T26 (k : KV) (l0 to1 : Value) (w : World) : Prop :=
 Pu (binV (TypeDesc.pointer 132) .eql l0 (.pointer none)) fun t1 =>
 IfB t1
 (k (.int .i64 2) w)
 (Cl Tryz.prog 20 [l0] w fun t2 w3 =>
 Pu (nilV l0) fun t4 =>
 Pu (faV 6 t4) fun t5 =>
 Ld w3 t5 fun t6 w7 =>
 Pu (binV (.int .i64) .lss to1 t6) fun t8 =>
 Gd (isB false t8) (fun kk => kk l0 w7) w7 fun t9 w10 =>
 Gd (isB false t8) (fun kk => Pu (nilV t9) fun vv => kk vv w10) w10 fun t11 w12 =>
 Gd (isB false t8) (fun kk => Pu (faV 6 t11) fun vv => kk vv w12) w12 fun t13 w14 =>
 Gd (isB false t8) (fun kk => Ld w14 t13 kk) w14 fun t15 w16 =>
 Gd (isB false t8) (fun kk => kk t2 w16) w16 fun t17 w18 =>
 Gd (isB false t8) (fun kk => Pu (binV (.int .i64) .eql t15 t17) fun vv => kk vv w18) w18 fun t19 w20 =>
 Pu (pickV t8 (.bool true) t19) fun t21 =>
 IfB t21
 (k (.int .i64 0) w20)
 (Pu (nilV l0) fun t22 =>
 Pu (faV 6 t22) fun t23 =>
 Ld w20 t23 fun t24 w25 =>
 Cl Tryz.prog 97 [t24] w25 fun t26 w27 =>
 ∃ (I28 : List Value → World → Prop) (m29 : List Value → World → Nat), I28 [t26] w27 ∧
 ∀ (g57 : Fr) (w56 : World), ∀ kv32 : Value, I28 [kv32] w56 →
 (Cl Tryz.prog 98 [kv32] w56 fun t58 w59 =>
 Pu (binV (.int .i64) .lss t58 t2) fun t60 =>
 IfB t60
 (∃ C61 : World → Prop, C61 (World.drew w59) ∧
 (Pu (nilV l0) fun t62 =>
 Pu (faV 0 t62) fun t63 =>
 ∃ t64, (∀ w65, C61 w65 → Ld w65 t63 fun t66 w67 =>
 t66 = t64 ∧ w67 = w65) ∧
 (Cl Tryz.prog 99 [l0, kv32] (World.drew w59) fun t68 w69 =>
 C61 w69 ∧
 (Cl Tryz.prog 101 [l0, kv32] w69 fun t70 w71 =>
 C61 w71 ∧
 (Cl Tryz.prog 100 [kv32, t70] w71 fun t72 w73 =>
 C61 w73 ∧
 (Cl Tryz.prog 94 [t64, t68, t72] w73 fun t74 w75 =>
 Pu (binV (.int .i64) .neq t74 (.int .i64 0)) fun t76 =>
 IfB t76
 (k t74 w75)
 (Pu (binV (.int .i64) .add kv32 (.int .i64 1)) fun t77 =>
 I28 [t77] w75 ∧ m29 [t77] w75 < m29 [kv32] w56)))))))
 (Pu (nilV l0) fun t78 =>
 Pu (faV 0 t78) fun t79 =>
 Ld w59 t79 fun t80 w81 =>
 Cl Tryz.prog 38 [t80] w81 fun t82 w83 =>
 Pu (binV (.int .i64) .neq t82 (.int .i64 0)) fun t84 =>
 IfB t84
 (k t82 w83)
 (Pu (nilV l0) fun t85 =>
 Pu (faV 6 t85) fun t86 =>
 St 1 w83 t86 t2 fun u87 w88 =>
 k (.int .i64 0) w88)))))
theorem e26 (k : KV) (l0 to1 : Value) (w : World) : K KD Tryz.prog 66 (fun j => bif Nat.beq j 7 then [6] else []) (fun j =>  none) (Tryz.f26.body.getD .skip) (retQ Tryz.prog Tryz.f26 k) (argF [l0, to1]) w = T26 k l0 to1 w := by kernel_rfl
theorem c26 {k : KV} {l0 to1 : Value} {w : World} (h : T26 k l0 to1 w) : Cl Tryz.prog 26 [l0, to1] w k :=
  Cl_of_K KD_sound mixed Tryz.func26 (by kernel_rfl) (by kernel_rfl) ((e26 k l0 to1 w).symm ▸ h)

def T27 (k : KV) (l0 : Value) (w : World) : Prop :=
 Pu (binV (TypeDesc.pointer 132) .eql l0 (.pointer none)) fun t1 =>
 IfB t1
 (k (.int .i64 0) w)
 (Pu (nilV l0) fun t2 =>
 Pu (faV 6 t2) fun t3 =>
 Ld w t3 fun t4 w5 =>
 k t4 w5)
theorem e27 (k : KV) (l0 : Value) (w : World) : K KD Tryz.prog 9 (fun j =>  []) (fun j =>  none) (Tryz.f27.body.getD .skip) (retQ Tryz.prog Tryz.f27 k) (argF [l0]) w = T27 k l0 w := by kernel_rfl
theorem c27 {k : KV} {l0 : Value} {w : World} (h : T27 k l0 w) : Cl Tryz.prog 27 [l0] w k :=
  Cl_of_K KD_sound mixed Tryz.func27 (by kernel_rfl) (by kernel_rfl) ((e27 k l0 w).symm ▸ h)

def T93 (k : KV) (d0 fromv1 n2 : Value) (w : World) : Prop :=
 Pu (binV (TypeDesc.pointer 126) .neq d0 (.pointer none)) fun t1 =>
 Gd (isB true t1) (fun kk => kk n2 w) w fun t2 w3 =>
 Gd (isB true t1) (fun kk => Pu (binV (.int .i64) .geq t2 (.int .i64 4)) fun vv => kk vv w3) w3 fun t4 w5 =>
 Pu (pickV t1 t4 (.bool false)) fun t6 =>
 Gd (isB true t6) (fun kk => kk fromv1 w5) w5 fun t7 w8 =>
 Gd (isB true t6) (fun kk => Pu (binV (.int .i64) .geq t7 (.int .i64 0)) fun vv => kk vv w8) w8 fun t9 w10 =>
 Pu (pickV t6 t9 (.bool false)) fun t11 =>
 Gd (isB true t11) (fun kk => kk n2 w10) w10 fun t12 w13 =>
 Gd (isB true t11) (fun kk => kk d0 w13) w13 fun t14 w15 =>
 Gd (isB true t11) (fun kk => Cl Tryz.prog 108 [t14] w15 kk) w15 fun t16 w17 =>
 Gd (isB true t11) (fun kk => Pu (binV (.int .i64) .leq t12 t16) fun vv => kk vv w17) w17 fun t18 w19 =>
 Pu (pickV t11 t18 (.bool false)) fun t20 =>
 Gd (isB true t20) (fun kk => kk fromv1 w19) w19 fun t21 w22 =>
 Gd (isB true t20) (fun kk => kk d0 w22) w22 fun t23 w24 =>
 Gd (isB true t20) (fun kk => Cl Tryz.prog 108 [t23] w24 kk) w24 fun t25 w26 =>
 Gd (isB true t20) (fun kk => kk n2 w26) w26 fun t27 w28 =>
 Gd (isB true t20) (fun kk => Pu (binV (.int .i64) .sub t25 t27) fun vv => kk vv w28) w28 fun t29 w30 =>
 Gd (isB true t20) (fun kk => Pu (binV (.int .i64) .leq t21 t29) fun vv => kk vv w30) w30 fun t31 w32 =>
 Pu (pickV t20 t31 (.bool false)) fun t33 =>
 k t33 w32
theorem e93 (k : KV) (d0 fromv1 n2 : Value) (w : World) : K KD Tryz.prog 31 (fun j =>  []) (fun j =>  none) (Tryz.f93.body.getD .skip) (retQ Tryz.prog Tryz.f93 k) (argF [d0, fromv1, n2]) w = T93 k d0 fromv1 n2 w := by kernel_rfl
theorem c93 {k : KV} {d0 fromv1 n2 : Value} {w : World} (h : T93 k d0 fromv1 n2 w) : Cl Tryz.prog 93 [d0, fromv1, n2] w k :=
  Cl_of_K KD_sound mixed Tryz.func93 (by kernel_rfl) (by kernel_rfl) ((e93 k d0 fromv1 n2 w).symm ▸ h)

def T96 (k : KV) (r0 : Value) (w : World) : Prop :=
 New (Value.cells r0) 28 w fun r1 w2 =>
 New #[(.int .i64 0), (.int .i64 0), (.int .i64 0), (.int .u8 0), (.int .i64 0), (.int .i64 0), (.int .i64 0), (.int .i64 0), (.int .i64 0), (.int .i64 0), (.string (.mk #[])), (.slice none 0 0), (.slice none 0 0), (.slice none 0 0), (.slice none 0 0), (.slice none 0 0)] 28 w2 fun t3 w4 =>
 LdN 16 w4 r1 fun t5 w6 =>
 Cl Tryz.prog 89 [t5] w6 fun t7 w8 =>
 Pu (extV t7 0) fun t9 =>
 Pu (extV t7 1) fun t10 =>
 Cl Tryz.prog 13 [t9] w8 fun t11 w12 =>
 Pu (extV t11 0) fun t13 =>
 Pu (extV t11 1) fun t14 =>
 Pu (extV t11 2) fun t15 =>
 New #[(.int .i64 0), (.int .i64 0), (.int .i64 0), (.int .u8 0), (.int .i64 0), (.int .i64 0), (.int .i64 0), (.int .i64 0), (.int .i64 0), (.int .i64 0), (.string (.mk #[])), (.slice none 0 0), (.slice none 0 0), (.slice none 0 0), (.slice none 0 0), (.slice none 0 0)] 28 w12 fun c16 w17 =>
 St 16 w17 c16 t13 fun u18 w19 =>
 LdN 16 w19 c16 fun t20 w21 =>
 St 16 w21 t3 t20 fun u22 w23 =>
 RetO (resL Tryz.prog (fun j => bif Nat.beq j 2 then t3 else undef) w23 [(ResultVar.cell 2 28)]) w23 k
theorem e96 (k : KV) (r0 : Value) (w : World) : K KD Tryz.prog 20 (fun j =>  []) (fun j =>  none) (Tryz.f96.body.getD .skip) (retQ Tryz.prog Tryz.f96 k) (argF [r0]) w = T96 k r0 w := by kernel_rfl
theorem c96 {k : KV} {r0 : Value} {w : World} (h : T96 k r0 w) : Cl Tryz.prog 96 [r0] w k :=
  Cl_of_K KD_sound mixed Tryz.func96 (by kernel_rfl) (by kernel_rfl) ((e96 k r0 w).symm ▸ h)

def T97 (k : KV) (atv0 : Value) (w : World) : Prop :=
 Pu (binV (.int .i64) .sub atv0 (.int .i64 1)) fun t1 =>
 Pu (binV (.int .i64) .quo t1 (.int .i64 54)) fun t2 =>
 k t2 w
theorem e97 (k : KV) (atv0 : Value) (w : World) : K KD Tryz.prog 6 (fun j =>  []) (fun j =>  none) (Tryz.f97.body.getD .skip) (retQ Tryz.prog Tryz.f97 k) (argF [atv0]) w = T97 k atv0 w := by kernel_rfl
theorem c97 {k : KV} {atv0 : Value} {w : World} (h : T97 k atv0 w) : Cl Tryz.prog 97 [atv0] w k :=
  Cl_of_K KD_sound mixed Tryz.func97 (by kernel_rfl) (by kernel_rfl) ((e97 k atv0 w).symm ▸ h)

def T98 (k : KV) (kv0 : Value) (w : World) : Prop :=
 Pu (binV (.int .i64) .mul kv0 (.int .i64 54)) fun t1 =>
 Pu (binV (.int .i64) .add t1 (.int .i64 1)) fun t2 =>
 k t2 w
theorem e98 (k : KV) (kv0 : Value) (w : World) : K KD Tryz.prog 6 (fun j =>  []) (fun j =>  none) (Tryz.f98.body.getD .skip) (retQ Tryz.prog Tryz.f98 k) (argF [kv0]) w = T98 k kv0 w := by kernel_rfl
theorem c98 {k : KV} {kv0 : Value} {w : World} (h : T98 k kv0 w) : Cl Tryz.prog 98 [kv0] w k :=
  Cl_of_K KD_sound mixed Tryz.func98 (by kernel_rfl) (by kernel_rfl) ((e98 k kv0 w).symm ▸ h)

def T99 (k : KV) (l0 kv1 : Value) (w : World) : Prop :=
 Pu (nilV l0) fun t1 =>
 Pu (faV 1 t1) fun t2 =>
 Ld (World.drew w) t2 fun t3 w4 =>
 w4 = (World.drew w) ∧
 Pu (nilV l0) fun t5 =>
 Pu (faV 2 t5) fun t6 =>
 Ld (World.drew w) t6 fun t7 w8 =>
 w8 = (World.drew w) ∧
 Pu (binV (.int .i64) .rem kv1 t7) fun t9 =>
 Pu (binV (.int .i64) .add t3 t9) fun t10 =>
 k t10 (World.drew w)
theorem e99 (k : KV) (l0 kv1 : Value) (w : World) : K KD Tryz.prog 16 (fun j =>  []) (fun j =>  none) (Tryz.f99.body.getD .skip) (retQ Tryz.prog Tryz.f99 k) (argF [l0, kv1]) w = T99 k l0 kv1 w := by kernel_rfl
theorem c99 {k : KV} {l0 kv1 : Value} {w : World} (h : T99 k l0 kv1 w) : Cl Tryz.prog 99 [l0, kv1] w k :=
  Cl_of_K KD_sound mixed Tryz.func99 (by kernel_rfl) (by kernel_rfl) ((e99 k l0 kv1 w).symm ▸ h)

def T100 (k : KV) (kv0 b1 : Value) (w : World) : Prop :=
 Pu (lenS b1) fun t1 =>
 Pu (cvI IntKind.u8 t1) fun t2 =>
 RunS Tryz.prog (Instr.buildSlice 123 1 #[(0, t2)]) w fun t3 w4 =>
 RunS Tryz.prog (convert 123 9 t3) w4 fun t5 w6 =>
 Cl Tryz.prog 179 [kv0] w6 fun t7 w8 =>
 Pu (binV TypeDesc.string .add t7 t5) fun t9 =>
 Pu (binV TypeDesc.string .add t9 b1) fun t10 =>
 Pu (lenS b1) fun t11 =>
 Pu (binV (.int .i64) .sub (.int .i64 54) t11) fun t12 =>
 Cl Tryz.prog 95 [(.string (.mk #[0])), t12] w8 fun t13 w14 =>
 Pu (binV TypeDesc.string .add t10 t13) fun t15 =>
 Pu (binV TypeDesc.string .add t15 t5) fun t16 =>
 Cl Tryz.prog 179 [kv0] w14 fun t17 w18 =>
 Pu (binV TypeDesc.string .add t16 t17) fun t19 =>
 k t19 w18
theorem e100 (k : KV) (kv0 b1 : Value) (w : World) : K KD Tryz.prog 27 (fun j =>  []) (fun j =>  none) (Tryz.f100.body.getD .skip) (retQ Tryz.prog Tryz.f100 k) (argF [kv0, b1]) w = T100 k kv0 b1 w := by kernel_rfl
theorem c100 {k : KV} {kv0 b1 : Value} {w : World} (h : T100 k kv0 b1 w) : Cl Tryz.prog 100 [kv0, b1] w k :=
  Cl_of_K KD_sound mixed Tryz.func100 (by kernel_rfl) (by kernel_rfl) ((e100 k kv0 b1 w).symm ▸ h)

def T101 (k : KV) (l0 kv1 : Value) (w : World) : Prop :=
 ∃ C1 : World → Prop, C1 (World.drew w) ∧
 (Pu (nilV l0) fun t2 =>
 Pu (faV 3 t2) fun t3 =>
 ∃ t4, (∀ w5, C1 w5 → Ld w5 t3 fun t6 w7 =>
 t6 = t4 ∧ w7 = w5) ∧
 (Cl Tryz.prog 98 [kv1] (World.drew w) fun t8 w9 =>
 C1 w9 ∧
 (Pu (binV (.int .i64) .sub t8 t4) fun t10 =>
 Pu (nilV l0) fun t11 =>
 Pu (faV 4 t11) fun t12 =>
 Ld (World.drew w9) t12 fun t13 w14 =>
 w14 = (World.drew w9) ∧
 Pu (binV (.int .i64) .add t10 (.int .i64 54)) fun t15 =>
 Pu (nilV l0) fun t16 =>
 Pu (faV 4 t16) fun t17 =>
 Ld (World.drew w9) t17 fun t18 w19 =>
 w19 = (World.drew w9) ∧
 Pu (lenV t18) fun t20 =>
 Pu (foldV0 min2V [t15, t20]) fun t21 =>
 Pu (slV 1 t13 (some t10) (some t21) none) fun t22 =>
 RunS Tryz.prog (convert 123 9 t22) (World.drew w9) fun t23 w24 =>
 w24 = (World.drew w9) ∧
 k t23 (World.drew w9))))
theorem e101 (k : KV) (l0 kv1 : Value) (w : World) : K KD Tryz.prog 28 (fun j =>  []) (fun j =>  none) (Tryz.f101.body.getD .skip) (retQ Tryz.prog Tryz.f101 k) (argF [l0, kv1]) w = T101 k l0 kv1 w := by kernel_rfl
theorem c101 {k : KV} {l0 kv1 : Value} {w : World} (h : T101 k l0 kv1 w) : Cl Tryz.prog 101 [l0, kv1] w k :=
  Cl_of_K KD_sound mixed Tryz.func101 (by kernel_rfl) (by kernel_rfl) ((e101 k l0 kv1 w).symm ▸ h)

def T179 (k : KV) (kv0 : Value) (w : World) : Prop :=
 Pu (binV (.int .i64) .add kv0 (.int .i64 1)) fun t1 =>
 Pu (binV (.int .i64) .rem t1 (.int .i64 4294967296)) fun t2 =>
 Cl Tryz.prog 115 [t2, (.int .i64 4)] w fun t3 w4 =>
 k t3 w4
theorem e179 (k : KV) (kv0 : Value) (w : World) : K KD Tryz.prog 7 (fun j =>  []) (fun j =>  none) (Tryz.f179.body.getD .skip) (retQ Tryz.prog Tryz.f179 k) (argF [kv0]) w = T179 k kv0 w := by kernel_rfl
theorem c179 {k : KV} {kv0 : Value} {w : World} (h : T179 k kv0 w) : Cl Tryz.prog 179 [kv0] w k :=
  Cl_of_K KD_sound mixed Tryz.func179 (by kernel_rfl) (by kernel_rfl) ((e179 k kv0 w).symm ▸ h)

def T174 (k : KV) (s0 prefixv1 : Value) (w : World) : Prop :=
 Cl Tryz.prog 210 [s0, prefixv1] w fun t1 w2 =>
 k t1 w2
theorem e174 (k : KV) (s0 prefixv1 : Value) (w : World) : K KD Tryz.prog 8 (fun j =>  []) (fun j =>  none) (Tryz.f174.body.getD .skip) (retQ Tryz.prog Tryz.f174 k) (argF [s0, prefixv1]) w = T174 k s0 prefixv1 w := by kernel_rfl
theorem c174 {k : KV} {s0 prefixv1 : Value} {w : World} (h : T174 k s0 prefixv1 w) : Cl Tryz.prog 174 [s0, prefixv1] w k :=
  Cl_of_K KD_sound mixed Tryz.func174 (by kernel_rfl) (by kernel_rfl) ((e174 k s0 prefixv1 w).symm ▸ h)

def T210 (k : KV) (s0 prefixv1 : Value) (w : World) : Prop :=
 Pu (lenS s0) fun t1 =>
 Pu (lenS prefixv1) fun t2 =>
 Pu (binV (.int .i64) .geq t1 t2) fun t3 =>
 Gd (isB true t3) (fun kk => kk s0 w) w fun t4 w5 =>
 Gd (isB true t3) (fun kk => kk prefixv1 w5) w5 fun t6 w7 =>
 Gd (isB true t3) (fun kk => Pu (lenS t6) fun vv => kk vv w7) w7 fun t8 w9 =>
 Gd (isB true t3) (fun kk => Pu (slS t4 none (some t8)) fun vv => kk vv w9) w9 fun t10 w11 =>
 Gd (isB true t3) (fun kk => kk prefixv1 w11) w11 fun t12 w13 =>
 Gd (isB true t3) (fun kk => Pu (binV TypeDesc.string .eql t10 t12) fun vv => kk vv w13) w13 fun t14 w15 =>
 Pu (pickV t3 t14 (.bool false)) fun t16 =>
 k t16 w15
theorem e210 (k : KV) (s0 prefixv1 : Value) (w : World) : K KD Tryz.prog 18 (fun j =>  []) (fun j =>  none) (Tryz.f210.body.getD .skip) (retQ Tryz.prog Tryz.f210 k) (argF [s0, prefixv1]) w = T210 k s0 prefixv1 w := by kernel_rfl
theorem c210 {k : KV} {s0 prefixv1 : Value} {w : World} (h : T210 k s0 prefixv1 w) : Cl Tryz.prog 210 [s0, prefixv1] w k :=
  Cl_of_K KD_sound mixed Tryz.func210 (by kernel_rfl) (by kernel_rfl) ((e210 k s0 prefixv1 w).symm ▸ h)

end Go.Proofs.YthbngnlmgplijaaGreatDoor

namespace Go.Proofs.YthbngnlmgplijaaGreatDoor
open Go.Al Go.Proofs
set_option linter.unusedVariables false
set_option linter.unusedSimpArgs false
set_option linter.unusedSectionVars false
set_option maxRecDepth 100000

structure Lg where
  frm : Nat
  n : Nat
  base : Nat
  kept : Bs
  start : Nat
  last : Nat
  res : Int
  recs : List (Int × Rc)

def blkN (k : Nat) : Bs := beN 4 ((k + 1) % 4294967296)
def sealB (k : Nat) (b : Bs) : Bs := blkN k ++ ([UInt8.ofNat b.length] ++ (b ++ (zeros (54 - b.length) ++ ([UInt8.ofNat b.length] ++ blkN k))))
def atR (r : Rc) (k : Nat) : Rc := { r with lsn := (k : Int) }

namespace Lg
def tail (L : Lg) : Nat := L.base + L.kept.length
def room (L : Lg) : Int := 54 * ((L.n : Int) - 2) - ((L.tail : Int) - (L.start : Int)) - L.res
def append (L : Lg) (r : Rc) : Lg × Int × Int :=
  bif decide ((rCheck (atR r L.tail)).2 = 0) then
    (bif decide (L.room < ((rEnc (atR r L.tail)).1.length : Int)) then (L, 0, 50)
     else ({ L with kept := L.kept ++ (rEnc (atR r L.tail)).1, recs := setD L.recs (L.tail : Int) (atR r L.tail) }, (L.tail : Int), 0))
  else (L, 0, (rCheck (atR r L.tail)).2)
def bytes (L : Lg) (k : Nat) : Bs := (L.kept.drop (k * 54 + 1 - L.base)).take 54
def put (L : Lg) (k : Nat) (d : Dk) : Dk × Int := d.write ((L.frm + k % L.n : Nat) : Int) (sealB k (L.bytes k))
def flushGo (L : Lg) : Nat → Nat → Dk → Dk × Int
  | 0, _, d => (d, 0)
  | f + 1, k, d => bif decide (k * 54 + 1 < L.tail) then (bif decide ((L.put k d).2 = 0) then flushGo L f (k + 1) (L.put k d).1 else L.put k d) else (d, 0)
def flushE (L : Lg) (d : Dk) : Dk × Int := flushGo L (L.kept.length + 1) ((L.last - 1) / 54) d
def flush (L : Lg) (upto : Int) (d : Dk) : Lg × Dk × Int :=
  bif decide (upto < (L.last : Int)) || decide (L.last = L.tail) then (L, d, 0) else
  bif decide ((L.flushE d).2 = 0) then (bif decide ((L.flushE d).1.sync.2 = 0) then ({ L with last := L.tail }, (L.flushE d).1.sync.1, 0) else (L, (L.flushE d).1.sync.1, (L.flushE d).1.sync.2))
  else (L, (L.flushE d).1, (L.flushE d).2)
def baseOf (b : Nat) : Nat := (b - 1) / 54 * 54 + 1
def new (frm n : Nat) : Lg := ⟨frm, n, 1, [], 1, 1, 0, []⟩

structure Wf (L : Lg) : Prop where
  n4 : 4 ≤ L.n
  big : L.frm + L.n ≤ 65536
  bs : L.base = baseOf L.start
  st : 1 ≤ L.start ∧ L.start ≤ L.last ∧ L.last ≤ L.tail
  small : L.kept.length ≤ 8000000
  low : L.tail ≤ 9223372036854775807
  hi : L.last < L.tail → L.tail ≤ 4611686018427500000
  res : 0 ≤ L.res ∧ L.res ≤ 4000000
  ok : ∀ p ∈ L.recs, p.2.lsn = p.1 ∧ (rCheck p.2).2 = 0 ∧ (∀ m ∈ p.2.imgs, m.2.lsn ≤ 9223372036854775807) ∧ (L.start : Int) ≤ p.1 ∧ p.1 < (L.tail : Int)

theorem baseOf_le {b : Nat} (h : 1 ≤ b) : 1 ≤ baseOf b ∧ baseOf b ≤ b ∧ b < baseOf b + 54 := by unfold baseOf; omega
theorem wf_new {frm n : Nat} (h1 : 4 ≤ n) (h2 : frm + n ≤ 65536) : (new frm n).Wf where
  n4 := h1
  big := h2
  bs := by simp [new, baseOf]
  st := by simp [new, tail]
  small := by simp [new]
  low := by simp [new, tail]
  hi := by simp [new, tail]
  res := by simp [new]
  ok := by simp [new]
theorem enc_len {r : Rc} (h : (rCheck r).2 = 0) (hl : ∀ m ∈ r.imgs, m.2.lsn ≤ 9223372036854775807) : 18 ≤ (rEnc r).1.length ∧ (rEnc r).1.length ≤ 65543 := by
  have h1 := (rCheck_ok h hl).2.2.2
  have h2 := body_ne r
  rw [rEnc_ok h hl]
  simp only [List.length_append, beN_len]
  omega
theorem room_le {L : Lg} (h : L.Wf) : L.room ≤ 3538836 := by
  have h1 := h.big; have h2 := h.st; have h3 := h.res
  unfold room; omega
theorem Wf.append {L : Lg} (h : L.Wf) (r : Rc) (hl : ∀ m ∈ r.imgs, m.2.lsn ≤ 9223372036854775807) : (L.append r).1.Wf := by
  unfold Lg.append
  cases hc : decide ((rCheck (atR r L.tail)).2 = 0) with
  | false => exact h
  | true =>
    rw [decide_eq_true_eq] at hc
    rw [cond_true]
    cases hr : decide (L.room < ((rEnc (atR r L.tail)).1.length : Int)) with
    | true => exact h
    | false =>
      rw [decide_eq_false_iff_not] at hr
      rw [cond_false]
      have hrl := room_le h
      have hel := enc_len hc (r := atR r L.tail) hl
      have hok := (rCheck_ok hc (r := atR r L.tail) hl)
      have hlsn : ((L.tail : Nat) : Int) ≤ 4611686018427387904 := by
        have := (hok.1.nums ((atR r L.tail).lsn) (by unfold rNums; simp)).2
        exact this
      have h1 := h.st; have h2 := h.bs; have h3 := h.n4; have h4 := h.big; have h5 := h.res
      have hbl := baseOf_le h1.1
      rw [← h2] at hbl
      unfold room at hr
      unfold tail at hr hlsn h1
      generalize hE : (rEnc (atR r L.tail)).1 = E at hr hel
      refine ⟨h.n4, h.big, h.bs, ⟨h1.1, h1.2.1, ?_⟩, ?_, ?_, fun _ => ?_, h.res, ?_⟩
      · show L.last ≤ L.base + (L.kept ++ E).length
        rw [List.length_append]; omega
      · show (L.kept ++ E).length ≤ _
        rw [List.length_append]; omega
      · show L.base + (L.kept ++ E).length ≤ _
        rw [List.length_append]; omega
      · show L.base + (L.kept ++ E).length ≤ _
        rw [List.length_append]; omega
      · intro p hp
        have hnd : ∀ q ∈ setD L.recs (L.tail : Int) (atR r L.tail), q ∈ L.recs ∨ q = ((L.tail : Int), atR r L.tail) := by
          intro q hq
          have hg : getD L.recs ((L.tail : Nat) : Int) = none := by
            rw [getD_none]
            intro hm
            obtain ⟨x, hx, hxe⟩ := List.mem_map.1 hm
            have := (h.ok x hx).2.2.2.2
            omega
          rw [setD_new _ _ _ hg] at hq
          simpa using hq
        show p.2.lsn = p.1 ∧ _ ∧ _ ∧ _ ∧ p.1 < ((L.base + (L.kept ++ E).length : Nat) : Int)
        rcases hnd p hp with hp | rfl
        · obtain ⟨q1, q2, q3, q4, q5⟩ := h.ok p hp
          unfold tail at q5
          refine ⟨q1, q2, q3, q4, ?_⟩
          rw [List.length_append]; omega
        · refine ⟨rfl, hc, hl, ?_, ?_⟩
          · show (L.start : Int) ≤ (L.tail : Int)
            unfold tail; omega
          · show (L.tail : Int) < _
            unfold tail; rw [List.length_append]; omega
theorem Wf.last {L : Lg} (h : L.Wf) : ({ L with last := L.tail } : Lg).Wf :=
  ⟨h.n4, h.big, h.bs, ⟨h.st.1, Nat.le_trans h.st.2.1 h.st.2.2, Nat.le_refl _⟩, h.small, h.low, fun e => absurd e (Nat.lt_irrefl _), h.res, h.ok⟩
/-! ### A sector -/
theorem blk_len (k : Nat) : (blkN k).length = 4 := beN_len _ _
theorem bytes_len (L : Lg) (k : Nat) : (L.bytes k).length ≤ 54 := by unfold bytes; rw [List.length_take]; omega
theorem zeros_len' (n : Nat) : (zeros n).length = n := by simp [zeros]
theorem seal_len {b : Bs} (h : b.length ≤ 54) (k : Nat) : (sealB k b).length = 64 := by
  unfold sealB
  simp only [List.length_append, blk_len, zeros_len', List.length_cons, List.length_nil]
  omega
/-! ### A disk that can not die -/
structure Calm (d : Dk) : Prop where
  wf : d.Wf
  ar : d.armed = 0
  on : d.gone = false
theorem Calm.tick {d : Dk} (h : Calm d) : d.tick = { d with done := IntKind.i64.wrap (d.done + 1) } := by unfold Dk.tick; rw [if_neg (by rw [h.ar]; omega)]
theorem Calm.wr {l : List Bs} (hl : ∀ x ∈ l, x.length = 64) : ∀ {d : Dk}, Calm d → ∀ i, (d.wr i l).2 = 0 ∧ Calm (d.wr i l).1 ∧ (d.wr i l).1.cur.length = d.cur.length := by
  induction l with
  | nil => intro d h i; exact ⟨rfl, h, rfl⟩
  | cons x l ih =>
    intro d h i
    have hp : Calm (d.put i x) := ⟨h.wf.put i (hl x (by simp)), h.ar, h.on⟩
    have ht := hp.tick
    have hc : Calm (d.put i x).tick := ⟨hp.wf.tick, by rw [ht]; exact hp.ar, by rw [ht]; exact hp.on⟩
    rw [Dk.wr]
    simp only [hc.on, cond_false]
    obtain ⟨h1, h2, h3⟩ := ih (fun y hy => hl y (by simp [hy])) hc (i + 1)
    refine ⟨h1, h2, ?_⟩
    rw [h3, (Dk.tick_cur _).1]; simp [Dk.put]
theorem Calm.write {d : Dk} (h : Calm d) {a : Nat} {s : Bs} (hs : s.length % 64 = 0) (ha : a + s.length / 64 ≤ d.cur.length) : (d.write (a : Int) s).2 = 0 ∧ Calm (d.write (a : Int) s).1 ∧ (d.write (a : Int) s).1.cur.length = d.cur.length := by
  have e : d.write (a : Int) s = d.wr a (Dk.chunks (s.length / 64) s) := by
    unfold Dk.write
    have h1 : d.has (a : Int) ((s.length / 64 : Nat) : Int) = true := by unfold Dk.has; rw [decide_eq_true_eq]; omega
    rw [h.on, h1]
    simp [hs]
  rw [e]
  exact Calm.wr (Dk.chunks_64 (by omega)) h a
theorem Calm.sync {d : Dk} (h : Calm d) : d.sync.2 = 0 ∧ Calm d.sync.1 ∧ d.sync.1.cur.length = d.cur.length := by
  obtain ⟨h1, h2, h3, h4, h5⟩ := Dk.sync_calm h.ar h.on
  exact ⟨h1, ⟨h.wf.sync, h5, h4⟩, by rw [h2]⟩
theorem Calm.flushGo {L : Lg} (hn : 0 < L.n) : ∀ (f k : Nat) {d : Dk}, Calm d → L.frm + L.n ≤ d.cur.length → (L.flushGo f k d).2 = 0 ∧ Calm (L.flushGo f k d).1 ∧ (L.flushGo f k d).1.cur.length = d.cur.length
  | 0, k, d, h, _ => ⟨rfl, h, rfl⟩
  | f + 1, k, d, h, hl => by
    rw [Lg.flushGo]
    cases decide (k * 54 + 1 < L.tail) with
    | false => exact ⟨rfl, h, rfl⟩
    | true =>
      have hm := Nat.mod_lt k hn
      obtain ⟨h1, h2, h3⟩ := h.write (a := L.frm + k % L.n) (s := sealB k (L.bytes k)) (by rw [seal_len (bytes_len L k)]) (by rw [seal_len (bytes_len L k)]; omega)
      have hput : L.put k d = d.write ((L.frm + k % L.n : Nat) : Int) (sealB k (L.bytes k)) := rfl
      simp only [hput, h1, decide_true, cond_true]
      obtain ⟨g1, g2, g3⟩ := Calm.flushGo hn f (k + 1) h2 (by rw [h3]; exact hl)
      exact ⟨g1, g2, by rw [g3, h3]⟩
end Lg
end Go.Proofs.YthbngnlmgplijaaGreatDoor

namespace Go.Proofs.YthbngnlmgplijaaGreatDoor
open Go.Al Go.Proofs
set_option linter.unusedVariables false
set_option linter.unusedSimpArgs false
set_option linter.unusedSectionVars false
set_option maxRecDepth 100000

def Held (w : World) (P : Nat → Prop) (cs : Array Value) (r : Rc) : Prop := ∀ w', Fm (fun y => ¬ P y) w w' → RcAs w' cs r
theorem Held.keep {S P : Nat → Prop} {w w1 : World} {cs : Array Value} {r : Rc} (h : Held w P cs r) (hf : Fm S w w1) (hs : ∀ y, P y → ¬ S y) : Held w1 P cs r := fun w' h' => h w' (hf.trans h' (fun x _ hx hp => hs x hp hx) (fun _ _ e => e))
theorem Held.mono {P Q : Nat → Prop} {w : World} {cs : Array Value} {r : Rc} (h : Held w P cs r) (hPQ : ∀ y, P y → Q y) : Held w Q cs r := fun w' h' => h w' (h'.mono (fun x _ hx hp => hx (hPQ x hp)))
theorem RdOk.held {w : World} {b : Nat} {cs : Array Value} {r : Rc} (h : RdOk w b cs (some r)) : Held w (fun y => b ≤ y ∧ y < w.heap.size) cs r := by
  obtain ⟨vs, vm, vi, vp, vt, rfl, h1, h2⟩ := h
  intro w' hf
  refine (h1.keep (S := fun y => y < w.heap.size ∧ y < b) ?_ (fun y e => e.2)).asR h2
  exact ⟨hf.os, hf.tape, hf.output, hf.size, fun y hy hn => hf.block y hy (fun e => e ⟨by omega, hy⟩)⟩
theorem RcAs.atR {w : World} {r : Rc} {vs vm vi vp vt : Value} (h : RcAs w (rcs r vs vm vi vp vt) r) {k : Nat} (hk : k ≤ 9223372036854775807) : RcAs w (rcs (atR r k) vs vm vi vp vt) (atR r k) := by
  obtain ⟨as_, am, ai, ap, at_, h1, h2, h3, h4, h5, h6, h7⟩ := h.ex
  have e : (rcs r vs vm vi vp vt).toList = (rcs r as_ am ai ap at_).toList := by rw [h1]
  simp only [rcs, List.cons.injEq, true_and, and_true] at e
  obtain ⟨rfl, rfl, rfl, rfl, rfl⟩ := e
  refine ⟨⟨_, _, _, _, _, rfl, h2, h3, h4, h5, h6, h7⟩, ?_, h.kin, h.data, h.bulk, h.lsns⟩
  intro n hn
  have hins := h.ins
  unfold rNums at hn hins
  simp only [List.mem_append, List.mem_cons] at hn hins
  have e1 : ((Go.Proofs.YthbngnlmgplijaaGreatDoor.atR r k).prev = r.prev) := rfl
  rcases hn with ((((((rfl | hn) | hn) | hn) | hn) | hn) | hn)
  · show In (k : Int)
    unfold In; omega
  · exact hins n (.inl (.inl (.inl (.inl (.inl (.inr hn))))))
  · exact hins n (.inl (.inl (.inl (.inl (.inr hn)))))
  · exact hins n (.inl (.inl (.inl (.inr hn))))
  · exact hins n (.inl (.inl (.inr hn)))
  · exact hins n (.inl (.inr hn))
  · exact hins n (.inr hn)

end Go.Proofs.YthbngnlmgplijaaGreatDoor

namespace Go.Proofs.YthbngnlmgplijaaGreatDoor
open Go.Al Go.Proofs
set_option linter.unusedVariables false
set_option linter.unusedSimpArgs false
set_option linter.unusedSectionVars false
set_option maxRecDepth 100000

theorem K130 : KeyT Tryz.prog 130 3 28 iv := keyT_int Tryz.underlying130 Tryz.underlying3
def lgc (db mb : Nat) (kv : Value) (L : Lg) : Array Value := #[pv db, iv (L.frm : Int), iv (L.n : Int), iv (L.base : Int), kv, iv (L.start : Int), iv (L.last : Int), iv L.res, .map (some mb)]
theorem Fm.step {X S : Nat → Prop} {w w1 w2 : World} (h : Fm X w w1) (k : Fm S w1 w2) (hs : ∀ y, S y → X y ∨ w.heap.size ≤ y) : Fm X w w2 :=
  h.trans k (fun _ _ e => e) (fun x hx e => by rcases hs x e with q | q; exact q; omega)

structure LIn (w : World) (X P : Nat → Prop) (lb db mb : Nat) (kv : Value) (M : List (Int × Array Value)) (L : Lg) : Prop where
  st : w.heap[lb]? = some (.cells (lgc db mb kv L) 132)
  kp : KpAt w 5 kv L.kept
  mp : MapAt w mb iv Value.agg M
  keys : M.map (·.1) = L.recs.map (·.1)
  rec_ : ∀ k cs, (k, cs) ∈ M → ∃ r, (k, r) ∈ L.recs ∧ Held w P cs r
  xs : X lb ∧ X mb ∧ (∀ y, kv.ownBlock = some y → X y) ∧ ∀ y, P y → X y
  ps : ¬ P lb ∧ ¬ P mb ∧ ∀ y, kv.ownBlock = some y → ¬ P y
  lt : ∀ y, X y → y < w.heap.size
section
variable {w w' : World} {X P S : Nat → Prop} {lb db mb : Nat} {kv : Value} {M : List (Int × Array Value)} {L L' : Lg}
theorem LIn.keep (h : LIn w X P lb db mb kv M L) (hf : Fm S w w') (hS : ∀ y, X y → ¬ S y) : LIn w' X P lb db mb kv M L :=
  ⟨hf.heap h.st (hS _ h.xs.1), h.kp.keep hf (fun y hy => hS y (h.xs.2.2.1 y hy)), h.mp.keep hf (hS _ h.xs.2.1), h.keys, fun k cs hm => by
    obtain ⟨r, h1, h2⟩ := h.rec_ k cs hm
    exact ⟨r, h1, h2.keep hf (fun y hy => hS y (h.xs.2.2.2 y hy))⟩, h.xs, h.ps, fun y hy => Nat.lt_of_lt_of_le (h.lt y hy) hf.size⟩
theorem LIn.keep0 (h : LIn w X P lb db mb kv M L) (hf : Fm (fun _ => False) w w') : LIn w' X P lb db mb kv M L := h.keep hf (fun _ _ e => e)
theorem LIn.nk (h : LIn w X P lb db mb kv M L) : kv.ownBlock ≠ some lb := h.kp.neT h.st (by decide)
theorem LIn.nm (h : LIn w X P lb db mb kv M L) : mb ≠ lb := by
  rintro rfl
  obtain ⟨es, c, hb, _⟩ := h.mp.ex
  rw [h.st] at hb; cases hb
theorem LIn.km (h : LIn w X P lb db mb kv M L) : kv.ownBlock ≠ some mb := by
  obtain ⟨es, c, hb, _⟩ := h.mp.ex
  exact h.kp.neM hb
theorem LIn.upd (h : LIn w X P lb db mb kv M L) (hst : w'.heap[lb]? = some (.cells (lgc db mb kv L') 132)) (hf : Fm (· = lb) w w') (e1 : L'.kept = L.kept) (e2 : L'.recs = L.recs) : LIn w' X P lb db mb kv M L' :=
  ⟨hst, by rw [e1]; exact h.kp.keep hf (fun y hy e => h.nk (by rw [hy, e])), h.mp.keep hf h.nm, by rw [e2]; exact h.keys, fun k cs hm => by
    obtain ⟨r, h1, h2⟩ := h.rec_ k cs hm
    exact ⟨r, by rw [e2]; exact h1, h2.keep hf (fun y hy e => h.ps.1 (by rw [← e]; exact hy))⟩, h.xs, h.ps, fun y hy => Nat.lt_of_lt_of_le (h.lt y hy) hf.size⟩
theorem LIn.c0 (h : LIn w X P lb db mb kv M L) : w.cell? ⟨lb, 0, none⟩ = some (pv db) := by rw [cell_at h.st]; rfl
theorem LIn.c1 (h : LIn w X P lb db mb kv M L) : w.cell? ⟨lb, 1, none⟩ = some (iv (L.frm : Int)) := by rw [cell_at h.st]; rfl
theorem LIn.c2 (h : LIn w X P lb db mb kv M L) : w.cell? ⟨lb, 2, none⟩ = some (iv (L.n : Int)) := by rw [cell_at h.st]; rfl
theorem LIn.c3 (h : LIn w X P lb db mb kv M L) : w.cell? ⟨lb, 3, none⟩ = some (iv (L.base : Int)) := by rw [cell_at h.st]; rfl
theorem LIn.c4 (h : LIn w X P lb db mb kv M L) : w.cell? ⟨lb, 4, none⟩ = some kv := by rw [cell_at h.st]; rfl
theorem LIn.c5 (h : LIn w X P lb db mb kv M L) : w.cell? ⟨lb, 5, none⟩ = some (iv (L.start : Int)) := by rw [cell_at h.st]; rfl
theorem LIn.c6 (h : LIn w X P lb db mb kv M L) : w.cell? ⟨lb, 6, none⟩ = some (iv (L.last : Int)) := by rw [cell_at h.st]; rfl
theorem LIn.c7 (h : LIn w X P lb db mb kv M L) : w.cell? ⟨lb, 7, none⟩ = some (iv L.res) := by rw [cell_at h.st]; rfl
end
structure LAt (w : World) (X : Nat → Prop) (lb db : Nat) (L : Lg) : Prop where
  wf : L.Wf
  ex : ∃ P mb kv M, LIn w X P lb db mb kv M L
theorem LAt.keep {w w' : World} {X S : Nat → Prop} {lb db : Nat} {L : Lg} (h : LAt w X lb db L) (hf : Fm S w w') (hS : ∀ y, X y → ¬ S y) : LAt w' X lb db L := by
  obtain ⟨P, mb, kv, M, hi⟩ := h.ex
  exact ⟨h.wf, P, mb, kv, M, hi.keep hf hS⟩
theorem LAt.keep0 {w w' : World} {X : Nat → Prop} {lb db : Nat} {L : Lg} (h : LAt w X lb db L) (hf : Fm (fun _ => False) w w') : LAt w' X lb db L := h.keep hf (fun _ _ e => e)
theorem LAt.lt {w : World} {X : Nat → Prop} {lb db : Nat} {L : Lg} (h : LAt w X lb db L) : ∀ y, X y → y < w.heap.size := by
  obtain ⟨P, mb, kv, M, hi⟩ := h.ex
  exact hi.lt
theorem LAt.lb {w : World} {X : Nat → Prop} {lb db : Nat} {L : Lg} (h : LAt w X lb db L) : X lb := by
  obtain ⟨P, mb, kv, M, hi⟩ := h.ex
  exact hi.xs.1

/-! ### Where things stand -/
section
variable {w : World} {X : Nat → Prop} {lb db : Nat} {L : Lg}
theorem wtail_spec (h : LAt w X lb db L) : Cl Tryz.prog 20 [pv lb] w fun v w' => v = iv (L.tail : Int) ∧ Fm (fun _ => False) w w' := by
  obtain ⟨P, mb, kv, M, hi⟩ := h.ex
  have hl := h.wf.low
  refine c20 ?_; unfold T20
  have e1 : IntKind.i64.wrap ((L.base : Int) + (L.kept.length : Int)) = (L.tail : Int) := by
    unfold Lg.tail at hl ⊢
    rw [wrap_id] <;> omega
  simp only [RS0, RS1, RS2, RS3, RS4, RS5, hi.c3, hi.c4, hi.kp.lenV, e1, true_and]
  exact Fm.drew _ _
theorem wflushed_spec (h : LAt w X lb db L) : Cl Tryz.prog 27 [pv lb] w fun v w' => v = iv (L.last : Int) ∧ Fm (fun _ => False) w w' := by
  obtain ⟨P, mb, kv, M, hi⟩ := h.ex
  refine c27 ?_; unfold T27
  simp only [RS0, RS1, RS2, RS3, RS4, RS5, hi.c6]
  exact ⟨(by trivial), Fm.refl _ _⟩
theorem wroom_spec (h : LAt w X lb db L) : Cl Tryz.prog 19 [pv lb] w fun v w' => v = iv L.room ∧ Fm (fun _ => False) w w' := by
  obtain ⟨P, mb, kv, M, hi⟩ := h.ex
  have h1 := h.wf.st; have h2 := h.wf.big; have h3 := h.wf.res; have h4 := h.wf.small; have h5 := h.wf.bs; have h6 := h.wf.n4
  have hb := Lg.baseOf_le h1.1
  rw [← h5] at hb
  have ht : L.tail = L.base + L.kept.length := rfl
  have e1 : IntKind.i64.wrap ((L.n : Int) - 2) = (L.n : Int) - 2 := by rw [wrap_id]; omega
  have e2 : IntKind.i64.wrap (54 * ((L.n : Int) - 2)) = 54 * ((L.n : Int) - 2) := by rw [wrap_id]; omega
  have e3 : IntKind.i64.wrap ((L.tail : Int) - (L.start : Int)) = (L.tail : Int) - (L.start : Int) := by rw [wrap_id]; omega
  have e4 : IntKind.i64.wrap (54 * ((L.n : Int) - 2) - ((L.tail : Int) - (L.start : Int))) = 54 * ((L.n : Int) - 2) - ((L.tail : Int) - (L.start : Int)) := by rw [wrap_id]; omega
  have e5 : IntKind.i64.wrap (54 * ((L.n : Int) - 2) - ((L.tail : Int) - (L.start : Int)) - L.res) = L.room := by unfold Lg.room; rw [wrap_id]; omega
  have hC : ∀ {w' : World}, Fm (fun _ => False) w w' → LIn w' X P lb db mb kv M L := fun hf => hi.keep0 hf
  have hfd := Fm.drew (fun _ => False) w
  refine c19 ?_; unfold T19
  simp only [RS0, RS1, RS2, RS3, RS4, RS5]
  refine ⟨fun w' => LIn w' X P lb db mb kv M L, hC hfd, ?_⟩
  refine ⟨iv (L.n : Int), fun w' h' => ?_, ?_⟩
  · simp only [RS0, RS1, RS2, RS3, RS4, RS5, h'.c2] <;> trivial
  simp only [RS0, RS1, RS2, RS3, RS4, RS5, e1, e2]
  refine ⟨iv (L.start : Int), fun w' h' => ?_, ?_⟩
  · simp only [RS0, RS1, RS2, RS3, RS4, RS5, h'.c5] <;> trivial
  refine ⟨iv L.res, fun w' h' => ?_, ?_⟩
  · simp only [RS0, RS1, RS2, RS3, RS4, RS5, h'.c7] <;> trivial
  refine (wtail_spec (h.keep0 hfd)).mono ?_
  rintro _ w2 ⟨rfl, hf2⟩
  refine ⟨hC (Fmf hfd hf2), ?_⟩
  simp only [RS0, RS1, RS2, RS3, RS4, RS5, e3, e4, e5]
  exact ⟨(by trivial), Fmf hfd hf2⟩
end
end Go.Proofs.YthbngnlmgplijaaGreatDoor

namespace Go.Proofs.YthbngnlmgplijaaGreatDoor
open Go.Al Go.Proofs
set_option linter.unusedVariables false
set_option linter.unusedSimpArgs false
set_option linter.unusedSectionVars false
set_option maxRecDepth 100000

theorem retR {w : World} {g c : Nat} {cs : Array Value} {t : Value} (h : w.heap[g]? = some (.cells cs 28)) (hn : cs.size = 16) {k : KV} (hk : k (.agg cs) w) :
    RetO (resL Tryz.prog (fun j => bif Nat.beq j 2 then pv g else undef) w [(ResultVar.cell 2 28)]) w k := by
  simp only [resL, resV_blk (f := fun j => bif Nat.beq j 2 then pv g else undef) (a := 2) rfl agg52 size52 h hn, RetO, RetV]
  exact hk
set_option maxHeartbeats 1000000 in
theorem own_spec {w : World} {cs : Array Value} {r : Rc} (h : RcAs w cs r) (hc : (rCheck r).2 = 0) : Cl Tryz.prog 96 [.agg cs] w fun v w' => ∃ cs', v = .agg cs' ∧ Held w' (fun y => w.heap.size ≤ y ∧ y < w'.heap.size) cs' r ∧ Fm (fun _ => False) w w' := by
  refine c96 ?_; unfold T96
  refine New_any ?_
  intro x1 w1 hx1 hs1 hw1 hf1
  refine New_any ?_
  intro x2 w2 hx2 hs2 hw2 hf2
  have hF2 := Fmf hf1 hf2
  have hw1' := hf2.heap hw1 (fun e => e)
  simp only [RS0, RS1, RS2, RS3, RS4, RS5, cellsV_blk hw1' h.size]
  refine (renc_spec (h.keep hF2)).mono ?_
  rintro _ w3 ⟨rfl, hf3⟩
  have hF3 := Fmf hF2 hf3
  have hel := Lg.enc_len hc h.lsns
  have hdb := dec_back hc h.lsns []
  rw [List.append_nil] at hdb
  simp only [RS0, RS1, RS2, RS3, RS4, RS5]
  refine (rdec_spec w3 (rEnc r).1 (by omega)).mono ?_
  rintro _ w4 ⟨cs', rfl, hok, hf4⟩
  rw [hdb] at hok ⊢
  have hF4 := Fmf hF3 hf4
  have hheld := hok.held
  have hsz := hok.as.size
  have hone := hok.as.one
  simp only [RS0, RS1, RS2, RS3, RS4, RS5]
  refine New_any ?_
  intro x5 w5 hx5 hs5 hw5 hf5
  have z1 := hF2.size; have z3 := hf3.size; have z4 := hf4.size
  refine St_all hw5 rfl hsz hone ?_
  intro w6 hw6 hs6 hf6
  simp only [RS0, RS1, RS2, RS3, RS4, RS5, cellsV_blk hw6 hsz]
  have hw2' := hf6.heap (hf5.heap (hf4.heap (hf3.heap hw2 (fun e => e)) (fun e => e)) (fun e => e)) (show ¬ x2 = x5 by omega)
  refine St_all hw2' rfl hsz hone ?_
  intro w7 hw7 hs7 hf7
  refine retR (t := undef) (c := 0) hw7 hsz ?_
  have hF7 : Fm (fun _ => False) w w7 := Fm.own (Fm.own (Fmf hF4 hf5) hf6 (by rintro y rfl; omega)) hf7 (by rintro y rfl; omega)
  refine ⟨cs', rfl, ?_, hF7⟩
  have k5 := hheld.keep hf5 (fun _ _ e => e)
  have k6 := k5.keep hf6 (by rintro y hy rfl; omega)
  have k7 := k6.keep hf7 (by rintro y hy rfl; omega)
  refine k7.mono ?_
  rintro y ⟨q1, q2⟩
  omega

set_option maxHeartbeats 4000000 in
theorem wappend_spec {w : World} {X : Nat → Prop} {lb db : Nat} {L : Lg} (h : LAt w X lb db L) {cs : Array Value} {r : Rc} (hr' : ∀ w', Fm X w w' → RcAs w' cs r) :
    Cl Tryz.prog 21 [pv lb, .agg cs] w fun v w' => v = .tuple #[iv (L.append r).2.1, iv (L.append r).2.2] ∧ ∃ X', LAt w' X' lb db (L.append r).1 ∧ (∀ y, X' y → X y ∨ w.heap.size ≤ y) ∧ Fm X w w' := by
  have hr := hr' w (Fm.refl _ _)
  have hwf := h.wf.append r hr.lsns
  have hlow := h.wf.low
  obtain ⟨vs, vm, vi, vp, vt, rfl, _⟩ := hr.ex
  have same : ∀ {w' : World}, Fm (fun _ => False) w w' → ∃ X', LAt w' X' lb db L ∧ (∀ y, X' y → X y ∨ w.heap.size ≤ y) ∧ Fm X w w' := fun hf => ⟨X, h.keep0 hf, fun y hy => .inl hy, hf.mono (fun _ _ e => e.elim)⟩
  unfold Lg.append at hwf ⊢
  refine c21 ?_; unfold T21
  refine New_any ?_
  intro x1 w1 hx1 hs1 hw1 hf1
  simp only [RS0, RS1, RS2, RS3, RS4, RS5]
  refine (wtail_spec (h.keep0 hf1)).mono ?_
  rintro _ w2 ⟨rfl, hf2⟩
  have hF2 := Fmf hf1 hf2
  have hw2 := hf2.heap hw1 (fun e => e)
  try simp only [RS0, RS1, RS2, RS3, RS4, RS5]
  refine St_blk hw2 (by show 0 < 16; decide) rfl ?_
  intro w3 hw3 hs3 hf3
  have hF3 : Fm (fun _ => False) w w3 := Fm.own hF2 hf3 (by rintro y rfl; omega)
  replace hw3 : w3.heap[x1]? = some (.cells (rcs (atR r L.tail) vs vm vi vp vt) 28) := hw3
  have hra := (hr.keep hF3).atR hlow
  simp only [RS0, RS1, RS2, RS3, RS4, RS5, cellsV_blk hw3 (n := 16) rfl]
  refine (renc_spec hra).mono ?_
  rintro _ w4 ⟨rfl, hf4⟩
  have hF4 := Fmf hF3 hf4
  rw [rEnc_err]
  simp only [RS0, RS1, RS2, RS3, RS4, RS5, bne_dec]
  cases hc : decide ((rCheck (atR r L.tail)).2 = 0) with
  | false =>
    simp only [RS0, RS1, RS2, RS3, RS4, RS5, Bool.not_false, cond_false]
    exact ⟨(by trivial), same hF4⟩
  | true =>
  rw [hc] at hwf
  rw [decide_eq_true_eq] at hc
  have hel := Lg.enc_len hc hra.lsns
  simp only [RS0, RS1, RS2, RS3, RS4, RS5, Bool.not_true, cond_true, str_size]
  refine (wroom_spec (h.keep0 hF4)).mono ?_
  rintro _ w5 ⟨rfl, hf5⟩
  have hF5 := Fmf hF4 hf5
  cases hrm : decide (L.room < ((rEnc (atR r L.tail)).1.length : Int)) with
  | true =>
    simp only [RS0, RS1, RS2, RS3, RS4, RS5, hrm, cond_true]
    exact ⟨(by trivial), same hF5⟩
  | false =>
  rw [hrm] at hwf
  simp only [RS0, RS1, RS2, RS3, RS4, RS5, hrm, cond_false]
  obtain ⟨P, mb, kv, M, hi0⟩ := h.ex
  have hi := hi0.keep0 hF5
  have hsm := h.wf.small
  have hw5 := hf5.heap (hf4.heap hw3 (fun e => e)) (fun e => e)
  have hra5 := (hra.keep hf4).keep hf5
  generalize hE : (rEnc (atR r L.tail)).1 = E at hel hwf
  simp only [cond_true, cond_false] at hwf
  have z5 := hF5.size
  simp only [RS0, RS1, RS2, RS3, RS4, RS5, hi.c4]
  obtain ⟨kv', w6, hr6, hk6, hf6, hb6⟩ := hi.kp.app B44 E 123 (by omega)
  refine RunS_ok hr6 ?_
  have hst6 := hf6.heap hi.st hi.nk
  try simp only [RS0, RS1, RS2, RS3, RS4, RS5]
  refine St_blk hst6 (by show 4 < 9; decide) hk6.one ?_
  intro w7 hw7 hs7 hf7
  replace hw7 : w7.heap[lb]? = some (.cells #[pv db, iv (L.frm : Int), iv (L.n : Int), iv (L.base : Int), kv', iv (L.start : Int), iv (L.last : Int), iv L.res, .map (some mb)] 132) := hw7
  have hx1 : x1 ≠ lb := by have := hi0.lt lb hi0.xs.1; omega
  have hkx : kv.ownBlock ≠ some x1 := fun e => by have := hi0.lt x1 (hi0.xs.2.2.1 x1 e); omega
  have hw7x := hf7.heap (hf6.heap hw5 hkx) hx1
  have hfd := Fm.drew (fun _ => False) w7
  have hK7 : KpAt w7 5 kv' (L.kept ++ E) := hk6.keep hf7 (fun y hy e => hk6.neT hst6 (by decide) (by rw [hy, e]))
  have hM7 : MapAt w7 mb iv Value.agg M := (hi.mp.keep hf6 (fun e => hi.km e)).keep hf7 hi.nm
  have hR7 : ∀ {w'}, Fm (fun _ => False) w7 w' → ∀ k cs, (k, cs) ∈ M → ∃ r, (k, r) ∈ L.recs ∧ Held w' P cs r := fun hf k cs hm => by
    obtain ⟨r', q1, q2⟩ := hi.rec_ k cs hm
    exact ⟨r', q1, ((q2.keep hf6 (fun y hy e => hi.ps.2.2 y e hy)).keep hf7 (fun y hy e => hi.ps.1 (e ▸ hy))).keep hf (fun _ _ e => e)⟩
  have hX7 : Fm X w w7 := Fm.step (Fm.step (hF5.mono (fun _ _ e => e.elim)) hf6 (fun y hy => .inl (hi0.xs.2.2.1 y hy))) hf7 (fun y hy => .inl (hy ▸ hi0.xs.1))
  have hra7 := (hr' w7.drew (Fm.step hX7 hfd (fun _ e => e.elim))).atR hlow
  have z7 := hX7.size
  try simp only [RS0, RS1, RS2, RS3, RS4, RS5]
  refine ⟨fun w' => Fm (fun _ => False) w7 w', hfd, ?_⟩
  refine ⟨.map (some mb), fun w' h' => ?_, ?_⟩
  · have : w'.cell? ⟨lb, 8, none⟩ = some (.map (some mb)) := by rw [cell_at (h'.heap hw7 (fun e => e))]; rfl
    simp only [RS0, RS1, RS2, RS3, RS4, RS5, this] <;> trivial
  refine ⟨iv (L.tail : Int), fun w' h' => ?_, ?_⟩
  · have : w'.cell? ⟨x1, 0, none⟩ = some (iv (L.tail : Int)) := by rw [cell_at (h'.heap hw7x (fun e => e))]; rfl
    simp only [RS0, RS1, RS2, RS3, RS4, RS5, this] <;> trivial
  simp only [RS0, RS1, RS2, RS3, RS4, RS5, cellsV_blk (hfd.heap hw7x (fun e => e)) (n := 16) rfl, true_and]
  refine (own_spec hra7 hc).mono ?_
  rintro _ w8 ⟨cs', rfl, hheld, hf8⟩
  have hF8 := Fmf hfd hf8
  refine ⟨hF8, ?_⟩
  have z8 := hf8.size
  have zd : w7.drew.heap.size = w7.heap.size := rfl
  obtain ⟨w9, hr9, hM9, hf9, hz9⟩ := update_run K130 (hM7.keep hF8 (fun e => e)) (L.tail : Int) cs'
  refine RunU_ok hr9 ?_
  have hxm : x1 ≠ mb := by have := hi0.lt mb hi0.xs.2.1; omega
  have hw9x := hf9.heap (hF8.heap hw7x (fun e => e)) hxm
  have hw9 := hf9.heap (hF8.heap hw7 (fun e => e)) hi.nm.symm
  have c9 : w9.cell? ⟨x1, 0, none⟩ = some (iv (L.tail : Int)) := by rw [cell_at hw9x]; rfl
  simp only [RS0, RS1, RS2, RS3, RS4, RS5, c9]
  have hX9 : Fm X w w9 := Fm.step (Fm.step hX7 hF8 (fun _ e => e.elim)) hf9 (fun y hy => .inl (hy ▸ hi0.xs.2.1))
  have z9 := hX9.size
  refine ⟨(by trivial), fun y => X y ∨ (w.heap.size ≤ y ∧ y < w9.heap.size), ⟨hwf, fun y => P y ∨ (w7.heap.size ≤ y ∧ y < w8.heap.size), mb, kv', setD M (L.tail : Int) cs', ?_⟩, fun y hy => hy.imp id (fun e => e.1), hX9⟩
  have hlb := hi0.lt lb hi0.xs.1
  have hmb := hi0.lt mb hi0.xs.2.1
  have hkv : ∀ y, kv'.ownBlock = some y → (kv.ownBlock = some y ∨ (w.heap.size ≤ y ∧ y < w7.heap.size)) := fun y hy => by
    rcases hb6 y hy with e | e
    · exact .inl e
    · have := hK7.lt y hy
      exact .inr ⟨by omega, this⟩
  refine ⟨hw9, (hK7.keep hF8 (fun _ _ e => e)).keep hf9 (fun y hy e => ?_), hM9, ?_, ?_, ⟨.inl hi0.xs.1, .inl hi0.xs.2.1, fun y hy => ?_, fun y hy => ?_⟩, ⟨?_, ?_, ?_⟩, fun y hy => ?_⟩
  · rcases hkv y hy with q | q
    · exact hi.km (by rw [q, e])
    · omega
  · rw [keys_setD, keys_setD, hi.keys]
  · intro k cs hm
    have hnd : getD M (L.tail : Int) = none := by
      rw [getD_none, hi.keys]
      intro hm
      obtain ⟨x, hx, hxe⟩ := List.mem_map.1 hm
      have := (h.wf.ok x hx).2.2.2.2
      omega
    have hnd2 : getD L.recs (L.tail : Int) = none := by
      rw [getD_none, ← hi.keys, ← getD_none]; exact hnd
    rw [setD_new _ _ _ hnd] at hm
    show ∃ r', (k, r') ∈ setD L.recs (L.tail : Int) (atR r L.tail) ∧ _
    rw [setD_new _ _ _ hnd2]
    rcases List.mem_append.1 hm with hm | hm
    · obtain ⟨r', q1, q2⟩ := hR7 hF8 k cs hm
      exact ⟨r', List.mem_append_left _ q1, (q2.mono (fun y hy => .inl hy)).keep hf9 (by
        rintro y (hy | hy) rfl
        · exact hi.ps.2.1 hy
        · omega)⟩
    · simp only [List.mem_singleton, Prod.mk.injEq] at hm
      obtain ⟨rfl, rfl⟩ := hm
      exact ⟨_, List.mem_append_right _ (by simp), (hheld.mono (fun y hy => .inr hy)).keep hf9 (by
        rintro y (hy | hy) rfl
        · exact hi.ps.2.1 hy
        · omega)⟩
  · rcases hkv y hy with q | q
    · exact .inl (hi0.xs.2.2.1 y q)
    · exact .inr ⟨q.1, by omega⟩
  · rcases hy with q | q
    · exact .inl (hi0.xs.2.2.2 y q)
    · exact .inr ⟨by omega, by omega⟩
  · rintro (q | q)
    · exact hi.ps.1 q
    · omega
  · rintro (q | q)
    · exact hi.ps.2.1 q
    · omega
  · rintro y hy (q | q)
    · rcases hkv y hy with e | e
      · exact hi.ps.2.2 y e q
      · have := hi0.lt y (hi0.xs.2.2.2 y q); omega
    · have := hK7.lt y hy
      omega
  · rcases hy with q | q
    · have := hi0.lt y q; omega
    · exact q.2
end Go.Proofs.YthbngnlmgplijaaGreatDoor

namespace Go.Proofs.YthbngnlmgplijaaGreatDoor
open Go.Al Go.Proofs
set_option linter.unusedVariables false
set_option linter.unusedSimpArgs false
set_option linter.unusedSectionVars false
set_option maxRecDepth 100000

theorem fold_min2 (a b : Int) : foldV0 min2V [iv a, iv b] = some (iv (min a b)) := by
  have : min2V (iv a) (iv b) = some (iv (min a b)) := by
    show some (iv (if b < a then b else a)) = _
    congr 2
    split <;> omega
  simp only [foldV0, foldV, this, Option.bind_some]
theorem wname_spec (w : World) {k : Nat} (hk : k + 1 ≤ 9223372036854775807) : Cl Tryz.prog 179 [iv (k : Int)] w fun v w' => v = stv (blkN k) ∧ Fm (fun _ => False) w w' := by
  refine c179 ?_; unfold T179
  have e1 : IntKind.i64.wrap ((k : Int) + 1) = ((k + 1 : Nat) : Int) := by rw [wrap_id] <;> omega
  have e2 := rem_nat (TypeDesc.int IntKind.i64) (n := k + 1) (m := 4294967296) (by decide) hk (b := 4294967296) rfl
  simp only [RS0, RS1, RS2, RS3, RS4, RS5, e1, e2]
  refine (big_spec w (n := (((k + 1) % 4294967296 : Nat) : Int)) (by unfold In; omega) 4).mono ?_
  rintro _ w1 ⟨rfl, hf⟩
  refine ⟨?_, hf⟩
  unfold blkN
  rw [show (4 : Int) = ((4 : Nat) : Int) from rfl, bigB_of (by omega) (by omega)]
theorem wof_spec (w : World) {n : Nat} (h : 1 ≤ n) (hn : n ≤ 9223372036854775807) : Cl Tryz.prog 97 [iv (n : Int)] w fun v w' => v = iv (((n - 1) / 54 : Nat) : Int) ∧ w' = w := by
  refine c97 ?_; unfold T97
  have e1 : IntKind.i64.wrap ((n : Int) - 1) = ((n - 1 : Nat) : Int) := by rw [wrap_id] <;> omega
  have e2 := quo_nat (TypeDesc.int IntKind.i64) (n := n - 1) (m := 54) (by decide) (by omega) (b := 54) rfl
  simp only [RS0, RS1, RS2, RS3, RS4, RS5, e1, e2]
  exact ⟨(by trivial), (by trivial)⟩
theorem wfirst_spec (w : World) {k : Nat} (hk : k * 54 + 1 ≤ 9223372036854775807) : Cl Tryz.prog 98 [iv (k : Int)] w fun v w' => v = iv ((k * 54 + 1 : Nat) : Int) ∧ w' = w := by
  refine c98 ?_; unfold T98
  have e1 : IntKind.i64.wrap ((k : Int) * 54) = ((k * 54 : Nat) : Int) := by rw [wrap_id] <;> omega
  have e2 : IntKind.i64.wrap (((k * 54 : Nat) : Int) + 1) = ((k * 54 + 1 : Nat) : Int) := by rw [wrap_id] <;> omega
  simp only [RS0, RS1, RS2, RS3, RS4, RS5, e1, e2]
  exact ⟨(by trivial), (by trivial)⟩
theorem wseal_spec (w : World) {k : Nat} (hk : k + 1 ≤ 9223372036854775807) {b : Bs} (hb : b.length ≤ 54) : Cl Tryz.prog 100 [iv (k : Int), stv b] w fun v w' => v = stv (sealB k b) ∧ Fm (fun _ => False) w w' := by
  refine c100 ?_; unfold T100
  have e1 : cvI .u8 (iv (b.length : Int)) = some (.int .u8 (((UInt8.ofNat b.length).toNat : Nat) : Int)) := by
    show some (Value.int .u8 (IntKind.u8.wrap (b.length : Int))) = _
    rw [u8_wrap_nat, Nat.mod_eq_of_lt (by omega), u8_ofNat (by omega)]
  have e2 : IntKind.i64.wrap (54 - (b.length : Int)) = ((54 - b.length : Nat) : Int) := by rw [wrap_id] <;> omega
  have h4 := Lg.blk_len k
  have hz := Lg.zeros_len' (54 - b.length)
  simp only [RS0, RS1, RS2, RS3, RS4, RS5, str_size, e1]
  refine RunS_ok (bs38w _ _) ?_
  have hfa := Fm.alloc (fun _ => False) w (.cells #[.int .u8 (((UInt8.ofNat b.length).toNat : Nat) : Int)] 5)
  have hrow : BRow (w.alloc (.cells #[.int .u8 (((UInt8.ofNat b.length).toNat : Nat) : Int)] 5)) w.heap.size 5 [UInt8.ofNat b.length] := alloc_new _ _
  generalize w.alloc (.cells #[.int .u8 (((UInt8.ofNat b.length).toNat : Nat) : Int)] 5) = w1 at hfa hrow
  have hcv := hrow.conv (P := Tryz.prog) B38 (o := 0) (n := 1) (by simp) 1
  refine RunS_ok hcv ?_
  rw [show (([UInt8.ofNat b.length] : Bs).drop 0).take 1 = [UInt8.ofNat b.length] from rfl]
  refine (wname_spec w1 hk).mono ?_
  rintro _ w2 ⟨rfl, hf2⟩
  rw [sadd (by simp; omega)]
  simp only [RS0, RS1, RS2, RS3, RS4, RS5]
  rw [sadd (by simp; omega)]
  simp only [RS0, RS1, RS2, RS3, RS4, RS5, str_size, e2]
  refine (repeat_spec w2 (54 - b.length) (by omega)).mono ?_
  rintro _ w3 ⟨rfl, hf3⟩
  rw [sadd (by simp; omega)]
  simp only [RS0, RS1, RS2, RS3, RS4, RS5]
  rw [sadd (by simp; omega)]
  simp only [RS0, RS1, RS2, RS3, RS4, RS5]
  refine (wname_spec w3 hk).mono ?_
  rintro _ w4 ⟨rfl, hf4⟩
  rw [sadd (by simp; omega)]
  simp only [RS0, RS1, RS2, RS3, RS4, RS5]
  refine ⟨?_, Fmf hfa (Fmf hf2 (Fmf hf3 hf4))⟩
  unfold sealB
  simp only [List.append_assoc]
section
variable {w : World} {X : Nat → Prop} {lb db : Nat} {L : Lg}
theorem wsector_spec (h : LAt w X lb db L) {k : Nat} (hk : k ≤ 9223372036854775807) : Cl Tryz.prog 99 [pv lb, iv (k : Int)] w fun v w' => v = iv ((L.frm + k % L.n : Nat) : Int) ∧ Fm (fun _ => False) w w' := by
  obtain ⟨P, mb, kv, M, hi⟩ := h.ex
  have h1 := h.wf.big; have h2 := h.wf.n4
  have e1 := rem_nat (TypeDesc.int IntKind.i64) (n := k) (m := L.n) (by omega) hk (b := (L.n : Int)) rfl
  have hm := Nat.mod_lt k (show 0 < L.n by omega)
  have e2 : IntKind.i64.wrap ((L.frm : Int) + ((k % L.n : Nat) : Int)) = ((L.frm + k % L.n : Nat) : Int) := by rw [wrap_id] <;> omega
  refine c99 ?_; unfold T99
  simp only [RS0, RS1, RS2, RS3, RS4, RS5, hi.c1, hi.c2, e1, e2, true_and]
  exact Fm.drew _ _
theorem wbytes_spec (h : LAt w X lb db L) {k : Nat} (hk : L.base ≤ k * 54 + 1) (hk2 : k * 54 + 1 ≤ L.tail) : Cl Tryz.prog 101 [pv lb, iv (k : Int)] w fun v w' => v = stv (L.bytes k) ∧ Fm (fun _ => False) w w' := by
  obtain ⟨P, mb, kv, M, hi⟩ := h.ex
  have h1 := h.wf.low; have h2 := h.wf.small
  have ht : L.tail = L.base + L.kept.length := rfl
  have hfd := Fm.drew (fun _ => False) w
  have e1 : IntKind.i64.wrap (((k * 54 + 1 : Nat) : Int) - (L.base : Int)) = ((k * 54 + 1 - L.base : Nat) : Int) := by rw [wrap_id] <;> omega
  have e2 : IntKind.i64.wrap (((k * 54 + 1 - L.base : Nat) : Int) + 54) = ((k * 54 + 1 - L.base + 54 : Nat) : Int) := by rw [wrap_id] <;> omega
  have e3 : min ((k * 54 + 1 - L.base + 54 : Nat) : Int) ((L.kept.length : Nat) : Int) = ((min (k * 54 + 1 - L.base + 54) L.kept.length : Nat) : Int) := by omega
  refine c101 ?_; unfold T101
  refine ⟨fun w' => LIn w' X P lb db mb kv M L, hi.keep0 hfd, ?_⟩
  simp only [RS0, RS1, RS2, RS3, RS4, RS5]
  refine ⟨iv (L.base : Int), fun w' h' => ?_, ?_⟩
  · simp only [RS0, RS1, RS2, RS3, RS4, RS5, h'.c3] <;> trivial
  refine (wfirst_spec w.drew (by omega)).mono ?_
  rintro _ _ ⟨rfl, rfl⟩
  refine ⟨hi.keep0 hfd, ?_⟩
  have hfd2 := Fmf hfd (Fm.drew (fun _ => False) w.drew)
  have hi2 := hi.keep0 hfd2
  obtain ⟨u, q1, q2⟩ := hi2.kp.cut (P := Tryz.prog) B38 (i := k * 54 + 1 - L.base) (j := min (k * 54 + 1 - L.base + 54) L.kept.length) (by omega) (by omega)
  simp only [RS0, RS1, RS2, RS3, RS4, RS5, e1, hi.c4, e2, hi.kp.lenV, fold_min2, e3, q1, true_and]
  have e4 : (L.kept.drop (k * 54 + 1 - L.base)).take (min (k * 54 + 1 - L.base + 54) L.kept.length - (k * 54 + 1 - L.base)) = L.bytes k := by
    unfold Lg.bytes
    rw [List.take_eq_take_iff, List.length_drop]
    omega
  rw [e4] at q2
  exact RunS_ok q2 ⟨rfl, rfl, hfd2⟩
end
end Go.Proofs.YthbngnlmgplijaaGreatDoor

namespace Go.Proofs.YthbngnlmgplijaaGreatDoor
open Go.Al Go.Proofs
set_option linter.unusedVariables false
set_option linter.unusedSimpArgs false
set_option linter.unusedSectionVars false
set_option maxRecDepth 100000

theorem flushGo_end (L : Lg) (f k : Nat) (d : Dk) (h : L.tail ≤ k * 54 + 1) : L.flushGo f k d = (d, 0) := by
  cases f with
  | zero => rfl
  | succ f =>
    rw [Lg.flushGo]
    have : decide (k * 54 + 1 < L.tail) = false := by rw [decide_eq_false_iff_not]; omega
    rw [this]; rfl
def FD (lb db g m : Nat) (y : Nat) : Prop := y = lb ∨ y = db ∨ y = g ∨ y = m
set_option maxHeartbeats 4000000 in
theorem wflush_spec {w : World} {X : Nat → Prop} {lb db g m : Nat} {L : Lg} {d : Dk} (h : LAt w X lb db L) (hd : DAt w db g m d) (hX : ¬ X db ∧ ¬ X g ∧ ¬ X m) (upto : Int) :
    Cl Tryz.prog 26 [pv lb, iv upto] w fun v w' => v = iv (L.flush upto d).2.2 ∧ LAt w' X lb db (L.flush upto d).1 ∧ DAt w' db g m (L.flush upto d).2.1 ∧ Fm (FD lb db g m) w w' := by
  have h1 := h.wf.st; have h2 := h.wf.low; have h3 := h.wf.hi; have h4 := h.wf.bs
  have hb := Lg.baseOf_le h1.1
  rw [← h4] at hb
  have ht : L.tail = L.base + L.kept.length := rfl
  have up0 : ∀ {a b : World}, Fm (fun _ => False) a b → Fm (FD lb db g m) a b := fun hf => hf.mono (fun _ _ e => e.elim)
  have hXD : ∀ y, X y → ¬ (y = db ∨ y = g ∨ y = m) := by
    rintro y hy (rfl | rfl | rfl)
    · exact hX.1 hy
    · exact hX.2.1 hy
    · exact hX.2.2 hy
  have hfl : L.flush upto d = bif decide (upto < (L.last : Int)) || decide (L.last = L.tail) then (L, d, 0) else
      bif decide ((L.flushE d).2 = 0) then (bif decide ((L.flushE d).1.sync.2 = 0) then ({ L with last := L.tail }, (L.flushE d).1.sync.1, 0) else (L, (L.flushE d).1.sync.1, (L.flushE d).1.sync.2))
      else (L, (L.flushE d).1, (L.flushE d).2) := rfl
  refine c26 ?_; unfold T26
  simp only [RS0, RS1, RS2, RS3, RS4, RS5]
  refine (wtail_spec h).mono ?_
  rintro _ w2 ⟨rfl, hf2⟩
  have hL2 := h.keep0 hf2
  have hd2 := hd.keep0 hf2
  obtain ⟨P, mb, kv, M, hi2⟩ := hL2.ex
  cases e1 : decide (upto < (L.last : Int)) with
  | true =>
    rw [e1, Bool.true_or, cond_true] at hfl
    rw [hfl]
    simp only [RS0, RS1, RS2, RS3, RS4, RS5, hi2.c6, e1]
    exact ⟨(by trivial), hL2, hd2, up0 hf2⟩
  | false =>
  have e2 : ((L.last : Int) == (L.tail : Int)) = decide (L.last = L.tail) := by
    rw [beq_dec, decide_eq_decide]; omega
  cases e3 : decide (L.last = L.tail) with
  | true =>
    rw [e1, e3, Bool.false_or, cond_true] at hfl
    rw [hfl]
    simp only [RS0, RS1, RS2, RS3, RS4, RS5, hi2.c6, e1, e2, e3]
    exact ⟨(by trivial), hL2, hd2, up0 hf2⟩
  | false =>
  rw [e1, e3, Bool.false_or, cond_false] at hfl
  rw [decide_eq_false_iff_not] at e3
  have h3' := h3 (by omega)
  have e3' : decide (L.last = L.tail) = false := by simpa using e3
  have hbl : L.base ≤ (L.last - 1) / 54 * 54 + 1 := by rw [h4]; unfold Lg.baseOf; omega
  simp only [RS0, RS1, RS2, RS3, RS4, RS5, hi2.c6, e1, e2, e3']
  refine (wof_spec w2 (n := L.last) (by omega) (by omega)).mono ?_
  rintro _ w2 ⟨rfl, rfl⟩
  refine ⟨fun vs w' => ∃ (k f : Nat) (e : Dk), vs = [iv (k : Int)] ∧ L.base ≤ k * 54 + 1 ∧ L.tail ≤ k * 54 + 1 + f ∧ k * 54 ≤ 4611686018427600000 ∧ LAt w' X lb db L ∧ DAt w' db g m e ∧ Fm (fun y => y = db ∨ y = g ∨ y = m) w w' ∧ L.flushGo f k e = L.flushE d,
    fun vs _ => ((L.tail : Int) - 54 * nth vs 0).toNat, ⟨(L.last - 1) / 54, L.kept.length + 1, d, rfl, ?_, ?_, ?_, hL2, hd2, hf2.mono (fun _ _ e => e.elim), rfl⟩, ?_⟩
  · exact hbl
  · omega
  · omega
  rintro _ w3 kval ⟨k, f, e, hvs, k1, k2, k3, hL3, hd3, hF3, hgo⟩
  cases hvs
  refine (wfirst_spec w3 (k := k) (by omega)).mono ?_
  rintro _ w3 ⟨rfl, rfl⟩
  by_cases hlt : k * 54 + 1 < L.tail
  · have d1 : decide (((k * 54 + 1 : Nat) : Int) < (L.tail : Int)) = true := by rw [decide_eq_true_eq]; omega
    have d2 : decide (k * 54 + 1 < L.tail) = true := by rw [decide_eq_true_eq]; exact hlt
    obtain ⟨f', rfl⟩ : ∃ f', f = f' + 1 := ⟨f - 1, by omega⟩
    rw [Lg.flushGo, d2, cond_true] at hgo
    simp only [RS0, RS1, RS2, RS3, RS4, RS5, d1]
    have hfd := Fm.drew (fun _ => False) w3
    refine ⟨fun w' => Fm (fun _ => False) w3 w', hfd, ?_⟩
    refine ⟨pv db, fun w' h' => ?_, ?_⟩
    · obtain ⟨P', mb', kv', M', hi'⟩ := (hL3.keep0 h').ex
      simp only [RS0, RS1, RS2, RS3, RS4, RS5, hi'.c0] <;> trivial
    refine (wsector_spec (hL3.keep0 hfd) (k := k) (by omega)).mono ?_
    rintro _ w4 ⟨rfl, hf4⟩
    have hF4 := Fmf hfd hf4
    refine ⟨hF4, ?_⟩
    refine (wbytes_spec (hL3.keep0 hF4) k1 (by omega)).mono ?_
    rintro _ w5 ⟨rfl, hf5⟩
    have hF5 := Fmf hF4 hf5
    refine ⟨hF5, ?_⟩
    refine (wseal_spec w5 (k := k) (by omega) (Lg.bytes_len L k)).mono ?_
    rintro _ w6 ⟨rfl, hf6⟩
    have hF6 := Fmf hF5 hf6
    refine ⟨hF6, ?_⟩
    refine (dwrite_spec (hd3.keep0 hF6) ((L.frm + k % L.n : Nat) : Int) (sealB k (L.bytes k)) (by rw [Lg.seal_len (Lg.bytes_len L k)]; omega)).mono ?_
    rintro _ w7 ⟨rfl, hd7, hf7⟩
    have hL7 := (hL3.keep0 hF6).keep hf7 hXD
    have hF7 : Fm (fun y => y = db ∨ y = g ∨ y = m) w w7 := (hF3.trans (hF6.mono (fun _ _ e => e.elim)) (fun _ _ e => e) (fun _ _ e => e)).trans hf7 (fun _ _ e => e) (fun _ _ e => e)
    have hput : e.write ((L.frm + k % L.n : Nat) : Int) (sealB k (L.bytes k)) = L.put k e := rfl
    rw [hput] at hd7 ⊢
    simp only [RS0, RS1, RS2, RS3, RS4, RS5, bne_dec]
    cases hz : decide ((L.put k e).2 = 0) with
    | false =>
      rw [hz, cond_false] at hgo
      have hz2 : decide ((L.flushE d).2 = 0) = false := by rw [← hgo]; exact hz
      rw [hz2, cond_false, ← hgo] at hfl
      rw [hfl]
      simp only [RS0, RS1, RS2, RS3, RS4, RS5, Bool.not_false]
      exact ⟨(by trivial), hL7, hd7, hF7.mono (fun _ _ e => .inr e)⟩
    | true =>
      rw [hz, cond_true] at hgo
      have e5 : IntKind.i64.wrap ((k : Int) + 1) = ((k + 1 : Nat) : Int) := by rw [wrap_id] <;> omega
      simp only [RS0, RS1, RS2, RS3, RS4, RS5, Bool.not_true, e5]
      exact ⟨⟨k + 1, f', (L.put k e).1, rfl, by omega, by omega, by omega, hL7, hd7, hF7, hgo⟩, by simp only [nth_0]; omega⟩
  · have d1 : decide (((k * 54 + 1 : Nat) : Int) < (L.tail : Int)) = false := by rw [decide_eq_false_iff_not]; omega
    rw [flushGo_end L f k e (by omega)] at hgo
    rw [← hgo] at hfl
    simp only [decide_true, cond_true] at hfl
    obtain ⟨P3, mb3, kv3, M3, hi3⟩ := hL3.ex
    simp only [RS0, RS1, RS2, RS3, RS4, RS5, d1, hi3.c0]
    refine (dsync_spec hd3).mono ?_
    rintro _ w4 ⟨rfl, hd4, hf4⟩
    have hL4 := hL3.keep hf4 hXD
    have hF4 := hF3.trans hf4 (fun _ _ e => e) (fun _ _ e => e)
    simp only [RS0, RS1, RS2, RS3, RS4, RS5, bne_dec]
    cases hz : decide (e.sync.2 = 0) with
    | false =>
      rw [hz, cond_false] at hfl
      rw [hfl]
      simp only [RS0, RS1, RS2, RS3, RS4, RS5, Bool.not_false]
      exact ⟨(by trivial), hL4, hd4, hF4.mono (fun _ _ e => .inr e)⟩
    | true =>
      rw [hz, cond_true] at hfl
      rw [hfl]
      obtain ⟨P4, mb4, kv4, M4, hi4⟩ := hL4.ex
      simp only [RS0, RS1, RS2, RS3, RS4, RS5, Bool.not_true]
      refine St_blk hi4.st (by show 6 < 9; decide) rfl ?_
      intro w5 hw5 hs5 hf5
      have hlb := hL4.lb
      refine ⟨(by trivial), ⟨h.wf.last, P4, mb4, kv4, M4, hi4.upd hw5 hf5 rfl rfl⟩, hd4.keep hf5 (fun e => hX.1 (by rw [e]; exact hlb)) (fun e => hX.2.1 (by rw [e]; exact hlb)) (fun e => hX.2.2 (by rw [e]; exact hlb)), (hF4.mono (fun _ _ e => .inr e)).trans hf5 (fun _ _ e => e) (fun _ _ e => .inl e)⟩
end Go.Proofs.YthbngnlmgplijaaGreatDoor

namespace Go.Proofs.YthbngnlmgplijaaGreatDoor
open Go.Al Go.Proofs
set_option linter.unusedVariables false
set_option linter.unusedSimpArgs false
set_option linter.unusedSectionVars false
set_option maxRecDepth 100000

theorem inc_len : ∀ (l : List Int) (a b : Int), a ≤ b → (∀ x ∈ l, a ≤ x ∧ x < b) → l.Pairwise (· < ·) → (l.length : Int) ≤ b - a
  | [], a, b, hab, _, _ => by simp; omega
  | x :: l, a, b, hab, h, hp => by
    have hx := h x (by simp)
    rw [List.pairwise_cons] at hp
    have := inc_len l (x + 1) b (by omega) (fun y hy => ⟨by have := hp.1 y hy; omega, (h y (by simp [hy])).2⟩) hp.2
    rw [List.length_cons]
    omega
def plsV (L : Lg) : List Value := L.recs.map fun p => iv p.1
def rlc (db : Nat) (v : Value) (L : Lg) : Array Value := #[pv db, iv (L.frm : Int), iv (L.n : Int), iv (L.base : Int), stv L.kept, iv (L.start : Int), iv (L.last : Int), iv L.res, v]
structure RL (w : World) (b0 lb db : Nat) (v : Value) (L : Lg) : Prop where
  wf : L.Wf
  inc : (L.recs.map (·.1)).Pairwise (· < ·)
  st : w.heap[lb]? = some (.cells (rlc db v L) 167)
  row : w.ownsRow b0 3 1 v L.recs.length (plsV L)
def RL.mine (lb : Nat) (v : Value) (y : Nat) : Prop := y = lb ∨ v.ownBlock = some y
section
variable {w w' : World} {S : Nat → Prop} {b0 lb db : Nat} {v : Value} {L L' : Lg}
theorem RL.keep (h : RL w b0 lb db v L) (hf : Fm S w w') (hS : ∀ y, RL.mine lb v y → ¬ S y) : RL w' b0 lb db v L :=
  ⟨h.wf, h.inc, hf.heap h.st (hS _ (.inl rfl)), own_keep h.row hf (fun y _ _ hy => hS y (.inr hy))⟩
theorem RL.keep0 (h : RL w b0 lb db v L) (hf : Fm (fun _ => False) w w') : RL w' b0 lb db v L := h.keep hf (fun _ _ e => e)
theorem RL.nv (h : RL w b0 lb db v L) : v.ownBlock ≠ some lb := by
  intro e
  rcases h.row.2 with ⟨rfl, _⟩ | ⟨g, cap, cur, rfl, _, hg, _⟩
  · cases e
  · cases e
    rw [h.st] at hg; cases hg
theorem RL.lt (h : RL w b0 lb db v L) : ∀ y, RL.mine lb v y → y < w.heap.size := by
  rintro y (rfl | hy)
  · exact lt_of_heap h.st
  · exact (own_lt h.row y hy).2
theorem RL.c0 (h : RL w b0 lb db v L) : w.cell? ⟨lb, 0, none⟩ = some (pv db) := by rw [cell_at h.st]; rfl
theorem RL.c1 (h : RL w b0 lb db v L) : w.cell? ⟨lb, 1, none⟩ = some (iv (L.frm : Int)) := by rw [cell_at h.st]; rfl
theorem RL.c2 (h : RL w b0 lb db v L) : w.cell? ⟨lb, 2, none⟩ = some (iv (L.n : Int)) := by rw [cell_at h.st]; rfl
theorem RL.c3 (h : RL w b0 lb db v L) : w.cell? ⟨lb, 3, none⟩ = some (iv (L.base : Int)) := by rw [cell_at h.st]; rfl
theorem RL.c4 (h : RL w b0 lb db v L) : w.cell? ⟨lb, 4, none⟩ = some (stv L.kept) := by rw [cell_at h.st]; rfl
theorem RL.c5 (h : RL w b0 lb db v L) : w.cell? ⟨lb, 5, none⟩ = some (iv (L.start : Int)) := by rw [cell_at h.st]; rfl
theorem RL.c6 (h : RL w b0 lb db v L) : w.cell? ⟨lb, 6, none⟩ = some (iv (L.last : Int)) := by rw [cell_at h.st]; rfl
theorem RL.c7 (h : RL w b0 lb db v L) : w.cell? ⟨lb, 7, none⟩ = some (iv L.res) := by rw [cell_at h.st]; rfl
theorem RL.cnt (h : RL w b0 lb db v L) : L.recs.length ≤ L.kept.length ∧ L.kept.length ≤ 8000000 := by
  have hb := Lg.baseOf_le h.wf.st.1
  rw [← h.wf.bs] at hb
  have ht : L.tail = L.base + L.kept.length := rfl
  have hst := h.wf.st
  have := inc_len (L.recs.map (·.1)) L.start L.tail (by omega) (fun x hx => by
    obtain ⟨p, hp, rfl⟩ := List.mem_map.1 hx
    exact (h.wf.ok p hp).2.2.2) h.inc
  rw [List.length_map] at this
  exact ⟨by omega, h.wf.small⟩
theorem rltail_spec (h : RL w b0 lb db v L) : Cl Tryz.prog 129 [pv lb] w fun r w' => r = iv (L.tail : Int) ∧ Fm (fun _ => False) w w' := by
  have hl := h.wf.low
  refine c129 ?_; unfold T129
  have e1 : IntKind.i64.wrap ((L.base : Int) + (L.kept.length : Int)) = (L.tail : Int) := by
    unfold Lg.tail at hl ⊢
    rw [wrap_id] <;> omega
  simp only [RS0, RS1, RS2, RS3, RS4, RS5, h.c3, h.c4, str_size, e1, true_and]
  exact Fm.drew _ _
theorem rlflushed_spec (h : RL w b0 lb db v L) : Cl Tryz.prog 65 [pv lb] w fun r w' => r = iv (L.last : Int) ∧ w' = w := by
  refine c65 ?_; unfold T65
  simp only [RS0, RS1, RS2, RS3, RS4, RS5, h.c6]
  exact ⟨(by trivial), (by trivial)⟩
theorem rlroom_spec (h : RL w b0 lb db v L) : Cl Tryz.prog 131 [pv lb] w fun r w' => r = iv L.room ∧ Fm (fun _ => False) w w' := by
  have h1 := h.wf.st; have h2 := h.wf.big; have h3 := h.wf.res; have h4 := h.wf.small; have h5 := h.wf.bs; have h6 := h.wf.n4
  have hb := Lg.baseOf_le h1.1
  rw [← h5] at hb
  have ht : L.tail = L.base + L.kept.length := rfl
  have e1 : IntKind.i64.wrap ((L.n : Int) - 2) = (L.n : Int) - 2 := by rw [wrap_id]; omega
  have e2 : IntKind.i64.wrap (54 * ((L.n : Int) - 2)) = 54 * ((L.n : Int) - 2) := by rw [wrap_id]; omega
  have e3 : IntKind.i64.wrap ((L.tail : Int) - (L.start : Int)) = (L.tail : Int) - (L.start : Int) := by rw [wrap_id]; omega
  have e4 : IntKind.i64.wrap (54 * ((L.n : Int) - 2) - ((L.tail : Int) - (L.start : Int))) = 54 * ((L.n : Int) - 2) - ((L.tail : Int) - (L.start : Int)) := by rw [wrap_id]; omega
  have e5 : IntKind.i64.wrap (54 * ((L.n : Int) - 2) - ((L.tail : Int) - (L.start : Int)) - L.res) = L.room := by unfold Lg.room; rw [wrap_id]; omega
  have hfd := Fm.drew (fun _ => False) w
  refine c131 ?_; unfold T131
  refine ⟨fun w' => RL w' b0 lb db v L, h.keep0 hfd, ?_⟩
  simp only [RS0, RS1, RS2, RS3, RS4, RS5]
  refine ⟨iv (L.n : Int), fun w' h' => ?_, ?_⟩
  · simp only [RS0, RS1, RS2, RS3, RS4, RS5, h'.c2] <;> trivial
  simp only [RS0, RS1, RS2, RS3, RS4, RS5, e1, e2]
  refine ⟨iv (L.start : Int), fun w' h' => ?_, ?_⟩
  · simp only [RS0, RS1, RS2, RS3, RS4, RS5, h'.c5] <;> trivial
  refine ⟨iv L.res, fun w' h' => ?_, ?_⟩
  · simp only [RS0, RS1, RS2, RS3, RS4, RS5, h'.c7] <;> trivial
  refine (rltail_spec (h.keep0 hfd)).mono ?_
  rintro _ w2 ⟨rfl, hf2⟩
  refine ⟨h.keep0 (Fmf hfd hf2), ?_⟩
  simp only [RS0, RS1, RS2, RS3, RS4, RS5, e3, e4, e5]
  exact ⟨(by trivial), Fmf hfd hf2⟩
theorem rlat_spec (h : RL w b0 lb db v L) {k : Nat} (hk : k ≤ 9223372036854775807) : Cl Tryz.prog 136 [pv lb, iv (k : Int)] w fun r w' => r = iv ((L.frm + k % L.n : Nat) : Int) ∧ Fm (fun _ => False) w w' := by
  have h1 := h.wf.big; have h2 := h.wf.n4
  have e1 := rem_nat (TypeDesc.int IntKind.i64) (n := k) (m := L.n) (by omega) hk (b := (L.n : Int)) rfl
  have hm := Nat.mod_lt k (show 0 < L.n by omega)
  have e2 : IntKind.i64.wrap ((L.frm : Int) + ((k % L.n : Nat) : Int)) = ((L.frm + k % L.n : Nat) : Int) := by rw [wrap_id] <;> omega
  refine c136 ?_; unfold T136
  simp only [RS0, RS1, RS2, RS3, RS4, RS5, h.c1, h.c2, e1, e2, true_and]
  exact Fm.drew _ _
theorem rlblock_spec (h : RL w b0 lb db v L) {k : Nat} (hk : L.base ≤ k * 54 + 1) (hk2 : k * 54 + 1 ≤ L.tail) : Cl Tryz.prog 138 [pv lb, iv (k : Int)] w fun r w' => r = stv (L.bytes k) ∧ Fm (fun _ => False) w w' := by
  have h1 := h.wf.low; have h2 := h.wf.small
  have ht : L.tail = L.base + L.kept.length := rfl
  have e0 : IntKind.i64.wrap ((k : Int) * 54) = ((k * 54 : Nat) : Int) := by rw [wrap_id] <;> omega
  have e0' : IntKind.i64.wrap (((k * 54 : Nat) : Int) + 1) = ((k * 54 + 1 : Nat) : Int) := by rw [wrap_id] <;> omega
  have e1 : IntKind.i64.wrap (((k * 54 + 1 : Nat) : Int) - (L.base : Int)) = ((k * 54 + 1 - L.base : Nat) : Int) := by rw [wrap_id] <;> omega
  have e2 : IntKind.i64.wrap (((k * 54 + 1 - L.base : Nat) : Int) + 54) = ((k * 54 + 1 - L.base + 54 : Nat) : Int) := by rw [wrap_id] <;> omega
  have e3 : min ((k * 54 + 1 - L.base + 54 : Nat) : Int) ((L.kept.length : Nat) : Int) = ((min (k * 54 + 1 - L.base + 54) L.kept.length : Nat) : Int) := by omega
  have e6 := slS_lh (l := L.kept) (i := k * 54 + 1 - L.base) (j := min (k * 54 + 1 - L.base + 54) L.kept.length) (by omega) (by omega) .i64 .i64
  have e4 : (L.kept.drop (k * 54 + 1 - L.base)).take (min (k * 54 + 1 - L.base + 54) L.kept.length - (k * 54 + 1 - L.base)) = L.bytes k := by
    unfold Lg.bytes
    rw [List.take_eq_take_iff, List.length_drop]
    omega
  rw [e4] at e6
  refine c138 ?_; unfold T138
  simp only [RS0, RS1, RS2, RS3, RS4, RS5, e0, e0', h.c3, e1, h.c4, e2, str_size, fold_min2, e3, e6, true_and]
  exact Fm.drew _ _
end
theorem rlsector_spec (w : World) {k : Nat} (hk : k + 1 ≤ 9223372036854775807) {b : Bs} (hb : b.length ≤ 54) : Cl Tryz.prog 137 [iv (k : Int), stv b] w fun v w' => v = stv (sealB k b) ∧ Fm (fun _ => False) w w' := by
  have e0 : IntKind.i64.wrap ((k : Int) + 1) = ((k + 1 : Nat) : Int) := by rw [wrap_id] <;> omega
  have e0' := rem_nat (TypeDesc.int IntKind.i64) (n := k + 1) (m := 4294967296) (by omega) hk (b := 4294967296) rfl
  have e1 : cvI .u8 (iv (b.length : Int)) = some (.int .u8 (((UInt8.ofNat b.length).toNat : Nat) : Int)) := by
    show some (Value.int .u8 (IntKind.u8.wrap (b.length : Int))) = _
    rw [u8_wrap_nat, Nat.mod_eq_of_lt (by omega), u8_ofNat (by omega)]
  have e2 : IntKind.i64.wrap (54 - (b.length : Int)) = ((54 - b.length : Nat) : Int) := by rw [wrap_id] <;> omega
  have h4 := Lg.blk_len k
  have hz := Lg.zeros_len' (54 - b.length)
  have hm := Nat.mod_lt (k + 1) (show 0 < 4294967296 by omega)
  refine c137 ?_; unfold T137
  simp only [RS0, RS1, RS2, RS3, RS4, RS5, e0, e0']
  refine (rbig_spec w (n := ((k + 1) % 4294967296 : Nat)) (by constructor <;> omega) 4).mono ?_
  rintro _ w1 ⟨rfl, hf1⟩
  have hbig : bigB (((k + 1) % 4294967296 : Nat) : Int) 4 = blkN k := bigB_of (n := (k + 1) % 4294967296) (w := 4) (by omega) (by omega)
  rw [hbig]
  simp only [RS0, RS1, RS2, RS3, RS4, RS5, str_size, e1]
  refine RunS_ok (bs38w _ _) ?_
  have hfa := Fm.alloc (fun _ => False) w1 (.cells #[.int .u8 (((UInt8.ofNat b.length).toNat : Nat) : Int)] 5)
  have hrow : BRow (w1.alloc (.cells #[.int .u8 (((UInt8.ofNat b.length).toNat : Nat) : Int)] 5)) w1.heap.size 5 [UInt8.ofNat b.length] := alloc_new _ _
  generalize w1.alloc (.cells #[.int .u8 (((UInt8.ofNat b.length).toNat : Nat) : Int)] 5) = w2 at hfa hrow
  have hcv := hrow.conv (P := Tryz.prog) B44 (o := 0) (n := 1) (by simp) 1
  refine RunS_ok hcv ?_
  rw [show (([UInt8.ofNat b.length] : Bs).drop 0).take 1 = [UInt8.ofNat b.length] from rfl]
  rw [sadd (by simp; omega)]
  simp only [RS0, RS1, RS2, RS3, RS4, RS5]
  rw [sadd (by simp; omega)]
  simp only [RS0, RS1, RS2, RS3, RS4, RS5, str_size, e2]
  refine RunS_ok (BRow.make B44 w2 (54 - b.length) (by omega)) ?_
  have hf3 := Fm.alloc (fun _ => False) w2 (.cells (bc (List.replicate (54 - b.length) 0)).toArray 5)
  have hb3 : BRow (w2.alloc (.cells (bc (List.replicate (54 - b.length) 0)).toArray 5)) w2.heap.size 5 (List.replicate (54 - b.length) 0) := alloc_new _ _
  generalize w2.alloc (.cells (bc (List.replicate (54 - b.length) 0)).toArray 5) = w3 at hf3 hb3
  refine RunS_ok (hb3.conv B44 (o := 0) (n := 54 - b.length) (by simp) _) ?_
  rw [show (((List.replicate (54 - b.length) 0).drop 0).take (54 - b.length) : Bs) = zeros (54 - b.length) from by rw [List.drop_zero, List.take_of_length_le (by simp)]; rfl]
  rw [sadd (by simp; omega)]
  simp only [RS0, RS1, RS2, RS3, RS4, RS5]
  rw [sadd (by simp; omega)]
  simp only [RS0, RS1, RS2, RS3, RS4, RS5]
  rw [sadd (by simp; omega)]
  simp only [RS0, RS1, RS2, RS3, RS4, RS5]
  refine ⟨?_, Fmf hf1 (Fmf hfa hf3)⟩
  unfold sealB
  simp only [List.append_assoc]

end Go.Proofs.YthbngnlmgplijaaGreatDoor

namespace Go.Proofs.YthbngnlmgplijaaGreatDoor
open Go.Al Go.Proofs
set_option linter.unusedVariables false
set_option linter.unusedSimpArgs false
set_option linter.unusedSectionVars false
set_option maxRecDepth 100000

section
variable {w w' : World} {S : Nat → Prop} {b0 lb db : Nat} {v : Value} {L L' : Lg}
theorem app_recs (h : L.Wf) {r : Rc} (hc : (rCheck (atR r L.tail)).2 = 0) (hr : ¬ L.room < ((rEnc (atR r L.tail)).1.length : Int)) : L.append r = ({ L with kept := L.kept ++ (rEnc (atR r L.tail)).1, recs := L.recs ++ [((L.tail : Int), atR r L.tail)] }, (L.tail : Int), 0) := by
  unfold Lg.append
  rw [decide_eq_true hc, cond_true, decide_eq_false hr, cond_false, setD_new]
  rw [getD_none]
  intro hm
  obtain ⟨x, hx, hxe⟩ := List.mem_map.1 hm
  have := (h.ok x hx).2.2.2.2
  omega
theorem rlappend_spec (h : RL w b0 lb db v L) (hb0 : b0 ≤ w.heap.size) {cs : Array Value} {r : Rc} (hr : RcAs w cs r) :
    Cl Tryz.prog 51 [pv lb, .agg cs] w fun u w' => u = .tuple #[iv (L.append r).2.1, iv (L.append r).2.2] ∧ ∃ v', RL w' b0 lb db v' (L.append r).1 ∧ (∀ y, RL.mine lb v' y → RL.mine lb v y ∨ w.heap.size ≤ y) ∧ Fm (RL.mine lb v) w w' := by
  have hwf := h.wf.append r hr.lsns
  have hlow := h.wf.low
  have hlt := h.lt
  obtain ⟨vs, vm, vi, vp, vt, rfl, _⟩ := hr.ex
  have same : ∀ {w' : World}, Fm (fun _ => False) w w' → ∃ v', RL w' b0 lb db v' L ∧ (∀ y, RL.mine lb v' y → RL.mine lb v y ∨ w.heap.size ≤ y) ∧ Fm (RL.mine lb v) w w' := fun hf => ⟨v, h.keep0 hf, fun y hy => .inl hy, hf.mono (fun _ _ e => e.elim)⟩
  refine c51 ?_; unfold T51
  refine New_any ?_
  intro x1 w1 hx1 hs1 hw1 hf1
  simp only [RS0, RS1, RS2, RS3, RS4, RS5]
  refine (rltail_spec (h.keep0 hf1)).mono ?_
  rintro _ w2 ⟨rfl, hf2⟩
  have hF2 := Fmf hf1 hf2
  have hw2 := hf2.heap hw1 (fun e => e)
  try simp only [RS0, RS1, RS2, RS3, RS4, RS5]
  refine St_blk hw2 (by show 0 < 16; decide) rfl ?_
  intro w3 hw3 hs3 hf3
  have hF3 : Fm (fun _ => False) w w3 := Fm.own hF2 hf3 (by rintro y rfl; omega)
  replace hw3 : w3.heap[x1]? = some (.cells (rcs (atR r L.tail) vs vm vi vp vt) 28) := hw3
  have hra := (hr.keep hF3).atR hlow
  simp only [RS0, RS1, RS2, RS3, RS4, RS5, cellsV_blk hw3 (n := 16) rfl]
  refine (rencR_spec hra).mono ?_
  rintro _ w4 ⟨rfl, hf4⟩
  have hF4 := Fmf hF3 hf4
  rw [rEnc_err]
  simp only [RS0, RS1, RS2, RS3, RS4, RS5, bne_dec]
  cases hc : decide ((rCheck (atR r L.tail)).2 = 0) with
  | false =>
    have e : L.append r = (L, 0, (rCheck (atR r L.tail)).2) := by unfold Lg.append; rw [hc]; rfl
    rw [e]
    simp only [RS0, RS1, RS2, RS3, RS4, RS5, Bool.not_false]
    exact ⟨(by trivial), same hF4⟩
  | true =>
  rw [decide_eq_true_eq] at hc
  have hel := Lg.enc_len hc hra.lsns
  simp only [RS0, RS1, RS2, RS3, RS4, RS5, Bool.not_true, str_size]
  refine (rlroom_spec (h.keep0 hF4)).mono ?_
  rintro _ w5 ⟨rfl, hf5⟩
  have hF5 := Fmf hF4 hf5
  cases hrm : decide (L.room < ((rEnc (atR r L.tail)).1.length : Int)) with
  | true =>
    have e : L.append r = (L, 0, 50) := by unfold Lg.append; rw [decide_eq_true hc, hrm]; rfl
    rw [e]
    simp only [RS0, RS1, RS2, RS3, RS4, RS5, hrm]
    exact ⟨(by trivial), same hF5⟩
  | false =>
  have hap := app_recs h.wf hc (by simpa using hrm)
  rw [hap] at hwf ⊢
  simp only [RS0, RS1, RS2, RS3, RS4, RS5, hrm]
  have hi := h.keep0 hF5
  have hcn := h.cnt
  generalize hE : (rEnc (atR r L.tail)).1 = E at hel hwf
  have z5 := hF5.size
  simp only [RS0, RS1, RS2, RS3, RS4, RS5, hi.c4]
  rw [sadd (by omega)]
  try simp only [RS0, RS1, RS2, RS3, RS4, RS5]
  refine St_blk hi.st (by show 4 < 9; decide) rfl ?_
  intro w6 hw6 hs6 hf6
  replace hw6 : w6.heap[lb]? = some (.cells #[pv db, iv (L.frm : Int), iv (L.n : Int), iv (L.base : Int), stv (L.kept ++ E), iv (L.start : Int), iv (L.last : Int), iv L.res, v] 167) := hw6
  have hrow6 := own_keep hi.row hf6 (fun y _ _ hy e => hi.nv (by rw [hy, e]))
  have c8 : w6.cell? ⟨lb, 8, none⟩ = some v := by rw [cell_at hw6]; rfl
  simp only [RS0, RS1, RS2, RS3, RS4, RS5, c8]
  refine append_elF dE23 (by omega) 23 (cs := [iv (L.tail : Int)]) rfl (dbs23 _ _) (by intro u hu; simp at hu; subst hu; rfl) hrow6 (by unfold maxLen; omega) (by omega) (by omega) ?_
  intro v' w7 hrow7 hcase
  have hlb := hlt lb (.inl rfl)
  obtain ⟨S, hfS, hS1, hS2⟩ : ∃ S : Nat → Prop, Fm S w6 w7 ∧ (∀ x, S x → v.ownBlock = some x) ∧ (∀ g, v'.ownBlock = some g → v.ownBlock = some g ∨ w6.heap.size ≤ g) := by
    rcases hcase with ⟨g', k1, k2, k3⟩ | ⟨g', k1, k2, k3⟩
    · exact ⟨_, k3, fun x hx => by rw [hx]; exact k1, fun g hg => by rw [k2] at hg; cases hg; exact .inl k1⟩
    · exact ⟨_, k3, fun _ e => e.elim, fun g hg => by rw [k1] at hg; cases hg; exact .inr k2⟩
  have hw7 := hfS.heap hw6 (fun e => hi.nv (hS1 _ e))
  refine St_blk hw7 (by show 8 < 9; decide) (own_one hrow7) ?_
  intro w8 hw8 hs8 hf8
  replace hw8 : w8.heap[lb]? = some (.cells #[pv db, iv (L.frm : Int), iv (L.n : Int), iv (L.base : Int), stv (L.kept ++ E), iv (L.start : Int), iv (L.last : Int), iv L.res, v'] 167) := hw8
  have hnv' : v'.ownBlock ≠ some lb := fun e => by
    rcases hS2 lb e with q | q
    · exact hi.nv q
    · omega
  have hrow8 := own_keep hrow7 hf8 (fun y _ _ hy e => hnv' (by rw [hy, e]))
  refine ⟨(by trivial), v', ⟨hwf, ?_, hw8, ?_⟩, ?_, ?_⟩
  · show ((L.recs ++ [((L.tail : Int), atR r L.tail)]).map (·.1)).Pairwise (· < ·)
    rw [List.map_append, List.pairwise_append]
    refine ⟨h.inc, by simp, fun a ha b hb => ?_⟩
    obtain ⟨p, hp, rfl⟩ := List.mem_map.1 ha
    simp at hb
    subst hb
    exact (h.wf.ok p hp).2.2.2.2
  · show w8.ownsRow b0 3 1 v' (L.recs ++ [((L.tail : Int), atR r L.tail)]).length (plsV { L with kept := L.kept ++ E, recs := L.recs ++ [((L.tail : Int), atR r L.tail)] })
    have : plsV { L with kept := L.kept ++ E, recs := L.recs ++ [((L.tail : Int), atR r L.tail)] } = plsV L ++ [iv (L.tail : Int)] := by unfold plsV; simp
    rw [this, List.length_append]
    exact hrow8
  · rintro y (rfl | hy)
    · exact .inl (.inl rfl)
    · rcases hS2 y hy with q | q
      · exact .inl (.inr q)
      · exact .inr (by omega)
  · exact (((hF5.mono (fun _ _ e => e.elim) : Fm (RL.mine lb v) w w5).trans hf6 (fun _ _ e => e) (fun _ _ e => .inl e)).trans hfS (fun _ _ e => e) (fun x _ e => .inr (hS1 x e))).trans hf8 (fun _ _ e => e) (fun _ _ e => .inl e)
end

end Go.Proofs.YthbngnlmgplijaaGreatDoor

namespace Go.Proofs.YthbngnlmgplijaaGreatDoor
open Go.Al Go.Proofs
set_option linter.unusedVariables false
set_option linter.unusedSimpArgs false
set_option linter.unusedSectionVars false
set_option maxRecDepth 100000

theorem hpre_spec (w : World) {s t : Bs} (h : t.length ≤ s.length) (hs : s.length ≤ 9223372036854775807) : Cl Tryz.prog 174 [stv s, stv t] w fun v w' => v = .bool (decide (s.take t.length = t)) ∧ w' = w := by
  refine c174 ?_; unfold T174
  refine (?_ : Cl Tryz.prog 210 [stv s, stv t] w fun v w' => v = .bool (decide (s.take t.length = t)) ∧ w' = w).mono (fun _ _ e => e)
  refine c210 ?_; unfold T210
  have d1 : decide ((t.length : Int) ≤ (s.length : Int)) = true := by rw [decide_eq_true_eq]; omega
  simp only [RS0, RS1, RS2, RS3, RS4, RS5, str_size, d1, slS_hi h, str_inj]
  exact ⟨(by trivial), (by trivial)⟩
/-! ### Sectors, one behind the other -/
section
variable {w : World} {X P : Nat → Prop} {lb db mb : Nat} {kv : Value} {M : List (Int × Array Value)} {L : Lg}
end
end Go.Proofs.YthbngnlmgplijaaGreatDoor

namespace Go.Proofs.YthbngnlmgplijaaGreatDoor
open Go.Al Go.Proofs
set_option linter.unusedVariables false
set_option linter.unusedSimpArgs false
set_option linter.unusedSectionVars false
set_option maxRecDepth 100000

def Dm (db g m : Nat) (y : Nat) : Prop := y = db ∨ y = g ∨ y = m
section
variable {w w' w2 : World} {q : Nat} {X : Nat → Prop} {lb db g m : Nat} {L : Lg} {e e' : Dk} {W : List Bs}
end
end Go.Proofs.YthbngnlmgplijaaGreatDoor

namespace Go.Proofs.YthbngnlmgplijaaGreatDoor
open Go.Al Go.Proofs
set_option linter.unusedVariables false
set_option linter.unusedSimpArgs false
set_option linter.unusedSectionVars false
set_option maxRecDepth 100000

def fitsD (d : Dk) (frm n : Int) : Bool := decide (4 ≤ n) && (decide (0 ≤ frm) && (decide (n ≤ d.cur.length) && decide (frm ≤ d.cur.length - n)))
theorem wfits_spec {w : World} {b g m : Nat} {d : Dk} (h : DAt w b g m d) (frm n : Int) : Cl Tryz.prog 93 [pv b, iv frm, iv n] w fun v w' => v = .bool (fitsD d frm n) ∧ w' = w := by
  have hn := h.wf.n1
  unfold fitsD
  refine c93 ?_; unfold T93
  cases e1 : decide (4 ≤ n) with
  | false =>
    simp only [RS0, RS1, RS2, RS3, RS4, RS5, e1, Bool.false_and]
    exact ⟨(by trivial), (by trivial)⟩
  | true =>
  cases e2 : decide (0 ≤ frm) with
  | false =>
    simp only [RS0, RS1, RS2, RS3, RS4, RS5, e1, e2, Bool.false_and, Bool.and_false]
    exact ⟨(by trivial), (by trivial)⟩
  | true =>
  simp only [RS0, RS1, RS2, RS3, RS4, RS5, e1, e2]
  refine (dsize_spec h).mono ?_
  rintro _ w ⟨rfl, rfl⟩
  cases e3 : decide (n ≤ (d.cur.length : Int)) with
  | false =>
    simp only [RS0, RS1, RS2, RS3, RS4, RS5, e3, Bool.false_and, Bool.and_false]
    exact ⟨(by trivial), (by trivial)⟩
  | true =>
  simp only [RS0, RS1, RS2, RS3, RS4, RS5, e3]
  refine (dsize_spec h).mono ?_
  rintro _ w ⟨rfl, rfl⟩
  rw [decide_eq_true_eq] at e1 e3
  have e4 : IntKind.i64.wrap ((d.cur.length : Int) - n) = (d.cur.length : Int) - n := by rw [wrap_id]; omega
  simp only [RS0, RS1, RS2, RS3, RS4, RS5, e4, Bool.true_and]
  exact ⟨(by trivial), (by trivial)⟩
def fmtE (d : Dk) (frm n : Int) : Dk × Int :=
  bif fitsD d frm n then (bif decide ((d.write frm (zeros (n * 64).toNat)).2 = 0) then (d.write frm (zeros (n * 64).toNat)).1.sync else d.write frm (zeros (n * 64).toNat)) else (d, 1)
theorem bld132 (db mb : Nat) (frm n a b c : Int) (w : World) : (Instr.build 132 #[(0, pv db), (1, iv frm), (2, iv n), (3, iv a), (5, iv b), (6, iv c), (8, .map (some mb))]).run Tryz.prog w = .ok (.agg #[pv db, iv frm, iv n, iv a, .slice none 0 0, iv b, iv c, iv 0, .map (some mb)]) w := by kernel_rfl
set_option maxHeartbeats 2000000 in
theorem wformat_spec {w : World} {b g m : Nat} {d : Dk} (h : DAt w b g m d) (frm n : Int) : Cl Tryz.prog 18 [pv b, iv frm, iv n] w fun v w' => ∃ p, v = .tuple #[p, iv (fmtE d frm n).2] ∧ DAt w' b g m (fmtE d frm n).1 ∧ Fm (Dm b g m) w w' ∧
    ((fmtE d frm n).2 ≠ 0 → p = .pointer none) ∧ ((fmtE d frm n).2 = 0 → ∃ lb X, p = pv lb ∧ LAt w' X lb b (Lg.new frm.toNat n.toNat) ∧ ∀ y, X y → w.heap.size ≤ y) := by
  have hn := h.wf.n1
  have hlt := h.lt
  have up : ∀ {w1 : World}, Fm (fun _ => False) w w1 → Fm (Dm b g m) w w1 := fun hf => hf.mono (fun _ _ e => e.elim)
  unfold fmtE
  refine c18 ?_; unfold T18
  refine (wfits_spec h frm n).mono ?_
  rintro _ w ⟨rfl, rfl⟩
  cases hfi : fitsD d frm n with
  | false =>
    simp only [RS0, RS1, RS2, RS3, RS4, RS5, cond_false]
    exact ⟨_, (by trivial), h, Fm.refl _ _, fun _ => rfl, fun e => absurd e (by decide)⟩
  | true =>
  have hfi' := hfi
  unfold fitsD at hfi'
  simp only [Bool.and_eq_true, decide_eq_true_eq] at hfi'
  obtain ⟨f1, f2, f3, f4⟩ := hfi'
  obtain ⟨j, rfl⟩ := Int.eq_ofNat_of_zero_le (show 0 ≤ n by omega)
  obtain ⟨i, rfl⟩ := Int.eq_ofNat_of_zero_le f2
  have e1 : IntKind.i64.wrap ((j : Int) * 64) = ((j * 64 : Nat) : Int) := by rw [wrap_id] <;> omega
  have e2 : ((j : Int) * 64).toNat = j * 64 := by omega
  rw [e2]
  simp only [RS0, RS1, RS2, RS3, RS4, RS5, e1, cond_true]
  refine (repeat_spec w (j * 64) (by omega)).mono ?_
  rintro _ w1 ⟨rfl, hf1⟩
  refine (dwrite_spec (h.keep0 hf1) (i : Int) (zeros (j * 64)) (by rw [Lg.zeros_len']; omega)).mono ?_
  rintro _ w2 ⟨rfl, hd2, hf2⟩
  have hF2 := (up hf1).trans hf2 (fun _ _ e => e) (fun _ _ e => e)
  generalize d.write (i : Int) (zeros (j * 64)) = e at hd2
  simp only [RS0, RS1, RS2, RS3, RS4, RS5, bne_dec]
  cases hz : decide (e.2 = 0) with
  | false =>
    rw [decide_eq_false_iff_not] at hz
    simp only [RS0, RS1, RS2, RS3, RS4, RS5, cond_false, Bool.not_false]
    exact ⟨_, (by trivial), hd2, hF2, fun _ => rfl, fun e => absurd e hz⟩
  | true =>
  simp only [RS0, RS1, RS2, RS3, RS4, RS5, cond_true, Bool.not_true]
  refine (dsync_spec hd2).mono ?_
  rintro _ w3 ⟨rfl, hd3, hf3⟩
  have hF3 := hF2.trans hf3 (fun _ _ e => e) (fun _ _ e => e)
  generalize e.1.sync = s at hd3
  simp only [RS0, RS1, RS2, RS3, RS4, RS5, bne_dec]
  cases hz2 : decide (s.2 = 0) with
  | false =>
    rw [decide_eq_false_iff_not] at hz2
    simp only [RS0, RS1, RS2, RS3, RS4, RS5, Bool.not_false]
    exact ⟨_, (by trivial), hd3, hF3, fun _ => rfl, fun e => absurd e hz2⟩
  | true =>
  rw [decide_eq_true_eq] at hz2
  simp only [RS0, RS1, RS2, RS3, RS4, RS5, Bool.not_true]
  refine RunS_ok (makeMap_run _ _) ?_
  have hM := MapAt.empty w3 iv Value.agg
  have hfm := Fm.alloc (fun _ => False) w3 (.map #[] 0)
  have hms := alloc_size w3 (.map #[] 0)
  generalize w3.alloc (.map #[] 0) = w4 at hM hfm hms
  refine RunS_ok (bld132 b w3.heap.size _ _ _ _ _ _) ?_
  refine New_any ?_
  intro lb w5 hlb hs5 hw5 hf5
  have hF5 := Fmf hfm hf5
  have z3 := hF3.size
  refine ⟨_, by rw [hz2], hd3.keep0 hF5, hF3.trans hF5 (fun _ _ e => e) (fun _ _ e => e.elim), fun e => absurd hz2 e, fun _ => ⟨lb, fun y => y = lb ∨ y = w3.heap.size, rfl, ⟨Lg.wf_new (by omega) (by omega), fun _ => False, w3.heap.size, .slice none 0 0, [], hw5, KpAt.nil _ _, hM.keep hf5 (fun e => e), rfl, (fun k cs hm => by cases hm), ⟨.inl rfl, .inr rfl, (fun y hy => by cases hy), fun y hy => hy.elim⟩, ⟨(fun e => e), (fun e => e), (fun y hy e => e)⟩, ?_⟩, ?_⟩⟩
  · rintro y (rfl | rfl) <;> omega
  · rintro y (rfl | rfl) <;> omega
end Go.Proofs.YthbngnlmgplijaaGreatDoor

namespace Go.Proofs.YthbngnlmgplijaaGreatDoor
open Go.Al Go.Proofs
set_option linter.unusedVariables false
set_option linter.unusedSimpArgs false
set_option linter.unusedSectionVars false
set_option maxRecDepth 100000

section
variable {w w' : World} {S : Nat → Prop} {b0 lb db : Nat} {v : Value} {L L' : Lg} {q : DkL} {d : Dk}
def RFD (lb db : Nat) (q : DkL) (y : Nat) : Prop := y = lb ∨ q.mine db y
set_option maxHeartbeats 4000000 in
theorem rlflush_spec (h : RL w b0 lb db v L) (hd : DkAt w db q d) (hdw : d.Wf) (hX : ∀ y, RL.mine lb v y → ¬ q.mine db y) (upto : Int) :
    Cl Tryz.prog 69 [pv lb, iv upto] w fun u w' => u = iv (L.flush upto d).2.2 ∧ RL w' b0 lb db v (L.flush upto d).1 ∧ DkAt w' db q (L.flush upto d).2.1 ∧ Fm (RFD lb db q) w w' := by
  have h1 := h.wf.st; have h2 := h.wf.low; have h3 := h.wf.hi; have h4 := h.wf.bs
  have hb := Lg.baseOf_le h1.1
  rw [← h4] at hb
  have ht : L.tail = L.base + L.kept.length := rfl
  have up0 : ∀ {a b : World}, Fm (fun _ => False) a b → Fm (RFD lb db q) a b := fun hf => hf.mono (fun _ _ e => e.elim)
  have hfl : L.flush upto d = bif decide (upto < (L.last : Int)) || decide (L.last = L.tail) then (L, d, 0) else
      bif decide ((L.flushE d).2 = 0) then (bif decide ((L.flushE d).1.sync.2 = 0) then ({ L with last := L.tail }, (L.flushE d).1.sync.1, 0) else (L, (L.flushE d).1.sync.1, (L.flushE d).1.sync.2))
      else (L, (L.flushE d).1, (L.flushE d).2) := rfl
  refine c69 ?_; unfold T69
  refine (rltail_spec h).mono ?_
  rintro _ w2 ⟨rfl, hf2⟩
  have hL2 := h.keep0 hf2
  have hd2 := hd.keep0 hf2
  cases e1 : decide (upto < (L.last : Int)) with
  | true =>
    rw [e1, Bool.true_or, cond_true] at hfl
    rw [hfl]
    simp only [RS0, RS1, RS2, RS3, RS4, RS5, hL2.c6, e1]
    exact ⟨(by trivial), hL2, hd2, up0 hf2⟩
  | false =>
  have e2 : ((L.last : Int) == (L.tail : Int)) = decide (L.last = L.tail) := by
    rw [beq_dec, decide_eq_decide]; omega
  cases e3 : decide (L.last = L.tail) with
  | true =>
    rw [e1, e3, Bool.false_or, cond_true] at hfl
    rw [hfl]
    simp only [RS0, RS1, RS2, RS3, RS4, RS5, hL2.c6, e1, e2, e3]
    exact ⟨(by trivial), hL2, hd2, up0 hf2⟩
  | false =>
  rw [e1, e3, Bool.false_or, cond_false] at hfl
  rw [decide_eq_false_iff_not] at e3
  have h3' := h3 (by omega)
  have e3' : decide (L.last = L.tail) = false := by simpa using e3
  have hbl : L.base ≤ (L.last - 1) / 54 * 54 + 1 := by rw [h4]; unfold Lg.baseOf; omega
  have a1 : IntKind.i64.wrap ((L.last : Int) - 1) = ((L.last - 1 : Nat) : Int) := by rw [wrap_id] <;> omega
  have a2 := quo_nat (TypeDesc.int IntKind.i64) (n := L.last - 1) (m := 54) (by decide) (by omega) (b := 54) rfl
  simp only [RS0, RS1, RS2, RS3, RS4, RS5, hL2.c6, e1, e2, e3', a1, a2]
  refine ⟨fun vs w' => ∃ (k f : Nat) (e : Dk), vs = [iv (k : Int)] ∧ L.base ≤ k * 54 + 1 ∧ L.tail ≤ k * 54 + 1 + f ∧ k * 54 ≤ 4611686018427600000 ∧ RL w' b0 lb db v L ∧ DkAt w' db q e ∧ e.Wf ∧ Fm (q.mine db) w w' ∧ L.flushGo f k e = L.flushE d,
    fun vs _ => ((L.tail : Int) - 54 * nth vs 0).toNat, ⟨(L.last - 1) / 54, L.kept.length + 1, d, rfl, ?_, ?_, ?_, hL2, hd2, hdw, hf2.mono (fun _ _ e => e.elim), rfl⟩, ?_⟩
  · exact hbl
  · omega
  · omega
  rintro _ w3 kval ⟨k, f, e, hvs, k1, k2, k3, hL3, hd3, hw3, hF3, hgo⟩
  cases hvs
  have b1 : IntKind.i64.wrap ((k : Int) * 54) = ((k * 54 : Nat) : Int) := by rw [wrap_id] <;> omega
  have b2 : IntKind.i64.wrap (((k * 54 : Nat) : Int) + 1) = ((k * 54 + 1 : Nat) : Int) := by rw [wrap_id] <;> omega
  by_cases hlt : k * 54 + 1 < L.tail
  · have d1 : decide (((k * 54 + 1 : Nat) : Int) < (L.tail : Int)) = true := by rw [decide_eq_true_eq]; omega
    have d2 : decide (k * 54 + 1 < L.tail) = true := by rw [decide_eq_true_eq]; exact hlt
    obtain ⟨f', rfl⟩ : ∃ f', f = f' + 1 := ⟨f - 1, by omega⟩
    rw [Lg.flushGo, d2, cond_true] at hgo
    simp only [RS0, RS1, RS2, RS3, RS4, RS5, b1, b2, d1]
    have hfd := Fm.drew (fun _ => False) w3
    refine ⟨fun w' => Fm (fun _ => False) w3 w', hfd, ?_⟩
    refine ⟨pv db, fun w' h' => ?_, ?_⟩
    · simp only [RS0, RS1, RS2, RS3, RS4, RS5, (hL3.keep0 h').c0] <;> trivial
    refine (rlat_spec (hL3.keep0 hfd) (k := k) (by omega)).mono ?_
    rintro _ w4 ⟨rfl, hf4⟩
    have hF4 := Fmf hfd hf4
    refine ⟨hF4, ?_⟩
    refine (rlblock_spec (hL3.keep0 hF4) k1 (by omega)).mono ?_
    rintro _ w5 ⟨rfl, hf5⟩
    have hF5 := Fmf hF4 hf5
    refine ⟨hF5, ?_⟩
    refine (rlsector_spec w5 (k := k) (by omega) (Lg.bytes_len L k)).mono ?_
    rintro _ w6 ⟨rfl, hf6⟩
    have hF6 := Fmf hF5 hf6
    refine ⟨hF6, ?_⟩
    have hsl := Lg.seal_len (Lg.bytes_len L k) k
    refine (rdwrite_spec (hd3.keep0 hF6) hw3 ((L.frm + k % L.n : Nat) : Int) (sealB k (L.bytes k)) (by omega)).mono ?_
    rintro _ w7 ⟨rfl, hd7, hf7⟩
    have hL7 := (hL3.keep0 hF6).keep hf7 hX
    have hF7 : Fm (q.mine db) w w7 := (hF3.trans (hF6.mono (fun _ _ e => e.elim)) (fun _ _ e => e) (fun _ _ e => e)).trans hf7 (fun _ _ e => e) (fun _ _ e => e)
    have hput : e.write ((L.frm + k % L.n : Nat) : Int) (sealB k (L.bytes k)) = L.put k e := rfl
    have hw7 : (L.put k e).1.Wf := by rw [← hput]; exact Dk.Wf.write hw3 _ _
    rw [hput] at hd7 ⊢
    simp only [RS0, RS1, RS2, RS3, RS4, RS5, bne_dec]
    cases hz : decide ((L.put k e).2 = 0) with
    | false =>
      rw [hz, cond_false] at hgo
      have hz2 : decide ((L.flushE d).2 = 0) = false := by rw [← hgo]; exact hz
      rw [hz2, cond_false, ← hgo] at hfl
      rw [hfl]
      simp only [RS0, RS1, RS2, RS3, RS4, RS5, Bool.not_false]
      exact ⟨(by trivial), hL7, hd7, hF7.mono (fun _ _ e => .inr e)⟩
    | true =>
      rw [hz, cond_true] at hgo
      have e5 : IntKind.i64.wrap ((k : Int) + 1) = ((k + 1 : Nat) : Int) := by rw [wrap_id] <;> omega
      simp only [RS0, RS1, RS2, RS3, RS4, RS5, Bool.not_true, e5]
      exact ⟨⟨k + 1, f', (L.put k e).1, rfl, by omega, by omega, by omega, hL7, hd7, hw7, hF7, hgo⟩, by simp only [nth_0]; omega⟩
  · have d1 : decide (((k * 54 + 1 : Nat) : Int) < (L.tail : Int)) = false := by rw [decide_eq_false_iff_not]; omega
    rw [flushGo_end L f k e (by omega)] at hgo
    rw [← hgo] at hfl
    simp only [decide_true, cond_true] at hfl
    simp only [RS0, RS1, RS2, RS3, RS4, RS5, b1, b2, d1, hL3.c0]
    refine (rdsync_spec hd3 hw3).mono ?_
    rintro _ w4 ⟨rfl, hd4, hf4⟩
    have hL4 := hL3.keep hf4 hX
    have hF4 := hF3.trans hf4 (fun _ _ e => e) (fun _ _ e => e)
    refine Jn_at (fun vs w5 => vs = [] ∧ RL w5 b0 lb db v (L.flush upto d).1 ∧ DkAt w5 db q (L.flush upto d).2.1 ∧ Fm (RFD lb db q) w w5) ?_ ?_
    · rintro _ w5 ⟨rfl, hL5, hd5, hf5⟩ _
      refine ⟨rfl, ?_, hL5, hd5, hf5⟩
      rw [hfl]
      cases hz : decide (e.sync.2 = 0) with
      | false => rfl
      | true =>
        rw [decide_eq_true_eq] at hz
        rw [hz]; rfl
    · intro kk hkk
      simp only [RS0, RS1, RS2, RS3, RS4, RS5, beq_dec]
      cases hz : decide (e.sync.2 = 0) with
      | false =>
        rw [hz, cond_false] at hfl
        rw [hfl] at hkk
        simp only [RS0, RS1, RS2, RS3, RS4, RS5]
        exact hkk _ _ ⟨rfl, hL4, hd4, hF4.mono (fun _ _ e => .inr e)⟩
      | true =>
        rw [hz, cond_true] at hfl
        rw [hfl] at hkk
        simp only [RS0, RS1, RS2, RS3, RS4, RS5]
        refine St_blk hL4.st (by show 6 < 9; decide) rfl ?_
        intro w5 hw5 hs5 hf5
        exact hkk _ _ ⟨rfl, ⟨h.wf.last, h.inc, hw5, own_keep hL4.row hf5 (fun y _ _ hy e => hL4.nv (by rw [hy, e]))⟩, hd4.keep hf5 (fun y hy e => hX y (.inl e) hy), (hF4.mono (fun _ _ e => .inr e)).trans hf5 (fun _ _ e => e) (fun _ _ e => .inl e)⟩
end

end Go.Proofs.YthbngnlmgplijaaGreatDoor

namespace Go.Proofs.YthbngnlmgplijaaGreatDoor
open Go.Al Go.Proofs
set_option linter.unusedVariables false
set_option linter.unusedSimpArgs false
set_option linter.unusedSectionVars false
set_option maxRecDepth 100000

theorem rdsize_spec {w : World} {b : Nat} {q : DkL} {d : Dk} (h : DkAt w b q d) (hw : d.Wf) : Cl Tryz.prog 124 [pv b] w fun v w' => v = iv (d.cur.length : Int) ∧ w' = w := by
  have hlo := hw.lo
  refine c124 ?_; unfold T124
  simp only [RS0, RS1, RS2, RS3, RS4, RS5, h.c0]
  rw [hlo]
  exact ⟨(by trivial), (by trivial)⟩
theorem rright_spec {w : World} {b : Nat} {q : DkL} {d : Dk} (h : DkAt w b q d) (hw : d.Wf) {frm n : Int} : Cl Tryz.prog 122 [pv b, iv frm, iv n] w fun v w' => v = .bool (fitsD d frm n) ∧ w' = w := by
  have hn := hw.n1
  refine c122 ?_; unfold T122
  unfold fitsD
  cases e1 : decide (4 ≤ n) with
  | false =>
    simp only [RS0, RS1, RS2, RS3, RS4, RS5, e1, Bool.false_and]
    exact ⟨(by trivial), (by trivial)⟩
  | true =>
  cases e2 : decide (0 ≤ frm) with
  | false =>
    simp only [RS0, RS1, RS2, RS3, RS4, RS5, e1, e2, Bool.false_and, Bool.and_false]
    exact ⟨(by trivial), (by trivial)⟩
  | true =>
  rw [decide_eq_true_eq] at e1 e2
  have e1' : decide (4 ≤ n) = true := by simpa using e1
  have e2' : decide (0 ≤ frm) = true := by simpa using e2
  cases e3 : decide (frm ≤ 1048576) with
  | false =>
    rw [decide_eq_false_iff_not] at e3
    have e3' : decide (frm ≤ 1048576) = false := by simpa using e3
    simp only [RS0, RS1, RS2, RS3, RS4, RS5, e1', e2', e3']
    refine ⟨?_, (by trivial)⟩
    congr 1
    symm
    simp only [Bool.true_and, Bool.and_eq_false_iff, decide_eq_false_iff_not]
    omega
  | true =>
  cases e4 : decide (n ≤ 1048576) with
  | false =>
    rw [decide_eq_false_iff_not] at e4
    have e4' : decide (n ≤ 1048576) = false := by simpa using e4
    simp only [RS0, RS1, RS2, RS3, RS4, RS5, e1', e2', e3, e4']
    refine ⟨?_, (by trivial)⟩
    congr 1
    symm
    simp only [Bool.true_and, Bool.and_eq_false_iff, decide_eq_false_iff_not]
    omega
  | true =>
  rw [decide_eq_true_eq] at e3 e4
  have e3' : decide (frm ≤ 1048576) = true := by simpa using e3
  have e4' : decide (n ≤ 1048576) = true := by simpa using e4
  have e5 : IntKind.i64.wrap (frm + n) = frm + n := by rw [wrap_id]; omega
  simp only [RS0, RS1, RS2, RS3, RS4, RS5, e1', e2', e3', e4', e5]
  refine (rdsize_spec h hw).mono ?_
  rintro _ w ⟨rfl, rfl⟩
  simp only [RS0, RS1, RS2, RS3, RS4, RS5, Bool.true_and]
  refine ⟨?_, (by trivial)⟩
  congr 1
  rw [← Bool.decide_and, decide_eq_decide]
  omega
theorem rl167 (db : Nat) (frm n a b c : Int) (w : World) : (Instr.build 167 #[(0, pv db), (1, iv frm), (2, iv n), (3, iv a), (5, iv b), (6, iv c)]).run Tryz.prog w = .ok (.agg #[pv db, iv frm, iv n, iv a, stv [], iv b, iv c, iv 0, .slice none 0 0]) w := by kernel_rfl
set_option maxHeartbeats 2000000 in
theorem rlformat_spec {w : World} {b : Nat} {q : DkL} {d : Dk} (h : DkAt w b q d) (hw : d.Wf) (frm n : Int) : Cl Tryz.prog 48 [pv b, iv frm, iv n] w fun v w' => ∃ p, v = .tuple #[p, iv (fmtE d frm n).2] ∧ DkAt w' b q (fmtE d frm n).1 ∧ Fm (q.mine b) w w' ∧
    ((fmtE d frm n).2 ≠ 0 → p = .pointer none) ∧ ((fmtE d frm n).2 = 0 → ∃ lb, p = pv lb ∧ RL w' w'.heap.size lb b (.slice none 0 0) (Lg.new frm.toNat n.toNat) ∧ w.heap.size ≤ lb) := by
  have hn := hw.n1
  have hlt := h.lt
  have up : ∀ {w1 : World}, Fm (fun _ => False) w w1 → Fm (q.mine b) w w1 := fun hf => hf.mono (fun _ _ e => e.elim)
  refine c48 ?_; unfold T48
  unfold fmtE
  refine (rright_spec h hw).mono ?_
  rintro _ w ⟨rfl, rfl⟩
  cases hfi : fitsD d frm n with
  | false =>
    simp only [RS0, RS1, RS2, RS3, RS4, RS5, cond_false, Bool.not_false]
    exact ⟨_, (by trivial), h, Fm.refl _ _, fun _ => rfl, fun e => absurd e (by decide)⟩
  | true =>
  have hfi' := hfi
  unfold fitsD at hfi'
  simp only [Bool.and_eq_true, decide_eq_true_eq] at hfi'
  obtain ⟨f1, f2, f3, f4⟩ := hfi'
  obtain ⟨j, rfl⟩ := Int.eq_ofNat_of_zero_le (show 0 ≤ n by omega)
  obtain ⟨i, rfl⟩ := Int.eq_ofNat_of_zero_le f2
  have e1 : IntKind.i64.wrap (64 * (j : Int)) = ((j * 64 : Nat) : Int) := by rw [wrap_id] <;> omega
  have e2 : ((j : Int) * 64).toNat = j * 64 := by omega
  rw [e2]
  simp only [RS0, RS1, RS2, RS3, RS4, RS5, e1, cond_true, Bool.not_true]
  refine RunS_ok (BRow.make B44 w (j * 64) (by omega)) ?_
  have hf1 := Fm.alloc (fun _ => False) w (.cells (bc (List.replicate (j * 64) 0)).toArray 5)
  have hb1 : BRow (w.alloc (.cells (bc (List.replicate (j * 64) 0)).toArray 5)) w.heap.size 5 (List.replicate (j * 64) 0) := alloc_new _ _
  generalize w.alloc (.cells (bc (List.replicate (j * 64) 0)).toArray 5) = w1 at hf1 hb1
  refine RunS_ok (hb1.conv B44 (o := 0) (n := j * 64) (by simp) _) ?_
  rw [show (((List.replicate (j * 64) 0).drop 0).take (j * 64) : Bs) = zeros (j * 64) from by rw [List.drop_zero, List.take_of_length_le (by simp)]; rfl]
  refine (rdwrite_spec (h.keep0 hf1) hw (i : Int) (zeros (j * 64)) (by rw [Lg.zeros_len']; omega)).mono ?_
  rintro _ w2 ⟨rfl, hd2, hf2⟩
  have hF2 := (up hf1).trans hf2 (fun _ _ e => e) (fun _ _ e => e)
  have hw2 : (d.write (i : Int) (zeros (j * 64))).1.Wf := Dk.Wf.write hw _ _
  generalize d.write (i : Int) (zeros (j * 64)) = e at hd2 hw2
  refine Jn_at (fun vs w5 => vs = [iv (bif decide (e.2 = 0) then e.1.sync else e).2] ∧ DkAt w5 b q (bif decide (e.2 = 0) then e.1.sync else e).1 ∧ Fm (q.mine b) w w5) ?_ ?_
  · rintro _ w5 ⟨rfl, hd5, hf5⟩ _
    generalize (bif decide (e.2 = 0) then e.1.sync else e) = s at hd5
    refine ⟨_, rfl, ?_⟩
    simp only [RS0, RS1, RS2, RS3, RS4, RS5, bne_dec]
    cases hz2 : decide (s.2 = 0) with
    | false =>
      rw [decide_eq_false_iff_not] at hz2
      simp only [RS0, RS1, RS2, RS3, RS4, RS5, Bool.not_false]
      exact ⟨_, (by trivial), hd5, hf5, fun _ => rfl, fun e => absurd e hz2⟩
    | true =>
      rw [decide_eq_true_eq] at hz2
      simp only [RS0, RS1, RS2, RS3, RS4, RS5, Bool.not_true]
      refine RunS_ok (rl167 b _ _ _ _ _ _) ?_
      refine New_any ?_
      intro lb w6 hlb hs6 hw6 hf6
      have z5 := hf5.size
      exact ⟨_, by rw [hz2], hd5.keep0 hf6, hf5.trans hf6 (fun _ _ e => e) (fun _ _ e => e.elim), fun e => absurd hz2 e, fun _ => ⟨lb, rfl, ⟨Lg.wf_new (by omega) (by omega), List.Pairwise.nil, hw6, World.ownsRow_nil _ _ _ _⟩, by omega⟩⟩
  · intro kk hkk
    simp only [RS0, RS1, RS2, RS3, RS4, RS5, beq_dec]
    cases hz : decide (e.2 = 0) with
    | false =>
      rw [hz] at hkk
      simp only [RS0, RS1, RS2, RS3, RS4, RS5]
      exact hkk _ _ ⟨rfl, hd2, hF2⟩
    | true =>
      rw [hz] at hkk
      simp only [RS0, RS1, RS2, RS3, RS4, RS5]
      refine (rdsync_spec hd2 hw2).mono ?_
      rintro _ w3 ⟨rfl, hd3, hf3⟩
      exact hkk _ _ ⟨rfl, hd3, hF2.trans hf3 (fun _ _ e => e) (fun _ _ e => e)⟩

end Go.Proofs.YthbngnlmgplijaaGreatDoor

namespace Go.Proofs.YthbngnlmgplijaaGreatDoor
open Go.Al Go.Proofs
set_option linter.unusedVariables false
set_option linter.unusedSimpArgs false
set_option linter.unusedSectionVars false
set_option maxRecDepth 100000

theorem neq96 (o1 o2 : Operand) (p q : Int × Int) (w : World) : (do eqGuard .neq 120 o1 o2 (.agg (pc2 p).toArray) (.agg (pc2 q).toArray); binOp .neq 120 (.agg (pc2 p).toArray) (.agg (pc2 q).toArray) : Sem Value).run Tryz.prog w = .ok (.bool (!decide (p = q))) w := by
  have hS : Tryz.prog.underlying 120 = some (.struct (Tryz.prog.fieldsOf 120)) := by kernel_rfl
  have hp : Tryz.prog.stoodInHeld 120 = false := by kernel_rfl
  have hm : Tryz.prog.eqGuardType Tryz.prog.depth 120 = false := by kernel_rfl
  have u3 := Tryz.underlying3
  rw [Sem.run_bind, run_eqGuard_agg w .neq 120 o1 o2 _ _ hm, Result.andThen_ok, run_neq_struct, show (10000 : Nat) = 9999 + 1 from rfl, run_equalIn_agg w 9999 120 _ _ hS hp]
  have a3 := Tryz.isAgg3
  have z3 := Tryz.sizeOf3
  simp only [Program.fieldsOf, Tryz.underlying120, pc2]
  obtain ⟨p1, p2⟩ := p
  obtain ⟨q1, q2⟩ := q
  simp only
  go_simp
  by_cases h1 : p1 = q1 <;> by_cases h2 : p2 = q2 <;> simp [h1, h2]

end Go.Proofs.YthbngnlmgplijaaGreatDoor

namespace Go.Proofs.YthbngnlmgplijaaGreatDoor
open Go.Al Go.Proofs
set_option linter.unusedVariables false
set_option linter.unusedSimpArgs false
set_option linter.unusedSectionVars false
set_option maxRecDepth 100000

theorem cells_sl {w : World} {v : Value} {n sz : Nat} {xs : List Value} (h : CellsAt w v n sz xs) : ∃ a n c, v = .slice a n c := by
  obtain ⟨⟨a, c, rfl, _⟩, _⟩ := h
  exact ⟨_, _, _, rfl⟩
end Go.Proofs.YthbngnlmgplijaaGreatDoor

namespace Go.Proofs.YthbngnlmgplijaaGreatDoor
open Go.Al Go.Proofs
set_option linter.unusedVariables false
set_option linter.unusedSimpArgs false
set_option linter.unusedSectionVars false
set_option maxRecDepth 100000

section
variable {w w1 w2 : World} {X P Q : Nat → Prop} {lb db mb g m : Nat} {M : List (Int × Array Value)} {L0 : Lg} {d : Dk} {av : Value} {all : Bs} {ov : Value} {C : List (Array Value)} {out : List Rc}
end
end Go.Proofs.YthbngnlmgplijaaGreatDoor

namespace Go.Proofs.YthbngnlmgplijaaGreatDoor
open Go.Al Go.Proofs
set_option linter.unusedVariables false
set_option linter.unusedSimpArgs false
set_option linter.unusedSectionVars false
set_option maxRecDepth 100000

end Go.Proofs.YthbngnlmgplijaaGreatDoor

namespace Go.Proofs.YthbngnlmgplijaaGreatDoor
open Go.Al Go.Proofs
set_option linter.unusedVariables false
set_option linter.unusedSimpArgs false
set_option linter.unusedSectionVars false
set_option maxRecDepth 100000

end Go.Proofs.YthbngnlmgplijaaGreatDoor

namespace Go.Proofs.YthbngnlmgplijaaGreatDoor
open Go.Al Go.Proofs
set_option linter.unusedVariables false
set_option linter.unusedSimpArgs false
set_option linter.unusedSectionVars false
set_option maxRecDepth 100000

theorem calm_mk0 {n : Nat} (h : n ≤ 65536) : Lg.Calm (Dk.mk0 n) := ⟨Dk.wf_mk0 h, rfl, rfl⟩
theorem mk0_len (n : Nat) : (Dk.mk0 n).cur.length = n := by simp [Dk.mk0]
theorem calm_fmt {d : Dk} (h : Lg.Calm d) {i j : Nat} (hj : 4 ≤ j) (hij : i + j ≤ d.cur.length) : (fmtE d (i : Int) (j : Int)).2 = 0 ∧ Lg.Calm (fmtE d (i : Int) (j : Int)).1 ∧ (fmtE d (i : Int) (j : Int)).1.cur.length = d.cur.length := by
  have hf : fitsD d (i : Int) (j : Int) = true := by
    unfold fitsD
    simp only [Bool.and_eq_true, decide_eq_true_eq]
    omega
  have e1 : ((j : Int) * 64).toNat = j * 64 := by omega
  unfold fmtE
  rw [hf, e1, cond_true]
  obtain ⟨h1, h2, h3⟩ := h.write (a := i) (s := zeros (j * 64)) (by rw [Lg.zeros_len']; omega) (by rw [Lg.zeros_len']; omega)
  obtain ⟨g1, g2, g3⟩ := h2.sync
  simp only [h1, decide_true, cond_true]
  exact ⟨g1, g2, by rw [g3, h3]⟩
/-! ### Two small records -/
theorem encI_small {n : Nat} (h : n ≤ 127) : encI n = [UInt8.ofNat n] := by rw [encI_nat, encN_small h]
end Go.Proofs.YthbngnlmgplijaaGreatDoor

namespace Go.Proofs.YthbngnlmgplijaaGreatDoor
open Go.Al Go.Proofs
set_option linter.unusedVariables false
set_option linter.unusedSimpArgs false
set_option linter.unusedSectionVars false
set_option maxRecDepth 100000

theorem bne_refl0 : ((0 : Int) != 0) = false := rfl

end Go.Proofs.YthbngnlmgplijaaGreatDoor

namespace Go.Proofs.YthbngnlmgplijaaGreatDoor
open Go.Al Go.Proofs
set_option linter.unusedVariables false
set_option maxRecDepth 100000
def vI : Vw Tryz.prog 3 Int := vInt .i64 Tryz.underlying3 (by kernel_rfl)
def vS : Vw Tryz.prog 9 Bs := vStr Tryz.underlying9 (by kernel_rfl)
def vSs : Vw Tryz.prog 59 (List Bs) := vSlice Tryz.underlying59 (by kernel_rfl) vS
abbrev PgT := Int × Int × Int × Int × Bs × List Bs × Unit
def vPage : Vw Tryz.prog 61 PgT := vStruct Tryz.underlying61 (fvCons rfl 1 (by kernel_rfl) vI (fvCons rfl 1 (by kernel_rfl) vI (fvCons rfl 1 (by kernel_rfl) vI (fvCons rfl 1 (by kernel_rfl) vI (fvCons rfl 1 (by kernel_rfl) vS (fvCons rfl 1 (by kernel_rfl) vSs fvNil)))))) (by kernel_rfl)
def pgOf (x : PgT) : Pg := ⟨x.1, x.2.1, x.2.2.1, x.2.2.2.1, x.2.2.2.2.1, x.2.2.2.2.2.1⟩
structure PgIn (w : World) (cs : Array Value) (p : Pg) : Prop where
  isA : PgAs w cs p
  many : p.items.length * 16 ≤ 140737488351232
  small : (∀ x ∈ p.items, x.length ≤ 140737488351232) ∧ p.high.length ≤ 140737488351232
theorem page_of {w : World} {cs : Array Value} {x : PgT} (h : vPage.rel w cs.toList x) : PgIn w cs (pgOf x) := by
  obtain ⟨lsn, kind, level, right, high, items, u⟩ := x
  obtain ⟨c0, r0, he, ⟨rfl, h0⟩, c1, r1, rfl, ⟨rfl, h1⟩, c2, r2, rfl, ⟨rfl, h2⟩, c3, r3, rfl, ⟨rfl, h3⟩, c4, r4, rfl, ⟨rfl, h4⟩, c5, r5, rfl, ⟨im, rfl, him⟩, h6⟩ := h
  cases h6
  simp only at h0 h1 h2 h3 h4 him
  have hc := him.cells (f := stv) (by kernel_rfl) (fun cs x hx => hx.1)
  have hsm := him.small
  rw [show Tryz.prog.bytesOf 9 = 16 by kernel_rfl] at hsm
  unfold reachBytes at hsm h4
  have hone : im.oneCell' = true := by obtain ⟨⟨a, cap, rfl, _⟩, _⟩ := him; rfl
  have hit : ∀ x ∈ items, x.length ≤ 140737488351232 := by
    intro x hx
    obtain ⟨i, hi⟩ := List.getElem?_of_mem hx
    obtain ⟨ad, cs', _, hr, _⟩ := him.at hi (c := 1) (by kernel_rfl) .i64
    have := hr.2
    unfold reachBytes at this
    omega
  have hcs : cs = pcs (pgOf (lsn, kind, level, right, high, items, u)) im := by
    apply Array.ext'
    rw [he]; rfl
  refine ⟨⟨⟨im, hcs, hone, hc⟩, fun x hx => by have := hit x hx; omega, i64_of_wf h0, i64_of_wf h1, i64_of_wf h2, i64_of_wf h3, by show high.length ≤ _; omega, by show items.length * 16 ≤ _; omega⟩, by show items.length * 16 ≤ _; omega, hit, by show high.length ≤ _; omega⟩
end Go.Proofs.YthbngnlmgplijaaGreatDoor

namespace Go.Proofs.YthbngnlmgplijaaGreatDoor
open Go.Al Go.Proofs
set_option linter.unusedVariables false
set_option linter.unusedSimpArgs false
set_option linter.unusedSectionVars false
set_option maxRecDepth 100000
end Go.Proofs.YthbngnlmgplijaaGreatDoor

namespace Go.Proofs.YthbngnlmgplijaaGreatDoor
open Go.Al Go.Proofs
set_option linter.unusedVariables false
set_option linter.unusedSimpArgs false
set_option linter.unusedSectionVars false
set_option maxRecDepth 100000

/-! ### Room -/
end Go.Proofs.YthbngnlmgplijaaGreatDoor

namespace Go.Proofs.YthbngnlmgplijaaGreatDoor
open Go.Al Go.Proofs
set_option linter.unusedVariables false
set_option linter.unusedSimpArgs false
set_option linter.unusedSectionVars false
set_option maxRecDepth 100000

end Go.Proofs.YthbngnlmgplijaaGreatDoor

namespace Go.Proofs.YthbngnlmgplijaaGreatDoor
open Go.Al Go.Proofs
set_option linter.unusedVariables false
set_option linter.unusedSimpArgs false
set_option linter.unusedSectionVars false
set_option maxRecDepth 100000

def modN (n : Nat) (a : Int) : Nat := ((a.tmod n + n).tmod n).toNat
theorem rem_i64 (d : TypeDesc) {a b : Int} (h0 : 0 < b) (h1 : b ≤ 9223372036854775807) : binV d .rem (iv a) (iv b) = some (iv (a.tmod b)) := by
  have h2 := Int.lt_tmod_of_pos a h0
  have h3 := Int.tmod_lt_of_pos a h0
  rw [binV_rem, if_neg (by omega)]
theorem modN_lt {n : Nat} (h : 1 ≤ n) (a : Int) : modN n a < n ∧ (a.tmod n + n).tmod n = (modN n a : Int) ∧ -(n : Int) < a.tmod n ∧ a.tmod n < n := by
  unfold modN
  have h0 : (0 : Int) < (n : Int) := by omega
  have h1 := Int.lt_tmod_of_pos a h0
  have h2 := Int.tmod_lt_of_pos a h0
  have h3 := Int.tmod_lt_of_pos (a.tmod n + n) h0
  have h4 : 0 ≤ (a.tmod n + n).tmod n := Int.tmod_nonneg _ (by omega)
  omega
theorem mod3 (d : TypeDesc) {n : Nat} (h : 1 ≤ n) (hn : n ≤ 4611686018427387904) (a : Int) : binV d .rem (iv a) (iv (n : Int)) = some (iv (a.tmod n)) ∧ IntKind.i64.wrap (a.tmod n + n) = a.tmod n + n ∧ binV d .rem (iv (a.tmod n + n)) (iv (n : Int)) = some (iv (modN n a : Int)) ∧ modN n a < n := by
  obtain ⟨h1, h2, h3, h4⟩ := modN_lt h a
  refine ⟨rem_i64 d (by omega) (by omega), by rw [wrap_id]; omega, ?_, h1⟩
  rw [rem_i64 d (by omega) (by omega), h2]
theorem z28 (w : World) : (zeroValue 28).run Tryz.prog w = .ok (.agg (rcs rc0 nl nl nl nl nl)) w := by kernel_rfl
/-! ### Giving up -/
theorem len_erase {γ : Type} {l : List γ} {i : Nat} {p : γ} (hi : l[i]? = some p) : (l.eraseIdx i).length + 1 = l.length := by
  have h := (List.getElem?_eq_some_iff.1 hi).1
  rw [List.length_eraseIdx, if_pos h]; omega
theorem nodup_erase {γ : Type} {l : List γ} (h : l.Nodup) (i : Nat) : (l.eraseIdx i).Nodup := h.sublist (List.eraseIdx_sublist _ _)
end Go.Proofs.YthbngnlmgplijaaGreatDoor

namespace Go.Proofs.YthbngnlmgplijaaGreatDoor
open Go.Al Go.Proofs
set_option linter.unusedVariables false
set_option linter.unusedSimpArgs false
set_option linter.unusedSectionVars false
set_option maxRecDepth 100000

structure Pf where
  pg : Pg
  num : Int
  chg : Bool
def pf0 : Pf := ⟨pg0, -1, false⟩
structure Pl where
  frm : Nat
  pages : Nat
  fr : List Pf
  owed : List (Int × Int)
structure PS where
  p : Pl
  l : Lg
  d : Dk

namespace Pl
def hold (p : Pl) (n : Int) : Option Nat := p.fr.findIdx? (fun f => decide (f.num = n))
def get (p : Pl) (i : Nat) : Pf := p.fr.getD i pf0
def stays (p : Pl) (n : Int) : Bool := match p.hold n with
  | some i => (p.get i).chg
  | none => false
def synced (p : Pl) : Pl := { p with owed := p.owed.filter (fun x => p.stays x.1) }
def known (p : Pl) (n : Int) : Int := bif decide (n < 0) || decide ((p.pages : Int) ≤ n) then 4 else 0
def lay (p : Pl) (i : Nat) (f : Pf) : Pl := { p with fr := p.fr.set i f }
end Pl
namespace PS
def putW (s : PS) (i : Nat) : Dk × Int := s.d.write ((s.p.frm : Int) + 8 * (s.p.get i).num) (pEnc (s.p.get i).pg).1
def put (s : PS) (i : Nat) : PS × Int :=
  bif decide ((pEnc (s.p.get i).pg).2 = 0) then
    (bif decide ((s.putW i).2 = 0) then (⟨s.p.lay i { s.p.get i with chg := false }, s.l, (s.putW i).1⟩, 0) else (⟨s.p, s.l, (s.putW i).1⟩, (s.putW i).2))
  else (s, (pEnc (s.p.get i).pg).2)
def flu (s : PS) (i : Nat) : Lg × Dk × Int := s.l.flush (s.p.get i).pg.lsn s.d
def write1 (s : PS) (i : Nat) : PS × Int :=
  bif decide ((s.l.last : Int) ≤ (s.p.get i).pg.lsn) then
    (bif decide ((s.flu i).2.2 = 0) then (PS.mk s.p.synced (s.flu i).1 (s.flu i).2.1).put i else (⟨s.p, (s.flu i).1, (s.flu i).2.1⟩, (s.flu i).2.2))
  else s.put i
def pickAt (n : Nat) (pick : Int) : Nat := modN n pick
def lay (s : PS) (i : Nat) (f : Pf) : PS := ⟨s.p.lay i f, s.l, s.d⟩
def take (s : PS) (pick : Int) : PS × Nat × Int := match s.p.hold (-1) with
  | some i => (s, i, 0)
  | none =>
    bif (s.p.get (pickAt s.p.fr.length pick)).chg then
      (bif decide ((s.write1 (pickAt s.p.fr.length pick)).2 = 0) then ((s.write1 (pickAt s.p.fr.length pick)).1.lay (pickAt s.p.fr.length pick) pf0, pickAt s.p.fr.length pick, 0)
       else ((s.write1 (pickAt s.p.fr.length pick)).1, 0, (s.write1 (pickAt s.p.fr.length pick)).2))
    else (s.lay (pickAt s.p.fr.length pick) pf0, pickAt s.p.fr.length pick, 0)
def raw (s : PS) (n : Int) : Bs × Int := s.d.read ((s.p.frm : Int) + 8 * n) 8
def fetch (s : PS) (n pick : Int) : PS × Pg × Int :=
  bif decide (s.p.known n = 0) then
    (match s.p.hold n with
    | some i => (s, (s.p.get i).pg, 0)
    | none =>
      bif decide ((s.raw n).2 = 0) then
        (bif decide ((pDec (s.raw n).1).2 = 0) then
          (bif decide ((s.take pick).2.2 = 0) then ((s.take pick).1.lay (s.take pick).2.1 ⟨(pDec (s.raw n).1).1, n, false⟩, (pDec (s.raw n).1).1, 0)
           else ((s.take pick).1, pg0, (s.take pick).2.2))
         else (s, pg0, 60))
      else (s, pg0, (s.raw n).2))
  else (s, pg0, s.p.known n)
def own (s : PS) (i : Nat) (n : Int) (b : Pg) : PS := ⟨{ s.p.lay i ⟨b, n, true⟩ with owed := bif (getD s.p.owed n).isNone then setD s.p.owed n b.lsn else s.p.owed }, s.l, s.d⟩
def set (s : PS) (n : Int) (b : Pg) (pick : Int) : PS × Int :=
  bif decide (s.p.known n = 0) then
    (bif decide ((pEnc b).2 = 0) then
      (bif decide (b.lsn < 1) then (s, 1) else
        (match s.p.hold n with
        | some i => (s.own i n b, 0)
        | none => bif decide ((s.take pick).2.2 = 0) then ((s.take pick).1.own (s.take pick).2.1 n b, 0) else ((s.take pick).1, (s.take pick).2.2)))
     else (s, (pEnc b).2))
  else (s, s.p.known n)
def write (s : PS) (n : Int) : PS × Int :=
  bif decide (s.p.known n = 0) then
    (match s.p.hold n with
    | some i => bif (s.p.get i).chg then s.write1 i else (s, 0)
    | none => (s, 0))
  else (s, s.p.known n)
end PS

/-! ### A disk's pages -/
def sec8 (d : Dk) (a : Nat) : Bs := ((d.cur.drop a).take 8).flatten
theorem take_ext {α : Type} {l m : List α} {a b k : Nat} (h : ∀ j, j < k → l[a + j]? = m[b + j]?) : (l.drop a).take k = (m.drop b).take k := by
  apply List.ext_getElem?
  intro i
  rw [List.getElem?_take, List.getElem?_take, List.getElem?_drop, List.getElem?_drop]
  by_cases hi : i < k
  · rw [if_pos hi, if_pos hi, h i hi]
  · rw [if_neg hi, if_neg hi]
theorem sec8_eq {d d' : Dk} {a : Nat} (h : ∀ j, j < 8 → d'.cur[a + j]? = d.cur[a + j]?) : sec8 d' a = sec8 d a := by unfold sec8; rw [take_ext h]
theorem chunks_flat : ∀ (k : Nat) (s : Bs), s.length = 64 * k → (Dk.chunks k s).flatten = s
  | 0, s, h => by
    have : s = [] := List.eq_nil_of_length_eq_zero (by omega)
    rw [this]; rfl
  | k + 1, s, h => by
    rw [Dk.chunks, List.flatten_cons, chunks_flat k (s.drop 64) (by rw [List.length_drop]; omega), List.take_append_drop]
theorem wr_calm : ∀ (l : List Bs) {d : Dk} (i : Nat), Lg.Calm d → (∀ x ∈ l, x.length = 64) → i + l.length ≤ d.cur.length →
    (∀ j, (d.wr i l).1.cur[j]? = if i ≤ j ∧ j < i + l.length then l[j - i]? else d.cur[j]?) ∧ (∀ j, Dk.isC (d.wr i l).1.chg j = if i ≤ j ∧ j < i + l.length then true else Dk.isC d.chg j)
  | [], d, i, h, _, _ => by
    refine ⟨fun j => ?_, fun j => ?_⟩
    · rw [if_neg (by rw [List.length_nil]; omega)]; rfl
    · rw [if_neg (by rw [List.length_nil]; omega)]; rfl
  | x :: l, d, i, h, hl, hi => by
    have hp : Lg.Calm (d.put i x) := ⟨h.wf.put i (hl x (by simp)), h.ar, h.on⟩
    have ht := hp.tick
    have hc : Lg.Calm (d.put i x).tick := ⟨hp.wf.tick, by rw [ht]; exact hp.ar, by rw [ht]; exact hp.on⟩
    rw [List.length_cons] at hi
    have hlen : (d.put i x).tick.cur.length = d.cur.length := by rw [(Dk.tick_cur _).1]; simp [Dk.put]
    obtain ⟨h1, h2⟩ := wr_calm l (i + 1) hc (fun y hy => hl y (by simp [hy])) (by rw [hlen]; omega)
    have e : d.wr i (x :: l) = (d.put i x).tick.wr (i + 1) l := by rw [Dk.wr]; simp only [hc.on, cond_false]
    have hlc := h.wf.lc
    rw [e, List.length_cons]
    refine ⟨fun j => ?_, fun j => ?_⟩
    · rw [h1]
      by_cases hj : j = i
      · subst hj
        rw [if_neg (by omega), if_pos (by omega), (Dk.tick_cur _).1, Nat.sub_self]
        simp only [Dk.put, List.getElem?_set, if_true, List.getElem?_cons_zero]
        rw [if_pos (by omega)]
      · by_cases hr : i ≤ j ∧ j < i + (l.length + 1)
        · rw [if_pos (by omega), if_pos hr, show j - i = (j - (i + 1)) + 1 from by omega, List.getElem?_cons_succ]
        · rw [if_neg (by omega), if_neg hr, (Dk.tick_cur _).1]
          simp only [Dk.put]
          rw [List.getElem?_set_ne (by omega)]
    · rw [h2]
      by_cases hj : j = i
      · subst hj
        rw [if_neg (by omega), if_pos (by omega), (Dk.tick_cur _).2.2]
        simp only [Dk.put]
        rw [Dk.isC_set _ _ _ (by omega), if_pos rfl]
      · by_cases hr : i ≤ j ∧ j < i + (l.length + 1)
        · rw [if_pos (by omega), if_pos hr]
        · rw [if_neg (by omega), if_neg hr, (Dk.tick_cur _).2.2]
          simp only [Dk.put]
          rw [Dk.isC_set _ _ _ (by omega), if_neg (fun e => hj e.symm)]
theorem write_calm {d : Dk} (h : Lg.Calm d) {a k : Nat} {s : Bs} (hs : s.length = 64 * k) (ha : a + k ≤ d.cur.length) :
    (∀ j, (d.write (a : Int) s).1.cur[j]? = if a ≤ j ∧ j < a + k then (Dk.chunks k s)[j - a]? else d.cur[j]?) ∧ (∀ j, Dk.isC (d.write (a : Int) s).1.chg j = if a ≤ j ∧ j < a + k then true else Dk.isC d.chg j) := by
  have hk : s.length / 64 = k := by omega
  have e : d.write (a : Int) s = d.wr a (Dk.chunks k s) := by
    unfold Dk.write
    have h1 : d.has (a : Int) ((s.length / 64 : Nat) : Int) = true := by unfold Dk.has; rw [decide_eq_true_eq]; omega
    rw [h.on, h1, hk]
    simp [hs]
  have h2 := wr_calm (Dk.chunks k s) a h (Dk.chunks_64 (by omega)) (by rw [Dk.chunks_len]; exact ha)
  rw [Dk.chunks_len] at h2
  rw [e]; exact h2
theorem page_put {d : Dk} (h : Lg.Calm d) {a : Nat} {s : Bs} (hs : s.length = 512) (ha : a + 8 ≤ d.cur.length) :
    (d.write (a : Int) s).2 = 0 ∧ Lg.Calm (d.write (a : Int) s).1 ∧ (d.write (a : Int) s).1.cur.length = d.cur.length ∧ sec8 (d.write (a : Int) s).1 a = s ∧
    (∀ b, b + 8 ≤ a ∨ a + 8 ≤ b → sec8 (d.write (a : Int) s).1 b = sec8 d b ∧ ∀ j, j < 8 → Dk.isC (d.write (a : Int) s).1.chg (b + j) = Dk.isC d.chg (b + j)) := by
  obtain ⟨h1, h2, h3⟩ := h.write (a := a) (s := s) (by omega) (by omega)
  obtain ⟨g1, g2⟩ := write_calm h (a := a) (k := 8) (s := s) (by omega) ha
  refine ⟨h1, h2, h3, ?_, fun b hb => ⟨sec8_eq (fun j hj => ?_), fun j hj => ?_⟩⟩
  · have e : ((d.write (a : Int) s).1.cur.drop a).take 8 = ((Dk.chunks 8 s).drop 0).take 8 := take_ext (fun j hj => by rw [g1, if_pos (by omega), Nat.zero_add, Nat.add_sub_cancel_left])
    unfold sec8
    rw [e, List.drop_zero, List.take_of_length_le (by rw [Dk.chunks_len]; exact Nat.le_refl _), chunks_flat 8 s (by omega)]
  · rw [g1, if_neg (by omega)]
  · rw [g2, if_neg (by omega)]
theorem read_calm {d : Dk} (h : Lg.Calm d) {a : Nat} (ha : a + 8 ≤ d.cur.length) : d.read (a : Int) 8 = (sec8 d a, 0) := by
  have h1 : d.has (a : Int) 8 = true := by unfold Dk.has; rw [decide_eq_true_eq]; omega
  unfold Dk.read
  rw [h.on, h1]; rfl
theorem flushGo_calm {L : Lg} (hn : 0 < L.n) : ∀ (f k : Nat) {d : Dk}, Lg.Calm d → L.frm + L.n ≤ d.cur.length → ∀ j, L.frm + L.n ≤ j → (L.flushGo f k d).1.cur[j]? = d.cur[j]?
  | 0, k, d, h, _ => fun j _ => rfl
  | f + 1, k, d, h, hl => by
    intro j hj
    rw [Lg.flushGo]
    cases decide (k * 54 + 1 < L.tail) with
    | false => rfl
    | true =>
      have hm := Nat.mod_lt k hn
      have h64 := Lg.seal_len (Lg.bytes_len L k) k
      obtain ⟨h1, h2, h3⟩ := h.write (a := L.frm + k % L.n) (s := sealB k (L.bytes k)) (by rw [h64]) (by rw [h64]; omega)
      have hput : L.put k d = d.write ((L.frm + k % L.n : Nat) : Int) (sealB k (L.bytes k)) := rfl
      simp only [hput, h1, decide_true, cond_true]
      rw [flushGo_calm hn f (k + 1) h2 (by rw [h3]; exact hl) j hj, (write_calm h (k := 1) (by rw [h64]) (by omega)).1, if_neg (by omega)]
theorem flush_calm {L : Lg} (hL : L.Wf) {d : Dk} (h : Lg.Calm d) (hl : L.frm + L.n ≤ d.cur.length) {u : Int} (h1 : (L.last : Int) ≤ u) (h2 : L.last < L.tail) :
    (L.flush u d).2.2 = 0 ∧ (L.flush u d).1 = { L with last := L.tail } ∧ Lg.Calm (L.flush u d).2.1 ∧ (L.flush u d).2.1.cur.length = d.cur.length ∧ (∀ j, L.frm + L.n ≤ j → (L.flush u d).2.1.cur[j]? = d.cur[j]?) ∧ ∀ j, Dk.isC (L.flush u d).2.1.chg j = false := by
  have hn : 0 < L.n := by have := hL.n4; omega
  obtain ⟨g1, g2, g3⟩ := Lg.Calm.flushGo (L := L) hn (L.kept.length + 1) ((L.last - 1) / 54) h hl
  have g4 := flushGo_calm (L := L) hn (L.kept.length + 1) ((L.last - 1) / 54) h hl
  obtain ⟨k1, k2, k3⟩ := g2.sync
  obtain ⟨q1, q2, q3, q4, q5⟩ := Dk.sync_calm g2.ar g2.on
  have hc : (decide (u < (L.last : Int)) || decide (L.last = L.tail)) = false := by
    rw [Bool.or_eq_false_iff, decide_eq_false_iff_not, decide_eq_false_iff_not]; omega
  have e : L.flushE d = L.flushGo (L.kept.length + 1) ((L.last - 1) / 54) d := rfl
  have hE : L.flush u d = ({ L with last := L.tail }, (L.flushE d).1.sync.1, 0) := by
    unfold Lg.flush
    rw [hc, e]
    simp only [g1, k1, decide_true, cond_true, cond_false]
  rw [hE, e]
  refine ⟨rfl, rfl, k2, by rw [k3, g3], fun j hj => ?_, fun j => ?_⟩
  · show (L.flushGo _ _ d).1.sync.1.cur[j]? = _
    rw [q2, g4 j hj]
  · show Dk.isC (L.flushGo _ _ d).1.sync.1.chg j = false
    have : (L.flushGo (L.kept.length + 1) ((L.last - 1) / 54) d).1.sync.1.chg = List.replicate (L.flushGo (L.kept.length + 1) ((L.last - 1) / 54) d).1.tick.cur.length false := by
      unfold Dk.sync
      rw [g2.on]
      simp only [cond_false, g2.tick]
      rw [show ({ (L.flushGo (L.kept.length + 1) ((L.last - 1) / 54) d).1 with done := IntKind.i64.wrap ((L.flushGo (L.kept.length + 1) ((L.last - 1) / 54) d).1.done + 1) } : Dk).gone = false from g2.on]
      rfl
    rw [this]; exact Dk.isC_rep _ _

end Go.Proofs.YthbngnlmgplijaaGreatDoor

namespace Go.Proofs.YthbngnlmgplijaaGreatDoor
open Go.Al Go.Proofs
set_option linter.unusedVariables false
set_option linter.unusedSimpArgs false
set_option linter.unusedSectionVars false
set_option maxRecDepth 100000

theorem getD_filterK {α β : Type} [DecidableEq α] (q : α → Bool) (D : List (α × β)) (a : α) : getD (D.filter (fun x => q x.1)) a = bif q a then getD D a else none := by
  induction D with
  | nil => cases q a <;> rfl
  | cons p D ih =>
    rw [List.filter_cons]
    by_cases hp : q p.1 = true
    · rw [if_pos hp, getD_cons, getD_cons, ih]
      by_cases e : p.1 = a
      · rw [if_pos e, if_pos e, ← e, hp]; rfl
      · rw [if_neg e, if_neg e]
    · rw [if_neg hp, ih, getD_cons]
      by_cases e : p.1 = a
      · have : q a = false := by rw [← e]; simpa using hp
        rw [this]; rfl
      · rw [if_neg e]
namespace Pl
theorem get_of {p : Pl} {i : Nat} {f : Pf} (h : p.fr[i]? = some f) : p.get i = f := by unfold get; rw [List.getD_eq_getElem?_getD, h]; rfl
theorem hold_some {p : Pl} {n : Int} {i : Nat} (h : p.hold n = some i) : ∃ f, p.fr[i]? = some f ∧ f.num = n := by
  unfold hold at h
  rw [List.findIdx?_eq_some_iff_getElem] at h
  obtain ⟨hi, h1, _⟩ := h
  exact ⟨p.fr[i], List.getElem?_eq_getElem hi, by simpa using h1⟩
theorem hold_none {p : Pl} {n : Int} (h : p.hold n = none) : ∀ (i : Nat) (f : Pf), p.fr[i]? = some f → f.num ≠ n := by
  unfold hold at h
  rw [List.findIdx?_eq_none_iff] at h
  intro i f hi
  have := h f (List.mem_of_getElem? hi)
  simpa using this
theorem lay_cases {p : Pl} {i j : Nat} {f g : Pf} (h : (p.lay i f).fr[j]? = some g) : (j = i ∧ g = f) ∨ (j ≠ i ∧ p.fr[j]? = some g) := by
  unfold lay at h
  simp only [List.getElem?_set] at h
  by_cases e : i = j
  · rw [if_pos e] at h
    by_cases hl : i < p.fr.length
    · rw [if_pos hl] at h; cases h; exact .inl ⟨e.symm, rfl⟩
    · rw [if_neg hl] at h; cases h
  · rw [if_neg e] at h
    exact .inr ⟨fun x => e x.symm, h⟩
theorem lay_ne {p : Pl} {i j : Nat} {f : Pf} (h : j ≠ i) : (p.lay i f).fr[j]? = p.fr[j]? := by
  unfold lay
  simp only
  rw [List.getElem?_set_ne (fun e => h e.symm)]
theorem lay_at {p : Pl} {i : Nat} {f g : Pf} (h : p.fr[i]? = some g) : (p.lay i f).fr[i]? = some f := by
  have hl := (List.getElem?_eq_some_iff.1 h).1
  unfold lay
  simp only [List.getElem?_set]
  rw [if_pos trivial, if_pos hl]
theorem lay_len (p : Pl) (i : Nat) (f : Pf) : (p.lay i f).fr.length = p.fr.length := by unfold lay; simp
end Pl

def page (s : PS) (n : Nat) : Pg × Int := pDec (sec8 s.d (s.p.frm + 8 * n))
structure PGood (s : PS) (lst : Nat → Option Pg) : Prop where
  wl : s.l.Wf
  calm : Lg.Calm s.d
  lay : s.l.frm + s.l.n ≤ s.p.frm ∧ s.p.frm + 8 * s.p.pages ≤ s.d.cur.length
  f1 : 1 ≤ s.p.fr.length
  nums : ∀ (i : Nat) (f : Pf), s.p.fr[i]? = some f → f.num = -1 ∨ ∃ n : Nat, f.num = (n : Int) ∧ n < s.p.pages
  one : ∀ (i j : Nat) (f g : Pf) (n : Nat), s.p.fr[i]? = some f → s.p.fr[j]? = some g → f.num = (n : Int) → g.num = (n : Int) → i = j
  held : ∀ (i : Nat) (f : Pf) (n : Nat), s.p.fr[i]? = some f → f.num = (n : Int) → lst n = some f.pg
  ok : ∀ n b, lst n = some b → pErr b = 0 ∧ 1 ≤ b.lsn ∧ b.lsn < (s.l.tail : Int)
  dirty : ∀ (i : Nat) (f : Pf) (n : Nat), s.p.fr[i]? = some f → f.num = (n : Int) → f.chg = true → getD s.p.owed (n : Int) ≠ none
  free : ∀ n, n < s.p.pages → (∀ (i : Nat) (f : Pf), s.p.fr[i]? = some f → f.num = (n : Int) → f.chg = false) → (∀ b, lst n = some b → page s n = (b, 0)) ∧ (lst n = none → (page s n).2 ≠ 0)
  safe : ∀ n, n < s.p.pages → (page s n).2 = 0 → (page s n).1.lsn < (s.l.last : Int)
  syn : ∀ n, n < s.p.pages → getD s.p.owed (n : Int) = none → ∀ j, j < 8 → Dk.isC s.d.chg (s.p.frm + 8 * n + j) = false
structure Sam (s s' : PS) : Prop where
  frm : s'.p.frm = s.p.frm
  pages : s'.p.pages = s.p.pages
  len : s'.p.fr.length = s.p.fr.length
  cur : s'.d.cur.length = s.d.cur.length
  log : ∃ k, s'.l = { s.l with last := k }
theorem Sam.refl (s : PS) : Sam s s := ⟨rfl, rfl, rfl, rfl, s.l.last, rfl⟩
theorem Sam.trans {a b c : PS} (h : Sam a b) (k : Sam b c) : Sam a c := by
  obtain ⟨x, hx⟩ := h.log
  obtain ⟨y, hy⟩ := k.log
  exact ⟨k.frm.trans h.frm, k.pages.trans h.pages, k.len.trans h.len, k.cur.trans h.cur, y, by rw [hy, hx]⟩
theorem Sam.tail {a b : PS} (h : Sam a b) : b.l.tail = a.l.tail := by
  obtain ⟨x, hx⟩ := h.log
  rw [hx]; rfl
theorem Sam.lay (s : PS) (i : Nat) (f : Pf) : Sam s (s.lay i f) := ⟨rfl, rfl, Pl.lay_len _ _ _, rfl, s.l.last, rfl⟩
section
variable {s : PS} {lst : Nat → Option Pg}
theorem pf0_num (n : Nat) : pf0.num ≠ (n : Int) := by show (-1 : Int) ≠ n; omega
theorem PGood.drop (h : PGood s lst) {i : Nat} {f : Pf} (hf : s.p.fr[i]? = some f) (hc : f.chg = false) : PGood (s.lay i pf0) lst where
  wl := h.wl
  calm := h.calm
  lay := h.lay
  f1 := by show 1 ≤ (s.p.lay i pf0).fr.length; rw [Pl.lay_len]; exact h.f1
  nums := fun j g hj => by
    rcases Pl.lay_cases hj with ⟨_, rfl⟩ | ⟨_, hj⟩
    · exact .inl rfl
    · exact h.nums j g hj
  one := fun j k g g' n hj hk e1 e2 => by
    rcases Pl.lay_cases hj with ⟨_, rfl⟩ | ⟨_, hj⟩
    · exact absurd e1 (pf0_num n)
    rcases Pl.lay_cases hk with ⟨_, rfl⟩ | ⟨_, hk⟩
    · exact absurd e2 (pf0_num n)
    exact h.one j k g g' n hj hk e1 e2
  held := fun j g n hj e => by
    rcases Pl.lay_cases hj with ⟨_, rfl⟩ | ⟨_, hj⟩
    · exact absurd e (pf0_num n)
    exact h.held j g n hj e
  ok := h.ok
  dirty := fun j g n hj e ec => by
    rcases Pl.lay_cases hj with ⟨_, rfl⟩ | ⟨_, hj⟩
    · exact absurd e (pf0_num n)
    exact h.dirty j g n hj e ec
  free := fun n hn ha => h.free n hn (fun j g hj e => by
    by_cases hji : j = i
    · subst hji
      rw [hf] at hj; cases hj; exact hc
    · exact ha j g (by show (s.p.lay i pf0).fr[j]? = _; rw [Pl.lay_ne hji]; exact hj) e)
  safe := h.safe
  syn := h.syn
theorem PGood.fill (h : PGood s lst) {i n : Nat} {g : Pf} (hg : s.p.fr[i]? = some g) (hgn : g.num = -1) (hno : ∀ (j : Nat) (f : Pf), s.p.fr[j]? = some f → f.num ≠ (n : Int)) (hn : n < s.p.pages) {b : Pg} (hb : lst n = some b) : PGood (s.lay i ⟨b, n, false⟩) lst where
  wl := h.wl
  calm := h.calm
  lay := h.lay
  f1 := by show 1 ≤ (s.p.lay i _).fr.length; rw [Pl.lay_len]; exact h.f1
  nums := fun j f hj => by
    rcases Pl.lay_cases hj with ⟨_, rfl⟩ | ⟨_, hj⟩
    · exact .inr ⟨n, rfl, hn⟩
    · exact h.nums j f hj
  one := fun j k f f' m hj hk e1 e2 => by
    rcases Pl.lay_cases hj with ⟨ej, rfl⟩ | ⟨_, hj⟩ <;> rcases Pl.lay_cases hk with ⟨ek, rfl⟩ | ⟨_, hk⟩
    · rw [ej, ek]
    · exact absurd (e2.trans e1.symm) (hno k f' hk)
    · exact absurd (e1.trans e2.symm) (hno j f hj)
    · exact h.one j k f f' m hj hk e1 e2
  held := fun j f m hj e => by
    rcases Pl.lay_cases hj with ⟨_, rfl⟩ | ⟨_, hj⟩
    · have : n = m := by have : (n : Int) = m := e; omega
      rw [← this]; exact hb
    · exact h.held j f m hj e
  ok := h.ok
  dirty := fun j f m hj e ec => by
    rcases Pl.lay_cases hj with ⟨_, rfl⟩ | ⟨_, hj⟩
    · cases ec
    exact h.dirty j f m hj e ec
  free := fun m hm ha => h.free m hm (fun j f hj e => by
    by_cases hji : j = i
    · subst hji
      rw [hg] at hj; cases hj
      omega
    · exact ha j f (by show (s.p.lay i _).fr[j]? = _; rw [Pl.lay_ne hji]; exact hj) e)
  safe := h.safe
  syn := h.syn
def upd (lst : Nat → Option Pg) (n : Nat) (b : Pg) : Nat → Option Pg := fun m => if m = n then some b else lst m
theorem PGood.own (h : PGood s lst) {i n : Nat} {g : Pf} (hg : s.p.fr[i]? = some g) (hno : g.num = (n : Int) ∨ (g.num = -1 ∧ ∀ (j : Nat) (f : Pf), s.p.fr[j]? = some f → f.num ≠ (n : Int))) (hn : n < s.p.pages) {b : Pg} (hb : pErr b = 0 ∧ 1 ≤ b.lsn ∧ b.lsn < (s.l.tail : Int)) : PGood (s.own i n b) (upd lst n b) := by
  have hoth : ∀ (j : Nat) (f : Pf), j ≠ i → s.p.fr[j]? = some f → f.num ≠ (n : Int) := fun j f hji hj e => by
    rcases hno with h1 | ⟨_, h1⟩
    · exact hji (h.one j i f g n hj hg e h1)
    · exact h1 j f hj e
  have howed : ∀ m : Nat, getD (s.own i n b).p.owed (m : Int) = none → m ≠ n ∧ getD s.p.owed (m : Int) = none := by
    intro m hm
    have e : (s.own i n b).p.owed = bif (getD s.p.owed (n : Int)).isNone then setD s.p.owed n b.lsn else s.p.owed := rfl
    rw [e] at hm
    cases hq : getD s.p.owed (n : Int) with
    | none =>
      rw [hq] at hm
      simp only [Option.isNone_none, cond_true, getD_setD] at hm
      by_cases e2 : (m : Int) = n
      · rw [if_pos e2] at hm; cases hm
      · rw [if_neg e2] at hm
        exact ⟨fun e3 => e2 (by rw [e3]), hm⟩
    | some v =>
      rw [hq] at hm
      simp only [Option.isNone_some, cond_false] at hm
      refine ⟨?_, hm⟩
      rintro rfl
      rw [hq] at hm; cases hm
  refine ⟨h.wl, h.calm, h.lay, ?_, ?_, ?_, ?_, ?_, ?_, ?_, h.safe, ?_⟩
  · show 1 ≤ (s.p.lay i _).fr.length; rw [Pl.lay_len]; exact h.f1
  · intro j f hj
    rcases Pl.lay_cases (p := s.p) hj with ⟨_, rfl⟩ | ⟨_, hj⟩
    · exact .inr ⟨n, rfl, hn⟩
    · exact h.nums j f hj
  · intro j k f f' m hj hk e1 e2
    rcases Pl.lay_cases (p := s.p) hj with ⟨ej, rfl⟩ | ⟨hji, hj⟩ <;> rcases Pl.lay_cases (p := s.p) hk with ⟨ek, rfl⟩ | ⟨hki, hk⟩
    · rw [ej, ek]
    · exact absurd (e2.trans e1.symm) (hoth k f' hki hk)
    · exact absurd (e1.trans e2.symm) (hoth j f hji hj)
    · exact h.one j k f f' m hj hk e1 e2
  · intro j f m hj e
    rcases Pl.lay_cases (p := s.p) hj with ⟨_, rfl⟩ | ⟨hji, hj'⟩
    · have : m = n := by have : (n : Int) = m := e; omega
      unfold upd; rw [if_pos this]
    · have : m ≠ n := by rintro rfl; exact hoth j f hji hj' e
      unfold upd; rw [if_neg this]; exact h.held j f m hj' e
  · intro m c hc
    unfold upd at hc
    by_cases e : m = n
    · rw [if_pos e] at hc; cases hc; exact hb
    · rw [if_neg e] at hc; exact h.ok m c hc
  · intro j f m hj e ec hm
    obtain ⟨hmn, hm⟩ := howed m hm
    rcases Pl.lay_cases (p := s.p) hj with ⟨_, rfl⟩ | ⟨hji, hj⟩
    · exact hmn (by have : (n : Int) = m := e; omega)
    · exact h.dirty j f m hj e ec hm
  · intro m hm ha
    have hmn : m ≠ n := by
      rintro rfl
      have := ha i ⟨b, (m : Int), true⟩ (Pl.lay_at (p := s.p) hg) rfl
      cases this
    have := h.free m hm (fun j f hj e => by
      by_cases hji : j = i
      · subst hji
        rw [hg] at hj; cases hj
        rcases hno with h1 | ⟨h1, _⟩ <;> omega
      · exact ha j f (by show (s.p.lay i _).fr[j]? = _; rw [Pl.lay_ne hji]; exact hj) e)
    unfold upd; rw [if_neg hmn]; exact this
  · intro m hm ho
    exact h.syn m hm (howed m ho).2
theorem PGood.settle (h : PGood s lst) {d' : Dk} {k : Nat} (hc : Lg.Calm d') (hl : d'.cur.length = s.d.cur.length) (hcur : ∀ j, s.l.frm + s.l.n ≤ j → d'.cur[j]? = s.d.cur[j]?) (hchg : ∀ j, Dk.isC d'.chg j = false) (hk : s.l.last ≤ k) (hw : ({ s.l with last := k } : Lg).Wf) : PGood ⟨s.p.synced, { s.l with last := k }, d'⟩ lst := by
  have hpage : ∀ n, page ⟨s.p.synced, { s.l with last := k }, d'⟩ n = page s n := by
    intro n
    have := h.lay.1
    unfold page
    rw [show (PS.mk s.p.synced { s.l with last := k } d').p.frm = s.p.frm from rfl]
    rw [show sec8 (PS.mk s.p.synced { s.l with last := k } d').d (s.p.frm + 8 * n) = sec8 s.d (s.p.frm + 8 * n) from sec8_eq (fun j hj => hcur _ (by omega))]
  refine ⟨hw, hc, ⟨h.lay.1, ?_⟩, h.f1, h.nums, h.one, h.held, h.ok, ?_, ?_, ?_, fun n _ _ j _ => hchg _⟩
  · show s.p.frm + 8 * s.p.pages ≤ d'.cur.length
    rw [hl]; exact h.lay.2
  · intro i f n hi e ec
    have hi : s.p.fr[i]? = some f := hi
    show getD (s.p.owed.filter (fun x => s.p.stays x.1)) (n : Int) ≠ none
    have hst : s.p.stays (n : Int) = true := by
      unfold Pl.stays
      cases hh : s.p.hold (n : Int) with
      | none => exact absurd e (Pl.hold_none hh i f hi)
      | some j =>
        obtain ⟨g, hj, ge⟩ := Pl.hold_some hh
        have := h.one i j f g n hi hj e ge
        subst this
        show (s.p.get i).chg = true
        rw [Pl.get_of hi]; exact ec
    rw [getD_filterK, hst, cond_true]
    exact h.dirty i f n hi e ec
  · intro n hn ha
    rw [hpage]; exact h.free n hn ha
  · intro n hn hp
    rw [hpage] at hp ⊢
    have := h.safe n hn hp
    show _ < (k : Int)
    omega
theorem PGood.put (h : PGood s lst) {i n : Nat} {f : Pf} (hf : s.p.fr[i]? = some f) (hn : f.num = (n : Int)) (hc : f.chg = true) (hl : f.pg.lsn < (s.l.last : Int)) : (s.put i).2 = 0 ∧ PGood (s.put i).1 lst ∧ Sam s (s.put i).1 ∧ (s.put i).1.p = s.p.lay i { f with chg := false } := by
  have hg : s.p.get i = f := Pl.get_of hf
  have hlst := h.held i f n hf hn
  obtain ⟨hok1, hok2, hok3⟩ := h.ok n _ hlst
  have hnp : n < s.p.pages := by
    rcases h.nums i f hf with e | ⟨m, e, hm⟩
    · omega
    · have : n = m := by omega
      rw [this]; exact hm
  have hen := pEnc_ok hok1
  have hlen := pEnc_len hok1
  have hlay := h.lay
  obtain ⟨p1, p2, p3, p4, p5⟩ := page_put h.calm (a := s.p.frm + 8 * n) (s := (pEnc f.pg).1) hlen (by omega)
  have hput : s.putW i = s.d.write ((s.p.frm + 8 * n : Nat) : Int) (pEnc f.pg).1 := by
    unfold PS.putW
    rw [hg, hn, show ((s.p.frm + 8 * n : Nat) : Int) = (s.p.frm : Int) + 8 * (n : Int) from by omega]
  have hE : s.put i = (⟨s.p.lay i { f with chg := false }, s.l, (s.d.write ((s.p.frm + 8 * n : Nat) : Int) (pEnc f.pg).1).1⟩, 0) := by
    unfold PS.put
    rw [hput, p1, hg, show (pEnc f.pg).2 = 0 from by rw [hen]]
    rfl
  have hlow := h.wl.low
  have hpn : page ⟨s.p.lay i { f with chg := false }, s.l, (s.d.write ((s.p.frm + 8 * n : Nat) : Int) (pEnc f.pg).1).1⟩ n = (f.pg, 0) := by
    unfold page
    rw [show (PS.mk (s.p.lay i { f with chg := false }) s.l (s.d.write ((s.p.frm + 8 * n : Nat) : Int) (pEnc f.pg).1).1).p.frm = s.p.frm from rfl]
    rw [show sec8 (PS.mk (s.p.lay i { f with chg := false }) s.l (s.d.write ((s.p.frm + 8 * n : Nat) : Int) (pEnc f.pg).1).1).d (s.p.frm + 8 * n) = (pEnc f.pg).1 from p4]
    exact dec_enc hok1 (by omega)
  have hpm : ∀ m, m ≠ n → page ⟨s.p.lay i { f with chg := false }, s.l, (s.d.write ((s.p.frm + 8 * n : Nat) : Int) (pEnc f.pg).1).1⟩ m = page s m := by
    intro m hm
    unfold page
    rw [show (PS.mk (s.p.lay i { f with chg := false }) s.l (s.d.write ((s.p.frm + 8 * n : Nat) : Int) (pEnc f.pg).1).1).p.frm = s.p.frm from rfl]
    rw [show sec8 (PS.mk (s.p.lay i { f with chg := false }) s.l (s.d.write ((s.p.frm + 8 * n : Nat) : Int) (pEnc f.pg).1).1).d (s.p.frm + 8 * m) = sec8 s.d (s.p.frm + 8 * m) from (p5 _ (by omega)).1]
  rw [hE]
  refine ⟨rfl, ⟨h.wl, p2, ⟨h.lay.1, by show _ ≤ (s.d.write _ _).1.cur.length; rw [p3]; exact h.lay.2⟩, ?_, ?_, ?_, ?_, h.ok, ?_, ?_, ?_, ?_⟩, ⟨rfl, rfl, Pl.lay_len _ _ _, p3, s.l.last, rfl⟩, rfl⟩
  · show 1 ≤ (s.p.lay i _).fr.length; rw [Pl.lay_len]; exact h.f1
  · intro j g hj
    rcases Pl.lay_cases (p := s.p) hj with ⟨_, rfl⟩ | ⟨_, hj⟩
    · exact .inr ⟨n, hn, hnp⟩
    · exact h.nums j g hj
  · intro j k g g' m hj hk e1 e2
    rcases Pl.lay_cases (p := s.p) hj with ⟨ej, rfl⟩ | ⟨hji, hj⟩ <;> rcases Pl.lay_cases (p := s.p) hk with ⟨ek, rfl⟩ | ⟨hki, hk⟩
    · rw [ej, ek]
    · exact absurd (h.one k i g' f m hk hf e2 e1) hki
    · exact absurd (h.one j i g f m hj hf e1 e2) hji
    · exact h.one j k g g' m hj hk e1 e2
  · intro j g m hj e
    rcases Pl.lay_cases (p := s.p) hj with ⟨_, rfl⟩ | ⟨_, hj⟩
    · exact h.held i f m hf e
    · exact h.held j g m hj e
  · intro j g m hj e ec
    rcases Pl.lay_cases (p := s.p) hj with ⟨_, rfl⟩ | ⟨_, hj⟩
    · cases ec
    · exact h.dirty j g m hj e ec
  · intro m hm ha
    by_cases e : m = n
    · subst e
      rw [hpn]
      refine ⟨fun b hb => ?_, fun hb => ?_⟩
      · rw [hlst] at hb; cases hb; rfl
      · rw [hlst] at hb; cases hb
    · rw [hpm m e]
      exact h.free m hm (fun j g hj e2 => by
        by_cases hji : j = i
        · subst hji
          rw [hf] at hj; cases hj
          exact absurd (show (m : Int) = n from e2.symm.trans hn) (by omega)
        · exact ha j g (by show (s.p.lay i _).fr[j]? = _; rw [Pl.lay_ne hji]; exact hj) e2)
  · intro m hm hp
    by_cases e : m = n
    · subst e
      rw [hpn]; exact hl
    · rw [hpm m e] at hp ⊢
      exact h.safe m hm hp
  · intro m hm ho j hj
    have e : m ≠ n := by
      rintro rfl
      exact h.dirty i f m hf hn hc ho
    show Dk.isC (s.d.write _ _).1.chg (s.p.frm + 8 * m + j) = false
    rw [(p5 (s.p.frm + 8 * m) (by omega)).2 j hj]
    exact h.syn m hm ho j hj
theorem PGood.write1 (h : PGood s lst) {i n : Nat} {f : Pf} (hf : s.p.fr[i]? = some f) (hn : f.num = (n : Int)) (hc : f.chg = true) : (s.write1 i).2 = 0 ∧ PGood (s.write1 i).1 lst ∧ Sam s (s.write1 i).1 ∧ (s.write1 i).1.p.fr = (s.p.lay i { f with chg := false }).fr := by
  have hg : s.p.get i = f := Pl.get_of hf
  obtain ⟨hok1, hok2, hok3⟩ := h.ok n _ (h.held i f n hf hn)
  unfold PS.write1
  rw [hg]
  by_cases hq : (s.l.last : Int) ≤ f.pg.lsn
  · have hlay := h.lay
    obtain ⟨f1, f2, f3, f4, f5, f6⟩ := flush_calm h.wl h.calm (by omega) hq (by omega)
    have hflu : s.flu i = s.l.flush f.pg.lsn s.d := by unfold PS.flu; rw [hg]
    rw [decide_eq_true hq, cond_true, hflu, f1, f2]
    simp only [decide_true, cond_true]
    have hG : PGood ⟨s.p.synced, { s.l with last := s.l.tail }, (s.l.flush f.pg.lsn s.d).2.1⟩ lst := h.settle f3 f4 f5 f6 (by have := h.wl.st; omega) h.wl.last
    obtain ⟨g1, g2, g3, g4⟩ := hG.put (i := i) (n := n) (f := f) hf hn hc (by show f.pg.lsn < (s.l.tail : Int); exact hok3)
    refine ⟨g1, g2, ?_, ?_⟩
    · have hs0 : Sam s ⟨s.p.synced, { s.l with last := s.l.tail }, (s.l.flush f.pg.lsn s.d).2.1⟩ := ⟨rfl, rfl, rfl, f4, s.l.tail, rfl⟩
      exact hs0.trans g3
    · rw [g4]; rfl
  · rw [decide_eq_false hq, cond_false]
    obtain ⟨g1, g2, g3, g4⟩ := h.put hf hn hc (by omega)
    exact ⟨g1, g2, g3, by rw [g4]⟩
theorem pickAt_lt {n : Nat} (h : 1 ≤ n) (pick : Int) : PS.pickAt n pick < n := (modN_lt h pick).1
theorem PGood.take (h : PGood s lst) (pick : Int) : ∃ i, (s.take pick).2 = (i, 0) ∧ PGood (s.take pick).1 lst ∧ Sam s (s.take pick).1 ∧ (∃ g, (s.take pick).1.p.fr[i]? = some g ∧ g.num = -1) ∧
    ∀ n : Nat, (∀ (j : Nat) (f : Pf), s.p.fr[j]? = some f → f.num ≠ (n : Int)) → ∀ (j : Nat) (f : Pf), (s.take pick).1.p.fr[j]? = some f → f.num ≠ (n : Int) := by
  unfold PS.take
  cases hh : s.p.hold (-1) with
  | some i =>
    obtain ⟨g, hg, hgn⟩ := Pl.hold_some hh
    exact ⟨i, rfl, h, Sam.refl s, ⟨g, hg, hgn⟩, fun n hn => hn⟩
  | none =>
    have hlt := pickAt_lt h.f1 pick
    generalize PS.pickAt s.p.fr.length pick = i at hlt
    have hf : s.p.fr[i]? = some s.p.fr[i] := List.getElem?_eq_getElem hlt
    have hg : s.p.get i = s.p.fr[i] := Pl.get_of hf
    generalize s.p.fr[i] = f at hf hg
    rw [hg]
    have hnum : ∃ n : Nat, f.num = (n : Int) := by
      rcases h.nums i f hf with e | ⟨n, e, _⟩
      · exact absurd e (Pl.hold_none hh i f hf)
      · exact ⟨n, e⟩
    obtain ⟨n, hn⟩ := hnum
    cases hc : f.chg with
    | true =>
      obtain ⟨g1, g2, g3, g4⟩ := h.write1 hf hn hc
      simp only [cond_true, g1, decide_true]
      have hf' : (s.write1 i).1.p.fr[i]? = some { f with chg := false } := by rw [g4]; exact Pl.lay_at hf
      refine ⟨i, rfl, g2.drop hf' rfl, g3.trans (Sam.lay _ _ _), ⟨pf0, Pl.lay_at hf', rfl⟩, fun m hm j g hj => ?_⟩
      rcases Pl.lay_cases hj with ⟨_, rfl⟩ | ⟨hji, hj⟩
      · exact pf0_num m
      · rw [g4, Pl.lay_ne hji] at hj
        exact hm j g hj
    | false =>
      simp only [cond_false]
      refine ⟨i, rfl, h.drop hf hc, Sam.lay _ _ _, ⟨pf0, Pl.lay_at hf, rfl⟩, fun m hm j g hj => ?_⟩
      rcases Pl.lay_cases hj with ⟨_, rfl⟩ | ⟨hji, hj⟩
      · exact pf0_num m
      · exact hm j g hj
theorem known_ok {p : Pl} {n : Nat} (h : n < p.pages) : p.known (n : Int) = 0 := by
  unfold Pl.known
  rw [decide_eq_false (show ¬ ((n : Int) < 0) by omega), decide_eq_false (show ¬ ((p.pages : Int) ≤ n) by omega)]; rfl
theorem PGood.raw (h : PGood s lst) {n : Nat} (hn : n < s.p.pages) : s.raw (n : Int) = (sec8 s.d (s.p.frm + 8 * n), 0) := by
  have := h.lay.2
  unfold PS.raw
  rw [show (s.p.frm : Int) + 8 * (n : Int) = ((s.p.frm + 8 * n : Nat) : Int) from by omega]
  exact read_calm h.calm (by omega)
theorem PGood.fetch (h : PGood s lst) {n : Nat} (hn : n < s.p.pages) (pick : Int) : PGood (s.fetch n pick).1 lst ∧ Sam s (s.fetch n pick).1 ∧ (s.fetch n pick).2 = (match lst n with | some b => (b, 0) | none => (pg0, 60)) := by
  unfold PS.fetch
  rw [known_ok hn, h.raw hn]
  simp only [decide_true, cond_true]
  cases hh : s.p.hold (n : Int) with
  | some i =>
    obtain ⟨f, hf, hfn⟩ := Pl.hold_some hh
    rw [h.held i f n hf hfn]
    simp only [Pl.get_of hf]
    exact ⟨h, Sam.refl s, (by trivial)⟩
  | none =>
    have hno := Pl.hold_none hh
    obtain ⟨h1, h2⟩ := h.free n hn (fun j f hj e => absurd e (hno j f hj))
    have hp : page s n = pDec (sec8 s.d (s.p.frm + 8 * n)) := rfl
    simp only [← hp]
    cases hl : lst n with
    | none =>
      simp only [decide_eq_false (h2 hl), cond_false]
      exact ⟨h, Sam.refl s, (by trivial)⟩
    | some b =>
      rw [h1 b hl]
      obtain ⟨i, t1, t2, t3, ⟨g, t4, t5⟩, t6⟩ := h.take pick
      rw [t1]
      simp only [decide_true, cond_true]
      exact ⟨t2.fill t4 t5 (t6 n hno) (by rw [t3.pages]; exact hn) hl, t3.trans (Sam.lay _ _ _), (by trivial)⟩
def setE (b : Pg) : Int := if pErr b = 0 then (if b.lsn < 1 then 1 else 0) else pErr b
theorem PGood.set (h : PGood s lst) {n : Nat} (hn : n < s.p.pages) {b : Pg} (hb : b.lsn < (s.l.tail : Int)) (pick : Int) : (s.set n b pick).2 = setE b ∧ Sam s (s.set n b pick).1 ∧ PGood (s.set n b pick).1 (if setE b = 0 then upd lst n b else lst) := by
  have hown : ∀ (t : PS) (i : Nat), Sam t (t.own i n b) := fun t i => ⟨rfl, rfl, Pl.lay_len _ _ _, rfl, t.l.last, rfl⟩
  unfold PS.set
  rw [known_ok hn, pEnc_err]
  simp only [decide_true, cond_true]
  by_cases h1 : pErr b = 0
  · by_cases h2 : b.lsn < 1
    · rw [show setE b = 1 from by unfold setE; rw [if_pos h1, if_pos h2], decide_eq_true h1, decide_eq_true h2]
      exact ⟨rfl, Sam.refl s, h⟩
    · have hE : setE b = 0 := by unfold setE; rw [if_pos h1, if_neg h2]
      rw [hE, decide_eq_true h1, decide_eq_false h2, if_pos rfl]
      simp only [cond_true, cond_false]
      cases hh : s.p.hold (n : Int) with
      | some i =>
        obtain ⟨f, hf, hfn⟩ := Pl.hold_some hh
        exact ⟨rfl, hown _ _, h.own hf (.inl hfn) hn ⟨h1, by omega, hb⟩⟩
      | none =>
        have hno := Pl.hold_none hh
        obtain ⟨i, t1, t2, t3, ⟨g, t4, t5⟩, t6⟩ := h.take pick
        simp only [t1, decide_true, cond_true]
        exact ⟨(by trivial), t3.trans (hown _ _), t2.own t4 (.inr ⟨t5, t6 n hno⟩) (by rw [t3.pages]; exact hn) ⟨h1, by omega, by rw [t3.tail]; exact hb⟩⟩
  · have hE : setE b = pErr b := by unfold setE; rw [if_neg h1]
    rw [hE, decide_eq_false h1, if_neg h1]
    exact ⟨rfl, Sam.refl s, h⟩
theorem PGood.append (h : PGood s lst) (r : Rc) (hl : ∀ m ∈ r.imgs, m.2.lsn ≤ 9223372036854775807) : PGood ⟨s.p, (s.l.append r).1, s.d⟩ lst ∧ s.l.tail ≤ (s.l.append r).1.tail ∧ ((s.l.append r).2.2 = 0 → (s.l.append r).2.1 = (s.l.tail : Int) ∧ s.l.tail < (s.l.append r).1.tail) ∧ ((s.l.append r).2.2 ≠ 0 → (s.l.append r).2.1 = 0) := by
  have hw := h.wl.append r hl
  have key : (s.l.append r).1.frm = s.l.frm ∧ (s.l.append r).1.n = s.l.n ∧ (s.l.append r).1.last = s.l.last ∧ s.l.tail ≤ (s.l.append r).1.tail ∧ ((s.l.append r).2.2 = 0 → (s.l.append r).2.1 = (s.l.tail : Int) ∧ s.l.tail < (s.l.append r).1.tail) ∧ ((s.l.append r).2.2 ≠ 0 → (s.l.append r).2.1 = 0) := by
    unfold Lg.append
    cases hc : decide ((rCheck (atR r s.l.tail)).2 = 0) with
    | false =>
      rw [decide_eq_false_iff_not] at hc
      simp only [cond_false]
      exact ⟨trivial, trivial, trivial, Nat.le_refl _, fun e => absurd e hc, fun _ => trivial⟩
    | true =>
      rw [decide_eq_true_eq] at hc
      cases decide (s.l.room < ((rEnc (atR r s.l.tail)).1.length : Int)) with
      | true =>
        simp only [cond_true]
        exact ⟨trivial, trivial, trivial, Nat.le_refl _, (fun e => absurd e (by decide)), fun _ => trivial⟩
      | false =>
        have := (Lg.enc_len hc (r := atR r s.l.tail) hl).1
        simp only [cond_true, cond_false]
        refine ⟨trivial, trivial, trivial, ?_, fun _ => ⟨trivial, ?_⟩, fun e => absurd rfl e⟩
        · show s.l.base + s.l.kept.length ≤ s.l.base + (s.l.kept ++ _).length
          rw [List.length_append]; omega
        · show s.l.base + s.l.kept.length < s.l.base + (s.l.kept ++ _).length
          rw [List.length_append]; omega
  obtain ⟨k1, k2, k3, k4, k5, k6⟩ := key
  refine ⟨⟨hw, h.calm, ⟨by show (s.l.append r).1.frm + (s.l.append r).1.n ≤ _; rw [k1, k2]; exact h.lay.1, h.lay.2⟩, h.f1, h.nums, h.one, h.held, fun n b hb => ?_, h.dirty, h.free, fun n hn hp => ?_, h.syn⟩, k4, k5, k6⟩
  · obtain ⟨q1, q2, q3⟩ := h.ok n b hb
    exact ⟨q1, q2, by show b.lsn < ((s.l.append r).1.tail : Int); omega⟩
  · show _ < ((s.l.append r).1.last : Int)
    rw [k3]; exact h.safe n hn hp
end
theorem zeros_page : (pDec (zeros 512)).2 ≠ 0 := by
  intro h
  have h1 := (pErr_ok (enc_dec h).1).1.2.2.2.1
  have h2 : (pDec (zeros 512)).1.kind = ((0 : Nat) : Int) ∨ (pDec (zeros 512)).1 = pg0 := by
    have hl : (zeros 512).length = 512 := zeros_len 512
    by_cases h2 : beN 4 (crc ((zeros 512).drop 4)) = (zeros 512).take 4
    · cases h3 : pItems (dMany (zeros 512)) (dRest (zeros 512)) with
      | none => rw [pDec_none hl h2 h3]; exact .inr rfl
      | some x =>
        obtain ⟨l, t⟩ := x
        rw [pDec_some hl h2 h3]
        cases badD (zeros 512) t with
        | true => exact .inr rfl
        | false => exact .inl rfl
    · rw [pDec_sum hl h2]; exact .inr rfl
  rcases h2 with h2 | h2
  · rw [h2] at h1; omega
  · rw [h2] at h1; exact absurd h1 (by decide)
end Go.Proofs.YthbngnlmgplijaaGreatDoor

namespace Go.Proofs.YthbngnlmgplijaaGreatDoor
open Go.Al Go.Proofs
set_option maxRecDepth 100000
set_option linter.unusedVariables false
set_option linter.unusedSimpArgs false
def T31 (k : KV) (w : World) : Prop :=
 New #[(.int .i64 0), (.int .i64 0), (.int .i64 0), (.int .u8 0), (.int .i64 0), (.int .i64 0), (.int .i64 0), (.int .i64 0), (.int .i64 0), (.int .i64 0), (.string (.mk #[])), (.slice none 0 0), (.slice none 0 0), (.slice none 0 0), (.slice none 0 0), (.slice none 0 0)] 28 w fun t1 w2 =>
 RunS Tryz.prog (Instr.build 28 #[(3, (.int .u8 2)), (4, (.int .i64 1))]) w2 fun t3 w4 =>
 St 16 w4 t1 t3 fun u5 w6 =>
 RetO (resL Tryz.prog (fun j => bif Nat.beq j 0 then t1 else undef) w6 [(ResultVar.cell 0 28)]) w6 k
theorem e31 (k : KV) (w : World) : K KD Tryz.prog 2 (fun j =>  []) (fun j =>  none) (Tryz.f31.body.getD .skip) (retQ Tryz.prog Tryz.f31 k) (argF []) w = T31 k  w := by kernel_rfl
theorem c31 {k : KV} {w : World} (h : T31 k  w) : Cl Tryz.prog 31 [] w k :=
  Cl_of_K KD_sound mixed Tryz.func31 (by kernel_rfl) (by kernel_rfl) ((e31 k  w).symm ▸ h)

def T32 (k : KV) (p0 n1 body2 pick3 : Value) (w : World) : Prop :=
 New (Value.cells body2) 61 w fun body1 w2 =>
 Cl Tryz.prog 102 [p0, n1] w2 fun t3 w4 =>
 Pu (binV (.int .i64) .neq t3 (.int .i64 0)) fun t5 =>
 IfB t5
 (k t3 w4)
 (LdN 6 w4 body1 fun t6 w7 =>
 Cl Tryz.prog 103 [t6] w7 fun t8 w9 =>
 Pu (extV t8 0) fun t10 =>
 Pu (extV t8 1) fun t11 =>
 Pu (binV (.int .i64) .neq t11 (.int .i64 0)) fun t12 =>
 IfB t12
 (k t11 w9)
 (Pu (faV 0 body1) fun t13 =>
 Ld w9 t13 fun t14 w15 =>
 Pu (binV (.int .i64) .lss t14 (.int .i64 1)) fun t16 =>
 IfB t16
 (k (.int .i64 1) w15)
 (Cl Tryz.prog 104 [p0, n1] w15 fun t17 w18 =>
 Jn (fun vs35 w34 => ∀ g36 : Fr, ∃ f21 : Value, vs35 = [f21] ∧
 (LdN 6 w34 body1 fun t37 w38 =>
 RunS Tryz.prog (Instr.build 143 #[(0, t37), (1, n1), (2, (.bool true))]) w38 fun t39 w40 =>
 Pu (nilV f21) fun t41 =>
 St 8 w40 t41 t39 fun u42 w43 =>
 Pu (faV 5 body1) fun t44 =>
 Ld w43 t44 fun t45 w46 =>
 Cl Tryz.prog 106 [t45] w46 fun t47 w48 =>
 Pu (nilV f21) fun t49 =>
 Pu (faV 0 t49) fun t50 =>
 Pu (faV 5 t50) fun t51 =>
 St 1 w48 t51 t47 fun u52 w53 =>
 Jn (fun vs67 w66 => ∀ g68 : Fr, vs67 = [] ∧
 (k (.int .i64 0) w66))
 (fun jj54 =>
 Cl Tryz.prog 43 [p0, n1] w53 fun t69 w70 =>
 Pu (unV .not t69) fun t71 =>
 IfB t71
 (Pu (nilV p0) fun t72 =>
 Pu (faV 5 t72) fun t73 =>
 Ld (World.drew w70) t73 fun t74 w75 =>
 w75 = (World.drew w70) ∧
 Pu (faV 0 body1) fun t76 =>
 Ld (World.drew w70) t76 fun t77 w78 =>
 w78 = (World.drew w70) ∧
 RunU Tryz.prog (Instr.mapUpdate 146 t74 n1 t77) (World.drew w70) fun u79 w80 =>
 jj54 [] w80)
 (jj54 [] w70))))
 (fun jj19 =>
 Pu (binV (TypeDesc.pointer 143) .eql t17 (.pointer none)) fun t81 =>
 IfB t81
 (Cl Tryz.prog 105 [p0, pick3] w18 fun t82 w83 =>
 Pu (extV t82 0) fun t84 =>
 Pu (extV t82 1) fun t85 =>
 Pu (binV (.int .i64) .neq t85 (.int .i64 0)) fun t86 =>
 IfB t86
 (k t85 w83)
 (jj19 [t84] w83))
 (jj19 [t17] w18)))))
theorem e32 (k : KV) (p0 n1 body2 pick3 : Value) (w : World) : K KD Tryz.prog 68 (fun j =>  []) (fun j => bif Nat.beq j 15 then some [12] else bif Nat.beq j 19 then some [] else none) (Tryz.f32.body.getD .skip) (retQ Tryz.prog Tryz.f32 k) (argF [p0, n1, body2, pick3]) w = T32 k p0 n1 body2 pick3 w := by kernel_rfl
theorem c32 {k : KV} {p0 n1 body2 pick3 : Value} {w : World} (h : T32 k p0 n1 body2 pick3 w) : Cl Tryz.prog 32 [p0, n1, body2, pick3] w k :=
  Cl_of_K KD_sound mixed Tryz.func32 (by kernel_rfl) (by kernel_rfl) ((e32 k p0 n1 body2 pick3 w).symm ▸ h)

def T33 (k : KV) (p0 n1 pick2 : Value) (w : World) : Prop :=
 New #[(.int .i64 0), (.int .i64 0), (.int .i64 0), (.int .i64 0), (.string (.mk #[])), (.slice none 0 0)] 61 w fun t1 w2 =>
 Cl Tryz.prog 102 [p0, n1] w2 fun t3 w4 =>
 Pu (binV (.int .i64) .neq t3 (.int .i64 0)) fun t5 =>
 IfB t5
 (RunS Tryz.prog (Instr.build 61 #[]) w4 fun t6 w7 =>
 St 6 w7 t1 t6 fun u8 w9 =>
 RetO (resL Tryz.prog (fun j => bif Nat.beq j 6 then t1 else bif Nat.beq j 7 then t3 else undef) w9 [(ResultVar.cell 6 61), (ResultVar.tmp 7)]) w9 k)
 (Cl Tryz.prog 104 [p0, n1] w4 fun t10 w11 =>
 Pu (binV (TypeDesc.pointer 143) .neq t10 (.pointer none)) fun t12 =>
 IfB t12
 (Cl Tryz.prog 107 [t10] w11 fun t13 w14 =>
 St 6 w14 t1 t13 fun u15 w16 =>
 RetO (resL Tryz.prog (fun j => bif Nat.beq j 6 then t1 else bif Nat.beq j 7 then (.int .i64 0) else undef) w16 [(ResultVar.cell 6 61), (ResultVar.tmp 7)]) w16 k)
 (Pu (nilV p0) fun t17 =>
 Pu (faV 0 t17) fun t18 =>
 Ld (World.drew w11) t18 fun t19 w20 =>
 w20 = (World.drew w11) ∧
 Pu (nilV p0) fun t21 =>
 Pu (faV 2 t21) fun t22 =>
 Ld (World.drew w11) t22 fun t23 w24 =>
 w24 = (World.drew w11) ∧
 Pu (binV (.int .i64) .mul (.int .i64 8) n1) fun t25 =>
 Pu (binV (.int .i64) .add t23 t25) fun t26 =>
 Cl Tryz.prog 40 [t19, t26, (.int .i64 8)] (World.drew w11) fun t27 w28 =>
 Pu (extV t27 0) fun t29 =>
 Pu (extV t27 1) fun t30 =>
 Pu (binV (.int .i64) .neq t30 (.int .i64 0)) fun t31 =>
 IfB t31
 (RunS Tryz.prog (Instr.build 61 #[]) w28 fun t32 w33 =>
 St 6 w33 t1 t32 fun u34 w35 =>
 RetO (resL Tryz.prog (fun j => bif Nat.beq j 6 then t1 else bif Nat.beq j 7 then t30 else undef) w35 [(ResultVar.cell 6 61), (ResultVar.tmp 7)]) w35 k)
 (Cl Tryz.prog 41 [t29] w28 fun t36 w37 =>
 Pu (extV t36 0) fun t38 =>
 Pu (extV t36 1) fun t39 =>
 New #[(.int .i64 0), (.int .i64 0), (.int .i64 0), (.int .i64 0), (.string (.mk #[])), (.slice none 0 0)] 61 w37 fun body40 w41 =>
 St 6 w41 body40 t38 fun u42 w43 =>
 Pu (binV (.int .i64) .neq t39 (.int .i64 0)) fun t44 =>
 IfB t44
 (RunS Tryz.prog (Instr.build 61 #[]) w43 fun t45 w46 =>
 St 6 w46 t1 t45 fun u47 w48 =>
 RetO (resL Tryz.prog (fun j => bif Nat.beq j 6 then t1 else bif Nat.beq j 7 then (.int .i64 60) else undef) w48 [(ResultVar.cell 6 61), (ResultVar.tmp 7)]) w48 k)
 (Cl Tryz.prog 105 [p0, pick2] w43 fun t49 w50 =>
 Pu (extV t49 0) fun t51 =>
 Pu (extV t49 1) fun t52 =>
 Pu (binV (.int .i64) .neq t52 (.int .i64 0)) fun t53 =>
 IfB t53
 (RunS Tryz.prog (Instr.build 61 #[]) w50 fun t54 w55 =>
 St 6 w55 t1 t54 fun u56 w57 =>
 RetO (resL Tryz.prog (fun j => bif Nat.beq j 6 then t1 else bif Nat.beq j 7 then t52 else undef) w57 [(ResultVar.cell 6 61), (ResultVar.tmp 7)]) w57 k)
 (LdN 6 w50 body40 fun t58 w59 =>
 RunS Tryz.prog (Instr.build 143 #[(0, t58), (1, n1)]) w59 fun t60 w61 =>
 Pu (nilV t51) fun t62 =>
 St 8 w61 t62 t60 fun u63 w64 =>
 Cl Tryz.prog 107 [t51] w64 fun t65 w66 =>
 St 6 w66 t1 t65 fun u67 w68 =>
 RetO (resL Tryz.prog (fun j => bif Nat.beq j 6 then t1 else bif Nat.beq j 7 then (.int .i64 0) else undef) w68 [(ResultVar.cell 6 61), (ResultVar.tmp 7)]) w68 k)))))
theorem e33 (k : KV) (p0 n1 pick2 : Value) (w : World) : K KD Tryz.prog 72 (fun j =>  []) (fun j =>  none) (Tryz.f33.body.getD .skip) (retQ Tryz.prog Tryz.f33 k) (argF [p0, n1, pick2]) w = T33 k p0 n1 pick2 w := by kernel_rfl
theorem c33 {k : KV} {p0 n1 pick2 : Value} {w : World} (h : T33 k p0 n1 pick2 w) : Cl Tryz.prog 33 [p0, n1, pick2] w k :=
  Cl_of_K KD_sound mixed Tryz.func33 (by kernel_rfl) (by kernel_rfl) ((e33 k p0 n1 pick2 w).symm ▸ h)

def T35 (k : KV) (w : World) : Prop :=
 Cl Tryz.prog 17 [(.int .i64 60)] w fun t1 w2 =>
 Pu (extV t1 0) fun t3 =>
 Pu (extV t1 1) fun t4 =>
 Pu (binV (.int .i64) .neq t4 (.int .i64 0)) fun t5 =>
 Gd (isB false t5) (fun kk => kk t3 w2) w2 fun t6 w7 =>
 Gd (isB false t5) (fun kk => Pu (binV (TypeDesc.pointer 126) .eql t6 (.pointer none)) fun vv => kk vv w7) w7 fun t8 w9 =>
 Pu (pickV t5 (.bool true) t8) fun t10 =>
 IfB t10
 (k (.bool false) w9)
 (Cl Tryz.prog 18 [t3, (.int .i64 0), (.int .i64 10)] w9 fun t11 w12 =>
 Pu (extV t11 0) fun t13 =>
 Pu (extV t11 1) fun t14 =>
 Pu (binV (.int .i64) .neq t14 (.int .i64 0)) fun t15 =>
 Gd (isB false t15) (fun kk => kk t13 w12) w12 fun t16 w17 =>
 Gd (isB false t15) (fun kk => Pu (binV (TypeDesc.pointer 132) .eql t16 (.pointer none)) fun vv => kk vv w17) w17 fun t18 w19 =>
 Pu (pickV t15 (.bool true) t18) fun t20 =>
 IfB t20
 (k (.bool false) w19)
 (Cl Tryz.prog 36 [t3, t13, (.int .i64 10), (.int .i64 4), (.int .i64 1)] w19 fun t21 w22 =>
 Pu (extV t21 0) fun t23 =>
 Pu (extV t21 1) fun t24 =>
 Pu (binV (.int .i64) .neq t24 (.int .i64 0)) fun t25 =>
 Gd (isB false t25) (fun kk => kk t23 w22) w22 fun t26 w27 =>
 Gd (isB false t25) (fun kk => Pu (binV (TypeDesc.pointer 148) .eql t26 (.pointer none)) fun vv => kk vv w27) w27 fun t28 w29 =>
 Pu (pickV t25 (.bool true) t28) fun t30 =>
 IfB t30
 (k (.bool false) w29)
 (Cl Tryz.prog 31 [] w29 fun t31 w32 =>
 Cl Tryz.prog 21 [t13, t31] w32 fun t33 w34 =>
 Pu (extV t33 0) fun t35 =>
 Pu (extV t33 1) fun t36 =>
 RunS Tryz.prog (Instr.buildSlice 59 1 #[(0, (.string (.mk #[120])))]) w34 fun t37 w38 =>
 RunS Tryz.prog (Instr.build 61 #[(0, t35), (1, (.int .i64 2)), (5, t37)]) w38 fun t39 w40 =>
 Cl Tryz.prog 32 [t23, (.int .i64 2), t39, (.int .i64 0)] w40 fun t41 w42 =>
 RunS Tryz.prog (Instr.build 61 #[(0, t35), (1, (.int .i64 2))]) w42 fun t43 w44 =>
 Cl Tryz.prog 32 [t23, (.int .i64 3), t43, (.int .i64 0)] w44 fun t45 w46 =>
 Cl Tryz.prog 33 [t23, (.int .i64 2), (.int .i64 0)] w46 fun t47 w48 =>
 Pu (extV t47 0) fun t49 =>
 Pu (extV t47 1) fun t50 =>
 New #[(.int .i64 0), (.int .i64 0), (.int .i64 0), (.int .i64 0), (.string (.mk #[])), (.slice none 0 0)] 61 w48 fun b51 w52 =>
 St 6 w52 b51 t49 fun u53 w54 =>
 Pu (binV (.int .i64) .eql t41 (.int .i64 0)) fun t55 =>
 Gd (isB true t55) (fun kk => kk t45 w54) w54 fun t56 w57 =>
 Gd (isB true t55) (fun kk => Pu (binV (.int .i64) .eql t56 (.int .i64 0)) fun vv => kk vv w57) w57 fun t58 w59 =>
 Pu (pickV t55 t58 (.bool false)) fun t60 =>
 Gd (isB true t60) (fun kk => kk t50 w59) w59 fun t61 w62 =>
 Gd (isB true t60) (fun kk => Pu (binV (.int .i64) .eql t61 (.int .i64 0)) fun vv => kk vv w62) w62 fun t63 w64 =>
 Pu (pickV t60 t63 (.bool false)) fun t65 =>
 Gd (isB true t65) (fun kk => Pu (faV 5 b51) fun vv => kk vv w64) w64 fun t66 w67 =>
 Gd (isB true t65) (fun kk => Ld w67 t66 kk) w67 fun t68 w69 =>
 Gd (isB true t65) (fun kk => Pu (lenV t68) fun vv => kk vv w69) w69 fun t70 w71 =>
 Gd (isB true t65) (fun kk => Pu (binV (.int .i64) .eql t70 (.int .i64 1)) fun vv => kk vv w71) w71 fun t72 w73 =>
 Pu (pickV t65 t72 (.bool false)) fun t74 =>
 Gd (isB true t74) (fun kk => Pu (faV 5 b51) fun vv => kk vv w73) w73 fun t75 w76 =>
 Gd (isB true t74) (fun kk => Ld w76 t75 kk) w76 fun t77 w78 =>
 Gd (isB true t74) (fun kk => Pu (ixV 1 t77 (.int .i64 0)) fun vv => kk vv w78) w78 fun t79 w80 =>
 Gd (isB true t74) (fun kk => Ld w80 t79 kk) w80 fun t81 w82 =>
 Gd (isB true t74) (fun kk => Pu (binV TypeDesc.string .eql t81 (.string (.mk #[120]))) fun vv => kk vv w82) w82 fun t83 w84 =>
 Pu (pickV t74 t83 (.bool false)) fun t85 =>
 Gd (isB true t85) (fun kk => kk t13 w84) w84 fun t86 w87 =>
 Gd (isB true t85) (fun kk => Cl Tryz.prog 27 [t86] w87 kk) w87 fun t88 w89 =>
 Gd (isB true t85) (fun kk => kk t13 w89) w89 fun t90 w91 =>
 Gd (isB true t85) (fun kk => Cl Tryz.prog 20 [t90] w91 kk) w91 fun t92 w93 =>
 Gd (isB true t85) (fun kk => Pu (binV (.int .i64) .eql t88 t92) fun vv => kk vv w93) w93 fun t94 w95 =>
 Pu (pickV t85 t94 (.bool false)) fun t96 =>
 Gd (isB true t96) (fun kk => kk t23 w95) w95 fun t97 w98 =>
 Gd (isB true t96) (fun kk => Cl Tryz.prog 43 [t97, (.int .i64 2)] w98 kk) w98 fun t99 w100 =>
 Pu (pickV t96 t99 (.bool false)) fun t101 =>
 k t101 w100)))
theorem e35 (k : KV) (w : World) : K KD Tryz.prog 100 (fun j =>  []) (fun j =>  none) (Tryz.f35.body.getD .skip) (retQ Tryz.prog Tryz.f35 k) (argF []) w = T35 k  w := by kernel_rfl
theorem c35 {k : KV} {w : World} (h : T35 k  w) : Cl Tryz.prog 35 [] w k :=
  Cl_of_K KD_sound mixed Tryz.func35 (by kernel_rfl) (by kernel_rfl) ((e35 k  w).symm ▸ h)

def T36 (k : KV) (d0 l1 fromv2 pages3 frames4 : Value) (w : World) : Prop :=
 Pu (binV (TypeDesc.pointer 126) .eql d0 (.pointer none)) fun t1 =>
 Gd (isB false t1) (fun kk => kk l1 w) w fun t2 w3 =>
 Gd (isB false t1) (fun kk => Pu (binV (TypeDesc.pointer 132) .eql t2 (.pointer none)) fun vv => kk vv w3) w3 fun t4 w5 =>
 Pu (pickV t1 (.bool true) t4) fun t6 =>
 Gd (isB false t6) (fun kk => kk frames4 w5) w5 fun t7 w8 =>
 Gd (isB false t6) (fun kk => Pu (binV (.int .i64) .lss t7 (.int .i64 1)) fun vv => kk vv w8) w8 fun t9 w10 =>
 Pu (pickV t6 (.bool true) t9) fun t11 =>
 Gd (isB false t11) (fun kk => kk frames4 w10) w10 fun t12 w13 =>
 Gd (isB false t11) (fun kk => Pu (binV (.int .i64) .gtr t12 (.int .i64 1024)) fun vv => kk vv w13) w13 fun t14 w15 =>
 Pu (pickV t11 (.bool true) t14) fun t16 =>
 Gd (isB false t16) (fun kk => kk pages3 w15) w15 fun t17 w18 =>
 Gd (isB false t16) (fun kk => Pu (binV (.int .i64) .lss t17 (.int .i64 1)) fun vv => kk vv w18) w18 fun t19 w20 =>
 Pu (pickV t16 (.bool true) t19) fun t21 =>
 Gd (isB false t21) (fun kk => kk pages3 w20) w20 fun t22 w23 =>
 Gd (isB false t21) (fun kk => Pu (binV (.int .i64) .gtr t22 (.int .i64 8192)) fun vv => kk vv w23) w23 fun t24 w25 =>
 Pu (pickV t21 (.bool true) t24) fun t26 =>
 Gd (isB false t26) (fun kk => kk fromv2 w25) w25 fun t27 w28 =>
 Gd (isB false t26) (fun kk => Pu (binV (.int .i64) .lss t27 (.int .i64 0)) fun vv => kk vv w28) w28 fun t29 w30 =>
 Pu (pickV t26 (.bool true) t29) fun t31 =>
 Gd (isB false t31) (fun kk => kk fromv2 w30) w30 fun t32 w33 =>
 Gd (isB false t31) (fun kk => kk d0 w33) w33 fun t34 w35 =>
 Gd (isB false t31) (fun kk => Cl Tryz.prog 108 [t34] w35 kk) w35 fun t36 w37 =>
 Gd (isB false t31) (fun kk => kk pages3 w37) w37 fun t38 w39 =>
 Gd (isB false t31) (fun kk => Pu (binV (.int .i64) .mul (.int .i64 8) t38) fun vv => kk vv w39) w39 fun t40 w41 =>
 Gd (isB false t31) (fun kk => Pu (binV (.int .i64) .sub t36 t40) fun vv => kk vv w41) w41 fun t42 w43 =>
 Gd (isB false t31) (fun kk => Pu (binV (.int .i64) .gtr t32 t42) fun vv => kk vv w43) w43 fun t44 w45 =>
 Pu (pickV t31 (.bool true) t44) fun t46 =>
 IfB t46
 (k (.tuple #[(.pointer none), (.int .i64 1)]) w45)
 (RunS Tryz.prog (Instr.makeSlice 145 frames4 frames4) w45 fun t47 w48 =>
 RunS Tryz.prog (Instr.makeMap 146 none) w48 fun t49 w50 =>
 RunS Tryz.prog (Instr.build 148 #[(0, d0), (1, l1), (2, fromv2), (3, pages3), (4, t47), (5, t49)]) w50 fun t51 w52 =>
 New (Value.cells t51) 148 w52 fun t53 w54 =>
 Pu (nilV t53) fun t55 =>
 Pu (faV 4 t55) fun t56 =>
 Ld w54 t56 fun t57 w58 =>
 Pu (lenV t57) fun t59 =>
 ∃ (I60 : List Value → World → Prop) (m61 : List Value → World → Nat), I60 [(.int .i64 0)] w58 ∧
 ∀ (g76 : Fr) (w75 : World), ∀ t64 : Value, I60 [t64] w75 →
 (Pu (binV (.int .i64) .lss t64 t59) fun t77 =>
 IfB t77
 (Pu (nilV t53) fun t78 =>
 Pu (faV 4 t78) fun t79 =>
 Ld w75 t79 fun t80 w81 =>
 Pu (ixV 8 t80 t64) fun t82 =>
 Pu (faV 6 t82) fun t83 =>
 St 1 w81 t83 (.int .i64 (-1)) fun u84 w85 =>
 Pu (binV (.int .i64) .add t64 (.int .i64 1)) fun t86 =>
 I60 [t86] w85 ∧ m61 [t86] w85 < m61 [t64] w75)
 (k (.tuple #[t53, (.int .i64 0)]) w75)))
theorem e36 (k : KV) (d0 l1 fromv2 pages3 frames4 : Value) (w : World) : K KD Tryz.prog 75 (fun j => bif Nat.beq j 5 then [63] else []) (fun j =>  none) (Tryz.f36.body.getD .skip) (retQ Tryz.prog Tryz.f36 k) (argF [d0, l1, fromv2, pages3, frames4]) w = T36 k d0 l1 fromv2 pages3 frames4 w := by kernel_rfl
theorem c36 {k : KV} {d0 l1 fromv2 pages3 frames4 : Value} {w : World} (h : T36 k d0 l1 fromv2 pages3 frames4 w) : Cl Tryz.prog 36 [d0, l1, fromv2, pages3, frames4] w k :=
  Cl_of_K KD_sound mixed Tryz.func36 (by kernel_rfl) (by kernel_rfl) ((e36 k d0 l1 fromv2 pages3 frames4 w).symm ▸ h)

def T37 (k : KV) (p0 n1 : Value) (w : World) : Prop :=
 Cl Tryz.prog 102 [p0, n1] w fun t1 w2 =>
 Pu (binV (.int .i64) .neq t1 (.int .i64 0)) fun t3 =>
 IfB t3
 (k t1 w2)
 (Cl Tryz.prog 104 [p0, n1] w2 fun t4 w5 =>
 Pu (binV (TypeDesc.pointer 143) .neq t4 (.pointer none)) fun t6 =>
 Gd (isB true t6) (fun kk => kk t4 w5) w5 fun t7 w8 =>
 Gd (isB true t6) (fun kk => Pu (nilV t7) fun vv => kk vv w8) w8 fun t9 w10 =>
 Gd (isB true t6) (fun kk => Pu (faV 7 t9) fun vv => kk vv w10) w10 fun t11 w12 =>
 Gd (isB true t6) (fun kk => Ld w12 t11 kk) w12 fun t13 w14 =>
 Pu (pickV t6 t13 (.bool false)) fun t15 =>
 IfB t15
 (Cl Tryz.prog 109 [p0, t4] w14 fun t16 w17 =>
 k t16 w17)
 (k (.int .i64 0) w14))
theorem e37 (k : KV) (p0 n1 : Value) (w : World) : K KD Tryz.prog 27 (fun j =>  []) (fun j =>  none) (Tryz.f37.body.getD .skip) (retQ Tryz.prog Tryz.f37 k) (argF [p0, n1]) w = T37 k p0 n1 w := by kernel_rfl
theorem c37 {k : KV} {p0 n1 : Value} {w : World} (h : T37 k p0 n1 w) : Cl Tryz.prog 37 [p0, n1] w k :=
  Cl_of_K KD_sound mixed Tryz.func37 (by kernel_rfl) (by kernel_rfl) ((e37 k p0 n1 w).symm ▸ h)

def T39 (k : KV) (p0 : Value) (w : World) : Prop :=
 New (Value.cells p0) 54 w fun p1 w2 =>
 Ld w2 p1 fun t3 w4 =>
 Pu (binV (TypeDesc.pointer 148) .eql t3 (.pointer none)) fun t5 =>
 IfB t5
 (k (.tuple #[]) w4)
 (Ld w4 p1 fun t6 w7 =>
 Pu (nilV t6) fun t8 =>
 Pu (faV 5 t8) fun t9 =>
 Ld w7 t9 fun t10 w11 =>
 Cl Tryz.prog 112 [t10, (.func (Fn.func 113) #[] #[p1])] w11 fun t12 w13 =>
 k (.tuple #[]) w13)
theorem e39 (k : KV) (p0 : Value) (w : World) : K KD Tryz.prog 10 (fun j =>  []) (fun j =>  none) (Tryz.f39.body.getD .skip) (retQ Tryz.prog Tryz.f39 k) (argF [p0]) w = T39 k p0 w := by kernel_rfl
theorem c39 {k : KV} {p0 : Value} {w : World} (h : T39 k p0 w) : Cl Tryz.prog 39 [p0] w k :=
  Cl_of_K KD_sound mixed Tryz.func39 (by kernel_rfl) (by kernel_rfl) ((e39 k p0 w).symm ▸ h)

def T43 (k : KV) (p0 n1 : Value) (w : World) : Prop :=
 Pu (binV (TypeDesc.pointer 148) .eql p0 (.pointer none)) fun t1 =>
 IfB t1
 (k (.bool false) w)
 (Pu (nilV p0) fun t2 =>
 Pu (faV 5 t2) fun t3 =>
 Ld w t3 fun t4 w5 =>
 RunS Tryz.prog (Instr.lookup 146 t4 n1 true) w5 fun t6 w7 =>
 Pu (extV t6 0) fun t8 =>
 Pu (extV t6 1) fun t9 =>
 k t9 w7)
theorem e43 (k : KV) (p0 n1 : Value) (w : World) : K KD Tryz.prog 19 (fun j =>  []) (fun j =>  none) (Tryz.f43.body.getD .skip) (retQ Tryz.prog Tryz.f43 k) (argF [p0, n1]) w = T43 k p0 n1 w := by kernel_rfl
theorem c43 {k : KV} {p0 n1 : Value} {w : World} (h : T43 k p0 n1 w) : Cl Tryz.prog 43 [p0, n1] w k :=
  Cl_of_K KD_sound mixed Tryz.func43 (by kernel_rfl) (by kernel_rfl) ((e43 k p0 n1 w).symm ▸ h)

def T44 (k : KV) (p0 : Value) (w : World) : Prop :=
 Pu (binV (TypeDesc.pointer 148) .eql p0 (.pointer none)) fun t1 =>
 IfB t1
 (k (.slice none 0 0) w)
 (Pu (nilV p0) fun t2 =>
 Pu (faV 5 t2) fun t3 =>
 Ld w t3 fun t4 w5 =>
 Cl Tryz.prog 119 [t4] w5 fun t6 w7 =>
 Cl Tryz.prog 118 [t6] w7 fun t8 w9 =>
 Pu (lenV t8) fun t10 =>
 ∃ (I11 : List Value → World → Prop) (m12 : List Value → World → Nat), I11 [(.slice none 0 0), (.int .i64 0)] w9 ∧
 ∀ (g33 : Fr) (w32 : World), ∀ out14 : Value, ∀ t16 : Value, I11 [out14, t16] w32 →
 (Pu (binV (.int .i64) .lss t16 t10) fun t34 =>
 IfB t34
 (Pu (ixV 1 t8 t16) fun t35 =>
 Ld w32 t35 fun t36 w37 =>
 Pu (nilV p0) fun t38 =>
 Pu (faV 5 t38) fun t39 =>
 Ld w37 t39 fun t40 w41 =>
 RunS Tryz.prog (Instr.lookup 146 t40 t36 false) w41 fun t42 w43 =>
 RunS Tryz.prog (Instr.build 120 #[(0, t36), (1, t42)]) w43 fun t44 w45 =>
 RunS Tryz.prog (Instr.buildSlice 25 1 #[(0, t44)]) w45 fun t46 w47 =>
 RunS Tryz.prog (Builtin.append_ #[25, 25] 25 #[out14, t46]) w47 fun t48 w49 =>
 Pu (binV (.int .i64) .add t16 (.int .i64 1)) fun t50 =>
 I11 [t48, t50] w49 ∧ m12 [t48, t50] w49 < m12 [out14, t16] w32)
 (k out14 w32)))
theorem e44 (k : KV) (p0 : Value) (w : World) : K KD Tryz.prog 32 (fun j => bif Nat.beq j 5 then [3, 15] else []) (fun j =>  none) (Tryz.f44.body.getD .skip) (retQ Tryz.prog Tryz.f44 k) (argF [p0]) w = T44 k p0 w := by kernel_rfl
theorem c44 {k : KV} {p0 : Value} {w : World} (h : T44 k p0 w) : Cl Tryz.prog 44 [p0] w k :=
  Cl_of_K KD_sound mixed Tryz.func44 (by kernel_rfl) (by kernel_rfl) ((e44 k p0 w).symm ▸ h)

def T45 (k : KV) (p0 : Value) (w : World) : Prop :=
 Pu (binV (TypeDesc.pointer 148) .eql p0 (.pointer none)) fun t1 =>
 IfB t1
 (k (.slice none 0 0) w)
 (Pu (nilV p0) fun t2 =>
 Pu (faV 4 t2) fun t3 =>
 Ld w t3 fun t4 w5 =>
 Pu (lenV t4) fun t6 =>
 ∃ (I7 : List Value → World → Prop) (m8 : List Value → World → Nat), I7 [(.slice none 0 0), (.int .i64 0)] w5 ∧
 ∀ (g28 : Fr) (w27 : World), ∀ out10 : Value, ∀ t12 : Value, I7 [out10, t12] w27 →
 (Pu (binV (.int .i64) .lss t12 t6) fun t29 =>
 IfB t29
 (Pu (nilV p0) fun t30 =>
 Pu (faV 4 t30) fun t31 =>
 Ld w27 t31 fun t32 w33 =>
 Pu (ixV 8 t32 t12) fun t34 =>
 Pu (faV 6 t34) fun t35 =>
 Ld w33 t35 fun t36 w37 =>
 RunS Tryz.prog (Instr.buildSlice 23 1 #[(0, t36)]) w37 fun t38 w39 =>
 RunS Tryz.prog (Builtin.append_ #[23, 23] 23 #[out10, t38]) w39 fun t40 w41 =>
 Pu (binV (.int .i64) .add t12 (.int .i64 1)) fun t42 =>
 I7 [t40, t42] w41 ∧ m8 [t40, t42] w41 < m8 [out10, t12] w27)
 (k out10 w27)))
theorem e45 (k : KV) (p0 : Value) (w : World) : K KD Tryz.prog 28 (fun j => bif Nat.beq j 5 then [3, 12] else []) (fun j =>  none) (Tryz.f45.body.getD .skip) (retQ Tryz.prog Tryz.f45 k) (argF [p0]) w = T45 k p0 w := by kernel_rfl
theorem c45 {k : KV} {p0 : Value} {w : World} (h : T45 k p0 w) : Cl Tryz.prog 45 [p0] w k :=
  Cl_of_K KD_sound mixed Tryz.func45 (by kernel_rfl) (by kernel_rfl) ((e45 k p0 w).symm ▸ h)

def T102 (k : KV) (p0 n1 : Value) (w : World) : Prop :=
 Pu (binV (TypeDesc.pointer 148) .eql p0 (.pointer none)) fun t1 =>
 IfB t1
 (k (.int .i64 2) w)
 (Pu (binV (.int .i64) .lss n1 (.int .i64 0)) fun t2 =>
 Gd (isB false t2) (fun kk => kk n1 w) w fun t3 w4 =>
 Gd (isB false t2) (fun kk => kk p0 w4) w4 fun t5 w6 =>
 Gd (isB false t2) (fun kk => Pu (nilV t5) fun vv => kk vv w6) w6 fun t7 w8 =>
 Gd (isB false t2) (fun kk => Pu (faV 3 t7) fun vv => kk vv w8) w8 fun t9 w10 =>
 Gd (isB false t2) (fun kk => Ld w10 t9 kk) w10 fun t11 w12 =>
 Gd (isB false t2) (fun kk => Pu (binV (.int .i64) .geq t3 t11) fun vv => kk vv w12) w12 fun t13 w14 =>
 Pu (pickV t2 (.bool true) t13) fun t15 =>
 IfB t15
 (k (.int .i64 4) w14)
 (k (.int .i64 0) w14))
theorem e102 (k : KV) (p0 n1 : Value) (w : World) : K KD Tryz.prog 19 (fun j =>  []) (fun j =>  none) (Tryz.f102.body.getD .skip) (retQ Tryz.prog Tryz.f102 k) (argF [p0, n1]) w = T102 k p0 n1 w := by kernel_rfl
theorem c102 {k : KV} {p0 n1 : Value} {w : World} (h : T102 k p0 n1 w) : Cl Tryz.prog 102 [p0, n1] w k :=
  Cl_of_K KD_sound mixed Tryz.func102 (by kernel_rfl) (by kernel_rfl) ((e102 k p0 n1 w).symm ▸ h)

def T104 (k : KV) (p0 n1 : Value) (w : World) : Prop :=
 Pu (nilV p0) fun t1 =>
 Pu (faV 4 t1) fun t2 =>
 Ld w t2 fun t3 w4 =>
 Pu (lenV t3) fun t5 =>
 ∃ (I6 : List Value → World → Prop) (m7 : List Value → World → Nat), I6 [(.int .i64 0)] w4 ∧
 ∀ (g32 : Fr) (w31 : World), ∀ t11 : Value, I6 [t11] w31 →
 (Pu (binV (.int .i64) .lss t11 t5) fun t33 =>
 IfB t33
 (Pu (nilV p0) fun t34 =>
 Pu (faV 4 t34) fun t35 =>
 Ld w31 t35 fun t36 w37 =>
 Pu (ixV 8 t36 t11) fun t38 =>
 Pu (faV 6 t38) fun t39 =>
 Ld w37 t39 fun t40 w41 =>
 Pu (binV (.int .i64) .eql t40 n1) fun t42 =>
 IfB t42
 (Pu (nilV p0) fun t43 =>
 Pu (faV 4 t43) fun t44 =>
 Ld w41 t44 fun t45 w46 =>
 Pu (ixV 8 t45 t11) fun t47 =>
 k t47 w46)
 (Pu (binV (.int .i64) .add t11 (.int .i64 1)) fun t48 =>
 I6 [t48] w41 ∧ m7 [t48] w41 < m7 [t11] w31))
 (k (.pointer none) w31))
theorem e104 (k : KV) (p0 n1 : Value) (w : World) : K KD Tryz.prog 31 (fun j => bif Nat.beq j 2 then [11] else []) (fun j =>  none) (Tryz.f104.body.getD .skip) (retQ Tryz.prog Tryz.f104 k) (argF [p0, n1]) w = T104 k p0 n1 w := by kernel_rfl
theorem c104 {k : KV} {p0 n1 : Value} {w : World} (h : T104 k p0 n1 w) : Cl Tryz.prog 104 [p0, n1] w k :=
  Cl_of_K KD_sound mixed Tryz.func104 (by kernel_rfl) (by kernel_rfl) ((e104 k p0 n1 w).symm ▸ h)

def T105 (k : KV) (p0 pick1 : Value) (w : World) : Prop :=
 Cl Tryz.prog 104 [p0, (.int .i64 (-1))] w fun t1 w2 =>
 Pu (binV (TypeDesc.pointer 143) .neq t1 (.pointer none)) fun t3 =>
 IfB t3
 (k (.tuple #[t1, (.int .i64 0)]) w2)
 (Pu (nilV p0) fun t4 =>
 Pu (faV 4 t4) fun t5 =>
 Ld w2 t5 fun t6 w7 =>
 Pu (lenV t6) fun t8 =>
 Pu (nilV p0) fun t9 =>
 Pu (faV 4 t9) fun t10 =>
 Ld (World.drew w7) t10 fun t11 w12 =>
 w12 = (World.drew w7) ∧
 Pu (binV (.int .i64) .rem pick1 t8) fun t13 =>
 Pu (binV (.int .i64) .add t13 t8) fun t14 =>
 Pu (binV (.int .i64) .rem t14 t8) fun t15 =>
 Pu (ixV 8 t11 t15) fun t16 =>
 Jn (fun vs32 w31 => ∀ g33 : Fr, vs32 = [] ∧
 (RunS Tryz.prog (Instr.build 143 #[(1, (.int .i64 (-1)))]) w31 fun t34 w35 =>
 Pu (nilV t16) fun t36 =>
 St 8 w35 t36 t34 fun u37 w38 =>
 k (.tuple #[t16, (.int .i64 0)]) w38))
 (fun jj17 =>
 Pu (nilV t16) fun t39 =>
 Pu (faV 7 t39) fun t40 =>
 Ld (World.drew w7) t40 fun t41 w42 =>
 IfB t41
 (Cl Tryz.prog 109 [p0, t16] w42 fun t43 w44 =>
 Pu (binV (.int .i64) .neq t43 (.int .i64 0)) fun t45 =>
 IfB t45
 (k (.tuple #[(.pointer none), t43]) w44)
 (jj17 [] w44))
 (jj17 [] w42)))
theorem e105 (k : KV) (p0 pick1 : Value) (w : World) : K KD Tryz.prog 46 (fun j =>  []) (fun j => bif Nat.beq j 10 then some [] else none) (Tryz.f105.body.getD .skip) (retQ Tryz.prog Tryz.f105 k) (argF [p0, pick1]) w = T105 k p0 pick1 w := by kernel_rfl
theorem c105 {k : KV} {p0 pick1 : Value} {w : World} (h : T105 k p0 pick1 w) : Cl Tryz.prog 105 [p0, pick1] w k :=
  Cl_of_K KD_sound mixed Tryz.func105 (by kernel_rfl) (by kernel_rfl) ((e105 k p0 pick1 w).symm ▸ h)

def T107 (k : KV) (f0 : Value) (w : World) : Prop :=
 New #[(.int .i64 0), (.int .i64 0), (.int .i64 0), (.int .i64 0), (.string (.mk #[])), (.slice none 0 0)] 61 w fun t1 w2 =>
 Pu (nilV f0) fun t3 =>
 Pu (faV 0 t3) fun t4 =>
 LdN 6 w2 t4 fun t5 w6 =>
 New #[(.int .i64 0), (.int .i64 0), (.int .i64 0), (.int .i64 0), (.string (.mk #[])), (.slice none 0 0)] 61 w6 fun p7 w8 =>
 St 6 w8 p7 t5 fun u9 w10 =>
 Pu (faV 5 p7) fun t11 =>
 Ld w10 t11 fun t12 w13 =>
 Cl Tryz.prog 106 [t12] w13 fun t14 w15 =>
 Pu (faV 5 p7) fun t16 =>
 St 1 w15 t16 t14 fun u17 w18 =>
 LdN 6 w18 p7 fun t19 w20 =>
 St 6 w20 t1 t19 fun u21 w22 =>
 RetO (resL Tryz.prog (fun j => bif Nat.beq j 2 then t1 else undef) w22 [(ResultVar.cell 2 61)]) w22 k
theorem e107 (k : KV) (f0 : Value) (w : World) : K KD Tryz.prog 13 (fun j =>  []) (fun j =>  none) (Tryz.f107.body.getD .skip) (retQ Tryz.prog Tryz.f107 k) (argF [f0]) w = T107 k f0 w := by kernel_rfl
theorem c107 {k : KV} {f0 : Value} {w : World} (h : T107 k f0 w) : Cl Tryz.prog 107 [f0] w k :=
  Cl_of_K KD_sound mixed Tryz.func107 (by kernel_rfl) (by kernel_rfl) ((e107 k f0 w).symm ▸ h)

def T109 (k : KV) (p0 f1 : Value) (w : World) : Prop :=
 Jn (fun vs31 w30 => ∀ g32 : Fr, vs31 = [] ∧
 (Pu (nilV f1) fun t33 =>
 Pu (faV 0 t33) fun t34 =>
 LdN 6 w30 t34 fun t35 w36 =>
 Cl Tryz.prog 103 [t35] w36 fun t37 w38 =>
 Pu (extV t37 0) fun t39 =>
 Pu (extV t37 1) fun t40 =>
 Jn (fun vs62 w61 => ∀ g63 : Fr, ∃ e42 : Value, vs62 = [e42] ∧
 (Jn (fun vs71 w70 => ∀ g72 : Fr, vs71 = [] ∧
 (k e42 w70))
 (fun jj64 =>
 Pu (binV (.int .i64) .eql e42 (.int .i64 0)) fun t73 =>
 IfB t73
 (Pu (nilV f1) fun t74 =>
 Pu (faV 7 t74) fun t75 =>
 St 1 w61 t75 (.bool false) fun u76 w77 =>
 jj64 [] w77)
 (jj64 [] w61))))
 (fun jj41 =>
 Pu (binV (.int .i64) .eql t40 (.int .i64 0)) fun t78 =>
 IfB t78
 (Pu (nilV p0) fun t79 =>
 Pu (faV 0 t79) fun t80 =>
 Ld (World.drew w38) t80 fun t81 w82 =>
 w82 = (World.drew w38) ∧
 Pu (nilV p0) fun t83 =>
 Pu (faV 2 t83) fun t84 =>
 Ld (World.drew w38) t84 fun t85 w86 =>
 w86 = (World.drew w38) ∧
 Pu (nilV f1) fun t87 =>
 Pu (faV 6 t87) fun t88 =>
 Ld (World.drew w38) t88 fun t89 w90 =>
 w90 = (World.drew w38) ∧
 Pu (binV (.int .i64) .mul (.int .i64 8) t89) fun t91 =>
 Pu (binV (.int .i64) .add t85 t91) fun t92 =>
 Cl Tryz.prog 94 [t81, t92, t39] (World.drew w38) fun t93 w94 =>
 jj41 [t93] w94)
 (jj41 [t40] w38))))
 (fun jj1 =>
 ∃ C95 : World → Prop, C95 (World.drew w) ∧
 (Pu (nilV p0) fun t96 =>
 Pu (faV 1 t96) fun t97 =>
 Ld (World.drew w) t97 fun t98 w99 =>
 w99 = (World.drew w) ∧
 Pu (nilV f1) fun t100 =>
 Pu (faV 0 t100) fun t101 =>
 Pu (faV 0 t101) fun t102 =>
 ∃ t103, (∀ w104, C95 w104 → Ld w104 t102 fun t105 w106 =>
 t105 = t103 ∧ w106 = w104) ∧
 (Cl Tryz.prog 27 [t98] (World.drew w) fun t107 w108 =>
 C95 w108 ∧
 (Pu (binV (.int .i64) .leq t107 t103) fun t109 =>
 IfB t109
 (Pu (nilV p0) fun t110 =>
 Pu (faV 1 t110) fun t111 =>
 Ld (World.drew w108) t111 fun t112 w113 =>
 w113 = (World.drew w108) ∧
 Pu (nilV f1) fun t114 =>
 Pu (faV 0 t114) fun t115 =>
 Pu (faV 0 t115) fun t116 =>
 Ld (World.drew w108) t116 fun t117 w118 =>
 w118 = (World.drew w108) ∧
 Cl Tryz.prog 26 [t112, t117] (World.drew w108) fun t119 w120 =>
 Pu (binV (.int .i64) .neq t119 (.int .i64 0)) fun t121 =>
 IfB t121
 (k t119 w120)
 (Cl Tryz.prog 39 [p0] w120 fun t122 w123 =>
 jj1 [] w123))
 (jj1 [] w108)))))
theorem e109 (k : KV) (p0 f1 : Value) (w : World) : K KD Tryz.prog 66 (fun j =>  []) (fun j => bif Nat.beq j 6 then some [] else bif Nat.beq j 9 then some [7] else bif Nat.beq j 11 then some [] else none) (Tryz.f109.body.getD .skip) (retQ Tryz.prog Tryz.f109 k) (argF [p0, f1]) w = T109 k p0 f1 w := by kernel_rfl
theorem c109 {k : KV} {p0 f1 : Value} {w : World} (h : T109 k p0 f1 w) : Cl Tryz.prog 109 [p0, f1] w k :=
  Cl_of_K KD_sound mixed Tryz.func109 (by kernel_rfl) (by kernel_rfl) ((e109 k p0 f1 w).symm ▸ h)

def T112 (k : KV) (m0 del1 : Value) (w : World) : Prop :=
 RunS Tryz.prog (Instr.range 146 m0) w fun t1 w2 =>
 ∃ (I3 : List Value → World → Prop) (m4 : List Value → World → Nat), I3 [] w2 ∧
 ∀ (g20 : Fr) (w19 : World), I3 [] w19 →
 (RunS Tryz.prog (Instr.next t1 false 0) w19 fun t21 w22 =>
 Pu (extV t21 0) fun t23 =>
 IfB t23
 (RunS Tryz.prog (Instr.entry t1) w22 fun t24 w25 =>
 Pu (extV t24 0) fun t26 =>
 Pu (extV t24 1) fun t27 =>
 ClV Tryz.prog del1 [t26, t27] w25 fun t28 w29 =>
 IfB t28
 (RunS Tryz.prog (Builtin.delete_ #[146, 3] 0 #[m0, t26]) w29 fun u30 w31 =>
 I3 [] w31 ∧ m4 [] w31 < m4 [] w19)
 (I3 [] w29 ∧ m4 [] w29 < m4 [] w19))
 (k (.tuple #[]) w22))
theorem e112 (k : KV) (m0 del1 : Value) (w : World) : K KD Tryz.prog 19 (fun j => bif Nat.beq j 1 then [] else []) (fun j =>  none) (Tryz.f112.body.getD .skip) (retQ Tryz.prog Tryz.f112 k) (argF [m0, del1]) w = T112 k m0 del1 w := by kernel_rfl
theorem c112 {k : KV} {m0 del1 : Value} {w : World} (h : T112 k m0 del1 w) : Cl Tryz.prog 112 [m0, del1] w k :=
  Cl_of_K KD_sound mixed Tryz.func112 (by kernel_rfl) (by kernel_rfl) ((e112 k m0 del1 w).symm ▸ h)

def T113 (k : KV) (n0 t1 t2 : Value) (w : World) : Prop :=
 Ld w t2 fun t7_1 w2 =>
 Cl Tryz.prog 104 [t7_1, n0] w2 fun t3 w4 =>
 Pu (binV (TypeDesc.pointer 143) .eql t3 (.pointer none)) fun t5 =>
 Gd (isB false t5) (fun kk => kk t3 w4) w4 fun t6 w7 =>
 Gd (isB false t5) (fun kk => Pu (nilV t6) fun vv => kk vv w7) w7 fun t8 w9 =>
 Gd (isB false t5) (fun kk => Pu (faV 7 t8) fun vv => kk vv w9) w9 fun t10 w11 =>
 Gd (isB false t5) (fun kk => Ld w11 t10 kk) w11 fun t12 w13 =>
 Gd (isB false t5) (fun kk => Pu (unV .not t12) fun vv => kk vv w13) w13 fun t14 w15 =>
 Pu (pickV t5 (.bool true) t14) fun t16 =>
 k t16 w15
theorem e113 (k : KV) (n0 t1 t2 : Value) (w : World) : K KD Tryz.prog 19 (fun j =>  []) (fun j =>  none) (Tryz.f113.body.getD .skip) (retQ Tryz.prog Tryz.f113 k) (argF [n0, t1, t2]) w = T113 k n0 t1 t2 w := by kernel_rfl
theorem c113 {k : KV} {n0 t1 t2 : Value} {w : World} (h : T113 k n0 t1 t2 w) : Cl Tryz.prog 113 [n0, t1, t2] w k :=
  Cl_of_K KD_sound mixed Tryz.func113 (by kernel_rfl) (by kernel_rfl) ((e113 k n0 t1 t2 w).symm ▸ h)

end Go.Proofs.YthbngnlmgplijaaGreatDoor

namespace Go.Proofs.YthbngnlmgplijaaGreatDoor
open Go.Al Go.Proofs
set_option linter.unusedVariables false
set_option linter.unusedSimpArgs false
set_option linter.unusedSectionVars false
set_option maxRecDepth 100000

/-! ### Rows of structures, changed in place -/
theorem flat_split {α : Type} {f : α → List Value} {n : Nat} (hf : ∀ x, (f x).length = n) : ∀ (F : List α) (i : Nat) (x : α), i < F.length → (F.set i x).flatMap f = (F.flatMap f).take (i * n) ++ (f x ++ (F.flatMap f).drop (i * n + n))
  | [], i, x, h => by simp at h
  | y :: F, 0, x, h => by
    rw [List.set_cons_zero, List.flatMap_cons, List.flatMap_cons, Nat.zero_mul, List.take_zero, List.nil_append, Nat.zero_add]
    congr 1
    rw [List.drop_left' (hf y)]
  | y :: F, i + 1, x, h => by
    rw [List.set_cons_succ, List.flatMap_cons, List.flatMap_cons, flat_split hf F i x (by simpa using h)]
    rw [show (i + 1) * n = (f y).length + i * n from by rw [hf, Nat.add_mul, Nat.one_mul, Nat.add_comm], List.take_length_add_append, Nat.add_assoc, List.drop_length_add_append, List.append_assoc]
theorem ov_eq : ∀ (l : List Value) (cs : Array Value) (o : Nat), o + l.length ≤ cs.size → ov cs o l = (cs.toList.take o ++ (l ++ cs.toList.drop (o + l.length))).toArray
  | [], cs, o, h => by simp [ov]
  | v :: l, cs, o, h => by
    rw [List.length_cons] at h
    rw [ov, ov_eq l (cs.setIfInBounds o v) (o + 1) (by rw [Array.size_setIfInBounds]; omega)]
    have ho : o < cs.toList.length := by rw [Array.length_toList]; omega
    rw [Array.toList_setIfInBounds, List.length_cons, List.set_eq_take_append_cons_drop, if_pos ho]
    have e1 : cs.toList.take o ++ v :: cs.toList.drop (o + 1) = (cs.toList.take o ++ [v]) ++ cs.toList.drop (o + 1) := by simp
    have e2 : (cs.toList.take o ++ [v]).length = o + 1 := by rw [List.length_append, List.length_take, Nat.min_eq_left (by omega)]; rfl
    rw [e1, List.take_left' e2, ← List.drop_drop, List.drop_left' e2, List.drop_drop]
    simp [Nat.add_assoc, Nat.add_comm 1]
theorem flat_set1 {α : Type} {f : α → List Value} {n : Nat} (hf : ∀ x, (f x).length = n) : ∀ {F : List α} {i : Nat} {x y : α} {j : Nat} {u : Value}, F[i]? = some x → j < n → f y = (f x).set j u → (F.set i y).flatMap f = (F.flatMap f).set (i * n + j) u
  | [], i, x, y, j, u, h, _, _ => by simp at h
  | z :: F, 0, x, y, j, u, h, hj, he => by
    obtain rfl : z = x := by simpa using h
    rw [List.set_cons_zero, List.flatMap_cons, List.flatMap_cons, Nat.zero_mul, Nat.zero_add, he, List.set_append_left _ _ (by rw [hf]; exact hj)]
  | z :: F, i + 1, x, y, j, u, h, hj, he => by
    rw [List.set_cons_succ, List.flatMap_cons, List.flatMap_cons, flat_set1 hf (by simpa using h) hj he, List.set_append_right _ _ (by rw [hf, Nat.add_mul]; omega)]
    congr 2
    rw [hf, Nat.add_mul]; omega

/-! ### A frame -/
abbrev PV := Pf × Value
def frC (x : PV) : List Value := [iv x.1.pg.lsn, iv x.1.pg.kind, iv x.1.pg.level, iv x.1.pg.right, stv x.1.pg.high, x.2, iv x.1.num, .bool x.1.chg]
theorem frC_len (x : PV) : (frC x).length = 8 := rfl
def HeldP (w : World) (P : Nat → Prop) (v : Value) (p : Pg) : Prop := ∀ w', Fm (fun y => ¬ P y) w w' → PgAs w' (pcs p v) p
theorem HeldP.now {w : World} {P : Nat → Prop} {v : Value} {p : Pg} (h : HeldP w P v p) : PgAs w (pcs p v) p := h w (Fm.refl _ _)
theorem HeldP.keep {S P : Nat → Prop} {w w1 : World} {v : Value} {p : Pg} (h : HeldP w P v p) (hf : Fm S w w1) (hs : ∀ y, P y → ¬ S y) : HeldP w1 P v p := fun w' h' => h w' (hf.trans h' (fun x _ hx hp => hs x hp hx) (fun _ _ e => e))
theorem HeldP.mono {P Q : Nat → Prop} {w : World} {v : Value} {p : Pg} (h : HeldP w P v p) (hPQ : ∀ y, P y → Q y) : HeldP w Q v p := fun w' h' => h w' (h'.mono (fun x _ hx hp => hx (hPQ x hp)))
theorem HeldP.of_own {w : World} {b : Nat} {v : Value} {p : Pg} {P : Nat → Prop} (h : PgOw w b (pcs p v) p) (hP : ∀ y, v.ownBlock = some y → P y) : HeldP w P v p := by
  obtain ⟨u, he, h2⟩ := h.ex
  have e : (pcs p v).toList = (pcs p u).toList := by rw [he]
  simp only [pcs, List.cons.injEq, true_and, and_true] at e
  subst e
  intro w' hf
  have h3 := own_keep h2 hf (fun k _ _ hk hn => hn (hP k hk))
  exact ⟨⟨v, rfl, own_one h3, CellsAt.of_own h3⟩, h.small, h.ins⟩
theorem HeldP.zero (w : World) (P : Nat → Prop) : HeldP w P (.slice none 0 0) pg0 := fun w' _ => pgAs0 w'

/-! ### A pool -/
structure Pl.Wf (p : Pl) : Prop where
  f1 : 1 ≤ p.fr.length ∧ p.fr.length ≤ 1024
  pg : 1 ≤ p.pages ∧ p.frm + 8 * p.pages ≤ 65536
  nums : ∀ f ∈ p.fr, f.num = -1 ∨ (0 ≤ f.num ∧ f.num < (p.pages : Int))
theorem Pl.Wf.lay {p : Pl} (h : p.Wf) {i : Nat} {f : Pf} (hf : f.num = -1 ∨ (0 ≤ f.num ∧ f.num < (p.pages : Int))) : (p.lay i f).Wf := by
  refine ⟨by rw [Pl.lay_len]; exact h.f1, h.pg, fun g hg => ?_⟩
  rcases List.mem_or_eq_of_mem_set hg with hg | rfl
  · exact h.nums g hg
  · exact hf
theorem Pl.Wf.of_fr {p q : Pl} (h : p.Wf) (e1 : q.fr = p.fr) (e2 : q.pages = p.pages) (e3 : q.frm = p.frm) : q.Wf := ⟨by rw [e1]; exact h.f1, by rw [e2, e3]; exact h.pg, by rw [e1, e2]; exact h.nums⟩
theorem K146 : KeyT Tryz.prog 146 3 3 iv := keyT_int Tryz.underlying146 Tryz.underlying3
def plc (db lb fb ob n : Nat) (p : Pl) : Array Value := #[pv db, pv lb, iv (p.frm : Int), iv (p.pages : Int), .slice (some ⟨fb, 0, none⟩) n n, .map (some ob)]
structure PIn (w : World) (X Q : Nat → Prop) (pb lb db fb ob : Nat) (F : List PV) (p : Pl) : Prop where
  st : w.heap[pb]? = some (.cells (plc db lb fb ob F.length p) 148)
  fr : w.heap[fb]? = some (.cells (F.flatMap frC).toArray 143)
  mp : MapAt w ob iv iv p.owed
  fs : F.map (·.1) = p.fr
  it : ∀ x ∈ F, HeldP w Q x.2 x.1.pg
  xs : X pb ∧ X fb ∧ X ob ∧ ∀ y, Q y → X y
  qs : ¬ Q pb ∧ ¬ Q fb ∧ ¬ Q ob
  lt : ∀ y, X y → y < w.heap.size
section
variable {w w' : World} {X Q S : Nat → Prop} {pb lb db fb ob : Nat} {F : List PV} {p : Pl}
theorem PIn.keep (h : PIn w X Q pb lb db fb ob F p) (hf : Fm S w w') (hS : ∀ y, X y → ¬ S y) : PIn w' X Q pb lb db fb ob F p :=
  ⟨hf.heap h.st (hS _ h.xs.1), hf.heap h.fr (hS _ h.xs.2.1), h.mp.keep hf (hS _ h.xs.2.2.1), h.fs, fun x hx => (h.it x hx).keep hf (fun y hy => hS y (h.xs.2.2.2 y hy)), h.xs, h.qs, fun y hy => Nat.lt_of_lt_of_le (h.lt y hy) hf.size⟩
theorem PIn.keep0 (h : PIn w X Q pb lb db fb ob F p) (hf : Fm (fun _ => False) w w') : PIn w' X Q pb lb db fb ob F p := h.keep hf (fun _ _ e => e)
theorem PIn.len (h : PIn w X Q pb lb db fb ob F p) : F.length = p.fr.length := by rw [← h.fs, List.length_map]
theorem PIn.pf (h : PIn w X Q pb lb db fb ob F p) : pb ≠ fb := by
  rintro rfl
  have := h.st
  rw [h.fr] at this
  injection (Option.some.inj this) with _ e _
  exact absurd e (by decide)
theorem PIn.po (h : PIn w X Q pb lb db fb ob F p) : pb ≠ ob := by
  rintro rfl
  obtain ⟨es, c, hb, _⟩ := h.mp.ex
  rw [h.st] at hb; cases hb
theorem PIn.fo (h : PIn w X Q pb lb db fb ob F p) : fb ≠ ob := by
  rintro rfl
  obtain ⟨es, c, hb, _⟩ := h.mp.ex
  rw [h.fr] at hb; cases hb
theorem PIn.c0 (h : PIn w X Q pb lb db fb ob F p) : w.cell? ⟨pb, 0, none⟩ = some (pv db) := by rw [cell_at h.st]; rfl
theorem PIn.c1 (h : PIn w X Q pb lb db fb ob F p) : w.cell? ⟨pb, 1, none⟩ = some (pv lb) := by rw [cell_at h.st]; rfl
theorem PIn.c2 (h : PIn w X Q pb lb db fb ob F p) : w.cell? ⟨pb, 2, none⟩ = some (iv (p.frm : Int)) := by rw [cell_at h.st]; rfl
theorem PIn.c3 (h : PIn w X Q pb lb db fb ob F p) : w.cell? ⟨pb, 3, none⟩ = some (iv (p.pages : Int)) := by rw [cell_at h.st]; rfl
theorem PIn.c4 (h : PIn w X Q pb lb db fb ob F p) : w.cell? ⟨pb, 4, none⟩ = some (.slice (some ⟨fb, 0, none⟩) F.length F.length) := by rw [cell_at h.st]; rfl
theorem PIn.c5 (h : PIn w X Q pb lb db fb ob F p) : w.cell? ⟨pb, 5, none⟩ = some (.map (some ob)) := by rw [cell_at h.st]; rfl
theorem PIn.fc (h : PIn w X Q pb lb db fb ob F p) {i : Nat} {x : PV} (hi : F[i]? = some x) {j : Nat} (hj : j < 8) : w.cell? ⟨fb, i * 8 + j, none⟩ = (frC x)[j]? := by
  rw [cell_at h.fr, List.getElem?_toArray, flat_get frC_len hi hj]
theorem PIn.f0 (h : PIn w X Q pb lb db fb ob F p) {i : Nat} {x : PV} (hi : F[i]? = some x) : w.cell? ⟨fb, i * 8, none⟩ = some (iv x.1.pg.lsn) := h.fc hi (j := 0) (by omega)
theorem PIn.f6 (h : PIn w X Q pb lb db fb ob F p) {i : Nat} {x : PV} (hi : F[i]? = some x) : w.cell? ⟨fb, i * 8 + 6, none⟩ = some (iv x.1.num) := h.fc hi (by omega)
theorem PIn.f7 (h : PIn w X Q pb lb db fb ob F p) {i : Nat} {x : PV} (hi : F[i]? = some x) : w.cell? ⟨fb, i * 8 + 7, none⟩ = some (.bool x.1.chg) := h.fc hi (by omega)
theorem PIn.pg6 (h : PIn w X Q pb lb db fb ob F p) {i : Nat} {x : PV} (hi : F[i]? = some x) : cellsV w ⟨fb, i * 8, none⟩ 6 = some (.agg (pcs x.1.pg x.2)) := by
  refine cellsV_of (l := (frC x).take 6) rfl (fun j hj => ?_)
  rw [add_none, h.fc hi (by omega), List.getElem?_take, if_pos hj]
theorem PIn.ix (i : Nat) {n : Nat} (hi : i < n) (fb : Nat) : ixV 8 (.slice (some ⟨fb, 0, none⟩) n n) (iv (i : Int)) = some (.pointer (some ⟨fb, i * 8, none⟩)) := by
  rw [ixV_at hi, add_none, Nat.zero_add]
theorem PIn.frg (h : PIn w X Q pb lb db fb ob F p) {i : Nat} {x : PV} (hi : F[i]? = some x) : p.fr[i]? = some x.1 ∧ p.get i = x.1 := by
  have : p.fr[i]? = some x.1 := by rw [← h.fs, List.getElem?_map, hi]; rfl
  exact ⟨this, Pl.get_of this⟩
theorem PIn.put (h : PIn w X Q pb lb db fb ob F p) {Q' : Nat → Prop} {i : Nat} {x : PV} (hf : Fm S w w') (hS : ∀ y, S y → y = fb ∨ ¬ X y) (hfr : w'.heap[fb]? = some (.cells ((F.set i x).flatMap frC).toArray 143)) (hx : HeldP w' Q' x.2 x.1.pg)
    (hQ : ∀ y, Q y → Q' y) (hQ' : ∀ y, Q' y → Q y ∨ (¬ X y ∧ y < w'.heap.size)) : PIn w' (fun y => X y ∨ Q' y) Q' pb lb db fb ob (F.set i x) (p.lay i x.1) := by
  have hno : ∀ y, X y → y ≠ fb → ¬ S y := fun y hy hn hs => by
    rcases hS y hs with e | e
    · exact hn e
    · exact e hy
  have hq : ∀ y, X y → ¬ Q y → ¬ Q' y := fun y hy hn e => by
    rcases hQ' _ e with e | e
    · exact hn e
    · exact e.1 hy
  refine ⟨?_, hfr, h.mp.keep hf (hno _ h.xs.2.2.1 h.fo.symm), ?_, ?_, ⟨.inl h.xs.1, .inl h.xs.2.1, .inl h.xs.2.2.1, fun y hy => .inr hy⟩, ⟨hq _ h.xs.1 h.qs.1, hq _ h.xs.2.1 h.qs.2.1, hq _ h.xs.2.2.1 h.qs.2.2⟩, ?_⟩
  · rw [List.length_set]
    exact hf.heap h.st (hno _ h.xs.1 h.pf)
  · show (F.set i x).map (·.1) = p.fr.set i x.1
    rw [← h.fs, List.map_set]
  · intro y hy
    rcases List.mem_or_eq_of_mem_set hy with hy | rfl
    · exact ((h.it y hy).keep hf (fun z hz => hno z (h.xs.2.2.2 z hz) (by rintro rfl; exact h.qs.2.1 hz))).mono hQ
    · exact hx
  · intro y hy
    have hz := hf.size
    rcases hy with hy | hy
    · have := h.lt y hy; omega
    · rcases hQ' y hy with e | e
      · have := h.lt y (h.xs.2.2.2 y e); omega
      · exact e.2

/-! ### What its small functions tell -/
theorem pknown_spec (h : PIn w X Q pb lb db fb ob F p) (n : Int) : Cl Tryz.prog 102 [pv pb, iv n] w fun v w' => v = iv (p.known n) ∧ w' = w := by
  refine c102 ?_; unfold T102
  unfold Pl.known
  cases h1 : decide (n < 0) with
  | true =>
    simp only [RS0, RS1, RS2, RS3, RS4, RS5, h1, Bool.true_or, cond_true]
    exact ⟨(by trivial), (by trivial)⟩
  | false =>
    simp only [RS0, RS1, RS2, RS3, RS4, RS5, h1, h.c3, Bool.false_or]
    cases h2 : decide ((p.pages : Int) ≤ n) with
    | true =>
      simp only [RS0, RS1, RS2, RS3, RS4, RS5, cond_true]
      exact ⟨(by trivial), (by trivial)⟩
    | false =>
      simp only [RS0, RS1, RS2, RS3, RS4, RS5, cond_false]
      exact ⟨(by trivial), (by trivial)⟩
def holdV (fb : Nat) : Option Nat → Value
  | some i => .pointer (some ⟨fb, i * 8, none⟩)
  | none => .pointer none
theorem pholds_spec (h : PIn w X Q pb lb db fb ob F p) (hw : F.length ≤ 1024) (n : Int) : Cl Tryz.prog 104 [pv pb, iv n] w fun v w' => v = holdV fb (p.hold n) ∧ w' = w := by
  have hlen := h.len
  refine c104 ?_; unfold T104
  simp only [RS0, RS1, RS2, RS3, RS4, RS5, h.c4]
  refine ⟨fun vs w' => ∃ i : Nat, vs = [iv (i : Int)] ∧ i ≤ F.length ∧ (∀ (j : Nat) (f : Pf), j < i → p.fr[j]? = some f → f.num ≠ n) ∧ w' = w, fun vs _ => (F.length - nth vs 0).toNat, ⟨0, rfl, by omega, (fun j f hj => by omega), rfl⟩, ?_⟩
  rintro _ w2 ivv ⟨i, hvs, hi, hno, rfl⟩
  cases hvs
  by_cases hl : i < F.length
  · have d1 : decide ((i : Int) < (F.length : Int)) = true := by rw [decide_eq_true_eq]; omega
    have e1 : IntKind.i64.wrap ((i : Int) + 1) = ((i + 1 : Nat) : Int) := by rw [wrap_id] <;> omega
    have hx : F[i]? = some F[i] := List.getElem?_eq_getElem hl
    generalize F[i] = x at hx
    obtain ⟨g1, _⟩ := h.frg hx
    simp only [RS0, RS1, RS2, RS3, RS4, RS5, d1, h.c4, PIn.ix i hl fb, h.f6 hx, beq_dec]
    cases hq : decide (x.1.num = n) with
    | true =>
      rw [decide_eq_true_eq] at hq
      simp only [RS0, RS1, RS2, RS3, RS4, RS5]
      refine ⟨?_, (by trivial)⟩
      have : p.hold n = some i := by
        unfold Pl.hold
        rw [List.findIdx?_eq_some_iff_getElem]
        have hli : i < p.fr.length := by omega
        refine ⟨hli, ?_, fun j hj => ?_⟩
        · rw [List.getElem?_eq_getElem hli] at g1
          rw [decide_eq_true_eq, Option.some.inj g1]; exact hq
        · have := hno j _ hj (List.getElem?_eq_getElem (by omega))
          simpa using this
      rw [this]; rfl
    | false =>
      rw [decide_eq_false_iff_not] at hq
      simp only [RS0, RS1, RS2, RS3, RS4, RS5, e1]
      refine ⟨⟨i + 1, rfl, by omega, fun j f hj hf => ?_, (by trivial)⟩, by simp only [nth_0]; omega⟩
      by_cases hji : j = i
      · subst hji
        rw [g1] at hf; cases hf; exact hq
      · exact hno j f (by omega) hf
  · have d1 : decide ((i : Int) < (F.length : Int)) = false := by rw [decide_eq_false_iff_not]; omega
    simp only [RS0, RS1, RS2, RS3, RS4, RS5, d1]
    refine ⟨?_, (by trivial)⟩
    have : p.hold n = none := by
      unfold Pl.hold
      rw [List.findIdx?_eq_none_iff]
      intro f hf
      obtain ⟨j, hj⟩ := List.getElem?_of_mem hf
      have hjl := (List.getElem?_eq_some_iff.1 hj).1
      simpa using hno j f (by omega) hj
    rw [this]; rfl
theorem powes_spec (h : PIn w X Q pb lb db fb ob F p) (n : Int) : Cl Tryz.prog 43 [pv pb, iv n] w fun v w' => v = .bool (!(getD p.owed n).isNone) ∧ w' = w := by
  refine c43 ?_; unfold T43
  simp only [RS0, RS1, RS2, RS3, RS4, RS5, h.c5]
  have hl := lookup_run K146 h.mp n true (z := iv 0) (by kernel_rfl)
  refine RunS_ok hl ?_
  cases getD p.owed n with
  | none =>
    simp only [okV, cond_true]
    simp only [RS0, RS1, RS2, RS3, RS4, RS5]
    exact ⟨(by trivial), (by trivial)⟩
  | some v =>
    simp only [okV, cond_true]
    simp only [RS0, RS1, RS2, RS3, RS4, RS5]
    exact ⟨(by trivial), (by trivial)⟩
/-! ### A copy of a frame's page -/
theorem retP1 {w : World} {g : Nat} {cs : Array Value} (h : w.heap[g]? = some (.cells cs 61)) (hn : cs.size = 6) {k : KV} (hk : k (.agg cs) w) :
    RetO (resL Tryz.prog (fun j => bif Nat.beq j 2 then pv g else undef) w [(ResultVar.cell 2 61)]) w k := by
  simp only [resL, resV_blk (f := fun j => bif Nat.beq j 2 then pv g else undef) (a := 2) rfl agg24 size24 h hn, RetO, RetV]
  exact hk
theorem pg0_cells : (#[(Value.int IntKind.i64 0), (Value.int IntKind.i64 0), (Value.int IntKind.i64 0), (Value.int IntKind.i64 0), (Value.string (ByteArray.mk #[])), (Value.slice none 0 0)] : Array Value) = pcs pg0 (.slice none 0 0) := rfl
theorem pcs_one {p : Pg} {v : Value} (h : v.oneCell' = true) : ∀ u ∈ (pcs p v).toList, u.oneCell' = true := by
  intro u hu
  simp [pcs] at hu
  rcases hu with rfl | rfl | rfl | rfl | rfl | rfl <;> first | rfl | assumption
theorem pcs_set5 (p : Pg) (v u : Value) : (pcs p v).setIfInBounds 5 u = pcs p u := rfl
theorem HeldP.v1 {P : Nat → Prop} {v : Value} {q : Pg} (h : HeldP w P v q) : v.oneCell' = true ∧ CellsAt w v q.items.length 1 (q.items.map stv) ∧ q.items.length * 16 ≤ 140737488355328 := by
  obtain ⟨u, he, h1, h2⟩ := h.now.ex
  have e : (pcs q v).toList = (pcs q u).toList := by rw [he]
  simp only [pcs, List.cons.injEq, true_and, and_true] at e
  subst e
  exact ⟨h1, h2, h.now.ins.2.2.2.2.2⟩
theorem pfresh_spec (h : PIn w X Q pb lb db fb ob F p) {i : Nat} {x : PV} (hi : F[i]? = some x) : Cl Tryz.prog 107 [.pointer (some ⟨fb, i * 8, none⟩)] w fun v w' => ∃ cs, v = .agg cs ∧ PgOw w' w.heap.size cs x.1.pg ∧ Fm (fun _ => False) w w' := by
  have hit := h.it x (List.mem_of_getElem? hi)
  obtain ⟨v1, v2, v3⟩ := hit.v1
  refine c107 ?_; unfold T107
  rw [pg0_cells]
  refine New_any ?_
  intro x1 w1 hx1 hs1 hw1 hf1
  simp only [RS0, RS1, RS2, RS3, RS4, RS5, (h.keep0 hf1).pg6 hi]
  refine New_any ?_
  intro x2 w2 hx2 hs2 hw2 hf2
  refine St_all hw2 rfl rfl (pcs_one v1) ?_
  intro w3 hw3 hs3 hf3
  have c5 : w3.cell? ⟨x2, 5, none⟩ = some x.2 := by rw [cell_at hw3]; rfl
  have hF3 : Fm (fun _ => False) w w3 := Fm.own (Fmf hf1 hf2) hf3 (by rintro y rfl; omega)
  simp only [RS0, RS1, RS2, RS3, RS4, RS5, c5]
  refine (clone_spec (v2.keep hF3 (fun _ _ e => e)) v3).mono ?_
  rintro r w4 ⟨ho4, hf4⟩
  try simp only [RS0, RS1, RS2, RS3, RS4, RS5]
  have z3 := hF3.size
  refine St_blk (hf4.heap hw3 (fun e => e)) (by show 5 < 6; decide) (own_one ho4) ?_
  intro w5 hw5 hs5 hf5
  rw [pcs_set5] at hw5
  have hlt := own_lt ho4
  simp only [RS0, RS1, RS2, RS3, RS4, RS5, cellsV_blk hw5 (show (pcs x.1.pg r).size = 6 from rfl)]
  have hF4 := Fmf hF3 hf4
  have hF5 : Fm (fun _ => False) w w5 := Fm.own hF4 hf5 (by rintro y rfl; omega)
  have hw1' : w5.heap[x1]? = some (.cells (pcs pg0 (.slice none 0 0)) 61) := by
    have e3 : w3.heap[x1]? = _ := hf3.heap (hf2.heap hw1 (fun e => e)) (show ¬ x1 = x2 by omega)
    exact hf5.heap (hf4.heap e3 (fun e => e)) (show ¬ x1 = x2 by omega)
  refine St_all hw1' rfl rfl (pcs_one (own_one ho4)) ?_
  intro w6 hw6 hs6 hf6
  have z1 := hf1.size; have z2 := hf2.size; have z3' := hf3.size
  refine retP1 hw6 rfl ⟨_, rfl, ⟨⟨r, rfl, own_base (own_keep (own_keep ho4 hf5 (fun k hk _ _ e => by omega)) hf6 (fun k hk _ _ e => by omega)) z3⟩, hit.now.small, hit.now.ins⟩, Fm.own hF5 hf6 (by rintro y rfl; omega)⟩
end
end Go.Proofs.YthbngnlmgplijaaGreatDoor

namespace Go.Proofs.YthbngnlmgplijaaGreatDoor
open Go.Al Go.Proofs
set_option linter.unusedVariables false
set_option linter.unusedSimpArgs false
set_option linter.unusedSectionVars false
set_option maxRecDepth 100000

theorem filter_delD {β : Type} (M : List (Int × β)) (hn : (M.map (·.1)).Nodup) (q : Int × β → Bool) (a : Int) : delD (M.filter q) a = M.filter (fun x => q x && !decide (x.1 = a)) := by
  induction M with
  | nil => rfl
  | cons p l ih =>
    rw [List.map_cons, List.nodup_cons] at hn
    have ih := ih hn.2
    rw [List.filter_cons, List.filter_cons]
    by_cases hq : q p = true
    · rw [if_pos hq, delD]
      by_cases ha : p.1 = a
      · have hno : ∀ x ∈ l, ¬ x.1 = a := fun x hx e => hn.1 (by rw [ha, ← e]; exact List.mem_map.2 ⟨x, hx, rfl⟩)
        rw [if_pos ha, if_neg (by simp [ha])]
        exact (List.filter_congr (fun x hx => by simp [hno x hx])).symm
      · rw [if_neg ha, if_pos (by simp [hq, ha]), ih]
    · rw [if_neg hq, if_neg (by simp [hq]), ih]
section
variable {w w' : World} {X Q S : Nat → Prop} {pb lb db fb ob : Nat} {F : List PV} {p : Pl}
theorem psyncedf_spec {a : Nat} (h : PIn w X Q pb lb db fb ob F p) (hw : F.length ≤ 1024) (ha : w.heap[a]? = some (.cells #[pv pb] 54)) (n : Int) (u : Value) : Cl Tryz.prog 113 [iv n, u, pv a] w fun v w' => v = .bool (!p.stays n) ∧ w' = w := by
  have ca : w.cell? ⟨a, 0, none⟩ = some (pv pb) := by rw [cell_at ha]; rfl
  refine c113 ?_; unfold T113
  simp only [RS0, RS1, RS2, RS3, RS4, RS5, ca]
  refine (pholds_spec h hw n).mono ?_
  rintro _ w2 ⟨rfl, rfl⟩
  unfold Pl.stays
  cases hh : p.hold n with
  | none =>
    simp only [holdV]
    simp only [RS0, RS1, RS2, RS3, RS4, RS5]
    exact ⟨(by trivial), (by trivial)⟩
  | some i =>
    simp only [holdV]
    obtain ⟨f, hf, _⟩ := Pl.hold_some hh
    rw [← h.fs, List.getElem?_map, Option.map_eq_some_iff] at hf
    obtain ⟨x, hx, rfl⟩ := hf
    rw [(h.frg hx).2]
    simp only [RS0, RS1, RS2, RS3, RS4, RS5, h.f7 hx]
    exact ⟨(by trivial), (by trivial)⟩
set_option maxHeartbeats 2000000 in
theorem psynced_spec (h : PIn w X Q pb lb db fb ob F p) (hw : F.length ≤ 1024) : Cl Tryz.prog 39 [pv pb] w fun v w' => PIn w' X Q pb lb db fb ob F p.synced ∧ Fm (· = ob) w w' := by
  refine c39 ?_; unfold T39
  refine New_any ?_
  intro a w1 ha hs1 hw1 hf1
  have c1 : w1.cell? ⟨a, 0, none⟩ = some (pv pb) := by rw [cell_at hw1]; rfl
  have hi1 := h.keep0 hf1
  simp only [RS0, RS1, RS2, RS3, RS4, RS5, c1, hi1.c5]
  refine c112 ?_; unfold T112
  obtain ⟨w5, hr5, hR, hf5, hs5⟩ := range_run Tryz.underlying146 hi1.mp
  refine RunS_ok hr5 ?_
  have hi5 := hi1.keep0 hf5
  have hkn : (p.owed.map (·.1)).Nodup := h.mp.keys
  have hz1 := hf1.size
  refine ⟨fun vs w' => ∃ (q : Int × Int → Bool) (left : List (Int × Int)), vs = [] ∧ RangeAt w' w1.heap.size ob iv iv (p.owed.filter q) left ∧ (left.map (·.1)).Nodup ∧ (∀ x ∈ p.owed, q x = true ↔ (p.stays x.1 = true ∨ x.1 ∈ left.map (·.1))) ∧ Fm (fun y => y = ob ∨ y = w1.heap.size) w5 w', fun _ w' => Go.Al.rl w' w1.heap.size ob, ⟨fun _ => true, p.owed, rfl, by rw [List.filter_eq_self.2 (fun _ _ => rfl)]; exact hR, hkn, fun x hx => ⟨fun _ => .inr (List.mem_map.2 ⟨x, hx, rfl⟩), fun _ => rfl⟩, Fm.refl _ _⟩, ?_⟩
  rintro g w6 ⟨q, left, -, hR6, hln, hq, hf6⟩
  have hnm5 : ∀ y, X y → ¬ y = w1.heap.size := by
    rintro y hy rfl
    have := hi1.lt _ hy
    omega
  have hat : ∀ {w7 : World} {D : List (Int × Int)}, Fm (fun y => y = ob ∨ y = w1.heap.size) w5 w7 → MapAt w7 ob iv iv D → PIn w7 X Q pb lb db fb ob F { p with owed := D } := by
    intro w7 D hf7 hm7
    have hn : ∀ y, X y → y ≠ ob → ¬ (y = ob ∨ y = w1.heap.size) := fun y hy hne e => by
      rcases e with e | e
      · exact hne e
      · exact hnm5 y hy e
    exact ⟨hf7.heap hi5.st (hn _ h.xs.1 h.po), hf7.heap hi5.fr (hn _ h.xs.2.1 h.fo), hm7, h.fs, fun x hx => (hi5.it x hx).keep hf7 (fun y hy => hn y (h.xs.2.2.2 y hy) (by rintro rfl; exact h.qs.2.2 hy)), h.xs, h.qs, fun y hy => Nat.lt_of_lt_of_le (hi5.lt y hy) hf7.size⟩
  have ha7 : ∀ {w7 : World}, Fm (fun y => y = ob ∨ y = w1.heap.size) w5 w7 → w7.heap[a]? = some (.cells #[pv pb] 54) := fun hf7 => hf7.heap (hf5.heap hw1 (fun e => e)) (by
    rintro (e | e)
    · have := h.lt _ h.xs.2.2.1; omega
    · omega)
  have hfn : ((p.owed.filter q).map (·.1)).Nodup := hkn.sublist (List.Sublist.map _ List.filter_sublist)
  rcases next_run (P := Tryz.prog) hR6 0 with ⟨rfl, hrun⟩ | ⟨i, y, w7, hp, hrun, hR', hf', hs', hent⟩
  · refine RunS_ok hrun ?_
    simp only [RS0, RS1, RS2, RS3, RS4, RS5]
    have hFq : p.owed.filter q = p.owed.filter (fun x => p.stays x.1) := List.filter_congr (fun x hx => by
      have := hq x hx
      simp at this
      cases h1 : q x <;> cases h2 : p.stays x.1 <;> simp [h1, h2] at this ⊢)
    have hm6 := hR6.map hfn
    rw [hFq] at hm6
    refine ⟨hat hf6 hm6, ?_⟩
    exact (Fmf hf1 hf5).trans hf6 (fun _ _ e => e.elim) (fun x hx e => by
      rcases e with e | e
      · exact e
      · omega)
  · refine RunS_ok hrun ?_
    simp only [RS0, RS1, RS2, RS3, RS4, RS5]
    refine RunS_ok hent ?_
    have hlen : Go.Al.rl w7 w1.heap.size ob < Go.Al.rl w6 w1.heap.size ob := by
      rw [hR6.len, hR'.len]; have := len_erase hp; omega
    have hln' : ((left.eraseIdx i).map (·.1)).Nodup := by rw [← eraseIdx_mp]; exact nodup_erase hln i
    have hf7 : Fm (fun y => y = ob ∨ y = w1.heap.size) w5 w7 := hf6.trans (hf'.mono (fun y _ e => .inr e)) (fun _ _ e => e) (fun _ _ e => e)
    have hmem : ∀ k, k ∈ left.map (·.1) ↔ k = y.1 ∨ k ∈ (left.eraseIdx i).map (·.1) := by
      intro k
      constructor
      · intro hk
        obtain ⟨x, hx, rfl⟩ := List.mem_map.1 hk
        rcases mem_erase_or hp hx with rfl | hx
        · exact .inl rfl
        · exact .inr (List.mem_map.2 ⟨x, hx, rfl⟩)
      · rintro (rfl | hk)
        · exact List.mem_map.2 ⟨y, List.mem_of_getElem? hp, rfl⟩
        · obtain ⟨x, hx, rfl⟩ := List.mem_map.1 hk
          exact List.mem_map.2 ⟨x, List.mem_of_mem_eraseIdx hx, rfl⟩
    have hnot : y.1 ∉ (left.eraseIdx i).map (·.1) := by
      intro hk
      obtain ⟨j, hj⟩ := List.getElem?_of_mem hk
      rw [← eraseIdx_mp, List.getElem?_eraseIdx] at hj
      have hpi : (left.map (·.1))[i]? = some y.1 := by rw [List.getElem?_map, hp]; rfl
      split at hj
      · have := (List.getElem?_inj (List.getElem?_eq_some_iff.1 hj).1 hln).1 (hj.trans hpi.symm)
        omega
      · have := (List.getElem?_inj (List.getElem?_eq_some_iff.1 hj).1 hln).1 (hj.trans hpi.symm)
        omega
    simp only [RS0, RS1, RS2, RS3, RS4, RS5]
    refine ClV_func (by kernel_rfl) ?_
    have hi7 := hat hf7 (hR'.map hfn)
    refine (psyncedf_spec hi7 hw (ha7 hf7) y.1 (iv y.2)).mono ?_
    rintro _ w8 ⟨rfl, rfl⟩
    have hst : ({ p with owed := p.owed.filter q } : Pl).stays y.1 = p.stays y.1 := rfl
    rw [hst]
    cases q3 : p.stays y.1 with
    | true =>
      simp only [RS0, RS1, RS2, RS3, RS4, RS5]
      refine ⟨⟨q, _, (by trivial), hR', hln', fun x hx => ?_, hf7⟩, hlen⟩
      rw [hq x hx, hmem]
      constructor
      · rintro (h1 | h1 | h1)
        · exact .inl h1
        · exact .inl (by rw [h1]; exact q3)
        · exact .inr h1
      · rintro (h1 | h1)
        · exact .inl h1
        · exact .inr (.inr h1)
    | false =>
      simp only [RS0, RS1, RS2, RS3, RS4, RS5]
      obtain ⟨w9, hr9, hR9, hf9, hs9⟩ := range_delete K146 hR' hfn y.1 hnot 0 3
      refine RunS_ok hr9 ?_
      rw [filter_delD p.owed hkn q y.1] at hR9
      refine ⟨⟨_, _, (by trivial), hR9, hln', fun x hx => ?_, hf7.trans (hf9.mono (fun y _ e => .inl e)) (fun _ _ e => e) (fun _ _ e => e)⟩, by rw [hR9.len, ← hR'.len]; exact hlen⟩
      rw [Bool.and_eq_true, hq x hx, hmem, Bool.not_eq_true', decide_eq_false_iff_not]
      constructor
      · rintro ⟨h1, h2⟩
        rcases h1 with h1 | h1 | h1
        · exact .inl h1
        · exact absurd h1 h2
        · exact .inr h1
      · rintro (h1 | h1)
        · exact ⟨.inl h1, fun e => by rw [e, q3] at h1; cases h1⟩
        · exact ⟨.inr (.inr h1), fun e => hnot (by rw [← e]; exact h1)⟩
end

/-! ### A disk, its log, its pool -/
structure SI (w : World) (Xl Xp Q : Nat → Prop) (pb lb db g m fb ob : Nat) (F : List PV) (s : PS) : Prop where
  hL : LAt w Xl lb db s.l
  hD : DAt w db g m s.d
  hP : PIn w Xp Q pb lb db fb ob F s.p
  wf : s.p.Wf
  lp : ∀ y, Xl y → ¬ Xp y
  ld : ¬ Xl db ∧ ¬ Xl g ∧ ¬ Xl m
  pd : ¬ Xp db ∧ ¬ Xp g ∧ ¬ Xp m
def SY (Xl Xp : Nat → Prop) (db g m : Nat) (y : Nat) : Prop := Xl y ∨ Xp y ∨ y = db ∨ y = g ∨ y = m
section
variable {w w' : World} {Xl Xp Q S : Nat → Prop} {pb lb db g m fb ob : Nat} {F : List PV} {s : PS}
theorem SI.flen (h : SI w Xl Xp Q pb lb db g m fb ob F s) : 1 ≤ F.length ∧ F.length ≤ 1024 := by rw [h.hP.len]; exact h.wf.f1
theorem SI.keep (h : SI w Xl Xp Q pb lb db g m fb ob F s) (hf : Fm S w w') (hS : ∀ y, SY Xl Xp db g m y → ¬ S y) : SI w' Xl Xp Q pb lb db g m fb ob F s :=
  ⟨h.hL.keep hf (fun y hy => hS y (.inl hy)), h.hD.keep hf (hS _ (.inr (.inr (.inl rfl)))) (hS _ (.inr (.inr (.inr (.inl rfl))))) (hS _ (.inr (.inr (.inr (.inr rfl))))), h.hP.keep hf (fun y hy => hS y (.inr (.inl hy))), h.wf, h.lp, h.ld, h.pd⟩
theorem SI.keep0 (h : SI w Xl Xp Q pb lb db g m fb ob F s) (hf : Fm (fun _ => False) w w') : SI w' Xl Xp Q pb lb db g m fb ob F s := h.keep hf (fun _ _ e => e)
theorem SI.lt (h : SI w Xl Xp Q pb lb db g m fb ob F s) : ∀ y, SY Xl Xp db g m y → y < w.heap.size := by
  have hd := h.hD.lt
  rintro y (hy | hy | rfl | rfl | rfl)
  · exact h.hL.lt y hy
  · exact h.hP.lt y hy
  · exact hd.1
  · exact hd.2.1
  · exact hd.2.2
theorem SI.setF (h : SI w Xl Xp Q pb lb db g m fb ob F s) {i : Nat} {x : PV} (hi : F[i]? = some x) {b : Bool} {k : KV} (hk : ∀ w', SI w' Xl Xp Q pb lb db g m fb ob (F.set i ({ x.1 with chg := b }, x.2)) ⟨s.p.lay i { x.1 with chg := b }, s.l, s.d⟩ → Fm (· = fb) w w' → k undef w') :
    St 1 w (.pointer (some ⟨fb, i * 8 + 7, none⟩)) (.bool b) k := by
  have hil := (List.getElem?_eq_some_iff.1 hi).1
  have hmem := List.mem_of_getElem? hi
  refine St_blk h.hP.fr (by rw [List.size_toArray, flat_len frC_len]; omega) rfl ?_
  intro w' hw' hs' hf'
  have hset := flat_set1 frC_len (F := F) (y := (({ x.1 with chg := b }, x.2) : PV)) (u := .bool b) hi (j := 7) (by omega) rfl
  rw [List.setIfInBounds_toArray, ← hset] at hw'
  have hx0 := h.hP.it x hmem
  have hfb : ∀ y, Q y → ¬ y = fb := by rintro y hy rfl; exact h.hP.qs.2.1 hy
  have hput := h.hP.put (x := (({ x.1 with chg := b }, x.2) : PV)) hf' (fun y e => .inl e) hw' (hx0.keep hf' hfb) (fun _ e => e) (fun y hy => .inl hy)
  have hX : (fun y => Xp y ∨ Q y) = Xp := by
    funext y
    exact propext ⟨fun e => e.elim (fun e => e) (h.hP.xs.2.2.2 y), .inl⟩
  rw [hX] at hput
  refine hk w' ⟨h.hL.keep hf' (by rintro y hy rfl; exact h.lp _ hy h.hP.xs.2.1), h.hD.keep hf' (by rintro rfl; exact h.pd.1 h.hP.xs.2.1) (by rintro rfl; exact h.pd.2.1 h.hP.xs.2.1) (by rintro rfl; exact h.pd.2.2 h.hP.xs.2.1), hput, h.wf.lay ?_, h.lp, h.ld, h.pd⟩ hf'
  have := (h.hP.frg hi).1
  exact h.wf.nums x.1 (List.mem_of_getElem? this)
theorem SI.flush (h : SI w Xl Xp Q pb lb db g m fb ob F s) (u : Int) : Cl Tryz.prog 26 [pv lb, iv u] w fun v w' => v = iv (s.l.flush u s.d).2.2 ∧ SI w' Xl Xp Q pb lb db g m fb ob F ⟨s.p, (s.l.flush u s.d).1, (s.l.flush u s.d).2.1⟩ ∧ Fm (SY Xl Xp db g m) w w' := by
  refine (wflush_spec h.hL h.hD h.ld u).mono ?_
  rintro v w' ⟨rfl, h1, h2, hf⟩
  have hlb := h.hL.lb
  refine ⟨rfl, ⟨h1, h2, h.hP.keep hf ?_, h.wf, h.lp, h.ld, h.pd⟩, hf.mono ?_⟩
  · rintro y hy (rfl | rfl | rfl | rfl)
    · exact h.lp _ hlb hy
    · exact h.pd.1 hy
    · exact h.pd.2.1 hy
    · exact h.pd.2.2 hy
  · rintro y _ (rfl | rfl | rfl | rfl)
    · exact .inl hlb
    · exact .inr (.inr (.inl rfl))
    · exact .inr (.inr (.inr (.inl rfl)))
    · exact .inr (.inr (.inr (.inr rfl)))
theorem SI.synced (h : SI w Xl Xp Q pb lb db g m fb ob F s) : Cl Tryz.prog 39 [pv pb] w fun v w' => SI w' Xl Xp Q pb lb db g m fb ob F ⟨s.p.synced, s.l, s.d⟩ ∧ Fm (SY Xl Xp db g m) w w' := by
  refine (psynced_spec h.hP h.flen.2).mono ?_
  rintro v w' ⟨h1, hf⟩
  have ho := h.hP.xs.2.2.1
  exact ⟨⟨h.hL.keep hf (by rintro y hy rfl; exact h.lp _ hy ho), h.hD.keep hf (by rintro rfl; exact h.pd.1 ho) (by rintro rfl; exact h.pd.2.1 ho) (by rintro rfl; exact h.pd.2.2 ho), h1, h.wf.of_fr rfl rfl rfl, h.lp, h.ld, h.pd⟩, hf.mono (by rintro y _ rfl; exact .inr (.inl ho))⟩
theorem SI.disk (h : SI w Xl Xp Q pb lb db g m fb ob F s) {d' : Dk} (hd : DAt w' db g m d') (hf : Fm (fun x => x = db ∨ x = g ∨ x = m) w w') : SI w' Xl Xp Q pb lb db g m fb ob F ⟨s.p, s.l, d'⟩ ∧ Fm (SY Xl Xp db g m) w w' := by
  refine ⟨⟨h.hL.keep hf ?_, hd, h.hP.keep hf ?_, h.wf, h.lp, h.ld, h.pd⟩, hf.mono (fun y _ e => .inr (.inr e))⟩
  · rintro y hy (rfl | rfl | rfl)
    · exact h.ld.1 hy
    · exact h.ld.2.1 hy
    · exact h.ld.2.2 hy
  · rintro y hy (rfl | rfl | rfl)
    · exact h.pd.1 hy
    · exact h.pd.2.1 hy
    · exact h.pd.2.2 hy
theorem SY_trans {a b c : World} (h : Fm (SY Xl Xp db g m) a b) (k : Fm (SY Xl Xp db g m) b c) : Fm (SY Xl Xp db g m) a c := h.trans k (fun _ _ e => e) (fun _ _ e => e)
theorem SY_of {a b : World} (h : Fm (fun _ => False) a b) : Fm (SY Xl Xp db g m) a b := h.mono (fun _ _ e => e.elim)
theorem encR_eq (p : Pg) : encR p = .tuple #[stv (pEnc p).1, iv (pEnc p).2] := rfl
set_option maxHeartbeats 4000000 in
theorem pwrite1_spec (h : SI w Xl Xp Q pb lb db g m fb ob F s) {i : Nat} {x : PV} (hi : F[i]? = some x) : Cl Tryz.prog 109 [pv pb, .pointer (some ⟨fb, i * 8, none⟩)] w fun v w' => v = iv (s.write1 i).2 ∧ (∃ F', SI w' Xl Xp Q pb lb db g m fb ob F' (s.write1 i).1) ∧ Fm (SY Xl Xp db g m) w w' := by
  obtain ⟨_, hget⟩ := h.hP.frg hi
  have hmem := List.mem_of_getElem? hi
  have hE : s.write1 i = bif decide ((s.l.last : Int) ≤ x.1.pg.lsn) then (bif decide ((s.l.flush x.1.pg.lsn s.d).2.2 = 0) then (PS.mk s.p.synced (s.l.flush x.1.pg.lsn s.d).1 (s.l.flush x.1.pg.lsn s.d).2.1).put i else (⟨s.p, (s.l.flush x.1.pg.lsn s.d).1, (s.l.flush x.1.pg.lsn s.d).2.1⟩, (s.l.flush x.1.pg.lsn s.d).2.2)) else s.put i := by
    unfold PS.write1 PS.flu
    rw [hget]
  refine c109 ?_; unfold T109
  refine Jn_at (fun vs w' => vs = [] ∧ ∃ s1, SI w' Xl Xp Q pb lb db g m fb ob F s1 ∧ s1.p.fr = s.p.fr ∧ Fm (SY Xl Xp db g m) w w' ∧ s.write1 i = s1.put i) ?_ ?_
  · rintro _ w2 ⟨rfl, s1, h1, hfr, hF2, he⟩ _
    refine ⟨rfl, ?_⟩
    rw [he]
    clear hE he
    have hg1 : s1.p.get i = x.1 := (h1.hP.frg hi).2
    have hput : s1.put i = bif decide ((pEnc x.1.pg).2 = 0) then (bif decide ((s1.d.write ((s1.p.frm : Int) + 8 * x.1.num) (pEnc x.1.pg).1).2 = 0) then (⟨s1.p.lay i { x.1 with chg := false }, s1.l, (s1.d.write ((s1.p.frm : Int) + 8 * x.1.num) (pEnc x.1.pg).1).1⟩, 0) else (⟨s1.p, s1.l, (s1.d.write ((s1.p.frm : Int) + 8 * x.1.num) (pEnc x.1.pg).1).1⟩, (s1.d.write ((s1.p.frm : Int) + 8 * x.1.num) (pEnc x.1.pg).1).2)) else (s1, (pEnc x.1.pg).2) := by
      unfold PS.put PS.putW
      rw [hg1]
    simp only [RS0, RS1, RS2, RS3, RS4, RS5, h1.hP.pg6 hi]
    refine (encode_spec (h1.hP.it x hmem).now).mono ?_
    rintro _ w3 ⟨rfl, hf3⟩
    rw [encR_eq]
    have h3 := h1.keep0 hf3
    have hF3 := SY_trans hF2 (SY_of hf3)
    simp only [RS0, RS1, RS2, RS3, RS4, RS5]
    refine Jn_at (fun vs w' => ∃ (e : Int) (d' : Dk), vs = [iv e] ∧ SI w' Xl Xp Q pb lb db g m fb ob F ⟨s1.p, s1.l, d'⟩ ∧ Fm (SY Xl Xp db g m) w w' ∧ s1.put i = bif decide (e = 0) then (⟨s1.p.lay i { x.1 with chg := false }, s1.l, d'⟩, 0) else (⟨s1.p, s1.l, d'⟩, e)) ?_ ?_
    · rintro _ w4 ⟨e, d', rfl, h4, hF4, he⟩ _
      refine ⟨_, rfl, ?_⟩
      rw [he]
      refine Jn_at (fun vs w' => vs = [] ∧ ∃ F', SI w' Xl Xp Q pb lb db g m fb ob F' (bif decide (e = 0) then (PS.mk (s1.p.lay i { x.1 with chg := false }) s1.l d') else ⟨s1.p, s1.l, d'⟩) ∧ Fm (SY Xl Xp db g m) w w') ?_ ?_
      · rintro _ w5 ⟨rfl, F', h5, hF5⟩ _
        refine ⟨rfl, ?_⟩
        cases hq : decide (e = 0) with
        | true =>
          rw [hq] at h5
          rw [decide_eq_true_eq] at hq
          exact ⟨by rw [hq]; rfl, ⟨F', h5⟩, hF5⟩
        | false =>
          rw [hq] at h5
          exact ⟨rfl, ⟨F', h5⟩, hF5⟩
      intro jj hjj
      simp only [RS0, RS1, RS2, RS3, RS4, RS5, beq_dec]
      cases hq : decide (e = 0) with
      | true =>
        simp only [RS0, RS1, RS2, RS3, RS4, RS5]
        refine h4.setF hi ?_
        intro w5 h5 hf5
        exact hjj _ _ ⟨rfl, _, by rw [hq]; exact h5, hF4.trans hf5 (fun _ _ e => e) (by rintro y _ rfl; exact .inr (.inl h4.hP.xs.2.1))⟩
      | false =>
        simp only [RS0, RS1, RS2, RS3, RS4, RS5]
        exact hjj _ _ ⟨rfl, F, by rw [hq]; exact h4, hF4⟩
    intro jj hjj
    simp only [RS0, RS1, RS2, RS3, RS4, RS5, beq_dec]
    cases hq : decide ((pEnc x.1.pg).2 = 0) with
    | false =>
      rw [hq, cond_false] at hput
      simp only [RS0, RS1, RS2, RS3, RS4, RS5]
      exact hjj _ _ ⟨_, s1.d, rfl, h3, hF3, by rw [hput, hq]; rfl⟩
    | true =>
      rw [hq, cond_true] at hput
      have hlen : (pEnc x.1.pg).1.length ≤ 9223372036854775807 := by
        rw [pEnc_len (by rw [← pEnc_err]; exact of_decide_eq_true hq)]; omega
      have hnum := h3.wf.nums x.1 (List.mem_of_getElem? (h3.hP.frg hi).1)
      have hpg := h3.wf.pg
      have e1 : IntKind.i64.wrap (8 * x.1.num) = 8 * x.1.num := by rw [wrap_id]; omega
      have e2 : IntKind.i64.wrap ((s1.p.frm : Int) + 8 * x.1.num) = (s1.p.frm : Int) + 8 * x.1.num := by rw [wrap_id]; omega
      have hfd := Fm.drew (fun _ => False) w3
      have h3d := h3.keep0 hfd
      simp only [RS0, RS1, RS2, RS3, RS4, RS5, h3.hP.c0, h3.hP.c2, h3.hP.f6 hi, true_and, e1, e2]
      refine (dwrite_spec h3d.hD _ _ hlen).mono ?_
      rintro _ w4 ⟨rfl, hd4, hf4⟩
      obtain ⟨h4, hF4⟩ := h3d.disk hd4 hf4
      try simp only [RS0, RS1, RS2, RS3, RS4, RS5]
      refine hjj _ _ ⟨_, _, rfl, h4, SY_trans hF3 (SY_trans (SY_of hfd) hF4), ?_⟩
      rw [hput]
  intro jj hjj
  have hfd := Fm.drew (fun _ => False) w
  have hd := h.keep0 hfd
  refine ⟨fun w' => Fm (fun _ => False) w w', hfd, ?_⟩
  simp only [RS0, RS1, RS2, RS3, RS4, RS5, h.hP.c1, true_and]
  refine ⟨iv x.1.pg.lsn, fun w' h' => ?_, ?_⟩
  · simp only [RS0, RS1, RS2, RS3, RS4, RS5, (h.hP.keep0 h').f0 hi] <;> trivial
  refine (wflushed_spec hd.hL).mono ?_
  rintro _ w2 ⟨rfl, hf2⟩
  have hF2 := Fmf hfd hf2
  refine ⟨hF2, ?_⟩
  have h2 := h.keep0 hF2
  cases hq : decide ((s.l.last : Int) ≤ x.1.pg.lsn) with
  | false =>
    rw [hq, cond_false] at hE
    simp only [RS0, RS1, RS2, RS3, RS4, RS5, hq]
    exact hjj _ _ ⟨rfl, s, h2, rfl, SY_of hF2, hE⟩
  | true =>
    rw [hq, cond_true] at hE
    have hfd2 := Fm.drew (fun _ => False) w2
    simp only [RS0, RS1, RS2, RS3, RS4, RS5, hq, h2.hP.c1, h2.hP.f0 hi, true_and]
    refine ((h2.keep0 hfd2).flush x.1.pg.lsn).mono ?_
    rintro _ w3 ⟨rfl, h3, hF3⟩
    have hF3' := SY_trans (SY_of (Fmf hF2 hfd2)) hF3
    simp only [RS0, RS1, RS2, RS3, RS4, RS5, bne_dec]
    cases hz : decide ((s.l.flush x.1.pg.lsn s.d).2.2 = 0) with
    | false =>
      rw [hz, cond_false] at hE
      simp only [RS0, RS1, RS2, RS3, RS4, RS5]
      rw [hE]
      exact ⟨rfl, ⟨F, h3⟩, hF3'⟩
    | true =>
      rw [hz, cond_true] at hE
      simp only [RS0, RS1, RS2, RS3, RS4, RS5]
      refine h3.synced.mono ?_
      rintro _ w4 ⟨h4, hF4⟩
      exact hjj _ _ ⟨rfl, _, h4, rfl, SY_trans hF3' hF4, hE⟩
end
end Go.Proofs.YthbngnlmgplijaaGreatDoor
