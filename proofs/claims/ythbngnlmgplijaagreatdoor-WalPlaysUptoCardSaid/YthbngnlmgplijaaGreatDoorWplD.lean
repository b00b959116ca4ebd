/- Laid for one claim by slim.py out of: parts. -/
import Derived.Test.YthbngnlmgplijaaGreatDoorWplC
set_option maxRecDepth 100000
set_option maxHeartbeats 0
set_option linter.unusedVariables false
set_option linter.unusedSimpArgs false
set_option linter.unusedSectionVars false
open Go.Proofs.Tryz (prog)
namespace Go.Proofs.YthbngnlmgplijaaGreatDoor
open Go.Al Go.Proofs
theorem c85 {k : KV} {s0 : Value} {w : World} (h : T85 k s0 w) : Cl prog 85 [s0] w k :=
 cE ac mixed (fun j => bif Nat.beq j 33 then [13] else bif Nat.beq j 28 then [12] else bif Nat.beq j 18 then [7] else []) J0 Tryz.func85 (by kernel_rfl) (by kernel_rfl) (by kernel_rfl) h
def T86 (k : KV) (r0 : Value) (w : World) : Prop :=
 New (Value.cells r0) 28 w fun r1 w2 =>
 Pu (faV 3 r1) fun t3 =>
 Ld w2 t3 fun t4 w5 =>
 Pu (aa (.int .u8) .lss t4 (.int .u8 1)) fun t6 =>
 Gd (isB false t6) (fun kk => Pu (faV 3 r1) fun vv => kk vv w5) w5 fun t7 w8 =>
 Gd (isB false t6) (fun kk => Ld w8 t7 kk) w8 fun t9 w10 =>
 Gd (isB false t6) (fun kk => Pu (aa (.int .u8) .gtr t9 (.int .u8 13)) fun vv => kk vv w10) w10 fun t11 w12 =>
 Pu (ak t6 (.bool true) t11) fun t13 =>
 IfB t13
 (k (.int .i64 41) w12)
 (LdN 16 w12 r1 fun t14 w15 =>
 Cl prog 163 [t14] w15 fun t16 w17 =>
 Pu (unV .not t16) fun t18 =>
 IfB t18
 (k (.int .i64 4) w17)
 (Pu (faV 10 r1) fun t19 =>
 Ld w17 t19 fun t20 w21 =>
 Pu (bu t20) fun t22 =>
 Pu (aa (.int .i64) .gtr t22 (.int .i64 512)) fun t23 =>
 Gd (isB false t23) (fun kk => Pu (faV 11 r1) fun vv => kk vv w21) w21 fun t24 w25 =>
 Gd (isB false t23) (fun kk => Ld w25 t24 kk) w25 fun t26 w27 =>
 Gd (isB false t23) (fun kk => Pu (lenV t26) fun vv => kk vv w27) w27 fun t28 w29 =>
 Gd (isB false t23) (fun kk => Pu (aa (.int .i64) .gtr t28 (.int .i64 255)) fun vv => kk vv w29) w29 fun t30 w31 =>
 Pu (ak t23 (.bool true) t30) fun t32 =>
 Gd (isB false t32) (fun kk => Pu (faV 12 r1) fun vv => kk vv w31) w31 fun t33 w34 =>
 Gd (isB false t32) (fun kk => Ld w34 t33 kk) w34 fun t35 w36 =>
 Gd (isB false t32) (fun kk => Pu (lenV t35) fun vv => kk vv w36) w36 fun t37 w38 =>
 Gd (isB false t32) (fun kk => Pu (aa (.int .i64) .gtr t37 (.int .i64 255)) fun vv => kk vv w38) w38 fun t39 w40 =>
 Pu (ak t32 (.bool true) t39) fun t41 =>
 Gd (isB false t41) (fun kk => Pu (faV 13 r1) fun vv => kk vv w40) w40 fun t42 w43 =>
 Gd (isB false t41) (fun kk => Ld w43 t42 kk) w43 fun t44 w45 =>
 Gd (isB false t41) (fun kk => Pu (lenV t44) fun vv => kk vv w45) w45 fun t46 w47 =>
 Gd (isB false t41) (fun kk => Pu (aa (.int .i64) .gtr t46 (.int .i64 4)) fun vv => kk vv w47) w47 fun t48 w49 =>
 Pu (ak t41 (.bool true) t48) fun t50 =>
 Gd (isB false t50) (fun kk => Pu (faV 14 r1) fun vv => kk vv w49) w49 fun t51 w52 =>
 Gd (isB false t50) (fun kk => Ld w52 t51 kk) w52 fun t53 w54 =>
 Gd (isB false t50) (fun kk => Pu (lenV t53) fun vv => kk vv w54) w54 fun t55 w56 =>
 Gd (isB false t50) (fun kk => Pu (aa (.int .i64) .gtr t55 (.int .i64 8192)) fun vv => kk vv w56) w56 fun t57 w58 =>
 Pu (ak t50 (.bool true) t57) fun t59 =>
 Gd (isB false t59) (fun kk => Pu (faV 15 r1) fun vv => kk vv w58) w58 fun t60 w61 =>
 Gd (isB false t59) (fun kk => Ld w61 t60 kk) w61 fun t62 w63 =>
 Gd (isB false t59) (fun kk => Pu (lenV t62) fun vv => kk vv w63) w63 fun t64 w65 =>
 Gd (isB false t59) (fun kk => Pu (aa (.int .i64) .gtr t64 (.int .i64 1024)) fun vv => kk vv w65) w65 fun t66 w67 =>
 Pu (ak t59 (.bool true) t66) fun t68 =>
 IfB t68
 (k (.int .i64 3) w67)
 (∃ (I69 : List Value → World → Prop) (m70 : List Value → World → Nat), I69 [(.int .i64 0)] w67 ∧
 ∀ (g97 : Fr) (w96 : World), ∀ i73 : Value, I69 [i73] w96 →
 (Pu (faV 13 r1) fun t98 =>
 Ld w96 t98 fun t99 w100 =>
 Pu (lenV t99) fun t101 =>
 Pu (aa (.int .i64) .lss i73 t101) fun t102 =>
 IfB t102
 (Pu (faV 13 r1) fun t103 =>
 Ld w100 t103 fun t104 w105 =>
 Pu (ixV 7 t104 i73) fun t106 =>
 Pu (faV 1 t106) fun t107 =>
 LdN 6 w105 t107 fun t108 w109 =>
 Cl prog 132 [t108] w109 fun t110 w111 =>
 Pu (aJ t110 0) fun t112 =>
 Pu (aJ t110 1) fun t113 =>
 Pu (aa (.int .i64) .neq t113 (.int .i64 0)) fun t114 =>
 IfB t114
 (k t113 w111)
 (Pu (aa (.int .i64) .add i73 (.int .i64 1)) fun t115 =>
 I69 [t115] w111 ∧ m70 [t115] w111 < m70 [i73] w96))
 (LdN 16 w100 r1 fun t116 w117 =>
 Cl prog 87 [t116] w117 fun t118 w119 =>
 Pu (bu t118) fun t120 =>
 Pu (aa (.int .i64) .gtr t120 (.int .i64 65535)) fun t121 =>
 IfB t121
 (k (.int .i64 3) w119)
 (k (.int .i64 0) w119))))))
theorem c86 {k : KV} {r0 : Value} {w : World} (h : T86 k r0 w) : Cl prog 86 [r0] w k :=
 cE ac mixed (fun j => bif Nat.beq j 8 then [3] else []) J0 Tryz.func86 (by kernel_rfl) (by kernel_rfl) (by kernel_rfl) h
def T87 (k : KV) (r0 : Value) (w : World) : Prop :=
 New (Value.cells r0) 28 w fun r1 w2 =>
 ∃ C3 : World → Prop, C3 (World.drew w2) ∧
 (Pu (faV 0 r1) fun t4 =>
 Ld (World.drew w2) t4 fun t5 w6 =>
 w6 = (World.drew w2) ∧
 Pu (faV 1 r1) fun t7 =>
 Ld (World.drew w2) t7 fun t8 w9 =>
 w9 = (World.drew w2) ∧
 Pu (faV 2 r1) fun t10 =>
 Ld (World.drew w2) t10 fun t11 w12 =>
 w12 = (World.drew w2) ∧
 Pu (faV 3 r1) fun t13 =>
 Ld (World.drew w2) t13 fun t14 w15 =>
 w15 = (World.drew w2) ∧
 Pu (cvI IntKind.i64 t14) fun t16 =>
 Pu (faV 4 r1) fun t17 =>
 Ld (World.drew w2) t17 fun t18 w19 =>
 w19 = (World.drew w2) ∧
 Pu (faV 5 r1) fun t20 =>
 Ld (World.drew w2) t20 fun t21 w22 =>
 w22 = (World.drew w2) ∧
 Pu (faV 6 r1) fun t23 =>
 Ld (World.drew w2) t23 fun t24 w25 =>
 w25 = (World.drew w2) ∧
 Pu (faV 7 r1) fun t26 =>
 Ld (World.drew w2) t26 fun t27 w28 =>
 w28 = (World.drew w2) ∧
 Pu (faV 8 r1) fun t29 =>
 Ld (World.drew w2) t29 fun t30 w31 =>
 w31 = (World.drew w2) ∧
 Pu (faV 9 r1) fun t32 =>
 Ld (World.drew w2) t32 fun t33 w34 =>
 w34 = (World.drew w2) ∧
 Pu (faV 10 r1) fun t35 =>
 ∃ t36, (∀ w37, C3 w37 → Ld w37 t35 fun t38 w39 =>
 t38 = t36 ∧ w39 = w37) ∧
 (RunS prog (Instr.buildSlice 23 10 #[(0, t5), (1, t8), (2, t11), (3, t16), (4, t18), (5, t21), (6, t24), (7, t27), (8, t30), (9, t33)]) (World.drew w2) fun t40 w41 =>
 C3 w41 ∧
 (Cl prog 164 [t40] w41 fun t42 w43 =>
 C3 w43 ∧
 (Cl prog 165 [t36] w43 fun t44 w45 =>
 Pu (aa TypeDesc.string .add t42 t44) fun t46 =>
 RunS prog (convert 9 123 t46) w45 fun t47 w48 =>
 Pu (faV 11 r1) fun t49 =>
 Ld w48 t49 fun t50 w51 =>
 Pu (lenV t50) fun t52 =>
 RunS prog (Instr.buildSlice 23 1 #[(0, t52)]) w51 fun t53 w54 =>
 Cl prog 164 [t53] w54 fun t55 w56 =>
 RunS prog (Builtin.append_ #[123, 9] 123 #[t47, t55]) w56 fun t57 w58 =>
 Pu (faV 11 r1) fun t59 =>
 Ld w58 t59 fun t60 w61 =>
 Cl prog 164 [t60] w61 fun t62 w63 =>
 RunS prog (Builtin.append_ #[123, 9] 123 #[t57, t62]) w63 fun t64 w65 =>
 Pu (faV 12 r1) fun t66 =>
 Ld w65 t66 fun t67 w68 =>
 Pu (lenV t67) fun t69 =>
 RunS prog (Instr.buildSlice 23 1 #[(0, t69)]) w68 fun t70 w71 =>
 Cl prog 164 [t70] w71 fun t72 w73 =>
 RunS prog (Builtin.append_ #[123, 9] 123 #[t64, t72]) w73 fun t74 w75 =>
 Pu (faV 12 r1) fun t76 =>
 Ld w75 t76 fun t77 w78 =>
 Cl prog 164 [t77] w78 fun t79 w80 =>
 RunS prog (Builtin.append_ #[123, 9] 123 #[t74, t79]) w80 fun t81 w82 =>
 Pu (faV 13 r1) fun t83 =>
 Ld w82 t83 fun t84 w85 =>
 Pu (lenV t84) fun t86 =>
 RunS prog (Instr.buildSlice 23 1 #[(0, t86)]) w85 fun t87 w88 =>
 Cl prog 164 [t87] w88 fun t89 w90 =>
 RunS prog (Builtin.append_ #[123, 9] 123 #[t81, t89]) w90 fun t91 w92 =>
 ∃ (I93 : List Value → World → Prop) (m94 : List Value → World → Nat), I93 [t91, (.int .i64 0)] w92 ∧
 ∀ (g125 : Fr) (w124 : World), ∀ out96 : Value, ∀ i97 : Value, I93 [out96, i97] w124 →
 (Pu (faV 13 r1) fun t126 =>
 Ld w124 t126 fun t127 w128 =>
 Pu (lenV t127) fun t129 =>
 Pu (aa (.int .i64) .lss i97 t129) fun t130 =>
 IfB t130
 (∃ C131 : World → Prop, C131 (World.drew w128) ∧
 (Pu (faV 13 r1) fun t132 =>
 Ld (World.drew w128) t132 fun t133 w134 =>
 w134 = (World.drew w128) ∧
 Pu (ixV 7 t133 i97) fun t135 =>
 Pu (faV 0 t135) fun t136 =>
 Ld (World.drew w128) t136 fun t137 w138 =>
 w138 = (World.drew w128) ∧
 Pu (faV 13 r1) fun t139 =>
 ∃ t140, (∀ w141, C131 w141 → Ld w141 t139 fun t142 w143 =>
 t142 = t140 ∧ w143 = w141) ∧
 (Pu (ixV 7 t140 i97) fun t144 =>
 Pu (faV 1 t144) fun t145 =>
 ∃ t146, (∀ w147, C131 w147 → LdN 6 w147 t145 fun t148 w149 =>
 t148 = t146 ∧ w149 = w147) ∧
 (RunS prog (Instr.buildSlice 23 1 #[(0, t137)]) (World.drew w128) fun t150 w151 =>
 C131 w151 ∧
 (Cl prog 164 [t150] w151 fun t152 w153 =>
 C131 w153 ∧
 (Cl prog 166 [t146] w153 fun t154 w155 =>
 Cl prog 165 [t154] w155 fun t156 w157 =>
 Pu (aa TypeDesc.string .add t152 t156) fun t158 =>
 RunS prog (Builtin.append_ #[123, 9] 123 #[out96, t158]) w157 fun t159 w160 =>
 Pu (aa (.int .i64) .add i97 (.int .i64 1)) fun t161 =>
 I93 [t159, t161] w160 ∧ m94 [t159, t161] w160 < m94 [out96, i97] w124))))))
 (Pu (faV 14 r1) fun t162 =>
 Ld w128 t162 fun t163 w164 =>
 Pu (lenV t163) fun t165 =>
 RunS prog (Instr.buildSlice 23 1 #[(0, t165)]) w164 fun t166 w167 =>
 Cl prog 164 [t166] w167 fun t168 w169 =>
 RunS prog (Builtin.append_ #[123, 9] 123 #[out96, t168]) w169 fun t170 w171 =>
 ∃ (I172 : List Value → World → Prop) (m173 : List Value → World → Nat), I172 [t170, (.int .i64 0)] w171 ∧
 ∀ (g201 : Fr) (w200 : World), ∀ out175 : Value, ∀ i176 : Value, I172 [out175, i176] w200 →
 (Pu (faV 14 r1) fun t202 =>
 Ld w200 t202 fun t203 w204 =>
 Pu (lenV t203) fun t205 =>
 Pu (aa (.int .i64) .lss i176 t205) fun t206 =>
 IfB t206
 (Pu (faV 14 r1) fun t207 =>
 Ld (World.drew w204) t207 fun t208 w209 =>
 w209 = (World.drew w204) ∧
 Pu (ixV 2 t208 i176) fun t210 =>
 Pu (faV 0 t210) fun t211 =>
 Ld (World.drew w204) t211 fun t212 w213 =>
 w213 = (World.drew w204) ∧
 Pu (faV 14 r1) fun t214 =>
 Ld (World.drew w204) t214 fun t215 w216 =>
 w216 = (World.drew w204) ∧
 Pu (ixV 2 t215 i176) fun t217 =>
 Pu (faV 1 t217) fun t218 =>
 Ld (World.drew w204) t218 fun t219 w220 =>
 w220 = (World.drew w204) ∧
 RunS prog (Instr.buildSlice 23 2 #[(0, t212), (1, t219)]) (World.drew w204) fun t221 w222 =>
 Cl prog 164 [t221] w222 fun t223 w224 =>
 RunS prog (Builtin.append_ #[123, 9] 123 #[out175, t223]) w224 fun t225 w226 =>
 Pu (aa (.int .i64) .add i176 (.int .i64 1)) fun t227 =>
 I172 [t225, t227] w226 ∧ m173 [t225, t227] w226 < m173 [out175, i176] w200)
 (Pu (faV 15 r1) fun t228 =>
 Ld w204 t228 fun t229 w230 =>
 Pu (lenV t229) fun t231 =>
 RunS prog (Instr.buildSlice 23 1 #[(0, t231)]) w230 fun t232 w233 =>
 Cl prog 164 [t232] w233 fun t234 w235 =>
 RunS prog (Builtin.append_ #[123, 9] 123 #[out175, t234]) w235 fun t236 w237 =>
 ∃ (I238 : List Value → World → Prop) (m239 : List Value → World → Nat), I238 [t236, (.int .i64 0)] w237 ∧
 ∀ (g267 : Fr) (w266 : World), ∀ out241 : Value, ∀ i242 : Value, I238 [out241, i242] w266 →
 (Pu (faV 15 r1) fun t268 =>
 Ld w266 t268 fun t269 w270 =>
 Pu (lenV t269) fun t271 =>
 Pu (aa (.int .i64) .lss i242 t271) fun t272 =>
 IfB t272
 (Pu (faV 15 r1) fun t273 =>
 Ld (World.drew w270) t273 fun t274 w275 =>
 w275 = (World.drew w270) ∧
 Pu (ixV 2 t274 i242) fun t276 =>
 Pu (faV 0 t276) fun t277 =>
 Ld (World.drew w270) t277 fun t278 w279 =>
 w279 = (World.drew w270) ∧
 Pu (faV 15 r1) fun t280 =>
 Ld (World.drew w270) t280 fun t281 w282 =>
 w282 = (World.drew w270) ∧
 Pu (ixV 2 t281 i242) fun t283 =>
 Pu (faV 1 t283) fun t284 =>
 Ld (World.drew w270) t284 fun t285 w286 =>
 w286 = (World.drew w270) ∧
 RunS prog (Instr.buildSlice 23 2 #[(0, t278), (1, t285)]) (World.drew w270) fun t287 w288 =>
 Cl prog 164 [t287] w288 fun t289 w290 =>
 RunS prog (Builtin.append_ #[123, 9] 123 #[out241, t289]) w290 fun t291 w292 =>
 Pu (aa (.int .i64) .add i242 (.int .i64 1)) fun t293 =>
 I238 [t291, t293] w292 ∧ m239 [t291, t293] w292 < m239 [out241, i242] w266)
 (RunS prog (convert 123 9 out241) w270 fun t294 w295 =>
 k t294 w295))))))))))
theorem c87 {k : KV} {r0 : Value} {w : World} (h : T87 k r0 w) : Cl prog 87 [r0] w k :=
 cE ac mixed (fun j => bif Nat.beq j 18 then [3, 6] else bif Nat.beq j 13 then [3, 5] else bif Nat.beq j 8 then [3, 4] else []) J0 Tryz.func87 (by kernel_rfl) (by kernel_rfl) (by kernel_rfl) h
def T130 (k : KV) (r0 : Value) (w : World) : Prop :=
 New (Value.cells r0) 28 w fun r1 w2 =>
 LdN 16 w2 r1 fun t3 w4 =>
 Cl prog 86 [t3] w4 fun t5 w6 =>
 Pu (aa (.int .i64) .neq t5 (.int .i64 0)) fun t7 =>
 IfB t7
 (k (.tuple #[(.string (.mk #[])), t5]) w6)
 (LdN 16 w6 r1 fun t8 w9 =>
 Cl prog 87 [t8] w9 fun t10 w11 =>
 Pu (bu t10) fun t12 =>
 Cl prog 192 [t12, (.int .i64 4)] w11 fun t13 w14 =>
 Cl prog 84 [t10] w14 fun t15 w16 =>
 Pu (cvI IntKind.i64 t15) fun t17 =>
 Cl prog 192 [t17, (.int .i64 4)] w16 fun t18 w19 =>
 Pu (aa TypeDesc.string .add t13 t18) fun t20 =>
 Pu (aa TypeDesc.string .add t20 t10) fun t21 =>
 k (.tuple #[t21, (.int .i64 0)]) w19)
theorem c130 {k : KV} {r0 : Value} {w : World} (h : T130 k r0 w) : Cl prog 130 [r0] w k :=
 cE ac mixed L0 J0 Tryz.func130 (by kernel_rfl) (by kernel_rfl) (by kernel_rfl) h
def T159 (k : KV) (r0 most1 : Value) (w : World) : Prop :=
 Pu (au r0) fun t1 =>
 Pu (faV 2 t1) fun t2 =>
 Ld w t2 fun t3 w4 =>
 Pu (aa (.int .i64) .neq t3 (.int .i64 0)) fun t5 =>
 IfB t5
 (k (.int .i64 0) w4)
 (∃ (I6 : List Value → World → Prop) (m7 : List Value → World → Nat), I6 [(.int .i64 0), (.int .i64 1), (.int .i64 1)] w4 ∧
 ∀ (g79 : Fr) (w78 : World), ∀ n10 : Value, ∀ unit11 : Value, ∀ kv12 : Value, I6 [n10, unit11, kv12] w78 →
 (Pu (au r0) fun t80 =>
 Pu (faV 1 t80) fun t81 =>
 Ld (World.drew w78) t81 fun t82 w83 =>
 w83 = (World.drew w78) ∧
 Pu (aa (.int .i64) .add t82 kv12) fun t84 =>
 Pu (au r0) fun t85 =>
 Pu (faV 0 t85) fun t86 =>
 Ld (World.drew w78) t86 fun t87 w88 =>
 w88 = (World.drew w78) ∧
 Pu (bu t87) fun t89 =>
 Pu (aa (.int .i64) .gtr t84 t89) fun t90 =>
 IfB t90
 (Cl prog 204 [r0, (.int .i64 10)] (World.drew w78) fun t91 w92 =>
 k t91 w92)
 (Pu (au r0) fun t93 =>
 Pu (faV 0 t93) fun t94 =>
 Ld (World.drew (World.drew w78)) t94 fun t95 w96 =>
 w96 = (World.drew (World.drew w78)) ∧
 Pu (au r0) fun t97 =>
 Pu (faV 1 t97) fun t98 =>
 Ld (World.drew (World.drew w78)) t98 fun t99 w100 =>
 w100 = (World.drew (World.drew w78)) ∧
 Pu (aa (.int .i64) .add t99 kv12) fun t101 =>
 Pu (aa (.int .i64) .sub t101 (.int .i64 1)) fun t102 =>
 Pu (ixS t95 t102) fun t103 =>
 Pu (cvI IntKind.i64 t103) fun t104 =>
 Pu (aa (.int .i64) .eql kv12 (.int .i64 9)) fun t105 =>
 Gd (isB true t105) (fun kk => kk t104 (World.drew (World.drew w78))) (World.drew (World.drew w78)) fun t106 w107 =>
 Gd (isB true t105) (fun kk => Pu (aa (.int .i64) .geq t106 (.int .i64 128)) fun vv => kk vv w107) w107 fun t108 w109 =>
 Pu (ak t105 t108 (.bool false)) fun t110 =>
 Gd (isB false t110) (fun kk => kk t104 w109) w109 fun t111 w112 =>
 Gd (isB false t110) (fun kk => Pu (aa (.int .i64) .eql t111 (.int .i64 0)) fun vv => kk vv w112) w112 fun t113 w114 =>
 Gd (isB false t110) (fun kk => kk t113 w114) w114 fun t115 w116 =>
 Gd (isB true t115) (fun kk => kk kv12 w116) w116 fun t117 w118 =>
 Gd (isB true t115) (fun kk => Pu (aa (.int .i64) .gtr t117 (.int .i64 1)) fun vv => kk vv w118) w118 fun t119 w120 =>
 Gd (isB false t110) (fun kk => Pu (ak t115 t119 (.bool false)) fun vv => kk vv w120) w120 fun t121 w122 =>
 Pu (ak t110 (.bool true) t121) fun t123 =>
 IfB t123
 (Cl prog 204 [r0, (.int .i64 11)] w122 fun t124 w125 =>
 k t124 w125)
 (Pu (aa (.int .i64) .rem t104 (.int .i64 128)) fun t126 =>
 Pu (aa (.int .i64) .mul t126 unit11) fun t127 =>
 Pu (aa (.int .i64) .add n10 t127) fun t128 =>
 Pu (aa (.int .i64) .lss t104 (.int .i64 128)) fun t129 =>
 IfB t129
 (Pu (au r0) fun t130 =>
 Pu (faV 1 t130) fun t131 =>
 Ld w122 t131 fun t132 w133 =>
 Pu (aa (.int .i64) .add t132 kv12) fun t134 =>
 Pu (au r0) fun t135 =>
 Pu (faV 1 t135) fun t136 =>
 St 1 w133 t136 t134 fun u137 w138 =>
 Pu (aU eV [most1, (.int .i64 0)]) fun t139 =>
 Pu (aa (.int .i64) .gtr t128 t139) fun t140 =>
 IfB t140
 (Cl prog 204 [r0, (.int .i64 11)] w138 fun t141 w142 =>
 k t141 w142)
 (k t128 w138))
 (Pu (aa (.int .i64) .mul (.int .i64 128) unit11) fun t143 =>
 Pu (aa (.int .i64) .add kv12 (.int .i64 1)) fun t144 =>
 I6 [t128, t143, t144] w122 ∧ m7 [t128, t143, t144] w122 < m7 [n10, unit11, kv12] w78)))))
theorem c159 {k : KV} {r0 most1 : Value} {w : World} (h : T159 k r0 most1 w) : Cl prog 159 [r0, most1] w k :=
 cE ac mixed (fun j => bif Nat.beq j 7 then [5, 6, 7] else []) J0 Tryz.func159 (by kernel_rfl) (by kernel_rfl) (by kernel_rfl) h
def T160 (k : KV) (r0 most1 : Value) (w : World) : Prop :=
 Cl prog 159 [r0, most1] w fun t1 w2 =>
 Jn (fun vs26 w25 => ∀ g27 : Fr, vs26 = [] ∧
 (Pu (au r0) fun t28 =>
 Pu (faV 2 t28) fun t29 =>
 Ld w25 t29 fun t30 w31 =>
 Pu (aa (.int .i64) .neq t30 (.int .i64 0)) fun t32 =>
 IfB t32
 (k (.string (.mk #[])) w31)
 (Pu (au r0) fun t33 =>
 Pu (faV 0 t33) fun t34 =>
 Ld (World.drew w31) t34 fun t35 w36 =>
 w36 = (World.drew w31) ∧
 Pu (au r0) fun t37 =>
 Pu (faV 1 t37) fun t38 =>
 Ld (World.drew w31) t38 fun t39 w40 =>
 w40 = (World.drew w31) ∧
 Pu (au r0) fun t41 =>
 Pu (faV 1 t41) fun t42 =>
 Ld (World.drew w31) t42 fun t43 w44 =>
 w44 = (World.drew w31) ∧
 Pu (aa (.int .i64) .add t43 t1) fun t45 =>
 Pu (slS t35 (some t39) (some t45)) fun t46 =>
 Pu (au r0) fun t47 =>
 Pu (faV 1 t47) fun t48 =>
 Ld (World.drew w31) t48 fun t49 w50 =>
 Pu (aa (.int .i64) .add t49 t1) fun t51 =>
 Pu (au r0) fun t52 =>
 Pu (faV 1 t52) fun t53 =>
 St 1 w50 t53 t51 fun u54 w55 =>
 k t46 w55)))
 (fun jj3 =>
 Pu (au r0) fun t56 =>
 Pu (faV 2 t56) fun t57 =>
 Ld (World.drew w2) t57 fun t58 w59 =>
 w59 = (World.drew w2) ∧
 Pu (aa (.int .i64) .eql t58 (.int .i64 0)) fun t60 =>
 Gd (isB true t60) (fun kk => kk t1 (World.drew w2)) (World.drew w2) fun t61 w62 =>
 Gd (isB true t60) (fun kk => kk r0 w62) w62 fun t63 w64 =>
 Gd (isB true t60) (fun kk => Pu (au t63) fun vv => kk vv w64) w64 fun t65 w66 =>
 Gd (isB true t60) (fun kk => Pu (faV 0 t65) fun vv => kk vv w66) w66 fun t67 w68 =>
 Gd (isB true t60) (fun kk => Ld w68 t67 kk) w68 fun t69 w70 =>
 w70 = w68 ∧
 Gd (isB true t60) (fun kk => Pu (bu t69) fun vv => kk vv w68) w68 fun t71 w72 =>
 Gd (isB true t60) (fun kk => kk r0 w72) w72 fun t73 w74 =>
 Gd (isB true t60) (fun kk => Pu (au t73) fun vv => kk vv w74) w74 fun t75 w76 =>
 Gd (isB true t60) (fun kk => Pu (faV 1 t75) fun vv => kk vv w76) w76 fun t77 w78 =>
 Gd (isB true t60) (fun kk => Ld w78 t77 kk) w78 fun t79 w80 =>
 w80 = w78 ∧
 Gd (isB true t60) (fun kk => Pu (aa (.int .i64) .sub t71 t79) fun vv => kk vv w78) w78 fun t81 w82 =>
 Gd (isB true t60) (fun kk => Pu (aa (.int .i64) .gtr t61 t81) fun vv => kk vv w82) w82 fun t83 w84 =>
 Pu (ak t60 t83 (.bool false)) fun t85 =>
 IfB t85
 (Cl prog 204 [r0, (.int .i64 10)] w84 fun t86 w87 =>
 jj3 [] w87)
 (jj3 [] w84))
theorem c160 {k : KV} {r0 most1 : Value} {w : World} (h : T160 k r0 most1 w) : Cl prog 160 [r0, most1] w k :=
 cE ac mixed L0 (fun j => bif Nat.beq j 4 then some [] else none) Tryz.func160 (by kernel_rfl) (by kernel_rfl) (by kernel_rfl) h
def T161 (k : KV) (r0 many1 : Value) (w : World) : Prop :=
 Cl prog 159 [r0, many1] w fun t1 w2 =>
 ∃ (I3 : List Value → World → Prop) (m4 : List Value → World → Nat), I3 [(.slice none 0 0), (.int .i64 0)] w2 ∧
 ∀ (g26 : Fr) (w25 : World), ∀ out6 : Value, ∀ i7 : Value, I3 [out6, i7] w25 →
 (Pu (aa (.int .i64) .lss i7 t1) fun t27 =>
 Gd (isB true t27) (fun kk => kk r0 w25) w25 fun t28 w29 =>
 Gd (isB true t27) (fun kk => Pu (au t28) fun vv => kk vv w29) w29 fun t30 w31 =>
 Gd (isB true t27) (fun kk => Pu (faV 2 t30) fun vv => kk vv w31) w31 fun t32 w33 =>
 Gd (isB true t27) (fun kk => Ld w33 t32 kk) w33 fun t34 w35 =>
 Gd (isB true t27) (fun kk => Pu (aa (.int .i64) .eql t34 (.int .i64 0)) fun vv => kk vv w35) w35 fun t36 w37 =>
 Pu (ak t27 t36 (.bool false)) fun t38 =>
 IfB t38
 (Cl prog 159 [r0, (.int .i64 4611686018427387904)] w37 fun t39 w40 =>
 RunS prog (Instr.buildSlice 23 1 #[(0, t39)]) w40 fun t41 w42 =>
 RunS prog (Builtin.append_ #[23, 23] 23 #[out6, t41]) w42 fun t43 w44 =>
 Pu (aa (.int .i64) .add i7 (.int .i64 1)) fun t45 =>
 I3 [t43, t45] w44 ∧ m4 [t43, t45] w44 < m4 [out6, i7] w25)
 (k out6 w37))
theorem c161 {k : KV} {r0 many1 : Value} {w : World} (h : T161 k r0 many1 w) : Cl prog 161 [r0, many1] w k :=
 cE ac mixed (fun j => bif Nat.beq j 4 then [5, 7] else []) J0 Tryz.func161 (by kernel_rfl) (by kernel_rfl) (by kernel_rfl) h
def T162 (k : KV) (r0 : Value) (w : World) : Prop :=
 Pu (au r0) fun t1 =>
 Pu (faV 2 t1) fun t2 =>
 Ld (World.drew w) t2 fun t3 w4 =>
 w4 = (World.drew w) ∧
 Pu (aa (.int .i64) .eql t3 (.int .i64 0)) fun t5 =>
 Gd (isB true t5) (fun kk => kk r0 (World.drew w)) (World.drew w) fun t6 w7 =>
 Gd (isB true t5) (fun kk => Pu (au t6) fun vv => kk vv w7) w7 fun t8 w9 =>
 Gd (isB true t5) (fun kk => Pu (faV 1 t8) fun vv => kk vv w9) w9 fun t10 w11 =>
 Gd (isB true t5) (fun kk => Ld w11 t10 kk) w11 fun t12 w13 =>
 w13 = w11 ∧
 Gd (isB true t5) (fun kk => kk r0 w11) w11 fun t14 w15 =>
 Gd (isB true t5) (fun kk => Pu (au t14) fun vv => kk vv w15) w15 fun t16 w17 =>
 Gd (isB true t5) (fun kk => Pu (faV 0 t16) fun vv => kk vv w17) w17 fun t18 w19 =>
 Gd (isB true t5) (fun kk => Ld w19 t18 kk) w19 fun t20 w21 =>
 w21 = w19 ∧
 Gd (isB true t5) (fun kk => Pu (bu t20) fun vv => kk vv w19) w19 fun t22 w23 =>
 Gd (isB true t5) (fun kk => Pu (aa (.int .i64) .lss t12 t22) fun vv => kk vv w23) w23 fun t24 w25 =>
 Pu (ak t5 t24 (.bool false)) fun t26 =>
 IfB t26
 (k (.int .i64 12) w25)
 (Pu (au r0) fun t27 =>
 Pu (faV 2 t27) fun t28 =>
 Ld w25 t28 fun t29 w30 =>
 k t29 w30)
theorem c162 {k : KV} {r0 : Value} {w : World} (h : T162 k r0 w) : Cl prog 162 [r0] w k :=
 cE ac mixed L0 J0 Tryz.func162 (by kernel_rfl) (by kernel_rfl) (by kernel_rfl) h
def T163 (k : KV) (r0 : Value) (w : World) : Prop :=
 New (Value.cells r0) 28 w fun r1 w2 =>
 Pu (faV 0 r1) fun t3 =>
 Ld w2 t3 fun t4 w5 =>
 Pu (aa (.int .i64) .lss t4 (.int .i64 1)) fun t6 =>
 Gd (isB false t6) (fun kk => Pu (faV 0 r1) fun vv => kk vv w5) w5 fun t7 w8 =>
 Gd (isB false t6) (fun kk => Ld w8 t7 kk) w8 fun t9 w10 =>
 Gd (isB false t6) (fun kk => Pu (faV 1 r1) fun vv => kk vv w10) w10 fun t11 w12 =>
 Gd (isB false t6) (fun kk => Ld w12 t11 kk) w12 fun t13 w14 =>
 Gd (isB false t6) (fun kk => Pu (faV 2 r1) fun vv => kk vv w14) w14 fun t15 w16 =>
 Gd (isB false t6) (fun kk => Ld w16 t15 kk) w16 fun t17 w18 =>
 Gd (isB false t6) (fun kk => Pu (faV 9 r1) fun vv => kk vv w18) w18 fun t19 w20 =>
 Gd (isB false t6) (fun kk => Ld w20 t19 kk) w20 fun t21 w22 =>
 Gd (isB false t6) (fun kk => Pu (faV 4 r1) fun vv => kk vv w22) w22 fun t23 w24 =>
 Gd (isB false t6) (fun kk => Ld w24 t23 kk) w24 fun t25 w26 =>
 Gd (isB false t6) (fun kk => Pu (faV 5 r1) fun vv => kk vv w26) w26 fun t27 w28 =>
 Gd (isB false t6) (fun kk => Ld w28 t27 kk) w28 fun t29 w30 =>
 Gd (isB false t6) (fun kk => Pu (faV 6 r1) fun vv => kk vv w30) w30 fun t31 w32 =>
 Gd (isB false t6) (fun kk => Ld w32 t31 kk) w32 fun t33 w34 =>
 Gd (isB false t6) (fun kk => Pu (faV 7 r1) fun vv => kk vv w34) w34 fun t35 w36 =>
 Gd (isB false t6) (fun kk => Ld w36 t35 kk) w36 fun t37 w38 =>
 Gd (isB false t6) (fun kk => Pu (faV 8 r1) fun vv => kk vv w38) w38 fun t39 w40 =>
 Gd (isB false t6) (fun kk => Ld w40 t39 kk) w40 fun t41 w42 =>
 Gd (isB false t6) (fun kk => RunS prog (Instr.buildSlice 23 9 #[(0, t9), (1, t13), (2, t17), (3, t21), (4, t25), (5, t29), (6, t33), (7, t37), (8, t41)]) w42 kk) w42 fun t43 w44 =>
 Gd (isB false t6) (fun kk => Cl prog 205 [t43] w44 kk) w44 fun t45 w46 =>
 Gd (isB false t6) (fun kk => Pu (unV .not t45) fun vv => kk vv w46) w46 fun t47 w48 =>
 Pu (ak t6 (.bool true) t47) fun t49 =>
 Gd (isB false t49) (fun kk => Pu (faV 11 r1) fun vv => kk vv w48) w48 fun t50 w51 =>
 Gd (isB false t49) (fun kk => Ld w51 t50 kk) w51 fun t52 w53 =>
 Gd (isB false t49) (fun kk => Cl prog 205 [t52] w53 kk) w53 fun t54 w55 =>
 Gd (isB false t49) (fun kk => Pu (unV .not t54) fun vv => kk vv w55) w55 fun t56 w57 =>
 Pu (ak t49 (.bool true) t56) fun t58 =>
 Gd (isB false t58) (fun kk => Pu (faV 12 r1) fun vv => kk vv w57) w57 fun t59 w60 =>
 Gd (isB false t58) (fun kk => Ld w60 t59 kk) w60 fun t61 w62 =>
 Gd (isB false t58) (fun kk => Cl prog 205 [t61] w62 kk) w62 fun t63 w64 =>
 Gd (isB false t58) (fun kk => Pu (unV .not t63) fun vv => kk vv w64) w64 fun t65 w66 =>
 Pu (ak t58 (.bool true) t65) fun t67 =>
 IfB t67
 (k (.bool false) w66)
 (∃ (I68 : List Value → World → Prop) (m69 : List Value → World → Nat), I68 [(.int .i64 0)] w66 ∧
 ∀ (g89 : Fr) (w88 : World), ∀ i72 : Value, I68 [i72] w88 →
 (Pu (faV 13 r1) fun t90 =>
 Ld w88 t90 fun t91 w92 =>
 Pu (lenV t91) fun t93 =>
 Pu (aa (.int .i64) .lss i72 t93) fun t94 =>
 IfB t94
 (Pu (faV 13 r1) fun t95 =>
 Ld w92 t95 fun t96 w97 =>
 Pu (ixV 7 t96 i72) fun t98 =>
 Pu (faV 0 t98) fun t99 =>
 Ld w97 t99 fun t100 w101 =>
 Cl prog 206 [t100] w101 fun t102 w103 =>
 Pu (unV .not t102) fun t104 =>
 IfB t104
 (k (.bool false) w103)
 (Pu (aa (.int .i64) .add i72 (.int .i64 1)) fun t105 =>
 I68 [t105] w103 ∧ m69 [t105] w103 < m69 [i72] w88))
 (∃ (I106 : List Value → World → Prop) (m107 : List Value → World → Nat), I106 [(.int .i64 0)] w92 ∧
 ∀ (g137 : Fr) (w136 : World), ∀ i110 : Value, I106 [i110] w136 →
 (Pu (faV 14 r1) fun t138 =>
 Ld w136 t138 fun t139 w140 =>
 Pu (lenV t139) fun t141 =>
 Pu (aa (.int .i64) .lss i110 t141) fun t142 =>
 IfB t142
 (Pu (faV 14 r1) fun t143 =>
 Ld w140 t143 fun t144 w145 =>
 Pu (ixV 2 t144 i110) fun t146 =>
 Pu (faV 0 t146) fun t147 =>
 Ld w145 t147 fun t148 w149 =>
 Cl prog 206 [t148] w149 fun t150 w151 =>
 Pu (unV .not t150) fun t152 =>
 Gd (isB false t152) (fun kk => Pu (faV 14 r1) fun vv => kk vv w151) w151 fun t153 w154 =>
 Gd (isB false t152) (fun kk => Ld w154 t153 kk) w154 fun t155 w156 =>
 Gd (isB false t152) (fun kk => kk i110 w156) w156 fun t157 w158 =>
 Gd (isB false t152) (fun kk => Pu (ixV 2 t155 t157) fun vv => kk vv w158) w158 fun t159 w160 =>
 Gd (isB false t152) (fun kk => Pu (faV 1 t159) fun vv => kk vv w160) w160 fun t161 w162 =>
 Gd (isB false t152) (fun kk => Ld w162 t161 kk) w162 fun t163 w164 =>
 Gd (isB false t152) (fun kk => Cl prog 206 [t163] w164 kk) w164 fun t165 w166 =>
 Gd (isB false t152) (fun kk => Pu (unV .not t165) fun vv => kk vv w166) w166 fun t167 w168 =>
 Pu (ak t152 (.bool true) t167) fun t169 =>
 IfB t169
 (k (.bool false) w168)
 (Pu (aa (.int .i64) .add i110 (.int .i64 1)) fun t170 =>
 I106 [t170] w168 ∧ m107 [t170] w168 < m107 [i110] w136))
 (∃ (I171 : List Value → World → Prop) (m172 : List Value → World → Nat), I171 [(.int .i64 0)] w140 ∧
 ∀ (g202 : Fr) (w201 : World), ∀ i175 : Value, I171 [i175] w201 →
 (Pu (faV 15 r1) fun t203 =>
 Ld w201 t203 fun t204 w205 =>
 Pu (lenV t204) fun t206 =>
 Pu (aa (.int .i64) .lss i175 t206) fun t207 =>
 IfB t207
 (Pu (faV 15 r1) fun t208 =>
 Ld w205 t208 fun t209 w210 =>
 Pu (ixV 2 t209 i175) fun t211 =>
 Pu (faV 0 t211) fun t212 =>
 Ld w210 t212 fun t213 w214 =>
 Cl prog 206 [t213] w214 fun t215 w216 =>
 Pu (unV .not t215) fun t217 =>
 Gd (isB false t217) (fun kk => Pu (faV 15 r1) fun vv => kk vv w216) w216 fun t218 w219 =>
 Gd (isB false t217) (fun kk => Ld w219 t218 kk) w219 fun t220 w221 =>
 Gd (isB false t217) (fun kk => kk i175 w221) w221 fun t222 w223 =>
 Gd (isB false t217) (fun kk => Pu (ixV 2 t220 t222) fun vv => kk vv w223) w223 fun t224 w225 =>
 Gd (isB false t217) (fun kk => Pu (faV 1 t224) fun vv => kk vv w225) w225 fun t226 w227 =>
 Gd (isB false t217) (fun kk => Ld w227 t226 kk) w227 fun t228 w229 =>
 Gd (isB false t217) (fun kk => Cl prog 206 [t228] w229 kk) w229 fun t230 w231 =>
 Gd (isB false t217) (fun kk => Pu (unV .not t230) fun vv => kk vv w231) w231 fun t232 w233 =>
 Pu (ak t217 (.bool true) t232) fun t234 =>
 IfB t234
 (k (.bool false) w233)
 (Pu (aa (.int .i64) .add i175 (.int .i64 1)) fun t235 =>
 I171 [t235] w233 ∧ m172 [t235] w233 < m172 [i175] w201))
 (k (.bool true) w205)))))))
theorem c163 {k : KV} {r0 : Value} {w : World} (h : T163 k r0 w) : Cl prog 163 [r0] w k :=
 cE ac mixed (fun j => bif Nat.beq j 14 then [5] else bif Nat.beq j 9 then [4] else bif Nat.beq j 4 then [3] else []) J0 Tryz.func163 (by kernel_rfl) (by kernel_rfl) (by kernel_rfl) h
def T164 (k : KV) (ns0 : Value) (w : World) : Prop :=
 ∃ (I1 : List Value → World → Prop) (m2 : List Value → World → Nat), I1 [(.slice none 0 0), (.int .i64 0)] w ∧
 ∀ (g35 : Fr) (w34 : World), ∀ b4 : Value, ∀ i5 : Value, I1 [b4, i5] w34 →
 (Pu (lenV ns0) fun t36 =>
 Pu (aa (.int .i64) .lss i5 t36) fun t37 =>
 IfB t37
 (Pu (ixV 1 ns0 i5) fun t38 =>
 Ld w34 t38 fun t39 w40 =>
 Pu (aU eV [t39, (.int .i64 0)]) fun t41 =>
 ∃ (I42 : List Value → World → Prop) (m43 : List Value → World → Nat), I42 [b4, t41] w40 ∧
 ∀ (g59 : Fr) (w58 : World), ∀ b45 : Value, ∀ n46 : Value, I42 [b45, n46] w58 →
 (Pu (aa (.int .i64) .geq n46 (.int .i64 128)) fun t60 =>
 IfB t60
 (Pu (aa (.int .i64) .rem n46 (.int .i64 128)) fun t61 =>
 Pu (aa (.int .i64) .add t61 (.int .i64 128)) fun t62 =>
 Pu (cvI IntKind.u8 t62) fun t63 =>
 RunS prog (Instr.buildSlice 123 1 #[(0, t63)]) w58 fun t64 w65 =>
 RunS prog (Builtin.append_ #[123, 123] 123 #[b45, t64]) w65 fun t66 w67 =>
 Pu (aa (.int .i64) .quo n46 (.int .i64 128)) fun t68 =>
 I42 [t66, t68] w67 ∧ m43 [t66, t68] w67 < m43 [b45, n46] w58)
 (Pu (cvI IntKind.u8 n46) fun t69 =>
 RunS prog (Instr.buildSlice 123 1 #[(0, t69)]) w58 fun t70 w71 =>
 RunS prog (Builtin.append_ #[123, 123] 123 #[b45, t70]) w71 fun t72 w73 =>
 Pu (aa (.int .i64) .add i5 (.int .i64 1)) fun t74 =>
 I1 [t72, t74] w73 ∧ m2 [t72, t74] w73 < m2 [b4, i5] w34)))
 (RunS prog (convert 123 9 b4) w34 fun t75 w76 =>
 k t75 w76))
theorem c164 {k : KV} {ns0 : Value} {w : World} (h : T164 k ns0 w) : Cl prog 164 [ns0] w k :=
 cE ac mixed (fun j => bif Nat.beq j 6 then [3, 5] else bif Nat.beq j 3 then [3, 4] else []) J0 Tryz.func164 (by kernel_rfl) (by kernel_rfl) (by kernel_rfl) h
def T165 (k : KV) (s0 : Value) (w : World) : Prop :=
 Pu (bu s0) fun t1 =>
 RunS prog (Instr.buildSlice 23 1 #[(0, t1)]) w fun t2 w3 =>
 Cl prog 164 [t2] w3 fun t4 w5 =>
 Pu (aa TypeDesc.string .add t4 s0) fun t6 =>
 k t6 w5
theorem c165 {k : KV} {s0 : Value} {w : World} (h : T165 k s0 w) : Cl prog 165 [s0] w k :=
 cE ac mixed L0 J0 Tryz.func165 (by kernel_rfl) (by kernel_rfl) (by kernel_rfl) h
def T166 (k : KV) (p0 : Value) (w : World) : Prop :=
 New (Value.cells p0) 61 w fun p1 w2 =>
 LdN 6 w2 p1 fun t3 w4 =>
 Cl prog 132 [t3] w4 fun t5 w6 =>
 Pu (aJ t5 0) fun t7 =>
 Pu (aJ t5 1) fun t8 =>
 ∃ (I9 : List Value → World → Prop) (m10 : List Value → World → Nat), I9 [t7] w6 ∧
 ∀ (g30 : Fr) (w29 : World), ∀ s12 : Value, I9 [s12] w29 →
 (Pu (bu s12) fun t31 =>
 Pu (aa (.int .i64) .gtr t31 (.int .i64 0)) fun t32 =>
 Gd (isB true t32) (fun kk => kk s12 w29) w29 fun t33 w34 =>
 Gd (isB true t32) (fun kk => kk s12 w34) w34 fun t35 w36 =>
 Gd (isB true t32) (fun kk => Pu (bu t35) fun vv => kk vv w36) w36 fun t37 w38 =>
 Gd (isB true t32) (fun kk => Pu (aa (.int .i64) .sub t37 (.int .i64 1)) fun vv => kk vv w38) w38 fun t39 w40 =>
 Gd (isB true t32) (fun kk => Pu (ixS t33 t39) fun vv => kk vv w40) w40 fun t41 w42 =>
 Gd (isB true t32) (fun kk => Pu (aa (.int .u8) .eql t41 (.int .u8 0)) fun vv => kk vv w42) w42 fun t43 w44 =>
 Pu (ak t32 t43 (.bool false)) fun t45 =>
 IfB t45
 (Pu (bu s12) fun t46 =>
 Pu (aa (.int .i64) .sub t46 (.int .i64 1)) fun t47 =>
 Pu (slS s12 none (some t47)) fun t48 =>
 I9 [t48] w44 ∧ m10 [t48] w44 < m10 [s12] w29)
 (k s12 w44))
theorem c166 {k : KV} {p0 : Value} {w : World} (h : T166 k p0 w) : Cl prog 166 [p0] w k :=
 cE ac mixed (fun j => bif Nat.beq j 2 then [3] else []) J0 Tryz.func166 (by kernel_rfl) (by kernel_rfl) (by kernel_rfl) h
def T204 (k : KV) (r0 e1 : Value) (w : World) : Prop :=
 Pu (au r0) fun t1 =>
 Pu (faV 2 t1) fun t2 =>
 St 1 w t2 e1 fun u3 w4 =>
 k (.int .i64 0) w4
theorem c204 {k : KV} {r0 e1 : Value} {w : World} (h : T204 k r0 e1 w) : Cl prog 204 [r0, e1] w k :=
 cE ac mixed L0 J0 Tryz.func204 (by kernel_rfl) (by kernel_rfl) (by kernel_rfl) h
def T205 (k : KV) (l0 : Value) (w : World) : Prop :=
 ∃ (I1 : List Value → World → Prop) (m2 : List Value → World → Nat), I1 [(.int .i64 0)] w ∧
 ∀ (g19 : Fr) (w18 : World), ∀ i5 : Value, I1 [i5] w18 →
 (Pu (lenV l0) fun t20 =>
 Pu (aa (.int .i64) .lss i5 t20) fun t21 =>
 IfB t21
 (Pu (ixV 1 l0 i5) fun t22 =>
 Ld w18 t22 fun t23 w24 =>
 Cl prog 206 [t23] w24 fun t25 w26 =>
 Pu (unV .not t25) fun t27 =>
 IfB t27
 (k (.bool false) w26)
 (Pu (aa (.int .i64) .add i5 (.int .i64 1)) fun t28 =>
 I1 [t28] w26 ∧ m2 [t28] w26 < m2 [i5] w18))
 (k (.bool true) w18))
theorem c205 {k : KV} {l0 : Value} {w : World} (h : T205 k l0 w) : Cl prog 205 [l0] w k :=
 cE ac mixed (fun j => bif Nat.beq j 2 then [3] else []) J0 Tryz.func205 (by kernel_rfl) (by kernel_rfl) (by kernel_rfl) h
def T206 (k : KV) (n0 : Value) (w : World) : Prop :=
 Pu (aa (.int .i64) .geq n0 (.int .i64 0)) fun t1 =>
 Gd (isB true t1) (fun kk => kk n0 w) w fun t2 w3 =>
 Gd (isB true t1) (fun kk => Pu (aa (.int .i64) .leq t2 (.int .i64 4611686018427387904)) fun vv => kk vv w3) w3 fun t4 w5 =>
 Pu (ak t1 t4 (.bool false)) fun t6 =>
 k t6 w5
theorem c206 {k : KV} {n0 : Value} {w : World} (h : T206 k n0 w) : Cl prog 206 [n0] w k :=
 cE ac mixed L0 J0 Tryz.func206 (by kernel_rfl) (by kernel_rfl) (by kernel_rfl) h
theorem iT (w : World) (n : Nat) (h : n ≤ 281474976710656) : ∃ w', (Instr.makeSlice 123 (.int .i64 n) (.int .i64 n)).run prog w = .ok (.slice (some ⟨w.heap.size, 0, none⟩) n n) w' ∧ BRow w' w.heap.size 5 (aG n) ∧ Fm (fun _ => False) w w' :=
 ⟨_, BRow.make B38 w n h, az w _, Fm.alloc _ _ _⟩
theorem iR {w : World} {g n : Nat} (h : BRow w g 5 (aG n)) : (convert 123 9 (.slice (some ⟨g, 0, none⟩) n n)).run prog w = .ok (stv (aG n)) w := by
 have := BRow.conv B38 h (o := 0) (n := n) (by rw [bx]; omega) n
 rw [List.drop_zero, List.take_of_length_le (by rw [bx]; exact Nat.le_refl _)] at this
 exact this
theorem ec {w : World} {cs : Array Value} {p : Pg} (h : PgAs w cs p) : Cl prog 132 [.agg cs] w fun r w' => r = lI p ∧ Fm (fun _ => False) w w' := by
 obtain ⟨v, rfl, hone, hc⟩ := h.ex
 have hin := h.ins
 have hclt := hc.lt
 unfold maxLen at hclt
 refine c132 ?_; unfold T132
 refine ao ?_
 intro x1 w1 hx1 hs1 hw1 hf1
 replace hw1 : PB w1 x1 p v := hw1
 have hc1 := hc.keep hf1 (fun _ _ e => e)
 have hlen := hc.lenV
 have hall := hw1.all
 have rg : ∀ {P : Prop}, bN p = true → lI p = .tuple #[stv [], iv 4] := fun hr => bL hr
 simp only [RS, hw1.c0]
 cases h1 : decide (p.lsn < 0) with
 | true => simp only [RS]; exact ⟨(bL (by unfold bN; simp only [decide_eq_true_eq] at *; omega)).symm, hf1⟩
 | false =>
 simp only [RS, hw1.c1]
 cases h2 : decide (p.kind < 1) with
 | true => simp only [RS]; exact ⟨(bL (by unfold bN; simp only [decide_eq_true_eq] at *; omega)).symm, hf1⟩
 | false =>
 simp only [RS, hw1.c1]
 cases h3 : decide (3 < p.kind) with
 | true => simp only [RS]; exact ⟨(bL (by unfold bN; simp only [decide_eq_true_eq] at *; omega)).symm, hf1⟩
 | false =>
 simp only [RS, hw1.c2]
 cases h4 : decide (p.level < 0) with
 | true => simp only [RS]; exact ⟨(bL (by unfold bN; simp only [decide_eq_true_eq] at *; omega)).symm, hf1⟩
 | false =>
 simp only [RS, hw1.c2]
 cases h5 : decide (255 < p.level) with
 | true => simp only [RS]; exact ⟨(bL (by unfold bN; simp only [decide_eq_true_eq] at *; omega)).symm, hf1⟩
 | false =>
 simp only [RS, hw1.c3]
 cases h6 : decide (p.right < 0) with
 | true => simp only [RS]; exact ⟨(bL (by unfold bN; simp only [decide_eq_true_eq] at *; omega)).symm, hf1⟩
 | false =>
 simp only [RS, hw1.c3]
 cases h7 : decide (4294967295 < p.right) with
 | true => simp only [RS]; exact ⟨(bL (by unfold bN; simp only [decide_eq_true_eq] at *; omega)).symm, hf1⟩
 | false =>
 have hr : bN p = false := by unfold bN; simp only [decide_eq_false_iff_not] at *; omega
 have d1 : decide ((255 : Int) < (p.high.length : Int)) = decide (255 < p.high.length) := by rw [decide_eq_decide]; omega
 have d2 : decide ((255 : Int) < (p.items.length : Int)) = decide (255 < p.items.length) := by rw [decide_eq_decide]; omega
 simp only [RS, hw1.c4, aj, d1]
 cases h8 : decide (255 < p.high.length) with
 | true => simp only [RS]; exact ⟨(fq hr (by unfold fV; rw [decide_eq_true_eq] at *; omega)).symm, hf1⟩
 | false =>
 simp only [RS, hw1.c5, hlen, d2]
 cases h9 : decide (255 < p.items.length) with
 | true => simp only [RS]; exact ⟨(fq hr (by unfold fV; rw [decide_eq_true_eq] at *; omega)).symm, hf1⟩
 | false =>
 simp only [RS, hall]
 refine (nY (p := p) ⟨⟨v, rfl, hone, hc1⟩, h.small, h.ins⟩).mono ?_
 rintro _ w2 ⟨rfl, hf2⟩
 have hsb := jk h (by rw [decide_eq_false_iff_not] at h9; omega)
 have d3 : decide (512 < IntKind.i64.wrap (cI p)) = decide (512 < cI p) := by rw [bH (by omega), decide_eq_decide]; omega
 have hw2 := hw1.keep hf2 (fun e => e)
 have hF2 := Fmf hf1 hf2
 simp only [RS, d3]
 cases h10 : decide (512 < cI p) with
 | true => simp only [RS]; exact ⟨(fq hr (by unfold fV; rw [decide_eq_true_eq] at *; omega)).symm, hF2⟩
 | false =>
 have hl : fV p = false := by unfold fV; simp only [decide_eq_false_iff_not] at *; omega
 have hok := ko hr hl
 obtain ⟨⟨b1, b2, b3, b4, b5, b6, b7⟩, b8, b9, b10⟩ := ka hok
 have hbl := fx p
 have hf5 := Fm.drew (fun _ => False) w2
 have hP5 : PB w2.drew x1 p v := hw2.keep hf5 (fun e => e)
 have hF5 : Fm (fun _ => False) w w2.drew := Fmf hF2 hf5
 simp only [RS]
 generalize hw5 : w2.drew = w5 at hP5 hF5
 refine ⟨fun w => PB w x1 p v, hP5, ?_⟩
 simp only [RS, hw2.c0, hP5.c0, true_and]
 refine ⟨iv p.kind, fun w6 h6 => ?_, ?_⟩
 ·simp only [RS, h6.c1]; trivial
 refine ⟨iv p.level, fun w6 h6 => ?_, ?_⟩
 ·simp only [RS, h6.c2]; trivial
 refine ⟨iv p.right, fun w6 h6 => ?_, ?_⟩
 ·simp only [RS, h6.c3]; trivial
 refine ⟨v, fun w6 h6 => ?_, ?_⟩
 ·simp only [RS, h6.c5]; trivial
 simp only [RS, hlen]
 refine ⟨stv p.high, fun w6 h6 => ?_, ?_⟩
 ·simp only [RS, h6.c4]; trivial
 simp only [RS, aj]
 refine ⟨stv p.high, fun w6 h6 => ?_, ?_⟩
 ·simp only [RS, h6.c4]; trivial
 have g1 : fg p.lsn 8 = beN 8 p.lsn.toNat := dW (k := 8) b1 (by omega) (by omega)
 have g2 : fg p.kind 1 = beN 1 p.kind.toNat := dW (k := 1) (by omega) (by omega) (by omega)
 have g3 : fg p.level 1 = beN 1 p.level.toNat := dW (k := 1) b2 (by omega) (by omega)
 have g4 : fg p.right 4 = beN 4 p.right.toNat := dW (k := 4) b3 (by omega) (by omega)
 have g5 : fg (p.items.length : Nat) 1 = beN 1 p.items.length := bB (n := p.items.length) (w := 1) (by omega) (by omega)
 have g6 : fg (p.high.length : Nat) 1 = beN 1 p.high.length := bB (n := p.high.length) (w := 1) (by omega) (by omega)
 refine (bk w5 hin.1 8).mono ?_
 rintro _ w6 ⟨rfl, hf6⟩
 have hP6 := hP5.keep hf6 (fun e => e)
 refine ⟨hP6, ?_⟩
 refine (bk w6 hin.2.1 1).mono ?_
 rintro _ w7 ⟨rfl, hf7⟩
 have hP7 := hP6.keep hf7 (fun e => e)
 refine ⟨hP7, ?_⟩
 rw [g1, g2, dL (by rw [aw, aw]; omega)]
 try simp only [RS]
 refine (bk w7 hin.2.2.1 1).mono ?_
 rintro _ w8 ⟨rfl, hf8⟩
 have hP8 := hP7.keep hf8 (fun e => e)
 refine ⟨hP8, ?_⟩
 rw [g3, dL (by simp only [List.length_append, aw]; omega)]
 try simp only [RS]
 refine (bk w8 hin.2.2.2.1 4).mono ?_
 rintro _ w9 ⟨rfl, hf9⟩
 have hP9 := hP8.keep hf9 (fun e => e)
 refine ⟨hP9, ?_⟩
 rw [g4, dL (by simp only [List.length_append, aw]; omega)]
 try simp only [RS]
 refine (bk w9 (n := (p.items.length : Nat)) (by unfold In; omega) 1).mono ?_
 rintro _ w10 ⟨rfl, hf10⟩
 have hP10 := hP9.keep hf10 (fun e => e)
 refine ⟨hP10, ?_⟩
 rw [g5, dL (by simp only [List.length_append, aw]; omega)]
 try simp only [RS]
 refine (bk w10 (n := (p.high.length : Nat)) (by unfold In; omega) 1).mono ?_
 rintro _ w11 ⟨rfl, hf11⟩
 have hP11 := hP10.keep hf11 (fun e => e)
 refine ⟨hP11, ?_⟩
 rw [g6, dL (by simp only [List.length_append, aw]; omega)]
 try simp only [RS]
 rw [dL (by simp only [List.length_append, aw]; omega)]
 try simp only [RS]
 have hhead : beN 8 p.lsn.toNat ++ beN 1 p.kind.toNat ++ beN 1 p.level.toNat ++ beN 4 p.right.toNat ++ beN 1 p.items.length ++ beN 1 p.high.length ++ p.high = eY p := by
  simp only [eY, List.append_assoc]
 rw [hhead]
 have hF11 : Fm (fun _ => False) w w11 := Fmf hF5 (Fmf (Fmf (Fmf hf6 hf7) (Fmf hf8 hf9)) (Fmf hf10 hf11))
 refine ⟨fun vs w15 => ∃ i : Nat, vs = [stv (eY p ++ (p.items.take i).flatMap itB), iv i] ∧ i ≤ p.items.length ∧ PB w15 x1 p v ∧ Fm (fun _ => False) w w15, fun vs _ => (p.items.length - nth vs 1).toNat, ⟨0, by simp, by omega, hP11, hF11⟩, ?_⟩
 rintro _ w15 sv ivv ⟨i, hvs, hi, hP15, hF15⟩
 cases hvs
 have hpl : (bQ p).length = (eY p).length + (p.items.flatMap itB).length := by rw [bQ, List.length_append]
 by_cases hlt : i < p.items.length
 ·have e1 : decide ((i : Int) < (p.items.length : Int)) = true := by rw [decide_eq_true_eq]; omega
  have e2 : IntKind.i64.wrap ((i : Int) + 1) = ((i + 1 : Nat) : Int) := by rw [ab] <;> omega
  have hx : p.items[i]? = some p.items[i] := List.getElem?_eq_getElem hlt
  have hxm : p.items[i] ∈ p.items := List.getElem_mem hlt
  generalize p.items[i] = x at hx hxm
  have hxs := fT b10 x hxm
  have hfl := qw p.items (i + 1)
  rw [flat_take hx, List.length_append, kb] at hfl
  obtain ⟨ad, hix, _, hcx⟩ := (hc.keep hF15 (fun _ _ e => e)).at1 (i := i) (x := stv x) (by rw [List.getElem?_map, hx]; rfl) .i64
  have hf16 := Fm.drew (fun _ => False) w15
  have hP16 : PB w15.drew x1 p v := hP15.keep hf16 (fun e => e)
  have hcx16 : w15.drew.cell? ad = some (stv x) := hf16.cell' hcx (fun e => e)
  simp only [RS, hP15.c5, hlen, e1]
  refine ⟨fun w => PB w x1 p v ∧ w.cell? ad = some (stv x), ⟨hP16, hcx16⟩, ?_⟩
  have hF16 := Fmf hF15 hf16
  generalize w15.drew = w16 at hP16 hcx16 hF16 hf16
  simp only [RS, hP15.c5, hP16.c5, true_and, hix, hcx, hcx16, aj]
  refine ⟨v, fun w6 h6 => ?_, ?_⟩
  ·simp only [RS, h6.1.c5]; trivial
  simp only [RS, hix]
  refine ⟨stv x, fun w6 h6 => ?_, ?_⟩
  ·simp only [RS, h6.2]; trivial
  refine (bk w16 (n := (x.length : Nat)) (by unfold In; omega) 2).mono ?_
  rintro _ w17 ⟨rfl, hf17⟩
  have hP17 := hP16.keep hf17 (fun e => e)
  refine ⟨⟨hP17, hf17.cell' hcx16 (fun e => e)⟩, ?_⟩
  have g7 : fg (x.length : Nat) 2 = beN 2 x.length := bB (n := x.length) (w := 2) (by omega) (by omega)
  rw [g7, dL (by simp only [List.length_append, aw]; omega)]
  try simp only [RS]
  rw [dL (by simp only [List.length_append, aw]; omega)]
  simp only [RS, e2]
  refine ⟨⟨i + 1, ?_, by omega, hP17, Fmf hF16 hf17⟩, by simp only [bM]; omega⟩
  rw [flat_take hx, itB]
  simp only [List.append_assoc]
 ·obtain rfl : i = p.items.length := by omega
  have e1 : decide (((p.items.length : Nat) : Int) < (p.items.length : Int)) = false := by simp
  rw [List.take_length, show eY p ++ p.items.flatMap itB = bQ p from rfl]
  have e3 : IntKind.i64.wrap (508 - ((bQ p).length : Int)) = ((508 - (bQ p).length : Nat) : Int) := by rw [ab] <;> omega
  simp only [RS, hP15.c5, hlen, e1, aj, e3]
  obtain ⟨w16, hm, hb16, hf16⟩ := iT w15 (508 - (bQ p).length) (by omega)
  refine af hm ?_
  refine af (iR hb16) ?_
  rw [dL (by rw [bx]; omega), show bQ p ++ aG (508 - (bQ p).length) = bX p from rfl]
  try simp only [RS]
  have htl := iB b10
  refine (fE w16 (bX p) (by omega)).mono ?_
  rintro _ w16 ⟨rfl, rfl⟩
  obtain ⟨q1, q2⟩ := gr (bX p)
  simp only [RS, aV, q2]
  refine (bk w16 q1 4).mono ?_
  rintro _ w19 ⟨rfl, hf19⟩
  have g8 : fg (crc (bX p) : Nat) 4 = beN 4 (crc (bX p)) := bB (n := crc (bX p)) (w := 4) (by omega) (by omega)
  rw [g8, dL (by rw [aw]; omega)]
  try simp only [RS]
  exact ⟨(qC hok).symm, Fmf (Fmf hF15 hf16) hf19⟩
end Go.Proofs.YthbngnlmgplijaaGreatDoor
namespace Go.Al
def OutAt (w : World) (b0 : Nat) (e : TypeId) (v : Value) (B : Bs) : Prop :=
 ∃ g cap cur fz, v = .slice (some ⟨g, 0, none⟩) B.length cap ∧ b0 ≤ g ∧ w.heap[g]? = some (.cells cur e fz) ∧ B.length ≤ cap ∧ cap ≤ maxLen ∧ cur.size = cap ∧ cur.toList.take B.length = bc B ∧ (fz = (0, 0) ∨ cap ≤ fz.1)
theorem OutAt.keep {S : Nat → Prop} {w w' : World} {b0 : Nat} {e : TypeId} {v : Value} {B : Bs} (h : OutAt w b0 e v B) (hf : Fm S w w') (hs : ∀ y, b0 ≤ y → y < w.heap.size → ¬ S y) : OutAt w' b0 e v B := by
 obtain ⟨g, cap, cur, fz, h1, h2, h3, h4⟩ := h
 exact ⟨g, cap, cur, fz, h1, h2, hf.heap h3 (hs g h2 (aq h3)), h4⟩
theorem OutAt.new {P : Program} {t e s : TypeId} (B : ByteT P t e s) (w : World) (l : Bs) (hl : l.length ≤ maxLen) {b0 : Nat} (hb : b0 ≤ w.heap.size) : ∃ v w', (convert s t (stv l)).run P w = .ok v w' ∧ OutAt w' b0 e v l ∧ Fm (fun _ => False) w w' := by
 have hr := run_bytes_of_string (P := P) w s t e (str l) B.st B.sl B.u8
 rw [aj] at hr
 have hge := grownCap_ge w l.length 0 e
 have hle := grownCap_le_maxLen w l.length 0 e hl
 have hz : (bytesRow (str l) (grownCap w l.length 0 e)).size = grownCap w l.length 0 e := by
  unfold bytesRow
  simp only [Array.size_append, Array.size_map, Array.size_replicate]
  have : (str l).data.size = l.length := by simp [str]
  rw [aj]
  omega
 refine ⟨_, _, hr, ⟨_, _, _, _, rfl, hb, az w.drew _, hge, hle, hz, ?_, .inr (by rw [hz]; exact Nat.le_refl _)⟩, (Fm.drew _ w).trans (Fm.alloc _ w.drew _) (fun _ _ e => e) (fun _ _ e => e)⟩
 have : (bytesRow (str l) (grownCap w l.length 0 e)).toList = bc l ++ List.replicate (grownCap w l.length 0 e - l.length) (.int .u8 0) := by
  unfold bytesRow
  rw [Array.toList_append, Array.toList_map, Array.toList_replicate, aj]; rfl
 rw [this, List.take_append_of_le_length (by rw [ba]; exact Nat.le_refl _), List.take_of_length_le (by rw [ba]; exact Nat.le_refl _)]
theorem eZ (P : Program) (g o : Nat) (t : TypeId) (fz : Nat × Nat) : ∀ (vs : List Value) (i : Nat) (cur : Array Value) (w : World), w.heap[g]? = some (.cells cur t fz) → (fz = (0, 0) ∨ cur.size ≤ fz.1) → o + i + vs.length ≤ cur.size → (∀ v ∈ vs, v.oneCell' = true) →
  (storeCells ⟨g, o, none⟩ vs i).run P w = .ok () (w.setRow g (cur.toList.take (o + i) ++ vs ++ cur.toList.drop (o + i + vs.length)).toArray)
 | [], i, cur, w, hg, _, _, _ => by
  simp only [storeCells, List.append_nil, List.length_nil, Nat.add_zero, List.take_append_drop, Array.toArray_toList]
  rw [setRow_self w g cur t fz hg]
  rfl
 | v :: rest, i, cur, w, hg, hfz, hl, h1 => by
  have hi : o + i < cur.size := by simp at hl; omega
  have hadd : (⟨g, o, none⟩ : Addr).add i = ⟨g, o + i, none⟩ := by unfold Addr.add; split <;> simp_all
  have hcell : w.cell? ⟨g, o + i, none⟩ = some cur[o + i] := by simp [World.cell?, hg, hi]
  have hfro : w.frozen? ⟨g, o + i, none⟩ = false := by
   obtain ⟨lo, hi'⟩ := fz
   simp only [World.frozen?, hg, Bool.and_eq_false_iff, decide_eq_false_iff_not]
   rcases hfz with h | h
   ·cases h; right; omega
   ·left
    simp only at h
    omega
  have hst : (store ((⟨g, o, none⟩ : Addr).add i) v).run P w = .ok () (w.setRow g (cur.setIfInBounds (o + i) v)) := by
   rw [hadd, run_store P w _ v _ (h1 v (by simp)), hcell]
   simp [hfro, setCell_eq_setRow w g (o + i) cur t fz v hg]
  have ih := eZ P g o t fz rest (i + 1) (cur.setIfInBounds (o + i) v) (w.setRow g (cur.setIfInBounds (o + i) v)) (setRow_heap w g cur _ t _ hg) (by simpa using hfz) (by simp at hl ⊢; omega) (fun x hx => h1 x (by simp [hx]))
  simp only [storeCells, Sem.run_bind, hst, Result.andThen_ok, ih, setRow_setRow]
  congr 3
  have e := list_seg_step cur.toList (o + i) v rest (by simp at hl ⊢; omega)
  simpa [Array.toList_setIfInBounds, Nat.add_assoc] using e
theorem OutAt.app {P : Program} {t e s : TypeId} (B : ByteT P t e s) {w : World} {b0 : Nat} {v : Value} {L : Bs} (h : OutAt w b0 e v L) (x : Bs) (ty : TypeId) (hl : L.length + x.length ≤ 100000000000) (hb : b0 ≤ w.heap.size) :
  ∃ v' w', (Builtin.append_ #[t, s] ty #[v, stv x]).run P w = .ok v' w' ∧ OutAt w' b0 e v' (L ++ x) ∧ Fm (fun y => b0 ≤ y) w w' := by
 obtain ⟨i, h1, h2, h3, h4⟩ := B.info
 obtain ⟨g, cap, cur, fz, rfl, hbg, hg, hnc, hcm, hcs, htake, hfz⟩ := h
 have hsx : Lib.strCells (str x) = bc x := rfl
 have hxz : (str x).size = x.length := aj x
 by_cases hroom : L.length + x.length ≤ cap
 ·have hf := Lib.run_firstCells_string (P := P) w 1 (str x)
  rw [hsx, hxz] at hf
  have hst := eZ P g L.length e fz (bc x) 0 cur w hg (by rw [hcs]; exact hfz) (by rw [ba, hcs]; omega) (nd x)
  simp only [Nat.add_zero, ba] at hst
  have hr : (Builtin.append_ #[t, s] ty #[.slice (some ⟨g, 0, none⟩) L.length cap, stv x]).run P w = .ok (.slice (some ⟨g, 0, none⟩) (L.length + x.length) cap) (w.setRow g (cur.toList.take L.length ++ bc x ++ cur.toList.drop (L.length + x.length)).toArray) := by
   simp [Builtin.append_, an B.sl, an B.st, sizeOf, typeInfo, h1, h3, Builtin.lenOf, aj, hroom, hf, Addr.add_lit, hst]
  refine ⟨_, _, hr, ⟨g, cap, _, fz, by rw [List.length_append], hbg, setRow_heap w g cur _ e _ hg, by rw [List.length_append]; exact hroom, hcm, ?_, ?_, hfz⟩, ⟨rfl, rfl, rfl, by simp, fun k _ hk => setRow_other w g k _ (fun e => hk (by rw [e]; exact hbg))⟩⟩
  ·simp only [List.size_toArray, List.length_append, List.length_take, List.length_drop, Array.length_toList, ba]
   omega
  ·rw [htake, ← bA, List.take_append_of_le_length (by rw [ba]; exact Nat.le_refl _), List.take_of_length_le (by rw [ba]; exact Nat.le_refl _)]
 ·have holds : ∀ j u, (bc L)[j]? = some u → w.cell? ((⟨g, 0, none⟩ : Addr).add j) = some u := by
   intro j u hj
   rw [← htake, List.getElem?_take] at hj
   split at hj
   ·rw [Addr.add_lit, ag hg]
    simpa using hj
   ·cases hj
  have hr := Lib.run_append_grow_string (P := P) w t s ty e i (.int .u8 0) B.sl B.st h1 h2 ⟨g, 0, none⟩ L.length cap (bc L) (by rw [ba, h3, Nat.mul_one]) holds (str x) (by rw [hxz]; omega) (by rw [hxz]; omega) (by rw [hxz, h4]; exact growslice_fits (by omega) (by omega))
  rw [hxz, hsx] at hr
  have hge := grownCap_ge w (L.length + x.length) cap e
  have hcm' : grownCap w (L.length + x.length) cap e ≤ maxLen := grownCap_le_maxLen w (L.length + x.length) cap e (by unfold maxLen; omega)
  refine ⟨_, _, hr, ⟨w.heap.size, _, _, (0, 0), by rw [List.length_append], hb, az w.drew _, by rw [List.length_append]; exact hge, hcm', ?_, ?_, .inl rfl⟩, ⟨rfl, rfl, rfl, by simp, fun k hk _ => (Fm.alloc (fun _ => False) w.drew _).block k hk (fun e => e)⟩⟩
  ·have hz1 : (Value.int .u8 0).cells.size = 1 := rfl
   simp only [Array.size_append, List.size_toArray, size_zeroCells, hz1, ba]
   omega
  ·simp only [Array.toList_append, List.append_assoc]
   rw [← List.append_assoc, ← bA, List.take_append_of_le_length (by rw [ba]; exact Nat.le_refl _), List.take_of_length_le (by rw [ba]; exact Nat.le_refl _)]
theorem OutAt.conv {P : Program} {t e s : TypeId} (B : ByteT P t e s) {w : World} {b0 : Nat} {v : Value} {L : Bs} {e' : TypeId} (h : OutAt w b0 e' v L) : (convert t s v).run P w = .ok (stv L) w := by
 obtain ⟨g, cap, cur, fz, rfl, hbg, hg, hnc, hcm, hcs, htake, hfz⟩ := h
 have hx : BX w g e' L := ⟨cur, fz, hg, htake, by rw [hcs]; exact hnc, hfz.imp id fun h => by omega⟩
 have := hx.conv (P := P) B (o := 0) (n := L.length) (by omega) cap
 rw [List.drop_zero, List.take_length] at this
 exact this
end Go.Al
namespace Go.Proofs.YthbngnlmgplijaaGreatDoor
open Go.Al Go.Proofs
theorem cy (w : World) (n : Int) : Cl prog 206 [iv n] w fun v w' => v = .bool (!da n) ∧ w' = w := by
 refine c206 ?_; unfold T206
 simp only [RS]
 cases h1 : decide (0 ≤ n) with
 | true =>
  rw [decide_eq_true_eq] at h1
  have e1 : decide (n < 0) = false := by rw [decide_eq_false_iff_not]; omega
  have e2 : decide (n ≤ 4611686018427387904) = !decide (4611686018427387904 < n) := by
   rw [← decide_not, decide_eq_decide]; omega
  unfold da
  rw [e1]
  simp only [RS, e2, Bool.false_or]
  exact ⟨(by trivial), (by trivial)⟩
 | false =>
  rw [decide_eq_false_iff_not] at h1
  have e1 : decide (n < 0) = true := by rw [decide_eq_true_eq]; omega
  unfold da
  rw [e1]
  simp only [RS, Bool.true_or]
  exact ⟨(by trivial), (by trivial)⟩
theorem fL {w : World} {v : Value} {L : List Int} (h : CellsAt w v L.length 1 (L.map iv)) : Cl prog 205 [v] w fun u w' => u = .bool (!L.any da) ∧ w' = w := by
 have hlt := h.lt
 unfold maxLen at hlt
 refine c205 ?_; unfold T205
 refine ⟨fun vs w2 => ∃ i : Nat, vs = [iv i] ∧ i ≤ L.length ∧ (L.take i).any da = false ∧ w2 = w, fun vs _ => (L.length - nth vs 0).toNat, ⟨0, rfl, by omega, rfl, rfl⟩, ?_⟩
 rintro _ w2 ivv ⟨i, hvs, hi, hno, rfl⟩
 cases hvs
 by_cases hl : i < L.length
 ·have e1 : decide ((i : Int) < (L.length : Int)) = true := by rw [decide_eq_true_eq]; omega
  have e2 : IntKind.i64.wrap ((i : Int) + 1) = ((i + 1 : Nat) : Int) := by rw [ab] <;> omega
  have hx : L[i]? = some L[i] := List.getElem?_eq_getElem hl
  generalize L[i] = n at hx
  obtain ⟨ad, hix, _, hc⟩ := h.at1 (i := i) (x := iv n) (by rw [List.getElem?_map, hx]; rfl) .i64
  simp only [RS, h.lenV, e1, hix, hc]
  refine (cy w2 n).mono ?_
  rintro _ w3 ⟨rfl, rfl⟩
  cases hb : da n with
  | true =>
   simp only [RS]
   refine ⟨?_, (by trivial)⟩
   rw [List.any_eq_true.2 ⟨n, List.mem_of_getElem? hx, hb⟩]
   rfl
  | false =>
   simp only [RS, e2]
   refine ⟨⟨i + 1, rfl, by omega, ?_, (by trivial)⟩, by simp only [bw]; omega⟩
   rw [List.take_add_one, hx, List.any_append, hno]
   simp [hb]
 ·have hie : i = L.length := by omega
  subst hie
  have e1 : decide (((L.length : Nat) : Int) < (L.length : Int)) = false := by simp
  rw [List.take_length] at hno
  simp only [RS, h.lenV, e1]
  exact ⟨by rw [hno]; rfl, (by trivial)⟩
theorem fB {w : World} {v : Value} {ns : List Int} (hns : CellsAt w v ns.length 1 (ns.map iv)) (hin : ∀ n ∈ ns, n ≤ 9223372036854775807) (hl : ns.length ≤ 1000000000) :
  Cl prog 164 [v] w fun u w' => u = stv (aO ns) ∧ Fm (fun _ => False) w w' := by
 refine c164 ?_; unfold T164
 refine ⟨fun vs w2 => ∃ (k : Nat) (o : Value), vs = [o, iv k] ∧ k ≤ ns.length ∧ w2.ownsRow w.heap.size 5 1 o (aO (ns.take k)).length (bc (aO (ns.take k))) ∧ Fm (fun _ => False) w w2, fun vs _ => (ns.length - nth vs 1).toNat, ⟨0, _, rfl, by omega, World.ownsRow_nil _ _ _ _, Fm.refl _ _⟩, ?_⟩
 rintro _ w2 ov ik ⟨k, o, hvs, hk, h2, hf2⟩
 cases hvs
 by_cases hlt : k < ns.length
 ·have e1 : decide ((k : Int) < (ns.length : Int)) = true := by rw [decide_eq_true_eq]; omega
  have hx : ns[k]? = some ns[k] := List.getElem?_eq_getElem hlt
  have hmem := List.getElem_mem hlt
  have hxin := hin _ hmem
  have hel := aH hxin
  have hpre := ch (l := ns.take k) (fun n hn => hin n (List.mem_of_mem_take hn))
  rw [List.length_take, Nat.min_eq_left hk] at hpre
  generalize ns[k] = n at hx hxin hel
  obtain ⟨ad, hix, _, hc⟩ := (hns.keep hf2 (fun _ _ e => e)).at1 (i := k) (x := iv n) (by rw [List.getElem?_map, hx]; rfl) .i64
  have z3 : eV (iv n) (iv 0) = some (iv (max n 0)) := by
   show some (iv (if (0 : Int) > n then 0 else n)) = _
   congr 2
   split <;> omega
  have hlenV := hns.lenV
  simp only [RS, hlenV, e1, hix, hc, aU, fO, z3, Option.bind_some]
  obtain ⟨c0, hc0⟩ := Int.eq_ofNat_of_zero_le (show 0 ≤ max n 0 by omega)
  have henc : aK n = fp c0 := by unfold aK; rw [hc0]; rfl
  rw [hc0]
  have hpl : (aO (ns.take k)).length ≤ 9000000000 := by omega
  rw [henc] at hel
  have hstep : aO (ns.take (k + 1)) = aO (ns.take k) ++ fp c0 := by
   rw [List.take_add_one, hx, pN]
   show aO (ns.take k) ++ aO [n] = _
   rw [cY, henc]
  generalize aO (ns.take k) = P at h2 hpl hstep
  refine ⟨fun vs w3 => ∃ (c : Nat) (Q : Bs) (o : Value), vs = [o, iv c] ∧ c ≤ 9223372036854775807 ∧ w3.ownsRow w.heap.size 5 1 o Q.length (bc Q) ∧ Q ++ fp c = P ++ fp c0 ∧ Fm (fun _ => False) w w3, fun vs _ => (nth vs 1).toNat, ⟨c0, P, _, rfl, by omega, h2, rfl, hf2⟩, ?_⟩
  rintro _ w3 ob ic ⟨c, Q, o, hvs, hcm, h3, hQ, hf3⟩
  cases hvs
  have hz3 := hf3.size
  have hQl : Q.length ≤ 10000000000 := by
   have := congrArg List.length hQ
   rw [List.length_append, List.length_append] at this
   omega
  by_cases hbig : 127 < c
  ·have e2 : decide ((128 : Int) ≤ (c : Int)) = true := by rw [decide_eq_true_eq]; omega
   have e3 := bC (TypeDesc.int .i64) (n := c) (m := 128) (by decide) hcm (b := 128) rfl
   have e4 := cu (TypeDesc.int .i64) (n := c) (m := 128) (by decide) hcm (b := 128) rfl
   have e5 : IntKind.i64.wrap (((c % 128 : Nat) : Int) + 128) = ((c % 128 + 128 : Nat) : Int) := by rw [ab] <;> omega
   have e6 : cvI .u8 (iv ((c % 128 + 128 : Nat) : Int)) = some (.int .u8 (((UInt8.ofNat (c % 128 + 128)).toNat : Nat) : Int)) := by
    show some (Value.int .u8 (IntKind.u8.wrap ((c % 128 + 128 : Nat) : Int))) = _
    rw [bE, Nat.mod_eq_of_lt (by omega), de (by omega)]
   simp only [RS, e2, e3, e5, e6]
   refine bq uR (by omega) 123 (cs := [.int .u8 (UInt8.ofNat (c % 128 + 128)).toNat]) rfl (qo _ _) (by intro u hu; simp at hu; subst hu; rfl) h3 (by unfold maxLen; omega) (by omega) hz3 ?_
   intro v' w4 ho4 hcase
   have hF4 : Fm (fun _ => False) w w4 := by
    rcases hcase with ⟨g, k1, k2, k3⟩ | ⟨g, k1, k2, k3⟩
    ·exact Fm.own hf3 k3 (by rintro y rfl; exact (aX h3 y k1).1)
    ·exact Fmf hf3 k3
   rw [e4, eg]
   refine ⟨⟨c / 128, Q ++ [UInt8.ofNat (c % 128 + 128)], v', rfl, by omega, ?_, ?_, hF4⟩, by simp only [bM]; omega⟩
   ·rw [List.length_append, bA]; exact ho4
   ·rw [← hQ, dg hbig, List.append_assoc]; rfl
  ·have e2 : decide ((128 : Int) ≤ (c : Int)) = false := by rw [decide_eq_false_iff_not]; omega
   have e6 : IntKind.i64.wrap ((k : Int) + 1) = ((k + 1 : Nat) : Int) := by rw [ab] <;> omega
   have e3 : cvI .u8 (iv c) = some (.int .u8 (((UInt8.ofNat c).toNat : Nat) : Int)) := by
    show some (Value.int .u8 (IntKind.u8.wrap (c : Int))) = _
    rw [bE, Nat.mod_eq_of_lt (by omega), de (by omega)]
   simp only [RS, e2, e3]
   refine bq uR (by omega) 123 (cs := [.int .u8 (UInt8.ofNat c).toNat]) rfl (qo _ _) (by intro u hu; simp at hu; subst hu; rfl) h3 (by unfold maxLen; omega) (by omega) hz3 ?_
   intro v' w4 ho4 hcase
   have hF4 : Fm (fun _ => False) w w4 := by
    rcases hcase with ⟨g, k1, k2, k3⟩ | ⟨g, k1, k2, k3⟩
    ·exact Fm.own hf3 k3 (by rintro y rfl; exact (aX h3 y k1).1)
    ·exact Fmf hf3 k3
   rw [e6]
   refine ⟨⟨k + 1, v', rfl, by omega, ?_, hF4⟩, by simp only [bM]; omega⟩
   rw [hstep, ← hQ, bl (by omega), List.length_append, bA]
   exact ho4
 ·have hke : k = ns.length := by omega
  subst hke
  have e1 : decide (((ns.length : Nat) : Int) < (ns.length : Int)) = false := by simp
  rw [List.take_length] at h2
  have hlenV := hns.lenV
  simp only [RS, hlenV, e1]
  exact af (jQ B38 h2) ⟨rfl, hf2⟩
theorem rJ {w : World} {n : Nat} {ns : List Int} {items : Array (Nat × Value)} (hb : (Instr.buildSlice 23 n items).run prog w = .ok (.slice (some ⟨w.heap.size, 0, none⟩) n n) (w.alloc (.cells (ns.map iv).toArray 3))) (hn : ns.length = n) (hin : ∀ n ∈ ns, n ≤ 9223372036854775807) (hl : n ≤ 1000) {k : KV}
  (hk : ∀ w', Fm (fun _ => False) w w' → k (stv (aO ns)) w') : RunS prog (Instr.buildSlice 23 n items) w fun t w1 => Cl prog 164 [t] w1 k := by
 refine af hb ?_
 subst hn
 have hf := Fm.alloc (fun _ => False) w (.cells (ns.map iv).toArray 3)
 have hnew := cZ (w := w) (e := 3) (sz := 1) (base := w.heap.size) (n := ns.length) (l := ns.map iv) (by simp) (Nat.le_refl _) (by unfold maxLen; omega)
 refine (fB (CellsAt.of_own hnew) hin (by omega)).mono ?_
 rintro _ w2 ⟨rfl, hf2⟩
 exact hk w2 (Fmf hf hf2)
theorem jc (w : World) (s : Bs) (hs : s.length ≤ 1000000000) : Cl prog 165 [stv s] w fun v w' => v = stv (eA s) ∧ Fm (fun _ => False) w w' := by
 refine c165 ?_; unfold T165
 simp only [RS, aj]
 refine rJ (cF _ _) rfl (by intro n hn; simp at hn; omega) (by omega) ?_
 intro w2 hf2
 rw [cY]
 have := aH (n := s.length) (by omega)
 rw [dL (by omega)]
 try simp only [RS]
 exact ⟨rfl, hf2⟩
theorem qa {w : World} {cs : Array Value} {p : Pg} (h : PgAs w cs p) (hl : (eD p).1.length ≤ 1000000) : Cl prog 166 [.agg cs] w fun v w' => v = stv (cK (eD p).1) ∧ Fm (fun _ => False) w w' := by
 have hsz : cs.size = 6 := by obtain ⟨v, rfl, _⟩ := h.ex; rfl
 refine c166 ?_; unfold T166
 refine ao ?_
 intro x1 w1 hx1 hs1 hw1 hf1
 simp only [RS, ax hw1 hsz]
 refine (ec (h.keep hf1)).mono ?_
 rintro _ w2 ⟨rfl, hf2⟩
 have he : lI p = .tuple #[stv (eD p).1, iv (pErr p)] := by unfold lI; rw [gw]
 rw [he]
 generalize (eD p).1 = s at hl
 simp only [RS]
 refine ⟨fun vs w3 => ∃ t : Bs, vs = [stv t] ∧ t.length ≤ s.length ∧ cK t = cK s ∧ w3 = w2, fun vs _ => match vs with
  | [.string b] => b.size
  | _ => 0, ⟨s, rfl, Nat.le_refl _, rfl, rfl⟩, ?_⟩
 rintro _ w3 tv ⟨t, hvs, hlt, htr, rfl⟩
 cases hvs
 simp only [RS, aj]
 by_cases h0 : 0 < t.length
 ·have d1 : decide ((0 : Int) < (t.length : Int)) = true := by rw [decide_eq_true_eq]; omega
  have e5 : IntKind.i64.wrap ((t.length : Int) - 1) = ((t.length - 1 : Nat) : Int) := by rw [ab] <;> omega
  have hx : t[t.length - 1]? = some t[t.length - 1] := List.getElem?_eq_getElem (by omega)
  generalize t[t.length - 1] = b at hx
  have hlast := jo hx
  have e6 := dy hx .i64
  have e7 : ((b.toNat : Int) == 0) = decide (b = 0) := by
   rw [aA, decide_eq_decide]
   constructor
   ·intro e
    exact UInt8.toNat_inj.1 (by simpa using (show b.toNat = 0 by omega))
   ·rintro rfl; rfl
  have e8 := df (l := t) (i := t.length - 1) (by omega) .i64
  simp only [RS, d1, aj, e5, e6, e7]
  cases hb : decide (b = 0) with
  | true =>
   rw [hb, cond_true] at hlast
   simp only [RS, aj, e5, e8]
   refine ⟨⟨t.take (t.length - 1), rfl, by rw [List.length_take]; omega, by rw [← hlast]; exact htr, (by trivial)⟩, ?_⟩
   simp only [aj, List.length_take]; omega
  | false =>
   rw [hb, cond_false] at hlast
   simp only [RS]
   exact ⟨by rw [← htr, hlast], Fmf hf1 hf2⟩
 ·have ht0 : t = [] := List.eq_nil_of_length_eq_zero (by omega)
  subst ht0
  have d1 : decide ((0 : Int) < (([] : Bs).length : Int)) = false := by decide
  simp only [RS, d1]
  exact ⟨by rw [← htr]; rfl, Fmf hf1 hf2⟩
theorem aR {w : World} {ad : Addr} {n : Nat} {cs : Array Value} (h : aP w ad n = some (.agg cs)) {i : Nat} {x : Value} (hx : cs[i]? = some x) : w.cell? (ad.add i) = some x := by
 have key : ∀ (n j : Nat) (l : List Value), aE w ad j n = some l → ∀ (i : Nat) (x : Value), l[i]? = some x → w.cell? (ad.add (j + i)) = some x := by
  intro n
  induction n with
  | zero => intro j l hl i x hx; simp only [aE, Option.some.injEq] at hl; subst hl; simp at hx
  | succ n ih =>
   intro j l hl i x hx
   simp only [aE] at hl
   cases hc : w.cell? (ad.add j) with
   | none => rw [hc] at hl; cases hl
   | some v =>
    rw [hc] at hl
    cases hr : aE w ad (j + 1) n with
    | none => rw [hr] at hl; cases hl
    | some l' =>
     rw [hr] at hl
     simp only [Option.map_some, Option.some.injEq] at hl
     subst hl
     cases i with
     | zero => simp at hx; subst hx; exact hc
     | succ i =>
      have := ih (j + 1) l' hr i x (by simpa using hx)
      rw [show j + (i + 1) = j + 1 + i by omega]; exact this
 unfold aP at h
 cases hc : aE w ad 0 n with
 | none => rw [hc] at h; cases h
 | some l =>
  rw [hc] at h
  simp only [Option.map_some, Option.some.injEq, Value.agg.injEq] at h
  subst h
  have := key n 0 l hc i x (by simpa using hx)
  rw [Nat.zero_add] at this; exact this
def pA (r : Rc) : Bool := !(decide (r.lsn < 1) || (rNums r).any da)
theorem fG {l : List (Int × Int)} {i : Nat} {m : Int × Int} (hx : l[i]? = some m) : (prs (l.take (i + 1))).any da = ((prs (l.take i)).any da || da m.1 || da m.2) := by
 rw [List.take_add_one, hx]
 simp [prs, Bool.or_assoc]
theorem dz {l : List (Int × Int)} {m : Int × Int} (hm : m ∈ l) (hb : da m.1 = true ∨ da m.2 = true) : (prs l).any da = true := by
 obtain ⟨q1, q2⟩ := bW hm
 rcases hb with h | h
 ·exact List.any_eq_true.2 ⟨_, q1, h⟩
 ·exact List.any_eq_true.2 ⟨_, q2, h⟩
theorem ma {w : World} {cs : Array Value} {r : Rc} (h : RcAs w cs r) : Cl prog 163 [.agg cs] w fun v w' => v = .bool (pA r) ∧ Fm (fun _ => False) w w' := by
 obtain ⟨vs, vm, vi, vp, vt, hcs, _, hs, hm, hi, hp, ht⟩ := h.ex
 have hbulk := h.bulk
 have hA : (rNums r).any da = ([r.lsn, r.prev, r.next, r.redo, r.xid, r.page, r.slot, r.old, r.new].any da || r.slots.any da || r.more.any da || (r.imgs.map (·.1)).any da || (prs r.pages).any da || (prs r.txns).any da) := by
  unfold rNums
  simp only [List.any_append]
 refine c163 ?_; unfold T163
 refine ao ?_
 intro x1 w1 hx1 hs1 hw1 hf1
 have hR1 : RB w1 x1 r vs vm vi vp vt := ⟨by rw [← hcs]; exact hw1⟩
 unfold pA
 rw [hA]
 simp only [RS, hR1.c0]
 cases e1 : decide (r.lsn < 1) with
 | true =>
  simp only [RS, Bool.true_or]
  exact ⟨(by trivial), hf1⟩
 | false =>
 simp only [RS, hR1.c0, hR1.c1, hR1.c2, hR1.c9, hR1.c4, hR1.c5, hR1.c6, hR1.c7, hR1.c8, Bool.false_or]
 refine af (se _ _ _ _ _ _ _ _ _ _) ?_
 have hfa := Fm.alloc (fun _ => False) w1 (.cells ([r.lsn, r.prev, r.next, r.redo, r.xid, r.page, r.slot, r.old, r.new].map iv).toArray 3)
 have hnew := cZ (w := w1) (e := 3) (sz := 1) (base := w1.heap.size) (n := 9) (l := [r.lsn, r.prev, r.next, r.redo, r.xid, r.page, r.slot, r.old, r.new].map iv) rfl (Nat.le_refl _) (by decide)
 refine (fL (L := [r.lsn, r.prev, r.next, r.redo, r.xid, r.page, r.slot, r.old, r.new]) (CellsAt.of_own hnew)).mono ?_
 rintro _ w2 ⟨rfl, rfl⟩
 have hF2 := Fmf hf1 hfa
 have hR2 := hR1.keep hfa (fun e => e)
 generalize (w1.alloc (.cells ([r.lsn, r.prev, r.next, r.redo, r.xid, r.page, r.slot, r.old, r.new].map iv).toArray 3)) = w2 at hF2 hR2
 generalize [r.lsn, r.prev, r.next, r.redo, r.xid, r.page, r.slot, r.old, r.new].any da = b9
 clear hnew hfa
 have hs2 := hs.keep hF2 (fun _ _ e => e)
 have hm2 := hm.keep hF2 (fun _ _ e => e)
 have hi2 := hi.keep hF2
 have hp2 := hp.keep hF2 (fun _ _ e => e)
 have ht2 := ht.keep hF2 (fun _ _ e => e)
 cases b9 with
 | true =>
  simp only [RS, Bool.true_or]
  exact ⟨(by trivial), hF2⟩
 | false =>
 simp only [RS, Bool.false_or, hR2.c11]
 refine (fL hs2).mono ?_
 rintro _ w3 ⟨rfl, rfl⟩
 cases q1 : r.slots.any da with
 | true =>
  simp only [RS, Bool.true_or]
  exact ⟨(by trivial), hF2⟩
 | false =>
 simp only [RS, Bool.false_or, hR2.c12]
 refine (fL hm2).mono ?_
 rintro _ w4 ⟨rfl, rfl⟩
 cases q2 : r.more.any da with
 | true =>
  simp only [RS, Bool.true_or]
  exact ⟨(by trivial), hF2⟩
 | false =>
 simp only [RS, Bool.false_or]
 refine ⟨fun vl w5 => ∃ i : Nat, vl = [iv i] ∧ i ≤ r.imgs.length ∧ ((r.imgs.take i).map (·.1)).any da = false ∧ w5 = w4, fun vl _ => (r.imgs.length - nth vl 0).toNat, ⟨0, rfl, by omega, rfl, rfl⟩, ?_⟩
 rintro _ w5 iv5 ⟨i, hvl, hile, hno, rfl⟩
 cases hvl
 by_cases hlt : i < r.imgs.length
 ·have hx : r.imgs[i]? = some r.imgs[i] := List.getElem?_eq_getElem hlt
  generalize r.imgs[i] = m at hx
  have hmm := List.mem_of_getElem? hx
  obtain ⟨ad, u, hix, hcv, hone, hpg⟩ := hi2.ld hx
  have hc0 : w5.cell? ad = some (iv m.1) := by
   have := aR hcv (i := 0) (x := iv m.1) rfl
   rw [Go.Al.add_zero] at this; exact this
  have d2 : decide ((i : Int) < (r.imgs.length : Int)) = true := by rw [decide_eq_true_eq]; omega
  have e2 : IntKind.i64.wrap ((i : Int) + 1) = ((i + 1 : Nat) : Int) := by rw [ab] <;> omega
  simp only [RS, hR2.c13, hi2.lenV, d2, hix, hc0]
  refine (cy w5 m.1).mono ?_
  rintro _ w6 ⟨rfl, rfl⟩
  cases hb : da m.1 with
  | true =>
   simp only [RS]
   have : (r.imgs.map (·.1)).any da = true := List.any_eq_true.2 ⟨_, List.mem_map.2 ⟨m, hmm, rfl⟩, hb⟩
   rw [this]
   exact ⟨(by trivial), hF2⟩
  | false =>
   simp only [RS, e2]
   refine ⟨⟨i + 1, rfl, by omega, ?_, (by trivial)⟩, by simp only [bw]; omega⟩
   rw [List.take_add_one, hx, List.map_append, List.any_append, hno]
   simp [hb]
 have hie : i = r.imgs.length := by omega
 subst hie
 have d2 : decide (((r.imgs.length : Nat) : Int) < (r.imgs.length : Int)) = false := by simp
 rw [List.take_length] at hno
 rw [hno]
 simp only [RS, hR2.c13, hi2.lenV, d2, Bool.false_or]
 clear hno d2 hlt
 refine ⟨fun vl w6 => ∃ i : Nat, vl = [iv i] ∧ i ≤ r.pages.length ∧ (prs (r.pages.take i)).any da = false ∧ w6 = w5, fun vl _ => (r.pages.length - nth vl 0).toNat, ⟨0, rfl, by omega, rfl, rfl⟩, ?_⟩
 rintro _ w6 iv6 ⟨i, hvl, hile, hno, rfl⟩
 cases hvl
 by_cases hlt : i < r.pages.length
 ·have hx : r.pages[i]? = some r.pages[i] := List.getElem?_eq_getElem hlt
  generalize r.pages[i] = m at hx
  have hmm := List.mem_of_getElem? hx
  obtain ⟨ad, hix, hcv, _⟩ := bJ bj (by omega) hp2 hx
  have hc0 : w6.cell? ad = some (iv m.1) := by
   have := aR hcv (i := 0) (x := iv m.1) rfl
   rw [Go.Al.add_zero] at this; exact this
  have hc1 : w6.cell? (ad.add 1) = some (iv m.2) := aR hcv (i := 1) (x := iv m.2) rfl
  have d2 : decide ((i : Int) < (r.pages.length : Int)) = true := by rw [decide_eq_true_eq]; omega
  have e2 : IntKind.i64.wrap ((i : Int) + 1) = ((i + 1 : Nat) : Int) := by rw [ab] <;> omega
  have hstep := fG hx
  simp only [RS, hR2.c14, hp2.lenV, d2, hix, hc0]
  refine (cy w6 m.1).mono ?_
  rintro _ w7 ⟨rfl, rfl⟩
  cases hb : da m.1 with
  | true =>
   simp only [RS]
   rw [dz hmm (.inl hb)]
   exact ⟨(by trivial), hF2⟩
  | false =>
   simp only [RS, hR2.c14, hix, hc1]
   refine (cy w7 m.2).mono ?_
   rintro _ w8 ⟨rfl, rfl⟩
   cases hb2 : da m.2 with
   | true =>
    simp only [RS]
    rw [dz hmm (.inr hb2)]
    exact ⟨(by trivial), hF2⟩
   | false =>
    simp only [RS, e2]
    refine ⟨⟨i + 1, rfl, by omega, ?_, (by trivial)⟩, by simp only [bw]; omega⟩
    rw [hstep, hno, hb, hb2]; rfl
 have hie : i = r.pages.length := by omega
 subst hie
 have d2 : decide (((r.pages.length : Nat) : Int) < (r.pages.length : Int)) = false := by simp
 rw [List.take_length] at hno
 rw [hno]
 simp only [RS, hR2.c14, hp2.lenV, d2, Bool.false_or]
 clear hno d2 hlt
 refine ⟨fun vl w7 => ∃ i : Nat, vl = [iv i] ∧ i ≤ r.txns.length ∧ (prs (r.txns.take i)).any da = false ∧ w7 = w6, fun vl _ => (r.txns.length - nth vl 0).toNat, ⟨0, rfl, by omega, rfl, rfl⟩, ?_⟩
 rintro _ w7 iv7 ⟨i, hvl, hile, hno, rfl⟩
 cases hvl
 by_cases hlt : i < r.txns.length
 ·have hx : r.txns[i]? = some r.txns[i] := List.getElem?_eq_getElem hlt
  generalize r.txns[i] = m at hx
  have hmm := List.mem_of_getElem? hx
  obtain ⟨ad, hix, hcv, _⟩ := bJ bj (by omega) ht2 hx
  have hc0 : w7.cell? ad = some (iv m.1) := by
   have := aR hcv (i := 0) (x := iv m.1) rfl
   rw [Go.Al.add_zero] at this; exact this
  have hc1 : w7.cell? (ad.add 1) = some (iv m.2) := aR hcv (i := 1) (x := iv m.2) rfl
  have d2 : decide ((i : Int) < (r.txns.length : Int)) = true := by rw [decide_eq_true_eq]; omega
  have e2 : IntKind.i64.wrap ((i : Int) + 1) = ((i + 1 : Nat) : Int) := by rw [ab] <;> omega
  have hstep := fG hx
  simp only [RS, hR2.c15, ht2.lenV, d2, hix, hc0]
  refine (cy w7 m.1).mono ?_
  rintro _ w8 ⟨rfl, rfl⟩
  cases hb : da m.1 with
  | true =>
   simp only [RS]
   rw [dz hmm (.inl hb)]
   exact ⟨(by trivial), hF2⟩
  | false =>
   simp only [RS, hR2.c15, hix, hc1]
   refine (cy w8 m.2).mono ?_
   rintro _ w9 ⟨rfl, rfl⟩
   cases hb2 : da m.2 with
   | true =>
    simp only [RS]
    rw [dz hmm (.inr hb2)]
    exact ⟨(by trivial), hF2⟩
   | false =>
    simp only [RS, e2]
    refine ⟨⟨i + 1, rfl, by omega, ?_, (by trivial)⟩, by simp only [bw]; omega⟩
    rw [hstep, hno, hb, hb2]; rfl
 have hie : i = r.txns.length := by omega
 subst hie
 have d2 : decide (((r.txns.length : Nat) : Int) < (r.txns.length : Int)) = false := by simp
 rw [List.take_length] at hno
 rw [hno]
 simp only [RS, hR2.c15, ht2.lenV, d2]
 exact ⟨(by trivial), hF2⟩
structure OS (w0 w : World) (v : Value) (B : Bs) : Prop where
 o : OutAt w w0.heap.size 5 v B
 fm : Fm (fun _ => False) w0 w
theorem OS.keep {w0 w w' : World} {v : Value} {B : Bs} (h : OS w0 w v B) (hf : Fm (fun _ => False) w w') : OS w0 w' v B := ⟨h.o.keep hf (fun _ _ _ e => e), Fmf h.fm hf⟩
theorem OS.app {w0 w : World} {v : Value} {B : Bs} (h : OS w0 w v B) (x : Bs) (hl : B.length + x.length ≤ 100000000000) {k : KV} (hk : ∀ v' w', OS w0 w' v' (B ++ x) → k v' w') : RunS prog (Builtin.append_ #[123, 9] 123 #[v, stv x]) w k := by
 obtain ⟨v', w', hr, ho, hf⟩ := h.o.app B38 x 123 hl h.fm.size
 exact af hr (hk v' w' ⟨ho, Fm.own h.fm hf (fun _ e => e)⟩)
theorem OS.num {w0 w : World} {v : Value} {B : Bs} (h : OS w0 w v B) {u : Value} {ns : List Int} (hns : CellsAt w u ns.length 1 (ns.map iv)) (hin : ∀ n ∈ ns, n ≤ 9223372036854775807) (hl : B.length + 9 * ns.length ≤ 1000000000) {k : KV}
  (hk : ∀ v' w', OS w0 w' v' (B ++ aO ns) → k v' w') : Cl prog 164 [u] w fun t2 w2 => RunS prog (Builtin.append_ #[123, 9] 123 #[v, t2]) w2 k := by
 refine (fB hns hin (by omega)).mono ?_
 rintro _ w2 ⟨rfl, hf2⟩
 have := ch hin
 exact (h.keep hf2).app (aO ns) (by omega) hk
theorem OS.lit {w0 w : World} {v : Value} {B : Bs} (h : OS w0 w v B) {n : Nat} {ns : List Int} {items : Array (Nat × Value)} (hb : (Instr.buildSlice 23 n items).run prog w = .ok (.slice (some ⟨w.heap.size, 0, none⟩) n n) (w.alloc (.cells (ns.map iv).toArray 3))) (hn : ns.length = n) (hin : ∀ n ∈ ns, n ≤ 9223372036854775807) (hl : B.length + 9 * n ≤ 1000000000) {k : KV}
  (hk : ∀ v' w', OS w0 w' v' (B ++ aO ns) → k v' w') : RunS prog (Instr.buildSlice 23 n items) w fun t w1 => Cl prog 164 [t] w1 fun t2 w2 => RunS prog (Builtin.append_ #[123, 9] 123 #[v, t2]) w2 k := by
 refine af hb ?_
 subst hn
 have hf := Fm.alloc (fun _ => False) w (.cells (ns.map iv).toArray 3)
 have hnew := cZ (w := w) (e := 3) (sz := 1) (base := w.heap.size) (n := ns.length) (l := ns.map iv) (by simp) (Nat.le_refl _) (by unfold maxLen; omega)
 exact (h.keep hf).num (CellsAt.of_own hnew) hin hl hk
theorem sw {w : World} {ad : Addr} {m : Int} {p : Pg} {u : Value} (h : aP w ad 7 = some (.agg (imC (m, p, u)).toArray)) : aP w (ad.add 1) 6 = some (.agg (pcs p u)) := by
 refine dq (l := (pcs p u).toList) rfl fun j hj => ?_
 rw [dT, Nat.add_comm 1 j]
 have hx : (imC (m, p, u)).toArray[j + 1]? = (pcs p u).toList[j]? := by
  rw [List.getElem?_toArray]; rfl
 have hlt : j < (pcs p u).toList.length := hj
 rw [List.getElem?_eq_getElem hlt] at hx ⊢
 exact aR h (i := j + 1) hx
theorem fY {w : World} {cs : Array Value} {r : Rc} (h : RcAs w cs r) (hlong : bO r = false) (hi0 : ∀ m ∈ r.imgs, pErr m.2 = 0) : Cl prog 87 [.agg cs] w fun v w' => v = stv (cl r) ∧ Fm (fun _ => False) w w' := by
 obtain ⟨vs, vm, vi, vp, vt, hcs, _, hs, hm, hi, hp, ht⟩ := h.ex
 simp only [bO, Bool.or_eq_false_iff, decide_eq_false_iff_not] at hlong
 obtain ⟨⟨⟨⟨⟨l1, l2⟩, l3⟩, l4⟩, l5⟩, l6⟩ := hlong
 have hins := h.ins
 have hk8 := h.kin
 have n9 : ∀ n ∈ [r.lsn, r.prev, r.next, r.redo, r.xid, r.page, r.slot, r.old, r.new], In n := fun n hn => hins n (by unfold rNums; simp only [List.mem_append]; exact .inl (.inl (.inl (.inl (.inl hn)))))
 have nsl : ∀ n ∈ r.slots, n ≤ 9223372036854775807 := fun n hn => (hins n (by unfold rNums; simp only [List.mem_append]; exact .inl (.inl (.inl (.inl (.inr hn)))))).2
 have nmo : ∀ n ∈ r.more, n ≤ 9223372036854775807 := fun n hn => (hins n (by unfold rNums; simp only [List.mem_append]; exact .inl (.inl (.inl (.inr hn))))).2
 have nim : ∀ m ∈ r.imgs, m.1 ≤ 9223372036854775807 := fun m hm => (hins m.1 (by unfold rNums; simp only [List.mem_append]; exact .inl (.inl (.inr (List.mem_map.2 ⟨m, hm, rfl⟩))))).2
 have npg : ∀ m ∈ r.pages, m.1 ≤ 9223372036854775807 ∧ m.2 ≤ 9223372036854775807 := fun m hm => ⟨(hins m.1 (by unfold rNums; simp only [List.mem_append]; exact .inl (.inr (bW hm).1))).2, (hins m.2 (by unfold rNums; simp only [List.mem_append]; exact .inl (.inr (bW hm).2))).2⟩
 have ntx : ∀ m ∈ r.txns, m.1 ≤ 9223372036854775807 ∧ m.2 ≤ 9223372036854775807 := fun m hm => ⟨(hins m.1 (by unfold rNums; simp only [List.mem_append]; exact .inr (bW hm).1)).2, (hins m.2 (by unfold rNums; simp only [List.mem_append]; exact .inr (bW hm).2)).2⟩
 have nhd : ∀ n ∈ cL r, n ≤ 9223372036854775807 := fun n hn => by
  unfold cL at hn
  simp only [List.mem_cons, List.not_mem_nil, or_false] at hn
  rcases hn with rfl | rfl | rfl | rfl | rfl | rfl | rfl | rfl | rfl | rfl <;> first | omega | exact (n9 _ (by simp)).2
 refine c87 ?_; unfold T87
 refine ao ?_
 intro x1 w1 hx1 hs1 hw1 hf1
 have hR1 : RB w1 x1 r vs vm vi vp vt := ⟨by rw [← hcs]; exact hw1⟩
 have kS : ∀ {w'}, Fm (fun _ => False) w1 w' → CellsAt w' vs r.slots.length 1 (r.slots.map iv) := fun hf => hs.keep (Fmf hf1 hf) (fun _ _ e => e)
 have kM : ∀ {w'}, Fm (fun _ => False) w1 w' → CellsAt w' vm r.more.length 1 (r.more.map iv) := fun hf => hm.keep (Fmf hf1 hf) (fun _ _ e => e)
 have kI : ∀ {w'}, Fm (fun _ => False) w1 w' → ImAs w' vi r.imgs := fun hf => hi.keep (Fmf hf1 hf)
 have kP : ∀ {w'}, Fm (fun _ => False) w1 w' → CellsAt w' vp r.pages.length 2 (r.pages.flatMap pc2) := fun hf => hp.keep (Fmf hf1 hf) (fun _ _ e => e)
 have kT : ∀ {w'}, Fm (fun _ => False) w1 w' → CellsAt w' vt r.txns.length 2 (r.txns.flatMap pc2) := fun hf => ht.keep (Fmf hf1 hf) (fun _ _ e => e)
 have kR : ∀ {w'}, Fm (fun _ => False) w1 w' → RB w' x1 r vs vm vi vp vt := fun hf => hR1.keep hf (fun e => e)
 have ek : IntKind.i64.wrap r.kind = r.kind := by rw [ab]; omega
 have ekc : cvI .i64 (.int .u8 r.kind) = some (iv r.kind) := by
  show some (Value.int .i64 (IntKind.i64.wrap r.kind)) = _
  rw [ek]
 refine ⟨fun w' => w'.cell? ⟨x1, 10, none⟩ = some (stv r.data), (kR (Fm.drew _ w1)).c10, ?_⟩
 simp only [RS, hR1.c0, hR1.c1, hR1.c2, hR1.c3, hR1.c4, hR1.c5, hR1.c6, hR1.c7, hR1.c8, hR1.c9, ekc, true_and]
 refine ⟨stv r.data, fun w9 h9 => ?_, ?_⟩
 ·simp only [RS, h9]; trivial
 have hfd := Fm.drew (fun _ => False) w1
 generalize w1.drew = w2 at hfd
 refine af (qr _ _ _ _ _ _ _ _ _ _ _) ?_
 have hfa := Fm.alloc (fun _ => False) w2 (.cells ((cL r).map iv).toArray 3)
 have hnew := cZ (w := w2) (e := 3) (sz := 1) (base := w2.heap.size) (n := 10) (l := (cL r).map iv) rfl (Nat.le_refl _) (by decide)
 have hF3 := Fmf hfd hfa
 refine ⟨(kR hF3).c10, ?_⟩
 refine (fB (ns := cL r) (CellsAt.of_own hnew) nhd (by simp [cL])).mono ?_
 rintro _ w3 ⟨rfl, hf3⟩
 replace hF3 := Fmf hF3 hf3
 refine ⟨(kR hF3).c10, ?_⟩
 refine (jc w3 r.data (by omega)).mono ?_
 rintro _ w4 ⟨rfl, hf4⟩
 replace hF3 := Fmf hF3 hf4
 clear hf4 hf3 hnew hfa hfd
 have hl3 : (aO (cL r)).length ≤ 90 := by have := ch nhd; exact this
 have hlt4 : (eA r.data).length ≤ 600 := by
  have := aH (n := r.data.length) (by omega)
  unfold eA; rw [List.length_append]; omega
 rw [dL (by omega)]
 try simp only [RS]
 have hl4 : (aO (cL r) ++ eA r.data).length ≤ 700 := by rw [List.length_append]; omega
 generalize hB4 : aO (cL r) ++ eA r.data = B4 at hl4
 obtain ⟨v5, w5, hr5, ho5, hf5⟩ := OutAt.new B38 w4 B4 (by unfold maxLen; omega) hF3.size
 refine af hr5 ?_
 have h5 : OS w1 w5 v5 B4 := ⟨ho5, Fmf hF3 hf5⟩
 clear ho5 hf5 hr5 hF3
 simp only [RS, (kR h5.fm).c11, (kS h5.fm).lenV]
 have hls : (bh r.slots).length ≤ 2400 := by
  have := ch nsl
  have := aH (n := r.slots.length) (by omega)
  unfold bh; rw [List.length_append]; omega
 have hlm : (bh r.more).length ≤ 2400 := by
  have := ch nmo
  have := aH (n := r.more.length) (by omega)
  unfold bh; rw [List.length_append]; omega
 have eS := aH (n := r.slots.length) (by omega)
 have eM := aH (n := r.more.length) (by omega)
 have eI := aH (n := r.imgs.length) (by omega)
 have eP := aH (n := r.pages.length) (by omega)
 have eT := aH (n := r.txns.length) (by omega)
 refine h5.lit (cF _ _) rfl (by intro n hn; simp at hn; omega) (by omega) ?_
 intro v6 w6 h6
 rw [cY] at h6
 simp only [RS, (kR h6.fm).c11]
 refine h6.num (kS h6.fm) nsl (by rw [List.length_append]; omega) ?_
 intro v7 w7 h7
 replace h7 : OS w1 w7 v7 (B4 ++ bh r.slots) := by have := h7; rw [List.append_assoc] at this; exact this
 simp only [RS, (kR h7.fm).c12, (kM h7.fm).lenV]
 refine h7.lit (cF _ _) rfl (by intro n hn; simp at hn; omega) (by rw [List.length_append]; omega) ?_
 intro v8 w8 h8
 rw [cY] at h8
 simp only [RS, (kR h8.fm).c12]
 refine h8.num (kM h8.fm) nmo (by simp only [List.length_append]; omega) ?_
 intro v9 w9 h9
 replace h9 : OS w1 w9 v9 (B4 ++ bh r.slots ++ bh r.more) := by have := h9; rw [List.append_assoc (B4 ++ bh r.slots)] at this; exact this
 have hl5 : (B4 ++ bh r.slots ++ bh r.more).length ≤ 6000 := by simp only [List.length_append]; omega
 generalize hB5 : B4 ++ bh r.slots ++ bh r.more = B5 at h9 hl5
 simp only [RS, (kR h9.fm).c13, (kI h9.fm).lenV]
 refine h9.lit (cF _ _) rfl (by intro n hn; simp at hn; omega) (by omega) ?_
 intro v10 w10 h10
 rw [cY] at h10
 have hl6 : (B5 ++ aK (r.imgs.length : Int)).length ≤ 6010 := by rw [List.length_append]; omega
 generalize hB6 : B5 ++ aK (r.imgs.length : Int) = B6 at h10 hl6
 refine ⟨fun vl w' => ∃ (i : Nat) (o : Value), vl = [o, iv i] ∧ i ≤ r.imgs.length ∧ OS w1 w' o (B6 ++ (r.imgs.take i).flatMap fK) ∧ (B6 ++ (r.imgs.take i).flatMap fK).length ≤ 6010 + 600 * i, fun vl _ => (r.imgs.length - nth vl 1).toNat, ⟨0, _, rfl, by omega, by simpa using h10, by simpa using hl6⟩, ?_⟩
 rintro _ w11 ov iw ⟨i, o, hvl, hile, h11, hl11⟩
 cases hvl
 have hR11 := kR h11.fm
 have hI11 := kI h11.fm
 by_cases hlt : i < r.imgs.length
 ·have hx : r.imgs[i]? = some r.imgs[i] := List.getElem?_eq_getElem hlt
  generalize r.imgs[i] = m at hx
  have hmm := List.mem_of_getElem? hx
  obtain ⟨ad, u, hix, hcv, hone, hpg⟩ := hI11.ld hx
  have hc0 : w11.cell? ad = some (iv m.1) := by
   have := aR hcv (i := 0) (x := iv m.1) rfl
   rw [Go.Al.add_zero] at this; exact this
  have d2 : decide ((i : Int) < (r.imgs.length : Int)) = true := by rw [decide_eq_true_eq]; omega
  have e1 : IntKind.i64.wrap ((i : Int) + 1) = ((i + 1 : Nat) : Int) := by rw [ab] <;> omega
  have h0 := hi0 m hmm
  have hlen := el h0
  simp only [RS, hR11.c13, hI11.lenV, d2]
  have hsub := sw hcv
  refine ⟨fun w' => w'.cell? ⟨x1, 13, none⟩ = some vi ∧ aP w' (ad.add 1) 6 = some (.agg (pcs m.2 u)), ⟨hR11.c13, aZ hsub (Fm.drew (fun _ => False) w11) (fun e => e)⟩, ?_⟩
  simp only [RS, hR11.c13, hix, hc0, true_and]
  refine ⟨vi, fun w9 h9 => ?_, ?_⟩
  ·simp only [RS, h9.1]; trivial
  simp only [RS, hix]
  refine ⟨.agg (pcs m.2 u), fun w9 h9 => ?_, ?_⟩
  ·simp only [RS, h9.2]; trivial
  have hfd := Fm.drew (fun _ => False) w11
  have h12 := h11.keep hfd
  generalize w11.drew = w12 at hfd h12
  refine af (cF _ _) ?_
  have hfa := Fm.alloc (fun _ => False) w12 (.cells ([m.1].map iv).toArray 3)
  have hnew := cZ (w := w12) (e := 3) (sz := 1) (base := w12.heap.size) (n := 1) (l := [m.1].map iv) rfl (Nat.le_refl _) (by decide)
  have hF13 := Fmf hfd hfa
  refine ⟨⟨(hR11.keep hF13 (fun e => e)).c13, aZ hsub hF13 (fun e => e)⟩, ?_⟩
  refine (fB (ns := [m.1]) (CellsAt.of_own hnew) (by intro n hn; simp at hn; subst hn; exact nim m hmm) (by simp)).mono ?_
  rintro _ w13 ⟨rfl, hf13⟩
  replace hF13 := Fmf hF13 hf13
  refine ⟨⟨(hR11.keep hF13 (fun e => e)).c13, aZ hsub hF13 (fun e => e)⟩, ?_⟩
  refine (qa (hpg.keep hF13) (by omega)).mono ?_
  rintro _ w14 ⟨rfl, hf14⟩
  obtain ⟨_, htl⟩ := fu hlen
  have hel := aH (nim m hmm)
  have hel2 := aH (n := (cK (eD m.2).1).length) (by omega)
  refine (jc w14 _ (by omega)).mono ?_
  rintro _ w15 ⟨rfl, hf15⟩
  replace hF13 := Fmf hF13 (Fmf hf14 hf15)
  rw [cY]
  have htx : (eA (cK (eD m.2).1)).length ≤ 530 := by unfold eA; rw [List.length_append]; omega
  rw [dL (by omega)]
  try simp only [RS]
  have hq : (aK m.1 ++ eA (cK (eD m.2).1)).length ≤ 540 := by rw [List.length_append]; omega
  refine (h11.keep hF13).app _ (by omega) ?_
  intro v16 w16 h16
  simp only [RS, e1]
  have e2 : B6 ++ (r.imgs.take (i + 1)).flatMap fK = B6 ++ (r.imgs.take i).flatMap fK ++ (aK m.1 ++ eA (cK (eD m.2).1)) := by rw [List.take_add_one, hx]; simp [fK]
  refine ⟨⟨i + 1, _, rfl, by omega, by rw [e2]; exact h16, ?_⟩, by simp only [bM]; omega⟩
  rw [e2]
  simp only [List.length_append] at hl11 ⊢
  omega
 have hie2 : i = r.imgs.length := by omega
 subst hie2
 have d2 : decide (((r.imgs.length : Nat) : Int) < (r.imgs.length : Int)) = false := by simp
 rw [List.take_length] at h11 hl11
 have hl7' : (B6 ++ r.imgs.flatMap fK).length ≤ 9000 := by omega
 generalize hB7 : B6 ++ r.imgs.flatMap fK = B7 at h11 hl7'
 simp only [RS, hR11.c13, hI11.lenV, d2, hR11.c14, (kP h11.fm).lenV]
 refine h11.lit (cF _ _) rfl (by intro n hn; simp at hn; omega) (by omega) ?_
 intro v20 w20 h20
 rw [cY] at h20
 have hl16 : (B7 ++ aK (r.pages.length : Int)).length ≤ 9100 := by rw [List.length_append]; omega
 generalize hB16 : B7 ++ aK (r.pages.length : Int) = B16 at h20 hl16
 clear hlt hl11 h11 hR11 hI11 d2
 refine ⟨fun vl w' => ∃ (i : Nat) (o : Value), vl = [o, iv i] ∧ i ≤ r.pages.length ∧ OS w1 w' o (B16 ++ (r.pages.take i).flatMap prB) ∧ (B16 ++ (r.pages.take i).flatMap prB).length ≤ 9100 + 18 * i, fun vl _ => (r.pages.length - nth vl 1).toNat, ⟨0, _, rfl, by omega, by simpa using h20, by simpa using hl16⟩, ?_⟩
 rintro _ w21 ov iw ⟨i, o, hvl, hile, h21, hl21⟩
 cases hvl
 have hR21 := kR h21.fm
 have hP21 := kP h21.fm
 by_cases hlt : i < r.pages.length
 ·have hx : r.pages[i]? = some r.pages[i] := List.getElem?_eq_getElem hlt
  generalize r.pages[i] = m at hx
  have hmm := List.mem_of_getElem? hx
  obtain ⟨ad, hix, hcv, _⟩ := bJ bj (by omega) hP21 hx
  have hc0 : w21.cell? ad = some (iv m.1) := by
   have := aR hcv (i := 0) (x := iv m.1) rfl
   rw [Go.Al.add_zero] at this; exact this
  have hc1 : w21.cell? (ad.add 1) = some (iv m.2) := aR hcv (i := 1) (x := iv m.2) rfl
  have d2 : decide ((i : Int) < (r.pages.length : Int)) = true := by rw [decide_eq_true_eq]; omega
  have e1 : IntKind.i64.wrap ((i : Int) + 1) = ((i + 1 : Nat) : Int) := by rw [ab] <;> omega
  obtain ⟨hm1, hm2⟩ := npg m hmm
  simp only [RS, hR21.c14, hP21.lenV, d2, hix, hc0, hc1, true_and]
  have h22 := h21.keep (Fm.drew (fun _ => False) w21)
  refine h22.lit (je _ _ _) rfl (by intro n hn; simp at hn; rcases hn with rfl | rfl <;> assumption) (by omega) ?_
  intro v23 w23 h23
  rw [nj] at h23
  simp only [RS, e1]
  have e2 : B16 ++ (r.pages.take (i + 1)).flatMap prB = B16 ++ (r.pages.take i).flatMap prB ++ prB (m.1, m.2) := by rw [List.take_add_one, hx]; simp
  refine ⟨⟨i + 1, _, rfl, by omega, by rw [e2]; exact h23, ?_⟩, by simp only [bM]; omega⟩
  rw [e2]
  have := kc (p := (m.1, m.2)) hm1 hm2
  rw [List.length_append]
  omega
 have hie2 : i = r.pages.length := by omega
 subst hie2
 have d2 : decide (((r.pages.length : Nat) : Int) < (r.pages.length : Int)) = false := by simp
 rw [List.take_length] at h21 hl21
 have hl17' : (B16 ++ r.pages.flatMap prB).length ≤ 160000 := by omega
 generalize hB17 : B16 ++ r.pages.flatMap prB = B17 at h21 hl17'
 simp only [RS, hR21.c14, hP21.lenV, d2, hR21.c15, (kT h21.fm).lenV]
 refine h21.lit (cF _ _) rfl (by intro n hn; simp at hn; omega) (by omega) ?_
 intro v30 w30 h30
 rw [cY] at h30
 have hl26 : (B17 ++ aK (r.txns.length : Int)).length ≤ 160100 := by rw [List.length_append]; omega
 generalize hB26 : B17 ++ aK (r.txns.length : Int) = B26 at h30 hl26
 clear hlt hl21 h21 hR21 hP21 d2
 refine ⟨fun vl w' => ∃ (i : Nat) (o : Value), vl = [o, iv i] ∧ i ≤ r.txns.length ∧ OS w1 w' o (B26 ++ (r.txns.take i).flatMap prB) ∧ (B26 ++ (r.txns.take i).flatMap prB).length ≤ 160100 + 18 * i, fun vl _ => (r.txns.length - nth vl 1).toNat, ⟨0, _, rfl, by omega, by simpa using h30, by simpa using hl26⟩, ?_⟩
 rintro _ w31 ov iw ⟨i, o, hvl, hile, h31, hl31⟩
 cases hvl
 have hR31 := kR h31.fm
 have hT31 := kT h31.fm
 by_cases hlt : i < r.txns.length
 ·have hx : r.txns[i]? = some r.txns[i] := List.getElem?_eq_getElem hlt
  generalize r.txns[i] = m at hx
  have hmm := List.mem_of_getElem? hx
  obtain ⟨ad, hix, hcv, _⟩ := bJ bj (by omega) hT31 hx
  have hc0 : w31.cell? ad = some (iv m.1) := by
   have := aR hcv (i := 0) (x := iv m.1) rfl
   rw [Go.Al.add_zero] at this; exact this
  have hc1 : w31.cell? (ad.add 1) = some (iv m.2) := aR hcv (i := 1) (x := iv m.2) rfl
  have d2 : decide ((i : Int) < (r.txns.length : Int)) = true := by rw [decide_eq_true_eq]; omega
  have e1 : IntKind.i64.wrap ((i : Int) + 1) = ((i + 1 : Nat) : Int) := by rw [ab] <;> omega
  obtain ⟨hm1, hm2⟩ := ntx m hmm
  simp only [RS, hR31.c15, hT31.lenV, d2, hix, hc0, hc1, true_and]
  have h22 := h31.keep (Fm.drew (fun _ => False) w31)
  refine h22.lit (je _ _ _) rfl (by intro n hn; simp at hn; rcases hn with rfl | rfl <;> assumption) (by omega) ?_
  intro v23 w23 h23
  rw [nj] at h23
  simp only [RS, e1]
  have e2 : B26 ++ (r.txns.take (i + 1)).flatMap prB = B26 ++ (r.txns.take i).flatMap prB ++ prB (m.1, m.2) := by rw [List.take_add_one, hx]; simp
  refine ⟨⟨i + 1, _, rfl, by omega, by rw [e2]; exact h23, ?_⟩, by simp only [bM]; omega⟩
  rw [e2]
  have := kc (p := (m.1, m.2)) hm1 hm2
  rw [List.length_append]
  omega
 have hie2 : i = r.txns.length := by omega
 subst hie2
 have d2 : decide (((r.txns.length : Nat) : Int) < (r.txns.length : Int)) = false := by simp
 rw [List.take_length] at h31 hl31
 simp only [RS, hR31.c15, hT31.lenV, d2]
 refine af (h31.o.conv B38) ⟨?_, Fmf hf1 h31.fm⟩
 rw [← hB26, ← hB17, ← hB16, ← hB7, ← hB6, ← hB5, ← hB4]
 rfl
theorem gd {w : World} {cs : Array Value} {r : Rc} (h : RcAs w cs r) : Cl prog 86 [.agg cs] w fun v w' => v = iv (rCheck r).2 ∧ Fm (fun _ => False) w w' := by
 obtain ⟨vs, vm, vi, vp, vt, hcs, _, hs, hm, hi, hp, ht⟩ := h.ex
 have hk8 := h.kin
 have hbulk := h.bulk
 refine c86 ?_; unfold T86
 refine ao ?_
 intro x1 w1 hx1 hs1 hw1 hf1
 have hR1 : RB w1 x1 r vs vm vi vp vt := ⟨by rw [← hcs]; exact hw1⟩
 have h1 := h.keep hf1
 rw [hcs] at h1
 unfold rCheck
 simp only [RS, hR1.c3]
 cases e1 : decide (r.kind < 1) with
 | true =>
  simp only [RS, Bool.true_or, cond_true]
  exact ⟨(by trivial), hf1⟩
 | false =>
 simp only [RS, hR1.c3, Bool.false_or]
 cases e2 : decide (13 < r.kind) with
 | true =>
  simp only [RS, cond_true]
  exact ⟨(by trivial), hf1⟩
 | false =>
 simp only [RS, cond_false, hR1.all]
 refine (ma h1).mono ?_
 rintro _ w2 ⟨rfl, hf2⟩
 have hF2 := Fmf hf1 hf2
 have hR2 := hR1.keep hf2 (fun e => e)
 unfold pA
 cases e3 : decide (r.lsn < 1) || (rNums r).any da with
 | true =>
  simp only [RS, cond_true]
  exact ⟨(by trivial), hF2⟩
 | false =>
 have m1 : decide ((512 : Int) < (r.data.length : Int)) = decide (512 < r.data.length) := by rw [decide_eq_decide]; omega
 have m2 : decide ((255 : Int) < (r.slots.length : Int)) = decide (255 < r.slots.length) := by rw [decide_eq_decide]; omega
 have m3 : decide ((255 : Int) < (r.more.length : Int)) = decide (255 < r.more.length) := by rw [decide_eq_decide]; omega
 have m4 : decide ((4 : Int) < (r.imgs.length : Int)) = decide (4 < r.imgs.length) := by rw [decide_eq_decide]; omega
 have m5 : decide ((8192 : Int) < (r.pages.length : Int)) = decide (8192 < r.pages.length) := by rw [decide_eq_decide]; omega
 have m6 : decide ((1024 : Int) < (r.txns.length : Int)) = decide (1024 < r.txns.length) := by rw [decide_eq_decide]; omega
 simp only [RS, cond_false, hR2.c10, aj, m1]
 have long : ∀ {w'}, bO r = true → Fm (fun _ => False) w w' → Value.int .i64 3 = iv (bif bO r then (([] : Bs), (3 : Int)) else cJ r).2 ∧ Fm (fun _ => False) w w' := fun hl hf => ⟨by rw [hl]; rfl, hf⟩
 cases q1 : decide (512 < r.data.length) with
 | true => simp only [RS]; exact long (by simp [bO, q1]) hF2
 | false =>
 simp only [RS, hR2.c11, hs.lenV, m2]
 cases q2 : decide (255 < r.slots.length) with
 | true => simp only [RS]; exact long (by simp [bO, q2]) hF2
 | false =>
 simp only [RS, hR2.c12, hm.lenV, m3]
 cases q3 : decide (255 < r.more.length) with
 | true => simp only [RS]; exact long (by simp [bO, q3]) hF2
 | false =>
 simp only [RS, hR2.c13, hi.lenV, m4]
 cases q4 : decide (4 < r.imgs.length) with
 | true => simp only [RS]; exact long (by simp [bO, q4]) hF2
 | false =>
 simp only [RS, hR2.c14, hp.lenV, m5]
 cases q5 : decide (8192 < r.pages.length) with
 | true => simp only [RS]; exact long (by simp [bO, q5]) hF2
 | false =>
 simp only [RS, hR2.c15, ht.lenV, m6]
 cases q6 : decide (1024 < r.txns.length) with
 | true => simp only [RS]; exact long (by simp [bO, q6]) hF2
 | false =>
 have hl : bO r = false := by unfold bO; rw [q1, q2, q3, q4, q5, q6]; rfl
 rw [hl, cond_false]
 simp only [RS]
 clear long
 refine ⟨fun vl w3 => ∃ i : Nat, vl = [iv i] ∧ i ≤ r.imgs.length ∧ ck r.imgs = ck (r.imgs.drop i) ∧ (∀ m ∈ r.imgs.take i, pErr m.2 = 0) ∧ Fm (fun _ => False) w2 w3, fun vl _ => (r.imgs.length - nth vl 0).toNat, ⟨0, rfl, by omega, rfl, by simp, Fm.refl _ _⟩, ?_⟩
 rintro _ w3 iv3 ⟨i, hvl, hile, hie, hno, hf3⟩
 cases hvl
 have hF3 := Fmf hF2 hf3
 have hR3 := hR2.keep hf3 (fun e => e)
 have hi3 := hi.keep hF3
 by_cases hlt : i < r.imgs.length
 ·have hx : r.imgs[i]? = some r.imgs[i] := List.getElem?_eq_getElem hlt
  have hdr := List.drop_eq_getElem_cons hlt
  generalize r.imgs[i] = m at hx hdr
  rw [hdr] at hie
  obtain ⟨ad, u, hix, hcv, hone, hpg⟩ := hi3.ld hx
  have d2 : decide ((i : Int) < (r.imgs.length : Int)) = true := by rw [decide_eq_true_eq]; omega
  have e2 : IntKind.i64.wrap ((i : Int) + 1) = ((i + 1 : Nat) : Int) := by rw [ab] <;> omega
  simp only [RS, hR3.c13, hi3.lenV, d2, hix, sw hcv]
  refine (ec hpg).mono ?_
  rintro _ w4 ⟨rfl, hf4⟩
  have he : lI m.2 = .tuple #[stv (eD m.2).1, iv (pErr m.2)] := by unfold lI; rw [gw]
  rw [he]
  rw [show ck (m :: r.imgs.drop (i + 1)) = bif decide (pErr m.2 = 0) then ck (r.imgs.drop (i + 1)) else pErr m.2 from rfl] at hie
  simp only [RS, al]
  cases hz : decide (pErr m.2 = 0) with
  | false =>
   rw [hz, cond_false] at hie
   have hz' : decide (ck r.imgs = 0) = false := by rw [hie]; exact hz
   simp only [RS, Bool.not_false]
   refine ⟨?_, Fmf hF3 hf4⟩
   unfold cJ
   rw [hz', cond_false, hie]
  | true =>
   rw [hz, cond_true] at hie
   have h0 : pErr m.2 = 0 := by simpa using hz
   simp only [RS, Bool.not_true, e2]
   refine ⟨⟨i + 1, rfl, by omega, hie, ?_, Fmf hf3 hf4⟩, by simp only [bw]; omega⟩
   intro y hy
   rw [List.take_add_one, hx] at hy
   rcases List.mem_append.1 hy with hy | hy
   ·exact hno y hy
   ·simp at hy; subst hy; exact h0
 have hie2 : i = r.imgs.length := by omega
 subst hie2
 rw [List.drop_length] at hie
 rw [List.take_length] at hno
 have d2 : decide (((r.imgs.length : Nat) : Int) < (r.imgs.length : Int)) = false := by simp
 have hie0 : decide (ck r.imgs = 0) = true := by rw [hie]; rfl
 simp only [RS, hR3.c13, hi3.lenV, d2, hR3.all]
 refine (fY ((h1.keep hf2).keep hf3) hl hno).mono ?_
 rintro _ w4 ⟨rfl, hf4⟩
 have hF4 := Fmf hF3 hf4
 unfold cJ
 rw [hie0, cond_true]
 generalize cl r = B
 have d9 : decide ((65535 : Int) < (B.length : Int)) = decide (65535 < B.length) := by rw [decide_eq_decide]; omega
 simp only [RS, aj, d9]
 cases hbig : decide (65535 < B.length) with
 | true =>
  simp only [RS, cond_true]
  exact ⟨(by trivial), hF4⟩
 | false =>
  simp only [RS, cond_false]
  exact ⟨(by trivial), hF4⟩
theorem ou {w : World} {cs : Array Value} {r : Rc} (h : RcAs w cs r) : Cl prog 130 [.agg cs] w fun v w' => v = .tuple #[stv (rEnc r).1, iv (rEnc r).2] ∧ Fm (fun _ => False) w w' := by
 refine c130 ?_; unfold T130
 refine ao ?_
 intro x1 w1 hx1 hs1 hw1 hf1
 simp only [RS, ax hw1 h.size]
 refine (gd (h.keep hf1)).mono ?_
 rintro _ w2 ⟨rfl, hf2⟩
 have hF2 := Fmf hf1 hf2
 have hw2 := hf2.heap hw1 (fun e => e)
 unfold rEnc
 simp only [RS, al]
 cases hz : decide ((rCheck r).2 = 0) with
 | false =>
  simp only [RS, Bool.not_false, cond_false]
  exact ⟨(by trivial), hF2⟩
 | true =>
 rw [decide_eq_true_eq] at hz
 obtain ⟨hg, _, hb, hbl⟩ := cG hz h.lsns
 have hd := hg.data
 have hs := hg.slots
 have hm := hg.more
 have hi := hg.imgs
 have hp := hg.pages
 have ht := hg.txns
 have hl : bO r = false := by simp only [bO, Bool.or_eq_false_iff, decide_eq_false_iff_not]; omega
 simp only [RS, Bool.not_true, ax hw2 h.size]
 refine (fY (h.keep hF2) hl hg.img).mono ?_
 rintro _ w3 ⟨rfl, hf3⟩
 have hF3 := Fmf hF2 hf3
 rw [hb, cond_true]
 generalize cl r = s at hbl
 simp only [RS, aj]
 refine (bk w3 (by omega) 4).mono ?_
 rintro _ w4 ⟨rfl, hf4⟩
 refine (fE w4 s (by omega)).mono ?_
 rintro _ w5 ⟨rfl, rfl⟩
 obtain ⟨q1, q2⟩ := gr s
 simp only [RS, aV, q2]
 refine (bk w5 q1 4).mono ?_
 rintro _ w6 ⟨rfl, hf6⟩
 have g1 : fg (s.length : Nat) 4 = beN 4 s.length := bB (n := s.length) (w := 4) (by omega) (by omega)
 have g2 : fg (crc s : Nat) 4 = beN 4 (crc s) := bB (n := crc s) (w := 4) (by omega) (by omega)
 rw [g1, g2, dL (by rw [aw, aw]; omega)]
 try simp only [RS]
 rw [dL (by rw [List.length_append, aw, aw]; omega)]
 try simp only [RS]
 exact ⟨(by trivial), Fmf hF3 (Fmf hf4 hf6)⟩
theorem ce (most : Int) (st : St2) : 0 ≤ (rn most st).1 ∧ (rn most st).1 ≤ max most 0 ∧ (rn most st).2.1.length ≤ st.1.length := by
 unfold rn mj
 cases decide (st.2 = 0) with
 | true => exact sx most 9 0 0 st.1
 | false => exact ⟨Int.le_refl _, by show (0 : Int) ≤ _; omega, Nat.le_refl _⟩
theorem px {most : Int} (hm : 0 ≤ most) (st : St2) : ((rt most st).1.length : Int) ≤ most ∧ (rt most st).2.1.length ≤ st.1.length := by
 have h := ce most st
 unfold rt
 cases decide ((rn most st).2.2 = 0) with
 | true =>
  cases hd : decide (((rn most st).2.1.length : Int) < (rn most st).1) with
  | true => simp; omega
  | false => simp only [cond_true, cond_false, List.length_take, List.length_drop]; omega
 | false => simp only [cond_false, List.length_nil]; omega
theorem qy : ∀ (n : Nat) (st : St2), (mf n st).1.length ≤ n ∧ (∀ x ∈ (mf n st).1, okN x) ∧ (mf n st).2.1.length ≤ st.1.length
 | 0, st => ⟨Nat.le_refl _, by simp [mf], Nat.le_refl _⟩
 | n + 1, st => by
  have h := ce 4611686018427387904 st
  have ih := qy n (rn 4611686018427387904 st).2
  have h1 : okN (rn 4611686018427387904 st).1 := ⟨h.1, by have := h.2.1; omega⟩
  unfold mf
  cases decide ((rn 4611686018427387904 st).2.2 = 0) with
  | true =>
   simp only [cond_true, List.length_cons]
   refine ⟨by omega, fun x hx => ?_, by omega⟩
   rcases List.mem_cons.1 hx with rfl | hx
   ·exact h1
   ·exact ih.2.1 x hx
  | false =>
   simp only [cond_false]
   refine ⟨by simp, fun x hx => ?_, h.2.2⟩
   obtain rfl : x = _ := by simpa using hx
   exact h1
theorem pr {most : Int} (hm : 0 ≤ most) (st : St2) : ((rl most st).1.length : Int) ≤ most ∧ (∀ x ∈ (rl most st).1, okN x) ∧ (rl most st).2.1.length ≤ st.1.length := by
 have h := ce most st
 have h2 := qy (rn most st).1.toNat (rn most st).2
 unfold rl
 exact ⟨by omega, h2.2.1, by omega⟩
theorem pw : ∀ (n : Nat) (st : St2) {r : List (Int × Pg) × St2}, oJ n st = some r → r.1.length = n ∧ (∀ m ∈ r.1, okN m.1 ∧ m.2.lsn ≤ 9223372036854775807) ∧ r.2.1.length ≤ st.1.length
 | 0, st, r, h => by cases h; exact ⟨rfl, by simp, Nat.le_refl _⟩
 | n + 1, st, r, h => by
  have h0 := ce 4611686018427387904 st
  have h1 := px (most := 512) (by omega) (rn 4611686018427387904 st).2
  unfold oJ at h
  cases hc : decide ((cP (fN (rt 512 (rn 4611686018427387904 st).2).1)).2 = 0) && decide ((rt 512 (rn 4611686018427387904 st).2).2.2 = 0) with
  | false => rw [hc, cond_false] at h; cases h
  | true =>
   rw [hc, cond_true, Option.map_eq_some_iff] at h
   obtain ⟨q, hq, rfl⟩ := h
   have ih := pw n _ hq
   rw [Bool.and_eq_true, decide_eq_true_eq] at hc
   refine ⟨by simp only [List.length_cons]; omega, fun m hm => ?_, by simp only; omega⟩
   rcases List.mem_cons.1 hm with rfl | hm
   ·exact ⟨⟨h0.1, by have := h0.2.1; simp only; omega⟩, (mg hc.1).2.2⟩
   ·exact ih.2.1 m hm
theorem mC : ∀ (n : Nat) (st : St2) {r : List (Int × Int) × St2}, jI n st = some r → r.1.length = n ∧ (∀ m ∈ r.1, okN m.1 ∧ okN m.2) ∧ r.2.1.length ≤ st.1.length
 | 0, st, r, h => by cases h; exact ⟨rfl, by simp, Nat.le_refl _⟩
 | n + 1, st, r, h => by
  have h0 := ce 4611686018427387904 st
  have h1 := ce 4611686018427387904 (rn 4611686018427387904 st).2
  unfold jI at h
  cases hc : decide (st.2 = 0) with
  | false => rw [hc, cond_false] at h; cases h
  | true =>
   rw [hc, cond_true, Option.map_eq_some_iff] at h
   obtain ⟨q, hq, rfl⟩ := h
   have ih := mC n _ hq
   refine ⟨by simp only [List.length_cons]; omega, fun m hm => ?_, by simp only; omega⟩
   rcases List.mem_cons.1 hm with rfl | hm
   ·exact ⟨⟨h0.1, by have := h0.2.1; simp only; omega⟩, ⟨h1.1, by have := h1.2.1; simp only; omega⟩⟩
   ·exact ih.2.1 m hm
structure Bnd (r : Rc) : Prop where
 nums : ∀ n ∈ rNums r, okN n
 kind : 0 ≤ r.kind ∧ r.kind ≤ 13
 data : r.data.length ≤ 512
 slots : r.slots.length ≤ 255
 more : r.more.length ≤ 255
 imgs : r.imgs.length ≤ 4
 pages : r.pages.length ≤ 8192
 txns : r.txns.length ≤ 1024
 lsns : ∀ m ∈ r.imgs, m.2.lsn ≤ 9223372036854775807
theorem fl {l : List (Int × Int)} {n : Int} (h : n ∈ prs l) : ∃ p ∈ l, n = p.1 ∨ n = p.2 := by
 unfold prs at h
 obtain ⟨p, hp, hn⟩ := List.mem_flatMap.1 h
 simp at hn
 exact ⟨p, hp, hn⟩
theorem tf {a : List Int} {st : St2} {x : Rc} (h : nS a st = some x) (ha : ∀ i, i < 10 → i ≠ 3 → okN (gI a i)) (hk : 0 ≤ gI a 3 ∧ gI a 3 ≤ 13) : Bnd x := by
 unfold nS at h
 have t1 := px (most := 512) (by omega) st
 have t2 := pr (most := 255) (by omega) (rt 512 st).2
 have t3 := pr (most := 255) (by omega) (rl 255 (rt 512 st).2).2
 have t4 := ce 4 (rl 255 (rl 255 (rt 512 st).2).2).2
 simp only at h
 rw [Option.bind_eq_some_iff] at h
 obtain ⟨im, h1, h⟩ := h
 rw [Option.bind_eq_some_iff] at h
 obtain ⟨pg, h2, h⟩ := h
 rw [Option.bind_eq_some_iff] at h
 obtain ⟨tx, h3, h⟩ := h
 have t5 := ce 8192 im.2
 have t6 := ce 1024 pg.2
 have u1 := pw _ _ h1
 have u2 := mC _ _ h2
 have u3 := mC _ _ h3
 cases he : decide (uC tx.2.1 tx.2.2 = 0) with
 | false => rw [he, cond_false] at h; cases h
 | true =>
  rw [he, cond_true] at h
  cases h
  refine ⟨fun n hn => ?_, hk, by simp only; omega, by simp only; omega, by simp only; omega, by simp only; omega, by simp only; omega, by simp only; omega, fun m hm => (u1.2.1 m hm).2⟩
  unfold rNums at hn
  simp only [List.mem_append] at hn
  rcases hn with ((((hn | hn) | hn) | hn) | hn) | hn
  ·simp only [List.mem_cons, List.not_mem_nil, or_false] at hn
   rcases hn with rfl | rfl | rfl | rfl | rfl | rfl | rfl | rfl | rfl <;> exact ha _ (by omega) (by omega)
  ·exact t2.2.1 n hn
  ·exact t3.2.1 n hn
  ·obtain ⟨m, hm, rfl⟩ := List.mem_map.1 hn
   exact (u1.2.1 m hm).1
  ·obtain ⟨p, hp, e | e⟩ := fl hn <;> rw [e]
   ·exact (u2.2.1 p hp).1
   ·exact (u2.2.1 p hp).2
  ·obtain ⟨p, hp, e | e⟩ := fl hn <;> rw [e]
   ·exact (u3.2.1 p hp).1
   ·exact (u3.2.1 p hp).2
theorem ft {w : World} {rb : Nat} {st : St2} (h : RdAt w rb st.1 st.2) (hs : st.1.length ≤ 1000000) {most : Int} (hm : most ≤ 9223372036854775807) : Cl prog 150 [pv rb, iv most] w fun v w' => v = iv (rn most st).1 ∧ RdAt w' rb (rn most st).2.1 (rn most st).2.2 ∧ Fm (· = rb) w w' :=
 qE h most (by omega) hm
theorem oC {w : World} {rb : Nat} {st : St2} (h : RdAt w rb st.1 st.2) (hs : st.1.length ≤ 1000000) {most : Int} (hm : most ≤ 9223372036854775807) : Cl prog 151 [pv rb, iv most] w fun v w' => v = stv (rt most st).1 ∧ RdAt w' rb (rt most st).2.1 (rt most st).2.2 ∧ Fm (· = rb) w w' := by
 refine c151 ?_; unfold T151
 refine (ft h hs hm).mono ?_
 have hin := ce most st
 unfold rt
 rintro _ w1 ⟨rfl, h1, hf1⟩
 generalize (rn most st).1 = n at hin ⊢
 generalize (rn most st).2 = st1 at hin h1
 simp only [RS, h1.c1, al]
 cases hz : decide (st1.2 = 0) with
 | false =>
  simp only [RS, cond_false]
  exact ⟨(by trivial), h1, hf1⟩
 | true =>
  obtain ⟨j, rfl⟩ := Int.eq_ofNat_of_zero_le hin.1
  simp only [RS, cond_true, h1.c0, aj, Int.toNat_natCast]
  cases hd : decide ((st1.1.length : Int) < (j : Int)) with
  | true =>
   simp only [RS, cond_true]
   refine (dt h1 10).mono ?_
   rintro _ w2 ⟨rfl, h2, hf2⟩
   try simp only [RS]
   exact ⟨(by trivial), h2, hf1.trans hf2 (fun _ _ e => e) (fun _ _ e => e)⟩
  | false =>
   rw [decide_eq_false_iff_not] at hd
   have s1 := df (l := st1.1) (i := j) (by omega) .i64
   have s2 := cQ (l := st1.1) (i := j) (by omega) .i64
   simp only [RS, cond_false, h1.c0, s1, s2]
   refine ay h1 (by show 0 < 2; decide) rfl ?_
   intro w2 hw2 hs2 hf2
   rw [decide_eq_true_eq] at hz
   refine ⟨(by trivial), ?_, hf1.trans hf2 (fun _ _ e => e) (fun _ _ e => e)⟩
   have : RdAt w2 rb (st1.1.drop j) st1.2 := hw2
   rw [hz] at this
   exact this
theorem nO {w : World} {rb : Nat} {st : St2} (h : RdAt w rb st.1 st.2) (hs : st.1.length ≤ 1000000) : Cl prog 152 [pv rb, iv 255] w fun v w' => w'.ownsRow w.heap.size 3 1 v (rl 255 st).1.length ((rl 255 st).1.map iv) ∧ RdAt w' rb (rl 255 st).2.1 (rl 255 st).2.2 ∧ Fm (· = rb) w w' := by
 refine c152 ?_; unfold T152
 refine bG (fun vs w' => ∃ v, vs = [v] ∧ w'.ownsRow w.heap.size 3 1 v (rl 255 st).1.length ((rl 255 st).1.map iv) ∧ RdAt w' rb (rl 255 st).2.1 (rl 255 st).2.2 ∧ Fm (· = rb) w w') ?_ ?_
 ·rintro _ w' ⟨v, rfl, g⟩ _
  exact ⟨v, rfl, g⟩
 ·intro jj hjj
  refine (ft h hs (by omega)).mono ?_
  have hin := ce 255 st
  unfold rl at hjj
  rintro _ w1 ⟨rfl, h1, hf1⟩
  generalize (rn 255 st).1 = n at hin hjj ⊢
  generalize (rn 255 st).2 = st1 at hin h1 hjj
  obtain ⟨N, rfl⟩ := Int.eq_ofNat_of_zero_le hin.1
  rw [Int.toNat_natCast] at hjj
  have hz1 := hf1.size
  refine ⟨fun vs w' => ∃ (i : Nat) (v : Value) (L : List Int) (st2 : St2), vs = [v, iv i] ∧ i ≤ N ∧ L.length = i ∧ w'.ownsRow w.heap.size 3 1 v L.length (L.map iv) ∧ RdAt w' rb st2.1 st2.2 ∧ st2.1.length ≤ 1000000 ∧ mf N st1 = (L ++ (mf (N - i) st2).1, (mf (N - i) st2).2) ∧ Fm (· = rb) w w', fun vs _ => (N - nth vs 1).toNat, ⟨0, _, [], st1, rfl, by omega, rfl, World.ownsRow_nil _ _ _ _, h1, by omega, rfl, hf1⟩, ?_⟩
  rintro _ w2 v iv2 ⟨i, v0, L, st2, hvs, hi, hL, ho2, h2, hl2, heq, hf2⟩
  cases hvs
  have hz2 := hf2.size
  by_cases hlt : i < N
  ·have d1 : decide ((i : Int) < (N : Int)) = true := by rw [decide_eq_true_eq]; omega
   have e1 : IntKind.i64.wrap ((i : Int) + 1) = ((i + 1 : Nat) : Int) := by rw [ab] <;> omega
   obtain ⟨m, hm⟩ : ∃ m, N - i = m + 1 := ⟨N - i - 1, by omega⟩
   have hm1 : N - (i + 1) = m := by omega
   simp only [RS, d1]
   refine (ft h2 hl2 (by omega)).mono ?_
   rw [hm, mf] at heq
   have hin2 := ce 4611686018427387904 st2
   rintro _ w3 ⟨rfl, h3, hf3⟩
   generalize (rn 4611686018427387904 st2).1 = x at heq hin2 ⊢
   generalize (rn 4611686018427387904 st2).2 = st3 at heq hin2 h3
   have hF3 : Fm (· = rb) w w3 := hf2.trans hf3 (fun _ _ e => e) (fun _ _ e => e)
   have hz3 := hF3.size
   have hrd : RdAt w2 rb st2.1 st2.2 := h2
   have hrbne : ∀ k, v.ownBlock = some k → k ≠ rb := by
    intro k hk e
    rcases ho2.2 with ⟨rfl, _⟩ | ⟨g, cap, cur, rfl, _, hg, _⟩
    ·cases hk
    ·have e1 : g = k := by simpa [Value.ownBlock] using hk
     rw [e1, e] at hg
     have hq : w2.heap[rb]? = _ := hrd
     rw [hq] at hg; cases hg
   have ho3 := ae ho2 hf3 (fun k _ _ hk e => hrbne k hk e)
   refine gO ho3 (cF _ _) rfl (by omega) hz3 ?_
   intro v4 w4 ho4 hf4
   have hrl := h.lt
   have h4 := h3.keep hf4 (fun e => by omega)
   have hF4 : Fm (· = rb) w w4 := hF3.trans hf4 (fun _ _ e => e) (fun y hy e => by omega)
   refine (cV h4).mono ?_
   rintro _ w5 ⟨rfl, rfl⟩
   simp only [RS, al]
   cases hz : decide (st3.2 = 0) with
   | false =>
    rw [hz, cond_false] at heq
    simp only [RS]
    refine hjj _ _ ⟨v4, rfl, ?_⟩
    rw [heq]
    exact ⟨ho4, h4, hF4⟩
   | true =>
    rw [hz, cond_true] at heq
    simp only [RS, e1]
    refine ⟨⟨i + 1, v4, L ++ [x], st3, rfl, by omega, by rw [List.length_append, hL]; rfl, ho4, h4, by omega, ?_, hF4⟩, by simp only [bM]; omega⟩
    rw [heq, hm1]
    simp
  ·have hie : i = N := by omega
   subst hie
   have d1 : decide ((i : Int) < (i : Int)) = false := by simp
   rw [Nat.sub_self, mf] at heq
   simp only [List.append_nil] at heq
   simp only [RS, d1]
   refine hjj _ _ ⟨v, rfl, ?_⟩
   rw [heq]
   exact ⟨ho2, h2, hf2⟩
theorem ez {w : World} {base n bytes sz : Nat} {t e : TypeId} {v : Value} {xs : List Value} (E : ElemT prog t e sz bytes) (hsz : 0 < sz) (h : w.ownsRow base e sz v n xs) {b : Nat} {cs : List Value} (hb : w.heap[b]? = some (.cells cs.toArray e)) (hcs : cs.length = sz) (h1 : ∀ u ∈ cs, u.oneCell' = true) (hn : (n + 1) * bytes ≤ 140737488355328) (h63 : n + 1 ≤ maxLen) (hbs : base ≤ w.heap.size) :
  ∃ v' w', (Builtin.append_ #[t, t] t #[v, .slice (some ⟨b, 0, none⟩) 1 1]).run prog w = .ok v' w' ∧ w'.ownsRow base e sz v' (n + 1) (xs ++ cs) ∧ (∀ y, v'.ownBlock = some y → v.ownBlock = some y ∨ w.heap.size ≤ y) ∧ Fm (fun y => v.ownBlock = some y) w w' := by
 obtain ⟨v', w', hr, ho, hc⟩ := iG E hsz h t ⟨b, 0, none⟩ 1 1 (by omega) cs (by omega) (fun j u hj => by rw [bv, Nat.zero_add, ag hb]; simpa using hj) h1 h63 hn hbs
 refine ⟨v', w', hr, ho, ?_⟩
 rcases hc with ⟨g, e1, e2, e3⟩ | ⟨g, e1, e2, e3⟩
 ·exact ⟨fun y hy => .inl (by rw [e1, ← e2]; exact hy), e3.mono (fun y _ e => by rw [e]; exact e1)⟩
 ·exact ⟨fun y hy => .inr (by rw [e1] at hy; cases hy; exact e2), e3.mono (fun _ _ e => e.elim)⟩
abbrev nl : Value := .slice none 0 0
def rc0 : Rc := ⟨0, 0, 0, 0, 0, 0, 0, 0, 0, 0, [], [], [], [], [], []⟩
theorem dA {r : Rc} {vs vm vi vp vt : Value} (h1 : vs.oneCell' = true) (h2 : vm.oneCell' = true) (h3 : vi.oneCell' = true) (h4 : vp.oneCell' = true) (h5 : vt.oneCell' = true) : ∀ u ∈ (rcs r vs vm vi vp vt).toList, u.oneCell' = true := by
 intro u hu
 simp [rcs] at hu
 rcases hu with rfl | rfl | rfl | rfl | rfl | rfl | rfl | rfl | rfl | rfl | rfl | rfl | rfl | rfl | rfl | rfl <;> first | rfl | assumption
theorem kF (w : World) : (Instr.build 28 #[]).run prog w = .ok (.agg (rcs rc0 nl nl nl nl nl)) w := by kernel_rfl
theorem mq : mR prog 28 = some true := by kernel_rfl
theorem gW : cm prog 28 = some 16 := by kernel_rfl
theorem wZ : ElemT prog 24 118 7 80 := cB Tryz.underlying24 (by kernel_rfl)
theorem wV : ElemT prog 25 120 2 16 := cB Tryz.underlying25 (by kernel_rfl)
theorem xj : ElemT prog 26 122 2 16 := cB Tryz.underlying26 (by kernel_rfl)
theorem vu (m : Int) (p : Pg) (a : Option Addr) (n c : Nat) (w : World) : (Instr.build 118 #[(0, iv m), (1, .agg (pcs p (.slice a n c)))]).run prog w = .ok (.agg (imC (m, p, .slice a n c)).toArray) w := by kernel_rfl
theorem xi (m : Int) (p : Pg) (a : Option Addr) (n c : Nat) (w : World) : (Instr.buildSlice 24 1 #[(0, .agg (imC (m, p, .slice a n c)).toArray)]).run prog w = .ok (.slice (some ⟨w.heap.size, 0, none⟩) 1 1) (w.alloc (.cells (imC (m, p, .slice a n c)).toArray 118)) := by kernel_rfl
theorem uY (a b : Int) (w : World) : (Instr.build 120 #[(0, iv a), (1, iv b)]).run prog w = .ok (.agg (pc2 (a, b)).toArray) w := by kernel_rfl
theorem vh (a b : Int) (w : World) : (Instr.build 122 #[(0, iv a), (1, iv b)]).run prog w = .ok (.agg (pc2 (a, b)).toArray) w := by kernel_rfl
theorem xc (a b : Int) (w : World) : (Instr.buildSlice 25 1 #[(0, .agg (pc2 (a, b)).toArray)]).run prog w = .ok (.slice (some ⟨w.heap.size, 0, none⟩) 1 1) (w.alloc (.cells (pc2 (a, b)).toArray 120)) := by kernel_rfl
theorem xk (a b : Int) (w : World) : (Instr.buildSlice 26 1 #[(0, .agg (pc2 (a, b)).toArray)]).run prog w = .ok (.slice (some ⟨w.heap.size, 0, none⟩) 1 1) (w.alloc (.cells (pc2 (a, b)).toArray 122)) := by kernel_rfl
structure HS (w0 w : World) (x2 rb r4 x5 : Nat) (st : St2) (r : Rc) (vs vm vi vp vt : Value) : Prop where
 res : w.heap[x2]? = some (.cells (rcs rc0 nl nl nl nl nl) 28)
 rd : RdAt w rb st.1 st.2
 rp : w.heap[r4]? = some (.cells #[pv rb] 181)
 x : RB w x5 r vs vm vi vp vt
 fm : Fm (fun _ => False) w0 w
 o1 : w0.heap.size ≤ x2
 o2 : x2 < rb
 o3 : rb < r4
 o4 : r4 < x5
 len : st.1.length ≤ 1000000
section
variable {w0 w w' : World} {x2 rb r4 x5 : Nat} {st : St2} {r : Rc} {vs vm vi vp vt : Value}
theorem HS.keepG {S : Nat → Prop} (h : HS w0 w x2 rb r4 x5 st r vs vm vi vp vt) (hf : Fm S w w') (hS : ∀ y, S y → x5 < y) : HS w0 w' x2 rb r4 x5 st r vs vm vi vp vt := by
 have := h.o1
 have := h.o2
 have := h.o3
 have := h.o4
 have hn : ∀ y, y ≤ x5 → ¬ S y := fun y hy e => by have := hS y e; omega
 exact ⟨hf.heap h.res (hn _ (by omega)), h.rd.keep hf (hn _ (by omega)), hf.heap h.rp (hn _ (by omega)), h.x.keep hf (hn _ (by omega)), Fm.own h.fm hf (fun y hy => by have := hS y hy; omega), h.o1, h.o2, h.o3, h.o4, h.len⟩
theorem HS.rdr (h : HS w0 w x2 rb r4 x5 st r vs vm vi vp vt) {st' : St2} (hr : RdAt w' rb st'.1 st'.2) (hf : Fm (· = rb) w w') (hl : st'.1.length ≤ st.1.length) : HS w0 w' x2 rb r4 x5 st' r vs vm vi vp vt := by
 have := h.o1
 have := h.o2
 have := h.o3
 have := h.o4
 have := h.len
 exact ⟨hf.heap h.res (by omega), hr, hf.heap h.rp (by omega), h.x.keep hf (by omega), Fm.own h.fm hf (by rintro y rfl; omega), h.o1, h.o2, h.o3, h.o4, by omega⟩
theorem HS.cp (h : HS w0 w x2 rb r4 x5 st r vs vm vi vp vt) : w.cell? ⟨r4, 0, none⟩ = some (pv rb) := by rw [ag h.rp]; rfl
theorem HS.numk (h : HS w0 w x2 rb r4 x5 st r vs vm vi vp vt) {most : Int} (hm : most ≤ 9223372036854775807) {k : KV} (hk : ∀ w', HS w0 w' x2 rb r4 x5 (rn most st).2 r vs vm vi vp vt → Fm (· = rb) w w' → k (iv (rn most st).1) w') : Cl prog 150 [pv rb, iv most] w k := by
 refine (ft h.rd h.len hm).mono ?_
 rintro _ w' ⟨rfl, h1, hf⟩
 exact hk w' (h.rdr h1 hf (ce most st).2.2) hf
theorem HS.num (h : HS w0 w x2 rb r4 x5 st r vs vm vi vp vt) {k : KV} (hk : ∀ w', HS w0 w' x2 rb r4 x5 (rn 4611686018427387904 st).2 r vs vm vi vp vt → Fm (· = rb) w w' → k (iv (rn 4611686018427387904 st).1) w') : ClV prog (.func (.func 149) #[] #[pv r4]) [] w k := by
 refine nF (by kernel_rfl) ?_
 show Cl prog 149 [pv r4] w k
 refine c149 ?_; unfold T149
 simp only [RS, h.cp]
 refine h.numk (by omega) ?_
 intro w' h' hf
 exact hk w' h' hf
theorem HS.text (h : HS w0 w x2 rb r4 x5 st r vs vm vi vp vt) {k : KV} (hk : ∀ w', HS w0 w' x2 rb r4 x5 (rt 512 st).2 r vs vm vi vp vt → Fm (· = rb) w w' → k (stv (rt 512 st).1) w') : Cl prog 151 [pv rb, iv 512] w k := by
 refine (oC h.rd h.len (by omega)).mono ?_
 rintro _ w' ⟨rfl, h1, hf⟩
 exact hk w' (h.rdr h1 hf (px (by omega) st).2) hf
theorem HS.list (h : HS w0 w x2 rb r4 x5 st r vs vm vi vp vt) {k : KV} (hk : ∀ v w', HS w0 w' x2 rb r4 x5 (rl 255 st).2 r vs vm vi vp vt → w'.ownsRow w.heap.size 3 1 v (rl 255 st).1.length ((rl 255 st).1.map iv) → Fm (· = rb) w w' → k v w') : Cl prog 152 [pv rb, iv 255] w k := by
 refine (nO h.rd h.len).mono ?_
 rintro v w' ⟨ho, h1, hf⟩
 exact hk v w' (h.rdr h1 hf (pr (by omega) st).2.2) ho hf
theorem HS.put (h : HS w0 w x2 rb r4 x5 st r vs vm vi vp vt) {j : Nat} {u : Value} {r' : Rc} {vs' vm' vi' vp' vt' : Value} (hj : j < 16) (hu : u.oneCell' = true) (e : (rcs r vs vm vi vp vt).setIfInBounds j u = rcs r' vs' vm' vi' vp' vt') {k : KV}
  (hk : ∀ w', HS w0 w' x2 rb r4 x5 st r' vs' vm' vi' vp' vt' → Fm (· = x5) w w' → k undef w') : St 1 w (.pointer (some ⟨x5, j, none⟩)) u k := by
 have := h.o1
 have := h.o2
 have := h.o3
 have := h.o4
 refine ay h.x.h (by show j < 16; exact hj) hu ?_
 intro w' hw' hs' hf'
 rw [e] at hw'
 exact hk w' ⟨hf'.heap h.res (by omega), h.rd.keep hf' (by omega), hf'.heap h.rp (by omega), ⟨hw'⟩, Fm.own h.fm hf' (by rintro y rfl; omega), h.o1, h.o2, h.o3, h.o4, h.len⟩ hf'
theorem HS.ret (h : HS w0 w x2 rb r4 x5 st r vs vm vi vp vt) (hone : ∀ u ∈ (rcs r vs vm vi vp vt).toList, u.oneCell' = true) (b : Bool) {k : KV} (hk : ∀ w', Fm (· = x2) w w' → k (.tuple #[.agg (rcs r vs vm vi vp vt), .bool b]) w') :
  St 16 w (.pointer (some ⟨x2, 0, none⟩)) (.agg (rcs r vs vm vi vp vt)) fun u_168 w_169 =>
    bU (bF prog (fun j => bif Nat.beq j 2 then .pointer (some ⟨x2, 0, none⟩) else bif Nat.beq j 3 then (Value.bool b) else undef) w_169 [(ResultVar.cell 2 28), (ResultVar.tmp 3)]) w_169 k := by
 refine aB h.res rfl rfl hone ?_
 intro w' hw' hs' hf'
 have hj' : lR prog (fun j => bif Nat.beq j 2 then .pointer (some ⟨x2, 0, none⟩) else bif Nat.beq j 3 then (Value.bool b) else undef) w' (.tmp 3) = some (.bool b) := rfl
 simp only [bF, di (f := (fun j => bif Nat.beq j 2 then .pointer (some ⟨x2, 0, none⟩) else bif Nat.beq j 3 then (Value.bool b) else undef)) (a := 2) rfl mq gW hw' rfl, hj', bU, oH]
 exact hk w' hf'
end
structure Rows (w : World) (b : Nat) (r : Rc) (vs vm vi vp vt : Value) : Prop where
 hs : w.ownsRow b 3 1 vs r.slots.length (r.slots.map iv)
 hm : w.ownsRow b 3 1 vm r.more.length (r.more.map iv)
 hi : ∃ X : List (Int × Pg × Value), X.map (fun x => (x.1, x.2.1)) = r.imgs ∧ w.ownsRow b 118 7 vi X.length (X.flatMap imC) ∧ ∀ x ∈ X, x.2.2.oneCell' = true ∧ w.ownsRow b 9 1 x.2.2 x.2.1.items.length (x.2.1.items.map stv) ∧ PgAs w (pcs x.2.1 x.2.2) x.2.1
 hp : w.ownsRow b 120 2 vp r.pages.length (r.pages.flatMap pc2)
 ht : w.ownsRow b 122 2 vt r.txns.length (r.txns.flatMap pc2)
section
variable {w w' : World} {b : Nat} {r : Rc} {vs vm vi vp vt : Value}
theorem cM {p : Pg} {v : Value} (ho : w'.ownsRow b 9 1 v p.items.length (p.items.map stv)) (h : PgAs w (pcs p v) p) : PgAs w' (pcs p v) p := ⟨⟨v, rfl, aF ho, CellsAt.of_own ho⟩, h.small, h.ins⟩
theorem Rows.keep {S : Nat → Prop} (h : Rows w b r vs vm vi vp vt) (hf : Fm S w w') (hS : ∀ y, S y → y < b) : Rows w' b r vs vm vi vp vt := by
 have hn : ∀ k, b ≤ k → ¬ S k := fun k hk e => by have := hS k e; omega
 obtain ⟨X, h1, h2, h3⟩ := h.hi
 exact ⟨ae h.hs hf (fun k hk _ _ => hn k hk), ae h.hm hf (fun k hk _ _ => hn k hk), ⟨X, h1, ae h2 hf (fun k hk _ _ => hn k hk), fun x hx => by
  obtain ⟨q1, q2, q3⟩ := h3 x hx
  have q4 := ae q2 hf (fun k hk _ _ => hn k hk)
  exact ⟨q1, q4, cM q4 q3⟩⟩, ae h.hp hf (fun k hk _ _ => hn k hk), ae h.ht hf (fun k hk _ _ => hn k hk)⟩
theorem Rows.one (h : Rows w b r vs vm vi vp vt) : ∀ u ∈ (rcs r vs vm vi vp vt).toList, u.oneCell' = true := by
 obtain ⟨X, h1, h2, h3⟩ := h.hi
 exact dA (aF h.hs) (aF h.hm) (aF h2) (aF h.hp) (aF h.ht)
theorem Rows.asR (h : Rows w b r vs vm vi vp vt) (hb : Bnd r) : RcAs w (rcs r vs vm vi vp vt) r := by
 obtain ⟨X, h1, h2, h3⟩ := h.hi
 refine ⟨⟨vs, vm, vi, vp, vt, rfl, ⟨aF h.hs, aF h.hm, aF h2, aF h.hp, aF h.ht⟩, CellsAt.of_own h.hs, CellsAt.of_own h.hm, ⟨X, h1, CellsAt.of_own h2, fun x hx => ⟨(h3 x hx).1, (h3 x hx).2.2⟩⟩, CellsAt.of_own h.hp, CellsAt.of_own h.ht⟩, fun n hn => ?_, ?_, ?_, ?_, hb.lsns⟩
 ·have := hb.nums n hn
  unfold okN at this
  unfold In; omega
 ·have := hb.kind; omega
 ·have := hb.data; omega
 ·have := hb.slots
  have := hb.more
  have := hb.imgs
  have := hb.pages
  have := hb.txns
  omega
end
def vM (a : List Int) (t : Bs) (sl mo : List Int) (im : List (Int × Pg)) (pg tx : List (Int × Int)) (st : St2) : Option Rc := bif decide (uC st.1 st.2 = 0) then some ⟨gI a 0, gI a 1, gI a 2, gI a 3, gI a 4, gI a 5, gI a 6, gI a 7, gI a 8, gI a 9, t, sl, mo, im, pg, tx⟩ else none
def vg (a : List Int) (t : Bs) (sl mo : List Int) (im : List (Int × Pg)) (pg : List (Int × Int) × St2) : Option Rc := (jI (rn 1024 pg.2).1.toNat (rn 1024 pg.2).2).bind fun tx => vM a t sl mo im pg.1 tx.1 tx.2
def ui (a : List Int) (t : Bs) (sl mo : List Int) (im : List (Int × Pg) × St2) : Option Rc := (jI (rn 8192 im.2).1.toNat (rn 8192 im.2).2).bind (vg a t sl mo im.1)
theorem tU (a : List Int) (st : St2) : nS a st = (oJ (rn 4 (rl 255 (rl 255 (rt 512 st).2).2).2).1.toNat (rn 4 (rl 255 (rl 255 (rt 512 st).2).2).2).2).bind (ui a (rt 512 st).1 (rl 255 (rt 512 st).2).1 (rl 255 (rl 255 (rt 512 st).2).2).1) := rfl
theorem jF {s : Bs} {x : Rc} (h : cg s = some x) : Bnd x := by
 unfold cg at h
 refine tf h (fun i hi h3 => ?_) ?_
 ·simp only [ten]
  have q : ∀ st, okN (rn 4611686018427387904 st).1 := fun st => ⟨(ce _ st).1, by have := (ce 4611686018427387904 st).2.1; omega⟩
  have : i = 0 ∨ i = 1 ∨ i = 2 ∨ i = 4 ∨ i = 5 ∨ i = 6 ∨ i = 7 ∨ i = 8 ∨ i = 9 := by omega
  rcases this with rfl | rfl | rfl | rfl | rfl | rfl | rfl | rfl | rfl <;> exact q _
 ·simp only [ten]
  have q : ∀ st, 0 ≤ (rn 13 st).1 ∧ (rn 13 st).1 ≤ 13 := fun st => ⟨(ce _ st).1, by have := (ce 13 st).2.1; omega⟩
  exact q _
theorem oB (w : World) (s : Bs) (hs : s.length ≤ 1000000) : Cl prog 81 [stv s] w fun v w' => ∃ cs ok, v = .tuple #[.agg cs, .bool ok] ∧ cs.size = 16 ∧ (∀ u ∈ cs.toList, u.oneCell' = true) ∧ (ok = false → cg s = none) ∧ (ok = true → ∃ x vs vm vi vp vt, cg s = some x ∧ cs = rcs x vs vm vi vp vt ∧ Rows w' w.heap.size x vs vm vi vp vt) ∧ Fm (fun _ => False) w w' := by
 refine c81 ?_; unfold T81
 refine ao ?_
 intro x2 w1 hx2 hs1 hw1 hf1
 refine (oG w1 s).mono ?_
 rintro _ w2 ⟨rb, rfl, hrb, hrd, hf2⟩
 have hz2 := hf2.size
 have hrl := hrd.lt
 refine ao ?_
 intro r4 w3 hr4 hs3 hw3 hf3
 refine ay hw3 (by show 0 < 1; decide) rfl ?_
 intro w4 hw4 hs4 hf4
 refine ao ?_
 intro x5 w5 hx5 hs5 hw5 hf5
 have hf35 : Fm (fun _ => False) w2 w5 := Fmf (Fm.own hf3 hf4 (by rintro y rfl; omega)) hf5
 have h0 : HS w w5 x2 rb r4 x5 (s, 0) rc0 nl nl nl nl nl := ⟨(Fmf hf2 hf35).heap hw1 (fun e => e), hrd.keep hf35 (fun e => e), hf5.heap hw4 (fun e => e), ⟨hw5⟩, Fmf hf1 (Fmf hf2 hf35), by omega, by omega, by omega, by omega, hs⟩
 have hr0 : Rows w5 (x5 + 1) rc0 nl nl nl nl nl := ⟨World.ownsRow_nil _ _ _ _, World.ownsRow_nil _ _ _ _, ⟨[], rfl, World.ownsRow_nil _ _ _ _, by simp⟩, World.ownsRow_nil _ _ _ _, World.ownsRow_nil _ _ _ _⟩
 have hx5l := h0.x.lt
 clear hw1 hrd hw3 hw4 hw5 hr0
 refine h0.num ?_
 intro w6 h6a hq6
 have i0 := ce 4611686018427387904 (s, 0)
 generalize e0 : rn 4611686018427387904 (s, 0) = a0 at h6a i0 ⊢
 refine h6a.num ?_
 intro w7 h7a hq7
 have i1 := ce 4611686018427387904 a0.2
 generalize e1 : rn 4611686018427387904 a0.2 = a1 at h7a i1 ⊢
 refine h7a.num ?_
 intro w8 h8a hq8
 have i2 := ce 4611686018427387904 a1.2
 generalize e2 : rn 4611686018427387904 a1.2 = a2 at h8a i2 ⊢
 try simp only [RS]
 refine h8a.put (j := 0) (r' := ⟨a0.1, 0, 0, 0, 0, 0, 0, 0, 0, 0, [], [], [], [], [], []⟩) (vs' := nl) (vm' := nl) (vi' := nl) (vp' := nl) (vt' := nl) (by omega) rfl rfl ?_
 intro w9 h9a hq9
 try simp only [RS]
 refine h9a.put (j := 1) (r' := ⟨a0.1, a1.1, 0, 0, 0, 0, 0, 0, 0, 0, [], [], [], [], [], []⟩) (vs' := nl) (vm' := nl) (vi' := nl) (vp' := nl) (vt' := nl) (by omega) rfl rfl ?_
 intro w10 h10a hq10
 try simp only [RS]
 refine h10a.put (j := 2) (r' := ⟨a0.1, a1.1, a2.1, 0, 0, 0, 0, 0, 0, 0, [], [], [], [], [], []⟩) (vs' := nl) (vm' := nl) (vi' := nl) (vp' := nl) (vt' := nl) (by omega) rfl rfl ?_
 intro w11 h11a hq11
 simp only [RS, h11a.cp]
 refine h11a.numk (by omega) ?_
 intro w12 h12a hq12
 have i3 := ce 13 a2.2
 generalize e3 : rn 13 a2.2 = a3 at h12a i3 ⊢
 have ek : cvI .u8 (iv a3.1) = some (.int .u8 a3.1) := by
  show some (Value.int .u8 (IntKind.u8.wrap a3.1)) = _
  obtain ⟨q, hq⟩ := Int.eq_ofNat_of_zero_le i3.1
  have := i3.2.1
  rw [hq, bE, Nat.mod_eq_of_lt (by omega)]
 simp only [RS, ek]
 try simp only [RS]
 refine h12a.put (j := 3) (r' := ⟨a0.1, a1.1, a2.1, a3.1, 0, 0, 0, 0, 0, 0, [], [], [], [], [], []⟩) (vs' := nl) (vm' := nl) (vi' := nl) (vp' := nl) (vt' := nl) (by omega) rfl rfl ?_
 intro w13 h13a hq13
 refine h13a.num ?_
 intro w14 h14a hq14
 have i4 := ce 4611686018427387904 a3.2
 generalize e4 : rn 4611686018427387904 a3.2 = a4 at h14a i4 ⊢
 refine h14a.num ?_
 intro w15 h15a hq15
 have i5 := ce 4611686018427387904 a4.2
 generalize e5 : rn 4611686018427387904 a4.2 = a5 at h15a i5 ⊢
 refine h15a.num ?_
 intro w16 h16a hq16
 have i6 := ce 4611686018427387904 a5.2
 generalize e6 : rn 4611686018427387904 a5.2 = a6 at h16a i6 ⊢
 refine h16a.num ?_
 intro w17 h17a hq17
 have i7 := ce 4611686018427387904 a6.2
 generalize e7 : rn 4611686018427387904 a6.2 = a7 at h17a i7 ⊢
 refine h17a.num ?_
 intro w18 h18a hq18
 have i8 := ce 4611686018427387904 a7.2
 generalize e8 : rn 4611686018427387904 a7.2 = a8 at h18a i8 ⊢
 refine h18a.num ?_
 intro w19 h19a hq19
 have i9 := ce 4611686018427387904 a8.2
 generalize e9 : rn 4611686018427387904 a8.2 = a9 at h19a i9 ⊢
 try simp only [RS]
 refine h19a.put (j := 4) (r' := ⟨a0.1, a1.1, a2.1, a3.1, a4.1, 0, 0, 0, 0, 0, [], [], [], [], [], []⟩) (vs' := nl) (vm' := nl) (vi' := nl) (vp' := nl) (vt' := nl) (by omega) rfl rfl ?_
 intro w20 h20a hq20
 try simp only [RS]
 refine h20a.put (j := 5) (r' := ⟨a0.1, a1.1, a2.1, a3.1, a4.1, a5.1, 0, 0, 0, 0, [], [], [], [], [], []⟩) (vs' := nl) (vm' := nl) (vi' := nl) (vp' := nl) (vt' := nl) (by omega) rfl rfl ?_
 intro w21 h21a hq21
 try simp only [RS]
 refine h21a.put (j := 6) (r' := ⟨a0.1, a1.1, a2.1, a3.1, a4.1, a5.1, a6.1, 0, 0, 0, [], [], [], [], [], []⟩) (vs' := nl) (vm' := nl) (vi' := nl) (vp' := nl) (vt' := nl) (by omega) rfl rfl ?_
 intro w22 h22a hq22
 try simp only [RS]
 refine h22a.put (j := 7) (r' := ⟨a0.1, a1.1, a2.1, a3.1, a4.1, a5.1, a6.1, a7.1, 0, 0, [], [], [], [], [], []⟩) (vs' := nl) (vm' := nl) (vi' := nl) (vp' := nl) (vt' := nl) (by omega) rfl rfl ?_
 intro w23 h23a hq23
 try simp only [RS]
 refine h23a.put (j := 8) (r' := ⟨a0.1, a1.1, a2.1, a3.1, a4.1, a5.1, a6.1, a7.1, a8.1, 0, [], [], [], [], [], []⟩) (vs' := nl) (vm' := nl) (vi' := nl) (vp' := nl) (vt' := nl) (by omega) rfl rfl ?_
 intro w24 h24a hq24
 try simp only [RS]
 refine h24a.put (j := 9) (r' := ⟨a0.1, a1.1, a2.1, a3.1, a4.1, a5.1, a6.1, a7.1, a8.1, a9.1, [], [], [], [], [], []⟩) (vs' := nl) (vm' := nl) (vi' := nl) (vp' := nl) (vt' := nl) (by omega) rfl rfl ?_
 intro w25 h25a hq25
 simp only [RS, h25a.cp]
 refine h25a.text ?_
 intro w26 h26a hq26
 have it := px (most := 512) (by omega) a9.2
 generalize et : rt 512 a9.2 = at_ at h26a it ⊢
 try simp only [RS]
 refine h26a.put (j := 10) (r' := ⟨a0.1, a1.1, a2.1, a3.1, a4.1, a5.1, a6.1, a7.1, a8.1, a9.1, at_.1, [], [], [], [], []⟩) (vs' := nl) (vm' := nl) (vi' := nl) (vp' := nl) (vt' := nl) (by omega) rfl rfl ?_
 intro w27 h27a hq27
 have hten : ten s = ([a0.1, a1.1, a2.1, a3.1, a4.1, a5.1, a6.1, a7.1, a8.1, a9.1], a9.2) := by
  simp only [ten, e0, e1, e2, e3, e4, e5, e6, e7, e8, e9]
 have hout : cg s = nS [a0.1, a1.1, a2.1, a3.1, a4.1, a5.1, a6.1, a7.1, a8.1, a9.1] a9.2 := by unfold cg; rw [hten]
 rw [tU, et] at hout
 have hz27 : x5 < w27.heap.size := h27a.x.lt
 have hd27 := Fm.drew (fun _ => False) w27
 have g0 := h27a.keepG hd27 (fun _ e => e.elim)
 refine ⟨fun w' => w'.heap[r4]? = some (.cells #[pv rb] 181), g0.rp, ?_⟩
 simp only [RS, h27a.cp, g0.cp, true_and]
 refine ⟨pv rb, fun w9 h9 => ?_, ?_⟩
 ·have : w9.cell? ⟨r4, 0, none⟩ = some (pv rb) := by rw [ag h9]; rfl
  simp only [RS, this]; trivial
 have hzd : x5 < w27.drew.heap.size := hz27
 generalize w27.drew = wd at hd27 g0 hzd
 refine g0.list ?_
 intro vs w30 g30 ho30 hq30
 refine ⟨g30.rp, ?_⟩
 have hz30 := hq30.size
 try simp only [RS]
 refine g30.list ?_
 intro vm w31 g31 ho31 hq31
 have isl := pr (most := 255) (by omega) at_.2
 generalize rl 255 at_.2 = sl at g30 ho30 g31 ho31 hout isl ⊢
 have imo := pr (most := 255) (by omega) sl.2
 generalize rl 255 sl.2 = mo at g31 ho31 hout imo ⊢
 have ho4 := g0.o3
 have ho5 := g0.o4
 have ho30' := ae ho30 hq31 (fun k hk _ _ e => by omega)
 refine g31.put (j := 11) (r' := ⟨a0.1, a1.1, a2.1, a3.1, a4.1, a5.1, a6.1, a7.1, a8.1, a9.1, at_.1, sl.1, [], [], [], []⟩) (vs' := vs) (vm' := nl) (vi' := nl) (vp' := nl) (vt' := nl) (by omega) (aF ho30) rfl ?_
 intro w32 g32 hq32
 try simp only [RS]
 refine g32.put (j := 12) (r' := ⟨a0.1, a1.1, a2.1, a3.1, a4.1, a5.1, a6.1, a7.1, a8.1, a9.1, at_.1, sl.1, mo.1, [], [], []⟩) (vs' := vs) (vm' := vm) (vi' := nl) (vp' := nl) (vt' := nl) (by omega) (aF ho31) rfl ?_
 intro w33 g33 hq33
 have hrow : Rows w33 (x5 + 1) ⟨a0.1, a1.1, a2.1, a3.1, a4.1, a5.1, a6.1, a7.1, a8.1, a9.1, at_.1, sl.1, mo.1, [], [], []⟩ vs vm nl nl nl := by
  refine ⟨aW (ae (ae ho30' hq32 (fun k hk _ _ e => by omega)) hq33 (fun k hk _ _ e => by omega)) (by omega), aW (ae (ae ho31 hq32 (fun k hk _ _ e => by omega)) hq33 (fun k hk _ _ e => by omega)) (by omega), ⟨[], rfl, World.ownsRow_nil _ _ _ _, by simp⟩, World.ownsRow_nil _ _ _ _, World.ownsRow_nil _ _ _ _⟩
 simp only [RS, g33.cp]
 refine g33.numk (by omega) ?_
 intro w34 g34 hq34
 have ini := ce 4 mo.2
 generalize rn 4 mo.2 = ni at g34 hout ini ⊢
 have hrow34 := hrow.keep hq34 (fun y e => by omega)
 obtain ⟨N, hN⟩ := Int.eq_ofNat_of_zero_le ini.1
 rw [hN, Int.toNat_natCast] at hout
 rw [hN]
 have hN4 : N ≤ 4 := by have := ini.2.1; omega
 refine ⟨fun vl w' => ∃ (i : Nat) (L : List (Int × Pg)) (st : St2) (vi : Value), vl = [iv i] ∧ i ≤ N ∧ L.length = i ∧ HS w w' x2 rb r4 x5 st ⟨a0.1, a1.1, a2.1, a3.1, a4.1, a5.1, a6.1, a7.1, a8.1, a9.1, at_.1, sl.1, mo.1, L, [], []⟩ vs vm vi nl nl ∧ Rows w' (x5 + 1) ⟨a0.1, a1.1, a2.1, a3.1, a4.1, a5.1, a6.1, a7.1, a8.1, a9.1, at_.1, sl.1, mo.1, L, [], []⟩ vs vm vi nl nl ∧ oJ N ni.2 = (oJ (N - i) st).map fun q => (L ++ q.1, q.2), fun vl _ => (N - nth vl 0).toNat, ⟨0, [], ni.2, nl, rfl, by omega, rfl, g34, hrow34, by rw [Nat.sub_zero]; simp⟩, ?_⟩
 rintro _ w35 iv35 ⟨i, L, st, vi, hvl, hi, hL, g35, hr35, heq⟩
 cases hvl
 by_cases hlt : i < N
 ·have d1 : decide ((i : Int) < (N : Int)) = true := by rw [decide_eq_true_eq]; omega
  have ei : IntKind.i64.wrap ((i : Int) + 1) = ((i + 1 : Nat) : Int) := by rw [ab] <;> omega
  obtain ⟨m, hm⟩ : ∃ m, N - i = m + 1 := ⟨N - i - 1, by omega⟩
  have hm1 : N - (i + 1) = m := by omega
  rw [hm, oJ] at heq
  have hd35 := Fm.drew (fun _ => False) w35
  have g36 := g35.keepG hd35 (fun _ e => e.elim)
  have hr36 := hr35.keep hd35 (fun _ e => e.elim)
  simp only [RS, d1]
  refine ⟨fun w' => w'.heap[r4]? = some (.cells #[pv rb] 181), g36.rp, pv rb, fun w9 h9 => ?_, ?_⟩
  ·have : w9.cell? ⟨r4, 0, none⟩ = some (pv rb) := by rw [ag h9]; rfl
   simp only [RS, this]; trivial
  generalize w35.drew = w36 at hd35 g36 hr36
  refine g36.num ?_
  intro w37 g37 hq37
  have hr37 := hr36.keep hq37 (fun y e => by omega)
  refine ⟨g37.rp, ?_⟩
  refine g37.text ?_
  intro w38 g38 hq38
  have hr38 := hr37.keep hq38 (fun y e => by omega)
  have ip := ce 4611686018427387904 st
  generalize rn 4611686018427387904 st = pa at g37 g38 heq ip ⊢
  have itt := px (most := 512) (by omega) pa.2
  generalize rt 512 pa.2 = tt at g38 heq itt ⊢
  have e5 : IntKind.i64.wrap (512 - (tt.1.length : Int)) = ((512 - tt.1.length : Nat) : Int) := by rw [ab] <;> omega
  have hmk : ByteArray.mk #[0] = str [0] := rfl
  simp only [RS, aj, e5, hmk]
  refine (cX w38 (512 - tt.1.length) (by omega)).mono ?_
  rintro _ w39 ⟨rfl, hq39⟩
  have g39 := g38.keepG hq39 (fun _ e => e.elim)
  have hr39 := hr38.keep hq39 (fun _ e => e.elim)
  rw [dL (by rw [bx]; omega)]
  try simp only [RS]
  have hpad : tt.1 ++ aG (512 - tt.1.length) = fN tt.1 := rfl
  have hpl : (fN tt.1).length = 512 := by unfold fN; rw [List.length_append, bx]; omega
  rw [hpad]
  refine (my w39 (fN tt.1) (by omega)).mono ?_
  rintro _ w40 ⟨pc, rfl, hO40, hq40⟩
  have g40 := g39.keepG hq40 (fun _ e => e.elim)
  have hr40 := hr39.keep hq40 (fun _ e => e.elim)
  have hA40 := hO40.as
  have hz40 := hq40.size
  have hx39 := g39.x.lt
  simp only [RS]
  refine ao ?_
  intro x9 w41 hx9 hs41 hw41 hf41
  refine aB hw41 rfl hA40.size hA40.one ?_
  intro w42 hw42 hs42 hf42
  have hf4042 : Fm (fun _ => False) w40 w42 := Fm.own hf41 hf42 (by rintro y rfl; omega)
  have g42 := g40.keepG hf4042 (fun _ e => e.elim)
  have hr42 := hr40.keep hf4042 (fun _ e => e.elim)
  have hO42 := hO40.keep hf4042
  have bad : (decide ((cP (fN tt.1)).2 = 0) && decide (tt.2.2 = 0)) = false → cg s = none := fun hb => by
   rw [hout, heq, hb]; rfl
  have early : ∀ w', HS w w' x2 rb r4 x5 tt.2 ⟨a0.1, a1.1, a2.1, a3.1, a4.1, a5.1, a6.1, a7.1, a8.1, a9.1, at_.1, sl.1, mo.1, L, [], []⟩ vs vm vi nl nl → Rows w' (x5 + 1) ⟨a0.1, a1.1, a2.1, a3.1, a4.1, a5.1, a6.1, a7.1, a8.1, a9.1, at_.1, sl.1, mo.1, L, [], []⟩ vs vm vi nl nl → cg s = none → Pu (aP w' ⟨x5, 0, none⟩ 16) (fun t79_166 =>
    St 16 w' (.pointer (some ⟨x2, 0, none⟩)) t79_166 fun u_168 w_169 =>
    bU (bF prog (fun j => bif Nat.beq j 2 then .pointer (some ⟨x2, 0, none⟩) else bif Nat.beq j 3 then (Value.bool false) else undef) w_169 [(ResultVar.cell 2 28), (ResultVar.tmp 3)]) w_169 (fun v w' => ∃ cs ok, v = .tuple #[.agg cs, .bool ok] ∧ cs.size = 16 ∧ (∀ u ∈ cs.toList, u.oneCell' = true) ∧ (ok = false → cg s = none) ∧ (ok = true → ∃ x vs vm vi vp vt, cg s = some x ∧ cs = rcs x vs vm vi vp vt ∧ Rows w' w.heap.size x vs vm vi vp vt) ∧ Fm (fun _ => False) w w')) := by
   intro w' gg rr hno
   simp only [RS, gg.x.all]
   refine gg.ret rr.one false ?_
   intro w'' hf''
   have := gg.o1
   exact ⟨_, _, rfl, rfl, rr.one, fun _ => hno, fun e => (by cases e), Fm.own gg.fm hf'' (by rintro y rfl; omega)⟩
  simp only [RS, al]
  cases hz1 : decide ((cP (fN tt.1)).2 = 0) with
  | false =>
   simp only [RS]
   have := early w42 g42 hr42 (bad (by rw [hz1, Bool.false_and]))
   exact this
  | true =>
  simp only [RS, g42.cp]
  refine (cV g42.rd).mono ?_
  rintro _ w43 ⟨rfl, rfl⟩
  simp only [RS, al]
  cases hz2 : decide (tt.2.2 = 0) with
  | false =>
   simp only [RS]
   have := early w43 g42 hr42 (bad (by rw [hz2, Bool.and_false]))
   exact this
  | true =>
  rw [hz1, hz2] at heq
  obtain ⟨pv_, rfl, hov⟩ := hO42.ex
  have hps : ∃ a n c, pv_ = .slice a n c := by
   rcases hov.2 with ⟨rfl, _⟩ | ⟨g, cap, cur, rfl, _⟩ <;> exact ⟨_, _, _, rfl⟩
  obtain ⟨pa1, pn1, pc1, rfl⟩ := hps
  simp only [RS, g42.x.c13, ax hw42 hA40.size]
  refine af (vu _ _ _ _ _ _) ?_
  refine af (xi _ _ _ _ _ _) ?_
  have hf44 := Fm.alloc (fun _ => False) w43 (.cells (imC (pa.1, (cP (fN tt.1)).1, .slice pa1 pn1 pc1)).toArray 118)
  have hn44 := az w43 (.cells (imC (pa.1, (cP (fN tt.1)).1, .slice pa1 pn1 pc1)).toArray 118)
  have g44 := g42.keepG hf44 (fun _ e => e.elim)
  have hr44 := hr42.keep hf44 (fun _ e => e.elim)
  have hO44 := ae hov hf44 (fun _ _ _ _ e => e)
  have hz44 := hf44.size
  generalize w43.alloc (.cells (imC (pa.1, (cP (fN tt.1)).1, .slice pa1 pn1 pc1)).toArray 118) = w44 at hf44 hn44 g44 hr44 hO44 hz44
  have hx44 := g44.x.lt
  obtain ⟨X, hX1, hX2, hX3⟩ := hr44.hi
  have hXl : X.length = i := by have := congrArg List.length hX1; rw [List.length_map] at this; rw [this]; exact hL
  obtain ⟨vi', w45, hr45, ho45, _, hf45⟩ := ez wZ (by omega) hX2 (cs := imC (pa.1, (cP (fN tt.1)).1, .slice pa1 pn1 pc1)) hn44 rfl (by intro q hq; simp [imC, pcs] at hq; rcases hq with rfl | rfl | rfl | rfl | rfl | rfl | rfl <;> rfl) (by omega) (by unfold maxLen; omega) (by omega)
  refine af hr45 ?_
  have hlt45 := aX hX2
  have g45 := g44.keepG hf45 (fun y hy => by have := hlt45 y hy; omega)
  try simp only [RS]
  refine g45.put (j := 13) (r' := ⟨a0.1, a1.1, a2.1, a3.1, a4.1, a5.1, a6.1, a7.1, a8.1, a9.1, at_.1, sl.1, mo.1, (L ++ [(pa.1, (cP (fN tt.1)).1)]), [], []⟩) (vs' := vs) (vm' := vm) (vi' := vi') (vp' := nl) (vt' := nl) (by omega) (aF ho45) rfl ?_
  intro w46 g46 hq46
  simp only [RS, ei]
  refine ⟨⟨i + 1, L ++ [(pa.1, (cP (fN tt.1)).1)], tt.2, vi', rfl, by omega, by rw [List.length_append, hL]; rfl, g46, ?_, ?_⟩, by simp only [bw]; omega⟩
  ·have q46 : ∀ k, x5 + 1 ≤ k → ¬ k = x5 := fun k hk e => by omega
   have a3 := fun k hk => aI hX2 hr44.hs (by decide) k hk
   refine ⟨ae (ae hr44.hs hf45 (fun k _ _ hk e => aI hX2 hr44.hs (by decide) k e hk)) hq46 (fun k hk _ _ => q46 k hk), ae (ae hr44.hm hf45 (fun k _ _ hk e => aI hX2 hr44.hm (by decide) k e hk)) hq46 (fun k hk _ _ => q46 k hk), ⟨X ++ [(pa.1, (cP (fN tt.1)).1, .slice pa1 pn1 pc1)], ?_, ?_, ?_⟩, World.ownsRow_nil _ _ _ _, World.ownsRow_nil _ _ _ _⟩
   ·rw [List.map_append, hX1]; rfl
   ·rw [List.length_append, List.flatMap_append, List.flatMap_cons, List.flatMap_nil, List.append_nil]
    exact ae ho45 hq46 (fun k hk _ _ => q46 k hk)
   ·intro x hx
    rcases List.mem_append.1 hx with hx | hx
    ·obtain ⟨q1, q2, q3⟩ := hX3 x hx
     have q4 := ae (ae q2 hf45 (fun k _ _ hk e => aI hX2 q2 (by decide) k e hk)) hq46 (fun k hk _ _ => q46 k hk)
     exact ⟨q1, q4, cM q4 q3⟩
    ·obtain rfl : x = (pa.1, (cP (fN tt.1)).1, .slice pa1 pn1 pc1) := by simpa using hx
     have q2 := aW hO44 (show x5 + 1 ≤ w39.heap.size by omega)
     have q4 := ae (ae q2 hf45 (fun k _ _ hk e => aI hX2 q2 (by decide) k e hk)) hq46 (fun k hk _ _ => q46 k hk)
     exact ⟨rfl, q4, cM q4 hO42.as⟩
  ·rw [heq, hm1]
   cases oJ m tt.2 with
   | none => rfl
   | some q => simp
 ·have hie : i = N := by omega
  subst hie
  have d1 : decide ((i : Int) < (i : Int)) = false := by simp
  rw [Nat.sub_self, oJ] at heq
  simp only [Option.map_some, List.append_nil] at heq
  rw [heq, Option.bind_some] at hout
  unfold ui at hout
  simp only at hout
  simp only [RS, d1, g35.cp]
  refine g35.numk (by omega) ?_
  intro w60 g60 hq60
  have in60 := ce 8192 st
  generalize rn 8192 st = n60 at g60 hout in60 ⊢
  have hr60 := hr35.keep hq60 (fun y e => by omega)
  obtain ⟨N60, hN60⟩ := Int.eq_ofNat_of_zero_le in60.1
  rw [hN60, Int.toNat_natCast] at hout
  rw [hN60]
  have hNl60 : N60 ≤ 8192 := by have := in60.2.1; omega
  refine ⟨fun vl w' => ∃ (i : Nat) (P : List (Int × Int)) (st : St2) (vx : Value), vl = [iv i] ∧ i ≤ N60 ∧ P.length = i ∧ HS w w' x2 rb r4 x5 st ⟨a0.1, a1.1, a2.1, a3.1, a4.1, a5.1, a6.1, a7.1, a8.1, a9.1, at_.1, sl.1, mo.1, L, P, []⟩ vs vm vi vx nl ∧ Rows w' (x5 + 1) ⟨a0.1, a1.1, a2.1, a3.1, a4.1, a5.1, a6.1, a7.1, a8.1, a9.1, at_.1, sl.1, mo.1, L, P, []⟩ vs vm vi vx nl ∧ jI N60 n60.2 = (jI (N60 - i) st).map fun q => (P ++ q.1, q.2), fun vl _ => (N60 - nth vl 0).toNat, ⟨0, [], n60.2, nl, rfl, by omega, rfl, g60, hr60, by rw [Nat.sub_zero]; simp⟩, ?_⟩
  rintro _ w61 iv61 ⟨j, PG1, st61, vx61, hvl, hj, hP, g61, hr61, heq61⟩
  cases hvl
  by_cases hlt : j < N60
  ·have d2 : decide ((j : Int) < (N60 : Int)) = true := by rw [decide_eq_true_eq]; omega
   have ei : IntKind.i64.wrap ((j : Int) + 1) = ((j + 1 : Nat) : Int) := by rw [ab] <;> omega
   obtain ⟨m, hm⟩ : ∃ m, N60 - j = m + 1 := ⟨N60 - j - 1, by omega⟩
   have hm1 : N60 - (j + 1) = m := by omega
   rw [hm, jI] at heq61
   simp only [RS, d2, g61.cp]
   refine (cV g61.rd).mono ?_
   rintro _ w50 ⟨rfl, rfl⟩
   simp only [RS, al]
   cases hz3 : decide (st61.2 = 0) with
   | false =>
    rw [hz3, cond_false] at heq61
    have hno : cg s = none := by rw [hout, heq61]; rfl
    simp only [RS, g61.x.all]
    refine g61.ret hr61.one false ?_
    intro w'' hf''
    have := g61.o1
    exact ⟨_, _, rfl, rfl, hr61.one, fun _ => hno, fun e => (by cases e), Fm.own g61.fm hf'' (by rintro y rfl; omega)⟩
   | true =>
   rw [hz3, cond_true] at heq61
   have hd50 := Fm.drew (fun _ => False) w50
   have g51 := g61.keepG hd50 (fun _ e => e.elim)
   have hr51 := hr61.keep hd50 (fun _ e => e.elim)
   simp only [RS]
   refine ⟨fun w' => w'.cell? ⟨x5, 14, none⟩ = some vx61, g51.x.c14, ?_⟩
   try simp only [RS]
   refine ⟨vx61, fun w9 h9 => ?_, ?_⟩
   ·simp only [RS, h9]; trivial
   generalize w50.drew = w51 at hd50 g51 hr51
   refine g51.num ?_
   intro w52 g52 hq52
   have hr52 := hr51.keep hq52 (fun y e => by omega)
   refine ⟨g52.x.c14, ?_⟩
   refine g52.num ?_
   intro w53 g53 hq53
   have hr53 := hr52.keep hq53 (fun y e => by omega)
   refine ⟨g53.x.c14, ?_⟩
   generalize rn 4611686018427387904 st61 = pa at g52 g53 heq61 ⊢
   generalize rn 4611686018427387904 pa.2 = pb at g53 heq61 ⊢
   refine af (uY _ _ _) ⟨rfl, ?_⟩
   refine af (xc _ _ _) ?_
   have hf54 := Fm.alloc (fun _ => False) w53 (.cells (pc2 (pa.1, pb.1)).toArray 120)
   have hn54 := az w53 (.cells (pc2 (pa.1, pb.1)).toArray 120)
   have g54 := g53.keepG hf54 (fun _ e => e.elim)
   have hr54 := hr53.keep hf54 (fun _ e => e.elim)
   generalize w53.alloc (.cells (pc2 (pa.1, pb.1)).toArray 120) = w54 at hf54 hn54 g54 hr54
   refine ⟨g54.x.c14, ?_⟩
   have hx54 := g54.x.lt
   have hh54 : w54.ownsRow (x5 + 1) 120 2 vx61 PG1.length (PG1.flatMap pc2) := hr54.hp
   obtain ⟨vx', w55, hr55, ho55, _, hf55⟩ := ez wV (by omega) hh54 (cs := pc2 (pa.1, pb.1)) hn54 rfl (by intro q hq; simp [pc2] at hq; rcases hq with rfl | rfl <;> rfl) (by omega) (by unfold maxLen; omega) (by omega)
   refine af hr55 ?_
   have hlt55 := aX hr54.hp
   have g55 := g54.keepG hf55 (fun y hy => by have := hlt55 y hy; omega)
   try simp only [RS]
   refine g55.put (j := 14) (r' := ⟨a0.1, a1.1, a2.1, a3.1, a4.1, a5.1, a6.1, a7.1, a8.1, a9.1, at_.1, sl.1, mo.1, L, (PG1 ++ [(pa.1, pb.1)]), []⟩) (vs' := vs) (vm' := vm) (vi' := vi) (vp' := vx') (vt' := nl) (by omega) (aF ho55) rfl ?_
   intro w56 g56 hq56
   simp only [RS, ei]
   refine ⟨⟨j + 1, PG1 ++ [(pa.1, pb.1)], pb.2, vx', rfl, by omega, by rw [List.length_append, hP]; rfl, g56, ?_, ?_⟩, by simp only [bw]; omega⟩
   ·have q56 : ∀ k, x5 + 1 ≤ k → ¬ k = x5 := fun k hk e => by omega
    have hrow56 := ho55
    have kk : ∀ {b1 : Nat} {e1 : TypeId} {s1 : Nat} {v1 : Value} {n1 : Nat} {y1 : List Value}, w54.ownsRow (x5 + 1) e1 s1 v1 n1 y1 → 120 ≠ e1 → w56.ownsRow (x5 + 1) e1 s1 v1 n1 y1 := fun hh he => ae (ae hh hf55 (fun k _ _ hk e => aI hr54.hp hh he k e hk)) hq56 (fun k hk _ _ => q56 k hk)
    obtain ⟨X, hX1, hX2, hX3⟩ := hr54.hi
    refine ⟨kk (b1 := 0) hr54.hs (by decide), kk (b1 := 0) hr54.hm (by decide), ⟨X, hX1, kk (b1 := 0) hX2 (by decide), fun x hx => ?_⟩, by
     show w56.ownsRow _ _ _ _ (PG1 ++ [(pa.1, pb.1)]).length _
     rw [List.length_append, List.flatMap_append, List.flatMap_cons, List.flatMap_nil, List.append_nil]
     exact ae ho55 hq56 (fun k hk _ _ => q56 k hk), World.ownsRow_nil _ _ _ _⟩
    obtain ⟨q1, q2, q3⟩ := hX3 x hx
    have q4 := kk (b1 := 0) q2 (by decide)
    exact ⟨q1, q4, cM q4 q3⟩
   ·rw [heq61, hm1]
    cases jI m pb.2 with
    | none => rfl
    | some q => simp
  have hje : j = N60 := by omega
  subst hje
  have d61 : decide ((j : Int) < (j : Int)) = false := by simp
  rw [Nat.sub_self, jI] at heq61
  simp only [Option.map_some, List.append_nil] at heq61
  rw [heq61, Option.bind_some] at hout
  unfold vg at hout
  simp only at hout
  simp only [RS, d61, g61.cp]
  refine g61.numk (by omega) ?_
  intro w70 g70 hq70
  have in70 := ce 1024 st61
  generalize rn 1024 st61 = n70 at g70 hout in70 ⊢
  have hr70 := hr61.keep hq70 (fun y e => by omega)
  obtain ⟨N70, hN70⟩ := Int.eq_ofNat_of_zero_le in70.1
  rw [hN70, Int.toNat_natCast] at hout
  rw [hN70]
  have hNl70 : N70 ≤ 1024 := by have := in70.2.1; omega
  refine ⟨fun vl w' => ∃ (i : Nat) (P : List (Int × Int)) (st : St2) (vx : Value), vl = [iv i] ∧ i ≤ N70 ∧ P.length = i ∧ HS w w' x2 rb r4 x5 st ⟨a0.1, a1.1, a2.1, a3.1, a4.1, a5.1, a6.1, a7.1, a8.1, a9.1, at_.1, sl.1, mo.1, L, PG1, P⟩ vs vm vi vx61 vx ∧ Rows w' (x5 + 1) ⟨a0.1, a1.1, a2.1, a3.1, a4.1, a5.1, a6.1, a7.1, a8.1, a9.1, at_.1, sl.1, mo.1, L, PG1, P⟩ vs vm vi vx61 vx ∧ jI N70 n70.2 = (jI (N70 - i) st).map fun q => (P ++ q.1, q.2), fun vl _ => (N70 - nth vl 0).toNat, ⟨0, [], n70.2, nl, rfl, by omega, rfl, g70, hr70, by rw [Nat.sub_zero]; simp⟩, ?_⟩
  rintro _ w71 iv71 ⟨j, TX1, st71, vx71, hvl, hj, hP, g71, hr71, heq71⟩
  cases hvl
  by_cases hlt : j < N70
  ·have d2 : decide ((j : Int) < (N70 : Int)) = true := by rw [decide_eq_true_eq]; omega
   have ei : IntKind.i64.wrap ((j : Int) + 1) = ((j + 1 : Nat) : Int) := by rw [ab] <;> omega
   obtain ⟨m, hm⟩ : ∃ m, N70 - j = m + 1 := ⟨N70 - j - 1, by omega⟩
   have hm1 : N70 - (j + 1) = m := by omega
   rw [hm, jI] at heq71
   simp only [RS, d2, g71.cp]
   refine (cV g71.rd).mono ?_
   rintro _ w50 ⟨rfl, rfl⟩
   simp only [RS, al]
   cases hz3 : decide (st71.2 = 0) with
   | false =>
    rw [hz3, cond_false] at heq71
    have hno : cg s = none := by rw [hout, heq71]; rfl
    simp only [RS, g71.x.all]
    refine g71.ret hr71.one false ?_
    intro w'' hf''
    have := g71.o1
    exact ⟨_, _, rfl, rfl, hr71.one, fun _ => hno, fun e => (by cases e), Fm.own g71.fm hf'' (by rintro y rfl; omega)⟩
   | true =>
   rw [hz3, cond_true] at heq71
   have hd50 := Fm.drew (fun _ => False) w50
   have g51 := g71.keepG hd50 (fun _ e => e.elim)
   have hr51 := hr71.keep hd50 (fun _ e => e.elim)
   simp only [RS]
   refine ⟨fun w' => w'.cell? ⟨x5, 15, none⟩ = some vx71, g51.x.c15, ?_⟩
   try simp only [RS]
   refine ⟨vx71, fun w9 h9 => ?_, ?_⟩
   ·simp only [RS, h9]; trivial
   generalize w50.drew = w51 at hd50 g51 hr51
   refine g51.num ?_
   intro w52 g52 hq52
   have hr52 := hr51.keep hq52 (fun y e => by omega)
   refine ⟨g52.x.c15, ?_⟩
   refine g52.num ?_
   intro w53 g53 hq53
   have hr53 := hr52.keep hq53 (fun y e => by omega)
   refine ⟨g53.x.c15, ?_⟩
   generalize rn 4611686018427387904 st71 = pa at g52 g53 heq71 ⊢
   generalize rn 4611686018427387904 pa.2 = pb at g53 heq71 ⊢
   refine af (vh _ _ _) ⟨rfl, ?_⟩
   refine af (xk _ _ _) ?_
   have hf54 := Fm.alloc (fun _ => False) w53 (.cells (pc2 (pa.1, pb.1)).toArray 122)
   have hn54 := az w53 (.cells (pc2 (pa.1, pb.1)).toArray 122)
   have g54 := g53.keepG hf54 (fun _ e => e.elim)
   have hr54 := hr53.keep hf54 (fun _ e => e.elim)
   generalize w53.alloc (.cells (pc2 (pa.1, pb.1)).toArray 122) = w54 at hf54 hn54 g54 hr54
   refine ⟨g54.x.c15, ?_⟩
   have hx54 := g54.x.lt
   have hh54 : w54.ownsRow (x5 + 1) 122 2 vx71 TX1.length (TX1.flatMap pc2) := hr54.ht
   obtain ⟨vx', w55, hr55, ho55, _, hf55⟩ := ez xj (by omega) hh54 (cs := pc2 (pa.1, pb.1)) hn54 rfl (by intro q hq; simp [pc2] at hq; rcases hq with rfl | rfl <;> rfl) (by omega) (by unfold maxLen; omega) (by omega)
   refine af hr55 ?_
   have hlt55 := aX hr54.ht
   have g55 := g54.keepG hf55 (fun y hy => by have := hlt55 y hy; omega)
   try simp only [RS]
   refine g55.put (j := 15) (r' := ⟨a0.1, a1.1, a2.1, a3.1, a4.1, a5.1, a6.1, a7.1, a8.1, a9.1, at_.1, sl.1, mo.1, L, PG1, (TX1 ++ [(pa.1, pb.1)])⟩) (vs' := vs) (vm' := vm) (vi' := vi) (vp' := vx61) (vt' := vx') (by omega) (aF ho55) rfl ?_
   intro w56 g56 hq56
   simp only [RS, ei]
   refine ⟨⟨j + 1, TX1 ++ [(pa.1, pb.1)], pb.2, vx', rfl, by omega, by rw [List.length_append, hP]; rfl, g56, ?_, ?_⟩, by simp only [bw]; omega⟩
   ·have q56 : ∀ k, x5 + 1 ≤ k → ¬ k = x5 := fun k hk e => by omega
    have hrow56 := ho55
    have kk : ∀ {b1 : Nat} {e1 : TypeId} {s1 : Nat} {v1 : Value} {n1 : Nat} {y1 : List Value}, w54.ownsRow (x5 + 1) e1 s1 v1 n1 y1 → 122 ≠ e1 → w56.ownsRow (x5 + 1) e1 s1 v1 n1 y1 := fun hh he => ae (ae hh hf55 (fun k _ _ hk e => aI hr54.ht hh he k e hk)) hq56 (fun k hk _ _ => q56 k hk)
    obtain ⟨X, hX1, hX2, hX3⟩ := hr54.hi
    refine ⟨kk (b1 := 0) hr54.hs (by decide), kk (b1 := 0) hr54.hm (by decide), ⟨X, hX1, kk (b1 := 0) hX2 (by decide), fun x hx => ?_⟩, kk (b1 := 0) hr54.hp (by decide), by
     show w56.ownsRow _ _ _ _ (TX1 ++ [(pa.1, pb.1)]).length _
     rw [List.length_append, List.flatMap_append, List.flatMap_cons, List.flatMap_nil, List.append_nil]
     exact ae ho55 hq56 (fun k hk _ _ => q56 k hk)⟩
    obtain ⟨q1, q2, q3⟩ := hX3 x hx
    have q4 := kk (b1 := 0) q2 (by decide)
    exact ⟨q1, q4, cM q4 q3⟩
   ·rw [heq71, hm1]
    cases jI m pb.2 with
    | none => rfl
    | some q => simp
  have hje : j = N70 := by omega
  subst hje
  have d71 : decide ((j : Int) < (j : Int)) = false := by simp
  rw [Nat.sub_self, jI] at heq71
  simp only [Option.map_some, List.append_nil] at heq71
  rw [heq71, Option.bind_some] at hout
  unfold vM at hout
  simp only at hout
  have hd71 := Fm.drew (fun _ => False) w71
  have g72 := g71.keepG hd71 (fun _ e => e.elim)
  have hr72 := hr71.keep hd71 (fun _ e => e.elim)
  simp only [RS, d71]
  refine ⟨fun w' => RB w' x5 ⟨a0.1, a1.1, a2.1, a3.1, a4.1, a5.1, a6.1, a7.1, a8.1, a9.1, at_.1, sl.1, mo.1, L, PG1, TX1⟩ vs vm vi vx61 vx71, g72.x, .agg (rcs ⟨a0.1, a1.1, a2.1, a3.1, a4.1, a5.1, a6.1, a7.1, a8.1, a9.1, at_.1, sl.1, mo.1, L, PG1, TX1⟩ vs vm vi vx61 vx71), fun w9 h9 => ?_, ?_⟩
  ·simp only [RS, h9.all]; trivial
  simp only [RS, g71.cp, g72.cp, true_and]
  generalize w71.drew = w72 at hd71 g72 hr72
  refine (pm g72.rd).mono ?_
  rintro _ w73 ⟨rfl, rfl⟩
  refine ⟨g72.x, ?_⟩
  simp only [RS, aA]
  refine g72.ret hr72.one _ ?_
  intro w74 hf74
  have ho1 := g72.o1
  have ho2 := g72.o2
  have ho3 := g72.o3
  refine ⟨_, _, rfl, rfl, hr72.one, fun e => ?_, fun e => ?_, Fm.own g72.fm hf74 (by rintro y rfl; omega)⟩
  ·rw [hout, e]; rfl
  ·rw [e, cond_true] at hout
   have hr74 := hr72.keep hf74 (fun y e => by omega)
   have b74 : ∀ {e1 : TypeId} {s1 : Nat} {v1 : Value} {n1 : Nat} {y1 : List Value}, w74.ownsRow (x5 + 1) e1 s1 v1 n1 y1 → w74.ownsRow w.heap.size e1 s1 v1 n1 y1 := fun hh => aW hh (by have := g72.o4; omega)
   obtain ⟨X, hX1, hX2, hX3⟩ := hr74.hi
   exact ⟨_, _, _, _, _, _, hout, rfl, b74 hr74.hs, b74 hr74.hm, ⟨X, hX1, b74 hX2, fun x hx => ⟨(hX3 x hx).1, b74 (hX3 x hx).2.1, (hX3 x hx).2.2⟩⟩, b74 hr74.hp, b74 hr74.ht⟩
def RdOk (w : World) (b : Nat) (cs : Array Value) : Option Rc → Prop
 | none => cs = rcs rc0 nl nl nl nl nl
 | some x => ∃ vs vm vi vp vt, cs = rcs x vs vm vi vp vt ∧ Rows w b x vs vm vi vp vt ∧ Bnd x
theorem rK (w : World) (b : Nat) : Rows w b rc0 nl nl nl nl nl := ⟨World.ownsRow_nil _ _ _ _, World.ownsRow_nil _ _ _ _, ⟨[], rfl, World.ownsRow_nil _ _ _ _, by simp⟩, World.ownsRow_nil _ _ _ _, World.ownsRow_nil _ _ _ _⟩
theorem we : Bnd rc0 := ⟨by intro n hn; simp [rNums, rc0, prs] at hn; subst hn; unfold okN; omega, by simp [rc0], by simp [rc0], by simp [rc0], by simp [rc0], by simp [rc0], by simp [rc0], by simp [rc0], by simp [rc0]⟩
theorem RdOk.as {w : World} {b : Nat} {cs : Array Value} {o : Option Rc} (h : RdOk w b cs o) : RcAs w cs (o.getD rc0) := by
 cases o with
 | none =>
  have h : cs = rcs rc0 nl nl nl nl nl := h
  subst h; exact (rK w b).asR we
 | some x => obtain ⟨vs, vm, vi, vp, vt, rfl, h1, h2⟩ := h; exact h1.asR h2
theorem rE {w : World} {g : Nat} {cs : Array Value} {n e : Value} (h : w.heap[g]? = some (.cells cs 28)) (hn : cs.size = 16) (k : KV) (hk : k (.tuple #[.agg cs, n, e]) w) :
  bU (bF prog (fun j => bif Nat.beq j 2 then .pointer (some ⟨g, 0, none⟩) else bif Nat.beq j 3 then n else bif Nat.beq j 4 then e else undef) w [(ResultVar.cell 2 28), (ResultVar.tmp 3), (ResultVar.tmp 4)]) w k := by
 have h3 : lR prog (fun j => bif Nat.beq j 2 then .pointer (some ⟨g, 0, none⟩) else bif Nat.beq j 3 then n else bif Nat.beq j 4 then e else undef) w (.tmp 3) = some n := rfl
 have h4 : lR prog (fun j => bif Nat.beq j 2 then .pointer (some ⟨g, 0, none⟩) else bif Nat.beq j 3 then n else bif Nat.beq j 4 then e else undef) w (.tmp 4) = some e := rfl
 simp only [bF, di (f := (fun j => bif Nat.beq j 2 then .pointer (some ⟨g, 0, none⟩) else bif Nat.beq j 3 then n else bif Nat.beq j 4 then e else undef)) (a := 2) rfl mq gW h hn, h3, h4, bU, oH]
 exact hk
theorem ky (w : World) (d : Bs) (hd : d.length ≤ 1000000000000000) : Cl prog 13 [stv d] w fun v w' => ∃ cs, v = .tuple #[.agg cs, iv (cA d).2.1, iv (cA d).2.2] ∧ RdOk w' w.heap.size cs (cA d).1 ∧ Fm (fun _ => False) w w' := by
 refine c13 ?_; unfold T13
 refine ao ?_
 intro x2 w1 hx2 hs1 hw1 hf1
 have hw1' : w1.heap[x2]? = some (.cells (rcs rc0 nl nl nl nl nl) 28) := hw1
 clear hw1
 have one0 : ∀ u ∈ (rcs rc0 nl nl nl nl nl).toList, u.oneCell' = true := dA rfl rfl rfl rfl rfl
 have bad : ∀ (w' : World) (e : Int), w'.heap[x2]? = some (.cells (rcs rc0 nl nl nl nl nl) 28) → Fm (fun _ => False) w w' → cA d = (none, 0, e) →
   RunS prog (Instr.build 28 #[]) w' (fun t14_5 w_6 =>
   St 16 w_6 (pv x2) t14_5 fun u_7 w_8 =>
   bU (bF prog (fun j => bif Nat.beq j 2 then pv x2 else bif Nat.beq j 3 then (Value.int .i64 0) else bif Nat.beq j 4 then (Value.int .i64 e) else undef) w_8 [(ResultVar.cell 2 28), (ResultVar.tmp 3), (ResultVar.tmp 4)]) w_8 (fun v w' => ∃ cs, v = .tuple #[.agg cs, iv (cA d).2.1, iv (cA d).2.2] ∧ RdOk w' w.heap.size cs (cA d).1 ∧ Fm (fun _ => False) w w')) := by
  intro w' e hw' hF hr
  refine af (kF _) ?_
  refine aB hw' rfl rfl one0 ?_
  intro w2 hw2 hs2 hf2
  refine rE hw2 rfl _ ⟨_, by rw [hr]; rfl, by rw [hr]; rfl, Fm.own hF hf2 (by rintro y rfl; omega)⟩
 have hb : cA d = (bif decide (d.length < 8) then (none, 0, 40)
  else bif decide (ofN (d.take 4) = 0) || decide (65535 < ofN (d.take 4)) then (none, 0, 41)
  else bif decide (d.length < 8 + ofN (d.take 4)) then (none, 0, 40)
  else bif !decide (ofN ((d.drop 4).take 4) = crc ((d.drop 8).take (ofN (d.take 4)))) then (none, 0, 30)
  else match cg ((d.drop 8).take (ofN (d.take 4))) with
   | none => (none, 0, 41)
   | some x => bif decide ((rCheck x).2 = 0) && decide ((rCheck x).1 = (d.drop 8).take (ofN (d.take 4))) then (some x, 8 + ofN (d.take 4), 0) else (none, 0, 41) : Option Rc × Nat × Int) := rfl
 have d8 : decide ((d.length : Int) < 8) = decide (d.length < 8) := by rw [decide_eq_decide]; omega
 simp only [RS, aj, d8]
 cases h1 : decide (d.length < 8) with
 | true =>
  simp only [RS]
  exact bad w1 40 hw1' hf1 (by rw [hb, h1]; rfl)
 | false =>
 have h8 : 8 ≤ d.length := by rw [decide_eq_false_iff_not] at h1; omega
 have s1 := df (l := d) (i := 4) (by omega) .i64
 have s1' : slS (stv d) none (some (Value.int .i64 4)) = some (stv (d.take 4)) := s1
 simp only [RS, s1']
 refine (dF w1 (d.take 4) (by rw [List.length_take]; omega)).mono ?_
 rintro _ w2 ⟨rfl, rfl⟩
 have hn32 : ofN (d.take 4) < 4294967296 := by
  have := ij 4 (d.take 4) (by rw [List.length_take]; omega)
  rw [bT (by rw [List.length_take]; omega)]
  omega
 rw [h1, cond_false] at hb
 generalize hn : ofN (d.take 4) = n at hb hn32 ⊢
 have e0 : ((n : Int) == 0) = decide (n = 0) := by rw [aA, decide_eq_decide]; omega
 have e1 : decide ((65535 : Int) < (n : Int)) = decide (65535 < n) := by rw [decide_eq_decide]; omega
 simp only [RS, e0]
 cases h2 : decide (n = 0) with
 | true =>
  simp only [RS]
  exact bad w2 41 hw1' hf1 (by rw [hb, h2]; rfl)
 | false =>
 simp only [RS, e1]
 cases h3 : decide (65535 < n) with
 | true =>
  simp only [RS]
  exact bad w2 41 hw1' hf1 (by rw [hb, h2, h3]; rfl)
 | false =>
 rw [h2, h3, Bool.or_false, cond_false] at hb
 rw [decide_eq_false_iff_not] at h2 h3
 have e2 : IntKind.i64.wrap (8 + (n : Int)) = ((8 + n : Nat) : Int) := by rw [ab] <;> omega
 have e3 : decide ((d.length : Int) < ((8 + n : Nat) : Int)) = decide (d.length < 8 + n) := by rw [decide_eq_decide]; omega
 simp only [RS, aj, e2, e3]
 cases h4 : decide (d.length < 8 + n) with
 | true =>
  simp only [RS]
  exact bad w2 40 hw1' hf1 (by rw [hb, h4]; rfl)
 | false =>
 rw [h4, cond_false] at hb
 rw [decide_eq_false_iff_not] at h4
 have s2 := cU (l := d) (i := 8) (j := 8 + n) (by omega) (by omega) .i64 .i64
 rw [show 8 + n - 8 = n by omega] at s2
 have s2' : slS (stv d) (some (Value.int .i64 8)) (some (iv ((8 + n : Nat) : Int))) = some (stv ((d.drop 8).take n)) := s2
 have s3 := cU (l := d) (i := 4) (j := 8) (by omega) (by omega) .i64 .i64
 have s3' : slS (stv d) (some (Value.int .i64 4)) (some (Value.int .i64 8)) = some (stv ((d.drop 4).take 4)) := s3
 have hbl : ((d.drop 8).take n).length = n := by rw [List.length_take, List.length_drop]; omega
 simp only [RS, e2, s2', s3']
 generalize hB : (d.drop 8).take n = B at hb hbl ⊢
 refine (dF w2 ((d.drop 4).take 4) (by rw [List.length_take]; omega)).mono ?_
 rintro _ w3 ⟨rfl, rfl⟩
 refine (gD w3 B (by omega)).mono ?_
 rintro _ w4 ⟨rfl, rfl⟩
 obtain ⟨q1, q2⟩ := gr B
 have e4 : decide ((ofN ((d.drop 4).take 4) : Int) = (crc B : Nat)) = decide (ofN ((d.drop 4).take 4) = crc B) := by rw [decide_eq_decide]; omega
 simp only [RS, aV, q2, al, e4]
 cases h5 : decide (ofN ((d.drop 4).take 4) = crc B) with
 | false =>
  simp only [RS, Bool.not_false]
  exact bad w4 30 hw1' hf1 (by rw [hb, h5]; rfl)
 | true =>
 rw [h5, Bool.not_true, cond_false] at hb
 simp only [RS, Bool.not_true]
 refine (oB w4 B (by omega)).mono ?_
 rintro _ w5 ⟨cs, ok, rfl, hsz, hone, hno, hyes, hf5⟩
 have hx5 := hf5.heap hw1' (fun e => e)
 have hF5 := Fmf hf1 hf5
 have hz5 := hF5.size
 simp only [RS]
 refine ao ?_
 intro x7 w6 hx7 hs6 hw6 hf6
 refine aB hw6 rfl hsz hone ?_
 intro w7 hw7 hs7 hf7
 have hf57 : Fm (fun _ => False) w5 w7 := Fm.own hf6 hf7 (by rintro y rfl; omega)
 have hx7' := hf57.heap hx5 (fun e => e)
 have hF7 := Fmf hF5 hf57
 cases ok with
 | false =>
  simp only [RS, Bool.not_false]
  exact bad w7 41 hx7' hF7 (by rw [hb, hno rfl])
 | true =>
 obtain ⟨x, vs, vm, vi, vp, vt, hx, rfl, hrow⟩ := hyes rfl
 have hbd := jF hx
 have hr7 := hrow.keep hf57 (fun _ e => e.elim)
 rw [hx] at hb
 simp only at hb
 simp only [RS, Bool.not_true, ax hw7 hsz]
 refine (gh (hr7.asR hbd)).mono ?_
 rintro _ w8 ⟨rfl, hf8⟩
 have hx8 := hf8.heap hx7' (fun e => e)
 have hq8 := hf8.heap hw7 (fun e => e)
 have hF8 := Fmf hF7 hf8
 have hr8 := hr7.keep hf8 (fun _ e => e.elim)
 have hz7 := hF7.size
 simp only [RS, al]
 cases h6 : decide ((rCheck x).2 = 0) with
 | false =>
  simp only [RS, Bool.not_false]
  exact bad w8 41 hx8 hF8 (by rw [hb, h6]; rfl)
 | true =>
 rw [h6, Bool.true_and] at hb
 simp only [RS, Bool.not_true, aD]
 cases h7 : decide ((rCheck x).1 = B) with
 | false =>
  simp only [RS, Bool.not_false]
  exact bad w8 41 hx8 hF8 (by rw [hb, h7]; rfl)
 | true =>
 rw [h7, cond_true] at hb
 simp only [RS, Bool.not_true, ax hq8 hsz, e2]
 refine aB hx8 rfl rfl hone ?_
 intro w9 hw9 hs9 hf9
 refine rE hw9 rfl _ ⟨_, by rw [hb], ?_, Fm.own hF8 hf9 (by rintro y rfl; omega)⟩
 rw [hb]
 have hwsz : w.heap.size ≤ w4.heap.size := hf1.size
 have b9 : ∀ {e1 : TypeId} {s1 : Nat} {v1 : Value} {n1 : Nat} {y1 : List Value}, w9.ownsRow w4.heap.size e1 s1 v1 n1 y1 → w9.ownsRow w.heap.size e1 s1 v1 n1 y1 := fun hh => aW hh hwsz
 have hr9 := hr8.keep hf9 (fun y e => by omega)
 obtain ⟨X, hX1, hX2, hX3⟩ := hr9.hi
 exact ⟨vs, vm, vi, vp, vt, rfl, ⟨b9 hr9.hs, b9 hr9.hm, ⟨X, hX1, b9 hX2, fun x hx => ⟨(hX3 x hx).1, b9 (hX3 x hx).2.1, (hX3 x hx).2.2⟩⟩, b9 hr9.hp, b9 hr9.ht⟩, hbd⟩
theorem pJ (r : Rc) : 10 ≤ (cl r).length := by
 have q : ∀ n : Int, 1 ≤ (aK n).length := fun n => by
  unfold aK
  by_cases h : 127 < (max n 0).toNat
  ·rw [dg h]; simp
  ·rw [bl (by omega)]; simp
 have e : cl r = aK r.lsn ++ (aK r.prev ++ (aK r.next ++ (aK r.kind ++ (aK r.xid ++ (aK r.page ++ (aK r.slot ++ (aK r.old ++ (aK r.new ++ (aK r.redo ++ (eA r.data ++ bh r.slots ++ bh r.more ++ aK r.imgs.length ++ r.imgs.flatMap fK ++ aK r.pages.length ++ r.pages.flatMap prB ++ aK r.txns.length ++ r.txns.flatMap prB)))))))))) := by simp [cl, aO, cL]
 have h := congrArg List.length e
 simp only [List.length_append] at h
 have := q r.lsn
 have := q r.prev
 have := q r.next
 have := q r.kind
 have := q r.xid
 have := q r.page
 have := q r.slot
 have := q r.old
 have := q r.new
 have := q r.redo
 omega
theorem mM {n : Nat} (h : n < 4294967296) : ofN (beN 4 n) = n := by
 rw [bT (by rw [aw]; omega), fc, Nat.mod_eq_of_lt (by omega)]
theorem lV {r : Rc} (h : (rCheck r).2 = 0) (hl : ∀ m ∈ r.imgs, m.2.lsn ≤ 9223372036854775807) : rEnc r = (beN 4 (cl r).length ++ beN 4 (crc (cl r)) ++ cl r, 0) := by
 have h2 := (cG h hl).2.2.1
 unfold rEnc
 rw [h, h2]; rfl
theorem nb (r : Rc) : (rEnc r).2 = (rCheck r).2 := by
 unfold rEnc
 cases h : decide ((rCheck r).2 = 0) with
 | true => rw [decide_eq_true_eq] at h; rw [h]; rfl
 | false => rfl
theorem nH {b t : Bs} (hb : b.length ≤ 65535) : (beN 4 b.length ++ beN 4 (crc b) ++ b ++ t).take 4 = beN 4 b.length ∧ ((beN 4 b.length ++ beN 4 (crc b) ++ b ++ t).drop 4).take 4 = beN 4 (crc b) ∧ ((beN 4 b.length ++ beN 4 (crc b) ++ b ++ t).drop 8).take b.length = b ∧ (beN 4 b.length ++ beN 4 (crc b) ++ b ++ t).length = 8 + b.length + t.length := by
 have e1 : beN 4 b.length ++ beN 4 (crc b) ++ b ++ t = beN 4 b.length ++ (beN 4 (crc b) ++ (b ++ t)) := by simp
 have l1 := aw 4 b.length
 have l2 := aw 4 (crc b)
 refine ⟨by rw [e1, List.take_left' l1], by rw [e1, List.drop_left' l1, List.take_left' l2], ?_, by rw [e1]; simp only [List.length_append, l1, l2]; omega⟩
 have e2 : beN 4 b.length ++ beN 4 (crc b) ++ b ++ t = (beN 4 b.length ++ beN 4 (crc b)) ++ (b ++ t) := by simp
 rw [e2, List.drop_left' (by rw [List.length_append, l1, l2]), List.take_left]
theorem gB {r : Rc} (h : (rCheck r).2 = 0) (hl : ∀ m ∈ r.imgs, m.2.lsn ≤ 9223372036854775807) (t : Bs) : cA ((rEnc r).1 ++ t) = (some r, (rEnc r).1.length, 0) := by
 obtain ⟨hg, _, hb, hlen⟩ := cG h hl
 have hne := pJ r
 have ho := ly hg
 rw [lV h hl]
 simp only
 generalize cl r = b at hlen hne ho hb
 obtain ⟨h1, h2, h3, h4⟩ := nH (b := b) (t := t) hlen
 have h5 := (nH (b := b) (t := []) hlen).2.2.2
 rw [List.append_nil, List.length_nil, Nat.add_zero] at h5
 have hcl := pR b
 unfold cA
 rw [h1, h2, h4, h5, mM (by omega), h3, mM (by omega), decide_eq_false (show ¬ 8 + b.length + t.length < 8 by omega), decide_eq_false (show ¬ b.length = 0 by omega), decide_eq_false (show ¬ 65535 < b.length by omega), decide_eq_false (show ¬ 8 + b.length + t.length < 8 + b.length by omega), decide_eq_true rfl, ho]
 simp only [cond_false, Bool.or_false, Bool.not_true]
 rw [h, hb, decide_eq_true rfl, decide_eq_true rfl]
 rfl
theorem ll {d : Bs} {x : Rc} (h : (cA d).1 = some x) : (rCheck x).2 = 0 ∧ (cA d).2.2 = 0 ∧ (cA d).2.1 = (rEnc x).1.length ∧ (cA d).2.1 ≤ d.length ∧ d.take (cA d).2.1 = (rEnc x).1 ∧ Bnd x := by
 unfold cA at h ⊢
 cases h1 : decide (d.length < 8) with
 | true => rw [h1] at h; cases h
 | false =>
 rw [h1, cond_false] at h
 rw [decide_eq_false_iff_not] at h1
 have hn : ofN (d.take 4) = ofB (d.take 4) := bT (by rw [List.length_take]; omega)
 have hc4 : ofN ((d.drop 4).take 4) = ofB ((d.drop 4).take 4) := bT (by rw [List.length_take]; omega)
 have l4 : (d.take 4).length = 4 := by rw [List.length_take]; omega
 have l5 : ((d.drop 4).take 4).length = 4 := by rw [List.length_take, List.length_drop]; omega
 have g1 := dJ 4 (d.take 4) l4
 have g2 := dJ 4 ((d.drop 4).take 4) l5
 rw [← hn] at g1
 rw [← hc4] at g2
 generalize ofN (d.take 4) = n at h g1 ⊢
 cases h2 : decide (n = 0) || decide (65535 < n) with
 | true => rw [h2] at h; cases h
 | false =>
 rw [h2, cond_false] at h
 cases h3 : decide (d.length < 8 + n) with
 | true => rw [h3] at h; cases h
 | false =>
 rw [h3, cond_false] at h
 rw [decide_eq_false_iff_not] at h3
 cases h4 : decide (ofN ((d.drop 4).take 4) = crc ((d.drop 8).take n)) with
 | false => rw [h4] at h; cases h
 | true =>
 rw [h4, Bool.not_true, cond_false] at h
 rw [decide_eq_true_eq] at h4
 have hbl : ((d.drop 8).take n).length = n := by rw [List.length_take, List.length_drop]; omega
 have hcut : d.take (8 + n) = d.take 4 ++ (d.drop 4).take 4 ++ (d.drop 8).take n := by
  rw [List.take_add, show (8 : Nat) = 4 + 4 by omega, List.take_add]
 cases ho : cg ((d.drop 8).take n) with
 | none => rw [ho] at h; cases h
 | some y =>
  rw [ho] at h
  simp only at h
  cases h5 : decide ((rCheck y).2 = 0) && decide ((rCheck y).1 = (d.drop 8).take n) with
  | false => rw [h5] at h; cases h
  | true =>
   rw [h5, cond_true] at h
   cases h
   rw [Bool.and_eq_true, decide_eq_true_eq, decide_eq_true_eq] at h5
   have hbd := jF ho
   simp only [cond_false, Bool.not_true]
   simp only [h5.1, h5.2, decide_true, Bool.and_self, cond_true]
   have hE : (rEnc x).1 = d.take 4 ++ (d.drop 4).take 4 ++ (d.drop 8).take n := by
    unfold rEnc
    rw [h5.1, decide_eq_true rfl, cond_true, h5.2, hbl, g1, ← h4, g2]
   refine ⟨trivial, trivial, ?_, by omega, by rw [hE, hcut], hbd⟩
   rw [hE, ← hcut, List.length_take]; omega
theorem nq {d : Bs} (h : (cA d).1 = none) : (cA d).2.1 = 0 ∧ ((cA d).2.2 = 40 ∨ (cA d).2.2 = 41 ∨ (cA d).2.2 = 30) := by
 unfold cA at h ⊢
 cases h1 : decide (d.length < 8) with
 | true => exact ⟨rfl, .inl rfl⟩
 | false =>
 rw [h1, cond_false] at h
 cases h2 : decide (ofN (d.take 4) = 0) || decide (65535 < ofN (d.take 4)) with
 | true => exact ⟨rfl, .inr (.inl rfl)⟩
 | false =>
 rw [h2, cond_false] at h
 cases h3 : decide (d.length < 8 + ofN (d.take 4)) with
 | true => exact ⟨rfl, .inl rfl⟩
 | false =>
 rw [h3, cond_false] at h
 cases h4 : decide (ofN ((d.drop 4).take 4) = crc ((d.drop 8).take (ofN (d.take 4)))) with
 | false => exact ⟨rfl, .inr (.inr rfl)⟩
 | true =>
 rw [h4, Bool.not_true, cond_false] at h
 simp only [cond_false, Bool.not_true]
 cases ho : cg ((d.drop 8).take (ofN (d.take 4))) with
 | none => exact ⟨rfl, .inr (.inl rfl)⟩
 | some y =>
  rw [ho] at h
  simp only at h ⊢
  cases h5 : decide ((rCheck y).2 = 0) && decide ((rCheck y).1 = (d.drop 8).take (ofN (d.take 4))) with
  | false => exact ⟨rfl, .inr (.inl rfl)⟩
  | true => rw [h5, cond_true] at h; cases h
end Go.Proofs.YthbngnlmgplijaaGreatDoor
namespace Go.Al
def KpAt (w : World) (e : TypeId) (v : Value) (B : Bs) : Prop :=
 (v = .slice none 0 0 ∧ B = []) ∨ ∃ g cap cur, v = .slice (some ⟨g, 0, none⟩) B.length cap ∧ w.heap[g]? = some (.cells cur e) ∧ B.length ≤ cap ∧ cap ≤ maxLen ∧ cap ≤ cur.size ∧ cur.toList.take B.length = bc B
theorem KpAt.nil (w : World) (e : TypeId) : KpAt w e (.slice none 0 0) [] := .inl ⟨rfl, rfl⟩
theorem KpAt.of_own {w : World} {base : Nat} {e : TypeId} {v : Value} {B : Bs} {n : Nat} (h : w.ownsRow base e 1 v n (bc B)) : KpAt w e v B := by
 have hl := h.1
 rw [ba, Nat.mul_one] at hl
 subst hl
 rcases h.2 with ⟨rfl, h0⟩ | ⟨g, cap, cur, rfl, _, hg, hn, hc, hs, ht⟩
 ·exact .inl ⟨rfl, List.eq_nil_of_length_eq_zero h0⟩
 ·rw [Nat.mul_one] at hs ht
  exact .inr ⟨g, cap, cur, rfl, hg, hn, hc, by omega, ht⟩
theorem KpAt.keep {S : Nat → Prop} {w w' : World} {e : TypeId} {v : Value} {B : Bs} (h : KpAt w e v B) (hf : Fm S w w') (hs : ∀ y, v.ownBlock = some y → ¬ S y) : KpAt w' e v B := by
 rcases h with h | ⟨g, cap, cur, rfl, hg, h⟩
 ·exact .inl h
 ·exact .inr ⟨g, cap, cur, rfl, hf.heap hg (hs g rfl), h⟩
theorem KpAt.lt {w : World} {e : TypeId} {v : Value} {B : Bs} (h : KpAt w e v B) : ∀ y, v.ownBlock = some y → y < w.heap.size := by
 intro y hy
 rcases h with ⟨rfl, _⟩ | ⟨g, cap, cur, rfl, hg, h⟩
 ·cases hy
 ·cases hy; exact aq hg
theorem KpAt.one {w : World} {e : TypeId} {v : Value} {B : Bs} (h : KpAt w e v B) : v.oneCell' = true := by
 rcases h with ⟨rfl, _⟩ | ⟨g, cap, cur, rfl, hg, h⟩ <;> rfl
theorem KpAt.lenV {w : World} {e : TypeId} {v : Value} {B : Bs} (h : KpAt w e v B) : lenV v = some (.int .i64 B.length) := by
 rcases h with ⟨rfl, rfl⟩ | ⟨g, cap, cur, rfl, hg, h⟩ <;> rfl
theorem KpAt.neT {w : World} {e t : TypeId} {v : Value} {B : Bs} (h : KpAt w e v B) {x : Nat} {cs : Array Value} {fz : Nat × Nat} (hx : w.heap[x]? = some (.cells cs t fz)) (hne : e ≠ t) : v.ownBlock ≠ some x := by
 intro hk
 rcases h with ⟨rfl, _⟩ | ⟨g, cap, cur, rfl, hg, h⟩
 ·cases hk
 ·cases hk
  rw [hx] at hg
  cases hg
  exact hne rfl
theorem KpAt.neM {w : World} {e : TypeId} {v : Value} {B : Bs} (h : KpAt w e v B) {x : Nat} {es : Array MapEntry} {c : Nat} (hx : w.heap[x]? = some (.map es c)) : v.ownBlock ≠ some x := by
 intro hk
 rcases h with ⟨rfl, _⟩ | ⟨g, cap, cur, rfl, hg, h⟩
 ·cases hk
 ·cases hk
  rw [hx] at hg
  cases hg
theorem KpAt.app {P : Program} {t e s : TypeId} (B : ByteT P t e s) {w : World} {v : Value} {L : Bs} (h : KpAt w e v L) (x : Bs) (ty : TypeId) (hl : L.length + x.length ≤ 100000000000) :
  ∃ v' w', (Builtin.append_ #[t, s] ty #[v, stv x]).run P w = .ok v' w' ∧ KpAt w' e v' (L ++ x) ∧ Fm (fun y => v.ownBlock = some y) w w' ∧ (∀ y, v'.ownBlock = some y → v.ownBlock = some y ∨ w.heap.size ≤ y) := by
 rcases h with ⟨rfl, rfl⟩ | ⟨g, cap, cur, rfl, hg, hnc, hcm, hcs, htake⟩
 ·obtain ⟨v', w', hr, ho, hf, _⟩ := dH B (n := 0) (l := []) (World.ownsRow_nil w w.heap.size e 1) x ty (by simp at hl; omega) (Nat.le_refl _)
  refine ⟨v', w', hr, KpAt.of_own ho, hf, fun y hy => .inr ?_⟩
  rcases ho.2 with ⟨rfl, _⟩ | ⟨g, cap, cur, rfl, hb, _⟩
  ·cases hy
  ·cases hy; exact hb
 obtain ⟨i, h1, h2, h3, h4⟩ := B.info
 have hsx : Lib.strCells (str x) = bc x := rfl
 have hxz : (str x).size = x.length := aj x
 by_cases hroom : L.length + x.length ≤ cap
 ·have hf := Lib.run_firstCells_string (P := P) w 1 (str x)
  rw [hsx, hxz] at hf
  have hst := eZ P g L.length e (0, 0) (bc x) 0 cur w hg (.inl rfl) (by rw [ba]; omega) (nd x)
  simp only [Nat.add_zero, ba] at hst
  have hr : (Builtin.append_ #[t, s] ty #[.slice (some ⟨g, 0, none⟩) L.length cap, stv x]).run P w = .ok (.slice (some ⟨g, 0, none⟩) (L.length + x.length) cap) (w.setRow g (cur.toList.take L.length ++ bc x ++ cur.toList.drop (L.length + x.length)).toArray) := by
   simp [Builtin.append_, an B.sl, an B.st, sizeOf, typeInfo, h1, h3, Builtin.lenOf, aj, hroom, hf, Addr.add_lit, hst]
  refine ⟨_, _, hr, .inr ⟨g, cap, _, by rw [List.length_append], setRow_heap w g cur _ e _ hg, by rw [List.length_append]; exact hroom, hcm, ?_, ?_⟩, ⟨rfl, rfl, rfl, by simp, fun k _ hk => setRow_other w g k _ (fun e => hk (by rw [e]; rfl))⟩, fun y hy => .inl hy⟩
  ·simp only [List.size_toArray, List.length_append, List.length_take, List.length_drop, Array.length_toList, ba]
   omega
  ·rw [htake, ← bA, List.take_append_of_le_length (by rw [ba]; exact Nat.le_refl _), List.take_of_length_le (by rw [ba]; exact Nat.le_refl _)]
 ·have holds : ∀ j u, (bc L)[j]? = some u → w.cell? ((⟨g, 0, none⟩ : Addr).add j) = some u := by
   intro j u hj
   rw [← htake, List.getElem?_take] at hj
   split at hj
   ·rw [Addr.add_lit, ag hg]
    simpa using hj
   ·cases hj
  have hr := Lib.run_append_grow_string (P := P) w t s ty e i (.int .u8 0) B.sl B.st h1 h2 ⟨g, 0, none⟩ L.length cap (bc L) (by rw [ba, h3, Nat.mul_one]) holds (str x) (by rw [hxz]; omega) (by rw [hxz]; omega) (by rw [hxz, h4]; exact growslice_fits (by omega) (by omega))
  rw [hxz, hsx] at hr
  have hge := grownCap_ge w (L.length + x.length) cap e
  have hcm' : grownCap w (L.length + x.length) cap e ≤ maxLen := grownCap_le_maxLen w (L.length + x.length) cap e (by unfold maxLen; omega)
  refine ⟨_, _, hr, .inr ⟨w.heap.size, _, _, by rw [List.length_append], az w.drew _, by rw [List.length_append]; exact hge, hcm', ?_, ?_⟩, ⟨rfl, rfl, rfl, by simp, fun k hk _ => (Fm.alloc (fun _ => False) w.drew _).block k hk (fun e => e)⟩, fun y hy => .inr (by cases hy; exact Nat.le_refl _)⟩
  ·have hz1 : (Value.int .u8 0).cells.size = 1 := rfl
   simp only [Array.size_append, List.size_toArray, size_zeroCells, hz1, ba]
   omega
  ·simp only [Array.toList_append, List.append_assoc]
   rw [← List.append_assoc, ← bA, List.take_append_of_le_length (by rw [ba]; exact Nat.le_refl _), List.take_of_length_le (by rw [ba]; exact Nat.le_refl _)]
theorem KpAt.cut {P : Program} {t e s : TypeId} (B : ByteT P t e s) {w : World} {v : Value} {L : Bs} {e' : TypeId} (h : KpAt w e' v L) {i j : Nat} (hij : i ≤ j) (hj : j ≤ L.length) :
  ∃ u, slV 1 v (some (.int .i64 i)) (some (.int .i64 j)) none = some u ∧ (convert t s u).run P w = .ok (stv ((L.drop i).take (j - i))) w := by
 rcases h with ⟨rfl, rfl⟩ | ⟨g, cap, cur, rfl, hg, hnc, hcm, hcs, htake⟩
 ·simp at hj
  subst hj
  obtain rfl : i = 0 := by omega
  exact ⟨.slice none 0 0, rfl, jT B w 0 0⟩
 ·obtain ⟨o', h1, h2, h3, _⟩ := nu (g := g) (o := 0) (n := L.length) (c := cap) hij (by omega) .i64 .i64
  refine ⟨_, h1, ?_⟩
  have hx : BX w g e' L := ⟨cur, _, hg, htake, by omega, .inl rfl⟩
  by_cases hi : i < cap
  ·rw [h2 hi, Nat.zero_add]
   exact hx.conv B (by omega) _
  ·have : j - i = 0 := by omega
   rw [this]
   have := hx.conv (P := P) B (o := o') (n := 0) (by omega) (cap - i)
   rw [List.take_zero] at this ⊢
   exact this
theorem KpAt.cells {w : World} {e : TypeId} {v : Value} {L : Bs} (h : KpAt w e v L) : CellsAt w v L.length 1 (bc L) := by
 rcases h with ⟨rfl, rfl⟩ | ⟨g, cap, cur, rfl, hg, hnc, hcm, hcs, htake⟩
 ·exact CellsAt.of_own (World.ownsRow_nil w 0 e 1)
 ·refine ⟨⟨some ⟨g, 0, none⟩, cap, rfl, hnc, hcm, (fun e => by cases e), fun j u hj => ⟨_, rfl, ?_⟩⟩, by rw [ba, Nat.mul_one]⟩
  rw [← htake, List.getElem?_take] at hj
  split at hj
  ·rw [Addr.add_lit, ag hg]
   simpa using hj
  ·cases hj
end Go.Al
namespace Go.Proofs.YthbngnlmgplijaaGreatDoor
open Go.Al Go.Proofs
def T18 (k : KV) (d0 fromv1 n2 : Value) (w : World) : Prop :=
 Cl prog 93 [d0, fromv1, n2] w fun t1 w2 =>
 Pu (unV .not t1) fun t3 =>
 IfB t3
 (k (.tuple #[(.pointer none), (.int .i64 1)]) w2)
 (Pu (aa (.int .i64) .mul n2 (.int .i64 64)) fun t4 =>
 Cl prog 95 [(.string (.mk #[0])), t4] w2 fun t5 w6 =>
 Cl prog 94 [d0, fromv1, t5] w6 fun t7 w8 =>
 Pu (aa (.int .i64) .neq t7 (.int .i64 0)) fun t9 =>
 IfB t9
 (k (.tuple #[(.pointer none), t7]) w8)
 (Cl prog 38 [d0] w8 fun t10 w11 =>
 Pu (aa (.int .i64) .neq t10 (.int .i64 0)) fun t12 =>
 IfB t12
 (k (.tuple #[(.pointer none), t10]) w11)
 (RunS prog (Instr.makeMap 130 none) w11 fun t13 w14 =>
 RunS prog (Instr.build 132 #[(0, d0), (1, fromv1), (2, n2), (3, (.int .i64 1)), (5, (.int .i64 1)), (6, (.int .i64 1)), (8, t13)]) w14 fun t15 w16 =>
 New (Value.cells t15) 132 w16 fun t17 w18 =>
 k (.tuple #[t17, (.int .i64 0)]) w18)))
theorem c18 {k : KV} {d0 fromv1 n2 : Value} {w : World} (h : T18 k d0 fromv1 n2 w) : Cl prog 18 [d0, fromv1, n2] w k :=
 cE ac mixed L0 J0 Tryz.func18 (by kernel_rfl) (by kernel_rfl) (by kernel_rfl) h
def T19 (k : KV) (l0 : Value) (w : World) : Prop :=
 Pu (aa (TypeDesc.pointer 132) .eql l0 (.pointer none)) fun t1 =>
 IfB t1
 (k (.int .i64 0) w)
 (∃ C2 : World → Prop, C2 (World.drew w) ∧
 (Pu (au l0) fun t3 =>
 Pu (faV 2 t3) fun t4 =>
 ∃ t5, (∀ w6, C2 w6 → Ld w6 t4 fun t7 w8 =>
 t7 = t5 ∧ w8 = w6) ∧
 (Pu (aa (.int .i64) .sub t5 (.int .i64 2)) fun t9 =>
 Pu (aa (.int .i64) .mul (.int .i64 54) t9) fun t10 =>
 Pu (au l0) fun t11 =>
 Pu (faV 5 t11) fun t12 =>
 ∃ t13, (∀ w14, C2 w14 → Ld w14 t12 fun t15 w16 =>
 t15 = t13 ∧ w16 = w14) ∧
 (Pu (au l0) fun t17 =>
 Pu (faV 7 t17) fun t18 =>
 ∃ t19, (∀ w20, C2 w20 → Ld w20 t18 fun t21 w22 =>
 t21 = t19 ∧ w22 = w20) ∧
 (Cl prog 20 [l0] (World.drew w) fun t23 w24 =>
 C2 w24 ∧
 (Pu (aa (.int .i64) .sub t23 t13) fun t25 =>
 Pu (aa (.int .i64) .sub t10 t25) fun t26 =>
 Pu (aa (.int .i64) .sub t26 t19) fun t27 =>
 k t27 w24))))))
theorem c19 {k : KV} {l0 : Value} {w : World} (h : T19 k l0 w) : Cl prog 19 [l0] w k :=
 cE ac mixed L0 J0 Tryz.func19 (by kernel_rfl) (by kernel_rfl) (by kernel_rfl) h
def T20 (k : KV) (l0 : Value) (w : World) : Prop :=
 Pu (aa (TypeDesc.pointer 132) .eql l0 (.pointer none)) fun t1 =>
 IfB t1
 (k (.int .i64 0) w)
 (Pu (au l0) fun t2 =>
 Pu (faV 3 t2) fun t3 =>
 Ld (World.drew w) t3 fun t4 w5 =>
 w5 = (World.drew w) ∧
 Pu (au l0) fun t6 =>
 Pu (faV 4 t6) fun t7 =>
 Ld (World.drew w) t7 fun t8 w9 =>
 w9 = (World.drew w) ∧
 Pu (lenV t8) fun t10 =>
 Pu (aa (.int .i64) .add t4 t10) fun t11 =>
 k t11 (World.drew w))
theorem c20 {k : KV} {l0 : Value} {w : World} (h : T20 k l0 w) : Cl prog 20 [l0] w k :=
 cE ac mixed L0 J0 Tryz.func20 (by kernel_rfl) (by kernel_rfl) (by kernel_rfl) h
def T21 (k : KV) (l0 r1 : Value) (w : World) : Prop :=
 New (Value.cells r1) 28 w fun r3_1 w2 =>
 Pu (aa (TypeDesc.pointer 132) .eql l0 (.pointer none)) fun t3 =>
 IfB t3
 (k (.tuple #[(.int .i64 0), (.int .i64 2)]) w2)
 (Cl prog 20 [l0] w2 fun t4 w5 =>
 Pu (faV 0 r3_1) fun t6 =>
 St 1 w5 t6 t4 fun u7 w8 =>
 LdN 16 w8 r3_1 fun t9 w10 =>
 Cl prog 89 [t9] w10 fun t11 w12 =>
 Pu (aJ t11 0) fun t13 =>
 Pu (aJ t11 1) fun t14 =>
 Pu (aa (.int .i64) .neq t14 (.int .i64 0)) fun t15 =>
 IfB t15
 (k (.tuple #[(.int .i64 0), t14]) w12)
 (Pu (bu t13) fun t16 =>
 Cl prog 19 [l0] w12 fun t17 w18 =>
 Pu (aa (.int .i64) .gtr t16 t17) fun t19 =>
 IfB t19
 (k (.tuple #[(.int .i64 0), (.int .i64 50)]) w18)
 (Pu (au l0) fun t20 =>
 Pu (faV 4 t20) fun t21 =>
 Ld w18 t21 fun t22 w23 =>
 RunS prog (Builtin.append_ #[123, 9] 123 #[t22, t13]) w23 fun t24 w25 =>
 Pu (au l0) fun t26 =>
 Pu (faV 4 t26) fun t27 =>
 St 1 w25 t27 t24 fun u28 w29 =>
 ∃ C30 : World → Prop, C30 (World.drew w29) ∧
 (Pu (au l0) fun t31 =>
 Pu (faV 8 t31) fun t32 =>
 ∃ t33, (∀ w34, C30 w34 → Ld w34 t32 fun t35 w36 =>
 t35 = t33 ∧ w36 = w34) ∧
 (Pu (faV 0 r3_1) fun t37 =>
 ∃ t38, (∀ w39, C30 w39 → Ld w39 t37 fun t40 w41 =>
 t40 = t38 ∧ w41 = w39) ∧
 (LdN 16 (World.drew w29) r3_1 fun t42 w43 =>
 w43 = (World.drew w29) ∧
 Cl prog 96 [t42] (World.drew w29) fun t44 w45 =>
 C30 w45 ∧
 (RunU prog (Instr.mapUpdate 130 t33 t38 t44) w45 fun u46 w47 =>
 Pu (faV 0 r3_1) fun t48 =>
 Ld w47 t48 fun t49 w50 =>
 k (.tuple #[t49, (.int .i64 0)]) w50)))))))
theorem c21 {k : KV} {l0 r1 : Value} {w : World} (h : T21 k l0 r1 w) : Cl prog 21 [l0, r1] w k :=
 cE ac mixed L0 J0 Tryz.func21 (by kernel_rfl) (by kernel_rfl) (by kernel_rfl) h
def T22 (k : KV) (l0 n1 : Value) (w : World) : Prop :=
 Pu (aa (TypeDesc.pointer 132) .eql l0 (.pointer none)) fun t1 =>
 IfB t1
 (k (.int .i64 2) w)
 (Pu (aa (.int .i64) .lss n1 (.int .i64 0)) fun t2 =>
 IfB t2
 (k (.int .i64 1) w)
 (Cl prog 19 [l0] w fun t3 w4 =>
 Pu (aa (.int .i64) .gtr n1 t3) fun t5 =>
 IfB t5
 (k (.int .i64 50) w4)
 (Pu (au l0) fun t6 =>
 Pu (faV 7 t6) fun t7 =>
 Ld w4 t7 fun t8 w9 =>
 Pu (aa (.int .i64) .add t8 n1) fun t10 =>
 Pu (au l0) fun t11 =>
 Pu (faV 7 t11) fun t12 =>
 St 1 w9 t12 t10 fun u13 w14 =>
 k (.int .i64 0) w14)))
theorem c22 {k : KV} {l0 n1 : Value} {w : World} (h : T22 k l0 n1 w) : Cl prog 22 [l0, n1] w k :=
 cE ac mixed L0 J0 Tryz.func22 (by kernel_rfl) (by kernel_rfl) (by kernel_rfl) h
def T23 (k : KV) (l0 n1 : Value) (w : World) : Prop :=
 Pu (aa (TypeDesc.pointer 132) .eql l0 (.pointer none)) fun t1 =>
 IfB t1
 (k (.int .i64 2) w)
 (Pu (aa (.int .i64) .lss n1 (.int .i64 0)) fun t2 =>
 Gd (isB false t2) (fun kk => kk n1 w) w fun t3 w4 =>
 Gd (isB false t2) (fun kk => kk l0 w4) w4 fun t5 w6 =>
 Gd (isB false t2) (fun kk => Pu (au t5) fun vv => kk vv w6) w6 fun t7 w8 =>
 Gd (isB false t2) (fun kk => Pu (faV 7 t7) fun vv => kk vv w8) w8 fun t9 w10 =>
 Gd (isB false t2) (fun kk => Ld w10 t9 kk) w10 fun t11 w12 =>
 Gd (isB false t2) (fun kk => Pu (aa (.int .i64) .gtr t3 t11) fun vv => kk vv w12) w12 fun t13 w14 =>
 Pu (ak t2 (.bool true) t13) fun t15 =>
 IfB t15
 (k (.int .i64 1) w14)
 (Pu (au l0) fun t16 =>
 Pu (faV 7 t16) fun t17 =>
 Ld w14 t17 fun t18 w19 =>
 Pu (aa (.int .i64) .sub t18 n1) fun t20 =>
 Pu (au l0) fun t21 =>
 Pu (faV 7 t21) fun t22 =>
 St 1 w19 t22 t20 fun u23 w24 =>
 k (.int .i64 0) w24))
theorem c23 {k : KV} {l0 n1 : Value} {w : World} (h : T23 k l0 n1 w) : Cl prog 23 [l0, n1] w k :=
 cE ac mixed L0 J0 Tryz.func23 (by kernel_rfl) (by kernel_rfl) (by kernel_rfl) h
def T24 (k : KV) (l0 : Value) (w : World) : Prop :=
 Pu (aa (TypeDesc.pointer 132) .eql l0 (.pointer none)) fun t1 =>
 IfB t1
 (k (.int .i64 0) w)
 (Pu (au l0) fun t2 =>
 Pu (faV 5 t2) fun t3 =>
 Ld w t3 fun t4 w5 =>
 k t4 w5)
theorem c24 {k : KV} {l0 : Value} {w : World} (h : T24 k l0 w) : Cl prog 24 [l0] w k :=
 cE ac mixed L0 J0 Tryz.func24 (by kernel_rfl) (by kernel_rfl) (by kernel_rfl) h
def T26 (k : KV) (l0 to1 : Value) (w : World) : Prop :=
 Pu (aa (TypeDesc.pointer 132) .eql l0 (.pointer none)) fun t1 =>
 IfB t1
 (k (.int .i64 2) w)
 (Cl prog 20 [l0] w fun t2 w3 =>
 Pu (au l0) fun t4 =>
 Pu (faV 6 t4) fun t5 =>
 Ld w3 t5 fun t6 w7 =>
 Pu (aa (.int .i64) .lss to1 t6) fun t8 =>
 Gd (isB false t8) (fun kk => kk l0 w7) w7 fun t9 w10 =>
 Gd (isB false t8) (fun kk => Pu (au t9) fun vv => kk vv w10) w10 fun t11 w12 =>
 Gd (isB false t8) (fun kk => Pu (faV 6 t11) fun vv => kk vv w12) w12 fun t13 w14 =>
 Gd (isB false t8) (fun kk => Ld w14 t13 kk) w14 fun t15 w16 =>
 Gd (isB false t8) (fun kk => kk t2 w16) w16 fun t17 w18 =>
 Gd (isB false t8) (fun kk => Pu (aa (.int .i64) .eql t15 t17) fun vv => kk vv w18) w18 fun t19 w20 =>
 Pu (ak t8 (.bool true) t19) fun t21 =>
 IfB t21
 (k (.int .i64 0) w20)
 (Pu (au l0) fun t22 =>
 Pu (faV 6 t22) fun t23 =>
 Ld w20 t23 fun t24 w25 =>
 Cl prog 97 [t24] w25 fun t26 w27 =>
 ∃ (I28 : List Value → World → Prop) (m29 : List Value → World → Nat), I28 [t26] w27 ∧
 ∀ (g57 : Fr) (w56 : World), ∀ kv32 : Value, I28 [kv32] w56 →
 (Cl prog 98 [kv32] w56 fun t58 w59 =>
 Pu (aa (.int .i64) .lss t58 t2) fun t60 =>
 IfB t60
 (∃ C61 : World → Prop, C61 (World.drew w59) ∧
 (Pu (au l0) fun t62 =>
 Pu (faV 0 t62) fun t63 =>
 ∃ t64, (∀ w65, C61 w65 → Ld w65 t63 fun t66 w67 =>
 t66 = t64 ∧ w67 = w65) ∧
 (Cl prog 99 [l0, kv32] (World.drew w59) fun t68 w69 =>
 C61 w69 ∧
 (Cl prog 101 [l0, kv32] w69 fun t70 w71 =>
 C61 w71 ∧
 (Cl prog 100 [kv32, t70] w71 fun t72 w73 =>
 C61 w73 ∧
 (Cl prog 94 [t64, t68, t72] w73 fun t74 w75 =>
 Pu (aa (.int .i64) .neq t74 (.int .i64 0)) fun t76 =>
 IfB t76
 (k t74 w75)
 (Pu (aa (.int .i64) .add kv32 (.int .i64 1)) fun t77 =>
 I28 [t77] w75 ∧ m29 [t77] w75 < m29 [kv32] w56)))))))
 (Pu (au l0) fun t78 =>
 Pu (faV 0 t78) fun t79 =>
 Ld w59 t79 fun t80 w81 =>
 Cl prog 38 [t80] w81 fun t82 w83 =>
 Pu (aa (.int .i64) .neq t82 (.int .i64 0)) fun t84 =>
 IfB t84
 (k t82 w83)
 (Pu (au l0) fun t85 =>
 Pu (faV 6 t85) fun t86 =>
 St 1 w83 t86 t2 fun u87 w88 =>
 k (.int .i64 0) w88)))))
theorem c26 {k : KV} {l0 to1 : Value} {w : World} (h : T26 k l0 to1 w) : Cl prog 26 [l0, to1] w k :=
 cE ac mixed (fun j => bif Nat.beq j 7 then [6] else []) J0 Tryz.func26 (by kernel_rfl) (by kernel_rfl) (by kernel_rfl) h
def T27 (k : KV) (l0 : Value) (w : World) : Prop :=
 Pu (aa (TypeDesc.pointer 132) .eql l0 (.pointer none)) fun t1 =>
 IfB t1
 (k (.int .i64 0) w)
 (Pu (au l0) fun t2 =>
 Pu (faV 6 t2) fun t3 =>
 Ld w t3 fun t4 w5 =>
 k t4 w5)
theorem c27 {k : KV} {l0 : Value} {w : World} (h : T27 k l0 w) : Cl prog 27 [l0] w k :=
 cE ac mixed L0 J0 Tryz.func27 (by kernel_rfl) (by kernel_rfl) (by kernel_rfl) h
def T28 (k : KV) (l0 below1 : Value) (w : World) : Prop :=
 Pu (aa (TypeDesc.pointer 132) .eql l0 (.pointer none)) fun t1 =>
 IfB t1
 (k (.int .i64 2) w)
 (Pu (au l0) fun t2 =>
 Pu (faV 8 t2) fun t3 =>
 Ld w t3 fun t4 w5 =>
 RunS prog (Instr.lookup 130 t4 below1 true) w5 fun t6 w7 =>
 Pu (aJ t6 0) fun t8 =>
 Pu (aJ t6 1) fun t9 =>
 New #[(.int .i64 0), (.int .i64 0), (.int .i64 0), (.int .u8 0), (.int .i64 0), (.int .i64 0), (.int .i64 0), (.int .i64 0), (.int .i64 0), (.int .i64 0), (.string (.mk #[])), (.slice none 0 0), (.slice none 0 0), (.slice none 0 0), (.slice none 0 0), (.slice none 0 0)] 28 w7 fun t10 w11 =>
 St 16 w11 t10 t8 fun u12 w13 =>
 Pu (au l0) fun t14 =>
 Pu (faV 5 t14) fun t15 =>
 Ld w13 t15 fun t16 w17 =>
 Pu (aa (.int .i64) .lss below1 t16) fun t18 =>
 Gd (isB false t18) (fun kk => kk below1 w17) w17 fun t19 w20 =>
 Gd (isB false t18) (fun kk => kk l0 w20) w20 fun t21 w22 =>
 Gd (isB false t18) (fun kk => Pu (au t21) fun vv => kk vv w22) w22 fun t23 w24 =>
 Gd (isB false t18) (fun kk => Pu (faV 6 t23) fun vv => kk vv w24) w24 fun t25 w26 =>
 Gd (isB false t18) (fun kk => Ld w26 t25 kk) w26 fun t27 w28 =>
 Gd (isB false t18) (fun kk => Pu (aa (.int .i64) .gtr t19 t27) fun vv => kk vv w28) w28 fun t29 w30 =>
 Pu (ak t18 (.bool true) t29) fun t31 =>
 Gd (isB false t31) (fun kk => kk t9 w30) w30 fun t32 w33 =>
 Gd (isB false t31) (fun kk => Pu (unV .not t32) fun vv => kk vv w33) w33 fun t34 w35 =>
 Gd (isB false t31) (fun kk => kk t34 w35) w35 fun t36 w37 =>
 Gd (isB true t36) (fun kk => kk below1 w37) w37 fun t38 w39 =>
 Gd (isB true t36) (fun kk => kk l0 w39) w39 fun t40 w41 =>
 Gd (isB true t36) (fun kk => Cl prog 20 [t40] w41 kk) w41 fun t42 w43 =>
 Gd (isB true t36) (fun kk => Pu (aa (.int .i64) .neq t38 t42) fun vv => kk vv w43) w43 fun t44 w45 =>
 Gd (isB false t31) (fun kk => Pu (ak t36 t44 (.bool false)) fun vv => kk vv w45) w45 fun t46 w47 =>
 Pu (ak t31 (.bool true) t46) fun t48 =>
 IfB t48
 (k (.int .i64 51) w47)
 (Pu (au l0) fun t49 =>
 Pu (faV 5 t49) fun t50 =>
 St 1 w47 t50 below1 fun u51 w52 =>
 Pu (au l0) fun t53 =>
 Pu (faV 8 t53) fun t54 =>
 Ld w52 t54 fun t55 w56 =>
 RunS prog (Instr.range 130 t55) w56 fun t57 w58 =>
 ∃ (I59 : List Value → World → Prop) (m60 : List Value → World → Nat), I59 [] w58 ∧
 ∀ (g76 : Fr) (w75 : World), I59 [] w75 →
 (RunS prog (Instr.next t57 false 0) w75 fun t77 w78 =>
 Pu (aJ t77 0) fun t79 =>
 IfB t79
 (RunS prog (Instr.entry t57) w78 fun t80 w81 =>
 Pu (aJ t80 0) fun t82 =>
 Pu (aa (.int .i64) .lss t82 below1) fun t83 =>
 IfB t83
 (Pu (au l0) fun t84 =>
 Pu (faV 8 t84) fun t85 =>
 Ld w81 t85 fun t86 w87 =>
 RunS prog (Builtin.delete_ #[130, 3] 0 #[t86, t82]) w87 fun u88 w89 =>
 I59 [] w89 ∧ m60 [] w89 < m60 [] w75)
 (I59 [] w81 ∧ m60 [] w81 < m60 [] w75))
 (Cl prog 97 [below1] w78 fun t90 w91 =>
 Cl prog 98 [t90] w91 fun t92 w93 =>
 ∃ C94 : World → Prop, C94 (World.drew w93) ∧
 (Pu (au l0) fun t95 =>
 Pu (faV 4 t95) fun t96 =>
 ∃ t97, (∀ w98, C94 w98 → Ld w98 t96 fun t99 w100 =>
 t99 = t97 ∧ w100 = w98) ∧
 (Pu (au l0) fun t101 =>
 Pu (faV 3 t101) fun t102 =>
 ∃ t103, (∀ w104, C94 w104 → Ld w104 t102 fun t105 w106 =>
 t105 = t103 ∧ w106 = w104) ∧
 (Pu (aa (.int .i64) .sub t92 t103) fun t107 =>
 Pu (slV 1 t97 (some t107) none none) fun t108 =>
 RunS prog (Instr.buildSlice 123 0 #[]) (World.drew w93) fun t109 w110 =>
 C94 w110 ∧
 (RunS prog (Builtin.append_ #[123, 123] 123 #[t109, t108]) w110 fun t111 w112 =>
 Pu (au l0) fun t113 =>
 Pu (faV 4 t113) fun t114 =>
 St 1 w112 t114 t111 fun u115 w116 =>
 Pu (au l0) fun t117 =>
 Pu (faV 3 t117) fun t118 =>
 St 1 w116 t118 t92 fun u119 w120 =>
 k (.int .i64 0) w120))))))))
theorem c28 {k : KV} {l0 below1 : Value} {w : World} (h : T28 k l0 below1 w) : Cl prog 28 [l0, below1] w k :=
 cE ac mixed (fun j => bif Nat.beq j 8 then [] else []) J0 Tryz.func28 (by kernel_rfl) (by kernel_rfl) (by kernel_rfl) h
def T29 (k : KV) (l0 atv1 : Value) (w : World) : Prop :=
 New #[(.int .i64 0), (.int .i64 0), (.int .i64 0), (.int .u8 0), (.int .i64 0), (.int .i64 0), (.int .i64 0), (.int .i64 0), (.int .i64 0), (.int .i64 0), (.string (.mk #[])), (.slice none 0 0), (.slice none 0 0), (.slice none 0 0), (.slice none 0 0), (.slice none 0 0)] 28 w fun t1 w2 =>
 Pu (aa (TypeDesc.pointer 132) .eql l0 (.pointer none)) fun t3 =>
 IfB t3
 (RunS prog (Instr.build 28 #[]) w2 fun t4 w5 =>
 St 16 w5 t1 t4 fun u6 w7 =>
 bU (bF prog (fun j => bif Nat.beq j 4 then t1 else bif Nat.beq j 5 then (.int .i64 2) else undef) w7 [(ResultVar.cell 4 28), (ResultVar.tmp 5)]) w7 k)
 (Pu (au l0) fun t8 =>
 Pu (faV 8 t8) fun t9 =>
 Ld w2 t9 fun t10 w11 =>
 RunS prog (Instr.lookup 130 t10 atv1 true) w11 fun t12 w13 =>
 Pu (aJ t12 0) fun t14 =>
 Pu (aJ t12 1) fun t15 =>
 New #[(.int .i64 0), (.int .i64 0), (.int .i64 0), (.int .u8 0), (.int .i64 0), (.int .i64 0), (.int .i64 0), (.int .i64 0), (.int .i64 0), (.int .i64 0), (.string (.mk #[])), (.slice none 0 0), (.slice none 0 0), (.slice none 0 0), (.slice none 0 0), (.slice none 0 0)] 28 w13 fun r16 w17 =>
 St 16 w17 r16 t14 fun u18 w19 =>
 Pu (unV .not t15) fun t20 =>
 IfB t20
 (RunS prog (Instr.build 28 #[]) w19 fun t21 w22 =>
 St 16 w22 t1 t21 fun u23 w24 =>
 bU (bF prog (fun j => bif Nat.beq j 4 then t1 else bif Nat.beq j 5 then (.int .i64 51) else undef) w24 [(ResultVar.cell 4 28), (ResultVar.tmp 5)]) w24 k)
 (LdN 16 w19 r16 fun t25 w26 =>
 Cl prog 96 [t25] w26 fun t27 w28 =>
 St 16 w28 t1 t27 fun u29 w30 =>
 bU (bF prog (fun j => bif Nat.beq j 4 then t1 else bif Nat.beq j 5 then (.int .i64 0) else undef) w30 [(ResultVar.cell 4 28), (ResultVar.tmp 5)]) w30 k))
theorem c29 {k : KV} {l0 atv1 : Value} {w : World} (h : T29 k l0 atv1 w) : Cl prog 29 [l0, atv1] w k :=
 cE ac mixed L0 J0 Tryz.func29 (by kernel_rfl) (by kernel_rfl) (by kernel_rfl) h
def T93 (k : KV) (d0 fromv1 n2 : Value) (w : World) : Prop :=
 Pu (aa (TypeDesc.pointer 126) .neq d0 (.pointer none)) fun t1 =>
 Gd (isB true t1) (fun kk => kk n2 w) w fun t2 w3 =>
 Gd (isB true t1) (fun kk => Pu (aa (.int .i64) .geq t2 (.int .i64 4)) fun vv => kk vv w3) w3 fun t4 w5 =>
 Pu (ak t1 t4 (.bool false)) fun t6 =>
 Gd (isB true t6) (fun kk => kk fromv1 w5) w5 fun t7 w8 =>
 Gd (isB true t6) (fun kk => Pu (aa (.int .i64) .geq t7 (.int .i64 0)) fun vv => kk vv w8) w8 fun t9 w10 =>
 Pu (ak t6 t9 (.bool false)) fun t11 =>
 Gd (isB true t11) (fun kk => kk n2 w10) w10 fun t12 w13 =>
 Gd (isB true t11) (fun kk => kk d0 w13) w13 fun t14 w15 =>
 Gd (isB true t11) (fun kk => Cl prog 108 [t14] w15 kk) w15 fun t16 w17 =>
 Gd (isB true t11) (fun kk => Pu (aa (.int .i64) .leq t12 t16) fun vv => kk vv w17) w17 fun t18 w19 =>
 Pu (ak t11 t18 (.bool false)) fun t20 =>
 Gd (isB true t20) (fun kk => kk fromv1 w19) w19 fun t21 w22 =>
 Gd (isB true t20) (fun kk => kk d0 w22) w22 fun t23 w24 =>
 Gd (isB true t20) (fun kk => Cl prog 108 [t23] w24 kk) w24 fun t25 w26 =>
 Gd (isB true t20) (fun kk => kk n2 w26) w26 fun t27 w28 =>
 Gd (isB true t20) (fun kk => Pu (aa (.int .i64) .sub t25 t27) fun vv => kk vv w28) w28 fun t29 w30 =>
 Gd (isB true t20) (fun kk => Pu (aa (.int .i64) .leq t21 t29) fun vv => kk vv w30) w30 fun t31 w32 =>
 Pu (ak t20 t31 (.bool false)) fun t33 =>
 k t33 w32
theorem c93 {k : KV} {d0 fromv1 n2 : Value} {w : World} (h : T93 k d0 fromv1 n2 w) : Cl prog 93 [d0, fromv1, n2] w k :=
 cE ac mixed L0 J0 Tryz.func93 (by kernel_rfl) (by kernel_rfl) (by kernel_rfl) h
def T96 (k : KV) (r0 : Value) (w : World) : Prop :=
 New (Value.cells r0) 28 w fun r1 w2 =>
 New #[(.int .i64 0), (.int .i64 0), (.int .i64 0), (.int .u8 0), (.int .i64 0), (.int .i64 0), (.int .i64 0), (.int .i64 0), (.int .i64 0), (.int .i64 0), (.string (.mk #[])), (.slice none 0 0), (.slice none 0 0), (.slice none 0 0), (.slice none 0 0), (.slice none 0 0)] 28 w2 fun t3 w4 =>
 LdN 16 w4 r1 fun t5 w6 =>
 Cl prog 89 [t5] w6 fun t7 w8 =>
 Pu (aJ t7 0) fun t9 =>
 Pu (aJ t7 1) fun t10 =>
 Cl prog 13 [t9] w8 fun t11 w12 =>
 Pu (aJ t11 0) fun t13 =>
 Pu (aJ t11 1) fun t14 =>
 Pu (aJ t11 2) fun t15 =>
 New #[(.int .i64 0), (.int .i64 0), (.int .i64 0), (.int .u8 0), (.int .i64 0), (.int .i64 0), (.int .i64 0), (.int .i64 0), (.int .i64 0), (.int .i64 0), (.string (.mk #[])), (.slice none 0 0), (.slice none 0 0), (.slice none 0 0), (.slice none 0 0), (.slice none 0 0)] 28 w12 fun c16 w17 =>
 St 16 w17 c16 t13 fun u18 w19 =>
 LdN 16 w19 c16 fun t20 w21 =>
 St 16 w21 t3 t20 fun u22 w23 =>
 bU (bF prog (fun j => bif Nat.beq j 2 then t3 else undef) w23 [(ResultVar.cell 2 28)]) w23 k
theorem c96 {k : KV} {r0 : Value} {w : World} (h : T96 k r0 w) : Cl prog 96 [r0] w k :=
 cE ac mixed L0 J0 Tryz.func96 (by kernel_rfl) (by kernel_rfl) (by kernel_rfl) h
def T97 (k : KV) (atv0 : Value) (w : World) : Prop :=
 Pu (aa (.int .i64) .sub atv0 (.int .i64 1)) fun t1 =>
 Pu (aa (.int .i64) .quo t1 (.int .i64 54)) fun t2 =>
 k t2 w
theorem c97 {k : KV} {atv0 : Value} {w : World} (h : T97 k atv0 w) : Cl prog 97 [atv0] w k :=
 cE ac mixed L0 J0 Tryz.func97 (by kernel_rfl) (by kernel_rfl) (by kernel_rfl) h
def T98 (k : KV) (kv0 : Value) (w : World) : Prop :=
 Pu (aa (.int .i64) .mul kv0 (.int .i64 54)) fun t1 =>
 Pu (aa (.int .i64) .add t1 (.int .i64 1)) fun t2 =>
 k t2 w
theorem c98 {k : KV} {kv0 : Value} {w : World} (h : T98 k kv0 w) : Cl prog 98 [kv0] w k :=
 cE ac mixed L0 J0 Tryz.func98 (by kernel_rfl) (by kernel_rfl) (by kernel_rfl) h
def T99 (k : KV) (l0 kv1 : Value) (w : World) : Prop :=
 Pu (au l0) fun t1 =>
 Pu (faV 1 t1) fun t2 =>
 Ld (World.drew w) t2 fun t3 w4 =>
 w4 = (World.drew w) ∧
 Pu (au l0) fun t5 =>
 Pu (faV 2 t5) fun t6 =>
 Ld (World.drew w) t6 fun t7 w8 =>
 w8 = (World.drew w) ∧
 Pu (aa (.int .i64) .rem kv1 t7) fun t9 =>
 Pu (aa (.int .i64) .add t3 t9) fun t10 =>
 k t10 (World.drew w)
theorem c99 {k : KV} {l0 kv1 : Value} {w : World} (h : T99 k l0 kv1 w) : Cl prog 99 [l0, kv1] w k :=
 cE ac mixed L0 J0 Tryz.func99 (by kernel_rfl) (by kernel_rfl) (by kernel_rfl) h
def T100 (k : KV) (kv0 b1 : Value) (w : World) : Prop :=
 Pu (bu b1) fun t1 =>
 Pu (cvI IntKind.u8 t1) fun t2 =>
 RunS prog (Instr.buildSlice 123 1 #[(0, t2)]) w fun t3 w4 =>
 RunS prog (convert 123 9 t3) w4 fun t5 w6 =>
 Cl prog 179 [kv0] w6 fun t7 w8 =>
 Pu (aa TypeDesc.string .add t7 t5) fun t9 =>
 Pu (aa TypeDesc.string .add t9 b1) fun t10 =>
 Pu (bu b1) fun t11 =>
 Pu (aa (.int .i64) .sub (.int .i64 54) t11) fun t12 =>
 Cl prog 95 [(.string (.mk #[0])), t12] w8 fun t13 w14 =>
 Pu (aa TypeDesc.string .add t10 t13) fun t15 =>
 Pu (aa TypeDesc.string .add t15 t5) fun t16 =>
 Cl prog 179 [kv0] w14 fun t17 w18 =>
 Pu (aa TypeDesc.string .add t16 t17) fun t19 =>
 k t19 w18
theorem c100 {k : KV} {kv0 b1 : Value} {w : World} (h : T100 k kv0 b1 w) : Cl prog 100 [kv0, b1] w k :=
 cE ac mixed L0 J0 Tryz.func100 (by kernel_rfl) (by kernel_rfl) (by kernel_rfl) h
def T101 (k : KV) (l0 kv1 : Value) (w : World) : Prop :=
 ∃ C1 : World → Prop, C1 (World.drew w) ∧
 (Pu (au l0) fun t2 =>
 Pu (faV 3 t2) fun t3 =>
 ∃ t4, (∀ w5, C1 w5 → Ld w5 t3 fun t6 w7 =>
 t6 = t4 ∧ w7 = w5) ∧
 (Cl prog 98 [kv1] (World.drew w) fun t8 w9 =>
 C1 w9 ∧
 (Pu (aa (.int .i64) .sub t8 t4) fun t10 =>
 Pu (au l0) fun t11 =>
 Pu (faV 4 t11) fun t12 =>
 Ld (World.drew w9) t12 fun t13 w14 =>
 w14 = (World.drew w9) ∧
 Pu (aa (.int .i64) .add t10 (.int .i64 54)) fun t15 =>
 Pu (au l0) fun t16 =>
 Pu (faV 4 t16) fun t17 =>
 Ld (World.drew w9) t17 fun t18 w19 =>
 w19 = (World.drew w9) ∧
 Pu (lenV t18) fun t20 =>
 Pu (aU eX [t15, t20]) fun t21 =>
 Pu (slV 1 t13 (some t10) (some t21) none) fun t22 =>
 RunS prog (convert 123 9 t22) (World.drew w9) fun t23 w24 =>
 w24 = (World.drew w9) ∧
 k t23 (World.drew w9))))
theorem c101 {k : KV} {l0 kv1 : Value} {w : World} (h : T101 k l0 kv1 w) : Cl prog 101 [l0, kv1] w k :=
 cE ac mixed L0 J0 Tryz.func101 (by kernel_rfl) (by kernel_rfl) (by kernel_rfl) h
def T140 (k : KV) (l0 kv1 : Value) (w : World) : Prop :=
 Jn (fun vs45 w44 => ∀ g46 : Fr, ∃ out4 : Value, vs45 = [out4] ∧
 (k (.tuple #[out4, (.int .i64 0)]) w44))
 (fun jj1 =>
 Pu (au l0) fun t47 =>
 Pu (faV 2 t47) fun t48 =>
 Ld w t48 fun t49 w50 =>
 ∃ (I51 : List Value → World → Prop) (m52 : List Value → World → Nat), I51 [(.slice none 0 0), (.int .i64 0)] w50 ∧
 ∀ (g93 : Fr) (w92 : World), ∀ out56 : Value, ∀ t61 : Value, I51 [out56, t61] w92 →
 (Pu (aa (.int .i64) .lss t61 t49) fun t94 =>
 IfB t94
 (∃ C95 : World → Prop, C95 (World.drew w92) ∧
 (Pu (au l0) fun t96 =>
 Pu (faV 0 t96) fun t97 =>
 ∃ t98, (∀ w99, C95 w99 → Ld w99 t97 fun t100 w101 =>
 t100 = t98 ∧ w101 = w99) ∧
 (Pu (aa (.int .i64) .add kv1 t61) fun t102 =>
 Cl prog 99 [l0, t102] (World.drew w92) fun t103 w104 =>
 C95 w104 ∧
 (Cl prog 40 [t98, t103, (.int .i64 1)] w104 fun t105 w106 =>
 Pu (aJ t105 0) fun t107 =>
 Pu (aJ t105 1) fun t108 =>
 Pu (aa (.int .i64) .neq t108 (.int .i64 0)) fun t109 =>
 IfB t109
 (k (.tuple #[(.slice none 0 0), t108]) w106)
 (Pu (aa (.int .i64) .add kv1 t61) fun t110 =>
 Cl prog 194 [t107, t110] w106 fun t111 w112 =>
 RunS prog (Builtin.append_ #[123, 9] 123 #[out56, t111]) w112 fun t113 w114 =>
 Pu (bu t111) fun t115 =>
 Pu (aa (.int .i64) .lss t115 (.int .i64 54)) fun t116 =>
 IfB t116
 (jj1 [t113] w114)
 (Pu (aa (.int .i64) .add t61 (.int .i64 1)) fun t117 =>
 I51 [t113, t117] w114 ∧ m52 [t113, t117] w114 < m52 [out56, t61] w92))))))
 (jj1 [out56] w92)))
theorem c140 {k : KV} {l0 kv1 : Value} {w : World} (h : T140 k l0 kv1 w) : Cl prog 140 [l0, kv1] w k :=
 cE ac mixed (fun j => bif Nat.beq j 3 then [6, 15] else []) (fun j => bif Nat.beq j 12 then some [6] else none) Tryz.func140 (by kernel_rfl) (by kernel_rfl) (by kernel_rfl) h
def T141 (k : KV) (l0 : Value) (w : World) : Prop :=
 Pu (au l0) fun t1 =>
 Pu (faV 2 t1) fun t2 =>
 Ld w t2 fun t3 w4 =>
 RunS prog (Instr.makeSlice 59 t3 t3) w4 fun t5 w6 =>
 Pu (lenV t5) fun t7 =>
 ∃ (I8 : List Value → World → Prop) (m9 : List Value → World → Nat), I8 [(.int .i64 0)] w6 ∧
 ∀ (g21 : Fr) (w20 : World), ∀ t12 : Value, I8 [t12] w20 →
 (Pu (aa (.int .i64) .lss t12 t7) fun t22 =>
 IfB t22
 (Cl prog 95 [(.string (.mk #[0])), (.int .i64 64)] w20 fun t23 w24 =>
 Pu (ixV 1 t5 t12) fun t25 =>
 St 1 w24 t25 t23 fun u26 w27 =>
 Pu (aa (.int .i64) .add t12 (.int .i64 1)) fun t28 =>
 I8 [t28] w27 ∧ m9 [t28] w27 < m9 [t12] w20)
 (Cl prog 20 [l0] w20 fun t29 w30 =>
 Cl prog 97 [t29] w30 fun t31 w32 =>
 Pu (au l0) fun t33 =>
 Pu (faV 5 t33) fun t34 =>
 Ld w32 t34 fun t35 w36 =>
 Cl prog 97 [t35] w36 fun t37 w38 =>
 ∃ (I39 : List Value → World → Prop) (m40 : List Value → World → Nat), I39 [t37] w38 ∧
 ∀ (g57 : Fr) (w56 : World), ∀ kv42 : Value, I39 [kv42] w56 →
 (Pu (aa (.int .i64) .lss kv42 t31) fun t58 =>
 IfB t58
 (Pu (au l0) fun t59 =>
 Pu (faV 2 t59) fun t60 =>
 Ld w56 t60 fun t61 w62 =>
 Pu (aa (.int .i64) .rem kv42 t61) fun t63 =>
 Pu (ixV 1 t5 t63) fun t64 =>
 St 1 w62 t64 (.string (.mk #[])) fun u65 w66 =>
 Pu (aa (.int .i64) .add kv42 (.int .i64 1)) fun t67 =>
 I39 [t67] w66 ∧ m40 [t67] w66 < m40 [kv42] w56)
 (Jn (fun vs87 w86 => ∀ g88 : Fr, vs87 = [] ∧
 (Pu (lenV t5) fun t89 =>
 ∃ (I90 : List Value → World → Prop) (m91 : List Value → World → Nat), I90 [(.bool false), (.int .i64 0)] w86 ∧
 ∀ (g144 : Fr) (w143 : World), ∀ wrote94 : Value, ∀ t99 : Value, I90 [wrote94, t99] w143 →
 (Pu (aa (.int .i64) .lss t99 t89) fun t145 =>
 IfB t145
 (Jn (fun vs195 w194 => ∀ g196 : Fr, ∃ wrote148 : Value, vs195 = [wrote148] ∧
 (Pu (aa (.int .i64) .add t99 (.int .i64 1)) fun t197 =>
 I90 [wrote148, t197] w194 ∧ m91 [wrote148, t197] w194 < m91 [wrote94, t99] w143))
 (fun jj146 =>
 Pu (ixV 1 t5 t99) fun t198 =>
 Ld w143 t198 fun t199 w200 =>
 Pu (aa TypeDesc.string .eql t199 (.string (.mk #[]))) fun t201 =>
 IfB t201
 (jj146 [wrote94] w200)
 (Pu (au l0) fun t202 =>
 Pu (faV 0 t202) fun t203 =>
 Ld (World.drew w200) t203 fun t204 w205 =>
 w205 = (World.drew w200) ∧
 Pu (au l0) fun t206 =>
 Pu (faV 1 t206) fun t207 =>
 Ld (World.drew w200) t207 fun t208 w209 =>
 w209 = (World.drew w200) ∧
 Pu (aa (.int .i64) .add t208 t99) fun t210 =>
 Cl prog 40 [t204, t210, (.int .i64 1)] (World.drew w200) fun t211 w212 =>
 Pu (aJ t211 0) fun t213 =>
 Pu (aJ t211 1) fun t214 =>
 Jn (fun vs238 w237 => ∀ g239 : Fr, ∃ wrote216 : Value, ∃ e217 : Value, vs238 = [wrote216, e217] ∧
 (Pu (aa (.int .i64) .neq e217 (.int .i64 0)) fun t240 =>
 IfB t240
 (k e217 w237)
 (jj146 [wrote216] w237)))
 (fun jj215 =>
 Pu (aa (.int .i64) .eql t214 (.int .i64 0)) fun t241 =>
 Gd (isB true t241) (fun kk => kk t213 w212) w212 fun t242 w243 =>
 Gd (isB true t241) (fun kk => kk t199 w243) w243 fun t244 w245 =>
 Gd (isB true t241) (fun kk => Pu (aa TypeDesc.string .neq t242 t244) fun vv => kk vv w245) w245 fun t246 w247 =>
 Pu (ak t241 t246 (.bool false)) fun t248 =>
 IfB t248
 (Pu (au l0) fun t249 =>
 Pu (faV 0 t249) fun t250 =>
 Ld (World.drew w247) t250 fun t251 w252 =>
 w252 = (World.drew w247) ∧
 Pu (au l0) fun t253 =>
 Pu (faV 1 t253) fun t254 =>
 Ld (World.drew w247) t254 fun t255 w256 =>
 w256 = (World.drew w247) ∧
 Pu (aa (.int .i64) .add t255 t99) fun t257 =>
 Cl prog 94 [t251, t257, t199] (World.drew w247) fun t258 w259 =>
 jj215 [(.bool true), t258] w259)
 (jj215 [wrote94, t214] w247)))))
 (Pu (unV .not wrote94) fun t260 =>
 IfB t260
 (k (.int .i64 0) w143)
 (Pu (au l0) fun t261 =>
 Pu (faV 0 t261) fun t262 =>
 Ld w143 t262 fun t263 w264 =>
 Cl prog 38 [t263] w264 fun t265 w266 =>
 k t265 w266)))))
 (fun jj68 =>
 Cl prog 101 [l0, t31] w56 fun t267 w268 =>
 Pu (aa TypeDesc.string .neq t267 (.string (.mk #[]))) fun t269 =>
 IfB t269
 (∃ C270 : World → Prop, C270 (World.drew w268) ∧
 (Pu (au l0) fun t271 =>
 Pu (faV 2 t271) fun t272 =>
 ∃ t273, (∀ w274, C270 w274 → Ld w274 t272 fun t275 w276 =>
 t275 = t273 ∧ w276 = w274) ∧
 (Pu (aa (.int .i64) .rem t31 t273) fun t277 =>
 Cl prog 100 [t31, t267] (World.drew w268) fun t278 w279 =>
 C270 w279 ∧
 (Pu (ixV 1 t5 t277) fun t280 =>
 St 1 w279 t280 t278 fun u281 w282 =>
 jj68 [] w282))))
 (jj68 [] w268))))))
theorem c141 {k : KV} {l0 : Value} {w : World} (h : T141 k l0 w) : Cl prog 141 [l0] w k :=
 cE ac mixed (fun j => bif Nat.beq j 17 then [8, 67] else bif Nat.beq j 9 then [6] else bif Nat.beq j 3 then [20] else []) (fun j => bif Nat.beq j 15 then some [] else bif Nat.beq j 26 then some [8] else bif Nat.beq j 24 then some [8, 12] else none) Tryz.func141 (by kernel_rfl) (by kernel_rfl) (by kernel_rfl) h
def T74 (k : KV) (d0 fromv1 n2 start3 : Value) (w : World) : Prop :=
 Cl prog 93 [d0, fromv1, n2] w fun t1 w2 =>
 Pu (unV .not t1) fun t3 =>
 Gd (isB false t3) (fun kk => kk start3 w2) w2 fun t4 w5 =>
 Gd (isB false t3) (fun kk => Pu (aa (.int .i64) .lss t4 (.int .i64 1)) fun vv => kk vv w5) w5 fun t6 w7 =>
 Pu (ak t3 (.bool true) t6) fun t8 =>
 IfB t8
 (k (.tuple #[(.pointer none), (.slice none 0 0), (.int .i64 1)]) w7)
 (Cl prog 58 [d0] w7 fun t9 w10 =>
 IfB t9
 (k (.tuple #[(.pointer none), (.slice none 0 0), (.int .i64 5)]) w10)
 (Cl prog 97 [start3] w10 fun t11 w12 =>
 Cl prog 98 [t11] w12 fun t13 w14 =>
 RunS prog (Instr.makeMap 130 none) w14 fun t15 w16 =>
 RunS prog (Instr.build 132 #[(0, d0), (1, fromv1), (2, n2), (3, t13), (5, start3), (8, t15)]) w16 fun t17 w18 =>
 New (Value.cells t17) 132 w18 fun t19 w20 =>
 Cl prog 97 [start3] w20 fun t21 w22 =>
 Cl prog 140 [t19, t21] w22 fun t23 w24 =>
 Pu (aJ t23 0) fun t25 =>
 Pu (aJ t23 1) fun t26 =>
 Pu (aa (.int .i64) .neq t26 (.int .i64 0)) fun t27 =>
 IfB t27
 (k (.tuple #[(.pointer none), (.slice none 0 0), t26]) w24)
 (Pu (au t19) fun t28 =>
 Pu (faV 3 t28) fun t29 =>
 Ld w24 t29 fun t30 w31 =>
 Pu (aa (.int .i64) .sub start3 t30) fun t32 =>
 Jn (fun vs42 w41 => ∀ g43 : Fr, ∃ all34 : Value, vs42 = [all34] ∧
 (∃ (I44 : List Value → World → Prop) (m45 : List Value → World → Nat), I44 [(.slice none 0 0), t32] w41 ∧
 ∀ (g90 : Fr) (w89 : World), ∀ out47 : Value, ∀ endv48 : Value, I44 [out47, endv48] w89 →
 (Pu (slV 1 all34 (some endv48) none none) fun t91 =>
 RunS prog (convert 123 9 t91) w89 fun t92 w93 =>
 Cl prog 13 [t92] w93 fun t94 w95 =>
 Pu (aJ t94 0) fun t96 =>
 Pu (aJ t94 1) fun t97 =>
 Pu (aJ t94 2) fun t98 =>
 New #[(.int .i64 0), (.int .i64 0), (.int .i64 0), (.int .u8 0), (.int .i64 0), (.int .i64 0), (.int .i64 0), (.int .i64 0), (.int .i64 0), (.int .i64 0), (.string (.mk #[])), (.slice none 0 0), (.slice none 0 0), (.slice none 0 0), (.slice none 0 0), (.slice none 0 0)] 28 w95 fun r99 w100 =>
 St 16 w100 r99 t96 fun u101 w102 =>
 Pu (aa (.int .i64) .neq t98 (.int .i64 0)) fun t103 =>
 Gd (isB false t103) (fun kk => Pu (faV 0 r99) fun vv => kk vv (World.drew w102)) (World.drew w102) fun t104 w105 =>
 Gd (isB false t103) (fun kk => Ld w105 t104 kk) w105 fun t106 w107 =>
 w107 = w105 ∧
 Gd (isB false t103) (fun kk => kk t19 w105) w105 fun t108 w109 =>
 Gd (isB false t103) (fun kk => Pu (au t108) fun vv => kk vv w109) w109 fun t110 w111 =>
 Gd (isB false t103) (fun kk => Pu (faV 3 t110) fun vv => kk vv w111) w111 fun t112 w113 =>
 Gd (isB false t103) (fun kk => Ld w113 t112 kk) w113 fun t114 w115 =>
 w115 = w113 ∧
 Gd (isB false t103) (fun kk => kk endv48 w113) w113 fun t116 w117 =>
 Gd (isB false t103) (fun kk => Pu (aa (.int .i64) .add t114 t116) fun vv => kk vv w117) w117 fun t118 w119 =>
 Gd (isB false t103) (fun kk => Pu (aa (.int .i64) .neq t106 t118) fun vv => kk vv w119) w119 fun t120 w121 =>
 Pu (ak t103 (.bool true) t120) fun t122 =>
 IfB t122
 (Pu (slV 1 all34 none (some endv48) (some endv48)) fun t123 =>
 Pu (au t19) fun t124 =>
 Pu (faV 4 t124) fun t125 =>
 St 1 w121 t125 t123 fun u126 w127 =>
 Cl prog 20 [t19] w127 fun t128 w129 =>
 Pu (au t19) fun t130 =>
 Pu (faV 6 t130) fun t131 =>
 St 1 w129 t131 t128 fun u132 w133 =>
 Cl prog 141 [t19] w133 fun t134 w135 =>
 Pu (aa (.int .i64) .neq t134 (.int .i64 0)) fun t136 =>
 IfB t136
 (k (.tuple #[(.pointer none), (.slice none 0 0), t134]) w135)
 (k (.tuple #[t19, out47, (.int .i64 0)]) w135))
 (Pu (au t19) fun t137 =>
 Pu (faV 8 t137) fun t138 =>
 Ld (World.drew w121) t138 fun t139 w140 =>
 w140 = (World.drew w121) ∧
 Pu (faV 0 r99) fun t141 =>
 Ld (World.drew w121) t141 fun t142 w143 =>
 w143 = (World.drew w121) ∧
 LdN 16 (World.drew w121) r99 fun t144 w145 =>
 w145 = (World.drew w121) ∧
 RunU prog (Instr.mapUpdate 130 t139 t142 t144) (World.drew w121) fun u146 w147 =>
 LdN 16 w147 r99 fun t148 w149 =>
 Cl prog 96 [t148] w149 fun t150 w151 =>
 RunS prog (Instr.buildSlice 49 1 #[(0, t150)]) w151 fun t152 w153 =>
 RunS prog (Builtin.append_ #[49, 49] 49 #[out47, t152]) w153 fun t154 w155 =>
 Pu (aa (.int .i64) .add endv48 t97) fun t156 =>
 I44 [t154, t156] w155 ∧ m45 [t154, t156] w155 < m45 [out47, endv48] w89))))
 (fun jj33 =>
 Pu (lenV t25) fun t157 =>
 Pu (aa (.int .i64) .lss t157 t32) fun t158 =>
 IfB t158
 (RunS prog (Instr.makeSlice 123 t32 t32) w31 fun t159 w160 =>
 jj33 [t159] w160)
 (jj33 [t25] w31)))))
theorem c74 {k : KV} {d0 fromv1 n2 start3 : Value} {w : World} (h : T74 k d0 fromv1 n2 start3 w) : Cl prog 74 [d0, fromv1, n2, start3] w k :=
 cE ac mixed (fun j => bif Nat.beq j 14 then [15, 16] else []) (fun j => bif Nat.beq j 12 then some [12] else none) Tryz.func74 (by kernel_rfl) (by kernel_rfl) (by kernel_rfl) h
def T179 (k : KV) (kv0 : Value) (w : World) : Prop :=
 Pu (aa (.int .i64) .add kv0 (.int .i64 1)) fun t1 =>
 Pu (aa (.int .i64) .rem t1 (.int .i64 4294967296)) fun t2 =>
 Cl prog 115 [t2, (.int .i64 4)] w fun t3 w4 =>
 k t3 w4
theorem c179 {k : KV} {kv0 : Value} {w : World} (h : T179 k kv0 w) : Cl prog 179 [kv0] w k :=
 cE ac mixed L0 J0 Tryz.func179 (by kernel_rfl) (by kernel_rfl) (by kernel_rfl) h
def T194 (k : KV) (s0 kv1 : Value) (w : World) : Prop :=
 Cl prog 179 [kv1] w fun t1 w2 =>
 Cl prog 174 [s0, t1] w2 fun t3 w4 =>
 Pu (unV .not t3) fun t5 =>
 Gd (isB false t5) (fun kk => kk s0 w4) w4 fun t6 w7 =>
 Gd (isB false t5) (fun kk => kk kv1 w7) w7 fun t8 w9 =>
 Gd (isB false t5) (fun kk => Cl prog 179 [t8] w9 kk) w9 fun t10 w11 =>
 Gd (isB false t5) (fun kk => Cl prog 222 [t6, t10] w11 kk) w11 fun t12 w13 =>
 Gd (isB false t5) (fun kk => Pu (unV .not t12) fun vv => kk vv w13) w13 fun t14 w15 =>
 Pu (ak t5 (.bool true) t14) fun t16 =>
 IfB t16
 (k (.string (.mk #[])) w15)
 (Pu (slS s0 (some (.int .i64 5)) none) fun t17 =>
 Pu (ixS s0 (.int .i64 4)) fun t18 =>
 Pu (ixS s0 (.int .i64 59)) fun t19 =>
 Pu (aU eX [t18, t19, (.int .u8 54)]) fun t20 =>
 Pu (slS t17 none (some t20)) fun t21 =>
 k t21 (World.drew w15))
theorem c194 {k : KV} {s0 kv1 : Value} {w : World} (h : T194 k s0 kv1 w) : Cl prog 194 [s0, kv1] w k :=
 cE ac mixed L0 J0 Tryz.func194 (by kernel_rfl) (by kernel_rfl) (by kernel_rfl) h
def T174 (k : KV) (s0 prefixv1 : Value) (w : World) : Prop :=
 Cl prog 210 [s0, prefixv1] w fun t1 w2 =>
 k t1 w2
theorem c174 {k : KV} {s0 prefixv1 : Value} {w : World} (h : T174 k s0 prefixv1 w) : Cl prog 174 [s0, prefixv1] w k :=
 cE ac mixed L0 J0 Tryz.func174 (by kernel_rfl) (by kernel_rfl) (by kernel_rfl) h
def T222 (k : KV) (s0 suffix1 : Value) (w : World) : Prop :=
 Cl prog 239 [s0, suffix1] w fun t1 w2 =>
 k t1 w2
theorem c222 {k : KV} {s0 suffix1 : Value} {w : World} (h : T222 k s0 suffix1 w) : Cl prog 222 [s0, suffix1] w k :=
 cE ac mixed L0 J0 Tryz.func222 (by kernel_rfl) (by kernel_rfl) (by kernel_rfl) h
def T210 (k : KV) (s0 prefixv1 : Value) (w : World) : Prop :=
 Pu (bu s0) fun t1 =>
 Pu (bu prefixv1) fun t2 =>
 Pu (aa (.int .i64) .geq t1 t2) fun t3 =>
 Gd (isB true t3) (fun kk => kk s0 w) w fun t4 w5 =>
 Gd (isB true t3) (fun kk => kk prefixv1 w5) w5 fun t6 w7 =>
 Gd (isB true t3) (fun kk => Pu (bu t6) fun vv => kk vv w7) w7 fun t8 w9 =>
 Gd (isB true t3) (fun kk => Pu (slS t4 none (some t8)) fun vv => kk vv w9) w9 fun t10 w11 =>
 Gd (isB true t3) (fun kk => kk prefixv1 w11) w11 fun t12 w13 =>
 Gd (isB true t3) (fun kk => Pu (aa TypeDesc.string .eql t10 t12) fun vv => kk vv w13) w13 fun t14 w15 =>
 Pu (ak t3 t14 (.bool false)) fun t16 =>
 k t16 w15
theorem c210 {k : KV} {s0 prefixv1 : Value} {w : World} (h : T210 k s0 prefixv1 w) : Cl prog 210 [s0, prefixv1] w k :=
 cE ac mixed L0 J0 Tryz.func210 (by kernel_rfl) (by kernel_rfl) (by kernel_rfl) h
def T239 (k : KV) (s0 suffix1 : Value) (w : World) : Prop :=
 Pu (bu s0) fun t1 =>
 Pu (bu suffix1) fun t2 =>
 Pu (aa (.int .i64) .geq t1 t2) fun t3 =>
 Gd (isB true t3) (fun kk => kk s0 w) w fun t4 w5 =>
 Gd (isB true t3) (fun kk => kk s0 w5) w5 fun t6 w7 =>
 Gd (isB true t3) (fun kk => Pu (bu t6) fun vv => kk vv w7) w7 fun t8 w9 =>
 Gd (isB true t3) (fun kk => kk suffix1 w9) w9 fun t10 w11 =>
 Gd (isB true t3) (fun kk => Pu (bu t10) fun vv => kk vv w11) w11 fun t12 w13 =>
 Gd (isB true t3) (fun kk => Pu (aa (.int .i64) .sub t8 t12) fun vv => kk vv w13) w13 fun t14 w15 =>
 Gd (isB true t3) (fun kk => Pu (slS t4 (some t14) none) fun vv => kk vv w15) w15 fun t16 w17 =>
 Gd (isB true t3) (fun kk => kk suffix1 w17) w17 fun t18 w19 =>
 Gd (isB true t3) (fun kk => Pu (aa TypeDesc.string .eql t16 t18) fun vv => kk vv w19) w19 fun t20 w21 =>
 Pu (ak t3 t20 (.bool false)) fun t22 =>
 k t22 w21
theorem c239 {k : KV} {s0 suffix1 : Value} {w : World} (h : T239 k s0 suffix1 w) : Cl prog 239 [s0, suffix1] w k :=
 cE ac mixed L0 J0 Tryz.func239 (by kernel_rfl) (by kernel_rfl) (by kernel_rfl) h
def T25 (k : KV) (w : World) : Prop :=
 Cl prog 17 [(.int .i64 10)] w fun t1 w2 =>
 Pu (aJ t1 0) fun t3 =>
 Pu (aJ t1 1) fun t4 =>
 Pu (aa (.int .i64) .neq t4 (.int .i64 0)) fun t5 =>
 Gd (isB false t5) (fun kk => kk t3 w2) w2 fun t6 w7 =>
 Gd (isB false t5) (fun kk => Pu (aa (TypeDesc.pointer 126) .eql t6 (.pointer none)) fun vv => kk vv w7) w7 fun t8 w9 =>
 Pu (ak t5 (.bool true) t8) fun t10 =>
 IfB t10
 (k (.bool false) w9)
 (Cl prog 18 [t3, (.int .i64 2), (.int .i64 4)] w9 fun t11 w12 =>
 Pu (aJ t11 0) fun t13 =>
 Pu (aJ t11 1) fun t14 =>
 Pu (aa (.int .i64) .neq t14 (.int .i64 0)) fun t15 =>
 Gd (isB false t15) (fun kk => kk t13 w12) w12 fun t16 w17 =>
 Gd (isB false t15) (fun kk => Pu (aa (TypeDesc.pointer 132) .eql t16 (.pointer none)) fun vv => kk vv w17) w17 fun t18 w19 =>
 Pu (ak t15 (.bool true) t18) fun t20 =>
 Gd (isB false t20) (fun kk => kk t13 w19) w19 fun t21 w22 =>
 Gd (isB false t20) (fun kk => Cl prog 19 [t21] w22 kk) w22 fun t23 w24 =>
 Gd (isB false t20) (fun kk => Pu (aa (.int .i64) .neq t23 (.int .i64 108)) fun vv => kk vv w24) w24 fun t25 w26 =>
 Pu (ak t20 (.bool true) t25) fun t27 =>
 IfB t27
 (k (.bool false) w26)
 (Cl prog 42 [] w26 fun t28 w29 =>
 Cl prog 21 [t13, t28] w29 fun t30 w31 =>
 Pu (aJ t30 0) fun t32 =>
 Pu (aJ t30 1) fun t33 =>
 Cl prog 42 [] w31 fun t34 w35 =>
 Cl prog 21 [t13, t34] w35 fun t36 w37 =>
 Pu (aJ t36 0) fun t38 =>
 Pu (aJ t36 1) fun t39 =>
 Cl prog 26 [t13, (.int .i64 1)] w37 fun t40 w41 =>
 Pu (aa (.int .i64) .neq t40 (.int .i64 0)) fun t42 =>
 IfB t42
 (k (.bool false) w41)
 (Cl prog 74 [t3, (.int .i64 2), (.int .i64 4), (.int .i64 1)] w41 fun t43 w44 =>
 Pu (aJ t43 0) fun t45 =>
 Pu (aJ t43 1) fun t46 =>
 Pu (aJ t43 2) fun t47 =>
 Pu (aa (.int .i64) .eql t32 (.int .i64 1)) fun t48 =>
 Gd (isB true t48) (fun kk => kk t38 w44) w44 fun t49 w50 =>
 Gd (isB true t48) (fun kk => Pu (aa (.int .i64) .eql t49 (.int .i64 25)) fun vv => kk vv w50) w50 fun t51 w52 =>
 Pu (ak t48 t51 (.bool false)) fun t53 =>
 Gd (isB true t53) (fun kk => kk t47 w52) w52 fun t54 w55 =>
 Gd (isB true t53) (fun kk => Pu (aa (.int .i64) .eql t54 (.int .i64 0)) fun vv => kk vv w55) w55 fun t56 w57 =>
 Pu (ak t53 t56 (.bool false)) fun t58 =>
 Gd (isB true t58) (fun kk => kk t45 w57) w57 fun t59 w60 =>
 Gd (isB true t58) (fun kk => Pu (aa (TypeDesc.pointer 132) .neq t59 (.pointer none)) fun vv => kk vv w60) w60 fun t61 w62 =>
 Pu (ak t58 t61 (.bool false)) fun t63 =>
 Gd (isB true t63) (fun kk => kk t46 w62) w62 fun t64 w65 =>
 Gd (isB true t63) (fun kk => Pu (lenV t64) fun vv => kk vv w65) w65 fun t66 w67 =>
 Gd (isB true t63) (fun kk => Pu (aa (.int .i64) .eql t66 (.int .i64 2)) fun vv => kk vv w67) w67 fun t68 w69 =>
 Pu (ak t63 t68 (.bool false)) fun t70 =>
 Gd (isB true t70) (fun kk => kk t46 w69) w69 fun t71 w72 =>
 Gd (isB true t70) (fun kk => Pu (ixV 16 t71 (.int .i64 1)) fun vv => kk vv w72) w72 fun t73 w74 =>
 Gd (isB true t70) (fun kk => Pu (faV 0 t73) fun vv => kk vv w74) w74 fun t75 w76 =>
 Gd (isB true t70) (fun kk => Ld w76 t75 kk) w76 fun t77 w78 =>
 Gd (isB true t70) (fun kk => Pu (aa (.int .i64) .eql t77 (.int .i64 25)) fun vv => kk vv w78) w78 fun t79 w80 =>
 Pu (ak t70 t79 (.bool false)) fun t81 =>
 Gd (isB true t81) (fun kk => kk t45 w80) w80 fun t82 w83 =>
 Gd (isB true t81) (fun kk => Cl prog 20 [t82] w83 kk) w83 fun t84 w85 =>
 Gd (isB true t81) (fun kk => Pu (aa (.int .i64) .eql t84 (.int .i64 49)) fun vv => kk vv w85) w85 fun t86 w87 =>
 Pu (ak t81 t86 (.bool false)) fun t88 =>
 k t88 w87)))
theorem c25 {k : KV} {w : World} (h : T25 k  w) : Cl prog 25 [] w k :=
 cE ac mixed L0 J0 Tryz.func25 (by kernel_rfl) (by kernel_rfl) (by kernel_rfl) h
def T42 (k : KV) (w : World) : Prop :=
 New #[(.int .i64 0), (.int .i64 0), (.int .i64 0), (.int .u8 0), (.int .i64 0), (.int .i64 0), (.int .i64 0), (.int .i64 0), (.int .i64 0), (.int .i64 0), (.string (.mk #[])), (.slice none 0 0), (.slice none 0 0), (.slice none 0 0), (.slice none 0 0), (.slice none 0 0)] 28 w fun t1 w2 =>
 RunS prog (Instr.build 28 #[(3, (.int .u8 8)), (5, (.int .i64 1))]) w2 fun t3 w4 =>
 St 16 w4 t1 t3 fun u5 w6 =>
 bU (bF prog (fun j => bif Nat.beq j 0 then t1 else undef) w6 [(ResultVar.cell 0 28)]) w6 k
theorem c42 {k : KV} {w : World} (h : T42 k  w) : Cl prog 42 [] w k :=
 cE ac mixed L0 J0 Tryz.func42 (by kernel_rfl) (by kernel_rfl) (by kernel_rfl) h
structure Lg where
 frm : Nat
 n : Nat
 base : Nat
 kept : Bs
 start : Nat
 last : Nat
 res : Int
 recs : List (Int × Rc)
def fI (k : Nat) : Bs := beN 4 ((k + 1) % 4294967296)
def bd (k : Nat) (b : Bs) : Bs := fI k ++ ([UInt8.ofNat b.length] ++ (b ++ (aG (54 - b.length) ++ ([UInt8.ofNat b.length] ++ fI k))))
def opened (s : Bs) (k : Nat) : Bs := bif decide (s.take 4 = fI k) && decide (s.drop 60 = fI k) then (s.drop 5).take (min (min (s.getD 4 0).toNat (s.getD 59 0).toNat) 54) else []
def atR (r : Rc) (k : Nat) : Rc := { r with lsn := (k : Int) }
namespace Lg
def tail (L : Lg) : Nat := L.base + L.kept.length
def room (L : Lg) : Int := 54 * ((L.n : Int) - 2) - ((L.tail : Int) - (L.start : Int)) - L.res
def append (L : Lg) (r : Rc) : Lg × Int × Int :=
 bif decide ((rCheck (atR r L.tail)).2 = 0) then
  (bif decide (L.room < ((rEnc (atR r L.tail)).1.length : Int)) then (L, 0, 50)
   else ({ L with kept := L.kept ++ (rEnc (atR r L.tail)).1, recs := gu L.recs (L.tail : Int) (atR r L.tail) }, (L.tail : Int), 0))
 else (L, 0, (rCheck (atR r L.tail)).2)
def reserve (L : Lg) (k : Int) : Lg × Int := bif decide (k < 0) then (L, 1) else bif decide (L.room < k) then (L, 50) else ({ L with res := L.res + k }, 0)
def release (L : Lg) (k : Int) : Lg × Int := bif decide (k < 0) || decide (L.res < k) then (L, 1) else ({ L with res := L.res - k }, 0)
def bytes (L : Lg) (k : Nat) : Bs := (L.kept.drop (k * 54 + 1 - L.base)).take 54
def put (L : Lg) (k : Nat) (d : Dk) : Dk × Int := d.write ((L.frm + k % L.n : Nat) : Int) (bd k (L.bytes k))
def flushGo (L : Lg) : Nat → Nat → Dk → Dk × Int
 | 0, _, d => (d, 0)
 | f + 1, k, d => bif decide (k * 54 + 1 < L.tail) then (bif decide ((L.put k d).2 = 0) then flushGo L f (k + 1) (L.put k d).1 else L.put k d) else (d, 0)
def flushE (L : Lg) (d : Dk) : Dk × Int := flushGo L (L.kept.length + 1) ((L.last - 1) / 54) d
def flush (L : Lg) (upto : Int) (d : Dk) : Lg × Dk × Int :=
 bif decide (upto < (L.last : Int)) || decide (L.last = L.tail) then (L, d, 0) else
 bif decide ((L.flushE d).2 = 0) then (bif decide ((L.flushE d).1.sync.2 = 0) then ({ L with last := L.tail }, (L.flushE d).1.sync.1, 0) else (L, (L.flushE d).1.sync.1, (L.flushE d).1.sync.2))
 else (L, (L.flushE d).1, (L.flushE d).2)
def baseOf (b : Nat) : Nat := (b - 1) / 54 * 54 + 1
def recycle (L : Lg) (below : Int) : Lg × Int :=
 bif decide (below < (L.start : Int)) || (decide ((L.last : Int) < below) || ((getD L.recs below).isNone && !decide (below = (L.tail : Int)))) then (L, 51)
 else ({ L with start := below.toNat, recs := L.recs.filter (fun p => decide (below ≤ p.1)), kept := L.kept.drop (baseOf below.toNat - L.base), base := baseOf below.toNat }, 0)
def new (frm n : Nat) : Lg := ⟨frm, n, 1, [], 1, 1, 0, []⟩
structure Wf (L : Lg) : Prop where
 n4 : 4 ≤ L.n
 big : L.frm + L.n ≤ 65536
 bs : L.base = baseOf L.start
 st : 1 ≤ L.start ∧ L.start ≤ L.last ∧ L.last ≤ L.tail
 small : L.kept.length ≤ 8000000
 low : L.tail ≤ 9223372036854775807
 hi : L.last < L.tail → L.tail ≤ 4611686018427500000
 res : 0 ≤ L.res ∧ L.res ≤ 4000000
 ok : ∀ p ∈ L.recs, p.2.lsn = p.1 ∧ (rCheck p.2).2 = 0 ∧ (∀ m ∈ p.2.imgs, m.2.lsn ≤ 9223372036854775807) ∧ (L.start : Int) ≤ p.1 ∧ p.1 < (L.tail : Int)
theorem baseOf_le {b : Nat} (h : 1 ≤ b) : 1 ≤ baseOf b ∧ baseOf b ≤ b ∧ b < baseOf b + 54 := by unfold baseOf; omega
theorem wf_new {frm n : Nat} (h1 : 4 ≤ n) (h2 : frm + n ≤ 65536) : (new frm n).Wf where
 n4 := h1
 big := h2
 bs := by simp [new, baseOf]
 st := by simp [new, tail]
 small := by simp [new]
 low := by simp [new, tail]
 hi := by simp [new, tail]
 res := by simp [new]
 ok := by simp [new]
theorem enc_len {r : Rc} (h : (rCheck r).2 = 0) (hl : ∀ m ∈ r.imgs, m.2.lsn ≤ 9223372036854775807) : 18 ≤ (rEnc r).1.length ∧ (rEnc r).1.length ≤ 65543 := by
 have h1 := (cG h hl).2.2.2
 have h2 := pJ r
 rw [lV h hl]
 simp only [List.length_append, aw]
 omega
theorem room_le {L : Lg} (h : L.Wf) : L.room ≤ 3538836 := by
 have h1 := h.big; have h2 := h.st; have h3 := h.res
 unfold room; omega
theorem Wf.append {L : Lg} (h : L.Wf) (r : Rc) (hl : ∀ m ∈ r.imgs, m.2.lsn ≤ 9223372036854775807) : (L.append r).1.Wf := by
 unfold Lg.append
 cases hc : decide ((rCheck (atR r L.tail)).2 = 0) with
 | false => exact h
 | true =>
  rw [decide_eq_true_eq] at hc
  rw [cond_true]
  cases hr : decide (L.room < ((rEnc (atR r L.tail)).1.length : Int)) with
  | true => exact h
  | false =>
   rw [decide_eq_false_iff_not] at hr
   rw [cond_false]
   have hrl := room_le h
   have hel := enc_len hc (r := atR r L.tail) hl
   have hok := (cG hc (r := atR r L.tail) hl)
   have hlsn : ((L.tail : Nat) : Int) ≤ 4611686018427387904 := by
    have := (hok.1.nums ((atR r L.tail).lsn) (by unfold rNums; simp)).2
    exact this
   have h1 := h.st; have h2 := h.bs; have h3 := h.n4; have h4 := h.big; have h5 := h.res
   have hbl := baseOf_le h1.1
   rw [← h2] at hbl
   unfold room at hr
   unfold tail at hr hlsn h1
   generalize hE : (rEnc (atR r L.tail)).1 = E at hr hel
   refine ⟨h.n4, h.big, h.bs, ⟨h1.1, h1.2.1, ?_⟩, ?_, ?_, fun _ => ?_, h.res, ?_⟩
   ·show L.last ≤ L.base + (L.kept ++ E).length
    rw [List.length_append]; omega
   ·show (L.kept ++ E).length ≤ _
    rw [List.length_append]; omega
   ·show L.base + (L.kept ++ E).length ≤ _
    rw [List.length_append]; omega
   ·show L.base + (L.kept ++ E).length ≤ _
    rw [List.length_append]; omega
   ·intro p hp
    have hnd : ∀ q ∈ gu L.recs (L.tail : Int) (atR r L.tail), q ∈ L.recs ∨ q = ((L.tail : Int), atR r L.tail) := by
     intro q hq
     have hg : getD L.recs ((L.tail : Nat) : Int) = none := by
      rw [bz]
      intro hm
      obtain ⟨x, hx, hxe⟩ := List.mem_map.1 hm
      have := (h.ok x hx).2.2.2.2
      omega
     rw [dh _ _ _ hg] at hq
     simpa using hq
    show p.2.lsn = p.1 ∧ _ ∧ _ ∧ _ ∧ p.1 < ((L.base + (L.kept ++ E).length : Nat) : Int)
    rcases hnd p hp with hp | rfl
    ·obtain ⟨q1, q2, q3, q4, q5⟩ := h.ok p hp
     unfold tail at q5
     refine ⟨q1, q2, q3, q4, ?_⟩
     rw [List.length_append]; omega
    ·refine ⟨rfl, hc, hl, ?_, ?_⟩
     ·show (L.start : Int) ≤ (L.tail : Int)
      unfold tail; omega
     ·show (L.tail : Int) < _
      unfold tail; rw [List.length_append]; omega
theorem Wf.reserve {L : Lg} (h : L.Wf) (k : Int) : (L.reserve k).1.Wf := by
 unfold Lg.reserve
 cases h1 : decide (k < 0) with
 | true => exact h
 | false =>
  cases h2 : decide (L.room < k) with
  | true => exact h
  | false =>
   rw [decide_eq_false_iff_not] at h1 h2
   have h3 := room_le h
   have h4 := h.st; have h5 := h.big; have h6 := h.res
   unfold room at h2
   refine ⟨h.n4, h.big, h.bs, h.st, h.small, h.low, h.hi, ?_, h.ok⟩
   show 0 ≤ L.res + k ∧ L.res + k ≤ 4000000
   omega
theorem Wf.release {L : Lg} (h : L.Wf) (k : Int) : (L.release k).1.Wf := by
 unfold Lg.release
 cases h1 : decide (k < 0) || decide (L.res < k) with
 | true => exact h
 | false =>
  rw [Bool.or_eq_false_iff, decide_eq_false_iff_not, decide_eq_false_iff_not] at h1
  have h6 := h.res
  refine ⟨h.n4, h.big, h.bs, h.st, h.small, h.low, h.hi, ?_, h.ok⟩
  show 0 ≤ L.res - k ∧ L.res - k ≤ 4000000
  omega
theorem Wf.last {L : Lg} (h : L.Wf) : ({ L with last := L.tail } : Lg).Wf :=
 ⟨h.n4, h.big, h.bs, ⟨h.st.1, Nat.le_trans h.st.2.1 h.st.2.2, Nat.le_refl _⟩, h.small, h.low, fun e => absurd e (Nat.lt_irrefl _), h.res, h.ok⟩
theorem ls {L : Lg} (h : L.Wf) (b : Int) : (L.recycle b).1.tail = L.tail ∧ (L.recycle b).1.frm = L.frm ∧ (L.recycle b).1.n = L.n ∧ (L.recycle b).1.last = L.last ∧ (L.recycle b).1.res = L.res := by
 unfold Lg.recycle
 cases hc : decide (b < (L.start : Int)) || (decide ((L.last : Int) < b) || ((getD L.recs b).isNone && !decide (b = (L.tail : Int)))) with
 | true => exact ⟨rfl, rfl, rfl, rfl, rfl⟩
 | false =>
  rw [Bool.or_eq_false_iff, Bool.or_eq_false_iff, decide_eq_false_iff_not, decide_eq_false_iff_not] at hc
  obtain ⟨h1, h2, _⟩ := hc
  have h3 := h.st
  have h4 := baseOf_le h3.1
  have h5 := baseOf_le (b := b.toNat) (by omega)
  have h6 : baseOf L.start ≤ baseOf b.toNat := by unfold baseOf; omega
  have h7 := h.bs
  refine ⟨?_, rfl, rfl, rfl, rfl⟩
  show baseOf b.toNat + (L.kept.drop (baseOf b.toNat - L.base)).length = L.base + L.kept.length
  unfold tail at h3
  rw [List.length_drop]; omega
theorem Wf.recycle {L : Lg} (h : L.Wf) (b : Int) : (L.recycle b).1.Wf := by
 have ht := (ls h b).1
 unfold Lg.recycle at ht ⊢
 cases hc : decide (b < (L.start : Int)) || (decide ((L.last : Int) < b) || ((getD L.recs b).isNone && !decide (b = (L.tail : Int)))) with
 | true => exact h
 | false =>
  rw [hc, cond_false] at ht
  rw [Bool.or_eq_false_iff, Bool.or_eq_false_iff, decide_eq_false_iff_not, decide_eq_false_iff_not] at hc
  obtain ⟨h1, h2, _⟩ := hc
  have h3 := h.st
  have h8 := h.small
  have h9 := h.low
  rw [cond_false]
  refine ⟨h.n4, h.big, rfl, ⟨?_, ?_, ?_⟩, ?_, by rw [ht]; exact h9, by rw [ht]; exact h.hi, h.res, ?_⟩
  ·show 1 ≤ b.toNat
   omega
  ·show b.toNat ≤ L.last
   omega
  ·rw [ht]; exact h3.2.2
  ·show (L.kept.drop _).length ≤ _
   rw [List.length_drop]; omega
  ·intro p hp
   obtain ⟨hp1, hp2⟩ := List.mem_filter.1 hp
   obtain ⟨q1, q2, q3, q4, q5⟩ := h.ok p hp1
   rw [decide_eq_true_eq] at hp2
   refine ⟨q1, q2, q3, ?_, by rw [ht]; exact q5⟩
   show ((b.toNat : Nat) : Int) ≤ p.1
   omega
theorem blk_len (k : Nat) : (fI k).length = 4 := aw _ _
theorem bytes_len (L : Lg) (k : Nat) : (L.bytes k).length ≤ 54 := by unfold bytes; rw [List.length_take]; omega
theorem zeros_len' (n : Nat) : (aG n).length = n := by simp [aG]
theorem seal_len {b : Bs} (h : b.length ≤ 54) (k : Nat) : (bd k b).length = 64 := by
 unfold bd
 simp only [List.length_append, blk_len, zeros_len', List.length_cons, List.length_nil]
 omega
theorem opened_seal {b : Bs} (h : b.length ≤ 54) (k : Nat) : opened (bd k b) k = b := by
 have h4 := blk_len k
 have e1 : (bd k b).take 4 = fI k := by unfold bd; exact List.take_left' h4
 have e2 : (bd k b).drop 60 = fI k := by
  have : bd k b = (fI k ++ ([UInt8.ofNat b.length] ++ (b ++ (aG (54 - b.length) ++ [UInt8.ofNat b.length])))) ++ fI k := by unfold bd; simp
  rw [this]
  refine List.drop_left' ?_
  simp only [List.length_append, blk_len, zeros_len', List.length_cons, List.length_nil]; omega
 have e3 : (bd k b).getD 4 0 = UInt8.ofNat b.length := by
  unfold bd
  rw [List.getD_eq_getElem?_getD, List.getElem?_append_right (by omega), h4]; rfl
 have e4 : (bd k b).getD 59 0 = UInt8.ofNat b.length := by
  have : bd k b = (fI k ++ ([UInt8.ofNat b.length] ++ (b ++ aG (54 - b.length)))) ++ ([UInt8.ofNat b.length] ++ fI k) := by unfold bd; simp
  rw [this]
  have hl : (fI k ++ ([UInt8.ofNat b.length] ++ (b ++ aG (54 - b.length)))).length = 59 := by
   simp only [List.length_append, blk_len, zeros_len', List.length_cons, List.length_nil]; omega
  rw [List.getD_eq_getElem?_getD, List.getElem?_append_right (by omega), hl]; rfl
 have e5 : (UInt8.ofNat b.length).toNat = b.length := by rw [UInt8.toNat_ofNat']; omega
 have e6 : (bd k b).drop 5 = b ++ (aG (54 - b.length) ++ ([UInt8.ofNat b.length] ++ fI k)) := by
  have : bd k b = (fI k ++ [UInt8.ofNat b.length]) ++ (b ++ (aG (54 - b.length) ++ ([UInt8.ofNat b.length] ++ fI k))) := by unfold bd; simp
  rw [this]
  exact List.drop_left' (by simp [h4])
 unfold opened
 rw [e1, e2, e3, e4, e5, e6]
 simp only [decide_true, Bool.and_self, cond_true, Nat.min_self]
 rw [Nat.min_eq_left h]
 exact List.take_left' rfl
structure Calm (d : Dk) : Prop where
 wf : d.Wf
 ar : d.armed = 0
 on : d.gone = false
theorem Calm.tick {d : Dk} (h : Calm d) : d.tick = { d with done := IntKind.i64.wrap (d.done + 1) } := by unfold Dk.tick; rw [if_neg (by rw [h.ar]; omega)]
theorem Calm.wr {l : List Bs} (hl : ∀ x ∈ l, x.length = 64) : ∀ {d : Dk}, Calm d → ∀ i, (d.wr i l).2 = 0 ∧ Calm (d.wr i l).1 ∧ (d.wr i l).1.cur.length = d.cur.length := by
 induction l with
 | nil => intro d h i; exact ⟨rfl, h, rfl⟩
 | cons x l ih =>
  intro d h i
  have hp : Calm (d.put i x) := ⟨h.wf.put i (hl x (by simp)), h.ar, h.on⟩
  have ht := hp.tick
  have hc : Calm (d.put i x).tick := ⟨hp.wf.tick, by rw [ht]; exact hp.ar, by rw [ht]; exact hp.on⟩
  rw [Dk.wr]
  simp only [hc.on, cond_false]
  obtain ⟨h1, h2, h3⟩ := ih (fun y hy => hl y (by simp [hy])) hc (i + 1)
  refine ⟨h1, h2, ?_⟩
  rw [h3, (Dk.tick_cur _).1]; simp [Dk.put]
theorem Calm.write {d : Dk} (h : Calm d) {a : Nat} {s : Bs} (hs : s.length % 64 = 0) (ha : a + s.length / 64 ≤ d.cur.length) : (d.write (a : Int) s).2 = 0 ∧ Calm (d.write (a : Int) s).1 ∧ (d.write (a : Int) s).1.cur.length = d.cur.length := by
 have e : d.write (a : Int) s = d.wr a (Dk.chunks (s.length / 64) s) := by
  unfold Dk.write
  have h1 : d.has (a : Int) ((s.length / 64 : Nat) : Int) = true := by unfold Dk.has; rw [decide_eq_true_eq]; omega
  rw [h.on, h1]
  simp [hs]
 rw [e]
 exact Calm.wr (Dk.chunks_64 (by omega)) h a
theorem Calm.sync {d : Dk} (h : Calm d) : d.sync.2 = 0 ∧ Calm d.sync.1 ∧ d.sync.1.cur.length = d.cur.length := by
 obtain ⟨h1, h2, h3, h4, h5⟩ := Dk.sync_calm h.ar h.on
 exact ⟨h1, ⟨h.wf.sync, h5, h4⟩, by rw [h2]⟩
end Lg
def Held (w : World) (P : Nat → Prop) (cs : Array Value) (r : Rc) : Prop := ∀ w', Fm (fun y => ¬ P y) w w' → RcAs w' cs r
theorem Held.now {w : World} {P : Nat → Prop} {cs : Array Value} {r : Rc} (h : Held w P cs r) : RcAs w cs r := h w (Fm.refl _ _)
theorem Held.keep {S P : Nat → Prop} {w w1 : World} {cs : Array Value} {r : Rc} (h : Held w P cs r) (hf : Fm S w w1) (hs : ∀ y, P y → ¬ S y) : Held w1 P cs r := fun w' h' => h w' (hf.trans h' (fun x _ hx hp => hs x hp hx) (fun _ _ e => e))
theorem Held.mono {P Q : Nat → Prop} {w : World} {cs : Array Value} {r : Rc} (h : Held w P cs r) (hPQ : ∀ y, P y → Q y) : Held w Q cs r := fun w' h' => h w' (h'.mono (fun x _ hx hp => hx (hPQ x hp)))
theorem RdOk.held {w : World} {b : Nat} {cs : Array Value} {r : Rc} (h : RdOk w b cs (some r)) : Held w (fun y => b ≤ y ∧ y < w.heap.size) cs r := by
 obtain ⟨vs, vm, vi, vp, vt, rfl, h1, h2⟩ := h
 intro w' hf
 refine (h1.keep (S := fun y => y < w.heap.size ∧ y < b) ?_ (fun y e => e.2)).asR h2
 exact ⟨hf.os, hf.tape, hf.output, hf.size, fun y hy hn => hf.block y hy (fun e => e ⟨by omega, hy⟩)⟩
theorem RcAs.atR {w : World} {r : Rc} {vs vm vi vp vt : Value} (h : RcAs w (rcs r vs vm vi vp vt) r) {k : Nat} (hk : k ≤ 9223372036854775807) : RcAs w (rcs (atR r k) vs vm vi vp vt) (atR r k) := by
 obtain ⟨as_, am, ai, ap, at_, h1, h2, h3, h4, h5, h6, h7⟩ := h.ex
 have e : (rcs r vs vm vi vp vt).toList = (rcs r as_ am ai ap at_).toList := by rw [h1]
 simp only [rcs, List.cons.injEq, true_and, and_true] at e
 obtain ⟨rfl, rfl, rfl, rfl, rfl⟩ := e
 refine ⟨⟨_, _, _, _, _, rfl, h2, h3, h4, h5, h6, h7⟩, ?_, h.kin, h.data, h.bulk, h.lsns⟩
 intro n hn
 have hins := h.ins
 unfold rNums at hn hins
 simp only [List.mem_append, List.mem_cons] at hn hins
 have e1 : ((Go.Proofs.YthbngnlmgplijaaGreatDoor.atR r k).prev = r.prev) := rfl
 rcases hn with ((((((rfl | hn) | hn) | hn) | hn) | hn) | hn)
 ·show In (k : Int)
  unfold In; omega
 ·exact hins n (.inl (.inl (.inl (.inl (.inl (.inr hn))))))
 ·exact hins n (.inl (.inl (.inl (.inl (.inr hn)))))
 ·exact hins n (.inl (.inl (.inl (.inr hn))))
 ·exact hins n (.inl (.inl (.inr hn)))
 ·exact hins n (.inl (.inr hn))
 ·exact hins n (.inr hn)
theorem uc : KeyT prog 130 3 28 iv := nz Tryz.underlying130 Tryz.underlying3
def lgc (db mb : Nat) (kv : Value) (L : Lg) : Array Value := #[pv db, iv (L.frm : Int), iv (L.n : Int), iv (L.base : Int), kv, iv (L.start : Int), iv (L.last : Int), iv L.res, .map (some mb)]
theorem Fm.step {X S : Nat → Prop} {w w1 w2 : World} (h : Fm X w w1) (k : Fm S w1 w2) (hs : ∀ y, S y → X y ∨ w.heap.size ≤ y) : Fm X w w2 :=
 h.trans k (fun _ _ e => e) (fun x hx e => by rcases hs x e with q | q; exact q; omega)
structure LIn (w : World) (X P : Nat → Prop) (lb db mb : Nat) (kv : Value) (M : List (Int × Array Value)) (L : Lg) : Prop where
 st : w.heap[lb]? = some (.cells (lgc db mb kv L) 132)
 kp : KpAt w 5 kv L.kept
 mp : MapAt w mb iv Value.agg M
 keys : M.map (·.1) = L.recs.map (·.1)
 rec_ : ∀ k cs, (k, cs) ∈ M → ∃ r, (k, r) ∈ L.recs ∧ Held w P cs r
 xs : X lb ∧ X mb ∧ (∀ y, kv.ownBlock = some y → X y) ∧ ∀ y, P y → X y
 ps : ¬ P lb ∧ ¬ P mb ∧ ∀ y, kv.ownBlock = some y → ¬ P y
 lt : ∀ y, X y → y < w.heap.size
section
variable {w w' : World} {X P S : Nat → Prop} {lb db mb : Nat} {kv : Value} {M : List (Int × Array Value)} {L L' : Lg}
theorem LIn.keep (h : LIn w X P lb db mb kv M L) (hf : Fm S w w') (hS : ∀ y, X y → ¬ S y) : LIn w' X P lb db mb kv M L :=
 ⟨hf.heap h.st (hS _ h.xs.1), h.kp.keep hf (fun y hy => hS y (h.xs.2.2.1 y hy)), h.mp.keep hf (hS _ h.xs.2.1), h.keys, fun k cs hm => by
  obtain ⟨r, h1, h2⟩ := h.rec_ k cs hm
  exact ⟨r, h1, h2.keep hf (fun y hy => hS y (h.xs.2.2.2 y hy))⟩, h.xs, h.ps, fun y hy => Nat.lt_of_lt_of_le (h.lt y hy) hf.size⟩
theorem LIn.keep0 (h : LIn w X P lb db mb kv M L) (hf : Fm (fun _ => False) w w') : LIn w' X P lb db mb kv M L := h.keep hf (fun _ _ e => e)
theorem LIn.nk (h : LIn w X P lb db mb kv M L) : kv.ownBlock ≠ some lb := h.kp.neT h.st (by decide)
theorem LIn.nm (h : LIn w X P lb db mb kv M L) : mb ≠ lb := by
 rintro rfl
 obtain ⟨es, c, hb, _⟩ := h.mp.ex
 rw [h.st] at hb; cases hb
theorem LIn.km (h : LIn w X P lb db mb kv M L) : kv.ownBlock ≠ some mb := by
 obtain ⟨es, c, hb, _⟩ := h.mp.ex
 exact h.kp.neM hb
theorem LIn.upd (h : LIn w X P lb db mb kv M L) (hst : w'.heap[lb]? = some (.cells (lgc db mb kv L') 132)) (hf : Fm (· = lb) w w') (e1 : L'.kept = L.kept) (e2 : L'.recs = L.recs) : LIn w' X P lb db mb kv M L' :=
 ⟨hst, by rw [e1]; exact h.kp.keep hf (fun y hy e => h.nk (by rw [hy, e])), h.mp.keep hf h.nm, by rw [e2]; exact h.keys, fun k cs hm => by
  obtain ⟨r, h1, h2⟩ := h.rec_ k cs hm
  exact ⟨r, by rw [e2]; exact h1, h2.keep hf (fun y hy e => h.ps.1 (by rw [← e]; exact hy))⟩, h.xs, h.ps, fun y hy => Nat.lt_of_lt_of_le (h.lt y hy) hf.size⟩
theorem LIn.c0 (h : LIn w X P lb db mb kv M L) : w.cell? ⟨lb, 0, none⟩ = some (pv db) := by rw [ag h.st]; rfl
theorem LIn.c1 (h : LIn w X P lb db mb kv M L) : w.cell? ⟨lb, 1, none⟩ = some (iv (L.frm : Int)) := by rw [ag h.st]; rfl
theorem LIn.c2 (h : LIn w X P lb db mb kv M L) : w.cell? ⟨lb, 2, none⟩ = some (iv (L.n : Int)) := by rw [ag h.st]; rfl
theorem LIn.c3 (h : LIn w X P lb db mb kv M L) : w.cell? ⟨lb, 3, none⟩ = some (iv (L.base : Int)) := by rw [ag h.st]; rfl
theorem LIn.c4 (h : LIn w X P lb db mb kv M L) : w.cell? ⟨lb, 4, none⟩ = some kv := by rw [ag h.st]; rfl
theorem LIn.c5 (h : LIn w X P lb db mb kv M L) : w.cell? ⟨lb, 5, none⟩ = some (iv (L.start : Int)) := by rw [ag h.st]; rfl
theorem LIn.c6 (h : LIn w X P lb db mb kv M L) : w.cell? ⟨lb, 6, none⟩ = some (iv (L.last : Int)) := by rw [ag h.st]; rfl
theorem LIn.c7 (h : LIn w X P lb db mb kv M L) : w.cell? ⟨lb, 7, none⟩ = some (iv L.res) := by rw [ag h.st]; rfl
theorem LIn.c8 (h : LIn w X P lb db mb kv M L) : w.cell? ⟨lb, 8, none⟩ = some (.map (some mb)) := by rw [ag h.st]; rfl
end
structure LAt (w : World) (X : Nat → Prop) (lb db : Nat) (L : Lg) : Prop where
 wf : L.Wf
 ex : ∃ P mb kv M, LIn w X P lb db mb kv M L
theorem LAt.keep {w w' : World} {X S : Nat → Prop} {lb db : Nat} {L : Lg} (h : LAt w X lb db L) (hf : Fm S w w') (hS : ∀ y, X y → ¬ S y) : LAt w' X lb db L := by
 obtain ⟨P, mb, kv, M, hi⟩ := h.ex
 exact ⟨h.wf, P, mb, kv, M, hi.keep hf hS⟩
theorem LAt.keep0 {w w' : World} {X : Nat → Prop} {lb db : Nat} {L : Lg} (h : LAt w X lb db L) (hf : Fm (fun _ => False) w w') : LAt w' X lb db L := h.keep hf (fun _ _ e => e)
theorem LAt.lt {w : World} {X : Nat → Prop} {lb db : Nat} {L : Lg} (h : LAt w X lb db L) : ∀ y, X y → y < w.heap.size := by
 obtain ⟨P, mb, kv, M, hi⟩ := h.ex
 exact hi.lt
theorem LAt.lb {w : World} {X : Nat → Prop} {lb db : Nat} {L : Lg} (h : LAt w X lb db L) : X lb := by
 obtain ⟨P, mb, kv, M, hi⟩ := h.ex
 exact hi.xs.1
section
variable {w : World} {X : Nat → Prop} {lb db : Nat} {L : Lg}
theorem cr (h : LAt w X lb db L) : Cl prog 20 [pv lb] w fun v w' => v = iv (L.tail : Int) ∧ Fm (fun _ => False) w w' := by
 obtain ⟨P, mb, kv, M, hi⟩ := h.ex
 have hl := h.wf.low
 refine c20 ?_; unfold T20
 have e1 : IntKind.i64.wrap ((L.base : Int) + (L.kept.length : Int)) = (L.tail : Int) := by
  unfold Lg.tail at hl ⊢
  rw [ab] <;> omega
 simp only [RS, hi.c3, hi.c4, hi.kp.lenV, e1, true_and]
 exact Fm.drew _ _
theorem mu (h : LAt w X lb db L) : Cl prog 24 [pv lb] w fun v w' => v = iv (L.start : Int) ∧ Fm (fun _ => False) w w' := by
 obtain ⟨P, mb, kv, M, hi⟩ := h.ex
 refine c24 ?_; unfold T24
 simp only [RS, hi.c5]
 exact ⟨(by trivial), Fm.refl _ _⟩
theorem jW (h : LAt w X lb db L) : Cl prog 27 [pv lb] w fun v w' => v = iv (L.last : Int) ∧ Fm (fun _ => False) w w' := by
 obtain ⟨P, mb, kv, M, hi⟩ := h.ex
 refine c27 ?_; unfold T27
 simp only [RS, hi.c6]
 exact ⟨(by trivial), Fm.refl _ _⟩
theorem ey (h : LAt w X lb db L) : Cl prog 19 [pv lb] w fun v w' => v = iv L.room ∧ Fm (fun _ => False) w w' := by
 obtain ⟨P, mb, kv, M, hi⟩ := h.ex
 have h1 := h.wf.st; have h2 := h.wf.big; have h3 := h.wf.res; have h4 := h.wf.small; have h5 := h.wf.bs; have h6 := h.wf.n4
 have hb := Lg.baseOf_le h1.1
 rw [← h5] at hb
 have ht : L.tail = L.base + L.kept.length := rfl
 have e1 : IntKind.i64.wrap ((L.n : Int) - 2) = (L.n : Int) - 2 := by rw [ab]; omega
 have e2 : IntKind.i64.wrap (54 * ((L.n : Int) - 2)) = 54 * ((L.n : Int) - 2) := by rw [ab]; omega
 have e3 : IntKind.i64.wrap ((L.tail : Int) - (L.start : Int)) = (L.tail : Int) - (L.start : Int) := by rw [ab]; omega
 have e4 : IntKind.i64.wrap (54 * ((L.n : Int) - 2) - ((L.tail : Int) - (L.start : Int))) = 54 * ((L.n : Int) - 2) - ((L.tail : Int) - (L.start : Int)) := by rw [ab]; omega
 have e5 : IntKind.i64.wrap (54 * ((L.n : Int) - 2) - ((L.tail : Int) - (L.start : Int)) - L.res) = L.room := by unfold Lg.room; rw [ab]; omega
 have hC : ∀ {w' : World}, Fm (fun _ => False) w w' → LIn w' X P lb db mb kv M L := fun hf => hi.keep0 hf
 have hfd := Fm.drew (fun _ => False) w
 refine c19 ?_; unfold T19
 simp only [RS]
 refine ⟨fun w' => LIn w' X P lb db mb kv M L, hC hfd, ?_⟩
 refine ⟨iv (L.n : Int), fun w' h' => ?_, ?_⟩
 ·simp only [RS, h'.c2] <;> trivial
 simp only [RS, e1, e2]
 refine ⟨iv (L.start : Int), fun w' h' => ?_, ?_⟩
 ·simp only [RS, h'.c5] <;> trivial
 refine ⟨iv L.res, fun w' h' => ?_, ?_⟩
 ·simp only [RS, h'.c7] <;> trivial
 refine (cr (h.keep0 hfd)).mono ?_
 rintro _ w2 ⟨rfl, hf2⟩
 refine ⟨hC (Fmf hfd hf2), ?_⟩
 simp only [RS, e3, e4, e5]
 exact ⟨(by trivial), Fmf hfd hf2⟩
theorem jG (h : LAt w X lb db L) (k : Int) : Cl prog 22 [pv lb, iv k] w fun v w' => v = iv (L.reserve k).2 ∧ LAt w' X lb db (L.reserve k).1 ∧ Fm (· = lb) w w' := by
 have hwf := h.wf.reserve k
 unfold Lg.reserve at hwf ⊢
 refine c22 ?_; unfold T22
 cases h1 : decide (k < 0) with
 | true =>
  simp only [RS, h1, cond_true]
  exact ⟨(by trivial), h, Fm.refl _ _⟩
 | false =>
 rw [h1] at hwf
 simp only [RS, h1, cond_false]
 refine (ey h).mono ?_
 rintro _ w2 ⟨rfl, hf2⟩
 have h' := h.keep0 hf2
 cases h2 : decide (L.room < k) with
 | true =>
  simp only [RS, h2, cond_true]
  exact ⟨(by trivial), h', hf2.mono (fun _ _ e => e.elim)⟩
 | false =>
 rw [h2] at hwf
 obtain ⟨P, mb, kv, M, hi⟩ := h'.ex
 have hrl := Lg.room_le h.wf
 have hrs := h.wf.res
 rw [decide_eq_false_iff_not] at h1 h2
 have e1 : IntKind.i64.wrap (L.res + k) = L.res + k := by rw [ab]; omega
 have h2' : decide (L.room < k) = false := by simpa using h2
 simp only [RS, h2', cond_false, hi.c7, e1]
 refine ay hi.st (by show 7 < 9; decide) rfl ?_
 intro w3 hw3 hs3 hf3
 exact ⟨(by trivial), ⟨hwf, P, mb, kv, M, hi.upd hw3 hf3 rfl rfl⟩, (hf2.mono (fun _ _ e => e.elim)).trans hf3 (fun _ _ e => e) (fun _ _ e => e)⟩
theorem jR (h : LAt w X lb db L) (k : Int) : Cl prog 23 [pv lb, iv k] w fun v w' => v = iv (L.release k).2 ∧ LAt w' X lb db (L.release k).1 ∧ Fm (· = lb) w w' := by
 have hwf := h.wf.release k
 unfold Lg.release at hwf ⊢
 obtain ⟨P, mb, kv, M, hi⟩ := h.ex
 refine c23 ?_; unfold T23
 cases h1 : decide (k < 0) with
 | true =>
  simp only [RS, h1, Bool.true_or, cond_true]
  exact ⟨(by trivial), h, Fm.refl _ _⟩
 | false =>
 cases h2 : decide (L.res < k) with
 | true =>
  simp only [RS, h1, h2, Bool.false_or, cond_true, hi.c7]
  exact ⟨(by trivial), h, Fm.refl _ _⟩
 | false =>
 rw [h1, h2] at hwf
 have hrs := h.wf.res
 rw [decide_eq_false_iff_not] at h1 h2
 have e1 : IntKind.i64.wrap (L.res - k) = L.res - k := by rw [ab]; omega
 have h1' : decide (k < 0) = false := by simpa using h1
 have h2' : decide (L.res < k) = false := by simpa using h2
 simp only [RS, h1', h2', Bool.or_self, cond_false, hi.c7, e1]
 refine ay hi.st (by show 7 < 9; decide) rfl ?_
 intro w3 hw3 hs3 hf3
 exact ⟨(by trivial), ⟨hwf, P, mb, kv, M, hi.upd hw3 hf3 rfl rfl⟩, hf3⟩
end
theorem xu {w : World} {g c : Nat} {cs : Array Value} {t : Value} (h : w.heap[g]? = some (.cells cs 28)) (hn : cs.size = 16) {k : KV} (hk : k (.agg cs) w) :
  bU (bF prog (fun j => bif Nat.beq j 2 then pv g else undef) w [(ResultVar.cell 2 28)]) w k := by
 simp only [bF, di (f := fun j => bif Nat.beq j 2 then pv g else undef) (a := 2) rfl mq gW h hn, bU, oH]
 exact hk
theorem jH {w : World} {cs : Array Value} {r : Rc} (h : RcAs w cs r) (hc : (rCheck r).2 = 0) : Cl prog 96 [.agg cs] w fun v w' => ∃ cs', v = .agg cs' ∧ Held w' (fun y => w.heap.size ≤ y ∧ y < w'.heap.size) cs' r ∧ Fm (fun _ => False) w w' := by
 refine c96 ?_; unfold T96
 refine ao ?_
 intro x1 w1 hx1 hs1 hw1 hf1
 refine ao ?_
 intro x2 w2 hx2 hs2 hw2 hf2
 have hF2 := Fmf hf1 hf2
 have hw1' := hf2.heap hw1 (fun e => e)
 simp only [RS, ax hw1' h.size]
 refine (kn (h.keep hF2)).mono ?_
 rintro _ w3 ⟨rfl, hf3⟩
 have hF3 := Fmf hF2 hf3
 have hel := Lg.enc_len hc h.lsns
 have hdb := gB hc h.lsns []
 rw [List.append_nil] at hdb
 simp only [RS]
 refine (ky w3 (rEnc r).1 (by omega)).mono ?_
 rintro _ w4 ⟨cs', rfl, hok, hf4⟩
 rw [hdb] at hok ⊢
 have hF4 := Fmf hF3 hf4
 have hheld := hok.held
 have hsz := hok.as.size
 have hone := hok.as.one
 simp only [RS]
 refine ao ?_
 intro x5 w5 hx5 hs5 hw5 hf5
 have z1 := hF2.size; have z3 := hf3.size; have z4 := hf4.size
 refine aB hw5 rfl hsz hone ?_
 intro w6 hw6 hs6 hf6
 simp only [RS, ax hw6 hsz]
 have hw2' := hf6.heap (hf5.heap (hf4.heap (hf3.heap hw2 (fun e => e)) (fun e => e)) (fun e => e)) (show ¬ x2 = x5 by omega)
 refine aB hw2' rfl hsz hone ?_
 intro w7 hw7 hs7 hf7
 refine xu (t := undef) (c := 0) hw7 hsz ?_
 have hF7 : Fm (fun _ => False) w w7 := Fm.own (Fm.own (Fmf hF4 hf5) hf6 (by rintro y rfl; omega)) hf7 (by rintro y rfl; omega)
 refine ⟨cs', rfl, ?_, hF7⟩
 have k5 := hheld.keep hf5 (fun _ _ e => e)
 have k6 := k5.keep hf6 (by rintro y hy rfl; omega)
 have k7 := k6.keep hf7 (by rintro y hy rfl; omega)
 refine k7.mono ?_
 rintro y ⟨q1, q2⟩
 omega
end Go.Proofs.YthbngnlmgplijaaGreatDoor
