/- An act on a disk and on the reference's: does, alike. -/
import Derived.Test.YthgdinjgdjiknaaDoes
namespace Go.Proofs.Ythgdinjgdjiknaa
open Go.Al Go.Proofs
set_option linter.unusedVariables false
set_option linter.unusedSimpArgs false
set_option linter.unusedSectionVars false
section
variable {w : World} {b g m bx : Nat} {q : RB} {d : Dk}

/-- The numbers: pending (twice), apart, acts, dead, size. -/
theorem does_numbers (h : Both w b g m bx q d) (k : KV) (hk : ∀ w', Both w' b g m bx q d → Fm (fun _ => False) w w' → k (.bool true) w') :
    Cl Try.prog 28 [pv b] w fun t96_94 w_95 =>
  Cl Try.prog 28 [pv b] w_95 fun t98_96 w_97 =>
  Cl Try.prog 66 [pv bx] w_97 fun t101_98 w_99 =>
  Cl Try.prog 65 [t96_94, t101_98] w_99 fun t102_100 w_101 =>
  Pu (unV .not t102_100) fun t103_102 =>
  Gd (isB false t103_102) (fun kk => kk t96_94 w_101) w_101 fun t105_103 w_104 =>
  Gd (isB false t103_102) (fun kk => kk t98_96 w_104) w_104 fun t106_105 w_106 =>
  Gd (isB false t103_102) (fun kk => RunS Try.prog (Instr.buildSlice 82 2 #[(0, t105_103), (1, t106_105)]) w_106 kk) w_106 fun t107_107 w_108 =>
  Gd (isB false t103_102) (fun kk => Cl Try.prog 67 [t107_107] w_108 kk) w_108 fun t108_109 w_110 =>
  Gd (isB false t103_102) (fun kk => Pu (unV .not t108_109) fun vv => kk vv w_110) w_110 fun t109_111 w_112 =>
  Pu (pickV t103_102 (Value.bool true) t109_111) fun t110_113 =>
  IfB t110_113
    (k (Value.bool false) w_112)
    (∃ C_114 : World → Prop, C_114 (World.drew w_112) ∧
  (Pu (nilV (pv bx)) fun t114_115 =>
  Pu (faV 5 t114_115) fun t115_116 =>
  ∃ t116_117, (∀ w_118, C_114 w_118 → Ld w_118 t115_116 fun t116_119 w_120 =>
  t116_119 = t116_117 ∧ w_120 = w_118) ∧
  (Cl Try.prog 30 [pv b] (World.drew w_112) fun t112_121 w_122 =>
  C_114 w_122 ∧
  (Pu (binV (TypeDesc.int IntKind.i64) .eql t112_121 t116_117) fun t117_123 =>
  Gd (isB true t117_123) (fun kk => kk (pv b) w_122) w_122 fun t119_124 w_125 =>
  Gd (isB true t117_123) (fun kk => kk (pv bx) w_125) w_125 fun t121_126 w_127 =>
  Gd (isB true t117_123) (fun kk => Pu (nilV t121_126) fun vv => kk vv w_127) w_127 fun t122_128 w_129 =>
  Gd (isB true t117_123) (fun kk => Pu (faV 4 t122_128) fun vv => kk vv w_129) w_129 fun t123_130 w_131 =>
  ∃ t124_132, (∀ w_133, C_114 w_133 → Gd (isB true t117_123) (fun kk => Ld w_133 t123_130 kk) w_133 fun t124_134 w_135 =>
  t124_134 = t124_132 ∧ w_135 = w_133) ∧
  (Gd (isB true t117_123) (fun kk => Cl Try.prog 27 [t119_124] w_131 kk) w_131 fun t120_136 w_137 =>
  C_114 w_137 ∧
  (Gd (isB true t117_123) (fun kk => Pu (binV TypeDesc.bool .eql t120_136 t124_132) fun vv => kk vv w_137) w_137 fun t125_138 w_139 =>
  Pu (pickV t117_123 t125_138 (Value.bool false)) fun t126_140 =>
  Gd (isB true t126_140) (fun kk => kk (pv b) w_139) w_139 fun t128_141 w_142 =>
  Gd (isB true t126_140) (fun kk => kk (pv bx) w_142) w_142 fun t130_143 w_144 =>
  Gd (isB true t126_140) (fun kk => Pu (nilV t130_143) fun vv => kk vv w_144) w_144 fun t131_145 w_146 =>
  Gd (isB true t126_140) (fun kk => Pu (faV 0 t131_145) fun vv => kk vv w_146) w_146 fun t132_147 w_148 =>
  ∃ t133_149, (∀ w_150, C_114 w_150 → Gd (isB true t126_140) (fun kk => Ld w_150 t132_147 kk) w_150 fun t133_151 w_152 =>
  t133_151 = t133_149 ∧ w_152 = w_150) ∧
  (Gd (isB true t126_140) (fun kk => Pu (lenV t133_149) fun vv => kk vv w_148) w_148 fun t134_153 w_154 =>
  Gd (isB true t126_140) (fun kk => Cl Try.prog 31 [t128_141] w_154 kk) w_154 fun t129_155 w_156 =>
  C_114 w_156 ∧
  (Gd (isB true t126_140) (fun kk => Pu (binV (TypeDesc.int IntKind.i64) .eql t129_155 t134_153) fun vv => kk vv w_156) w_156 fun t135_157 w_158 =>
  Pu (pickV t126_140 t135_157 (Value.bool false)) fun t136_159 =>
  k t136_159 w_158)))))))) := by
  have hpl := Dk.pend_len d
  have hn1 := h.p.wf.n1
  refine (pend_spec h.p).mono ?_
  rintro l1 w1 ⟨o1, -, hf1⟩
  have h1 := h.keep0 hf1
  refine (pend_spec h1.p).mono ?_
  rintro l2 w2 ⟨o2, -, hf2⟩
  have h2 := h1.keep0 hf2
  have o1' := own_keep o1 hf2 (fun _ _ _ _ e => e)
  refine (rpend_spec h2.r h2.p.wf).mono ?_
  rintro l3 w3 ⟨o3, hf3⟩
  have h3 := h2.keep0 hf3
  have o1'' := own_keep o1' hf3 (fun _ _ _ _ e => e)
  have o2'' := own_keep o2 hf3 (fun _ _ _ _ e => e)
  have cells : ∀ {base : Nat} {v : Value} {w : World}, w.ownsRow base 3 1 v d.pend.length (d.pend.map fun i => iv (i : Nat)) → CellsAt w v (d.pend.map fun i : Nat => (i : Int)).length 1 ((d.pend.map fun i : Nat => (i : Int)).map iv) := by
    intro base v w ho
    have := CellsAt.of_own ho
    rw [List.length_map, List.map_map]; exact this
  refine (sameints_spec (cells o1'') (cells o3)).mono ?_
  rintro _ w4 ⟨rfl, hf4⟩
  have h4 := h3.keep0 hf4
  have o1w := own_keep o1'' hf4 (fun _ _ _ _ e => e)
  have o2w := own_keep o2'' hf4 (fun _ _ _ _ e => e)
  obtain ⟨a1, k1, c1, rfl⟩ := own_val o1w
  obtain ⟨a2, k2, c2, rfl⟩ := own_val o2w
  simp only [Pu_some, extV_0, extV_1, extV_2, extV_3, nilV_ptr, nilV_fn, faV_ptr, lenV_sl, lenS_s, capV_sl, pickV_t, pickV_f, unV_not, unV_neg, isB_t, isB_f, isB_u, binV_add, binV_sub, binV_mul, binV_eql, binV_neq, binV_lss, binV_leq, binV_gtr, binV_geq, binV_seql, binV_sneq, binV_slss, binV_beql, binV_bneq, binV_peql, binV_pneq, add_add, add_none, Go.Al.add_zero, Nat.zero_add, Nat.add_zero, IfB_t, IfB_f, Gd_t, Gd_f, Ld_ptr, LdN_ptr, Option.isNone_some, Option.isNone_none, Option.isSome_some, Option.isSome_none, Bool.not_true, Bool.not_false, drew_cell, drew_heap, decide_true]
  refine RunS_ok (bs82 a1 a2 k1 k2 c1 c2 w4) ?_
  have hf5 := Fm.alloc (fun _ => False) w4 (.cells #[.slice a1 k1 c1, .slice a2 k2 c2] 34)
  have hr5 : VRow (w4.alloc (.cells #[.slice a1 k1 c1, .slice a2 k2 c2] 34)) w4.heap.size 34 ((List.range 2).map fun j => if j = 0 then .slice a1 k1 c1 else .slice a2 k2 c2) := alloc_new _ _
  generalize w4.alloc (.cells #[.slice a1 k1 c1, .slice a2 k2 c2] 34) = w5 at hf5 hr5
  have h5 := h4.keep0 hf5
  have z1 := hf1.size
  have z2 := hf2.size
  have z3 := hf3.size
  have z4 := hf4.size
  have z5 := hf5.size
  have o1v := own_keep o1w hf5 (fun _ _ _ _ e => e)
  have o2v := own_base (own_keep o2w hf5 (fun _ _ _ _ e => e)) z1
  have hlt1 := (own_keep o1 (Fm.refl (fun _ => False) w1) (fun _ _ _ _ e => e)).lt
  refine (apart_spec (base := w.heap.size) (n := fun _ => d.pend.length) (xs := fun _ => d.pend.map fun i => iv (i : Nat)) (m := 2) hr5 (by omega) ?_ ?_ (fun _ _ => by omega) (by omega)).mono ?_
  · intro j hj
    by_cases e : j = 0
    · simp only [e, if_true]; exact o1v
    · simp only [if_neg e]; exact o2v
  · intro j j' hj hj' hne g' hg hg'
    have k1 := fun g hg => (o1.lt g hg).2
    have k2 := fun g hg => (o2.lt g hg).1
    by_cases e : j = 0
    · have e' : ¬ j' = 0 := by omega
      simp only [e, if_true] at hg
      simp only [if_neg e'] at hg'
      have := k1 _ hg; have := k2 _ hg'; omega
    · have e' : j' = 0 := by omega
      simp only [if_neg e] at hg
      simp only [e', if_true] at hg'
      have := k1 _ hg'; have := k2 _ hg; omega
  rintro _ w6 ⟨rfl, hf6⟩
  have hF5 := Fmf (Fmf (Fmf (Fmf hf1 hf2) hf3) hf4) hf5
  have h6 := h5.keep hf6 (fun x hx e => by have := h.lt x hx; omega)
  have hF6 : Fm (fun _ => False) w w6 := Fm.own hF5 hf6 (fun _ e => e)
  have hfd := Fm.drew (fun _ => False) w6
  have h7 := h6.keep0 hfd
  simp only [Pu_some, extV_0, extV_1, extV_2, extV_3, nilV_ptr, nilV_fn, faV_ptr, lenV_sl, lenS_s, capV_sl, pickV_t, pickV_f, unV_not, unV_neg, isB_t, isB_f, isB_u, binV_add, binV_sub, binV_mul, binV_eql, binV_neq, binV_lss, binV_leq, binV_gtr, binV_geq, binV_seql, binV_sneq, binV_slss, binV_beql, binV_bneq, binV_peql, binV_pneq, add_add, add_none, Go.Al.add_zero, Nat.zero_add, Nat.add_zero, IfB_t, IfB_f, Gd_t, Gd_f, Ld_ptr, LdN_ptr, Option.isNone_some, Option.isNone_none, Option.isSome_some, Option.isSome_none, Bool.not_true, Bool.not_false, drew_cell, drew_heap]
  refine ⟨fun w' => RAt w' bx q d, h7.r, iv d.done, fun w' hw' => by simp only [Pu_some, extV_0, extV_1, extV_2, extV_3, nilV_ptr, nilV_fn, faV_ptr, lenV_sl, lenS_s, capV_sl, pickV_t, pickV_f, unV_not, unV_neg, isB_t, isB_f, isB_u, binV_add, binV_sub, binV_mul, binV_eql, binV_neq, binV_lss, binV_leq, binV_gtr, binV_geq, binV_seql, binV_sneq, binV_slss, binV_beql, binV_bneq, binV_peql, binV_pneq, add_add, add_none, Go.Al.add_zero, Nat.zero_add, Nat.add_zero, IfB_t, IfB_f, Gd_t, Gd_f, Ld_ptr, LdN_ptr, Option.isNone_some, Option.isNone_none, Option.isSome_some, Option.isSome_none, Bool.not_true, Bool.not_false, drew_cell, drew_heap, hw'.c5]; exact ⟨(by trivial), (by trivial)⟩, ?_⟩
  refine (acts_spec h7.p).mono ?_
  rintro _ _ ⟨rfl, rfl⟩
  refine ⟨h7.r, ?_⟩
  simp only [Pu_some, extV_0, extV_1, extV_2, extV_3, nilV_ptr, nilV_fn, faV_ptr, lenV_sl, lenS_s, capV_sl, pickV_t, pickV_f, unV_not, unV_neg, isB_t, isB_f, isB_u, binV_add, binV_sub, binV_mul, binV_eql, binV_neq, binV_lss, binV_leq, binV_gtr, binV_geq, binV_seql, binV_sneq, binV_slss, binV_beql, binV_bneq, binV_peql, binV_pneq, add_add, add_none, Go.Al.add_zero, Nat.zero_add, Nat.add_zero, IfB_t, IfB_f, Gd_t, Gd_f, Ld_ptr, LdN_ptr, Option.isNone_some, Option.isNone_none, Option.isSome_some, Option.isSome_none, Bool.not_true, Bool.not_false, drew_cell, drew_heap, beq_self_eq_true]
  refine ⟨.bool d.gone, fun w' hw' => by simp only [Pu_some, extV_0, extV_1, extV_2, extV_3, nilV_ptr, nilV_fn, faV_ptr, lenV_sl, lenS_s, capV_sl, pickV_t, pickV_f, unV_not, unV_neg, isB_t, isB_f, isB_u, binV_add, binV_sub, binV_mul, binV_eql, binV_neq, binV_lss, binV_leq, binV_gtr, binV_geq, binV_seql, binV_sneq, binV_slss, binV_beql, binV_bneq, binV_peql, binV_pneq, add_add, add_none, Go.Al.add_zero, Nat.zero_add, Nat.add_zero, IfB_t, IfB_f, Gd_t, Gd_f, Ld_ptr, LdN_ptr, Option.isNone_some, Option.isNone_none, Option.isSome_some, Option.isSome_none, Bool.not_true, Bool.not_false, drew_cell, drew_heap, hw'.c4]; exact ⟨(by trivial), (by trivial)⟩, ?_⟩
  refine (dead_spec h7.p).mono ?_
  rintro _ _ ⟨rfl, rfl⟩
  refine ⟨h7.r, ?_⟩
  simp only [Pu_some, extV_0, extV_1, extV_2, extV_3, nilV_ptr, nilV_fn, faV_ptr, lenV_sl, lenS_s, capV_sl, pickV_t, pickV_f, unV_not, unV_neg, isB_t, isB_f, isB_u, binV_add, binV_sub, binV_mul, binV_eql, binV_neq, binV_lss, binV_leq, binV_gtr, binV_geq, binV_seql, binV_sneq, binV_slss, binV_beql, binV_bneq, binV_peql, binV_pneq, add_add, add_none, Go.Al.add_zero, Nat.zero_add, Nat.add_zero, IfB_t, IfB_f, Gd_t, Gd_f, Ld_ptr, LdN_ptr, Option.isNone_some, Option.isNone_none, Option.isSome_some, Option.isSome_none, Bool.not_true, Bool.not_false, drew_cell, drew_heap, beq_self_eq_true]
  refine ⟨_, fun w' hw' => by simp only [Pu_some, extV_0, extV_1, extV_2, extV_3, nilV_ptr, nilV_fn, faV_ptr, lenV_sl, lenS_s, capV_sl, pickV_t, pickV_f, unV_not, unV_neg, isB_t, isB_f, isB_u, binV_add, binV_sub, binV_mul, binV_eql, binV_neq, binV_lss, binV_leq, binV_gtr, binV_geq, binV_seql, binV_sneq, binV_slss, binV_beql, binV_bneq, binV_peql, binV_pneq, add_add, add_none, Go.Al.add_zero, Nat.zero_add, Nat.add_zero, IfB_t, IfB_f, Gd_t, Gd_f, Ld_ptr, LdN_ptr, Option.isNone_some, Option.isNone_none, Option.isSome_some, Option.isSome_none, Bool.not_true, Bool.not_false, drew_cell, drew_heap, hw'.c0]; exact ⟨rfl, (by trivial)⟩, ?_⟩
  simp only [Pu_some, extV_0, extV_1, extV_2, extV_3, nilV_ptr, nilV_fn, faV_ptr, lenV_sl, lenS_s, capV_sl, pickV_t, pickV_f, unV_not, unV_neg, isB_t, isB_f, isB_u, binV_add, binV_sub, binV_mul, binV_eql, binV_neq, binV_lss, binV_leq, binV_gtr, binV_geq, binV_seql, binV_sneq, binV_slss, binV_beql, binV_bneq, binV_peql, binV_pneq, add_add, add_none, Go.Al.add_zero, Nat.zero_add, Nat.add_zero, IfB_t, IfB_f, Gd_t, Gd_f, Ld_ptr, LdN_ptr, Option.isNone_some, Option.isNone_none, Option.isSome_some, Option.isSome_none, Bool.not_true, Bool.not_false, drew_cell, drew_heap]
  refine (size_spec h7.p).mono ?_
  rintro _ _ ⟨rfl, rfl⟩
  refine ⟨h7.r, ?_⟩
  rw [h.p.wf.lo]
  simp only [Pu_some, extV_0, extV_1, extV_2, extV_3, nilV_ptr, nilV_fn, faV_ptr, lenV_sl, lenS_s, capV_sl, pickV_t, pickV_f, unV_not, unV_neg, isB_t, isB_f, isB_u, binV_add, binV_sub, binV_mul, binV_eql, binV_neq, binV_lss, binV_leq, binV_gtr, binV_geq, binV_seql, binV_sneq, binV_slss, binV_beql, binV_bneq, binV_peql, binV_pneq, add_add, add_none, Go.Al.add_zero, Nat.zero_add, Nat.add_zero, IfB_t, IfB_f, Gd_t, Gd_f, Ld_ptr, LdN_ptr, Option.isNone_some, Option.isNone_none, Option.isSome_some, Option.isSome_none, Bool.not_true, Bool.not_false, drew_cell, drew_heap, beq_self_eq_true]
  exact hk _ h7 (Fmf hF6 hfd)

theorem does_spec (h : Both w b g m bx q d) {w0 : World} {cs : List Value} {x : ActT} (hx0 : vAct.rel w0 cs x) (hF0 : Fm (fun _ => False) w0 w) (hm0 : ∀ y, bothM b g m bx q y → w0.heap.size ≤ y) :
    Cl Try.prog 18 [pv b, pv bx, .agg cs.toArray] w fun v w' => v = .bool true ∧ ∃ d', Both w' b g m bx q d' ∧ Fm (bothM b g m bx q) w w' ∧ d'.cur.length = d.cur.length := by
  obtain ⟨hv, rfl, hwr, har, hhow0⟩ := act_rel hx0
  have hhow := hhow0.keep hF0
  obtain ⟨what, at_, many, fill, odd, how, _⟩ := x
  simp only at hwr har hhow hhow0 ⊢
  clear hx0
  refine c18 ?_; unfold T18
  refine New_any ?_
  intro xa w1 hxa hs1 hw1 hf1
  replace hw1 : w1.heap[xa]? = some (.cells #[.int .u8 what, iv at_, iv many, iv fill, .bool odd, hv] 36) := hw1
  have h1 := h.keep0 hf1
  have hlt := h.lt
  have hxm : ∀ y, bothM b g m bx q y → y ≠ xa := fun y hy => by have := hlt y hy; omega
  have cell : ∀ {w2 : World}, Fm (bothM b g m bx q) w1 w2 → w2.heap[xa]? = some (.cells #[.int .u8 what, iv at_, iv many, iv fill, .bool odd, hv] 36) := fun hf => hf.heap hw1 (fun e => hxm _ e rfl)
  have c0 : w1.cell? ⟨xa, 0, none⟩ = some (.int .u8 what) := by rw [cell_at hw1]; rfl
  have e6 : binV (TypeDesc.int IntKind.u8) .rem (.int .u8 what) (.int .u8 6) = some (.int .u8 (what % 6)) := by
    rw [binV_rem, if_neg (by decide), Int.tmod_eq_emod_of_nonneg hwr.1]
  have hF1 : Fm (bothM b g m bx q) w w1 := hf1.mono fun _ _ e => e.elim
  have tr : ∀ {w2 : World}, Fm (bothM b g m bx q) w1 w2 → Fm (bothM b g m bx q) w w2 := fun hf => hF1.trans hf (fun _ _ e => e) (fun _ _ e => e)
  have b1 : ∀ {w2 : World}, w2.heap[xa]? = some (.cells #[.int .u8 what, iv at_, iv many, iv fill, .bool odd, hv] 36) → w2.cell? ⟨xa, 1, none⟩ = some (iv at_) := fun h => by rw [cell_at h]; rfl
  have b2 : ∀ {w2 : World}, w2.heap[xa]? = some (.cells #[.int .u8 what, iv at_, iv many, iv fill, .bool odd, hv] 36) → w2.cell? ⟨xa, 2, none⟩ = some (iv many) := fun h => by rw [cell_at h]; rfl
  have b5 : ∀ {w2 : World}, w2.heap[xa]? = some (.cells #[.int .u8 what, iv at_, iv many, iv fill, .bool odd, hv] 36) → w2.cell? ⟨xa, 5, none⟩ = some hv := fun h => by rw [cell_at h]; rfl
  have hb1 : ∀ {w2 : World}, Fm (bgm b g m) w1 w2 → Fm (bothM b g m bx q) w1 w2 := fun hf => hf.mono fun _ _ e => .inl e
  simp only [Pu_some, extV_0, extV_1, extV_2, extV_3, nilV_ptr, nilV_fn, faV_ptr, lenV_sl, lenS_s, capV_sl, pickV_t, pickV_f, unV_not, unV_neg, isB_t, isB_f, isB_u, binV_add, binV_sub, binV_mul, binV_eql, binV_neq, binV_lss, binV_leq, binV_gtr, binV_geq, binV_seql, binV_sneq, binV_slss, binV_beql, binV_bneq, binV_peql, binV_pneq, add_add, add_none, Go.Al.add_zero, Nat.zero_add, Nat.add_zero, IfB_t, IfB_f, Gd_t, Gd_f, Ld_ptr, LdN_ptr, Option.isNone_some, Option.isNone_none, Option.isSome_some, Option.isSome_none, Bool.not_true, Bool.not_false, drew_cell, drew_heap, c0, e6]
  by_cases k0 : what % 6 = 0
  · have z0 : (what % 6 == 0) = true := by rw [k0]; rfl
    have cv : cellsV w1 ⟨xa, 0, none⟩ 6 = some (.agg #[.int .u8 what, iv at_, iv many, iv fill, .bool odd, hv]) := by
      unfold cellsV
      have : ∀ i, i < 6 → w1.cell? ((⟨xa, 0, none⟩ : Addr).add i) = (#[.int .u8 what, iv at_, iv many, iv fill, .bool odd, hv] : Array Value)[i]? := fun i hi => by rw [add_none, Nat.zero_add, cell_at hw1]
      simp [cellsAt, this]
    simp only [Pu_some, extV_0, extV_1, extV_2, extV_3, nilV_ptr, nilV_fn, faV_ptr, lenV_sl, lenS_s, capV_sl, pickV_t, pickV_f, unV_not, unV_neg, isB_t, isB_f, isB_u, binV_add, binV_sub, binV_mul, binV_eql, binV_neq, binV_lss, binV_leq, binV_gtr, binV_geq, binV_seql, binV_sneq, binV_slss, binV_beql, binV_bneq, binV_peql, binV_pneq, add_add, add_none, Go.Al.add_zero, Nat.zero_add, Nat.add_zero, IfB_t, IfB_f, Gd_t, Gd_f, Ld_ptr, LdN_ptr, Option.isNone_some, Option.isNone_none, Option.isSome_some, Option.isSome_none, Bool.not_true, Bool.not_false, drew_cell, drew_heap, z0, cv]
    refine (data_spec w1 rfl).mono ?_
    rintro _ w2 ⟨s, rfl, hs, hf2⟩
    have h2 := h1.keep0 hf2
    have hw2 := hf2.heap hw1 (fun e => e)
    have hfd := Fm.drew (fun _ => False) w2
    have h2d := h2.keep0 hfd
    refine ⟨fun w' => w'.heap[xa]? = some (.cells #[.int .u8 what, iv at_, iv many, iv fill, .bool odd, hv] 36), hw2, ?_⟩
    simp only [Pu_some, extV_0, extV_1, extV_2, extV_3, nilV_ptr, nilV_fn, faV_ptr, lenV_sl, lenS_s, capV_sl, pickV_t, pickV_f, unV_not, unV_neg, isB_t, isB_f, isB_u, binV_add, binV_sub, binV_mul, binV_eql, binV_neq, binV_lss, binV_leq, binV_gtr, binV_geq, binV_seql, binV_sneq, binV_slss, binV_beql, binV_bneq, binV_peql, binV_pneq, add_add, add_none, Go.Al.add_zero, Nat.zero_add, Nat.add_zero, IfB_t, IfB_f, Gd_t, Gd_f, Ld_ptr, LdN_ptr, Option.isNone_some, Option.isNone_none, Option.isSome_some, Option.isSome_none, Bool.not_true, Bool.not_false, drew_cell, drew_heap, b1 hw2, true_and]
    refine ⟨iv at_, fun w' hw' => by simp only [Pu_some, extV_0, extV_1, extV_2, extV_3, nilV_ptr, nilV_fn, faV_ptr, lenV_sl, lenS_s, capV_sl, pickV_t, pickV_f, unV_not, unV_neg, isB_t, isB_f, isB_u, binV_add, binV_sub, binV_mul, binV_eql, binV_neq, binV_lss, binV_leq, binV_gtr, binV_geq, binV_seql, binV_sneq, binV_slss, binV_beql, binV_bneq, binV_peql, binV_pneq, add_add, add_none, Go.Al.add_zero, Nat.zero_add, Nat.add_zero, IfB_t, IfB_f, Gd_t, Gd_f, Ld_ptr, LdN_ptr, Option.isNone_some, Option.isNone_none, Option.isSome_some, Option.isSome_none, Bool.not_true, Bool.not_false, drew_cell, drew_heap, b1 hw']; exact ⟨(by trivial), (by trivial)⟩, ?_⟩
    refine (write_spec h2d.p at_ s (by omega)).mono ?_
    rintro _ w3 ⟨rfl, hD3, hf3⟩
    have hF13 : Fm (bothM b g m bx q) w1 w3 := ((hf2.trans hfd (fun _ _ e => e) (fun _ _ e => e)).trans hf3 (U := bothM b g m bx q) (fun _ _ e => e.elim) (fun _ _ e => .inl e))
    refine ⟨cell hF13, ?_⟩
    refine (rwrite_spec (h2d.r1 hf3) h2d.p.wf at_ s (by omega)).mono ?_
    rintro _ w4 ⟨rfl, hR4, hf4⟩
    obtain ⟨hB, hfB⟩ := h2d.step hD3 hf3 hR4 hf4
    have hF14 : Fm (bothM b g m bx q) w1 w4 := hF13.trans hf4 (fun _ _ e => e) (fun _ _ e => .inr e)
    refine ⟨cell hF14, ?_⟩
    simp only [Pu_some, extV_0, extV_1, extV_2, extV_3, nilV_ptr, nilV_fn, faV_ptr, lenV_sl, lenS_s, capV_sl, pickV_t, pickV_f, unV_not, unV_neg, isB_t, isB_f, isB_u, binV_add, binV_sub, binV_mul, binV_eql, binV_neq, binV_lss, binV_leq, binV_gtr, binV_geq, binV_seql, binV_sneq, binV_slss, binV_beql, binV_bneq, binV_peql, binV_pneq, add_add, add_none, Go.Al.add_zero, Nat.zero_add, Nat.add_zero, IfB_t, IfB_f, Gd_t, Gd_f, Ld_ptr, LdN_ptr, Option.isNone_some, Option.isNone_none, Option.isSome_some, Option.isSome_none, Bool.not_true, Bool.not_false, drew_cell, drew_heap, beq_self_eq_true]
    exact ⟨(by trivial), _, hB, tr hF14, Dk.write_len _ _ _⟩
  · have z0 : (what % 6 == 0) = false := by simpa using k0
    by_cases k1 : what % 6 = 1
    · have z1 : (what % 6 == 1) = true := by rw [k1]; rfl
      simp only [Pu_some, extV_0, extV_1, extV_2, extV_3, nilV_ptr, nilV_fn, faV_ptr, lenV_sl, lenS_s, capV_sl, pickV_t, pickV_f, unV_not, unV_neg, isB_t, isB_f, isB_u, binV_add, binV_sub, binV_mul, binV_eql, binV_neq, binV_lss, binV_leq, binV_gtr, binV_geq, binV_seql, binV_sneq, binV_slss, binV_beql, binV_bneq, binV_peql, binV_pneq, add_add, add_none, Go.Al.add_zero, Nat.zero_add, Nat.add_zero, IfB_t, IfB_f, Gd_t, Gd_f, Ld_ptr, LdN_ptr, Option.isNone_some, Option.isNone_none, Option.isSome_some, Option.isSome_none, Bool.not_true, Bool.not_false, drew_cell, drew_heap, z0, z1]
      refine (sync_spec h1.p).mono ?_
      rintro _ w3 ⟨rfl, hD3, hf3⟩
      refine (rsync_spec (h1.r1 hf3) h1.p.wf).mono ?_
      rintro _ w4 ⟨rfl, hR4, hf4⟩
      obtain ⟨hB, hfB⟩ := h1.step hD3 hf3 hR4 hf4
      simp only [Pu_some, extV_0, extV_1, extV_2, extV_3, nilV_ptr, nilV_fn, faV_ptr, lenV_sl, lenS_s, capV_sl, pickV_t, pickV_f, unV_not, unV_neg, isB_t, isB_f, isB_u, binV_add, binV_sub, binV_mul, binV_eql, binV_neq, binV_lss, binV_leq, binV_gtr, binV_geq, binV_seql, binV_sneq, binV_slss, binV_beql, binV_bneq, binV_peql, binV_pneq, add_add, add_none, Go.Al.add_zero, Nat.zero_add, Nat.add_zero, IfB_t, IfB_f, Gd_t, Gd_f, Ld_ptr, LdN_ptr, Option.isNone_some, Option.isNone_none, Option.isSome_some, Option.isSome_none, Bool.not_true, Bool.not_false, drew_cell, drew_heap, beq_self_eq_true]
      refine ⟨(by trivial), _, hB, tr hfB, ?_⟩
      unfold Dk.sync
      cases d.gone with
      | true => rfl
      | false =>
        simp only [cond_false]
        cases d.tick.gone with
        | true => exact congrArg _ (Dk.tick_cur d).1
        | false => exact congrArg _ (Dk.tick_cur d).1
    · have z1 : (what % 6 == 1) = false := by simpa using k1
      by_cases k2 : what % 6 = 2
      · have z2 : (what % 6 == 2) = true := by rw [k2]; rfl
        simp only [Pu_some, extV_0, extV_1, extV_2, extV_3, nilV_ptr, nilV_fn, faV_ptr, lenV_sl, lenS_s, capV_sl, pickV_t, pickV_f, unV_not, unV_neg, isB_t, isB_f, isB_u, binV_add, binV_sub, binV_mul, binV_eql, binV_neq, binV_lss, binV_leq, binV_gtr, binV_geq, binV_seql, binV_sneq, binV_slss, binV_beql, binV_bneq, binV_peql, binV_pneq, add_add, add_none, Go.Al.add_zero, Nat.zero_add, Nat.add_zero, IfB_t, IfB_f, Gd_t, Gd_f, Ld_ptr, LdN_ptr, Option.isNone_some, Option.isNone_none, Option.isSome_some, Option.isSome_none, Bool.not_true, Bool.not_false, drew_cell, drew_heap, z0, z1, z2, b1 hw1, b2 hw1]
        refine (read_spec h1.p _ _).mono ?_
        rintro _ w1 ⟨rfl, rfl⟩
        simp only [Pu_some, extV_0, extV_1, extV_2, extV_3, nilV_ptr, nilV_fn, faV_ptr, lenV_sl, lenS_s, capV_sl, pickV_t, pickV_f, unV_not, unV_neg, isB_t, isB_f, isB_u, binV_add, binV_sub, binV_mul, binV_eql, binV_neq, binV_lss, binV_leq, binV_gtr, binV_geq, binV_seql, binV_sneq, binV_slss, binV_beql, binV_bneq, binV_peql, binV_pneq, add_add, add_none, Go.Al.add_zero, Nat.zero_add, Nat.add_zero, IfB_t, IfB_f, Gd_t, Gd_f, Ld_ptr, LdN_ptr, Option.isNone_some, Option.isNone_none, Option.isSome_some, Option.isSome_none, Bool.not_true, Bool.not_false, drew_cell, drew_heap, b1 hw1, b2 hw1]
        refine (rread_spec h1.r h1.p.wf _ _).mono ?_
        rintro _ w2 ⟨rfl, hf2⟩
        simp only [Pu_some, extV_0, extV_1, extV_2, extV_3, nilV_ptr, nilV_fn, faV_ptr, lenV_sl, lenS_s, capV_sl, pickV_t, pickV_f, unV_not, unV_neg, isB_t, isB_f, isB_u, binV_add, binV_sub, binV_mul, binV_eql, binV_neq, binV_lss, binV_leq, binV_gtr, binV_geq, binV_seql, binV_sneq, binV_slss, binV_beql, binV_bneq, binV_peql, binV_pneq, add_add, add_none, Go.Al.add_zero, Nat.zero_add, Nat.add_zero, IfB_t, IfB_f, Gd_t, Gd_f, Ld_ptr, LdN_ptr, Option.isNone_some, Option.isNone_none, Option.isSome_some, Option.isSome_none, Bool.not_true, Bool.not_false, drew_cell, drew_heap, str_size, str_nil, str_inj, decide_true, beq_self_eq_true]
        exact ⟨(by trivial), d, h1.keep0 hf2, tr (hf2.mono fun _ _ e => e.elim), rfl⟩
      · have z2 : (what % 6 == 2) = false := by simpa using k2
        by_cases k3 : what % 6 = 3
        · have z3 : (what % 6 == 3) = true := by rw [k3]; rfl
          simp only [Pu_some, extV_0, extV_1, extV_2, extV_3, nilV_ptr, nilV_fn, faV_ptr, lenV_sl, lenS_s, capV_sl, pickV_t, pickV_f, unV_not, unV_neg, isB_t, isB_f, isB_u, binV_add, binV_sub, binV_mul, binV_eql, binV_neq, binV_lss, binV_leq, binV_gtr, binV_geq, binV_seql, binV_sneq, binV_slss, binV_beql, binV_bneq, binV_peql, binV_pneq, add_add, add_none, Go.Al.add_zero, Nat.zero_add, Nat.add_zero, IfB_t, IfB_f, Gd_t, Gd_f, Ld_ptr, LdN_ptr, Option.isNone_some, Option.isNone_none, Option.isSome_some, Option.isSome_none, Bool.not_true, Bool.not_false, drew_cell, drew_heap, z0, z1, z2, z3]
          have hfd := Fm.drew (fun _ => False) w1
          have h2d := h1.keep0 hfd
          refine ⟨fun w' => w'.heap[xa]? = some (.cells #[.int .u8 what, iv at_, iv many, iv fill, .bool odd, hv] 36), hw1, ?_⟩
          simp only [Pu_some, extV_0, extV_1, extV_2, extV_3, nilV_ptr, nilV_fn, faV_ptr, lenV_sl, lenS_s, capV_sl, pickV_t, pickV_f, unV_not, unV_neg, isB_t, isB_f, isB_u, binV_add, binV_sub, binV_mul, binV_eql, binV_neq, binV_lss, binV_leq, binV_gtr, binV_geq, binV_seql, binV_sneq, binV_slss, binV_beql, binV_bneq, binV_peql, binV_pneq, add_add, add_none, Go.Al.add_zero, Nat.zero_add, Nat.add_zero, IfB_t, IfB_f, Gd_t, Gd_f, Ld_ptr, LdN_ptr, Option.isNone_some, Option.isNone_none, Option.isSome_some, Option.isSome_none, Bool.not_true, Bool.not_false, drew_cell, drew_heap, b1 hw1, true_and]
          refine ⟨iv at_, fun w' hw' => by simp only [Pu_some, extV_0, extV_1, extV_2, extV_3, nilV_ptr, nilV_fn, faV_ptr, lenV_sl, lenS_s, capV_sl, pickV_t, pickV_f, unV_not, unV_neg, isB_t, isB_f, isB_u, binV_add, binV_sub, binV_mul, binV_eql, binV_neq, binV_lss, binV_leq, binV_gtr, binV_geq, binV_seql, binV_sneq, binV_slss, binV_beql, binV_bneq, binV_peql, binV_pneq, add_add, add_none, Go.Al.add_zero, Nat.zero_add, Nat.add_zero, IfB_t, IfB_f, Gd_t, Gd_f, Ld_ptr, LdN_ptr, Option.isNone_some, Option.isNone_none, Option.isSome_some, Option.isSome_none, Bool.not_true, Bool.not_false, drew_cell, drew_heap, b1 hw']; exact ⟨(by trivial), (by trivial)⟩, ?_⟩
          refine (arm_spec h2d.p har.2).mono ?_
          rintro _ w3 ⟨rfl, hD3, hf3⟩
          have hf3' : Fm (bgm b g m) w1.drew w3 := hf3.mono fun _ _ e => .inl e
          have hF13 : Fm (bothM b g m bx q) w1 w3 := hfd.trans hf3' (U := bothM b g m bx q) (fun _ _ e => e.elim) (fun _ _ e => .inl e)
          refine ⟨cell hF13, ?_⟩
          refine (rarm_spec (h2d.r1 hf3')).mono ?_
          rintro _ w4 ⟨rfl, hR4, hf4⟩
          obtain ⟨hB, hfB⟩ := h2d.step hD3 hf3' hR4 hf4
          have hF14 : Fm (bothM b g m bx q) w1 w4 := hF13.trans hf4 (fun _ _ e => e) (fun _ _ e => .inr e)
          refine ⟨cell hF14, ?_⟩
          simp only [Pu_some, extV_0, extV_1, extV_2, extV_3, nilV_ptr, nilV_fn, faV_ptr, lenV_sl, lenS_s, capV_sl, pickV_t, pickV_f, unV_not, unV_neg, isB_t, isB_f, isB_u, binV_add, binV_sub, binV_mul, binV_eql, binV_neq, binV_lss, binV_leq, binV_gtr, binV_geq, binV_seql, binV_sneq, binV_slss, binV_beql, binV_bneq, binV_peql, binV_pneq, add_add, add_none, Go.Al.add_zero, Nat.zero_add, Nat.add_zero, IfB_t, IfB_f, Gd_t, Gd_f, Ld_ptr, LdN_ptr, Option.isNone_some, Option.isNone_none, Option.isSome_some, Option.isSome_none, Bool.not_true, Bool.not_false, drew_cell, drew_heap, beq_self_eq_true]
          refine ⟨(by trivial), _, hB, tr hF14, ?_⟩
          unfold Dk.arm
          cases d.gone with
          | true => rfl
          | false =>
            simp only [cond_false]
            cases decide (at_ < 0) <;> rfl
        · have z3 : (what % 6 == 3) = false := by simpa using k3
          by_cases k4 : what % 6 = 4
          · have z4 : (what % 6 == 4) = true := by rw [k4]; rfl
            simp only [Pu_some, extV_0, extV_1, extV_2, extV_3, nilV_ptr, nilV_fn, faV_ptr, lenV_sl, lenS_s, capV_sl, pickV_t, pickV_f, unV_not, unV_neg, isB_t, isB_f, isB_u, binV_add, binV_sub, binV_mul, binV_eql, binV_neq, binV_lss, binV_leq, binV_gtr, binV_geq, binV_seql, binV_sneq, binV_slss, binV_beql, binV_bneq, binV_peql, binV_pneq, add_add, add_none, Go.Al.add_zero, Nat.zero_add, Nat.add_zero, IfB_t, IfB_f, Gd_t, Gd_f, Ld_ptr, LdN_ptr, Option.isNone_some, Option.isNone_none, Option.isSome_some, Option.isSome_none, Bool.not_true, Bool.not_false, drew_cell, drew_heap, z0, z1, z2, z3, z4, b5 hw1]
            obtain ⟨hhc, hhr, hhs⟩ := ints_in' hhow
            have hhc1 := hhc.keep hf1 (fun _ _ e => e)
            have hhc0 := hhc
            refine (lent_spec hhc1 hhs).mono ?_
            rintro _ w2 ⟨gl, cap, rfl, hcap, hcm, hgl, hpl, hf2⟩
            have h2 := h1.keep0 hf2
            have hz := hf1.size
            have hglm : ∀ y, bothM b g m bx q y → y ≠ gl := fun y hy => by have := hlt y hy; omega
            have hrun := PRow.run hpl (n := how.length) (c := cap) (by simp) (by omega) hcm
            rw [List.take_append_of_le_length (by simp), List.take_of_length_le (by simp)] at hrun
            refine (crash_spec h2.p hrun (fun _ y hy => ?_) hhr).mono ?_
            · have hy' : gl = y := by simpa [blockOf] using hy
              subst hy'
              exact ⟨fun e => hglm b (.inl (.inl rfl)) e.symm, fun e => hglm g (.inl (.inr (.inl rfl))) e.symm, fun e => hglm m (.inl (.inr (.inr rfl))) e.symm⟩
            rintro _ w3 ⟨rfl, hD3, hf3⟩
            have hF13 : Fm (bothM b g m bx q) w1 w3 := hf2.trans hf3 (U := bothM b g m bx q) (fun _ _ e => e.elim) (fun _ _ e => .inl e)
            have hw3 := cell hF13
            simp only [Pu_some, extV_0, extV_1, extV_2, extV_3, nilV_ptr, nilV_fn, faV_ptr, lenV_sl, lenS_s, capV_sl, pickV_t, pickV_f, unV_not, unV_neg, isB_t, isB_f, isB_u, binV_add, binV_sub, binV_mul, binV_eql, binV_neq, binV_lss, binV_leq, binV_gtr, binV_geq, binV_seql, binV_sneq, binV_slss, binV_beql, binV_bneq, binV_peql, binV_pneq, add_add, add_none, Go.Al.add_zero, Nat.zero_add, Nat.add_zero, IfB_t, IfB_f, Gd_t, Gd_f, Ld_ptr, LdN_ptr, Option.isNone_some, Option.isNone_none, Option.isSome_some, Option.isSome_none, Bool.not_true, Bool.not_false, drew_cell, drew_heap, b5 hw3]
            have hF03 := tr hF13
            have hblk : how.map iv ≠ [] → ∀ y, blockOf hv = some y → ¬ bothM b g m bx q y := fun hne y hy hm => by
              have := (ints_in' hhow0).1.blt hne y hy
              have := hm0 y hm
              omega
            refine (rcrash_spec (L := how) (h2.r1 hf3) h2.p.wf (hhc.keepAny hF03 ?_) ?_ hhr).mono ?_
            · intro hne y hy hm
              exact hblk hne y hy hm
            · intro hne y hy hm
              exact hblk (by intro e; exact hne (List.map_eq_nil_iff.1 e)) y hy (.inr hm)
            rintro _ w4 ⟨rfl, hR4, hf4⟩
            obtain ⟨hB, hfB⟩ := h2.step hD3 hf3 hR4 hf4
            have hF14 : Fm (bothM b g m bx q) w1 w4 := hF13.trans hf4 (fun _ _ e => e) (fun _ _ e => .inr e)
            have hw4 := cell hF14
            simp only [Pu_some, extV_0, extV_1, extV_2, extV_3, nilV_ptr, nilV_fn, faV_ptr, lenV_sl, lenS_s, capV_sl, pickV_t, pickV_f, unV_not, unV_neg, isB_t, isB_f, isB_u, binV_add, binV_sub, binV_mul, binV_eql, binV_neq, binV_lss, binV_leq, binV_gtr, binV_geq, binV_seql, binV_sneq, binV_slss, binV_beql, binV_bneq, binV_peql, binV_pneq, add_add, add_none, Go.Al.add_zero, Nat.zero_add, Nat.add_zero, IfB_t, IfB_f, Gd_t, Gd_f, Ld_ptr, LdN_ptr, Option.isNone_some, Option.isNone_none, Option.isSome_some, Option.isSome_none, Bool.not_true, Bool.not_false, drew_cell, drew_heap, b5 hw4]
            refine (kept_spec (hpl.keep hfB (fun e => hglm _ e rfl)) hcap hcm (hhc.keepAny (tr hF14) ?_)).mono ?_
            · intro hne y hy hm
              exact hblk hne y hy hm
            rintro _ w5 ⟨rfl, hf5⟩
            exact ⟨(by trivial), _, hB.keep0 hf5, tr (hF14.trans hf5 (fun _ _ e => e) (fun _ _ e => e.elim)), by show (Dk.mended how d).length = _; rw [Dk.mended_len]⟩
          · have z4 : (what % 6 == 4) = false := by simpa using k4
            simp only [Pu_some, extV_0, extV_1, extV_2, extV_3, nilV_ptr, nilV_fn, faV_ptr, lenV_sl, lenS_s, capV_sl, pickV_t, pickV_f, unV_not, unV_neg, isB_t, isB_f, isB_u, binV_add, binV_sub, binV_mul, binV_eql, binV_neq, binV_lss, binV_leq, binV_gtr, binV_geq, binV_seql, binV_sneq, binV_slss, binV_beql, binV_bneq, binV_peql, binV_pneq, add_add, add_none, Go.Al.add_zero, Nat.zero_add, Nat.add_zero, IfB_t, IfB_f, Gd_t, Gd_f, Ld_ptr, LdN_ptr, Option.isNone_some, Option.isNone_none, Option.isSome_some, Option.isSome_none, Bool.not_true, Bool.not_false, drew_cell, drew_heap, z0, z1, z2, z3, z4]
            have key := does_numbers h1 (fun v w' => v = Value.bool true ∧ ∃ d', Both w' b g m bx q d' ∧ Fm (bothM b g m bx q) w w' ∧ d'.cur.length = d.cur.length) (fun w2 h2 hf2 => ⟨rfl, d, h2, tr (hf2.mono fun _ _ e => e.elim), rfl⟩)
            simp only [Pu_some, extV_0, extV_1, extV_2, extV_3, nilV_ptr, nilV_fn, faV_ptr, lenV_sl, lenS_s, capV_sl, pickV_t, pickV_f, unV_not, unV_neg, isB_t, isB_f, isB_u, binV_add, binV_sub, binV_mul, binV_eql, binV_neq, binV_lss, binV_leq, binV_gtr, binV_geq, binV_seql, binV_sneq, binV_slss, binV_beql, binV_bneq, binV_peql, binV_pneq, add_add, add_none, Go.Al.add_zero, Nat.zero_add, Nat.add_zero, IfB_t, IfB_f, Gd_t, Gd_f, Ld_ptr, LdN_ptr, Option.isNone_some, Option.isNone_none, Option.isSome_some, Option.isSome_none, Bool.not_true, Bool.not_false, drew_cell, drew_heap] at key
            exact key
end

end Go.Proofs.Ythgdinjgdjiknaa
