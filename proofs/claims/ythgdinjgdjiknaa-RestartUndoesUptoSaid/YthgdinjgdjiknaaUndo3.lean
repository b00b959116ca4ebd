/- The log that acts lay: the walk. -/
import Derived.Test.YthgdinjgdjiknaaUndo2
namespace Go.Proofs.Ythgdinjgdjiknaa
open Go.Al Go.Proofs
set_option linter.unusedVariables false
set_option linter.unusedSimpArgs false
set_option linter.unusedSectionVars false
set_option maxRecDepth 100000

def RA (w : World) (x : Nat) (r : Rc) : Prop := w.heap[x]? = some (.cells (rcc r nl nl nl nl nl) 75)
theorem RA.c0 {w : World} {x : Nat} {r : Rc} (h : RA w x r) : w.cell? ⟨x, 0, none⟩ = some (iv r.lsn) := by rw [cell_at h]; rfl
theorem over_same {σ : LS} {s : Nat} (h : overS σ s = false) : σ.over.set s false = σ.over := by
  apply List.ext_getElem?
  intro t
  rw [List.getElem?_set]
  by_cases e : s = t
  · subst e
    rw [if_pos rfl]
    split
    · rename_i hl
      unfold overS at h
      rw [List.getD_eq_getElem?_getD, List.getElem?_eq_getElem hl] at h
      rw [List.getElem?_eq_getElem hl]
      have h : σ.over[s] = false := h
      rw [h]
    · rename_i hl
      rw [List.getElem?_eq_none (by omega)]
  · rw [if_neg e]
theorem LgAt.at {w0 w : World} {g : Nat} {vs : List Value} {out : Value} {σ τ : LS} (h : LgAt w0 w g vs out σ) (e : σ = τ) : LgAt w0 w g vs out τ := e ▸ h

set_option maxHeartbeats 16000000 in
theorem log_spec {w : World} {v : Value} {L : List Act} (h : CellsAt w v L.length 2 (bcs L)) (hin : ∀ a ∈ L, In a.1 ∧ In a.2) (hg : Good L) (hL : L.length ≤ 200) :
    Cl Try.prog 34 [iv 16, v] w fun r w' => ∃ vs out, r = .tuple #[out, .slice (some ⟨w.heap.size + 1, 0, none⟩) 8 8] ∧ LgAt w w' w.heap.size vs out (lgN L L.length) := by
  refine c34 ?_; unfold T34
  refine RunS_ok (mk34 w) ?_
  have hf1 := Fm.alloc (fun _ => False) w (.cells (List.replicate 8 (iv 0)).toArray 3)
  have hn1 := alloc_new w (.cells (List.replicate 8 (iv 0)).toArray 3)
  have hs1 := alloc_size w (.cells (List.replicate 8 (iv 0)).toArray 3)
  generalize w.alloc (.cells (List.replicate 8 (iv 0)).toArray 3) = w1 at hf1 hn1 hs1
  refine RunS_ok (mk82 w1) ?_
  have hf2 := Fm.alloc (fun _ => False) w1 (.cells (List.replicate 8 nl).toArray 34)
  have hn2 := alloc_new w1 (.cells (List.replicate 8 nl).toArray 34)
  have hs2 := alloc_size w1 (.cells (List.replicate 8 nl).toArray 34)
  generalize w1.alloc (.cells (List.replicate 8 nl).toArray 34) = w2 at hf2 hn2 hs2
  refine RunS_ok (mk57 w2) ?_
  have hf3 := Fm.alloc (fun _ => False) w2 (.cells (List.replicate 8 (Value.bool false)).toArray 4)
  have hn3 := alloc_new w2 (.cells (List.replicate 8 (Value.bool false)).toArray 4)
  have hs3 := alloc_size w2 (.cells (List.replicate 8 (Value.bool false)).toArray 4)
  generalize w2.alloc (.cells (List.replicate 8 (Value.bool false)).toArray 4) = w3 at hf3 hn3 hs3
  rw [hs2, hs1] at hn3
  rw [hs1] at hn2
  rw [hs2, hs1]
  have hA3 : LgAt w w3 w.heap.size (List.replicate 8 nl) nl lg0 := by
    refine ⟨hf3.heap (hf2.heap hn1 (fun e => e)) (fun e => e), hf3.heap hn2 (fun e => e), hn3, rfl, rfl, rfl, rfl, ?_, ?_, World.ownsRow_nil _ _ _ _, ?_, Fmf (Fmf hf1 hf2) hf3, Nat.le_refl _, by omega⟩
    · intro s u hu
      rw [List.getElem?_replicate] at hu
      split at hu
      · cases hu
        have : opnS lg0 s = [] := rep_getD 8 [] s
        rw [this]
        exact World.ownsRow_nil _ _ _ _
      · cases hu
    · intro s t u u' b hu hu' _ hb
      rw [List.getElem?_replicate] at hu
      split at hu
      · cases hu; cases hb
      · cases hu
    · intro s u b hu hb
      rw [List.getElem?_replicate] at hu
      split at hu
      · cases hu; cases hb
      · cases hu
  refine ⟨fun vs w' => ∃ (i : Nat) (ws : List Value) (out : Value), vs = [out, iv i] ∧ i ≤ L.length ∧ LgAt w w' w.heap.size ws out (lgN L i), fun vs _ => (L.length - nth vs 1).toNat, ⟨0, _, nl, rfl, by omega, hA3⟩, ?_⟩
  rintro _ w4 out ivv ⟨i, ws, out0, hvs, hi, hA⟩
  cases hvs
  by_cases hlt : i < L.length
  · have ha : L[i]? = some L[i] := List.getElem?_eq_getElem hlt
    generalize L[i] = a at ha
    obtain ⟨hia, hib⟩ := hin a (List.mem_of_getElem? ha)
    have d1 : decide ((i : Int) < (L.length : Int)) = true := by rw [decide_eq_true_eq]; omega
    have e2 : IntKind.i64.wrap ((i : Int) + 1) = ((i + 1 : Nat) : Int) := by rw [wrap_id] <;> omega
    have hI := lgInv hg i (by omega)
    have hN : lgN L (i + 1) = lgStep i (lgN L i) a := by simp only [lgN, ha]
    obtain ⟨ad, hix, q0, q1⟩ := bcs_at (h.keep hA.fm (fun _ _ e => e)) ha
    simp only [Pu_some, extV_0, extV_1, extV_2, extV_3, nilV_ptr, nilV_fn, faV_ptr, lenV_sl, lenS_s, capV_sl, pickV_t, pickV_f, unV_not, unV_neg, isB_t, isB_f, isB_u, binV_add, binV_sub, binV_mul, binV_eql, binV_neq, binV_lss, binV_leq, binV_gtr, binV_geq, binV_seql, binV_sneq, binV_slss, binV_beql, binV_bneq, binV_peql, binV_pneq, add_add, add_none, Go.Al.add_zero, Nat.zero_add, Nat.add_zero, IfB_t, IfB_f, Gd_t, Gd_f, Ld_ptr, LdN_ptr, Option.isNone_some, Option.isNone_none, Option.isSome_some, Option.isSome_none, Bool.not_true, Bool.not_false, drew_cell, drew_heap, h.lenV, d1]
    refine Jn_at (fun vs w' => ∃ (ws : List Value) (out : Value), vs = [out] ∧ LgAt w w' w.heap.size ws out (lgN L (i + 1))) ?_ ?_
    · rintro _ w5 ⟨ws', out', rfl, hA'⟩ _
      refine ⟨_, rfl, ?_⟩
      simp only [Pu_some, extV_0, extV_1, extV_2, extV_3, nilV_ptr, nilV_fn, faV_ptr, lenV_sl, lenS_s, capV_sl, pickV_t, pickV_f, unV_not, unV_neg, isB_t, isB_f, isB_u, binV_add, binV_sub, binV_mul, binV_eql, binV_neq, binV_lss, binV_leq, binV_gtr, binV_geq, binV_seql, binV_sneq, binV_slss, binV_beql, binV_bneq, binV_peql, binV_pneq, add_add, add_none, Go.Al.add_zero, Nat.zero_add, Nat.add_zero, IfB_t, IfB_f, Gd_t, Gd_f, Ld_ptr, LdN_ptr, Option.isNone_some, Option.isNone_none, Option.isSome_some, Option.isSome_none, Bool.not_true, Bool.not_false, drew_cell, drew_heap, e2]
      exact ⟨⟨i + 1, ws', out', rfl, by omega, hA'⟩, by simp only [nth_1]; omega⟩
    · intro jj hjj
      have hr := rem_emod (TypeDesc.int IntKind.i64) (a := a.2) (b := 8) (by omega)
      simp only [Pu_some, extV_0, extV_1, extV_2, extV_3, nilV_ptr, nilV_fn, faV_ptr, lenV_sl, lenS_s, capV_sl, pickV_t, pickV_f, unV_not, unV_neg, isB_t, isB_f, isB_u, binV_add, binV_sub, binV_mul, binV_eql, binV_neq, binV_lss, binV_leq, binV_gtr, binV_geq, binV_seql, binV_sneq, binV_slss, binV_beql, binV_bneq, binV_peql, binV_pneq, add_add, add_none, Go.Al.add_zero, Nat.zero_add, Nat.add_zero, IfB_t, IfB_f, Gd_t, Gd_f, Ld_ptr, LdN_ptr, Option.isNone_some, Option.isNone_none, Option.isSome_some, Option.isSome_none, Bool.not_true, Bool.not_false, drew_cell, drew_heap, hix, q1, hr]
      refine Jn_at (fun vs w' => vs = [iv (slot a.2)] ∧ w' = w4) ?_ ?_
      · rintro _ w4 ⟨rfl, rfl⟩ _
        refine ⟨_, rfl, ?_⟩
        rw [hN] at hjj
        generalize lgN L i = σ at hA hI hN hjj
        have hs := slot_lt a.2
        have hout := hI.n
        have hopn := hI.lo _ hs
        generalize hse : slot a.2 = s at hs hopn
        simp only [Pu_some, extV_0, extV_1, extV_2, extV_3, nilV_ptr, nilV_fn, faV_ptr, lenV_sl, lenS_s, capV_sl, pickV_t, pickV_f, unV_not, unV_neg, isB_t, isB_f, isB_u, binV_add, binV_sub, binV_mul, binV_eql, binV_neq, binV_lss, binV_leq, binV_gtr, binV_geq, binV_seql, binV_sneq, binV_slss, binV_beql, binV_bneq, binV_peql, binV_pneq, add_add, add_none, Go.Al.add_zero, Nat.zero_add, Nat.add_zero, IfB_t, IfB_f, Gd_t, Gd_f, Ld_ptr, LdN_ptr, Option.isNone_some, Option.isNone_none, Option.isSome_some, Option.isSome_none, Bool.not_true, Bool.not_false, drew_cell, drew_heap, ix8 _ s hs, hA.c16 hs]
        cases hov : overS σ s with
        | true =>
          simp only [Pu_some, extV_0, extV_1, extV_2, extV_3, nilV_ptr, nilV_fn, faV_ptr, lenV_sl, lenS_s, capV_sl, pickV_t, pickV_f, unV_not, unV_neg, isB_t, isB_f, isB_u, binV_add, binV_sub, binV_mul, binV_eql, binV_neq, binV_lss, binV_leq, binV_gtr, binV_geq, binV_seql, binV_sneq, binV_slss, binV_beql, binV_bneq, binV_peql, binV_pneq, add_add, add_none, Go.Al.add_zero, Nat.zero_add, Nat.add_zero, IfB_t, IfB_f, Gd_t, Gd_f, Ld_ptr, LdN_ptr, Option.isNone_some, Option.isNone_none, Option.isSome_some, Option.isSome_none, Bool.not_true, Bool.not_false, drew_cell, drew_heap]
          exact hjj _ _ ⟨ws, out, rfl, hA.at (by unfold lgStep; rw [hse, hov]; rfl)⟩
        | false =>
        have e16 : IntKind.i64.wrap ((s : Int) + 1) = (s : Int) + 1 := by rw [wrap_id]; omega
        have d16 : decide ((16 : Int) < (s : Int) + 1) = false := by rw [decide_eq_false_iff_not]; omega
        have e10 : IntKind.i64.wrap (10 * (i : Int)) = 10 * (i : Int) := by rw [wrap_id]; omega
        have e11 : IntKind.i64.wrap (10 * (i : Int) + 1) = lsnI i := by show _ = 10 * (i : Int) + 1; rw [wrap_id]; omega
        simp only [Pu_some, extV_0, extV_1, extV_2, extV_3, nilV_ptr, nilV_fn, faV_ptr, lenV_sl, lenS_s, capV_sl, pickV_t, pickV_f, unV_not, unV_neg, isB_t, isB_f, isB_u, binV_add, binV_sub, binV_mul, binV_eql, binV_neq, binV_lss, binV_leq, binV_gtr, binV_geq, binV_seql, binV_sneq, binV_slss, binV_beql, binV_bneq, binV_peql, binV_pneq, add_add, add_none, Go.Al.add_zero, Nat.zero_add, Nat.add_zero, IfB_t, IfB_f, Gd_t, Gd_f, Ld_ptr, LdN_ptr, Option.isNone_some, Option.isNone_none, Option.isSome_some, Option.isSome_none, Bool.not_true, Bool.not_false, drew_cell, drew_heap, e16, d16, e10, e11, ix8 _ s hs, hA.c14 hs]
        refine RunS_ok (bld75u _ _ _ _) ?_
        refine New_any ?_
        intro x w5 hx hs5 hw5 hf5
        refine St_all hw5 rfl rfl (rcc_one _) ?_
        intro w6 hw6 hs6 hf6
        have hf46 : Fm (fun _ => False) w4 w6 := Fm.own hf5 hf6 (by rintro y rfl; omega)
        have hA6 := hA.keep hf46
        have hR6 : RA w6 x (rcz (lsnI i) (lastS σ s) 0 0 ((s : Int) + 1)) := hw6
        have hgx := hA.gw
        have hz6 := hf46.size
        obtain ⟨vv, hv, hc6⟩ := hA6.at15 hs
        have ho6 := hA6.own s vv hv
        have p0 := hf46.cell' q0 (fun e => e)
        have hcw : ∀ {w' : World}, LgAt w w' w.heap.size ws out σ → w'.cell? ⟨w.heap.size + 1, s, none⟩ = some vv := fun hh => rowc hh.l15 hv
        have hlv := (CellsAt.of_own ho6).lenV
        simp only [Pu_some, extV_0, extV_1, extV_2, extV_3, nilV_ptr, nilV_fn, faV_ptr, lenV_sl, lenS_s, capV_sl, pickV_t, pickV_f, unV_not, unV_neg, isB_t, isB_f, isB_u, binV_add, binV_sub, binV_mul, binV_eql, binV_neq, binV_lss, binV_leq, binV_gtr, binV_geq, binV_seql, binV_sneq, binV_slss, binV_beql, binV_bneq, binV_peql, binV_pneq, add_add, add_none, Go.Al.add_zero, Nat.zero_add, Nat.add_zero, IfB_t, IfB_f, Gd_t, Gd_f, Ld_ptr, LdN_ptr, Option.isNone_some, Option.isNone_none, Option.isSome_some, Option.isSome_none, Bool.not_true, Bool.not_false, drew_cell, drew_heap, ix8 _ s hs, hc6, hlv]
        refine Jn_at (fun vs w' => vs = [] ∧ ∃ (ws' : List Value) (o : List Int) (ov : Bool) (next kind : Int), LgAt w w' w.heap.size ws' out ⟨σ.last, σ.opn.set s o, σ.over.set s ov, σ.out⟩ ∧ RA w' x (mkR (lsnI i) (lastS σ s) next kind s) ∧ lgStep i σ a = put σ s (lsnI i) o ov next kind) ?_ ?_
        · rintro _ w7 ⟨rfl, ws', o, ov, next, kind, hA7, hR7, hst⟩ _
          refine ⟨rfl, ?_⟩
          rw [hst] at hjj
          simp only [Pu_some, extV_0, extV_1, extV_2, extV_3, nilV_ptr, nilV_fn, faV_ptr, lenV_sl, lenS_s, capV_sl, pickV_t, pickV_f, unV_not, unV_neg, isB_t, isB_f, isB_u, binV_add, binV_sub, binV_mul, binV_eql, binV_neq, binV_lss, binV_leq, binV_gtr, binV_geq, binV_seql, binV_sneq, binV_slss, binV_beql, binV_bneq, binV_peql, binV_pneq, add_add, add_none, Go.Al.add_zero, Nat.zero_add, Nat.add_zero, IfB_t, IfB_f, Gd_t, Gd_f, Ld_ptr, LdN_ptr, Option.isNone_some, Option.isNone_none, Option.isSome_some, Option.isSome_none, Bool.not_true, Bool.not_false, drew_cell, drew_heap, hR7.c0, ix8 _ s hs]
          refine St_blk hA7.l14 (by have e8 : σ.last.length = 8 := hA7.n1; simp only [List.size_toArray, List.length_map]; omega) rfl ?_
          intro w8 hw8 hs8 hf8
          have hA8 := hA7.setLast hw8 hf8
          have hR8 : RA w8 x _ := hf8.heap hR7 (by omega)
          simp only [Pu_some, extV_0, extV_1, extV_2, extV_3, nilV_ptr, nilV_fn, faV_ptr, lenV_sl, lenS_s, capV_sl, pickV_t, pickV_f, unV_not, unV_neg, isB_t, isB_f, isB_u, binV_add, binV_sub, binV_mul, binV_eql, binV_neq, binV_lss, binV_leq, binV_gtr, binV_geq, binV_seql, binV_sneq, binV_slss, binV_beql, binV_bneq, binV_peql, binV_pneq, add_add, add_none, Go.Al.add_zero, Nat.zero_add, Nat.add_zero, IfB_t, IfB_f, Gd_t, Gd_f, Ld_ptr, LdN_ptr, Option.isNone_some, Option.isNone_none, Option.isSome_some, Option.isSome_none, Bool.not_true, Bool.not_false, drew_cell, drew_heap, cellsV_blk (n := 16) hR8 rfl]
          refine RunS_ok (bs66u _ _) ?_
          have hf9 := Fm.alloc (fun _ => False) w8 (.cells (rc5 (mkR (lsnI i) (lastS σ s) next kind s)).toArray 75)
          have hn9 := alloc_new w8 (.cells (rc5 (mkR (lsnI i) (lastS σ s) next kind s)).toArray 75)
          have hA9 := hA8.keep hf9
          obtain ⟨out', w10, hr10, ho10, hb10, hf10⟩ := app_fine E66u (by omega) hA9.ot hn9 rfl (rcc_one _) (by show (σ.out.length + 1) * 216 ≤ _; omega) (by show σ.out.length + 1 ≤ _; unfold maxLen; omega) (by have := hA9.gw; omega)
          refine RunS_ok hr10 ?_
          exact hjj _ _ ⟨ws', out', rfl, hA9.setOut ho10 hb10 hf10⟩
        · intro kk hkk
          have unlast : ∀ {w' : World}, LgAt w w' w.heap.size ws out σ → lgStep i σ a = σ → jj [out] w' := fun hh e => hjj _ _ ⟨ws, out, rfl, hh.at e.symm⟩
          simp only [Pu_some, extV_0, extV_1, extV_2, extV_3, nilV_ptr, nilV_fn, faV_ptr, lenV_sl, lenS_s, capV_sl, pickV_t, pickV_f, unV_not, unV_neg, isB_t, isB_f, isB_u, binV_add, binV_sub, binV_mul, binV_eql, binV_neq, binV_lss, binV_leq, binV_gtr, binV_geq, binV_seql, binV_sneq, binV_slss, binV_beql, binV_bneq, binV_peql, binV_pneq, add_add, add_none, Go.Al.add_zero, Nat.zero_add, Nat.add_zero, IfB_t, IfB_f, Gd_t, Gd_f, Ld_ptr, LdN_ptr, Option.isNone_some, Option.isNone_none, Option.isSome_some, Option.isSome_none, Bool.not_true, Bool.not_false, drew_cell, drew_heap, hix, p0, beq_dec]
          cases h0 : decide (a.1 = 0) with
          | true =>
            simp only [Pu_some, extV_0, extV_1, extV_2, extV_3, nilV_ptr, nilV_fn, faV_ptr, lenV_sl, lenS_s, capV_sl, pickV_t, pickV_f, unV_not, unV_neg, isB_t, isB_f, isB_u, binV_add, binV_sub, binV_mul, binV_eql, binV_neq, binV_lss, binV_leq, binV_gtr, binV_geq, binV_seql, binV_sneq, binV_slss, binV_beql, binV_bneq, binV_peql, binV_pneq, add_add, add_none, Go.Al.add_zero, Nat.zero_add, Nat.add_zero, IfB_t, IfB_f, Gd_t, Gd_f, Ld_ptr, LdN_ptr, Option.isNone_some, Option.isNone_none, Option.isSome_some, Option.isSome_none, Bool.not_true, Bool.not_false, drew_cell, drew_heap]
            refine St_blk hR6 (by show 3 < 16; decide) rfl ?_
            intro w7 hw7 hs7 hf7
            have hR7 : RA w7 x (rcz (lsnI i) (lastS σ s) 0 1 ((s : Int) + 1)) := hw7
            have hf47 : Fm (fun _ => False) w4 w7 := Fm.own hf46 hf7 (by rintro y rfl; omega)
            have hf48 : Fm (fun _ => False) w4 w7.drew := Fmf hf47 (Fm.drew _ _)
            have hA8 := hA.keep hf48
            have hR8 : RA w7.drew x (rcz (lsnI i) (lastS σ s) 0 1 ((s : Int) + 1)) := hR7
            refine ⟨fun w' => w'.cell? ⟨w.heap.size + 1, s, none⟩ = some vv, hcw hA8, ?_⟩
            generalize w7.drew = w8 at hf48 hA8 hR8
            simp only [Pu_some, extV_0, extV_1, extV_2, extV_3, nilV_ptr, nilV_fn, faV_ptr, lenV_sl, lenS_s, capV_sl, pickV_t, pickV_f, unV_not, unV_neg, isB_t, isB_f, isB_u, binV_add, binV_sub, binV_mul, binV_eql, binV_neq, binV_lss, binV_leq, binV_gtr, binV_geq, binV_seql, binV_sneq, binV_slss, binV_beql, binV_bneq, binV_peql, binV_pneq, add_add, add_none, Go.Al.add_zero, Nat.zero_add, Nat.add_zero, IfB_t, IfB_f, Gd_t, Gd_f, Ld_ptr, LdN_ptr, Option.isNone_some, Option.isNone_none, Option.isSome_some, Option.isSome_none, Bool.not_true, Bool.not_false, drew_cell, drew_heap, ix8 _ s hs]
            refine ⟨vv, fun w9 h9 => ?_, ?_⟩
            · simp only [Pu_some, extV_0, extV_1, extV_2, extV_3, nilV_ptr, nilV_fn, faV_ptr, lenV_sl, lenS_s, capV_sl, pickV_t, pickV_f, unV_not, unV_neg, isB_t, isB_f, isB_u, binV_add, binV_sub, binV_mul, binV_eql, binV_neq, binV_lss, binV_leq, binV_gtr, binV_geq, binV_seql, binV_sneq, binV_slss, binV_beql, binV_bneq, binV_peql, binV_pneq, add_add, add_none, Go.Al.add_zero, Nat.zero_add, Nat.add_zero, IfB_t, IfB_f, Gd_t, Gd_f, Ld_ptr, LdN_ptr, Option.isNone_some, Option.isNone_none, Option.isSome_some, Option.isSome_none, Bool.not_true, Bool.not_false, drew_cell, drew_heap, h9]; trivial
            have c07 : w7.cell? ⟨x, 0, none⟩ = some (iv (lsnI i)) := hR7.c0
            simp only [Pu_some, extV_0, extV_1, extV_2, extV_3, nilV_ptr, nilV_fn, faV_ptr, lenV_sl, lenS_s, capV_sl, pickV_t, pickV_f, unV_not, unV_neg, isB_t, isB_f, isB_u, binV_add, binV_sub, binV_mul, binV_eql, binV_neq, binV_lss, binV_leq, binV_gtr, binV_geq, binV_seql, binV_sneq, binV_slss, binV_beql, binV_bneq, binV_peql, binV_pneq, add_add, add_none, Go.Al.add_zero, Nat.zero_add, Nat.add_zero, IfB_t, IfB_f, Gd_t, Gd_f, Ld_ptr, LdN_ptr, Option.isNone_some, Option.isNone_none, Option.isSome_some, Option.isSome_none, Bool.not_true, Bool.not_false, drew_cell, drew_heap, c07, true_and]
            have hf9 := Fm.alloc (fun _ => False) w8 (.cells #[iv (lsnI i)] 3)
            have hn9 := alloc_new w8 (.cells #[iv (lsnI i)] 3)
            have hA9 := hA8.keep hf9
            have hR9 : RA (w8.alloc (.cells #[iv (lsnI i)] 3)) x (rcz (lsnI i) (lastS σ s) 0 1 ((s : Int) + 1)) := hf9.heap hR8 (fun e => e)
            refine RunS_ok (bs34u _ _) ?_
            refine ⟨hcw hA9, ?_⟩
            generalize w8.alloc (.cells #[iv (lsnI i)] 3) = w9 at hf9 hn9 hA9 hR9
            have ho9 := hA9.own s vv hv
            have hlt9 := own_lt ho6
            obtain ⟨v', w10, hr10, ho10, hb10, hf10⟩ := app_fine E34u (by omega) ho9 (cs := [iv (lsnI i)]) hn9 rfl (by intro u hu; simp at hu; subst hu; rfl) (by omega) (by unfold maxLen; omega) (by have := hA9.gw; omega)
            refine RunS_ok hr10 ?_
            have hlt10 := own_lt ho9
            refine St_blk (hf10.heap hA9.l15 (fun e => by have := hlt10 _ e; omega)) (by have := hA9.nv; simp only [List.size_toArray]; omega) (own_one ho10) ?_
            intro w11 hw11 hs11 hf11
            have hR11 : RA w11 x (rcz (lsnI i) (lastS σ s) 0 1 ((s : Int) + 1)) := hf11.heap (hf10.heap hR9 (fun e => by have := own_lt (hA.own s vv hv) _ e; omega)) (by omega)
            have hA11 := hA9.setOpen hs hv hf10 (o := opnS σ s ++ [lsnI i]) (by rw [List.length_append, List.map_append]; exact ho10) hb10 hw11 hf11
            exact hkk _ _ ⟨rfl, _, opnS σ s ++ [lsnI i], false, 0, 1, hA11.at (by rw [over_same hov]), hR11, by unfold lgStep; rw [hse, hov, h0]; rfl⟩
          | false =>
          simp only [Pu_some, extV_0, extV_1, extV_2, extV_3, nilV_ptr, nilV_fn, faV_ptr, lenV_sl, lenS_s, capV_sl, pickV_t, pickV_f, unV_not, unV_neg, isB_t, isB_f, isB_u, binV_add, binV_sub, binV_mul, binV_eql, binV_neq, binV_lss, binV_leq, binV_gtr, binV_geq, binV_seql, binV_sneq, binV_slss, binV_beql, binV_bneq, binV_peql, binV_pneq, add_add, add_none, Go.Al.add_zero, Nat.zero_add, Nat.add_zero, IfB_t, IfB_f, Gd_t, Gd_f, Ld_ptr, LdN_ptr, Option.isNone_some, Option.isNone_none, Option.isSome_some, Option.isSome_none, Bool.not_true, Bool.not_false, drew_cell, drew_heap, beq_dec]
          cases h1 : decide (a.1 = 1) with
          | true =>
            simp only [Pu_some, extV_0, extV_1, extV_2, extV_3, nilV_ptr, nilV_fn, faV_ptr, lenV_sl, lenS_s, capV_sl, pickV_t, pickV_f, unV_not, unV_neg, isB_t, isB_f, isB_u, binV_add, binV_sub, binV_mul, binV_eql, binV_neq, binV_lss, binV_leq, binV_gtr, binV_geq, binV_seql, binV_sneq, binV_slss, binV_beql, binV_bneq, binV_peql, binV_pneq, add_add, add_none, Go.Al.add_zero, Nat.zero_add, Nat.add_zero, IfB_t, IfB_f, Gd_t, Gd_f, Ld_ptr, LdN_ptr, Option.isNone_some, Option.isNone_none, Option.isSome_some, Option.isSome_none, Bool.not_true, Bool.not_false, drew_cell, drew_heap]
            refine St_blk hR6 (by show 3 < 16; decide) rfl ?_
            intro w7 hw7 hs7 hf7
            have hR7 : RA w7 x (rcz (lsnI i) (lastS σ s) 0 2 ((s : Int) + 1)) := hw7
            have hf47 : Fm (fun _ => False) w4 w7 := Fm.own hf46 hf7 (by rintro y rfl; omega)
            have hf48 : Fm (fun _ => False) w4 w7.drew := Fmf hf47 (Fm.drew _ _)
            have hA8 := hA.keep hf48
            have hR8 : RA w7.drew x (rcz (lsnI i) (lastS σ s) 0 2 ((s : Int) + 1)) := hR7
            refine ⟨fun w' => w'.cell? ⟨w.heap.size + 1, s, none⟩ = some vv, hcw hA8, ?_⟩
            generalize w7.drew = w8 at hf48 hA8 hR8
            simp only [Pu_some, extV_0, extV_1, extV_2, extV_3, nilV_ptr, nilV_fn, faV_ptr, lenV_sl, lenS_s, capV_sl, pickV_t, pickV_f, unV_not, unV_neg, isB_t, isB_f, isB_u, binV_add, binV_sub, binV_mul, binV_eql, binV_neq, binV_lss, binV_leq, binV_gtr, binV_geq, binV_seql, binV_sneq, binV_slss, binV_beql, binV_bneq, binV_peql, binV_pneq, add_add, add_none, Go.Al.add_zero, Nat.zero_add, Nat.add_zero, IfB_t, IfB_f, Gd_t, Gd_f, Ld_ptr, LdN_ptr, Option.isNone_some, Option.isNone_none, Option.isSome_some, Option.isSome_none, Bool.not_true, Bool.not_false, drew_cell, drew_heap, ix8 _ s hs]
            refine ⟨vv, fun w9 h9 => ?_, ?_⟩
            · simp only [Pu_some, extV_0, extV_1, extV_2, extV_3, nilV_ptr, nilV_fn, faV_ptr, lenV_sl, lenS_s, capV_sl, pickV_t, pickV_f, unV_not, unV_neg, isB_t, isB_f, isB_u, binV_add, binV_sub, binV_mul, binV_eql, binV_neq, binV_lss, binV_leq, binV_gtr, binV_geq, binV_seql, binV_sneq, binV_slss, binV_beql, binV_bneq, binV_peql, binV_pneq, add_add, add_none, Go.Al.add_zero, Nat.zero_add, Nat.add_zero, IfB_t, IfB_f, Gd_t, Gd_f, Ld_ptr, LdN_ptr, Option.isNone_some, Option.isNone_none, Option.isSome_some, Option.isSome_none, Bool.not_true, Bool.not_false, drew_cell, drew_heap, h9]; trivial
            have c07 : w7.cell? ⟨x, 0, none⟩ = some (iv (lsnI i)) := hR7.c0
            simp only [Pu_some, extV_0, extV_1, extV_2, extV_3, nilV_ptr, nilV_fn, faV_ptr, lenV_sl, lenS_s, capV_sl, pickV_t, pickV_f, unV_not, unV_neg, isB_t, isB_f, isB_u, binV_add, binV_sub, binV_mul, binV_eql, binV_neq, binV_lss, binV_leq, binV_gtr, binV_geq, binV_seql, binV_sneq, binV_slss, binV_beql, binV_bneq, binV_peql, binV_pneq, add_add, add_none, Go.Al.add_zero, Nat.zero_add, Nat.add_zero, IfB_t, IfB_f, Gd_t, Gd_f, Ld_ptr, LdN_ptr, Option.isNone_some, Option.isNone_none, Option.isSome_some, Option.isSome_none, Bool.not_true, Bool.not_false, drew_cell, drew_heap, c07, true_and]
            have hf9 := Fm.alloc (fun _ => False) w8 (.cells #[iv (lsnI i)] 3)
            have hn9 := alloc_new w8 (.cells #[iv (lsnI i)] 3)
            have hA9 := hA8.keep hf9
            have hR9 : RA (w8.alloc (.cells #[iv (lsnI i)] 3)) x (rcz (lsnI i) (lastS σ s) 0 2 ((s : Int) + 1)) := hf9.heap hR8 (fun e => e)
            refine RunS_ok (bs34u _ _) ?_
            refine ⟨hcw hA9, ?_⟩
            generalize w8.alloc (.cells #[iv (lsnI i)] 3) = w9 at hf9 hn9 hA9 hR9
            have ho9 := hA9.own s vv hv
            have hlt9 := own_lt ho6
            obtain ⟨v', w10, hr10, ho10, hb10, hf10⟩ := app_fine E34u (by omega) ho9 (cs := [iv (lsnI i)]) hn9 rfl (by intro u hu; simp at hu; subst hu; rfl) (by omega) (by unfold maxLen; omega) (by have := hA9.gw; omega)
            refine RunS_ok hr10 ?_
            have hlt10 := own_lt ho9
            refine St_blk (hf10.heap hA9.l15 (fun e => by have := hlt10 _ e; omega)) (by have := hA9.nv; simp only [List.size_toArray]; omega) (own_one ho10) ?_
            intro w11 hw11 hs11 hf11
            have hR11 : RA w11 x (rcz (lsnI i) (lastS σ s) 0 2 ((s : Int) + 1)) := hf11.heap (hf10.heap hR9 (fun e => by have := own_lt (hA.own s vv hv) _ e; omega)) (by omega)
            have hA11 := hA9.setOpen hs hv hf10 (o := opnS σ s ++ [lsnI i]) (by rw [List.length_append, List.map_append]; exact ho10) hb10 hw11 hf11
            exact hkk _ _ ⟨rfl, _, opnS σ s ++ [lsnI i], false, 0, 2, hA11.at (by rw [over_same hov]), hR11, by unfold lgStep; rw [hse, hov, h0, h1]; rfl⟩
          | false =>
          simp only [Pu_some, extV_0, extV_1, extV_2, extV_3, nilV_ptr, nilV_fn, faV_ptr, lenV_sl, lenS_s, capV_sl, pickV_t, pickV_f, unV_not, unV_neg, isB_t, isB_f, isB_u, binV_add, binV_sub, binV_mul, binV_eql, binV_neq, binV_lss, binV_leq, binV_gtr, binV_geq, binV_seql, binV_sneq, binV_slss, binV_beql, binV_bneq, binV_peql, binV_pneq, add_add, add_none, Go.Al.add_zero, Nat.zero_add, Nat.add_zero, IfB_t, IfB_f, Gd_t, Gd_f, Ld_ptr, LdN_ptr, Option.isNone_some, Option.isNone_none, Option.isSome_some, Option.isSome_none, Bool.not_true, Bool.not_false, drew_cell, drew_heap, beq_dec]
          cases h3 : decide (a.1 = 3) with
          | true =>
            have dn : decide (((opnS σ s).length : Int) = 0) = decide ((opnS σ s).length = 0) := by rw [decide_eq_decide]; omega
            simp only [Pu_some, extV_0, extV_1, extV_2, extV_3, nilV_ptr, nilV_fn, faV_ptr, lenV_sl, lenS_s, capV_sl, pickV_t, pickV_f, unV_not, unV_neg, isB_t, isB_f, isB_u, binV_add, binV_sub, binV_mul, binV_eql, binV_neq, binV_lss, binV_leq, binV_gtr, binV_geq, binV_seql, binV_sneq, binV_slss, binV_beql, binV_bneq, binV_peql, binV_pneq, add_add, add_none, Go.Al.add_zero, Nat.zero_add, Nat.add_zero, IfB_t, IfB_f, Gd_t, Gd_f, Ld_ptr, LdN_ptr, Option.isNone_some, Option.isNone_none, Option.isSome_some, Option.isSome_none, Bool.not_true, Bool.not_false, drew_cell, drew_heap, beq_dec, dn]
            cases hn0 : decide ((opnS σ s).length = 0) with
            | true =>
              simp only [Pu_some, extV_0, extV_1, extV_2, extV_3, nilV_ptr, nilV_fn, faV_ptr, lenV_sl, lenS_s, capV_sl, pickV_t, pickV_f, unV_not, unV_neg, isB_t, isB_f, isB_u, binV_add, binV_sub, binV_mul, binV_eql, binV_neq, binV_lss, binV_leq, binV_gtr, binV_geq, binV_seql, binV_sneq, binV_slss, binV_beql, binV_bneq, binV_peql, binV_pneq, add_add, add_none, Go.Al.add_zero, Nat.zero_add, Nat.add_zero, IfB_t, IfB_f, Gd_t, Gd_f, Ld_ptr, LdN_ptr, Option.isNone_some, Option.isNone_none, Option.isSome_some, Option.isSome_none, Bool.not_true, Bool.not_false, drew_cell, drew_heap]
              exact unlast hA6 (by unfold lgStep; rw [hse, hov, h0, h1, h3, hn0]; rfl)
            | false =>
            rw [decide_eq_false_iff_not] at hn0
            simp only [Pu_some, extV_0, extV_1, extV_2, extV_3, nilV_ptr, nilV_fn, faV_ptr, lenV_sl, lenS_s, capV_sl, pickV_t, pickV_f, unV_not, unV_neg, isB_t, isB_f, isB_u, binV_add, binV_sub, binV_mul, binV_eql, binV_neq, binV_lss, binV_leq, binV_gtr, binV_geq, binV_seql, binV_sneq, binV_slss, binV_beql, binV_bneq, binV_peql, binV_pneq, add_add, add_none, Go.Al.add_zero, Nat.zero_add, Nat.add_zero, IfB_t, IfB_f, Gd_t, Gd_f, Ld_ptr, LdN_ptr, Option.isNone_some, Option.isNone_none, Option.isSome_some, Option.isSome_none, Bool.not_true, Bool.not_false, drew_cell, drew_heap]
            refine St_blk hR6 (by show 3 < 16; decide) rfl ?_
            intro w7 hw7 hs7 hf7
            have hR7 : RA w7 x (rcz (lsnI i) (lastS σ s) 0 6 ((s : Int) + 1)) := hw7
            have hf47 : Fm (fun _ => False) w4 w7 := Fm.own hf46 hf7 (by rintro y rfl; omega)
            have hA7 := hA.keep hf47
            have e1 : IntKind.i64.wrap (((opnS σ s).length : Int) - 1) = (((opnS σ s).length - 1 : Nat) : Int) := by rw [wrap_id] <;> omega
            refine Jn_at (fun vs w' => vs = [] ∧ RA w' x (rcz (lsnI i) (lastS σ s) (cur ((opnS σ s).take ((opnS σ s).length - 1))) 6 ((s : Int) + 1)) ∧ Fm (fun _ => False) w4 w') ?_ ?_
            · rintro _ w8 ⟨rfl, hR8, hf48⟩ _
              refine ⟨rfl, ?_⟩
              have hA8 := hA.keep hf48
              have ho8 := hA8.own s vv hv
              obtain ⟨v', hsl, ho8', hob⟩ := own_hi ho8 (m := (opnS σ s).length - 1) (by omega) (by omega)
              simp only [Pu_some, extV_0, extV_1, extV_2, extV_3, nilV_ptr, nilV_fn, faV_ptr, lenV_sl, lenS_s, capV_sl, pickV_t, pickV_f, unV_not, unV_neg, isB_t, isB_f, isB_u, binV_add, binV_sub, binV_mul, binV_eql, binV_neq, binV_lss, binV_leq, binV_gtr, binV_geq, binV_seql, binV_sneq, binV_slss, binV_beql, binV_bneq, binV_peql, binV_pneq, add_add, add_none, Go.Al.add_zero, Nat.zero_add, Nat.add_zero, IfB_t, IfB_f, Gd_t, Gd_f, Ld_ptr, LdN_ptr, Option.isNone_some, Option.isNone_none, Option.isSome_some, Option.isSome_none, Bool.not_true, Bool.not_false, drew_cell, drew_heap, ix8 _ s hs, hcw hA8, e1, hsl]
              refine St_blk hA8.l15 (by have := hA8.nv; simp only [List.size_toArray]; omega) (own_one ho8') ?_
              intro w9 hw9 hs9 hf9
              have hl1 : ((opnS σ s).take ((opnS σ s).length - 1)).length = (opnS σ s).length - 1 := by rw [List.length_take]; omega
              have hA9 := hA8.setOpen hs hv (Fm.refl _ w8) (o := (opnS σ s).take ((opnS σ s).length - 1)) (by rw [hl1, List.map_take]; exact ho8') (fun b hb => .inl (by rw [← hob]; exact hb)) hw9 hf9
              have hR9 : RA w9 x _ := hf9.heap hR8 (by omega)
              have hn0' : decide ((opnS σ s).length = 0) = false := decide_eq_false hn0
              exact hkk _ _ ⟨rfl, _, _, false, _, 6, hA9.at (by rw [over_same hov]), hR9, by unfold lgStep; rw [hse, hov, h0, h1, h3, hn0']; rfl⟩
            · intro mm hmm
              by_cases hg1 : 1 < (opnS σ s).length
              · have d2 : decide ((1 : Int) < ((opnS σ s).length : Int)) = true := by rw [decide_eq_true_eq]; omega
                have e3 : IntKind.i64.wrap (((opnS σ s).length : Int) - 2) = (((opnS σ s).length - 2 : Nat) : Int) := by rw [wrap_id] <;> omega
                have hx2 : (opnS σ s)[(opnS σ s).length - 2]? = some (opnS σ s)[(opnS σ s).length - 2] := List.getElem?_eq_getElem (by omega)
                have hcur := cur_take hx2
                rw [show (opnS σ s).length - 2 + 1 = (opnS σ s).length - 1 by omega] at hcur
                generalize (opnS σ s)[(opnS σ s).length - 2] = y at hx2 hcur
                obtain ⟨ad7, hix7, _, hc7⟩ := (CellsAt.of_own (hA7.own s vv hv)).at1 (i := (opnS σ s).length - 2) (x := iv y) (by rw [List.getElem?_map, hx2]; rfl) .i64
                simp only [Pu_some, extV_0, extV_1, extV_2, extV_3, nilV_ptr, nilV_fn, faV_ptr, lenV_sl, lenS_s, capV_sl, pickV_t, pickV_f, unV_not, unV_neg, isB_t, isB_f, isB_u, binV_add, binV_sub, binV_mul, binV_eql, binV_neq, binV_lss, binV_leq, binV_gtr, binV_geq, binV_seql, binV_sneq, binV_slss, binV_beql, binV_bneq, binV_peql, binV_pneq, add_add, add_none, Go.Al.add_zero, Nat.zero_add, Nat.add_zero, IfB_t, IfB_f, Gd_t, Gd_f, Ld_ptr, LdN_ptr, Option.isNone_some, Option.isNone_none, Option.isSome_some, Option.isSome_none, Bool.not_true, Bool.not_false, drew_cell, drew_heap, d2, ix8 _ s hs, hcw hA7, e3, hix7, hc7]
                refine St_blk hR7 (by show 2 < 16; decide) rfl ?_
                intro w8 hw8 hs8 hf8
                refine hmm _ _ ⟨rfl, ?_, Fm.own hf47 hf8 (by rintro y rfl; omega)⟩
                rw [hcur]
                exact hw8
              · have d2 : decide ((1 : Int) < ((opnS σ s).length : Int)) = false := by rw [decide_eq_false_iff_not]; omega
                simp only [Pu_some, extV_0, extV_1, extV_2, extV_3, nilV_ptr, nilV_fn, faV_ptr, lenV_sl, lenS_s, capV_sl, pickV_t, pickV_f, unV_not, unV_neg, isB_t, isB_f, isB_u, binV_add, binV_sub, binV_mul, binV_eql, binV_neq, binV_lss, binV_leq, binV_gtr, binV_geq, binV_seql, binV_sneq, binV_slss, binV_beql, binV_bneq, binV_peql, binV_pneq, add_add, add_none, Go.Al.add_zero, Nat.zero_add, Nat.add_zero, IfB_t, IfB_f, Gd_t, Gd_f, Ld_ptr, LdN_ptr, Option.isNone_some, Option.isNone_none, Option.isSome_some, Option.isSome_none, Bool.not_true, Bool.not_false, drew_cell, drew_heap, d2]
                refine hmm _ _ ⟨rfl, ?_, hf47⟩
                rw [show (opnS σ s).length - 1 = 0 by omega]
                exact hR7
          | false =>
          simp only [Pu_some, extV_0, extV_1, extV_2, extV_3, nilV_ptr, nilV_fn, faV_ptr, lenV_sl, lenS_s, capV_sl, pickV_t, pickV_f, unV_not, unV_neg, isB_t, isB_f, isB_u, binV_add, binV_sub, binV_mul, binV_eql, binV_neq, binV_lss, binV_leq, binV_gtr, binV_geq, binV_seql, binV_sneq, binV_slss, binV_beql, binV_bneq, binV_peql, binV_pneq, add_add, add_none, Go.Al.add_zero, Nat.zero_add, Nat.add_zero, IfB_t, IfB_f, Gd_t, Gd_f, Ld_ptr, LdN_ptr, Option.isNone_some, Option.isNone_none, Option.isSome_some, Option.isSome_none, Bool.not_true, Bool.not_false, drew_cell, drew_heap]
          refine Jn_at (fun vs w' => vs = [.bool (decide (a.1 = 2) || decide (a.1 = 4))] ∧ w' = w6) ?_ ?_
          · rintro _ w6' ⟨rfl, hw6'⟩ _
            subst hw6'
            refine ⟨_, rfl, ?_⟩
            cases h24 : decide (a.1 = 2) || decide (a.1 = 4) with
            | false =>
              simp only [Pu_some, extV_0, extV_1, extV_2, extV_3, nilV_ptr, nilV_fn, faV_ptr, lenV_sl, lenS_s, capV_sl, pickV_t, pickV_f, unV_not, unV_neg, isB_t, isB_f, isB_u, binV_add, binV_sub, binV_mul, binV_eql, binV_neq, binV_lss, binV_leq, binV_gtr, binV_geq, binV_seql, binV_sneq, binV_slss, binV_beql, binV_bneq, binV_peql, binV_pneq, add_add, add_none, Go.Al.add_zero, Nat.zero_add, Nat.add_zero, IfB_t, IfB_f, Gd_t, Gd_f, Ld_ptr, LdN_ptr, Option.isNone_some, Option.isNone_none, Option.isSome_some, Option.isSome_none, Bool.not_true, Bool.not_false, drew_cell, drew_heap]
              exact unlast hA6 (by unfold lgStep; rw [hse, hov, h0, h1, h3, h24]; rfl)
            | true =>
            simp only [Pu_some, extV_0, extV_1, extV_2, extV_3, nilV_ptr, nilV_fn, faV_ptr, lenV_sl, lenS_s, capV_sl, pickV_t, pickV_f, unV_not, unV_neg, isB_t, isB_f, isB_u, binV_add, binV_sub, binV_mul, binV_eql, binV_neq, binV_lss, binV_leq, binV_gtr, binV_geq, binV_seql, binV_sneq, binV_slss, binV_beql, binV_bneq, binV_peql, binV_pneq, add_add, add_none, Go.Al.add_zero, Nat.zero_add, Nat.add_zero, IfB_t, IfB_f, Gd_t, Gd_f, Ld_ptr, LdN_ptr, Option.isNone_some, Option.isNone_none, Option.isSome_some, Option.isSome_none, Bool.not_true, Bool.not_false, drew_cell, drew_heap]
            refine St_blk hR6 (by show 3 < 16; decide) rfl ?_
            intro w7 hw7 hs7 hf7
            have hR7 : RA w7 x (rcz (lsnI i) (lastS σ s) 0 7 ((s : Int) + 1)) := hw7
            have hf47 : Fm (fun _ => False) w4 w7 := Fm.own hf46 hf7 (by rintro y rfl; omega)
            have hA7 := hA.keep hf47
            refine Jn_at (fun vs w' => vs = [] ∧ RA w' x (rcz (lsnI i) (lastS σ s) 0 (bif decide (a.1 = 4) then 8 else 7) ((s : Int) + 1)) ∧ Fm (fun _ => False) w4 w') ?_ ?_
            · rintro _ w8 ⟨rfl, hR8, hf48⟩ _
              refine ⟨rfl, ?_⟩
              have hA8 := hA.keep hf48
              simp only [Pu_some, extV_0, extV_1, extV_2, extV_3, nilV_ptr, nilV_fn, faV_ptr, lenV_sl, lenS_s, capV_sl, pickV_t, pickV_f, unV_not, unV_neg, isB_t, isB_f, isB_u, binV_add, binV_sub, binV_mul, binV_eql, binV_neq, binV_lss, binV_leq, binV_gtr, binV_geq, binV_seql, binV_sneq, binV_slss, binV_beql, binV_bneq, binV_peql, binV_pneq, add_add, add_none, Go.Al.add_zero, Nat.zero_add, Nat.add_zero, IfB_t, IfB_f, Gd_t, Gd_f, Ld_ptr, LdN_ptr, Option.isNone_some, Option.isNone_none, Option.isSome_some, Option.isSome_none, Bool.not_true, Bool.not_false, drew_cell, drew_heap, ix8 _ s hs, hA8.c14 hs, beq_dec]
              cases hl0 : decide (lastS σ s = 0) with
              | true =>
                simp only [Pu_some, extV_0, extV_1, extV_2, extV_3, nilV_ptr, nilV_fn, faV_ptr, lenV_sl, lenS_s, capV_sl, pickV_t, pickV_f, unV_not, unV_neg, isB_t, isB_f, isB_u, binV_add, binV_sub, binV_mul, binV_eql, binV_neq, binV_lss, binV_leq, binV_gtr, binV_geq, binV_seql, binV_sneq, binV_slss, binV_beql, binV_bneq, binV_peql, binV_pneq, add_add, add_none, Go.Al.add_zero, Nat.zero_add, Nat.add_zero, IfB_t, IfB_f, Gd_t, Gd_f, Ld_ptr, LdN_ptr, Option.isNone_some, Option.isNone_none, Option.isSome_some, Option.isSome_none, Bool.not_true, Bool.not_false, drew_cell, drew_heap]
                exact unlast hA8 (by unfold lgStep; rw [hse, hov, h0, h1, h3, h24, hl0]; rfl)
              | false =>
              simp only [Pu_some, extV_0, extV_1, extV_2, extV_3, nilV_ptr, nilV_fn, faV_ptr, lenV_sl, lenS_s, capV_sl, pickV_t, pickV_f, unV_not, unV_neg, isB_t, isB_f, isB_u, binV_add, binV_sub, binV_mul, binV_eql, binV_neq, binV_lss, binV_leq, binV_gtr, binV_geq, binV_seql, binV_sneq, binV_slss, binV_beql, binV_bneq, binV_peql, binV_pneq, add_add, add_none, Go.Al.add_zero, Nat.zero_add, Nat.add_zero, IfB_t, IfB_f, Gd_t, Gd_f, Ld_ptr, LdN_ptr, Option.isNone_some, Option.isNone_none, Option.isSome_some, Option.isSome_none, Bool.not_true, Bool.not_false, drew_cell, drew_heap, ix8 _ s hs]
              refine St_blk hA8.l16 (by have := hA8.n3; simp only [List.size_toArray, List.length_map]; omega) rfl ?_
              intro w9 hw9 hs9 hf9
              have hA9 := hA8.setOver hw9 hf9
              have hR9 : RA w9 x _ := hf9.heap hR8 (by omega)
              refine St_blk hA9.l15 (by have := hA9.nv; simp only [List.size_toArray]; omega) rfl ?_
              intro w10 hw10 hs10 hf10
              have hA10 := hA9.setOpen hs hv (Fm.refl _ w9) (v' := nl) (o := []) (World.ownsRow_nil _ _ _ _) (fun b hb => by cases hb) hw10 hf10
              have hR10 : RA w10 x _ := hf10.heap hR9 (by omega)
              exact hkk _ _ ⟨rfl, _, [], true, 0, _, hA10, hR10, by unfold lgStep; rw [hse, hov, h0, h1, h3, h24, hl0]; rfl⟩
            · intro mm hmm
              have p07 := hf47.cell' q0 (fun e => e)
              simp only [Pu_some, extV_0, extV_1, extV_2, extV_3, nilV_ptr, nilV_fn, faV_ptr, lenV_sl, lenS_s, capV_sl, pickV_t, pickV_f, unV_not, unV_neg, isB_t, isB_f, isB_u, binV_add, binV_sub, binV_mul, binV_eql, binV_neq, binV_lss, binV_leq, binV_gtr, binV_geq, binV_seql, binV_sneq, binV_slss, binV_beql, binV_bneq, binV_peql, binV_pneq, add_add, add_none, Go.Al.add_zero, Nat.zero_add, Nat.add_zero, IfB_t, IfB_f, Gd_t, Gd_f, Ld_ptr, LdN_ptr, Option.isNone_some, Option.isNone_none, Option.isSome_some, Option.isSome_none, Bool.not_true, Bool.not_false, drew_cell, drew_heap, hix, p07, beq_dec]
              cases h4 : decide (a.1 = 4) with
              | true =>
                simp only [Pu_some, extV_0, extV_1, extV_2, extV_3, nilV_ptr, nilV_fn, faV_ptr, lenV_sl, lenS_s, capV_sl, pickV_t, pickV_f, unV_not, unV_neg, isB_t, isB_f, isB_u, binV_add, binV_sub, binV_mul, binV_eql, binV_neq, binV_lss, binV_leq, binV_gtr, binV_geq, binV_seql, binV_sneq, binV_slss, binV_beql, binV_bneq, binV_peql, binV_pneq, add_add, add_none, Go.Al.add_zero, Nat.zero_add, Nat.add_zero, IfB_t, IfB_f, Gd_t, Gd_f, Ld_ptr, LdN_ptr, Option.isNone_some, Option.isNone_none, Option.isSome_some, Option.isSome_none, Bool.not_true, Bool.not_false, drew_cell, drew_heap]
                refine St_blk hR7 (by show 3 < 16; decide) rfl ?_
                intro w8 hw8 hs8 hf8
                exact hmm _ _ ⟨rfl, by rw [h4]; exact hw8, Fm.own hf47 hf8 (by rintro y rfl; omega)⟩
              | false =>
                simp only [Pu_some, extV_0, extV_1, extV_2, extV_3, nilV_ptr, nilV_fn, faV_ptr, lenV_sl, lenS_s, capV_sl, pickV_t, pickV_f, unV_not, unV_neg, isB_t, isB_f, isB_u, binV_add, binV_sub, binV_mul, binV_eql, binV_neq, binV_lss, binV_leq, binV_gtr, binV_geq, binV_seql, binV_sneq, binV_slss, binV_beql, binV_bneq, binV_peql, binV_pneq, add_add, add_none, Go.Al.add_zero, Nat.zero_add, Nat.add_zero, IfB_t, IfB_f, Gd_t, Gd_f, Ld_ptr, LdN_ptr, Option.isNone_some, Option.isNone_none, Option.isSome_some, Option.isSome_none, Bool.not_true, Bool.not_false, drew_cell, drew_heap]
                exact hmm _ _ ⟨rfl, by rw [h4]; exact hR7, hf47⟩
          · intro mm hmm
            cases h2 : decide (a.1 = 2) with
            | true =>
              simp only [Pu_some, extV_0, extV_1, extV_2, extV_3, nilV_ptr, nilV_fn, faV_ptr, lenV_sl, lenS_s, capV_sl, pickV_t, pickV_f, unV_not, unV_neg, isB_t, isB_f, isB_u, binV_add, binV_sub, binV_mul, binV_eql, binV_neq, binV_lss, binV_leq, binV_gtr, binV_geq, binV_seql, binV_sneq, binV_slss, binV_beql, binV_bneq, binV_peql, binV_pneq, add_add, add_none, Go.Al.add_zero, Nat.zero_add, Nat.add_zero, IfB_t, IfB_f, Gd_t, Gd_f, Ld_ptr, LdN_ptr, Option.isNone_some, Option.isNone_none, Option.isSome_some, Option.isSome_none, Bool.not_true, Bool.not_false, drew_cell, drew_heap]
              exact hmm _ _ ⟨by rw [h2]; rfl, rfl⟩
            | false =>
              simp only [Pu_some, extV_0, extV_1, extV_2, extV_3, nilV_ptr, nilV_fn, faV_ptr, lenV_sl, lenS_s, capV_sl, pickV_t, pickV_f, unV_not, unV_neg, isB_t, isB_f, isB_u, binV_add, binV_sub, binV_mul, binV_eql, binV_neq, binV_lss, binV_leq, binV_gtr, binV_geq, binV_seql, binV_sneq, binV_slss, binV_beql, binV_bneq, binV_peql, binV_pneq, add_add, add_none, Go.Al.add_zero, Nat.zero_add, Nat.add_zero, IfB_t, IfB_f, Gd_t, Gd_f, Ld_ptr, LdN_ptr, Option.isNone_some, Option.isNone_none, Option.isSome_some, Option.isSome_none, Bool.not_true, Bool.not_false, drew_cell, drew_heap]
              exact hmm _ _ ⟨by rw [h2, Bool.false_or], rfl⟩
      · intro kk hkk
        rcases slot_rem a.2 with ⟨h1, h2⟩ | ⟨h1, h2⟩
        · have d2 : decide (a.2.tmod 8 < 0) = true := decide_eq_true h1
          have e3 : IntKind.i64.wrap (a.2.tmod 8 + 8) = (slot a.2 : Int) := by
            have := slot_lt a.2
            rw [h2, wrap_id]; omega
          simp only [Pu_some, extV_0, extV_1, extV_2, extV_3, nilV_ptr, nilV_fn, faV_ptr, lenV_sl, lenS_s, capV_sl, pickV_t, pickV_f, unV_not, unV_neg, isB_t, isB_f, isB_u, binV_add, binV_sub, binV_mul, binV_eql, binV_neq, binV_lss, binV_leq, binV_gtr, binV_geq, binV_seql, binV_sneq, binV_slss, binV_beql, binV_bneq, binV_peql, binV_pneq, add_add, add_none, Go.Al.add_zero, Nat.zero_add, Nat.add_zero, IfB_t, IfB_f, Gd_t, Gd_f, Ld_ptr, LdN_ptr, Option.isNone_some, Option.isNone_none, Option.isSome_some, Option.isSome_none, Bool.not_true, Bool.not_false, drew_cell, drew_heap, d2, e3]
          exact hkk _ _ ⟨rfl, rfl⟩
        · have d2 : decide (a.2.tmod 8 < 0) = false := decide_eq_false (by omega)
          rw [h2] at d2 ⊢
          simp only [Pu_some, extV_0, extV_1, extV_2, extV_3, nilV_ptr, nilV_fn, faV_ptr, lenV_sl, lenS_s, capV_sl, pickV_t, pickV_f, unV_not, unV_neg, isB_t, isB_f, isB_u, binV_add, binV_sub, binV_mul, binV_eql, binV_neq, binV_lss, binV_leq, binV_gtr, binV_geq, binV_seql, binV_sneq, binV_slss, binV_beql, binV_bneq, binV_peql, binV_pneq, add_add, add_none, Go.Al.add_zero, Nat.zero_add, Nat.add_zero, IfB_t, IfB_f, Gd_t, Gd_f, Ld_ptr, LdN_ptr, Option.isNone_some, Option.isNone_none, Option.isSome_some, Option.isSome_none, Bool.not_true, Bool.not_false, drew_cell, drew_heap, d2]
          exact hkk _ _ ⟨rfl, rfl⟩
  · have hie : i = L.length := by omega
    subst hie
    have d1 : decide (((L.length : Nat) : Int) < (L.length : Int)) = false := by simp
    simp only [Pu_some, extV_0, extV_1, extV_2, extV_3, nilV_ptr, nilV_fn, faV_ptr, lenV_sl, lenS_s, capV_sl, pickV_t, pickV_f, unV_not, unV_neg, isB_t, isB_f, isB_u, binV_add, binV_sub, binV_mul, binV_eql, binV_neq, binV_lss, binV_leq, binV_gtr, binV_geq, binV_seql, binV_sneq, binV_slss, binV_beql, binV_bneq, binV_peql, binV_pneq, add_add, add_none, Go.Al.add_zero, Nat.zero_add, Nat.add_zero, IfB_t, IfB_f, Gd_t, Gd_f, Ld_ptr, LdN_ptr, Option.isNone_some, Option.isNone_none, Option.isSome_some, Option.isSome_none, Bool.not_true, Bool.not_false, drew_cell, drew_heap, h.lenV, d1]
    exact ⟨ws, out, rfl, hA⟩

end Go.Proofs.Ythgdinjgdjiknaa
