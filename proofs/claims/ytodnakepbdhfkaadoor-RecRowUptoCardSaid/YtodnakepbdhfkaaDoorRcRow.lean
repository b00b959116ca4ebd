/- Records that stand one behind the other are read one behind the other. -/
import Derived.Test.YtodnakepbdhfkaaDoorRcLaws
namespace Go.Proofs.YtodnakepbdhfkaaDoor
open Go.Al Go.Proofs
set_option linter.unusedVariables false
set_option linter.unusedSimpArgs false
set_option linter.unusedSectionVars false
set_option maxRecDepth 100000

def vRecs : Vw Tryd.prog 61 (List RecT) := vSlice Tryd.underlying61 (by kernel_rfl) vRec
theorem vRecs_szd : Szd vRecs (fun xs => (xs.map recSz).sum + 1) := Szd.slice vRec_szd
theorem recSz_pos (x : RecT) : 1 ≤ recSz x := by unfold recSz; omega
theorem sum_ge {l : List RecT} : l.length ≤ (l.map recSz).sum ∧ ∀ x ∈ l, recSz x ≤ (l.map recSz).sum := by
  induction l with
  | nil => simp
  | cons x l ih =>
    have := recSz_pos x
    simp only [List.length_cons, List.map_cons, List.sum_cons]
    refine ⟨by omega, fun y hy => ?_⟩
    rcases List.mem_cons.1 hy with rfl | hy
    · omega
    · have := ih.2 y hy; omega
abbrev RV := { c : Array Value // c.size = 16 }
def rvl (x : Rc × RV) : List Value := x.2.1.toList
theorem rvl_len (x : Rc × RV) : (rvl x).length = 16 := by unfold rvl; rw [Array.length_toList]; exact x.2.2
theorem E61 : ElemT Tryd.prog 61 52 16 216 := elemT_of Tryd.underlying61 (by kernel_rfl)
theorem bs61 (r : Rc) (a1 a2 a3 a4 a5 : Option Addr) (n1 n2 n3 n4 n5 c1 c2 c3 c4 c5 : Nat) (w : World) : (Instr.buildSlice 61 1 #[(0, .agg (rcs r (.slice a1 n1 c1) (.slice a2 n2 c2) (.slice a3 n3 c3) (.slice a4 n4 c4) (.slice a5 n5 c5)))]).run Tryd.prog w = .ok (.slice (some ⟨w.heap.size, 0, none⟩) 1 1) (w.alloc (.cells (rcs r (.slice a1 n1 c1) (.slice a2 n2 c2) (.slice a3 n3 c3) (.slice a4 n4 c4) (.slice a5 n5 c5)) 52)) := by kernel_rfl
theorem bs61r {w : World} {cs : Array Value} {r : Rc} (h : RcAs w cs r) (w' : World) : (Instr.buildSlice 61 1 #[(0, .agg cs)]).run Tryd.prog w' = .ok (.slice (some ⟨w'.heap.size, 0, none⟩) 1 1) (w'.alloc (.cells cs.toList.toArray 52)) := by
  obtain ⟨vs, vm, vi, vp, vt, rfl, _, h1, h2, h3, h4, h5⟩ := h.ex
  obtain ⟨X, _, h3, _⟩ := h3.ex
  obtain ⟨⟨a1, c1, rfl, _⟩, _⟩ := h1
  obtain ⟨⟨a2, c2, rfl, _⟩, _⟩ := h2
  obtain ⟨⟨a3, c3, rfl, _⟩, _⟩ := h3
  obtain ⟨⟨a4, c4, rfl, _⟩, _⟩ := h4
  obtain ⟨⟨a5, c5, rfl, _⟩, _⟩ := h5
  exact bs61 _ _ _ _ _ _ _ _ _ _ _ _ _ _ _ _ _
def encs (L : List Rc) : Bs := L.flatMap fun r => (rEnc r).1
theorem encs_len {L : List Rc} (h : ∀ r ∈ L, (rCheck r).2 = 0 ∧ ∀ m ∈ r.imgs, m.2.lsn ≤ 9223372036854775807) : (encs L).length ≤ 65543 * L.length := by
  induction L with
  | nil => simp [encs]
  | cons r L ih =>
    have h1 := (rEnc_len (h r (by simp)).1 (h r (by simp)).2).2
    have h2 := ih (fun q hq => h q (by simp [hq]))
    have e : encs (r :: L) = (rEnc r).1 ++ encs L := by simp [encs]
    rw [e, List.length_append, List.length_cons]; omega

set_option maxHeartbeats 8000000 in
theorem recrow_law {w : World} {v : Value} {xs : List RecT} (hv : SliceAs vRec w v xs) (hz : (xs.map recSz).sum + 1 ≤ 1048576) : Cl Tryd.prog 16 [v] w fun r w' => r = .bool true ∧ Fm (fun _ => False) w w' := by
  have hz1 := sum_ge (l := xs)
  have hc52 : Tryd.prog.cellsOf 52 = 16 := by kernel_rfl
  have hmk : ByteArray.mk #[] = str [] := rfl
  refine c16 ?_; unfold T16
  refine ⟨fun vl w' => ∃ (i : Nat) (W : List (Rc × RV)) (wv : Value), vl = [stv (encs (W.map (·.1))), wv, iv i] ∧ i ≤ xs.length ∧ W.length ≤ i ∧ (∀ x ∈ W, (rCheck x.1).2 = 0 ∧ RcAs w x.2.1 x.1) ∧ w'.ownsRow w.heap.size 52 16 wv W.length (W.flatMap rvl) ∧ Fm (fun _ => False) w w', fun vl _ => (xs.length - nth vl 2).toNat, ⟨0, [], nl, rfl, by omega, by simp, by simp, World.ownsRow_nil _ _ _ _, Fm.refl _ _⟩, ?_⟩
  rintro _ w1 av wv iv1 ⟨i, W, wv0, hvl, hi, hWl, hW, ho1, hF1⟩
  cases hvl
  have hWe := encs_len (L := W.map (·.1)) (fun r hr => by
    obtain ⟨x, hx, rfl⟩ := List.mem_map.1 hr
    exact ⟨(hW x hx).1, (hW x hx).2.lsns⟩)
  rw [List.length_map] at hWe
  by_cases hlt : i < xs.length
  · have hx : xs[i]? = some xs[i] := List.getElem?_eq_getElem hlt
    have hmem := List.getElem_mem hlt
    generalize xs[i] = x at hx hmem
    have d1 : decide ((i : Int) < (xs.length : Int)) = true := by rw [decide_eq_true_eq]; omega
    have e1 : IntKind.i64.wrap ((i : Int) + 1) = ((i + 1 : Nat) : Int) := by rw [wrap_id] <;> omega
    obtain ⟨ad, cs', h1, h2, h3, h4⟩ := (hv.keep hF1).ld hx hc52 .i64
    obtain ⟨ad0, cs0, h10, h20, h30, h40⟩ := hv.ld hx hc52 .i64
    rw [h1] at h10
    cases h10
    have hcs : cellsV w1 ad 16 = some (.agg cs0.toArray) := cellsV_keep h30 hF1 (fun e => e)
    rw [h3] at hcs
    have hcs2 : cs'.toArray = cs0.toArray := by simpa using hcs
    have hR0 : RcAs w cs0.toArray (rcOf x) := rec_of (by rw [List.toList_toArray]; exact h20) (by have := hz1.2 x hmem; omega)
    rw [hcs2] at h3
    generalize cs0.toArray = cs at h3 hR0
    have hR1 := hR0.keep hF1
    have h1' : ixV 16 v (iv (i : Int)) = some (.pointer (some ad)) := h1
    simp only [Pu_some, extV_0, extV_1, extV_2, extV_3, nilV_ptr, nilV_fn, faV_ptr, lenV_sl, lenS_s, capV_sl, pickV_t, pickV_f, unV_not, unV_neg, isB_t, isB_f, isB_u, binV_add, binV_sub, binV_mul, binV_eql, binV_neq, binV_lss, binV_leq, binV_gtr, binV_geq, binV_seql, binV_sneq, binV_slss, binV_beql, binV_bneq, binV_peql, binV_pneq, add_add, add_none, Go.Al.add_zero, Nat.zero_add, Nat.add_zero, IfB_t, IfB_f, Gd_t, Gd_f, Ld_ptr, LdN_ptr, Option.isNone_some, Option.isNone_none, Option.isSome_some, Option.isSome_none, Bool.not_true, Bool.not_false, drew_cell, drew_heap, hv.lenV, d1]
    refine Jn_at (fun vl w' => ∃ (W : List (Rc × RV)) (wv : Value), vl = [stv (encs (W.map (·.1))), wv] ∧ W.length ≤ i + 1 ∧ (∀ x ∈ W, (rCheck x.1).2 = 0 ∧ RcAs w x.2.1 x.1) ∧ w'.ownsRow w.heap.size 52 16 wv W.length (W.flatMap rvl) ∧ Fm (fun _ => False) w w') ?_ ?_
    · rintro _ w2 ⟨W', wv', rfl, g1, g2, g3, g4⟩ _
      refine ⟨_, _, rfl, ?_⟩
      simp only [Pu_some, extV_0, extV_1, extV_2, extV_3, nilV_ptr, nilV_fn, faV_ptr, lenV_sl, lenS_s, capV_sl, pickV_t, pickV_f, unV_not, unV_neg, isB_t, isB_f, isB_u, binV_add, binV_sub, binV_mul, binV_eql, binV_neq, binV_lss, binV_leq, binV_gtr, binV_geq, binV_seql, binV_sneq, binV_slss, binV_beql, binV_bneq, binV_peql, binV_pneq, add_add, add_none, Go.Al.add_zero, Nat.zero_add, Nat.add_zero, IfB_t, IfB_f, Gd_t, Gd_f, Ld_ptr, LdN_ptr, Option.isNone_some, Option.isNone_none, Option.isSome_some, Option.isSome_none, Bool.not_true, Bool.not_false, drew_cell, drew_heap, e1]
      exact ⟨⟨i + 1, W', wv', rfl, by omega, g1, g2, g3, g4⟩, by simp only [nth_2]; omega⟩
    · intro jj hjj
      simp only [Pu_some, extV_0, extV_1, extV_2, extV_3, nilV_ptr, nilV_fn, faV_ptr, lenV_sl, lenS_s, capV_sl, pickV_t, pickV_f, unV_not, unV_neg, isB_t, isB_f, isB_u, binV_add, binV_sub, binV_mul, binV_eql, binV_neq, binV_lss, binV_leq, binV_gtr, binV_geq, binV_seql, binV_sneq, binV_slss, binV_beql, binV_bneq, binV_peql, binV_pneq, add_add, add_none, Go.Al.add_zero, Nat.zero_add, Nat.add_zero, IfB_t, IfB_f, Gd_t, Gd_f, Ld_ptr, LdN_ptr, Option.isNone_some, Option.isNone_none, Option.isSome_some, Option.isSome_none, Bool.not_true, Bool.not_false, drew_cell, drew_heap, h1', h3]
      refine (renc_spec hR1).mono ?_
      rintro _ w2 ⟨rfl, hf2⟩
      have hF2 := Fmf hF1 hf2
      have ho2 := own_keep ho1 hf2 (fun _ _ _ _ e => e)
      rw [rEnc_err]
      simp only [Pu_some, extV_0, extV_1, extV_2, extV_3, nilV_ptr, nilV_fn, faV_ptr, lenV_sl, lenS_s, capV_sl, pickV_t, pickV_f, unV_not, unV_neg, isB_t, isB_f, isB_u, binV_add, binV_sub, binV_mul, binV_eql, binV_neq, binV_lss, binV_leq, binV_gtr, binV_geq, binV_seql, binV_sneq, binV_slss, binV_beql, binV_bneq, binV_peql, binV_pneq, add_add, add_none, Go.Al.add_zero, Nat.zero_add, Nat.add_zero, IfB_t, IfB_f, Gd_t, Gd_f, Ld_ptr, LdN_ptr, Option.isNone_some, Option.isNone_none, Option.isSome_some, Option.isSome_none, Bool.not_true, Bool.not_false, drew_cell, drew_heap, beq_dec]
      cases hz0 : decide ((rCheck (rcOf x)).2 = 0) with
      | false =>
        simp only [Pu_some, extV_0, extV_1, extV_2, extV_3, nilV_ptr, nilV_fn, faV_ptr, lenV_sl, lenS_s, capV_sl, pickV_t, pickV_f, unV_not, unV_neg, isB_t, isB_f, isB_u, binV_add, binV_sub, binV_mul, binV_eql, binV_neq, binV_lss, binV_leq, binV_gtr, binV_geq, binV_seql, binV_sneq, binV_slss, binV_beql, binV_bneq, binV_peql, binV_pneq, add_add, add_none, Go.Al.add_zero, Nat.zero_add, Nat.add_zero, IfB_t, IfB_f, Gd_t, Gd_f, Ld_ptr, LdN_ptr, Option.isNone_some, Option.isNone_none, Option.isSome_some, Option.isSome_none, Bool.not_true, Bool.not_false, drew_cell, drew_heap]
        exact hjj _ _ ⟨W, wv, rfl, by omega, hW, ho2, hF2⟩
      | true =>
        rw [decide_eq_true_eq] at hz0
        have hel := rEnc_len hz0 hR0.lsns
        simp only [Pu_some, extV_0, extV_1, extV_2, extV_3, nilV_ptr, nilV_fn, faV_ptr, lenV_sl, lenS_s, capV_sl, pickV_t, pickV_f, unV_not, unV_neg, isB_t, isB_f, isB_u, binV_add, binV_sub, binV_mul, binV_eql, binV_neq, binV_lss, binV_leq, binV_gtr, binV_geq, binV_seql, binV_sneq, binV_slss, binV_beql, binV_bneq, binV_peql, binV_pneq, add_add, add_none, Go.Al.add_zero, Nat.zero_add, Nat.add_zero, IfB_t, IfB_f, Gd_t, Gd_f, Ld_ptr, LdN_ptr, Option.isNone_some, Option.isNone_none, Option.isSome_some, Option.isSome_none, Bool.not_true, Bool.not_false, drew_cell, drew_heap]
        rw [sadd (by omega)]
        have h3' := cellsV_keep h3 hf2 (fun e => e)
        simp only [Pu_some, extV_0, extV_1, extV_2, extV_3, nilV_ptr, nilV_fn, faV_ptr, lenV_sl, lenS_s, capV_sl, pickV_t, pickV_f, unV_not, unV_neg, isB_t, isB_f, isB_u, binV_add, binV_sub, binV_mul, binV_eql, binV_neq, binV_lss, binV_leq, binV_gtr, binV_geq, binV_seql, binV_sneq, binV_slss, binV_beql, binV_bneq, binV_peql, binV_pneq, add_add, add_none, Go.Al.add_zero, Nat.zero_add, Nat.add_zero, IfB_t, IfB_f, Gd_t, Gd_f, Ld_ptr, LdN_ptr, Option.isNone_some, Option.isNone_none, Option.isSome_some, Option.isSome_none, Bool.not_true, Bool.not_false, drew_cell, drew_heap, h1', h3']
        refine RunS_ok (bs61r hR0 _) ?_
        have hf3 := Fm.alloc (fun _ => False) w2 (.cells cs.toList.toArray 52)
        have hn3 := alloc_new w2 (.cells cs.toList.toArray 52)
        have hF3 := Fmf hF2 hf3
        have ho3 := own_keep ho2 hf3 (fun _ _ _ _ e => e)
        have hz3 := hF3.size
        generalize w2.alloc (.cells cs.toList.toArray 52) = w3 at hf3 hn3 hF3 ho3 hz3
        obtain ⟨wv', w4, hr4, ho4, _, hf4⟩ := app_fine E61 (by omega) ho3 (cs := cs.toList) hn3 (by rw [Array.length_toList]; exact hR0.size) (hR0.one) (by omega) (by unfold maxLen; omega) hz3
        refine RunS_ok hr4 ?_
        have hlt4 := own_lt ho3
        refine hjj _ _ ⟨W ++ [(rcOf x, ⟨cs, hR0.size⟩)], wv', ?_, by simp; omega, ?_, ?_, Fm.own hF3 hf4 (fun y hy => (hlt4 y hy).1)⟩
        · simp [encs]
        · intro y hy
          rcases List.mem_append.1 hy with hy | hy
          · exact hW y hy
          · obtain rfl : y = _ := by simpa using hy
            exact ⟨hz0, hR0⟩
        · rw [List.length_append, List.flatMap_append, List.flatMap_cons, List.flatMap_nil, List.append_nil]
          exact ho4
  · have d1 : decide ((i : Int) < (xs.length : Int)) = false := by rw [decide_eq_false_iff_not]; omega
    simp only [Pu_some, extV_0, extV_1, extV_2, extV_3, nilV_ptr, nilV_fn, faV_ptr, lenV_sl, lenS_s, capV_sl, pickV_t, pickV_f, unV_not, unV_neg, isB_t, isB_f, isB_u, binV_add, binV_sub, binV_mul, binV_eql, binV_neq, binV_lss, binV_leq, binV_gtr, binV_geq, binV_seql, binV_sneq, binV_slss, binV_beql, binV_bneq, binV_peql, binV_pneq, add_add, add_none, Go.Al.add_zero, Nat.zero_add, Nat.add_zero, IfB_t, IfB_f, Gd_t, Gd_f, Ld_ptr, LdN_ptr, Option.isNone_some, Option.isNone_none, Option.isSome_some, Option.isSome_none, Bool.not_true, Bool.not_false, drew_cell, drew_heap, hv.lenV, d1]
    refine ⟨fun vl w' => ∃ k : Nat, vl = [stv (encs ((W.drop k).map (·.1))), iv k] ∧ k ≤ W.length ∧ Fm (fun _ => False) w1 w', fun vl _ => (W.length - nth vl 1).toNat, ⟨0, by rw [List.drop_zero]; rfl, by omega, Fm.refl _ _⟩, ?_⟩
    rintro _ w2 av2 kv ⟨k, hvl, hk, hf12⟩
    cases hvl
    have hF2 := Fmf hF1 hf12
    have ho2 := own_keep ho1 hf12 (fun _ _ _ _ e => e)
    have hc2 := CellsAt.of_own ho2
    have hde := encs_len (L := (W.drop k).map (·.1)) (fun r hr => by
      obtain ⟨x, hx, rfl⟩ := List.mem_map.1 hr
      have hx := List.mem_of_mem_drop hx
      exact ⟨(hW x hx).1, (hW x hx).2.lsns⟩)
    rw [List.length_map, List.length_drop] at hde
    by_cases hlt2 : k < W.length
    · have hx : W[k]? = some W[k] := List.getElem?_eq_getElem hlt2
      have hdr := List.drop_eq_getElem_cons hlt2
      have hm := List.getElem_mem hlt2
      generalize W[k] = x at hx hdr hm
      obtain ⟨hok, hRx⟩ := hW x hm
      have henc : encs ((W.drop k).map (·.1)) = (rEnc x.1).1 ++ encs ((W.drop (k + 1)).map (·.1)) := by rw [hdr]; simp [encs]
      have hdb := dec_back hok hRx.lsns (encs ((W.drop (k + 1)).map (·.1)))
      obtain ⟨l1, l2⟩ := rEnc_len hok hRx.lsns
      rw [henc] at hde ⊢
      have hal : ((rEnc x.1).1 ++ encs ((W.drop (k + 1)).map (·.1))).length = (rEnc x.1).1.length + (encs ((W.drop (k + 1)).map (·.1))).length := List.length_append
      have hdrop : ((rEnc x.1).1 ++ encs ((W.drop (k + 1)).map (·.1))).drop (rEnc x.1).1.length = encs ((W.drop (k + 1)).map (·.1)) := List.drop_left
      generalize hA : (rEnc x.1).1 ++ encs ((W.drop (k + 1)).map (·.1)) = A at hdb hde hal hdrop ⊢
      generalize (rEnc x.1).1.length = n at hdb l1 l2 hal hdrop
      have d2 : decide ((k : Int) < (W.length : Int)) = true := by rw [decide_eq_true_eq]; omega
      have e2 : IntKind.i64.wrap ((k : Int) + 1) = ((k + 1 : Nat) : Int) := by rw [wrap_id] <;> omega
      simp only [Pu_some, extV_0, extV_1, extV_2, extV_3, nilV_ptr, nilV_fn, faV_ptr, lenV_sl, lenS_s, capV_sl, pickV_t, pickV_f, unV_not, unV_neg, isB_t, isB_f, isB_u, binV_add, binV_sub, binV_mul, binV_eql, binV_neq, binV_lss, binV_leq, binV_gtr, binV_geq, binV_seql, binV_sneq, binV_slss, binV_beql, binV_bneq, binV_peql, binV_pneq, add_add, add_none, Go.Al.add_zero, Nat.zero_add, Nat.add_zero, IfB_t, IfB_f, Gd_t, Gd_f, Ld_ptr, LdN_ptr, Option.isNone_some, Option.isNone_none, Option.isSome_some, Option.isSome_none, Bool.not_true, Bool.not_false, drew_cell, drew_heap, hc2.lenV, d2]
      refine (rdec_spec w2 A (by omega)).mono ?_
      rintro _ w3 ⟨ca, rfl, hO3, hf3⟩
      rw [hdb] at hO3 ⊢
      have hA3 : RcAs w3 ca x.1 := hO3.as
      have hF3 := Fmf hF2 hf3
      simp only [Pu_some, extV_0, extV_1, extV_2, extV_3, nilV_ptr, nilV_fn, faV_ptr, lenV_sl, lenS_s, capV_sl, pickV_t, pickV_f, unV_not, unV_neg, isB_t, isB_f, isB_u, binV_add, binV_sub, binV_mul, binV_eql, binV_neq, binV_lss, binV_leq, binV_gtr, binV_geq, binV_seql, binV_sneq, binV_slss, binV_beql, binV_bneq, binV_peql, binV_pneq, add_add, add_none, Go.Al.add_zero, Nat.zero_add, Nat.add_zero, IfB_t, IfB_f, Gd_t, Gd_f, Ld_ptr, LdN_ptr, Option.isNone_some, Option.isNone_none, Option.isSome_some, Option.isSome_none, Bool.not_true, Bool.not_false, drew_cell, drew_heap]
      refine New_any ?_
      intro x9 w4 hx9 hs4 hw4 hf4
      refine St_all hw4 rfl hA3.size hA3.one ?_
      intro w5 hw5 hs5 hf5
      have hf35 : Fm (fun _ => False) w3 w5 := Fm.own hf4 hf5 (by rintro y rfl; omega)
      have hf36 := Fmf hf35 (Fm.drew (fun _ => False) w5)
      have hF6 := Fmf hF3 hf36
      have hw6 : w5.drew.heap[x9]? = some (.cells ca 52) := hw5
      have ho6 := own_keep ho2 (Fmf hf3 hf36) (fun _ _ _ _ e => e)
      have hA6 := hA3.keep hf36
      obtain ⟨adw, hiw, hcw, _⟩ := cells_ld rvl_len (by omega) (CellsAt.of_own ho6) hx
      have hcw5 : cellsV w5 adw 16 = some (.agg (rvl x).toArray) := hcw
      have hiw' : ixV 16 wv (iv (k : Int)) = some (.pointer (some adw)) := hiw
      have hrv : (rvl x).toArray = x.2.1 := by simp [rvl]
      rw [hrv] at hcw hcw5
      have z1 : decide ((n : Int) < 1) = false := by rw [decide_eq_false_iff_not]; omega
      have z2 : decide ((A.length : Int) < (n : Int)) = false := by rw [decide_eq_false_iff_not]; omega
      simp only [Pu_some, extV_0, extV_1, extV_2, extV_3, nilV_ptr, nilV_fn, faV_ptr, lenV_sl, lenS_s, capV_sl, pickV_t, pickV_f, unV_not, unV_neg, isB_t, isB_f, isB_u, binV_add, binV_sub, binV_mul, binV_eql, binV_neq, binV_lss, binV_leq, binV_gtr, binV_geq, binV_seql, binV_sneq, binV_slss, binV_beql, binV_bneq, binV_peql, binV_pneq, add_add, add_none, Go.Al.add_zero, Nat.zero_add, Nat.add_zero, IfB_t, IfB_f, Gd_t, Gd_f, Ld_ptr, LdN_ptr, Option.isNone_some, Option.isNone_none, Option.isSome_some, Option.isSome_none, Bool.not_true, Bool.not_false, drew_cell, drew_heap, bne_self_eq_false, z1, str_size, z2, cellsV_blk hw5 hA3.size, cellsV_blk hw6 hA3.size, hiw', hcw, hcw5, true_and]
      generalize w5.drew = w6 at hf36 hF6 hw6 ho6 hA6 hcw
      refine (rcsame_spec hA6 (hRx.keep hF6)).mono ?_
      rintro _ w7 ⟨rfl, hf7⟩
      have s1 := slS_lo (l := A) (i := n) (by omega) .i64
      rw [hdrop] at s1
      simp only [Pu_some, extV_0, extV_1, extV_2, extV_3, nilV_ptr, nilV_fn, faV_ptr, lenV_sl, lenS_s, capV_sl, pickV_t, pickV_f, unV_not, unV_neg, isB_t, isB_f, isB_u, binV_add, binV_sub, binV_mul, binV_eql, binV_neq, binV_lss, binV_leq, binV_gtr, binV_geq, binV_seql, binV_sneq, binV_slss, binV_beql, binV_bneq, binV_peql, binV_pneq, add_add, add_none, Go.Al.add_zero, Nat.zero_add, Nat.add_zero, IfB_t, IfB_f, Gd_t, Gd_f, Ld_ptr, LdN_ptr, Option.isNone_some, Option.isNone_none, Option.isSome_some, Option.isSome_none, Bool.not_true, Bool.not_false, drew_cell, drew_heap, decide_true, Bool.not_true, s1, e2]
      exact ⟨⟨k + 1, rfl, by omega, Fmf hf12 (Fmf hf3 (Fmf hf36 hf7))⟩, by simp only [nth_1]; omega⟩
    · have hke : k = W.length := by omega
      subst hke
      rw [List.drop_length]
      have hnil : encs (([] : List (Rc × RV)).map (·.1)) = [] := rfl
      rw [hnil]
      have d2 : decide (((W.length : Nat) : Int) < (W.length : Int)) = false := by simp
      have hr0 : rDec [] = (none, 0, 40) := rfl
      simp only [Pu_some, extV_0, extV_1, extV_2, extV_3, nilV_ptr, nilV_fn, faV_ptr, lenV_sl, lenS_s, capV_sl, pickV_t, pickV_f, unV_not, unV_neg, isB_t, isB_f, isB_u, binV_add, binV_sub, binV_mul, binV_eql, binV_neq, binV_lss, binV_leq, binV_gtr, binV_geq, binV_seql, binV_sneq, binV_slss, binV_beql, binV_bneq, binV_peql, binV_pneq, add_add, add_none, Go.Al.add_zero, Nat.zero_add, Nat.add_zero, IfB_t, IfB_f, Gd_t, Gd_f, Ld_ptr, LdN_ptr, Option.isNone_some, Option.isNone_none, Option.isSome_some, Option.isSome_none, Bool.not_true, Bool.not_false, drew_cell, drew_heap, hc2.lenV, d2]
      refine (rdec_spec w2 [] (by simp)).mono ?_
      rintro _ w3 ⟨ca, rfl, hO3, hf3⟩
      rw [hr0] at hO3 ⊢
      have hA3 := hO3.as
      have hF3 := Fmf hF2 hf3
      simp only [Pu_some, extV_0, extV_1, extV_2, extV_3, nilV_ptr, nilV_fn, faV_ptr, lenV_sl, lenS_s, capV_sl, pickV_t, pickV_f, unV_not, unV_neg, isB_t, isB_f, isB_u, binV_add, binV_sub, binV_mul, binV_eql, binV_neq, binV_lss, binV_leq, binV_gtr, binV_geq, binV_seql, binV_sneq, binV_slss, binV_beql, binV_bneq, binV_peql, binV_pneq, add_add, add_none, Go.Al.add_zero, Nat.zero_add, Nat.add_zero, IfB_t, IfB_f, Gd_t, Gd_f, Ld_ptr, LdN_ptr, Option.isNone_some, Option.isNone_none, Option.isSome_some, Option.isSome_none, Bool.not_true, Bool.not_false, drew_cell, drew_heap]
      refine New_any ?_
      intro x9 w4 hx9 hs4 hw4 hf4
      refine St_all hw4 rfl hA3.size hA3.one ?_
      intro w5 hw5 hs5 hf5
      have hf35 : Fm (fun _ => False) w3 w5 := Fm.own hf4 hf5 (by rintro y rfl; omega)
      simp only [Pu_some, extV_0, extV_1, extV_2, extV_3, nilV_ptr, nilV_fn, faV_ptr, lenV_sl, lenS_s, capV_sl, pickV_t, pickV_f, unV_not, unV_neg, isB_t, isB_f, isB_u, binV_add, binV_sub, binV_mul, binV_eql, binV_neq, binV_lss, binV_leq, binV_gtr, binV_geq, binV_seql, binV_sneq, binV_slss, binV_beql, binV_bneq, binV_peql, binV_pneq, add_add, add_none, Go.Al.add_zero, Nat.zero_add, Nat.add_zero, IfB_t, IfB_f, Gd_t, Gd_f, Ld_ptr, LdN_ptr, Option.isNone_some, Option.isNone_none, Option.isSome_some, Option.isSome_none, Bool.not_true, Bool.not_false, drew_cell, drew_heap, hmk, beq_self_eq_true, decide_true]
      refine (recawake_spec w5).mono ?_
      rintro _ w6 ⟨rfl, hf6⟩
      try simp only [Pu_some, extV_0, extV_1, extV_2, extV_3, nilV_ptr, nilV_fn, faV_ptr, lenV_sl, lenS_s, capV_sl, pickV_t, pickV_f, unV_not, unV_neg, isB_t, isB_f, isB_u, binV_add, binV_sub, binV_mul, binV_eql, binV_neq, binV_lss, binV_leq, binV_gtr, binV_geq, binV_seql, binV_sneq, binV_slss, binV_beql, binV_bneq, binV_peql, binV_pneq, add_add, add_none, Go.Al.add_zero, Nat.zero_add, Nat.add_zero, IfB_t, IfB_f, Gd_t, Gd_f, Ld_ptr, LdN_ptr, Option.isNone_some, Option.isNone_none, Option.isSome_some, Option.isSome_none, Bool.not_true, Bool.not_false, drew_cell, drew_heap]
      exact ⟨(by trivial), Fmf (Fmf hF3 hf35) hf6⟩

end Go.Proofs.YtodnakepbdhfkaaDoor
