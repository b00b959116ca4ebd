/- The chapter's examples. -/
import Derived.Test.YthgdinjgdjiknaaSnapHor
import Derived.Test.YthgdinjgdjiknaaSortI
namespace Go.Proofs.Ythgdinjgdjiknaa
open Go.Al Go.Proofs
set_option linter.unusedVariables false
set_option linter.unusedSimpArgs false
set_option linter.unusedSectionVars false
set_option maxRecDepth 100000

theorem bs34e (w : World) : (Instr.buildSlice 34 0 #[]).run Try.prog w = .ok (.slice (some ⟨w.heap.size, 0, none⟩) 0 0) (w.alloc (.cells #[] 3)) := by kernel_rfl
theorem bld93 (x : Int) (a : Option Addr) (n c : Nat) (w : World) : (Instr.build 93 #[(0, iv x), (1, .slice a n c)]).run Try.prog w = .ok (.agg #[iv x, .slice a n c]) w := by kernel_rfl
theorem agg93 : aggB Try.prog 93 = some true := by kernel_rfl
theorem size93 : sizeB Try.prog 93 = some 2 := by kernel_rfl
theorem retSn1 {w : World} {g i : Nat} {cs : Array Value} (h : w.heap[g]? = some (.cells cs 93)) (hn : cs.size = 2) {f : Fr} (hf : f i = pv g) (k : KV) (hk : k (.agg cs) w) : RetO (resL Try.prog f w [.cell i 93]) w k := by
  simp only [resL, resV_blk hf agg93 size93 h hn, RetO, RetV]; exact hk

/-- A snapshot of one. -/
theorem take1_spec {w : World} (next : Int) {g c : Nat} {x : Int} (hr : CellsAt w (.slice (some ⟨g, 0, none⟩) 1 c) 1 1 ([x].map iv)) :
    Cl Try.prog 85 [iv next, .slice (some ⟨g, 0, none⟩) 1 c] w fun r w' => ∃ a cc, r = .agg #[iv next, .slice a 1 cc] ∧ CellsAt w' (.slice a 1 cc) 1 1 ([x].map iv) ∧ Fm (fun _ => False) w w' := by
  refine c85 ?_; unfold T85
  refine New_any ?_
  intro x4 w1 hx4 hs1 hw1 hf1
  have hz1 := hf1.size
  have clone : Cl Try.prog 113 [.slice (some ⟨g, 0, none⟩) 1 c] w1 fun r w' => ∃ a cc, r = .slice a 1 cc ∧ w'.ownsRow w1.heap.size 3 1 r 1 ([x].map iv) ∧ Fm (fun _ => False) w1 w' := by
    refine c113 ?_; unfold T113
    have e1 : binV (TypeDesc.slice 3) .eql (.slice (some ⟨g, 0, none⟩) 1 c) (.slice none 0 0) = some (.bool false) := rfl
    simp only [Pu_some, extV_0, extV_1, extV_2, extV_3, nilV_ptr, nilV_fn, faV_ptr, lenV_sl, lenS_s, capV_sl, pickV_t, pickV_f, unV_not, unV_neg, isB_t, isB_f, isB_u, binV_add, binV_sub, binV_mul, binV_eql, binV_neq, binV_lss, binV_leq, binV_gtr, binV_geq, binV_seql, binV_sneq, binV_slss, binV_beql, binV_bneq, binV_peql, binV_pneq, add_add, add_none, Go.Al.add_zero, Nat.zero_add, Nat.add_zero, IfB_t, IfB_f, Gd_t, Gd_f, Ld_ptr, LdN_ptr, Option.isNone_some, Option.isNone_none, Option.isSome_some, Option.isSome_none, Bool.not_true, Bool.not_false, drew_cell, drew_heap, e1]
    refine RunS_ok (bs34e w1) ?_
    have ho2 := own_alloc (w := w1) (e := 3) (l := []) (by simp [maxLen]) (Nat.le_refl _)
    have hf2 := Fm.alloc (fun _ => False) w1 (.cells #[] 3)
    replace ho2 : (w1.alloc (.cells #[] 3)).ownsRow w1.heap.size 3 1 (.slice (some ⟨w1.heap.size, 0, none⟩) 0 0) 0 [] := ho2
    generalize w1.alloc (.cells #[] 3) = w2 at ho2 hf2
    obtain ⟨lv, w3, hr3, ho3, hf3⟩ := append_srcO E34 (by omega) ho2 ((hr.keep hf1 (fun _ _ e => e)).keep hf2 (fun _ _ e => e)) (by intro u hu; simp at hu; subst hu; rfl) 34 (by simp [maxLen]) (by omega) hf2.size
    refine RunS_ok hr3 ?_
    have hv := own_len ho3
    obtain ⟨hl, hc⟩ := own_cases ho3
    rcases hc with ⟨_, h0⟩ | ⟨q, cap, rfl, _⟩
    · omega
    · exact ⟨_, _, rfl, ho3, Fm.own hf2 hf3 (fun y hy => by have := own_lt ho2 y hy; omega)⟩
  refine clone.mono ?_
  rintro _ w2 ⟨a, cc, rfl, ho2, hf2⟩
  have hs : [x].map iv = [x].map Go.encZ := rfl
  refine (sort_int (by omega) ho2).mono ?_
  rintro _ w3 ⟨ho3, hf3⟩
  have hms : ([x].mergeSort fun x y => decide (x ≤ y)).map Go.encZ = [x].map iv := by simp [List.mergeSort]
  rw [hms] at ho3
  have comp : Cl Try.prog 114 [.slice a 1 cc] w3 fun r w' => r = .slice a 1 cc ∧ w' = w3 := by
    refine c114 ?_; unfold T114
    have e1 : decide (((1 : Nat) : Int) < 2) = true := by decide
    simp only [Pu_some, extV_0, extV_1, extV_2, extV_3, nilV_ptr, nilV_fn, faV_ptr, lenV_sl, lenS_s, capV_sl, pickV_t, pickV_f, unV_not, unV_neg, isB_t, isB_f, isB_u, binV_add, binV_sub, binV_mul, binV_eql, binV_neq, binV_lss, binV_leq, binV_gtr, binV_geq, binV_seql, binV_sneq, binV_slss, binV_beql, binV_bneq, binV_peql, binV_pneq, add_add, add_none, Go.Al.add_zero, Nat.zero_add, Nat.add_zero, IfB_t, IfB_f, Gd_t, Gd_f, Ld_ptr, LdN_ptr, Option.isNone_some, Option.isNone_none, Option.isSome_some, Option.isSome_none, Bool.not_true, Bool.not_false, drew_cell, drew_heap, e1, and_self]
  refine comp.mono ?_
  rintro _ w3 ⟨rfl, rfl⟩
  refine RunS_ok (bld93 _ _ _ _ _) ?_
  have hF3 : Fm (fun _ => False) w1 w3 := Fm.own hf2 hf3 (fun y hy => hy)
  refine St_all (hF3.heap hw1 (fun e => e)) rfl rfl (by intro u hu; simp at hu; rcases hu with rfl | rfl <;> rfl) ?_
  intro w4 hw4 hs4 hf4
  refine retSn1 (i := 4) hw4 rfl rfl _ ?_
  have hz3 := hF3.size
  have hlt := own_lt ho3
  have hx4l := lt_of_heap hw1
  exact ⟨a, cc, rfl, CellsAt.of_own (own_keep ho3 hf4 (fun k h1 h2 h3 e => by omega)), Fm.own (Fmf hf1 hF3) hf4 (by rintro x rfl; omega)⟩


/-! ### awake -/
theorem bld149 (x s : Int) (w : World) : (Instr.build 149 #[(0, iv x), (1, .int .u8 s)]).run Try.prog w = .ok (.agg #[iv x, .int .u8 s]) w := by kernel_rfl
theorem bs89 (a0 b0 a1 b1 a2 b2 : Int) (w : World) : (Instr.buildSlice 89 3 #[(0, .agg #[iv a0, .int .u8 b0]), (1, .agg #[iv a1, .int .u8 b1]), (2, .agg #[iv a2, .int .u8 b2])]).run Try.prog w = .ok (.slice (some ⟨w.heap.size, 0, none⟩) 3 3) (w.alloc (.cells #[iv a0, .int .u8 b0, iv a1, .int .u8 b1, iv a2, .int .u8 b2] 149)) := by kernel_rfl
theorem bld97 (n : Int) (a b : Option Addr) (n1 c1 n2 c2 : Nat) (w : World) : (Instr.build 97 #[(1, .agg #[iv n, .slice a n1 c1]), (3, .slice b n2 c2)]).run Try.prog w = .ok (.agg #[iv 0, iv n, .slice a n1 c1, iv 0, .slice b n2 c2, iv 0, iv 0, iv 0, iv 0, stv [], .slice none 0 0]) w := by kernel_rfl
theorem bld99 (a b : Int) (w : World) : (Instr.build 99 #[(0, iv a), (1, iv b)]).run Try.prog w = .ok (.agg #[iv a, iv b, .bool false, stv [], stv []]) w := by kernel_rfl
theorem bld99a (a : Int) (w : World) : (Instr.build 99 #[(0, iv a)]).run Try.prog w = .ok (.agg #[iv a, iv 0, .bool false, stv [], stv []]) w := by kernel_rfl
theorem bs105 (n : Int) (a : Option Addr) (n1 c1 : Nat) (w : World) : (Instr.buildSlice 105 1 #[(0, .agg #[iv n, .slice a n1 c1])]).run Try.prog w = .ok (.slice (some ⟨w.heap.size, 0, none⟩) 1 1) (w.alloc (.cells #[iv n, .slice a n1 c1] 93)) := by kernel_rfl

def rawA : Vx := ⟨0, 4, [3], 0, [4], pg0⟩
def saidA : List SaidT := [(1, 2, ()), (2, 3, ()), (3, 2, ())]
def pgA (b : Bs) : Pg := ⟨0, 1, 0, 0, [], [[1], b]⟩
def viewA : Vx := ⟨16, 4, [3], 0, [4], pgA [46, 0, 0, 0]⟩
theorem enc1 : encI 1 = [1] := by
  unfold encI
  rw [encN_small (by decide)]; rfl
theorem madeA (b : Bs) : clogMade 1 b 0 = pgA b := by unfold clogMade; rw [enc1]; rfl
theorem setA {b b' : Bs} {x s : Int} (h1 : clogOpen 16 (pgA b) = (1, b, 0)) (h2 : (!(modOk 16 && idOk 16 x) || decide (3 < s)) = false) (h3 : clogPut b x s = b') : clogSet 16 (pgA b) x s = (pgA b', 0) := by
  unfold clogSet
  rw [h1, h2]
  show (clogMade 1 (clogPut b x s) 0, (0 : Int)) = _
  rw [h3, madeA]
theorem made_A : made 16 1 saidA rawA = (viewA, true) := by
  have h0 : clogBlank 16 1 = (pgA [0, 0, 0, 0], 0) := by
    unfold clogBlank
    rw [show (modOk 16 && idOk 16 1) = true by decide, cond_true]
    rw [show List.replicate ((16 + 3 : Int) / 4).toNat (0 : UInt8) = [0, 0, 0, 0] by decide, madeA]
  have e1 := setA (b := [0, 0, 0, 0]) (b' := [2, 0, 0, 0]) (x := 1) (s := 2) (by decide +kernel) (by decide) (by decide +kernel)
  have e2 := setA (b := [2, 0, 0, 0]) (b' := [14, 0, 0, 0]) (x := 2) (s := 3) (by decide +kernel) (by decide) (by decide +kernel)
  have e3 := setA (b := [14, 0, 0, 0]) (b' := [46, 0, 0, 0]) (x := 3) (s := 2) (by decide +kernel) (by decide) (by decide +kernel)
  unfold made laid saidA
  rw [h0]
  simp only [List.foldl_cons, List.foldl_nil, e1, e2, e3, decide_true, cond_true]
  rfl
theorem stA (x : Int) : status viewA x = status viewA x := rfl
theorem fA1 : status viewA 4 = 1 := by decide +kernel
theorem fA2 : sees viewA 1 = true := by decide +kernel
theorem fA3 : sees viewA 3 = false := by decide +kernel
theorem fA4 : visible viewA ⟨1, 3, false, [], []⟩ = true := by decide +kernel
theorem fA5 : newer viewA ⟨1, 3, false, [], []⟩ = true := by decide +kernel
theorem fA6 : gone viewA ⟨2, 0, false, [], []⟩ 4 = true := by decide +kernel
theorem fA7 {h : Int} (hh : IsHor 16 (horL 5 [4] [(5, [3], ())]) h) : h = 3 := by
  obtain ⟨h1, h2⟩ := hh
  have hl : horL 5 [4] [(5, [3], ())] = [5, 4, 5, 3] := rfl
  rw [hl] at h1 h2
  have h3 := h2 ⟨3, by simp, by decide +kernel⟩
  have h4 := h3 3 (by simp)
  simp only [List.mem_cons, List.not_mem_nil, or_false] at h1
  have a : xBefore 16 3 5 = true := by decide +kernel
  have b : xBefore 16 3 4 = true := by decide +kernel
  rcases h1 with rfl | rfl | rfl | rfl
  · rw [a] at h4; cases h4
  · rw [b] at h4; cases h4
  · rw [a] at h4; cases h4
  · rfl

theorem said_A (w : World) : SliceAs vSaid (w.alloc (.cells #[iv 1, .int .u8 2, iv 2, .int .u8 3, iv 3, .int .u8 2] 149)) (.slice (some ⟨w.heap.size, 0, none⟩) 3 3) saidA := by
  have hn := alloc_new w (.cells #[iv 1, .int .u8 2, iv 2, .int .u8 3, iv 3, .int .u8 2] 149)
  have hc2 : Try.prog.cellsOf 149 = 2 := by kernel_rfl
  have rel : ∀ (w : World) (x s : Int), (Lit.int .i64 x).wf = true → (Lit.int .u8 s).wf = true → vSaid.rel w [iv x, .int .u8 s] (x, s, ()) := fun w x s h1 h2 => ⟨[iv x], [.int .u8 s], rfl, ⟨rfl, h1⟩, [.int .u8 s], [], rfl, ⟨rfl, h2⟩, rfl⟩
  refine ⟨⟨_, 3, rfl, by simp [saidA], by simp [maxLen], fun e => (by cases e), fun i x hi => ?_⟩, ?_⟩
  · refine ⟨⟨w.heap.size, 0, none⟩, [iv x.1, .int .u8 x.2.1], rfl, ?_, fun j hj => ?_⟩
    · match i, hi with
      | 0, hi => cases hi; exact rel _ 1 2 (by decide) (by decide)
      | 1, hi => cases hi; exact rel _ 2 3 (by decide) (by decide)
      | 2, hi => cases hi; exact rel _ 3 2 (by decide) (by decide)
    · rw [hc2] at hj ⊢
      rw [add_none, Nat.zero_add, cell_at hn]
      match i, hi, j, hj with
      | 0, hi, 0, _ => cases hi; rfl
      | 0, hi, 1, _ => cases hi; rfl
      | 1, hi, 0, _ => cases hi; rfl
      | 1, hi, 1, _ => cases hi; rfl
      | 2, hi, 0, _ => cases hi; rfl
      | 2, hi, 1, _ => cases hi; rfl
  · rw [show Try.prog.bytesOf 149 = 16 by kernel_rfl]; decide
theorem ints_one {w : World} {a : Option Addr} {c : Nat} {x : Int} (h : CellsAt w (.slice a 1 c) 1 1 ([x].map iv)) (hx : (Lit.int .i64 x).wf = true) : SliceAs vI w (.slice a 1 c) [x] := by
  obtain ⟨⟨a', c', he, h1, h2, h3, h4⟩, _⟩ := h
  cases he
  have hc1 : Try.prog.cellsOf 3 = 1 := by kernel_rfl
  refine ⟨⟨_, _, rfl, h1, h2, h3, fun i y hi => ?_⟩, ?_⟩
  · obtain ⟨ad, he, hc⟩ := h4 0 (iv x) rfl
    match i, hi with
    | 0, hi =>
      cases hi
      refine ⟨ad, [iv x], he, ⟨rfl, hx⟩, fun j hj => ?_⟩
      rw [hc1] at hj ⊢
      obtain rfl : j = 0 := by omega
      exact hc
  · rw [show Try.prog.bytesOf 3 = 8 by kernel_rfl]; show 1 * 8 ≤ reachBytes; decide
theorem snaps_one {w : World} {g : Nat} {n : Int} {a : Option Addr} {c : Nat} {l : List Int} (h : w.heap[g]? = some (.cells #[iv n, .slice a l.length c] 93)) (hn : (Lit.int .i64 n).wf = true) (hl : SliceAs vI w (.slice a l.length c) l) : SliceAs vSnap w (.slice (some ⟨g, 0, none⟩) 1 1) [(n, l, ())] := by
  have hc2 : Try.prog.cellsOf 93 = 2 := by kernel_rfl
  refine ⟨⟨_, 1, rfl, by simp, by simp [maxLen], fun e => (by cases e), fun i x hi => ?_⟩, ?_⟩
  · match i, hi with
    | 0, hi =>
      cases hi
      refine ⟨⟨g, 0, none⟩, [iv n, .slice a l.length c], rfl, ⟨[iv n], [.slice a l.length c], rfl, ⟨rfl, hn⟩, [.slice a l.length c], [], rfl, ⟨_, rfl, hl⟩, rfl⟩, fun j hj => ?_⟩
      rw [hc2] at hj ⊢
      rw [add_none, cell_at h]
      match j, hj with
      | 0, _ => rfl
      | 1, _ => rfl
  · rw [show Try.prog.bytesOf 93 = 32 by kernel_rfl]; show 1 * 32 ≤ reachBytes; decide


theorem CellsAt.sl1 {w : World} {l : List Value} {e : TypeId} (h : l.length ≤ maxLen) : CellsAt (w.alloc (.cells l.toArray e)) (.slice (some ⟨w.heap.size, 0, none⟩) l.length l.length) l.length 1 l := CellsAt.of_own (own_alloc h (Nat.le_refl _))

set_option maxHeartbeats 1000000 in
theorem awake_spec (w : World) : Cl Try.prog 38 [] w fun r w' => r = .bool true ∧ Fm (fun _ => False) w w' := by
  refine c38 ?_; unfold T38
  refine RunS_ok (bld149 1 2 w) (RunS_ok (bld149 2 3 w) (RunS_ok (bld149 3 2 w) (RunS_ok (bs89 1 2 2 3 3 2 w) ?_)))
  have hs1 := said_A w
  have hf1 := Fm.alloc (fun _ => False) w (.cells #[iv 1, .int .u8 2, iv 2, .int .u8 3, iv 3, .int .u8 2] 149)
  generalize hsv : Value.slice (some ⟨w.heap.size, 0, none⟩) 3 3 = sv at hs1
  generalize w.alloc (.cells #[iv 1, .int .u8 2, iv 2, .int .u8 3, iv 3, .int .u8 2] 149) = w1 at hs1 hf1
  refine RunS_ok (bs34s 3 w1) ?_
  have hc2 := new_cells [3] (by simp) w1 3
  have hf2 := Fm.alloc (fun _ => False) w1 (.cells #[iv 3] 3)
  replace hc2 : CellsAt (w1.alloc (.cells #[iv 3] 3)) (.slice (some ⟨w1.heap.size, 0, none⟩) 1 1) 1 1 ([3].map iv) := hc2
  generalize w1.alloc (.cells #[iv 3] 3) = w2 at hc2 hf2
  refine (take1_spec 4 hc2).mono ?_
  rintro _ w3 ⟨a, cc, rfl, hav, hf3⟩
  refine RunS_ok (bs34s 4 w3) ?_
  have hc4 := new_cells [4] (by simp) w3 3
  have hf4 := Fm.alloc (fun _ => False) w3 (.cells #[iv 4] 3)
  replace hc4 : CellsAt (w3.alloc (.cells #[iv 4] 3)) (.slice (some ⟨w3.heap.size, 0, none⟩) 1 1) 1 1 ([4].map iv) := hc4
  generalize w3.alloc (.cells #[iv 4] 3) = w4 at hc4 hf4
  refine RunS_ok (bld97 4 a _ 1 cc 1 1 w4) ?_
  have hF4 := Fmf (Fmf hf1 hf2) (Fmf hf3 hf4)
  have hv4 : VwAs w4 #[iv 0, iv 4, .slice a 1 cc, iv 0, .slice (some ⟨w3.heap.size, 0, none⟩) 1 1, iv 0, iv 0, iv 0, iv 0, stv [], .slice none 0 0] rawA := by
    obtain ⟨v0, h0, h1⟩ := (pgAs0 w4).ex
    have : v0 = .slice none 0 0 := by
      have := congrArg (fun q : Array Value => q[5]?) h0
      simpa using this.symm
    subst this
    exact ⟨⟨_, _, _, rfl, hav.keep hf4 (fun _ _ e => e), hc4, h1⟩, by simp [rawA, pg0], by decide⟩
  refine (made_spec hv4 (m := 16) (by decide) 1 (hs1.keep (Fmf hf2 (Fmf hf3 hf4)))).mono ?_
  rintro _ w5 ⟨cs, rfl, hv5, hf5⟩
  rw [made_A] at hv5 ⊢
  have hF5 := Fmf hF4 hf5
  simp only [Pu_some, extV_0, extV_1, extV_2, extV_3, nilV_ptr, nilV_fn, faV_ptr, lenV_sl, lenS_s, capV_sl, pickV_t, pickV_f, unV_not, unV_neg, isB_t, isB_f, isB_u, binV_add, binV_sub, binV_mul, binV_eql, binV_neq, binV_lss, binV_leq, binV_gtr, binV_geq, binV_seql, binV_sneq, binV_slss, binV_beql, binV_bneq, binV_peql, binV_pneq, add_add, add_none, Go.Al.add_zero, Nat.zero_add, Nat.add_zero, IfB_t, IfB_f, Gd_t, Gd_f, Ld_ptr, LdN_ptr, Option.isNone_some, Option.isNone_none, Option.isSome_some, Option.isSome_none, Bool.not_true, Bool.not_false, drew_cell, drew_heap]
  refine New_any ?_
  intro x w6 hx hs6 hw6 hf6
  have hz6 := hf6.size
  refine St_all hw6 rfl hv5.size hv5.one ?_
  intro w7 hw7 hs7 hf7
  have hf57 : Fm (fun _ => False) w5 w7 := Fm.own hf6 hf7 (by rintro x rfl; omega)
  have hF7 := Fmf hF5 hf57
  have hv : VwAt w7 x viewA := ⟨cs, hw7, hv5.keep hf57⟩
  obtain ⟨c1, a1, b1⟩ := hv.all
  simp only [Pu_some, extV_0, extV_1, extV_2, extV_3, nilV_ptr, nilV_fn, faV_ptr, lenV_sl, lenS_s, capV_sl, pickV_t, pickV_f, unV_not, unV_neg, isB_t, isB_f, isB_u, binV_add, binV_sub, binV_mul, binV_eql, binV_neq, binV_lss, binV_leq, binV_gtr, binV_geq, binV_seql, binV_sneq, binV_slss, binV_beql, binV_bneq, binV_peql, binV_pneq, add_add, add_none, Go.Al.add_zero, Nat.zero_add, Nat.add_zero, IfB_t, IfB_f, Gd_t, Gd_f, Ld_ptr, LdN_ptr, Option.isNone_some, Option.isNone_none, Option.isSome_some, Option.isSome_none, Bool.not_true, Bool.not_false, drew_cell, drew_heap, a1]
  refine (status_spec b1 4).mono ?_
  rintro _ w8 ⟨rfl, hf8⟩
  have hv8 := hv.keep hf8
  obtain ⟨c2, a2, b2⟩ := hv8.all
  simp only [Pu_some, extV_0, extV_1, extV_2, extV_3, nilV_ptr, nilV_fn, faV_ptr, lenV_sl, lenS_s, capV_sl, pickV_t, pickV_f, unV_not, unV_neg, isB_t, isB_f, isB_u, binV_add, binV_sub, binV_mul, binV_eql, binV_neq, binV_lss, binV_leq, binV_gtr, binV_geq, binV_seql, binV_sneq, binV_slss, binV_beql, binV_bneq, binV_peql, binV_pneq, add_add, add_none, Go.Al.add_zero, Nat.zero_add, Nat.add_zero, IfB_t, IfB_f, Gd_t, Gd_f, Ld_ptr, LdN_ptr, Option.isNone_some, Option.isNone_none, Option.isSome_some, Option.isSome_none, Bool.not_true, Bool.not_false, drew_cell, drew_heap, fA1, beq_self_eq_true, a2]
  refine (sees_spec b2 1).mono ?_
  rintro _ w9 ⟨rfl, hf9⟩
  have hv9 := hv8.keep hf9
  obtain ⟨c3, a3, b3⟩ := hv9.all
  simp only [Pu_some, extV_0, extV_1, extV_2, extV_3, nilV_ptr, nilV_fn, faV_ptr, lenV_sl, lenS_s, capV_sl, pickV_t, pickV_f, unV_not, unV_neg, isB_t, isB_f, isB_u, binV_add, binV_sub, binV_mul, binV_eql, binV_neq, binV_lss, binV_leq, binV_gtr, binV_geq, binV_seql, binV_sneq, binV_slss, binV_beql, binV_bneq, binV_peql, binV_pneq, add_add, add_none, Go.Al.add_zero, Nat.zero_add, Nat.add_zero, IfB_t, IfB_f, Gd_t, Gd_f, Ld_ptr, LdN_ptr, Option.isNone_some, Option.isNone_none, Option.isSome_some, Option.isSome_none, Bool.not_true, Bool.not_false, drew_cell, drew_heap, fA2, a3]
  refine (sees_spec b3 3).mono ?_
  rintro _ w10 ⟨rfl, hf10⟩
  have hv10 := hv9.keep hf10
  obtain ⟨c4, a4, b4⟩ := hv10.all
  simp only [Pu_some, extV_0, extV_1, extV_2, extV_3, nilV_ptr, nilV_fn, faV_ptr, lenV_sl, lenS_s, capV_sl, pickV_t, pickV_f, unV_not, unV_neg, isB_t, isB_f, isB_u, binV_add, binV_sub, binV_mul, binV_eql, binV_neq, binV_lss, binV_leq, binV_gtr, binV_geq, binV_seql, binV_sneq, binV_slss, binV_beql, binV_bneq, binV_peql, binV_pneq, add_add, add_none, Go.Al.add_zero, Nat.zero_add, Nat.add_zero, IfB_t, IfB_f, Gd_t, Gd_f, Ld_ptr, LdN_ptr, Option.isNone_some, Option.isNone_none, Option.isSome_some, Option.isSome_none, Bool.not_true, Bool.not_false, drew_cell, drew_heap, fA3, a4]
  refine RunS_ok (bld99 1 3 w10) ?_
  refine (visible_spec b4 ⟨1, 3, false, [], []⟩).mono ?_
  rintro _ w11 ⟨rfl, hf11⟩
  have hv11 := hv10.keep hf11
  obtain ⟨c5, a5, b5⟩ := hv11.all
  simp only [Pu_some, extV_0, extV_1, extV_2, extV_3, nilV_ptr, nilV_fn, faV_ptr, lenV_sl, lenS_s, capV_sl, pickV_t, pickV_f, unV_not, unV_neg, isB_t, isB_f, isB_u, binV_add, binV_sub, binV_mul, binV_eql, binV_neq, binV_lss, binV_leq, binV_gtr, binV_geq, binV_seql, binV_sneq, binV_slss, binV_beql, binV_bneq, binV_peql, binV_pneq, add_add, add_none, Go.Al.add_zero, Nat.zero_add, Nat.add_zero, IfB_t, IfB_f, Gd_t, Gd_f, Ld_ptr, LdN_ptr, Option.isNone_some, Option.isNone_none, Option.isSome_some, Option.isSome_none, Bool.not_true, Bool.not_false, drew_cell, drew_heap, fA4, a5]
  refine RunS_ok (bld99 1 3 w11) ?_
  refine (newer_spec b5 ⟨1, 3, false, [], []⟩).mono ?_
  rintro _ w12 ⟨rfl, hf12⟩
  have hv12 := hv11.keep hf12
  obtain ⟨c6, a6, b6⟩ := hv12.all
  simp only [Pu_some, extV_0, extV_1, extV_2, extV_3, nilV_ptr, nilV_fn, faV_ptr, lenV_sl, lenS_s, capV_sl, pickV_t, pickV_f, unV_not, unV_neg, isB_t, isB_f, isB_u, binV_add, binV_sub, binV_mul, binV_eql, binV_neq, binV_lss, binV_leq, binV_gtr, binV_geq, binV_seql, binV_sneq, binV_slss, binV_beql, binV_bneq, binV_peql, binV_pneq, add_add, add_none, Go.Al.add_zero, Nat.zero_add, Nat.add_zero, IfB_t, IfB_f, Gd_t, Gd_f, Ld_ptr, LdN_ptr, Option.isNone_some, Option.isNone_none, Option.isSome_some, Option.isSome_none, Bool.not_true, Bool.not_false, drew_cell, drew_heap, fA5, a6]
  refine RunS_ok (bld99a 2 w12) ?_
  refine (gone_spec b6 ⟨2, 0, false, [], []⟩ 4).mono ?_
  rintro _ w13 ⟨rfl, hf13⟩
  simp only [Pu_some, extV_0, extV_1, extV_2, extV_3, nilV_ptr, nilV_fn, faV_ptr, lenV_sl, lenS_s, capV_sl, pickV_t, pickV_f, unV_not, unV_neg, isB_t, isB_f, isB_u, binV_add, binV_sub, binV_mul, binV_eql, binV_neq, binV_lss, binV_leq, binV_gtr, binV_geq, binV_seql, binV_sneq, binV_slss, binV_beql, binV_bneq, binV_peql, binV_pneq, add_add, add_none, Go.Al.add_zero, Nat.zero_add, Nat.add_zero, IfB_t, IfB_f, Gd_t, Gd_f, Ld_ptr, LdN_ptr, Option.isNone_some, Option.isNone_none, Option.isSome_some, Option.isSome_none, Bool.not_true, Bool.not_false, drew_cell, drew_heap, fA6]
  refine RunS_ok (bs34s 4 w13) ?_
  have g1 := new_cells [4] (by simp) w13 3
  have hf14 := Fm.alloc (fun _ => False) w13 (.cells #[iv 4] 3)
  replace g1 : CellsAt (w13.alloc (.cells #[iv 4] 3)) (.slice (some ⟨w13.heap.size, 0, none⟩) 1 1) 1 1 ([4].map iv) := g1
  generalize w13.alloc (.cells #[iv 4] 3) = w14 at g1 hf14
  refine RunS_ok (bs34s 3 w14) ?_
  have g2 := new_cells [3] (by simp) w14 3
  have hf15 := Fm.alloc (fun _ => False) w14 (.cells #[iv 3] 3)
  replace g2 : CellsAt (w14.alloc (.cells #[iv 3] 3)) (.slice (some ⟨w14.heap.size, 0, none⟩) 1 1) 1 1 ([3].map iv) := g2
  generalize w14.alloc (.cells #[iv 3] 3) = w15 at g2 hf15
  refine RunS_ok (bld93 5 _ 1 1 w15) (RunS_ok (bs105 5 _ 1 1 w15) ?_)
  have g3 := alloc_new w15 (.cells #[iv 5, .slice (some ⟨w14.heap.size, 0, none⟩) 1 1] 93)
  have hf16 := Fm.alloc (fun _ => False) w15 (.cells #[iv 5, .slice (some ⟨w14.heap.size, 0, none⟩) 1 1] 93)
  have g4 := snaps_one (n := 5) (l := [3]) g3 (by decide) (ints_one (g2.keep hf16 (fun _ _ e => e)) (by decide))
  generalize w15.alloc (.cells #[iv 5, .slice (some ⟨w14.heap.size, 0, none⟩) 1 1] 93) = w16 at g4 hf16
  refine (horizon_spec (m := 16) (by decide) 5 (ints_one (g1.keep (Fmf hf15 hf16) (fun _ _ e => e)) (by decide)) g4 (by decide)).mono ?_
  rintro _ w17 ⟨h, rfl, hh, hf17⟩
  rw [fA7 hh]
  simp only [Pu_some, extV_0, extV_1, extV_2, extV_3, nilV_ptr, nilV_fn, faV_ptr, lenV_sl, lenS_s, capV_sl, pickV_t, pickV_f, unV_not, unV_neg, isB_t, isB_f, isB_u, binV_add, binV_sub, binV_mul, binV_eql, binV_neq, binV_lss, binV_leq, binV_gtr, binV_geq, binV_seql, binV_sneq, binV_slss, binV_beql, binV_bneq, binV_peql, binV_pneq, add_add, add_none, Go.Al.add_zero, Nat.zero_add, Nat.add_zero, IfB_t, IfB_f, Gd_t, Gd_f, Ld_ptr, LdN_ptr, Option.isNone_some, Option.isNone_none, Option.isSome_some, Option.isSome_none, Bool.not_true, Bool.not_false, drew_cell, drew_heap, beq_self_eq_true]
  exact ⟨(by trivial), Fmf hF7 (Fmf (Fmf (Fmf hf8 hf9) (Fmf hf10 hf11)) (Fmf (Fmf hf12 hf13) (Fmf (Fmf hf14 hf15) (Fmf hf16 hf17))))⟩

end Go.Proofs.Ythgdinjgdjiknaa
