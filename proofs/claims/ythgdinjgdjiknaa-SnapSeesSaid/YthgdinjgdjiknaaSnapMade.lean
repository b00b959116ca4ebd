/- How a view's page of statuses is made. -/
import Derived.Test.YthgdinjgdjiknaaSnap2
import Derived.Test.YthgdinjgdjiknaaAlView
namespace Go.Proofs.Ythgdinjgdjiknaa
open Go.Al Go.Proofs
set_option linter.unusedVariables false
set_option linter.unusedSimpArgs false
set_option linter.unusedSectionVars false
set_option maxRecDepth 100000

def vI : Vw Try.prog 3 Int := vInt .i64 Try.underlying3 (by kernel_rfl)
def vB : Vw Try.prog 4 Bool := vBool Try.underlying4 (by kernel_rfl)
def vS : Vw Try.prog 9 Bs := vStr Try.underlying9 (by kernel_rfl)
def vStat : Vw Try.prog 114 Int := vInt .u8 Try.underlying114 (by kernel_rfl)
def vInts : Vw Try.prog 34 (List Int) := vSlice Try.underlying34 (by kernel_rfl) vI
def vStrs : Vw Try.prog 45 (List Bs) := vSlice Try.underlying45 (by kernel_rfl) vS
abbrev SaidT := Int × Int × Unit
def vSaid : Vw Try.prog 149 SaidT := vStruct Try.underlying149 (fvCons rfl 1 (by kernel_rfl) vI (fvCons rfl 1 (by kernel_rfl) vStat fvNil)) (by kernel_rfl)
def vSaids : Vw Try.prog 89 (List SaidT) := vSlice Try.underlying89 (by kernel_rfl) vSaid

theorem ints_in {w : World} {v : Value} {L : List Int} (h : SliceAs vI w v L) : CellsAt w v L.length 1 (L.map iv) ∧ (∀ f ∈ L, In f) ∧ L.length * 8 ≤ 140737488351232 := by
  refine ⟨h.cells (by kernel_rfl) (fun _ _ h => h.1), fun f hf => ?_, ?_⟩
  · obtain ⟨i, hi⟩ := List.getElem?_of_mem hf
    obtain ⟨ad, cs', _, hr, _⟩ := h.at hi (c := 1) (by kernel_rfl) .i64
    exact i64_of_wf hr.2
  · have := h.small
    rw [show Try.prog.bytesOf 3 = 8 by kernel_rfl] at this
    unfold reachBytes at this; omega
theorem strs_in {w : World} {v : Value} {L : List Bs} (h : SliceAs vS w v L) : CellsAt w v L.length 1 (L.map stv) ∧ (∀ f ∈ L, f.length ≤ 140737488355328) := by
  refine ⟨h.cells (by kernel_rfl) (fun _ _ h => h.1), fun f hf => ?_⟩
  obtain ⟨i, hi⟩ := List.getElem?_of_mem hf
  obtain ⟨ad, cs', _, hr, _⟩ := h.at hi (c := 1) (by kernel_rfl) .i64
  have := hr.2
  unfold reachBytes at this; omega
theorem said_at {w : World} {v : Value} {L : List SaidT} (h : SliceAs vSaid w v L) {i : Nat} {x : SaidT} (hi : L[i]? = some x) :
    ∃ ad, ixV 2 v (iv i) = some (.pointer (some ad)) ∧ w.cell? ad = some (iv x.1) ∧ w.cell? (ad.add 1) = some (.int .u8 x.2.1) ∧ In x.1 ∧ 0 ≤ x.2.1 := by
  obtain ⟨ad, cs', h1, h2, h3⟩ := h.at hi (c := 2) (by kernel_rfl) .i64
  obtain ⟨c1, c2, rfl, ⟨rfl, hw1⟩, c3, c4, rfl, ⟨rfl, hw2⟩, h4⟩ := h2
  have h4' : c4 = [] := h4
  subst h4'
  refine ⟨ad, h1, ?_, h3 1 (by omega), i64_of_wf hw1, ?_⟩
  · have := h3 0 (by omega)
    rw [Go.Al.add_zero] at this; exact this
  · have h7 : (decide (0 ≤ x.2.1) && decide (x.2.1 ≤ 255)) = true := hw2
    simp at h7; exact h7.1

def laid (m : Int) (l : List SaidT) (p : Pg) : Pg := l.foldl (fun p s => bif decide ((clogSet m p s.1 s.2.1).2 = 0) then (clogSet m p s.1 s.2.1).1 else p) p
def made (m f : Int) (l : List SaidT) (v : Vx) : Vx × Bool := bif decide ((clogBlank m f).2 = 0) then ({ v with modulus := m, clog := laid m l (clogBlank m f).1 }, true) else (v, false)
theorem laid_take {m : Int} {l : List SaidT} {p : Pg} {i : Nat} {s : SaidT} (hi : l[i]? = some s) : laid m (l.take (i + 1)) p = bif decide ((clogSet m (laid m (l.take i) p) s.1 s.2.1).2 = 0) then (clogSet m (laid m (l.take i) p) s.1 s.2.1).1 else laid m (l.take i) p := by
  unfold laid
  rw [List.take_add_one, hi, List.foldl_append]
  rfl

theorem agg97 : aggB Try.prog 97 = some true := by kernel_rfl
theorem size97 : sizeB Try.prog 97 = some 11 := by kernel_rfl
theorem retVw2 {w : World} {g i j : Nat} {cs : Array Value} (h : w.heap[g]? = some (.cells cs 97)) (hn : cs.size = 11) {f : Fr} (hf : f i = pv g) {u : Value} (hj : f j = u) (k : KV) (hk : k (.tuple #[.agg cs, u]) w) : RetO (resL Try.prog f w [.cell i 97, .tmp j]) w k := by
  have e2 : resV Try.prog f w (.tmp j) = some u := by simp only [resV, hj]
  simp only [resL, resV_blk hf agg97 size97 h hn, e2, RetO, RetV]; exact hk

/-- Loads of a said one, wherever the heap has grown. -/
theorem said_keep {w w' : World} {sv : Value} {l : List SaidT} (h : SliceAs vSaid w sv l) (hf : Fm (fun _ => False) w w') {i : Nat} {x : SaidT} (hi : l[i]? = some x) {ad : Addr} (hix : ixV 2 sv (iv i) = some (.pointer (some ad))) :
    w'.cell? ad = some (iv x.1) ∧ w'.cell? (ad.add 1) = some (.int .u8 x.2.1) := by
  obtain ⟨ad', h1, h2, h3, _⟩ := said_at (h.keep hf) hi
  rw [h1] at hix
  have : ad' = ad := by simpa using hix
  subst this
  exact ⟨h2, h3⟩

set_option maxHeartbeats 1000000 in
theorem made_spec {w : World} {cs : Array Value} {v : Vx} (hv : VwAs w cs v) {m : Int} (hm : In m) (f : Int) {sv : Value} {l : List SaidT} (hl : SliceAs vSaid w sv l) :
    Cl Try.prog 37 [iv m, iv f, sv, .agg cs] w fun r w' => ∃ cs', r = .tuple #[.agg cs', .bool (made m f l v).2] ∧ VwAs w' cs' (made m f l v).1 ∧ Fm (fun _ => False) w w' := by
  have hlen := hl.len
  unfold maxLen at hlen
  refine c37 ?_; unfold T37
  refine New_any ?_
  intro x7 w1 hx7 hs1 hw1 hf1
  refine New_any ?_
  intro x8 w2 hx8 hs2 hw2 hf2
  refine (cblank_spec w2 hm (frozen := f)).mono ?_
  rintro _ w3 ⟨pcs, rfl, hp3, hpf3, hf3⟩
  simp only [Pu_some, extV_0, extV_1, extV_2, extV_3, nilV_ptr, nilV_fn, faV_ptr, lenV_sl, lenS_s, capV_sl, pickV_t, pickV_f, unV_not, unV_neg, isB_t, isB_f, isB_u, binV_add, binV_sub, binV_mul, binV_eql, binV_neq, binV_lss, binV_leq, binV_gtr, binV_geq, binV_seql, binV_sneq, binV_slss, binV_beql, binV_bneq, binV_peql, binV_pneq, add_add, add_none, Go.Al.add_zero, Nat.zero_add, Nat.add_zero, IfB_t, IfB_f, Gd_t, Gd_f, Ld_ptr, LdN_ptr, Option.isNone_some, Option.isNone_none, Option.isSome_some, Option.isSome_none, Bool.not_true, Bool.not_false, drew_cell, drew_heap]
  refine New_any ?_
  intro x10 w4 hx10 hs4 hw4 hf4
  have hz1 := hf1.size
  have hz2 := hf2.size
  have hz3 := hf3.size
  have hz4 := hf4.size
  have hx7l := lt_of_heap hw1
  have hx8l := lt_of_heap hw2
  refine St_all hw4 rfl hp3.size hp3.one ?_
  intro w5 hw5 hs5 hf5
  have hF34 := Fmf (Fmf hf1 hf2) (Fmf hf3 hf4)
  have hF5 : Fm (fun _ => False) w w5 := Fm.own hF34 hf5 (by rintro x rfl; omega)
  have hp5 : PgAs w5 pcs (clogBlank m f).1 := (hp3.keep (Fm.own hf4 hf5 (by rintro x rfl; omega)))
  have hpn5 : ∀ v, pcs[5]? = some v → (clogBlank m f).1.items ≠ [] → ∀ g, blockOf v = some g → w2.heap.size ≤ g ∧ g ≠ x10 := fun v h1 h2 g h3 => by
    have a := hp3.below v h1 h2 g h3
    have b := hpf3 v h1 h2 g h3
    omega
  have hx7w : w5.heap[x7]? = some (.cells cs 97) := hf5.heap (hf4.heap (hf3.heap (hf2.heap hw1 (fun e => e)) (fun e => e)) (fun e => e)) (by omega)
  have hx8w := hf5.heap (hf4.heap (hf3.heap hw2 (fun e => e)) (fun e => e)) (show ¬ x8 = x10 by omega)
  unfold made
  by_cases h0 : (clogBlank m f).2 = 0
  rotate_left
  · have e1 : ((clogBlank m f).2 != 0) = true := by rw [bne_dec]; simp [h0]
    have e2 : decide ((clogBlank m f).2 = 0) = false := by simpa using h0
    simp only [Pu_some, extV_0, extV_1, extV_2, extV_3, nilV_ptr, nilV_fn, faV_ptr, lenV_sl, lenS_s, capV_sl, pickV_t, pickV_f, unV_not, unV_neg, isB_t, isB_f, isB_u, binV_add, binV_sub, binV_mul, binV_eql, binV_neq, binV_lss, binV_leq, binV_gtr, binV_geq, binV_seql, binV_sneq, binV_slss, binV_beql, binV_bneq, binV_peql, binV_pneq, add_add, add_none, Go.Al.add_zero, Nat.zero_add, Nat.add_zero, IfB_t, IfB_f, Gd_t, Gd_f, Ld_ptr, LdN_ptr, Option.isNone_some, Option.isNone_none, Option.isSome_some, Option.isSome_none, Bool.not_true, Bool.not_false, drew_cell, drew_heap, e1, e2, cellsV_blk hx7w hv.size, cond_false]
    refine St_all hx8w rfl hv.size hv.one ?_
    intro w6 hw6 hs6 hf6
    refine retVw2 (i := 8) (j := 9) hw6 hv.size rfl rfl _ ?_
    have hF6 : Fm (fun _ => False) w w6 := Fm.own hF5 hf6 (by rintro x rfl; omega)
    exact ⟨_, rfl, hv.keep hF6, hF6⟩
  have e1 : ((clogBlank m f).2 != 0) = false := by rw [h0]; rfl
  have e2 : decide ((clogBlank m f).2 = 0) = true := by simpa using h0
  simp only [Pu_some, extV_0, extV_1, extV_2, extV_3, nilV_ptr, nilV_fn, faV_ptr, lenV_sl, lenS_s, capV_sl, pickV_t, pickV_f, unV_not, unV_neg, isB_t, isB_f, isB_u, binV_add, binV_sub, binV_mul, binV_eql, binV_neq, binV_lss, binV_leq, binV_gtr, binV_geq, binV_seql, binV_sneq, binV_slss, binV_beql, binV_bneq, binV_peql, binV_pneq, add_add, add_none, Go.Al.add_zero, Nat.zero_add, Nat.add_zero, IfB_t, IfB_f, Gd_t, Gd_f, Ld_ptr, LdN_ptr, Option.isNone_some, Option.isNone_none, Option.isSome_some, Option.isSome_none, Bool.not_true, Bool.not_false, drew_cell, drew_heap, e1, e2, cond_true]
  have hz5 := hF5.size
  have hbw : x10 < w5.heap.size := lt_of_heap hw5
  refine ⟨fun vs w6 => ∃ (i : Nat) (pcs : Array Value), vs = [iv i] ∧ i ≤ l.length ∧ w6.heap[x10]? = some (.cells pcs 95) ∧ PgAs w6 pcs (laid m (l.take i) (clogBlank m f).1) ∧ (∀ v, pcs[5]? = some v → (laid m (l.take i) (clogBlank m f).1).items ≠ [] → ∀ g, blockOf v = some g → w2.heap.size ≤ g ∧ g ≠ x10) ∧ Fm (· = x10) w5 w6, fun vs _ => (l.length - nth vs 0).toNat, ⟨0, pcs, rfl, by omega, hw5, hp5, hpn5, Fm.refl _ _⟩, ?_⟩
  rintro _ w6 iv_ ⟨i, pcs6, hvs, hi, hw6, hp6, hpn6, hf6⟩
  cases hvs
  have hF6 : Fm (fun _ => False) w w6 := Fm.own hF5 hf6 (by rintro x rfl; omega)
  have hz6 := hf6.size
  by_cases hlt : i < l.length
  · have q1 : decide ((i : Int) < (l.length : Int)) = true := by rw [decide_eq_true_eq]; omega
    have q2 : IntKind.i64.wrap ((i : Int) + 1) = ((i + 1 : Nat) : Int) := by rw [wrap_id] <;> omega
    have hx : l[i]? = some l[i] := List.getElem?_eq_getElem hlt
    generalize l[i] = s at hx
    obtain ⟨sa, hix, _, _, hs1, hs0⟩ := said_at hl hx
    simp only [Pu_some, extV_0, extV_1, extV_2, extV_3, nilV_ptr, nilV_fn, faV_ptr, lenV_sl, lenS_s, capV_sl, pickV_t, pickV_f, unV_not, unV_neg, isB_t, isB_f, isB_u, binV_add, binV_sub, binV_mul, binV_eql, binV_neq, binV_lss, binV_leq, binV_gtr, binV_geq, binV_seql, binV_sneq, binV_slss, binV_beql, binV_bneq, binV_peql, binV_pneq, add_add, add_none, Go.Al.add_zero, Nat.zero_add, Nat.add_zero, IfB_t, IfB_f, Gd_t, Gd_f, Ld_ptr, LdN_ptr, Option.isNone_some, Option.isNone_none, Option.isSome_some, Option.isSome_none, Bool.not_true, Bool.not_false, drew_cell, drew_heap, hl.lenV, q1]
    refine Jn_at (fun vs w7 => vs = [] ∧ ∃ pcs : Array Value, w7.heap[x10]? = some (.cells pcs 95) ∧ PgAs w7 pcs (laid m (l.take (i + 1)) (clogBlank m f).1) ∧ (∀ v, pcs[5]? = some v → (laid m (l.take (i + 1)) (clogBlank m f).1).items ≠ [] → ∀ g, blockOf v = some g → w2.heap.size ≤ g ∧ g ≠ x10) ∧ Fm (· = x10) w5 w7) ?_ ?_
    · rintro _ w7 ⟨rfl, pcs7, hw7, hp7, hpn7, hf7⟩ _
      refine ⟨(by trivial), ?_⟩
      simp only [Pu_some, extV_0, extV_1, extV_2, extV_3, nilV_ptr, nilV_fn, faV_ptr, lenV_sl, lenS_s, capV_sl, pickV_t, pickV_f, unV_not, unV_neg, isB_t, isB_f, isB_u, binV_add, binV_sub, binV_mul, binV_eql, binV_neq, binV_lss, binV_leq, binV_gtr, binV_geq, binV_seql, binV_sneq, binV_slss, binV_beql, binV_bneq, binV_peql, binV_pneq, add_add, add_none, Go.Al.add_zero, Nat.zero_add, Nat.add_zero, IfB_t, IfB_f, Gd_t, Gd_f, Ld_ptr, LdN_ptr, Option.isNone_some, Option.isNone_none, Option.isSome_some, Option.isSome_none, Bool.not_true, Bool.not_false, drew_cell, drew_heap, q2]
      exact ⟨⟨i + 1, pcs7, rfl, by omega, hw7, hp7, hpn7, hf7⟩, by simp only [nth_0]; omega⟩
    intro kk hkk
    have htake := laid_take (m := m) (p := (clogBlank m f).1) hx
    generalize laid m (l.take i) (clogBlank m f).1 = P at hp6 hpn6 htake
    generalize laid m (l.take (i + 1)) (clogBlank m f).1 = Q at hkk htake
    refine Jn_at (fun vs w7 => ∃ (x13 : Nat) (cs7 : Array Value), vs = [pv x13, iv (clogSet m P s.1 s.2.1).2] ∧ w7.heap[x13]? = some (.cells cs7 95) ∧ PgAs w7 cs7 (clogSet m P s.1 s.2.1).1 ∧ PgFr w6.heap.size cs7 (clogSet m P s.1 s.2.1).1 ∧ Fm (fun _ => False) w6 w7) ?_ ?_
    · rintro _ w7 ⟨x13, cs7, rfl, hw7, hp7, hpf7, hf7⟩ _
      refine ⟨_, _, rfl, ?_⟩
      have hw7' := hf7.heap hw6 (fun e => e)
      by_cases hq : (clogSet m P s.1 s.2.1).2 = 0
      · have e3 : ((clogSet m P s.1 s.2.1).2 == 0) = true := by simpa using hq
        have e4 : decide ((clogSet m P s.1 s.2.1).2 = 0) = true := by simpa using hq
        rw [e4, cond_true] at htake
        subst htake
        simp only [Pu_some, extV_0, extV_1, extV_2, extV_3, nilV_ptr, nilV_fn, faV_ptr, lenV_sl, lenS_s, capV_sl, pickV_t, pickV_f, unV_not, unV_neg, isB_t, isB_f, isB_u, binV_add, binV_sub, binV_mul, binV_eql, binV_neq, binV_lss, binV_leq, binV_gtr, binV_geq, binV_seql, binV_sneq, binV_slss, binV_beql, binV_bneq, binV_peql, binV_pneq, add_add, add_none, Go.Al.add_zero, Nat.zero_add, Nat.add_zero, IfB_t, IfB_f, Gd_t, Gd_f, Ld_ptr, LdN_ptr, Option.isNone_some, Option.isNone_none, Option.isSome_some, Option.isSome_none, Bool.not_true, Bool.not_false, drew_cell, drew_heap, e3, cellsV_blk hw7 hp7.size]
        refine St_all hw7' hp6.size hp7.size hp7.one ?_
        intro w8 hw8 hs8 hf8
        have h67 : Fm (· = x10) w5 w7 := hf6.trans hf7 (fun _ _ e => e) (fun _ _ e => e.elim)
        have hne : ∀ v, cs7[5]? = some v → (clogSet m P s.1 s.2.1).1.items ≠ [] → ∀ g, blockOf v = some g → w2.heap.size ≤ g ∧ g ≠ x10 := fun v h1 h2 g h3 => by
          have a := hpf7 v h1 h2 g h3
          omega
        exact hkk _ _ ⟨rfl, cs7, hw8, hp7.keepS hf8 (fun v h1 h2 g h3 => (hne v h1 h2 g h3).2), hne, h67.trans hf8 (fun _ _ e => e) (fun _ _ e => e)⟩
      · have e3 : ((clogSet m P s.1 s.2.1).2 == 0) = false := by simpa using hq
        have e4 : decide ((clogSet m P s.1 s.2.1).2 = 0) = false := by simpa using hq
        rw [e4, cond_false] at htake
        subst htake
        simp only [Pu_some, extV_0, extV_1, extV_2, extV_3, nilV_ptr, nilV_fn, faV_ptr, lenV_sl, lenS_s, capV_sl, pickV_t, pickV_f, unV_not, unV_neg, isB_t, isB_f, isB_u, binV_add, binV_sub, binV_mul, binV_eql, binV_neq, binV_lss, binV_leq, binV_gtr, binV_geq, binV_seql, binV_sneq, binV_slss, binV_beql, binV_bneq, binV_peql, binV_pneq, add_add, add_none, Go.Al.add_zero, Nat.zero_add, Nat.add_zero, IfB_t, IfB_f, Gd_t, Gd_f, Ld_ptr, LdN_ptr, Option.isNone_some, Option.isNone_none, Option.isSome_some, Option.isSome_none, Bool.not_true, Bool.not_false, drew_cell, drew_heap, e3]
        exact hkk _ _ ⟨rfl, pcs6, hw7', hp6.keep hf7, hpn6, hf6.trans hf7 (fun _ _ e => e) (fun _ _ e => e.elim)⟩
    · intro jj hjj
      have hfd := Fm.drew (fun _ => False) w6
      refine ⟨fun w' => Fm (fun _ => False) w6 w', hfd, .agg pcs6, fun w' hw' => ?_, ?_⟩
      · simp only [Pu_some, extV_0, extV_1, extV_2, extV_3, nilV_ptr, nilV_fn, faV_ptr, lenV_sl, lenS_s, capV_sl, pickV_t, pickV_f, unV_not, unV_neg, isB_t, isB_f, isB_u, binV_add, binV_sub, binV_mul, binV_eql, binV_neq, binV_lss, binV_leq, binV_gtr, binV_geq, binV_seql, binV_sneq, binV_slss, binV_beql, binV_bneq, binV_peql, binV_pneq, add_add, add_none, Go.Al.add_zero, Nat.zero_add, Nat.add_zero, IfB_t, IfB_f, Gd_t, Gd_f, Ld_ptr, LdN_ptr, Option.isNone_some, Option.isNone_none, Option.isSome_some, Option.isSome_none, Bool.not_true, Bool.not_false, drew_cell, drew_heap, cellsV_blk (hw'.heap hw6 (fun e => e)) hp6.size]
        exact ⟨(by trivial), (by trivial)⟩
      simp only [Pu_some, extV_0, extV_1, extV_2, extV_3, nilV_ptr, nilV_fn, faV_ptr, lenV_sl, lenS_s, capV_sl, pickV_t, pickV_f, unV_not, unV_neg, isB_t, isB_f, isB_u, binV_add, binV_sub, binV_mul, binV_eql, binV_neq, binV_lss, binV_leq, binV_gtr, binV_geq, binV_seql, binV_sneq, binV_slss, binV_beql, binV_bneq, binV_peql, binV_pneq, add_add, add_none, Go.Al.add_zero, Nat.zero_add, Nat.add_zero, IfB_t, IfB_f, Gd_t, Gd_f, Ld_ptr, LdN_ptr, Option.isNone_some, Option.isNone_none, Option.isSome_some, Option.isSome_none, Bool.not_true, Bool.not_false, drew_cell, drew_heap, hix]
      refine ⟨iv s.1, fun w' hw' => ?_, ?_⟩
      · simp only [Pu_some, extV_0, extV_1, extV_2, extV_3, nilV_ptr, nilV_fn, faV_ptr, lenV_sl, lenS_s, capV_sl, pickV_t, pickV_f, unV_not, unV_neg, isB_t, isB_f, isB_u, binV_add, binV_sub, binV_mul, binV_eql, binV_neq, binV_lss, binV_leq, binV_gtr, binV_geq, binV_seql, binV_sneq, binV_slss, binV_beql, binV_bneq, binV_peql, binV_pneq, add_add, add_none, Go.Al.add_zero, Nat.zero_add, Nat.add_zero, IfB_t, IfB_f, Gd_t, Gd_f, Ld_ptr, LdN_ptr, Option.isNone_some, Option.isNone_none, Option.isSome_some, Option.isSome_none, Bool.not_true, Bool.not_false, drew_cell, drew_heap, (said_keep hl (Fmf hF6 hw') hx hix).1]
        exact ⟨(by trivial), (by trivial)⟩
      refine ⟨.int .u8 s.2.1, fun w' hw' => ?_, ?_⟩
      · have := (said_keep hl (Fmf hF6 hw') hx hix).2
        simp only [Pu_some, extV_0, extV_1, extV_2, extV_3, nilV_ptr, nilV_fn, faV_ptr, lenV_sl, lenS_s, capV_sl, pickV_t, pickV_f, unV_not, unV_neg, isB_t, isB_f, isB_u, binV_add, binV_sub, binV_mul, binV_eql, binV_neq, binV_lss, binV_leq, binV_gtr, binV_geq, binV_seql, binV_sneq, binV_slss, binV_beql, binV_bneq, binV_peql, binV_pneq, add_add, add_none, Go.Al.add_zero, Nat.zero_add, Nat.add_zero, IfB_t, IfB_f, Gd_t, Gd_f, Ld_ptr, LdN_ptr, Option.isNone_some, Option.isNone_none, Option.isSome_some, Option.isSome_none, Bool.not_true, Bool.not_false, drew_cell, drew_heap, this]
        exact ⟨(by trivial), (by trivial)⟩
      refine ⟨?_, ?_, (by trivial)⟩
      · refine (cset_spec (hp6.keep hfd) hm s.1 s.2.1 hs0).mono ?_
        rintro _ w7 ⟨cs7, rfl, hp7, hpf7, hf7⟩
        have hF7 := Fmf hfd hf7
        simp only [Pu_some, extV_0, extV_1, extV_2, extV_3, nilV_ptr, nilV_fn, faV_ptr, lenV_sl, lenS_s, capV_sl, pickV_t, pickV_f, unV_not, unV_neg, isB_t, isB_f, isB_u, binV_add, binV_sub, binV_mul, binV_eql, binV_neq, binV_lss, binV_leq, binV_gtr, binV_geq, binV_seql, binV_sneq, binV_slss, binV_beql, binV_bneq, binV_peql, binV_pneq, add_add, add_none, Go.Al.add_zero, Nat.zero_add, Nat.add_zero, IfB_t, IfB_f, Gd_t, Gd_f, Ld_ptr, LdN_ptr, Option.isNone_some, Option.isNone_none, Option.isSome_some, Option.isSome_none, Bool.not_true, Bool.not_false, drew_cell, drew_heap]
        refine New_any ?_
        intro x13 w8 hx13 hs8 hw8 hf8
        have hF8 := Fmf hF7 hf8
        refine St_all hw8 rfl hp7.size hp7.one ?_
        intro w9 hw9 hs9 hf9
        have hz7 := hF7.size
        have hz8 := hf8.size
        have hF9 : Fm (fun _ => False) w6 w9 := Fm.own hF8 hf9 (by rintro x rfl; omega)
        exact hjj _ _ ⟨x13, cs7, rfl, hw9, hp7.keep (Fm.own hf8 hf9 (by rintro x rfl; omega)), hpf7.mono hfd.size, hF9⟩
      · refine New_any ?_
        intro x13 w7 hx13 hs7 hw7 hf7
        have hF7 := Fmf hfd hf7
        refine ⟨hF7, ?_⟩
        refine (cset_spec (hp6.keep hF7) hm s.1 s.2.1 hs0).mono ?_
        rintro _ w8 ⟨cs8, rfl, hp8, hpf8, hf8⟩
        have hF8 := Fmf hF7 hf8
        have hzd := hfd.size
        have hz7 := hf7.size
        have hl7 := lt_of_heap hw7
        have hl8 := lt_of_heap (hf8.heap hw7 (fun e => e))
        simp only [Pu_some, extV_0, extV_1, extV_2, extV_3, nilV_ptr, nilV_fn, faV_ptr, lenV_sl, lenS_s, capV_sl, pickV_t, pickV_f, unV_not, unV_neg, isB_t, isB_f, isB_u, binV_add, binV_sub, binV_mul, binV_eql, binV_neq, binV_lss, binV_leq, binV_gtr, binV_geq, binV_seql, binV_sneq, binV_slss, binV_beql, binV_bneq, binV_peql, binV_pneq, add_add, add_none, Go.Al.add_zero, Nat.zero_add, Nat.add_zero, IfB_t, IfB_f, Gd_t, Gd_f, Ld_ptr, LdN_ptr, Option.isNone_some, Option.isNone_none, Option.isSome_some, Option.isSome_none, Bool.not_true, Bool.not_false, drew_cell, drew_heap]
        refine St_all (hf8.heap hw7 (fun e => e)) rfl hp8.size hp8.one ?_
        intro w9 hw9 hs9 hf9
        have hF9 : Fm (fun _ => False) w6 w9 := Fm.own hF8 hf9 (by rintro x rfl; omega)
        refine hjj _ _ ⟨x13, cs8, rfl, hw9, hp8.keepS hf9 (fun v h1 h2 g h3 e => by have := hpf8 v h1 h2 g h3; omega), hpf8.mono (by omega), hF9⟩
  · have hie : i = l.length := by omega
    subst hie
    have q1 : decide (((l.length : Nat) : Int) < (l.length : Int)) = false := by simp
    rw [List.take_length] at hp6 hpn6
    simp only [Pu_some, extV_0, extV_1, extV_2, extV_3, nilV_ptr, nilV_fn, faV_ptr, lenV_sl, lenS_s, capV_sl, pickV_t, pickV_f, unV_not, unV_neg, isB_t, isB_f, isB_u, binV_add, binV_sub, binV_mul, binV_eql, binV_neq, binV_lss, binV_leq, binV_gtr, binV_geq, binV_seql, binV_sneq, binV_slss, binV_beql, binV_bneq, binV_peql, binV_pneq, add_add, add_none, Go.Al.add_zero, Nat.zero_add, Nat.add_zero, IfB_t, IfB_f, Gd_t, Gd_f, Ld_ptr, LdN_ptr, Option.isNone_some, Option.isNone_none, Option.isSome_some, Option.isSome_none, Bool.not_true, Bool.not_false, drew_cell, drew_heap, hl.lenV, q1]
    have hx7w6 := hf6.heap hx7w (by omega)
    have hx8w6 := hf6.heap hx8w (show ¬ x8 = x10 by omega)
    obtain ⟨av, rv, iv0, rfl, hav, hrv, hit⟩ := hv.ex
    refine St_blk hx7w6 (by simp) rfl ?_
    intro w7 hw7 hs7 hf7
    replace hw7 : w7.heap[x7]? = some (.cells #[iv m, iv v.next, av, iv v.own, rv, iv v.clog.lsn, iv v.clog.kind, iv v.clog.level, iv v.clog.right, stv v.clog.high, iv0] 97) := hw7
    have hw7x := hf7.heap hw6 (show ¬ x10 = x7 by omega)
    have hp7 := hp6.keepS hf7 (fun v h1 h2 g h3 e => by have := (hpn6 v h1 h2 g h3).1; omega)
    simp only [Pu_some, extV_0, extV_1, extV_2, extV_3, nilV_ptr, nilV_fn, faV_ptr, lenV_sl, lenS_s, capV_sl, pickV_t, pickV_f, unV_not, unV_neg, isB_t, isB_f, isB_u, binV_add, binV_sub, binV_mul, binV_eql, binV_neq, binV_lss, binV_leq, binV_gtr, binV_geq, binV_seql, binV_sneq, binV_slss, binV_beql, binV_bneq, binV_peql, binV_pneq, add_add, add_none, Go.Al.add_zero, Nat.zero_add, Nat.add_zero, IfB_t, IfB_f, Gd_t, Gd_f, Ld_ptr, LdN_ptr, Option.isNone_some, Option.isNone_none, Option.isSome_some, Option.isSome_none, Bool.not_true, Bool.not_false, drew_cell, drew_heap, cellsV_blk hw7x hp6.size]
    have hone6 := hp7.one
    obtain ⟨iv1, hpc, hit1⟩ := hp7.ex
    generalize laid m l (clogBlank m f).1 = P at hp6 hpn6 hp7 hpc hit1
    have hsm := hp6.small
    subst hpc
    refine St_blkN hw7 rfl (by simp) hone6 ?_
    intro w8 hw8 hs8 hf8
    replace hw8 : w8.heap[x7]? = some (.cells #[iv m, iv v.next, av, iv v.own, rv, iv P.lsn, iv P.kind, iv P.level, iv P.right, stv P.high, iv1] 97) := hw8
    have hF7 : Fm (fun _ => False) w w7 := Fm.own hF6 hf7 (by rintro x rfl; omega)
    have hF8 : Fm (fun _ => False) w w8 := Fm.own hF7 hf8 (by rintro x rfl; omega)
    have hx8w8 := hf8.heap (hf7.heap hx8w6 (show ¬ x8 = x7 by omega)) (show ¬ x8 = x7 by omega)
    have hblk : ∀ g, P.items ≠ [] → blockOf iv1 = some g → w2.heap.size ≤ g := fun g h1 h2 => (hpn6 iv1 rfl h1 g h2).1
    have hit8 := hit1.keepAny hf8 (fun hx g hg e => by have := hblk g (by simpa using hx) hg; omega)
    have hva : ∀ w', Fm (fun _ => False) w w' → CellsAt w' iv1 P.items.length 1 (P.items.map stv) → VwAs w' #[iv m, iv v.next, av, iv v.own, rv, iv P.lsn, iv P.kind, iv P.level, iv P.right, stv P.high, iv1] { v with modulus := m, clog := P } := fun w' hF h => ⟨⟨av, rv, iv1, rfl, hav.keep hF (fun _ _ e => e), hrv.keep hF (fun _ _ e => e), h⟩, hsm, hm⟩
    simp only [Pu_some, extV_0, extV_1, extV_2, extV_3, nilV_ptr, nilV_fn, faV_ptr, lenV_sl, lenS_s, capV_sl, pickV_t, pickV_f, unV_not, unV_neg, isB_t, isB_f, isB_u, binV_add, binV_sub, binV_mul, binV_eql, binV_neq, binV_lss, binV_leq, binV_gtr, binV_geq, binV_seql, binV_sneq, binV_slss, binV_beql, binV_bneq, binV_peql, binV_pneq, add_add, add_none, Go.Al.add_zero, Nat.zero_add, Nat.add_zero, IfB_t, IfB_f, Gd_t, Gd_f, Ld_ptr, LdN_ptr, Option.isNone_some, Option.isNone_none, Option.isSome_some, Option.isSome_none, Bool.not_true, Bool.not_false, drew_cell, drew_heap, cellsV_blk (n := 11) hw8 rfl]
    refine St_all hx8w8 rfl rfl (hva w8 hF8 hit8).one ?_
    intro w9 hw9 hs9 hf9
    refine retVw2 (i := 8) (j := 9) hw9 rfl rfl rfl _ ?_
    have hF9 : Fm (fun _ => False) w w9 := Fm.own hF8 hf9 (by rintro x rfl; omega)
    exact ⟨_, rfl, hva w9 hF9 (hit8.keepAny hf9 (fun hx g hg e => by have := hblk g (by simpa using hx) hg; omega)), hF9⟩

end Go.Proofs.Ythgdinjgdjiknaa
