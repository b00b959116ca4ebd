/- A page with an item more, another one, one less: the program's. -/
import Derived.Test.YtodnakepbdhfkaaDoorPgSame
namespace Go.Proofs.YtodnakepbdhfkaaDoor
open Go.Al Go.Proofs
set_option linter.unusedVariables false
set_option linter.unusedSimpArgs false
set_option linter.unusedSectionVars false
set_option maxRecDepth 100000

theorem zone24 : ∀ u ∈ (pcs pg0 (.slice none 0 0)).toList, u.oneCell' = true := by intro u hu; simp [pcs] at hu; rcases hu with rfl | rfl | rfl | rfl | rfl | rfl <;> rfl
theorem one24 (p : Pg) {v : Value} (hv : v.oneCell' = true) : ∀ u ∈ (pcs p v).toList, u.oneCell' = true := by intro u hu; simp [pcs] at hu; rcases hu with rfl | rfl | rfl | rfl | rfl | rfl <;> first | rfl | exact hv
theorem PgFr.zero (w : World) (base : Nat) : PgFr w base (pcs pg0 (.slice none 0 0)) pg0 := ⟨_, rfl, rfl, items_nil w, fun h => absurd rfl h⟩
theorem PgFr.keep {w w' : World} {base : Nat} {cs : Array Value} {p : Pg} (h : PgFr w base cs p) (hf : Fm (fun _ => False) w w') : PgFr w' base cs p := by
  obtain ⟨v, h1, h2, h3, h4⟩ := h
  exact ⟨v, h1, h2, h3.keep hf (fun _ _ e => e), h4⟩
theorem PgFr.base {w : World} {base base' : Nat} {cs : Array Value} {p : Pg} (h : PgFr w base cs p) (hb : base' ≤ base) : PgFr w base' cs p := by
  obtain ⟨v, h1, h2, h3, h4⟩ := h
  exact ⟨v, h1, h2, h3, fun hn g hg => Nat.le_trans hb (h4 hn g hg)⟩
theorem PgFr.size {w : World} {base : Nat} {cs : Array Value} {p : Pg} (h : PgFr w base cs p) : cs.size = 6 := by obtain ⟨v, rfl, _⟩ := h; rfl
theorem PgFr.one {w : World} {base : Nat} {cs : Array Value} {p : Pg} (h : PgFr w base cs p) : ∀ u ∈ cs.toList, u.oneCell' = true := by obtain ⟨v, rfl, h2, _⟩ := h; exact one24 p h2
theorem turned_fr {w : World} {base : Nat} {p : Pg} {v : Value} {l : List Bs} (hv : CellsAt w v l.length 1 (l.map stv)) (hone : v.oneCell' = true) (hb : l ≠ [] → ∀ g, blockOf v = some g → base ≤ g) :
    PgFr w base (bif fitsB (withL p l) then pcs (withL p l) v else pcs pg0 (.slice none 0 0)) (turnedP p l).1 := by
  unfold turnedP
  cases fitsB (withL p l) with
  | false => exact PgFr.zero _ _
  | true => exact ⟨v, rfl, hone, hv, hb⟩
theorem slice_one {a : Option Addr} {n c : Nat} : (Value.slice a n c).oneCell' = true := rfl

set_option maxHeartbeats 4000000 in
theorem put_spec {w : World} {cs : Array Value} {p : Pg} (h : PgAs w cs p) (hl : p.items.length * 16 ≤ 140737488351232) {i : Int} {x : Bs} (hx : x.length ≤ 140737488355328) :
    Cl Tryd.prog 31 [.agg cs, iv i, stv x] w fun r w' => ∃ cs', r = .tuple #[.agg cs', iv (putP p i x).2] ∧ PgFr w' w.heap.size cs' (putP p i x).1 ∧ Fm (fun _ => False) w w' := by
  obtain ⟨v, hcs, hone, hc⟩ := h.ex
  refine c31 ?_; unfold T31
  refine New_any ?_
  intro x3 w1 hx3 hs1 hw1 hf1
  refine New_any ?_
  intro x6 w2 hx6 hs2 hw2 hf2
  have hP2 : PB w2 x3 p v := by rw [PB, ← hcs]; exact hf2.heap hw1 (fun e => e)
  have hF2 := Fmf hf1 hf2
  have hxw : x3 = w.heap.size ∧ x6 = w.heap.size + 1 ∧ w2.heap.size = w.heap.size + 2 := by omega
  unfold putP
  have bad : RunS Tryd.prog (Instr.build 24 #[]) w2 (fun t17_17 w_18 =>
      St 6 w_18 (pv x6) t17_17 fun u_19 w_20 =>
      RetO (resL Tryd.prog (fun j => bif Nat.beq j 6 then pv x6 else bif Nat.beq j 7 then (Value.int IntKind.i64 1) else undef) w_20 [(ResultVar.cell 6 24), (ResultVar.tmp 7)]) w_20 (fun r w' => ∃ cs', r = .tuple #[.agg cs', iv 1] ∧ PgFr w' w.heap.size cs' pg0 ∧ Fm (fun _ => False) w w')) := by
    refine RunS_ok (bld24z _) ?_
    refine St_all hw2 rfl rfl zone24 ?_
    intro w5 hw5 hs5 hf5
    exact retPg (g := x6) (i := 6) (j := 7) (u := iv 1) hw5 rfl rfl rfl _ ⟨_, rfl, PgFr.zero _ _, Fm.own hF2 hf5 (by rintro y rfl; omega)⟩
  simp only [RS0, RS1, RS2, RS3, RS4, RS5]
  cases h1 : decide (i < 0) with
  | true => simp only [RS0, RS1, RS2, RS3, RS4, RS5, Bool.true_or, cond_true]; exact bad
  | false =>
  simp only [RS0, RS1, RS2, RS3, RS4, RS5, hP2.c5, hc.lenV]
  cases h2 : decide ((p.items.length : Int) < i) with
  | true => simp only [RS0, RS1, RS2, RS3, RS4, RS5, Bool.or_true, cond_true]; exact bad
  | false =>
  rw [decide_eq_false_iff_not] at h1 h2
  obtain ⟨j, rfl⟩ := Int.eq_ofNat_of_zero_le (show 0 ≤ i by omega)
  have hj : j ≤ p.items.length := by omega
  simp only [RS0, RS1, RS2, RS3, RS4, RS5, Bool.or_false, cond_false]
  have hf3 := Fm.drew (fun _ => False) w2
  have hP3 : PB w2.drew x3 p v := hP2.keep hf3 (fun e => e)
  have hx63 : w2.drew.heap[x6]? = some (.cells #[iv 0, iv 0, iv 0, iv 0, stv [], .slice none 0 0] 24) := hw2
  have hF3 := Fmf hF2 hf3
  have hs3 : w2.drew.heap.size = w.heap.size + 2 := hxw.2.2
  refine ⟨fun w => PB w x3 p v, hP3, ?_⟩
  generalize w2.drew = w3 at hf3 hP3 hx63 hF3 hs3
  have hc3 := hc.keep hF3 (fun _ _ e => e)
  refine ⟨.agg (pcs p v), fun w6 h6 => ?_, ?_⟩
  · simp only [RS0, RS1, RS2, RS3, RS4, RS5, h6.all]; trivial
  simp only [RS0, RS1, RS2, RS3, RS4, RS5]
  refine ⟨v, fun w6 h6 => ?_, ?_⟩
  · simp only [RS0, RS1, RS2, RS3, RS4, RS5, h6.c5]; trivial
  -- behind the insertion
  have fin : ∀ (w7 : World) (r : Value) (a : Option Addr) (c : Nat), r = .slice a (insAt p.items j x).length c → CellsAt w7 r (insAt p.items j x).length 1 ((insAt p.items j x).map stv) → (∀ g, blockOf r = some g → w3.heap.size ≤ g) → Fm (fun y => w3.heap.size ≤ y) w3 w7 →
      Cl Tryd.prog 59 [.agg (pcs p v), r] w7 fun t26_37 w_38 =>
        Pu (extV t26_37 0) fun t27_39 =>
        Pu (extV t26_37 1) fun t28_40 =>
        St 6 w_38 (pv x6) t27_39 fun u_41 w_42 =>
        RetO (resL Tryd.prog (fun j => bif Nat.beq j 6 then pv x6 else bif Nat.beq j 7 then t28_40 else undef) w_42 [(ResultVar.cell 6 24), (ResultVar.tmp 7)]) w_42 (fun r w' => ∃ cs', r = .tuple #[.agg cs', iv (turnedP p (insAt p.items j x)).2] ∧ PgFr w' w.heap.size cs' (turnedP p (insAt p.items j x)).1 ∧ Fm (fun _ => False) w w') := by
    rintro w7 r a c rfl hr hrb hf37
    have hF7 : Fm (fun _ => False) w w7 := Fm.own hF3 hf37 (fun y hy => by omega)
    have hx67 := hf37.heap hx63 (by omega)
    have hil := insAt_len x hj
    have hcs7 : PgAs w7 (pcs p v) p := ⟨⟨v, rfl, hone, hc.keep hF7 (fun _ _ e => e)⟩, h.small, h.ins⟩
    refine (turned_page hcs7 hr rfl (fun y hy => ?_) (by omega)).mono ?_
    · unfold insAt at hy
      rcases List.mem_append.1 hy with hy | hy
      · rcases List.mem_append.1 hy with hy | hy
        · exact h.small y (List.mem_of_mem_take hy)
        · obtain rfl : y = x := by simpa using hy
          exact hx
      · exact h.small y (List.mem_of_mem_drop hy)
    rintro _ w8 ⟨cs', rfl, hcs', hf8⟩
    have hx68 := hf8.heap hx67 (fun e => e)
    have hF8 := Fmf hF7 hf8
    have hfr := turned_fr (p := p) (hr.keep hf8 (fun _ _ e => e)) rfl (fun _ => hrb)
    rw [← hcs'] at hfr
    simp only [RS0, RS1, RS2, RS3, RS4, RS5]
    refine St_all hx68 rfl hfr.size hfr.one ?_
    intro w9 hw9 hs9 hf9
    refine retPg (g := x6) (i := 6) (j := 7) (u := iv (turnedP p (insAt p.items j x)).2) hw9 hfr.size rfl rfl _ ⟨_, rfl, ?_, Fm.own hF8 hf9 (by rintro y rfl; omega)⟩
    obtain ⟨v', e1, e2, e3, e4⟩ := hfr
    have hgt : (turnedP p (insAt p.items j x)).1.items ≠ [] → ∀ g, blockOf v' = some g → w3.heap.size ≤ g := e4
    exact ⟨v', e1, e2, e3.keepAny hf9 (fun hne g hg e => by have := hgt (by simpa using hne) g hg; omega), fun hn g hg => by have := hgt hn g hg; omega⟩
  refine ⟨?_, ?_, trivial⟩
  · refine (clone_spec hc3 (by omega)).mono ?_
    rintro lv w4 ⟨ho4, hf4⟩
    have hP4 := hP3.keep hf4 (fun e => e)
    refine ⟨hP4, ?_⟩
    refine RunS_ok (bs22 x w4) ⟨hP4.keep (Fm.alloc (fun _ => False) _ _) (fun e => e), ?_⟩
    have hf5 := Fm.alloc (fun _ => False) w4 (.cells #[stv x] 9)
    have hn5 := alloc_new w4 (.cells #[stv x] 9)
    have ho5 := own_keep ho4 hf5 (fun _ _ _ _ e => e)
    have hlt4 := own_lt ho4
    generalize w4.alloc (.cells #[stv x] 9) = w5 at hf5 hn5 ho5
    have hz5 := hf5.size
    have hz4 := hf4.size
    refine (insert_spec ho5 hj hn5 (fun e => by have := hlt4 _ e; omega) (by omega) (by omega)).mono ?_
    rintro r w6 ⟨a, c, hr, hcell, hbl, hf6⟩
    refine ⟨(hP4.keep hf5 (fun e => e)).keep hf6 (by have := hP3.lt; omega), ?_⟩
    exact fin w6 r a c (by rw [hr, insAt_len x hj]) (by rw [insAt_len x hj]; exact hcell) (fun g hg => by have := hbl g hg; omega) ((Fmf hf4 hf5).trans hf6 (fun _ _ e => e.elim) (fun _ _ e => e))
  · refine RunS_ok (bs22 x w3) ⟨hP3.keep (Fm.alloc (fun _ => False) _ _) (fun e => e), ?_⟩
    have hf4 := Fm.alloc (fun _ => False) w3 (.cells #[stv x] 9)
    have hn4 := alloc_new w3 (.cells #[stv x] 9)
    have hs4 : (w3.alloc (.cells #[stv x] 9)).heap.size = w3.heap.size + 1 := alloc_size _ _
    generalize w3.alloc (.cells #[stv x] 9) = w4 at hf4 hn4 hs4
    refine (clone_spec (hc3.keep hf4 (fun _ _ e => e)) (by omega)).mono ?_
    rintro lv w5 ⟨ho5, hf5⟩
    have hP5 := hP3.keep (Fmf hf4 hf5) (fun e => e)
    refine ⟨hP5, ?_⟩
    have hz5 := hf5.size
    refine (insert_spec ho5 hj (hf5.heap hn4 (fun e => e)) (fun e => by have := own_lt ho5 _ e; omega) (by omega) (by omega)).mono ?_
    rintro r w6 ⟨a, c, hr, hcell, hbl, hf6⟩
    refine ⟨hP5.keep hf6 (by have := hP3.lt; omega), ?_⟩
    exact fin w6 r a c (by rw [hr, insAt_len x hj]) (by rw [insAt_len x hj]; exact hcell) (fun g hg => by have := hbl g hg; omega) ((Fmf hf4 hf5).trans hf6 (fun _ _ e => e.elim) (fun y _ e => by omega))

end Go.Proofs.YtodnakepbdhfkaaDoor
