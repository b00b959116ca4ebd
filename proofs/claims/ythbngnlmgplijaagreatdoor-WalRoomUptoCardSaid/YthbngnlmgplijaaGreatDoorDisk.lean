/- What the functions of package disk do. -/
import Derived.Test.YthbngnlmgplijaaGreatDoorCpsD
import Derived.Test.YthbngnlmgplijaaGreatDoorDiskPure
import Derived.Test.YthbngnlmgplijaaGreatDoorPgBits
namespace Go.Proofs.YthbngnlmgplijaaGreatDoor
open Go.Al Go.Proofs
set_option linter.unusedVariables false
set_option linter.unusedSimpArgs false
set_option linter.unusedSectionVars false

theorem B44 : ByteT Tryz.prog 123 5 9 := byteT_of Tryz.underlying123 Tryz.underlying5 Tryz.underlying9 (by kernel_rfl)
theorem K118 : KeyT Tryz.prog 124 3 9 iv := keyT_int Tryz.underlying124 Tryz.underlying3
theorem z9 (w : World) : (zeroValue 9).run Tryz.prog w = .ok (stv []) w := by kernel_rfl
theorem bld120 (g n c m : Nat) (w : World) : (Instr.build 126 #[(0, .slice (some ⟨g, 0, none⟩) n c), (1, .map (some m))]).run Tryz.prog w = .ok (.agg #[.slice (some ⟨g, 0, none⟩) n c, .map (some m), iv 0, .bool false, iv 0]) w := by kernel_rfl

/-- A disk of the program: the struct in block b, its bytes in block g, its old sectors in block m. -/
structure DAt (w : World) (b g m : Nat) (d : Dk) : Prop where
  wf : d.Wf
  st : w.heap[b]? = some (.cells #[.slice (some ⟨g, 0, none⟩) (64 * d.cur.length) (64 * d.cur.length), .map (some m), iv d.armed, .bool d.gone, iv d.done] 126)
  by_ : BRow w g 5 d.cur.flatten
  mp : ∃ M : List (Int × Bs), MapAt w m iv stv M ∧ ∀ k x, (k, x) ∈ M ↔ ∃ i : Nat, k = (i : Int) ∧ Dk.isC d.chg i = true ∧ d.old[i]? = some x
theorem DAt.bg {w : World} {b g m : Nat} {d : Dk} (h : DAt w b g m d) : b ≠ g := by
  rintro rfl
  have := h.st; rw [h.by_] at this; simp at this
theorem DAt.bm {w : World} {b g m : Nat} {d : Dk} (h : DAt w b g m d) : b ≠ m := by
  rintro rfl
  obtain ⟨M, hM, _⟩ := h.mp
  obtain ⟨es, c, hb, _⟩ := hM.ex
  rw [h.st] at hb; cases hb
theorem DAt.gm {w : World} {b g m : Nat} {d : Dk} (h : DAt w b g m d) : g ≠ m := by
  rintro rfl
  obtain ⟨M, hM, _⟩ := h.mp
  obtain ⟨es, c, hb, _⟩ := hM.ex
  have := h.by_
  unfold BRow at this
  rw [this] at hb; cases hb
theorem DAt.keep {S : Nat → Prop} {w w' : World} {b g m : Nat} {d : Dk} (h : DAt w b g m d) (hf : Fm S w w') (h1 : ¬ S b) (h2 : ¬ S g) (h3 : ¬ S m) : DAt w' b g m d := by
  obtain ⟨M, hM, hi⟩ := h.mp
  exact ⟨h.wf, hf.heap h.st h1, h.by_.keep hf h2, M, hM.keep hf h3, hi⟩
theorem DAt.keep0 {w w' : World} {b g m : Nat} {d : Dk} (h : DAt w b g m d) (hf : Fm (fun _ => False) w w') : DAt w' b g m d := h.keep hf (fun e => e) (fun e => e) (fun e => e)
theorem DAt.drew {w : World} {b g m : Nat} {d : Dk} (h : DAt w b g m d) : DAt w.drew b g m d := h.keep0 (Fm.drew _ w)
theorem DAt.lt {w : World} {b g m : Nat} {d : Dk} (h : DAt w b g m d) : b < w.heap.size ∧ g < w.heap.size ∧ m < w.heap.size := by
  obtain ⟨M, hM, _⟩ := h.mp
  exact ⟨lt_of_heap h.st, h.by_.lt, hM.lt⟩
theorem DAt.c0 {w : World} {b g m : Nat} {d : Dk} (h : DAt w b g m d) : w.cell? ⟨b, 0, none⟩ = some (.slice (some ⟨g, 0, none⟩) (64 * d.cur.length) (64 * d.cur.length)) := by rw [cell_at h.st]; rfl
theorem DAt.c1 {w : World} {b g m : Nat} {d : Dk} (h : DAt w b g m d) : w.cell? ⟨b, 1, none⟩ = some (.map (some m)) := by rw [cell_at h.st]; rfl
theorem DAt.c2 {w : World} {b g m : Nat} {d : Dk} (h : DAt w b g m d) : w.cell? ⟨b, 2, none⟩ = some (iv d.armed) := by rw [cell_at h.st]; rfl
theorem DAt.c3 {w : World} {b g m : Nat} {d : Dk} (h : DAt w b g m d) : w.cell? ⟨b, 3, none⟩ = some (.bool d.gone) := by rw [cell_at h.st]; rfl
theorem DAt.c4 {w : World} {b g m : Nat} {d : Dk} (h : DAt w b g m d) : w.cell? ⟨b, 4, none⟩ = some (iv d.done) := by rw [cell_at h.st]; rfl

theorem dnew_spec (w : World) (n : Int) : Cl Tryz.prog 17 [iv n] w fun v w' =>
    (n < 1 ∨ 65536 < n → v = .tuple #[.pointer none, iv 1] ∧ w' = w) ∧
    (¬ (n < 1 ∨ 65536 < n) → ∃ b g m, v = .tuple #[pv b, iv 0] ∧ w.heap.size ≤ b ∧ w.heap.size ≤ g ∧ w.heap.size ≤ m ∧ DAt w' b g m (Dk.mk0 n.toNat) ∧ Fm (fun _ => False) w w') := by
  refine c17 ?_; unfold T17
  have ok : ¬ (n < 1 ∨ 65536 < n) → Pu (binV (TypeDesc.int IntKind.i64) .mul (iv n) (Value.int IntKind.i64 64)) fun t11_7 =>
      RunS Tryz.prog (Instr.makeSlice 123 t11_7 t11_7) w fun t12_8 w_9 =>
      RunS Tryz.prog (Instr.makeMap 124 none) w_9 fun t13_10 w_11 =>
      RunS Tryz.prog (Instr.build 126 #[(0, t12_8), (1, t13_10)]) w_11 fun t14_12 w_13 =>
      New (Value.cells t14_12) 126 w_13 fun t15_14 w_15 =>
      ∃ b g m, Value.tuple #[t15_14, (Value.int IntKind.i64 0)] = .tuple #[pv b, iv 0] ∧ w.heap.size ≤ b ∧ w.heap.size ≤ g ∧ w.heap.size ≤ m ∧ DAt w_15 b g m (Dk.mk0 n.toNat) ∧ Fm (fun _ => False) w w_15 := by
    intro hn
    obtain ⟨k, rfl⟩ := Int.eq_ofNat_of_zero_le (show 0 ≤ n by omega)
    have hk : 1 ≤ k ∧ k ≤ 65536 := by omega
    have e1 : IntKind.i64.wrap ((k : Int) * 64) = ((64 * k : Nat) : Int) := by rw [wrap_id] <;> omega
    simp only [RS0, RS1, RS2, RS3, RS4, RS5, e1]
    refine RunS_ok (BRow.make B44 w (64 * k) (by omega)) (RunS_ok (makeMap_run _ _) (RunS_ok (bld120 _ _ _ _ _) (New_any ?_)))
    intro b w' hb hs hw hf
    have hs1 := alloc_size w (.cells (bc (List.replicate (64 * k) 0)).toArray 5)
    generalize hw1 : w.alloc (.cells (bc (List.replicate (64 * k) 0)).toArray 5) = w1 at hs1 hb hs hf hw
    have hg : BRow w1 w.heap.size 5 (List.replicate (64 * k) 0) := by rw [← hw1]; exact alloc_new _ _
    have hf1 : Fm (fun _ => False) w w1 := by rw [← hw1]; exact Fm.alloc _ _ _
    have hM := (MapAt.empty w1 iv stv).keep hf (fun e => e)
    have hf2 := (Fm.alloc (fun _ => False) w1 (.map #[] 0))
    rw [alloc_size] at hb
    have hfl : List.replicate (64 * k) 0 = (Dk.mk0 k).cur.flatten := by
      show _ = (List.replicate k Dk.zsec).flatten
      rw [Dk.zsec, List.flatten_replicate_replicate, Nat.mul_comm]
    have hlen : (Dk.mk0 k).cur.length = k := by simp [Dk.mk0]
    refine ⟨b, w.heap.size, w1.heap.size, rfl, by omega, by omega, by omega, ⟨Dk.wf_mk0 hk.2, ?_, ?_, [], hM, ?_⟩, ?_⟩
    · rw [Int.toNat_natCast, hlen]; exact hw
    · rw [Int.toNat_natCast, ← hfl]; exact (hg.keep hf2 (fun e => e)).keep hf (fun e => e)
    · intro a x
      constructor
      · intro h; cases h
      · rintro ⟨i, _, hc, _⟩
        have := Dk.isC_rep k i
        rw [show (Dk.mk0 (k : Int).toNat).chg = List.replicate k false from rfl] at hc
        rw [this] at hc; cases hc
    · exact (hf1.trans hf2 (fun _ _ e => e) (fun _ _ e => e)).trans hf (fun _ _ e => e) (fun _ _ e => e)
  by_cases h1 : n < 1
  · have e1 : decide (n < 1) = true := by simpa using h1
    simp only [RS0, RS1, RS2, RS3, RS4, RS5, e1]
    exact ⟨fun _ => ⟨trivial, trivial⟩, fun h => absurd (.inl h1) h⟩
  · have e1 : decide (n < 1) = false := by simpa using h1
    by_cases h2 : 65536 < n
    · have e2 : decide (65536 < n) = true := by simpa using h2
      simp only [RS0, RS1, RS2, RS3, RS4, RS5, e1, e2]
      exact ⟨fun _ => ⟨trivial, trivial⟩, fun h => absurd (.inr h2) h⟩
    · have e2 : decide (65536 < n) = false := by simpa using h2
      have hno : ¬ (n < 1 ∨ 65536 < n) := by omega
      have := ok hno
      simp only [RS0, RS1, RS2, RS3, RS4, RS5, e1, e2]
      simp only [hno, false_imp_iff, true_and, not_false_eq_true, true_imp_iff]
      simp only [RS0, RS1, RS2, RS3, RS4, RS5] at this
      exact this

theorem dsize_spec {w : World} {b g m : Nat} {d : Dk} (h : DAt w b g m d) : Cl Tryz.prog 108 [pv b] w fun v w' => v = iv d.cur.length ∧ w' = w := by
  have hn := h.wf.n1
  refine c108 ?_; unfold T108
  have e := quo_nat (TypeDesc.int IntKind.i64) (n := 64 * d.cur.length) (m := 64) (b := 64) (by omega) (by omega) rfl
  simp only [RS0, RS1, RS2, RS3, RS4, RS5, h.c0, e]
  rw [Nat.mul_div_cancel_left _ (by omega)]
  exact ⟨(by trivial), (by trivial)⟩
theorem dsize_nil (w : World) : Cl Tryz.prog 108 [.pointer none] w fun v w' => v = iv 0 ∧ w' = w := by
  refine c108 ?_; unfold T108
  simp only [RS0, RS1, RS2, RS3, RS4, RS5, and_self]
theorem dalive_spec {w : World} {b g m : Nat} {d : Dk} (h : DAt w b g m d) : Cl Tryz.prog 110 [pv b] w fun v w' => v = iv (bif d.gone then 5 else 0) ∧ w' = w := by
  refine c110 ?_; unfold T110
  simp only [RS0, RS1, RS2, RS3, RS4, RS5, h.c3]
  cases d.gone <;> simp only [RS0, RS1, RS2, RS3, RS4, RS5, cond_true, cond_false, and_self]
theorem dalive_nil (w : World) : Cl Tryz.prog 110 [.pointer none] w fun v w' => v = iv 2 ∧ w' = w := by
  refine c110 ?_; unfold T110
  simp only [RS0, RS1, RS2, RS3, RS4, RS5, and_self]
theorem dhas_spec {w : World} {b g m : Nat} {d : Dk} (h : DAt w b g m d) (a k : Int) : Cl Tryz.prog 114 [pv b, iv a, iv k] w fun v w' => v = .bool (d.has a k) ∧ w' = w := by
  have hn := h.wf.n1
  refine c114 ?_; unfold T114
  unfold Dk.has
  by_cases h1 : 0 ≤ a
  · have e1 : decide (0 ≤ a) = true := by simpa using h1
    by_cases h2 : 0 ≤ k
    · have e2 : decide (0 ≤ k) = true := by simpa using h2
      simp only [RS0, RS1, RS2, RS3, RS4, RS5, e1, e2]
      refine (dsize_spec h).mono ?_
      rintro _ w ⟨rfl, rfl⟩
      by_cases h3 : a ≤ d.cur.length
      · have e3 : decide (a ≤ (d.cur.length : Int)) = true := by simpa using h3
        simp only [RS0, RS1, RS2, RS3, RS4, RS5, e3]
        refine (dsize_spec h).mono ?_
        rintro _ w ⟨rfl, rfl⟩
        have e4 : IntKind.i64.wrap ((d.cur.length : Int) - a) = d.cur.length - a := wrap_id (by omega)
        simp only [RS0, RS1, RS2, RS3, RS4, RS5, e4]
        refine ⟨?_, (by trivial)⟩
        congr 1
        simp [h1, h2, h3]
      · have e3 : decide (a ≤ (d.cur.length : Int)) = false := by simpa using h3
        simp only [RS0, RS1, RS2, RS3, RS4, RS5, e3]
        refine ⟨?_, (by trivial)⟩
        congr 1
        symm
        rw [decide_eq_false_iff_not]; omega
    · have e2 : decide (0 ≤ k) = false := by simpa using h2
      simp only [RS0, RS1, RS2, RS3, RS4, RS5, e1, e2]
      refine ⟨?_, (by trivial)⟩
      congr 1
      symm
      rw [decide_eq_false_iff_not]; omega
  · have e1 : decide (0 ≤ a) = false := by simpa using h1
    simp only [RS0, RS1, RS2, RS3, RS4, RS5, e1]
    refine ⟨?_, (by trivial)⟩
    congr 1
    symm
    rw [decide_eq_false_iff_not]; omega
theorem dsector_spec {w : World} {b g m : Nat} {d : Dk} (h : DAt w b g m d) {i : Nat} (hi : i < d.cur.length) : Cl Tryz.prog 121 [pv b, iv i] w fun v w' => v = .slice (some ⟨g, 64 * i, none⟩) 64 (64 * d.cur.length - 64 * i) ∧ w' = w := by
  have hn := h.wf.n1
  refine c121 ?_; unfold T121
  have e1 : IntKind.i64.wrap ((i : Int) * 64) = ((64 * i : Nat) : Int) := by rw [wrap_id] <;> omega
  have e2 : IntKind.i64.wrap ((i : Int) + 1) = ((i + 1 : Nat) : Int) := by rw [wrap_id] <;> omega
  have e3 : IntKind.i64.wrap (((i + 1 : Nat) : Int) * 64) = ((64 * (i + 1) : Nat) : Int) := by rw [wrap_id] <;> omega
  obtain ⟨o', hs, ho, _⟩ := slV_lh (g := g) (o := 0) (n := 64 * d.cur.length) (c := 64 * d.cur.length) (i := 64 * i) (j := 64 * (i + 1)) (by omega) (by omega) .i64 .i64
  simp only [RS0, RS1, RS2, RS3, RS4, RS5, h.c0, e1, e2, e3, hs]
  rw [ho (by omega), show 64 * (i + 1) - 64 * i = 64 by omega, Nat.zero_add]
  exact ⟨(by trivial), (by trivial)⟩

/-- A store into the struct. -/
theorem DAt.tick {w w' : World} {b g m : Nat} {d d' : Dk} (h : DAt w b g m d) (hc : d'.cur = d.cur ∧ d'.old = d.old ∧ d'.chg = d.chg) (hwf : d'.Wf)
    (hb : w'.heap[b]? = some (.cells #[.slice (some ⟨g, 0, none⟩) (64 * d.cur.length) (64 * d.cur.length), .map (some m), iv d'.armed, .bool d'.gone, iv d'.done] 126)) (hf : Fm (· = b) w w') : DAt w' b g m d' := by
  obtain ⟨M, hM, hi⟩ := h.mp
  have h1 := h.bg; have h2 := h.bm
  obtain ⟨hc1, hc2, hc3⟩ := hc
  exact ⟨hwf, by rw [hc1]; exact hb, by rw [hc1]; exact h.by_.keep hf (fun e => h1 e.symm), M, hM.keep hf (fun e => h2 e.symm), by rw [hc2, hc3]; exact hi⟩

theorem dact_spec {w : World} {b g m : Nat} {d : Dk} (h : DAt w b g m d) : Cl Tryz.prog 111 [pv b] w fun v w' => v = .bool d.tick.gone ∧ DAt w' b g m d.tick ∧ Fm (· = b) w w' := by
  have har := h.wf.ar
  refine c111 ?_; unfold T111
  simp only [RS0, RS1, RS2, RS3, RS4, RS5, h.c4]
  refine St_blk h.st (by simp) rfl ?_
  intro w1 hw1 hs1 hf1
  replace hw1 : w1.heap[b]? = some (.cells #[.slice (some ⟨g, 0, none⟩) (64 * d.cur.length) (64 * d.cur.length), .map (some m), iv d.armed, .bool d.gone, iv (IntKind.i64.wrap (d.done + 1))] 126) := hw1
  have c2 : w1.cell? ⟨b, 2, none⟩ = some (iv d.armed) := by rw [cell_at hw1]; rfl
  refine Jn_at (fun vs w2 => vs = [] ∧ DAt w2 b g m d.tick ∧ Fm (· = b) w w2) ?_ ?_
  · rintro _ w2 ⟨rfl, hD, hf⟩ _
    refine ⟨rfl, ?_⟩
    simp only [RS0, RS1, RS2, RS3, RS4, RS5, hD.c3]
    exact ⟨trivial, hD, hf⟩
  · intro kk hkk
    simp only [RS0, RS1, RS2, RS3, RS4, RS5, c2]
    by_cases ha : 0 < d.armed
    · have e1 : decide (0 < d.armed) = true := by simpa using ha
      have e2 : IntKind.i64.wrap (d.armed - 1) = d.armed - 1 := wrap_id (by omega)
      simp only [RS0, RS1, RS2, RS3, RS4, RS5, e1, c2, e2]
      refine St_blk hw1 (by simp) rfl ?_
      intro w2 hw2 hs2 hf2
      replace hw2 : w2.heap[b]? = some (.cells #[.slice (some ⟨g, 0, none⟩) (64 * d.cur.length) (64 * d.cur.length), .map (some m), iv (d.armed - 1), .bool d.gone, iv (IntKind.i64.wrap (d.done + 1))] 126) := hw2
      have c2' : w2.cell? ⟨b, 2, none⟩ = some (iv (d.armed - 1)) := by rw [cell_at hw2]; rfl
      simp only [RS0, RS1, RS2, RS3, RS4, RS5, c2']
      refine St_blk hw2 (by simp) rfl ?_
      intro w3 hw3 hs3 hf3
      have hF : Fm (· = b) w w3 := (hf1.trans hf2 (fun _ _ e => e) (fun _ _ e => e)).trans hf3 (fun _ _ e => e) (fun _ _ e => e)
      refine hkk _ _ ⟨rfl, h.tick (Dk.tick_cur d) h.wf.tick ?_ hF, hF⟩
      unfold Dk.tick
      rw [if_pos ha]
      rw [beq_dec] at hw3
      exact hw3
    · have e1 : decide (0 < d.armed) = false := by simpa using ha
      simp only [RS0, RS1, RS2, RS3, RS4, RS5, e1]
      refine hkk _ _ ⟨rfl, h.tick (Dk.tick_cur d) h.wf.tick ?_ hf1, hf1⟩
      unfold Dk.tick
      rw [if_neg ha]
      exact hw1

theorem dread_spec {w : World} {b g m : Nat} {d : Dk} (h : DAt w b g m d) (a k : Int) : Cl Tryz.prog 40 [pv b, iv a, iv k] w fun v w' => v = .tuple #[stv (d.read a k).1, iv (d.read a k).2] ∧ w' = w := by
  have hn := h.wf.n1
  refine c40 ?_; unfold T40
  refine (dalive_spec h).mono ?_
  rintro _ w ⟨rfl, rfl⟩
  unfold Dk.read
  cases hg : d.gone with
  | true =>
    simp only [RS0, RS1, RS2, RS3, RS4, RS5, cond_true, bne_dec]
    exact ⟨(by trivial), (by trivial)⟩
  | false =>
    simp only [RS0, RS1, RS2, RS3, RS4, RS5, cond_false, bne_self_eq_false]
    refine (dhas_spec h a k).mono ?_
    rintro _ w ⟨rfl, rfl⟩
    cases hh : d.has a k with
    | false =>
      simp only [RS0, RS1, RS2, RS3, RS4, RS5, cond_true]
      exact ⟨(by trivial), (by trivial)⟩
    | true =>
      unfold Dk.has at hh
      simp only [decide_eq_true_eq] at hh
      obtain ⟨i, rfl⟩ := Int.eq_ofNat_of_zero_le hh.1
      obtain ⟨j, rfl⟩ := Int.eq_ofNat_of_zero_le hh.2.1
      have hij : i + j ≤ d.cur.length := by omega
      have e1 : IntKind.i64.wrap ((i : Int) * 64) = ((64 * i : Nat) : Int) := by rw [wrap_id] <;> omega
      have e2 : IntKind.i64.wrap ((i : Int) + j) = ((i + j : Nat) : Int) := by rw [wrap_id] <;> omega
      have e3 : IntKind.i64.wrap (((i + j : Nat) : Int) * 64) = ((64 * (i + j) : Nat) : Int) := by rw [wrap_id] <;> omega
      obtain ⟨o', hs, ho, hle, _⟩ := slV_lh (g := g) (o := 0) (n := 64 * d.cur.length) (c := 64 * d.cur.length) (i := 64 * i) (j := 64 * (i + j)) (by omega) (by omega) .i64 .i64
      simp only [RS0, RS1, RS2, RS3, RS4, RS5, h.c0, e1, e2, e3, hs, cond_false]
      have hfl := Dk.flat_len h.wf.s1
      have ee : 64 * (i + j) - 64 * i = 64 * j := by omega
      rw [ee]
      refine RunS_ok (h.by_.conv B44 (o := o') (n := 64 * j) (by rw [hfl]; omega) _) ⟨?_, (by trivial)⟩
      congr 3
      have hd : (d.cur.flatten.drop o').take (64 * j) = ((d.cur.drop i).take j).flatten := by
        by_cases hi : 64 * i < 64 * d.cur.length
        · rw [ho hi, Nat.zero_add, Dk.flat_drop h.wf.s1, Dk.flat_take (fun x hx => h.wf.s1 x (List.mem_of_mem_drop hx))]
        · have hj0 : j = 0 := by omega
          subst hj0; simp
      rw [hd]; rfl
theorem dread_nil (w : World) (a k : Value) : Cl Tryz.prog 40 [.pointer none, a, k] w fun v w' => v = .tuple #[stv [], iv 2] ∧ w' = w := by
  refine c40 ?_; unfold T40
  refine (dalive_nil w).mono ?_
  rintro _ w ⟨rfl, rfl⟩
  simp only [RS0, RS1, RS2, RS3, RS4, RS5, bne_dec]
  exact ⟨(by trivial), (by trivial)⟩

theorem ddead_spec {w : World} {b g m : Nat} {d : Dk} (h : DAt w b g m d) : Cl Tryz.prog 58 [pv b] w fun v w' => v = .bool d.gone ∧ w' = w := by
  refine c58 ?_; unfold T58
  simp only [RS0, RS1, RS2, RS3, RS4, RS5, h.c3, pickV_t, and_self]
theorem ddead_nil (w : World) : Cl Tryz.prog 58 [.pointer none] w fun v w' => v = .bool false ∧ w' = w := by
  refine c58 ?_; unfold T58
  simp only [RS0, RS1, RS2, RS3, RS4, RS5, and_self]
theorem dacts_spec {w : World} {b g m : Nat} {d : Dk} (h : DAt w b g m d) : Cl Tryz.prog 145 [pv b] w fun v w' => v = iv d.done ∧ w' = w := by
  refine c145 ?_; unfold T145
  simp only [RS0, RS1, RS2, RS3, RS4, RS5, h.c4, and_self]
theorem dacts_nil (w : World) : Cl Tryz.prog 145 [.pointer none] w fun v w' => v = iv 0 ∧ w' = w := by
  refine c145 ?_; unfold T145
  simp only [RS0, RS1, RS2, RS3, RS4, RS5, and_self]

theorem darm_spec {w : World} {b g m : Nat} {d : Dk} (h : DAt w b g m d) {a : Int} (ha : a ≤ 9223372036854775807) : Cl Tryz.prog 56 [pv b, iv a] w fun v w' => v = iv (d.arm a).2 ∧ DAt w' b g m (d.arm a).1 ∧ Fm (· = b) w w' := by
  have hwf := h.wf.arm ha
  refine c56 ?_; unfold T56
  refine (dalive_spec h).mono ?_
  rintro _ w ⟨rfl, rfl⟩
  unfold Dk.arm at hwf ⊢
  cases hg : d.gone with
  | true =>
    simp only [RS0, RS1, RS2, RS3, RS4, RS5, cond_true, bne_dec]
    exact ⟨(by trivial), h, Fm.refl _ _⟩
  | false =>
    rw [hg] at hwf
    simp only [RS0, RS1, RS2, RS3, RS4, RS5, cond_false, bne_self_eq_false]
    by_cases hn : a < 0
    · have e1 : decide (a < 0) = true := by simpa using hn
      simp only [RS0, RS1, RS2, RS3, RS4, RS5, e1, cond_true]
      exact ⟨(by trivial), h, Fm.refl _ _⟩
    · have e1 : decide (a < 0) = false := by simpa using hn
      simp only [RS0, RS1, RS2, RS3, RS4, RS5, e1, cond_false]
      rw [e1] at hwf
      refine St_blk h.st (by simp) rfl ?_
      intro w1 hw1 hs1 hf1
      exact ⟨(by trivial), h.tick ⟨rfl, rfl, rfl⟩ hwf (by rw [hg] at hw1; exact hw1) hf1, hf1⟩
theorem darm_nil (w : World) (a : Value) : Cl Tryz.prog 56 [.pointer none, a] w fun v w' => v = iv 2 ∧ w' = w := by
  refine c56 ?_; unfold T56
  refine (dalive_nil w).mono ?_
  rintro _ w ⟨rfl, rfl⟩
  simp only [RS0, RS1, RS2, RS3, RS4, RS5, bne_dec]
  exact ⟨(by trivial), (by trivial)⟩

end Go.Proofs.YthbngnlmgplijaaGreatDoor
