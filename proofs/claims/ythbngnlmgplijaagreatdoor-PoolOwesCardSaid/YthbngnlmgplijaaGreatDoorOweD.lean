/- Laid for one claim by slim.py out of: Disk Disk2 CpsW WalA WalB WalC WalD WalE2 WalGet PoolPure PoolGood CpsL. -/
import Derived.Test.YthbngnlmgplijaaGreatDoorOweC
namespace Go.Proofs.YthbngnlmgplijaaGreatDoor
open Go.Al Go.Proofs
set_option linter.unusedVariables false
set_option linter.unusedSimpArgs false
set_option linter.unusedSectionVars false

theorem B44 : ByteT Tryz.prog 123 5 9 := byteT_of Tryz.underlying123 Tryz.underlying5 Tryz.underlying9 (by kernel_rfl)
theorem K118 : KeyT Tryz.prog 124 3 9 iv := keyT_int Tryz.underlying124 Tryz.underlying3
theorem z9 (w : World) : (zeroValue 9).run Tryz.prog w = .ok (stv []) w := by kernel_rfl
theorem bld120 (g n c m : Nat) (w : World) : (Instr.build 126 #[(0, .slice (some ⟨g, 0, none⟩) n c), (1, .map (some m))]).run Tryz.prog w = .ok (.agg #[.slice (some ⟨g, 0, none⟩) n c, .map (some m), iv 0, .bool false, iv 0]) w := by kernel_rfl

/-- A disk of the program: the struct in block b, its bytes in block g, its old sectors in block m. -/
structure DAt (w : World) (b g m : Nat) (d : Dk) : Prop where
  wf : d.Wf
  st : w.heap[b]? = some (.cells #[.slice (some ⟨g, 0, none⟩) (64 * d.cur.length) (64 * d.cur.length), .map (some m), iv d.armed, .bool d.gone, iv d.done] 126)
  by_ : BRow w g 5 d.cur.flatten
  mp : ∃ M : List (Int × Bs), MapAt w m iv stv M ∧ ∀ k x, (k, x) ∈ M ↔ ∃ i : Nat, k = (i : Int) ∧ Dk.isC d.chg i = true ∧ d.old[i]? = some x
theorem DAt.bg {w : World} {b g m : Nat} {d : Dk} (h : DAt w b g m d) : b ≠ g := by
  rintro rfl
  have := h.st; rw [h.by_] at this; simp at this
theorem DAt.bm {w : World} {b g m : Nat} {d : Dk} (h : DAt w b g m d) : b ≠ m := by
  rintro rfl
  obtain ⟨M, hM, _⟩ := h.mp
  obtain ⟨es, c, hb, _⟩ := hM.ex
  rw [h.st] at hb; cases hb
theorem DAt.gm {w : World} {b g m : Nat} {d : Dk} (h : DAt w b g m d) : g ≠ m := by
  rintro rfl
  obtain ⟨M, hM, _⟩ := h.mp
  obtain ⟨es, c, hb, _⟩ := hM.ex
  have := h.by_
  unfold BRow at this
  rw [this] at hb; cases hb
theorem DAt.keep {S : Nat → Prop} {w w' : World} {b g m : Nat} {d : Dk} (h : DAt w b g m d) (hf : Fm S w w') (h1 : ¬ S b) (h2 : ¬ S g) (h3 : ¬ S m) : DAt w' b g m d := by
  obtain ⟨M, hM, hi⟩ := h.mp
  exact ⟨h.wf, hf.heap h.st h1, h.by_.keep hf h2, M, hM.keep hf h3, hi⟩
theorem DAt.keep0 {w w' : World} {b g m : Nat} {d : Dk} (h : DAt w b g m d) (hf : Fm (fun _ => False) w w') : DAt w' b g m d := h.keep hf (fun e => e) (fun e => e) (fun e => e)
theorem DAt.drew {w : World} {b g m : Nat} {d : Dk} (h : DAt w b g m d) : DAt w.drew b g m d := h.keep0 (Fm.drew _ w)
theorem DAt.lt {w : World} {b g m : Nat} {d : Dk} (h : DAt w b g m d) : b < w.heap.size ∧ g < w.heap.size ∧ m < w.heap.size := by
  obtain ⟨M, hM, _⟩ := h.mp
  exact ⟨lt_of_heap h.st, h.by_.lt, hM.lt⟩
theorem DAt.c0 {w : World} {b g m : Nat} {d : Dk} (h : DAt w b g m d) : w.cell? ⟨b, 0, none⟩ = some (.slice (some ⟨g, 0, none⟩) (64 * d.cur.length) (64 * d.cur.length)) := by rw [cell_at h.st]; rfl
theorem DAt.c1 {w : World} {b g m : Nat} {d : Dk} (h : DAt w b g m d) : w.cell? ⟨b, 1, none⟩ = some (.map (some m)) := by rw [cell_at h.st]; rfl
theorem DAt.c3 {w : World} {b g m : Nat} {d : Dk} (h : DAt w b g m d) : w.cell? ⟨b, 3, none⟩ = some (.bool d.gone) := by rw [cell_at h.st]; rfl
theorem DAt.c4 {w : World} {b g m : Nat} {d : Dk} (h : DAt w b g m d) : w.cell? ⟨b, 4, none⟩ = some (iv d.done) := by rw [cell_at h.st]; rfl

theorem dnew_spec (w : World) (n : Int) : Cl Tryz.prog 17 [iv n] w fun v w' =>
    (n < 1 ∨ 65536 < n → v = .tuple #[.pointer none, iv 1] ∧ w' = w) ∧
    (¬ (n < 1 ∨ 65536 < n) → ∃ b g m, v = .tuple #[pv b, iv 0] ∧ w.heap.size ≤ b ∧ w.heap.size ≤ g ∧ w.heap.size ≤ m ∧ DAt w' b g m (Dk.mk0 n.toNat) ∧ Fm (fun _ => False) w w') := by
  refine c17 ?_; unfold T17
  have ok : ¬ (n < 1 ∨ 65536 < n) → Pu (binV (TypeDesc.int IntKind.i64) .mul (iv n) (Value.int IntKind.i64 64)) fun t11_7 =>
      RunS Tryz.prog (Instr.makeSlice 123 t11_7 t11_7) w fun t12_8 w_9 =>
      RunS Tryz.prog (Instr.makeMap 124 none) w_9 fun t13_10 w_11 =>
      RunS Tryz.prog (Instr.build 126 #[(0, t12_8), (1, t13_10)]) w_11 fun t14_12 w_13 =>
      New (Value.cells t14_12) 126 w_13 fun t15_14 w_15 =>
      ∃ b g m, Value.tuple #[t15_14, (Value.int IntKind.i64 0)] = .tuple #[pv b, iv 0] ∧ w.heap.size ≤ b ∧ w.heap.size ≤ g ∧ w.heap.size ≤ m ∧ DAt w_15 b g m (Dk.mk0 n.toNat) ∧ Fm (fun _ => False) w w_15 := by
    intro hn
    obtain ⟨k, rfl⟩ := Int.eq_ofNat_of_zero_le (show 0 ≤ n by omega)
    have hk : 1 ≤ k ∧ k ≤ 65536 := by omega
    have e1 : IntKind.i64.wrap ((k : Int) * 64) = ((64 * k : Nat) : Int) := by rw [wrap_id] <;> omega
    simp only [RS0, RS1, RS2, RS3, RS4, RS5, e1]
    refine RunS_ok (BRow.make B44 w (64 * k) (by omega)) (RunS_ok (makeMap_run _ _) (RunS_ok (bld120 _ _ _ _ _) (New_any ?_)))
    intro b w' hb hs hw hf
    have hs1 := alloc_size w (.cells (bc (List.replicate (64 * k) 0)).toArray 5)
    generalize hw1 : w.alloc (.cells (bc (List.replicate (64 * k) 0)).toArray 5) = w1 at hs1 hb hs hf hw
    have hg : BRow w1 w.heap.size 5 (List.replicate (64 * k) 0) := by rw [← hw1]; exact alloc_new _ _
    have hf1 : Fm (fun _ => False) w w1 := by rw [← hw1]; exact Fm.alloc _ _ _
    have hM := (MapAt.empty w1 iv stv).keep hf (fun e => e)
    have hf2 := (Fm.alloc (fun _ => False) w1 (.map #[] 0))
    rw [alloc_size] at hb
    have hfl : List.replicate (64 * k) 0 = (Dk.mk0 k).cur.flatten := by
      show _ = (List.replicate k Dk.zsec).flatten
      rw [Dk.zsec, List.flatten_replicate_replicate, Nat.mul_comm]
    have hlen : (Dk.mk0 k).cur.length = k := by simp [Dk.mk0]
    refine ⟨b, w.heap.size, w1.heap.size, rfl, by omega, by omega, by omega, ⟨Dk.wf_mk0 hk.2, ?_, ?_, [], hM, ?_⟩, ?_⟩
    · rw [Int.toNat_natCast, hlen]; exact hw
    · rw [Int.toNat_natCast, ← hfl]; exact (hg.keep hf2 (fun e => e)).keep hf (fun e => e)
    · intro a x
      constructor
      · intro h; cases h
      · rintro ⟨i, _, hc, _⟩
        have := Dk.isC_rep k i
        rw [show (Dk.mk0 (k : Int).toNat).chg = List.replicate k false from rfl] at hc
        rw [this] at hc; cases hc
    · exact (hf1.trans hf2 (fun _ _ e => e) (fun _ _ e => e)).trans hf (fun _ _ e => e) (fun _ _ e => e)
  by_cases h1 : n < 1
  · have e1 : decide (n < 1) = true := by simpa using h1
    simp only [RS0, RS1, RS2, RS3, RS4, RS5, e1]
    exact ⟨fun _ => ⟨trivial, trivial⟩, fun h => absurd (.inl h1) h⟩
  · have e1 : decide (n < 1) = false := by simpa using h1
    by_cases h2 : 65536 < n
    · have e2 : decide (65536 < n) = true := by simpa using h2
      simp only [RS0, RS1, RS2, RS3, RS4, RS5, e1, e2]
      exact ⟨fun _ => ⟨trivial, trivial⟩, fun h => absurd (.inr h2) h⟩
    · have e2 : decide (65536 < n) = false := by simpa using h2
      have hno : ¬ (n < 1 ∨ 65536 < n) := by omega
      have := ok hno
      simp only [RS0, RS1, RS2, RS3, RS4, RS5, e1, e2]
      simp only [hno, false_imp_iff, true_and, not_false_eq_true, true_imp_iff]
      simp only [RS0, RS1, RS2, RS3, RS4, RS5] at this
      exact this

theorem dsize_spec {w : World} {b g m : Nat} {d : Dk} (h : DAt w b g m d) : Cl Tryz.prog 108 [pv b] w fun v w' => v = iv d.cur.length ∧ w' = w := by
  have hn := h.wf.n1
  refine c108 ?_; unfold T108
  have e := quo_nat (TypeDesc.int IntKind.i64) (n := 64 * d.cur.length) (m := 64) (b := 64) (by omega) (by omega) rfl
  simp only [RS0, RS1, RS2, RS3, RS4, RS5, h.c0, e]
  rw [Nat.mul_div_cancel_left _ (by omega)]
  exact ⟨(by trivial), (by trivial)⟩
theorem dalive_spec {w : World} {b g m : Nat} {d : Dk} (h : DAt w b g m d) : Cl Tryz.prog 110 [pv b] w fun v w' => v = iv (bif d.gone then 5 else 0) ∧ w' = w := by
  refine c110 ?_; unfold T110
  simp only [RS0, RS1, RS2, RS3, RS4, RS5, h.c3]
  cases d.gone <;> simp only [RS0, RS1, RS2, RS3, RS4, RS5, cond_true, cond_false, and_self]
theorem dhas_spec {w : World} {b g m : Nat} {d : Dk} (h : DAt w b g m d) (a k : Int) : Cl Tryz.prog 114 [pv b, iv a, iv k] w fun v w' => v = .bool (d.has a k) ∧ w' = w := by
  have hn := h.wf.n1
  refine c114 ?_; unfold T114
  unfold Dk.has
  by_cases h1 : 0 ≤ a
  · have e1 : decide (0 ≤ a) = true := by simpa using h1
    by_cases h2 : 0 ≤ k
    · have e2 : decide (0 ≤ k) = true := by simpa using h2
      simp only [RS0, RS1, RS2, RS3, RS4, RS5, e1, e2]
      refine (dsize_spec h).mono ?_
      rintro _ w ⟨rfl, rfl⟩
      by_cases h3 : a ≤ d.cur.length
      · have e3 : decide (a ≤ (d.cur.length : Int)) = true := by simpa using h3
        simp only [RS0, RS1, RS2, RS3, RS4, RS5, e3]
        refine (dsize_spec h).mono ?_
        rintro _ w ⟨rfl, rfl⟩
        have e4 : IntKind.i64.wrap ((d.cur.length : Int) - a) = d.cur.length - a := wrap_id (by omega)
        simp only [RS0, RS1, RS2, RS3, RS4, RS5, e4]
        refine ⟨?_, (by trivial)⟩
        congr 1
        simp [h1, h2, h3]
      · have e3 : decide (a ≤ (d.cur.length : Int)) = false := by simpa using h3
        simp only [RS0, RS1, RS2, RS3, RS4, RS5, e3]
        refine ⟨?_, (by trivial)⟩
        congr 1
        symm
        rw [decide_eq_false_iff_not]; omega
    · have e2 : decide (0 ≤ k) = false := by simpa using h2
      simp only [RS0, RS1, RS2, RS3, RS4, RS5, e1, e2]
      refine ⟨?_, (by trivial)⟩
      congr 1
      symm
      rw [decide_eq_false_iff_not]; omega
  · have e1 : decide (0 ≤ a) = false := by simpa using h1
    simp only [RS0, RS1, RS2, RS3, RS4, RS5, e1]
    refine ⟨?_, (by trivial)⟩
    congr 1
    symm
    rw [decide_eq_false_iff_not]; omega
theorem dsector_spec {w : World} {b g m : Nat} {d : Dk} (h : DAt w b g m d) {i : Nat} (hi : i < d.cur.length) : Cl Tryz.prog 121 [pv b, iv i] w fun v w' => v = .slice (some ⟨g, 64 * i, none⟩) 64 (64 * d.cur.length - 64 * i) ∧ w' = w := by
  have hn := h.wf.n1
  refine c121 ?_; unfold T121
  have e1 : IntKind.i64.wrap ((i : Int) * 64) = ((64 * i : Nat) : Int) := by rw [wrap_id] <;> omega
  have e2 : IntKind.i64.wrap ((i : Int) + 1) = ((i + 1 : Nat) : Int) := by rw [wrap_id] <;> omega
  have e3 : IntKind.i64.wrap (((i + 1 : Nat) : Int) * 64) = ((64 * (i + 1) : Nat) : Int) := by rw [wrap_id] <;> omega
  obtain ⟨o', hs, ho, _⟩ := slV_lh (g := g) (o := 0) (n := 64 * d.cur.length) (c := 64 * d.cur.length) (i := 64 * i) (j := 64 * (i + 1)) (by omega) (by omega) .i64 .i64
  simp only [RS0, RS1, RS2, RS3, RS4, RS5, h.c0, e1, e2, e3, hs]
  rw [ho (by omega), show 64 * (i + 1) - 64 * i = 64 by omega, Nat.zero_add]
  exact ⟨(by trivial), (by trivial)⟩

/-- A store into the struct. -/
theorem DAt.tick {w w' : World} {b g m : Nat} {d d' : Dk} (h : DAt w b g m d) (hc : d'.cur = d.cur ∧ d'.old = d.old ∧ d'.chg = d.chg) (hwf : d'.Wf)
    (hb : w'.heap[b]? = some (.cells #[.slice (some ⟨g, 0, none⟩) (64 * d.cur.length) (64 * d.cur.length), .map (some m), iv d'.armed, .bool d'.gone, iv d'.done] 126)) (hf : Fm (· = b) w w') : DAt w' b g m d' := by
  obtain ⟨M, hM, hi⟩ := h.mp
  have h1 := h.bg; have h2 := h.bm
  obtain ⟨hc1, hc2, hc3⟩ := hc
  exact ⟨hwf, by rw [hc1]; exact hb, by rw [hc1]; exact h.by_.keep hf (fun e => h1 e.symm), M, hM.keep hf (fun e => h2 e.symm), by rw [hc2, hc3]; exact hi⟩

theorem dact_spec {w : World} {b g m : Nat} {d : Dk} (h : DAt w b g m d) : Cl Tryz.prog 111 [pv b] w fun v w' => v = .bool d.tick.gone ∧ DAt w' b g m d.tick ∧ Fm (· = b) w w' := by
  have har := h.wf.ar
  refine c111 ?_; unfold T111
  simp only [RS0, RS1, RS2, RS3, RS4, RS5, h.c4]
  refine St_blk h.st (by simp) rfl ?_
  intro w1 hw1 hs1 hf1
  replace hw1 : w1.heap[b]? = some (.cells #[.slice (some ⟨g, 0, none⟩) (64 * d.cur.length) (64 * d.cur.length), .map (some m), iv d.armed, .bool d.gone, iv (IntKind.i64.wrap (d.done + 1))] 126) := hw1
  have c2 : w1.cell? ⟨b, 2, none⟩ = some (iv d.armed) := by rw [cell_at hw1]; rfl
  refine Jn_at (fun vs w2 => vs = [] ∧ DAt w2 b g m d.tick ∧ Fm (· = b) w w2) ?_ ?_
  · rintro _ w2 ⟨rfl, hD, hf⟩ _
    refine ⟨rfl, ?_⟩
    simp only [RS0, RS1, RS2, RS3, RS4, RS5, hD.c3]
    exact ⟨trivial, hD, hf⟩
  · intro kk hkk
    simp only [RS0, RS1, RS2, RS3, RS4, RS5, c2]
    by_cases ha : 0 < d.armed
    · have e1 : decide (0 < d.armed) = true := by simpa using ha
      have e2 : IntKind.i64.wrap (d.armed - 1) = d.armed - 1 := wrap_id (by omega)
      simp only [RS0, RS1, RS2, RS3, RS4, RS5, e1, c2, e2]
      refine St_blk hw1 (by simp) rfl ?_
      intro w2 hw2 hs2 hf2
      replace hw2 : w2.heap[b]? = some (.cells #[.slice (some ⟨g, 0, none⟩) (64 * d.cur.length) (64 * d.cur.length), .map (some m), iv (d.armed - 1), .bool d.gone, iv (IntKind.i64.wrap (d.done + 1))] 126) := hw2
      have c2' : w2.cell? ⟨b, 2, none⟩ = some (iv (d.armed - 1)) := by rw [cell_at hw2]; rfl
      simp only [RS0, RS1, RS2, RS3, RS4, RS5, c2']
      refine St_blk hw2 (by simp) rfl ?_
      intro w3 hw3 hs3 hf3
      have hF : Fm (· = b) w w3 := (hf1.trans hf2 (fun _ _ e => e) (fun _ _ e => e)).trans hf3 (fun _ _ e => e) (fun _ _ e => e)
      refine hkk _ _ ⟨rfl, h.tick (Dk.tick_cur d) h.wf.tick ?_ hF, hF⟩
      unfold Dk.tick
      rw [if_pos ha]
      rw [beq_dec] at hw3
      exact hw3
    · have e1 : decide (0 < d.armed) = false := by simpa using ha
      simp only [RS0, RS1, RS2, RS3, RS4, RS5, e1]
      refine hkk _ _ ⟨rfl, h.tick (Dk.tick_cur d) h.wf.tick ?_ hf1, hf1⟩
      unfold Dk.tick
      rw [if_neg ha]
      exact hw1

theorem dread_spec {w : World} {b g m : Nat} {d : Dk} (h : DAt w b g m d) (a k : Int) : Cl Tryz.prog 40 [pv b, iv a, iv k] w fun v w' => v = .tuple #[stv (d.read a k).1, iv (d.read a k).2] ∧ w' = w := by
  have hn := h.wf.n1
  refine c40 ?_; unfold T40
  refine (dalive_spec h).mono ?_
  rintro _ w ⟨rfl, rfl⟩
  unfold Dk.read
  cases hg : d.gone with
  | true =>
    simp only [RS0, RS1, RS2, RS3, RS4, RS5, cond_true, bne_dec]
    exact ⟨(by trivial), (by trivial)⟩
  | false =>
    simp only [RS0, RS1, RS2, RS3, RS4, RS5, cond_false, bne_self_eq_false]
    refine (dhas_spec h a k).mono ?_
    rintro _ w ⟨rfl, rfl⟩
    cases hh : d.has a k with
    | false =>
      simp only [RS0, RS1, RS2, RS3, RS4, RS5, cond_true]
      exact ⟨(by trivial), (by trivial)⟩
    | true =>
      unfold Dk.has at hh
      simp only [decide_eq_true_eq] at hh
      obtain ⟨i, rfl⟩ := Int.eq_ofNat_of_zero_le hh.1
      obtain ⟨j, rfl⟩ := Int.eq_ofNat_of_zero_le hh.2.1
      have hij : i + j ≤ d.cur.length := by omega
      have e1 : IntKind.i64.wrap ((i : Int) * 64) = ((64 * i : Nat) : Int) := by rw [wrap_id] <;> omega
      have e2 : IntKind.i64.wrap ((i : Int) + j) = ((i + j : Nat) : Int) := by rw [wrap_id] <;> omega
      have e3 : IntKind.i64.wrap (((i + j : Nat) : Int) * 64) = ((64 * (i + j) : Nat) : Int) := by rw [wrap_id] <;> omega
      obtain ⟨o', hs, ho, hle, _⟩ := slV_lh (g := g) (o := 0) (n := 64 * d.cur.length) (c := 64 * d.cur.length) (i := 64 * i) (j := 64 * (i + j)) (by omega) (by omega) .i64 .i64
      simp only [RS0, RS1, RS2, RS3, RS4, RS5, h.c0, e1, e2, e3, hs, cond_false]
      have hfl := Dk.flat_len h.wf.s1
      have ee : 64 * (i + j) - 64 * i = 64 * j := by omega
      rw [ee]
      refine RunS_ok (h.by_.conv B44 (o := o') (n := 64 * j) (by rw [hfl]; omega) _) ⟨?_, (by trivial)⟩
      congr 3
      have hd : (d.cur.flatten.drop o').take (64 * j) = ((d.cur.drop i).take j).flatten := by
        by_cases hi : 64 * i < 64 * d.cur.length
        · rw [ho hi, Nat.zero_add, Dk.flat_drop h.wf.s1, Dk.flat_take (fun x hx => h.wf.s1 x (List.mem_of_mem_drop hx))]
        · have hj0 : j = 0 := by omega
          subst hj0; simp
      rw [hd]; rfl
end Go.Proofs.YthbngnlmgplijaaGreatDoor

namespace Go.Proofs.YthbngnlmgplijaaGreatDoor
open Go.Al Go.Proofs
open Go.ChangeMaps (setBlock)
set_option linter.unusedVariables false
set_option linter.unusedSimpArgs false
set_option linter.unusedSectionVars false

theorem clear_map {P : Program} {t kt et : TypeId} (ht : P.underlying t = some (.map kt et)) {α β : Type} [DecidableEq α] {kv : α → Value} {vv : β → Value} {w : World} {m : Nat} {M : List (α × β)} (h : MapAt w m kv vv M) (ty : TypeId) :
    ∃ w', (Builtin.clear_ #[t] ty #[.map (some m)]).run P w = .ok (.tuple #[]) w' ∧ MapAt w' m kv vv ([] : List (α × β)) ∧ Fm (· = m) w w' ∧ w'.heap.size = w.heap.size := by
  obtain ⟨es, c, hb, he, hn, hlt⟩ := h.ex
  refine ⟨setBlock w m (.map #[] c), ?_, ⟨⟨#[], c, setBlock_at hb, rfl, by simp, by simp⟩, by simp⟩, Fm.setBlock _ _ _ rfl, setBlock_size _ _ _⟩
  unfold Builtin.clear_
  simp only [List.getElem?_toArray, List.getElem?_cons_zero, Sem.run_bind, run_underlying ht, Result.andThen_ok, Go.Al.run_getObj_map hb, Go.Al.run_setObj_map hb, Sem.run_pure]

theorem dsync_spec {w : World} {b g m : Nat} {d : Dk} (h : DAt w b g m d) : Cl Tryz.prog 38 [pv b] w fun v w' => v = iv d.sync.2 ∧ DAt w' b g m d.sync.1 ∧ Fm (fun x => x = b ∨ x = g ∨ x = m) w w' := by
  have hwf := h.wf.sync
  refine c38 ?_; unfold T38
  refine (dalive_spec h).mono ?_
  rintro _ w ⟨rfl, rfl⟩
  unfold Dk.sync at hwf ⊢
  cases hg : d.gone with
  | true =>
    simp only [RS0, RS1, RS2, RS3, RS4, RS5, cond_true, bne_dec]
    exact ⟨(by trivial), h, Fm.refl _ _⟩
  | false =>
    rw [hg] at hwf
    simp only [RS0, RS1, RS2, RS3, RS4, RS5, cond_false, bne_self_eq_false]
    refine (dact_spec h).mono ?_
    rintro _ w1 ⟨rfl, h1, hf1⟩
    simp only [cond_false] at hwf
    cases hg1 : d.tick.gone with
    | true =>
      simp only [RS0, RS1, RS2, RS3, RS4, RS5, cond_true]
      exact ⟨(by trivial), h1, hf1.mono fun _ _ e => .inl e⟩
    | false =>
      rw [hg1] at hwf
      simp only [RS0, RS1, RS2, RS3, RS4, RS5, cond_false, h1.c1]
      obtain ⟨M, hM, _⟩ := h1.mp
      obtain ⟨w2, hr, hM2, hf2, _⟩ := clear_map Tryz.underlying124 hM 0
      refine RunS_ok hr ?_
      refine ⟨(by trivial), ⟨hwf, ?_, ?_, [], hM2, ?_⟩, hf1.trans hf2 (fun _ _ e => .inl e) (fun _ _ e => .inr (.inr e))⟩
      · have := hf2.heap h1.st h1.bm; rw [hg1] at this; exact this
      · exact h1.by_.keep hf2 h1.gm
      · intro k x
        constructor
        · intro e; cases e
        · rintro ⟨i, _, hc, _⟩
          simp only [Dk.isC_rep] at hc; cases hc
/-- The map behind a sector's first write. -/
theorem DAt.noted {w : World} {b g m : Nat} {d : Dk} (h : DAt w b g m d) {i : Nat} (hi : i < d.cur.length) {M' : List (Int × Bs)} {w' : World}
    (hM : ∃ M : List (Int × Bs), MapAt w m iv stv M ∧ (∀ k x, (k, x) ∈ M ↔ ∃ i : Nat, k = (i : Int) ∧ Dk.isC d.chg i = true ∧ d.old[i]? = some x) ∧
      (Dk.isC d.chg i = false → M' = setD M (i : Int) (d.cur.getD i [])) ∧ (Dk.isC d.chg i = true → M' = M)) (hM' : MapAt w' m iv stv M') :
    ∀ k x, (k, x) ∈ M' ↔ ∃ j : Nat, k = (j : Int) ∧ Dk.isC (d.chg.set i true) j = true ∧ d.old[j]? = some x := by
  obtain ⟨M, hMw, hmem, hno, hyes⟩ := hM
  have hil : i < d.chg.length := by rw [h.wf.lc]; exact hi
  intro k x
  cases hc : Dk.isC d.chg i with
  | true =>
    rw [hyes hc, hmem]
    constructor
    · rintro ⟨j, rfl, hj, hx⟩
      exact ⟨j, rfl, by rw [Dk.isC_set _ _ _ hil]; split <;> first | rfl | exact hj, hx⟩
    · rintro ⟨j, rfl, hj, hx⟩
      refine ⟨j, rfl, ?_, hx⟩
      rw [Dk.isC_set _ _ _ hil] at hj
      split at hj
      · rename_i e; subst e; exact hc
      · exact hj
  | false =>
    have hs := hno hc
    subst hs
    have hold : d.old[i]? = some (d.cur.getD i []) := by
      rw [h.wf.same i hc, List.getD_eq_getElem?_getD, List.getElem?_eq_getElem hi]; rfl
    rw [← getD_some hM'.keys, getD_setD]
    split
    · rename_i e
      subst e
      constructor
      · intro e; cases e
        exact ⟨i, rfl, by rw [Dk.isC_set _ _ _ hil, if_pos rfl], hold⟩
      · rintro ⟨j, hj, _, hx⟩
        have : i = j := by omega
        subst this
        rw [hold] at hx; exact hx
    · rename_i hne
      rw [getD_some hMw.keys, hmem]
      constructor
      · rintro ⟨j, rfl, hj, hx⟩
        exact ⟨j, rfl, by rw [Dk.isC_set _ _ _ hil]; split <;> first | rfl | exact hj, hx⟩
      · rintro ⟨j, rfl, hj, hx⟩
        refine ⟨j, rfl, ?_, hx⟩
        rw [Dk.isC_set _ _ _ hil, if_neg (fun e => hne (by rw [e]))] at hj
        exact hj

theorem dwrite_spec {w : World} {b g m : Nat} {d : Dk} (h : DAt w b g m d) (a : Int) (s : Bs) (hs : s.length ≤ 9223372036854775807) : Cl Tryz.prog 94 [pv b, iv a, stv s] w fun v w' => v = iv (d.write a s).2 ∧ DAt w' b g m (d.write a s).1 ∧ Fm (fun x => x = b ∨ x = g ∨ x = m) w w' := by
  have hn := h.wf.n1
  refine c94 ?_; unfold T94
  refine (dalive_spec h).mono ?_
  rintro _ w ⟨rfl, rfl⟩
  unfold Dk.write
  cases hg : d.gone with
  | true =>
    simp only [RS0, RS1, RS2, RS3, RS4, RS5, cond_true, bne_dec]
    exact ⟨(by trivial), h, Fm.refl _ _⟩
  | false =>
    have er := rem_nat (TypeDesc.int IntKind.i64) (n := s.length) (m := 64) (b := 64) (by omega) hs rfl
    have eq := quo_nat (TypeDesc.int IntKind.i64) (n := s.length) (m := 64) (b := 64) (by omega) hs rfl
    simp only [RS0, RS1, RS2, RS3, RS4, RS5, str_size, str_nil, str_inj, cond_false, bne_self_eq_false, er]
    by_cases hr : s.length % 64 = 0
    · have e1 : (((s.length % 64 : Nat) : Int) != 0) = false := by rw [hr]; rfl
      have e1' : decide (s.length % 64 ≠ 0) = false := by simp [hr]
      simp only [RS0, RS1, RS2, RS3, RS4, RS5, str_size, str_nil, str_inj, e1, e1', eq, Bool.false_or]
      refine (dhas_spec h a _).mono ?_
      rintro _ w ⟨rfl, rfl⟩
      cases hh : d.has a (s.length / 64 : Nat) with
      | false =>
        simp only [RS0, RS1, RS2, RS3, RS4, RS5, cond_true]
        exact ⟨(by trivial), h, Fm.refl _ _⟩
      | true =>
        simp only [RS0, RS1, RS2, RS3, RS4, RS5, cond_false]
        unfold Dk.has at hh
        simp only [decide_eq_true_eq] at hh
        obtain ⟨p, rfl⟩ := Int.eq_ofNat_of_zero_le hh.1
        rw [Int.toNat_natCast]
        have hlen : s.length = 64 * (s.length / 64) := by omega
        generalize hK : s.length / 64 = K at hh hlen ⊢
        refine ⟨fun vs w2 => ∃ (i r : Nat) (t : Bs) (e : Dk), vs = [iv (i : Nat), stv t] ∧ t.length = 64 * r ∧ i + r ≤ d.cur.length ∧ e.cur.length = d.cur.length ∧ d.wr p (Dk.chunks K s) = e.wr i (Dk.chunks r t) ∧ DAt w2 b g m e ∧ Fm (fun x => x = b ∨ x = g ∨ x = m) w w2,
          fun vs _ => sz1 vs, ⟨p, K, s, d, rfl, hlen, by omega, rfl, rfl, h, Fm.refl _ _⟩, ?_⟩
        rintro _ w2 iat idata ⟨i, r, t, e, hvs, htl, hir, hel, heq, hE, hf⟩
        cases hvs
        cases r with
        | zero =>
          have : t = [] := List.eq_nil_of_length_eq_zero (by omega)
          subst this
          simp only [RS0, RS1, RS2, RS3, RS4, RS5, str_size, str_nil, str_inj, decide_true]
          rw [heq]
          exact ⟨(by trivial), hE, hf⟩
        | succ r =>
          have hne : t ≠ [] := by rintro rfl; simp at htl
          have hie : i < e.cur.length := by omega
          have e2 : decide (t = []) = false := by simpa using hne
          simp only [RS0, RS1, RS2, RS3, RS4, RS5, str_size, str_nil, str_inj, e2]
          have heq2 : d.wr p (Dk.chunks K s) = (let d' := (e.put i (t.take 64)).tick; bif d'.gone then (d', 5) else d'.wr (i + 1) (Dk.chunks r (t.drop 64))) := heq
          refine Jn_at (fun vs w3 => vs = [] ∧ (∃ M', MapAt w3 m iv stv M' ∧ ∀ k x, (k, x) ∈ M' ↔ ∃ j : Nat, k = (j : Int) ∧ Dk.isC (e.chg.set i true) j = true ∧ e.old[j]? = some x) ∧ Fm (· = m) w2 w3) ?_ ?_
          · rintro _ w3 ⟨rfl, ⟨M', hM', hmem'⟩, hf3⟩ _
            refine ⟨rfl, ?_⟩
            have et : slS (stv t) none (some (.int .i64 64)) = some (stv (t.take 64)) := slS_hi (l := t) (i := 64) (by omega) .i64
            have et2 : slS (stv t) (some (.int .i64 64)) none = some (stv (t.drop 64)) := slS_lo (l := t) (i := 64) (by omega) .i64
            simp only [RS0, RS1, RS2, RS3, RS4, RS5, et, et2]
            have hst3 := hf3.heap hE.st hE.bm
            have hby3 := hE.by_.keep hf3 hE.gm
            have hne3 : DAt w3.drew b g m { e with chg := List.replicate e.cur.length false, old := e.cur } ∨ True := .inr trivial
            -- the sector's slice
            refine Cl.mono (k := fun v w' => v = .slice (some ⟨g, 64 * i, none⟩) 64 (64 * e.cur.length - 64 * i) ∧ w' = w3.drew) ?_ ?_
            · refine c121 ?_; unfold T121
              have g1 : IntKind.i64.wrap ((i : Int) * 64) = ((64 * i : Nat) : Int) := by rw [wrap_id] <;> omega
              have g2 : IntKind.i64.wrap ((i : Int) + 1) = ((i + 1 : Nat) : Int) := by rw [wrap_id] <;> omega
              have g3 : IntKind.i64.wrap (((i + 1 : Nat) : Int) * 64) = ((64 * (i + 1) : Nat) : Int) := by rw [wrap_id] <;> omega
              obtain ⟨o', hs, ho, _⟩ := slV_lh (g := g) (o := 0) (n := 64 * e.cur.length) (c := 64 * e.cur.length) (i := 64 * i) (j := 64 * (i + 1)) (by omega) (by omega) .i64 .i64
              have c0 : w3.cell? ⟨b, 0, none⟩ = some (.slice (some ⟨g, 0, none⟩) (64 * e.cur.length) (64 * e.cur.length)) := by rw [cell_at hst3]; rfl
              simp only [RS0, RS1, RS2, RS3, RS4, RS5, c0, g1, g2, g3, hs]
              rw [ho (by omega), show 64 * (i + 1) - 64 * i = 64 by omega, Nat.zero_add]
              exact ⟨(by trivial), (by trivial)⟩
            · rintro _ _ ⟨rfl, rfl⟩
              have hfl := Dk.flat_len hE.wf.s1
              have ht64 : (t.take 64).length = 64 := by rw [List.length_take]; omega
              have hfd := Fm.drew (fun _ => False) w3
              obtain ⟨w4, hr4, hby4, hs4, hf4⟩ := (hby3.keep hfd (fun e => e)).copyS B44 (o := 64 * i) (n := 64) (x := t.take 64) (by omega) (by rw [hfl]; omega) (64 * e.cur.length - 64 * i) 3
              refine RunS_ok hr4 ?_
              have hput : DAt w4 b g m (e.put i (t.take 64)) := by
                refine ⟨hE.wf.put i ht64, ?_, ?_, M', ?_, hmem'⟩
                · have := hf4.heap (hfd.heap hst3 (fun e => e)) hE.bg
                  simpa [Dk.put] using this
                · have := hby4
                  rw [ht64] at this
                  have l1 := Dk.flat_lay hE.wf.s1 hie (j := 0) (y := t.take 64) (by omega) (by omega)
                  simp only [Nat.add_zero, List.take_zero, List.nil_append] at l1
                  rw [l1] at this
                  exact this
                · exact (hM'.keep hfd (fun e => e)).keep hf4 (fun x => hE.gm x.symm)
              refine (dact_spec hput).mono ?_
              rintro _ w5 ⟨rfl, h5, hf5⟩
              have hF : Fm (fun x => x = b ∨ x = g ∨ x = m) w w5 :=
                (((hf.trans hf3 (U := fun x => x = b ∨ x = g ∨ x = m) (fun _ _ e => e) (fun _ _ e => .inr (.inr e))).trans hfd (U := fun x => x = b ∨ x = g ∨ x = m) (fun _ _ e => e) (fun _ _ e => e.elim)).trans hf4 (U := fun x => x = b ∨ x = g ∨ x = m) (fun _ _ e => e) (fun _ _ e => .inr (.inl e))).trans hf5 (fun _ _ e => e) (fun _ _ e => .inl e)
              rw [heq2]
              cases hg5 : (e.put i (t.take 64)).tick.gone with
              | true =>
                simp only [RS0, RS1, RS2, RS3, RS4, RS5, hg5, cond_true]
                exact ⟨(by trivial), h5, hF⟩
              | false =>
                have g4 : IntKind.i64.wrap ((i : Int) + 1) = ((i + 1 : Nat) : Int) := by rw [wrap_id] <;> omega
                simp only [RS0, RS1, RS2, RS3, RS4, RS5, cond_false, g4]
                have hl5 : (e.put i (t.take 64)).tick.cur.length = e.cur.length := by rw [(Dk.tick_cur _).1]; simp [Dk.put]
                refine ⟨⟨i + 1, r, t.drop 64, _, rfl, by rw [List.length_drop]; omega, by omega, by rw [hl5, hel], ?_, h5, hF⟩, ?_⟩
                · simp only [hg5, cond_false]
                · rw [sz1_eq, sz1_eq, List.length_drop]; omega
          · intro kk hkk
            obtain ⟨M, hM, hmem⟩ := hE.mp
            simp only [RS0, RS1, RS2, RS3, RS4, RS5, hE.c1]
            refine RunS_ok (lookup_run K118 hM (i : Int) true (z9 _)) ?_
            cases hc : Dk.isC e.chg i with
            | true =>
              have hlt : i < e.old.length := by rw [hE.wf.lo]; omega
              have hget : getD M (i : Int) = some e.old[i] := (getD_some hM.keys).2 ((hmem _ _).2 ⟨i, rfl, hc, List.getElem?_eq_getElem hlt⟩)
              simp only [hget, okV, cond_true]
              simp only [RS0, RS1, RS2, RS3, RS4, RS5]
              exact hkk _ _ ⟨rfl, ⟨M, hM, hE.noted hie ⟨M, hM, hmem, fun e => (by rw [hc] at e; cases e), fun _ => rfl⟩ hM⟩, Fm.refl _ _⟩
            | false =>
              have hget : getD M (i : Int) = none := by
                cases hq : getD M (i : Int) with
                | none => rfl
                | some x =>
                  obtain ⟨j, hj, hcj, _⟩ := (hmem _ _).1 ((getD_some hM.keys).1 hq)
                  have : i = j := by omega
                  subst this; rw [hc] at hcj; cases hcj
              simp only [hget, okV, cond_true]
              simp only [RS0, RS1, RS2, RS3, RS4, RS5]
              refine ⟨fun w' => w'.cell? ⟨b, 1, none⟩ = some (.map (some m)), hE.c1, ?_⟩
              refine ⟨.map (some m), fun w' hw' => by simp only [RS0, RS1, RS2, RS3, RS4, RS5, hw']; exact ⟨(by trivial), (by trivial)⟩, ?_⟩
              have hEd := hE.drew
              refine (dsector_spec hEd hie).mono ?_
              rintro _ _ ⟨rfl, rfl⟩
              refine ⟨hE.c1, ?_⟩
              have hfl := Dk.flat_len hE.wf.s1
              refine RunS_ok (hEd.by_.conv B44 (o := 64 * i) (n := 64) (by rw [hfl]; omega) _) ⟨rfl, ?_⟩
              rw [Dk.flat_sec hE.wf.s1 hie]
              obtain ⟨w4, hr4, hM4, hf4, _⟩ := update_run K118 (hM.keep (Fm.drew (fun _ => False) w2) (fun e => e)) (i : Int) (e.cur.getD i [])
              refine RunU_ok hr4 ?_
              have hf24 : Fm (· = m) w2 w4 := (Fm.drew (fun _ => False) w2).trans hf4 (fun _ _ e => e.elim) (fun _ _ e => e)
              exact hkk _ _ ⟨rfl, ⟨_, hM4, hE.noted hie ⟨M, hM, hmem, fun _ => rfl, fun e => (by rw [hc] at e; cases e)⟩ hM4⟩, hf24⟩
    · have e1 : (((s.length % 64 : Nat) : Int) != 0) = true := by
        rw [bne_dec]; simp; omega
      have e1' : decide (s.length % 64 ≠ 0) = true := by simp [hr]
      simp only [RS0, RS1, RS2, RS3, RS4, RS5, str_size, str_nil, str_inj, e1, e1', Bool.true_or, cond_true]
      exact ⟨(by trivial), h, Fm.refl _ _⟩
end Go.Proofs.YthbngnlmgplijaaGreatDoor

namespace Go.Proofs.YthbngnlmgplijaaGreatDoor
open Go.Al Go.Proofs
set_option maxRecDepth 100000
set_option linter.unusedVariables false
set_option linter.unusedSimpArgs false
/-- Function 18: almonry/wal.Format. -/
def T18 (k : KV) (d0 : Value) (fromv1 : Value) (n2 : Value) (w : World) : Prop :=
  Cl Tryz.prog 93 [d0, fromv1, n2] w fun t13_1 w_2 =>
  Pu (unV .not t13_1) fun t14_3 =>
  IfB t14_3
    (k (.tuple #[(Value.pointer none), (Value.int IntKind.i64 1)]) w_2)
    (Pu (binV (TypeDesc.int IntKind.i64) .mul n2 (Value.int IntKind.i64 64)) fun t18_4 =>
  Cl Tryz.prog 95 [(Value.string (ByteArray.mk #[0])), t18_4] w_2 fun t19_5 w_6 =>
  Cl Tryz.prog 94 [d0, fromv1, t19_5] w_6 fun t20_7 w_8 =>
  Pu (binV (TypeDesc.int IntKind.i64) .neq t20_7 (Value.int IntKind.i64 0)) fun t22_9 =>
  IfB t22_9
    (k (.tuple #[(Value.pointer none), t20_7]) w_8)
    (Cl Tryz.prog 38 [d0] w_8 fun t25_10 w_11 =>
  Pu (binV (TypeDesc.int IntKind.i64) .neq t25_10 (Value.int IntKind.i64 0)) fun t27_12 =>
  IfB t27_12
    (k (.tuple #[(Value.pointer none), t25_10]) w_11)
    (RunS Tryz.prog (Instr.makeMap 130 none) w_11 fun t32_13 w_14 =>
  RunS Tryz.prog (Instr.build 132 #[(0, d0), (1, fromv1), (2, n2), (3, (Value.int IntKind.i64 1)), (5, (Value.int IntKind.i64 1)), (6, (Value.int IntKind.i64 1)), (8, t32_13)]) w_14 fun t33_15 w_16 =>
  New (Value.cells t33_15) 132 w_16 fun t34_17 w_18 =>
  k (.tuple #[t34_17, (Value.int IntKind.i64 0)]) w_18)))
theorem e18 (k : KV) (d0 : Value) (fromv1 : Value) (n2 : Value) (w : World) : K KD Tryz.prog 35 (fun j =>  []) (fun j =>  none) (Tryz.f18.body.getD .skip) (retQ Tryz.prog Tryz.f18 k) (argF [d0, fromv1, n2]) w = T18 k d0 fromv1 n2 w := by kernel_rfl
theorem c18 {k : KV} {d0 : Value} {fromv1 : Value} {n2 : Value} {w : World} (h : T18 k d0 fromv1 n2 w) : Cl Tryz.prog 18 [d0, fromv1, n2] w k :=
  Cl_of_K KD_sound mixed Tryz.func18 (by kernel_rfl) (by kernel_rfl) ((e18 k d0 fromv1 n2 w).symm ▸ h)

/-- Function 19: (*almonry/wal.Log).Room. -/
def T19 (k : KV) (l0 : Value) (w : World) : Prop :=
  Pu (binV (TypeDesc.pointer 132) .eql l0 (Value.pointer none)) fun t4_1 =>
  IfB t4_1
    (k (Value.int IntKind.i64 0) w)
    (∃ C_2 : World → Prop, C_2 (World.drew w) ∧
  (Pu (nilV l0) fun t6_3 =>
  Pu (faV 2 t6_3) fun t7_4 =>
  ∃ t8_5, (∀ w_6, C_2 w_6 → Ld w_6 t7_4 fun t8_7 w_8 =>
  t8_7 = t8_5 ∧ w_8 = w_6) ∧
  (Pu (binV (TypeDesc.int IntKind.i64) .sub t8_5 (Value.int IntKind.i64 2)) fun t9_9 =>
  Pu (binV (TypeDesc.int IntKind.i64) .mul (Value.int IntKind.i64 54) t9_9) fun t10_10 =>
  Pu (nilV l0) fun t14_11 =>
  Pu (faV 5 t14_11) fun t15_12 =>
  ∃ t16_13, (∀ w_14, C_2 w_14 → Ld w_14 t15_12 fun t16_15 w_16 =>
  t16_15 = t16_13 ∧ w_16 = w_14) ∧
  (Pu (nilV l0) fun t20_17 =>
  Pu (faV 7 t20_17) fun t21_18 =>
  ∃ t22_19, (∀ w_20, C_2 w_20 → Ld w_20 t21_18 fun t22_21 w_22 =>
  t22_21 = t22_19 ∧ w_22 = w_20) ∧
  (Cl Tryz.prog 20 [l0] (World.drew w) fun t12_23 w_24 =>
  C_2 w_24 ∧
  (Pu (binV (TypeDesc.int IntKind.i64) .sub t12_23 t16_13) fun t17_25 =>
  Pu (binV (TypeDesc.int IntKind.i64) .sub t10_10 t17_25) fun t18_26 =>
  Pu (binV (TypeDesc.int IntKind.i64) .sub t18_26 t22_19) fun t23_27 =>
  k t23_27 w_24))))))
theorem e19 (k : KV) (l0 : Value) (w : World) : K KD Tryz.prog 24 (fun j =>  []) (fun j =>  none) (Tryz.f19.body.getD .skip) (retQ Tryz.prog Tryz.f19 k) (argF [l0]) w = T19 k l0 w := by kernel_rfl
theorem c19 {k : KV} {l0 : Value} {w : World} (h : T19 k l0 w) : Cl Tryz.prog 19 [l0] w k :=
  Cl_of_K KD_sound mixed Tryz.func19 (by kernel_rfl) (by kernel_rfl) ((e19 k l0 w).symm ▸ h)

/-- Function 20: (*almonry/wal.Log).Tail. -/
def T20 (k : KV) (l0 : Value) (w : World) : Prop :=
  Pu (binV (TypeDesc.pointer 132) .eql l0 (Value.pointer none)) fun t4_1 =>
  IfB t4_1
    (k (Value.int IntKind.i64 0) w)
    (Pu (nilV l0) fun t6_2 =>
  Pu (faV 3 t6_2) fun t7_3 =>
  Ld (World.drew w) t7_3 fun t8_4 w_5 =>
  w_5 = (World.drew w) ∧
  Pu (nilV l0) fun t10_6 =>
  Pu (faV 4 t10_6) fun t11_7 =>
  Ld (World.drew w) t11_7 fun t12_8 w_9 =>
  w_9 = (World.drew w) ∧
  Pu (lenV t12_8) fun t13_10 =>
  Pu (binV (TypeDesc.int IntKind.i64) .add t8_4 t13_10) fun t14_11 =>
  k t14_11 (World.drew w))
theorem e20 (k : KV) (l0 : Value) (w : World) : K KD Tryz.prog 15 (fun j =>  []) (fun j =>  none) (Tryz.f20.body.getD .skip) (retQ Tryz.prog Tryz.f20 k) (argF [l0]) w = T20 k l0 w := by kernel_rfl
theorem c20 {k : KV} {l0 : Value} {w : World} (h : T20 k l0 w) : Cl Tryz.prog 20 [l0] w k :=
  Cl_of_K KD_sound mixed Tryz.func20 (by kernel_rfl) (by kernel_rfl) ((e20 k l0 w).symm ▸ h)

/-- Function 21: (*almonry/wal.Log).Append. -/
def T21 (k : KV) (l0 : Value) (r1 : Value) (w : World) : Prop :=
  New (Value.cells r1) 28 w fun r3_1 w_2 =>
  Pu (binV (TypeDesc.pointer 132) .eql l0 (Value.pointer none)) fun t9_3 =>
  IfB t9_3
    (k (.tuple #[(Value.int IntKind.i64 0), (Value.int IntKind.i64 2)]) w_2)
    (Cl Tryz.prog 20 [l0] w_2 fun t11_4 w_5 =>
  Pu (faV 0 r3_1) fun t12_6 =>
  St 1 w_5 t12_6 t11_4 fun u_7 w_8 =>
  LdN 16 w_8 r3_1 fun t14_9 w_10 =>
  Cl Tryz.prog 89 [t14_9] w_10 fun t15_11 w_12 =>
  Pu (extV t15_11 0) fun t16_13 =>
  Pu (extV t15_11 1) fun t17_14 =>
  Pu (binV (TypeDesc.int IntKind.i64) .neq t17_14 (Value.int IntKind.i64 0)) fun t19_15 =>
  IfB t19_15
    (k (.tuple #[(Value.int IntKind.i64 0), t17_14]) w_12)
    (Pu (lenS t16_13) fun t22_16 =>
  Cl Tryz.prog 19 [l0] w_12 fun t24_17 w_18 =>
  Pu (binV (TypeDesc.int IntKind.i64) .gtr t22_16 t24_17) fun t25_19 =>
  IfB t25_19
    (k (.tuple #[(Value.int IntKind.i64 0), (Value.int IntKind.i64 50)]) w_18)
    (Pu (nilV l0) fun t28_20 =>
  Pu (faV 4 t28_20) fun t29_21 =>
  Ld w_18 t29_21 fun t30_22 w_23 =>
  RunS Tryz.prog (Builtin.append_ #[123, 9] 123 #[t30_22, t16_13]) w_23 fun t32_24 w_25 =>
  Pu (nilV l0) fun t33_26 =>
  Pu (faV 4 t33_26) fun t34_27 =>
  St 1 w_25 t34_27 t32_24 fun u_28 w_29 =>
  ∃ C_30 : World → Prop, C_30 (World.drew w_29) ∧
  (Pu (nilV l0) fun t36_31 =>
  Pu (faV 8 t36_31) fun t37_32 =>
  ∃ t38_33, (∀ w_34, C_30 w_34 → Ld w_34 t37_32 fun t38_35 w_36 =>
  t38_35 = t38_33 ∧ w_36 = w_34) ∧
  (Pu (faV 0 r3_1) fun t39_37 =>
  ∃ t40_38, (∀ w_39, C_30 w_39 → Ld w_39 t39_37 fun t40_40 w_41 =>
  t40_40 = t40_38 ∧ w_41 = w_39) ∧
  (LdN 16 (World.drew w_29) r3_1 fun t41_42 w_43 =>
  w_43 = (World.drew w_29) ∧
  Cl Tryz.prog 96 [t41_42] (World.drew w_29) fun t42_44 w_45 =>
  C_30 w_45 ∧
  (RunU Tryz.prog (Instr.mapUpdate 130 t38_33 t40_38 t42_44) w_45 fun u_46 w_47 =>
  Pu (faV 0 r3_1) fun t43_48 =>
  Ld w_47 t43_48 fun t44_49 w_50 =>
  k (.tuple #[t44_49, (Value.int IntKind.i64 0)]) w_50)))))))
theorem e21 (k : KV) (l0 : Value) (r1 : Value) (w : World) : K KD Tryz.prog 45 (fun j =>  []) (fun j =>  none) (Tryz.f21.body.getD .skip) (retQ Tryz.prog Tryz.f21 k) (argF [l0, r1]) w = T21 k l0 r1 w := by kernel_rfl
theorem c21 {k : KV} {l0 : Value} {r1 : Value} {w : World} (h : T21 k l0 r1 w) : Cl Tryz.prog 21 [l0, r1] w k :=
  Cl_of_K KD_sound mixed Tryz.func21 (by kernel_rfl) (by kernel_rfl) ((e21 k l0 r1 w).symm ▸ h)

/-- Function 26: (*almonry/wal.Log).Flush. -/
def T26 (k : KV) (l0 : Value) (to1 : Value) (w : World) : Prop :=
  Pu (binV (TypeDesc.pointer 132) .eql l0 (Value.pointer none)) fun t10_1 =>
  IfB t10_1
    (k (Value.int IntKind.i64 2) w)
    (Cl Tryz.prog 20 [l0] w fun t12_2 w_3 =>
  Pu (nilV l0) fun t15_4 =>
  Pu (faV 6 t15_4) fun t16_5 =>
  Ld w_3 t16_5 fun t17_6 w_7 =>
  Pu (binV (TypeDesc.int IntKind.i64) .lss to1 t17_6) fun t18_8 =>
  Gd (isB false t18_8) (fun kk => kk l0 w_7) w_7 fun t20_9 w_10 =>
  Gd (isB false t18_8) (fun kk => Pu (nilV t20_9) fun vv => kk vv w_10) w_10 fun t21_11 w_12 =>
  Gd (isB false t18_8) (fun kk => Pu (faV 6 t21_11) fun vv => kk vv w_12) w_12 fun t22_13 w_14 =>
  Gd (isB false t18_8) (fun kk => Ld w_14 t22_13 kk) w_14 fun t23_15 w_16 =>
  Gd (isB false t18_8) (fun kk => kk t12_2 w_16) w_16 fun t24_17 w_18 =>
  Gd (isB false t18_8) (fun kk => Pu (binV (TypeDesc.int IntKind.i64) .eql t23_15 t24_17) fun vv => kk vv w_18) w_18 fun t25_19 w_20 =>
  Pu (pickV t18_8 (Value.bool true) t25_19) fun t26_21 =>
  IfB t26_21
    (k (Value.int IntKind.i64 0) w_20)
    (Pu (nilV l0) fun t28_22 =>
  Pu (faV 6 t28_22) fun t29_23 =>
  Ld w_20 t29_23 fun t30_24 w_25 =>
  Cl Tryz.prog 97 [t30_24] w_25 fun t31_26 w_27 =>
  ∃ (I_28 : List Value → World → Prop) (m_29 : List Value → World → Nat), I_28 [t31_26] w_27 ∧
  ∀ (g_57 : Fr) (w_56 : World), ∀ kv6_32 : Value, I_28 [kv6_32] w_56 →
    (Cl Tryz.prog 98 [kv6_32] w_56 fun t33_58 w_59 =>
    Pu (binV (TypeDesc.int IntKind.i64) .lss t33_58 t12_2) fun t35_60 =>
    IfB t35_60
      (∃ C_61 : World → Prop, C_61 (World.drew w_59) ∧
    (Pu (nilV l0) fun t39_62 =>
    Pu (faV 0 t39_62) fun t40_63 =>
    ∃ t41_64, (∀ w_65, C_61 w_65 → Ld w_65 t40_63 fun t41_66 w_67 =>
    t41_66 = t41_64 ∧ w_67 = w_65) ∧
    (Cl Tryz.prog 99 [l0, kv6_32] (World.drew w_59) fun t44_68 w_69 =>
    C_61 w_69 ∧
    (Cl Tryz.prog 101 [l0, kv6_32] w_69 fun t48_70 w_71 =>
    C_61 w_71 ∧
    (Cl Tryz.prog 100 [kv6_32, t48_70] w_71 fun t49_72 w_73 =>
    C_61 w_73 ∧
    (Cl Tryz.prog 94 [t41_64, t44_68, t49_72] w_73 fun t50_74 w_75 =>
    Pu (binV (TypeDesc.int IntKind.i64) .neq t50_74 (Value.int IntKind.i64 0)) fun t52_76 =>
    IfB t52_76
      (k t50_74 w_75)
      (Pu (binV (TypeDesc.int IntKind.i64) .add kv6_32 (Value.int IntKind.i64 1)) fun t37_77 =>
    I_28 [t37_77] w_75 ∧ m_29 [t37_77] w_75 < m_29 [kv6_32] w_56)))))))
      (Pu (nilV l0) fun t55_78 =>
  Pu (faV 0 t55_78) fun t56_79 =>
  Ld w_59 t56_79 fun t57_80 w_81 =>
  Cl Tryz.prog 38 [t57_80] w_81 fun t58_82 w_83 =>
  Pu (binV (TypeDesc.int IntKind.i64) .neq t58_82 (Value.int IntKind.i64 0)) fun t60_84 =>
  IfB t60_84
    (k t58_82 w_83)
    (Pu (nilV l0) fun t64_85 =>
  Pu (faV 6 t64_85) fun t65_86 =>
  St 1 w_83 t65_86 t12_2 fun u_87 w_88 =>
  k (Value.int IntKind.i64 0) w_88)))))
theorem e26 (k : KV) (l0 : Value) (to1 : Value) (w : World) : K KD Tryz.prog 66 (fun j => bif Nat.beq j 7 then [6] else []) (fun j =>  none) (Tryz.f26.body.getD .skip) (retQ Tryz.prog Tryz.f26 k) (argF [l0, to1]) w = T26 k l0 to1 w := by kernel_rfl
theorem c26 {k : KV} {l0 : Value} {to1 : Value} {w : World} (h : T26 k l0 to1 w) : Cl Tryz.prog 26 [l0, to1] w k :=
  Cl_of_K KD_sound mixed Tryz.func26 (by kernel_rfl) (by kernel_rfl) ((e26 k l0 to1 w).symm ▸ h)

/-- Function 27: (*almonry/wal.Log).Flushed. -/
def T27 (k : KV) (l0 : Value) (w : World) : Prop :=
  Pu (binV (TypeDesc.pointer 132) .eql l0 (Value.pointer none)) fun t4_1 =>
  IfB t4_1
    (k (Value.int IntKind.i64 0) w)
    (Pu (nilV l0) fun t6_2 =>
  Pu (faV 6 t6_2) fun t7_3 =>
  Ld w t7_3 fun t8_4 w_5 =>
  k t8_4 w_5)
theorem e27 (k : KV) (l0 : Value) (w : World) : K KD Tryz.prog 9 (fun j =>  []) (fun j =>  none) (Tryz.f27.body.getD .skip) (retQ Tryz.prog Tryz.f27 k) (argF [l0]) w = T27 k l0 w := by kernel_rfl
theorem c27 {k : KV} {l0 : Value} {w : World} (h : T27 k l0 w) : Cl Tryz.prog 27 [l0] w k :=
  Cl_of_K KD_sound mixed Tryz.func27 (by kernel_rfl) (by kernel_rfl) ((e27 k l0 w).symm ▸ h)

/-- Function 93: almonry/wal.fits. -/
def T93 (k : KV) (d0 : Value) (fromv1 : Value) (n2 : Value) (w : World) : Prop :=
  Pu (binV (TypeDesc.pointer 126) .neq d0 (Value.pointer none)) fun t8_1 =>
  Gd (isB true t8_1) (fun kk => kk n2 w) w fun t10_2 w_3 =>
  Gd (isB true t8_1) (fun kk => Pu (binV (TypeDesc.int IntKind.i64) .geq t10_2 (Value.int IntKind.i64 4)) fun vv => kk vv w_3) w_3 fun t11_4 w_5 =>
  Pu (pickV t8_1 t11_4 (Value.bool false)) fun t12_6 =>
  Gd (isB true t12_6) (fun kk => kk fromv1 w_5) w_5 fun t14_7 w_8 =>
  Gd (isB true t12_6) (fun kk => Pu (binV (TypeDesc.int IntKind.i64) .geq t14_7 (Value.int IntKind.i64 0)) fun vv => kk vv w_8) w_8 fun t15_9 w_10 =>
  Pu (pickV t12_6 t15_9 (Value.bool false)) fun t16_11 =>
  Gd (isB true t16_11) (fun kk => kk n2 w_10) w_10 fun t18_12 w_13 =>
  Gd (isB true t16_11) (fun kk => kk d0 w_13) w_13 fun t19_14 w_15 =>
  Gd (isB true t16_11) (fun kk => Cl Tryz.prog 108 [t19_14] w_15 kk) w_15 fun t20_16 w_17 =>
  Gd (isB true t16_11) (fun kk => Pu (binV (TypeDesc.int IntKind.i64) .leq t18_12 t20_16) fun vv => kk vv w_17) w_17 fun t21_18 w_19 =>
  Pu (pickV t16_11 t21_18 (Value.bool false)) fun t22_20 =>
  Gd (isB true t22_20) (fun kk => kk fromv1 w_19) w_19 fun t24_21 w_22 =>
  Gd (isB true t22_20) (fun kk => kk d0 w_22) w_22 fun t25_23 w_24 =>
  Gd (isB true t22_20) (fun kk => Cl Tryz.prog 108 [t25_23] w_24 kk) w_24 fun t26_25 w_26 =>
  Gd (isB true t22_20) (fun kk => kk n2 w_26) w_26 fun t27_27 w_28 =>
  Gd (isB true t22_20) (fun kk => Pu (binV (TypeDesc.int IntKind.i64) .sub t26_25 t27_27) fun vv => kk vv w_28) w_28 fun t28_29 w_30 =>
  Gd (isB true t22_20) (fun kk => Pu (binV (TypeDesc.int IntKind.i64) .leq t24_21 t28_29) fun vv => kk vv w_30) w_30 fun t29_31 w_32 =>
  Pu (pickV t22_20 t29_31 (Value.bool false)) fun t30_33 =>
  k t30_33 w_32
theorem e93 (k : KV) (d0 : Value) (fromv1 : Value) (n2 : Value) (w : World) : K KD Tryz.prog 31 (fun j =>  []) (fun j =>  none) (Tryz.f93.body.getD .skip) (retQ Tryz.prog Tryz.f93 k) (argF [d0, fromv1, n2]) w = T93 k d0 fromv1 n2 w := by kernel_rfl
theorem c93 {k : KV} {d0 : Value} {fromv1 : Value} {n2 : Value} {w : World} (h : T93 k d0 fromv1 n2 w) : Cl Tryz.prog 93 [d0, fromv1, n2] w k :=
  Cl_of_K KD_sound mixed Tryz.func93 (by kernel_rfl) (by kernel_rfl) ((e93 k d0 fromv1 n2 w).symm ▸ h)

/-- Function 96: almonry/wal.own. -/
def T96 (k : KV) (r0 : Value) (w : World) : Prop :=
  New (Value.cells r0) 28 w fun r1_1 w_2 =>
  New #[(Value.int IntKind.i64 0), (Value.int IntKind.i64 0), (Value.int IntKind.i64 0), (Value.int IntKind.u8 0), (Value.int IntKind.i64 0), (Value.int IntKind.i64 0), (Value.int IntKind.i64 0), (Value.int IntKind.i64 0), (Value.int IntKind.i64 0), (Value.int IntKind.i64 0), (Value.string (ByteArray.mk #[])), (Value.slice none 0 0), (Value.slice none 0 0), (Value.slice none 0 0), (Value.slice none 0 0), (Value.slice none 0 0)] 28 w_2 fun t2_3 w_4 =>
  LdN 16 w_4 r1_1 fun t9_5 w_6 =>
  Cl Tryz.prog 89 [t9_5] w_6 fun t10_7 w_8 =>
  Pu (extV t10_7 0) fun t11_9 =>
  Pu (extV t10_7 1) fun t12_10 =>
  Cl Tryz.prog 13 [t11_9] w_8 fun t15_11 w_12 =>
  Pu (extV t15_11 0) fun t16_13 =>
  Pu (extV t15_11 1) fun t17_14 =>
  Pu (extV t15_11 2) fun t18_15 =>
  New #[(Value.int IntKind.i64 0), (Value.int IntKind.i64 0), (Value.int IntKind.i64 0), (Value.int IntKind.u8 0), (Value.int IntKind.i64 0), (Value.int IntKind.i64 0), (Value.int IntKind.i64 0), (Value.int IntKind.i64 0), (Value.int IntKind.i64 0), (Value.int IntKind.i64 0), (Value.string (ByteArray.mk #[])), (Value.slice none 0 0), (Value.slice none 0 0), (Value.slice none 0 0), (Value.slice none 0 0), (Value.slice none 0 0)] 28 w_12 fun c5_16 w_17 =>
  St 16 w_17 c5_16 t16_13 fun u_18 w_19 =>
  LdN 16 w_19 c5_16 fun t19_20 w_21 =>
  St 16 w_21 t2_3 t19_20 fun u_22 w_23 =>
  RetO (resL Tryz.prog (fun j => bif Nat.beq j 2 then t2_3 else undef) w_23 [(ResultVar.cell 2 28)]) w_23 k
theorem e96 (k : KV) (r0 : Value) (w : World) : K KD Tryz.prog 20 (fun j =>  []) (fun j =>  none) (Tryz.f96.body.getD .skip) (retQ Tryz.prog Tryz.f96 k) (argF [r0]) w = T96 k r0 w := by kernel_rfl
theorem c96 {k : KV} {r0 : Value} {w : World} (h : T96 k r0 w) : Cl Tryz.prog 96 [r0] w k :=
  Cl_of_K KD_sound mixed Tryz.func96 (by kernel_rfl) (by kernel_rfl) ((e96 k r0 w).symm ▸ h)

/-- Function 97: almonry/wal.of. -/
def T97 (k : KV) (atv0 : Value) (w : World) : Prop :=
  Pu (binV (TypeDesc.int IntKind.i64) .sub atv0 (Value.int IntKind.i64 1)) fun t4_1 =>
  Pu (binV (TypeDesc.int IntKind.i64) .quo t4_1 (Value.int IntKind.i64 54)) fun t5_2 =>
  k t5_2 w
theorem e97 (k : KV) (atv0 : Value) (w : World) : K KD Tryz.prog 6 (fun j =>  []) (fun j =>  none) (Tryz.f97.body.getD .skip) (retQ Tryz.prog Tryz.f97 k) (argF [atv0]) w = T97 k atv0 w := by kernel_rfl
theorem c97 {k : KV} {atv0 : Value} {w : World} (h : T97 k atv0 w) : Cl Tryz.prog 97 [atv0] w k :=
  Cl_of_K KD_sound mixed Tryz.func97 (by kernel_rfl) (by kernel_rfl) ((e97 k atv0 w).symm ▸ h)

/-- Function 98: almonry/wal.first. -/
def T98 (k : KV) (kv0 : Value) (w : World) : Prop :=
  Pu (binV (TypeDesc.int IntKind.i64) .mul kv0 (Value.int IntKind.i64 54)) fun t4_1 =>
  Pu (binV (TypeDesc.int IntKind.i64) .add t4_1 (Value.int IntKind.i64 1)) fun t5_2 =>
  k t5_2 w
theorem e98 (k : KV) (kv0 : Value) (w : World) : K KD Tryz.prog 6 (fun j =>  []) (fun j =>  none) (Tryz.f98.body.getD .skip) (retQ Tryz.prog Tryz.f98 k) (argF [kv0]) w = T98 k kv0 w := by kernel_rfl
theorem c98 {k : KV} {kv0 : Value} {w : World} (h : T98 k kv0 w) : Cl Tryz.prog 98 [kv0] w k :=
  Cl_of_K KD_sound mixed Tryz.func98 (by kernel_rfl) (by kernel_rfl) ((e98 k kv0 w).symm ▸ h)

/-- Function 99: (*almonry/wal.Log).sector. -/
def T99 (k : KV) (l0 : Value) (kv1 : Value) (w : World) : Prop :=
  Pu (nilV l0) fun t6_1 =>
  Pu (faV 1 t6_1) fun t7_2 =>
  Ld (World.drew w) t7_2 fun t8_3 w_4 =>
  w_4 = (World.drew w) ∧
  Pu (nilV l0) fun t11_5 =>
  Pu (faV 2 t11_5) fun t12_6 =>
  Ld (World.drew w) t12_6 fun t13_7 w_8 =>
  w_8 = (World.drew w) ∧
  Pu (binV (TypeDesc.int IntKind.i64) .rem kv1 t13_7) fun t14_9 =>
  Pu (binV (TypeDesc.int IntKind.i64) .add t8_3 t14_9) fun t15_10 =>
  k t15_10 (World.drew w)
theorem e99 (k : KV) (l0 : Value) (kv1 : Value) (w : World) : K KD Tryz.prog 16 (fun j =>  []) (fun j =>  none) (Tryz.f99.body.getD .skip) (retQ Tryz.prog Tryz.f99 k) (argF [l0, kv1]) w = T99 k l0 kv1 w := by kernel_rfl
theorem c99 {k : KV} {l0 : Value} {kv1 : Value} {w : World} (h : T99 k l0 kv1 w) : Cl Tryz.prog 99 [l0, kv1] w k :=
  Cl_of_K KD_sound mixed Tryz.func99 (by kernel_rfl) (by kernel_rfl) ((e99 k l0 kv1 w).symm ▸ h)

/-- Function 100: almonry/wal.sealed. -/
def T100 (k : KV) (kv0 : Value) (b1 : Value) (w : World) : Prop :=
  Pu (lenS b1) fun t7_1 =>
  Pu (cvI IntKind.u8 t7_1) fun t8_2 =>
  RunS Tryz.prog (Instr.buildSlice 123 1 #[(0, t8_2)]) w fun t9_3 w_4 =>
  RunS Tryz.prog (convert 123 9 t9_3) w_4 fun t10_5 w_6 =>
  Cl Tryz.prog 179 [kv0] w_6 fun t12_7 w_8 =>
  Pu (binV TypeDesc.string .add t12_7 t10_5) fun t14_9 =>
  Pu (binV TypeDesc.string .add t14_9 b1) fun t16_10 =>
  Pu (lenS b1) fun t18_11 =>
  Pu (binV (TypeDesc.int IntKind.i64) .sub (Value.int IntKind.i64 54) t18_11) fun t19_12 =>
  Cl Tryz.prog 95 [(Value.string (ByteArray.mk #[0])), t19_12] w_8 fun t20_13 w_14 =>
  Pu (binV TypeDesc.string .add t16_10 t20_13) fun t21_15 =>
  Pu (binV TypeDesc.string .add t21_15 t10_5) fun t23_16 =>
  Cl Tryz.prog 179 [kv0] w_14 fun t25_17 w_18 =>
  Pu (binV TypeDesc.string .add t23_16 t25_17) fun t26_19 =>
  k t26_19 w_18
theorem e100 (k : KV) (kv0 : Value) (b1 : Value) (w : World) : K KD Tryz.prog 27 (fun j =>  []) (fun j =>  none) (Tryz.f100.body.getD .skip) (retQ Tryz.prog Tryz.f100 k) (argF [kv0, b1]) w = T100 k kv0 b1 w := by kernel_rfl
theorem c100 {k : KV} {kv0 : Value} {b1 : Value} {w : World} (h : T100 k kv0 b1 w) : Cl Tryz.prog 100 [kv0, b1] w k :=
  Cl_of_K KD_sound mixed Tryz.func100 (by kernel_rfl) (by kernel_rfl) ((e100 k kv0 b1 w).symm ▸ h)

/-- Function 101: (*almonry/wal.Log).bytes. -/
def T101 (k : KV) (l0 : Value) (kv1 : Value) (w : World) : Prop :=
  ∃ C_1 : World → Prop, C_1 (World.drew w) ∧
  (Pu (nilV l0) fun t9_2 =>
  Pu (faV 3 t9_2) fun t10_3 =>
  ∃ t11_4, (∀ w_5, C_1 w_5 → Ld w_5 t10_3 fun t11_6 w_7 =>
  t11_6 = t11_4 ∧ w_7 = w_5) ∧
  (Cl Tryz.prog 98 [kv1] (World.drew w) fun t7_8 w_9 =>
  C_1 w_9 ∧
  (Pu (binV (TypeDesc.int IntKind.i64) .sub t7_8 t11_4) fun t12_10 =>
  Pu (nilV l0) fun t14_11 =>
  Pu (faV 4 t14_11) fun t15_12 =>
  Ld (World.drew w_9) t15_12 fun t16_13 w_14 =>
  w_14 = (World.drew w_9) ∧
  Pu (binV (TypeDesc.int IntKind.i64) .add t12_10 (Value.int IntKind.i64 54)) fun t19_15 =>
  Pu (nilV l0) fun t21_16 =>
  Pu (faV 4 t21_16) fun t22_17 =>
  Ld (World.drew w_9) t22_17 fun t23_18 w_19 =>
  w_19 = (World.drew w_9) ∧
  Pu (lenV t23_18) fun t24_20 =>
  Pu (foldV0 min2V [t19_15, t24_20]) fun t25_21 =>
  Pu (slV 1 t16_13 (some t12_10) (some t25_21) none) fun t26_22 =>
  RunS Tryz.prog (convert 123 9 t26_22) (World.drew w_9) fun t27_23 w_24 =>
  w_24 = (World.drew w_9) ∧
  k t27_23 (World.drew w_9))))
theorem e101 (k : KV) (l0 : Value) (kv1 : Value) (w : World) : K KD Tryz.prog 28 (fun j =>  []) (fun j =>  none) (Tryz.f101.body.getD .skip) (retQ Tryz.prog Tryz.f101 k) (argF [l0, kv1]) w = T101 k l0 kv1 w := by kernel_rfl
theorem c101 {k : KV} {l0 : Value} {kv1 : Value} {w : World} (h : T101 k l0 kv1 w) : Cl Tryz.prog 101 [l0, kv1] w k :=
  Cl_of_K KD_sound mixed Tryz.func101 (by kernel_rfl) (by kernel_rfl) ((e101 k l0 kv1 w).symm ▸ h)

/-- Function 179: almonry/wal.name. -/
def T179 (k : KV) (kv0 : Value) (w : World) : Prop :=
  Pu (binV (TypeDesc.int IntKind.i64) .add kv0 (Value.int IntKind.i64 1)) fun t4_1 =>
  Pu (binV (TypeDesc.int IntKind.i64) .rem t4_1 (Value.int IntKind.i64 4294967296)) fun t5_2 =>
  Cl Tryz.prog 115 [t5_2, (Value.int IntKind.i64 4)] w fun t6_3 w_4 =>
  k t6_3 w_4
theorem e179 (k : KV) (kv0 : Value) (w : World) : K KD Tryz.prog 7 (fun j =>  []) (fun j =>  none) (Tryz.f179.body.getD .skip) (retQ Tryz.prog Tryz.f179 k) (argF [kv0]) w = T179 k kv0 w := by kernel_rfl
theorem c179 {k : KV} {kv0 : Value} {w : World} (h : T179 k kv0 w) : Cl Tryz.prog 179 [kv0] w k :=
  Cl_of_K KD_sound mixed Tryz.func179 (by kernel_rfl) (by kernel_rfl) ((e179 k kv0 w).symm ▸ h)

/-- Function 174: strings.HasPrefix. -/
def T174 (k : KV) (s0 : Value) (prefixv1 : Value) (w : World) : Prop :=
  Cl Tryz.prog 210 [s0, prefixv1] w fun t7_1 w_2 =>
  k t7_1 w_2
theorem e174 (k : KV) (s0 : Value) (prefixv1 : Value) (w : World) : K KD Tryz.prog 8 (fun j =>  []) (fun j =>  none) (Tryz.f174.body.getD .skip) (retQ Tryz.prog Tryz.f174 k) (argF [s0, prefixv1]) w = T174 k s0 prefixv1 w := by kernel_rfl
theorem c174 {k : KV} {s0 : Value} {prefixv1 : Value} {w : World} (h : T174 k s0 prefixv1 w) : Cl Tryz.prog 174 [s0, prefixv1] w k :=
  Cl_of_K KD_sound mixed Tryz.func174 (by kernel_rfl) (by kernel_rfl) ((e174 k s0 prefixv1 w).symm ▸ h)

/-- Function 210: internal/stringslite.HasPrefix. -/
def T210 (k : KV) (s0 : Value) (prefixv1 : Value) (w : World) : Prop :=
  Pu (lenS s0) fun t6_1 =>
  Pu (lenS prefixv1) fun t8_2 =>
  Pu (binV (TypeDesc.int IntKind.i64) .geq t6_1 t8_2) fun t9_3 =>
  Gd (isB true t9_3) (fun kk => kk s0 w) w fun t11_4 w_5 =>
  Gd (isB true t9_3) (fun kk => kk prefixv1 w_5) w_5 fun t12_6 w_7 =>
  Gd (isB true t9_3) (fun kk => Pu (lenS t12_6) fun vv => kk vv w_7) w_7 fun t13_8 w_9 =>
  Gd (isB true t9_3) (fun kk => Pu (slS t11_4 none (some t13_8)) fun vv => kk vv w_9) w_9 fun t14_10 w_11 =>
  Gd (isB true t9_3) (fun kk => kk prefixv1 w_11) w_11 fun t15_12 w_13 =>
  Gd (isB true t9_3) (fun kk => Pu (binV TypeDesc.string .eql t14_10 t15_12) fun vv => kk vv w_13) w_13 fun t16_14 w_15 =>
  Pu (pickV t9_3 t16_14 (Value.bool false)) fun t17_16 =>
  k t17_16 w_15
theorem e210 (k : KV) (s0 : Value) (prefixv1 : Value) (w : World) : K KD Tryz.prog 18 (fun j =>  []) (fun j =>  none) (Tryz.f210.body.getD .skip) (retQ Tryz.prog Tryz.f210 k) (argF [s0, prefixv1]) w = T210 k s0 prefixv1 w := by kernel_rfl
theorem c210 {k : KV} {s0 : Value} {prefixv1 : Value} {w : World} (h : T210 k s0 prefixv1 w) : Cl Tryz.prog 210 [s0, prefixv1] w k :=
  Cl_of_K KD_sound mixed Tryz.func210 (by kernel_rfl) (by kernel_rfl) ((e210 k s0 prefixv1 w).symm ▸ h)

/-- Function 4: almonry/almonrylaw05.WalRoom. -/
def T4 (k : KV) (ops0 : Value) (w : World) : Prop :=
  Cl Tryz.prog 17 [(Value.int IntKind.i64 20)] w fun t17_1 w_2 =>
  Pu (extV t17_1 0) fun t18_3 =>
  Pu (extV t17_1 1) fun t19_4 =>
  Pu (binV (TypeDesc.int IntKind.i64) .neq t19_4 (Value.int IntKind.i64 0)) fun t21_5 =>
  Gd (isB false t21_5) (fun kk => kk t18_3 w_2) w_2 fun t23_6 w_7 =>
  Gd (isB false t21_5) (fun kk => Pu (binV (TypeDesc.pointer 126) .eql t23_6 (Value.pointer none)) fun vv => kk vv w_7) w_7 fun t24_8 w_9 =>
  Pu (pickV t21_5 (Value.bool true) t24_8) fun t25_10 =>
  IfB t25_10
    (k (Value.bool false) w_9)
    (Cl Tryz.prog 18 [t18_3, (Value.int IntKind.i64 0), (Value.int IntKind.i64 20)] w_9 fun t28_11 w_12 =>
  Pu (extV t28_11 0) fun t29_13 =>
  Pu (extV t28_11 1) fun t30_14 =>
  Pu (binV (TypeDesc.int IntKind.i64) .neq t30_14 (Value.int IntKind.i64 0)) fun t32_15 =>
  Gd (isB false t32_15) (fun kk => kk t29_13 w_12) w_12 fun t34_16 w_17 =>
  Gd (isB false t32_15) (fun kk => Pu (binV (TypeDesc.pointer 132) .eql t34_16 (Value.pointer none)) fun vv => kk vv w_17) w_17 fun t35_18 w_19 =>
  Pu (pickV t32_15 (Value.bool true) t35_18) fun t36_20 =>
  IfB t36_20
    (k (Value.bool false) w_19)
    (∃ (I_21 : List Value → World → Prop) (m_22 : List Value → World → Nat), I_21 [(Value.int IntKind.i64 0), (Value.int IntKind.i64 0)] w_19 ∧
  ∀ (g_142 : Fr) (w_141 : World), ∀ kept7_25 : Value, ∀ i8_26 : Value, I_21 [kept7_25, i8_26] w_141 →
    (Pu (lenV ops0) fun t39_143 =>
    Pu (binV (TypeDesc.int IntKind.i64) .lss i8_26 t39_143) fun t40_144 =>
    IfB t40_144
      (Cl Tryz.prog 19 [t29_13] w_141 fun t44_145 w_146 =>
    Cl Tryz.prog 20 [t29_13] w_146 fun t46_147 w_148 =>
    Pu (ixV 20 ops0 i8_26) fun t49_149 =>
    Pu (faV 1 t49_149) fun t50_150 =>
    Ld w_148 t50_150 fun t51_151 w_152 =>
    Jn (fun vs_237 w_236 => ∀ g_238 : Fr, ∃ kept7_155 : Value, vs_237 = [kept7_155] ∧
        (Cl Tryz.prog 19 [t29_13] w_236 fun t129_239 w_240 =>
        Pu (binV (TypeDesc.int IntKind.i64) .lss t129_239 (Value.int IntKind.i64 0)) fun t130_241 =>
        Gd (isB false t130_241) (fun kk => kk t29_13 w_240) w_240 fun t132_242 w_243 =>
        Gd (isB false t130_241) (fun kk => Cl Tryz.prog 19 [t132_242] w_243 kk) w_243 fun t133_244 w_245 =>
        Gd (isB false t130_241) (fun kk => kk t29_13 w_245) w_245 fun t134_246 w_247 =>
        Gd (isB false t130_241) (fun kk => Cl Tryz.prog 20 [t134_246] w_247 kk) w_247 fun t135_248 w_249 =>
        Gd (isB false t130_241) (fun kk => kk t29_13 w_249) w_249 fun t136_250 w_251 =>
        Gd (isB false t130_241) (fun kk => Cl Tryz.prog 24 [t136_250] w_251 kk) w_251 fun t137_252 w_253 =>
        Gd (isB false t130_241) (fun kk => Pu (binV (TypeDesc.int IntKind.i64) .sub t135_248 t137_252) fun vv => kk vv w_253) w_253 fun t138_254 w_255 =>
        Gd (isB false t130_241) (fun kk => Pu (binV (TypeDesc.int IntKind.i64) .sub (Value.int IntKind.i64 972) t138_254) fun vv => kk vv w_255) w_255 fun t139_256 w_257 =>
        Gd (isB false t130_241) (fun kk => kk kept7_155 w_257) w_257 fun t140_258 w_259 =>
        Gd (isB false t130_241) (fun kk => Pu (binV (TypeDesc.int IntKind.i64) .sub t139_256 t140_258) fun vv => kk vv w_259) w_259 fun t141_260 w_261 =>
        Gd (isB false t130_241) (fun kk => Pu (binV (TypeDesc.int IntKind.i64) .neq t133_244 t141_260) fun vv => kk vv w_261) w_261 fun t142_262 w_263 =>
        Pu (pickV t130_241 (Value.bool true) t142_262) fun t143_264 =>
        IfB t143_264
          (k (Value.bool false) w_263)
          (Pu (binV (TypeDesc.int IntKind.i64) .add i8_26 (Value.int IntKind.i64 1)) fun t42_265 =>
    I_21 [kept7_155, t42_265] w_263 ∧ m_22 [kept7_155, t42_265] w_263 < m_22 [kept7_25, i8_26] w_141)))
      (fun jj_153 =>
      Pu (ixV 20 ops0 i8_26) fun t54_266 =>
      Pu (faV 0 t54_266) fun t55_267 =>
      Ld w_152 t55_267 fun t56_268 w_269 =>
      Pu (binV (TypeDesc.int IntKind.i64) .eql t56_268 (Value.int IntKind.i64 0)) fun t58_270 =>
      IfB t58_270
        (Pu (ixV 20 ops0 i8_26) fun t63_271 =>
          Pu (faV 3 t63_271) fun t64_272 =>
          LdN 16 w_269 t64_272 fun t65_273 w_274 =>
          Cl Tryz.prog 21 [t29_13, t65_273] w_274 fun t66_275 w_276 =>
          Pu (extV t66_275 0) fun t67_277 =>
          Pu (extV t66_275 1) fun t68_278 =>
          Pu (binV (TypeDesc.int IntKind.i64) .neq t68_278 (Value.int IntKind.i64 0)) fun t70_279 =>
          Gd (isB true t70_279) (fun kk => kk t29_13 w_276) w_276 fun t72_280 w_281 =>
          Gd (isB true t70_279) (fun kk => Cl Tryz.prog 20 [t72_280] w_281 kk) w_281 fun t73_282 w_283 =>
          Gd (isB true t70_279) (fun kk => kk t46_147 w_283) w_283 fun t74_284 w_285 =>
          Gd (isB true t70_279) (fun kk => Pu (binV (TypeDesc.int IntKind.i64) .neq t73_282 t74_284) fun vv => kk vv w_285) w_285 fun t75_286 w_287 =>
          Pu (pickV t70_279 t75_286 (Value.bool false)) fun t76_288 =>
          Gd (isB false t76_288) (fun kk => kk t29_13 w_287) w_287 fun t78_289 w_290 =>
          Gd (isB false t76_288) (fun kk => Cl Tryz.prog 19 [t78_289] w_290 kk) w_290 fun t79_291 w_292 =>
          Gd (isB false t76_288) (fun kk => kk t44_145 w_292) w_292 fun t80_293 w_294 =>
          Gd (isB false t76_288) (fun kk => kk t29_13 w_294) w_294 fun t81_295 w_296 =>
          Gd (isB false t76_288) (fun kk => Cl Tryz.prog 20 [t81_295] w_296 kk) w_296 fun t82_297 w_298 =>
          Gd (isB false t76_288) (fun kk => kk t46_147 w_298) w_298 fun t83_299 w_300 =>
          Gd (isB false t76_288) (fun kk => Pu (binV (TypeDesc.int IntKind.i64) .sub t82_297 t83_299) fun vv => kk vv w_300) w_300 fun t84_301 w_302 =>
          Gd (isB false t76_288) (fun kk => Pu (binV (TypeDesc.int IntKind.i64) .sub t80_293 t84_301) fun vv => kk vv w_302) w_302 fun t85_303 w_304 =>
          Gd (isB false t76_288) (fun kk => Pu (binV (TypeDesc.int IntKind.i64) .neq t79_291 t85_303) fun vv => kk vv w_304) w_304 fun t86_305 w_306 =>
          Pu (pickV t76_288 (Value.bool true) t86_305) fun t87_307 =>
          IfB t87_307
            (k (Value.bool false) w_306)
            (jj_153 [kept7_25] w_306))
        (Pu (binV (TypeDesc.int IntKind.i64) .eql t56_268 (Value.int IntKind.i64 1)) fun t89_308 =>
          IfB t89_308
            (Cl Tryz.prog 22 [t29_13, t51_151] w_269 fun t92_309 w_310 =>
              Pu (binV (TypeDesc.int IntKind.i64) .eql t92_309 (Value.int IntKind.i64 0)) fun t94_311 =>
              Pu (binV (TypeDesc.int IntKind.i64) .geq t51_151 (Value.int IntKind.i64 0)) fun t96_312 =>
              Gd (isB true t96_312) (fun kk => kk t51_151 w_310) w_310 fun t98_313 w_314 =>
              Gd (isB true t96_312) (fun kk => kk t44_145 w_314) w_314 fun t99_315 w_316 =>
              Gd (isB true t96_312) (fun kk => Pu (binV (TypeDesc.int IntKind.i64) .leq t98_313 t99_315) fun vv => kk vv w_316) w_316 fun t100_317 w_318 =>
              Pu (pickV t96_312 t100_317 (Value.bool false)) fun t101_319 =>
              Pu (binV TypeDesc.bool .neq t94_311 t101_319) fun t102_320 =>
              IfB t102_320
                (k (Value.bool false) w_318)
                (Pu (binV (TypeDesc.int IntKind.i64) .eql t92_309 (Value.int IntKind.i64 0)) fun t104_321 =>
              IfB t104_321
                (Pu (binV (TypeDesc.int IntKind.i64) .add kept7_25 t51_151) fun t107_322 =>
                  jj_153 [t107_322] w_318)
                (jj_153 [kept7_25] w_318)))
            (Pu (binV (TypeDesc.int IntKind.i64) .eql t56_268 (Value.int IntKind.i64 2)) fun t109_323 =>
              IfB t109_323
                (Cl Tryz.prog 23 [t29_13, t51_151] w_269 fun t112_324 w_325 =>
                  Pu (binV (TypeDesc.int IntKind.i64) .eql t112_324 (Value.int IntKind.i64 0)) fun t114_326 =>
                  Pu (binV (TypeDesc.int IntKind.i64) .geq t51_151 (Value.int IntKind.i64 0)) fun t116_327 =>
                  Gd (isB true t116_327) (fun kk => kk t51_151 w_325) w_325 fun t118_328 w_329 =>
                  Gd (isB true t116_327) (fun kk => kk kept7_25 w_329) w_329 fun t119_330 w_331 =>
                  Gd (isB true t116_327) (fun kk => Pu (binV (TypeDesc.int IntKind.i64) .leq t118_328 t119_330) fun vv => kk vv w_331) w_331 fun t120_332 w_333 =>
                  Pu (pickV t116_327 t120_332 (Value.bool false)) fun t121_334 =>
                  Pu (binV TypeDesc.bool .neq t114_326 t121_334) fun t122_335 =>
                  IfB t122_335
                    (k (Value.bool false) w_333)
                    (Pu (binV (TypeDesc.int IntKind.i64) .eql t112_324 (Value.int IntKind.i64 0)) fun t124_336 =>
                  IfB t124_336
                    (Pu (binV (TypeDesc.int IntKind.i64) .sub kept7_25 t51_151) fun t127_337 =>
                      jj_153 [t127_337] w_333)
                    (jj_153 [kept7_25] w_333)))
                (jj_153 [kept7_25] w_269)))))
      (Cl Tryz.prog 25 [] w_141 fun t144_338 w_339 =>
  k t144_338 w_339))))
theorem e4 (k : KV) (ops0 : Value) (w : World) : K KD Tryz.prog 145 (fun j => bif Nat.beq j 9 then [7, 8] else []) (fun j => bif Nat.beq j 31 then some [7] else none) (Tryz.f4.body.getD .skip) (retQ Tryz.prog Tryz.f4 k) (argF [ops0]) w = T4 k ops0 w := by kernel_rfl
theorem c4 {k : KV} {ops0 : Value} {w : World} (h : T4 k ops0 w) : Cl Tryz.prog 4 [ops0] w k :=
  Cl_of_K KD_sound mixed Tryz.func4 (by kernel_rfl) (by kernel_rfl) ((e4 k ops0 w).symm ▸ h)

/-- Function 5: almonry/almonrylaw05.WalGets. -/
def T5 (k : KV) (l0 : Value) (to1 : Value) (atv2 : Value) (w : World) : Prop :=
  Cl Tryz.prog 17 [(Value.int IntKind.i64 200)] w fun t25_1 w_2 =>
  Pu (extV t25_1 0) fun t26_3 =>
  Pu (extV t25_1 1) fun t27_4 =>
  Pu (binV (TypeDesc.int IntKind.i64) .neq t27_4 (Value.int IntKind.i64 0)) fun t29_5 =>
  Gd (isB false t29_5) (fun kk => kk t26_3 w_2) w_2 fun t31_6 w_7 =>
  Gd (isB false t29_5) (fun kk => Pu (binV (TypeDesc.pointer 126) .eql t31_6 (Value.pointer none)) fun vv => kk vv w_7) w_7 fun t32_8 w_9 =>
  Pu (pickV t29_5 (Value.bool true) t32_8) fun t33_10 =>
  IfB t33_10
    (k (Value.bool false) w_9)
    (Cl Tryz.prog 18 [t26_3, (Value.int IntKind.i64 0), (Value.int IntKind.i64 200)] w_9 fun t36_11 w_12 =>
  Pu (extV t36_11 0) fun t37_13 =>
  Pu (extV t36_11 1) fun t38_14 =>
  Pu (binV (TypeDesc.int IntKind.i64) .neq t38_14 (Value.int IntKind.i64 0)) fun t40_15 =>
  Gd (isB false t40_15) (fun kk => kk t37_13 w_12) w_12 fun t42_16 w_17 =>
  Gd (isB false t40_15) (fun kk => Pu (binV (TypeDesc.pointer 132) .eql t42_16 (Value.pointer none)) fun vv => kk vv w_17) w_17 fun t43_18 w_19 =>
  Pu (pickV t40_15 (Value.bool true) t43_18) fun t44_20 =>
  IfB t44_20
    (k (Value.bool false) w_19)
    (∃ (I_21 : List Value → World → Prop) (m_22 : List Value → World → Nat), I_21 [(Value.slice none 0 0), (Value.int IntKind.i64 0)] w_19 ∧
  ∀ (g_67 : Fr) (w_66 : World), ∀ all11_25 : Value, ∀ i12_26 : Value, I_21 [all11_25, i12_26] w_66 →
    (Pu (lenV l0) fun t47_68 =>
    Pu (binV (TypeDesc.int IntKind.i64) .lss i12_26 t47_68) fun t48_69 =>
    IfB t48_69
      (Pu (ixV 16 l0 i12_26) fun t53_70 =>
    LdN 16 w_66 t53_70 fun t54_71 w_72 =>
    New #[(Value.int IntKind.i64 0), (Value.int IntKind.i64 0), (Value.int IntKind.i64 0), (Value.int IntKind.u8 0), (Value.int IntKind.i64 0), (Value.int IntKind.i64 0), (Value.int IntKind.i64 0), (Value.int IntKind.i64 0), (Value.int IntKind.i64 0), (Value.int IntKind.i64 0), (Value.string (ByteArray.mk #[])), (Value.slice none 0 0), (Value.slice none 0 0), (Value.slice none 0 0), (Value.slice none 0 0), (Value.slice none 0 0)] 28 w_72 fun r13_73 w_74 =>
    St 16 w_74 r13_73 t54_71 fun u_75 w_76 =>
    LdN 16 w_76 r13_73 fun t57_77 w_78 =>
    Cl Tryz.prog 21 [t37_13, t57_77] w_78 fun t58_79 w_80 =>
    Pu (extV t58_79 0) fun t59_81 =>
    Pu (extV t58_79 1) fun t60_82 =>
    Jn (fun vs_94 w_93 => ∀ g_95 : Fr, ∃ all11_84 : Value, vs_94 = [all11_84] ∧
        (Pu (lenV l0) fun t71_96 =>
        Pu (binV (TypeDesc.int IntKind.i64) .quo t71_96 (Value.int IntKind.i64 2)) fun t72_97 =>
        Pu (binV (TypeDesc.int IntKind.i64) .eql i12_26 t72_97) fun t73_98 =>
        Gd (isB true t73_98) (fun kk => kk t37_13 w_93) w_93 fun t75_99 w_100 =>
        Gd (isB true t73_98) (fun kk => kk t37_13 w_100) w_100 fun t76_101 w_102 =>
        Gd (isB true t73_98) (fun kk => Cl Tryz.prog 20 [t76_101] w_102 kk) w_102 fun t77_103 w_104 =>
        Gd (isB true t73_98) (fun kk => Cl Tryz.prog 26 [t75_99, t77_103] w_104 kk) w_104 fun t78_105 w_106 =>
        Gd (isB true t73_98) (fun kk => Pu (binV (TypeDesc.int IntKind.i64) .neq t78_105 (Value.int IntKind.i64 0)) fun vv => kk vv w_106) w_106 fun t79_107 w_108 =>
        Pu (pickV t73_98 t79_107 (Value.bool false)) fun t80_109 =>
        IfB t80_109
          (k (Value.bool false) w_108)
          (Pu (binV (TypeDesc.int IntKind.i64) .add i12_26 (Value.int IntKind.i64 1)) fun t50_110 =>
    I_21 [all11_84, t50_110] w_108 ∧ m_22 [all11_84, t50_110] w_108 < m_22 [all11_25, i12_26] w_66)))
      (fun jj_83 =>
      Pu (binV (TypeDesc.int IntKind.i64) .eql t60_82 (Value.int IntKind.i64 0)) fun t62_111 =>
      IfB t62_111
        (Pu (faV 0 r13_73) fun t64_112 =>
          St 1 w_80 t64_112 t59_81 fun u_113 w_114 =>
          LdN 16 w_114 r13_73 fun t66_115 w_116 =>
          RunS Tryz.prog (Instr.buildSlice 49 1 #[(0, t66_115)]) w_116 fun t67_117 w_118 =>
          RunS Tryz.prog (Builtin.append_ #[49, 49] 49 #[all11_25, t67_117]) w_118 fun t68_119 w_120 =>
          jj_83 [t68_119] w_120)
        (jj_83 [all11_25] w_80)))
      (Jn (fun vs_162 w_161 => ∀ g_163 : Fr, ∃ all11_123 : Value, vs_162 = [all11_123] ∧
      (∃ (I_164 : List Value → World → Prop) (m_165 : List Value → World → Nat), I_164 [(Value.bool false), (Value.int IntKind.i64 0)] w_161 ∧
      ∀ (g_210 : Fr) (w_209 : World), ∀ is18_168 : Value, ∀ i19_169 : Value, I_164 [is18_168, i19_169] w_209 →
        (Pu (lenV all11_123) fun t118_211 =>
        Pu (binV (TypeDesc.int IntKind.i64) .lss i19_169 t118_211) fun t119_212 =>
        IfB t119_212
          (Pu (ixV 16 all11_123 i19_169) fun t126_213 =>
        Pu (faV 0 t126_213) fun t127_214 =>
        Ld w_209 t127_214 fun t128_215 w_216 =>
        Cl Tryz.prog 29 [t37_13, t128_215] w_216 fun t129_217 w_218 =>
        Pu (extV t129_217 0) fun t130_219 =>
        Pu (extV t129_217 1) fun t131_220 =>
        New #[(Value.int IntKind.i64 0), (Value.int IntKind.i64 0), (Value.int IntKind.i64 0), (Value.int IntKind.u8 0), (Value.int IntKind.i64 0), (Value.int IntKind.i64 0), (Value.int IntKind.i64 0), (Value.int IntKind.i64 0), (Value.int IntKind.i64 0), (Value.int IntKind.i64 0), (Value.string (ByteArray.mk #[])), (Value.slice none 0 0), (Value.slice none 0 0), (Value.slice none 0 0), (Value.slice none 0 0), (Value.slice none 0 0)] 28 w_218 fun r20_221 w_222 =>
        St 16 w_222 r20_221 t130_219 fun u_223 w_224 =>
        Pu (binV (TypeDesc.int IntKind.i64) .neq t131_220 (Value.int IntKind.i64 0)) fun t133_225 =>
        Gd (isB false t133_225) (fun kk => LdN 16 (World.drew w_224) r20_221 kk) (World.drew w_224) fun t135_226 w_227 =>
        w_227 = (World.drew w_224) ∧
        Gd (isB false t133_225) (fun kk => kk all11_123 (World.drew w_224)) (World.drew w_224) fun t136_228 w_229 =>
        Gd (isB false t133_225) (fun kk => kk i19_169 w_229) w_229 fun t137_230 w_231 =>
        Gd (isB false t133_225) (fun kk => Pu (ixV 16 t136_228 t137_230) fun vv => kk vv w_231) w_231 fun t138_232 w_233 =>
        Gd (isB false t133_225) (fun kk => LdN 16 w_233 t138_232 kk) w_233 fun t139_234 w_235 =>
        w_235 = w_233 ∧
        Gd (isB false t133_225) (fun kk => Cl Tryz.prog 15 [t135_226, t139_234] w_233 kk) w_233 fun t140_236 w_237 =>
        Gd (isB false t133_225) (fun kk => Pu (unV .not t140_236) fun vv => kk vv w_237) w_237 fun t141_238 w_239 =>
        Pu (pickV t133_225 (Value.bool true) t141_238) fun t142_240 =>
        IfB t142_240
          (k (Value.bool false) w_239)
          (Gd (isB false is18_168) (fun kk => kk all11_123 w_239) w_239 fun t145_241 w_242 =>
        Gd (isB false is18_168) (fun kk => kk i19_169 w_242) w_242 fun t146_243 w_244 =>
        Gd (isB false is18_168) (fun kk => Pu (ixV 16 t145_241 t146_243) fun vv => kk vv w_244) w_244 fun t147_245 w_246 =>
        Gd (isB false is18_168) (fun kk => Pu (faV 0 t147_245) fun vv => kk vv w_246) w_246 fun t148_247 w_248 =>
        Gd (isB false is18_168) (fun kk => Ld w_248 t148_247 kk) w_248 fun t149_249 w_250 =>
        Gd (isB false is18_168) (fun kk => kk atv2 w_250) w_250 fun t150_251 w_252 =>
        Gd (isB false is18_168) (fun kk => Pu (binV (TypeDesc.int IntKind.i64) .eql t149_249 t150_251) fun vv => kk vv w_252) w_252 fun t151_253 w_254 =>
        Pu (pickV is18_168 (Value.bool true) t151_253) fun t152_255 =>
        Pu (binV (TypeDesc.int IntKind.i64) .add i19_169 (Value.int IntKind.i64 1)) fun t121_256 =>
        I_164 [t152_255, t121_256] w_254 ∧ m_165 [t152_255, t121_256] w_254 < m_165 [is18_168, i19_169] w_209))
          (Cl Tryz.prog 29 [t37_13, atv2] w_209 fun t156_257 w_258 =>
      Pu (extV t156_257 0) fun t157_259 =>
      Pu (extV t156_257 1) fun t158_260 =>
      New #[(Value.int IntKind.i64 0), (Value.int IntKind.i64 0), (Value.int IntKind.i64 0), (Value.int IntKind.u8 0), (Value.int IntKind.i64 0), (Value.int IntKind.i64 0), (Value.int IntKind.i64 0), (Value.int IntKind.i64 0), (Value.int IntKind.i64 0), (Value.int IntKind.i64 0), (Value.string (ByteArray.mk #[])), (Value.slice none 0 0), (Value.slice none 0 0), (Value.slice none 0 0), (Value.slice none 0 0), (Value.slice none 0 0)] 28 w_258 fun t22_261 w_262 =>
      St 16 w_262 t22_261 t157_259 fun u_263 w_264 =>
      Pu (binV (TypeDesc.int IntKind.i64) .eql t158_260 (Value.int IntKind.i64 0)) fun t160_265 =>
      Pu (binV TypeDesc.bool .eql t160_265 is18_168) fun t162_266 =>
      Gd (isB true t162_266) (fun kk => kk t158_260 w_264) w_264 fun t164_267 w_268 =>
      Gd (isB true t162_266) (fun kk => Pu (binV (TypeDesc.int IntKind.i64) .eql t164_267 (Value.int IntKind.i64 0)) fun vv => kk vv w_268) w_268 fun t165_269 w_270 =>
      Gd (isB true t162_266) (fun kk => kk t165_269 w_270) w_270 fun t166_271 w_272 =>
      Gd (isB false t166_271) (fun kk => kk t158_260 w_272) w_272 fun t167_273 w_274 =>
      Gd (isB false t166_271) (fun kk => Pu (binV (TypeDesc.int IntKind.i64) .eql t167_273 (Value.int IntKind.i64 51)) fun vv => kk vv w_274) w_274 fun t168_275 w_276 =>
      Gd (isB true t162_266) (fun kk => Pu (pickV t166_271 (Value.bool true) t168_275) fun vv => kk vv w_276) w_276 fun t169_277 w_278 =>
      Pu (pickV t162_266 t169_277 (Value.bool false)) fun t170_279 =>
      Gd (isB true t170_279) (fun kk => Cl Tryz.prog 25 [] w_278 kk) w_278 fun t172_280 w_281 =>
      Pu (pickV t170_279 t172_280 (Value.bool false)) fun t173_282 =>
      k t173_282 w_281))))
    (fun jj_121 =>
    Pu (lenV all11_25) fun t82_283 =>
    Pu (binV (TypeDesc.int IntKind.i64) .gtr t82_283 (Value.int IntKind.i64 0)) fun t83_284 =>
    IfB t83_284
      (Pu (lenV all11_25) fun t86_285 =>
        Pu (binV (TypeDesc.int IntKind.i64) .rem to1 t86_285) fun t87_286 =>
        Pu (lenV all11_25) fun t89_287 =>
        Pu (binV (TypeDesc.int IntKind.i64) .add t87_286 t89_287) fun t90_288 =>
        Pu (lenV all11_25) fun t92_289 =>
        Pu (binV (TypeDesc.int IntKind.i64) .rem t90_288 t92_289) fun t93_290 =>
        ∃ C_291 : World → Prop, C_291 (World.drew w_66) ∧
        (Pu (ixV 16 all11_25 t93_290) fun t96_292 =>
        Pu (faV 0 t96_292) fun t97_293 =>
        ∃ t98_294, (∀ w_295, C_291 w_295 → Ld w_295 t97_293 fun t98_296 w_297 =>
        t98_296 = t98_294 ∧ w_297 = w_295) ∧
        (Cl Tryz.prog 27 [t37_13] (World.drew w_66) fun t100_298 w_299 =>
        C_291 w_299 ∧
        (Pu (binV (TypeDesc.int IntKind.i64) .leq t98_294 t100_298) fun t101_300 =>
        Pu (ixV 16 all11_25 t93_290) fun t105_301 =>
        Pu (faV 0 t105_301) fun t106_302 =>
        Ld w_299 t106_302 fun t107_303 w_304 =>
        Cl Tryz.prog 28 [t37_13, t107_303] w_304 fun t108_305 w_306 =>
        Pu (binV (TypeDesc.int IntKind.i64) .eql t108_305 (Value.int IntKind.i64 0)) fun t109_307 =>
        Pu (binV TypeDesc.bool .neq t109_307 t101_300) fun t111_308 =>
        IfB t111_308
          (k (Value.bool false) w_306)
          (IfB t101_300
          (Pu (slV 16 all11_25 (some t93_290) none none) fun t115_309 =>
            jj_121 [t115_309] w_306)
          (jj_121 [all11_25] w_306))))))
      (jj_121 [all11_25] w_66))))))
theorem e5 (k : KV) (l0 : Value) (to1 : Value) (atv2 : Value) (w : World) : K KD Tryz.prog 174 (fun j => bif Nat.beq j 27 then [18, 19] else bif Nat.beq j 9 then [11, 12] else []) (fun j => bif Nat.beq j 16 then some [11] else bif Nat.beq j 25 then some [11] else none) (Tryz.f5.body.getD .skip) (retQ Tryz.prog Tryz.f5 k) (argF [l0, to1, atv2]) w = T5 k l0 to1 atv2 w := by kernel_rfl
theorem c5 {k : KV} {l0 : Value} {to1 : Value} {atv2 : Value} {w : World} (h : T5 k l0 to1 atv2 w) : Cl Tryz.prog 5 [l0, to1, atv2] w k :=
  Cl_of_K KD_sound mixed Tryz.func5 (by kernel_rfl) (by kernel_rfl) ((e5 k l0 to1 atv2 w).symm ▸ h)

end Go.Proofs.YthbngnlmgplijaaGreatDoor

namespace Go.Proofs.YthbngnlmgplijaaGreatDoor
open Go.Al Go.Proofs
set_option linter.unusedVariables false
set_option linter.unusedSimpArgs false
set_option linter.unusedSectionVars false
set_option maxRecDepth 100000

structure Lg where
  frm : Nat
  n : Nat
  base : Nat
  kept : Bs
  start : Nat
  last : Nat
  res : Int
  recs : List (Int × Rc)

def blkN (k : Nat) : Bs := beN 4 ((k + 1) % 4294967296)
def sealB (k : Nat) (b : Bs) : Bs := blkN k ++ ([UInt8.ofNat b.length] ++ (b ++ (zeros (54 - b.length) ++ ([UInt8.ofNat b.length] ++ blkN k))))
def atR (r : Rc) (k : Nat) : Rc := { r with lsn := (k : Int) }

namespace Lg
def tail (L : Lg) : Nat := L.base + L.kept.length
def room (L : Lg) : Int := 54 * ((L.n : Int) - 2) - ((L.tail : Int) - (L.start : Int)) - L.res
def append (L : Lg) (r : Rc) : Lg × Int × Int :=
  bif decide ((rCheck (atR r L.tail)).2 = 0) then
    (bif decide (L.room < ((rEnc (atR r L.tail)).1.length : Int)) then (L, 0, 50)
     else ({ L with kept := L.kept ++ (rEnc (atR r L.tail)).1, recs := setD L.recs (L.tail : Int) (atR r L.tail) }, (L.tail : Int), 0))
  else (L, 0, (rCheck (atR r L.tail)).2)
def bytes (L : Lg) (k : Nat) : Bs := (L.kept.drop (k * 54 + 1 - L.base)).take 54
def put (L : Lg) (k : Nat) (d : Dk) : Dk × Int := d.write ((L.frm + k % L.n : Nat) : Int) (sealB k (L.bytes k))
def flushGo (L : Lg) : Nat → Nat → Dk → Dk × Int
  | 0, _, d => (d, 0)
  | f + 1, k, d => bif decide (k * 54 + 1 < L.tail) then (bif decide ((L.put k d).2 = 0) then flushGo L f (k + 1) (L.put k d).1 else L.put k d) else (d, 0)
def flushE (L : Lg) (d : Dk) : Dk × Int := flushGo L (L.kept.length + 1) ((L.last - 1) / 54) d
def flush (L : Lg) (upto : Int) (d : Dk) : Lg × Dk × Int :=
  bif decide (upto < (L.last : Int)) || decide (L.last = L.tail) then (L, d, 0) else
  bif decide ((L.flushE d).2 = 0) then (bif decide ((L.flushE d).1.sync.2 = 0) then ({ L with last := L.tail }, (L.flushE d).1.sync.1, 0) else (L, (L.flushE d).1.sync.1, (L.flushE d).1.sync.2))
  else (L, (L.flushE d).1, (L.flushE d).2)
def baseOf (b : Nat) : Nat := (b - 1) / 54 * 54 + 1
def new (frm n : Nat) : Lg := ⟨frm, n, 1, [], 1, 1, 0, []⟩

structure Wf (L : Lg) : Prop where
  n4 : 4 ≤ L.n
  big : L.frm + L.n ≤ 65536
  bs : L.base = baseOf L.start
  st : 1 ≤ L.start ∧ L.start ≤ L.last ∧ L.last ≤ L.tail
  small : L.kept.length ≤ 8000000
  low : L.tail ≤ 9223372036854775807
  hi : L.last < L.tail → L.tail ≤ 4611686018427500000
  res : 0 ≤ L.res ∧ L.res ≤ 4000000
  ok : ∀ p ∈ L.recs, p.2.lsn = p.1 ∧ (rCheck p.2).2 = 0 ∧ (∀ m ∈ p.2.imgs, m.2.lsn ≤ 9223372036854775807) ∧ (L.start : Int) ≤ p.1 ∧ p.1 < (L.tail : Int)

theorem baseOf_le {b : Nat} (h : 1 ≤ b) : 1 ≤ baseOf b ∧ baseOf b ≤ b ∧ b < baseOf b + 54 := by unfold baseOf; omega
theorem wf_new {frm n : Nat} (h1 : 4 ≤ n) (h2 : frm + n ≤ 65536) : (new frm n).Wf where
  n4 := h1
  big := h2
  bs := by simp [new, baseOf]
  st := by simp [new, tail]
  small := by simp [new]
  low := by simp [new, tail]
  hi := by simp [new, tail]
  res := by simp [new]
  ok := by simp [new]
theorem enc_len {r : Rc} (h : (rCheck r).2 = 0) (hl : ∀ m ∈ r.imgs, m.2.lsn ≤ 9223372036854775807) : 18 ≤ (rEnc r).1.length ∧ (rEnc r).1.length ≤ 65543 := by
  have h1 := (rCheck_ok h hl).2.2.2
  have h2 := body_ne r
  rw [rEnc_ok h hl]
  simp only [List.length_append, beN_len]
  omega
theorem room_le {L : Lg} (h : L.Wf) : L.room ≤ 3538836 := by
  have h1 := h.big; have h2 := h.st; have h3 := h.res
  unfold room; omega
theorem Wf.append {L : Lg} (h : L.Wf) (r : Rc) (hl : ∀ m ∈ r.imgs, m.2.lsn ≤ 9223372036854775807) : (L.append r).1.Wf := by
  unfold Lg.append
  cases hc : decide ((rCheck (atR r L.tail)).2 = 0) with
  | false => exact h
  | true =>
    rw [decide_eq_true_eq] at hc
    rw [cond_true]
    cases hr : decide (L.room < ((rEnc (atR r L.tail)).1.length : Int)) with
    | true => exact h
    | false =>
      rw [decide_eq_false_iff_not] at hr
      rw [cond_false]
      have hrl := room_le h
      have hel := enc_len hc (r := atR r L.tail) hl
      have hok := (rCheck_ok hc (r := atR r L.tail) hl)
      have hlsn : ((L.tail : Nat) : Int) ≤ 4611686018427387904 := by
        have := (hok.1.nums ((atR r L.tail).lsn) (by unfold rNums; simp)).2
        exact this
      have h1 := h.st; have h2 := h.bs; have h3 := h.n4; have h4 := h.big; have h5 := h.res
      have hbl := baseOf_le h1.1
      rw [← h2] at hbl
      unfold room at hr
      unfold tail at hr hlsn h1
      generalize hE : (rEnc (atR r L.tail)).1 = E at hr hel
      refine ⟨h.n4, h.big, h.bs, ⟨h1.1, h1.2.1, ?_⟩, ?_, ?_, fun _ => ?_, h.res, ?_⟩
      · show L.last ≤ L.base + (L.kept ++ E).length
        rw [List.length_append]; omega
      · show (L.kept ++ E).length ≤ _
        rw [List.length_append]; omega
      · show L.base + (L.kept ++ E).length ≤ _
        rw [List.length_append]; omega
      · show L.base + (L.kept ++ E).length ≤ _
        rw [List.length_append]; omega
      · intro p hp
        have hnd : ∀ q ∈ setD L.recs (L.tail : Int) (atR r L.tail), q ∈ L.recs ∨ q = ((L.tail : Int), atR r L.tail) := by
          intro q hq
          have hg : getD L.recs ((L.tail : Nat) : Int) = none := by
            rw [getD_none]
            intro hm
            obtain ⟨x, hx, hxe⟩ := List.mem_map.1 hm
            have := (h.ok x hx).2.2.2.2
            omega
          rw [setD_new _ _ _ hg] at hq
          simpa using hq
        show p.2.lsn = p.1 ∧ _ ∧ _ ∧ _ ∧ p.1 < ((L.base + (L.kept ++ E).length : Nat) : Int)
        rcases hnd p hp with hp | rfl
        · obtain ⟨q1, q2, q3, q4, q5⟩ := h.ok p hp
          unfold tail at q5
          refine ⟨q1, q2, q3, q4, ?_⟩
          rw [List.length_append]; omega
        · refine ⟨rfl, hc, hl, ?_, ?_⟩
          · show (L.start : Int) ≤ (L.tail : Int)
            unfold tail; omega
          · show (L.tail : Int) < _
            unfold tail; rw [List.length_append]; omega
theorem Wf.last {L : Lg} (h : L.Wf) : ({ L with last := L.tail } : Lg).Wf :=
  ⟨h.n4, h.big, h.bs, ⟨h.st.1, Nat.le_trans h.st.2.1 h.st.2.2, Nat.le_refl _⟩, h.small, h.low, fun e => absurd e (Nat.lt_irrefl _), h.res, h.ok⟩
/-! ### A sector -/
theorem blk_len (k : Nat) : (blkN k).length = 4 := beN_len _ _
theorem bytes_len (L : Lg) (k : Nat) : (L.bytes k).length ≤ 54 := by unfold bytes; rw [List.length_take]; omega
theorem zeros_len' (n : Nat) : (zeros n).length = n := by simp [zeros]
theorem seal_len {b : Bs} (h : b.length ≤ 54) (k : Nat) : (sealB k b).length = 64 := by
  unfold sealB
  simp only [List.length_append, blk_len, zeros_len', List.length_cons, List.length_nil]
  omega
/-! ### A disk that can not die -/
structure Calm (d : Dk) : Prop where
  wf : d.Wf
  ar : d.armed = 0
  on : d.gone = false
theorem Calm.tick {d : Dk} (h : Calm d) : d.tick = { d with done := IntKind.i64.wrap (d.done + 1) } := by unfold Dk.tick; rw [if_neg (by rw [h.ar]; omega)]
theorem Calm.wr {l : List Bs} (hl : ∀ x ∈ l, x.length = 64) : ∀ {d : Dk}, Calm d → ∀ i, (d.wr i l).2 = 0 ∧ Calm (d.wr i l).1 ∧ (d.wr i l).1.cur.length = d.cur.length := by
  induction l with
  | nil => intro d h i; exact ⟨rfl, h, rfl⟩
  | cons x l ih =>
    intro d h i
    have hp : Calm (d.put i x) := ⟨h.wf.put i (hl x (by simp)), h.ar, h.on⟩
    have ht := hp.tick
    have hc : Calm (d.put i x).tick := ⟨hp.wf.tick, by rw [ht]; exact hp.ar, by rw [ht]; exact hp.on⟩
    rw [Dk.wr]
    simp only [hc.on, cond_false]
    obtain ⟨h1, h2, h3⟩ := ih (fun y hy => hl y (by simp [hy])) hc (i + 1)
    refine ⟨h1, h2, ?_⟩
    rw [h3, (Dk.tick_cur _).1]; simp [Dk.put]
theorem Calm.write {d : Dk} (h : Calm d) {a : Nat} {s : Bs} (hs : s.length % 64 = 0) (ha : a + s.length / 64 ≤ d.cur.length) : (d.write (a : Int) s).2 = 0 ∧ Calm (d.write (a : Int) s).1 ∧ (d.write (a : Int) s).1.cur.length = d.cur.length := by
  have e : d.write (a : Int) s = d.wr a (Dk.chunks (s.length / 64) s) := by
    unfold Dk.write
    have h1 : d.has (a : Int) ((s.length / 64 : Nat) : Int) = true := by unfold Dk.has; rw [decide_eq_true_eq]; omega
    rw [h.on, h1]
    simp [hs]
  rw [e]
  exact Calm.wr (Dk.chunks_64 (by omega)) h a
theorem Calm.sync {d : Dk} (h : Calm d) : d.sync.2 = 0 ∧ Calm d.sync.1 ∧ d.sync.1.cur.length = d.cur.length := by
  obtain ⟨h1, h2, h3, h4, h5⟩ := Dk.sync_calm h.ar h.on
  exact ⟨h1, ⟨h.wf.sync, h5, h4⟩, by rw [h2]⟩
theorem Calm.flushGo {L : Lg} (hn : 0 < L.n) : ∀ (f k : Nat) {d : Dk}, Calm d → L.frm + L.n ≤ d.cur.length → (L.flushGo f k d).2 = 0 ∧ Calm (L.flushGo f k d).1 ∧ (L.flushGo f k d).1.cur.length = d.cur.length
  | 0, k, d, h, _ => ⟨rfl, h, rfl⟩
  | f + 1, k, d, h, hl => by
    rw [Lg.flushGo]
    cases decide (k * 54 + 1 < L.tail) with
    | false => exact ⟨rfl, h, rfl⟩
    | true =>
      have hm := Nat.mod_lt k hn
      obtain ⟨h1, h2, h3⟩ := h.write (a := L.frm + k % L.n) (s := sealB k (L.bytes k)) (by rw [seal_len (bytes_len L k)]) (by rw [seal_len (bytes_len L k)]; omega)
      have hput : L.put k d = d.write ((L.frm + k % L.n : Nat) : Int) (sealB k (L.bytes k)) := rfl
      simp only [hput, h1, decide_true, cond_true]
      obtain ⟨g1, g2, g3⟩ := Calm.flushGo hn f (k + 1) h2 (by rw [h3]; exact hl)
      exact ⟨g1, g2, by rw [g3, h3]⟩
end Lg
end Go.Proofs.YthbngnlmgplijaaGreatDoor

namespace Go.Proofs.YthbngnlmgplijaaGreatDoor
open Go.Al Go.Proofs
set_option linter.unusedVariables false
set_option linter.unusedSimpArgs false
set_option linter.unusedSectionVars false
set_option maxRecDepth 100000

def Held (w : World) (P : Nat → Prop) (cs : Array Value) (r : Rc) : Prop := ∀ w', Fm (fun y => ¬ P y) w w' → RcAs w' cs r
theorem Held.keep {S P : Nat → Prop} {w w1 : World} {cs : Array Value} {r : Rc} (h : Held w P cs r) (hf : Fm S w w1) (hs : ∀ y, P y → ¬ S y) : Held w1 P cs r := fun w' h' => h w' (hf.trans h' (fun x _ hx hp => hs x hp hx) (fun _ _ e => e))
theorem Held.mono {P Q : Nat → Prop} {w : World} {cs : Array Value} {r : Rc} (h : Held w P cs r) (hPQ : ∀ y, P y → Q y) : Held w Q cs r := fun w' h' => h w' (h'.mono (fun x _ hx hp => hx (hPQ x hp)))
theorem RdOk.held {w : World} {b : Nat} {cs : Array Value} {r : Rc} (h : RdOk w b cs (some r)) : Held w (fun y => b ≤ y ∧ y < w.heap.size) cs r := by
  obtain ⟨vs, vm, vi, vp, vt, rfl, h1, h2⟩ := h
  intro w' hf
  refine (h1.keep (S := fun y => y < w.heap.size ∧ y < b) ?_ (fun y e => e.2)).asR h2
  exact ⟨hf.os, hf.tape, hf.output, hf.size, fun y hy hn => hf.block y hy (fun e => e ⟨by omega, hy⟩)⟩
theorem RcAs.atR {w : World} {r : Rc} {vs vm vi vp vt : Value} (h : RcAs w (rcs r vs vm vi vp vt) r) {k : Nat} (hk : k ≤ 9223372036854775807) : RcAs w (rcs (atR r k) vs vm vi vp vt) (atR r k) := by
  obtain ⟨as_, am, ai, ap, at_, h1, h2, h3, h4, h5, h6, h7⟩ := h.ex
  have e : (rcs r vs vm vi vp vt).toList = (rcs r as_ am ai ap at_).toList := by rw [h1]
  simp only [rcs, List.cons.injEq, true_and, and_true] at e
  obtain ⟨rfl, rfl, rfl, rfl, rfl⟩ := e
  refine ⟨⟨_, _, _, _, _, rfl, h2, h3, h4, h5, h6, h7⟩, ?_, h.kin, h.data, h.bulk, h.lsns⟩
  intro n hn
  have hins := h.ins
  unfold rNums at hn hins
  simp only [List.mem_append, List.mem_cons] at hn hins
  have e1 : ((Go.Proofs.YthbngnlmgplijaaGreatDoor.atR r k).prev = r.prev) := rfl
  rcases hn with ((((((rfl | hn) | hn) | hn) | hn) | hn) | hn)
  · show In (k : Int)
    unfold In; omega
  · exact hins n (.inl (.inl (.inl (.inl (.inl (.inr hn))))))
  · exact hins n (.inl (.inl (.inl (.inl (.inr hn)))))
  · exact hins n (.inl (.inl (.inl (.inr hn))))
  · exact hins n (.inl (.inl (.inr hn)))
  · exact hins n (.inl (.inr hn))
  · exact hins n (.inr hn)

end Go.Proofs.YthbngnlmgplijaaGreatDoor

namespace Go.Proofs.YthbngnlmgplijaaGreatDoor
open Go.Al Go.Proofs
set_option linter.unusedVariables false
set_option linter.unusedSimpArgs false
set_option linter.unusedSectionVars false
set_option maxRecDepth 100000

theorem K130 : KeyT Tryz.prog 130 3 28 iv := keyT_int Tryz.underlying130 Tryz.underlying3
def lgc (db mb : Nat) (kv : Value) (L : Lg) : Array Value := #[pv db, iv (L.frm : Int), iv (L.n : Int), iv (L.base : Int), kv, iv (L.start : Int), iv (L.last : Int), iv L.res, .map (some mb)]
theorem Fm.step {X S : Nat → Prop} {w w1 w2 : World} (h : Fm X w w1) (k : Fm S w1 w2) (hs : ∀ y, S y → X y ∨ w.heap.size ≤ y) : Fm X w w2 :=
  h.trans k (fun _ _ e => e) (fun x hx e => by rcases hs x e with q | q; exact q; omega)

/-- A log's block, its bytes, its records. -/
structure LIn (w : World) (X P : Nat → Prop) (lb db mb : Nat) (kv : Value) (M : List (Int × Array Value)) (L : Lg) : Prop where
  st : w.heap[lb]? = some (.cells (lgc db mb kv L) 132)
  kp : KpAt w 5 kv L.kept
  mp : MapAt w mb iv Value.agg M
  keys : M.map (·.1) = L.recs.map (·.1)
  rec_ : ∀ k cs, (k, cs) ∈ M → ∃ r, (k, r) ∈ L.recs ∧ Held w P cs r
  xs : X lb ∧ X mb ∧ (∀ y, kv.ownBlock = some y → X y) ∧ ∀ y, P y → X y
  ps : ¬ P lb ∧ ¬ P mb ∧ ∀ y, kv.ownBlock = some y → ¬ P y
  lt : ∀ y, X y → y < w.heap.size
section
variable {w w' : World} {X P S : Nat → Prop} {lb db mb : Nat} {kv : Value} {M : List (Int × Array Value)} {L L' : Lg}
theorem LIn.keep (h : LIn w X P lb db mb kv M L) (hf : Fm S w w') (hS : ∀ y, X y → ¬ S y) : LIn w' X P lb db mb kv M L :=
  ⟨hf.heap h.st (hS _ h.xs.1), h.kp.keep hf (fun y hy => hS y (h.xs.2.2.1 y hy)), h.mp.keep hf (hS _ h.xs.2.1), h.keys, fun k cs hm => by
    obtain ⟨r, h1, h2⟩ := h.rec_ k cs hm
    exact ⟨r, h1, h2.keep hf (fun y hy => hS y (h.xs.2.2.2 y hy))⟩, h.xs, h.ps, fun y hy => Nat.lt_of_lt_of_le (h.lt y hy) hf.size⟩
theorem LIn.keep0 (h : LIn w X P lb db mb kv M L) (hf : Fm (fun _ => False) w w') : LIn w' X P lb db mb kv M L := h.keep hf (fun _ _ e => e)
theorem LIn.nk (h : LIn w X P lb db mb kv M L) : kv.ownBlock ≠ some lb := h.kp.neT h.st (by decide)
theorem LIn.nm (h : LIn w X P lb db mb kv M L) : mb ≠ lb := by
  rintro rfl
  obtain ⟨es, c, hb, _⟩ := h.mp.ex
  rw [h.st] at hb; cases hb
theorem LIn.km (h : LIn w X P lb db mb kv M L) : kv.ownBlock ≠ some mb := by
  obtain ⟨es, c, hb, _⟩ := h.mp.ex
  exact h.kp.neM hb
theorem LIn.upd (h : LIn w X P lb db mb kv M L) (hst : w'.heap[lb]? = some (.cells (lgc db mb kv L') 132)) (hf : Fm (· = lb) w w') (e1 : L'.kept = L.kept) (e2 : L'.recs = L.recs) : LIn w' X P lb db mb kv M L' :=
  ⟨hst, by rw [e1]; exact h.kp.keep hf (fun y hy e => h.nk (by rw [hy, e])), h.mp.keep hf h.nm, by rw [e2]; exact h.keys, fun k cs hm => by
    obtain ⟨r, h1, h2⟩ := h.rec_ k cs hm
    exact ⟨r, by rw [e2]; exact h1, h2.keep hf (fun y hy e => h.ps.1 (by rw [← e]; exact hy))⟩, h.xs, h.ps, fun y hy => Nat.lt_of_lt_of_le (h.lt y hy) hf.size⟩
theorem LIn.c0 (h : LIn w X P lb db mb kv M L) : w.cell? ⟨lb, 0, none⟩ = some (pv db) := by rw [cell_at h.st]; rfl
theorem LIn.c1 (h : LIn w X P lb db mb kv M L) : w.cell? ⟨lb, 1, none⟩ = some (iv (L.frm : Int)) := by rw [cell_at h.st]; rfl
theorem LIn.c2 (h : LIn w X P lb db mb kv M L) : w.cell? ⟨lb, 2, none⟩ = some (iv (L.n : Int)) := by rw [cell_at h.st]; rfl
theorem LIn.c3 (h : LIn w X P lb db mb kv M L) : w.cell? ⟨lb, 3, none⟩ = some (iv (L.base : Int)) := by rw [cell_at h.st]; rfl
theorem LIn.c4 (h : LIn w X P lb db mb kv M L) : w.cell? ⟨lb, 4, none⟩ = some kv := by rw [cell_at h.st]; rfl
theorem LIn.c5 (h : LIn w X P lb db mb kv M L) : w.cell? ⟨lb, 5, none⟩ = some (iv (L.start : Int)) := by rw [cell_at h.st]; rfl
theorem LIn.c6 (h : LIn w X P lb db mb kv M L) : w.cell? ⟨lb, 6, none⟩ = some (iv (L.last : Int)) := by rw [cell_at h.st]; rfl
theorem LIn.c7 (h : LIn w X P lb db mb kv M L) : w.cell? ⟨lb, 7, none⟩ = some (iv L.res) := by rw [cell_at h.st]; rfl
end
structure LAt (w : World) (X : Nat → Prop) (lb db : Nat) (L : Lg) : Prop where
  wf : L.Wf
  ex : ∃ P mb kv M, LIn w X P lb db mb kv M L
theorem LAt.keep {w w' : World} {X S : Nat → Prop} {lb db : Nat} {L : Lg} (h : LAt w X lb db L) (hf : Fm S w w') (hS : ∀ y, X y → ¬ S y) : LAt w' X lb db L := by
  obtain ⟨P, mb, kv, M, hi⟩ := h.ex
  exact ⟨h.wf, P, mb, kv, M, hi.keep hf hS⟩
theorem LAt.keep0 {w w' : World} {X : Nat → Prop} {lb db : Nat} {L : Lg} (h : LAt w X lb db L) (hf : Fm (fun _ => False) w w') : LAt w' X lb db L := h.keep hf (fun _ _ e => e)
theorem LAt.lt {w : World} {X : Nat → Prop} {lb db : Nat} {L : Lg} (h : LAt w X lb db L) : ∀ y, X y → y < w.heap.size := by
  obtain ⟨P, mb, kv, M, hi⟩ := h.ex
  exact hi.lt
theorem LAt.lb {w : World} {X : Nat → Prop} {lb db : Nat} {L : Lg} (h : LAt w X lb db L) : X lb := by
  obtain ⟨P, mb, kv, M, hi⟩ := h.ex
  exact hi.xs.1

/-! ### Where things stand -/
section
variable {w : World} {X : Nat → Prop} {lb db : Nat} {L : Lg}
theorem wtail_spec (h : LAt w X lb db L) : Cl Tryz.prog 20 [pv lb] w fun v w' => v = iv (L.tail : Int) ∧ Fm (fun _ => False) w w' := by
  obtain ⟨P, mb, kv, M, hi⟩ := h.ex
  have hl := h.wf.low
  refine c20 ?_; unfold T20
  have e1 : IntKind.i64.wrap ((L.base : Int) + (L.kept.length : Int)) = (L.tail : Int) := by
    unfold Lg.tail at hl ⊢
    rw [wrap_id] <;> omega
  simp only [RS0, RS1, RS2, RS3, RS4, RS5, hi.c3, hi.c4, hi.kp.lenV, e1, true_and]
  exact Fm.drew _ _
theorem wflushed_spec (h : LAt w X lb db L) : Cl Tryz.prog 27 [pv lb] w fun v w' => v = iv (L.last : Int) ∧ Fm (fun _ => False) w w' := by
  obtain ⟨P, mb, kv, M, hi⟩ := h.ex
  refine c27 ?_; unfold T27
  simp only [RS0, RS1, RS2, RS3, RS4, RS5, hi.c6]
  exact ⟨(by trivial), Fm.refl _ _⟩
theorem wroom_spec (h : LAt w X lb db L) : Cl Tryz.prog 19 [pv lb] w fun v w' => v = iv L.room ∧ Fm (fun _ => False) w w' := by
  obtain ⟨P, mb, kv, M, hi⟩ := h.ex
  have h1 := h.wf.st; have h2 := h.wf.big; have h3 := h.wf.res; have h4 := h.wf.small; have h5 := h.wf.bs; have h6 := h.wf.n4
  have hb := Lg.baseOf_le h1.1
  rw [← h5] at hb
  have ht : L.tail = L.base + L.kept.length := rfl
  have e1 : IntKind.i64.wrap ((L.n : Int) - 2) = (L.n : Int) - 2 := by rw [wrap_id]; omega
  have e2 : IntKind.i64.wrap (54 * ((L.n : Int) - 2)) = 54 * ((L.n : Int) - 2) := by rw [wrap_id]; omega
  have e3 : IntKind.i64.wrap ((L.tail : Int) - (L.start : Int)) = (L.tail : Int) - (L.start : Int) := by rw [wrap_id]; omega
  have e4 : IntKind.i64.wrap (54 * ((L.n : Int) - 2) - ((L.tail : Int) - (L.start : Int))) = 54 * ((L.n : Int) - 2) - ((L.tail : Int) - (L.start : Int)) := by rw [wrap_id]; omega
  have e5 : IntKind.i64.wrap (54 * ((L.n : Int) - 2) - ((L.tail : Int) - (L.start : Int)) - L.res) = L.room := by unfold Lg.room; rw [wrap_id]; omega
  have hC : ∀ {w' : World}, Fm (fun _ => False) w w' → LIn w' X P lb db mb kv M L := fun hf => hi.keep0 hf
  have hfd := Fm.drew (fun _ => False) w
  refine c19 ?_; unfold T19
  simp only [RS0, RS1, RS2, RS3, RS4, RS5]
  refine ⟨fun w' => LIn w' X P lb db mb kv M L, hC hfd, ?_⟩
  refine ⟨iv (L.n : Int), fun w' h' => ?_, ?_⟩
  · simp only [RS0, RS1, RS2, RS3, RS4, RS5, h'.c2] <;> trivial
  simp only [RS0, RS1, RS2, RS3, RS4, RS5, e1, e2]
  refine ⟨iv (L.start : Int), fun w' h' => ?_, ?_⟩
  · simp only [RS0, RS1, RS2, RS3, RS4, RS5, h'.c5] <;> trivial
  refine ⟨iv L.res, fun w' h' => ?_, ?_⟩
  · simp only [RS0, RS1, RS2, RS3, RS4, RS5, h'.c7] <;> trivial
  refine (wtail_spec (h.keep0 hfd)).mono ?_
  rintro _ w2 ⟨rfl, hf2⟩
  refine ⟨hC (Fmf hfd hf2), ?_⟩
  simp only [RS0, RS1, RS2, RS3, RS4, RS5, e3, e4, e5]
  exact ⟨(by trivial), Fmf hfd hf2⟩
end
end Go.Proofs.YthbngnlmgplijaaGreatDoor

namespace Go.Proofs.YthbngnlmgplijaaGreatDoor
open Go.Al Go.Proofs
set_option linter.unusedVariables false
set_option linter.unusedSimpArgs false
set_option linter.unusedSectionVars false
set_option maxRecDepth 100000

theorem retR {w : World} {g c : Nat} {cs : Array Value} {t : Value} (h : w.heap[g]? = some (.cells cs 28)) (hn : cs.size = 16) {k : KV} (hk : k (.agg cs) w) :
    RetO (resL Tryz.prog (fun j => bif Nat.beq j 2 then pv g else undef) w [(ResultVar.cell 2 28)]) w k := by
  simp only [resL, resV_blk (f := fun j => bif Nat.beq j 2 then pv g else undef) (a := 2) rfl agg52 size52 h hn, RetO, RetV]
  exact hk
set_option maxHeartbeats 1000000 in
theorem own_spec {w : World} {cs : Array Value} {r : Rc} (h : RcAs w cs r) (hc : (rCheck r).2 = 0) : Cl Tryz.prog 96 [.agg cs] w fun v w' => ∃ cs', v = .agg cs' ∧ Held w' (fun y => w.heap.size ≤ y ∧ y < w'.heap.size) cs' r ∧ Fm (fun _ => False) w w' := by
  refine c96 ?_; unfold T96
  refine New_any ?_
  intro x1 w1 hx1 hs1 hw1 hf1
  refine New_any ?_
  intro x2 w2 hx2 hs2 hw2 hf2
  have hF2 := Fmf hf1 hf2
  have hw1' := hf2.heap hw1 (fun e => e)
  simp only [RS0, RS1, RS2, RS3, RS4, RS5, cellsV_blk hw1' h.size]
  refine (renc_spec (h.keep hF2)).mono ?_
  rintro _ w3 ⟨rfl, hf3⟩
  have hF3 := Fmf hF2 hf3
  have hel := Lg.enc_len hc h.lsns
  have hdb := dec_back hc h.lsns []
  rw [List.append_nil] at hdb
  simp only [RS0, RS1, RS2, RS3, RS4, RS5]
  refine (rdec_spec w3 (rEnc r).1 (by omega)).mono ?_
  rintro _ w4 ⟨cs', rfl, hok, hf4⟩
  rw [hdb] at hok ⊢
  have hF4 := Fmf hF3 hf4
  have hheld := hok.held
  have hsz := hok.as.size
  have hone := hok.as.one
  simp only [RS0, RS1, RS2, RS3, RS4, RS5]
  refine New_any ?_
  intro x5 w5 hx5 hs5 hw5 hf5
  have z1 := hF2.size; have z3 := hf3.size; have z4 := hf4.size
  refine St_all hw5 rfl hsz hone ?_
  intro w6 hw6 hs6 hf6
  simp only [RS0, RS1, RS2, RS3, RS4, RS5, cellsV_blk hw6 hsz]
  have hw2' := hf6.heap (hf5.heap (hf4.heap (hf3.heap hw2 (fun e => e)) (fun e => e)) (fun e => e)) (show ¬ x2 = x5 by omega)
  refine St_all hw2' rfl hsz hone ?_
  intro w7 hw7 hs7 hf7
  refine retR (t := undef) (c := 0) hw7 hsz ?_
  have hF7 : Fm (fun _ => False) w w7 := Fm.own (Fm.own (Fmf hF4 hf5) hf6 (by rintro y rfl; omega)) hf7 (by rintro y rfl; omega)
  refine ⟨cs', rfl, ?_, hF7⟩
  have k5 := hheld.keep hf5 (fun _ _ e => e)
  have k6 := k5.keep hf6 (by rintro y hy rfl; omega)
  have k7 := k6.keep hf7 (by rintro y hy rfl; omega)
  refine k7.mono ?_
  rintro y ⟨q1, q2⟩
  omega

set_option maxHeartbeats 4000000 in
theorem wappend_spec {w : World} {X : Nat → Prop} {lb db : Nat} {L : Lg} (h : LAt w X lb db L) {cs : Array Value} {r : Rc} (hr' : ∀ w', Fm X w w' → RcAs w' cs r) :
    Cl Tryz.prog 21 [pv lb, .agg cs] w fun v w' => v = .tuple #[iv (L.append r).2.1, iv (L.append r).2.2] ∧ ∃ X', LAt w' X' lb db (L.append r).1 ∧ (∀ y, X' y → X y ∨ w.heap.size ≤ y) ∧ Fm X w w' := by
  have hr := hr' w (Fm.refl _ _)
  have hwf := h.wf.append r hr.lsns
  have hlow := h.wf.low
  obtain ⟨vs, vm, vi, vp, vt, rfl, _⟩ := hr.ex
  have same : ∀ {w' : World}, Fm (fun _ => False) w w' → ∃ X', LAt w' X' lb db L ∧ (∀ y, X' y → X y ∨ w.heap.size ≤ y) ∧ Fm X w w' := fun hf => ⟨X, h.keep0 hf, fun y hy => .inl hy, hf.mono (fun _ _ e => e.elim)⟩
  unfold Lg.append at hwf ⊢
  refine c21 ?_; unfold T21
  refine New_any ?_
  intro x1 w1 hx1 hs1 hw1 hf1
  simp only [RS0, RS1, RS2, RS3, RS4, RS5]
  refine (wtail_spec (h.keep0 hf1)).mono ?_
  rintro _ w2 ⟨rfl, hf2⟩
  have hF2 := Fmf hf1 hf2
  have hw2 := hf2.heap hw1 (fun e => e)
  try simp only [RS0, RS1, RS2, RS3, RS4, RS5]
  refine St_blk hw2 (by show 0 < 16; decide) rfl ?_
  intro w3 hw3 hs3 hf3
  have hF3 : Fm (fun _ => False) w w3 := Fm.own hF2 hf3 (by rintro y rfl; omega)
  replace hw3 : w3.heap[x1]? = some (.cells (rcs (atR r L.tail) vs vm vi vp vt) 28) := hw3
  have hra := (hr.keep hF3).atR hlow
  simp only [RS0, RS1, RS2, RS3, RS4, RS5, cellsV_blk hw3 (n := 16) rfl]
  refine (renc_spec hra).mono ?_
  rintro _ w4 ⟨rfl, hf4⟩
  have hF4 := Fmf hF3 hf4
  rw [rEnc_err]
  simp only [RS0, RS1, RS2, RS3, RS4, RS5, bne_dec]
  cases hc : decide ((rCheck (atR r L.tail)).2 = 0) with
  | false =>
    simp only [RS0, RS1, RS2, RS3, RS4, RS5, Bool.not_false, cond_false]
    exact ⟨(by trivial), same hF4⟩
  | true =>
  rw [hc] at hwf
  rw [decide_eq_true_eq] at hc
  have hel := Lg.enc_len hc hra.lsns
  simp only [RS0, RS1, RS2, RS3, RS4, RS5, Bool.not_true, cond_true, str_size]
  refine (wroom_spec (h.keep0 hF4)).mono ?_
  rintro _ w5 ⟨rfl, hf5⟩
  have hF5 := Fmf hF4 hf5
  cases hrm : decide (L.room < ((rEnc (atR r L.tail)).1.length : Int)) with
  | true =>
    simp only [RS0, RS1, RS2, RS3, RS4, RS5, hrm, cond_true]
    exact ⟨(by trivial), same hF5⟩
  | false =>
  rw [hrm] at hwf
  simp only [RS0, RS1, RS2, RS3, RS4, RS5, hrm, cond_false]
  obtain ⟨P, mb, kv, M, hi0⟩ := h.ex
  have hi := hi0.keep0 hF5
  have hsm := h.wf.small
  have hw5 := hf5.heap (hf4.heap hw3 (fun e => e)) (fun e => e)
  have hra5 := (hra.keep hf4).keep hf5
  generalize hE : (rEnc (atR r L.tail)).1 = E at hel hwf
  simp only [cond_true, cond_false] at hwf
  have z5 := hF5.size
  simp only [RS0, RS1, RS2, RS3, RS4, RS5, hi.c4]
  obtain ⟨kv', w6, hr6, hk6, hf6, hb6⟩ := hi.kp.app B44 E 123 (by omega)
  refine RunS_ok hr6 ?_
  have hst6 := hf6.heap hi.st hi.nk
  try simp only [RS0, RS1, RS2, RS3, RS4, RS5]
  refine St_blk hst6 (by show 4 < 9; decide) hk6.one ?_
  intro w7 hw7 hs7 hf7
  replace hw7 : w7.heap[lb]? = some (.cells #[pv db, iv (L.frm : Int), iv (L.n : Int), iv (L.base : Int), kv', iv (L.start : Int), iv (L.last : Int), iv L.res, .map (some mb)] 132) := hw7
  have hx1 : x1 ≠ lb := by have := hi0.lt lb hi0.xs.1; omega
  have hkx : kv.ownBlock ≠ some x1 := fun e => by have := hi0.lt x1 (hi0.xs.2.2.1 x1 e); omega
  have hw7x := hf7.heap (hf6.heap hw5 hkx) hx1
  have hfd := Fm.drew (fun _ => False) w7
  have hK7 : KpAt w7 5 kv' (L.kept ++ E) := hk6.keep hf7 (fun y hy e => hk6.neT hst6 (by decide) (by rw [hy, e]))
  have hM7 : MapAt w7 mb iv Value.agg M := (hi.mp.keep hf6 (fun e => hi.km e)).keep hf7 hi.nm
  have hR7 : ∀ {w'}, Fm (fun _ => False) w7 w' → ∀ k cs, (k, cs) ∈ M → ∃ r, (k, r) ∈ L.recs ∧ Held w' P cs r := fun hf k cs hm => by
    obtain ⟨r', q1, q2⟩ := hi.rec_ k cs hm
    exact ⟨r', q1, ((q2.keep hf6 (fun y hy e => hi.ps.2.2 y e hy)).keep hf7 (fun y hy e => hi.ps.1 (e ▸ hy))).keep hf (fun _ _ e => e)⟩
  have hX7 : Fm X w w7 := Fm.step (Fm.step (hF5.mono (fun _ _ e => e.elim)) hf6 (fun y hy => .inl (hi0.xs.2.2.1 y hy))) hf7 (fun y hy => .inl (hy ▸ hi0.xs.1))
  have hra7 := (hr' w7.drew (Fm.step hX7 hfd (fun _ e => e.elim))).atR hlow
  have z7 := hX7.size
  try simp only [RS0, RS1, RS2, RS3, RS4, RS5]
  refine ⟨fun w' => Fm (fun _ => False) w7 w', hfd, ?_⟩
  refine ⟨.map (some mb), fun w' h' => ?_, ?_⟩
  · have : w'.cell? ⟨lb, 8, none⟩ = some (.map (some mb)) := by rw [cell_at (h'.heap hw7 (fun e => e))]; rfl
    simp only [RS0, RS1, RS2, RS3, RS4, RS5, this] <;> trivial
  refine ⟨iv (L.tail : Int), fun w' h' => ?_, ?_⟩
  · have : w'.cell? ⟨x1, 0, none⟩ = some (iv (L.tail : Int)) := by rw [cell_at (h'.heap hw7x (fun e => e))]; rfl
    simp only [RS0, RS1, RS2, RS3, RS4, RS5, this] <;> trivial
  simp only [RS0, RS1, RS2, RS3, RS4, RS5, cellsV_blk (hfd.heap hw7x (fun e => e)) (n := 16) rfl, true_and]
  refine (own_spec hra7 hc).mono ?_
  rintro _ w8 ⟨cs', rfl, hheld, hf8⟩
  have hF8 := Fmf hfd hf8
  refine ⟨hF8, ?_⟩
  have z8 := hf8.size
  have zd : w7.drew.heap.size = w7.heap.size := rfl
  obtain ⟨w9, hr9, hM9, hf9, hz9⟩ := update_run K130 (hM7.keep hF8 (fun e => e)) (L.tail : Int) cs'
  refine RunU_ok hr9 ?_
  have hxm : x1 ≠ mb := by have := hi0.lt mb hi0.xs.2.1; omega
  have hw9x := hf9.heap (hF8.heap hw7x (fun e => e)) hxm
  have hw9 := hf9.heap (hF8.heap hw7 (fun e => e)) hi.nm.symm
  have c9 : w9.cell? ⟨x1, 0, none⟩ = some (iv (L.tail : Int)) := by rw [cell_at hw9x]; rfl
  simp only [RS0, RS1, RS2, RS3, RS4, RS5, c9]
  have hX9 : Fm X w w9 := Fm.step (Fm.step hX7 hF8 (fun _ e => e.elim)) hf9 (fun y hy => .inl (hy ▸ hi0.xs.2.1))
  have z9 := hX9.size
  refine ⟨(by trivial), fun y => X y ∨ (w.heap.size ≤ y ∧ y < w9.heap.size), ⟨hwf, fun y => P y ∨ (w7.heap.size ≤ y ∧ y < w8.heap.size), mb, kv', setD M (L.tail : Int) cs', ?_⟩, fun y hy => hy.imp id (fun e => e.1), hX9⟩
  have hlb := hi0.lt lb hi0.xs.1
  have hmb := hi0.lt mb hi0.xs.2.1
  have hkv : ∀ y, kv'.ownBlock = some y → (kv.ownBlock = some y ∨ (w.heap.size ≤ y ∧ y < w7.heap.size)) := fun y hy => by
    rcases hb6 y hy with e | e
    · exact .inl e
    · have := hK7.lt y hy
      exact .inr ⟨by omega, this⟩
  refine ⟨hw9, (hK7.keep hF8 (fun _ _ e => e)).keep hf9 (fun y hy e => ?_), hM9, ?_, ?_, ⟨.inl hi0.xs.1, .inl hi0.xs.2.1, fun y hy => ?_, fun y hy => ?_⟩, ⟨?_, ?_, ?_⟩, fun y hy => ?_⟩
  · rcases hkv y hy with q | q
    · exact hi.km (by rw [q, e])
    · omega
  · rw [keys_setD, keys_setD, hi.keys]
  · intro k cs hm
    have hnd : getD M (L.tail : Int) = none := by
      rw [getD_none, hi.keys]
      intro hm
      obtain ⟨x, hx, hxe⟩ := List.mem_map.1 hm
      have := (h.wf.ok x hx).2.2.2.2
      omega
    have hnd2 : getD L.recs (L.tail : Int) = none := by
      rw [getD_none, ← hi.keys, ← getD_none]; exact hnd
    rw [setD_new _ _ _ hnd] at hm
    show ∃ r', (k, r') ∈ setD L.recs (L.tail : Int) (atR r L.tail) ∧ _
    rw [setD_new _ _ _ hnd2]
    rcases List.mem_append.1 hm with hm | hm
    · obtain ⟨r', q1, q2⟩ := hR7 hF8 k cs hm
      exact ⟨r', List.mem_append_left _ q1, (q2.mono (fun y hy => .inl hy)).keep hf9 (by
        rintro y (hy | hy) rfl
        · exact hi.ps.2.1 hy
        · omega)⟩
    · simp only [List.mem_singleton, Prod.mk.injEq] at hm
      obtain ⟨rfl, rfl⟩ := hm
      exact ⟨_, List.mem_append_right _ (by simp), (hheld.mono (fun y hy => .inr hy)).keep hf9 (by
        rintro y (hy | hy) rfl
        · exact hi.ps.2.1 hy
        · omega)⟩
  · rcases hkv y hy with q | q
    · exact .inl (hi0.xs.2.2.1 y q)
    · exact .inr ⟨q.1, by omega⟩
  · rcases hy with q | q
    · exact .inl (hi0.xs.2.2.2 y q)
    · exact .inr ⟨by omega, by omega⟩
  · rintro (q | q)
    · exact hi.ps.1 q
    · omega
  · rintro (q | q)
    · exact hi.ps.2.1 q
    · omega
  · rintro y hy (q | q)
    · rcases hkv y hy with e | e
      · exact hi.ps.2.2 y e q
      · have := hi0.lt y (hi0.xs.2.2.2 y q); omega
    · have := hK7.lt y hy
      omega
  · rcases hy with q | q
    · have := hi0.lt y q; omega
    · exact q.2
end Go.Proofs.YthbngnlmgplijaaGreatDoor

namespace Go.Proofs.YthbngnlmgplijaaGreatDoor
open Go.Al Go.Proofs
set_option linter.unusedVariables false
set_option linter.unusedSimpArgs false
set_option linter.unusedSectionVars false
set_option maxRecDepth 100000

theorem fold_min2 (a b : Int) : foldV0 min2V [iv a, iv b] = some (iv (min a b)) := by
  have : min2V (iv a) (iv b) = some (iv (min a b)) := by
    show some (iv (if b < a then b else a)) = _
    congr 2
    split <;> omega
  simp only [foldV0, foldV, this, Option.bind_some]
theorem wname_spec (w : World) {k : Nat} (hk : k + 1 ≤ 9223372036854775807) : Cl Tryz.prog 179 [iv (k : Int)] w fun v w' => v = stv (blkN k) ∧ Fm (fun _ => False) w w' := by
  refine c179 ?_; unfold T179
  have e1 : IntKind.i64.wrap ((k : Int) + 1) = ((k + 1 : Nat) : Int) := by rw [wrap_id] <;> omega
  have e2 := rem_nat (TypeDesc.int IntKind.i64) (n := k + 1) (m := 4294967296) (by decide) hk (b := 4294967296) rfl
  simp only [RS0, RS1, RS2, RS3, RS4, RS5, e1, e2]
  refine (big_spec w (n := (((k + 1) % 4294967296 : Nat) : Int)) (by unfold In; omega) 4).mono ?_
  rintro _ w1 ⟨rfl, hf⟩
  refine ⟨?_, hf⟩
  unfold blkN
  rw [show (4 : Int) = ((4 : Nat) : Int) from rfl, bigB_of (by omega) (by omega)]
theorem wof_spec (w : World) {n : Nat} (h : 1 ≤ n) (hn : n ≤ 9223372036854775807) : Cl Tryz.prog 97 [iv (n : Int)] w fun v w' => v = iv (((n - 1) / 54 : Nat) : Int) ∧ w' = w := by
  refine c97 ?_; unfold T97
  have e1 : IntKind.i64.wrap ((n : Int) - 1) = ((n - 1 : Nat) : Int) := by rw [wrap_id] <;> omega
  have e2 := quo_nat (TypeDesc.int IntKind.i64) (n := n - 1) (m := 54) (by decide) (by omega) (b := 54) rfl
  simp only [RS0, RS1, RS2, RS3, RS4, RS5, e1, e2]
  exact ⟨(by trivial), (by trivial)⟩
theorem wfirst_spec (w : World) {k : Nat} (hk : k * 54 + 1 ≤ 9223372036854775807) : Cl Tryz.prog 98 [iv (k : Int)] w fun v w' => v = iv ((k * 54 + 1 : Nat) : Int) ∧ w' = w := by
  refine c98 ?_; unfold T98
  have e1 : IntKind.i64.wrap ((k : Int) * 54) = ((k * 54 : Nat) : Int) := by rw [wrap_id] <;> omega
  have e2 : IntKind.i64.wrap (((k * 54 : Nat) : Int) + 1) = ((k * 54 + 1 : Nat) : Int) := by rw [wrap_id] <;> omega
  simp only [RS0, RS1, RS2, RS3, RS4, RS5, e1, e2]
  exact ⟨(by trivial), (by trivial)⟩
theorem wseal_spec (w : World) {k : Nat} (hk : k + 1 ≤ 9223372036854775807) {b : Bs} (hb : b.length ≤ 54) : Cl Tryz.prog 100 [iv (k : Int), stv b] w fun v w' => v = stv (sealB k b) ∧ Fm (fun _ => False) w w' := by
  refine c100 ?_; unfold T100
  have e1 : cvI .u8 (iv (b.length : Int)) = some (.int .u8 (((UInt8.ofNat b.length).toNat : Nat) : Int)) := by
    show some (Value.int .u8 (IntKind.u8.wrap (b.length : Int))) = _
    rw [u8_wrap_nat, Nat.mod_eq_of_lt (by omega), u8_ofNat (by omega)]
  have e2 : IntKind.i64.wrap (54 - (b.length : Int)) = ((54 - b.length : Nat) : Int) := by rw [wrap_id] <;> omega
  have h4 := Lg.blk_len k
  have hz := Lg.zeros_len' (54 - b.length)
  simp only [RS0, RS1, RS2, RS3, RS4, RS5, str_size, e1]
  refine RunS_ok (bs38w _ _) ?_
  have hfa := Fm.alloc (fun _ => False) w (.cells #[.int .u8 (((UInt8.ofNat b.length).toNat : Nat) : Int)] 5)
  have hrow : BRow (w.alloc (.cells #[.int .u8 (((UInt8.ofNat b.length).toNat : Nat) : Int)] 5)) w.heap.size 5 [UInt8.ofNat b.length] := alloc_new _ _
  generalize w.alloc (.cells #[.int .u8 (((UInt8.ofNat b.length).toNat : Nat) : Int)] 5) = w1 at hfa hrow
  have hcv := hrow.conv (P := Tryz.prog) B38 (o := 0) (n := 1) (by simp) 1
  refine RunS_ok hcv ?_
  rw [show (([UInt8.ofNat b.length] : Bs).drop 0).take 1 = [UInt8.ofNat b.length] from rfl]
  refine (wname_spec w1 hk).mono ?_
  rintro _ w2 ⟨rfl, hf2⟩
  rw [sadd (by simp; omega)]
  simp only [RS0, RS1, RS2, RS3, RS4, RS5]
  rw [sadd (by simp; omega)]
  simp only [RS0, RS1, RS2, RS3, RS4, RS5, str_size, e2]
  refine (repeat_spec w2 (54 - b.length) (by omega)).mono ?_
  rintro _ w3 ⟨rfl, hf3⟩
  rw [sadd (by simp; omega)]
  simp only [RS0, RS1, RS2, RS3, RS4, RS5]
  rw [sadd (by simp; omega)]
  simp only [RS0, RS1, RS2, RS3, RS4, RS5]
  refine (wname_spec w3 hk).mono ?_
  rintro _ w4 ⟨rfl, hf4⟩
  rw [sadd (by simp; omega)]
  simp only [RS0, RS1, RS2, RS3, RS4, RS5]
  refine ⟨?_, Fmf hfa (Fmf hf2 (Fmf hf3 hf4))⟩
  unfold sealB
  simp only [List.append_assoc]
section
variable {w : World} {X : Nat → Prop} {lb db : Nat} {L : Lg}
theorem wsector_spec (h : LAt w X lb db L) {k : Nat} (hk : k ≤ 9223372036854775807) : Cl Tryz.prog 99 [pv lb, iv (k : Int)] w fun v w' => v = iv ((L.frm + k % L.n : Nat) : Int) ∧ Fm (fun _ => False) w w' := by
  obtain ⟨P, mb, kv, M, hi⟩ := h.ex
  have h1 := h.wf.big; have h2 := h.wf.n4
  have e1 := rem_nat (TypeDesc.int IntKind.i64) (n := k) (m := L.n) (by omega) hk (b := (L.n : Int)) rfl
  have hm := Nat.mod_lt k (show 0 < L.n by omega)
  have e2 : IntKind.i64.wrap ((L.frm : Int) + ((k % L.n : Nat) : Int)) = ((L.frm + k % L.n : Nat) : Int) := by rw [wrap_id] <;> omega
  refine c99 ?_; unfold T99
  simp only [RS0, RS1, RS2, RS3, RS4, RS5, hi.c1, hi.c2, e1, e2, true_and]
  exact Fm.drew _ _
theorem wbytes_spec (h : LAt w X lb db L) {k : Nat} (hk : L.base ≤ k * 54 + 1) (hk2 : k * 54 + 1 ≤ L.tail) : Cl Tryz.prog 101 [pv lb, iv (k : Int)] w fun v w' => v = stv (L.bytes k) ∧ Fm (fun _ => False) w w' := by
  obtain ⟨P, mb, kv, M, hi⟩ := h.ex
  have h1 := h.wf.low; have h2 := h.wf.small
  have ht : L.tail = L.base + L.kept.length := rfl
  have hfd := Fm.drew (fun _ => False) w
  have e1 : IntKind.i64.wrap (((k * 54 + 1 : Nat) : Int) - (L.base : Int)) = ((k * 54 + 1 - L.base : Nat) : Int) := by rw [wrap_id] <;> omega
  have e2 : IntKind.i64.wrap (((k * 54 + 1 - L.base : Nat) : Int) + 54) = ((k * 54 + 1 - L.base + 54 : Nat) : Int) := by rw [wrap_id] <;> omega
  have e3 : min ((k * 54 + 1 - L.base + 54 : Nat) : Int) ((L.kept.length : Nat) : Int) = ((min (k * 54 + 1 - L.base + 54) L.kept.length : Nat) : Int) := by omega
  refine c101 ?_; unfold T101
  refine ⟨fun w' => LIn w' X P lb db mb kv M L, hi.keep0 hfd, ?_⟩
  simp only [RS0, RS1, RS2, RS3, RS4, RS5]
  refine ⟨iv (L.base : Int), fun w' h' => ?_, ?_⟩
  · simp only [RS0, RS1, RS2, RS3, RS4, RS5, h'.c3] <;> trivial
  refine (wfirst_spec w.drew (by omega)).mono ?_
  rintro _ _ ⟨rfl, rfl⟩
  refine ⟨hi.keep0 hfd, ?_⟩
  have hfd2 := Fmf hfd (Fm.drew (fun _ => False) w.drew)
  have hi2 := hi.keep0 hfd2
  obtain ⟨u, q1, q2⟩ := hi2.kp.cut (P := Tryz.prog) B38 (i := k * 54 + 1 - L.base) (j := min (k * 54 + 1 - L.base + 54) L.kept.length) (by omega) (by omega)
  simp only [RS0, RS1, RS2, RS3, RS4, RS5, e1, hi.c4, e2, hi.kp.lenV, fold_min2, e3, q1, true_and]
  have e4 : (L.kept.drop (k * 54 + 1 - L.base)).take (min (k * 54 + 1 - L.base + 54) L.kept.length - (k * 54 + 1 - L.base)) = L.bytes k := by
    unfold Lg.bytes
    rw [List.take_eq_take_iff, List.length_drop]
    omega
  rw [e4] at q2
  exact RunS_ok q2 ⟨rfl, rfl, hfd2⟩
end
end Go.Proofs.YthbngnlmgplijaaGreatDoor

namespace Go.Proofs.YthbngnlmgplijaaGreatDoor
open Go.Al Go.Proofs
set_option linter.unusedVariables false
set_option linter.unusedSimpArgs false
set_option linter.unusedSectionVars false
set_option maxRecDepth 100000

theorem flushGo_end (L : Lg) (f k : Nat) (d : Dk) (h : L.tail ≤ k * 54 + 1) : L.flushGo f k d = (d, 0) := by
  cases f with
  | zero => rfl
  | succ f =>
    rw [Lg.flushGo]
    have : decide (k * 54 + 1 < L.tail) = false := by rw [decide_eq_false_iff_not]; omega
    rw [this]; rfl
def FD (lb db g m : Nat) (y : Nat) : Prop := y = lb ∨ y = db ∨ y = g ∨ y = m
set_option maxHeartbeats 4000000 in
theorem wflush_spec {w : World} {X : Nat → Prop} {lb db g m : Nat} {L : Lg} {d : Dk} (h : LAt w X lb db L) (hd : DAt w db g m d) (hX : ¬ X db ∧ ¬ X g ∧ ¬ X m) (upto : Int) :
    Cl Tryz.prog 26 [pv lb, iv upto] w fun v w' => v = iv (L.flush upto d).2.2 ∧ LAt w' X lb db (L.flush upto d).1 ∧ DAt w' db g m (L.flush upto d).2.1 ∧ Fm (FD lb db g m) w w' := by
  have h1 := h.wf.st; have h2 := h.wf.low; have h3 := h.wf.hi; have h4 := h.wf.bs
  have hb := Lg.baseOf_le h1.1
  rw [← h4] at hb
  have ht : L.tail = L.base + L.kept.length := rfl
  have up0 : ∀ {a b : World}, Fm (fun _ => False) a b → Fm (FD lb db g m) a b := fun hf => hf.mono (fun _ _ e => e.elim)
  have hXD : ∀ y, X y → ¬ (y = db ∨ y = g ∨ y = m) := by
    rintro y hy (rfl | rfl | rfl)
    · exact hX.1 hy
    · exact hX.2.1 hy
    · exact hX.2.2 hy
  have hfl : L.flush upto d = bif decide (upto < (L.last : Int)) || decide (L.last = L.tail) then (L, d, 0) else
      bif decide ((L.flushE d).2 = 0) then (bif decide ((L.flushE d).1.sync.2 = 0) then ({ L with last := L.tail }, (L.flushE d).1.sync.1, 0) else (L, (L.flushE d).1.sync.1, (L.flushE d).1.sync.2))
      else (L, (L.flushE d).1, (L.flushE d).2) := rfl
  refine c26 ?_; unfold T26
  simp only [RS0, RS1, RS2, RS3, RS4, RS5]
  refine (wtail_spec h).mono ?_
  rintro _ w2 ⟨rfl, hf2⟩
  have hL2 := h.keep0 hf2
  have hd2 := hd.keep0 hf2
  obtain ⟨P, mb, kv, M, hi2⟩ := hL2.ex
  cases e1 : decide (upto < (L.last : Int)) with
  | true =>
    rw [e1, Bool.true_or, cond_true] at hfl
    rw [hfl]
    simp only [RS0, RS1, RS2, RS3, RS4, RS5, hi2.c6, e1]
    exact ⟨(by trivial), hL2, hd2, up0 hf2⟩
  | false =>
  have e2 : ((L.last : Int) == (L.tail : Int)) = decide (L.last = L.tail) := by
    rw [beq_dec, decide_eq_decide]; omega
  cases e3 : decide (L.last = L.tail) with
  | true =>
    rw [e1, e3, Bool.false_or, cond_true] at hfl
    rw [hfl]
    simp only [RS0, RS1, RS2, RS3, RS4, RS5, hi2.c6, e1, e2, e3]
    exact ⟨(by trivial), hL2, hd2, up0 hf2⟩
  | false =>
  rw [e1, e3, Bool.false_or, cond_false] at hfl
  rw [decide_eq_false_iff_not] at e3
  have h3' := h3 (by omega)
  have e3' : decide (L.last = L.tail) = false := by simpa using e3
  have hbl : L.base ≤ (L.last - 1) / 54 * 54 + 1 := by rw [h4]; unfold Lg.baseOf; omega
  simp only [RS0, RS1, RS2, RS3, RS4, RS5, hi2.c6, e1, e2, e3']
  refine (wof_spec w2 (n := L.last) (by omega) (by omega)).mono ?_
  rintro _ w2 ⟨rfl, rfl⟩
  refine ⟨fun vs w' => ∃ (k f : Nat) (e : Dk), vs = [iv (k : Int)] ∧ L.base ≤ k * 54 + 1 ∧ L.tail ≤ k * 54 + 1 + f ∧ k * 54 ≤ 4611686018427600000 ∧ LAt w' X lb db L ∧ DAt w' db g m e ∧ Fm (fun y => y = db ∨ y = g ∨ y = m) w w' ∧ L.flushGo f k e = L.flushE d,
    fun vs _ => ((L.tail : Int) - 54 * nth vs 0).toNat, ⟨(L.last - 1) / 54, L.kept.length + 1, d, rfl, ?_, ?_, ?_, hL2, hd2, hf2.mono (fun _ _ e => e.elim), rfl⟩, ?_⟩
  · exact hbl
  · omega
  · omega
  rintro _ w3 kval ⟨k, f, e, hvs, k1, k2, k3, hL3, hd3, hF3, hgo⟩
  cases hvs
  refine (wfirst_spec w3 (k := k) (by omega)).mono ?_
  rintro _ w3 ⟨rfl, rfl⟩
  by_cases hlt : k * 54 + 1 < L.tail
  · have d1 : decide (((k * 54 + 1 : Nat) : Int) < (L.tail : Int)) = true := by rw [decide_eq_true_eq]; omega
    have d2 : decide (k * 54 + 1 < L.tail) = true := by rw [decide_eq_true_eq]; exact hlt
    obtain ⟨f', rfl⟩ : ∃ f', f = f' + 1 := ⟨f - 1, by omega⟩
    rw [Lg.flushGo, d2, cond_true] at hgo
    simp only [RS0, RS1, RS2, RS3, RS4, RS5, d1]
    have hfd := Fm.drew (fun _ => False) w3
    refine ⟨fun w' => Fm (fun _ => False) w3 w', hfd, ?_⟩
    refine ⟨pv db, fun w' h' => ?_, ?_⟩
    · obtain ⟨P', mb', kv', M', hi'⟩ := (hL3.keep0 h').ex
      simp only [RS0, RS1, RS2, RS3, RS4, RS5, hi'.c0] <;> trivial
    refine (wsector_spec (hL3.keep0 hfd) (k := k) (by omega)).mono ?_
    rintro _ w4 ⟨rfl, hf4⟩
    have hF4 := Fmf hfd hf4
    refine ⟨hF4, ?_⟩
    refine (wbytes_spec (hL3.keep0 hF4) k1 (by omega)).mono ?_
    rintro _ w5 ⟨rfl, hf5⟩
    have hF5 := Fmf hF4 hf5
    refine ⟨hF5, ?_⟩
    refine (wseal_spec w5 (k := k) (by omega) (Lg.bytes_len L k)).mono ?_
    rintro _ w6 ⟨rfl, hf6⟩
    have hF6 := Fmf hF5 hf6
    refine ⟨hF6, ?_⟩
    refine (dwrite_spec (hd3.keep0 hF6) ((L.frm + k % L.n : Nat) : Int) (sealB k (L.bytes k)) (by rw [Lg.seal_len (Lg.bytes_len L k)]; omega)).mono ?_
    rintro _ w7 ⟨rfl, hd7, hf7⟩
    have hL7 := (hL3.keep0 hF6).keep hf7 hXD
    have hF7 : Fm (fun y => y = db ∨ y = g ∨ y = m) w w7 := (hF3.trans (hF6.mono (fun _ _ e => e.elim)) (fun _ _ e => e) (fun _ _ e => e)).trans hf7 (fun _ _ e => e) (fun _ _ e => e)
    have hput : e.write ((L.frm + k % L.n : Nat) : Int) (sealB k (L.bytes k)) = L.put k e := rfl
    rw [hput] at hd7 ⊢
    simp only [RS0, RS1, RS2, RS3, RS4, RS5, bne_dec]
    cases hz : decide ((L.put k e).2 = 0) with
    | false =>
      rw [hz, cond_false] at hgo
      have hz2 : decide ((L.flushE d).2 = 0) = false := by rw [← hgo]; exact hz
      rw [hz2, cond_false, ← hgo] at hfl
      rw [hfl]
      simp only [RS0, RS1, RS2, RS3, RS4, RS5, Bool.not_false]
      exact ⟨(by trivial), hL7, hd7, hF7.mono (fun _ _ e => .inr e)⟩
    | true =>
      rw [hz, cond_true] at hgo
      have e5 : IntKind.i64.wrap ((k : Int) + 1) = ((k + 1 : Nat) : Int) := by rw [wrap_id] <;> omega
      simp only [RS0, RS1, RS2, RS3, RS4, RS5, Bool.not_true, e5]
      exact ⟨⟨k + 1, f', (L.put k e).1, rfl, by omega, by omega, by omega, hL7, hd7, hF7, hgo⟩, by simp only [nth_0]; omega⟩
  · have d1 : decide (((k * 54 + 1 : Nat) : Int) < (L.tail : Int)) = false := by rw [decide_eq_false_iff_not]; omega
    rw [flushGo_end L f k e (by omega)] at hgo
    rw [← hgo] at hfl
    simp only [decide_true, cond_true] at hfl
    obtain ⟨P3, mb3, kv3, M3, hi3⟩ := hL3.ex
    simp only [RS0, RS1, RS2, RS3, RS4, RS5, d1, hi3.c0]
    refine (dsync_spec hd3).mono ?_
    rintro _ w4 ⟨rfl, hd4, hf4⟩
    have hL4 := hL3.keep hf4 hXD
    have hF4 := hF3.trans hf4 (fun _ _ e => e) (fun _ _ e => e)
    simp only [RS0, RS1, RS2, RS3, RS4, RS5, bne_dec]
    cases hz : decide (e.sync.2 = 0) with
    | false =>
      rw [hz, cond_false] at hfl
      rw [hfl]
      simp only [RS0, RS1, RS2, RS3, RS4, RS5, Bool.not_false]
      exact ⟨(by trivial), hL4, hd4, hF4.mono (fun _ _ e => .inr e)⟩
    | true =>
      rw [hz, cond_true] at hfl
      rw [hfl]
      obtain ⟨P4, mb4, kv4, M4, hi4⟩ := hL4.ex
      simp only [RS0, RS1, RS2, RS3, RS4, RS5, Bool.not_true]
      refine St_blk hi4.st (by show 6 < 9; decide) rfl ?_
      intro w5 hw5 hs5 hf5
      have hlb := hL4.lb
      refine ⟨(by trivial), ⟨h.wf.last, P4, mb4, kv4, M4, hi4.upd hw5 hf5 rfl rfl⟩, hd4.keep hf5 (fun e => hX.1 (by rw [e]; exact hlb)) (fun e => hX.2.1 (by rw [e]; exact hlb)) (fun e => hX.2.2 (by rw [e]; exact hlb)), (hF4.mono (fun _ _ e => .inr e)).trans hf5 (fun _ _ e => e) (fun _ _ e => .inl e)⟩
end Go.Proofs.YthbngnlmgplijaaGreatDoor

namespace Go.Proofs.YthbngnlmgplijaaGreatDoor
open Go.Al Go.Proofs
set_option linter.unusedVariables false
set_option linter.unusedSimpArgs false
set_option linter.unusedSectionVars false
set_option maxRecDepth 100000

theorem hpre_spec (w : World) {s t : Bs} (h : t.length ≤ s.length) (hs : s.length ≤ 9223372036854775807) : Cl Tryz.prog 174 [stv s, stv t] w fun v w' => v = .bool (decide (s.take t.length = t)) ∧ w' = w := by
  refine c174 ?_; unfold T174
  refine (?_ : Cl Tryz.prog 210 [stv s, stv t] w fun v w' => v = .bool (decide (s.take t.length = t)) ∧ w' = w).mono (fun _ _ e => e)
  refine c210 ?_; unfold T210
  have d1 : decide ((t.length : Int) ≤ (s.length : Int)) = true := by rw [decide_eq_true_eq]; omega
  simp only [RS0, RS1, RS2, RS3, RS4, RS5, str_size, d1, slS_hi h, str_inj]
  exact ⟨(by trivial), (by trivial)⟩
/-! ### Sectors, one behind the other -/
section
variable {w : World} {X P : Nat → Prop} {lb db mb : Nat} {kv : Value} {M : List (Int × Array Value)} {L : Lg}
end
end Go.Proofs.YthbngnlmgplijaaGreatDoor

namespace Go.Proofs.YthbngnlmgplijaaGreatDoor
open Go.Al Go.Proofs
set_option linter.unusedVariables false
set_option linter.unusedSimpArgs false
set_option linter.unusedSectionVars false
set_option maxRecDepth 100000

def Dm (db g m : Nat) (y : Nat) : Prop := y = db ∨ y = g ∨ y = m
section
variable {w w' w2 : World} {q : Nat} {X : Nat → Prop} {lb db g m : Nat} {L : Lg} {e e' : Dk} {W : List Bs}
end
end Go.Proofs.YthbngnlmgplijaaGreatDoor

namespace Go.Proofs.YthbngnlmgplijaaGreatDoor
open Go.Al Go.Proofs
set_option linter.unusedVariables false
set_option linter.unusedSimpArgs false
set_option linter.unusedSectionVars false
set_option maxRecDepth 100000

def fitsD (d : Dk) (frm n : Int) : Bool := decide (4 ≤ n) && (decide (0 ≤ frm) && (decide (n ≤ d.cur.length) && decide (frm ≤ d.cur.length - n)))
theorem wfits_spec {w : World} {b g m : Nat} {d : Dk} (h : DAt w b g m d) (frm n : Int) : Cl Tryz.prog 93 [pv b, iv frm, iv n] w fun v w' => v = .bool (fitsD d frm n) ∧ w' = w := by
  have hn := h.wf.n1
  unfold fitsD
  refine c93 ?_; unfold T93
  cases e1 : decide (4 ≤ n) with
  | false =>
    simp only [RS0, RS1, RS2, RS3, RS4, RS5, e1, Bool.false_and]
    exact ⟨(by trivial), (by trivial)⟩
  | true =>
  cases e2 : decide (0 ≤ frm) with
  | false =>
    simp only [RS0, RS1, RS2, RS3, RS4, RS5, e1, e2, Bool.false_and, Bool.and_false]
    exact ⟨(by trivial), (by trivial)⟩
  | true =>
  simp only [RS0, RS1, RS2, RS3, RS4, RS5, e1, e2]
  refine (dsize_spec h).mono ?_
  rintro _ w ⟨rfl, rfl⟩
  cases e3 : decide (n ≤ (d.cur.length : Int)) with
  | false =>
    simp only [RS0, RS1, RS2, RS3, RS4, RS5, e3, Bool.false_and, Bool.and_false]
    exact ⟨(by trivial), (by trivial)⟩
  | true =>
  simp only [RS0, RS1, RS2, RS3, RS4, RS5, e3]
  refine (dsize_spec h).mono ?_
  rintro _ w ⟨rfl, rfl⟩
  rw [decide_eq_true_eq] at e1 e3
  have e4 : IntKind.i64.wrap ((d.cur.length : Int) - n) = (d.cur.length : Int) - n := by rw [wrap_id]; omega
  simp only [RS0, RS1, RS2, RS3, RS4, RS5, e4, Bool.true_and]
  exact ⟨(by trivial), (by trivial)⟩
def fmtE (d : Dk) (frm n : Int) : Dk × Int :=
  bif fitsD d frm n then (bif decide ((d.write frm (zeros (n * 64).toNat)).2 = 0) then (d.write frm (zeros (n * 64).toNat)).1.sync else d.write frm (zeros (n * 64).toNat)) else (d, 1)
theorem bld132 (db mb : Nat) (frm n a b c : Int) (w : World) : (Instr.build 132 #[(0, pv db), (1, iv frm), (2, iv n), (3, iv a), (5, iv b), (6, iv c), (8, .map (some mb))]).run Tryz.prog w = .ok (.agg #[pv db, iv frm, iv n, iv a, .slice none 0 0, iv b, iv c, iv 0, .map (some mb)]) w := by kernel_rfl
set_option maxHeartbeats 2000000 in
theorem wformat_spec {w : World} {b g m : Nat} {d : Dk} (h : DAt w b g m d) (frm n : Int) : Cl Tryz.prog 18 [pv b, iv frm, iv n] w fun v w' => ∃ p, v = .tuple #[p, iv (fmtE d frm n).2] ∧ DAt w' b g m (fmtE d frm n).1 ∧ Fm (Dm b g m) w w' ∧
    ((fmtE d frm n).2 ≠ 0 → p = .pointer none) ∧ ((fmtE d frm n).2 = 0 → ∃ lb X, p = pv lb ∧ LAt w' X lb b (Lg.new frm.toNat n.toNat) ∧ ∀ y, X y → w.heap.size ≤ y) := by
  have hn := h.wf.n1
  have hlt := h.lt
  have up : ∀ {w1 : World}, Fm (fun _ => False) w w1 → Fm (Dm b g m) w w1 := fun hf => hf.mono (fun _ _ e => e.elim)
  unfold fmtE
  refine c18 ?_; unfold T18
  refine (wfits_spec h frm n).mono ?_
  rintro _ w ⟨rfl, rfl⟩
  cases hfi : fitsD d frm n with
  | false =>
    simp only [RS0, RS1, RS2, RS3, RS4, RS5, cond_false]
    exact ⟨_, (by trivial), h, Fm.refl _ _, fun _ => rfl, fun e => absurd e (by decide)⟩
  | true =>
  have hfi' := hfi
  unfold fitsD at hfi'
  simp only [Bool.and_eq_true, decide_eq_true_eq] at hfi'
  obtain ⟨f1, f2, f3, f4⟩ := hfi'
  obtain ⟨j, rfl⟩ := Int.eq_ofNat_of_zero_le (show 0 ≤ n by omega)
  obtain ⟨i, rfl⟩ := Int.eq_ofNat_of_zero_le f2
  have e1 : IntKind.i64.wrap ((j : Int) * 64) = ((j * 64 : Nat) : Int) := by rw [wrap_id] <;> omega
  have e2 : ((j : Int) * 64).toNat = j * 64 := by omega
  rw [e2]
  simp only [RS0, RS1, RS2, RS3, RS4, RS5, e1, cond_true]
  refine (repeat_spec w (j * 64) (by omega)).mono ?_
  rintro _ w1 ⟨rfl, hf1⟩
  refine (dwrite_spec (h.keep0 hf1) (i : Int) (zeros (j * 64)) (by rw [Lg.zeros_len']; omega)).mono ?_
  rintro _ w2 ⟨rfl, hd2, hf2⟩
  have hF2 := (up hf1).trans hf2 (fun _ _ e => e) (fun _ _ e => e)
  generalize d.write (i : Int) (zeros (j * 64)) = e at hd2
  simp only [RS0, RS1, RS2, RS3, RS4, RS5, bne_dec]
  cases hz : decide (e.2 = 0) with
  | false =>
    rw [decide_eq_false_iff_not] at hz
    simp only [RS0, RS1, RS2, RS3, RS4, RS5, cond_false, Bool.not_false]
    exact ⟨_, (by trivial), hd2, hF2, fun _ => rfl, fun e => absurd e hz⟩
  | true =>
  simp only [RS0, RS1, RS2, RS3, RS4, RS5, cond_true, Bool.not_true]
  refine (dsync_spec hd2).mono ?_
  rintro _ w3 ⟨rfl, hd3, hf3⟩
  have hF3 := hF2.trans hf3 (fun _ _ e => e) (fun _ _ e => e)
  generalize e.1.sync = s at hd3
  simp only [RS0, RS1, RS2, RS3, RS4, RS5, bne_dec]
  cases hz2 : decide (s.2 = 0) with
  | false =>
    rw [decide_eq_false_iff_not] at hz2
    simp only [RS0, RS1, RS2, RS3, RS4, RS5, Bool.not_false]
    exact ⟨_, (by trivial), hd3, hF3, fun _ => rfl, fun e => absurd e hz2⟩
  | true =>
  rw [decide_eq_true_eq] at hz2
  simp only [RS0, RS1, RS2, RS3, RS4, RS5, Bool.not_true]
  refine RunS_ok (makeMap_run _ _) ?_
  have hM := MapAt.empty w3 iv Value.agg
  have hfm := Fm.alloc (fun _ => False) w3 (.map #[] 0)
  have hms := alloc_size w3 (.map #[] 0)
  generalize w3.alloc (.map #[] 0) = w4 at hM hfm hms
  refine RunS_ok (bld132 b w3.heap.size _ _ _ _ _ _) ?_
  refine New_any ?_
  intro lb w5 hlb hs5 hw5 hf5
  have hF5 := Fmf hfm hf5
  have z3 := hF3.size
  refine ⟨_, by rw [hz2], hd3.keep0 hF5, hF3.trans hF5 (fun _ _ e => e) (fun _ _ e => e.elim), fun e => absurd hz2 e, fun _ => ⟨lb, fun y => y = lb ∨ y = w3.heap.size, rfl, ⟨Lg.wf_new (by omega) (by omega), fun _ => False, w3.heap.size, .slice none 0 0, [], hw5, KpAt.nil _ _, hM.keep hf5 (fun e => e), rfl, (fun k cs hm => by cases hm), ⟨.inl rfl, .inr rfl, (fun y hy => by cases hy), fun y hy => hy.elim⟩, ⟨(fun e => e), (fun e => e), (fun y hy e => e)⟩, ?_⟩, ?_⟩⟩
  · rintro y (rfl | rfl) <;> omega
  · rintro y (rfl | rfl) <;> omega
end Go.Proofs.YthbngnlmgplijaaGreatDoor

namespace Go.Proofs.YthbngnlmgplijaaGreatDoor
open Go.Al Go.Proofs
set_option linter.unusedVariables false
set_option linter.unusedSimpArgs false
set_option linter.unusedSectionVars false
set_option maxRecDepth 100000

theorem cells_sl {w : World} {v : Value} {n sz : Nat} {xs : List Value} (h : CellsAt w v n sz xs) : ∃ a n c, v = .slice a n c := by
  obtain ⟨⟨a, c, rfl, _⟩, _⟩ := h
  exact ⟨_, _, _, rfl⟩
end Go.Proofs.YthbngnlmgplijaaGreatDoor

namespace Go.Proofs.YthbngnlmgplijaaGreatDoor
open Go.Al Go.Proofs
set_option linter.unusedVariables false
set_option linter.unusedSimpArgs false
set_option linter.unusedSectionVars false
set_option maxRecDepth 100000

section
variable {w w1 w2 : World} {X P Q : Nat → Prop} {lb db mb g m : Nat} {M : List (Int × Array Value)} {L0 : Lg} {d : Dk} {av : Value} {all : Bs} {ov : Value} {C : List (Array Value)} {out : List Rc}
end
end Go.Proofs.YthbngnlmgplijaaGreatDoor

namespace Go.Proofs.YthbngnlmgplijaaGreatDoor
open Go.Al Go.Proofs
set_option linter.unusedVariables false
set_option linter.unusedSimpArgs false
set_option linter.unusedSectionVars false
set_option maxRecDepth 100000

end Go.Proofs.YthbngnlmgplijaaGreatDoor

namespace Go.Proofs.YthbngnlmgplijaaGreatDoor
open Go.Al Go.Proofs
set_option linter.unusedVariables false
set_option linter.unusedSimpArgs false
set_option linter.unusedSectionVars false
set_option maxRecDepth 100000

end Go.Proofs.YthbngnlmgplijaaGreatDoor

namespace Go.Proofs.YthbngnlmgplijaaGreatDoor
open Go.Al Go.Proofs
set_option linter.unusedVariables false
set_option linter.unusedSimpArgs false
set_option linter.unusedSectionVars false
set_option maxRecDepth 100000

theorem calm_mk0 {n : Nat} (h : n ≤ 65536) : Lg.Calm (Dk.mk0 n) := ⟨Dk.wf_mk0 h, rfl, rfl⟩
theorem mk0_len (n : Nat) : (Dk.mk0 n).cur.length = n := by simp [Dk.mk0]
theorem calm_fmt {d : Dk} (h : Lg.Calm d) {i j : Nat} (hj : 4 ≤ j) (hij : i + j ≤ d.cur.length) : (fmtE d (i : Int) (j : Int)).2 = 0 ∧ Lg.Calm (fmtE d (i : Int) (j : Int)).1 ∧ (fmtE d (i : Int) (j : Int)).1.cur.length = d.cur.length := by
  have hf : fitsD d (i : Int) (j : Int) = true := by
    unfold fitsD
    simp only [Bool.and_eq_true, decide_eq_true_eq]
    omega
  have e1 : ((j : Int) * 64).toNat = j * 64 := by omega
  unfold fmtE
  rw [hf, e1, cond_true]
  obtain ⟨h1, h2, h3⟩ := h.write (a := i) (s := zeros (j * 64)) (by rw [Lg.zeros_len']; omega) (by rw [Lg.zeros_len']; omega)
  obtain ⟨g1, g2, g3⟩ := h2.sync
  simp only [h1, decide_true, cond_true]
  exact ⟨g1, g2, by rw [g3, h3]⟩
/-! ### Two small records -/
theorem encI_small {n : Nat} (h : n ≤ 127) : encI n = [UInt8.ofNat n] := by rw [encI_nat, encN_small h]
end Go.Proofs.YthbngnlmgplijaaGreatDoor

namespace Go.Proofs.YthbngnlmgplijaaGreatDoor
open Go.Al Go.Proofs
set_option linter.unusedVariables false
set_option linter.unusedSimpArgs false
set_option linter.unusedSectionVars false
set_option maxRecDepth 100000

theorem bne_refl0 : ((0 : Int) != 0) = false := rfl

end Go.Proofs.YthbngnlmgplijaaGreatDoor

namespace Go.Proofs.YthbngnlmgplijaaGreatDoor
open Go.Al Go.Proofs
set_option linter.unusedVariables false
set_option maxRecDepth 100000
def vI : Vw Tryz.prog 3 Int := vInt .i64 Tryz.underlying3 (by kernel_rfl)
def vS : Vw Tryz.prog 9 Bs := vStr Tryz.underlying9 (by kernel_rfl)
def vSs : Vw Tryz.prog 59 (List Bs) := vSlice Tryz.underlying59 (by kernel_rfl) vS
abbrev PgT := Int × Int × Int × Int × Bs × List Bs × Unit
def vPage : Vw Tryz.prog 61 PgT := vStruct Tryz.underlying61 (fvCons rfl 1 (by kernel_rfl) vI (fvCons rfl 1 (by kernel_rfl) vI (fvCons rfl 1 (by kernel_rfl) vI (fvCons rfl 1 (by kernel_rfl) vI (fvCons rfl 1 (by kernel_rfl) vS (fvCons rfl 1 (by kernel_rfl) vSs fvNil)))))) (by kernel_rfl)
def pgOf (x : PgT) : Pg := ⟨x.1, x.2.1, x.2.2.1, x.2.2.2.1, x.2.2.2.2.1, x.2.2.2.2.2.1⟩
/-- A page that came in. -/
structure PgIn (w : World) (cs : Array Value) (p : Pg) : Prop where
  isA : PgAs w cs p
  many : p.items.length * 16 ≤ 140737488351232
  small : (∀ x ∈ p.items, x.length ≤ 140737488351232) ∧ p.high.length ≤ 140737488351232
theorem page_of {w : World} {cs : Array Value} {x : PgT} (h : vPage.rel w cs.toList x) : PgIn w cs (pgOf x) := by
  obtain ⟨lsn, kind, level, right, high, items, u⟩ := x
  obtain ⟨c0, r0, he, ⟨rfl, h0⟩, c1, r1, rfl, ⟨rfl, h1⟩, c2, r2, rfl, ⟨rfl, h2⟩, c3, r3, rfl, ⟨rfl, h3⟩, c4, r4, rfl, ⟨rfl, h4⟩, c5, r5, rfl, ⟨im, rfl, him⟩, h6⟩ := h
  cases h6
  simp only at h0 h1 h2 h3 h4 him
  have hc := him.cells (f := stv) (by kernel_rfl) (fun cs x hx => hx.1)
  have hsm := him.small
  rw [show Tryz.prog.bytesOf 9 = 16 by kernel_rfl] at hsm
  unfold reachBytes at hsm h4
  have hone : im.oneCell' = true := by obtain ⟨⟨a, cap, rfl, _⟩, _⟩ := him; rfl
  have hit : ∀ x ∈ items, x.length ≤ 140737488351232 := by
    intro x hx
    obtain ⟨i, hi⟩ := List.getElem?_of_mem hx
    obtain ⟨ad, cs', _, hr, _⟩ := him.at hi (c := 1) (by kernel_rfl) .i64
    have := hr.2
    unfold reachBytes at this
    omega
  have hcs : cs = pcs (pgOf (lsn, kind, level, right, high, items, u)) im := by
    apply Array.ext'
    rw [he]; rfl
  refine ⟨⟨⟨im, hcs, hone, hc⟩, fun x hx => by have := hit x hx; omega, i64_of_wf h0, i64_of_wf h1, i64_of_wf h2, i64_of_wf h3, by show high.length ≤ _; omega, by show items.length * 16 ≤ _; omega⟩, by show items.length * 16 ≤ _; omega, hit, by show high.length ≤ _; omega⟩
end Go.Proofs.YthbngnlmgplijaaGreatDoor

namespace Go.Proofs.YthbngnlmgplijaaGreatDoor
open Go.Al Go.Proofs
set_option linter.unusedVariables false
set_option linter.unusedSimpArgs false
set_option linter.unusedSectionVars false
set_option maxRecDepth 100000
def vInts : Vw Tryz.prog 23 (List Int) := vSlice Tryz.underlying23 (by kernel_rfl) vI
end Go.Proofs.YthbngnlmgplijaaGreatDoor

namespace Go.Proofs.YthbngnlmgplijaaGreatDoor
open Go.Al Go.Proofs
set_option linter.unusedVariables false
set_option linter.unusedSimpArgs false
set_option linter.unusedSectionVars false
set_option maxRecDepth 100000

/-! ### Room -/
end Go.Proofs.YthbngnlmgplijaaGreatDoor

namespace Go.Proofs.YthbngnlmgplijaaGreatDoor
open Go.Al Go.Proofs
set_option linter.unusedVariables false
set_option linter.unusedSimpArgs false
set_option linter.unusedSectionVars false
set_option maxRecDepth 100000

end Go.Proofs.YthbngnlmgplijaaGreatDoor

namespace Go.Proofs.YthbngnlmgplijaaGreatDoor
open Go.Al Go.Proofs
set_option linter.unusedVariables false
set_option linter.unusedSimpArgs false
set_option linter.unusedSectionVars false
set_option maxRecDepth 100000

/-- A number's place in a ring. -/
def modN (n : Nat) (a : Int) : Nat := ((a.tmod n + n).tmod n).toNat
theorem rem_i64 (d : TypeDesc) {a b : Int} (h0 : 0 < b) (h1 : b ≤ 9223372036854775807) : binV d .rem (iv a) (iv b) = some (iv (a.tmod b)) := by
  have h2 := Int.lt_tmod_of_pos a h0
  have h3 := Int.tmod_lt_of_pos a h0
  rw [binV_rem, if_neg (by omega)]
theorem modN_lt {n : Nat} (h : 1 ≤ n) (a : Int) : modN n a < n ∧ (a.tmod n + n).tmod n = (modN n a : Int) ∧ -(n : Int) < a.tmod n ∧ a.tmod n < n := by
  unfold modN
  have h0 : (0 : Int) < (n : Int) := by omega
  have h1 := Int.lt_tmod_of_pos a h0
  have h2 := Int.tmod_lt_of_pos a h0
  have h3 := Int.tmod_lt_of_pos (a.tmod n + n) h0
  have h4 : 0 ≤ (a.tmod n + n).tmod n := Int.tmod_nonneg _ (by omega)
  omega
theorem mod3 (d : TypeDesc) {n : Nat} (h : 1 ≤ n) (hn : n ≤ 4611686018427387904) (a : Int) : binV d .rem (iv a) (iv (n : Int)) = some (iv (a.tmod n)) ∧ IntKind.i64.wrap (a.tmod n + n) = a.tmod n + n ∧ binV d .rem (iv (a.tmod n + n)) (iv (n : Int)) = some (iv (modN n a : Int)) ∧ modN n a < n := by
  obtain ⟨h1, h2, h3, h4⟩ := modN_lt h a
  refine ⟨rem_i64 d (by omega) (by omega), by rw [wrap_id]; omega, ?_, h1⟩
  rw [rem_i64 d (by omega) (by omega), h2]
theorem z28 (w : World) : (zeroValue 28).run Tryz.prog w = .ok (.agg (rcs rc0 nl nl nl nl nl)) w := by kernel_rfl
/-! ### Giving up -/
theorem len_erase {γ : Type} {l : List γ} {i : Nat} {p : γ} (hi : l[i]? = some p) : (l.eraseIdx i).length + 1 = l.length := by
  have h := (List.getElem?_eq_some_iff.1 hi).1
  rw [List.length_eraseIdx, if_pos h]; omega
theorem nodup_erase {γ : Type} {l : List γ} (h : l.Nodup) (i : Nat) : (l.eraseIdx i).Nodup := h.sublist (List.eraseIdx_sublist _ _)
end Go.Proofs.YthbngnlmgplijaaGreatDoor

namespace Go.Proofs.YthbngnlmgplijaaGreatDoor
open Go.Al Go.Proofs
set_option linter.unusedVariables false
set_option linter.unusedSimpArgs false
set_option linter.unusedSectionVars false
set_option maxRecDepth 100000

structure Pf where
  pg : Pg
  num : Int
  chg : Bool
def pf0 : Pf := ⟨pg0, -1, false⟩
structure Pl where
  frm : Nat
  pages : Nat
  fr : List Pf
  owed : List (Int × Int)
structure PS where
  p : Pl
  l : Lg
  d : Dk

namespace Pl
def hold (p : Pl) (n : Int) : Option Nat := p.fr.findIdx? (fun f => decide (f.num = n))
def get (p : Pl) (i : Nat) : Pf := p.fr.getD i pf0
def stays (p : Pl) (n : Int) : Bool := match p.hold n with
  | some i => (p.get i).chg
  | none => false
def synced (p : Pl) : Pl := { p with owed := p.owed.filter (fun x => p.stays x.1) }
def known (p : Pl) (n : Int) : Int := bif decide (n < 0) || decide ((p.pages : Int) ≤ n) then 4 else 0
def lay (p : Pl) (i : Nat) (f : Pf) : Pl := { p with fr := p.fr.set i f }
end Pl
namespace PS
def putW (s : PS) (i : Nat) : Dk × Int := s.d.write ((s.p.frm : Int) + 8 * (s.p.get i).num) (pEnc (s.p.get i).pg).1
def put (s : PS) (i : Nat) : PS × Int :=
  bif decide ((pEnc (s.p.get i).pg).2 = 0) then
    (bif decide ((s.putW i).2 = 0) then (⟨s.p.lay i { s.p.get i with chg := false }, s.l, (s.putW i).1⟩, 0) else (⟨s.p, s.l, (s.putW i).1⟩, (s.putW i).2))
  else (s, (pEnc (s.p.get i).pg).2)
def flu (s : PS) (i : Nat) : Lg × Dk × Int := s.l.flush (s.p.get i).pg.lsn s.d
def write1 (s : PS) (i : Nat) : PS × Int :=
  bif decide ((s.l.last : Int) ≤ (s.p.get i).pg.lsn) then
    (bif decide ((s.flu i).2.2 = 0) then (PS.mk s.p.synced (s.flu i).1 (s.flu i).2.1).put i else (⟨s.p, (s.flu i).1, (s.flu i).2.1⟩, (s.flu i).2.2))
  else s.put i
def pickAt (n : Nat) (pick : Int) : Nat := modN n pick
def lay (s : PS) (i : Nat) (f : Pf) : PS := ⟨s.p.lay i f, s.l, s.d⟩
def take (s : PS) (pick : Int) : PS × Nat × Int := match s.p.hold (-1) with
  | some i => (s, i, 0)
  | none =>
    bif (s.p.get (pickAt s.p.fr.length pick)).chg then
      (bif decide ((s.write1 (pickAt s.p.fr.length pick)).2 = 0) then ((s.write1 (pickAt s.p.fr.length pick)).1.lay (pickAt s.p.fr.length pick) pf0, pickAt s.p.fr.length pick, 0)
       else ((s.write1 (pickAt s.p.fr.length pick)).1, 0, (s.write1 (pickAt s.p.fr.length pick)).2))
    else (s.lay (pickAt s.p.fr.length pick) pf0, pickAt s.p.fr.length pick, 0)
def raw (s : PS) (n : Int) : Bs × Int := s.d.read ((s.p.frm : Int) + 8 * n) 8
def fetch (s : PS) (n pick : Int) : PS × Pg × Int :=
  bif decide (s.p.known n = 0) then
    (match s.p.hold n with
    | some i => (s, (s.p.get i).pg, 0)
    | none =>
      bif decide ((s.raw n).2 = 0) then
        (bif decide ((pDec (s.raw n).1).2 = 0) then
          (bif decide ((s.take pick).2.2 = 0) then ((s.take pick).1.lay (s.take pick).2.1 ⟨(pDec (s.raw n).1).1, n, false⟩, (pDec (s.raw n).1).1, 0)
           else ((s.take pick).1, pg0, (s.take pick).2.2))
         else (s, pg0, 60))
      else (s, pg0, (s.raw n).2))
  else (s, pg0, s.p.known n)
def own (s : PS) (i : Nat) (n : Int) (b : Pg) : PS := ⟨{ s.p.lay i ⟨b, n, true⟩ with owed := bif (getD s.p.owed n).isNone then setD s.p.owed n b.lsn else s.p.owed }, s.l, s.d⟩
def set (s : PS) (n : Int) (b : Pg) (pick : Int) : PS × Int :=
  bif decide (s.p.known n = 0) then
    (bif decide ((pEnc b).2 = 0) then
      (bif decide (b.lsn < 1) then (s, 1) else
        (match s.p.hold n with
        | some i => (s.own i n b, 0)
        | none => bif decide ((s.take pick).2.2 = 0) then ((s.take pick).1.own (s.take pick).2.1 n b, 0) else ((s.take pick).1, (s.take pick).2.2)))
     else (s, (pEnc b).2))
  else (s, s.p.known n)
def write (s : PS) (n : Int) : PS × Int :=
  bif decide (s.p.known n = 0) then
    (match s.p.hold n with
    | some i => bif (s.p.get i).chg then s.write1 i else (s, 0)
    | none => (s, 0))
  else (s, s.p.known n)
end PS

/-! ### A disk's pages -/
def sec8 (d : Dk) (a : Nat) : Bs := ((d.cur.drop a).take 8).flatten
theorem take_ext {α : Type} {l m : List α} {a b k : Nat} (h : ∀ j, j < k → l[a + j]? = m[b + j]?) : (l.drop a).take k = (m.drop b).take k := by
  apply List.ext_getElem?
  intro i
  rw [List.getElem?_take, List.getElem?_take, List.getElem?_drop, List.getElem?_drop]
  by_cases hi : i < k
  · rw [if_pos hi, if_pos hi, h i hi]
  · rw [if_neg hi, if_neg hi]
theorem sec8_eq {d d' : Dk} {a : Nat} (h : ∀ j, j < 8 → d'.cur[a + j]? = d.cur[a + j]?) : sec8 d' a = sec8 d a := by unfold sec8; rw [take_ext h]
theorem chunks_flat : ∀ (k : Nat) (s : Bs), s.length = 64 * k → (Dk.chunks k s).flatten = s
  | 0, s, h => by
    have : s = [] := List.eq_nil_of_length_eq_zero (by omega)
    rw [this]; rfl
  | k + 1, s, h => by
    rw [Dk.chunks, List.flatten_cons, chunks_flat k (s.drop 64) (by rw [List.length_drop]; omega), List.take_append_drop]
theorem wr_calm : ∀ (l : List Bs) {d : Dk} (i : Nat), Lg.Calm d → (∀ x ∈ l, x.length = 64) → i + l.length ≤ d.cur.length →
    (∀ j, (d.wr i l).1.cur[j]? = if i ≤ j ∧ j < i + l.length then l[j - i]? else d.cur[j]?) ∧ (∀ j, Dk.isC (d.wr i l).1.chg j = if i ≤ j ∧ j < i + l.length then true else Dk.isC d.chg j)
  | [], d, i, h, _, _ => by
    refine ⟨fun j => ?_, fun j => ?_⟩
    · rw [if_neg (by rw [List.length_nil]; omega)]; rfl
    · rw [if_neg (by rw [List.length_nil]; omega)]; rfl
  | x :: l, d, i, h, hl, hi => by
    have hp : Lg.Calm (d.put i x) := ⟨h.wf.put i (hl x (by simp)), h.ar, h.on⟩
    have ht := hp.tick
    have hc : Lg.Calm (d.put i x).tick := ⟨hp.wf.tick, by rw [ht]; exact hp.ar, by rw [ht]; exact hp.on⟩
    rw [List.length_cons] at hi
    have hlen : (d.put i x).tick.cur.length = d.cur.length := by rw [(Dk.tick_cur _).1]; simp [Dk.put]
    obtain ⟨h1, h2⟩ := wr_calm l (i + 1) hc (fun y hy => hl y (by simp [hy])) (by rw [hlen]; omega)
    have e : d.wr i (x :: l) = (d.put i x).tick.wr (i + 1) l := by rw [Dk.wr]; simp only [hc.on, cond_false]
    have hlc := h.wf.lc
    rw [e, List.length_cons]
    refine ⟨fun j => ?_, fun j => ?_⟩
    · rw [h1]
      by_cases hj : j = i
      · subst hj
        rw [if_neg (by omega), if_pos (by omega), (Dk.tick_cur _).1, Nat.sub_self]
        simp only [Dk.put, List.getElem?_set, if_true, List.getElem?_cons_zero]
        rw [if_pos (by omega)]
      · by_cases hr : i ≤ j ∧ j < i + (l.length + 1)
        · rw [if_pos (by omega), if_pos hr, show j - i = (j - (i + 1)) + 1 from by omega, List.getElem?_cons_succ]
        · rw [if_neg (by omega), if_neg hr, (Dk.tick_cur _).1]
          simp only [Dk.put]
          rw [List.getElem?_set_ne (by omega)]
    · rw [h2]
      by_cases hj : j = i
      · subst hj
        rw [if_neg (by omega), if_pos (by omega), (Dk.tick_cur _).2.2]
        simp only [Dk.put]
        rw [Dk.isC_set _ _ _ (by omega), if_pos rfl]
      · by_cases hr : i ≤ j ∧ j < i + (l.length + 1)
        · rw [if_pos (by omega), if_pos hr]
        · rw [if_neg (by omega), if_neg hr, (Dk.tick_cur _).2.2]
          simp only [Dk.put]
          rw [Dk.isC_set _ _ _ (by omega), if_neg (fun e => hj e.symm)]
/-- A write on a disk that can not die. -/
theorem write_calm {d : Dk} (h : Lg.Calm d) {a k : Nat} {s : Bs} (hs : s.length = 64 * k) (ha : a + k ≤ d.cur.length) :
    (∀ j, (d.write (a : Int) s).1.cur[j]? = if a ≤ j ∧ j < a + k then (Dk.chunks k s)[j - a]? else d.cur[j]?) ∧ (∀ j, Dk.isC (d.write (a : Int) s).1.chg j = if a ≤ j ∧ j < a + k then true else Dk.isC d.chg j) := by
  have hk : s.length / 64 = k := by omega
  have e : d.write (a : Int) s = d.wr a (Dk.chunks k s) := by
    unfold Dk.write
    have h1 : d.has (a : Int) ((s.length / 64 : Nat) : Int) = true := by unfold Dk.has; rw [decide_eq_true_eq]; omega
    rw [h.on, h1, hk]
    simp [hs]
  have h2 := wr_calm (Dk.chunks k s) a h (Dk.chunks_64 (by omega)) (by rw [Dk.chunks_len]; exact ha)
  rw [Dk.chunks_len] at h2
  rw [e]; exact h2
theorem page_put {d : Dk} (h : Lg.Calm d) {a : Nat} {s : Bs} (hs : s.length = 512) (ha : a + 8 ≤ d.cur.length) :
    (d.write (a : Int) s).2 = 0 ∧ Lg.Calm (d.write (a : Int) s).1 ∧ (d.write (a : Int) s).1.cur.length = d.cur.length ∧ sec8 (d.write (a : Int) s).1 a = s ∧
    (∀ b, b + 8 ≤ a ∨ a + 8 ≤ b → sec8 (d.write (a : Int) s).1 b = sec8 d b ∧ ∀ j, j < 8 → Dk.isC (d.write (a : Int) s).1.chg (b + j) = Dk.isC d.chg (b + j)) := by
  obtain ⟨h1, h2, h3⟩ := h.write (a := a) (s := s) (by omega) (by omega)
  obtain ⟨g1, g2⟩ := write_calm h (a := a) (k := 8) (s := s) (by omega) ha
  refine ⟨h1, h2, h3, ?_, fun b hb => ⟨sec8_eq (fun j hj => ?_), fun j hj => ?_⟩⟩
  · have e : ((d.write (a : Int) s).1.cur.drop a).take 8 = ((Dk.chunks 8 s).drop 0).take 8 := take_ext (fun j hj => by rw [g1, if_pos (by omega), Nat.zero_add, Nat.add_sub_cancel_left])
    unfold sec8
    rw [e, List.drop_zero, List.take_of_length_le (by rw [Dk.chunks_len]; exact Nat.le_refl _), chunks_flat 8 s (by omega)]
  · rw [g1, if_neg (by omega)]
  · rw [g2, if_neg (by omega)]
theorem read_calm {d : Dk} (h : Lg.Calm d) {a : Nat} (ha : a + 8 ≤ d.cur.length) : d.read (a : Int) 8 = (sec8 d a, 0) := by
  have h1 : d.has (a : Int) 8 = true := by unfold Dk.has; rw [decide_eq_true_eq]; omega
  unfold Dk.read
  rw [h.on, h1]; rfl
/-- A log's flush on a disk that can not die. -/
theorem flushGo_calm {L : Lg} (hn : 0 < L.n) : ∀ (f k : Nat) {d : Dk}, Lg.Calm d → L.frm + L.n ≤ d.cur.length → ∀ j, L.frm + L.n ≤ j → (L.flushGo f k d).1.cur[j]? = d.cur[j]?
  | 0, k, d, h, _ => fun j _ => rfl
  | f + 1, k, d, h, hl => by
    intro j hj
    rw [Lg.flushGo]
    cases decide (k * 54 + 1 < L.tail) with
    | false => rfl
    | true =>
      have hm := Nat.mod_lt k hn
      have h64 := Lg.seal_len (Lg.bytes_len L k) k
      obtain ⟨h1, h2, h3⟩ := h.write (a := L.frm + k % L.n) (s := sealB k (L.bytes k)) (by rw [h64]) (by rw [h64]; omega)
      have hput : L.put k d = d.write ((L.frm + k % L.n : Nat) : Int) (sealB k (L.bytes k)) := rfl
      simp only [hput, h1, decide_true, cond_true]
      rw [flushGo_calm hn f (k + 1) h2 (by rw [h3]; exact hl) j hj, (write_calm h (k := 1) (by rw [h64]) (by omega)).1, if_neg (by omega)]
theorem flush_calm {L : Lg} (hL : L.Wf) {d : Dk} (h : Lg.Calm d) (hl : L.frm + L.n ≤ d.cur.length) {u : Int} (h1 : (L.last : Int) ≤ u) (h2 : L.last < L.tail) :
    (L.flush u d).2.2 = 0 ∧ (L.flush u d).1 = { L with last := L.tail } ∧ Lg.Calm (L.flush u d).2.1 ∧ (L.flush u d).2.1.cur.length = d.cur.length ∧ (∀ j, L.frm + L.n ≤ j → (L.flush u d).2.1.cur[j]? = d.cur[j]?) ∧ ∀ j, Dk.isC (L.flush u d).2.1.chg j = false := by
  have hn : 0 < L.n := by have := hL.n4; omega
  obtain ⟨g1, g2, g3⟩ := Lg.Calm.flushGo (L := L) hn (L.kept.length + 1) ((L.last - 1) / 54) h hl
  have g4 := flushGo_calm (L := L) hn (L.kept.length + 1) ((L.last - 1) / 54) h hl
  obtain ⟨k1, k2, k3⟩ := g2.sync
  obtain ⟨q1, q2, q3, q4, q5⟩ := Dk.sync_calm g2.ar g2.on
  have hc : (decide (u < (L.last : Int)) || decide (L.last = L.tail)) = false := by
    rw [Bool.or_eq_false_iff, decide_eq_false_iff_not, decide_eq_false_iff_not]; omega
  have e : L.flushE d = L.flushGo (L.kept.length + 1) ((L.last - 1) / 54) d := rfl
  have hE : L.flush u d = ({ L with last := L.tail }, (L.flushE d).1.sync.1, 0) := by
    unfold Lg.flush
    rw [hc, e]
    simp only [g1, k1, decide_true, cond_true, cond_false]
  rw [hE, e]
  refine ⟨rfl, rfl, k2, by rw [k3, g3], fun j hj => ?_, fun j => ?_⟩
  · show (L.flushGo _ _ d).1.sync.1.cur[j]? = _
    rw [q2, g4 j hj]
  · show Dk.isC (L.flushGo _ _ d).1.sync.1.chg j = false
    have : (L.flushGo (L.kept.length + 1) ((L.last - 1) / 54) d).1.sync.1.chg = List.replicate (L.flushGo (L.kept.length + 1) ((L.last - 1) / 54) d).1.tick.cur.length false := by
      unfold Dk.sync
      rw [g2.on]
      simp only [cond_false, g2.tick]
      rw [show ({ (L.flushGo (L.kept.length + 1) ((L.last - 1) / 54) d).1 with done := IntKind.i64.wrap ((L.flushGo (L.kept.length + 1) ((L.last - 1) / 54) d).1.done + 1) } : Dk).gone = false from g2.on]
      rfl
    rw [this]; exact Dk.isC_rep _ _

end Go.Proofs.YthbngnlmgplijaaGreatDoor

namespace Go.Proofs.YthbngnlmgplijaaGreatDoor
open Go.Al Go.Proofs
set_option linter.unusedVariables false
set_option linter.unusedSimpArgs false
set_option linter.unusedSectionVars false
set_option maxRecDepth 100000

theorem getD_filterK {α β : Type} [DecidableEq α] (q : α → Bool) (D : List (α × β)) (a : α) : getD (D.filter (fun x => q x.1)) a = bif q a then getD D a else none := by
  induction D with
  | nil => cases q a <;> rfl
  | cons p D ih =>
    rw [List.filter_cons]
    by_cases hp : q p.1 = true
    · rw [if_pos hp, getD_cons, getD_cons, ih]
      by_cases e : p.1 = a
      · rw [if_pos e, if_pos e, ← e, hp]; rfl
      · rw [if_neg e, if_neg e]
    · rw [if_neg hp, ih, getD_cons]
      by_cases e : p.1 = a
      · have : q a = false := by rw [← e]; simpa using hp
        rw [this]; rfl
      · rw [if_neg e]
namespace Pl
theorem get_of {p : Pl} {i : Nat} {f : Pf} (h : p.fr[i]? = some f) : p.get i = f := by unfold get; rw [List.getD_eq_getElem?_getD, h]; rfl
theorem hold_some {p : Pl} {n : Int} {i : Nat} (h : p.hold n = some i) : ∃ f, p.fr[i]? = some f ∧ f.num = n := by
  unfold hold at h
  rw [List.findIdx?_eq_some_iff_getElem] at h
  obtain ⟨hi, h1, _⟩ := h
  exact ⟨p.fr[i], List.getElem?_eq_getElem hi, by simpa using h1⟩
theorem hold_none {p : Pl} {n : Int} (h : p.hold n = none) : ∀ (i : Nat) (f : Pf), p.fr[i]? = some f → f.num ≠ n := by
  unfold hold at h
  rw [List.findIdx?_eq_none_iff] at h
  intro i f hi
  have := h f (List.mem_of_getElem? hi)
  simpa using this
theorem lay_cases {p : Pl} {i j : Nat} {f g : Pf} (h : (p.lay i f).fr[j]? = some g) : (j = i ∧ g = f) ∨ (j ≠ i ∧ p.fr[j]? = some g) := by
  unfold lay at h
  simp only [List.getElem?_set] at h
  by_cases e : i = j
  · rw [if_pos e] at h
    by_cases hl : i < p.fr.length
    · rw [if_pos hl] at h; cases h; exact .inl ⟨e.symm, rfl⟩
    · rw [if_neg hl] at h; cases h
  · rw [if_neg e] at h
    exact .inr ⟨fun x => e x.symm, h⟩
theorem lay_ne {p : Pl} {i j : Nat} {f : Pf} (h : j ≠ i) : (p.lay i f).fr[j]? = p.fr[j]? := by
  unfold lay
  simp only
  rw [List.getElem?_set_ne (fun e => h e.symm)]
theorem lay_at {p : Pl} {i : Nat} {f g : Pf} (h : p.fr[i]? = some g) : (p.lay i f).fr[i]? = some f := by
  have hl := (List.getElem?_eq_some_iff.1 h).1
  unfold lay
  simp only [List.getElem?_set]
  rw [if_pos trivial, if_pos hl]
theorem lay_len (p : Pl) (i : Nat) (f : Pf) : (p.lay i f).fr.length = p.fr.length := by unfold lay; simp
end Pl

def page (s : PS) (n : Nat) : Pg × Int := pDec (sec8 s.d (s.p.frm + 8 * n))
structure PGood (s : PS) (lst : Nat → Option Pg) : Prop where
  wl : s.l.Wf
  calm : Lg.Calm s.d
  lay : s.l.frm + s.l.n ≤ s.p.frm ∧ s.p.frm + 8 * s.p.pages ≤ s.d.cur.length
  f1 : 1 ≤ s.p.fr.length
  nums : ∀ (i : Nat) (f : Pf), s.p.fr[i]? = some f → f.num = -1 ∨ ∃ n : Nat, f.num = (n : Int) ∧ n < s.p.pages
  one : ∀ (i j : Nat) (f g : Pf) (n : Nat), s.p.fr[i]? = some f → s.p.fr[j]? = some g → f.num = (n : Int) → g.num = (n : Int) → i = j
  held : ∀ (i : Nat) (f : Pf) (n : Nat), s.p.fr[i]? = some f → f.num = (n : Int) → lst n = some f.pg
  ok : ∀ n b, lst n = some b → pErr b = 0 ∧ 1 ≤ b.lsn ∧ b.lsn < (s.l.tail : Int)
  dirty : ∀ (i : Nat) (f : Pf) (n : Nat), s.p.fr[i]? = some f → f.num = (n : Int) → f.chg = true → getD s.p.owed (n : Int) ≠ none
  free : ∀ n, n < s.p.pages → (∀ (i : Nat) (f : Pf), s.p.fr[i]? = some f → f.num = (n : Int) → f.chg = false) → (∀ b, lst n = some b → page s n = (b, 0)) ∧ (lst n = none → (page s n).2 ≠ 0)
  safe : ∀ n, n < s.p.pages → (page s n).2 = 0 → (page s n).1.lsn < (s.l.last : Int)
  syn : ∀ n, n < s.p.pages → getD s.p.owed (n : Int) = none → ∀ j, j < 8 → Dk.isC s.d.chg (s.p.frm + 8 * n + j) = false
structure Sam (s s' : PS) : Prop where
  frm : s'.p.frm = s.p.frm
  pages : s'.p.pages = s.p.pages
  len : s'.p.fr.length = s.p.fr.length
  cur : s'.d.cur.length = s.d.cur.length
  log : ∃ k, s'.l = { s.l with last := k }
theorem Sam.refl (s : PS) : Sam s s := ⟨rfl, rfl, rfl, rfl, s.l.last, rfl⟩
theorem Sam.trans {a b c : PS} (h : Sam a b) (k : Sam b c) : Sam a c := by
  obtain ⟨x, hx⟩ := h.log
  obtain ⟨y, hy⟩ := k.log
  exact ⟨k.frm.trans h.frm, k.pages.trans h.pages, k.len.trans h.len, k.cur.trans h.cur, y, by rw [hy, hx]⟩
theorem Sam.tail {a b : PS} (h : Sam a b) : b.l.tail = a.l.tail := by
  obtain ⟨x, hx⟩ := h.log
  rw [hx]; rfl
theorem Sam.lay (s : PS) (i : Nat) (f : Pf) : Sam s (s.lay i f) := ⟨rfl, rfl, Pl.lay_len _ _ _, rfl, s.l.last, rfl⟩
section
variable {s : PS} {lst : Nat → Option Pg}
theorem pf0_num (n : Nat) : pf0.num ≠ (n : Int) := by show (-1 : Int) ≠ n; omega
theorem PGood.drop (h : PGood s lst) {i : Nat} {f : Pf} (hf : s.p.fr[i]? = some f) (hc : f.chg = false) : PGood (s.lay i pf0) lst where
  wl := h.wl
  calm := h.calm
  lay := h.lay
  f1 := by show 1 ≤ (s.p.lay i pf0).fr.length; rw [Pl.lay_len]; exact h.f1
  nums := fun j g hj => by
    rcases Pl.lay_cases hj with ⟨_, rfl⟩ | ⟨_, hj⟩
    · exact .inl rfl
    · exact h.nums j g hj
  one := fun j k g g' n hj hk e1 e2 => by
    rcases Pl.lay_cases hj with ⟨_, rfl⟩ | ⟨_, hj⟩
    · exact absurd e1 (pf0_num n)
    rcases Pl.lay_cases hk with ⟨_, rfl⟩ | ⟨_, hk⟩
    · exact absurd e2 (pf0_num n)
    exact h.one j k g g' n hj hk e1 e2
  held := fun j g n hj e => by
    rcases Pl.lay_cases hj with ⟨_, rfl⟩ | ⟨_, hj⟩
    · exact absurd e (pf0_num n)
    exact h.held j g n hj e
  ok := h.ok
  dirty := fun j g n hj e ec => by
    rcases Pl.lay_cases hj with ⟨_, rfl⟩ | ⟨_, hj⟩
    · exact absurd e (pf0_num n)
    exact h.dirty j g n hj e ec
  free := fun n hn ha => h.free n hn (fun j g hj e => by
    by_cases hji : j = i
    · subst hji
      rw [hf] at hj; cases hj; exact hc
    · exact ha j g (by show (s.p.lay i pf0).fr[j]? = _; rw [Pl.lay_ne hji]; exact hj) e)
  safe := h.safe
  syn := h.syn
theorem PGood.fill (h : PGood s lst) {i n : Nat} {g : Pf} (hg : s.p.fr[i]? = some g) (hgn : g.num = -1) (hno : ∀ (j : Nat) (f : Pf), s.p.fr[j]? = some f → f.num ≠ (n : Int)) (hn : n < s.p.pages) {b : Pg} (hb : lst n = some b) : PGood (s.lay i ⟨b, n, false⟩) lst where
  wl := h.wl
  calm := h.calm
  lay := h.lay
  f1 := by show 1 ≤ (s.p.lay i _).fr.length; rw [Pl.lay_len]; exact h.f1
  nums := fun j f hj => by
    rcases Pl.lay_cases hj with ⟨_, rfl⟩ | ⟨_, hj⟩
    · exact .inr ⟨n, rfl, hn⟩
    · exact h.nums j f hj
  one := fun j k f f' m hj hk e1 e2 => by
    rcases Pl.lay_cases hj with ⟨ej, rfl⟩ | ⟨_, hj⟩ <;> rcases Pl.lay_cases hk with ⟨ek, rfl⟩ | ⟨_, hk⟩
    · rw [ej, ek]
    · exact absurd (e2.trans e1.symm) (hno k f' hk)
    · exact absurd (e1.trans e2.symm) (hno j f hj)
    · exact h.one j k f f' m hj hk e1 e2
  held := fun j f m hj e => by
    rcases Pl.lay_cases hj with ⟨_, rfl⟩ | ⟨_, hj⟩
    · have : n = m := by have : (n : Int) = m := e; omega
      rw [← this]; exact hb
    · exact h.held j f m hj e
  ok := h.ok
  dirty := fun j f m hj e ec => by
    rcases Pl.lay_cases hj with ⟨_, rfl⟩ | ⟨_, hj⟩
    · cases ec
    exact h.dirty j f m hj e ec
  free := fun m hm ha => h.free m hm (fun j f hj e => by
    by_cases hji : j = i
    · subst hji
      rw [hg] at hj; cases hj
      omega
    · exact ha j f (by show (s.p.lay i _).fr[j]? = _; rw [Pl.lay_ne hji]; exact hj) e)
  safe := h.safe
  syn := h.syn
def upd (lst : Nat → Option Pg) (n : Nat) (b : Pg) : Nat → Option Pg := fun m => if m = n then some b else lst m
theorem PGood.own (h : PGood s lst) {i n : Nat} {g : Pf} (hg : s.p.fr[i]? = some g) (hno : g.num = (n : Int) ∨ (g.num = -1 ∧ ∀ (j : Nat) (f : Pf), s.p.fr[j]? = some f → f.num ≠ (n : Int))) (hn : n < s.p.pages) {b : Pg} (hb : pErr b = 0 ∧ 1 ≤ b.lsn ∧ b.lsn < (s.l.tail : Int)) : PGood (s.own i n b) (upd lst n b) := by
  have hoth : ∀ (j : Nat) (f : Pf), j ≠ i → s.p.fr[j]? = some f → f.num ≠ (n : Int) := fun j f hji hj e => by
    rcases hno with h1 | ⟨_, h1⟩
    · exact hji (h.one j i f g n hj hg e h1)
    · exact h1 j f hj e
  have howed : ∀ m : Nat, getD (s.own i n b).p.owed (m : Int) = none → m ≠ n ∧ getD s.p.owed (m : Int) = none := by
    intro m hm
    have e : (s.own i n b).p.owed = bif (getD s.p.owed (n : Int)).isNone then setD s.p.owed n b.lsn else s.p.owed := rfl
    rw [e] at hm
    cases hq : getD s.p.owed (n : Int) with
    | none =>
      rw [hq] at hm
      simp only [Option.isNone_none, cond_true, getD_setD] at hm
      by_cases e2 : (m : Int) = n
      · rw [if_pos e2] at hm; cases hm
      · rw [if_neg e2] at hm
        exact ⟨fun e3 => e2 (by rw [e3]), hm⟩
    | some v =>
      rw [hq] at hm
      simp only [Option.isNone_some, cond_false] at hm
      refine ⟨?_, hm⟩
      rintro rfl
      rw [hq] at hm; cases hm
  refine ⟨h.wl, h.calm, h.lay, ?_, ?_, ?_, ?_, ?_, ?_, ?_, h.safe, ?_⟩
  · show 1 ≤ (s.p.lay i _).fr.length; rw [Pl.lay_len]; exact h.f1
  · intro j f hj
    rcases Pl.lay_cases (p := s.p) hj with ⟨_, rfl⟩ | ⟨_, hj⟩
    · exact .inr ⟨n, rfl, hn⟩
    · exact h.nums j f hj
  · intro j k f f' m hj hk e1 e2
    rcases Pl.lay_cases (p := s.p) hj with ⟨ej, rfl⟩ | ⟨hji, hj⟩ <;> rcases Pl.lay_cases (p := s.p) hk with ⟨ek, rfl⟩ | ⟨hki, hk⟩
    · rw [ej, ek]
    · exact absurd (e2.trans e1.symm) (hoth k f' hki hk)
    · exact absurd (e1.trans e2.symm) (hoth j f hji hj)
    · exact h.one j k f f' m hj hk e1 e2
  · intro j f m hj e
    rcases Pl.lay_cases (p := s.p) hj with ⟨_, rfl⟩ | ⟨hji, hj'⟩
    · have : m = n := by have : (n : Int) = m := e; omega
      unfold upd; rw [if_pos this]
    · have : m ≠ n := by rintro rfl; exact hoth j f hji hj' e
      unfold upd; rw [if_neg this]; exact h.held j f m hj' e
  · intro m c hc
    unfold upd at hc
    by_cases e : m = n
    · rw [if_pos e] at hc; cases hc; exact hb
    · rw [if_neg e] at hc; exact h.ok m c hc
  · intro j f m hj e ec hm
    obtain ⟨hmn, hm⟩ := howed m hm
    rcases Pl.lay_cases (p := s.p) hj with ⟨_, rfl⟩ | ⟨hji, hj⟩
    · exact hmn (by have : (n : Int) = m := e; omega)
    · exact h.dirty j f m hj e ec hm
  · intro m hm ha
    have hmn : m ≠ n := by
      rintro rfl
      have := ha i ⟨b, (m : Int), true⟩ (Pl.lay_at (p := s.p) hg) rfl
      cases this
    have := h.free m hm (fun j f hj e => by
      by_cases hji : j = i
      · subst hji
        rw [hg] at hj; cases hj
        rcases hno with h1 | ⟨h1, _⟩ <;> omega
      · exact ha j f (by show (s.p.lay i _).fr[j]? = _; rw [Pl.lay_ne hji]; exact hj) e)
    unfold upd; rw [if_neg hmn]; exact this
  · intro m hm ho
    exact h.syn m hm (howed m ho).2
theorem PGood.settle (h : PGood s lst) {d' : Dk} {k : Nat} (hc : Lg.Calm d') (hl : d'.cur.length = s.d.cur.length) (hcur : ∀ j, s.l.frm + s.l.n ≤ j → d'.cur[j]? = s.d.cur[j]?) (hchg : ∀ j, Dk.isC d'.chg j = false) (hk : s.l.last ≤ k) (hw : ({ s.l with last := k } : Lg).Wf) : PGood ⟨s.p.synced, { s.l with last := k }, d'⟩ lst := by
  have hpage : ∀ n, page ⟨s.p.synced, { s.l with last := k }, d'⟩ n = page s n := by
    intro n
    have := h.lay.1
    unfold page
    rw [show (PS.mk s.p.synced { s.l with last := k } d').p.frm = s.p.frm from rfl]
    rw [show sec8 (PS.mk s.p.synced { s.l with last := k } d').d (s.p.frm + 8 * n) = sec8 s.d (s.p.frm + 8 * n) from sec8_eq (fun j hj => hcur _ (by omega))]
  refine ⟨hw, hc, ⟨h.lay.1, ?_⟩, h.f1, h.nums, h.one, h.held, h.ok, ?_, ?_, ?_, fun n _ _ j _ => hchg _⟩
  · show s.p.frm + 8 * s.p.pages ≤ d'.cur.length
    rw [hl]; exact h.lay.2
  · intro i f n hi e ec
    have hi : s.p.fr[i]? = some f := hi
    show getD (s.p.owed.filter (fun x => s.p.stays x.1)) (n : Int) ≠ none
    have hst : s.p.stays (n : Int) = true := by
      unfold Pl.stays
      cases hh : s.p.hold (n : Int) with
      | none => exact absurd e (Pl.hold_none hh i f hi)
      | some j =>
        obtain ⟨g, hj, ge⟩ := Pl.hold_some hh
        have := h.one i j f g n hi hj e ge
        subst this
        show (s.p.get i).chg = true
        rw [Pl.get_of hi]; exact ec
    rw [getD_filterK, hst, cond_true]
    exact h.dirty i f n hi e ec
  · intro n hn ha
    rw [hpage]; exact h.free n hn ha
  · intro n hn hp
    rw [hpage] at hp ⊢
    have := h.safe n hn hp
    show _ < (k : Int)
    omega
theorem PGood.sync (h : PGood s lst) : s.d.sync.2 = 0 ∧ PGood ⟨s.p.synced, s.l, s.d.sync.1⟩ lst := by
  obtain ⟨k1, k2, k3⟩ := h.calm.sync
  obtain ⟨q1, q2, q3, q4, q5⟩ := Dk.sync_calm h.calm.ar h.calm.on
  refine ⟨k1, h.settle (k := s.l.last) k2 k3 (fun j _ => by rw [q2]) (fun j => ?_) (Nat.le_refl _) h.wl⟩
  have : s.d.sync.1.chg = List.replicate s.d.tick.cur.length false := by
    unfold Dk.sync
    rw [h.calm.on]
    simp only [cond_false, h.calm.tick]
    rw [show ({ s.d with done := IntKind.i64.wrap (s.d.done + 1) } : Dk).gone = false from h.calm.on]
    rfl
  rw [this]; exact Dk.isC_rep _ _
theorem PGood.put (h : PGood s lst) {i n : Nat} {f : Pf} (hf : s.p.fr[i]? = some f) (hn : f.num = (n : Int)) (hc : f.chg = true) (hl : f.pg.lsn < (s.l.last : Int)) : (s.put i).2 = 0 ∧ PGood (s.put i).1 lst ∧ Sam s (s.put i).1 ∧ (s.put i).1.p = s.p.lay i { f with chg := false } := by
  have hg : s.p.get i = f := Pl.get_of hf
  have hlst := h.held i f n hf hn
  obtain ⟨hok1, hok2, hok3⟩ := h.ok n _ hlst
  have hnp : n < s.p.pages := by
    rcases h.nums i f hf with e | ⟨m, e, hm⟩
    · omega
    · have : n = m := by omega
      rw [this]; exact hm
  have hen := pEnc_ok hok1
  have hlen := pEnc_len hok1
  have hlay := h.lay
  obtain ⟨p1, p2, p3, p4, p5⟩ := page_put h.calm (a := s.p.frm + 8 * n) (s := (pEnc f.pg).1) hlen (by omega)
  have hput : s.putW i = s.d.write ((s.p.frm + 8 * n : Nat) : Int) (pEnc f.pg).1 := by
    unfold PS.putW
    rw [hg, hn, show ((s.p.frm + 8 * n : Nat) : Int) = (s.p.frm : Int) + 8 * (n : Int) from by omega]
  have hE : s.put i = (⟨s.p.lay i { f with chg := false }, s.l, (s.d.write ((s.p.frm + 8 * n : Nat) : Int) (pEnc f.pg).1).1⟩, 0) := by
    unfold PS.put
    rw [hput, p1, hg, show (pEnc f.pg).2 = 0 from by rw [hen]]
    rfl
  have hlow := h.wl.low
  have hpn : page ⟨s.p.lay i { f with chg := false }, s.l, (s.d.write ((s.p.frm + 8 * n : Nat) : Int) (pEnc f.pg).1).1⟩ n = (f.pg, 0) := by
    unfold page
    rw [show (PS.mk (s.p.lay i { f with chg := false }) s.l (s.d.write ((s.p.frm + 8 * n : Nat) : Int) (pEnc f.pg).1).1).p.frm = s.p.frm from rfl]
    rw [show sec8 (PS.mk (s.p.lay i { f with chg := false }) s.l (s.d.write ((s.p.frm + 8 * n : Nat) : Int) (pEnc f.pg).1).1).d (s.p.frm + 8 * n) = (pEnc f.pg).1 from p4]
    exact dec_enc hok1 (by omega)
  have hpm : ∀ m, m ≠ n → page ⟨s.p.lay i { f with chg := false }, s.l, (s.d.write ((s.p.frm + 8 * n : Nat) : Int) (pEnc f.pg).1).1⟩ m = page s m := by
    intro m hm
    unfold page
    rw [show (PS.mk (s.p.lay i { f with chg := false }) s.l (s.d.write ((s.p.frm + 8 * n : Nat) : Int) (pEnc f.pg).1).1).p.frm = s.p.frm from rfl]
    rw [show sec8 (PS.mk (s.p.lay i { f with chg := false }) s.l (s.d.write ((s.p.frm + 8 * n : Nat) : Int) (pEnc f.pg).1).1).d (s.p.frm + 8 * m) = sec8 s.d (s.p.frm + 8 * m) from (p5 _ (by omega)).1]
  rw [hE]
  refine ⟨rfl, ⟨h.wl, p2, ⟨h.lay.1, by show _ ≤ (s.d.write _ _).1.cur.length; rw [p3]; exact h.lay.2⟩, ?_, ?_, ?_, ?_, h.ok, ?_, ?_, ?_, ?_⟩, ⟨rfl, rfl, Pl.lay_len _ _ _, p3, s.l.last, rfl⟩, rfl⟩
  · show 1 ≤ (s.p.lay i _).fr.length; rw [Pl.lay_len]; exact h.f1
  · intro j g hj
    rcases Pl.lay_cases (p := s.p) hj with ⟨_, rfl⟩ | ⟨_, hj⟩
    · exact .inr ⟨n, hn, hnp⟩
    · exact h.nums j g hj
  · intro j k g g' m hj hk e1 e2
    rcases Pl.lay_cases (p := s.p) hj with ⟨ej, rfl⟩ | ⟨hji, hj⟩ <;> rcases Pl.lay_cases (p := s.p) hk with ⟨ek, rfl⟩ | ⟨hki, hk⟩
    · rw [ej, ek]
    · exact absurd (h.one k i g' f m hk hf e2 e1) hki
    · exact absurd (h.one j i g f m hj hf e1 e2) hji
    · exact h.one j k g g' m hj hk e1 e2
  · intro j g m hj e
    rcases Pl.lay_cases (p := s.p) hj with ⟨_, rfl⟩ | ⟨_, hj⟩
    · exact h.held i f m hf e
    · exact h.held j g m hj e
  · intro j g m hj e ec
    rcases Pl.lay_cases (p := s.p) hj with ⟨_, rfl⟩ | ⟨_, hj⟩
    · cases ec
    · exact h.dirty j g m hj e ec
  · intro m hm ha
    by_cases e : m = n
    · subst e
      rw [hpn]
      refine ⟨fun b hb => ?_, fun hb => ?_⟩
      · rw [hlst] at hb; cases hb; rfl
      · rw [hlst] at hb; cases hb
    · rw [hpm m e]
      exact h.free m hm (fun j g hj e2 => by
        by_cases hji : j = i
        · subst hji
          rw [hf] at hj; cases hj
          exact absurd (show (m : Int) = n from e2.symm.trans hn) (by omega)
        · exact ha j g (by show (s.p.lay i _).fr[j]? = _; rw [Pl.lay_ne hji]; exact hj) e2)
  · intro m hm hp
    by_cases e : m = n
    · subst e
      rw [hpn]; exact hl
    · rw [hpm m e] at hp ⊢
      exact h.safe m hm hp
  · intro m hm ho j hj
    have e : m ≠ n := by
      rintro rfl
      exact h.dirty i f m hf hn hc ho
    show Dk.isC (s.d.write _ _).1.chg (s.p.frm + 8 * m + j) = false
    rw [(p5 (s.p.frm + 8 * m) (by omega)).2 j hj]
    exact h.syn m hm ho j hj
theorem PGood.write1 (h : PGood s lst) {i n : Nat} {f : Pf} (hf : s.p.fr[i]? = some f) (hn : f.num = (n : Int)) (hc : f.chg = true) : (s.write1 i).2 = 0 ∧ PGood (s.write1 i).1 lst ∧ Sam s (s.write1 i).1 ∧ (s.write1 i).1.p.fr = (s.p.lay i { f with chg := false }).fr := by
  have hg : s.p.get i = f := Pl.get_of hf
  obtain ⟨hok1, hok2, hok3⟩ := h.ok n _ (h.held i f n hf hn)
  unfold PS.write1
  rw [hg]
  by_cases hq : (s.l.last : Int) ≤ f.pg.lsn
  · have hlay := h.lay
    obtain ⟨f1, f2, f3, f4, f5, f6⟩ := flush_calm h.wl h.calm (by omega) hq (by omega)
    have hflu : s.flu i = s.l.flush f.pg.lsn s.d := by unfold PS.flu; rw [hg]
    rw [decide_eq_true hq, cond_true, hflu, f1, f2]
    simp only [decide_true, cond_true]
    have hG : PGood ⟨s.p.synced, { s.l with last := s.l.tail }, (s.l.flush f.pg.lsn s.d).2.1⟩ lst := h.settle f3 f4 f5 f6 (by have := h.wl.st; omega) h.wl.last
    obtain ⟨g1, g2, g3, g4⟩ := hG.put (i := i) (n := n) (f := f) hf hn hc (by show f.pg.lsn < (s.l.tail : Int); exact hok3)
    refine ⟨g1, g2, ?_, ?_⟩
    · have hs0 : Sam s ⟨s.p.synced, { s.l with last := s.l.tail }, (s.l.flush f.pg.lsn s.d).2.1⟩ := ⟨rfl, rfl, rfl, f4, s.l.tail, rfl⟩
      exact hs0.trans g3
    · rw [g4]; rfl
  · rw [decide_eq_false hq, cond_false]
    obtain ⟨g1, g2, g3, g4⟩ := h.put hf hn hc (by omega)
    exact ⟨g1, g2, g3, by rw [g4]⟩
theorem pickAt_lt {n : Nat} (h : 1 ≤ n) (pick : Int) : PS.pickAt n pick < n := (modN_lt h pick).1
theorem PGood.take (h : PGood s lst) (pick : Int) : ∃ i, (s.take pick).2 = (i, 0) ∧ PGood (s.take pick).1 lst ∧ Sam s (s.take pick).1 ∧ (∃ g, (s.take pick).1.p.fr[i]? = some g ∧ g.num = -1) ∧
    ∀ n : Nat, (∀ (j : Nat) (f : Pf), s.p.fr[j]? = some f → f.num ≠ (n : Int)) → ∀ (j : Nat) (f : Pf), (s.take pick).1.p.fr[j]? = some f → f.num ≠ (n : Int) := by
  unfold PS.take
  cases hh : s.p.hold (-1) with
  | some i =>
    obtain ⟨g, hg, hgn⟩ := Pl.hold_some hh
    exact ⟨i, rfl, h, Sam.refl s, ⟨g, hg, hgn⟩, fun n hn => hn⟩
  | none =>
    have hlt := pickAt_lt h.f1 pick
    generalize PS.pickAt s.p.fr.length pick = i at hlt
    have hf : s.p.fr[i]? = some s.p.fr[i] := List.getElem?_eq_getElem hlt
    have hg : s.p.get i = s.p.fr[i] := Pl.get_of hf
    generalize s.p.fr[i] = f at hf hg
    rw [hg]
    have hnum : ∃ n : Nat, f.num = (n : Int) := by
      rcases h.nums i f hf with e | ⟨n, e, _⟩
      · exact absurd e (Pl.hold_none hh i f hf)
      · exact ⟨n, e⟩
    obtain ⟨n, hn⟩ := hnum
    cases hc : f.chg with
    | true =>
      obtain ⟨g1, g2, g3, g4⟩ := h.write1 hf hn hc
      simp only [cond_true, g1, decide_true]
      have hf' : (s.write1 i).1.p.fr[i]? = some { f with chg := false } := by rw [g4]; exact Pl.lay_at hf
      refine ⟨i, rfl, g2.drop hf' rfl, g3.trans (Sam.lay _ _ _), ⟨pf0, Pl.lay_at hf', rfl⟩, fun m hm j g hj => ?_⟩
      rcases Pl.lay_cases hj with ⟨_, rfl⟩ | ⟨hji, hj⟩
      · exact pf0_num m
      · rw [g4, Pl.lay_ne hji] at hj
        exact hm j g hj
    | false =>
      simp only [cond_false]
      refine ⟨i, rfl, h.drop hf hc, Sam.lay _ _ _, ⟨pf0, Pl.lay_at hf, rfl⟩, fun m hm j g hj => ?_⟩
      rcases Pl.lay_cases hj with ⟨_, rfl⟩ | ⟨hji, hj⟩
      · exact pf0_num m
      · exact hm j g hj
theorem known_ok {p : Pl} {n : Nat} (h : n < p.pages) : p.known (n : Int) = 0 := by
  unfold Pl.known
  rw [decide_eq_false (show ¬ ((n : Int) < 0) by omega), decide_eq_false (show ¬ ((p.pages : Int) ≤ n) by omega)]; rfl
theorem PGood.raw (h : PGood s lst) {n : Nat} (hn : n < s.p.pages) : s.raw (n : Int) = (sec8 s.d (s.p.frm + 8 * n), 0) := by
  have := h.lay.2
  unfold PS.raw
  rw [show (s.p.frm : Int) + 8 * (n : Int) = ((s.p.frm + 8 * n : Nat) : Int) from by omega]
  exact read_calm h.calm (by omega)
theorem PGood.fetch (h : PGood s lst) {n : Nat} (hn : n < s.p.pages) (pick : Int) : PGood (s.fetch n pick).1 lst ∧ Sam s (s.fetch n pick).1 ∧ (s.fetch n pick).2 = (match lst n with | some b => (b, 0) | none => (pg0, 60)) := by
  unfold PS.fetch
  rw [known_ok hn, h.raw hn]
  simp only [decide_true, cond_true]
  cases hh : s.p.hold (n : Int) with
  | some i =>
    obtain ⟨f, hf, hfn⟩ := Pl.hold_some hh
    rw [h.held i f n hf hfn]
    simp only [Pl.get_of hf]
    exact ⟨h, Sam.refl s, (by trivial)⟩
  | none =>
    have hno := Pl.hold_none hh
    obtain ⟨h1, h2⟩ := h.free n hn (fun j f hj e => absurd e (hno j f hj))
    have hp : page s n = pDec (sec8 s.d (s.p.frm + 8 * n)) := rfl
    simp only [← hp]
    cases hl : lst n with
    | none =>
      simp only [decide_eq_false (h2 hl), cond_false]
      exact ⟨h, Sam.refl s, (by trivial)⟩
    | some b =>
      rw [h1 b hl]
      obtain ⟨i, t1, t2, t3, ⟨g, t4, t5⟩, t6⟩ := h.take pick
      rw [t1]
      simp only [decide_true, cond_true]
      exact ⟨t2.fill t4 t5 (t6 n hno) (by rw [t3.pages]; exact hn) hl, t3.trans (Sam.lay _ _ _), (by trivial)⟩
def setE (b : Pg) : Int := if pErr b = 0 then (if b.lsn < 1 then 1 else 0) else pErr b
theorem PGood.set (h : PGood s lst) {n : Nat} (hn : n < s.p.pages) {b : Pg} (hb : b.lsn < (s.l.tail : Int)) (pick : Int) : (s.set n b pick).2 = setE b ∧ Sam s (s.set n b pick).1 ∧ PGood (s.set n b pick).1 (if setE b = 0 then upd lst n b else lst) := by
  have hown : ∀ (t : PS) (i : Nat), Sam t (t.own i n b) := fun t i => ⟨rfl, rfl, Pl.lay_len _ _ _, rfl, t.l.last, rfl⟩
  unfold PS.set
  rw [known_ok hn, pEnc_err]
  simp only [decide_true, cond_true]
  by_cases h1 : pErr b = 0
  · by_cases h2 : b.lsn < 1
    · rw [show setE b = 1 from by unfold setE; rw [if_pos h1, if_pos h2], decide_eq_true h1, decide_eq_true h2]
      exact ⟨rfl, Sam.refl s, h⟩
    · have hE : setE b = 0 := by unfold setE; rw [if_pos h1, if_neg h2]
      rw [hE, decide_eq_true h1, decide_eq_false h2, if_pos rfl]
      simp only [cond_true, cond_false]
      cases hh : s.p.hold (n : Int) with
      | some i =>
        obtain ⟨f, hf, hfn⟩ := Pl.hold_some hh
        exact ⟨rfl, hown _ _, h.own hf (.inl hfn) hn ⟨h1, by omega, hb⟩⟩
      | none =>
        have hno := Pl.hold_none hh
        obtain ⟨i, t1, t2, t3, ⟨g, t4, t5⟩, t6⟩ := h.take pick
        simp only [t1, decide_true, cond_true]
        exact ⟨(by trivial), t3.trans (hown _ _), t2.own t4 (.inr ⟨t5, t6 n hno⟩) (by rw [t3.pages]; exact hn) ⟨h1, by omega, by rw [t3.tail]; exact hb⟩⟩
  · have hE : setE b = pErr b := by unfold setE; rw [if_neg h1]
    rw [hE, decide_eq_false h1, if_neg h1]
    exact ⟨rfl, Sam.refl s, h⟩
theorem PGood.write (h : PGood s lst) {n : Nat} (hn : n < s.p.pages) : (s.write n).2 = 0 ∧ Sam s (s.write n).1 ∧ PGood (s.write n).1 lst := by
  unfold PS.write
  rw [known_ok hn]
  simp only [decide_true, cond_true]
  cases hh : s.p.hold (n : Int) with
  | none => exact ⟨rfl, Sam.refl s, h⟩
  | some i =>
    obtain ⟨f, hf, hfn⟩ := Pl.hold_some hh
    simp only [Pl.get_of hf]
    cases hc : f.chg with
    | false => exact ⟨rfl, Sam.refl s, h⟩
    | true =>
      obtain ⟨g1, g2, g3, _⟩ := h.write1 hf hfn hc
      exact ⟨g1, g3, g2⟩
theorem PGood.append (h : PGood s lst) (r : Rc) (hl : ∀ m ∈ r.imgs, m.2.lsn ≤ 9223372036854775807) : PGood ⟨s.p, (s.l.append r).1, s.d⟩ lst ∧ s.l.tail ≤ (s.l.append r).1.tail ∧ ((s.l.append r).2.2 = 0 → (s.l.append r).2.1 = (s.l.tail : Int) ∧ s.l.tail < (s.l.append r).1.tail) ∧ ((s.l.append r).2.2 ≠ 0 → (s.l.append r).2.1 = 0) := by
  have hw := h.wl.append r hl
  have key : (s.l.append r).1.frm = s.l.frm ∧ (s.l.append r).1.n = s.l.n ∧ (s.l.append r).1.last = s.l.last ∧ s.l.tail ≤ (s.l.append r).1.tail ∧ ((s.l.append r).2.2 = 0 → (s.l.append r).2.1 = (s.l.tail : Int) ∧ s.l.tail < (s.l.append r).1.tail) ∧ ((s.l.append r).2.2 ≠ 0 → (s.l.append r).2.1 = 0) := by
    unfold Lg.append
    cases hc : decide ((rCheck (atR r s.l.tail)).2 = 0) with
    | false =>
      rw [decide_eq_false_iff_not] at hc
      simp only [cond_false]
      exact ⟨trivial, trivial, trivial, Nat.le_refl _, fun e => absurd e hc, fun _ => trivial⟩
    | true =>
      rw [decide_eq_true_eq] at hc
      cases decide (s.l.room < ((rEnc (atR r s.l.tail)).1.length : Int)) with
      | true =>
        simp only [cond_true]
        exact ⟨trivial, trivial, trivial, Nat.le_refl _, (fun e => absurd e (by decide)), fun _ => trivial⟩
      | false =>
        have := (Lg.enc_len hc (r := atR r s.l.tail) hl).1
        simp only [cond_true, cond_false]
        refine ⟨trivial, trivial, trivial, ?_, fun _ => ⟨trivial, ?_⟩, fun e => absurd rfl e⟩
        · show s.l.base + s.l.kept.length ≤ s.l.base + (s.l.kept ++ _).length
          rw [List.length_append]; omega
        · show s.l.base + s.l.kept.length < s.l.base + (s.l.kept ++ _).length
          rw [List.length_append]; omega
  obtain ⟨k1, k2, k3, k4, k5, k6⟩ := key
  refine ⟨⟨hw, h.calm, ⟨by show (s.l.append r).1.frm + (s.l.append r).1.n ≤ _; rw [k1, k2]; exact h.lay.1, h.lay.2⟩, h.f1, h.nums, h.one, h.held, fun n b hb => ?_, h.dirty, h.free, fun n hn hp => ?_, h.syn⟩, k4, k5, k6⟩
  · obtain ⟨q1, q2, q3⟩ := h.ok n b hb
    exact ⟨q1, q2, by show b.lsn < ((s.l.append r).1.tail : Int); omega⟩
  · show _ < ((s.l.append r).1.last : Int)
    rw [k3]; exact h.safe n hn hp
/-- What is not owed is there behind a crash. -/
theorem PGood.crash (h : PGood s lst) (how : List Int) {n : Nat} (hn : n < s.p.pages) (ho : getD s.p.owed (n : Int) = none) {b : Pg} (hb : lst n = some b) : pDec (sec8 (s.d.crash how) (s.p.frm + 8 * n)) = (b, 0) := by
  have hlay := h.lay.2
  have hp := (h.free n hn (fun j f hj e => by
    cases hc : f.chg with
    | false => rfl
    | true => exact absurd ho (h.dirty j f n hj e hc))).1 b hb
  rw [← hp]
  unfold page
  rw [show sec8 (s.d.crash how) (s.p.frm + 8 * n) = sec8 s.d (s.p.frm + 8 * n) from sec8_eq (fun j hj => by
    show (Dk.mended how s.d)[_]? = _
    rw [Dk.mended_get, if_pos (by omega)]
    unfold Dk.mend
    rw [h.syn n hn ho j hj, cond_false]
    exact (Dk.getD_eq (by omega)).symm)]
end
theorem zeros_page : (pDec (zeros 512)).2 ≠ 0 := by
  intro h
  have h1 := (pErr_ok (enc_dec h).1).1.2.2.2.1
  have h2 : (pDec (zeros 512)).1.kind = ((0 : Nat) : Int) ∨ (pDec (zeros 512)).1 = pg0 := by
    have hl : (zeros 512).length = 512 := zeros_len 512
    by_cases h2 : beN 4 (crc ((zeros 512).drop 4)) = (zeros 512).take 4
    · cases h3 : pItems (dMany (zeros 512)) (dRest (zeros 512)) with
      | none => rw [pDec_none hl h2 h3]; exact .inr rfl
      | some x =>
        obtain ⟨l, t⟩ := x
        rw [pDec_some hl h2 h3]
        cases badD (zeros 512) t with
        | true => exact .inr rfl
        | false => exact .inl rfl
    · rw [pDec_sum hl h2]; exact .inr rfl
  rcases h2 with h2 | h2
  · rw [h2] at h1; omega
  · rw [h2] at h1; exact absurd h1 (by decide)
end Go.Proofs.YthbngnlmgplijaaGreatDoor

namespace Go.Proofs.YthbngnlmgplijaaGreatDoor
open Go.Al Go.Proofs
set_option maxRecDepth 100000
set_option linter.unusedVariables false
set_option linter.unusedSimpArgs false
/-- Function 31: almonry/almonrylaw06.note. -/
def T31 (k : KV) (w : World) : Prop :=
  New #[(Value.int IntKind.i64 0), (Value.int IntKind.i64 0), (Value.int IntKind.i64 0), (Value.int IntKind.u8 0), (Value.int IntKind.i64 0), (Value.int IntKind.i64 0), (Value.int IntKind.i64 0), (Value.int IntKind.i64 0), (Value.int IntKind.i64 0), (Value.int IntKind.i64 0), (Value.string (ByteArray.mk #[])), (Value.slice none 0 0), (Value.slice none 0 0), (Value.slice none 0 0), (Value.slice none 0 0), (Value.slice none 0 0)] 28 w fun t0_1 w_2 =>
  RunS Tryz.prog (Instr.build 28 #[(3, (Value.int IntKind.u8 2)), (4, (Value.int IntKind.i64 1))]) w_2 fun t1_3 w_4 =>
  St 16 w_4 t0_1 t1_3 fun u_5 w_6 =>
  RetO (resL Tryz.prog (fun j => bif Nat.beq j 0 then t0_1 else undef) w_6 [(ResultVar.cell 0 28)]) w_6 k
theorem e31 (k : KV) (w : World) : K KD Tryz.prog 2 (fun j =>  []) (fun j =>  none) (Tryz.f31.body.getD .skip) (retQ Tryz.prog Tryz.f31 k) (argF []) w = T31 k  w := by kernel_rfl
theorem c31 {k : KV} {w : World} (h : T31 k  w) : Cl Tryz.prog 31 [] w k :=
  Cl_of_K KD_sound mixed Tryz.func31 (by kernel_rfl) (by kernel_rfl) ((e31 k  w).symm ▸ h)

/-- Function 32: (*almonry/pool.Pool).Set. -/
def T32 (k : KV) (p0 : Value) (n1 : Value) (body2 : Value) (pick3 : Value) (w : World) : Prop :=
  New (Value.cells body2) 61 w fun body6_1 w_2 =>
  Cl Tryz.prog 102 [p0, n1] w_2 fun t16_3 w_4 =>
  Pu (binV (TypeDesc.int IntKind.i64) .neq t16_3 (Value.int IntKind.i64 0)) fun t18_5 =>
  IfB t18_5
    (k t16_3 w_4)
    (LdN 6 w_4 body6_1 fun t21_6 w_7 =>
  Cl Tryz.prog 103 [t21_6] w_7 fun t22_8 w_9 =>
  Pu (extV t22_8 0) fun t23_10 =>
  Pu (extV t22_8 1) fun t24_11 =>
  Pu (binV (TypeDesc.int IntKind.i64) .neq t24_11 (Value.int IntKind.i64 0)) fun t26_12 =>
  IfB t26_12
    (k t24_11 w_9)
    (Pu (faV 0 body6_1) fun t28_13 =>
  Ld w_9 t28_13 fun t29_14 w_15 =>
  Pu (binV (TypeDesc.int IntKind.i64) .lss t29_14 (Value.int IntKind.i64 1)) fun t30_16 =>
  IfB t30_16
    (k (Value.int IntKind.i64 1) w_15)
    (Cl Tryz.prog 104 [p0, n1] w_15 fun t33_17 w_18 =>
  Jn (fun vs_35 w_34 => ∀ g_36 : Fr, ∃ f12_21 : Value, vs_35 = [f12_21] ∧
      (LdN 6 w_34 body6_1 fun t46_37 w_38 =>
      RunS Tryz.prog (Instr.build 143 #[(0, t46_37), (1, n1), (2, (Value.bool true))]) w_38 fun t48_39 w_40 =>
      Pu (nilV f12_21) fun t49_41 =>
      St 8 w_40 t49_41 t48_39 fun u_42 w_43 =>
      Pu (faV 5 body6_1) fun t51_44 =>
      Ld w_43 t51_44 fun t52_45 w_46 =>
      Cl Tryz.prog 106 [t52_45] w_46 fun t53_47 w_48 =>
      Pu (nilV f12_21) fun t54_49 =>
      Pu (faV 0 t54_49) fun t55_50 =>
      Pu (faV 5 t55_50) fun t56_51 =>
      St 1 w_48 t56_51 t53_47 fun u_52 w_53 =>
      Jn (fun vs_67 w_66 => ∀ g_68 : Fr, vs_67 = [] ∧
          (k (Value.int IntKind.i64 0) w_66))
        (fun jj_54 =>
        Cl Tryz.prog 43 [p0, n1] w_53 fun t59_69 w_70 =>
        Pu (unV .not t59_69) fun t60_71 =>
        IfB t60_71
          (Pu (nilV p0) fun t62_72 =>
            Pu (faV 5 t62_72) fun t63_73 =>
            Ld (World.drew w_70) t63_73 fun t64_74 w_75 =>
            w_75 = (World.drew w_70) ∧
            Pu (faV 0 body6_1) fun t66_76 =>
            Ld (World.drew w_70) t66_76 fun t67_77 w_78 =>
            w_78 = (World.drew w_70) ∧
            RunU Tryz.prog (Instr.mapUpdate 146 t64_74 n1 t67_77) (World.drew w_70) fun u_79 w_80 =>
            jj_54 [] w_80)
          (jj_54 [] w_70))))
    (fun jj_19 =>
    Pu (binV (TypeDesc.pointer 143) .eql t33_17 (Value.pointer none)) fun t35_81 =>
    IfB t35_81
      (Cl Tryz.prog 105 [p0, pick3] w_18 fun t39_82 w_83 =>
        Pu (extV t39_82 0) fun t40_84 =>
        Pu (extV t39_82 1) fun t41_85 =>
        Pu (binV (TypeDesc.int IntKind.i64) .neq t41_85 (Value.int IntKind.i64 0)) fun t43_86 =>
        IfB t43_86
          (k t41_85 w_83)
          (jj_19 [t40_84] w_83))
      (jj_19 [t33_17] w_18)))))
theorem e32 (k : KV) (p0 : Value) (n1 : Value) (body2 : Value) (pick3 : Value) (w : World) : K KD Tryz.prog 68 (fun j =>  []) (fun j => bif Nat.beq j 15 then some [12] else bif Nat.beq j 19 then some [] else none) (Tryz.f32.body.getD .skip) (retQ Tryz.prog Tryz.f32 k) (argF [p0, n1, body2, pick3]) w = T32 k p0 n1 body2 pick3 w := by kernel_rfl
theorem c32 {k : KV} {p0 : Value} {n1 : Value} {body2 : Value} {pick3 : Value} {w : World} (h : T32 k p0 n1 body2 pick3 w) : Cl Tryz.prog 32 [p0, n1, body2, pick3] w k :=
  Cl_of_K KD_sound mixed Tryz.func32 (by kernel_rfl) (by kernel_rfl) ((e32 k p0 n1 body2 pick3 w).symm ▸ h)

/-- Function 33: (*almonry/pool.Pool).Fetch. -/
def T33 (k : KV) (p0 : Value) (n1 : Value) (pick2 : Value) (w : World) : Prop :=
  New #[(Value.int IntKind.i64 0), (Value.int IntKind.i64 0), (Value.int IntKind.i64 0), (Value.int IntKind.i64 0), (Value.string (ByteArray.mk #[])), (Value.slice none 0 0)] 61 w fun t6_1 w_2 =>
  Cl Tryz.prog 102 [p0, n1] w_2 fun t16_3 w_4 =>
  Pu (binV (TypeDesc.int IntKind.i64) .neq t16_3 (Value.int IntKind.i64 0)) fun t18_5 =>
  IfB t18_5
    (RunS Tryz.prog (Instr.build 61 #[]) w_4 fun t19_6 w_7 =>
      St 6 w_7 t6_1 t19_6 fun u_8 w_9 =>
      RetO (resL Tryz.prog (fun j => bif Nat.beq j 6 then t6_1 else bif Nat.beq j 7 then t16_3 else undef) w_9 [(ResultVar.cell 6 61), (ResultVar.tmp 7)]) w_9 k)
    (Cl Tryz.prog 104 [p0, n1] w_4 fun t23_10 w_11 =>
  Pu (binV (TypeDesc.pointer 143) .neq t23_10 (Value.pointer none)) fun t25_12 =>
  IfB t25_12
    (Cl Tryz.prog 107 [t23_10] w_11 fun t27_13 w_14 =>
      St 6 w_14 t6_1 t27_13 fun u_15 w_16 =>
      RetO (resL Tryz.prog (fun j => bif Nat.beq j 6 then t6_1 else bif Nat.beq j 7 then (Value.int IntKind.i64 0) else undef) w_16 [(ResultVar.cell 6 61), (ResultVar.tmp 7)]) w_16 k)
    (Pu (nilV p0) fun t30_17 =>
  Pu (faV 0 t30_17) fun t31_18 =>
  Ld (World.drew w_11) t31_18 fun t32_19 w_20 =>
  w_20 = (World.drew w_11) ∧
  Pu (nilV p0) fun t34_21 =>
  Pu (faV 2 t34_21) fun t35_22 =>
  Ld (World.drew w_11) t35_22 fun t36_23 w_24 =>
  w_24 = (World.drew w_11) ∧
  Pu (binV (TypeDesc.int IntKind.i64) .mul (Value.int IntKind.i64 8) n1) fun t38_25 =>
  Pu (binV (TypeDesc.int IntKind.i64) .add t36_23 t38_25) fun t39_26 =>
  Cl Tryz.prog 40 [t32_19, t39_26, (Value.int IntKind.i64 8)] (World.drew w_11) fun t40_27 w_28 =>
  Pu (extV t40_27 0) fun t41_29 =>
  Pu (extV t40_27 1) fun t42_30 =>
  Pu (binV (TypeDesc.int IntKind.i64) .neq t42_30 (Value.int IntKind.i64 0)) fun t44_31 =>
  IfB t44_31
    (RunS Tryz.prog (Instr.build 61 #[]) w_28 fun t45_32 w_33 =>
      St 6 w_33 t6_1 t45_32 fun u_34 w_35 =>
      RetO (resL Tryz.prog (fun j => bif Nat.beq j 6 then t6_1 else bif Nat.beq j 7 then t42_30 else undef) w_35 [(ResultVar.cell 6 61), (ResultVar.tmp 7)]) w_35 k)
    (Cl Tryz.prog 41 [t41_29] w_28 fun t49_36 w_37 =>
  Pu (extV t49_36 0) fun t50_38 =>
  Pu (extV t49_36 1) fun t51_39 =>
  New #[(Value.int IntKind.i64 0), (Value.int IntKind.i64 0), (Value.int IntKind.i64 0), (Value.int IntKind.i64 0), (Value.string (ByteArray.mk #[])), (Value.slice none 0 0)] 61 w_37 fun body12_40 w_41 =>
  St 6 w_41 body12_40 t50_38 fun u_42 w_43 =>
  Pu (binV (TypeDesc.int IntKind.i64) .neq t51_39 (Value.int IntKind.i64 0)) fun t53_44 =>
  IfB t53_44
    (RunS Tryz.prog (Instr.build 61 #[]) w_43 fun t54_45 w_46 =>
      St 6 w_46 t6_1 t54_45 fun u_47 w_48 =>
      RetO (resL Tryz.prog (fun j => bif Nat.beq j 6 then t6_1 else bif Nat.beq j 7 then (Value.int IntKind.i64 60) else undef) w_48 [(ResultVar.cell 6 61), (ResultVar.tmp 7)]) w_48 k)
    (Cl Tryz.prog 105 [p0, pick2] w_43 fun t58_49 w_50 =>
  Pu (extV t58_49 0) fun t59_51 =>
  Pu (extV t58_49 1) fun t60_52 =>
  Pu (binV (TypeDesc.int IntKind.i64) .neq t60_52 (Value.int IntKind.i64 0)) fun t62_53 =>
  IfB t62_53
    (RunS Tryz.prog (Instr.build 61 #[]) w_50 fun t63_54 w_55 =>
      St 6 w_55 t6_1 t63_54 fun u_56 w_57 =>
      RetO (resL Tryz.prog (fun j => bif Nat.beq j 6 then t6_1 else bif Nat.beq j 7 then t60_52 else undef) w_57 [(ResultVar.cell 6 61), (ResultVar.tmp 7)]) w_57 k)
    (LdN 6 w_50 body12_40 fun t66_58 w_59 =>
  RunS Tryz.prog (Instr.build 143 #[(0, t66_58), (1, n1)]) w_59 fun t68_60 w_61 =>
  Pu (nilV t59_51) fun t69_62 =>
  St 8 w_61 t69_62 t68_60 fun u_63 w_64 =>
  Cl Tryz.prog 107 [t59_51] w_64 fun t71_65 w_66 =>
  St 6 w_66 t6_1 t71_65 fun u_67 w_68 =>
  RetO (resL Tryz.prog (fun j => bif Nat.beq j 6 then t6_1 else bif Nat.beq j 7 then (Value.int IntKind.i64 0) else undef) w_68 [(ResultVar.cell 6 61), (ResultVar.tmp 7)]) w_68 k)))))
theorem e33 (k : KV) (p0 : Value) (n1 : Value) (pick2 : Value) (w : World) : K KD Tryz.prog 72 (fun j =>  []) (fun j =>  none) (Tryz.f33.body.getD .skip) (retQ Tryz.prog Tryz.f33 k) (argF [p0, n1, pick2]) w = T33 k p0 n1 pick2 w := by kernel_rfl
theorem c33 {k : KV} {p0 : Value} {n1 : Value} {pick2 : Value} {w : World} (h : T33 k p0 n1 pick2 w) : Cl Tryz.prog 33 [p0, n1, pick2] w k :=
  Cl_of_K KD_sound mixed Tryz.func33 (by kernel_rfl) (by kernel_rfl) ((e33 k p0 n1 pick2 w).symm ▸ h)

/-- Function 35: almonry/almonrylaw06.awake. -/
def T35 (k : KV) (w : World) : Prop :=
  Cl Tryz.prog 17 [(Value.int IntKind.i64 60)] w fun t14_1 w_2 =>
  Pu (extV t14_1 0) fun t15_3 =>
  Pu (extV t14_1 1) fun t16_4 =>
  Pu (binV (TypeDesc.int IntKind.i64) .neq t16_4 (Value.int IntKind.i64 0)) fun t18_5 =>
  Gd (isB false t18_5) (fun kk => kk t15_3 w_2) w_2 fun t20_6 w_7 =>
  Gd (isB false t18_5) (fun kk => Pu (binV (TypeDesc.pointer 126) .eql t20_6 (Value.pointer none)) fun vv => kk vv w_7) w_7 fun t21_8 w_9 =>
  Pu (pickV t18_5 (Value.bool true) t21_8) fun t22_10 =>
  IfB t22_10
    (k (Value.bool false) w_9)
    (Cl Tryz.prog 18 [t15_3, (Value.int IntKind.i64 0), (Value.int IntKind.i64 10)] w_9 fun t25_11 w_12 =>
  Pu (extV t25_11 0) fun t26_13 =>
  Pu (extV t25_11 1) fun t27_14 =>
  Pu (binV (TypeDesc.int IntKind.i64) .neq t27_14 (Value.int IntKind.i64 0)) fun t29_15 =>
  Gd (isB false t29_15) (fun kk => kk t26_13 w_12) w_12 fun t31_16 w_17 =>
  Gd (isB false t29_15) (fun kk => Pu (binV (TypeDesc.pointer 132) .eql t31_16 (Value.pointer none)) fun vv => kk vv w_17) w_17 fun t32_18 w_19 =>
  Pu (pickV t29_15 (Value.bool true) t32_18) fun t33_20 =>
  IfB t33_20
    (k (Value.bool false) w_19)
    (Cl Tryz.prog 36 [t15_3, t26_13, (Value.int IntKind.i64 10), (Value.int IntKind.i64 4), (Value.int IntKind.i64 1)] w_19 fun t37_21 w_22 =>
  Pu (extV t37_21 0) fun t38_23 =>
  Pu (extV t37_21 1) fun t39_24 =>
  Pu (binV (TypeDesc.int IntKind.i64) .neq t39_24 (Value.int IntKind.i64 0)) fun t41_25 =>
  Gd (isB false t41_25) (fun kk => kk t38_23 w_22) w_22 fun t43_26 w_27 =>
  Gd (isB false t41_25) (fun kk => Pu (binV (TypeDesc.pointer 148) .eql t43_26 (Value.pointer none)) fun vv => kk vv w_27) w_27 fun t44_28 w_29 =>
  Pu (pickV t41_25 (Value.bool true) t44_28) fun t45_30 =>
  IfB t45_30
    (k (Value.bool false) w_29)
    (Cl Tryz.prog 31 [] w_29 fun t48_31 w_32 =>
  Cl Tryz.prog 21 [t26_13, t48_31] w_32 fun t49_33 w_34 =>
  Pu (extV t49_33 0) fun t50_35 =>
  Pu (extV t49_33 1) fun t51_36 =>
  RunS Tryz.prog (Instr.buildSlice 59 1 #[(0, (Value.string (ByteArray.mk #[120])))]) w_34 fun t54_37 w_38 =>
  RunS Tryz.prog (Instr.build 61 #[(0, t50_35), (1, (Value.int IntKind.i64 2)), (5, t54_37)]) w_38 fun t55_39 w_40 =>
  Cl Tryz.prog 32 [t38_23, (Value.int IntKind.i64 2), t55_39, (Value.int IntKind.i64 0)] w_40 fun t56_41 w_42 =>
  RunS Tryz.prog (Instr.build 61 #[(0, t50_35), (1, (Value.int IntKind.i64 2))]) w_42 fun t59_43 w_44 =>
  Cl Tryz.prog 32 [t38_23, (Value.int IntKind.i64 3), t59_43, (Value.int IntKind.i64 0)] w_44 fun t60_45 w_46 =>
  Cl Tryz.prog 33 [t38_23, (Value.int IntKind.i64 2), (Value.int IntKind.i64 0)] w_46 fun t63_47 w_48 =>
  Pu (extV t63_47 0) fun t64_49 =>
  Pu (extV t63_47 1) fun t65_50 =>
  New #[(Value.int IntKind.i64 0), (Value.int IntKind.i64 0), (Value.int IntKind.i64 0), (Value.int IntKind.i64 0), (Value.string (ByteArray.mk #[])), (Value.slice none 0 0)] 61 w_48 fun b11_51 w_52 =>
  St 6 w_52 b11_51 t64_49 fun u_53 w_54 =>
  Pu (binV (TypeDesc.int IntKind.i64) .eql t56_41 (Value.int IntKind.i64 0)) fun t67_55 =>
  Gd (isB true t67_55) (fun kk => kk t60_45 w_54) w_54 fun t69_56 w_57 =>
  Gd (isB true t67_55) (fun kk => Pu (binV (TypeDesc.int IntKind.i64) .eql t69_56 (Value.int IntKind.i64 0)) fun vv => kk vv w_57) w_57 fun t70_58 w_59 =>
  Pu (pickV t67_55 t70_58 (Value.bool false)) fun t71_60 =>
  Gd (isB true t71_60) (fun kk => kk t65_50 w_59) w_59 fun t73_61 w_62 =>
  Gd (isB true t71_60) (fun kk => Pu (binV (TypeDesc.int IntKind.i64) .eql t73_61 (Value.int IntKind.i64 0)) fun vv => kk vv w_62) w_62 fun t74_63 w_64 =>
  Pu (pickV t71_60 t74_63 (Value.bool false)) fun t75_65 =>
  Gd (isB true t75_65) (fun kk => Pu (faV 5 b11_51) fun vv => kk vv w_64) w_64 fun t77_66 w_67 =>
  Gd (isB true t75_65) (fun kk => Ld w_67 t77_66 kk) w_67 fun t78_68 w_69 =>
  Gd (isB true t75_65) (fun kk => Pu (lenV t78_68) fun vv => kk vv w_69) w_69 fun t79_70 w_71 =>
  Gd (isB true t75_65) (fun kk => Pu (binV (TypeDesc.int IntKind.i64) .eql t79_70 (Value.int IntKind.i64 1)) fun vv => kk vv w_71) w_71 fun t80_72 w_73 =>
  Pu (pickV t75_65 t80_72 (Value.bool false)) fun t81_74 =>
  Gd (isB true t81_74) (fun kk => Pu (faV 5 b11_51) fun vv => kk vv w_73) w_73 fun t83_75 w_76 =>
  Gd (isB true t81_74) (fun kk => Ld w_76 t83_75 kk) w_76 fun t84_77 w_78 =>
  Gd (isB true t81_74) (fun kk => Pu (ixV 1 t84_77 (Value.int IntKind.i64 0)) fun vv => kk vv w_78) w_78 fun t85_79 w_80 =>
  Gd (isB true t81_74) (fun kk => Ld w_80 t85_79 kk) w_80 fun t86_81 w_82 =>
  Gd (isB true t81_74) (fun kk => Pu (binV TypeDesc.string .eql t86_81 (Value.string (ByteArray.mk #[120]))) fun vv => kk vv w_82) w_82 fun t87_83 w_84 =>
  Pu (pickV t81_74 t87_83 (Value.bool false)) fun t88_85 =>
  Gd (isB true t88_85) (fun kk => kk t26_13 w_84) w_84 fun t90_86 w_87 =>
  Gd (isB true t88_85) (fun kk => Cl Tryz.prog 27 [t90_86] w_87 kk) w_87 fun t91_88 w_89 =>
  Gd (isB true t88_85) (fun kk => kk t26_13 w_89) w_89 fun t92_90 w_91 =>
  Gd (isB true t88_85) (fun kk => Cl Tryz.prog 20 [t92_90] w_91 kk) w_91 fun t93_92 w_93 =>
  Gd (isB true t88_85) (fun kk => Pu (binV (TypeDesc.int IntKind.i64) .eql t91_88 t93_92) fun vv => kk vv w_93) w_93 fun t94_94 w_95 =>
  Pu (pickV t88_85 t94_94 (Value.bool false)) fun t95_96 =>
  Gd (isB true t95_96) (fun kk => kk t38_23 w_95) w_95 fun t97_97 w_98 =>
  Gd (isB true t95_96) (fun kk => Cl Tryz.prog 43 [t97_97, (Value.int IntKind.i64 2)] w_98 kk) w_98 fun t98_99 w_100 =>
  Pu (pickV t95_96 t98_99 (Value.bool false)) fun t99_101 =>
  k t99_101 w_100)))
theorem e35 (k : KV) (w : World) : K KD Tryz.prog 100 (fun j =>  []) (fun j =>  none) (Tryz.f35.body.getD .skip) (retQ Tryz.prog Tryz.f35 k) (argF []) w = T35 k  w := by kernel_rfl
theorem c35 {k : KV} {w : World} (h : T35 k  w) : Cl Tryz.prog 35 [] w k :=
  Cl_of_K KD_sound mixed Tryz.func35 (by kernel_rfl) (by kernel_rfl) ((e35 k  w).symm ▸ h)

/-- Function 36: almonry/pool.New. -/
def T36 (k : KV) (d0 : Value) (l1 : Value) (fromv2 : Value) (pages3 : Value) (frames4 : Value) (w : World) : Prop :=
  Pu (binV (TypeDesc.pointer 126) .eql d0 (Value.pointer none)) fun t15_1 =>
  Gd (isB false t15_1) (fun kk => kk l1 w) w fun t17_2 w_3 =>
  Gd (isB false t15_1) (fun kk => Pu (binV (TypeDesc.pointer 132) .eql t17_2 (Value.pointer none)) fun vv => kk vv w_3) w_3 fun t18_4 w_5 =>
  Pu (pickV t15_1 (Value.bool true) t18_4) fun t19_6 =>
  Gd (isB false t19_6) (fun kk => kk frames4 w_5) w_5 fun t21_7 w_8 =>
  Gd (isB false t19_6) (fun kk => Pu (binV (TypeDesc.int IntKind.i64) .lss t21_7 (Value.int IntKind.i64 1)) fun vv => kk vv w_8) w_8 fun t22_9 w_10 =>
  Pu (pickV t19_6 (Value.bool true) t22_9) fun t23_11 =>
  Gd (isB false t23_11) (fun kk => kk frames4 w_10) w_10 fun t25_12 w_13 =>
  Gd (isB false t23_11) (fun kk => Pu (binV (TypeDesc.int IntKind.i64) .gtr t25_12 (Value.int IntKind.i64 1024)) fun vv => kk vv w_13) w_13 fun t26_14 w_15 =>
  Pu (pickV t23_11 (Value.bool true) t26_14) fun t27_16 =>
  Gd (isB false t27_16) (fun kk => kk pages3 w_15) w_15 fun t29_17 w_18 =>
  Gd (isB false t27_16) (fun kk => Pu (binV (TypeDesc.int IntKind.i64) .lss t29_17 (Value.int IntKind.i64 1)) fun vv => kk vv w_18) w_18 fun t30_19 w_20 =>
  Pu (pickV t27_16 (Value.bool true) t30_19) fun t31_21 =>
  Gd (isB false t31_21) (fun kk => kk pages3 w_20) w_20 fun t33_22 w_23 =>
  Gd (isB false t31_21) (fun kk => Pu (binV (TypeDesc.int IntKind.i64) .gtr t33_22 (Value.int IntKind.i64 8192)) fun vv => kk vv w_23) w_23 fun t34_24 w_25 =>
  Pu (pickV t31_21 (Value.bool true) t34_24) fun t35_26 =>
  Gd (isB false t35_26) (fun kk => kk fromv2 w_25) w_25 fun t37_27 w_28 =>
  Gd (isB false t35_26) (fun kk => Pu (binV (TypeDesc.int IntKind.i64) .lss t37_27 (Value.int IntKind.i64 0)) fun vv => kk vv w_28) w_28 fun t38_29 w_30 =>
  Pu (pickV t35_26 (Value.bool true) t38_29) fun t39_31 =>
  Gd (isB false t39_31) (fun kk => kk fromv2 w_30) w_30 fun t41_32 w_33 =>
  Gd (isB false t39_31) (fun kk => kk d0 w_33) w_33 fun t42_34 w_35 =>
  Gd (isB false t39_31) (fun kk => Cl Tryz.prog 108 [t42_34] w_35 kk) w_35 fun t43_36 w_37 =>
  Gd (isB false t39_31) (fun kk => kk pages3 w_37) w_37 fun t44_38 w_39 =>
  Gd (isB false t39_31) (fun kk => Pu (binV (TypeDesc.int IntKind.i64) .mul (Value.int IntKind.i64 8) t44_38) fun vv => kk vv w_39) w_39 fun t45_40 w_41 =>
  Gd (isB false t39_31) (fun kk => Pu (binV (TypeDesc.int IntKind.i64) .sub t43_36 t45_40) fun vv => kk vv w_41) w_41 fun t46_42 w_43 =>
  Gd (isB false t39_31) (fun kk => Pu (binV (TypeDesc.int IntKind.i64) .gtr t41_32 t46_42) fun vv => kk vv w_43) w_43 fun t47_44 w_45 =>
  Pu (pickV t39_31 (Value.bool true) t47_44) fun t48_46 =>
  IfB t48_46
    (k (.tuple #[(Value.pointer none), (Value.int IntKind.i64 1)]) w_45)
    (RunS Tryz.prog (Instr.makeSlice 145 frames4 frames4) w_45 fun t54_47 w_48 =>
  RunS Tryz.prog (Instr.makeMap 146 none) w_48 fun t55_49 w_50 =>
  RunS Tryz.prog (Instr.build 148 #[(0, d0), (1, l1), (2, fromv2), (3, pages3), (4, t54_47), (5, t55_49)]) w_50 fun t56_51 w_52 =>
  New (Value.cells t56_51) 148 w_52 fun t57_53 w_54 =>
  Pu (nilV t57_53) fun t59_55 =>
  Pu (faV 4 t59_55) fun t60_56 =>
  Ld w_54 t60_56 fun t61_57 w_58 =>
  Pu (lenV t61_57) fun t62_59 =>
  ∃ (I_60 : List Value → World → Prop) (m_61 : List Value → World → Nat), I_60 [(Value.int IntKind.i64 0)] w_58 ∧
  ∀ (g_76 : Fr) (w_75 : World), ∀ t63_64 : Value, I_60 [t63_64] w_75 →
    (Pu (binV (TypeDesc.int IntKind.i64) .lss t63_64 t62_59) fun t64_77 =>
    IfB t64_77
      (Pu (nilV t57_53) fun t67_78 =>
    Pu (faV 4 t67_78) fun t68_79 =>
    Ld w_75 t68_79 fun t69_80 w_81 =>
    Pu (ixV 8 t69_80 t63_64) fun t71_82 =>
    Pu (faV 6 t71_82) fun t72_83 =>
    St 1 w_81 t72_83 (Value.int IntKind.i64 (-1)) fun u_84 w_85 =>
    Pu (binV (TypeDesc.int IntKind.i64) .add t63_64 (Value.int IntKind.i64 1)) fun t73_86 =>
    I_60 [t73_86] w_85 ∧ m_61 [t73_86] w_85 < m_61 [t63_64] w_75)
      (k (.tuple #[t57_53, (Value.int IntKind.i64 0)]) w_75)))
theorem e36 (k : KV) (d0 : Value) (l1 : Value) (fromv2 : Value) (pages3 : Value) (frames4 : Value) (w : World) : K KD Tryz.prog 75 (fun j => bif Nat.beq j 5 then [63] else []) (fun j =>  none) (Tryz.f36.body.getD .skip) (retQ Tryz.prog Tryz.f36 k) (argF [d0, l1, fromv2, pages3, frames4]) w = T36 k d0 l1 fromv2 pages3 frames4 w := by kernel_rfl
theorem c36 {k : KV} {d0 : Value} {l1 : Value} {fromv2 : Value} {pages3 : Value} {frames4 : Value} {w : World} (h : T36 k d0 l1 fromv2 pages3 frames4 w) : Cl Tryz.prog 36 [d0, l1, fromv2, pages3, frames4] w k :=
  Cl_of_K KD_sound mixed Tryz.func36 (by kernel_rfl) (by kernel_rfl) ((e36 k d0 l1 fromv2 pages3 frames4 w).symm ▸ h)

/-- Function 37: (*almonry/pool.Pool).Write. -/
def T37 (k : KV) (p0 : Value) (n1 : Value) (w : World) : Prop :=
  Cl Tryz.prog 102 [p0, n1] w fun t9_1 w_2 =>
  Pu (binV (TypeDesc.int IntKind.i64) .neq t9_1 (Value.int IntKind.i64 0)) fun t11_3 =>
  IfB t11_3
    (k t9_1 w_2)
    (Cl Tryz.prog 104 [p0, n1] w_2 fun t15_4 w_5 =>
  Pu (binV (TypeDesc.pointer 143) .neq t15_4 (Value.pointer none)) fun t17_6 =>
  Gd (isB true t17_6) (fun kk => kk t15_4 w_5) w_5 fun t19_7 w_8 =>
  Gd (isB true t17_6) (fun kk => Pu (nilV t19_7) fun vv => kk vv w_8) w_8 fun t20_9 w_10 =>
  Gd (isB true t17_6) (fun kk => Pu (faV 7 t20_9) fun vv => kk vv w_10) w_10 fun t21_11 w_12 =>
  Gd (isB true t17_6) (fun kk => Ld w_12 t21_11 kk) w_12 fun t22_13 w_14 =>
  Pu (pickV t17_6 t22_13 (Value.bool false)) fun t23_15 =>
  IfB t23_15
    (Cl Tryz.prog 109 [p0, t15_4] w_14 fun t26_16 w_17 =>
      k t26_16 w_17)
    (k (Value.int IntKind.i64 0) w_14))
theorem e37 (k : KV) (p0 : Value) (n1 : Value) (w : World) : K KD Tryz.prog 27 (fun j =>  []) (fun j =>  none) (Tryz.f37.body.getD .skip) (retQ Tryz.prog Tryz.f37 k) (argF [p0, n1]) w = T37 k p0 n1 w := by kernel_rfl
theorem c37 {k : KV} {p0 : Value} {n1 : Value} {w : World} (h : T37 k p0 n1 w) : Cl Tryz.prog 37 [p0, n1] w k :=
  Cl_of_K KD_sound mixed Tryz.func37 (by kernel_rfl) (by kernel_rfl) ((e37 k p0 n1 w).symm ▸ h)

/-- Function 39: (*almonry/pool.Pool).Synced. -/
def T39 (k : KV) (p0 : Value) (w : World) : Prop :=
  New (Value.cells p0) 54 w fun p1_1 w_2 =>
  Ld w_2 p1_1 fun t2_3 w_4 =>
  Pu (binV (TypeDesc.pointer 148) .eql t2_3 (Value.pointer none)) fun t3_5 =>
  IfB t3_5
    (k (.tuple #[]) w_4)
    (Ld w_4 p1_1 fun t4_6 w_7 =>
  Pu (nilV t4_6) fun t5_8 =>
  Pu (faV 5 t5_8) fun t6_9 =>
  Ld w_7 t6_9 fun t7_10 w_11 =>
  Cl Tryz.prog 112 [t7_10, (.func (Fn.func 113) #[] #[p1_1])] w_11 fun t9_12 w_13 =>
  k (.tuple #[]) w_13)
theorem e39 (k : KV) (p0 : Value) (w : World) : K KD Tryz.prog 10 (fun j =>  []) (fun j =>  none) (Tryz.f39.body.getD .skip) (retQ Tryz.prog Tryz.f39 k) (argF [p0]) w = T39 k p0 w := by kernel_rfl
theorem c39 {k : KV} {p0 : Value} {w : World} (h : T39 k p0 w) : Cl Tryz.prog 39 [p0] w k :=
  Cl_of_K KD_sound mixed Tryz.func39 (by kernel_rfl) (by kernel_rfl) ((e39 k p0 w).symm ▸ h)

/-- Function 43: (*almonry/pool.Pool).Owes. -/
def T43 (k : KV) (p0 : Value) (n1 : Value) (w : World) : Prop :=
  Pu (binV (TypeDesc.pointer 148) .eql p0 (Value.pointer none)) fun t8_1 =>
  IfB t8_1
    (k (Value.bool false) w)
    (Pu (nilV p0) fun t11_2 =>
  Pu (faV 5 t11_2) fun t12_3 =>
  Ld w t12_3 fun t13_4 w_5 =>
  RunS Tryz.prog (Instr.lookup 146 t13_4 n1 true) w_5 fun t15_6 w_7 =>
  Pu (extV t15_6 0) fun t16_8 =>
  Pu (extV t15_6 1) fun t17_9 =>
  k t17_9 w_7)
theorem e43 (k : KV) (p0 : Value) (n1 : Value) (w : World) : K KD Tryz.prog 19 (fun j =>  []) (fun j =>  none) (Tryz.f43.body.getD .skip) (retQ Tryz.prog Tryz.f43 k) (argF [p0, n1]) w = T43 k p0 n1 w := by kernel_rfl
theorem c43 {k : KV} {p0 : Value} {n1 : Value} {w : World} (h : T43 k p0 n1 w) : Cl Tryz.prog 43 [p0, n1] w k :=
  Cl_of_K KD_sound mixed Tryz.func43 (by kernel_rfl) (by kernel_rfl) ((e43 k p0 n1 w).symm ▸ h)

/-- Function 102: (*almonry/pool.Pool).known. -/
def T102 (k : KV) (p0 : Value) (n1 : Value) (w : World) : Prop :=
  Pu (binV (TypeDesc.pointer 148) .eql p0 (Value.pointer none)) fun t7_1 =>
  IfB t7_1
    (k (Value.int IntKind.i64 2) w)
    (Pu (binV (TypeDesc.int IntKind.i64) .lss n1 (Value.int IntKind.i64 0)) fun t10_2 =>
      Gd (isB false t10_2) (fun kk => kk n1 w) w fun t12_3 w_4 =>
      Gd (isB false t10_2) (fun kk => kk p0 w_4) w_4 fun t13_5 w_6 =>
      Gd (isB false t10_2) (fun kk => Pu (nilV t13_5) fun vv => kk vv w_6) w_6 fun t14_7 w_8 =>
      Gd (isB false t10_2) (fun kk => Pu (faV 3 t14_7) fun vv => kk vv w_8) w_8 fun t15_9 w_10 =>
      Gd (isB false t10_2) (fun kk => Ld w_10 t15_9 kk) w_10 fun t16_11 w_12 =>
      Gd (isB false t10_2) (fun kk => Pu (binV (TypeDesc.int IntKind.i64) .geq t12_3 t16_11) fun vv => kk vv w_12) w_12 fun t17_13 w_14 =>
      Pu (pickV t10_2 (Value.bool true) t17_13) fun t18_15 =>
      IfB t18_15
        (k (Value.int IntKind.i64 4) w_14)
        (k (Value.int IntKind.i64 0) w_14))
theorem e102 (k : KV) (p0 : Value) (n1 : Value) (w : World) : K KD Tryz.prog 19 (fun j =>  []) (fun j =>  none) (Tryz.f102.body.getD .skip) (retQ Tryz.prog Tryz.f102 k) (argF [p0, n1]) w = T102 k p0 n1 w := by kernel_rfl
theorem c102 {k : KV} {p0 : Value} {n1 : Value} {w : World} (h : T102 k p0 n1 w) : Cl Tryz.prog 102 [p0, n1] w k :=
  Cl_of_K KD_sound mixed Tryz.func102 (by kernel_rfl) (by kernel_rfl) ((e102 k p0 n1 w).symm ▸ h)

/-- Function 104: (*almonry/pool.Pool).holds. -/
def T104 (k : KV) (p0 : Value) (n1 : Value) (w : World) : Prop :=
  Pu (nilV p0) fun t7_1 =>
  Pu (faV 4 t7_1) fun t8_2 =>
  Ld w t8_2 fun t9_3 w_4 =>
  Pu (lenV t9_3) fun t10_5 =>
  ∃ (I_6 : List Value → World → Prop) (m_7 : List Value → World → Nat), I_6 [(Value.int IntKind.i64 0)] w_4 ∧
  ∀ (g_32 : Fr) (w_31 : World), ∀ t11_11 : Value, I_6 [t11_11] w_31 →
    (Pu (binV (TypeDesc.int IntKind.i64) .lss t11_11 t10_5) fun t12_33 =>
    IfB t12_33
      (Pu (nilV p0) fun t15_34 =>
    Pu (faV 4 t15_34) fun t16_35 =>
    Ld w_31 t16_35 fun t17_36 w_37 =>
    Pu (ixV 8 t17_36 t11_11) fun t19_38 =>
    Pu (faV 6 t19_38) fun t20_39 =>
    Ld w_37 t20_39 fun t21_40 w_41 =>
    Pu (binV (TypeDesc.int IntKind.i64) .eql t21_40 n1) fun t23_42 =>
    IfB t23_42
      (Pu (nilV p0) fun t25_43 =>
        Pu (faV 4 t25_43) fun t26_44 =>
        Ld w_41 t26_44 fun t27_45 w_46 =>
        Pu (ixV 8 t27_45 t11_11) fun t29_47 =>
        k t29_47 w_46)
      (Pu (binV (TypeDesc.int IntKind.i64) .add t11_11 (Value.int IntKind.i64 1)) fun t30_48 =>
    I_6 [t30_48] w_41 ∧ m_7 [t30_48] w_41 < m_7 [t11_11] w_31))
      (k (Value.pointer none) w_31))
theorem e104 (k : KV) (p0 : Value) (n1 : Value) (w : World) : K KD Tryz.prog 31 (fun j => bif Nat.beq j 2 then [11] else []) (fun j =>  none) (Tryz.f104.body.getD .skip) (retQ Tryz.prog Tryz.f104 k) (argF [p0, n1]) w = T104 k p0 n1 w := by kernel_rfl
theorem c104 {k : KV} {p0 : Value} {n1 : Value} {w : World} (h : T104 k p0 n1 w) : Cl Tryz.prog 104 [p0, n1] w k :=
  Cl_of_K KD_sound mixed Tryz.func104 (by kernel_rfl) (by kernel_rfl) ((e104 k p0 n1 w).symm ▸ h)

/-- Function 105: (*almonry/pool.Pool).take. -/
def T105 (k : KV) (p0 : Value) (pick1 : Value) (w : World) : Prop :=
  Cl Tryz.prog 104 [p0, (Value.int IntKind.i64 (-1))] w fun t11_1 w_2 =>
  Pu (binV (TypeDesc.pointer 143) .neq t11_1 (Value.pointer none)) fun t13_3 =>
  IfB t13_3
    (k (.tuple #[t11_1, (Value.int IntKind.i64 0)]) w_2)
    (Pu (nilV p0) fun t16_4 =>
  Pu (faV 4 t16_4) fun t17_5 =>
  Ld w_2 t17_5 fun t18_6 w_7 =>
  Pu (lenV t18_6) fun t19_8 =>
  Pu (nilV p0) fun t21_9 =>
  Pu (faV 4 t21_9) fun t22_10 =>
  Ld (World.drew w_7) t22_10 fun t23_11 w_12 =>
  w_12 = (World.drew w_7) ∧
  Pu (binV (TypeDesc.int IntKind.i64) .rem pick1 t19_8) fun t26_13 =>
  Pu (binV (TypeDesc.int IntKind.i64) .add t26_13 t19_8) fun t28_14 =>
  Pu (binV (TypeDesc.int IntKind.i64) .rem t28_14 t19_8) fun t30_15 =>
  Pu (ixV 8 t23_11 t30_15) fun t31_16 =>
  Jn (fun vs_32 w_31 => ∀ g_33 : Fr, vs_32 = [] ∧
      (RunS Tryz.prog (Instr.build 143 #[(1, (Value.int IntKind.i64 (-1)))]) w_31 fun t43_34 w_35 =>
      Pu (nilV t31_16) fun t44_36 =>
      St 8 w_35 t44_36 t43_34 fun u_37 w_38 =>
      k (.tuple #[t31_16, (Value.int IntKind.i64 0)]) w_38))
    (fun jj_17 =>
    Pu (nilV t31_16) fun t33_39 =>
    Pu (faV 7 t33_39) fun t34_40 =>
    Ld (World.drew w_7) t34_40 fun t35_41 w_42 =>
    IfB t35_41
      (Cl Tryz.prog 109 [p0, t31_16] w_42 fun t38_43 w_44 =>
        Pu (binV (TypeDesc.int IntKind.i64) .neq t38_43 (Value.int IntKind.i64 0)) fun t40_45 =>
        IfB t40_45
          (k (.tuple #[(Value.pointer none), t38_43]) w_44)
          (jj_17 [] w_44))
      (jj_17 [] w_42)))
theorem e105 (k : KV) (p0 : Value) (pick1 : Value) (w : World) : K KD Tryz.prog 46 (fun j =>  []) (fun j => bif Nat.beq j 10 then some [] else none) (Tryz.f105.body.getD .skip) (retQ Tryz.prog Tryz.f105 k) (argF [p0, pick1]) w = T105 k p0 pick1 w := by kernel_rfl
theorem c105 {k : KV} {p0 : Value} {pick1 : Value} {w : World} (h : T105 k p0 pick1 w) : Cl Tryz.prog 105 [p0, pick1] w k :=
  Cl_of_K KD_sound mixed Tryz.func105 (by kernel_rfl) (by kernel_rfl) ((e105 k p0 pick1 w).symm ▸ h)

/-- Function 107: (*almonry/pool.frame).fresh. -/
def T107 (k : KV) (f0 : Value) (w : World) : Prop :=
  New #[(Value.int IntKind.i64 0), (Value.int IntKind.i64 0), (Value.int IntKind.i64 0), (Value.int IntKind.i64 0), (Value.string (ByteArray.mk #[])), (Value.slice none 0 0)] 61 w fun t2_1 w_2 =>
  Pu (nilV f0) fun t5_3 =>
  Pu (faV 0 t5_3) fun t6_4 =>
  LdN 6 w_2 t6_4 fun t7_5 w_6 =>
  New #[(Value.int IntKind.i64 0), (Value.int IntKind.i64 0), (Value.int IntKind.i64 0), (Value.int IntKind.i64 0), (Value.string (ByteArray.mk #[])), (Value.slice none 0 0)] 61 w_6 fun p3_7 w_8 =>
  St 6 w_8 p3_7 t7_5 fun u_9 w_10 =>
  Pu (faV 5 p3_7) fun t8_11 =>
  Ld w_10 t8_11 fun t9_12 w_13 =>
  Cl Tryz.prog 106 [t9_12] w_13 fun t10_14 w_15 =>
  Pu (faV 5 p3_7) fun t11_16 =>
  St 1 w_15 t11_16 t10_14 fun u_17 w_18 =>
  LdN 6 w_18 p3_7 fun t12_19 w_20 =>
  St 6 w_20 t2_1 t12_19 fun u_21 w_22 =>
  RetO (resL Tryz.prog (fun j => bif Nat.beq j 2 then t2_1 else undef) w_22 [(ResultVar.cell 2 61)]) w_22 k
theorem e107 (k : KV) (f0 : Value) (w : World) : K KD Tryz.prog 13 (fun j =>  []) (fun j =>  none) (Tryz.f107.body.getD .skip) (retQ Tryz.prog Tryz.f107 k) (argF [f0]) w = T107 k f0 w := by kernel_rfl
theorem c107 {k : KV} {f0 : Value} {w : World} (h : T107 k f0 w) : Cl Tryz.prog 107 [f0] w k :=
  Cl_of_K KD_sound mixed Tryz.func107 (by kernel_rfl) (by kernel_rfl) ((e107 k f0 w).symm ▸ h)

/-- Function 109: (*almonry/pool.Pool).write. -/
def T109 (k : KV) (p0 : Value) (f1 : Value) (w : World) : Prop :=
  Jn (fun vs_31 w_30 => ∀ g_32 : Fr, vs_31 = [] ∧
      (Pu (nilV f1) fun t36_33 =>
      Pu (faV 0 t36_33) fun t37_34 =>
      LdN 6 w_30 t37_34 fun t38_35 w_36 =>
      Cl Tryz.prog 103 [t38_35] w_36 fun t39_37 w_38 =>
      Pu (extV t39_37 0) fun t40_39 =>
      Pu (extV t39_37 1) fun t41_40 =>
      Jn (fun vs_62 w_61 => ∀ g_63 : Fr, ∃ e7_42 : Value, vs_62 = [e7_42] ∧
          (Jn (fun vs_71 w_70 => ∀ g_72 : Fr, vs_71 = [] ∧
              (k e7_42 w_70))
            (fun jj_64 =>
            Pu (binV (TypeDesc.int IntKind.i64) .eql e7_42 (Value.int IntKind.i64 0)) fun t61_73 =>
            IfB t61_73
              (Pu (nilV f1) fun t63_74 =>
                Pu (faV 7 t63_74) fun t64_75 =>
                St 1 w_61 t64_75 (Value.bool false) fun u_76 w_77 =>
                jj_64 [] w_77)
              (jj_64 [] w_61))))
        (fun jj_41 =>
        Pu (binV (TypeDesc.int IntKind.i64) .eql t41_40 (Value.int IntKind.i64 0)) fun t43_78 =>
        IfB t43_78
          (Pu (nilV p0) fun t45_79 =>
            Pu (faV 0 t45_79) fun t46_80 =>
            Ld (World.drew w_38) t46_80 fun t47_81 w_82 =>
            w_82 = (World.drew w_38) ∧
            Pu (nilV p0) fun t49_83 =>
            Pu (faV 2 t49_83) fun t50_84 =>
            Ld (World.drew w_38) t50_84 fun t51_85 w_86 =>
            w_86 = (World.drew w_38) ∧
            Pu (nilV f1) fun t53_87 =>
            Pu (faV 6 t53_87) fun t54_88 =>
            Ld (World.drew w_38) t54_88 fun t55_89 w_90 =>
            w_90 = (World.drew w_38) ∧
            Pu (binV (TypeDesc.int IntKind.i64) .mul (Value.int IntKind.i64 8) t55_89) fun t56_91 =>
            Pu (binV (TypeDesc.int IntKind.i64) .add t51_85 t56_91) fun t57_92 =>
            Cl Tryz.prog 94 [t47_81, t57_92, t40_39] (World.drew w_38) fun t59_93 w_94 =>
            jj_41 [t59_93] w_94)
          (jj_41 [t41_40] w_38))))
    (fun jj_1 =>
    ∃ C_95 : World → Prop, C_95 (World.drew w) ∧
    (Pu (nilV p0) fun t9_96 =>
    Pu (faV 1 t9_96) fun t10_97 =>
    Ld (World.drew w) t10_97 fun t11_98 w_99 =>
    w_99 = (World.drew w) ∧
    Pu (nilV f1) fun t14_100 =>
    Pu (faV 0 t14_100) fun t15_101 =>
    Pu (faV 0 t15_101) fun t16_102 =>
    ∃ t17_103, (∀ w_104, C_95 w_104 → Ld w_104 t16_102 fun t17_105 w_106 =>
    t17_105 = t17_103 ∧ w_106 = w_104) ∧
    (Cl Tryz.prog 27 [t11_98] (World.drew w) fun t12_107 w_108 =>
    C_95 w_108 ∧
    (Pu (binV (TypeDesc.int IntKind.i64) .leq t12_107 t17_103) fun t18_109 =>
    IfB t18_109
      (Pu (nilV p0) fun t20_110 =>
        Pu (faV 1 t20_110) fun t21_111 =>
        Ld (World.drew w_108) t21_111 fun t22_112 w_113 =>
        w_113 = (World.drew w_108) ∧
        Pu (nilV f1) fun t24_114 =>
        Pu (faV 0 t24_114) fun t25_115 =>
        Pu (faV 0 t25_115) fun t26_116 =>
        Ld (World.drew w_108) t26_116 fun t27_117 w_118 =>
        w_118 = (World.drew w_108) ∧
        Cl Tryz.prog 26 [t22_112, t27_117] (World.drew w_108) fun t28_119 w_120 =>
        Pu (binV (TypeDesc.int IntKind.i64) .neq t28_119 (Value.int IntKind.i64 0)) fun t30_121 =>
        IfB t30_121
          (k t28_119 w_120)
          (Cl Tryz.prog 39 [p0] w_120 fun t33_122 w_123 =>
        jj_1 [] w_123))
      (jj_1 [] w_108)))))
theorem e109 (k : KV) (p0 : Value) (f1 : Value) (w : World) : K KD Tryz.prog 66 (fun j =>  []) (fun j => bif Nat.beq j 6 then some [] else bif Nat.beq j 9 then some [7] else bif Nat.beq j 11 then some [] else none) (Tryz.f109.body.getD .skip) (retQ Tryz.prog Tryz.f109 k) (argF [p0, f1]) w = T109 k p0 f1 w := by kernel_rfl
theorem c109 {k : KV} {p0 : Value} {f1 : Value} {w : World} (h : T109 k p0 f1 w) : Cl Tryz.prog 109 [p0, f1] w k :=
  Cl_of_K KD_sound mixed Tryz.func109 (by kernel_rfl) (by kernel_rfl) ((e109 k p0 f1 w).symm ▸ h)

/-- Function 112: maps.DeleteFunc[map[int]int,int,int]. -/
def T112 (k : KV) (m0 : Value) (del1 : Value) (w : World) : Prop :=
  RunS Tryz.prog (Instr.range 146 m0) w fun t7_1 w_2 =>
  ∃ (I_3 : List Value → World → Prop) (m_4 : List Value → World → Nat), I_3 [] w_2 ∧
  ∀ (g_20 : Fr) (w_19 : World), I_3 [] w_19 →
    (RunS Tryz.prog (Instr.next t7_1 false 0) w_19 fun t8_21 w_22 =>
    Pu (extV t8_21 0) fun t9_23 =>
    IfB t9_23
      (RunS Tryz.prog (Instr.entry t7_1) w_22 fun t10_24 w_25 =>
    Pu (extV t10_24 0) fun t11_26 =>
    Pu (extV t10_24 1) fun t12_27 =>
    ClV Tryz.prog del1 [t11_26, t12_27] w_25 fun t16_28 w_29 =>
    IfB t16_28
      (RunS Tryz.prog (Builtin.delete_ #[146, 3] 0 #[m0, t11_26]) w_29 fun u_30 w_31 =>
        I_3 [] w_31 ∧ m_4 [] w_31 < m_4 [] w_19)
      (I_3 [] w_29 ∧ m_4 [] w_29 < m_4 [] w_19))
      (k (.tuple #[]) w_22))
theorem e112 (k : KV) (m0 : Value) (del1 : Value) (w : World) : K KD Tryz.prog 19 (fun j => bif Nat.beq j 1 then [] else []) (fun j =>  none) (Tryz.f112.body.getD .skip) (retQ Tryz.prog Tryz.f112 k) (argF [m0, del1]) w = T112 k m0 del1 w := by kernel_rfl
theorem c112 {k : KV} {m0 : Value} {del1 : Value} {w : World} (h : T112 k m0 del1 w) : Cl Tryz.prog 112 [m0, del1] w k :=
  Cl_of_K KD_sound mixed Tryz.func112 (by kernel_rfl) (by kernel_rfl) ((e112 k m0 del1 w).symm ▸ h)

/-- Function 113: (*almonry/pool.Pool).Synced$1. -/
def T113 (k : KV) (n0 : Value) (t1 : Value) (t2 : Value) (w : World) : Prop :=
  Ld w t2 fun t7_1 w_2 =>
  Cl Tryz.prog 104 [t7_1, n0] w_2 fun t9_3 w_4 =>
  Pu (binV (TypeDesc.pointer 143) .eql t9_3 (Value.pointer none)) fun t11_5 =>
  Gd (isB false t11_5) (fun kk => kk t9_3 w_4) w_4 fun t13_6 w_7 =>
  Gd (isB false t11_5) (fun kk => Pu (nilV t13_6) fun vv => kk vv w_7) w_7 fun t14_8 w_9 =>
  Gd (isB false t11_5) (fun kk => Pu (faV 7 t14_8) fun vv => kk vv w_9) w_9 fun t15_10 w_11 =>
  Gd (isB false t11_5) (fun kk => Ld w_11 t15_10 kk) w_11 fun t16_12 w_13 =>
  Gd (isB false t11_5) (fun kk => Pu (unV .not t16_12) fun vv => kk vv w_13) w_13 fun t17_14 w_15 =>
  Pu (pickV t11_5 (Value.bool true) t17_14) fun t18_16 =>
  k t18_16 w_15
theorem e113 (k : KV) (n0 : Value) (t1 : Value) (t2 : Value) (w : World) : K KD Tryz.prog 19 (fun j =>  []) (fun j =>  none) (Tryz.f113.body.getD .skip) (retQ Tryz.prog Tryz.f113 k) (argF [n0, t1, t2]) w = T113 k n0 t1 t2 w := by kernel_rfl
theorem c113 {k : KV} {n0 : Value} {t1 : Value} {t2 : Value} {w : World} (h : T113 k n0 t1 t2 w) : Cl Tryz.prog 113 [n0, t1, t2] w k :=
  Cl_of_K KD_sound mixed Tryz.func113 (by kernel_rfl) (by kernel_rfl) ((e113 k n0 t1 t2 w).symm ▸ h)

/-- Function 10: almonry/almonrylaw06.PoolOwes. -/
def T10 (k : KV) (frames0 : Value) (ops1 : Value) (how2 : Value) (w : World) : Prop :=
  Cl Tryz.prog 17 [(Value.int IntKind.i64 2000)] w fun t29_1 w_2 =>
  Pu (extV t29_1 0) fun t30_3 =>
  Pu (extV t29_1 1) fun t31_4 =>
  Pu (binV (TypeDesc.int IntKind.i64) .neq t31_4 (Value.int IntKind.i64 0)) fun t33_5 =>
  Gd (isB false t33_5) (fun kk => kk t30_3 w_2) w_2 fun t35_6 w_7 =>
  Gd (isB false t33_5) (fun kk => Pu (binV (TypeDesc.pointer 126) .eql t35_6 (Value.pointer none)) fun vv => kk vv w_7) w_7 fun t36_8 w_9 =>
  Pu (pickV t33_5 (Value.bool true) t36_8) fun t37_10 =>
  IfB t37_10
    (k (Value.bool false) w_9)
    (Cl Tryz.prog 18 [t30_3, (Value.int IntKind.i64 0), (Value.int IntKind.i64 200)] w_9 fun t40_11 w_12 =>
  Pu (extV t40_11 0) fun t41_13 =>
  Pu (extV t40_11 1) fun t42_14 =>
  Pu (binV (TypeDesc.int IntKind.i64) .rem frames0 (Value.int IntKind.i64 6)) fun t47_15 =>
  Pu (binV (TypeDesc.int IntKind.i64) .add t47_15 (Value.int IntKind.i64 6)) fun t48_16 =>
  Pu (binV (TypeDesc.int IntKind.i64) .rem t48_16 (Value.int IntKind.i64 6)) fun t49_17 =>
  Pu (binV (TypeDesc.int IntKind.i64) .add (Value.int IntKind.i64 1) t49_17) fun t50_18 =>
  Cl Tryz.prog 36 [t30_3, t41_13, (Value.int IntKind.i64 200), (Value.int IntKind.i64 12), t50_18] w_12 fun t51_19 w_20 =>
  Pu (extV t51_19 0) fun t52_21 =>
  Pu (extV t51_19 1) fun t53_22 =>
  Pu (binV (TypeDesc.int IntKind.i64) .neq t53_22 (Value.int IntKind.i64 0)) fun t55_23 =>
  Gd (isB false t55_23) (fun kk => kk t52_21 w_20) w_20 fun t57_24 w_25 =>
  Gd (isB false t55_23) (fun kk => Pu (binV (TypeDesc.pointer 148) .eql t57_24 (Value.pointer none)) fun vv => kk vv w_25) w_25 fun t58_26 w_27 =>
  Pu (pickV t55_23 (Value.bool true) t58_26) fun t59_28 =>
  Gd (isB false t59_28) (fun kk => kk t41_13 w_27) w_27 fun t61_29 w_30 =>
  Gd (isB false t59_28) (fun kk => Pu (binV (TypeDesc.pointer 132) .eql t61_29 (Value.pointer none)) fun vv => kk vv w_30) w_30 fun t62_31 w_32 =>
  Pu (pickV t59_28 (Value.bool true) t62_31) fun t63_33 =>
  IfB t63_33
    (k (Value.bool false) w_32)
    (RunS Tryz.prog (Instr.makeSlice 72 (Value.int IntKind.i64 12) (Value.int IntKind.i64 12)) w_32 fun t64_34 w_35 =>
  RunS Tryz.prog (Instr.makeSlice 73 (Value.int IntKind.i64 12) (Value.int IntKind.i64 12)) w_35 fun t65_36 w_37 =>
  ∃ (I_38 : List Value → World → Prop) (m_39 : List Value → World → Nat), I_38 [(Value.int IntKind.i64 0)] w_37 ∧
  ∀ (g_117 : Fr) (w_116 : World), ∀ i15_41 : Value, I_38 [i15_41] w_116 →
    (Pu (lenV ops1) fun t68_118 =>
    Pu (binV (TypeDesc.int IntKind.i64) .lss i15_41 t68_118) fun t69_119 =>
    Gd (isB true t69_119) (fun kk => kk i15_41 w_116) w_116 fun t71_120 w_121 =>
    Gd (isB true t69_119) (fun kk => Pu (binV (TypeDesc.int IntKind.i64) .lss t71_120 (Value.int IntKind.i64 200)) fun vv => kk vv w_121) w_121 fun t72_122 w_123 =>
    Pu (pickV t69_119 t72_122 (Value.bool false)) fun t73_124 =>
    IfB t73_124
      (Jn (fun vs_191 w_190 => ∀ g_192 : Fr, vs_191 = [] ∧
        (Pu (binV (TypeDesc.int IntKind.i64) .add i15_41 (Value.int IntKind.i64 1)) fun t75_193 =>
        I_38 [t75_193] w_190 ∧ m_39 [t75_193] w_190 < m_39 [i15_41] w_116))
      (fun jj_125 =>
      Pu (ixV 9 ops1 i15_41) fun t78_194 =>
      LdN 9 w_123 t78_194 fun t79_195 w_196 =>
      New #[(Value.int IntKind.i64 0), (Value.int IntKind.i64 0), (Value.int IntKind.i64 0), (Value.int IntKind.i64 0), (Value.int IntKind.i64 0), (Value.int IntKind.i64 0), (Value.int IntKind.i64 0), (Value.string (ByteArray.mk #[])), (Value.slice none 0 0)] 63 w_196 fun x16_197 w_198 =>
      St 9 w_198 x16_197 t79_195 fun u_199 w_200 =>
      Pu (faV 1 x16_197) fun t80_201 =>
      Ld w_200 t80_201 fun t81_202 w_203 =>
      Pu (binV (TypeDesc.int IntKind.i64) .rem t81_202 (Value.int IntKind.i64 12)) fun t82_204 =>
      Pu (binV (TypeDesc.int IntKind.i64) .add t82_204 (Value.int IntKind.i64 12)) fun t83_205 =>
      Pu (binV (TypeDesc.int IntKind.i64) .rem t83_205 (Value.int IntKind.i64 12)) fun t84_206 =>
      Pu (faV 0 x16_197) fun t85_207 =>
      Ld w_203 t85_207 fun t86_208 w_209 =>
      Pu (binV (TypeDesc.int IntKind.i64) .eql t86_208 (Value.int IntKind.i64 0)) fun t88_210 =>
      IfB t88_210
        (Pu (faV 2 x16_197) fun t91_211 =>
          Ld w_209 t91_211 fun t92_212 w_213 =>
          Cl Tryz.prog 33 [t52_21, t84_206, t92_212] w_213 fun t93_214 w_215 =>
          jj_125 [] w_215)
        (Pu (binV (TypeDesc.int IntKind.i64) .eql t86_208 (Value.int IntKind.i64 1)) fun t95_216 =>
          IfB t95_216
            (Cl Tryz.prog 31 [] w_209 fun t98_217 w_218 =>
              Cl Tryz.prog 21 [t41_13, t98_217] w_218 fun t99_219 w_220 =>
              Pu (extV t99_219 0) fun t100_221 =>
              Pu (extV t99_219 1) fun t101_222 =>
              Pu (faV 3 x16_197) fun t102_223 =>
              LdN 6 w_220 t102_223 fun t103_224 w_225 =>
              New #[(Value.int IntKind.i64 0), (Value.int IntKind.i64 0), (Value.int IntKind.i64 0), (Value.int IntKind.i64 0), (Value.string (ByteArray.mk #[])), (Value.slice none 0 0)] 61 w_225 fun body20_226 w_227 =>
              St 6 w_227 body20_226 t103_224 fun u_228 w_229 =>
              Pu (faV 0 body20_226) fun t105_230 =>
              St 1 w_229 t105_230 t100_221 fun u_231 w_232 =>
              Pu (binV (TypeDesc.int IntKind.i64) .eql t101_222 (Value.int IntKind.i64 0)) fun t107_233 =>
              Gd (isB true t107_233) (fun kk => kk t52_21 w_232) w_232 fun t109_234 w_235 =>
              Gd (isB true t107_233) (fun kk => kk t84_206 w_235) w_235 fun t110_236 w_237 =>
              Gd (isB true t107_233) (fun kk => LdN 6 w_237 body20_226 kk) w_237 fun t111_238 w_239 =>
              Gd (isB true t107_233) (fun kk => Pu (faV 2 x16_197) fun vv => kk vv w_239) w_239 fun t112_240 w_241 =>
              Gd (isB true t107_233) (fun kk => Ld w_241 t112_240 kk) w_241 fun t113_242 w_243 =>
              Gd (isB true t107_233) (fun kk => Cl Tryz.prog 32 [t109_234, t110_236, t111_238, t113_242] w_243 kk) w_243 fun t114_244 w_245 =>
              Gd (isB true t107_233) (fun kk => Pu (binV (TypeDesc.int IntKind.i64) .eql t114_244 (Value.int IntKind.i64 0)) fun vv => kk vv w_245) w_245 fun t115_246 w_247 =>
              Pu (pickV t107_233 t115_246 (Value.bool false)) fun t116_248 =>
              IfB t116_248
                (LdN 6 w_247 body20_226 fun t119_249 w_250 =>
                  Pu (ixV 6 t64_34 t84_206) fun t120_251 =>
                  St 6 w_250 t120_251 t119_249 fun u_252 w_253 =>
                  Pu (ixV 1 t65_36 t84_206) fun t123_254 =>
                  St 1 w_253 t123_254 (Value.bool true) fun u_255 w_256 =>
                  jj_125 [] w_256)
                (jj_125 [] w_247))
            (Pu (binV (TypeDesc.int IntKind.i64) .eql t86_208 (Value.int IntKind.i64 2)) fun t125_257 =>
              IfB t125_257
                (Cl Tryz.prog 37 [t52_21, t84_206] w_209 fun t128_258 w_259 =>
                  jj_125 [] w_259)
                (Pu (binV (TypeDesc.int IntKind.i64) .eql t86_208 (Value.int IntKind.i64 3)) fun t130_260 =>
                  IfB t130_260
                    (Cl Tryz.prog 38 [t30_3] w_209 fun t132_261 w_262 =>
                      Cl Tryz.prog 39 [t52_21] w_262 fun t134_263 w_264 =>
                      jj_125 [] w_264)
                    (jj_125 [] w_209))))))
      (RunS Tryz.prog (Instr.makeSlice 73 (Value.int IntKind.i64 12) (Value.int IntKind.i64 12)) w_123 fun t135_265 w_266 =>
  ∃ (I_267 : List Value → World → Prop) (m_268 : List Value → World → Nat), I_267 [(Value.int IntKind.i64 0)] w_266 ∧
  ∀ (g_282 : Fr) (w_281 : World), ∀ n22_270 : Value, I_267 [n22_270] w_281 →
    (Pu (binV (TypeDesc.int IntKind.i64) .lss n22_270 (Value.int IntKind.i64 12)) fun t137_283 =>
    IfB t137_283
      (Cl Tryz.prog 43 [t52_21, n22_270] w_281 fun t144_284 w_285 =>
    Pu (ixV 1 t135_265 n22_270) fun t145_286 =>
    St 1 w_285 t145_286 t144_284 fun u_287 w_288 =>
    Pu (binV (TypeDesc.int IntKind.i64) .add n22_270 (Value.int IntKind.i64 1)) fun t139_289 =>
    I_267 [t139_289] w_288 ∧ m_268 [t139_289] w_288 < m_268 [n22_270] w_281)
      (Cl Tryz.prog 46 [t30_3, how2] w_281 fun t148_290 w_291 =>
  ∃ (I_292 : List Value → World → Prop) (m_293 : List Value → World → Nat), I_292 [(Value.int IntKind.i64 0)] w_291 ∧
  ∀ (g_345 : Fr) (w_344 : World), ∀ n23_296 : Value, I_292 [n23_296] w_344 →
    (Pu (binV (TypeDesc.int IntKind.i64) .lss n23_296 (Value.int IntKind.i64 12)) fun t150_346 =>
    IfB t150_346
      (Jn (fun vs_393 w_392 => ∀ g_394 : Fr, vs_393 = [] ∧
        (Pu (binV (TypeDesc.int IntKind.i64) .add n23_296 (Value.int IntKind.i64 1)) fun t152_395 =>
        I_292 [t152_395] w_392 ∧ m_293 [t152_395] w_392 < m_293 [n23_296] w_344))
      (fun jj_347 =>
      Pu (ixV 1 t65_36 n23_296) fun t155_396 =>
      Ld w_344 t155_396 fun t156_397 w_398 =>
      Pu (unV .not t156_397) fun t157_399 =>
      Gd (isB false t157_399) (fun kk => kk t135_265 w_398) w_398 fun t159_400 w_401 =>
      Gd (isB false t157_399) (fun kk => kk n23_296 w_401) w_401 fun t160_402 w_403 =>
      Gd (isB false t157_399) (fun kk => Pu (ixV 1 t159_400 t160_402) fun vv => kk vv w_403) w_403 fun t161_404 w_405 =>
      Gd (isB false t157_399) (fun kk => Ld w_405 t161_404 kk) w_405 fun t162_406 w_407 =>
      Pu (pickV t157_399 (Value.bool true) t162_406) fun t163_408 =>
      IfB t163_408
        (jj_347 [] w_407)
        (Pu (binV (TypeDesc.int IntKind.i64) .mul (Value.int IntKind.i64 8) n23_296) fun t167_409 =>
      Pu (binV (TypeDesc.int IntKind.i64) .add (Value.int IntKind.i64 200) t167_409) fun t168_410 =>
      Cl Tryz.prog 40 [t30_3, t168_410, (Value.int IntKind.i64 8)] w_407 fun t169_411 w_412 =>
      Pu (extV t169_411 0) fun t170_413 =>
      Pu (extV t169_411 1) fun t171_414 =>
      Cl Tryz.prog 41 [t170_413] w_412 fun t174_415 w_416 =>
      Pu (extV t174_415 0) fun t175_417 =>
      Pu (extV t174_415 1) fun t176_418 =>
      New #[(Value.int IntKind.i64 0), (Value.int IntKind.i64 0), (Value.int IntKind.i64 0), (Value.int IntKind.i64 0), (Value.string (ByteArray.mk #[])), (Value.slice none 0 0)] 61 w_416 fun wv26_419 w_420 =>
      St 6 w_420 wv26_419 t175_417 fun u_421 w_422 =>
      Pu (binV (TypeDesc.int IntKind.i64) .neq t171_414 (Value.int IntKind.i64 0)) fun t178_423 =>
      Gd (isB false t178_423) (fun kk => kk t176_418 (World.drew w_422)) (World.drew w_422) fun t180_424 w_425 =>
      Gd (isB false t178_423) (fun kk => Pu (binV (TypeDesc.int IntKind.i64) .neq t180_424 (Value.int IntKind.i64 0)) fun vv => kk vv w_425) w_425 fun t181_426 w_427 =>
      Pu (pickV t178_423 (Value.bool true) t181_426) fun t182_428 =>
      Gd (isB false t182_428) (fun kk => LdN 6 w_427 wv26_419 kk) w_427 fun t184_429 w_430 =>
      w_430 = w_427 ∧
      Gd (isB false t182_428) (fun kk => kk t64_34 w_427) w_427 fun t185_431 w_432 =>
      Gd (isB false t182_428) (fun kk => kk n23_296 w_432) w_432 fun t186_433 w_434 =>
      Gd (isB false t182_428) (fun kk => Pu (ixV 6 t185_431 t186_433) fun vv => kk vv w_434) w_434 fun t187_435 w_436 =>
      Gd (isB false t182_428) (fun kk => LdN 6 w_436 t187_435 kk) w_436 fun t188_437 w_438 =>
      w_438 = w_436 ∧
      Gd (isB false t182_428) (fun kk => Cl Tryz.prog 34 [t184_429, t188_437] w_436 kk) w_436 fun t189_439 w_440 =>
      Gd (isB false t182_428) (fun kk => Pu (unV .not t189_439) fun vv => kk vv w_440) w_440 fun t190_441 w_442 =>
      Pu (pickV t182_428 (Value.bool true) t190_441) fun t191_443 =>
      IfB t191_443
        (k (Value.bool false) w_442)
        (jj_347 [] w_442))))
      (Cl Tryz.prog 35 [] w_344 fun t192_444 w_445 =>
  k t192_444 w_445))))))))
theorem e10 (k : KV) (frames0 : Value) (ops1 : Value) (how2 : Value) (w : World) : K KD Tryz.prog 193 (fun j => bif Nat.beq j 37 then [23] else bif Nat.beq j 32 then [22] else bif Nat.beq j 11 then [15] else []) (fun j => bif Nat.beq j 12 then some [] else bif Nat.beq j 38 then some [] else none) (Tryz.f10.body.getD .skip) (retQ Tryz.prog Tryz.f10 k) (argF [frames0, ops1, how2]) w = T10 k frames0 ops1 how2 w := by kernel_rfl
theorem c10 {k : KV} {frames0 : Value} {ops1 : Value} {how2 : Value} {w : World} (h : T10 k frames0 ops1 how2 w) : Cl Tryz.prog 10 [frames0, ops1, how2] w k :=
  Cl_of_K KD_sound mixed Tryz.func10 (by kernel_rfl) (by kernel_rfl) ((e10 k frames0 ops1 how2 w).symm ▸ h)

end Go.Proofs.YthbngnlmgplijaaGreatDoor
