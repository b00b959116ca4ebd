/- What package snap does. -/
import Derived.Test.YthgdinjgdjiknaaClog3
import Derived.Test.YthgdinjgdjiknaaAlStru
namespace Go.Proofs.Ythgdinjgdjiknaa
open Go.Al Go.Proofs
set_option linter.unusedVariables false
set_option linter.unusedSimpArgs false
set_option linter.unusedSectionVars false
set_option maxRecDepth 100000

/-! ### Plainly -/
structure Vx where
  modulus : Int
  next : Int
  active : List Int
  own : Int
  running : List Int
  clog : Pg
structure Tx where
  xmin : Int
  xmax : Int
  frozen : Bool
  key : Bs
  val : Bs
def status (v : Vx) (x : Int) : Int := bif decide (x ∈ v.running) then 1 else (clogGet v.modulus v.clog x).1
def sees (v : Vx) (x : Int) : Bool :=
  bif decide (x = 0) then false else bif decide (x = v.own) then true else
  bif decide (x ∈ v.active) || !xBefore v.modulus x v.next then false else decide (status v x = 2)
def visible (v : Vx) (t : Tx) : Bool := (t.frozen || sees v t.xmin) && !sees v t.xmax
def unseen (v : Vx) (x : Int) : Bool := decide (x ≠ 0) && !sees v x && decide (status v x = 2)
def newer (v : Vx) (t : Tx) : Bool := (!t.frozen && unseen v t.xmin) || unseen v t.xmax
def gone (v : Vx) (t : Tx) (h : Int) : Bool := (!t.frozen && decide (status v t.xmin = 3)) || (decide (t.xmax ≠ 0) && xBefore v.modulus t.xmax h && decide (status v t.xmax = 2))
def old (v : Vx) (t : Tx) (h : Int) : Bool := !t.frozen && xBefore v.modulus t.xmin h && decide (status v t.xmin = 2)
def off (v : Vx) (t : Tx) : Bool := decide (t.xmax ≠ 0) && decide (status v t.xmax = 3)

theorem clogGet_err {m : Int} {p : Pg} {x : Int} (h : (clogGet m p x).2 ≠ 0) : (clogGet m p x).1 = 0 := by
  revert h
  unfold clogGet
  cases decide ((clogOpen m p).2.2 ≠ 0) with
  | true => intro _; rfl
  | false =>
    simp only [cond_false]
    cases !(modOk m && idOk m x) with
    | true => intro _; rfl
    | false => intro h; exact absurd rfl h

/-! ### In the heap -/
structure VwAs (w : World) (cs : Array Value) (v : Vx) : Prop where
  ex : ∃ av rv iv0, cs = #[iv v.modulus, iv v.next, av, iv v.own, rv, iv v.clog.lsn, iv v.clog.kind, iv v.clog.level, iv v.clog.right, stv v.clog.high, iv0] ∧ CellsAt w av v.active.length 1 (v.active.map iv) ∧ CellsAt w rv v.running.length 1 (v.running.map iv) ∧ CellsAt w iv0 v.clog.items.length 1 (v.clog.items.map stv)
  small : ∀ x ∈ v.clog.items, x.length ≤ 140737488355328
  m_in : In v.modulus
theorem VwAs.keep {w w' : World} {cs : Array Value} {v : Vx} (h : VwAs w cs v) (hf : Fm (fun _ => False) w w') : VwAs w' cs v := by
  obtain ⟨av, rv, iv0, h1, h2, h3, h4⟩ := h.ex
  exact ⟨⟨av, rv, iv0, h1, h2.keep hf (fun _ _ e => e), h3.keep hf (fun _ _ e => e), h4.keep hf (fun _ _ e => e)⟩, h.small, h.m_in⟩
theorem VwAs.size {w : World} {cs : Array Value} {v : Vx} (h : VwAs w cs v) : cs.size = 11 := by
  obtain ⟨av, rv, iv0, rfl, _⟩ := h.ex; rfl
theorem CellsAt.one {w : World} {v : Value} {n s : Nat} {l : List Value} (h : CellsAt w v n s l) : v.oneCell' = true := by
  obtain ⟨⟨a, cap, rfl, _⟩, _⟩ := h; rfl
theorem VwAs.one {w : World} {cs : Array Value} {v : Vx} (h : VwAs w cs v) : ∀ u ∈ cs.toList, u.oneCell' = true := by
  obtain ⟨av, rv, iv0, rfl, h1, h2, h3⟩ := h.ex
  intro u hu; simp at hu
  rcases hu with rfl | rfl | rfl | rfl | rfl | rfl | rfl | rfl | rfl | rfl | rfl <;> first | rfl | exact CellsAt.one ‹_›
/-- A view in block g. -/
def VwAt (w : World) (g : Nat) (v : Vx) : Prop := ∃ cs, w.heap[g]? = some (.cells cs 97) ∧ VwAs w cs v
theorem VwAt.keep {w w' : World} {g : Nat} {v : Vx} (h : VwAt w g v) (hf : Fm (fun _ => False) w w') : VwAt w' g v := by
  obtain ⟨cs, h1, h2⟩ := h
  exact ⟨cs, hf.heap h1 (fun e => e), h2.keep hf⟩
theorem VwAt.lt {w : World} {g : Nat} {v : Vx} (h : VwAt w g v) : g < w.heap.size := by
  obtain ⟨cs, h1, h2⟩ := h; exact lt_of_heap h1
theorem VwAt.c0 {w : World} {g : Nat} {v : Vx} (h : VwAt w g v) : w.cell? ⟨g, 0, none⟩ = some (iv v.modulus) := by
  obtain ⟨cs, h1, h2⟩ := h; obtain ⟨av, rv, iv0, rfl, _⟩ := h2.ex; rw [cell_at h1]; rfl
theorem VwAt.c1 {w : World} {g : Nat} {v : Vx} (h : VwAt w g v) : w.cell? ⟨g, 1, none⟩ = some (iv v.next) := by
  obtain ⟨cs, h1, h2⟩ := h; obtain ⟨av, rv, iv0, rfl, _⟩ := h2.ex; rw [cell_at h1]; rfl
theorem VwAt.c2 {w : World} {g : Nat} {v : Vx} (h : VwAt w g v) : ∃ av, w.cell? ⟨g, 2, none⟩ = some av ∧ CellsAt w av v.active.length 1 (v.active.map iv) := by
  obtain ⟨cs, h1, h2⟩ := h; obtain ⟨av, rv, iv0, rfl, h3, h4, h5⟩ := h2.ex; exact ⟨av, by rw [cell_at h1]; rfl, h3⟩
theorem VwAt.c3 {w : World} {g : Nat} {v : Vx} (h : VwAt w g v) : w.cell? ⟨g, 3, none⟩ = some (iv v.own) := by
  obtain ⟨cs, h1, h2⟩ := h; obtain ⟨av, rv, iv0, rfl, _⟩ := h2.ex; rw [cell_at h1]; rfl
theorem VwAt.c4 {w : World} {g : Nat} {v : Vx} (h : VwAt w g v) : ∃ rv, w.cell? ⟨g, 4, none⟩ = some rv ∧ CellsAt w rv v.running.length 1 (v.running.map iv) := by
  obtain ⟨cs, h1, h2⟩ := h; obtain ⟨av, rv, iv0, rfl, h3, h4, h5⟩ := h2.ex; exact ⟨rv, by rw [cell_at h1]; rfl, h4⟩
theorem VwAt.pg {w : World} {g : Nat} {v : Vx} (h : VwAt w g v) : ∃ ps, cellsV w ⟨g, 5, none⟩ 6 = some (.agg ps) ∧ PgAs w ps v.clog := by
  obtain ⟨cs, h1, h2⟩ := h; obtain ⟨av, rv, iv0, rfl, h3, h4, h5⟩ := h2.ex
  exact ⟨_, cellsV_at h1 (us := #[iv v.clog.lsn, iv v.clog.kind, iv v.clog.level, iv v.clog.right, stv v.clog.high, iv0]) (by simp) rfl, ⟨⟨_, rfl, h5⟩, h2.small⟩⟩
theorem VwAt.all {w : World} {g : Nat} {v : Vx} (h : VwAt w g v) : ∃ cs, cellsV w ⟨g, 0, none⟩ 11 = some (.agg cs) ∧ VwAs w cs v := by
  obtain ⟨cs, h1, h2⟩ := h
  exact ⟨cs, cellsV_blk h1 h2.size, h2⟩

/-- A version. -/
def txc (t : Tx) : Array Value := #[iv t.xmin, iv t.xmax, .bool t.frozen, stv t.key, stv t.val]
def TxAt (w : World) (g : Nat) (t : Tx) : Prop := w.heap[g]? = some (.cells (txc t) 99)
theorem TxAt.keep {S : Nat → Prop} {w w' : World} {g : Nat} {t : Tx} (h : TxAt w g t) (hf : Fm S w w') (hS : ¬ S g) : TxAt w' g t := hf.heap h hS
theorem TxAt.c0 {w : World} {g : Nat} {t : Tx} (h : TxAt w g t) : w.cell? ⟨g, 0, none⟩ = some (iv t.xmin) := by rw [cell_at h]; rfl
theorem TxAt.c1 {w : World} {g : Nat} {t : Tx} (h : TxAt w g t) : w.cell? ⟨g, 1, none⟩ = some (iv t.xmax) := by rw [cell_at h]; rfl
theorem TxAt.c2 {w : World} {g : Nat} {t : Tx} (h : TxAt w g t) : w.cell? ⟨g, 2, none⟩ = some (.bool t.frozen) := by rw [cell_at h]; rfl
theorem TxAt.c3 {w : World} {g : Nat} {t : Tx} (h : TxAt w g t) : w.cell? ⟨g, 3, none⟩ = some (stv t.key) := by rw [cell_at h]; rfl
theorem TxAt.all {w : World} {g : Nat} {t : Tx} (h : TxAt w g t) : cellsV w ⟨g, 0, none⟩ 5 = some (.agg (txc t)) := cellsV_blk h rfl

/-! ### slices.Contains -/
theorem index_spec {w : World} {v : Value} {l : List Int} (hl : CellsAt w v l.length 1 (l.map iv)) (x : Int) : Cl Try.prog 115 [v, iv x] w fun r w' => ∃ i : Int, r = iv i ∧ (decide (0 ≤ i) = decide (x ∈ l)) ∧ w' = w := by
  have hlt := hl.lt
  unfold maxLen at hlt
  refine c115 ?_; unfold T115
  simp only [Pu_some, extV_0, extV_1, extV_2, extV_3, nilV_ptr, nilV_fn, faV_ptr, lenV_sl, lenS_s, capV_sl, pickV_t, pickV_f, unV_not, unV_neg, isB_t, isB_f, isB_u, binV_add, binV_sub, binV_mul, binV_eql, binV_neq, binV_lss, binV_leq, binV_gtr, binV_geq, binV_seql, binV_sneq, binV_slss, binV_beql, binV_bneq, binV_peql, binV_pneq, add_add, add_none, Go.Al.add_zero, Nat.zero_add, Nat.add_zero, IfB_t, IfB_f, Gd_t, Gd_f, Ld_ptr, LdN_ptr, Option.isNone_some, Option.isNone_none, Option.isSome_some, Option.isSome_none, Bool.not_true, Bool.not_false, drew_cell, drew_heap, hl.lenV]
  refine ⟨fun vs w2 => ∃ k : Nat, vs = [iv k] ∧ k ≤ l.length ∧ x ∉ l.take k ∧ w2 = w, fun vs _ => (l.length - nth vs 0).toNat, ⟨0, rfl, by omega, by simp, rfl⟩, ?_⟩
  rintro _ w2 ik ⟨k, hvs, hk, hno, rfl⟩
  cases hvs
  by_cases hlt2 : k < l.length
  · have e1 : decide ((k : Int) < (l.length : Int)) = true := by rw [decide_eq_true_eq]; omega
    have e2 : IntKind.i64.wrap ((k : Int) + 1) = ((k + 1 : Nat) : Int) := by rw [wrap_id] <;> omega
    have hx : l[k]? = some l[k] := List.getElem?_eq_getElem hlt2
    have hmem : l[k] ∈ l := List.getElem_mem hlt2
    generalize l[k] = y at hx hmem
    obtain ⟨ad, hix, _, hc⟩ := hl.at1 (i := k) (x := iv y) (by rw [List.getElem?_map, hx]; rfl) .i64
    simp only [Pu_some, extV_0, extV_1, extV_2, extV_3, nilV_ptr, nilV_fn, faV_ptr, lenV_sl, lenS_s, capV_sl, pickV_t, pickV_f, unV_not, unV_neg, isB_t, isB_f, isB_u, binV_add, binV_sub, binV_mul, binV_eql, binV_neq, binV_lss, binV_leq, binV_gtr, binV_geq, binV_seql, binV_sneq, binV_slss, binV_beql, binV_bneq, binV_peql, binV_pneq, add_add, add_none, Go.Al.add_zero, Nat.zero_add, Nat.add_zero, IfB_t, IfB_f, Gd_t, Gd_f, Ld_ptr, LdN_ptr, Option.isNone_some, Option.isNone_none, Option.isSome_some, Option.isSome_none, Bool.not_true, Bool.not_false, drew_cell, drew_heap, e1, hix, hc]
    by_cases hxy : x = y
    · subst hxy
      simp only [Pu_some, extV_0, extV_1, extV_2, extV_3, nilV_ptr, nilV_fn, faV_ptr, lenV_sl, lenS_s, capV_sl, pickV_t, pickV_f, unV_not, unV_neg, isB_t, isB_f, isB_u, binV_add, binV_sub, binV_mul, binV_eql, binV_neq, binV_lss, binV_leq, binV_gtr, binV_geq, binV_seql, binV_sneq, binV_slss, binV_beql, binV_bneq, binV_peql, binV_pneq, add_add, add_none, Go.Al.add_zero, Nat.zero_add, Nat.add_zero, IfB_t, IfB_f, Gd_t, Gd_f, Ld_ptr, LdN_ptr, Option.isNone_some, Option.isNone_none, Option.isSome_some, Option.isSome_none, Bool.not_true, Bool.not_false, drew_cell, drew_heap, beq_self_eq_true]
      refine ⟨k, (by trivial), ?_, (by trivial)⟩
      rw [decide_eq_decide]; exact ⟨fun _ => hmem, fun _ => by omega⟩
    · have e3 : (x == y) = false := by simpa using hxy
      simp only [Pu_some, extV_0, extV_1, extV_2, extV_3, nilV_ptr, nilV_fn, faV_ptr, lenV_sl, lenS_s, capV_sl, pickV_t, pickV_f, unV_not, unV_neg, isB_t, isB_f, isB_u, binV_add, binV_sub, binV_mul, binV_eql, binV_neq, binV_lss, binV_leq, binV_gtr, binV_geq, binV_seql, binV_sneq, binV_slss, binV_beql, binV_bneq, binV_peql, binV_pneq, add_add, add_none, Go.Al.add_zero, Nat.zero_add, Nat.add_zero, IfB_t, IfB_f, Gd_t, Gd_f, Ld_ptr, LdN_ptr, Option.isNone_some, Option.isNone_none, Option.isSome_some, Option.isSome_none, Bool.not_true, Bool.not_false, drew_cell, drew_heap, e3, e2]
      refine ⟨⟨k + 1, rfl, by omega, ?_, (by trivial)⟩, by simp only [nth_0]; omega⟩
      rw [List.take_add_one, hx]
      simp only [Option.toList_some, List.mem_append, List.mem_singleton, not_or]
      exact ⟨hno, hxy⟩
  · have hke : k = l.length := by omega
    subst hke
    have e1 : decide (((l.length : Nat) : Int) < (l.length : Int)) = false := by simp
    rw [List.take_length] at hno
    simp only [Pu_some, extV_0, extV_1, extV_2, extV_3, nilV_ptr, nilV_fn, faV_ptr, lenV_sl, lenS_s, capV_sl, pickV_t, pickV_f, unV_not, unV_neg, isB_t, isB_f, isB_u, binV_add, binV_sub, binV_mul, binV_eql, binV_neq, binV_lss, binV_leq, binV_gtr, binV_geq, binV_seql, binV_sneq, binV_slss, binV_beql, binV_bneq, binV_peql, binV_pneq, add_add, add_none, Go.Al.add_zero, Nat.zero_add, Nat.add_zero, IfB_t, IfB_f, Gd_t, Gd_f, Ld_ptr, LdN_ptr, Option.isNone_some, Option.isNone_none, Option.isSome_some, Option.isSome_none, Bool.not_true, Bool.not_false, drew_cell, drew_heap, e1]
    refine ⟨-1, (by trivial), ?_, (by trivial)⟩
    rw [decide_eq_decide]; exact ⟨fun h => by omega, fun h => absurd h hno⟩
theorem contains_spec {w : World} {v : Value} {l : List Int} (hl : CellsAt w v l.length 1 (l.map iv)) (x : Int) : Cl Try.prog 86 [v, iv x] w fun r w' => r = .bool (decide (x ∈ l)) ∧ w' = w := by
  refine c86 ?_; unfold T86
  refine (index_spec hl x).mono ?_
  rintro _ w2 ⟨i, rfl, hi, rfl⟩
  simp only [Pu_some, extV_0, extV_1, extV_2, extV_3, nilV_ptr, nilV_fn, faV_ptr, lenV_sl, lenS_s, capV_sl, pickV_t, pickV_f, unV_not, unV_neg, isB_t, isB_f, isB_u, binV_add, binV_sub, binV_mul, binV_eql, binV_neq, binV_lss, binV_leq, binV_gtr, binV_geq, binV_seql, binV_sneq, binV_slss, binV_beql, binV_bneq, binV_peql, binV_pneq, add_add, add_none, Go.Al.add_zero, Nat.zero_add, Nat.add_zero, IfB_t, IfB_f, Gd_t, Gd_f, Ld_ptr, LdN_ptr, Option.isNone_some, Option.isNone_none, Option.isSome_some, Option.isSome_none, Bool.not_true, Bool.not_false, drew_cell, drew_heap, hi, and_self]

/-! ### The calls -/
theorem status_spec {w : World} {cs : Array Value} {v : Vx} (hv : VwAs w cs v) (x : Int) : Cl Try.prog 47 [.agg cs, iv x] w fun r w' => r = .int .u8 (status v x) ∧ Fm (fun _ => False) w w' := by
  refine c47 ?_; unfold T47
  refine New_any ?_
  intro g w1 hg hs1 hw1 hf1
  have hv1 : VwAt w1 g v := ⟨cs, hw1, hv.keep hf1⟩
  obtain ⟨rv, hc4, hrv⟩ := hv1.c4
  simp only [Pu_some, extV_0, extV_1, extV_2, extV_3, nilV_ptr, nilV_fn, faV_ptr, lenV_sl, lenS_s, capV_sl, pickV_t, pickV_f, unV_not, unV_neg, isB_t, isB_f, isB_u, binV_add, binV_sub, binV_mul, binV_eql, binV_neq, binV_lss, binV_leq, binV_gtr, binV_geq, binV_seql, binV_sneq, binV_slss, binV_beql, binV_bneq, binV_peql, binV_pneq, add_add, add_none, Go.Al.add_zero, Nat.zero_add, Nat.add_zero, IfB_t, IfB_f, Gd_t, Gd_f, Ld_ptr, LdN_ptr, Option.isNone_some, Option.isNone_none, Option.isSome_some, Option.isSome_none, Bool.not_true, Bool.not_false, drew_cell, drew_heap, hc4]
  refine (contains_spec hrv x).mono ?_
  rintro _ w2 ⟨rfl, rfl⟩
  unfold status
  cases decide (x ∈ v.running) with
  | true =>
    simp only [Pu_some, extV_0, extV_1, extV_2, extV_3, nilV_ptr, nilV_fn, faV_ptr, lenV_sl, lenS_s, capV_sl, pickV_t, pickV_f, unV_not, unV_neg, isB_t, isB_f, isB_u, binV_add, binV_sub, binV_mul, binV_eql, binV_neq, binV_lss, binV_leq, binV_gtr, binV_geq, binV_seql, binV_sneq, binV_slss, binV_beql, binV_bneq, binV_peql, binV_pneq, add_add, add_none, Go.Al.add_zero, Nat.zero_add, Nat.add_zero, IfB_t, IfB_f, Gd_t, Gd_f, Ld_ptr, LdN_ptr, Option.isNone_some, Option.isNone_none, Option.isSome_some, Option.isSome_none, Bool.not_true, Bool.not_false, drew_cell, drew_heap, cond_true]
    exact ⟨(by trivial), hf1⟩
  | false =>
    obtain ⟨ps, hps, hpa⟩ := hv1.pg
    simp only [Pu_some, extV_0, extV_1, extV_2, extV_3, nilV_ptr, nilV_fn, faV_ptr, lenV_sl, lenS_s, capV_sl, pickV_t, pickV_f, unV_not, unV_neg, isB_t, isB_f, isB_u, binV_add, binV_sub, binV_mul, binV_eql, binV_neq, binV_lss, binV_leq, binV_gtr, binV_geq, binV_seql, binV_sneq, binV_slss, binV_beql, binV_bneq, binV_peql, binV_pneq, add_add, add_none, Go.Al.add_zero, Nat.zero_add, Nat.add_zero, IfB_t, IfB_f, Gd_t, Gd_f, Ld_ptr, LdN_ptr, Option.isNone_some, Option.isNone_none, Option.isSome_some, Option.isSome_none, Bool.not_true, Bool.not_false, drew_cell, drew_heap, cond_false, hv1.c0, hps]
    refine (cget_spec hpa hv.m_in x).mono ?_
    rintro _ w3 ⟨rfl, hf3⟩
    by_cases h0 : (clogGet v.modulus v.clog x).2 = 0
    · have e1 : ((clogGet v.modulus v.clog x).2 != 0) = false := by rw [h0]; rfl
      simp only [Pu_some, extV_0, extV_1, extV_2, extV_3, nilV_ptr, nilV_fn, faV_ptr, lenV_sl, lenS_s, capV_sl, pickV_t, pickV_f, unV_not, unV_neg, isB_t, isB_f, isB_u, binV_add, binV_sub, binV_mul, binV_eql, binV_neq, binV_lss, binV_leq, binV_gtr, binV_geq, binV_seql, binV_sneq, binV_slss, binV_beql, binV_bneq, binV_peql, binV_pneq, add_add, add_none, Go.Al.add_zero, Nat.zero_add, Nat.add_zero, IfB_t, IfB_f, Gd_t, Gd_f, Ld_ptr, LdN_ptr, Option.isNone_some, Option.isNone_none, Option.isSome_some, Option.isSome_none, Bool.not_true, Bool.not_false, drew_cell, drew_heap, e1]
      exact ⟨(by trivial), Fmf hf1 hf3⟩
    · have e1 : ((clogGet v.modulus v.clog x).2 != 0) = true := by rw [bne_dec]; simp [h0]
      simp only [Pu_some, extV_0, extV_1, extV_2, extV_3, nilV_ptr, nilV_fn, faV_ptr, lenV_sl, lenS_s, capV_sl, pickV_t, pickV_f, unV_not, unV_neg, isB_t, isB_f, isB_u, binV_add, binV_sub, binV_mul, binV_eql, binV_neq, binV_lss, binV_leq, binV_gtr, binV_geq, binV_seql, binV_sneq, binV_slss, binV_beql, binV_bneq, binV_peql, binV_pneq, add_add, add_none, Go.Al.add_zero, Nat.zero_add, Nat.add_zero, IfB_t, IfB_f, Gd_t, Gd_f, Ld_ptr, LdN_ptr, Option.isNone_some, Option.isNone_none, Option.isSome_some, Option.isSome_none, Bool.not_true, Bool.not_false, drew_cell, drew_heap, e1]
      rw [clogGet_err h0]
      exact ⟨(by trivial), Fmf hf1 hf3⟩

theorem sees_spec {w : World} {cs : Array Value} {v : Vx} (hv : VwAs w cs v) (x : Int) : Cl Try.prog 39 [.agg cs, iv x] w fun r w' => r = .bool (sees v x) ∧ Fm (fun _ => False) w w' := by
  refine c39 ?_; unfold T39
  refine New_any ?_
  intro g w1 hg hs1 hw1 hf1
  have hv1 : VwAt w1 g v := ⟨cs, hw1, hv.keep hf1⟩
  unfold sees
  by_cases h0 : x = 0
  · have e1 : (x == 0) = true := by rw [h0]; rfl
    have e2 : decide (x = 0) = true := by simpa using h0
    simp only [Pu_some, extV_0, extV_1, extV_2, extV_3, nilV_ptr, nilV_fn, faV_ptr, lenV_sl, lenS_s, capV_sl, pickV_t, pickV_f, unV_not, unV_neg, isB_t, isB_f, isB_u, binV_add, binV_sub, binV_mul, binV_eql, binV_neq, binV_lss, binV_leq, binV_gtr, binV_geq, binV_seql, binV_sneq, binV_slss, binV_beql, binV_bneq, binV_peql, binV_pneq, add_add, add_none, Go.Al.add_zero, Nat.zero_add, Nat.add_zero, IfB_t, IfB_f, Gd_t, Gd_f, Ld_ptr, LdN_ptr, Option.isNone_some, Option.isNone_none, Option.isSome_some, Option.isSome_none, Bool.not_true, Bool.not_false, drew_cell, drew_heap, e1, e2, cond_true]
    exact ⟨(by trivial), hf1⟩
  have e1 : (x == 0) = false := by simpa using h0
  have e2 : decide (x = 0) = false := by simpa using h0
  by_cases h1 : x = v.own
  · have e3 : (x == v.own) = true := by simpa using h1
    have e4 : decide (x = v.own) = true := by simpa using h1
    simp only [Pu_some, extV_0, extV_1, extV_2, extV_3, nilV_ptr, nilV_fn, faV_ptr, lenV_sl, lenS_s, capV_sl, pickV_t, pickV_f, unV_not, unV_neg, isB_t, isB_f, isB_u, binV_add, binV_sub, binV_mul, binV_eql, binV_neq, binV_lss, binV_leq, binV_gtr, binV_geq, binV_seql, binV_sneq, binV_slss, binV_beql, binV_bneq, binV_peql, binV_pneq, add_add, add_none, Go.Al.add_zero, Nat.zero_add, Nat.add_zero, IfB_t, IfB_f, Gd_t, Gd_f, Ld_ptr, LdN_ptr, Option.isNone_some, Option.isNone_none, Option.isSome_some, Option.isSome_none, Bool.not_true, Bool.not_false, drew_cell, drew_heap, e1, e2, cond_false, hv1.c3, e3, e4, cond_true]
    exact ⟨(by trivial), hf1⟩
  have e3 : (x == v.own) = false := by simpa using h1
  have e4 : decide (x = v.own) = false := by simpa using h1
  obtain ⟨av, hc2, hav⟩ := hv1.c2
  simp only [Pu_some, extV_0, extV_1, extV_2, extV_3, nilV_ptr, nilV_fn, faV_ptr, lenV_sl, lenS_s, capV_sl, pickV_t, pickV_f, unV_not, unV_neg, isB_t, isB_f, isB_u, binV_add, binV_sub, binV_mul, binV_eql, binV_neq, binV_lss, binV_leq, binV_gtr, binV_geq, binV_seql, binV_sneq, binV_slss, binV_beql, binV_bneq, binV_peql, binV_pneq, add_add, add_none, Go.Al.add_zero, Nat.zero_add, Nat.add_zero, IfB_t, IfB_f, Gd_t, Gd_f, Ld_ptr, LdN_ptr, Option.isNone_some, Option.isNone_none, Option.isSome_some, Option.isSome_none, Bool.not_true, Bool.not_false, drew_cell, drew_heap, e1, e2, cond_false, hv1.c3, e3, e4, hc2]
  refine (contains_spec hav x).mono ?_
  rintro _ w2 ⟨rfl, rfl⟩
  obtain ⟨cs', hall, hva⟩ := hv1.all
  have fin : ∀ (w3 : World), Fm (fun _ => False) w2 w3 → (Pu (cellsV w3 ⟨g, 0, none⟩ 11) fun u => Cl Try.prog 47 [u, iv x] w3 fun t31_33 w_34 =>
      Pu (binV (TypeDesc.int IntKind.u8) .eql t31_33 (Value.int IntKind.u8 2)) fun t32_35 => t32_35 = .bool (decide (status v x = 2)) ∧ Fm (fun _ => False) w w_34) := by
    intro w3 hf3
    obtain ⟨cs', hall, hva⟩ := (hv1.keep hf3).all
    simp only [Pu_some, extV_0, extV_1, extV_2, extV_3, nilV_ptr, nilV_fn, faV_ptr, lenV_sl, lenS_s, capV_sl, pickV_t, pickV_f, unV_not, unV_neg, isB_t, isB_f, isB_u, binV_add, binV_sub, binV_mul, binV_eql, binV_neq, binV_lss, binV_leq, binV_gtr, binV_geq, binV_seql, binV_sneq, binV_slss, binV_beql, binV_bneq, binV_peql, binV_pneq, add_add, add_none, Go.Al.add_zero, Nat.zero_add, Nat.add_zero, IfB_t, IfB_f, Gd_t, Gd_f, Ld_ptr, LdN_ptr, Option.isNone_some, Option.isNone_none, Option.isSome_some, Option.isSome_none, Bool.not_true, Bool.not_false, drew_cell, drew_heap, hall]
    refine (status_spec hva x).mono ?_
    rintro _ w4 ⟨rfl, hf4⟩
    simp only [Pu_some, extV_0, extV_1, extV_2, extV_3, nilV_ptr, nilV_fn, faV_ptr, lenV_sl, lenS_s, capV_sl, pickV_t, pickV_f, unV_not, unV_neg, isB_t, isB_f, isB_u, binV_add, binV_sub, binV_mul, binV_eql, binV_neq, binV_lss, binV_leq, binV_gtr, binV_geq, binV_seql, binV_sneq, binV_slss, binV_beql, binV_bneq, binV_peql, binV_pneq, add_add, add_none, Go.Al.add_zero, Nat.zero_add, Nat.add_zero, IfB_t, IfB_f, Gd_t, Gd_f, Ld_ptr, LdN_ptr, Option.isNone_some, Option.isNone_none, Option.isSome_some, Option.isSome_none, Bool.not_true, Bool.not_false, drew_cell, drew_heap, beq_dec, true_and]
    exact Fmf hf1 (Fmf hf3 hf4)
  cases decide (x ∈ v.active) with
  | true =>
    simp only [Pu_some, extV_0, extV_1, extV_2, extV_3, nilV_ptr, nilV_fn, faV_ptr, lenV_sl, lenS_s, capV_sl, pickV_t, pickV_f, unV_not, unV_neg, isB_t, isB_f, isB_u, binV_add, binV_sub, binV_mul, binV_eql, binV_neq, binV_lss, binV_leq, binV_gtr, binV_geq, binV_seql, binV_sneq, binV_slss, binV_beql, binV_bneq, binV_peql, binV_pneq, add_add, add_none, Go.Al.add_zero, Nat.zero_add, Nat.add_zero, IfB_t, IfB_f, Gd_t, Gd_f, Ld_ptr, LdN_ptr, Option.isNone_some, Option.isNone_none, Option.isSome_some, Option.isSome_none, Bool.not_true, Bool.not_false, drew_cell, drew_heap, Bool.true_or, cond_true]
    exact ⟨(by trivial), hf1⟩
  | false =>
    simp only [Pu_some, extV_0, extV_1, extV_2, extV_3, nilV_ptr, nilV_fn, faV_ptr, lenV_sl, lenS_s, capV_sl, pickV_t, pickV_f, unV_not, unV_neg, isB_t, isB_f, isB_u, binV_add, binV_sub, binV_mul, binV_eql, binV_neq, binV_lss, binV_leq, binV_gtr, binV_geq, binV_seql, binV_sneq, binV_slss, binV_beql, binV_bneq, binV_peql, binV_pneq, add_add, add_none, Go.Al.add_zero, Nat.zero_add, Nat.add_zero, IfB_t, IfB_f, Gd_t, Gd_f, Ld_ptr, LdN_ptr, Option.isNone_some, Option.isNone_none, Option.isSome_some, Option.isSome_none, Bool.not_true, Bool.not_false, drew_cell, drew_heap, Bool.false_or, hv1.c0, hv1.c1]
    refine (before_spec w2 hv.m_in).mono ?_
    rintro _ w3 ⟨rfl, hf3⟩
    cases hb : xBefore v.modulus x v.next with
    | true =>
      simp only [Pu_some, extV_0, extV_1, extV_2, extV_3, nilV_ptr, nilV_fn, faV_ptr, lenV_sl, lenS_s, capV_sl, pickV_t, pickV_f, unV_not, unV_neg, isB_t, isB_f, isB_u, binV_add, binV_sub, binV_mul, binV_eql, binV_neq, binV_lss, binV_leq, binV_gtr, binV_geq, binV_seql, binV_sneq, binV_slss, binV_beql, binV_bneq, binV_peql, binV_pneq, add_add, add_none, Go.Al.add_zero, Nat.zero_add, Nat.add_zero, IfB_t, IfB_f, Gd_t, Gd_f, Ld_ptr, LdN_ptr, Option.isNone_some, Option.isNone_none, Option.isSome_some, Option.isSome_none, Bool.not_true, Bool.not_false, drew_cell, drew_heap, cond_false]
      exact fin w3 hf3
    | false =>
      simp only [Pu_some, extV_0, extV_1, extV_2, extV_3, nilV_ptr, nilV_fn, faV_ptr, lenV_sl, lenS_s, capV_sl, pickV_t, pickV_f, unV_not, unV_neg, isB_t, isB_f, isB_u, binV_add, binV_sub, binV_mul, binV_eql, binV_neq, binV_lss, binV_leq, binV_gtr, binV_geq, binV_seql, binV_sneq, binV_slss, binV_beql, binV_bneq, binV_peql, binV_pneq, add_add, add_none, Go.Al.add_zero, Nat.zero_add, Nat.add_zero, IfB_t, IfB_f, Gd_t, Gd_f, Ld_ptr, LdN_ptr, Option.isNone_some, Option.isNone_none, Option.isSome_some, Option.isSome_none, Bool.not_true, Bool.not_false, drew_cell, drew_heap, cond_true]
      exact ⟨(by trivial), Fmf hf1 hf3⟩

end Go.Proofs.Ythgdinjgdjiknaa
