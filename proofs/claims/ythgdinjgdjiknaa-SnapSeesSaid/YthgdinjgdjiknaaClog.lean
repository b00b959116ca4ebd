/- What package clog does. -/
import Derived.Test.YthgdinjgdjiknaaBits
namespace Go.Proofs.Ythgdinjgdjiknaa
open Go.Al Go.Proofs
set_option linter.unusedVariables false
set_option linter.unusedSimpArgs false
set_option linter.unusedSectionVars false
set_option maxRecDepth 100000

/-! ### Plainly -/
structure Pg where
  lsn : Int
  kind : Int
  level : Int
  right : Int
  high : Bs
  items : List Bs
def pg0 : Pg := ⟨0, 0, 0, 0, [], []⟩
def badHead (p : Pg) : Bool := decide (p.kind ≠ 1 ∨ p.lsn < 0 ∨ p.level ≠ 0 ∨ p.right ≠ 0 ∨ p.high ≠ [] ∨ p.items.length ≠ 2)
def it0 (p : Pg) : Bs := p.items.getD 0 []
def it1 (p : Pg) : Bs := p.items.getD 1 []
def badEnd (m : Int) (b : Bs) : Bool := decide (m % 4 ≠ 0 ∧ (b.getD (b.length - 1) 0).toNat / 2 ^ (2 * (m % 4)).toNat ≠ 0)
def openR (m : Int) (p : Pg) : Int × Bs × Int := rdNum m (it0 p) 0
def badBody (m : Int) (p : Pg) : Bool := decide (endE (openR m p).2.1 (openR m p).2.2 ≠ 0) || decide ((openR m p).1 = 0) || badEnd m (it1 p)
/-- Limit, bytes, error. -/
def clogOpen (m : Int) (p : Pg) : Int × Bs × Int :=
  bif !modOk m then (0, [], 1) else bif badHead p || decide (((it1 p).length : Int) ≠ (m + 3) / 4) then (0, [], 31)
  else bif badBody m p then (0, [], 31) else ((openR m p).1, it1 p, 0)
def plN (x : Int) : Nat := (x - 1).toNat
def stAt (b : Bs) (x : Int) : Int := (((b.getD (plN x / 4) 0).toNat / 2 ^ (2 * (plN x % 4))) % 4 : Nat)
def clogGet (m : Int) (p : Pg) (x : Int) : Int × Int :=
  bif decide ((clogOpen m p).2.2 ≠ 0) then (0, (clogOpen m p).2.2) else bif !(modOk m && idOk m x) then (0, 1) else (stAt (clogOpen m p).2.1 x, 0)
def pbyte (c : UInt8) (s : Int) (far : Nat) : UInt8 := UInt8.ofNat (orI .u8 (andNotI .u8 c.toNat (IntKind.u8.wrap (3 * 2 ^ far))) (IntKind.u8.wrap (s * 2 ^ far))).toNat
def clogPut (b : Bs) (x s : Int) : Bs := b.set (plN x / 4) (pbyte (b.getD (plN x / 4) 0) s (2 * (plN x % 4)))
def clogMade (frozen : Int) (b : Bs) (lsn : Int) : Pg := ⟨lsn, 1, 0, 0, [], [encI frozen, b]⟩
def clogSet (m : Int) (p : Pg) (x s : Int) : Pg × Int :=
  bif decide ((clogOpen m p).2.2 ≠ 0) then (pg0, (clogOpen m p).2.2) else bif !(modOk m && idOk m x) || decide (3 < s) then (pg0, 1) else (clogMade (clogOpen m p).1 (clogPut (clogOpen m p).2.1 x s) p.lsn, 0)
def clogBlank (m f : Int) : Pg × Int := bif modOk m && idOk m f then (clogMade f (List.replicate ((m + 3) / 4).toNat 0) 0, 0) else (pg0, 1)

/-! ### A page in the heap -/
/-- A page's cells. -/
structure PgAs (w : World) (cs : Array Value) (p : Pg) : Prop where
  ex : ∃ v, cs = #[iv p.lsn, iv p.kind, iv p.level, iv p.right, stv p.high, v] ∧ CellsAt w v p.items.length 1 (p.items.map stv)
  small : ∀ x ∈ p.items, x.length ≤ 140737488355328
theorem PgAs.keep {w w' : World} {cs : Array Value} {p : Pg} (h : PgAs w cs p) (hf : Fm (fun _ => False) w w') : PgAs w' cs p := by
  obtain ⟨v, h1, h2⟩ := h.ex
  exact ⟨⟨v, h1, h2.keep hf (fun _ _ e => e)⟩, h.small⟩
/-- The items' block lies from n0 on. -/
def PgFr (n0 : Nat) (cs : Array Value) (p : Pg) : Prop := ∀ v, cs[5]? = some v → p.items ≠ [] → ∀ g, blockOf v = some g → n0 ≤ g
theorem PgFr.mono {n0 n1 : Nat} {cs : Array Value} {p : Pg} (h : PgFr n1 cs p) (hn : n0 ≤ n1) : PgFr n0 cs p := fun v h1 h2 g h3 => Nat.le_trans hn (h v h1 h2 g h3)
theorem pgFr0 (n0 : Nat) (cs : Array Value) : PgFr n0 cs pg0 := fun v h1 h2 => absurd rfl h2
theorem PgAs.keepS {S : Nat → Prop} {w w' : World} {cs : Array Value} {p : Pg} (h : PgAs w cs p) (hf : Fm S w w') (hS : ∀ v, cs[5]? = some v → p.items ≠ [] → ∀ g, blockOf v = some g → ¬ S g) : PgAs w' cs p := by
  obtain ⟨v, h1, h2⟩ := h.ex
  refine ⟨⟨v, h1, h2.keepAny hf (fun hx g hg => hS v (by rw [h1]; rfl) (by simpa using hx) g hg)⟩, h.small⟩
theorem PgAs.below {w : World} {cs : Array Value} {p : Pg} (h : PgAs w cs p) : ∀ v, cs[5]? = some v → p.items ≠ [] → ∀ g, blockOf v = some g → g < w.heap.size := by
  obtain ⟨v, h1, h2⟩ := h.ex
  intro u hu hne g hg
  rw [h1] at hu
  have : v = u := by simpa using hu
  subst this
  exact h2.blt (by simpa using hne) g hg
theorem pgAs0 (w : World) : PgAs w #[iv 0, iv 0, iv 0, iv 0, stv [], .slice none 0 0] pg0 := ⟨⟨_, rfl, ⟨⟨none, 0, rfl, Nat.le_refl _, by simp [maxLen], fun _ => ⟨rfl, rfl⟩, fun j u hj => by simp [pg0] at hj⟩, rfl⟩⟩, by simp [pg0]⟩

theorem B44s : ∀ (w : World) (t : Bs), True := fun _ _ => trivial
theorem bs45_2 (a b : Bs) (w : World) : (Instr.buildSlice 45 2 #[(0, stv a), (1, stv b)]).run Try.prog w = .ok (.slice (some ⟨w.heap.size, 0, none⟩) 2 2) (w.alloc (.cells #[stv a, stv b] 9)) := by kernel_rfl
theorem bld95 (l : Int) (a : Option Addr) (n c : Nat) (w : World) : (Instr.build 95 #[(0, iv l), (1, iv 1), (5, .slice a n c)]).run Try.prog w = .ok (.agg #[iv l, iv 1, iv 0, iv 0, stv [], .slice a n c]) w := by kernel_rfl
theorem bld95z (w : World) : (Instr.build 95 #[]).run Try.prog w = .ok (.agg #[iv 0, iv 0, iv 0, iv 0, stv [], .slice none 0 0]) w := by kernel_rfl
theorem agg95 : aggB Try.prog 95 = some true := by kernel_rfl
theorem size95 : sizeB Try.prog 95 = some 6 := by kernel_rfl
theorem retPg1 {w : World} {g i : Nat} {cs : Array Value} (h : w.heap[g]? = some (.cells cs 95)) (hn : cs.size = 6) {f : Fr} (hf : f i = pv g) (k : KV) (hk : k (.agg cs) w) : RetO (resL Try.prog f w [.cell i 95]) w k := by
  simp only [resL, resV_blk hf agg95 size95 h hn, RetO, RetV]; exact hk
theorem retPg2 {w : World} {g i j : Nat} {cs : Array Value} (h : w.heap[g]? = some (.cells cs 95)) (hn : cs.size = 6) {f : Fr} (hf : f i = pv g) {u : Value} (hj : f j = u) (k : KV) (hk : k (.tuple #[.agg cs, u]) w) : RetO (resL Try.prog f w [.cell i 95, .tmp j]) w k := by
  have e2 : resV Try.prog f w (.tmp j) = some u := by simp only [resV, hj]
  simp only [resL, resV_blk hf agg95 size95 h hn, e2, RetO, RetV]; exact hk

theorem csize_spec (w : World) {m : Int} (hm : 16 ≤ m ∧ m ≤ 1024) : Cl Try.prog 112 [iv m] w fun v w' => v = iv ((m + 3) / 4) ∧ w' = w := by
  refine c112 ?_; unfold T112
  have e1 : IntKind.i64.wrap (m + 4) = m + 4 := wrap_id (by omega)
  have e2 : IntKind.i64.wrap (m + 4 - 1) = m + 3 := by rw [wrap_id] <;> omega
  have e3 := quo_pos (TypeDesc.int IntKind.i64) (a := m + 3) (b := 4) (by omega) (by decide) (by omega)
  simp only [Pu_some, extV_0, extV_1, extV_2, extV_3, nilV_ptr, nilV_fn, faV_ptr, lenV_sl, lenS_s, capV_sl, pickV_t, pickV_f, unV_not, unV_neg, isB_t, isB_f, isB_u, binV_add, binV_sub, binV_mul, binV_eql, binV_neq, binV_lss, binV_leq, binV_gtr, binV_geq, binV_seql, binV_sneq, binV_slss, binV_beql, binV_bneq, binV_peql, binV_pneq, add_add, add_none, Go.Al.add_zero, Nat.zero_add, Nat.add_zero, IfB_t, IfB_f, Gd_t, Gd_f, Ld_ptr, LdN_ptr, Option.isNone_some, Option.isNone_none, Option.isSome_some, Option.isSome_none, Bool.not_true, Bool.not_false, drew_cell, drew_heap, e1, e2, e3, and_self]
theorem isMod_spec (w : World) {m : Int} (hm : In m) : Cl Try.prog 111 [iv m] w fun v w' => v = .bool (modOk m) ∧ Fm (fun _ => False) w w' := by
  refine c111 ?_; unfold T111
  refine (add_spec w hm).mono ?_
  rintro _ w1 ⟨rfl, hf⟩
  have : (xAdd m 1 0 == 1) = modOk m := by
    unfold xAdd
    cases h : modOk m with
    | false => rfl
    | true =>
      have h1 : 16 ≤ m := by unfold modOk at h; simp only [decide_eq_true_eq] at h; exact h.1
      have : idOk m 1 = true := by unfold idOk; rw [decide_eq_true_eq]; omega
      rw [this]
      simp
  simp only [Pu_some, extV_0, extV_1, extV_2, extV_3, nilV_ptr, nilV_fn, faV_ptr, lenV_sl, lenS_s, capV_sl, pickV_t, pickV_f, unV_not, unV_neg, isB_t, isB_f, isB_u, binV_add, binV_sub, binV_mul, binV_eql, binV_neq, binV_lss, binV_leq, binV_gtr, binV_geq, binV_seql, binV_sneq, binV_slss, binV_beql, binV_bneq, binV_peql, binV_pneq, add_add, add_none, Go.Al.add_zero, Nat.zero_add, Nat.add_zero, IfB_t, IfB_f, Gd_t, Gd_f, Ld_ptr, LdN_ptr, Option.isNone_some, Option.isNone_none, Option.isSome_some, Option.isSome_none, Bool.not_true, Bool.not_false, drew_cell, drew_heap, this]
  exact ⟨(by trivial), hf⟩
theorem isId_spec (w : World) {m x : Int} (hm : In m) : Cl Try.prog 95 [iv m, iv x] w fun v w' => v = .bool (modOk m && idOk m x) ∧ Fm (fun _ => False) w w' := by
  refine c95 ?_; unfold T95
  refine (add_spec w hm).mono ?_
  rintro _ w1 ⟨rfl, hf⟩
  unfold xAdd
  cases h : modOk m && idOk m x with
  | false =>
    simp only [cond_false]
    by_cases hx : (0 : Int) = x
    · subst hx
      simp only [Pu_some, extV_0, extV_1, extV_2, extV_3, nilV_ptr, nilV_fn, faV_ptr, lenV_sl, lenS_s, capV_sl, pickV_t, pickV_f, unV_not, unV_neg, isB_t, isB_f, isB_u, binV_add, binV_sub, binV_mul, binV_eql, binV_neq, binV_lss, binV_leq, binV_gtr, binV_geq, binV_seql, binV_sneq, binV_slss, binV_beql, binV_bneq, binV_peql, binV_pneq, add_add, add_none, Go.Al.add_zero, Nat.zero_add, Nat.add_zero, IfB_t, IfB_f, Gd_t, Gd_f, Ld_ptr, LdN_ptr, Option.isNone_some, Option.isNone_none, Option.isSome_some, Option.isSome_none, Bool.not_true, Bool.not_false, drew_cell, drew_heap, beq_self_eq_true, bne_self_eq_false]
      exact ⟨(by trivial), hf⟩
    · have e1 : ((0 : Int) == x) = false := by simpa using hx
      simp only [Pu_some, extV_0, extV_1, extV_2, extV_3, nilV_ptr, nilV_fn, faV_ptr, lenV_sl, lenS_s, capV_sl, pickV_t, pickV_f, unV_not, unV_neg, isB_t, isB_f, isB_u, binV_add, binV_sub, binV_mul, binV_eql, binV_neq, binV_lss, binV_leq, binV_gtr, binV_geq, binV_seql, binV_sneq, binV_slss, binV_beql, binV_bneq, binV_peql, binV_pneq, add_add, add_none, Go.Al.add_zero, Nat.zero_add, Nat.add_zero, IfB_t, IfB_f, Gd_t, Gd_f, Ld_ptr, LdN_ptr, Option.isNone_some, Option.isNone_none, Option.isSome_some, Option.isSome_none, Bool.not_true, Bool.not_false, drew_cell, drew_heap, e1]
      exact ⟨(by trivial), hf⟩
  | true =>
    simp only [Bool.and_eq_true] at h
    have hid := idOk_in h.1 h.2
    have e0 : (x - 1 + 0 % m) % m + 1 = x := by
      rw [Int.zero_emod, Int.add_zero, Int.emod_eq_of_lt (by omega) (by omega)]; omega
    have e1 : (x != 0) = true := by rw [bne_dec]; simp; omega
    simp only [cond_true, e0]
    simp only [Pu_some, extV_0, extV_1, extV_2, extV_3, nilV_ptr, nilV_fn, faV_ptr, lenV_sl, lenS_s, capV_sl, pickV_t, pickV_f, unV_not, unV_neg, isB_t, isB_f, isB_u, binV_add, binV_sub, binV_mul, binV_eql, binV_neq, binV_lss, binV_leq, binV_gtr, binV_geq, binV_seql, binV_sneq, binV_slss, binV_beql, binV_bneq, binV_peql, binV_pneq, add_add, add_none, Go.Al.add_zero, Nat.zero_add, Nat.add_zero, IfB_t, IfB_f, Gd_t, Gd_f, Ld_ptr, LdN_ptr, Option.isNone_some, Option.isNone_none, Option.isSome_some, Option.isSome_none, Bool.not_true, Bool.not_false, drew_cell, drew_heap, beq_self_eq_true, e1]
    exact ⟨(by trivial), hf⟩

/-- A page of statuses, newly made: its items lie in a block from n0 on. -/
def PgNew (n0 : Nat) (w : World) (cs : Array Value) (frozen : Int) (b : Bs) (lsn : Int) : Prop :=
  ∃ g, cs = #[iv lsn, iv 1, iv 0, iv 0, stv [], .slice (some ⟨g, 0, none⟩) 2 2] ∧ n0 ≤ g ∧ VRow w g 9 [stv (encI frozen), stv b] ∧ frozen ≤ 9223372036854775807 ∧ b.length ≤ 1000000
theorem PgNew.keep {S : Nat → Prop} {n0 : Nat} {w w' : World} {cs : Array Value} {frozen lsn : Int} {b : Bs} (h : PgNew n0 w cs frozen b lsn) (hf : Fm S w w') (hS : ∀ x, S x → x < n0) : PgNew n0 w' cs frozen b lsn := by
  obtain ⟨g, h1, h2, h3, h4⟩ := h
  exact ⟨g, h1, h2, h3.keep hf (fun e => by have := hS g e; omega), h4⟩
theorem PgNew.as {n0 : Nat} {w : World} {cs : Array Value} {frozen lsn : Int} {b : Bs} (h : PgNew n0 w cs frozen b lsn) : PgAs w cs (clogMade frozen b lsn) := by
  obtain ⟨g, h1, h2, hr7, h4, h5⟩ := h
  refine ⟨⟨_, h1, ?_⟩, ?_⟩
  · refine ⟨⟨_, 2, rfl, by simp [clogMade], by decide, fun e => (by cases e), fun j u hj => ⟨_, rfl, ?_⟩⟩, by simp [clogMade]⟩
    rw [add_none, Nat.zero_add, hr7.cell]; exact hj
  · intro x hx
    simp [clogMade] at hx
    rcases hx with rfl | rfl
    · have := (encN_le (n := (max frozen 0).toNat) (by omega)).2
      unfold encI; omega
    · omega
theorem PgNew.fr {n0 : Nat} {w : World} {cs : Array Value} {frozen lsn : Int} {b : Bs} (h : PgNew n0 w cs frozen b lsn) : PgFr n0 cs (clogMade frozen b lsn) := by
  obtain ⟨g, rfl, h2, _⟩ := h
  intro v hv _ q hq
  have : v = .slice (some ⟨g, 0, none⟩) 2 2 := by simpa using hv.symm
  subst this
  cases hq
  exact h2
theorem PgNew.one {n0 : Nat} {w : World} {cs : Array Value} {frozen lsn : Int} {b : Bs} (h : PgNew n0 w cs frozen b lsn) : cs.size = 6 ∧ ∀ u ∈ cs.toList, u.oneCell' = true := by
  obtain ⟨g, rfl, _⟩ := h
  refine ⟨rfl, ?_⟩
  intro u hu; simp at hu; rcases hu with rfl | rfl | rfl | rfl | rfl <;> rfl
theorem cmade_spec {w : World} (frozen lsn : Int) {bv : Value} {g cap : Nat} {b : Bs} (hb : BX w g 5 b) (hbv : bv = .slice (some ⟨g, 0, none⟩) b.length cap) (hin : frozen ≤ 9223372036854775807) (hsm : b.length ≤ 1000000) :
    Cl Try.prog 97 [iv frozen, bv, iv lsn] w fun v w' => ∃ cs, v = .agg cs ∧ PgNew w.heap.size w' cs frozen b lsn ∧ Fm (fun _ => False) w w' := by
  subst hbv
  refine c97 ?_; unfold T97
  refine New_any ?_
  intro x6 w1 hx6 hs1 hw1 hf1
  refine (bnew_spec w1).mono ?_
  rintro _ w2 ⟨rfl, hW2, hM2, hf2⟩
  refine RunS_ok (bs34s frozen w2) ?_
  have hf3 := Fm.alloc (fun _ => False) w2 (.cells ([frozen].map iv).toArray 3)
  have hc3 := new_cells [frozen] (by simp) w2 3
  obtain ⟨hW3, hM3⟩ := hW2.keep hf3 (fun _ _ e => e)
  have e3 : (w2.alloc (.cells #[iv frozen] 3)) = w2.alloc (.cells ([frozen].map iv).toArray 3) := rfl
  rw [e3]
  have hz1 := hf1.size
  have hz2 := hf2.size
  have hz3 := hf3.size
  have hWl := hW2.lt _ (.inl rfl)
  generalize w2.alloc (.cells ([frozen].map iv).toArray 3) = w3 at hf3 hc3 hW3 hM3 hz3
  have hM3' : ∀ y, wrM w3 w1.heap.size y → y = w1.heap.size := fun y hy => hM2 y ((hM3 y).1 hy)
  refine (wnum_spec hW3 (ns := [frozen]) hc3 (fun _ q hq hm => ?_) (by intro n hn; simp at hn; omega) (by simp)).mono ?_
  · have hq' : w2.heap.size = q := by simpa [blockOf] using hq
    have := hM3' q hm
    omega
  rintro _ w4 ⟨hW4, hf4, hM4⟩
  have hF3 := Fmf (Fmf hf1 hf2) hf3
  have hM3w : ∀ y, wrM w3 w1.heap.size y → w.heap.size ≤ y := fun y hy => by have := hM3' y hy; omega
  have hF4 := Fm.own hF3 hf4 hM3w
  have hgl := hb.lt
  have hb4 := hb.keep hF4 (fun e => e)
  have hx3 : w3.heap[x6]? = some (.cells #[iv 0, iv 0, iv 0, iv 0, stv [], .slice none 0 0] 95) := hf3.heap (hf2.heap hw1 (fun e => e)) (fun e => e)
  have hx4 := hf4.heap hx3 (fun e => by have := hM3' _ e; omega)
  have hfd := Fm.drew (fun _ => False) w4
  obtain ⟨hW5, _⟩ := hW4.keep hfd (fun _ _ e => e)
  have hb5 := hb4.keep hfd (fun e => e)
  have hx5 := hfd.heap hx4 (fun e => e)
  have hF5 := Fmf hF4 hfd
  generalize w4.drew = w5 at hfd hW5 hb5 hx5 hF5
  refine ⟨fun w' => BX w' g 5 b, hb5, stv b, fun w' hw' => ?_, ?_⟩
  · refine RunS_ok (hw'.conv B44 (o := 0) (n := b.length) (by omega) cap) ⟨?_, (by trivial)⟩
    rw [List.drop_zero, List.take_length]
  refine (bbytes_spec hW5).mono ?_
  rintro _ w5 ⟨rfl, rfl⟩
  refine ⟨hb5, ?_⟩
  have he : ([] ++ [frozen].flatMap encI : Bs) = encI frozen := by simp
  rw [he]
  refine RunS_ok (bs45_2 _ _ _) ?_
  have hf6 := Fm.alloc (fun _ => False) w5 (.cells #[stv (encI frozen), stv b] 9)
  have hr6 : VRow (w5.alloc (.cells #[stv (encI frozen), stv b] 9)) w5.heap.size 9 [stv (encI frozen), stv b] := alloc_new _ _
  have hz5 := hF5.size
  have hx5l := lt_of_heap hx5
  generalize hw6 : w5.alloc (.cells #[stv (encI frozen), stv b] 9) = w6 at hf6 hr6
  refine RunS_ok (bld95 _ _ _ _ _) ⟨rfl, ?_⟩
  have hx6' := hf6.heap hx5 (fun e => e)
  refine St_all hx6' rfl rfl (by intro u hu; simp at hu; rcases hu with rfl | rfl | rfl | rfl | rfl <;> rfl) ?_
  intro w7 hw7 hs7 hf7
  have hF7 : Fm (fun _ => False) w w7 := Fm.own (Fmf hF5 hf6) hf7 (by rintro x rfl; omega)
  refine retPg1 (i := 6) hw7 rfl rfl _ ?_
  exact ⟨_, rfl, ⟨w5.heap.size, rfl, hz5, hr6.keep hf7 (fun e => by omega), hin, hsm⟩, hF7⟩

theorem cblank_spec (w : World) {m frozen : Int} (hm : In m) : Cl Try.prog 84 [iv m, iv frozen] w fun v w' => ∃ cs, v = .tuple #[.agg cs, iv (clogBlank m frozen).2] ∧ PgAs w' cs (clogBlank m frozen).1 ∧ PgFr w.heap.size cs (clogBlank m frozen).1 ∧ Fm (fun _ => False) w w' := by
  refine c84 ?_; unfold T84
  refine New_any ?_
  intro x4 w1 hx4 hs1 hw1 hf1
  refine (isMod_spec w1 hm).mono ?_
  rintro _ w2 ⟨rfl, hf2⟩
  have hw2 := hf2.heap hw1 (fun e => e)
  have hF2 := Fmf hf1 hf2
  have bad : ∀ (w3 : World), Fm (fun _ => False) w2 w3 → (modOk m && idOk m frozen) = false →
      RunS Try.prog (Instr.build 95 #[]) w3 fun t15_15 w_16 =>
      St 6 w_16 (pv x4) t15_15 fun u_17 w_18 =>
      RetO (resL Try.prog (fun j => bif Nat.beq j 4 then pv x4 else bif Nat.beq j 5 then (Value.int IntKind.i64 1) else undef) w_18 [(ResultVar.cell 4 95), (ResultVar.tmp 5)]) w_18 fun v w' => ∃ cs, v = .tuple #[.agg cs, iv (clogBlank m frozen).2] ∧ PgAs w' cs (clogBlank m frozen).1 ∧ PgFr w.heap.size cs (clogBlank m frozen).1 ∧ Fm (fun _ => False) w w' := by
    intro w3 hf3 hb
    refine RunS_ok (bld95z _) ?_
    refine St_all (hf3.heap hw2 (fun e => e)) rfl rfl (by intro u hu; simp at hu; rcases hu with rfl | rfl | rfl <;> rfl) ?_
    intro w4 hw4 hs4 hf4
    refine retPg2 (i := 4) (j := 5) hw4 rfl rfl rfl _ ?_
    have hcb : clogBlank m frozen = (pg0, 1) := by unfold clogBlank; rw [hb]; rfl
    rw [hcb]
    exact ⟨_, rfl, pgAs0 _, pgFr0 _ _, Fm.own (Fmf hF2 hf3) hf4 (by rintro x rfl; omega)⟩
  cases h1 : modOk m with
  | false =>
    have b := bad w2 (Fm.refl _ _) (by rw [h1]; rfl)
    simp only [Pu_some, extV_0, extV_1, extV_2, extV_3, nilV_ptr, nilV_fn, faV_ptr, lenV_sl, lenS_s, capV_sl, pickV_t, pickV_f, unV_not, unV_neg, isB_t, isB_f, isB_u, binV_add, binV_sub, binV_mul, binV_eql, binV_neq, binV_lss, binV_leq, binV_gtr, binV_geq, binV_seql, binV_sneq, binV_slss, binV_beql, binV_bneq, binV_peql, binV_pneq, add_add, add_none, Go.Al.add_zero, Nat.zero_add, Nat.add_zero, IfB_t, IfB_f, Gd_t, Gd_f, Ld_ptr, LdN_ptr, Option.isNone_some, Option.isNone_none, Option.isSome_some, Option.isSome_none, Bool.not_true, Bool.not_false, drew_cell, drew_heap]
    exact b
  | true =>
    simp only [Pu_some, extV_0, extV_1, extV_2, extV_3, nilV_ptr, nilV_fn, faV_ptr, lenV_sl, lenS_s, capV_sl, pickV_t, pickV_f, unV_not, unV_neg, isB_t, isB_f, isB_u, binV_add, binV_sub, binV_mul, binV_eql, binV_neq, binV_lss, binV_leq, binV_gtr, binV_geq, binV_seql, binV_sneq, binV_slss, binV_beql, binV_bneq, binV_peql, binV_pneq, add_add, add_none, Go.Al.add_zero, Nat.zero_add, Nat.add_zero, IfB_t, IfB_f, Gd_t, Gd_f, Ld_ptr, LdN_ptr, Option.isNone_some, Option.isNone_none, Option.isSome_some, Option.isSome_none, Bool.not_true, Bool.not_false, drew_cell, drew_heap]
    refine (isId_spec w2 hm).mono ?_
    rintro _ w3 ⟨rfl, hf3⟩
    cases h2 : idOk m frozen with
    | false =>
      have b := bad w3 hf3 (by rw [h1, h2]; rfl)
      simp only [Pu_some, extV_0, extV_1, extV_2, extV_3, nilV_ptr, nilV_fn, faV_ptr, lenV_sl, lenS_s, capV_sl, pickV_t, pickV_f, unV_not, unV_neg, isB_t, isB_f, isB_u, binV_add, binV_sub, binV_mul, binV_eql, binV_neq, binV_lss, binV_leq, binV_gtr, binV_geq, binV_seql, binV_sneq, binV_slss, binV_beql, binV_bneq, binV_peql, binV_pneq, add_add, add_none, Go.Al.add_zero, Nat.zero_add, Nat.add_zero, IfB_t, IfB_f, Gd_t, Gd_f, Ld_ptr, LdN_ptr, Option.isNone_some, Option.isNone_none, Option.isSome_some, Option.isSome_none, Bool.not_true, Bool.not_false, drew_cell, drew_heap, h1, Bool.and_false]
      exact b
    | true =>
      have hid := idOk_in h1 h2
      simp only [Pu_some, extV_0, extV_1, extV_2, extV_3, nilV_ptr, nilV_fn, faV_ptr, lenV_sl, lenS_s, capV_sl, pickV_t, pickV_f, unV_not, unV_neg, isB_t, isB_f, isB_u, binV_add, binV_sub, binV_mul, binV_eql, binV_neq, binV_lss, binV_leq, binV_gtr, binV_geq, binV_seql, binV_sneq, binV_slss, binV_beql, binV_bneq, binV_peql, binV_pneq, add_add, add_none, Go.Al.add_zero, Nat.zero_add, Nat.add_zero, IfB_t, IfB_f, Gd_t, Gd_f, Ld_ptr, LdN_ptr, Option.isNone_some, Option.isNone_none, Option.isSome_some, Option.isSome_none, Bool.not_true, Bool.not_false, drew_cell, drew_heap, h1, Bool.and_self]
      refine (csize_spec w3 (by omega)).mono ?_
      rintro _ w3 ⟨rfl, rfl⟩
      obtain ⟨n, hn⟩ := Int.eq_ofNat_of_zero_le (show 0 ≤ (m + 3) / 4 by omega)
      rw [hn]
      refine RunS_ok (BRow.make B44 _ n (by omega)) ?_
      have hf4 := Fm.alloc (fun _ => False) w3 (.cells (bc (List.replicate n 0)).toArray 5)
      have hb4 : BRow (w3.alloc (.cells (bc (List.replicate n 0)).toArray 5)) w3.heap.size 5 (List.replicate n 0) := alloc_new _ _
      generalize w3.alloc (.cells (bc (List.replicate n 0)).toArray 5) = w4 at hf4 hb4
      refine (cmade_spec frozen 0 (BX.of hb4) (b := List.replicate n 0) (cap := n) (by simp) (by omega) (by simp; omega)).mono ?_
      rintro _ w5 ⟨cs, rfl, hp, hf5⟩
      have hw5 := hf5.heap (hf4.heap (hf3.heap hw2 (fun e => e)) (fun e => e)) (fun e => e)
      obtain ⟨hsz, hone⟩ := hp.one
      refine St_all hw5 rfl hsz hone ?_
      intro w6 hw6 hs6 hf6
      refine retPg2 (i := 4) (j := 5) hw6 hsz rfl rfl _ ?_
      unfold clogBlank
      rw [h1, h2, hn]
      have z1 := hf1.size
      have z2 := hf2.size
      have z3 := hf3.size
      have z4 := hf4.size
      exact ⟨_, rfl, (hp.keep hf6 (by rintro x rfl; omega)).as, hp.fr.mono (by omega), Fm.own (Fmf (Fmf (Fmf hF2 hf3) hf4) hf5) hf6 (by rintro x rfl; omega)⟩

end Go.Proofs.Ythgdinjgdjiknaa
