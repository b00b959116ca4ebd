/- Laid for one claim by slim.py out of: DkRef DkRef2 PgShelf PgPage PgEnc PgDec PgSame CpsQ RcBits RcPure RcMem. -/
import Derived.Test.YthbngnlmgplijaaGreatDoorPlyB
namespace Go.Proofs.YthbngnlmgplijaaGreatDoor
open Go.Al Go.Proofs
set_option linter.unusedVariables false
set_option linter.unusedSimpArgs false
set_option linter.unusedSectionVars false

theorem dE59 : ElemT Tryz.prog 59 9 1 16 := elemT_of Tryz.underlying59 (by kernel_rfl)
theorem dbs23 (p : Int) (w : World) : (Instr.buildSlice 23 1 #[(0, iv p)]).run Tryz.prog w = .ok (.slice (some ⟨w.heap.size, 0, none⟩) 1 1) (w.alloc (.cells #[iv p] 3)) := by kernel_rfl
theorem dE73 : ElemT Tryz.prog 73 4 1 1 := elemT_of Tryz.underlying73 (by kernel_rfl)
theorem dE23 : ElemT Tryz.prog 23 3 1 8 := elemT_of Tryz.underlying23 (by kernel_rfl)
theorem dbs59 (p : Bs) (w : World) : (Instr.buildSlice 59 1 #[(0, stv p)]).run Tryz.prog w = .ok (.slice (some ⟨w.heap.size, 0, none⟩) 1 1) (w.alloc (.cells #[stv p] 9)) := by kernel_rfl
theorem dbs73 (p : Bool) (w : World) : (Instr.buildSlice 73 1 #[(0, .bool p)]).run Tryz.prog w = .ok (.slice (some ⟨w.heap.size, 0, none⟩) 1 1) (w.alloc (.cells #[.bool p] 4)) := by kernel_rfl
theorem dbld93 (w : World) : (Instr.build 93 #[]).run Tryz.prog w = .ok (.agg #[.slice none 0 0, .slice none 0 0, .slice none 0 0, iv 0, .bool false, iv 0]) w := by kernel_rfl

structure DkL where
  o : Nat
  n : Nat
  c : Nat
  co : Nat
  cn : Nat
  cc : Nat
structure DkAt (w : World) (b : Nat) (q : DkL) (d : Dk) : Prop where
  st : w.heap[b]? = some (.cells #[.slice (some ⟨q.o, 0, none⟩) d.old.length q.co, .slice (some ⟨q.n, 0, none⟩) d.cur.length q.cn, .slice (some ⟨q.c, 0, none⟩) d.chg.length q.cc, iv d.armed, .bool d.gone, iv d.done] 93)
  ro : PRow w q.o 9 (d.old.map stv)
  rn : PRow w q.n 9 (d.cur.map stv)
  rc : PRow w q.c 4 (d.chg.map Value.bool)
  ne : b ≠ q.o ∧ b ≠ q.n ∧ b ≠ q.c ∧ q.o ≠ q.n ∧ q.o ≠ q.c ∧ q.n ≠ q.c
def DkL.mine (b : Nat) (q : DkL) (x : Nat) : Prop := x = b ∨ x = q.o ∨ x = q.n ∨ x = q.c
theorem DkAt.keep {S : Nat → Prop} {w w' : World} {b : Nat} {q : DkL} {d : Dk} (h : DkAt w b q d) (hf : Fm S w w') (h1 : ∀ x, q.mine b x → ¬ S x) : DkAt w' b q d :=
  ⟨hf.heap h.st (h1 _ (.inl rfl)), h.ro.keep hf (h1 _ (.inr (.inl rfl))), h.rn.keep hf (h1 _ (.inr (.inr (.inl rfl)))), h.rc.keep hf (h1 _ (.inr (.inr (.inr rfl)))), h.ne⟩
theorem DkAt.keep0 {w w' : World} {b : Nat} {q : DkL} {d : Dk} (h : DkAt w b q d) (hf : Fm (fun _ => False) w w') : DkAt w' b q d := h.keep hf fun _ _ e => e
theorem DkAt.lt {w : World} {b : Nat} {q : DkL} {d : Dk} (h : DkAt w b q d) : ∀ x, q.mine b x → x < w.heap.size := by
  rintro x (rfl | rfl | rfl | rfl)
  · exact lt_of_heap h.st
  · exact h.ro.lt
  · exact h.rn.lt
  · exact h.rc.lt
section
variable {w : World} {b : Nat} {q : DkL} {d : Dk} (h : DkAt w b q d)
include h
theorem DkAt.c0 : w.cell? ⟨b, 0, none⟩ = some (.slice (some ⟨q.o, 0, none⟩) d.old.length q.co) := by rw [cell_at h.st]; rfl
theorem DkAt.c1 : w.cell? ⟨b, 1, none⟩ = some (.slice (some ⟨q.n, 0, none⟩) d.cur.length q.cn) := by rw [cell_at h.st]; rfl
theorem DkAt.c2 : w.cell? ⟨b, 2, none⟩ = some (.slice (some ⟨q.c, 0, none⟩) d.chg.length q.cc) := by rw [cell_at h.st]; rfl
theorem DkAt.c3 : w.cell? ⟨b, 3, none⟩ = some (iv d.armed) := by rw [cell_at h.st]; rfl
theorem DkAt.c4 : w.cell? ⟨b, 4, none⟩ = some (.bool d.gone) := by rw [cell_at h.st]; rfl
theorem DkAt.c5 : w.cell? ⟨b, 5, none⟩ = some (iv d.done) := by rw [cell_at h.st]; rfl
theorem DkAt.drew : DkAt w.drew b q d := h.keep0 (Fm.drew _ w)
theorem DkAt.putO {i : Nat} (hi : i < d.old.length) (x : Bs) {k : KV} (hk : ∀ w', DkAt w' b q { d with old := d.old.set i x } → Fm (q.mine b) w w' → k undef w') : St 1 w (.pointer (some ⟨q.o, i, none⟩)) (stv x) k := by
  refine h.ro.put (by simpa using hi) rfl fun w' h1 _ h3 => hk w' ?_ (h3.mono fun _ _ e => .inr (.inl e))
  rw [← List.map_set] at h1
  obtain ⟨n1, n2, n3, n4, n5, n6⟩ := h.ne
  exact ⟨by simpa using h3.heap h.st n1, h1, h.rn.keep h3 (fun e => n4 e.symm), h.rc.keep h3 (fun e => n5 e.symm), h.ne⟩
theorem DkAt.putN {i : Nat} (hi : i < d.cur.length) (x : Bs) {k : KV} (hk : ∀ w', DkAt w' b q { d with cur := d.cur.set i x } → Fm (q.mine b) w w' → k undef w') : St 1 w (.pointer (some ⟨q.n, i, none⟩)) (stv x) k := by
  refine h.rn.put (by simpa using hi) rfl fun w' h1 _ h3 => hk w' ?_ (h3.mono fun _ _ e => .inr (.inr (.inl e)))
  rw [← List.map_set] at h1
  obtain ⟨n1, n2, n3, n4, n5, n6⟩ := h.ne
  exact ⟨by simpa using h3.heap h.st n2, h.ro.keep h3 n4, h1, h.rc.keep h3 (fun e => n6 e.symm), h.ne⟩
theorem DkAt.putC {i : Nat} (hi : i < d.chg.length) (x : Bool) {k : KV} (hk : ∀ w', DkAt w' b q { d with chg := d.chg.set i x } → Fm (q.mine b) w w' → k undef w') : St 1 w (.pointer (some ⟨q.c, i, none⟩)) (.bool x) k := by
  refine h.rc.put (by simpa using hi) rfl fun w' h1 _ h3 => hk w' ?_ (h3.mono fun _ _ e => .inr (.inr (.inr e)))
  rw [← List.map_set] at h1
  obtain ⟨n1, n2, n3, n4, n5, n6⟩ := h.ne
  exact ⟨by simpa using h3.heap h.st n3, h.ro.keep h3 n5, h.rn.keep h3 n6, h1, h.ne⟩
theorem DkAt.putA (x : Int) {k : KV} (hk : ∀ w', DkAt w' b q { d with armed := x } → Fm (q.mine b) w w' → k undef w') : St 1 w (.pointer (some ⟨b, 3, none⟩)) (iv x) k := by
  refine St_blk h.st (by simp) rfl fun w' h1 _ h3 => hk w' ?_ (h3.mono fun _ _ e => .inl e)
  obtain ⟨n1, n2, n3, n4, n5, n6⟩ := h.ne
  exact ⟨h1, h.ro.keep h3 (fun e => n1 e.symm), h.rn.keep h3 (fun e => n2 e.symm), h.rc.keep h3 (fun e => n3 e.symm), h.ne⟩
theorem DkAt.putG (x : Bool) {k : KV} (hk : ∀ w', DkAt w' b q { d with gone := x } → Fm (q.mine b) w w' → k undef w') : St 1 w (.pointer (some ⟨b, 4, none⟩)) (.bool x) k := by
  refine St_blk h.st (by simp) rfl fun w' h1 _ h3 => hk w' ?_ (h3.mono fun _ _ e => .inl e)
  obtain ⟨n1, n2, n3, n4, n5, n6⟩ := h.ne
  exact ⟨h1, h.ro.keep h3 (fun e => n1 e.symm), h.rn.keep h3 (fun e => n2 e.symm), h.rc.keep h3 (fun e => n3 e.symm), h.ne⟩
theorem DkAt.putD (x : Int) {k : KV} (hk : ∀ w', DkAt w' b q { d with done := x } → Fm (q.mine b) w w' → k undef w') : St 1 w (.pointer (some ⟨b, 5, none⟩)) (iv x) k := by
  refine St_blk h.st (by simp) rfl fun w' h1 _ h3 => hk w' ?_ (h3.mono fun _ _ e => .inl e)
  obtain ⟨n1, n2, n3, n4, n5, n6⟩ := h.ne
  exact ⟨h1, h.ro.keep h3 (fun e => n1 e.symm), h.rn.keep h3 (fun e => n2 e.symm), h.rc.keep h3 (fun e => n3 e.symm), h.ne⟩
theorem DkAt.cellN {i : Nat} {x : Bs} (hi : d.cur[i]? = some x) : w.cell? ⟨q.n, i, none⟩ = some (stv x) := h.rn.cell (by rw [List.getElem?_map, hi]; rfl)
theorem rdhas_spec (hw : d.Wf) (a k : Int) : Cl Tryz.prog 135 [pv b, iv a, iv k] w fun v w' => v = .bool (d.has a k) ∧ w' = w := by
  have hn := hw.n1
  have hlo := hw.lo
  refine c135 ?_; unfold T135
  unfold Dk.has
  by_cases h1 : 0 ≤ a
  · have e1 : decide (0 ≤ a) = true := by simpa using h1
    by_cases h2 : 0 ≤ k
    · have e2 : decide (0 ≤ k) = true := by simpa using h2
      by_cases h3 : a ≤ d.cur.length
      · have e3 : decide (a ≤ (d.old.length : Int)) = true := by simp; omega
        have e4 : IntKind.i64.wrap ((d.old.length : Int) - a) = d.old.length - a := wrap_id (by omega)
        simp only [RS0, RS1, RS2, RS3, RS4, RS5, e1, e2, h.c0, e3, e4]
        refine ⟨?_, (by trivial)⟩
        congr 1
        rw [hlo]
        simp [h1, h2, h3]
      · have e3 : decide (a ≤ (d.old.length : Int)) = false := by simp; omega
        simp only [RS0, RS1, RS2, RS3, RS4, RS5, e1, e2, h.c0, e3]
        refine ⟨?_, (by trivial)⟩
        congr 1
        symm
        rw [decide_eq_false_iff_not]; omega
    · have e2 : decide (0 ≤ k) = false := by simpa using h2
      simp only [RS0, RS1, RS2, RS3, RS4, RS5, e1, e2]
      refine ⟨?_, (by trivial)⟩
      congr 1
      symm
      rw [decide_eq_false_iff_not]; omega
  · have e1 : decide (0 ≤ a) = false := by simpa using h1
    simp only [RS0, RS1, RS2, RS3, RS4, RS5, e1]
    refine ⟨?_, (by trivial)⟩
    congr 1
    symm
    rw [decide_eq_false_iff_not]; omega

theorem rdact_spec (hw : d.Wf) : Cl Tryz.prog 134 [pv b] w fun v w' => v = .bool d.tick.gone ∧ DkAt w' b q d.tick ∧ Fm (q.mine b) w w' := by
  have har := hw.ar
  refine c134 ?_; unfold T134
  simp only [RS0, RS1, RS2, RS3, RS4, RS5, h.c5]
  refine h.putD _ ?_
  intro w1 h1 hf1
  refine Jn_at (fun vs w2 => vs = [] ∧ DkAt w2 b q d.tick ∧ Fm (q.mine b) w w2) ?_ ?_
  · rintro _ w2 ⟨rfl, hD, hf⟩ _
    refine ⟨rfl, ?_⟩
    simp only [RS0, RS1, RS2, RS3, RS4, RS5, hD.c4]
    exact ⟨(by trivial), hD, hf⟩
  · intro kk hkk
    simp only [RS0, RS1, RS2, RS3, RS4, RS5, h1.c3]
    by_cases ha : 0 < d.armed
    · have e1 : decide (0 < d.armed) = true := by simpa using ha
      have e2 : IntKind.i64.wrap (d.armed - 1) = d.armed - 1 := wrap_id (by omega)
      simp only [RS0, RS1, RS2, RS3, RS4, RS5, e1, e2]
      refine h1.putA _ ?_
      intro w2 h2 hf2
      simp only [RS0, RS1, RS2, RS3, RS4, RS5, h2.c3]
      refine h2.putG _ ?_
      intro w3 h3 hf3
      refine hkk _ _ ⟨rfl, ?_, (hf1.trans hf2 (fun _ _ e => e) (fun _ _ e => e)).trans hf3 (fun _ _ e => e) (fun _ _ e => e)⟩
      unfold Dk.tick
      rw [if_pos ha]
      rw [beq_dec] at h3
      exact h3
    · have e1 : decide (0 < d.armed) = false := by simpa using ha
      simp only [RS0, RS1, RS2, RS3, RS4, RS5, e1]
      refine hkk _ _ ⟨rfl, ?_, hf1⟩
      unfold Dk.tick
      rw [if_neg ha]
      exact h1

theorem rdarm_spec {a : Int} : Cl Tryz.prog 57 [pv b, iv a] w fun v w' => v = iv (d.arm a).2 ∧ DkAt w' b q (d.arm a).1 ∧ Fm (q.mine b) w w' := by
  refine c57 ?_; unfold T57
  unfold Dk.arm
  simp only [RS0, RS1, RS2, RS3, RS4, RS5, h.c4]
  cases hg : d.gone with
  | true =>
    simp only [RS0, RS1, RS2, RS3, RS4, RS5, cond_true]
    exact ⟨(by trivial), h, Fm.refl _ _⟩
  | false =>
    simp only [RS0, RS1, RS2, RS3, RS4, RS5, cond_false]
    by_cases hn : a < 0
    · have e1 : decide (a < 0) = true := by simpa using hn
      simp only [RS0, RS1, RS2, RS3, RS4, RS5, e1, cond_true]
      exact ⟨(by trivial), h, Fm.refl _ _⟩
    · have e1 : decide (a < 0) = false := by simpa using hn
      simp only [RS0, RS1, RS2, RS3, RS4, RS5, e1, cond_false]
      refine h.putA _ ?_
      intro w1 h1 hf1
      exact ⟨(by trivial), by rw [← hg]; exact h1, hf1⟩

theorem rdread_spec (hw : d.Wf) (a k : Int) : Cl Tryz.prog 59 [pv b, iv a, iv k] w fun v w' => v = .tuple #[stv (d.read a k).1, iv (d.read a k).2] ∧ Fm (fun _ => False) w w' := by
  have hn := hw.n1
  refine c59 ?_; unfold T59
  unfold Dk.read
  simp only [RS0, RS1, RS2, RS3, RS4, RS5, h.c4]
  cases hg : d.gone with
  | true =>
    simp only [RS0, RS1, RS2, RS3, RS4, RS5, cond_true]
    exact ⟨(by trivial), Fm.refl _ _⟩
  | false =>
    simp only [RS0, RS1, RS2, RS3, RS4, RS5, cond_false]
    refine (rdhas_spec h hw a k).mono ?_
    rintro _ w ⟨rfl, rfl⟩
    cases hh : d.has a k with
    | false =>
      simp only [RS0, RS1, RS2, RS3, RS4, RS5, cond_true]
      exact ⟨(by trivial), Fm.refl _ _⟩
    | true =>
      unfold Dk.has at hh
      simp only [decide_eq_true_eq] at hh
      obtain ⟨i, rfl⟩ := Int.eq_ofNat_of_zero_le hh.1
      obtain ⟨j, rfl⟩ := Int.eq_ofNat_of_zero_le hh.2.1
      have hij : i + j ≤ d.cur.length := by omega
      have e1 : IntKind.i64.wrap ((i : Int) + j) = ((i + j : Nat) : Int) := by rw [wrap_id] <;> omega
      simp only [RS0, RS1, RS2, RS3, RS4, RS5, cond_false]
      refine ⟨fun vs w2 => ∃ (p : Nat) (u : Value), vs = [u, iv ((i + p : Nat) : Int)] ∧ p ≤ j ∧ w2.ownsRow w.heap.size 5 1 u (((d.cur.drop i).take p).flatten).length (bc ((d.cur.drop i).take p).flatten) ∧ DkAt w2 b q d ∧ Fm (fun _ => False) w w2, fun vs _ => (i + j - nth vs 1).toNat, ⟨0, _, rfl, by omega, by simpa [bc] using World.ownsRow_nil w _ _ _, h, Fm.refl _ _⟩, ?_⟩
      rintro _ w2 u ip ⟨p, _, hvs, hp, hu, h2, hf⟩
      cases hvs
      have hd64 : ∀ x ∈ (d.cur.drop i).take p, x.length = 64 := fun x hx => hw.s1 x (List.mem_of_mem_drop (List.mem_of_mem_take hx))
      have hl : (((d.cur.drop i).take p).flatten).length = 64 * p := by
        rw [Dk.flat_len hd64, List.length_take, List.length_drop]; congr 1; omega
      by_cases hlt : p < j
      · have e2 : decide (((i + p : Nat) : Int) < ((i + j : Nat) : Int)) = true := by rw [decide_eq_true_eq]; omega
        have e3 : IntKind.i64.wrap (((i + p : Nat) : Int) + 1) = ((i + (p + 1) : Nat) : Int) := by rw [wrap_id] <;> omega
        have hip : i + p < d.cur.length := by omega
        have hx : d.cur[i + p]? = some (d.cur.getD (i + p) []) := Dk.getD_eq hip
        have h64 := hw.cur64 hip
        generalize d.cur.getD (i + p) [] = x at hx h64
        have hst : (d.cur.drop i).take (p + 1) = (d.cur.drop i).take p ++ [x] := Dk.take_mid (by rw [List.getElem?_drop]; exact hx)
        simp only [RS0, RS1, RS2, RS3, RS4, RS5, e1, e2, h2.c1, ixV_at hip, Nat.mul_one, h2.cellN hx]
        obtain ⟨v', w3, hr, ho, hf3, _⟩ := append_text B44 hu x 123 (by rw [hl]; omega) hf.size
        refine RunS_ok hr ?_
        have hlt3 := hu.lt
        have hf3' : Fm (fun _ => False) w w3 := Fm.own hf hf3 (fun x hx => (hlt3 x hx).1)
        have h3 := h.keep0 hf3'
        simp only [RS0, RS1, RS2, RS3, RS4, RS5, e3]
        refine ⟨⟨p + 1, _, rfl, by omega, ?_, h3, hf3'⟩, by simp only [nth_1]; omega⟩
        rw [hst, List.flatten_append, List.length_append]
        simpa using ho
      · have hpe : p = j := by omega
        subst hpe
        have e2 : decide (((i + p : Nat) : Int) < ((i + p : Nat) : Int)) = false := by simp
        simp only [RS0, RS1, RS2, RS3, RS4, RS5, e1, e2]
        exact RunS_ok (conv_own B44 hu) ⟨rfl, hf⟩

theorem rdwrite_spec (hw : d.Wf) (a : Int) (s : Bs) (hs : s.length ≤ 9223372036854775807) : Cl Tryz.prog 123 [pv b, iv a, stv s] w fun v w' => v = iv (d.write a s).2 ∧ DkAt w' b q (d.write a s).1 ∧ Fm (q.mine b) w w' := by
  have hn := hw.n1
  refine c123 ?_; unfold T123
  unfold Dk.write
  simp only [RS0, RS1, RS2, RS3, RS4, RS5, h.c4]
  cases hg : d.gone with
  | true =>
    simp only [RS0, RS1, RS2, RS3, RS4, RS5, cond_true]
    exact ⟨(by trivial), h, Fm.refl _ _⟩
  | false =>
    have er := rem_nat (TypeDesc.int IntKind.i64) (n := s.length) (m := 64) (b := 64) (by omega) hs rfl
    have eq := quo_nat (TypeDesc.int IntKind.i64) (n := s.length) (m := 64) (b := 64) (by omega) hs rfl
    simp only [RS0, RS1, RS2, RS3, RS4, RS5, str_size, str_nil, str_inj, cond_false, bne_self_eq_false, er]
    by_cases hr : s.length % 64 = 0
    · have e1 : (((s.length % 64 : Nat) : Int) != 0) = false := by rw [hr]; rfl
      have e1' : decide (s.length % 64 ≠ 0) = false := by simp [hr]
      simp only [RS0, RS1, RS2, RS3, RS4, RS5, str_size, str_nil, str_inj, e1, e1', eq, Bool.false_or]
      refine (rdhas_spec h hw a _).mono ?_
      rintro _ w ⟨rfl, rfl⟩
      cases hh : d.has a (s.length / 64 : Nat) with
      | false =>
        simp only [RS0, RS1, RS2, RS3, RS4, RS5, cond_true]
        exact ⟨(by trivial), h, Fm.refl _ _⟩
      | true =>
        simp only [RS0, RS1, RS2, RS3, RS4, RS5, cond_false]
        unfold Dk.has at hh
        simp only [decide_eq_true_eq] at hh
        obtain ⟨p, rfl⟩ := Int.eq_ofNat_of_zero_le hh.1
        rw [Int.toNat_natCast]
        have hlen : s.length = 64 * (s.length / 64) := by omega
        generalize hK : s.length / 64 = K at hh hlen eq ⊢
        refine ⟨fun vs w2 => ∃ (i : Nat) (e : Dk), vs = [iv (i : Nat)] ∧ i ≤ K ∧ e.cur.length = d.cur.length ∧ e.Wf ∧ d.wr p (Dk.chunks K s) = e.wr (p + i) (Dk.chunks (K - i) (s.drop (64 * i))) ∧ DkAt w2 b q e ∧ Fm (q.mine b) w w2,
          fun vs _ => (K - nth vs 0).toNat, ⟨0, d, rfl, by omega, rfl, hw, rfl, h, Fm.refl _ _⟩, ?_⟩
        rintro _ w2 ii ⟨i, e, hvs, hi, hel, hew, heq, hE, hf⟩
        cases hvs
        simp only [RS0, RS1, RS2, RS3, RS4, RS5, str_size, str_nil, str_inj, eq]
        by_cases hlt : i < K
        · have e2 : decide ((i : Int) < (K : Int)) = true := by rw [decide_eq_true_eq]; omega
          have e3 : IntKind.i64.wrap ((p : Int) + i) = ((p + i : Nat) : Int) := by rw [wrap_id] <;> omega
          have e4 : IntKind.i64.wrap (64 * (i : Int)) = ((64 * i : Nat) : Int) := by rw [wrap_id] <;> omega
          have e5 : IntKind.i64.wrap (((64 * i : Nat) : Int) + 64) = ((64 * i + 64 : Nat) : Int) := by rw [wrap_id] <;> omega
          have e6 := slS_lh (l := s) (i := 64 * i) (j := 64 * i + 64) (by omega) (by omega) .i64 .i64
          rw [show 64 * i + 64 - 64 * i = 64 by omega] at e6
          have hpi : p + i < e.cur.length := by omega
          have hpc : p + i < e.chg.length := by rw [hew.lc]; exact hpi
          obtain ⟨r, hr2⟩ : ∃ r, K - i = r + 1 := ⟨K - i - 1, by omega⟩
          have ht64 : ((s.drop (64 * i)).take 64).length = 64 := by rw [List.length_take, List.length_drop]; omega
          have heq2 : d.wr p (Dk.chunks K s) = (let d' := (e.put (p + i) ((s.drop (64 * i)).take 64)).tick; bif d'.gone then (d', 5) else d'.wr (p + i + 1) (Dk.chunks r (s.drop (64 * (i + 1))))) := by
            rw [heq, hr2]
            show (let d' := (e.put (p + i) ((s.drop (64 * i)).take 64)).tick; bif d'.gone then (d', 5) else d'.wr (p + i + 1) (Dk.chunks r ((s.drop (64 * i)).drop 64))) = _
            rw [List.drop_drop, show 64 * i + 64 = 64 * (i + 1) by omega]
          have hEd := hE.drew
          simp only [RS0, RS1, RS2, RS3, RS4, RS5, str_size, str_nil, str_inj, e2, hE.c1, e3, e4, e5, e6, ixV_at hpi, Nat.mul_one, true_and]
          refine hEd.putN hpi _ ?_
          intro w3 h3 hf3
          have hpc3 : p + i < ({ e with cur := e.cur.set (p + i) ((s.drop (64 * i)).take 64) } : Dk).chg.length := hpc
          simp only [RS0, RS1, RS2, RS3, RS4, RS5, h3.c2, e3, ixV_at hpc3, Nat.mul_one]
          refine h3.putC hpc _ ?_
          intro w4 h4 hf4
          have hput := hew.put (p + i) ht64
          refine (rdact_spec (d := e.put (p + i) ((s.drop (64 * i)).take 64)) h4 hput).mono ?_
          rintro _ w5 ⟨rfl, h5, hf5⟩
          have hF : Fm (q.mine b) w w5 := (((hf.trans (Fm.drew (fun _ => False) w2) (U := q.mine b) (fun _ _ e => e) (fun _ _ e => e.elim)).trans hf3 (U := q.mine b) (fun _ _ e => e) (fun _ _ e => e)).trans hf4 (U := q.mine b) (fun _ _ e => e) (fun _ _ e => e)).trans hf5 (fun _ _ e => e) (fun _ _ e => e)
          rw [heq2]
          cases hg5 : (e.put (p + i) ((s.drop (64 * i)).take 64)).tick.gone with
          | true =>
            simp only [RS0, RS1, RS2, RS3, RS4, RS5, hg5, cond_true]
            exact ⟨(by trivial), h5, hF⟩
          | false =>
            have g4 : IntKind.i64.wrap ((i : Int) + 1) = ((i + 1 : Nat) : Int) := by rw [wrap_id] <;> omega
            simp only [RS0, RS1, RS2, RS3, RS4, RS5, cond_false, g4]
            have hl5 : (e.put (p + i) ((s.drop (64 * i)).take 64)).tick.cur.length = e.cur.length := by rw [(Dk.tick_cur _).1]; simp [Dk.put]
            refine ⟨⟨i + 1, _, rfl, by omega, by rw [hl5, hel], hput.tick, ?_, h5, hF⟩, by simp only [nth_0]; omega⟩
            simp only [hg5, cond_false]
            rw [show K - (i + 1) = r by omega]; rfl
        · have hie : i = K := by omega
          subst hie
          have e2 : decide ((i : Int) < (i : Int)) = false := by simp
          simp only [RS0, RS1, RS2, RS3, RS4, RS5, e2]
          rw [heq, Nat.sub_self]
          exact ⟨(by trivial), hE, hf⟩
    · have e1 : (((s.length % 64 : Nat) : Int) != 0) = true := by
        rw [bne_dec]; simp; omega
      have e1' : decide (s.length % 64 ≠ 0) = true := by simp [hr]
      simp only [RS0, RS1, RS2, RS3, RS4, RS5, str_size, str_nil, str_inj, e1, e1', Bool.true_or, cond_true]
      exact ⟨(by trivial), h, Fm.refl _ _⟩
end

end Go.Proofs.YthbngnlmgplijaaGreatDoor

namespace Go.Proofs.YthbngnlmgplijaaGreatDoor
open Go.Al Go.Proofs
set_option linter.unusedVariables false
set_option linter.unusedSimpArgs false
set_option linter.unusedSectionVars false

section
variable {w : World} {b : Nat} {q : DkL} {d : Dk} (h : DkAt w b q d)
include h

theorem rdsync_spec (hw : d.Wf) : Cl Tryz.prog 54 [pv b] w fun v w' => v = iv d.sync.2 ∧ DkAt w' b q d.sync.1 ∧ Fm (q.mine b) w w' := by
  have hn := hw.n1
  refine c54 ?_; unfold T54
  unfold Dk.sync
  cases hg : d.gone with
  | true =>
    simp only [RS0, RS1, RS2, RS3, RS4, RS5, h.c4, hg, cond_true]
    exact ⟨(by trivial), h, Fm.refl _ _⟩
  | false =>
    simp only [RS0, RS1, RS2, RS3, RS4, RS5, h.c4, hg, cond_false]
    refine (rdact_spec h hw).mono ?_
    rintro _ w1 ⟨rfl, h1, hf1⟩
    have hw1 := hw.tick
    cases hg1 : d.tick.gone with
    | true =>
      simp only [RS0, RS1, RS2, RS3, RS4, RS5, cond_true]
      exact ⟨(by trivial), h1, hf1⟩
    | false =>
      have hn1 : d.tick.cur.length ≤ 65536 := hw1.n1
      simp only [RS0, RS1, RS2, RS3, RS4, RS5, cond_false]
      generalize d.tick = e at h1 hw1 hg1 hn1
      refine ⟨fun vs w2 => ∃ i : Nat, vs = [iv (i : Nat)] ∧ i ≤ e.cur.length ∧ DkAt w2 b q (e.smid i) ∧ Fm (q.mine b) w w2, fun vs _ => (e.cur.length - nth vs 0).toNat, ⟨0, rfl, by omega, by rw [Dk.smid_zero]; exact h1, hf1⟩, ?_⟩
      rintro _ w2 ii ⟨i, hvs, hi, h2, hf2⟩
      cases hvs
      obtain ⟨l1, l2⟩ := Dk.smid_len hw1 hi
      by_cases hlt : i < e.cur.length
      · have e1 : decide ((i : Int) < ((e.smid i).old.length : Int)) = true := by rw [decide_eq_true_eq]; omega
        have e2 : IntKind.i64.wrap ((i : Int) + 1) = ((i + 1 : Nat) : Int) := by rw [wrap_id] <;> omega
        have hio : i < (e.smid i).old.length := by omega
        have hic : i < (e.smid i).chg.length := by omega
        have hin : i < (e.smid i).cur.length := hlt
        have hx : (e.smid i).cur[i]? = some (e.cur.getD i []) := Dk.getD_eq hlt
        have h2d := h2.drew
        simp only [RS0, RS1, RS2, RS3, RS4, RS5, h2.c0, e1, h2.c1, ixV_at hin, Nat.mul_one, h2.cellN hx, ixV_at hio, true_and]
        refine h2d.putO hio _ ?_
        intro w3 h3 hf3
        have hic3 : i < ({ e.smid i with old := (e.smid i).old.set i (e.cur.getD i []) } : Dk).chg.length := hic
        simp only [RS0, RS1, RS2, RS3, RS4, RS5, h3.c2, ixV_at hic3, Nat.mul_one]
        refine h3.putC hic _ ?_
        intro w4 h4 hf4
        simp only [RS0, RS1, RS2, RS3, RS4, RS5, e2]
        refine ⟨⟨i + 1, rfl, by omega, ?_, ?_⟩, by simp only [nth_0]; omega⟩
        · rw [Dk.smid_step hw1 hlt]; exact h4
        · exact ((hf2.trans (Fm.drew (fun _ => False) w2) (U := q.mine b) (fun _ _ e => e) (fun _ _ e => e.elim)).trans hf3 (U := q.mine b) (fun _ _ e => e) (fun _ _ e => e)).trans hf4 (fun _ _ e => e) (fun _ _ e => e)
      · have hie : i = e.cur.length := by omega
        subst hie
        have e1 : decide (((e.cur.length : Nat) : Int) < ((e.smid e.cur.length).old.length : Int)) = false := by rw [decide_eq_false_iff_not]; omega
        simp only [RS0, RS1, RS2, RS3, RS4, RS5, h2.c0, e1]
        refine ⟨(by trivial), ?_, hf2⟩
        rw [Dk.smid_end hw1] at h2
        rw [hg1] at h2; exact h2

end

theorem rdnew_spec (w : World) (n : Int) : Cl Tryz.prog 47 [iv n] w fun v w' =>
    (n < 1 ∨ 65536 < n → v = .tuple #[.pointer none, iv 1] ∧ w' = w) ∧
    (¬ (n < 1 ∨ 65536 < n) → ∃ b q, v = .tuple #[pv b, iv 0] ∧ (∀ x, q.mine b x → w.heap.size ≤ x) ∧ DkAt w' b q (Dk.mk0 n.toNat) ∧ Fm (fun _ => False) w w') := by
  refine c47 ?_; unfold T47
  by_cases h1 : n < 1
  · have e1 : decide (n < 1) = true := by simpa using h1
    simp only [RS0, RS1, RS2, RS3, RS4, RS5, e1]
    exact ⟨fun _ => ⟨trivial, trivial⟩, fun h => absurd (.inl h1) h⟩
  have e1 : decide (n < 1) = false := by simpa using h1
  by_cases h2 : 65536 < n
  · have e2 : decide (65536 < n) = true := by simpa using h2
    simp only [RS0, RS1, RS2, RS3, RS4, RS5, e1, e2]
    exact ⟨fun _ => ⟨trivial, trivial⟩, fun h => absurd (.inr h2) h⟩
  have e2 : decide (65536 < n) = false := by simpa using h2
  have hno : ¬ (n < 1 ∨ 65536 < n) := by omega
  obtain ⟨k, rfl⟩ := Int.eq_ofNat_of_zero_le (show 0 ≤ n by omega)
  have hk : 1 ≤ k ∧ k ≤ 65536 := by omega
  simp only [RS0, RS1, RS2, RS3, RS4, RS5, e1, e2]
  refine RunS_ok (dbld93 w) (New_any ?_)
  intro b w1 hb hs1 hw1 hf1
  refine RunS_ok (BRow.make B44 w1 64 (by omega)) ?_
  have hf2 := Fm.alloc (fun _ => False) w1 (.cells (bc (List.replicate 64 0)).toArray 5)
  have hb2 : BRow (w1.alloc (.cells (bc (List.replicate 64 0)).toArray 5)) w1.heap.size 5 (List.replicate 64 0) := alloc_new _ _
  have hs2 := alloc_size w1 (.cells (bc (List.replicate 64 0)).toArray 5)
  generalize w1.alloc (.cells (bc (List.replicate 64 0)).toArray 5) = w2 at hf2 hb2 hs2
  refine RunS_ok (hb2.conv B44 (o := 0) (n := 64) (by simp) _) ?_
  rw [show (((List.replicate 64 0).drop 0).take 64 : Bs) = Dk.zsec from rfl]
  have hst2 := hf2.heap hw1 (fun e => e)
  have hF2 := Fmf hf1 hf2
  have hbase : ∃ base, base = w2.heap.size := ⟨_, rfl⟩
  obtain ⟨base, hbe⟩ := hbase
  have hbb : b < base := by omega
  have hwb : w.heap.size ≤ b := by omega
  refine ⟨fun vs w3 => ∃ (i : Nat) (vo vn vc : Value), vs = [iv (i : Nat)] ∧ i ≤ k ∧ w3.heap[b]? = some (.cells #[vo, vn, vc, iv 0, .bool false, iv 0] 93) ∧
      w3.ownsRow base 9 1 vo i (List.replicate i (stv Dk.zsec)) ∧ w3.ownsRow base 9 1 vn i (List.replicate i (stv Dk.zsec)) ∧ w3.ownsRow base 4 1 vc i (List.replicate i (Value.bool false)) ∧ (∀ g, vo.ownBlock = some g → vn.ownBlock ≠ some g) ∧ base ≤ w3.heap.size ∧ Fm (fun _ => False) w w3,
    fun vs _ => (k - nth vs 0).toNat, ⟨0, _, _, _, rfl, by omega, hst2, by simpa using World.ownsRow_nil w2 _ _ _, by simpa using World.ownsRow_nil w2 _ _ _, by simpa using World.ownsRow_nil w2 _ _ _, (by intro g hg; cases hg), by omega, hF2⟩, ?_⟩
  rintro _ w3 ii ⟨i, vo, vn, vc, hvs, hi, hst, ho, hn, hc, hap, hbs, hF⟩
  cases hvs
  have hw0 := hF2.size
  by_cases hlt : i < k
  · have e3 : decide ((i : Int) < (k : Int)) = true := by rw [decide_eq_true_eq]; omega
    have e4 : IntKind.i64.wrap ((i : Int) + 1) = ((i + 1 : Nat) : Int) := by rw [wrap_id] <;> omega
    have c0 : w3.cell? ⟨b, 0, none⟩ = some vo := by rw [cell_at hst]; rfl
    simp only [RS0, RS1, RS2, RS3, RS4, RS5, e3, c0]
    refine append_elF dE59 (by omega) 59 (cs := [stv Dk.zsec]) rfl (dbs59 _ _) (by intro u hu; simp at hu; subst hu; rfl) ho (by unfold maxLen; omega) (by omega) hbs ?_
    intro vo' w4 ho' hcase
    have hapo : ∀ g, vo'.ownBlock = some g → vn.ownBlock ≠ some g := by
      intro g hg hg2
      rcases hcase with ⟨g', k1, k2, _⟩ | ⟨g', k1, k2, _⟩
      · rw [hg] at k2; cases k2; exact hap _ k1 hg2
      · rw [hg] at k1; cases k1; have := (hn.lt _ hg2).2; omega
    obtain ⟨S, hfS, hS1, hS2, hS3⟩ : ∃ S : Nat → Prop, Fm S w3 w4 ∧ (∀ x, S x → base ≤ x) ∧ (∀ g, vn.ownBlock = some g → ¬ S g) ∧ (∀ g, vc.ownBlock = some g → ¬ S g) := by
      rcases hcase with ⟨g', k1, k2, k3⟩ | ⟨g', k1, k2, k3⟩
      · exact ⟨_, k3, fun x hx => by rw [hx]; exact (ho.lt _ k1).1, fun g hg e => by subst e; exact hap _ k1 hg, fun g hg e => by subst e; exact own_apart ho hc (by decide) _ k1 hg⟩
      · exact ⟨_, k3, fun _ e => e.elim, fun _ _ e => e, fun _ _ e => e⟩
    have hst4 := hfS.heap hst (fun e => by have := hS1 _ e; omega)
    have hn4 := own_keep hn hfS (fun g _ _ hg => hS2 g hg)
    have hc4 := own_keep hc hfS (fun g _ _ hg => hS3 g hg)
    have hF4 := Fm.own hF hfS (fun x hx => by have := hS1 x hx; omega)
    have hbs4 := Nat.le_trans hbs hfS.size
    clear hfS hS1 hS2 hS3 hcase hap S hst hn hc ho c0 hF hbs w3
    refine St_blk hst4 (by simp) (own_one ho') ?_
    intro w5 hst5 hs5 hf5
    replace hst5 : w5.heap[b]? = some (.cells #[vo', vn, vc, iv 0, .bool false, iv 0] 93) := hst5
    have c1 : w5.cell? ⟨b, 1, none⟩ = some vn := by rw [cell_at hst5]; rfl
    have hne : ∀ g, base ≤ g → ¬ g = b := fun g hg => by omega
    have ho5 := own_keep ho' hf5 (fun g hg _ _ => hne g hg)
    have hn5 := own_keep hn4 hf5 (fun g hg _ _ => hne g hg)
    have hc5 := own_keep hc4 hf5 (fun g hg _ _ => hne g hg)
    have hF5 := Fm.own hF4 hf5 (by rintro x rfl; omega)
    simp only [RS0, RS1, RS2, RS3, RS4, RS5, c1]
    refine append_elF dE59 (by omega) 59 (cs := [stv Dk.zsec]) rfl (dbs59 _ _) (by intro u hu; simp at hu; subst hu; rfl) hn5 (by unfold maxLen; omega) (by omega) (by omega) ?_
    intro vn' w6 hn' hcase
    have hapn : ∀ g, vo'.ownBlock = some g → vn'.ownBlock ≠ some g := by
      intro g hg hg2
      rcases hcase with ⟨g', k1, k2, _⟩ | ⟨g', k1, k2, _⟩
      · rw [hg2] at k2; cases k2; exact hapo _ hg k1
      · rw [hg2] at k1; cases k1; have := (ho5.lt _ hg).2; omega
    obtain ⟨S, hfS, hS1, hS2, hS3⟩ : ∃ S : Nat → Prop, Fm S w5 w6 ∧ (∀ x, S x → base ≤ x) ∧ (∀ g, vo'.ownBlock = some g → ¬ S g) ∧ (∀ g, vc.ownBlock = some g → ¬ S g) := by
      rcases hcase with ⟨g', k1, k2, k3⟩ | ⟨g', k1, k2, k3⟩
      · exact ⟨_, k3, fun x hx => by rw [hx]; exact (hn5.lt _ k1).1, fun g hg e => by subst e; exact hapo _ hg k1, fun g hg e => by subst e; exact own_apart hn5 hc5 (by decide) _ k1 hg⟩
      · exact ⟨_, k3, fun _ e => e.elim, fun _ _ e => e, fun _ _ e => e⟩
    have hst6 := hfS.heap hst5 (fun e => by have := hS1 _ e; omega)
    have ho6 := own_keep ho5 hfS (fun g _ _ hg => hS2 g hg)
    have hc6 := own_keep hc5 hfS (fun g _ _ hg => hS3 g hg)
    have hF6 := Fm.own hF5 hfS (fun x hx => by have := hS1 x hx; omega)
    have hbs6 : base ≤ w6.heap.size := Nat.le_trans (by omega) hfS.size
    clear hfS hS1 hS2 hS3 hcase S
    refine St_blk hst6 (by simp) (own_one hn') ?_
    intro w7 hst7 hs7 hf7
    replace hst7 : w7.heap[b]? = some (.cells #[vo', vn', vc, iv 0, .bool false, iv 0] 93) := hst7
    have c2 : w7.cell? ⟨b, 2, none⟩ = some vc := by rw [cell_at hst7]; rfl
    have ho7 := own_keep ho6 hf7 (fun g hg _ _ => hne g hg)
    have hn7 := own_keep hn' hf7 (fun g hg _ _ => hne g hg)
    have hc7 := own_keep hc6 hf7 (fun g hg _ _ => hne g hg)
    have hF7 := Fm.own hF6 hf7 (by rintro x rfl; omega)
    simp only [RS0, RS1, RS2, RS3, RS4, RS5, c2]
    refine append_elF dE73 (by omega) 73 (cs := [Value.bool false]) rfl (dbs73 _ _) (by intro u hu; simp at hu; subst hu; rfl) hc7 (by unfold maxLen; omega) (by omega) (by omega) ?_
    intro vc' w8 hc' hcase
    obtain ⟨S, hfS, hS1, hS2, hS3⟩ : ∃ S : Nat → Prop, Fm S w7 w8 ∧ (∀ x, S x → base ≤ x) ∧ (∀ g, vo'.ownBlock = some g → ¬ S g) ∧ (∀ g, vn'.ownBlock = some g → ¬ S g) := by
      rcases hcase with ⟨g', k1, k2, k3⟩ | ⟨g', k1, k2, k3⟩
      · exact ⟨_, k3, fun x hx => by rw [hx]; exact (hc7.lt _ k1).1, fun g hg e => by subst e; exact own_apart ho7 hc7 (by decide) _ hg k1, fun g hg e => by subst e; exact own_apart hn7 hc7 (by decide) _ hg k1⟩
      · exact ⟨_, k3, fun _ e => e.elim, fun _ _ e => e, fun _ _ e => e⟩
    have hst8 := hfS.heap hst7 (fun e => by have := hS1 _ e; omega)
    have ho8 := own_keep ho7 hfS (fun g _ _ hg => hS2 g hg)
    have hn8 := own_keep hn7 hfS (fun g _ _ hg => hS3 g hg)
    have hF8 := Fm.own hF7 hfS (fun x hx => by have := hS1 x hx; omega)
    have hbs8 : base ≤ w8.heap.size := Nat.le_trans (by omega) hfS.size
    refine St_blk hst8 (by simp) (own_one hc') ?_
    intro w9 hst9 hs9 hf9
    simp only [RS0, RS1, RS2, RS3, RS4, RS5, e4]
    refine ⟨⟨i + 1, vo', vn', vc', rfl, by omega, hst9, ?_, ?_, ?_, hapn, by omega, Fm.own hF8 hf9 (by rintro x rfl; omega)⟩, by simp only [nth_0]; omega⟩
    · rw [List.replicate_succ']; exact own_keep ho8 hf9 (fun g hg _ _ => hne g hg)
    · rw [List.replicate_succ']; exact own_keep hn8 hf9 (fun g hg _ _ => hne g hg)
    · rw [List.replicate_succ']; exact own_keep hc' hf9 (fun g hg _ _ => hne g hg)
  · have hie : i = k := by omega
    subst hie
    have e3 : decide ((i : Int) < (i : Int)) = false := by simp
    simp only [RS0, RS1, RS2, RS3, RS4, RS5, e3]
    obtain ⟨go, co, rfl, o1, o2, o3, o4⟩ := PRow.of_own ho (by omega)
    obtain ⟨gn, cn, rfl, n1, n2, n3, n4⟩ := PRow.of_own hn (by omega)
    obtain ⟨gc, cc, rfl, c1, c2, c3, c4⟩ := PRow.of_own hc (by omega)
    refine ⟨fun h => absurd h hno, fun _ => ⟨b, ⟨go, gn, gc, co, cn, cc⟩, rfl, ?_, ⟨?_, ?_, ?_, ?_, ?_⟩, hF⟩⟩
    · intro x hx
      have hx' : x = b ∨ x = go ∨ x = gn ∨ x = gc := hx
      omega
    · rw [Int.toNat_natCast]
      have l1 : (Dk.mk0 i).old.length = i := by simp [Dk.mk0]
      have l2 : (Dk.mk0 i).cur.length = i := by simp [Dk.mk0]
      have l3 : (Dk.mk0 i).chg.length = i := by simp [Dk.mk0]
      rw [l1, l2, l3]; exact hst
    · show PRow w3 go 9 ((List.replicate i Dk.zsec).map stv)
      rw [List.map_replicate]; exact o4
    · show PRow w3 gn 9 ((List.replicate i Dk.zsec).map stv)
      rw [List.map_replicate]; exact n4
    · show PRow w3 gc 4 ((List.replicate i false).map Value.bool)
      rw [List.map_replicate]; exact c4
    · refine ⟨by show b ≠ go; omega, by show b ≠ gn; omega, by show b ≠ gc; omega, ?_, ?_, ?_⟩
      · intro e; have e' : go = gn := e; subst e'; exact hap _ o2 n2
      · intro e; have e' : go = gc := e; subst e'; exact own_apart ho hc (by decide) _ o2 c2
      · intro e; have e' : gn = gc := e; subst e'; exact own_apart hn hc (by decide) _ n2 c2

end Go.Proofs.YthbngnlmgplijaaGreatDoor

namespace Go.Proofs
open Go.RowKit Go.Shelf
set_option linter.unusedVariables false
set_option linter.unusedSimpArgs false
set_option linter.unusedSectionVars false
def Tryz.lays105_ren : Go.Shelf.Ren := ⟨fun | 105 => 95 | 212 => 173 | 99 => 174 | 165 => 175 | 166 => 176 | 170 => 177 | 169 => 178 | 263 => 208 | 264 => 209 | 206 => 210 | 240 => 211 | 241 => 212 | 276 => 223 | 277 => 224 | n => n, fun | 9 => 9 | 3 => 3 | 4 => 4 | 20 => 20 | 0 => 0 | 46 => 179 | 109 => 197 | 5 => 5 | 72 => 202 | 76 => 206 | 51 => 110 | 146 => 230 | 53 => 178 | 148 => 232 | 70 => 200 | 37 => 123 | 75 => 205 | 127 => 234 | 164 => 244 | 80 => 208 | n => n, fun | n => n⟩
theorem Tryz.lays105 : Go.Proofs.Lays.n105 Tryz.prog Tryz.lays105_ren := {
  mixed := by kernel_rfl
  f99 := Tryz.func174.trans (congrArg some (by kernel_rfl))
  f105 := Tryz.func95.trans (congrArg some (by kernel_rfl))
  f165 := Tryz.func175.trans (congrArg some (by kernel_rfl))
  f166 := Tryz.func176.trans (congrArg some (by kernel_rfl))
  f169 := Tryz.func178.trans (congrArg some (by kernel_rfl))
  f170 := Tryz.func177.trans (congrArg some (by kernel_rfl))
  f206 := Tryz.func210.trans (congrArg some (by kernel_rfl))
  f212 := Tryz.func173.trans (congrArg some (by kernel_rfl))
  f240 := Tryz.func211.trans (congrArg some (by kernel_rfl))
  f241 := Tryz.func212.trans (congrArg some (by kernel_rfl))
  f263 := Tryz.func208.trans (congrArg some (by kernel_rfl))
  f264 := Tryz.func209.trans (congrArg some (by kernel_rfl))
  f276 := Tryz.func223.trans (congrArg some (by kernel_rfl))
  f277 := Tryz.func224.trans (congrArg some (by kernel_rfl))
  t0 := Tryz.underlying0
  a0 := Tryz.isAgg0
  z0 := Tryz.sizeOf0
  v0 := Tryz.zeroValue0
  t3 := Tryz.underlying3
  a3 := Tryz.isAgg3
  z3 := Tryz.sizeOf3
  v3 := Tryz.zeroValue3
  t4 := Tryz.underlying4
  a4 := Tryz.isAgg4
  z4 := Tryz.sizeOf4
  v4 := Tryz.zeroValue4
  t5 := Tryz.underlying5
  a5 := Tryz.isAgg5
  z5 := Tryz.sizeOf5
  v5 := Tryz.zeroValue5
  t9 := Tryz.underlying9
  a9 := Tryz.isAgg9
  z9 := Tryz.sizeOf9
  v9 := Tryz.zeroValue9
  t20 := Tryz.underlying20
  a20 := Tryz.isAgg20
  z20 := Tryz.sizeOf20
  v20 := Tryz.zeroValue20
  t37 := Tryz.underlying123
  a37 := Tryz.isAgg123
  z37 := Tryz.sizeOf123
  v37 := Tryz.zeroValue123
  t46 := Tryz.underlying179
  a46 := Tryz.isAgg179
  z46 := Tryz.sizeOf179
  v46 := Tryz.zeroValue179
  t51 := Tryz.underlying110
  a51 := Tryz.isAgg110
  z51 := Tryz.sizeOf110
  v51 := Tryz.zeroValue110
  t53 := Tryz.underlying178
  a53 := Tryz.isAgg178
  z53 := Tryz.sizeOf178
  v53 := Tryz.zeroValue178
  t70 := Tryz.underlying200
  a70 := Tryz.isAgg200
  z70 := Tryz.sizeOf200
  v70 := Tryz.zeroValue200
  t72 := Tryz.underlying202
  a72 := Tryz.isAgg202
  z72 := Tryz.sizeOf202
  v72 := Tryz.zeroValue202
  t75 := Tryz.underlying205
  a75 := Tryz.isAgg205
  z75 := Tryz.sizeOf205
  v75 := Tryz.zeroValue205
  t76 := Tryz.underlying206
  a76 := Tryz.isAgg206
  z76 := Tryz.sizeOf206
  v76 := Tryz.zeroValue206
  t109 := Tryz.underlying197
  a109 := Tryz.isAgg197
  z109 := Tryz.sizeOf197
  v109 := Tryz.zeroValue197
  t127 := Tryz.underlying234
  a127 := Tryz.isAgg234
  z127 := Tryz.sizeOf234
  v127 := Tryz.zeroValue234
  t146 := Tryz.underlying230
  a146 := Tryz.isAgg230
  z146 := Tryz.sizeOf230
  v146 := Tryz.zeroValue230
  t148 := Tryz.underlying232
  a148 := Tryz.isAgg232
  z148 := Tryz.sizeOf232
  v148 := Tryz.zeroValue232
  t164 := Tryz.underlying244
  a164 := Tryz.isAgg244
  z164 := Tryz.sizeOf244
  v164 := Tryz.zeroValue244 }
def Tryz.lays160_ren : Go.Shelf.Ren := ⟨fun | 160 => 117 | 232 => 182 | 231 => 181 | 227 => 183 | 234 => 185 | 233 => 184 | 236 => 187 | 235 => 186 | 228 => 214 | 271 => 217 | 151 => 216 | 197 => 215 | 120 => 227 | 152 => 226 | 260 => 225 | 137 => 240 | 119 => 241 | 224 => 242 | 225 => 243 | 217 => 250 | 266 => 252 | n => n, fun | 9 => 9 | 4 => 4 | 3 => 3 | 5 => 5 | 117 => 213 | 116 => 212 | 0 => 0 | 124 => 216 | 21 => 21 | 105 => 236 | 46 => 179 | 119 => 256 | 139 => 259 | 138 => 258 | n => n, fun | 3 => 1 | 4 => 2 | n => n⟩
theorem Tryz.lays160 : Go.Proofs.Lays.n160 Tryz.prog Tryz.lays160_ren := {
  mixed := by kernel_rfl
  f119 := Tryz.func241.trans (congrArg some (by kernel_rfl))
  f120 := Tryz.func227.trans (congrArg some (by kernel_rfl))
  f137 := Tryz.func240.trans (congrArg some (by kernel_rfl))
  f151 := Tryz.func216.trans (congrArg some (by kernel_rfl))
  f152 := Tryz.func226.trans (congrArg some (by kernel_rfl))
  f160 := Tryz.func117.trans (congrArg some (by kernel_rfl))
  f197 := Tryz.func215.trans (congrArg some (by kernel_rfl))
  f217 := Tryz.func250.trans (congrArg some (by kernel_rfl))
  f224 := Tryz.func242.trans (congrArg some (by kernel_rfl))
  f225 := Tryz.func243.trans (congrArg some (by kernel_rfl))
  f227 := Tryz.func183.trans (congrArg some (by kernel_rfl))
  f228 := Tryz.func214.trans (congrArg some (by kernel_rfl))
  f231 := Tryz.func181.trans (congrArg some (by kernel_rfl))
  f232 := Tryz.func182.trans (congrArg some (by kernel_rfl))
  f233 := Tryz.func184.trans (congrArg some (by kernel_rfl))
  f234 := Tryz.func185.trans (congrArg some (by kernel_rfl))
  f235 := Tryz.func186.trans (congrArg some (by kernel_rfl))
  f236 := Tryz.func187.trans (congrArg some (by kernel_rfl))
  f260 := Tryz.func225.trans (congrArg some (by kernel_rfl))
  f266 := Tryz.func252.trans (congrArg some (by kernel_rfl))
  f271 := Tryz.func217.trans (congrArg some (by kernel_rfl))
  t0 := Tryz.underlying0
  a0 := Tryz.isAgg0
  z0 := Tryz.sizeOf0
  v0 := Tryz.zeroValue0
  t3 := Tryz.underlying3
  a3 := Tryz.isAgg3
  z3 := Tryz.sizeOf3
  v3 := Tryz.zeroValue3
  t4 := Tryz.underlying4
  a4 := Tryz.isAgg4
  z4 := Tryz.sizeOf4
  v4 := Tryz.zeroValue4
  t5 := Tryz.underlying5
  a5 := Tryz.isAgg5
  z5 := Tryz.sizeOf5
  v5 := Tryz.zeroValue5
  t9 := Tryz.underlying9
  a9 := Tryz.isAgg9
  z9 := Tryz.sizeOf9
  v9 := Tryz.zeroValue9
  t21 := Tryz.underlying21
  a21 := Tryz.isAgg21
  z21 := Tryz.sizeOf21
  v21 := Tryz.zeroValue21
  t46 := Tryz.underlying179
  a46 := Tryz.isAgg179
  z46 := Tryz.sizeOf179
  v46 := Tryz.zeroValue179
  t105 := Tryz.underlying236
  a105 := Tryz.isAgg236
  z105 := Tryz.sizeOf236
  v105 := Tryz.zeroValue236
  t116 := Tryz.underlying212
  a116 := Tryz.isAgg212
  z116 := Tryz.sizeOf212
  t117 := Tryz.underlying213
  a117 := Tryz.isAgg213
  z117 := Tryz.sizeOf213
  v117 := Tryz.zeroValue213
  t119 := Tryz.underlying256
  a119 := Tryz.isAgg256
  z119 := Tryz.sizeOf256
  t124 := Tryz.underlying216
  a124 := Tryz.isAgg216
  z124 := Tryz.sizeOf216
  v124 := Tryz.zeroValue216
  t138 := Tryz.underlying258
  a138 := Tryz.isAgg258
  z138 := Tryz.sizeOf258
  v138 := Tryz.zeroValue258
  t139 := Tryz.underlying259
  a139 := Tryz.isAgg259
  z139 := Tryz.sizeOf259
  v139 := Tryz.zeroValue259
  g3 := by kernel_rfl
  g4 := by kernel_rfl }

theorem Tryz.bldExtra : Builder.Extra Tryz.prog Tryz.lays105_ren where
  sizeBuilder := by kernel_rfl
  liesBuilder := by kernel_rfl
  t5 := Tryz.lays105.t5
  a5 := Tryz.lays105.a5
  z5 := Tryz.lays105.z5
  v5 := Tryz.lays105.v5
  infoByte := by kernel_rfl
  cellsByte := by kernel_rfl
  sizeByte := by kernel_rfl
  neB5 := by decide

namespace YthbngnlmgplijaaGreatDoor
open Go.Al Go.Proofs
set_option maxRecDepth 100000

theorem cl_of {g : FuncId} {args : List Value} {w : World} {R : Ending → World → Prop} {k : KV} (h : Calls Tryz.prog g args.toArray w R) (hk : ∀ e w', R e w' → ∃ v, e = .returned v ∧ k v w') : Cl Tryz.prog g args w k :=
  ⟨Calls.mono h fun e w' he => by obtain ⟨v, rfl, hv⟩ := hk e w' he; exact hv⟩
theorem Fm.of_belowB {B : Nat} {w w' : World} (h : Below B w w') : Fm (fun x => B ≤ x) w w' := ⟨h.os, h.tape, h.output, h.size, fun b hb hs => h.block b (by omega)⟩
/-! ### A builder -/
def Bld (w : World) (b : Nat) (l : Bs) : Prop := Lib.IsBuilderF 202 5 b b (bc l) w
theorem Bld.lt {w : World} {b : Nat} {l : Bs} (h : Bld w b l) : b < w.heap.size := by
  rcases h with h | h <;> exact h.lt
theorem Bld.new {w : World} {b : Nat} (h : w.heap[b]? = some (.cells #[.pointer none, .slice none 0 0] 202)) : Bld w b [] :=
  Lib.IsBuilderF.of (.inl ⟨Nat.le_refl _, _, h, World.ownsRow_nil _ _ _ _, by simp [Value.ownBlock]⟩)
theorem Bld.keep {w w' : World} {b : Nat} {l : Bs} (h : Bld w b l) (hf : Fm (fun _ => False) w w') : Bld w' b l := by
  have key : ∀ p, Lib.BuilderAtF 202 5 b b p (bc l) w → Lib.BuilderAtF 202 5 b b p (bc l) w' := by
    rintro p ⟨h1, v, h2, h3, h4⟩
    refine ⟨h1, v, hf.heap h2 (fun e => e), ?_, h4⟩
    obtain ⟨g1, g2⟩ := h3
    refine ⟨g1, ?_⟩
    rcases g2 with g2 | ⟨g, cap, cur, fz, r1, r2, r3, r4⟩
    · exact .inl g2
    · exact .inr ⟨g, cap, cur, fz, r1, r2, hf.heap r3 (fun e => e), r4⟩
  rcases h with h | h
  · exact .inl (key _ h)
  · exact .inr (key _ h)
theorem bwrite_spec {w : World} {b : Nat} {l : Bs} (h : Bld w b l) (s : Bs) (hlen : l.length + s.length ≤ 140737488355328) : Cl Tryz.prog 176 [pv b, stv s] w fun _ w' => Bld w' b (l ++ s) ∧ Fm (fun x => b ≤ x) w w' := by
  have c : Calls Tryz.prog 176 #[pv b, stv s] w fun e w' => e = .returned (.tuple #[.int .i64 (str s).size, .nilIface]) ∧ (Lib.BuilderAtF 202 5 b b (pv b) (bc l ++ Lib.strCells (str s)) w' ∧ Below b w w' ∧ Lib.OthersKept 5 (some b) w w') :=
    Any.Builder_WriteString_k (ρ := Tryz.lays105_ren) { Tryz.lays105 with } Tryz.bldExtra b b (bc l) (str s) w h (by rw [bc_len, str_size]; exact hlen) (Nat.le_of_lt h.lt)
  refine cl_of c fun e w' ⟨h1, h2, h3, _⟩ => ⟨_, h1, ?_, Fm.of_belowB h3⟩
  rw [show Lib.strCells (str s) = bc s from rfl, ← bc_append] at h2
  exact .inr h2
theorem blen_spec {w : World} {b : Nat} {l : Bs} (h : Bld w b l) : Cl Tryz.prog 177 [pv b] w fun v w' => v = iv l.length ∧ w' = w := by
  have c : Calls Tryz.prog 177 #[pv b] w fun e w' => e = .returned (.int .i64 (bc l).length) ∧ w' = w :=
    Any.Builder_Len_f (ρ := Tryz.lays105_ren) { Tryz.lays105 with } b b (bc l) w h
  rw [bc_len] at c
  exact cl_of c fun e w' ⟨h1, h2⟩ => ⟨_, h1, rfl, h2⟩
theorem bstring_spec {w : World} {b : Nat} {l : Bs} (h : Bld w b l) : Cl Tryz.prog 178 [pv b] w fun v w' => v = stv l ∧ Bld w' b l ∧ Fm (fun x => b ≤ x) w w' := by
  have c : Calls Tryz.prog 178 #[pv b] w fun e w' => e = .returned (.string ⟨l.toArray⟩) ∧ (Lib.IsBuilderF 202 5 b b (Lib.byteCells l) w' ∧ Below b w w' ∧ Lib.OthersKept 5 (some b) w w') :=
    Any.Builder_String_any_k (ρ := Tryz.lays105_ren) { Tryz.lays105 with } Tryz.bldExtra b b l w h (Nat.le_of_lt h.lt)
  exact cl_of c fun e w' ⟨h1, h2, h3, _⟩ => ⟨_, h1, rfl, h2, Fm.of_belowB h3⟩

/-! ### Repeat, Trim -/
theorem repeat_spec (w : World) (n : Nat) (hn : n ≤ 140737488355328) : Cl Tryz.prog 95 [stv [0], iv n] w fun v w' => v = stv (zeros n) ∧ Fm (fun _ => False) w w' := by
  have c : Calls Tryz.prog 95 #[stv [0], iv n] w fun e w' => e = .returned (.string ⟨(Lib.repeatL (str [0]).data.toList n).toArray⟩) ∧ Below w.heap.size w w' :=
    Any.strings_Repeat (ρ := Tryz.lays105_ren) Tryz.lays105 Tryz.bldExtra (str [0]) n w (by omega) (by rw [str_size]; simpa using hn)
  have e : Lib.repeatL (str [0]).data.toList n = zeros n := by
    have := Lib.repeatL_replicate 0 1 n
    rw [Nat.mul_one] at this
    exact this
  rw [e] at c
  exact cl_of c fun e w' ⟨h1, h2⟩ => ⟨_, h1, rfl, Fm.of_below h2 _⟩
theorem dropWhile_nil : ∀ (l : Bs), l.dropWhile (· == (0 : UInt8)) = [] ↔ l = zeros l.length
  | [] => by simp [zeros]
  | b :: l => by
    rw [List.dropWhile_cons]
    cases hb : (b == (0 : UInt8)) with
    | true =>
      have : b = 0 := by simpa using hb
      simp only [if_true, dropWhile_nil l, List.length_cons, zeros, List.replicate_succ]
      rw [this]
      simp
    | false =>
      have : b ≠ 0 := by simpa using hb
      simp [zeros, List.replicate_succ, this]
theorem trim_nil (l : Bs) : Lib.trimB l 0 = [] ↔ l = zeros l.length := by
  unfold Lib.trimB Lib.trimLeftB Lib.trimRightB
  rw [dropWhile_nil]
  constructor
  · intro h
    have h2 : (l.reverse.dropWhile (· == (0 : UInt8))) = zeros (l.reverse.dropWhile (· == (0 : UInt8))).length := by
      have := congrArg List.reverse h
      rw [List.reverse_reverse] at this
      rw [this]; simp [zeros]
    cases hd : l.reverse.dropWhile (· == (0 : UInt8)) with
    | nil =>
      have := (dropWhile_nil l.reverse).1 hd
      have := congrArg List.reverse this
      rw [List.reverse_reverse] at this
      rw [this]; simp [zeros]
    | cons x t =>
      rw [hd] at h2
      have hx : x = 0 := by
        have := congrArg List.head? h2
        simp [zeros, List.replicate_succ] at this; exact this
      have := List.head?_dropWhile_not (p := (· == (0 : UInt8))) (l := l.reverse)
      rw [hd] at this
      simp [hx] at this
  · intro h
    have h2 : l.reverse = zeros l.reverse.length := by rw [h]; simp [zeros]
    rw [(dropWhile_nil l.reverse).2 h2]
    rfl
theorem trim_spec (w : World) (l : Bs) (hl : l.length ≤ 9223372036854775807) : Cl Tryz.prog 117 [stv l, stv [0]] w fun v w' => (∃ t, v = stv t ∧ (t = [] ↔ l = zeros l.length)) ∧ Fm (fun _ => False) w w' := by
  have c : Calls Tryz.prog 117 #[stv l, stv [0]] w fun e w' => e = .returned (.string ⟨(Lib.trimB (str l).data.toList 0).toArray⟩) ∧ (w' = w ∨ w' = w.drew) :=
    Any.strings_Trim_one (ρ := Tryz.lays160_ren) Tryz.lays160 (str l) 0 (by decide) w (by rw [str_size]; exact hl)
  refine cl_of c fun e w' ⟨h1, h2⟩ => ⟨_, h1, ⟨_, rfl, trim_nil l⟩, ?_⟩
  rcases h2 with rfl | rfl
  · exact Fm.refl _ _
  · exact Fm.drew _ _

/-! ### Clone, Equal, Insert, Delete -/
theorem E22 : ElemT Tryz.prog 59 9 1 16 := elemT_of Tryz.underlying59 (by kernel_rfl)
theorem bs22e (w : World) : (Instr.buildSlice 59 0 #[]).run Tryz.prog w = .ok (.slice (some ⟨w.heap.size, 0, none⟩) 0 0) (w.alloc (.cells #[] 9)) := by kernel_rfl
theorem stv_one (xs : List Bs) : ∀ u ∈ xs.map stv, u.oneCell' = true := by
  intro u hu
  obtain ⟨x, _, rfl⟩ := List.mem_map.1 hu
  rfl
theorem clone_spec {w : World} {v : Value} {xs : List Bs} (h : CellsAt w v xs.length 1 (xs.map stv)) (hs : xs.length * 16 ≤ 140737488355328) : Cl Tryz.prog 106 [v] w fun r w' => w'.ownsRow w.heap.size 9 1 r xs.length (xs.map stv) ∧ Fm (fun _ => False) w w' := by
  refine c106 ?_; unfold T106
  obtain ⟨⟨a, c, hv, h1, h2, h3, h4⟩, hl⟩ := id h
  cases a with
  | none =>
    subst hv
    obtain ⟨e1, e2⟩ := h3 rfl
    have e3 : binV (TypeDesc.slice 9) .eql (.slice none xs.length c) (.slice none 0 0) = some (.bool true) := rfl
    simp only [RS0, RS1, RS2, RS3, RS4, RS5, e3]
    have : xs = [] := List.eq_nil_of_length_eq_zero e1
    subst this
    exact ⟨World.ownsRow_nil _ _ _ _, Fm.refl _ _⟩
  | some ad =>
    subst hv
    have e3 : binV (TypeDesc.slice 9) .eql (.slice (some ad) xs.length c) (.slice none 0 0) = some (.bool false) := rfl
    simp only [RS0, RS1, RS2, RS3, RS4, RS5, e3]
    refine RunS_ok (bs22e w) ?_
    have ho2 := own_alloc (w := w) (e := 9) (l := []) (by simp [maxLen]) (Nat.le_refl _)
    have hf2 := Fm.alloc (fun _ => False) w (.cells #[] 9)
    replace ho2 : (w.alloc (.cells #[] 9)).ownsRow w.heap.size 9 1 (.slice (some ⟨w.heap.size, 0, none⟩) 0 0) 0 [] := ho2
    generalize w.alloc (.cells #[] 9) = w2 at ho2 hf2
    obtain ⟨lv, w3, hr3, ho3, hf3⟩ := append_srcO E22 (by omega) ho2 (h.keep hf2 (fun _ _ e => e)) (stv_one xs) 59 (by unfold maxLen; omega) (by omega) hf2.size
    refine RunS_ok hr3 ?_
    rw [Nat.zero_add, List.nil_append] at ho3
    exact ⟨ho3, Fm.own hf2 hf3 (fun y hy => by have := own_lt ho2 y hy; omega)⟩
theorem equal_spec {w : World} {v u : Value} {xs ys : List Bs} (h : CellsAt w v xs.length 1 (xs.map stv)) (k : CellsAt w u ys.length 1 (ys.map stv)) : Cl Tryz.prog 207 [v, u] w fun r w' => r = .bool (decide (xs = ys)) ∧ Fm (fun _ => False) w w' := by
  have hlt := h.lt
  unfold maxLen at hlt
  refine c207 ?_; unfold T207
  simp only [RS0, RS1, RS2, RS3, RS4, RS5, h.lenV, k.lenV, bne_dec]
  by_cases hl : xs.length = ys.length
  · rw [show decide ((xs.length : Int) = (ys.length : Int)) = true by rw [decide_eq_true_eq]; omega]
    simp only [RS0, RS1, RS2, RS3, RS4, RS5, h.lenV]
    refine ⟨fun vs w2 => ∃ i : Nat, vs = [iv i] ∧ i ≤ xs.length ∧ xs.take i = ys.take i ∧ Fm (fun _ => False) w w2, fun vs _ => (xs.length - nth vs 0).toNat, ⟨0, rfl, by omega, rfl, Fm.refl _ _⟩, ?_⟩
    rintro _ w2 ivv ⟨i, hvs, hi, heq, hf2⟩
    cases hvs
    by_cases hlt2 : i < xs.length
    · have e1 : decide ((i : Int) < (xs.length : Int)) = true := by rw [decide_eq_true_eq]; omega
      have e2 : IntKind.i64.wrap ((i : Int) + 1) = ((i + 1 : Nat) : Int) := by rw [wrap_id] <;> omega
      have hx : xs[i]? = some xs[i] := List.getElem?_eq_getElem hlt2
      have hy : ys[i]? = some ys[i] := List.getElem?_eq_getElem (by omega)
      generalize xs[i] = x at hx
      generalize ys[i] = y at hy
      have hf3 := Fm.drew (fun _ => False) w2
      obtain ⟨ad, hix, _, hc⟩ := h.at1 (i := i) (x := stv x) (by rw [List.getElem?_map, hx]; rfl) .i64
      obtain ⟨ad', hix', _, hc'⟩ := k.at1 (i := i) (x := stv y) (by rw [List.getElem?_map, hy]; rfl) .i64
      have hc2 := hf2.cell' hc (fun e => e)
      have hc2' := hf2.cell' hc' (fun e => e)
      have htk : decide (x = y) = true → xs.take (i + 1) = ys.take (i + 1) := by
        intro e
        have e : x = y := by simpa using e
        rw [List.take_add_one, List.take_add_one, heq, hx, hy, e]
      simp only [RS0, RS1, RS2, RS3, RS4, RS5, e1, hix, hc2, true_and, hix', hc2', str_inj]
      cases hd : decide (x = y) with
      | true =>
        simp only [RS0, RS1, RS2, RS3, RS4, RS5, e2]
        exact ⟨⟨i + 1, rfl, by omega, htk hd, Fmf hf2 hf3⟩, by simp only [nth_0]; omega⟩
      | false =>
        simp only [RS0, RS1, RS2, RS3, RS4, RS5]
        refine ⟨?_, Fmf hf2 hf3⟩
        congr 1; symm
        rw [decide_eq_false_iff_not] at hd ⊢
        rintro rfl
        rw [hx] at hy; cases hy
        exact hd rfl
    · have hie : i = xs.length := by omega
      subst hie
      have e1 : decide (((xs.length : Nat) : Int) < (xs.length : Int)) = false := by simp
      rw [List.take_length, List.take_of_length_le (by omega)] at heq
      simp only [RS0, RS1, RS2, RS3, RS4, RS5, e1]
      refine ⟨?_, hf2⟩
      congr 1; symm; simpa using heq
  · rw [show decide ((xs.length : Int) = (ys.length : Int)) = false by rw [decide_eq_false_iff_not]; omega]
    simp only [RS0, RS1, RS2, RS3, RS4, RS5]
    refine ⟨?_, Fm.refl _ _⟩
    congr 1; symm
    rw [decide_eq_false_iff_not]
    rintro rfl
    exact hl rfl

end YthbngnlmgplijaaGreatDoor
end Go.Proofs

namespace Go.Proofs.YthbngnlmgplijaaGreatDoor
open Go.Al Go.Proofs
set_option linter.unusedVariables false
set_option linter.unusedSimpArgs false
set_option linter.unusedSectionVars false
set_option maxRecDepth 100000

/-! ### A page in the heap -/
def pcs (p : Pg) (v : Value) : Array Value := #[iv p.lsn, iv p.kind, iv p.level, iv p.right, stv p.high, v]
structure PgAs (w : World) (cs : Array Value) (p : Pg) : Prop where
  ex : ∃ v, cs = pcs p v ∧ v.oneCell' = true ∧ CellsAt w v p.items.length 1 (p.items.map stv)
  small : ∀ x ∈ p.items, x.length ≤ 140737488355328
  ins : In p.lsn ∧ In p.kind ∧ In p.level ∧ In p.right ∧ p.high.length ≤ 140737488355328 ∧ p.items.length * 16 ≤ 140737488355328
theorem PgAs.keep {w w' : World} {cs : Array Value} {p : Pg} (h : PgAs w cs p) (hf : Fm (fun _ => False) w w') : PgAs w' cs p := by
  obtain ⟨v, h1, h2, h3⟩ := h.ex
  exact ⟨⟨v, h1, h2, h3.keep hf (fun _ _ e => e)⟩, h.small, h.ins⟩
theorem PgAs.size {w : World} {cs : Array Value} {p : Pg} (h : PgAs w cs p) : cs.size = 6 := by obtain ⟨v, rfl, _⟩ := h.ex; rfl
theorem PgAs.one {w : World} {cs : Array Value} {p : Pg} (h : PgAs w cs p) : ∀ u ∈ cs.toList, u.oneCell' = true := by
  obtain ⟨v, rfl, h2, _⟩ := h.ex
  intro u hu
  simp [pcs] at hu
  rcases hu with rfl | rfl | rfl | rfl | rfl | rfl <;> first | rfl | assumption
theorem items_nil (w : World) : CellsAt w (.slice none 0 0) ([] : List Bs).length 1 (([] : List Bs).map stv) := ⟨⟨none, 0, rfl, Nat.le_refl _, by simp [maxLen], fun _ => ⟨rfl, rfl⟩, fun j u hj => by simp at hj⟩, rfl⟩
theorem pgAs0 (w : World) : PgAs w (pcs pg0 (.slice none 0 0)) pg0 := ⟨⟨_, rfl, rfl, items_nil w⟩, by simp [pg0], by simp [pg0, In]⟩
def PB (w : World) (g : Nat) (p : Pg) (v : Value) : Prop := w.heap[g]? = some (.cells (pcs p v) 61)
section
variable {S : Nat → Prop} {w w' : World} {g : Nat} {p : Pg} {v : Value}
theorem PB.keep (h : PB w g p v) (hf : Fm S w w') (hs : ¬ S g) : PB w' g p v := hf.heap h hs
theorem PB.c0 (h : PB w g p v) : w.cell? ⟨g, 0, none⟩ = some (iv p.lsn) := by rw [cell_at h]; rfl
theorem PB.c1 (h : PB w g p v) : w.cell? ⟨g, 1, none⟩ = some (iv p.kind) := by rw [cell_at h]; rfl
theorem PB.c2 (h : PB w g p v) : w.cell? ⟨g, 2, none⟩ = some (iv p.level) := by rw [cell_at h]; rfl
theorem PB.c3 (h : PB w g p v) : w.cell? ⟨g, 3, none⟩ = some (iv p.right) := by rw [cell_at h]; rfl
theorem PB.c4 (h : PB w g p v) : w.cell? ⟨g, 4, none⟩ = some (stv p.high) := by rw [cell_at h]; rfl
theorem PB.c5 (h : PB w g p v) : w.cell? ⟨g, 5, none⟩ = some v := by rw [cell_at h]; rfl
theorem PB.all (h : PB w g p v) : cellsV w ⟨g, 0, none⟩ 6 = some (.agg (pcs p v)) := cellsV_blk h rfl
theorem PB.lt (h : PB w g p v) : g < w.heap.size := lt_of_heap h
end

/-! ### Sizes -/
theorem wrap_add2 (a b : Int) : IntKind.i64.wrap (IntKind.i64.wrap a + b) = IntKind.i64.wrap (a + b) := by
  unfold IntKind.wrap; simp [IntKind.bits, IntKind.signed]; omega
def pszF (p : Pg) (i : Nat) : Nat := (p.items.take i).foldl (fun n it => n + (2 + it.length)) (20 + p.high.length)
theorem pszF_full (p : Pg) : pszF p p.items.length = pSize p := by unfold pszF pSize; rw [List.take_length]
theorem pszF_succ (p : Pg) {i : Nat} {x : Bs} (h : p.items[i]? = some x) : pszF p (i + 1) = pszF p i + (2 + x.length) := foldl_take' _ _ h
theorem size_bound {w : World} {cs : Array Value} {p : Pg} (h : PgAs w cs p) (hn : p.items.length ≤ 255) : pSize p ≤ 40000000000000000 := by
  have key : ∀ (l : List Bs) (n : Nat), (∀ x ∈ l, x.length ≤ 140737488355328) → l.foldl (fun n it => n + (2 + it.length)) n ≤ n + l.length * 140737488355330 := by
    intro l
    induction l with
    | nil => intro n _; simp
    | cons x l ih =>
      intro n hx
      have := ih (n + (2 + x.length)) (fun y hy => hx y (List.mem_cons_of_mem _ hy))
      have := hx x (by simp)
      simp only [List.foldl_cons, List.length_cons]
      omega
  have := key p.items (20 + p.high.length) h.small
  have := h.ins
  unfold pSize
  omega
theorem size_spec {w : World} {cs : Array Value} {p : Pg} (h : PgAs w cs p) : Cl Tryz.prog 213 [.agg cs] w fun r w' => r = iv (IntKind.i64.wrap (pSize p)) ∧ Fm (fun _ => False) w w' := by
  obtain ⟨v, rfl, _, hc⟩ := h.ex
  have hi := h.ins
  have hlt := hc.lt
  unfold maxLen at hlt
  refine c213 ?_; unfold T213
  refine New_any ?_
  intro g w1 hg hs1 hw1 hf1
  replace hw1 : PB w1 g p v := hw1
  have e0 : IntKind.i64.wrap (20 + (p.high.length : Int)) = ((20 + p.high.length : Nat) : Int) := by rw [wrap_id] <;> omega
  have hlen := hc.lenV
  simp only [RS0, RS1, RS2, RS3, RS4, RS5, hw1.c4, str_size, e0, hw1.c5, hlen]
  refine ⟨fun vs w2 => ∃ i : Nat, vs = [iv (IntKind.i64.wrap (pszF p i : Nat)), iv i] ∧ i ≤ p.items.length ∧ w2 = w1, fun vs _ => (p.items.length - nth vs 1).toNat, ⟨0, by rw [show pszF p 0 = 20 + p.high.length by simp [pszF], wrap_id (by omega)]; rfl, by omega, rfl⟩, ?_⟩
  rintro _ w2 nv ivv ⟨i, hvs, hi2, rfl⟩
  cases hvs
  by_cases hl : i < p.items.length
  · have e1 : decide ((i : Int) < (p.items.length : Int)) = true := by rw [decide_eq_true_eq]; omega
    have e2 : IntKind.i64.wrap ((i : Int) + 1) = ((i + 1 : Nat) : Int) := by rw [wrap_id] <;> omega
    have hx : p.items[i]? = some p.items[i] := List.getElem?_eq_getElem hl
    have hxm : p.items[i] ∈ p.items := List.getElem_mem hl
    generalize p.items[i] = x at hx hxm
    have hxl := h.small x hxm
    obtain ⟨ad, hix, _, hcx⟩ := (hc.keep hf1 (fun _ _ e => e)).at1 (i := i) (x := stv x) (by rw [List.getElem?_map, hx]; rfl) .i64
    have e3 : IntKind.i64.wrap (2 + (x.length : Int)) = ((2 + x.length : Nat) : Int) := by rw [wrap_id] <;> omega
    have e4 : IntKind.i64.wrap (IntKind.i64.wrap (pszF p i : Nat) + ((2 + x.length : Nat) : Int)) = IntKind.i64.wrap (pszF p (i + 1) : Nat) := by
      rw [wrap_add2, pszF_succ p hx]; congr 1
    simp only [RS0, RS1, RS2, RS3, RS4, RS5, e1, hix, hcx, str_size, e3, e4, e2]
    exact ⟨⟨i + 1, rfl, by omega, (by trivial)⟩, by simp only [nth_1]; omega⟩
  · obtain rfl : i = p.items.length := by omega
    have e1 : decide (((p.items.length : Nat) : Int) < (p.items.length : Int)) = false := by simp
    simp only [RS0, RS1, RS2, RS3, RS4, RS5, e1]
    exact ⟨by rw [pszF_full], hf1⟩
theorem rsize_spec {w : World} {cs : Array Value} {p : Pg} (h : PgAs w cs p) : Cl Tryz.prog 193 [.agg cs] w fun r w' => r = iv (IntKind.i64.wrap (pSize p)) ∧ Fm (fun _ => False) w w' := by
  obtain ⟨v, rfl, _, hc⟩ := h.ex
  have hi := h.ins
  have hlt := hc.lt
  unfold maxLen at hlt
  refine c193 ?_; unfold T193
  refine New_any ?_
  intro g w1 hg hs1 hw1 hf1
  replace hw1 : PB w1 g p v := hw1
  have e0 : IntKind.i64.wrap (20 + (p.high.length : Int)) = ((20 + p.high.length : Nat) : Int) := by rw [wrap_id] <;> omega
  have hlen := hc.lenV
  simp only [RS0, RS1, RS2, RS3, RS4, RS5, hw1.c4, str_size, e0]
  refine ⟨fun vs w2 => ∃ i : Nat, vs = [iv (IntKind.i64.wrap (pszF p i : Nat)), iv i] ∧ i ≤ p.items.length ∧ w2 = w1, fun vs _ => (p.items.length - nth vs 1).toNat, ⟨0, by rw [show pszF p 0 = 20 + p.high.length by simp [pszF], wrap_id (by omega)]; rfl, by omega, rfl⟩, ?_⟩
  rintro _ w2 nv ivv ⟨i, hvs, hi2, rfl⟩
  cases hvs
  by_cases hl : i < p.items.length
  · have e1 : decide ((i : Int) < (p.items.length : Int)) = true := by rw [decide_eq_true_eq]; omega
    have e2 : IntKind.i64.wrap ((i : Int) + 1) = ((i + 1 : Nat) : Int) := by rw [wrap_id] <;> omega
    have hx : p.items[i]? = some p.items[i] := List.getElem?_eq_getElem hl
    have hxm : p.items[i] ∈ p.items := List.getElem_mem hl
    generalize p.items[i] = x at hx hxm
    have hxl := h.small x hxm
    obtain ⟨ad, hix, _, hcx⟩ := (hc.keep hf1 (fun _ _ e => e)).at1 (i := i) (x := stv x) (by rw [List.getElem?_map, hx]; rfl) .i64
    have e4 : IntKind.i64.wrap (IntKind.i64.wrap (IntKind.i64.wrap (pszF p i : Nat) + 2) + (x.length : Int)) = IntKind.i64.wrap (pszF p (i + 1) : Nat) := by
      rw [wrap_add2, Int.add_assoc, wrap_add2, pszF_succ p hx]; congr 1
    simp only [RS0, RS1, RS2, RS3, RS4, RS5, hw1.c5, hlen, e1, hix, hcx, str_size, e4, e2]
    exact ⟨⟨i + 1, rfl, by omega, (by trivial)⟩, by simp only [nth_1]; omega⟩
  · obtain rfl : i = p.items.length := by omega
    have e1 : decide (((p.items.length : Nat) : Int) < (p.items.length : Int)) = false := by simp
    simp only [RS0, RS1, RS2, RS3, RS4, RS5, hw1.c5, hlen, e1]
    exact ⟨by rw [pszF_full], hf1⟩
def fitsB (p : Pg) : Bool := decide (p.items.length ≤ 255) && decide (pSize p ≤ 512)
theorem fits_spec {w : World} {cs : Array Value} {p : Pg} (h : PgAs w cs p) : Cl Tryz.prog 180 [.agg cs] w fun r w' => r = .bool (fitsB p) ∧ Fm (fun _ => False) w w' := by
  obtain ⟨v, hcs, _, hc⟩ := h.ex
  refine c180 ?_; unfold T180
  refine New_any ?_
  intro g w1 hg hs1 hw1 hf1
  have hb : PB w1 g p v := by rw [PB, ← hcs]; exact hw1
  have hall := hb.all
  rw [← hcs] at hall
  have hlen := hc.lenV
  have d1 : decide ((p.items.length : Int) ≤ 255) = decide (p.items.length ≤ 255) := by rw [decide_eq_decide]; omega
  unfold fitsB
  simp only [RS0, RS1, RS2, RS3, RS4, RS5, hb.c5, hlen, d1]
  cases hd : decide (p.items.length ≤ 255) with
  | false =>
    simp only [RS0, RS1, RS2, RS3, RS4, RS5, Bool.false_and]
    exact ⟨(by trivial), hf1⟩
  | true =>
    have hsb := size_bound h (by simpa using hd)
    simp only [RS0, RS1, RS2, RS3, RS4, RS5, hall]
    refine (size_spec (h.keep hf1)).mono ?_
    rintro _ w2 ⟨rfl, hf2⟩
    have d2 : decide (IntKind.i64.wrap (pSize p) ≤ 512) = decide (pSize p ≤ 512) := by rw [wrap_nat (by omega), decide_eq_decide]; omega
    simp only [RS0, RS1, RS2, RS3, RS4, RS5, d2, Bool.true_and]
    exact ⟨(by trivial), Fmf hf1 hf2⟩

end Go.Proofs.YthbngnlmgplijaaGreatDoor

namespace Go.Proofs.YthbngnlmgplijaaGreatDoor
open Go.Al Go.Proofs
set_option linter.unusedVariables false
set_option linter.unusedSimpArgs false
set_option linter.unusedSectionVars false
set_option maxRecDepth 100000

def rangeB (p : Pg) : Bool := decide (p.lsn < 0 ∨ p.level < 0 ∨ p.right < 0 ∨ p.kind < 1 ∨ 3 < p.kind ∨ 255 < p.level ∨ 4294967295 < p.right)
def longB (p : Pg) : Bool := decide (255 < p.high.length ∨ 255 < p.items.length ∨ 512 < pSize p)
theorem pErr_eq (p : Pg) : pErr p = bif rangeB p then 4 else bif longB p then 3 else 0 := rfl
def encR (p : Pg) : Value := .tuple #[stv (pEnc p).1, iv (pEnc p).2]
theorem encR_range {p : Pg} (h : rangeB p = true) : encR p = .tuple #[stv [], iv 4] := by
  have : pErr p = 4 := by rw [pErr_eq, h]; rfl
  unfold encR; rw [pEnc_bad (by rw [this]; decide), this]
theorem encR_long {p : Pg} (h : rangeB p = false) (h2 : longB p = true) : encR p = .tuple #[stv [], iv 3] := by
  have : pErr p = 3 := by rw [pErr_eq, h, h2]; rfl
  unfold encR; rw [pEnc_bad (by rw [this]; decide), this]
theorem pErr_zero {p : Pg} (h : rangeB p = false) (h2 : longB p = false) : pErr p = 0 := by rw [pErr_eq, h, h2]; rfl
theorem encR_ok {p : Pg} (h : pErr p = 0) : encR p = .tuple #[stv (beN 4 (crc (pText p)) ++ pText p), iv 0] := by unfold encR; rw [pEnc_ok h]
theorem fold_min3 (a b c : Int) : foldV0 min2V [iv a, iv b, iv c] = some (iv (if c < (if b < a then b else a) then c else (if b < a then b else a))) := rfl
theorem bigB_nn {n : Int} {k : Nat} (h0 : 0 ≤ n) (h1 : 1 ≤ k) (h8 : k ≤ 8) : bigB n (k : Int) = beN k n.toNat := by
  have := bigB_of (n := n.toNat) h1 h8
  rw [Int.toNat_of_nonneg h0] at this; exact this
theorem sadd {a b : Bs} (h : a.length + b.length ≤ 9223372036854775807) : binV TypeDesc.string .add (stv a) (stv b) = some (stv (a ++ b)) := binV_sadd _ a b h
theorem flat_take {l : List Bs} {i : Nat} {x : Bs} (h : l[i]? = some x) : (l.take (i + 1)).flatMap itB = (l.take i).flatMap itB ++ itB x := by
  rw [List.take_add_one, h, List.flatMap_append]; simp
theorem flat_le (l : List Bs) (i : Nat) : ((l.take i).flatMap itB).length ≤ (l.flatMap itB).length := by
  have : l.flatMap itB = (l.take i).flatMap itB ++ (l.drop i).flatMap itB := by rw [← List.flatMap_append, List.take_append_drop]
  rw [this, List.length_append]; omega
theorem crc_in (l : Bs) : In (crc l : Nat) ∧ IntKind.i64.wrap (crc l : Nat) = ((crc l : Nat) : Int) := by
  have := crc_lt l
  exact ⟨by unfold In; omega, wrap_nat (by omega)⟩

set_option maxHeartbeats 4000000 in
theorem encode_spec {w : World} {cs : Array Value} {p : Pg} (h : PgAs w cs p) : Cl Tryz.prog 103 [.agg cs] w fun r w' => r = encR p ∧ Fm (fun _ => False) w w' := by
  obtain ⟨v, rfl, hone, hc⟩ := h.ex
  have hin := h.ins
  have hclt := hc.lt
  unfold maxLen at hclt
  refine c103 ?_; unfold T103
  refine New_any ?_
  intro x1 w1 hx1 hs1 hw1 hf1
  replace hw1 : PB w1 x1 p v := hw1
  have hc1 := hc.keep hf1 (fun _ _ e => e)
  have hlen := hc.lenV
  refine Jn_at (fun vs w2 => vs = [.bool (rangeB p)] ∧ w2 = w1) ?_ ?_
  · rintro _ w2 ⟨rfl, rfl⟩ _
    refine ⟨_, rfl, ?_⟩
    cases hr : rangeB p with
    | true =>
      simp only [RS0, RS1, RS2, RS3, RS4, RS5]
      exact ⟨(encR_range hr).symm, hf1⟩
    | false =>
    simp only [RS0, RS1, RS2, RS3, RS4, RS5]
    refine Jn_at (fun vs w3 => vs = [.bool (longB p)] ∧ PB w3 x1 p v ∧ Fm (fun _ => False) w2 w3) ?_ ?_
    · rintro _ w3 ⟨rfl, hw3, hf3⟩ _
      refine ⟨_, rfl, ?_⟩
      have hF3 := Fmf hf1 hf3
      cases hl : longB p with
      | true =>
        simp only [RS0, RS1, RS2, RS3, RS4, RS5]
        exact ⟨(encR_long hr hl).symm, hF3⟩
      | false =>
      simp only [RS0, RS1, RS2, RS3, RS4, RS5]
      have hok := pErr_zero hr hl
      obtain ⟨⟨b1, b2, b3, b4, b5, b6, b7⟩, b8, b9, b10⟩ := pErr_ok hok
      have hbl := pBody_len p
      refine New_any ?_
      intro b w4 hb hs4 hw4 hf4
      have hB4 := Bld.new hw4
      have hf5 := Fm.drew (fun _ => False) w4
      have hB5 := hB4.keep hf5
      have hP4 := hw3.keep hf4 (fun e => e)
      have hP5 : PB w4.drew x1 p v := hP4.keep hf5 (fun e => e)
      have hF5 : Fm (fun _ => False) w w4.drew := Fmf hF3 (Fmf hf4 hf5)
      have hxb : x1 < b ∧ w.heap.size ≤ b := by have := hw3.lt; have := hF3.size; omega
      generalize w4.drew = w5 at hB5 hP5 hF5
      have upB : ∀ {a c : World}, Fm (fun _ => False) a c → Fm (fun y => b ≤ y) a c := fun hf => hf.mono (fun _ _ e => e.elim)
      refine ⟨fun w => PB w x1 p v, hP5, ?_⟩
      simp only [RS0, RS1, RS2, RS3, RS4, RS5, hP4.c0, hP5.c0, true_and]
      refine ⟨iv p.kind, fun w6 h6 => ?_, ?_⟩
      · simp only [RS0, RS1, RS2, RS3, RS4, RS5, h6.c1]; trivial
      refine ⟨iv p.level, fun w6 h6 => ?_, ?_⟩
      · simp only [RS0, RS1, RS2, RS3, RS4, RS5, h6.c2]; trivial
      refine ⟨iv p.right, fun w6 h6 => ?_, ?_⟩
      · simp only [RS0, RS1, RS2, RS3, RS4, RS5, h6.c3]; trivial
      refine (big_spec w5 hin.1 8).mono ?_
      rintro _ w6 ⟨rfl, hf6⟩
      have hP6 := hP5.keep hf6 (fun e => e)
      refine ⟨hP6, ?_⟩
      refine (big_spec w6 hin.2.1 1).mono ?_
      rintro _ w7 ⟨rfl, hf7⟩
      have hP7 := hP6.keep hf7 (fun e => e)
      refine ⟨hP7, ?_⟩
      have g1 : bigB p.lsn 8 = beN 8 p.lsn.toNat := bigB_nn (k := 8) b1 (by omega) (by omega)
      have g2 : bigB p.kind 1 = beN 1 p.kind.toNat := bigB_nn (k := 1) (by omega) (by omega) (by omega)
      have g3 : bigB p.level 1 = beN 1 p.level.toNat := bigB_nn (k := 1) b2 (by omega) (by omega)
      have g4 : bigB p.right 4 = beN 4 p.right.toNat := bigB_nn (k := 4) b3 (by omega) (by omega)
      rw [g1, g2, sadd (by rw [beN_len, beN_len]; omega)]
      try simp only [RS0, RS1, RS2, RS3, RS4, RS5]
      refine (big_spec w7 hin.2.2.1 1).mono ?_
      rintro _ w8 ⟨rfl, hf8⟩
      have hP8 := hP7.keep hf8 (fun e => e)
      refine ⟨hP8, ?_⟩
      rw [g3, sadd (by simp only [List.length_append, beN_len]; omega)]
      try simp only [RS0, RS1, RS2, RS3, RS4, RS5]
      refine (big_spec w8 hin.2.2.2.1 4).mono ?_
      rintro _ w9 ⟨rfl, hf9⟩
      have hP9 := hP8.keep hf9 (fun e => e)
      rw [g4, sadd (by simp only [List.length_append, beN_len]; omega)]
      try simp only [RS0, RS1, RS2, RS3, RS4, RS5]
      have hF59 := Fmf (Fmf hf6 hf7) (Fmf hf8 hf9)
      have hB9 := hB5.keep hF59
      refine (bwrite_spec hB9 _ (by simp only [List.length_append, beN_len, List.length_nil]; omega)).mono ?_
      rintro _ w10 ⟨hB10, hf10⟩
      have hP10 := hP9.keep hf10 (by omega)
      have hf11 := Fm.drew (fun _ => False) w10
      have hB11 := hB10.keep hf11
      have hP11 := hP10.keep hf11 (fun e => e)
      have hF11 : Fm (fun _ => False) w w10.drew := Fmf (Fm.own (Fmf hF5 hF59) hf10 (fun y hy => by omega)) hf11
      generalize w10.drew = w11 at hB11 hP11 hF11
      refine ⟨fun w => PB w x1 p v, hP11, ?_⟩
      simp only [RS0, RS1, RS2, RS3, RS4, RS5, hP10.c5, hP11.c5, true_and, hlen]
      refine ⟨stv p.high, fun w6 h6 => ?_, ?_⟩
      · simp only [RS0, RS1, RS2, RS3, RS4, RS5, h6.c4]; trivial
      simp only [RS0, RS1, RS2, RS3, RS4, RS5, str_size]
      refine ⟨stv p.high, fun w6 h6 => ?_, ?_⟩
      · simp only [RS0, RS1, RS2, RS3, RS4, RS5, h6.c4]; trivial
      refine (big_spec w11 (n := (p.items.length : Nat)) (by unfold In; omega) 1).mono ?_
      rintro _ w12 ⟨rfl, hf12⟩
      have hP12 := hP11.keep hf12 (fun e => e)
      refine ⟨hP12, ?_⟩
      refine (big_spec w12 (n := (p.high.length : Nat)) (by unfold In; omega) 1).mono ?_
      rintro _ w13 ⟨rfl, hf13⟩
      have hP13 := hP12.keep hf13 (fun e => e)
      refine ⟨hP13, ?_⟩
      have g5 : bigB (p.items.length : Nat) 1 = beN 1 p.items.length := bigB_of (n := p.items.length) (w := 1) (by omega) (by omega)
      have g6 : bigB (p.high.length : Nat) 1 = beN 1 p.high.length := bigB_of (n := p.high.length) (w := 1) (by omega) (by omega)
      rw [g5, g6, sadd (by simp only [List.length_append, beN_len]; omega)]
      try simp only [RS0, RS1, RS2, RS3, RS4, RS5]
      rw [sadd (by simp only [List.length_append, beN_len]; omega)]
      try simp only [RS0, RS1, RS2, RS3, RS4, RS5]
      have hB13 := hB11.keep (Fmf hf12 hf13)
      refine (bwrite_spec hB13 _ (by simp only [List.length_append, beN_len, List.length_nil]; omega)).mono ?_
      rintro _ w14 ⟨hB14, hf14⟩
      have hP14 := hP13.keep hf14 (by omega)
      have hF14 : Fm (fun _ => False) w w14 := Fm.own (Fmf hF11 (Fmf hf12 hf13)) hf14 (fun y hy => by omega)
      have hhead : [] ++ (beN 8 p.lsn.toNat ++ beN 1 p.kind.toNat ++ beN 1 p.level.toNat ++ beN 4 p.right.toNat) ++ (beN 1 p.items.length ++ beN 1 p.high.length ++ p.high) = pHead p := by
        simp only [pHead, List.nil_append, List.append_assoc]
      rw [hhead] at hB14
      simp only [RS0, RS1, RS2, RS3, RS4, RS5, hP14.c5, hlen]
      refine ⟨fun vs w15 => ∃ i : Nat, vs = [iv i] ∧ i ≤ p.items.length ∧ Bld w15 b (pHead p ++ (p.items.take i).flatMap itB) ∧ PB w15 x1 p v ∧ Fm (fun _ => False) w w15, fun vs _ => (p.items.length - nth vs 0).toNat, ⟨0, rfl, by omega, by simpa using hB14, hP14, hF14⟩, ?_⟩
      rintro _ w15 ivv ⟨i, hvs, hi, hB15, hP15, hF15⟩
      cases hvs
      have hpl : (pBody p).length = (pHead p).length + (p.items.flatMap itB).length := by rw [pBody, List.length_append]
      by_cases hlt : i < p.items.length
      · have e1 : decide ((i : Int) < (p.items.length : Int)) = true := by rw [decide_eq_true_eq]; omega
        have e2 : IntKind.i64.wrap ((i : Int) + 1) = ((i + 1 : Nat) : Int) := by rw [wrap_id] <;> omega
        have hx : p.items[i]? = some p.items[i] := List.getElem?_eq_getElem hlt
        have hxm : p.items[i] ∈ p.items := List.getElem_mem hlt
        generalize p.items[i] = x at hx hxm
        have hxs := item_short b10 x hxm
        have hfl := flat_le p.items (i + 1)
        rw [flat_take hx, List.length_append, itB_len] at hfl
        obtain ⟨ad, hix, _, hcx⟩ := (hc.keep hF15 (fun _ _ e => e)).at1 (i := i) (x := stv x) (by rw [List.getElem?_map, hx]; rfl) .i64
        simp only [RS0, RS1, RS2, RS3, RS4, RS5, e1, hix, hcx, str_size]
        refine (big_spec w15 (n := (x.length : Nat)) (by unfold In; omega) 2).mono ?_
        rintro _ w16 ⟨rfl, hf16⟩
        have g7 : bigB (x.length : Nat) 2 = beN 2 x.length := bigB_of (n := x.length) (w := 2) (by omega) (by omega)
        rw [g7, sadd (by simp only [List.length_append, beN_len]; omega)]
        try simp only [RS0, RS1, RS2, RS3, RS4, RS5]
        refine (bwrite_spec (hB15.keep hf16) _ (by simp only [List.length_append, beN_len]; omega)).mono ?_
        rintro _ w17 ⟨hB17, hf17⟩
        simp only [RS0, RS1, RS2, RS3, RS4, RS5, e2]
        refine ⟨⟨i + 1, rfl, by omega, ?_, (hP15.keep hf16 (fun e => e)).keep hf17 (by omega), Fm.own (Fmf hF15 hf16) hf17 (fun y hy => by omega)⟩, by simp only [nth_0]; omega⟩
        rw [flat_take hx, ← List.append_assoc]; exact hB17
      · obtain rfl : i = p.items.length := by omega
        have e1 : decide (((p.items.length : Nat) : Int) < (p.items.length : Int)) = false := by simp
        rw [List.take_length, show pHead p ++ p.items.flatMap itB = pBody p from rfl] at hB15
        simp only [RS0, RS1, RS2, RS3, RS4, RS5, e1]
        refine (blen_spec hB15).mono ?_
        rintro _ w15 ⟨rfl, rfl⟩
        have e3 : IntKind.i64.wrap (508 - ((pBody p).length : Int)) = ((508 - (pBody p).length : Nat) : Int) := by rw [wrap_id] <;> omega
        simp only [RS0, RS1, RS2, RS3, RS4, RS5, e3]
        refine (repeat_spec w15 (508 - (pBody p).length) (by omega)).mono ?_
        rintro _ w16 ⟨rfl, hf16⟩
        refine (bwrite_spec (hB15.keep hf16) _ (by rw [zeros_len]; omega)).mono ?_
        rintro _ w17 ⟨hB17, hf17⟩
        rw [show pBody p ++ zeros (508 - (pBody p).length) = pText p from rfl] at hB17
        have hF17 := Fm.own (Fmf hF15 hf16) hf17 (fun y hy => by omega)
        refine (bstring_spec hB17).mono ?_
        rintro _ w18 ⟨rfl, hB18, hf18⟩
        have htl := pText_len b10
        refine (sum_spec w18 (pText p) (by omega)).mono ?_
        rintro _ w18 ⟨rfl, rfl⟩
        obtain ⟨q1, q2⟩ := crc_in (pText p)
        simp only [RS0, RS1, RS2, RS3, RS4, RS5, cvI_int, q2]
        refine (big_spec w18 q1 4).mono ?_
        rintro _ w19 ⟨rfl, hf19⟩
        refine (bstring_spec (hB18.keep hf19)).mono ?_
        rintro _ w20 ⟨rfl, hB20, hf20⟩
        have g8 : bigB (crc (pText p) : Nat) 4 = beN 4 (crc (pText p)) := bigB_of (n := crc (pText p)) (w := 4) (by omega) (by omega)
        rw [g8, sadd (by rw [beN_len]; omega)]
        try simp only [RS0, RS1, RS2, RS3, RS4, RS5]
        refine ⟨(encR_ok hok).symm, Fm.own (Fmf (Fm.own hF17 hf18 (fun y hy => by omega)) hf19) hf20 (fun y hy => by omega)⟩
    · intro jj hjj
      have d1 : decide ((255 : Int) < (p.high.length : Int)) = decide (255 < p.high.length) := by rw [decide_eq_decide]; omega
      have hall := hw1.all
      simp only [RS0, RS1, RS2, RS3, RS4, RS5, hw1.c4, str_size, d1]
      cases hd : decide (255 < p.high.length) with
      | true =>
        simp only [RS0, RS1, RS2, RS3, RS4, RS5]
        refine hjj _ _ ⟨?_, hw1, Fm.refl _ _⟩
        have : longB p = true := by unfold longB; rw [decide_eq_true_eq] at hd ⊢; exact .inl hd
        rw [this]
      | false =>
        simp only [RS0, RS1, RS2, RS3, RS4, RS5, hall]
        refine (fits_spec (p := p) ⟨⟨v, rfl, hone, hc1⟩, h.small, h.ins⟩).mono ?_
        rintro _ w3 ⟨rfl, hf3⟩
        simp only [RS0, RS1, RS2, RS3, RS4, RS5]
        refine hjj _ _ ⟨?_, hw1.keep hf3 (fun e => e), hf3⟩
        congr 2
        unfold fitsB longB
        rw [decide_eq_false_iff_not] at hd
        by_cases h1 : p.items.length ≤ 255
        · by_cases h2 : pSize p ≤ 512
          · simp [h1, h2]; omega
          · simp [h1, h2]; omega
        · simp [h1]; omega
  · intro jj hjj
    have fin : ∀ b : Bool, rangeB p = b → jj [.bool b] w1 := fun b hb => hjj _ _ ⟨by rw [hb], rfl⟩
    have hmin : decide ((if p.right < (if p.level < p.lsn then p.level else p.lsn) then p.right else (if p.level < p.lsn then p.level else p.lsn)) < 0) = decide (p.lsn < 0 ∨ p.level < 0 ∨ p.right < 0) := by
      rw [decide_eq_decide]; split <;> split <;> omega
    simp only [RS0, RS1, RS2, RS3, RS4, RS5, hw1.c0, hw1.c2, hw1.c3, fold_min3, hmin]
    cases h1 : decide (p.lsn < 0 ∨ p.level < 0 ∨ p.right < 0) with
    | true => simp only [RS0, RS1, RS2, RS3, RS4, RS5]; exact fin _ (by unfold rangeB; simp only [decide_eq_true_eq] at *; omega)
    | false =>
    simp only [RS0, RS1, RS2, RS3, RS4, RS5, hw1.c1]
    cases h2 : decide (p.kind < 1) with
    | true => simp only [RS0, RS1, RS2, RS3, RS4, RS5]; exact fin _ (by unfold rangeB; simp only [decide_eq_true_eq] at *; omega)
    | false =>
    simp only [RS0, RS1, RS2, RS3, RS4, RS5, hw1.c1]
    cases h3 : decide (3 < p.kind) with
    | true => simp only [RS0, RS1, RS2, RS3, RS4, RS5]; exact fin _ (by unfold rangeB; simp only [decide_eq_true_eq] at *; omega)
    | false =>
    simp only [RS0, RS1, RS2, RS3, RS4, RS5, hw1.c2]
    cases h4 : decide (255 < p.level) with
    | true => simp only [RS0, RS1, RS2, RS3, RS4, RS5]; exact fin _ (by unfold rangeB; simp only [decide_eq_true_eq] at *; omega)
    | false =>
    simp only [RS0, RS1, RS2, RS3, RS4, RS5, hw1.c3]
    refine fin _ ?_
    unfold rangeB
    rw [decide_eq_decide]
    simp only [decide_eq_false_iff_not] at *
    omega

end Go.Proofs.YthbngnlmgplijaaGreatDoor

namespace Go.Proofs.YthbngnlmgplijaaGreatDoor
open Go.Al Go.Proofs
set_option linter.unusedVariables false
set_option linter.unusedSimpArgs false
set_option linter.unusedSectionVars false
set_option maxRecDepth 100000

/-! ### A page whose list is the call's own -/
structure PgOw (w : World) (base : Nat) (cs : Array Value) (p : Pg) : Prop where
  ex : ∃ v, cs = pcs p v ∧ w.ownsRow base 9 1 v p.items.length (p.items.map stv)
  small : ∀ x ∈ p.items, x.length ≤ 140737488355328
  ins : In p.lsn ∧ In p.kind ∧ In p.level ∧ In p.right ∧ p.high.length ≤ 140737488355328 ∧ p.items.length * 16 ≤ 140737488355328
theorem PgOw.as {w : World} {base : Nat} {cs : Array Value} {p : Pg} (h : PgOw w base cs p) : PgAs w cs p := by
  obtain ⟨v, h1, h2⟩ := h.ex
  exact ⟨⟨v, h1, own_one h2, CellsAt.of_own h2⟩, h.small, h.ins⟩
theorem PgOw.keep {w w' : World} {base : Nat} {cs : Array Value} {p : Pg} (h : PgOw w base cs p) (hf : Fm (fun _ => False) w w') : PgOw w' base cs p := by
  obtain ⟨v, h1, h2⟩ := h.ex
  exact ⟨⟨v, h1, own_keep h2 hf (fun _ _ _ _ e => e)⟩, h.small, h.ins⟩
theorem PgOw.zero (w : World) (base : Nat) : PgOw w base (pcs pg0 (.slice none 0 0)) pg0 := ⟨⟨_, rfl, World.ownsRow_nil _ _ _ _⟩, by simp [pg0], by simp [pg0, In]⟩

theorem bld24z (w : World) : (Instr.build 61 #[]).run Tryz.prog w = .ok (.agg (pcs pg0 (.slice none 0 0))) w := by kernel_rfl
theorem bld24a (a b c d : Int) (w : World) : (Instr.build 61 #[(0, iv a), (1, iv b), (2, iv c), (3, iv d)]).run Tryz.prog w = .ok (.agg (pcs ⟨a, b, c, d, [], []⟩ (.slice none 0 0))) w := by kernel_rfl
theorem agg24 : aggB Tryz.prog 61 = some true := by kernel_rfl
theorem size24 : sizeB Tryz.prog 61 = some 6 := by kernel_rfl
theorem retPg {w : World} {g i j : Nat} {cs : Array Value} {u : Value} (h : w.heap[g]? = some (.cells cs 61)) (hn : cs.size = 6) {f : Fr} (hf : f i = pv g) (hj : f j = u) (k : KV) (hk : k (.tuple #[.agg cs, u]) w) : RetO (resL Tryz.prog f w [.cell i 61, .tmp j]) w k := by
  have hj' : resV Tryz.prog f w (.tmp j) = some u := by simp only [resV, hj]
  simp only [resL, resV_blk hf agg24 size24 h hn, hj', RetO, RetV]; exact hk
theorem ixS_getD {d : Bs} {k : Nat} (h : k < d.length) : ixS (stv d) (.int .i64 k) = some (.int .u8 ((d.getD k 0).toNat : Nat)) := by
  have : d[k]? = some (d.getD k 0) := by rw [List.getD_eq_getElem?_getD, List.getElem?_eq_getElem h]; rfl
  exact ixS_str this .i64
theorem u8_i64 (b : UInt8) : IntKind.i64.wrap (b.toNat : Nat) = ((b.toNat : Nat) : Int) := by have := b.toNat_lt; exact wrap_nat (by omega)

/-! ### cut -/
def SB (w : World) (g : Nat) (s : Bs) : Prop := w.heap[g]? = some (.cells #[stv s] 9)
theorem SB.keep {S : Nat → Prop} {w w' : World} {g : Nat} {s : Bs} (h : SB w g s) (hf : Fm S w w') (hs : ¬ S g) : SB w' g s := hf.heap h hs
theorem SB.c {w : World} {g : Nat} {s : Bs} (h : SB w g s) : w.cell? ⟨g, 0, none⟩ = some (stv s) := by rw [cell_at h]; rfl
theorem cut_spec {w : World} {g : Nat} {s : Bs} (h : SB w g s) (n : Nat) : Cl Tryz.prog 116 [pv g, iv n] w fun r w' => r = .tuple #[stv (bif decide (n ≤ s.length) then s.take n else []), .bool (decide (n ≤ s.length))] ∧ SB w' g (bif decide (n ≤ s.length) then s.drop n else s) ∧ Fm (· = g) w w' := by
  refine c116 ?_; unfold T116
  have d1 : decide ((s.length : Int) < (n : Int)) = !decide (n ≤ s.length) := by
    by_cases hn : n ≤ s.length
    · simp [hn]
    · simp [hn]; omega
  simp only [RS0, RS1, RS2, RS3, RS4, RS5, h.c, str_size, d1]
  cases hd : decide (n ≤ s.length) with
  | false =>
    simp only [RS0, RS1, RS2, RS3, RS4, RS5]
    exact ⟨(by trivial), h, Fm.refl _ _⟩
  | true =>
    rw [decide_eq_true_eq] at hd
    simp only [RS0, RS1, RS2, RS3, RS4, RS5, h.c, slS_hi hd .i64, slS_lo hd .i64]
    refine St_blk h (by show 0 < 1; decide) rfl ?_
    intro w2 hw2 hs2 hf2
    exact ⟨rfl, hw2, hf2⟩

/-! ### What bytes give -/
theorem pDec_len {d : Bs} (h : d.length ≠ 512) : pDec d = (pg0, 31) := by
  unfold pDec
  rw [show decide (d.length ≠ 512) = true by simpa using h]; rfl
theorem pDec_sum {d : Bs} (h : d.length = 512) (h2 : beN 4 (crc (d.drop 4)) ≠ d.take 4) : pDec d = (pg0, 30) := by
  unfold pDec
  rw [show decide (d.length ≠ 512) = false by simpa using h, show decide (beN 4 (crc (d.drop 4)) ≠ d.take 4) = true by rw [decide_eq_true_eq]; exact h2]; rfl
theorem pDec_none {d : Bs} (h : d.length = 512) (h2 : beN 4 (crc (d.drop 4)) = d.take 4) (h3 : pItems (dMany d) (dRest d) = none) : pDec d = (pg0, 31) := by
  unfold pDec
  rw [show decide (d.length ≠ 512) = false by simpa using h, show decide (beN 4 (crc (d.drop 4)) ≠ d.take 4) = false by rw [decide_eq_false_iff_not]; exact fun e => e h2, h3]; rfl
def badD (d t : Bs) : Bool := decide (t ≠ zeros t.length) || decide (127 < (d.getD 4 0).toNat) || decide (dKind d < 1) || decide (3 < dKind d)
def headP (d : Bs) (l : List Bs) : Pg := ⟨(dLsn d % 2 ^ 63 : Nat), dKind d, dLevel d, dRight d, dHigh d, l⟩
theorem pDec_some {d : Bs} (h : d.length = 512) (h2 : beN 4 (crc (d.drop 4)) = d.take 4) {l : List Bs} {t : Bs} (h3 : pItems (dMany d) (dRest d) = some (l, t)) : pDec d = bif badD d t then (pg0, 31) else (headP d l, 0) := by
  unfold pDec
  rw [show decide (d.length ≠ 512) = false by simpa using h, show decide (beN 4 (crc (d.drop 4)) ≠ d.take 4) = false by rw [decide_eq_false_iff_not]; exact fun e => e h2, h3]
  have : badD d t = decide (t ≠ zeros t.length ∨ 127 < (d.getD 4 0).toNat ∨ dKind d < 1 ∨ 3 < dKind d) := by
    unfold badD
    simp only [Bool.decide_or, Bool.or_assoc]
  rw [this]; rfl
theorem headP_in {d : Bs} (h : d.length = 512) {l : List Bs} (hl : l.length ≤ 255) : In (headP d l).lsn ∧ In (headP d l).kind ∧ In (headP d l).level ∧ In (headP d l).right ∧ (headP d l).high.length ≤ 140737488355328 ∧ (headP d l).items.length * 16 ≤ 140737488355328 := by
  have h1 : dKind d < 256 := UInt8.toNat_lt _
  have h2 : dLevel d < 256 := UInt8.toNat_lt _
  have h3 : dRight d < 256 ^ 4 := ofB_lt 4 _ (by rw [List.length_take, List.length_drop]; omega)
  have h4 : (dHigh d).length ≤ 512 := by unfold dHigh; rw [List.length_take, List.length_drop]; omega
  unfold headP In
  simp only
  omega

theorem pItems_succ (n : Nat) (s : Bs) : pItems (n + 1) s = bif decide (2 ≤ s.length) && decide (ofB (s.take 2) ≤ (s.drop 2).length) then (pItems n ((s.drop 2).drop (ofB (s.take 2)))).map (fun x => ((s.drop 2).take (ofB (s.take 2)) :: x.1, x.2)) else none := by
  rw [pItems]
  by_cases h1 : s.length < 2
  · simp [h1, show ¬ 2 ≤ s.length by omega]
  · by_cases h2 : (s.drop 2).length < ofB (s.take 2)
    · have e2 : decide (ofB (s.take 2) ≤ (s.drop 2).length) = false := by rw [decide_eq_false_iff_not]; omega
      have e3 : decide (s.length < 2) = false := by rw [decide_eq_false_iff_not]; exact h1
      have e4 : decide ((s.drop 2).length < ofB (s.take 2)) = true := by rw [decide_eq_true_eq]; exact h2
      rw [e2, e3, e4, Bool.and_false]; rfl
    · have e1 : decide (2 ≤ s.length) = true := by rw [decide_eq_true_eq]; omega
      have e2 : decide (ofB (s.take 2) ≤ (s.drop 2).length) = true := by rw [decide_eq_true_eq]; omega
      have e3 : decide (s.length < 2) = false := by rw [decide_eq_false_iff_not]; exact h1
      have e4 : decide ((s.drop 2).length < ofB (s.take 2)) = false := by rw [decide_eq_false_iff_not]; exact h2
      rw [e1, e2, e3, e4]; rfl
def Mid (d : Bs) (i : Nat) (l : List Bs) (s : Bs) : Prop := l.length = i ∧ (∀ x ∈ l, x.length ≤ 512) ∧ s.length ≤ 492 ∧ pItems (dMany d) (dRest d) = (pItems (dMany d - i) s).map (fun x => (l ++ x.1, x.2))
theorem Mid.zero {d : Bs} (h : d.length = 512) : Mid d 0 [] (dRest d) := by
  refine ⟨rfl, by simp, ?_, ?_⟩
  · unfold dRest; simp only [List.length_drop]; omega
  · rw [Nat.sub_zero]
    cases pItems (dMany d) (dRest d) <;> simp
theorem Mid.next {d : Bs} {i : Nat} {l : List Bs} {s : Bs} (h : Mid d i l s) (hi : i < dMany d) (h1 : 2 ≤ s.length) (h2 : ofB (s.take 2) ≤ (s.drop 2).length) : Mid d (i + 1) (l ++ [(s.drop 2).take (ofB (s.take 2))]) ((s.drop 2).drop (ofB (s.take 2))) := by
  obtain ⟨a, b, c, e⟩ := h
  refine ⟨by simp [a], ?_, ?_, ?_⟩
  · intro x hx
    rcases List.mem_append.1 hx with hx | hx
    · exact b x hx
    · obtain rfl : x = _ := by simpa using hx
      simp only [List.length_take, List.length_drop]; omega
  · simp only [List.length_drop]; omega
  · rw [e, show dMany d - i = (dMany d - (i + 1)) + 1 by omega, pItems_succ, show decide (2 ≤ s.length) = true by simpa using h1, show decide (ofB (s.take 2) ≤ (s.drop 2).length) = true by simpa using h2]
    simp only [Bool.and_true, cond_true, Option.map_map]
    congr 1
    funext x
    simp
theorem Mid.stop {d : Bs} {i : Nat} {l : List Bs} {s : Bs} (h : Mid d i l s) (hi : i < dMany d) (h1 : ¬ (2 ≤ s.length ∧ ofB (s.take 2) ≤ (s.drop 2).length)) : pItems (dMany d) (dRest d) = none := by
  rw [h.2.2.2, show dMany d - i = (dMany d - (i + 1)) + 1 by omega, pItems_succ]
  have : (decide (2 ≤ s.length) && decide (ofB (s.take 2) ≤ (s.drop 2).length)) = false := by
    rw [← Bool.not_eq_true, Bool.and_eq_true, decide_eq_true_eq, decide_eq_true_eq]; exact h1
  rw [this]; rfl
theorem Mid.last {d : Bs} {l : List Bs} {s : Bs} (h : Mid d (dMany d) l s) : pItems (dMany d) (dRest d) = some (l, s) := by
  rw [h.2.2.2, Nat.sub_self, pItems]; simp
theorem bs22 (x : Bs) (w : World) : (Instr.buildSlice 59 1 #[(0, stv x)]).run Tryz.prog w = .ok (.slice (some ⟨w.heap.size, 0, none⟩) 1 1) (w.alloc (.cells #[stv x] 9)) := by kernel_rfl

set_option maxHeartbeats 8000000 in
theorem decode_spec (w : World) (d : Bs) (hd : d.length ≤ 9223372036854775806) : Cl Tryz.prog 41 [stv d] w fun r w' => ∃ cs, r = .tuple #[.agg cs, iv (pDec d).2] ∧ PgOw w' w.heap.size cs (pDec d).1 ∧ Fm (fun _ => False) w w' := by
  refine c41 ?_; unfold T41
  refine New_any ?_
  intro x2 w1 hx2 hs1 hw1 hf1
  have ret : ∀ (w' : World) (cs0 : Array Value) (e : Int) (f : Fr), w'.heap[x2]? = some (.cells cs0 61) → cs0.size = 6 → Fm (fun _ => False) w w' → f 2 = pv x2 → f 3 = iv e → pDec d = (pg0, e) → 
      ((∀ w'' : World, w''.heap[x2]? = some (.cells (pcs pg0 (.slice none 0 0)) 61) → Fm (fun _ => False) w w'' → RetO (resL Tryz.prog f w'' [.cell 2 61, .tmp 3]) w'' (fun r w' => ∃ cs, r = .tuple #[.agg cs, iv (pDec d).2] ∧ PgOw w' w.heap.size cs (pDec d).1 ∧ Fm (fun _ => False) w w'))) := by
    intro w' cs0 e f h1 h2 h3 h4 h5 h6 w'' h7 h8
    refine retPg (u := iv e) h7 rfl h4 h5 _ ?_
    rw [h6]
    exact ⟨_, rfl, PgOw.zero _ _, h8⟩
  have d0 : decide ((d.length : Int) = 512) = decide (d.length = 512) := by rw [decide_eq_decide]; omega
  simp only [RS0, RS1, RS2, RS3, RS4, RS5, str_size, bne_dec, d0]
  cases h0 : decide (d.length = 512) with
  | false =>
    have hne : d.length ≠ 512 := by simpa using h0
    simp only [RS0, RS1, RS2, RS3, RS4, RS5]
    refine RunS_ok (bld24z _) ?_
    refine St_all hw1 rfl rfl (by intro u hu; simp [pcs] at hu; rcases hu with rfl | rfl | rfl | rfl | rfl | rfl <;> rfl) ?_
    intro w2 hw2 hs2 hf2
    exact ret w1 _ 31 _ hw1 rfl hf1 rfl rfl (pDec_len hne) w2 hw2 (Fm.own hf1 hf2 (by rintro y rfl; omega))
  | true =>
  have h512 : d.length = 512 := by simpa using h0
  have s1 : slS (stv d) (some (Value.int .i64 4)) none = some (stv (d.drop 4)) := slS_lo (i := 4) (by omega) .i64
  have s2 : slS (stv d) none (some (Value.int .i64 4)) = some (stv (d.take 4)) := slS_hi (i := 4) (by omega) .i64
  have hf2 := Fm.drew (fun _ => False) w1
  have hx2' : w1.drew.heap[x2]? = some (.cells #[iv 0, iv 0, iv 0, iv 0, stv [], .slice none 0 0] 61) := hw1
  have hF2 := Fmf hf1 hf2
  simp only [RS0, RS1, RS2, RS3, RS4, RS5, s1, s2]
  generalize w1.drew = w2 at hf2 hx2' hF2
  refine (sum_spec w2 (d.drop 4) (by rw [List.length_drop]; omega)).mono ?_
  rintro _ w2 ⟨rfl, rfl⟩
  obtain ⟨q1, q2⟩ := crc_in (d.drop 4)
  simp only [RS0, RS1, RS2, RS3, RS4, RS5, cvI_int, q2]
  refine (big_spec w2 q1 4).mono ?_
  rintro _ w3 ⟨rfl, hf3⟩
  have g8 : bigB (crc (d.drop 4) : Nat) 4 = beN 4 (crc (d.drop 4)) := bigB_of (n := crc (d.drop 4)) (w := 4) (by omega) (by omega)
  have hx3 := hf3.heap hx2' (fun e => e)
  have hF3 := Fmf hF2 hf3
  rw [g8]
  simp only [RS0, RS1, RS2, RS3, RS4, RS5, str_inj]
  cases hsum : decide (beN 4 (crc (d.drop 4)) = d.take 4) with
  | false =>
    have hne : beN 4 (crc (d.drop 4)) ≠ d.take 4 := by simpa using hsum
    simp only [RS0, RS1, RS2, RS3, RS4, RS5]
    refine RunS_ok (bld24z _) ?_
    refine St_all hx3 rfl rfl (by intro u hu; simp [pcs] at hu; rcases hu with rfl | rfl | rfl | rfl | rfl | rfl <;> rfl) ?_
    intro w4 hw4 hs4 hf4
    exact ret w3 _ 30 _ hx3 rfl hF3 rfl rfl (pDec_sum h512 hne) w4 hw4 (Fm.own hF3 hf4 (by rintro y rfl; omega))
  | true =>
  have hse : beN 4 (crc (d.drop 4)) = d.take 4 := by simpa using hsum
  simp only [RS0, RS1, RS2, RS3, RS4, RS5]
  have hx2s : x2 = w.heap.size := hx2
  refine Jn_at (fun vs w4 => ∃ g4, vs = [pv g4] ∧ PB w4 g4 ⟨(dLsn d % 2 ^ 63 : Nat), dKind d, dLevel d, dRight d, [], []⟩ (.slice none 0 0) ∧ g4 ≠ x2 ∧ w.heap.size ≤ g4 ∧ w4.heap[x2]? = some (.cells #[iv 0, iv 0, iv 0, iv 0, stv [], .slice none 0 0] 61) ∧ Fm (fun _ => False) w w4) ?_ ?_
  · rintro _ w4 ⟨g4, rfl, hP4, hne4, hge4, hx4, hF4⟩ _
    refine ⟨_, rfl, ?_⟩
    have s3 : slS (stv d) (some (Value.int .i64 20)) none = some (stv (d.drop 20)) := slS_lo (i := 20) (by omega) .i64
    have i19 : ixS (stv d) (Value.int .i64 19) = some (.int .u8 ((dHl d : Nat))) := ixS_getD (k := 19) (by omega)
    have i18 : ixS (stv d) (Value.int .i64 18) = some (.int .u8 ((dMany d : Nat))) := ixS_getD (k := 18) (by omega)
    have c19 : IntKind.i64.wrap (dHl d : Nat) = ((dHl d : Nat) : Int) := u8_i64 _
    have c18 : IntKind.i64.wrap (dMany d : Nat) = ((dMany d : Nat) : Int) := u8_i64 _
    have hhl : dHl d < 256 := UInt8.toNat_lt _
    have hmy : dMany d < 256 := UInt8.toNat_lt _
    have hg4l := hP4.lt
    simp only [RS0, RS1, RS2, RS3, RS4, RS5, s3]
    refine New_any ?_
    intro x5 w5 hx5 hs5 hw5 hf5
    refine St_blk hw5 (by show 0 < 1; decide) rfl ?_
    intro w6 hw6 hs6 hf6
    replace hw6 : SB w6 x5 (d.drop 20) := hw6
    have hf46 : Fm (fun _ => False) w4 w6 := Fm.own hf5 hf6 (by rintro y rfl; omega)
    have hP6 := hP4.keep hf46 (fun e => e)
    have hx6 := hf46.heap hx4 (fun e => e)
    have hF6 := Fmf hF4 hf46
    have hz4 := hF4.size
    have hx2l := lt_of_heap hx4
    simp only [RS0, RS1, RS2, RS3, RS4, RS5, i19, cvI_int, c19]
    refine (cut_spec hw6 (dHl d)).mono ?_
    rintro _ w7 ⟨rfl, hS7, hf7⟩
    have hle : decide (dHl d ≤ (d.drop 20).length) = true := by rw [decide_eq_true_eq, List.length_drop]; omega
    rw [hle, cond_true] at hS7
    rw [hle, cond_true]
    have hP7 := hP6.keep hf7 (by omega)
    have hx7 := hf7.heap hx6 (by omega)
    have hF7 : Fm (fun _ => False) w w7 := Fm.own hF6 hf7 (by rintro y rfl; omega)
    simp only [RS0, RS1, RS2, RS3, RS4, RS5]
    refine St_blk hP7 (by show 4 < 6; decide) rfl ?_
    intro w8 hw8 hs8 hf8
    replace hw8 : PB w8 g4 (headP d []) (.slice none 0 0) := hw8
    have hS8 : SB w8 x5 (dRest d) := hS7.keep hf8 (by omega)
    have hx8 := hf8.heap hx7 (fun e => hne4 e.symm)
    have hF8 : Fm (fun _ => False) w w8 := Fm.own hF7 hf8 (by rintro y rfl; omega)
    have hl6 := hw6.keep hf7
    have hz6 : x5 < w8.heap.size := lt_of_heap hS8
    simp only [RS0, RS1, RS2, RS3, RS4, RS5, i18, cvI_int, c18]
    refine ⟨fun vs w9 => ∃ (i : Nat) (l : List Bs) (s : Bs) (v : Value), vs = [iv i] ∧ i ≤ dMany d ∧ Mid d i l s ∧ PB w9 g4 (headP d l) v ∧ w9.ownsRow (x5 + 1) 9 1 v l.length (l.map stv) ∧ SB w9 x5 s ∧ w9.heap[x2]? = some (.cells #[iv 0, iv 0, iv 0, iv 0, stv [], .slice none 0 0] 61) ∧ Fm (fun _ => False) w w9, fun vs _ => (dMany d - nth vs 0).toNat,
      ⟨0, [], dRest d, _, rfl, by omega, Mid.zero h512, hw8, World.ownsRow_nil _ _ _ _, hS8, hx8, hF8⟩, ?_⟩
    rintro _ w9 ivv ⟨i, l, s, v, hvs, hi, hM, hP9, hO9, hS9, hx9, hF9⟩
    cases hvs
    have hll := hM.1
    have hz9 : x5 < w9.heap.size := lt_of_heap hS9
    have hg9 := hP9.lt
    have hx29 := lt_of_heap hx9
    by_cases hlt : i < dMany d
    · have e1 : decide ((i : Int) < (dMany d : Int)) = true := by rw [decide_eq_true_eq]; omega
      have e2 : IntKind.i64.wrap ((i : Int) + 1) = ((i + 1 : Nat) : Int) := by rw [wrap_id] <;> omega
      simp only [RS0, RS1, RS2, RS3, RS4, RS5, e1]
      refine (cut_spec hS9 2).mono ?_
      rintro _ w10 ⟨rfl, hS10, hf10⟩
      have hP10 := hP9.keep hf10 (by omega)
      have hx10 := hf10.heap hx9 (by omega)
      have hF10 : Fm (fun _ => False) w w10 := Fm.own hF9 hf10 (by rintro y rfl; omega)
      have hO10 := own_keep hO9 hf10 (fun k h1 h2 h3 e => by omega)
      by_cases h2 : 2 ≤ s.length
      · have e3 : decide (2 ≤ s.length) = true := by simpa using h2
        rw [e3, cond_true] at hS10
        rw [e3, cond_true]
        have htl : (s.take 2).length = 2 := by rw [List.length_take]; omega
        simp only [RS0, RS1, RS2, RS3, RS4, RS5]
        refine (of_spec w10 (s.take 2) (by omega)).mono ?_
        rintro _ w10 ⟨rfl, rfl⟩
        rw [ofN_short (by omega)]
        refine (cut_spec hS10 (ofB (s.take 2))).mono ?_
        rintro _ w11 ⟨rfl, hS11, hf11⟩
        have hP11 := hP10.keep hf11 (by omega)
        have hx11 := hf11.heap hx10 (by omega)
        have hF11 : Fm (fun _ => False) w w11 := Fm.own hF10 hf11 (by rintro y rfl; omega)
        have hO11 := own_keep hO10 hf11 (fun k h1 h2 h3 e => by omega)
        by_cases h3 : ofB (s.take 2) ≤ (s.drop 2).length
        · have e4 : decide (ofB (s.take 2) ≤ (s.drop 2).length) = true := by simpa using h3
          rw [e4, cond_true] at hS11
          rw [e4, cond_true]
          have hM2 := hM.next hlt h2 h3
          generalize (s.drop 2).take (ofB (s.take 2)) = it at hM2
          generalize (s.drop 2).drop (ofB (s.take 2)) = s' at hM2 hS11
          simp only [RS0, RS1, RS2, RS3, RS4, RS5, hP11.c5]
          have hz11 : x5 < w11.heap.size := lt_of_heap hS11
          refine append_el E22 (by omega) 59 (cs := [stv it]) rfl (bs22 _ _) (by intro u hu; simp at hu; subst hu; rfl) hO11 (by unfold maxLen; omega) (by omega) hz11 ?_
          intro v12 w12 hO12 _ hf12
          have hP12 := hP11.keep hf12 (by omega)
          have hx12 := hf12.heap hx11 (by omega)
          have hS12 := hS11.keep hf12 (by omega)
          have hF12 : Fm (fun _ => False) w w12 := Fm.own hF11 hf12 (fun y hy => by omega)
          try simp only [RS0, RS1, RS2, RS3, RS4, RS5]
          refine St_blk hP12 (by show 5 < 6; decide) (own_one hO12) ?_
          intro w13 hw13 hs13 hf13
          replace hw13 : PB w13 g4 (headP d (l ++ [it])) v12 := hw13
          simp only [RS0, RS1, RS2, RS3, RS4, RS5, e2]
          refine ⟨⟨i + 1, l ++ [it], s', v12, rfl, by omega, hM2, hw13, ?_, hS12.keep hf13 (by omega), hf13.heap hx12 (fun e => hne4 e.symm), Fm.own hF12 hf13 (by rintro y rfl; omega)⟩, by simp only [nth_0]; omega⟩
          have : w13.ownsRow (x5 + 1) 9 1 v12 (l.length + 1) (l.map stv ++ [stv it]) := own_keep hO12 hf13 (fun k h1 h2 h3 e => by omega)
          simpa using this
        · have e4 : decide (ofB (s.take 2) ≤ (s.drop 2).length) = false := by simpa using h3
          rw [e4]
          simp only [RS0, RS1, RS2, RS3, RS4, RS5]
          refine RunS_ok (bld24z _) ?_
          refine St_all hx11 rfl rfl (by intro u hu; simp [pcs] at hu; rcases hu with rfl | rfl | rfl | rfl | rfl | rfl <;> rfl) ?_
          intro w12 hw12 hs12 hf12
          exact ret w11 _ 31 _ hx11 rfl hF11 rfl rfl (pDec_none h512 hse (hM.stop hlt (fun e => h3 e.2))) w12 hw12 (Fm.own hF11 hf12 (by rintro y rfl; omega))
      · have e3 : decide (2 ≤ s.length) = false := by simpa using h2
        rw [e3, cond_false] at hS10
        rw [e3, cond_false]
        simp only [RS0, RS1, RS2, RS3, RS4, RS5]
        refine (of_spec w10 [] (by simp)).mono ?_
        rintro _ w10 ⟨rfl, rfl⟩
        have eo : ofN [] = 0 := rfl
        rw [eo]
        refine (cut_spec hS10 0).mono ?_
        rintro _ w11 ⟨rfl, hS11, hf11⟩
        have hx11 := hf11.heap hx10 (by omega)
        have hF11 : Fm (fun _ => False) w w11 := Fm.own hF10 hf11 (by rintro y rfl; omega)
        simp only [RS0, RS1, RS2, RS3, RS4, RS5]
        refine RunS_ok (bld24z _) ?_
        refine St_all hx11 rfl rfl (by intro u hu; simp [pcs] at hu; rcases hu with rfl | rfl | rfl | rfl | rfl | rfl <;> rfl) ?_
        intro w12 hw12 hs12 hf12
        exact ret w11 _ 31 _ hx11 rfl hF11 rfl rfl (pDec_none h512 hse (hM.stop hlt (fun e => h2 e.1))) w12 hw12 (Fm.own hF11 hf12 (by rintro y rfl; omega))
    · have hie : i = dMany d := by omega
      rw [hie] at hM
      have e1 : decide ((i : Int) < (dMany d : Int)) = false := by rw [decide_eq_false_iff_not]; omega
      have hds := pDec_some h512 hse hM.last
      simp only [RS0, RS1, RS2, RS3, RS4, RS5, e1, hS9.c]
      refine (trim_spec w9 s (by have := hM.2.2.1; omega)).mono ?_
      rintro _ w10 ⟨⟨t, rfl, ht⟩, hf10⟩
      have hP10 := hP9.keep hf10 (fun e => e)
      have hx10 := hf10.heap hx9 (fun e => e)
      have hF10 := Fmf hF9 hf10
      have hO10 := own_keep hO9 hf10 (fun _ _ _ _ e => e)
      have bad : badD d s = true → RunS Tryz.prog (Instr.build 61 #[]) w10 (fun t93_149 w_150 =>
          St 6 w_150 (pv x2) t93_149 fun u_151 w_152 =>
          RetO (resL Tryz.prog (fun j => bif Nat.beq j 2 then pv x2 else bif Nat.beq j 3 then (Value.int IntKind.i64 31) else undef) w_152 [(ResultVar.cell 2 61), (ResultVar.tmp 3)]) w_152 (fun r w' => ∃ cs, r = .tuple #[.agg cs, iv (pDec d).2] ∧ PgOw w' w.heap.size cs (pDec d).1 ∧ Fm (fun _ => False) w w')) := by
        intro hb
        rw [hb, cond_true] at hds
        refine RunS_ok (bld24z _) ?_
        refine St_all hx10 rfl rfl (by intro u hu; simp [pcs] at hu; rcases hu with rfl | rfl | rfl | rfl | rfl | rfl <;> rfl) ?_
        intro w12 hw12 hs12 hf12
        exact ret w10 _ 31 _ hx10 rfl hF10 rfl rfl hds w12 hw12 (Fm.own hF10 hf12 (by rintro y rfl; omega))
      have i4 : ixS (stv d) (Value.int .i64 4) = some (.int .u8 (((d.getD 4 0).toNat : Nat))) := ixS_getD (k := 4) (by omega)
      have dk1 : decide (((headP d l).kind) < 1) = decide (dKind d < 1) := by rw [decide_eq_decide]; unfold headP; simp only; omega
      have dk3 : decide (3 < (headP d l).kind) = decide (3 < dKind d) := by rw [decide_eq_decide]; unfold headP; simp only; omega
      have d4 : decide ((127 : Int) < (((d.getD 4 0).toNat : Nat) : Int)) = decide (127 < (d.getD 4 0).toNat) := by rw [decide_eq_decide]; omega
      have ht0 : decide (t = []) = decide (s = zeros s.length) := by rw [decide_eq_decide]; exact ht
      simp only [RS0, RS1, RS2, RS3, RS4, RS5, str_nil, str_inj, ht0]
      unfold badD at bad hds
      cases b1 : decide (s = zeros s.length) with
      | false =>
        simp only [RS0, RS1, RS2, RS3, RS4, RS5]
        refine bad ?_
        have : s ≠ zeros s.length := by simpa using b1
        simp [this]
      | true =>
      have b1' : decide (s ≠ zeros s.length) = false := by simpa using b1
      rw [b1', Bool.false_or] at bad hds
      simp only [RS0, RS1, RS2, RS3, RS4, RS5, i4, d4]
      cases b2 : decide (127 < (d.getD 4 0).toNat) with
      | true => simp only [RS0, RS1, RS2, RS3, RS4, RS5]; exact bad (by rw [b2]; simp)
      | false =>
      rw [b2, Bool.false_or] at bad hds
      simp only [RS0, RS1, RS2, RS3, RS4, RS5, hP10.c1, dk1]
      cases b3 : decide (dKind d < 1) with
      | true => simp only [RS0, RS1, RS2, RS3, RS4, RS5]; exact bad (by rw [b3]; simp)
      | false =>
      rw [b3, Bool.false_or] at bad hds
      simp only [RS0, RS1, RS2, RS3, RS4, RS5, hP10.c1, dk3]
      cases b4 : decide (3 < dKind d) with
      | true => simp only [RS0, RS1, RS2, RS3, RS4, RS5]; exact bad b4
      | false =>
      rw [b4, cond_false] at hds
      simp only [RS0, RS1, RS2, RS3, RS4, RS5, hP10.all]
      refine St_all hx10 rfl rfl (by intro u hu; simp [pcs] at hu; rcases hu with rfl | rfl | rfl | rfl | rfl | rfl <;> first | rfl | exact own_one hO10) ?_
      intro w12 hw12 hs12 hf12
      refine retPg (g := x2) (i := 2) (j := 3) (u := iv 0) hw12 rfl rfl rfl _ ?_
      rw [hds]
      refine ⟨_, rfl, ⟨⟨v, rfl, own_base (own_keep hO10 hf12 (fun k h1 h2 h3 e => by omega)) (by omega)⟩, fun x hx => by have := hM.2.1 x hx; omega, headP_in h512 (by omega)⟩, Fm.own hF10 hf12 (by rintro y rfl; omega)⟩
  · intro jj hjj
    have s4 : slS (stv d) (some (Value.int .i64 4)) (some (Value.int .i64 12)) = some (stv ((d.drop 4).take 8)) := slS_lh (i := 4) (j := 12) (by omega) (by omega) .i64 .i64
    have s5 : slS (stv d) (some (Value.int .i64 14)) (some (Value.int .i64 18)) = some (stv ((d.drop 14).take 4)) := slS_lh (i := 14) (j := 18) (by omega) (by omega) .i64 .i64
    have i12 : ixS (stv d) (Value.int .i64 12) = some (.int .u8 ((dKind d : Nat))) := ixS_getD (k := 12) (by omega)
    have i13 : ixS (stv d) (Value.int .i64 13) = some (.int .u8 ((dLevel d : Nat))) := ixS_getD (k := 13) (by omega)
    have c12 : IntKind.i64.wrap (dKind d : Nat) = ((dKind d : Nat) : Int) := u8_i64 _
    have c13 : IntKind.i64.wrap (dLevel d : Nat) = ((dLevel d : Nat) : Int) := u8_i64 _
    have o1 : ofN ((d.drop 4).take 8) = dLsn d % 2 ^ 63 := rfl
    have o2 : ofN ((d.drop 14).take 4) = dRight d := ofN_short (by rw [List.length_take]; omega)
    have l1 : ((d.drop 4).take 8).length ≤ 9223372036854775806 := by rw [List.length_take]; omega
    have l2 : ((d.drop 14).take 4).length ≤ 9223372036854775806 := by rw [List.length_take]; omega
    have hf4 := Fm.drew (fun _ => False) w3
    have hx4 : w3.drew.heap[x2]? = some (.cells #[iv 0, iv 0, iv 0, iv 0, stv [], .slice none 0 0] 61) := hx3
    have hF4 := Fmf hF3 hf4
    have hz4 := hF4.size
    have hx2l := lt_of_heap hx4
    refine ⟨fun _ => True, trivial, ?_⟩
    simp only [RS0, RS1, RS2, RS3, RS4, RS5, s4, s5, i12, i13, cvI_int, c12, c13, true_and, and_true]
    generalize w3.drew = w4 at hf4 hx4 hF4 hz4 hx2l
    have fin : ∀ (g : Nat) (w5 w6 : World), w4.heap.size ≤ g → Fm (fun _ => False) w4 w5 → w5.heap[g]? = some (.cells #[iv 0, iv 0, iv 0, iv 0, stv [], .slice none 0 0] 61) → w6.heap[g]? = some (.cells (pcs ⟨(dLsn d % 2 ^ 63 : Nat), dKind d, dLevel d, dRight d, [], []⟩ (.slice none 0 0)) 61) → Fm (· = g) w5 w6 → jj [pv g] w6 := by
      intro g w5 w6 h1 h2 h3 h4 h5
      exact hjj _ _ ⟨g, rfl, h4, by omega, by omega, h5.heap (h2.heap hx4 (fun e => e)) (by omega), Fm.own (Fmf hF4 h2) h5 (by rintro y rfl; omega)⟩
    have lay : ∀ u ∈ (pcs ⟨(dLsn d % 2 ^ 63 : Nat), dKind d, dLevel d, dRight d, [], []⟩ (.slice none 0 0)).toList, u.oneCell' = true := by
      intro u hu; simp [pcs] at hu; rcases hu with rfl | rfl | rfl | rfl | rfl | rfl <;> rfl
    refine ⟨?_, ?_⟩
    · refine (of_spec w4 _ l1).mono ?_
      rintro _ w4 ⟨rfl, rfl⟩
      rw [o1]
      refine ⟨?_, ?_⟩
      · refine (of_spec w4 _ l2).mono ?_
        rintro _ w4 ⟨rfl, rfl⟩
        rw [o2]
        refine ⟨_, fun w5 _ => RunS_ok (bld24a _ _ _ _ _) ⟨rfl, rfl⟩, ?_⟩
        refine New_any ?_
        intro g w5 hg hs5 hw5 hf5
        refine St_all hw5 rfl rfl lay ?_
        intro w6 hw6 hs6 hf6
        exact fin g w5 w6 (by omega) hf5 hw5 hw6 hf6
      · refine New_any ?_
        intro g w5 hg hs5 hw5 hf5
        refine (of_spec w5 _ l2).mono ?_
        rintro _ w5 ⟨rfl, rfl⟩
        rw [o2]
        refine RunS_ok (bld24a _ _ _ _ _) ⟨rfl, ?_⟩
        refine St_all hw5 rfl rfl lay ?_
        intro w6 hw6 hs6 hf6
        exact fin g w5 w6 (by omega) hf5 hw5 hw6 hf6
    · refine New_any ?_
      intro g w5 hg hs5 hw5 hf5
      refine (of_spec w5 _ l1).mono ?_
      rintro _ w5 ⟨rfl, rfl⟩
      rw [o1]
      refine (of_spec w5 _ l2).mono ?_
      rintro _ w5 ⟨rfl, rfl⟩
      rw [o2]
      refine RunS_ok (bld24a _ _ _ _ _) ⟨rfl, ?_⟩
      refine St_all hw5 rfl rfl lay ?_
      intro w6 hw6 hs6 hf6
      exact fin g w5 w6 (by omega) hf5 hw5 hw6 hf6

end Go.Proofs.YthbngnlmgplijaaGreatDoor

namespace Go.Proofs.YthbngnlmgplijaaGreatDoor
open Go.Al Go.Proofs
set_option linter.unusedVariables false
set_option linter.unusedSimpArgs false
set_option linter.unusedSectionVars false
set_option maxRecDepth 100000

def sameB (a b : Pg) : Bool := decide (a.items = b.items) && decide (a.lsn = b.lsn) && decide (a.kind = b.kind) && decide (a.level = b.level) && decide (a.right = b.right) && decide (a.high = b.high)
theorem sameB_eq (a b : Pg) : sameB a b = decide (a = b) := by
  obtain ⟨a1, a2, a3, a4, a5, a6⟩ := a
  obtain ⟨b1, b2, b3, b4, b5, b6⟩ := b
  unfold sameB
  rw [Bool.eq_iff_iff]
  simp only [Bool.and_eq_true, decide_eq_true_eq, Pg.mk.injEq]
  constructor
  · rintro ⟨⟨⟨⟨⟨h1, h2⟩, h3⟩, h4⟩, h5⟩, h6⟩; exact ⟨h2, h3, h4, h5, h6, h1⟩
  · rintro ⟨h2, h3, h4, h5, h6, h1⟩; exact ⟨⟨⟨⟨⟨h1, h2⟩, h3⟩, h4⟩, h5⟩, h6⟩
theorem same_spec {w : World} {ca cb : Array Value} {a b : Pg} (ha : PgAs w ca a) (hb : PgAs w cb b) : Cl Tryz.prog 169 [.agg ca, .agg cb] w fun r w' => r = .bool (decide (a = b)) ∧ Fm (fun _ => False) w w' := by
  rw [← sameB_eq]
  obtain ⟨va, rfl, oa, hca⟩ := ha.ex
  obtain ⟨vb, rfl, ob, hcb⟩ := hb.ex
  refine c169 ?_; unfold T169
  refine New_any ?_
  intro xa w1 hxa hs1 hw1 hf1
  refine New_any ?_
  intro xb w2 hxb hs2 hw2 hf2
  replace hw1 : PB w2 xa a va := hf2.heap hw1 (fun e => e)
  replace hw2 : PB w2 xb b vb := hw2
  have hF2 := Fmf hf1 hf2
  simp only [RS0, RS1, RS2, RS3, RS4, RS5, hw1.c5, hw2.c5]
  refine (equal_spec (hca.keep hF2 (fun _ _ e => e)) (hcb.keep hF2 (fun _ _ e => e))).mono ?_
  rintro _ w3 ⟨rfl, hf3⟩
  have hA := hw1.keep hf3 (fun e => e)
  have hB := hw2.keep hf3 (fun e => e)
  have hF3 := Fmf hF2 hf3
  have hne : xa ≠ xb := by omega
  unfold sameB
  simp only [RS0, RS1, RS2, RS3, RS4, RS5]
  cases d0 : decide (a.items = b.items) with
  | false => simp only [RS0, RS1, RS2, RS3, RS4, RS5, Bool.false_and]; exact ⟨(by trivial), hF3⟩
  | true =>
  have hla := hA.lt
  have hlb := hB.lt
  have hz : w2.heap.size = w.heap.size + 2 := by omega
  have hxw : w.heap.size ≤ xa ∧ w.heap.size ≤ xb := by omega
  simp only [RS0, RS1, RS2, RS3, RS4, RS5, Bool.true_and]
  refine St_blk hA (by show 5 < 6; decide) rfl ?_
  intro w4 hw4 hs4 hf4
  replace hw4 : PB w4 xa a (.slice none 0 0) := hw4
  have hB4 := hB.keep hf4 (fun e => hne e.symm)
  try simp only [RS0, RS1, RS2, RS3, RS4, RS5]
  refine St_blk hB4 (by show 5 < 6; decide) rfl ?_
  intro w5 hw5 hs5 hf5
  replace hw5 : PB w5 xb b (.slice none 0 0) := hw5
  have hA5 := hw4.keep hf5 hne
  have hF5 : Fm (fun _ => False) w w5 := Fm.own (Fm.own hF3 hf4 (by rintro y rfl; omega)) hf5 (by rintro y rfl; omega)
  simp only [RS0, RS1, RS2, RS3, RS4, RS5, hA5.c0, hw5.c0, beq_dec]
  cases d1 : decide (a.lsn = b.lsn) with
  | false => simp only [RS0, RS1, RS2, RS3, RS4, RS5, Bool.false_and]; exact ⟨(by trivial), hF5⟩
  | true =>
  simp only [RS0, RS1, RS2, RS3, RS4, RS5, hA5.c1, hw5.c1, beq_dec, Bool.true_and]
  cases d2 : decide (a.kind = b.kind) with
  | false => simp only [RS0, RS1, RS2, RS3, RS4, RS5, Bool.false_and]; exact ⟨(by trivial), hF5⟩
  | true =>
  simp only [RS0, RS1, RS2, RS3, RS4, RS5, hA5.c2, hw5.c2, beq_dec, Bool.true_and]
  cases d3 : decide (a.level = b.level) with
  | false => simp only [RS0, RS1, RS2, RS3, RS4, RS5, Bool.false_and]; exact ⟨(by trivial), hF5⟩
  | true =>
  simp only [RS0, RS1, RS2, RS3, RS4, RS5, hA5.c3, hw5.c3, beq_dec, Bool.true_and]
  cases d4 : decide (a.right = b.right) with
  | false => simp only [RS0, RS1, RS2, RS3, RS4, RS5, Bool.false_and]; exact ⟨(by trivial), hF5⟩
  | true =>
  simp only [RS0, RS1, RS2, RS3, RS4, RS5, hA5.c4, hw5.c4, str_inj, Bool.true_and]
  exact ⟨(by trivial), hF5⟩
theorem rsame_spec {w : World} {ca cb : Array Value} {a b : Pg} (ha : PgAs w ca a) (hb : PgAs w cb b) : Cl Tryz.prog 34 [.agg ca, .agg cb] w fun r w' => r = .bool (decide (a = b)) ∧ Fm (fun _ => False) w w' := by
  obtain ⟨va, rfl, oa, hca⟩ := ha.ex
  obtain ⟨vb, rfl, ob, hcb⟩ := hb.ex
  refine c34 ?_; unfold T34
  refine New_any ?_
  intro xa w1 hxa hs1 hw1 hf1
  refine New_any ?_
  intro xb w2 hxb hs2 hw2 hf2
  replace hw1 : PB w2 xa a va := hf2.heap hw1 (fun e => e)
  replace hw2 : PB w2 xb b vb := hw2
  have hF2 := Fmf hf1 hf2
  have no : ¬ a = b → (Value.bool false = Value.bool (decide (a = b))) := fun h => by rw [show decide (a = b) = false by simpa using h]
  have hlt := hca.lt
  unfold maxLen at hlt
  simp only [RS0, RS1, RS2, RS3, RS4, RS5, hw1.c0, hw2.c0, bne_dec]
  cases d1 : decide (a.lsn = b.lsn) with
  | false => simp only [RS0, RS1, RS2, RS3, RS4, RS5]; exact ⟨no (fun e => by rw [e] at d1; simp at d1), hF2⟩
  | true =>
  simp only [RS0, RS1, RS2, RS3, RS4, RS5, hw1.c1, hw2.c1, bne_dec]
  cases d2 : decide (a.kind = b.kind) with
  | false => simp only [RS0, RS1, RS2, RS3, RS4, RS5]; exact ⟨no (fun e => by rw [e] at d2; simp at d2), hF2⟩
  | true =>
  simp only [RS0, RS1, RS2, RS3, RS4, RS5, hw1.c2, hw2.c2, bne_dec]
  cases d3 : decide (a.level = b.level) with
  | false => simp only [RS0, RS1, RS2, RS3, RS4, RS5]; exact ⟨no (fun e => by rw [e] at d3; simp at d3), hF2⟩
  | true =>
  simp only [RS0, RS1, RS2, RS3, RS4, RS5, hw1.c3, hw2.c3, bne_dec]
  cases d4 : decide (a.right = b.right) with
  | false => simp only [RS0, RS1, RS2, RS3, RS4, RS5]; exact ⟨no (fun e => by rw [e] at d4; simp at d4), hF2⟩
  | true =>
  simp only [RS0, RS1, RS2, RS3, RS4, RS5, hw1.c4, hw2.c4, str_inj]
  cases d5 : decide (a.high = b.high) with
  | false => simp only [RS0, RS1, RS2, RS3, RS4, RS5]; exact ⟨no (fun e => by rw [e] at d5; simp at d5), hF2⟩
  | true =>
  have dl : decide ((a.items.length : Int) = (b.items.length : Int)) = decide (a.items.length = b.items.length) := by rw [decide_eq_decide]; omega
  simp only [RS0, RS1, RS2, RS3, RS4, RS5, hw1.c5, hw2.c5, hca.lenV, hcb.lenV, bne_dec, dl]
  cases d6 : decide (a.items.length = b.items.length) with
  | false => simp only [RS0, RS1, RS2, RS3, RS4, RS5]; exact ⟨no (fun e => by rw [e] at d6; simp at d6), hF2⟩
  | true =>
  rw [decide_eq_true_eq] at d1 d2 d3 d4 d5 d6
  simp only [RS0, RS1, RS2, RS3, RS4, RS5]
  refine ⟨fun vs w2' => ∃ i : Nat, vs = [iv i] ∧ i ≤ a.items.length ∧ a.items.take i = b.items.take i ∧ PB w2' xa a va ∧ PB w2' xb b vb ∧ Fm (fun _ => False) w w2', fun vs _ => (a.items.length - nth vs 0).toNat, ⟨0, rfl, by omega, rfl, hw1, hw2, hF2⟩, ?_⟩
  rintro _ w3 ivv ⟨i, hvs, hi, heq, hA, hB, hF3⟩
  cases hvs
  by_cases hlt2 : i < a.items.length
  · have e1 : decide ((i : Int) < (a.items.length : Int)) = true := by rw [decide_eq_true_eq]; omega
    have e2 : IntKind.i64.wrap ((i : Int) + 1) = ((i + 1 : Nat) : Int) := by rw [wrap_id] <;> omega
    have hx : a.items[i]? = some a.items[i] := List.getElem?_eq_getElem hlt2
    have hy : b.items[i]? = some b.items[i] := List.getElem?_eq_getElem (by omega)
    generalize a.items[i] = x at hx
    generalize b.items[i] = y at hy
    have hf3 := Fm.drew (fun _ => False) w3
    obtain ⟨ad, hix, _, hc⟩ := hca.at1 (i := i) (x := stv x) (by rw [List.getElem?_map, hx]; rfl) .i64
    obtain ⟨ad', hix', _, hc'⟩ := hcb.at1 (i := i) (x := stv y) (by rw [List.getElem?_map, hy]; rfl) .i64
    have hc2 := hF3.cell' hc (fun e => e)
    have hc2' := hF3.cell' hc' (fun e => e)
    simp only [RS0, RS1, RS2, RS3, RS4, RS5, hA.c5, hca.lenV, e1, hB.c5, true_and, hix, hc2, hix', hc2', str_inj]
    cases hd : decide (x = y) with
    | true =>
      have hxy : x = y := by simpa using hd
      simp only [RS0, RS1, RS2, RS3, RS4, RS5, e2]
      exact ⟨⟨i + 1, rfl, by omega, by rw [List.take_add_one, List.take_add_one, heq, hx, hy, hxy], hA.keep hf3 (fun e => e), hB.keep hf3 (fun e => e), Fmf hF3 hf3⟩, by simp only [nth_0]; omega⟩
    | false =>
      simp only [RS0, RS1, RS2, RS3, RS4, RS5]
      refine ⟨no (fun e => ?_), Fmf hF3 hf3⟩
      rw [decide_eq_false_iff_not] at hd
      rw [e, hy] at hx
      cases hx
      exact hd rfl
  · have hie : i = a.items.length := by omega
    subst hie
    have e1 : decide (((a.items.length : Nat) : Int) < (a.items.length : Int)) = false := by simp
    rw [List.take_length, List.take_of_length_le (by omega)] at heq
    simp only [RS0, RS1, RS2, RS3, RS4, RS5, hA.c5, hca.lenV, e1]
    refine ⟨?_, hF3⟩
    have : a = b := by
      obtain ⟨a1, a2, a3, a4, a5, a6⟩ := a
      obtain ⟨b1, b2, b3, b4, b5, b6⟩ := b
      simp only at d1 d2 d3 d4 d5 heq
      rw [d1, d2, d3, d4, d5, heq]
    rw [show decide (a = b) = true by simpa using this]

end Go.Proofs.YthbngnlmgplijaaGreatDoor

namespace Go.Proofs.YthbngnlmgplijaaGreatDoor
open Go.Al Go.Proofs
set_option maxRecDepth 100000
set_option linter.unusedVariables false
set_option linter.unusedSimpArgs false
def T13 (k : KV) (s0 : Value) (w : World) : Prop :=
 New #[(.int .i64 0), (.int .i64 0), (.int .i64 0), (.int .u8 0), (.int .i64 0), (.int .i64 0), (.int .i64 0), (.int .i64 0), (.int .i64 0), (.int .i64 0), (.string (.mk #[])), (.slice none 0 0), (.slice none 0 0), (.slice none 0 0), (.slice none 0 0), (.slice none 0 0)] 28 w fun t1 w2 =>
 Pu (lenS s0) fun t3 =>
 Pu (binV (.int .i64) .lss t3 (.int .i64 8)) fun t4 =>
 IfB t4
 (RunS Tryz.prog (Instr.build 28 #[]) w2 fun t5 w6 =>
 St 16 w6 t1 t5 fun u7 w8 =>
 RetO (resL Tryz.prog (fun j => bif Nat.beq j 2 then t1 else bif Nat.beq j 3 then (.int .i64 0) else bif Nat.beq j 4 then (.int .i64 40) else undef) w8 [(ResultVar.cell 2 28), (ResultVar.tmp 3), (ResultVar.tmp 4)]) w8 k)
 (Pu (slS s0 none (some (.int .i64 4))) fun t9 =>
 Cl Tryz.prog 79 [t9] w2 fun t10 w11 =>
 Pu (binV (.int .i64) .eql t10 (.int .i64 0)) fun t12 =>
 Gd (isB false t12) (fun kk => kk t10 w11) w11 fun t13 w14 =>
 Gd (isB false t12) (fun kk => Pu (binV (.int .i64) .gtr t13 (.int .i64 65535)) fun vv => kk vv w14) w14 fun t15 w16 =>
 Pu (pickV t12 (.bool true) t15) fun t17 =>
 IfB t17
 (RunS Tryz.prog (Instr.build 28 #[]) w16 fun t18 w19 =>
 St 16 w19 t1 t18 fun u20 w21 =>
 RetO (resL Tryz.prog (fun j => bif Nat.beq j 2 then t1 else bif Nat.beq j 3 then (.int .i64 0) else bif Nat.beq j 4 then (.int .i64 41) else undef) w21 [(ResultVar.cell 2 28), (ResultVar.tmp 3), (ResultVar.tmp 4)]) w21 k)
 (Pu (lenS s0) fun t22 =>
 Pu (binV (.int .i64) .add (.int .i64 8) t10) fun t23 =>
 Pu (binV (.int .i64) .lss t22 t23) fun t24 =>
 IfB t24
 (RunS Tryz.prog (Instr.build 28 #[]) w16 fun t25 w26 =>
 St 16 w26 t1 t25 fun u27 w28 =>
 RetO (resL Tryz.prog (fun j => bif Nat.beq j 2 then t1 else bif Nat.beq j 3 then (.int .i64 0) else bif Nat.beq j 4 then (.int .i64 40) else undef) w28 [(ResultVar.cell 2 28), (ResultVar.tmp 3), (ResultVar.tmp 4)]) w28 k)
 (Pu (binV (.int .i64) .add (.int .i64 8) t10) fun t29 =>
 Pu (slS s0 (some (.int .i64 8)) (some t29)) fun t30 =>
 Pu (slS s0 (some (.int .i64 4)) (some (.int .i64 8))) fun t31 =>
 Cl Tryz.prog 79 [t31] w16 fun t32 w33 =>
 Cl Tryz.prog 80 [t30] w33 fun t34 w35 =>
 Pu (cvI IntKind.i64 t34) fun t36 =>
 Pu (binV (.int .i64) .neq t32 t36) fun t37 =>
 IfB t37
 (RunS Tryz.prog (Instr.build 28 #[]) w35 fun t38 w39 =>
 St 16 w39 t1 t38 fun u40 w41 =>
 RetO (resL Tryz.prog (fun j => bif Nat.beq j 2 then t1 else bif Nat.beq j 3 then (.int .i64 0) else bif Nat.beq j 4 then (.int .i64 30) else undef) w41 [(ResultVar.cell 2 28), (ResultVar.tmp 3), (ResultVar.tmp 4)]) w41 k)
 (Cl Tryz.prog 81 [t30] w35 fun t42 w43 =>
 Pu (extV t42 0) fun t44 =>
 Pu (extV t42 1) fun t45 =>
 New #[(.int .i64 0), (.int .i64 0), (.int .i64 0), (.int .u8 0), (.int .i64 0), (.int .i64 0), (.int .i64 0), (.int .i64 0), (.int .i64 0), (.int .i64 0), (.string (.mk #[])), (.slice none 0 0), (.slice none 0 0), (.slice none 0 0), (.slice none 0 0), (.slice none 0 0)] 28 w43 fun r46 w47 =>
 St 16 w47 r46 t44 fun u48 w49 =>
 Pu (unV .not t45) fun t50 =>
 IfB t50
 (RunS Tryz.prog (Instr.build 28 #[]) w49 fun t51 w52 =>
 St 16 w52 t1 t51 fun u53 w54 =>
 RetO (resL Tryz.prog (fun j => bif Nat.beq j 2 then t1 else bif Nat.beq j 3 then (.int .i64 0) else bif Nat.beq j 4 then (.int .i64 41) else undef) w54 [(ResultVar.cell 2 28), (ResultVar.tmp 3), (ResultVar.tmp 4)]) w54 k)
 (LdN 16 w49 r46 fun t55 w56 =>
 Cl Tryz.prog 82 [t55] w56 fun t57 w58 =>
 Pu (extV t57 0) fun t59 =>
 Pu (extV t57 1) fun t60 =>
 Pu (binV (.int .i64) .neq t60 (.int .i64 0)) fun t61 =>
 Gd (isB false t61) (fun kk => kk t59 w58) w58 fun t62 w63 =>
 Gd (isB false t61) (fun kk => kk t30 w63) w63 fun t64 w65 =>
 Gd (isB false t61) (fun kk => Pu (binV TypeDesc.string .neq t62 t64) fun vv => kk vv w65) w65 fun t66 w67 =>
 Pu (pickV t61 (.bool true) t66) fun t68 =>
 IfB t68
 (RunS Tryz.prog (Instr.build 28 #[]) w67 fun t69 w70 =>
 St 16 w70 t1 t69 fun u71 w72 =>
 RetO (resL Tryz.prog (fun j => bif Nat.beq j 2 then t1 else bif Nat.beq j 3 then (.int .i64 0) else bif Nat.beq j 4 then (.int .i64 41) else undef) w72 [(ResultVar.cell 2 28), (ResultVar.tmp 3), (ResultVar.tmp 4)]) w72 k)
 (LdN 16 w67 r46 fun t73 w74 =>
 Pu (binV (.int .i64) .add (.int .i64 8) t10) fun t75 =>
 St 16 w74 t1 t73 fun u76 w77 =>
 RetO (resL Tryz.prog (fun j => bif Nat.beq j 2 then t1 else bif Nat.beq j 3 then t75 else bif Nat.beq j 4 then (.int .i64 0) else undef) w77 [(ResultVar.cell 2 28), (ResultVar.tmp 3), (ResultVar.tmp 4)]) w77 k))))))
theorem e13 (k : KV) (s0 : Value) (w : World) : K KD Tryz.prog 69 (fun j =>  []) (fun j =>  none) (Tryz.f13.body.getD .skip) (retQ Tryz.prog Tryz.f13 k) (argF [s0]) w = T13 k s0 w := by kernel_rfl
theorem c13 {k : KV} {s0 : Value} {w : World} (h : T13 k s0 w) : Cl Tryz.prog 13 [s0] w k :=
  Cl_of_K KD_sound mixed Tryz.func13 (by kernel_rfl) (by kernel_rfl) ((e13 k s0 w).symm ▸ h)

def T81 (k : KV) (s0 : Value) (w : World) : Prop :=
 New #[(.int .i64 0), (.int .i64 0), (.int .i64 0), (.int .u8 0), (.int .i64 0), (.int .i64 0), (.int .i64 0), (.int .i64 0), (.int .i64 0), (.int .i64 0), (.string (.mk #[])), (.slice none 0 0), (.slice none 0 0), (.slice none 0 0), (.slice none 0 0), (.slice none 0 0)] 28 w fun t1 w2 =>
 Cl Tryz.prog 148 [s0] w2 fun t3 w4 =>
 New #[(.pointer none)] 181 w4 fun r5 w6 =>
 St 1 w6 r5 t3 fun u7 w8 =>
 New #[(.int .i64 0), (.int .i64 0), (.int .i64 0), (.int .u8 0), (.int .i64 0), (.int .i64 0), (.int .i64 0), (.int .i64 0), (.int .i64 0), (.int .i64 0), (.string (.mk #[])), (.slice none 0 0), (.slice none 0 0), (.slice none 0 0), (.slice none 0 0), (.slice none 0 0)] 28 w8 fun x9 w10 =>
 ClV Tryz.prog (.func (Fn.func 149) #[] #[r5]) [] w10 fun t11 w12 =>
 ClV Tryz.prog (.func (Fn.func 149) #[] #[r5]) [] w12 fun t13 w14 =>
 ClV Tryz.prog (.func (Fn.func 149) #[] #[r5]) [] w14 fun t15 w16 =>
 Pu (faV 0 x9) fun t17 =>
 St 1 w16 t17 t11 fun u18 w19 =>
 Pu (faV 1 x9) fun t20 =>
 St 1 w19 t20 t13 fun u21 w22 =>
 Pu (faV 2 x9) fun t23 =>
 St 1 w22 t23 t15 fun u24 w25 =>
 Ld w25 r5 fun t26 w27 =>
 Cl Tryz.prog 150 [t26, (.int .i64 13)] w27 fun t28 w29 =>
 Pu (cvI IntKind.u8 t28) fun t30 =>
 Pu (faV 3 x9) fun t31 =>
 St 1 w29 t31 t30 fun u32 w33 =>
 ClV Tryz.prog (.func (Fn.func 149) #[] #[r5]) [] w33 fun t34 w35 =>
 ClV Tryz.prog (.func (Fn.func 149) #[] #[r5]) [] w35 fun t36 w37 =>
 ClV Tryz.prog (.func (Fn.func 149) #[] #[r5]) [] w37 fun t38 w39 =>
 ClV Tryz.prog (.func (Fn.func 149) #[] #[r5]) [] w39 fun t40 w41 =>
 ClV Tryz.prog (.func (Fn.func 149) #[] #[r5]) [] w41 fun t42 w43 =>
 ClV Tryz.prog (.func (Fn.func 149) #[] #[r5]) [] w43 fun t44 w45 =>
 Pu (faV 4 x9) fun t46 =>
 St 1 w45 t46 t34 fun u47 w48 =>
 Pu (faV 5 x9) fun t49 =>
 St 1 w48 t49 t36 fun u50 w51 =>
 Pu (faV 6 x9) fun t52 =>
 St 1 w51 t52 t38 fun u53 w54 =>
 Pu (faV 7 x9) fun t55 =>
 St 1 w54 t55 t40 fun u56 w57 =>
 Pu (faV 8 x9) fun t58 =>
 St 1 w57 t58 t42 fun u59 w60 =>
 Pu (faV 9 x9) fun t61 =>
 St 1 w60 t61 t44 fun u62 w63 =>
 Ld w63 r5 fun t64 w65 =>
 Cl Tryz.prog 151 [t64, (.int .i64 512)] w65 fun t66 w67 =>
 Pu (faV 10 x9) fun t68 =>
 St 1 w67 t68 t66 fun u69 w70 =>
 ∃ C71 : World → Prop, C71 (World.drew w70) ∧
 (Ld (World.drew w70) r5 fun t72 w73 =>
 w73 = (World.drew w70) ∧
 ∃ t74, (∀ w75, C71 w75 → Ld w75 r5 fun t76 w77 =>
 t76 = t74 ∧ w77 = w75) ∧
 (Cl Tryz.prog 152 [t72, (.int .i64 255)] (World.drew w70) fun t78 w79 =>
 C71 w79 ∧
 (Pu (faV 11 x9) fun t80 =>
 Cl Tryz.prog 152 [t74, (.int .i64 255)] w79 fun t81 w82 =>
 St 1 w82 t80 t78 fun u83 w84 =>
 Pu (faV 12 x9) fun t85 =>
 St 1 w84 t85 t81 fun u86 w87 =>
 Ld w87 r5 fun t88 w89 =>
 Cl Tryz.prog 150 [t88, (.int .i64 4)] w89 fun t90 w91 =>
 ∃ (I92 : List Value → World → Prop) (m93 : List Value → World → Nat), I92 [(.int .i64 0)] w91 ∧
 ∀ (g134 : Fr) (w133 : World), ∀ t100 : Value, I92 [t100] w133 →
 (Pu (binV (.int .i64) .lss t100 t90) fun t135 =>
 IfB t135
 (∃ C136 : World → Prop, C136 (World.drew w133) ∧
 (∃ t137, (∀ w138, C136 w138 → Ld w138 r5 fun t139 w140 =>
 t139 = t137 ∧ w140 = w138) ∧
 (ClV Tryz.prog (.func (Fn.func 149) #[] #[r5]) [] (World.drew w133) fun t141 w142 =>
 C136 w142 ∧
 (Cl Tryz.prog 151 [t137, (.int .i64 512)] w142 fun t143 w144 =>
 Pu (lenS t143) fun t145 =>
 Pu (binV (.int .i64) .sub (.int .i64 512) t145) fun t146 =>
 Cl Tryz.prog 95 [(.string (.mk #[0])), t146] w144 fun t147 w148 =>
 Pu (binV TypeDesc.string .add t143 t147) fun t149 =>
 Cl Tryz.prog 41 [t149] w148 fun t150 w151 =>
 Pu (extV t150 0) fun t152 =>
 Pu (extV t150 1) fun t153 =>
 New #[(.int .i64 0), (.int .i64 0), (.int .i64 0), (.int .i64 0), (.string (.mk #[])), (.slice none 0 0)] 61 w151 fun p154 w155 =>
 St 6 w155 p154 t152 fun u156 w157 =>
 Pu (binV (.int .i64) .neq t153 (.int .i64 0)) fun t158 =>
 Gd (isB false t158) (fun kk => Ld w157 r5 kk) w157 fun t159 w160 =>
 Gd (isB false t158) (fun kk => Cl Tryz.prog 153 [t159] w160 kk) w160 fun t161 w162 =>
 Gd (isB false t158) (fun kk => Pu (binV (.int .i64) .neq t161 (.int .i64 0)) fun vv => kk vv w162) w162 fun t163 w164 =>
 Pu (pickV t158 (.bool true) t163) fun t165 =>
 IfB t165
 (LdN 16 w164 x9 fun t166 w167 =>
 St 16 w167 t1 t166 fun u168 w169 =>
 RetO (resL Tryz.prog (fun j => bif Nat.beq j 2 then t1 else bif Nat.beq j 3 then (.bool false) else undef) w169 [(ResultVar.cell 2 28), (ResultVar.tmp 3)]) w169 k)
 (Pu (faV 13 x9) fun t170 =>
 Ld w164 t170 fun t171 w172 =>
 LdN 6 w172 p154 fun t173 w174 =>
 RunS Tryz.prog (Instr.build 118 #[(0, t141), (1, t173)]) w174 fun t175 w176 =>
 RunS Tryz.prog (Instr.buildSlice 24 1 #[(0, t175)]) w176 fun t177 w178 =>
 RunS Tryz.prog (Builtin.append_ #[24, 24] 24 #[t171, t177]) w178 fun t179 w180 =>
 Pu (faV 13 x9) fun t181 =>
 St 1 w180 t181 t179 fun u182 w183 =>
 Pu (binV (.int .i64) .add t100 (.int .i64 1)) fun t184 =>
 I92 [t184] w183 ∧ m93 [t184] w183 < m93 [t100] w133)))))
 (Ld w133 r5 fun t185 w186 =>
 Cl Tryz.prog 150 [t185, (.int .i64 8192)] w186 fun t187 w188 =>
 ∃ (I189 : List Value → World → Prop) (m190 : List Value → World → Nat), I189 [(.int .i64 0)] w188 ∧
 ∀ (g211 : Fr) (w210 : World), ∀ t193 : Value, I189 [t193] w210 →
 (Pu (binV (.int .i64) .lss t193 t187) fun t212 =>
 IfB t212
 (Ld w210 r5 fun t213 w214 =>
 Cl Tryz.prog 153 [t213] w214 fun t215 w216 =>
 Pu (binV (.int .i64) .neq t215 (.int .i64 0)) fun t217 =>
 IfB t217
 (LdN 16 w216 x9 fun t218 w219 =>
 St 16 w219 t1 t218 fun u220 w221 =>
 RetO (resL Tryz.prog (fun j => bif Nat.beq j 2 then t1 else bif Nat.beq j 3 then (.bool false) else undef) w221 [(ResultVar.cell 2 28), (ResultVar.tmp 3)]) w221 k)
 (∃ C222 : World → Prop, C222 (World.drew w216) ∧
 (Pu (faV 14 x9) fun t223 =>
 ∃ t224, (∀ w225, C222 w225 → Ld w225 t223 fun t226 w227 =>
 t226 = t224 ∧ w227 = w225) ∧
 (ClV Tryz.prog (.func (Fn.func 149) #[] #[r5]) [] (World.drew w216) fun t228 w229 =>
 C222 w229 ∧
 (ClV Tryz.prog (.func (Fn.func 149) #[] #[r5]) [] w229 fun t230 w231 =>
 C222 w231 ∧
 (RunS Tryz.prog (Instr.build 120 #[(0, t228), (1, t230)]) w231 fun t232 w233 =>
 w233 = w231 ∧
 RunS Tryz.prog (Instr.buildSlice 25 1 #[(0, t232)]) w231 fun t234 w235 =>
 C222 w235 ∧
 (RunS Tryz.prog (Builtin.append_ #[25, 25] 25 #[t224, t234]) w235 fun t236 w237 =>
 Pu (faV 14 x9) fun t238 =>
 St 1 w237 t238 t236 fun u239 w240 =>
 Pu (binV (.int .i64) .add t193 (.int .i64 1)) fun t241 =>
 I189 [t241] w240 ∧ m190 [t241] w240 < m190 [t193] w210)))))))
 (Ld w210 r5 fun t242 w243 =>
 Cl Tryz.prog 150 [t242, (.int .i64 1024)] w243 fun t244 w245 =>
 ∃ (I246 : List Value → World → Prop) (m247 : List Value → World → Nat), I246 [(.int .i64 0)] w245 ∧
 ∀ (g268 : Fr) (w267 : World), ∀ t250 : Value, I246 [t250] w267 →
 (Pu (binV (.int .i64) .lss t250 t244) fun t269 =>
 IfB t269
 (Ld w267 r5 fun t270 w271 =>
 Cl Tryz.prog 153 [t270] w271 fun t272 w273 =>
 Pu (binV (.int .i64) .neq t272 (.int .i64 0)) fun t274 =>
 IfB t274
 (LdN 16 w273 x9 fun t275 w276 =>
 St 16 w276 t1 t275 fun u277 w278 =>
 RetO (resL Tryz.prog (fun j => bif Nat.beq j 2 then t1 else bif Nat.beq j 3 then (.bool false) else undef) w278 [(ResultVar.cell 2 28), (ResultVar.tmp 3)]) w278 k)
 (∃ C279 : World → Prop, C279 (World.drew w273) ∧
 (Pu (faV 15 x9) fun t280 =>
 ∃ t281, (∀ w282, C279 w282 → Ld w282 t280 fun t283 w284 =>
 t283 = t281 ∧ w284 = w282) ∧
 (ClV Tryz.prog (.func (Fn.func 149) #[] #[r5]) [] (World.drew w273) fun t285 w286 =>
 C279 w286 ∧
 (ClV Tryz.prog (.func (Fn.func 149) #[] #[r5]) [] w286 fun t287 w288 =>
 C279 w288 ∧
 (RunS Tryz.prog (Instr.build 122 #[(0, t285), (1, t287)]) w288 fun t289 w290 =>
 w290 = w288 ∧
 RunS Tryz.prog (Instr.buildSlice 26 1 #[(0, t289)]) w288 fun t291 w292 =>
 C279 w292 ∧
 (RunS Tryz.prog (Builtin.append_ #[26, 26] 26 #[t281, t291]) w292 fun t293 w294 =>
 Pu (faV 15 x9) fun t295 =>
 St 1 w294 t295 t293 fun u296 w297 =>
 Pu (binV (.int .i64) .add t250 (.int .i64 1)) fun t298 =>
 I246 [t298] w297 ∧ m247 [t298] w297 < m247 [t250] w267)))))))
 (∃ C299 : World → Prop, C299 (World.drew w267) ∧
 (∃ t300, (∀ w301, C299 w301 → LdN 16 w301 x9 fun t302 w303 =>
 t302 = t300 ∧ w303 = w301) ∧
 (Ld (World.drew w267) r5 fun t304 w305 =>
 w305 = (World.drew w267) ∧
 Cl Tryz.prog 154 [t304] (World.drew w267) fun t306 w307 =>
 C299 w307 ∧
 (Pu (binV (.int .i64) .eql t306 (.int .i64 0)) fun t308 =>
 St 16 w307 t1 t300 fun u309 w310 =>
 RetO (resL Tryz.prog (fun j => bif Nat.beq j 2 then t1 else bif Nat.beq j 3 then t308 else undef) w310 [(ResultVar.cell 2 28), (ResultVar.tmp 3)]) w310 k))))))))))))
theorem e81 (k : KV) (s0 : Value) (w : World) : K KD Tryz.prog 131 (fun j => bif Nat.beq j 24 then [110] else bif Nat.beq j 18 then [91] else bif Nat.beq j 10 then [56] else []) (fun j =>  none) (Tryz.f81.body.getD .skip) (retQ Tryz.prog Tryz.f81 k) (argF [s0]) w = T81 k s0 w := by kernel_rfl
theorem c81 {k : KV} {s0 : Value} {w : World} (h : T81 k s0 w) : Cl Tryz.prog 81 [s0] w k :=
  Cl_of_K KD_sound mixed Tryz.func81 (by kernel_rfl) (by kernel_rfl) ((e81 k s0 w).symm ▸ h)

def T82 (k : KV) (r0 : Value) (w : World) : Prop :=
 New (Value.cells r0) 28 w fun r1 w2 =>
 Pu (faV 3 r1) fun t3 =>
 Ld w2 t3 fun t4 w5 =>
 Pu (binV (.int .u8) .lss t4 (.int .u8 1)) fun t6 =>
 Gd (isB false t6) (fun kk => Pu (faV 3 r1) fun vv => kk vv w5) w5 fun t7 w8 =>
 Gd (isB false t6) (fun kk => Ld w8 t7 kk) w8 fun t9 w10 =>
 Gd (isB false t6) (fun kk => Pu (binV (.int .u8) .gtr t9 (.int .u8 13)) fun vv => kk vv w10) w10 fun t11 w12 =>
 Pu (pickV t6 (.bool true) t11) fun t13 =>
 IfB t13
 (k (.tuple #[(.string (.mk #[])), (.int .i64 41)]) w12)
 (Pu (faV 0 r1) fun t14 =>
 Ld w12 t14 fun t15 w16 =>
 Pu (binV (.int .i64) .lss t15 (.int .i64 1)) fun t17 =>
 Gd (isB false t17) (fun kk => LdN 16 w16 r1 kk) w16 fun t18 w19 =>
 Gd (isB false t17) (fun kk => Cl Tryz.prog 156 [t18] w19 kk) w19 fun t20 w21 =>
 Gd (isB false t17) (fun kk => Cl Tryz.prog 155 [t20, (.func (.func 157) #[] #[])] w21 kk) w21 fun t22 w23 =>
 Pu (pickV t17 (.bool true) t22) fun t24 =>
 IfB t24
 (k (.tuple #[(.string (.mk #[])), (.int .i64 4)]) w23)
 (Pu (faV 10 r1) fun t25 =>
 Ld w23 t25 fun t26 w27 =>
 Pu (lenS t26) fun t28 =>
 Pu (binV (.int .i64) .gtr t28 (.int .i64 512)) fun t29 =>
 Gd (isB false t29) (fun kk => Pu (faV 11 r1) fun vv => kk vv w27) w27 fun t30 w31 =>
 Gd (isB false t29) (fun kk => Ld w31 t30 kk) w31 fun t32 w33 =>
 Gd (isB false t29) (fun kk => Pu (lenV t32) fun vv => kk vv w33) w33 fun t34 w35 =>
 Gd (isB false t29) (fun kk => Pu (binV (.int .i64) .gtr t34 (.int .i64 255)) fun vv => kk vv w35) w35 fun t36 w37 =>
 Pu (pickV t29 (.bool true) t36) fun t38 =>
 Gd (isB false t38) (fun kk => Pu (faV 12 r1) fun vv => kk vv w37) w37 fun t39 w40 =>
 Gd (isB false t38) (fun kk => Ld w40 t39 kk) w40 fun t41 w42 =>
 Gd (isB false t38) (fun kk => Pu (lenV t41) fun vv => kk vv w42) w42 fun t43 w44 =>
 Gd (isB false t38) (fun kk => Pu (binV (.int .i64) .gtr t43 (.int .i64 255)) fun vv => kk vv w44) w44 fun t45 w46 =>
 Pu (pickV t38 (.bool true) t45) fun t47 =>
 Gd (isB false t47) (fun kk => Pu (faV 13 r1) fun vv => kk vv w46) w46 fun t48 w49 =>
 Gd (isB false t47) (fun kk => Ld w49 t48 kk) w49 fun t50 w51 =>
 Gd (isB false t47) (fun kk => Pu (lenV t50) fun vv => kk vv w51) w51 fun t52 w53 =>
 Gd (isB false t47) (fun kk => Pu (binV (.int .i64) .gtr t52 (.int .i64 4)) fun vv => kk vv w53) w53 fun t54 w55 =>
 Pu (pickV t47 (.bool true) t54) fun t56 =>
 Gd (isB false t56) (fun kk => Pu (faV 14 r1) fun vv => kk vv w55) w55 fun t57 w58 =>
 Gd (isB false t56) (fun kk => Ld w58 t57 kk) w58 fun t59 w60 =>
 Gd (isB false t56) (fun kk => Pu (lenV t59) fun vv => kk vv w60) w60 fun t61 w62 =>
 Gd (isB false t56) (fun kk => Pu (binV (.int .i64) .gtr t61 (.int .i64 8192)) fun vv => kk vv w62) w62 fun t63 w64 =>
 Pu (pickV t56 (.bool true) t63) fun t65 =>
 Gd (isB false t65) (fun kk => Pu (faV 15 r1) fun vv => kk vv w64) w64 fun t66 w67 =>
 Gd (isB false t65) (fun kk => Ld w67 t66 kk) w67 fun t68 w69 =>
 Gd (isB false t65) (fun kk => Pu (lenV t68) fun vv => kk vv w69) w69 fun t70 w71 =>
 Gd (isB false t65) (fun kk => Pu (binV (.int .i64) .gtr t70 (.int .i64 1024)) fun vv => kk vv w71) w71 fun t72 w73 =>
 Pu (pickV t65 (.bool true) t72) fun t74 =>
 IfB t74
 (k (.tuple #[(.string (.mk #[])), (.int .i64 3)]) w73)
 (LdN 16 w73 r1 fun t75 w76 =>
 Cl Tryz.prog 158 [t75] w76 fun t77 w78 =>
 Pu (extV t77 0) fun t79 =>
 Pu (extV t77 1) fun t80 =>
 k (.tuple #[t79, t80]) w78)))
theorem e82 (k : KV) (r0 : Value) (w : World) : K KD Tryz.prog 61 (fun j =>  []) (fun j =>  none) (Tryz.f82.body.getD .skip) (retQ Tryz.prog Tryz.f82 k) (argF [r0]) w = T82 k r0 w := by kernel_rfl
theorem c82 {k : KV} {r0 : Value} {w : World} (h : T82 k r0 w) : Cl Tryz.prog 82 [r0] w k :=
  Cl_of_K KD_sound mixed Tryz.func82 (by kernel_rfl) (by kernel_rfl) ((e82 k r0 w).symm ▸ h)

def T89 (k : KV) (r0 : Value) (w : World) : Prop :=
 New (Value.cells r0) 28 w fun r1 w2 =>
 LdN 16 w2 r1 fun t3 w4 =>
 Cl Tryz.prog 82 [t3] w4 fun t5 w6 =>
 Pu (extV t5 0) fun t7 =>
 Pu (extV t5 1) fun t8 =>
 Pu (binV (.int .i64) .neq t8 (.int .i64 0)) fun t9 =>
 IfB t9
 (k (.tuple #[(.string (.mk #[])), t8]) w6)
 (Pu (lenS t7) fun t10 =>
 Cl Tryz.prog 115 [t10, (.int .i64 4)] w6 fun t11 w12 =>
 Cl Tryz.prog 80 [t7] w12 fun t13 w14 =>
 Pu (cvI IntKind.i64 t13) fun t15 =>
 Cl Tryz.prog 115 [t15, (.int .i64 4)] w14 fun t16 w17 =>
 Pu (binV TypeDesc.string .add t11 t16) fun t18 =>
 Pu (binV TypeDesc.string .add t18 t7) fun t19 =>
 k (.tuple #[t19, (.int .i64 0)]) w17)
theorem e89 (k : KV) (r0 : Value) (w : World) : K KD Tryz.prog 24 (fun j =>  []) (fun j =>  none) (Tryz.f89.body.getD .skip) (retQ Tryz.prog Tryz.f89 k) (argF [r0]) w = T89 k r0 w := by kernel_rfl
theorem c89 {k : KV} {r0 : Value} {w : World} (h : T89 k r0 w) : Cl Tryz.prog 89 [r0] w k :=
  Cl_of_K KD_sound mixed Tryz.func89 (by kernel_rfl) (by kernel_rfl) ((e89 k r0 w).symm ▸ h)

def T148 (k : KV) (data0 : Value) (w : World) : Prop :=
 RunS Tryz.prog (Instr.build 221 #[(0, data0)]) w fun t1 w2 =>
 New (Value.cells t1) 221 w2 fun t3 w4 =>
 k t3 w4
theorem e148 (k : KV) (data0 : Value) (w : World) : K KD Tryz.prog 6 (fun j =>  []) (fun j =>  none) (Tryz.f148.body.getD .skip) (retQ Tryz.prog Tryz.f148 k) (argF [data0]) w = T148 k data0 w := by kernel_rfl
theorem c148 {k : KV} {data0 : Value} {w : World} (h : T148 k data0 w) : Cl Tryz.prog 148 [data0] w k :=
  Cl_of_K KD_sound mixed Tryz.func148 (by kernel_rfl) (by kernel_rfl) ((e148 k data0 w).symm ▸ h)

def T149 (k : KV) (t0 : Value) (w : World) : Prop :=
 Ld w t0 fun t1 w2 =>
 Cl Tryz.prog 150 [t1, (.int .i64 4611686018427387904)] w2 fun t3 w4 =>
 k t3 w4
theorem e149 (k : KV) (t0 : Value) (w : World) : K KD Tryz.prog 4 (fun j =>  []) (fun j =>  none) (Tryz.f149.body.getD .skip) (retQ Tryz.prog Tryz.f149 k) (argF [t0]) w = T149 k t0 w := by kernel_rfl
theorem c149 {k : KV} {t0 : Value} {w : World} (h : T149 k t0 w) : Cl Tryz.prog 149 [t0] w k :=
  Cl_of_K KD_sound mixed Tryz.func149 (by kernel_rfl) (by kernel_rfl) ((e149 k t0 w).symm ▸ h)

def T150 (k : KV) (r0 most1 : Value) (w : World) : Prop :=
 Pu (binV (TypeDesc.pointer 221) .eql r0 (.pointer none)) fun t1 =>
 Gd (isB false t1) (fun kk => kk r0 w) w fun t2 w3 =>
 Gd (isB false t1) (fun kk => Pu (nilV t2) fun vv => kk vv w3) w3 fun t4 w5 =>
 Gd (isB false t1) (fun kk => Pu (faV 1 t4) fun vv => kk vv w5) w5 fun t6 w7 =>
 Gd (isB false t1) (fun kk => Ld w7 t6 kk) w7 fun t8 w9 =>
 Gd (isB false t1) (fun kk => Pu (binV (.int .i64) .neq t8 (.int .i64 0)) fun vv => kk vv w9) w9 fun t10 w11 =>
 Pu (pickV t1 (.bool true) t10) fun t12 =>
 IfB t12
 (k (.int .i64 0) w11)
 (∃ (I13 : List Value → World → Prop) (m14 : List Value → World → Nat), I13 [(.int .i64 0), (.int .i64 0)] w11 ∧
 ∀ (g78 : Fr) (w77 : World), ∀ n17 : Value, ∀ t20 : Value, I13 [n17, t20] w77 →
 (Pu (binV (.int .i64) .lss t20 (.int .i64 9)) fun t79 =>
 IfB t79
 (Pu (nilV r0) fun t80 =>
 Pu (faV 0 t80) fun t81 =>
 Ld w77 t81 fun t82 w83 =>
 Pu (lenS t82) fun t84 =>
 Pu (binV (.int .i64) .geq t20 t84) fun t85 =>
 IfB t85
 (Cl Tryz.prog 196 [r0, (.int .i64 10)] w83 fun t86 w87 =>
 k t86 w87)
 (Pu (nilV r0) fun t88 =>
 Pu (faV 0 t88) fun t89 =>
 Ld w83 t89 fun t90 w91 =>
 Pu (ixS t90 t20) fun t92 =>
 Pu (binV (.int .u8) .and t92 (.int .u8 127)) fun t93 =>
 Pu (cvI IntKind.i64 t93) fun t94 =>
 Pu (binV (.int .i64) .mul (.int .i64 7) t20) fun t95 =>
 Pu (binV (.int .i64) .shl t94 t95) fun t96 =>
 Pu (binV (.int .i64) .or n17 t96) fun t97 =>
 Pu (binV (.int .u8) .eql t92 (.int .u8 0)) fun t98 =>
 Gd (isB true t98) (fun kk => kk t20 w91) w91 fun t99 w100 =>
 Gd (isB true t98) (fun kk => Pu (binV (.int .i64) .gtr t99 (.int .i64 0)) fun vv => kk vv w100) w100 fun t101 w102 =>
 Pu (pickV t98 t101 (.bool false)) fun t103 =>
 IfB t103
 (Cl Tryz.prog 196 [r0, (.int .i64 11)] w102 fun t104 w105 =>
 k t104 w105)
 (Pu (binV (.int .u8) .geq t92 (.int .u8 128)) fun t106 =>
 IfB t106
 (Pu (binV (.int .i64) .add t20 (.int .i64 1)) fun t107 =>
 I13 [t97, t107] w102 ∧ m14 [t97, t107] w102 < m14 [n17, t20] w77)
 (Pu (foldV0 max2V [most1, (.int .i64 0)]) fun t108 =>
 Pu (binV (.int .i64) .gtr t97 t108) fun t109 =>
 IfB t109
 (Cl Tryz.prog 196 [r0, (.int .i64 11)] w102 fun t110 w111 =>
 k t110 w111)
 (Pu (nilV r0) fun t112 =>
 Pu (faV 0 t112) fun t113 =>
 Ld w102 t113 fun t114 w115 =>
 Pu (binV (.int .i64) .add t20 (.int .i64 1)) fun t116 =>
 Pu (slS t114 (some t116) none) fun t117 =>
 Pu (nilV r0) fun t118 =>
 Pu (faV 0 t118) fun t119 =>
 St 1 w115 t119 t117 fun u120 w121 =>
 k t97 w121)))))
 (Cl Tryz.prog 196 [r0, (.int .i64 11)] w77 fun t122 w123 =>
 k t122 w123)))
theorem e150 (k : KV) (r0 most1 : Value) (w : World) : K KD Tryz.prog 76 (fun j => bif Nat.beq j 5 then [5, 17] else []) (fun j =>  none) (Tryz.f150.body.getD .skip) (retQ Tryz.prog Tryz.f150 k) (argF [r0, most1]) w = T150 k r0 most1 w := by kernel_rfl
theorem c150 {k : KV} {r0 most1 : Value} {w : World} (h : T150 k r0 most1 w) : Cl Tryz.prog 150 [r0, most1] w k :=
  Cl_of_K KD_sound mixed Tryz.func150 (by kernel_rfl) (by kernel_rfl) ((e150 k r0 most1 w).symm ▸ h)

def T151 (k : KV) (r0 most1 : Value) (w : World) : Prop :=
 Cl Tryz.prog 150 [r0, most1] w fun t1 w2 =>
 Pu (binV (TypeDesc.pointer 221) .eql r0 (.pointer none)) fun t3 =>
 Gd (isB false t3) (fun kk => kk r0 w2) w2 fun t4 w5 =>
 Gd (isB false t3) (fun kk => Pu (nilV t4) fun vv => kk vv w5) w5 fun t6 w7 =>
 Gd (isB false t3) (fun kk => Pu (faV 1 t6) fun vv => kk vv w7) w7 fun t8 w9 =>
 Gd (isB false t3) (fun kk => Ld w9 t8 kk) w9 fun t10 w11 =>
 Gd (isB false t3) (fun kk => Pu (binV (.int .i64) .neq t10 (.int .i64 0)) fun vv => kk vv w11) w11 fun t12 w13 =>
 Pu (pickV t3 (.bool true) t12) fun t14 =>
 IfB t14
 (k (.string (.mk #[])) w13)
 (Pu (nilV r0) fun t15 =>
 Pu (faV 0 t15) fun t16 =>
 Ld w13 t16 fun t17 w18 =>
 Pu (lenS t17) fun t19 =>
 Pu (binV (.int .i64) .gtr t1 t19) fun t20 =>
 IfB t20
 (Cl Tryz.prog 196 [r0, (.int .i64 10)] w18 fun t21 w22 =>
 k (.string (.mk #[])) w22)
 (Pu (nilV r0) fun t23 =>
 Pu (faV 0 t23) fun t24 =>
 Ld w18 t24 fun t25 w26 =>
 Pu (slS t25 none (some t1)) fun t27 =>
 Pu (nilV r0) fun t28 =>
 Pu (faV 0 t28) fun t29 =>
 Ld w26 t29 fun t30 w31 =>
 Pu (slS t30 (some t1) none) fun t32 =>
 Pu (nilV r0) fun t33 =>
 Pu (faV 0 t33) fun t34 =>
 St 1 w31 t34 t32 fun u35 w36 =>
 k t27 w36))
theorem e151 (k : KV) (r0 most1 : Value) (w : World) : K KD Tryz.prog 44 (fun j =>  []) (fun j =>  none) (Tryz.f151.body.getD .skip) (retQ Tryz.prog Tryz.f151 k) (argF [r0, most1]) w = T151 k r0 most1 w := by kernel_rfl
theorem c151 {k : KV} {r0 most1 : Value} {w : World} (h : T151 k r0 most1 w) : Cl Tryz.prog 151 [r0, most1] w k :=
  Cl_of_K KD_sound mixed Tryz.func151 (by kernel_rfl) (by kernel_rfl) ((e151 k r0 most1 w).symm ▸ h)

def T152 (k : KV) (r0 most1 : Value) (w : World) : Prop :=
 Jn (fun vs18 w17 => ∀ g19 : Fr, ∃ out2 : Value, vs18 = [out2] ∧
 (k out2 w17))
 (fun jj1 =>
 Cl Tryz.prog 150 [r0, most1] w fun t20 w21 =>
 ∃ (I22 : List Value → World → Prop) (m23 : List Value → World → Nat), I22 [(.slice none 0 0), (.int .i64 0)] w21 ∧
 ∀ (g38 : Fr) (w37 : World), ∀ out25 : Value, ∀ t26 : Value, I22 [out25, t26] w37 →
 (Pu (binV (.int .i64) .lss t26 t20) fun t39 =>
 IfB t39
 (Cl Tryz.prog 150 [r0, (.int .i64 4611686018427387904)] w37 fun t40 w41 =>
 RunS Tryz.prog (Instr.buildSlice 23 1 #[(0, t40)]) w41 fun t42 w43 =>
 RunS Tryz.prog (Builtin.append_ #[23, 23] 23 #[out25, t42]) w43 fun t44 w45 =>
 Cl Tryz.prog 153 [r0] w45 fun t46 w47 =>
 Pu (binV (.int .i64) .neq t46 (.int .i64 0)) fun t48 =>
 IfB t48
 (jj1 [t44] w47)
 (Pu (binV (.int .i64) .add t26 (.int .i64 1)) fun t49 =>
 I22 [t44, t49] w47 ∧ m23 [t44, t49] w47 < m23 [out25, t26] w37))
 (jj1 [out25] w37)))
theorem e152 (k : KV) (r0 most1 : Value) (w : World) : K KD Tryz.prog 21 (fun j => bif Nat.beq j 3 then [5, 9] else []) (fun j => bif Nat.beq j 7 then some [5] else none) (Tryz.f152.body.getD .skip) (retQ Tryz.prog Tryz.f152 k) (argF [r0, most1]) w = T152 k r0 most1 w := by kernel_rfl
theorem c152 {k : KV} {r0 most1 : Value} {w : World} (h : T152 k r0 most1 w) : Cl Tryz.prog 152 [r0, most1] w k :=
  Cl_of_K KD_sound mixed Tryz.func152 (by kernel_rfl) (by kernel_rfl) ((e152 k r0 most1 w).symm ▸ h)

def T153 (k : KV) (r0 : Value) (w : World) : Prop :=
 Pu (binV (TypeDesc.pointer 221) .eql r0 (.pointer none)) fun t1 =>
 IfB t1
 (k (.int .i64 2) w)
 (Pu (nilV r0) fun t2 =>
 Pu (faV 1 t2) fun t3 =>
 Ld w t3 fun t4 w5 =>
 k t4 w5)
theorem e153 (k : KV) (r0 : Value) (w : World) : K KD Tryz.prog 9 (fun j =>  []) (fun j =>  none) (Tryz.f153.body.getD .skip) (retQ Tryz.prog Tryz.f153 k) (argF [r0]) w = T153 k r0 w := by kernel_rfl
theorem c153 {k : KV} {r0 : Value} {w : World} (h : T153 k r0 w) : Cl Tryz.prog 153 [r0] w k :=
  Cl_of_K KD_sound mixed Tryz.func153 (by kernel_rfl) (by kernel_rfl) ((e153 k r0 w).symm ▸ h)

def T154 (k : KV) (r0 : Value) (w : World) : Prop :=
 Cl Tryz.prog 153 [r0] w fun t1 w2 =>
 Pu (binV (.int .i64) .eql t1 (.int .i64 0)) fun t3 =>
 Gd (isB true t3) (fun kk => kk r0 w2) w2 fun t4 w5 =>
 Gd (isB true t3) (fun kk => Cl Tryz.prog 197 [t4] w5 kk) w5 fun t6 w7 =>
 Gd (isB true t3) (fun kk => Pu (binV (.int .i64) .gtr t6 (.int .i64 0)) fun vv => kk vv w7) w7 fun t8 w9 =>
 Pu (pickV t3 t8 (.bool false)) fun t10 =>
 IfB t10
 (k (.int .i64 12) w9)
 (Cl Tryz.prog 153 [r0] w9 fun t11 w12 =>
 k t11 w12)
theorem e154 (k : KV) (r0 : Value) (w : World) : K KD Tryz.prog 13 (fun j =>  []) (fun j =>  none) (Tryz.f154.body.getD .skip) (retQ Tryz.prog Tryz.f154 k) (argF [r0]) w = T154 k r0 w := by kernel_rfl
theorem c154 {k : KV} {r0 : Value} {w : World} (h : T154 k r0 w) : Cl Tryz.prog 154 [r0] w k :=
  Cl_of_K KD_sound mixed Tryz.func154 (by kernel_rfl) (by kernel_rfl) ((e154 k r0 w).symm ▸ h)

def T155 (k : KV) (s0 f1 : Value) (w : World) : Prop :=
 Cl Tryz.prog 198 [s0, f1] w fun t1 w2 =>
 Pu (binV (.int .i64) .geq t1 (.int .i64 0)) fun t3 =>
 k t3 w2
theorem e155 (k : KV) (s0 f1 : Value) (w : World) : K KD Tryz.prog 9 (fun j =>  []) (fun j =>  none) (Tryz.f155.body.getD .skip) (retQ Tryz.prog Tryz.f155 k) (argF [s0, f1]) w = T155 k s0 f1 w := by kernel_rfl
theorem c155 {k : KV} {s0 f1 : Value} {w : World} (h : T155 k s0 f1 w) : Cl Tryz.prog 155 [s0, f1] w k :=
  Cl_of_K KD_sound mixed Tryz.func155 (by kernel_rfl) (by kernel_rfl) ((e155 k s0 f1 w).symm ▸ h)

def T156 (k : KV) (r0 : Value) (w : World) : Prop :=
 New (Value.cells r0) 28 w fun r1 w2 =>
 Pu (faV 0 r1) fun t3 =>
 Ld w2 t3 fun t4 w5 =>
 Pu (faV 1 r1) fun t6 =>
 Ld w5 t6 fun t7 w8 =>
 Pu (faV 2 r1) fun t9 =>
 Ld w8 t9 fun t10 w11 =>
 Pu (faV 9 r1) fun t12 =>
 Ld w11 t12 fun t13 w14 =>
 Pu (faV 4 r1) fun t15 =>
 Ld w14 t15 fun t16 w17 =>
 Pu (faV 5 r1) fun t18 =>
 Ld w17 t18 fun t19 w20 =>
 Pu (faV 6 r1) fun t21 =>
 Ld w20 t21 fun t22 w23 =>
 Pu (faV 7 r1) fun t24 =>
 Ld w23 t24 fun t25 w26 =>
 Pu (faV 8 r1) fun t27 =>
 Ld w26 t27 fun t28 w29 =>
 RunS Tryz.prog (Instr.buildSlice 23 9 #[(0, t4), (1, t7), (2, t10), (3, t13), (4, t16), (5, t19), (6, t22), (7, t25), (8, t28)]) w29 fun t30 w31 =>
 ∃ C32 : World → Prop, C32 (World.drew w31) ∧
 (Pu (faV 11 r1) fun t33 =>
 Ld (World.drew w31) t33 fun t34 w35 =>
 w35 = (World.drew w31) ∧
 Pu (faV 12 r1) fun t36 =>
 ∃ t37, (∀ w38, C32 w38 → Ld w38 t36 fun t39 w40 =>
 t39 = t37 ∧ w40 = w38) ∧
 (RunS Tryz.prog (Builtin.append_ #[23, 23] 23 #[t30, t34]) (World.drew w31) fun t41 w42 =>
 C32 w42 ∧
 (RunS Tryz.prog (Builtin.append_ #[23, 23] 23 #[t41, t37]) w42 fun t43 w44 =>
 Pu (faV 13 r1) fun t45 =>
 Ld w44 t45 fun t46 w47 =>
 Pu (lenV t46) fun t48 =>
 ∃ (I49 : List Value → World → Prop) (m50 : List Value → World → Nat), I49 [t43, (.int .i64 0)] w47 ∧
 ∀ (g65 : Fr) (w64 : World), ∀ l52 : Value, ∀ t54 : Value, I49 [l52, t54] w64 →
 (Pu (binV (.int .i64) .lss t54 t48) fun t66 =>
 IfB t66
 (Pu (ixV 7 t46 t54) fun t67 =>
 LdN 7 w64 t67 fun t68 w69 =>
 New #[(.int .i64 0), (.int .i64 0), (.int .i64 0), (.int .i64 0), (.int .i64 0), (.string (.mk #[])), (.slice none 0 0)] 118 w69 fun m70 w71 =>
 St 7 w71 m70 t68 fun u72 w73 =>
 Pu (faV 0 m70) fun t74 =>
 Ld w73 t74 fun t75 w76 =>
 RunS Tryz.prog (Instr.buildSlice 23 1 #[(0, t75)]) w76 fun t77 w78 =>
 RunS Tryz.prog (Builtin.append_ #[23, 23] 23 #[l52, t77]) w78 fun t79 w80 =>
 Pu (binV (.int .i64) .add t54 (.int .i64 1)) fun t81 =>
 I49 [t79, t81] w80 ∧ m50 [t79, t81] w80 < m50 [l52, t54] w64)
 (Pu (faV 14 r1) fun t82 =>
 Ld w64 t82 fun t83 w84 =>
 Pu (lenV t83) fun t85 =>
 ∃ (I86 : List Value → World → Prop) (m87 : List Value → World → Nat), I86 [l52, (.int .i64 0)] w84 ∧
 ∀ (g104 : Fr) (w103 : World), ∀ l89 : Value, ∀ t91 : Value, I86 [l89, t91] w103 →
 (Pu (binV (.int .i64) .lss t91 t85) fun t105 =>
 IfB t105
 (Pu (ixV 2 t83 t91) fun t106 =>
 LdN 2 w103 t106 fun t107 w108 =>
 New #[(.int .i64 0), (.int .i64 0)] 120 w108 fun p109 w110 =>
 St 2 w110 p109 t107 fun u111 w112 =>
 Pu (faV 0 p109) fun t113 =>
 Ld w112 t113 fun t114 w115 =>
 Pu (faV 1 p109) fun t116 =>
 Ld w115 t116 fun t117 w118 =>
 RunS Tryz.prog (Instr.buildSlice 23 2 #[(0, t114), (1, t117)]) w118 fun t119 w120 =>
 RunS Tryz.prog (Builtin.append_ #[23, 23] 23 #[l89, t119]) w120 fun t121 w122 =>
 Pu (binV (.int .i64) .add t91 (.int .i64 1)) fun t123 =>
 I86 [t121, t123] w122 ∧ m87 [t121, t123] w122 < m87 [l89, t91] w103)
 (Pu (faV 15 r1) fun t124 =>
 Ld w103 t124 fun t125 w126 =>
 Pu (lenV t125) fun t127 =>
 ∃ (I128 : List Value → World → Prop) (m129 : List Value → World → Nat), I128 [l89, (.int .i64 0)] w126 ∧
 ∀ (g146 : Fr) (w145 : World), ∀ l131 : Value, ∀ t133 : Value, I128 [l131, t133] w145 →
 (Pu (binV (.int .i64) .lss t133 t127) fun t147 =>
 IfB t147
 (Pu (ixV 2 t125 t133) fun t148 =>
 LdN 2 w145 t148 fun t149 w150 =>
 New #[(.int .i64 0), (.int .i64 0)] 122 w150 fun t151 w152 =>
 St 2 w152 t151 t149 fun u153 w154 =>
 Pu (faV 0 t151) fun t155 =>
 Ld w154 t155 fun t156 w157 =>
 Pu (faV 1 t151) fun t158 =>
 Ld w157 t158 fun t159 w160 =>
 RunS Tryz.prog (Instr.buildSlice 23 2 #[(0, t156), (1, t159)]) w160 fun t161 w162 =>
 RunS Tryz.prog (Builtin.append_ #[23, 23] 23 #[l131, t161]) w162 fun t163 w164 =>
 Pu (binV (.int .i64) .add t133 (.int .i64 1)) fun t165 =>
 I128 [t163, t165] w164 ∧ m129 [t163, t165] w164 < m129 [l131, t133] w145)
 (k l131 w145)))))))))
theorem e156 (k : KV) (r0 : Value) (w : World) : K KD Tryz.prog 80 (fun j => bif Nat.beq j 14 then [3, 67] else bif Nat.beq j 9 then [3, 52] else bif Nat.beq j 4 then [3, 39] else []) (fun j =>  none) (Tryz.f156.body.getD .skip) (retQ Tryz.prog Tryz.f156 k) (argF [r0]) w = T156 k r0 w := by kernel_rfl
theorem c156 {k : KV} {r0 : Value} {w : World} (h : T156 k r0 w) : Cl Tryz.prog 156 [r0] w k :=
  Cl_of_K KD_sound mixed Tryz.func156 (by kernel_rfl) (by kernel_rfl) ((e156 k r0 w).symm ▸ h)

def T157 (k : KV) (n0 : Value) (w : World) : Prop :=
 Pu (binV (.int .i64) .lss n0 (.int .i64 0)) fun t1 =>
 Gd (isB false t1) (fun kk => kk n0 w) w fun t2 w3 =>
 Gd (isB false t1) (fun kk => Pu (binV (.int .i64) .gtr t2 (.int .i64 4611686018427387904)) fun vv => kk vv w3) w3 fun t4 w5 =>
 Pu (pickV t1 (.bool true) t4) fun t6 =>
 k t6 w5
theorem e157 (k : KV) (n0 : Value) (w : World) : K KD Tryz.prog 9 (fun j =>  []) (fun j =>  none) (Tryz.f157.body.getD .skip) (retQ Tryz.prog Tryz.f157 k) (argF [n0]) w = T157 k n0 w := by kernel_rfl
theorem c157 {k : KV} {n0 : Value} {w : World} (h : T157 k n0 w) : Cl Tryz.prog 157 [n0] w k :=
  Cl_of_K KD_sound mixed Tryz.func157 (by kernel_rfl) (by kernel_rfl) ((e157 k n0 w).symm ▸ h)

def T158 (k : KV) (r0 : Value) (w : World) : Prop :=
 New (Value.cells r0) 28 w fun r1 w2 =>
 Cl Tryz.prog 199 [] w2 fun t3 w4 =>
 Pu (faV 0 r1) fun t5 =>
 Ld w4 t5 fun t6 w7 =>
 Pu (faV 1 r1) fun t8 =>
 Ld w7 t8 fun t9 w10 =>
 Pu (faV 2 r1) fun t11 =>
 Ld w10 t11 fun t12 w13 =>
 Pu (faV 3 r1) fun t14 =>
 Ld w13 t14 fun t15 w16 =>
 Pu (cvI IntKind.i64 t15) fun t17 =>
 Pu (faV 4 r1) fun t18 =>
 Ld w16 t18 fun t19 w20 =>
 Pu (faV 5 r1) fun t21 =>
 Ld w20 t21 fun t22 w23 =>
 Pu (faV 6 r1) fun t24 =>
 Ld w23 t24 fun t25 w26 =>
 Pu (faV 7 r1) fun t27 =>
 Ld w26 t27 fun t28 w29 =>
 Pu (faV 8 r1) fun t30 =>
 Ld w29 t30 fun t31 w32 =>
 Pu (faV 9 r1) fun t33 =>
 Ld w32 t33 fun t34 w35 =>
 RunS Tryz.prog (Instr.buildSlice 23 10 #[(0, t6), (1, t9), (2, t12), (3, t17), (4, t19), (5, t22), (6, t25), (7, t28), (8, t31), (9, t34)]) w35 fun t36 w37 =>
 Cl Tryz.prog 200 [t3, t36] w37 fun t38 w39 =>
 Pu (faV 10 r1) fun t40 =>
 Ld w39 t40 fun t41 w42 =>
 Cl Tryz.prog 201 [t3, t41] w42 fun t43 w44 =>
 Pu (faV 11 r1) fun t45 =>
 Ld w44 t45 fun t46 w47 =>
 Pu (faV 12 r1) fun t48 =>
 Ld w47 t48 fun t49 w50 =>
 RunS Tryz.prog (Instr.build 227 #[(0, t46), (1, t49)]) w50 fun t51 w52 =>
 ∃ (I53 : List Value → World → Prop) (m54 : List Value → World → Nat), I53 [(.int .i64 0)] w52 ∧
 ∀ (g70 : Fr) (w69 : World), ∀ t57 : Value, I53 [t57] w69 →
 (Pu (binV (.int .i64) .lss t57 (.int .i64 2)) fun t71 =>
 IfB t71
 (Pu (ixG false 2 1 t51 t57) fun t72 =>
 Pu (lenV t72) fun t73 =>
 RunS Tryz.prog (Instr.buildSlice 23 1 #[(0, t73)]) w69 fun t74 w75 =>
 Cl Tryz.prog 200 [t3, t74] w75 fun t76 w77 =>
 Cl Tryz.prog 200 [t3, t72] w77 fun t78 w79 =>
 Pu (binV (.int .i64) .add t57 (.int .i64 1)) fun t80 =>
 I53 [t80] w79 ∧ m54 [t80] w79 < m54 [t57] w69)
 (Pu (faV 13 r1) fun t81 =>
 Ld w69 t81 fun t82 w83 =>
 Pu (lenV t82) fun t84 =>
 RunS Tryz.prog (Instr.buildSlice 23 1 #[(0, t84)]) w83 fun t85 w86 =>
 Cl Tryz.prog 200 [t3, t85] w86 fun t87 w88 =>
 Pu (faV 13 r1) fun t89 =>
 Ld w88 t89 fun t90 w91 =>
 Pu (lenV t90) fun t92 =>
 ∃ (I93 : List Value → World → Prop) (m94 : List Value → World → Nat), I93 [(.int .i64 0)] w91 ∧
 ∀ (g125 : Fr) (w124 : World), ∀ t101 : Value, I93 [t101] w124 →
 (Pu (binV (.int .i64) .lss t101 t92) fun t126 =>
 IfB t126
 (Pu (ixV 7 t90 t101) fun t127 =>
 LdN 7 w124 t127 fun t128 w129 =>
 New #[(.int .i64 0), (.int .i64 0), (.int .i64 0), (.int .i64 0), (.int .i64 0), (.string (.mk #[])), (.slice none 0 0)] 118 w129 fun m130 w131 =>
 St 7 w131 m130 t128 fun u132 w133 =>
 Pu (faV 1 m130) fun t134 =>
 LdN 6 w133 t134 fun t135 w136 =>
 Cl Tryz.prog 103 [t135] w136 fun t137 w138 =>
 Pu (extV t137 0) fun t139 =>
 Pu (extV t137 1) fun t140 =>
 Pu (binV (.int .i64) .neq t140 (.int .i64 0)) fun t141 =>
 IfB t141
 (k (.tuple #[(.string (.mk #[])), t140]) w138)
 (Pu (faV 0 m130) fun t142 =>
 Ld w138 t142 fun t143 w144 =>
 RunS Tryz.prog (Instr.buildSlice 23 1 #[(0, t143)]) w144 fun t145 w146 =>
 Cl Tryz.prog 200 [t3, t145] w146 fun t147 w148 =>
 Cl Tryz.prog 202 [t139, (.string (.mk #[0]))] w148 fun t149 w150 =>
 Cl Tryz.prog 201 [t3, t149] w150 fun t151 w152 =>
 Pu (binV (.int .i64) .add t101 (.int .i64 1)) fun t153 =>
 I93 [t153] w152 ∧ m94 [t153] w152 < m94 [t101] w124))
 (Pu (faV 14 r1) fun t154 =>
 Ld w124 t154 fun t155 w156 =>
 Pu (lenV t155) fun t157 =>
 RunS Tryz.prog (Instr.buildSlice 23 1 #[(0, t157)]) w156 fun t158 w159 =>
 Cl Tryz.prog 200 [t3, t158] w159 fun t160 w161 =>
 Pu (faV 14 r1) fun t162 =>
 Ld w161 t162 fun t163 w164 =>
 Pu (lenV t163) fun t165 =>
 ∃ (I166 : List Value → World → Prop) (m167 : List Value → World → Nat), I166 [(.int .i64 0)] w164 ∧
 ∀ (g183 : Fr) (w182 : World), ∀ t170 : Value, I166 [t170] w182 →
 (Pu (binV (.int .i64) .lss t170 t165) fun t184 =>
 IfB t184
 (Pu (ixV 2 t163 t170) fun t185 =>
 LdN 2 w182 t185 fun t186 w187 =>
 New #[(.int .i64 0), (.int .i64 0)] 120 w187 fun p188 w189 =>
 St 2 w189 p188 t186 fun u190 w191 =>
 Pu (faV 0 p188) fun t192 =>
 Ld w191 t192 fun t193 w194 =>
 Pu (faV 1 p188) fun t195 =>
 Ld w194 t195 fun t196 w197 =>
 RunS Tryz.prog (Instr.buildSlice 23 2 #[(0, t193), (1, t196)]) w197 fun t198 w199 =>
 Cl Tryz.prog 200 [t3, t198] w199 fun t200 w201 =>
 Pu (binV (.int .i64) .add t170 (.int .i64 1)) fun t202 =>
 I166 [t202] w201 ∧ m167 [t202] w201 < m167 [t170] w182)
 (Pu (faV 15 r1) fun t203 =>
 Ld w182 t203 fun t204 w205 =>
 Pu (lenV t204) fun t206 =>
 RunS Tryz.prog (Instr.buildSlice 23 1 #[(0, t206)]) w205 fun t207 w208 =>
 Cl Tryz.prog 200 [t3, t207] w208 fun t209 w210 =>
 Pu (faV 15 r1) fun t211 =>
 Ld w210 t211 fun t212 w213 =>
 Pu (lenV t212) fun t214 =>
 ∃ (I215 : List Value → World → Prop) (m216 : List Value → World → Nat), I215 [(.int .i64 0)] w213 ∧
 ∀ (g232 : Fr) (w231 : World), ∀ t219 : Value, I215 [t219] w231 →
 (Pu (binV (.int .i64) .lss t219 t214) fun t233 =>
 IfB t233
 (Pu (ixV 2 t212 t219) fun t234 =>
 LdN 2 w231 t234 fun t235 w236 =>
 New #[(.int .i64 0), (.int .i64 0)] 122 w236 fun t237 w238 =>
 St 2 w238 t237 t235 fun u239 w240 =>
 Pu (faV 0 t237) fun t241 =>
 Ld w240 t241 fun t242 w243 =>
 Pu (faV 1 t237) fun t244 =>
 Ld w243 t244 fun t245 w246 =>
 RunS Tryz.prog (Instr.buildSlice 23 2 #[(0, t242), (1, t245)]) w246 fun t247 w248 =>
 Cl Tryz.prog 200 [t3, t247] w248 fun t249 w250 =>
 Pu (binV (.int .i64) .add t219 (.int .i64 1)) fun t251 =>
 I215 [t251] w250 ∧ m216 [t251] w250 < m216 [t219] w231)
 (Cl Tryz.prog 203 [t3] w231 fun t252 w253 =>
 Pu (lenS t252) fun t254 =>
 Pu (binV (.int .i64) .gtr t254 (.int .i64 65535)) fun t255 =>
 IfB t255
 (k (.tuple #[(.string (.mk #[])), (.int .i64 3)]) w253)
 (k (.tuple #[t252, (.int .i64 0)]) w253)))))))))
theorem e158 (k : KV) (r0 : Value) (w : World) : K KD Tryz.prog 142 (fun j => bif Nat.beq j 28 then [124] else bif Nat.beq j 22 then [103] else bif Nat.beq j 12 then [71] else bif Nat.beq j 5 then [50] else []) (fun j =>  none) (Tryz.f158.body.getD .skip) (retQ Tryz.prog Tryz.f158 k) (argF [r0]) w = T158 k r0 w := by kernel_rfl
theorem c158 {k : KV} {r0 : Value} {w : World} (h : T158 k r0 w) : Cl Tryz.prog 158 [r0] w k :=
  Cl_of_K KD_sound mixed Tryz.func158 (by kernel_rfl) (by kernel_rfl) ((e158 k r0 w).symm ▸ h)

def T182 (k : KV) (s0 c1 : Value) (w : World) : Prop :=
 ∃ (I1 : List Value → World → Prop) (m2 : List Value → World → Nat), I1 [s0] w ∧
 ∀ (g23 : Fr) (w22 : World), ∀ s4 : Value, I1 [s4] w22 →
 (Pu (lenS s4) fun t24 =>
 Pu (binV (.int .i64) .gtr t24 (.int .i64 0)) fun t25 =>
 Gd (isB true t25) (fun kk => kk s4 w22) w22 fun t26 w27 =>
 Gd (isB true t25) (fun kk => kk s4 w27) w27 fun t28 w29 =>
 Gd (isB true t25) (fun kk => Pu (lenS t28) fun vv => kk vv w29) w29 fun t30 w31 =>
 Gd (isB true t25) (fun kk => Pu (binV (.int .i64) .sub t30 (.int .i64 1)) fun vv => kk vv w31) w31 fun t32 w33 =>
 Gd (isB true t25) (fun kk => Pu (ixS t26 t32) fun vv => kk vv w33) w33 fun t34 w35 =>
 Gd (isB true t25) (fun kk => kk c1 w35) w35 fun t36 w37 =>
 Gd (isB true t25) (fun kk => Pu (binV (.int .u8) .eql t34 t36) fun vv => kk vv w37) w37 fun t38 w39 =>
 Pu (pickV t25 t38 (.bool false)) fun t40 =>
 IfB t40
 (Pu (lenS s4) fun t41 =>
 Pu (binV (.int .i64) .sub t41 (.int .i64 1)) fun t42 =>
 Pu (slS s4 none (some t42)) fun t43 =>
 I1 [t43] w39 ∧ m2 [t43] w39 < m2 [s4] w22)
 (k s4 w39))
theorem e182 (k : KV) (s0 c1 : Value) (w : World) : K KD Tryz.prog 23 (fun j => bif Nat.beq j 1 then [0] else []) (fun j =>  none) (Tryz.f182.body.getD .skip) (retQ Tryz.prog Tryz.f182 k) (argF [s0, c1]) w = T182 k s0 c1 w := by kernel_rfl
theorem c182 {k : KV} {s0 c1 : Value} {w : World} (h : T182 k s0 c1 w) : Cl Tryz.prog 182 [s0, c1] w k :=
  Cl_of_K KD_sound mixed Tryz.func182 (by kernel_rfl) (by kernel_rfl) ((e182 k s0 c1 w).symm ▸ h)

def T196 (k : KV) (r0 e1 : Value) (w : World) : Prop :=
 Pu (nilV r0) fun t1 =>
 Pu (faV 0 t1) fun t2 =>
 St 1 w t2 (.string (.mk #[])) fun u3 w4 =>
 Pu (nilV r0) fun t5 =>
 Pu (faV 1 t5) fun t6 =>
 St 1 w4 t6 e1 fun u7 w8 =>
 k (.int .i64 0) w8
theorem e196 (k : KV) (r0 e1 : Value) (w : World) : K KD Tryz.prog 12 (fun j =>  []) (fun j =>  none) (Tryz.f196.body.getD .skip) (retQ Tryz.prog Tryz.f196 k) (argF [r0, e1]) w = T196 k r0 e1 w := by kernel_rfl
theorem c196 {k : KV} {r0 e1 : Value} {w : World} (h : T196 k r0 e1 w) : Cl Tryz.prog 196 [r0, e1] w k :=
  Cl_of_K KD_sound mixed Tryz.func196 (by kernel_rfl) (by kernel_rfl) ((e196 k r0 e1 w).symm ▸ h)

def T197 (k : KV) (r0 : Value) (w : World) : Prop :=
 Pu (binV (TypeDesc.pointer 221) .eql r0 (.pointer none)) fun t1 =>
 IfB t1
 (k (.int .i64 0) w)
 (Pu (nilV r0) fun t2 =>
 Pu (faV 0 t2) fun t3 =>
 Ld w t3 fun t4 w5 =>
 Pu (lenS t4) fun t6 =>
 k t6 w5)
theorem e197 (k : KV) (r0 : Value) (w : World) : K KD Tryz.prog 10 (fun j =>  []) (fun j =>  none) (Tryz.f197.body.getD .skip) (retQ Tryz.prog Tryz.f197 k) (argF [r0]) w = T197 k r0 w := by kernel_rfl
theorem c197 {k : KV} {r0 : Value} {w : World} (h : T197 k r0 w) : Cl Tryz.prog 197 [r0] w k :=
  Cl_of_K KD_sound mixed Tryz.func197 (by kernel_rfl) (by kernel_rfl) ((e197 k r0 w).symm ▸ h)

def T198 (k : KV) (s0 f1 : Value) (w : World) : Prop :=
 Pu (lenV s0) fun t1 =>
 ∃ (I2 : List Value → World → Prop) (m3 : List Value → World → Nat), I2 [(.int .i64 0)] w ∧
 ∀ (g19 : Fr) (w18 : World), ∀ t7 : Value, I2 [t7] w18 →
 (Pu (binV (.int .i64) .lss t7 t1) fun t20 =>
 IfB t20
 (Pu (ixV 1 s0 t7) fun t21 =>
 Ld w18 t21 fun t22 w23 =>
 ClV Tryz.prog f1 [t22] w23 fun t24 w25 =>
 IfB t24
 (k t7 w25)
 (Pu (binV (.int .i64) .add t7 (.int .i64 1)) fun t26 =>
 I2 [t26] w25 ∧ m3 [t26] w25 < m3 [t7] w18))
 (k (.int .i64 (-1)) w18))
theorem e198 (k : KV) (s0 f1 : Value) (w : World) : K KD Tryz.prog 19 (fun j => bif Nat.beq j 2 then [8] else []) (fun j =>  none) (Tryz.f198.body.getD .skip) (retQ Tryz.prog Tryz.f198 k) (argF [s0, f1]) w = T198 k s0 f1 w := by kernel_rfl
theorem c198 {k : KV} {s0 f1 : Value} {w : World} (h : T198 k s0 f1 w) : Cl Tryz.prog 198 [s0, f1] w k :=
  Cl_of_K KD_sound mixed Tryz.func198 (by kernel_rfl) (by kernel_rfl) ((e198 k s0 f1 w).symm ▸ h)

def T199 (k : KV) (w : World) : Prop :=
 RunS Tryz.prog (Instr.build 243 #[]) w fun t1 w2 =>
 New (Value.cells t1) 243 w2 fun t3 w4 =>
 k t3 w4
theorem e199 (k : KV) (w : World) : K KD Tryz.prog 3 (fun j =>  []) (fun j =>  none) (Tryz.f199.body.getD .skip) (retQ Tryz.prog Tryz.f199 k) (argF []) w = T199 k  w := by kernel_rfl
theorem c199 {k : KV} {w : World} (h : T199 k  w) : Cl Tryz.prog 199 [] w k :=
  Cl_of_K KD_sound mixed Tryz.func199 (by kernel_rfl) (by kernel_rfl) ((e199 k  w).symm ▸ h)

def T200 (k : KV) (wv0 ns1 : Value) (w : World) : Prop :=
 Pu (binV (TypeDesc.pointer 243) .eql wv0 (.pointer none)) fun t1 =>
 IfB t1
 (k (.tuple #[]) w)
 (Pu (lenV ns1) fun t2 =>
 ∃ (I3 : List Value → World → Prop) (m4 : List Value → World → Nat), I3 [(.int .i64 0)] w ∧
 ∀ (g42 : Fr) (w41 : World), ∀ t7 : Value, I3 [t7] w41 →
 (Pu (binV (.int .i64) .lss t7 t2) fun t43 =>
 IfB t43
 (Pu (ixV 1 ns1 t7) fun t44 =>
 Ld w41 t44 fun t45 w46 =>
 Pu (foldV0 max2V [t45, (.int .i64 0)]) fun t47 =>
 ∃ (I48 : List Value → World → Prop) (m49 : List Value → World → Nat), I48 [t47] w46 ∧
 ∀ (g69 : Fr) (w68 : World), ∀ n51 : Value, I48 [n51] w68 →
 (Pu (binV (.int .i64) .gtr n51 (.int .i64 127)) fun t70 =>
 IfB t70
 (Pu (nilV wv0) fun t71 =>
 Pu (faV 0 t71) fun t72 =>
 Ld w68 t72 fun t73 w74 =>
 Pu (cvI IntKind.u8 n51) fun t75 =>
 Pu (binV (.int .u8) .or t75 (.int .u8 128)) fun t76 =>
 RunS Tryz.prog (Instr.buildSlice 123 1 #[(0, t76)]) w74 fun t77 w78 =>
 RunS Tryz.prog (Builtin.append_ #[123, 123] 123 #[t73, t77]) w78 fun t79 w80 =>
 Pu (nilV wv0) fun t81 =>
 Pu (faV 0 t81) fun t82 =>
 St 1 w80 t82 t79 fun u83 w84 =>
 Pu (binV (.int .i64) .shr n51 (Value.int IntKind.u64 7)) fun t85 =>
 I48 [t85] w84 ∧ m49 [t85] w84 < m49 [n51] w68)
 (Pu (nilV wv0) fun t86 =>
 Pu (faV 0 t86) fun t87 =>
 Ld w68 t87 fun t88 w89 =>
 Pu (cvI IntKind.u8 n51) fun t90 =>
 RunS Tryz.prog (Instr.buildSlice 123 1 #[(0, t90)]) w89 fun t91 w92 =>
 RunS Tryz.prog (Builtin.append_ #[123, 123] 123 #[t88, t91]) w92 fun t93 w94 =>
 Pu (nilV wv0) fun t95 =>
 Pu (faV 0 t95) fun t96 =>
 St 1 w94 t96 t93 fun u97 w98 =>
 Pu (binV (.int .i64) .add t7 (.int .i64 1)) fun t99 =>
 I3 [t99] w98 ∧ m4 [t99] w98 < m4 [t7] w41)))
 (k (.tuple #[]) w41)))
theorem e200 (k : KV) (wv0 ns1 : Value) (w : World) : K KD Tryz.prog 44 (fun j => bif Nat.beq j 5 then [5] else bif Nat.beq j 2 then [10] else []) (fun j =>  none) (Tryz.f200.body.getD .skip) (retQ Tryz.prog Tryz.f200 k) (argF [wv0, ns1]) w = T200 k wv0 ns1 w := by kernel_rfl
theorem c200 {k : KV} {wv0 ns1 : Value} {w : World} (h : T200 k wv0 ns1 w) : Cl Tryz.prog 200 [wv0, ns1] w k :=
  Cl_of_K KD_sound mixed Tryz.func200 (by kernel_rfl) (by kernel_rfl) ((e200 k wv0 ns1 w).symm ▸ h)

def T201 (k : KV) (wv0 s1 : Value) (w : World) : Prop :=
 Pu (binV (TypeDesc.pointer 243) .eql wv0 (.pointer none)) fun t1 =>
 IfB t1
 (k (.tuple #[]) w)
 (Pu (lenS s1) fun t2 =>
 RunS Tryz.prog (Instr.buildSlice 23 1 #[(0, t2)]) w fun t3 w4 =>
 Cl Tryz.prog 200 [wv0, t3] w4 fun t5 w6 =>
 Pu (nilV wv0) fun t7 =>
 Pu (faV 0 t7) fun t8 =>
 Ld w6 t8 fun t9 w10 =>
 RunS Tryz.prog (Builtin.append_ #[123, 9] 123 #[t9, s1]) w10 fun t11 w12 =>
 Pu (nilV wv0) fun t13 =>
 Pu (faV 0 t13) fun t14 =>
 St 1 w12 t14 t11 fun u15 w16 =>
 k (.tuple #[]) w16)
theorem e201 (k : KV) (wv0 s1 : Value) (w : World) : K KD Tryz.prog 20 (fun j =>  []) (fun j =>  none) (Tryz.f201.body.getD .skip) (retQ Tryz.prog Tryz.f201 k) (argF [wv0, s1]) w = T201 k wv0 s1 w := by kernel_rfl
theorem c201 {k : KV} {wv0 s1 : Value} {w : World} (h : T201 k wv0 s1 w) : Cl Tryz.prog 201 [wv0, s1] w k :=
  Cl_of_K KD_sound mixed Tryz.func201 (by kernel_rfl) (by kernel_rfl) ((e201 k wv0 s1 w).symm ▸ h)

def T202 (k : KV) (s0 cutset1 : Value) (w : World) : Prop :=
 Pu (binV TypeDesc.string .eql s0 (.string (.mk #[]))) fun t1 =>
 Gd (isB false t1) (fun kk => kk cutset1 w) w fun t2 w3 =>
 Gd (isB false t1) (fun kk => Pu (binV TypeDesc.string .eql t2 (.string (.mk #[]))) fun vv => kk vv w3) w3 fun t4 w5 =>
 Pu (pickV t1 (.bool true) t4) fun t6 =>
 IfB t6
 (k s0 w5)
 (Pu (lenS cutset1) fun t7 =>
 Pu (binV (.int .i64) .eql t7 (.int .i64 1)) fun t8 =>
 Gd (isB true t8) (fun kk => kk cutset1 w5) w5 fun t9 w10 =>
 Gd (isB true t8) (fun kk => Pu (ixS t9 (.int .i64 0)) fun vv => kk vv w10) w10 fun t11 w12 =>
 Gd (isB true t8) (fun kk => Pu (binV (.int .u8) .lss t11 (.int .u8 128)) fun vv => kk vv w12) w12 fun t13 w14 =>
 Pu (pickV t8 t13 (.bool false)) fun t15 =>
 IfB t15
 (Pu (ixS cutset1 (.int .i64 0)) fun t16 =>
 Cl Tryz.prog 182 [s0, t16] w14 fun t17 w18 =>
 k t17 w18)
 (Cl Tryz.prog 183 [cutset1] w14 fun t19 w20 =>
 Pu (extV t19 0) fun t21 =>
 Pu (extV t19 1) fun t22 =>
 New #[(.bool false), (.bool false), (.bool false), (.bool false), (.bool false), (.bool false), (.bool false), (.bool false), (.bool false), (.bool false), (.bool false), (.bool false), (.bool false), (.bool false), (.bool false), (.bool false), (.bool false), (.bool false), (.bool false), (.bool false), (.bool false), (.bool false), (.bool false), (.bool false), (.bool false), (.bool false), (.bool false), (.bool false), (.bool false), (.bool false), (.bool false), (.bool false), (.bool false), (.bool false), (.bool false), (.bool false), (.bool false), (.bool false), (.bool false), (.bool false), (.bool false), (.bool false), (.bool false), (.bool false), (.bool false), (.bool false), (.bool false), (.bool false), (.bool false), (.bool false), (.bool false), (.bool false), (.bool false), (.bool false), (.bool false), (.bool false), (.bool false), (.bool false), (.bool false), (.bool false), (.bool false), (.bool false), (.bool false), (.bool false), (.bool false), (.bool false), (.bool false), (.bool false), (.bool false), (.bool false), (.bool false), (.bool false), (.bool false), (.bool false), (.bool false), (.bool false), (.bool false), (.bool false), (.bool false), (.bool false), (.bool false), (.bool false), (.bool false), (.bool false), (.bool false), (.bool false), (.bool false), (.bool false), (.bool false), (.bool false), (.bool false), (.bool false), (.bool false), (.bool false), (.bool false), (.bool false), (.bool false), (.bool false), (.bool false), (.bool false), (.bool false), (.bool false), (.bool false), (.bool false), (.bool false), (.bool false), (.bool false), (.bool false), (.bool false), (.bool false), (.bool false), (.bool false), (.bool false), (.bool false), (.bool false), (.bool false), (.bool false), (.bool false), (.bool false), (.bool false), (.bool false), (.bool false), (.bool false), (.bool false), (.bool false), (.bool false), (.bool false), (.bool false), (.bool false), (.bool false), (.bool false), (.bool false), (.bool false), (.bool false), (.bool false), (.bool false), (.bool false), (.bool false), (.bool false), (.bool false), (.bool false), (.bool false), (.bool false), (.bool false), (.bool false), (.bool false), (.bool false), (.bool false), (.bool false), (.bool false), (.bool false), (.bool false), (.bool false), (.bool false), (.bool false), (.bool false), (.bool false), (.bool false), (.bool false), (.bool false), (.bool false), (.bool false), (.bool false), (.bool false), (.bool false), (.bool false), (.bool false), (.bool false), (.bool false), (.bool false), (.bool false), (.bool false), (.bool false), (.bool false), (.bool false), (.bool false), (.bool false), (.bool false), (.bool false), (.bool false), (.bool false), (.bool false), (.bool false), (.bool false), (.bool false), (.bool false), (.bool false), (.bool false), (.bool false), (.bool false), (.bool false), (.bool false), (.bool false), (.bool false), (.bool false), (.bool false), (.bool false), (.bool false), (.bool false), (.bool false), (.bool false), (.bool false), (.bool false), (.bool false), (.bool false), (.bool false), (.bool false), (.bool false), (.bool false), (.bool false), (.bool false), (.bool false), (.bool false), (.bool false), (.bool false), (.bool false), (.bool false), (.bool false), (.bool false), (.bool false), (.bool false), (.bool false), (.bool false), (.bool false), (.bool false), (.bool false), (.bool false), (.bool false), (.bool false), (.bool false), (.bool false), (.bool false), (.bool false), (.bool false), (.bool false), (.bool false), (.bool false), (.bool false), (.bool false), (.bool false), (.bool false), (.bool false), (.bool false), (.bool false), (.bool false), (.bool false), (.bool false), (.bool false), (.bool false), (.bool false), (.bool false), (.bool false), (.bool false), (.bool false), (.bool false), (.bool false)] 212 w20 fun as23 w24 =>
 St 256 w24 as23 t21 fun u25 w26 =>
 IfB t22
 (Cl Tryz.prog 185 [s0, as23] w26 fun t27 w28 =>
 k t27 w28)
 (Cl Tryz.prog 187 [s0, cutset1] w26 fun t29 w30 =>
 k t29 w30)))
theorem e202 (k : KV) (s0 cutset1 : Value) (w : World) : K KD Tryz.prog 37 (fun j =>  []) (fun j =>  none) (Tryz.f202.body.getD .skip) (retQ Tryz.prog Tryz.f202 k) (argF [s0, cutset1]) w = T202 k s0 cutset1 w := by kernel_rfl
theorem c202 {k : KV} {s0 cutset1 : Value} {w : World} (h : T202 k s0 cutset1 w) : Cl Tryz.prog 202 [s0, cutset1] w k :=
  Cl_of_K KD_sound mixed Tryz.func202 (by kernel_rfl) (by kernel_rfl) ((e202 k s0 cutset1 w).symm ▸ h)

def T203 (k : KV) (wv0 : Value) (w : World) : Prop :=
 Pu (binV (TypeDesc.pointer 243) .eql wv0 (.pointer none)) fun t1 =>
 IfB t1
 (k (.string (.mk #[])) w)
 (Pu (nilV wv0) fun t2 =>
 Pu (faV 0 t2) fun t3 =>
 Ld w t3 fun t4 w5 =>
 RunS Tryz.prog (convert 123 9 t4) w5 fun t6 w7 =>
 k t6 w7)
theorem e203 (k : KV) (wv0 : Value) (w : World) : K KD Tryz.prog 10 (fun j =>  []) (fun j =>  none) (Tryz.f203.body.getD .skip) (retQ Tryz.prog Tryz.f203 k) (argF [wv0]) w = T203 k wv0 w := by kernel_rfl
theorem c203 {k : KV} {wv0 : Value} {w : World} (h : T203 k wv0 w) : Cl Tryz.prog 203 [wv0] w k :=
  Cl_of_K KD_sound mixed Tryz.func203 (by kernel_rfl) (by kernel_rfl) ((e203 k wv0 w).symm ▸ h)

end Go.Proofs.YthbngnlmgplijaaGreatDoor

namespace Go.Proofs.YthbngnlmgplijaaGreatDoor
open Go.Al Go.Proofs
set_option linter.unusedVariables false
set_option linter.unusedSimpArgs false
set_option linter.unusedSectionVars false
set_option maxRecDepth 100000

theorem E38w : ElemT Tryz.prog 123 5 1 1 := elemT_of Tryz.underlying123 (by kernel_rfl)
theorem bs38w (x : Int) (w : World) : (Instr.buildSlice 123 1 #[(0, .int .u8 x)]).run Tryz.prog w = .ok (.slice (some ⟨w.heap.size, 0, none⟩) 1 1) (w.alloc (.cells #[.int .u8 x] 5)) := by kernel_rfl
theorem bldR (s : Bs) (w : World) : (Instr.build 221 #[(0, stv s)]).run Tryz.prog w = .ok (.agg #[stv s, iv 0]) w := by kernel_rfl
theorem bldW (w : World) : (Instr.build 243 #[]).run Tryz.prog w = .ok (.agg #[.slice none 0 0]) w := by kernel_rfl

def RdAt (w : World) (r : Nat) (s : Bs) (e : Int) : Prop := w.heap[r]? = some (.cells #[stv s, iv e] 221)
theorem RdAt.keep {S : Nat → Prop} {w w' : World} {r : Nat} {s : Bs} {e : Int} (h : RdAt w r s e) (hf : Fm S w w') (hs : ¬ S r) : RdAt w' r s e := hf.heap h hs
theorem RdAt.c0 {w : World} {r : Nat} {s : Bs} {e : Int} (h : RdAt w r s e) : w.cell? ⟨r, 0, none⟩ = some (stv s) := by rw [cell_at h]; rfl
theorem RdAt.c1 {w : World} {r : Nat} {s : Bs} {e : Int} (h : RdAt w r s e) : w.cell? ⟨r, 1, none⟩ = some (iv e) := by rw [cell_at h]; rfl
theorem RdAt.lt {w : World} {r : Nat} {s : Bs} {e : Int} (h : RdAt w r s e) : r < w.heap.size := lt_of_heap h

theorem bread_spec (w : World) (s : Bs) : Cl Tryz.prog 148 [stv s] w fun v w' => ∃ r, v = pv r ∧ w.heap.size ≤ r ∧ RdAt w' r s 0 ∧ Fm (fun _ => False) w w' := by
  refine c148 ?_; unfold T148
  refine RunS_ok (bldR s w) (New_any ?_)
  intro b w' hb hs hw hf
  exact ⟨b, rfl, by omega, hw, hf⟩
theorem bfail_spec {w : World} {r : Nat} {s : Bs} {e : Int} (h : RdAt w r s e) (x : Int) : Cl Tryz.prog 196 [pv r, iv x] w fun v w' => v = iv 0 ∧ RdAt w' r [] x ∧ Fm (· = r) w w' := by
  refine c196 ?_; unfold T196
  simp only [RS0, RS1, RS2, RS3, RS4, RS5, str_size, str_nil, str_inj]
  refine St_blk h (by simp) rfl ?_
  intro w1 h1 _ hf1
  refine St_blk h1 (by simp) rfl ?_
  intro w2 h2 _ hf2
  exact ⟨(by trivial), h2, hf1.trans hf2 (fun _ _ e => e) (fun _ _ e => e)⟩
theorem berr_spec {w : World} {r : Nat} {s : Bs} {e : Int} (h : RdAt w r s e) : Cl Tryz.prog 153 [pv r] w fun v w' => v = iv e ∧ w' = w := by
  refine c153 ?_; unfold T153
  simp only [RS0, RS1, RS2, RS3, RS4, RS5, h.c1, and_self]
theorem bleft_spec {w : World} {r : Nat} {s : Bs} {e : Int} (h : RdAt w r s e) : Cl Tryz.prog 197 [pv r] w fun v w' => v = iv s.length ∧ w' = w := by
  refine c197 ?_; unfold T197
  simp only [RS0, RS1, RS2, RS3, RS4, RS5, str_size, str_nil, str_inj, h.c0, and_self]
theorem bend_spec {w : World} {r : Nat} {s : Bs} {e : Int} (h : RdAt w r s e) : Cl Tryz.prog 154 [pv r] w fun v w' => v = iv (endE s e) ∧ w' = w := by
  refine c154 ?_; unfold T154
  refine (berr_spec h).mono ?_
  rintro _ w ⟨rfl, rfl⟩
  unfold endE
  by_cases he : e = 0
  · have e1 : (e == 0) = true := by simpa using he
    simp only [RS0, RS1, RS2, RS3, RS4, RS5, e1]
    refine (bleft_spec h).mono ?_
    rintro _ w ⟨rfl, rfl⟩
    have e2 : decide (e = 0) = true := by simpa using he
    by_cases hs : 0 < s.length
    · have e3 : decide ((0 : Int) < (s.length : Int)) = true := by rw [decide_eq_true_eq]; omega
      have e4 : decide (0 < s.length) = true := by simpa using hs
      simp only [RS0, RS1, RS2, RS3, RS4, RS5, e3, e2, e4, Bool.and_self, cond_true]
      exact ⟨(by trivial), (by trivial)⟩
    · have e3 : decide ((0 : Int) < (s.length : Int)) = false := by rw [decide_eq_false_iff_not]; omega
      have e4 : decide (0 < s.length) = false := by simpa using hs
      simp only [RS0, RS1, RS2, RS3, RS4, RS5, e3, e2, e4, Bool.and_false, cond_false]
      refine (berr_spec h).mono ?_
      rintro _ w ⟨rfl, rfl⟩
      exact ⟨(by trivial), (by trivial)⟩
  · have e1 : (e == 0) = false := by simpa using he
    have e2 : decide (e = 0) = false := by simpa using he
    simp only [RS0, RS1, RS2, RS3, RS4, RS5, e1, e2, Bool.false_and, cond_false]
    refine (berr_spec h).mono ?_
    rintro _ w ⟨rfl, rfl⟩
    exact ⟨(by trivial), (by trivial)⟩

theorem bnum_spec {w : World} {r : Nat} {s : Bs} {e : Int} (h : RdAt w r s e) (most : Int) (hs : s.length ≤ 9223372036854775807) (hm : most ≤ 9223372036854775807) :
    Cl Tryz.prog 150 [pv r, iv most] w fun v w' => v = iv (rdNum most s e).1 ∧ RdAt w' r (rdNum most s e).2.1 (rdNum most s e).2.2 ∧ Fm (· = r) w w' := by
  refine c150 ?_; unfold T150
  unfold rdNum
  by_cases he : e = 0
  · subst he
    simp only [RS0, RS1, RS2, RS3, RS4, RS5, h.c1, bne_self_eq_false, decide_true, cond_true]
    refine ⟨fun vs w2 => ∃ (k n : Nat), vs = [iv n, iv k] ∧ k ≤ 9 ∧ n < 2 ^ (7 * k) ∧ k ≤ s.length ∧ rdN most 9 0 0 s = rdN most (9 - k) k n (s.drop k) ∧ w2 = w, fun vs _ => (9 - nth vs 1).toNat, ⟨0, 0, rfl, by omega, by decide, by omega, rfl, rfl⟩, ?_⟩
    rintro _ w2 in_ ik ⟨k, n, hvs, hk, hn, hks, heq, rfl⟩
    cases hvs
    by_cases hlt : k < 9
    · have e1 : decide ((k : Int) < 9) = true := by rw [decide_eq_true_eq]; omega
      obtain ⟨f, hf⟩ : ∃ f, 9 - k = f + 1 := ⟨8 - k, by omega⟩
      rw [hf] at heq
      simp only [RS0, RS1, RS2, RS3, RS4, RS5, str_size, str_nil, str_inj, e1, h.c0]
      by_cases hsl : k < s.length
      · have e2 : decide ((s.length : Int) ≤ (k : Int)) = false := by rw [decide_eq_false_iff_not]; omega
        have hb : s[k]? = some s[k] := List.getElem?_eq_getElem hsl
        rw [List.drop_eq_getElem_cons hsl, rdN] at heq
        generalize s[k] = b at hb heq
        have hb256 : b.toNat < 256 := b.toNat_lt
        have hk63 : (2 : Nat) ^ (7 * k) ≤ 2 ^ 56 := Nat.pow_le_pow_right (by decide) (by omega)
        have hmod : b.toNat % 128 < 128 := Nat.mod_lt _ (by decide)
        have hpr : b.toNat % 128 * 2 ^ (7 * k) ≤ 127 * 2 ^ 56 := Nat.mul_le_mul (by omega) hk63
        have e3 : andI .u8 (b.toNat : Int) 127 = ((b.toNat % 128 : Nat) : Int) := by
          have := and_u8 b.toNat 127 hb256 (by decide)
          rw [and127] at this; exact this
        have e4 : cvI .i64 (.int .u8 ((b.toNat % 128 : Nat) : Int)) = some (iv ((b.toNat % 128 : Nat) : Int)) := by
          show some (iv (IntKind.i64.wrap _)) = _
          rw [wrap_nat (by omega)]
        have e5 : IntKind.i64.wrap (7 * (k : Int)) = ((7 * k : Nat) : Int) := by rw [wrap_id] <;> omega
        have e6 := shl_nat (b.toNat % 128) (7 * k) (by omega) (by omega) (TypeDesc.int IntKind.i64) .i64
        have e7 : orI .i64 (n : Int) ((b.toNat % 128 * 2 ^ (7 * k) : Nat) : Int) = ((n + b.toNat % 128 * 2 ^ (7 * k) : Nat) : Int) := by
          rw [or_i64 _ _ (by omega) (by omega), or_add hn]
        have e8 : 128 ^ k = 2 ^ (7 * k) := by rw [Nat.pow_mul]
        rw [e8] at heq
        have hn' : n + b.toNat % 128 * 2 ^ (7 * k) < 2 ^ (7 * (k + 1)) := by
          have h1 : 2 ^ (7 * (k + 1)) = 128 * 2 ^ (7 * k) := by rw [show 7 * (k + 1) = 7 * k + 7 by omega, Nat.pow_add]; omega
          have h2 : b.toNat % 128 * 2 ^ (7 * k) ≤ 127 * 2 ^ (7 * k) := Nat.mul_le_mul_right _ (by omega)
          omega
        generalize n + b.toNat % 128 * 2 ^ (7 * k) = n' at e7 heq hn'
        have hn62 : n' < 2 ^ 63 := Nat.lt_of_lt_of_le hn' (Nat.pow_le_pow_right (by decide) (by omega))
        simp only [RS0, RS1, RS2, RS3, RS4, RS5, str_size, str_nil, str_inj, e2, ixS_str hb, binV_and, e3, e4, e5, e6, binV_or, e7]
        have ebz : ((b.toNat : Int) == 0) = decide (b = 0) := by
          rw [beq_dec, decide_eq_decide]
          constructor
          · intro h; apply UInt8.toNat.inj; simp; omega
          · rintro rfl; rfl
        have cont : decide (b = 0 ∧ 0 < k) = false → IfB (.bool (decide ((128 : Int) ≤ (b.toNat : Int))))
            (Pu (binV (TypeDesc.int IntKind.i64) .add (iv (k : Nat)) (Value.int IntKind.i64 1)) fun t73_107 =>
              (∃ (k_1 n_1 : Nat), [iv (n' : Nat), t73_107] = [iv n_1, iv k_1] ∧ k_1 ≤ 9 ∧ n_1 < 2 ^ (7 * k_1) ∧ k_1 ≤ s.length ∧ rdN most 9 0 0 s = rdN most (9 - k_1) k_1 n_1 (s.drop k_1) ∧ w2 = w2) ∧ (9 - nth [iv (n' : Nat), t73_107] 1).toNat < (9 - nth [iv (n : Nat), iv (k : Nat)] 1).toNat)
            (Pu (foldV0 max2V [iv most, (Value.int IntKind.i64 0)]) fun t58_108 =>
            Pu (binV (TypeDesc.int IntKind.i64) .gtr (iv (n' : Nat)) t58_108) fun t59_109 =>
            IfB t59_109
              (Cl Tryz.prog 196 [pv r, (Value.int IntKind.i64 11)] w2 fun v w' => v = iv (rdN most 9 0 0 s).1 ∧ RdAt w' r (rdN most 9 0 0 s).2.1 (rdN most 9 0 0 s).2.2 ∧ Fm (· = r) w2 w')
              (Pu (nilV (pv r)) fun t64_112 =>
              Pu (faV 0 t64_112) fun t65_113 =>
              Ld w2 t65_113 fun t66_114 w_115 =>
              Pu (binV (TypeDesc.int IntKind.i64) .add (iv (k : Nat)) (Value.int IntKind.i64 1)) fun t68_116 =>
              Pu (slS t66_114 (some t68_116) none) fun t69_117 =>
              Pu (nilV (pv r)) fun t70_118 =>
              Pu (faV 0 t70_118) fun t71_119 =>
              St 1 w_115 t71_119 t69_117 fun u_120 w_121 =>
              iv (n' : Nat) = iv (rdN most 9 0 0 s).1 ∧ RdAt w_121 r (rdN most 9 0 0 s).2.1 (rdN most 9 0 0 s).2.2 ∧ Fm (· = r) w2 w_121)) := by
          intro hz
          simp only [hz, cond_false] at heq
          have e9 : IntKind.i64.wrap ((k : Int) + 1) = ((k + 1 : Nat) : Int) := by rw [wrap_id] <;> omega
          by_cases hbig : 128 ≤ b.toNat
          · have z1 : decide ((128 : Int) ≤ (b.toNat : Int)) = true := by rw [decide_eq_true_eq]; omega
            have z2 : decide (128 ≤ b.toNat) = true := by simpa using hbig
            simp only [z2, cond_true] at heq
            simp only [RS0, RS1, RS2, RS3, RS4, RS5, z1, e9]
            exact ⟨⟨k + 1, n', rfl, by omega, hn', by omega, by rw [heq, show 9 - (k + 1) = f by omega], trivial⟩, by simp only [nth_1]; omega⟩
          · have z1 : decide ((128 : Int) ≤ (b.toNat : Int)) = false := by rw [decide_eq_false_iff_not]; omega
            have z2 : decide (128 ≤ b.toNat) = false := by simpa using hbig
            have z3 : max2V (iv most) (iv 0) = some (iv (max most 0)) := by
              show some (iv (if (0 : Int) > most then 0 else most)) = _
              congr 2
              split <;> omega
            simp only [z2, cond_false] at heq
            simp only [RS0, RS1, RS2, RS3, RS4, RS5, z1, foldV0, foldV, z3, Option.bind_some]
            by_cases hmx : max most 0 < (n' : Int)
            · have z4 : decide (max most 0 < (n' : Int)) = true := by simpa using hmx
              simp only [z4, cond_true] at heq
              simp only [RS0, RS1, RS2, RS3, RS4, RS5, z4]
              refine (bfail_spec h 11).mono ?_
              rintro _ w3 ⟨rfl, h3, hf3⟩
              rw [heq]
              exact ⟨(by trivial), h3, hf3⟩
            · have z4 : decide (max most 0 < (n' : Int)) = false := by simpa using hmx
              simp only [z4, cond_false] at heq
              have z5 := slS_lo (l := s) (i := k + 1) (by omega) .i64
              simp only [RS0, RS1, RS2, RS3, RS4, RS5, z4, h.c0, e9, z5]
              refine St_blk h (by simp) rfl ?_
              intro w3 h3 _ hf3
              rw [heq]
              exact ⟨rfl, h3, hf3⟩
        rw [ebz]
        by_cases hz : b = 0
        · have z1 : decide (b = 0) = true := by simpa using hz
          by_cases hkp : 0 < k
          · have z2 : decide ((0 : Int) < (k : Int)) = true := by rw [decide_eq_true_eq]; omega
            have z3 : decide (b = 0 ∧ 0 < k) = true := by simp [hz, hkp]
            simp only [z3, cond_true] at heq
            simp only [RS0, RS1, RS2, RS3, RS4, RS5, z1, z2]
            refine (bfail_spec h 11).mono ?_
            rintro _ w3 ⟨rfl, h3, hf3⟩
            rw [heq]
            exact ⟨(by trivial), h3, hf3⟩
          · have z2 : decide ((0 : Int) < (k : Int)) = false := by rw [decide_eq_false_iff_not]; omega
            have c := cont (by simp [hkp])
            simp only [RS0, RS1, RS2, RS3, RS4, RS5] at c
            simp only [RS0, RS1, RS2, RS3, RS4, RS5, z1, z2]
            exact c
        · have z1 : decide (b = 0) = false := by simpa using hz
          have c := cont (by simp [hz])
          simp only [RS0, RS1, RS2, RS3, RS4, RS5] at c
          simp only [RS0, RS1, RS2, RS3, RS4, RS5, z1]
          exact c
      · have e2 : decide ((s.length : Int) ≤ (k : Int)) = true := by rw [decide_eq_true_eq]; omega
        rw [List.drop_eq_nil_of_le (by omega), rdN] at heq
        simp only [RS0, RS1, RS2, RS3, RS4, RS5, e2]
        refine (bfail_spec h 10).mono ?_
        rintro _ w3 ⟨rfl, h3, hf3⟩
        rw [heq]
        exact ⟨(by trivial), h3, hf3⟩
    · have hke : k = 9 := by omega
      subst hke
      have e1 : decide (((9 : Nat) : Int) < 9) = false := rfl
      rw [Nat.sub_self, rdN] at heq
      simp only [RS0, RS1, RS2, RS3, RS4, RS5, e1]
      refine (bfail_spec h 11).mono ?_
      rintro _ w3 ⟨rfl, h3, hf3⟩
      rw [heq]
      exact ⟨(by trivial), h3, hf3⟩
  · have e1 : (e != 0) = true := by rw [bne_dec]; simp [he]
    have e2 : decide (e = 0) = false := by simpa using he
    simp only [RS0, RS1, RS2, RS3, RS4, RS5, h.c1, e1, e2, cond_false]
    exact ⟨(by trivial), h, Fm.refl _ _⟩

def ownNow (w : World) (r y : Nat) : Prop := ∃ v, w.heap[r]? = some (.cells #[v] 243) ∧ v.ownBlock = some y
def wrM (w : World) (r y : Nat) : Prop := y = r ∨ ownNow w r y
structure WrAt (w : World) (r : Nat) (B : Bs) : Prop where
  ex : ∃ v, w.heap[r]? = some (.cells #[v] 243) ∧ w.ownsRow 0 5 1 v B.length (bc B)
theorem WrAt.keep {S : Nat → Prop} {w w' : World} {r : Nat} {B : Bs} (h : WrAt w r B) (hf : Fm S w w') (hs : ∀ y, wrM w r y → ¬ S y) : WrAt w' r B ∧ ∀ y, wrM w' r y ↔ wrM w r y := by
  obtain ⟨v, hv, ho⟩ := h.ex
  have hr := hf.heap hv (hs r (.inl rfl))
  refine ⟨⟨v, hr, own_keep ho hf fun k _ _ hk => hs k (.inr ⟨v, hv, hk⟩)⟩, fun y => ?_⟩
  unfold wrM ownNow
  rw [hr, hv]
theorem WrAt.lt {w : World} {r : Nat} {B : Bs} (h : WrAt w r B) : ∀ y, wrM w r y → y < w.heap.size := by
  obtain ⟨v, hv, ho⟩ := h.ex
  rintro y (rfl | ⟨v', hv', hy⟩)
  · exact lt_of_heap hv
  · rw [hv] at hv'; cases hv'; exact (ho.lt y hy).2
theorem bnew_spec (w : World) : Cl Tryz.prog 199 [] w fun v w' => v = pv w.heap.size ∧ WrAt w' w.heap.size [] ∧ (∀ y, wrM w' w.heap.size y → y = w.heap.size) ∧ Fm (fun _ => False) w w' := by
  refine c199 ?_; unfold T199
  refine RunS_ok (bldW w) (New_any ?_)
  intro b w' hb hs hw hf
  subst hb
  refine ⟨rfl, ⟨_, hw, World.ownsRow_nil _ _ _ _⟩, ?_, hf⟩
  rintro y (h | ⟨v, hv, hy⟩)
  · exact h
  · rw [hw] at hv; cases hv; cases hy
theorem bbytes_spec {w : World} {r : Nat} {B : Bs} (h : WrAt w r B) : Cl Tryz.prog 203 [pv r] w fun v w' => v = stv B ∧ w' = w := by
  obtain ⟨v, hv, ho⟩ := h.ex
  refine c203 ?_; unfold T203
  have c0 : w.cell? ⟨r, 0, none⟩ = some v := by rw [cell_at hv]; rfl
  simp only [RS0, RS1, RS2, RS3, RS4, RS5, c0]
  exact RunS_ok (conv_own B38 ho) ⟨rfl, rfl⟩
theorem wput {w : World} {r : Nat} {B : Bs} (h : WrAt w r B) (hl : B.length ≤ 1099511627776) (x : UInt8) {k : KV} (hk : ∀ w', WrAt w' r (B ++ [x]) → Fm (wrM w r) w w' → (∀ y, wrM w' r y → wrM w r y ∨ w.heap.size ≤ y) → k undef w') :
    Pu (nilV (pv r)) fun t22_71 =>
      Pu (faV 0 t22_71) fun t23_72 =>
      Ld w t23_72 fun t24_73 w_74 =>
      RunS Tryz.prog (Instr.buildSlice 123 1 #[(0, .int .u8 x.toNat)]) w_74 fun t28_77 w_78 =>
      RunS Tryz.prog (Builtin.append_ #[123, 123] 123 #[t24_73, t28_77]) w_78 fun t29_79 w_80 =>
      Pu (nilV (pv r)) fun t30_81 =>
      Pu (faV 0 t30_81) fun t31_82 =>
      St 1 w_80 t31_82 t29_79 k := by
  obtain ⟨v, hv, ho⟩ := h.ex
  have c0 : w.cell? ⟨r, 0, none⟩ = some v := by rw [cell_at hv]; rfl
  have hrlt := lt_of_heap hv
  simp only [RS0, RS1, RS2, RS3, RS4, RS5, c0]
  refine append_elF E38w (by omega) 123 (cs := [.int .u8 x.toNat]) rfl (bs38w _ _) (by intro u hu; simp at hu; subst hu; rfl) ho (by unfold maxLen; omega) (by omega) (Nat.zero_le _) ?_
  intro v' w1 ho1 hcase
  try simp only [RS0, RS1, RS2, RS3, RS4, RS5]
  have hvr : ∀ g, v.ownBlock = some g → g ≠ r := by
    rintro g hg rfl
    rcases ho.2 with ⟨rfl, _⟩ | ⟨g', cap, cur, rfl, _, hgg, _⟩
    · cases hg
    · have : g' = g := by simpa [Value.ownBlock] using hg
      subst this
      rw [hv] at hgg; cases hgg
  obtain ⟨S, hfS, hS1, hS2⟩ : ∃ S : Nat → Prop, Fm S w w1 ∧ (∀ y, S y → v.ownBlock = some y) ∧ (∀ g, v'.ownBlock = some g → v.ownBlock = some g ∨ w.heap.size ≤ g) := by
    rcases hcase with ⟨g, k1, k2, k3⟩ | ⟨g, k1, k2, k3⟩
    · exact ⟨_, k3, fun y hy => by rw [hy]; exact k1, fun g' hg' => by rw [k2] at hg'; cases hg'; exact .inl k1⟩
    · exact ⟨_, k3, fun _ e => e.elim, fun g' hg' => by rw [k1] at hg'; cases hg'; exact .inr k2⟩
  have hv1 := hfS.heap hv (fun e => hvr r (hS1 r e) rfl)
  refine St_blk hv1 (by simp) (own_one ho1) ?_
  intro w2 hw2 hs2 hf2
  refine hk w2 ⟨v', hw2, ?_⟩ (hfS.trans hf2 (fun y _ e => .inr ⟨v, hv, hS1 y e⟩) (fun _ _ e => .inl e)) ?_
  · have := own_keep ho1 hf2 (fun g _ _ hg e => by
      have e' : g = r := e
      rw [e'] at hg
      rcases hS2 r hg with h1 | h1
      · exact hvr r h1 rfl
      · omega)
    rw [List.length_append, bc_append]; exact this
  · rintro y (h1 | ⟨v2, hv2, hy⟩)
    · exact .inl (.inl h1)
    · replace hw2 : w2.heap[r]? = some (.cells #[v'] 243) := hw2
      rw [hw2] at hv2; cases hv2
      rcases hS2 y hy with h1 | h1
      · exact .inl (.inr ⟨v, hv, h1⟩)
      · exact .inr h1
theorem u8_wrap_nat (c : Nat) : IntKind.u8.wrap (c : Int) = ((c % 256 : Nat) : Int) := by
  unfold IntKind.wrap; simp [IntKind.bits, IntKind.signed]
def encI (n : Int) : Bs := encN (max n 0).toNat
set_option maxHeartbeats 1000000 in
theorem wnum_spec {w : World} {r : Nat} {B : Bs} (h : WrAt w r B) {v : Value} {ns : List Int} (hns : CellsAt w v ns.length 1 (ns.map iv)) (hblk : ns ≠ [] → ∀ g, blockOf v = some g → ¬ wrM w r g) (hin : ∀ n ∈ ns, n ≤ 9223372036854775807)
    (hl : B.length + 9 * ns.length ≤ 1000000000000) :
    Cl Tryz.prog 200 [pv r, v] w fun u w' => WrAt w' r (B ++ ns.flatMap encI) ∧ Fm (wrM w r) w w' ∧ ∀ y, wrM w' r y → wrM w r y ∨ w.heap.size ≤ y := by
  refine c200 ?_; unfold T200
  simp only [RS0, RS1, RS2, RS3, RS4, RS5, hns.lenV]
  refine ⟨fun vs w2 => ∃ k : Nat, vs = [iv k] ∧ k ≤ ns.length ∧ WrAt w2 r (B ++ (ns.take k).flatMap encI) ∧ Fm (wrM w r) w w2 ∧ (∀ y, wrM w2 r y → wrM w r y ∨ w.heap.size ≤ y), fun vs _ => (ns.length - nth vs 0).toNat, ⟨0, rfl, by omega, by simpa using h, Fm.refl _ _, fun _ h => .inl h⟩, ?_⟩
  rintro _ w2 ik ⟨k, hvs, hk, h2, hf2, hm2⟩
  cases hvs
  have elen : ∀ n ∈ ns, (encI n).length ≤ 9 := fun n hn => (encN_le (by have := hin n hn; omega)).2
  have hfl : ∀ l : List Int, (∀ n ∈ l, (encI n).length ≤ 9) → (l.flatMap encI).length ≤ 9 * l.length := by
    intro l
    induction l with
    | nil => intro _; simp
    | cons n l ih =>
      intro hl
      have := ih (fun m hm => hl m (by simp [hm]))
      have := hl n (by simp)
      simp only [List.flatMap_cons, List.length_append, List.length_cons]; omega
  by_cases hlt : k < ns.length
  · have e1 : decide ((k : Int) < (ns.length : Int)) = true := by rw [decide_eq_true_eq]; omega
    have hx : ns[k]? = some ns[k] := List.getElem?_eq_getElem hlt
    have hmem := List.getElem_mem hlt
    have hxin := hin _ hmem
    have hel := elen _ hmem
    have hpre := hfl (ns.take k) (fun n hn => elen n (List.mem_of_mem_take hn))
    rw [List.length_take, Nat.min_eq_left hk] at hpre
    generalize ns[k] = n at hx hxin hel
    obtain ⟨ad, hix, _, hc⟩ := (hns.keepAny hf2 (fun hne g hg => hblk (fun e => hne (by rw [e]; rfl)) g hg)).at1 (i := k) (x := iv n) (by rw [List.getElem?_map, hx]; rfl) .i64
    have z3 : max2V (iv n) (iv 0) = some (iv (max n 0)) := by
      show some (iv (if (0 : Int) > n then 0 else n)) = _
      congr 2
      split <;> omega
    simp only [RS0, RS1, RS2, RS3, RS4, RS5, e1, hix, hc, foldV0, foldV, z3, Option.bind_some]
    obtain ⟨c0, hc0⟩ := Int.eq_ofNat_of_zero_le (show 0 ≤ max n 0 by omega)
    have henc : encI n = encN c0 := by unfold encI; rw [hc0]; rfl
    rw [hc0]
    have hpl : (B ++ (ns.take k).flatMap encI).length ≤ 999999999991 := by rw [List.length_append]; omega
    rw [henc] at hel
    generalize hP : B ++ (ns.take k).flatMap encI = P at h2 hpl
    refine ⟨fun vs w3 => ∃ (c : Nat) (Q : Bs), vs = [iv c] ∧ c ≤ 9223372036854775807 ∧ WrAt w3 r Q ∧ Q ++ encN c = P ++ encN c0 ∧ Fm (wrM w r) w w3 ∧ (∀ y, wrM w3 r y → wrM w r y ∨ w.heap.size ≤ y), fun vs _ => (nth vs 0).toNat, ⟨c0, P, rfl, by omega, h2, rfl, hf2, hm2⟩, ?_⟩
    rintro _ w3 ic ⟨c, Q, hvs, hcm, h3, hQ, hf3, hm3⟩
    cases hvs
    have hQl : Q.length ≤ 1000000000000 := by
      have := congrArg List.length hQ
      rw [List.length_append, List.length_append] at this
      omega
    by_cases hbig : 127 < c
    · have e2 : decide ((127 : Int) < (c : Int)) = true := by rw [decide_eq_true_eq]; omega
      have e3 : cvI .u8 (iv c) = some (.int .u8 ((c % 256 : Nat) : Int)) := by rw [← u8_wrap_nat]; rfl
      have e4 : orI .u8 ((c % 256 : Nat) : Int) 128 = (((UInt8.ofNat (c % 128 + 128)).toNat : Nat) : Int) := by
        have := or_u8 (c % 256) 128 (by omega) (by decide)
        rw [or128 (by omega), Nat.mod_mod_of_dvd c (by decide)] at this
        rw [u8_ofNat (by omega)]; exact this
      have e5 := shr_nat c 7 (by omega) (TypeDesc.int IntKind.i64) .u64
      simp only [RS0, RS1, RS2, RS3, RS4, RS5, e2, e3, binV_or, e4]
      have key := wput h3 (by omega) (UInt8.ofNat (c % 128 + 128)) (k := fun u_83 w_84 => Pu (binV (TypeDesc.int IntKind.i64) .shr (iv c) (Value.int IntKind.u64 7)) fun t19_85 =>
        (∃ (c : Nat) (Q : Bs), [t19_85] = [iv c] ∧ c ≤ 9223372036854775807 ∧ WrAt w_84 r Q ∧ Q ++ encN c = P ++ encN c0 ∧ Fm (wrM w r) w w_84 ∧ (∀ y, wrM w_84 r y → wrM w r y ∨ w.heap.size ≤ y)) ∧ (nth [t19_85] 0).toNat < (nth [iv (c : Nat)] 0).toNat) (by
          intro w4 h4 hf4 hm4
          have hF4 : Fm (wrM w r) w w4 := hf3.trans hf4 (fun _ _ e => e) (fun y hy e => by rcases hm3 y e with h | h; exact h; omega)
          have hM4 : ∀ y, wrM w4 r y → wrM w r y ∨ w.heap.size ≤ y := fun y hy => by
            rcases hm4 y hy with h | h
            · exact hm3 y h
            · have := hf3.size; exact .inr (by omega)
          have e5' : binV (TypeDesc.int IntKind.i64) .shr (iv c) (Value.int IntKind.u64 7) = some (iv ((c / 2 ^ 7 : Nat) : Int)) := e5
          rw [e5', Pu_some]
          refine ⟨⟨c / 2 ^ 7, _, rfl, by omega, h4, ?_, hF4, hM4⟩, by simp only [nth_0]; omega⟩
          rw [← hQ, encN_big hbig, List.append_assoc]; rfl)
      simp only [RS0, RS1, RS2, RS3, RS4, RS5] at key
      exact key
    · have e2 : decide ((127 : Int) < (c : Int)) = false := by rw [decide_eq_false_iff_not]; omega
      have e3 : cvI .u8 (iv c) = some (.int .u8 (((UInt8.ofNat c).toNat : Nat) : Int)) := by
        rw [u8_ofNat (by omega)]
        have := u8_wrap_nat c
        rw [Nat.mod_eq_of_lt (by omega)] at this
        show some (Value.int .u8 (IntKind.u8.wrap (c : Int))) = _
        rw [this]
      have e6 : IntKind.i64.wrap ((k : Int) + 1) = ((k + 1 : Nat) : Int) := by rw [wrap_id] <;> have := hns.lt <;> unfold maxLen at this <;> omega
      simp only [RS0, RS1, RS2, RS3, RS4, RS5, e2, e3]
      have key := wput h3 (by omega) (UInt8.ofNat c) (k := fun u_97 w_98 => Pu (binV (TypeDesc.int IntKind.i64) .add (iv (k : Nat)) (Value.int IntKind.i64 1)) fun t43_99 =>
        (∃ k : Nat, [t43_99] = [iv k] ∧ k ≤ ns.length ∧ WrAt w_98 r (B ++ (ns.take k).flatMap encI) ∧ Fm (wrM w r) w w_98 ∧ (∀ y, wrM w_98 r y → wrM w r y ∨ w.heap.size ≤ y)) ∧ (ns.length - nth [t43_99] 0).toNat < (ns.length - nth [iv (k : Nat)] 0).toNat) (by
          intro w4 h4 hf4 hm4
          have hF4 : Fm (wrM w r) w w4 := hf3.trans hf4 (fun _ _ e => e) (fun y hy e => by rcases hm3 y e with h | h; exact h; omega)
          have hM4 : ∀ y, wrM w4 r y → wrM w r y ∨ w.heap.size ≤ y := fun y hy => by
            rcases hm4 y hy with h | h
            · exact hm3 y h
            · have := hf3.size; exact .inr (by omega)
          rw [binV_add, Pu_some, e6]
          refine ⟨⟨k + 1, rfl, by omega, ?_, hF4, hM4⟩, by simp only [nth_0]; omega⟩
          have : B ++ (ns.take (k + 1)).flatMap encI = Q ++ [UInt8.ofNat c] := by
            rw [List.take_add_one, hx, List.flatMap_append, ← List.append_assoc, hP]
            show P ++ ([n].flatMap encI) = _
            rw [List.flatMap_cons, List.flatMap_nil, List.append_nil, henc, ← hQ, encN_small (by omega)]
          rw [this]; exact h4)
      simp only [RS0, RS1, RS2, RS3, RS4, RS5] at key
      exact key
  · have hke : k = ns.length := by omega
    subst hke
    have e1 : decide (((ns.length : Nat) : Int) < (ns.length : Int)) = false := by simp
    rw [List.take_length] at h2
    simp only [RS0, RS1, RS2, RS3, RS4, RS5, e1]
    exact ⟨h2, hf2, hm2⟩

end Go.Proofs.YthbngnlmgplijaaGreatDoor

namespace Go.Proofs.YthbngnlmgplijaaGreatDoor
open Go.Al Go.Proofs
set_option linter.unusedVariables false
set_option linter.unusedSimpArgs false
set_option linter.unusedSectionVars false
set_option maxRecDepth 100000

structure Rc where
  lsn : Int
  prev : Int
  next : Int
  kind : Int
  xid : Int
  page : Int
  slot : Int
  old : Int
  new : Int
  redo : Int
  data : Bs
  slots : List Int
  more : List Int
  imgs : List (Int × Pg)
  pages : List (Int × Int)
  txns : List (Int × Int)
  deriving DecidableEq
/-! ### Laid -/
def numsB (l : List Int) : Bs := l.flatMap encI
def txtB (s : Bs) : Bs := encI s.length ++ s
def listB (l : List Int) : Bs := encI l.length ++ numsB l
def trimZ (s : Bs) : Bs := (s.reverse.dropWhile (· == 0)).reverse
def imgB (m : Int × Pg) : Bs := encI m.1 ++ txtB (trimZ (pEnc m.2).1)
def prB (p : Int × Int) : Bs := encI p.1 ++ encI p.2
def headL (r : Rc) : List Int := [r.lsn, r.prev, r.next, r.kind, r.xid, r.page, r.slot, r.old, r.new, r.redo]
def rBody (r : Rc) : Bs := numsB (headL r) ++ txtB r.data ++ listB r.slots ++ listB r.more ++ encI r.imgs.length ++ r.imgs.flatMap imgB ++ encI r.pages.length ++ r.pages.flatMap prB ++ encI r.txns.length ++ r.txns.flatMap prB
def prs (l : List (Int × Int)) : List Int := l.flatMap fun p => [p.1, p.2]
def rNums (r : Rc) : List Int := [r.lsn, r.prev, r.next, r.redo, r.xid, r.page, r.slot, r.old, r.new] ++ r.slots ++ r.more ++ r.imgs.map (·.1) ++ prs r.pages ++ prs r.txns
def badN (n : Int) : Bool := decide (n < 0) || decide (4611686018427387904 < n)
def imgErr : List (Int × Pg) → Int
  | [] => 0
  | m :: l => bif decide (pErr m.2 = 0) then imgErr l else pErr m.2
def rInner (r : Rc) : Bs × Int := bif decide (imgErr r.imgs = 0) then (bif decide (65535 < (rBody r).length) then ([], 3) else (rBody r, 0)) else ([], imgErr r.imgs)
def longR (r : Rc) : Bool := decide (512 < r.data.length) || decide (255 < r.slots.length) || decide (255 < r.more.length) || decide (4 < r.imgs.length) || decide (8192 < r.pages.length) || decide (1024 < r.txns.length)
def rCheck (r : Rc) : Bs × Int :=
  bif decide (r.kind < 1) || decide (13 < r.kind) then ([], 41)
  else bif decide (r.lsn < 1) || (rNums r).any badN then ([], 4)
  else bif longR r then ([], 3) else rInner r
def rEnc (r : Rc) : Bs × Int := bif decide ((rCheck r).2 = 0) then (beN 4 (rCheck r).1.length ++ beN 4 (crc (rCheck r).1) ++ (rCheck r).1, 0) else ([], (rCheck r).2)

/-! ### Read -/
abbrev St2 := Bs × Int
def rn (most : Int) (st : St2) : Int × St2 := rdNum most st.1 st.2
def rt (most : Int) (st : St2) : Bs × St2 :=
  bif decide ((rn most st).2.2 = 0) then (bif decide (((rn most st).2.1.length : Int) < (rn most st).1) then ([], ([], 10)) else ((rn most st).2.1.take (rn most st).1.toNat, ((rn most st).2.1.drop (rn most st).1.toNat, 0))) else ([], (rn most st).2)
def rlGo : Nat → St2 → List Int × St2
  | 0, st => ([], st)
  | n + 1, st => bif decide ((rn 4611686018427387904 st).2.2 = 0) then ((rn 4611686018427387904 st).1 :: (rlGo n (rn 4611686018427387904 st).2).1, (rlGo n (rn 4611686018427387904 st).2).2) else ([(rn 4611686018427387904 st).1], (rn 4611686018427387904 st).2)
def rl (most : Int) (st : St2) : List Int × St2 := rlGo (rn most st).1.toNat (rn most st).2
def padZ (t : Bs) : Bs := t ++ zeros (512 - t.length)
def riGo : Nat → St2 → Option (List (Int × Pg) × St2)
  | 0, st => some ([], st)
  | n + 1, st => bif decide ((pDec (padZ (rt 512 (rn 4611686018427387904 st).2).1)).2 = 0) && decide ((rt 512 (rn 4611686018427387904 st).2).2.2 = 0) then (riGo n (rt 512 (rn 4611686018427387904 st).2).2).map fun r => (((rn 4611686018427387904 st).1, (pDec (padZ (rt 512 (rn 4611686018427387904 st).2).1)).1) :: r.1, r.2) else none
def rpGo : Nat → St2 → Option (List (Int × Int) × St2)
  | 0, st => some ([], st)
  | n + 1, st => bif decide (st.2 = 0) then (rpGo n (rn 4611686018427387904 (rn 4611686018427387904 st).2).2).map fun r => (((rn 4611686018427387904 st).1, (rn 4611686018427387904 (rn 4611686018427387904 st).2).1) :: r.1, r.2) else none
def ten (s : Bs) : List Int × St2 :=
  let a0 := rn 4611686018427387904 (s, 0)
  let a1 := rn 4611686018427387904 a0.2
  let a2 := rn 4611686018427387904 a1.2
  let a3 := rn 13 a2.2
  let a4 := rn 4611686018427387904 a3.2
  let a5 := rn 4611686018427387904 a4.2
  let a6 := rn 4611686018427387904 a5.2
  let a7 := rn 4611686018427387904 a6.2
  let a8 := rn 4611686018427387904 a7.2
  let a9 := rn 4611686018427387904 a8.2
  ([a0.1, a1.1, a2.1, a3.1, a4.1, a5.1, a6.1, a7.1, a8.1, a9.1], a9.2)
def gI (l : List Int) (i : Nat) : Int := l.getD i 0
def tailP (a : List Int) (st : St2) : Option Rc :=
  let t := rt 512 st
  let sl := rl 255 t.2
  let mo := rl 255 sl.2
  let ni := rn 4 mo.2
  (riGo ni.1.toNat ni.2).bind fun im =>
  (rpGo (rn 8192 im.2).1.toNat (rn 8192 im.2).2).bind fun pg =>
  (rpGo (rn 1024 pg.2).1.toNat (rn 1024 pg.2).2).bind fun tx =>
  bif decide (endE tx.2.1 tx.2.2 = 0) then some ⟨gI a 0, gI a 1, gI a 2, gI a 3, gI a 4, gI a 5, gI a 6, gI a 7, gI a 8, gI a 9, t.1, sl.1, mo.1, im.1, pg.1, tx.1⟩ else none
def outerP (s : Bs) : Option Rc := tailP (ten s).1 (ten s).2
def rDec (d : Bs) : Option Rc × Nat × Int :=
  bif decide (d.length < 8) then (none, 0, 40)
  else bif decide (ofN (d.take 4) = 0) || decide (65535 < ofN (d.take 4)) then (none, 0, 41)
  else bif decide (d.length < 8 + ofN (d.take 4)) then (none, 0, 40)
  else bif !decide (ofN ((d.drop 4).take 4) = crc ((d.drop 8).take (ofN (d.take 4)))) then (none, 0, 30)
  else match outerP ((d.drop 8).take (ofN (d.take 4))) with
    | none => (none, 0, 41)
    | some x => bif decide ((rCheck x).2 = 0) && decide ((rCheck x).1 = (d.drop 8).take (ofN (d.take 4))) then (some x, 8 + ofN (d.take 4), 0) else (none, 0, 41)

/-! ### What is laid is read -/
def okN (n : Int) : Prop := 0 ≤ n ∧ n ≤ 4611686018427387904
theorem encI_nat (n : Nat) : encI n = encN n := by
  unfold encI; rw [show (max (n : Int) 0).toNat = n by omega]
theorem rn_enc {n most : Int} (h0 : 0 ≤ n) (h1 : n ≤ most) (hm : most ≤ 4611686018427387904) (t : Bs) : rn most (encI n ++ t, 0) = (n, (t, 0)) := by
  obtain ⟨k, rfl⟩ := Int.eq_ofNat_of_zero_le h0
  unfold rn rdNum
  rw [decide_eq_true rfl, cond_true, encI_nat]
  have := rdN_enc most 9 0 k 0 t (by omega) (by omega) (by omega) (by simp only [Nat.pow_zero, Nat.mul_one, Nat.zero_add]; omega)
  simp only [Nat.pow_zero, Nat.mul_one, Nat.zero_add] at this
  exact this
theorem rt_enc {s : Bs} {most : Int} (h1 : (s.length : Int) ≤ most) (hm : most ≤ 4611686018427387904) (t : Bs) : rt most (txtB s ++ t, 0) = (s, (t, 0)) := by
  have := rn_enc (n := s.length) (most := most) (by omega) h1 hm (s ++ t)
  unfold rt txtB
  rw [List.append_assoc, this]
  simp only [decide_true, cond_true]
  rw [decide_eq_false (by rw [List.length_append]; omega), cond_false, Int.toNat_natCast, List.take_left, List.drop_left]
theorem rlGo_enc : ∀ (l : List Int) (t : Bs), (∀ n ∈ l, okN n) → rlGo l.length (numsB l ++ t, 0) = (l, (t, 0))
  | [], t, _ => rfl
  | n :: l, t, h => by
    have h0 := h n (by simp)
    have ih := rlGo_enc l t (fun m hm => h m (by simp [hm]))
    have e : numsB (n :: l) ++ t = encI n ++ (numsB l ++ t) := by simp [numsB]
    rw [List.length_cons, rlGo, e, rn_enc h0.1 h0.2 (Int.le_refl _)]
    simp only [decide_true, cond_true]
    rw [ih]
theorem rl_enc {l : List Int} {most : Int} (h1 : (l.length : Int) ≤ most) (hm : most ≤ 4611686018427387904) (h : ∀ n ∈ l, okN n) (t : Bs) : rl most (listB l ++ t, 0) = (l, (t, 0)) := by
  unfold rl listB
  rw [List.append_assoc, rn_enc (by omega) h1 hm]
  simp only [Int.toNat_natCast]
  exact rlGo_enc l t h
theorem trim_pad {s : Bs} (h : s.length = 512) : padZ (trimZ s) = s ∧ (trimZ s).length ≤ 512 := by
  have key : ∀ l : Bs, ∃ n, l = List.replicate n 0 ++ l.dropWhile (· == 0) := by
    intro l
    induction l with
    | nil => exact ⟨0, rfl⟩
    | cons x l ih =>
      rw [List.dropWhile_cons]
      by_cases hx : x = 0
      · subst hx
        obtain ⟨n, hn⟩ := ih
        refine ⟨n + 1, ?_⟩
        simp only [beq_self_eq_true, if_true, List.replicate_succ, List.cons_append]
        rw [← hn]
      · refine ⟨0, ?_⟩
        rw [if_neg (by simpa using hx)]; rfl
  obtain ⟨n, hn⟩ := key s.reverse
  have h1 : s = trimZ s ++ zeros n := by
    have := congrArg List.reverse hn
    rw [List.reverse_reverse, List.reverse_append, List.reverse_replicate] at this
    exact this
  have hl := congrArg List.length h1
  rw [List.length_append, zeros_len] at hl
  refine ⟨?_, by omega⟩
  unfold padZ
  rw [show 512 - (trimZ s).length = n by omega]
  exact h1.symm
theorem imgErr_ok {l : List (Int × Pg)} (h : imgErr l = 0) : ∀ m ∈ l, pErr m.2 = 0 := by
  induction l with
  | nil => intro m hm; cases hm
  | cons x l ih =>
    unfold imgErr at h
    cases hx : decide (pErr x.2 = 0) with
    | true =>
      rw [hx, cond_true] at h
      intro m hm
      rcases List.mem_cons.1 hm with rfl | hm
      · simpa using hx
      · exact ih h m hm
    | false =>
      rw [hx, cond_false] at h
      rw [decide_eq_false_iff_not] at hx
      exact absurd h hx
theorem riGo_enc : ∀ (l : List (Int × Pg)) (t : Bs), (∀ m ∈ l, okN m.1 ∧ pErr m.2 = 0 ∧ m.2.lsn ≤ 9223372036854775807) → riGo l.length (l.flatMap imgB ++ t, 0) = some (l, (t, 0))
  | [], t, _ => rfl
  | m :: l, t, h => by
    obtain ⟨h0, h1, h2⟩ := h m (by simp)
    have ih := riGo_enc l t (fun m hm => h m (by simp [hm]))
    have e : (m :: l).flatMap imgB ++ t = encI m.1 ++ (txtB (trimZ (pEnc m.2).1) ++ (l.flatMap imgB ++ t)) := by simp [imgB]
    obtain ⟨e1, e2⟩ := trim_pad (pEnc_len h1)
    rw [List.length_cons, riGo, e, rn_enc h0.1 h0.2 (Int.le_refl _)]
    simp only
    rw [rt_enc (by omega) (by omega)]
    simp only
    rw [e1, dec_enc h1 h2, ih]
    rfl
theorem rpGo_enc : ∀ (l : List (Int × Int)) (t : Bs), (∀ m ∈ l, okN m.1 ∧ okN m.2) → rpGo l.length (l.flatMap prB ++ t, 0) = some (l, (t, 0))
  | [], t, _ => rfl
  | m :: l, t, h => by
    obtain ⟨h0, h1⟩ := h m (by simp)
    have ih := rpGo_enc l t (fun m hm => h m (by simp [hm]))
    have e : (m :: l).flatMap prB ++ t = encI m.1 ++ (encI m.2 ++ (l.flatMap prB ++ t)) := by simp [prB]
    rw [List.length_cons, rpGo, e, rn_enc h0.1 h0.2 (Int.le_refl _)]
    simp only
    rw [rn_enc h1.1 h1.2 (Int.le_refl _), ih]
    rfl
structure Good (r : Rc) : Prop where
  kind : 1 ≤ r.kind ∧ r.kind ≤ 13
  nums : ∀ n ∈ rNums r, okN n
  data : r.data.length ≤ 512
  slots : r.slots.length ≤ 255
  more : r.more.length ≤ 255
  imgs : r.imgs.length ≤ 4
  pages : r.pages.length ≤ 8192
  txns : r.txns.length ≤ 1024
  img : ∀ m ∈ r.imgs, pErr m.2 = 0
  lsns : ∀ m ∈ r.imgs, m.2.lsn ≤ 9223372036854775807
theorem badN_ok {n : Int} (h : badN n = false) : okN n := by
  unfold badN at h
  rw [Bool.or_eq_false_iff, decide_eq_false_iff_not, decide_eq_false_iff_not] at h
  unfold okN; omega
theorem rCheck_ok {r : Rc} (h : (rCheck r).2 = 0) (hl : ∀ m ∈ r.imgs, m.2.lsn ≤ 9223372036854775807) : Good r ∧ 1 ≤ r.lsn ∧ (rCheck r).1 = rBody r ∧ (rBody r).length ≤ 65535 := by
  unfold rCheck at h ⊢
  cases h1 : decide (r.kind < 1) || decide (13 < r.kind) with
  | true => rw [h1, cond_true] at h; cases h
  | false =>
  rw [h1, cond_false] at h
  cases h2 : decide (r.lsn < 1) || (rNums r).any badN with
  | true => rw [h2, cond_true] at h; cases h
  | false =>
  rw [h2, cond_false] at h
  cases h3 : longR r with
  | true => rw [h3, cond_true] at h; cases h
  | false =>
  rw [h3, cond_false] at h
  simp only [cond_false]
  unfold rInner at h ⊢
  cases h4 : decide (imgErr r.imgs = 0) with
  | false =>
    rw [h4, cond_false] at h
    rw [decide_eq_false_iff_not] at h4
    exact absurd h h4
  | true =>
  rw [h4, cond_true] at h
  cases h5 : decide (65535 < (rBody r).length) with
  | true => rw [h5, cond_true] at h; cases h
  | false =>
  simp only [cond_true, cond_false]
  rw [Bool.or_eq_false_iff, decide_eq_false_iff_not, decide_eq_false_iff_not] at h1
  rw [Bool.or_eq_false_iff, decide_eq_false_iff_not] at h2
  simp only [longR, Bool.or_eq_false_iff, decide_eq_false_iff_not] at h3
  rw [decide_eq_true_eq] at h4
  rw [decide_eq_false_iff_not] at h5
  refine ⟨⟨by omega, fun n hn => badN_ok ?_, by omega, by omega, by omega, by omega, by omega, by omega, imgErr_ok h4, hl⟩, by omega, trivial, by omega⟩
  have := List.any_eq_false.1 h2.2 n hn
  simpa using this
theorem mem_prs {l : List (Int × Int)} {p : Int × Int} (h : p ∈ l) : p.1 ∈ prs l ∧ p.2 ∈ prs l := by
  unfold prs
  exact ⟨List.mem_flatMap.2 ⟨p, h, by simp⟩, List.mem_flatMap.2 ⟨p, h, by simp⟩⟩
theorem ten_enc {r : Rc} (h : Good r) (t : Bs) : ten (numsB (headL r) ++ t) = (headL r, (t, 0)) := by
  have hn : ∀ n, n ∈ [r.lsn, r.prev, r.next, r.redo, r.xid, r.page, r.slot, r.old, r.new] → okN n := fun n hm => h.nums n (by unfold rNums; simp only [List.mem_append]; exact .inl (.inl (.inl (.inl (.inl hm)))))
  have e : numsB (headL r) ++ t = encI r.lsn ++ (encI r.prev ++ (encI r.next ++ (encI r.kind ++ (encI r.xid ++ (encI r.page ++ (encI r.slot ++ (encI r.old ++ (encI r.new ++ (encI r.redo ++ t))))))))) := by simp [numsB, headL]
  have hk := h.kind
  have q := fun n hm t => rn_enc (hn n hm).1 (hn n hm).2 (Int.le_refl _) t
  have q0 := q r.lsn (by simp)
  have q1 := q r.prev (by simp)
  have q2 := q r.next (by simp)
  have q4 := q r.xid (by simp)
  have q5 := q r.page (by simp)
  have q6 := q r.slot (by simp)
  have q7 := q r.old (by simp)
  have q8 := q r.new (by simp)
  have q9 := q r.redo (by simp)
  have q3 : ∀ t, rn 13 (encI r.kind ++ t, 0) = (r.kind, (t, 0)) := fun t => rn_enc (by omega) hk.2 (by omega) t
  rw [e]
  simp only [ten, q0, q1, q2, q3, q4, q5, q6, q7, q8, q9]
  rfl
theorem outer_enc {r : Rc} (h : Good r) : outerP (rBody r) = some r := by
  have e : rBody r = numsB (headL r) ++ (txtB r.data ++ (listB r.slots ++ (listB r.more ++ (encI (r.imgs.length : Int) ++ (r.imgs.flatMap imgB ++ (encI (r.pages.length : Int) ++ (r.pages.flatMap prB ++ (encI (r.txns.length : Int) ++ (r.txns.flatMap prB ++ []))))))))) := by simp [rBody]
  have hd := h.data
  have hs := h.slots
  have hm := h.more
  have hi := h.imgs
  have hp := h.pages
  have ht := h.txns
  unfold outerP
  rw [e, ten_enc h]
  simp only [tailP]
  rw [rt_enc (by omega) (by omega)]
  simp only
  rw [rl_enc (by omega) (by omega) (fun n hn => h.nums n (by unfold rNums; simp only [List.mem_append]; exact .inl (.inl (.inl (.inl (.inr hn))))))]
  simp only
  rw [rl_enc (by omega) (by omega) (fun n hn => h.nums n (by unfold rNums; simp only [List.mem_append]; exact .inl (.inl (.inl (.inr hn)))))]
  simp only
  rw [rn_enc (by omega) (by omega) (by omega)]
  simp only [Int.toNat_natCast]
  rw [riGo_enc _ _ (fun m hm => ⟨h.nums _ (by unfold rNums; simp only [List.mem_append]; exact .inl (.inl (.inr (List.mem_map.2 ⟨m, hm, rfl⟩)))), h.img m hm, h.lsns m hm⟩)]
  simp only [Option.bind_some]
  rw [rn_enc (by omega) (by omega) (by omega)]
  simp only [Int.toNat_natCast]
  rw [rpGo_enc _ _ (fun m hm => ⟨h.nums _ (by unfold rNums; simp only [List.mem_append]; exact .inl (.inr (mem_prs hm).1)), h.nums _ (by unfold rNums; simp only [List.mem_append]; exact .inl (.inr (mem_prs hm).2))⟩)]
  simp only [Option.bind_some]
  rw [rn_enc (by omega) (by omega) (by omega)]
  simp only [Int.toNat_natCast]
  rw [rpGo_enc _ _ (fun m hm => ⟨h.nums _ (by unfold rNums; simp only [List.mem_append]; exact .inr (mem_prs hm).1), h.nums _ (by unfold rNums; simp only [List.mem_append]; exact .inr (mem_prs hm).2)⟩)]
  rfl

end Go.Proofs.YthbngnlmgplijaaGreatDoor

namespace Go.Proofs.YthbngnlmgplijaaGreatDoor
open Go.Al Go.Proofs
set_option linter.unusedVariables false
set_option linter.unusedSimpArgs false
set_option linter.unusedSectionVars false
set_option maxRecDepth 100000

theorem E47 : ElemT Tryz.prog 23 3 1 8 := elemT_of Tryz.underlying23 (by kernel_rfl)
theorem cellsV_of {w : World} {ad : Addr} {l : List Value} {n : Nat} (hl : l.length = n) (h : ∀ j, j < n → w.cell? (ad.add j) = l[j]?) : cellsV w ad n = some (.agg l.toArray) := by
  have key : ∀ (m j : Nat), j + m ≤ n → cellsAt w ad j m = some ((l.drop j).take m) := by
    intro m
    induction m with
    | zero => intro j hj; simp [cellsAt]
    | succ m ih =>
      intro j hj
      have hlt : j < l.length := by omega
      have hcell := h j (by omega)
      rw [List.getElem?_eq_getElem hlt] at hcell
      simp only [cellsAt, hcell, ih (j + 1) (by omega), Option.map_some]
      rw [List.drop_eq_getElem_cons hlt, List.take_succ_cons]
  unfold cellsV
  rw [key n 0 (by omega)]
  simp only [List.drop_zero, Option.map_some]
  rw [List.take_of_length_le (by omega)]
theorem flat_get {α : Type} {f : α → List Value} {n : Nat} (hf : ∀ x, (f x).length = n) {L : List α} {i : Nat} {x : α} (h : L[i]? = some x) {j : Nat} (hj : j < n) : (L.flatMap f)[i * n + j]? = (f x)[j]? := by
  induction L generalizing i with
  | nil => simp at h
  | cons y L ih =>
    rw [List.flatMap_cons]
    cases i with
    | zero =>
      simp at h; subst h
      rw [Nat.zero_mul, Nat.zero_add, List.getElem?_append_left (by rw [hf]; exact hj)]
    | succ i =>
      rw [List.getElem?_append_right (by rw [hf, Nat.succ_mul]; omega), hf, Nat.succ_mul]
      rw [show i * n + n + j - n = i * n + j by omega]
      exact ih (by simpa using h)
theorem flat_len {α : Type} {f : α → List Value} {n : Nat} (hf : ∀ x, (f x).length = n) (L : List α) : (L.flatMap f).length = L.length * n := by
  induction L with
  | nil => simp
  | cons y L ih => rw [List.flatMap_cons, List.length_append, hf, ih, List.length_cons, Nat.succ_mul]; omega
theorem cells_ld {α : Type} {f : α → List Value} {n : Nat} (hf : ∀ x, (f x).length = n) (hn : 0 < n) {w : World} {v : Value} {L : List α} (h : CellsAt w v L.length n (L.flatMap f)) {i : Nat} {x : α} (hx : L[i]? = some x) :
    ∃ ad, ixV n v (iv i) = some (.pointer (some ad)) ∧ cellsV w ad n = some (.agg (f x).toArray) ∧ blockOf v = some ad.block := by
  obtain ⟨ad, h1, h2, h3⟩ := h.at hn (List.getElem?_eq_some_iff.1 hx).1 .i64
  exact ⟨ad, h1, cellsV_of (hf x) (fun j hj => by rw [h3 j hj, flat_get hf hx hj]), h2⟩
theorem own_new {w : World} {e : TypeId} {sz base n : Nat} {l : List Value} (hl : l.length = n * sz) (hb : base ≤ w.heap.size) (hn : n ≤ maxLen) : (w.alloc (.cells l.toArray e)).ownsRow base e sz (.slice (some ⟨w.heap.size, 0, none⟩) n n) n l :=
  ⟨hl, .inr ⟨_, n, l.toArray, rfl, hb, alloc_new _ _, Nat.le_refl _, hn, by simp [hl], by simp [← hl]⟩⟩
theorem own_up {w : World} {base base' : Nat} {e : TypeId} {sz : Nat} {v : Value} {n : Nat} {xs : List Value} (h : w.ownsRow base e sz v n xs) (hb : ∀ k, v.ownBlock = some k → base' ≤ k) : w.ownsRow base' e sz v n xs := by
  refine ⟨h.1, ?_⟩
  rcases h.2 with h2 | ⟨g, cap, cur, rfl, hb', r⟩
  · exact .inl h2
  · exact .inr ⟨g, cap, cur, rfl, hb g rfl, r⟩

/-! ### A record -/
def pc2 (p : Int × Int) : List Value := [iv p.1, iv p.2]
theorem pc2_len (p : Int × Int) : (pc2 p).length = 2 := rfl
theorem pc2_prs (l : List (Int × Int)) : l.flatMap pc2 = (prs l).map iv := by
  induction l with
  | nil => rfl
  | cons p l ih => rw [List.flatMap_cons, ih]; rfl
def imC (x : Int × Pg × Value) : List Value := iv x.1 :: (pcs x.2.1 x.2.2).toList
theorem imC_len (x : Int × Pg × Value) : (imC x).length = 7 := rfl
def rcs (r : Rc) (vs vm vi vp vt : Value) : Array Value := #[iv r.lsn, iv r.prev, iv r.next, .int .u8 r.kind, iv r.xid, iv r.page, iv r.slot, iv r.old, iv r.new, iv r.redo, stv r.data, vs, vm, vi, vp, vt]
structure ImAs (w : World) (v : Value) (L : List (Int × Pg)) : Prop where
  ex : ∃ X : List (Int × Pg × Value), X.map (fun x => (x.1, x.2.1)) = L ∧ CellsAt w v X.length 7 (X.flatMap imC) ∧ ∀ x ∈ X, x.2.2.oneCell' = true ∧ PgAs w (pcs x.2.1 x.2.2) x.2.1
theorem ImAs.keep {w w' : World} {v : Value} {L : List (Int × Pg)} (h : ImAs w v L) (hf : Fm (fun _ => False) w w') : ImAs w' v L := by
  obtain ⟨X, h1, h2, h3⟩ := h.ex
  exact ⟨X, h1, h2.keep hf (fun _ _ e => e), fun x hx => ⟨(h3 x hx).1, (h3 x hx).2.keep hf⟩⟩
theorem ImAs.lenV {w : World} {v : Value} {L : List (Int × Pg)} (h : ImAs w v L) : lenV v = some (iv L.length) := by
  obtain ⟨X, h1, h2, h3⟩ := h.ex
  rw [← h1, List.length_map]; exact h2.lenV
theorem ImAs.ld {w : World} {v : Value} {L : List (Int × Pg)} (h : ImAs w v L) {i : Nat} {m : Int × Pg} (hi : L[i]? = some m) : ∃ ad u, ixV 7 v (iv i) = some (.pointer (some ad)) ∧ cellsV w ad 7 = some (.agg (imC (m.1, m.2, u)).toArray) ∧ u.oneCell' = true ∧ PgAs w (pcs m.2 u) m.2 := by
  obtain ⟨X, h1, h2, h3⟩ := h.ex
  rw [← h1, List.getElem?_map, Option.map_eq_some_iff] at hi
  obtain ⟨x, hx, rfl⟩ := hi
  obtain ⟨ad, q1, q2, _⟩ := cells_ld imC_len (by omega) h2 hx
  obtain ⟨q3, q4⟩ := h3 x (List.mem_of_getElem? hx)
  exact ⟨ad, x.2.2, q1, q2, q3, q4⟩
structure RcAs (w : World) (cs : Array Value) (r : Rc) : Prop where
  ex : ∃ vs vm vi vp vt, cs = rcs r vs vm vi vp vt ∧ (vs.oneCell' = true ∧ vm.oneCell' = true ∧ vi.oneCell' = true ∧ vp.oneCell' = true ∧ vt.oneCell' = true) ∧ CellsAt w vs r.slots.length 1 (r.slots.map iv) ∧ CellsAt w vm r.more.length 1 (r.more.map iv) ∧ ImAs w vi r.imgs ∧
    CellsAt w vp r.pages.length 2 (r.pages.flatMap pc2) ∧ CellsAt w vt r.txns.length 2 (r.txns.flatMap pc2)
  ins : ∀ n ∈ rNums r, In n
  kin : 0 ≤ r.kind ∧ r.kind ≤ 255
  data : r.data.length ≤ 140737488355328
  bulk : r.slots.length + r.more.length + r.imgs.length + r.pages.length + r.txns.length ≤ 2000000
  lsns : ∀ m ∈ r.imgs, m.2.lsn ≤ 9223372036854775807
theorem RcAs.keep {w w' : World} {cs : Array Value} {r : Rc} (h : RcAs w cs r) (hf : Fm (fun _ => False) w w') : RcAs w' cs r := by
  obtain ⟨vs, vm, vi, vp, vt, h1, h2, h3, h4, h5, h6, h7⟩ := h.ex
  exact ⟨⟨vs, vm, vi, vp, vt, h1, h2, h3.keep hf (fun _ _ e => e), h4.keep hf (fun _ _ e => e), h5.keep hf, h6.keep hf (fun _ _ e => e), h7.keep hf (fun _ _ e => e)⟩, h.ins, h.kin, h.data, h.bulk, h.lsns⟩
theorem RcAs.size {w : World} {cs : Array Value} {r : Rc} (h : RcAs w cs r) : cs.size = 16 := by obtain ⟨vs, vm, vi, vp, vt, rfl, _⟩ := h.ex; rfl
theorem RcAs.one {w : World} {cs : Array Value} {r : Rc} (h : RcAs w cs r) : ∀ u ∈ cs.toList, u.oneCell' = true := by
  obtain ⟨vs, vm, vi, vp, vt, rfl, ⟨h1, h2, h3, h4, h5⟩, _⟩ := h.ex
  intro u hu
  simp [rcs] at hu
  rcases hu with rfl | rfl | rfl | rfl | rfl | rfl | rfl | rfl | rfl | rfl | rfl | rfl | rfl | rfl | rfl | rfl <;> first | rfl | assumption
structure RB (w : World) (g : Nat) (r : Rc) (vs vm vi vp vt : Value) : Prop where
  h : w.heap[g]? = some (.cells (rcs r vs vm vi vp vt) 28)
section
variable {S : Nat → Prop} {w w' : World} {g : Nat} {r : Rc} {vs vm vi vp vt : Value}
theorem RB.keep (h : RB w g r vs vm vi vp vt) (hf : Fm S w w') (hs : ¬ S g) : RB w' g r vs vm vi vp vt := ⟨hf.heap h.h hs⟩
theorem RB.c0 (h : RB w g r vs vm vi vp vt) : w.cell? ⟨g, 0, none⟩ = some (iv r.lsn) := by rw [cell_at h.h]; rfl
theorem RB.c1 (h : RB w g r vs vm vi vp vt) : w.cell? ⟨g, 1, none⟩ = some (iv r.prev) := by rw [cell_at h.h]; rfl
theorem RB.c2 (h : RB w g r vs vm vi vp vt) : w.cell? ⟨g, 2, none⟩ = some (iv r.next) := by rw [cell_at h.h]; rfl
theorem RB.c3 (h : RB w g r vs vm vi vp vt) : w.cell? ⟨g, 3, none⟩ = some (.int .u8 r.kind) := by rw [cell_at h.h]; rfl
theorem RB.c4 (h : RB w g r vs vm vi vp vt) : w.cell? ⟨g, 4, none⟩ = some (iv r.xid) := by rw [cell_at h.h]; rfl
theorem RB.c5 (h : RB w g r vs vm vi vp vt) : w.cell? ⟨g, 5, none⟩ = some (iv r.page) := by rw [cell_at h.h]; rfl
theorem RB.c6 (h : RB w g r vs vm vi vp vt) : w.cell? ⟨g, 6, none⟩ = some (iv r.slot) := by rw [cell_at h.h]; rfl
theorem RB.c7 (h : RB w g r vs vm vi vp vt) : w.cell? ⟨g, 7, none⟩ = some (iv r.old) := by rw [cell_at h.h]; rfl
theorem RB.c8 (h : RB w g r vs vm vi vp vt) : w.cell? ⟨g, 8, none⟩ = some (iv r.new) := by rw [cell_at h.h]; rfl
theorem RB.c9 (h : RB w g r vs vm vi vp vt) : w.cell? ⟨g, 9, none⟩ = some (iv r.redo) := by rw [cell_at h.h]; rfl
theorem RB.c10 (h : RB w g r vs vm vi vp vt) : w.cell? ⟨g, 10, none⟩ = some (stv r.data) := by rw [cell_at h.h]; rfl
theorem RB.c11 (h : RB w g r vs vm vi vp vt) : w.cell? ⟨g, 11, none⟩ = some vs := by rw [cell_at h.h]; rfl
theorem RB.c12 (h : RB w g r vs vm vi vp vt) : w.cell? ⟨g, 12, none⟩ = some vm := by rw [cell_at h.h]; rfl
theorem RB.c13 (h : RB w g r vs vm vi vp vt) : w.cell? ⟨g, 13, none⟩ = some vi := by rw [cell_at h.h]; rfl
theorem RB.c14 (h : RB w g r vs vm vi vp vt) : w.cell? ⟨g, 14, none⟩ = some vp := by rw [cell_at h.h]; rfl
theorem RB.c15 (h : RB w g r vs vm vi vp vt) : w.cell? ⟨g, 15, none⟩ = some vt := by rw [cell_at h.h]; rfl
theorem RB.all (h : RB w g r vs vm vi vp vt) : cellsV w ⟨g, 0, none⟩ 16 = some (.agg (rcs r vs vm vi vp vt)) := cellsV_blk h.h rfl
theorem RB.lt (h : RB w g r vs vm vi vp vt) : g < w.heap.size := lt_of_heap h.h
end

/-! ### A writer of the call's own -/
structure WS (w0 w : World) (r : Nat) (B : Bs) : Prop where
  ex : ∃ v, w.heap[r]? = some (.cells #[v] 243) ∧ w.ownsRow w0.heap.size 5 1 v B.length (bc B)
  fm : Fm (fun _ => False) w0 w
  ge : w0.heap.size ≤ r
theorem WS.wr {w0 w : World} {r : Nat} {B : Bs} (h : WS w0 w r B) : WrAt w r B ∧ ∀ y, wrM w r y → w0.heap.size ≤ y ∧ y < w.heap.size := by
  obtain ⟨v, hv, ho⟩ := h.ex
  refine ⟨⟨v, hv, own_base ho (Nat.zero_le _)⟩, ?_⟩
  rintro y (rfl | ⟨v', hv', hy⟩)
  · exact ⟨h.ge, lt_of_heap hv⟩
  · rw [hv] at hv'; cases hv'; exact own_lt ho y hy
theorem WS.of {w0 w w' : World} {r : Nat} {B B' : Bs} {S : Nat → Prop} (h : WS w0 w r B) (h' : WrAt w' r B') (hf : Fm S w w') (hS : ∀ y, S y → w0.heap.size ≤ y) (hM : ∀ y, wrM w' r y → wrM w r y ∨ w.heap.size ≤ y) : WS w0 w' r B' := by
  obtain ⟨v, hv, ho⟩ := h'.ex
  have hz := h.fm.size
  refine ⟨⟨v, hv, own_up ho (fun k hk => ?_)⟩, Fm.own h.fm hf hS, h.ge⟩
  rcases hM k (.inr ⟨v, hv, hk⟩) with e | e
  · exact (h.wr.2 k e).1
  · omega
theorem WS.keep {w0 w w' : World} {r : Nat} {B : Bs} (h : WS w0 w r B) (hf : Fm (fun _ => False) w w') : WS w0 w' r B := by
  obtain ⟨v, hv, ho⟩ := h.ex
  exact ⟨⟨v, hf.heap hv (fun e => e), own_keep ho hf (fun _ _ _ _ e => e)⟩, Fmf h.fm hf, h.ge⟩
theorem WS.new {w0 w : World} (hf : Fm (fun _ => False) w0 w) {k : KV} (hk : ∀ w' r, WS w0 w' r [] → Fm (fun _ => False) w w' → k (pv r) w') : Cl Tryz.prog 199 [] w k := by
  refine (bnew_spec w).mono ?_
  rintro _ w' ⟨rfl, h1, h2, h3⟩
  have hz := hf.size
  obtain ⟨v, hv, ho⟩ := h1.ex
  refine hk w' _ ⟨⟨v, hv, own_up ho (fun k hk => ?_)⟩, Fmf hf h3, hz⟩ h3
  have := h2 k (.inr ⟨v, hv, hk⟩)
  omega
theorem WS.num {w0 w : World} {r : Nat} {B : Bs} (h : WS w0 w r B) {v : Value} {ns : List Int} (hns : CellsAt w v ns.length 1 (ns.map iv)) (hb : ns ≠ [] → ∀ g, blockOf v = some g → g < w0.heap.size) (hin : ∀ n ∈ ns, n ≤ 9223372036854775807) (hl : B.length + 9 * ns.length ≤ 1000000000000) {k : KV}
    (hk : ∀ u w', WS w0 w' r (B ++ numsB ns) → k u w') : Cl Tryz.prog 200 [pv r, v] w k := by
  obtain ⟨hw, hm⟩ := h.wr
  refine (wnum_spec hw hns (fun hne g hg e => by have := hb hne g hg; have := (hm g e).1; omega) hin hl).mono ?_
  rintro u w' ⟨h1, h2, h3⟩
  exact hk u w' (h.of h1 h2 (fun y hy => (hm y hy).1) h3)
theorem WS.lit {w0 w : World} {r n : Nat} {B : Bs} (h : WS w0 w r B) {ns : List Int} {items : Array (Nat × Value)} (hb : (Instr.buildSlice 23 n items).run Tryz.prog w = .ok (.slice (some ⟨w.heap.size, 0, none⟩) n n) (w.alloc (.cells (ns.map iv).toArray 3))) (hn : ns.length = n) (hin : ∀ n ∈ ns, n ≤ 9223372036854775807) (hl : B.length + 9 * n ≤ 1000000000000) {k : KV}
    (hk : ∀ u w', WS w0 w' r (B ++ numsB ns) → k u w') : RunS Tryz.prog (Instr.buildSlice 23 n items) w fun t w1 => Cl Tryz.prog 200 [pv r, t] w1 k := by
  refine RunS_ok hb ?_
  subst hn
  have hf := Fm.alloc (fun _ => False) w (.cells (ns.map iv).toArray 3)
  have ho := own_new (w := w) (e := 3) (sz := 1) (base := w.heap.size) (n := ns.length) (l := ns.map iv) (by simp) (Nat.le_refl _) (by unfold maxLen; omega)
  have h1 := h.keep hf
  obtain ⟨hw, hm⟩ := h.wr
  generalize w.alloc (.cells (ns.map iv).toArray 3) = w1 at hf ho h1
  obtain ⟨hw1, hm1⟩ := h1.wr
  have hsame : ∀ y, wrM w1 r y → y < w.heap.size := fun y hy => by
    obtain ⟨_, e⟩ := hw.keep hf (fun _ _ e => e)
    exact hw.lt y ((e y).1 hy)
  refine (wnum_spec hw1 (CellsAt.of_own ho) (fun hne g hg e => ?_) hin hl).mono ?_
  · have h0 := hsame g e
    have h1 : g = w.heap.size := (Option.some.inj hg).symm
    omega
  · rintro u w' ⟨g1, g2, g3⟩
    exact hk u w' (h1.of g1 g2 (fun y hy => (hm1 y hy).1) g3)
theorem bs47_1 (a : Int) (w : World) : (Instr.buildSlice 23 1 #[(0, iv a)]).run Tryz.prog w = .ok (.slice (some ⟨w.heap.size, 0, none⟩) 1 1) (w.alloc (.cells ([a].map iv).toArray 3)) := by kernel_rfl
theorem bs47_2 (a b : Int) (w : World) : (Instr.buildSlice 23 2 #[(0, iv a), (1, iv b)]).run Tryz.prog w = .ok (.slice (some ⟨w.heap.size, 0, none⟩) 2 2) (w.alloc (.cells ([a, b].map iv).toArray 3)) := by kernel_rfl
theorem bs47_9 (a b c d e f g h i : Int) (w : World) : (Instr.buildSlice 23 9 #[(0, iv a), (1, iv b), (2, iv c), (3, iv d), (4, iv e), (5, iv f), (6, iv g), (7, iv h), (8, iv i)]).run Tryz.prog w = .ok (.slice (some ⟨w.heap.size, 0, none⟩) 9 9) (w.alloc (.cells ([a, b, c, d, e, f, g, h, i].map iv).toArray 3)) := by kernel_rfl
theorem bs47_10 (a b c d e f g h i j : Int) (w : World) : (Instr.buildSlice 23 10 #[(0, iv a), (1, iv b), (2, iv c), (3, iv d), (4, iv e), (5, iv f), (6, iv g), (7, iv h), (8, iv i), (9, iv j)]).run Tryz.prog w = .ok (.slice (some ⟨w.heap.size, 0, none⟩) 10 10) (w.alloc (.cells ([a, b, c, d, e, f, g, h, i, j].map iv).toArray 3)) := by kernel_rfl
theorem numsB1 (a : Int) : numsB [a] = encI a := by simp [numsB]
theorem encI_len {n : Int} (h : n ≤ 9223372036854775807) : (encI n).length ≤ 9 := by unfold encI; exact (encN_le (by omega)).2
theorem numsB_len : ∀ {l : List Int}, (∀ n ∈ l, n ≤ 9223372036854775807) → (numsB l).length ≤ 9 * l.length
  | [], _ => by simp [numsB]
  | n :: l, h => by
    have := numsB_len (l := l) (fun m hm => h m (by simp [hm]))
    have := encI_len (h n (by simp))
    unfold numsB at *
    rw [List.flatMap_cons, List.length_append, List.length_cons]; omega
set_option maxHeartbeats 1000000 in
theorem WS.text {w0 w : World} {r : Nat} {B : Bs} (h : WS w0 w r B) {s : Bs} (hs : s.length ≤ 1000000) (hl : B.length + 9 + s.length ≤ 1000000000) {k : KV} (hk : ∀ u w', WS w0 w' r (B ++ txtB s) → k u w') : Cl Tryz.prog 201 [pv r, stv s] w k := by
  refine c201 ?_; unfold T201
  simp only [RS0, RS1, RS2, RS3, RS4, RS5, str_size]
  refine h.lit (bs47_1 _ _) rfl (by intro n hn; simp at hn; omega) (by omega) ?_
  intro u w1 h1
  rw [numsB1] at h1
  obtain ⟨v, hv, ho⟩ := h1.ex
  have c0 : w1.cell? ⟨r, 0, none⟩ = some v := by rw [cell_at hv]; rfl
  have hel := encI_len (n := s.length) (by omega)
  have hz := h1.fm.size
  simp only [RS0, RS1, RS2, RS3, RS4, RS5, c0]
  obtain ⟨v', w2, hr2, ho2, hf2, _⟩ := append_text B38 ho s 123 (by rw [List.length_append]; omega) hz
  refine RunS_ok hr2 ?_
  have hne : v.ownBlock ≠ some r := fun e => by
    rcases ho.2 with ⟨rfl, _⟩ | ⟨g, cap, cur, rfl, _, hg, _⟩
    · cases e
    · have : g = r := by simpa [Value.ownBlock] using e
      subst this
      rw [hv] at hg; cases hg
  have hlt := own_lt ho
  refine St_blk (hf2.heap hv hne) (by show 0 < 1; decide) (own_one ho2) ?_
  intro w3 hw3 hs3 hf3
  replace hw3 : w3.heap[r]? = some (.cells #[v'] 243) := hw3
  have ho3 : w3.ownsRow w0.heap.size 5 1 v' _ _ := own_keep ho2 hf3 (fun g _ _ hg e => by
    rcases ho2.2 with ⟨rfl, _⟩ | ⟨g', cap, cur, rfl, _, hgg, _⟩
    · cases hg
    · have e1 : g' = g := by simpa [Value.ownBlock] using hg
      rw [e1, e] at hgg
      rw [hf2.heap hv hne] at hgg; cases hgg)
  refine hk _ _ ⟨⟨v', hw3, ?_⟩, Fm.own (Fm.own h1.fm hf2 (fun y hy => (hlt y hy).1)) hf3 (by rintro y rfl; exact h1.ge), h1.ge⟩
  have e1 : (B ++ txtB s) = (B ++ encI s.length) ++ s := by simp [txtB]
  rw [e1]
  have e2 : ((B ++ encI s.length) ++ s).length = (B ++ encI s.length).length + s.length := List.length_append
  rw [e2]
  exact ho3

end Go.Proofs.YthbngnlmgplijaaGreatDoor
