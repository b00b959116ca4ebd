/- Which page bytes are: the program's and the document's. -/
import Derived.Test.YthbngnlmgplijaaGreatDoorPgEnc
namespace Go.Proofs.YthbngnlmgplijaaGreatDoor
open Go.Al Go.Proofs
set_option linter.unusedVariables false
set_option linter.unusedSimpArgs false
set_option linter.unusedSectionVars false
set_option maxRecDepth 100000

/-! ### A page whose list is the call's own -/
structure PgOw (w : World) (base : Nat) (cs : Array Value) (p : Pg) : Prop where
  ex : ∃ v, cs = pcs p v ∧ w.ownsRow base 9 1 v p.items.length (p.items.map stv)
  small : ∀ x ∈ p.items, x.length ≤ 140737488355328
  ins : In p.lsn ∧ In p.kind ∧ In p.level ∧ In p.right ∧ p.high.length ≤ 140737488355328 ∧ p.items.length * 16 ≤ 140737488355328
theorem PgOw.as {w : World} {base : Nat} {cs : Array Value} {p : Pg} (h : PgOw w base cs p) : PgAs w cs p := by
  obtain ⟨v, h1, h2⟩ := h.ex
  exact ⟨⟨v, h1, own_one h2, CellsAt.of_own h2⟩, h.small, h.ins⟩
theorem PgOw.base {w : World} {base base' : Nat} {cs : Array Value} {p : Pg} (h : PgOw w base cs p) (hb : base' ≤ base) : PgOw w base' cs p := by
  obtain ⟨v, h1, h2⟩ := h.ex
  exact ⟨⟨v, h1, own_base h2 hb⟩, h.small, h.ins⟩
theorem PgOw.keep {w w' : World} {base : Nat} {cs : Array Value} {p : Pg} (h : PgOw w base cs p) (hf : Fm (fun _ => False) w w') : PgOw w' base cs p := by
  obtain ⟨v, h1, h2⟩ := h.ex
  exact ⟨⟨v, h1, own_keep h2 hf (fun _ _ _ _ e => e)⟩, h.small, h.ins⟩
theorem PgOw.zero (w : World) (base : Nat) : PgOw w base (pcs pg0 (.slice none 0 0)) pg0 := ⟨⟨_, rfl, World.ownsRow_nil _ _ _ _⟩, by simp [pg0], by simp [pg0, In]⟩

theorem bld24z (w : World) : (Instr.build 61 #[]).run Tryz.prog w = .ok (.agg (pcs pg0 (.slice none 0 0))) w := by kernel_rfl
theorem bld24a (a b c d : Int) (w : World) : (Instr.build 61 #[(0, iv a), (1, iv b), (2, iv c), (3, iv d)]).run Tryz.prog w = .ok (.agg (pcs ⟨a, b, c, d, [], []⟩ (.slice none 0 0))) w := by kernel_rfl
theorem agg24 : aggB Tryz.prog 61 = some true := by kernel_rfl
theorem size24 : sizeB Tryz.prog 61 = some 6 := by kernel_rfl
theorem retPg {w : World} {g i j : Nat} {cs : Array Value} {u : Value} (h : w.heap[g]? = some (.cells cs 61)) (hn : cs.size = 6) {f : Fr} (hf : f i = pv g) (hj : f j = u) (k : KV) (hk : k (.tuple #[.agg cs, u]) w) : RetO (resL Tryz.prog f w [.cell i 61, .tmp j]) w k := by
  have hj' : resV Tryz.prog f w (.tmp j) = some u := by simp only [resV, hj]
  simp only [resL, resV_blk hf agg24 size24 h hn, hj', RetO, RetV]; exact hk
theorem ixS_getD {d : Bs} {k : Nat} (h : k < d.length) : ixS (stv d) (.int .i64 k) = some (.int .u8 ((d.getD k 0).toNat : Nat)) := by
  have : d[k]? = some (d.getD k 0) := by rw [List.getD_eq_getElem?_getD, List.getElem?_eq_getElem h]; rfl
  exact ixS_str this .i64
theorem u8_i64 (b : UInt8) : IntKind.i64.wrap (b.toNat : Nat) = ((b.toNat : Nat) : Int) := by have := b.toNat_lt; exact wrap_nat (by omega)

/-! ### cut -/
def SB (w : World) (g : Nat) (s : Bs) : Prop := w.heap[g]? = some (.cells #[stv s] 9)
theorem SB.keep {S : Nat → Prop} {w w' : World} {g : Nat} {s : Bs} (h : SB w g s) (hf : Fm S w w') (hs : ¬ S g) : SB w' g s := hf.heap h hs
theorem SB.c {w : World} {g : Nat} {s : Bs} (h : SB w g s) : w.cell? ⟨g, 0, none⟩ = some (stv s) := by rw [cell_at h]; rfl
theorem cut_spec {w : World} {g : Nat} {s : Bs} (h : SB w g s) (n : Nat) : Cl Tryz.prog 116 [pv g, iv n] w fun r w' => r = .tuple #[stv (bif decide (n ≤ s.length) then s.take n else []), .bool (decide (n ≤ s.length))] ∧ SB w' g (bif decide (n ≤ s.length) then s.drop n else s) ∧ Fm (· = g) w w' := by
  refine c116 ?_; unfold T116
  have d1 : decide ((s.length : Int) < (n : Int)) = !decide (n ≤ s.length) := by
    by_cases hn : n ≤ s.length
    · simp [hn]
    · simp [hn]; omega
  simp only [RS0, RS1, RS2, RS3, RS4, RS5, h.c, str_size, d1]
  cases hd : decide (n ≤ s.length) with
  | false =>
    simp only [RS0, RS1, RS2, RS3, RS4, RS5]
    exact ⟨(by trivial), h, Fm.refl _ _⟩
  | true =>
    rw [decide_eq_true_eq] at hd
    simp only [RS0, RS1, RS2, RS3, RS4, RS5, h.c, slS_hi hd .i64, slS_lo hd .i64]
    refine St_blk h (by show 0 < 1; decide) rfl ?_
    intro w2 hw2 hs2 hf2
    exact ⟨rfl, hw2, hf2⟩

/-! ### What bytes give -/
theorem pDec_len {d : Bs} (h : d.length ≠ 512) : pDec d = (pg0, 31) := by
  unfold pDec
  rw [show decide (d.length ≠ 512) = true by simpa using h]; rfl
theorem pDec_sum {d : Bs} (h : d.length = 512) (h2 : beN 4 (crc (d.drop 4)) ≠ d.take 4) : pDec d = (pg0, 30) := by
  unfold pDec
  rw [show decide (d.length ≠ 512) = false by simpa using h, show decide (beN 4 (crc (d.drop 4)) ≠ d.take 4) = true by rw [decide_eq_true_eq]; exact h2]; rfl
theorem pDec_none {d : Bs} (h : d.length = 512) (h2 : beN 4 (crc (d.drop 4)) = d.take 4) (h3 : pItems (dMany d) (dRest d) = none) : pDec d = (pg0, 31) := by
  unfold pDec
  rw [show decide (d.length ≠ 512) = false by simpa using h, show decide (beN 4 (crc (d.drop 4)) ≠ d.take 4) = false by rw [decide_eq_false_iff_not]; exact fun e => e h2, h3]; rfl
def badD (d t : Bs) : Bool := decide (t ≠ zeros t.length) || decide (127 < (d.getD 4 0).toNat) || decide (dKind d < 1) || decide (3 < dKind d)
def headP (d : Bs) (l : List Bs) : Pg := ⟨(dLsn d % 2 ^ 63 : Nat), dKind d, dLevel d, dRight d, dHigh d, l⟩
theorem pDec_some {d : Bs} (h : d.length = 512) (h2 : beN 4 (crc (d.drop 4)) = d.take 4) {l : List Bs} {t : Bs} (h3 : pItems (dMany d) (dRest d) = some (l, t)) : pDec d = bif badD d t then (pg0, 31) else (headP d l, 0) := by
  unfold pDec
  rw [show decide (d.length ≠ 512) = false by simpa using h, show decide (beN 4 (crc (d.drop 4)) ≠ d.take 4) = false by rw [decide_eq_false_iff_not]; exact fun e => e h2, h3]
  have : badD d t = decide (t ≠ zeros t.length ∨ 127 < (d.getD 4 0).toNat ∨ dKind d < 1 ∨ 3 < dKind d) := by
    unfold badD
    simp only [Bool.decide_or, Bool.or_assoc]
  rw [this]; rfl
theorem headP_in {d : Bs} (h : d.length = 512) {l : List Bs} (hl : l.length ≤ 255) : In (headP d l).lsn ∧ In (headP d l).kind ∧ In (headP d l).level ∧ In (headP d l).right ∧ (headP d l).high.length ≤ 140737488355328 ∧ (headP d l).items.length * 16 ≤ 140737488355328 := by
  have h1 : dKind d < 256 := UInt8.toNat_lt _
  have h2 : dLevel d < 256 := UInt8.toNat_lt _
  have h3 : dRight d < 256 ^ 4 := ofB_lt 4 _ (by rw [List.length_take, List.length_drop]; omega)
  have h4 : (dHigh d).length ≤ 512 := by unfold dHigh; rw [List.length_take, List.length_drop]; omega
  unfold headP In
  simp only
  omega

/-- The items that are read, one after the other. -/
theorem pItems_succ (n : Nat) (s : Bs) : pItems (n + 1) s = bif decide (2 ≤ s.length) && decide (ofB (s.take 2) ≤ (s.drop 2).length) then (pItems n ((s.drop 2).drop (ofB (s.take 2)))).map (fun x => ((s.drop 2).take (ofB (s.take 2)) :: x.1, x.2)) else none := by
  rw [pItems]
  by_cases h1 : s.length < 2
  · simp [h1, show ¬ 2 ≤ s.length by omega]
  · by_cases h2 : (s.drop 2).length < ofB (s.take 2)
    · have e2 : decide (ofB (s.take 2) ≤ (s.drop 2).length) = false := by rw [decide_eq_false_iff_not]; omega
      have e3 : decide (s.length < 2) = false := by rw [decide_eq_false_iff_not]; exact h1
      have e4 : decide ((s.drop 2).length < ofB (s.take 2)) = true := by rw [decide_eq_true_eq]; exact h2
      rw [e2, e3, e4, Bool.and_false]; rfl
    · have e1 : decide (2 ≤ s.length) = true := by rw [decide_eq_true_eq]; omega
      have e2 : decide (ofB (s.take 2) ≤ (s.drop 2).length) = true := by rw [decide_eq_true_eq]; omega
      have e3 : decide (s.length < 2) = false := by rw [decide_eq_false_iff_not]; exact h1
      have e4 : decide ((s.drop 2).length < ofB (s.take 2)) = false := by rw [decide_eq_false_iff_not]; exact h2
      rw [e1, e2, e3, e4]; rfl
/-- What stands after i items: those taken, the rest. -/
def Mid (d : Bs) (i : Nat) (l : List Bs) (s : Bs) : Prop := l.length = i ∧ (∀ x ∈ l, x.length ≤ 512) ∧ s.length ≤ 492 ∧ pItems (dMany d) (dRest d) = (pItems (dMany d - i) s).map (fun x => (l ++ x.1, x.2))
theorem Mid.zero {d : Bs} (h : d.length = 512) : Mid d 0 [] (dRest d) := by
  refine ⟨rfl, by simp, ?_, ?_⟩
  · unfold dRest; simp only [List.length_drop]; omega
  · rw [Nat.sub_zero]
    cases pItems (dMany d) (dRest d) <;> simp
theorem Mid.next {d : Bs} {i : Nat} {l : List Bs} {s : Bs} (h : Mid d i l s) (hi : i < dMany d) (h1 : 2 ≤ s.length) (h2 : ofB (s.take 2) ≤ (s.drop 2).length) : Mid d (i + 1) (l ++ [(s.drop 2).take (ofB (s.take 2))]) ((s.drop 2).drop (ofB (s.take 2))) := by
  obtain ⟨a, b, c, e⟩ := h
  refine ⟨by simp [a], ?_, ?_, ?_⟩
  · intro x hx
    rcases List.mem_append.1 hx with hx | hx
    · exact b x hx
    · obtain rfl : x = _ := by simpa using hx
      simp only [List.length_take, List.length_drop]; omega
  · simp only [List.length_drop]; omega
  · rw [e, show dMany d - i = (dMany d - (i + 1)) + 1 by omega, pItems_succ, show decide (2 ≤ s.length) = true by simpa using h1, show decide (ofB (s.take 2) ≤ (s.drop 2).length) = true by simpa using h2]
    simp only [Bool.and_true, cond_true, Option.map_map]
    congr 1
    funext x
    simp
theorem Mid.stop {d : Bs} {i : Nat} {l : List Bs} {s : Bs} (h : Mid d i l s) (hi : i < dMany d) (h1 : ¬ (2 ≤ s.length ∧ ofB (s.take 2) ≤ (s.drop 2).length)) : pItems (dMany d) (dRest d) = none := by
  rw [h.2.2.2, show dMany d - i = (dMany d - (i + 1)) + 1 by omega, pItems_succ]
  have : (decide (2 ≤ s.length) && decide (ofB (s.take 2) ≤ (s.drop 2).length)) = false := by
    rw [← Bool.not_eq_true, Bool.and_eq_true, decide_eq_true_eq, decide_eq_true_eq]; exact h1
  rw [this]; rfl
theorem Mid.last {d : Bs} {l : List Bs} {s : Bs} (h : Mid d (dMany d) l s) : pItems (dMany d) (dRest d) = some (l, s) := by
  rw [h.2.2.2, Nat.sub_self, pItems]; simp
theorem bs22 (x : Bs) (w : World) : (Instr.buildSlice 59 1 #[(0, stv x)]).run Tryz.prog w = .ok (.slice (some ⟨w.heap.size, 0, none⟩) 1 1) (w.alloc (.cells #[stv x] 9)) := by kernel_rfl

set_option maxHeartbeats 8000000 in
theorem decode_spec (w : World) (d : Bs) (hd : d.length ≤ 9223372036854775806) : Cl Tryz.prog 41 [stv d] w fun r w' => ∃ cs, r = .tuple #[.agg cs, iv (pDec d).2] ∧ PgOw w' w.heap.size cs (pDec d).1 ∧ Fm (fun _ => False) w w' := by
  refine c41 ?_; unfold T41
  refine New_any ?_
  intro x2 w1 hx2 hs1 hw1 hf1
  have ret : ∀ (w' : World) (cs0 : Array Value) (e : Int) (f : Fr), w'.heap[x2]? = some (.cells cs0 61) → cs0.size = 6 → Fm (fun _ => False) w w' → f 2 = pv x2 → f 3 = iv e → pDec d = (pg0, e) → 
      ((∀ w'' : World, w''.heap[x2]? = some (.cells (pcs pg0 (.slice none 0 0)) 61) → Fm (fun _ => False) w w'' → RetO (resL Tryz.prog f w'' [.cell 2 61, .tmp 3]) w'' (fun r w' => ∃ cs, r = .tuple #[.agg cs, iv (pDec d).2] ∧ PgOw w' w.heap.size cs (pDec d).1 ∧ Fm (fun _ => False) w w'))) := by
    intro w' cs0 e f h1 h2 h3 h4 h5 h6 w'' h7 h8
    refine retPg (u := iv e) h7 rfl h4 h5 _ ?_
    rw [h6]
    exact ⟨_, rfl, PgOw.zero _ _, h8⟩
  have d0 : decide ((d.length : Int) = 512) = decide (d.length = 512) := by rw [decide_eq_decide]; omega
  simp only [RS0, RS1, RS2, RS3, RS4, RS5, str_size, bne_dec, d0]
  cases h0 : decide (d.length = 512) with
  | false =>
    have hne : d.length ≠ 512 := by simpa using h0
    simp only [RS0, RS1, RS2, RS3, RS4, RS5]
    refine RunS_ok (bld24z _) ?_
    refine St_all hw1 rfl rfl (by intro u hu; simp [pcs] at hu; rcases hu with rfl | rfl | rfl | rfl | rfl | rfl <;> rfl) ?_
    intro w2 hw2 hs2 hf2
    exact ret w1 _ 31 _ hw1 rfl hf1 rfl rfl (pDec_len hne) w2 hw2 (Fm.own hf1 hf2 (by rintro y rfl; omega))
  | true =>
  have h512 : d.length = 512 := by simpa using h0
  have s1 : slS (stv d) (some (Value.int .i64 4)) none = some (stv (d.drop 4)) := slS_lo (i := 4) (by omega) .i64
  have s2 : slS (stv d) none (some (Value.int .i64 4)) = some (stv (d.take 4)) := slS_hi (i := 4) (by omega) .i64
  have hf2 := Fm.drew (fun _ => False) w1
  have hx2' : w1.drew.heap[x2]? = some (.cells #[iv 0, iv 0, iv 0, iv 0, stv [], .slice none 0 0] 61) := hw1
  have hF2 := Fmf hf1 hf2
  simp only [RS0, RS1, RS2, RS3, RS4, RS5, s1, s2]
  generalize w1.drew = w2 at hf2 hx2' hF2
  refine (sum_spec w2 (d.drop 4) (by rw [List.length_drop]; omega)).mono ?_
  rintro _ w2 ⟨rfl, rfl⟩
  obtain ⟨q1, q2⟩ := crc_in (d.drop 4)
  simp only [RS0, RS1, RS2, RS3, RS4, RS5, cvI_int, q2]
  refine (big_spec w2 q1 4).mono ?_
  rintro _ w3 ⟨rfl, hf3⟩
  have g8 : bigB (crc (d.drop 4) : Nat) 4 = beN 4 (crc (d.drop 4)) := bigB_of (n := crc (d.drop 4)) (w := 4) (by omega) (by omega)
  have hx3 := hf3.heap hx2' (fun e => e)
  have hF3 := Fmf hF2 hf3
  rw [g8]
  simp only [RS0, RS1, RS2, RS3, RS4, RS5, str_inj]
  cases hsum : decide (beN 4 (crc (d.drop 4)) = d.take 4) with
  | false =>
    have hne : beN 4 (crc (d.drop 4)) ≠ d.take 4 := by simpa using hsum
    simp only [RS0, RS1, RS2, RS3, RS4, RS5]
    refine RunS_ok (bld24z _) ?_
    refine St_all hx3 rfl rfl (by intro u hu; simp [pcs] at hu; rcases hu with rfl | rfl | rfl | rfl | rfl | rfl <;> rfl) ?_
    intro w4 hw4 hs4 hf4
    exact ret w3 _ 30 _ hx3 rfl hF3 rfl rfl (pDec_sum h512 hne) w4 hw4 (Fm.own hF3 hf4 (by rintro y rfl; omega))
  | true =>
  have hse : beN 4 (crc (d.drop 4)) = d.take 4 := by simpa using hsum
  simp only [RS0, RS1, RS2, RS3, RS4, RS5]
  have hx2s : x2 = w.heap.size := hx2
  refine Jn_at (fun vs w4 => ∃ g4, vs = [pv g4] ∧ PB w4 g4 ⟨(dLsn d % 2 ^ 63 : Nat), dKind d, dLevel d, dRight d, [], []⟩ (.slice none 0 0) ∧ g4 ≠ x2 ∧ w.heap.size ≤ g4 ∧ w4.heap[x2]? = some (.cells #[iv 0, iv 0, iv 0, iv 0, stv [], .slice none 0 0] 61) ∧ Fm (fun _ => False) w w4) ?_ ?_
  · rintro _ w4 ⟨g4, rfl, hP4, hne4, hge4, hx4, hF4⟩ _
    refine ⟨_, rfl, ?_⟩
    have s3 : slS (stv d) (some (Value.int .i64 20)) none = some (stv (d.drop 20)) := slS_lo (i := 20) (by omega) .i64
    have i19 : ixS (stv d) (Value.int .i64 19) = some (.int .u8 ((dHl d : Nat))) := ixS_getD (k := 19) (by omega)
    have i18 : ixS (stv d) (Value.int .i64 18) = some (.int .u8 ((dMany d : Nat))) := ixS_getD (k := 18) (by omega)
    have c19 : IntKind.i64.wrap (dHl d : Nat) = ((dHl d : Nat) : Int) := u8_i64 _
    have c18 : IntKind.i64.wrap (dMany d : Nat) = ((dMany d : Nat) : Int) := u8_i64 _
    have hhl : dHl d < 256 := UInt8.toNat_lt _
    have hmy : dMany d < 256 := UInt8.toNat_lt _
    have hg4l := hP4.lt
    simp only [RS0, RS1, RS2, RS3, RS4, RS5, s3]
    refine New_any ?_
    intro x5 w5 hx5 hs5 hw5 hf5
    refine St_blk hw5 (by show 0 < 1; decide) rfl ?_
    intro w6 hw6 hs6 hf6
    replace hw6 : SB w6 x5 (d.drop 20) := hw6
    have hf46 : Fm (fun _ => False) w4 w6 := Fm.own hf5 hf6 (by rintro y rfl; omega)
    have hP6 := hP4.keep hf46 (fun e => e)
    have hx6 := hf46.heap hx4 (fun e => e)
    have hF6 := Fmf hF4 hf46
    have hz4 := hF4.size
    have hx2l := lt_of_heap hx4
    simp only [RS0, RS1, RS2, RS3, RS4, RS5, i19, cvI_int, c19]
    refine (cut_spec hw6 (dHl d)).mono ?_
    rintro _ w7 ⟨rfl, hS7, hf7⟩
    have hle : decide (dHl d ≤ (d.drop 20).length) = true := by rw [decide_eq_true_eq, List.length_drop]; omega
    rw [hle, cond_true] at hS7
    rw [hle, cond_true]
    have hP7 := hP6.keep hf7 (by omega)
    have hx7 := hf7.heap hx6 (by omega)
    have hF7 : Fm (fun _ => False) w w7 := Fm.own hF6 hf7 (by rintro y rfl; omega)
    simp only [RS0, RS1, RS2, RS3, RS4, RS5]
    refine St_blk hP7 (by show 4 < 6; decide) rfl ?_
    intro w8 hw8 hs8 hf8
    replace hw8 : PB w8 g4 (headP d []) (.slice none 0 0) := hw8
    have hS8 : SB w8 x5 (dRest d) := hS7.keep hf8 (by omega)
    have hx8 := hf8.heap hx7 (fun e => hne4 e.symm)
    have hF8 : Fm (fun _ => False) w w8 := Fm.own hF7 hf8 (by rintro y rfl; omega)
    have hl6 := hw6.keep hf7
    have hz6 : x5 < w8.heap.size := lt_of_heap hS8
    simp only [RS0, RS1, RS2, RS3, RS4, RS5, i18, cvI_int, c18]
    refine ⟨fun vs w9 => ∃ (i : Nat) (l : List Bs) (s : Bs) (v : Value), vs = [iv i] ∧ i ≤ dMany d ∧ Mid d i l s ∧ PB w9 g4 (headP d l) v ∧ w9.ownsRow (x5 + 1) 9 1 v l.length (l.map stv) ∧ SB w9 x5 s ∧ w9.heap[x2]? = some (.cells #[iv 0, iv 0, iv 0, iv 0, stv [], .slice none 0 0] 61) ∧ Fm (fun _ => False) w w9, fun vs _ => (dMany d - nth vs 0).toNat,
      ⟨0, [], dRest d, _, rfl, by omega, Mid.zero h512, hw8, World.ownsRow_nil _ _ _ _, hS8, hx8, hF8⟩, ?_⟩
    rintro _ w9 ivv ⟨i, l, s, v, hvs, hi, hM, hP9, hO9, hS9, hx9, hF9⟩
    cases hvs
    have hll := hM.1
    have hz9 : x5 < w9.heap.size := lt_of_heap hS9
    have hg9 := hP9.lt
    have hx29 := lt_of_heap hx9
    by_cases hlt : i < dMany d
    · have e1 : decide ((i : Int) < (dMany d : Int)) = true := by rw [decide_eq_true_eq]; omega
      have e2 : IntKind.i64.wrap ((i : Int) + 1) = ((i + 1 : Nat) : Int) := by rw [wrap_id] <;> omega
      simp only [RS0, RS1, RS2, RS3, RS4, RS5, e1]
      refine (cut_spec hS9 2).mono ?_
      rintro _ w10 ⟨rfl, hS10, hf10⟩
      have hP10 := hP9.keep hf10 (by omega)
      have hx10 := hf10.heap hx9 (by omega)
      have hF10 : Fm (fun _ => False) w w10 := Fm.own hF9 hf10 (by rintro y rfl; omega)
      have hO10 := own_keep hO9 hf10 (fun k h1 h2 h3 e => by omega)
      by_cases h2 : 2 ≤ s.length
      · have e3 : decide (2 ≤ s.length) = true := by simpa using h2
        rw [e3, cond_true] at hS10
        rw [e3, cond_true]
        have htl : (s.take 2).length = 2 := by rw [List.length_take]; omega
        simp only [RS0, RS1, RS2, RS3, RS4, RS5]
        refine (of_spec w10 (s.take 2) (by omega)).mono ?_
        rintro _ w10 ⟨rfl, rfl⟩
        rw [ofN_short (by omega)]
        refine (cut_spec hS10 (ofB (s.take 2))).mono ?_
        rintro _ w11 ⟨rfl, hS11, hf11⟩
        have hP11 := hP10.keep hf11 (by omega)
        have hx11 := hf11.heap hx10 (by omega)
        have hF11 : Fm (fun _ => False) w w11 := Fm.own hF10 hf11 (by rintro y rfl; omega)
        have hO11 := own_keep hO10 hf11 (fun k h1 h2 h3 e => by omega)
        by_cases h3 : ofB (s.take 2) ≤ (s.drop 2).length
        · have e4 : decide (ofB (s.take 2) ≤ (s.drop 2).length) = true := by simpa using h3
          rw [e4, cond_true] at hS11
          rw [e4, cond_true]
          have hM2 := hM.next hlt h2 h3
          generalize (s.drop 2).take (ofB (s.take 2)) = it at hM2
          generalize (s.drop 2).drop (ofB (s.take 2)) = s' at hM2 hS11
          simp only [RS0, RS1, RS2, RS3, RS4, RS5, hP11.c5]
          have hz11 : x5 < w11.heap.size := lt_of_heap hS11
          refine append_el E22 (by omega) 59 (cs := [stv it]) rfl (bs22 _ _) (by intro u hu; simp at hu; subst hu; rfl) hO11 (by unfold maxLen; omega) (by omega) hz11 ?_
          intro v12 w12 hO12 _ hf12
          have hP12 := hP11.keep hf12 (by omega)
          have hx12 := hf12.heap hx11 (by omega)
          have hS12 := hS11.keep hf12 (by omega)
          have hF12 : Fm (fun _ => False) w w12 := Fm.own hF11 hf12 (fun y hy => by omega)
          try simp only [RS0, RS1, RS2, RS3, RS4, RS5]
          refine St_blk hP12 (by show 5 < 6; decide) (own_one hO12) ?_
          intro w13 hw13 hs13 hf13
          replace hw13 : PB w13 g4 (headP d (l ++ [it])) v12 := hw13
          simp only [RS0, RS1, RS2, RS3, RS4, RS5, e2]
          refine ⟨⟨i + 1, l ++ [it], s', v12, rfl, by omega, hM2, hw13, ?_, hS12.keep hf13 (by omega), hf13.heap hx12 (fun e => hne4 e.symm), Fm.own hF12 hf13 (by rintro y rfl; omega)⟩, by simp only [nth_0]; omega⟩
          have : w13.ownsRow (x5 + 1) 9 1 v12 (l.length + 1) (l.map stv ++ [stv it]) := own_keep hO12 hf13 (fun k h1 h2 h3 e => by omega)
          simpa using this
        · have e4 : decide (ofB (s.take 2) ≤ (s.drop 2).length) = false := by simpa using h3
          rw [e4]
          simp only [RS0, RS1, RS2, RS3, RS4, RS5]
          refine RunS_ok (bld24z _) ?_
          refine St_all hx11 rfl rfl (by intro u hu; simp [pcs] at hu; rcases hu with rfl | rfl | rfl | rfl | rfl | rfl <;> rfl) ?_
          intro w12 hw12 hs12 hf12
          exact ret w11 _ 31 _ hx11 rfl hF11 rfl rfl (pDec_none h512 hse (hM.stop hlt (fun e => h3 e.2))) w12 hw12 (Fm.own hF11 hf12 (by rintro y rfl; omega))
      · have e3 : decide (2 ≤ s.length) = false := by simpa using h2
        rw [e3, cond_false] at hS10
        rw [e3, cond_false]
        simp only [RS0, RS1, RS2, RS3, RS4, RS5]
        refine (of_spec w10 [] (by simp)).mono ?_
        rintro _ w10 ⟨rfl, rfl⟩
        have eo : ofN [] = 0 := rfl
        rw [eo]
        refine (cut_spec hS10 0).mono ?_
        rintro _ w11 ⟨rfl, hS11, hf11⟩
        have hx11 := hf11.heap hx10 (by omega)
        have hF11 : Fm (fun _ => False) w w11 := Fm.own hF10 hf11 (by rintro y rfl; omega)
        simp only [RS0, RS1, RS2, RS3, RS4, RS5]
        refine RunS_ok (bld24z _) ?_
        refine St_all hx11 rfl rfl (by intro u hu; simp [pcs] at hu; rcases hu with rfl | rfl | rfl | rfl | rfl | rfl <;> rfl) ?_
        intro w12 hw12 hs12 hf12
        exact ret w11 _ 31 _ hx11 rfl hF11 rfl rfl (pDec_none h512 hse (hM.stop hlt (fun e => h2 e.1))) w12 hw12 (Fm.own hF11 hf12 (by rintro y rfl; omega))
    · have hie : i = dMany d := by omega
      rw [hie] at hM
      have e1 : decide ((i : Int) < (dMany d : Int)) = false := by rw [decide_eq_false_iff_not]; omega
      have hds := pDec_some h512 hse hM.last
      simp only [RS0, RS1, RS2, RS3, RS4, RS5, e1, hS9.c]
      refine (trim_spec w9 s (by have := hM.2.2.1; omega)).mono ?_
      rintro _ w10 ⟨⟨t, rfl, ht⟩, hf10⟩
      have hP10 := hP9.keep hf10 (fun e => e)
      have hx10 := hf10.heap hx9 (fun e => e)
      have hF10 := Fmf hF9 hf10
      have hO10 := own_keep hO9 hf10 (fun _ _ _ _ e => e)
      have bad : badD d s = true → RunS Tryz.prog (Instr.build 61 #[]) w10 (fun t93_149 w_150 =>
          St 6 w_150 (pv x2) t93_149 fun u_151 w_152 =>
          RetO (resL Tryz.prog (fun j => bif Nat.beq j 2 then pv x2 else bif Nat.beq j 3 then (Value.int IntKind.i64 31) else undef) w_152 [(ResultVar.cell 2 61), (ResultVar.tmp 3)]) w_152 (fun r w' => ∃ cs, r = .tuple #[.agg cs, iv (pDec d).2] ∧ PgOw w' w.heap.size cs (pDec d).1 ∧ Fm (fun _ => False) w w')) := by
        intro hb
        rw [hb, cond_true] at hds
        refine RunS_ok (bld24z _) ?_
        refine St_all hx10 rfl rfl (by intro u hu; simp [pcs] at hu; rcases hu with rfl | rfl | rfl | rfl | rfl | rfl <;> rfl) ?_
        intro w12 hw12 hs12 hf12
        exact ret w10 _ 31 _ hx10 rfl hF10 rfl rfl hds w12 hw12 (Fm.own hF10 hf12 (by rintro y rfl; omega))
      have i4 : ixS (stv d) (Value.int .i64 4) = some (.int .u8 (((d.getD 4 0).toNat : Nat))) := ixS_getD (k := 4) (by omega)
      have dk1 : decide (((headP d l).kind) < 1) = decide (dKind d < 1) := by rw [decide_eq_decide]; unfold headP; simp only; omega
      have dk3 : decide (3 < (headP d l).kind) = decide (3 < dKind d) := by rw [decide_eq_decide]; unfold headP; simp only; omega
      have d4 : decide ((127 : Int) < (((d.getD 4 0).toNat : Nat) : Int)) = decide (127 < (d.getD 4 0).toNat) := by rw [decide_eq_decide]; omega
      have ht0 : decide (t = []) = decide (s = zeros s.length) := by rw [decide_eq_decide]; exact ht
      simp only [RS0, RS1, RS2, RS3, RS4, RS5, str_nil, str_inj, ht0]
      unfold badD at bad hds
      cases b1 : decide (s = zeros s.length) with
      | false =>
        simp only [RS0, RS1, RS2, RS3, RS4, RS5]
        refine bad ?_
        have : s ≠ zeros s.length := by simpa using b1
        simp [this]
      | true =>
      have b1' : decide (s ≠ zeros s.length) = false := by simpa using b1
      rw [b1', Bool.false_or] at bad hds
      simp only [RS0, RS1, RS2, RS3, RS4, RS5, i4, d4]
      cases b2 : decide (127 < (d.getD 4 0).toNat) with
      | true => simp only [RS0, RS1, RS2, RS3, RS4, RS5]; exact bad (by rw [b2]; simp)
      | false =>
      rw [b2, Bool.false_or] at bad hds
      simp only [RS0, RS1, RS2, RS3, RS4, RS5, hP10.c1, dk1]
      cases b3 : decide (dKind d < 1) with
      | true => simp only [RS0, RS1, RS2, RS3, RS4, RS5]; exact bad (by rw [b3]; simp)
      | false =>
      rw [b3, Bool.false_or] at bad hds
      simp only [RS0, RS1, RS2, RS3, RS4, RS5, hP10.c1, dk3]
      cases b4 : decide (3 < dKind d) with
      | true => simp only [RS0, RS1, RS2, RS3, RS4, RS5]; exact bad b4
      | false =>
      rw [b4, cond_false] at hds
      simp only [RS0, RS1, RS2, RS3, RS4, RS5, hP10.all]
      refine St_all hx10 rfl rfl (by intro u hu; simp [pcs] at hu; rcases hu with rfl | rfl | rfl | rfl | rfl | rfl <;> first | rfl | exact own_one hO10) ?_
      intro w12 hw12 hs12 hf12
      refine retPg (g := x2) (i := 2) (j := 3) (u := iv 0) hw12 rfl rfl rfl _ ?_
      rw [hds]
      refine ⟨_, rfl, ⟨⟨v, rfl, own_base (own_keep hO10 hf12 (fun k h1 h2 h3 e => by omega)) (by omega)⟩, fun x hx => by have := hM.2.1 x hx; omega, headP_in h512 (by omega)⟩, Fm.own hF10 hf12 (by rintro y rfl; omega)⟩
  · intro jj hjj
    have s4 : slS (stv d) (some (Value.int .i64 4)) (some (Value.int .i64 12)) = some (stv ((d.drop 4).take 8)) := slS_lh (i := 4) (j := 12) (by omega) (by omega) .i64 .i64
    have s5 : slS (stv d) (some (Value.int .i64 14)) (some (Value.int .i64 18)) = some (stv ((d.drop 14).take 4)) := slS_lh (i := 14) (j := 18) (by omega) (by omega) .i64 .i64
    have i12 : ixS (stv d) (Value.int .i64 12) = some (.int .u8 ((dKind d : Nat))) := ixS_getD (k := 12) (by omega)
    have i13 : ixS (stv d) (Value.int .i64 13) = some (.int .u8 ((dLevel d : Nat))) := ixS_getD (k := 13) (by omega)
    have c12 : IntKind.i64.wrap (dKind d : Nat) = ((dKind d : Nat) : Int) := u8_i64 _
    have c13 : IntKind.i64.wrap (dLevel d : Nat) = ((dLevel d : Nat) : Int) := u8_i64 _
    have o1 : ofN ((d.drop 4).take 8) = dLsn d % 2 ^ 63 := rfl
    have o2 : ofN ((d.drop 14).take 4) = dRight d := ofN_short (by rw [List.length_take]; omega)
    have l1 : ((d.drop 4).take 8).length ≤ 9223372036854775806 := by rw [List.length_take]; omega
    have l2 : ((d.drop 14).take 4).length ≤ 9223372036854775806 := by rw [List.length_take]; omega
    have hf4 := Fm.drew (fun _ => False) w3
    have hx4 : w3.drew.heap[x2]? = some (.cells #[iv 0, iv 0, iv 0, iv 0, stv [], .slice none 0 0] 61) := hx3
    have hF4 := Fmf hF3 hf4
    have hz4 := hF4.size
    have hx2l := lt_of_heap hx4
    refine ⟨fun _ => True, trivial, ?_⟩
    simp only [RS0, RS1, RS2, RS3, RS4, RS5, s4, s5, i12, i13, cvI_int, c12, c13, true_and, and_true]
    generalize w3.drew = w4 at hf4 hx4 hF4 hz4 hx2l
    have fin : ∀ (g : Nat) (w5 w6 : World), w4.heap.size ≤ g → Fm (fun _ => False) w4 w5 → w5.heap[g]? = some (.cells #[iv 0, iv 0, iv 0, iv 0, stv [], .slice none 0 0] 61) → w6.heap[g]? = some (.cells (pcs ⟨(dLsn d % 2 ^ 63 : Nat), dKind d, dLevel d, dRight d, [], []⟩ (.slice none 0 0)) 61) → Fm (· = g) w5 w6 → jj [pv g] w6 := by
      intro g w5 w6 h1 h2 h3 h4 h5
      exact hjj _ _ ⟨g, rfl, h4, by omega, by omega, h5.heap (h2.heap hx4 (fun e => e)) (by omega), Fm.own (Fmf hF4 h2) h5 (by rintro y rfl; omega)⟩
    have lay : ∀ u ∈ (pcs ⟨(dLsn d % 2 ^ 63 : Nat), dKind d, dLevel d, dRight d, [], []⟩ (.slice none 0 0)).toList, u.oneCell' = true := by
      intro u hu; simp [pcs] at hu; rcases hu with rfl | rfl | rfl | rfl | rfl | rfl <;> rfl
    refine ⟨?_, ?_⟩
    · refine (of_spec w4 _ l1).mono ?_
      rintro _ w4 ⟨rfl, rfl⟩
      rw [o1]
      refine ⟨?_, ?_⟩
      · refine (of_spec w4 _ l2).mono ?_
        rintro _ w4 ⟨rfl, rfl⟩
        rw [o2]
        refine ⟨_, fun w5 _ => RunS_ok (bld24a _ _ _ _ _) ⟨rfl, rfl⟩, ?_⟩
        refine New_any ?_
        intro g w5 hg hs5 hw5 hf5
        refine St_all hw5 rfl rfl lay ?_
        intro w6 hw6 hs6 hf6
        exact fin g w5 w6 (by omega) hf5 hw5 hw6 hf6
      · refine New_any ?_
        intro g w5 hg hs5 hw5 hf5
        refine (of_spec w5 _ l2).mono ?_
        rintro _ w5 ⟨rfl, rfl⟩
        rw [o2]
        refine RunS_ok (bld24a _ _ _ _ _) ⟨rfl, ?_⟩
        refine St_all hw5 rfl rfl lay ?_
        intro w6 hw6 hs6 hf6
        exact fin g w5 w6 (by omega) hf5 hw5 hw6 hf6
    · refine New_any ?_
      intro g w5 hg hs5 hw5 hf5
      refine (of_spec w5 _ l1).mono ?_
      rintro _ w5 ⟨rfl, rfl⟩
      rw [o1]
      refine (of_spec w5 _ l2).mono ?_
      rintro _ w5 ⟨rfl, rfl⟩
      rw [o2]
      refine RunS_ok (bld24a _ _ _ _ _) ⟨rfl, ?_⟩
      refine St_all hw5 rfl rfl lay ?_
      intro w6 hw6 hs6 hf6
      exact fin g w5 w6 (by omega) hf5 hw5 hw6 hf6

end Go.Proofs.YthbngnlmgplijaaGreatDoor
