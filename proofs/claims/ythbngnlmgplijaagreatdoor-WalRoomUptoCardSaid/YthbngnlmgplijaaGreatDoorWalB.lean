/- What a sector tells of a block; what stands in sectors from a block on. Nothing is left but what is ahead of the tail. A log is laid in sectors. -/
import Derived.Test.YthbngnlmgplijaaGreatDoorWalA
namespace Go.Proofs.YthbngnlmgplijaaGreatDoor
open Go.Al Go.Proofs
set_option linter.unusedVariables false
set_option linter.unusedSimpArgs false
set_option linter.unusedSectionVars false
set_option maxRecDepth 100000

theorem hpre_spec (w : World) {s t : Bs} (h : t.length ≤ s.length) (hs : s.length ≤ 9223372036854775807) : Cl Tryz.prog 174 [stv s, stv t] w fun v w' => v = .bool (decide (s.take t.length = t)) ∧ w' = w := by
  refine c174 ?_; unfold T174
  refine (?_ : Cl Tryz.prog 210 [stv s, stv t] w fun v w' => v = .bool (decide (s.take t.length = t)) ∧ w' = w).mono (fun _ _ e => e)
  refine c210 ?_; unfold T210
  have d1 : decide ((t.length : Int) ≤ (s.length : Int)) = true := by rw [decide_eq_true_eq]; omega
  simp only [RS0, RS1, RS2, RS3, RS4, RS5, str_size, d1, slS_hi h, str_inj]
  exact ⟨(by trivial), (by trivial)⟩
theorem hsuf_spec (w : World) {s t : Bs} (h : t.length ≤ s.length) (hs : s.length ≤ 9223372036854775807) : Cl Tryz.prog 222 [stv s, stv t] w fun v w' => v = .bool (decide (s.drop (s.length - t.length) = t)) ∧ w' = w := by
  refine c222 ?_; unfold T222
  refine (?_ : Cl Tryz.prog 239 [stv s, stv t] w fun v w' => v = .bool (decide (s.drop (s.length - t.length) = t)) ∧ w' = w).mono (fun _ _ e => e)
  refine c239 ?_; unfold T239
  have d1 : decide ((t.length : Int) ≤ (s.length : Int)) = true := by rw [decide_eq_true_eq]; omega
  have e1 : IntKind.i64.wrap ((s.length : Int) - (t.length : Int)) = ((s.length - t.length : Nat) : Int) := by rw [wrap_id] <;> omega
  have e2 : slS (stv s) (some (iv ((s.length - t.length : Nat) : Int))) none = some (stv (s.drop (s.length - t.length))) := slS_lo (by omega) .i64
  simp only [RS0, RS1, RS2, RS3, RS4, RS5, str_size, d1, e1, e2, str_inj]
  exact ⟨(by trivial), (by trivial)⟩
theorem min2u (a b : Nat) : min2V (.int .u8 (a : Int)) (.int .u8 (b : Int)) = some (.int .u8 ((min a b : Nat) : Int)) := by
  show some (Value.int .u8 (if (b : Int) < (a : Int) then (b : Int) else (a : Int))) = _
  congr 2
  split <;> omega
theorem wopened_spec (w : World) {s : Bs} (hs : s.length = 64) {k : Nat} (hk : k + 1 ≤ 9223372036854775807) : Cl Tryz.prog 194 [stv s, iv (k : Int)] w fun v w' => v = stv (opened s k) ∧ Fm (fun _ => False) w w' := by
  have h4 := Lg.blk_len k
  refine c194 ?_; unfold T194
  refine (wname_spec w hk).mono ?_
  rintro _ w2 ⟨rfl, hf2⟩
  refine (hpre_spec w2 (s := s) (t := blkN k) (by omega) (by omega)).mono ?_
  rintro _ w2 ⟨rfl, rfl⟩
  rw [h4]
  unfold opened
  cases e1 : decide (s.take 4 = blkN k) with
  | false =>
    simp only [RS0, RS1, RS2, RS3, RS4, RS5, Bool.false_and, cond_false]
    exact ⟨(by trivial), hf2⟩
  | true =>
  simp only [RS0, RS1, RS2, RS3, RS4, RS5, Bool.true_and]
  refine (wname_spec w2 hk).mono ?_
  rintro _ w3 ⟨rfl, hf3⟩
  try simp only [RS0, RS1, RS2, RS3, RS4, RS5]
  refine (hsuf_spec w3 (s := s) (t := blkN k) (by omega) (by omega)).mono ?_
  rintro _ w3 ⟨rfl, rfl⟩
  rw [h4, hs]
  have hF := Fmf hf2 hf3
  rw [show 64 - 4 = 60 from rfl]
  cases e2 : decide (s.drop 60 = blkN k) with
  | false =>
    simp only [RS0, RS1, RS2, RS3, RS4, RS5, cond_false]
    exact ⟨(by trivial), hF⟩
  | true =>
  have i4 : ixS (stv s) (iv 4) = some (.int .u8 (((s.getD 4 0).toNat : Nat) : Int)) := ixS_getD (k := 4) (by omega)
  have i59 : ixS (stv s) (iv 59) = some (.int .u8 (((s.getD 59 0).toNat : Nat) : Int)) := ixS_getD (k := 59) (by omega)
  have e5 : slS (stv s) (some (iv 5)) none = some (stv (s.drop 5)) := slS_lo (i := 5) (by omega) .i64
  have ef : foldV0 min2V [.int .u8 (((s.getD 4 0).toNat : Nat) : Int), .int .u8 (((s.getD 59 0).toNat : Nat) : Int), .int .u8 54] = some (.int .u8 ((min (min (s.getD 4 0).toNat (s.getD 59 0).toNat) 54 : Nat) : Int)) := by
    simp only [foldV0, foldV, min2u, Option.bind_some]
    rw [show (Value.int IntKind.u8 54) = .int .u8 ((54 : Nat) : Int) from rfl, min2u]
    rfl
  have e6 : slS (stv (s.drop 5)) none (some (.int .u8 ((min (min (s.getD 4 0).toNat (s.getD 59 0).toNat) 54 : Nat) : Int))) = some (stv ((s.drop 5).take (min (min (s.getD 4 0).toNat (s.getD 59 0).toNat) 54))) := slS_hi (by rw [List.length_drop]; omega) .u8
  simp only [RS0, RS1, RS2, RS3, RS4, RS5, e5, i4, i59, ef, e6, cond_true]
  exact ⟨(by trivial), Fmf hF (Fm.drew _ _)⟩

/-! ### Sectors, one behind the other -/
theorem read_len {d : Dk} (h : d.Wf) {a : Int} (he : (d.read a 1).2 = 0) : (d.read a 1).1.length = 64 := by
  unfold Dk.read at he ⊢
  cases hg : d.gone with
  | true => rw [hg] at he; cases he
  | false =>
    rw [hg, cond_false] at he
    rw [cond_false]
    cases hh : d.has a 1 with
    | false => rw [hh] at he; cases he
    | true =>
      simp only [Bool.not_true, cond_false]
      unfold Dk.has at hh
      rw [decide_eq_true_eq] at hh
      rw [Dk.flat_len (fun x hx => h.s1 x (List.mem_of_mem_drop (List.mem_of_mem_take hx))), List.length_take, List.length_drop]
      have : (1 : Int).toNat = 1 := rfl
      rw [this]; omega
def readGo (d : Dk) (frm n k : Nat) : Nat → Nat → Bs → Bs × Int
  | 0, i, out => (out, 0)
  | f + 1, i, out => bif decide ((d.read ((frm + (k + i) % n : Nat) : Int) 1).2 = 0) then
      (bif decide ((opened (d.read ((frm + (k + i) % n : Nat) : Int) 1).1 (k + i)).length < 54) then (out ++ opened (d.read ((frm + (k + i) % n : Nat) : Int) 1).1 (k + i), 0)
        else readGo d frm n k f (i + 1) (out ++ opened (d.read ((frm + (k + i) % n : Nat) : Int) 1).1 (k + i)))
    else ([], (d.read ((frm + (k + i) % n : Nat) : Int) 1).2)
theorem opened_len (s : Bs) (k : Nat) : (opened s k).length ≤ 54 := by
  unfold opened
  cases decide (s.take 4 = blkN k) && decide (s.drop 60 = blkN k) with
  | true => rw [cond_true, List.length_take]; omega
  | false => simp
section
variable {w : World} {X P : Nat → Prop} {lb db mb : Nat} {kv : Value} {M : List (Int × Array Value)} {L : Lg}
theorem wsector0_spec (hi : LIn w X P lb db mb kv M L) (h1 : L.frm + L.n ≤ 65536) (h2 : 4 ≤ L.n) {k : Nat} (hk : k ≤ 9223372036854775807) : Cl Tryz.prog 99 [pv lb, iv (k : Int)] w fun v w' => v = iv ((L.frm + k % L.n : Nat) : Int) ∧ Fm (fun _ => False) w w' := by
  have e1 := rem_nat (TypeDesc.int IntKind.i64) (n := k) (m := L.n) (by omega) hk (b := (L.n : Int)) rfl
  have hm := Nat.mod_lt k (show 0 < L.n by omega)
  have e2 : IntKind.i64.wrap ((L.frm : Int) + ((k % L.n : Nat) : Int)) = ((L.frm + k % L.n : Nat) : Int) := by rw [wrap_id] <;> omega
  refine c99 ?_; unfold T99
  simp only [RS0, RS1, RS2, RS3, RS4, RS5, hi.c1, hi.c2, e1, e2, true_and]
  exact Fm.drew _ _
set_option maxHeartbeats 2000000 in
theorem wread_spec {g m : Nat} {d : Dk} (hi : LIn w X P lb db mb kv M L) (h1 : L.frm + L.n ≤ 65536) (h2 : 4 ≤ L.n) (hd : DAt w db g m d) {k : Nat} (hk : k ≤ 9000000000000000000) :
    Cl Tryz.prog 140 [pv lb, iv (k : Int)] w fun v w' => ∃ u, v = .tuple #[u, iv (readGo d L.frm L.n k L.n 0 []).2] ∧ w'.ownsRow w.heap.size 5 1 u (readGo d L.frm L.n k L.n 0 []).1.length (bc (readGo d L.frm L.n k L.n 0 []).1) ∧ Fm (fun _ => False) w w' := by
  refine c140 ?_; unfold T140
  refine Jn_at (fun vs w2 => ∃ u, vs = [u] ∧ (readGo d L.frm L.n k L.n 0 []).2 = 0 ∧ w2.ownsRow w.heap.size 5 1 u (readGo d L.frm L.n k L.n 0 []).1.length (bc (readGo d L.frm L.n k L.n 0 []).1) ∧ Fm (fun _ => False) w w2) ?_ ?_
  · rintro _ w2 ⟨u, rfl, q1, q2, q3⟩ _
    exact ⟨u, rfl, u, by rw [q1], q2, q3⟩
  intro kk hkk
  simp only [RS0, RS1, RS2, RS3, RS4, RS5, hi.c2]
  refine ⟨fun vs w' => ∃ (i : Nat) (out : Bs) (ov : Value), vs = [ov, iv (i : Int)] ∧ i ≤ L.n ∧ w'.ownsRow w.heap.size 5 1 ov out.length (bc out) ∧ out.length ≤ 54 * i ∧ Fm (fun _ => False) w w' ∧ readGo d L.frm L.n k (L.n - i) i out = readGo d L.frm L.n k L.n 0 [],
    fun vs _ => (L.n - nth vs 1).toNat, ⟨0, [], _, rfl, by omega, World.ownsRow_nil _ _ _ _, by simp, Fm.refl _ _, rfl⟩, ?_⟩
  rintro _ w3 ov ivv ⟨i, out, ov', hvs, hin, ho, hol, hF3, hgo⟩
  cases hvs
  by_cases hlt : i < L.n
  · have d1 : decide ((i : Int) < (L.n : Int)) = true := by rw [decide_eq_true_eq]; omega
    have e1 : IntKind.i64.wrap ((k : Int) + (i : Int)) = ((k + i : Nat) : Int) := by rw [wrap_id] <;> omega
    have e2 : IntKind.i64.wrap ((i : Int) + 1) = ((i + 1 : Nat) : Int) := by rw [wrap_id] <;> omega
    have hsub : L.n - i = (L.n - (i + 1)) + 1 := by omega
    rw [hsub, readGo] at hgo
    have hfd := Fm.drew (fun _ => False) w3
    have hFd := Fmf hF3 hfd
    simp only [RS0, RS1, RS2, RS3, RS4, RS5, d1]
    refine ⟨fun w' => Fm (fun _ => False) w3 w', hfd, ?_⟩
    refine ⟨pv db, fun w' h' => ?_, ?_⟩
    · have hc0 := (hi.keep0 (Fmf hF3 h')).c0
      simp only [RS0, RS1, RS2, RS3, RS4, RS5, hc0] <;> trivial
    simp only [RS0, RS1, RS2, RS3, RS4, RS5, e1]
    refine (wsector0_spec (hi.keep0 hFd) h1 h2 (k := k + i) (by omega)).mono ?_
    rintro _ w4 ⟨rfl, hf4⟩
    have hF4 := Fmf hfd hf4
    refine ⟨hF4, ?_⟩
    have hF4' := Fmf hF3 hF4
    refine (dread_spec (hd.keep0 hF4') ((L.frm + (k + i) % L.n : Nat) : Int) 1).mono ?_
    rintro _ w4 ⟨rfl, rfl⟩
    have hrl := read_len hd.wf (a := ((L.frm + (k + i) % L.n : Nat) : Int))
    generalize d.read ((L.frm + (k + i) % L.n : Nat) : Int) 1 = rd at hgo hrl
    simp only [RS0, RS1, RS2, RS3, RS4, RS5, bne_dec]
    cases hz : decide (rd.2 = 0) with
    | false =>
      rw [hz, cond_false] at hgo
      rw [← hgo]
      simp only [RS0, RS1, RS2, RS3, RS4, RS5, Bool.not_false]
      exact ⟨_, (by trivial), World.ownsRow_nil _ _ _ _, hF4'⟩
    | true =>
    rw [hz, cond_true] at hgo
    rw [decide_eq_true_eq] at hz
    simp only [RS0, RS1, RS2, RS3, RS4, RS5, Bool.not_true]
    refine (wopened_spec w4 (hrl hz) (k := k + i) (by omega)).mono ?_
    rintro _ w5 ⟨rfl, hf5⟩
    have hF5 := Fmf hF4 hf5
    have ho5 := own_keep ho hF5 (fun _ _ _ _ e => e)
    have hz5 := (Fmf hF3 hF5).size
    have hol2 := opened_len rd.1 (k + i)
    generalize opened rd.1 (k + i) = b at hgo hol2
    have d2 : decide ((b.length : Int) < 54) = decide (b.length < 54) := by rw [decide_eq_decide]; omega
    obtain ⟨v', w6, hr6, ho6, hf6, _⟩ := append_text B38 ho5 b 123 (by omega) hz5
    refine RunS_ok hr6 ?_
    have hlt6 := own_lt ho5
    have hF6 : Fm (fun _ => False) w w6 := Fm.own (Fmf hF3 hF5) hf6 (fun y hy => (hlt6 y hy).1)
    rw [← List.length_append] at ho6
    simp only [RS0, RS1, RS2, RS3, RS4, RS5, str_size, d2, e2]
    cases hs : decide (b.length < 54) with
    | true =>
      rw [hs, cond_true] at hgo
      simp only [RS0, RS1, RS2, RS3, RS4, RS5]
      exact hkk _ _ ⟨v', rfl, by rw [← hgo], by rw [← hgo]; exact ho6, hF6⟩
    | false =>
      rw [hs, cond_false] at hgo
      simp only [RS0, RS1, RS2, RS3, RS4, RS5]
      exact ⟨⟨i + 1, out ++ b, v', rfl, by omega, ho6, by rw [List.length_append]; omega, hF6, hgo⟩, by simp only [nth_1]; omega⟩
  · have hie : i = L.n := by omega
    subst hie
    have d1 : decide ((L.n : Int) < (L.n : Int)) = false := by simp
    rw [Nat.sub_self, readGo] at hgo
    simp only [RS0, RS1, RS2, RS3, RS4, RS5, d1]
    exact hkk _ _ ⟨ov, rfl, by rw [← hgo], by rw [← hgo]; exact ho, hF3⟩
end
end Go.Proofs.YthbngnlmgplijaaGreatDoor

namespace Go.Proofs.YthbngnlmgplijaaGreatDoor
open Go.Al Go.Proofs
set_option linter.unusedVariables false
set_option linter.unusedSimpArgs false
set_option linter.unusedSectionVars false
set_option maxRecDepth 100000

def clr (n : Nat) : Nat → Nat → List Bs → List Bs
  | 0, _, W => W
  | f + 1, k, W => clr n f (k + 1) (W.set (k % n) [])
theorem clr_len (n : Nat) : ∀ (f k : Nat) (W : List Bs), (clr n f k W).length = W.length
  | 0, _, W => rfl
  | f + 1, k, W => by rw [clr, clr_len n f]; simp
def Lg.lastB (L : Lg) : Nat := (L.tail - 1) / 54
def Lg.want1 (L : Lg) : List Bs := clr L.n (L.lastB - (L.start - 1) / 54) ((L.start - 1) / 54) (List.replicate L.n Dk.zsec)
def Lg.want (L : Lg) : List Bs := bif decide (L.bytes L.lastB = []) then L.want1 else L.want1.set (L.lastB % L.n) (sealB L.lastB (L.bytes L.lastB))
theorem want_len (L : Lg) : L.want.length = L.n := by
  have : L.want1.length = L.n := by unfold Lg.want1; rw [clr_len]; simp
  unfold Lg.want
  cases decide (L.bytes L.lastB = []) with
  | true => exact this
  | false => simp [this]
def wipeGo (frm : Nat) : List Bs → Nat → Bool → Dk → Bool × Dk × Int
  | [], _, wr, d => (wr, d, 0)
  | x :: l, i, wr, d =>
    bif decide (x = []) then wipeGo frm l (i + 1) wr d
    else bif decide ((d.read ((frm + i : Nat) : Int) 1).2 = 0) then
      (bif decide ((d.read ((frm + i : Nat) : Int) 1).1 = x) then wipeGo frm l (i + 1) wr d
       else bif decide ((d.write ((frm + i : Nat) : Int) x).2 = 0) then wipeGo frm l (i + 1) true (d.write ((frm + i : Nat) : Int) x).1 else (true, (d.write ((frm + i : Nat) : Int) x).1, (d.write ((frm + i : Nat) : Int) x).2))
    else (wr, d, (d.read ((frm + i : Nat) : Int) 1).2)
def Lg.wipeR (L : Lg) (d : Dk) : Bool × Dk × Int := wipeGo L.frm L.want 0 false d
def Lg.wipe (L : Lg) (d : Dk) : Dk × Int :=
  bif decide ((L.wipeR d).2.2 = 0) then (bif (L.wipeR d).1 then (L.wipeR d).2.1.sync else ((L.wipeR d).2.1, 0)) else (L.wipeR d).2

theorem clr_mem (n : Nat) : ∀ (f k : Nat) (W : List Bs) (x : Bs), x ∈ clr n f k W → x ∈ W ∨ x = []
  | 0, _, W, x, h => .inl h
  | f + 1, k, W, x, h => by
    rw [clr] at h
    rcases clr_mem n f _ _ x h with h | h
    · exact List.mem_or_eq_of_mem_set h
    · exact .inr h
theorem want_mem {L : Lg} {x : Bs} (h : x ∈ L.want) : x.length ≤ 64 := by
  have h1 : ∀ x ∈ L.want1, x.length ≤ 64 := by
    intro x hx
    rcases clr_mem _ _ _ _ _ hx with h | rfl
    · rw [(List.mem_replicate.1 h).2]; simp [Dk.zsec]
    · simp
  unfold Lg.want at h
  cases hb : decide (L.bytes L.lastB = []) with
  | true => rw [hb] at h; exact h1 x h
  | false =>
    rw [hb, cond_false] at h
    rcases List.mem_or_eq_of_mem_set h with h | rfl
    · exact h1 x h
    · rw [Lg.seal_len (Lg.bytes_len L _)]; omega
theorem wipe_err {L : Lg} {d e : Dk} {wr : Bool} {er : Int} (h : L.wipeR d = (wr, e, er)) (he : er ≠ 0) : L.wipe d = (e, er) := by
  unfold Lg.wipe; rw [h]; simp [he]
theorem wipe_ok {L : Lg} {d e : Dk} {wr : Bool} (h : L.wipeR d = (wr, e, 0)) : L.wipe d = bif wr then e.sync else (e, 0) := by
  unfold Lg.wipe; rw [h]; rfl

theorem row59 (w : World) (n : Nat) (h : n ≤ 1000000) : (Instr.makeSlice 59 (iv n) (iv n)).run Tryz.prog w = .ok (.slice (some ⟨w.heap.size, 0, none⟩) n n) (w.alloc (.cells (List.replicate n (stv [])).toArray 9)) := by
  obtain ⟨i, h1, h2, h3, h4⟩ := info_of (P := Tryz.prog) (e := 9) (z := stv []) (n := 1) (b := 16) (by kernel_rfl)
  exact VRow.make Tryz.underlying59 h1 h2 h3 rfl w n (by rw [h4]; omega) (by omega)
def Dm (db g m : Nat) (y : Nat) : Prop := y = db ∨ y = g ∨ y = m
structure WW (w w' : World) (q : Nat) (X : Nat → Prop) (lb db g m : Nat) (L : Lg) (e : Dk) (W : List Bs) : Prop where
  hL : LAt w' X lb db L
  hd : DAt w' db g m e
  hr : VRow w' q 9 (W.map stv)
  hF : Fm (Dm db g m) w w'
  hq : w.heap.size ≤ q
  hX : ∀ y, X y → y < w.heap.size
  hD : db < w.heap.size ∧ g < w.heap.size ∧ m < w.heap.size
  hXD : ∀ y, X y → ¬ Dm db g m y
section
variable {w w' w2 : World} {q : Nat} {X : Nat → Prop} {lb db g m : Nat} {L : Lg} {e e' : Dk} {W : List Bs}
theorem WW.keep0 (h : WW w w' q X lb db g m L e W) (hf : Fm (fun _ => False) w' w2) : WW w w2 q X lb db g m L e W :=
  ⟨h.hL.keep0 hf, h.hd.keep0 hf, h.hr.keep hf (fun e => e), h.hF.trans hf (fun _ _ e => e) (fun _ _ e => e.elim), h.hq, h.hX, h.hD, h.hXD⟩
theorem WW.put (h : WW w w' q X lb db g m L e W) {i : Nat} (hi : i < W.length) {x : Bs} {k : KV} (hk : ∀ w2, WW w w2 q X lb db g m L e (W.set i x) → k undef w2) : St 1 w' (.pointer (some ⟨q, i, none⟩)) (stv x) k := by
  refine h.hr.put (by simpa using hi) rfl ?_
  intro w2 h1 h2 h3
  have hq := h.hq
  rw [← List.map_set] at h1
  refine hk w2 ⟨h.hL.keep h3 (fun y hy e => ?_), h.hd.keep h3 (fun e => ?_) (fun e => ?_) (fun e => ?_), h1, Fm.step h.hF h3 (fun y hy => .inr (hy ▸ hq)), hq, h.hX, h.hD, h.hXD⟩
  · have := h.hX y hy; omega
  · have := h.hD.1; omega
  · have := h.hD.2.1; omega
  · have := h.hD.2.2; omega
theorem WW.disk (h : WW w w' q X lb db g m L e W) (hd : DAt w2 db g m e') (hf : Fm (fun y => y = db ∨ y = g ∨ y = m) w' w2) : WW w w2 q X lb db g m L e' W := by
  have hq := h.hq
  have hD := h.hD
  refine ⟨h.hL.keep hf h.hXD, hd, h.hr.keep hf ?_, h.hF.trans hf (fun _ _ e => e) (fun _ _ e => e), hq, h.hX, h.hD, h.hXD⟩
  rintro (e | e | e) <;> omega
end
set_option maxHeartbeats 8000000 in
theorem wwipe_spec {w : World} {X : Nat → Prop} {lb db g m : Nat} {L : Lg} {d : Dk} (h : LAt w X lb db L) (hd : DAt w db g m d) (hX : ∀ y, X y → ¬ Dm db g m y) :
    Cl Tryz.prog 141 [pv lb] w fun v w' => v = iv (L.wipe d).2 ∧ LAt w' X lb db L ∧ DAt w' db g m (L.wipe d).1 ∧ Fm (Dm db g m) w w' := by
  have h1 := h.wf.st; have h2 := h.wf.low; have h4 := h.wf.bs; have h5 := h.wf.n4; have h6 := h.wf.big
  have hb := Lg.baseOf_le h1.1
  rw [← h4] at hb
  obtain ⟨P, mb, kv, M, hi⟩ := h.ex
  refine c141 ?_; unfold T141
  simp only [RS0, RS1, RS2, RS3, RS4, RS5, hi.c2]
  refine RunS_ok (row59 w L.n (by omega)) ?_
  have hfa := Fm.alloc (fun _ => False) w (.cells (List.replicate L.n (stv [])).toArray 9)
  have hr0 : VRow (w.alloc (.cells (List.replicate L.n (stv [])).toArray 9)) w.heap.size 9 ((List.replicate L.n ([] : Bs)).map stv) := by
    rw [List.map_replicate]; exact alloc_new _ _
  have hW0 : WW w (w.alloc (.cells (List.replicate L.n (stv [])).toArray 9)) w.heap.size X lb db g m L d (List.replicate L.n []) :=
    ⟨h.keep0 hfa, hd.keep0 hfa, hr0, hfa.mono (fun _ _ e => e.elim), Nat.le_refl _, h.lt, hd.lt, hX⟩
  generalize w.alloc (.cells (List.replicate L.n (stv [])).toArray 9) = w1 at hW0
  clear hr0 hfa
  generalize w.heap.size = q at hW0
  simp only [RS0, RS1, RS2, RS3, RS4, RS5]
  refine ⟨fun vs w' => ∃ i : Nat, vs = [iv (i : Int)] ∧ i ≤ L.n ∧ WW w w' q X lb db g m L d (List.replicate i Dk.zsec ++ List.replicate (L.n - i) []), fun vs _ => (L.n - nth vs 0).toNat, ⟨0, rfl, by omega, hW0⟩, ?_⟩
  rintro _ w2 ivv ⟨i, hvs, hin, hW⟩
  cases hvs
  by_cases hlt : i < L.n
  · have d1 : decide ((i : Int) < (L.n : Int)) = true := by rw [decide_eq_true_eq]; omega
    have e2 : IntKind.i64.wrap ((i : Int) + 1) = ((i + 1 : Nat) : Int) := by rw [wrap_id] <;> omega
    simp only [RS0, RS1, RS2, RS3, RS4, RS5, d1]
    refine (repeat_spec w2 64 (by omega)).mono ?_
    rintro _ w3 ⟨rfl, hf3⟩
    simp only [RS0, RS1, RS2, RS3, RS4, RS5, ixV_at hlt, Nat.mul_one]
    refine (hW.keep0 hf3).put (x := zeros 64) (by simp; omega) ?_
    intro w4 hW4
    simp only [RS0, RS1, RS2, RS3, RS4, RS5, e2]
    refine ⟨⟨i + 1, rfl, by omega, ?_⟩, by simp only [nth_0]; omega⟩
    have : (List.replicate i Dk.zsec ++ List.replicate (L.n - i) ([] : Bs)).set i (zeros 64) = List.replicate (i + 1) Dk.zsec ++ List.replicate (L.n - (i + 1)) [] := by
      rw [List.set_append_right _ _ (by simp), show L.n - i = (L.n - (i + 1)) + 1 by omega]
      simp only [List.length_replicate, Nat.sub_self, List.replicate_succ, List.set_cons_zero]
      rw [← List.replicate_succ, List.replicate_succ', List.append_assoc]; rfl
    rw [← this]; exact hW4
  have hie : i = L.n := by omega
  subst hie
  have d1 : decide ((L.n : Int) < (L.n : Int)) = false := by simp
  rw [Nat.sub_self, List.replicate_zero, List.append_nil] at hW
  simp only [RS0, RS1, RS2, RS3, RS4, RS5, d1]
  clear d1 hlt hW0
  refine (wtail_spec hW.hL).mono ?_
  rintro _ w3 ⟨rfl, hf3⟩
  have hW3 := hW.keep0 hf3
  refine (wof_spec w3 (n := L.tail) (by omega) (by omega)).mono ?_
  rintro _ w3 ⟨rfl, rfl⟩
  obtain ⟨P3, mb3, kv3, M3, hi3⟩ := hW3.hL.ex
  simp only [RS0, RS1, RS2, RS3, RS4, RS5, hi3.c5]
  refine (wof_spec w3 (n := L.start) (by omega) (by omega)).mono ?_
  rintro _ w3 ⟨rfl, rfl⟩
  have hlb : (L.tail - 1) / 54 = L.lastB := rfl
  rw [hlb]
  have hle : (L.start - 1) / 54 ≤ L.lastB := by unfold Lg.lastB; omega
  have hlm : L.lastB * 54 + 1 ≤ L.tail := by unfold Lg.lastB; omega
  have hbl : L.base ≤ L.lastB * 54 + 1 := by rw [h4]; unfold Lg.baseOf Lg.lastB; omega
  refine ⟨fun vs w' => ∃ (k : Nat) (W : List Bs), vs = [iv (k : Int)] ∧ k ≤ L.lastB ∧ W.length = L.n ∧ clr L.n (L.lastB - k) k W = L.want1 ∧ WW w w' q X lb db g m L d W, fun vs _ => (L.lastB - nth vs 0).toNat, ⟨(L.start - 1) / 54, _, rfl, hle, by simp, rfl, hW3⟩, ?_⟩
  rintro _ w4 kvv ⟨k, W, hvs, hk, hWl, hcl, hW4⟩
  cases hvs
  by_cases hlt : k < L.lastB
  · have d1 : decide ((k : Int) < (L.lastB : Int)) = true := by rw [decide_eq_true_eq]; omega
    have e2 : IntKind.i64.wrap ((k : Int) + 1) = ((k + 1 : Nat) : Int) := by rw [wrap_id] <;> omega
    have e3 := rem_nat (TypeDesc.int IntKind.i64) (n := k) (m := L.n) (by omega) (by omega) (b := (L.n : Int)) rfl
    have hm := Nat.mod_lt k (show 0 < L.n by omega)
    obtain ⟨P4, mb4, kv4, M4, hi4⟩ := hW4.hL.ex
    simp only [RS0, RS1, RS2, RS3, RS4, RS5, d1, hi4.c2, e3, ixV_at hm, Nat.mul_one]
    refine hW4.put (x := []) (by omega) ?_
    intro w5 hW5
    simp only [RS0, RS1, RS2, RS3, RS4, RS5, e2]
    refine ⟨⟨k + 1, _, rfl, by omega, by simpa using hWl, ?_, hW5⟩, by simp only [nth_0]; omega⟩
    rw [← hcl, show L.lastB - k = (L.lastB - (k + 1)) + 1 by omega, clr]
  have hke : k = L.lastB := by omega
  subst hke
  have d1 : decide ((L.lastB : Int) < (L.lastB : Int)) = false := by simp
  rw [Nat.sub_self, clr] at hcl
  subst hcl
  simp only [RS0, RS1, RS2, RS3, RS4, RS5, d1]
  clear d1 hlt
  refine Jn_at (fun vs w5 => vs = [] ∧ WW w w5 q X lb db g m L d L.want) ?_ ?_
  · rintro _ w5 ⟨rfl, hW5⟩ _
    refine ⟨rfl, ?_⟩
    have hwl := want_len L
    try simp only [RS0, RS1, RS2, RS3, RS4, RS5]
    refine ⟨fun vs w' => ∃ (wr : Bool) (i : Nat) (e : Dk), vs = [.bool wr, iv (i : Int)] ∧ i ≤ L.n ∧ wipeGo L.frm (L.want.drop i) i wr e = L.wipeR d ∧ WW w w' q X lb db g m L e L.want, fun vs _ => (L.n - nth vs 1).toNat, ⟨false, 0, d, rfl, by omega, by rw [List.drop_zero]; rfl, hW5⟩, ?_⟩
    rintro _ w6 wrv ivv ⟨wr, i, e, hvs, hin, hgo, hW6⟩
    cases hvs
    by_cases hlt : i < L.n
    · have d1 : decide ((i : Int) < (L.n : Int)) = true := by rw [decide_eq_true_eq]; omega
      have e2 : IntKind.i64.wrap ((i : Int) + 1) = ((i + 1 : Nat) : Int) := by rw [wrap_id] <;> omega
      have e3 : IntKind.i64.wrap ((L.frm : Int) + (i : Int)) = ((L.frm + i : Nat) : Int) := by rw [wrap_id] <;> omega
      have hx : L.want[i]? = some L.want[i] := List.getElem?_eq_getElem (by omega)
      have hdr := List.drop_eq_getElem_cons (show i < L.want.length by omega)
      generalize L.want[i] = x at hx hdr
      rw [hdr, wipeGo] at hgo
      have hc : ∀ {w'}, WW w w' q X lb db g m L e L.want → w'.cell? ⟨q, i, none⟩ = some (stv x) := fun hw => by
        rw [hw.hr.cell, List.getElem?_map, hx]; rfl
      have hxl : x.length ≤ 64 := want_mem (List.mem_of_getElem? hx)
      simp only [RS0, RS1, RS2, RS3, RS4, RS5, d1]
      refine Jn_at (fun vs w7 => ∃ (wr' : Bool) (e' : Dk), vs = [.bool wr'] ∧ wipeGo L.frm (L.want.drop (i + 1)) (i + 1) wr' e' = L.wipeR d ∧ WW w w7 q X lb db g m L e' L.want) ?_ ?_
      · rintro _ w7 ⟨wr', e', rfl, hgo', hW7⟩ _
        refine ⟨_, rfl, ?_⟩
        simp only [RS0, RS1, RS2, RS3, RS4, RS5, e2]
        exact ⟨⟨wr', i + 1, e', rfl, by omega, hgo', hW7⟩, by simp only [nth_1]; omega⟩
      intro kk hkk
      simp only [RS0, RS1, RS2, RS3, RS4, RS5, ixV_at hlt, Nat.mul_one, hc hW6, str_nil, str_inj]
      cases hz : decide (x = []) with
      | true =>
        rw [hz, cond_true] at hgo
        simp only [RS0, RS1, RS2, RS3, RS4, RS5]
        exact hkk _ _ ⟨wr, e, rfl, hgo, hW6⟩
      | false =>
      rw [hz, cond_false] at hgo
      have hW7 := hW6.keep0 (Fm.drew _ w6)
      obtain ⟨P7, mb7, kv7, M7, hi7⟩ := hW7.hL.ex
      have hi7c0 : w6.cell? ⟨lb, 0, none⟩ = some (pv db) := hi7.c0
      have hi7c1 : w6.cell? ⟨lb, 1, none⟩ = some (iv (L.frm : Int)) := hi7.c1
      simp only [RS0, RS1, RS2, RS3, RS4, RS5, hi7c0, hi7c1, e3, true_and]
      refine (dread_spec hW7.hd ((L.frm + i : Nat) : Int) 1).mono ?_
      rintro _ w8 ⟨rfl, rfl⟩
      have hrn := read_len hW7.hd.wf (a := ((L.frm + i : Nat) : Int))
      generalize hrd : e.read ((L.frm + i : Nat) : Int) 1 = rd at hgo hrn
      simp only [RS0, RS1, RS2, RS3, RS4, RS5]
      refine Jn_at (fun vs w9 => ∃ (wr' : Bool) (e' : Dk) (er : Int), vs = [.bool wr', iv er] ∧ WW w w9 q X lb db g m L e' L.want ∧ ((er = 0 ∧ wipeGo L.frm (L.want.drop (i + 1)) (i + 1) wr' e' = L.wipeR d) ∨ (er ≠ 0 ∧ L.wipe d = (e', er)))) ?_ ?_
      · rintro _ w9 ⟨wr', e', er, rfl, hW9, hcase⟩ _
        refine ⟨_, _, rfl, ?_⟩
        simp only [RS0, RS1, RS2, RS3, RS4, RS5, bne_dec]
        rcases hcase with ⟨rfl, hgo'⟩ | ⟨hne, hwp⟩
        · simp only [RS0, RS1, RS2, RS3, RS4, RS5, decide_true]
          exact hkk _ _ ⟨wr', e', rfl, hgo', hW9⟩
        · have : decide (er = 0) = false := by simpa using hne
          rw [hwp]
          simp only [RS0, RS1, RS2, RS3, RS4, RS5, this]
          exact ⟨(by trivial), hW9.hL, hW9.hd, hW9.hF⟩
      intro jj hjj
      simp only [RS0, RS1, RS2, RS3, RS4, RS5, beq_dec]
      cases hz0 : decide (rd.2 = 0) with
      | false =>
        rw [hz0, cond_false] at hgo
        rw [decide_eq_false_iff_not] at hz0
        simp only [RS0, RS1, RS2, RS3, RS4, RS5]
        exact hjj _ _ ⟨wr, e, rd.2, rfl, hW7, .inr ⟨hz0, wipe_err hgo.symm hz0⟩⟩
      | true =>
      rw [hz0, cond_true] at hgo
      rw [decide_eq_true_eq] at hz0
      simp only [RS0, RS1, RS2, RS3, RS4, RS5, str_inj]
      cases hz1 : decide (rd.1 = x) with
      | true =>
        rw [hz1, cond_true] at hgo
        simp only [RS0, RS1, RS2, RS3, RS4, RS5]
        exact hjj _ _ ⟨wr, e, rd.2, rfl, hW7, .inl ⟨hz0, hgo⟩⟩
      | false =>
      rw [hz1, cond_false] at hgo
      have hW10 := hW7.keep0 (Fm.drew _ w6.drew)
      simp only [RS0, RS1, RS2, RS3, RS4, RS5, hi7c0, hi7c1, e3, true_and]
      refine (dwrite_spec hW10.hd ((L.frm + i : Nat) : Int) x (by omega)).mono ?_
      rintro _ w11 ⟨rfl, hd11, hf11⟩
      have hW11 := hW10.disk hd11 hf11
      generalize e.write ((L.frm + i : Nat) : Int) x = wd at hgo hW11
      cases hz2 : decide (wd.2 = 0) with
      | true =>
        rw [hz2, cond_true] at hgo
        rw [decide_eq_true_eq] at hz2
        exact hjj _ _ ⟨true, wd.1, wd.2, rfl, hW11, .inl ⟨hz2, hgo⟩⟩
      | false =>
        rw [hz2, cond_false] at hgo
        rw [decide_eq_false_iff_not] at hz2
        exact hjj _ _ ⟨true, wd.1, wd.2, rfl, hW11, .inr ⟨hz2, wipe_err hgo.symm hz2⟩⟩
    · have hie : i = L.n := by omega
      subst hie
      have d1 : decide ((L.n : Int) < (L.n : Int)) = false := by simp
      rw [List.drop_eq_nil_of_le (by omega), wipeGo] at hgo
      have hwp := wipe_ok hgo.symm
      simp only [RS0, RS1, RS2, RS3, RS4, RS5, d1]
      cases wr with
      | false =>
        rw [cond_false] at hwp
        rw [hwp]
        simp only [RS0, RS1, RS2, RS3, RS4, RS5]
        exact ⟨(by trivial), hW6.hL, hW6.hd, hW6.hF⟩
      | true =>
        rw [cond_true] at hwp
        rw [hwp]
        obtain ⟨P7, mb7, kv7, M7, hi7⟩ := hW6.hL.ex
        simp only [RS0, RS1, RS2, RS3, RS4, RS5, hi7.c0]
        refine (dsync_spec hW6.hd).mono ?_
        rintro _ w8 ⟨rfl, hd8, hf8⟩
        have hW8 := hW6.disk hd8 hf8
        exact ⟨rfl, hW8.hL, hW8.hd, hW8.hF⟩
  · intro kk hkk
    refine (wbytes_spec hW4.hL hbl hlm).mono ?_
    rintro _ w5 ⟨rfl, hf5⟩
    have hW5 := hW4.keep0 hf5
    simp only [RS0, RS1, RS2, RS3, RS4, RS5, str_nil, str_inj]
    cases hz : decide (L.bytes L.lastB = []) with
    | true =>
      have hwant : L.want = L.want1 := by unfold Lg.want; rw [hz]; rfl
      simp only [RS0, RS1, RS2, RS3, RS4, RS5]
      exact hkk _ _ ⟨rfl, by rw [hwant]; exact hW5⟩
    | false =>
      have hwant : L.want = L.want1.set (L.lastB % L.n) (sealB L.lastB (L.bytes L.lastB)) := by unfold Lg.want; rw [hz]; rfl
      have hfd := Fm.drew (fun _ => False) w5
      have e3 := rem_nat (TypeDesc.int IntKind.i64) (n := L.lastB) (m := L.n) (by omega) (by omega) (b := (L.n : Int)) rfl
      have hm := Nat.mod_lt L.lastB (show 0 < L.n by omega)
      simp only [RS0, RS1, RS2, RS3, RS4, RS5]
      refine ⟨fun w' => Fm (fun _ => False) w5 w', hfd, ?_⟩
      refine ⟨iv (L.n : Int), fun w' h' => ?_, ?_⟩
      · obtain ⟨P', mb', kv', M', hi'⟩ := (hW5.keep0 h').hL.ex
        simp only [RS0, RS1, RS2, RS3, RS4, RS5, hi'.c2] <;> trivial
      simp only [RS0, RS1, RS2, RS3, RS4, RS5, e3]
      refine (wseal_spec w5.drew (k := L.lastB) (by omega) (Lg.bytes_len L _)).mono ?_
      rintro _ w6 ⟨rfl, hf6⟩
      have hF6 := Fmf hfd hf6
      refine ⟨hF6, ?_⟩
      simp only [RS0, RS1, RS2, RS3, RS4, RS5, ixV_at hm, Nat.mul_one]
      refine (hW5.keep0 hF6).put (by omega) ?_
      intro w7 hW7
      exact hkk _ _ ⟨rfl, by rw [hwant]; exact hW7⟩
end Go.Proofs.YthbngnlmgplijaaGreatDoor

namespace Go.Proofs.YthbngnlmgplijaaGreatDoor
open Go.Al Go.Proofs
set_option linter.unusedVariables false
set_option linter.unusedSimpArgs false
set_option linter.unusedSectionVars false
set_option maxRecDepth 100000

def fitsD (d : Dk) (frm n : Int) : Bool := decide (4 ≤ n) && (decide (0 ≤ frm) && (decide (n ≤ d.cur.length) && decide (frm ≤ d.cur.length - n)))
theorem wfits_spec {w : World} {b g m : Nat} {d : Dk} (h : DAt w b g m d) (frm n : Int) : Cl Tryz.prog 93 [pv b, iv frm, iv n] w fun v w' => v = .bool (fitsD d frm n) ∧ w' = w := by
  have hn := h.wf.n1
  unfold fitsD
  refine c93 ?_; unfold T93
  cases e1 : decide (4 ≤ n) with
  | false =>
    simp only [RS0, RS1, RS2, RS3, RS4, RS5, e1, Bool.false_and]
    exact ⟨(by trivial), (by trivial)⟩
  | true =>
  cases e2 : decide (0 ≤ frm) with
  | false =>
    simp only [RS0, RS1, RS2, RS3, RS4, RS5, e1, e2, Bool.false_and, Bool.and_false]
    exact ⟨(by trivial), (by trivial)⟩
  | true =>
  simp only [RS0, RS1, RS2, RS3, RS4, RS5, e1, e2]
  refine (dsize_spec h).mono ?_
  rintro _ w ⟨rfl, rfl⟩
  cases e3 : decide (n ≤ (d.cur.length : Int)) with
  | false =>
    simp only [RS0, RS1, RS2, RS3, RS4, RS5, e3, Bool.false_and, Bool.and_false]
    exact ⟨(by trivial), (by trivial)⟩
  | true =>
  simp only [RS0, RS1, RS2, RS3, RS4, RS5, e3]
  refine (dsize_spec h).mono ?_
  rintro _ w ⟨rfl, rfl⟩
  rw [decide_eq_true_eq] at e1 e3
  have e4 : IntKind.i64.wrap ((d.cur.length : Int) - n) = (d.cur.length : Int) - n := by rw [wrap_id]; omega
  simp only [RS0, RS1, RS2, RS3, RS4, RS5, e4, Bool.true_and]
  exact ⟨(by trivial), (by trivial)⟩
def fmtE (d : Dk) (frm n : Int) : Dk × Int :=
  bif fitsD d frm n then (bif decide ((d.write frm (zeros (n * 64).toNat)).2 = 0) then (d.write frm (zeros (n * 64).toNat)).1.sync else d.write frm (zeros (n * 64).toNat)) else (d, 1)
theorem bld132 (db mb : Nat) (frm n a b c : Int) (w : World) : (Instr.build 132 #[(0, pv db), (1, iv frm), (2, iv n), (3, iv a), (5, iv b), (6, iv c), (8, .map (some mb))]).run Tryz.prog w = .ok (.agg #[pv db, iv frm, iv n, iv a, .slice none 0 0, iv b, iv c, iv 0, .map (some mb)]) w := by kernel_rfl
theorem bld132o (db mb : Nat) (frm n a b : Int) (w : World) : (Instr.build 132 #[(0, pv db), (1, iv frm), (2, iv n), (3, iv a), (5, iv b), (8, .map (some mb))]).run Tryz.prog w = .ok (.agg #[pv db, iv frm, iv n, iv a, .slice none 0 0, iv b, iv 0, iv 0, .map (some mb)]) w := by kernel_rfl
set_option maxHeartbeats 2000000 in
theorem wformat_spec {w : World} {b g m : Nat} {d : Dk} (h : DAt w b g m d) (frm n : Int) : Cl Tryz.prog 18 [pv b, iv frm, iv n] w fun v w' => ∃ p, v = .tuple #[p, iv (fmtE d frm n).2] ∧ DAt w' b g m (fmtE d frm n).1 ∧ Fm (Dm b g m) w w' ∧
    ((fmtE d frm n).2 ≠ 0 → p = .pointer none) ∧ ((fmtE d frm n).2 = 0 → ∃ lb X, p = pv lb ∧ LAt w' X lb b (Lg.new frm.toNat n.toNat) ∧ ∀ y, X y → w.heap.size ≤ y) := by
  have hn := h.wf.n1
  have hlt := h.lt
  have up : ∀ {w1 : World}, Fm (fun _ => False) w w1 → Fm (Dm b g m) w w1 := fun hf => hf.mono (fun _ _ e => e.elim)
  unfold fmtE
  refine c18 ?_; unfold T18
  refine (wfits_spec h frm n).mono ?_
  rintro _ w ⟨rfl, rfl⟩
  cases hfi : fitsD d frm n with
  | false =>
    simp only [RS0, RS1, RS2, RS3, RS4, RS5, cond_false]
    exact ⟨_, (by trivial), h, Fm.refl _ _, fun _ => rfl, fun e => absurd e (by decide)⟩
  | true =>
  have hfi' := hfi
  unfold fitsD at hfi'
  simp only [Bool.and_eq_true, decide_eq_true_eq] at hfi'
  obtain ⟨f1, f2, f3, f4⟩ := hfi'
  obtain ⟨j, rfl⟩ := Int.eq_ofNat_of_zero_le (show 0 ≤ n by omega)
  obtain ⟨i, rfl⟩ := Int.eq_ofNat_of_zero_le f2
  have e1 : IntKind.i64.wrap ((j : Int) * 64) = ((j * 64 : Nat) : Int) := by rw [wrap_id] <;> omega
  have e2 : ((j : Int) * 64).toNat = j * 64 := by omega
  rw [e2]
  simp only [RS0, RS1, RS2, RS3, RS4, RS5, e1, cond_true]
  refine (repeat_spec w (j * 64) (by omega)).mono ?_
  rintro _ w1 ⟨rfl, hf1⟩
  refine (dwrite_spec (h.keep0 hf1) (i : Int) (zeros (j * 64)) (by rw [Lg.zeros_len']; omega)).mono ?_
  rintro _ w2 ⟨rfl, hd2, hf2⟩
  have hF2 := (up hf1).trans hf2 (fun _ _ e => e) (fun _ _ e => e)
  generalize d.write (i : Int) (zeros (j * 64)) = e at hd2
  simp only [RS0, RS1, RS2, RS3, RS4, RS5, bne_dec]
  cases hz : decide (e.2 = 0) with
  | false =>
    rw [decide_eq_false_iff_not] at hz
    simp only [RS0, RS1, RS2, RS3, RS4, RS5, cond_false, Bool.not_false]
    exact ⟨_, (by trivial), hd2, hF2, fun _ => rfl, fun e => absurd e hz⟩
  | true =>
  simp only [RS0, RS1, RS2, RS3, RS4, RS5, cond_true, Bool.not_true]
  refine (dsync_spec hd2).mono ?_
  rintro _ w3 ⟨rfl, hd3, hf3⟩
  have hF3 := hF2.trans hf3 (fun _ _ e => e) (fun _ _ e => e)
  generalize e.1.sync = s at hd3
  simp only [RS0, RS1, RS2, RS3, RS4, RS5, bne_dec]
  cases hz2 : decide (s.2 = 0) with
  | false =>
    rw [decide_eq_false_iff_not] at hz2
    simp only [RS0, RS1, RS2, RS3, RS4, RS5, Bool.not_false]
    exact ⟨_, (by trivial), hd3, hF3, fun _ => rfl, fun e => absurd e hz2⟩
  | true =>
  rw [decide_eq_true_eq] at hz2
  simp only [RS0, RS1, RS2, RS3, RS4, RS5, Bool.not_true]
  refine RunS_ok (makeMap_run _ _) ?_
  have hM := MapAt.empty w3 iv Value.agg
  have hfm := Fm.alloc (fun _ => False) w3 (.map #[] 0)
  have hms := alloc_size w3 (.map #[] 0)
  generalize w3.alloc (.map #[] 0) = w4 at hM hfm hms
  refine RunS_ok (bld132 b w3.heap.size _ _ _ _ _ _) ?_
  refine New_any ?_
  intro lb w5 hlb hs5 hw5 hf5
  have hF5 := Fmf hfm hf5
  have z3 := hF3.size
  refine ⟨_, by rw [hz2], hd3.keep0 hF5, hF3.trans hF5 (fun _ _ e => e) (fun _ _ e => e.elim), fun e => absurd hz2 e, fun _ => ⟨lb, fun y => y = lb ∨ y = w3.heap.size, rfl, ⟨Lg.wf_new (by omega) (by omega), fun _ => False, w3.heap.size, .slice none 0 0, [], hw5, KpAt.nil _ _, hM.keep hf5 (fun e => e), rfl, (fun k cs hm => by cases hm), ⟨.inl rfl, .inr rfl, (fun y hy => by cases hy), fun y hy => hy.elim⟩, ⟨(fun e => e), (fun e => e), (fun y hy e => e)⟩, ?_⟩, ?_⟩⟩
  · rintro y (rfl | rfl) <;> omega
  · rintro y (rfl | rfl) <;> omega
theorem wformat_nil (w : World) (a k : Value) : Cl Tryz.prog 93 [.pointer none, a, k] w fun v w' => v = .bool false ∧ w' = w := by
  refine c93 ?_; unfold T93
  simp only [RS0, RS1, RS2, RS3, RS4, RS5]
  exact ⟨(by trivial), (by trivial)⟩
end Go.Proofs.YthbngnlmgplijaaGreatDoor
