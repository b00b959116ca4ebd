/- Laid for one claim by slim.py out of: parts. -/
import Derived.Test.YthbngnlmgplijaaGreatDoorWplD
set_option maxRecDepth 100000
set_option maxHeartbeats 0
set_option linter.unusedVariables false
set_option linter.unusedSimpArgs false
set_option linter.unusedSectionVars false
open Go.Proofs.Tryz (prog)
namespace Go.Proofs.YthbngnlmgplijaaGreatDoor
open Go.Al Go.Proofs
theorem dY {w : World} {X : Nat → Prop} {lb db : Nat} {L : Lg} (h : LAt w X lb db L) {cs : Array Value} {r : Rc} (hr' : ∀ w', Fm X w w' → RcAs w' cs r) :
  Cl prog 21 [pv lb, .agg cs] w fun v w' => v = .tuple #[iv (L.append r).2.1, iv (L.append r).2.2] ∧ ∃ X', LAt w' X' lb db (L.append r).1 ∧ (∀ y, X' y → X y ∨ w.heap.size ≤ y) ∧ Fm X w w' := by
 have hr := hr' w (Fm.refl _ _)
 have hwf := h.wf.append r hr.lsns
 have hlow := h.wf.low
 obtain ⟨vs, vm, vi, vp, vt, rfl, _⟩ := hr.ex
 have same : ∀ {w' : World}, Fm (fun _ => False) w w' → ∃ X', LAt w' X' lb db L ∧ (∀ y, X' y → X y ∨ w.heap.size ≤ y) ∧ Fm X w w' := fun hf => ⟨X, h.keep0 hf, fun y hy => .inl hy, hf.mono (fun _ _ e => e.elim)⟩
 unfold Lg.append at hwf ⊢
 refine c21 ?_; unfold T21
 refine ao ?_
 intro x1 w1 hx1 hs1 hw1 hf1
 simp only [RS]
 refine (cr (h.keep0 hf1)).mono ?_
 rintro _ w2 ⟨rfl, hf2⟩
 have hF2 := Fmf hf1 hf2
 have hw2 := hf2.heap hw1 (fun e => e)
 try simp only [RS]
 refine ay hw2 (by show 0 < 16; decide) rfl ?_
 intro w3 hw3 hs3 hf3
 have hF3 : Fm (fun _ => False) w w3 := Fm.own hF2 hf3 (by rintro y rfl; omega)
 replace hw3 : w3.heap[x1]? = some (.cells (rcs (atR r L.tail) vs vm vi vp vt) 28) := hw3
 have hra := (hr.keep hF3).atR hlow
 simp only [RS, ax hw3 (n := 16) rfl]
 refine (kn hra).mono ?_
 rintro _ w4 ⟨rfl, hf4⟩
 have hF4 := Fmf hF3 hf4
 rw [nb]
 simp only [RS, al]
 cases hc : decide ((rCheck (atR r L.tail)).2 = 0) with
 | false =>
  simp only [RS, Bool.not_false, cond_false]
  exact ⟨(by trivial), same hF4⟩
 | true =>
 rw [hc] at hwf
 rw [decide_eq_true_eq] at hc
 have hel := Lg.enc_len hc hra.lsns
 simp only [RS, Bool.not_true, cond_true, aj]
 refine (ey (h.keep0 hF4)).mono ?_
 rintro _ w5 ⟨rfl, hf5⟩
 have hF5 := Fmf hF4 hf5
 cases hrm : decide (L.room < ((rEnc (atR r L.tail)).1.length : Int)) with
 | true =>
  simp only [RS, hrm, cond_true]
  exact ⟨(by trivial), same hF5⟩
 | false =>
 rw [hrm] at hwf
 simp only [RS, hrm, cond_false]
 obtain ⟨P, mb, kv, M, hi0⟩ := h.ex
 have hi := hi0.keep0 hF5
 have hsm := h.wf.small
 have hw5 := hf5.heap (hf4.heap hw3 (fun e => e)) (fun e => e)
 have hra5 := (hra.keep hf4).keep hf5
 generalize hE : (rEnc (atR r L.tail)).1 = E at hel hwf
 simp only [cond_true, cond_false] at hwf
 have z5 := hF5.size
 simp only [RS, hi.c4]
 obtain ⟨kv', w6, hr6, hk6, hf6, hb6⟩ := hi.kp.app B44 E 123 (by omega)
 refine af hr6 ?_
 have hst6 := hf6.heap hi.st hi.nk
 try simp only [RS]
 refine ay hst6 (by show 4 < 9; decide) hk6.one ?_
 intro w7 hw7 hs7 hf7
 replace hw7 : w7.heap[lb]? = some (.cells #[pv db, iv (L.frm : Int), iv (L.n : Int), iv (L.base : Int), kv', iv (L.start : Int), iv (L.last : Int), iv L.res, .map (some mb)] 132) := hw7
 have hx1 : x1 ≠ lb := by have := hi0.lt lb hi0.xs.1; omega
 have hkx : kv.ownBlock ≠ some x1 := fun e => by have := hi0.lt x1 (hi0.xs.2.2.1 x1 e); omega
 have hw7x := hf7.heap (hf6.heap hw5 hkx) hx1
 have hfd := Fm.drew (fun _ => False) w7
 have hK7 : KpAt w7 5 kv' (L.kept ++ E) := hk6.keep hf7 (fun y hy e => hk6.neT hst6 (by decide) (by rw [hy, e]))
 have hM7 : MapAt w7 mb iv Value.agg M := (hi.mp.keep hf6 (fun e => hi.km e)).keep hf7 hi.nm
 have hR7 : ∀ {w'}, Fm (fun _ => False) w7 w' → ∀ k cs, (k, cs) ∈ M → ∃ r, (k, r) ∈ L.recs ∧ Held w' P cs r := fun hf k cs hm => by
  obtain ⟨r', q1, q2⟩ := hi.rec_ k cs hm
  exact ⟨r', q1, ((q2.keep hf6 (fun y hy e => hi.ps.2.2 y e hy)).keep hf7 (fun y hy e => hi.ps.1 (e ▸ hy))).keep hf (fun _ _ e => e)⟩
 have hX7 : Fm X w w7 := Fm.step (Fm.step (hF5.mono (fun _ _ e => e.elim)) hf6 (fun y hy => .inl (hi0.xs.2.2.1 y hy))) hf7 (fun y hy => .inl (hy ▸ hi0.xs.1))
 have hra7 := (hr' w7.drew (Fm.step hX7 hfd (fun _ e => e.elim))).atR hlow
 have z7 := hX7.size
 try simp only [RS]
 refine ⟨fun w' => Fm (fun _ => False) w7 w', hfd, ?_⟩
 refine ⟨.map (some mb), fun w' h' => ?_, ?_⟩
 ·have : w'.cell? ⟨lb, 8, none⟩ = some (.map (some mb)) := by rw [ag (h'.heap hw7 (fun e => e))]; rfl
  simp only [RS, this] <;> trivial
 refine ⟨iv (L.tail : Int), fun w' h' => ?_, ?_⟩
 ·have : w'.cell? ⟨x1, 0, none⟩ = some (iv (L.tail : Int)) := by rw [ag (h'.heap hw7x (fun e => e))]; rfl
  simp only [RS, this] <;> trivial
 simp only [RS, ax (hfd.heap hw7x (fun e => e)) (n := 16) rfl, true_and]
 refine (jH hra7 hc).mono ?_
 rintro _ w8 ⟨cs', rfl, hheld, hf8⟩
 have hF8 := Fmf hfd hf8
 refine ⟨hF8, ?_⟩
 have z8 := hf8.size
 have zd : w7.drew.heap.size = w7.heap.size := rfl
 obtain ⟨w9, hr9, hM9, hf9, hz9⟩ := fM uc (hM7.keep hF8 (fun e => e)) (L.tail : Int) cs'
 refine lO hr9 ?_
 have hxm : x1 ≠ mb := by have := hi0.lt mb hi0.xs.2.1; omega
 have hw9x := hf9.heap (hF8.heap hw7x (fun e => e)) hxm
 have hw9 := hf9.heap (hF8.heap hw7 (fun e => e)) hi.nm.symm
 have c9 : w9.cell? ⟨x1, 0, none⟩ = some (iv (L.tail : Int)) := by rw [ag hw9x]; rfl
 simp only [RS, c9]
 have hX9 : Fm X w w9 := Fm.step (Fm.step hX7 hF8 (fun _ e => e.elim)) hf9 (fun y hy => .inl (hy ▸ hi0.xs.2.1))
 have z9 := hX9.size
 refine ⟨(by trivial), fun y => X y ∨ (w.heap.size ≤ y ∧ y < w9.heap.size), ⟨hwf, fun y => P y ∨ (w7.heap.size ≤ y ∧ y < w8.heap.size), mb, kv', gu M (L.tail : Int) cs', ?_⟩, fun y hy => hy.imp id (fun e => e.1), hX9⟩
 have hlb := hi0.lt lb hi0.xs.1
 have hmb := hi0.lt mb hi0.xs.2.1
 have hkv : ∀ y, kv'.ownBlock = some y → (kv.ownBlock = some y ∨ (w.heap.size ≤ y ∧ y < w7.heap.size)) := fun y hy => by
  rcases hb6 y hy with e | e
  ·exact .inl e
  ·have := hK7.lt y hy
   exact .inr ⟨by omega, this⟩
 refine ⟨hw9, (hK7.keep hF8 (fun _ _ e => e)).keep hf9 (fun y hy e => ?_), hM9, ?_, ?_, ⟨.inl hi0.xs.1, .inl hi0.xs.2.1, fun y hy => ?_, fun y hy => ?_⟩, ⟨?_, ?_, ?_⟩, fun y hy => ?_⟩
 ·rcases hkv y hy with q | q
  ·exact hi.km (by rw [q, e])
  ·omega
 ·rw [dN, dN, hi.keys]
 ·intro k cs hm
  have hnd : getD M (L.tail : Int) = none := by
   rw [bz, hi.keys]
   intro hm
   obtain ⟨x, hx, hxe⟩ := List.mem_map.1 hm
   have := (h.wf.ok x hx).2.2.2.2
   omega
  have hnd2 : getD L.recs (L.tail : Int) = none := by
   rw [bz, ← hi.keys, ← bz]; exact hnd
  rw [dh _ _ _ hnd] at hm
  show ∃ r', (k, r') ∈ gu L.recs (L.tail : Int) (atR r L.tail) ∧ _
  rw [dh _ _ _ hnd2]
  rcases List.mem_append.1 hm with hm | hm
  ·obtain ⟨r', q1, q2⟩ := hR7 hF8 k cs hm
   exact ⟨r', List.mem_append_left _ q1, (q2.mono (fun y hy => .inl hy)).keep hf9 (by
    rintro y (hy | hy) rfl
    ·exact hi.ps.2.1 hy
    ·omega)⟩
  ·simp only [List.mem_singleton, Prod.mk.injEq] at hm
   obtain ⟨rfl, rfl⟩ := hm
   exact ⟨_, List.mem_append_right _ (by simp), (hheld.mono (fun y hy => .inr hy)).keep hf9 (by
    rintro y (hy | hy) rfl
    ·exact hi.ps.2.1 hy
    ·omega)⟩
 ·rcases hkv y hy with q | q
  ·exact .inl (hi0.xs.2.2.1 y q)
  ·exact .inr ⟨q.1, by omega⟩
 ·rcases hy with q | q
  ·exact .inl (hi0.xs.2.2.2 y q)
  ·exact .inr ⟨by omega, by omega⟩
 ·rintro (q | q)
  ·exact hi.ps.1 q
  ·omega
 ·rintro (q | q)
  ·exact hi.ps.2.1 q
  ·omega
 ·rintro y hy (q | q)
  ·rcases hkv y hy with e | e
   ·exact hi.ps.2.2 y e q
   ·have := hi0.lt y (hi0.xs.2.2.2 y q); omega
  ·have := hK7.lt y hy
   omega
 ·rcases hy with q | q
  ·have := hi0.lt y q; omega
  ·exact q.2
theorem ks (a b : Int) : aU eX [iv a, iv b] = some (iv (min a b)) := by
 have : eX (iv a) (iv b) = some (iv (min a b)) := by
  show some (iv (if b < a then b else a)) = _
  congr 2
  split <;> omega
 simp only [aU, fO, this, Option.bind_some]
theorem ej (w : World) {k : Nat} (hk : k + 1 ≤ 9223372036854775807) : Cl prog 179 [iv (k : Int)] w fun v w' => v = stv (fI k) ∧ Fm (fun _ => False) w w' := by
 refine c179 ?_; unfold T179
 have e1 : IntKind.i64.wrap ((k : Int) + 1) = ((k + 1 : Nat) : Int) := by rw [ab] <;> omega
 have e2 := bC (TypeDesc.int .i64) (n := k + 1) (m := 4294967296) (by decide) hk (b := 4294967296) rfl
 simp only [RS, e1, e2]
 refine (bV w (n := (((k + 1) % 4294967296 : Nat) : Int)) (by unfold In; omega) 4).mono ?_
 rintro _ w1 ⟨rfl, hf⟩
 refine ⟨?_, hf⟩
 unfold fI
 rw [show (4 : Int) = ((4 : Nat) : Int) from rfl, bB (by omega) (by omega)]
theorem dI (w : World) {n : Nat} (h : 1 ≤ n) (hn : n ≤ 9223372036854775807) : Cl prog 97 [iv (n : Int)] w fun v w' => v = iv (((n - 1) / 54 : Nat) : Int) ∧ w' = w := by
 refine c97 ?_; unfold T97
 have e1 : IntKind.i64.wrap ((n : Int) - 1) = ((n - 1 : Nat) : Int) := by rw [ab] <;> omega
 have e2 := cu (TypeDesc.int .i64) (n := n - 1) (m := 54) (by decide) (by omega) (b := 54) rfl
 simp only [RS, e1, e2]
 exact ⟨(by trivial), (by trivial)⟩
theorem cR (w : World) {k : Nat} (hk : k * 54 + 1 ≤ 9223372036854775807) : Cl prog 98 [iv (k : Int)] w fun v w' => v = iv ((k * 54 + 1 : Nat) : Int) ∧ w' = w := by
 refine c98 ?_; unfold T98
 have e1 : IntKind.i64.wrap ((k : Int) * 54) = ((k * 54 : Nat) : Int) := by rw [ab] <;> omega
 have e2 : IntKind.i64.wrap (((k * 54 : Nat) : Int) + 1) = ((k * 54 + 1 : Nat) : Int) := by rw [ab] <;> omega
 simp only [RS, e1, e2]
 exact ⟨(by trivial), (by trivial)⟩
theorem jb (w : World) {k : Nat} (hk : k + 1 ≤ 9223372036854775807) {b : Bs} (hb : b.length ≤ 54) : Cl prog 100 [iv (k : Int), stv b] w fun v w' => v = stv (bd k b) ∧ Fm (fun _ => False) w w' := by
 refine c100 ?_; unfold T100
 have e1 : cvI .u8 (iv (b.length : Int)) = some (.int .u8 (((UInt8.ofNat b.length).toNat : Nat) : Int)) := by
  show some (Value.int .u8 (IntKind.u8.wrap (b.length : Int))) = _
  rw [bE, Nat.mod_eq_of_lt (by omega), de (by omega)]
 have e2 : IntKind.i64.wrap (54 - (b.length : Int)) = ((54 - b.length : Nat) : Int) := by rw [ab] <;> omega
 have h4 := Lg.blk_len k
 have hz := Lg.zeros_len' (54 - b.length)
 simp only [RS, aj, e1]
 refine af (qo _ _) ?_
 have hfa := Fm.alloc (fun _ => False) w (.cells #[.int .u8 (((UInt8.ofNat b.length).toNat : Nat) : Int)] 5)
 have hrow : BRow (w.alloc (.cells #[.int .u8 (((UInt8.ofNat b.length).toNat : Nat) : Int)] 5)) w.heap.size 5 [UInt8.ofNat b.length] := az _ _
 generalize w.alloc (.cells #[.int .u8 (((UInt8.ofNat b.length).toNat : Nat) : Int)] 5) = w1 at hfa hrow
 have hcv := hrow.conv (P := prog) B38 (o := 0) (n := 1) (by simp) 1
 refine af hcv ?_
 rw [show (([UInt8.ofNat b.length] : Bs).drop 0).take 1 = [UInt8.ofNat b.length] from rfl]
 refine (ej w1 hk).mono ?_
 rintro _ w2 ⟨rfl, hf2⟩
 rw [dL (by simp; omega)]
 simp only [RS]
 rw [dL (by simp; omega)]
 simp only [RS, aj, e2]
 refine (cX w2 (54 - b.length) (by omega)).mono ?_
 rintro _ w3 ⟨rfl, hf3⟩
 rw [dL (by simp; omega)]
 simp only [RS]
 rw [dL (by simp; omega)]
 simp only [RS]
 refine (ej w3 hk).mono ?_
 rintro _ w4 ⟨rfl, hf4⟩
 rw [dL (by simp; omega)]
 simp only [RS]
 refine ⟨?_, Fmf hfa (Fmf hf2 (Fmf hf3 hf4))⟩
 unfold bd
 simp only [List.append_assoc]
section
variable {w : World} {X : Nat → Prop} {lb db : Nat} {L : Lg}
theorem li (h : LAt w X lb db L) {k : Nat} (hk : k ≤ 9223372036854775807) : Cl prog 99 [pv lb, iv (k : Int)] w fun v w' => v = iv ((L.frm + k % L.n : Nat) : Int) ∧ Fm (fun _ => False) w w' := by
 obtain ⟨P, mb, kv, M, hi⟩ := h.ex
 have h1 := h.wf.big; have h2 := h.wf.n4
 have e1 := bC (TypeDesc.int .i64) (n := k) (m := L.n) (by omega) hk (b := (L.n : Int)) rfl
 have hm := Nat.mod_lt k (show 0 < L.n by omega)
 have e2 : IntKind.i64.wrap ((L.frm : Int) + ((k % L.n : Nat) : Int)) = ((L.frm + k % L.n : Nat) : Int) := by rw [ab] <;> omega
 refine c99 ?_; unfold T99
 simp only [RS, hi.c1, hi.c2, e1, e2, true_and]
 exact Fm.drew _ _
theorem gZ (h : LAt w X lb db L) {k : Nat} (hk : L.base ≤ k * 54 + 1) (hk2 : k * 54 + 1 ≤ L.tail) : Cl prog 101 [pv lb, iv (k : Int)] w fun v w' => v = stv (L.bytes k) ∧ Fm (fun _ => False) w w' := by
 obtain ⟨P, mb, kv, M, hi⟩ := h.ex
 have h1 := h.wf.low; have h2 := h.wf.small
 have ht : L.tail = L.base + L.kept.length := rfl
 have hfd := Fm.drew (fun _ => False) w
 have e1 : IntKind.i64.wrap (((k * 54 + 1 : Nat) : Int) - (L.base : Int)) = ((k * 54 + 1 - L.base : Nat) : Int) := by rw [ab] <;> omega
 have e2 : IntKind.i64.wrap (((k * 54 + 1 - L.base : Nat) : Int) + 54) = ((k * 54 + 1 - L.base + 54 : Nat) : Int) := by rw [ab] <;> omega
 have e3 : min ((k * 54 + 1 - L.base + 54 : Nat) : Int) ((L.kept.length : Nat) : Int) = ((min (k * 54 + 1 - L.base + 54) L.kept.length : Nat) : Int) := by omega
 refine c101 ?_; unfold T101
 refine ⟨fun w' => LIn w' X P lb db mb kv M L, hi.keep0 hfd, ?_⟩
 simp only [RS]
 refine ⟨iv (L.base : Int), fun w' h' => ?_, ?_⟩
 ·simp only [RS, h'.c3] <;> trivial
 refine (cR w.drew (by omega)).mono ?_
 rintro _ _ ⟨rfl, rfl⟩
 refine ⟨hi.keep0 hfd, ?_⟩
 have hfd2 := Fmf hfd (Fm.drew (fun _ => False) w.drew)
 have hi2 := hi.keep0 hfd2
 obtain ⟨u, q1, q2⟩ := hi2.kp.cut (P := prog) B38 (i := k * 54 + 1 - L.base) (j := min (k * 54 + 1 - L.base + 54) L.kept.length) (by omega) (by omega)
 simp only [RS, e1, hi.c4, e2, hi.kp.lenV, ks, e3, q1, true_and]
 have e4 : (L.kept.drop (k * 54 + 1 - L.base)).take (min (k * 54 + 1 - L.base + 54) L.kept.length - (k * 54 + 1 - L.base)) = L.bytes k := by
  unfold Lg.bytes
  rw [List.take_eq_take_iff, List.length_drop]
  omega
 rw [e4] at q2
 exact af q2 ⟨rfl, rfl, hfd2⟩
end
theorem eK (L : Lg) (f k : Nat) (d : Dk) (h : L.tail ≤ k * 54 + 1) : L.flushGo f k d = (d, 0) := by
 cases f with
 | zero => rfl
 | succ f =>
  rw [Lg.flushGo]
  have : decide (k * 54 + 1 < L.tail) = false := by rw [decide_eq_false_iff_not]; omega
  rw [this]; rfl
def FD (lb db g m : Nat) (y : Nat) : Prop := y = lb ∨ y = db ∨ y = g ∨ y = m
theorem gK {w : World} {X : Nat → Prop} {lb db g m : Nat} {L : Lg} {d : Dk} (h : LAt w X lb db L) (hd : DAt w db g m d) (hX : ¬ X db ∧ ¬ X g ∧ ¬ X m) (upto : Int) :
  Cl prog 26 [pv lb, iv upto] w fun v w' => v = iv (L.flush upto d).2.2 ∧ LAt w' X lb db (L.flush upto d).1 ∧ DAt w' db g m (L.flush upto d).2.1 ∧ Fm (FD lb db g m) w w' := by
 have h1 := h.wf.st; have h2 := h.wf.low; have h3 := h.wf.hi; have h4 := h.wf.bs
 have hb := Lg.baseOf_le h1.1
 rw [← h4] at hb
 have ht : L.tail = L.base + L.kept.length := rfl
 have up0 : ∀ {a b : World}, Fm (fun _ => False) a b → Fm (FD lb db g m) a b := fun hf => hf.mono (fun _ _ e => e.elim)
 have hXD : ∀ y, X y → ¬ (y = db ∨ y = g ∨ y = m) := by
  rintro y hy (rfl | rfl | rfl)
  ·exact hX.1 hy
  ·exact hX.2.1 hy
  ·exact hX.2.2 hy
 have hfl : L.flush upto d = bif decide (upto < (L.last : Int)) || decide (L.last = L.tail) then (L, d, 0) else
   bif decide ((L.flushE d).2 = 0) then (bif decide ((L.flushE d).1.sync.2 = 0) then ({ L with last := L.tail }, (L.flushE d).1.sync.1, 0) else (L, (L.flushE d).1.sync.1, (L.flushE d).1.sync.2))
   else (L, (L.flushE d).1, (L.flushE d).2) := rfl
 refine c26 ?_; unfold T26
 simp only [RS]
 refine (cr h).mono ?_
 rintro _ w2 ⟨rfl, hf2⟩
 have hL2 := h.keep0 hf2
 have hd2 := hd.keep0 hf2
 obtain ⟨P, mb, kv, M, hi2⟩ := hL2.ex
 cases e1 : decide (upto < (L.last : Int)) with
 | true =>
  rw [e1, Bool.true_or, cond_true] at hfl
  rw [hfl]
  simp only [RS, hi2.c6, e1]
  exact ⟨(by trivial), hL2, hd2, up0 hf2⟩
 | false =>
 have e2 : ((L.last : Int) == (L.tail : Int)) = decide (L.last = L.tail) := by
  rw [aA, decide_eq_decide]; omega
 cases e3 : decide (L.last = L.tail) with
 | true =>
  rw [e1, e3, Bool.false_or, cond_true] at hfl
  rw [hfl]
  simp only [RS, hi2.c6, e1, e2, e3]
  exact ⟨(by trivial), hL2, hd2, up0 hf2⟩
 | false =>
 rw [e1, e3, Bool.false_or, cond_false] at hfl
 rw [decide_eq_false_iff_not] at e3
 have h3' := h3 (by omega)
 have e3' : decide (L.last = L.tail) = false := by simpa using e3
 have hbl : L.base ≤ (L.last - 1) / 54 * 54 + 1 := by rw [h4]; unfold Lg.baseOf; omega
 simp only [RS, hi2.c6, e1, e2, e3']
 refine (dI w2 (n := L.last) (by omega) (by omega)).mono ?_
 rintro _ w2 ⟨rfl, rfl⟩
 refine ⟨fun vs w' => ∃ (k f : Nat) (e : Dk), vs = [iv (k : Int)] ∧ L.base ≤ k * 54 + 1 ∧ L.tail ≤ k * 54 + 1 + f ∧ k * 54 ≤ 4611686018427600000 ∧ LAt w' X lb db L ∧ DAt w' db g m e ∧ Fm (fun y => y = db ∨ y = g ∨ y = m) w w' ∧ L.flushGo f k e = L.flushE d,
  fun vs _ => ((L.tail : Int) - 54 * nth vs 0).toNat, ⟨(L.last - 1) / 54, L.kept.length + 1, d, rfl, ?_, ?_, ?_, hL2, hd2, hf2.mono (fun _ _ e => e.elim), rfl⟩, ?_⟩
 ·exact hbl
 ·omega
 ·omega
 rintro _ w3 kval ⟨k, f, e, hvs, k1, k2, k3, hL3, hd3, hF3, hgo⟩
 cases hvs
 refine (cR w3 (k := k) (by omega)).mono ?_
 rintro _ w3 ⟨rfl, rfl⟩
 by_cases hlt : k * 54 + 1 < L.tail
 ·have d1 : decide (((k * 54 + 1 : Nat) : Int) < (L.tail : Int)) = true := by rw [decide_eq_true_eq]; omega
  have d2 : decide (k * 54 + 1 < L.tail) = true := by rw [decide_eq_true_eq]; exact hlt
  obtain ⟨f', rfl⟩ : ∃ f', f = f' + 1 := ⟨f - 1, by omega⟩
  rw [Lg.flushGo, d2, cond_true] at hgo
  simp only [RS, d1]
  have hfd := Fm.drew (fun _ => False) w3
  refine ⟨fun w' => Fm (fun _ => False) w3 w', hfd, ?_⟩
  refine ⟨pv db, fun w' h' => ?_, ?_⟩
  ·obtain ⟨P', mb', kv', M', hi'⟩ := (hL3.keep0 h').ex
   simp only [RS, hi'.c0] <;> trivial
  refine (li (hL3.keep0 hfd) (k := k) (by omega)).mono ?_
  rintro _ w4 ⟨rfl, hf4⟩
  have hF4 := Fmf hfd hf4
  refine ⟨hF4, ?_⟩
  refine (gZ (hL3.keep0 hF4) k1 (by omega)).mono ?_
  rintro _ w5 ⟨rfl, hf5⟩
  have hF5 := Fmf hF4 hf5
  refine ⟨hF5, ?_⟩
  refine (jb w5 (k := k) (by omega) (Lg.bytes_len L k)).mono ?_
  rintro _ w6 ⟨rfl, hf6⟩
  have hF6 := Fmf hF5 hf6
  refine ⟨hF6, ?_⟩
  refine (eG (hd3.keep0 hF6) ((L.frm + k % L.n : Nat) : Int) (bd k (L.bytes k)) (by rw [Lg.seal_len (Lg.bytes_len L k)]; omega)).mono ?_
  rintro _ w7 ⟨rfl, hd7, hf7⟩
  have hL7 := (hL3.keep0 hF6).keep hf7 hXD
  have hF7 : Fm (fun y => y = db ∨ y = g ∨ y = m) w w7 := (hF3.trans (hF6.mono (fun _ _ e => e.elim)) (fun _ _ e => e) (fun _ _ e => e)).trans hf7 (fun _ _ e => e) (fun _ _ e => e)
  have hput : e.write ((L.frm + k % L.n : Nat) : Int) (bd k (L.bytes k)) = L.put k e := rfl
  rw [hput] at hd7 ⊢
  simp only [RS, al]
  cases hz : decide ((L.put k e).2 = 0) with
  | false =>
   rw [hz, cond_false] at hgo
   have hz2 : decide ((L.flushE d).2 = 0) = false := by rw [← hgo]; exact hz
   rw [hz2, cond_false, ← hgo] at hfl
   rw [hfl]
   simp only [RS, Bool.not_false]
   exact ⟨(by trivial), hL7, hd7, hF7.mono (fun _ _ e => .inr e)⟩
  | true =>
   rw [hz, cond_true] at hgo
   have e5 : IntKind.i64.wrap ((k : Int) + 1) = ((k + 1 : Nat) : Int) := by rw [ab] <;> omega
   simp only [RS, Bool.not_true, e5]
   exact ⟨⟨k + 1, f', (L.put k e).1, rfl, by omega, by omega, by omega, hL7, hd7, hF7, hgo⟩, by simp only [bw]; omega⟩
 ·have d1 : decide (((k * 54 + 1 : Nat) : Int) < (L.tail : Int)) = false := by rw [decide_eq_false_iff_not]; omega
  rw [eK L f k e (by omega)] at hgo
  rw [← hgo] at hfl
  simp only [decide_true, cond_true] at hfl
  obtain ⟨P3, mb3, kv3, M3, hi3⟩ := hL3.ex
  simp only [RS, d1, hi3.c0]
  refine (fU hd3).mono ?_
  rintro _ w4 ⟨rfl, hd4, hf4⟩
  have hL4 := hL3.keep hf4 hXD
  have hF4 := hF3.trans hf4 (fun _ _ e => e) (fun _ _ e => e)
  simp only [RS, al]
  cases hz : decide (e.sync.2 = 0) with
  | false =>
   rw [hz, cond_false] at hfl
   rw [hfl]
   simp only [RS, Bool.not_false]
   exact ⟨(by trivial), hL4, hd4, hF4.mono (fun _ _ e => .inr e)⟩
  | true =>
   rw [hz, cond_true] at hfl
   rw [hfl]
   obtain ⟨P4, mb4, kv4, M4, hi4⟩ := hL4.ex
   simp only [RS, Bool.not_true]
   refine ay hi4.st (by show 6 < 9; decide) rfl ?_
   intro w5 hw5 hs5 hf5
   have hlb := hL4.lb
   refine ⟨(by trivial), ⟨h.wf.last, P4, mb4, kv4, M4, hi4.upd hw5 hf5 rfl rfl⟩, hd4.keep hf5 (fun e => hX.1 (by rw [e]; exact hlb)) (fun e => hX.2.1 (by rw [e]; exact hlb)) (fun e => hX.2.2 (by rw [e]; exact hlb)), (hF4.mono (fun _ _ e => .inr e)).trans hf5 (fun _ _ e => e) (fun _ _ e => .inl e)⟩
theorem pC : ∀ (l : List Int) (a b : Int), a ≤ b → (∀ x ∈ l, a ≤ x ∧ x < b) → l.Pairwise (· < ·) → (l.length : Int) ≤ b - a
 | [], a, b, hab, _, _ => by simp; omega
 | x :: l, a, b, hab, h, hp => by
  have hx := h x (by simp)
  rw [List.pairwise_cons] at hp
  have := pC l (x + 1) b (by omega) (fun y hy => ⟨by have := hp.1 y hy; omega, (h y (by simp [hy])).2⟩) hp.2
  rw [List.length_cons]
  omega
def plsV (L : Lg) : List Value := L.recs.map fun p => iv p.1
def rlc (db : Nat) (v : Value) (L : Lg) : Array Value := #[pv db, iv (L.frm : Int), iv (L.n : Int), iv (L.base : Int), stv L.kept, iv (L.start : Int), iv (L.last : Int), iv L.res, v]
structure RL (w : World) (b0 lb db : Nat) (v : Value) (L : Lg) : Prop where
 wf : L.Wf
 inc : (L.recs.map (·.1)).Pairwise (· < ·)
 st : w.heap[lb]? = some (.cells (rlc db v L) 167)
 row : w.ownsRow b0 3 1 v L.recs.length (plsV L)
def RL.mine (lb : Nat) (v : Value) (y : Nat) : Prop := y = lb ∨ v.ownBlock = some y
section
variable {w w' : World} {S : Nat → Prop} {b0 lb db : Nat} {v : Value} {L L' : Lg}
theorem RL.keep (h : RL w b0 lb db v L) (hf : Fm S w w') (hS : ∀ y, RL.mine lb v y → ¬ S y) : RL w' b0 lb db v L :=
 ⟨h.wf, h.inc, hf.heap h.st (hS _ (.inl rfl)), ae h.row hf (fun y _ _ hy => hS y (.inr hy))⟩
theorem RL.keep0 (h : RL w b0 lb db v L) (hf : Fm (fun _ => False) w w') : RL w' b0 lb db v L := h.keep hf (fun _ _ e => e)
theorem RL.nv (h : RL w b0 lb db v L) : v.ownBlock ≠ some lb := by
 intro e
 rcases h.row.2 with ⟨rfl, _⟩ | ⟨g, cap, cur, rfl, _, hg, _⟩
 ·cases e
 ·cases e
  rw [h.st] at hg; cases hg
theorem RL.lt (h : RL w b0 lb db v L) : ∀ y, RL.mine lb v y → y < w.heap.size := by
 rintro y (rfl | hy)
 ·exact aq h.st
 ·exact (aX h.row y hy).2
theorem RL.c0 (h : RL w b0 lb db v L) : w.cell? ⟨lb, 0, none⟩ = some (pv db) := by rw [ag h.st]; rfl
theorem RL.c1 (h : RL w b0 lb db v L) : w.cell? ⟨lb, 1, none⟩ = some (iv (L.frm : Int)) := by rw [ag h.st]; rfl
theorem RL.c2 (h : RL w b0 lb db v L) : w.cell? ⟨lb, 2, none⟩ = some (iv (L.n : Int)) := by rw [ag h.st]; rfl
theorem RL.c3 (h : RL w b0 lb db v L) : w.cell? ⟨lb, 3, none⟩ = some (iv (L.base : Int)) := by rw [ag h.st]; rfl
theorem RL.c4 (h : RL w b0 lb db v L) : w.cell? ⟨lb, 4, none⟩ = some (stv L.kept) := by rw [ag h.st]; rfl
theorem RL.c5 (h : RL w b0 lb db v L) : w.cell? ⟨lb, 5, none⟩ = some (iv (L.start : Int)) := by rw [ag h.st]; rfl
theorem RL.c6 (h : RL w b0 lb db v L) : w.cell? ⟨lb, 6, none⟩ = some (iv (L.last : Int)) := by rw [ag h.st]; rfl
theorem RL.c7 (h : RL w b0 lb db v L) : w.cell? ⟨lb, 7, none⟩ = some (iv L.res) := by rw [ag h.st]; rfl
theorem RL.c8 (h : RL w b0 lb db v L) : w.cell? ⟨lb, 8, none⟩ = some v := by rw [ag h.st]; rfl
theorem RL.cnt (h : RL w b0 lb db v L) : L.recs.length ≤ L.kept.length ∧ L.kept.length ≤ 8000000 := by
 have hb := Lg.baseOf_le h.wf.st.1
 rw [← h.wf.bs] at hb
 have ht : L.tail = L.base + L.kept.length := rfl
 have hst := h.wf.st
 have := pC (L.recs.map (·.1)) L.start L.tail (by omega) (fun x hx => by
  obtain ⟨p, hp, rfl⟩ := List.mem_map.1 hx
  exact (h.wf.ok p hp).2.2.2) h.inc
 rw [List.length_map] at this
 exact ⟨by omega, h.wf.small⟩
theorem bZ (h : RL w b0 lb db v L) : Cl prog 129 [pv lb] w fun r w' => r = iv (L.tail : Int) ∧ Fm (fun _ => False) w w' := by
 have hl := h.wf.low
 refine c129 ?_; unfold T129
 have e1 : IntKind.i64.wrap ((L.base : Int) + (L.kept.length : Int)) = (L.tail : Int) := by
  unfold Lg.tail at hl ⊢
  rw [ab] <;> omega
 simp only [RS, h.c3, h.c4, aj, e1, true_and]
 exact Fm.drew _ _
theorem eB (h : RL w b0 lb db v L) : Cl prog 65 [pv lb] w fun r w' => r = iv (L.last : Int) ∧ w' = w := by
 refine c65 ?_; unfold T65
 simp only [RS, h.c6]
 exact ⟨(by trivial), (by trivial)⟩
theorem eH (h : RL w b0 lb db v L) : Cl prog 131 [pv lb] w fun r w' => r = iv L.room ∧ Fm (fun _ => False) w w' := by
 have h1 := h.wf.st; have h2 := h.wf.big; have h3 := h.wf.res; have h4 := h.wf.small; have h5 := h.wf.bs; have h6 := h.wf.n4
 have hb := Lg.baseOf_le h1.1
 rw [← h5] at hb
 have ht : L.tail = L.base + L.kept.length := rfl
 have e1 : IntKind.i64.wrap ((L.n : Int) - 2) = (L.n : Int) - 2 := by rw [ab]; omega
 have e2 : IntKind.i64.wrap (54 * ((L.n : Int) - 2)) = 54 * ((L.n : Int) - 2) := by rw [ab]; omega
 have e3 : IntKind.i64.wrap ((L.tail : Int) - (L.start : Int)) = (L.tail : Int) - (L.start : Int) := by rw [ab]; omega
 have e4 : IntKind.i64.wrap (54 * ((L.n : Int) - 2) - ((L.tail : Int) - (L.start : Int))) = 54 * ((L.n : Int) - 2) - ((L.tail : Int) - (L.start : Int)) := by rw [ab]; omega
 have e5 : IntKind.i64.wrap (54 * ((L.n : Int) - 2) - ((L.tail : Int) - (L.start : Int)) - L.res) = L.room := by unfold Lg.room; rw [ab]; omega
 have hfd := Fm.drew (fun _ => False) w
 refine c131 ?_; unfold T131
 refine ⟨fun w' => RL w' b0 lb db v L, h.keep0 hfd, ?_⟩
 simp only [RS]
 refine ⟨iv (L.n : Int), fun w' h' => ?_, ?_⟩
 ·simp only [RS, h'.c2] <;> trivial
 simp only [RS, e1, e2]
 refine ⟨iv (L.start : Int), fun w' h' => ?_, ?_⟩
 ·simp only [RS, h'.c5] <;> trivial
 refine ⟨iv L.res, fun w' h' => ?_, ?_⟩
 ·simp only [RS, h'.c7] <;> trivial
 refine (bZ (h.keep0 hfd)).mono ?_
 rintro _ w2 ⟨rfl, hf2⟩
 refine ⟨h.keep0 (Fmf hfd hf2), ?_⟩
 simp only [RS, e3, e4, e5]
 exact ⟨(by trivial), Fmf hfd hf2⟩
theorem ix (h : RL w b0 lb db v L) {k : Nat} (hk : k ≤ 9223372036854775807) : Cl prog 136 [pv lb, iv (k : Int)] w fun r w' => r = iv ((L.frm + k % L.n : Nat) : Int) ∧ Fm (fun _ => False) w w' := by
 have h1 := h.wf.big; have h2 := h.wf.n4
 have e1 := bC (TypeDesc.int .i64) (n := k) (m := L.n) (by omega) hk (b := (L.n : Int)) rfl
 have hm := Nat.mod_lt k (show 0 < L.n by omega)
 have e2 : IntKind.i64.wrap ((L.frm : Int) + ((k % L.n : Nat) : Int)) = ((L.frm + k % L.n : Nat) : Int) := by rw [ab] <;> omega
 refine c136 ?_; unfold T136
 simp only [RS, h.c1, h.c2, e1, e2, true_and]
 exact Fm.drew _ _
theorem gq (h : RL w b0 lb db v L) {k : Nat} (hk : L.base ≤ k * 54 + 1) (hk2 : k * 54 + 1 ≤ L.tail) : Cl prog 138 [pv lb, iv (k : Int)] w fun r w' => r = stv (L.bytes k) ∧ Fm (fun _ => False) w w' := by
 have h1 := h.wf.low; have h2 := h.wf.small
 have ht : L.tail = L.base + L.kept.length := rfl
 have e0 : IntKind.i64.wrap ((k : Int) * 54) = ((k * 54 : Nat) : Int) := by rw [ab] <;> omega
 have e0' : IntKind.i64.wrap (((k * 54 : Nat) : Int) + 1) = ((k * 54 + 1 : Nat) : Int) := by rw [ab] <;> omega
 have e1 : IntKind.i64.wrap (((k * 54 + 1 : Nat) : Int) - (L.base : Int)) = ((k * 54 + 1 - L.base : Nat) : Int) := by rw [ab] <;> omega
 have e2 : IntKind.i64.wrap (((k * 54 + 1 - L.base : Nat) : Int) + 54) = ((k * 54 + 1 - L.base + 54 : Nat) : Int) := by rw [ab] <;> omega
 have e3 : min ((k * 54 + 1 - L.base + 54 : Nat) : Int) ((L.kept.length : Nat) : Int) = ((min (k * 54 + 1 - L.base + 54) L.kept.length : Nat) : Int) := by omega
 have e6 := cU (l := L.kept) (i := k * 54 + 1 - L.base) (j := min (k * 54 + 1 - L.base + 54) L.kept.length) (by omega) (by omega) .i64 .i64
 have e4 : (L.kept.drop (k * 54 + 1 - L.base)).take (min (k * 54 + 1 - L.base + 54) L.kept.length - (k * 54 + 1 - L.base)) = L.bytes k := by
  unfold Lg.bytes
  rw [List.take_eq_take_iff, List.length_drop]
  omega
 rw [e4] at e6
 refine c138 ?_; unfold T138
 simp only [RS, e0, e0', h.c3, e1, h.c4, e2, aj, ks, e3, e6, true_and]
 exact Fm.drew _ _
end
theorem fi (w : World) {k : Nat} (hk : k + 1 ≤ 9223372036854775807) {b : Bs} (hb : b.length ≤ 54) : Cl prog 137 [iv (k : Int), stv b] w fun v w' => v = stv (bd k b) ∧ Fm (fun _ => False) w w' := by
 have e0 : IntKind.i64.wrap ((k : Int) + 1) = ((k + 1 : Nat) : Int) := by rw [ab] <;> omega
 have e0' := bC (TypeDesc.int .i64) (n := k + 1) (m := 4294967296) (by omega) hk (b := 4294967296) rfl
 have e1 : cvI .u8 (iv (b.length : Int)) = some (.int .u8 (((UInt8.ofNat b.length).toNat : Nat) : Int)) := by
  show some (Value.int .u8 (IntKind.u8.wrap (b.length : Int))) = _
  rw [bE, Nat.mod_eq_of_lt (by omega), de (by omega)]
 have e2 : IntKind.i64.wrap (54 - (b.length : Int)) = ((54 - b.length : Nat) : Int) := by rw [ab] <;> omega
 have h4 := Lg.blk_len k
 have hz := Lg.zeros_len' (54 - b.length)
 have hm := Nat.mod_lt (k + 1) (show 0 < 4294967296 by omega)
 refine c137 ?_; unfold T137
 simp only [RS, e0, e0']
 refine (bk w (n := ((k + 1) % 4294967296 : Nat)) (by constructor <;> omega) 4).mono ?_
 rintro _ w1 ⟨rfl, hf1⟩
 have hbig : fg (((k + 1) % 4294967296 : Nat) : Int) 4 = fI k := bB (n := (k + 1) % 4294967296) (w := 4) (by omega) (by omega)
 rw [hbig]
 simp only [RS, aj, e1]
 refine af (qo _ _) ?_
 have hfa := Fm.alloc (fun _ => False) w1 (.cells #[.int .u8 (((UInt8.ofNat b.length).toNat : Nat) : Int)] 5)
 have hrow : BRow (w1.alloc (.cells #[.int .u8 (((UInt8.ofNat b.length).toNat : Nat) : Int)] 5)) w1.heap.size 5 [UInt8.ofNat b.length] := az _ _
 generalize w1.alloc (.cells #[.int .u8 (((UInt8.ofNat b.length).toNat : Nat) : Int)] 5) = w2 at hfa hrow
 have hcv := hrow.conv (P := prog) B44 (o := 0) (n := 1) (by simp) 1
 refine af hcv ?_
 rw [show (([UInt8.ofNat b.length] : Bs).drop 0).take 1 = [UInt8.ofNat b.length] from rfl]
 rw [dL (by simp; omega)]
 simp only [RS]
 rw [dL (by simp; omega)]
 simp only [RS, aj, e2]
 refine af (BRow.make B44 w2 (54 - b.length) (by omega)) ?_
 have hf3 := Fm.alloc (fun _ => False) w2 (.cells (bc (List.replicate (54 - b.length) 0)).toArray 5)
 have hb3 : BRow (w2.alloc (.cells (bc (List.replicate (54 - b.length) 0)).toArray 5)) w2.heap.size 5 (List.replicate (54 - b.length) 0) := az _ _
 generalize w2.alloc (.cells (bc (List.replicate (54 - b.length) 0)).toArray 5) = w3 at hf3 hb3
 refine af (hb3.conv B44 (o := 0) (n := 54 - b.length) (by simp) _) ?_
 rw [show (((List.replicate (54 - b.length) 0).drop 0).take (54 - b.length) : Bs) = aG (54 - b.length) from by rw [List.drop_zero, List.take_of_length_le (by simp)]; rfl]
 rw [dL (by simp; omega)]
 simp only [RS]
 rw [dL (by simp; omega)]
 simp only [RS]
 rw [dL (by simp; omega)]
 simp only [RS]
 refine ⟨?_, Fmf hf1 (Fmf hfa hf3)⟩
 unfold bd
 simp only [List.append_assoc]
section
variable {w w' : World} {S : Nat → Prop} {b0 lb db : Nat} {v : Value} {L L' : Lg}
theorem nw (h : L.Wf) {r : Rc} (hc : (rCheck (atR r L.tail)).2 = 0) (hr : ¬ L.room < ((rEnc (atR r L.tail)).1.length : Int)) : L.append r = ({ L with kept := L.kept ++ (rEnc (atR r L.tail)).1, recs := L.recs ++ [((L.tail : Int), atR r L.tail)] }, (L.tail : Int), 0) := by
 unfold Lg.append
 rw [decide_eq_true hc, cond_true, decide_eq_false hr, cond_false, dh]
 rw [bz]
 intro hm
 obtain ⟨x, hx, hxe⟩ := List.mem_map.1 hm
 have := (h.ok x hx).2.2.2.2
 omega
theorem jB (h : RL w b0 lb db v L) (hb0 : b0 ≤ w.heap.size) {cs : Array Value} {r : Rc} (hr : RcAs w cs r) :
  Cl prog 51 [pv lb, .agg cs] w fun u w' => u = .tuple #[iv (L.append r).2.1, iv (L.append r).2.2] ∧ ∃ v', RL w' b0 lb db v' (L.append r).1 ∧ (∀ y, RL.mine lb v' y → RL.mine lb v y ∨ w.heap.size ≤ y) ∧ Fm (RL.mine lb v) w w' := by
 have hwf := h.wf.append r hr.lsns
 have hlow := h.wf.low
 have hlt := h.lt
 obtain ⟨vs, vm, vi, vp, vt, rfl, _⟩ := hr.ex
 have same : ∀ {w' : World}, Fm (fun _ => False) w w' → ∃ v', RL w' b0 lb db v' L ∧ (∀ y, RL.mine lb v' y → RL.mine lb v y ∨ w.heap.size ≤ y) ∧ Fm (RL.mine lb v) w w' := fun hf => ⟨v, h.keep0 hf, fun y hy => .inl hy, hf.mono (fun _ _ e => e.elim)⟩
 refine c51 ?_; unfold T51
 refine ao ?_
 intro x1 w1 hx1 hs1 hw1 hf1
 simp only [RS]
 refine (bZ (h.keep0 hf1)).mono ?_
 rintro _ w2 ⟨rfl, hf2⟩
 have hF2 := Fmf hf1 hf2
 have hw2 := hf2.heap hw1 (fun e => e)
 try simp only [RS]
 refine ay hw2 (by show 0 < 16; decide) rfl ?_
 intro w3 hw3 hs3 hf3
 have hF3 : Fm (fun _ => False) w w3 := Fm.own hF2 hf3 (by rintro y rfl; omega)
 replace hw3 : w3.heap[x1]? = some (.cells (rcs (atR r L.tail) vs vm vi vp vt) 28) := hw3
 have hra := (hr.keep hF3).atR hlow
 simp only [RS, ax hw3 (n := 16) rfl]
 refine (ou hra).mono ?_
 rintro _ w4 ⟨rfl, hf4⟩
 have hF4 := Fmf hF3 hf4
 rw [nb]
 simp only [RS, al]
 cases hc : decide ((rCheck (atR r L.tail)).2 = 0) with
 | false =>
  have e : L.append r = (L, 0, (rCheck (atR r L.tail)).2) := by unfold Lg.append; rw [hc]; rfl
  rw [e]
  simp only [RS, Bool.not_false]
  exact ⟨(by trivial), same hF4⟩
 | true =>
 rw [decide_eq_true_eq] at hc
 have hel := Lg.enc_len hc hra.lsns
 simp only [RS, Bool.not_true, aj]
 refine (eH (h.keep0 hF4)).mono ?_
 rintro _ w5 ⟨rfl, hf5⟩
 have hF5 := Fmf hF4 hf5
 cases hrm : decide (L.room < ((rEnc (atR r L.tail)).1.length : Int)) with
 | true =>
  have e : L.append r = (L, 0, 50) := by unfold Lg.append; rw [decide_eq_true hc, hrm]; rfl
  rw [e]
  simp only [RS, hrm]
  exact ⟨(by trivial), same hF5⟩
 | false =>
 have hap := nw h.wf hc (by simpa using hrm)
 rw [hap] at hwf ⊢
 simp only [RS, hrm]
 have hi := h.keep0 hF5
 have hcn := h.cnt
 generalize hE : (rEnc (atR r L.tail)).1 = E at hel hwf
 have z5 := hF5.size
 simp only [RS, hi.c4]
 rw [dL (by omega)]
 try simp only [RS]
 refine ay hi.st (by show 4 < 9; decide) rfl ?_
 intro w6 hw6 hs6 hf6
 replace hw6 : w6.heap[lb]? = some (.cells #[pv db, iv (L.frm : Int), iv (L.n : Int), iv (L.base : Int), stv (L.kept ++ E), iv (L.start : Int), iv (L.last : Int), iv L.res, v] 167) := hw6
 have hrow6 := ae hi.row hf6 (fun y _ _ hy e => hi.nv (by rw [hy, e]))
 have c8 : w6.cell? ⟨lb, 8, none⟩ = some v := by rw [ag hw6]; rfl
 simp only [RS, c8]
 refine bq vP (by omega) 23 (cs := [iv (L.tail : Int)]) rfl (rv _ _) (by intro u hu; simp at hu; subst hu; rfl) hrow6 (by unfold maxLen; omega) (by omega) (by omega) ?_
 intro v' w7 hrow7 hcase
 have hlb := hlt lb (.inl rfl)
 obtain ⟨S, hfS, hS1, hS2⟩ : ∃ S : Nat → Prop, Fm S w6 w7 ∧ (∀ x, S x → v.ownBlock = some x) ∧ (∀ g, v'.ownBlock = some g → v.ownBlock = some g ∨ w6.heap.size ≤ g) := by
  rcases hcase with ⟨g', k1, k2, k3⟩ | ⟨g', k1, k2, k3⟩
  ·exact ⟨_, k3, fun x hx => by rw [hx]; exact k1, fun g hg => by rw [k2] at hg; cases hg; exact .inl k1⟩
  ·exact ⟨_, k3, fun _ e => e.elim, fun g hg => by rw [k1] at hg; cases hg; exact .inr k2⟩
 have hw7 := hfS.heap hw6 (fun e => hi.nv (hS1 _ e))
 refine ay hw7 (by show 8 < 9; decide) (aF hrow7) ?_
 intro w8 hw8 hs8 hf8
 replace hw8 : w8.heap[lb]? = some (.cells #[pv db, iv (L.frm : Int), iv (L.n : Int), iv (L.base : Int), stv (L.kept ++ E), iv (L.start : Int), iv (L.last : Int), iv L.res, v'] 167) := hw8
 have hnv' : v'.ownBlock ≠ some lb := fun e => by
  rcases hS2 lb e with q | q
  ·exact hi.nv q
  ·omega
 have hrow8 := ae hrow7 hf8 (fun y _ _ hy e => hnv' (by rw [hy, e]))
 refine ⟨(by trivial), v', ⟨hwf, ?_, hw8, ?_⟩, ?_, ?_⟩
 ·show ((L.recs ++ [((L.tail : Int), atR r L.tail)]).map (·.1)).Pairwise (· < ·)
  rw [List.map_append, List.pairwise_append]
  refine ⟨h.inc, by simp, fun a ha b hb => ?_⟩
  obtain ⟨p, hp, rfl⟩ := List.mem_map.1 ha
  simp at hb
  subst hb
  exact (h.wf.ok p hp).2.2.2.2
 ·show w8.ownsRow b0 3 1 v' (L.recs ++ [((L.tail : Int), atR r L.tail)]).length (plsV { L with kept := L.kept ++ E, recs := L.recs ++ [((L.tail : Int), atR r L.tail)] })
  have : plsV { L with kept := L.kept ++ E, recs := L.recs ++ [((L.tail : Int), atR r L.tail)] } = plsV L ++ [iv (L.tail : Int)] := by unfold plsV; simp
  rw [this, List.length_append]
  exact hrow8
 ·rintro y (rfl | hy)
  ·exact .inl (.inl rfl)
  ·rcases hS2 y hy with q | q
   ·exact .inl (.inr q)
   ·exact .inr (by omega)
 ·exact (((hF5.mono (fun _ _ e => e.elim) : Fm (RL.mine lb v) w w5).trans hf6 (fun _ _ e => e) (fun _ _ e => .inl e)).trans hfS (fun _ _ e => e) (fun x _ e => .inr (hS1 x e))).trans hf8 (fun _ _ e => e) (fun _ _ e => .inl e)
end
theorem oM (w : World) {s t : Bs} (h : t.length ≤ s.length) (hs : s.length ≤ 9223372036854775807) : Cl prog 174 [stv s, stv t] w fun v w' => v = .bool (decide (s.take t.length = t)) ∧ w' = w := by
 refine c174 ?_; unfold T174
 refine (?_ : Cl prog 210 [stv s, stv t] w fun v w' => v = .bool (decide (s.take t.length = t)) ∧ w' = w).mono (fun _ _ e => e)
 refine c210 ?_; unfold T210
 have d1 : decide ((t.length : Int) ≤ (s.length : Int)) = true := by rw [decide_eq_true_eq]; omega
 simp only [RS, aj, d1, df h, aD]
 exact ⟨(by trivial), (by trivial)⟩
theorem pz (w : World) {s t : Bs} (h : t.length ≤ s.length) (hs : s.length ≤ 9223372036854775807) : Cl prog 222 [stv s, stv t] w fun v w' => v = .bool (decide (s.drop (s.length - t.length) = t)) ∧ w' = w := by
 refine c222 ?_; unfold T222
 refine (?_ : Cl prog 239 [stv s, stv t] w fun v w' => v = .bool (decide (s.drop (s.length - t.length) = t)) ∧ w' = w).mono (fun _ _ e => e)
 refine c239 ?_; unfold T239
 have d1 : decide ((t.length : Int) ≤ (s.length : Int)) = true := by rw [decide_eq_true_eq]; omega
 have e1 : IntKind.i64.wrap ((s.length : Int) - (t.length : Int)) = ((s.length - t.length : Nat) : Int) := by rw [ab] <;> omega
 have e2 : slS (stv s) (some (iv ((s.length - t.length : Nat) : Int))) none = some (stv (s.drop (s.length - t.length))) := cQ (by omega) .i64
 simp only [RS, aj, d1, e1, e2, aD]
 exact ⟨(by trivial), (by trivial)⟩
theorem vN (a b : Nat) : eX (.int .u8 (a : Int)) (.int .u8 (b : Int)) = some (.int .u8 ((min a b : Nat) : Int)) := by
 show some (Value.int .u8 (if (b : Int) < (a : Int) then (b : Int) else (a : Int))) = _
 congr 2
 split <;> omega
theorem kO (w : World) {s : Bs} (hs : s.length = 64) {k : Nat} (hk : k + 1 ≤ 9223372036854775807) : Cl prog 194 [stv s, iv (k : Int)] w fun v w' => v = stv (opened s k) ∧ Fm (fun _ => False) w w' := by
 have h4 := Lg.blk_len k
 refine c194 ?_; unfold T194
 refine (ej w hk).mono ?_
 rintro _ w2 ⟨rfl, hf2⟩
 refine (oM w2 (s := s) (t := fI k) (by omega) (by omega)).mono ?_
 rintro _ w2 ⟨rfl, rfl⟩
 rw [h4]
 unfold opened
 cases e1 : decide (s.take 4 = fI k) with
 | false =>
  simp only [RS, Bool.false_and, cond_false]
  exact ⟨(by trivial), hf2⟩
 | true =>
 simp only [RS, Bool.true_and]
 refine (ej w2 hk).mono ?_
 rintro _ w3 ⟨rfl, hf3⟩
 try simp only [RS]
 refine (pz w3 (s := s) (t := fI k) (by omega) (by omega)).mono ?_
 rintro _ w3 ⟨rfl, rfl⟩
 rw [h4, hs]
 have hF := Fmf hf2 hf3
 rw [show 64 - 4 = 60 from rfl]
 cases e2 : decide (s.drop 60 = fI k) with
 | false =>
  simp only [RS, cond_false]
  exact ⟨(by trivial), hF⟩
 | true =>
 have i4 : ixS (stv s) (iv 4) = some (.int .u8 (((s.getD 4 0).toNat : Nat) : Int)) := bI (k := 4) (by omega)
 have i59 : ixS (stv s) (iv 59) = some (.int .u8 (((s.getD 59 0).toNat : Nat) : Int)) := bI (k := 59) (by omega)
 have e5 : slS (stv s) (some (iv 5)) none = some (stv (s.drop 5)) := cQ (i := 5) (by omega) .i64
 have ef : aU eX [.int .u8 (((s.getD 4 0).toNat : Nat) : Int), .int .u8 (((s.getD 59 0).toNat : Nat) : Int), .int .u8 54] = some (.int .u8 ((min (min (s.getD 4 0).toNat (s.getD 59 0).toNat) 54 : Nat) : Int)) := by
  simp only [aU, fO, vN, Option.bind_some]
  rw [show (Value.int .u8 54) = .int .u8 ((54 : Nat) : Int) from rfl, vN]
  rfl
 have e6 : slS (stv (s.drop 5)) none (some (.int .u8 ((min (min (s.getD 4 0).toNat (s.getD 59 0).toNat) 54 : Nat) : Int))) = some (stv ((s.drop 5).take (min (min (s.getD 4 0).toNat (s.getD 59 0).toNat) 54))) := df (by rw [List.length_drop]; omega) .u8
 simp only [RS, e5, i4, i59, ef, e6, cond_true]
 exact ⟨(by trivial), Fmf hF (Fm.drew _ _)⟩
theorem jY {d : Dk} (h : d.Wf) {a : Int} (he : (d.read a 1).2 = 0) : (d.read a 1).1.length = 64 := by
 unfold Dk.read at he ⊢
 cases hg : d.gone with
 | true => rw [hg] at he; cases he
 | false =>
  rw [hg, cond_false] at he
  rw [cond_false]
  cases hh : d.has a 1 with
  | false => rw [hh] at he; cases he
  | true =>
   simp only [Bool.not_true, cond_false]
   unfold Dk.has at hh
   rw [decide_eq_true_eq] at hh
   rw [Dk.flat_len (fun x hx => h.s1 x (List.mem_of_mem_drop (List.mem_of_mem_take hx))), List.length_take, List.length_drop]
   have : (1 : Int).toNat = 1 := rfl
   rw [this]; omega
def aC (d : Dk) (frm n k : Nat) : Nat → Nat → Bs → Bs × Int
 | 0, i, out => (out, 0)
 | f + 1, i, out => bif decide ((d.read ((frm + (k + i) % n : Nat) : Int) 1).2 = 0) then
   (bif decide ((opened (d.read ((frm + (k + i) % n : Nat) : Int) 1).1 (k + i)).length < 54) then (out ++ opened (d.read ((frm + (k + i) % n : Nat) : Int) 1).1 (k + i), 0)
    else aC d frm n k f (i + 1) (out ++ opened (d.read ((frm + (k + i) % n : Nat) : Int) 1).1 (k + i)))
  else ([], (d.read ((frm + (k + i) % n : Nat) : Int) 1).2)
theorem fR (s : Bs) (k : Nat) : (opened s k).length ≤ 54 := by
 unfold opened
 cases decide (s.take 4 = fI k) && decide (s.drop 60 = fI k) with
 | true => rw [cond_true, List.length_take]; omega
 | false => simp
section
variable {w : World} {X P : Nat → Prop} {lb db mb : Nat} {kv : Value} {M : List (Int × Array Value)} {L : Lg}
theorem jM (hi : LIn w X P lb db mb kv M L) (h1 : L.frm + L.n ≤ 65536) (h2 : 4 ≤ L.n) {k : Nat} (hk : k ≤ 9223372036854775807) : Cl prog 99 [pv lb, iv (k : Int)] w fun v w' => v = iv ((L.frm + k % L.n : Nat) : Int) ∧ Fm (fun _ => False) w w' := by
 have e1 := bC (TypeDesc.int .i64) (n := k) (m := L.n) (by omega) hk (b := (L.n : Int)) rfl
 have hm := Nat.mod_lt k (show 0 < L.n by omega)
 have e2 : IntKind.i64.wrap ((L.frm : Int) + ((k % L.n : Nat) : Int)) = ((L.frm + k % L.n : Nat) : Int) := by rw [ab] <;> omega
 refine c99 ?_; unfold T99
 simp only [RS, hi.c1, hi.c2, e1, e2, true_and]
 exact Fm.drew _ _
theorem nT {g m : Nat} {d : Dk} (hi : LIn w X P lb db mb kv M L) (h1 : L.frm + L.n ≤ 65536) (h2 : 4 ≤ L.n) (hd : DAt w db g m d) {k : Nat} (hk : k ≤ 9000000000000000000) :
  Cl prog 140 [pv lb, iv (k : Int)] w fun v w' => ∃ u, v = .tuple #[u, iv (aC d L.frm L.n k L.n 0 []).2] ∧ w'.ownsRow w.heap.size 5 1 u (aC d L.frm L.n k L.n 0 []).1.length (bc (aC d L.frm L.n k L.n 0 []).1) ∧ Fm (fun _ => False) w w' := by
 refine c140 ?_; unfold T140
 refine bG (fun vs w2 => ∃ u, vs = [u] ∧ (aC d L.frm L.n k L.n 0 []).2 = 0 ∧ w2.ownsRow w.heap.size 5 1 u (aC d L.frm L.n k L.n 0 []).1.length (bc (aC d L.frm L.n k L.n 0 []).1) ∧ Fm (fun _ => False) w w2) ?_ ?_
 ·rintro _ w2 ⟨u, rfl, q1, q2, q3⟩ _
  exact ⟨u, rfl, u, by rw [q1], q2, q3⟩
 intro kk hkk
 simp only [RS, hi.c2]
 refine ⟨fun vs w' => ∃ (i : Nat) (out : Bs) (ov : Value), vs = [ov, iv (i : Int)] ∧ i ≤ L.n ∧ w'.ownsRow w.heap.size 5 1 ov out.length (bc out) ∧ out.length ≤ 54 * i ∧ Fm (fun _ => False) w w' ∧ aC d L.frm L.n k (L.n - i) i out = aC d L.frm L.n k L.n 0 [],
  fun vs _ => (L.n - nth vs 1).toNat, ⟨0, [], _, rfl, by omega, World.ownsRow_nil _ _ _ _, by simp, Fm.refl _ _, rfl⟩, ?_⟩
 rintro _ w3 ov ivv ⟨i, out, ov', hvs, hin, ho, hol, hF3, hgo⟩
 cases hvs
 by_cases hlt : i < L.n
 ·have d1 : decide ((i : Int) < (L.n : Int)) = true := by rw [decide_eq_true_eq]; omega
  have e1 : IntKind.i64.wrap ((k : Int) + (i : Int)) = ((k + i : Nat) : Int) := by rw [ab] <;> omega
  have e2 : IntKind.i64.wrap ((i : Int) + 1) = ((i + 1 : Nat) : Int) := by rw [ab] <;> omega
  have hsub : L.n - i = (L.n - (i + 1)) + 1 := by omega
  rw [hsub, aC] at hgo
  have hfd := Fm.drew (fun _ => False) w3
  have hFd := Fmf hF3 hfd
  simp only [RS, d1]
  refine ⟨fun w' => Fm (fun _ => False) w3 w', hfd, ?_⟩
  refine ⟨pv db, fun w' h' => ?_, ?_⟩
  ·have hc0 := (hi.keep0 (Fmf hF3 h')).c0
   simp only [RS, hc0] <;> trivial
  simp only [RS, e1]
  refine (jM (hi.keep0 hFd) h1 h2 (k := k + i) (by omega)).mono ?_
  rintro _ w4 ⟨rfl, hf4⟩
  have hF4 := Fmf hfd hf4
  refine ⟨hF4, ?_⟩
  have hF4' := Fmf hF3 hF4
  refine (fQ (hd.keep0 hF4') ((L.frm + (k + i) % L.n : Nat) : Int) 1).mono ?_
  rintro _ w4 ⟨rfl, rfl⟩
  have hrl := jY hd.wf (a := ((L.frm + (k + i) % L.n : Nat) : Int))
  generalize d.read ((L.frm + (k + i) % L.n : Nat) : Int) 1 = rd at hgo hrl
  simp only [RS, al]
  cases hz : decide (rd.2 = 0) with
  | false =>
   rw [hz, cond_false] at hgo
   rw [← hgo]
   simp only [RS, Bool.not_false]
   exact ⟨_, (by trivial), World.ownsRow_nil _ _ _ _, hF4'⟩
  | true =>
  rw [hz, cond_true] at hgo
  rw [decide_eq_true_eq] at hz
  simp only [RS, Bool.not_true]
  refine (kO w4 (hrl hz) (k := k + i) (by omega)).mono ?_
  rintro _ w5 ⟨rfl, hf5⟩
  have hF5 := Fmf hF4 hf5
  have ho5 := ae ho hF5 (fun _ _ _ _ e => e)
  have hz5 := (Fmf hF3 hF5).size
  have hol2 := fR rd.1 (k + i)
  generalize opened rd.1 (k + i) = b at hgo hol2
  have d2 : decide ((b.length : Int) < 54) = decide (b.length < 54) := by rw [decide_eq_decide]; omega
  obtain ⟨v', w6, hr6, ho6, hf6, _⟩ := dH B38 ho5 b 123 (by omega) hz5
  refine af hr6 ?_
  have hlt6 := aX ho5
  have hF6 : Fm (fun _ => False) w w6 := Fm.own (Fmf hF3 hF5) hf6 (fun y hy => (hlt6 y hy).1)
  rw [← List.length_append] at ho6
  simp only [RS, aj, d2, e2]
  cases hs : decide (b.length < 54) with
  | true =>
   rw [hs, cond_true] at hgo
   simp only [RS]
   exact hkk _ _ ⟨v', rfl, by rw [← hgo], by rw [← hgo]; exact ho6, hF6⟩
  | false =>
   rw [hs, cond_false] at hgo
   simp only [RS]
   exact ⟨⟨i + 1, out ++ b, v', rfl, by omega, ho6, by rw [List.length_append]; omega, hF6, hgo⟩, by simp only [bM]; omega⟩
 ·have hie : i = L.n := by omega
  subst hie
  have d1 : decide ((L.n : Int) < (L.n : Int)) = false := by simp
  rw [Nat.sub_self, aC] at hgo
  simp only [RS, d1]
  exact hkk _ _ ⟨ov, rfl, by rw [← hgo], by rw [← hgo]; exact ho, hF3⟩
end
def clr (n : Nat) : Nat → Nat → List Bs → List Bs
 | 0, _, W => W
 | f + 1, k, W => clr n f (k + 1) (W.set (k % n) [])
theorem lW (n : Nat) : ∀ (f k : Nat) (W : List Bs), (clr n f k W).length = W.length
 | 0, _, W => rfl
 | f + 1, k, W => by rw [clr, lW n f]; simp
def Lg.lastB (L : Lg) : Nat := (L.tail - 1) / 54
def Lg.want1 (L : Lg) : List Bs := clr L.n (L.lastB - (L.start - 1) / 54) ((L.start - 1) / 54) (List.replicate L.n Dk.zsec)
def Lg.want (L : Lg) : List Bs := bif decide (L.bytes L.lastB = []) then L.want1 else L.want1.set (L.lastB % L.n) (bd L.lastB (L.bytes L.lastB))
theorem jX (L : Lg) : L.want.length = L.n := by
 have : L.want1.length = L.n := by unfold Lg.want1; rw [lW]; simp
 unfold Lg.want
 cases decide (L.bytes L.lastB = []) with
 | true => exact this
 | false => simp [this]
def cC (frm : Nat) : List Bs → Nat → Bool → Dk → Bool × Dk × Int
 | [], _, wr, d => (wr, d, 0)
 | x :: l, i, wr, d =>
  bif decide (x = []) then cC frm l (i + 1) wr d
  else bif decide ((d.read ((frm + i : Nat) : Int) 1).2 = 0) then
   (bif decide ((d.read ((frm + i : Nat) : Int) 1).1 = x) then cC frm l (i + 1) wr d
    else bif decide ((d.write ((frm + i : Nat) : Int) x).2 = 0) then cC frm l (i + 1) true (d.write ((frm + i : Nat) : Int) x).1 else (true, (d.write ((frm + i : Nat) : Int) x).1, (d.write ((frm + i : Nat) : Int) x).2))
  else (wr, d, (d.read ((frm + i : Nat) : Int) 1).2)
def Lg.wipeR (L : Lg) (d : Dk) : Bool × Dk × Int := cC L.frm L.want 0 false d
def Lg.wipe (L : Lg) (d : Dk) : Dk × Int :=
 bif decide ((L.wipeR d).2.2 = 0) then (bif (L.wipeR d).1 then (L.wipeR d).2.1.sync else ((L.wipeR d).2.1, 0)) else (L.wipeR d).2
theorem lL (n : Nat) : ∀ (f k : Nat) (W : List Bs) (x : Bs), x ∈ clr n f k W → x ∈ W ∨ x = []
 | 0, _, W, x, h => .inl h
 | f + 1, k, W, x, h => by
  rw [clr] at h
  rcases lL n f _ _ x h with h | h
  ·exact List.mem_or_eq_of_mem_set h
  ·exact .inr h
theorem qU {L : Lg} {x : Bs} (h : x ∈ L.want) : x.length ≤ 64 := by
 have h1 : ∀ x ∈ L.want1, x.length ≤ 64 := by
  intro x hx
  rcases lL _ _ _ _ _ hx with h | rfl
  ·rw [(List.mem_replicate.1 h).2]; simp [Dk.zsec]
  ·simp
 unfold Lg.want at h
 cases hb : decide (L.bytes L.lastB = []) with
 | true => rw [hb] at h; exact h1 x h
 | false =>
  rw [hb, cond_false] at h
  rcases List.mem_or_eq_of_mem_set h with h | rfl
  ·exact h1 x h
  ·rw [Lg.seal_len (Lg.bytes_len L _)]; omega
theorem gA {L : Lg} {d e : Dk} {wr : Bool} {er : Int} (h : L.wipeR d = (wr, e, er)) (he : er ≠ 0) : L.wipe d = (e, er) := by
 unfold Lg.wipe; rw [h]; simp [he]
theorem pL {L : Lg} {d e : Dk} {wr : Bool} (h : L.wipeR d = (wr, e, 0)) : L.wipe d = bif wr then e.sync else (e, 0) := by
 unfold Lg.wipe; rw [h]; rfl
theorem wx (w : World) (n : Nat) (h : n ≤ 1000000) : (Instr.makeSlice 59 (iv n) (iv n)).run prog w = .ok (.slice (some ⟨w.heap.size, 0, none⟩) n n) (w.alloc (.cells (List.replicate n (stv [])).toArray 9)) := by
 obtain ⟨i, h1, h2, h3, h4⟩ := tX (P := prog) (e := 9) (z := stv []) (n := 1) (b := 16) (by kernel_rfl)
 exact VRow.make Tryz.underlying59 h1 h2 h3 rfl w n (by rw [h4]; omega) (by omega)
def Dm (db g m : Nat) (y : Nat) : Prop := y = db ∨ y = g ∨ y = m
structure WW (w w' : World) (q : Nat) (X : Nat → Prop) (lb db g m : Nat) (L : Lg) (e : Dk) (W : List Bs) : Prop where
 hL : LAt w' X lb db L
 hd : DAt w' db g m e
 hr : VRow w' q 9 (W.map stv)
 hF : Fm (Dm db g m) w w'
 hq : w.heap.size ≤ q
 hX : ∀ y, X y → y < w.heap.size
 hD : db < w.heap.size ∧ g < w.heap.size ∧ m < w.heap.size
 hXD : ∀ y, X y → ¬ Dm db g m y
section
variable {w w' w2 : World} {q : Nat} {X : Nat → Prop} {lb db g m : Nat} {L : Lg} {e e' : Dk} {W : List Bs}
theorem WW.keep0 (h : WW w w' q X lb db g m L e W) (hf : Fm (fun _ => False) w' w2) : WW w w2 q X lb db g m L e W :=
 ⟨h.hL.keep0 hf, h.hd.keep0 hf, h.hr.keep hf (fun e => e), h.hF.trans hf (fun _ _ e => e) (fun _ _ e => e.elim), h.hq, h.hX, h.hD, h.hXD⟩
theorem WW.put (h : WW w w' q X lb db g m L e W) {i : Nat} (hi : i < W.length) {x : Bs} {k : KV} (hk : ∀ w2, WW w w2 q X lb db g m L e (W.set i x) → k undef w2) : St 1 w' (.pointer (some ⟨q, i, none⟩)) (stv x) k := by
 refine h.hr.put (by simpa using hi) rfl ?_
 intro w2 h1 h2 h3
 have hq := h.hq
 rw [← List.map_set] at h1
 refine hk w2 ⟨h.hL.keep h3 (fun y hy e => ?_), h.hd.keep h3 (fun e => ?_) (fun e => ?_) (fun e => ?_), h1, Fm.step h.hF h3 (fun y hy => .inr (hy ▸ hq)), hq, h.hX, h.hD, h.hXD⟩
 ·have := h.hX y hy; omega
 ·have := h.hD.1; omega
 ·have := h.hD.2.1; omega
 ·have := h.hD.2.2; omega
theorem WW.disk (h : WW w w' q X lb db g m L e W) (hd : DAt w2 db g m e') (hf : Fm (fun y => y = db ∨ y = g ∨ y = m) w' w2) : WW w w2 q X lb db g m L e' W := by
 have hq := h.hq
 have hD := h.hD
 refine ⟨h.hL.keep hf h.hXD, hd, h.hr.keep hf ?_, h.hF.trans hf (fun _ _ e => e) (fun _ _ e => e), hq, h.hX, h.hD, h.hXD⟩
 rintro (e | e | e) <;> omega
end
theorem ot {w : World} {X : Nat → Prop} {lb db g m : Nat} {L : Lg} {d : Dk} (h : LAt w X lb db L) (hd : DAt w db g m d) (hX : ∀ y, X y → ¬ Dm db g m y) :
  Cl prog 141 [pv lb] w fun v w' => v = iv (L.wipe d).2 ∧ LAt w' X lb db L ∧ DAt w' db g m (L.wipe d).1 ∧ Fm (Dm db g m) w w' := by
 have h1 := h.wf.st; have h2 := h.wf.low; have h4 := h.wf.bs; have h5 := h.wf.n4; have h6 := h.wf.big
 have hb := Lg.baseOf_le h1.1
 rw [← h4] at hb
 obtain ⟨P, mb, kv, M, hi⟩ := h.ex
 refine c141 ?_; unfold T141
 simp only [RS, hi.c2]
 refine af (wx w L.n (by omega)) ?_
 have hfa := Fm.alloc (fun _ => False) w (.cells (List.replicate L.n (stv [])).toArray 9)
 have hr0 : VRow (w.alloc (.cells (List.replicate L.n (stv [])).toArray 9)) w.heap.size 9 ((List.replicate L.n ([] : Bs)).map stv) := by
  rw [List.map_replicate]; exact az _ _
 have hW0 : WW w (w.alloc (.cells (List.replicate L.n (stv [])).toArray 9)) w.heap.size X lb db g m L d (List.replicate L.n []) :=
  ⟨h.keep0 hfa, hd.keep0 hfa, hr0, hfa.mono (fun _ _ e => e.elim), Nat.le_refl _, h.lt, hd.lt, hX⟩
 generalize w.alloc (.cells (List.replicate L.n (stv [])).toArray 9) = w1 at hW0
 clear hr0 hfa
 generalize w.heap.size = q at hW0
 simp only [RS]
 refine ⟨fun vs w' => ∃ i : Nat, vs = [iv (i : Int)] ∧ i ≤ L.n ∧ WW w w' q X lb db g m L d (List.replicate i Dk.zsec ++ List.replicate (L.n - i) []), fun vs _ => (L.n - nth vs 0).toNat, ⟨0, rfl, by omega, hW0⟩, ?_⟩
 rintro _ w2 ivv ⟨i, hvs, hin, hW⟩
 cases hvs
 by_cases hlt : i < L.n
 ·have d1 : decide ((i : Int) < (L.n : Int)) = true := by rw [decide_eq_true_eq]; omega
  have e2 : IntKind.i64.wrap ((i : Int) + 1) = ((i + 1 : Nat) : Int) := by rw [ab] <;> omega
  simp only [RS, d1]
  refine (cX w2 64 (by omega)).mono ?_
  rintro _ w3 ⟨rfl, hf3⟩
  simp only [RS, bD hlt, Nat.mul_one]
  refine (hW.keep0 hf3).put (x := aG 64) (by simp; omega) ?_
  intro w4 hW4
  simp only [RS, e2]
  refine ⟨⟨i + 1, rfl, by omega, ?_⟩, by simp only [bw]; omega⟩
  have : (List.replicate i Dk.zsec ++ List.replicate (L.n - i) ([] : Bs)).set i (aG 64) = List.replicate (i + 1) Dk.zsec ++ List.replicate (L.n - (i + 1)) [] := by
   rw [List.set_append_right _ _ (by simp), show L.n - i = (L.n - (i + 1)) + 1 by omega]
   simp only [List.length_replicate, Nat.sub_self, List.replicate_succ, List.set_cons_zero]
   rw [← List.replicate_succ, List.replicate_succ', List.append_assoc]; rfl
  rw [← this]; exact hW4
 have hie : i = L.n := by omega
 subst hie
 have d1 : decide ((L.n : Int) < (L.n : Int)) = false := by simp
 rw [Nat.sub_self, List.replicate_zero, List.append_nil] at hW
 simp only [RS, d1]
 clear d1 hlt hW0
 refine (cr hW.hL).mono ?_
 rintro _ w3 ⟨rfl, hf3⟩
 have hW3 := hW.keep0 hf3
 refine (dI w3 (n := L.tail) (by omega) (by omega)).mono ?_
 rintro _ w3 ⟨rfl, rfl⟩
 obtain ⟨P3, mb3, kv3, M3, hi3⟩ := hW3.hL.ex
 simp only [RS, hi3.c5]
 refine (dI w3 (n := L.start) (by omega) (by omega)).mono ?_
 rintro _ w3 ⟨rfl, rfl⟩
 have hlb : (L.tail - 1) / 54 = L.lastB := rfl
 rw [hlb]
 have hle : (L.start - 1) / 54 ≤ L.lastB := by unfold Lg.lastB; omega
 have hlm : L.lastB * 54 + 1 ≤ L.tail := by unfold Lg.lastB; omega
 have hbl : L.base ≤ L.lastB * 54 + 1 := by rw [h4]; unfold Lg.baseOf Lg.lastB; omega
 refine ⟨fun vs w' => ∃ (k : Nat) (W : List Bs), vs = [iv (k : Int)] ∧ k ≤ L.lastB ∧ W.length = L.n ∧ clr L.n (L.lastB - k) k W = L.want1 ∧ WW w w' q X lb db g m L d W, fun vs _ => (L.lastB - nth vs 0).toNat, ⟨(L.start - 1) / 54, _, rfl, hle, by simp, rfl, hW3⟩, ?_⟩
 rintro _ w4 kvv ⟨k, W, hvs, hk, hWl, hcl, hW4⟩
 cases hvs
 by_cases hlt : k < L.lastB
 ·have d1 : decide ((k : Int) < (L.lastB : Int)) = true := by rw [decide_eq_true_eq]; omega
  have e2 : IntKind.i64.wrap ((k : Int) + 1) = ((k + 1 : Nat) : Int) := by rw [ab] <;> omega
  have e3 := bC (TypeDesc.int .i64) (n := k) (m := L.n) (by omega) (by omega) (b := (L.n : Int)) rfl
  have hm := Nat.mod_lt k (show 0 < L.n by omega)
  obtain ⟨P4, mb4, kv4, M4, hi4⟩ := hW4.hL.ex
  simp only [RS, d1, hi4.c2, e3, bD hm, Nat.mul_one]
  refine hW4.put (x := []) (by omega) ?_
  intro w5 hW5
  simp only [RS, e2]
  refine ⟨⟨k + 1, _, rfl, by omega, by simpa using hWl, ?_, hW5⟩, by simp only [bw]; omega⟩
  rw [← hcl, show L.lastB - k = (L.lastB - (k + 1)) + 1 by omega, clr]
 have hke : k = L.lastB := by omega
 subst hke
 have d1 : decide ((L.lastB : Int) < (L.lastB : Int)) = false := by simp
 rw [Nat.sub_self, clr] at hcl
 subst hcl
 simp only [RS, d1]
 clear d1 hlt
 refine bG (fun vs w5 => vs = [] ∧ WW w w5 q X lb db g m L d L.want) ?_ ?_
 ·rintro _ w5 ⟨rfl, hW5⟩ _
  refine ⟨rfl, ?_⟩
  have hwl := jX L
  try simp only [RS]
  refine ⟨fun vs w' => ∃ (wr : Bool) (i : Nat) (e : Dk), vs = [.bool wr, iv (i : Int)] ∧ i ≤ L.n ∧ cC L.frm (L.want.drop i) i wr e = L.wipeR d ∧ WW w w' q X lb db g m L e L.want, fun vs _ => (L.n - nth vs 1).toNat, ⟨false, 0, d, rfl, by omega, by rw [List.drop_zero]; rfl, hW5⟩, ?_⟩
  rintro _ w6 wrv ivv ⟨wr, i, e, hvs, hin, hgo, hW6⟩
  cases hvs
  by_cases hlt : i < L.n
  ·have d1 : decide ((i : Int) < (L.n : Int)) = true := by rw [decide_eq_true_eq]; omega
   have e2 : IntKind.i64.wrap ((i : Int) + 1) = ((i + 1 : Nat) : Int) := by rw [ab] <;> omega
   have e3 : IntKind.i64.wrap ((L.frm : Int) + (i : Int)) = ((L.frm + i : Nat) : Int) := by rw [ab] <;> omega
   have hx : L.want[i]? = some L.want[i] := List.getElem?_eq_getElem (by omega)
   have hdr := List.drop_eq_getElem_cons (show i < L.want.length by omega)
   generalize L.want[i] = x at hx hdr
   rw [hdr, cC] at hgo
   have hc : ∀ {w'}, WW w w' q X lb db g m L e L.want → w'.cell? ⟨q, i, none⟩ = some (stv x) := fun hw => by
    rw [hw.hr.cell, List.getElem?_map, hx]; rfl
   have hxl : x.length ≤ 64 := qU (List.mem_of_getElem? hx)
   simp only [RS, d1]
   refine bG (fun vs w7 => ∃ (wr' : Bool) (e' : Dk), vs = [.bool wr'] ∧ cC L.frm (L.want.drop (i + 1)) (i + 1) wr' e' = L.wipeR d ∧ WW w w7 q X lb db g m L e' L.want) ?_ ?_
   ·rintro _ w7 ⟨wr', e', rfl, hgo', hW7⟩ _
    refine ⟨_, rfl, ?_⟩
    simp only [RS, e2]
    exact ⟨⟨wr', i + 1, e', rfl, by omega, hgo', hW7⟩, by simp only [bM]; omega⟩
   intro kk hkk
   simp only [RS, bD hlt, Nat.mul_one, hc hW6, br, aD]
   cases hz : decide (x = []) with
   | true =>
    rw [hz, cond_true] at hgo
    simp only [RS]
    exact hkk _ _ ⟨wr, e, rfl, hgo, hW6⟩
   | false =>
   rw [hz, cond_false] at hgo
   have hW7 := hW6.keep0 (Fm.drew _ w6)
   obtain ⟨P7, mb7, kv7, M7, hi7⟩ := hW7.hL.ex
   have hi7c0 : w6.cell? ⟨lb, 0, none⟩ = some (pv db) := hi7.c0
   have hi7c1 : w6.cell? ⟨lb, 1, none⟩ = some (iv (L.frm : Int)) := hi7.c1
   simp only [RS, hi7c0, hi7c1, e3, true_and]
   refine (fQ hW7.hd ((L.frm + i : Nat) : Int) 1).mono ?_
   rintro _ w8 ⟨rfl, rfl⟩
   have hrn := jY hW7.hd.wf (a := ((L.frm + i : Nat) : Int))
   generalize hrd : e.read ((L.frm + i : Nat) : Int) 1 = rd at hgo hrn
   simp only [RS]
   refine bG (fun vs w9 => ∃ (wr' : Bool) (e' : Dk) (er : Int), vs = [.bool wr', iv er] ∧ WW w w9 q X lb db g m L e' L.want ∧ ((er = 0 ∧ cC L.frm (L.want.drop (i + 1)) (i + 1) wr' e' = L.wipeR d) ∨ (er ≠ 0 ∧ L.wipe d = (e', er)))) ?_ ?_
   ·rintro _ w9 ⟨wr', e', er, rfl, hW9, hcase⟩ _
    refine ⟨_, _, rfl, ?_⟩
    simp only [RS, al]
    rcases hcase with ⟨rfl, hgo'⟩ | ⟨hne, hwp⟩
    ·simp only [RS, decide_true]
     exact hkk _ _ ⟨wr', e', rfl, hgo', hW9⟩
    ·have : decide (er = 0) = false := by simpa using hne
     rw [hwp]
     simp only [RS, this]
     exact ⟨(by trivial), hW9.hL, hW9.hd, hW9.hF⟩
   intro jj hjj
   simp only [RS, aA]
   cases hz0 : decide (rd.2 = 0) with
   | false =>
    rw [hz0, cond_false] at hgo
    rw [decide_eq_false_iff_not] at hz0
    simp only [RS]
    exact hjj _ _ ⟨wr, e, rd.2, rfl, hW7, .inr ⟨hz0, gA hgo.symm hz0⟩⟩
   | true =>
   rw [hz0, cond_true] at hgo
   rw [decide_eq_true_eq] at hz0
   simp only [RS, aD]
   cases hz1 : decide (rd.1 = x) with
   | true =>
    rw [hz1, cond_true] at hgo
    simp only [RS]
    exact hjj _ _ ⟨wr, e, rd.2, rfl, hW7, .inl ⟨hz0, hgo⟩⟩
   | false =>
   rw [hz1, cond_false] at hgo
   have hW10 := hW7.keep0 (Fm.drew _ w6.drew)
   simp only [RS, hi7c0, hi7c1, e3, true_and]
   refine (eG hW10.hd ((L.frm + i : Nat) : Int) x (by omega)).mono ?_
   rintro _ w11 ⟨rfl, hd11, hf11⟩
   have hW11 := hW10.disk hd11 hf11
   generalize e.write ((L.frm + i : Nat) : Int) x = wd at hgo hW11
   cases hz2 : decide (wd.2 = 0) with
   | true =>
    rw [hz2, cond_true] at hgo
    rw [decide_eq_true_eq] at hz2
    exact hjj _ _ ⟨true, wd.1, wd.2, rfl, hW11, .inl ⟨hz2, hgo⟩⟩
   | false =>
    rw [hz2, cond_false] at hgo
    rw [decide_eq_false_iff_not] at hz2
    exact hjj _ _ ⟨true, wd.1, wd.2, rfl, hW11, .inr ⟨hz2, gA hgo.symm hz2⟩⟩
  ·have hie : i = L.n := by omega
   subst hie
   have d1 : decide ((L.n : Int) < (L.n : Int)) = false := by simp
   rw [List.drop_eq_nil_of_le (by omega), cC] at hgo
   have hwp := pL hgo.symm
   simp only [RS, d1]
   cases wr with
   | false =>
    rw [cond_false] at hwp
    rw [hwp]
    simp only [RS]
    exact ⟨(by trivial), hW6.hL, hW6.hd, hW6.hF⟩
   | true =>
    rw [cond_true] at hwp
    rw [hwp]
    obtain ⟨P7, mb7, kv7, M7, hi7⟩ := hW6.hL.ex
    simp only [RS, hi7.c0]
    refine (fU hW6.hd).mono ?_
    rintro _ w8 ⟨rfl, hd8, hf8⟩
    have hW8 := hW6.disk hd8 hf8
    exact ⟨rfl, hW8.hL, hW8.hd, hW8.hF⟩
 ·intro kk hkk
  refine (gZ hW4.hL hbl hlm).mono ?_
  rintro _ w5 ⟨rfl, hf5⟩
  have hW5 := hW4.keep0 hf5
  simp only [RS, br, aD]
  cases hz : decide (L.bytes L.lastB = []) with
  | true =>
   have hwant : L.want = L.want1 := by unfold Lg.want; rw [hz]; rfl
   simp only [RS]
   exact hkk _ _ ⟨rfl, by rw [hwant]; exact hW5⟩
  | false =>
   have hwant : L.want = L.want1.set (L.lastB % L.n) (bd L.lastB (L.bytes L.lastB)) := by unfold Lg.want; rw [hz]; rfl
   have hfd := Fm.drew (fun _ => False) w5
   have e3 := bC (TypeDesc.int .i64) (n := L.lastB) (m := L.n) (by omega) (by omega) (b := (L.n : Int)) rfl
   have hm := Nat.mod_lt L.lastB (show 0 < L.n by omega)
   simp only [RS]
   refine ⟨fun w' => Fm (fun _ => False) w5 w', hfd, ?_⟩
   refine ⟨iv (L.n : Int), fun w' h' => ?_, ?_⟩
   ·obtain ⟨P', mb', kv', M', hi'⟩ := (hW5.keep0 h').hL.ex
    simp only [RS, hi'.c2] <;> trivial
   simp only [RS, e3]
   refine (jb w5.drew (k := L.lastB) (by omega) (Lg.bytes_len L _)).mono ?_
   rintro _ w6 ⟨rfl, hf6⟩
   have hF6 := Fmf hfd hf6
   refine ⟨hF6, ?_⟩
   simp only [RS, bD hm, Nat.mul_one]
   refine (hW5.keep0 hF6).put (by omega) ?_
   intro w7 hW7
   exact hkk _ _ ⟨rfl, by rw [hwant]; exact hW7⟩
def dn (d : Dk) (frm n : Int) : Bool := decide (4 ≤ n) && (decide (0 ≤ frm) && (decide (n ≤ d.cur.length) && decide (frm ≤ d.cur.length - n)))
theorem ju {w : World} {b g m : Nat} {d : Dk} (h : DAt w b g m d) (frm n : Int) : Cl prog 93 [pv b, iv frm, iv n] w fun v w' => v = .bool (dn d frm n) ∧ w' = w := by
 have hn := h.wf.n1
 unfold dn
 refine c93 ?_; unfold T93
 cases e1 : decide (4 ≤ n) with
 | false =>
  simp only [RS, e1, Bool.false_and]
  exact ⟨(by trivial), (by trivial)⟩
 | true =>
 cases e2 : decide (0 ≤ frm) with
 | false =>
  simp only [RS, e1, e2, Bool.false_and, Bool.and_false]
  exact ⟨(by trivial), (by trivial)⟩
 | true =>
 simp only [RS, e1, e2]
 refine (dx h).mono ?_
 rintro _ w ⟨rfl, rfl⟩
 cases e3 : decide (n ≤ (d.cur.length : Int)) with
 | false =>
  simp only [RS, e3, Bool.false_and, Bool.and_false]
  exact ⟨(by trivial), (by trivial)⟩
 | true =>
 simp only [RS, e3]
 refine (dx h).mono ?_
 rintro _ w ⟨rfl, rfl⟩
 rw [decide_eq_true_eq] at e1 e3
 have e4 : IntKind.i64.wrap ((d.cur.length : Int) - n) = (d.cur.length : Int) - n := by rw [ab]; omega
 simp only [RS, e4, Bool.true_and]
 exact ⟨(by trivial), (by trivial)⟩
def jf (d : Dk) (frm n : Int) : Dk × Int :=
 bif dn d frm n then (bif decide ((d.write frm (aG (n * 64).toNat)).2 = 0) then (d.write frm (aG (n * 64).toNat)).1.sync else d.write frm (aG (n * 64).toNat)) else (d, 1)
theorem uy (db mb : Nat) (frm n a b c : Int) (w : World) : (Instr.build 132 #[(0, pv db), (1, iv frm), (2, iv n), (3, iv a), (5, iv b), (6, iv c), (8, .map (some mb))]).run prog w = .ok (.agg #[pv db, iv frm, iv n, iv a, .slice none 0 0, iv b, iv c, iv 0, .map (some mb)]) w := by kernel_rfl
theorem sy (db mb : Nat) (frm n a b : Int) (w : World) : (Instr.build 132 #[(0, pv db), (1, iv frm), (2, iv n), (3, iv a), (5, iv b), (8, .map (some mb))]).run prog w = .ok (.agg #[pv db, iv frm, iv n, iv a, .slice none 0 0, iv b, iv 0, iv 0, .map (some mb)]) w := by kernel_rfl
theorem gf {w : World} {b g m : Nat} {d : Dk} (h : DAt w b g m d) (frm n : Int) : Cl prog 18 [pv b, iv frm, iv n] w fun v w' => ∃ p, v = .tuple #[p, iv (jf d frm n).2] ∧ DAt w' b g m (jf d frm n).1 ∧ Fm (Dm b g m) w w' ∧
  ((jf d frm n).2 ≠ 0 → p = .pointer none) ∧ ((jf d frm n).2 = 0 → ∃ lb X, p = pv lb ∧ LAt w' X lb b (Lg.new frm.toNat n.toNat) ∧ ∀ y, X y → w.heap.size ≤ y) := by
 have hn := h.wf.n1
 have hlt := h.lt
 have up : ∀ {w1 : World}, Fm (fun _ => False) w w1 → Fm (Dm b g m) w w1 := fun hf => hf.mono (fun _ _ e => e.elim)
 unfold jf
 refine c18 ?_; unfold T18
 refine (ju h frm n).mono ?_
 rintro _ w ⟨rfl, rfl⟩
 cases hfi : dn d frm n with
 | false =>
  simp only [RS, cond_false]
  exact ⟨_, (by trivial), h, Fm.refl _ _, fun _ => rfl, fun e => absurd e (by decide)⟩
 | true =>
 have hfi' := hfi
 unfold dn at hfi'
 simp only [Bool.and_eq_true, decide_eq_true_eq] at hfi'
 obtain ⟨f1, f2, f3, f4⟩ := hfi'
 obtain ⟨j, rfl⟩ := Int.eq_ofNat_of_zero_le (show 0 ≤ n by omega)
 obtain ⟨i, rfl⟩ := Int.eq_ofNat_of_zero_le f2
 have e1 : IntKind.i64.wrap ((j : Int) * 64) = ((j * 64 : Nat) : Int) := by rw [ab] <;> omega
 have e2 : ((j : Int) * 64).toNat = j * 64 := by omega
 rw [e2]
 simp only [RS, e1, cond_true]
 refine (cX w (j * 64) (by omega)).mono ?_
 rintro _ w1 ⟨rfl, hf1⟩
 refine (eG (h.keep0 hf1) (i : Int) (aG (j * 64)) (by rw [Lg.zeros_len']; omega)).mono ?_
 rintro _ w2 ⟨rfl, hd2, hf2⟩
 have hF2 := (up hf1).trans hf2 (fun _ _ e => e) (fun _ _ e => e)
 generalize d.write (i : Int) (aG (j * 64)) = e at hd2
 simp only [RS, al]
 cases hz : decide (e.2 = 0) with
 | false =>
  rw [decide_eq_false_iff_not] at hz
  simp only [RS, cond_false, Bool.not_false]
  exact ⟨_, (by trivial), hd2, hF2, fun _ => rfl, fun e => absurd e hz⟩
 | true =>
 simp only [RS, cond_true, Bool.not_true]
 refine (fU hd2).mono ?_
 rintro _ w3 ⟨rfl, hd3, hf3⟩
 have hF3 := hF2.trans hf3 (fun _ _ e => e) (fun _ _ e => e)
 generalize e.1.sync = s at hd3
 simp only [RS, al]
 cases hz2 : decide (s.2 = 0) with
 | false =>
  rw [decide_eq_false_iff_not] at hz2
  simp only [RS, Bool.not_false]
  exact ⟨_, (by trivial), hd3, hF3, fun _ => rfl, fun e => absurd e hz2⟩
 | true =>
 rw [decide_eq_true_eq] at hz2
 simp only [RS, Bool.not_true]
 refine af (eR _ _) ?_
 have hM := MapAt.empty w3 iv Value.agg
 have hfm := Fm.alloc (fun _ => False) w3 (.map #[] 0)
 have hms := bo w3 (.map #[] 0)
 generalize w3.alloc (.map #[] 0) = w4 at hM hfm hms
 refine af (uy b w3.heap.size _ _ _ _ _ _) ?_
 refine ao ?_
 intro lb w5 hlb hs5 hw5 hf5
 have hF5 := Fmf hfm hf5
 have z3 := hF3.size
 refine ⟨_, by rw [hz2], hd3.keep0 hF5, hF3.trans hF5 (fun _ _ e => e) (fun _ _ e => e.elim), fun e => absurd hz2 e, fun _ => ⟨lb, fun y => y = lb ∨ y = w3.heap.size, rfl, ⟨Lg.wf_new (by omega) (by omega), fun _ => False, w3.heap.size, .slice none 0 0, [], hw5, KpAt.nil _ _, hM.keep hf5 (fun e => e), rfl, (fun k cs hm => by cases hm), ⟨.inl rfl, .inr rfl, (fun y hy => by cases hy), fun y hy => hy.elim⟩, ⟨(fun e => e), (fun e => e), (fun y hy e => e)⟩, ?_⟩, ?_⟩⟩
 ·rintro y (rfl | rfl) <;> omega
 ·rintro y (rfl | rfl) <;> omega
section
variable {w w' : World} {S : Nat → Prop} {b0 lb db : Nat} {v : Value} {L L' : Lg} {q : DkL} {d : Dk}
def RFD (lb db : Nat) (q : DkL) (y : Nat) : Prop := y = lb ∨ q.mine db y
theorem kw (h : RL w b0 lb db v L) (hd : DkAt w db q d) (hdw : d.Wf) (hX : ∀ y, RL.mine lb v y → ¬ q.mine db y) (upto : Int) :
  Cl prog 69 [pv lb, iv upto] w fun u w' => u = iv (L.flush upto d).2.2 ∧ RL w' b0 lb db v (L.flush upto d).1 ∧ DkAt w' db q (L.flush upto d).2.1 ∧ Fm (RFD lb db q) w w' := by
 have h1 := h.wf.st; have h2 := h.wf.low; have h3 := h.wf.hi; have h4 := h.wf.bs
 have hb := Lg.baseOf_le h1.1
 rw [← h4] at hb
 have ht : L.tail = L.base + L.kept.length := rfl
 have up0 : ∀ {a b : World}, Fm (fun _ => False) a b → Fm (RFD lb db q) a b := fun hf => hf.mono (fun _ _ e => e.elim)
 have hfl : L.flush upto d = bif decide (upto < (L.last : Int)) || decide (L.last = L.tail) then (L, d, 0) else
   bif decide ((L.flushE d).2 = 0) then (bif decide ((L.flushE d).1.sync.2 = 0) then ({ L with last := L.tail }, (L.flushE d).1.sync.1, 0) else (L, (L.flushE d).1.sync.1, (L.flushE d).1.sync.2))
   else (L, (L.flushE d).1, (L.flushE d).2) := rfl
 refine c69 ?_; unfold T69
 refine (bZ h).mono ?_
 rintro _ w2 ⟨rfl, hf2⟩
 have hL2 := h.keep0 hf2
 have hd2 := hd.keep0 hf2
 cases e1 : decide (upto < (L.last : Int)) with
 | true =>
  rw [e1, Bool.true_or, cond_true] at hfl
  rw [hfl]
  simp only [RS, hL2.c6, e1]
  exact ⟨(by trivial), hL2, hd2, up0 hf2⟩
 | false =>
 have e2 : ((L.last : Int) == (L.tail : Int)) = decide (L.last = L.tail) := by
  rw [aA, decide_eq_decide]; omega
 cases e3 : decide (L.last = L.tail) with
 | true =>
  rw [e1, e3, Bool.false_or, cond_true] at hfl
  rw [hfl]
  simp only [RS, hL2.c6, e1, e2, e3]
  exact ⟨(by trivial), hL2, hd2, up0 hf2⟩
 | false =>
 rw [e1, e3, Bool.false_or, cond_false] at hfl
 rw [decide_eq_false_iff_not] at e3
 have h3' := h3 (by omega)
 have e3' : decide (L.last = L.tail) = false := by simpa using e3
 have hbl : L.base ≤ (L.last - 1) / 54 * 54 + 1 := by rw [h4]; unfold Lg.baseOf; omega
 have a1 : IntKind.i64.wrap ((L.last : Int) - 1) = ((L.last - 1 : Nat) : Int) := by rw [ab] <;> omega
 have a2 := cu (TypeDesc.int .i64) (n := L.last - 1) (m := 54) (by decide) (by omega) (b := 54) rfl
 simp only [RS, hL2.c6, e1, e2, e3', a1, a2]
 refine ⟨fun vs w' => ∃ (k f : Nat) (e : Dk), vs = [iv (k : Int)] ∧ L.base ≤ k * 54 + 1 ∧ L.tail ≤ k * 54 + 1 + f ∧ k * 54 ≤ 4611686018427600000 ∧ RL w' b0 lb db v L ∧ DkAt w' db q e ∧ e.Wf ∧ Fm (q.mine db) w w' ∧ L.flushGo f k e = L.flushE d,
  fun vs _ => ((L.tail : Int) - 54 * nth vs 0).toNat, ⟨(L.last - 1) / 54, L.kept.length + 1, d, rfl, ?_, ?_, ?_, hL2, hd2, hdw, hf2.mono (fun _ _ e => e.elim), rfl⟩, ?_⟩
 ·exact hbl
 ·omega
 ·omega
 rintro _ w3 kval ⟨k, f, e, hvs, k1, k2, k3, hL3, hd3, hw3, hF3, hgo⟩
 cases hvs
 have b1 : IntKind.i64.wrap ((k : Int) * 54) = ((k * 54 : Nat) : Int) := by rw [ab] <;> omega
 have b2 : IntKind.i64.wrap (((k * 54 : Nat) : Int) + 1) = ((k * 54 + 1 : Nat) : Int) := by rw [ab] <;> omega
 by_cases hlt : k * 54 + 1 < L.tail
 ·have d1 : decide (((k * 54 + 1 : Nat) : Int) < (L.tail : Int)) = true := by rw [decide_eq_true_eq]; omega
  have d2 : decide (k * 54 + 1 < L.tail) = true := by rw [decide_eq_true_eq]; exact hlt
  obtain ⟨f', rfl⟩ : ∃ f', f = f' + 1 := ⟨f - 1, by omega⟩
  rw [Lg.flushGo, d2, cond_true] at hgo
  simp only [RS, b1, b2, d1]
  have hfd := Fm.drew (fun _ => False) w3
  refine ⟨fun w' => Fm (fun _ => False) w3 w', hfd, ?_⟩
  refine ⟨pv db, fun w' h' => ?_, ?_⟩
  ·simp only [RS, (hL3.keep0 h').c0] <;> trivial
  refine (ix (hL3.keep0 hfd) (k := k) (by omega)).mono ?_
  rintro _ w4 ⟨rfl, hf4⟩
  have hF4 := Fmf hfd hf4
  refine ⟨hF4, ?_⟩
  refine (gq (hL3.keep0 hF4) k1 (by omega)).mono ?_
  rintro _ w5 ⟨rfl, hf5⟩
  have hF5 := Fmf hF4 hf5
  refine ⟨hF5, ?_⟩
  refine (fi w5 (k := k) (by omega) (Lg.bytes_len L k)).mono ?_
  rintro _ w6 ⟨rfl, hf6⟩
  have hF6 := Fmf hF5 hf6
  refine ⟨hF6, ?_⟩
  have hsl := Lg.seal_len (Lg.bytes_len L k) k
  refine (dU (hd3.keep0 hF6) hw3 ((L.frm + k % L.n : Nat) : Int) (bd k (L.bytes k)) (by omega)).mono ?_
  rintro _ w7 ⟨rfl, hd7, hf7⟩
  have hL7 := (hL3.keep0 hF6).keep hf7 hX
  have hF7 : Fm (q.mine db) w w7 := (hF3.trans (hF6.mono (fun _ _ e => e.elim)) (fun _ _ e => e) (fun _ _ e => e)).trans hf7 (fun _ _ e => e) (fun _ _ e => e)
  have hput : e.write ((L.frm + k % L.n : Nat) : Int) (bd k (L.bytes k)) = L.put k e := rfl
  have hw7 : (L.put k e).1.Wf := by rw [← hput]; exact Dk.Wf.write hw3 _ _
  rw [hput] at hd7 ⊢
  simp only [RS, al]
  cases hz : decide ((L.put k e).2 = 0) with
  | false =>
   rw [hz, cond_false] at hgo
   have hz2 : decide ((L.flushE d).2 = 0) = false := by rw [← hgo]; exact hz
   rw [hz2, cond_false, ← hgo] at hfl
   rw [hfl]
   simp only [RS, Bool.not_false]
   exact ⟨(by trivial), hL7, hd7, hF7.mono (fun _ _ e => .inr e)⟩
  | true =>
   rw [hz, cond_true] at hgo
   have e5 : IntKind.i64.wrap ((k : Int) + 1) = ((k + 1 : Nat) : Int) := by rw [ab] <;> omega
   simp only [RS, Bool.not_true, e5]
   exact ⟨⟨k + 1, f', (L.put k e).1, rfl, by omega, by omega, by omega, hL7, hd7, hw7, hF7, hgo⟩, by simp only [bw]; omega⟩
 ·have d1 : decide (((k * 54 + 1 : Nat) : Int) < (L.tail : Int)) = false := by rw [decide_eq_false_iff_not]; omega
  rw [eK L f k e (by omega)] at hgo
  rw [← hgo] at hfl
  simp only [decide_true, cond_true] at hfl
  simp only [RS, b1, b2, d1, hL3.c0]
  refine (fa hd3 hw3).mono ?_
  rintro _ w4 ⟨rfl, hd4, hf4⟩
  have hL4 := hL3.keep hf4 hX
  have hF4 := hF3.trans hf4 (fun _ _ e => e) (fun _ _ e => e)
  refine bG (fun vs w5 => vs = [] ∧ RL w5 b0 lb db v (L.flush upto d).1 ∧ DkAt w5 db q (L.flush upto d).2.1 ∧ Fm (RFD lb db q) w w5) ?_ ?_
  ·rintro _ w5 ⟨rfl, hL5, hd5, hf5⟩ _
   refine ⟨rfl, ?_, hL5, hd5, hf5⟩
   rw [hfl]
   cases hz : decide (e.sync.2 = 0) with
   | false => rfl
   | true =>
    rw [decide_eq_true_eq] at hz
    rw [hz]; rfl
  ·intro kk hkk
   simp only [RS, aA]
   cases hz : decide (e.sync.2 = 0) with
   | false =>
    rw [hz, cond_false] at hfl
    rw [hfl] at hkk
    simp only [RS]
    exact hkk _ _ ⟨rfl, hL4, hd4, hF4.mono (fun _ _ e => .inr e)⟩
   | true =>
    rw [hz, cond_true] at hfl
    rw [hfl] at hkk
    simp only [RS]
    refine ay hL4.st (by show 6 < 9; decide) rfl ?_
    intro w5 hw5 hs5 hf5
    exact hkk _ _ ⟨rfl, ⟨h.wf.last, h.inc, hw5, ae hL4.row hf5 (fun y _ _ hy e => hL4.nv (by rw [hy, e]))⟩, hd4.keep hf5 (fun y hy e => hX y (.inl e) hy), (hF4.mono (fun _ _ e => .inr e)).trans hf5 (fun _ _ e => e) (fun _ _ e => .inl e)⟩
end
theorem gR {w : World} {b : Nat} {q : DkL} {d : Dk} (h : DkAt w b q d) (hw : d.Wf) : Cl prog 124 [pv b] w fun v w' => v = iv (d.cur.length : Int) ∧ w' = w := by
 have hlo := hw.lo
 refine c124 ?_; unfold T124
 simp only [RS, h.c0]
 rw [hlo]
 exact ⟨(by trivial), (by trivial)⟩
theorem hZ {w : World} {b : Nat} {q : DkL} {d : Dk} (h : DkAt w b q d) (hw : d.Wf) {frm n : Int} : Cl prog 122 [pv b, iv frm, iv n] w fun v w' => v = .bool (dn d frm n) ∧ w' = w := by
 have hn := hw.n1
 refine c122 ?_; unfold T122
 unfold dn
 cases e1 : decide (4 ≤ n) with
 | false =>
  simp only [RS, e1, Bool.false_and]
  exact ⟨(by trivial), (by trivial)⟩
 | true =>
 cases e2 : decide (0 ≤ frm) with
 | false =>
  simp only [RS, e1, e2, Bool.false_and, Bool.and_false]
  exact ⟨(by trivial), (by trivial)⟩
 | true =>
 rw [decide_eq_true_eq] at e1 e2
 have e1' : decide (4 ≤ n) = true := by simpa using e1
 have e2' : decide (0 ≤ frm) = true := by simpa using e2
 cases e3 : decide (frm ≤ 1048576) with
 | false =>
  rw [decide_eq_false_iff_not] at e3
  have e3' : decide (frm ≤ 1048576) = false := by simpa using e3
  simp only [RS, e1', e2', e3']
  refine ⟨?_, (by trivial)⟩
  congr 1
  symm
  simp only [Bool.true_and, Bool.and_eq_false_iff, decide_eq_false_iff_not]
  omega
 | true =>
 cases e4 : decide (n ≤ 1048576) with
 | false =>
  rw [decide_eq_false_iff_not] at e4
  have e4' : decide (n ≤ 1048576) = false := by simpa using e4
  simp only [RS, e1', e2', e3, e4']
  refine ⟨?_, (by trivial)⟩
  congr 1
  symm
  simp only [Bool.true_and, Bool.and_eq_false_iff, decide_eq_false_iff_not]
  omega
 | true =>
 rw [decide_eq_true_eq] at e3 e4
 have e3' : decide (frm ≤ 1048576) = true := by simpa using e3
 have e4' : decide (n ≤ 1048576) = true := by simpa using e4
 have e5 : IntKind.i64.wrap (frm + n) = frm + n := by rw [ab]; omega
 simp only [RS, e1', e2', e3', e4', e5]
 refine (gR h hw).mono ?_
 rintro _ w ⟨rfl, rfl⟩
 simp only [RS, Bool.true_and]
 refine ⟨?_, (by trivial)⟩
 congr 1
 rw [← Bool.decide_and, decide_eq_decide]
 omega
theorem wk (db : Nat) (frm n a b c : Int) (w : World) : (Instr.build 167 #[(0, pv db), (1, iv frm), (2, iv n), (3, iv a), (5, iv b), (6, iv c)]).run prog w = .ok (.agg #[pv db, iv frm, iv n, iv a, stv [], iv b, iv c, iv 0, .slice none 0 0]) w := by kernel_rfl
theorem jL {w : World} {b : Nat} {q : DkL} {d : Dk} (h : DkAt w b q d) (hw : d.Wf) (frm n : Int) : Cl prog 48 [pv b, iv frm, iv n] w fun v w' => ∃ p, v = .tuple #[p, iv (jf d frm n).2] ∧ DkAt w' b q (jf d frm n).1 ∧ Fm (q.mine b) w w' ∧
  ((jf d frm n).2 ≠ 0 → p = .pointer none) ∧ ((jf d frm n).2 = 0 → ∃ lb, p = pv lb ∧ RL w' w'.heap.size lb b (.slice none 0 0) (Lg.new frm.toNat n.toNat) ∧ w.heap.size ≤ lb) := by
 have hn := hw.n1
 have hlt := h.lt
 have up : ∀ {w1 : World}, Fm (fun _ => False) w w1 → Fm (q.mine b) w w1 := fun hf => hf.mono (fun _ _ e => e.elim)
 refine c48 ?_; unfold T48
 unfold jf
 refine (hZ h hw).mono ?_
 rintro _ w ⟨rfl, rfl⟩
 cases hfi : dn d frm n with
 | false =>
  simp only [RS, cond_false, Bool.not_false]
  exact ⟨_, (by trivial), h, Fm.refl _ _, fun _ => rfl, fun e => absurd e (by decide)⟩
 | true =>
 have hfi' := hfi
 unfold dn at hfi'
 simp only [Bool.and_eq_true, decide_eq_true_eq] at hfi'
 obtain ⟨f1, f2, f3, f4⟩ := hfi'
 obtain ⟨j, rfl⟩ := Int.eq_ofNat_of_zero_le (show 0 ≤ n by omega)
 obtain ⟨i, rfl⟩ := Int.eq_ofNat_of_zero_le f2
 have e1 : IntKind.i64.wrap (64 * (j : Int)) = ((j * 64 : Nat) : Int) := by rw [ab] <;> omega
 have e2 : ((j : Int) * 64).toNat = j * 64 := by omega
 rw [e2]
 simp only [RS, e1, cond_true, Bool.not_true]
 refine af (BRow.make B44 w (j * 64) (by omega)) ?_
 have hf1 := Fm.alloc (fun _ => False) w (.cells (bc (List.replicate (j * 64) 0)).toArray 5)
 have hb1 : BRow (w.alloc (.cells (bc (List.replicate (j * 64) 0)).toArray 5)) w.heap.size 5 (List.replicate (j * 64) 0) := az _ _
 generalize w.alloc (.cells (bc (List.replicate (j * 64) 0)).toArray 5) = w1 at hf1 hb1
 refine af (hb1.conv B44 (o := 0) (n := j * 64) (by simp) _) ?_
 rw [show (((List.replicate (j * 64) 0).drop 0).take (j * 64) : Bs) = aG (j * 64) from by rw [List.drop_zero, List.take_of_length_le (by simp)]; rfl]
 refine (dU (h.keep0 hf1) hw (i : Int) (aG (j * 64)) (by rw [Lg.zeros_len']; omega)).mono ?_
 rintro _ w2 ⟨rfl, hd2, hf2⟩
 have hF2 := (up hf1).trans hf2 (fun _ _ e => e) (fun _ _ e => e)
 have hw2 : (d.write (i : Int) (aG (j * 64))).1.Wf := Dk.Wf.write hw _ _
 generalize d.write (i : Int) (aG (j * 64)) = e at hd2 hw2
 refine bG (fun vs w5 => vs = [iv (bif decide (e.2 = 0) then e.1.sync else e).2] ∧ DkAt w5 b q (bif decide (e.2 = 0) then e.1.sync else e).1 ∧ Fm (q.mine b) w w5) ?_ ?_
 ·rintro _ w5 ⟨rfl, hd5, hf5⟩ _
  generalize (bif decide (e.2 = 0) then e.1.sync else e) = s at hd5
  refine ⟨_, rfl, ?_⟩
  simp only [RS, al]
  cases hz2 : decide (s.2 = 0) with
  | false =>
   rw [decide_eq_false_iff_not] at hz2
   simp only [RS, Bool.not_false]
   exact ⟨_, (by trivial), hd5, hf5, fun _ => rfl, fun e => absurd e hz2⟩
  | true =>
   rw [decide_eq_true_eq] at hz2
   simp only [RS, Bool.not_true]
   refine af (wk b _ _ _ _ _ _) ?_
   refine ao ?_
   intro lb w6 hlb hs6 hw6 hf6
   have z5 := hf5.size
   exact ⟨_, by rw [hz2], hd5.keep0 hf6, hf5.trans hf6 (fun _ _ e => e) (fun _ _ e => e.elim), fun e => absurd hz2 e, fun _ => ⟨lb, rfl, ⟨Lg.wf_new (by omega) (by omega), List.Pairwise.nil, hw6, World.ownsRow_nil _ _ _ _⟩, by omega⟩⟩
 ·intro kk hkk
  simp only [RS, aA]
  cases hz : decide (e.2 = 0) with
  | false =>
   rw [hz] at hkk
   simp only [RS]
   exact hkk _ _ ⟨rfl, hd2, hF2⟩
  | true =>
   rw [hz] at hkk
   simp only [RS]
   refine (fa hd2 hw2).mono ?_
   rintro _ w3 ⟨rfl, hd3, hf3⟩
   exact hkk _ _ ⟨rfl, hd3, hF2.trans hf3 (fun _ _ e => e) (fun _ _ e => e)⟩
section
variable {w w' : World} {S : Nat → Prop} {b0 lb db : Nat} {v : Value} {L L' : Lg}
theorem dX (h : RL w b0 lb db v L) : Cl prog 72 [pv lb] w fun r w' => r = iv (L.start : Int) ∧ w' = w := by
 refine c72 ?_; unfold T72
 simp only [RS, h.c5]
 exact ⟨(by trivial), (by trivial)⟩
theorem RL.upd (h : RL w b0 lb db v L) (hst : w'.heap[lb]? = some (.cells (rlc db v L') 167)) (hf : Fm (· = lb) w w') (hwf : L'.Wf) (e2 : L'.recs = L.recs) : RL w' b0 lb db v L' :=
 ⟨hwf, by rw [e2]; exact h.inc, hst, by unfold plsV; rw [e2]; exact ae h.row hf (fun y _ _ hy e => h.nv (by rw [hy, e]))⟩
theorem iL (h : RL w b0 lb db v L) (k : Int) : Cl prog 67 [pv lb, iv k] w fun r w' => r = iv (L.reserve k).2 ∧ RL w' b0 lb db v (L.reserve k).1 ∧ Fm (· = lb) w w' := by
 have hwf := h.wf.reserve k
 unfold Lg.reserve at hwf ⊢
 refine c67 ?_; unfold T67
 cases h1 : decide (k < 0) with
 | true =>
  simp only [RS, h1, cond_true]
  exact ⟨(by trivial), h, Fm.refl _ _⟩
 | false =>
 rw [h1] at hwf
 simp only [RS, h1, cond_false]
 refine (eH h).mono ?_
 rintro _ w2 ⟨rfl, hf2⟩
 have h' := h.keep0 hf2
 cases h2 : decide (L.room < k) with
 | true =>
  simp only [RS, h2, cond_true]
  exact ⟨(by trivial), h', hf2.mono (fun _ _ e => e.elim)⟩
 | false =>
 rw [h2] at hwf
 have hrl := Lg.room_le h.wf
 have hrs := h.wf.res
 rw [decide_eq_false_iff_not] at h1 h2
 have e1 : IntKind.i64.wrap (L.res + k) = L.res + k := by rw [ab]; omega
 have h2' : decide (L.room < k) = false := by simpa using h2
 simp only [RS, h2', cond_false, h'.c7, e1]
 refine ay h'.st (by show 7 < 9; decide) rfl ?_
 intro w3 hw3 hs3 hf3
 exact ⟨(by trivial), h'.upd hw3 hf3 hwf rfl, (hf2.mono (fun _ _ e => e.elim)).trans hf3 (fun _ _ e => e) (fun _ _ e => e)⟩
theorem iJ (h : RL w b0 lb db v L) (k : Int) : Cl prog 68 [pv lb, iv k] w fun r w' => r = iv (L.release k).2 ∧ RL w' b0 lb db v (L.release k).1 ∧ Fm (· = lb) w w' := by
 have hwf := h.wf.release k
 unfold Lg.release at hwf ⊢
 refine c68 ?_; unfold T68
 cases h1 : decide (k < 0) with
 | true =>
  simp only [RS, h1, Bool.true_or, cond_true]
  exact ⟨(by trivial), h, Fm.refl _ _⟩
 | false =>
 cases h2 : decide (L.res < k) with
 | true =>
  simp only [RS, h1, h2, Bool.false_or, cond_true, h.c7]
  exact ⟨(by trivial), h, Fm.refl _ _⟩
 | false =>
 rw [h1, h2] at hwf
 have hrs := h.wf.res
 rw [decide_eq_false_iff_not] at h1 h2
 have e1 : IntKind.i64.wrap (L.res - k) = L.res - k := by rw [ab]; omega
 have h1' : decide (k < 0) = false := by simpa using h1
 have h2' : decide (L.res < k) = false := by simpa using h2
 simp only [RS, h1', h2', Bool.or_self, cond_false, h.c7, e1]
 refine ay h.st (by show 7 < 9; decide) rfl ?_
 intro w3 hw3 hs3 hf3
 exact ⟨(by trivial), h.upd hw3 hf3 hwf rfl, hf3⟩
theorem fD (h : RL w b0 lb db v L) (n : Int) : Cl prog 139 [pv lb, iv n] w fun r w' => r = .bool (!(getD L.recs n).isNone) ∧ w' = w := by
 have hcn := h.cnt
 have hc := CellsAt.of_own h.row
 have hlv := hc.lenV
 refine c139 ?_; unfold T139
 refine ⟨fun vs w' => ∃ i : Nat, vs = [iv (i : Int)] ∧ i ≤ L.recs.length ∧ (∀ (j : Nat) (f : Int × Rc), j < i → L.recs[j]? = some f → f.1 ≠ n) ∧ w' = w, fun vs _ => (L.recs.length - nth vs 0).toNat, ⟨0, rfl, by omega, (fun j f hj => by omega), rfl⟩, ?_⟩
 rintro _ w2 ivv ⟨i, hvs, hi, hno, rfl⟩
 cases hvs
 by_cases hl : i < L.recs.length
 ·have d1 : decide ((i : Int) < (L.recs.length : Int)) = true := by rw [decide_eq_true_eq]; omega
  have e1 : IntKind.i64.wrap ((i : Int) + 1) = ((i + 1 : Nat) : Int) := by rw [ab] <;> omega
  have hx : L.recs[i]? = some L.recs[i] := List.getElem?_eq_getElem hl
  generalize L.recs[i] = x at hx
  obtain ⟨ad, q1, _, q2⟩ := hc.at1 (i := i) (x := iv x.1) (by unfold plsV; rw [List.getElem?_map, hx]; rfl) .i64
  simp only [RS, h.c8, hlv, d1, q1, q2, aA]
  cases hq : decide (x.1 = n) with
  | true =>
   rw [decide_eq_true_eq] at hq
   simp only [RS]
   refine ⟨?_, (by trivial)⟩
   have : (getD L.recs n).isNone = false := by
    rw [Bool.eq_false_iff]
    intro e
    rw [Option.isNone_iff_eq_none, bz] at e
    exact e (List.mem_map.2 ⟨x, List.mem_of_getElem? hx, hq⟩)
   rw [this]; rfl
  | false =>
   rw [decide_eq_false_iff_not] at hq
   simp only [RS, e1]
   refine ⟨⟨i + 1, rfl, by omega, fun j f hj hf => ?_, (by trivial)⟩, by simp only [bw]; omega⟩
   by_cases hji : j = i
   ·subst hji
    rw [hx] at hf; cases hf; exact hq
   ·exact hno j f (by omega) hf
 ·have d1 : decide ((i : Int) < (L.recs.length : Int)) = false := by rw [decide_eq_false_iff_not]; omega
  simp only [RS, h.c8, hlv, d1]
  refine ⟨?_, (by trivial)⟩
  have : (getD L.recs n).isNone = true := by
   rw [Option.isNone_iff_eq_none, bz]
   intro hm
   obtain ⟨x, hx, e⟩ := List.mem_map.1 hm
   obtain ⟨j, hj⟩ := List.getElem?_of_mem hx
   have hjl := (List.getElem?_eq_some_iff.1 hj).1
   exact hno j x (by omega) hj e
  rw [this]; rfl
end
theorem ki {α : Type} {f : α → Bool} {l : List α} {i : Nat} {x : α} (h : l[i]? = some x) : (l.take (i + 1)).filter f = (l.take i).filter f ++ bif f x then [x] else [] := by
 rw [List.take_add_one, h, List.filter_append]
 cases hf : f x <;> simp [hf]
section
variable {w w' : World} {S : Nat → Prop} {b0 lb db : Nat} {v : Value} {L L' : Lg}
theorem iK (h : RL w b0 lb db v L) (hb0 : b0 ≤ w.heap.size) (b : Int) :
  Cl prog 71 [pv lb, iv b] w fun r w' => r = iv (L.recycle b).2 ∧ ∃ v', RL w' b0 lb db v' (L.recycle b).1 ∧ (∀ y, RL.mine lb v' y → RL.mine lb v y ∨ w.heap.size ≤ y) ∧ Fm (RL.mine lb v) w w' := by
 have hwf := h.wf.recycle b
 have h1 := h.wf.st; have h2 := h.wf.low; have h4 := h.wf.bs
 have hbo := Lg.baseOf_le h1.1
 rw [← h4] at hbo
 have ht : L.tail = L.base + L.kept.length := rfl
 have hcn := h.cnt
 have hE : L.recycle b = bif decide (b < (L.start : Int)) || (decide ((L.last : Int) < b) || ((getD L.recs b).isNone && !decide (b = (L.tail : Int)))) then (L, 51)
  else ({ L with start := b.toNat, recs := L.recs.filter (fun p => decide (b ≤ p.1)), kept := L.kept.drop (Lg.baseOf b.toNat - L.base), base := Lg.baseOf b.toNat }, 0) := rfl
 have same : ∀ {w' : World}, Fm (fun _ => False) w w' → ∃ v', RL w' b0 lb db v' L ∧ (∀ y, RL.mine lb v' y → RL.mine lb v y ∨ w.heap.size ≤ y) ∧ Fm (RL.mine lb v) w w' := fun hf => ⟨v, h.keep0 hf, fun y hy => .inl hy, hf.mono (fun _ _ e => e.elim)⟩
 refine c71 ?_; unfold T71
 cases q1 : decide (b < (L.start : Int)) with
 | true =>
  rw [q1, Bool.true_or, cond_true] at hE
  rw [hE]
  simp only [RS, h.c5, q1]
  exact ⟨(by trivial), same (Fm.refl _ _)⟩
 | false =>
 cases q2 : decide ((L.last : Int) < b) with
 | true =>
  rw [q1, q2, Bool.true_or, Bool.or_true, cond_true] at hE
  rw [hE]
  simp only [RS, h.c5, q1, h.c6, q2]
  exact ⟨(by trivial), same (Fm.refl _ _)⟩
 | false =>
 simp only [RS, h.c5, q1, h.c6, q2]
 refine (bZ h).mono ?_
 rintro _ w2 ⟨rfl, hf2⟩
 have h2' := h.keep0 hf2
 rw [q1, q2, Bool.false_or, Bool.false_or] at hE
 have rest : ((getD L.recs b).isNone && !decide (b = (L.tail : Int))) = false →
   St 1 w2 (.pointer (some ⟨lb, 5, none⟩)) (iv b) fun u_42 w_43 =>
 ∃ (I_44 : List Value → World → Prop) (m_45 : List Value → World → Nat), I_44 [(Value.slice none 0 0), (Value.int .i64 0)] w_43 ∧
 ∀ (g_78 : Fr) (w_77 : World), ∀ p5_47 : Value, ∀ i6_48 : Value, I_44 [p5_47, i6_48] w_77 →
  (Pu (au (pv lb)) fun t40_79 =>
  Pu (faV 8 t40_79) fun t41_80 =>
  Ld w_77 t41_80 fun t42_81 w_82 =>
  Pu (lenV t42_81) fun t43_83 =>
  Pu (aa (TypeDesc.int .i64) .lss i6_48 t43_83) fun t44_84 =>
  IfB t44_84
   (Jn (fun vs_107 w_106 => ∀ g_108 : Fr, ∃ p5_86 : Value, vs_107 = [p5_86] ∧
    (Pu (aa (TypeDesc.int .i64) .add i6_48 (Value.int .i64 1)) fun t46_109 =>
    I_44 [p5_86, t46_109] w_106 ∧ m_45 [p5_86, t46_109] w_106 < m_45 [p5_47, i6_48] w_77))
   (fun jj_85 =>
   Pu (au (pv lb)) fun t48_110 =>
   Pu (faV 8 t48_110) fun t49_111 =>
   Ld w_82 t49_111 fun t50_112 w_113 =>
   Pu (ixV 1 t50_112 i6_48) fun t52_114 =>
   Ld w_113 t52_114 fun t53_115 w_116 =>
   Pu (aa (TypeDesc.int .i64) .geq t53_115 (iv b)) fun t55_117 =>
   IfB t55_117
    (Pu (au (pv lb)) fun t58_118 =>
     Pu (faV 8 t58_118) fun t59_119 =>
     Ld w_116 t59_119 fun t60_120 w_121 =>
     Pu (ixV 1 t60_120 i6_48) fun t62_122 =>
     Ld w_121 t62_122 fun t63_123 w_124 =>
     RunS prog (Instr.buildSlice 23 1 #[(0, t63_123)]) w_124 fun t64_125 w_126 =>
     RunS prog (Builtin.append_ #[23, 23] 23 #[p5_47, t64_125]) w_126 fun t65_127 w_128 =>
     jj_85 [t65_127] w_128)
    (jj_85 [p5_47] w_116)))
   (Pu (au (pv lb)) fun t68_129 =>
 Pu (faV 8 t68_129) fun t69_130 =>
 St 1 w_82 t69_130 p5_47 fun u_131 w_132 =>
 Pu (aa (TypeDesc.int .i64) .sub (iv b) (Value.int .i64 1)) fun t71_133 =>
 Pu (aa (TypeDesc.int .i64) .quo t71_133 (Value.int .i64 54)) fun t72_134 =>
 Pu (aa (TypeDesc.int .i64) .mul t72_134 (Value.int .i64 54)) fun t73_135 =>
 Pu (aa (TypeDesc.int .i64) .add t73_135 (Value.int .i64 1)) fun t74_136 =>
 Pu (au (pv lb)) fun t77_137 =>
 Pu (faV 4 t77_137) fun t78_138 =>
 Ld (World.drew w_132) t78_138 fun t79_139 w_140 =>
 w_140 = (World.drew w_132) ∧
 Pu (au (pv lb)) fun t82_141 =>
 Pu (faV 3 t82_141) fun t83_142 =>
 Ld (World.drew w_132) t83_142 fun t84_143 w_144 =>
 w_144 = (World.drew w_132) ∧
 Pu (aa (TypeDesc.int .i64) .sub t74_136 t84_143) fun t85_145 =>
 Pu (slS t79_139 (some t85_145) none) fun t86_146 =>
 Pu (au (pv lb)) fun t87_147 =>
 Pu (faV 4 t87_147) fun t88_148 =>
 St 1 (World.drew w_132) t88_148 t86_146 fun u_149 w_150 =>
 Pu (au (pv lb)) fun t91_151 =>
 Pu (faV 3 t91_151) fun t92_152 =>
 St 1 w_150 t92_152 t74_136 fun u_153 w_154 =>
 (iv 0 = iv (L.recycle b).2 ∧ ∃ v', RL w_154 b0 lb db v' (L.recycle b).1 ∧ (∀ y, RL.mine lb v' y → RL.mine lb v y ∨ w.heap.size ≤ y) ∧ Fm (RL.mine lb v) w w_154))) := by
  intro hcond
  rw [hcond, cond_false] at hE
  rw [decide_eq_false_iff_not] at q1 q2
  obtain ⟨n, rfl⟩ := Int.eq_ofNat_of_zero_le (show 0 ≤ b by omega)
  rw [hE] at hwf ⊢
  simp only [Int.toNat_natCast] at hwf ⊢
  have hbn := Lg.baseOf_le (b := n) (by omega)
  have hbase : L.base ≤ Lg.baseOf n := by rw [h4]; unfold Lg.baseOf; omega
  refine ay h2'.st (by show 5 < 9; decide) rfl ?_
  intro w3 hw3 hs3 hf3
  replace hw3 : w3.heap[lb]? = some (.cells #[pv db, iv (L.frm : Int), iv (L.n : Int), iv (L.base : Int), stv L.kept, iv (n : Int), iv (L.last : Int), iv L.res, v] 167) := hw3
  have hrow3 := ae h2'.row hf3 (fun y _ _ hy e => h2'.nv (by rw [hy, e]))
  have hF3 : Fm (RL.mine lb v) w w3 := (hf2.mono (fun _ _ e => e.elim)).trans hf3 (fun _ _ e => e) (fun _ _ e => .inl e)
  have z3 := hF3.size
  have hlb3 := aq hw3
  refine ⟨fun vs w' => ∃ (i : Nat) (u : Value), vs = [u, iv (i : Int)] ∧ i ≤ L.recs.length ∧ w'.ownsRow w3.heap.size 3 1 u ((L.recs.take i).filter fun p => decide ((n : Int) ≤ p.1)).length (((L.recs.take i).filter fun p => decide ((n : Int) ≤ p.1)).map fun p => iv p.1) ∧ Fm (fun _ => False) w3 w', fun vs _ => (L.recs.length - nth vs 1).toNat, ⟨0, .slice none 0 0, rfl, by omega, by simpa using World.ownsRow_nil w3 _ _ _, Fm.refl _ _⟩, ?_⟩
  rintro _ w4 u ivv ⟨i, _, hvs, hi, ho4, hF4⟩
  cases hvs
  have hw4 := hF4.heap hw3 (fun e => e)
  have hc4 := CellsAt.of_own (ae hrow3 hF4 (fun _ _ _ _ e => e))
  have hlv := hc4.lenV
  have c8 : w4.cell? ⟨lb, 8, none⟩ = some v := by rw [ag hw4]; rfl
  by_cases hl : i < L.recs.length
  ·have d1 : decide ((i : Int) < (L.recs.length : Int)) = true := by rw [decide_eq_true_eq]; omega
   have e1 : IntKind.i64.wrap ((i : Int) + 1) = ((i + 1 : Nat) : Int) := by rw [ab] <;> omega
   have hx : L.recs[i]? = some L.recs[i] := List.getElem?_eq_getElem hl
   generalize L.recs[i] = x at hx
   obtain ⟨ad, k1, _, k2⟩ := hc4.at1 (i := i) (x := iv x.1) (by unfold plsV; rw [List.getElem?_map, hx]; rfl) .i64
   have hft := ki (f := fun p : Int × Rc => decide ((n : Int) ≤ p.1)) hx
   have hfl : ((L.recs.take i).filter fun p => decide ((n : Int) ≤ p.1)).length ≤ i := Nat.le_trans (List.length_filter_le _ _) (by rw [List.length_take]; omega)
   simp only [RS, c8, hlv, d1]
   refine bG (fun vs w5 => ∃ u', vs = [u'] ∧ w5.ownsRow w3.heap.size 3 1 u' ((L.recs.take (i + 1)).filter fun p => decide ((n : Int) ≤ p.1)).length (((L.recs.take (i + 1)).filter fun p => decide ((n : Int) ≤ p.1)).map fun p => iv p.1) ∧ Fm (fun _ => False) w3 w5) ?_ ?_
   ·rintro _ w5 ⟨u', rfl, ho5, hF5⟩ _
    refine ⟨_, rfl, ?_⟩
    simp only [RS, e1]
    exact ⟨⟨i + 1, u', rfl, by omega, ho5, hF5⟩, by simp only [bM]; omega⟩
   intro jj hjj
   cases hd : decide ((n : Int) ≤ x.1) with
   | false =>
    rw [hd, cond_false, List.append_nil] at hft
    simp only [RS, c8, k1, k2, hd]
    exact hjj _ _ ⟨u, rfl, by rw [hft]; exact ho4, hF4⟩
   | true =>
    rw [hd, cond_true] at hft
    simp only [RS, c8, k1, k2, hd]
    refine hI vP (by omega) 23 (cs := [iv x.1]) rfl (rv _ _) (by intro u hu; simp at hu; subst hu; rfl) ho4 (by unfold maxLen; omega) (by omega) hF4.size ?_
    intro u' w5 ho5 _ hf5
    refine hjj _ _ ⟨u', rfl, ?_, Fm.own hF4 hf5 (fun y hy => hy)⟩
    rw [hft, List.length_append, List.map_append]
    simpa using ho5
  ·have hie : i = L.recs.length := by omega
   subst hie
   have d1 : decide (((L.recs.length : Nat) : Int) < (L.recs.length : Int)) = false := by simp
   rw [List.take_length] at ho4
   have hul := aX ho4
   have a1 : IntKind.i64.wrap ((n : Int) - 1) = ((n - 1 : Nat) : Int) := by rw [ab] <;> omega
   have a2 := cu (TypeDesc.int .i64) (n := n - 1) (m := 54) (by decide) (by omega) (b := 54) rfl
   have a3 : IntKind.i64.wrap ((((n - 1) / 54 : Nat) : Int) * 54) = (((n - 1) / 54 * 54 : Nat) : Int) := by rw [ab] <;> omega
   have a4 : IntKind.i64.wrap ((((n - 1) / 54 * 54 : Nat) : Int) + 1) = ((Lg.baseOf n : Nat) : Int) := by unfold Lg.baseOf; rw [ab] <;> omega
   have a5 : IntKind.i64.wrap (((Lg.baseOf n : Nat) : Int) - (L.base : Int)) = ((Lg.baseOf n - L.base : Nat) : Int) := by rw [ab] <;> omega
   have a6 := cQ (l := L.kept) (i := Lg.baseOf n - L.base) (by omega) .i64
   simp only [RS, c8, hlv, d1]
   refine ay hw4 (by show 8 < 9; decide) (aF ho4) ?_
   intro w5 hw5 hs5 hf5
   replace hw5 : w5.heap[lb]? = some (.cells #[pv db, iv (L.frm : Int), iv (L.n : Int), iv (L.base : Int), stv L.kept, iv (n : Int), iv (L.last : Int), iv L.res, u] 167) := hw5
   have hfd := Fm.drew (fun _ => False) w5
   have hw5d := hfd.heap hw5 (fun e => e)
   have c4 : w5.cell? ⟨lb, 4, none⟩ = some (stv L.kept) := by rw [ag hw5]; rfl
   have c3 : w5.cell? ⟨lb, 3, none⟩ = some (iv (L.base : Int)) := by rw [ag hw5]; rfl
   simp only [RS, a1, a2, a3, a4, c4, c3, a5, a6, true_and]
   refine ay hw5d (by show 4 < 9; decide) rfl ?_
   intro w6 hw6 hs6 hf6
   refine ay hw6 (by show 3 < 9; decide) rfl ?_
   intro w7 hw7 hs7 hf7
   have hne : ∀ y, u.ownBlock = some y → ¬ y = lb := fun y hy e => by have := hul y hy; omega
   have hrow7 := ae (ae (ae (ae ho4 hf5 (fun y _ _ hy => hne y hy)) hfd (fun _ _ _ _ e => e)) hf6 (fun y _ _ hy => hne y hy)) hf7 (fun y _ _ hy => hne y hy)
   have hlbm : ∀ {a c : World}, Fm (fun y => y = lb) a c → Fm (RL.mine lb v) a c := fun hf => hf.mono (fun _ _ e => .inl e)
   have z4 := hF4.size
   refine ⟨u, ⟨hwf, h.inc.sublist (List.Sublist.map _ List.filter_sublist), hw7, aW hrow7 (by omega)⟩, ?_, ?_⟩
   ·rintro y (e | e)
    ·exact .inl (.inl e)
    ·exact .inr (by have := (hul y e).1; omega)
   ·exact ((((hF3.trans (hF4.mono (fun _ _ e => e.elim)) (fun _ _ e => e) (fun _ _ e => e)).trans (hlbm hf5) (fun _ _ e => e) (fun _ _ e => e)).trans (hfd.mono (fun _ _ e => e.elim)) (fun _ _ e => e) (fun _ _ e => e)).trans (hlbm hf6) (fun _ _ e => e) (fun _ _ e => e)).trans (hlbm hf7) (fun _ _ e => e) (fun _ _ e => e)
 cases q3 : decide (b = (L.tail : Int)) with
 | true =>
  rw [q3, Bool.not_true, Bool.and_false, cond_false] at hE
  have hh := rest (by rw [q3]; simp)
  simp only [RS] at hh
  simp only [RS, al, q3, Bool.not_true]
  exact hh
 | false =>
  simp only [RS, al, q3, Bool.not_false]
  refine (fD h2' b).mono ?_
  rintro _ w2 ⟨rfl, rfl⟩
  cases q4 : (getD L.recs b).isNone with
  | true =>
   rw [q3, q4, Bool.not_false, Bool.and_self, cond_true] at hE
   rw [hE]
   simp only [RS, Bool.not_true, Bool.not_false]
   exact ⟨(by trivial), same hf2⟩
  | false =>
   have hh := rest (by rw [q4]; simp)
   simp only [RS] at hh
   simp only [RS, Bool.not_true, Bool.not_false]
   exact hh
end
theorem kX {c : Nat} {B t : Bs} {b : UInt8} (h : b :: B = fp c ++ t) : (b.toNat < 128 ∧ c ≤ 127 ∧ b.toNat = c ∧ B = t) ∨ (128 ≤ b.toNat ∧ 127 < c ∧ b.toNat % 128 = c % 128 ∧ B = fp (c / 128) ++ t) := by
 by_cases hc : 127 < c
 ·rw [dg hc, List.cons_append, List.cons.injEq] at h
  obtain ⟨h1, h2⟩ := h
  have h3 : b.toNat = c % 128 + 128 := by rw [h1, UInt8.toNat_ofNat']; omega
  exact .inr ⟨by omega, hc, by omega, h2⟩
 ·rw [bl (by omega), List.cons_append, List.nil_append, List.cons.injEq] at h
  obtain ⟨h1, h2⟩ := h
  have h3 : b.toNat = c := by rw [h1, UInt8.toNat_ofNat']; omega
  exact .inl ⟨by omega, by omega, h3, h2⟩
theorem sW (c : Nat) (t : Bs) : fp c ++ t ≠ [] := by
 intro h
 by_cases hc : 127 < c
 ·rw [dg hc] at h; cases h
 ·rw [bl (by omega)] at h; cases h
structure RR (w : World) (rb : Nat) (S : Bs) (at_ : Nat) (e : Int) : Prop where
 h : w.heap[rb]? = some (.cells #[stv S, iv (at_ : Int), iv e] 188)
section
variable {w w' : World} {rb at_ : Nat} {S : Bs} {e : Int} {T : Nat → Prop}
theorem RR.keep (h : RR w rb S at_ e) (hf : Fm T w w') (hs : ¬ T rb) : RR w' rb S at_ e := ⟨hf.heap h.h hs⟩
theorem RR.c0 (h : RR w rb S at_ e) : w.cell? ⟨rb, 0, none⟩ = some (stv S) := by rw [ag h.h]; rfl
theorem RR.c1 (h : RR w rb S at_ e) : w.cell? ⟨rb, 1, none⟩ = some (iv (at_ : Int)) := by rw [ag h.h]; rfl
theorem RR.c2 (h : RR w rb S at_ e) : w.cell? ⟨rb, 2, none⟩ = some (iv e) := by rw [ag h.h]; rfl
theorem dC (h : RR w rb S at_ e) (x : Int) : Cl prog 204 [pv rb, iv x] w fun v w' => v = iv 0 ∧ RR w' rb S at_ x ∧ Fm (· = rb) w w' := by
 refine c204 ?_; unfold T204
 simp only [RS]
 refine ay h.h (by show 2 < 3; decide) rfl ?_
 intro w' hw' hs' hf'
 exact ⟨(by trivial), ⟨hw'⟩, hf'⟩
theorem pf {j : Nat} (h : j ≤ 8) : 128 ^ j ≤ 72057594037927936 := Nat.le_trans (Nat.pow_le_pow_right (by omega) h) (by decide)
theorem gz (h : RR w rb S at_ e) (hat : at_ ≤ S.length) (hS : S.length ≤ 1000000) {most : Int} (hm : 0 ≤ most ∧ most ≤ 4611686018427387904) {k : KV} (hk : ∀ (n : Int) (at' : Nat) (e' : Int) (w' : World), RR w' rb S at' e' → at' ≤ S.length → 0 ≤ n → n ≤ most → Fm (· = rb) w w' →
  (∀ c t, e = 0 → S.drop at_ = aK c ++ t → 0 ≤ c → c ≤ most → n = c ∧ S.drop at' = t ∧ e' = 0) → k (iv n) w') : Cl prog 159 [pv rb, iv most] w k := by
 refine c159 ?_; unfold T159
 simp only [RS, h.c2, al]
 cases he : decide (e = 0) with
 | false =>
  rw [decide_eq_false_iff_not] at he
  simp only [RS]
  exact hk 0 at_ e w h hat (by omega) hm.1 (Fm.refl _ _) (fun c t e0 => absurd e0 he)
 | true =>
 rw [decide_eq_true_eq] at he
 subst he
 simp only [RS]
 refine ⟨fun vs w' => ∃ j nn : Nat, vs = [iv (nn : Int), iv ((128 ^ j : Nat) : Int), iv ((j + 1 : Nat) : Int)] ∧ j ≤ 8 ∧ nn < 128 ^ j ∧ at_ + j ≤ S.length ∧ RR w' rb S at_ 0 ∧ Fm (fun _ => False) w w' ∧ ∀ c t, S.drop at_ = fp c ++ t → c ≤ 4611686018427387904 → S.drop (at_ + j) = fp (c / 128 ^ j) ++ t ∧ nn = c % 128 ^ j ∧ (j = 0 ∨ 1 ≤ c / 128 ^ j),
  fun vs _ => (10 - nth vs 2).toNat, ⟨0, 0, rfl, by omega, by decide, by omega, h, Fm.refl _ _, fun c t hc _ => ⟨by rw [Nat.add_zero, Nat.pow_zero, Nat.div_one]; exact hc, by rw [Nat.pow_zero, Nat.mod_one], .inl rfl⟩⟩, ?_⟩
 rintro _ w2 nv uv_ kv ⟨j, nn, hvs, hj, hnn, hle, hR, hf, hinv⟩
 cases hvs
 have hp := pf hj
 have hpos : 0 < 128 ^ j := Nat.pos_of_ne_zero (by intro e; have := Nat.pow_eq_zero.1 e; omega)
 have hfd := Fm.drew (fun _ => False) w2
 have hR2 := hR.keep hfd (fun e => e)
 have hfd2 := Fm.drew (fun _ => False) w2.drew
 have hR3 := hR2.keep hfd2 (fun e => e)
 have hF3 := Fmf hf (Fmf hfd hfd2)
 have e1 : IntKind.i64.wrap ((at_ : Int) + ((j + 1 : Nat) : Int)) = ((at_ + (j + 1) : Nat) : Int) := by rw [ab] <;> omega
 have up : ∀ {a b : World}, Fm (fun _ => False) a b → Fm (· = rb) a b := fun hf => hf.mono (fun _ _ e => e.elim)
 simp only [RS, hR.c1, hR.c0, true_and, e1, aj]
 cases hlt : decide ((S.length : Int) < ((at_ + (j + 1) : Nat) : Int)) with
 | true =>
  rw [decide_eq_true_eq] at hlt
  simp only [RS]
  refine (dC hR2 10).mono ?_
  rintro _ w3 ⟨rfl, hR4, hf4⟩
  refine hk 0 at_ 10 w3 hR4 hat (by omega) hm.1 ((up (Fmf hf hfd)).trans hf4 (fun _ _ e => e) (fun _ _ e => e)) (fun c t _ hc h0 h1 => ?_)
  obtain ⟨q1, _⟩ := hinv c.toNat t (by rw [hc]; unfold aK; rw [show (max c 0).toNat = c.toNat by omega]) (by omega)
  have hnil : S.drop (at_ + j) = [] := List.drop_eq_nil_of_le (by omega)
  rw [hnil] at q1
  exact absurd q1.symm (sW _ _)
 | false =>
 rw [decide_eq_false_iff_not] at hlt
 have hlt2 : at_ + j < S.length := by omega
 have hb : S[at_ + j]? = some S[at_ + j] := List.getElem?_eq_getElem hlt2
 have hdr : S.drop (at_ + j) = S[at_ + j] :: S.drop (at_ + j + 1) := List.drop_eq_getElem_cons hlt2
 generalize S[at_ + j] = b at hb hdr
 have hb256 := b.toNat_lt
 have e2 : IntKind.i64.wrap (((at_ + (j + 1) : Nat) : Int) - 1) = ((at_ + j : Nat) : Int) := by rw [ab] <;> omega
 have e3 : cvI .i64 (.int .u8 (b.toNat : Int)) = some (iv (b.toNat : Int)) := by
  rw [aV, bH (by omega)]
 have hixb := dy hb .i64
 simp only [RS, hR2.c0, hR2.c1, true_and, e1, e2, hixb, e3, aA]
 have key : ∀ (c : Int) (t : Bs), S.drop at_ = aK c ++ t → 0 ≤ c → c ≤ most → (b.toNat < 128 ∧ c.toNat / 128 ^ j ≤ 127 ∧ b.toNat = c.toNat / 128 ^ j ∧ S.drop (at_ + j + 1) = t ∨ 128 ≤ b.toNat ∧ 127 < c.toNat / 128 ^ j ∧ b.toNat % 128 = c.toNat / 128 ^ j % 128 ∧ S.drop (at_ + j + 1) = fp (c.toNat / 128 ^ j / 128) ++ t) ∧ nn = c.toNat % 128 ^ j ∧ (j = 0 ∨ 1 ≤ c.toNat / 128 ^ j) ∧ c.toNat ≤ 4611686018427387904 := by
  intro c t hc h0 h1
  obtain ⟨q1, q2, q3⟩ := hinv c.toNat t (by rw [hc]; unfold aK; rw [show (max c 0).toNat = c.toNat by omega]) (by omega)
  rw [hdr] at q1
  exact ⟨kX q1, q2, q3, by omega⟩
 have wrong : ∀ (w3 : World), RR w3 rb S at_ 0 → Fm (fun _ => False) w w3 → (∀ (c : Int) (t : Bs), S.drop at_ = aK c ++ t → 0 ≤ c → c ≤ most → False) → Cl prog 204 [pv rb, Value.int .i64 11] w3 k := by
  intro w3 hR4 hf4 hno
  refine (dC hR4 11).mono ?_
  rintro _ w4 ⟨rfl, hR5, hf5⟩
  exact hk 0 at_ 11 w4 hR5 hat (by omega) hm.1 ((up hf4).trans hf5 (fun _ _ e => e) (fun _ _ e => e)) (fun c t _ h1 h2 h3 => (hno c t h1 h2 h3).elim)
 have hbad : ∀ x : Bool, x = (decide (((j + 1 : Nat) : Int) = 9) && decide ((128 : Int) ≤ (b.toNat : Int)) || decide ((b.toNat : Int) = 0) && decide ((1 : Int) < ((j + 1 : Nat) : Int))) → x = true → ∀ (c : Int) (t : Bs), S.drop at_ = aK c ++ t → 0 ≤ c → c ≤ most → False := by
  intro x hx ht c t h1 h2 h3
  obtain ⟨k1, k2, k3, k4⟩ := key c t h1 h2 h3
  rw [hx, Bool.or_eq_true, Bool.and_eq_true, Bool.and_eq_true, decide_eq_true_eq, decide_eq_true_eq, decide_eq_true_eq, decide_eq_true_eq] at ht
  rcases ht with ⟨g1, g2⟩ | ⟨g1, g2⟩
  ·have hj8 : j = 8 := by omega
   subst hj8
   rcases k1 with ⟨a1, _⟩ | ⟨a1, a2, _⟩
   ·omega
   ·have : c.toNat / 128 ^ 8 ≤ 127 := by
     rw [show (128 : Nat) ^ 8 = 72057594037927936 from rfl]; omega
    omega
  ·rcases k1 with ⟨a1, a2, a3, _⟩ | ⟨a1, _⟩
   ·rcases k3 with k3 | k3
    ·omega
    ·omega
   ·omega
 have hrem := bC (TypeDesc.int .i64) (n := b.toNat) (m := 128) (by decide) (by omega) (b := 128) rfl
 have hmul0 : b.toNat % 128 * 128 ^ j ≤ 127 * 72057594037927936 := Nat.mul_le_mul (by omega) hp
 have hmul : IntKind.i64.wrap (((b.toNat % 128 : Nat) : Int) * ((128 ^ j : Nat) : Int)) = ((b.toNat % 128 * 128 ^ j : Nat) : Int) := by
  rw [← Int.natCast_mul, bH (by omega)]
 have hsum : IntKind.i64.wrap ((nn : Int) + ((b.toNat % 128 * 128 ^ j : Nat) : Int)) = ((nn + b.toNat % 128 * 128 ^ j : Nat) : Int) := by
  rw [← Int.natCast_add, bH (by omega)]
 have fin : (decide (((j + 1 : Nat) : Int) = 9) && decide ((128 : Int) ≤ (b.toNat : Int))) = false →
   (Pu (aa (TypeDesc.int .i64) .rem (iv (b.toNat : Int)) (Value.int .i64 128)) fun t61_126 =>
  Pu (aa (TypeDesc.int .i64) .mul t61_126 (iv ((128 ^ j : Nat) : Int))) fun t63_127 =>
  Pu (aa (TypeDesc.int .i64) .add (iv (nn : Int)) t63_127) fun t64_128 =>
  Pu (aa (TypeDesc.int .i64) .lss (iv (b.toNat : Int)) (Value.int .i64 128)) fun t66_129 =>
  IfB t66_129
   (Pu (au (pv rb)) fun t69_130 =>
    Pu (faV 1 t69_130) fun t70_131 =>
    Ld w2.drew.drew t70_131 fun t71_132 w_133 =>
    Pu (aa (TypeDesc.int .i64) .add t71_132 (iv ((j + 1 : Nat) : Int))) fun t73_134 =>
    Pu (au (pv rb)) fun t74_135 =>
    Pu (faV 1 t74_135) fun t75_136 =>
    St 1 w_133 t75_136 t73_134 fun u_137 w_138 =>
    Pu (aU eV [iv most, (Value.int .i64 0)]) fun t80_139 =>
 Pu (aa (TypeDesc.int .i64) .gtr t64_128 t80_139) fun t81_140 =>
 IfB t81_140
  (Cl prog 204 [pv rb, (Value.int .i64 11)] w_138 fun t83_141 w_142 =>
   k t83_141 w_142)
  (k t64_128 w_138))
   (Pu (aa (TypeDesc.int .i64) .mul (Value.int .i64 128) (iv ((128 ^ j : Nat) : Int))) fun t77_143 =>
  Pu (aa (TypeDesc.int .i64) .add (iv ((j + 1 : Nat) : Int)) (Value.int .i64 1)) fun t15_144 =>
  (∃ j nn : Nat, [t64_128, t77_143, t15_144] = [iv (nn : Int), iv ((128 ^ j : Nat) : Int), iv ((j + 1 : Nat) : Int)] ∧ j ≤ 8 ∧ nn < 128 ^ j ∧ at_ + j ≤ S.length ∧ RR w2.drew.drew rb S at_ 0 ∧ Fm (fun _ => False) w w2.drew.drew ∧ ∀ c t, S.drop at_ = fp c ++ t → c ≤ 4611686018427387904 → S.drop (at_ + j) = fp (c / 128 ^ j) ++ t ∧ nn = c % 128 ^ j ∧ (j = 0 ∨ 1 ≤ c / 128 ^ j)) ∧ (10 - nth [t64_128, t77_143, t15_144] 2).toNat < (10 - nth [iv (nn : Int), iv ((128 ^ j : Nat) : Int), iv ((j + 1 : Nat) : Int)] 2).toNat)) := by
  intro hg
  rw [Bool.and_eq_false_iff, decide_eq_false_iff_not, decide_eq_false_iff_not] at hg
  simp only [RS, hrem, hmul, hsum]
  cases h128 : decide ((b.toNat : Int) < 128) with
  | true =>
   rw [decide_eq_true_eq] at h128
   have z3 : eV (iv most) (iv 0) = some (iv most) := by
    show some (iv (if (0 : Int) > most then 0 else most)) = _
    rw [if_neg (by omega)]
   simp only [RS, hR.c1, e1]
   refine ay hR3.h (by show 1 < 3; decide) rfl ?_
   intro w4 hw4 hs4 hf4
   have hR4 : RR w4 rb S (at_ + (j + 1)) 0 := ⟨hw4⟩
   have hF4 : Fm (· = rb) w w4 := (up hF3).trans hf4 (fun _ _ e => e) (fun _ _ e => e)
   have hval : ∀ (c : Int) (t : Bs), S.drop at_ = aK c ++ t → 0 ≤ c → c ≤ most → (nn + b.toNat % 128 * 128 ^ j : Nat) = c.toNat ∧ S.drop (at_ + (j + 1)) = t := by
    intro c t h1 h2 h3
    obtain ⟨k1, k2, _, _⟩ := key c t h1 h2 h3
    rcases k1 with ⟨a1, a2, a3, a4⟩ | ⟨a1, _⟩
    ·refine ⟨?_, a4⟩
     rw [k2, show b.toNat % 128 = c.toNat / 128 ^ j by omega, Nat.mul_comm]
     exact Nat.mod_add_div _ _
    ·omega
   simp only [RS, aU, fO, z3, Option.bind_some]
   cases hmx : decide (most < ((nn + b.toNat % 128 * 128 ^ j : Nat) : Int)) with
   | true =>
    rw [decide_eq_true_eq] at hmx
    simp only [RS]
    refine (dC hR4 11).mono ?_
    rintro _ w5 ⟨rfl, hR5, hf5⟩
    refine hk 0 _ 11 w5 hR5 (by omega) (by omega) hm.1 (hF4.trans hf5 (fun _ _ e => e) (fun _ _ e => e)) (fun c t _ h1 h2 h3 => ?_)
    have := (hval c t h1 h2 h3).1
    omega
   | false =>
    rw [decide_eq_false_iff_not] at hmx
    simp only [RS]
    refine hk _ _ 0 w4 hR4 (by omega) (by omega) (by omega) hF4 (fun c t _ h1 h2 h3 => ?_)
    obtain ⟨v1, v2⟩ := hval c t h1 h2 h3
    exact ⟨by omega, v2, rfl⟩
  | false =>
   rw [decide_eq_false_iff_not] at h128
   have hj7 : j ≤ 7 := by omega
   have hps : 128 ^ (j + 1) = 128 * 128 ^ j := by rw [Nat.pow_succ, Nat.mul_comm]
   have hpl : 128 ^ (j + 1) ≤ 72057594037927936 := pf (by omega)
   have e5 : IntKind.i64.wrap (128 * ((128 ^ j : Nat) : Int)) = ((128 ^ (j + 1) : Nat) : Int) := by
    rw [show (128 : Int) * ((128 ^ j : Nat) : Int) = ((128 * 128 ^ j : Nat) : Int) by omega, ← hps, bH (by omega)]
   have e6 : IntKind.i64.wrap (((j + 1 : Nat) : Int) + 1) = ((j + 1 + 1 : Nat) : Int) := by rw [ab] <;> omega
   simp only [RS, e5, e6]
   refine ⟨⟨j + 1, nn + b.toNat % 128 * 128 ^ j, rfl, by omega, ?_, by omega, hR3, hF3, fun c t hc hcl => ?_⟩, by simp only [tm]; omega⟩
   ·rw [hps]
    have : b.toNat % 128 * 128 ^ j ≤ 127 * 128 ^ j := Nat.mul_le_mul_right _ (by omega)
    omega
   ·obtain ⟨q1, q2, q3⟩ := hinv c t hc hcl
    rw [hdr] at q1
    rcases kX q1 with ⟨a1, _⟩ | ⟨a1, a2, a3, a4⟩
    ·omega
    ·have hdd : c / 128 ^ j / 128 = c / 128 ^ (j + 1) := by rw [Nat.div_div_eq_div_mul, Nat.pow_succ]
     refine ⟨by rw [← Nat.add_assoc, a4, hdd], ?_, .inr ?_⟩
     ·rw [q2, a3, Nat.pow_succ, Nat.mod_mul, Nat.mul_comm (c / 128 ^ j % 128)]
     ·rw [← hdd]; omega
 cases h9 : decide (((j + 1 : Nat) : Int) = 9) with
 | true =>
  rw [h9] at hbad fin
  cases hb1 : decide ((128 : Int) ≤ (b.toNat : Int)) with
  | true =>
   simp only [RS, hb1]
   exact wrong _ hR3 hF3 (hbad _ rfl (by rw [hb1]; rfl))
  | false =>
   rw [hb1] at hbad fin
   have fin := fin rfl
   simp only [RS] at fin
   cases hb0 : decide ((b.toNat : Int) = 0) with
   | true =>
    have h1k : decide ((1 : Int) < ((j + 1 : Nat) : Int)) = true := by rw [decide_eq_true_eq] at h9 ⊢; omega
    simp only [RS, hb1, aA, hb0, h1k]
    exact wrong _ hR3 hF3 (hbad _ rfl (by rw [hb0, h1k]; rfl))
   | false =>
    simp only [RS, hb1, aA, hb0]
    exact fin
 | false =>
  rw [h9] at hbad fin
  have fin := fin rfl
  simp only [RS] at fin
  cases hb0 : decide ((b.toNat : Int) = 0) with
  | true =>
   cases h1k : decide ((1 : Int) < ((j + 1 : Nat) : Int)) with
   | true =>
    simp only [RS, hb0, aA, h1k]
    exact wrong _ hR3 hF3 (hbad _ rfl (by rw [hb0, h1k]; simp))
   | false =>
    simp only [RS, hb0, aA, h1k]
    exact fin
  | false =>
   simp only [RS, hb0, aA]
   exact fin
end
section
variable {w w' : World} {rb at_ : Nat} {S : Bs} {e : Int} {T : Nat → Prop}
theorem ri (h : RR w rb S at_ e) (hat : at_ ≤ S.length) (hS : S.length ≤ 1000000) {most : Int} (hm : 0 ≤ most ∧ most ≤ 1000000) {k : KV} (hk : ∀ (s : Bs) (at' : Nat) (e' : Int) (w' : World), RR w' rb S at' e' → at' ≤ S.length → (s.length : Int) ≤ most → Fm (· = rb) w w' →
  (∀ s0 t, e = 0 → S.drop at_ = eA s0 ++ t → (s0.length : Int) ≤ most → s = s0 ∧ S.drop at' = t ∧ e' = 0) → k (stv s) w') : Cl prog 160 [pv rb, iv most] w k := by
 refine c160 ?_; unfold T160
 refine gz h hat hS ⟨hm.1, by omega⟩ ?_
 intro n at1 e1 w1 hR1 hat1 hn0 hn1 hf1 himp
 obtain ⟨n, rfl⟩ := Int.eq_ofNat_of_zero_le hn0
 have himp' : ∀ s0 t, e = 0 → S.drop at_ = eA s0 ++ t → (s0.length : Int) ≤ most → n = s0.length ∧ S.drop at1 = s0 ++ t ∧ e1 = 0 := by
  intro s0 t h0 h1 h2
  unfold eA at h1
  rw [List.append_assoc] at h1
  obtain ⟨q1, q2, q3⟩ := himp _ _ h0 h1 (by omega) h2
  exact ⟨by omega, q2, q3⟩
 refine bG (fun vs w' => vs = [] ∧ ∃ e2, RR w' rb S at1 e2 ∧ (e2 = 0 → at1 + n ≤ S.length) ∧ (e1 = 0 → at1 + n ≤ S.length → e2 = 0) ∧ Fm (· = rb) w w') ?_ ?_
 ·rintro _ w2 ⟨rfl, e2, hR2, hle, hz, hf2⟩ _
  refine ⟨rfl, ?_⟩
  have hno : ∀ s0 t, e = 0 → S.drop at_ = eA s0 ++ t → (s0.length : Int) ≤ most → e2 = 0 := by
   intro s0 t h0 h1 h2
   obtain ⟨q1, q2, q3⟩ := himp' s0 t h0 h1 h2
   have := congrArg List.length q2
   rw [List.length_drop, List.length_append] at this
   exact hz q3 (by omega)
  simp only [RS, hR2.c2, al]
  cases he : decide (e2 = 0) with
  | false =>
   rw [decide_eq_false_iff_not] at he
   simp only [RS]
   exact hk [] at1 e2 w2 hR2 hat1 hm.1 hf2 (fun s0 t h0 h1 h2 => absurd (hno s0 t h0 h1 h2) he)
  | true =>
   rw [decide_eq_true_eq] at he
   subst he
   have hle := hle rfl
   have hfd := Fm.drew (fun _ => False) w2
   have e1' : IntKind.i64.wrap ((at1 : Int) + (n : Int)) = ((at1 + n : Nat) : Int) := by rw [ab] <;> omega
   have hsl := cU (l := S) (i := at1) (j := at1 + n) (by omega) hle .i64 .i64
   simp only [RS, hR2.c0, hR2.c1, true_and, e1', hsl]
   refine ay (hfd.heap hR2.h (fun e => e)) (by show 1 < 3; decide) rfl ?_
   intro w3 hw3 hs3 hf3
   refine hk _ (at1 + n) 0 w3 ⟨hw3⟩ hle ?_ ((hf2.trans hfd (fun _ _ e => e) (fun _ _ e => e.elim)).trans hf3 (fun _ _ e => e) (fun _ _ e => e)) (fun s0 t h0 h1 h2 => ?_)
   ·rw [List.length_take]; omega
   ·obtain ⟨q1, q2, q3⟩ := himp' s0 t h0 h1 h2
    refine ⟨?_, ?_, rfl⟩
    ·rw [q2, Nat.add_sub_cancel_left, q1, List.take_left]
    ·rw [← List.drop_drop, q2, q1, List.drop_left]
 intro jj hjj
 have hfd := Fm.drew (fun _ => False) w1
 have hRd := hR1.keep hfd (fun e => e)
 have hFd : Fm (· = rb) w w1.drew := hf1.trans hfd (fun _ _ e => e) (fun _ _ e => e.elim)
 simp only [RS, hR1.c2, true_and, aA]
 cases he : decide (e1 = 0) with
 | false =>
  rw [decide_eq_false_iff_not] at he
  simp only [RS, true_and]
  exact hjj _ _ ⟨rfl, e1, hRd, fun e => absurd e he, fun e => absurd e he, hFd⟩
 | true =>
  rw [decide_eq_true_eq] at he
  subst he
  have e2' : IntKind.i64.wrap ((S.length : Int) - (at1 : Int)) = ((S.length - at1 : Nat) : Int) := by rw [ab] <;> omega
  simp only [RS, hR1.c0, hR1.c1, true_and, aj, e2']
  cases hlt : decide (((S.length - at1 : Nat) : Int) < (n : Int)) with
  | true =>
   rw [decide_eq_true_eq] at hlt
   simp only [RS]
   refine (dC hRd 10).mono ?_
   rintro _ w3 ⟨_, hR3, hf3⟩
   exact hjj _ _ ⟨rfl, 10, hR3, fun e => absurd e (by decide), fun _ hle => by omega, hFd.trans hf3 (fun _ _ e => e) (fun _ _ e => e)⟩
  | false =>
   rw [decide_eq_false_iff_not] at hlt
   simp only [RS]
   exact hjj _ _ ⟨rfl, 0, hRd, fun _ => by omega, fun _ _ => rfl, hFd⟩
theorem rM (h : RR w rb S at_ e) (hat : at_ ≤ S.length) (hS : S.length ≤ 1000000) {k : KV} (hk : ∀ (v : Value) (L : List Int) (at' : Nat) (e' : Int) (w' : World), RR w' rb S at' e' → at' ≤ S.length → L.length ≤ 255 → (∀ n ∈ L, okN n) → w'.ownsRow w.heap.size 3 1 v L.length (L.map iv) → Fm (· = rb) w w' →
  (∀ l t, e = 0 → S.drop at_ = bh l ++ t → l.length ≤ 255 → (∀ n ∈ l, okN n) → L = l ∧ S.drop at' = t ∧ e' = 0) → k v w') : Cl prog 161 [pv rb, iv 255] w k := by
 have hrl := aq h.h
 refine c161 ?_; unfold T161
 refine gz h hat hS ⟨by omega, by omega⟩ ?_
 intro n at1 e1 w1 hR1 hat1 hn0 hn1 hf1 himp
 obtain ⟨N, rfl⟩ := Int.eq_ofNat_of_zero_le hn0
 have hz1 := hf1.size
 refine ⟨fun vs w' => ∃ (i : Nat) (v : Value) (L : List Int) (at2 : Nat) (e2 : Int), vs = [v, iv (i : Int)] ∧ i ≤ N ∧ L.length = i ∧ (∀ n ∈ L, okN n) ∧ w'.ownsRow w.heap.size 3 1 v L.length (L.map iv) ∧ RR w' rb S at2 e2 ∧ at2 ≤ S.length ∧ Fm (· = rb) w w' ∧
  ∀ l t, e = 0 → S.drop at_ = bh l ++ t → l.length ≤ 255 → (∀ n ∈ l, okN n) → N = l.length ∧ L = l.take i ∧ S.drop at2 = aO (l.drop i) ++ t ∧ e2 = 0, fun vs _ => (N - nth vs 1).toNat,
  ⟨0, _, [], at1, e1, rfl, by omega, rfl, by simp, World.ownsRow_nil _ _ _ _, hR1, hat1, hf1, fun l t h0 h1 h2 h3 => ?_⟩, ?_⟩
 ·unfold bh at h1
  rw [List.append_assoc] at h1
  obtain ⟨q1, q2, q3⟩ := himp _ _ h0 h1 (by omega) (by omega)
  exact ⟨by omega, rfl, q2, q3⟩
 rintro _ w2 v iv2 ⟨i, v0, L, at2, e2, hvs, hi, hL, hok, ho2, hR2, hat2, hf2, hinv⟩
 cases hvs
 have hz2 := hf2.size
 have fin : (decide ((i : Int) < (N : Int)) && decide (e2 = 0)) = false → k v w2 := by
  intro hb
  refine hk v L at2 e2 w2 hR2 hat2 (by omega) hok ho2 hf2 (fun l t h0 h1 h2 h3 => ?_)
  obtain ⟨q1, q2, q3, q4⟩ := hinv l t h0 h1 h2 h3
  rw [Bool.and_eq_false_iff, decide_eq_false_iff_not, decide_eq_false_iff_not] at hb
  have hie : i = l.length := by
   rcases hb with hb | hb
   ·omega
   ·exact absurd q4 hb
  subst hie
  rw [List.take_length] at q2
  rw [List.drop_length] at q3
  exact ⟨q2, q3, q4⟩
 cases hlt : decide ((i : Int) < (N : Int)) with
 | false =>
  rw [hlt, Bool.false_and] at fin
  simp only [RS, hlt]
  exact fin rfl
 | true =>
 cases he : decide (e2 = 0) with
 | false =>
  rw [hlt, he] at fin
  simp only [RS, hlt, hR2.c2, aA, he]
  exact fin rfl
 | true =>
  rw [decide_eq_true_eq] at hlt he
  subst he
  have hlt' : decide ((i : Int) < (N : Int)) = true := decide_eq_true hlt
  have e1' : IntKind.i64.wrap ((i : Int) + 1) = ((i + 1 : Nat) : Int) := by rw [ab] <;> omega
  simp only [RS, hlt', hR2.c2, aA, decide_true]
  refine gz hR2 hat2 hS ⟨by omega, by omega⟩ ?_
  intro x at3 e3 w3 hR3 hat3 hx0 hx1 hf3 himp3
  have hF3 : Fm (· = rb) w w3 := hf2.trans hf3 (fun _ _ e => e) (fun _ _ e => e)
  have hz3 := hF3.size
  have hrbne : ∀ k, v.ownBlock = some k → k ≠ rb := by
   intro k hk e
   rcases ho2.2 with ⟨rfl, _⟩ | ⟨g, cap, cur, rfl, _, hg, _⟩
   ·cases hk
   ·have e1 : g = k := by simpa [Value.ownBlock] using hk
    rw [e1, e, hR2.h] at hg
    cases hg
  have ho3 := ae ho2 hf3 (fun k _ _ hk e => hrbne k hk e)
  refine gO ho3 (cF _ _) rfl (by omega) hz3 ?_
  intro v4 w4 ho4 hf4
  have hR4 := hR3.keep hf4 (fun e => by omega)
  have hF4 : Fm (· = rb) w w4 := hF3.trans hf4 (fun _ _ e => e) (fun y hy e => by omega)
  simp only [RS, e1']
  refine ⟨⟨i + 1, v4, L ++ [x], at3, e3, rfl, by omega, by rw [List.length_append, hL]; rfl, ?_, ho4, hR4, hat3, hF4, fun l t h0 h1 h2 h3 => ?_⟩, by simp only [bM]; omega⟩
  ·intro y hy
   rcases List.mem_append.1 hy with hy | hy
   ·exact hok y hy
   ·obtain rfl : y = x := by simpa using hy
    exact ⟨hx0, by omega⟩
  ·obtain ⟨q1, q2, q3, q4⟩ := hinv l t h0 h1 h2 h3
   have hil : i < l.length := by omega
   rw [List.drop_eq_getElem_cons hil] at q3
   have hnb : aO (l[i] :: l.drop (i + 1)) = aK l[i] ++ aO (l.drop (i + 1)) := by unfold aO; rw [List.flatMap_cons]
   rw [hnb, List.append_assoc] at q3
   have hlo := h3 l[i] (List.getElem_mem hil)
   obtain ⟨z1, z2, z3⟩ := himp3 _ _ rfl q3 hlo.1 hlo.2
   exact ⟨q1, by rw [q2, z1, List.take_add_one, List.getElem?_eq_getElem hil]; rfl, z2, z3⟩
theorem pP (h : RR w rb S at_ e) : Cl prog 162 [pv rb] w fun v w' => v = iv (if e = 0 ∧ at_ < S.length then 12 else e) ∧ Fm (fun _ => False) w w' := by
 have hfd := Fm.drew (fun _ => False) w
 refine c162 ?_; unfold T162
 simp only [RS, h.c2, true_and, aA]
 cases he : decide (e = 0) with
 | false =>
  rw [decide_eq_false_iff_not] at he
  simp only [RS, h.c2, true_and]
  exact ⟨by rw [if_neg (fun x => he x.1)], hfd⟩
 | true =>
  rw [decide_eq_true_eq] at he
  simp only [RS, h.c0, h.c1, h.c2, aj, true_and]
  cases hl : decide ((at_ : Int) < (S.length : Int)) with
  | true =>
   rw [decide_eq_true_eq] at hl
   simp only [RS, h.c2]
   exact ⟨by rw [if_pos ⟨he, by omega⟩], hfd⟩
  | false =>
   rw [decide_eq_false_iff_not] at hl
   simp only [RS, h.c2]
   exact ⟨by rw [if_neg (fun x => hl (by omega))], hfd⟩
end
theorem sP {d : Bs} (h : d.length = 512) : decide (((ofN (d.take 4) : Nat) : Int) = ((crc (d.drop 4) : Nat) : Int)) = decide (beN 4 (crc (d.drop 4)) = d.take 4) := by
 have hl : (d.take 4).length = 4 := by rw [List.length_take]; omega
 have hc := pR (d.drop 4)
 rw [bT (by omega), decide_eq_decide]
 constructor
 ·intro e
  have e : ofB (d.take 4) = crc (d.drop 4) := by omega
  rw [← e]; exact dJ 4 _ hl
 ·intro e
  rw [← e, fc, Nat.mod_eq_of_lt (by omega)]
theorem ql {d : Bs} (h : d.length = 512) (h2 : beN 4 (crc (d.drop 4)) = d.take 4) {l : List Bs} {t : Bs} (h3 : bS (bf d) (dm d) = some (l, t)) :
  cP d = bif !decide (pErr (bR d l) = 0) || !decide ((eD (bR d l)).1 = d) then (pg0, 31) else (bR d l, 0) := by
 have hs := kC h h2 h3
 cases hb : uf d t with
 | false =>
  rw [hb, cond_false] at hs
  have := mg (d := d) (by rw [hs])
  rw [hs] at this
  simp only at this
  rw [hs, this.1, this.2.1]
  simp
 | true =>
  rw [hb, cond_true] at hs
  rw [hs]
  by_cases h4 : pErr (bR d l) = 0
  ·by_cases h5 : (eD (bR d l)).1 = d
   ·have h6 := mn h4 (by unfold bR; simp only; omega)
    rw [h5, hs] at h6
    have := congrArg Prod.snd h6
    simp at this
   ·rw [show decide ((eD (bR d l)).1 = d) = false by simpa using h5]; simp
  ·rw [show decide (pErr (bR d l) = 0) = false by simpa using h4]; simp
theorem lF (w : World) (d : Bs) (hd : d.length ≤ 9223372036854775806) : Cl prog 127 [stv d] w fun r w' => ∃ cs, r = .tuple #[.agg cs, iv (cP d).2] ∧ PgOw w' w.heap.size cs (cP d).1 ∧ Fm (fun _ => False) w w' := by
 refine c127 ?_; unfold T127
 refine ao ?_
 intro x2 w1 hx2 hs1 hw1 hf1
 have ret : ∀ (e : Int) (f : Fr), f 2 = pv x2 → f 3 = iv e → cP d = (pg0, e) →
   ((∀ w'' : World, w''.heap[x2]? = some (.cells (pcs pg0 (.slice none 0 0)) 61) → Fm (fun _ => False) w w'' → bU (bF prog f w'' [.cell 2 61, .tmp 3]) w'' (fun r w' => ∃ cs, r = .tuple #[.agg cs, iv (cP d).2] ∧ PgOw w' w.heap.size cs (cP d).1 ∧ Fm (fun _ => False) w w'))) := by
  intro e f h4 h5 h6 w'' h7 h8
  refine qZ (u := iv e) h7 rfl h4 h5 _ ?_
  rw [h6]
  exact ⟨_, rfl, PgOw.zero _ _, h8⟩
 have zone : ∀ u ∈ (pcs pg0 (.slice none 0 0)).toList, u.oneCell' = true := by intro u hu; simp [pcs] at hu; rcases hu with rfl | rfl | rfl | rfl | rfl | rfl <;> rfl
 have d0 : decide ((d.length : Int) = 512) = decide (d.length = 512) := by rw [decide_eq_decide]; omega
 simp only [RS, aj, al, d0]
 cases h0 : decide (d.length = 512) with
 | false =>
  have hne : d.length ≠ 512 := by simpa using h0
  simp only [RS]
  refine af (eE _) ?_
  refine aB hw1 rfl rfl zone ?_
  intro w2 hw2 hs2 hf2
  exact ret 31 _ rfl rfl (nI hne) w2 hw2 (Fm.own hf1 hf2 (by rintro y rfl; omega))
 | true =>
 have h512 : d.length = 512 := by simpa using h0
 have s1 : slS (stv d) (some (Value.int .i64 4)) none = some (stv (d.drop 4)) := cQ (i := 4) (by omega) .i64
 have s2 : slS (stv d) none (some (Value.int .i64 4)) = some (stv (d.take 4)) := df (i := 4) (by omega) .i64
 have hf2 := Fm.drew (fun _ => False) w1
 have hx2' : w1.drew.heap[x2]? = some (.cells #[iv 0, iv 0, iv 0, iv 0, stv [], .slice none 0 0] 61) := hw1
 have hF2 := Fmf hf1 hf2
 simp only [RS, s1, s2]
 generalize w1.drew = w2 at hf2 hx2' hF2
 refine (cN w2 (d.take 4) (by rw [List.length_take]; omega)).mono ?_
 rintro _ w2 ⟨rfl, rfl⟩
 refine (fE w2 (d.drop 4) (by rw [List.length_drop]; omega)).mono ?_
 rintro _ w3 ⟨rfl, rfl⟩
 obtain ⟨q1, q2⟩ := gr (d.drop 4)
 simp only [RS, aV, q2, al, sP h512]
 cases hsum : decide (beN 4 (crc (d.drop 4)) = d.take 4) with
 | false =>
  have hne : beN 4 (crc (d.drop 4)) ≠ d.take 4 := by simpa using hsum
  simp only [RS]
  refine af (eE _) ?_
  refine aB hx2' rfl rfl zone ?_
  intro w4 hw4 hs4 hf4
  exact ret 30 _ rfl rfl (ny h512 hne) w4 hw4 (Fm.own hF2 hf4 (by rintro y rfl; omega))
 | true =>
 have hse : beN 4 (crc (d.drop 4)) = d.take 4 := by simpa using hsum
 simp only [RS]
 have hx2s : x2 = w.heap.size := hx2
 refine bG (fun vs w4 => ∃ g4, vs = [pv g4] ∧ PB w4 g4 ⟨(oI d % 2 ^ 63 : Nat), bP d, cD d, du d, [], []⟩ (.slice none 0 0) ∧ g4 ≠ x2 ∧ w.heap.size ≤ g4 ∧ w4.heap[x2]? = some (.cells #[iv 0, iv 0, iv 0, iv 0, stv [], .slice none 0 0] 61) ∧ Fm (fun _ => False) w w4) ?_ ?_
 ·rintro _ w4 ⟨g4, rfl, hP4, hne4, hge4, hx4, hF4⟩ _
  refine ⟨_, rfl, ?_⟩
  have i19 : ixS (stv d) (Value.int .i64 19) = some (.int .u8 ((dHl d : Nat))) := bI (k := 19) (by omega)
  have i18 : ixS (stv d) (Value.int .i64 18) = some (.int .u8 ((bf d : Nat))) := bI (k := 18) (by omega)
  have c19 : IntKind.i64.wrap (dHl d : Nat) = ((dHl d : Nat) : Int) := gb _
  have c18 : IntKind.i64.wrap (bf d : Nat) = ((bf d : Nat) : Int) := gb _
  have hhl : dHl d < 256 := UInt8.toNat_lt _
  have hmy : bf d < 256 := UInt8.toNat_lt _
  have e0 : IntKind.i64.wrap (20 + (dHl d : Int)) = ((20 + dHl d : Nat) : Int) := by rw [ab] <;> omega
  have s3 : slS (stv d) (some (Value.int .i64 20)) (some (Value.int .i64 ((20 + dHl d : Nat) : Int))) = some (stv (gv d)) := by
   have := cU (l := d) (i := 20) (j := 20 + dHl d) (by omega) (by omega) .i64 .i64
   rw [show 20 + dHl d - 20 = dHl d by omega] at this; exact this
  have hg4l := hP4.lt
  have hz4 := hF4.size
  have hx2l := aq hx4
  simp only [RS, i18, aV, c18, i19, c19, e0, s3]
  refine ay hP4 (by show 4 < 6; decide) rfl ?_
  intro w8 hw8 hs8 hf8
  replace hw8 : PB w8 g4 (bR d []) (.slice none 0 0) := hw8
  have hx8 := hf8.heap hx4 (fun e => hne4 e.symm)
  have hF8 : Fm (fun _ => False) w w8 := Fm.own hF4 hf8 (by rintro y rfl; omega)
  have hr0 : (dm d).length = 492 - dHl d := by unfold dm; rw [List.length_drop, List.length_drop]; omega
  have hdr0 : d.drop (20 + dHl d) = dm d := by unfold dm; rw [List.drop_drop]
  refine ⟨fun vs w9 => ∃ (i a : Nat) (l : List Bs) (s : Bs) (v : Value), vs = [iv a, iv i] ∧ i ≤ bf d ∧ Mid d i l s ∧ a + s.length = 512 ∧ d.drop a = s ∧ PB w9 g4 (bR d l) v ∧ w9.ownsRow w.heap.size 9 1 v l.length (l.map stv) ∧ w9.heap[x2]? = some (.cells #[iv 0, iv 0, iv 0, iv 0, stv [], .slice none 0 0] 61) ∧ Fm (fun _ => False) w w9, fun vs _ => (bf d - nth vs 1).toNat,
   ⟨0, 20 + dHl d, [], dm d, _, rfl, by omega, Mid.zero h512, by omega, hdr0, hw8, World.ownsRow_nil _ _ _ _, hx8, hF8⟩, ?_⟩
  rintro _ w9 av ivv ⟨i, a, l, s, v, hvs, hi, hM, ha, hda, hP9, hO9, hx9, hF9⟩
  cases hvs
  have hll := hM.1
  have hg9 := hP9.lt
  have hx29 := aq hx9
  have hz9 := hF9.size
  by_cases hlt : i < bf d
  ·have e1 : decide ((i : Int) < (bf d : Int)) = true := by rw [decide_eq_true_eq]; omega
   have e2 : IntKind.i64.wrap ((i : Int) + 1) = ((i + 1 : Nat) : Int) := by rw [ab] <;> omega
   have a2 : IntKind.i64.wrap ((a : Int) + 2) = ((a + 2 : Nat) : Int) := by rw [ab] <;> omega
   by_cases h2 : 2 ≤ s.length
   ·have e3 : decide ((512 : Int) < ((a + 2 : Nat) : Int)) = false := by rw [decide_eq_false_iff_not]; omega
    have htl : (s.take 2).length = 2 := by rw [List.length_take]; omega
    have s4 : slS (stv d) (some (Value.int .i64 (a : Int))) (some (Value.int .i64 ((a + 2 : Nat) : Int))) = some (stv (s.take 2)) := by
     have := cU (l := d) (i := a) (j := a + 2) (by omega) (by omega) .i64 .i64
     rw [show a + 2 - a = 2 by omega, hda] at this; exact this
    simp only [RS, e1, a2, e3, s4]
    refine (cN w9 (s.take 2) (by omega)).mono ?_
    rintro _ w9 ⟨rfl, rfl⟩
    rw [bT (by omega)]
    have hob := ij 2 (s.take 2) htl
    have hnl : (s.drop 2).length + 2 = s.length := by rw [List.length_drop]; omega
    have a3 : IntKind.i64.wrap (((a + 2 : Nat) : Int) + (ofB (s.take 2) : Nat)) = ((a + 2 + ofB (s.take 2) : Nat) : Int) := by rw [ab] <;> omega
    by_cases h3 : ofB (s.take 2) ≤ (s.drop 2).length
    ·have e4 : decide ((512 : Int) < ((a + 2 + ofB (s.take 2) : Nat) : Int)) = false := by rw [decide_eq_false_iff_not]; omega
     have s5 : slS (stv d) (some (Value.int .i64 ((a + 2 : Nat) : Int))) (some (Value.int .i64 ((a + 2 + ofB (s.take 2) : Nat) : Int))) = some (stv ((s.drop 2).take (ofB (s.take 2)))) := by
      have := cU (l := d) (i := a + 2) (j := a + 2 + ofB (s.take 2)) (by omega) (by omega) .i64 .i64
      rw [show a + 2 + ofB (s.take 2) - (a + 2) = ofB (s.take 2) by omega, ← List.drop_drop, hda] at this; exact this
     have hM2 := hM.next hlt h2 h3
     have hs' : a + 2 + ofB (s.take 2) + ((s.drop 2).drop (ofB (s.take 2))).length = 512 := by rw [List.length_drop]; omega
     have hd' : d.drop (a + 2 + ofB (s.take 2)) = (s.drop 2).drop (ofB (s.take 2)) := by rw [← hda]; simp only [List.drop_drop]
     generalize hn : ofB (s.take 2) = n at hM2 hs' hd' s5 e4 a3
     generalize (s.drop 2).take n = it at hM2 s5
     generalize (s.drop 2).drop n = s' at hM2 hs' hd'
     have hf10 := Fm.drew (fun _ => False) w9
     have hP10 : PB w9.drew g4 (bR d l) v := hP9.keep hf10 (fun e => e)
     have hx10 : w9.drew.heap[x2]? = some (.cells #[iv 0, iv 0, iv 0, iv 0, stv [], .slice none 0 0] 61) := hx9
     have hO10 := ae hO9 hf10 (fun _ _ _ _ e => e)
     have hF10 := Fmf hF9 hf10
     simp only [RS, a2, a3, e4]
     refine ⟨fun w => PB w g4 (bR d l) v, hP10, ?_⟩
     generalize w9.drew = w10 at hf10 hP10 hx10 hO10 hF10
     simp only [RS]
     refine ⟨v, fun w6 h6 => ?_, ?_⟩
     ·simp only [RS, h6.c5]; trivial
     simp only [RS, a2, a3, s5]
     have hz10 := hF10.size
     refine af (xl it w10) ⟨hP10.keep (Fm.alloc (fun _ => False) _ _) (fun e => e), ?_⟩
     have hO11 := ae hO10 (Fm.alloc (fun _ => False) w10 (.cells #[stv it] 9)) (fun _ _ _ _ e => e)
     have hcw : CellsAt (w10.alloc (.cells #[stv it] 9)) (.slice (some ⟨w10.heap.size, 0, none⟩) 1 1) 1 1 [stv it] := ⟨⟨_, 1, rfl, Nat.le_refl _, by simp [maxLen], (fun e => by cases e), fun j u hj => ⟨_, rfl, by rw [bv, Nat.zero_add, ag (az _ _)]; simpa using hj⟩⟩, rfl⟩
     have hf11 := Fm.alloc (fun _ => False) w10 (.cells #[stv it] 9)
     have hP11 := hP10.keep hf11 (fun e => e)
     have hx11 := hf11.heap hx10 (fun e => e)
     have hF11 := Fmf hF10 hf11
     generalize w10.alloc (.cells #[stv it] 9) = w11 at hO11 hcw hP11 hx11 hF11 hf11
     have hz11 := hF11.size
     have hg11 := hP11.lt
     obtain ⟨v12, w12, hr12, hO12, hf12⟩ := dD E22 (by omega) hO11 hcw (by intro u hu; simp at hu; subst hu; rfl) 59 (by unfold maxLen; omega) (by omega) hz11
     refine af hr12 ?_
     have hne12 : v.ownBlock ≠ some g4 := kf hO11 hP11 (by decide)
     have hnex : v.ownBlock ≠ some x2 := kf hO11 hx11 (by decide)
     have hP12 := hP11.keep hf12 (fun e => hne12 e)
     have hx12 := hf12.heap hx11 (fun e => hnex e)
     have hF12 : Fm (fun _ => False) w w12 := Fm.own hF11 hf12 (fun y hy => (aX hO11 y hy).1)
     have hne12' : v12.ownBlock ≠ some g4 := kf hO12 hP12 (by decide)
     try simp only [RS]
     refine ay hP12 (by show 5 < 6; decide) (aF hO12) ?_
     intro w13 hw13 hs13 hf13
     replace hw13 : PB w13 g4 (bR d (l ++ [it])) v12 := hw13
     simp only [RS, a2, a3, e2]
     refine ⟨⟨i + 1, a + 2 + n, l ++ [it], s', v12, rfl, by omega, hM2, hs', hd', hw13, ?_, hf13.heap hx12 (fun e => hne4 e.symm), Fm.own hF12 hf13 (by rintro y rfl; omega)⟩, by simp only [bM]; omega⟩
     have : w13.ownsRow w.heap.size 9 1 v12 (l.length + 1) (l.map stv ++ [stv it]) := ae hO12 hf13 (fun k h1 h2 h3 e => hne12' (by rw [h3, e]))
     simpa using this
    ·have e4 : decide ((512 : Int) < ((a + 2 + ofB (s.take 2) : Nat) : Int)) = true := by rw [decide_eq_true_eq]; omega
     simp only [RS, a2, a3, e4]
     refine af (eE _) ?_
     refine aB hx9 rfl rfl zone ?_
     intro w12 hw12 hs12 hf12
     exact ret 31 _ rfl rfl (fo h512 hse (hM.stop hlt (fun e => h3 e.2))) w12 hw12 (Fm.own hF9 hf12 (by rintro y rfl; omega))
   ·have e3 : decide ((512 : Int) < ((a + 2 : Nat) : Int)) = true := by rw [decide_eq_true_eq]; omega
    simp only [RS, e1, a2, e3]
    refine af (eE _) ?_
    refine aB hx9 rfl rfl zone ?_
    intro w12 hw12 hs12 hf12
    exact ret 31 _ rfl rfl (fo h512 hse (hM.stop hlt (fun e => h2 e.1))) w12 hw12 (Fm.own hF9 hf12 (by rintro y rfl; omega))
  ·have hie : i = bf d := by omega
   rw [hie] at hM
   have e1 : decide ((i : Int) < (bf d : Int)) = false := by rw [decide_eq_false_iff_not]; omega
   have hag := ql h512 hse hM.last
   have hAs : PgAs w9 (pcs (bR d l) v) (bR d l) := ⟨⟨v, rfl, aF hO9, CellsAt.of_own hO9⟩, fun x hx => by have := hM.2.1 x hx; omega, jz h512 (by omega)⟩
   simp only [RS, e1, hP9.all]
   refine (ec hAs).mono ?_
   rintro _ w10 ⟨rfl, hf10⟩
   have hP10 := hP9.keep hf10 (fun e => e)
   have hx10 := hf10.heap hx9 (fun e => e)
   have hF10 := Fmf hF9 hf10
   have hO10 := ae hO9 hf10 (fun _ _ _ _ e => e)
   have bad : cP d = (pg0, 31) → RunS prog (Instr.build 61 #[]) w10 (fun t93_149 w_150 =>
     St 6 w_150 (pv x2) t93_149 fun u_151 w_152 =>
     bU (bF prog (fun j => bif Nat.beq j 2 then pv x2 else bif Nat.beq j 3 then (Value.int .i64 31) else undef) w_152 [(ResultVar.cell 2 61), (ResultVar.tmp 3)]) w_152 (fun r w' => ∃ cs, r = .tuple #[.agg cs, iv (cP d).2] ∧ PgOw w' w.heap.size cs (cP d).1 ∧ Fm (fun _ => False) w w')) := by
    intro hb
    refine af (eE _) ?_
    refine aB hx10 rfl rfl zone ?_
    intro w12 hw12 hs12 hf12
    exact ret 31 _ rfl rfl hb w12 hw12 (Fm.own hF10 hf12 (by rintro y rfl; omega))
   unfold lI
   rw [gw]
   simp only [RS, al]
   cases b1 : decide (pErr (bR d l) = 0) with
   | false =>
    rw [b1, Bool.not_false, Bool.true_or, cond_true] at hag
    simp only [RS]
    exact bad hag
   | true =>
   rw [b1, Bool.not_true, Bool.false_or] at hag
   simp only [RS, aD]
   cases b2 : decide ((eD (bR d l)).1 = d) with
   | false =>
    rw [b2, Bool.not_false, cond_true] at hag
    simp only [RS]
    exact bad hag
   | true =>
   rw [b2, Bool.not_true, cond_false] at hag
   simp only [RS, hP10.all]
   refine aB hx10 rfl rfl (by intro u hu; simp [pcs] at hu; rcases hu with rfl | rfl | rfl | rfl | rfl | rfl <;> first | rfl | exact aF hO10) ?_
   intro w12 hw12 hs12 hf12
   refine qZ (g := x2) (i := 2) (j := 3) (u := iv 0) hw12 rfl rfl rfl _ ?_
   have hnex : v.ownBlock ≠ some x2 := kf hO10 hx10 (by decide)
   rw [hag]
   refine ⟨_, rfl, ⟨⟨v, rfl, ae hO10 hf12 (fun k h1 h2 h3 e => hnex (by rw [h3, e]))⟩, fun x hx => by have := hM.2.1 x hx; omega, jz h512 (by omega)⟩, Fm.own hF10 hf12 (by rintro y rfl; omega)⟩
 ·intro jj hjj
  have s4 : slS (stv d) (some (Value.int .i64 4)) (some (Value.int .i64 12)) = some (stv ((d.drop 4).take 8)) := cU (i := 4) (j := 12) (by omega) (by omega) .i64 .i64
  have s5 : slS (stv d) (some (Value.int .i64 14)) (some (Value.int .i64 18)) = some (stv ((d.drop 14).take 4)) := cU (i := 14) (j := 18) (by omega) (by omega) .i64 .i64
  have i12 : ixS (stv d) (Value.int .i64 12) = some (.int .u8 ((bP d : Nat))) := bI (k := 12) (by omega)
  have i13 : ixS (stv d) (Value.int .i64 13) = some (.int .u8 ((cD d : Nat))) := bI (k := 13) (by omega)
  have c12 : IntKind.i64.wrap (bP d : Nat) = ((bP d : Nat) : Int) := gb _
  have c13 : IntKind.i64.wrap (cD d : Nat) = ((cD d : Nat) : Int) := gb _
  have o1 : ofN ((d.drop 4).take 8) = oI d % 2 ^ 63 := rfl
  have o2 : ofN ((d.drop 14).take 4) = du d := bT (by rw [List.length_take]; omega)
  have l1 : ((d.drop 4).take 8).length ≤ 9223372036854775806 := by rw [List.length_take]; omega
  have l2 : ((d.drop 14).take 4).length ≤ 9223372036854775806 := by rw [List.length_take]; omega
  have hf4 := Fm.drew (fun _ => False) w3
  have hx4 : w3.drew.heap[x2]? = some (.cells #[iv 0, iv 0, iv 0, iv 0, stv [], .slice none 0 0] 61) := hx2'
  have hF4 := Fmf hF2 hf4
  have hz4 := hF4.size
  have hx2l := aq hx4
  refine ⟨fun _ => True, trivial, ?_⟩
  simp only [RS, s4, s5, i12, i13, aV, c12, c13, true_and, and_true]
  generalize w3.drew = w4 at hf4 hx4 hF4 hz4 hx2l
  have fin : ∀ (g : Nat) (w5 w6 : World), w4.heap.size ≤ g → Fm (fun _ => False) w4 w5 → w5.heap[g]? = some (.cells #[iv 0, iv 0, iv 0, iv 0, stv [], .slice none 0 0] 61) → w6.heap[g]? = some (.cells (pcs ⟨(oI d % 2 ^ 63 : Nat), bP d, cD d, du d, [], []⟩ (.slice none 0 0)) 61) → Fm (· = g) w5 w6 → jj [pv g] w6 := by
   intro g w5 w6 h1 h2 h3 h4 h5
   exact hjj _ _ ⟨g, rfl, h4, by omega, by omega, h5.heap (h2.heap hx4 (fun e => e)) (by omega), Fm.own (Fmf hF4 h2) h5 (by rintro y rfl; omega)⟩
  have lay : ∀ u ∈ (pcs ⟨(oI d % 2 ^ 63 : Nat), bP d, cD d, du d, [], []⟩ (.slice none 0 0)).toList, u.oneCell' = true := by
   intro u hu; simp [pcs] at hu; rcases hu with rfl | rfl | rfl | rfl | rfl | rfl <;> rfl
  refine ⟨?_, ?_⟩
  ·refine (cN w4 _ l1).mono ?_
   rintro _ w4 ⟨rfl, rfl⟩
   rw [o1]
   refine ⟨?_, ?_⟩
   ·refine (cN w4 _ l2).mono ?_
    rintro _ w4 ⟨rfl, rfl⟩
    rw [o2]
    refine ⟨_, fun w5 _ => af (jx _ _ _ _ _) ⟨rfl, rfl⟩, ?_⟩
    refine ao ?_
    intro g w5 hg hs5 hw5 hf5
    refine aB hw5 rfl rfl lay ?_
    intro w6 hw6 hs6 hf6
    exact fin g w5 w6 (by omega) hf5 hw5 hw6 hf6
   ·refine ao ?_
    intro g w5 hg hs5 hw5 hf5
    refine (cN w5 _ l2).mono ?_
    rintro _ w5 ⟨rfl, rfl⟩
    rw [o2]
    refine af (jx _ _ _ _ _) ⟨rfl, ?_⟩
    refine aB hw5 rfl rfl lay ?_
    intro w6 hw6 hs6 hf6
    exact fin g w5 w6 (by omega) hf5 hw5 hw6 hf6
  ·refine ao ?_
   intro g w5 hg hs5 hw5 hf5
   refine (cN w5 _ l1).mono ?_
   rintro _ w5 ⟨rfl, rfl⟩
   rw [o1]
   refine (cN w5 _ l2).mono ?_
   rintro _ w5 ⟨rfl, rfl⟩
   rw [o2]
   refine af (jx _ _ _ _ _) ⟨rfl, ?_⟩
   refine aB hw5 rfl rfl lay ?_
   intro w6 hw6 hs6 hf6
   exact fin g w5 w6 (by omega) hf5 hw5 hw6 hf6
def ve (x : Rc) : Bs := x.txns.flatMap prB
def uE (x : Rc) : Bs := aK (x.txns.length : Int) ++ ve x
def wJ (x : Rc) : Bs := x.pages.flatMap prB ++ uE x
def uQ (x : Rc) : Bs := aK (x.pages.length : Int) ++ wJ x
def wH (x : Rc) : Bs := x.imgs.flatMap fK ++ uQ x
def wo (x : Rc) : Bs := aK (x.imgs.length : Int) ++ wH x
def wK (x : Rc) : Bs := bh x.more ++ wo x
def wm (x : Rc) : Bs := bh x.slots ++ wK x
def wU (x : Rc) : Bs := eA x.data ++ wm x
theorem tS (x : Rc) : cl x = aK x.lsn ++ (aK x.prev ++ (aK x.next ++ (aK x.kind ++ (aK x.xid ++ (aK x.page ++ (aK x.slot ++ (aK x.old ++ (aK x.new ++ (aK x.redo ++ wU x))))))))) := by
 simp only [cl, cL, aO, List.flatMap_cons, List.flatMap_nil, List.append_nil, List.append_assoc, wU, wm, wK, wo, wH, uQ, wJ, uE, ve]
def Tr (S : Bs) (P : Rc → Prop) : Prop := ∀ x, Good x → cl x = S → P x
structure TS (w0 w : World) (x2 rb x5 : Nat) (S : Bs) (B : Rc → Bs) (r : Rc) (vs vm vi vp vt : Value) : Prop where
 res : w.heap[x2]? = some (.cells (rcs rc0 nl nl nl nl nl) 28)
 rd : ∃ at_ e, RR w rb S at_ e ∧ at_ ≤ S.length ∧ Tr S (fun x => e = 0 ∧ S.drop at_ = B x)
 x : RB w x5 r vs vm vi vp vt
 fm : Fm (fun _ => False) w0 w
 o1 : w0.heap.size ≤ x2
 o2 : x2 < rb
 o3 : rb < x5
 len : S.length ≤ 1000000
section
variable {w0 w w' : World} {x2 rb x5 : Nat} {S : Bs} {B : Rc → Bs} {r : Rc} {vs vm vi vp vt : Value}
theorem TS.conv (h : TS w0 w x2 rb x5 S B r vs vm vi vp vt) {B' : Rc → Bs} (hB : Tr S (fun x => B x = B' x)) : TS w0 w x2 rb x5 S B' r vs vm vi vp vt := by
 obtain ⟨at_, e, h1, h2, h3⟩ := h.rd
 exact ⟨h.res, ⟨at_, e, h1, h2, fun x hg hs => ⟨(h3 x hg hs).1, by rw [(h3 x hg hs).2, hB x hg hs]⟩⟩, h.x, h.fm, h.o1, h.o2, h.o3, h.len⟩
theorem TS.keepG {T : Nat → Prop} (h : TS w0 w x2 rb x5 S B r vs vm vi vp vt) (hf : Fm T w w') (hS : ∀ y, T y → x5 < y) : TS w0 w' x2 rb x5 S B r vs vm vi vp vt := by
 have := h.o1
 have := h.o2
 have := h.o3
 have hn : ∀ y, y ≤ x5 → ¬ T y := fun y hy e => by have := hS y e; omega
 obtain ⟨at_, e, h1, h2, h3⟩ := h.rd
 exact ⟨hf.heap h.res (hn _ (by omega)), ⟨at_, e, h1.keep hf (hn _ (by omega)), h2, h3⟩, h.x.keep hf (hn _ (by omega)), Fm.own h.fm hf (fun y hy => by have := hS y hy; omega), h.o1, h.o2, h.o3, h.len⟩
theorem TS.rdr (h : TS w0 w x2 rb x5 S B r vs vm vi vp vt) {B' : Rc → Bs} {at_ : Nat} {e : Int} (hr : RR w' rb S at_ e) (hat : at_ ≤ S.length) (hT : Tr S (fun x => e = 0 ∧ S.drop at_ = B' x)) (hf : Fm (· = rb) w w') : TS w0 w' x2 rb x5 S B' r vs vm vi vp vt := by
 have := h.o1
 have := h.o2
 have := h.o3
 exact ⟨hf.heap h.res (by omega), ⟨at_, e, hr, hat, hT⟩, h.x.keep hf (by omega), Fm.own h.fm hf (by rintro y rfl; omega), h.o1, h.o2, h.o3, h.len⟩
theorem TS.num {f : Rc → Int} (h : TS w0 w x2 rb x5 S (fun x => aK (f x) ++ B x) r vs vm vi vp vt) {most : Int} (hm : 0 ≤ most ∧ most ≤ 4611686018427387904) (hf : Tr S (fun x => 0 ≤ f x ∧ f x ≤ most)) {k : KV}
  (hk : ∀ (n : Int) (w' : World), TS w0 w' x2 rb x5 S B r vs vm vi vp vt → 0 ≤ n → n ≤ most → Tr S (fun x => n = f x) → Fm (· = rb) w w' → k (iv n) w') : Cl prog 159 [pv rb, iv most] w k := by
 obtain ⟨at_, e, h1, h2, h3⟩ := h.rd
 refine gz h1 h2 h.len hm ?_
 intro n at' e' w' hR hat h0 hn hfm himp
 have q : Tr S (fun x => n = f x ∧ S.drop at' = B x ∧ e' = 0) := fun x hg hs => himp _ _ (h3 x hg hs).1 (h3 x hg hs).2 (hf x hg hs).1 (hf x hg hs).2
 exact hk n w' (h.rdr hR hat (fun x hg hs => ⟨(q x hg hs).2.2, (q x hg hs).2.1⟩) hfm) h0 hn (fun x hg hs => (q x hg hs).1) hfm
theorem TS.text {f : Rc → Bs} (h : TS w0 w x2 rb x5 S (fun x => eA (f x) ++ B x) r vs vm vi vp vt) (hf : Tr S (fun x => (f x).length ≤ 512)) {k : KV}
  (hk : ∀ (s : Bs) (w' : World), TS w0 w' x2 rb x5 S B r vs vm vi vp vt → s.length ≤ 512 → Tr S (fun x => s = f x) → Fm (· = rb) w w' → k (stv s) w') : Cl prog 160 [pv rb, iv 512] w k := by
 obtain ⟨at_, e, h1, h2, h3⟩ := h.rd
 refine ri h1 h2 h.len ⟨by omega, by omega⟩ ?_
 intro s at' e' w' hR hat hs' hfm himp
 have q : Tr S (fun x => s = f x ∧ S.drop at' = B x ∧ e' = 0) := fun x hg hs => himp _ _ (h3 x hg hs).1 (h3 x hg hs).2 (by have := hf x hg hs; omega)
 exact hk s w' (h.rdr hR hat (fun x hg hs => ⟨(q x hg hs).2.2, (q x hg hs).2.1⟩) hfm) (by omega) (fun x hg hs => (q x hg hs).1) hfm
theorem TS.list {f : Rc → List Int} (h : TS w0 w x2 rb x5 S (fun x => bh (f x) ++ B x) r vs vm vi vp vt) (hf : Tr S (fun x => (f x).length ≤ 255 ∧ ∀ n ∈ f x, okN n)) {k : KV}
  (hk : ∀ (v : Value) (L : List Int) (w' : World), TS w0 w' x2 rb x5 S B r vs vm vi vp vt → L.length ≤ 255 → (∀ n ∈ L, okN n) → w'.ownsRow w.heap.size 3 1 v L.length (L.map iv) → Tr S (fun x => L = f x) → Fm (· = rb) w w' → k v w') : Cl prog 161 [pv rb, iv 255] w k := by
 obtain ⟨at_, e, h1, h2, h3⟩ := h.rd
 refine rM h1 h2 h.len ?_
 intro v L at' e' w' hR hat hl hok ho hfm himp
 have q : Tr S (fun x => L = f x ∧ S.drop at' = B x ∧ e' = 0) := fun x hg hs => himp _ _ (h3 x hg hs).1 (h3 x hg hs).2 (hf x hg hs).1 (hf x hg hs).2
 exact hk v L w' (h.rdr hR hat (fun x hg hs => ⟨(q x hg hs).2.2, (q x hg hs).2.1⟩) hfm) hl hok ho (fun x hg hs => (q x hg hs).1) hfm
theorem TS.put (h : TS w0 w x2 rb x5 S B r vs vm vi vp vt) {j : Nat} {u : Value} {r' : Rc} {vs' vm' vi' vp' vt' : Value} (hj : j < 16) (hu : u.oneCell' = true) (e : (rcs r vs vm vi vp vt).setIfInBounds j u = rcs r' vs' vm' vi' vp' vt') {k : KV}
  (hk : ∀ w', TS w0 w' x2 rb x5 S B r' vs' vm' vi' vp' vt' → Fm (· = x5) w w' → k undef w') : St 1 w (.pointer (some ⟨x5, j, none⟩)) u k := by
 have := h.o1
 have := h.o2
 have := h.o3
 refine ay h.x.h (by show j < 16; exact hj) hu ?_
 intro w' hw' hs' hf'
 rw [e] at hw'
 obtain ⟨at_, e, h1, h2, h3⟩ := h.rd
 exact hk w' ⟨hf'.heap h.res (by omega), ⟨at_, e, h1.keep hf' (by omega), h2, h3⟩, ⟨hw'⟩, Fm.own h.fm hf' (by rintro y rfl; omega), h.o1, h.o2, h.o3, h.len⟩ hf'
theorem rX {w : World} {x2 : Nat} {cs0 cs : Array Value} (hr : w.heap[x2]? = some (.cells cs0 28)) (h0 : cs0.size = 16) (hn : cs.size = 16) (hone : ∀ u ∈ cs.toList, u.oneCell' = true) (b : Bool) {k : KV} (hk : ∀ w', Fm (· = x2) w w' → k (.tuple #[.agg cs, .bool b]) w') :
  St 16 w (.pointer (some ⟨x2, 0, none⟩)) (.agg cs) fun u_168 w_169 =>
    bU (bF prog (fun j => bif Nat.beq j 2 then .pointer (some ⟨x2, 0, none⟩) else bif Nat.beq j 3 then (Value.bool b) else undef) w_169 [(ResultVar.cell 2 28), (ResultVar.tmp 3)]) w_169 k := by
 refine aB hr h0 hn hone ?_
 intro w' hw' hs' hf'
 have hj' : lR prog (fun j => bif Nat.beq j 2 then .pointer (some ⟨x2, 0, none⟩) else bif Nat.beq j 3 then (Value.bool b) else undef) w' (.tmp 3) = some (.bool b) := rfl
 simp only [bF, di (f := (fun j => bif Nat.beq j 2 then .pointer (some ⟨x2, 0, none⟩) else bif Nat.beq j 3 then (Value.bool b) else undef)) (a := 2) rfl mq gW hw' hn, hj', bU, oH]
 exact hk w' hf'
end
theorem uw (s : Bs) (w : World) : (Instr.build 188 #[(0, stv s)]).run prog w = .ok (.agg #[stv s, iv 0, iv 0]) w := by kernel_rfl
theorem cz {x : Rc} (h : Good x) {n : Int} (hn : n ∈ rNums x) : 0 ≤ n ∧ n ≤ 4611686018427387904 := h.nums n hn
def gIm (x : Rc) (i : Nat) : Int × Pg := x.imgs.getD i (0, pg0)
theorem fA {x : Rc} {i : Nat} (h : i < x.imgs.length) : (x.imgs.drop i).flatMap fK = aK (gIm x i).1 ++ (eA (cK (eD (gIm x i).2).1) ++ (x.imgs.drop (i + 1)).flatMap fK) ∧ gIm x i ∈ x.imgs ∧ x.imgs.take (i + 1) = x.imgs.take i ++ [gIm x i] := by
 have e : gIm x i = x.imgs[i] := by unfold gIm; rw [List.getD_eq_getElem?_getD, List.getElem?_eq_getElem h]; rfl
 rw [e]
 refine ⟨?_, List.getElem_mem h, by rw [List.take_add_one, List.getElem?_eq_getElem h]; rfl⟩
 rw [List.drop_eq_getElem_cons h, List.flatMap_cons]
 unfold fK
 rw [List.append_assoc]
def gPr (l : List (Int × Int)) (i : Nat) : Int × Int := l.getD i (0, 0)
theorem eh {l : List (Int × Int)} {i : Nat} (h : i < l.length) : (l.drop i).flatMap prB = aK (gPr l i).1 ++ (aK (gPr l i).2 ++ (l.drop (i + 1)).flatMap prB) ∧ gPr l i ∈ l ∧ l.take (i + 1) = l.take i ++ [gPr l i] := by
 have e : gPr l i = l[i] := by unfold gPr; rw [List.getD_eq_getElem?_getD, List.getElem?_eq_getElem h]; rfl
 rw [e]
 refine ⟨?_, List.getElem_mem h, by rw [List.take_add_one, List.getElem?_eq_getElem h]; rfl⟩
 rw [List.drop_eq_getElem_cons h, List.flatMap_cons]
 unfold prB
 rw [List.append_assoc]
theorem mB {w : World} {rb : Nat} {c : Bool} {e : Int} (h2 : w.cell? ⟨rb, 2, none⟩ = some (iv e)) {K : Value → World → Prop} (hK : K (.bool (c && decide (e = 0))) w) :
  Gd c (fun kk => kk (pv rb) w) w fun t63_127 w_128 =>
  Gd c (fun kk => Pu (au t63_127) fun vv => kk vv w_128) w_128 fun t64_129 w_130 =>
  Gd c (fun kk => Pu (faV 2 t64_129) fun vv => kk vv w_130) w_130 fun t65_131 w_132 =>
  Gd c (fun kk => Ld w_132 t65_131 kk) w_132 fun t66_133 w_134 =>
  Gd c (fun kk => Pu (aa (TypeDesc.int .i64) .eql t66_133 (Value.int .i64 0)) fun vv => kk vv w_134) w_134 fun t67_135 w_136 =>
  Pu (ak (.bool c) t67_135 (Value.bool false)) fun t68_137 => K t68_137 w_136 := by
 cases c with
 | false =>
  simp only [RS]
  exact hK
 | true =>
  rw [Bool.true_and] at hK
  simp only [RS, h2, aA]
  exact hK
def TkP (w : World) (S : Bs) (v : Value) (w' : World) : Prop := ∃ x vs vm vi vp vt ok, v = .tuple #[.agg (rcs x vs vm vi vp vt), .bool ok] ∧ Rows w' w.heap.size x vs vm vi vp vt ∧ Bnd x ∧ Tr S (fun y => ok = true ∧ y = x) ∧ Fm (fun _ => False) w w'
theorem nR (w : World) (S : Bs) (hS : S.length ≤ 1000000) : Cl prog 85 [stv S] w (TkP w S) := by
 refine c85 ?_; unfold T85
 refine ao ?_
 intro x2 w1 hx2 hs1 hw1 hf1
 refine af (uw S w1) ?_
 refine ao ?_
 intro rb w2 hrb hs2 hw2 hf2
 refine ao ?_
 intro x5 w3 hx5 hs3 hw3 hf3
 have hT0 : Tr S (fun x => (0 : Int) = 0 ∧ S.drop 0 = aK x.lsn ++ (aK x.prev ++ (aK x.next ++ (aK x.kind ++ (aK x.xid ++ (aK x.page ++ (aK x.slot ++ (aK x.old ++ (aK x.new ++ (aK x.redo ++ wU x)))))))))) := fun x hg hs => ⟨rfl, by rw [List.drop_zero, ← hs, tS]⟩
 have h0 : TS w w3 x2 rb x5 S _ rc0 nl nl nl nl nl := ⟨(Fmf hf2 hf3).heap hw1 (fun e => e), ⟨0, 0, ⟨hf3.heap hw2 (fun e => e)⟩, by omega, hT0⟩, ⟨hw3⟩, Fmf hf1 (Fmf hf2 hf3), by omega, by omega, by omega, hS⟩
 clear hw1 hw2 hw3 hf1 hf2 hf3 hT0
 refine h0.num (f := fun x => x.lsn) ⟨by omega, by omega⟩ (fun x hg _ => cz hg (by unfold rNums; simp)) ?_
 intro a0 w4 g4 p0 q0 t0 _
 try simp only [RS]
 refine g4.put (j := 0) (r' := ⟨a0, 0, 0, 0, 0, 0, 0, 0, 0, 0, [], [], [], [], [], []⟩) (vs' := nl) (vm' := nl) (vi' := nl) (vp' := nl) (vt' := nl) (by omega) rfl rfl ?_
 intro w5 h5 _
 refine h5.num (f := fun x => x.prev) ⟨by omega, by omega⟩ (fun x hg _ => cz hg (by unfold rNums; simp)) ?_
 intro a1 w6 g6 p1 q1 t1 _
 try simp only [RS]
 refine g6.put (j := 1) (r' := ⟨a0, a1, 0, 0, 0, 0, 0, 0, 0, 0, [], [], [], [], [], []⟩) (vs' := nl) (vm' := nl) (vi' := nl) (vp' := nl) (vt' := nl) (by omega) rfl rfl ?_
 intro w7 h7 _
 refine h7.num (f := fun x => x.next) ⟨by omega, by omega⟩ (fun x hg _ => cz hg (by unfold rNums; simp)) ?_
 intro a2 w8 g8 p2 q2 t2 _
 try simp only [RS]
 refine g8.put (j := 2) (r' := ⟨a0, a1, a2, 0, 0, 0, 0, 0, 0, 0, [], [], [], [], [], []⟩) (vs' := nl) (vm' := nl) (vi' := nl) (vp' := nl) (vt' := nl) (by omega) rfl rfl ?_
 intro w9 h9 _
 refine h9.num (f := fun x => x.kind) ⟨by omega, by omega⟩ (fun x hg _ => ⟨by have := hg.kind; omega, by have := hg.kind; omega⟩) ?_
 intro a3 w10 g10 p3 q3 t3 _
 have ek : cvI .u8 (iv a3) = some (.int .u8 a3) := by
  show some (Value.int .u8 (IntKind.u8.wrap a3)) = _
  obtain ⟨q, hq⟩ := Int.eq_ofNat_of_zero_le p3
  rw [hq, bE, Nat.mod_eq_of_lt (by omega)]
 simp only [RS, ek]
 refine g10.put (j := 3) (r' := ⟨a0, a1, a2, a3, 0, 0, 0, 0, 0, 0, [], [], [], [], [], []⟩) (vs' := nl) (vm' := nl) (vi' := nl) (vp' := nl) (vt' := nl) (by omega) rfl rfl ?_
 intro w11 h11 _
 refine h11.num (f := fun x => x.xid) ⟨by omega, by omega⟩ (fun x hg _ => cz hg (by unfold rNums; simp)) ?_
 intro a4 w12 g12 p4 q4 t4 _
 try simp only [RS]
 refine g12.put (j := 4) (r' := ⟨a0, a1, a2, a3, a4, 0, 0, 0, 0, 0, [], [], [], [], [], []⟩) (vs' := nl) (vm' := nl) (vi' := nl) (vp' := nl) (vt' := nl) (by omega) rfl rfl ?_
 intro w13 h13 _
 refine h13.num (f := fun x => x.page) ⟨by omega, by omega⟩ (fun x hg _ => cz hg (by unfold rNums; simp)) ?_
 intro a5 w14 g14 p5 q5 t5 _
 try simp only [RS]
 refine g14.put (j := 5) (r' := ⟨a0, a1, a2, a3, a4, a5, 0, 0, 0, 0, [], [], [], [], [], []⟩) (vs' := nl) (vm' := nl) (vi' := nl) (vp' := nl) (vt' := nl) (by omega) rfl rfl ?_
 intro w15 h15 _
 refine h15.num (f := fun x => x.slot) ⟨by omega, by omega⟩ (fun x hg _ => cz hg (by unfold rNums; simp)) ?_
 intro a6 w16 g16 p6 q6 t6 _
 try simp only [RS]
 refine g16.put (j := 6) (r' := ⟨a0, a1, a2, a3, a4, a5, a6, 0, 0, 0, [], [], [], [], [], []⟩) (vs' := nl) (vm' := nl) (vi' := nl) (vp' := nl) (vt' := nl) (by omega) rfl rfl ?_
 intro w17 h17 _
 refine h17.num (f := fun x => x.old) ⟨by omega, by omega⟩ (fun x hg _ => cz hg (by unfold rNums; simp)) ?_
 intro a7 w18 g18 p7 q7 t7 _
 try simp only [RS]
 refine g18.put (j := 7) (r' := ⟨a0, a1, a2, a3, a4, a5, a6, a7, 0, 0, [], [], [], [], [], []⟩) (vs' := nl) (vm' := nl) (vi' := nl) (vp' := nl) (vt' := nl) (by omega) rfl rfl ?_
 intro w19 h19 _
 refine h19.num (f := fun x => x.new) ⟨by omega, by omega⟩ (fun x hg _ => cz hg (by unfold rNums; simp)) ?_
 intro a8 w20 g20 p8 q8 t8 _
 try simp only [RS]
 refine g20.put (j := 8) (r' := ⟨a0, a1, a2, a3, a4, a5, a6, a7, a8, 0, [], [], [], [], [], []⟩) (vs' := nl) (vm' := nl) (vi' := nl) (vp' := nl) (vt' := nl) (by omega) rfl rfl ?_
 intro w21 h21 _
 refine h21.num (f := fun x => x.redo) ⟨by omega, by omega⟩ (fun x hg _ => cz hg (by unfold rNums; simp)) ?_
 intro a9 w22 g22 p9 q9 t9 _
 try simp only [RS]
 refine g22.put (j := 9) (r' := ⟨a0, a1, a2, a3, a4, a5, a6, a7, a8, a9, [], [], [], [], [], []⟩) (vs' := nl) (vm' := nl) (vi' := nl) (vp' := nl) (vt' := nl) (by omega) rfl rfl ?_
 intro w23 h23 _
 refine h23.text (f := fun x => x.data) (B := wm) (fun x hg _ => hg.data) ?_
 intro d w24 g24 pd td _
 try simp only [RS]
 refine g24.put (j := 10) (r' := ⟨a0, a1, a2, a3, a4, a5, a6, a7, a8, a9, d, [], [], [], [], []⟩) (vs' := nl) (vm' := nl) (vi' := nl) (vp' := nl) (vt' := nl) (by omega) rfl rfl ?_
 intro w25 h25 _
 refine h25.list (f := fun x => x.slots) (B := wK) (fun x hg _ => ⟨hg.slots, fun n hn => hg.nums n (by unfold rNums; simp [hn])⟩) ?_
 intro vs sl w26 g26 psl qsl osl tsl fsl
 try simp only [RS]
 have zs := g26.x.lt
 have zs0 := h25.x.lt
 refine g26.put (j := 11) (r' := ⟨a0, a1, a2, a3, a4, a5, a6, a7, a8, a9, d, sl, [], [], [], []⟩) (vs' := vs) (vm' := nl) (vi' := nl) (vp' := nl) (vt' := nl) (by omega) (aF osl) rfl ?_
 intro w27 h27 fs1
 have osl1 := ae osl fs1 (fun k hk _ _ e => by omega)
 refine h27.list (f := fun x => x.more) (B := wo) (fun x hg _ => ⟨hg.more, fun n hn => hg.nums n (by unfold rNums; simp [hn])⟩) ?_
 intro vm mo w28 g28 pmo qmo omo tmo fmo
 try simp only [RS]
 have zm := h27.x.lt
 have ho3 := h27.o3
 have osl2 := ae osl1 fmo (fun k hk _ _ e => by omega)
 refine g28.put (j := 12) (r' := ⟨a0, a1, a2, a3, a4, a5, a6, a7, a8, a9, d, sl, mo, [], [], []⟩) (vs' := vs) (vm' := vm) (vi' := nl) (vp' := nl) (vt' := nl) (by omega) (aF omo) rfl ?_
 intro w29 h29 fm1
 have omo1 := ae omo fm1 (fun k hk _ _ e => by omega)
 have osl3 := ae osl2 fm1 (fun k hk _ _ e => by omega)
 have hrow : Rows w29 (x5 + 1) ⟨a0, a1, a2, a3, a4, a5, a6, a7, a8, a9, d, sl, mo, [], [], []⟩ vs vm nl nl nl := ⟨aW osl3 (by omega), aW omo1 (by omega), ⟨[], rfl, World.ownsRow_nil _ _ _ _, by simp⟩, World.ownsRow_nil _ _ _ _, World.ownsRow_nil _ _ _ _⟩
 clear osl osl1 osl2 osl3 omo omo1 fs1 fmo fm1 fsl
 have hnums : ∀ n ∈ [a0, a1, a2, a9, a4, a5, a6, a7, a8], okN n := by
  intro n hn
  simp at hn
  rcases hn with rfl | rfl | rfl | rfl | rfl | rfl | rfl | rfl | rfl <;> exact ⟨by assumption, by assumption⟩
 refine h29.num (f := fun x => (x.imgs.length : Int)) (B := wH) ⟨by omega, by omega⟩ (fun x hg _ => ⟨by omega, by have := hg.imgs; omega⟩) ?_
 intro n4 w34 g34 pn qn tn fn4
 obtain ⟨N, rfl⟩ := Int.eq_ofNat_of_zero_le pn
 have hrow34 := hrow.keep fn4 (fun y e => by omega)
 refine ⟨fun vl w' => ∃ (i : Nat) (L : List (Int × Pg)) (vi : Value), vl = [iv (i : Int)] ∧ i ≤ N ∧ L.length = i ∧ TS w w' x2 rb x5 S (fun x => (x.imgs.drop i).flatMap fK ++ uQ x) ⟨a0, a1, a2, a3, a4, a5, a6, a7, a8, a9, d, sl, mo, L, [], []⟩ vs vm vi nl nl ∧ Rows w' (x5 + 1) ⟨a0, a1, a2, a3, a4, a5, a6, a7, a8, a9, d, sl, mo, L, [], []⟩ vs vm vi nl nl ∧ Tr S (fun x => L = x.imgs.take i) ∧ ∀ m ∈ L, okN m.1 ∧ m.2.lsn ≤ 9223372036854775807, fun vl _ => (N - nth vl 0).toNat,
  ⟨0, [], nl, rfl, by omega, rfl, g34, hrow34, fun x _ _ => rfl, by simp⟩, ?_⟩
 clear hrow34 hrow g34 fn4
 rintro _ w35 iv35 ⟨i, L, vi, hvl, hi, hL, g35, hr35, tL, hLok⟩
 cases hvl
 obtain ⟨at35, e35, rr35, le35, tr35⟩ := g35.rd
 simp only [gH, eg, rO]
 refine mB rr35.c2 ?_
 cases hgo : (decide ((i : Int) < (N : Int)) && decide (e35 = 0)) with
 | true =>
  rw [Bool.and_eq_true, decide_eq_true_eq, decide_eq_true_eq] at hgo
  obtain ⟨hlt, rfl⟩ := hgo
  have d1 : decide ((i : Int) < (N : Int)) = true := by rw [decide_eq_true_eq]; omega
  have ei : IntKind.i64.wrap ((i : Int) + 1) = ((i + 1 : Nat) : Int) := by rw [ab] <;> omega
  have hil : Tr S (fun x => i < x.imgs.length) := fun x hg hs => by have := tn x hg hs; omega
  have g36 := g35.conv (B' := fun x => aK (gIm x i).1 ++ (eA (cK (eD (gIm x i).2).1) ++ ((x.imgs.drop (i + 1)).flatMap fK ++ uQ x))) (fun x hg hs => by
   dsimp only
   rw [(fA (hil x hg hs)).1, List.append_assoc, List.append_assoc])
  simp only [RS]
  refine g36.num (f := fun x => (gIm x i).1) ⟨by omega, by omega⟩ (fun x hg hs => cz hg (by unfold rNums; simp only [List.mem_append, List.mem_map]; exact .inl (.inl (.inr ⟨_, (fA (hil x hg hs)).2.1, rfl⟩)))) ?_
  intro pa w37 g37 pp qp tp f37
  have hr37 := hr35.keep f37 (fun y e => by have := g35.o3; omega)
  refine g37.text (f := fun x => cK (eD (gIm x i).2).1) (fun x hg hs => by
   exact (fu (el (hg.img _ (fA (hil x hg hs)).2.1))).2) ?_
  intro tt w38 g38 ptt ttt f38
  have hr38 := hr37.keep f38 (fun y e => by have := g35.o3; omega)
  have e5 : IntKind.i64.wrap (512 - (tt.length : Int)) = ((512 - tt.length : Nat) : Int) := by rw [ab] <;> omega
  obtain ⟨w39, hr39a, hz39, hf39⟩ := iT w38 (512 - tt.length) (by omega)
  simp only [RS, aj, e5]
  refine af hr39a ?_
  refine af (iR hz39) ?_
  have g39 := g38.keepG hf39 (fun _ e => e.elim)
  have hr39 := hr38.keep hf39 (fun _ e => e.elim)
  rw [dL (by rw [bx]; omega)]
  try simp only [RS]
  have hpad : tt ++ aG (512 - tt.length) = fN tt := rfl
  have hpl : (fN tt).length = 512 := by unfold fN; rw [List.length_append, bx]; omega
  rw [hpad]
  refine (lF w39 (fN tt) (by omega)).mono ?_
  rintro _ w40 ⟨pc, rfl, hO40, hq40⟩
  have hdec : Tr S (fun x => cP (fN tt) = ((gIm x i).2, 0) ∧ (gIm x i).2.lsn ≤ 9223372036854775807) := fun x hg hs => by
   have hm := (fA (hil x hg hs)).2.1
   have hle := hg.lsns _ hm
   rw [ttt x hg hs, (fu (el (hg.img _ hm))).1]
   exact ⟨mn (hg.img _ hm) hle, hle⟩
  have hplsn : (cP (fN tt)).2 = 0 → (cP (fN tt)).1.lsn ≤ 9223372036854775807 := fun h => (mg h).2.2
  generalize cP (fN tt) = pd at hO40 hdec hplsn
  have g40 := g39.keepG hq40 (fun _ e => e.elim)
  have hr40 := hr39.keep hq40 (fun _ e => e.elim)
  have hA40 := hO40.as
  have hz40 := hq40.size
  have hx39 := g39.x.lt
  simp only [RS]
  refine ao ?_
  intro x9 w41 hx9 hs41 hw41 hf41
  refine aB hw41 rfl hA40.size hA40.one ?_
  intro w42 hw42 hs42 hf42
  have hf4042 : Fm (fun _ => False) w40 w42 := Fm.own hf41 hf42 (by rintro y rfl; omega)
  have g42 := g40.keepG hf4042 (fun _ e => e.elim)
  have hr42 := hr40.keep hf4042 (fun _ e => e.elim)
  have hO42 := hO40.keep hf4042
  simp only [RS, al]
  cases hz1 : decide (pd.2 = 0) with
  | false =>
   rw [decide_eq_false_iff_not] at hz1
   simp only [RS]
   refine af (kF _) ?_
   refine rX g42.res rfl rfl (dA rfl rfl rfl rfl rfl) false ?_
   intro w43 hf43
   have := g42.o1
   exact ⟨rc0, nl, nl, nl, nl, nl, false, rfl, rK _ _, we, fun x hg hs => absurd (congrArg Prod.snd (hdec x hg hs).1) hz1, Fm.own g42.fm hf43 (by rintro y rfl; omega)⟩
  | true =>
  rw [decide_eq_true_eq] at hz1
  obtain ⟨pv_, rfl, hov⟩ := hO42.ex
  have hps : ∃ a n c, pv_ = .slice a n c := by
   rcases hov.2 with ⟨rfl, _⟩ | ⟨g, cap, cur, rfl, _⟩ <;> exact ⟨_, _, _, rfl⟩
  obtain ⟨pa1, pn1, pc1, rfl⟩ := hps
  simp only [RS, g42.x.c13, ax hw42 hA40.size]
  refine af (vu _ _ _ _ _ _) ?_
  refine af (xi _ _ _ _ _ _) ?_
  have hf44 := Fm.alloc (fun _ => False) w42 (.cells (imC (pa, pd.1, .slice pa1 pn1 pc1)).toArray 118)
  have hn44 := az w42 (.cells (imC (pa, pd.1, .slice pa1 pn1 pc1)).toArray 118)
  have g44 := g42.keepG hf44 (fun _ e => e.elim)
  have hr44 := hr42.keep hf44 (fun _ e => e.elim)
  have hO44 := ae hov hf44 (fun _ _ _ _ e => e)
  have hz44 := hf44.size
  generalize w42.alloc (.cells (imC (pa, pd.1, .slice pa1 pn1 pc1)).toArray 118) = w44 at hf44 hn44 g44 hr44 hO44 hz44
  have hx44 := g44.x.lt
  obtain ⟨X, hX1, hX2, hX3⟩ := hr44.hi
  have hXl : X.length = i := by have := congrArg List.length hX1; rw [List.length_map] at this; rw [this]; exact hL
  obtain ⟨vi', w45, hr45, ho45, _, hf45⟩ := ez wZ (by omega) hX2 (cs := imC (pa, pd.1, .slice pa1 pn1 pc1)) hn44 rfl (by intro q hq; simp [imC, pcs] at hq; rcases hq with rfl | rfl | rfl | rfl | rfl | rfl | rfl <;> rfl) (by omega) (by unfold maxLen; omega) (by omega)
  refine af hr45 ?_
  have hlt45 := aX hX2
  have g45 := g44.keepG hf45 (fun y hy => by have := hlt45 y hy; omega)
  try simp only [RS]
  refine g45.put (j := 13) (r' := ⟨a0, a1, a2, a3, a4, a5, a6, a7, a8, a9, d, sl, mo, (L ++ [(pa, pd.1)]), [], []⟩) (vs' := vs) (vm' := vm) (vi' := vi') (vp' := nl) (vt' := nl) (by omega) (aF ho45) rfl ?_
  intro w46 g46 hq46
  simp only [RS, ei]
  refine ⟨⟨i + 1, L ++ [(pa, pd.1)], vi', rfl, by omega, by rw [List.length_append, hL]; rfl, g46, ?_, fun x hg hs => ?_, fun m hm => ?_⟩, by simp only [bw]; omega⟩
  ·have q46 : ∀ k, x5 + 1 ≤ k → ¬ k = x5 := fun k hk e => by omega
   refine ⟨ae (ae hr44.hs hf45 (fun k _ _ hk e => aI hX2 hr44.hs (by decide) k e hk)) hq46 (fun k hk _ _ => q46 k hk), ae (ae hr44.hm hf45 (fun k _ _ hk e => aI hX2 hr44.hm (by decide) k e hk)) hq46 (fun k hk _ _ => q46 k hk), ⟨X ++ [(pa, pd.1, .slice pa1 pn1 pc1)], ?_, ?_, ?_⟩, World.ownsRow_nil _ _ _ _, World.ownsRow_nil _ _ _ _⟩
   ·rw [List.map_append, hX1]; rfl
   ·rw [List.length_append, List.flatMap_append, List.flatMap_cons, List.flatMap_nil, List.append_nil]
    exact ae ho45 hq46 (fun k hk _ _ => q46 k hk)
   ·intro x hx
    rcases List.mem_append.1 hx with hx | hx
    ·obtain ⟨q1, q2, q3⟩ := hX3 x hx
     have q4 := ae (ae q2 hf45 (fun k _ _ hk e => aI hX2 q2 (by decide) k e hk)) hq46 (fun k hk _ _ => q46 k hk)
     exact ⟨q1, q4, cM q4 q3⟩
    ·obtain rfl : x = (pa, pd.1, .slice pa1 pn1 pc1) := by simpa using hx
     have q2 := aW hO44 (show x5 + 1 ≤ w39.heap.size by omega)
     have q4 := ae (ae q2 hf45 (fun k _ _ hk e => aI hX2 q2 (by decide) k e hk)) hq46 (fun k hk _ _ => q46 k hk)
     exact ⟨rfl, q4, cM q4 hO42.as⟩
  ·dsimp only
   rw [(fA (hil x hg hs)).2.2, ← tL x hg hs, tp x hg hs, (hdec x hg hs).1]
  ·rcases List.mem_append.1 hm with hm | hm
   ·exact hLok m hm
   ·obtain rfl : m = (pa, pd.1) := by simpa using hm
    exact ⟨⟨pp, qp⟩, hplsn hz1⟩
 | false =>
  have hie : Tr S (fun x => x.imgs.drop i = [] ∧ L = x.imgs) := fun x hg hs => by
   have h1 := tn x hg hs
   have h2 := (tr35 x hg hs).1
   rw [Bool.and_eq_false_iff, decide_eq_false_iff_not, decide_eq_false_iff_not] at hgo
   have h3 : x.imgs.length ≤ i := by
    rcases hgo with h | h
    ·omega
    ·exact absurd h2 h
   exact ⟨List.drop_eq_nil_of_le h3, by rw [tL x hg hs, List.take_of_length_le h3]⟩
  have g50 := g35.conv (B' := uQ) (fun x hg hs => by dsimp only; rw [(hie x hg hs).1]; rfl)
  have tL := fun x hg hs => (hie x hg hs).2
  have hL4 : L.length ≤ 4 := by omega
  simp only [RS]
  refine g50.num (f := fun x => (x.pages.length : Int)) (B := wJ) ⟨by omega, by omega⟩ (fun x hg _ => ⟨by omega, by have := hg.pages; omega⟩) ?_
  intro np wp0 gp0 pnp qnp tnp fnp
  obtain ⟨Np, rfl⟩ := Int.eq_ofNat_of_zero_le pnp
  have hrp0 := hr35.keep fnp (fun y e => by have := g50.o3; omega)
  refine ⟨fun vl w' => ∃ (i : Nat) (P : List (Int × Int)) (vx : Value), vl = [iv (i : Int)] ∧ i ≤ Np ∧ P.length = i ∧ TS w w' x2 rb x5 S (fun x => (x.pages.drop i).flatMap prB ++ uE x) ⟨a0, a1, a2, a3, a4, a5, a6, a7, a8, a9, d, sl, mo, L, P, []⟩ vs vm vi vx nl ∧ Rows w' (x5 + 1) ⟨a0, a1, a2, a3, a4, a5, a6, a7, a8, a9, d, sl, mo, L, P, []⟩ vs vm vi vx nl ∧ Tr S (fun x => P = x.pages.take i) ∧ ∀ m ∈ P, okN m.1 ∧ okN m.2, fun vl _ => (Np - nth vl 0).toNat,
   ⟨0, [], nl, rfl, by omega, rfl, gp0, hrp0, fun x _ _ => rfl, by simp⟩, ?_⟩
  rintro _ wp1 ivp ⟨jp, Pp, vxp, hvl, hjp, hPp, gp1, hrp1, tPp, hPokp⟩
  cases hvl
  obtain ⟨atp, ep, rrp, llep, trp⟩ := gp1.rd
  simp only [gH, eg, rO]
  refine mB rrp.c2 ?_
  cases hgop : (decide ((jp : Int) < (Np : Int)) && decide (ep = 0)) with
  | true =>
   rw [Bool.and_eq_true, decide_eq_true_eq, decide_eq_true_eq] at hgop
   obtain ⟨hlt, rfl⟩ := hgop
   have d2 : decide ((jp : Int) < (Np : Int)) = true := by rw [decide_eq_true_eq]; omega
   have ei : IntKind.i64.wrap ((jp : Int) + 1) = ((jp + 1 : Nat) : Int) := by rw [ab] <;> omega
   have hil : Tr S (fun x => jp < x.pages.length) := fun x hg hs => by have := tnp x hg hs; omega
   have hd50 := Fm.drew (fun _ => False) wp1
   have g51 := (gp1.conv (B' := fun x => aK (gPr x.pages jp).1 ++ (aK (gPr x.pages jp).2 ++ ((x.pages.drop (jp + 1)).flatMap prB ++ uE x))) (fun x hg hs => by
    dsimp only
    rw [(eh (hil x hg hs)).1, List.append_assoc, List.append_assoc])).keepG hd50 (fun _ e => e.elim)
   have hr51 := hrp1.keep hd50 (fun _ e => e.elim)
   simp only [RS]
   refine ⟨fun w' => w'.cell? ⟨x5, 14, none⟩ = some vxp, g51.x.c14, ?_⟩
   try simp only [RS]
   refine ⟨vxp, fun w9 h9 => ?_, ?_⟩
   ·simp only [RS, h9]; trivial
   generalize wp1.drew = w51 at hd50 g51 hr51
   have hmn : Tr S (fun x => okN (gPr x.pages jp).1 ∧ okN (gPr x.pages jp).2) := fun x hg hs => by
    have hm := bW (eh (hil x hg hs)).2.1
    exact ⟨hg.nums _ (by unfold rNums; simp [hm.1]), hg.nums _ (by unfold rNums; simp [hm.2])⟩
   refine g51.num (f := fun x => (gPr x.pages jp).1) ⟨by omega, by omega⟩ (fun x hg hs => (hmn x hg hs).1) ?_
   intro pa w52 g52 pp1 qp1 tp1 hq52
   have hr52 := hr51.keep hq52 (fun y e => by have := g51.o3; omega)
   refine ⟨g52.x.c14, ?_⟩
   refine g52.num (f := fun x => (gPr x.pages jp).2) ⟨by omega, by omega⟩ (fun x hg hs => (hmn x hg hs).2) ?_
   intro pb w53 g53 pp2 qp2 tp2 hq53
   have hr53 := hr52.keep hq53 (fun y e => by have := g51.o3; omega)
   refine ⟨g53.x.c14, ?_⟩
   refine af (uY _ _ _) ⟨rfl, ?_⟩
   refine af (xc _ _ _) ?_
   have hf54 := Fm.alloc (fun _ => False) w53 (.cells (pc2 (pa, pb)).toArray 120)
   have hn54 := az w53 (.cells (pc2 (pa, pb)).toArray 120)
   have g54 := g53.keepG hf54 (fun _ e => e.elim)
   have hr54 := hr53.keep hf54 (fun _ e => e.elim)
   generalize w53.alloc (.cells (pc2 (pa, pb)).toArray 120) = w54 at hf54 hn54 g54 hr54
   refine ⟨g54.x.c14, ?_⟩
   have hx54 := g54.x.lt
   have hh54 : w54.ownsRow (x5 + 1) 120 2 vxp Pp.length (Pp.flatMap pc2) := hr54.hp
   obtain ⟨vx', w55, hr55, ho55, _, hf55⟩ := ez wV (by omega) hh54 (cs := pc2 (pa, pb)) hn54 rfl (by intro q hq; simp [pc2] at hq; rcases hq with rfl | rfl <;> rfl) (by omega) (by unfold maxLen; omega) (by omega)
   refine af hr55 ?_
   have hlt55 := aX hr54.hp
   have g55 := g54.keepG hf55 (fun y hy => by have := hlt55 y hy; omega)
   try simp only [RS]
   refine g55.put (j := 14) (r' := ⟨a0, a1, a2, a3, a4, a5, a6, a7, a8, a9, d, sl, mo, L, (Pp ++ [(pa, pb)]), []⟩) (vs' := vs) (vm' := vm) (vi' := vi) (vp' := vx') (vt' := nl) (by omega) (aF ho55) rfl ?_
   intro w56 g56 hq56
   simp only [RS, ei]
   refine ⟨⟨jp + 1, Pp ++ [(pa, pb)], vx', rfl, by omega, by rw [List.length_append, hPp]; rfl, g56, ?_, fun x hg hs => ?_, fun m hm => ?_⟩, by simp only [bw]; omega⟩
   ·have q56 : ∀ k, x5 + 1 ≤ k → ¬ k = x5 := fun k hk e => by omega
    have kk : ∀ {b1 : Nat} {e1 : TypeId} {s1 : Nat} {v1 : Value} {n1 : Nat} {y1 : List Value}, w54.ownsRow (x5 + 1) e1 s1 v1 n1 y1 → 120 ≠ e1 → w56.ownsRow (x5 + 1) e1 s1 v1 n1 y1 := fun hh he => ae (ae hh hf55 (fun k _ _ hk e => aI hr54.hp hh he k e hk)) hq56 (fun k hk _ _ => q56 k hk)
    obtain ⟨X, hX1, hX2, hX3⟩ := hr54.hi
    have hnew : w56.ownsRow (x5 + 1) 120 2 vx' (Pp ++ [(pa, pb)]).length ((Pp ++ [(pa, pb)]).flatMap pc2) := by
     rw [List.length_append, List.flatMap_append, List.flatMap_cons, List.flatMap_nil, List.append_nil]
     exact ae ho55 hq56 (fun k hk _ _ => q56 k hk)
    refine ⟨kk (b1 := 0) hr54.hs (by decide), kk (b1 := 0) hr54.hm (by decide), ⟨X, hX1, kk (b1 := 0) hX2 (by decide), fun x hx => ?_⟩, hnew, World.ownsRow_nil _ _ _ _⟩
    obtain ⟨q1, q2, q3⟩ := hX3 x hx
    have q4 := kk (b1 := 0) q2 (by decide)
    exact ⟨q1, q4, cM q4 q3⟩
   ·dsimp only
    rw [(eh (hil x hg hs)).2.2, ← tPp x hg hs, tp1 x hg hs, tp2 x hg hs]
   ·rcases List.mem_append.1 hm with hm | hm
    ·exact hPokp m hm
    ·obtain rfl : m = (pa, pb) := by simpa using hm
     exact ⟨⟨pp1, qp1⟩, ⟨pp2, qp2⟩⟩
  | false =>
   have hiep : Tr S (fun x => x.pages.drop jp = [] ∧ Pp = x.pages) := fun x hg hs => by
    have h1 := tnp x hg hs
    have h2 := (trp x hg hs).1
    rw [Bool.and_eq_false_iff, decide_eq_false_iff_not, decide_eq_false_iff_not] at hgop
    have h3 : x.pages.length ≤ jp := by
     rcases hgop with h | h
     ·omega
     ·exact absurd h2 h
    exact ⟨List.drop_eq_nil_of_le h3, by rw [tPp x hg hs, List.take_of_length_le h3]⟩
   have gp9 := gp1.conv (B' := uE) (fun x hg hs => by dsimp only; rw [(hiep x hg hs).1]; rfl)
   have tPp := fun x hg hs => (hiep x hg hs).2
   have hPpl : Pp.length ≤ 8192 := by omega
   simp only [RS]
   refine gp9.num (f := fun x => (x.txns.length : Int)) (B := ve) ⟨by omega, by omega⟩ (fun x hg _ => ⟨by omega, by have := hg.txns; omega⟩) ?_
   intro nt wt0 gt0 pnt qnt tnt fnt
   obtain ⟨Nt, rfl⟩ := Int.eq_ofNat_of_zero_le pnt
   have hrt0 := hrp1.keep fnt (fun y e => by have := gp9.o3; omega)
   refine ⟨fun vl w' => ∃ (i : Nat) (P : List (Int × Int)) (vx : Value), vl = [iv (i : Int)] ∧ i ≤ Nt ∧ P.length = i ∧ TS w w' x2 rb x5 S (fun x => (x.txns.drop i).flatMap prB ++ []) ⟨a0, a1, a2, a3, a4, a5, a6, a7, a8, a9, d, sl, mo, L, Pp, P⟩ vs vm vi vxp vx ∧ Rows w' (x5 + 1) ⟨a0, a1, a2, a3, a4, a5, a6, a7, a8, a9, d, sl, mo, L, Pp, P⟩ vs vm vi vxp vx ∧ Tr S (fun x => P = x.txns.take i) ∧ ∀ m ∈ P, okN m.1 ∧ okN m.2, fun vl _ => (Nt - nth vl 0).toNat,
    ⟨0, [], nl, rfl, by omega, rfl, gt0.conv (fun x _ _ => by show ve x = _; unfold ve; rw [List.drop_zero, List.append_nil]), hrt0, fun x _ _ => rfl, by simp⟩, ?_⟩
   rintro _ wt1 ivt ⟨jt, Pt, vxt, hvl, hjt, hPt, gt1, hrt1, tPt, hPokt⟩
   cases hvl
   obtain ⟨att, et, rrt, llet, trt⟩ := gt1.rd
   simp only [gH, eg, rO]
   refine mB rrt.c2 ?_
   cases hgot : (decide ((jt : Int) < (Nt : Int)) && decide (et = 0)) with
   | true =>
    rw [Bool.and_eq_true, decide_eq_true_eq, decide_eq_true_eq] at hgot
    obtain ⟨hlt, rfl⟩ := hgot
    have d2 : decide ((jt : Int) < (Nt : Int)) = true := by rw [decide_eq_true_eq]; omega
    have ei : IntKind.i64.wrap ((jt : Int) + 1) = ((jt + 1 : Nat) : Int) := by rw [ab] <;> omega
    have hil : Tr S (fun x => jt < x.txns.length) := fun x hg hs => by have := tnt x hg hs; omega
    have hd50 := Fm.drew (fun _ => False) wt1
    have g51 := (gt1.conv (B' := fun x => aK (gPr x.txns jt).1 ++ (aK (gPr x.txns jt).2 ++ ((x.txns.drop (jt + 1)).flatMap prB ++ []))) (fun x hg hs => by
     dsimp only
     rw [(eh (hil x hg hs)).1, List.append_assoc, List.append_assoc])).keepG hd50 (fun _ e => e.elim)
    have hr51 := hrt1.keep hd50 (fun _ e => e.elim)
    simp only [RS]
    refine ⟨fun w' => w'.cell? ⟨x5, 15, none⟩ = some vxt, g51.x.c15, ?_⟩
    try simp only [RS]
    refine ⟨vxt, fun w9 h9 => ?_, ?_⟩
    ·simp only [RS, h9]; trivial
    generalize wt1.drew = w51 at hd50 g51 hr51
    have hmn : Tr S (fun x => okN (gPr x.txns jt).1 ∧ okN (gPr x.txns jt).2) := fun x hg hs => by
     have hm := bW (eh (hil x hg hs)).2.1
     exact ⟨hg.nums _ (by unfold rNums; simp [hm.1]), hg.nums _ (by unfold rNums; simp [hm.2])⟩
    refine g51.num (f := fun x => (gPr x.txns jt).1) ⟨by omega, by omega⟩ (fun x hg hs => (hmn x hg hs).1) ?_
    intro pa w52 g52 pp1 qp1 tp1 hq52
    have hr52 := hr51.keep hq52 (fun y e => by have := g51.o3; omega)
    refine ⟨g52.x.c15, ?_⟩
    refine g52.num (f := fun x => (gPr x.txns jt).2) ⟨by omega, by omega⟩ (fun x hg hs => (hmn x hg hs).2) ?_
    intro pb w53 g53 pp2 qp2 tp2 hq53
    have hr53 := hr52.keep hq53 (fun y e => by have := g51.o3; omega)
    refine ⟨g53.x.c15, ?_⟩
    refine af (vh _ _ _) ⟨rfl, ?_⟩
    refine af (xk _ _ _) ?_
    have hf54 := Fm.alloc (fun _ => False) w53 (.cells (pc2 (pa, pb)).toArray 122)
    have hn54 := az w53 (.cells (pc2 (pa, pb)).toArray 122)
    have g54 := g53.keepG hf54 (fun _ e => e.elim)
    have hr54 := hr53.keep hf54 (fun _ e => e.elim)
    generalize w53.alloc (.cells (pc2 (pa, pb)).toArray 122) = w54 at hf54 hn54 g54 hr54
    refine ⟨g54.x.c15, ?_⟩
    have hx54 := g54.x.lt
    have hh54 : w54.ownsRow (x5 + 1) 122 2 vxt Pt.length (Pt.flatMap pc2) := hr54.ht
    obtain ⟨vx', w55, hr55, ho55, _, hf55⟩ := ez xj (by omega) hh54 (cs := pc2 (pa, pb)) hn54 rfl (by intro q hq; simp [pc2] at hq; rcases hq with rfl | rfl <;> rfl) (by omega) (by unfold maxLen; omega) (by omega)
    refine af hr55 ?_
    have hlt55 := aX hr54.ht
    have g55 := g54.keepG hf55 (fun y hy => by have := hlt55 y hy; omega)
    try simp only [RS]
    refine g55.put (j := 15) (r' := ⟨a0, a1, a2, a3, a4, a5, a6, a7, a8, a9, d, sl, mo, L, Pp, (Pt ++ [(pa, pb)])⟩) (vs' := vs) (vm' := vm) (vi' := vi) (vp' := vxp) (vt' := vx') (by omega) (aF ho55) rfl ?_
    intro w56 g56 hq56
    simp only [RS, ei]
    refine ⟨⟨jt + 1, Pt ++ [(pa, pb)], vx', rfl, by omega, by rw [List.length_append, hPt]; rfl, g56, ?_, fun x hg hs => ?_, fun m hm => ?_⟩, by simp only [bw]; omega⟩
    ·have q56 : ∀ k, x5 + 1 ≤ k → ¬ k = x5 := fun k hk e => by omega
     have kk : ∀ {b1 : Nat} {e1 : TypeId} {s1 : Nat} {v1 : Value} {n1 : Nat} {y1 : List Value}, w54.ownsRow (x5 + 1) e1 s1 v1 n1 y1 → 122 ≠ e1 → w56.ownsRow (x5 + 1) e1 s1 v1 n1 y1 := fun hh he => ae (ae hh hf55 (fun k _ _ hk e => aI hr54.ht hh he k e hk)) hq56 (fun k hk _ _ => q56 k hk)
     obtain ⟨X, hX1, hX2, hX3⟩ := hr54.hi
     have hnew : w56.ownsRow (x5 + 1) 122 2 vx' (Pt ++ [(pa, pb)]).length ((Pt ++ [(pa, pb)]).flatMap pc2) := by
      rw [List.length_append, List.flatMap_append, List.flatMap_cons, List.flatMap_nil, List.append_nil]
      exact ae ho55 hq56 (fun k hk _ _ => q56 k hk)
     refine ⟨kk (b1 := 0) hr54.hs (by decide), kk (b1 := 0) hr54.hm (by decide), ⟨X, hX1, kk (b1 := 0) hX2 (by decide), fun x hx => ?_⟩, kk (b1 := 0) hr54.hp (by decide), hnew⟩
     obtain ⟨q1, q2, q3⟩ := hX3 x hx
     have q4 := kk (b1 := 0) q2 (by decide)
     exact ⟨q1, q4, cM q4 q3⟩
    ·dsimp only
     rw [(eh (hil x hg hs)).2.2, ← tPt x hg hs, tp1 x hg hs, tp2 x hg hs]
    ·rcases List.mem_append.1 hm with hm | hm
     ·exact hPokt m hm
     ·obtain rfl : m = (pa, pb) := by simpa using hm
      exact ⟨⟨pp1, qp1⟩, ⟨pp2, qp2⟩⟩
   | false =>
    have hiet : Tr S (fun x => x.txns.drop jt = [] ∧ Pt = x.txns) := fun x hg hs => by
     have h1 := tnt x hg hs
     have h2 := (trt x hg hs).1
     rw [Bool.and_eq_false_iff, decide_eq_false_iff_not, decide_eq_false_iff_not] at hgot
     have h3 : x.txns.length ≤ jt := by
      rcases hgot with h | h
      ·omega
      ·exact absurd h2 h
     exact ⟨List.drop_eq_nil_of_le h3, by rw [tPt x hg hs, List.take_of_length_le h3]⟩
    have gt9 := gt1.conv (B' := fun _ => []) (fun x hg hs => by dsimp only; rw [(hiet x hg hs).1]; rfl)
    have tPt := fun x hg hs => (hiet x hg hs).2
    have hPtl : Pt.length ≤ 1024 := by omega
    simp only [RS]
    have hbnd : Bnd ⟨a0, a1, a2, a3, a4, a5, a6, a7, a8, a9, d, sl, mo, L, Pp, Pt⟩ := by
     refine ⟨fun n hn => ?_, ⟨p3, q3⟩, pd, psl, pmo, hL4, hPpl, hPtl, fun m hm => (hLok m hm).2⟩
     unfold rNums at hn
     simp only [List.mem_append] at hn
     rcases hn with ((((hn | hn) | hn) | hn) | hn) | hn
     ·exact hnums n hn
     ·exact qsl n hn
     ·exact qmo n hn
     ·obtain ⟨m, hm, rfl⟩ := List.mem_map.1 hn
      exact (hLok m hm).1
     ·obtain ⟨m, hm, h⟩ := fl hn
      rcases h with rfl | rfl
      ·exact (hPokp m hm).1
      ·exact (hPokp m hm).2
     ·obtain ⟨m, hm, h⟩ := fl hn
      rcases h with rfl | rfl
      ·exact (hPokt m hm).1
      ·exact (hPokt m hm).2
    have hall : Tr S (fun y => y = ⟨a0, a1, a2, a3, a4, a5, a6, a7, a8, a9, d, sl, mo, L, Pp, Pt⟩) := fun x hg hs => by
     rw [t0 x hg hs, t1 x hg hs, t2 x hg hs, t3 x hg hs, t4 x hg hs, t5 x hg hs, t6 x hg hs, t7 x hg hs, t8 x hg hs, t9 x hg hs, td x hg hs, tsl x hg hs, tmo x hg hs, tL x hg hs, tPp x hg hs, tPt x hg hs]
    have hd71 := Fm.drew (fun _ => False) wt1
    have g72 := gt9.keepG hd71 (fun _ e => e.elim)
    have hr72 := hrt1.keep hd71 (fun _ e => e.elim)
    obtain ⟨at72, e72, rr72, le72, tr72⟩ := g72.rd
    refine ⟨fun w' => RB w' x5 ⟨a0, a1, a2, a3, a4, a5, a6, a7, a8, a9, d, sl, mo, L, Pp, Pt⟩ vs vm vi vxp vxt, g72.x, .agg (rcs ⟨a0, a1, a2, a3, a4, a5, a6, a7, a8, a9, d, sl, mo, L, Pp, Pt⟩ vs vm vi vxp vxt), fun w9 h9 => ?_, ?_⟩
    ·simp only [RS, h9.all]; trivial
    refine (pP rr72).mono ?_
    rintro _ w73 ⟨rfl, hf73⟩
    have g73 := g72.keepG hf73 (fun _ e => e.elim)
    have hr73 := hr72.keep hf73 (fun _ e => e.elim)
    refine ⟨g73.x, ?_⟩
    simp only [RS, aA]
    refine rX g73.res rfl rfl hr73.one _ ?_
    intro w74 hf74
    have ho1 := g73.o1
    have ho2 := g73.o2
    have hr74 := hr73.keep hf74 (fun y e => by omega)
    have b74 : ∀ {e1 : TypeId} {s1 : Nat} {v1 : Value} {n1 : Nat} {y1 : List Value}, w74.ownsRow (x5 + 1) e1 s1 v1 n1 y1 → w74.ownsRow w.heap.size e1 s1 v1 n1 y1 := fun hh => aW hh (by have := g73.o3; omega)
    obtain ⟨X, hX1, hX2, hX3⟩ := hr74.hi
    refine ⟨_, _, _, _, _, _, _, rfl, ⟨b74 hr74.hs, b74 hr74.hm, ⟨X, hX1, b74 hX2, fun x hx => ⟨(hX3 x hx).1, b74 (hX3 x hx).2.1, (hX3 x hx).2.2⟩⟩, b74 hr74.hp, b74 hr74.ht⟩, hbnd, fun y hg hs => ⟨?_, hall y hg hs⟩, Fm.own g73.fm hf74 (by rintro y rfl; omega)⟩
    obtain ⟨z1, z2⟩ := tr72 y hg hs
    have hlen : S.length ≤ at72 := by
     have := congrArg List.length z2
     rw [List.length_drop, List.length_nil] at this
     omega
    rw [decide_eq_true_eq, if_neg (fun h => by omega)]
    exact z1
theorem fW (w : World) (d : Bs) (hd : d.length ≤ 1000000000000000) : Cl prog 14 [stv d] w fun v w' => ∃ cs, v = .tuple #[.agg cs, iv (cA d).2.1, iv (cA d).2.2] ∧ RdOk w' w.heap.size cs (cA d).1 ∧ Fm (fun _ => False) w w' := by
 refine c14 ?_; unfold T14
 refine ao ?_
 intro x2 w1 hx2 hs1 hw1 hf1
 have hw1' : w1.heap[x2]? = some (.cells (rcs rc0 nl nl nl nl nl) 28) := hw1
 clear hw1
 have one0 : ∀ u ∈ (rcs rc0 nl nl nl nl nl).toList, u.oneCell' = true := dA rfl rfl rfl rfl rfl
 have bad : ∀ (w' : World) (e : Int), w'.heap[x2]? = some (.cells (rcs rc0 nl nl nl nl nl) 28) → Fm (fun _ => False) w w' → cA d = (none, 0, e) →
   RunS prog (Instr.build 28 #[]) w' (fun t14_5 w_6 =>
   St 16 w_6 (pv x2) t14_5 fun u_7 w_8 =>
   bU (bF prog (fun j => bif Nat.beq j 2 then pv x2 else bif Nat.beq j 3 then (Value.int .i64 0) else bif Nat.beq j 4 then (Value.int .i64 e) else undef) w_8 [(ResultVar.cell 2 28), (ResultVar.tmp 3), (ResultVar.tmp 4)]) w_8 (fun v w' => ∃ cs, v = .tuple #[.agg cs, iv (cA d).2.1, iv (cA d).2.2] ∧ RdOk w' w.heap.size cs (cA d).1 ∧ Fm (fun _ => False) w w')) := by
  intro w' e hw' hF hr
  refine af (kF _) ?_
  refine aB hw' rfl rfl one0 ?_
  intro w2 hw2 hs2 hf2
  refine rE hw2 rfl _ ⟨_, by rw [hr]; rfl, by rw [hr]; rfl, Fm.own hF hf2 (by rintro y rfl; omega)⟩
 have hb : cA d = (bif decide (d.length < 8) then (none, 0, 40)
  else bif decide (ofN (d.take 4) = 0) || decide (65535 < ofN (d.take 4)) then (none, 0, 41)
  else bif decide (d.length < 8 + ofN (d.take 4)) then (none, 0, 40)
  else bif !decide (ofN ((d.drop 4).take 4) = crc ((d.drop 8).take (ofN (d.take 4)))) then (none, 0, 30)
  else match cg ((d.drop 8).take (ofN (d.take 4))) with
   | none => (none, 0, 41)
   | some x => bif decide ((rCheck x).2 = 0) && decide ((rCheck x).1 = (d.drop 8).take (ofN (d.take 4))) then (some x, 8 + ofN (d.take 4), 0) else (none, 0, 41) : Option Rc × Nat × Int) := rfl
 have d8 : decide ((d.length : Int) < 8) = decide (d.length < 8) := by rw [decide_eq_decide]; omega
 simp only [RS, aj, d8]
 cases h1 : decide (d.length < 8) with
 | true =>
  simp only [RS]
  exact bad w1 40 hw1' hf1 (by rw [hb, h1]; rfl)
 | false =>
 have h8 : 8 ≤ d.length := by rw [decide_eq_false_iff_not] at h1; omega
 have s1 := df (l := d) (i := 4) (by omega) .i64
 have s1' : slS (stv d) none (some (Value.int .i64 4)) = some (stv (d.take 4)) := s1
 simp only [RS, s1']
 refine (cN w1 (d.take 4) (by rw [List.length_take]; omega)).mono ?_
 rintro _ w2 ⟨rfl, rfl⟩
 have hn32 : ofN (d.take 4) < 4294967296 := by
  have := ij 4 (d.take 4) (by rw [List.length_take]; omega)
  rw [bT (by rw [List.length_take]; omega)]
  omega
 rw [h1, cond_false] at hb
 generalize hn : ofN (d.take 4) = n at hb hn32 ⊢
 have e0 : decide ((n : Int) < 1) = decide (n = 0) := by rw [decide_eq_decide]; omega
 have e1 : decide ((65535 : Int) < (n : Int)) = decide (65535 < n) := by rw [decide_eq_decide]; omega
 simp only [RS, e0]
 cases h2 : decide (n = 0) with
 | true =>
  simp only [RS]
  exact bad w2 41 hw1' hf1 (by rw [hb, h2]; rfl)
 | false =>
 simp only [RS, e1]
 cases h3 : decide (65535 < n) with
 | true =>
  simp only [RS]
  exact bad w2 41 hw1' hf1 (by rw [hb, h2, h3]; rfl)
 | false =>
 rw [h2, h3, Bool.or_false, cond_false] at hb
 rw [decide_eq_false_iff_not] at h2 h3
 have e2 : IntKind.i64.wrap (8 + (n : Int)) = ((8 + n : Nat) : Int) := by rw [ab] <;> omega
 have e3 : decide (IntKind.i64.wrap ((d.length : Int) - 8) < (n : Int)) = decide (d.length < 8 + n) := by
  have q : IntKind.i64.wrap ((d.length : Int) - 8) = (d.length : Int) - 8 := by rw [ab] <;> omega
  rw [q, decide_eq_decide]; omega
 simp only [RS, aj, e2, e3]
 cases h4 : decide (d.length < 8 + n) with
 | true =>
  simp only [RS]
  exact bad w2 40 hw1' hf1 (by rw [hb, h4]; rfl)
 | false =>
 rw [h4, cond_false] at hb
 rw [decide_eq_false_iff_not] at h4
 have s2 := cU (l := d) (i := 8) (j := 8 + n) (by omega) (by omega) .i64 .i64
 rw [show 8 + n - 8 = n by omega] at s2
 have s2' : slS (stv d) (some (Value.int .i64 8)) (some (iv ((8 + n : Nat) : Int))) = some (stv ((d.drop 8).take n)) := s2
 have s3 := cU (l := d) (i := 4) (j := 8) (by omega) (by omega) .i64 .i64
 have s3' : slS (stv d) (some (Value.int .i64 4)) (some (Value.int .i64 8)) = some (stv ((d.drop 4).take 4)) := s3
 have hbl : ((d.drop 8).take n).length = n := by rw [List.length_take, List.length_drop]; omega
 simp only [RS, e2, s2', s3']
 generalize hB : (d.drop 8).take n = B at hb hbl ⊢
 refine (cN w2 ((d.drop 4).take 4) (by rw [List.length_take]; omega)).mono ?_
 rintro _ w3 ⟨rfl, rfl⟩
 refine (fE w3 B (by omega)).mono ?_
 rintro _ w4 ⟨rfl, rfl⟩
 obtain ⟨q1, q2⟩ := gr B
 have e4 : decide ((ofN ((d.drop 4).take 4) : Int) = (crc B : Nat)) = decide (ofN ((d.drop 4).take 4) = crc B) := by rw [decide_eq_decide]; omega
 simp only [RS, aV, q2, al, e4]
 cases h5 : decide (ofN ((d.drop 4).take 4) = crc B) with
 | false =>
  simp only [RS, Bool.not_false]
  exact bad w4 30 hw1' hf1 (by rw [hb, h5]; rfl)
 | true =>
 rw [h5, Bool.not_true, cond_false] at hb
 simp only [RS, Bool.not_true]
 have hno41 : (∀ y, Good y → cl y = B → (rCheck y).2 = 0 → False) → cA d = (none, 0, 41) := by
  intro hq
  rw [hb]
  cases ho : cg B with
  | none => rfl
  | some y =>
   simp only
   cases h6 : decide ((rCheck y).2 = 0) && decide ((rCheck y).1 = B) with
   | false => rfl
   | true =>
    rw [Bool.and_eq_true, decide_eq_true_eq, decide_eq_true_eq] at h6
    obtain ⟨g1, _, g3, _⟩ := cG h6.1 (jF ho).lsns
    exact (hq y g1 (g3.symm.trans h6.2) h6.1).elim
 have hyes : ∀ x, Bnd x → (rCheck x).2 = 0 → cl x = B → cA d = (some x, 8 + n, 0) := by
  intro x hbx h6 h7
  obtain ⟨g1, _, g3, _⟩ := cG h6 hbx.lsns
  rw [hb, ← h7, ly g1]
  simp only
  rw [h6, g3, decide_eq_true rfl, decide_eq_true rfl]
  rfl
 refine (nR w4 B (by omega)).mono ?_
 rintro _ w5 ⟨x, vs, vm, vi, vp, vt, ok, rfl, hrow, hbd, htr, hf5⟩
 have hx5 := hf5.heap hw1' (fun e => e)
 have hF5 := Fmf hf1 hf5
 have hz5 := hF5.size
 have hsz : (rcs x vs vm vi vp vt).size = 16 := rfl
 have hone := (hrow.asR hbd).one
 simp only [RS]
 refine ao ?_
 intro x7 w6 hx7 hs6 hw6 hf6
 refine aB hw6 rfl hsz hone ?_
 intro w7 hw7 hs7 hf7
 have hf57 : Fm (fun _ => False) w5 w7 := Fm.own hf6 hf7 (by rintro y rfl; omega)
 have hx7' := hf57.heap hx5 (fun e => e)
 have hF7 := Fmf hF5 hf57
 cases ok with
 | false =>
  simp only [RS, Bool.not_false]
  exact bad w7 41 hx7' hF7 (hno41 fun y hg hy _ => by have := (htr y hg hy).1; simp at this)
 | true =>
 have hr7 := hrow.keep hf57 (fun _ e => e.elim)
 simp only [RS, Bool.not_true, ax hw7 hsz]
 refine (gd (hr7.asR hbd)).mono ?_
 rintro _ w8 ⟨rfl, hf8⟩
 have hx8 := hf8.heap hx7' (fun e => e)
 have hq8 := hf8.heap hw7 (fun e => e)
 have hF8 := Fmf hF7 hf8
 have hr8 := hr7.keep hf8 (fun _ e => e.elim)
 have hz7 := hF7.size
 simp only [RS, al]
 cases h6 : decide ((rCheck x).2 = 0) with
 | false =>
  rw [decide_eq_false_iff_not] at h6
  simp only [RS, Bool.not_false]
  exact bad w8 41 hx8 hF8 (hno41 fun y hg hy hc => by
   have := (htr y hg hy).2
   subst this
   exact h6 hc)
 | true =>
 rw [decide_eq_true_eq] at h6
 obtain ⟨g1, _, g3, _⟩ := cG h6 hbd.lsns
 have hlong : bO x = false := by
  have a1 := g1.data
  have a2 := g1.slots
  have a3 := g1.more
  have a4 := g1.imgs
  have a5 := g1.pages
  have a6 := g1.txns
  simp only [bO, Bool.or_eq_false_iff, decide_eq_false_iff_not]
  omega
 simp only [RS, Bool.not_true, ax hq8 hsz]
 refine (fY (hr8.asR hbd) hlong g1.img).mono ?_
 rintro _ w9 ⟨rfl, hf9⟩
 have hx9 := hf9.heap hx8 (fun e => e)
 have hq9 := hf9.heap hq8 (fun e => e)
 have hF9 := Fmf hF8 hf9
 have hr9 := hr8.keep hf9 (fun _ e => e.elim)
 have hz8 := hF8.size
 simp only [RS, aD, al]
 cases h7 : decide (cl x = B) with
 | false =>
  rw [decide_eq_false_iff_not] at h7
  simp only [RS, Bool.not_false]
  exact bad w9 41 hx9 hF9 (hno41 fun y hg hy hc => by
   have := (htr y hg hy).2
   subst this
   exact h7 hy)
 | true =>
 rw [decide_eq_true_eq] at h7
 have hD := hyes x hbd h6 h7
 simp only [RS, Bool.not_true, ax hq9 hsz, e2]
 refine aB hx9 rfl rfl hone ?_
 intro wA hwA hsA hfA
 refine rE hwA rfl _ ⟨_, by rw [hD], ?_, Fm.own hF9 hfA (by rintro y rfl; omega)⟩
 rw [hD]
 have hwsz : w.heap.size ≤ w4.heap.size := hf1.size
 have b9 : ∀ {e1 : TypeId} {s1 : Nat} {v1 : Value} {n1 : Nat} {y1 : List Value}, wA.ownsRow w4.heap.size e1 s1 v1 n1 y1 → wA.ownsRow w.heap.size e1 s1 v1 n1 y1 := fun hh => aW hh hwsz
 have hrA := hr9.keep hfA (fun y e => by omega)
 obtain ⟨X, hX1, hX2, hX3⟩ := hrA.hi
 exact ⟨vs, vm, vi, vp, vt, rfl, ⟨b9 hrA.hs, b9 hrA.hm, ⟨X, hX1, b9 hX2, fun x hx => ⟨(hX3 x hx).1, b9 (hX3 x hx).2.1, (hX3 x hx).2.2⟩⟩, b9 hrA.hp, b9 hrA.ht⟩, hbd⟩
def Str (L : Lg) : Prop := ∀ p ∈ L.recs, ∃ t, L.kept.drop (p.1.toNat - L.base) = (rEnc p.2).1 ++ t
theorem Str.append {L : Lg} (h : Str L) (hw : L.Wf) (r : Rc) : Str (L.append r).1 := by
 have ht : L.tail = L.base + L.kept.length := rfl
 by_cases hc : (rCheck (atR r L.tail)).2 = 0
 ·by_cases hr : L.room < ((rEnc (atR r L.tail)).1.length : Int)
  ·have : L.append r = (L, 0, 50) := by unfold Lg.append; rw [decide_eq_true hc, decide_eq_true hr]; rfl
   rw [this]; exact h
  ·rw [nw hw hc hr]
   intro p hp
   rcases List.mem_append.1 hp with hp | hp
   ·obtain ⟨t, e⟩ := h p hp
    have hb := (hw.ok p hp).2.2.2
    refine ⟨t ++ (rEnc (atR r L.tail)).1, ?_⟩
    show (L.kept ++ (rEnc (atR r L.tail)).1).drop (p.1.toNat - L.base) = _
    rw [List.drop_append_of_le_length (by omega), e, List.append_assoc]
   ·simp at hp
    subst hp
    refine ⟨[], ?_⟩
    show (L.kept ++ (rEnc (atR r L.tail)).1).drop (Int.toNat (L.tail : Int) - L.base) = _
    rw [Int.toNat_natCast, show L.tail - L.base = L.kept.length by omega, List.drop_left, List.append_nil]
 ·have : L.append r = (L, 0, (rCheck (atR r L.tail)).2) := by unfold Lg.append; rw [decide_eq_false hc]; rfl
  rw [this]; exact h
theorem Str.recycle {L : Lg} (h : Str L) (hw : L.Wf) (b : Int) : Str (L.recycle b).1 := by
 unfold Lg.recycle
 cases hc : decide (b < (L.start : Int)) || (decide ((L.last : Int) < b) || ((getD L.recs b).isNone && !decide (b = (L.tail : Int)))) with
 | true => exact h
 | false =>
  rw [Bool.or_eq_false_iff, decide_eq_false_iff_not] at hc
  have h1 := hw.st
  have hbn := Lg.baseOf_le (b := b.toNat) (by omega)
  have hbase : L.base ≤ Lg.baseOf b.toNat := by rw [hw.bs]; unfold Lg.baseOf; omega
  intro p hp
  obtain ⟨hp1, hp2⟩ := List.mem_filter.1 hp
  rw [decide_eq_true_eq] at hp2
  obtain ⟨t, e⟩ := h p hp1
  refine ⟨t, ?_⟩
  show (L.kept.drop (Lg.baseOf b.toNat - L.base)).drop (p.1.toNat - Lg.baseOf b.toNat) = _
  rw [List.drop_drop, ← e]
  congr 1
  omega
theorem Str.of {L L' : Lg} (h : Str L) (e1 : L'.kept = L.kept) (e2 : L'.base = L.base) (e3 : L'.recs = L.recs) : Str L' := by
 unfold Str
 rw [e1, e2, e3]; exact h
theorem jO {D : List (Int × Rc)} {n : Int} {r : Rc} (h : getD D n = some r) : (n, r) ∈ D := by
 unfold getD at h
 rw [Option.map_eq_some_iff] at h
 obtain ⟨p, hp, rfl⟩ := h
 have h1 := List.find?_some hp
 rw [decide_eq_true_eq] at h1
 rw [← h1]
 exact List.mem_of_find?_eq_some hp
section
variable {w w' : World} {S : Nat → Prop} {b0 lb db : Nat} {v : Value} {L L' : Lg}
theorem uW {w : World} {g : Nat} {cs : Array Value} {e : Value} (h : w.heap[g]? = some (.cells cs 28)) (hn : cs.size = 16) {k : KV} (hk : k (.tuple #[.agg cs, e]) w) :
  bU (bF prog (fun j => bif Nat.beq j 4 then pv g else bif Nat.beq j 5 then e else undef) w [(ResultVar.cell 4 28), (ResultVar.tmp 5)]) w k := by
 have h3 : lR prog (fun j => bif Nat.beq j 4 then pv g else bif Nat.beq j 5 then e else undef) w (.tmp 5) = some e := rfl
 simp only [bF, di (f := (fun j => bif Nat.beq j 4 then pv g else bif Nat.beq j 5 then e else undef)) (a := 4) rfl mq gW h hn, h3, bU, oH]
 exact hk
theorem om (h : RL w b0 lb db v L) (hs : Str L) (n : Int) : Cl prog 70 [pv lb, iv n] w fun r w' => Fm (fun _ => False) w w' ∧
  ((getD L.recs n = none ∧ r = .tuple #[.agg (rcs rc0 nl nl nl nl nl), iv 51]) ∨ ∃ x cs, getD L.recs n = some x ∧ r = .tuple #[.agg cs, iv 0] ∧ RcAs w' cs x) := by
 have h1 := h.wf.st; have h2 := h.wf.low; have h4 := h.wf.bs
 have hbo := Lg.baseOf_le h1.1
 rw [← h4] at hbo
 have ht : L.tail = L.base + L.kept.length := rfl
 have hcn := h.cnt
 refine c70 ?_; unfold T70
 refine ao ?_
 intro x1 w1 hx1 hs1 hw1 hf1
 have hr1 := h.keep0 hf1
 simp only [RS]
 refine (fD hr1 n).mono ?_
 rintro _ w1 ⟨rfl, rfl⟩
 have one0 : ∀ u ∈ (rcs rc0 nl nl nl nl nl).toList, u.oneCell' = true := dA rfl rfl rfl rfl rfl
 cases hg : getD L.recs n with
 | none =>
  simp only [RS, Option.isNone_none, Bool.not_true, Bool.not_false]
  refine af (kF _) ?_
  refine aB hw1 rfl rfl one0 ?_
  intro w2 hw2 hs2 hf2
  exact uW hw2 rfl ⟨Fm.own hf1 hf2 (by rintro y rfl; omega), (.inl ⟨(by trivial), (by trivial)⟩)⟩
 | some x =>
  simp only [RS, Option.isNone_some, Bool.not_true, Bool.not_false]
  have hmem := jO hg
  obtain ⟨k1, k2, k3, k4, k5⟩ := h.wf.ok _ hmem
  obtain ⟨t, ht2⟩ := hs _ hmem
  obtain ⟨m, rfl⟩ := Int.eq_ofNat_of_zero_le (show 0 ≤ n by omega)
  simp only [Int.toNat_natCast] at ht2 k4 k5
  have hdec := gB k2 k3 t
  rw [← ht2] at hdec
  have e1 : IntKind.i64.wrap ((m : Int) - (L.base : Int)) = ((m - L.base : Nat) : Int) := by rw [ab] <;> omega
  have e2 := cQ (l := L.kept) (i := m - L.base) (by omega) .i64
  have hfd := Fm.drew (fun _ => False) w1
  have hdl : (L.kept.drop (m - L.base)).length ≤ 1000000000000000 := by rw [List.length_drop]; omega
  refine bG (fun vs w' => ∃ x6 bb vs_ vm vi vp vt, vs = [pv x6] ∧ w'.heap[x6]? = some (.cells (rcs x vs_ vm vi vp vt) 28) ∧ Rows w' bb x vs_ vm vi vp vt ∧ Bnd x ∧ x1 < bb ∧ w'.heap[x1]? = some (.cells (rcs rc0 nl nl nl nl nl) 28) ∧ Fm (fun _ => False) w w') ?_ ?_
  ·rintro _ w5 ⟨x6, bb, vs_, vm, vi, vp, vt, rfl, hw6, hrw, hbd, hlt, hw5, hF5⟩ _
   refine ⟨_, rfl, ?_⟩
   simp only [RS, ax hw6 (show (rcs x vs_ vm vi vp vt).size = 16 from rfl)]
   refine aB hw5 rfl rfl hrw.one ?_
   intro w7 hw7 hs7 hf7
   have hrw7 := hrw.keep hf7 (by rintro y rfl; exact hlt)
   exact uW hw7 rfl ⟨Fm.own hF5 hf7 (by rintro y rfl; omega), .inr ⟨x, _, rfl, rfl, hrw7.asR hbd⟩⟩
  ·intro jj hjj
   refine ⟨fun w' => Fm (fun _ => False) w1 w', hfd, ?_⟩
   simp only [RS]
   refine ⟨stv L.kept, fun w' h' => ?_, ?_⟩
   ·simp only [RS, (hr1.keep0 h').c4] <;> trivial
   refine ⟨iv (L.base : Int), fun w' h' => ?_, ?_⟩
   ·simp only [RS, (hr1.keep0 h').c3] <;> trivial
   have hx1l := aq hw1
   simp only [RS, e1, e2]
   refine ⟨?_, ?_, trivial⟩
   ·refine (fW w1.drew _ hdl).mono ?_
    rintro _ w3 ⟨cs, rfl, hO3, hf3⟩
    rw [hdec] at hO3 ⊢
    obtain ⟨vs_, vm, vi, vp, vt, rfl, hrw, hbd⟩ := hO3
    simp only [RS]
    refine ao ?_
    intro x6 w4 hx6 hs4 hw4 hf4
    refine aB hw4 rfl rfl hrw.one ?_
    intro w5 hw5 hs5 hf5
    have hF35 : Fm (fun _ => False) w3 w5 := Fm.own hf4 hf5 (by rintro y rfl; omega)
    have hF5 := Fmf (Fmf hfd hf3) hF35
    exact hjj _ _ ⟨x6, _, _, _, _, _, _, rfl, hw5, hrw.keep hF35 (fun _ e => e.elim), hbd, hx1l, hF5.heap hw1 (fun e => e), Fmf hf1 hF5⟩
   ·refine ao ?_
    intro x6 w4 hx6 hs4 hw4 hf4
    have hF4 := Fmf hfd hf4
    refine ⟨hF4, ?_⟩
    refine (fW w4 _ hdl).mono ?_
    rintro _ w5 ⟨cs, rfl, hO5, hf5⟩
    rw [hdec] at hO5 ⊢
    obtain ⟨vs_, vm, vi, vp, vt, rfl, hrw, hbd⟩ := hO5
    have hx6l := aq hw4
    have z1 : w1.drew.heap.size = w1.heap.size := rfl
    simp only [RS]
    refine aB (hf5.heap hw4 (fun e => e)) rfl rfl hrw.one ?_
    intro w6 hw6 hs6 hf6
    have hF6 : Fm (fun _ => False) w1 w6 := Fm.own (Fmf hF4 hf5) hf6 (by rintro y rfl; omega)
    exact hjj _ _ ⟨x6, _, _, _, _, _, _, rfl, hw6, hrw.keep hf6 (by rintro y rfl; exact hx6l), hbd, by omega, hF6.heap hw1 (fun e => e), Fmf hf1 hF6⟩
end
theorem uU (a b : Nat) : eX (.int .i64 (a : Int)) (.int .i64 (b : Int)) = some (.int .i64 ((min a b : Nat) : Int)) := by
 show some (Value.int .i64 (if (b : Int) < (a : Int) then (b : Int) else (a : Int))) = _
 congr 2
 split <;> omega
theorem lB (w : World) {s : Bs} (hs : s.length = 64) {k : Nat} (hk : k + 1 ≤ 9223372036854775807) : Cl prog 195 [stv s, iv (k : Int)] w fun v w' => v = stv (opened s k) ∧ Fm (fun _ => False) w w' := by
 have e0 : IntKind.i64.wrap ((k : Int) + 1) = ((k + 1 : Nat) : Int) := by rw [ab] <;> omega
 have e0' := bC (TypeDesc.int .i64) (n := k + 1) (m := 4294967296) (by omega) hk (b := 4294967296) rfl
 have hm := Nat.mod_lt (k + 1) (show 0 < 4294967296 by omega)
 refine c195 ?_; unfold T195
 simp only [RS, e0, e0']
 refine (bk w (n := ((k + 1) % 4294967296 : Nat)) (by constructor <;> omega) 4).mono ?_
 rintro _ w1 ⟨rfl, hf1⟩
 have hbig : fg (((k + 1) % 4294967296 : Nat) : Int) 4 = fI k := bB (n := (k + 1) % 4294967296) (w := 4) (by omega) (by omega)
 rw [hbig]
 have e4 : slS (stv s) none (some (Value.int .i64 4)) = some (stv (s.take 4)) := df (i := 4) (by omega) .i64
 have e60 : slS (stv s) (some (Value.int .i64 60)) none = some (stv (s.drop 60)) := cQ (i := 60) (by omega) .i64
 unfold opened
 simp only [RS, e4, aD, al]
 cases q1 : decide (s.take 4 = fI k) with
 | false =>
  simp only [RS, Bool.not_false, Bool.false_and, cond_false]
  exact ⟨(by trivial), hf1⟩
 | true =>
 simp only [RS, Bool.not_true, e60, aD, al]
 cases q2 : decide (s.drop 60 = fI k) with
 | false =>
  simp only [RS, Bool.not_false, Bool.and_false, cond_false]
  exact ⟨(by trivial), hf1⟩
 | true =>
 have i4 : ixS (stv s) (Value.int .i64 4) = some (.int .u8 (((s.getD 4 0).toNat : Nat) : Int)) := bI (k := 4) (by omega)
 have i59 : ixS (stv s) (Value.int .i64 59) = some (.int .u8 (((s.getD 59 0).toNat : Nat) : Int)) := bI (k := 59) (by omega)
 have b4 : (s.getD 4 0).toNat < 256 := UInt8.toNat_lt _
 have b59 : (s.getD 59 0).toNat < 256 := UInt8.toNat_lt _
 generalize (s.getD 4 0).toNat = n4 at i4 b4
 generalize (s.getD 59 0).toNat = n59 at i59 b59
 have c4 : IntKind.i64.wrap ((n4 : Nat) : Int) = (n4 : Int) := by rw [ab]; omega
 have c59 : IntKind.i64.wrap ((n59 : Nat) : Int) = (n59 : Int) := by rw [ab]; omega
 have ef : aU eX [iv (n4 : Int), iv (n59 : Int), Value.int .i64 54] = some (iv ((min (min n4 n59) 54 : Nat) : Int)) := by
  simp only [aU, fO, uU, Option.bind_some]
  rw [show (Value.int .i64 54) = .int .i64 ((54 : Nat) : Int) from rfl, uU]
  rfl
 have e6 : IntKind.i64.wrap (5 + ((min (min n4 n59) 54 : Nat) : Int)) = ((5 + min (min n4 n59) 54 : Nat) : Int) := by rw [ab] <;> omega
 have e7 := cU (l := s) (i := 5) (j := 5 + min (min n4 n59) 54) (by omega) (by omega) .i64 .i64
 rw [show 5 + min (min n4 n59) 54 - 5 = min (min n4 n59) 54 by omega] at e7
 have e7' : slS (stv s) (some (Value.int .i64 5)) (some (iv ((5 + min (min n4 n59) 54 : Nat) : Int))) = some (stv ((s.drop 5).take (min (min n4 n59) 54))) := e7
 simp only [RS, Bool.not_true, i4, i59, aV, c4, c59, ef, e6, e7', cond_true, Bool.and_self]
 exact ⟨(by trivial), Fmf hf1 (Fm.drew _ _)⟩
section
variable {w w' : World} {S : Nat → Prop} {lb db : Nat} {L : Lg} {q : DkL} {d : Dk}
def Hd (w : World) (lb db : Nat) (frm n : Nat) : Prop := w.cell? ⟨lb, 0, none⟩ = some (pv db) ∧ w.cell? ⟨lb, 1, none⟩ = some (iv (frm : Int)) ∧ w.cell? ⟨lb, 2, none⟩ = some (iv (n : Int))
theorem Hd.keep {frm n : Nat} {cs : Array Value} {z : Value} (h : w.heap[lb]? = some (.cells cs 167)) (hd : Hd w lb db frm n) (hf : Fm S w w') (hs : ¬ S lb) : Hd w' lb db frm n := by
 have h' := hf.heap h hs
 obtain ⟨a, b, c⟩ := hd
 rw [ag h] at a b c
 exact ⟨by rw [ag h']; exact a, by rw [ag h']; exact b, by rw [ag h']; exact c⟩
theorem oq {frm n : Nat} (h : Hd w lb db frm n) (h1 : frm + n ≤ 65536) (h2 : 4 ≤ n) {k : Nat} (hk : k ≤ 9223372036854775807) : Cl prog 136 [pv lb, iv (k : Int)] w fun r w' => r = iv ((frm + k % n : Nat) : Int) ∧ Fm (fun _ => False) w w' := by
 have e1 := bC (TypeDesc.int .i64) (n := k) (m := n) (by omega) hk (b := (n : Int)) rfl
 have hm := Nat.mod_lt k (show 0 < n by omega)
 have e2 : IntKind.i64.wrap ((frm : Int) + ((k % n : Nat) : Int)) = ((frm + k % n : Nat) : Int) := by rw [ab] <;> omega
 refine c136 ?_; unfold T136
 simp only [RS, h.2.1, h.2.2, e1, e2, true_and]
 exact Fm.drew _ _
end
theorem kW {w : World} {lb db frm n : Nat} {cs : Array Value} {q : DkL} {d : Dk} (hc : w.heap[lb]? = some (.cells cs 167)) (hh : Hd w lb db frm n) (h1 : frm + n ≤ 65536) (h2 : 4 ≤ n) (hd : DkAt w db q d) (hw : d.Wf) {start : Nat} (hs : 1 ≤ start) (hs2 : start ≤ 9223372036854775807) :
  Cl prog 143 [pv lb, iv (start : Int)] w fun v w' => v = .tuple #[stv (aC d frm n ((start - 1) / 54) n 0 []).1, iv (aC d frm n ((start - 1) / 54) n 0 []).2] ∧ Fm (fun _ => False) w w' := by
 have a1 : IntKind.i64.wrap ((start : Int) - 1) = ((start - 1 : Nat) : Int) := by rw [ab] <;> omega
 have a2 := cu (TypeDesc.int .i64) (n := start - 1) (m := 54) (by decide) (by omega) (b := 54) rfl
 refine c143 ?_; unfold T143
 simp only [RS, a1, a2]
 have hk : (start - 1) / 54 ≤ 200000000000000000 := by omega
 generalize (start - 1) / 54 = k at hk
 refine bG (fun vs w2 => vs = [stv (aC d frm n k n 0 []).1] ∧ (aC d frm n k n 0 []).2 = 0 ∧ Fm (fun _ => False) w w2) ?_ ?_
 ·rintro _ w2 ⟨rfl, q1, q3⟩ _
  exact ⟨_, rfl, by rw [q1], q3⟩
 intro kk hkk
 refine ⟨fun vs w' => ∃ (i : Nat) (out : Bs), vs = [stv out, iv (i : Int)] ∧ i ≤ n ∧ out.length ≤ 54 * i ∧ Fm (fun _ => False) w w' ∧ aC d frm n k (n - i) i out = aC d frm n k n 0 [],
  fun vs _ => (n - nth vs 1).toNat, ⟨0, [], rfl, by omega, by simp, Fm.refl _ _, rfl⟩, ?_⟩
 rintro _ w3 ov ivv ⟨i, out, hvs, hin, hol, hF3, hgo⟩
 cases hvs
 have hh3 := Hd.keep (z := undef) hc hh hF3 (fun e => e)
 have hc3 := hF3.heap hc (fun e => e)
 by_cases hlt : i < n
 ·have d1 : decide ((i : Int) < (n : Int)) = true := by rw [decide_eq_true_eq]; omega
  have e1 : IntKind.i64.wrap ((k : Int) + (i : Int)) = ((k + i : Nat) : Int) := by rw [ab] <;> omega
  have e2 : IntKind.i64.wrap ((i : Int) + 1) = ((i + 1 : Nat) : Int) := by rw [ab] <;> omega
  have hsub : n - i = (n - (i + 1)) + 1 := by omega
  rw [hsub, aC] at hgo
  have hfd := Fm.drew (fun _ => False) w3
  simp only [RS, hh3.2.2, d1]
  refine ⟨fun w' => Fm (fun _ => False) w3 w', hfd, ?_⟩
  refine ⟨pv db, fun w' h' => ?_, ?_⟩
  ·simp only [RS, (Hd.keep (z := undef) hc3 hh3 h' (fun e => e)).1] <;> trivial
  simp only [RS, e1]
  refine (oq (Hd.keep (z := undef) hc3 hh3 hfd (fun e => e)) h1 h2 (k := k + i) (by omega)).mono ?_
  rintro _ w4 ⟨rfl, hf4⟩
  have hF4 := Fmf hfd hf4
  refine ⟨hF4, ?_⟩
  refine (eU ((hd.keep0 hF3).keep0 hF4) hw _ 1).mono ?_
  rintro _ w5 ⟨rfl, hf5⟩
  have hF5 := Fmf hF3 (Fmf hF4 hf5)
  have hrl := jY hw (a := ((frm + (k + i) % n : Nat) : Int))
  generalize d.read ((frm + (k + i) % n : Nat) : Int) 1 = rd at hgo hrl
  simp only [RS, al]
  cases hz : decide (rd.2 = 0) with
  | false =>
   rw [hz, cond_false] at hgo
   rw [← hgo]
   simp only [RS, Bool.not_false]
   exact ⟨(by trivial), hF5⟩
  | true =>
  rw [hz, cond_true] at hgo
  rw [decide_eq_true_eq] at hz
  simp only [RS, Bool.not_true, e1]
  refine (lB w5 (hrl hz) (k := k + i) (by omega)).mono ?_
  rintro _ w6 ⟨rfl, hf6⟩
  have hF6 := Fmf hF5 hf6
  have hoL := fR rd.1 (k + i)
  generalize opened rd.1 (k + i) = t at hgo hoL
  have e6 : decide ((t.length : Int) < 54) = decide (t.length < 54) := by rw [decide_eq_decide]; omega
  simp only [RS]
  rw [dL (by omega)]
  simp only [RS, aj, e6]
  cases hq : decide (t.length < 54) with
  | true =>
   rw [hq, cond_true] at hgo
   rw [← hgo] at hkk
   simp only [RS]
   exact hkk _ _ ⟨rfl, rfl, hF6⟩
  | false =>
   rw [hq, cond_false] at hgo
   simp only [RS, e2]
   exact ⟨⟨i + 1, out ++ t, rfl, by omega, by rw [List.length_append]; omega, hF6, hgo⟩, by simp only [bM]; omega⟩
 ·have hie : i = n := by omega
  subst hie
  have d1 : decide ((i : Int) < (i : Int)) = false := by simp
  rw [Nat.sub_self, aC] at hgo
  rw [← hgo] at hkk
  simp only [RS, hh3.2.2, d1]
  exact hkk _ _ ⟨rfl, rfl, hF3⟩
def fJ (n : Nat) : Nat → Nat → Nat → Bool
 | 0, _, _ => false
 | f + 1, k, i => decide (k % n = i) || fJ n f (k + 1) i
theorem pM (n i : Nat) : ∀ (f k : Nat) (W : List Bs), i < W.length → (clr n f k W)[i]? = bif fJ n f k i then some [] else W[i]?
 | 0, k, W, h => rfl
 | f + 1, k, W, h => by
  rw [clr, pM n i f (k + 1) _ (by simpa using h), fJ]
  by_cases hk : k % n = i
  ·rw [decide_eq_true hk, Bool.true_or, cond_true, List.getElem?_set, if_pos hk]
   rw [if_pos (by omega)]
   cases fJ n f (k + 1) i <;> rfl
  ·rw [decide_eq_false hk, Bool.false_or, List.getElem?_set_ne hk]
theorem iP {L : Lg} (h : L.Wf) : L.base ≤ L.lastB * 54 + 1 ∧ L.lastB * 54 + 1 ≤ L.tail ∧ (L.bytes L.lastB = [] ↔ (L.tail - 1) % 54 = 0) := by
 have h1 := h.st; have h4 := h.bs
 have hbo := Lg.baseOf_le h1.1
 rw [← h4] at hbo
 have ht : L.tail = L.base + L.kept.length := rfl
 have hb : L.base ≤ L.lastB * 54 + 1 := by rw [h4]; unfold Lg.baseOf Lg.lastB; omega
 have hb2 : L.lastB * 54 + 1 ≤ L.tail := by unfold Lg.lastB; omega
 refine ⟨hb, hb2, ?_⟩
 have hl : (L.bytes L.lastB).length = min 54 (L.tail - (L.lastB * 54 + 1)) := by
  unfold Lg.bytes
  rw [List.length_take, List.length_drop]; omega
 have hm : L.tail - (L.lastB * 54 + 1) = (L.tail - 1) % 54 := by unfold Lg.lastB; omega
 rw [← List.length_eq_zero_iff, hl, hm]
 omega
theorem tJ {L : Lg} (h : L.Wf) {i : Nat} (hi : i < L.n) : L.want[i]? = some (bif decide (L.lastB % L.n = i) && !decide ((L.tail - 1) % 54 = 0) then bd L.lastB (L.bytes L.lastB) else bif fJ L.n (L.lastB - (L.start - 1) / 54) ((L.start - 1) / 54) i then [] else Dk.zsec) := by
 have hw1 : L.want1[i]? = bif fJ L.n (L.lastB - (L.start - 1) / 54) ((L.start - 1) / 54) i then some [] else some Dk.zsec := by
  unfold Lg.want1
  rw [pM _ _ _ _ _ (by simpa using hi)]
  simp [hi]
 have hw1l : L.want1.length = L.n := by unfold Lg.want1; rw [lW]; simp
 have hb := (iP h).2.2
 unfold Lg.want
 by_cases hz : (L.tail - 1) % 54 = 0
 ·rw [decide_eq_true (hb.2 hz), cond_true, hw1, decide_eq_true hz, Bool.not_true, Bool.and_false, cond_false]
  cases fJ L.n (L.lastB - (L.start - 1) / 54) ((L.start - 1) / 54) i <;> rfl
 ·rw [decide_eq_false (fun e => hz (hb.1 e)), cond_false, decide_eq_false hz, Bool.not_false, Bool.and_true]
  by_cases hj : L.lastB % L.n = i
  ·rw [decide_eq_true hj, cond_true, List.getElem?_set, if_pos hj, if_pos (by omega)]
  ·rw [decide_eq_false hj, cond_false, List.getElem?_set_ne hj, hw1]
   cases fJ L.n (L.lastB - (L.start - 1) / 54) ((L.start - 1) / 54) i <;> rfl
theorem tr (k : Nat) (b : Bs) : bd k b ≠ [] := by
 unfold bd fI
 intro e
 have := congrArg List.length e
 rw [List.length_append, aw] at this
 simp at this
section
variable {w w' : World} {S : Nat → Prop} {b0 lb db : Nat} {v : Value} {L L' : Lg} {q : DkL} {d : Dk}
theorem xx (a b : Bs) : aa TypeDesc.string .eql (stv a) (stv b) = some (.bool (decide (a = b))) := by
 simp only [RS, aD]
theorem mh (h : RL w b0 lb db v L) (hd : DkAt w db q d) (hdw : d.Wf) (hX : ∀ y, RL.mine lb v y → ¬ q.mine db y) :
  Cl prog 144 [pv lb] w fun r w' => r = iv (L.wipe d).2 ∧ RL w' b0 lb db v L ∧ DkAt w' db q (L.wipe d).1 ∧ Fm (q.mine db) w w' := by
 have h1 := h.wf.st; have h2 := h.wf.low; have h4 := h.wf.bs; have h5 := h.wf.big; have h6 := h.wf.n4; have h7 := h.wf.small
 have hbo := Lg.baseOf_le h1.1
 rw [← h4] at hbo
 have ht : L.tail = L.base + L.kept.length := rfl
 obtain ⟨bl1, bl2, bl3⟩ := iP h.wf
 have hwl := jX L
 have up : ∀ {a b : World}, Fm (fun _ => False) a b → Fm (q.mine db) a b := fun hf => hf.mono (fun _ _ e => e.elim)
 refine c144 ?_; unfold T144
 refine (bZ h).mono ?_
 rintro _ w1 ⟨rfl, hf1⟩
 have hr1 := h.keep0 hf1
 have a1 : IntKind.i64.wrap ((L.start : Int) - 1) = ((L.start - 1 : Nat) : Int) := by rw [ab] <;> omega
 have a2 := cu (TypeDesc.int .i64) (n := L.start - 1) (m := 54) (by decide) (by omega) (b := 54) rfl
 have a3 : IntKind.i64.wrap ((L.tail : Int) - 1) = ((L.tail - 1 : Nat) : Int) := by rw [ab] <;> omega
 have a4 := cu (TypeDesc.int .i64) (n := L.tail - 1) (m := 54) (by decide) (by omega) (b := 54) rfl
 have a5 := bC (TypeDesc.int .i64) (n := L.tail - 1) (m := 54) (by decide) (by omega) (b := 54) rfl
 have hlB : (L.tail - 1) / 54 = L.lastB := rfl
 simp only [RS, hr1.c5, a1, a2, a3, a4]
 rw [hlB]
 have hfl : (L.start - 1) / 54 ≤ L.lastB := by unfold Lg.lastB; omega
 have hlbb : L.lastB ≤ 200000000000000000 := by unfold Lg.lastB; omega
 refine ⟨fun vs w' => ∃ (i : Nat) (wr : Bool) (e : Dk), vs = [.bool wr, iv (i : Int)] ∧ i ≤ L.n ∧ RL w' b0 lb db v L ∧ DkAt w' db q e ∧ e.Wf ∧ Fm (q.mine db) w w' ∧ cC L.frm (L.want.drop i) i wr e = L.wipeR d,
  fun vs _ => (L.n - nth vs 1).toNat, ⟨0, false, d, rfl, by omega, hr1, hd.keep0 hf1, hdw, up hf1, rfl⟩, ?_⟩
 rintro _ w2 wrv ivv ⟨i, wr, e, hvs, hi, hr2, hd2, hw2, hF2, hgo⟩
 cases hvs
 by_cases hlt : i < L.n
 rotate_left
 ·have hie : i = L.n := by omega
  subst hie
  have d1 : decide (((L.n : Nat) : Int) < (L.n : Int)) = false := by simp
  rw [List.drop_eq_nil_of_le (by omega), cC] at hgo
  have hok := pL hgo.symm
  simp only [RS, hr2.c2, d1]
  cases wr with
  | true =>
   rw [cond_true] at hok
   simp only [RS, hr2.c0]
   refine (fa hd2 hw2).mono ?_
   rintro _ w3 ⟨rfl, hd3, hf3⟩
   rw [hok]
   exact ⟨(by trivial), hr2.keep hf3 hX, hd3, hF2.trans hf3 (fun _ _ e => e) (fun _ _ e => e)⟩
  | false =>
   rw [cond_false] at hok
   rw [hok]
   simp only [RS]
   exact ⟨(by trivial), hr2, hd2, hF2⟩
 have d1 : decide ((i : Int) < (L.n : Int)) = true := by rw [decide_eq_true_eq]; omega
 have ei : IntKind.i64.wrap ((i : Int) + 1) = ((i + 1 : Nat) : Int) := by rw [ab] <;> omega
 have hwi := tJ h.wf hlt
 have hdrop : L.want.drop i = (bif decide (L.lastB % L.n = i) && !decide ((L.tail - 1) % 54 = 0) then bd L.lastB (L.bytes L.lastB) else bif fJ L.n (L.lastB - (L.start - 1) / 54) ((L.start - 1) / 54) i then [] else Dk.zsec) :: L.want.drop (i + 1) := by
  rw [List.drop_eq_getElem_cons (by omega)]
  congr 1
  rw [List.getElem?_eq_getElem (by omega)] at hwi
  exact Option.some.inj hwi
 rw [hdrop] at hgo
 clear hdrop hwi
 simp only [RS, hr2.c2, d1]
 refine bG (fun vs w3 => ∃ (wr : Bool) (e : Dk), vs = [.bool wr] ∧ RL w3 b0 lb db v L ∧ DkAt w3 db q e ∧ e.Wf ∧ Fm (q.mine db) w w3 ∧ cC L.frm (L.want.drop (i + 1)) (i + 1) wr e = L.wipeR d) ?_ ?_
 ·rintro _ w3 ⟨wr', e', rfl, k1, k2, k3, k4, k5⟩ _
  refine ⟨_, rfl, ?_⟩
  simp only [RS, ei]
  exact ⟨⟨i + 1, wr', e', rfl, by omega, k1, k2, k3, k4, k5⟩, by simp only [bM]; omega⟩
 intro jj hjj
 refine af (BRow.make B44 w2 64 (by omega)) ?_
 have hf3 := Fm.alloc (fun _ => False) w2 (.cells (bc (List.replicate 64 0)).toArray 5)
 have hb3 : BRow (w2.alloc (.cells (bc (List.replicate 64 0)).toArray 5)) w2.heap.size 5 (List.replicate 64 0) := az _ _
 generalize w2.alloc (.cells (bc (List.replicate 64 0)).toArray 5) = w3 at hf3 hb3
 refine af (hb3.conv B44 (o := 0) (n := 64) (by simp) _) ?_
 rw [show (((List.replicate 64 0).drop 0).take 64 : Bs) = Dk.zsec from rfl]
 generalize hkB : fJ L.n (L.lastB - (L.start - 1) / 54) ((L.start - 1) / 54) i = kB at hgo
 refine ⟨fun vs w' => ∃ (k : Nat) (kp : Bool), vs = [.bool kp, iv (k : Int)] ∧ k ≤ L.lastB ∧ (kp || fJ L.n (L.lastB - k) k i) = kB ∧ Fm (fun _ => False) w2 w', fun vs _ => (L.lastB - nth vs 1).toNat, ⟨(L.start - 1) / 54, false, rfl, hfl, by rw [Bool.false_or]; exact hkB, hf3⟩, ?_⟩
 clear hf3 hb3 hkB w3
 rintro _ w3 kpv kvv ⟨k, kp, hvs, hkl, hkp, hf3⟩
 cases hvs
 have hr3 := hr2.keep0 hf3
 by_cases hk : k < L.lastB
 ·have d2 : decide ((k : Int) < (L.lastB : Int)) = true := by rw [decide_eq_true_eq]; omega
  have e2 : IntKind.i64.wrap ((k : Int) + 1) = ((k + 1 : Nat) : Int) := by rw [ab] <;> omega
  have e3 : IntKind.i64.wrap ((L.frm : Int) + (i : Int)) = ((L.frm + i : Nat) : Int) := by rw [ab] <;> omega
  have hfd := Fm.drew (fun _ => False) w3
  obtain ⟨f, hf⟩ : ∃ f, L.lastB - k = f + 1 := ⟨L.lastB - k - 1, by omega⟩
  rw [hf, fJ] at hkp
  have hf' : L.lastB - (k + 1) = f := by omega
  simp only [RS, d2]
  refine ⟨fun w' => Fm (fun _ => False) w3 w', hfd, ?_⟩
  cases kp with
  | true =>
   simp only [RS]
   refine ⟨undef, fun w' h' => ?_, ?_⟩
   ·simp only [RS] <;> trivial
   simp only [RS, e2]
   refine ⟨hfd, ⟨k + 1, true, rfl, by omega, by rw [Bool.true_or] at hkp ⊢; exact hkp, Fmf hf3 hfd⟩, by simp only [bM]; omega⟩
  | false =>
   simp only [RS]
   refine ⟨iv (L.frm : Int), fun w' h' => ?_, ?_⟩
   ·simp only [RS, (hr3.keep0 h').c1] <;> trivial
   simp only [RS, e3]
   refine (ix (hr3.keep0 hfd) (k := k) (by omega)).mono ?_
   rintro _ w4 ⟨rfl, hf4⟩
   have hF4 := Fmf hfd hf4
   refine ⟨hF4, ?_⟩
   have e4 : ((((L.frm + k % L.n : Nat) : Int)) == ((L.frm + i : Nat) : Int)) = decide (k % L.n = i) := by rw [aA, decide_eq_decide]; omega
   simp only [RS, e4, e2]
   exact ⟨⟨k + 1, decide (k % L.n = i), rfl, by omega, by rw [hf', ← hkp, Bool.false_or], Fmf hf3 hF4⟩, by simp only [bM]; omega⟩
 have hke : k = L.lastB := by omega
 subst hke
 have d2 : decide ((L.lastB : Int) < (L.lastB : Int)) = false := by simp
 rw [Nat.sub_self, fJ, Bool.or_false] at hkp
 subst hkp
 have e3 : IntKind.i64.wrap ((L.frm : Int) + (i : Int)) = ((L.frm + i : Nat) : Int) := by rw [ab] <;> omega
 generalize hx : (bif decide (L.lastB % L.n = i) && !decide ((L.tail - 1) % 54 = 0) then bd L.lastB (L.bytes L.lastB) else bif kp then [] else Dk.zsec) = x at hgo
 have hzne : Dk.zsec ≠ [] := by decide
 have hxl : x.length ≤ 64 := by
  rw [← hx]
  cases decide (L.lastB % L.n = i) && !decide ((L.tail - 1) % 54 = 0) with
  | true => rw [cond_true, Lg.seal_len (Lg.bytes_len L _)]; omega
  | false => cases kp <;> simp [Dk.zsec]
 simp only [RS, d2]
 refine bG (fun vs w4 => ∃ (want : Bs) (kp' : Bool), vs = [stv want, .bool kp'] ∧ (kp' = true → x = []) ∧ (kp' = false → x = want ∧ x ≠ []) ∧ Fm (fun _ => False) w2 w4) ?_ ?_
 ·rintro _ w4 ⟨want, kp', rfl, x1, x2, hf4⟩ _
  refine ⟨_, _, rfl, ?_⟩
  have hr4 := hr2.keep0 hf4
  have hd4 := hd2.keep0 hf4
  have hF4 := hF2.trans (up hf4) (fun _ _ e => e) (fun _ _ e => e)
  cases kp' with
  | true =>
   have hx0 := x1 rfl
   subst hx0
   rw [cC, decide_eq_true rfl, cond_true] at hgo
   simp only [RS]
   exact hjj _ _ ⟨wr, e, rfl, hr4, hd4, hw2, hF4, hgo⟩
  | false =>
   obtain ⟨rfl, hxne⟩ := x2 rfl
   rw [cC, decide_eq_false hxne, cond_false] at hgo
   have hfd := Fm.drew (fun _ => False) w4
   simp only [RS, hr4.c0, hr4.c1, e3, true_and]
   refine (eU (hd4.keep0 hfd) hw2 _ 1).mono ?_
   rintro _ w5 ⟨rfl, hf5⟩
   have hF45 := Fmf hfd hf5
   have hr5 := hr4.keep0 hF45
   have hd5 := hd4.keep0 hF45
   have hF5 := hF4.trans (up hF45) (fun _ _ e => e) (fun _ _ e => e)
   generalize e.read ((L.frm + i : Nat) : Int) 1 = rd at hgo
   simp only [RS, al]
   cases hz : decide (rd.2 = 0) with
   | false =>
    rw [hz, cond_false] at hgo
    rw [decide_eq_false_iff_not] at hz
    have he := gA hgo.symm hz
    rw [he]
    simp only [RS, Bool.not_false]
    exact ⟨(by trivial), hr5, hd5, hF5⟩
   | true =>
   rw [hz, cond_true] at hgo
   simp only [RS, Bool.not_true, aD]
   cases hs : decide (rd.1 = x) with
   | true =>
    rw [hs, cond_true] at hgo
    simp only [RS]
    exact hjj _ _ ⟨wr, e, rfl, hr5, hd5, hw2, hF5, hgo⟩
   | false =>
   rw [hs, cond_false] at hgo
   have hfd5 := Fm.drew (fun _ => False) w5
   simp only [RS, hr5.c0, hr5.c1, e3, true_and]
   refine (dU (hd5.keep0 hfd5) hw2 _ x (by omega)).mono ?_
   rintro _ w6 ⟨rfl, hd6, hf6⟩
   have hr6 := (hr5.keep0 hfd5).keep hf6 hX
   have hF6 := (hF5.trans (up hfd5) (fun _ _ e => e) (fun _ _ e => e)).trans hf6 (fun _ _ e => e) (fun _ _ e => e)
   have hw6 : (e.write ((L.frm + i : Nat) : Int) x).1.Wf := Dk.Wf.write hw2 _ _
   generalize e.write ((L.frm + i : Nat) : Int) x = wr2 at hgo hd6 hw6
   simp only [RS, al]
   cases hz2 : decide (wr2.2 = 0) with
   | false =>
    rw [hz2, cond_false] at hgo
    rw [decide_eq_false_iff_not] at hz2
    have he := gA hgo.symm hz2
    rw [he]
    simp only [RS, Bool.not_false]
    exact ⟨(by trivial), hr6, hd6, hF6⟩
   | true =>
    rw [hz2, cond_true] at hgo
    simp only [RS, Bool.not_true]
    exact hjj _ _ ⟨true, wr2.1, rfl, hr6, hd6, hw6, hF6, hgo⟩
 ·intro kk hkk
  have hfd := Fm.drew (fun _ => False) w3
  refine ⟨fun w' => Fm (fun _ => False) w3 w', hfd, ?_⟩
  simp only [RS]
  refine ⟨iv (L.frm : Int), fun w' h' => ?_, ?_⟩
  ·simp only [RS, (hr3.keep0 h').c1] <;> trivial
  simp only [RS, e3]
  refine (ix (hr3.keep0 hfd) (k := L.lastB) (by omega)).mono ?_
  rintro _ w4 ⟨rfl, hf4⟩
  have hF4 := Fmf hfd hf4
  refine ⟨hF4, ?_⟩
  have e4 : ((((L.frm + L.lastB % L.n : Nat) : Int)) == ((L.frm + i : Nat) : Int)) = decide (L.lastB % L.n = i) := by rw [aA, decide_eq_decide]; omega
  have e5 : ((((L.tail - 1) % 54 : Nat) : Int) != 0) = !decide ((L.tail - 1) % 54 = 0) := by
   rw [al]; congr 1; rw [decide_eq_decide]; omega
  have keepit : (bif kp then ([] : Bs) else Dk.zsec) = x → kk [stv Dk.zsec, .bool kp] w4 := fun hx' => by
   refine hkk _ _ ⟨Dk.zsec, kp, rfl, fun hk => ?_, fun hk => ?_, Fmf hf3 hF4⟩
   ·rw [← hx', hk]; rfl
   ·rw [← hx', hk]; exact ⟨rfl, hzne⟩
  cases hq1 : decide (L.lastB % L.n = i) with
  | false =>
   rw [hq1, Bool.false_and, cond_false] at hx
   simp only [RS, e4, hq1]
   exact keepit hx
  | true =>
  cases hq2 : decide ((L.tail - 1) % 54 = 0) with
  | true =>
   rw [hq1, hq2, Bool.not_true, Bool.and_false, cond_false] at hx
   simp only [RS, e4, hq1, a3, a5, e5, hq2, Bool.not_true]
   exact keepit hx
  | false =>
   rw [hq1, hq2, Bool.not_false, Bool.and_self, cond_true] at hx
   simp only [RS, e4, hq1, a3, a5, e5, hq2, Bool.not_false]
   refine (gq (hr3.keep0 hF4) bl1 (by omega)).mono ?_
   rintro _ w5 ⟨rfl, hf5⟩
   refine (fi w5 (k := L.lastB) (by omega) (Lg.bytes_len L L.lastB)).mono ?_
   rintro _ w6 ⟨rfl, hf6⟩
   refine hkk _ _ ⟨_, false, rfl, (fun hk => by cases hk), (fun _ => ⟨hx.symm, ?_⟩), Fmf hf3 (Fmf hF4 (Fmf hf5 hf6))⟩
   rw [← hx]; exact tr _ _
end
theorem tu {P : Program} {t e s : TypeId} (B : ByteT P t e s) {w : World} {v : Value} {L : Bs} {e' : TypeId} (h : KpAt w e' v L) {i : Nat} (hi : i ≤ L.length) :
  ∃ u, slV 1 v (some (.int .i64 i)) none none = some u ∧ (convert t s u).run P w = .ok (stv (L.drop i)) w := by
 rcases h with ⟨rfl, rfl⟩ | ⟨g, cap, cur, rfl, hg, hnc, hcm, hcs, htake⟩
 ·simp at hi
  subst hi
  exact ⟨.slice none 0 0, rfl, jT B w 0 0⟩
 ·obtain ⟨o', h1, h2, h3⟩ := qz (g := g) (o := 0) (n := L.length) (c := cap) hi hnc .i64
  refine ⟨_, h1, ?_⟩
  have hx : BX w g e' L := ⟨cur, _, hg, htake, by omega, .inl rfl⟩
  by_cases hc : i < cap
  ·rw [h2 hc, Nat.zero_add]
   have := hx.conv (P := P) B (o := i) (n := L.length - i) (by omega) (cap - i)
   rw [List.take_of_length_le (by rw [List.length_drop]; omega)] at this
   exact this
  ·have e1 : L.length - i = 0 := by omega
   rw [e1, List.drop_eq_nil_of_le (by omega)]
   have := hx.conv (P := P) B (o := o') (n := 0) (by omega) (cap - i)
   rw [List.take_zero] at this
   exact this
theorem uS {g n c j : Nat} (hj : j ≤ c) : slV 1 (.slice (some ⟨g, 0, none⟩) n c) none (some (iv (j : Int))) (some (iv (j : Int))) = some (.slice (some ⟨g, 0, none⟩) j j) := by
 have e1 : bnd c c (some (iv (j : Int))) = some j := eC hj .i64
 have e2 : bnd j n (some (iv (j : Int))) = some j := eC (Nat.le_refl j) .i64
 have e3 : bnd j 0 none = some 0 := rfl
 simp only [slV, ub, e1, e2, e3, Option.bind_some, Option.map_some, Nat.zero_mul, Nat.sub_zero]
 have : (⟨g, 0, none⟩ : Addr).add 0 = ⟨g, 0, none⟩ := rfl
 rw [this, ite_self]
theorem tR {w : World} {e : TypeId} {v : Value} {L : Bs} (h : KpAt w e v L) {j : Nat} (hj : j ≤ L.length) :
  ∃ u, slV 1 v none (some (iv (j : Int))) (some (iv (j : Int))) = some u ∧ KpAt w e u (L.take j) ∧ ∀ y, u.ownBlock = some y → v.ownBlock = some y := by
 rcases h with ⟨rfl, rfl⟩ | ⟨g, cap, cur, rfl, hg, hnc, hcm, hcs, htake⟩
 ·simp at hj
  subst hj
  exact ⟨.slice none 0 0, rfl, KpAt.nil _ _, fun y hy => hy⟩
 ·have hl : (L.take j).length = j := by rw [List.length_take]; omega
  refine ⟨_, uS (by omega), .inr ⟨g, j, cur, by rw [hl], hg, by omega, by omega, by omega, ?_⟩, fun y hy => hy⟩
  rw [hl, ← pF, ← htake, List.take_take, Nat.min_eq_left hj]
def fe (base : Nat) (all : Bs) : Nat → Nat → List Rc → List Rc × Nat
 | 0, e, out => (out, e)
 | f + 1, e, out => match (cA (all.drop e)).1 with
  | none => (out, e)
  | some r => bif decide (r.lsn = ((base + e : Nat) : Int)) then fe base all f (e + (cA (all.drop e)).2.1) (out ++ [r]) else (out, e)
def keyed (out : List Rc) : List (Int × Rc) := out.map fun r => (r.lsn, r)
def aheadOf (start : Nat) : Nat := start - Lg.baseOf start
def be (d : Dk) (frm n start : Nat) : Bs :=
 bif decide ((aC d frm n ((start - 1) / 54) n 0 []).1.length < aheadOf start) then aG (aheadOf start) else (aC d frm n ((start - 1) / 54) n 0 []).1
def iH (d : Dk) (frm n start : Nat) : List Rc × Nat := fe (Lg.baseOf start) (be d frm n start) ((be d frm n start).length + 1) (aheadOf start) []
def ms (d : Dk) (frm n start : Nat) : Lg := ⟨frm, n, Lg.baseOf start, (be d frm n start).take (iH d frm n start).2, start, Lg.baseOf start + (iH d frm n start).2, 0, keyed (iH d frm n start).1⟩
def fh (d : Dk) (frm n start : Int) : Dk × Int :=
 bif !(dn d frm n) || decide (start < 1) then (d, 1) else bif d.gone then (d, 5) else
 bif decide ((aC d frm.toNat n.toNat ((start.toNat - 1) / 54) n.toNat 0 []).2 = 0) then (ms d frm.toNat n.toNat start.toNat).wipe d else (d, (aC d frm.toNat n.toNat ((start.toNat - 1) / 54) n.toNat 0 []).2)
theorem LIn.addRec {w w' : World} {X P P1 : Nat → Prop} {lb db mb : Nat} {kv : Value} {M : List (Int × Array Value)} {L L' : Lg} (h : LIn w X P lb db mb kv M L) {cs : Array Value} {r : Rc} {k : Int} (hh : Held w P1 cs r) (h1 : ∀ y, P1 y → y < w.heap.size ∧ ¬ X y) (hk : getD L.recs k = none)
  (hM : MapAt w' mb iv Value.agg (gu M k cs)) (hf : Fm (· = mb) w w') (hst : lgc db mb kv L' = lgc db mb kv L) (hkp : L'.kept = L.kept) (hrc : L'.recs = gu L.recs k r) : LIn w' (fun y => X y ∨ P1 y) (fun y => P y ∨ P1 y) lb db mb kv (gu M k cs) L' := by
 have hnd : getD M k = none := by rw [bz, h.keys, ← bz]; exact hk
 refine ⟨by rw [hst]; exact hf.heap h.st h.nm.symm, by rw [hkp]; exact h.kp.keep hf (fun y hy e => h.km (by rw [hy, e])), hM, by rw [hrc, dN, dN, h.keys], ?_, ⟨.inl h.xs.1, .inl h.xs.2.1, fun y hy => .inl (h.xs.2.2.1 y hy), fun y hy => hy.imp (h.xs.2.2.2 y) id⟩, ⟨?_, ?_, ?_⟩, fun y hy => Nat.lt_of_lt_of_le ?_ hf.size⟩
 ·intro k' cs' hm
  rw [dh _ _ _ hnd] at hm
  rw [hrc, dh _ _ _ hk]
  rcases List.mem_append.1 hm with hm | hm
  ·obtain ⟨r', q1, q2⟩ := h.rec_ k' cs' hm
   exact ⟨r', List.mem_append_left _ q1, (q2.mono (fun y hy => .inl hy)).keep hf (by
    rintro y (hy | hy) rfl
    ·exact h.ps.2.1 hy
    ·exact (h1 _ hy).2 h.xs.2.1)⟩
  ·simp only [List.mem_singleton, Prod.mk.injEq] at hm
   obtain ⟨rfl, rfl⟩ := hm
   exact ⟨_, List.mem_append_right _ (by simp), (hh.mono (fun y hy => .inr hy)).keep hf (by
    rintro y (hy | hy) rfl
    ·exact h.ps.2.1 hy
    ·exact (h1 _ hy).2 h.xs.2.1)⟩
 ·rintro (q | q)
  ·exact h.ps.1 q
  ·exact (h1 _ q).2 h.xs.1
 ·rintro (q | q)
  ·exact h.ps.2.1 q
  ·exact (h1 _ q).2 h.xs.2.1
 ·rintro y hy (q | q)
  ·exact h.ps.2.2 y hy q
  ·exact (h1 _ q).2 (h.xs.2.2.1 y hy)
 ·rcases hy with q | q
  ·exact h.lt y q
  ·exact (h1 y q).1
theorem lM {w : World} {X P : Nat → Prop} {lb db mb : Nat} {kv : Value} {M : List (Int × Array Value)} {L : Lg} (hi : LIn w X P lb db mb kv M L) (hl : L.tail ≤ 9223372036854775807) : Cl prog 20 [pv lb] w fun v w' => v = iv (L.tail : Int) ∧ Fm (fun _ => False) w w' := by
 refine c20 ?_; unfold T20
 have e1 : IntKind.i64.wrap ((L.base : Int) + (L.kept.length : Int)) = (L.tail : Int) := by
  unfold Lg.tail at hl ⊢
  rw [ab] <;> omega
 simp only [RS, hi.c3, hi.c4, hi.kp.lenV, e1, true_and]
 exact Fm.drew _ _
theorem xh : ElemT prog 49 28 16 216 := cB Tryz.underlying49 (by kernel_rfl)
theorem vd (r : Rc) (a1 a2 a3 a4 a5 : Option Addr) (n1 n2 n3 n4 n5 c1 c2 c3 c4 c5 : Nat) (w : World) : (Instr.buildSlice 49 1 #[(0, .agg (rcs r (.slice a1 n1 c1) (.slice a2 n2 c2) (.slice a3 n3 c3) (.slice a4 n4 c4) (.slice a5 n5 c5)))]).run prog w = .ok (.slice (some ⟨w.heap.size, 0, none⟩) 1 1) (w.alloc (.cells (rcs r (.slice a1 n1 c1) (.slice a2 n2 c2) (.slice a3 n3 c3) (.slice a4 n4 c4) (.slice a5 n5 c5)) 28)) := by kernel_rfl
theorem ImAs.sl {w : World} {v : Value} {L : List (Int × Pg)} (h : ImAs w v L) : ∃ a n c, v = .slice a n c := by
 obtain ⟨X, _, h2, _⟩ := h.ex
 obtain ⟨⟨a, c, rfl, _⟩, _⟩ := h2
 exact ⟨_, _, _, rfl⟩
theorem gy {w : World} {v : Value} {n sz : Nat} {xs : List Value} (h : CellsAt w v n sz xs) : ∃ a n c, v = .slice a n c := by
 obtain ⟨⟨a, c, rfl, _⟩, _⟩ := h
 exact ⟨_, _, _, rfl⟩
theorem uD {w : World} {cs : Array Value} {r : Rc} (h : RcAs w cs r) (w' : World) : (Instr.buildSlice 49 1 #[(0, .agg cs)]).run prog w' = .ok (.slice (some ⟨w'.heap.size, 0, none⟩) 1 1) (w'.alloc (.cells cs.toList.toArray 28)) := by
 obtain ⟨vs, vm, vi, vp, vt, rfl, _, h3, h4, h5, h6, h7⟩ := h.ex
 obtain ⟨a1, n1, c1, rfl⟩ := gy h3
 obtain ⟨a2, n2, c2, rfl⟩ := gy h4
 obtain ⟨a3, n3, c3, rfl⟩ := h5.sl
 obtain ⟨a4, n4, c4, rfl⟩ := gy h6
 obtain ⟨a5, n5, c5, rfl⟩ := gy h7
 exact vd r _ _ _ _ _ _ _ _ _ _ _ _ _ _ _ w'
structure ON (w w' : World) (X P Q : Nat → Prop) (lb db mb g m : Nat) (M : List (Int × Array Value)) (L0 : Lg) (d : Dk) (av : Value) (all : Bs) (ov : Value) (C : List (Array Value)) (out : List Rc) : Prop where
 hi : LIn w' X P lb db mb nl M { L0 with recs := keyed out }
 hd : DAt w' db g m d
 ha : w'.ownsRow w.heap.size 5 1 av all.length (bc all)
 ho : w'.ownsRow w.heap.size 28 16 ov C.length (C.flatMap Array.toList)
 hl : C.length = out.length
 hC : ∀ (i : Nat) cs r, C[i]? = some cs → out[i]? = some r → Held w' Q cs r
 hF : Fm (fun _ => False) w w'
 hX : ∀ y, X y → w.heap.size ≤ y
 hQ : ∀ y, Q y → w.heap.size ≤ y ∧ y < w'.heap.size ∧ ¬ X y
 hon : ∀ y, ov.ownBlock = some y → ¬ X y ∧ ¬ Q y
 han : ∀ y, av.ownBlock = some y → ¬ X y ∧ ¬ Q y
 hD : ∀ y, Dm db g m y → y < w.heap.size
section
variable {w w1 w2 : World} {X P Q : Nat → Prop} {lb db mb g m : Nat} {M : List (Int × Array Value)} {L0 : Lg} {d : Dk} {av : Value} {all : Bs} {ov : Value} {C : List (Array Value)} {out : List Rc}
theorem ON.keep (h : ON w w1 X P Q lb db mb g m M L0 d av all ov C out) {S : Nat → Prop} (hf : Fm S w1 w2) (hS : ∀ y, S y → w.heap.size ≤ y ∧ ¬ X y ∧ ¬ Q y ∧ ov.ownBlock ≠ some y ∧ av.ownBlock ≠ some y) : ON w w2 X P Q lb db mb g m M L0 d av all ov C out := by
 have hnd : ∀ y, Dm db g m y → ¬ S y := fun y hy e => by have := h.hD y hy; have := (hS y e).1; omega
 refine ⟨h.hi.keep hf (fun y hy e => (hS y e).2.1 hy), h.hd.keep hf (hnd _ (.inl rfl)) (hnd _ (.inr (.inl rfl))) (hnd _ (.inr (.inr rfl))), ae h.ha hf (fun k _ _ e q => (hS k q).2.2.2.2 e), ae h.ho hf (fun k _ _ e q => (hS k q).2.2.2.1 e), h.hl, fun i cs r h1 h2 => (h.hC i cs r h1 h2).keep hf (fun y hy e => (hS y e).2.2.1 hy), Fm.own h.hF hf (fun y e => (hS y e).1), h.hX, fun y hy => ?_, h.hon, h.han, h.hD⟩
 obtain ⟨q1, q2, q3⟩ := h.hQ y hy
 exact ⟨q1, Nat.lt_of_lt_of_le q2 hf.size, q3⟩
theorem ON.keep0 (h : ON w w1 X P Q lb db mb g m M L0 d av all ov C out) (hf : Fm (fun _ => False) w1 w2) : ON w w2 X P Q lb db mb g m M L0 d av all ov C out := h.keep hf (fun _ e => e.elim)
theorem ON.new (h : ON w w1 X P Q lb db mb g m M L0 d av all ov C out) {x : Nat} (hx : w1.heap.size ≤ x) : w.heap.size ≤ x ∧ ¬ X x ∧ ¬ Q x ∧ ov.ownBlock ≠ some x ∧ av.ownBlock ≠ some x := by
 have hz := h.hF.size
 refine ⟨by omega, fun e => ?_, fun e => ?_, fun e => ?_, fun e => ?_⟩
 ·have := h.hi.lt x e; omega
 ·have := (h.hQ x e).2.1; omega
 ·have := (aX h.ho x e).2; omega
 ·have := (aX h.ha x e).2; omega
theorem ON.add (h : ON w w1 X P Q lb db mb g m M L0 d av all ov C out) {P1 : Nat → Prop} {cs : Array Value} {r : Rc} (hh : Held w1 P1 cs r) (h1 : ∀ y, P1 y → y < w1.heap.size ∧ w.heap.size ≤ y ∧ ¬ X y ∧ ¬ Q y ∧ ov.ownBlock ≠ some y ∧ av.ownBlock ≠ some y) (hk : ∀ q ∈ out, q.lsn ≠ r.lsn)
  (hM : MapAt w2 mb iv Value.agg (gu M r.lsn cs)) (hf : Fm (· = mb) w1 w2) :
  LIn w2 (fun y => X y ∨ P1 y) (fun y => P y ∨ P1 y) lb db mb nl (gu M r.lsn cs) { L0 with recs := keyed (out ++ [r]) } ∧ DAt w2 db g m d ∧ w2.ownsRow w.heap.size 5 1 av all.length (bc all) ∧ w2.ownsRow w.heap.size 28 16 ov C.length (C.flatMap Array.toList) ∧
  (∀ (i : Nat) cs r, C[i]? = some cs → out[i]? = some r → Held w2 Q cs r) ∧ Fm (fun _ => False) w w2 := by
 have hm := h.hi.xs.2.1
 have hmz := h.hX mb hm
 have hne : ∀ y, Dm db g m y → ¬ y = mb := fun y hy e => by have := h.hD y hy; omega
 have hkn : getD (keyed out) r.lsn = none := by
  rw [bz]
  intro hmem
  obtain ⟨x, hx, hxe⟩ := List.mem_map.1 hmem
  obtain ⟨q, hq, rfl⟩ := List.mem_map.1 hx
  exact hk q hq hxe
 refine ⟨h.hi.addRec hh (fun y hy => ⟨(h1 y hy).1, (h1 y hy).2.2.1⟩) hkn hM hf rfl rfl ?_, h.hd.keep hf (hne _ (.inl rfl)) (hne _ (.inr (.inl rfl))) (hne _ (.inr (.inr rfl))), ae h.ha hf (fun k _ _ e q => (h.han k e).1 (q ▸ hm)), ae h.ho hf (fun k _ _ e q => (h.hon k e).1 (q ▸ hm)), fun i cs r q1 q2 => (h.hC i cs r q1 q2).keep hf (fun y hy e => (h.hQ y hy).2.2 (e ▸ hm)), Fm.own h.hF hf (by rintro y rfl; exact hmz)⟩
 show keyed (out ++ [r]) = gu (keyed out) r.lsn r
 rw [dh _ _ _ hkn]
 simp [keyed]
end
theorem gG (base : Nat) (all : Bs) (f e : Nat) (out : List Rc) (h : (cA (all.drop e)).1 = none) : fe base all f e out = (out, e) := by
 cases f with
 | zero => rfl
 | succ f => rw [fe, h]
theorem mS (base : Nat) (all : Bs) (f e : Nat) (out : List Rc) {r : Rc} (h : (cA (all.drop e)).1 = some r) (hr : ¬ r.lsn = ((base + e : Nat) : Int)) : fe base all f e out = (out, e) := by
 cases f with
 | zero => rfl
 | succ f =>
  rw [fe, h]
  have : decide (r.lsn = ((base + e : Nat) : Int)) = false := by simpa using hr
  simp only [this, cond_false]
theorem iW (d : Dk) (frm n k : Nat) : ∀ (f i : Nat) (out : Bs), (aC d frm n k f i out).1.length ≤ out.length + 54 * f
 | 0, i, out => by simp [aC]
 | f + 1, i, out => by
  rw [aC]
  have h1 := fR (d.read ((frm + (k + i) % n : Nat) : Int) 1).1 (k + i)
  cases decide ((d.read ((frm + (k + i) % n : Nat) : Int) 1).2 = 0) with
  | false => simp
  | true =>
   rw [cond_true]
   cases decide ((opened (d.read ((frm + (k + i) % n : Nat) : Int) 1).1 (k + i)).length < 54) with
   | true => rw [cond_true]; simp only [List.length_append]; omega
   | false =>
    rw [cond_false]
    have := iW d frm n k f (i + 1) (out ++ opened (d.read ((frm + (k + i) % n : Nat) : Int) 1).1 (k + i))
    rw [List.length_append] at this
    omega
structure OpnOk (w w' : World) (p ov : Value) (db : Nat) (L : Lg) (out : List Rc) : Prop where
 ex : ∃ (lb : Nat) (X Q : Nat → Prop) (C : List (Array Value)), p = pv lb ∧ LAt w' X lb db L ∧ w'.ownsRow w.heap.size 28 16 ov C.length (C.flatMap Array.toList) ∧ C.length = out.length ∧ (∀ (i : Nat) cs r, C[i]? = some cs → out[i]? = some r → Held w' Q cs r) ∧ (∀ y, X y → w.heap.size ≤ y) ∧ (∀ y, Q y → w.heap.size ≤ y ∧ y < w'.heap.size ∧ ¬ X y) ∧ ∀ y, ov.ownBlock = some y → ¬ X y ∧ ¬ Q y
theorem rH {w w4 : World} {X P Q : Nat → Prop} {lb b mb g m : Nat} {M : List (Int × Array Value)} {d : Dk} {av : Value} {all : Bs} {ov : Value} {C : List (Array Value)} {out : List Rc} {i j s e : Nat}
  (hON : ON w w4 X P Q lb b mb g m M ⟨i, j, Lg.baseOf s, [], s, 0, 0, []⟩ d av all ov C out) (hj : 4 ≤ j) (hij : i + j ≤ 65536) (hs : 1 ≤ s) (he : e ≤ all.length) (hal : all.length ≤ 4000000) (hah : aheadOf s ≤ e) (hbe : Lg.baseOf s + e ≤ 9223372036854775807)
  (hout : ∀ r ∈ out, (rCheck r).2 = 0 ∧ (∀ m ∈ r.imgs, m.2.lsn ≤ 9223372036854775807) ∧ (s : Int) ≤ r.lsn ∧ r.lsn < ((Lg.baseOf s + e : Nat) : Int)) {K : Value → World → Prop}
  (hK1 : ∀ w8, DAt w8 b g m ((⟨i, j, Lg.baseOf s, all.take e, s, Lg.baseOf s + e, 0, keyed out⟩ : Lg).wipe d).1 → Fm (Dm b g m) w w8 → ¬ ((⟨i, j, Lg.baseOf s, all.take e, s, Lg.baseOf s + e, 0, keyed out⟩ : Lg).wipe d).2 = 0 → K (.tuple #[.pointer none, nl, iv ((⟨i, j, Lg.baseOf s, all.take e, s, Lg.baseOf s + e, 0, keyed out⟩ : Lg).wipe d).2]) w8)
  (hK2 : ∀ w8, DAt w8 b g m ((⟨i, j, Lg.baseOf s, all.take e, s, Lg.baseOf s + e, 0, keyed out⟩ : Lg).wipe d).1 → Fm (Dm b g m) w w8 → ((⟨i, j, Lg.baseOf s, all.take e, s, Lg.baseOf s + e, 0, keyed out⟩ : Lg).wipe d).2 = 0 → OpnOk w w8 (pv lb) ov b ⟨i, j, Lg.baseOf s, all.take e, s, Lg.baseOf s + e, 0, keyed out⟩ out → K (.tuple #[pv lb, ov, iv 0]) w8) :
  Pu (slV 1 av none (some (iv (e : Int))) (some (iv (e : Int)))) fun t106 =>
   St 1 w4 (.pointer (some ⟨lb, 4, none⟩)) t106 fun u w_127 =>
   Cl prog 20 [pv lb] w_127 fun t111 w_129 =>
   St 1 w_129 (.pointer (some ⟨lb, 6, none⟩)) t111 fun u2 w_133 =>
   Cl prog 141 [pv lb] w_133 fun t115 w_135 =>
   Pu (aa (TypeDesc.int .i64) .neq t115 (Value.int .i64 0)) fun t117 =>
   IfB t117
    (K (.tuple #[(Value.pointer none), (Value.slice none 0 0), t115]) w_135)
    (K (.tuple #[pv lb, ov, (Value.int .i64 0)]) w_135) := by
 have hb := Lg.baseOf_le hs
 have hah' : aheadOf s = s - Lg.baseOf s := rfl
 obtain ⟨u, q1, q2, q3⟩ := tR (KpAt.of_own hON.ha) he
 have hlen : (all.take e).length = e := by rw [List.length_take]; omega
 simp only [RS, q1]
 refine ay hON.hi.st (by show 4 < 9; decide) q2.one ?_
 intro w5 hw5 hs5 hf5
 have hlbX := hON.hi.xs.1
 have hlbS : ∀ y, y = lb → w.heap.size ≤ y ∧ ¬ Q y ∧ ov.ownBlock ≠ some y ∧ av.ownBlock ≠ some y := by
  rintro y rfl
  exact ⟨hON.hX y hlbX, fun e => (hON.hQ y e).2.2 hlbX, fun e => (hON.hon y e).1 hlbX, fun e => (hON.han y e).1 hlbX⟩
 have hi5 : LIn w5 (fun y => X y ∨ av.ownBlock = some y) P lb b mb u M ⟨i, j, Lg.baseOf s, all.take e, s, 0, 0, keyed out⟩ := by
  refine ⟨hw5, q2.keep hf5 (fun y hy e => ?_), hON.hi.mp.keep hf5 hON.hi.nm, hON.hi.keys, fun k cs hm => ?_, ⟨.inl hlbX, .inl hON.hi.xs.2.1, fun y hy => .inr (q3 y hy), fun y hy => .inl (hON.hi.xs.2.2.2 y hy)⟩, ⟨hON.hi.ps.1, hON.hi.ps.2.1, fun y hy e => (hON.han y (q3 y hy)).1 (hON.hi.xs.2.2.2 y e)⟩, ?_⟩
  ·exact (hlbS y e).2.2.2 (q3 y hy)
  ·obtain ⟨r, h1, h2⟩ := hON.hi.rec_ k cs hm
   exact ⟨r, h1, h2.keep hf5 (fun y hy e => hON.hi.ps.1 (e ▸ hy))⟩
  ·rintro y (hy | hy)
   ·have := hON.hi.lt y hy; omega
   ·have := (aX hON.ha y hy).2; omega
 have htl : (⟨i, j, Lg.baseOf s, all.take e, s, 0, 0, keyed out⟩ : Lg).tail = Lg.baseOf s + e := by show Lg.baseOf s + (all.take e).length = _; rw [hlen]
 refine (lM hi5 (by rw [htl]; exact hbe)).mono ?_
 rintro _ w6 ⟨rfl, hf6⟩
 rw [htl]
 have hi6 := hi5.keep0 hf6
 refine ay hi6.st (by show 6 < 9; decide) rfl ?_
 intro w7 hw7 hs7 hf7
 have hi7 : LIn w7 (fun y => X y ∨ av.ownBlock = some y) P lb b mb u M ⟨i, j, Lg.baseOf s, all.take e, s, Lg.baseOf s + e, 0, keyed out⟩ := hi6.upd hw7 hf7 rfl rfl
 have hwf : (⟨i, j, Lg.baseOf s, all.take e, s, Lg.baseOf s + e, 0, keyed out⟩ : Lg).Wf := by
  have ht : (⟨i, j, Lg.baseOf s, all.take e, s, Lg.baseOf s + e, 0, keyed out⟩ : Lg).tail = Lg.baseOf s + e := by show Lg.baseOf s + (all.take e).length = _; rw [hlen]
  refine ⟨hj, hij, rfl, ⟨hs, ?_, by rw [ht]; exact Nat.le_refl _⟩, by show (all.take e).length ≤ _; omega, by rw [ht]; exact hbe, fun h => ?_, ⟨Int.le_refl _, by show (0 : Int) ≤ _; omega⟩, ?_⟩
  ·show s ≤ Lg.baseOf s + e
   omega
  ·rw [ht] at h
   exact absurd h (Nat.lt_irrefl _)
  ·intro p hp
   obtain ⟨r, hr, rfl⟩ := List.mem_map.1 hp
   obtain ⟨h1, h2, h3, h4⟩ := hout r hr
   rw [ht]
   exact ⟨rfl, h1, h2, h3, h4⟩
 have hX2 : ∀ y, (X y ∨ av.ownBlock = some y) → w.heap.size ≤ y := by
  rintro y (hy | hy)
  ·exact hON.hX y hy
  ·exact (aX hON.ha y hy).1
 have keep7 : ∀ {S : Nat → Prop} {a c : World}, Fm S a c → True := fun _ => trivial
 have hd7 : DAt w7 b g m d := by
  have hne : ∀ y, Dm b g m y → ¬ y = lb := fun y hy e => by have := hON.hD y hy; have := (hlbS y e).1; omega
  exact ((hON.hd.keep hf5 (hne _ (.inl rfl)) (hne _ (.inr (.inl rfl))) (hne _ (.inr (.inr rfl)))).keep0 hf6).keep hf7 (hne _ (.inl rfl)) (hne _ (.inr (.inl rfl))) (hne _ (.inr (.inr rfl)))
 have hF7 : Fm (fun _ => False) w w7 := Fm.own (Fmf (Fm.own hON.hF hf5 (fun y e => (hlbS y e).1)) hf6) hf7 (fun y e => (hlbS y e).1)
 have ho7 := ae (ae (ae hON.ho hf5 (fun k _ _ e q => (hlbS k q).2.2.1 e)) hf6 (fun _ _ _ _ e => e)) hf7 (fun k _ _ e q => (hlbS k q).2.2.1 e)
 have hC7 : ∀ (i : Nat) cs r, C[i]? = some cs → out[i]? = some r → Held w7 Q cs r := fun i cs r h1 h2 => (((hON.hC i cs r h1 h2).keep hf5 (fun y hy e => (hlbS y e).2.1 hy)).keep hf6 (fun _ _ e => e)).keep hf7 (fun y hy e => (hlbS y e).2.1 hy)
 refine (ot (L := ⟨i, j, Lg.baseOf s, all.take e, s, Lg.baseOf s + e, 0, keyed out⟩) ⟨hwf, P, mb, u, M, hi7⟩ hd7 (fun y hy e => by have := hX2 y hy; have := hON.hD y e; omega)).mono ?_
 rintro _ w8 ⟨rfl, hL8, hd8, hf8⟩
 have hF8 : Fm (Dm b g m) w w8 := (hF7.mono (fun _ _ e => e.elim)).trans hf8 (fun _ _ e => e) (fun _ _ e => e)
 have hz7 := hF7.size
 have hz8 := hf8.size
 simp only [RS, al]
 cases hz : decide (((⟨i, j, Lg.baseOf s, all.take e, s, Lg.baseOf s + e, 0, keyed out⟩ : Lg).wipe d).2 = 0) with
 | false =>
  rw [decide_eq_false_iff_not] at hz
  simp only [RS, Bool.not_false]
  exact hK1 w8 hd8 hF8 hz
 | true =>
  rw [decide_eq_true_eq] at hz
  simp only [RS, Bool.not_true]
  refine hK2 w8 hd8 hF8 hz ⟨lb, _, Q, C, rfl, hL8, ae ho7 hf8 (fun k hk _ _ q => by have := hON.hD k q; omega), hON.hl, fun i cs r h1 h2 => (hC7 i cs r h1 h2).keep hf8 (fun y hy e => by have := hON.hD y e; have := (hON.hQ y hy).1; omega), hX2, ?_, ?_⟩
  ·intro y hy
   obtain ⟨p1, p2, p3⟩ := hON.hQ y hy
   have z5 := hf5.size; have z6 := hf6.size; have z7 := hf7.size
   refine ⟨p1, by omega, ?_⟩
   rintro (e | e)
   ·exact p3 e
   ·exact (hON.han y e).2 hy
  ·intro y hy
   refine ⟨?_, (hON.hon y hy).2⟩
   rintro (e | e)
   ·exact (hON.hon y hy).1 e
   ·exact aI hON.ho hON.ha (by decide) y hy e
theorem jd (d : Dk) (i j s : Nat) (hj : j ≤ 65536) (hs : 1 ≤ s) : aheadOf s ≤ (be d i j s).length ∧ (be d i j s).length ≤ 4000000 := by
 have h1 := iW d i j ((s - 1) / 54) j 0 []
 have h2 := Lg.baseOf_le hs
 simp only [List.length_nil, Nat.zero_add] at h1
 unfold be
 cases h : decide ((aC d i j ((s - 1) / 54) j 0 []).1.length < aheadOf s) with
 | true =>
  rw [cond_true, Lg.zeros_len']
  unfold aheadOf; omega
 | false =>
  rw [decide_eq_false_iff_not] at h
  rw [cond_false]; omega
theorem iY {w : World} {b g m : Nat} {d : Dk} (h : DAt w b g m d) (frm n start : Int) (hst : start ≤ 9223372036854775807) :
  Cl prog 74 [pv b, iv frm, iv n, iv start] w fun v w' => ∃ p ov, v = .tuple #[p, ov, iv (fh d frm n start).2] ∧ DAt w' b g m (fh d frm n start).1 ∧ Fm (Dm b g m) w w' ∧
   ((fh d frm n start).2 ≠ 0 → p = .pointer none ∧ ov = nl) ∧ ((fh d frm n start).2 = 0 → OpnOk w w' p ov b (ms d frm.toNat n.toNat start.toNat) (iH d frm.toNat n.toNat start.toNat).1) := by
 have hn := h.wf.n1
 have hlt := h.lt
 have up : ∀ {w1 : World}, Fm (fun _ => False) w w1 → Fm (Dm b g m) w w1 := fun hf => hf.mono (fun _ _ e => e.elim)
 have bad : ∀ {w1 : World} {er : Int}, Fm (fun _ => False) w w1 → er ≠ 0 → fh d frm n start = (d, er) → ∃ p ov, Value.tuple #[.pointer none, nl, iv er] = .tuple #[p, ov, iv (fh d frm n start).2] ∧ DAt w1 b g m (fh d frm n start).1 ∧ Fm (Dm b g m) w w1 ∧
   ((fh d frm n start).2 ≠ 0 → p = .pointer none ∧ ov = nl) ∧ ((fh d frm n start).2 = 0 → OpnOk w w1 p ov b (ms d frm.toNat n.toNat start.toNat) (iH d frm.toNat n.toNat start.toNat).1) := fun hf he hE => by
  rw [hE]
  exact ⟨_, _, rfl, h.keep0 hf, up hf, fun _ => ⟨rfl, rfl⟩, fun e => absurd e he⟩
 have hE : fh d frm n start = bif !(dn d frm n) || decide (start < 1) then (d, 1) else bif d.gone then (d, 5) else
  bif decide ((aC d frm.toNat n.toNat ((start.toNat - 1) / 54) n.toNat 0 []).2 = 0) then (ms d frm.toNat n.toNat start.toNat).wipe d else (d, (aC d frm.toNat n.toNat ((start.toNat - 1) / 54) n.toNat 0 []).2) := rfl
 refine c74 ?_; unfold T74
 refine (ju h frm n).mono ?_
 rintro _ w0 ⟨rfl, rfl⟩
 cases hfi : dn d frm n with
 | false =>
  rw [hfi, Bool.not_false, Bool.true_or, cond_true] at hE
  simp only [RS]
  exact bad (Fm.refl _ _) (by decide) hE
 | true =>
 cases e1 : decide (start < 1) with
 | true =>
  rw [e1, Bool.or_true, cond_true] at hE
  simp only [RS, e1]
  exact bad (Fm.refl _ _) (by decide) hE
 | false =>
 rw [hfi, e1, Bool.not_true, Bool.or_self, cond_false] at hE
 simp only [RS, e1]
 refine (ja h).mono ?_
 rintro _ w0 ⟨rfl, rfl⟩
 cases hg : d.gone with
 | true =>
  rw [hg, cond_true] at hE
  simp only [RS]
  exact bad (Fm.refl _ _) (by decide) hE
 | false =>
 rw [hg, cond_false] at hE
 unfold dn at hfi
 simp only [Bool.and_eq_true, decide_eq_true_eq] at hfi
 obtain ⟨f1, f2, f3, f4⟩ := hfi
 rw [decide_eq_false_iff_not] at e1
 obtain ⟨j, rfl⟩ := Int.eq_ofNat_of_zero_le (show 0 ≤ n by omega)
 obtain ⟨i, rfl⟩ := Int.eq_ofNat_of_zero_le f2
 obtain ⟨s, rfl⟩ := Int.eq_ofNat_of_zero_le (show 0 ≤ start by omega)
 simp only [Int.toNat_natCast] at hE bad ⊢
 have hs : 1 ≤ s := by omega
 have hj : 4 ≤ j := by omega
 have hij : i + j ≤ 65536 := by omega
 have hb := Lg.baseOf_le hs
 simp only [RS]
 refine (dI w0 (n := s) hs (by omega)).mono ?_
 rintro _ w0 ⟨rfl, rfl⟩
 refine (cR w0 (k := (s - 1) / 54) (by omega)).mono ?_
 rintro _ w0 ⟨rfl, rfl⟩
 rw [show (s - 1) / 54 * 54 + 1 = Lg.baseOf s from rfl]
 refine af (eR _ _) ?_
 have hM := MapAt.empty w0 iv Value.agg
 have hfm := Fm.alloc (fun _ => False) w0 (.map #[] 0)
 have hms := bo w0 (.map #[] 0)
 generalize w0.alloc (.map #[] 0) = w1 at hM hfm hms
 refine af (sy b w0.heap.size _ _ _ _ _) ?_
 refine ao ?_
 intro lb w2 hlb hs2 hw2 hf2
 have hF2 := Fmf hfm hf2
 have hi2 : LIn w2 (fun y => y = lb ∨ y = w0.heap.size) (fun _ => False) lb b w0.heap.size nl [] ⟨i, j, Lg.baseOf s, [], s, 0, 0, []⟩ := by
  refine ⟨hw2, KpAt.nil _ _, hM.keep hf2 (fun e => e), rfl, (fun k cs hm => by cases hm), ⟨.inl rfl, .inr rfl, (fun y hy => by cases hy), fun y hy => hy.elim⟩, ⟨(fun e => e), (fun e => e), (fun y hy e => e)⟩, ?_⟩
  rintro y (rfl | rfl) <;> omega
 refine (dI w2 (n := s) hs (by omega)).mono ?_
 rintro _ w2 ⟨rfl, rfl⟩
 refine (nT (L := ⟨i, j, Lg.baseOf s, [], s, 0, 0, []⟩) hi2 hij hj (h.keep0 hF2) (k := (s - 1) / 54) (by omega)).mono ?_
 rintro _ w3 ⟨u, rfl, hu, hf3⟩
 have hF3 := Fmf hF2 hf3
 have hi3 := hi2.keep0 hf3
 obtain ⟨ha1, ha2⟩ := jd d i j s (by omega) hs
 have ea : IntKind.i64.wrap ((s : Int) - (Lg.baseOf s : Int)) = ((aheadOf s : Nat) : Int) := by unfold aheadOf; rw [ab] <;> omega
 have hDl : ∀ y, Dm b g m y → y < w0.heap.size := by
  rintro y (rfl | rfl | rfl)
  ·exact hlt.1
  ·exact hlt.2.1
  ·exact hlt.2.2
 have z2 := hF2.size
 simp only [RS, al]
 cases hz : decide ((aC d i j ((s - 1) / 54) j 0 []).2 = 0) with
 | false =>
  rw [hz, cond_false] at hE
  rw [decide_eq_false_iff_not] at hz
  simp only [RS, Bool.not_false]
  exact bad hF3 hz hE
 | true =>
 rw [hz, cond_true] at hE
 simp only [RS, Bool.not_true, hi3.c3, ea]
 refine bG (fun vs w4 => ∃ av, vs = [av] ∧ ON w0 w4 (fun y => y = lb ∨ y = w0.heap.size) (fun _ => False) (fun _ => False) lb b w0.heap.size g m [] ⟨i, j, Lg.baseOf s, [], s, 0, 0, []⟩ d av (be d i j s) nl [] []) ?_ ?_
 ·rintro _ w4 ⟨av, rfl, hON⟩ _
  refine ⟨av, rfl, ?_⟩
  generalize hall : be d i j s = all at ha1 ha2 hON
  refine ⟨fun vs w' => ∃ (e f : Nat) (out : List Rc) (ov : Value) (X P Q : Nat → Prop) (M : List (Int × Array Value)) (C : List (Array Value)), vs = [ov, iv (e : Int)] ∧ e ≤ all.length ∧ all.length < e + f ∧ aheadOf s ≤ e ∧ out.length ≤ e ∧ (e = aheadOf s ∨ Lg.baseOf s + e ≤ 4611686018427500000) ∧
   (∀ r ∈ out, (rCheck r).2 = 0 ∧ (∀ m ∈ r.imgs, m.2.lsn ≤ 9223372036854775807) ∧ (s : Int) ≤ r.lsn ∧ r.lsn < ((Lg.baseOf s + e : Nat) : Int)) ∧ fe (Lg.baseOf s) all f e out = iH d i j s ∧
   ON w0 w' X P Q lb b w0.heap.size g m M ⟨i, j, Lg.baseOf s, [], s, 0, 0, []⟩ d av all ov C out,
   fun vs _ => (all.length - nth vs 1).toNat, ⟨aheadOf s, all.length + 1, [], _, _, _, _, _, _, rfl, ha1, by omega, Nat.le_refl _, by simp, .inl rfl, (fun r hr => by cases hr), by rw [← hall]; rfl, hON⟩, ?_⟩
  rintro _ w5 ovv evv ⟨e, f, out, ov, X, P, Q, M, C, hvs, he, hf, hae, hoe, hbe, hout, hsc, hON5⟩
  cases hvs
  have hahd : aheadOf s = s - Lg.baseOf s := rfl
  have hbe' : Lg.baseOf s + e ≤ 9223372036854775807 := by omega
  have eb : IntKind.i64.wrap ((Lg.baseOf s : Int) + (e : Int)) = ((Lg.baseOf s + e : Nat) : Int) := by rw [ab] <;> omega
  obtain ⟨u5, q1, q2⟩ := tu (P := prog) B38 (KpAt.of_own hON5.ha) he
  simp only [RS, q1]
  refine af q2 ?_
  refine (ky w5 (all.drop e) (by rw [List.length_drop]; omega)).mono ?_
  rintro _ w6 ⟨cs, rfl, hok, hf6⟩
  have hON6 := hON5.keep0 hf6
  have hcz := hok.as.size
  have hone := hok.as.one
  simp only [RS]
  refine ao ?_
  intro x w7 hx hs7 hw7 hf7
  have hON7 := hON6.keep0 hf7
  refine aB hw7 rfl hcz hone ?_
  intro w8 hw8 hs8 hf8
  have hnx := hON6.new (x := x) (by omega)
  have hON8 := hON7.keep hf8 (by rintro y rfl; exact hnx)
  have hON9 := hON8.keep0 (Fm.drew _ w8)
  have fin : iH d i j s = (out, e) → _ := fun h1 => by
   have hLL : ms d i j s = ⟨i, j, Lg.baseOf s, all.take e, s, Lg.baseOf s + e, 0, keyed out⟩ := by unfold ms; rw [h1, hall]
   rw [hLL] at hE
   exact rH hON9 hj hij hs he ha2 hae hbe' hout
    (K := fun v w' => ∃ p ov, v = .tuple #[p, ov, iv (fh d ↑i ↑j ↑s).2] ∧ DAt w' b g m (fh d ↑i ↑j ↑s).1 ∧ Fm (Dm b g m) w0 w' ∧ ((fh d ↑i ↑j ↑s).2 ≠ 0 → p = .pointer none ∧ ov = nl) ∧ ((fh d ↑i ↑j ↑s).2 = 0 → OpnOk w0 w' p ov b (ms d i j s) (iH d i j s).1))
    (fun w9 hd9 hF9 hne => ⟨_, _, by rw [hE], by rw [hE]; exact hd9, hF9, fun _ => ⟨rfl, rfl⟩, fun e => absurd (by rw [hE] at e; exact e) hne⟩)
    (fun w9 hd9 hF9 hz9 hok9 => ⟨_, _, by rw [hE, hz9], by rw [hE]; exact hd9, hF9, fun e => absurd (by rw [hE]; exact hz9) e, fun _ => by rw [hLL, h1]; exact hok9⟩)
  cases hrd : (cA (all.drop e)).1 with
  | none =>
   have hne : ((cA (all.drop e)).2.2 != 0) = true := by
    obtain ⟨_, h1 | h1 | h1⟩ := nq hrd <;> rw [h1] <;> rfl
   simp only [RS, hne]
   exact ⟨trivial, trivial, fin (by rw [← hsc]; exact gG _ _ _ _ _ hrd)⟩
  | some r =>
  obtain ⟨ds1, ds2, ds3, ds4, ds5, ds6⟩ := ll hrd
  rw [hrd] at hok
  have hheld6 := hok.held
  obtain ⟨vs, vm, vi, vp, vt, rfl, hrows, _⟩ := hok
  have hw9 := (Fm.drew (fun _ => False) w8).heap hw8 (fun e => e)
  have cx : w8.cell? ⟨x, 0, none⟩ = some (iv r.lsn) := by rw [ag hw8]; rfl
  have cb : w8.cell? ⟨lb, 3, none⟩ = some (iv (Lg.baseOf s : Int)) := hON8.hi.c3
  have hne : ((cA (all.drop e)).2.2 != 0) = false := by rw [ds2]; rfl
  simp only [RS, hne, cx, cb, eb, al, true_and]
  cases hl : decide (r.lsn = ((Lg.baseOf s + e : Nat) : Int)) with
  | false =>
   rw [decide_eq_false_iff_not] at hl
   simp only [RS, Bool.not_false]
   exact fin (by rw [← hsc]; exact mS _ _ _ _ _ hrd hl)
  | true =>
  have hlen := Lg.enc_len ds1 ds6.lsns
  rw [List.length_drop] at ds4
  obtain ⟨f', rfl⟩ : ∃ f', f = f' + 1 := ⟨f - 1, by omega⟩
  rw [fe, hrd] at hsc
  simp only [hl, cond_true] at hsc
  rw [decide_eq_true_eq] at hl
  have hlsn : r.lsn ≤ 4611686018427387904 := (ds6.nums r.lsn (by unfold rNums; simp)).2
  have e5 : IntKind.i64.wrap ((e : Int) + ((cA (all.drop e)).2.1 : Int)) = ((e + (cA (all.drop e)).2.1 : Nat) : Int) := by rw [ab] <;> omega
  have c8 : w8.cell? ⟨lb, 8, none⟩ = some (.map (some w0.heap.size)) := hON8.hi.c8
  have z6 := hf6.size; have z7 := hf7.size; have z8 := hf8.size
  have hP1 : ∀ y, (w5.heap.size ≤ y ∧ y < w6.heap.size) → ¬ y = x := by
   rintro y ⟨_, hy⟩ rfl
   omega
  have hheld9 : Held w8.drew (fun y => w5.heap.size ≤ y ∧ y < w6.heap.size) (rcs r vs vm vi vp vt) r := ((hheld6.keep hf7 (fun _ _ e => e)).keep hf8 (fun y hy e => hP1 y hy e)).keep (Fm.drew (fun _ => False) w8) (fun _ _ e => e)
  have hw9' : w8.drew.drew.heap[x]? = some (.cells (rcs r vs vm vi vp vt) 28) := hw8
  have hON9' := hON9.keep0 (Fm.drew _ w8.drew)
  have hheld9' := hheld9.keep (Fm.drew (fun _ => False) w8.drew) (fun _ _ e => e)
  have hP2 : ∀ y, (w5.heap.size ≤ y ∧ y < w6.heap.size) → y < w8.drew.drew.heap.size ∧ w0.heap.size ≤ y ∧ ¬ X y ∧ ¬ Q y ∧ ovv.ownBlock ≠ some y ∧ av.ownBlock ≠ some y := fun y hy => by
   obtain ⟨p1, p2, p3, p4, p5⟩ := hON5.new hy.1
   have zz : w8.drew.drew.heap.size = w8.heap.size := rfl
   exact ⟨by omega, p1, p2, p3, p4, p5⟩
  obtain ⟨w10, hr10, hM10, hf10, hz10⟩ := fM uc hON9'.hi.mp r.lsn (rcs r vs vm vi vp vt)
  obtain ⟨hi10, hd10, ha10, ho10, hC10, hF10⟩ := hON9'.add hheld9' hP2 (fun q hq e => by have := (hout q hq).2.2.2; omega) hM10 hf10
  have hmbX : X w0.heap.size := hON5.hi.xs.2.1
  have hxm : x ≠ w0.heap.size := fun e => by have := hON5.hi.lt _ hmbX; omega
  have hw10 := hf10.heap hw9' hxm
  simp only [RS, Bool.not_true, c8, cx, ax hw9' (n := 16) rfl, true_and]
  refine lO hr10 ?_
  simp only [RS, ax hw10 (n := 16) rfl]
  have zd : w8.drew.drew.heap.size = w8.heap.size := rfl
  have hheld10 := hheld9'.keep hf10 (fun y hy e => (hP2 y hy).2.2.1 (by rw [e]; exact hmbX))
  refine (jH hheld10.now ds1).mono ?_
  rintro _ w11 ⟨cs2, rfl, hheld2, hf11⟩
  have z11 := hf11.size
  have ho11 := ae ho10 hf11 (fun _ _ _ _ e => e)
  have hF11 := Fmf hF10 hf11
  have hCl := hON5.hl
  have hcs2 : cs2.toList.length = 16 := by rw [Array.length_toList]; exact hheld2.now.size
  refine bq xh (by omega) 49 (cs := cs2.toList) hcs2 (uD hheld2.now _) hheld2.now.one ho11 (by unfold maxLen; omega) (by omega) hF11.size ?_
  intro v' w12 ho12 hcase
  have hF12 : Fm (fun y => ovv.ownBlock = some y) w11 w12 := by
   rcases hcase with ⟨q, k1, k2, k3⟩ | ⟨q, k1, k2, k3⟩
   ·exact k3.mono (by rintro y _ rfl; exact k1)
   ·exact k3.mono (fun _ _ e => e.elim)
  have hov : ∀ y, v'.ownBlock = some y → ovv.ownBlock = some y ∨ w11.heap.size ≤ y := fun y hy => by
   rcases hcase with ⟨q, k1, k2, k3⟩ | ⟨q, k1, k2, k3⟩
   ·rw [k2] at hy; cases hy; exact .inl k1
   ·rw [k1] at hy; cases hy; exact .inr k2
  have ovlt : ∀ y, ovv.ownBlock = some y → w0.heap.size ≤ y ∧ y < w5.heap.size := fun y hy => aX hON5.ho y hy
  have avlt : ∀ y, av.ownBlock = some y → w0.heap.size ≤ y ∧ y < w5.heap.size := fun y hy => aX hON5.ha y hy
  have z12 := hF12.size
  have z10 := hf10.size
  simp only [RS, e5]
  refine ⟨⟨e + (cA (all.drop e)).2.1, f', out ++ [r], v', fun y => X y ∨ (w5.heap.size ≤ y ∧ y < w6.heap.size), fun y => P y ∨ (w5.heap.size ≤ y ∧ y < w6.heap.size), fun y => Q y ∨ (w10.heap.size ≤ y ∧ y < w11.heap.size), gu M r.lsn (rcs r vs vm vi vp vt), C ++ [cs2], rfl, by omega, by omega, by omega, by rw [List.length_append, List.length_singleton]; omega, .inr (by omega), ?_, hsc, ?_⟩, by simp only [bM]; omega⟩
  ·intro q hq
   rcases List.mem_append.1 hq with hq | hq
   ·obtain ⟨p1, p2, p3, p4⟩ := hout q hq
    exact ⟨p1, p2, p3, by omega⟩
   ·simp only [List.mem_singleton] at hq
    subst hq
    exact ⟨ds1, ds6.lsns, by omega, by omega⟩
  ·have hX12 : ∀ y, (X y ∨ (w5.heap.size ≤ y ∧ y < w6.heap.size)) → ¬ ovv.ownBlock = some y := by
    rintro y (hy | hy) e
    ·exact (hON5.hon y e).1 hy
    ·have := (ovlt y e).2; omega
   have hne12 : ∀ y, Dm b g m y → ¬ ovv.ownBlock = some y := fun y hy e => by have := hDl y hy; have := (ovlt y e).1; omega
   refine ⟨(hi10.keep0 hf11).keep hF12 hX12, (hd10.keep0 hf11).keep hF12 (hne12 _ (.inl rfl)) (hne12 _ (.inr (.inl rfl))) (hne12 _ (.inr (.inr rfl))), ae (ae ha10 hf11 (fun _ _ _ _ e => e)) hF12 (fun k _ _ e q => aI hON5.ho hON5.ha (by decide) k q e), ?_, ?_, ?_, Fm.own hF11 hF12 (fun y hy => (ovlt y hy).1), ?_, ?_, ?_, ?_, hDl⟩
   ·rw [List.flatMap_append, List.length_append]
    simpa using ho12
   ·rw [List.length_append, List.length_append, hCl]; rfl
   ·intro q cs' r' h1 h2
    rw [List.getElem?_append] at h1 h2
    rw [hCl] at h1
    by_cases hq : q < out.length
    ·rw [if_pos hq] at h1 h2
     exact (((hC10 q cs' r' h1 h2).keep hf11 (fun _ _ e => e)).keep hF12 (fun y hy e => (hON5.hon y e).2 hy)).mono (fun y hy => .inl hy)
    ·rw [if_neg hq] at h1 h2
     obtain ⟨rfl, rfl⟩ : cs2 = cs' ∧ r = r' := by
      cases hqq : q - out.length with
      | zero => rw [hqq] at h1 h2; simp at h1 h2; exact ⟨h1, h2⟩
      | succ _ => rw [hqq] at h1; simp at h1
     exact (hheld2.keep hF12 (fun y hy e => by have := (ovlt y e).2; omega)).mono (fun y hy => .inr hy)
   ·rintro y (hy | hy)
    ·exact hON5.hX y hy
    ·have := hON5.hF.size; omega
   ·rintro y (hy | hy)
    ·obtain ⟨p1, p2, p3⟩ := hON5.hQ y hy
     refine ⟨p1, by omega, ?_⟩
     rintro (e | e)
     ·exact p3 e
     ·omega
    ·have := hON5.hF.size
     refine ⟨by omega, by omega, ?_⟩
     rintro (e | e)
     ·have := hON5.hi.lt y e; omega
     ·omega
   ·intro y hy
    rcases hov y hy with e | e
    ·have := (ovlt y e).2
     refine ⟨fun q => hX12 y q e, ?_⟩
     rintro (q | q)
     ·exact (hON5.hon y e).2 q
     ·omega
    ·refine ⟨?_, ?_⟩
     ·rintro (q | q)
      ·have := hON5.hi.lt y q; omega
      ·omega
     ·rintro (q | q)
      ·have := (hON5.hQ y q).2.1; omega
      ·omega
   ·intro y hy
    have := (avlt y hy).2
    refine ⟨?_, ?_⟩
    ·rintro (q | q)
     ·exact (hON5.han y hy).1 q
     ·omega
    ·rintro (q | q)
     ·exact (hON5.han y hy).2 q
     ·omega
 ·intro kk hkk
  have hlu := (CellsAt.of_own hu).lenV
  have dl : decide (((aC d i j ((s - 1) / 54) j 0 []).1.length : Int) < ((aheadOf s : Nat) : Int)) = decide ((aC d i j ((s - 1) / 54) j 0 []).1.length < aheadOf s) := by rw [decide_eq_decide]; omega
  have z3 := hF3.size
  simp only [RS, hlu, dl]
  cases hl : decide ((aC d i j ((s - 1) / 54) j 0 []).1.length < aheadOf s) with
  | true =>
   have hall : be d i j s = aG (aheadOf s) := by unfold be; rw [hl]; rfl
   simp only [RS]
   refine af (BRow.make B38 w3 (aheadOf s) (by omega)) ?_
   have hfa := Fm.alloc (fun _ => False) w3 (.cells (bc (List.replicate (aheadOf s) 0)).toArray 5)
   have hrow := cZ (w := w3) (e := 5) (sz := 1) (base := w0.heap.size) (n := aheadOf s) (l := bc (List.replicate (aheadOf s) 0)) (by rw [ba]; simp) (by omega) (by unfold maxLen; omega)
   refine hkk _ _ ⟨_, rfl, hi3.keep0 hfa, h.keep0 (Fmf hF3 hfa), ?_, World.ownsRow_nil _ _ _ _, rfl, (fun i cs r h1 => by simp at h1), Fmf hF3 hfa, ?_, (fun y hy => hy.elim), (fun y hy => by cases hy), ?_, hDl⟩
   ·rw [hall, Lg.zeros_len']; exact hrow
   ·rintro y (rfl | rfl) <;> omega
   ·intro y hy
    obtain rfl : w3.heap.size = y := by simpa [Value.ownBlock] using hy
    have := hi3.lt lb (.inl rfl)
    refine ⟨?_, fun e => e⟩
    rintro (e | e) <;> omega
  | false =>
   have hall : be d i j s = (aC d i j ((s - 1) / 54) j 0 []).1 := by unfold be; rw [hl]; rfl
   simp only [RS]
   refine hkk _ _ ⟨_, rfl, hi3, h.keep0 hF3, ?_, World.ownsRow_nil _ _ _ _, rfl, (fun i cs r h1 => by simp at h1), hF3, ?_, (fun y hy => hy.elim), (fun y hy => by cases hy), ?_, hDl⟩
   ·rw [hall]; exact aW hu z2
   ·rintro y (rfl | rfl) <;> omega
   ·intro y hy
    have := (aX hu y hy).1
    refine ⟨?_, fun e => e⟩
    rintro (e | e) <;> omega
end Go.Proofs.YthbngnlmgplijaaGreatDoor
