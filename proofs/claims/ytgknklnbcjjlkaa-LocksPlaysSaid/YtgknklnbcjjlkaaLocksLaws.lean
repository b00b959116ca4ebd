/- The laws of package locks: LocksNil, LocksOne, LocksRing, LocksFree. -/
import Derived.Test.YtgknklnbcjjlkaaLocks2
import Derived.Test.YtgknklnbcjjlkaaAlLaw
namespace Go.Proofs.Ytgknklnbcjjlkaa
open Go.Al Go.Proofs
open Go.ChangeShapes Go.WideShapes Go.ChangeAt Go.RowKit
set_option linter.unusedVariables false
set_option linter.unusedSimpArgs false
set_option linter.unusedSectionVars false

abbrev LOp := Bool × Int × ByteArray
/-- A list of calls that came in. -/
structure LopsAt (w : World) (a : Option Addr) (ops : List LOp) : Prop where
  at_ : ∀ i o, ops[i]? = some o → ∃ x, a = some x ∧ w.cell? (x.add (i * 3)) = some (.bool o.1) ∧ w.cell? (x.add (i * 3 + 1)) = some (jv o.2.1) ∧ w.cell? (x.add (i * 3 + 2)) = some (sv o.2.2)
  wf : ∀ o ∈ ops, (Lit.int .i64 o.2.1).wf = true
theorem LopsAt.keep {w w' : World} {a : Option Addr} {ops : List LOp} (h : LopsAt w a ops) (hf : Fm (fun _ => False) w w') : LopsAt w' a ops := by
  refine ⟨fun i o ho => ?_, h.wf⟩
  obtain ⟨x, hx, h0, h1, h2⟩ := h.at_ i o ho
  exact ⟨x, hx, hf.cell' h0 (fun e => e), hf.cell' h1 (fun e => e), hf.cell' h2 (fun e => e)⟩

set_option maxRecDepth 100000 in
theorem open_lops {H : Type} {enc : TypeId × Value → H} {w : World} {base : Nat} {spare : Nat → Bool} {held : Bool} {v : Value} {d : DataW H} {p : List MemPlace} {r : Reach} {b0 : Nat} (hval : Value.okWide Try.prog w r b0 41 v)
    (h : DataW.Trod enc Try.prog w base spare held 41 v d p) : ∃ a cap ops, v = .slice a ops.length cap ∧ LopsAt w a ops ∧ (d = .nil ∧ ops = [] ∨ ∃ es sp, d = .slice es sp ∧ es.length = ops.length) := by
  obtain ⟨fuel, h⟩ := h
  obtain ⟨a, len, cap, rfl⟩ := okWide_slice Try.underlying41 hval
  rcases Deep.open_slice Try.underlying41 h with ⟨h0, h1⟩ | ⟨ad, len', cap', m, n, D, Pl, hcs, _, hl, hc, hm, hxe, hx⟩
  · simp [Value.cells] at h0
    obtain ⟨rfl, rfl, rfl⟩ := h0
    simp only [Prod.mk.injEq] at h1
    exact ⟨none, 0, [], rfl, ⟨fun i o ho => by simp at ho, fun o ho => by simp at ho⟩, .inl ⟨h1.1, rfl⟩⟩
  · simp [Value.cells] at hcs
    obtain ⟨rfl, rfl, rfl⟩ := hcs
    simp only [Prod.mk.injEq] at hxe
    have hlm : len ≤ m := by rw [hm]; split <;> omega
    have e3 : Try.prog.cellsOf 45 = 3 := by kernel_rfl
    have key : ∀ i, i < len → ∃ o : LOp, (w.cell? (ad.add (i * 3)) = some (.bool o.1) ∧ w.cell? (ad.add (i * 3 + 1)) = some (jv o.2.1) ∧ w.cell? (ad.add (i * 3 + 2)) = some (sv o.2.2)) ∧ (Lit.int .i64 o.2.1).wf = true := by
      intro i hi
      obtain ⟨cs', h1, h2⟩ := hx i (by omega)
      rw [e3] at h1
      obtain ⟨_, hlen, hat⟩ := World.cells?_some h1
      obtain ⟨xs, n', _, _, _, _, hf⟩ := DataW.trod_struct Try.underlying45 h2
      match cs', hlen with
      | [c0, c1, c2], _ =>
        have f0 := hf 0 _ rfl
        have f1 := hf 1 _ rfl
        have f2 := hf 2 _ rfl
        replace f0 : DataW.trod enc Try.prog w base spare held n' 4 [c0] = xs[0]? := f0
        replace f1 : DataW.trod enc Try.prog w base spare held n' 3 [c1] = xs[1]? := f1
        replace f2 : DataW.trod enc Try.prog w base spare held n' 9 [c2] = xs[2]? := f2
        have hz : ∀ i, i < 3 → ∃ y, xs[i]? = some y := by
          intro i hi
          have : xs.length = 3 := by simpa using ‹xs.length = _›
          exact ⟨xs[i], by simp [this, hi]⟩
        obtain ⟨y0, hy0⟩ := hz 0 (by omega)
        obtain ⟨y1, hy1⟩ := hz 1 (by omega)
        obtain ⟨y2, hy2⟩ := hz 2 (by omega)
        rw [hy0] at f0; rw [hy1] at f1; rw [hy2] at f2
        obtain ⟨b, hb, _⟩ := DataW.trod_bool Try.underlying4 f0
        obtain ⟨p, hp, _, wp⟩ := DataW.trod_int Try.underlying3 f1
        obtain ⟨r, hr, _, wr⟩ := DataW.trod_string Try.underlying9 f2
        simp at hb hp hr
        have a0 := hat 0 (by omega)
        have a1 := hat 1 (by omega)
        have a2 := hat 2 (by omega)
        rw [add_add] at a0 a1 a2
        simp at a0 a1 a2
        exact ⟨(b, p, r), ⟨by rw [a0, hb], by rw [a1, hp], by rw [a2, hr]⟩, wp⟩
    obtain ⟨f, hf⟩ := Deep.choose_lt (p := fun i (o : LOp) => (w.cell? (ad.add (i * 3)) = some (.bool o.1) ∧ w.cell? (ad.add (i * 3 + 1)) = some (jv o.2.1) ∧ w.cell? (ad.add (i * 3 + 2)) = some (sv o.2.2)) ∧ (Lit.int .i64 o.2.1).wf = true) key
    refine ⟨some ad, cap, (List.range len).map f, by simp, ⟨fun i o ho => ?_, fun o ho => ?_⟩, .inr ⟨_, _, hxe.1, by simp⟩⟩
    · rw [List.getElem?_map, Option.map_eq_some_iff] at ho
      obtain ⟨j, hj, rfl⟩ := ho
      obtain ⟨hj1, rfl⟩ := List.getElem?_eq_some_iff.1 hj
      simp at hj1
      exact ⟨ad, rfl, by simpa using (hf i hj1).1⟩
    · obtain ⟨j, hj, rfl⟩ := List.mem_map.1 ho
      exact (hf j (by simpa using hj)).2

theorem lops_small {H : Type} {ts : List TypeId} {ds : List (DataW H)} (h : (DataW.weightsEach Try.prog ts ds).all (· ≤ reachBytes) = true) {j : Nat} {d : DataW H} {ops : List LOp} (ht : ts[j]? = some 41) (hd : ds[j]? = some d) (ho : d = .nil ∧ ops = [] ∨ ∃ es sp, d = .slice es sp ∧ es.length = ops.length) : ops.length * 32 ≤ 140737488351232 := by
  rcases ho with ⟨rfl, rfl⟩ | ⟨es, sp, rfl, hl⟩
  · simp
  · have := sized_slice h ht hd Try.underlying41
    have hb : Try.prog.bytesOf 45 = 32 := by kernel_rfl
    rw [hb] at this
    unfold reachBytes at this
    omega

theorem len_sub {α : Type} [DecidableEq α] : ∀ {l m : List α}, l.Nodup → (∀ x ∈ l, x ∈ m) → l.length ≤ m.length
  | [], _, _, _ => by simp
  | x :: l, m, hn, hs => by
    rw [List.nodup_cons] at hn
    have hx := hs x (by simp)
    have := len_sub (l := l) (m := m.erase x) hn.2 (fun y hy => (List.mem_erase_of_ne (fun e => hn.1 (by rw [← e]; exact hy))).2 (hs y (by simp [hy])))
    rw [List.length_erase_of_mem hx] at this
    have := List.length_pos_of_mem hx
    simp only [List.length_cons]; omega

/-! ### What letting go does to the table -/
section
variable {H H' : HL} {W W' : WL} {who : Int} {ls : List Int}
theorem LetR.hget (h : LetR H W who H' W' ls) (hn : (H.map (·.1)).Nodup) (hn' : (H'.map (·.1)).Nodup) (key : ByteArray) (x : Int) : getD H' key = some x ↔ getD H key = some x ∧ x ≠ who := by
  rw [getD_some hn', getD_some hn, h.hold]
theorem LetR.wget (h : LetR H W who H' W' ls) (hn : (W.map (·.1)).Nodup) (hn' : (W'.map (·.1)).Nodup) (p : Int) (key : ByteArray) : getD W' p = some key ↔ getD W p = some key ∧ p ≠ who ∧ getD H key ≠ some who := by
  rw [getD_some hn', getD_some hn, h.wait]
theorem Sound.let (hs : Sound H W) (h : LetR H W who H' W' ls) (hnh : (H.map (·.1)).Nodup) (hnh' : (H'.map (·.1)).Nodup) (hnw : (W.map (·.1)).Nodup) (hnw' : (W'.map (·.1)).Nodup) : Sound H' W' := by
  obtain ⟨f, hf⟩ := hs.rank
  refine ⟨⟨f, fun p q ⟨key, h1, h2⟩ => hf p q ⟨key, ((h.wget hnw hnw' p key).1 h1).1, ((h.hget hnh hnh' key q).1 h2).1⟩⟩, fun p key hp => ?_⟩
  obtain ⟨h1, h2, h3⟩ := (h.wget hnw hnw' p key).1 hp
  have := hs.held p key h1
  cases hg : getD H key with
  | none => rw [hg] at this; cases this
  | some x =>
    rw [(h.hget hnh hnh' key x).2 ⟨hg, fun e => h3 (by rw [hg, e])⟩]; rfl
end

/-- What holds between two calls. -/
structure LI (w : World) (b bh bw : Nat) (H : HL) (W : WL) (n : Nat) : Prop where
  t : IsT w b bh bw H W
  s : Sound H W
  wf : ∀ p ∈ W, (Lit.int .i64 p.1).wf = true
  hl : H.length ≤ n
  wl : W.length ≤ n
theorem LI.keep {w w' : World} {b bh bw : Nat} {H : HL} {W : WL} {n : Nat} (h : LI w b bh bw H W n) (hf : Fm (fun _ => False) w w') : LI w' b bh bw H W n := ⟨h.t.keep hf (fun e => e) (fun e => e) (fun e => e), h.s, h.wf, h.hl, h.wl⟩
theorem LI.more {w : World} {b bh bw : Nat} {H : HL} {W : WL} {n m : Nat} (h : LI w b bh bw H W n) (hm : n ≤ m) : LI w b bh bw H W m := ⟨h.t, h.s, h.wf, Nat.le_trans h.hl hm, Nat.le_trans h.wl hm⟩
theorem LI.let {w w' : World} {b bh bw : Nat} {H H' : HL} {W W' : WL} {n : Nat} {who : Int} {ls : List Int} (h : LI w b bh bw H W n) (hr : LetR H W who H' W' ls) (ht : IsT w' b bh bw H' W') : LI w' b bh bw H' W' n := by
  refine ⟨ht, h.s.let hr h.t.hs.keys ht.hs.keys h.t.ws.keys ht.ws.keys, fun p hp => h.wf p ((hr.wait p).1 hp).1, Nat.le_trans (len_sub (nodup_pairs ht.hs.keys) fun x hx => ((hr.hold x).1 hx).1) h.hl, Nat.le_trans (len_sub (nodup_pairs ht.ws.keys) fun x hx => ((hr.wait x).1 hx).1) h.wl⟩
theorem setD_len' {α β : Type} [DecidableEq α] (D : List (α × β)) (p : α) (r : β) : (setD D p r).length ≤ D.length + 1 := by
  have := congrArg List.length (keys_setD D p r)
  rw [List.length_map] at this
  rw [this]; split <;> simp
theorem LI.try {w w' : World} {b bh bw : Nat} {H H' : HL} {W W' : WL} {n : Nat} {who : Int} {key : ByteArray} {ok : Bool} {e : Int} (h : LI w b bh bw H W n) (hw : (Lit.int .i64 who).wf = true) (hr : TryR H W who key H' W' ok e) (ht : IsT w' b bh bw H' W') : LI w' b bh bw H' W' (n + 1) := by
  have h1 := h.hl
  have h2 := h.wl
  have h3 := delD_le W who
  have hwd : ∀ p ∈ delD W who, (Lit.int .i64 p.1).wf = true := fun p hp => h.wf p ((mem_delD h.t.ws.keys who p).1 hp).1
  refine ⟨ht, h.s.try h.t.ws.keys hr, ?_, ?_, ?_⟩
  · cases hr with
    | take => exact hwd
    | ring => exact hwd
    | wait =>
      intro q hq
      have : q.1 ∈ (setD (delD W who) who key).map (·.1) := List.mem_map.2 ⟨q, hq, rfl⟩
      rw [keys_setD] at this
      split at this
      · obtain ⟨y, hy, e⟩ := List.mem_map.1 this; rw [← e]; exact hwd y hy
      · simp only [List.mem_append, List.mem_singleton] at this
        rcases this with this | this
        · obtain ⟨y, hy, e⟩ := List.mem_map.1 this; rw [← e]; exact hwd y hy
        · rw [this]; exact hw
  · cases hr with
    | take => have := setD_len' H key who; omega
    | ring => omega
    | wait => omega
  · cases hr with
    | take => omega
    | ring => omega
    | wait => have := setD_len' (delD W who) who key; omega
theorem Sound.nil : Sound [] [] := ⟨⟨fun _ => 0, fun p q ⟨k, h, _⟩ => by simp [getD_nil] at h⟩, fun p key h => by simp [getD_nil] at h⟩

def ka : ByteArray := ⟨#[97]⟩
def kb : ByteArray := ⟨#[98]⟩
theorem kab : ka ≠ kb := by decide

theorem awake_locks (w : World) : Cl Try.prog 30 [] w fun v w' => v = .bool true ∧ Fm (fun _ => False) w w' := by
  refine c30 ?_
  unfold T30
  refine (lnew_spec w).mono ?_
  rintro _ w1 ⟨b, bh, bw, rfl, hb, hbh, hbw, hT, hf1⟩
  simp only [Pu_some, extV_0, extV_1, extV_2, extV_3, nilV_ptr, nilV_fn, faV_ptr, lenV_sl, lenS_s, capV_sl, pickV_t, pickV_f, unV_not, unV_neg, isB_t, isB_f, isB_u, binV_add, binV_sub, binV_mul, binV_eql, binV_neq, binV_lss, binV_leq, binV_gtr, binV_geq, binV_seql, binV_sneq, binV_slss, binV_beql, binV_bneq, binV_peql, binV_pneq, add_add, add_none, Go.Al.add_zero, Nat.zero_add, Nat.add_zero, IfB_t, IfB_f, Gd_t, Gd_f, Ld_ptr, LdN_ptr, Option.isNone_some, Option.isNone_none, Option.isSome_some, Option.isSome_none, Bool.not_true, Bool.not_false, drew_cell, drew_heap]
  refine (try_spec hT Sound.nil 1 ka).mono ?_
  rintro _ w2 ⟨H1, W1, a, e1, rfl, hr1, hT1, hf2⟩
  have hs1 := Sound.nil.try (by simp) hr1
  have k1 : H1 = [(ka, 1)] ∧ W1 = [] ∧ a = true := by
    cases hr1 with
    | take => exact ⟨rfl, rfl, rfl⟩
    | ring h h1 => simp [getD_nil] at h1
    | wait h h1 => simp [getD_nil] at h1
  obtain ⟨rfl, rfl, rfl⟩ := k1
  simp only [Pu_some, extV_0, extV_1, extV_2, extV_3, nilV_ptr, nilV_fn, faV_ptr, lenV_sl, lenS_s, capV_sl, pickV_t, pickV_f, unV_not, unV_neg, isB_t, isB_f, isB_u, binV_add, binV_sub, binV_mul, binV_eql, binV_neq, binV_lss, binV_leq, binV_gtr, binV_geq, binV_seql, binV_sneq, binV_slss, binV_beql, binV_bneq, binV_peql, binV_pneq, add_add, add_none, Go.Al.add_zero, Nat.zero_add, Nat.add_zero, IfB_t, IfB_f, Gd_t, Gd_f, Ld_ptr, LdN_ptr, Option.isNone_some, Option.isNone_none, Option.isSome_some, Option.isSome_none, Bool.not_true, Bool.not_false, drew_cell, drew_heap]
  refine (try_spec hT1 hs1 2 kb).mono ?_
  rintro _ w3 ⟨H2, W2, c, e2, rfl, hr2, hT2, hf3⟩
  have hs2 := hs1.try (by simp) hr2
  have g1 : getD [(ka, (1 : Int))] kb = none := by rw [getD_cons, if_neg kab, getD_nil]
  have k2 : H2 = [(ka, 1), (kb, 2)] ∧ W2 = [] ∧ c = true := by
    cases hr2 with
    | take => exact ⟨by simp [setD, kab], rfl, rfl⟩
    | ring h h1 => rw [g1] at h1; cases h1
    | wait h h1 => rw [g1] at h1; cases h1
  obtain ⟨rfl, rfl, rfl⟩ := k2
  simp only [Pu_some, extV_0, extV_1, extV_2, extV_3, nilV_ptr, nilV_fn, faV_ptr, lenV_sl, lenS_s, capV_sl, pickV_t, pickV_f, unV_not, unV_neg, isB_t, isB_f, isB_u, binV_add, binV_sub, binV_mul, binV_eql, binV_neq, binV_lss, binV_leq, binV_gtr, binV_geq, binV_seql, binV_sneq, binV_slss, binV_beql, binV_bneq, binV_peql, binV_pneq, add_add, add_none, Go.Al.add_zero, Nat.zero_add, Nat.add_zero, IfB_t, IfB_f, Gd_t, Gd_f, Ld_ptr, LdN_ptr, Option.isNone_some, Option.isNone_none, Option.isSome_some, Option.isSome_none, Bool.not_true, Bool.not_false, drew_cell, drew_heap]
  refine (try_spec hT2 hs2 2 ka).mono ?_
  rintro _ w4 ⟨H3, W3, d, e3, rfl, hr3, hT3, hf4⟩
  have hs3 := hs2.try (by simp) hr3
  have g2 : getD [(ka, (1 : Int)), (kb, 2)] ka = some 1 := by rw [getD_cons, if_pos rfl]
  have g3 : getD [(ka, (1 : Int)), (kb, 2)] kb = some 2 := by rw [getD_cons, if_neg kab, getD_cons, if_pos rfl]
  have k3 : H3 = [(ka, 1), (kb, 2)] ∧ W3 = [(2, ka)] ∧ d = false ∧ e3 = 0 := by
    cases hr3 with
    | take h => rw [g2] at h; rcases h with h | h <;> cases h
    | ring h h1 h2 h3 =>
      exfalso
      rw [g2] at h1; cases h1
      cases h3 with
      | step e _ => obtain ⟨k, hk, _⟩ := e; simp [delD, getD_nil] at hk
    | wait h h1 => exact ⟨rfl, rfl, rfl, rfl⟩
  obtain ⟨rfl, rfl, rfl, rfl⟩ := k3
  simp only [Pu_some, extV_0, extV_1, extV_2, extV_3, nilV_ptr, nilV_fn, faV_ptr, lenV_sl, lenS_s, capV_sl, pickV_t, pickV_f, unV_not, unV_neg, isB_t, isB_f, isB_u, binV_add, binV_sub, binV_mul, binV_eql, binV_neq, binV_lss, binV_leq, binV_gtr, binV_geq, binV_seql, binV_sneq, binV_slss, binV_beql, binV_bneq, binV_peql, binV_pneq, add_add, add_none, Go.Al.add_zero, Nat.zero_add, Nat.add_zero, IfB_t, IfB_f, Gd_t, Gd_f, Ld_ptr, LdN_ptr, Option.isNone_some, Option.isNone_none, Option.isSome_some, Option.isSome_none, Bool.not_true, Bool.not_false, drew_cell, drew_heap]
  refine (try_spec hT3 hs3 1 kb).mono ?_
  rintro _ w5 ⟨H4, W4, q, e4, rfl, hr4, hT4, hf5⟩
  have k4 : W4 = [(2, ka)] ∧ q = false ∧ e4 = 181 := by
    cases hr4 with
    | take h => rw [g3] at h; rcases h with h | h <;> cases h
    | ring h h1 h2 h3 => exact ⟨by simp [delD], rfl, rfl⟩
    | wait h h1 h2 h3 =>
      exfalso
      rw [g3] at h1; cases h1
      exact h3 (.step ⟨ka, by simp [delD, getD_cons], g2⟩ (.here _))
  obtain ⟨rfl, rfl, rfl⟩ := k4
  simp only [Pu_some, extV_0, extV_1, extV_2, extV_3, nilV_ptr, nilV_fn, faV_ptr, lenV_sl, lenS_s, capV_sl, pickV_t, pickV_f, unV_not, unV_neg, isB_t, isB_f, isB_u, binV_add, binV_sub, binV_mul, binV_eql, binV_neq, binV_lss, binV_leq, binV_gtr, binV_geq, binV_seql, binV_sneq, binV_slss, binV_beql, binV_bneq, binV_peql, binV_pneq, add_add, add_none, Go.Al.add_zero, Nat.zero_add, Nat.add_zero, IfB_t, IfB_f, Gd_t, Gd_f, Ld_ptr, LdN_ptr, Option.isNone_some, Option.isNone_none, Option.isSome_some, Option.isSome_none, Bool.not_true, Bool.not_false, drew_cell, drew_heap, beq_self_eq_true]
  refine (waiting_spec hT4 (by intro p hp; simp at hp; subst hp; decide) (by simp)).mono ?_
  rintro v w6 ⟨hrow, _, hf6⟩
  have hlv := own_len hrow
  simp only [Pu_some, extV_0, extV_1, extV_2, extV_3, nilV_ptr, nilV_fn, faV_ptr, lenV_sl, lenS_s, capV_sl, pickV_t, pickV_f, unV_not, unV_neg, isB_t, isB_f, isB_u, binV_add, binV_sub, binV_mul, binV_eql, binV_neq, binV_lss, binV_leq, binV_gtr, binV_geq, binV_seql, binV_sneq, binV_slss, binV_beql, binV_bneq, binV_peql, binV_pneq, add_add, add_none, Go.Al.add_zero, Nat.zero_add, Nat.add_zero, IfB_t, IfB_f, Gd_t, Gd_f, Ld_ptr, LdN_ptr, Option.isNone_some, Option.isNone_none, Option.isSome_some, Option.isSome_none, Bool.not_true, Bool.not_false, drew_cell, drew_heap, hlv]
  refine ⟨rfl, ?_⟩
  have F : ∀ {a c : World}, Fm (fun _ => False) w a → Fm (fun x => x = bh ∨ x = bw) a c → Fm (fun _ => False) w c := fun h1 h2 => h1.trans h2 (fun _ _ e => e) (fun x hx e => by omega)
  exact Fmf (F (F (F (F hf1 hf2) hf3) hf4) hf5) hf6

end Go.Proofs.Ytgknklnbcjjlkaa
