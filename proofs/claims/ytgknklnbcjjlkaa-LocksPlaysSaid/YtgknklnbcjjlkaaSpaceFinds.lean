/- SpaceFinds: the page that is found has so much room, and no lesser one has. -/
import Derived.Test.YtgknklnbcjjlkaaSpaceLaws
import Derived.Test.YtgknklnbcjjlkaaAlLaw
import Derived.Test.YtgknklnbcjjlkaaSorts
namespace Go.Proofs.Ytgknklnbcjjlkaa
open Go.Al Go.Proofs
open Go.ChangeShapes Go.WideShapes Go.ChangeAt Go.RowKit
set_option linter.unusedVariables false
set_option linter.unusedSimpArgs false
set_option linter.unusedSectionVars false

theorem own' : ownKnob Try.prog.godebug = none := by kernel_rfl
theorem laidOut' : laidOutB Try.prog = true := by kernel_rfl

def OpsWf (ops : List (Bool × Int × Int)) : Prop := ∀ o ∈ ops, (Lit.int .i64 o.2.1).wf = true ∧ (Lit.int .i64 o.2.2).wf = true

set_option maxRecDepth 100000 in
/-- A slice of changes that came in, opened: with what the numbers are. -/
theorem open_ops2 {H : Type} {enc : TypeId × Value → H} {w : World} {base : Nat} {spare : Nat → Bool} {held : Bool} {v : Value} {d : DataW H} {p : List MemPlace} {r : Reach} {b0 : Nat} (hval : Value.okWide Try.prog w r b0 22 v)
    (h : DataW.Trod enc Try.prog w base spare held 22 v d p) : ∃ a cap ops, v = .slice a ops.length cap ∧ OpsAt w a ops ∧ OpsWf ops ∧ (d = .nil ∧ ops = [] ∨ ∃ es sp, d = .slice es sp ∧ es.length = ops.length) := by
  obtain ⟨fuel, h⟩ := h
  obtain ⟨a, len, cap, rfl⟩ := okWide_slice Try.underlying22 hval
  rcases Deep.open_slice Try.underlying22 h with ⟨h0, h1⟩ | ⟨ad, len', cap', m, n, D, Pl, hcs, _, hl, hc, hm, hxe, hx⟩
  · simp [Value.cells] at h0
    obtain ⟨rfl, rfl, rfl⟩ := h0
    simp only [Prod.mk.injEq] at h1
    exact ⟨none, 0, [], rfl, ⟨by simp [maxLen], fun i o ho => by simp at ho⟩, fun o ho => by simp at ho, .inl ⟨h1.1, rfl⟩⟩
  · simp [Value.cells] at hcs
    obtain ⟨rfl, rfl, rfl⟩ := hcs
    simp only [Prod.mk.injEq] at hxe
    have hlm : len ≤ m := by rw [hm]; split <;> omega
    have e3 : Try.prog.cellsOf 26 = 3 := by kernel_rfl
    have key : ∀ i, i < len → ∃ o : Bool × Int × Int, (w.cell? (ad.add (i * 3)) = some (.bool o.1) ∧ w.cell? (ad.add (i * 3 + 1)) = some (iv o.2.1) ∧ w.cell? (ad.add (i * 3 + 2)) = some (iv o.2.2)) ∧ (Lit.int .i64 o.2.1).wf = true ∧ (Lit.int .i64 o.2.2).wf = true := by
      intro i hi
      obtain ⟨cs', h1, h2⟩ := hx i (by omega)
      rw [e3] at h1
      obtain ⟨_, hlen, hat⟩ := World.cells?_some h1
      obtain ⟨xs, n', _, _, _, _, hf⟩ := DataW.trod_struct Try.underlying26 h2
      match cs', hlen with
      | [c0, c1, c2], _ =>
        have f0 := hf 0 _ rfl
        have f1 := hf 1 _ rfl
        have f2 := hf 2 _ rfl
        have t0 : Try.prog.cellsOf 4 = 1 := by kernel_rfl
        have t1 : Try.prog.cellsOf 3 = 1 := by kernel_rfl
        replace f0 : DataW.trod enc Try.prog w base spare held n' 4 [c0] = xs[0]? := f0
        replace f1 : DataW.trod enc Try.prog w base spare held n' 3 [c1] = xs[1]? := f1
        replace f2 : DataW.trod enc Try.prog w base spare held n' 3 [c2] = xs[2]? := f2
        have hz : ∀ i, i < 3 → ∃ y, xs[i]? = some y := by
          intro i hi
          have : xs.length = 3 := by simpa using ‹xs.length = _›
          exact ⟨xs[i], by simp [this, hi]⟩
        obtain ⟨y0, hy0⟩ := hz 0 (by omega)
        obtain ⟨y1, hy1⟩ := hz 1 (by omega)
        obtain ⟨y2, hy2⟩ := hz 2 (by omega)
        rw [hy0] at f0; rw [hy1] at f1; rw [hy2] at f2
        obtain ⟨b, hb, _⟩ := DataW.trod_bool Try.underlying4 f0
        obtain ⟨p, hp, _, wp⟩ := DataW.trod_int Try.underlying3 f1
        obtain ⟨r, hr, _, wr⟩ := DataW.trod_int Try.underlying3 f2
        simp at hb hp hr
        have a0 := hat 0 (by omega)
        have a1 := hat 1 (by omega)
        have a2 := hat 2 (by omega)
        rw [add_add] at a0 a1 a2
        simp at a0 a1 a2
        exact ⟨(b, p, r), ⟨by rw [a0, hb], by rw [a1, hp], by rw [a2, hr]⟩, wp, wr⟩
    obtain ⟨f, hf⟩ := Deep.choose_lt (p := fun i (o : Bool × Int × Int) => (w.cell? (ad.add (i * 3)) = some (.bool o.1) ∧ w.cell? (ad.add (i * 3 + 1)) = some (iv o.2.1) ∧ w.cell? (ad.add (i * 3 + 2)) = some (iv o.2.2)) ∧ (Lit.int .i64 o.2.1).wf = true ∧ (Lit.int .i64 o.2.2).wf = true) key
    refine ⟨some ad, cap, (List.range len).map f, by simp, ⟨by simp; omega, fun i o ho => ?_⟩, fun o ho => ?_, .inr ⟨_, _, hxe.1, by simp⟩⟩
    · rw [List.getElem?_map, Option.map_eq_some_iff] at ho
      obtain ⟨j, hj, rfl⟩ := ho
      obtain ⟨hj1, rfl⟩ := List.getElem?_eq_some_iff.1 hj
      simp at hj1
      exact ⟨ad, rfl, by simpa using (hf i hj1).1⟩
    · obtain ⟨j, hj, rfl⟩ := List.mem_map.1 ho
      exact (hf j (by simpa using hj)).2

theorem ops_small {H : Type} {ts : List TypeId} {ds : List (DataW H)} (h : (DataW.weightsEach Try.prog ts ds).all (· ≤ reachBytes) = true) {j : Nat} {d : DataW H} {ops : List (Bool × Int × Int)} (ht : ts[j]? = some 22) (hd : ds[j]? = some d) (ho : d = .nil ∧ ops = [] ∨ ∃ es sp, d = .slice es sp ∧ es.length = ops.length) : ops.length * 24 ≤ 140737488351232 := by
  rcases ho with ⟨rfl, rfl⟩ | ⟨es, sp, rfl, hl⟩
  · simp
  · have := sized_slice h ht hd Try.underlying22
    have hb : Try.prog.bytesOf 26 = 24 := by kernel_rfl
    rw [hb] at this
    unfold reachBytes at this
    omega

theorem pages_spec {w : World} {b bm : Nat} {D : List (Int × Int)} (h : IsM w b bm D) (hwf : ∀ p ∈ D, (Lit.int .i64 p.1).wf = true) (hsz : D.length * 8 ≤ 140737488355328) :
    Cl Try.prog 23 [.pointer (some ⟨b, 0, none⟩)] w fun v w' => w'.ownsRow w.heap.size 3 1 v D.length ((sortK D).map iv) ∧ (v = .slice none 0 0 ↔ D = []) ∧ Fm (fun _ => False) w w' := by
  refine c23 ?_; unfold T23
  simp only [Pu_some, extV_0, extV_1, extV_2, extV_3, nilV_ptr, nilV_fn, faV_ptr, lenV_sl, lenS_s, capV_sl, pickV_t, pickV_f, unV_not, unV_neg, isB_t, isB_f, isB_u, binV_add, binV_sub, binV_mul, binV_eql, binV_neq, binV_lss, binV_leq, binV_gtr, binV_geq, binV_seql, binV_sneq, binV_slss, binV_beql, binV_bneq, binV_peql, binV_pneq, add_add, add_none, Nat.zero_add, Nat.add_zero, IfB_t, IfB_f, Gd_t, Gd_f, Ld_ptr, LdN_ptr, Option.isNone_some, Option.isNone_none, Option.isSome_some, Option.isSome_none, Bool.not_true, Bool.not_false, drew_cell, drew_heap, cell_at h.st, List.getElem?_toArray, List.getElem?_cons_zero]
  refine (keysA_spec (some bm) w).mono ?_
  rintro _ _ ⟨rfl, rfl⟩
  exact (sortedA_spec h.mp hwf hsz).mono fun v w' h => h

theorem sortK_len {β : Type} (D : List (Int × β)) : (sortK D).length = D.length := by rw [sortK, List.length_mergeSort, List.length_map]
theorem mem_sortK {β : Type} {D : List (Int × β)} {x : Int} : x ∈ sortK D ↔ x ∈ D.map (·.1) := by rw [sortK, List.mem_mergeSort]
theorem sortK_rises {β : Type} {D : List (Int × β)} (h : (D.map (·.1)).Nodup) : (sortK D).Pairwise (· < ·) := by
  have h1 : (sortK D).Pairwise (fun x y => decide (x ≤ y) = true) := List.pairwise_mergeSort (fun a b c h1 h2 => by simp at *; omega) (fun a b => by simp; omega) _
  have h2 : (sortK D).Nodup := by rw [sortK]; exact (List.mergeSort_perm _ _).nodup_iff.2 h
  exact (h1.and h2).imp fun ⟨h, hn⟩ => by simp at h; omega

theorem setD_len (D : List (Int × Int)) (p r : Int) : (setD D p r).length ≤ D.length + 1 := by
  have := congrArg List.length (keys_setD D p r)
  rw [List.length_map] at this
  rw [this]; split <;> simp
theorem delD_len (D : List (Int × Int)) (p : Int) : (delD D p).length ≤ D.length := by
  have := congrArg List.length (keys_delD D p)
  rw [List.length_map] at this
  rw [this]; exact Nat.le_trans (List.erase_sublist.length_le) (by simp)
theorem setD_wf {D : List (Int × Int)} (h : ∀ p ∈ D, (Lit.int .i64 p.1).wf = true) {p r : Int} (hp : (Lit.int .i64 p).wf = true) : ∀ q ∈ setD D p r, (Lit.int .i64 q.1).wf = true := by
  intro q hq
  have : q.1 ∈ (setD D p r).map (·.1) := List.mem_map.2 ⟨q, hq, rfl⟩
  rw [keys_setD] at this
  split at this
  · obtain ⟨y, hy, e⟩ := List.mem_map.1 this; rw [← e]; exact h y hy
  · simp only [List.mem_append, List.mem_singleton] at this
    rcases this with this | this
    · obtain ⟨y, hy, e⟩ := List.mem_map.1 this; rw [← e]; exact h y hy
    · rw [this]; exact hp
theorem delD_wf {D : List (Int × Int)} (h : ∀ p ∈ D, (Lit.int .i64 p.1).wf = true) {p : Int} : ∀ q ∈ delD D p, (Lit.int .i64 q.1).wf = true := by
  intro q hq
  have : q.1 ∈ (delD D p).map (·.1) := List.mem_map.2 ⟨q, hq, rfl⟩
  rw [keys_delD] at this
  obtain ⟨y, hy, e⟩ := List.mem_map.1 (List.mem_of_mem_erase this); rw [← e]; exact h y hy

theorem IsM.drew {w : World} {b bm : Nat} {D : List (Int × Int)} (h : IsM w b bm D) : IsM w.drew b bm D := h.keep (Fm.drew (fun _ => False) w) (fun e => e) (fun e => e)
theorem Fm.f {a b c : World} (h : Fm (fun _ => False) a b) (k : Fm (fun _ => False) b c) : Fm (fun _ => False) a c := h.trans k (fun _ _ e => e) (fun _ _ e => e)

theorem finds_law (w : World) (a0 : Option Addr) (c0 : Nat) (ops : List (Bool × Int × Int)) (room less : Int) (h0 : OpsAt w a0 ops) (hwf : OpsWf ops) (hsm : ops.length * 24 ≤ 140737488351232) :
    Cl Try.prog 5 [.slice a0 ops.length c0, iv room, iv less] w fun v w' => v = .bool true ∧ Fm (fun _ => False) w w' := by
  refine c5 ?_
  unfold T5
  refine (new_spec w).mono ?_
  rintro _ w1 ⟨b, bm, rfl, hb, hbm, hM, hf1⟩
  simp only [Pu_some, extV_0, extV_1, extV_2, extV_3, nilV_ptr, nilV_fn, faV_ptr, lenV_sl, lenS_s, capV_sl, pickV_t, pickV_f, unV_not, unV_neg, isB_t, isB_f, isB_u, binV_add, binV_sub, binV_mul, binV_eql, binV_neq, binV_lss, binV_leq, binV_gtr, binV_geq, binV_seql, binV_sneq, binV_slss, binV_beql, binV_bneq, binV_peql, binV_pneq, add_add, add_none, Nat.zero_add, Nat.add_zero, IfB_t, IfB_f, Gd_t, Gd_f, Ld_ptr, LdN_ptr, Option.isNone_some, Option.isNone_none, Option.isSome_some, Option.isSome_none, Bool.not_true, Bool.not_false, drew_cell, drew_heap]
  refine ⟨fun vs w2 => ∃ (k : Nat) (D : List (Int × Int)), vs = [iv k] ∧ k ≤ ops.length ∧ D.length ≤ k ∧ (∀ p ∈ D, (Lit.int .i64 p.1).wf = true) ∧ IsM w2 b bm D ∧ Fm (fun _ => False) w w2, fun vs _ => (ops.length - nth vs 0).toNat, ⟨0, [], rfl, by omega, by simp, by simp, hM, hf1⟩, ?_⟩
  rintro g w2 iw ⟨k, D, ⟨⟩, hk, hDk, hDw, hM, hf⟩
  by_cases hlt : k < ops.length
  · have e1 : decide ((k : Int) < (ops.length : Int)) = true := by simpa using hlt
    simp only [Pu_some, extV_0, extV_1, extV_2, extV_3, nilV_ptr, nilV_fn, faV_ptr, lenV_sl, lenS_s, capV_sl, pickV_t, pickV_f, unV_not, unV_neg, isB_t, isB_f, isB_u, binV_add, binV_sub, binV_mul, binV_eql, binV_neq, binV_lss, binV_leq, binV_gtr, binV_geq, binV_seql, binV_sneq, binV_slss, binV_beql, binV_bneq, binV_peql, binV_pneq, add_add, add_none, Nat.zero_add, Nat.add_zero, IfB_t, IfB_f, Gd_t, Gd_f, Ld_ptr, LdN_ptr, Option.isNone_some, Option.isNone_none, Option.isSome_some, Option.isSome_none, Bool.not_true, Bool.not_false, drew_cell, drew_heap, e1]
    have H0 := h0.keep hf
    obtain ⟨x, rfl, q0, q1, q2⟩ := H0.at_ k _ (List.getElem?_eq_getElem hlt)
    have hw1 := (hwf _ (List.getElem_mem hlt)).1
    refine Jn_at (fun vs w3 => vs = [] ∧ ∃ D', D'.length ≤ k + 1 ∧ (∀ p ∈ D', (Lit.int .i64 p.1).wf = true) ∧ IsM w3 b bm D' ∧ Fm (fun _ => False) w w3) ?_ ?_
    · rintro _ w3 ⟨rfl, D', hl', hw', hM', hf'⟩ _
      refine ⟨rfl, ?_⟩
      simp only [Pu_some, extV_0, extV_1, extV_2, extV_3, nilV_ptr, nilV_fn, faV_ptr, lenV_sl, lenS_s, capV_sl, pickV_t, pickV_f, unV_not, unV_neg, isB_t, isB_f, isB_u, binV_add, binV_sub, binV_mul, binV_eql, binV_neq, binV_lss, binV_leq, binV_gtr, binV_geq, binV_seql, binV_sneq, binV_slss, binV_beql, binV_bneq, binV_peql, binV_pneq, add_add, add_none, Nat.zero_add, Nat.add_zero, IfB_t, IfB_f, Gd_t, Gd_f, Ld_ptr, LdN_ptr, Option.isNone_some, Option.isNone_none, Option.isSome_some, Option.isSome_none, Bool.not_true, Bool.not_false, drew_cell, drew_heap, wrap_succ (i := k) (by omega)]
      exact ⟨⟨k + 1, D', rfl, by omega, hl', hw', hM', hf'⟩, by simp only [nth_0]; omega⟩
    · intro kk hkk
      simp only [Pu_some, extV_0, extV_1, extV_2, extV_3, nilV_ptr, nilV_fn, faV_ptr, lenV_sl, lenS_s, capV_sl, pickV_t, pickV_f, unV_not, unV_neg, isB_t, isB_f, isB_u, binV_add, binV_sub, binV_mul, binV_eql, binV_neq, binV_lss, binV_leq, binV_gtr, binV_geq, binV_seql, binV_sneq, binV_slss, binV_beql, binV_bneq, binV_peql, binV_pneq, add_add, add_none, Nat.zero_add, Nat.add_zero, IfB_t, IfB_f, Gd_t, Gd_f, Ld_ptr, LdN_ptr, Option.isNone_some, Option.isNone_none, Option.isSome_some, Option.isSome_none, Bool.not_true, Bool.not_false, drew_cell, drew_heap, ixV_at hlt, q0]
      cases hd : (ops[k]).1
      · simp only [Pu_some, extV_0, extV_1, extV_2, extV_3, nilV_ptr, nilV_fn, faV_ptr, lenV_sl, lenS_s, capV_sl, pickV_t, pickV_f, unV_not, unV_neg, isB_t, isB_f, isB_u, binV_add, binV_sub, binV_mul, binV_eql, binV_neq, binV_lss, binV_leq, binV_gtr, binV_geq, binV_seql, binV_sneq, binV_slss, binV_beql, binV_bneq, binV_peql, binV_pneq, add_add, add_none, Nat.zero_add, Nat.add_zero, IfB_t, IfB_f, Gd_t, Gd_f, Ld_ptr, LdN_ptr, Option.isNone_some, Option.isNone_none, Option.isSome_some, Option.isSome_none, Bool.not_true, Bool.not_false, drew_cell, drew_heap, ixV_at hlt, q1, q2, true_and]
        refine (set_spec hM.drew _ _).mono ?_
        rintro _ w3 ⟨hM', hf'⟩
        exact hkk _ _ ⟨rfl, _, Nat.le_trans (setD_len _ _ _) (by omega), setD_wf hDw hw1, hM', (Fm.f hf (Fm.drew _ w2)).trans hf' (fun _ _ h => h) (fun x hx e => by omega)⟩
      · simp only [Pu_some, extV_0, extV_1, extV_2, extV_3, nilV_ptr, nilV_fn, faV_ptr, lenV_sl, lenS_s, capV_sl, pickV_t, pickV_f, unV_not, unV_neg, isB_t, isB_f, isB_u, binV_add, binV_sub, binV_mul, binV_eql, binV_neq, binV_lss, binV_leq, binV_gtr, binV_geq, binV_seql, binV_sneq, binV_slss, binV_beql, binV_bneq, binV_peql, binV_pneq, add_add, add_none, Nat.zero_add, Nat.add_zero, IfB_t, IfB_f, Gd_t, Gd_f, Ld_ptr, LdN_ptr, Option.isNone_some, Option.isNone_none, Option.isSome_some, Option.isSome_none, Bool.not_true, Bool.not_false, drew_cell, drew_heap, ixV_at hlt, q1]
        refine (drop_spec hM _).mono ?_
        rintro _ w3 ⟨hM', hf'⟩
        exact hkk _ _ ⟨rfl, _, Nat.le_trans (delD_len _ _) (by omega), delD_wf hDw, hM', hf.trans hf' (fun _ _ h => h) (fun x hx e => by omega)⟩
  · have hke : k = ops.length := by omega
    subst hke
    have e1 : decide ((ops.length : Int) < (ops.length : Int)) = false := by simp
    simp only [Pu_some, extV_0, extV_1, extV_2, extV_3, nilV_ptr, nilV_fn, faV_ptr, lenV_sl, lenS_s, capV_sl, pickV_t, pickV_f, unV_not, unV_neg, isB_t, isB_f, isB_u, binV_add, binV_sub, binV_mul, binV_eql, binV_neq, binV_lss, binV_leq, binV_gtr, binV_geq, binV_seql, binV_sneq, binV_slss, binV_beql, binV_bneq, binV_peql, binV_pneq, add_add, add_none, Nat.zero_add, Nat.add_zero, IfB_t, IfB_f, Gd_t, Gd_f, Ld_ptr, LdN_ptr, Option.isNone_some, Option.isNone_none, Option.isSome_some, Option.isSome_none, Bool.not_true, Bool.not_false, drew_cell, drew_heap, e1]
    clear hk hlt e1
    refine (find_spec hM room).mono ?_
    rintro _ w3 ⟨best, found, rfl, hR, hf3⟩
    have hM3 := hM.keep hf3 (fun e => e) (fun e => e)
    simp only [Pu_some, extV_0, extV_1, extV_2, extV_3, nilV_ptr, nilV_fn, faV_ptr, lenV_sl, lenS_s, capV_sl, pickV_t, pickV_f, unV_not, unV_neg, isB_t, isB_f, isB_u, binV_add, binV_sub, binV_mul, binV_eql, binV_neq, binV_lss, binV_leq, binV_gtr, binV_geq, binV_seql, binV_sneq, binV_slss, binV_beql, binV_bneq, binV_peql, binV_pneq, add_add, add_none, Nat.zero_add, Nat.add_zero, IfB_t, IfB_f, Gd_t, Gd_f, Ld_ptr, LdN_ptr, Option.isNone_some, Option.isNone_none, Option.isSome_some, Option.isSome_none, Bool.not_true, Bool.not_false, drew_cell, drew_heap]
    refine (pages_spec hM3 hDw (by omega)).mono ?_
    rintro v w4 ⟨hrow, hnil, hf4⟩
    have hM4 := hM3.keep hf4 (fun e => e) (fun e => e)
    have hlen := sortK_len D
    have hF4 := Fm.f (Fm.f hf hf3) hf4
    have hlt3 := hf3.size
    refine ⟨fun vs w5 => ∃ (k : Nat), vs = [iv k] ∧ k ≤ D.length ∧ IsM w5 b bm D ∧ Fm (fun _ => False) w w5 ∧ Fm (fun _ => False) w4 w5, fun vs _ => (D.length - nth vs 0).toNat, ⟨0, rfl, by omega, hM4, hF4, Fm.refl _ _⟩, ?_⟩
    rintro g w5 iw ⟨i, ⟨⟩, hi, hM5, hF5, hF45⟩
    have hrow5 := own_keep hrow hF45 (fun k hk hk' _ => fun e => e)
    have hlv := own_len hrow5
    simp only [Pu_some, extV_0, extV_1, extV_2, extV_3, nilV_ptr, nilV_fn, faV_ptr, lenV_sl, lenS_s, capV_sl, pickV_t, pickV_f, unV_not, unV_neg, isB_t, isB_f, isB_u, binV_add, binV_sub, binV_mul, binV_eql, binV_neq, binV_lss, binV_leq, binV_gtr, binV_geq, binV_seql, binV_sneq, binV_slss, binV_beql, binV_bneq, binV_peql, binV_pneq, add_add, add_none, Nat.zero_add, Nat.add_zero, IfB_t, IfB_f, Gd_t, Gd_f, Ld_ptr, LdN_ptr, Option.isNone_some, Option.isNone_none, Option.isSome_some, Option.isSome_none, Bool.not_true, Bool.not_false, drew_cell, drew_heap, hlv]
    by_cases hlt : i < D.length
    · have e1 : decide ((i : Int) < (D.length : Int)) = true := by simpa using hlt
      simp only [Pu_some, extV_0, extV_1, extV_2, extV_3, nilV_ptr, nilV_fn, faV_ptr, lenV_sl, lenS_s, capV_sl, pickV_t, pickV_f, unV_not, unV_neg, isB_t, isB_f, isB_u, binV_add, binV_sub, binV_mul, binV_eql, binV_neq, binV_lss, binV_leq, binV_gtr, binV_geq, binV_seql, binV_sneq, binV_slss, binV_beql, binV_bneq, binV_peql, binV_pneq, add_add, add_none, Nat.zero_add, Nat.add_zero, IfB_t, IfB_f, Gd_t, Gd_f, Ld_ptr, LdN_ptr, Option.isNone_some, Option.isNone_none, Option.isSome_some, Option.isSome_none, Bool.not_true, Bool.not_false, drew_cell, drew_heap, e1]
      rcases (own_cases hrow5).2 with ⟨rfl, h0⟩ | ⟨g, cap, rfl, hg1, hg2, hcell⟩
      · omega
      have hSi : (sortK D)[i]? = some ((sortK D)[i]'(by omega)) := List.getElem?_eq_getElem _
      generalize hx : (sortK D)[i]'(by omega) = x at hSi
      have ci : w5.cell? ⟨g, i, none⟩ = some (iv x) := by rw [hcell i hlt, List.getElem?_map, hSi]; rfl
      have hxm : x ∈ D.map (·.1) := mem_sortK.1 (List.mem_of_getElem? hSi)
      obtain ⟨⟨x', n⟩, hxn, hxe⟩ := List.mem_map.1 hxm
      simp only at hxe
      subst hxe
      have hget : getD D x' = some n := (getD_some hM.mp.keys).2 hxn
      simp only [Pu_some, extV_0, extV_1, extV_2, extV_3, nilV_ptr, nilV_fn, faV_ptr, lenV_sl, lenS_s, capV_sl, pickV_t, pickV_f, unV_not, unV_neg, isB_t, isB_f, isB_u, binV_add, binV_sub, binV_mul, binV_eql, binV_neq, binV_lss, binV_leq, binV_gtr, binV_geq, binV_seql, binV_sneq, binV_slss, binV_beql, binV_bneq, binV_peql, binV_pneq, add_add, add_none, Nat.zero_add, Nat.add_zero, IfB_t, IfB_f, Gd_t, Gd_f, Ld_ptr, LdN_ptr, Option.isNone_some, Option.isNone_none, Option.isSome_some, Option.isSome_none, Bool.not_true, Bool.not_false, drew_cell, drew_heap, ixV_at hlt, add_none, Nat.mul_one, Nat.zero_add, ci]
      refine (room_spec hM5 _).mono ?_
      rintro _ w5 ⟨rfl, rfl⟩
      simp only [Pu_some, extV_0, extV_1, extV_2, extV_3, nilV_ptr, nilV_fn, faV_ptr, lenV_sl, lenS_s, capV_sl, pickV_t, pickV_f, unV_not, unV_neg, isB_t, isB_f, isB_u, binV_add, binV_sub, binV_mul, binV_eql, binV_neq, binV_lss, binV_leq, binV_gtr, binV_geq, binV_seql, binV_sneq, binV_slss, binV_beql, binV_bneq, binV_peql, binV_pneq, add_add, add_none, Nat.zero_add, Nat.add_zero, IfB_t, IfB_f, Gd_t, Gd_f, Ld_ptr, LdN_ptr, Option.isNone_some, Option.isNone_none, Option.isSome_some, Option.isSome_none, Bool.not_true, Bool.not_false, drew_cell, drew_heap, roomV, hget, Option.getD_some, Option.isSome_some]
      have hF6 := Fm.f hF5 (Fm.drew (fun _ => False) w5)
      have hF46 := Fm.f hF45 (Fm.drew (fun _ => False) w5)
      have done : (∃ k : Nat, [iv ((i + 1 : Nat) : Int)] = [iv k] ∧ k ≤ D.length ∧ IsM w5.drew b bm D ∧ Fm (fun _ => False) w w5.drew ∧ Fm (fun _ => False) w4 w5.drew) ∧ ((D.length : Int) - nth [iv ((i + 1 : Nat) : Int)] 0).toNat < ((D.length : Int) - nth [iv (i : Int)] 0).toNat :=
        ⟨⟨i + 1, rfl, by omega, hM5.drew, hF6, hF46⟩, by simp only [nth_0]; omega⟩
      have hws := wrap_succ (i := i) (by omega)
      have fnd : room ≤ n → found = true ∧ decide (x' < best) = false := fun hr => by
        have h1 := find_ex hR hxn hr
        exact ⟨h1, by simpa using (hR.yes h1).2 _ hxn hr⟩
      rcases Nat.eq_zero_or_pos i with h0 | h0
      · have e2 : decide ((0 : Int) < (i : Int)) = false := by simp [h0]
        rcases Int.lt_or_le n room with hr | hr
        · have e3 : decide (room ≤ n) = false := by simpa using hr
          simp only [Pu_some, extV_0, extV_1, extV_2, extV_3, nilV_ptr, nilV_fn, faV_ptr, lenV_sl, lenS_s, capV_sl, pickV_t, pickV_f, unV_not, unV_neg, isB_t, isB_f, isB_u, binV_add, binV_sub, binV_mul, binV_eql, binV_neq, binV_lss, binV_leq, binV_gtr, binV_geq, binV_seql, binV_sneq, binV_slss, binV_beql, binV_bneq, binV_peql, binV_pneq, add_add, add_none, Nat.zero_add, Nat.add_zero, IfB_t, IfB_f, Gd_t, Gd_f, Ld_ptr, LdN_ptr, Option.isNone_some, Option.isNone_none, Option.isSome_some, Option.isSome_none, Bool.not_true, Bool.not_false, drew_cell, drew_heap, e2, e3, hws, true_and]
          exact done
        · have e3 : decide (room ≤ n) = true := by simpa using hr
          obtain ⟨rfl, e4⟩ := fnd hr
          simp only [Pu_some, extV_0, extV_1, extV_2, extV_3, nilV_ptr, nilV_fn, faV_ptr, lenV_sl, lenS_s, capV_sl, pickV_t, pickV_f, unV_not, unV_neg, isB_t, isB_f, isB_u, binV_add, binV_sub, binV_mul, binV_eql, binV_neq, binV_lss, binV_leq, binV_gtr, binV_geq, binV_seql, binV_sneq, binV_slss, binV_beql, binV_bneq, binV_peql, binV_pneq, add_add, add_none, Nat.zero_add, Nat.add_zero, IfB_t, IfB_f, Gd_t, Gd_f, Ld_ptr, LdN_ptr, Option.isNone_some, Option.isNone_none, Option.isSome_some, Option.isSome_none, Bool.not_true, Bool.not_false, drew_cell, drew_heap, e2, e3, e4, ixV_at hlt, add_none, Nat.mul_one, Nat.zero_add, ci, hws, true_and]
          exact done
      · have e2 : decide ((0 : Int) < (i : Int)) = true := by simpa using h0
        obtain ⟨j, rfl⟩ : ∃ j, i = j + 1 := ⟨i - 1, by omega⟩
        have hSj : (sortK D)[j]? = some ((sortK D)[j]'(by omega)) := List.getElem?_eq_getElem _
        have hjx : (sortK D)[j]'(by omega) < x' := by
          have := List.pairwise_iff_getElem.1 (sortK_rises hM.mp.keys) j (j + 1) (by omega) (by omega) (by omega)
          rw [hx] at this; exact this
        generalize (sortK D)[j]'(by omega) = y at hSj hjx
        have cj : w5.cell? ⟨g, j, none⟩ = some (iv y) := by rw [hcell j (by omega), List.getElem?_map, hSj]; rfl
        have hwj : IntKind.i64.wrap (((j + 1 : Nat) : Int) - 1) = (j : Int) := by rw [wrap_id] <;> omega
        have hltj : j < D.length := by omega
        have e5 : decide (x' ≤ y) = false := by simpa using hjx
        rcases Int.lt_or_le n room with hr | hr
        · have e3 : decide (room ≤ n) = false := by simpa using hr
          simp only [Pu_some, extV_0, extV_1, extV_2, extV_3, nilV_ptr, nilV_fn, faV_ptr, lenV_sl, lenS_s, capV_sl, pickV_t, pickV_f, unV_not, unV_neg, isB_t, isB_f, isB_u, binV_add, binV_sub, binV_mul, binV_eql, binV_neq, binV_lss, binV_leq, binV_gtr, binV_geq, binV_seql, binV_sneq, binV_slss, binV_beql, binV_bneq, binV_peql, binV_pneq, add_add, add_none, Nat.zero_add, Nat.add_zero, IfB_t, IfB_f, Gd_t, Gd_f, Ld_ptr, LdN_ptr, Option.isNone_some, Option.isNone_none, Option.isSome_some, Option.isSome_none, Bool.not_true, Bool.not_false, drew_cell, drew_heap, e2, e3, hwj, ixV_at hlt, ixV_at hltj, add_none, Nat.mul_one, Nat.zero_add, ci, cj, e5, hws, true_and]
          exact done
        · have e3 : decide (room ≤ n) = true := by simpa using hr
          obtain ⟨rfl, e4⟩ := fnd hr
          simp only [Pu_some, extV_0, extV_1, extV_2, extV_3, nilV_ptr, nilV_fn, faV_ptr, lenV_sl, lenS_s, capV_sl, pickV_t, pickV_f, unV_not, unV_neg, isB_t, isB_f, isB_u, binV_add, binV_sub, binV_mul, binV_eql, binV_neq, binV_lss, binV_leq, binV_gtr, binV_geq, binV_seql, binV_sneq, binV_slss, binV_beql, binV_bneq, binV_peql, binV_pneq, add_add, add_none, Nat.zero_add, Nat.add_zero, IfB_t, IfB_f, Gd_t, Gd_f, Ld_ptr, LdN_ptr, Option.isNone_some, Option.isNone_none, Option.isSome_some, Option.isSome_none, Bool.not_true, Bool.not_false, drew_cell, drew_heap, e2, e3, e4, hwj, ixV_at hlt, ixV_at hltj, add_none, Nat.mul_one, Nat.zero_add, ci, cj, e5, hws, true_and]
          exact done
    · have hie : i = D.length := by omega
      subst hie
      have e1 : decide ((D.length : Int) < (D.length : Int)) = false := by simp
      simp only [Pu_some, extV_0, extV_1, extV_2, extV_3, nilV_ptr, nilV_fn, faV_ptr, lenV_sl, lenS_s, capV_sl, pickV_t, pickV_f, unV_not, unV_neg, isB_t, isB_f, isB_u, binV_add, binV_sub, binV_mul, binV_eql, binV_neq, binV_lss, binV_leq, binV_gtr, binV_geq, binV_seql, binV_sneq, binV_slss, binV_beql, binV_bneq, binV_peql, binV_pneq, add_add, add_none, Nat.zero_add, Nat.add_zero, IfB_t, IfB_f, Gd_t, Gd_f, Ld_ptr, LdN_ptr, Option.isNone_some, Option.isNone_none, Option.isSome_some, Option.isSome_none, Bool.not_true, Bool.not_false, drew_cell, drew_heap, e1]
      clear hi hlt e1
      have hmin : ∃ m, min2V (iv less) (iv room) = some (iv m) ∧ m ≤ room := ⟨_, rfl, by split <;> omega⟩
      obtain ⟨m, hmin, hmle⟩ := hmin
      refine Jn_at (fun vs w6 => vs = [] ∧ w6 = w5) ?_ ?_
      · rintro _ _ ⟨rfl, rfl⟩ _
        refine ⟨rfl, ?_⟩
        simp only [Pu_some, extV_0, extV_1, extV_2, extV_3, nilV_ptr, nilV_fn, faV_ptr, lenV_sl, lenS_s, capV_sl, pickV_t, pickV_f, unV_not, unV_neg, isB_t, isB_f, isB_u, binV_add, binV_sub, binV_mul, binV_eql, binV_neq, binV_lss, binV_leq, binV_gtr, binV_geq, binV_seql, binV_sneq, binV_slss, binV_beql, binV_bneq, binV_peql, binV_pneq, add_add, add_none, Nat.zero_add, Nat.add_zero, IfB_t, IfB_f, Gd_t, Gd_f, Ld_ptr, LdN_ptr, Option.isNone_some, Option.isNone_none, Option.isSome_some, Option.isSome_none, Bool.not_true, Bool.not_false, drew_cell, drew_heap, foldV0, foldV, hmin, Option.bind_some]
        refine (find_spec hM5 m).mono ?_
        rintro _ w6 ⟨q, also, rfl, hQ, hf6⟩
        have hF6 := Fm.f hF5 hf6
        have aw : Cl Try.prog 16 [] w6 (fun t143 w_268 => t143 = Value.bool true ∧ Fm (fun _ => False) w w_268) := (awake_spec w6).mono fun _ w7 ⟨h, hf7⟩ => ⟨h, Fm.f hF6 hf7⟩
        cases found with
        | false =>
          simp only [Pu_some, extV_0, extV_1, extV_2, extV_3, nilV_ptr, nilV_fn, faV_ptr, lenV_sl, lenS_s, capV_sl, pickV_t, pickV_f, unV_not, unV_neg, isB_t, isB_f, isB_u, binV_add, binV_sub, binV_mul, binV_eql, binV_neq, binV_lss, binV_leq, binV_gtr, binV_geq, binV_seql, binV_sneq, binV_slss, binV_beql, binV_bneq, binV_peql, binV_pneq, add_add, add_none, Nat.zero_add, Nat.add_zero, IfB_t, IfB_f, Gd_t, Gd_f, Ld_ptr, LdN_ptr, Option.isNone_some, Option.isNone_none, Option.isSome_some, Option.isSome_none, Bool.not_true, Bool.not_false, drew_cell, drew_heap]
          refine aw.mono ?_
          rintro _ w7 ⟨rfl, hF7⟩
          exact ⟨rfl, hF7⟩
        | true =>
          obtain ⟨r, hr, hle⟩ := (hR.yes rfl).1
          have ha : also = true := find_ex hQ hr (by simp; omega)
          have hq : q ≤ best := (hQ.yes ha).2 _ hr (by simp; omega)
          have e2 : decide (q ≤ best) = true := by simpa using hq
          subst ha
          simp only [Pu_some, extV_0, extV_1, extV_2, extV_3, nilV_ptr, nilV_fn, faV_ptr, lenV_sl, lenS_s, capV_sl, pickV_t, pickV_f, unV_not, unV_neg, isB_t, isB_f, isB_u, binV_add, binV_sub, binV_mul, binV_eql, binV_neq, binV_lss, binV_leq, binV_gtr, binV_geq, binV_seql, binV_sneq, binV_slss, binV_beql, binV_bneq, binV_peql, binV_pneq, add_add, add_none, Nat.zero_add, Nat.add_zero, IfB_t, IfB_f, Gd_t, Gd_f, Ld_ptr, LdN_ptr, Option.isNone_some, Option.isNone_none, Option.isSome_some, Option.isSome_none, Bool.not_true, Bool.not_false, drew_cell, drew_heap, e2]
          refine aw.mono ?_
          rintro _ w7 ⟨rfl, hF7⟩
          exact ⟨rfl, hF7⟩
      · intro kk hkk
        cases found with
        | false =>
          simp only [Pu_some, extV_0, extV_1, extV_2, extV_3, nilV_ptr, nilV_fn, faV_ptr, lenV_sl, lenS_s, capV_sl, pickV_t, pickV_f, unV_not, unV_neg, isB_t, isB_f, isB_u, binV_add, binV_sub, binV_mul, binV_eql, binV_neq, binV_lss, binV_leq, binV_gtr, binV_geq, binV_seql, binV_sneq, binV_slss, binV_beql, binV_bneq, binV_peql, binV_pneq, add_add, add_none, Nat.zero_add, Nat.add_zero, IfB_t, IfB_f, Gd_t, Gd_f, Ld_ptr, LdN_ptr, Option.isNone_some, Option.isNone_none, Option.isSome_some, Option.isSome_none, Bool.not_true, Bool.not_false, drew_cell, drew_heap]
          exact hkk _ _ ⟨rfl, rfl⟩
        | true =>
          simp only [Pu_some, extV_0, extV_1, extV_2, extV_3, nilV_ptr, nilV_fn, faV_ptr, lenV_sl, lenS_s, capV_sl, pickV_t, pickV_f, unV_not, unV_neg, isB_t, isB_f, isB_u, binV_add, binV_sub, binV_mul, binV_eql, binV_neq, binV_lss, binV_leq, binV_gtr, binV_geq, binV_seql, binV_sneq, binV_slss, binV_beql, binV_bneq, binV_peql, binV_pneq, add_add, add_none, Nat.zero_add, Nat.add_zero, IfB_t, IfB_f, Gd_t, Gd_f, Ld_ptr, LdN_ptr, Option.isNone_some, Option.isNone_none, Option.isSome_some, Option.isSome_none, Bool.not_true, Bool.not_false, drew_cell, drew_heap]
          refine (room_spec hM5 _).mono ?_
          rintro _ w5 ⟨rfl, rfl⟩
          obtain ⟨r, hr, hle⟩ := (hR.yes rfl).1
          have hget : getD D best = some r := (getD_some hM.mp.keys).2 hr
          have e2 : decide (r < room) = false := by simpa using hle
          simp only [Pu_some, extV_0, extV_1, extV_2, extV_3, nilV_ptr, nilV_fn, faV_ptr, lenV_sl, lenS_s, capV_sl, pickV_t, pickV_f, unV_not, unV_neg, isB_t, isB_f, isB_u, binV_add, binV_sub, binV_mul, binV_eql, binV_neq, binV_lss, binV_leq, binV_gtr, binV_geq, binV_seql, binV_sneq, binV_slss, binV_beql, binV_bneq, binV_peql, binV_pneq, add_add, add_none, Nat.zero_add, Nat.add_zero, IfB_t, IfB_f, Gd_t, Gd_f, Ld_ptr, LdN_ptr, Option.isNone_some, Option.isNone_none, Option.isSome_some, Option.isSome_none, Bool.not_true, Bool.not_false, drew_cell, drew_heap, roomV, hget, Option.getD_some, Option.isSome_some, e2]
          exact hkk _ _ ⟨rfl, rfl⟩

end Go.Proofs.Ytgknklnbcjjlkaa
