/- What the functions of package locks do: who holds, who waits, taking a key. -/
import Derived.Test.YtgknklnbcjjlkaaCps
import Derived.Test.YtgknklnbcjjlkaaAlRow
namespace Go.Proofs.Ytgknklnbcjjlkaa
open Go.Al Go.Proofs
set_option linter.unusedVariables false
set_option linter.unusedSimpArgs false
set_option linter.unusedSectionVars false

abbrev jv : Int → Value := Value.int .i64
abbrev sv : ByteArray → Value := Value.string
theorem K74 : KeyT Try.prog 74 9 3 sv := keyT_str Try.underlying74 Try.underlying9
theorem K75 : KeyT Try.prog 75 3 9 jv := keyT_int Try.underlying75 Try.underlying3
theorem zz3 (w : World) : (zeroValue 3).run Try.prog w = .ok (jv 0) w := by kernel_rfl
theorem zz9 (w : World) : (zeroValue 9).run Try.prog w = .ok (sv ByteArray.empty) w := by kernel_rfl
theorem bld77 (u v : Nat) (w : World) : (Instr.build 77 #[(0, .map (some u)), (1, .map (some v))]).run Try.prog w = .ok (.agg #[.map (some u), .map (some v)]) w := by kernel_rfl

abbrev HL := List (ByteArray × Int)
abbrev WL := List (Int × ByteArray)
/-- A table: the struct in block b, who holds in bh, who waits in bw. -/
structure IsT (w : World) (b bh bw : Nat) (H : HL) (W : WL) : Prop where
  st : w.heap[b]? = some (.cells #[.map (some bh), .map (some bw)] 77)
  hs : MapAt w bh sv jv H
  ws : MapAt w bw jv sv W
  ne : bh ≠ bw

theorem IsT.nh {w : World} {b bh bw : Nat} {H : HL} {W : WL} (h : IsT w b bh bw H W) : b ≠ bh := by
  rintro rfl
  obtain ⟨es, c, hb, _⟩ := h.hs.ex
  rw [h.st] at hb; cases hb
theorem IsT.nw {w : World} {b bh bw : Nat} {H : HL} {W : WL} (h : IsT w b bh bw H W) : b ≠ bw := by
  rintro rfl
  obtain ⟨es, c, hb, _⟩ := h.ws.ex
  rw [h.st] at hb; cases hb
theorem IsT.keep {S : Nat → Prop} {w w' : World} {b bh bw : Nat} {H : HL} {W : WL} (h : IsT w b bh bw H W) (hf : Fm S w w') (h1 : ¬ S b) (h2 : ¬ S bh) (h3 : ¬ S bw) : IsT w' b bh bw H W := ⟨hf.heap h.st h1, h.hs.keep hf h2, h.ws.keep hf h3, h.ne⟩
theorem IsT.drew {w : World} {b bh bw : Nat} {H : HL} {W : WL} (h : IsT w b bh bw H W) : IsT w.drew b bh bw H W := h.keep (Fm.drew (fun _ => False) w) (fun e => e) (fun e => e) (fun e => e)
theorem IsT.cell0 {w : World} {b bh bw : Nat} {H : HL} {W : WL} (h : IsT w b bh bw H W) : w.cell? ⟨b, 0, none⟩ = some (.map (some bh)) := by rw [cell_at h.st]; rfl
theorem IsT.cell1 {w : World} {b bh bw : Nat} {H : HL} {W : WL} (h : IsT w b bh bw H W) : w.cell? ⟨b, 1, none⟩ = some (.map (some bw)) := by rw [cell_at h.st]; rfl

theorem lnew_spec (w : World) : Cl Try.prog 26 [] w fun v w' => ∃ b bh bw, v = .pointer (some ⟨b, 0, none⟩) ∧ w.heap.size ≤ b ∧ w.heap.size ≤ bh ∧ w.heap.size ≤ bw ∧ IsT w' b bh bw [] [] ∧ Fm (fun _ => False) w w' := by
  refine c26 ?_
  unfold T26
  refine RunS_ok (makeMap_run _ _) (RunS_ok (makeMap_run _ _) (RunS_ok (bld77 _ _ _) (New_any ?_)))
  intro b w' hb hs hw hf
  have f1 := Fm.alloc (fun _ => False) w (.map #[] 0)
  have f2 := Fm.alloc (fun _ => False) (w.alloc (.map #[] 0)) (.map #[] 0)
  have f12 := f1.trans f2 (U := fun _ => False) (fun _ _ h => h) (fun _ _ h => h)
  have m1 := ((MapAt.empty w sv jv).keep f2 (fun e => e)).keep hf (fun e => e)
  have m2 := (MapAt.empty (w.alloc (.map #[] 0)) jv sv).keep hf (fun e => e)
  refine ⟨b, w.heap.size, (w.alloc (.map #[] 0)).heap.size, rfl, ?_, Nat.le_refl _, ?_, ⟨hw, m1, m2, ?_⟩, f12.trans hf (fun _ _ h => h) (fun _ _ h => h)⟩
  · rw [hb, alloc_size, alloc_size]; omega
  · rw [alloc_size]; omega
  · rw [alloc_size]; omega

def holderV (H : HL) (key : ByteArray) : Value := .tuple #[jv ((getD H key).getD 0), .bool (getD H key).isSome]
theorem holder_spec {w : World} {b bh bw : Nat} {H : HL} {W : WL} (h : IsT w b bh bw H W) (key : ByteArray) : Cl Try.prog 27 [.pointer (some ⟨b, 0, none⟩), sv key] w fun v w' => v = holderV H key ∧ w' = w := by
  refine c27 ?_
  unfold T27
  simp only [Pu_some, extV_0, extV_1, extV_2, extV_3, nilV_ptr, nilV_fn, faV_ptr, lenV_sl, lenS_s, capV_sl, pickV_t, pickV_f, unV_not, unV_neg, isB_t, isB_f, isB_u, binV_add, binV_sub, binV_mul, binV_eql, binV_neq, binV_lss, binV_leq, binV_gtr, binV_geq, binV_seql, binV_sneq, binV_slss, binV_beql, binV_bneq, binV_peql, binV_pneq, add_add, add_none, Nat.zero_add, Nat.add_zero, IfB_t, IfB_f, Gd_t, Gd_f, Ld_ptr, LdN_ptr, Option.isNone_some, Option.isNone_none, Option.isSome_some, Option.isSome_none, Bool.not_true, Bool.not_false, drew_cell, drew_heap, h.cell0]
  refine RunS_ok (lookup_run K74 h.hs key true (zz3 w)) ?_
  cases hg : getD H key <;> simp only [okV, cond_true] <;> simp only [Pu_some, extV_0, extV_1, extV_2, extV_3, nilV_ptr, nilV_fn, faV_ptr, lenV_sl, lenS_s, capV_sl, pickV_t, pickV_f, unV_not, unV_neg, isB_t, isB_f, isB_u, binV_add, binV_sub, binV_mul, binV_eql, binV_neq, binV_lss, binV_leq, binV_gtr, binV_geq, binV_seql, binV_sneq, binV_slss, binV_beql, binV_bneq, binV_peql, binV_pneq, add_add, add_none, Nat.zero_add, Nat.add_zero, IfB_t, IfB_f, Gd_t, Gd_f, Ld_ptr, LdN_ptr, Option.isNone_some, Option.isNone_none, Option.isSome_some, Option.isSome_none, Bool.not_true, Bool.not_false, drew_cell, drew_heap] <;> simp [holderV, hg]

def waitsV (W : WL) (who : Int) : Value := .tuple #[sv ((getD W who).getD ByteArray.empty), .bool (getD W who).isSome]
theorem waits_spec {w : World} {b bh bw : Nat} {H : HL} {W : WL} (h : IsT w b bh bw H W) (who : Int) : Cl Try.prog 34 [.pointer (some ⟨b, 0, none⟩), jv who] w fun v w' => v = waitsV W who ∧ w' = w := by
  refine c34 ?_
  unfold T34
  simp only [Pu_some, extV_0, extV_1, extV_2, extV_3, nilV_ptr, nilV_fn, faV_ptr, lenV_sl, lenS_s, capV_sl, pickV_t, pickV_f, unV_not, unV_neg, isB_t, isB_f, isB_u, binV_add, binV_sub, binV_mul, binV_eql, binV_neq, binV_lss, binV_leq, binV_gtr, binV_geq, binV_seql, binV_sneq, binV_slss, binV_beql, binV_bneq, binV_peql, binV_pneq, add_add, add_none, Nat.zero_add, Nat.add_zero, IfB_t, IfB_f, Gd_t, Gd_f, Ld_ptr, LdN_ptr, Option.isNone_some, Option.isNone_none, Option.isSome_some, Option.isSome_none, Bool.not_true, Bool.not_false, drew_cell, drew_heap, h.cell1]
  refine RunS_ok (lookup_run K75 h.ws who true (zz9 w)) ?_
  cases hg : getD W who <;> simp only [okV, cond_true] <;> simp only [Pu_some, extV_0, extV_1, extV_2, extV_3, nilV_ptr, nilV_fn, faV_ptr, lenV_sl, lenS_s, capV_sl, pickV_t, pickV_f, unV_not, unV_neg, isB_t, isB_f, isB_u, binV_add, binV_sub, binV_mul, binV_eql, binV_neq, binV_lss, binV_leq, binV_gtr, binV_geq, binV_seql, binV_sneq, binV_slss, binV_beql, binV_bneq, binV_peql, binV_pneq, add_add, add_none, Nat.zero_add, Nat.add_zero, IfB_t, IfB_f, Gd_t, Gd_f, Ld_ptr, LdN_ptr, Option.isNone_some, Option.isNone_none, Option.isSome_some, Option.isSome_none, Bool.not_true, Bool.not_false, drew_cell, drew_heap] <;> simp [waitsV, hg]

/-! ### Who waits for whom -/

/-- p waits for a key that q holds. -/
def Edge (H : HL) (W : WL) (p q : Int) : Prop := ∃ key, getD W p = some key ∧ getD H key = some q
/-- The chain from p on comes to q. -/
inductive Chain (H : HL) (W : WL) : Int → Int → Prop
  | here (p : Int) : Chain H W p p
  | step {p q r : Int} : Edge H W p q → Chain H W q r → Chain H W p r
theorem Edge.fn {H : HL} {W : WL} {p q r : Int} (h : Edge H W p q) (h' : Edge H W p r) : q = r := by
  obtain ⟨k, h1, h2⟩ := h
  obtain ⟨k', h3, h4⟩ := h'
  rw [h1] at h3; cases h3
  rw [h2] at h4; cases h4; rfl
theorem Chain.next {H : HL} {W : WL} {p q r : Int} (h : Chain H W p r) (he : Edge H W p q) (hn : p ≠ r) : Chain H W q r := by
  cases h with
  | here => exact absurd rfl hn
  | step e c => rw [he.fn e]; exact c
/-- Every chain ends; what is waited for is held. -/
structure Sound (H : HL) (W : WL) : Prop where
  rank : ∃ f : Int → Nat, ∀ p q, Edge H W p q → f q < f p
  held : ∀ p key, getD W p = some key → (getD H key).isSome = true

theorem rings_spec {w : World} {b bh bw : Nat} {H : HL} {W : WL} (h : IsT w b bh bw H W) (hs : Sound H W) (who at_ : Int) :
    Cl Try.prog 46 [.pointer (some ⟨b, 0, none⟩), jv who, jv at_] w fun v w' => ∃ r : Bool, v = .bool r ∧ (r = true ↔ Chain H W at_ who) ∧ w' = w := by
  obtain ⟨f, hf⟩ := hs.rank
  refine c46 ?_
  unfold T46
  refine ⟨fun vs w' => ∃ p, vs = [jv p] ∧ w' = w ∧ (Chain H W at_ who ↔ Chain H W p who), fun vs _ => f (nth vs 0), ⟨at_, rfl, rfl, Iff.rfl⟩, ?_⟩
  rintro g w' pv ⟨p, ⟨⟩, rfl, hp⟩
  simp only [Pu_some, extV_0, extV_1, extV_2, extV_3, nilV_ptr, nilV_fn, faV_ptr, lenV_sl, lenS_s, capV_sl, pickV_t, pickV_f, unV_not, unV_neg, isB_t, isB_f, isB_u, binV_add, binV_sub, binV_mul, binV_eql, binV_neq, binV_lss, binV_leq, binV_gtr, binV_geq, binV_seql, binV_sneq, binV_slss, binV_beql, binV_bneq, binV_peql, binV_pneq, add_add, add_none, Nat.zero_add, Nat.add_zero, IfB_t, IfB_f, Gd_t, Gd_f, Ld_ptr, LdN_ptr, Option.isNone_some, Option.isNone_none, Option.isSome_some, Option.isSome_none, Bool.not_true, Bool.not_false, drew_cell, drew_heap, h.cell0, h.cell1]
  by_cases hpw : p = who
  · have e1 : (p != who) = false := by simp [hpw]
    simp only [Pu_some, extV_0, extV_1, extV_2, extV_3, nilV_ptr, nilV_fn, faV_ptr, lenV_sl, lenS_s, capV_sl, pickV_t, pickV_f, unV_not, unV_neg, isB_t, isB_f, isB_u, binV_add, binV_sub, binV_mul, binV_eql, binV_neq, binV_lss, binV_leq, binV_gtr, binV_geq, binV_seql, binV_sneq, binV_slss, binV_beql, binV_bneq, binV_peql, binV_pneq, add_add, add_none, Nat.zero_add, Nat.add_zero, IfB_t, IfB_f, Gd_t, Gd_f, Ld_ptr, LdN_ptr, Option.isNone_some, Option.isNone_none, Option.isSome_some, Option.isSome_none, Bool.not_true, Bool.not_false, drew_cell, drew_heap, e1]
    exact ⟨true, rfl, by rw [hp, hpw]; exact ⟨fun _ => .here _, fun _ => rfl⟩, trivial⟩
  · have e1 : (p != who) = true := by simp [hpw]
    simp only [Pu_some, extV_0, extV_1, extV_2, extV_3, nilV_ptr, nilV_fn, faV_ptr, lenV_sl, lenS_s, capV_sl, pickV_t, pickV_f, unV_not, unV_neg, isB_t, isB_f, isB_u, binV_add, binV_sub, binV_mul, binV_eql, binV_neq, binV_lss, binV_leq, binV_gtr, binV_geq, binV_seql, binV_sneq, binV_slss, binV_beql, binV_bneq, binV_peql, binV_pneq, add_add, add_none, Nat.zero_add, Nat.add_zero, IfB_t, IfB_f, Gd_t, Gd_f, Ld_ptr, LdN_ptr, Option.isNone_some, Option.isNone_none, Option.isSome_some, Option.isSome_none, Bool.not_true, Bool.not_false, drew_cell, drew_heap, e1]
    refine RunS_ok (lookup_run K75 h.ws p true (zz9 w')) ?_
    cases hg : getD W p with
    | none =>
      simp only [okV, cond_true]
      simp only [Pu_some, extV_0, extV_1, extV_2, extV_3, nilV_ptr, nilV_fn, faV_ptr, lenV_sl, lenS_s, capV_sl, pickV_t, pickV_f, unV_not, unV_neg, isB_t, isB_f, isB_u, binV_add, binV_sub, binV_mul, binV_eql, binV_neq, binV_lss, binV_leq, binV_gtr, binV_geq, binV_seql, binV_sneq, binV_slss, binV_beql, binV_bneq, binV_peql, binV_pneq, add_add, add_none, Nat.zero_add, Nat.add_zero, IfB_t, IfB_f, Gd_t, Gd_f, Ld_ptr, LdN_ptr, Option.isNone_some, Option.isNone_none, Option.isSome_some, Option.isSome_none, Bool.not_true, Bool.not_false, drew_cell, drew_heap]
      refine ⟨false, rfl, ?_, trivial⟩
      rw [hp]
      constructor
      · intro e; cases e
      · intro c
        cases c with
        | here => exact absurd rfl hpw
        | step e _ => obtain ⟨k, h1, _⟩ := e; rw [hg] at h1; cases h1
    | some key =>
      simp only [okV, cond_true]
      simp only [Pu_some, extV_0, extV_1, extV_2, extV_3, nilV_ptr, nilV_fn, faV_ptr, lenV_sl, lenS_s, capV_sl, pickV_t, pickV_f, unV_not, unV_neg, isB_t, isB_f, isB_u, binV_add, binV_sub, binV_mul, binV_eql, binV_neq, binV_lss, binV_leq, binV_gtr, binV_geq, binV_seql, binV_sneq, binV_slss, binV_beql, binV_bneq, binV_peql, binV_pneq, add_add, add_none, Nat.zero_add, Nat.add_zero, IfB_t, IfB_f, Gd_t, Gd_f, Ld_ptr, LdN_ptr, Option.isNone_some, Option.isNone_none, Option.isSome_some, Option.isSome_none, Bool.not_true, Bool.not_false, drew_cell, drew_heap, h.cell0]
      refine RunS_ok (lookup_run K74 h.hs key false (zz3 w')) ?_
      have hh := hs.held p key hg
      cases hk : getD H key with
      | none => rw [hk] at hh; cases hh
      | some q =>
        simp only [okV, cond_false]
        have he : Edge H W p q := ⟨key, hg, hk⟩
        exact ⟨⟨q, rfl, trivial, hp.trans ⟨fun c => c.next he hpw, fun c => .step he c⟩⟩, by simp only [nth_0]; exact hf _ _ he⟩

/-- What Try does. -/
inductive TryR (H : HL) (W : WL) (who : Int) (key : ByteArray) : HL → WL → Bool → Int → Prop
  | take : (getD H key = none ∨ getD H key = some who) → TryR H W who key (setD H key who) (delD W who) true 0
  | ring (h : Int) : getD H key = some h → h ≠ who → Chain H (delD W who) h who → TryR H W who key H (delD W who) false 181
  | wait (h : Int) : getD H key = some h → h ≠ who → ¬ Chain H (delD W who) h who → TryR H W who key H (setD (delD W who) who key) false 0

theorem Edge.of_del {H : HL} {W : WL} (hn : (W.map (·.1)).Nodup) {who p q : Int} (h : Edge H (delD W who) p q) : Edge H W p q ∧ p ≠ who := by
  obtain ⟨k, h1, h2⟩ := h
  rw [getD_delD hn] at h1
  split at h1
  · cases h1
  · rename_i hne; exact ⟨⟨k, h1, h2⟩, hne⟩
theorem Sound.del {H : HL} {W : WL} (hn : (W.map (·.1)).Nodup) (h : Sound H W) (who : Int) : Sound H (delD W who) := by
  obtain ⟨f, hf⟩ := h.rank
  refine ⟨⟨f, fun p q e => hf p q (e.of_del hn).1⟩, fun p key hp => ?_⟩
  rw [getD_delD hn] at hp
  split at hp
  · cases hp
  · exact h.held p key hp
theorem Sound.try {H : HL} {W : WL} (hn : (W.map (·.1)).Nodup) (h : Sound H W) {who : Int} {key : ByteArray} {H' : HL} {W' : WL} {ok : Bool} {e : Int} (ht : TryR H W who key H' W' ok e) : Sound H' W' := by
  have hd := h.del hn who
  cases ht with
  | take hfree =>
    have hsub : ∀ k x, getD H k = some x → getD (setD H key who) k = some x := fun k x hk => by
      rw [getD_setD]
      split
      · rename_i e; subst e; rcases hfree with h' | h' <;> rw [h'] at hk <;> cases hk; rfl
      · exact hk
    obtain ⟨f, hf⟩ := hd.rank
    refine ⟨⟨f, fun p q e => ?_⟩, fun p k hp => ?_⟩
    · obtain ⟨k, h1, h2⟩ := e
      have hh := hd.held p k h1
      cases hk : getD H k with
      | none => rw [hk] at hh; cases hh
      | some x =>
        have := hsub k x hk
        rw [h2] at this; cases this
        exact hf p q ⟨k, h1, hk⟩
    · have hh := hd.held p k hp
      cases hk : getD H k with
      | none => rw [hk] at hh; cases hh
      | some x => rw [hsub k x hk]; rfl
  | ring hh h1 h2 h3 => exact hd
  | wait hh h1 h2 h3 =>
    obtain ⟨f, hf⟩ := hd.rank
    have hE : ∀ p q, Edge H (setD (delD W who) who key) p q → (p = who ∧ q = hh) ∨ (p ≠ who ∧ Edge H (delD W who) p q) := by
      rintro p q ⟨k, g1, g2⟩
      rw [getD_setD] at g1
      split at g1
      · rename_i e; cases g1; rw [h1] at g2; cases g2; exact .inl ⟨e, rfl⟩
      · rename_i hne; exact .inr ⟨hne, k, g1, g2⟩
    classical
    refine ⟨⟨fun x => f x + (if Chain H (delD W who) x who then f hh + 1 else 0), fun p q e => ?_⟩, fun p k hp => ?_⟩
    · rcases hE p q e with ⟨rfl, rfl⟩ | ⟨hne, e⟩
      · simp only [if_neg h3, if_pos (Chain.here (H := H) (W := delD W p) p)]; omega
      · have := hf p q e
        by_cases hc : Chain H (delD W who) p who
        · simp only [if_pos hc, if_pos (hc.next e hne)]; omega
        · have hc' : ¬ Chain H (delD W who) q who := fun c => hc (.step e c)
          simp only [if_neg hc, if_neg hc']; omega
    · rw [getD_setD] at hp
      split at hp
      · cases hp; rw [h1]; rfl
      · exact hd.held p k hp

theorem try_spec {w : World} {b bh bw : Nat} {H : HL} {W : WL} (h : IsT w b bh bw H W) (hs : Sound H W) (who : Int) (key : ByteArray) :
    Cl Try.prog 29 [.pointer (some ⟨b, 0, none⟩), jv who, sv key] w fun v w' => ∃ H' W' ok e, v = .tuple #[.bool ok, jv e] ∧ TryR H W who key H' W' ok e ∧ IsT w' b bh bw H' W' ∧ Fm (fun x => x = bh ∨ x = bw) w w' := by
  refine c29 ?_
  unfold T29
  simp only [Pu_some, extV_0, extV_1, extV_2, extV_3, nilV_ptr, nilV_fn, faV_ptr, lenV_sl, lenS_s, capV_sl, pickV_t, pickV_f, unV_not, unV_neg, isB_t, isB_f, isB_u, binV_add, binV_sub, binV_mul, binV_eql, binV_neq, binV_lss, binV_leq, binV_gtr, binV_geq, binV_seql, binV_sneq, binV_slss, binV_beql, binV_bneq, binV_peql, binV_pneq, add_add, add_none, Nat.zero_add, Nat.add_zero, IfB_t, IfB_f, Gd_t, Gd_f, Ld_ptr, LdN_ptr, Option.isNone_some, Option.isNone_none, Option.isSome_some, Option.isSome_none, Bool.not_true, Bool.not_false, drew_cell, drew_heap, h.cell0, h.cell1]
  obtain ⟨w1, hr1, hm1, hf1, hs1⟩ := delete_run K75 h.ws who 0 3
  refine RunS_ok hr1 ?_
  have hT1 : IsT w1 b bh bw H (delD W who) := ⟨hf1.heap h.st h.nw, h.hs.keep hf1 h.ne, hm1, h.ne⟩
  have hF1 : Fm (fun x => x = bh ∨ x = bw) w w1 := hf1.mono fun _ _ e => .inr e
  simp only [Pu_some, extV_0, extV_1, extV_2, extV_3, nilV_ptr, nilV_fn, faV_ptr, lenV_sl, lenS_s, capV_sl, pickV_t, pickV_f, unV_not, unV_neg, isB_t, isB_f, isB_u, binV_add, binV_sub, binV_mul, binV_eql, binV_neq, binV_lss, binV_leq, binV_gtr, binV_geq, binV_seql, binV_sneq, binV_slss, binV_beql, binV_bneq, binV_peql, binV_pneq, add_add, add_none, Nat.zero_add, Nat.add_zero, IfB_t, IfB_f, Gd_t, Gd_f, Ld_ptr, LdN_ptr, Option.isNone_some, Option.isNone_none, Option.isSome_some, Option.isSome_none, Bool.not_true, Bool.not_false, drew_cell, drew_heap, hT1.cell0]
  refine RunS_ok (lookup_run K74 hT1.hs key true (zz3 w1)) ?_
  have hsd := hs.del h.ws.keys who
  have free : (getD H key = none ∨ getD H key = some who) → RunU Try.prog (Instr.mapUpdate 74 (.map (some bh)) (sv key) (jv who)) w1 fun u w2 => ∃ H' W' ok e, Value.tuple #[.bool true, jv 0] = .tuple #[.bool ok, jv e] ∧ TryR H W who key H' W' ok e ∧ IsT w2 b bh bw H' W' ∧ Fm (fun x => x = bh ∨ x = bw) w w2 := by
    intro hfree
    obtain ⟨w2, hr2, hm2, hf2, _⟩ := update_run K74 hT1.hs key who
    exact RunU_ok hr2 ⟨_, _, _, _, rfl, .take hfree, ⟨hf2.heap hT1.st h.nh, hm2, hT1.ws.keep hf2 (fun e => h.ne e.symm), h.ne⟩, hF1.trans hf2 (fun _ _ e => e) (fun _ _ e => .inl e)⟩
  cases hg : getD H key with
  | none =>
    simp only [okV, cond_true]
    simp only [Pu_some, extV_0, extV_1, extV_2, extV_3, nilV_ptr, nilV_fn, faV_ptr, lenV_sl, lenS_s, capV_sl, pickV_t, pickV_f, unV_not, unV_neg, isB_t, isB_f, isB_u, binV_add, binV_sub, binV_mul, binV_eql, binV_neq, binV_lss, binV_leq, binV_gtr, binV_geq, binV_seql, binV_sneq, binV_slss, binV_beql, binV_bneq, binV_peql, binV_pneq, add_add, add_none, Nat.zero_add, Nat.add_zero, IfB_t, IfB_f, Gd_t, Gd_f, Ld_ptr, LdN_ptr, Option.isNone_some, Option.isNone_none, Option.isSome_some, Option.isSome_none, Bool.not_true, Bool.not_false, drew_cell, drew_heap]
    refine Jn_at (fun vs w2 => vs = [.bool true] ∧ w2 = w1) ?_ ?_
    · rintro _ _ ⟨rfl, rfl⟩ _
      refine ⟨_, rfl, ?_⟩
      simp only [Pu_some, extV_0, extV_1, extV_2, extV_3, nilV_ptr, nilV_fn, faV_ptr, lenV_sl, lenS_s, capV_sl, pickV_t, pickV_f, unV_not, unV_neg, isB_t, isB_f, isB_u, binV_add, binV_sub, binV_mul, binV_eql, binV_neq, binV_lss, binV_leq, binV_gtr, binV_geq, binV_seql, binV_sneq, binV_slss, binV_beql, binV_bneq, binV_peql, binV_pneq, add_add, add_none, Nat.zero_add, Nat.add_zero, IfB_t, IfB_f, Gd_t, Gd_f, Ld_ptr, LdN_ptr, Option.isNone_some, Option.isNone_none, Option.isSome_some, Option.isSome_none, Bool.not_true, Bool.not_false, drew_cell, drew_heap, hT1.cell0]
      exact free (.inl hg)
    · intro kk hkk
      try simp only [Pu_some, extV_0, extV_1, extV_2, extV_3, nilV_ptr, nilV_fn, faV_ptr, lenV_sl, lenS_s, capV_sl, pickV_t, pickV_f, unV_not, unV_neg, isB_t, isB_f, isB_u, binV_add, binV_sub, binV_mul, binV_eql, binV_neq, binV_lss, binV_leq, binV_gtr, binV_geq, binV_seql, binV_sneq, binV_slss, binV_beql, binV_bneq, binV_peql, binV_pneq, add_add, add_none, Nat.zero_add, Nat.add_zero, IfB_t, IfB_f, Gd_t, Gd_f, Ld_ptr, LdN_ptr, Option.isNone_some, Option.isNone_none, Option.isSome_some, Option.isSome_none, Bool.not_true, Bool.not_false, drew_cell, drew_heap]
      exact hkk _ _ ⟨rfl, rfl⟩
  | some hh =>
    simp only [okV, cond_true]
    simp only [Pu_some, extV_0, extV_1, extV_2, extV_3, nilV_ptr, nilV_fn, faV_ptr, lenV_sl, lenS_s, capV_sl, pickV_t, pickV_f, unV_not, unV_neg, isB_t, isB_f, isB_u, binV_add, binV_sub, binV_mul, binV_eql, binV_neq, binV_lss, binV_leq, binV_gtr, binV_geq, binV_seql, binV_sneq, binV_slss, binV_beql, binV_bneq, binV_peql, binV_pneq, add_add, add_none, Nat.zero_add, Nat.add_zero, IfB_t, IfB_f, Gd_t, Gd_f, Ld_ptr, LdN_ptr, Option.isNone_some, Option.isNone_none, Option.isSome_some, Option.isSome_none, Bool.not_true, Bool.not_false, drew_cell, drew_heap]
    refine Jn_at (fun vs w2 => vs = [.bool (hh == who)] ∧ w2 = w1) ?_ ?_
    · rintro _ _ ⟨rfl, rfl⟩ _
      refine ⟨_, rfl, ?_⟩
      by_cases he : hh = who
      · have e1 : (hh == who) = true := by simp [he]
        simp only [Pu_some, extV_0, extV_1, extV_2, extV_3, nilV_ptr, nilV_fn, faV_ptr, lenV_sl, lenS_s, capV_sl, pickV_t, pickV_f, unV_not, unV_neg, isB_t, isB_f, isB_u, binV_add, binV_sub, binV_mul, binV_eql, binV_neq, binV_lss, binV_leq, binV_gtr, binV_geq, binV_seql, binV_sneq, binV_slss, binV_beql, binV_bneq, binV_peql, binV_pneq, add_add, add_none, Nat.zero_add, Nat.add_zero, IfB_t, IfB_f, Gd_t, Gd_f, Ld_ptr, LdN_ptr, Option.isNone_some, Option.isNone_none, Option.isSome_some, Option.isSome_none, Bool.not_true, Bool.not_false, drew_cell, drew_heap, e1, hT1.cell0]
        exact free (.inr (by rw [hg, he]))
      · have e1 : (hh == who) = false := by simp [he]
        simp only [Pu_some, extV_0, extV_1, extV_2, extV_3, nilV_ptr, nilV_fn, faV_ptr, lenV_sl, lenS_s, capV_sl, pickV_t, pickV_f, unV_not, unV_neg, isB_t, isB_f, isB_u, binV_add, binV_sub, binV_mul, binV_eql, binV_neq, binV_lss, binV_leq, binV_gtr, binV_geq, binV_seql, binV_sneq, binV_slss, binV_beql, binV_bneq, binV_peql, binV_pneq, add_add, add_none, Nat.zero_add, Nat.add_zero, IfB_t, IfB_f, Gd_t, Gd_f, Ld_ptr, LdN_ptr, Option.isNone_some, Option.isNone_none, Option.isSome_some, Option.isSome_none, Bool.not_true, Bool.not_false, drew_cell, drew_heap, e1]
        refine (rings_spec hT1 hsd who hh).mono ?_
        rintro _ w3 ⟨r, rfl, hr, rfl⟩
        cases r with
        | true =>
          simp only [Pu_some, extV_0, extV_1, extV_2, extV_3, nilV_ptr, nilV_fn, faV_ptr, lenV_sl, lenS_s, capV_sl, pickV_t, pickV_f, unV_not, unV_neg, isB_t, isB_f, isB_u, binV_add, binV_sub, binV_mul, binV_eql, binV_neq, binV_lss, binV_leq, binV_gtr, binV_geq, binV_seql, binV_sneq, binV_slss, binV_beql, binV_bneq, binV_peql, binV_pneq, add_add, add_none, Nat.zero_add, Nat.add_zero, IfB_t, IfB_f, Gd_t, Gd_f, Ld_ptr, LdN_ptr, Option.isNone_some, Option.isNone_none, Option.isSome_some, Option.isSome_none, Bool.not_true, Bool.not_false, drew_cell, drew_heap]
          exact ⟨_, _, _, _, rfl, .ring hh hg he (hr.1 rfl), hT1, hF1⟩
        | false =>
          simp only [Pu_some, extV_0, extV_1, extV_2, extV_3, nilV_ptr, nilV_fn, faV_ptr, lenV_sl, lenS_s, capV_sl, pickV_t, pickV_f, unV_not, unV_neg, isB_t, isB_f, isB_u, binV_add, binV_sub, binV_mul, binV_eql, binV_neq, binV_lss, binV_leq, binV_gtr, binV_geq, binV_seql, binV_sneq, binV_slss, binV_beql, binV_bneq, binV_peql, binV_pneq, add_add, add_none, Nat.zero_add, Nat.add_zero, IfB_t, IfB_f, Gd_t, Gd_f, Ld_ptr, LdN_ptr, Option.isNone_some, Option.isNone_none, Option.isSome_some, Option.isSome_none, Bool.not_true, Bool.not_false, drew_cell, drew_heap, hT1.cell1]
          obtain ⟨w2, hr2, hm2, hf2, _⟩ := update_run K75 hT1.ws who key
          exact RunU_ok hr2 ⟨_, _, _, _, rfl, .wait hh hg he (fun c => by have := hr.2 c; cases this), ⟨hf2.heap hT1.st h.nw, hT1.hs.keep hf2 h.ne, hm2, h.ne⟩, hF1.trans hf2 (fun _ _ e => e) (fun _ _ e => .inr e)⟩
    · intro kk hkk
      try simp only [Pu_some, extV_0, extV_1, extV_2, extV_3, nilV_ptr, nilV_fn, faV_ptr, lenV_sl, lenS_s, capV_sl, pickV_t, pickV_f, unV_not, unV_neg, isB_t, isB_f, isB_u, binV_add, binV_sub, binV_mul, binV_eql, binV_neq, binV_lss, binV_leq, binV_gtr, binV_geq, binV_seql, binV_sneq, binV_slss, binV_beql, binV_bneq, binV_peql, binV_pneq, add_add, add_none, Nat.zero_add, Nat.add_zero, IfB_t, IfB_f, Gd_t, Gd_f, Ld_ptr, LdN_ptr, Option.isNone_some, Option.isNone_none, Option.isSome_some, Option.isSome_none, Bool.not_true, Bool.not_false, drew_cell, drew_heap]
      exact hkk _ _ ⟨rfl, rfl⟩

end Go.Proofs.Ytgknklnbcjjlkaa
