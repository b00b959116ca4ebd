/- A record's body and bytes, by the program. -/
import Derived.Test.YthbngnlmgplijaaGreatDoorRcEnc
namespace Go.Proofs.YthbngnlmgplijaaGreatDoor
open Go.Al Go.Proofs
set_option linter.unusedVariables false
set_option linter.unusedSimpArgs false
set_option linter.unusedSectionVars false
set_option maxRecDepth 100000

theorem bld147 (a1 a2 : Option Addr) (n1 c1 n2 c2 : Nat) (w : World) : (Instr.build 227 #[(0, .slice a1 n1 c1), (1, .slice a2 n2 c2)]).run Tryz.prog w = .ok (.agg #[.slice a1 n1 c1, .slice a2 n2 c2]) w := by kernel_rfl
theorem im_body {w : World} {x : Nat} {m : Int} {p : Pg} {u : Value} (h : w.heap[x]? = some (.cells (imC (m, p, u)).toArray 118)) : cellsV w ⟨x, 1, none⟩ 6 = some (.agg (pcs p u)) := by
  refine cellsV_of (l := (pcs p u).toList) rfl (fun j hj => ?_)
  have : j = 0 ∨ j = 1 ∨ j = 2 ∨ j = 3 ∨ j = 4 ∨ j = 5 := by omega
  rcases this with rfl | rfl | rfl | rfl | rfl | rfl <;> (rw [add_none, cell_at h]; rfl)
theorem numsB_app (a b : List Int) : numsB (a ++ b) = numsB a ++ numsB b := by simp [numsB]
theorem numsB2 (a b : Int) : numsB [a, b] = prB (a, b) := by simp [numsB, prB]
theorem prB_len {p : Int × Int} (h1 : p.1 ≤ 9223372036854775807) (h2 : p.2 ≤ 9223372036854775807) : (prB p).length ≤ 18 := by
  have := encI_len h1
  have := encI_len h2
  unfold prB
  rw [List.length_append]; omega
theorem in_le {n : Int} (h : In n) : n ≤ 9223372036854775807 := h.2
theorem prs_in {r : Rc} {l : List (Int × Int)} (h : ∀ n ∈ prs l, In n) {p : Int × Int} (hp : p ∈ l) : p.1 ≤ 9223372036854775807 ∧ p.2 ≤ 9223372036854775807 :=
  ⟨(h _ (mem_prs hp).1).2, (h _ (mem_prs hp).2).2⟩

set_option maxHeartbeats 16000000 in
theorem inner_spec {w : World} {cs : Array Value} {r : Rc} (h : RcAs w cs r) (hlong : longR r = false) : Cl Tryz.prog 158 [.agg cs] w fun v w' => v = .tuple #[stv (rInner r).1, iv (rInner r).2] ∧ Fm (fun _ => False) w w' := by
  obtain ⟨vs, vm, vi, vp, vt, hcs, _, hs, hm, hi, hp, ht⟩ := h.ex
  simp only [longR, Bool.or_eq_false_iff, decide_eq_false_iff_not] at hlong
  obtain ⟨⟨⟨⟨⟨l1, l2⟩, l3⟩, l4⟩, l5⟩, l6⟩ := hlong
  have hins := h.ins
  have hk8 := h.kin
  have n9 : ∀ n ∈ [r.lsn, r.prev, r.next, r.redo, r.xid, r.page, r.slot, r.old, r.new], In n := fun n hn => hins n (by unfold rNums; simp only [List.mem_append]; exact .inl (.inl (.inl (.inl (.inl hn)))))
  have nsl : ∀ n ∈ r.slots, n ≤ 9223372036854775807 := fun n hn => (hins n (by unfold rNums; simp only [List.mem_append]; exact .inl (.inl (.inl (.inl (.inr hn)))))).2
  have nmo : ∀ n ∈ r.more, n ≤ 9223372036854775807 := fun n hn => (hins n (by unfold rNums; simp only [List.mem_append]; exact .inl (.inl (.inl (.inr hn))))).2
  have nim : ∀ m ∈ r.imgs, m.1 ≤ 9223372036854775807 := fun m hm => (hins m.1 (by unfold rNums; simp only [List.mem_append]; exact .inl (.inl (.inr (List.mem_map.2 ⟨m, hm, rfl⟩))))).2
  have npg : ∀ m ∈ r.pages, m.1 ≤ 9223372036854775807 ∧ m.2 ≤ 9223372036854775807 := fun m hm => ⟨(hins m.1 (by unfold rNums; simp only [List.mem_append]; exact .inl (.inr (mem_prs hm).1))).2, (hins m.2 (by unfold rNums; simp only [List.mem_append]; exact .inl (.inr (mem_prs hm).2))).2⟩
  have ntx : ∀ m ∈ r.txns, m.1 ≤ 9223372036854775807 ∧ m.2 ≤ 9223372036854775807 := fun m hm => ⟨(hins m.1 (by unfold rNums; simp only [List.mem_append]; exact .inr (mem_prs hm).1)).2, (hins m.2 (by unfold rNums; simp only [List.mem_append]; exact .inr (mem_prs hm).2)).2⟩
  have nhd : ∀ n ∈ headL r, n ≤ 9223372036854775807 := fun n hn => by
    unfold headL at hn
    simp only [List.mem_cons, List.not_mem_nil, or_false] at hn
    rcases hn with rfl | rfl | rfl | rfl | rfl | rfl | rfl | rfl | rfl | rfl <;> first | omega | exact (n9 _ (by simp)).2
  refine c158 ?_; unfold T158
  refine New_any ?_
  intro x1 w1 hx1 hs1 hw1 hf1
  have hR1 : RB w1 x1 r vs vm vi vp vt := ⟨by rw [← hcs]; exact hw1⟩
  have hlt1 := hR1.lt
  -- whatever the writer turns, the record's lists stay
  have kS : ∀ {w'}, Fm (fun _ => False) w1 w' → CellsAt w' vs r.slots.length 1 (r.slots.map iv) := fun hf => hs.keep (Fmf hf1 hf) (fun _ _ e => e)
  have kM : ∀ {w'}, Fm (fun _ => False) w1 w' → CellsAt w' vm r.more.length 1 (r.more.map iv) := fun hf => hm.keep (Fmf hf1 hf) (fun _ _ e => e)
  have kI : ∀ {w'}, Fm (fun _ => False) w1 w' → ImAs w' vi r.imgs := fun hf => hi.keep (Fmf hf1 hf)
  have kP : ∀ {w'}, Fm (fun _ => False) w1 w' → CellsAt w' vp r.pages.length 2 (r.pages.flatMap pc2) := fun hf => hp.keep (Fmf hf1 hf) (fun _ _ e => e)
  have kT : ∀ {w'}, Fm (fun _ => False) w1 w' → CellsAt w' vt r.txns.length 2 (r.txns.flatMap pc2) := fun hf => ht.keep (Fmf hf1 hf) (fun _ _ e => e)
  have kR : ∀ {w'}, Fm (fun _ => False) w1 w' → RB w' x1 r vs vm vi vp vt := fun hf => hR1.keep hf (fun e => e)
  have blt : ∀ {v : Value} {ns : List Int}, CellsAt w v ns.length 1 (ns.map iv) → ns ≠ [] → ∀ g, blockOf v = some g → g < w1.heap.size := fun hc hne g hg => by
    have := hc.blt (by simpa using hne) g hg
    omega
  refine WS.new (Fm.refl _ w1) ?_
  intro w2 rw h2 hf2
  have hR2 := kR hf2
  have ek : IntKind.i64.wrap r.kind = r.kind := by rw [wrap_id]; omega
  have ekc : cvI .i64 (.int .u8 r.kind) = some (iv r.kind) := by
    show some (Value.int .i64 (IntKind.i64.wrap r.kind)) = _
    rw [ek]
  simp only [RS0, RS1, RS2, RS3, RS4, RS5, hR2.c0, hR2.c1, hR2.c2, hR2.c3, hR2.c4, hR2.c5, hR2.c6, hR2.c7, hR2.c8, hR2.c9, ekc]
  refine h2.lit (bs47_10 _ _ _ _ _ _ _ _ _ _ _) rfl (fun n hn => nhd n hn) (by simp) ?_
  intro u3 w3 h3
  replace h3 : WS w1 w3 rw (numsB (headL r)) := by have := h3; rw [List.nil_append] at this; exact this
  have hl3 : (numsB (headL r)).length ≤ 90 := by have := numsB_len nhd; exact this
  have hR3 := kR h3.fm
  simp only [RS0, RS1, RS2, RS3, RS4, RS5, hR3.c10]
  refine h3.text (by omega) (by omega) ?_
  intro u4 w4 h4
  have hR4 := kR h4.fm
  have hl4 : (numsB (headL r) ++ txtB r.data).length ≤ 700 := by
    have := encI_len (n := r.data.length) (by omega)
    rw [List.length_append]; unfold txtB; rw [List.length_append]; omega
  simp only [RS0, RS1, RS2, RS3, RS4, RS5, hR4.c11, hR4.c12]
  have hsv : ∃ a c, vs = .slice a r.slots.length c := by obtain ⟨⟨a, c, e, _⟩, _⟩ := hs; exact ⟨a, c, e⟩
  have hmv : ∃ a c, vm = .slice a r.more.length c := by obtain ⟨⟨a, c, e, _⟩, _⟩ := hm; exact ⟨a, c, e⟩
  have hbld : (Instr.build 227 #[(0, vs), (1, vm)]).run Tryz.prog w4 = .ok (.agg #[vs, vm]) w4 := by
    obtain ⟨a, c, rfl⟩ := hsv
    obtain ⟨a', c', rfl⟩ := hmv
    exact bld147 _ _ _ _ _ _ _
  refine RunS_ok hbld ?_
  generalize hB4 : numsB (headL r) ++ txtB r.data = B4 at h4 hl4
  refine ⟨fun vl w' => (vl = [iv 0] ∧ WS w1 w' rw B4) ∨ (vl = [iv 1] ∧ WS w1 w' rw (B4 ++ listB r.slots)) ∨ (vl = [iv 2] ∧ WS w1 w' rw (B4 ++ listB r.slots ++ listB r.more)), fun vl _ => (2 - nth vl 0).toNat, .inl ⟨rfl, h4⟩, ?_⟩
  have hls : (listB r.slots).length ≤ 2400 := by
    have := numsB_len nsl
    have := encI_len (n := r.slots.length) (by omega)
    unfold listB; rw [List.length_append]; omega
  have hlm : (listB r.more).length ≤ 2400 := by
    have := numsB_len nmo
    have := encI_len (n := r.more.length) (by omega)
    unfold listB; rw [List.length_append]; omega
  rintro _ w5 iv5 (⟨hvl, h5⟩ | ⟨hvl, h5⟩ | ⟨hvl, h5⟩)
  · cases hvl
    have d1 : decide ((0 : Int) < 2) = true := by decide
    have e1 : ixG false 2 1 (.agg #[vs, vm]) (iv 0) = some vs := rfl
    have e2 : IntKind.i64.wrap (0 + 1) = 1 := rfl
    simp only [RS0, RS1, RS2, RS3, RS4, RS5, d1, e1, (kS h5.fm).lenV]
    refine h5.lit (bs47_1 _ _) rfl (by intro n hn; simp at hn; omega) (by omega) ?_
    intro u6 w6 h6
    rw [numsB1] at h6
    have := encI_len (n := r.slots.length) (by omega)
    refine h6.num (kS h6.fm) (blt hs) nsl (by rw [List.length_append]; omega) ?_
    intro u7 w7 h7
    simp only [RS0, RS1, RS2, RS3, RS4, RS5, e2]
    exact ⟨.inr (.inl ⟨(by trivial), by have := h7; rw [List.append_assoc] at this; exact this⟩), by simp [nth, iv]⟩
  · cases hvl
    have d1 : decide ((1 : Int) < 2) = true := by decide
    have e1 : ixG false 2 1 (.agg #[vs, vm]) (iv 1) = some vm := rfl
    have e2 : IntKind.i64.wrap (1 + 1) = 2 := rfl
    simp only [RS0, RS1, RS2, RS3, RS4, RS5, d1, e1, (kM h5.fm).lenV]
    refine h5.lit (bs47_1 _ _) rfl (by intro n hn; simp at hn; omega) (by rw [List.length_append]; omega) ?_
    intro u6 w6 h6
    rw [numsB1] at h6
    have := encI_len (n := r.more.length) (by omega)
    refine h6.num (kM h6.fm) (blt hm) nmo (by simp only [List.length_append]; omega) ?_
    intro u7 w7 h7
    simp only [RS0, RS1, RS2, RS3, RS4, RS5, e2]
    exact ⟨.inr (.inr ⟨(by trivial), by have := h7; rw [List.append_assoc (B4 ++ listB r.slots)] at this; exact this⟩), by simp [nth, iv]⟩
  · cases hvl
    have d1 : decide ((2 : Int) < 2) = false := by decide
    have hR5 := kR h5.fm
    have hl5 : (B4 ++ listB r.slots ++ listB r.more).length ≤ 6000 := by simp only [List.length_append]; omega
    generalize hB5 : B4 ++ listB r.slots ++ listB r.more = B5 at h5 hl5
    simp only [RS0, RS1, RS2, RS3, RS4, RS5, d1, hR5.c13, (kI h5.fm).lenV]
    refine h5.lit (bs47_1 _ _) rfl (by intro n hn; simp at hn; omega) (by omega) ?_
    intro u6 w6 h6
    rw [numsB1] at h6
    have hR6 := kR h6.fm
    have hl6 : (B5 ++ encI (r.imgs.length : Int)).length ≤ 6010 := by
      have := encI_len (n := r.imgs.length) (by omega)
      rw [List.length_append]; omega
    generalize hB6 : B5 ++ encI (r.imgs.length : Int) = B6 at h6 hl6
    simp only [RS0, RS1, RS2, RS3, RS4, RS5, hR6.c13, (kI h6.fm).lenV]
    refine ⟨fun vl w' => ∃ i : Nat, vl = [iv i] ∧ i ≤ r.imgs.length ∧ WS w1 w' rw (B6 ++ (r.imgs.take i).flatMap imgB) ∧ (B6 ++ (r.imgs.take i).flatMap imgB).length ≤ 6010 + 600 * i ∧ imgErr r.imgs = imgErr (r.imgs.drop i), fun vl _ => (r.imgs.length - nth vl 0).toNat, ⟨0, rfl, by omega, by simpa using h6, by simpa using hl6, rfl⟩, ?_⟩
    rintro _ w7 iv7 ⟨i, hvl, hile, h7, hl7, hie⟩
    cases hvl
    by_cases hlt : i < r.imgs.length
    · have hx : r.imgs[i]? = some r.imgs[i] := List.getElem?_eq_getElem hlt
      have hdr := List.drop_eq_getElem_cons hlt
      generalize r.imgs[i] = m at hx hdr
      rw [hdr] at hie
      have hmm := List.mem_of_getElem? hx
      obtain ⟨ad, u, hix, hcv, hone, hpg⟩ := (kI h7.fm).ld hx
      have d2 : decide ((i : Int) < (r.imgs.length : Int)) = true := by rw [decide_eq_true_eq]; omega
      have e1 : IntKind.i64.wrap ((i : Int) + 1) = ((i + 1 : Nat) : Int) := by rw [wrap_id] <;> omega
      simp only [RS0, RS1, RS2, RS3, RS4, RS5, d2, hix, hcv]
      refine New_any ?_
      intro x8 w8 hx8 hs8 hw8 hf8
      refine St_all hw8 rfl (imC_len _) (by intro q hq; simp [imC, pcs] at hq; rcases hq with rfl | rfl | rfl | rfl | rfl | rfl | rfl <;> first | rfl | exact hone) ?_
      intro w9 hw9 hs9 hf9
      have hf79 : Fm (fun _ => False) w7 w9 := Fm.own hf8 hf9 (by rintro y rfl; omega)
      have h9 := h7.keep hf79
      simp only [RS0, RS1, RS2, RS3, RS4, RS5, im_body hw9]
      refine (encode_spec (hpg.keep hf79)).mono ?_
      rintro _ w10 ⟨rfl, hf10⟩
      have h10 := h9.keep hf10
      have he : encR m.2 = .tuple #[stv (pEnc m.2).1, iv (pErr m.2)] := by unfold encR; rw [pEnc_err]
      rw [he]
      simp only [RS0, RS1, RS2, RS3, RS4, RS5, bne_dec]
      rw [show imgErr (m :: r.imgs.drop (i + 1)) = bif decide (pErr m.2 = 0) then imgErr (r.imgs.drop (i + 1)) else pErr m.2 from rfl] at hie
      cases hz : decide (pErr m.2 = 0) with
      | false =>
        rw [hz, cond_false] at hie
        have hz' : decide (imgErr r.imgs = 0) = false := by rw [hie]; exact hz
        simp only [RS0, RS1, RS2, RS3, RS4, RS5]
        refine ⟨?_, Fmf hf1 h10.fm⟩
        unfold rInner
        rw [hz', cond_false, hie]
        rfl
      | true =>
        rw [hz, cond_true] at hie
        have h0 : pErr m.2 = 0 := by simpa using hz
        have c10 : w10.cell? ⟨x8, 0, none⟩ = some (iv m.1) := by rw [cell_at (hf10.heap hw9 (fun e => e))]; rfl
        simp only [RS0, RS1, RS2, RS3, RS4, RS5, c10]
        refine h10.lit (bs47_1 _ _) rfl (by intro n hn; simp at hn; subst hn; exact nim m hmm) (by omega) ?_
        intro u11 w11 h11
        rw [numsB1] at h11
        have hel := encI_len (nim m hmm)
        have hlen := pEnc_len h0
        obtain ⟨_, htl⟩ := trim_pad hlen
        refine (trimr_spec w11 (pEnc m.2).1 (by omega)).mono ?_
        rintro _ w12 ⟨rfl, rfl⟩
        refine h11.text (by omega) (by rw [List.length_append]; omega) ?_
        intro u13 w13 h13
        simp only [RS0, RS1, RS2, RS3, RS4, RS5, e1]
        have e2 : B6 ++ (r.imgs.take (i + 1)).flatMap imgB = B6 ++ (r.imgs.take i).flatMap imgB ++ encI m.1 ++ txtB (trimZ (pEnc m.2).1) := by rw [List.take_add_one, hx]; simp [imgB]
        refine ⟨⟨i + 1, rfl, by omega, by rw [e2]; exact h13, ?_, hie⟩, by simp only [nth_0]; omega⟩
        rw [e2]
        have := encI_len (n := (trimZ (pEnc m.2).1).length) (by omega)
        simp only [List.length_append] at hl7 ⊢
        unfold txtB
        rw [List.length_append]
        omega
    · have hie2 : i = r.imgs.length := by omega
      subst hie2
      rw [List.drop_length] at hie
      have d2 : decide (((r.imgs.length : Nat) : Int) < (r.imgs.length : Int)) = false := by simp
      rw [List.take_length] at h7 hl7
      have hl7' : (B6 ++ r.imgs.flatMap imgB).length ≤ 9000 := by omega
      generalize hB7 : B6 ++ r.imgs.flatMap imgB = B7 at h7 hl7'
      have hR7 := kR h7.fm
      simp only [RS0, RS1, RS2, RS3, RS4, RS5, d2, hR7.c14, (kP h7.fm).lenV]
      refine h7.lit (bs47_1 _ _) rfl (by intro n hn; simp at hn; omega) (by omega) ?_
      intro u16 w16 h16
      rw [numsB1] at h16
      have hR16 := kR h16.fm
      have hl16 : (B7 ++ encI (r.pages.length : Int)).length ≤ 9100 := by
        have := encI_len (n := r.pages.length) (by omega)
        rw [List.length_append]; omega
      generalize hB16 : B7 ++ encI (r.pages.length : Int) = B16 at h16 hl16
      simp only [RS0, RS1, RS2, RS3, RS4, RS5, hR16.c14, (kP h16.fm).lenV]
      refine ⟨fun vl w' => ∃ i : Nat, vl = [iv i] ∧ i ≤ r.pages.length ∧ WS w1 w' rw (B16 ++ (r.pages.take i).flatMap prB) ∧ (B16 ++ (r.pages.take i).flatMap prB).length ≤ 9100 + 18 * i, fun vl _ => (r.pages.length - nth vl 0).toNat, ⟨0, rfl, by omega, by simpa using h16, by simpa using hl16⟩, ?_⟩
      rintro _ w17 iv17 ⟨i, hvl, hile, h17, hl17⟩
      cases hvl
      by_cases hlt : i < r.pages.length
      · have hx : r.pages[i]? = some r.pages[i] := List.getElem?_eq_getElem hlt
        generalize r.pages[i] = m at hx
        have hmm := List.mem_of_getElem? hx
        obtain ⟨ad, hix, hcv, _⟩ := cells_ld pc2_len (by omega) (kP h17.fm) hx
        have d2 : decide ((i : Int) < (r.pages.length : Int)) = true := by rw [decide_eq_true_eq]; omega
        have e1 : IntKind.i64.wrap ((i : Int) + 1) = ((i + 1 : Nat) : Int) := by rw [wrap_id] <;> omega
        simp only [RS0, RS1, RS2, RS3, RS4, RS5, d2, hix, hcv]
        refine New_any ?_
        intro x8 w8 hx8 hs8 hw8 hf8
        refine St_all hw8 rfl (pc2_len _) (by intro q hq; simp [pc2] at hq; rcases hq with rfl | rfl <;> rfl) ?_
        intro w9 hw9 hs9 hf9
        have hf79 : Fm (fun _ => False) w17 w9 := Fm.own hf8 hf9 (by rintro y rfl; omega)
        have h9 := h17.keep hf79
        have c0 : w9.cell? ⟨x8, 0, none⟩ = some (iv m.1) := by rw [cell_at hw9]; rfl
        have c1 : w9.cell? ⟨x8, 1, none⟩ = some (iv m.2) := by rw [cell_at hw9]; rfl
        simp only [RS0, RS1, RS2, RS3, RS4, RS5, c0, c1]
        obtain ⟨hm1, hm2⟩ := npg m hmm
        refine h9.lit (bs47_2 _ _ _) rfl (by intro n hn; simp at hn; rcases hn with rfl | rfl <;> assumption) (by omega) ?_
        intro u11 w11 h11
        rw [numsB2] at h11
        simp only [RS0, RS1, RS2, RS3, RS4, RS5, e1]
        have e2 : B16 ++ (r.pages.take (i + 1)).flatMap prB = B16 ++ (r.pages.take i).flatMap prB ++ prB (m.1, m.2) := by rw [List.take_add_one, hx]; simp
        refine ⟨⟨i + 1, rfl, by omega, by rw [e2]; exact h11, ?_⟩, by simp only [nth_0]; omega⟩
        rw [e2]
        have := prB_len (p := (m.1, m.2)) hm1 hm2
        rw [List.length_append]
        omega
      have hie3 : i = r.pages.length := by omega
      subst hie3
      have d17 : decide (((r.pages.length : Nat) : Int) < (r.pages.length : Int)) = false := by simp
      rw [List.take_length] at h17 hl17
      have hl17' : (B16 ++ r.pages.flatMap prB).length ≤ 160000 := by omega
      generalize hB17 : B16 ++ r.pages.flatMap prB = B17 at h17 hl17'
      have hR17 := kR h17.fm
      simp only [RS0, RS1, RS2, RS3, RS4, RS5, d17, hR17.c15, (kT h17.fm).lenV]
      refine h17.lit (bs47_1 _ _) rfl (by intro n hn; simp at hn; omega) (by omega) ?_
      intro u26 w26 h26
      rw [numsB1] at h26
      have hR26 := kR h26.fm
      have hl26 : (B17 ++ encI (r.txns.length : Int)).length ≤ 160100 := by
        have := encI_len (n := r.txns.length) (by omega)
        rw [List.length_append]; omega
      generalize hB26 : B17 ++ encI (r.txns.length : Int) = B26 at h26 hl26
      simp only [RS0, RS1, RS2, RS3, RS4, RS5, hR26.c15, (kT h26.fm).lenV]
      refine ⟨fun vl w' => ∃ i : Nat, vl = [iv i] ∧ i ≤ r.txns.length ∧ WS w1 w' rw (B26 ++ (r.txns.take i).flatMap prB) ∧ (B26 ++ (r.txns.take i).flatMap prB).length ≤ 160100 + 18 * i, fun vl _ => (r.txns.length - nth vl 0).toNat, ⟨0, rfl, by omega, by simpa using h26, by simpa using hl26⟩, ?_⟩
      rintro _ w27 iv27 ⟨i, hvl, hile, h27, hl27⟩
      cases hvl
      by_cases hlt : i < r.txns.length
      · have hx : r.txns[i]? = some r.txns[i] := List.getElem?_eq_getElem hlt
        generalize r.txns[i] = m at hx
        have hmm := List.mem_of_getElem? hx
        obtain ⟨ad, hix, hcv, _⟩ := cells_ld pc2_len (by omega) (kT h27.fm) hx
        have d2 : decide ((i : Int) < (r.txns.length : Int)) = true := by rw [decide_eq_true_eq]; omega
        have e1 : IntKind.i64.wrap ((i : Int) + 1) = ((i + 1 : Nat) : Int) := by rw [wrap_id] <;> omega
        simp only [RS0, RS1, RS2, RS3, RS4, RS5, d2, hix, hcv]
        refine New_any ?_
        intro x8 w8 hx8 hs8 hw8 hf8
        refine St_all hw8 rfl (pc2_len _) (by intro q hq; simp [pc2] at hq; rcases hq with rfl | rfl <;> rfl) ?_
        intro w9 hw9 hs9 hf9
        have hf79 : Fm (fun _ => False) w27 w9 := Fm.own hf8 hf9 (by rintro y rfl; omega)
        have h9 := h27.keep hf79
        have c0 : w9.cell? ⟨x8, 0, none⟩ = some (iv m.1) := by rw [cell_at hw9]; rfl
        have c1 : w9.cell? ⟨x8, 1, none⟩ = some (iv m.2) := by rw [cell_at hw9]; rfl
        simp only [RS0, RS1, RS2, RS3, RS4, RS5, c0, c1]
        obtain ⟨hm1, hm2⟩ := ntx m hmm
        refine h9.lit (bs47_2 _ _ _) rfl (by intro n hn; simp at hn; rcases hn with rfl | rfl <;> assumption) (by omega) ?_
        intro u11 w11 h11
        rw [numsB2] at h11
        simp only [RS0, RS1, RS2, RS3, RS4, RS5, e1]
        have e2 : B26 ++ (r.txns.take (i + 1)).flatMap prB = B26 ++ (r.txns.take i).flatMap prB ++ prB (m.1, m.2) := by rw [List.take_add_one, hx]; simp
        refine ⟨⟨i + 1, rfl, by omega, by rw [e2]; exact h11, ?_⟩, by simp only [nth_0]; omega⟩
        rw [e2]
        have := prB_len (p := (m.1, m.2)) hm1 hm2
        rw [List.length_append]
        omega
      have hie3 : i = r.txns.length := by omega
      subst hie3
      have d27 : decide (((r.txns.length : Nat) : Int) < (r.txns.length : Int)) = false := by simp
      rw [List.take_length] at h27 hl27
      have hl27' : (B26 ++ r.txns.flatMap prB).length ≤ 180000 := by omega
      generalize hB27 : B26 ++ r.txns.flatMap prB = B27 at h27 hl27'
      have hR27 := kR h27.fm
      simp only [RS0, RS1, RS2, RS3, RS4, RS5, d27]
      refine (bbytes_spec h27.wr.1).mono ?_
      rintro _ w30 ⟨rfl, rfl⟩
      have hbody : rBody r = B27 := by
        rw [← hB27, ← hB26, ← hB17, ← hB16, ← hB7, ← hB6, ← hB5, ← hB4]
        rfl
      have hie0 : decide (imgErr r.imgs = 0) = true := by rw [hie]; rfl
      have d9 : decide ((65535 : Int) < (B27.length : Int)) = decide (65535 < B27.length) := by rw [decide_eq_decide]; omega
      unfold rInner
      rw [hie0, cond_true, hbody]
      simp only [RS0, RS1, RS2, RS3, RS4, RS5, str_size, d9]
      cases hbig : decide (65535 < B27.length) with
      | true =>
        simp only [RS0, RS1, RS2, RS3, RS4, RS5, cond_true]
        exact ⟨(by trivial), Fmf hf1 h27.fm⟩
      | false =>
        simp only [RS0, RS1, RS2, RS3, RS4, RS5, cond_false]
        exact ⟨(by trivial), Fmf hf1 h27.fm⟩

set_option maxHeartbeats 4000000 in
theorem checked_spec {w : World} {cs : Array Value} {r : Rc} (h : RcAs w cs r) : Cl Tryz.prog 82 [.agg cs] w fun v w' => v = .tuple #[stv (rCheck r).1, iv (rCheck r).2] ∧ Fm (fun _ => False) w w' := by
  obtain ⟨vs, vm, vi, vp, vt, hcs, _, hs, hm, hi, hp, ht⟩ := h.ex
  have hk8 := h.kin
  refine c82 ?_; unfold T82
  refine New_any ?_
  intro x1 w1 hx1 hs1 hw1 hf1
  have hR1 : RB w1 x1 r vs vm vi vp vt := ⟨by rw [← hcs]; exact hw1⟩
  have h1 := h.keep hf1
  rw [hcs] at h1
  unfold rCheck
  simp only [RS0, RS1, RS2, RS3, RS4, RS5, hR1.c3]
  cases e1 : decide (r.kind < 1) with
  | true =>
    simp only [RS0, RS1, RS2, RS3, RS4, RS5, Bool.true_or, cond_true]
    exact ⟨(by trivial), hf1⟩
  | false =>
  simp only [RS0, RS1, RS2, RS3, RS4, RS5, hR1.c3, Bool.false_or]
  cases e2 : decide (13 < r.kind) with
  | true =>
    simp only [RS0, RS1, RS2, RS3, RS4, RS5, cond_true]
    exact ⟨(by trivial), hf1⟩
  | false =>
  simp only [RS0, RS1, RS2, RS3, RS4, RS5, cond_false, hR1.c0]
  cases e3 : decide (r.lsn < 1) with
  | true =>
    simp only [RS0, RS1, RS2, RS3, RS4, RS5, Bool.true_or, cond_true]
    exact ⟨(by trivial), hf1⟩
  | false =>
  simp only [RS0, RS1, RS2, RS3, RS4, RS5, hR1.all, Bool.false_or]
  refine (numbers_spec h1).mono ?_
  rintro v2 w2 ⟨ho2, hf2⟩
  refine (contains_spec (CellsAt.of_own ho2)).mono ?_
  rintro _ w3 ⟨rfl, rfl⟩
  have hF2 := Fmf hf1 hf2
  have hR2 := hR1.keep hf2 (fun e => e)
  cases e4 : (rNums r).any badN with
  | true =>
    simp only [RS0, RS1, RS2, RS3, RS4, RS5, cond_true]
    exact ⟨(by trivial), hF2⟩
  | false =>
  have m1 : decide ((512 : Int) < (r.data.length : Int)) = decide (512 < r.data.length) := by rw [decide_eq_decide]; omega
  have m2 : decide ((255 : Int) < (r.slots.length : Int)) = decide (255 < r.slots.length) := by rw [decide_eq_decide]; omega
  have m3 : decide ((255 : Int) < (r.more.length : Int)) = decide (255 < r.more.length) := by rw [decide_eq_decide]; omega
  have m4 : decide ((4 : Int) < (r.imgs.length : Int)) = decide (4 < r.imgs.length) := by rw [decide_eq_decide]; omega
  have m5 : decide ((8192 : Int) < (r.pages.length : Int)) = decide (8192 < r.pages.length) := by rw [decide_eq_decide]; omega
  have m6 : decide ((1024 : Int) < (r.txns.length : Int)) = decide (1024 < r.txns.length) := by rw [decide_eq_decide]; omega
  simp only [RS0, RS1, RS2, RS3, RS4, RS5, cond_false, hR2.c10, str_size, m1]
  have long : ∀ {w'}, longR r = true → Fm (fun _ => False) w w' → Value.tuple #[.string (ByteArray.mk #[]), .int .i64 3] = .tuple #[stv (bif longR r then (([] : Bs), (3 : Int)) else rInner r).1, iv (bif longR r then (([] : Bs), (3 : Int)) else rInner r).2] ∧ Fm (fun _ => False) w w' := fun hl hf => ⟨by rw [hl]; rfl, hf⟩
  cases q1 : decide (512 < r.data.length) with
  | true => simp only [RS0, RS1, RS2, RS3, RS4, RS5]; exact long (by simp [longR, q1]) hF2
  | false =>
  simp only [RS0, RS1, RS2, RS3, RS4, RS5, hR2.c11, hs.lenV, m2]
  cases q2 : decide (255 < r.slots.length) with
  | true => simp only [RS0, RS1, RS2, RS3, RS4, RS5]; exact long (by simp [longR, q2]) hF2
  | false =>
  simp only [RS0, RS1, RS2, RS3, RS4, RS5, hR2.c12, hm.lenV, m3]
  cases q3 : decide (255 < r.more.length) with
  | true => simp only [RS0, RS1, RS2, RS3, RS4, RS5]; exact long (by simp [longR, q3]) hF2
  | false =>
  simp only [RS0, RS1, RS2, RS3, RS4, RS5, hR2.c13, hi.lenV, m4]
  cases q4 : decide (4 < r.imgs.length) with
  | true => simp only [RS0, RS1, RS2, RS3, RS4, RS5]; exact long (by simp [longR, q4]) hF2
  | false =>
  simp only [RS0, RS1, RS2, RS3, RS4, RS5, hR2.c14, hp.lenV, m5]
  cases q5 : decide (8192 < r.pages.length) with
  | true => simp only [RS0, RS1, RS2, RS3, RS4, RS5]; exact long (by simp [longR, q5]) hF2
  | false =>
  simp only [RS0, RS1, RS2, RS3, RS4, RS5, hR2.c15, ht.lenV, m6]
  cases q6 : decide (1024 < r.txns.length) with
  | true => simp only [RS0, RS1, RS2, RS3, RS4, RS5]; exact long (by simp [longR, q6]) hF2
  | false =>
  have hl : longR r = false := by unfold longR; rw [q1, q2, q3, q4, q5, q6]; rfl
  simp only [RS0, RS1, RS2, RS3, RS4, RS5, hR2.all]
  refine (inner_spec (h1.keep hf2) hl).mono ?_
  rintro _ w4 ⟨rfl, hf4⟩
  simp only [RS0, RS1, RS2, RS3, RS4, RS5]
  refine ⟨?_, Fmf hF2 hf4⟩
  rw [hl]
  rfl
theorem check_spec {w : World} {cs : Array Value} {r : Rc} (h : RcAs w cs r) : Cl Tryz.prog 92 [.agg cs] w fun v w' => v = iv (rCheck r).2 ∧ Fm (fun _ => False) w w' := by
  refine c92 ?_; unfold T92
  refine New_any ?_
  intro x1 w1 hx1 hs1 hw1 hf1
  simp only [RS0, RS1, RS2, RS3, RS4, RS5, cellsV_blk hw1 h.size]
  refine (checked_spec (h.keep hf1)).mono ?_
  rintro _ w2 ⟨rfl, hf2⟩
  simp only [RS0, RS1, RS2, RS3, RS4, RS5]
  exact ⟨(by trivial), Fmf hf1 hf2⟩
theorem rCheck_len (r : Rc) : (rCheck r).1.length ≤ 65535 := by
  unfold rCheck
  cases decide (r.kind < 1) || decide (13 < r.kind) with
  | true => simp
  | false =>
  cases decide (r.lsn < 1) || (rNums r).any badN with
  | true => simp
  | false =>
  cases longR r with
  | true => simp
  | false =>
  simp only [cond_false]
  unfold rInner
  cases decide (imgErr r.imgs = 0) with
  | false => simp
  | true =>
  cases hb : decide (65535 < (rBody r).length) with
  | true => simp
  | false =>
    rw [decide_eq_false_iff_not] at hb
    simp only [cond_true, cond_false]
    omega
set_option maxHeartbeats 1000000 in
theorem renc_spec {w : World} {cs : Array Value} {r : Rc} (h : RcAs w cs r) : Cl Tryz.prog 89 [.agg cs] w fun v w' => v = .tuple #[stv (rEnc r).1, iv (rEnc r).2] ∧ Fm (fun _ => False) w w' := by
  refine c89 ?_; unfold T89
  refine New_any ?_
  intro x1 w1 hx1 hs1 hw1 hf1
  simp only [RS0, RS1, RS2, RS3, RS4, RS5, cellsV_blk hw1 h.size]
  refine (checked_spec (h.keep hf1)).mono ?_
  rintro _ w2 ⟨rfl, hf2⟩
  have hF2 := Fmf hf1 hf2
  have hlen := rCheck_len r
  unfold rEnc
  simp only [RS0, RS1, RS2, RS3, RS4, RS5, bne_dec]
  cases hz : decide ((rCheck r).2 = 0) with
  | false =>
    simp only [RS0, RS1, RS2, RS3, RS4, RS5, cond_false]
    exact ⟨(by trivial), hF2⟩
  | true =>
  generalize (rCheck r).1 = s at hlen
  simp only [RS0, RS1, RS2, RS3, RS4, RS5, cond_true, str_size]
  refine (big_spec w2 (by omega) 4).mono ?_
  rintro _ w3 ⟨rfl, hf3⟩
  refine (sum_spec w3 s (by omega)).mono ?_
  rintro _ w4 ⟨rfl, rfl⟩
  obtain ⟨q1, q2⟩ := crc_in s
  simp only [RS0, RS1, RS2, RS3, RS4, RS5, cvI_int, q2]
  refine (big_spec w4 q1 4).mono ?_
  rintro _ w5 ⟨rfl, hf5⟩
  have g1 : bigB (s.length : Nat) 4 = beN 4 s.length := bigB_of (n := s.length) (w := 4) (by omega) (by omega)
  have g2 : bigB (crc s : Nat) 4 = beN 4 (crc s) := bigB_of (n := crc s) (w := 4) (by omega) (by omega)
  rw [g1, g2, sadd (by rw [beN_len, beN_len]; omega)]
  try simp only [RS0, RS1, RS2, RS3, RS4, RS5]
  rw [sadd (by rw [List.length_append, beN_len, beN_len]; omega)]
  try simp only [RS0, RS1, RS2, RS3, RS4, RS5]
  exact ⟨(by trivial), Fmf hF2 (Fmf hf3 hf5)⟩

end Go.Proofs.YthbngnlmgplijaaGreatDoor
