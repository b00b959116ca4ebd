/- A record's body, by the document. -/
import Derived.Test.YtodnakepbdhfkaaDoorRcRef2
namespace Go.Proofs.YtodnakepbdhfkaaDoor
open Go.Al Go.Proofs
set_option linter.unusedVariables false
set_option linter.unusedSimpArgs false
set_option linter.unusedSectionVars false
set_option maxRecDepth 100000

/-- A row of bytes laid since w0. -/
structure OS (w0 w : World) (v : Value) (B : Bs) : Prop where
  o : OutAt w w0.heap.size 5 v B
  fm : Fm (fun _ => False) w0 w
theorem OS.keep {w0 w w' : World} {v : Value} {B : Bs} (h : OS w0 w v B) (hf : Fm (fun _ => False) w w') : OS w0 w' v B := ⟨h.o.keep hf (fun _ _ _ e => e), Fmf h.fm hf⟩
theorem OS.app {w0 w : World} {v : Value} {B : Bs} (h : OS w0 w v B) (x : Bs) (hl : B.length + x.length ≤ 100000000000) {k : KV} (hk : ∀ v' w', OS w0 w' v' (B ++ x) → k v' w') : RunS Tryd.prog (Builtin.append_ #[38, 9] 38 #[v, stv x]) w k := by
  obtain ⟨v', w', hr, ho, hf⟩ := h.o.app B38 x 38 hl h.fm.size
  exact RunS_ok hr (hk v' w' ⟨ho, Fm.own h.fm hf (fun _ e => e)⟩)
theorem OS.num {w0 w : World} {v : Value} {B : Bs} (h : OS w0 w v B) {u : Value} {ns : List Int} (hns : CellsAt w u ns.length 1 (ns.map iv)) (hin : ∀ n ∈ ns, n ≤ 9223372036854775807) (hl : B.length + 9 * ns.length ≤ 1000000000) {k : KV}
    (hk : ∀ v' w', OS w0 w' v' (B ++ numsB ns) → k v' w') : Cl Tryd.prog 93 [u] w fun t2 w2 => RunS Tryd.prog (Builtin.append_ #[38, 9] 38 #[v, t2]) w2 k := by
  refine (dnum_spec hns hin (by omega)).mono ?_
  rintro _ w2 ⟨rfl, hf2⟩
  have := numsB_len hin
  exact (h.keep hf2).app (numsB ns) (by omega) hk
theorem OS.lit {w0 w : World} {v : Value} {B : Bs} (h : OS w0 w v B) {n : Nat} {ns : List Int} {items : Array (Nat × Value)} (hb : (Instr.buildSlice 47 n items).run Tryd.prog w = .ok (.slice (some ⟨w.heap.size, 0, none⟩) n n) (w.alloc (.cells (ns.map iv).toArray 3))) (hn : ns.length = n) (hin : ∀ n ∈ ns, n ≤ 9223372036854775807) (hl : B.length + 9 * n ≤ 1000000000) {k : KV}
    (hk : ∀ v' w', OS w0 w' v' (B ++ numsB ns) → k v' w') : RunS Tryd.prog (Instr.buildSlice 47 n items) w fun t w1 => Cl Tryd.prog 93 [t] w1 fun t2 w2 => RunS Tryd.prog (Builtin.append_ #[38, 9] 38 #[v, t2]) w2 k := by
  refine RunS_ok hb ?_
  subst hn
  have hf := Fm.alloc (fun _ => False) w (.cells (ns.map iv).toArray 3)
  have hnew := own_new (w := w) (e := 3) (sz := 1) (base := w.heap.size) (n := ns.length) (l := ns.map iv) (by simp) (Nat.le_refl _) (by unfold maxLen; omega)
  exact (h.keep hf).num (CellsAt.of_own hnew) hin hl hk
theorem im_sub {w : World} {ad : Addr} {m : Int} {p : Pg} {u : Value} (h : cellsV w ad 7 = some (.agg (imC (m, p, u)).toArray)) : cellsV w (ad.add 1) 6 = some (.agg (pcs p u)) := by
  refine cellsV_of (l := (pcs p u).toList) rfl fun j hj => ?_
  rw [add_add, Nat.add_comm 1 j]
  have hx : (imC (m, p, u)).toArray[j + 1]? = (pcs p u).toList[j]? := by
    rw [List.getElem?_toArray]; rfl
  have hlt : j < (pcs p u).toList.length := hj
  rw [List.getElem?_eq_getElem hlt] at hx ⊢
  exact cellsV_cell h (i := j + 1) hx

set_option maxHeartbeats 16000000 in
theorem rbody_spec {w : World} {cs : Array Value} {r : Rc} (h : RcAs w cs r) (hlong : longR r = false) (hi0 : ∀ m ∈ r.imgs, pErr m.2 = 0) : Cl Tryd.prog 65 [.agg cs] w fun v w' => v = stv (rBody r) ∧ Fm (fun _ => False) w w' := by
  obtain ⟨vs, vm, vi, vp, vt, hcs, _, hs, hm, hi, hp, ht⟩ := h.ex
  simp only [longR, Bool.or_eq_false_iff, decide_eq_false_iff_not] at hlong
  obtain ⟨⟨⟨⟨⟨l1, l2⟩, l3⟩, l4⟩, l5⟩, l6⟩ := hlong
  have hins := h.ins
  have hk8 := h.kin
  have n9 : ∀ n ∈ [r.lsn, r.prev, r.next, r.redo, r.xid, r.page, r.slot, r.old, r.new], In n := fun n hn => hins n (by unfold rNums; simp only [List.mem_append]; exact .inl (.inl (.inl (.inl (.inl hn)))))
  have nsl : ∀ n ∈ r.slots, n ≤ 9223372036854775807 := fun n hn => (hins n (by unfold rNums; simp only [List.mem_append]; exact .inl (.inl (.inl (.inl (.inr hn)))))).2
  have nmo : ∀ n ∈ r.more, n ≤ 9223372036854775807 := fun n hn => (hins n (by unfold rNums; simp only [List.mem_append]; exact .inl (.inl (.inl (.inr hn))))).2
  have nim : ∀ m ∈ r.imgs, m.1 ≤ 9223372036854775807 := fun m hm => (hins m.1 (by unfold rNums; simp only [List.mem_append]; exact .inl (.inl (.inr (List.mem_map.2 ⟨m, hm, rfl⟩))))).2
  have npg : ∀ m ∈ r.pages, m.1 ≤ 9223372036854775807 ∧ m.2 ≤ 9223372036854775807 := fun m hm => ⟨(hins m.1 (by unfold rNums; simp only [List.mem_append]; exact .inl (.inr (mem_prs hm).1))).2, (hins m.2 (by unfold rNums; simp only [List.mem_append]; exact .inl (.inr (mem_prs hm).2))).2⟩
  have ntx : ∀ m ∈ r.txns, m.1 ≤ 9223372036854775807 ∧ m.2 ≤ 9223372036854775807 := fun m hm => ⟨(hins m.1 (by unfold rNums; simp only [List.mem_append]; exact .inr (mem_prs hm).1)).2, (hins m.2 (by unfold rNums; simp only [List.mem_append]; exact .inr (mem_prs hm).2)).2⟩
  have nhd : ∀ n ∈ headL r, n ≤ 9223372036854775807 := fun n hn => by
    unfold headL at hn
    simp only [List.mem_cons, List.not_mem_nil, or_false] at hn
    rcases hn with rfl | rfl | rfl | rfl | rfl | rfl | rfl | rfl | rfl | rfl <;> first | omega | exact (n9 _ (by simp)).2
  refine c65 ?_; unfold T65
  refine New_any ?_
  intro x1 w1 hx1 hs1 hw1 hf1
  have hR1 : RB w1 x1 r vs vm vi vp vt := ⟨by rw [← hcs]; exact hw1⟩
  have kS : ∀ {w'}, Fm (fun _ => False) w1 w' → CellsAt w' vs r.slots.length 1 (r.slots.map iv) := fun hf => hs.keep (Fmf hf1 hf) (fun _ _ e => e)
  have kM : ∀ {w'}, Fm (fun _ => False) w1 w' → CellsAt w' vm r.more.length 1 (r.more.map iv) := fun hf => hm.keep (Fmf hf1 hf) (fun _ _ e => e)
  have kI : ∀ {w'}, Fm (fun _ => False) w1 w' → ImAs w' vi r.imgs := fun hf => hi.keep (Fmf hf1 hf)
  have kP : ∀ {w'}, Fm (fun _ => False) w1 w' → CellsAt w' vp r.pages.length 2 (r.pages.flatMap pc2) := fun hf => hp.keep (Fmf hf1 hf) (fun _ _ e => e)
  have kT : ∀ {w'}, Fm (fun _ => False) w1 w' → CellsAt w' vt r.txns.length 2 (r.txns.flatMap pc2) := fun hf => ht.keep (Fmf hf1 hf) (fun _ _ e => e)
  have kR : ∀ {w'}, Fm (fun _ => False) w1 w' → RB w' x1 r vs vm vi vp vt := fun hf => hR1.keep hf (fun e => e)
  have ek : IntKind.i64.wrap r.kind = r.kind := by rw [wrap_id]; omega
  have ekc : cvI .i64 (.int .u8 r.kind) = some (iv r.kind) := by
    show some (Value.int .i64 (IntKind.i64.wrap r.kind)) = _
    rw [ek]
  refine ⟨fun w' => w'.cell? ⟨x1, 10, none⟩ = some (stv r.data), (kR (Fm.drew _ w1)).c10, ?_⟩
  simp only [RS0, RS1, RS2, RS3, RS4, RS5, hR1.c0, hR1.c1, hR1.c2, hR1.c3, hR1.c4, hR1.c5, hR1.c6, hR1.c7, hR1.c8, hR1.c9, ekc, true_and]
  refine ⟨stv r.data, fun w9 h9 => ?_, ?_⟩
  · simp only [RS0, RS1, RS2, RS3, RS4, RS5, h9]; trivial
  have hfd := Fm.drew (fun _ => False) w1
  generalize w1.drew = w2 at hfd
  refine RunS_ok (bs47_10 _ _ _ _ _ _ _ _ _ _ _) ?_
  have hfa := Fm.alloc (fun _ => False) w2 (.cells ((headL r).map iv).toArray 3)
  have hnew := own_new (w := w2) (e := 3) (sz := 1) (base := w2.heap.size) (n := 10) (l := (headL r).map iv) rfl (Nat.le_refl _) (by decide)
  have hF3 := Fmf hfd hfa
  refine ⟨(kR hF3).c10, ?_⟩
  refine (dnum_spec (ns := headL r) (CellsAt.of_own hnew) nhd (by simp [headL])).mono ?_
  rintro _ w3 ⟨rfl, hf3⟩
  replace hF3 := Fmf hF3 hf3
  refine ⟨(kR hF3).c10, ?_⟩
  refine (dtext_spec w3 r.data (by omega)).mono ?_
  rintro _ w4 ⟨rfl, hf4⟩
  replace hF3 := Fmf hF3 hf4
  clear hf4 hf3 hnew hfa hfd
  have hl3 : (numsB (headL r)).length ≤ 90 := by have := numsB_len nhd; exact this
  have hlt4 : (txtB r.data).length ≤ 600 := by
    have := encI_len (n := r.data.length) (by omega)
    unfold txtB; rw [List.length_append]; omega
  rw [sadd (by omega)]
  try simp only [RS0, RS1, RS2, RS3, RS4, RS5]
  have hl4 : (numsB (headL r) ++ txtB r.data).length ≤ 700 := by rw [List.length_append]; omega
  generalize hB4 : numsB (headL r) ++ txtB r.data = B4 at hl4
  obtain ⟨v5, w5, hr5, ho5, hf5⟩ := OutAt.new B38 w4 B4 (by unfold maxLen; omega) hF3.size
  refine RunS_ok hr5 ?_
  have h5 : OS w1 w5 v5 B4 := ⟨ho5, Fmf hF3 hf5⟩
  clear ho5 hf5 hr5 hF3
  simp only [RS0, RS1, RS2, RS3, RS4, RS5, (kR h5.fm).c11, (kS h5.fm).lenV]
  have hls : (listB r.slots).length ≤ 2400 := by
    have := numsB_len nsl
    have := encI_len (n := r.slots.length) (by omega)
    unfold listB; rw [List.length_append]; omega
  have hlm : (listB r.more).length ≤ 2400 := by
    have := numsB_len nmo
    have := encI_len (n := r.more.length) (by omega)
    unfold listB; rw [List.length_append]; omega
  have eS := encI_len (n := r.slots.length) (by omega)
  have eM := encI_len (n := r.more.length) (by omega)
  have eI := encI_len (n := r.imgs.length) (by omega)
  have eP := encI_len (n := r.pages.length) (by omega)
  have eT := encI_len (n := r.txns.length) (by omega)
  refine h5.lit (bs47_1 _ _) rfl (by intro n hn; simp at hn; omega) (by omega) ?_
  intro v6 w6 h6
  rw [numsB1] at h6
  simp only [RS0, RS1, RS2, RS3, RS4, RS5, (kR h6.fm).c11]
  refine h6.num (kS h6.fm) nsl (by rw [List.length_append]; omega) ?_
  intro v7 w7 h7
  replace h7 : OS w1 w7 v7 (B4 ++ listB r.slots) := by have := h7; rw [List.append_assoc] at this; exact this
  simp only [RS0, RS1, RS2, RS3, RS4, RS5, (kR h7.fm).c12, (kM h7.fm).lenV]
  refine h7.lit (bs47_1 _ _) rfl (by intro n hn; simp at hn; omega) (by rw [List.length_append]; omega) ?_
  intro v8 w8 h8
  rw [numsB1] at h8
  simp only [RS0, RS1, RS2, RS3, RS4, RS5, (kR h8.fm).c12]
  refine h8.num (kM h8.fm) nmo (by simp only [List.length_append]; omega) ?_
  intro v9 w9 h9
  replace h9 : OS w1 w9 v9 (B4 ++ listB r.slots ++ listB r.more) := by have := h9; rw [List.append_assoc (B4 ++ listB r.slots)] at this; exact this
  have hl5 : (B4 ++ listB r.slots ++ listB r.more).length ≤ 6000 := by simp only [List.length_append]; omega
  generalize hB5 : B4 ++ listB r.slots ++ listB r.more = B5 at h9 hl5
  simp only [RS0, RS1, RS2, RS3, RS4, RS5, (kR h9.fm).c13, (kI h9.fm).lenV]
  refine h9.lit (bs47_1 _ _) rfl (by intro n hn; simp at hn; omega) (by omega) ?_
  intro v10 w10 h10
  rw [numsB1] at h10
  have hl6 : (B5 ++ encI (r.imgs.length : Int)).length ≤ 6010 := by rw [List.length_append]; omega
  generalize hB6 : B5 ++ encI (r.imgs.length : Int) = B6 at h10 hl6
  refine ⟨fun vl w' => ∃ (i : Nat) (o : Value), vl = [o, iv i] ∧ i ≤ r.imgs.length ∧ OS w1 w' o (B6 ++ (r.imgs.take i).flatMap imgB) ∧ (B6 ++ (r.imgs.take i).flatMap imgB).length ≤ 6010 + 600 * i, fun vl _ => (r.imgs.length - nth vl 1).toNat, ⟨0, _, rfl, by omega, by simpa using h10, by simpa using hl6⟩, ?_⟩
  rintro _ w11 ov iw ⟨i, o, hvl, hile, h11, hl11⟩
  cases hvl
  have hR11 := kR h11.fm
  have hI11 := kI h11.fm
  by_cases hlt : i < r.imgs.length
  · have hx : r.imgs[i]? = some r.imgs[i] := List.getElem?_eq_getElem hlt
    generalize r.imgs[i] = m at hx
    have hmm := List.mem_of_getElem? hx
    obtain ⟨ad, u, hix, hcv, hone, hpg⟩ := hI11.ld hx
    have hc0 : w11.cell? ad = some (iv m.1) := by
      have := cellsV_cell hcv (i := 0) (x := iv m.1) rfl
      rw [Go.Al.add_zero] at this; exact this
    have d2 : decide ((i : Int) < (r.imgs.length : Int)) = true := by rw [decide_eq_true_eq]; omega
    have e1 : IntKind.i64.wrap ((i : Int) + 1) = ((i + 1 : Nat) : Int) := by rw [wrap_id] <;> omega
    have h0 := hi0 m hmm
    have hlen := pEnc_len h0
    simp only [RS0, RS1, RS2, RS3, RS4, RS5, hR11.c13, hI11.lenV, d2]
    have hsub := im_sub hcv
    refine ⟨fun w' => w'.cell? ⟨x1, 13, none⟩ = some vi ∧ cellsV w' (ad.add 1) 6 = some (.agg (pcs m.2 u)), ⟨hR11.c13, cellsV_keep hsub (Fm.drew (fun _ => False) w11) (fun e => e)⟩, ?_⟩
    simp only [RS0, RS1, RS2, RS3, RS4, RS5, hR11.c13, hix, hc0, true_and]
    refine ⟨vi, fun w9 h9 => ?_, ?_⟩
    · simp only [RS0, RS1, RS2, RS3, RS4, RS5, h9.1]; trivial
    simp only [RS0, RS1, RS2, RS3, RS4, RS5, hix]
    refine ⟨.agg (pcs m.2 u), fun w9 h9 => ?_, ?_⟩
    · simp only [RS0, RS1, RS2, RS3, RS4, RS5, h9.2]; trivial
    have hfd := Fm.drew (fun _ => False) w11
    have h12 := h11.keep hfd
    generalize w11.drew = w12 at hfd h12
    refine RunS_ok (bs47_1 _ _) ?_
    have hfa := Fm.alloc (fun _ => False) w12 (.cells ([m.1].map iv).toArray 3)
    have hnew := own_new (w := w12) (e := 3) (sz := 1) (base := w12.heap.size) (n := 1) (l := [m.1].map iv) rfl (Nat.le_refl _) (by decide)
    have hF13 := Fmf hfd hfa
    refine ⟨⟨(hR11.keep hF13 (fun e => e)).c13, cellsV_keep hsub hF13 (fun e => e)⟩, ?_⟩
    refine (dnum_spec (ns := [m.1]) (CellsAt.of_own hnew) (by intro n hn; simp at hn; subst hn; exact nim m hmm) (by simp)).mono ?_
    rintro _ w13 ⟨rfl, hf13⟩
    replace hF13 := Fmf hF13 hf13
    refine ⟨⟨(hR11.keep hF13 (fun e => e)).c13, cellsV_keep hsub hF13 (fun e => e)⟩, ?_⟩
    refine (bare_spec (hpg.keep hF13) (by omega)).mono ?_
    rintro _ w14 ⟨rfl, hf14⟩
    obtain ⟨_, htl⟩ := trim_pad hlen
    have hel := encI_len (nim m hmm)
    have hel2 := encI_len (n := (trimZ (pEnc m.2).1).length) (by omega)
    refine (dtext_spec w14 _ (by omega)).mono ?_
    rintro _ w15 ⟨rfl, hf15⟩
    replace hF13 := Fmf hF13 (Fmf hf14 hf15)
    rw [numsB1]
    have htx : (txtB (trimZ (pEnc m.2).1)).length ≤ 530 := by unfold txtB; rw [List.length_append]; omega
    rw [sadd (by omega)]
    try simp only [RS0, RS1, RS2, RS3, RS4, RS5]
    have hq : (encI m.1 ++ txtB (trimZ (pEnc m.2).1)).length ≤ 540 := by rw [List.length_append]; omega
    refine (h11.keep hF13).app _ (by omega) ?_
    intro v16 w16 h16
    simp only [RS0, RS1, RS2, RS3, RS4, RS5, e1]
    have e2 : B6 ++ (r.imgs.take (i + 1)).flatMap imgB = B6 ++ (r.imgs.take i).flatMap imgB ++ (encI m.1 ++ txtB (trimZ (pEnc m.2).1)) := by rw [List.take_add_one, hx]; simp [imgB]
    refine ⟨⟨i + 1, _, rfl, by omega, by rw [e2]; exact h16, ?_⟩, by simp only [nth_1]; omega⟩
    rw [e2]
    simp only [List.length_append] at hl11 ⊢
    omega
  have hie2 : i = r.imgs.length := by omega
  subst hie2
  have d2 : decide (((r.imgs.length : Nat) : Int) < (r.imgs.length : Int)) = false := by simp
  rw [List.take_length] at h11 hl11
  have hl7' : (B6 ++ r.imgs.flatMap imgB).length ≤ 9000 := by omega
  generalize hB7 : B6 ++ r.imgs.flatMap imgB = B7 at h11 hl7'
  simp only [RS0, RS1, RS2, RS3, RS4, RS5, hR11.c13, hI11.lenV, d2, hR11.c14, (kP h11.fm).lenV]
  refine h11.lit (bs47_1 _ _) rfl (by intro n hn; simp at hn; omega) (by omega) ?_
  intro v20 w20 h20
  rw [numsB1] at h20
  have hl16 : (B7 ++ encI (r.pages.length : Int)).length ≤ 9100 := by rw [List.length_append]; omega
  generalize hB16 : B7 ++ encI (r.pages.length : Int) = B16 at h20 hl16
  clear hlt hl11 h11 hR11 hI11 d2
  refine ⟨fun vl w' => ∃ (i : Nat) (o : Value), vl = [o, iv i] ∧ i ≤ r.pages.length ∧ OS w1 w' o (B16 ++ (r.pages.take i).flatMap prB) ∧ (B16 ++ (r.pages.take i).flatMap prB).length ≤ 9100 + 18 * i, fun vl _ => (r.pages.length - nth vl 1).toNat, ⟨0, _, rfl, by omega, by simpa using h20, by simpa using hl16⟩, ?_⟩
  rintro _ w21 ov iw ⟨i, o, hvl, hile, h21, hl21⟩
  cases hvl
  have hR21 := kR h21.fm
  have hP21 := kP h21.fm
  by_cases hlt : i < r.pages.length
  · have hx : r.pages[i]? = some r.pages[i] := List.getElem?_eq_getElem hlt
    generalize r.pages[i] = m at hx
    have hmm := List.mem_of_getElem? hx
    obtain ⟨ad, hix, hcv, _⟩ := cells_ld pc2_len (by omega) hP21 hx
    have hc0 : w21.cell? ad = some (iv m.1) := by
      have := cellsV_cell hcv (i := 0) (x := iv m.1) rfl
      rw [Go.Al.add_zero] at this; exact this
    have hc1 : w21.cell? (ad.add 1) = some (iv m.2) := cellsV_cell hcv (i := 1) (x := iv m.2) rfl
    have d2 : decide ((i : Int) < (r.pages.length : Int)) = true := by rw [decide_eq_true_eq]; omega
    have e1 : IntKind.i64.wrap ((i : Int) + 1) = ((i + 1 : Nat) : Int) := by rw [wrap_id] <;> omega
    obtain ⟨hm1, hm2⟩ := npg m hmm
    simp only [RS0, RS1, RS2, RS3, RS4, RS5, hR21.c14, hP21.lenV, d2, hix, hc0, hc1, true_and]
    have h22 := h21.keep (Fm.drew (fun _ => False) w21)
    refine h22.lit (bs47_2 _ _ _) rfl (by intro n hn; simp at hn; rcases hn with rfl | rfl <;> assumption) (by omega) ?_
    intro v23 w23 h23
    rw [numsB2] at h23
    simp only [RS0, RS1, RS2, RS3, RS4, RS5, e1]
    have e2 : B16 ++ (r.pages.take (i + 1)).flatMap prB = B16 ++ (r.pages.take i).flatMap prB ++ prB (m.1, m.2) := by rw [List.take_add_one, hx]; simp
    refine ⟨⟨i + 1, _, rfl, by omega, by rw [e2]; exact h23, ?_⟩, by simp only [nth_1]; omega⟩
    rw [e2]
    have := prB_len (p := (m.1, m.2)) hm1 hm2
    rw [List.length_append]
    omega
  have hie2 : i = r.pages.length := by omega
  subst hie2
  have d2 : decide (((r.pages.length : Nat) : Int) < (r.pages.length : Int)) = false := by simp
  rw [List.take_length] at h21 hl21
  have hl17' : (B16 ++ r.pages.flatMap prB).length ≤ 160000 := by omega
  generalize hB17 : B16 ++ r.pages.flatMap prB = B17 at h21 hl17'
  simp only [RS0, RS1, RS2, RS3, RS4, RS5, hR21.c14, hP21.lenV, d2, hR21.c15, (kT h21.fm).lenV]
  refine h21.lit (bs47_1 _ _) rfl (by intro n hn; simp at hn; omega) (by omega) ?_
  intro v30 w30 h30
  rw [numsB1] at h30
  have hl26 : (B17 ++ encI (r.txns.length : Int)).length ≤ 160100 := by rw [List.length_append]; omega
  generalize hB26 : B17 ++ encI (r.txns.length : Int) = B26 at h30 hl26
  clear hlt hl21 h21 hR21 hP21 d2
  refine ⟨fun vl w' => ∃ (i : Nat) (o : Value), vl = [o, iv i] ∧ i ≤ r.txns.length ∧ OS w1 w' o (B26 ++ (r.txns.take i).flatMap prB) ∧ (B26 ++ (r.txns.take i).flatMap prB).length ≤ 160100 + 18 * i, fun vl _ => (r.txns.length - nth vl 1).toNat, ⟨0, _, rfl, by omega, by simpa using h30, by simpa using hl26⟩, ?_⟩
  rintro _ w31 ov iw ⟨i, o, hvl, hile, h31, hl31⟩
  cases hvl
  have hR31 := kR h31.fm
  have hT31 := kT h31.fm
  by_cases hlt : i < r.txns.length
  · have hx : r.txns[i]? = some r.txns[i] := List.getElem?_eq_getElem hlt
    generalize r.txns[i] = m at hx
    have hmm := List.mem_of_getElem? hx
    obtain ⟨ad, hix, hcv, _⟩ := cells_ld pc2_len (by omega) hT31 hx
    have hc0 : w31.cell? ad = some (iv m.1) := by
      have := cellsV_cell hcv (i := 0) (x := iv m.1) rfl
      rw [Go.Al.add_zero] at this; exact this
    have hc1 : w31.cell? (ad.add 1) = some (iv m.2) := cellsV_cell hcv (i := 1) (x := iv m.2) rfl
    have d2 : decide ((i : Int) < (r.txns.length : Int)) = true := by rw [decide_eq_true_eq]; omega
    have e1 : IntKind.i64.wrap ((i : Int) + 1) = ((i + 1 : Nat) : Int) := by rw [wrap_id] <;> omega
    obtain ⟨hm1, hm2⟩ := ntx m hmm
    simp only [RS0, RS1, RS2, RS3, RS4, RS5, hR31.c15, hT31.lenV, d2, hix, hc0, hc1, true_and]
    have h22 := h31.keep (Fm.drew (fun _ => False) w31)
    refine h22.lit (bs47_2 _ _ _) rfl (by intro n hn; simp at hn; rcases hn with rfl | rfl <;> assumption) (by omega) ?_
    intro v23 w23 h23
    rw [numsB2] at h23
    simp only [RS0, RS1, RS2, RS3, RS4, RS5, e1]
    have e2 : B26 ++ (r.txns.take (i + 1)).flatMap prB = B26 ++ (r.txns.take i).flatMap prB ++ prB (m.1, m.2) := by rw [List.take_add_one, hx]; simp
    refine ⟨⟨i + 1, _, rfl, by omega, by rw [e2]; exact h23, ?_⟩, by simp only [nth_1]; omega⟩
    rw [e2]
    have := prB_len (p := (m.1, m.2)) hm1 hm2
    rw [List.length_append]
    omega
  have hie2 : i = r.txns.length := by omega
  subst hie2
  have d2 : decide (((r.txns.length : Nat) : Int) < (r.txns.length : Int)) = false := by simp
  rw [List.take_length] at h31 hl31
  simp only [RS0, RS1, RS2, RS3, RS4, RS5, hR31.c15, hT31.lenV, d2]
  refine RunS_ok (h31.o.conv B38) ⟨?_, Fmf hf1 h31.fm⟩
  rw [← hB26, ← hB17, ← hB16, ← hB7, ← hB6, ← hB5, ← hB4]
  rfl

end Go.Proofs.YtodnakepbdhfkaaDoor
