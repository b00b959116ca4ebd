/- Which record bytes begin with: the program's Decode; and what is laid is read. -/
import Derived.Test.YthbngnlmgplijaaGreatDoorRcOut
namespace Go.Proofs.YthbngnlmgplijaaGreatDoor
open Go.Al Go.Proofs
set_option linter.unusedVariables false
set_option linter.unusedSimpArgs false
set_option linter.unusedSectionVars false
set_option maxRecDepth 100000

def RdOk (w : World) (b : Nat) (cs : Array Value) : Option Rc → Prop
  | none => cs = rcs rc0 nl nl nl nl nl
  | some x => ∃ vs vm vi vp vt, cs = rcs x vs vm vi vp vt ∧ Rows w b x vs vm vi vp vt ∧ Bnd x
theorem rows0 (w : World) (b : Nat) : Rows w b rc0 nl nl nl nl nl := ⟨World.ownsRow_nil _ _ _ _, World.ownsRow_nil _ _ _ _, ⟨[], rfl, World.ownsRow_nil _ _ _ _, by simp⟩, World.ownsRow_nil _ _ _ _, World.ownsRow_nil _ _ _ _⟩
theorem bnd0 : Bnd rc0 := ⟨by intro n hn; simp [rNums, rc0, prs] at hn; subst hn; unfold okN; omega, by simp [rc0], by simp [rc0], by simp [rc0], by simp [rc0], by simp [rc0], by simp [rc0], by simp [rc0], by simp [rc0]⟩
theorem RdOk.as {w : World} {b : Nat} {cs : Array Value} {o : Option Rc} (h : RdOk w b cs o) : RcAs w cs (o.getD rc0) := by
  cases o with
  | none =>
    have h : cs = rcs rc0 nl nl nl nl nl := h
    subst h; exact (rows0 w b).asR bnd0
  | some x => obtain ⟨vs, vm, vi, vp, vt, rfl, h1, h2⟩ := h; exact h1.asR h2
theorem RdOk.keep {w w' : World} {b : Nat} {cs : Array Value} {o : Option Rc} (h : RdOk w b cs o) (hf : Fm (fun _ => False) w w') : RdOk w' b cs o := by
  cases o with
  | none => exact h
  | some x => obtain ⟨vs, vm, vi, vp, vt, rfl, h1, h2⟩ := h; exact ⟨vs, vm, vi, vp, vt, rfl, h1.keep hf (fun _ e => e.elim), h2⟩
theorem retRc {w : World} {g : Nat} {cs : Array Value} {n e : Value} (h : w.heap[g]? = some (.cells cs 28)) (hn : cs.size = 16) (k : KV) (hk : k (.tuple #[.agg cs, n, e]) w) :
    RetO (resL Tryz.prog (fun j => bif Nat.beq j 2 then .pointer (some ⟨g, 0, none⟩) else bif Nat.beq j 3 then n else bif Nat.beq j 4 then e else undef) w [(ResultVar.cell 2 28), (ResultVar.tmp 3), (ResultVar.tmp 4)]) w k := by
  have h3 : resV Tryz.prog (fun j => bif Nat.beq j 2 then .pointer (some ⟨g, 0, none⟩) else bif Nat.beq j 3 then n else bif Nat.beq j 4 then e else undef) w (.tmp 3) = some n := rfl
  have h4 : resV Tryz.prog (fun j => bif Nat.beq j 2 then .pointer (some ⟨g, 0, none⟩) else bif Nat.beq j 3 then n else bif Nat.beq j 4 then e else undef) w (.tmp 4) = some e := rfl
  simp only [resL, resV_blk (f := (fun j => bif Nat.beq j 2 then .pointer (some ⟨g, 0, none⟩) else bif Nat.beq j 3 then n else bif Nat.beq j 4 then e else undef)) (a := 2) rfl agg52 size52 h hn, h3, h4, RetO, RetV]
  exact hk

set_option maxHeartbeats 8000000 in
theorem rdec_spec (w : World) (d : Bs) (hd : d.length ≤ 1000000000000000) : Cl Tryz.prog 13 [stv d] w fun v w' => ∃ cs, v = .tuple #[.agg cs, iv (rDec d).2.1, iv (rDec d).2.2] ∧ RdOk w' w.heap.size cs (rDec d).1 ∧ Fm (fun _ => False) w w' := by
  refine c13 ?_; unfold T13
  refine New_any ?_
  intro x2 w1 hx2 hs1 hw1 hf1
  have hw1' : w1.heap[x2]? = some (.cells (rcs rc0 nl nl nl nl nl) 28) := hw1
  clear hw1
  have one0 : ∀ u ∈ (rcs rc0 nl nl nl nl nl).toList, u.oneCell' = true := rcs_one rfl rfl rfl rfl rfl
  -- an empty record
  have bad : ∀ (w' : World) (e : Int), w'.heap[x2]? = some (.cells (rcs rc0 nl nl nl nl nl) 28) → Fm (fun _ => False) w w' → rDec d = (none, 0, e) →
      RunS Tryz.prog (Instr.build 28 #[]) w' (fun t14_5 w_6 =>
      St 16 w_6 (pv x2) t14_5 fun u_7 w_8 =>
      RetO (resL Tryz.prog (fun j => bif Nat.beq j 2 then pv x2 else bif Nat.beq j 3 then (Value.int IntKind.i64 0) else bif Nat.beq j 4 then (Value.int IntKind.i64 e) else undef) w_8 [(ResultVar.cell 2 28), (ResultVar.tmp 3), (ResultVar.tmp 4)]) w_8 (fun v w' => ∃ cs, v = .tuple #[.agg cs, iv (rDec d).2.1, iv (rDec d).2.2] ∧ RdOk w' w.heap.size cs (rDec d).1 ∧ Fm (fun _ => False) w w')) := by
    intro w' e hw' hF hr
    refine RunS_ok (bld52z _) ?_
    refine St_all hw' rfl rfl one0 ?_
    intro w2 hw2 hs2 hf2
    refine retRc hw2 rfl _ ⟨_, by rw [hr]; rfl, by rw [hr]; rfl, Fm.own hF hf2 (by rintro y rfl; omega)⟩
  have hb : rDec d = (bif decide (d.length < 8) then (none, 0, 40)
    else bif decide (ofN (d.take 4) = 0) || decide (65535 < ofN (d.take 4)) then (none, 0, 41)
    else bif decide (d.length < 8 + ofN (d.take 4)) then (none, 0, 40)
    else bif !decide (ofN ((d.drop 4).take 4) = crc ((d.drop 8).take (ofN (d.take 4)))) then (none, 0, 30)
    else match outerP ((d.drop 8).take (ofN (d.take 4))) with
      | none => (none, 0, 41)
      | some x => bif decide ((rCheck x).2 = 0) && decide ((rCheck x).1 = (d.drop 8).take (ofN (d.take 4))) then (some x, 8 + ofN (d.take 4), 0) else (none, 0, 41) : Option Rc × Nat × Int) := rfl
  have d8 : decide ((d.length : Int) < 8) = decide (d.length < 8) := by rw [decide_eq_decide]; omega
  simp only [RS0, RS1, RS2, RS3, RS4, RS5, str_size, d8]
  cases h1 : decide (d.length < 8) with
  | true =>
    simp only [RS0, RS1, RS2, RS3, RS4, RS5]
    exact bad w1 40 hw1' hf1 (by rw [hb, h1]; rfl)
  | false =>
  have h8 : 8 ≤ d.length := by rw [decide_eq_false_iff_not] at h1; omega
  have s1 := slS_hi (l := d) (i := 4) (by omega) .i64
  have s1' : slS (stv d) none (some (Value.int .i64 4)) = some (stv (d.take 4)) := s1
  simp only [RS0, RS1, RS2, RS3, RS4, RS5, s1']
  refine (of_spec w1 (d.take 4) (by rw [List.length_take]; omega)).mono ?_
  rintro _ w2 ⟨rfl, rfl⟩
  have hn32 : ofN (d.take 4) < 4294967296 := by
    have := ofB_lt 4 (d.take 4) (by rw [List.length_take]; omega)
    rw [ofN_short (by rw [List.length_take]; omega)]
    omega
  rw [h1, cond_false] at hb
  generalize hn : ofN (d.take 4) = n at hb hn32 ⊢
  have e0 : ((n : Int) == 0) = decide (n = 0) := by rw [beq_dec, decide_eq_decide]; omega
  have e1 : decide ((65535 : Int) < (n : Int)) = decide (65535 < n) := by rw [decide_eq_decide]; omega
  simp only [RS0, RS1, RS2, RS3, RS4, RS5, e0]
  cases h2 : decide (n = 0) with
  | true =>
    simp only [RS0, RS1, RS2, RS3, RS4, RS5]
    exact bad w2 41 hw1' hf1 (by rw [hb, h2]; rfl)
  | false =>
  simp only [RS0, RS1, RS2, RS3, RS4, RS5, e1]
  cases h3 : decide (65535 < n) with
  | true =>
    simp only [RS0, RS1, RS2, RS3, RS4, RS5]
    exact bad w2 41 hw1' hf1 (by rw [hb, h2, h3]; rfl)
  | false =>
  rw [h2, h3, Bool.or_false, cond_false] at hb
  rw [decide_eq_false_iff_not] at h2 h3
  have e2 : IntKind.i64.wrap (8 + (n : Int)) = ((8 + n : Nat) : Int) := by rw [wrap_id] <;> omega
  have e3 : decide ((d.length : Int) < ((8 + n : Nat) : Int)) = decide (d.length < 8 + n) := by rw [decide_eq_decide]; omega
  simp only [RS0, RS1, RS2, RS3, RS4, RS5, str_size, e2, e3]
  cases h4 : decide (d.length < 8 + n) with
  | true =>
    simp only [RS0, RS1, RS2, RS3, RS4, RS5]
    exact bad w2 40 hw1' hf1 (by rw [hb, h4]; rfl)
  | false =>
  rw [h4, cond_false] at hb
  rw [decide_eq_false_iff_not] at h4
  have s2 := slS_lh (l := d) (i := 8) (j := 8 + n) (by omega) (by omega) .i64 .i64
  rw [show 8 + n - 8 = n by omega] at s2
  have s2' : slS (stv d) (some (Value.int .i64 8)) (some (iv ((8 + n : Nat) : Int))) = some (stv ((d.drop 8).take n)) := s2
  have s3 := slS_lh (l := d) (i := 4) (j := 8) (by omega) (by omega) .i64 .i64
  have s3' : slS (stv d) (some (Value.int .i64 4)) (some (Value.int .i64 8)) = some (stv ((d.drop 4).take 4)) := s3
  have hbl : ((d.drop 8).take n).length = n := by rw [List.length_take, List.length_drop]; omega
  simp only [RS0, RS1, RS2, RS3, RS4, RS5, e2, s2', s3']
  generalize hB : (d.drop 8).take n = B at hb hbl ⊢
  refine (of_spec w2 ((d.drop 4).take 4) (by rw [List.length_take]; omega)).mono ?_
  rintro _ w3 ⟨rfl, rfl⟩
  refine (sum_spec w3 B (by omega)).mono ?_
  rintro _ w4 ⟨rfl, rfl⟩
  obtain ⟨q1, q2⟩ := crc_in B
  have e4 : decide ((ofN ((d.drop 4).take 4) : Int) = (crc B : Nat)) = decide (ofN ((d.drop 4).take 4) = crc B) := by rw [decide_eq_decide]; omega
  simp only [RS0, RS1, RS2, RS3, RS4, RS5, cvI_int, q2, bne_dec, e4]
  cases h5 : decide (ofN ((d.drop 4).take 4) = crc B) with
  | false =>
    simp only [RS0, RS1, RS2, RS3, RS4, RS5, Bool.not_false]
    exact bad w4 30 hw1' hf1 (by rw [hb, h5]; rfl)
  | true =>
  rw [h5, Bool.not_true, cond_false] at hb
  simp only [RS0, RS1, RS2, RS3, RS4, RS5, Bool.not_true]
  refine (outer_spec w4 B (by omega)).mono ?_
  rintro _ w5 ⟨cs, ok, rfl, hsz, hone, hno, hyes, hf5⟩
  have hx5 := hf5.heap hw1' (fun e => e)
  have hF5 := Fmf hf1 hf5
  have hz5 := hF5.size
  simp only [RS0, RS1, RS2, RS3, RS4, RS5]
  refine New_any ?_
  intro x7 w6 hx7 hs6 hw6 hf6
  refine St_all hw6 rfl hsz hone ?_
  intro w7 hw7 hs7 hf7
  have hf57 : Fm (fun _ => False) w5 w7 := Fm.own hf6 hf7 (by rintro y rfl; omega)
  have hx7' := hf57.heap hx5 (fun e => e)
  have hF7 := Fmf hF5 hf57
  cases ok with
  | false =>
    simp only [RS0, RS1, RS2, RS3, RS4, RS5, Bool.not_false]
    exact bad w7 41 hx7' hF7 (by rw [hb, hno rfl])
  | true =>
  obtain ⟨x, vs, vm, vi, vp, vt, hx, rfl, hrow⟩ := hyes rfl
  have hbd := outer_in hx
  have hr7 := hrow.keep hf57 (fun _ e => e.elim)
  rw [hx] at hb
  simp only at hb
  simp only [RS0, RS1, RS2, RS3, RS4, RS5, Bool.not_true, cellsV_blk hw7 hsz]
  refine (checked_spec (hr7.asR hbd)).mono ?_
  rintro _ w8 ⟨rfl, hf8⟩
  have hx8 := hf8.heap hx7' (fun e => e)
  have hq8 := hf8.heap hw7 (fun e => e)
  have hF8 := Fmf hF7 hf8
  have hr8 := hr7.keep hf8 (fun _ e => e.elim)
  have hz7 := hF7.size
  simp only [RS0, RS1, RS2, RS3, RS4, RS5, bne_dec]
  cases h6 : decide ((rCheck x).2 = 0) with
  | false =>
    simp only [RS0, RS1, RS2, RS3, RS4, RS5, Bool.not_false]
    exact bad w8 41 hx8 hF8 (by rw [hb, h6]; rfl)
  | true =>
  rw [h6, Bool.true_and] at hb
  simp only [RS0, RS1, RS2, RS3, RS4, RS5, Bool.not_true, str_inj]
  cases h7 : decide ((rCheck x).1 = B) with
  | false =>
    simp only [RS0, RS1, RS2, RS3, RS4, RS5, Bool.not_false]
    exact bad w8 41 hx8 hF8 (by rw [hb, h7]; rfl)
  | true =>
  rw [h7, cond_true] at hb
  simp only [RS0, RS1, RS2, RS3, RS4, RS5, Bool.not_true, cellsV_blk hq8 hsz, e2]
  refine St_all hx8 rfl rfl hone ?_
  intro w9 hw9 hs9 hf9
  refine retRc hw9 rfl _ ⟨_, by rw [hb], ?_, Fm.own hF8 hf9 (by rintro y rfl; omega)⟩
  rw [hb]
  have hwsz : w.heap.size ≤ w4.heap.size := hf1.size
  have b9 : ∀ {e1 : TypeId} {s1 : Nat} {v1 : Value} {n1 : Nat} {y1 : List Value}, w9.ownsRow w4.heap.size e1 s1 v1 n1 y1 → w9.ownsRow w.heap.size e1 s1 v1 n1 y1 := fun hh => own_base hh hwsz
  have hr9 := hr8.keep hf9 (fun y e => by omega)
  obtain ⟨X, hX1, hX2, hX3⟩ := hr9.hi
  exact ⟨vs, vm, vi, vp, vt, rfl, ⟨b9 hr9.hs, b9 hr9.hm, ⟨X, hX1, b9 hX2, fun x hx => ⟨(hX3 x hx).1, b9 (hX3 x hx).2.1, (hX3 x hx).2.2⟩⟩, b9 hr9.hp, b9 hr9.ht⟩, hbd⟩

/-! ### What is laid is read, plainly -/
theorem body_ne (r : Rc) : 10 ≤ (rBody r).length := by
  have q : ∀ n : Int, 1 ≤ (encI n).length := fun n => by
    unfold encI
    by_cases h : 127 < (max n 0).toNat
    · rw [encN_big h]; simp
    · rw [encN_small (by omega)]; simp
  have e : rBody r = encI r.lsn ++ (encI r.prev ++ (encI r.next ++ (encI r.kind ++ (encI r.xid ++ (encI r.page ++ (encI r.slot ++ (encI r.old ++ (encI r.new ++ (encI r.redo ++ (txtB r.data ++ listB r.slots ++ listB r.more ++ encI r.imgs.length ++ r.imgs.flatMap imgB ++ encI r.pages.length ++ r.pages.flatMap prB ++ encI r.txns.length ++ r.txns.flatMap prB)))))))))) := by simp [rBody, numsB, headL]
  have h := congrArg List.length e
  simp only [List.length_append] at h
  have := q r.lsn
  have := q r.prev
  have := q r.next
  have := q r.kind
  have := q r.xid
  have := q r.page
  have := q r.slot
  have := q r.old
  have := q r.new
  have := q r.redo
  omega
theorem ofN_beN4 {n : Nat} (h : n < 4294967296) : ofN (beN 4 n) = n := by
  rw [ofN_short (by rw [beN_len]; omega), ofB_beN, Nat.mod_eq_of_lt (by omega)]
theorem rEnc_ok {r : Rc} (h : (rCheck r).2 = 0) (hl : ∀ m ∈ r.imgs, m.2.lsn ≤ 9223372036854775807) : rEnc r = (beN 4 (rBody r).length ++ beN 4 (crc (rBody r)) ++ rBody r, 0) := by
  have h2 := (rCheck_ok h hl).2.2.1
  unfold rEnc
  rw [h, h2]; rfl
theorem rEnc_err (r : Rc) : (rEnc r).2 = (rCheck r).2 := by
  unfold rEnc
  cases h : decide ((rCheck r).2 = 0) with
  | true => rw [decide_eq_true_eq] at h; rw [h]; rfl
  | false => rfl
theorem rEnc_bad {r : Rc} (h : (rCheck r).2 ≠ 0) : (rEnc r).1 = [] := by
  unfold rEnc
  rw [decide_eq_false h]; rfl
theorem dec_head {b t : Bs} (hb : b.length ≤ 65535) : (beN 4 b.length ++ beN 4 (crc b) ++ b ++ t).take 4 = beN 4 b.length ∧ ((beN 4 b.length ++ beN 4 (crc b) ++ b ++ t).drop 4).take 4 = beN 4 (crc b) ∧ ((beN 4 b.length ++ beN 4 (crc b) ++ b ++ t).drop 8).take b.length = b ∧ (beN 4 b.length ++ beN 4 (crc b) ++ b ++ t).length = 8 + b.length + t.length := by
  have e1 : beN 4 b.length ++ beN 4 (crc b) ++ b ++ t = beN 4 b.length ++ (beN 4 (crc b) ++ (b ++ t)) := by simp
  have l1 := beN_len 4 b.length
  have l2 := beN_len 4 (crc b)
  refine ⟨by rw [e1, List.take_left' l1], by rw [e1, List.drop_left' l1, List.take_left' l2], ?_, by rw [e1]; simp only [List.length_append, l1, l2]; omega⟩
  have e2 : beN 4 b.length ++ beN 4 (crc b) ++ b ++ t = (beN 4 b.length ++ beN 4 (crc b)) ++ (b ++ t) := by simp
  rw [e2, List.drop_left' (by rw [List.length_append, l1, l2]), List.take_left]
theorem dec_back {r : Rc} (h : (rCheck r).2 = 0) (hl : ∀ m ∈ r.imgs, m.2.lsn ≤ 9223372036854775807) (t : Bs) : rDec ((rEnc r).1 ++ t) = (some r, (rEnc r).1.length, 0) := by
  obtain ⟨hg, _, hb, hlen⟩ := rCheck_ok h hl
  have hne := body_ne r
  have ho := outer_enc hg
  rw [rEnc_ok h hl]
  simp only
  generalize rBody r = b at hlen hne ho hb
  obtain ⟨h1, h2, h3, h4⟩ := dec_head (b := b) (t := t) hlen
  have h5 := (dec_head (b := b) (t := []) hlen).2.2.2
  rw [List.append_nil, List.length_nil, Nat.add_zero] at h5
  have hcl := crc_lt b
  unfold rDec
  rw [h1, h2, h4, h5, ofN_beN4 (by omega), h3, ofN_beN4 (by omega), decide_eq_false (show ¬ 8 + b.length + t.length < 8 by omega), decide_eq_false (show ¬ b.length = 0 by omega), decide_eq_false (show ¬ 65535 < b.length by omega), decide_eq_false (show ¬ 8 + b.length + t.length < 8 + b.length by omega), decide_eq_true rfl, ho]
  simp only [cond_false, Bool.or_false, Bool.not_true]
  rw [h, hb, decide_eq_true rfl, decide_eq_true rfl]
  rfl
theorem dec_short {r : Rc} (h : (rCheck r).2 = 0) (hl : ∀ m ∈ r.imgs, m.2.lsn ≤ 9223372036854775807) {k : Nat} (hk : k < (rEnc r).1.length) : rDec ((rEnc r).1.take k) = (none, 0, 40) := by
  obtain ⟨hg, _, hb, hlen⟩ := rCheck_ok h hl
  have hne := body_ne r
  rw [rEnc_ok h hl] at hk ⊢
  simp only at hk ⊢
  generalize rBody r = b at hlen hne hk
  obtain ⟨h1, h2, h3, h4⟩ := dec_head (b := b) (t := []) hlen
  rw [List.append_nil] at h1 h4
  rw [List.length_nil, Nat.add_zero] at h4
  generalize hs : beN 4 b.length ++ beN 4 (crc b) ++ b = s at h1 h4 hk ⊢
  have hkl : (s.take k).length = k := by rw [List.length_take]; omega
  unfold rDec
  rw [hkl]
  by_cases h8 : k < 8
  · rw [decide_eq_true h8]; rfl
  · rw [decide_eq_false h8, cond_false, List.take_take, Nat.min_eq_left (by omega), h1, ofN_beN4 (by omega), decide_eq_false (show ¬ b.length = 0 by omega), decide_eq_false (show ¬ 65535 < b.length by omega), decide_eq_true (show k < 8 + b.length by omega)]
    rfl
theorem dec_sound {d : Bs} {x : Rc} (h : (rDec d).1 = some x) : (rCheck x).2 = 0 ∧ (rDec d).2.2 = 0 ∧ (rDec d).2.1 = (rEnc x).1.length ∧ (rDec d).2.1 ≤ d.length ∧ d.take (rDec d).2.1 = (rEnc x).1 ∧ Bnd x := by
  unfold rDec at h ⊢
  cases h1 : decide (d.length < 8) with
  | true => rw [h1] at h; cases h
  | false =>
  rw [h1, cond_false] at h
  rw [decide_eq_false_iff_not] at h1
  have hn : ofN (d.take 4) = ofB (d.take 4) := ofN_short (by rw [List.length_take]; omega)
  have hc4 : ofN ((d.drop 4).take 4) = ofB ((d.drop 4).take 4) := ofN_short (by rw [List.length_take]; omega)
  have l4 : (d.take 4).length = 4 := by rw [List.length_take]; omega
  have l5 : ((d.drop 4).take 4).length = 4 := by rw [List.length_take, List.length_drop]; omega
  have g1 := beN_ofB 4 (d.take 4) l4
  have g2 := beN_ofB 4 ((d.drop 4).take 4) l5
  rw [← hn] at g1
  rw [← hc4] at g2
  generalize ofN (d.take 4) = n at h g1 ⊢
  cases h2 : decide (n = 0) || decide (65535 < n) with
  | true => rw [h2] at h; cases h
  | false =>
  rw [h2, cond_false] at h
  cases h3 : decide (d.length < 8 + n) with
  | true => rw [h3] at h; cases h
  | false =>
  rw [h3, cond_false] at h
  rw [decide_eq_false_iff_not] at h3
  cases h4 : decide (ofN ((d.drop 4).take 4) = crc ((d.drop 8).take n)) with
  | false => rw [h4] at h; cases h
  | true =>
  rw [h4, Bool.not_true, cond_false] at h
  rw [decide_eq_true_eq] at h4
  have hbl : ((d.drop 8).take n).length = n := by rw [List.length_take, List.length_drop]; omega
  have hcut : d.take (8 + n) = d.take 4 ++ (d.drop 4).take 4 ++ (d.drop 8).take n := by
    rw [List.take_add, show (8 : Nat) = 4 + 4 by omega, List.take_add]
  cases ho : outerP ((d.drop 8).take n) with
  | none => rw [ho] at h; cases h
  | some y =>
    rw [ho] at h
    simp only at h
    cases h5 : decide ((rCheck y).2 = 0) && decide ((rCheck y).1 = (d.drop 8).take n) with
    | false => rw [h5] at h; cases h
    | true =>
      rw [h5, cond_true] at h
      cases h
      rw [Bool.and_eq_true, decide_eq_true_eq, decide_eq_true_eq] at h5
      have hbd := outer_in ho
      simp only [cond_false, Bool.not_true]
      simp only [h5.1, h5.2, decide_true, Bool.and_self, cond_true]
      have hE : (rEnc x).1 = d.take 4 ++ (d.drop 4).take 4 ++ (d.drop 8).take n := by
        unfold rEnc
        rw [h5.1, decide_eq_true rfl, cond_true, h5.2, hbl, g1, ← h4, g2]
      refine ⟨trivial, trivial, ?_, by omega, by rw [hE, hcut], hbd⟩
      rw [hE, ← hcut, List.length_take]; omega
theorem dec_none {d : Bs} (h : (rDec d).1 = none) : (rDec d).2.1 = 0 ∧ ((rDec d).2.2 = 40 ∨ (rDec d).2.2 = 41 ∨ (rDec d).2.2 = 30) := by
  unfold rDec at h ⊢
  cases h1 : decide (d.length < 8) with
  | true => exact ⟨rfl, .inl rfl⟩
  | false =>
  rw [h1, cond_false] at h
  cases h2 : decide (ofN (d.take 4) = 0) || decide (65535 < ofN (d.take 4)) with
  | true => exact ⟨rfl, .inr (.inl rfl)⟩
  | false =>
  rw [h2, cond_false] at h
  cases h3 : decide (d.length < 8 + ofN (d.take 4)) with
  | true => exact ⟨rfl, .inl rfl⟩
  | false =>
  rw [h3, cond_false] at h
  cases h4 : decide (ofN ((d.drop 4).take 4) = crc ((d.drop 8).take (ofN (d.take 4)))) with
  | false => exact ⟨rfl, .inr (.inr rfl)⟩
  | true =>
  rw [h4, Bool.not_true, cond_false] at h
  simp only [cond_false, Bool.not_true]
  cases ho : outerP ((d.drop 8).take (ofN (d.take 4))) with
  | none => exact ⟨rfl, .inr (.inl rfl)⟩
  | some y =>
    rw [ho] at h
    simp only at h ⊢
    cases h5 : decide ((rCheck y).2 = 0) && decide ((rCheck y).1 = (d.drop 8).take (ofN (d.take 4))) with
    | false => exact ⟨rfl, .inr (.inl rfl)⟩
    | true => rw [h5, cond_true] at h; cases h

end Go.Proofs.YthbngnlmgplijaaGreatDoor
