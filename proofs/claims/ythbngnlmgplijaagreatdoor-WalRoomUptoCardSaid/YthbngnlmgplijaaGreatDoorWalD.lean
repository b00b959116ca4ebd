/- The chapter's example of logs. The chapter's example of logs; a nil log holds nothing. -/
import Derived.Test.YthbngnlmgplijaaGreatDoorWalC
namespace Go.Proofs.YthbngnlmgplijaaGreatDoor
open Go.Al Go.Proofs
set_option linter.unusedVariables false
set_option linter.unusedSimpArgs false
set_option linter.unusedSectionVars false
set_option maxRecDepth 100000

theorem calm_mk0 {n : Nat} (h : n ≤ 65536) : Lg.Calm (Dk.mk0 n) := ⟨Dk.wf_mk0 h, rfl, rfl⟩
theorem mk0_len (n : Nat) : (Dk.mk0 n).cur.length = n := by simp [Dk.mk0]
theorem calm_fmt {d : Dk} (h : Lg.Calm d) {i j : Nat} (hj : 4 ≤ j) (hij : i + j ≤ d.cur.length) : (fmtE d (i : Int) (j : Int)).2 = 0 ∧ Lg.Calm (fmtE d (i : Int) (j : Int)).1 ∧ (fmtE d (i : Int) (j : Int)).1.cur.length = d.cur.length := by
  have hf : fitsD d (i : Int) (j : Int) = true := by
    unfold fitsD
    simp only [Bool.and_eq_true, decide_eq_true_eq]
    omega
  have e1 : ((j : Int) * 64).toNat = j * 64 := by omega
  unfold fmtE
  rw [hf, e1, cond_true]
  obtain ⟨h1, h2, h3⟩ := h.write (a := i) (s := zeros (j * 64)) (by rw [Lg.zeros_len']; omega) (by rw [Lg.zeros_len']; omega)
  obtain ⟨g1, g2, g3⟩ := h2.sync
  simp only [h1, decide_true, cond_true]
  exact ⟨g1, g2, by rw [g3, h3]⟩
theorem calm_read {d : Dk} (h : Lg.Calm d) {a : Nat} (ha : a < d.cur.length) : d.read (a : Int) 1 = (d.cur.getD a [], 0) := by
  unfold Dk.read
  rw [h.on, Dk.has_one ha]
  simp only [cond_false, Bool.not_true, Int.toNat_natCast]
  have e := List.drop_eq_getElem_cons ha
  rw [e, show (1 : Int).toNat = 1 from rfl, List.take_succ_cons, List.take_zero, List.flatten_cons, List.flatten_nil, List.append_nil, List.getD_eq_getElem?_getD, List.getElem?_eq_getElem ha]
  rfl
theorem want_mem2 {L : Lg} {x : Bs} (h : x ∈ L.want) : x.length = 64 ∨ x = [] := by
  have h1 : ∀ x ∈ L.want1, x.length = 64 ∨ x = [] := by
    intro x hx
    rcases clr_mem _ _ _ _ _ hx with h | rfl
    · rw [(List.mem_replicate.1 h).2]; exact .inl (by simp [Dk.zsec])
    · exact .inr rfl
  unfold Lg.want at h
  cases hb : decide (L.bytes L.lastB = []) with
  | true => rw [hb] at h; exact h1 x h
  | false =>
    rw [hb, cond_false] at h
    rcases List.mem_or_eq_of_mem_set h with h | rfl
    · exact h1 x h
    · exact .inl (Lg.seal_len (Lg.bytes_len L _) _)
theorem calm_wipeGo (frm : Nat) : ∀ (l : List Bs) (i : Nat) (wr : Bool) {d : Dk}, Lg.Calm d → frm + i + l.length ≤ d.cur.length → (∀ x ∈ l, x.length = 64 ∨ x = []) → (wipeGo frm l i wr d).2.2 = 0 ∧ Lg.Calm (wipeGo frm l i wr d).2.1
  | [], i, wr, d, h, _, _ => ⟨rfl, h⟩
  | x :: l, i, wr, d, h, hl, hx => by
    rw [List.length_cons] at hl
    have hx' : ∀ y ∈ l, y.length = 64 ∨ y = [] := fun y hy => hx y (by simp [hy])
    rw [wipeGo]
    cases h0 : decide (x = []) with
    | true => exact calm_wipeGo frm l (i + 1) wr h (by omega) hx'
    | false =>
      rw [decide_eq_false_iff_not] at h0
      have hx64 : x.length = 64 := (hx x (by simp)).resolve_right h0
      rw [calm_read h (a := frm + i) (by omega)]
      simp only [cond_false, decide_true, cond_true]
      cases decide (d.cur.getD (frm + i) [] = x) with
      | true => exact calm_wipeGo frm l (i + 1) wr h (by omega) hx'
      | false =>
        obtain ⟨h1, h2, h3⟩ := h.write (a := frm + i) (s := x) (by rw [hx64]) (by rw [hx64]; omega)
        simp only [cond_false, h1, decide_true, cond_true]
        exact calm_wipeGo frm l (i + 1) true h2 (by rw [h3]; omega) hx'
theorem calm_wipe {L : Lg} {d : Dk} (h : Lg.Calm d) (hl : L.frm + L.n ≤ d.cur.length) : (L.wipe d).2 = 0 := by
  obtain ⟨h1, h2⟩ := calm_wipeGo L.frm L.want 0 false h (by rw [want_len]; omega) (fun x hx => want_mem2 hx)
  have e1 : (L.wipeR d).2.2 = 0 := h1
  have e2 : Lg.Calm (L.wipeR d).2.1 := h2
  unfold Lg.wipe
  rw [e1]
  simp only [decide_true, cond_true]
  cases (L.wipeR d).1 with
  | true => exact e2.sync.1
  | false => rfl

/-! ### Two small records -/
def sm : Rc := ⟨0, 0, 0, 8, 0, 1, 0, 0, 0, 0, [], [], [], [], [], []⟩
theorem encI_small {n : Nat} (h : n ≤ 127) : encI n = [UInt8.ofNat n] := by rw [encI_nat, encN_small h]
theorem sm_body {k : Nat} (h : k ≤ 127) : rBody (atR sm k) = [UInt8.ofNat k, 0, 0, 8, 0, 1, 0, 0, 0, 0, 0, 0, 0, 0, 0, 0] := by
  have e0 : encI 0 = [0] := encI_small (n := 0) (by omega)
  have e1 : encI 1 = [1] := encI_small (n := 1) (by omega)
  have e8 : encI 8 = [8] := encI_small (n := 8) (by omega)
  have e0' : encI ((0 : Nat) : Int) = [0] := e0
  have ek := encI_small h
  simp only [rBody, atR, sm, numsB, headL, txtB, listB, List.length_nil, List.flatMap_cons, List.flatMap_nil, e0, e0', e1, e8, ek]
  rfl
theorem sm_lsn (k : Nat) : ∀ m ∈ (atR sm k).imgs, m.2.lsn ≤ 9223372036854775807 := by simp [atR, sm]
theorem sm1 : (rCheck (atR sm 1)).2 = 0 := by
  have : rCheck (atR sm 1) = rInner (atR sm 1) := rfl
  rw [this]
  unfold rInner
  rw [sm_body (by omega)]
  rfl
theorem sm25 : (rCheck (atR sm 25)).2 = 0 := by
  have : rCheck (atR sm 25) = rInner (atR sm 25) := rfl
  rw [this]
  unfold rInner
  rw [sm_body (by omega)]
  rfl
def smE (k : Nat) : Bs := (rEnc (atR sm k)).1
theorem smE_len {k : Nat} (h : k ≤ 127) (hc : (rCheck (atR sm k)).2 = 0) : (smE k).length = 24 := by
  unfold smE
  rw [rEnc_ok hc (sm_lsn k), sm_body h]
  simp only [List.length_append, beN_len, List.length_cons, List.length_nil]
theorem sm_app1 : (Lg.new 2 4).append sm = ({ Lg.new 2 4 with kept := smE 1, recs := [(1, atR sm 1)] }, 1, 0) := by
  have ht : (Lg.new 2 4).tail = 1 := rfl
  have hr : (Lg.new 2 4).room = 108 := rfl
  have hl := smE_len (k := 1) (by omega) sm1
  unfold Lg.append
  rw [ht, hr]
  have e : (rEnc (atR sm 1)).1 = smE 1 := rfl
  rw [e, sm1, hl]
  rfl
theorem sm_app2 : ({ Lg.new 2 4 with kept := smE 1, recs := [(1, atR sm 1)] } : Lg).append sm = ({ Lg.new 2 4 with kept := smE 1 ++ smE 25, recs := [(1, atR sm 1), (25, atR sm 25)] }, 25, 0) := by
  have hl := smE_len (k := 1) (by omega) sm1
  have hl2 := smE_len (k := 25) (by omega) sm25
  have ht : ({ Lg.new 2 4 with kept := smE 1, recs := [(1, atR sm 1)] } : Lg).tail = 25 := by show 1 + (smE 1).length = 25; rw [hl]
  have hr : ({ Lg.new 2 4 with kept := smE 1, recs := [(1, atR sm 1)] } : Lg).room = 84 := by unfold Lg.room; rw [ht]; rfl
  unfold Lg.append
  rw [ht, hr]
  have e : (rEnc (atR sm 25)).1 = smE 25 := rfl
  rw [e, sm25, hl2]
  rfl
def smL : Lg := { Lg.new 2 4 with kept := smE 1 ++ smE 25, recs := [(1, atR sm 1), (25, atR sm 25)] }
theorem smL_len : smL.kept.length = 48 := by
  show (smE 1 ++ smE 25).length = 48
  rw [List.length_append, smE_len (by omega) sm1, smE_len (by omega) sm25]
theorem smL_tail : smL.tail = 49 := by
  show 1 + smL.kept.length = 49
  rw [smL_len]
theorem smL_bytes : smL.bytes 0 = smE 1 ++ smE 25 := by
  have := smL_len
  show (smL.kept.drop 0).take 54 = smL.kept
  rw [List.drop_zero, List.take_of_length_le (by omega)]
theorem sm_flush {d : Dk} (h : Lg.Calm d) (hl : 6 ≤ d.cur.length) : (smL.flush 1 d).2.2 = 0 ∧ Lg.Calm (smL.flush 1 d).2.1 ∧ (smL.flush 1 d).2.1.cur.length = d.cur.length ∧ (smL.flush 1 d).2.1.cur.getD 2 [] = sealB 0 (smE 1 ++ smE 25) := by
  have hs64 : (sealB 0 (smE 1 ++ smE 25)).length = 64 := by rw [← smL_bytes]; exact Lg.seal_len (Lg.bytes_len _ _) _
  have hput : smL.put 0 d = d.write ((2 : Nat) : Int) (sealB 0 (smE 1 ++ smE 25)) := by
    unfold Lg.put
    rw [smL_bytes]; rfl
  obtain ⟨w1, w2, w3⟩ := h.write (a := 2) (s := sealB 0 (smE 1 ++ smE 25)) (by rw [hs64]) (by rw [hs64]; omega)
  have hone := Dk.wr_one (d := d) (k := 2) (by omega) hs64 h.on
  have hcur : (d.write ((2 : Nat) : Int) (sealB 0 (smE 1 ++ smE 25))).1.cur = d.cur.set 2 (sealB 0 (smE 1 ++ smE 25)) := by
    rw [hone]
    exact (Dk.tick_cur _).1
  have hgo : smL.flushE d = ((d.write ((2 : Nat) : Int) (sealB 0 (smE 1 ++ smE 25))).1, 0) := by
    have e1 : decide (0 * 54 + 1 < smL.tail) = true := by rw [smL_tail]; rfl
    show smL.flushGo (smL.kept.length + 1) 0 d = _
    rw [Lg.flushGo, e1, hput, w1]
    simp only [decide_true, cond_true]
    exact flushGo_end _ _ _ _ (by rw [smL_tail]; omega)
  obtain ⟨s1, s2, s3, s4, s5⟩ := Dk.sync_calm w2.ar w2.on
  obtain ⟨t1, t2, t3⟩ := w2.sync
  have hfl : smL.flush 1 d = ({ smL with last := smL.tail }, (d.write ((2 : Nat) : Int) (sealB 0 (smE 1 ++ smE 25))).1.sync.1, 0) := by
    have e0 : (decide ((1 : Int) < (smL.last : Int)) || decide (smL.last = smL.tail)) = false := by rw [smL_tail]; rfl
    unfold Lg.flush
    rw [e0, hgo]
    simp only [cond_false, decide_true, cond_true, t1]
  rw [hfl]
  refine ⟨rfl, t2, by rw [t3, w3], ?_⟩
  show (d.write ((2 : Nat) : Int) (sealB 0 (smE 1 ++ smE 25))).1.sync.1.cur.getD 2 [] = _
  rw [s2, hcur, List.getD_eq_getElem?_getD, List.getElem?_set_self (by omega)]
  rfl
theorem rdec_nil : rDec [] = (none, 0, 40) := rfl
theorem sm_open {d : Dk} (h : Lg.Calm d) (hl : 6 ≤ d.cur.length) (hc : d.cur.getD 2 [] = sealB 0 (smE 1 ++ smE 25)) :
    (opnE d 2 4 1).2 = 0 ∧ (opnS d 2 4 1) = ([atR sm 1, atR sm 25], 48) ∧ (opnL d 2 4 1).tail = 49 := by
  have hlen := smL_len
  have hlen' : (smE 1 ++ smE 25).length = 48 := hlen
  have hl1 := smE_len (k := 1) (by omega) sm1
  have hl2 := smE_len (k := 25) (by omega) sm25
  have hrd : readGo d 2 4 0 4 0 [] = (smE 1 ++ smE 25, 0) := by
    rw [readGo]
    have e := calm_read h (a := 2) (by omega)
    rw [hc] at e
    rw [show (2 + (0 + 0) % 4 : Nat) = 2 from rfl, e, Lg.opened_seal (by omega)]
    simp only [decide_true, cond_true, hlen']
    rfl
  have hall : opnAll d 2 4 1 = smE 1 ++ smE 25 := by
    show (bif decide ((readGo d 2 4 0 4 0 []).1.length < aheadOf 1) then _ else (readGo d 2 4 0 4 0 []).1) = _
    rw [hrd]; rfl
  have hS : opnS d 2 4 1 = ([atR sm 1, atR sm 25], 48) := by
    have q1 : rDec ((smE 1 ++ smE 25).drop 0) = (some (atR sm 1), 24, 0) := by
      rw [List.drop_zero, show smE 1 = (rEnc (atR sm 1)).1 from rfl, dec_back sm1 (sm_lsn 1)]
      rw [show (rEnc (atR sm 1)).1.length = 24 from hl1]
    have q2 : rDec ((smE 1 ++ smE 25).drop (0 + 24)) = (some (atR sm 25), 24, 0) := by
      rw [List.drop_left' (by rw [hl1])]
      have := dec_back sm25 (sm_lsn 25) []
      rw [List.append_nil, show (rEnc (atR sm 25)).1.length = 24 from hl2] at this
      exact this
    have q3 : rDec ((smE 1 ++ smE 25).drop (0 + 24 + 24)) = (none, 0, 40) := by
      rw [List.drop_eq_nil_of_le (by omega)]; rfl
    show scan 1 (opnAll d 2 4 1) ((opnAll d 2 4 1).length + 1) 0 [] = _
    rw [hall, hlen', scan, q1]
    have d1 : decide ((atR sm 1).lsn = ((1 + 0 : Nat) : Int)) = true := rfl
    simp only [d1, cond_true]
    rw [scan, q2]
    have d2 : decide ((atR sm 25).lsn = ((1 + (0 + 24) : Nat) : Int)) = true := rfl
    simp only [d2, cond_true]
    exact scan_end _ _ _ _ _ (by rw [q3])
  refine ⟨?_, hS, ?_⟩
  · have hf : fitsD d 2 4 = true := by
      unfold fitsD
      simp only [Bool.and_eq_true, decide_eq_true_eq]
      omega
    have hr : (readGo d (2 : Int).toNat (4 : Int).toNat (((1 : Int).toNat - 1) / 54) (4 : Int).toNat 0 []).2 = 0 := by
      show (readGo d 2 4 0 4 0 []).2 = 0
      rw [hrd]
    unfold opnE
    rw [hf, h.on, hr]
    simp only [Bool.not_true, Bool.false_or, decide_true, cond_true, cond_false]
    exact calm_wipe (L := opnL d 2 4 1) h (by show 2 + 4 ≤ _; omega)
  · show Lg.baseOf 1 + ((opnAll d 2 4 1).take (opnS d 2 4 1).2).length = 49
    rw [hS, hall, List.take_of_length_le (by rw [hlen']; exact Nat.le_refl _)]
    rw [hlen']; rfl
end Go.Proofs.YthbngnlmgplijaaGreatDoor

namespace Go.Proofs.YthbngnlmgplijaaGreatDoor
open Go.Al Go.Proofs
set_option linter.unusedVariables false
set_option linter.unusedSimpArgs false
set_option linter.unusedSectionVars false
set_option maxRecDepth 100000

theorem bldSm (w : World) : (Instr.build 28 #[(3, .int .u8 8), (5, iv 1)]).run Tryz.prog w = .ok (.agg (rcs sm nl nl nl nl nl)) w := by kernel_rfl
theorem wsmall_spec (w : World) : Cl Tryz.prog 42 [] w fun v w' => v = .agg (rcs sm nl nl nl nl nl) ∧ Fm (fun _ => False) w w' := by
  refine c42 ?_; unfold T42
  refine New_any ?_
  intro x w1 hx hs1 hw1 hf1
  refine RunS_ok (bldSm _) ?_
  refine St_all hw1 rfl rfl (rcs_one rfl rfl rfl rfl rfl) ?_
  intro w2 hw2 hs2 hf2
  have hret : RetO (resL Tryz.prog (fun j => bif Nat.beq j 0 then pv x else undef) w2 [(ResultVar.cell 0 28)]) w2 (fun v w' => v = .agg (rcs sm nl nl nl nl nl) ∧ Fm (fun _ => False) w w') := by
    simp only [resL, resV_blk (f := fun j => bif Nat.beq j 0 then pv x else undef) (a := 0) rfl agg52 size52 hw2 rfl, RetO, RetV]
    exact ⟨(by trivial), Fm.own hf1 hf2 (by rintro y rfl; omega)⟩
  exact hret
theorem sm_bnd : Bnd sm := ⟨by intro n hn; simp [rNums, sm, prs] at hn; unfold okN; omega, by simp [sm], by simp [sm], by simp [sm], by simp [sm], by simp [sm], by simp [sm], by simp [sm], by simp [sm]⟩
theorem sm_as (w : World) : RcAs w (rcs sm nl nl nl nl nl) sm := by
  have : Rows w 0 sm nl nl nl nl nl := ⟨World.ownsRow_nil _ _ _ _, World.ownsRow_nil _ _ _ _, ⟨[], rfl, World.ownsRow_nil _ _ _ _, by simp⟩, World.ownsRow_nil _ _ _ _, World.ownsRow_nil _ _ _ _⟩
  exact this.asR sm_bnd
theorem bne_refl0 : ((0 : Int) != 0) = false := rfl

set_option maxHeartbeats 4000000 in
theorem waw_spec (w : World) : Cl Tryz.prog 25 [] w fun v w' => v = .bool true ∧ Fm (fun _ => False) w w' := by
  refine c25 ?_; unfold T25
  refine (dnew_spec w 10).mono ?_
  rintro _ w1 ⟨_, h2⟩
  obtain ⟨b, g, m, rfl, hb, hg, hm, hd, hf1⟩ := h2 (by omega)
  clear h2
  have hlt := hd.lt
  have hcalm : Lg.Calm (Dk.mk0 10) := calm_mk0 (by omega)
  have hml : (Dk.mk0 10).cur.length = 10 := mk0_len 10
  change DAt w1 b g m (Dk.mk0 10) at hd
  simp only [RS0, RS1, RS2, RS3, RS4, RS5, bne_refl0]
  obtain ⟨hz, hc2, hl2⟩ := calm_fmt hcalm (i := 2) (j := 4) (by omega) (by omega)
  refine (wformat_spec hd ((2 : Nat) : Int) ((4 : Nat) : Int)).mono ?_
  rintro _ w2 ⟨p, rfl, hd2, hf2, _, h3⟩
  obtain ⟨lb, X, rfl, hL2, hX⟩ := h3 hz
  rw [hz]
  simp only [Int.toNat_natCast] at hL2
  generalize (fmtE (Dk.mk0 10) ((2 : Nat) : Int) ((4 : Nat) : Int)).1 = d2 at hd2 hc2 hl2
  have hF2 : Fm (fun _ => False) w w2 := Fm.own hf1 hf2 (by rintro y (rfl | rfl | rfl) <;> assumption)
  have hr : (Lg.new 2 4).room = 108 := rfl
  simp only [RS0, RS1, RS2, RS3, RS4, RS5, bne_refl0]
  refine (wroom_spec hL2).mono ?_
  rintro _ w3 ⟨rfl, hf3⟩
  rw [hr]
  have hL3 := hL2.keep0 hf3
  have hd3 := hd2.keep0 hf3
  have hF3 := Fmf hF2 hf3
  simp only [RS0, RS1, RS2, RS3, RS4, RS5, bne_self_eq_false]
  refine (wsmall_spec w3).mono ?_
  rintro _ w4 ⟨rfl, hf4⟩
  have hL4 := hL3.keep0 hf4
  have hd4 := hd3.keep0 hf4
  have hF4 := Fmf hF3 hf4
  have hDX : ∀ {X' : Nat → Prop}, (∀ y, X' y → w1.heap.size ≤ y) → ¬ X' b ∧ ¬ X' g ∧ ¬ X' m := fun h => ⟨fun e => by have := h _ e; omega, fun e => by have := h _ e; omega, fun e => by have := h _ e; omega⟩
  have z1 := hf1.size
  refine (wappend_spec hL4 (cs := rcs sm nl nl nl nl nl) (r := sm) (fun w' _ => sm_as w')).mono ?_
  rintro _ w5 ⟨rfl, X5, hL5, hX5, hf5⟩
  rw [sm_app1] at hL5 ⊢
  have hz4 := (hf2.size)
  have z3 := hf3.size; have z4 := hf4.size
  have hXb5 : ∀ y, X5 y → w1.heap.size ≤ y := fun y hy => by
    rcases hX5 y hy with e | e
    · exact hX y e
    · omega
  have hd5 := hd4.keep hf5 (hDX hX).1 (hDX hX).2.1 (hDX hX).2.2
  have hF5 : Fm (fun _ => False) w w5 := Fm.own hF4 hf5 (fun y hy => by have := hX y hy; omega)
  simp only [RS0, RS1, RS2, RS3, RS4, RS5]
  refine (wsmall_spec w5).mono ?_
  rintro _ w6 ⟨rfl, hf6⟩
  have hL6 := hL5.keep0 hf6
  have hd6 := hd5.keep0 hf6
  have hF6 := Fmf hF5 hf6
  have z5 := hf5.size; have z6 := hf6.size
  refine (wappend_spec hL6 (cs := rcs sm nl nl nl nl nl) (r := sm) (fun w' _ => sm_as w')).mono ?_
  rintro _ w7 ⟨rfl, X7, hL7, hX7, hf7⟩
  rw [sm_app2] at hL7 ⊢
  have hXb7 : ∀ y, X7 y → w1.heap.size ≤ y := fun y hy => by
    rcases hX7 y hy with e | e
    · exact hXb5 y e
    · omega
  have hd7 := hd6.keep hf7 (hDX hXb5).1 (hDX hXb5).2.1 (hDX hXb5).2.2
  have hF7 : Fm (fun _ => False) w w7 := Fm.own hF6 hf7 (fun y hy => by have := hXb5 y hy; omega)
  change LAt w7 X7 lb b smL at hL7
  simp only [RS0, RS1, RS2, RS3, RS4, RS5]
  obtain ⟨f1, f2, f3, f4⟩ := sm_flush hc2 (by omega)
  refine (wflush_spec hL7 hd7 (hDX hXb7) 1).mono ?_
  rintro _ w8 ⟨rfl, hL8, hd8, hf8⟩
  rw [f1]
  have hlb := hXb7 lb hL7.lb
  have hF8 : Fm (fun _ => False) w w8 := Fm.own hF7 hf8 (by rintro y (rfl | rfl | rfl | rfl) <;> omega)
  generalize (smL.flush 1 d2).2.1 = d8 at hd8 f2 f3 f4
  obtain ⟨o1, o2, o3⟩ := sm_open f2 (by omega) f4
  simp only [RS0, RS1, RS2, RS3, RS4, RS5, bne_refl0]
  refine (wopen_spec hd8 2 4 1 (by omega)).mono ?_
  rintro _ w9 ⟨p, ov, rfl, hd9, hf9, _, hok⟩
  rw [o1]
  obtain ⟨lb9, X9, Q9, C, rfl, hL9, ho9, hCl, hC9, hXb9, hQ9, hon9⟩ := (hok o1).ex
  change C.length = (opnS d8 2 4 1).1.length at hCl
  change ∀ (i : Nat) cs r, C[i]? = some cs → (opnS d8 2 4 1).1[i]? = some r → Held w9 Q9 cs r at hC9
  change LAt w9 X9 lb9 b (opnL d8 2 4 1) at hL9
  rw [o2] at hCl hC9
  have hF9 : Fm (fun _ => False) w w9 := Fm.own hF8 hf9 (by rintro y (rfl | rfl | rfl) <;> omega)
  obtain ⟨c1, c2, rfl⟩ : ∃ c1 c2, C = [c1, c2] := by
    match C, hCl with
    | [c1, c2], _ => exact ⟨c1, c2, rfl⟩
  have h1 := (hC9 0 c1 _ rfl rfl).now
  have h2 := (hC9 1 c2 _ rfl rfl).now
  have hlv := (CellsAt.of_own ho9).lenV
  obtain ⟨ad, hix, _, hcell⟩ := (CellsAt.of_own ho9).at (by omega) (i := 1) (by simp) .i64
  have hc0 : w9.cell? ad = some (iv 25) := by
    have := hcell 0 (by omega)
    rw [Go.Al.add_zero] at this
    rw [this]
    obtain ⟨vs, vm, vi, vp, vt, rfl, _⟩ := h2.ex
    have hs1 : c1.toList.length = 16 := by rw [Array.length_toList]; exact h1.size
    simp only [List.flatMap_cons, List.flatMap_nil, List.append_nil]
    rw [List.getElem?_append_right (by omega), hs1]
    rfl
  change lenV ov = some (iv ((2 : Nat) : Int)) at hlv
  have d2 : ((2 : Nat) : Int) = 2 := rfl
  rw [d2] at hlv
  have d1 : ((1 : Nat) : Int) = 1 := rfl
  rw [d1] at hix
  simp only [RS0, RS1, RS2, RS3, RS4, RS5, hlv, hix, hc0, beq_self_eq_true]
  refine (wtail_spec hL9).mono ?_
  rintro _ w10 ⟨rfl, hf10⟩
  rw [o3]
  simp only [RS0, RS1, RS2, RS3, RS4, RS5, beq_self_eq_true]
  exact ⟨(by trivial), Fmf hF9 hf10⟩
end Go.Proofs.YthbngnlmgplijaaGreatDoor
