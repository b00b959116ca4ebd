/- Laid for one claim by slim.py out of: PoolAw PoolLast PlLaw PlLaw2 PlLaw3 PlLaw4 PlLaw5 AlCard. -/
import Derived.Test.YthbngnlmgplijaaGreatDoorPlyF
namespace Go.Proofs.YthbngnlmgplijaaGreatDoor
open Go.Al Go.Proofs
set_option linter.unusedVariables false
set_option linter.unusedSimpArgs false
set_option linter.unusedSectionVars false
set_option maxRecDepth 100000

theorem nt_body {k : Nat} (h : k ≤ 127) : rBody (atR nt k) = [UInt8.ofNat k, 0, 0, 2, 1, 0, 0, 0, 0, 0, 0, 0, 0, 0, 0, 0] := by
  have e0 : encI 0 = [0] := encI_small (n := 0) (by omega)
  have e1 : encI 1 = [1] := encI_small (n := 1) (by omega)
  have e2 : encI 2 = [2] := encI_small (n := 2) (by omega)
  have e0' : encI ((0 : Nat) : Int) = [0] := e0
  have ek := encI_small h
  simp only [rBody, atR, nt, numsB, headL, txtB, listB, List.length_nil, List.flatMap_cons, List.flatMap_nil, e0, e0', e1, e2, ek]
  rfl
theorem nt1 : (rCheck (atR nt 1)).2 = 0 := by
  have : rCheck (atR nt 1) = rInner (atR nt 1) := rfl
  rw [this]
  unfold rInner
  rw [nt_body (by omega)]
  rfl
theorem nt_len : (rEnc (atR nt 1)).1.length = 24 := by
  rw [rEnc_ok nt1 (by intro m hm; cases hm), nt_body (by omega)]
  simp only [List.length_append, beN_len, List.length_cons, List.length_nil]
def awL : Lg := { Lg.new 0 10 with kept := (rEnc (atR nt 1)).1, recs := [(1, atR nt 1)] }
theorem nt_app : (Lg.new 0 10).append nt = (awL, 1, 0) := by
  have ht : (Lg.new 0 10).tail = 1 := rfl
  have hr : (Lg.new 0 10).room = 432 := rfl
  unfold Lg.append
  rw [ht, hr, nt1, nt_len]
  rfl
theorem awL_tail : awL.tail = 25 := by
  show 1 + (rEnc (atR nt 1)).1.length = 25
  rw [nt_len]
theorem put_owed (s : PS) (i : Nat) : (s.put i).1.p.owed = s.p.owed ∧ (s.put i).1.l = s.l := by
  unfold PS.put
  cases decide ((pEnc (s.p.get i).pg).2 = 0) with
  | false => exact ⟨rfl, rfl⟩
  | true =>
    cases decide ((s.putW i).2 = 0) with
    | false => exact ⟨rfl, rfl⟩
    | true => exact ⟨rfl, rfl⟩
theorem write1_calm {s : PS} {i : Nat} (h : ¬ (s.l.last : Int) ≤ (s.p.get i).pg.lsn) : (s.write1 i).1.p.owed = s.p.owed ∧ (s.write1 i).1.l = s.l := by
  unfold PS.write1
  rw [decide_eq_false h, cond_false]
  exact put_owed s i
theorem write1_flush {s : PS} {i : Nat} (h : (s.l.last : Int) ≤ (s.p.get i).pg.lsn) (hf : (s.flu i).2.2 = 0) : (s.write1 i).1.p.owed = s.p.synced.owed ∧ (s.write1 i).1.l = (s.flu i).1 := by
  unfold PS.write1
  rw [decide_eq_true h, cond_true, decide_eq_true hf, cond_true]
  exact put_owed _ i
theorem take_calm {s : PS} (h : ∀ i, (s.p.get i).chg = true → ¬ (s.l.last : Int) ≤ (s.p.get i).pg.lsn) (pick : Int) : (s.take pick).1.p.owed = s.p.owed ∧ (s.take pick).1.l = s.l := by
  unfold PS.take
  cases s.p.hold (-1) with
  | some i => exact ⟨rfl, rfl⟩
  | none =>
    simp only
    generalize PS.pickAt s.p.fr.length pick = i
    cases hc : (s.p.get i).chg with
    | false => exact ⟨rfl, rfl⟩
    | true =>
      have := write1_calm (h i hc)
      cases decide ((s.write1 i).2 = 0) with
      | true => exact this
      | false => exact this
theorem fetch_calm {s : PS} (h : ∀ i, (s.p.get i).chg = true → ¬ (s.l.last : Int) ≤ (s.p.get i).pg.lsn) (n pick : Int) : (s.fetch n pick).1.p.owed = s.p.owed ∧ (s.fetch n pick).1.l = s.l := by
  have ht := take_calm h pick
  unfold PS.fetch
  cases decide (s.p.known n = 0) with
  | false => exact ⟨rfl, rfl⟩
  | true =>
    simp only [cond_true]
    cases s.p.hold n with
    | some i => exact ⟨rfl, rfl⟩
    | none =>
      simp only
      cases decide ((s.raw n).2 = 0) with
      | false => exact ⟨rfl, rfl⟩
      | true =>
        cases decide ((pDec (s.raw n).1).2 = 0) with
        | false => exact ⟨rfl, rfl⟩
        | true =>
          cases decide ((s.take pick).2.2 = 0) with
          | true => exact ht
          | false => exact ht
def awB1 : Pg := ⟨1, 2, 0, 0, [], [[120]]⟩
def awB2 : Pg := ⟨1, 2, 0, 0, [], []⟩
def awS (d : Dk) : PS := ⟨newP 10 4 1, awL, d⟩
def awS1 (d : Dk) : PS := ⟨⟨10, 4, [⟨awB1, 2, true⟩], [(2, 1)]⟩, awL, d⟩
theorem aw_set1 (d : Dk) : (awS d).set 2 awB1 0 = (awS1 d, 0) := by kernel_rfl
theorem aw_end {d : Dk} {lst : Nat → Option Pg} (h : PGood (awS1 d) lst) : ((awS1 d).set 3 awB2 0).2 = 0 ∧ ∃ lst', PGood ((awS1 d).set 3 awB2 0).1 lst' ∧ lst' 2 = some awB1 ∧ (((awS1 d).set 3 awB2 0).1.fetch 2 0).1.l.last = (((awS1 d).set 3 awB2 0).1.fetch 2 0).1.l.tail ∧ getD (((awS1 d).set 3 awB2 0).1.fetch 2 0).1.p.owed 2 ≠ none ∧ 2 < ((awS1 d).set 3 awB2 0).1.p.pages := by
  have hE2 : setE awB2 = 0 := by decide
  have hp : (2 : Nat) < (awS1 d).p.pages ∧ (3 : Nat) < (awS1 d).p.pages := by show 2 < 4 ∧ 3 < 4; omega
  obtain ⟨h1, h2, h3⟩ := h.set (n := 3) hp.2 (b := awB2) (by show (1 : Int) < (awL.tail : Int); rw [awL_tail]; decide) 0
  have hl2 : lst 2 = some awB1 := h.held 0 ⟨awB1, 2, true⟩ 2 rfl rfl
  have hq : ((awS1 d).l.last : Int) ≤ ((awS1 d).p.get 0).pg.lsn := by show (1 : Int) ≤ 1; decide
  have hflu : (awS1 d).flu 0 = awL.flush 1 d := rfl
  obtain ⟨f1, f2, f3, f4, f5, f6⟩ := flush_calm h.wl h.calm (by have := h.lay; omega) hq (by show (1 : Nat) < awL.tail; rw [awL_tail]; decide)
  have f1' : ((awS1 d).flu 0).2.2 = 0 := f1
  have f2' : ((awS1 d).flu 0).1 = { awL with last := awL.tail } := f2
  obtain ⟨w1, w2⟩ := write1_flush hq f1'
  obtain ⟨g1, _, _, g4⟩ := h.write1 (i := 0) (n := 2) (f := ⟨awB1, 2, true⟩) rfl rfl rfl
  have hset : (awS1 d).set 3 awB2 0 = ((((awS1 d).write1 0).1.lay 0 pf0).own 0 3 awB2, 0) := by
    have k1 : (awS1 d).p.known 3 = 0 := by kernel_rfl
    have k2 : (pEnc awB2).2 = 0 := by rw [pEnc_err]; decide
    have k3 : (awS1 d).p.hold 3 = none := rfl
    have k4 : (awS1 d).take 0 = (((awS1 d).write1 0).1.lay 0 pf0, 0, 0) := by
      have k5 : (awS1 d).p.hold (-1) = none := rfl
      have k6 : PS.pickAt (awS1 d).p.fr.length 0 = 0 := by kernel_rfl
      have k7 : ((awS1 d).p.get 0).chg = true := rfl
      unfold PS.take
      rw [k5]
      simp only [k6, k7, g1, cond_true, decide_true]
    unfold PS.set
    rw [k1, k2, k3, k4]
    simp only [decide_true, cond_true]
    rfl
  have hsy : (awS1 d).p.synced.owed = [(2, 1)] := rfl
  rw [hsy] at w1
  have ho : ((((awS1 d).write1 0).1.lay 0 pf0).own 0 3 awB2).p.owed = [(2, 1), (3, 1)] := by
    show (bif (getD ((awS1 d).write1 0).1.p.owed 3).isNone then setD ((awS1 d).write1 0).1.p.owed 3 awB2.lsn else ((awS1 d).write1 0).1.p.owed) = _
    rw [w1]; rfl
  have hl : ((((awS1 d).write1 0).1.lay 0 pf0).own 0 3 awB2).l = { awL with last := awL.tail } := by
    show ((awS1 d).write1 0).1.l = _
    rw [w2, f2']
  have hfr : ((((awS1 d).write1 0).1.lay 0 pf0).own 0 3 awB2).p.fr = [⟨awB2, 3, true⟩] := by
    show ((((awS1 d).write1 0).1.p.fr.set 0 pf0).set 0 ⟨awB2, 3, true⟩) = _
    rw [g4]; rfl
  rw [show ((3 : Nat) : Int) = 3 from rfl] at h3
  rw [hset] at h3 ⊢
  simp only at h3 ⊢
  have hpp : 2 < ((((awS1 d).write1 0).1.lay 0 pf0).own 0 3 awB2).p.pages := by
    show 2 < ((awS1 d).write1 0).1.p.pages
    rw [(write1_len (awS1 d) 0).2.1]; show 2 < 4; omega
  generalize ((((awS1 d).write1 0).1.lay 0 pf0).own 0 3 awB2) = s3 at h3 ho hl hfr hpp ⊢
  rw [if_pos hE2] at h3
  have hcalm : ∀ i, (s3.p.get i).chg = true → ¬ (s3.l.last : Int) ≤ (s3.p.get i).pg.lsn := by
    intro i hc
    unfold Pl.get at hc ⊢
    rw [hfr] at hc ⊢
    rw [hl]
    match i with
    | 0 => show ¬ ((awL.tail : Int) ≤ 1); rw [awL_tail]; decide
    | i + 1 => cases hc
  obtain ⟨q1, q2⟩ := fetch_calm hcalm 2 0
  refine ⟨trivial, _, h3, ?_, ?_, ?_⟩
  · unfold upd; rw [if_neg (by decide)]; exact hl2
  · rw [q2, hl]; rfl
  · rw [q1, ho]; exact ⟨by decide, hpp⟩
theorem bldB1 (a : Option Addr) (j c : Nat) (w : World) : (Instr.build 61 #[(0, iv 1), (1, iv 2), (5, .slice a j c)]).run Tryz.prog w = .ok (.agg (pcs awB1 (.slice a j c))) w := by kernel_rfl
theorem bldB2 (w : World) : (Instr.build 61 #[(0, iv 1), (1, iv 2)]).run Tryz.prog w = .ok (.agg (pcs awB2 nlv)) w := by kernel_rfl
theorem awB2_as (w : World) : PgAs w (pcs awB2 nlv) awB2 := ⟨⟨_, rfl, rfl, items_nil w⟩, by simp [awB2], by simp [awB2, In]⟩
set_option maxHeartbeats 8000000 in
theorem paw_spec (w : World) : Cl Tryz.prog 35 [] w fun v w' => v = .bool true ∧ Fm (fun _ => False) w w' := by
  refine c35 ?_; unfold T35
  refine (dnew_spec w 60).mono ?_
  rintro _ w1 ⟨_, h2⟩
  obtain ⟨b, g, m, rfl, hb, hg, hm, hd, hf1⟩ := h2 (by omega)
  clear h2
  have hlt := hd.lt
  change DAt w1 b g m (Dk.mk0 60) at hd
  simp only [RS0, RS1, RS2, RS3, RS4, RS5, bne_refl0]
  have hG0 := good_new (N := 60) (n := 10) (frm := 10) (pages := 4) (frames := 1) (by decide) (by decide) (by decide) (by decide) (by decide)
  obtain ⟨hz0, _, hdl⟩ := calm_fmt (calm_mk0 (n := 60) (by omega)) (i := 0) (j := 10) (by omega) (by rw [mk0_len]; omega)
  rw [mk0_len] at hdl
  refine (wformat_spec hd ((0 : Nat) : Int) ((10 : Nat) : Int)).mono ?_
  rintro _ w2 ⟨p, rfl, hd2, hf2, _, h3⟩
  obtain ⟨lb, X, rfl, hL2, hX⟩ := h3 hz0
  rw [hz0]
  generalize (fmtE (Dk.mk0 60) ((0 : Nat) : Int) ((10 : Nat) : Int)).1 = d2 at hd2 hG0 hdl
  simp only [Int.toNat_natCast] at hL2
  have hF2 : Fm (fun _ => False) w w2 := Fm.own hf1 hf2 (by rintro y (rfl | rfl | rfl) <;> assumption)
  have z1 := hf1.size
  simp only [RS0, RS1, RS2, RS3, RS4, RS5, bne_refl0]
  refine (pnew_spec hd2 lb ((10 : Nat) : Int) ((4 : Nat) : Int) ((1 : Nat) : Int) (by unfold In; omega)).mono ?_
  rintro v w3 ⟨hf3, hc⟩
  have hnb : newBad d2 ((10 : Nat) : Int) ((4 : Nat) : Int) ((1 : Nat) : Int) = false := by unfold newBad; rw [hdl]; decide
  rcases hc with ⟨e, _⟩ | ⟨_, pb, fb, ob, Xp, F, rfl, hP, hwf, hXp⟩
  · rw [hnb] at e; cases e
  have hF3 := Fmf hF2 hf3
  obtain ⟨Y, hS⟩ := Sys.made (w0 := w) hd2 ⟨⟨hb, hg, hm⟩, hlt⟩ hL2 hX z1 hf3 hP hXp hwf hF3
  clear hP hL2 hd2 hX hXp h3
  simp only [RS0, RS1, RS2, RS3, RS4, RS5, bne_refl0]
  refine (note_spec w3).mono ?_
  rintro _ w4 ⟨rfl, hf4⟩
  refine ((hS.keep0 hf4).append (r := nt) (fun w' _ => nt_as w')).mono ?_
  rintro _ w5 ⟨rfl, ⟨Y5, hS5, _⟩, hf5⟩
  obtain ⟨hG1, _⟩ := hG0.append nt nt_lsns
  simp only at hS5 hG1
  rw [nt_app] at hS5 hG1 ⊢
  simp only at hS5 hG1
  simp only [RS0, RS1, RS2, RS3, RS4, RS5]
  have hbs := bs22 [120] w5
  refine RunS_ok hbs ?_
  have hfa := Fm.alloc (fun _ => False) w5 (.cells #[stv [120]] 9)
  have hna := own_new (w := w5) (e := 9) (sz := 1) (base := w5.heap.size) (n := 1) (l := [stv [120]]) rfl (Nat.le_refl _) (by unfold maxLen; omega)
  have z6 := alloc_size w5 (.cells #[stv [120]] 9)
  have hS6 := hS5.keep0 hfa
  change (w5.alloc (.cells #[stv [120]] 9)).ownsRow _ _ _ _ _ _ at hna
  generalize w5.alloc (.cells #[stv [120]] 9) = w6 at hfa hna hS6 z6
  refine RunS_ok (bldB1 _ _ _ _) ?_
  have hb1 : PgOw w6 w5.heap.size (pcs awB1 (.slice (some ⟨w5.heap.size, 0, none⟩) 1 1)) awB1 := ⟨⟨_, rfl, hna⟩, by simp [awB1], by simp [awB1, In]⟩
  refine (hS6.set (b := awB1) (fun w' hf => ?_) 2 0).mono ?_
  · refine (HeldP.of_own (P := fun y => y = w5.heap.size) hb1 (fun y hy => ?_)) w' (hf.mono (fun y _ hy e => ?_))
    · cases hy; rfl
    · have := (hS5.ge y hy).2; omega
  rintro _ w7 ⟨rfl, ⟨Y7, hS7, _⟩, hf7⟩
  obtain ⟨_, _, hG2⟩ := hG1.set (n := 2) (by show (2 : Nat) < Int.toNat ((4 : Nat) : Int); decide) (b := awB1) (by show (1 : Int) < (awL.tail : Int); rw [awL_tail]; decide) 0
  have e1 := aw_set1 d2
  unfold awS at e1
  have ecast : ((2 : Nat) : Int) = 2 := rfl
  have e10 : newP ((10 : Nat) : Int) ((4 : Nat) : Int) ((1 : Nat) : Int) = newP 10 4 1 := rfl
  rw [ecast] at hG2
  rw [e10] at hS7 hG2 ⊢
  rw [e1] at hS7 hG2 ⊢
  simp only at hS7 hG2
  obtain ⟨k1, lst', k2, k3, k4, k5, hpg⟩ := aw_end hG2
  simp only [RS0, RS1, RS2, RS3, RS4, RS5]
  refine RunS_ok (bldB2 _) ?_
  refine (hS7.set (b := awB2) (fun w' hf => awB2_as w') 3 0).mono ?_
  rintro _ w8 ⟨rfl, ⟨Y8, hS8, _⟩, hf8⟩
  rw [k1]
  generalize ((awS1 d2).set 3 awB2 0).1 = s3 at hS8 k2 k4 k5 hpg
  obtain ⟨_, _, hres⟩ := k2.fetch (n := 2) hpg 0
  rw [k3, ecast] at hres
  refine (hS8.fetch 2 0).mono ?_
  rintro _ w9 ⟨u, rfl, ho9, ⟨Y9, hS9, _, _⟩, hf9⟩
  rw [hres] at ho9 ⊢
  simp only at ho9
  generalize (s3.fetch 2 0).1 = s4 at hS9 k4 k5
  obtain ⟨u', hue, hou⟩ := ho9.ex
  obtain rfl := pcs_inj hue
  have hca : CellsAt w9 u 1 1 [stv [120]] := CellsAt.of_own hou
  have hu1 := own_one hou
  simp only [RS0, RS1, RS2, RS3, RS4, RS5]
  refine New_any ?_
  intro x10 w10 hx10 hs10 hw10 hf10
  refine St_all hw10 rfl rfl (pcs_one hu1) ?_
  intro w11 hw11 hs11 hf11
  have hF11 : Fm (fun _ => False) w9 w11 := Fm.own hf10 hf11 (by rintro y rfl; omega)
  have c5 : w11.cell? ⟨x10, 5, none⟩ = some u := by rw [cell_at hw11]; rfl
  have hca11 := hca.keep hF11 (fun _ _ e => e)
  obtain ⟨ad, hix, _, hcell⟩ := hca11.at1 (i := 0) (x := stv [120]) rfl .i64
  have hlv := hca11.lenV
  have hS11 := hS9.keep0 hF11
  have b0 : ((0 : Int) == 0) = true := rfl
  have b1 : (((1 : Nat) : Int) == 1) = true := rfl
  have b2 : decide (str [120] = ByteArray.mk #[120]) = true := decide_eq_true rfl
  have hix' : ixV 1 u (Value.int IntKind.i64 0) = some (.pointer (some ad)) := hix
  simp only [RS0, RS1, RS2, RS3, RS4, RS5, b0, b1, b2, c5, hlv, hix', hcell]
  refine hS11.flushed.mono ?_
  rintro _ w12 ⟨rfl, hf12⟩
  have hS12 := hS11.keep0 hf12
  try simp only [RS0, RS1, RS2, RS3, RS4, RS5]
  refine hS12.tail.mono ?_
  rintro _ w13 ⟨rfl, hf13⟩
  have hS13 := hS12.keep0 hf13
  rw [k4]
  simp only [RS0, RS1, RS2, RS3, RS4, RS5, beq_dec, decide_true]
  refine (hS13.owes 2).mono ?_
  rintro _ w13 ⟨rfl, rfl⟩
  have hk : (getD s4.p.owed 2).isNone = false := by
    cases hq : getD s4.p.owed 2 with
    | none => exact absurd hq k5
    | some _ => rfl
  rw [hk]
  simp only [RS0, RS1, RS2, RS3, RS4, RS5]
  exact ⟨(by trivial), hS13.fm⟩
end Go.Proofs.YthbngnlmgplijaaGreatDoor

namespace Go.Proofs.YthbngnlmgplijaaGreatDoor
open Go.Al Go.Proofs
set_option linter.unusedVariables false
set_option linter.unusedSimpArgs false
set_option linter.unusedSectionVars false
set_option maxRecDepth 100000

section
variable {w0 w w' : World} {xl xi : Nat} {lst : Nat → Option Pg} {S : Nat → Prop}
end

/-! ### A law's state -/
section
variable {w0 w w' : World} {Y Y' S : Nat → Prop} {pb lb db xl xi : Nat} {s s' : PS} {lst : Nat → Option Pg}
end
theorem Gr.x {w : World} {Y Y' : Nat → Prop} (h : Gr w Y Y') {x : Nat} (hx : x < w.heap.size) (hn : ¬ Y x) : ¬ Y' x := fun e => by
  rcases h x e with q | q
  · exact hn q
  · omega
end Go.Proofs.YthbngnlmgplijaaGreatDoor

namespace Go.Proofs.YthbngnlmgplijaaGreatDoor
open Go.Al Go.Proofs
set_option linter.unusedVariables false
set_option linter.unusedSimpArgs false
set_option linter.unusedSectionVars false
set_option maxRecDepth 100000

theorem own_setP {w : World} {base : Nat} {e : TypeId} {v : Value} {n : Nat} {xs : List Value} (h : w.ownsRow base e 1 v n xs) {i : Nat} (hi : i < n) : ∃ ad, ixV 1 v (iv i) = some (.pointer (some ad)) ∧ v.ownBlock = some ad.block ∧ ∀ {u : Value} {k : KV}, u.oneCell' = true → (∀ w', w'.ownsRow base e 1 v n (xs.set i u) → w'.heap.size = w.heap.size → Fm (fun y => v.ownBlock = some y) w w' → k undef w') → St 1 w (.pointer (some ad)) u k := by
  rcases h.2 with ⟨rfl, hn⟩ | ⟨g, cap, cur, rfl, hbg, hgg, hnc, hcm, hcs, htake⟩
  · omega
  · rw [Nat.mul_one] at hcs htake
    refine ⟨⟨g, i, none⟩, by rw [ixV_at hi, add_none]; simp, rfl, ?_⟩
    intro u k hu hk
    refine St_blk hgg (by omega) hu ?_
    intro w' h1 h2 h3
    refine hk w' ⟨by rw [List.length_set]; exact h.1, .inr ⟨g, cap, _, rfl, hbg, h1, hnc, hcm, by simp [hcs], ?_⟩⟩ h2 (h3.mono (fun y _ e => by rw [e]; rfl))
    rw [Nat.mul_one, ← htake]
    simp [List.take_set]
theorem no_loop {w : World} {x base : Nat} {g : Pg} {u : Value} {xs : List Value} (hx : w.heap[x]? = some (.cells (pcs g u) 61)) (ho : w.ownsRow base 9 1 u g.items.length xs) (hl0 : g.items.length ≤ 8796093022208) {K : World → Prop} (hk : ∀ w', Fm (fun y => u.ownBlock = some y) w w' → K w') :
    ∃ (I_528 : List Value → World → Prop) (m_529 : List Value → World → Nat), I_528 [(Value.int IntKind.i64 0)] w ∧
          ∀ (g_544 : Fr) (w_543 : World), ∀ n27_531 : Value, I_528 [n27_531] w_543 →
            (Pu (faV 5 (pv x)) fun t131_545 =>
            Ld w_543 t131_545 fun t132_546 w_547 =>
            Pu (lenV t132_546) fun t133_548 =>
            Pu (binV (TypeDesc.int IntKind.i64) .lss n27_531 t133_548) fun t134_549 =>
            IfB t134_549
              (Pu (faV 5 (pv x)) fun t137_550 =>
            Ld w_547 t137_550 fun t138_551 w_552 =>
            Pu (ixV 1 t138_551 n27_531) fun t140_553 =>
            St 1 w_552 t140_553 (Value.string (ByteArray.mk #[110, 111])) fun u_554 w_555 =>
            Pu (binV (TypeDesc.int IntKind.i64) .add n27_531 (Value.int IntKind.i64 1)) fun t136_556 =>
            I_528 [t136_556] w_555 ∧ m_529 [t136_556] w_555 < m_529 [n27_531] w_543)
              (K w_547)) := by
  have hne : ∀ {w' : World} {ys : List Value} {n : Nat}, w'.ownsRow base 9 1 u n ys → w'.heap[x]? = some (.cells (pcs g u) 61) → u.ownBlock ≠ some x := fun h1 h2 e => by
    have := tyAt_own h1 e
    rw [tyAt_of h2] at this
    exact absurd (Option.some.inj this) (by decide)
  refine ⟨fun vs w' => ∃ (i : Nat) (ys : List Value), vs = [iv (i : Int)] ∧ i ≤ g.items.length ∧ w'.ownsRow base 9 1 u g.items.length ys ∧ w'.heap[x]? = some (.cells (pcs g u) 61) ∧ Fm (fun y => u.ownBlock = some y) w w', fun vs _ => (g.items.length - nth vs 0).toNat, ⟨0, xs, rfl, by omega, ho, hx, Fm.refl _ _⟩, ?_⟩
  rintro _ w2 ivv ⟨i, ys, hvs, hi, ho2, hx2, hf2⟩
  cases hvs
  have c5 : w2.cell? ⟨x, 5, none⟩ = some u := by rw [cell_at hx2]; rfl
  have hlv := (CellsAt.of_own ho2).lenV
  by_cases hl : i < g.items.length
  · have d1 : decide ((i : Int) < (g.items.length : Int)) = true := by rw [decide_eq_true_eq]; omega
    have e1 : IntKind.i64.wrap ((i : Int) + 1) = ((i + 1 : Nat) : Int) := by rw [wrap_id] <;> omega
    obtain ⟨ad, q1, q2, q3⟩ := own_setP ho2 hl
    simp only [RS0, RS1, RS2, RS3, RS4, RS5, c5, hlv, d1, q1]
    refine q3 rfl ?_
    intro w3 ho3 hs3 hf3
    simp only [RS0, RS1, RS2, RS3, RS4, RS5, e1]
    exact ⟨⟨i + 1, _, rfl, by omega, ho3, hf3.heap hx2 (hne ho2 hx2), hf2.trans hf3 (fun _ _ e => e) (fun _ _ e => e)⟩, by simp only [nth_0]; omega⟩
  · have hie : i = g.items.length := by omega
    subst hie
    have d1 : decide (((g.items.length : Nat) : Int) < (g.items.length : Int)) = false := by simp
    simp only [RS0, RS1, RS2, RS3, RS4, RS5, c5, hlv, d1]
    exact hk w2 hf2
theorem Sys.made2 {w0 w1 w2 w3 : World} {pb lb b g m : Nat} {d : Dk} {L : Lg} {p : Pl} {X Xp : Nat → Prop} {fb ob : Nat} {F : List PV} (hd : DAt w2 b g m d) (hb : (w0.heap.size ≤ b ∧ w0.heap.size ≤ g ∧ w0.heap.size ≤ m) ∧ b < w1.heap.size ∧ g < w1.heap.size ∧ m < w1.heap.size)
    (hL : LAt w2 X lb b L) (hX : ∀ y, X y → w1.heap.size ≤ y) (hz : w0.heap.size ≤ w1.heap.size) (hf : Fm (fun _ => False) w2 w3) (hP : PIn w3 Xp (fun _ => False) pb lb b fb ob F p) (hXp : ∀ y, Xp y → w2.heap.size ≤ y) (hwf : p.Wf) (hF : Fm (fun _ => False) w0 w3) :
    Sys w0 w3 (SY X Xp b g m) pb lb b ⟨p, L, d⟩ := by
  have hdl := hd.lt
  have hLl := hL.lt
  have h1 : SI w3 X Xp (fun _ => False) pb lb b g m fb ob F ⟨p, L, d⟩ := ⟨hL.keep0 hf, hd.keep0 hf, hP, hwf, fun y h1 h2 => by have := hLl y h1; have := hXp y h2; omega, ⟨fun e => by have := hX _ e; omega, fun e => by have := hX _ e; omega, fun e => by have := hX _ e; omega⟩, ⟨fun e => by have := hXp _ e; omega, fun e => by have := hXp _ e; omega, fun e => by have := hXp _ e; omega⟩⟩
  refine ⟨⟨X, Xp, fun _ => False, g, m, fb, ob, F, h1, fun _ e => e⟩, fun y hy => ⟨?_, h1.lt y hy⟩, hF⟩
  have z2 := hF.size
  rcases hy with hy | hy | rfl | rfl | rfl
  · have := hX y hy; omega
  · have := hXp y hy
    have hb2 := hLl _ hL.lb
    have := hX _ hL.lb
    omega
  · exact hb.1.1
  · exact hb.1.2.1
  · exact hb.1.2.2
theorem bsl0 (w : World) : (Instr.buildSlice 59 0 #[]).run Tryz.prog w = .ok (.slice (some ⟨w.heap.size, 0, none⟩) 0 0) (w.alloc (.cells #[] 9)) := by kernel_rfl
theorem fold_max2 (a b : Int) : foldV0 max2V [iv a, iv b] = some (iv (max a b)) := by
  have : max2V (iv a) (iv b) = some (iv (max a b)) := by
    show some (iv (if a < b then b else a)) = _
    congr 2
    split <;> omega
  simp only [foldV0, foldV, this, Option.bind_some]

end Go.Proofs.YthbngnlmgplijaaGreatDoor

namespace Go.Proofs.YthbngnlmgplijaaGreatDoor
open Go.Al Go.Proofs
set_option linter.unusedVariables false
set_option linter.unusedSimpArgs false
set_option linter.unusedSectionVars false
set_option maxRecDepth 100000

theorem pgas_own2 {w : World} {base : Nat} {b : Pg} {u v' : Value} (h : PgAs w (pcs b u) b) (ho : w.ownsRow base 9 1 v' b.items.length (b.items.map stv)) : PgOw w base (pcs b v') b := ⟨⟨v', rfl, ho⟩, h.small, h.ins⟩
set_option maxHeartbeats 8000000 in
theorem set_part {w0 w : World} {Y Z : Nat → Prop} {pb lb db pr lr dr fr x20 x28 : Nat} {s t : PS} {o : OpP} {u : Value} {b : Pg} (h : Bt w0 w Y Z pb lb db pr lr dr fr s t) (hk : Lk s t) (hO : OB w x20 o u) (h20 : ¬ Y x20 ∧ ¬ Z x20) (hx28 : w.heap[x28]? = some (.cells (pcs b u) 61)) (h28 : ¬ Y x28 ∧ ¬ Z x28 ∧ w0.heap.size ≤ x28) (hne : x20 ≠ x28)
    (hPg : PgAs w0 (pcs b u) b) (hm : b.items.length * 16 ≤ 140737488351232) {J : List Value → World → Prop}
    (hJ : ∀ w' Y' Z' s' t' (a : Int), Bt w0 w' Y' Z' pb lb db pr lr dr fr s' t' → Lk s' t' → OB w' x20 o u → ¬ Y' x20 → ¬ Z' x20 → J [iv a, iv a] w') :
    LdN 6 w (pv x28) fun t163_592 w_593 =>
                      New #[(Value.int IntKind.i64 0), (Value.int IntKind.i64 0), (Value.int IntKind.i64 0), (Value.int IntKind.i64 0), (Value.string (ByteArray.mk #[])), (Value.slice none 0 0)] 61 w_593 fun own31_594 w_595 =>
                      St 6 w_595 own31_594 t163_592 fun u_596 w_597 =>
                      RunS Tryz.prog (Instr.buildSlice 59 0 #[]) w_597 fun t164_598 w_599 =>
                      Pu (faV 5 (pv x28)) fun t165_600 =>
                      Ld w_599 t165_600 fun t166_601 w_602 =>
                      RunS Tryz.prog (Builtin.append_ #[59, 59] 59 #[t164_598, t166_601]) w_602 fun t167_603 w_604 =>
                      Pu (faV 5 own31_594) fun t168_605 =>
                      St 1 w_604 t168_605 t167_603 fun u_606 w_607 =>
                      Pu (faV 1 (pv x20)) fun t170_608 =>
                      Ld w_607 t170_608 fun t171_609 w_610 =>
                      LdN 6 w_610 own31_594 fun t172_611 w_612 =>
                      Pu (faV 2 (pv x20)) fun t173_613 =>
                      Ld w_612 t173_613 fun t174_614 w_615 =>
                      Cl Tryz.prog 32 [pv pb, t171_609, t172_611, t174_614] w_615 fun t175_616 w_617 =>
                      Pu (faV 1 (pv x20)) fun t177_618 =>
                      Ld w_617 t177_618 fun t178_619 w_620 =>
                      LdN 6 w_620 (pv x28) fun t179_621 w_622 =>
                      Pu (faV 2 (pv x20)) fun t180_623 =>
                      Ld w_622 t180_623 fun t181_624 w_625 =>
                      Cl Tryz.prog 52 [pv pr, t178_619, t179_621, t181_624] w_625 fun t182_626 w_627 =>
                      ∃ (I_628 : List Value → World → Prop) (m_629 : List Value → World → Nat), I_628 [(Value.int IntKind.i64 0)] w_627 ∧
                      ∀ (g_644 : Fr) (w_643 : World), ∀ n32_631 : Value, I_628 [n32_631] w_643 →
                        (Pu (faV 5 own31_594) fun t184_645 =>
                        Ld w_643 t184_645 fun t185_646 w_647 =>
                        Pu (lenV t185_646) fun t186_648 =>
                        Pu (binV (TypeDesc.int IntKind.i64) .lss n32_631 t186_648) fun t187_649 =>
                        IfB t187_649
                          (Pu (faV 5 own31_594) fun t190_650 =>
                        Ld w_647 t190_650 fun t191_651 w_652 =>
                        Pu (ixV 1 t191_651 n32_631) fun t193_653 =>
                        St 1 w_652 t193_653 (Value.string (ByteArray.mk #[110, 111])) fun u_654 w_655 =>
                        Pu (binV (TypeDesc.int IntKind.i64) .add n32_631 (Value.int IntKind.i64 1)) fun t189_656 =>
                        I_628 [t189_656] w_655 ∧ m_629 [t189_656] w_655 < m_629 [n32_631] w_643)
                          (J [t175_616, t182_626] w_647)) := by
  have hu := hPg.u1
  have hPw := hPg.keep h.S.fm
  obtain ⟨uu, hcu, huo, hcc⟩ := hPw.ex
  have hcu' := pcs_inj hcu
  subst hcu'
  have z0 := h.S.fm.size
  simp only [RS0, RS1, RS2, RS3, RS4, RS5, cellsV_blk hx28 (show (pcs b u).size = 6 from rfl)]
  refine New_any ?_
  intro x31 w1 hx31 hs1 hw1 hf1
  refine St_all hw1 rfl rfl (pcs_one hu) ?_
  intro w2 hw2 hs2 hf2
  have hF2 : Fm (fun _ => False) w w2 := Fm.own hf1 hf2 (by rintro y rfl; omega)
  refine RunS_ok (bsl0 _) ?_
  have hf3 := Fm.alloc (fun _ => False) w2 (.cells #[] 9)
  have hn3 := alloc_new w2 (.cells #[] 9)
  have hs3 := alloc_size w2 (.cells #[] 9)
  generalize w2.alloc (.cells #[] 9) = w3 at hf3 hn3 hs3
  have hF3 := Fmf hF2 hf3
  have c5 : w3.cell? ⟨x28, 5, none⟩ = some u := by rw [cell_at (hF3.heap hx28 (fun e => e))]; rfl
  simp only [RS0, RS1, RS2, RS3, RS4, RS5, c5]
  have hrow0 : w3.ownsRow w2.heap.size 9 1 (.slice (some ⟨w2.heap.size, 0, none⟩) 0 0) 0 [] := ⟨rfl, .inr ⟨w2.heap.size, 0, #[], rfl, Nat.le_refl _, hn3, Nat.le_refl _, by unfold maxLen; omega, rfl, rfl⟩⟩
  obtain ⟨v4, w4, hr4, ho4, hf4⟩ := append_srcO E22 (by omega) hrow0 (hcc.keep hF3 (fun _ _ e => e)) (stv_one _) 59 (by unfold maxLen; omega) (by omega) (by omega)
  refine RunS_ok hr4 ?_
  rw [Nat.zero_add, List.nil_append] at ho4
  have hz2 := hF2.size
  have hF4 : Fm (fun _ => False) w w4 := Fm.own hF3 hf4 (fun y hy => by have e' : w2.heap.size = y := Option.some.inj hy; omega)
  have hx31l := lt_of_heap hw2
  have hul4 := own_lt ho4
  have hw4 := hf4.heap (hf3.heap hw2 (fun e => e)) (fun e => by have e' : w2.heap.size = x31 := Option.some.inj e; omega)
  try simp only [RS0, RS1, RS2, RS3, RS4, RS5]
  refine St_blk hw4 (by show 5 < 6; decide) (own_one ho4) ?_
  intro w5 hw5 hs5 hf5
  rw [pcs_set5] at hw5
  have hF5 : Fm (fun _ => False) w w5 := Fm.own hF4 hf5 (by rintro y rfl; omega)
  have ho5 := own_keep ho4 hf5 (fun y hy _ _ e => by omega)
  have h5 := h.keep0 hF5
  have hO5 := hO.keep hF5 (fun e => e)
  have hYlt : ∀ y, Y y → y < w.heap.size := fun y hy => (h.S.ge y hy).2
  have hZlt := h.R.lt
  have z4 := hF4.size
  have hnY : ∀ {y : Nat}, w.heap.size ≤ y → ¬ Y y := fun hy e => by have := hYlt _ e; omega
  have hnZ : ∀ {y : Nat}, w.heap.size ≤ y → ¬ Z y := fun hy e => by have := hZlt _ e; omega
  have hul5 : ∀ y, v4.ownBlock = some y → w.heap.size ≤ y ∧ y < w5.heap.size := fun y hy => by have := hul4 y hy; omega
  simp only [RS0, RS1, RS2, RS3, RS4, RS5, hO5.c1, hO5.c2, cellsV_blk hw5 (show (pcs b v4).size = 6 from rfl)]
  refine (h5.S.set (b := b) (cs := pcs b v4) (fun w' hf => (pgas_own2 (hPg.keep (Fm.own h5.S.fm hf (fun y hy => (h5.S.ge y hy).1))) (own_keep ho5 hf (fun y _ _ hy => hnY (hul5 y hy).1))).as) o.2.1 o.2.2.1).mono ?_
  rintro _ w6 ⟨rfl, ⟨Y6, hS6, hG6⟩, hf6⟩
  have h6 := h5.prog hS6 hG6 hf6
  have hO6 := hO5.keep hf6 h20.1
  have hY6 : ∀ {y : Nat}, w.heap.size ≤ y → y < w5.heap.size → ¬ Y6 y := fun h1 h2 => hG6.x h2 (hnY h1)
  have hx28w := lt_of_heap hx28
  have h20w := lt_of_heap hO.h
  have hw5z : w.heap.size ≤ w5.heap.size := hF5.size
  have h28_6 := hf6.heap (hF5.heap hx28 (fun e => e)) h28.1
  have hw31_6 := hf6.heap hw5 (hnY (by omega))
  have ho6 := own_keep ho5 hf6 (fun y _ _ hy => hnY (hul5 y hy).1)
  simp only [RS0, RS1, RS2, RS3, RS4, RS5, hO6.c1, hO6.c2, cellsV_blk h28_6 (show (pcs b u).size = 6 from rfl)]
  refine (h6.R.set (b := b) (cs := pcs b u) (fun w' hf => hPg.keep (Fm.own h6.S.fm hf (fun y hy => h6.ge y hy))) o.2.1 o.2.2.1).mono ?_
  rintro _ w7 ⟨rfl, hst⟩
  obtain ⟨Z7, h7, hG7, hf7⟩ := h6.ref hst
  obtain ⟨e1, k1⟩ := hk.set o.2.1 b o.2.2.1
  rw [e1]
  have z6 := hf6.size
  have hO7 := hO6.keep hf7 h20.2
  have hw31_7 := hf7.heap hw31_6 (hnZ (by omega))
  have ho7 := own_keep ho6 hf7 (fun y _ _ hy => hnZ (hul5 y hy).1)
  have hh := no_loop (K := fun w' => J [iv (s.set o.2.1 b o.2.2.1).2, iv (s.set o.2.1 b o.2.2.1).2] w') hw31_7 ho7 (by omega) (fun w8 hf8 => ?_)
  · simp only [RS0, RS1, RS2, RS3, RS4, RS5] at hh
    exact hh
  refine hJ w8 Y6 Z7 _ _ _ (h7.keep hf8 (fun y hy => ?_)) k1 (hO7.keep hf8 (fun e => ?_)) ?_ ?_
  · have := hul5 y hy
    exact ⟨hY6 (by omega) (by omega), hG7.x (by omega) (hnZ (by omega)), by omega⟩
  · have := hul5 _ e; omega
  · exact hG6.x (by omega) h20.1
  · exact hG7.x (by omega) h20.2

end Go.Proofs.YthbngnlmgplijaaGreatDoor

namespace Go.Proofs.YthbngnlmgplijaaGreatDoor
open Go.Al Go.Proofs
set_option linter.unusedVariables false
set_option linter.unusedSimpArgs false
set_option linter.unusedSectionVars false
set_option maxRecDepth 100000

set_option maxHeartbeats 8000000 in
theorem fetch_part {w0 w : World} {Y Z : Nat → Prop} {pb lb db pr lr dr fr x20 : Nat} {s t : PS} {o : OpP} {u : Value} (h : Bt w0 w Y Z pb lb db pr lr dr fr s t) (hk : Lk s t) (hO : OB w x20 o u) (h20 : ¬ Y x20 ∧ ¬ Z x20) {B : World → Prop} {J : List Value → World → Prop}
    (hJ : ∀ w' Y' Z' s' t' (a : Int), Bt w0 w' Y' Z' pb lb db pr lr dr fr s' t' → Lk s' t' → OB w' x20 o u → ¬ Y' x20 → ¬ Z' x20 → J [iv a, iv a] w') :
    Pu (faV 1 (pv x20)) fun t110_493 =>
          Ld w t110_493 fun t111_494 w_495 =>
          Pu (faV 2 (pv x20)) fun t112_496 =>
          Ld w_495 t112_496 fun t113_497 w_498 =>
          Cl Tryz.prog 33 [pv pb, t111_494, t113_497] w_498 fun t114_499 w_500 =>
          Pu (extV t114_499 0) fun t115_501 =>
          Pu (extV t114_499 1) fun t116_502 =>
          New #[(Value.int IntKind.i64 0), (Value.int IntKind.i64 0), (Value.int IntKind.i64 0), (Value.int IntKind.i64 0), (Value.string (ByteArray.mk #[])), (Value.slice none 0 0)] 61 w_500 fun s23_503 w_504 =>
          St 6 w_504 s23_503 t115_501 fun u_505 w_506 =>
          Pu (faV 1 (pv x20)) fun t119_507 =>
          Ld w_506 t119_507 fun t120_508 w_509 =>
          Pu (faV 2 (pv x20)) fun t121_510 =>
          Ld w_509 t121_510 fun t122_511 w_512 =>
          Cl Tryz.prog 50 [pv pr, t120_508, t122_511] w_512 fun t123_513 w_514 =>
          Pu (extV t123_513 0) fun t124_515 =>
          Pu (extV t123_513 1) fun t125_516 =>
          New #[(Value.int IntKind.i64 0), (Value.int IntKind.i64 0), (Value.int IntKind.i64 0), (Value.int IntKind.i64 0), (Value.string (ByteArray.mk #[])), (Value.slice none 0 0)] 61 w_514 fun t25_517 w_518 =>
          St 6 w_518 t25_517 t124_515 fun u_519 w_520 =>
          LdN 6 w_520 s23_503 fun t126_521 w_522 =>
          LdN 6 w_522 t25_517 fun t127_523 w_524 =>
          Cl Tryz.prog 34 [t126_521, t127_523] w_524 fun t128_525 w_526 =>
          Pu (unV .not t128_525) fun t129_527 =>
          IfB t129_527
            (B w_526)
            (∃ (I_528 : List Value → World → Prop) (m_529 : List Value → World → Nat), I_528 [(Value.int IntKind.i64 0)] w_526 ∧
          ∀ (g_544 : Fr) (w_543 : World), ∀ n27_531 : Value, I_528 [n27_531] w_543 →
            (Pu (faV 5 s23_503) fun t131_545 =>
            Ld w_543 t131_545 fun t132_546 w_547 =>
            Pu (lenV t132_546) fun t133_548 =>
            Pu (binV (TypeDesc.int IntKind.i64) .lss n27_531 t133_548) fun t134_549 =>
            IfB t134_549
              (Pu (faV 5 s23_503) fun t137_550 =>
            Ld w_547 t137_550 fun t138_551 w_552 =>
            Pu (ixV 1 t138_551 n27_531) fun t140_553 =>
            St 1 w_552 t140_553 (Value.string (ByteArray.mk #[110, 111])) fun u_554 w_555 =>
            Pu (binV (TypeDesc.int IntKind.i64) .add n27_531 (Value.int IntKind.i64 1)) fun t136_556 =>
            I_528 [t136_556] w_555 ∧ m_529 [t136_556] w_555 < m_529 [n27_531] w_543)
              (J [t116_502, t125_516] w_547))) := by
  have z0 := h.S.fm.size
  have hYlt : ∀ y, Y y → y < w.heap.size := fun y hy => (h.S.ge y hy).2
  have hZlt := h.R.lt
  have hnY : ∀ {y : Nat}, w.heap.size ≤ y → ¬ Y y := fun hy e => by have := hYlt _ e; omega
  have hnZ : ∀ {y : Nat}, w.heap.size ≤ y → ¬ Z y := fun hy e => by have := hZlt _ e; omega
  have h20w := lt_of_heap hO.h
  simp only [RS0, RS1, RS2, RS3, RS4, RS5, hO.c1, hO.c2]
  refine (h.S.fetch o.2.1 o.2.2.1).mono ?_
  rintro _ w1 ⟨u1, rfl, ho1, ⟨Y1, hS1, hG1, hu1⟩, hf1⟩
  have h1 := h.prog hS1 hG1 hf1
  have hO1 := hO.keep hf1 h20.1
  have hY20 := hG1.x h20w h20.1
  obtain ⟨uu, hcu, hou1⟩ := ho1.ex
  have hcu' := pcs_inj hcu
  subst hcu'
  have hul1 := own_lt hou1
  have z1 := hf1.size
  simp only [RS0, RS1, RS2, RS3, RS4, RS5]
  refine New_any ?_
  intro x23 w2 hx23 hs2 hw2 hf2
  refine St_all hw2 rfl rfl (pcs_one (own_one hou1)) ?_
  intro w3 hw3 hs3 hf3
  have hF3 : Fm (fun _ => False) w1 w3 := Fm.own hf2 hf3 (by rintro y rfl; omega)
  have h3 := h1.keep0 hF3
  have hO3 := hO1.keep hF3 (fun e => e)
  have ho3 := own_keep hou1 hF3 (fun _ _ _ _ e => e)
  simp only [RS0, RS1, RS2, RS3, RS4, RS5, hO3.c1, hO3.c2]
  refine (h3.R.fetch o.2.1 o.2.2.1).mono ?_
  rintro _ w4 ⟨u4, rfl, ho4, hst⟩
  obtain ⟨Z4, h4, hG4, hf4⟩ := h3.ref hst
  obtain ⟨e1, k1⟩ := hk.fetch o.2.1 o.2.2.1
  rw [e1] at ho4 ⊢
  have hO4 := hO3.keep hf4 h20.2
  have hx23l := lt_of_heap hw3
  have hw3_4 := hf4.heap hw3 (hnZ (by omega))
  have z3 := hF3.size
  have ho3_4 := own_keep ho3 hf4 (fun y _ _ hy => hnZ (by have := hul1 y hy; omega))
  have z4 := hf4.size
  obtain ⟨uu, hcu4, hou4⟩ := ho4.ex
  have hcu4' := pcs_inj hcu4
  subst hcu4'
  generalize s.fetch o.2.1 o.2.2.1 = r at *
  simp only [RS0, RS1, RS2, RS3, RS4, RS5]
  refine New_any ?_
  intro x25 w5 hx25 hs5 hw5 hf5
  refine St_all hw5 rfl rfl (pcs_one (own_one hou4)) ?_
  intro w6 hw6 hs6 hf6
  have hF6 : Fm (fun _ => False) w4 w6 := Fm.own hf5 hf6 (by rintro y rfl; omega)
  have hw3_6 := hF6.heap hw3_4 (fun e => e)
  have ho3_6 := own_keep ho3_4 hF6 (fun _ _ _ _ e => e)
  have hA : PgAs w6 (pcs r.2.1 u1) r.2.1 := (⟨⟨u1, rfl, ho3_6⟩, ho1.small, ho1.ins⟩ : PgOw w6 w.heap.size (pcs r.2.1 u1) r.2.1).as
  have hB := (ho4.keep hF6).as
  simp only [RS0, RS1, RS2, RS3, RS4, RS5, cellsV_blk hw3_6 (show (pcs r.2.1 u1).size = 6 from rfl), cellsV_blk hw6 (show (pcs r.2.1 u4).size = 6 from rfl)]
  refine (rsame_spec hA hB).mono ?_
  rintro _ w7 ⟨rfl, hf7⟩
  simp only [RS0, RS1, RS2, RS3, RS4, RS5, decide_true, Bool.not_true]
  have hF7 := Fmf hF6 hf7
  have h7 := h4.keep0 hF7
  have hO7 := hO4.keep hF7 (fun e => e)
  have hZ20 := hG4.x (by omega) h20.2
  have hlen := hA.ins.2.2.2.2.2
  have hh := no_loop (K := fun w' => J [iv r.2.2, iv r.2.2] w') (hf7.heap hw3_6 (fun e => e)) (own_keep ho3_6 hf7 (fun _ _ _ _ e => e)) (by omega) (fun w8 hf8 => ?_)
  · simp only [RS0, RS1, RS2, RS3, RS4, RS5] at hh
    exact hh
  refine hJ w8 Y1 Z4 _ _ _ (h7.keep hf8 (fun y hy => ?_)) k1 (hO7.keep hf8 (fun e => ?_)) hY20 hZ20
  · have := hul1 y hy
    exact ⟨hu1 y hy, hG4.x (by omega) (hnZ (by omega)), by omega⟩
  · have := hul1 _ e; omega

end Go.Proofs.YthbngnlmgplijaaGreatDoor

namespace Go.Proofs.YthbngnlmgplijaaGreatDoor
open Go.Al Go.Proofs
set_option linter.unusedVariables false
set_option linter.unusedSimpArgs false
set_option linter.unusedSectionVars false
set_option maxRecDepth 100000

set_option maxHeartbeats 8000000 in
theorem check_part {w0 w : World} {Y Z : Nat → Prop} {pb lb db pr lr dr fr x20 : Nat} {s t : PS} {o : OpP} {u : Value} {a : Int} (h : Bt w0 w Y Z pb lb db pr lr dr fr s t) (hl : Lk s t) (hO : OB w x20 o u) {k : KV} {N : World → Prop}
    (hk : ∀ w', Fm (fun _ => False) w0 w' → k (.bool true) w') (hN : ∀ w', Bt w0 w' Y Z pb lb db pr lr dr fr s t → N w') :
    Pu (binV (TypeDesc.int IntKind.i64) .neq (iv a) (iv a)) fun t226_410 =>
        IfB t226_410
          (k (Value.bool false) w)
          (Pu (nilV (pv dr)) fun t228_411 =>
        Pu (faV 4 t228_411) fun t229_412 =>
        Ld w t229_412 fun t230_413 w_414 =>
        IfB t230_413
          (Cl Tryz.prog 58 [pv db] w_414 fun t232_415 w_416 =>
            Gd (isB true t232_415) (fun kk => Cl Tryz.prog 35 [] w_416 kk) w_416 fun t234_417 w_418 =>
            Pu (pickV t232_415 t234_417 (Value.bool false)) fun t235_419 =>
            k t235_419 w_418)
          (Cl Tryz.prog 40 [pv db, (Value.int IntKind.i64 0), (Value.int IntKind.i64 2000)] w_414 fun t238_420 w_421 =>
        Pu (extV t238_420 0) fun t239_422 =>
        Pu (extV t238_420 1) fun t240_423 =>
        Cl Tryz.prog 59 [pv dr, (Value.int IntKind.i64 0), (Value.int IntKind.i64 2000)] w_421 fun t243_424 w_425 =>
        Pu (extV t243_424 0) fun t244_426 =>
        Pu (extV t243_424 1) fun t245_427 =>
        ∃ C_428 : World → Prop, C_428 (World.drew w_425) ∧
        (Pu (binV TypeDesc.string .neq t239_422 t244_426) fun t248_429 =>
        Gd (isB false t248_429) (fun kk => kk (pv pb) (World.drew w_425)) (World.drew w_425) fun t250_430 w_431 =>
        Gd (isB false t248_429) (fun kk => kk (pv pr) w_431) w_431 fun t252_432 w_433 =>
        Gd (isB false t248_429) (fun kk => Cl Tryz.prog 44 [t250_430] w_433 kk) w_433 fun t251_434 w_435 =>
        C_428 w_435 ∧
        (Gd (isB false t248_429) (fun kk => Cl Tryz.prog 61 [t252_432] w_435 kk) w_435 fun t253_436 w_437 =>
        C_428 w_437 ∧
        (Gd (isB false t248_429) (fun kk => Cl Tryz.prog 60 [t251_434, t253_436] w_437 kk) w_437 fun t254_438 w_439 =>
        C_428 w_439 ∧
        (Gd (isB false t248_429) (fun kk => Pu (unV .not t254_438) fun vv => kk vv w_439) w_439 fun t255_440 w_441 =>
        Pu (pickV t248_429 (Value.bool true) t255_440) fun t256_442 =>
        Gd (isB false t256_442) (fun kk => kk (pv pb) w_441) w_441 fun t258_443 w_444 =>
        Gd (isB false t256_442) (fun kk => kk (pv pr) w_444) w_444 fun t260_445 w_446 =>
        Gd (isB false t256_442) (fun kk => Cl Tryz.prog 45 [t258_443] w_446 kk) w_446 fun t259_447 w_448 =>
        C_428 w_448 ∧
        (Gd (isB false t256_442) (fun kk => Cl Tryz.prog 63 [t260_445] w_448 kk) w_448 fun t261_449 w_450 =>
        C_428 w_450 ∧
        (Gd (isB false t256_442) (fun kk => Cl Tryz.prog 62 [t259_447, t261_449] w_450 kk) w_450 fun t262_451 w_452 =>
        C_428 w_452 ∧
        (Gd (isB false t256_442) (fun kk => Pu (unV .not t262_451) fun vv => kk vv w_452) w_452 fun t263_453 w_454 =>
        Pu (pickV t256_442 (Value.bool true) t263_453) fun t264_455 =>
        Gd (isB false t264_455) (fun kk => kk (pv pb) w_454) w_454 fun t266_456 w_457 =>
        Gd (isB false t264_455) (fun kk => Pu (faV 1 (pv x20)) fun vv => kk vv w_457) w_457 fun t267_458 w_459 =>
        Gd (isB false t264_455) (fun kk => Ld w_459 t267_458 kk) w_459 fun t268_460 w_461 =>
        w_461 = w_459 ∧
        Gd (isB false t264_455) (fun kk => kk (pv pr) w_459) w_459 fun t270_462 w_463 =>
        Gd (isB false t264_455) (fun kk => Pu (faV 1 (pv x20)) fun vv => kk vv w_463) w_463 fun t271_464 w_465 =>
        ∃ t272_466, (∀ w_467, C_428 w_467 → Gd (isB false t264_455) (fun kk => Ld w_467 t271_464 kk) w_467 fun t272_468 w_469 =>
        t272_468 = t272_466 ∧ w_469 = w_467) ∧
        (Gd (isB false t264_455) (fun kk => Cl Tryz.prog 43 [t266_456, t268_460] w_465 kk) w_465 fun t269_470 w_471 =>
        C_428 w_471 ∧
        (Gd (isB false t264_455) (fun kk => Cl Tryz.prog 64 [t270_462, t272_466] w_471 kk) w_471 fun t273_472 w_473 =>
        Gd (isB false t264_455) (fun kk => Pu (binV TypeDesc.bool .neq t269_470 t273_472) fun vv => kk vv w_473) w_473 fun t274_474 w_475 =>
        Pu (pickV t264_455 (Value.bool true) t274_474) fun t275_476 =>
        Gd (isB false t275_476) (fun kk => kk (pv lb) w_475) w_475 fun t277_477 w_478 =>
        Gd (isB false t275_476) (fun kk => kk (pv lr) w_478) w_478 fun t279_479 w_480 =>
        Gd (isB false t275_476) (fun kk => Cl Tryz.prog 27 [t277_477] w_480 kk) w_480 fun t278_481 w_482 =>
        Gd (isB false t275_476) (fun kk => Cl Tryz.prog 65 [t279_479] w_482 kk) w_482 fun t280_483 w_484 =>
        Gd (isB false t275_476) (fun kk => Pu (binV (TypeDesc.int IntKind.i64) .neq t278_481 t280_483) fun vv => kk vv w_484) w_484 fun t281_485 w_486 =>
        Pu (pickV t275_476 (Value.bool true) t281_485) fun t282_487 =>
        IfB t282_487
          (k (Value.bool false) w_486)
          (N w_486)))))))))))) := by
  obtain ⟨el, ed, ef, eg⟩ := hl.l
  have hgo := h.R.gone
  rw [ed] at hgo
  simp only [RS0, RS1, RS2, RS3, RS4, RS5, bne_self_eq_false, hgo]
  cases hg : s.d.gone with
  | true =>
    simp only [RS0, RS1, RS2, RS3, RS4, RS5]
    refine h.S.dead.mono ?_
    rintro _ w1 ⟨rfl, rfl⟩
    rw [hg]
    simp only [RS0, RS1, RS2, RS3, RS4, RS5]
    refine (paw_spec w1).mono ?_
    rintro _ w2 ⟨rfl, hf2⟩
    exact hk _ (Fmf h.S.fm hf2)
  | false =>
  simp only [RS0, RS1, RS2, RS3, RS4, RS5]
  refine (h.S.dread 0 2000).mono ?_
  rintro _ w1 ⟨rfl, rfl⟩
  simp only [RS0, RS1, RS2, RS3, RS4, RS5]
  refine (h.R.dread 0 2000).mono ?_
  rintro _ w2 ⟨rfl, hf2⟩
  rw [ed]
  have hfd := Fm.drew (fun _ => False) w2
  have hFd := Fmf hf2 hfd
  have hd := h.keep0 hFd
  have hOd := hO.keep hFd (fun e => e)
  generalize w2.drew = wd at hfd hFd hd hOd
  simp only [RS0, RS1, RS2, RS3, RS4, RS5]
  refine ⟨fun w' => Fm (fun _ => False) wd w', Fm.refl _ _, ?_⟩
  obtain ⟨hinc, hrng⟩ := h.R.tbl
  simp only [RS0, RS1, RS2, RS3, RS4, RS5, str_inj, decide_true, Bool.not_true]
  refine (hd.S.dirty (D := t.p.owed) eg hinc hrng).mono ?_
  rintro va w3 ⟨hoa, hf3⟩
  have h3 := hd.keep0 hf3
  refine ⟨hf3, ?_⟩
  refine h3.R.dirty.mono ?_
  rintro vb w4 ⟨hob, hf4⟩
  have hF4 := Fmf hf3 hf4
  refine ⟨hF4, ?_⟩
  refine (owed_same (CellsAt.of_own (own_keep hoa hf4 (fun _ _ _ _ e => e))) (CellsAt.of_own hob)).mono ?_
  rintro _ w5 ⟨rfl, hf5⟩
  have hF5 := Fmf hF4 hf5
  refine ⟨hF5, ?_⟩
  have h5 := hd.keep0 hF5
  simp only [RS0, RS1, RS2, RS3, RS4, RS5, Bool.not_true]
  refine h5.S.held.mono ?_
  rintro va w6 ⟨hoa6, hf6⟩
  have hF6 := Fmf hF5 hf6
  refine ⟨hF6, ?_⟩
  refine (hd.keep0 hF6).R.held.mono ?_
  rintro vb w7 ⟨hob7, hf7⟩
  have hF7 := Fmf hF6 hf7
  refine ⟨hF7, ?_⟩
  rw [ef] at hob7
  have hlenm : (s.p.fr.map fun f => iv f.num).length = s.p.fr.length := List.length_map ..
  refine (sameints_same (A := s.p.fr.map fun f => iv f.num) (fun x hx => by obtain ⟨f, _, rfl⟩ := List.mem_map.1 hx; exact ⟨_, rfl⟩) (by rw [hlenm]; exact CellsAt.of_own (own_keep hoa6 hf7 (fun _ _ _ _ e => e))) (by rw [hlenm]; exact CellsAt.of_own hob7)).mono ?_
  rintro _ w8 ⟨rfl, hf8⟩
  have hF8 := Fmf hF7 hf8
  refine ⟨hF8, ?_⟩
  have h8 := hd.keep0 hF8
  have hO8 := hOd.keep hF8 (fun e => e)
  simp only [RS0, RS1, RS2, RS3, RS4, RS5, Bool.not_true, hO8.c1, true_and]
  refine ⟨iv o.2.1, fun w' h' => ?_, ?_⟩
  · simp only [RS0, RS1, RS2, RS3, RS4, RS5, (hOd.keep h' (fun e => e)).c1] <;> trivial
  refine (h8.S.owes o.2.1).mono ?_
  rintro _ w8 ⟨rfl, rfl⟩
  refine ⟨hF8, ?_⟩
  refine (h8.R.owes o.2.1).mono ?_
  rintro _ w8 ⟨rfl, rfl⟩
  rw [← eg o.2.1]
  simp only [RS0, RS1, RS2, RS3, RS4, RS5, bne_self_eq_false]
  refine h8.S.flushed.mono ?_
  rintro _ w9 ⟨rfl, hf9⟩
  have h9 := h8.keep0 hf9
  refine h9.R.flushed.mono ?_
  rintro _ w9 ⟨rfl, rfl⟩
  rw [el]
  simp only [RS0, RS1, RS2, RS3, RS4, RS5, bne_self_eq_false]
  exact hN _ h9

end Go.Proofs.YthbngnlmgplijaaGreatDoor

namespace Go.Proofs.YthbngnlmgplijaaGreatDoor
open Go.Al Go.Proofs
set_option linter.unusedVariables false
set_option linter.unusedSimpArgs false
set_option linter.unusedSectionVars false
set_option maxRecDepth 100000

theorem plD_ok : (fmtE (Dk.mk0 2000) ((0 : Nat) : Int) ((30 : Nat) : Int)).2 = 0 := (calm_fmt (calm_mk0 (by omega)) (by omega) (by rw [mk0_len]; omega)).1
set_option maxHeartbeats 32000000 in
theorem pplays_law {w : World} {v : Value} {xs : List OpP} (pages frames : Int) (hv : SliceAs vOpP w v xs) : Cl Tryz.prog 11 [iv pages, iv frames, v] w fun r w' => r = .bool true ∧ Fm (fun _ => False) w w' := by
  have hlx := hv.len
  unfold maxLen at hlx
  have hlv : lenV v = some (iv (xs.length : Int)) := hv.lenV
  refine c11 ?_; unfold T11
  refine (dnew_spec w 2000).mono ?_
  rintro _ w1 ⟨_, h3⟩
  obtain ⟨b, g, m, rfl, hb, hg, hm, hd, hf1⟩ := h3 (by omega)
  clear h3
  have hlt := hd.lt
  change DAt w1 b g m (Dk.mk0 2000) at hd
  simp only [RS0, RS1, RS2, RS3, RS4, RS5]
  refine (rdnew_spec w1 2000).mono ?_
  rintro _ w2 ⟨_, h3⟩
  obtain ⟨dr, q, rfl, hq, hR, hf2⟩ := h3 (by omega)
  clear h3
  change DkAt w2 dr q (Dk.mk0 2000) at hR
  have hRlt := hR.lt
  have z1 := hf1.size
  have z2 := hf2.size
  have hd2 := hd.keep0 hf2
  simp only [RS0, RS1, RS2, RS3, RS4, RS5, bne_refl0]
  refine (wformat_spec hd2 ((0 : Nat) : Int) ((30 : Nat) : Int)).mono ?_
  rintro _ w3 ⟨p, rfl, hd3, hf3, _, h3⟩
  obtain ⟨lb, X, rfl, hL3, hX⟩ := h3 plD_ok
  clear h3
  rw [plD_ok]
  simp only [Int.toNat_natCast] at hL3
  have z3 := hf3.size
  have hR3 := hR.keep hf3 (fun y hy e => by have := hq y hy; rcases e with rfl | rfl | rfl <;> omega)
  have hXlt := hL3.lt
  have hdw : (Dk.mk0 2000).Wf := Dk.wf_mk0 (by omega)
  simp only [RS0, RS1, RS2, RS3, RS4, RS5]
  refine (rlformat_spec hR3 hdw ((0 : Nat) : Int) ((30 : Nat) : Int)).mono ?_
  rintro _ w4 ⟨p, rfl, hR4, hf4, _, h4⟩
  obtain ⟨lr, rfl, hl4, hlr⟩ := h4 plD_ok
  clear h4
  rw [plD_ok]
  simp only [Int.toNat_natCast] at hl4
  have hdw4 : (fmtE (Dk.mk0 2000) ((0 : Nat) : Int) ((30 : Nat) : Int)).1.Wf := hd3.wf
  generalize (fmtE (Dk.mk0 2000) ((0 : Nat) : Int) ((30 : Nat) : Int)).1 = d0 at hd3 hR4 hdw4
  have z4 := hf4.size
  have hqno : ∀ y, q.mine dr y → w1.heap.size ≤ y ∧ y < w2.heap.size := fun y hy => ⟨hq y hy, hRlt y hy⟩
  have hd4 := hd3.keep hf4 (fun e => by have := hqno _ e; omega) (fun e => by have := hqno _ e; omega) (fun e => by have := hqno _ e; omega)
  have hL4 := hL3.keep hf4 (fun y hy e => by have := hqno _ e; have := hX y hy; omega)
  have hlrl := lt_of_heap hl4.st
  have hF4 : Fm (fun _ => False) w w4 := Fm.own (Fm.own (Fmf hf1 hf2) hf3 (by rintro y (rfl | rfl | rfl) <;> omega)) hf4 (fun y hy => by have := hqno y hy; omega)
  simp only [RS0, RS1, RS2, RS3, RS4, RS5]
  refine (pnew_spec hd4 lb ((30 : Nat) : Int) pages frames (by unfold In; omega)).mono ?_
  rintro _ w5 ⟨hf5, hc⟩
  have hR5 := hR4.keep0 hf5
  have hl5 := hl4.keep0 hf5
  have hF5 := Fmf hF4 hf5
  have z5 := hf5.size
  rcases hc with ⟨ebad, rfl⟩ | ⟨eok, pb, fb, ob, Xp, F, rfl, hP, hwf, hXp⟩
  · simp only [RS0, RS1, RS2, RS3, RS4, RS5]
    refine (rpnew_spec hR5 hdw4 lr ((30 : Nat) : Int) pages frames (by unfold In; omega)).mono ?_
    rintro _ w6 ⟨hf6, hc⟩
    rcases hc with ⟨_, rfl⟩ | ⟨e, _⟩
    · simp only [RS0, RS1, RS2, RS3, RS4, RS5, bne_self_eq_false, show ((1 : Int) == 0) = false from rfl, show ((1 : Int) != 0) = true from rfl]
      refine (paw_spec w6).mono ?_
      rintro _ w7 ⟨rfl, hf7⟩
      exact ⟨(by trivial), Fmf hF5 (Fmf hf6 hf7)⟩
    · rw [ebad] at e; cases e
  simp only [RS0, RS1, RS2, RS3, RS4, RS5]
  refine (rpnew_spec hR5 hdw4 lr ((30 : Nat) : Int) pages frames (by unfold In; omega)).mono ?_
  rintro _ w6 ⟨hf6, hc⟩
  rcases hc with ⟨e, _⟩ | ⟨_, pr, fr, cap, Fr, ys, rfl, hRP, hpr, hfr⟩
  · rw [eok] at e; cases e
  have hS := (Sys.made2 (w0 := w) (w1 := w2) hd4 ⟨⟨hb, hg, hm⟩, by omega, by omega, by omega⟩ hL4 (fun y hy => hX y hy) (by omega) hf5 hP hXp hwf hF5).keep0 hf6
  have hI : RSI w6 (fun _ => False) 0 pr lr dr fr cap q nlv nlv Fr ys ⟨newP ((30 : Nat) : Int) pages frames, Lg.new 0 30, d0⟩ :=
    ⟨hR5.keep0 hf6, hdw4, ⟨(hl5.keep0 hf6).wf, (hl5.keep0 hf6).inc, (hl5.keep0 hf6).st, own_base (hl5.keep0 hf6).row (Nat.zero_le _)⟩, hRP, fun y hy => hy.elim, Nat.zero_le _⟩
  have hRS : RS w6 (RSf (fun _ => False) pr lr dr fr q nlv nlv) pr lr dr fr ⟨newP ((30 : Nat) : Int) pages frames, Lg.new 0 30, d0⟩ := ⟨_, _, _, _, _, _, _, _, hI, fun y hy => hy, hI.lt⟩
  have hXplt := hP.lt
  have hB : Bt w w6 (SY X Xp b g m) (RSf (fun _ => False) pr lr dr fr q nlv nlv) pb lb b pr lr dr fr ⟨newP ((30 : Nat) : Int) pages frames, Lg.new 0 30, d0⟩ ⟨newP ((30 : Nat) : Int) pages frames, Lg.new 0 30, d0⟩ := by
    have hZ : ∀ y, RSf (fun _ => False) pr lr dr fr q nlv nlv y → (w1.heap.size ≤ y ∧ y < w2.heap.size) ∨ (w3.heap.size ≤ y ∧ y < w4.heap.size) ∨ w5.heap.size ≤ y := by
      rintro y (e | e | e | e)
      · exact .inl (hqno y e)
      · rcases e with rfl | e
        · exact .inr (.inl ⟨hlr, hlrl⟩)
        · cases e
      · rcases e with rfl | rfl | e
        · exact .inr (.inr hpr)
        · exact .inr (.inr hfr)
        · cases e
      · exact e.elim
    refine ⟨hS, hRS, fun y hy => ?_, fun y hy e => ?_⟩
    · rcases hZ y hy with e | e | e <;> omega
    · have hz := hZ y e
      rcases hy with e | e | rfl | rfl | rfl
      · have := hX y e; have := hXlt y e; omega
      · have := hXp y e; have := hXplt y e; omega
      · omega
      · omega
      · omega
  have hLk := Lk.refl ⟨newP ((30 : Nat) : Int) pages frames, Lg.new 0 30, d0⟩
  generalize (⟨newP ((30 : Nat) : Int) pages frames, Lg.new 0 30, d0⟩ : PS) = s0 at hB hLk
  generalize SY X Xp b g m = Y0 at hB
  generalize RSf (fun _ => False) pr lr dr fr q nlv nlv = Z0 at hB
  simp only [RS0, RS1, RS2, RS3, RS4, RS5, bne_self_eq_false, show ((0 : Int) == 0) = true from rfl]
  refine ⟨fun vs w' => ∃ (i : Nat) (Y Z : Nat → Prop) (s t : PS), vs = [iv (i : Int)] ∧ i ≤ xs.length ∧ Bt w w' Y Z pb lb b pr lr dr fr s t ∧ Lk s t, fun vs _ => (xs.length - nth vs 0).toNat, ⟨0, Y0, Z0, s0, s0, rfl, by omega, hB, hLk⟩, ?_⟩
  clear hB hLk hRS hI hS hRP hP hl5 hR5 hR4 hl4 hd4 hL4 hd3 hL3 hR3 hR hd hd2 hXp hXplt hX hXlt hq hqno hRlt hF4 hF5 hf1 hf2 hf3 hf4 hf5 hf6 hwf hdw hdw4 hb hg hm hlt z1 z2 z3 z4 z5 hlr hlrl hpr hfr
  rintro _ w6 ivv ⟨i, Y, Z, s, t, hvs, hi, hB, hLk⟩
  cases hvs
  by_cases hl : i < xs.length
  rotate_left
  · have d1 : decide ((i : Int) < (xs.length : Int)) = false := by rw [decide_eq_false_iff_not]; omega
    simp only [RS0, RS1, RS2, RS3, RS4, RS5, hlv, d1]
    refine (paw_spec w6).mono ?_
    rintro _ w8 ⟨rfl, hf8⟩
    exact ⟨(by trivial), Fmf hB.S.fm hf8⟩
  have d1 : decide ((i : Int) < (xs.length : Int)) = true := by rw [decide_eq_true_eq]; omega
  have ei : IntKind.i64.wrap ((i : Int) + 1) = ((i + 1 : Nat) : Int) := by rw [wrap_id] <;> omega
  have hx : xs[i]? = some xs[i] := List.getElem?_eq_getElem hl
  generalize xs[i] = o at hx
  obtain ⟨ad, u, hix, hcv, hIn, ho1, ho2, ho3⟩ := opP_ld hv hx
  have hu1 := hIn.isA.u1
  have hcv7 := cellsV_keep hcv hB.S.fm (fun e => e)
  simp only [RS0, RS1, RS2, RS3, RS4, RS5, hlv, d1, hix, hcv7]
  refine New_any ?_
  intro x20 w8 hx20 hs8 hw8 hf8
  refine St_all hw8 rfl rfl (opc_one hu1) ?_
  intro w9 hw9 hs9 hf9
  have hF9 : Fm (fun _ => False) w6 w9 := Fm.own hf8 hf9 (by rintro y rfl; omega)
  have hB9 := hB.keep0 hF9
  have hO9 : OB w9 x20 o u := ⟨hw9⟩
  have hZlt := hB.R.lt
  have hn9 : ¬ Y x20 ∧ ¬ Z x20 := ⟨fun e => by have := (hB.S.ge _ e).2; omega, fun e => by have := hZlt _ e; omega⟩
  have z6 := hB.S.fm.size
  have h20w : w.heap.size ≤ x20 := by omega
  refine Jn_at (fun vs w' => ∃ (a : Int) (Y Z : Nat → Prop) (s t : PS), vs = [iv a, iv a] ∧ Bt w w' Y Z pb lb b pr lr dr fr s t ∧ Lk s t ∧ OB w' x20 o u ∧ ¬ Y x20 ∧ ¬ Z x20) ?_ ?_
  · rintro _ w10 ⟨a, Y', Z', s', t', rfl, hB', hLk', hO', _, _⟩ _
    refine ⟨_, _, rfl, ?_⟩
    simp only [RS0, RS1, RS2, RS3, RS4, RS5]
    have hh := check_part (a := a) hB' hLk' hO' (k := fun r w' => r = .bool true ∧ Fm (fun _ => False) w w') (N := fun w' => Pu (binV (TypeDesc.int IntKind.i64) .add (iv (i : Int)) (Value.int IntKind.i64 1)) fun t99_488 => (∃ (i : Nat) (Y Z : Nat → Prop) (s t : PS), [t99_488] = [iv (i : Int)] ∧ i ≤ xs.length ∧ Bt w w' Y Z pb lb b pr lr dr fr s t ∧ Lk s t) ∧ ((xs.length : Int) - nth [t99_488] 0).toNat < ((xs.length : Int) - nth [iv (i : Int)] 0).toNat) (fun w' hf => ⟨rfl, hf⟩) (fun w' h' => by
      simp only [RS0, RS1, RS2, RS3, RS4, RS5, ei]
      exact ⟨⟨i + 1, Y', Z', s', t', rfl, by omega, h', hLk'⟩, by simp only [nth_0]; omega⟩)
    simp only [RS0, RS1, RS2, RS3, RS4, RS5] at hh
    exact hh
  · intro jj hjj
    have hJ : ∀ w' Y' Z' s' t' (a : Int), Bt w w' Y' Z' pb lb b pr lr dr fr s' t' → Lk s' t' → OB w' x20 o u → ¬ Y' x20 → ¬ Z' x20 → jj [iv a, iv a] w' := fun w' Y' Z' s' t' a h1 h2 h3 h4 h5 => hjj _ _ ⟨a, Y', Z', s', t', rfl, h1, h2, h3, h4, h5⟩
    simp only [RS0, RS1, RS2, RS3, RS4, RS5, hO9.c0, beq_dec]
    cases q0 : decide (o.1 = 0) with
    | true =>
      simp only [RS0, RS1, RS2, RS3, RS4, RS5]
      have hh := fetch_part (J := jj) (B := fun w' => Value.bool false = Value.bool true ∧ Fm (fun _ => False) w w') hB9 hLk hO9 hn9 hJ
      simp only [RS0, RS1, RS2, RS3, RS4, RS5] at hh
      exact hh
    | false =>
    simp only [RS0, RS1, RS2, RS3, RS4, RS5]
    refine Jn_at (fun vs w' => vs = [Value.bool (decide (o.1 = 1) || decide (o.1 = 5))] ∧ w' = w9) ?_ ?_
    rotate_left
    · intro kk hkk
      try simp only [RS0, RS1, RS2, RS3, RS4, RS5]
      cases q1 : decide (o.1 = 1) with
      | true =>
        simp only [RS0, RS1, RS2, RS3, RS4, RS5]
        exact hkk _ _ ⟨by rw [q1]; rfl, rfl⟩
      | false =>
        try simp only [RS0, RS1, RS2, RS3, RS4, RS5]
        exact hkk _ _ ⟨by rw [q1]; rfl, rfl⟩
    rintro _ w9 ⟨rfl, rfl⟩ _
    refine ⟨_, rfl, ?_⟩
    cases q15 : decide (o.1 = 1) || decide (o.1 = 5) with
    | true =>
      simp only [RS0, RS1, RS2, RS3, RS4, RS5, hO9.body]
      refine New_any ?_
      intro x28 w10 hx28 hs10 hw10 hf10
      refine St_all hw10 rfl rfl (pcs_one hu1) ?_
      intro w11 hw11 hs11 hf11
      have hF11 : Fm (fun _ => False) w9 w11 := Fm.own hf10 hf11 (by rintro y rfl; omega)
      have hB11 := hB9.keep0 hF11
      have hO11 := hO9.keep hF11 (fun e => e)
      have hx9 := lt_of_heap hO9.h
      have hZlt9 := hB9.R.lt
      have h28 : ¬ Y x28 ∧ ¬ Z x28 := ⟨fun e => by have := (hB9.S.ge _ e).2; omega, fun e => by have := hZlt9 _ e; omega⟩
      have h2028 : x20 ≠ x28 := by omega
      have hz9 := hB9.S.fm.size
      have h28w : w.heap.size ≤ x28 := by omega
      refine Jn_at (fun vs w' => vs = [] ∧ ∃ (Y Z : Nat → Prop) (s t : PS) (bb : Pg), Bt w w' Y Z pb lb b pr lr dr fr s t ∧ Lk s t ∧ OB w' x20 o u ∧ (¬ Y x20 ∧ ¬ Z x20) ∧ w'.heap[x28]? = some (.cells (pcs bb u) 61) ∧ (¬ Y x28 ∧ ¬ Z x28) ∧ PgAs w (pcs bb u) bb ∧ bb.items = (opB o).items) ?_ ?_
      · rintro _ w12 ⟨rfl, Y', Z', s', t', bb, h1, h2, h3, h4, h5, h6, h7, h8⟩ _
        refine ⟨rfl, ?_⟩
        have hh := set_part (J := jj) h1 h2 h3 h4 h5 ⟨h6.1, h6.2, h28w⟩ h2028 h7 (by rw [h8]; exact hIn.many) hJ
        simp only [RS0, RS1, RS2, RS3, RS4, RS5] at hh
        try simp only [RS0, RS1, RS2, RS3, RS4, RS5]
        exact hh
      · intro kk hkk
        cases q1 : decide (o.1 = 1) with
        | false =>
          simp only [RS0, RS1, RS2, RS3, RS4, RS5, hO11.c0, beq_dec, q1]
          exact hkk _ _ ⟨rfl, Y, Z, s, t, opB o, hB11, hLk, hO11, hn9, hw11, h28, hIn.isA, rfl⟩
        | true =>
          simp only [RS0, RS1, RS2, RS3, RS4, RS5, hO11.c0, beq_dec, q1]
          refine (note_spec w11).mono ?_
          rintro _ w12 ⟨rfl, hf12⟩
          have hB12 := hB11.keep0 hf12
          refine (hB12.S.append (r := nt) (fun w' _ => nt_as w')).mono ?_
          rintro _ w13 ⟨rfl, ⟨Y3, hS3, hG3⟩, hf13⟩
          have hB13 := hB12.prog hS3 hG3 hf13
          have hO12 := hO11.keep hf12 (fun e => e)
          have hO13 := hO12.keep hf13 hn9.1
          have hw12 := hf12.heap hw11 (fun e => e)
          have hw13 := hf13.heap hw12 h28.1
          have hl12 := lt_of_heap hw12
          have hx12 := lt_of_heap hO12.h
          have hz13 := hf13.size
          simp only [RS0, RS1, RS2, RS3, RS4, RS5]
          refine (note_spec w13).mono ?_
          rintro _ w14 ⟨rfl, hf14⟩
          have hB14 := hB13.keep0 hf14
          have hz14 := hf14.size
          refine (hB14.R.append (r := nt) (nt_as w14)).mono ?_
          rintro _ w15 ⟨rfl, hst⟩
          obtain ⟨Z5, hB15, hG5, hf15⟩ := hB14.ref hst
          obtain ⟨el, ed, _, _⟩ := hLk.l
          rw [el, ed] at hB15
          have hO15 := (hO13.keep hf14 (fun e => e)).keep hf15 hn9.2
          have hw15 := hf15.heap (hf14.heap hw13 (fun e => e)) h28.2
          have hz15 := hf15.size
          obtain ⟨hat1, _⟩ := nt_at hB12.S.lwf
          generalize (s.l.append nt).2.1 = a1 at hat1
          simp only [RS0, RS1, RS2, RS3, RS4, RS5, fold_max2]
          refine St_blk hw15 (by show 0 < 6; decide) rfl ?_
          intro w16 hw16 hs16 hf16
          rw [pcs_at] at hw16
          have hy20 := hG3.x hx12 hn9.1
          have hy28 := hG3.x hl12 h28.1
          have hz20 := hG5.x (by omega) hn9.2
          have hz28 := hG5.x (by omega) h28.2
          refine hkk _ _ ⟨rfl, Y3, Z5, _, _, atP (opB o) (max a1 1), hB15.keep hf16 (by rintro y rfl; exact ⟨hy28, hz28, h28w⟩), hLk.ld _ _, hO15.keep hf16 (fun e => h2028 e), ⟨hy20, hz20⟩, hw16, ⟨hy28, hz28⟩, hIn.isA.atP (by unfold In at hat1 ⊢; omega), rfl⟩
    | false =>
      rw [Bool.or_eq_false_iff] at q15
      try simp only [RS0, RS1, RS2, RS3, RS4, RS5]
      cases q2 : decide (o.1 = 2) with
      | true =>
        simp only [RS0, RS1, RS2, RS3, RS4, RS5, hO9.c1]
        refine (hB9.S.write o.2.1).mono ?_
        rintro _ w11 ⟨rfl, ⟨Y1, hS1, hG1⟩, hf1⟩
        have h1 := hB9.prog hS1 hG1 hf1
        have hO1 := hO9.keep hf1 hn9.1
        have hx9 := lt_of_heap hO9.h
        have hz := hf1.size
        simp only [RS0, RS1, RS2, RS3, RS4, RS5, hO1.c1]
        refine (h1.R.write o.2.1).mono ?_
        rintro _ w12 ⟨rfl, hst⟩
        obtain ⟨Z2, h2, hG2, hf2⟩ := h1.ref hst
        obtain ⟨e1, k1⟩ := hLk.write o.2.1
        rw [e1]
        exact hJ _ _ _ _ _ _ h2 k1 (hO1.keep hf2 hn9.2) (hG1.x hx9 hn9.1) (hG2.x (by omega) hn9.2)
      | false =>
      cases q3 : decide (o.1 = 3) with
      | true =>
        try simp only [RS0, RS1, RS2, RS3, RS4, RS5]
        refine hB9.S.dsync.mono ?_
        rintro _ w11 ⟨rfl, ⟨Y1, hS1, hG1⟩, hf1⟩
        have h1 := hB9.prog hS1 hG1 hf1
        have hO1 := hO9.keep hf1 hn9.1
        have hx9 := lt_of_heap hO9.h
        have hz1 := hf1.size
        have hy1 := hG1.x hx9 hn9.1
        refine h1.R.dsync.mono ?_
        rintro _ w12 ⟨rfl, hst⟩
        obtain ⟨Z2, h2, hG2, hf2⟩ := h1.ref hst
        have hO2 := hO1.keep hf2 hn9.2
        have hz2 := hf2.size
        have hy2 := hG2.x (by omega) hn9.2
        obtain ⟨el, ed, _, _⟩ := hLk.l
        rw [ed, el] at h2
        rw [ed]
        refine h2.S.synced.mono ?_
        rintro _ w13 ⟨⟨Y3, hS3, hG3⟩, hf3⟩
        have h3 := h2.prog hS3 hG3 hf3
        have hO3 := hO2.keep hf3 hy1
        have hz3 := hf3.size
        refine h3.R.synced.mono ?_
        rintro _ w14 hst4
        obtain ⟨Z4, h4, hG4, hf4⟩ := h3.ref hst4
        exact hJ _ _ _ _ _ _ h4 (hLk.synced _ _) (hO3.keep hf4 hy2) (hG3.x (by omega) hy1) (hG4.x (by omega) hy2)
      | false =>
      cases q4 : decide (o.1 = 4) with
      | true =>
        simp only [RS0, RS1, RS2, RS3, RS4, RS5, hO9.c2]
        refine (hB9.S.arm (a := o.2.2.1) ho3.2).mono ?_
        rintro _ w11 ⟨rfl, ⟨Y1, hS1, hG1⟩, hf1⟩
        have h1 := hB9.prog hS1 hG1 hf1
        have hO1 := hO9.keep hf1 hn9.1
        have hx9 := lt_of_heap hO9.h
        have hz1 := hf1.size
        simp only [RS0, RS1, RS2, RS3, RS4, RS5, hO1.c2]
        refine (h1.R.arm (a := o.2.2.1) ho3.2).mono ?_
        rintro _ w12 ⟨rfl, hst⟩
        obtain ⟨Z2, h2, hG2, hf2⟩ := h1.ref hst
        obtain ⟨el, ed, _, _⟩ := hLk.l
        rw [ed, el] at h2
        rw [ed]
        exact hJ _ _ _ _ _ _ h2 (hLk.ld _ _) (hO1.keep hf2 hn9.2) (hG1.x hx9 hn9.1) (hG2.x (by omega) hn9.2)
      | false =>
        try simp only [RS0, RS1, RS2, RS3, RS4, RS5]
        exact hJ _ _ _ _ _ _ hB9 hLk hO9 hn9.1 hn9.2

end Go.Proofs.YthbngnlmgplijaaGreatDoor

namespace Go.Al
set_option linter.unusedVariables false
set_option linter.unusedSimpArgs false
set_option linter.unusedSectionVars false
open Go.ChangeShapes Go.WideShapes Go.ChangeAt Go.RowKit

theorem law_laid {H : Type} {enc : TypeId × Value → H} {C : Checked} {os : Os} {f : FuncId} {fn : Func} {s : ChangeSpec} {conds : List PathCond} {tb : TypeId} {X : World → Array Value → Prop} (hX : ∀ (w w' : World) (args : Array Value), w.heap = w'.heap → X w args → X w' args)
    (own : ownKnob C.prog.godebug = none) (started : os.Started) (noInit : C.prog.inits.idxOf? f = none) (hfn : C.prog.funcs[f]? = some fn)
    (hlaid : laidOutB C.prog = true)
    (witness : ∃ (w : World) (tape : Tape) (i : Input), w.os = os ∧ (w.forCall tape i).Shaped C.prog ∧ i.vars = [] ∧ Input.okWide C.prog (w.forCall tape i) .any w.heap.size f i ∧
      ((s.pre enc C.prog fn conds false (w.forCall tape i).memory i.args ∧ X (w.forCall tape i).memory i.args) ∧ sizedMet enc C.prog fn (OpenSpec.ofChange s) false (w.forCall tape i).memory i.args) ∧ ({} : Assume).holds C.prog (lone (Frame.enter C.prog f i.args .normal) [] (w.forCall tape i)))
    (hres : fn.resultTypes = #[tb]) (hbool : C.prog.underlying tb = some .bool) (hvars : s.vars = [])
    (hrow : ∀ t ∈ fn.params.toList, C.prog.readableRec t = true ∧ t < C.prog.types.size)
    (hs : ∀ ds : List (DataW H), ds.length = fn.params.toList.length → s.fn H ds = { results := [.lit (.bool true)], args := ds, vars := [] })
    (law : ∀ (W : World) (args : List Value) (ds : List (DataW H)) (p : List MemPlace), LawIn enc C.prog fn.params.toList W args ds p → Cl C.prog f args W fun v w' => v = .bool true ∧ Fm (fun _ => False) W w') :
    ReturnsInHanded {} C os f .any (fun w args => (s.pre enc C.prog fn conds false w args ∧ X w args) ∧ sizedMet enc C.prog fn (OpenSpec.ofChange s) false w args) (s.post enc C.prog fn false true false false) := by
  refine returnsInHanded_of_change_and (X := X) hX own started noInit hfn witness ?_
  intro W base args ds gs before hval hW hcnd hsz _ _
  have hW' := hW
  obtain ⟨p, q, hA, hV, rfl, hfz, hnd⟩ := hW
  rw [hvars] at hV
  obtain ⟨rfl, rfl⟩ := trodVars_none hV
  have hty : s.plain.varTypes C.prog = [] := by simp [DataSpec.varTypes, ChangeSpec.plain, hvars]
  simp only [hty, List.append_nil] at hsz
  have hlt : ∀ x ∈ p, x.block < W.heap.size := fun x hx => hW'.lt x (by simp [hx])
  have hlen := (trodAll_length hA).2
  refine (cl_true (law W args.toList ds p ⟨hA, ⟨base, fun j t v hj hv => hval j t v (by simpa using hj) (by simpa using hv)⟩, hsz, hlt⟩)).mono fun e W' ⟨he, hb⟩ => ?_
  subst he
  refine ⟨_, rfl, ds, [], p ++ [], [], p, [], hW', ?_, ?_, ?_, hb.frame _, fun h => by cases h⟩
  · rw [List.append_nil, hs ds hlen, hres]
    exact trodAll_cons_mk (shut_bool hbool _) trodAll_mk0
  · rw [List.append_nil, hs ds hlen]
    exact trodAll_below hlaid hb hrow hA hlt
  · rw [List.append_nil, hs ds hlen, hvars]; trivial

end Go.Al
