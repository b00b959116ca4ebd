/- A log of records, plainly: what is appended, kept, flushed, given up. Records that an object keeps: they stand while nobody writes their blocks. A log in the heap; what its small functions tell. A record with lists of its own; a record is appended. A block's sector; a log's bytes of a block. A log is flushed; a log is laid. -/
import Derived.Test.YthbngnlmgplijaaGreatDoorRcDecS
import Derived.Test.YthbngnlmgplijaaGreatDoorDiskPure
import Derived.Test.YthbngnlmgplijaaGreatDoorAlKp
import Derived.Test.YthbngnlmgplijaaGreatDoorDisk2
import Derived.Test.YthbngnlmgplijaaGreatDoorCpsW
namespace Go.Proofs.YthbngnlmgplijaaGreatDoor
open Go.Al Go.Proofs
set_option linter.unusedVariables false
set_option linter.unusedSimpArgs false
set_option linter.unusedSectionVars false
set_option maxRecDepth 100000

structure Lg where
  frm : Nat
  n : Nat
  base : Nat
  kept : Bs
  start : Nat
  last : Nat
  res : Int
  recs : List (Int × Rc)

def blkN (k : Nat) : Bs := beN 4 ((k + 1) % 4294967296)
def sealB (k : Nat) (b : Bs) : Bs := blkN k ++ ([UInt8.ofNat b.length] ++ (b ++ (zeros (54 - b.length) ++ ([UInt8.ofNat b.length] ++ blkN k))))
def opened (s : Bs) (k : Nat) : Bs := bif decide (s.take 4 = blkN k) && decide (s.drop 60 = blkN k) then (s.drop 5).take (min (min (s.getD 4 0).toNat (s.getD 59 0).toNat) 54) else []
def atR (r : Rc) (k : Nat) : Rc := { r with lsn := (k : Int) }

namespace Lg
def tail (L : Lg) : Nat := L.base + L.kept.length
def room (L : Lg) : Int := 54 * ((L.n : Int) - 2) - ((L.tail : Int) - (L.start : Int)) - L.res
def append (L : Lg) (r : Rc) : Lg × Int × Int :=
  bif decide ((rCheck (atR r L.tail)).2 = 0) then
    (bif decide (L.room < ((rEnc (atR r L.tail)).1.length : Int)) then (L, 0, 50)
     else ({ L with kept := L.kept ++ (rEnc (atR r L.tail)).1, recs := setD L.recs (L.tail : Int) (atR r L.tail) }, (L.tail : Int), 0))
  else (L, 0, (rCheck (atR r L.tail)).2)
def reserve (L : Lg) (k : Int) : Lg × Int := bif decide (k < 0) then (L, 1) else bif decide (L.room < k) then (L, 50) else ({ L with res := L.res + k }, 0)
def release (L : Lg) (k : Int) : Lg × Int := bif decide (k < 0) || decide (L.res < k) then (L, 1) else ({ L with res := L.res - k }, 0)
def bytes (L : Lg) (k : Nat) : Bs := (L.kept.drop (k * 54 + 1 - L.base)).take 54
def put (L : Lg) (k : Nat) (d : Dk) : Dk × Int := d.write ((L.frm + k % L.n : Nat) : Int) (sealB k (L.bytes k))
def flushGo (L : Lg) : Nat → Nat → Dk → Dk × Int
  | 0, _, d => (d, 0)
  | f + 1, k, d => bif decide (k * 54 + 1 < L.tail) then (bif decide ((L.put k d).2 = 0) then flushGo L f (k + 1) (L.put k d).1 else L.put k d) else (d, 0)
def flushE (L : Lg) (d : Dk) : Dk × Int := flushGo L (L.kept.length + 1) ((L.last - 1) / 54) d
def flush (L : Lg) (upto : Int) (d : Dk) : Lg × Dk × Int :=
  bif decide (upto < (L.last : Int)) || decide (L.last = L.tail) then (L, d, 0) else
  bif decide ((L.flushE d).2 = 0) then (bif decide ((L.flushE d).1.sync.2 = 0) then ({ L with last := L.tail }, (L.flushE d).1.sync.1, 0) else (L, (L.flushE d).1.sync.1, (L.flushE d).1.sync.2))
  else (L, (L.flushE d).1, (L.flushE d).2)
def baseOf (b : Nat) : Nat := (b - 1) / 54 * 54 + 1
def recycle (L : Lg) (below : Int) : Lg × Int :=
  bif decide (below < (L.start : Int)) || (decide ((L.last : Int) < below) || ((getD L.recs below).isNone && !decide (below = (L.tail : Int)))) then (L, 51)
  else ({ L with start := below.toNat, recs := L.recs.filter (fun p => decide (below ≤ p.1)), kept := L.kept.drop (baseOf below.toNat - L.base), base := baseOf below.toNat }, 0)
def new (frm n : Nat) : Lg := ⟨frm, n, 1, [], 1, 1, 0, []⟩

structure Wf (L : Lg) : Prop where
  n4 : 4 ≤ L.n
  big : L.frm + L.n ≤ 65536
  bs : L.base = baseOf L.start
  st : 1 ≤ L.start ∧ L.start ≤ L.last ∧ L.last ≤ L.tail
  small : L.kept.length ≤ 8000000
  low : L.tail ≤ 9223372036854775807
  hi : L.last < L.tail → L.tail ≤ 4611686018427500000
  res : 0 ≤ L.res ∧ L.res ≤ 4000000
  ok : ∀ p ∈ L.recs, p.2.lsn = p.1 ∧ (rCheck p.2).2 = 0 ∧ (∀ m ∈ p.2.imgs, m.2.lsn ≤ 9223372036854775807) ∧ (L.start : Int) ≤ p.1 ∧ p.1 < (L.tail : Int)

theorem baseOf_le {b : Nat} (h : 1 ≤ b) : 1 ≤ baseOf b ∧ baseOf b ≤ b ∧ b < baseOf b + 54 := by unfold baseOf; omega
theorem wf_new {frm n : Nat} (h1 : 4 ≤ n) (h2 : frm + n ≤ 65536) : (new frm n).Wf where
  n4 := h1
  big := h2
  bs := by simp [new, baseOf]
  st := by simp [new, tail]
  small := by simp [new]
  low := by simp [new, tail]
  hi := by simp [new, tail]
  res := by simp [new]
  ok := by simp [new]
theorem enc_len {r : Rc} (h : (rCheck r).2 = 0) (hl : ∀ m ∈ r.imgs, m.2.lsn ≤ 9223372036854775807) : 18 ≤ (rEnc r).1.length ∧ (rEnc r).1.length ≤ 65543 := by
  have h1 := (rCheck_ok h hl).2.2.2
  have h2 := body_ne r
  rw [rEnc_ok h hl]
  simp only [List.length_append, beN_len]
  omega
theorem room_le {L : Lg} (h : L.Wf) : L.room ≤ 3538836 := by
  have h1 := h.big; have h2 := h.st; have h3 := h.res
  unfold room; omega
theorem tail_eq (L : Lg) (k : Bs) : ({ L with kept := k } : Lg).tail = L.base + k.length := rfl
theorem Wf.append {L : Lg} (h : L.Wf) (r : Rc) (hl : ∀ m ∈ r.imgs, m.2.lsn ≤ 9223372036854775807) : (L.append r).1.Wf := by
  unfold Lg.append
  cases hc : decide ((rCheck (atR r L.tail)).2 = 0) with
  | false => exact h
  | true =>
    rw [decide_eq_true_eq] at hc
    rw [cond_true]
    cases hr : decide (L.room < ((rEnc (atR r L.tail)).1.length : Int)) with
    | true => exact h
    | false =>
      rw [decide_eq_false_iff_not] at hr
      rw [cond_false]
      have hrl := room_le h
      have hel := enc_len hc (r := atR r L.tail) hl
      have hok := (rCheck_ok hc (r := atR r L.tail) hl)
      have hlsn : ((L.tail : Nat) : Int) ≤ 4611686018427387904 := by
        have := (hok.1.nums ((atR r L.tail).lsn) (by unfold rNums; simp)).2
        exact this
      have h1 := h.st; have h2 := h.bs; have h3 := h.n4; have h4 := h.big; have h5 := h.res
      have hbl := baseOf_le h1.1
      rw [← h2] at hbl
      unfold room at hr
      unfold tail at hr hlsn h1
      generalize hE : (rEnc (atR r L.tail)).1 = E at hr hel
      refine ⟨h.n4, h.big, h.bs, ⟨h1.1, h1.2.1, ?_⟩, ?_, ?_, fun _ => ?_, h.res, ?_⟩
      · show L.last ≤ L.base + (L.kept ++ E).length
        rw [List.length_append]; omega
      · show (L.kept ++ E).length ≤ _
        rw [List.length_append]; omega
      · show L.base + (L.kept ++ E).length ≤ _
        rw [List.length_append]; omega
      · show L.base + (L.kept ++ E).length ≤ _
        rw [List.length_append]; omega
      · intro p hp
        have hnd : ∀ q ∈ setD L.recs (L.tail : Int) (atR r L.tail), q ∈ L.recs ∨ q = ((L.tail : Int), atR r L.tail) := by
          intro q hq
          have hg : getD L.recs ((L.tail : Nat) : Int) = none := by
            rw [getD_none]
            intro hm
            obtain ⟨x, hx, hxe⟩ := List.mem_map.1 hm
            have := (h.ok x hx).2.2.2.2
            omega
          rw [setD_new _ _ _ hg] at hq
          simpa using hq
        show p.2.lsn = p.1 ∧ _ ∧ _ ∧ _ ∧ p.1 < ((L.base + (L.kept ++ E).length : Nat) : Int)
        rcases hnd p hp with hp | rfl
        · obtain ⟨q1, q2, q3, q4, q5⟩ := h.ok p hp
          unfold tail at q5
          refine ⟨q1, q2, q3, q4, ?_⟩
          rw [List.length_append]; omega
        · refine ⟨rfl, hc, hl, ?_, ?_⟩
          · show (L.start : Int) ≤ (L.tail : Int)
            unfold tail; omega
          · show (L.tail : Int) < _
            unfold tail; rw [List.length_append]; omega
theorem Wf.reserve {L : Lg} (h : L.Wf) (k : Int) : (L.reserve k).1.Wf := by
  unfold Lg.reserve
  cases h1 : decide (k < 0) with
  | true => exact h
  | false =>
    cases h2 : decide (L.room < k) with
    | true => exact h
    | false =>
      rw [decide_eq_false_iff_not] at h1 h2
      have h3 := room_le h
      have h4 := h.st; have h5 := h.big; have h6 := h.res
      unfold room at h2
      refine ⟨h.n4, h.big, h.bs, h.st, h.small, h.low, h.hi, ?_, h.ok⟩
      show 0 ≤ L.res + k ∧ L.res + k ≤ 4000000
      omega
theorem Wf.release {L : Lg} (h : L.Wf) (k : Int) : (L.release k).1.Wf := by
  unfold Lg.release
  cases h1 : decide (k < 0) || decide (L.res < k) with
  | true => exact h
  | false =>
    rw [Bool.or_eq_false_iff, decide_eq_false_iff_not, decide_eq_false_iff_not] at h1
    have h6 := h.res
    refine ⟨h.n4, h.big, h.bs, h.st, h.small, h.low, h.hi, ?_, h.ok⟩
    show 0 ≤ L.res - k ∧ L.res - k ≤ 4000000
    omega
theorem Wf.last {L : Lg} (h : L.Wf) : ({ L with last := L.tail } : Lg).Wf :=
  ⟨h.n4, h.big, h.bs, ⟨h.st.1, Nat.le_trans h.st.2.1 h.st.2.2, Nat.le_refl _⟩, h.small, h.low, fun e => absurd e (Nat.lt_irrefl _), h.res, h.ok⟩
theorem Wf.flush {L : Lg} (h : L.Wf) (upto : Int) (d : Dk) : (L.flush upto d).1.Wf := by
  unfold Lg.flush
  cases decide (upto < (L.last : Int)) || decide (L.last = L.tail) with
  | true => exact h
  | false =>
    rw [cond_false]
    cases decide ((L.flushE d).2 = 0) with
    | false => exact h
    | true =>
      rw [cond_true]
      cases decide ((L.flushE d).1.sync.2 = 0) with
      | false => exact h
      | true => exact h.last

theorem recycle_tail {L : Lg} (h : L.Wf) (b : Int) : (L.recycle b).1.tail = L.tail ∧ (L.recycle b).1.frm = L.frm ∧ (L.recycle b).1.n = L.n ∧ (L.recycle b).1.last = L.last ∧ (L.recycle b).1.res = L.res := by
  unfold Lg.recycle
  cases hc : decide (b < (L.start : Int)) || (decide ((L.last : Int) < b) || ((getD L.recs b).isNone && !decide (b = (L.tail : Int)))) with
  | true => exact ⟨rfl, rfl, rfl, rfl, rfl⟩
  | false =>
    rw [Bool.or_eq_false_iff, Bool.or_eq_false_iff, decide_eq_false_iff_not, decide_eq_false_iff_not] at hc
    obtain ⟨h1, h2, _⟩ := hc
    have h3 := h.st
    have h4 := baseOf_le h3.1
    have h5 := baseOf_le (b := b.toNat) (by omega)
    have h6 : baseOf L.start ≤ baseOf b.toNat := by unfold baseOf; omega
    have h7 := h.bs
    refine ⟨?_, rfl, rfl, rfl, rfl⟩
    show baseOf b.toNat + (L.kept.drop (baseOf b.toNat - L.base)).length = L.base + L.kept.length
    unfold tail at h3
    rw [List.length_drop]; omega
theorem Wf.recycle {L : Lg} (h : L.Wf) (b : Int) : (L.recycle b).1.Wf := by
  have ht := (recycle_tail h b).1
  unfold Lg.recycle at ht ⊢
  cases hc : decide (b < (L.start : Int)) || (decide ((L.last : Int) < b) || ((getD L.recs b).isNone && !decide (b = (L.tail : Int)))) with
  | true => exact h
  | false =>
    rw [hc, cond_false] at ht
    rw [Bool.or_eq_false_iff, Bool.or_eq_false_iff, decide_eq_false_iff_not, decide_eq_false_iff_not] at hc
    obtain ⟨h1, h2, _⟩ := hc
    have h3 := h.st
    have h8 := h.small
    have h9 := h.low
    rw [cond_false]
    refine ⟨h.n4, h.big, rfl, ⟨?_, ?_, ?_⟩, ?_, by rw [ht]; exact h9, by rw [ht]; exact h.hi, h.res, ?_⟩
    · show 1 ≤ b.toNat
      omega
    · show b.toNat ≤ L.last
      omega
    · rw [ht]; exact h3.2.2
    · show (L.kept.drop _).length ≤ _
      rw [List.length_drop]; omega
    · intro p hp
      obtain ⟨hp1, hp2⟩ := List.mem_filter.1 hp
      obtain ⟨q1, q2, q3, q4, q5⟩ := h.ok p hp1
      rw [decide_eq_true_eq] at hp2
      refine ⟨q1, q2, q3, ?_, by rw [ht]; exact q5⟩
      show ((b.toNat : Nat) : Int) ≤ p.1
      omega

/-! ### A sector -/
theorem blk_len (k : Nat) : (blkN k).length = 4 := beN_len _ _
theorem bytes_len (L : Lg) (k : Nat) : (L.bytes k).length ≤ 54 := by unfold bytes; rw [List.length_take]; omega
theorem zeros_len' (n : Nat) : (zeros n).length = n := by simp [zeros]
theorem seal_len {b : Bs} (h : b.length ≤ 54) (k : Nat) : (sealB k b).length = 64 := by
  unfold sealB
  simp only [List.length_append, blk_len, zeros_len', List.length_cons, List.length_nil]
  omega
theorem opened_seal {b : Bs} (h : b.length ≤ 54) (k : Nat) : opened (sealB k b) k = b := by
  have h4 := blk_len k
  have e1 : (sealB k b).take 4 = blkN k := by unfold sealB; exact List.take_left' h4
  have e2 : (sealB k b).drop 60 = blkN k := by
    have : sealB k b = (blkN k ++ ([UInt8.ofNat b.length] ++ (b ++ (zeros (54 - b.length) ++ [UInt8.ofNat b.length])))) ++ blkN k := by unfold sealB; simp
    rw [this]
    refine List.drop_left' ?_
    simp only [List.length_append, blk_len, zeros_len', List.length_cons, List.length_nil]; omega
  have e3 : (sealB k b).getD 4 0 = UInt8.ofNat b.length := by
    unfold sealB
    rw [List.getD_eq_getElem?_getD, List.getElem?_append_right (by omega), h4]; rfl
  have e4 : (sealB k b).getD 59 0 = UInt8.ofNat b.length := by
    have : sealB k b = (blkN k ++ ([UInt8.ofNat b.length] ++ (b ++ zeros (54 - b.length)))) ++ ([UInt8.ofNat b.length] ++ blkN k) := by unfold sealB; simp
    rw [this]
    have hl : (blkN k ++ ([UInt8.ofNat b.length] ++ (b ++ zeros (54 - b.length)))).length = 59 := by
      simp only [List.length_append, blk_len, zeros_len', List.length_cons, List.length_nil]; omega
    rw [List.getD_eq_getElem?_getD, List.getElem?_append_right (by omega), hl]; rfl
  have e5 : (UInt8.ofNat b.length).toNat = b.length := by rw [UInt8.toNat_ofNat']; omega
  have e6 : (sealB k b).drop 5 = b ++ (zeros (54 - b.length) ++ ([UInt8.ofNat b.length] ++ blkN k)) := by
    have : sealB k b = (blkN k ++ [UInt8.ofNat b.length]) ++ (b ++ (zeros (54 - b.length) ++ ([UInt8.ofNat b.length] ++ blkN k))) := by unfold sealB; simp
    rw [this]
    exact List.drop_left' (by simp [h4])
  unfold opened
  rw [e1, e2, e3, e4, e5, e6]
  simp only [decide_true, Bool.and_self, cond_true, Nat.min_self]
  rw [Nat.min_eq_left h]
  exact List.take_left' rfl

/-! ### A disk that can not die -/
structure Calm (d : Dk) : Prop where
  wf : d.Wf
  ar : d.armed = 0
  on : d.gone = false
theorem Calm.tick {d : Dk} (h : Calm d) : d.tick = { d with done := IntKind.i64.wrap (d.done + 1) } := by unfold Dk.tick; rw [if_neg (by rw [h.ar]; omega)]
theorem Calm.wr {l : List Bs} (hl : ∀ x ∈ l, x.length = 64) : ∀ {d : Dk}, Calm d → ∀ i, (d.wr i l).2 = 0 ∧ Calm (d.wr i l).1 ∧ (d.wr i l).1.cur.length = d.cur.length := by
  induction l with
  | nil => intro d h i; exact ⟨rfl, h, rfl⟩
  | cons x l ih =>
    intro d h i
    have hp : Calm (d.put i x) := ⟨h.wf.put i (hl x (by simp)), h.ar, h.on⟩
    have ht := hp.tick
    have hc : Calm (d.put i x).tick := ⟨hp.wf.tick, by rw [ht]; exact hp.ar, by rw [ht]; exact hp.on⟩
    rw [Dk.wr]
    simp only [hc.on, cond_false]
    obtain ⟨h1, h2, h3⟩ := ih (fun y hy => hl y (by simp [hy])) hc (i + 1)
    refine ⟨h1, h2, ?_⟩
    rw [h3, (Dk.tick_cur _).1]; simp [Dk.put]
theorem Calm.write {d : Dk} (h : Calm d) {a : Nat} {s : Bs} (hs : s.length % 64 = 0) (ha : a + s.length / 64 ≤ d.cur.length) : (d.write (a : Int) s).2 = 0 ∧ Calm (d.write (a : Int) s).1 ∧ (d.write (a : Int) s).1.cur.length = d.cur.length := by
  have e : d.write (a : Int) s = d.wr a (Dk.chunks (s.length / 64) s) := by
    unfold Dk.write
    have h1 : d.has (a : Int) ((s.length / 64 : Nat) : Int) = true := by unfold Dk.has; rw [decide_eq_true_eq]; omega
    rw [h.on, h1]
    simp [hs]
  rw [e]
  exact Calm.wr (Dk.chunks_64 (by omega)) h a
theorem Calm.sync {d : Dk} (h : Calm d) : d.sync.2 = 0 ∧ Calm d.sync.1 ∧ d.sync.1.cur.length = d.cur.length := by
  obtain ⟨h1, h2, h3, h4, h5⟩ := Dk.sync_calm h.ar h.on
  exact ⟨h1, ⟨h.wf.sync, h5, h4⟩, by rw [h2]⟩
theorem Calm.flushGo {L : Lg} (hn : 0 < L.n) : ∀ (f k : Nat) {d : Dk}, Calm d → L.frm + L.n ≤ d.cur.length → (L.flushGo f k d).2 = 0 ∧ Calm (L.flushGo f k d).1 ∧ (L.flushGo f k d).1.cur.length = d.cur.length
  | 0, k, d, h, _ => ⟨rfl, h, rfl⟩
  | f + 1, k, d, h, hl => by
    rw [Lg.flushGo]
    cases decide (k * 54 + 1 < L.tail) with
    | false => exact ⟨rfl, h, rfl⟩
    | true =>
      have hm := Nat.mod_lt k hn
      obtain ⟨h1, h2, h3⟩ := h.write (a := L.frm + k % L.n) (s := sealB k (L.bytes k)) (by rw [seal_len (bytes_len L k)]) (by rw [seal_len (bytes_len L k)]; omega)
      have hput : L.put k d = d.write ((L.frm + k % L.n : Nat) : Int) (sealB k (L.bytes k)) := rfl
      simp only [hput, h1, decide_true, cond_true]
      obtain ⟨g1, g2, g3⟩ := Calm.flushGo hn f (k + 1) h2 (by rw [h3]; exact hl)
      exact ⟨g1, g2, by rw [g3, h3]⟩
theorem Calm.flush {L : Lg} (hL : L.Wf) {d : Dk} (h : Calm d) (hl : L.frm + L.n ≤ d.cur.length) (upto : Int) : (L.flush upto d).2.2 = 0 ∧ Calm (L.flush upto d).2.1 ∧ (L.flush upto d).2.1.cur.length = d.cur.length ∧ ((L.flush upto d).1 = L ∨ (L.flush upto d).1 = { L with last := L.tail }) := by
  obtain ⟨h1, h2, h3⟩ := Calm.flushGo (L := L) (by have := hL.n4; omega) (L.kept.length + 1) ((L.last - 1) / 54) h hl
  obtain ⟨g1, g2, g3⟩ := h2.sync
  unfold Lg.flush
  cases decide (upto < (L.last : Int)) || decide (L.last = L.tail) with
  | true => exact ⟨rfl, h, rfl, .inl rfl⟩
  | false =>
    have e : L.flushE d = L.flushGo (L.kept.length + 1) ((L.last - 1) / 54) d := rfl
    simp only [e, h1, g1, decide_true, cond_true, cond_false]
    exact ⟨trivial, g2, by rw [g3, h3], .inr trivial⟩
end Lg
end Go.Proofs.YthbngnlmgplijaaGreatDoor

namespace Go.Proofs.YthbngnlmgplijaaGreatDoor
open Go.Al Go.Proofs
set_option linter.unusedVariables false
set_option linter.unusedSimpArgs false
set_option linter.unusedSectionVars false
set_option maxRecDepth 100000

def Held (w : World) (P : Nat → Prop) (cs : Array Value) (r : Rc) : Prop := ∀ w', Fm (fun y => ¬ P y) w w' → RcAs w' cs r
theorem Held.now {w : World} {P : Nat → Prop} {cs : Array Value} {r : Rc} (h : Held w P cs r) : RcAs w cs r := h w (Fm.refl _ _)
theorem Held.keep {S P : Nat → Prop} {w w1 : World} {cs : Array Value} {r : Rc} (h : Held w P cs r) (hf : Fm S w w1) (hs : ∀ y, P y → ¬ S y) : Held w1 P cs r := fun w' h' => h w' (hf.trans h' (fun x _ hx hp => hs x hp hx) (fun _ _ e => e))
theorem Held.mono {P Q : Nat → Prop} {w : World} {cs : Array Value} {r : Rc} (h : Held w P cs r) (hPQ : ∀ y, P y → Q y) : Held w Q cs r := fun w' h' => h w' (h'.mono (fun x _ hx hp => hx (hPQ x hp)))
theorem RdOk.held {w : World} {b : Nat} {cs : Array Value} {r : Rc} (h : RdOk w b cs (some r)) : Held w (fun y => b ≤ y ∧ y < w.heap.size) cs r := by
  obtain ⟨vs, vm, vi, vp, vt, rfl, h1, h2⟩ := h
  intro w' hf
  refine (h1.keep (S := fun y => y < w.heap.size ∧ y < b) ?_ (fun y e => e.2)).asR h2
  exact ⟨hf.os, hf.tape, hf.output, hf.size, fun y hy hn => hf.block y hy (fun e => e ⟨by omega, hy⟩)⟩
theorem rcs_at (r : Rc) (k : Nat) (vs vm vi vp vt : Value) : (rcs r vs vm vi vp vt).setIfInBounds 0 (iv (k : Int)) = rcs (atR r k) vs vm vi vp vt := rfl
theorem RcAs.atR {w : World} {r : Rc} {vs vm vi vp vt : Value} (h : RcAs w (rcs r vs vm vi vp vt) r) {k : Nat} (hk : k ≤ 9223372036854775807) : RcAs w (rcs (atR r k) vs vm vi vp vt) (atR r k) := by
  obtain ⟨as_, am, ai, ap, at_, h1, h2, h3, h4, h5, h6, h7⟩ := h.ex
  have e : (rcs r vs vm vi vp vt).toList = (rcs r as_ am ai ap at_).toList := by rw [h1]
  simp only [rcs, List.cons.injEq, true_and, and_true] at e
  obtain ⟨rfl, rfl, rfl, rfl, rfl⟩ := e
  refine ⟨⟨_, _, _, _, _, rfl, h2, h3, h4, h5, h6, h7⟩, ?_, h.kin, h.data, h.bulk, h.lsns⟩
  intro n hn
  have hins := h.ins
  unfold rNums at hn hins
  simp only [List.mem_append, List.mem_cons] at hn hins
  have e1 : ((Go.Proofs.YthbngnlmgplijaaGreatDoor.atR r k).prev = r.prev) := rfl
  rcases hn with ((((((rfl | hn) | hn) | hn) | hn) | hn) | hn)
  · show In (k : Int)
    unfold In; omega
  · exact hins n (.inl (.inl (.inl (.inl (.inl (.inr hn))))))
  · exact hins n (.inl (.inl (.inl (.inl (.inr hn)))))
  · exact hins n (.inl (.inl (.inl (.inr hn))))
  · exact hins n (.inl (.inl (.inr hn)))
  · exact hins n (.inl (.inr hn))
  · exact hins n (.inr hn)

end Go.Proofs.YthbngnlmgplijaaGreatDoor

namespace Go.Proofs.YthbngnlmgplijaaGreatDoor
open Go.Al Go.Proofs
set_option linter.unusedVariables false
set_option linter.unusedSimpArgs false
set_option linter.unusedSectionVars false
set_option maxRecDepth 100000

theorem K130 : KeyT Tryz.prog 130 3 28 iv := keyT_int Tryz.underlying130 Tryz.underlying3
def lgc (db mb : Nat) (kv : Value) (L : Lg) : Array Value := #[pv db, iv (L.frm : Int), iv (L.n : Int), iv (L.base : Int), kv, iv (L.start : Int), iv (L.last : Int), iv L.res, .map (some mb)]
theorem Fm.step {X S : Nat → Prop} {w w1 w2 : World} (h : Fm X w w1) (k : Fm S w1 w2) (hs : ∀ y, S y → X y ∨ w.heap.size ≤ y) : Fm X w w2 :=
  h.trans k (fun _ _ e => e) (fun x hx e => by rcases hs x e with q | q; exact q; omega)

/-- A log's block, its bytes, its records. -/
structure LIn (w : World) (X P : Nat → Prop) (lb db mb : Nat) (kv : Value) (M : List (Int × Array Value)) (L : Lg) : Prop where
  st : w.heap[lb]? = some (.cells (lgc db mb kv L) 132)
  kp : KpAt w 5 kv L.kept
  mp : MapAt w mb iv Value.agg M
  keys : M.map (·.1) = L.recs.map (·.1)
  rec_ : ∀ k cs, (k, cs) ∈ M → ∃ r, (k, r) ∈ L.recs ∧ Held w P cs r
  xs : X lb ∧ X mb ∧ (∀ y, kv.ownBlock = some y → X y) ∧ ∀ y, P y → X y
  ps : ¬ P lb ∧ ¬ P mb ∧ ∀ y, kv.ownBlock = some y → ¬ P y
  lt : ∀ y, X y → y < w.heap.size
section
variable {w w' : World} {X P S : Nat → Prop} {lb db mb : Nat} {kv : Value} {M : List (Int × Array Value)} {L L' : Lg}
theorem LIn.keep (h : LIn w X P lb db mb kv M L) (hf : Fm S w w') (hS : ∀ y, X y → ¬ S y) : LIn w' X P lb db mb kv M L :=
  ⟨hf.heap h.st (hS _ h.xs.1), h.kp.keep hf (fun y hy => hS y (h.xs.2.2.1 y hy)), h.mp.keep hf (hS _ h.xs.2.1), h.keys, fun k cs hm => by
    obtain ⟨r, h1, h2⟩ := h.rec_ k cs hm
    exact ⟨r, h1, h2.keep hf (fun y hy => hS y (h.xs.2.2.2 y hy))⟩, h.xs, h.ps, fun y hy => Nat.lt_of_lt_of_le (h.lt y hy) hf.size⟩
theorem LIn.keep0 (h : LIn w X P lb db mb kv M L) (hf : Fm (fun _ => False) w w') : LIn w' X P lb db mb kv M L := h.keep hf (fun _ _ e => e)
theorem LIn.nk (h : LIn w X P lb db mb kv M L) : kv.ownBlock ≠ some lb := h.kp.neT h.st (by decide)
theorem LIn.nm (h : LIn w X P lb db mb kv M L) : mb ≠ lb := by
  rintro rfl
  obtain ⟨es, c, hb, _⟩ := h.mp.ex
  rw [h.st] at hb; cases hb
theorem LIn.km (h : LIn w X P lb db mb kv M L) : kv.ownBlock ≠ some mb := by
  obtain ⟨es, c, hb, _⟩ := h.mp.ex
  exact h.kp.neM hb
theorem LIn.upd (h : LIn w X P lb db mb kv M L) (hst : w'.heap[lb]? = some (.cells (lgc db mb kv L') 132)) (hf : Fm (· = lb) w w') (e1 : L'.kept = L.kept) (e2 : L'.recs = L.recs) : LIn w' X P lb db mb kv M L' :=
  ⟨hst, by rw [e1]; exact h.kp.keep hf (fun y hy e => h.nk (by rw [hy, e])), h.mp.keep hf h.nm, by rw [e2]; exact h.keys, fun k cs hm => by
    obtain ⟨r, h1, h2⟩ := h.rec_ k cs hm
    exact ⟨r, by rw [e2]; exact h1, h2.keep hf (fun y hy e => h.ps.1 (by rw [← e]; exact hy))⟩, h.xs, h.ps, fun y hy => Nat.lt_of_lt_of_le (h.lt y hy) hf.size⟩
theorem LIn.c0 (h : LIn w X P lb db mb kv M L) : w.cell? ⟨lb, 0, none⟩ = some (pv db) := by rw [cell_at h.st]; rfl
theorem LIn.c1 (h : LIn w X P lb db mb kv M L) : w.cell? ⟨lb, 1, none⟩ = some (iv (L.frm : Int)) := by rw [cell_at h.st]; rfl
theorem LIn.c2 (h : LIn w X P lb db mb kv M L) : w.cell? ⟨lb, 2, none⟩ = some (iv (L.n : Int)) := by rw [cell_at h.st]; rfl
theorem LIn.c3 (h : LIn w X P lb db mb kv M L) : w.cell? ⟨lb, 3, none⟩ = some (iv (L.base : Int)) := by rw [cell_at h.st]; rfl
theorem LIn.c4 (h : LIn w X P lb db mb kv M L) : w.cell? ⟨lb, 4, none⟩ = some kv := by rw [cell_at h.st]; rfl
theorem LIn.c5 (h : LIn w X P lb db mb kv M L) : w.cell? ⟨lb, 5, none⟩ = some (iv (L.start : Int)) := by rw [cell_at h.st]; rfl
theorem LIn.c6 (h : LIn w X P lb db mb kv M L) : w.cell? ⟨lb, 6, none⟩ = some (iv (L.last : Int)) := by rw [cell_at h.st]; rfl
theorem LIn.c7 (h : LIn w X P lb db mb kv M L) : w.cell? ⟨lb, 7, none⟩ = some (iv L.res) := by rw [cell_at h.st]; rfl
theorem LIn.c8 (h : LIn w X P lb db mb kv M L) : w.cell? ⟨lb, 8, none⟩ = some (.map (some mb)) := by rw [cell_at h.st]; rfl
end
structure LAt (w : World) (X : Nat → Prop) (lb db : Nat) (L : Lg) : Prop where
  wf : L.Wf
  ex : ∃ P mb kv M, LIn w X P lb db mb kv M L
theorem LAt.keep {w w' : World} {X S : Nat → Prop} {lb db : Nat} {L : Lg} (h : LAt w X lb db L) (hf : Fm S w w') (hS : ∀ y, X y → ¬ S y) : LAt w' X lb db L := by
  obtain ⟨P, mb, kv, M, hi⟩ := h.ex
  exact ⟨h.wf, P, mb, kv, M, hi.keep hf hS⟩
theorem LAt.keep0 {w w' : World} {X : Nat → Prop} {lb db : Nat} {L : Lg} (h : LAt w X lb db L) (hf : Fm (fun _ => False) w w') : LAt w' X lb db L := h.keep hf (fun _ _ e => e)
theorem LAt.lt {w : World} {X : Nat → Prop} {lb db : Nat} {L : Lg} (h : LAt w X lb db L) : ∀ y, X y → y < w.heap.size := by
  obtain ⟨P, mb, kv, M, hi⟩ := h.ex
  exact hi.lt
theorem LAt.lb {w : World} {X : Nat → Prop} {lb db : Nat} {L : Lg} (h : LAt w X lb db L) : X lb := by
  obtain ⟨P, mb, kv, M, hi⟩ := h.ex
  exact hi.xs.1

/-! ### Where things stand -/
section
variable {w : World} {X : Nat → Prop} {lb db : Nat} {L : Lg}
theorem wtail_spec (h : LAt w X lb db L) : Cl Tryz.prog 20 [pv lb] w fun v w' => v = iv (L.tail : Int) ∧ Fm (fun _ => False) w w' := by
  obtain ⟨P, mb, kv, M, hi⟩ := h.ex
  have hl := h.wf.low
  refine c20 ?_; unfold T20
  have e1 : IntKind.i64.wrap ((L.base : Int) + (L.kept.length : Int)) = (L.tail : Int) := by
    unfold Lg.tail at hl ⊢
    rw [wrap_id] <;> omega
  simp only [RS0, RS1, RS2, RS3, RS4, RS5, hi.c3, hi.c4, hi.kp.lenV, e1, true_and]
  exact Fm.drew _ _
theorem wtail_nil (w : World) : Cl Tryz.prog 20 [.pointer none] w fun v w' => v = iv 0 ∧ Fm (fun _ => False) w w' := by
  refine c20 ?_; unfold T20
  simp only [RS0, RS1, RS2, RS3, RS4, RS5]
  exact ⟨(by trivial), Fm.refl _ _⟩
theorem wstart_spec (h : LAt w X lb db L) : Cl Tryz.prog 24 [pv lb] w fun v w' => v = iv (L.start : Int) ∧ Fm (fun _ => False) w w' := by
  obtain ⟨P, mb, kv, M, hi⟩ := h.ex
  refine c24 ?_; unfold T24
  simp only [RS0, RS1, RS2, RS3, RS4, RS5, hi.c5]
  exact ⟨(by trivial), Fm.refl _ _⟩
theorem wstart_nil (w : World) : Cl Tryz.prog 24 [.pointer none] w fun v w' => v = iv 0 ∧ Fm (fun _ => False) w w' := by
  refine c24 ?_; unfold T24
  simp only [RS0, RS1, RS2, RS3, RS4, RS5]
  exact ⟨(by trivial), Fm.refl _ _⟩
theorem wflushed_spec (h : LAt w X lb db L) : Cl Tryz.prog 27 [pv lb] w fun v w' => v = iv (L.last : Int) ∧ Fm (fun _ => False) w w' := by
  obtain ⟨P, mb, kv, M, hi⟩ := h.ex
  refine c27 ?_; unfold T27
  simp only [RS0, RS1, RS2, RS3, RS4, RS5, hi.c6]
  exact ⟨(by trivial), Fm.refl _ _⟩
theorem wflushed_nil (w : World) : Cl Tryz.prog 27 [.pointer none] w fun v w' => v = iv 0 ∧ Fm (fun _ => False) w w' := by
  refine c27 ?_; unfold T27
  simp only [RS0, RS1, RS2, RS3, RS4, RS5]
  exact ⟨(by trivial), Fm.refl _ _⟩
theorem wroom_nil (w : World) : Cl Tryz.prog 19 [.pointer none] w fun v w' => v = iv 0 ∧ Fm (fun _ => False) w w' := by
  refine c19 ?_; unfold T19
  simp only [RS0, RS1, RS2, RS3, RS4, RS5]
  exact ⟨(by trivial), Fm.refl _ _⟩
theorem wroom_spec (h : LAt w X lb db L) : Cl Tryz.prog 19 [pv lb] w fun v w' => v = iv L.room ∧ Fm (fun _ => False) w w' := by
  obtain ⟨P, mb, kv, M, hi⟩ := h.ex
  have h1 := h.wf.st; have h2 := h.wf.big; have h3 := h.wf.res; have h4 := h.wf.small; have h5 := h.wf.bs; have h6 := h.wf.n4
  have hb := Lg.baseOf_le h1.1
  rw [← h5] at hb
  have ht : L.tail = L.base + L.kept.length := rfl
  have e1 : IntKind.i64.wrap ((L.n : Int) - 2) = (L.n : Int) - 2 := by rw [wrap_id]; omega
  have e2 : IntKind.i64.wrap (54 * ((L.n : Int) - 2)) = 54 * ((L.n : Int) - 2) := by rw [wrap_id]; omega
  have e3 : IntKind.i64.wrap ((L.tail : Int) - (L.start : Int)) = (L.tail : Int) - (L.start : Int) := by rw [wrap_id]; omega
  have e4 : IntKind.i64.wrap (54 * ((L.n : Int) - 2) - ((L.tail : Int) - (L.start : Int))) = 54 * ((L.n : Int) - 2) - ((L.tail : Int) - (L.start : Int)) := by rw [wrap_id]; omega
  have e5 : IntKind.i64.wrap (54 * ((L.n : Int) - 2) - ((L.tail : Int) - (L.start : Int)) - L.res) = L.room := by unfold Lg.room; rw [wrap_id]; omega
  have hC : ∀ {w' : World}, Fm (fun _ => False) w w' → LIn w' X P lb db mb kv M L := fun hf => hi.keep0 hf
  have hfd := Fm.drew (fun _ => False) w
  refine c19 ?_; unfold T19
  simp only [RS0, RS1, RS2, RS3, RS4, RS5]
  refine ⟨fun w' => LIn w' X P lb db mb kv M L, hC hfd, ?_⟩
  refine ⟨iv (L.n : Int), fun w' h' => ?_, ?_⟩
  · simp only [RS0, RS1, RS2, RS3, RS4, RS5, h'.c2] <;> trivial
  simp only [RS0, RS1, RS2, RS3, RS4, RS5, e1, e2]
  refine ⟨iv (L.start : Int), fun w' h' => ?_, ?_⟩
  · simp only [RS0, RS1, RS2, RS3, RS4, RS5, h'.c5] <;> trivial
  refine ⟨iv L.res, fun w' h' => ?_, ?_⟩
  · simp only [RS0, RS1, RS2, RS3, RS4, RS5, h'.c7] <;> trivial
  refine (wtail_spec (h.keep0 hfd)).mono ?_
  rintro _ w2 ⟨rfl, hf2⟩
  refine ⟨hC (Fmf hfd hf2), ?_⟩
  simp only [RS0, RS1, RS2, RS3, RS4, RS5, e3, e4, e5]
  exact ⟨(by trivial), Fmf hfd hf2⟩
theorem wreserve_nil (w : World) (k : Value) : Cl Tryz.prog 22 [.pointer none, k] w fun v w' => v = iv 2 ∧ Fm (fun _ => False) w w' := by
  refine c22 ?_; unfold T22
  simp only [RS0, RS1, RS2, RS3, RS4, RS5]
  exact ⟨(by trivial), Fm.refl _ _⟩
theorem wrelease_nil (w : World) (k : Value) : Cl Tryz.prog 23 [.pointer none, k] w fun v w' => v = iv 2 ∧ Fm (fun _ => False) w w' := by
  refine c23 ?_; unfold T23
  simp only [RS0, RS1, RS2, RS3, RS4, RS5]
  exact ⟨(by trivial), Fm.refl _ _⟩
theorem wflush_nil (w : World) (k : Value) : Cl Tryz.prog 26 [.pointer none, k] w fun v w' => v = iv 2 ∧ Fm (fun _ => False) w w' := by
  refine c26 ?_; unfold T26
  simp only [RS0, RS1, RS2, RS3, RS4, RS5]
  exact ⟨(by trivial), Fm.refl _ _⟩
theorem wrecycle_nil (w : World) (k : Value) : Cl Tryz.prog 28 [.pointer none, k] w fun v w' => v = iv 2 ∧ Fm (fun _ => False) w w' := by
  refine c28 ?_; unfold T28
  simp only [RS0, RS1, RS2, RS3, RS4, RS5]
  exact ⟨(by trivial), Fm.refl _ _⟩
theorem wreserve_spec (h : LAt w X lb db L) (k : Int) : Cl Tryz.prog 22 [pv lb, iv k] w fun v w' => v = iv (L.reserve k).2 ∧ LAt w' X lb db (L.reserve k).1 ∧ Fm (· = lb) w w' := by
  have hwf := h.wf.reserve k
  unfold Lg.reserve at hwf ⊢
  refine c22 ?_; unfold T22
  cases h1 : decide (k < 0) with
  | true =>
    simp only [RS0, RS1, RS2, RS3, RS4, RS5, h1, cond_true]
    exact ⟨(by trivial), h, Fm.refl _ _⟩
  | false =>
  rw [h1] at hwf
  simp only [RS0, RS1, RS2, RS3, RS4, RS5, h1, cond_false]
  refine (wroom_spec h).mono ?_
  rintro _ w2 ⟨rfl, hf2⟩
  have h' := h.keep0 hf2
  cases h2 : decide (L.room < k) with
  | true =>
    simp only [RS0, RS1, RS2, RS3, RS4, RS5, h2, cond_true]
    exact ⟨(by trivial), h', hf2.mono (fun _ _ e => e.elim)⟩
  | false =>
  rw [h2] at hwf
  obtain ⟨P, mb, kv, M, hi⟩ := h'.ex
  have hrl := Lg.room_le h.wf
  have hrs := h.wf.res
  rw [decide_eq_false_iff_not] at h1 h2
  have e1 : IntKind.i64.wrap (L.res + k) = L.res + k := by rw [wrap_id]; omega
  have h2' : decide (L.room < k) = false := by simpa using h2
  simp only [RS0, RS1, RS2, RS3, RS4, RS5, h2', cond_false, hi.c7, e1]
  refine St_blk hi.st (by show 7 < 9; decide) rfl ?_
  intro w3 hw3 hs3 hf3
  exact ⟨(by trivial), ⟨hwf, P, mb, kv, M, hi.upd hw3 hf3 rfl rfl⟩, (hf2.mono (fun _ _ e => e.elim)).trans hf3 (fun _ _ e => e) (fun _ _ e => e)⟩
theorem wrelease_spec (h : LAt w X lb db L) (k : Int) : Cl Tryz.prog 23 [pv lb, iv k] w fun v w' => v = iv (L.release k).2 ∧ LAt w' X lb db (L.release k).1 ∧ Fm (· = lb) w w' := by
  have hwf := h.wf.release k
  unfold Lg.release at hwf ⊢
  obtain ⟨P, mb, kv, M, hi⟩ := h.ex
  refine c23 ?_; unfold T23
  cases h1 : decide (k < 0) with
  | true =>
    simp only [RS0, RS1, RS2, RS3, RS4, RS5, h1, Bool.true_or, cond_true]
    exact ⟨(by trivial), h, Fm.refl _ _⟩
  | false =>
  cases h2 : decide (L.res < k) with
  | true =>
    simp only [RS0, RS1, RS2, RS3, RS4, RS5, h1, h2, Bool.false_or, cond_true, hi.c7]
    exact ⟨(by trivial), h, Fm.refl _ _⟩
  | false =>
  rw [h1, h2] at hwf
  have hrs := h.wf.res
  rw [decide_eq_false_iff_not] at h1 h2
  have e1 : IntKind.i64.wrap (L.res - k) = L.res - k := by rw [wrap_id]; omega
  have h1' : decide (k < 0) = false := by simpa using h1
  have h2' : decide (L.res < k) = false := by simpa using h2
  simp only [RS0, RS1, RS2, RS3, RS4, RS5, h1', h2', Bool.or_self, cond_false, hi.c7, e1]
  refine St_blk hi.st (by show 7 < 9; decide) rfl ?_
  intro w3 hw3 hs3 hf3
  exact ⟨(by trivial), ⟨hwf, P, mb, kv, M, hi.upd hw3 hf3 rfl rfl⟩, hf3⟩
end
end Go.Proofs.YthbngnlmgplijaaGreatDoor

namespace Go.Proofs.YthbngnlmgplijaaGreatDoor
open Go.Al Go.Proofs
set_option linter.unusedVariables false
set_option linter.unusedSimpArgs false
set_option linter.unusedSectionVars false
set_option maxRecDepth 100000

theorem retR {w : World} {g c : Nat} {cs : Array Value} {t : Value} (h : w.heap[g]? = some (.cells cs 28)) (hn : cs.size = 16) {k : KV} (hk : k (.agg cs) w) :
    RetO (resL Tryz.prog (fun j => bif Nat.beq j 2 then pv g else undef) w [(ResultVar.cell 2 28)]) w k := by
  simp only [resL, resV_blk (f := fun j => bif Nat.beq j 2 then pv g else undef) (a := 2) rfl agg52 size52 h hn, RetO, RetV]
  exact hk
set_option maxHeartbeats 1000000 in
theorem own_spec {w : World} {cs : Array Value} {r : Rc} (h : RcAs w cs r) (hc : (rCheck r).2 = 0) : Cl Tryz.prog 96 [.agg cs] w fun v w' => ∃ cs', v = .agg cs' ∧ Held w' (fun y => w.heap.size ≤ y ∧ y < w'.heap.size) cs' r ∧ Fm (fun _ => False) w w' := by
  refine c96 ?_; unfold T96
  refine New_any ?_
  intro x1 w1 hx1 hs1 hw1 hf1
  refine New_any ?_
  intro x2 w2 hx2 hs2 hw2 hf2
  have hF2 := Fmf hf1 hf2
  have hw1' := hf2.heap hw1 (fun e => e)
  simp only [RS0, RS1, RS2, RS3, RS4, RS5, cellsV_blk hw1' h.size]
  refine (renc_spec (h.keep hF2)).mono ?_
  rintro _ w3 ⟨rfl, hf3⟩
  have hF3 := Fmf hF2 hf3
  have hel := Lg.enc_len hc h.lsns
  have hdb := dec_back hc h.lsns []
  rw [List.append_nil] at hdb
  simp only [RS0, RS1, RS2, RS3, RS4, RS5]
  refine (rdec_spec w3 (rEnc r).1 (by omega)).mono ?_
  rintro _ w4 ⟨cs', rfl, hok, hf4⟩
  rw [hdb] at hok ⊢
  have hF4 := Fmf hF3 hf4
  have hheld := hok.held
  have hsz := hok.as.size
  have hone := hok.as.one
  simp only [RS0, RS1, RS2, RS3, RS4, RS5]
  refine New_any ?_
  intro x5 w5 hx5 hs5 hw5 hf5
  have z1 := hF2.size; have z3 := hf3.size; have z4 := hf4.size
  refine St_all hw5 rfl hsz hone ?_
  intro w6 hw6 hs6 hf6
  simp only [RS0, RS1, RS2, RS3, RS4, RS5, cellsV_blk hw6 hsz]
  have hw2' := hf6.heap (hf5.heap (hf4.heap (hf3.heap hw2 (fun e => e)) (fun e => e)) (fun e => e)) (show ¬ x2 = x5 by omega)
  refine St_all hw2' rfl hsz hone ?_
  intro w7 hw7 hs7 hf7
  refine retR (t := undef) (c := 0) hw7 hsz ?_
  have hF7 : Fm (fun _ => False) w w7 := Fm.own (Fm.own (Fmf hF4 hf5) hf6 (by rintro y rfl; omega)) hf7 (by rintro y rfl; omega)
  refine ⟨cs', rfl, ?_, hF7⟩
  have k5 := hheld.keep hf5 (fun _ _ e => e)
  have k6 := k5.keep hf6 (by rintro y hy rfl; omega)
  have k7 := k6.keep hf7 (by rintro y hy rfl; omega)
  refine k7.mono ?_
  rintro y ⟨q1, q2⟩
  omega

set_option maxHeartbeats 4000000 in
theorem wappend_spec {w : World} {X : Nat → Prop} {lb db : Nat} {L : Lg} (h : LAt w X lb db L) {cs : Array Value} {r : Rc} (hr' : ∀ w', Fm X w w' → RcAs w' cs r) :
    Cl Tryz.prog 21 [pv lb, .agg cs] w fun v w' => v = .tuple #[iv (L.append r).2.1, iv (L.append r).2.2] ∧ ∃ X', LAt w' X' lb db (L.append r).1 ∧ (∀ y, X' y → X y ∨ w.heap.size ≤ y) ∧ Fm X w w' := by
  have hr := hr' w (Fm.refl _ _)
  have hwf := h.wf.append r hr.lsns
  have hlow := h.wf.low
  obtain ⟨vs, vm, vi, vp, vt, rfl, _⟩ := hr.ex
  have same : ∀ {w' : World}, Fm (fun _ => False) w w' → ∃ X', LAt w' X' lb db L ∧ (∀ y, X' y → X y ∨ w.heap.size ≤ y) ∧ Fm X w w' := fun hf => ⟨X, h.keep0 hf, fun y hy => .inl hy, hf.mono (fun _ _ e => e.elim)⟩
  unfold Lg.append at hwf ⊢
  refine c21 ?_; unfold T21
  refine New_any ?_
  intro x1 w1 hx1 hs1 hw1 hf1
  simp only [RS0, RS1, RS2, RS3, RS4, RS5]
  refine (wtail_spec (h.keep0 hf1)).mono ?_
  rintro _ w2 ⟨rfl, hf2⟩
  have hF2 := Fmf hf1 hf2
  have hw2 := hf2.heap hw1 (fun e => e)
  try simp only [RS0, RS1, RS2, RS3, RS4, RS5]
  refine St_blk hw2 (by show 0 < 16; decide) rfl ?_
  intro w3 hw3 hs3 hf3
  have hF3 : Fm (fun _ => False) w w3 := Fm.own hF2 hf3 (by rintro y rfl; omega)
  replace hw3 : w3.heap[x1]? = some (.cells (rcs (atR r L.tail) vs vm vi vp vt) 28) := hw3
  have hra := (hr.keep hF3).atR hlow
  simp only [RS0, RS1, RS2, RS3, RS4, RS5, cellsV_blk hw3 (n := 16) rfl]
  refine (renc_spec hra).mono ?_
  rintro _ w4 ⟨rfl, hf4⟩
  have hF4 := Fmf hF3 hf4
  rw [rEnc_err]
  simp only [RS0, RS1, RS2, RS3, RS4, RS5, bne_dec]
  cases hc : decide ((rCheck (atR r L.tail)).2 = 0) with
  | false =>
    simp only [RS0, RS1, RS2, RS3, RS4, RS5, Bool.not_false, cond_false]
    exact ⟨(by trivial), same hF4⟩
  | true =>
  rw [hc] at hwf
  rw [decide_eq_true_eq] at hc
  have hel := Lg.enc_len hc hra.lsns
  simp only [RS0, RS1, RS2, RS3, RS4, RS5, Bool.not_true, cond_true, str_size]
  refine (wroom_spec (h.keep0 hF4)).mono ?_
  rintro _ w5 ⟨rfl, hf5⟩
  have hF5 := Fmf hF4 hf5
  cases hrm : decide (L.room < ((rEnc (atR r L.tail)).1.length : Int)) with
  | true =>
    simp only [RS0, RS1, RS2, RS3, RS4, RS5, hrm, cond_true]
    exact ⟨(by trivial), same hF5⟩
  | false =>
  rw [hrm] at hwf
  simp only [RS0, RS1, RS2, RS3, RS4, RS5, hrm, cond_false]
  obtain ⟨P, mb, kv, M, hi0⟩ := h.ex
  have hi := hi0.keep0 hF5
  have hsm := h.wf.small
  have hw5 := hf5.heap (hf4.heap hw3 (fun e => e)) (fun e => e)
  have hra5 := (hra.keep hf4).keep hf5
  generalize hE : (rEnc (atR r L.tail)).1 = E at hel hwf
  simp only [cond_true, cond_false] at hwf
  have z5 := hF5.size
  simp only [RS0, RS1, RS2, RS3, RS4, RS5, hi.c4]
  obtain ⟨kv', w6, hr6, hk6, hf6, hb6⟩ := hi.kp.app B44 E 123 (by omega)
  refine RunS_ok hr6 ?_
  have hst6 := hf6.heap hi.st hi.nk
  try simp only [RS0, RS1, RS2, RS3, RS4, RS5]
  refine St_blk hst6 (by show 4 < 9; decide) hk6.one ?_
  intro w7 hw7 hs7 hf7
  replace hw7 : w7.heap[lb]? = some (.cells #[pv db, iv (L.frm : Int), iv (L.n : Int), iv (L.base : Int), kv', iv (L.start : Int), iv (L.last : Int), iv L.res, .map (some mb)] 132) := hw7
  have hx1 : x1 ≠ lb := by have := hi0.lt lb hi0.xs.1; omega
  have hkx : kv.ownBlock ≠ some x1 := fun e => by have := hi0.lt x1 (hi0.xs.2.2.1 x1 e); omega
  have hw7x := hf7.heap (hf6.heap hw5 hkx) hx1
  have hfd := Fm.drew (fun _ => False) w7
  have hK7 : KpAt w7 5 kv' (L.kept ++ E) := hk6.keep hf7 (fun y hy e => hk6.neT hst6 (by decide) (by rw [hy, e]))
  have hM7 : MapAt w7 mb iv Value.agg M := (hi.mp.keep hf6 (fun e => hi.km e)).keep hf7 hi.nm
  have hR7 : ∀ {w'}, Fm (fun _ => False) w7 w' → ∀ k cs, (k, cs) ∈ M → ∃ r, (k, r) ∈ L.recs ∧ Held w' P cs r := fun hf k cs hm => by
    obtain ⟨r', q1, q2⟩ := hi.rec_ k cs hm
    exact ⟨r', q1, ((q2.keep hf6 (fun y hy e => hi.ps.2.2 y e hy)).keep hf7 (fun y hy e => hi.ps.1 (e ▸ hy))).keep hf (fun _ _ e => e)⟩
  have hX7 : Fm X w w7 := Fm.step (Fm.step (hF5.mono (fun _ _ e => e.elim)) hf6 (fun y hy => .inl (hi0.xs.2.2.1 y hy))) hf7 (fun y hy => .inl (hy ▸ hi0.xs.1))
  have hra7 := (hr' w7.drew (Fm.step hX7 hfd (fun _ e => e.elim))).atR hlow
  have z7 := hX7.size
  try simp only [RS0, RS1, RS2, RS3, RS4, RS5]
  refine ⟨fun w' => Fm (fun _ => False) w7 w', hfd, ?_⟩
  refine ⟨.map (some mb), fun w' h' => ?_, ?_⟩
  · have : w'.cell? ⟨lb, 8, none⟩ = some (.map (some mb)) := by rw [cell_at (h'.heap hw7 (fun e => e))]; rfl
    simp only [RS0, RS1, RS2, RS3, RS4, RS5, this] <;> trivial
  refine ⟨iv (L.tail : Int), fun w' h' => ?_, ?_⟩
  · have : w'.cell? ⟨x1, 0, none⟩ = some (iv (L.tail : Int)) := by rw [cell_at (h'.heap hw7x (fun e => e))]; rfl
    simp only [RS0, RS1, RS2, RS3, RS4, RS5, this] <;> trivial
  simp only [RS0, RS1, RS2, RS3, RS4, RS5, cellsV_blk (hfd.heap hw7x (fun e => e)) (n := 16) rfl, true_and]
  refine (own_spec hra7 hc).mono ?_
  rintro _ w8 ⟨cs', rfl, hheld, hf8⟩
  have hF8 := Fmf hfd hf8
  refine ⟨hF8, ?_⟩
  have z8 := hf8.size
  have zd : w7.drew.heap.size = w7.heap.size := rfl
  obtain ⟨w9, hr9, hM9, hf9, hz9⟩ := update_run K130 (hM7.keep hF8 (fun e => e)) (L.tail : Int) cs'
  refine RunU_ok hr9 ?_
  have hxm : x1 ≠ mb := by have := hi0.lt mb hi0.xs.2.1; omega
  have hw9x := hf9.heap (hF8.heap hw7x (fun e => e)) hxm
  have hw9 := hf9.heap (hF8.heap hw7 (fun e => e)) hi.nm.symm
  have c9 : w9.cell? ⟨x1, 0, none⟩ = some (iv (L.tail : Int)) := by rw [cell_at hw9x]; rfl
  simp only [RS0, RS1, RS2, RS3, RS4, RS5, c9]
  have hX9 : Fm X w w9 := Fm.step (Fm.step hX7 hF8 (fun _ e => e.elim)) hf9 (fun y hy => .inl (hy ▸ hi0.xs.2.1))
  have z9 := hX9.size
  refine ⟨(by trivial), fun y => X y ∨ (w.heap.size ≤ y ∧ y < w9.heap.size), ⟨hwf, fun y => P y ∨ (w7.heap.size ≤ y ∧ y < w8.heap.size), mb, kv', setD M (L.tail : Int) cs', ?_⟩, fun y hy => hy.imp id (fun e => e.1), hX9⟩
  have hlb := hi0.lt lb hi0.xs.1
  have hmb := hi0.lt mb hi0.xs.2.1
  have hkv : ∀ y, kv'.ownBlock = some y → (kv.ownBlock = some y ∨ (w.heap.size ≤ y ∧ y < w7.heap.size)) := fun y hy => by
    rcases hb6 y hy with e | e
    · exact .inl e
    · have := hK7.lt y hy
      exact .inr ⟨by omega, this⟩
  refine ⟨hw9, (hK7.keep hF8 (fun _ _ e => e)).keep hf9 (fun y hy e => ?_), hM9, ?_, ?_, ⟨.inl hi0.xs.1, .inl hi0.xs.2.1, fun y hy => ?_, fun y hy => ?_⟩, ⟨?_, ?_, ?_⟩, fun y hy => ?_⟩
  · rcases hkv y hy with q | q
    · exact hi.km (by rw [q, e])
    · omega
  · rw [keys_setD, keys_setD, hi.keys]
  · intro k cs hm
    have hnd : getD M (L.tail : Int) = none := by
      rw [getD_none, hi.keys]
      intro hm
      obtain ⟨x, hx, hxe⟩ := List.mem_map.1 hm
      have := (h.wf.ok x hx).2.2.2.2
      omega
    have hnd2 : getD L.recs (L.tail : Int) = none := by
      rw [getD_none, ← hi.keys, ← getD_none]; exact hnd
    rw [setD_new _ _ _ hnd] at hm
    show ∃ r', (k, r') ∈ setD L.recs (L.tail : Int) (atR r L.tail) ∧ _
    rw [setD_new _ _ _ hnd2]
    rcases List.mem_append.1 hm with hm | hm
    · obtain ⟨r', q1, q2⟩ := hR7 hF8 k cs hm
      exact ⟨r', List.mem_append_left _ q1, (q2.mono (fun y hy => .inl hy)).keep hf9 (by
        rintro y (hy | hy) rfl
        · exact hi.ps.2.1 hy
        · omega)⟩
    · simp only [List.mem_singleton, Prod.mk.injEq] at hm
      obtain ⟨rfl, rfl⟩ := hm
      exact ⟨_, List.mem_append_right _ (by simp), (hheld.mono (fun y hy => .inr hy)).keep hf9 (by
        rintro y (hy | hy) rfl
        · exact hi.ps.2.1 hy
        · omega)⟩
  · rcases hkv y hy with q | q
    · exact .inl (hi0.xs.2.2.1 y q)
    · exact .inr ⟨q.1, by omega⟩
  · rcases hy with q | q
    · exact .inl (hi0.xs.2.2.2 y q)
    · exact .inr ⟨by omega, by omega⟩
  · rintro (q | q)
    · exact hi.ps.1 q
    · omega
  · rintro (q | q)
    · exact hi.ps.2.1 q
    · omega
  · rintro y hy (q | q)
    · rcases hkv y hy with e | e
      · exact hi.ps.2.2 y e q
      · have := hi0.lt y (hi0.xs.2.2.2 y q); omega
    · have := hK7.lt y hy
      omega
  · rcases hy with q | q
    · have := hi0.lt y q; omega
    · exact q.2
end Go.Proofs.YthbngnlmgplijaaGreatDoor

namespace Go.Proofs.YthbngnlmgplijaaGreatDoor
open Go.Al Go.Proofs
set_option linter.unusedVariables false
set_option linter.unusedSimpArgs false
set_option linter.unusedSectionVars false
set_option maxRecDepth 100000

theorem fold_min2 (a b : Int) : foldV0 min2V [iv a, iv b] = some (iv (min a b)) := by
  have : min2V (iv a) (iv b) = some (iv (min a b)) := by
    show some (iv (if b < a then b else a)) = _
    congr 2
    split <;> omega
  simp only [foldV0, foldV, this, Option.bind_some]
theorem wname_spec (w : World) {k : Nat} (hk : k + 1 ≤ 9223372036854775807) : Cl Tryz.prog 179 [iv (k : Int)] w fun v w' => v = stv (blkN k) ∧ Fm (fun _ => False) w w' := by
  refine c179 ?_; unfold T179
  have e1 : IntKind.i64.wrap ((k : Int) + 1) = ((k + 1 : Nat) : Int) := by rw [wrap_id] <;> omega
  have e2 := rem_nat (TypeDesc.int IntKind.i64) (n := k + 1) (m := 4294967296) (by decide) hk (b := 4294967296) rfl
  simp only [RS0, RS1, RS2, RS3, RS4, RS5, e1, e2]
  refine (big_spec w (n := (((k + 1) % 4294967296 : Nat) : Int)) (by unfold In; omega) 4).mono ?_
  rintro _ w1 ⟨rfl, hf⟩
  refine ⟨?_, hf⟩
  unfold blkN
  rw [show (4 : Int) = ((4 : Nat) : Int) from rfl, bigB_of (by omega) (by omega)]
theorem wof_spec (w : World) {n : Nat} (h : 1 ≤ n) (hn : n ≤ 9223372036854775807) : Cl Tryz.prog 97 [iv (n : Int)] w fun v w' => v = iv (((n - 1) / 54 : Nat) : Int) ∧ w' = w := by
  refine c97 ?_; unfold T97
  have e1 : IntKind.i64.wrap ((n : Int) - 1) = ((n - 1 : Nat) : Int) := by rw [wrap_id] <;> omega
  have e2 := quo_nat (TypeDesc.int IntKind.i64) (n := n - 1) (m := 54) (by decide) (by omega) (b := 54) rfl
  simp only [RS0, RS1, RS2, RS3, RS4, RS5, e1, e2]
  exact ⟨(by trivial), (by trivial)⟩
theorem wfirst_spec (w : World) {k : Nat} (hk : k * 54 + 1 ≤ 9223372036854775807) : Cl Tryz.prog 98 [iv (k : Int)] w fun v w' => v = iv ((k * 54 + 1 : Nat) : Int) ∧ w' = w := by
  refine c98 ?_; unfold T98
  have e1 : IntKind.i64.wrap ((k : Int) * 54) = ((k * 54 : Nat) : Int) := by rw [wrap_id] <;> omega
  have e2 : IntKind.i64.wrap (((k * 54 : Nat) : Int) + 1) = ((k * 54 + 1 : Nat) : Int) := by rw [wrap_id] <;> omega
  simp only [RS0, RS1, RS2, RS3, RS4, RS5, e1, e2]
  exact ⟨(by trivial), (by trivial)⟩
theorem wseal_spec (w : World) {k : Nat} (hk : k + 1 ≤ 9223372036854775807) {b : Bs} (hb : b.length ≤ 54) : Cl Tryz.prog 100 [iv (k : Int), stv b] w fun v w' => v = stv (sealB k b) ∧ Fm (fun _ => False) w w' := by
  refine c100 ?_; unfold T100
  have e1 : cvI .u8 (iv (b.length : Int)) = some (.int .u8 (((UInt8.ofNat b.length).toNat : Nat) : Int)) := by
    show some (Value.int .u8 (IntKind.u8.wrap (b.length : Int))) = _
    rw [u8_wrap_nat, Nat.mod_eq_of_lt (by omega), u8_ofNat (by omega)]
  have e2 : IntKind.i64.wrap (54 - (b.length : Int)) = ((54 - b.length : Nat) : Int) := by rw [wrap_id] <;> omega
  have h4 := Lg.blk_len k
  have hz := Lg.zeros_len' (54 - b.length)
  simp only [RS0, RS1, RS2, RS3, RS4, RS5, str_size, e1]
  refine RunS_ok (bs38w _ _) ?_
  have hfa := Fm.alloc (fun _ => False) w (.cells #[.int .u8 (((UInt8.ofNat b.length).toNat : Nat) : Int)] 5)
  have hrow : BRow (w.alloc (.cells #[.int .u8 (((UInt8.ofNat b.length).toNat : Nat) : Int)] 5)) w.heap.size 5 [UInt8.ofNat b.length] := alloc_new _ _
  generalize w.alloc (.cells #[.int .u8 (((UInt8.ofNat b.length).toNat : Nat) : Int)] 5) = w1 at hfa hrow
  have hcv := hrow.conv (P := Tryz.prog) B38 (o := 0) (n := 1) (by simp) 1
  refine RunS_ok hcv ?_
  rw [show (([UInt8.ofNat b.length] : Bs).drop 0).take 1 = [UInt8.ofNat b.length] from rfl]
  refine (wname_spec w1 hk).mono ?_
  rintro _ w2 ⟨rfl, hf2⟩
  rw [sadd (by simp; omega)]
  simp only [RS0, RS1, RS2, RS3, RS4, RS5]
  rw [sadd (by simp; omega)]
  simp only [RS0, RS1, RS2, RS3, RS4, RS5, str_size, e2]
  refine (repeat_spec w2 (54 - b.length) (by omega)).mono ?_
  rintro _ w3 ⟨rfl, hf3⟩
  rw [sadd (by simp; omega)]
  simp only [RS0, RS1, RS2, RS3, RS4, RS5]
  rw [sadd (by simp; omega)]
  simp only [RS0, RS1, RS2, RS3, RS4, RS5]
  refine (wname_spec w3 hk).mono ?_
  rintro _ w4 ⟨rfl, hf4⟩
  rw [sadd (by simp; omega)]
  simp only [RS0, RS1, RS2, RS3, RS4, RS5]
  refine ⟨?_, Fmf hfa (Fmf hf2 (Fmf hf3 hf4))⟩
  unfold sealB
  simp only [List.append_assoc]
theorem quoB {n k : Nat} (h : n ≤ k) : (k : Int) - (n : Int) = ((k - n : Nat) : Int) := by omega

section
variable {w : World} {X : Nat → Prop} {lb db : Nat} {L : Lg}
theorem wsector_spec (h : LAt w X lb db L) {k : Nat} (hk : k ≤ 9223372036854775807) : Cl Tryz.prog 99 [pv lb, iv (k : Int)] w fun v w' => v = iv ((L.frm + k % L.n : Nat) : Int) ∧ Fm (fun _ => False) w w' := by
  obtain ⟨P, mb, kv, M, hi⟩ := h.ex
  have h1 := h.wf.big; have h2 := h.wf.n4
  have e1 := rem_nat (TypeDesc.int IntKind.i64) (n := k) (m := L.n) (by omega) hk (b := (L.n : Int)) rfl
  have hm := Nat.mod_lt k (show 0 < L.n by omega)
  have e2 : IntKind.i64.wrap ((L.frm : Int) + ((k % L.n : Nat) : Int)) = ((L.frm + k % L.n : Nat) : Int) := by rw [wrap_id] <;> omega
  refine c99 ?_; unfold T99
  simp only [RS0, RS1, RS2, RS3, RS4, RS5, hi.c1, hi.c2, e1, e2, true_and]
  exact Fm.drew _ _
theorem wbytes_spec (h : LAt w X lb db L) {k : Nat} (hk : L.base ≤ k * 54 + 1) (hk2 : k * 54 + 1 ≤ L.tail) : Cl Tryz.prog 101 [pv lb, iv (k : Int)] w fun v w' => v = stv (L.bytes k) ∧ Fm (fun _ => False) w w' := by
  obtain ⟨P, mb, kv, M, hi⟩ := h.ex
  have h1 := h.wf.low; have h2 := h.wf.small
  have ht : L.tail = L.base + L.kept.length := rfl
  have hfd := Fm.drew (fun _ => False) w
  have e1 : IntKind.i64.wrap (((k * 54 + 1 : Nat) : Int) - (L.base : Int)) = ((k * 54 + 1 - L.base : Nat) : Int) := by rw [wrap_id] <;> omega
  have e2 : IntKind.i64.wrap (((k * 54 + 1 - L.base : Nat) : Int) + 54) = ((k * 54 + 1 - L.base + 54 : Nat) : Int) := by rw [wrap_id] <;> omega
  have e3 : min ((k * 54 + 1 - L.base + 54 : Nat) : Int) ((L.kept.length : Nat) : Int) = ((min (k * 54 + 1 - L.base + 54) L.kept.length : Nat) : Int) := by omega
  refine c101 ?_; unfold T101
  refine ⟨fun w' => LIn w' X P lb db mb kv M L, hi.keep0 hfd, ?_⟩
  simp only [RS0, RS1, RS2, RS3, RS4, RS5]
  refine ⟨iv (L.base : Int), fun w' h' => ?_, ?_⟩
  · simp only [RS0, RS1, RS2, RS3, RS4, RS5, h'.c3] <;> trivial
  refine (wfirst_spec w.drew (by omega)).mono ?_
  rintro _ _ ⟨rfl, rfl⟩
  refine ⟨hi.keep0 hfd, ?_⟩
  have hfd2 := Fmf hfd (Fm.drew (fun _ => False) w.drew)
  have hi2 := hi.keep0 hfd2
  obtain ⟨u, q1, q2⟩ := hi2.kp.cut (P := Tryz.prog) B38 (i := k * 54 + 1 - L.base) (j := min (k * 54 + 1 - L.base + 54) L.kept.length) (by omega) (by omega)
  simp only [RS0, RS1, RS2, RS3, RS4, RS5, e1, hi.c4, e2, hi.kp.lenV, fold_min2, e3, q1, true_and]
  have e4 : (L.kept.drop (k * 54 + 1 - L.base)).take (min (k * 54 + 1 - L.base + 54) L.kept.length - (k * 54 + 1 - L.base)) = L.bytes k := by
    unfold Lg.bytes
    rw [List.take_eq_take_iff, List.length_drop]
    omega
  rw [e4] at q2
  exact RunS_ok q2 ⟨rfl, rfl, hfd2⟩
end
end Go.Proofs.YthbngnlmgplijaaGreatDoor

namespace Go.Proofs.YthbngnlmgplijaaGreatDoor
open Go.Al Go.Proofs
set_option linter.unusedVariables false
set_option linter.unusedSimpArgs false
set_option linter.unusedSectionVars false
set_option maxRecDepth 100000

theorem flushGo_end (L : Lg) (f k : Nat) (d : Dk) (h : L.tail ≤ k * 54 + 1) : L.flushGo f k d = (d, 0) := by
  cases f with
  | zero => rfl
  | succ f =>
    rw [Lg.flushGo]
    have : decide (k * 54 + 1 < L.tail) = false := by rw [decide_eq_false_iff_not]; omega
    rw [this]; rfl
def FD (lb db g m : Nat) (y : Nat) : Prop := y = lb ∨ y = db ∨ y = g ∨ y = m
set_option maxHeartbeats 4000000 in
theorem wflush_spec {w : World} {X : Nat → Prop} {lb db g m : Nat} {L : Lg} {d : Dk} (h : LAt w X lb db L) (hd : DAt w db g m d) (hX : ¬ X db ∧ ¬ X g ∧ ¬ X m) (upto : Int) :
    Cl Tryz.prog 26 [pv lb, iv upto] w fun v w' => v = iv (L.flush upto d).2.2 ∧ LAt w' X lb db (L.flush upto d).1 ∧ DAt w' db g m (L.flush upto d).2.1 ∧ Fm (FD lb db g m) w w' := by
  have h1 := h.wf.st; have h2 := h.wf.low; have h3 := h.wf.hi; have h4 := h.wf.bs
  have hb := Lg.baseOf_le h1.1
  rw [← h4] at hb
  have ht : L.tail = L.base + L.kept.length := rfl
  have up0 : ∀ {a b : World}, Fm (fun _ => False) a b → Fm (FD lb db g m) a b := fun hf => hf.mono (fun _ _ e => e.elim)
  have hXD : ∀ y, X y → ¬ (y = db ∨ y = g ∨ y = m) := by
    rintro y hy (rfl | rfl | rfl)
    · exact hX.1 hy
    · exact hX.2.1 hy
    · exact hX.2.2 hy
  have hfl : L.flush upto d = bif decide (upto < (L.last : Int)) || decide (L.last = L.tail) then (L, d, 0) else
      bif decide ((L.flushE d).2 = 0) then (bif decide ((L.flushE d).1.sync.2 = 0) then ({ L with last := L.tail }, (L.flushE d).1.sync.1, 0) else (L, (L.flushE d).1.sync.1, (L.flushE d).1.sync.2))
      else (L, (L.flushE d).1, (L.flushE d).2) := rfl
  refine c26 ?_; unfold T26
  simp only [RS0, RS1, RS2, RS3, RS4, RS5]
  refine (wtail_spec h).mono ?_
  rintro _ w2 ⟨rfl, hf2⟩
  have hL2 := h.keep0 hf2
  have hd2 := hd.keep0 hf2
  obtain ⟨P, mb, kv, M, hi2⟩ := hL2.ex
  cases e1 : decide (upto < (L.last : Int)) with
  | true =>
    rw [e1, Bool.true_or, cond_true] at hfl
    rw [hfl]
    simp only [RS0, RS1, RS2, RS3, RS4, RS5, hi2.c6, e1]
    exact ⟨(by trivial), hL2, hd2, up0 hf2⟩
  | false =>
  have e2 : ((L.last : Int) == (L.tail : Int)) = decide (L.last = L.tail) := by
    rw [beq_dec, decide_eq_decide]; omega
  cases e3 : decide (L.last = L.tail) with
  | true =>
    rw [e1, e3, Bool.false_or, cond_true] at hfl
    rw [hfl]
    simp only [RS0, RS1, RS2, RS3, RS4, RS5, hi2.c6, e1, e2, e3]
    exact ⟨(by trivial), hL2, hd2, up0 hf2⟩
  | false =>
  rw [e1, e3, Bool.false_or, cond_false] at hfl
  rw [decide_eq_false_iff_not] at e3
  have h3' := h3 (by omega)
  have e3' : decide (L.last = L.tail) = false := by simpa using e3
  have hbl : L.base ≤ (L.last - 1) / 54 * 54 + 1 := by rw [h4]; unfold Lg.baseOf; omega
  simp only [RS0, RS1, RS2, RS3, RS4, RS5, hi2.c6, e1, e2, e3']
  refine (wof_spec w2 (n := L.last) (by omega) (by omega)).mono ?_
  rintro _ w2 ⟨rfl, rfl⟩
  refine ⟨fun vs w' => ∃ (k f : Nat) (e : Dk), vs = [iv (k : Int)] ∧ L.base ≤ k * 54 + 1 ∧ L.tail ≤ k * 54 + 1 + f ∧ k * 54 ≤ 4611686018427600000 ∧ LAt w' X lb db L ∧ DAt w' db g m e ∧ Fm (fun y => y = db ∨ y = g ∨ y = m) w w' ∧ L.flushGo f k e = L.flushE d,
    fun vs _ => ((L.tail : Int) - 54 * nth vs 0).toNat, ⟨(L.last - 1) / 54, L.kept.length + 1, d, rfl, ?_, ?_, ?_, hL2, hd2, hf2.mono (fun _ _ e => e.elim), rfl⟩, ?_⟩
  · exact hbl
  · omega
  · omega
  rintro _ w3 kval ⟨k, f, e, hvs, k1, k2, k3, hL3, hd3, hF3, hgo⟩
  cases hvs
  refine (wfirst_spec w3 (k := k) (by omega)).mono ?_
  rintro _ w3 ⟨rfl, rfl⟩
  by_cases hlt : k * 54 + 1 < L.tail
  · have d1 : decide (((k * 54 + 1 : Nat) : Int) < (L.tail : Int)) = true := by rw [decide_eq_true_eq]; omega
    have d2 : decide (k * 54 + 1 < L.tail) = true := by rw [decide_eq_true_eq]; exact hlt
    obtain ⟨f', rfl⟩ : ∃ f', f = f' + 1 := ⟨f - 1, by omega⟩
    rw [Lg.flushGo, d2, cond_true] at hgo
    simp only [RS0, RS1, RS2, RS3, RS4, RS5, d1]
    have hfd := Fm.drew (fun _ => False) w3
    refine ⟨fun w' => Fm (fun _ => False) w3 w', hfd, ?_⟩
    refine ⟨pv db, fun w' h' => ?_, ?_⟩
    · obtain ⟨P', mb', kv', M', hi'⟩ := (hL3.keep0 h').ex
      simp only [RS0, RS1, RS2, RS3, RS4, RS5, hi'.c0] <;> trivial
    refine (wsector_spec (hL3.keep0 hfd) (k := k) (by omega)).mono ?_
    rintro _ w4 ⟨rfl, hf4⟩
    have hF4 := Fmf hfd hf4
    refine ⟨hF4, ?_⟩
    refine (wbytes_spec (hL3.keep0 hF4) k1 (by omega)).mono ?_
    rintro _ w5 ⟨rfl, hf5⟩
    have hF5 := Fmf hF4 hf5
    refine ⟨hF5, ?_⟩
    refine (wseal_spec w5 (k := k) (by omega) (Lg.bytes_len L k)).mono ?_
    rintro _ w6 ⟨rfl, hf6⟩
    have hF6 := Fmf hF5 hf6
    refine ⟨hF6, ?_⟩
    refine (dwrite_spec (hd3.keep0 hF6) ((L.frm + k % L.n : Nat) : Int) (sealB k (L.bytes k)) (by rw [Lg.seal_len (Lg.bytes_len L k)]; omega)).mono ?_
    rintro _ w7 ⟨rfl, hd7, hf7⟩
    have hL7 := (hL3.keep0 hF6).keep hf7 hXD
    have hF7 : Fm (fun y => y = db ∨ y = g ∨ y = m) w w7 := (hF3.trans (hF6.mono (fun _ _ e => e.elim)) (fun _ _ e => e) (fun _ _ e => e)).trans hf7 (fun _ _ e => e) (fun _ _ e => e)
    have hput : e.write ((L.frm + k % L.n : Nat) : Int) (sealB k (L.bytes k)) = L.put k e := rfl
    rw [hput] at hd7 ⊢
    simp only [RS0, RS1, RS2, RS3, RS4, RS5, bne_dec]
    cases hz : decide ((L.put k e).2 = 0) with
    | false =>
      rw [hz, cond_false] at hgo
      have hz2 : decide ((L.flushE d).2 = 0) = false := by rw [← hgo]; exact hz
      rw [hz2, cond_false, ← hgo] at hfl
      rw [hfl]
      simp only [RS0, RS1, RS2, RS3, RS4, RS5, Bool.not_false]
      exact ⟨(by trivial), hL7, hd7, hF7.mono (fun _ _ e => .inr e)⟩
    | true =>
      rw [hz, cond_true] at hgo
      have e5 : IntKind.i64.wrap ((k : Int) + 1) = ((k + 1 : Nat) : Int) := by rw [wrap_id] <;> omega
      simp only [RS0, RS1, RS2, RS3, RS4, RS5, Bool.not_true, e5]
      exact ⟨⟨k + 1, f', (L.put k e).1, rfl, by omega, by omega, by omega, hL7, hd7, hF7, hgo⟩, by simp only [nth_0]; omega⟩
  · have d1 : decide (((k * 54 + 1 : Nat) : Int) < (L.tail : Int)) = false := by rw [decide_eq_false_iff_not]; omega
    rw [flushGo_end L f k e (by omega)] at hgo
    rw [← hgo] at hfl
    simp only [decide_true, cond_true] at hfl
    obtain ⟨P3, mb3, kv3, M3, hi3⟩ := hL3.ex
    simp only [RS0, RS1, RS2, RS3, RS4, RS5, d1, hi3.c0]
    refine (dsync_spec hd3).mono ?_
    rintro _ w4 ⟨rfl, hd4, hf4⟩
    have hL4 := hL3.keep hf4 hXD
    have hF4 := hF3.trans hf4 (fun _ _ e => e) (fun _ _ e => e)
    simp only [RS0, RS1, RS2, RS3, RS4, RS5, bne_dec]
    cases hz : decide (e.sync.2 = 0) with
    | false =>
      rw [hz, cond_false] at hfl
      rw [hfl]
      simp only [RS0, RS1, RS2, RS3, RS4, RS5, Bool.not_false]
      exact ⟨(by trivial), hL4, hd4, hF4.mono (fun _ _ e => .inr e)⟩
    | true =>
      rw [hz, cond_true] at hfl
      rw [hfl]
      obtain ⟨P4, mb4, kv4, M4, hi4⟩ := hL4.ex
      simp only [RS0, RS1, RS2, RS3, RS4, RS5, Bool.not_true]
      refine St_blk hi4.st (by show 6 < 9; decide) rfl ?_
      intro w5 hw5 hs5 hf5
      have hlb := hL4.lb
      refine ⟨(by trivial), ⟨h.wf.last, P4, mb4, kv4, M4, hi4.upd hw5 hf5 rfl rfl⟩, hd4.keep hf5 (fun e => hX.1 (by rw [e]; exact hlb)) (fun e => hX.2.1 (by rw [e]; exact hlb)) (fun e => hX.2.2 (by rw [e]; exact hlb)), (hF4.mono (fun _ _ e => .inr e)).trans hf5 (fun _ _ e => e) (fun _ _ e => .inl e)⟩
end Go.Proofs.YthbngnlmgplijaaGreatDoor
