/- The chapter's example of records. -/
import Derived.Test.YtodnakepbdhfkaaDoorRcSame
namespace Go.Proofs.YtodnakepbdhfkaaDoor
open Go.Al Go.Proofs
set_option linter.unusedVariables false
set_option linter.unusedSimpArgs false
set_option linter.unusedSectionVars false
set_option maxRecDepth 100000

def rcS : Rc := ⟨1, 0, 0, 8, 0, 1, 0, 0, 0, 0, [], [], [], [], [], []⟩
theorem encI_small {n : Nat} (h : n ≤ 127) : encI n = [UInt8.ofNat n] := by rw [encI_nat, encN_small h]
theorem bodyS : rBody rcS = [1, 0, 0, 8, 0, 1, 0, 0, 0, 0, 0, 0, 0, 0, 0, 0] := by
  have e0 : encI 0 = [0] := encI_small (n := 0) (by omega)
  have e1 : encI 1 = [1] := encI_small (n := 1) (by omega)
  have e8 : encI 8 = [8] := encI_small (n := 8) (by omega)
  have e0' : encI ((0 : Nat) : Int) = [0] := e0
  simp only [rBody, rcS, numsB, headL, txtB, listB, List.length_nil, List.flatMap_cons, List.flatMap_nil, e0, e0', e1, e8]
  rfl
theorem bndS : Bnd rcS := ⟨by intro n hn; simp [rNums, rcS, prs] at hn; unfold okN; omega, by simp [rcS], by simp [rcS], by simp [rcS], by simp [rcS], by simp [rcS], by simp [rcS], by simp [rcS], by simp [rcS]⟩
theorem rowsS (w : World) (b : Nat) : Rows w b rcS nl nl nl nl nl := ⟨World.ownsRow_nil _ _ _ _, World.ownsRow_nil _ _ _ _, ⟨[], rfl, World.ownsRow_nil _ _ _ _, by simp⟩, World.ownsRow_nil _ _ _ _, World.ownsRow_nil _ _ _ _⟩
theorem checkS : (rCheck rcS).2 = 0 := by
  have : rCheck rcS = rInner rcS := rfl
  rw [this]
  unfold rInner
  rw [bodyS]
  rfl
theorem check0 : (rCheck rc0).2 = 41 := rfl
theorem lsnS : ∀ m ∈ rcS.imgs, m.2.lsn ≤ 9223372036854775807 := by simp [rcS]
theorem bld52s (w : World) : (Instr.build 52 #[(0, iv 1), (3, .int .u8 8), (5, iv 1)]).run Tryd.prog w = .ok (.agg (rcs rcS nl nl nl nl nl)) w := by kernel_rfl
theorem small_spec (w : World) : Cl Tryd.prog 73 [] w fun v w' => v = .agg (rcs rcS nl nl nl nl nl) ∧ Fm (fun _ => False) w w' := by
  refine c73 ?_; unfold T73
  refine New_any ?_
  intro x w1 hx hs1 hw1 hf1
  refine RunS_ok (bld52s _) ?_
  refine St_all hw1 rfl rfl (rcs_one rfl rfl rfl rfl rfl) ?_
  intro w2 hw2 hs2 hf2
  have hret : RetO (resL Tryd.prog (fun j => bif Nat.beq j 0 then pv x else undef) w2 [(ResultVar.cell 0 52)]) w2 (fun v w' => v = .agg (rcs rcS nl nl nl nl nl) ∧ Fm (fun _ => False) w w') := by
    simp only [resL, resV_blk (f := fun j => bif Nat.beq j 0 then pv x else undef) (a := 0) rfl agg52 size52 hw2 rfl, RetO, RetV]
    exact ⟨(by trivial), Fm.own hf1 hf2 (by rintro y rfl; omega)⟩
  exact hret
theorem min_fold (a b : Int) : foldV0 min2V [iv a, iv b] = some (iv (min a b)) := by
  have : min2V (iv a) (iv b) = some (iv (min a b)) := by
    show some (iv (if b < a then b else a)) = _
    congr 2
    split <;> omega
  simp only [foldV0, foldV, this, Option.bind_some]

set_option maxHeartbeats 4000000 in
theorem recawake_spec (w : World) : Cl Tryd.prog 43 [] w fun r w' => r = .bool true ∧ Fm (fun _ => False) w w' := by
  refine c43 ?_; unfold T43
  refine (small_spec w).mono ?_
  rintro _ w1 ⟨rfl, hf1⟩
  have hS : ∀ w', RcAs w' (rcs rcS nl nl nl nl nl) rcS := fun w' => (rowsS w' 0).asR bndS
  have h0 : ∀ w', RcAs w' (rcs rc0 nl nl nl nl nl) rc0 := fun w' => (rows0 w' 0).asR bnd0
  refine (renc_spec (hS w1)).mono ?_
  rintro _ w2 ⟨rfl, hf2⟩
  have hF2 := Fmf hf1 hf2
  have hdb := dec_back checkS lsnS []
  have hds := dec_short checkS lsnS (k := 7)
  have hen := rEnc_ok checkS lsnS
  rw [bodyS] at hen
  have hl : (rEnc rcS).1.length = 24 := by
    rw [hen]
    simp only [List.length_append, beN_len, List.length_cons, List.length_nil]
  have h3 : (rEnc rcS).1[3]? = some 16 := by
    rw [hen]
    simp only [List.append_assoc]
    rw [List.getElem?_append_left (by rw [beN_len]; omega)]
    rfl
  have h8 : (rEnc rcS).1[8]? = some 1 := by
    rw [hen]
    simp only
    rw [List.getElem?_append_right (by rw [List.length_append, beN_len, beN_len]; omega), List.length_append, beN_len, beN_len]
    rfl
  have he : (rEnc rcS).2 = 0 := by rw [hen]
  rw [he]
  rw [List.append_nil] at hdb
  have hds' := hds (by omega)
  generalize (rEnc rcS).1 = s at hdb hds' hl h3 h8 ⊢
  simp only [RS0, RS1, RS2, RS3, RS4, RS5]
  refine (rdec_spec w2 s (by omega)).mono ?_
  rintro _ w3 ⟨cs3, rfl, hO3, hf3⟩
  rw [hdb] at hO3 ⊢
  have hA3 : RcAs w3 cs3 rcS := hO3.as
  have hF3 := Fmf hF2 hf3
  simp only [RS0, RS1, RS2, RS3, RS4, RS5]
  refine New_any ?_
  intro x5 w4 hx5 hs4 hw4 hf4
  refine St_all hw4 rfl hA3.size hA3.one ?_
  intro w5 hw5 hs5 hf5
  have hf35 : Fm (fun _ => False) w3 w5 := Fm.own hf4 hf5 (by rintro y rfl; omega)
  have hF5 := Fmf hF3 hf35
  have hmin := min_fold 24 7
  have hm7 : min (24 : Int) 7 = ((7 : Nat) : Int) := by omega
  rw [hm7] at hmin
  have s7 := slS_hi (l := s) (i := 7) (by omega) .i64
  have hsz : (str s).size = 24 := by rw [str_size]; exact hl
  have hmin' : foldV0 min2V [Value.int .i64 (((str s).size : Nat) : Int), Value.int .i64 7] = some (iv ((7 : Nat) : Int)) := by rw [hsz]; exact hmin
  simp only [RS0, RS1, RS2, RS3, RS4, RS5, hmin', s7]
  refine (rdec_spec w5 (s.take 7) (by rw [List.length_take]; omega)).mono ?_
  rintro _ w6 ⟨cs6, rfl, hO6, hf6⟩
  rw [hds'] at hO6 ⊢
  have hA6 : RcAs w6 cs6 rc0 := hO6.as
  have hq6 := hf6.heap hw5 (fun e => e)
  have hF6 := Fmf hF5 hf6
  simp only [RS0, RS1, RS2, RS3, RS4, RS5]
  refine New_any ?_
  intro x7 w7 hx7 hs7 hw7 hf7
  refine St_all hw7 rfl hA6.size hA6.one ?_
  intro w8 hw8 hs8 hf8
  have hf68 : Fm (fun _ => False) w6 w8 := Fm.own hf7 hf8 (by rintro y rfl; omega)
  have hf69 := Fmf hf68 (Fm.drew (fun _ => False) w8)
  have hq9 : w8.drew.heap[x5]? = some (.cells cs3 52) := hf69.heap hq6 (fun e => e)
  have hF9 := Fmf hF6 hf69
  refine ⟨fun w' => w'.heap[x5]? = some (.cells cs3 52), hq9, ?_⟩
  have hA9 := hA3.keep (Fmf hf35 (Fmf hf6 hf69))
  generalize w8.drew = w9 at hf69 hq9 hF9 hA9
  have e24 : ((((str s).size : Nat) : Int) == 24) = true := by rw [hsz]; rfl
  have i3 : ixS (stv s) (Value.int .i64 3) = some (.int .u8 16) := ixS_str h3 .i64
  have i8 : ixS (stv s) (Value.int .i64 8) = some (.int .u8 1) := ixS_str h8 .i64
  have e24' : (((s.length : Nat) : Int) == 24) = true := by rw [hl]; rfl
  simp only [RS0, RS1, RS2, RS3, RS4, RS5, beq_self_eq_true, e24, e24', i3, i8]
  refine ⟨.agg cs3, fun w10 h10 => ?_, ?_⟩
  · simp only [RS0, RS1, RS2, RS3, RS4, RS5, cellsV_blk h10 hA3.size]; trivial
  refine (small_spec w9).mono ?_
  rintro _ w10 ⟨rfl, hf10⟩
  refine ⟨hf10.heap hq9 (fun e => e), ?_⟩
  refine (rcsame_spec (hA9.keep hf10) (hS w10)).mono ?_
  rintro _ w11 ⟨rfl, hf11⟩
  simp only [RS0, RS1, RS2, RS3, RS4, RS5, decide_true]
  refine RunS_ok (bld52z _) ⟨rfl, ?_⟩
  refine (check_spec (h0 w11)).mono ?_
  rintro _ w12 ⟨rfl, hf12⟩
  rw [check0]
  simp only [RS0, RS1, RS2, RS3, RS4, RS5, beq_self_eq_true]
  exact ⟨(by trivial), Fmf hF9 (Fmf hf10 (Fmf hf11 hf12))⟩

end Go.Proofs.YtodnakepbdhfkaaDoor
