/- Laid for one claim by slim.py out of: parts. -/
import Derived.Test.YthbngnlmgplijaaGreatDoorWplB
set_option maxRecDepth 100000
set_option maxHeartbeats 0
set_option linter.unusedVariables false
set_option linter.unusedSimpArgs false
set_option linter.unusedSectionVars false
open Go.Proofs.Tryz (prog)
namespace Go.Proofs.YthbngnlmgplijaaGreatDoor
open Go.Al Go.Proofs
open Go.ChangeMaps (setBlock)
theorem jq (w : World) (n : Int) : Cl prog 47 [iv n] w fun v w' =>
  (n < 1 ∨ 65536 < n → v = .tuple #[.pointer none, iv 1] ∧ w' = w) ∧
  (¬ (n < 1 ∨ 65536 < n) → ∃ b q, v = .tuple #[pv b, iv 0] ∧ (∀ x, q.mine b x → w.heap.size ≤ x) ∧ DkAt w' b q (Dk.mk0 n.toNat) ∧ Fm (fun _ => False) w w') := by
 refine c47 ?_; unfold T47
 by_cases h1 : n < 1
 ·have e1 : decide (n < 1) = true := by simpa using h1
  simp only [RS, e1]
  exact ⟨fun _ => ⟨trivial, trivial⟩, fun h => absurd (.inl h1) h⟩
 have e1 : decide (n < 1) = false := by simpa using h1
 by_cases h2 : 65536 < n
 ·have e2 : decide (65536 < n) = true := by simpa using h2
  simp only [RS, e1, e2]
  exact ⟨fun _ => ⟨trivial, trivial⟩, fun h => absurd (.inr h2) h⟩
 have e2 : decide (65536 < n) = false := by simpa using h2
 have hno : ¬ (n < 1 ∨ 65536 < n) := by omega
 obtain ⟨k, rfl⟩ := Int.eq_ofNat_of_zero_le (show 0 ≤ n by omega)
 have hk : 1 ≤ k ∧ k ≤ 65536 := by omega
 simp only [RS, e1, e2]
 refine af (un w) (ao ?_)
 intro b w1 hb hs1 hw1 hf1
 refine af (BRow.make B44 w1 64 (by omega)) ?_
 have hf2 := Fm.alloc (fun _ => False) w1 (.cells (bc (List.replicate 64 0)).toArray 5)
 have hb2 : BRow (w1.alloc (.cells (bc (List.replicate 64 0)).toArray 5)) w1.heap.size 5 (List.replicate 64 0) := az _ _
 have hs2 := bo w1 (.cells (bc (List.replicate 64 0)).toArray 5)
 generalize w1.alloc (.cells (bc (List.replicate 64 0)).toArray 5) = w2 at hf2 hb2 hs2
 refine af (hb2.conv B44 (o := 0) (n := 64) (by simp) _) ?_
 rw [show (((List.replicate 64 0).drop 0).take 64 : Bs) = Dk.zsec from rfl]
 have hst2 := hf2.heap hw1 (fun e => e)
 have hF2 := Fmf hf1 hf2
 have hbase : ∃ base, base = w2.heap.size := ⟨_, rfl⟩
 obtain ⟨base, hbe⟩ := hbase
 have hbb : b < base := by omega
 have hwb : w.heap.size ≤ b := by omega
 refine ⟨fun vs w3 => ∃ (i : Nat) (vo vn vc : Value), vs = [iv (i : Nat)] ∧ i ≤ k ∧ w3.heap[b]? = some (.cells #[vo, vn, vc, iv 0, .bool false, iv 0] 93) ∧
   w3.ownsRow base 9 1 vo i (List.replicate i (stv Dk.zsec)) ∧ w3.ownsRow base 9 1 vn i (List.replicate i (stv Dk.zsec)) ∧ w3.ownsRow base 4 1 vc i (List.replicate i (Value.bool false)) ∧ (∀ g, vo.ownBlock = some g → vn.ownBlock ≠ some g) ∧ base ≤ w3.heap.size ∧ Fm (fun _ => False) w w3,
  fun vs _ => (k - nth vs 0).toNat, ⟨0, _, _, _, rfl, by omega, hst2, by simpa using World.ownsRow_nil w2 _ _ _, by simpa using World.ownsRow_nil w2 _ _ _, by simpa using World.ownsRow_nil w2 _ _ _, (by intro g hg; cases hg), by omega, hF2⟩, ?_⟩
 rintro _ w3 ii ⟨i, vo, vn, vc, hvs, hi, hst, ho, hn, hc, hap, hbs, hF⟩
 cases hvs
 have hw0 := hF2.size
 by_cases hlt : i < k
 ·have e3 : decide ((i : Int) < (k : Int)) = true := by rw [decide_eq_true_eq]; omega
  have e4 : IntKind.i64.wrap ((i : Int) + 1) = ((i + 1 : Nat) : Int) := by rw [ab] <;> omega
  have c0 : w3.cell? ⟨b, 0, none⟩ = some vo := by rw [ag hst]; rfl
  simp only [RS, e3, c0]
  refine bq xg (by omega) 59 (cs := [stv Dk.zsec]) rfl (uA _ _) (by intro u hu; simp at hu; subst hu; rfl) ho (by unfold maxLen; omega) (by omega) hbs ?_
  intro vo' w4 ho' hcase
  have hapo : ∀ g, vo'.ownBlock = some g → vn.ownBlock ≠ some g := by
   intro g hg hg2
   rcases hcase with ⟨g', k1, k2, _⟩ | ⟨g', k1, k2, _⟩
   ·rw [hg] at k2; cases k2; exact hap _ k1 hg2
   ·rw [hg] at k1; cases k1; have := (hn.lt _ hg2).2; omega
  obtain ⟨S, hfS, hS1, hS2, hS3⟩ : ∃ S : Nat → Prop, Fm S w3 w4 ∧ (∀ x, S x → base ≤ x) ∧ (∀ g, vn.ownBlock = some g → ¬ S g) ∧ (∀ g, vc.ownBlock = some g → ¬ S g) := by
   rcases hcase with ⟨g', k1, k2, k3⟩ | ⟨g', k1, k2, k3⟩
   ·exact ⟨_, k3, fun x hx => by rw [hx]; exact (ho.lt _ k1).1, fun g hg e => by subst e; exact hap _ k1 hg, fun g hg e => by subst e; exact aI ho hc (by decide) _ k1 hg⟩
   ·exact ⟨_, k3, fun _ e => e.elim, fun _ _ e => e, fun _ _ e => e⟩
  have hst4 := hfS.heap hst (fun e => by have := hS1 _ e; omega)
  have hn4 := ae hn hfS (fun g _ _ hg => hS2 g hg)
  have hc4 := ae hc hfS (fun g _ _ hg => hS3 g hg)
  have hF4 := Fm.own hF hfS (fun x hx => by have := hS1 x hx; omega)
  have hbs4 := Nat.le_trans hbs hfS.size
  clear hfS hS1 hS2 hS3 hcase hap S hst hn hc ho c0 hF hbs w3
  refine ay hst4 (by simp) (aF ho') ?_
  intro w5 hst5 hs5 hf5
  replace hst5 : w5.heap[b]? = some (.cells #[vo', vn, vc, iv 0, .bool false, iv 0] 93) := hst5
  have c1 : w5.cell? ⟨b, 1, none⟩ = some vn := by rw [ag hst5]; rfl
  have hne : ∀ g, base ≤ g → ¬ g = b := fun g hg => by omega
  have ho5 := ae ho' hf5 (fun g hg _ _ => hne g hg)
  have hn5 := ae hn4 hf5 (fun g hg _ _ => hne g hg)
  have hc5 := ae hc4 hf5 (fun g hg _ _ => hne g hg)
  have hF5 := Fm.own hF4 hf5 (by rintro x rfl; omega)
  simp only [RS, c1]
  refine bq xg (by omega) 59 (cs := [stv Dk.zsec]) rfl (uA _ _) (by intro u hu; simp at hu; subst hu; rfl) hn5 (by unfold maxLen; omega) (by omega) (by omega) ?_
  intro vn' w6 hn' hcase
  have hapn : ∀ g, vo'.ownBlock = some g → vn'.ownBlock ≠ some g := by
   intro g hg hg2
   rcases hcase with ⟨g', k1, k2, _⟩ | ⟨g', k1, k2, _⟩
   ·rw [hg2] at k2; cases k2; exact hapo _ hg k1
   ·rw [hg2] at k1; cases k1; have := (ho5.lt _ hg).2; omega
  obtain ⟨S, hfS, hS1, hS2, hS3⟩ : ∃ S : Nat → Prop, Fm S w5 w6 ∧ (∀ x, S x → base ≤ x) ∧ (∀ g, vo'.ownBlock = some g → ¬ S g) ∧ (∀ g, vc.ownBlock = some g → ¬ S g) := by
   rcases hcase with ⟨g', k1, k2, k3⟩ | ⟨g', k1, k2, k3⟩
   ·exact ⟨_, k3, fun x hx => by rw [hx]; exact (hn5.lt _ k1).1, fun g hg e => by subst e; exact hapo _ hg k1, fun g hg e => by subst e; exact aI hn5 hc5 (by decide) _ k1 hg⟩
   ·exact ⟨_, k3, fun _ e => e.elim, fun _ _ e => e, fun _ _ e => e⟩
  have hst6 := hfS.heap hst5 (fun e => by have := hS1 _ e; omega)
  have ho6 := ae ho5 hfS (fun g _ _ hg => hS2 g hg)
  have hc6 := ae hc5 hfS (fun g _ _ hg => hS3 g hg)
  have hF6 := Fm.own hF5 hfS (fun x hx => by have := hS1 x hx; omega)
  have hbs6 : base ≤ w6.heap.size := Nat.le_trans (by omega) hfS.size
  clear hfS hS1 hS2 hS3 hcase S
  refine ay hst6 (by simp) (aF hn') ?_
  intro w7 hst7 hs7 hf7
  replace hst7 : w7.heap[b]? = some (.cells #[vo', vn', vc, iv 0, .bool false, iv 0] 93) := hst7
  have c2 : w7.cell? ⟨b, 2, none⟩ = some vc := by rw [ag hst7]; rfl
  have ho7 := ae ho6 hf7 (fun g hg _ _ => hne g hg)
  have hn7 := ae hn' hf7 (fun g hg _ _ => hne g hg)
  have hc7 := ae hc6 hf7 (fun g hg _ _ => hne g hg)
  have hF7 := Fm.own hF6 hf7 (by rintro x rfl; omega)
  simp only [RS, c2]
  refine bq xn (by omega) 73 (cs := [Value.bool false]) rfl (wu _ _) (by intro u hu; simp at hu; subst hu; rfl) hc7 (by unfold maxLen; omega) (by omega) (by omega) ?_
  intro vc' w8 hc' hcase
  obtain ⟨S, hfS, hS1, hS2, hS3⟩ : ∃ S : Nat → Prop, Fm S w7 w8 ∧ (∀ x, S x → base ≤ x) ∧ (∀ g, vo'.ownBlock = some g → ¬ S g) ∧ (∀ g, vn'.ownBlock = some g → ¬ S g) := by
   rcases hcase with ⟨g', k1, k2, k3⟩ | ⟨g', k1, k2, k3⟩
   ·exact ⟨_, k3, fun x hx => by rw [hx]; exact (hc7.lt _ k1).1, fun g hg e => by subst e; exact aI ho7 hc7 (by decide) _ hg k1, fun g hg e => by subst e; exact aI hn7 hc7 (by decide) _ hg k1⟩
   ·exact ⟨_, k3, fun _ e => e.elim, fun _ _ e => e, fun _ _ e => e⟩
  have hst8 := hfS.heap hst7 (fun e => by have := hS1 _ e; omega)
  have ho8 := ae ho7 hfS (fun g _ _ hg => hS2 g hg)
  have hn8 := ae hn7 hfS (fun g _ _ hg => hS3 g hg)
  have hF8 := Fm.own hF7 hfS (fun x hx => by have := hS1 x hx; omega)
  have hbs8 : base ≤ w8.heap.size := Nat.le_trans (by omega) hfS.size
  refine ay hst8 (by simp) (aF hc') ?_
  intro w9 hst9 hs9 hf9
  simp only [RS, e4]
  refine ⟨⟨i + 1, vo', vn', vc', rfl, by omega, hst9, ?_, ?_, ?_, hapn, by omega, Fm.own hF8 hf9 (by rintro x rfl; omega)⟩, by simp only [bw]; omega⟩
  ·rw [List.replicate_succ']; exact ae ho8 hf9 (fun g hg _ _ => hne g hg)
  ·rw [List.replicate_succ']; exact ae hn8 hf9 (fun g hg _ _ => hne g hg)
  ·rw [List.replicate_succ']; exact ae hc' hf9 (fun g hg _ _ => hne g hg)
 ·have hie : i = k := by omega
  subst hie
  have e3 : decide ((i : Int) < (i : Int)) = false := by simp
  simp only [RS, e3]
  obtain ⟨go, co, rfl, o1, o2, o3, o4⟩ := PRow.of_own ho (by omega)
  obtain ⟨gn, cn, rfl, n1, n2, n3, n4⟩ := PRow.of_own hn (by omega)
  obtain ⟨gc, cc, rfl, c1, c2, c3, c4⟩ := PRow.of_own hc (by omega)
  refine ⟨fun h => absurd h hno, fun _ => ⟨b, ⟨go, gn, gc, co, cn, cc⟩, rfl, ?_, ⟨?_, ?_, ?_, ?_, ?_⟩, hF⟩⟩
  ·intro x hx
   have hx' : x = b ∨ x = go ∨ x = gn ∨ x = gc := hx
   omega
  ·rw [Int.toNat_natCast]
   have l1 : (Dk.mk0 i).old.length = i := by simp [Dk.mk0]
   have l2 : (Dk.mk0 i).cur.length = i := by simp [Dk.mk0]
   have l3 : (Dk.mk0 i).chg.length = i := by simp [Dk.mk0]
   rw [l1, l2, l3]; exact hst
  ·show PRow w3 go 9 ((List.replicate i Dk.zsec).map stv)
   rw [List.map_replicate]; exact o4
  ·show PRow w3 gn 9 ((List.replicate i Dk.zsec).map stv)
   rw [List.map_replicate]; exact n4
  ·show PRow w3 gc 4 ((List.replicate i false).map Value.bool)
   rw [List.map_replicate]; exact c4
  ·refine ⟨by show b ≠ go; omega, by show b ≠ gn; omega, by show b ≠ gc; omega, ?_, ?_, ?_⟩
   ·intro e; have e' : go = gn := e; subst e'; exact hap _ o2 n2
   ·intro e; have e' : go = gc := e; subst e'; exact aI ho hc (by decide) _ o2 c2
   ·intro e; have e' : gn = gc := e; subst e'; exact aI hn hc (by decide) _ n2 c2
end Go.Proofs.YthbngnlmgplijaaGreatDoor
namespace Go.Proofs
open Go.RowKit Go.Shelf
def Tryz.lays105_ren : Go.Shelf.Ren := ⟨fun | 105 => 95 | 212 => 173 | 99 => 174 | 165 => 175 | 166 => 176 | 170 => 177 | 169 => 178 | 263 => 208 | 264 => 209 | 206 => 210 | 240 => 211 | 241 => 212 | 276 => 223 | 277 => 224 | n => n, fun | 9 => 9 | 3 => 3 | 4 => 4 | 20 => 20 | 0 => 0 | 46 => 179 | 109 => 197 | 5 => 5 | 72 => 202 | 76 => 206 | 51 => 110 | 146 => 230 | 53 => 178 | 148 => 232 | 70 => 200 | 37 => 123 | 75 => 205 | 127 => 234 | 164 => 244 | 80 => 208 | n => n, fun | n => n⟩
theorem Tryz.lays105 : Go.Proofs.Lays.n105 prog Tryz.lays105_ren := {
 mixed := by kernel_rfl
 f99 := Tryz.func174.trans (congrArg some (by kernel_rfl))
 f105 := Tryz.func95.trans (congrArg some (by kernel_rfl))
 f165 := Tryz.func175.trans (congrArg some (by kernel_rfl))
 f166 := Tryz.func176.trans (congrArg some (by kernel_rfl))
 f169 := Tryz.func178.trans (congrArg some (by kernel_rfl))
 f170 := Tryz.func177.trans (congrArg some (by kernel_rfl))
 f206 := Tryz.func210.trans (congrArg some (by kernel_rfl))
 f212 := Tryz.func173.trans (congrArg some (by kernel_rfl))
 f240 := Tryz.func211.trans (congrArg some (by kernel_rfl))
 f241 := Tryz.func212.trans (congrArg some (by kernel_rfl))
 f263 := Tryz.func208.trans (congrArg some (by kernel_rfl))
 f264 := Tryz.func209.trans (congrArg some (by kernel_rfl))
 f276 := Tryz.func223.trans (congrArg some (by kernel_rfl))
 f277 := Tryz.func224.trans (congrArg some (by kernel_rfl))
 t0 := Tryz.underlying0
 a0 := Tryz.isAgg0
 z0 := Tryz.sizeOf0
 v0 := Tryz.zeroValue0
 t3 := Tryz.underlying3
 a3 := Tryz.isAgg3
 z3 := Tryz.sizeOf3
 v3 := Tryz.zeroValue3
 t4 := Tryz.underlying4
 a4 := Tryz.isAgg4
 z4 := Tryz.sizeOf4
 v4 := Tryz.zeroValue4
 t5 := Tryz.underlying5
 a5 := Tryz.isAgg5
 z5 := Tryz.sizeOf5
 v5 := Tryz.zeroValue5
 t9 := Tryz.underlying9
 a9 := Tryz.isAgg9
 z9 := Tryz.sizeOf9
 v9 := Tryz.zeroValue9
 t20 := Tryz.underlying20
 a20 := Tryz.isAgg20
 z20 := Tryz.sizeOf20
 v20 := Tryz.zeroValue20
 t37 := Tryz.underlying123
 a37 := Tryz.isAgg123
 z37 := Tryz.sizeOf123
 v37 := Tryz.zeroValue123
 t46 := Tryz.underlying179
 a46 := Tryz.isAgg179
 z46 := Tryz.sizeOf179
 v46 := Tryz.zeroValue179
 t51 := Tryz.underlying110
 a51 := Tryz.isAgg110
 z51 := Tryz.sizeOf110
 v51 := Tryz.zeroValue110
 t53 := Tryz.underlying178
 a53 := Tryz.isAgg178
 z53 := Tryz.sizeOf178
 v53 := Tryz.zeroValue178
 t70 := Tryz.underlying200
 a70 := Tryz.isAgg200
 z70 := Tryz.sizeOf200
 v70 := Tryz.zeroValue200
 t72 := Tryz.underlying202
 a72 := Tryz.isAgg202
 z72 := Tryz.sizeOf202
 v72 := Tryz.zeroValue202
 t75 := Tryz.underlying205
 a75 := Tryz.isAgg205
 z75 := Tryz.sizeOf205
 v75 := Tryz.zeroValue205
 t76 := Tryz.underlying206
 a76 := Tryz.isAgg206
 z76 := Tryz.sizeOf206
 v76 := Tryz.zeroValue206
 t109 := Tryz.underlying197
 a109 := Tryz.isAgg197
 z109 := Tryz.sizeOf197
 v109 := Tryz.zeroValue197
 t127 := Tryz.underlying234
 a127 := Tryz.isAgg234
 z127 := Tryz.sizeOf234
 v127 := Tryz.zeroValue234
 t146 := Tryz.underlying230
 a146 := Tryz.isAgg230
 z146 := Tryz.sizeOf230
 v146 := Tryz.zeroValue230
 t148 := Tryz.underlying232
 a148 := Tryz.isAgg232
 z148 := Tryz.sizeOf232
 v148 := Tryz.zeroValue232
 t164 := Tryz.underlying244
 a164 := Tryz.isAgg244
 z164 := Tryz.sizeOf244
 v164 := Tryz.zeroValue244 }
def Tryz.lays160_ren : Go.Shelf.Ren := ⟨fun | 160 => 117 | 232 => 182 | 231 => 181 | 227 => 183 | 234 => 185 | 233 => 184 | 236 => 187 | 235 => 186 | 228 => 214 | 271 => 217 | 151 => 216 | 197 => 215 | 120 => 227 | 152 => 226 | 260 => 225 | 137 => 240 | 119 => 241 | 224 => 242 | 225 => 243 | 217 => 250 | 266 => 252 | n => n, fun | 9 => 9 | 4 => 4 | 3 => 3 | 5 => 5 | 117 => 213 | 116 => 212 | 0 => 0 | 124 => 216 | 21 => 21 | 105 => 236 | 46 => 179 | 119 => 256 | 139 => 259 | 138 => 258 | n => n, fun | 3 => 1 | 4 => 2 | n => n⟩
theorem Tryz.lays160 : Go.Proofs.Lays.n160 prog Tryz.lays160_ren := {
 mixed := by kernel_rfl
 f119 := Tryz.func241.trans (congrArg some (by kernel_rfl))
 f120 := Tryz.func227.trans (congrArg some (by kernel_rfl))
 f137 := Tryz.func240.trans (congrArg some (by kernel_rfl))
 f151 := Tryz.func216.trans (congrArg some (by kernel_rfl))
 f152 := Tryz.func226.trans (congrArg some (by kernel_rfl))
 f160 := Tryz.func117.trans (congrArg some (by kernel_rfl))
 f197 := Tryz.func215.trans (congrArg some (by kernel_rfl))
 f217 := Tryz.func250.trans (congrArg some (by kernel_rfl))
 f224 := Tryz.func242.trans (congrArg some (by kernel_rfl))
 f225 := Tryz.func243.trans (congrArg some (by kernel_rfl))
 f227 := Tryz.func183.trans (congrArg some (by kernel_rfl))
 f228 := Tryz.func214.trans (congrArg some (by kernel_rfl))
 f231 := Tryz.func181.trans (congrArg some (by kernel_rfl))
 f232 := Tryz.func182.trans (congrArg some (by kernel_rfl))
 f233 := Tryz.func184.trans (congrArg some (by kernel_rfl))
 f234 := Tryz.func185.trans (congrArg some (by kernel_rfl))
 f235 := Tryz.func186.trans (congrArg some (by kernel_rfl))
 f236 := Tryz.func187.trans (congrArg some (by kernel_rfl))
 f260 := Tryz.func225.trans (congrArg some (by kernel_rfl))
 f266 := Tryz.func252.trans (congrArg some (by kernel_rfl))
 f271 := Tryz.func217.trans (congrArg some (by kernel_rfl))
 t0 := Tryz.underlying0
 a0 := Tryz.isAgg0
 z0 := Tryz.sizeOf0
 v0 := Tryz.zeroValue0
 t3 := Tryz.underlying3
 a3 := Tryz.isAgg3
 z3 := Tryz.sizeOf3
 v3 := Tryz.zeroValue3
 t4 := Tryz.underlying4
 a4 := Tryz.isAgg4
 z4 := Tryz.sizeOf4
 v4 := Tryz.zeroValue4
 t5 := Tryz.underlying5
 a5 := Tryz.isAgg5
 z5 := Tryz.sizeOf5
 v5 := Tryz.zeroValue5
 t9 := Tryz.underlying9
 a9 := Tryz.isAgg9
 z9 := Tryz.sizeOf9
 v9 := Tryz.zeroValue9
 t21 := Tryz.underlying21
 a21 := Tryz.isAgg21
 z21 := Tryz.sizeOf21
 v21 := Tryz.zeroValue21
 t46 := Tryz.underlying179
 a46 := Tryz.isAgg179
 z46 := Tryz.sizeOf179
 v46 := Tryz.zeroValue179
 t105 := Tryz.underlying236
 a105 := Tryz.isAgg236
 z105 := Tryz.sizeOf236
 v105 := Tryz.zeroValue236
 t116 := Tryz.underlying212
 a116 := Tryz.isAgg212
 z116 := Tryz.sizeOf212
 t117 := Tryz.underlying213
 a117 := Tryz.isAgg213
 z117 := Tryz.sizeOf213
 v117 := Tryz.zeroValue213
 t119 := Tryz.underlying256
 a119 := Tryz.isAgg256
 z119 := Tryz.sizeOf256
 t124 := Tryz.underlying216
 a124 := Tryz.isAgg216
 z124 := Tryz.sizeOf216
 v124 := Tryz.zeroValue216
 t138 := Tryz.underlying258
 a138 := Tryz.isAgg258
 z138 := Tryz.sizeOf258
 v138 := Tryz.zeroValue258
 t139 := Tryz.underlying259
 a139 := Tryz.isAgg259
 z139 := Tryz.sizeOf259
 v139 := Tryz.zeroValue259
 g3 := by kernel_rfl
 g4 := by kernel_rfl }
theorem Tryz.bldExtra : Builder.Extra prog Tryz.lays105_ren where
 sizeBuilder := by kernel_rfl
 liesBuilder := by kernel_rfl
 t5 := Tryz.lays105.t5
 a5 := Tryz.lays105.a5
 z5 := Tryz.lays105.z5
 v5 := Tryz.lays105.v5
 infoByte := by kernel_rfl
 cellsByte := by kernel_rfl
 sizeByte := by kernel_rfl
 neB5 := by decide
namespace YthbngnlmgplijaaGreatDoor
open Go.Al Go.Proofs
theorem pG {g : FuncId} {args : List Value} {w : World} {R : Ending → World → Prop} {k : KV} (h : Calls prog g args.toArray w R) (hk : ∀ e w', R e w' → ∃ v, e = .returned v ∧ k v w') : Cl prog g args w k :=
 ⟨Calls.mono h fun e w' he => by obtain ⟨v, rfl, hv⟩ := hk e w' he; exact hv⟩
theorem Fm.of_belowB {B : Nat} {w w' : World} (h : Below B w w') : Fm (fun x => B ≤ x) w w' := ⟨h.os, h.tape, h.output, h.size, fun b hb hs => h.block b (by omega)⟩
def Bld (w : World) (b : Nat) (l : Bs) : Prop := Lib.IsBuilderF 202 5 b b (bc l) w
theorem Bld.lt {w : World} {b : Nat} {l : Bs} (h : Bld w b l) : b < w.heap.size := by
 rcases h with h | h <;> exact h.lt
theorem Bld.new {w : World} {b : Nat} (h : w.heap[b]? = some (.cells #[.pointer none, .slice none 0 0] 202)) : Bld w b [] :=
 Lib.IsBuilderF.of (.inl ⟨Nat.le_refl _, _, h, World.ownsRow_nil _ _ _ _, by simp [Value.ownBlock]⟩)
theorem Bld.keep {w w' : World} {b : Nat} {l : Bs} (h : Bld w b l) (hf : Fm (fun _ => False) w w') : Bld w' b l := by
 have key : ∀ p, Lib.BuilderAtF 202 5 b b p (bc l) w → Lib.BuilderAtF 202 5 b b p (bc l) w' := by
  rintro p ⟨h1, v, h2, h3, h4⟩
  refine ⟨h1, v, hf.heap h2 (fun e => e), ?_, h4⟩
  obtain ⟨g1, g2⟩ := h3
  refine ⟨g1, ?_⟩
  rcases g2 with g2 | ⟨g, cap, cur, fz, r1, r2, r3, r4⟩
  ·exact .inl g2
  ·exact .inr ⟨g, cap, cur, fz, r1, r2, hf.heap r3 (fun e => e), r4⟩
 rcases h with h | h
 ·exact .inl (key _ h)
 ·exact .inr (key _ h)
theorem dE {w : World} {b : Nat} {l : Bs} (h : Bld w b l) (s : Bs) (hlen : l.length + s.length ≤ 140737488355328) : Cl prog 176 [pv b, stv s] w fun _ w' => Bld w' b (l ++ s) ∧ Fm (fun x => b ≤ x) w w' := by
 have c : Calls prog 176 #[pv b, stv s] w fun e w' => e = .returned (.tuple #[.int .i64 (str s).size, .nilIface]) ∧ (Lib.BuilderAtF 202 5 b b (pv b) (bc l ++ Lib.strCells (str s)) w' ∧ Below b w w' ∧ Lib.OthersKept 5 (some b) w w') :=
  Any.Builder_WriteString_k (ρ := Tryz.lays105_ren) { Tryz.lays105 with } Tryz.bldExtra b b (bc l) (str s) w h (by rw [ba, aj]; exact hlen) (Nat.le_of_lt h.lt)
 refine pG c fun e w' ⟨h1, h2, h3, _⟩ => ⟨_, h1, ?_, Fm.of_belowB h3⟩
 rw [show Lib.strCells (str s) = bc s from rfl, ← bA] at h2
 exact .inr h2
theorem pI {w : World} {b : Nat} {l : Bs} (h : Bld w b l) : Cl prog 177 [pv b] w fun v w' => v = iv l.length ∧ w' = w := by
 have c : Calls prog 177 #[pv b] w fun e w' => e = .returned (.int .i64 (bc l).length) ∧ w' = w :=
  Any.Builder_Len_f (ρ := Tryz.lays105_ren) { Tryz.lays105 with } b b (bc l) w h
 rw [ba] at c
 exact pG c fun e w' ⟨h1, h2⟩ => ⟨_, h1, rfl, h2⟩
theorem ga {w : World} {b : Nat} {l : Bs} (h : Bld w b l) : Cl prog 178 [pv b] w fun v w' => v = stv l ∧ Bld w' b l ∧ Fm (fun x => b ≤ x) w w' := by
 have c : Calls prog 178 #[pv b] w fun e w' => e = .returned (.string ⟨l.toArray⟩) ∧ (Lib.IsBuilderF 202 5 b b (Lib.byteCells l) w' ∧ Below b w w' ∧ Lib.OthersKept 5 (some b) w w') :=
  Any.Builder_String_any_k (ρ := Tryz.lays105_ren) { Tryz.lays105 with } Tryz.bldExtra b b l w h (Nat.le_of_lt h.lt)
 exact pG c fun e w' ⟨h1, h2, h3, _⟩ => ⟨_, h1, rfl, h2, Fm.of_belowB h3⟩
theorem cX (w : World) (n : Nat) (hn : n ≤ 140737488355328) : Cl prog 95 [stv [0], iv n] w fun v w' => v = stv (aG n) ∧ Fm (fun _ => False) w w' := by
 have c : Calls prog 95 #[stv [0], iv n] w fun e w' => e = .returned (.string ⟨(Lib.repeatL (str [0]).data.toList n).toArray⟩) ∧ Below w.heap.size w w' :=
  Any.strings_Repeat (ρ := Tryz.lays105_ren) Tryz.lays105 Tryz.bldExtra (str [0]) n w (by omega) (by rw [aj]; simpa using hn)
 have e : Lib.repeatL (str [0]).data.toList n = aG n := by
  have := Lib.repeatL_replicate 0 1 n
  rw [Nat.mul_one] at this
  exact this
 rw [e] at c
 exact pG c fun e w' ⟨h1, h2⟩ => ⟨_, h1, rfl, Fm.of_below h2 _⟩
theorem cO : ∀ (l : Bs), l.dropWhile (· == (0 : UInt8)) = [] ↔ l = aG l.length
 | [] => by simp [aG]
 | b :: l => by
  rw [List.dropWhile_cons]
  cases hb : (b == (0 : UInt8)) with
  | true =>
   have : b = 0 := by simpa using hb
   simp only [if_true, cO l, List.length_cons, aG, List.replicate_succ]
   rw [this]
   simp
  | false =>
   have : b ≠ 0 := by simpa using hb
   simp [aG, List.replicate_succ, this]
theorem qY (l : Bs) : Lib.trimB l 0 = [] ↔ l = aG l.length := by
 unfold Lib.trimB Lib.trimLeftB Lib.trimRightB
 rw [cO]
 constructor
 ·intro h
  have h2 : (l.reverse.dropWhile (· == (0 : UInt8))) = aG (l.reverse.dropWhile (· == (0 : UInt8))).length := by
   have := congrArg List.reverse h
   rw [List.reverse_reverse] at this
   rw [this]; simp [aG]
  cases hd : l.reverse.dropWhile (· == (0 : UInt8)) with
  | nil =>
   have := (cO l.reverse).1 hd
   have := congrArg List.reverse this
   rw [List.reverse_reverse] at this
   rw [this]; simp [aG]
  | cons x t =>
   rw [hd] at h2
   have hx : x = 0 := by
    have := congrArg List.head? h2
    simp [aG, List.replicate_succ] at this; exact this
   have := List.head?_dropWhile_not (p := (· == (0 : UInt8))) (l := l.reverse)
   rw [hd] at this
   simp [hx] at this
 ·intro h
  have h2 : l.reverse = aG l.reverse.length := by rw [h]; simp [aG]
  rw [(cO l.reverse).2 h2]
  rfl
theorem qG (w : World) (l : Bs) (hl : l.length ≤ 9223372036854775807) : Cl prog 117 [stv l, stv [0]] w fun v w' => (∃ t, v = stv t ∧ (t = [] ↔ l = aG l.length)) ∧ Fm (fun _ => False) w w' := by
 have c : Calls prog 117 #[stv l, stv [0]] w fun e w' => e = .returned (.string ⟨(Lib.trimB (str l).data.toList 0).toArray⟩) ∧ (w' = w ∨ w' = w.drew) :=
  Any.strings_Trim_one (ρ := Tryz.lays160_ren) Tryz.lays160 (str l) 0 (by decide) w (by rw [aj]; exact hl)
 refine pG c fun e w' ⟨h1, h2⟩ => ⟨_, h1, ⟨_, rfl, qY l⟩, ?_⟩
 rcases h2 with rfl | rfl
 ·exact Fm.refl _ _
 ·exact Fm.drew _ _
theorem E22 : ElemT prog 59 9 1 16 := cB Tryz.underlying59 (by kernel_rfl)
theorem oe {w : World} {v u : Value} {xs ys : List Bs} (h : CellsAt w v xs.length 1 (xs.map stv)) (k : CellsAt w u ys.length 1 (ys.map stv)) : Cl prog 207 [v, u] w fun r w' => r = .bool (decide (xs = ys)) ∧ Fm (fun _ => False) w w' := by
 have hlt := h.lt
 unfold maxLen at hlt
 refine c207 ?_; unfold T207
 simp only [RS, h.lenV, k.lenV, al]
 by_cases hl : xs.length = ys.length
 ·rw [show decide ((xs.length : Int) = (ys.length : Int)) = true by rw [decide_eq_true_eq]; omega]
  simp only [RS, h.lenV]
  refine ⟨fun vs w2 => ∃ i : Nat, vs = [iv i] ∧ i ≤ xs.length ∧ xs.take i = ys.take i ∧ Fm (fun _ => False) w w2, fun vs _ => (xs.length - nth vs 0).toNat, ⟨0, rfl, by omega, rfl, Fm.refl _ _⟩, ?_⟩
  rintro _ w2 ivv ⟨i, hvs, hi, heq, hf2⟩
  cases hvs
  by_cases hlt2 : i < xs.length
  ·have e1 : decide ((i : Int) < (xs.length : Int)) = true := by rw [decide_eq_true_eq]; omega
   have e2 : IntKind.i64.wrap ((i : Int) + 1) = ((i + 1 : Nat) : Int) := by rw [ab] <;> omega
   have hx : xs[i]? = some xs[i] := List.getElem?_eq_getElem hlt2
   have hy : ys[i]? = some ys[i] := List.getElem?_eq_getElem (by omega)
   generalize xs[i] = x at hx
   generalize ys[i] = y at hy
   have hf3 := Fm.drew (fun _ => False) w2
   obtain ⟨ad, hix, _, hc⟩ := h.at1 (i := i) (x := stv x) (by rw [List.getElem?_map, hx]; rfl) .i64
   obtain ⟨ad', hix', _, hc'⟩ := k.at1 (i := i) (x := stv y) (by rw [List.getElem?_map, hy]; rfl) .i64
   have hc2 := hf2.cell' hc (fun e => e)
   have hc2' := hf2.cell' hc' (fun e => e)
   have htk : decide (x = y) = true → xs.take (i + 1) = ys.take (i + 1) := by
    intro e
    have e : x = y := by simpa using e
    rw [List.take_add_one, List.take_add_one, heq, hx, hy, e]
   simp only [RS, e1, hix, hc2, true_and, hix', hc2', aD]
   cases hd : decide (x = y) with
   | true =>
    simp only [RS, e2]
    exact ⟨⟨i + 1, rfl, by omega, htk hd, Fmf hf2 hf3⟩, by simp only [bw]; omega⟩
   | false =>
    simp only [RS]
    refine ⟨?_, Fmf hf2 hf3⟩
    congr 1; symm
    rw [decide_eq_false_iff_not] at hd ⊢
    rintro rfl
    rw [hx] at hy; cases hy
    exact hd rfl
  ·have hie : i = xs.length := by omega
   subst hie
   have e1 : decide (((xs.length : Nat) : Int) < (xs.length : Int)) = false := by simp
   rw [List.take_length, List.take_of_length_le (by omega)] at heq
   simp only [RS, e1]
   refine ⟨?_, hf2⟩
   congr 1; symm; simpa using heq
 ·rw [show decide ((xs.length : Int) = (ys.length : Int)) = false by rw [decide_eq_false_iff_not]; omega]
  simp only [RS]
  refine ⟨?_, Fm.refl _ _⟩
  congr 1; symm
  rw [decide_eq_false_iff_not]
  rintro rfl
  exact hl rfl
end YthbngnlmgplijaaGreatDoor
end Go.Proofs
namespace Go.Proofs.YthbngnlmgplijaaGreatDoor
open Go.Al Go.Proofs
def pcs (p : Pg) (v : Value) : Array Value := #[iv p.lsn, iv p.kind, iv p.level, iv p.right, stv p.high, v]
structure PgAs (w : World) (cs : Array Value) (p : Pg) : Prop where
 ex : ∃ v, cs = pcs p v ∧ v.oneCell' = true ∧ CellsAt w v p.items.length 1 (p.items.map stv)
 small : ∀ x ∈ p.items, x.length ≤ 140737488355328
 ins : In p.lsn ∧ In p.kind ∧ In p.level ∧ In p.right ∧ p.high.length ≤ 140737488355328 ∧ p.items.length * 16 ≤ 140737488355328
theorem PgAs.keep {w w' : World} {cs : Array Value} {p : Pg} (h : PgAs w cs p) (hf : Fm (fun _ => False) w w') : PgAs w' cs p := by
 obtain ⟨v, h1, h2, h3⟩ := h.ex
 exact ⟨⟨v, h1, h2, h3.keep hf (fun _ _ e => e)⟩, h.small, h.ins⟩
theorem PgAs.size {w : World} {cs : Array Value} {p : Pg} (h : PgAs w cs p) : cs.size = 6 := by obtain ⟨v, rfl, _⟩ := h.ex; rfl
theorem PgAs.one {w : World} {cs : Array Value} {p : Pg} (h : PgAs w cs p) : ∀ u ∈ cs.toList, u.oneCell' = true := by
 obtain ⟨v, rfl, h2, _⟩ := h.ex
 intro u hu
 simp [pcs] at hu
 rcases hu with rfl | rfl | rfl | rfl | rfl | rfl <;> first | rfl | assumption
def PB (w : World) (g : Nat) (p : Pg) (v : Value) : Prop := w.heap[g]? = some (.cells (pcs p v) 61)
section
variable {S : Nat → Prop} {w w' : World} {g : Nat} {p : Pg} {v : Value}
theorem PB.keep (h : PB w g p v) (hf : Fm S w w') (hs : ¬ S g) : PB w' g p v := hf.heap h hs
theorem PB.c0 (h : PB w g p v) : w.cell? ⟨g, 0, none⟩ = some (iv p.lsn) := by rw [ag h]; rfl
theorem PB.c1 (h : PB w g p v) : w.cell? ⟨g, 1, none⟩ = some (iv p.kind) := by rw [ag h]; rfl
theorem PB.c2 (h : PB w g p v) : w.cell? ⟨g, 2, none⟩ = some (iv p.level) := by rw [ag h]; rfl
theorem PB.c3 (h : PB w g p v) : w.cell? ⟨g, 3, none⟩ = some (iv p.right) := by rw [ag h]; rfl
theorem PB.c4 (h : PB w g p v) : w.cell? ⟨g, 4, none⟩ = some (stv p.high) := by rw [ag h]; rfl
theorem PB.c5 (h : PB w g p v) : w.cell? ⟨g, 5, none⟩ = some v := by rw [ag h]; rfl
theorem PB.all (h : PB w g p v) : aP w ⟨g, 0, none⟩ 6 = some (.agg (pcs p v)) := ax h rfl
theorem PB.lt (h : PB w g p v) : g < w.heap.size := aq h
end
theorem iC (a b : Int) : IntKind.i64.wrap (IntKind.i64.wrap a + b) = IntKind.i64.wrap (a + b) := by
 unfold IntKind.wrap; simp [IntKind.bits, IntKind.signed]; omega
def mF (p : Pg) (i : Nat) : Nat := (p.items.take i).foldl (fun n it => n + (2 + it.length)) (20 + p.high.length)
theorem lf (p : Pg) : mF p p.items.length = cI p := by unfold mF cI; rw [List.take_length]
theorem kY (p : Pg) {i : Nat} {x : Bs} (h : p.items[i]? = some x) : mF p (i + 1) = mF p i + (2 + x.length) := eN _ _ h
theorem jk {w : World} {cs : Array Value} {p : Pg} (h : PgAs w cs p) (hn : p.items.length ≤ 255) : cI p ≤ 40000000000000000 := by
 have key : ∀ (l : List Bs) (n : Nat), (∀ x ∈ l, x.length ≤ 140737488355328) → l.foldl (fun n it => n + (2 + it.length)) n ≤ n + l.length * 140737488355330 := by
  intro l
  induction l with
  | nil => intro n _; simp
  | cons x l ih =>
   intro n hx
   have := ih (n + (2 + x.length)) (fun y hy => hx y (List.mem_cons_of_mem _ hy))
   have := hx x (by simp)
   simp only [List.foldl_cons, List.length_cons]
   omega
 have := key p.items (20 + p.high.length) h.small
 have := h.ins
 unfold cI
 omega
theorem ph {w : World} {cs : Array Value} {p : Pg} (h : PgAs w cs p) : Cl prog 213 [.agg cs] w fun r w' => r = iv (IntKind.i64.wrap (cI p)) ∧ Fm (fun _ => False) w w' := by
 obtain ⟨v, rfl, _, hc⟩ := h.ex
 have hi := h.ins
 have hlt := hc.lt
 unfold maxLen at hlt
 refine c213 ?_; unfold T213
 refine ao ?_
 intro g w1 hg hs1 hw1 hf1
 replace hw1 : PB w1 g p v := hw1
 have e0 : IntKind.i64.wrap (20 + (p.high.length : Int)) = ((20 + p.high.length : Nat) : Int) := by rw [ab] <;> omega
 have hlen := hc.lenV
 simp only [RS, hw1.c4, aj, e0, hw1.c5, hlen]
 refine ⟨fun vs w2 => ∃ i : Nat, vs = [iv (IntKind.i64.wrap (mF p i : Nat)), iv i] ∧ i ≤ p.items.length ∧ w2 = w1, fun vs _ => (p.items.length - nth vs 1).toNat, ⟨0, by rw [show mF p 0 = 20 + p.high.length by simp [mF], ab (by omega)]; rfl, by omega, rfl⟩, ?_⟩
 rintro _ w2 nv ivv ⟨i, hvs, hi2, rfl⟩
 cases hvs
 by_cases hl : i < p.items.length
 ·have e1 : decide ((i : Int) < (p.items.length : Int)) = true := by rw [decide_eq_true_eq]; omega
  have e2 : IntKind.i64.wrap ((i : Int) + 1) = ((i + 1 : Nat) : Int) := by rw [ab] <;> omega
  have hx : p.items[i]? = some p.items[i] := List.getElem?_eq_getElem hl
  have hxm : p.items[i] ∈ p.items := List.getElem_mem hl
  generalize p.items[i] = x at hx hxm
  have hxl := h.small x hxm
  obtain ⟨ad, hix, _, hcx⟩ := (hc.keep hf1 (fun _ _ e => e)).at1 (i := i) (x := stv x) (by rw [List.getElem?_map, hx]; rfl) .i64
  have e3 : IntKind.i64.wrap (2 + (x.length : Int)) = ((2 + x.length : Nat) : Int) := by rw [ab] <;> omega
  have e4 : IntKind.i64.wrap (IntKind.i64.wrap (mF p i : Nat) + ((2 + x.length : Nat) : Int)) = IntKind.i64.wrap (mF p (i + 1) : Nat) := by
   rw [iC, kY p hx]; congr 1
  simp only [RS, e1, hix, hcx, aj, e3, e4, e2]
  exact ⟨⟨i + 1, rfl, by omega, (by trivial)⟩, by simp only [bM]; omega⟩
 ·obtain rfl : i = p.items.length := by omega
  have e1 : decide (((p.items.length : Nat) : Int) < (p.items.length : Int)) = false := by simp
  simp only [RS, e1]
  exact ⟨by rw [lf], hf1⟩
theorem nY {w : World} {cs : Array Value} {p : Pg} (h : PgAs w cs p) : Cl prog 193 [.agg cs] w fun r w' => r = iv (IntKind.i64.wrap (cI p)) ∧ Fm (fun _ => False) w w' := by
 obtain ⟨v, rfl, _, hc⟩ := h.ex
 have hi := h.ins
 have hlt := hc.lt
 unfold maxLen at hlt
 refine c193 ?_; unfold T193
 refine ao ?_
 intro g w1 hg hs1 hw1 hf1
 replace hw1 : PB w1 g p v := hw1
 have e0 : IntKind.i64.wrap (20 + (p.high.length : Int)) = ((20 + p.high.length : Nat) : Int) := by rw [ab] <;> omega
 have hlen := hc.lenV
 simp only [RS, hw1.c4, aj, e0]
 refine ⟨fun vs w2 => ∃ i : Nat, vs = [iv (IntKind.i64.wrap (mF p i : Nat)), iv i] ∧ i ≤ p.items.length ∧ w2 = w1, fun vs _ => (p.items.length - nth vs 1).toNat, ⟨0, by rw [show mF p 0 = 20 + p.high.length by simp [mF], ab (by omega)]; rfl, by omega, rfl⟩, ?_⟩
 rintro _ w2 nv ivv ⟨i, hvs, hi2, rfl⟩
 cases hvs
 by_cases hl : i < p.items.length
 ·have e1 : decide ((i : Int) < (p.items.length : Int)) = true := by rw [decide_eq_true_eq]; omega
  have e2 : IntKind.i64.wrap ((i : Int) + 1) = ((i + 1 : Nat) : Int) := by rw [ab] <;> omega
  have hx : p.items[i]? = some p.items[i] := List.getElem?_eq_getElem hl
  have hxm : p.items[i] ∈ p.items := List.getElem_mem hl
  generalize p.items[i] = x at hx hxm
  have hxl := h.small x hxm
  obtain ⟨ad, hix, _, hcx⟩ := (hc.keep hf1 (fun _ _ e => e)).at1 (i := i) (x := stv x) (by rw [List.getElem?_map, hx]; rfl) .i64
  have e4 : IntKind.i64.wrap (IntKind.i64.wrap (IntKind.i64.wrap (mF p i : Nat) + 2) + (x.length : Int)) = IntKind.i64.wrap (mF p (i + 1) : Nat) := by
   rw [iC, Int.add_assoc, iC, kY p hx]; congr 1
  simp only [RS, hw1.c5, hlen, e1, hix, hcx, aj, e4, e2]
  exact ⟨⟨i + 1, rfl, by omega, (by trivial)⟩, by simp only [bM]; omega⟩
 ·obtain rfl : i = p.items.length := by omega
  have e1 : decide (((p.items.length : Nat) : Int) < (p.items.length : Int)) = false := by simp
  simp only [RS, hw1.c5, hlen, e1]
  exact ⟨by rw [lf], hf1⟩
def tW (p : Pg) : Bool := decide (p.items.length ≤ 255) && decide (cI p ≤ 512)
theorem pU {w : World} {cs : Array Value} {p : Pg} (h : PgAs w cs p) : Cl prog 180 [.agg cs] w fun r w' => r = .bool (tW p) ∧ Fm (fun _ => False) w w' := by
 obtain ⟨v, hcs, _, hc⟩ := h.ex
 refine c180 ?_; unfold T180
 refine ao ?_
 intro g w1 hg hs1 hw1 hf1
 have hb : PB w1 g p v := by rw [PB, ← hcs]; exact hw1
 have hall := hb.all
 rw [← hcs] at hall
 have hlen := hc.lenV
 have d1 : decide ((p.items.length : Int) ≤ 255) = decide (p.items.length ≤ 255) := by rw [decide_eq_decide]; omega
 unfold tW
 simp only [RS, hb.c5, hlen, d1]
 cases hd : decide (p.items.length ≤ 255) with
 | false =>
  simp only [RS, Bool.false_and]
  exact ⟨(by trivial), hf1⟩
 | true =>
  have hsb := jk h (by simpa using hd)
  simp only [RS, hall]
  refine (ph (h.keep hf1)).mono ?_
  rintro _ w2 ⟨rfl, hf2⟩
  have d2 : decide (IntKind.i64.wrap (cI p) ≤ 512) = decide (cI p ≤ 512) := by rw [bH (by omega), decide_eq_decide]; omega
  simp only [RS, d2, Bool.true_and]
  exact ⟨(by trivial), Fmf hf1 hf2⟩
def bN (p : Pg) : Bool := decide (p.lsn < 0 ∨ p.level < 0 ∨ p.right < 0 ∨ p.kind < 1 ∨ 3 < p.kind ∨ 255 < p.level ∨ 4294967295 < p.right)
def fV (p : Pg) : Bool := decide (255 < p.high.length ∨ 255 < p.items.length ∨ 512 < cI p)
theorem lK (p : Pg) : pErr p = bif bN p then 4 else bif fV p then 3 else 0 := rfl
def lI (p : Pg) : Value := .tuple #[stv (eD p).1, iv (eD p).2]
theorem bL {p : Pg} (h : bN p = true) : lI p = .tuple #[stv [], iv 4] := by
 have : pErr p = 4 := by rw [lK, h]; rfl
 unfold lI; rw [jK (by rw [this]; decide), this]
theorem fq {p : Pg} (h : bN p = false) (h2 : fV p = true) : lI p = .tuple #[stv [], iv 3] := by
 have : pErr p = 3 := by rw [lK, h, h2]; rfl
 unfold lI; rw [jK (by rw [this]; decide), this]
theorem ko {p : Pg} (h : bN p = false) (h2 : fV p = false) : pErr p = 0 := by rw [lK, h, h2]; rfl
theorem qC {p : Pg} (h : pErr p = 0) : lI p = .tuple #[stv (beN 4 (crc (bX p)) ++ bX p), iv 0] := by unfold lI; rw [hG h]
theorem oX (a b c : Int) : aU eX [iv a, iv b, iv c] = some (iv (if c < (if b < a then b else a) then c else (if b < a then b else a))) := rfl
theorem dW {n : Int} {k : Nat} (h0 : 0 ≤ n) (h1 : 1 ≤ k) (h8 : k ≤ 8) : fg n (k : Int) = beN k n.toNat := by
 have := bB (n := n.toNat) h1 h8
 rw [Int.toNat_of_nonneg h0] at this; exact this
theorem dL {a b : Bs} (h : a.length + b.length ≤ 9223372036854775807) : aa TypeDesc.string .add (stv a) (stv b) = some (stv (a ++ b)) := kE _ a b h
theorem flat_take {l : List Bs} {i : Nat} {x : Bs} (h : l[i]? = some x) : (l.take (i + 1)).flatMap itB = (l.take i).flatMap itB ++ itB x := by
 rw [List.take_add_one, h, List.flatMap_append]; simp
theorem qw (l : List Bs) (i : Nat) : ((l.take i).flatMap itB).length ≤ (l.flatMap itB).length := by
 have : l.flatMap itB = (l.take i).flatMap itB ++ (l.drop i).flatMap itB := by rw [← List.flatMap_append, List.take_append_drop]
 rw [this, List.length_append]; omega
theorem gr (l : Bs) : In (crc l : Nat) ∧ IntKind.i64.wrap (crc l : Nat) = ((crc l : Nat) : Int) := by
 have := pR l
 exact ⟨by unfold In; omega, bH (by omega)⟩
theorem mi {w : World} {cs : Array Value} {p : Pg} (h : PgAs w cs p) : Cl prog 103 [.agg cs] w fun r w' => r = lI p ∧ Fm (fun _ => False) w w' := by
 obtain ⟨v, rfl, hone, hc⟩ := h.ex
 have hin := h.ins
 have hclt := hc.lt
 unfold maxLen at hclt
 refine c103 ?_; unfold T103
 refine ao ?_
 intro x1 w1 hx1 hs1 hw1 hf1
 replace hw1 : PB w1 x1 p v := hw1
 have hc1 := hc.keep hf1 (fun _ _ e => e)
 have hlen := hc.lenV
 refine bG (fun vs w2 => vs = [.bool (bN p)] ∧ w2 = w1) ?_ ?_
 ·rintro _ w2 ⟨rfl, rfl⟩ _
  refine ⟨_, rfl, ?_⟩
  cases hr : bN p with
  | true =>
   simp only [RS]
   exact ⟨(bL hr).symm, hf1⟩
  | false =>
  simp only [RS]
  refine bG (fun vs w3 => vs = [.bool (fV p)] ∧ PB w3 x1 p v ∧ Fm (fun _ => False) w2 w3) ?_ ?_
  ·rintro _ w3 ⟨rfl, hw3, hf3⟩ _
   refine ⟨_, rfl, ?_⟩
   have hF3 := Fmf hf1 hf3
   cases hl : fV p with
   | true =>
    simp only [RS]
    exact ⟨(fq hr hl).symm, hF3⟩
   | false =>
   simp only [RS]
   have hok := ko hr hl
   obtain ⟨⟨b1, b2, b3, b4, b5, b6, b7⟩, b8, b9, b10⟩ := ka hok
   have hbl := fx p
   refine ao ?_
   intro b w4 hb hs4 hw4 hf4
   have hB4 := Bld.new hw4
   have hf5 := Fm.drew (fun _ => False) w4
   have hB5 := hB4.keep hf5
   have hP4 := hw3.keep hf4 (fun e => e)
   have hP5 : PB w4.drew x1 p v := hP4.keep hf5 (fun e => e)
   have hF5 : Fm (fun _ => False) w w4.drew := Fmf hF3 (Fmf hf4 hf5)
   have hxb : x1 < b ∧ w.heap.size ≤ b := by have := hw3.lt; have := hF3.size; omega
   generalize w4.drew = w5 at hB5 hP5 hF5
   have upB : ∀ {a c : World}, Fm (fun _ => False) a c → Fm (fun y => b ≤ y) a c := fun hf => hf.mono (fun _ _ e => e.elim)
   refine ⟨fun w => PB w x1 p v, hP5, ?_⟩
   simp only [RS, hP4.c0, hP5.c0, true_and]
   refine ⟨iv p.kind, fun w6 h6 => ?_, ?_⟩
   ·simp only [RS, h6.c1]; trivial
   refine ⟨iv p.level, fun w6 h6 => ?_, ?_⟩
   ·simp only [RS, h6.c2]; trivial
   refine ⟨iv p.right, fun w6 h6 => ?_, ?_⟩
   ·simp only [RS, h6.c3]; trivial
   refine (bV w5 hin.1 8).mono ?_
   rintro _ w6 ⟨rfl, hf6⟩
   have hP6 := hP5.keep hf6 (fun e => e)
   refine ⟨hP6, ?_⟩
   refine (bV w6 hin.2.1 1).mono ?_
   rintro _ w7 ⟨rfl, hf7⟩
   have hP7 := hP6.keep hf7 (fun e => e)
   refine ⟨hP7, ?_⟩
   have g1 : fg p.lsn 8 = beN 8 p.lsn.toNat := dW (k := 8) b1 (by omega) (by omega)
   have g2 : fg p.kind 1 = beN 1 p.kind.toNat := dW (k := 1) (by omega) (by omega) (by omega)
   have g3 : fg p.level 1 = beN 1 p.level.toNat := dW (k := 1) b2 (by omega) (by omega)
   have g4 : fg p.right 4 = beN 4 p.right.toNat := dW (k := 4) b3 (by omega) (by omega)
   rw [g1, g2, dL (by rw [aw, aw]; omega)]
   try simp only [RS]
   refine (bV w7 hin.2.2.1 1).mono ?_
   rintro _ w8 ⟨rfl, hf8⟩
   have hP8 := hP7.keep hf8 (fun e => e)
   refine ⟨hP8, ?_⟩
   rw [g3, dL (by simp only [List.length_append, aw]; omega)]
   try simp only [RS]
   refine (bV w8 hin.2.2.2.1 4).mono ?_
   rintro _ w9 ⟨rfl, hf9⟩
   have hP9 := hP8.keep hf9 (fun e => e)
   rw [g4, dL (by simp only [List.length_append, aw]; omega)]
   try simp only [RS]
   have hF59 := Fmf (Fmf hf6 hf7) (Fmf hf8 hf9)
   have hB9 := hB5.keep hF59
   refine (dE hB9 _ (by simp only [List.length_append, aw, List.length_nil]; omega)).mono ?_
   rintro _ w10 ⟨hB10, hf10⟩
   have hP10 := hP9.keep hf10 (by omega)
   have hf11 := Fm.drew (fun _ => False) w10
   have hB11 := hB10.keep hf11
   have hP11 := hP10.keep hf11 (fun e => e)
   have hF11 : Fm (fun _ => False) w w10.drew := Fmf (Fm.own (Fmf hF5 hF59) hf10 (fun y hy => by omega)) hf11
   generalize w10.drew = w11 at hB11 hP11 hF11
   refine ⟨fun w => PB w x1 p v, hP11, ?_⟩
   simp only [RS, hP10.c5, hP11.c5, true_and, hlen]
   refine ⟨stv p.high, fun w6 h6 => ?_, ?_⟩
   ·simp only [RS, h6.c4]; trivial
   simp only [RS, aj]
   refine ⟨stv p.high, fun w6 h6 => ?_, ?_⟩
   ·simp only [RS, h6.c4]; trivial
   refine (bV w11 (n := (p.items.length : Nat)) (by unfold In; omega) 1).mono ?_
   rintro _ w12 ⟨rfl, hf12⟩
   have hP12 := hP11.keep hf12 (fun e => e)
   refine ⟨hP12, ?_⟩
   refine (bV w12 (n := (p.high.length : Nat)) (by unfold In; omega) 1).mono ?_
   rintro _ w13 ⟨rfl, hf13⟩
   have hP13 := hP12.keep hf13 (fun e => e)
   refine ⟨hP13, ?_⟩
   have g5 : fg (p.items.length : Nat) 1 = beN 1 p.items.length := bB (n := p.items.length) (w := 1) (by omega) (by omega)
   have g6 : fg (p.high.length : Nat) 1 = beN 1 p.high.length := bB (n := p.high.length) (w := 1) (by omega) (by omega)
   rw [g5, g6, dL (by simp only [List.length_append, aw]; omega)]
   try simp only [RS]
   rw [dL (by simp only [List.length_append, aw]; omega)]
   try simp only [RS]
   have hB13 := hB11.keep (Fmf hf12 hf13)
   refine (dE hB13 _ (by simp only [List.length_append, aw, List.length_nil]; omega)).mono ?_
   rintro _ w14 ⟨hB14, hf14⟩
   have hP14 := hP13.keep hf14 (by omega)
   have hF14 : Fm (fun _ => False) w w14 := Fm.own (Fmf hF11 (Fmf hf12 hf13)) hf14 (fun y hy => by omega)
   have hhead : [] ++ (beN 8 p.lsn.toNat ++ beN 1 p.kind.toNat ++ beN 1 p.level.toNat ++ beN 4 p.right.toNat) ++ (beN 1 p.items.length ++ beN 1 p.high.length ++ p.high) = eY p := by
    simp only [eY, List.nil_append, List.append_assoc]
   rw [hhead] at hB14
   simp only [RS, hP14.c5, hlen]
   refine ⟨fun vs w15 => ∃ i : Nat, vs = [iv i] ∧ i ≤ p.items.length ∧ Bld w15 b (eY p ++ (p.items.take i).flatMap itB) ∧ PB w15 x1 p v ∧ Fm (fun _ => False) w w15, fun vs _ => (p.items.length - nth vs 0).toNat, ⟨0, rfl, by omega, by simpa using hB14, hP14, hF14⟩, ?_⟩
   rintro _ w15 ivv ⟨i, hvs, hi, hB15, hP15, hF15⟩
   cases hvs
   have hpl : (bQ p).length = (eY p).length + (p.items.flatMap itB).length := by rw [bQ, List.length_append]
   by_cases hlt : i < p.items.length
   ·have e1 : decide ((i : Int) < (p.items.length : Int)) = true := by rw [decide_eq_true_eq]; omega
    have e2 : IntKind.i64.wrap ((i : Int) + 1) = ((i + 1 : Nat) : Int) := by rw [ab] <;> omega
    have hx : p.items[i]? = some p.items[i] := List.getElem?_eq_getElem hlt
    have hxm : p.items[i] ∈ p.items := List.getElem_mem hlt
    generalize p.items[i] = x at hx hxm
    have hxs := fT b10 x hxm
    have hfl := qw p.items (i + 1)
    rw [flat_take hx, List.length_append, kb] at hfl
    obtain ⟨ad, hix, _, hcx⟩ := (hc.keep hF15 (fun _ _ e => e)).at1 (i := i) (x := stv x) (by rw [List.getElem?_map, hx]; rfl) .i64
    simp only [RS, e1, hix, hcx, aj]
    refine (bV w15 (n := (x.length : Nat)) (by unfold In; omega) 2).mono ?_
    rintro _ w16 ⟨rfl, hf16⟩
    have g7 : fg (x.length : Nat) 2 = beN 2 x.length := bB (n := x.length) (w := 2) (by omega) (by omega)
    rw [g7, dL (by simp only [List.length_append, aw]; omega)]
    try simp only [RS]
    refine (dE (hB15.keep hf16) _ (by simp only [List.length_append, aw]; omega)).mono ?_
    rintro _ w17 ⟨hB17, hf17⟩
    simp only [RS, e2]
    refine ⟨⟨i + 1, rfl, by omega, ?_, (hP15.keep hf16 (fun e => e)).keep hf17 (by omega), Fm.own (Fmf hF15 hf16) hf17 (fun y hy => by omega)⟩, by simp only [bw]; omega⟩
    rw [flat_take hx, ← List.append_assoc]; exact hB17
   ·obtain rfl : i = p.items.length := by omega
    have e1 : decide (((p.items.length : Nat) : Int) < (p.items.length : Int)) = false := by simp
    rw [List.take_length, show eY p ++ p.items.flatMap itB = bQ p from rfl] at hB15
    simp only [RS, e1]
    refine (pI hB15).mono ?_
    rintro _ w15 ⟨rfl, rfl⟩
    have e3 : IntKind.i64.wrap (508 - ((bQ p).length : Int)) = ((508 - (bQ p).length : Nat) : Int) := by rw [ab] <;> omega
    simp only [RS, e3]
    refine (cX w15 (508 - (bQ p).length) (by omega)).mono ?_
    rintro _ w16 ⟨rfl, hf16⟩
    refine (dE (hB15.keep hf16) _ (by rw [bx]; omega)).mono ?_
    rintro _ w17 ⟨hB17, hf17⟩
    rw [show bQ p ++ aG (508 - (bQ p).length) = bX p from rfl] at hB17
    have hF17 := Fm.own (Fmf hF15 hf16) hf17 (fun y hy => by omega)
    refine (ga hB17).mono ?_
    rintro _ w18 ⟨rfl, hB18, hf18⟩
    have htl := iB b10
    refine (gD w18 (bX p) (by omega)).mono ?_
    rintro _ w18 ⟨rfl, rfl⟩
    obtain ⟨q1, q2⟩ := gr (bX p)
    simp only [RS, aV, q2]
    refine (bV w18 q1 4).mono ?_
    rintro _ w19 ⟨rfl, hf19⟩
    refine (ga (hB18.keep hf19)).mono ?_
    rintro _ w20 ⟨rfl, hB20, hf20⟩
    have g8 : fg (crc (bX p) : Nat) 4 = beN 4 (crc (bX p)) := bB (n := crc (bX p)) (w := 4) (by omega) (by omega)
    rw [g8, dL (by rw [aw]; omega)]
    try simp only [RS]
    refine ⟨(qC hok).symm, Fm.own (Fmf (Fm.own hF17 hf18 (fun y hy => by omega)) hf19) hf20 (fun y hy => by omega)⟩
  ·intro jj hjj
   have d1 : decide ((255 : Int) < (p.high.length : Int)) = decide (255 < p.high.length) := by rw [decide_eq_decide]; omega
   have hall := hw1.all
   simp only [RS, hw1.c4, aj, d1]
   cases hd : decide (255 < p.high.length) with
   | true =>
    simp only [RS]
    refine hjj _ _ ⟨?_, hw1, Fm.refl _ _⟩
    have : fV p = true := by unfold fV; rw [decide_eq_true_eq] at hd ⊢; exact .inl hd
    rw [this]
   | false =>
    simp only [RS, hall]
    refine (pU (p := p) ⟨⟨v, rfl, hone, hc1⟩, h.small, h.ins⟩).mono ?_
    rintro _ w3 ⟨rfl, hf3⟩
    simp only [RS]
    refine hjj _ _ ⟨?_, hw1.keep hf3 (fun e => e), hf3⟩
    congr 2
    unfold tW fV
    rw [decide_eq_false_iff_not] at hd
    by_cases h1 : p.items.length ≤ 255
    ·by_cases h2 : cI p ≤ 512
     ·simp [h1, h2]; omega
     ·simp [h1, h2]; omega
    ·simp [h1]; omega
 ·intro jj hjj
  have fin : ∀ b : Bool, bN p = b → jj [.bool b] w1 := fun b hb => hjj _ _ ⟨by rw [hb], rfl⟩
  have hmin : decide ((if p.right < (if p.level < p.lsn then p.level else p.lsn) then p.right else (if p.level < p.lsn then p.level else p.lsn)) < 0) = decide (p.lsn < 0 ∨ p.level < 0 ∨ p.right < 0) := by
   rw [decide_eq_decide]; split <;> split <;> omega
  simp only [RS, hw1.c0, hw1.c2, hw1.c3, oX, hmin]
  cases h1 : decide (p.lsn < 0 ∨ p.level < 0 ∨ p.right < 0) with
  | true => simp only [RS]; exact fin _ (by unfold bN; simp only [decide_eq_true_eq] at *; omega)
  | false =>
  simp only [RS, hw1.c1]
  cases h2 : decide (p.kind < 1) with
  | true => simp only [RS]; exact fin _ (by unfold bN; simp only [decide_eq_true_eq] at *; omega)
  | false =>
  simp only [RS, hw1.c1]
  cases h3 : decide (3 < p.kind) with
  | true => simp only [RS]; exact fin _ (by unfold bN; simp only [decide_eq_true_eq] at *; omega)
  | false =>
  simp only [RS, hw1.c2]
  cases h4 : decide (255 < p.level) with
  | true => simp only [RS]; exact fin _ (by unfold bN; simp only [decide_eq_true_eq] at *; omega)
  | false =>
  simp only [RS, hw1.c3]
  refine fin _ ?_
  unfold bN
  rw [decide_eq_decide]
  simp only [decide_eq_false_iff_not] at *
  omega
structure PgOw (w : World) (base : Nat) (cs : Array Value) (p : Pg) : Prop where
 ex : ∃ v, cs = pcs p v ∧ w.ownsRow base 9 1 v p.items.length (p.items.map stv)
 small : ∀ x ∈ p.items, x.length ≤ 140737488355328
 ins : In p.lsn ∧ In p.kind ∧ In p.level ∧ In p.right ∧ p.high.length ≤ 140737488355328 ∧ p.items.length * 16 ≤ 140737488355328
theorem PgOw.as {w : World} {base : Nat} {cs : Array Value} {p : Pg} (h : PgOw w base cs p) : PgAs w cs p := by
 obtain ⟨v, h1, h2⟩ := h.ex
 exact ⟨⟨v, h1, aF h2, CellsAt.of_own h2⟩, h.small, h.ins⟩
theorem PgOw.keep {w w' : World} {base : Nat} {cs : Array Value} {p : Pg} (h : PgOw w base cs p) (hf : Fm (fun _ => False) w w') : PgOw w' base cs p := by
 obtain ⟨v, h1, h2⟩ := h.ex
 exact ⟨⟨v, h1, ae h2 hf (fun _ _ _ _ e => e)⟩, h.small, h.ins⟩
theorem PgOw.zero (w : World) (base : Nat) : PgOw w base (pcs pg0 (.slice none 0 0)) pg0 := ⟨⟨_, rfl, World.ownsRow_nil _ _ _ _⟩, by simp [pg0], by simp [pg0, In]⟩
theorem eE (w : World) : (Instr.build 61 #[]).run prog w = .ok (.agg (pcs pg0 (.slice none 0 0))) w := by kernel_rfl
theorem jx (a b c d : Int) (w : World) : (Instr.build 61 #[(0, iv a), (1, iv b), (2, iv c), (3, iv d)]).run prog w = .ok (.agg (pcs ⟨a, b, c, d, [], []⟩ (.slice none 0 0))) w := by kernel_rfl
theorem wL : mR prog 61 = some true := by kernel_rfl
theorem vk : cm prog 61 = some 6 := by kernel_rfl
theorem qZ {w : World} {g i j : Nat} {cs : Array Value} {u : Value} (h : w.heap[g]? = some (.cells cs 61)) (hn : cs.size = 6) {f : Fr} (hf : f i = pv g) (hj : f j = u) (k : KV) (hk : k (.tuple #[.agg cs, u]) w) : bU (bF prog f w [.cell i 61, .tmp j]) w k := by
 have hj' : lR prog f w (.tmp j) = some u := by simp only [lR, hj]
 simp only [bF, di hf wL vk h hn, hj', bU, oH]; exact hk
theorem bI {d : Bs} {k : Nat} (h : k < d.length) : ixS (stv d) (.int .i64 k) = some (.int .u8 ((d.getD k 0).toNat : Nat)) := by
 have : d[k]? = some (d.getD k 0) := by rw [List.getD_eq_getElem?_getD, List.getElem?_eq_getElem h]; rfl
 exact dy this .i64
theorem gb (b : UInt8) : IntKind.i64.wrap (b.toNat : Nat) = ((b.toNat : Nat) : Int) := by have := b.toNat_lt; exact bH (by omega)
def SB (w : World) (g : Nat) (s : Bs) : Prop := w.heap[g]? = some (.cells #[stv s] 9)
theorem SB.keep {S : Nat → Prop} {w w' : World} {g : Nat} {s : Bs} (h : SB w g s) (hf : Fm S w w') (hs : ¬ S g) : SB w' g s := hf.heap h hs
theorem SB.c {w : World} {g : Nat} {s : Bs} (h : SB w g s) : w.cell? ⟨g, 0, none⟩ = some (stv s) := by rw [ag h]; rfl
theorem gC {w : World} {g : Nat} {s : Bs} (h : SB w g s) (n : Nat) : Cl prog 116 [pv g, iv n] w fun r w' => r = .tuple #[stv (bif decide (n ≤ s.length) then s.take n else []), .bool (decide (n ≤ s.length))] ∧ SB w' g (bif decide (n ≤ s.length) then s.drop n else s) ∧ Fm (· = g) w w' := by
 refine c116 ?_; unfold T116
 have d1 : decide ((s.length : Int) < (n : Int)) = !decide (n ≤ s.length) := by
  by_cases hn : n ≤ s.length
  ·simp [hn]
  ·simp [hn]; omega
 simp only [RS, h.c, aj, d1]
 cases hd : decide (n ≤ s.length) with
 | false =>
  simp only [RS]
  exact ⟨(by trivial), h, Fm.refl _ _⟩
 | true =>
  rw [decide_eq_true_eq] at hd
  simp only [RS, h.c, df hd .i64, cQ hd .i64]
  refine ay h (by show 0 < 1; decide) rfl ?_
  intro w2 hw2 hs2 hf2
  exact ⟨rfl, hw2, hf2⟩
theorem nI {d : Bs} (h : d.length ≠ 512) : cP d = (pg0, 31) := by
 unfold cP
 rw [show decide (d.length ≠ 512) = true by simpa using h]; rfl
theorem ny {d : Bs} (h : d.length = 512) (h2 : beN 4 (crc (d.drop 4)) ≠ d.take 4) : cP d = (pg0, 30) := by
 unfold cP
 rw [show decide (d.length ≠ 512) = false by simpa using h, show decide (beN 4 (crc (d.drop 4)) ≠ d.take 4) = true by rw [decide_eq_true_eq]; exact h2]; rfl
theorem fo {d : Bs} (h : d.length = 512) (h2 : beN 4 (crc (d.drop 4)) = d.take 4) (h3 : bS (bf d) (dm d) = none) : cP d = (pg0, 31) := by
 unfold cP
 rw [show decide (d.length ≠ 512) = false by simpa using h, show decide (beN 4 (crc (d.drop 4)) ≠ d.take 4) = false by rw [decide_eq_false_iff_not]; exact fun e => e h2, h3]; rfl
def uf (d t : Bs) : Bool := decide (t ≠ aG t.length) || decide (127 < (d.getD 4 0).toNat) || decide (bP d < 1) || decide (3 < bP d)
def bR (d : Bs) (l : List Bs) : Pg := ⟨(oI d % 2 ^ 63 : Nat), bP d, cD d, du d, gv d, l⟩
theorem kC {d : Bs} (h : d.length = 512) (h2 : beN 4 (crc (d.drop 4)) = d.take 4) {l : List Bs} {t : Bs} (h3 : bS (bf d) (dm d) = some (l, t)) : cP d = bif uf d t then (pg0, 31) else (bR d l, 0) := by
 unfold cP
 rw [show decide (d.length ≠ 512) = false by simpa using h, show decide (beN 4 (crc (d.drop 4)) ≠ d.take 4) = false by rw [decide_eq_false_iff_not]; exact fun e => e h2, h3]
 have : uf d t = decide (t ≠ aG t.length ∨ 127 < (d.getD 4 0).toNat ∨ bP d < 1 ∨ 3 < bP d) := by
  unfold uf
  simp only [Bool.decide_or, Bool.or_assoc]
 rw [this]; rfl
theorem jz {d : Bs} (h : d.length = 512) {l : List Bs} (hl : l.length ≤ 255) : In (bR d l).lsn ∧ In (bR d l).kind ∧ In (bR d l).level ∧ In (bR d l).right ∧ (bR d l).high.length ≤ 140737488355328 ∧ (bR d l).items.length * 16 ≤ 140737488355328 := by
 have h1 : bP d < 256 := UInt8.toNat_lt _
 have h2 : cD d < 256 := UInt8.toNat_lt _
 have h3 : du d < 256 ^ 4 := ij 4 _ (by rw [List.length_take, List.length_drop]; omega)
 have h4 : (gv d).length ≤ 512 := by unfold gv; rw [List.length_take, List.length_drop]; omega
 unfold bR In
 simp only
 omega
theorem iA (n : Nat) (s : Bs) : bS (n + 1) s = bif decide (2 ≤ s.length) && decide (ofB (s.take 2) ≤ (s.drop 2).length) then (bS n ((s.drop 2).drop (ofB (s.take 2)))).map (fun x => ((s.drop 2).take (ofB (s.take 2)) :: x.1, x.2)) else none := by
 rw [bS]
 by_cases h1 : s.length < 2
 ·simp [h1, show ¬ 2 ≤ s.length by omega]
 ·by_cases h2 : (s.drop 2).length < ofB (s.take 2)
  ·have e2 : decide (ofB (s.take 2) ≤ (s.drop 2).length) = false := by rw [decide_eq_false_iff_not]; omega
   have e3 : decide (s.length < 2) = false := by rw [decide_eq_false_iff_not]; exact h1
   have e4 : decide ((s.drop 2).length < ofB (s.take 2)) = true := by rw [decide_eq_true_eq]; exact h2
   rw [e2, e3, e4, Bool.and_false]; rfl
  ·have e1 : decide (2 ≤ s.length) = true := by rw [decide_eq_true_eq]; omega
   have e2 : decide (ofB (s.take 2) ≤ (s.drop 2).length) = true := by rw [decide_eq_true_eq]; omega
   have e3 : decide (s.length < 2) = false := by rw [decide_eq_false_iff_not]; exact h1
   have e4 : decide ((s.drop 2).length < ofB (s.take 2)) = false := by rw [decide_eq_false_iff_not]; exact h2
   rw [e1, e2, e3, e4]; rfl
def Mid (d : Bs) (i : Nat) (l : List Bs) (s : Bs) : Prop := l.length = i ∧ (∀ x ∈ l, x.length ≤ 512) ∧ s.length ≤ 492 ∧ bS (bf d) (dm d) = (bS (bf d - i) s).map (fun x => (l ++ x.1, x.2))
theorem Mid.zero {d : Bs} (h : d.length = 512) : Mid d 0 [] (dm d) := by
 refine ⟨rfl, by simp, ?_, ?_⟩
 ·unfold dm; simp only [List.length_drop]; omega
 ·rw [Nat.sub_zero]
  cases bS (bf d) (dm d) <;> simp
theorem Mid.next {d : Bs} {i : Nat} {l : List Bs} {s : Bs} (h : Mid d i l s) (hi : i < bf d) (h1 : 2 ≤ s.length) (h2 : ofB (s.take 2) ≤ (s.drop 2).length) : Mid d (i + 1) (l ++ [(s.drop 2).take (ofB (s.take 2))]) ((s.drop 2).drop (ofB (s.take 2))) := by
 obtain ⟨a, b, c, e⟩ := h
 refine ⟨by simp [a], ?_, ?_, ?_⟩
 ·intro x hx
  rcases List.mem_append.1 hx with hx | hx
  ·exact b x hx
  ·obtain rfl : x = _ := by simpa using hx
   simp only [List.length_take, List.length_drop]; omega
 ·simp only [List.length_drop]; omega
 ·rw [e, show bf d - i = (bf d - (i + 1)) + 1 by omega, iA, show decide (2 ≤ s.length) = true by simpa using h1, show decide (ofB (s.take 2) ≤ (s.drop 2).length) = true by simpa using h2]
  simp only [Bool.and_true, cond_true, Option.map_map]
  congr 1
  funext x
  simp
theorem Mid.stop {d : Bs} {i : Nat} {l : List Bs} {s : Bs} (h : Mid d i l s) (hi : i < bf d) (h1 : ¬ (2 ≤ s.length ∧ ofB (s.take 2) ≤ (s.drop 2).length)) : bS (bf d) (dm d) = none := by
 rw [h.2.2.2, show bf d - i = (bf d - (i + 1)) + 1 by omega, iA]
 have : (decide (2 ≤ s.length) && decide (ofB (s.take 2) ≤ (s.drop 2).length)) = false := by
  rw [← Bool.not_eq_true, Bool.and_eq_true, decide_eq_true_eq, decide_eq_true_eq]; exact h1
 rw [this]; rfl
theorem Mid.last {d : Bs} {l : List Bs} {s : Bs} (h : Mid d (bf d) l s) : bS (bf d) (dm d) = some (l, s) := by
 rw [h.2.2.2, Nat.sub_self, bS]; simp
theorem xl (x : Bs) (w : World) : (Instr.buildSlice 59 1 #[(0, stv x)]).run prog w = .ok (.slice (some ⟨w.heap.size, 0, none⟩) 1 1) (w.alloc (.cells #[stv x] 9)) := by kernel_rfl
theorem my (w : World) (d : Bs) (hd : d.length ≤ 9223372036854775806) : Cl prog 41 [stv d] w fun r w' => ∃ cs, r = .tuple #[.agg cs, iv (cP d).2] ∧ PgOw w' w.heap.size cs (cP d).1 ∧ Fm (fun _ => False) w w' := by
 refine c41 ?_; unfold T41
 refine ao ?_
 intro x2 w1 hx2 hs1 hw1 hf1
 have ret : ∀ (w' : World) (cs0 : Array Value) (e : Int) (f : Fr), w'.heap[x2]? = some (.cells cs0 61) → cs0.size = 6 → Fm (fun _ => False) w w' → f 2 = pv x2 → f 3 = iv e → cP d = (pg0, e) →
   ((∀ w'' : World, w''.heap[x2]? = some (.cells (pcs pg0 (.slice none 0 0)) 61) → Fm (fun _ => False) w w'' → bU (bF prog f w'' [.cell 2 61, .tmp 3]) w'' (fun r w' => ∃ cs, r = .tuple #[.agg cs, iv (cP d).2] ∧ PgOw w' w.heap.size cs (cP d).1 ∧ Fm (fun _ => False) w w'))) := by
  intro w' cs0 e f h1 h2 h3 h4 h5 h6 w'' h7 h8
  refine qZ (u := iv e) h7 rfl h4 h5 _ ?_
  rw [h6]
  exact ⟨_, rfl, PgOw.zero _ _, h8⟩
 have d0 : decide ((d.length : Int) = 512) = decide (d.length = 512) := by rw [decide_eq_decide]; omega
 simp only [RS, aj, al, d0]
 cases h0 : decide (d.length = 512) with
 | false =>
  have hne : d.length ≠ 512 := by simpa using h0
  simp only [RS]
  refine af (eE _) ?_
  refine aB hw1 rfl rfl (by intro u hu; simp [pcs] at hu; rcases hu with rfl | rfl | rfl | rfl | rfl | rfl <;> rfl) ?_
  intro w2 hw2 hs2 hf2
  exact ret w1 _ 31 _ hw1 rfl hf1 rfl rfl (nI hne) w2 hw2 (Fm.own hf1 hf2 (by rintro y rfl; omega))
 | true =>
 have h512 : d.length = 512 := by simpa using h0
 have s1 : slS (stv d) (some (Value.int .i64 4)) none = some (stv (d.drop 4)) := cQ (i := 4) (by omega) .i64
 have s2 : slS (stv d) none (some (Value.int .i64 4)) = some (stv (d.take 4)) := df (i := 4) (by omega) .i64
 have hf2 := Fm.drew (fun _ => False) w1
 have hx2' : w1.drew.heap[x2]? = some (.cells #[iv 0, iv 0, iv 0, iv 0, stv [], .slice none 0 0] 61) := hw1
 have hF2 := Fmf hf1 hf2
 simp only [RS, s1, s2]
 generalize w1.drew = w2 at hf2 hx2' hF2
 refine (gD w2 (d.drop 4) (by rw [List.length_drop]; omega)).mono ?_
 rintro _ w2 ⟨rfl, rfl⟩
 obtain ⟨q1, q2⟩ := gr (d.drop 4)
 simp only [RS, aV, q2]
 refine (bV w2 q1 4).mono ?_
 rintro _ w3 ⟨rfl, hf3⟩
 have g8 : fg (crc (d.drop 4) : Nat) 4 = beN 4 (crc (d.drop 4)) := bB (n := crc (d.drop 4)) (w := 4) (by omega) (by omega)
 have hx3 := hf3.heap hx2' (fun e => e)
 have hF3 := Fmf hF2 hf3
 rw [g8]
 simp only [RS, aD]
 cases hsum : decide (beN 4 (crc (d.drop 4)) = d.take 4) with
 | false =>
  have hne : beN 4 (crc (d.drop 4)) ≠ d.take 4 := by simpa using hsum
  simp only [RS]
  refine af (eE _) ?_
  refine aB hx3 rfl rfl (by intro u hu; simp [pcs] at hu; rcases hu with rfl | rfl | rfl | rfl | rfl | rfl <;> rfl) ?_
  intro w4 hw4 hs4 hf4
  exact ret w3 _ 30 _ hx3 rfl hF3 rfl rfl (ny h512 hne) w4 hw4 (Fm.own hF3 hf4 (by rintro y rfl; omega))
 | true =>
 have hse : beN 4 (crc (d.drop 4)) = d.take 4 := by simpa using hsum
 simp only [RS]
 have hx2s : x2 = w.heap.size := hx2
 refine bG (fun vs w4 => ∃ g4, vs = [pv g4] ∧ PB w4 g4 ⟨(oI d % 2 ^ 63 : Nat), bP d, cD d, du d, [], []⟩ (.slice none 0 0) ∧ g4 ≠ x2 ∧ w.heap.size ≤ g4 ∧ w4.heap[x2]? = some (.cells #[iv 0, iv 0, iv 0, iv 0, stv [], .slice none 0 0] 61) ∧ Fm (fun _ => False) w w4) ?_ ?_
 ·rintro _ w4 ⟨g4, rfl, hP4, hne4, hge4, hx4, hF4⟩ _
  refine ⟨_, rfl, ?_⟩
  have s3 : slS (stv d) (some (Value.int .i64 20)) none = some (stv (d.drop 20)) := cQ (i := 20) (by omega) .i64
  have i19 : ixS (stv d) (Value.int .i64 19) = some (.int .u8 ((dHl d : Nat))) := bI (k := 19) (by omega)
  have i18 : ixS (stv d) (Value.int .i64 18) = some (.int .u8 ((bf d : Nat))) := bI (k := 18) (by omega)
  have c19 : IntKind.i64.wrap (dHl d : Nat) = ((dHl d : Nat) : Int) := gb _
  have c18 : IntKind.i64.wrap (bf d : Nat) = ((bf d : Nat) : Int) := gb _
  have hhl : dHl d < 256 := UInt8.toNat_lt _
  have hmy : bf d < 256 := UInt8.toNat_lt _
  have hg4l := hP4.lt
  simp only [RS, s3]
  refine ao ?_
  intro x5 w5 hx5 hs5 hw5 hf5
  refine ay hw5 (by show 0 < 1; decide) rfl ?_
  intro w6 hw6 hs6 hf6
  replace hw6 : SB w6 x5 (d.drop 20) := hw6
  have hf46 : Fm (fun _ => False) w4 w6 := Fm.own hf5 hf6 (by rintro y rfl; omega)
  have hP6 := hP4.keep hf46 (fun e => e)
  have hx6 := hf46.heap hx4 (fun e => e)
  have hF6 := Fmf hF4 hf46
  have hz4 := hF4.size
  have hx2l := aq hx4
  simp only [RS, i19, aV, c19]
  refine (gC hw6 (dHl d)).mono ?_
  rintro _ w7 ⟨rfl, hS7, hf7⟩
  have hle : decide (dHl d ≤ (d.drop 20).length) = true := by rw [decide_eq_true_eq, List.length_drop]; omega
  rw [hle, cond_true] at hS7
  rw [hle, cond_true]
  have hP7 := hP6.keep hf7 (by omega)
  have hx7 := hf7.heap hx6 (by omega)
  have hF7 : Fm (fun _ => False) w w7 := Fm.own hF6 hf7 (by rintro y rfl; omega)
  simp only [RS]
  refine ay hP7 (by show 4 < 6; decide) rfl ?_
  intro w8 hw8 hs8 hf8
  replace hw8 : PB w8 g4 (bR d []) (.slice none 0 0) := hw8
  have hS8 : SB w8 x5 (dm d) := hS7.keep hf8 (by omega)
  have hx8 := hf8.heap hx7 (fun e => hne4 e.symm)
  have hF8 : Fm (fun _ => False) w w8 := Fm.own hF7 hf8 (by rintro y rfl; omega)
  have hl6 := hw6.keep hf7
  have hz6 : x5 < w8.heap.size := aq hS8
  simp only [RS, i18, aV, c18]
  refine ⟨fun vs w9 => ∃ (i : Nat) (l : List Bs) (s : Bs) (v : Value), vs = [iv i] ∧ i ≤ bf d ∧ Mid d i l s ∧ PB w9 g4 (bR d l) v ∧ w9.ownsRow (x5 + 1) 9 1 v l.length (l.map stv) ∧ SB w9 x5 s ∧ w9.heap[x2]? = some (.cells #[iv 0, iv 0, iv 0, iv 0, stv [], .slice none 0 0] 61) ∧ Fm (fun _ => False) w w9, fun vs _ => (bf d - nth vs 0).toNat,
   ⟨0, [], dm d, _, rfl, by omega, Mid.zero h512, hw8, World.ownsRow_nil _ _ _ _, hS8, hx8, hF8⟩, ?_⟩
  rintro _ w9 ivv ⟨i, l, s, v, hvs, hi, hM, hP9, hO9, hS9, hx9, hF9⟩
  cases hvs
  have hll := hM.1
  have hz9 : x5 < w9.heap.size := aq hS9
  have hg9 := hP9.lt
  have hx29 := aq hx9
  by_cases hlt : i < bf d
  ·have e1 : decide ((i : Int) < (bf d : Int)) = true := by rw [decide_eq_true_eq]; omega
   have e2 : IntKind.i64.wrap ((i : Int) + 1) = ((i + 1 : Nat) : Int) := by rw [ab] <;> omega
   simp only [RS, e1]
   refine (gC hS9 2).mono ?_
   rintro _ w10 ⟨rfl, hS10, hf10⟩
   have hP10 := hP9.keep hf10 (by omega)
   have hx10 := hf10.heap hx9 (by omega)
   have hF10 : Fm (fun _ => False) w w10 := Fm.own hF9 hf10 (by rintro y rfl; omega)
   have hO10 := ae hO9 hf10 (fun k h1 h2 h3 e => by omega)
   by_cases h2 : 2 ≤ s.length
   ·have e3 : decide (2 ≤ s.length) = true := by simpa using h2
    rw [e3, cond_true] at hS10
    rw [e3, cond_true]
    have htl : (s.take 2).length = 2 := by rw [List.length_take]; omega
    simp only [RS]
    refine (dF w10 (s.take 2) (by omega)).mono ?_
    rintro _ w10 ⟨rfl, rfl⟩
    rw [bT (by omega)]
    refine (gC hS10 (ofB (s.take 2))).mono ?_
    rintro _ w11 ⟨rfl, hS11, hf11⟩
    have hP11 := hP10.keep hf11 (by omega)
    have hx11 := hf11.heap hx10 (by omega)
    have hF11 : Fm (fun _ => False) w w11 := Fm.own hF10 hf11 (by rintro y rfl; omega)
    have hO11 := ae hO10 hf11 (fun k h1 h2 h3 e => by omega)
    by_cases h3 : ofB (s.take 2) ≤ (s.drop 2).length
    ·have e4 : decide (ofB (s.take 2) ≤ (s.drop 2).length) = true := by simpa using h3
     rw [e4, cond_true] at hS11
     rw [e4, cond_true]
     have hM2 := hM.next hlt h2 h3
     generalize (s.drop 2).take (ofB (s.take 2)) = it at hM2
     generalize (s.drop 2).drop (ofB (s.take 2)) = s' at hM2 hS11
     simp only [RS, hP11.c5]
     have hz11 : x5 < w11.heap.size := aq hS11
     refine hI E22 (by omega) 59 (cs := [stv it]) rfl (xl _ _) (by intro u hu; simp at hu; subst hu; rfl) hO11 (by unfold maxLen; omega) (by omega) hz11 ?_
     intro v12 w12 hO12 _ hf12
     have hP12 := hP11.keep hf12 (by omega)
     have hx12 := hf12.heap hx11 (by omega)
     have hS12 := hS11.keep hf12 (by omega)
     have hF12 : Fm (fun _ => False) w w12 := Fm.own hF11 hf12 (fun y hy => by omega)
     try simp only [RS]
     refine ay hP12 (by show 5 < 6; decide) (aF hO12) ?_
     intro w13 hw13 hs13 hf13
     replace hw13 : PB w13 g4 (bR d (l ++ [it])) v12 := hw13
     simp only [RS, e2]
     refine ⟨⟨i + 1, l ++ [it], s', v12, rfl, by omega, hM2, hw13, ?_, hS12.keep hf13 (by omega), hf13.heap hx12 (fun e => hne4 e.symm), Fm.own hF12 hf13 (by rintro y rfl; omega)⟩, by simp only [bw]; omega⟩
     have : w13.ownsRow (x5 + 1) 9 1 v12 (l.length + 1) (l.map stv ++ [stv it]) := ae hO12 hf13 (fun k h1 h2 h3 e => by omega)
     simpa using this
    ·have e4 : decide (ofB (s.take 2) ≤ (s.drop 2).length) = false := by simpa using h3
     rw [e4]
     simp only [RS]
     refine af (eE _) ?_
     refine aB hx11 rfl rfl (by intro u hu; simp [pcs] at hu; rcases hu with rfl | rfl | rfl | rfl | rfl | rfl <;> rfl) ?_
     intro w12 hw12 hs12 hf12
     exact ret w11 _ 31 _ hx11 rfl hF11 rfl rfl (fo h512 hse (hM.stop hlt (fun e => h3 e.2))) w12 hw12 (Fm.own hF11 hf12 (by rintro y rfl; omega))
   ·have e3 : decide (2 ≤ s.length) = false := by simpa using h2
    rw [e3, cond_false] at hS10
    rw [e3, cond_false]
    simp only [RS]
    refine (dF w10 [] (by simp)).mono ?_
    rintro _ w10 ⟨rfl, rfl⟩
    have eo : ofN [] = 0 := rfl
    rw [eo]
    refine (gC hS10 0).mono ?_
    rintro _ w11 ⟨rfl, hS11, hf11⟩
    have hx11 := hf11.heap hx10 (by omega)
    have hF11 : Fm (fun _ => False) w w11 := Fm.own hF10 hf11 (by rintro y rfl; omega)
    simp only [RS]
    refine af (eE _) ?_
    refine aB hx11 rfl rfl (by intro u hu; simp [pcs] at hu; rcases hu with rfl | rfl | rfl | rfl | rfl | rfl <;> rfl) ?_
    intro w12 hw12 hs12 hf12
    exact ret w11 _ 31 _ hx11 rfl hF11 rfl rfl (fo h512 hse (hM.stop hlt (fun e => h2 e.1))) w12 hw12 (Fm.own hF11 hf12 (by rintro y rfl; omega))
  ·have hie : i = bf d := by omega
   rw [hie] at hM
   have e1 : decide ((i : Int) < (bf d : Int)) = false := by rw [decide_eq_false_iff_not]; omega
   have hds := kC h512 hse hM.last
   simp only [RS, e1, hS9.c]
   refine (qG w9 s (by have := hM.2.2.1; omega)).mono ?_
   rintro _ w10 ⟨⟨t, rfl, ht⟩, hf10⟩
   have hP10 := hP9.keep hf10 (fun e => e)
   have hx10 := hf10.heap hx9 (fun e => e)
   have hF10 := Fmf hF9 hf10
   have hO10 := ae hO9 hf10 (fun _ _ _ _ e => e)
   have bad : uf d s = true → RunS prog (Instr.build 61 #[]) w10 (fun t93_149 w_150 =>
     St 6 w_150 (pv x2) t93_149 fun u_151 w_152 =>
     bU (bF prog (fun j => bif Nat.beq j 2 then pv x2 else bif Nat.beq j 3 then (Value.int .i64 31) else undef) w_152 [(ResultVar.cell 2 61), (ResultVar.tmp 3)]) w_152 (fun r w' => ∃ cs, r = .tuple #[.agg cs, iv (cP d).2] ∧ PgOw w' w.heap.size cs (cP d).1 ∧ Fm (fun _ => False) w w')) := by
    intro hb
    rw [hb, cond_true] at hds
    refine af (eE _) ?_
    refine aB hx10 rfl rfl (by intro u hu; simp [pcs] at hu; rcases hu with rfl | rfl | rfl | rfl | rfl | rfl <;> rfl) ?_
    intro w12 hw12 hs12 hf12
    exact ret w10 _ 31 _ hx10 rfl hF10 rfl rfl hds w12 hw12 (Fm.own hF10 hf12 (by rintro y rfl; omega))
   have i4 : ixS (stv d) (Value.int .i64 4) = some (.int .u8 (((d.getD 4 0).toNat : Nat))) := bI (k := 4) (by omega)
   have dk1 : decide (((bR d l).kind) < 1) = decide (bP d < 1) := by rw [decide_eq_decide]; unfold bR; simp only; omega
   have dk3 : decide (3 < (bR d l).kind) = decide (3 < bP d) := by rw [decide_eq_decide]; unfold bR; simp only; omega
   have d4 : decide ((127 : Int) < (((d.getD 4 0).toNat : Nat) : Int)) = decide (127 < (d.getD 4 0).toNat) := by rw [decide_eq_decide]; omega
   have ht0 : decide (t = []) = decide (s = aG s.length) := by rw [decide_eq_decide]; exact ht
   simp only [RS, br, aD, ht0]
   unfold uf at bad hds
   cases b1 : decide (s = aG s.length) with
   | false =>
    simp only [RS]
    refine bad ?_
    have : s ≠ aG s.length := by simpa using b1
    simp [this]
   | true =>
   have b1' : decide (s ≠ aG s.length) = false := by simpa using b1
   rw [b1', Bool.false_or] at bad hds
   simp only [RS, i4, d4]
   cases b2 : decide (127 < (d.getD 4 0).toNat) with
   | true => simp only [RS]; exact bad (by rw [b2]; simp)
   | false =>
   rw [b2, Bool.false_or] at bad hds
   simp only [RS, hP10.c1, dk1]
   cases b3 : decide (bP d < 1) with
   | true => simp only [RS]; exact bad (by rw [b3]; simp)
   | false =>
   rw [b3, Bool.false_or] at bad hds
   simp only [RS, hP10.c1, dk3]
   cases b4 : decide (3 < bP d) with
   | true => simp only [RS]; exact bad b4
   | false =>
   rw [b4, cond_false] at hds
   simp only [RS, hP10.all]
   refine aB hx10 rfl rfl (by intro u hu; simp [pcs] at hu; rcases hu with rfl | rfl | rfl | rfl | rfl | rfl <;> first | rfl | exact aF hO10) ?_
   intro w12 hw12 hs12 hf12
   refine qZ (g := x2) (i := 2) (j := 3) (u := iv 0) hw12 rfl rfl rfl _ ?_
   rw [hds]
   refine ⟨_, rfl, ⟨⟨v, rfl, aW (ae hO10 hf12 (fun k h1 h2 h3 e => by omega)) (by omega)⟩, fun x hx => by have := hM.2.1 x hx; omega, jz h512 (by omega)⟩, Fm.own hF10 hf12 (by rintro y rfl; omega)⟩
 ·intro jj hjj
  have s4 : slS (stv d) (some (Value.int .i64 4)) (some (Value.int .i64 12)) = some (stv ((d.drop 4).take 8)) := cU (i := 4) (j := 12) (by omega) (by omega) .i64 .i64
  have s5 : slS (stv d) (some (Value.int .i64 14)) (some (Value.int .i64 18)) = some (stv ((d.drop 14).take 4)) := cU (i := 14) (j := 18) (by omega) (by omega) .i64 .i64
  have i12 : ixS (stv d) (Value.int .i64 12) = some (.int .u8 ((bP d : Nat))) := bI (k := 12) (by omega)
  have i13 : ixS (stv d) (Value.int .i64 13) = some (.int .u8 ((cD d : Nat))) := bI (k := 13) (by omega)
  have c12 : IntKind.i64.wrap (bP d : Nat) = ((bP d : Nat) : Int) := gb _
  have c13 : IntKind.i64.wrap (cD d : Nat) = ((cD d : Nat) : Int) := gb _
  have o1 : ofN ((d.drop 4).take 8) = oI d % 2 ^ 63 := rfl
  have o2 : ofN ((d.drop 14).take 4) = du d := bT (by rw [List.length_take]; omega)
  have l1 : ((d.drop 4).take 8).length ≤ 9223372036854775806 := by rw [List.length_take]; omega
  have l2 : ((d.drop 14).take 4).length ≤ 9223372036854775806 := by rw [List.length_take]; omega
  have hf4 := Fm.drew (fun _ => False) w3
  have hx4 : w3.drew.heap[x2]? = some (.cells #[iv 0, iv 0, iv 0, iv 0, stv [], .slice none 0 0] 61) := hx3
  have hF4 := Fmf hF3 hf4
  have hz4 := hF4.size
  have hx2l := aq hx4
  refine ⟨fun _ => True, trivial, ?_⟩
  simp only [RS, s4, s5, i12, i13, aV, c12, c13, true_and, and_true]
  generalize w3.drew = w4 at hf4 hx4 hF4 hz4 hx2l
  have fin : ∀ (g : Nat) (w5 w6 : World), w4.heap.size ≤ g → Fm (fun _ => False) w4 w5 → w5.heap[g]? = some (.cells #[iv 0, iv 0, iv 0, iv 0, stv [], .slice none 0 0] 61) → w6.heap[g]? = some (.cells (pcs ⟨(oI d % 2 ^ 63 : Nat), bP d, cD d, du d, [], []⟩ (.slice none 0 0)) 61) → Fm (· = g) w5 w6 → jj [pv g] w6 := by
   intro g w5 w6 h1 h2 h3 h4 h5
   exact hjj _ _ ⟨g, rfl, h4, by omega, by omega, h5.heap (h2.heap hx4 (fun e => e)) (by omega), Fm.own (Fmf hF4 h2) h5 (by rintro y rfl; omega)⟩
  have lay : ∀ u ∈ (pcs ⟨(oI d % 2 ^ 63 : Nat), bP d, cD d, du d, [], []⟩ (.slice none 0 0)).toList, u.oneCell' = true := by
   intro u hu; simp [pcs] at hu; rcases hu with rfl | rfl | rfl | rfl | rfl | rfl <;> rfl
  refine ⟨?_, ?_⟩
  ·refine (dF w4 _ l1).mono ?_
   rintro _ w4 ⟨rfl, rfl⟩
   rw [o1]
   refine ⟨?_, ?_⟩
   ·refine (dF w4 _ l2).mono ?_
    rintro _ w4 ⟨rfl, rfl⟩
    rw [o2]
    refine ⟨_, fun w5 _ => af (jx _ _ _ _ _) ⟨rfl, rfl⟩, ?_⟩
    refine ao ?_
    intro g w5 hg hs5 hw5 hf5
    refine aB hw5 rfl rfl lay ?_
    intro w6 hw6 hs6 hf6
    exact fin g w5 w6 (by omega) hf5 hw5 hw6 hf6
   ·refine ao ?_
    intro g w5 hg hs5 hw5 hf5
    refine (dF w5 _ l2).mono ?_
    rintro _ w5 ⟨rfl, rfl⟩
    rw [o2]
    refine af (jx _ _ _ _ _) ⟨rfl, ?_⟩
    refine aB hw5 rfl rfl lay ?_
    intro w6 hw6 hs6 hf6
    exact fin g w5 w6 (by omega) hf5 hw5 hw6 hf6
  ·refine ao ?_
   intro g w5 hg hs5 hw5 hf5
   refine (dF w5 _ l1).mono ?_
   rintro _ w5 ⟨rfl, rfl⟩
   rw [o1]
   refine (dF w5 _ l2).mono ?_
   rintro _ w5 ⟨rfl, rfl⟩
   rw [o2]
   refine af (jx _ _ _ _ _) ⟨rfl, ?_⟩
   refine aB hw5 rfl rfl lay ?_
   intro w6 hw6 hs6 hf6
   exact fin g w5 w6 (by omega) hf5 hw5 hw6 hf6
def tE (a b : Pg) : Bool := decide (a.items = b.items) && decide (a.lsn = b.lsn) && decide (a.kind = b.kind) && decide (a.level = b.level) && decide (a.right = b.right) && decide (a.high = b.high)
theorem qK (a b : Pg) : tE a b = decide (a = b) := by
 obtain ⟨a1, a2, a3, a4, a5, a6⟩ := a
 obtain ⟨b1, b2, b3, b4, b5, b6⟩ := b
 unfold tE
 rw [Bool.eq_iff_iff]
 simp only [Bool.and_eq_true, decide_eq_true_eq, Pg.mk.injEq]
 constructor
 ·rintro ⟨⟨⟨⟨⟨h1, h2⟩, h3⟩, h4⟩, h5⟩, h6⟩; exact ⟨h2, h3, h4, h5, h6, h1⟩
 ·rintro ⟨h2, h3, h4, h5, h6, h1⟩; exact ⟨⟨⟨⟨⟨h1, h2⟩, h3⟩, h4⟩, h5⟩, h6⟩
theorem vf {w : World} {ca cb : Array Value} {a b : Pg} (ha : PgAs w ca a) (hb : PgAs w cb b) : Cl prog 169 [.agg ca, .agg cb] w fun r w' => r = .bool (decide (a = b)) ∧ Fm (fun _ => False) w w' := by
 rw [← qK]
 obtain ⟨va, rfl, oa, hca⟩ := ha.ex
 obtain ⟨vb, rfl, ob, hcb⟩ := hb.ex
 refine c169 ?_; unfold T169
 refine ao ?_
 intro xa w1 hxa hs1 hw1 hf1
 refine ao ?_
 intro xb w2 hxb hs2 hw2 hf2
 replace hw1 : PB w2 xa a va := hf2.heap hw1 (fun e => e)
 replace hw2 : PB w2 xb b vb := hw2
 have hF2 := Fmf hf1 hf2
 simp only [RS, hw1.c5, hw2.c5]
 refine (oe (hca.keep hF2 (fun _ _ e => e)) (hcb.keep hF2 (fun _ _ e => e))).mono ?_
 rintro _ w3 ⟨rfl, hf3⟩
 have hA := hw1.keep hf3 (fun e => e)
 have hB := hw2.keep hf3 (fun e => e)
 have hF3 := Fmf hF2 hf3
 have hne : xa ≠ xb := by omega
 unfold tE
 simp only [RS]
 cases d0 : decide (a.items = b.items) with
 | false => simp only [RS, Bool.false_and]; exact ⟨(by trivial), hF3⟩
 | true =>
 have hla := hA.lt
 have hlb := hB.lt
 have hz : w2.heap.size = w.heap.size + 2 := by omega
 have hxw : w.heap.size ≤ xa ∧ w.heap.size ≤ xb := by omega
 simp only [RS, Bool.true_and]
 refine ay hA (by show 5 < 6; decide) rfl ?_
 intro w4 hw4 hs4 hf4
 replace hw4 : PB w4 xa a (.slice none 0 0) := hw4
 have hB4 := hB.keep hf4 (fun e => hne e.symm)
 try simp only [RS]
 refine ay hB4 (by show 5 < 6; decide) rfl ?_
 intro w5 hw5 hs5 hf5
 replace hw5 : PB w5 xb b (.slice none 0 0) := hw5
 have hA5 := hw4.keep hf5 hne
 have hF5 : Fm (fun _ => False) w w5 := Fm.own (Fm.own hF3 hf4 (by rintro y rfl; omega)) hf5 (by rintro y rfl; omega)
 simp only [RS, hA5.c0, hw5.c0, aA]
 cases d1 : decide (a.lsn = b.lsn) with
 | false => simp only [RS, Bool.false_and]; exact ⟨(by trivial), hF5⟩
 | true =>
 simp only [RS, hA5.c1, hw5.c1, aA, Bool.true_and]
 cases d2 : decide (a.kind = b.kind) with
 | false => simp only [RS, Bool.false_and]; exact ⟨(by trivial), hF5⟩
 | true =>
 simp only [RS, hA5.c2, hw5.c2, aA, Bool.true_and]
 cases d3 : decide (a.level = b.level) with
 | false => simp only [RS, Bool.false_and]; exact ⟨(by trivial), hF5⟩
 | true =>
 simp only [RS, hA5.c3, hw5.c3, aA, Bool.true_and]
 cases d4 : decide (a.right = b.right) with
 | false => simp only [RS, Bool.false_and]; exact ⟨(by trivial), hF5⟩
 | true =>
 simp only [RS, hA5.c4, hw5.c4, aD, Bool.true_and]
 exact ⟨(by trivial), hF5⟩
theorem nV {w : World} {ca cb : Array Value} {a b : Pg} (ha : PgAs w ca a) (hb : PgAs w cb b) : Cl prog 34 [.agg ca, .agg cb] w fun r w' => r = .bool (decide (a = b)) ∧ Fm (fun _ => False) w w' := by
 obtain ⟨va, rfl, oa, hca⟩ := ha.ex
 obtain ⟨vb, rfl, ob, hcb⟩ := hb.ex
 refine c34 ?_; unfold T34
 refine ao ?_
 intro xa w1 hxa hs1 hw1 hf1
 refine ao ?_
 intro xb w2 hxb hs2 hw2 hf2
 replace hw1 : PB w2 xa a va := hf2.heap hw1 (fun e => e)
 replace hw2 : PB w2 xb b vb := hw2
 have hF2 := Fmf hf1 hf2
 have no : ¬ a = b → (Value.bool false = Value.bool (decide (a = b))) := fun h => by rw [show decide (a = b) = false by simpa using h]
 have hlt := hca.lt
 unfold maxLen at hlt
 simp only [RS, hw1.c0, hw2.c0, al]
 cases d1 : decide (a.lsn = b.lsn) with
 | false => simp only [RS]; exact ⟨no (fun e => by rw [e] at d1; simp at d1), hF2⟩
 | true =>
 simp only [RS, hw1.c1, hw2.c1, al]
 cases d2 : decide (a.kind = b.kind) with
 | false => simp only [RS]; exact ⟨no (fun e => by rw [e] at d2; simp at d2), hF2⟩
 | true =>
 simp only [RS, hw1.c2, hw2.c2, al]
 cases d3 : decide (a.level = b.level) with
 | false => simp only [RS]; exact ⟨no (fun e => by rw [e] at d3; simp at d3), hF2⟩
 | true =>
 simp only [RS, hw1.c3, hw2.c3, al]
 cases d4 : decide (a.right = b.right) with
 | false => simp only [RS]; exact ⟨no (fun e => by rw [e] at d4; simp at d4), hF2⟩
 | true =>
 simp only [RS, hw1.c4, hw2.c4, aD]
 cases d5 : decide (a.high = b.high) with
 | false => simp only [RS]; exact ⟨no (fun e => by rw [e] at d5; simp at d5), hF2⟩
 | true =>
 have dl : decide ((a.items.length : Int) = (b.items.length : Int)) = decide (a.items.length = b.items.length) := by rw [decide_eq_decide]; omega
 simp only [RS, hw1.c5, hw2.c5, hca.lenV, hcb.lenV, al, dl]
 cases d6 : decide (a.items.length = b.items.length) with
 | false => simp only [RS]; exact ⟨no (fun e => by rw [e] at d6; simp at d6), hF2⟩
 | true =>
 rw [decide_eq_true_eq] at d1 d2 d3 d4 d5 d6
 simp only [RS]
 refine ⟨fun vs w2' => ∃ i : Nat, vs = [iv i] ∧ i ≤ a.items.length ∧ a.items.take i = b.items.take i ∧ PB w2' xa a va ∧ PB w2' xb b vb ∧ Fm (fun _ => False) w w2', fun vs _ => (a.items.length - nth vs 0).toNat, ⟨0, rfl, by omega, rfl, hw1, hw2, hF2⟩, ?_⟩
 rintro _ w3 ivv ⟨i, hvs, hi, heq, hA, hB, hF3⟩
 cases hvs
 by_cases hlt2 : i < a.items.length
 ·have e1 : decide ((i : Int) < (a.items.length : Int)) = true := by rw [decide_eq_true_eq]; omega
  have e2 : IntKind.i64.wrap ((i : Int) + 1) = ((i + 1 : Nat) : Int) := by rw [ab] <;> omega
  have hx : a.items[i]? = some a.items[i] := List.getElem?_eq_getElem hlt2
  have hy : b.items[i]? = some b.items[i] := List.getElem?_eq_getElem (by omega)
  generalize a.items[i] = x at hx
  generalize b.items[i] = y at hy
  have hf3 := Fm.drew (fun _ => False) w3
  obtain ⟨ad, hix, _, hc⟩ := hca.at1 (i := i) (x := stv x) (by rw [List.getElem?_map, hx]; rfl) .i64
  obtain ⟨ad', hix', _, hc'⟩ := hcb.at1 (i := i) (x := stv y) (by rw [List.getElem?_map, hy]; rfl) .i64
  have hc2 := hF3.cell' hc (fun e => e)
  have hc2' := hF3.cell' hc' (fun e => e)
  simp only [RS, hA.c5, hca.lenV, e1, hB.c5, true_and, hix, hc2, hix', hc2', aD]
  cases hd : decide (x = y) with
  | true =>
   have hxy : x = y := by simpa using hd
   simp only [RS, e2]
   exact ⟨⟨i + 1, rfl, by omega, by rw [List.take_add_one, List.take_add_one, heq, hx, hy, hxy], hA.keep hf3 (fun e => e), hB.keep hf3 (fun e => e), Fmf hF3 hf3⟩, by simp only [bw]; omega⟩
  | false =>
   simp only [RS]
   refine ⟨no (fun e => ?_), Fmf hF3 hf3⟩
   rw [decide_eq_false_iff_not] at hd
   rw [e, hy] at hx
   cases hx
   exact hd rfl
 ·have hie : i = a.items.length := by omega
  subst hie
  have e1 : decide (((a.items.length : Nat) : Int) < (a.items.length : Int)) = false := by simp
  rw [List.take_length, List.take_of_length_le (by omega)] at heq
  simp only [RS, hA.c5, hca.lenV, e1]
  refine ⟨?_, hF3⟩
  have : a = b := by
   obtain ⟨a1, a2, a3, a4, a5, a6⟩ := a
   obtain ⟨b1, b2, b3, b4, b5, b6⟩ := b
   simp only at d1 d2 d3 d4 d5 heq
   rw [d1, d2, d3, d4, d5, heq]
  rw [show decide (a = b) = true by simpa using this]
def T13 (k : KV) (s0 : Value) (w : World) : Prop :=
 New #[(.int .i64 0), (.int .i64 0), (.int .i64 0), (.int .u8 0), (.int .i64 0), (.int .i64 0), (.int .i64 0), (.int .i64 0), (.int .i64 0), (.int .i64 0), (.string (.mk #[])), (.slice none 0 0), (.slice none 0 0), (.slice none 0 0), (.slice none 0 0), (.slice none 0 0)] 28 w fun t1 w2 =>
 Pu (bu s0) fun t3 =>
 Pu (aa (.int .i64) .lss t3 (.int .i64 8)) fun t4 =>
 IfB t4
 (RunS prog (Instr.build 28 #[]) w2 fun t5 w6 =>
 St 16 w6 t1 t5 fun u7 w8 =>
 bU (bF prog (fun j => bif Nat.beq j 2 then t1 else bif Nat.beq j 3 then (.int .i64 0) else bif Nat.beq j 4 then (.int .i64 40) else undef) w8 [(ResultVar.cell 2 28), (ResultVar.tmp 3), (ResultVar.tmp 4)]) w8 k)
 (Pu (slS s0 none (some (.int .i64 4))) fun t9 =>
 Cl prog 79 [t9] w2 fun t10 w11 =>
 Pu (aa (.int .i64) .eql t10 (.int .i64 0)) fun t12 =>
 Gd (isB false t12) (fun kk => kk t10 w11) w11 fun t13 w14 =>
 Gd (isB false t12) (fun kk => Pu (aa (.int .i64) .gtr t13 (.int .i64 65535)) fun vv => kk vv w14) w14 fun t15 w16 =>
 Pu (ak t12 (.bool true) t15) fun t17 =>
 IfB t17
 (RunS prog (Instr.build 28 #[]) w16 fun t18 w19 =>
 St 16 w19 t1 t18 fun u20 w21 =>
 bU (bF prog (fun j => bif Nat.beq j 2 then t1 else bif Nat.beq j 3 then (.int .i64 0) else bif Nat.beq j 4 then (.int .i64 41) else undef) w21 [(ResultVar.cell 2 28), (ResultVar.tmp 3), (ResultVar.tmp 4)]) w21 k)
 (Pu (bu s0) fun t22 =>
 Pu (aa (.int .i64) .add (.int .i64 8) t10) fun t23 =>
 Pu (aa (.int .i64) .lss t22 t23) fun t24 =>
 IfB t24
 (RunS prog (Instr.build 28 #[]) w16 fun t25 w26 =>
 St 16 w26 t1 t25 fun u27 w28 =>
 bU (bF prog (fun j => bif Nat.beq j 2 then t1 else bif Nat.beq j 3 then (.int .i64 0) else bif Nat.beq j 4 then (.int .i64 40) else undef) w28 [(ResultVar.cell 2 28), (ResultVar.tmp 3), (ResultVar.tmp 4)]) w28 k)
 (Pu (aa (.int .i64) .add (.int .i64 8) t10) fun t29 =>
 Pu (slS s0 (some (.int .i64 8)) (some t29)) fun t30 =>
 Pu (slS s0 (some (.int .i64 4)) (some (.int .i64 8))) fun t31 =>
 Cl prog 79 [t31] w16 fun t32 w33 =>
 Cl prog 80 [t30] w33 fun t34 w35 =>
 Pu (cvI IntKind.i64 t34) fun t36 =>
 Pu (aa (.int .i64) .neq t32 t36) fun t37 =>
 IfB t37
 (RunS prog (Instr.build 28 #[]) w35 fun t38 w39 =>
 St 16 w39 t1 t38 fun u40 w41 =>
 bU (bF prog (fun j => bif Nat.beq j 2 then t1 else bif Nat.beq j 3 then (.int .i64 0) else bif Nat.beq j 4 then (.int .i64 30) else undef) w41 [(ResultVar.cell 2 28), (ResultVar.tmp 3), (ResultVar.tmp 4)]) w41 k)
 (Cl prog 81 [t30] w35 fun t42 w43 =>
 Pu (aJ t42 0) fun t44 =>
 Pu (aJ t42 1) fun t45 =>
 New #[(.int .i64 0), (.int .i64 0), (.int .i64 0), (.int .u8 0), (.int .i64 0), (.int .i64 0), (.int .i64 0), (.int .i64 0), (.int .i64 0), (.int .i64 0), (.string (.mk #[])), (.slice none 0 0), (.slice none 0 0), (.slice none 0 0), (.slice none 0 0), (.slice none 0 0)] 28 w43 fun r46 w47 =>
 St 16 w47 r46 t44 fun u48 w49 =>
 Pu (unV .not t45) fun t50 =>
 IfB t50
 (RunS prog (Instr.build 28 #[]) w49 fun t51 w52 =>
 St 16 w52 t1 t51 fun u53 w54 =>
 bU (bF prog (fun j => bif Nat.beq j 2 then t1 else bif Nat.beq j 3 then (.int .i64 0) else bif Nat.beq j 4 then (.int .i64 41) else undef) w54 [(ResultVar.cell 2 28), (ResultVar.tmp 3), (ResultVar.tmp 4)]) w54 k)
 (LdN 16 w49 r46 fun t55 w56 =>
 Cl prog 82 [t55] w56 fun t57 w58 =>
 Pu (aJ t57 0) fun t59 =>
 Pu (aJ t57 1) fun t60 =>
 Pu (aa (.int .i64) .neq t60 (.int .i64 0)) fun t61 =>
 Gd (isB false t61) (fun kk => kk t59 w58) w58 fun t62 w63 =>
 Gd (isB false t61) (fun kk => kk t30 w63) w63 fun t64 w65 =>
 Gd (isB false t61) (fun kk => Pu (aa TypeDesc.string .neq t62 t64) fun vv => kk vv w65) w65 fun t66 w67 =>
 Pu (ak t61 (.bool true) t66) fun t68 =>
 IfB t68
 (RunS prog (Instr.build 28 #[]) w67 fun t69 w70 =>
 St 16 w70 t1 t69 fun u71 w72 =>
 bU (bF prog (fun j => bif Nat.beq j 2 then t1 else bif Nat.beq j 3 then (.int .i64 0) else bif Nat.beq j 4 then (.int .i64 41) else undef) w72 [(ResultVar.cell 2 28), (ResultVar.tmp 3), (ResultVar.tmp 4)]) w72 k)
 (LdN 16 w67 r46 fun t73 w74 =>
 Pu (aa (.int .i64) .add (.int .i64 8) t10) fun t75 =>
 St 16 w74 t1 t73 fun u76 w77 =>
 bU (bF prog (fun j => bif Nat.beq j 2 then t1 else bif Nat.beq j 3 then t75 else bif Nat.beq j 4 then (.int .i64 0) else undef) w77 [(ResultVar.cell 2 28), (ResultVar.tmp 3), (ResultVar.tmp 4)]) w77 k))))))
theorem c13 {k : KV} {s0 : Value} {w : World} (h : T13 k s0 w) : Cl prog 13 [s0] w k :=
 cE ac mixed L0 J0 Tryz.func13 (by kernel_rfl) (by kernel_rfl) (by kernel_rfl) h
def T81 (k : KV) (s0 : Value) (w : World) : Prop :=
 New #[(.int .i64 0), (.int .i64 0), (.int .i64 0), (.int .u8 0), (.int .i64 0), (.int .i64 0), (.int .i64 0), (.int .i64 0), (.int .i64 0), (.int .i64 0), (.string (.mk #[])), (.slice none 0 0), (.slice none 0 0), (.slice none 0 0), (.slice none 0 0), (.slice none 0 0)] 28 w fun t1 w2 =>
 Cl prog 148 [s0] w2 fun t3 w4 =>
 New #[(.pointer none)] 181 w4 fun r5 w6 =>
 St 1 w6 r5 t3 fun u7 w8 =>
 New #[(.int .i64 0), (.int .i64 0), (.int .i64 0), (.int .u8 0), (.int .i64 0), (.int .i64 0), (.int .i64 0), (.int .i64 0), (.int .i64 0), (.int .i64 0), (.string (.mk #[])), (.slice none 0 0), (.slice none 0 0), (.slice none 0 0), (.slice none 0 0), (.slice none 0 0)] 28 w8 fun x9 w10 =>
 ClV prog (.func (Fn.func 149) #[] #[r5]) [] w10 fun t11 w12 =>
 ClV prog (.func (Fn.func 149) #[] #[r5]) [] w12 fun t13 w14 =>
 ClV prog (.func (Fn.func 149) #[] #[r5]) [] w14 fun t15 w16 =>
 Pu (faV 0 x9) fun t17 =>
 St 1 w16 t17 t11 fun u18 w19 =>
 Pu (faV 1 x9) fun t20 =>
 St 1 w19 t20 t13 fun u21 w22 =>
 Pu (faV 2 x9) fun t23 =>
 St 1 w22 t23 t15 fun u24 w25 =>
 Ld w25 r5 fun t26 w27 =>
 Cl prog 150 [t26, (.int .i64 13)] w27 fun t28 w29 =>
 Pu (cvI IntKind.u8 t28) fun t30 =>
 Pu (faV 3 x9) fun t31 =>
 St 1 w29 t31 t30 fun u32 w33 =>
 ClV prog (.func (Fn.func 149) #[] #[r5]) [] w33 fun t34 w35 =>
 ClV prog (.func (Fn.func 149) #[] #[r5]) [] w35 fun t36 w37 =>
 ClV prog (.func (Fn.func 149) #[] #[r5]) [] w37 fun t38 w39 =>
 ClV prog (.func (Fn.func 149) #[] #[r5]) [] w39 fun t40 w41 =>
 ClV prog (.func (Fn.func 149) #[] #[r5]) [] w41 fun t42 w43 =>
 ClV prog (.func (Fn.func 149) #[] #[r5]) [] w43 fun t44 w45 =>
 Pu (faV 4 x9) fun t46 =>
 St 1 w45 t46 t34 fun u47 w48 =>
 Pu (faV 5 x9) fun t49 =>
 St 1 w48 t49 t36 fun u50 w51 =>
 Pu (faV 6 x9) fun t52 =>
 St 1 w51 t52 t38 fun u53 w54 =>
 Pu (faV 7 x9) fun t55 =>
 St 1 w54 t55 t40 fun u56 w57 =>
 Pu (faV 8 x9) fun t58 =>
 St 1 w57 t58 t42 fun u59 w60 =>
 Pu (faV 9 x9) fun t61 =>
 St 1 w60 t61 t44 fun u62 w63 =>
 Ld w63 r5 fun t64 w65 =>
 Cl prog 151 [t64, (.int .i64 512)] w65 fun t66 w67 =>
 Pu (faV 10 x9) fun t68 =>
 St 1 w67 t68 t66 fun u69 w70 =>
 ∃ C71 : World → Prop, C71 (World.drew w70) ∧
 (Ld (World.drew w70) r5 fun t72 w73 =>
 w73 = (World.drew w70) ∧
 ∃ t74, (∀ w75, C71 w75 → Ld w75 r5 fun t76 w77 =>
 t76 = t74 ∧ w77 = w75) ∧
 (Cl prog 152 [t72, (.int .i64 255)] (World.drew w70) fun t78 w79 =>
 C71 w79 ∧
 (Pu (faV 11 x9) fun t80 =>
 Cl prog 152 [t74, (.int .i64 255)] w79 fun t81 w82 =>
 St 1 w82 t80 t78 fun u83 w84 =>
 Pu (faV 12 x9) fun t85 =>
 St 1 w84 t85 t81 fun u86 w87 =>
 Ld w87 r5 fun t88 w89 =>
 Cl prog 150 [t88, (.int .i64 4)] w89 fun t90 w91 =>
 ∃ (I92 : List Value → World → Prop) (m93 : List Value → World → Nat), I92 [(.int .i64 0)] w91 ∧
 ∀ (g134 : Fr) (w133 : World), ∀ t100 : Value, I92 [t100] w133 →
 (Pu (aa (.int .i64) .lss t100 t90) fun t135 =>
 IfB t135
 (∃ C136 : World → Prop, C136 (World.drew w133) ∧
 (∃ t137, (∀ w138, C136 w138 → Ld w138 r5 fun t139 w140 =>
 t139 = t137 ∧ w140 = w138) ∧
 (ClV prog (.func (Fn.func 149) #[] #[r5]) [] (World.drew w133) fun t141 w142 =>
 C136 w142 ∧
 (Cl prog 151 [t137, (.int .i64 512)] w142 fun t143 w144 =>
 Pu (bu t143) fun t145 =>
 Pu (aa (.int .i64) .sub (.int .i64 512) t145) fun t146 =>
 Cl prog 95 [(.string (.mk #[0])), t146] w144 fun t147 w148 =>
 Pu (aa TypeDesc.string .add t143 t147) fun t149 =>
 Cl prog 41 [t149] w148 fun t150 w151 =>
 Pu (aJ t150 0) fun t152 =>
 Pu (aJ t150 1) fun t153 =>
 New #[(.int .i64 0), (.int .i64 0), (.int .i64 0), (.int .i64 0), (.string (.mk #[])), (.slice none 0 0)] 61 w151 fun p154 w155 =>
 St 6 w155 p154 t152 fun u156 w157 =>
 Pu (aa (.int .i64) .neq t153 (.int .i64 0)) fun t158 =>
 Gd (isB false t158) (fun kk => Ld w157 r5 kk) w157 fun t159 w160 =>
 Gd (isB false t158) (fun kk => Cl prog 153 [t159] w160 kk) w160 fun t161 w162 =>
 Gd (isB false t158) (fun kk => Pu (aa (.int .i64) .neq t161 (.int .i64 0)) fun vv => kk vv w162) w162 fun t163 w164 =>
 Pu (ak t158 (.bool true) t163) fun t165 =>
 IfB t165
 (LdN 16 w164 x9 fun t166 w167 =>
 St 16 w167 t1 t166 fun u168 w169 =>
 bU (bF prog (fun j => bif Nat.beq j 2 then t1 else bif Nat.beq j 3 then (.bool false) else undef) w169 [(ResultVar.cell 2 28), (ResultVar.tmp 3)]) w169 k)
 (Pu (faV 13 x9) fun t170 =>
 Ld w164 t170 fun t171 w172 =>
 LdN 6 w172 p154 fun t173 w174 =>
 RunS prog (Instr.build 118 #[(0, t141), (1, t173)]) w174 fun t175 w176 =>
 RunS prog (Instr.buildSlice 24 1 #[(0, t175)]) w176 fun t177 w178 =>
 RunS prog (Builtin.append_ #[24, 24] 24 #[t171, t177]) w178 fun t179 w180 =>
 Pu (faV 13 x9) fun t181 =>
 St 1 w180 t181 t179 fun u182 w183 =>
 Pu (aa (.int .i64) .add t100 (.int .i64 1)) fun t184 =>
 I92 [t184] w183 ∧ m93 [t184] w183 < m93 [t100] w133)))))
 (Ld w133 r5 fun t185 w186 =>
 Cl prog 150 [t185, (.int .i64 8192)] w186 fun t187 w188 =>
 ∃ (I189 : List Value → World → Prop) (m190 : List Value → World → Nat), I189 [(.int .i64 0)] w188 ∧
 ∀ (g211 : Fr) (w210 : World), ∀ t193 : Value, I189 [t193] w210 →
 (Pu (aa (.int .i64) .lss t193 t187) fun t212 =>
 IfB t212
 (Ld w210 r5 fun t213 w214 =>
 Cl prog 153 [t213] w214 fun t215 w216 =>
 Pu (aa (.int .i64) .neq t215 (.int .i64 0)) fun t217 =>
 IfB t217
 (LdN 16 w216 x9 fun t218 w219 =>
 St 16 w219 t1 t218 fun u220 w221 =>
 bU (bF prog (fun j => bif Nat.beq j 2 then t1 else bif Nat.beq j 3 then (.bool false) else undef) w221 [(ResultVar.cell 2 28), (ResultVar.tmp 3)]) w221 k)
 (∃ C222 : World → Prop, C222 (World.drew w216) ∧
 (Pu (faV 14 x9) fun t223 =>
 ∃ t224, (∀ w225, C222 w225 → Ld w225 t223 fun t226 w227 =>
 t226 = t224 ∧ w227 = w225) ∧
 (ClV prog (.func (Fn.func 149) #[] #[r5]) [] (World.drew w216) fun t228 w229 =>
 C222 w229 ∧
 (ClV prog (.func (Fn.func 149) #[] #[r5]) [] w229 fun t230 w231 =>
 C222 w231 ∧
 (RunS prog (Instr.build 120 #[(0, t228), (1, t230)]) w231 fun t232 w233 =>
 w233 = w231 ∧
 RunS prog (Instr.buildSlice 25 1 #[(0, t232)]) w231 fun t234 w235 =>
 C222 w235 ∧
 (RunS prog (Builtin.append_ #[25, 25] 25 #[t224, t234]) w235 fun t236 w237 =>
 Pu (faV 14 x9) fun t238 =>
 St 1 w237 t238 t236 fun u239 w240 =>
 Pu (aa (.int .i64) .add t193 (.int .i64 1)) fun t241 =>
 I189 [t241] w240 ∧ m190 [t241] w240 < m190 [t193] w210)))))))
 (Ld w210 r5 fun t242 w243 =>
 Cl prog 150 [t242, (.int .i64 1024)] w243 fun t244 w245 =>
 ∃ (I246 : List Value → World → Prop) (m247 : List Value → World → Nat), I246 [(.int .i64 0)] w245 ∧
 ∀ (g268 : Fr) (w267 : World), ∀ t250 : Value, I246 [t250] w267 →
 (Pu (aa (.int .i64) .lss t250 t244) fun t269 =>
 IfB t269
 (Ld w267 r5 fun t270 w271 =>
 Cl prog 153 [t270] w271 fun t272 w273 =>
 Pu (aa (.int .i64) .neq t272 (.int .i64 0)) fun t274 =>
 IfB t274
 (LdN 16 w273 x9 fun t275 w276 =>
 St 16 w276 t1 t275 fun u277 w278 =>
 bU (bF prog (fun j => bif Nat.beq j 2 then t1 else bif Nat.beq j 3 then (.bool false) else undef) w278 [(ResultVar.cell 2 28), (ResultVar.tmp 3)]) w278 k)
 (∃ C279 : World → Prop, C279 (World.drew w273) ∧
 (Pu (faV 15 x9) fun t280 =>
 ∃ t281, (∀ w282, C279 w282 → Ld w282 t280 fun t283 w284 =>
 t283 = t281 ∧ w284 = w282) ∧
 (ClV prog (.func (Fn.func 149) #[] #[r5]) [] (World.drew w273) fun t285 w286 =>
 C279 w286 ∧
 (ClV prog (.func (Fn.func 149) #[] #[r5]) [] w286 fun t287 w288 =>
 C279 w288 ∧
 (RunS prog (Instr.build 122 #[(0, t285), (1, t287)]) w288 fun t289 w290 =>
 w290 = w288 ∧
 RunS prog (Instr.buildSlice 26 1 #[(0, t289)]) w288 fun t291 w292 =>
 C279 w292 ∧
 (RunS prog (Builtin.append_ #[26, 26] 26 #[t281, t291]) w292 fun t293 w294 =>
 Pu (faV 15 x9) fun t295 =>
 St 1 w294 t295 t293 fun u296 w297 =>
 Pu (aa (.int .i64) .add t250 (.int .i64 1)) fun t298 =>
 I246 [t298] w297 ∧ m247 [t298] w297 < m247 [t250] w267)))))))
 (∃ C299 : World → Prop, C299 (World.drew w267) ∧
 (∃ t300, (∀ w301, C299 w301 → LdN 16 w301 x9 fun t302 w303 =>
 t302 = t300 ∧ w303 = w301) ∧
 (Ld (World.drew w267) r5 fun t304 w305 =>
 w305 = (World.drew w267) ∧
 Cl prog 154 [t304] (World.drew w267) fun t306 w307 =>
 C299 w307 ∧
 (Pu (aa (.int .i64) .eql t306 (.int .i64 0)) fun t308 =>
 St 16 w307 t1 t300 fun u309 w310 =>
 bU (bF prog (fun j => bif Nat.beq j 2 then t1 else bif Nat.beq j 3 then t308 else undef) w310 [(ResultVar.cell 2 28), (ResultVar.tmp 3)]) w310 k))))))))))))
theorem c81 {k : KV} {s0 : Value} {w : World} (h : T81 k s0 w) : Cl prog 81 [s0] w k :=
 cE ac mixed (fun j => bif Nat.beq j 24 then [110] else bif Nat.beq j 18 then [91] else bif Nat.beq j 10 then [56] else []) J0 Tryz.func81 (by kernel_rfl) (by kernel_rfl) (by kernel_rfl) h
def T82 (k : KV) (r0 : Value) (w : World) : Prop :=
 New (Value.cells r0) 28 w fun r1 w2 =>
 Pu (faV 3 r1) fun t3 =>
 Ld w2 t3 fun t4 w5 =>
 Pu (aa (.int .u8) .lss t4 (.int .u8 1)) fun t6 =>
 Gd (isB false t6) (fun kk => Pu (faV 3 r1) fun vv => kk vv w5) w5 fun t7 w8 =>
 Gd (isB false t6) (fun kk => Ld w8 t7 kk) w8 fun t9 w10 =>
 Gd (isB false t6) (fun kk => Pu (aa (.int .u8) .gtr t9 (.int .u8 13)) fun vv => kk vv w10) w10 fun t11 w12 =>
 Pu (ak t6 (.bool true) t11) fun t13 =>
 IfB t13
 (k (.tuple #[(.string (.mk #[])), (.int .i64 41)]) w12)
 (Pu (faV 0 r1) fun t14 =>
 Ld w12 t14 fun t15 w16 =>
 Pu (aa (.int .i64) .lss t15 (.int .i64 1)) fun t17 =>
 Gd (isB false t17) (fun kk => LdN 16 w16 r1 kk) w16 fun t18 w19 =>
 Gd (isB false t17) (fun kk => Cl prog 156 [t18] w19 kk) w19 fun t20 w21 =>
 Gd (isB false t17) (fun kk => Cl prog 155 [t20, (.func (.func 157) #[] #[])] w21 kk) w21 fun t22 w23 =>
 Pu (ak t17 (.bool true) t22) fun t24 =>
 IfB t24
 (k (.tuple #[(.string (.mk #[])), (.int .i64 4)]) w23)
 (Pu (faV 10 r1) fun t25 =>
 Ld w23 t25 fun t26 w27 =>
 Pu (bu t26) fun t28 =>
 Pu (aa (.int .i64) .gtr t28 (.int .i64 512)) fun t29 =>
 Gd (isB false t29) (fun kk => Pu (faV 11 r1) fun vv => kk vv w27) w27 fun t30 w31 =>
 Gd (isB false t29) (fun kk => Ld w31 t30 kk) w31 fun t32 w33 =>
 Gd (isB false t29) (fun kk => Pu (lenV t32) fun vv => kk vv w33) w33 fun t34 w35 =>
 Gd (isB false t29) (fun kk => Pu (aa (.int .i64) .gtr t34 (.int .i64 255)) fun vv => kk vv w35) w35 fun t36 w37 =>
 Pu (ak t29 (.bool true) t36) fun t38 =>
 Gd (isB false t38) (fun kk => Pu (faV 12 r1) fun vv => kk vv w37) w37 fun t39 w40 =>
 Gd (isB false t38) (fun kk => Ld w40 t39 kk) w40 fun t41 w42 =>
 Gd (isB false t38) (fun kk => Pu (lenV t41) fun vv => kk vv w42) w42 fun t43 w44 =>
 Gd (isB false t38) (fun kk => Pu (aa (.int .i64) .gtr t43 (.int .i64 255)) fun vv => kk vv w44) w44 fun t45 w46 =>
 Pu (ak t38 (.bool true) t45) fun t47 =>
 Gd (isB false t47) (fun kk => Pu (faV 13 r1) fun vv => kk vv w46) w46 fun t48 w49 =>
 Gd (isB false t47) (fun kk => Ld w49 t48 kk) w49 fun t50 w51 =>
 Gd (isB false t47) (fun kk => Pu (lenV t50) fun vv => kk vv w51) w51 fun t52 w53 =>
 Gd (isB false t47) (fun kk => Pu (aa (.int .i64) .gtr t52 (.int .i64 4)) fun vv => kk vv w53) w53 fun t54 w55 =>
 Pu (ak t47 (.bool true) t54) fun t56 =>
 Gd (isB false t56) (fun kk => Pu (faV 14 r1) fun vv => kk vv w55) w55 fun t57 w58 =>
 Gd (isB false t56) (fun kk => Ld w58 t57 kk) w58 fun t59 w60 =>
 Gd (isB false t56) (fun kk => Pu (lenV t59) fun vv => kk vv w60) w60 fun t61 w62 =>
 Gd (isB false t56) (fun kk => Pu (aa (.int .i64) .gtr t61 (.int .i64 8192)) fun vv => kk vv w62) w62 fun t63 w64 =>
 Pu (ak t56 (.bool true) t63) fun t65 =>
 Gd (isB false t65) (fun kk => Pu (faV 15 r1) fun vv => kk vv w64) w64 fun t66 w67 =>
 Gd (isB false t65) (fun kk => Ld w67 t66 kk) w67 fun t68 w69 =>
 Gd (isB false t65) (fun kk => Pu (lenV t68) fun vv => kk vv w69) w69 fun t70 w71 =>
 Gd (isB false t65) (fun kk => Pu (aa (.int .i64) .gtr t70 (.int .i64 1024)) fun vv => kk vv w71) w71 fun t72 w73 =>
 Pu (ak t65 (.bool true) t72) fun t74 =>
 IfB t74
 (k (.tuple #[(.string (.mk #[])), (.int .i64 3)]) w73)
 (LdN 16 w73 r1 fun t75 w76 =>
 Cl prog 158 [t75] w76 fun t77 w78 =>
 Pu (aJ t77 0) fun t79 =>
 Pu (aJ t77 1) fun t80 =>
 k (.tuple #[t79, t80]) w78)))
theorem c82 {k : KV} {r0 : Value} {w : World} (h : T82 k r0 w) : Cl prog 82 [r0] w k :=
 cE ac mixed L0 J0 Tryz.func82 (by kernel_rfl) (by kernel_rfl) (by kernel_rfl) h
def T89 (k : KV) (r0 : Value) (w : World) : Prop :=
 New (Value.cells r0) 28 w fun r1 w2 =>
 LdN 16 w2 r1 fun t3 w4 =>
 Cl prog 82 [t3] w4 fun t5 w6 =>
 Pu (aJ t5 0) fun t7 =>
 Pu (aJ t5 1) fun t8 =>
 Pu (aa (.int .i64) .neq t8 (.int .i64 0)) fun t9 =>
 IfB t9
 (k (.tuple #[(.string (.mk #[])), t8]) w6)
 (Pu (bu t7) fun t10 =>
 Cl prog 115 [t10, (.int .i64 4)] w6 fun t11 w12 =>
 Cl prog 80 [t7] w12 fun t13 w14 =>
 Pu (cvI IntKind.i64 t13) fun t15 =>
 Cl prog 115 [t15, (.int .i64 4)] w14 fun t16 w17 =>
 Pu (aa TypeDesc.string .add t11 t16) fun t18 =>
 Pu (aa TypeDesc.string .add t18 t7) fun t19 =>
 k (.tuple #[t19, (.int .i64 0)]) w17)
theorem c89 {k : KV} {r0 : Value} {w : World} (h : T89 k r0 w) : Cl prog 89 [r0] w k :=
 cE ac mixed L0 J0 Tryz.func89 (by kernel_rfl) (by kernel_rfl) (by kernel_rfl) h
def T148 (k : KV) (data0 : Value) (w : World) : Prop :=
 RunS prog (Instr.build 221 #[(0, data0)]) w fun t1 w2 =>
 New (Value.cells t1) 221 w2 fun t3 w4 =>
 k t3 w4
theorem c148 {k : KV} {data0 : Value} {w : World} (h : T148 k data0 w) : Cl prog 148 [data0] w k :=
 cE ac mixed L0 J0 Tryz.func148 (by kernel_rfl) (by kernel_rfl) (by kernel_rfl) h
def T149 (k : KV) (t0 : Value) (w : World) : Prop :=
 Ld w t0 fun t1 w2 =>
 Cl prog 150 [t1, (.int .i64 4611686018427387904)] w2 fun t3 w4 =>
 k t3 w4
theorem c149 {k : KV} {t0 : Value} {w : World} (h : T149 k t0 w) : Cl prog 149 [t0] w k :=
 cE ac mixed L0 J0 Tryz.func149 (by kernel_rfl) (by kernel_rfl) (by kernel_rfl) h
def T150 (k : KV) (r0 most1 : Value) (w : World) : Prop :=
 Pu (aa (TypeDesc.pointer 221) .eql r0 (.pointer none)) fun t1 =>
 Gd (isB false t1) (fun kk => kk r0 w) w fun t2 w3 =>
 Gd (isB false t1) (fun kk => Pu (au t2) fun vv => kk vv w3) w3 fun t4 w5 =>
 Gd (isB false t1) (fun kk => Pu (faV 1 t4) fun vv => kk vv w5) w5 fun t6 w7 =>
 Gd (isB false t1) (fun kk => Ld w7 t6 kk) w7 fun t8 w9 =>
 Gd (isB false t1) (fun kk => Pu (aa (.int .i64) .neq t8 (.int .i64 0)) fun vv => kk vv w9) w9 fun t10 w11 =>
 Pu (ak t1 (.bool true) t10) fun t12 =>
 IfB t12
 (k (.int .i64 0) w11)
 (∃ (I13 : List Value → World → Prop) (m14 : List Value → World → Nat), I13 [(.int .i64 0), (.int .i64 0)] w11 ∧
 ∀ (g78 : Fr) (w77 : World), ∀ n17 : Value, ∀ t20 : Value, I13 [n17, t20] w77 →
 (Pu (aa (.int .i64) .lss t20 (.int .i64 9)) fun t79 =>
 IfB t79
 (Pu (au r0) fun t80 =>
 Pu (faV 0 t80) fun t81 =>
 Ld w77 t81 fun t82 w83 =>
 Pu (bu t82) fun t84 =>
 Pu (aa (.int .i64) .geq t20 t84) fun t85 =>
 IfB t85
 (Cl prog 196 [r0, (.int .i64 10)] w83 fun t86 w87 =>
 k t86 w87)
 (Pu (au r0) fun t88 =>
 Pu (faV 0 t88) fun t89 =>
 Ld w83 t89 fun t90 w91 =>
 Pu (ixS t90 t20) fun t92 =>
 Pu (aa (.int .u8) .and t92 (.int .u8 127)) fun t93 =>
 Pu (cvI IntKind.i64 t93) fun t94 =>
 Pu (aa (.int .i64) .mul (.int .i64 7) t20) fun t95 =>
 Pu (aa (.int .i64) .shl t94 t95) fun t96 =>
 Pu (aa (.int .i64) .or n17 t96) fun t97 =>
 Pu (aa (.int .u8) .eql t92 (.int .u8 0)) fun t98 =>
 Gd (isB true t98) (fun kk => kk t20 w91) w91 fun t99 w100 =>
 Gd (isB true t98) (fun kk => Pu (aa (.int .i64) .gtr t99 (.int .i64 0)) fun vv => kk vv w100) w100 fun t101 w102 =>
 Pu (ak t98 t101 (.bool false)) fun t103 =>
 IfB t103
 (Cl prog 196 [r0, (.int .i64 11)] w102 fun t104 w105 =>
 k t104 w105)
 (Pu (aa (.int .u8) .geq t92 (.int .u8 128)) fun t106 =>
 IfB t106
 (Pu (aa (.int .i64) .add t20 (.int .i64 1)) fun t107 =>
 I13 [t97, t107] w102 ∧ m14 [t97, t107] w102 < m14 [n17, t20] w77)
 (Pu (aU eV [most1, (.int .i64 0)]) fun t108 =>
 Pu (aa (.int .i64) .gtr t97 t108) fun t109 =>
 IfB t109
 (Cl prog 196 [r0, (.int .i64 11)] w102 fun t110 w111 =>
 k t110 w111)
 (Pu (au r0) fun t112 =>
 Pu (faV 0 t112) fun t113 =>
 Ld w102 t113 fun t114 w115 =>
 Pu (aa (.int .i64) .add t20 (.int .i64 1)) fun t116 =>
 Pu (slS t114 (some t116) none) fun t117 =>
 Pu (au r0) fun t118 =>
 Pu (faV 0 t118) fun t119 =>
 St 1 w115 t119 t117 fun u120 w121 =>
 k t97 w121)))))
 (Cl prog 196 [r0, (.int .i64 11)] w77 fun t122 w123 =>
 k t122 w123)))
theorem c150 {k : KV} {r0 most1 : Value} {w : World} (h : T150 k r0 most1 w) : Cl prog 150 [r0, most1] w k :=
 cE ac mixed (fun j => bif Nat.beq j 5 then [5, 17] else []) J0 Tryz.func150 (by kernel_rfl) (by kernel_rfl) (by kernel_rfl) h
def T151 (k : KV) (r0 most1 : Value) (w : World) : Prop :=
 Cl prog 150 [r0, most1] w fun t1 w2 =>
 Pu (aa (TypeDesc.pointer 221) .eql r0 (.pointer none)) fun t3 =>
 Gd (isB false t3) (fun kk => kk r0 w2) w2 fun t4 w5 =>
 Gd (isB false t3) (fun kk => Pu (au t4) fun vv => kk vv w5) w5 fun t6 w7 =>
 Gd (isB false t3) (fun kk => Pu (faV 1 t6) fun vv => kk vv w7) w7 fun t8 w9 =>
 Gd (isB false t3) (fun kk => Ld w9 t8 kk) w9 fun t10 w11 =>
 Gd (isB false t3) (fun kk => Pu (aa (.int .i64) .neq t10 (.int .i64 0)) fun vv => kk vv w11) w11 fun t12 w13 =>
 Pu (ak t3 (.bool true) t12) fun t14 =>
 IfB t14
 (k (.string (.mk #[])) w13)
 (Pu (au r0) fun t15 =>
 Pu (faV 0 t15) fun t16 =>
 Ld w13 t16 fun t17 w18 =>
 Pu (bu t17) fun t19 =>
 Pu (aa (.int .i64) .gtr t1 t19) fun t20 =>
 IfB t20
 (Cl prog 196 [r0, (.int .i64 10)] w18 fun t21 w22 =>
 k (.string (.mk #[])) w22)
 (Pu (au r0) fun t23 =>
 Pu (faV 0 t23) fun t24 =>
 Ld w18 t24 fun t25 w26 =>
 Pu (slS t25 none (some t1)) fun t27 =>
 Pu (au r0) fun t28 =>
 Pu (faV 0 t28) fun t29 =>
 Ld w26 t29 fun t30 w31 =>
 Pu (slS t30 (some t1) none) fun t32 =>
 Pu (au r0) fun t33 =>
 Pu (faV 0 t33) fun t34 =>
 St 1 w31 t34 t32 fun u35 w36 =>
 k t27 w36))
theorem c151 {k : KV} {r0 most1 : Value} {w : World} (h : T151 k r0 most1 w) : Cl prog 151 [r0, most1] w k :=
 cE ac mixed L0 J0 Tryz.func151 (by kernel_rfl) (by kernel_rfl) (by kernel_rfl) h
def T152 (k : KV) (r0 most1 : Value) (w : World) : Prop :=
 Jn (fun vs18 w17 => ∀ g19 : Fr, ∃ out2 : Value, vs18 = [out2] ∧
 (k out2 w17))
 (fun jj1 =>
 Cl prog 150 [r0, most1] w fun t20 w21 =>
 ∃ (I22 : List Value → World → Prop) (m23 : List Value → World → Nat), I22 [(.slice none 0 0), (.int .i64 0)] w21 ∧
 ∀ (g38 : Fr) (w37 : World), ∀ out25 : Value, ∀ t26 : Value, I22 [out25, t26] w37 →
 (Pu (aa (.int .i64) .lss t26 t20) fun t39 =>
 IfB t39
 (Cl prog 150 [r0, (.int .i64 4611686018427387904)] w37 fun t40 w41 =>
 RunS prog (Instr.buildSlice 23 1 #[(0, t40)]) w41 fun t42 w43 =>
 RunS prog (Builtin.append_ #[23, 23] 23 #[out25, t42]) w43 fun t44 w45 =>
 Cl prog 153 [r0] w45 fun t46 w47 =>
 Pu (aa (.int .i64) .neq t46 (.int .i64 0)) fun t48 =>
 IfB t48
 (jj1 [t44] w47)
 (Pu (aa (.int .i64) .add t26 (.int .i64 1)) fun t49 =>
 I22 [t44, t49] w47 ∧ m23 [t44, t49] w47 < m23 [out25, t26] w37))
 (jj1 [out25] w37)))
theorem c152 {k : KV} {r0 most1 : Value} {w : World} (h : T152 k r0 most1 w) : Cl prog 152 [r0, most1] w k :=
 cE ac mixed (fun j => bif Nat.beq j 3 then [5, 9] else []) (fun j => bif Nat.beq j 7 then some [5] else none) Tryz.func152 (by kernel_rfl) (by kernel_rfl) (by kernel_rfl) h
def T153 (k : KV) (r0 : Value) (w : World) : Prop :=
 Pu (aa (TypeDesc.pointer 221) .eql r0 (.pointer none)) fun t1 =>
 IfB t1
 (k (.int .i64 2) w)
 (Pu (au r0) fun t2 =>
 Pu (faV 1 t2) fun t3 =>
 Ld w t3 fun t4 w5 =>
 k t4 w5)
theorem c153 {k : KV} {r0 : Value} {w : World} (h : T153 k r0 w) : Cl prog 153 [r0] w k :=
 cE ac mixed L0 J0 Tryz.func153 (by kernel_rfl) (by kernel_rfl) (by kernel_rfl) h
def T154 (k : KV) (r0 : Value) (w : World) : Prop :=
 Cl prog 153 [r0] w fun t1 w2 =>
 Pu (aa (.int .i64) .eql t1 (.int .i64 0)) fun t3 =>
 Gd (isB true t3) (fun kk => kk r0 w2) w2 fun t4 w5 =>
 Gd (isB true t3) (fun kk => Cl prog 197 [t4] w5 kk) w5 fun t6 w7 =>
 Gd (isB true t3) (fun kk => Pu (aa (.int .i64) .gtr t6 (.int .i64 0)) fun vv => kk vv w7) w7 fun t8 w9 =>
 Pu (ak t3 t8 (.bool false)) fun t10 =>
 IfB t10
 (k (.int .i64 12) w9)
 (Cl prog 153 [r0] w9 fun t11 w12 =>
 k t11 w12)
theorem c154 {k : KV} {r0 : Value} {w : World} (h : T154 k r0 w) : Cl prog 154 [r0] w k :=
 cE ac mixed L0 J0 Tryz.func154 (by kernel_rfl) (by kernel_rfl) (by kernel_rfl) h
def T155 (k : KV) (s0 f1 : Value) (w : World) : Prop :=
 Cl prog 198 [s0, f1] w fun t1 w2 =>
 Pu (aa (.int .i64) .geq t1 (.int .i64 0)) fun t3 =>
 k t3 w2
theorem c155 {k : KV} {s0 f1 : Value} {w : World} (h : T155 k s0 f1 w) : Cl prog 155 [s0, f1] w k :=
 cE ac mixed L0 J0 Tryz.func155 (by kernel_rfl) (by kernel_rfl) (by kernel_rfl) h
def T156 (k : KV) (r0 : Value) (w : World) : Prop :=
 New (Value.cells r0) 28 w fun r1 w2 =>
 Pu (faV 0 r1) fun t3 =>
 Ld w2 t3 fun t4 w5 =>
 Pu (faV 1 r1) fun t6 =>
 Ld w5 t6 fun t7 w8 =>
 Pu (faV 2 r1) fun t9 =>
 Ld w8 t9 fun t10 w11 =>
 Pu (faV 9 r1) fun t12 =>
 Ld w11 t12 fun t13 w14 =>
 Pu (faV 4 r1) fun t15 =>
 Ld w14 t15 fun t16 w17 =>
 Pu (faV 5 r1) fun t18 =>
 Ld w17 t18 fun t19 w20 =>
 Pu (faV 6 r1) fun t21 =>
 Ld w20 t21 fun t22 w23 =>
 Pu (faV 7 r1) fun t24 =>
 Ld w23 t24 fun t25 w26 =>
 Pu (faV 8 r1) fun t27 =>
 Ld w26 t27 fun t28 w29 =>
 RunS prog (Instr.buildSlice 23 9 #[(0, t4), (1, t7), (2, t10), (3, t13), (4, t16), (5, t19), (6, t22), (7, t25), (8, t28)]) w29 fun t30 w31 =>
 ∃ C32 : World → Prop, C32 (World.drew w31) ∧
 (Pu (faV 11 r1) fun t33 =>
 Ld (World.drew w31) t33 fun t34 w35 =>
 w35 = (World.drew w31) ∧
 Pu (faV 12 r1) fun t36 =>
 ∃ t37, (∀ w38, C32 w38 → Ld w38 t36 fun t39 w40 =>
 t39 = t37 ∧ w40 = w38) ∧
 (RunS prog (Builtin.append_ #[23, 23] 23 #[t30, t34]) (World.drew w31) fun t41 w42 =>
 C32 w42 ∧
 (RunS prog (Builtin.append_ #[23, 23] 23 #[t41, t37]) w42 fun t43 w44 =>
 Pu (faV 13 r1) fun t45 =>
 Ld w44 t45 fun t46 w47 =>
 Pu (lenV t46) fun t48 =>
 ∃ (I49 : List Value → World → Prop) (m50 : List Value → World → Nat), I49 [t43, (.int .i64 0)] w47 ∧
 ∀ (g65 : Fr) (w64 : World), ∀ l52 : Value, ∀ t54 : Value, I49 [l52, t54] w64 →
 (Pu (aa (.int .i64) .lss t54 t48) fun t66 =>
 IfB t66
 (Pu (ixV 7 t46 t54) fun t67 =>
 LdN 7 w64 t67 fun t68 w69 =>
 New #[(.int .i64 0), (.int .i64 0), (.int .i64 0), (.int .i64 0), (.int .i64 0), (.string (.mk #[])), (.slice none 0 0)] 118 w69 fun m70 w71 =>
 St 7 w71 m70 t68 fun u72 w73 =>
 Pu (faV 0 m70) fun t74 =>
 Ld w73 t74 fun t75 w76 =>
 RunS prog (Instr.buildSlice 23 1 #[(0, t75)]) w76 fun t77 w78 =>
 RunS prog (Builtin.append_ #[23, 23] 23 #[l52, t77]) w78 fun t79 w80 =>
 Pu (aa (.int .i64) .add t54 (.int .i64 1)) fun t81 =>
 I49 [t79, t81] w80 ∧ m50 [t79, t81] w80 < m50 [l52, t54] w64)
 (Pu (faV 14 r1) fun t82 =>
 Ld w64 t82 fun t83 w84 =>
 Pu (lenV t83) fun t85 =>
 ∃ (I86 : List Value → World → Prop) (m87 : List Value → World → Nat), I86 [l52, (.int .i64 0)] w84 ∧
 ∀ (g104 : Fr) (w103 : World), ∀ l89 : Value, ∀ t91 : Value, I86 [l89, t91] w103 →
 (Pu (aa (.int .i64) .lss t91 t85) fun t105 =>
 IfB t105
 (Pu (ixV 2 t83 t91) fun t106 =>
 LdN 2 w103 t106 fun t107 w108 =>
 New #[(.int .i64 0), (.int .i64 0)] 120 w108 fun p109 w110 =>
 St 2 w110 p109 t107 fun u111 w112 =>
 Pu (faV 0 p109) fun t113 =>
 Ld w112 t113 fun t114 w115 =>
 Pu (faV 1 p109) fun t116 =>
 Ld w115 t116 fun t117 w118 =>
 RunS prog (Instr.buildSlice 23 2 #[(0, t114), (1, t117)]) w118 fun t119 w120 =>
 RunS prog (Builtin.append_ #[23, 23] 23 #[l89, t119]) w120 fun t121 w122 =>
 Pu (aa (.int .i64) .add t91 (.int .i64 1)) fun t123 =>
 I86 [t121, t123] w122 ∧ m87 [t121, t123] w122 < m87 [l89, t91] w103)
 (Pu (faV 15 r1) fun t124 =>
 Ld w103 t124 fun t125 w126 =>
 Pu (lenV t125) fun t127 =>
 ∃ (I128 : List Value → World → Prop) (m129 : List Value → World → Nat), I128 [l89, (.int .i64 0)] w126 ∧
 ∀ (g146 : Fr) (w145 : World), ∀ l131 : Value, ∀ t133 : Value, I128 [l131, t133] w145 →
 (Pu (aa (.int .i64) .lss t133 t127) fun t147 =>
 IfB t147
 (Pu (ixV 2 t125 t133) fun t148 =>
 LdN 2 w145 t148 fun t149 w150 =>
 New #[(.int .i64 0), (.int .i64 0)] 122 w150 fun t151 w152 =>
 St 2 w152 t151 t149 fun u153 w154 =>
 Pu (faV 0 t151) fun t155 =>
 Ld w154 t155 fun t156 w157 =>
 Pu (faV 1 t151) fun t158 =>
 Ld w157 t158 fun t159 w160 =>
 RunS prog (Instr.buildSlice 23 2 #[(0, t156), (1, t159)]) w160 fun t161 w162 =>
 RunS prog (Builtin.append_ #[23, 23] 23 #[l131, t161]) w162 fun t163 w164 =>
 Pu (aa (.int .i64) .add t133 (.int .i64 1)) fun t165 =>
 I128 [t163, t165] w164 ∧ m129 [t163, t165] w164 < m129 [l131, t133] w145)
 (k l131 w145)))))))))
theorem c156 {k : KV} {r0 : Value} {w : World} (h : T156 k r0 w) : Cl prog 156 [r0] w k :=
 cE ac mixed (fun j => bif Nat.beq j 14 then [3, 67] else bif Nat.beq j 9 then [3, 52] else bif Nat.beq j 4 then [3, 39] else []) J0 Tryz.func156 (by kernel_rfl) (by kernel_rfl) (by kernel_rfl) h
def T157 (k : KV) (n0 : Value) (w : World) : Prop :=
 Pu (aa (.int .i64) .lss n0 (.int .i64 0)) fun t1 =>
 Gd (isB false t1) (fun kk => kk n0 w) w fun t2 w3 =>
 Gd (isB false t1) (fun kk => Pu (aa (.int .i64) .gtr t2 (.int .i64 4611686018427387904)) fun vv => kk vv w3) w3 fun t4 w5 =>
 Pu (ak t1 (.bool true) t4) fun t6 =>
 k t6 w5
theorem c157 {k : KV} {n0 : Value} {w : World} (h : T157 k n0 w) : Cl prog 157 [n0] w k :=
 cE ac mixed L0 J0 Tryz.func157 (by kernel_rfl) (by kernel_rfl) (by kernel_rfl) h
def T158 (k : KV) (r0 : Value) (w : World) : Prop :=
 New (Value.cells r0) 28 w fun r1 w2 =>
 Cl prog 199 [] w2 fun t3 w4 =>
 Pu (faV 0 r1) fun t5 =>
 Ld w4 t5 fun t6 w7 =>
 Pu (faV 1 r1) fun t8 =>
 Ld w7 t8 fun t9 w10 =>
 Pu (faV 2 r1) fun t11 =>
 Ld w10 t11 fun t12 w13 =>
 Pu (faV 3 r1) fun t14 =>
 Ld w13 t14 fun t15 w16 =>
 Pu (cvI IntKind.i64 t15) fun t17 =>
 Pu (faV 4 r1) fun t18 =>
 Ld w16 t18 fun t19 w20 =>
 Pu (faV 5 r1) fun t21 =>
 Ld w20 t21 fun t22 w23 =>
 Pu (faV 6 r1) fun t24 =>
 Ld w23 t24 fun t25 w26 =>
 Pu (faV 7 r1) fun t27 =>
 Ld w26 t27 fun t28 w29 =>
 Pu (faV 8 r1) fun t30 =>
 Ld w29 t30 fun t31 w32 =>
 Pu (faV 9 r1) fun t33 =>
 Ld w32 t33 fun t34 w35 =>
 RunS prog (Instr.buildSlice 23 10 #[(0, t6), (1, t9), (2, t12), (3, t17), (4, t19), (5, t22), (6, t25), (7, t28), (8, t31), (9, t34)]) w35 fun t36 w37 =>
 Cl prog 200 [t3, t36] w37 fun t38 w39 =>
 Pu (faV 10 r1) fun t40 =>
 Ld w39 t40 fun t41 w42 =>
 Cl prog 201 [t3, t41] w42 fun t43 w44 =>
 Pu (faV 11 r1) fun t45 =>
 Ld w44 t45 fun t46 w47 =>
 Pu (faV 12 r1) fun t48 =>
 Ld w47 t48 fun t49 w50 =>
 RunS prog (Instr.build 227 #[(0, t46), (1, t49)]) w50 fun t51 w52 =>
 ∃ (I53 : List Value → World → Prop) (m54 : List Value → World → Nat), I53 [(.int .i64 0)] w52 ∧
 ∀ (g70 : Fr) (w69 : World), ∀ t57 : Value, I53 [t57] w69 →
 (Pu (aa (.int .i64) .lss t57 (.int .i64 2)) fun t71 =>
 IfB t71
 (Pu (ixG false 2 1 t51 t57) fun t72 =>
 Pu (lenV t72) fun t73 =>
 RunS prog (Instr.buildSlice 23 1 #[(0, t73)]) w69 fun t74 w75 =>
 Cl prog 200 [t3, t74] w75 fun t76 w77 =>
 Cl prog 200 [t3, t72] w77 fun t78 w79 =>
 Pu (aa (.int .i64) .add t57 (.int .i64 1)) fun t80 =>
 I53 [t80] w79 ∧ m54 [t80] w79 < m54 [t57] w69)
 (Pu (faV 13 r1) fun t81 =>
 Ld w69 t81 fun t82 w83 =>
 Pu (lenV t82) fun t84 =>
 RunS prog (Instr.buildSlice 23 1 #[(0, t84)]) w83 fun t85 w86 =>
 Cl prog 200 [t3, t85] w86 fun t87 w88 =>
 Pu (faV 13 r1) fun t89 =>
 Ld w88 t89 fun t90 w91 =>
 Pu (lenV t90) fun t92 =>
 ∃ (I93 : List Value → World → Prop) (m94 : List Value → World → Nat), I93 [(.int .i64 0)] w91 ∧
 ∀ (g125 : Fr) (w124 : World), ∀ t101 : Value, I93 [t101] w124 →
 (Pu (aa (.int .i64) .lss t101 t92) fun t126 =>
 IfB t126
 (Pu (ixV 7 t90 t101) fun t127 =>
 LdN 7 w124 t127 fun t128 w129 =>
 New #[(.int .i64 0), (.int .i64 0), (.int .i64 0), (.int .i64 0), (.int .i64 0), (.string (.mk #[])), (.slice none 0 0)] 118 w129 fun m130 w131 =>
 St 7 w131 m130 t128 fun u132 w133 =>
 Pu (faV 1 m130) fun t134 =>
 LdN 6 w133 t134 fun t135 w136 =>
 Cl prog 103 [t135] w136 fun t137 w138 =>
 Pu (aJ t137 0) fun t139 =>
 Pu (aJ t137 1) fun t140 =>
 Pu (aa (.int .i64) .neq t140 (.int .i64 0)) fun t141 =>
 IfB t141
 (k (.tuple #[(.string (.mk #[])), t140]) w138)
 (Pu (faV 0 m130) fun t142 =>
 Ld w138 t142 fun t143 w144 =>
 RunS prog (Instr.buildSlice 23 1 #[(0, t143)]) w144 fun t145 w146 =>
 Cl prog 200 [t3, t145] w146 fun t147 w148 =>
 Cl prog 202 [t139, (.string (.mk #[0]))] w148 fun t149 w150 =>
 Cl prog 201 [t3, t149] w150 fun t151 w152 =>
 Pu (aa (.int .i64) .add t101 (.int .i64 1)) fun t153 =>
 I93 [t153] w152 ∧ m94 [t153] w152 < m94 [t101] w124))
 (Pu (faV 14 r1) fun t154 =>
 Ld w124 t154 fun t155 w156 =>
 Pu (lenV t155) fun t157 =>
 RunS prog (Instr.buildSlice 23 1 #[(0, t157)]) w156 fun t158 w159 =>
 Cl prog 200 [t3, t158] w159 fun t160 w161 =>
 Pu (faV 14 r1) fun t162 =>
 Ld w161 t162 fun t163 w164 =>
 Pu (lenV t163) fun t165 =>
 ∃ (I166 : List Value → World → Prop) (m167 : List Value → World → Nat), I166 [(.int .i64 0)] w164 ∧
 ∀ (g183 : Fr) (w182 : World), ∀ t170 : Value, I166 [t170] w182 →
 (Pu (aa (.int .i64) .lss t170 t165) fun t184 =>
 IfB t184
 (Pu (ixV 2 t163 t170) fun t185 =>
 LdN 2 w182 t185 fun t186 w187 =>
 New #[(.int .i64 0), (.int .i64 0)] 120 w187 fun p188 w189 =>
 St 2 w189 p188 t186 fun u190 w191 =>
 Pu (faV 0 p188) fun t192 =>
 Ld w191 t192 fun t193 w194 =>
 Pu (faV 1 p188) fun t195 =>
 Ld w194 t195 fun t196 w197 =>
 RunS prog (Instr.buildSlice 23 2 #[(0, t193), (1, t196)]) w197 fun t198 w199 =>
 Cl prog 200 [t3, t198] w199 fun t200 w201 =>
 Pu (aa (.int .i64) .add t170 (.int .i64 1)) fun t202 =>
 I166 [t202] w201 ∧ m167 [t202] w201 < m167 [t170] w182)
 (Pu (faV 15 r1) fun t203 =>
 Ld w182 t203 fun t204 w205 =>
 Pu (lenV t204) fun t206 =>
 RunS prog (Instr.buildSlice 23 1 #[(0, t206)]) w205 fun t207 w208 =>
 Cl prog 200 [t3, t207] w208 fun t209 w210 =>
 Pu (faV 15 r1) fun t211 =>
 Ld w210 t211 fun t212 w213 =>
 Pu (lenV t212) fun t214 =>
 ∃ (I215 : List Value → World → Prop) (m216 : List Value → World → Nat), I215 [(.int .i64 0)] w213 ∧
 ∀ (g232 : Fr) (w231 : World), ∀ t219 : Value, I215 [t219] w231 →
 (Pu (aa (.int .i64) .lss t219 t214) fun t233 =>
 IfB t233
 (Pu (ixV 2 t212 t219) fun t234 =>
 LdN 2 w231 t234 fun t235 w236 =>
 New #[(.int .i64 0), (.int .i64 0)] 122 w236 fun t237 w238 =>
 St 2 w238 t237 t235 fun u239 w240 =>
 Pu (faV 0 t237) fun t241 =>
 Ld w240 t241 fun t242 w243 =>
 Pu (faV 1 t237) fun t244 =>
 Ld w243 t244 fun t245 w246 =>
 RunS prog (Instr.buildSlice 23 2 #[(0, t242), (1, t245)]) w246 fun t247 w248 =>
 Cl prog 200 [t3, t247] w248 fun t249 w250 =>
 Pu (aa (.int .i64) .add t219 (.int .i64 1)) fun t251 =>
 I215 [t251] w250 ∧ m216 [t251] w250 < m216 [t219] w231)
 (Cl prog 203 [t3] w231 fun t252 w253 =>
 Pu (bu t252) fun t254 =>
 Pu (aa (.int .i64) .gtr t254 (.int .i64 65535)) fun t255 =>
 IfB t255
 (k (.tuple #[(.string (.mk #[])), (.int .i64 3)]) w253)
 (k (.tuple #[t252, (.int .i64 0)]) w253)))))))))
theorem c158 {k : KV} {r0 : Value} {w : World} (h : T158 k r0 w) : Cl prog 158 [r0] w k :=
 cE ac mixed (fun j => bif Nat.beq j 28 then [124] else bif Nat.beq j 22 then [103] else bif Nat.beq j 12 then [71] else bif Nat.beq j 5 then [50] else []) J0 Tryz.func158 (by kernel_rfl) (by kernel_rfl) (by kernel_rfl) h
def T182 (k : KV) (s0 c1 : Value) (w : World) : Prop :=
 ∃ (I1 : List Value → World → Prop) (m2 : List Value → World → Nat), I1 [s0] w ∧
 ∀ (g23 : Fr) (w22 : World), ∀ s4 : Value, I1 [s4] w22 →
 (Pu (bu s4) fun t24 =>
 Pu (aa (.int .i64) .gtr t24 (.int .i64 0)) fun t25 =>
 Gd (isB true t25) (fun kk => kk s4 w22) w22 fun t26 w27 =>
 Gd (isB true t25) (fun kk => kk s4 w27) w27 fun t28 w29 =>
 Gd (isB true t25) (fun kk => Pu (bu t28) fun vv => kk vv w29) w29 fun t30 w31 =>
 Gd (isB true t25) (fun kk => Pu (aa (.int .i64) .sub t30 (.int .i64 1)) fun vv => kk vv w31) w31 fun t32 w33 =>
 Gd (isB true t25) (fun kk => Pu (ixS t26 t32) fun vv => kk vv w33) w33 fun t34 w35 =>
 Gd (isB true t25) (fun kk => kk c1 w35) w35 fun t36 w37 =>
 Gd (isB true t25) (fun kk => Pu (aa (.int .u8) .eql t34 t36) fun vv => kk vv w37) w37 fun t38 w39 =>
 Pu (ak t25 t38 (.bool false)) fun t40 =>
 IfB t40
 (Pu (bu s4) fun t41 =>
 Pu (aa (.int .i64) .sub t41 (.int .i64 1)) fun t42 =>
 Pu (slS s4 none (some t42)) fun t43 =>
 I1 [t43] w39 ∧ m2 [t43] w39 < m2 [s4] w22)
 (k s4 w39))
theorem c182 {k : KV} {s0 c1 : Value} {w : World} (h : T182 k s0 c1 w) : Cl prog 182 [s0, c1] w k :=
 cE ac mixed (fun j => bif Nat.beq j 1 then [0] else []) J0 Tryz.func182 (by kernel_rfl) (by kernel_rfl) (by kernel_rfl) h
def T196 (k : KV) (r0 e1 : Value) (w : World) : Prop :=
 Pu (au r0) fun t1 =>
 Pu (faV 0 t1) fun t2 =>
 St 1 w t2 (.string (.mk #[])) fun u3 w4 =>
 Pu (au r0) fun t5 =>
 Pu (faV 1 t5) fun t6 =>
 St 1 w4 t6 e1 fun u7 w8 =>
 k (.int .i64 0) w8
theorem c196 {k : KV} {r0 e1 : Value} {w : World} (h : T196 k r0 e1 w) : Cl prog 196 [r0, e1] w k :=
 cE ac mixed L0 J0 Tryz.func196 (by kernel_rfl) (by kernel_rfl) (by kernel_rfl) h
def T197 (k : KV) (r0 : Value) (w : World) : Prop :=
 Pu (aa (TypeDesc.pointer 221) .eql r0 (.pointer none)) fun t1 =>
 IfB t1
 (k (.int .i64 0) w)
 (Pu (au r0) fun t2 =>
 Pu (faV 0 t2) fun t3 =>
 Ld w t3 fun t4 w5 =>
 Pu (bu t4) fun t6 =>
 k t6 w5)
theorem c197 {k : KV} {r0 : Value} {w : World} (h : T197 k r0 w) : Cl prog 197 [r0] w k :=
 cE ac mixed L0 J0 Tryz.func197 (by kernel_rfl) (by kernel_rfl) (by kernel_rfl) h
def T198 (k : KV) (s0 f1 : Value) (w : World) : Prop :=
 Pu (lenV s0) fun t1 =>
 ∃ (I2 : List Value → World → Prop) (m3 : List Value → World → Nat), I2 [(.int .i64 0)] w ∧
 ∀ (g19 : Fr) (w18 : World), ∀ t7 : Value, I2 [t7] w18 →
 (Pu (aa (.int .i64) .lss t7 t1) fun t20 =>
 IfB t20
 (Pu (ixV 1 s0 t7) fun t21 =>
 Ld w18 t21 fun t22 w23 =>
 ClV prog f1 [t22] w23 fun t24 w25 =>
 IfB t24
 (k t7 w25)
 (Pu (aa (.int .i64) .add t7 (.int .i64 1)) fun t26 =>
 I2 [t26] w25 ∧ m3 [t26] w25 < m3 [t7] w18))
 (k (.int .i64 (-1)) w18))
theorem c198 {k : KV} {s0 f1 : Value} {w : World} (h : T198 k s0 f1 w) : Cl prog 198 [s0, f1] w k :=
 cE ac mixed (fun j => bif Nat.beq j 2 then [8] else []) J0 Tryz.func198 (by kernel_rfl) (by kernel_rfl) (by kernel_rfl) h
def T199 (k : KV) (w : World) : Prop :=
 RunS prog (Instr.build 243 #[]) w fun t1 w2 =>
 New (Value.cells t1) 243 w2 fun t3 w4 =>
 k t3 w4
theorem c199 {k : KV} {w : World} (h : T199 k  w) : Cl prog 199 [] w k :=
 cE ac mixed L0 J0 Tryz.func199 (by kernel_rfl) (by kernel_rfl) (by kernel_rfl) h
def T200 (k : KV) (wv0 ns1 : Value) (w : World) : Prop :=
 Pu (aa (TypeDesc.pointer 243) .eql wv0 (.pointer none)) fun t1 =>
 IfB t1
 (k (.tuple #[]) w)
 (Pu (lenV ns1) fun t2 =>
 ∃ (I3 : List Value → World → Prop) (m4 : List Value → World → Nat), I3 [(.int .i64 0)] w ∧
 ∀ (g42 : Fr) (w41 : World), ∀ t7 : Value, I3 [t7] w41 →
 (Pu (aa (.int .i64) .lss t7 t2) fun t43 =>
 IfB t43
 (Pu (ixV 1 ns1 t7) fun t44 =>
 Ld w41 t44 fun t45 w46 =>
 Pu (aU eV [t45, (.int .i64 0)]) fun t47 =>
 ∃ (I48 : List Value → World → Prop) (m49 : List Value → World → Nat), I48 [t47] w46 ∧
 ∀ (g69 : Fr) (w68 : World), ∀ n51 : Value, I48 [n51] w68 →
 (Pu (aa (.int .i64) .gtr n51 (.int .i64 127)) fun t70 =>
 IfB t70
 (Pu (au wv0) fun t71 =>
 Pu (faV 0 t71) fun t72 =>
 Ld w68 t72 fun t73 w74 =>
 Pu (cvI IntKind.u8 n51) fun t75 =>
 Pu (aa (.int .u8) .or t75 (.int .u8 128)) fun t76 =>
 RunS prog (Instr.buildSlice 123 1 #[(0, t76)]) w74 fun t77 w78 =>
 RunS prog (Builtin.append_ #[123, 123] 123 #[t73, t77]) w78 fun t79 w80 =>
 Pu (au wv0) fun t81 =>
 Pu (faV 0 t81) fun t82 =>
 St 1 w80 t82 t79 fun u83 w84 =>
 Pu (aa (.int .i64) .shr n51 (Value.int .u64 7)) fun t85 =>
 I48 [t85] w84 ∧ m49 [t85] w84 < m49 [n51] w68)
 (Pu (au wv0) fun t86 =>
 Pu (faV 0 t86) fun t87 =>
 Ld w68 t87 fun t88 w89 =>
 Pu (cvI IntKind.u8 n51) fun t90 =>
 RunS prog (Instr.buildSlice 123 1 #[(0, t90)]) w89 fun t91 w92 =>
 RunS prog (Builtin.append_ #[123, 123] 123 #[t88, t91]) w92 fun t93 w94 =>
 Pu (au wv0) fun t95 =>
 Pu (faV 0 t95) fun t96 =>
 St 1 w94 t96 t93 fun u97 w98 =>
 Pu (aa (.int .i64) .add t7 (.int .i64 1)) fun t99 =>
 I3 [t99] w98 ∧ m4 [t99] w98 < m4 [t7] w41)))
 (k (.tuple #[]) w41)))
theorem c200 {k : KV} {wv0 ns1 : Value} {w : World} (h : T200 k wv0 ns1 w) : Cl prog 200 [wv0, ns1] w k :=
 cE ac mixed (fun j => bif Nat.beq j 5 then [5] else bif Nat.beq j 2 then [10] else []) J0 Tryz.func200 (by kernel_rfl) (by kernel_rfl) (by kernel_rfl) h
def T201 (k : KV) (wv0 s1 : Value) (w : World) : Prop :=
 Pu (aa (TypeDesc.pointer 243) .eql wv0 (.pointer none)) fun t1 =>
 IfB t1
 (k (.tuple #[]) w)
 (Pu (bu s1) fun t2 =>
 RunS prog (Instr.buildSlice 23 1 #[(0, t2)]) w fun t3 w4 =>
 Cl prog 200 [wv0, t3] w4 fun t5 w6 =>
 Pu (au wv0) fun t7 =>
 Pu (faV 0 t7) fun t8 =>
 Ld w6 t8 fun t9 w10 =>
 RunS prog (Builtin.append_ #[123, 9] 123 #[t9, s1]) w10 fun t11 w12 =>
 Pu (au wv0) fun t13 =>
 Pu (faV 0 t13) fun t14 =>
 St 1 w12 t14 t11 fun u15 w16 =>
 k (.tuple #[]) w16)
theorem c201 {k : KV} {wv0 s1 : Value} {w : World} (h : T201 k wv0 s1 w) : Cl prog 201 [wv0, s1] w k :=
 cE ac mixed L0 J0 Tryz.func201 (by kernel_rfl) (by kernel_rfl) (by kernel_rfl) h
def T202 (k : KV) (s0 cutset1 : Value) (w : World) : Prop :=
 Pu (aa TypeDesc.string .eql s0 (.string (.mk #[]))) fun t1 =>
 Gd (isB false t1) (fun kk => kk cutset1 w) w fun t2 w3 =>
 Gd (isB false t1) (fun kk => Pu (aa TypeDesc.string .eql t2 (.string (.mk #[]))) fun vv => kk vv w3) w3 fun t4 w5 =>
 Pu (ak t1 (.bool true) t4) fun t6 =>
 IfB t6
 (k s0 w5)
 (Pu (bu cutset1) fun t7 =>
 Pu (aa (.int .i64) .eql t7 (.int .i64 1)) fun t8 =>
 Gd (isB true t8) (fun kk => kk cutset1 w5) w5 fun t9 w10 =>
 Gd (isB true t8) (fun kk => Pu (ixS t9 (.int .i64 0)) fun vv => kk vv w10) w10 fun t11 w12 =>
 Gd (isB true t8) (fun kk => Pu (aa (.int .u8) .lss t11 (.int .u8 128)) fun vv => kk vv w12) w12 fun t13 w14 =>
 Pu (ak t8 t13 (.bool false)) fun t15 =>
 IfB t15
 (Pu (ixS cutset1 (.int .i64 0)) fun t16 =>
 Cl prog 182 [s0, t16] w14 fun t17 w18 =>
 k t17 w18)
 (Cl prog 183 [cutset1] w14 fun t19 w20 =>
 Pu (aJ t19 0) fun t21 =>
 Pu (aJ t19 1) fun t22 =>
 New #[(.bool false), (.bool false), (.bool false), (.bool false), (.bool false), (.bool false), (.bool false), (.bool false), (.bool false), (.bool false), (.bool false), (.bool false), (.bool false), (.bool false), (.bool false), (.bool false), (.bool false), (.bool false), (.bool false), (.bool false), (.bool false), (.bool false), (.bool false), (.bool false), (.bool false), (.bool false), (.bool false), (.bool false), (.bool false), (.bool false), (.bool false), (.bool false), (.bool false), (.bool false), (.bool false), (.bool false), (.bool false), (.bool false), (.bool false), (.bool false), (.bool false), (.bool false), (.bool false), (.bool false), (.bool false), (.bool false), (.bool false), (.bool false), (.bool false), (.bool false), (.bool false), (.bool false), (.bool false), (.bool false), (.bool false), (.bool false), (.bool false), (.bool false), (.bool false), (.bool false), (.bool false), (.bool false), (.bool false), (.bool false), (.bool false), (.bool false), (.bool false), (.bool false), (.bool false), (.bool false), (.bool false), (.bool false), (.bool false), (.bool false), (.bool false), (.bool false), (.bool false), (.bool false), (.bool false), (.bool false), (.bool false), (.bool false), (.bool false), (.bool false), (.bool false), (.bool false), (.bool false), (.bool false), (.bool false), (.bool false), (.bool false), (.bool false), (.bool false), (.bool false), (.bool false), (.bool false), (.bool false), (.bool false), (.bool false), (.bool false), (.bool false), (.bool false), (.bool false), (.bool false), (.bool false), (.bool false), (.bool false), (.bool false), (.bool false), (.bool false), (.bool false), (.bool false), (.bool false), (.bool false), (.bool false), (.bool false), (.bool false), (.bool false), (.bool false), (.bool false), (.bool false), (.bool false), (.bool false), (.bool false), (.bool false), (.bool false), (.bool false), (.bool false), (.bool false), (.bool false), (.bool false), (.bool false), (.bool false), (.bool false), (.bool false), (.bool false), (.bool false), (.bool false), (.bool false), (.bool false), (.bool false), (.bool false), (.bool false), (.bool false), (.bool false), (.bool false), (.bool false), (.bool false), (.bool false), (.bool false), (.bool false), (.bool false), (.bool false), (.bool false), (.bool false), (.bool false), (.bool false), (.bool false), (.bool false), (.bool false), (.bool false), (.bool false), (.bool false), (.bool false), (.bool false), (.bool false), (.bool false), (.bool false), (.bool false), (.bool false), (.bool false), (.bool false), (.bool false), (.bool false), (.bool false), (.bool false), (.bool false), (.bool false), (.bool false), (.bool false), (.bool false), (.bool false), (.bool false), (.bool false), (.bool false), (.bool false), (.bool false), (.bool false), (.bool false), (.bool false), (.bool false), (.bool false), (.bool false), (.bool false), (.bool false), (.bool false), (.bool false), (.bool false), (.bool false), (.bool false), (.bool false), (.bool false), (.bool false), (.bool false), (.bool false), (.bool false), (.bool false), (.bool false), (.bool false), (.bool false), (.bool false), (.bool false), (.bool false), (.bool false), (.bool false), (.bool false), (.bool false), (.bool false), (.bool false), (.bool false), (.bool false), (.bool false), (.bool false), (.bool false), (.bool false), (.bool false), (.bool false), (.bool false), (.bool false), (.bool false), (.bool false), (.bool false), (.bool false), (.bool false), (.bool false), (.bool false), (.bool false), (.bool false), (.bool false), (.bool false), (.bool false), (.bool false), (.bool false), (.bool false), (.bool false), (.bool false), (.bool false), (.bool false), (.bool false), (.bool false), (.bool false), (.bool false), (.bool false), (.bool false), (.bool false), (.bool false)] 212 w20 fun as23 w24 =>
 St 256 w24 as23 t21 fun u25 w26 =>
 IfB t22
 (Cl prog 185 [s0, as23] w26 fun t27 w28 =>
 k t27 w28)
 (Cl prog 187 [s0, cutset1] w26 fun t29 w30 =>
 k t29 w30)))
theorem c202 {k : KV} {s0 cutset1 : Value} {w : World} (h : T202 k s0 cutset1 w) : Cl prog 202 [s0, cutset1] w k :=
 cE ac mixed L0 J0 Tryz.func202 (by kernel_rfl) (by kernel_rfl) (by kernel_rfl) h
def T203 (k : KV) (wv0 : Value) (w : World) : Prop :=
 Pu (aa (TypeDesc.pointer 243) .eql wv0 (.pointer none)) fun t1 =>
 IfB t1
 (k (.string (.mk #[])) w)
 (Pu (au wv0) fun t2 =>
 Pu (faV 0 t2) fun t3 =>
 Ld w t3 fun t4 w5 =>
 RunS prog (convert 123 9 t4) w5 fun t6 w7 =>
 k t6 w7)
theorem c203 {k : KV} {wv0 : Value} {w : World} (h : T203 k wv0 w) : Cl prog 203 [wv0] w k :=
 cE ac mixed L0 J0 Tryz.func203 (by kernel_rfl) (by kernel_rfl) (by kernel_rfl) h
def T15 (k : KV) (a0 b1 : Value) (w : World) : Prop :=
 New (Value.cells a0) 28 w fun a1 w2 =>
 New (Value.cells b1) 28 w2 fun b3 w4 =>
 Pu (faV 0 a1) fun t5 =>
 Ld w4 t5 fun t6 w7 =>
 Pu (faV 0 b3) fun t8 =>
 Ld w7 t8 fun t9 w10 =>
 Pu (aa (.int .i64) .neq t6 t9) fun t11 =>
 Gd (isB false t11) (fun kk => Pu (faV 1 a1) fun vv => kk vv w10) w10 fun t12 w13 =>
 Gd (isB false t11) (fun kk => Ld w13 t12 kk) w13 fun t14 w15 =>
 Gd (isB false t11) (fun kk => Pu (faV 1 b3) fun vv => kk vv w15) w15 fun t16 w17 =>
 Gd (isB false t11) (fun kk => Ld w17 t16 kk) w17 fun t18 w19 =>
 Gd (isB false t11) (fun kk => Pu (aa (.int .i64) .neq t14 t18) fun vv => kk vv w19) w19 fun t20 w21 =>
 Pu (ak t11 (.bool true) t20) fun t22 =>
 Gd (isB false t22) (fun kk => Pu (faV 2 a1) fun vv => kk vv w21) w21 fun t23 w24 =>
 Gd (isB false t22) (fun kk => Ld w24 t23 kk) w24 fun t25 w26 =>
 Gd (isB false t22) (fun kk => Pu (faV 2 b3) fun vv => kk vv w26) w26 fun t27 w28 =>
 Gd (isB false t22) (fun kk => Ld w28 t27 kk) w28 fun t29 w30 =>
 Gd (isB false t22) (fun kk => Pu (aa (.int .i64) .neq t25 t29) fun vv => kk vv w30) w30 fun t31 w32 =>
 Pu (ak t22 (.bool true) t31) fun t33 =>
 Gd (isB false t33) (fun kk => Pu (faV 3 a1) fun vv => kk vv w32) w32 fun t34 w35 =>
 Gd (isB false t33) (fun kk => Ld w35 t34 kk) w35 fun t36 w37 =>
 Gd (isB false t33) (fun kk => Pu (faV 3 b3) fun vv => kk vv w37) w37 fun t38 w39 =>
 Gd (isB false t33) (fun kk => Ld w39 t38 kk) w39 fun t40 w41 =>
 Gd (isB false t33) (fun kk => Pu (aa (.int .u8) .neq t36 t40) fun vv => kk vv w41) w41 fun t42 w43 =>
 Pu (ak t33 (.bool true) t42) fun t44 =>
 Gd (isB false t44) (fun kk => Pu (faV 4 a1) fun vv => kk vv w43) w43 fun t45 w46 =>
 Gd (isB false t44) (fun kk => Ld w46 t45 kk) w46 fun t47 w48 =>
 Gd (isB false t44) (fun kk => Pu (faV 4 b3) fun vv => kk vv w48) w48 fun t49 w50 =>
 Gd (isB false t44) (fun kk => Ld w50 t49 kk) w50 fun t51 w52 =>
 Gd (isB false t44) (fun kk => Pu (aa (.int .i64) .neq t47 t51) fun vv => kk vv w52) w52 fun t53 w54 =>
 Pu (ak t44 (.bool true) t53) fun t55 =>
 Gd (isB false t55) (fun kk => Pu (faV 5 a1) fun vv => kk vv w54) w54 fun t56 w57 =>
 Gd (isB false t55) (fun kk => Ld w57 t56 kk) w57 fun t58 w59 =>
 Gd (isB false t55) (fun kk => Pu (faV 5 b3) fun vv => kk vv w59) w59 fun t60 w61 =>
 Gd (isB false t55) (fun kk => Ld w61 t60 kk) w61 fun t62 w63 =>
 Gd (isB false t55) (fun kk => Pu (aa (.int .i64) .neq t58 t62) fun vv => kk vv w63) w63 fun t64 w65 =>
 Pu (ak t55 (.bool true) t64) fun t66 =>
 Gd (isB false t66) (fun kk => Pu (faV 6 a1) fun vv => kk vv w65) w65 fun t67 w68 =>
 Gd (isB false t66) (fun kk => Ld w68 t67 kk) w68 fun t69 w70 =>
 Gd (isB false t66) (fun kk => Pu (faV 6 b3) fun vv => kk vv w70) w70 fun t71 w72 =>
 Gd (isB false t66) (fun kk => Ld w72 t71 kk) w72 fun t73 w74 =>
 Gd (isB false t66) (fun kk => Pu (aa (.int .i64) .neq t69 t73) fun vv => kk vv w74) w74 fun t75 w76 =>
 Pu (ak t66 (.bool true) t75) fun t77 =>
 Gd (isB false t77) (fun kk => Pu (faV 7 a1) fun vv => kk vv w76) w76 fun t78 w79 =>
 Gd (isB false t77) (fun kk => Ld w79 t78 kk) w79 fun t80 w81 =>
 Gd (isB false t77) (fun kk => Pu (faV 7 b3) fun vv => kk vv w81) w81 fun t82 w83 =>
 Gd (isB false t77) (fun kk => Ld w83 t82 kk) w83 fun t84 w85 =>
 Gd (isB false t77) (fun kk => Pu (aa (.int .i64) .neq t80 t84) fun vv => kk vv w85) w85 fun t86 w87 =>
 Pu (ak t77 (.bool true) t86) fun t88 =>
 Gd (isB false t88) (fun kk => Pu (faV 8 a1) fun vv => kk vv w87) w87 fun t89 w90 =>
 Gd (isB false t88) (fun kk => Ld w90 t89 kk) w90 fun t91 w92 =>
 Gd (isB false t88) (fun kk => Pu (faV 8 b3) fun vv => kk vv w92) w92 fun t93 w94 =>
 Gd (isB false t88) (fun kk => Ld w94 t93 kk) w94 fun t95 w96 =>
 Gd (isB false t88) (fun kk => Pu (aa (.int .i64) .neq t91 t95) fun vv => kk vv w96) w96 fun t97 w98 =>
 Pu (ak t88 (.bool true) t97) fun t99 =>
 Gd (isB false t99) (fun kk => Pu (faV 9 a1) fun vv => kk vv w98) w98 fun t100 w101 =>
 Gd (isB false t99) (fun kk => Ld w101 t100 kk) w101 fun t102 w103 =>
 Gd (isB false t99) (fun kk => Pu (faV 9 b3) fun vv => kk vv w103) w103 fun t104 w105 =>
 Gd (isB false t99) (fun kk => Ld w105 t104 kk) w105 fun t106 w107 =>
 Gd (isB false t99) (fun kk => Pu (aa (.int .i64) .neq t102 t106) fun vv => kk vv w107) w107 fun t108 w109 =>
 Pu (ak t99 (.bool true) t108) fun t110 =>
 Gd (isB false t110) (fun kk => Pu (faV 10 a1) fun vv => kk vv w109) w109 fun t111 w112 =>
 Gd (isB false t110) (fun kk => Ld w112 t111 kk) w112 fun t113 w114 =>
 Gd (isB false t110) (fun kk => Pu (faV 10 b3) fun vv => kk vv w114) w114 fun t115 w116 =>
 Gd (isB false t110) (fun kk => Ld w116 t115 kk) w116 fun t117 w118 =>
 Gd (isB false t110) (fun kk => Pu (aa TypeDesc.string .neq t113 t117) fun vv => kk vv w118) w118 fun t119 w120 =>
 Pu (ak t110 (.bool true) t119) fun t121 =>
 IfB t121
 (k (.bool false) w120)
 (Pu (faV 11 a1) fun t122 =>
 Ld w120 t122 fun t123 w124 =>
 Pu (faV 11 b3) fun t125 =>
 Ld w124 t125 fun t126 w127 =>
 Cl prog 88 [t123, t126] w127 fun t128 w129 =>
 Pu (unV .not t128) fun t130 =>
 Gd (isB false t130) (fun kk => Pu (faV 12 a1) fun vv => kk vv w129) w129 fun t131 w132 =>
 Gd (isB false t130) (fun kk => Ld w132 t131 kk) w132 fun t133 w134 =>
 Gd (isB false t130) (fun kk => Pu (faV 12 b3) fun vv => kk vv w134) w134 fun t135 w136 =>
 Gd (isB false t130) (fun kk => Ld w136 t135 kk) w136 fun t137 w138 =>
 Gd (isB false t130) (fun kk => Cl prog 88 [t133, t137] w138 kk) w138 fun t139 w140 =>
 Gd (isB false t130) (fun kk => Pu (unV .not t139) fun vv => kk vv w140) w140 fun t141 w142 =>
 Pu (ak t130 (.bool true) t141) fun t143 =>
 Gd (isB false t143) (fun kk => Pu (faV 13 a1) fun vv => kk vv w142) w142 fun t144 w145 =>
 Gd (isB false t143) (fun kk => Ld w145 t144 kk) w145 fun t146 w147 =>
 Gd (isB false t143) (fun kk => Pu (lenV t146) fun vv => kk vv w147) w147 fun t148 w149 =>
 Gd (isB false t143) (fun kk => Pu (faV 13 b3) fun vv => kk vv w149) w149 fun t150 w151 =>
 Gd (isB false t143) (fun kk => Ld w151 t150 kk) w151 fun t152 w153 =>
 Gd (isB false t143) (fun kk => Pu (lenV t152) fun vv => kk vv w153) w153 fun t154 w155 =>
 Gd (isB false t143) (fun kk => Pu (aa (.int .i64) .neq t148 t154) fun vv => kk vv w155) w155 fun t156 w157 =>
 Pu (ak t143 (.bool true) t156) fun t158 =>
 Gd (isB false t158) (fun kk => Pu (faV 14 a1) fun vv => kk vv w157) w157 fun t159 w160 =>
 Gd (isB false t158) (fun kk => Ld w160 t159 kk) w160 fun t161 w162 =>
 Gd (isB false t158) (fun kk => Pu (lenV t161) fun vv => kk vv w162) w162 fun t163 w164 =>
 Gd (isB false t158) (fun kk => Pu (faV 14 b3) fun vv => kk vv w164) w164 fun t165 w166 =>
 Gd (isB false t158) (fun kk => Ld w166 t165 kk) w166 fun t167 w168 =>
 Gd (isB false t158) (fun kk => Pu (lenV t167) fun vv => kk vv w168) w168 fun t169 w170 =>
 Gd (isB false t158) (fun kk => Pu (aa (.int .i64) .neq t163 t169) fun vv => kk vv w170) w170 fun t171 w172 =>
 Pu (ak t158 (.bool true) t171) fun t173 =>
 Gd (isB false t173) (fun kk => Pu (faV 15 a1) fun vv => kk vv w172) w172 fun t174 w175 =>
 Gd (isB false t173) (fun kk => Ld w175 t174 kk) w175 fun t176 w177 =>
 Gd (isB false t173) (fun kk => Pu (lenV t176) fun vv => kk vv w177) w177 fun t178 w179 =>
 Gd (isB false t173) (fun kk => Pu (faV 15 b3) fun vv => kk vv w179) w179 fun t180 w181 =>
 Gd (isB false t173) (fun kk => Ld w181 t180 kk) w181 fun t182 w183 =>
 Gd (isB false t173) (fun kk => Pu (lenV t182) fun vv => kk vv w183) w183 fun t184 w185 =>
 Gd (isB false t173) (fun kk => Pu (aa (.int .i64) .neq t178 t184) fun vv => kk vv w185) w185 fun t186 w187 =>
 Pu (ak t173 (.bool true) t186) fun t188 =>
 IfB t188
 (k (.bool false) w187)
 (∃ (I189 : List Value → World → Prop) (m190 : List Value → World → Nat), I189 [(.int .i64 0)] w187 ∧
 ∀ (g231 : Fr) (w230 : World), ∀ i193 : Value, I189 [i193] w230 →
 (Pu (faV 13 a1) fun t232 =>
 Ld w230 t232 fun t233 w234 =>
 Pu (lenV t233) fun t235 =>
 Pu (aa (.int .i64) .lss i193 t235) fun t236 =>
 IfB t236
 (Pu (faV 13 a1) fun t237 =>
 Ld (World.drew w234) t237 fun t238 w239 =>
 w239 = (World.drew w234) ∧
 Pu (ixV 7 t238 i193) fun t240 =>
 Pu (faV 0 t240) fun t241 =>
 Ld (World.drew w234) t241 fun t242 w243 =>
 w243 = (World.drew w234) ∧
 Pu (faV 13 b3) fun t244 =>
 Ld (World.drew w234) t244 fun t245 w246 =>
 w246 = (World.drew w234) ∧
 Pu (ixV 7 t245 i193) fun t247 =>
 Pu (faV 0 t247) fun t248 =>
 Ld (World.drew w234) t248 fun t249 w250 =>
 w250 = (World.drew w234) ∧
 Pu (aa (.int .i64) .neq t242 t249) fun t251 =>
 Gd (isB false t251) (fun kk => Pu (faV 13 a1) fun vv => kk vv (World.drew w234)) (World.drew w234) fun t252 w253 =>
 Gd (isB false t251) (fun kk => Ld w253 t252 kk) w253 fun t254 w255 =>
 w255 = w253 ∧
 Gd (isB false t251) (fun kk => kk i193 w253) w253 fun t256 w257 =>
 Gd (isB false t251) (fun kk => Pu (ixV 7 t254 t256) fun vv => kk vv w257) w257 fun t258 w259 =>
 Gd (isB false t251) (fun kk => Pu (faV 1 t258) fun vv => kk vv w259) w259 fun t260 w261 =>
 Gd (isB false t251) (fun kk => LdN 6 w261 t260 kk) w261 fun t262 w263 =>
 w263 = w261 ∧
 Gd (isB false t251) (fun kk => Pu (faV 13 b3) fun vv => kk vv w261) w261 fun t264 w265 =>
 Gd (isB false t251) (fun kk => Ld w265 t264 kk) w265 fun t266 w267 =>
 w267 = w265 ∧
 Gd (isB false t251) (fun kk => kk i193 w265) w265 fun t268 w269 =>
 Gd (isB false t251) (fun kk => Pu (ixV 7 t266 t268) fun vv => kk vv w269) w269 fun t270 w271 =>
 Gd (isB false t251) (fun kk => Pu (faV 1 t270) fun vv => kk vv w271) w271 fun t272 w273 =>
 Gd (isB false t251) (fun kk => LdN 6 w273 t272 kk) w273 fun t274 w275 =>
 w275 = w273 ∧
 Gd (isB false t251) (fun kk => Cl prog 34 [t262, t274] w273 kk) w273 fun t276 w277 =>
 Gd (isB false t251) (fun kk => Pu (unV .not t276) fun vv => kk vv w277) w277 fun t278 w279 =>
 Pu (ak t251 (.bool true) t278) fun t280 =>
 IfB t280
 (k (.bool false) w279)
 (Pu (aa (.int .i64) .add i193 (.int .i64 1)) fun t281 =>
 I189 [t281] w279 ∧ m190 [t281] w279 < m190 [i193] w230))
 (∃ (I282 : List Value → World → Prop) (m283 : List Value → World → Nat), I282 [(.int .i64 0)] w234 ∧
 ∀ (g306 : Fr) (w305 : World), ∀ i286 : Value, I282 [i286] w305 →
 (Pu (faV 14 a1) fun t307 =>
 Ld w305 t307 fun t308 w309 =>
 Pu (lenV t308) fun t310 =>
 Pu (aa (.int .i64) .lss i286 t310) fun t311 =>
 IfB t311
 (Pu (faV 14 a1) fun t312 =>
 Ld (World.drew w309) t312 fun t313 w314 =>
 w314 = (World.drew w309) ∧
 Pu (ixV 2 t313 i286) fun t315 =>
 LdN 2 (World.drew w309) t315 fun t316 w317 =>
 w317 = (World.drew w309) ∧
 Pu (faV 14 b3) fun t318 =>
 Ld (World.drew w309) t318 fun t319 w320 =>
 w320 = (World.drew w309) ∧
 Pu (ixV 2 t319 i286) fun t321 =>
 LdN 2 (World.drew w309) t321 fun t322 w323 =>
 w323 = (World.drew w309) ∧
 RunS prog (do eqGuard .neq 120 (Operand.tmp 171) (Operand.tmp 176) t316 t322; binOp .neq 120 t316 t322) (World.drew w309) fun t324 w325 =>
 w325 = (World.drew w309) ∧
 IfB t324
 (k (.bool false) (World.drew w309))
 (Pu (aa (.int .i64) .add i286 (.int .i64 1)) fun t326 =>
 I282 [t326] (World.drew w309) ∧ m283 [t326] (World.drew w309) < m283 [i286] w305))
 (∃ (I327 : List Value → World → Prop) (m328 : List Value → World → Nat), I327 [(.int .i64 0)] w309 ∧
 ∀ (g351 : Fr) (w350 : World), ∀ i331 : Value, I327 [i331] w350 →
 (Pu (faV 15 a1) fun t352 =>
 Ld w350 t352 fun t353 w354 =>
 Pu (lenV t353) fun t355 =>
 Pu (aa (.int .i64) .lss i331 t355) fun t356 =>
 IfB t356
 (Pu (faV 15 a1) fun t357 =>
 Ld (World.drew w354) t357 fun t358 w359 =>
 w359 = (World.drew w354) ∧
 Pu (ixV 2 t358 i331) fun t360 =>
 LdN 2 (World.drew w354) t360 fun t361 w362 =>
 w362 = (World.drew w354) ∧
 Pu (faV 15 b3) fun t363 =>
 Ld (World.drew w354) t363 fun t364 w365 =>
 w365 = (World.drew w354) ∧
 Pu (ixV 2 t364 i331) fun t366 =>
 LdN 2 (World.drew w354) t366 fun t367 w368 =>
 w368 = (World.drew w354) ∧
 RunS prog (do eqGuard .neq 122 (Operand.tmp 189) (Operand.tmp 194) t361 t367; binOp .neq 122 t361 t367) (World.drew w354) fun t369 w370 =>
 w370 = (World.drew w354) ∧
 IfB t369
 (k (.bool false) (World.drew w354))
 (Pu (aa (.int .i64) .add i331 (.int .i64 1)) fun t371 =>
 I327 [t371] (World.drew w354) ∧ m328 [t371] (World.drew w354) < m328 [i331] w350))
 (k (.bool true) w354))))))))
theorem c15 {k : KV} {a0 b1 : Value} {w : World} (h : T15 k a0 b1 w) : Cl prog 15 [a0, b1] w k :=
 cE ac mixed (fun j => bif Nat.beq j 16 then [7] else bif Nat.beq j 11 then [6] else bif Nat.beq j 6 then [5] else []) J0 Tryz.func15 (by kernel_rfl) (by kernel_rfl) (by kernel_rfl) h
def T88 (k : KV) (a0 b1 : Value) (w : World) : Prop :=
 Pu (lenV a0) fun t1 =>
 Pu (lenV b1) fun t2 =>
 Pu (aa (.int .i64) .neq t1 t2) fun t3 =>
 IfB t3
 (k (.bool false) w)
 (∃ (I4 : List Value → World → Prop) (m5 : List Value → World → Nat), I4 [(.int .i64 0)] w ∧
 ∀ (g25 : Fr) (w24 : World), ∀ i8 : Value, I4 [i8] w24 →
 (Pu (lenV a0) fun t26 =>
 Pu (aa (.int .i64) .lss i8 t26) fun t27 =>
 IfB t27
 (Pu (ixV 1 a0 i8) fun t28 =>
 Ld (World.drew w24) t28 fun t29 w30 =>
 w30 = (World.drew w24) ∧
 Pu (ixV 1 b1 i8) fun t31 =>
 Ld (World.drew w24) t31 fun t32 w33 =>
 w33 = (World.drew w24) ∧
 Pu (aa (.int .i64) .neq t29 t32) fun t34 =>
 IfB t34
 (k (.bool false) (World.drew w24))
 (Pu (aa (.int .i64) .add i8 (.int .i64 1)) fun t35 =>
 I4 [t35] (World.drew w24) ∧ m5 [t35] (World.drew w24) < m5 [i8] w24))
 (k (.bool true) w24)))
theorem c88 {k : KV} {a0 b1 : Value} {w : World} (h : T88 k a0 b1 w) : Cl prog 88 [a0, b1] w k :=
 cE ac mixed (fun j => bif Nat.beq j 4 then [5] else []) J0 Tryz.func88 (by kernel_rfl) (by kernel_rfl) (by kernel_rfl) h
theorem uR : ElemT prog 123 5 1 1 := cB Tryz.underlying123 (by kernel_rfl)
theorem qo (x : Int) (w : World) : (Instr.buildSlice 123 1 #[(0, .int .u8 x)]).run prog w = .ok (.slice (some ⟨w.heap.size, 0, none⟩) 1 1) (w.alloc (.cells #[.int .u8 x] 5)) := by kernel_rfl
theorem xp (s : Bs) (w : World) : (Instr.build 221 #[(0, stv s)]).run prog w = .ok (.agg #[stv s, iv 0]) w := by kernel_rfl
theorem xr (w : World) : (Instr.build 243 #[]).run prog w = .ok (.agg #[.slice none 0 0]) w := by kernel_rfl
def RdAt (w : World) (r : Nat) (s : Bs) (e : Int) : Prop := w.heap[r]? = some (.cells #[stv s, iv e] 221)
theorem RdAt.keep {S : Nat → Prop} {w w' : World} {r : Nat} {s : Bs} {e : Int} (h : RdAt w r s e) (hf : Fm S w w') (hs : ¬ S r) : RdAt w' r s e := hf.heap h hs
theorem RdAt.c0 {w : World} {r : Nat} {s : Bs} {e : Int} (h : RdAt w r s e) : w.cell? ⟨r, 0, none⟩ = some (stv s) := by rw [ag h]; rfl
theorem RdAt.c1 {w : World} {r : Nat} {s : Bs} {e : Int} (h : RdAt w r s e) : w.cell? ⟨r, 1, none⟩ = some (iv e) := by rw [ag h]; rfl
theorem RdAt.lt {w : World} {r : Nat} {s : Bs} {e : Int} (h : RdAt w r s e) : r < w.heap.size := aq h
theorem oG (w : World) (s : Bs) : Cl prog 148 [stv s] w fun v w' => ∃ r, v = pv r ∧ w.heap.size ≤ r ∧ RdAt w' r s 0 ∧ Fm (fun _ => False) w w' := by
 refine c148 ?_; unfold T148
 refine af (xp s w) (ao ?_)
 intro b w' hb hs hw hf
 exact ⟨b, rfl, by omega, hw, hf⟩
theorem dt {w : World} {r : Nat} {s : Bs} {e : Int} (h : RdAt w r s e) (x : Int) : Cl prog 196 [pv r, iv x] w fun v w' => v = iv 0 ∧ RdAt w' r [] x ∧ Fm (· = r) w w' := by
 refine c196 ?_; unfold T196
 simp only [RS, aj, br, aD]
 refine ay h (by simp) rfl ?_
 intro w1 h1 _ hf1
 refine ay h1 (by simp) rfl ?_
 intro w2 h2 _ hf2
 exact ⟨(by trivial), h2, hf1.trans hf2 (fun _ _ e => e) (fun _ _ e => e)⟩
theorem cV {w : World} {r : Nat} {s : Bs} {e : Int} (h : RdAt w r s e) : Cl prog 153 [pv r] w fun v w' => v = iv e ∧ w' = w := by
 refine c153 ?_; unfold T153
 simp only [RS, h.c1, and_self]
theorem nW {w : World} {r : Nat} {s : Bs} {e : Int} (h : RdAt w r s e) : Cl prog 197 [pv r] w fun v w' => v = iv s.length ∧ w' = w := by
 refine c197 ?_; unfold T197
 simp only [RS, aj, br, aD, h.c0, and_self]
theorem pm {w : World} {r : Nat} {s : Bs} {e : Int} (h : RdAt w r s e) : Cl prog 154 [pv r] w fun v w' => v = iv (uC s e) ∧ w' = w := by
 refine c154 ?_; unfold T154
 refine (cV h).mono ?_
 rintro _ w ⟨rfl, rfl⟩
 unfold uC
 by_cases he : e = 0
 ·have e1 : (e == 0) = true := by simpa using he
  simp only [RS, e1]
  refine (nW h).mono ?_
  rintro _ w ⟨rfl, rfl⟩
  have e2 : decide (e = 0) = true := by simpa using he
  by_cases hs : 0 < s.length
  ·have e3 : decide ((0 : Int) < (s.length : Int)) = true := by rw [decide_eq_true_eq]; omega
   have e4 : decide (0 < s.length) = true := by simpa using hs
   simp only [RS, e3, e2, e4, Bool.and_self, cond_true]
   exact ⟨(by trivial), (by trivial)⟩
  ·have e3 : decide ((0 : Int) < (s.length : Int)) = false := by rw [decide_eq_false_iff_not]; omega
   have e4 : decide (0 < s.length) = false := by simpa using hs
   simp only [RS, e3, e2, e4, Bool.and_false, cond_false]
   refine (cV h).mono ?_
   rintro _ w ⟨rfl, rfl⟩
   exact ⟨(by trivial), (by trivial)⟩
 ·have e1 : (e == 0) = false := by simpa using he
  have e2 : decide (e = 0) = false := by simpa using he
  simp only [RS, e1, e2, Bool.false_and, cond_false]
  refine (cV h).mono ?_
  rintro _ w ⟨rfl, rfl⟩
  exact ⟨(by trivial), (by trivial)⟩
theorem qE {w : World} {r : Nat} {s : Bs} {e : Int} (h : RdAt w r s e) (most : Int) (hs : s.length ≤ 9223372036854775807) (hm : most ≤ 9223372036854775807) :
  Cl prog 150 [pv r, iv most] w fun v w' => v = iv (mj most s e).1 ∧ RdAt w' r (mj most s e).2.1 (mj most s e).2.2 ∧ Fm (· = r) w w' := by
 refine c150 ?_; unfold T150
 unfold mj
 by_cases he : e = 0
 ·subst he
  simp only [RS, h.c1, bne_self_eq_false, decide_true, cond_true]
  refine ⟨fun vs w2 => ∃ (k n : Nat), vs = [iv n, iv k] ∧ k ≤ 9 ∧ n < 2 ^ (7 * k) ∧ k ≤ s.length ∧ rdN most 9 0 0 s = rdN most (9 - k) k n (s.drop k) ∧ w2 = w, fun vs _ => (9 - nth vs 1).toNat, ⟨0, 0, rfl, by omega, by decide, by omega, rfl, rfl⟩, ?_⟩
  rintro _ w2 in_ ik ⟨k, n, hvs, hk, hn, hks, heq, rfl⟩
  cases hvs
  by_cases hlt : k < 9
  ·have e1 : decide ((k : Int) < 9) = true := by rw [decide_eq_true_eq]; omega
   obtain ⟨f, hf⟩ : ∃ f, 9 - k = f + 1 := ⟨8 - k, by omega⟩
   rw [hf] at heq
   simp only [RS, aj, br, aD, e1, h.c0]
   by_cases hsl : k < s.length
   ·have e2 : decide ((s.length : Int) ≤ (k : Int)) = false := by rw [decide_eq_false_iff_not]; omega
    have hb : s[k]? = some s[k] := List.getElem?_eq_getElem hsl
    rw [List.drop_eq_getElem_cons hsl, rdN] at heq
    generalize s[k] = b at hb heq
    have hb256 : b.toNat < 256 := b.toNat_lt
    have hk63 : (2 : Nat) ^ (7 * k) ≤ 2 ^ 56 := Nat.pow_le_pow_right (by decide) (by omega)
    have hmod : b.toNat % 128 < 128 := Nat.mod_lt _ (by decide)
    have hpr : b.toNat % 128 * 2 ^ (7 * k) ≤ 127 * 2 ^ 56 := Nat.mul_le_mul (by omega) hk63
    have e3 : vU .u8 (b.toNat : Int) 127 = ((b.toNat % 128 : Nat) : Int) := by
     have := uO b.toNat 127 hb256 (by decide)
     rw [uK] at this; exact this
    have e4 : cvI .i64 (.int .u8 ((b.toNat % 128 : Nat) : Int)) = some (iv ((b.toNat % 128 : Nat) : Int)) := by
     show some (iv (IntKind.i64.wrap _)) = _
     rw [bH (by omega)]
    have e5 : IntKind.i64.wrap (7 * (k : Int)) = ((7 * k : Nat) : Int) := by rw [ab] <;> omega
    have e6 := tF (b.toNat % 128) (7 * k) (by omega) (by omega) (TypeDesc.int .i64) .i64
    have e7 : orI .i64 (n : Int) ((b.toNat % 128 * 2 ^ (7 * k) : Nat) : Int) = ((n + b.toNat % 128 * 2 ^ (7 * k) : Nat) : Int) := by
     rw [vA _ _ (by omega) (by omega), qh hn]
    have e8 : 128 ^ k = 2 ^ (7 * k) := by rw [Nat.pow_mul]
    rw [e8] at heq
    have hn' : n + b.toNat % 128 * 2 ^ (7 * k) < 2 ^ (7 * (k + 1)) := by
     have h1 : 2 ^ (7 * (k + 1)) = 128 * 2 ^ (7 * k) := by rw [show 7 * (k + 1) = 7 * k + 7 by omega, Nat.pow_add]; omega
     have h2 : b.toNat % 128 * 2 ^ (7 * k) ≤ 127 * 2 ^ (7 * k) := Nat.mul_le_mul_right _ (by omega)
     omega
    generalize n + b.toNat % 128 * 2 ^ (7 * k) = n' at e7 heq hn'
    have hn62 : n' < 2 ^ 63 := Nat.lt_of_lt_of_le hn' (Nat.pow_le_pow_right (by decide) (by omega))
    simp only [RS, aj, br, aD, e2, dy hb, rS, e3, e4, e5, e6, qi, e7]
    have ebz : ((b.toNat : Int) == 0) = decide (b = 0) := by
     rw [aA, decide_eq_decide]
     constructor
     ·intro h; apply UInt8.toNat.inj; simp; omega
     ·rintro rfl; rfl
    have cont : decide (b = 0 ∧ 0 < k) = false → IfB (.bool (decide ((128 : Int) ≤ (b.toNat : Int))))
      (Pu (aa (TypeDesc.int .i64) .add (iv (k : Nat)) (Value.int .i64 1)) fun t73_107 =>
       (∃ (k_1 n_1 : Nat), [iv (n' : Nat), t73_107] = [iv n_1, iv k_1] ∧ k_1 ≤ 9 ∧ n_1 < 2 ^ (7 * k_1) ∧ k_1 ≤ s.length ∧ rdN most 9 0 0 s = rdN most (9 - k_1) k_1 n_1 (s.drop k_1) ∧ w2 = w2) ∧ (9 - nth [iv (n' : Nat), t73_107] 1).toNat < (9 - nth [iv (n : Nat), iv (k : Nat)] 1).toNat)
      (Pu (aU eV [iv most, (Value.int .i64 0)]) fun t58_108 =>
      Pu (aa (TypeDesc.int .i64) .gtr (iv (n' : Nat)) t58_108) fun t59_109 =>
      IfB t59_109
       (Cl prog 196 [pv r, (Value.int .i64 11)] w2 fun v w' => v = iv (rdN most 9 0 0 s).1 ∧ RdAt w' r (rdN most 9 0 0 s).2.1 (rdN most 9 0 0 s).2.2 ∧ Fm (· = r) w2 w')
       (Pu (au (pv r)) fun t64_112 =>
       Pu (faV 0 t64_112) fun t65_113 =>
       Ld w2 t65_113 fun t66_114 w_115 =>
       Pu (aa (TypeDesc.int .i64) .add (iv (k : Nat)) (Value.int .i64 1)) fun t68_116 =>
       Pu (slS t66_114 (some t68_116) none) fun t69_117 =>
       Pu (au (pv r)) fun t70_118 =>
       Pu (faV 0 t70_118) fun t71_119 =>
       St 1 w_115 t71_119 t69_117 fun u_120 w_121 =>
       iv (n' : Nat) = iv (rdN most 9 0 0 s).1 ∧ RdAt w_121 r (rdN most 9 0 0 s).2.1 (rdN most 9 0 0 s).2.2 ∧ Fm (· = r) w2 w_121)) := by
     intro hz
     simp only [hz, cond_false] at heq
     have e9 : IntKind.i64.wrap ((k : Int) + 1) = ((k + 1 : Nat) : Int) := by rw [ab] <;> omega
     by_cases hbig : 128 ≤ b.toNat
     ·have z1 : decide ((128 : Int) ≤ (b.toNat : Int)) = true := by rw [decide_eq_true_eq]; omega
      have z2 : decide (128 ≤ b.toNat) = true := by simpa using hbig
      simp only [z2, cond_true] at heq
      simp only [RS, z1, e9]
      exact ⟨⟨k + 1, n', rfl, by omega, hn', by omega, by rw [heq, show 9 - (k + 1) = f by omega], trivial⟩, by simp only [bM]; omega⟩
     ·have z1 : decide ((128 : Int) ≤ (b.toNat : Int)) = false := by rw [decide_eq_false_iff_not]; omega
      have z2 : decide (128 ≤ b.toNat) = false := by simpa using hbig
      have z3 : eV (iv most) (iv 0) = some (iv (max most 0)) := by
       show some (iv (if (0 : Int) > most then 0 else most)) = _
       congr 2
       split <;> omega
      simp only [z2, cond_false] at heq
      simp only [RS, z1, aU, fO, z3, Option.bind_some]
      by_cases hmx : max most 0 < (n' : Int)
      ·have z4 : decide (max most 0 < (n' : Int)) = true := by simpa using hmx
       simp only [z4, cond_true] at heq
       simp only [RS, z4]
       refine (dt h 11).mono ?_
       rintro _ w3 ⟨rfl, h3, hf3⟩
       rw [heq]
       exact ⟨(by trivial), h3, hf3⟩
      ·have z4 : decide (max most 0 < (n' : Int)) = false := by simpa using hmx
       simp only [z4, cond_false] at heq
       have z5 := cQ (l := s) (i := k + 1) (by omega) .i64
       simp only [RS, z4, h.c0, e9, z5]
       refine ay h (by simp) rfl ?_
       intro w3 h3 _ hf3
       rw [heq]
       exact ⟨rfl, h3, hf3⟩
    rw [ebz]
    by_cases hz : b = 0
    ·have z1 : decide (b = 0) = true := by simpa using hz
     by_cases hkp : 0 < k
     ·have z2 : decide ((0 : Int) < (k : Int)) = true := by rw [decide_eq_true_eq]; omega
      have z3 : decide (b = 0 ∧ 0 < k) = true := by simp [hz, hkp]
      simp only [z3, cond_true] at heq
      simp only [RS, z1, z2]
      refine (dt h 11).mono ?_
      rintro _ w3 ⟨rfl, h3, hf3⟩
      rw [heq]
      exact ⟨(by trivial), h3, hf3⟩
     ·have z2 : decide ((0 : Int) < (k : Int)) = false := by rw [decide_eq_false_iff_not]; omega
      have c := cont (by simp [hkp])
      simp only [RS] at c
      simp only [RS, z1, z2]
      exact c
    ·have z1 : decide (b = 0) = false := by simpa using hz
     have c := cont (by simp [hz])
     simp only [RS] at c
     simp only [RS, z1]
     exact c
   ·have e2 : decide ((s.length : Int) ≤ (k : Int)) = true := by rw [decide_eq_true_eq]; omega
    rw [List.drop_eq_nil_of_le (by omega), rdN] at heq
    simp only [RS, e2]
    refine (dt h 10).mono ?_
    rintro _ w3 ⟨rfl, h3, hf3⟩
    rw [heq]
    exact ⟨(by trivial), h3, hf3⟩
  ·have hke : k = 9 := by omega
   subst hke
   have e1 : decide (((9 : Nat) : Int) < 9) = false := rfl
   rw [Nat.sub_self, rdN] at heq
   simp only [RS, e1]
   refine (dt h 11).mono ?_
   rintro _ w3 ⟨rfl, h3, hf3⟩
   rw [heq]
   exact ⟨(by trivial), h3, hf3⟩
 ·have e1 : (e != 0) = true := by rw [al]; simp [he]
  have e2 : decide (e = 0) = false := by simpa using he
  simp only [RS, h.c1, e1, e2, cond_false]
  exact ⟨(by trivial), h, Fm.refl _ _⟩
def sf (w : World) (r y : Nat) : Prop := ∃ v, w.heap[r]? = some (.cells #[v] 243) ∧ v.ownBlock = some y
def wrM (w : World) (r y : Nat) : Prop := y = r ∨ sf w r y
structure WrAt (w : World) (r : Nat) (B : Bs) : Prop where
 ex : ∃ v, w.heap[r]? = some (.cells #[v] 243) ∧ w.ownsRow 0 5 1 v B.length (bc B)
theorem WrAt.keep {S : Nat → Prop} {w w' : World} {r : Nat} {B : Bs} (h : WrAt w r B) (hf : Fm S w w') (hs : ∀ y, wrM w r y → ¬ S y) : WrAt w' r B ∧ ∀ y, wrM w' r y ↔ wrM w r y := by
 obtain ⟨v, hv, ho⟩ := h.ex
 have hr := hf.heap hv (hs r (.inl rfl))
 refine ⟨⟨v, hr, ae ho hf fun k _ _ hk => hs k (.inr ⟨v, hv, hk⟩)⟩, fun y => ?_⟩
 unfold wrM sf
 rw [hr, hv]
theorem WrAt.lt {w : World} {r : Nat} {B : Bs} (h : WrAt w r B) : ∀ y, wrM w r y → y < w.heap.size := by
 obtain ⟨v, hv, ho⟩ := h.ex
 rintro y (rfl | ⟨v', hv', hy⟩)
 ·exact aq hv
 ·rw [hv] at hv'; cases hv'; exact (ho.lt y hy).2
theorem pX (w : World) : Cl prog 199 [] w fun v w' => v = pv w.heap.size ∧ WrAt w' w.heap.size [] ∧ (∀ y, wrM w' w.heap.size y → y = w.heap.size) ∧ Fm (fun _ => False) w w' := by
 refine c199 ?_; unfold T199
 refine af (xr w) (ao ?_)
 intro b w' hb hs hw hf
 subst hb
 refine ⟨rfl, ⟨_, hw, World.ownsRow_nil _ _ _ _⟩, ?_, hf⟩
 rintro y (h | ⟨v, hv, hy⟩)
 ·exact h
 ·rw [hw] at hv; cases hv; cases hy
theorem mc {w : World} {r : Nat} {B : Bs} (h : WrAt w r B) : Cl prog 203 [pv r] w fun v w' => v = stv B ∧ w' = w := by
 obtain ⟨v, hv, ho⟩ := h.ex
 refine c203 ?_; unfold T203
 have c0 : w.cell? ⟨r, 0, none⟩ = some v := by rw [ag hv]; rfl
 simp only [RS, c0]
 exact af (jQ B38 ho) ⟨rfl, rfl⟩
theorem wX {w : World} {r : Nat} {B : Bs} (h : WrAt w r B) (hl : B.length ≤ 1099511627776) (x : UInt8) {k : KV} (hk : ∀ w', WrAt w' r (B ++ [x]) → Fm (wrM w r) w w' → (∀ y, wrM w' r y → wrM w r y ∨ w.heap.size ≤ y) → k undef w') :
  Pu (au (pv r)) fun t22_71 =>
   Pu (faV 0 t22_71) fun t23_72 =>
   Ld w t23_72 fun t24_73 w_74 =>
   RunS prog (Instr.buildSlice 123 1 #[(0, .int .u8 x.toNat)]) w_74 fun t28_77 w_78 =>
   RunS prog (Builtin.append_ #[123, 123] 123 #[t24_73, t28_77]) w_78 fun t29_79 w_80 =>
   Pu (au (pv r)) fun t30_81 =>
   Pu (faV 0 t30_81) fun t31_82 =>
   St 1 w_80 t31_82 t29_79 k := by
 obtain ⟨v, hv, ho⟩ := h.ex
 have c0 : w.cell? ⟨r, 0, none⟩ = some v := by rw [ag hv]; rfl
 have hrlt := aq hv
 simp only [RS, c0]
 refine bq uR (by omega) 123 (cs := [.int .u8 x.toNat]) rfl (qo _ _) (by intro u hu; simp at hu; subst hu; rfl) ho (by unfold maxLen; omega) (by omega) (Nat.zero_le _) ?_
 intro v' w1 ho1 hcase
 try simp only [RS]
 have hvr : ∀ g, v.ownBlock = some g → g ≠ r := by
  rintro g hg rfl
  rcases ho.2 with ⟨rfl, _⟩ | ⟨g', cap, cur, rfl, _, hgg, _⟩
  ·cases hg
  ·have : g' = g := by simpa [Value.ownBlock] using hg
   subst this
   rw [hv] at hgg; cases hgg
 obtain ⟨S, hfS, hS1, hS2⟩ : ∃ S : Nat → Prop, Fm S w w1 ∧ (∀ y, S y → v.ownBlock = some y) ∧ (∀ g, v'.ownBlock = some g → v.ownBlock = some g ∨ w.heap.size ≤ g) := by
  rcases hcase with ⟨g, k1, k2, k3⟩ | ⟨g, k1, k2, k3⟩
  ·exact ⟨_, k3, fun y hy => by rw [hy]; exact k1, fun g' hg' => by rw [k2] at hg'; cases hg'; exact .inl k1⟩
  ·exact ⟨_, k3, fun _ e => e.elim, fun g' hg' => by rw [k1] at hg'; cases hg'; exact .inr k2⟩
 have hv1 := hfS.heap hv (fun e => hvr r (hS1 r e) rfl)
 refine ay hv1 (by simp) (aF ho1) ?_
 intro w2 hw2 hs2 hf2
 refine hk w2 ⟨v', hw2, ?_⟩ (hfS.trans hf2 (fun y _ e => .inr ⟨v, hv, hS1 y e⟩) (fun _ _ e => .inl e)) ?_
 ·have := ae ho1 hf2 (fun g _ _ hg e => by
   have e' : g = r := e
   rw [e'] at hg
   rcases hS2 r hg with h1 | h1
   ·exact hvr r h1 rfl
   ·omega)
  rw [List.length_append, bA]; exact this
 ·rintro y (h1 | ⟨v2, hv2, hy⟩)
  ·exact .inl (.inl h1)
  ·replace hw2 : w2.heap[r]? = some (.cells #[v'] 243) := hw2
   rw [hw2] at hv2; cases hv2
   rcases hS2 y hy with h1 | h1
   ·exact .inl (.inr ⟨v, hv, h1⟩)
   ·exact .inr h1
theorem bE (c : Nat) : IntKind.u8.wrap (c : Int) = ((c % 256 : Nat) : Int) := by
 unfold IntKind.wrap; simp [IntKind.bits, IntKind.signed]
def aK (n : Int) : Bs := fp (max n 0).toNat
theorem ku {w : World} {r : Nat} {B : Bs} (h : WrAt w r B) {v : Value} {ns : List Int} (hns : CellsAt w v ns.length 1 (ns.map iv)) (hblk : ns ≠ [] → ∀ g, cd v = some g → ¬ wrM w r g) (hin : ∀ n ∈ ns, n ≤ 9223372036854775807)
  (hl : B.length + 9 * ns.length ≤ 1000000000000) :
  Cl prog 200 [pv r, v] w fun u w' => WrAt w' r (B ++ ns.flatMap aK) ∧ Fm (wrM w r) w w' ∧ ∀ y, wrM w' r y → wrM w r y ∨ w.heap.size ≤ y := by
 refine c200 ?_; unfold T200
 simp only [RS, hns.lenV]
 refine ⟨fun vs w2 => ∃ k : Nat, vs = [iv k] ∧ k ≤ ns.length ∧ WrAt w2 r (B ++ (ns.take k).flatMap aK) ∧ Fm (wrM w r) w w2 ∧ (∀ y, wrM w2 r y → wrM w r y ∨ w.heap.size ≤ y), fun vs _ => (ns.length - nth vs 0).toNat, ⟨0, rfl, by omega, by simpa using h, Fm.refl _ _, fun _ h => .inl h⟩, ?_⟩
 rintro _ w2 ik ⟨k, hvs, hk, h2, hf2, hm2⟩
 cases hvs
 have elen : ∀ n ∈ ns, (aK n).length ≤ 9 := fun n hn => (pT (by have := hin n hn; omega)).2
 have hfl : ∀ l : List Int, (∀ n ∈ l, (aK n).length ≤ 9) → (l.flatMap aK).length ≤ 9 * l.length := by
  intro l
  induction l with
  | nil => intro _; simp
  | cons n l ih =>
   intro hl
   have := ih (fun m hm => hl m (by simp [hm]))
   have := hl n (by simp)
   simp only [List.flatMap_cons, List.length_append, List.length_cons]; omega
 by_cases hlt : k < ns.length
 ·have e1 : decide ((k : Int) < (ns.length : Int)) = true := by rw [decide_eq_true_eq]; omega
  have hx : ns[k]? = some ns[k] := List.getElem?_eq_getElem hlt
  have hmem := List.getElem_mem hlt
  have hxin := hin _ hmem
  have hel := elen _ hmem
  have hpre := hfl (ns.take k) (fun n hn => elen n (List.mem_of_mem_take hn))
  rw [List.length_take, Nat.min_eq_left hk] at hpre
  generalize ns[k] = n at hx hxin hel
  obtain ⟨ad, hix, _, hc⟩ := (hns.keepAny hf2 (fun hne g hg => hblk (fun e => hne (by rw [e]; rfl)) g hg)).at1 (i := k) (x := iv n) (by rw [List.getElem?_map, hx]; rfl) .i64
  have z3 : eV (iv n) (iv 0) = some (iv (max n 0)) := by
   show some (iv (if (0 : Int) > n then 0 else n)) = _
   congr 2
   split <;> omega
  simp only [RS, e1, hix, hc, aU, fO, z3, Option.bind_some]
  obtain ⟨c0, hc0⟩ := Int.eq_ofNat_of_zero_le (show 0 ≤ max n 0 by omega)
  have henc : aK n = fp c0 := by unfold aK; rw [hc0]; rfl
  rw [hc0]
  have hpl : (B ++ (ns.take k).flatMap aK).length ≤ 999999999991 := by rw [List.length_append]; omega
  rw [henc] at hel
  generalize hP : B ++ (ns.take k).flatMap aK = P at h2 hpl
  refine ⟨fun vs w3 => ∃ (c : Nat) (Q : Bs), vs = [iv c] ∧ c ≤ 9223372036854775807 ∧ WrAt w3 r Q ∧ Q ++ fp c = P ++ fp c0 ∧ Fm (wrM w r) w w3 ∧ (∀ y, wrM w3 r y → wrM w r y ∨ w.heap.size ≤ y), fun vs _ => (nth vs 0).toNat, ⟨c0, P, rfl, by omega, h2, rfl, hf2, hm2⟩, ?_⟩
  rintro _ w3 ic ⟨c, Q, hvs, hcm, h3, hQ, hf3, hm3⟩
  cases hvs
  have hQl : Q.length ≤ 1000000000000 := by
   have := congrArg List.length hQ
   rw [List.length_append, List.length_append] at this
   omega
  by_cases hbig : 127 < c
  ·have e2 : decide ((127 : Int) < (c : Int)) = true := by rw [decide_eq_true_eq]; omega
   have e3 : cvI .u8 (iv c) = some (.int .u8 ((c % 256 : Nat) : Int)) := by rw [← bE]; rfl
   have e4 : orI .u8 ((c % 256 : Nat) : Int) 128 = (((UInt8.ofNat (c % 128 + 128)).toNat : Nat) : Int) := by
    have := wt (c % 256) 128 (by omega) (by decide)
    rw [wF (by omega), Nat.mod_mod_of_dvd c (by decide)] at this
    rw [de (by omega)]; exact this
   have e5 := pY c 7 (by omega) (TypeDesc.int .i64) .u64
   simp only [RS, e2, e3, qi, e4]
   have key := wX h3 (by omega) (UInt8.ofNat (c % 128 + 128)) (k := fun u_83 w_84 => Pu (aa (TypeDesc.int .i64) .shr (iv c) (Value.int .u64 7)) fun t19_85 =>
    (∃ (c : Nat) (Q : Bs), [t19_85] = [iv c] ∧ c ≤ 9223372036854775807 ∧ WrAt w_84 r Q ∧ Q ++ fp c = P ++ fp c0 ∧ Fm (wrM w r) w w_84 ∧ (∀ y, wrM w_84 r y → wrM w r y ∨ w.heap.size ≤ y)) ∧ (nth [t19_85] 0).toNat < (nth [iv (c : Nat)] 0).toNat) (by
     intro w4 h4 hf4 hm4
     have hF4 : Fm (wrM w r) w w4 := hf3.trans hf4 (fun _ _ e => e) (fun y hy e => by rcases hm3 y e with h | h; exact h; omega)
     have hM4 : ∀ y, wrM w4 r y → wrM w r y ∨ w.heap.size ≤ y := fun y hy => by
      rcases hm4 y hy with h | h
      ·exact hm3 y h
      ·have := hf3.size; exact .inr (by omega)
     have e5' : aa (TypeDesc.int .i64) .shr (iv c) (Value.int .u64 7) = some (iv ((c / 2 ^ 7 : Nat) : Int)) := e5
     rw [e5', eg]
     refine ⟨⟨c / 2 ^ 7, _, rfl, by omega, h4, ?_, hF4, hM4⟩, by simp only [bw]; omega⟩
     rw [← hQ, dg hbig, List.append_assoc]; rfl)
   simp only [RS] at key
   exact key
  ·have e2 : decide ((127 : Int) < (c : Int)) = false := by rw [decide_eq_false_iff_not]; omega
   have e3 : cvI .u8 (iv c) = some (.int .u8 (((UInt8.ofNat c).toNat : Nat) : Int)) := by
    rw [de (by omega)]
    have := bE c
    rw [Nat.mod_eq_of_lt (by omega)] at this
    show some (Value.int .u8 (IntKind.u8.wrap (c : Int))) = _
    rw [this]
   have e6 : IntKind.i64.wrap ((k : Int) + 1) = ((k + 1 : Nat) : Int) := by rw [ab] <;> have := hns.lt <;> unfold maxLen at this <;> omega
   simp only [RS, e2, e3]
   have key := wX h3 (by omega) (UInt8.ofNat c) (k := fun u_97 w_98 => Pu (aa (TypeDesc.int .i64) .add (iv (k : Nat)) (Value.int .i64 1)) fun t43_99 =>
    (∃ k : Nat, [t43_99] = [iv k] ∧ k ≤ ns.length ∧ WrAt w_98 r (B ++ (ns.take k).flatMap aK) ∧ Fm (wrM w r) w w_98 ∧ (∀ y, wrM w_98 r y → wrM w r y ∨ w.heap.size ≤ y)) ∧ (ns.length - nth [t43_99] 0).toNat < (ns.length - nth [iv (k : Nat)] 0).toNat) (by
     intro w4 h4 hf4 hm4
     have hF4 : Fm (wrM w r) w w4 := hf3.trans hf4 (fun _ _ e => e) (fun y hy e => by rcases hm3 y e with h | h; exact h; omega)
     have hM4 : ∀ y, wrM w4 r y → wrM w r y ∨ w.heap.size ≤ y := fun y hy => by
      rcases hm4 y hy with h | h
      ·exact hm3 y h
      ·have := hf3.size; exact .inr (by omega)
     rw [mY, eg, e6]
     refine ⟨⟨k + 1, rfl, by omega, ?_, hF4, hM4⟩, by simp only [bw]; omega⟩
     have : B ++ (ns.take (k + 1)).flatMap aK = Q ++ [UInt8.ofNat c] := by
      rw [List.take_add_one, hx, List.flatMap_append, ← List.append_assoc, hP]
      show P ++ ([n].flatMap aK) = _
      rw [List.flatMap_cons, List.flatMap_nil, List.append_nil, henc, ← hQ, bl (by omega)]
     rw [this]; exact h4)
   simp only [RS] at key
   exact key
 ·have hke : k = ns.length := by omega
  subst hke
  have e1 : decide (((ns.length : Nat) : Int) < (ns.length : Int)) = false := by simp
  rw [List.take_length] at h2
  simp only [RS, e1]
  exact ⟨h2, hf2, hm2⟩
structure Rc where
 lsn : Int
 prev : Int
 next : Int
 kind : Int
 xid : Int
 page : Int
 slot : Int
 old : Int
 new : Int
 redo : Int
 data : Bs
 slots : List Int
 more : List Int
 imgs : List (Int × Pg)
 pages : List (Int × Int)
 txns : List (Int × Int)
 deriving DecidableEq
def aO (l : List Int) : Bs := l.flatMap aK
def eA (s : Bs) : Bs := aK s.length ++ s
def bh (l : List Int) : Bs := aK l.length ++ aO l
def cK (s : Bs) : Bs := (s.reverse.dropWhile (· == 0)).reverse
def fK (m : Int × Pg) : Bs := aK m.1 ++ eA (cK (eD m.2).1)
def prB (p : Int × Int) : Bs := aK p.1 ++ aK p.2
def cL (r : Rc) : List Int := [r.lsn, r.prev, r.next, r.kind, r.xid, r.page, r.slot, r.old, r.new, r.redo]
def cl (r : Rc) : Bs := aO (cL r) ++ eA r.data ++ bh r.slots ++ bh r.more ++ aK r.imgs.length ++ r.imgs.flatMap fK ++ aK r.pages.length ++ r.pages.flatMap prB ++ aK r.txns.length ++ r.txns.flatMap prB
def prs (l : List (Int × Int)) : List Int := l.flatMap fun p => [p.1, p.2]
def rNums (r : Rc) : List Int := [r.lsn, r.prev, r.next, r.redo, r.xid, r.page, r.slot, r.old, r.new] ++ r.slots ++ r.more ++ r.imgs.map (·.1) ++ prs r.pages ++ prs r.txns
def da (n : Int) : Bool := decide (n < 0) || decide (4611686018427387904 < n)
def ck : List (Int × Pg) → Int
 | [] => 0
 | m :: l => bif decide (pErr m.2 = 0) then ck l else pErr m.2
def cJ (r : Rc) : Bs × Int := bif decide (ck r.imgs = 0) then (bif decide (65535 < (cl r).length) then ([], 3) else (cl r, 0)) else ([], ck r.imgs)
def bO (r : Rc) : Bool := decide (512 < r.data.length) || decide (255 < r.slots.length) || decide (255 < r.more.length) || decide (4 < r.imgs.length) || decide (8192 < r.pages.length) || decide (1024 < r.txns.length)
def rCheck (r : Rc) : Bs × Int :=
 bif decide (r.kind < 1) || decide (13 < r.kind) then ([], 41)
 else bif decide (r.lsn < 1) || (rNums r).any da then ([], 4)
 else bif bO r then ([], 3) else cJ r
def rEnc (r : Rc) : Bs × Int := bif decide ((rCheck r).2 = 0) then (beN 4 (rCheck r).1.length ++ beN 4 (crc (rCheck r).1) ++ (rCheck r).1, 0) else ([], (rCheck r).2)
abbrev St2 := Bs × Int
def rn (most : Int) (st : St2) : Int × St2 := mj most st.1 st.2
def rt (most : Int) (st : St2) : Bs × St2 :=
 bif decide ((rn most st).2.2 = 0) then (bif decide (((rn most st).2.1.length : Int) < (rn most st).1) then ([], ([], 10)) else ((rn most st).2.1.take (rn most st).1.toNat, ((rn most st).2.1.drop (rn most st).1.toNat, 0))) else ([], (rn most st).2)
def mf : Nat → St2 → List Int × St2
 | 0, st => ([], st)
 | n + 1, st => bif decide ((rn 4611686018427387904 st).2.2 = 0) then ((rn 4611686018427387904 st).1 :: (mf n (rn 4611686018427387904 st).2).1, (mf n (rn 4611686018427387904 st).2).2) else ([(rn 4611686018427387904 st).1], (rn 4611686018427387904 st).2)
def rl (most : Int) (st : St2) : List Int × St2 := mf (rn most st).1.toNat (rn most st).2
def fN (t : Bs) : Bs := t ++ aG (512 - t.length)
def oJ : Nat → St2 → Option (List (Int × Pg) × St2)
 | 0, st => some ([], st)
 | n + 1, st => bif decide ((cP (fN (rt 512 (rn 4611686018427387904 st).2).1)).2 = 0) && decide ((rt 512 (rn 4611686018427387904 st).2).2.2 = 0) then (oJ n (rt 512 (rn 4611686018427387904 st).2).2).map fun r => (((rn 4611686018427387904 st).1, (cP (fN (rt 512 (rn 4611686018427387904 st).2).1)).1) :: r.1, r.2) else none
def jI : Nat → St2 → Option (List (Int × Int) × St2)
 | 0, st => some ([], st)
 | n + 1, st => bif decide (st.2 = 0) then (jI n (rn 4611686018427387904 (rn 4611686018427387904 st).2).2).map fun r => (((rn 4611686018427387904 st).1, (rn 4611686018427387904 (rn 4611686018427387904 st).2).1) :: r.1, r.2) else none
def ten (s : Bs) : List Int × St2 :=
 let a0 := rn 4611686018427387904 (s, 0)
 let a1 := rn 4611686018427387904 a0.2
 let a2 := rn 4611686018427387904 a1.2
 let a3 := rn 13 a2.2
 let a4 := rn 4611686018427387904 a3.2
 let a5 := rn 4611686018427387904 a4.2
 let a6 := rn 4611686018427387904 a5.2
 let a7 := rn 4611686018427387904 a6.2
 let a8 := rn 4611686018427387904 a7.2
 let a9 := rn 4611686018427387904 a8.2
 ([a0.1, a1.1, a2.1, a3.1, a4.1, a5.1, a6.1, a7.1, a8.1, a9.1], a9.2)
def gI (l : List Int) (i : Nat) : Int := l.getD i 0
def nS (a : List Int) (st : St2) : Option Rc :=
 let t := rt 512 st
 let sl := rl 255 t.2
 let mo := rl 255 sl.2
 let ni := rn 4 mo.2
 (oJ ni.1.toNat ni.2).bind fun im =>
 (jI (rn 8192 im.2).1.toNat (rn 8192 im.2).2).bind fun pg =>
 (jI (rn 1024 pg.2).1.toNat (rn 1024 pg.2).2).bind fun tx =>
 bif decide (uC tx.2.1 tx.2.2 = 0) then some ⟨gI a 0, gI a 1, gI a 2, gI a 3, gI a 4, gI a 5, gI a 6, gI a 7, gI a 8, gI a 9, t.1, sl.1, mo.1, im.1, pg.1, tx.1⟩ else none
def cg (s : Bs) : Option Rc := nS (ten s).1 (ten s).2
def cA (d : Bs) : Option Rc × Nat × Int :=
 bif decide (d.length < 8) then (none, 0, 40)
 else bif decide (ofN (d.take 4) = 0) || decide (65535 < ofN (d.take 4)) then (none, 0, 41)
 else bif decide (d.length < 8 + ofN (d.take 4)) then (none, 0, 40)
 else bif !decide (ofN ((d.drop 4).take 4) = crc ((d.drop 8).take (ofN (d.take 4)))) then (none, 0, 30)
 else match cg ((d.drop 8).take (ofN (d.take 4))) with
  | none => (none, 0, 41)
  | some x => bif decide ((rCheck x).2 = 0) && decide ((rCheck x).1 = (d.drop 8).take (ofN (d.take 4))) then (some x, 8 + ofN (d.take 4), 0) else (none, 0, 41)
def okN (n : Int) : Prop := 0 ≤ n ∧ n ≤ 4611686018427387904
theorem mL (n : Nat) : aK n = fp n := by
 unfold aK; rw [show (max (n : Int) 0).toNat = n by omega]
theorem dR {n most : Int} (h0 : 0 ≤ n) (h1 : n ≤ most) (hm : most ≤ 4611686018427387904) (t : Bs) : rn most (aK n ++ t, 0) = (n, (t, 0)) := by
 obtain ⟨k, rfl⟩ := Int.eq_ofNat_of_zero_le h0
 unfold rn mj
 rw [decide_eq_true rfl, cond_true, mL]
 have := po most 9 0 k 0 t (by omega) (by omega) (by omega) (by simp only [Nat.pow_zero, Nat.mul_one, Nat.zero_add]; omega)
 simp only [Nat.pow_zero, Nat.mul_one, Nat.zero_add] at this
 exact this
theorem sk {s : Bs} {most : Int} (h1 : (s.length : Int) ≤ most) (hm : most ≤ 4611686018427387904) (t : Bs) : rt most (eA s ++ t, 0) = (s, (t, 0)) := by
 have := dR (n := s.length) (most := most) (by omega) h1 hm (s ++ t)
 unfold rt eA
 rw [List.append_assoc, this]
 simp only [decide_true, cond_true]
 rw [decide_eq_false (by rw [List.length_append]; omega), cond_false, Int.toNat_natCast, List.take_left, List.drop_left]
theorem nc : ∀ (l : List Int) (t : Bs), (∀ n ∈ l, okN n) → mf l.length (aO l ++ t, 0) = (l, (t, 0))
 | [], t, _ => rfl
 | n :: l, t, h => by
  have h0 := h n (by simp)
  have ih := nc l t (fun m hm => h m (by simp [hm]))
  have e : aO (n :: l) ++ t = aK n ++ (aO l ++ t) := by simp [aO]
  rw [List.length_cons, mf, e, dR h0.1 h0.2 (Int.le_refl _)]
  simp only [decide_true, cond_true]
  rw [ih]
theorem sr {l : List Int} {most : Int} (h1 : (l.length : Int) ≤ most) (hm : most ≤ 4611686018427387904) (h : ∀ n ∈ l, okN n) (t : Bs) : rl most (bh l ++ t, 0) = (l, (t, 0)) := by
 unfold rl bh
 rw [List.append_assoc, dR (by omega) h1 hm]
 simp only [Int.toNat_natCast]
 exact nc l t h
theorem fu {s : Bs} (h : s.length = 512) : fN (cK s) = s ∧ (cK s).length ≤ 512 := by
 have key : ∀ l : Bs, ∃ n, l = List.replicate n 0 ++ l.dropWhile (· == 0) := by
  intro l
  induction l with
  | nil => exact ⟨0, rfl⟩
  | cons x l ih =>
   rw [List.dropWhile_cons]
   by_cases hx : x = 0
   ·subst hx
    obtain ⟨n, hn⟩ := ih
    refine ⟨n + 1, ?_⟩
    simp only [beq_self_eq_true, if_true, List.replicate_succ, List.cons_append]
    rw [← hn]
   ·refine ⟨0, ?_⟩
    rw [if_neg (by simpa using hx)]; rfl
 obtain ⟨n, hn⟩ := key s.reverse
 have h1 : s = cK s ++ aG n := by
  have := congrArg List.reverse hn
  rw [List.reverse_reverse, List.reverse_append, List.reverse_replicate] at this
  exact this
 have hl := congrArg List.length h1
 rw [List.length_append, bx] at hl
 refine ⟨?_, by omega⟩
 unfold fN
 rw [show 512 - (cK s).length = n by omega]
 exact h1.symm
theorem qu {l : List (Int × Pg)} (h : ck l = 0) : ∀ m ∈ l, pErr m.2 = 0 := by
 induction l with
 | nil => intro m hm; cases hm
 | cons x l ih =>
  unfold ck at h
  cases hx : decide (pErr x.2 = 0) with
  | true =>
   rw [hx, cond_true] at h
   intro m hm
   rcases List.mem_cons.1 hm with rfl | hm
   ·simpa using hx
   ·exact ih h m hm
  | false =>
   rw [hx, cond_false] at h
   rw [decide_eq_false_iff_not] at hx
   exact absurd h hx
theorem nM : ∀ (l : List (Int × Pg)) (t : Bs), (∀ m ∈ l, okN m.1 ∧ pErr m.2 = 0 ∧ m.2.lsn ≤ 9223372036854775807) → oJ l.length (l.flatMap fK ++ t, 0) = some (l, (t, 0))
 | [], t, _ => rfl
 | m :: l, t, h => by
  obtain ⟨h0, h1, h2⟩ := h m (by simp)
  have ih := nM l t (fun m hm => h m (by simp [hm]))
  have e : (m :: l).flatMap fK ++ t = aK m.1 ++ (eA (cK (eD m.2).1) ++ (l.flatMap fK ++ t)) := by simp [fK]
  obtain ⟨e1, e2⟩ := fu (el h1)
  rw [List.length_cons, oJ, e, dR h0.1 h0.2 (Int.le_refl _)]
  simp only
  rw [sk (by omega) (by omega)]
  simp only
  rw [e1, mn h1 h2, ih]
  rfl
theorem jE : ∀ (l : List (Int × Int)) (t : Bs), (∀ m ∈ l, okN m.1 ∧ okN m.2) → jI l.length (l.flatMap prB ++ t, 0) = some (l, (t, 0))
 | [], t, _ => rfl
 | m :: l, t, h => by
  obtain ⟨h0, h1⟩ := h m (by simp)
  have ih := jE l t (fun m hm => h m (by simp [hm]))
  have e : (m :: l).flatMap prB ++ t = aK m.1 ++ (aK m.2 ++ (l.flatMap prB ++ t)) := by simp [prB]
  rw [List.length_cons, jI, e, dR h0.1 h0.2 (Int.le_refl _)]
  simp only
  rw [dR h1.1 h1.2 (Int.le_refl _), ih]
  rfl
structure Good (r : Rc) : Prop where
 kind : 1 ≤ r.kind ∧ r.kind ≤ 13
 nums : ∀ n ∈ rNums r, okN n
 data : r.data.length ≤ 512
 slots : r.slots.length ≤ 255
 more : r.more.length ≤ 255
 imgs : r.imgs.length ≤ 4
 pages : r.pages.length ≤ 8192
 txns : r.txns.length ≤ 1024
 img : ∀ m ∈ r.imgs, pErr m.2 = 0
 lsns : ∀ m ∈ r.imgs, m.2.lsn ≤ 9223372036854775807
theorem sO {n : Int} (h : da n = false) : okN n := by
 unfold da at h
 rw [Bool.or_eq_false_iff, decide_eq_false_iff_not, decide_eq_false_iff_not] at h
 unfold okN; omega
theorem cG {r : Rc} (h : (rCheck r).2 = 0) (hl : ∀ m ∈ r.imgs, m.2.lsn ≤ 9223372036854775807) : Good r ∧ 1 ≤ r.lsn ∧ (rCheck r).1 = cl r ∧ (cl r).length ≤ 65535 := by
 unfold rCheck at h ⊢
 cases h1 : decide (r.kind < 1) || decide (13 < r.kind) with
 | true => rw [h1, cond_true] at h; cases h
 | false =>
 rw [h1, cond_false] at h
 cases h2 : decide (r.lsn < 1) || (rNums r).any da with
 | true => rw [h2, cond_true] at h; cases h
 | false =>
 rw [h2, cond_false] at h
 cases h3 : bO r with
 | true => rw [h3, cond_true] at h; cases h
 | false =>
 rw [h3, cond_false] at h
 simp only [cond_false]
 unfold cJ at h ⊢
 cases h4 : decide (ck r.imgs = 0) with
 | false =>
  rw [h4, cond_false] at h
  rw [decide_eq_false_iff_not] at h4
  exact absurd h h4
 | true =>
 rw [h4, cond_true] at h
 cases h5 : decide (65535 < (cl r).length) with
 | true => rw [h5, cond_true] at h; cases h
 | false =>
 simp only [cond_true, cond_false]
 rw [Bool.or_eq_false_iff, decide_eq_false_iff_not, decide_eq_false_iff_not] at h1
 rw [Bool.or_eq_false_iff, decide_eq_false_iff_not] at h2
 simp only [bO, Bool.or_eq_false_iff, decide_eq_false_iff_not] at h3
 rw [decide_eq_true_eq] at h4
 rw [decide_eq_false_iff_not] at h5
 refine ⟨⟨by omega, fun n hn => sO ?_, by omega, by omega, by omega, by omega, by omega, by omega, qu h4, hl⟩, by omega, trivial, by omega⟩
 have := List.any_eq_false.1 h2.2 n hn
 simpa using this
theorem bW {l : List (Int × Int)} {p : Int × Int} (h : p ∈ l) : p.1 ∈ prs l ∧ p.2 ∈ prs l := by
 unfold prs
 exact ⟨List.mem_flatMap.2 ⟨p, h, by simp⟩, List.mem_flatMap.2 ⟨p, h, by simp⟩⟩
theorem sX {r : Rc} (h : Good r) (t : Bs) : ten (aO (cL r) ++ t) = (cL r, (t, 0)) := by
 have hn : ∀ n, n ∈ [r.lsn, r.prev, r.next, r.redo, r.xid, r.page, r.slot, r.old, r.new] → okN n := fun n hm => h.nums n (by unfold rNums; simp only [List.mem_append]; exact .inl (.inl (.inl (.inl (.inl hm)))))
 have e : aO (cL r) ++ t = aK r.lsn ++ (aK r.prev ++ (aK r.next ++ (aK r.kind ++ (aK r.xid ++ (aK r.page ++ (aK r.slot ++ (aK r.old ++ (aK r.new ++ (aK r.redo ++ t))))))))) := by simp [aO, cL]
 have hk := h.kind
 have q := fun n hm t => dR (hn n hm).1 (hn n hm).2 (Int.le_refl _) t
 have q0 := q r.lsn (by simp)
 have q1 := q r.prev (by simp)
 have q2 := q r.next (by simp)
 have q4 := q r.xid (by simp)
 have q5 := q r.page (by simp)
 have q6 := q r.slot (by simp)
 have q7 := q r.old (by simp)
 have q8 := q r.new (by simp)
 have q9 := q r.redo (by simp)
 have q3 : ∀ t, rn 13 (aK r.kind ++ t, 0) = (r.kind, (t, 0)) := fun t => dR (by omega) hk.2 (by omega) t
 rw [e]
 simp only [ten, q0, q1, q2, q3, q4, q5, q6, q7, q8, q9]
 rfl
theorem ly {r : Rc} (h : Good r) : cg (cl r) = some r := by
 have e : cl r = aO (cL r) ++ (eA r.data ++ (bh r.slots ++ (bh r.more ++ (aK (r.imgs.length : Int) ++ (r.imgs.flatMap fK ++ (aK (r.pages.length : Int) ++ (r.pages.flatMap prB ++ (aK (r.txns.length : Int) ++ (r.txns.flatMap prB ++ []))))))))) := by simp [cl]
 have hd := h.data
 have hs := h.slots
 have hm := h.more
 have hi := h.imgs
 have hp := h.pages
 have ht := h.txns
 unfold cg
 rw [e, sX h]
 simp only [nS]
 rw [sk (by omega) (by omega)]
 simp only
 rw [sr (by omega) (by omega) (fun n hn => h.nums n (by unfold rNums; simp only [List.mem_append]; exact .inl (.inl (.inl (.inl (.inr hn))))))]
 simp only
 rw [sr (by omega) (by omega) (fun n hn => h.nums n (by unfold rNums; simp only [List.mem_append]; exact .inl (.inl (.inl (.inr hn)))))]
 simp only
 rw [dR (by omega) (by omega) (by omega)]
 simp only [Int.toNat_natCast]
 rw [nM _ _ (fun m hm => ⟨h.nums _ (by unfold rNums; simp only [List.mem_append]; exact .inl (.inl (.inr (List.mem_map.2 ⟨m, hm, rfl⟩)))), h.img m hm, h.lsns m hm⟩)]
 simp only [Option.bind_some]
 rw [dR (by omega) (by omega) (by omega)]
 simp only [Int.toNat_natCast]
 rw [jE _ _ (fun m hm => ⟨h.nums _ (by unfold rNums; simp only [List.mem_append]; exact .inl (.inr (bW hm).1)), h.nums _ (by unfold rNums; simp only [List.mem_append]; exact .inl (.inr (bW hm).2))⟩)]
 simp only [Option.bind_some]
 rw [dR (by omega) (by omega) (by omega)]
 simp only [Int.toNat_natCast]
 rw [jE _ _ (fun m hm => ⟨h.nums _ (by unfold rNums; simp only [List.mem_append]; exact .inr (bW hm).1), h.nums _ (by unfold rNums; simp only [List.mem_append]; exact .inr (bW hm).2)⟩)]
 rfl
theorem E47 : ElemT prog 23 3 1 8 := cB Tryz.underlying23 (by kernel_rfl)
theorem dq {w : World} {ad : Addr} {l : List Value} {n : Nat} (hl : l.length = n) (h : ∀ j, j < n → w.cell? (ad.add j) = l[j]?) : aP w ad n = some (.agg l.toArray) := by
 have key : ∀ (m j : Nat), j + m ≤ n → aE w ad j m = some ((l.drop j).take m) := by
  intro m
  induction m with
  | zero => intro j hj; simp [aE]
  | succ m ih =>
   intro j hj
   have hlt : j < l.length := by omega
   have hcell := h j (by omega)
   rw [List.getElem?_eq_getElem hlt] at hcell
   simp only [aE, hcell, ih (j + 1) (by omega), Option.map_some]
   rw [List.drop_eq_getElem_cons hlt, List.take_succ_cons]
 unfold aP
 rw [key n 0 (by omega)]
 simp only [List.drop_zero, Option.map_some]
 rw [List.take_of_length_le (by omega)]
theorem nA {α : Type} {f : α → List Value} {n : Nat} (hf : ∀ x, (f x).length = n) {L : List α} {i : Nat} {x : α} (h : L[i]? = some x) {j : Nat} (hj : j < n) : (L.flatMap f)[i * n + j]? = (f x)[j]? := by
 induction L generalizing i with
 | nil => simp at h
 | cons y L ih =>
  rw [List.flatMap_cons]
  cases i with
  | zero =>
   simp at h; subst h
   rw [Nat.zero_mul, Nat.zero_add, List.getElem?_append_left (by rw [hf]; exact hj)]
  | succ i =>
   rw [List.getElem?_append_right (by rw [hf, Nat.succ_mul]; omega), hf, Nat.succ_mul]
   rw [show i * n + n + j - n = i * n + j by omega]
   exact ih (by simpa using h)
theorem flat_len {α : Type} {f : α → List Value} {n : Nat} (hf : ∀ x, (f x).length = n) (L : List α) : (L.flatMap f).length = L.length * n := by
 induction L with
 | nil => simp
 | cons y L ih => rw [List.flatMap_cons, List.length_append, hf, ih, List.length_cons, Nat.succ_mul]; omega
theorem bJ {α : Type} {f : α → List Value} {n : Nat} (hf : ∀ x, (f x).length = n) (hn : 0 < n) {w : World} {v : Value} {L : List α} (h : CellsAt w v L.length n (L.flatMap f)) {i : Nat} {x : α} (hx : L[i]? = some x) :
  ∃ ad, ixV n v (iv i) = some (.pointer (some ad)) ∧ aP w ad n = some (.agg (f x).toArray) ∧ cd v = some ad.block := by
 obtain ⟨ad, h1, h2, h3⟩ := h.at hn (List.getElem?_eq_some_iff.1 hx).1 .i64
 exact ⟨ad, h1, dq (hf x) (fun j hj => by rw [h3 j hj, nA hf hx hj]), h2⟩
theorem cZ {w : World} {e : TypeId} {sz base n : Nat} {l : List Value} (hl : l.length = n * sz) (hb : base ≤ w.heap.size) (hn : n ≤ maxLen) : (w.alloc (.cells l.toArray e)).ownsRow base e sz (.slice (some ⟨w.heap.size, 0, none⟩) n n) n l :=
 ⟨hl, .inr ⟨_, n, l.toArray, rfl, hb, az _ _, Nat.le_refl _, hn, by simp [hl], by simp [← hl]⟩⟩
theorem so {w : World} {base base' : Nat} {e : TypeId} {sz : Nat} {v : Value} {n : Nat} {xs : List Value} (h : w.ownsRow base e sz v n xs) (hb : ∀ k, v.ownBlock = some k → base' ≤ k) : w.ownsRow base' e sz v n xs := by
 refine ⟨h.1, ?_⟩
 rcases h.2 with h2 | ⟨g, cap, cur, rfl, hb', r⟩
 ·exact .inl h2
 ·exact .inr ⟨g, cap, cur, rfl, hb g rfl, r⟩
def pc2 (p : Int × Int) : List Value := [iv p.1, iv p.2]
theorem bj (p : Int × Int) : (pc2 p).length = 2 := rfl
theorem pt (l : List (Int × Int)) : l.flatMap pc2 = (prs l).map iv := by
 induction l with
 | nil => rfl
 | cons p l ih => rw [List.flatMap_cons, ih]; rfl
def imC (x : Int × Pg × Value) : List Value := iv x.1 :: (pcs x.2.1 x.2.2).toList
theorem kd (x : Int × Pg × Value) : (imC x).length = 7 := rfl
def rcs (r : Rc) (vs vm vi vp vt : Value) : Array Value := #[iv r.lsn, iv r.prev, iv r.next, .int .u8 r.kind, iv r.xid, iv r.page, iv r.slot, iv r.old, iv r.new, iv r.redo, stv r.data, vs, vm, vi, vp, vt]
structure ImAs (w : World) (v : Value) (L : List (Int × Pg)) : Prop where
 ex : ∃ X : List (Int × Pg × Value), X.map (fun x => (x.1, x.2.1)) = L ∧ CellsAt w v X.length 7 (X.flatMap imC) ∧ ∀ x ∈ X, x.2.2.oneCell' = true ∧ PgAs w (pcs x.2.1 x.2.2) x.2.1
theorem ImAs.keep {w w' : World} {v : Value} {L : List (Int × Pg)} (h : ImAs w v L) (hf : Fm (fun _ => False) w w') : ImAs w' v L := by
 obtain ⟨X, h1, h2, h3⟩ := h.ex
 exact ⟨X, h1, h2.keep hf (fun _ _ e => e), fun x hx => ⟨(h3 x hx).1, (h3 x hx).2.keep hf⟩⟩
theorem ImAs.lenV {w : World} {v : Value} {L : List (Int × Pg)} (h : ImAs w v L) : lenV v = some (iv L.length) := by
 obtain ⟨X, h1, h2, h3⟩ := h.ex
 rw [← h1, List.length_map]; exact h2.lenV
theorem ImAs.ld {w : World} {v : Value} {L : List (Int × Pg)} (h : ImAs w v L) {i : Nat} {m : Int × Pg} (hi : L[i]? = some m) : ∃ ad u, ixV 7 v (iv i) = some (.pointer (some ad)) ∧ aP w ad 7 = some (.agg (imC (m.1, m.2, u)).toArray) ∧ u.oneCell' = true ∧ PgAs w (pcs m.2 u) m.2 := by
 obtain ⟨X, h1, h2, h3⟩ := h.ex
 rw [← h1, List.getElem?_map, Option.map_eq_some_iff] at hi
 obtain ⟨x, hx, rfl⟩ := hi
 obtain ⟨ad, q1, q2, _⟩ := bJ kd (by omega) h2 hx
 obtain ⟨q3, q4⟩ := h3 x (List.mem_of_getElem? hx)
 exact ⟨ad, x.2.2, q1, q2, q3, q4⟩
structure RcAs (w : World) (cs : Array Value) (r : Rc) : Prop where
 ex : ∃ vs vm vi vp vt, cs = rcs r vs vm vi vp vt ∧ (vs.oneCell' = true ∧ vm.oneCell' = true ∧ vi.oneCell' = true ∧ vp.oneCell' = true ∧ vt.oneCell' = true) ∧ CellsAt w vs r.slots.length 1 (r.slots.map iv) ∧ CellsAt w vm r.more.length 1 (r.more.map iv) ∧ ImAs w vi r.imgs ∧
  CellsAt w vp r.pages.length 2 (r.pages.flatMap pc2) ∧ CellsAt w vt r.txns.length 2 (r.txns.flatMap pc2)
 ins : ∀ n ∈ rNums r, In n
 kin : 0 ≤ r.kind ∧ r.kind ≤ 255
 data : r.data.length ≤ 140737488355328
 bulk : r.slots.length + r.more.length + r.imgs.length + r.pages.length + r.txns.length ≤ 2000000
 lsns : ∀ m ∈ r.imgs, m.2.lsn ≤ 9223372036854775807
theorem RcAs.keep {w w' : World} {cs : Array Value} {r : Rc} (h : RcAs w cs r) (hf : Fm (fun _ => False) w w') : RcAs w' cs r := by
 obtain ⟨vs, vm, vi, vp, vt, h1, h2, h3, h4, h5, h6, h7⟩ := h.ex
 exact ⟨⟨vs, vm, vi, vp, vt, h1, h2, h3.keep hf (fun _ _ e => e), h4.keep hf (fun _ _ e => e), h5.keep hf, h6.keep hf (fun _ _ e => e), h7.keep hf (fun _ _ e => e)⟩, h.ins, h.kin, h.data, h.bulk, h.lsns⟩
theorem RcAs.size {w : World} {cs : Array Value} {r : Rc} (h : RcAs w cs r) : cs.size = 16 := by obtain ⟨vs, vm, vi, vp, vt, rfl, _⟩ := h.ex; rfl
theorem RcAs.one {w : World} {cs : Array Value} {r : Rc} (h : RcAs w cs r) : ∀ u ∈ cs.toList, u.oneCell' = true := by
 obtain ⟨vs, vm, vi, vp, vt, rfl, ⟨h1, h2, h3, h4, h5⟩, _⟩ := h.ex
 intro u hu
 simp [rcs] at hu
 rcases hu with rfl | rfl | rfl | rfl | rfl | rfl | rfl | rfl | rfl | rfl | rfl | rfl | rfl | rfl | rfl | rfl <;> first | rfl | assumption
structure RB (w : World) (g : Nat) (r : Rc) (vs vm vi vp vt : Value) : Prop where
 h : w.heap[g]? = some (.cells (rcs r vs vm vi vp vt) 28)
section
variable {S : Nat → Prop} {w w' : World} {g : Nat} {r : Rc} {vs vm vi vp vt : Value}
theorem RB.keep (h : RB w g r vs vm vi vp vt) (hf : Fm S w w') (hs : ¬ S g) : RB w' g r vs vm vi vp vt := ⟨hf.heap h.h hs⟩
theorem RB.c0 (h : RB w g r vs vm vi vp vt) : w.cell? ⟨g, 0, none⟩ = some (iv r.lsn) := by rw [ag h.h]; rfl
theorem RB.c1 (h : RB w g r vs vm vi vp vt) : w.cell? ⟨g, 1, none⟩ = some (iv r.prev) := by rw [ag h.h]; rfl
theorem RB.c2 (h : RB w g r vs vm vi vp vt) : w.cell? ⟨g, 2, none⟩ = some (iv r.next) := by rw [ag h.h]; rfl
theorem RB.c3 (h : RB w g r vs vm vi vp vt) : w.cell? ⟨g, 3, none⟩ = some (.int .u8 r.kind) := by rw [ag h.h]; rfl
theorem RB.c4 (h : RB w g r vs vm vi vp vt) : w.cell? ⟨g, 4, none⟩ = some (iv r.xid) := by rw [ag h.h]; rfl
theorem RB.c5 (h : RB w g r vs vm vi vp vt) : w.cell? ⟨g, 5, none⟩ = some (iv r.page) := by rw [ag h.h]; rfl
theorem RB.c6 (h : RB w g r vs vm vi vp vt) : w.cell? ⟨g, 6, none⟩ = some (iv r.slot) := by rw [ag h.h]; rfl
theorem RB.c7 (h : RB w g r vs vm vi vp vt) : w.cell? ⟨g, 7, none⟩ = some (iv r.old) := by rw [ag h.h]; rfl
theorem RB.c8 (h : RB w g r vs vm vi vp vt) : w.cell? ⟨g, 8, none⟩ = some (iv r.new) := by rw [ag h.h]; rfl
theorem RB.c9 (h : RB w g r vs vm vi vp vt) : w.cell? ⟨g, 9, none⟩ = some (iv r.redo) := by rw [ag h.h]; rfl
theorem RB.c10 (h : RB w g r vs vm vi vp vt) : w.cell? ⟨g, 10, none⟩ = some (stv r.data) := by rw [ag h.h]; rfl
theorem RB.c11 (h : RB w g r vs vm vi vp vt) : w.cell? ⟨g, 11, none⟩ = some vs := by rw [ag h.h]; rfl
theorem RB.c12 (h : RB w g r vs vm vi vp vt) : w.cell? ⟨g, 12, none⟩ = some vm := by rw [ag h.h]; rfl
theorem RB.c13 (h : RB w g r vs vm vi vp vt) : w.cell? ⟨g, 13, none⟩ = some vi := by rw [ag h.h]; rfl
theorem RB.c14 (h : RB w g r vs vm vi vp vt) : w.cell? ⟨g, 14, none⟩ = some vp := by rw [ag h.h]; rfl
theorem RB.c15 (h : RB w g r vs vm vi vp vt) : w.cell? ⟨g, 15, none⟩ = some vt := by rw [ag h.h]; rfl
theorem RB.all (h : RB w g r vs vm vi vp vt) : aP w ⟨g, 0, none⟩ 16 = some (.agg (rcs r vs vm vi vp vt)) := ax h.h rfl
theorem RB.lt (h : RB w g r vs vm vi vp vt) : g < w.heap.size := aq h.h
end
structure WS (w0 w : World) (r : Nat) (B : Bs) : Prop where
 ex : ∃ v, w.heap[r]? = some (.cells #[v] 243) ∧ w.ownsRow w0.heap.size 5 1 v B.length (bc B)
 fm : Fm (fun _ => False) w0 w
 ge : w0.heap.size ≤ r
theorem WS.wr {w0 w : World} {r : Nat} {B : Bs} (h : WS w0 w r B) : WrAt w r B ∧ ∀ y, wrM w r y → w0.heap.size ≤ y ∧ y < w.heap.size := by
 obtain ⟨v, hv, ho⟩ := h.ex
 refine ⟨⟨v, hv, aW ho (Nat.zero_le _)⟩, ?_⟩
 rintro y (rfl | ⟨v', hv', hy⟩)
 ·exact ⟨h.ge, aq hv⟩
 ·rw [hv] at hv'; cases hv'; exact aX ho y hy
theorem WS.of {w0 w w' : World} {r : Nat} {B B' : Bs} {S : Nat → Prop} (h : WS w0 w r B) (h' : WrAt w' r B') (hf : Fm S w w') (hS : ∀ y, S y → w0.heap.size ≤ y) (hM : ∀ y, wrM w' r y → wrM w r y ∨ w.heap.size ≤ y) : WS w0 w' r B' := by
 obtain ⟨v, hv, ho⟩ := h'.ex
 have hz := h.fm.size
 refine ⟨⟨v, hv, so ho (fun k hk => ?_)⟩, Fm.own h.fm hf hS, h.ge⟩
 rcases hM k (.inr ⟨v, hv, hk⟩) with e | e
 ·exact (h.wr.2 k e).1
 ·omega
theorem WS.keep {w0 w w' : World} {r : Nat} {B : Bs} (h : WS w0 w r B) (hf : Fm (fun _ => False) w w') : WS w0 w' r B := by
 obtain ⟨v, hv, ho⟩ := h.ex
 exact ⟨⟨v, hf.heap hv (fun e => e), ae ho hf (fun _ _ _ _ e => e)⟩, Fmf h.fm hf, h.ge⟩
theorem WS.new {w0 w : World} (hf : Fm (fun _ => False) w0 w) {k : KV} (hk : ∀ w' r, WS w0 w' r [] → Fm (fun _ => False) w w' → k (pv r) w') : Cl prog 199 [] w k := by
 refine (pX w).mono ?_
 rintro _ w' ⟨rfl, h1, h2, h3⟩
 have hz := hf.size
 obtain ⟨v, hv, ho⟩ := h1.ex
 refine hk w' _ ⟨⟨v, hv, so ho (fun k hk => ?_)⟩, Fmf hf h3, hz⟩ h3
 have := h2 k (.inr ⟨v, hv, hk⟩)
 omega
theorem WS.num {w0 w : World} {r : Nat} {B : Bs} (h : WS w0 w r B) {v : Value} {ns : List Int} (hns : CellsAt w v ns.length 1 (ns.map iv)) (hb : ns ≠ [] → ∀ g, cd v = some g → g < w0.heap.size) (hin : ∀ n ∈ ns, n ≤ 9223372036854775807) (hl : B.length + 9 * ns.length ≤ 1000000000000) {k : KV}
  (hk : ∀ u w', WS w0 w' r (B ++ aO ns) → k u w') : Cl prog 200 [pv r, v] w k := by
 obtain ⟨hw, hm⟩ := h.wr
 refine (ku hw hns (fun hne g hg e => by have := hb hne g hg; have := (hm g e).1; omega) hin hl).mono ?_
 rintro u w' ⟨h1, h2, h3⟩
 exact hk u w' (h.of h1 h2 (fun y hy => (hm y hy).1) h3)
theorem WS.lit {w0 w : World} {r n : Nat} {B : Bs} (h : WS w0 w r B) {ns : List Int} {items : Array (Nat × Value)} (hb : (Instr.buildSlice 23 n items).run prog w = .ok (.slice (some ⟨w.heap.size, 0, none⟩) n n) (w.alloc (.cells (ns.map iv).toArray 3))) (hn : ns.length = n) (hin : ∀ n ∈ ns, n ≤ 9223372036854775807) (hl : B.length + 9 * n ≤ 1000000000000) {k : KV}
  (hk : ∀ u w', WS w0 w' r (B ++ aO ns) → k u w') : RunS prog (Instr.buildSlice 23 n items) w fun t w1 => Cl prog 200 [pv r, t] w1 k := by
 refine af hb ?_
 subst hn
 have hf := Fm.alloc (fun _ => False) w (.cells (ns.map iv).toArray 3)
 have ho := cZ (w := w) (e := 3) (sz := 1) (base := w.heap.size) (n := ns.length) (l := ns.map iv) (by simp) (Nat.le_refl _) (by unfold maxLen; omega)
 have h1 := h.keep hf
 obtain ⟨hw, hm⟩ := h.wr
 generalize w.alloc (.cells (ns.map iv).toArray 3) = w1 at hf ho h1
 obtain ⟨hw1, hm1⟩ := h1.wr
 have hsame : ∀ y, wrM w1 r y → y < w.heap.size := fun y hy => by
  obtain ⟨_, e⟩ := hw.keep hf (fun _ _ e => e)
  exact hw.lt y ((e y).1 hy)
 refine (ku hw1 (CellsAt.of_own ho) (fun hne g hg e => ?_) hin hl).mono ?_
 ·have h0 := hsame g e
  have h1 : g = w.heap.size := (Option.some.inj hg).symm
  omega
 ·rintro u w' ⟨g1, g2, g3⟩
  exact hk u w' (h1.of g1 g2 (fun y hy => (hm1 y hy).1) g3)
theorem cF (a : Int) (w : World) : (Instr.buildSlice 23 1 #[(0, iv a)]).run prog w = .ok (.slice (some ⟨w.heap.size, 0, none⟩) 1 1) (w.alloc (.cells ([a].map iv).toArray 3)) := by kernel_rfl
theorem je (a b : Int) (w : World) : (Instr.buildSlice 23 2 #[(0, iv a), (1, iv b)]).run prog w = .ok (.slice (some ⟨w.heap.size, 0, none⟩) 2 2) (w.alloc (.cells ([a, b].map iv).toArray 3)) := by kernel_rfl
theorem se (a b c d e f g h i : Int) (w : World) : (Instr.buildSlice 23 9 #[(0, iv a), (1, iv b), (2, iv c), (3, iv d), (4, iv e), (5, iv f), (6, iv g), (7, iv h), (8, iv i)]).run prog w = .ok (.slice (some ⟨w.heap.size, 0, none⟩) 9 9) (w.alloc (.cells ([a, b, c, d, e, f, g, h, i].map iv).toArray 3)) := by kernel_rfl
theorem qr (a b c d e f g h i j : Int) (w : World) : (Instr.buildSlice 23 10 #[(0, iv a), (1, iv b), (2, iv c), (3, iv d), (4, iv e), (5, iv f), (6, iv g), (7, iv h), (8, iv i), (9, iv j)]).run prog w = .ok (.slice (some ⟨w.heap.size, 0, none⟩) 10 10) (w.alloc (.cells ([a, b, c, d, e, f, g, h, i, j].map iv).toArray 3)) := by kernel_rfl
theorem cY (a : Int) : aO [a] = aK a := by simp [aO]
theorem aH {n : Int} (h : n ≤ 9223372036854775807) : (aK n).length ≤ 9 := by unfold aK; exact (pT (by omega)).2
theorem ch : ∀ {l : List Int}, (∀ n ∈ l, n ≤ 9223372036854775807) → (aO l).length ≤ 9 * l.length
 | [], _ => by simp [aO]
 | n :: l, h => by
  have := ch (l := l) (fun m hm => h m (by simp [hm]))
  have := aH (h n (by simp))
  unfold aO at *
  rw [List.flatMap_cons, List.length_append, List.length_cons]; omega
theorem WS.text {w0 w : World} {r : Nat} {B : Bs} (h : WS w0 w r B) {s : Bs} (hs : s.length ≤ 1000000) (hl : B.length + 9 + s.length ≤ 1000000000) {k : KV} (hk : ∀ u w', WS w0 w' r (B ++ eA s) → k u w') : Cl prog 201 [pv r, stv s] w k := by
 refine c201 ?_; unfold T201
 simp only [RS, aj]
 refine h.lit (cF _ _) rfl (by intro n hn; simp at hn; omega) (by omega) ?_
 intro u w1 h1
 rw [cY] at h1
 obtain ⟨v, hv, ho⟩ := h1.ex
 have c0 : w1.cell? ⟨r, 0, none⟩ = some v := by rw [ag hv]; rfl
 have hel := aH (n := s.length) (by omega)
 have hz := h1.fm.size
 simp only [RS, c0]
 obtain ⟨v', w2, hr2, ho2, hf2, _⟩ := dH B38 ho s 123 (by rw [List.length_append]; omega) hz
 refine af hr2 ?_
 have hne : v.ownBlock ≠ some r := fun e => by
  rcases ho.2 with ⟨rfl, _⟩ | ⟨g, cap, cur, rfl, _, hg, _⟩
  ·cases e
  ·have : g = r := by simpa [Value.ownBlock] using e
   subst this
   rw [hv] at hg; cases hg
 have hlt := aX ho
 refine ay (hf2.heap hv hne) (by show 0 < 1; decide) (aF ho2) ?_
 intro w3 hw3 hs3 hf3
 replace hw3 : w3.heap[r]? = some (.cells #[v'] 243) := hw3
 have ho3 : w3.ownsRow w0.heap.size 5 1 v' _ _ := ae ho2 hf3 (fun g _ _ hg e => by
  rcases ho2.2 with ⟨rfl, _⟩ | ⟨g', cap, cur, rfl, _, hgg, _⟩
  ·cases hg
  ·have e1 : g' = g := by simpa [Value.ownBlock] using hg
   rw [e1, e] at hgg
   rw [hf2.heap hv hne] at hgg; cases hgg)
 refine hk _ _ ⟨⟨v', hw3, ?_⟩, Fm.own (Fm.own h1.fm hf2 (fun y hy => (hlt y hy).1)) hf3 (by rintro y rfl; exact h1.ge), h1.ge⟩
 have e1 : (B ++ eA s) = (B ++ aK s.length) ++ s := by simp [eA]
 rw [e1]
 have e2 : ((B ++ aK s.length) ++ s).length = (B ++ aK s.length).length + s.length := List.length_append
 rw [e2]
 exact ho3
theorem uT (l : List Int) : ∀ u ∈ l.map iv, u.oneCell' = true := by
 intro u hu
 obtain ⟨n, _, rfl⟩ := List.mem_map.1 hu
 rfl
theorem lP {w : World} {b0 : Nat} {lv v : Value} {L ns : List Int} (ho : w.ownsRow b0 3 1 lv L.length (L.map iv)) (hc : CellsAt w v ns.length 1 (ns.map iv)) (hl : L.length + ns.length ≤ 100000000) (hb : b0 ≤ w.heap.size) :
  ∃ v' w', (Builtin.append_ #[23, 23] 23 #[lv, v]).run prog w = .ok v' w' ∧ w'.ownsRow b0 3 1 v' (L ++ ns).length ((L ++ ns).map iv) ∧ Fm (fun y => b0 ≤ y) w w' := by
 obtain ⟨v', w', hr, ho', hf⟩ := dD E47 (by omega) ho hc (uT ns) 23 (by unfold maxLen; omega) (by omega) hb
 refine ⟨v', w', hr, ?_, hf.mono (fun y _ e => (aX ho y e).1)⟩
 rw [List.length_append, List.map_append]; exact ho'
theorem gO {w : World} {b0 n : Nat} {lv : Value} {L ns : List Int} {items : Array (Nat × Value)} (ho : w.ownsRow b0 3 1 lv L.length (L.map iv)) (hbs : (Instr.buildSlice 23 n items).run prog w = .ok (.slice (some ⟨w.heap.size, 0, none⟩) n n) (w.alloc (.cells (ns.map iv).toArray 3))) (hn : ns.length = n) (hl : L.length + n ≤ 100000000) (hb : b0 ≤ w.heap.size) {k : KV}
  (hk : ∀ v' w', w'.ownsRow b0 3 1 v' (L ++ ns).length ((L ++ ns).map iv) → Fm (fun y => b0 ≤ y) w w' → k v' w') : RunS prog (Instr.buildSlice 23 n items) w fun t w1 => RunS prog (Builtin.append_ #[23, 23] 23 #[lv, t]) w1 k := by
 refine af hbs ?_
 subst hn
 have hf := Fm.alloc (fun _ => False) w (.cells (ns.map iv).toArray 3)
 have hnew := cZ (w := w) (e := 3) (sz := 1) (base := w.heap.size) (n := ns.length) (l := ns.map iv) (by simp) (Nat.le_refl _) (by unfold maxLen; omega)
 have ho1 := ae ho hf (fun _ _ _ _ e => e)
 have hz := hf.size
 generalize w.alloc (.cells (ns.map iv).toArray 3) = w1 at hf hnew ho1 hz
 obtain ⟨v', w', hr, ho', hf'⟩ := lP ho1 (CellsAt.of_own hnew) hl (by omega)
 exact af hr (hk v' w' ho' ((hf.mono (fun _ _ e => e.elim)).trans hf' (fun _ _ e => e) (fun _ _ e => e)))
theorem kQ {w : World} {cs : Array Value} {r : Rc} (h : RcAs w cs r) : Cl prog 156 [.agg cs] w fun v w' => w'.ownsRow w.heap.size 3 1 v (rNums r).length ((rNums r).map iv) ∧ Fm (fun _ => False) w w' := by
 obtain ⟨vs, vm, vi, vp, vt, hcs, _, hs, hm, hi, hp, ht⟩ := h.ex
 have hbulk := h.bulk
 refine c156 ?_; unfold T156
 refine ao ?_
 intro x1 w1 hx1 hs1 hw1 hf1
 have hR1 : RB w1 x1 r vs vm vi vp vt := ⟨by rw [← hcs]; exact hw1⟩
 have hz1 := hf1.size
 simp only [RS, hR1.c0, hR1.c1, hR1.c2, hR1.c4, hR1.c5, hR1.c6, hR1.c7, hR1.c8, hR1.c9]
 refine af (se _ _ _ _ _ _ _ _ _ _) ?_
 have hf2 := Fm.alloc (fun _ => False) w1 (.cells ([r.lsn, r.prev, r.next, r.redo, r.xid, r.page, r.slot, r.old, r.new].map iv).toArray 3)
 have ho2 := cZ (w := w1) (e := 3) (sz := 1) (base := w1.heap.size) (n := 9) (l := [r.lsn, r.prev, r.next, r.redo, r.xid, r.page, r.slot, r.old, r.new].map iv) (by simp) (Nat.le_refl _) (by simp [maxLen])
 have hL : rNums r = [r.lsn, r.prev, r.next, r.redo, r.xid, r.page, r.slot, r.old, r.new] ++ r.slots ++ r.more ++ r.imgs.map (·.1) ++ prs r.pages ++ prs r.txns := rfl
 have h9 : ([r.lsn, r.prev, r.next, r.redo, r.xid, r.page, r.slot, r.old, r.new] : List Int).length = 9 := rfl
 rw [hL]
 replace ho2 : (w1.alloc (.cells ([r.lsn, r.prev, r.next, r.redo, r.xid, r.page, r.slot, r.old, r.new].map iv).toArray 3)).ownsRow w1.heap.size 3 1 (.slice (some ⟨w1.heap.size, 0, none⟩) 9 9) ([r.lsn, r.prev, r.next, r.redo, r.xid, r.page, r.slot, r.old, r.new] : List Int).length ([r.lsn, r.prev, r.next, r.redo, r.xid, r.page, r.slot, r.old, r.new].map iv) := ho2
 generalize w1.alloc (.cells ([r.lsn, r.prev, r.next, r.redo, r.xid, r.page, r.slot, r.old, r.new].map iv).toArray 3) = w2 at hf2 ho2
 generalize ([r.lsn, r.prev, r.next, r.redo, r.xid, r.page, r.slot, r.old, r.new] : List Int) = L9 at ho2 h9
 have hf3 := Fm.drew (fun _ => False) w2
 have hR2 := hR1.keep hf2 (fun e => e)
 have hR3 := hR2.keep hf3 (fun e => e)
 refine ⟨fun w' => w'.cell? ⟨x1, 12, none⟩ = some vm, hR3.c12, ?_⟩
 simp only [RS, hR2.c11, hR3.c11, true_and]
 refine ⟨vm, fun w9 h9 => ?_, ?_⟩
 ·simp only [RS, h9]; trivial
 have ho3 := ae ho2 hf3 (fun _ _ _ _ e => e)
 have hF3 := Fmf hf2 hf3
 generalize w2.drew = w3 at hf3 hR3 ho3 hF3
 have hz3 := hF3.size
 obtain ⟨v4, w4, hr4, ho4, hf4⟩ := lP ho3 (hs.keep (Fmf hf1 hF3) (fun _ _ e => e)) (by omega) hz3
 have hx1lt := hR1.lt
 have hF4 : Fm (fun _ => False) w1 w4 := Fm.own hF3 hf4 (fun y e => e)
 have hR4 := hR1.keep hF4 (fun e => e)
 have hz4 := hF4.size
 refine af hr4 ⟨hR4.c12, ?_⟩
 obtain ⟨v5, w5, hr5, ho5, hf5⟩ := lP ho4 (hm.keep (Fmf hf1 hF4) (fun _ _ e => e)) (by rw [List.length_append]; omega) hz4
 have hF5 : Fm (fun _ => False) w1 w5 := Fm.own hF4 hf5 (fun y e => e)
 have hR5 := hR1.keep hF5 (fun e => e)
 have hz5 := hF5.size
 refine af hr5 ?_
 have hi5 := hi.keep (Fmf hf1 hF5)
 have hl5 : (L9 ++ r.slots ++ r.more).length ≤ 2000009 := by simp only [List.length_append]; omega
 generalize L9 ++ r.slots ++ r.more = L5 at ho5 hl5
 simp only [RS, hR5.c13, hi5.lenV]
 refine ⟨fun vs w' => ∃ (i : Nat) (lv : Value), vs = [lv, iv i] ∧ i ≤ r.imgs.length ∧ w'.ownsRow w1.heap.size 3 1 lv (L5 ++ (r.imgs.take i).map (·.1)).length ((L5 ++ (r.imgs.take i).map (·.1)).map iv) ∧ Fm (fun _ => False) w1 w', fun vs _ => (r.imgs.length - nth vs 1).toNat, ⟨0, v5, rfl, by omega, by simpa using ho5, hF5⟩, ?_⟩
 rintro _ w6 lv iv6 ⟨i, lv', hvs, hile, ho6, hF6⟩
 cases hvs
 have hz6 := hF6.size
 have hti : ((r.imgs.take i).map (·.1)).length = i := by rw [List.length_map, List.length_take]; omega
 by_cases hlt : i < r.imgs.length
 ·have hx : r.imgs[i]? = some r.imgs[i] := List.getElem?_eq_getElem hlt
  generalize r.imgs[i] = m at hx
  obtain ⟨ad, u, hix, hcv, hone, hpg⟩ := (hi.keep (Fmf hf1 hF6)).ld hx
  have d1 : decide ((i : Int) < (r.imgs.length : Int)) = true := by rw [decide_eq_true_eq]; omega
  have e1 : IntKind.i64.wrap ((i : Int) + 1) = ((i + 1 : Nat) : Int) := by rw [ab] <;> omega
  simp only [RS, d1, hix, hcv]
  refine ao ?_
  intro x7 w7 hx7 hs7 hw7 hf7
  refine aB hw7 rfl (kd _) (by intro q hq; simp [imC, pcs] at hq; rcases hq with rfl | rfl | rfl | rfl | rfl | rfl | rfl <;> first | rfl | exact hone) ?_
  intro w8 hw8 hs8 hf8
  have hf68 : Fm (fun _ => False) w6 w8 := Fm.own hf7 hf8 (by rintro y rfl; omega)
  have ho8 := ae ho6 hf68 (fun _ _ _ _ e => e)
  have c8 : w8.cell? ⟨x7, 0, none⟩ = some (iv m.1) := by rw [ag hw8]; rfl
  have hF8 := Fmf hF6 hf68
  have hz8 := hF8.size
  simp only [RS, c8]
  refine gO ho8 (cF _ _) rfl (by rw [List.length_append, hti]; omega) hz8 ?_
  intro v9 w9 ho9 hf9
  simp only [RS, e1]
  refine ⟨⟨i + 1, v9, rfl, by omega, ?_, Fm.own hF8 hf9 (fun y e => e)⟩, by simp only [bM]; omega⟩
  have e2 : L5 ++ (r.imgs.take (i + 1)).map (·.1) = L5 ++ (r.imgs.take i).map (·.1) ++ [m.1] := by rw [List.take_add_one, hx]; simp
  rw [e2]; exact ho9
 ·have hie : i = r.imgs.length := by omega
  subst hie
  have d1 : decide (((r.imgs.length : Nat) : Int) < (r.imgs.length : Int)) = false := by simp
  rw [List.take_length] at ho6
  have hl6 : (L5 ++ r.imgs.map (·.1)).length ≤ 4000009 := by rw [List.length_append, List.length_map]; omega
  generalize L5 ++ r.imgs.map (·.1) = L6 at ho6 hl6
  have hR6 := hR1.keep hF6 (fun e => e)
  have hp6 := hp.keep (Fmf hf1 hF6) (fun _ _ e => e)
  simp only [RS, d1, hR6.c14, hp6.lenV]
  refine ⟨fun vs w' => ∃ (i : Nat) (lv : Value), vs = [lv, iv i] ∧ i ≤ r.pages.length ∧ w'.ownsRow w1.heap.size 3 1 lv (L6 ++ prs (r.pages.take i)).length ((L6 ++ prs (r.pages.take i)).map iv) ∧ Fm (fun _ => False) w1 w', fun vs _ => (r.pages.length - nth vs 1).toNat, ⟨0, lv, rfl, by omega, by simpa [prs] using ho6, hF6⟩, ?_⟩
  rintro _ w7 lv iv7 ⟨i, lv', hvs, hile, ho7, hF7⟩
  cases hvs
  have hz7 := hF7.size
  have hti : (prs (r.pages.take i)).length = i * 2 := by
   have := congrArg List.length (pt (r.pages.take i))
   rw [List.length_map, flat_len bj, List.length_take, Nat.min_eq_left hile] at this
   omega
  by_cases hlt : i < r.pages.length
  ·have hx : r.pages[i]? = some r.pages[i] := List.getElem?_eq_getElem hlt
   generalize r.pages[i] = m at hx
   obtain ⟨ad, hix, hcv, _⟩ := bJ bj (by omega) (hp.keep (Fmf hf1 hF7) (fun _ _ e => e)) hx
   have d1 : decide ((i : Int) < (r.pages.length : Int)) = true := by rw [decide_eq_true_eq]; omega
   have e1 : IntKind.i64.wrap ((i : Int) + 1) = ((i + 1 : Nat) : Int) := by rw [ab] <;> omega
   simp only [RS, d1, hix, hcv]
   refine ao ?_
   intro x8 w8 hx8 hs8 hw8 hf8
   refine aB hw8 rfl (bj _) (by intro q hq; simp [pc2] at hq; rcases hq with rfl | rfl <;> rfl) ?_
   intro w9 hw9 hs9 hf9
   have hf79 : Fm (fun _ => False) w7 w9 := Fm.own hf8 hf9 (by rintro y rfl; omega)
   have ho9 := ae ho7 hf79 (fun _ _ _ _ e => e)
   have c0 : w9.cell? ⟨x8, 0, none⟩ = some (iv m.1) := by rw [ag hw9]; rfl
   have c1 : w9.cell? ⟨x8, 1, none⟩ = some (iv m.2) := by rw [ag hw9]; rfl
   have hF9 := Fmf hF7 hf79
   have hz9 := hF9.size
   simp only [RS, c0, c1]
   refine gO ho9 (je _ _ _) rfl (by rw [List.length_append, hti]; omega) hz9 ?_
   intro v10 w10 ho10 hf10
   simp only [RS, e1]
   refine ⟨⟨i + 1, v10, rfl, by omega, ?_, Fm.own hF9 hf10 (fun y e => e)⟩, by simp only [bM]; omega⟩
   have e2 : L6 ++ prs (r.pages.take (i + 1)) = L6 ++ prs (r.pages.take i) ++ [m.1, m.2] := by rw [List.take_add_one, hx]; simp [prs]
   rw [e2]; exact ho10
  ·have hie : i = r.pages.length := by omega
   subst hie
   have d1 : decide (((r.pages.length : Nat) : Int) < (r.pages.length : Int)) = false := by simp
   rw [List.take_length] at ho7 hti
   have hl7 : (L6 ++ prs r.pages).length ≤ 8000009 := by rw [List.length_append, hti]; omega
   generalize L6 ++ prs r.pages = L7 at ho7 hl7
   have hR7 := hR1.keep hF7 (fun e => e)
   have ht7 := ht.keep (Fmf hf1 hF7) (fun _ _ e => e)
   simp only [RS, d1, hR7.c15, ht7.lenV]
   refine ⟨fun vs w' => ∃ (i : Nat) (lv : Value), vs = [lv, iv i] ∧ i ≤ r.txns.length ∧ w'.ownsRow w1.heap.size 3 1 lv (L7 ++ prs (r.txns.take i)).length ((L7 ++ prs (r.txns.take i)).map iv) ∧ Fm (fun _ => False) w1 w', fun vs _ => (r.txns.length - nth vs 1).toNat, ⟨0, lv, rfl, by omega, by simpa [prs] using ho7, hF7⟩, ?_⟩
   rintro _ w8 lv iv8 ⟨i, lv', hvs, hile, ho8, hF8⟩
   cases hvs
   have hz8 := hF8.size
   have hti : (prs (r.txns.take i)).length = i * 2 := by
    have := congrArg List.length (pt (r.txns.take i))
    rw [List.length_map, flat_len bj, List.length_take, Nat.min_eq_left hile] at this
    omega
   by_cases hlt : i < r.txns.length
   ·have hx : r.txns[i]? = some r.txns[i] := List.getElem?_eq_getElem hlt
    generalize r.txns[i] = m at hx
    obtain ⟨ad, hix, hcv, _⟩ := bJ bj (by omega) (ht.keep (Fmf hf1 hF8) (fun _ _ e => e)) hx
    have d1 : decide ((i : Int) < (r.txns.length : Int)) = true := by rw [decide_eq_true_eq]; omega
    have e1 : IntKind.i64.wrap ((i : Int) + 1) = ((i + 1 : Nat) : Int) := by rw [ab] <;> omega
    simp only [RS, d1, hix, hcv]
    refine ao ?_
    intro x9 w9 hx9 hs9 hw9 hf9
    refine aB hw9 rfl (bj _) (by intro q hq; simp [pc2] at hq; rcases hq with rfl | rfl <;> rfl) ?_
    intro w10 hw10 hs10 hf10
    have hf810 : Fm (fun _ => False) w8 w10 := Fm.own hf9 hf10 (by rintro y rfl; omega)
    have ho10 := ae ho8 hf810 (fun _ _ _ _ e => e)
    have c0 : w10.cell? ⟨x9, 0, none⟩ = some (iv m.1) := by rw [ag hw10]; rfl
    have c1 : w10.cell? ⟨x9, 1, none⟩ = some (iv m.2) := by rw [ag hw10]; rfl
    have hF10 := Fmf hF8 hf810
    have hz10 := hF10.size
    simp only [RS, c0, c1]
    refine gO ho10 (je _ _ _) rfl (by rw [List.length_append, hti]; omega) hz10 ?_
    intro v11 w11 ho11 hf11
    simp only [RS, e1]
    refine ⟨⟨i + 1, v11, rfl, by omega, ?_, Fm.own hF10 hf11 (fun y e => e)⟩, by simp only [bM]; omega⟩
    have e2 : L7 ++ prs (r.txns.take (i + 1)) = L7 ++ prs (r.txns.take i) ++ [m.1, m.2] := by rw [List.take_add_one, hx]; simp [prs]
    rw [e2]; exact ho11
   ·have hie : i = r.txns.length := by omega
    subst hie
    have d1 : decide (((r.txns.length : Nat) : Int) < (r.txns.length : Int)) = false := by simp
    rw [List.take_length] at ho8
    simp only [RS, d1]
    exact ⟨aW ho8 (by omega), Fmf hf1 hF8⟩
theorem qI (w : World) (n : Int) : Cl prog 157 [iv n] w fun v w' => v = .bool (da n) ∧ w' = w := by
 refine c157 ?_; unfold T157
 unfold da
 simp only [RS]
 cases h1 : decide (n < 0) with
 | true =>
  simp only [RS, Bool.true_or]
  exact ⟨(by trivial), (by trivial)⟩
 | false =>
  simp only [RS, Bool.false_or]
  exact ⟨(by trivial), (by trivial)⟩
theorem jU {w : World} {v : Value} {L : List Int} (h : CellsAt w v L.length 1 (L.map iv)) : Cl prog 155 [v, .func (.func 157) #[] #[]] w fun u w' => u = .bool (L.any da) ∧ w' = w := by
 have hlt := h.lt
 unfold maxLen at hlt
 have key : Cl prog 198 [v, .func (.func 157) #[] #[]] w fun u w' => ∃ i : Int, u = iv i ∧ decide (0 ≤ i) = L.any da ∧ w' = w := by
  refine c198 ?_; unfold T198
  simp only [RS, h.lenV]
  refine ⟨fun vs w2 => ∃ i : Nat, vs = [iv i] ∧ i ≤ L.length ∧ (L.take i).any da = false ∧ w2 = w, fun vs _ => (L.length - nth vs 0).toNat, ⟨0, rfl, by omega, rfl, rfl⟩, ?_⟩
  rintro _ w2 ivv ⟨i, hvs, hi, hno, rfl⟩
  cases hvs
  by_cases hl : i < L.length
  ·have e1 : decide ((i : Int) < (L.length : Int)) = true := by rw [decide_eq_true_eq]; omega
   have e2 : IntKind.i64.wrap ((i : Int) + 1) = ((i + 1 : Nat) : Int) := by rw [ab] <;> omega
   have hx : L[i]? = some L[i] := List.getElem?_eq_getElem hl
   generalize L[i] = n at hx
   obtain ⟨ad, hix, _, hc⟩ := h.at1 (i := i) (x := iv n) (by rw [List.getElem?_map, hx]; rfl) .i64
   simp only [RS, e1, hix, hc]
   refine nF (by kernel_rfl) ?_
   refine (qI w2 n).mono ?_
   rintro _ w3 ⟨rfl, rfl⟩
   cases hb : da n with
   | true =>
    simp only [RS]
    refine ⟨i, (by trivial), ?_, (by trivial)⟩
    rw [decide_eq_true (by omega)]
    exact (List.any_eq_true.2 ⟨n, List.mem_of_getElem? hx, hb⟩).symm
   | false =>
    simp only [RS, e2]
    refine ⟨⟨i + 1, rfl, by omega, ?_, (by trivial)⟩, by simp only [bw]; omega⟩
    rw [List.take_add_one, hx, List.any_append, hno]
    simp [hb]
  ·have hie : i = L.length := by omega
   subst hie
   have e1 : decide (((L.length : Nat) : Int) < (L.length : Int)) = false := by simp
   rw [List.take_length] at hno
   simp only [RS, e1]
   exact ⟨-1, (by trivial), by rw [hno]; rfl, (by trivial)⟩
 refine c155 ?_; unfold T155
 refine key.mono ?_
 rintro _ w2 ⟨i, rfl, hi, rfl⟩
 simp only [RS, hi]
 exact ⟨(by trivial), (by trivial)⟩
theorem jo {t : Bs} {b : UInt8} (h : t[t.length - 1]? = some b) : cK t = bif decide (b = 0) then cK (t.take (t.length - 1)) else t := by
 have hl := (List.getElem?_eq_some_iff.1 h).1
 have ht : t = t.take (t.length - 1) ++ [b] := by
  have := List.take_append_drop (t.length - 1) t
  rw [List.drop_eq_getElem_cons hl, (List.getElem?_eq_some_iff.1 h).2, show t.length - 1 + 1 = t.length by omega, List.drop_length] at this
  exact this.symm
 generalize t.take (t.length - 1) = s at ht
 subst ht
 unfold cK
 rw [List.reverse_append, List.reverse_singleton, List.singleton_append, List.dropWhile_cons]
 cases hb : decide (b = 0) with
 | true =>
  rw [decide_eq_true_eq] at hb
  subst hb
  rfl
 | false =>
  rw [decide_eq_false_iff_not] at hb
  rw [if_neg (by simpa using hb)]
  simp
theorem nX (w : World) (s : Bs) (hs : s.length ≤ 1000000) : Cl prog 202 [stv s, stv [0]] w fun v w' => v = stv (cK s) ∧ w' = w := by
 refine c202 ?_; unfold T202
 have e0 : decide (([0] : Bs) = []) = false := by decide
 simp only [RS, br, aD, e0]
 cases hn : decide (s = []) with
 | true =>
  rw [decide_eq_true_eq] at hn
  subst hn
  simp only [RS]
  exact ⟨(by trivial), (by trivial)⟩
 | false =>
 have e1 : bu (stv [0]) = some (iv 1) := rfl
 have e2 : ixS (stv [0]) (Value.int .i64 0) = some (.int .u8 0) := rfl
 have e3 : decide ((0 : Int) < 128) = true := by decide
 have e4 : (((str ([0] : Bs)).size : Int) == 1) = true := rfl
 have e5 : decide (str ([0] : Bs) = str []) = false := by rw [decide_eq_false_iff_not, aD]; decide
 simp only [RS, e1, e2, e3, e4, e5]
 refine c182 ?_; unfold T182
 refine ⟨fun vs w2 => ∃ t : Bs, vs = [stv t] ∧ t.length ≤ s.length ∧ cK t = cK s ∧ w2 = w, fun vs _ => match vs with
  | [.string b] => b.size
  | _ => 0, ⟨s, rfl, Nat.le_refl _, rfl, rfl⟩, ?_⟩
 rintro _ w2 tv ⟨t, hvs, hl, htr, rfl⟩
 cases hvs
 simp only [RS, aj]
 by_cases h0 : 0 < t.length
 ·have d1 : decide ((0 : Int) < (t.length : Int)) = true := by rw [decide_eq_true_eq]; omega
  have e5 : IntKind.i64.wrap ((t.length : Int) - 1) = ((t.length - 1 : Nat) : Int) := by rw [ab] <;> omega
  have hx : t[t.length - 1]? = some t[t.length - 1] := List.getElem?_eq_getElem (by omega)
  generalize t[t.length - 1] = b at hx
  have hlast := jo hx
  have e6 := dy hx .i64
  have e7 : ((b.toNat : Int) == 0) = decide (b = 0) := by
   rw [aA, decide_eq_decide]
   constructor
   ·intro e
    exact UInt8.toNat_inj.1 (by simpa using (show b.toNat = 0 by omega))
   ·rintro rfl; rfl
  have e8 := df (l := t) (i := t.length - 1) (by omega) .i64
  simp only [RS, d1, aj, e5, e6, e7]
  cases hb : decide (b = 0) with
  | true =>
   rw [hb, cond_true] at hlast
   simp only [RS, aj, e5, e8]
   refine ⟨⟨t.take (t.length - 1), rfl, by rw [List.length_take]; omega, by rw [← hlast]; exact htr, (by trivial)⟩, ?_⟩
   simp only [aj, List.length_take]; omega
  | false =>
   rw [hb, cond_false] at hlast
   simp only [RS]
   exact ⟨by rw [← htr, hlast], (by trivial)⟩
 ·have ht0 : t = [] := List.eq_nil_of_length_eq_zero (by omega)
  subst ht0
  have d1 : decide ((0 : Int) < (([] : Bs).length : Int)) = false := by decide
  simp only [RS, d1]
  exact ⟨by rw [← htr]; rfl, (by trivial)⟩
theorem uX (a1 a2 : Option Addr) (n1 c1 n2 c2 : Nat) (w : World) : (Instr.build 227 #[(0, .slice a1 n1 c1), (1, .slice a2 n2 c2)]).run prog w = .ok (.agg #[.slice a1 n1 c1, .slice a2 n2 c2]) w := by kernel_rfl
theorem tG {w : World} {x : Nat} {m : Int} {p : Pg} {u : Value} (h : w.heap[x]? = some (.cells (imC (m, p, u)).toArray 118)) : aP w ⟨x, 1, none⟩ 6 = some (.agg (pcs p u)) := by
 refine dq (l := (pcs p u).toList) rfl (fun j hj => ?_)
 have : j = 0 ∨ j = 1 ∨ j = 2 ∨ j = 3 ∨ j = 4 ∨ j = 5 := by omega
 rcases this with rfl | rfl | rfl | rfl | rfl | rfl <;> (rw [bv, ag h]; rfl)
theorem pN (a b : List Int) : aO (a ++ b) = aO a ++ aO b := by simp [aO]
theorem nj (a b : Int) : aO [a, b] = prB (a, b) := by simp [aO, prB]
theorem kc {p : Int × Int} (h1 : p.1 ≤ 9223372036854775807) (h2 : p.2 ≤ 9223372036854775807) : (prB p).length ≤ 18 := by
 have := aH h1
 have := aH h2
 unfold prB
 rw [List.length_append]; omega
theorem oo {w : World} {cs : Array Value} {r : Rc} (h : RcAs w cs r) (hlong : bO r = false) : Cl prog 158 [.agg cs] w fun v w' => v = .tuple #[stv (cJ r).1, iv (cJ r).2] ∧ Fm (fun _ => False) w w' := by
 obtain ⟨vs, vm, vi, vp, vt, hcs, _, hs, hm, hi, hp, ht⟩ := h.ex
 simp only [bO, Bool.or_eq_false_iff, decide_eq_false_iff_not] at hlong
 obtain ⟨⟨⟨⟨⟨l1, l2⟩, l3⟩, l4⟩, l5⟩, l6⟩ := hlong
 have hins := h.ins
 have hk8 := h.kin
 have n9 : ∀ n ∈ [r.lsn, r.prev, r.next, r.redo, r.xid, r.page, r.slot, r.old, r.new], In n := fun n hn => hins n (by unfold rNums; simp only [List.mem_append]; exact .inl (.inl (.inl (.inl (.inl hn)))))
 have nsl : ∀ n ∈ r.slots, n ≤ 9223372036854775807 := fun n hn => (hins n (by unfold rNums; simp only [List.mem_append]; exact .inl (.inl (.inl (.inl (.inr hn)))))).2
 have nmo : ∀ n ∈ r.more, n ≤ 9223372036854775807 := fun n hn => (hins n (by unfold rNums; simp only [List.mem_append]; exact .inl (.inl (.inl (.inr hn))))).2
 have nim : ∀ m ∈ r.imgs, m.1 ≤ 9223372036854775807 := fun m hm => (hins m.1 (by unfold rNums; simp only [List.mem_append]; exact .inl (.inl (.inr (List.mem_map.2 ⟨m, hm, rfl⟩))))).2
 have npg : ∀ m ∈ r.pages, m.1 ≤ 9223372036854775807 ∧ m.2 ≤ 9223372036854775807 := fun m hm => ⟨(hins m.1 (by unfold rNums; simp only [List.mem_append]; exact .inl (.inr (bW hm).1))).2, (hins m.2 (by unfold rNums; simp only [List.mem_append]; exact .inl (.inr (bW hm).2))).2⟩
 have ntx : ∀ m ∈ r.txns, m.1 ≤ 9223372036854775807 ∧ m.2 ≤ 9223372036854775807 := fun m hm => ⟨(hins m.1 (by unfold rNums; simp only [List.mem_append]; exact .inr (bW hm).1)).2, (hins m.2 (by unfold rNums; simp only [List.mem_append]; exact .inr (bW hm).2)).2⟩
 have nhd : ∀ n ∈ cL r, n ≤ 9223372036854775807 := fun n hn => by
  unfold cL at hn
  simp only [List.mem_cons, List.not_mem_nil, or_false] at hn
  rcases hn with rfl | rfl | rfl | rfl | rfl | rfl | rfl | rfl | rfl | rfl <;> first | omega | exact (n9 _ (by simp)).2
 refine c158 ?_; unfold T158
 refine ao ?_
 intro x1 w1 hx1 hs1 hw1 hf1
 have hR1 : RB w1 x1 r vs vm vi vp vt := ⟨by rw [← hcs]; exact hw1⟩
 have hlt1 := hR1.lt
 have kS : ∀ {w'}, Fm (fun _ => False) w1 w' → CellsAt w' vs r.slots.length 1 (r.slots.map iv) := fun hf => hs.keep (Fmf hf1 hf) (fun _ _ e => e)
 have kM : ∀ {w'}, Fm (fun _ => False) w1 w' → CellsAt w' vm r.more.length 1 (r.more.map iv) := fun hf => hm.keep (Fmf hf1 hf) (fun _ _ e => e)
 have kI : ∀ {w'}, Fm (fun _ => False) w1 w' → ImAs w' vi r.imgs := fun hf => hi.keep (Fmf hf1 hf)
 have kP : ∀ {w'}, Fm (fun _ => False) w1 w' → CellsAt w' vp r.pages.length 2 (r.pages.flatMap pc2) := fun hf => hp.keep (Fmf hf1 hf) (fun _ _ e => e)
 have kT : ∀ {w'}, Fm (fun _ => False) w1 w' → CellsAt w' vt r.txns.length 2 (r.txns.flatMap pc2) := fun hf => ht.keep (Fmf hf1 hf) (fun _ _ e => e)
 have kR : ∀ {w'}, Fm (fun _ => False) w1 w' → RB w' x1 r vs vm vi vp vt := fun hf => hR1.keep hf (fun e => e)
 have blt : ∀ {v : Value} {ns : List Int}, CellsAt w v ns.length 1 (ns.map iv) → ns ≠ [] → ∀ g, cd v = some g → g < w1.heap.size := fun hc hne g hg => by
  have := hc.blt (by simpa using hne) g hg
  omega
 refine WS.new (Fm.refl _ w1) ?_
 intro w2 rw h2 hf2
 have hR2 := kR hf2
 have ek : IntKind.i64.wrap r.kind = r.kind := by rw [ab]; omega
 have ekc : cvI .i64 (.int .u8 r.kind) = some (iv r.kind) := by
  show some (Value.int .i64 (IntKind.i64.wrap r.kind)) = _
  rw [ek]
 simp only [RS, hR2.c0, hR2.c1, hR2.c2, hR2.c3, hR2.c4, hR2.c5, hR2.c6, hR2.c7, hR2.c8, hR2.c9, ekc]
 refine h2.lit (qr _ _ _ _ _ _ _ _ _ _ _) rfl (fun n hn => nhd n hn) (by simp) ?_
 intro u3 w3 h3
 replace h3 : WS w1 w3 rw (aO (cL r)) := by have := h3; rw [List.nil_append] at this; exact this
 have hl3 : (aO (cL r)).length ≤ 90 := by have := ch nhd; exact this
 have hR3 := kR h3.fm
 simp only [RS, hR3.c10]
 refine h3.text (by omega) (by omega) ?_
 intro u4 w4 h4
 have hR4 := kR h4.fm
 have hl4 : (aO (cL r) ++ eA r.data).length ≤ 700 := by
  have := aH (n := r.data.length) (by omega)
  rw [List.length_append]; unfold eA; rw [List.length_append]; omega
 simp only [RS, hR4.c11, hR4.c12]
 have hsv : ∃ a c, vs = .slice a r.slots.length c := by obtain ⟨⟨a, c, e, _⟩, _⟩ := hs; exact ⟨a, c, e⟩
 have hmv : ∃ a c, vm = .slice a r.more.length c := by obtain ⟨⟨a, c, e, _⟩, _⟩ := hm; exact ⟨a, c, e⟩
 have hbld : (Instr.build 227 #[(0, vs), (1, vm)]).run prog w4 = .ok (.agg #[vs, vm]) w4 := by
  obtain ⟨a, c, rfl⟩ := hsv
  obtain ⟨a', c', rfl⟩ := hmv
  exact uX _ _ _ _ _ _ _
 refine af hbld ?_
 generalize hB4 : aO (cL r) ++ eA r.data = B4 at h4 hl4
 refine ⟨fun vl w' => (vl = [iv 0] ∧ WS w1 w' rw B4) ∨ (vl = [iv 1] ∧ WS w1 w' rw (B4 ++ bh r.slots)) ∨ (vl = [iv 2] ∧ WS w1 w' rw (B4 ++ bh r.slots ++ bh r.more)), fun vl _ => (2 - nth vl 0).toNat, .inl ⟨rfl, h4⟩, ?_⟩
 have hls : (bh r.slots).length ≤ 2400 := by
  have := ch nsl
  have := aH (n := r.slots.length) (by omega)
  unfold bh; rw [List.length_append]; omega
 have hlm : (bh r.more).length ≤ 2400 := by
  have := ch nmo
  have := aH (n := r.more.length) (by omega)
  unfold bh; rw [List.length_append]; omega
 rintro _ w5 iv5 (⟨hvl, h5⟩ | ⟨hvl, h5⟩ | ⟨hvl, h5⟩)
 ·cases hvl
  have d1 : decide ((0 : Int) < 2) = true := by decide
  have e1 : ixG false 2 1 (.agg #[vs, vm]) (iv 0) = some vs := rfl
  have e2 : IntKind.i64.wrap (0 + 1) = 1 := rfl
  simp only [RS, d1, e1, (kS h5.fm).lenV]
  refine h5.lit (cF _ _) rfl (by intro n hn; simp at hn; omega) (by omega) ?_
  intro u6 w6 h6
  rw [cY] at h6
  have := aH (n := r.slots.length) (by omega)
  refine h6.num (kS h6.fm) (blt hs) nsl (by rw [List.length_append]; omega) ?_
  intro u7 w7 h7
  simp only [RS, e2]
  exact ⟨.inr (.inl ⟨(by trivial), by have := h7; rw [List.append_assoc] at this; exact this⟩), by simp [nth, iv]⟩
 ·cases hvl
  have d1 : decide ((1 : Int) < 2) = true := by decide
  have e1 : ixG false 2 1 (.agg #[vs, vm]) (iv 1) = some vm := rfl
  have e2 : IntKind.i64.wrap (1 + 1) = 2 := rfl
  simp only [RS, d1, e1, (kM h5.fm).lenV]
  refine h5.lit (cF _ _) rfl (by intro n hn; simp at hn; omega) (by rw [List.length_append]; omega) ?_
  intro u6 w6 h6
  rw [cY] at h6
  have := aH (n := r.more.length) (by omega)
  refine h6.num (kM h6.fm) (blt hm) nmo (by simp only [List.length_append]; omega) ?_
  intro u7 w7 h7
  simp only [RS, e2]
  exact ⟨.inr (.inr ⟨(by trivial), by have := h7; rw [List.append_assoc (B4 ++ bh r.slots)] at this; exact this⟩), by simp [nth, iv]⟩
 ·cases hvl
  have d1 : decide ((2 : Int) < 2) = false := by decide
  have hR5 := kR h5.fm
  have hl5 : (B4 ++ bh r.slots ++ bh r.more).length ≤ 6000 := by simp only [List.length_append]; omega
  generalize hB5 : B4 ++ bh r.slots ++ bh r.more = B5 at h5 hl5
  simp only [RS, d1, hR5.c13, (kI h5.fm).lenV]
  refine h5.lit (cF _ _) rfl (by intro n hn; simp at hn; omega) (by omega) ?_
  intro u6 w6 h6
  rw [cY] at h6
  have hR6 := kR h6.fm
  have hl6 : (B5 ++ aK (r.imgs.length : Int)).length ≤ 6010 := by
   have := aH (n := r.imgs.length) (by omega)
   rw [List.length_append]; omega
  generalize hB6 : B5 ++ aK (r.imgs.length : Int) = B6 at h6 hl6
  simp only [RS, hR6.c13, (kI h6.fm).lenV]
  refine ⟨fun vl w' => ∃ i : Nat, vl = [iv i] ∧ i ≤ r.imgs.length ∧ WS w1 w' rw (B6 ++ (r.imgs.take i).flatMap fK) ∧ (B6 ++ (r.imgs.take i).flatMap fK).length ≤ 6010 + 600 * i ∧ ck r.imgs = ck (r.imgs.drop i), fun vl _ => (r.imgs.length - nth vl 0).toNat, ⟨0, rfl, by omega, by simpa using h6, by simpa using hl6, rfl⟩, ?_⟩
  rintro _ w7 iv7 ⟨i, hvl, hile, h7, hl7, hie⟩
  cases hvl
  by_cases hlt : i < r.imgs.length
  ·have hx : r.imgs[i]? = some r.imgs[i] := List.getElem?_eq_getElem hlt
   have hdr := List.drop_eq_getElem_cons hlt
   generalize r.imgs[i] = m at hx hdr
   rw [hdr] at hie
   have hmm := List.mem_of_getElem? hx
   obtain ⟨ad, u, hix, hcv, hone, hpg⟩ := (kI h7.fm).ld hx
   have d2 : decide ((i : Int) < (r.imgs.length : Int)) = true := by rw [decide_eq_true_eq]; omega
   have e1 : IntKind.i64.wrap ((i : Int) + 1) = ((i + 1 : Nat) : Int) := by rw [ab] <;> omega
   simp only [RS, d2, hix, hcv]
   refine ao ?_
   intro x8 w8 hx8 hs8 hw8 hf8
   refine aB hw8 rfl (kd _) (by intro q hq; simp [imC, pcs] at hq; rcases hq with rfl | rfl | rfl | rfl | rfl | rfl | rfl <;> first | rfl | exact hone) ?_
   intro w9 hw9 hs9 hf9
   have hf79 : Fm (fun _ => False) w7 w9 := Fm.own hf8 hf9 (by rintro y rfl; omega)
   have h9 := h7.keep hf79
   simp only [RS, tG hw9]
   refine (mi (hpg.keep hf79)).mono ?_
   rintro _ w10 ⟨rfl, hf10⟩
   have h10 := h9.keep hf10
   have he : lI m.2 = .tuple #[stv (eD m.2).1, iv (pErr m.2)] := by unfold lI; rw [gw]
   rw [he]
   simp only [RS, al]
   rw [show ck (m :: r.imgs.drop (i + 1)) = bif decide (pErr m.2 = 0) then ck (r.imgs.drop (i + 1)) else pErr m.2 from rfl] at hie
   cases hz : decide (pErr m.2 = 0) with
   | false =>
    rw [hz, cond_false] at hie
    have hz' : decide (ck r.imgs = 0) = false := by rw [hie]; exact hz
    simp only [RS]
    refine ⟨?_, Fmf hf1 h10.fm⟩
    unfold cJ
    rw [hz', cond_false, hie]
    rfl
   | true =>
    rw [hz, cond_true] at hie
    have h0 : pErr m.2 = 0 := by simpa using hz
    have c10 : w10.cell? ⟨x8, 0, none⟩ = some (iv m.1) := by rw [ag (hf10.heap hw9 (fun e => e))]; rfl
    simp only [RS, c10]
    refine h10.lit (cF _ _) rfl (by intro n hn; simp at hn; subst hn; exact nim m hmm) (by omega) ?_
    intro u11 w11 h11
    rw [cY] at h11
    have hel := aH (nim m hmm)
    have hlen := el h0
    obtain ⟨_, htl⟩ := fu hlen
    refine (nX w11 (eD m.2).1 (by omega)).mono ?_
    rintro _ w12 ⟨rfl, rfl⟩
    refine h11.text (by omega) (by rw [List.length_append]; omega) ?_
    intro u13 w13 h13
    simp only [RS, e1]
    have e2 : B6 ++ (r.imgs.take (i + 1)).flatMap fK = B6 ++ (r.imgs.take i).flatMap fK ++ aK m.1 ++ eA (cK (eD m.2).1) := by rw [List.take_add_one, hx]; simp [fK]
    refine ⟨⟨i + 1, rfl, by omega, by rw [e2]; exact h13, ?_, hie⟩, by simp only [bw]; omega⟩
    rw [e2]
    have := aH (n := (cK (eD m.2).1).length) (by omega)
    simp only [List.length_append] at hl7 ⊢
    unfold eA
    rw [List.length_append]
    omega
  ·have hie2 : i = r.imgs.length := by omega
   subst hie2
   rw [List.drop_length] at hie
   have d2 : decide (((r.imgs.length : Nat) : Int) < (r.imgs.length : Int)) = false := by simp
   rw [List.take_length] at h7 hl7
   have hl7' : (B6 ++ r.imgs.flatMap fK).length ≤ 9000 := by omega
   generalize hB7 : B6 ++ r.imgs.flatMap fK = B7 at h7 hl7'
   have hR7 := kR h7.fm
   simp only [RS, d2, hR7.c14, (kP h7.fm).lenV]
   refine h7.lit (cF _ _) rfl (by intro n hn; simp at hn; omega) (by omega) ?_
   intro u16 w16 h16
   rw [cY] at h16
   have hR16 := kR h16.fm
   have hl16 : (B7 ++ aK (r.pages.length : Int)).length ≤ 9100 := by
    have := aH (n := r.pages.length) (by omega)
    rw [List.length_append]; omega
   generalize hB16 : B7 ++ aK (r.pages.length : Int) = B16 at h16 hl16
   simp only [RS, hR16.c14, (kP h16.fm).lenV]
   refine ⟨fun vl w' => ∃ i : Nat, vl = [iv i] ∧ i ≤ r.pages.length ∧ WS w1 w' rw (B16 ++ (r.pages.take i).flatMap prB) ∧ (B16 ++ (r.pages.take i).flatMap prB).length ≤ 9100 + 18 * i, fun vl _ => (r.pages.length - nth vl 0).toNat, ⟨0, rfl, by omega, by simpa using h16, by simpa using hl16⟩, ?_⟩
   rintro _ w17 iv17 ⟨i, hvl, hile, h17, hl17⟩
   cases hvl
   by_cases hlt : i < r.pages.length
   ·have hx : r.pages[i]? = some r.pages[i] := List.getElem?_eq_getElem hlt
    generalize r.pages[i] = m at hx
    have hmm := List.mem_of_getElem? hx
    obtain ⟨ad, hix, hcv, _⟩ := bJ bj (by omega) (kP h17.fm) hx
    have d2 : decide ((i : Int) < (r.pages.length : Int)) = true := by rw [decide_eq_true_eq]; omega
    have e1 : IntKind.i64.wrap ((i : Int) + 1) = ((i + 1 : Nat) : Int) := by rw [ab] <;> omega
    simp only [RS, d2, hix, hcv]
    refine ao ?_
    intro x8 w8 hx8 hs8 hw8 hf8
    refine aB hw8 rfl (bj _) (by intro q hq; simp [pc2] at hq; rcases hq with rfl | rfl <;> rfl) ?_
    intro w9 hw9 hs9 hf9
    have hf79 : Fm (fun _ => False) w17 w9 := Fm.own hf8 hf9 (by rintro y rfl; omega)
    have h9 := h17.keep hf79
    have c0 : w9.cell? ⟨x8, 0, none⟩ = some (iv m.1) := by rw [ag hw9]; rfl
    have c1 : w9.cell? ⟨x8, 1, none⟩ = some (iv m.2) := by rw [ag hw9]; rfl
    simp only [RS, c0, c1]
    obtain ⟨hm1, hm2⟩ := npg m hmm
    refine h9.lit (je _ _ _) rfl (by intro n hn; simp at hn; rcases hn with rfl | rfl <;> assumption) (by omega) ?_
    intro u11 w11 h11
    rw [nj] at h11
    simp only [RS, e1]
    have e2 : B16 ++ (r.pages.take (i + 1)).flatMap prB = B16 ++ (r.pages.take i).flatMap prB ++ prB (m.1, m.2) := by rw [List.take_add_one, hx]; simp
    refine ⟨⟨i + 1, rfl, by omega, by rw [e2]; exact h11, ?_⟩, by simp only [bw]; omega⟩
    rw [e2]
    have := kc (p := (m.1, m.2)) hm1 hm2
    rw [List.length_append]
    omega
   have hie3 : i = r.pages.length := by omega
   subst hie3
   have d17 : decide (((r.pages.length : Nat) : Int) < (r.pages.length : Int)) = false := by simp
   rw [List.take_length] at h17 hl17
   have hl17' : (B16 ++ r.pages.flatMap prB).length ≤ 160000 := by omega
   generalize hB17 : B16 ++ r.pages.flatMap prB = B17 at h17 hl17'
   have hR17 := kR h17.fm
   simp only [RS, d17, hR17.c15, (kT h17.fm).lenV]
   refine h17.lit (cF _ _) rfl (by intro n hn; simp at hn; omega) (by omega) ?_
   intro u26 w26 h26
   rw [cY] at h26
   have hR26 := kR h26.fm
   have hl26 : (B17 ++ aK (r.txns.length : Int)).length ≤ 160100 := by
    have := aH (n := r.txns.length) (by omega)
    rw [List.length_append]; omega
   generalize hB26 : B17 ++ aK (r.txns.length : Int) = B26 at h26 hl26
   simp only [RS, hR26.c15, (kT h26.fm).lenV]
   refine ⟨fun vl w' => ∃ i : Nat, vl = [iv i] ∧ i ≤ r.txns.length ∧ WS w1 w' rw (B26 ++ (r.txns.take i).flatMap prB) ∧ (B26 ++ (r.txns.take i).flatMap prB).length ≤ 160100 + 18 * i, fun vl _ => (r.txns.length - nth vl 0).toNat, ⟨0, rfl, by omega, by simpa using h26, by simpa using hl26⟩, ?_⟩
   rintro _ w27 iv27 ⟨i, hvl, hile, h27, hl27⟩
   cases hvl
   by_cases hlt : i < r.txns.length
   ·have hx : r.txns[i]? = some r.txns[i] := List.getElem?_eq_getElem hlt
    generalize r.txns[i] = m at hx
    have hmm := List.mem_of_getElem? hx
    obtain ⟨ad, hix, hcv, _⟩ := bJ bj (by omega) (kT h27.fm) hx
    have d2 : decide ((i : Int) < (r.txns.length : Int)) = true := by rw [decide_eq_true_eq]; omega
    have e1 : IntKind.i64.wrap ((i : Int) + 1) = ((i + 1 : Nat) : Int) := by rw [ab] <;> omega
    simp only [RS, d2, hix, hcv]
    refine ao ?_
    intro x8 w8 hx8 hs8 hw8 hf8
    refine aB hw8 rfl (bj _) (by intro q hq; simp [pc2] at hq; rcases hq with rfl | rfl <;> rfl) ?_
    intro w9 hw9 hs9 hf9
    have hf79 : Fm (fun _ => False) w27 w9 := Fm.own hf8 hf9 (by rintro y rfl; omega)
    have h9 := h27.keep hf79
    have c0 : w9.cell? ⟨x8, 0, none⟩ = some (iv m.1) := by rw [ag hw9]; rfl
    have c1 : w9.cell? ⟨x8, 1, none⟩ = some (iv m.2) := by rw [ag hw9]; rfl
    simp only [RS, c0, c1]
    obtain ⟨hm1, hm2⟩ := ntx m hmm
    refine h9.lit (je _ _ _) rfl (by intro n hn; simp at hn; rcases hn with rfl | rfl <;> assumption) (by omega) ?_
    intro u11 w11 h11
    rw [nj] at h11
    simp only [RS, e1]
    have e2 : B26 ++ (r.txns.take (i + 1)).flatMap prB = B26 ++ (r.txns.take i).flatMap prB ++ prB (m.1, m.2) := by rw [List.take_add_one, hx]; simp
    refine ⟨⟨i + 1, rfl, by omega, by rw [e2]; exact h11, ?_⟩, by simp only [bw]; omega⟩
    rw [e2]
    have := kc (p := (m.1, m.2)) hm1 hm2
    rw [List.length_append]
    omega
   have hie3 : i = r.txns.length := by omega
   subst hie3
   have d27 : decide (((r.txns.length : Nat) : Int) < (r.txns.length : Int)) = false := by simp
   rw [List.take_length] at h27 hl27
   have hl27' : (B26 ++ r.txns.flatMap prB).length ≤ 180000 := by omega
   generalize hB27 : B26 ++ r.txns.flatMap prB = B27 at h27 hl27'
   have hR27 := kR h27.fm
   simp only [RS, d27]
   refine (mc h27.wr.1).mono ?_
   rintro _ w30 ⟨rfl, rfl⟩
   have hbody : cl r = B27 := by
    rw [← hB27, ← hB26, ← hB17, ← hB16, ← hB7, ← hB6, ← hB5, ← hB4]
    rfl
   have hie0 : decide (ck r.imgs = 0) = true := by rw [hie]; rfl
   have d9 : decide ((65535 : Int) < (B27.length : Int)) = decide (65535 < B27.length) := by rw [decide_eq_decide]; omega
   unfold cJ
   rw [hie0, cond_true, hbody]
   simp only [RS, aj, d9]
   cases hbig : decide (65535 < B27.length) with
   | true =>
    simp only [RS, cond_true]
    exact ⟨(by trivial), Fmf hf1 h27.fm⟩
   | false =>
    simp only [RS, cond_false]
    exact ⟨(by trivial), Fmf hf1 h27.fm⟩
theorem gh {w : World} {cs : Array Value} {r : Rc} (h : RcAs w cs r) : Cl prog 82 [.agg cs] w fun v w' => v = .tuple #[stv (rCheck r).1, iv (rCheck r).2] ∧ Fm (fun _ => False) w w' := by
 obtain ⟨vs, vm, vi, vp, vt, hcs, _, hs, hm, hi, hp, ht⟩ := h.ex
 have hk8 := h.kin
 refine c82 ?_; unfold T82
 refine ao ?_
 intro x1 w1 hx1 hs1 hw1 hf1
 have hR1 : RB w1 x1 r vs vm vi vp vt := ⟨by rw [← hcs]; exact hw1⟩
 have h1 := h.keep hf1
 rw [hcs] at h1
 unfold rCheck
 simp only [RS, hR1.c3]
 cases e1 : decide (r.kind < 1) with
 | true =>
  simp only [RS, Bool.true_or, cond_true]
  exact ⟨(by trivial), hf1⟩
 | false =>
 simp only [RS, hR1.c3, Bool.false_or]
 cases e2 : decide (13 < r.kind) with
 | true =>
  simp only [RS, cond_true]
  exact ⟨(by trivial), hf1⟩
 | false =>
 simp only [RS, cond_false, hR1.c0]
 cases e3 : decide (r.lsn < 1) with
 | true =>
  simp only [RS, Bool.true_or, cond_true]
  exact ⟨(by trivial), hf1⟩
 | false =>
 simp only [RS, hR1.all, Bool.false_or]
 refine (kQ h1).mono ?_
 rintro v2 w2 ⟨ho2, hf2⟩
 refine (jU (CellsAt.of_own ho2)).mono ?_
 rintro _ w3 ⟨rfl, rfl⟩
 have hF2 := Fmf hf1 hf2
 have hR2 := hR1.keep hf2 (fun e => e)
 cases e4 : (rNums r).any da with
 | true =>
  simp only [RS, cond_true]
  exact ⟨(by trivial), hF2⟩
 | false =>
 have m1 : decide ((512 : Int) < (r.data.length : Int)) = decide (512 < r.data.length) := by rw [decide_eq_decide]; omega
 have m2 : decide ((255 : Int) < (r.slots.length : Int)) = decide (255 < r.slots.length) := by rw [decide_eq_decide]; omega
 have m3 : decide ((255 : Int) < (r.more.length : Int)) = decide (255 < r.more.length) := by rw [decide_eq_decide]; omega
 have m4 : decide ((4 : Int) < (r.imgs.length : Int)) = decide (4 < r.imgs.length) := by rw [decide_eq_decide]; omega
 have m5 : decide ((8192 : Int) < (r.pages.length : Int)) = decide (8192 < r.pages.length) := by rw [decide_eq_decide]; omega
 have m6 : decide ((1024 : Int) < (r.txns.length : Int)) = decide (1024 < r.txns.length) := by rw [decide_eq_decide]; omega
 simp only [RS, cond_false, hR2.c10, aj, m1]
 have long : ∀ {w'}, bO r = true → Fm (fun _ => False) w w' → Value.tuple #[.string (ByteArray.mk #[]), .int .i64 3] = .tuple #[stv (bif bO r then (([] : Bs), (3 : Int)) else cJ r).1, iv (bif bO r then (([] : Bs), (3 : Int)) else cJ r).2] ∧ Fm (fun _ => False) w w' := fun hl hf => ⟨by rw [hl]; rfl, hf⟩
 cases q1 : decide (512 < r.data.length) with
 | true => simp only [RS]; exact long (by simp [bO, q1]) hF2
 | false =>
 simp only [RS, hR2.c11, hs.lenV, m2]
 cases q2 : decide (255 < r.slots.length) with
 | true => simp only [RS]; exact long (by simp [bO, q2]) hF2
 | false =>
 simp only [RS, hR2.c12, hm.lenV, m3]
 cases q3 : decide (255 < r.more.length) with
 | true => simp only [RS]; exact long (by simp [bO, q3]) hF2
 | false =>
 simp only [RS, hR2.c13, hi.lenV, m4]
 cases q4 : decide (4 < r.imgs.length) with
 | true => simp only [RS]; exact long (by simp [bO, q4]) hF2
 | false =>
 simp only [RS, hR2.c14, hp.lenV, m5]
 cases q5 : decide (8192 < r.pages.length) with
 | true => simp only [RS]; exact long (by simp [bO, q5]) hF2
 | false =>
 simp only [RS, hR2.c15, ht.lenV, m6]
 cases q6 : decide (1024 < r.txns.length) with
 | true => simp only [RS]; exact long (by simp [bO, q6]) hF2
 | false =>
 have hl : bO r = false := by unfold bO; rw [q1, q2, q3, q4, q5, q6]; rfl
 simp only [RS, hR2.all]
 refine (oo (h1.keep hf2) hl).mono ?_
 rintro _ w4 ⟨rfl, hf4⟩
 simp only [RS]
 refine ⟨?_, Fmf hF2 hf4⟩
 rw [hl]
 rfl
theorem nZ (r : Rc) : (rCheck r).1.length ≤ 65535 := by
 unfold rCheck
 cases decide (r.kind < 1) || decide (13 < r.kind) with
 | true => simp
 | false =>
 cases decide (r.lsn < 1) || (rNums r).any da with
 | true => simp
 | false =>
 cases bO r with
 | true => simp
 | false =>
 simp only [cond_false]
 unfold cJ
 cases decide (ck r.imgs = 0) with
 | false => simp
 | true =>
 cases hb : decide (65535 < (cl r).length) with
 | true => simp
 | false =>
  rw [decide_eq_false_iff_not] at hb
  simp only [cond_true, cond_false]
  omega
theorem kn {w : World} {cs : Array Value} {r : Rc} (h : RcAs w cs r) : Cl prog 89 [.agg cs] w fun v w' => v = .tuple #[stv (rEnc r).1, iv (rEnc r).2] ∧ Fm (fun _ => False) w w' := by
 refine c89 ?_; unfold T89
 refine ao ?_
 intro x1 w1 hx1 hs1 hw1 hf1
 simp only [RS, ax hw1 h.size]
 refine (gh (h.keep hf1)).mono ?_
 rintro _ w2 ⟨rfl, hf2⟩
 have hF2 := Fmf hf1 hf2
 have hlen := nZ r
 unfold rEnc
 simp only [RS, al]
 cases hz : decide ((rCheck r).2 = 0) with
 | false =>
  simp only [RS, cond_false]
  exact ⟨(by trivial), hF2⟩
 | true =>
 generalize (rCheck r).1 = s at hlen
 simp only [RS, cond_true, aj]
 refine (bV w2 (by omega) 4).mono ?_
 rintro _ w3 ⟨rfl, hf3⟩
 refine (gD w3 s (by omega)).mono ?_
 rintro _ w4 ⟨rfl, rfl⟩
 obtain ⟨q1, q2⟩ := gr s
 simp only [RS, aV, q2]
 refine (bV w4 q1 4).mono ?_
 rintro _ w5 ⟨rfl, hf5⟩
 have g1 : fg (s.length : Nat) 4 = beN 4 s.length := bB (n := s.length) (w := 4) (by omega) (by omega)
 have g2 : fg (crc s : Nat) 4 = beN 4 (crc s) := bB (n := crc s) (w := 4) (by omega) (by omega)
 rw [g1, g2, dL (by rw [aw, aw]; omega)]
 try simp only [RS]
 rw [dL (by rw [List.length_append, aw, aw]; omega)]
 try simp only [RS]
 exact ⟨(by trivial), Fmf hF2 (Fmf hf3 hf5)⟩
def T14 (k : KV) (data0 : Value) (w : World) : Prop :=
 New #[(.int .i64 0), (.int .i64 0), (.int .i64 0), (.int .u8 0), (.int .i64 0), (.int .i64 0), (.int .i64 0), (.int .i64 0), (.int .i64 0), (.int .i64 0), (.string (.mk #[])), (.slice none 0 0), (.slice none 0 0), (.slice none 0 0), (.slice none 0 0), (.slice none 0 0)] 28 w fun t1 w2 =>
 Pu (bu data0) fun t3 =>
 Pu (aa (.int .i64) .lss t3 (.int .i64 8)) fun t4 =>
 IfB t4
 (RunS prog (Instr.build 28 #[]) w2 fun t5 w6 =>
 St 16 w6 t1 t5 fun u7 w8 =>
 bU (bF prog (fun j => bif Nat.beq j 2 then t1 else bif Nat.beq j 3 then (.int .i64 0) else bif Nat.beq j 4 then (.int .i64 40) else undef) w8 [(ResultVar.cell 2 28), (ResultVar.tmp 3), (ResultVar.tmp 4)]) w8 k)
 (Pu (slS data0 none (some (.int .i64 4))) fun t9 =>
 Cl prog 83 [t9] w2 fun t10 w11 =>
 Pu (aa (.int .i64) .lss t10 (.int .i64 1)) fun t12 =>
 Gd (isB false t12) (fun kk => kk t10 w11) w11 fun t13 w14 =>
 Gd (isB false t12) (fun kk => Pu (aa (.int .i64) .gtr t13 (.int .i64 65535)) fun vv => kk vv w14) w14 fun t15 w16 =>
 Pu (ak t12 (.bool true) t15) fun t17 =>
 IfB t17
 (RunS prog (Instr.build 28 #[]) w16 fun t18 w19 =>
 St 16 w19 t1 t18 fun u20 w21 =>
 bU (bF prog (fun j => bif Nat.beq j 2 then t1 else bif Nat.beq j 3 then (.int .i64 0) else bif Nat.beq j 4 then (.int .i64 41) else undef) w21 [(ResultVar.cell 2 28), (ResultVar.tmp 3), (ResultVar.tmp 4)]) w21 k)
 (Pu (bu data0) fun t22 =>
 Pu (aa (.int .i64) .sub t22 (.int .i64 8)) fun t23 =>
 Pu (aa (.int .i64) .lss t23 t10) fun t24 =>
 IfB t24
 (RunS prog (Instr.build 28 #[]) w16 fun t25 w26 =>
 St 16 w26 t1 t25 fun u27 w28 =>
 bU (bF prog (fun j => bif Nat.beq j 2 then t1 else bif Nat.beq j 3 then (.int .i64 0) else bif Nat.beq j 4 then (.int .i64 40) else undef) w28 [(ResultVar.cell 2 28), (ResultVar.tmp 3), (ResultVar.tmp 4)]) w28 k)
 (Pu (aa (.int .i64) .add (.int .i64 8) t10) fun t29 =>
 Pu (slS data0 (some (.int .i64 8)) (some t29)) fun t30 =>
 Pu (slS data0 (some (.int .i64 4)) (some (.int .i64 8))) fun t31 =>
 Cl prog 83 [t31] w16 fun t32 w33 =>
 Cl prog 84 [t30] w33 fun t34 w35 =>
 Pu (cvI IntKind.i64 t34) fun t36 =>
 Pu (aa (.int .i64) .neq t32 t36) fun t37 =>
 IfB t37
 (RunS prog (Instr.build 28 #[]) w35 fun t38 w39 =>
 St 16 w39 t1 t38 fun u40 w41 =>
 bU (bF prog (fun j => bif Nat.beq j 2 then t1 else bif Nat.beq j 3 then (.int .i64 0) else bif Nat.beq j 4 then (.int .i64 30) else undef) w41 [(ResultVar.cell 2 28), (ResultVar.tmp 3), (ResultVar.tmp 4)]) w41 k)
 (Cl prog 85 [t30] w35 fun t42 w43 =>
 Pu (aJ t42 0) fun t44 =>
 Pu (aJ t42 1) fun t45 =>
 New #[(.int .i64 0), (.int .i64 0), (.int .i64 0), (.int .u8 0), (.int .i64 0), (.int .i64 0), (.int .i64 0), (.int .i64 0), (.int .i64 0), (.int .i64 0), (.string (.mk #[])), (.slice none 0 0), (.slice none 0 0), (.slice none 0 0), (.slice none 0 0), (.slice none 0 0)] 28 w43 fun r46 w47 =>
 St 16 w47 r46 t44 fun u48 w49 =>
 Pu (unV .not t45) fun t50 =>
 Gd (isB false t50) (fun kk => LdN 16 w49 r46 kk) w49 fun t51 w52 =>
 Gd (isB false t50) (fun kk => Cl prog 86 [t51] w52 kk) w52 fun t53 w54 =>
 Gd (isB false t50) (fun kk => Pu (aa (.int .i64) .neq t53 (.int .i64 0)) fun vv => kk vv w54) w54 fun t55 w56 =>
 Pu (ak t50 (.bool true) t55) fun t57 =>
 Gd (isB false t57) (fun kk => LdN 16 w56 r46 kk) w56 fun t58 w59 =>
 Gd (isB false t57) (fun kk => Cl prog 87 [t58] w59 kk) w59 fun t60 w61 =>
 Gd (isB false t57) (fun kk => kk t30 w61) w61 fun t62 w63 =>
 Gd (isB false t57) (fun kk => Pu (aa TypeDesc.string .neq t60 t62) fun vv => kk vv w63) w63 fun t64 w65 =>
 Pu (ak t57 (.bool true) t64) fun t66 =>
 IfB t66
 (RunS prog (Instr.build 28 #[]) w65 fun t67 w68 =>
 St 16 w68 t1 t67 fun u69 w70 =>
 bU (bF prog (fun j => bif Nat.beq j 2 then t1 else bif Nat.beq j 3 then (.int .i64 0) else bif Nat.beq j 4 then (.int .i64 41) else undef) w70 [(ResultVar.cell 2 28), (ResultVar.tmp 3), (ResultVar.tmp 4)]) w70 k)
 (LdN 16 w65 r46 fun t71 w72 =>
 Pu (aa (.int .i64) .add (.int .i64 8) t10) fun t73 =>
 St 16 w72 t1 t71 fun u74 w75 =>
 bU (bF prog (fun j => bif Nat.beq j 2 then t1 else bif Nat.beq j 3 then t73 else bif Nat.beq j 4 then (.int .i64 0) else undef) w75 [(ResultVar.cell 2 28), (ResultVar.tmp 3), (ResultVar.tmp 4)]) w75 k)))))
theorem c14 {k : KV} {data0 : Value} {w : World} (h : T14 k data0 w) : Cl prog 14 [data0] w k :=
 cE ac mixed L0 J0 Tryz.func14 (by kernel_rfl) (by kernel_rfl) (by kernel_rfl) h
def T85 (k : KV) (s0 : Value) (w : World) : Prop :=
 New #[(.int .i64 0), (.int .i64 0), (.int .i64 0), (.int .u8 0), (.int .i64 0), (.int .i64 0), (.int .i64 0), (.int .i64 0), (.int .i64 0), (.int .i64 0), (.string (.mk #[])), (.slice none 0 0), (.slice none 0 0), (.slice none 0 0), (.slice none 0 0), (.slice none 0 0)] 28 w fun t1 w2 =>
 RunS prog (Instr.build 188 #[(0, s0)]) w2 fun t3 w4 =>
 New (Value.cells t3) 188 w4 fun t5 w6 =>
 New #[(.int .i64 0), (.int .i64 0), (.int .i64 0), (.int .u8 0), (.int .i64 0), (.int .i64 0), (.int .i64 0), (.int .i64 0), (.int .i64 0), (.int .i64 0), (.string (.mk #[])), (.slice none 0 0), (.slice none 0 0), (.slice none 0 0), (.slice none 0 0), (.slice none 0 0)] 28 w6 fun x7 w8 =>
 Cl prog 159 [t5, (.int .i64 4611686018427387904)] w8 fun t9 w10 =>
 Pu (faV 0 x7) fun t11 =>
 St 1 w10 t11 t9 fun u12 w13 =>
 Cl prog 159 [t5, (.int .i64 4611686018427387904)] w13 fun t14 w15 =>
 Pu (faV 1 x7) fun t16 =>
 St 1 w15 t16 t14 fun u17 w18 =>
 Cl prog 159 [t5, (.int .i64 4611686018427387904)] w18 fun t19 w20 =>
 Pu (faV 2 x7) fun t21 =>
 St 1 w20 t21 t19 fun u22 w23 =>
 Cl prog 159 [t5, (.int .i64 13)] w23 fun t24 w25 =>
 Pu (cvI IntKind.u8 t24) fun t26 =>
 Pu (faV 3 x7) fun t27 =>
 St 1 w25 t27 t26 fun u28 w29 =>
 Cl prog 159 [t5, (.int .i64 4611686018427387904)] w29 fun t30 w31 =>
 Pu (faV 4 x7) fun t32 =>
 St 1 w31 t32 t30 fun u33 w34 =>
 Cl prog 159 [t5, (.int .i64 4611686018427387904)] w34 fun t35 w36 =>
 Pu (faV 5 x7) fun t37 =>
 St 1 w36 t37 t35 fun u38 w39 =>
 Cl prog 159 [t5, (.int .i64 4611686018427387904)] w39 fun t40 w41 =>
 Pu (faV 6 x7) fun t42 =>
 St 1 w41 t42 t40 fun u43 w44 =>
 Cl prog 159 [t5, (.int .i64 4611686018427387904)] w44 fun t45 w46 =>
 Pu (faV 7 x7) fun t47 =>
 St 1 w46 t47 t45 fun u48 w49 =>
 Cl prog 159 [t5, (.int .i64 4611686018427387904)] w49 fun t50 w51 =>
 Pu (faV 8 x7) fun t52 =>
 St 1 w51 t52 t50 fun u53 w54 =>
 Cl prog 159 [t5, (.int .i64 4611686018427387904)] w54 fun t55 w56 =>
 Pu (faV 9 x7) fun t57 =>
 St 1 w56 t57 t55 fun u58 w59 =>
 Cl prog 160 [t5, (.int .i64 512)] w59 fun t60 w61 =>
 Pu (faV 10 x7) fun t62 =>
 St 1 w61 t62 t60 fun u63 w64 =>
 Cl prog 161 [t5, (.int .i64 255)] w64 fun t65 w66 =>
 Pu (faV 11 x7) fun t67 =>
 St 1 w66 t67 t65 fun u68 w69 =>
 Cl prog 161 [t5, (.int .i64 255)] w69 fun t70 w71 =>
 Pu (faV 12 x7) fun t72 =>
 St 1 w71 t72 t70 fun u73 w74 =>
 Cl prog 159 [t5, (.int .i64 4)] w74 fun t75 w76 =>
 ∃ (I77 : List Value → World → Prop) (m78 : List Value → World → Nat), I77 [(.int .i64 0)] w76 ∧
 ∀ (g125 : Fr) (w124 : World), ∀ i81 : Value, I77 [i81] w124 →
 (Pu (aa (.int .i64) .lss i81 t75) fun t126 =>
 Gd (isB true t126) (fun kk => kk t5 w124) w124 fun t127 w128 =>
 Gd (isB true t126) (fun kk => Pu (au t127) fun vv => kk vv w128) w128 fun t129 w130 =>
 Gd (isB true t126) (fun kk => Pu (faV 2 t129) fun vv => kk vv w130) w130 fun t131 w132 =>
 Gd (isB true t126) (fun kk => Ld w132 t131 kk) w132 fun t133 w134 =>
 Gd (isB true t126) (fun kk => Pu (aa (.int .i64) .eql t133 (.int .i64 0)) fun vv => kk vv w134) w134 fun t135 w136 =>
 Pu (ak t126 t135 (.bool false)) fun t137 =>
 IfB t137
 (Cl prog 159 [t5, (.int .i64 4611686018427387904)] w136 fun t138 w139 =>
 Cl prog 160 [t5, (.int .i64 512)] w139 fun t140 w141 =>
 Pu (bu t140) fun t142 =>
 Pu (aa (.int .i64) .sub (.int .i64 512) t142) fun t143 =>
 RunS prog (Instr.makeSlice 123 t143 t143) w141 fun t144 w145 =>
 RunS prog (convert 123 9 t144) w145 fun t146 w147 =>
 Pu (aa TypeDesc.string .add t140 t146) fun t148 =>
 Cl prog 127 [t148] w147 fun t149 w150 =>
 Pu (aJ t149 0) fun t151 =>
 Pu (aJ t149 1) fun t152 =>
 New #[(.int .i64 0), (.int .i64 0), (.int .i64 0), (.int .i64 0), (.string (.mk #[])), (.slice none 0 0)] 61 w150 fun p153 w154 =>
 St 6 w154 p153 t151 fun u155 w156 =>
 Pu (aa (.int .i64) .neq t152 (.int .i64 0)) fun t157 =>
 IfB t157
 (RunS prog (Instr.build 28 #[]) w156 fun t158 w159 =>
 St 16 w159 t1 t158 fun u160 w161 =>
 bU (bF prog (fun j => bif Nat.beq j 2 then t1 else bif Nat.beq j 3 then (.bool false) else undef) w161 [(ResultVar.cell 2 28), (ResultVar.tmp 3)]) w161 k)
 (Pu (faV 13 x7) fun t162 =>
 Ld w156 t162 fun t163 w164 =>
 LdN 6 w164 p153 fun t165 w166 =>
 RunS prog (Instr.build 118 #[(0, t138), (1, t165)]) w166 fun t167 w168 =>
 RunS prog (Instr.buildSlice 24 1 #[(0, t167)]) w168 fun t169 w170 =>
 RunS prog (Builtin.append_ #[24, 24] 24 #[t163, t169]) w170 fun t171 w172 =>
 Pu (faV 13 x7) fun t173 =>
 St 1 w172 t173 t171 fun u174 w175 =>
 Pu (aa (.int .i64) .add i81 (.int .i64 1)) fun t176 =>
 I77 [t176] w175 ∧ m78 [t176] w175 < m78 [i81] w124))
 (Cl prog 159 [t5, (.int .i64 8192)] w136 fun t177 w178 =>
 ∃ (I179 : List Value → World → Prop) (m180 : List Value → World → Nat), I179 [(.int .i64 0)] w178 ∧
 ∀ (g206 : Fr) (w205 : World), ∀ i182 : Value, I179 [i182] w205 →
 (Pu (aa (.int .i64) .lss i182 t177) fun t207 =>
 Gd (isB true t207) (fun kk => kk t5 w205) w205 fun t208 w209 =>
 Gd (isB true t207) (fun kk => Pu (au t208) fun vv => kk vv w209) w209 fun t210 w211 =>
 Gd (isB true t207) (fun kk => Pu (faV 2 t210) fun vv => kk vv w211) w211 fun t212 w213 =>
 Gd (isB true t207) (fun kk => Ld w213 t212 kk) w213 fun t214 w215 =>
 Gd (isB true t207) (fun kk => Pu (aa (.int .i64) .eql t214 (.int .i64 0)) fun vv => kk vv w215) w215 fun t216 w217 =>
 Pu (ak t207 t216 (.bool false)) fun t218 =>
 IfB t218
 (∃ C219 : World → Prop, C219 (World.drew w217) ∧
 (Pu (faV 14 x7) fun t220 =>
 ∃ t221, (∀ w222, C219 w222 → Ld w222 t220 fun t223 w224 =>
 t223 = t221 ∧ w224 = w222) ∧
 (Cl prog 159 [t5, (.int .i64 4611686018427387904)] (World.drew w217) fun t225 w226 =>
 C219 w226 ∧
 (Cl prog 159 [t5, (.int .i64 4611686018427387904)] w226 fun t227 w228 =>
 C219 w228 ∧
 (RunS prog (Instr.build 120 #[(0, t225), (1, t227)]) w228 fun t229 w230 =>
 w230 = w228 ∧
 RunS prog (Instr.buildSlice 25 1 #[(0, t229)]) w228 fun t231 w232 =>
 C219 w232 ∧
 (RunS prog (Builtin.append_ #[25, 25] 25 #[t221, t231]) w232 fun t233 w234 =>
 Pu (faV 14 x7) fun t235 =>
 St 1 w234 t235 t233 fun u236 w237 =>
 Pu (aa (.int .i64) .add i182 (.int .i64 1)) fun t238 =>
 I179 [t238] w237 ∧ m180 [t238] w237 < m180 [i182] w205))))))
 (Cl prog 159 [t5, (.int .i64 1024)] w217 fun t239 w240 =>
 ∃ (I241 : List Value → World → Prop) (m242 : List Value → World → Nat), I241 [(.int .i64 0)] w240 ∧
 ∀ (g268 : Fr) (w267 : World), ∀ i244 : Value, I241 [i244] w267 →
 (Pu (aa (.int .i64) .lss i244 t239) fun t269 =>
 Gd (isB true t269) (fun kk => kk t5 w267) w267 fun t270 w271 =>
 Gd (isB true t269) (fun kk => Pu (au t270) fun vv => kk vv w271) w271 fun t272 w273 =>
 Gd (isB true t269) (fun kk => Pu (faV 2 t272) fun vv => kk vv w273) w273 fun t274 w275 =>
 Gd (isB true t269) (fun kk => Ld w275 t274 kk) w275 fun t276 w277 =>
 Gd (isB true t269) (fun kk => Pu (aa (.int .i64) .eql t276 (.int .i64 0)) fun vv => kk vv w277) w277 fun t278 w279 =>
 Pu (ak t269 t278 (.bool false)) fun t280 =>
 IfB t280
 (∃ C281 : World → Prop, C281 (World.drew w279) ∧
 (Pu (faV 15 x7) fun t282 =>
 ∃ t283, (∀ w284, C281 w284 → Ld w284 t282 fun t285 w286 =>
 t285 = t283 ∧ w286 = w284) ∧
 (Cl prog 159 [t5, (.int .i64 4611686018427387904)] (World.drew w279) fun t287 w288 =>
 C281 w288 ∧
 (Cl prog 159 [t5, (.int .i64 4611686018427387904)] w288 fun t289 w290 =>
 C281 w290 ∧
 (RunS prog (Instr.build 122 #[(0, t287), (1, t289)]) w290 fun t291 w292 =>
 w292 = w290 ∧
 RunS prog (Instr.buildSlice 26 1 #[(0, t291)]) w290 fun t293 w294 =>
 C281 w294 ∧
 (RunS prog (Builtin.append_ #[26, 26] 26 #[t283, t293]) w294 fun t295 w296 =>
 Pu (faV 15 x7) fun t297 =>
 St 1 w296 t297 t295 fun u298 w299 =>
 Pu (aa (.int .i64) .add i244 (.int .i64 1)) fun t300 =>
 I241 [t300] w299 ∧ m242 [t300] w299 < m242 [i244] w267))))))
 (∃ C301 : World → Prop, C301 (World.drew w279) ∧
 (∃ t302, (∀ w303, C301 w303 → LdN 16 w303 x7 fun t304 w305 =>
 t304 = t302 ∧ w305 = w303) ∧
 (Cl prog 162 [t5] (World.drew w279) fun t306 w307 =>
 C301 w307 ∧
 (Pu (aa (.int .i64) .eql t306 (.int .i64 0)) fun t308 =>
 St 16 w307 t1 t302 fun u309 w310 =>
 bU (bF prog (fun j => bif Nat.beq j 2 then t1 else bif Nat.beq j 3 then t308 else undef) w310 [(ResultVar.cell 2 28), (ResultVar.tmp 3)]) w310 k)))))))))
end Go.Proofs.YthbngnlmgplijaaGreatDoor
