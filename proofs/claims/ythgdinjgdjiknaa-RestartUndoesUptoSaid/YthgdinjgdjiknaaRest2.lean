/- What a restart finds. -/
import Derived.Test.YthgdinjgdjiknaaRest
namespace Go.Proofs.Ythgdinjgdjiknaa
open Go.Al Go.Proofs
set_option linter.unusedVariables false
set_option linter.unusedSimpArgs false
set_option linter.unusedSectionVars false
set_option maxRecDepth 100000

/-! ### Plainly -/
structure Hd where
  xid : Int
  page : Int
  frozen : Int
def pgs (p : Int) (l : List ImgT) : Int := l.foldl (fun p g => bif decide (g.1 ≤ 65535) then max p (g.1 + 1) else p) p
def hx1 (m : Int) (h : Hd) (r : Rc) : Int := bif mine r && !xBefore m r.xid h.xid then xAdd m r.xid 1 else h.xid
def hstep (m : Int) (h : Hd) (r : Rc) : Hd :=
  bif decide (r.kind ≠ 11) then ⟨hx1 m h r, pgs h.page r.imgs, h.frozen⟩ else ⟨bif xBefore m (hx1 m h r) r.new then r.new else hx1 m h r, pgs h.page r.imgs, r.new⟩
def lstep (M : List (Int × Int)) (r : Rc) : List (Int × Int) :=
  bif !mine r then M else bif decide (r.kind = 7) || decide (r.kind = 8) then delD M r.xid else bif decide (r.kind = 6) then setD M r.xid r.next else setD M r.xid r.lsn
def bstep (D : List (Int × Rc)) (r : Rc) : List (Int × Rc) := match getD D r.lsn with
  | some _ => D
  | none => setD D r.lsn r
def lastM (rs : List Rc) : List (Int × Int) := rs.foldl lstep []
def byM (rs : List Rc) : List (Int × Rc) := rs.foldl bstep []
def lastOf (rs : List Rc) (x : Int) : Int := (getD (lastM rs) x).getD 0
def losers (rs : List Rc) : List (Int × Int) := (sortK (lastM rs)).map fun x => (x, lastOf rs x)
def ustep (rs : List Rc) (u x : Int) : Int := IntKind.i64.wrap (u + (leftN (byM rs) (rs.length + 1) (lastOf rs x) 0 : Nat))
def undoes (rs : List Rc) : Int := (sortK (lastM rs)).foldl (ustep rs) 0
def bcs (l : List (Int × Int)) : List Value := l.flatMap fun p => [iv p.1, iv p.2]
theorem bcs_app (l m : List (Int × Int)) : bcs (l ++ m) = bcs l ++ bcs m := by simp [bcs]
theorem bcs_len (l : List (Int × Int)) : (bcs l).length = l.length * 2 := by
  induction l with
  | nil => rfl
  | cons p l ih => simp only [bcs, List.flatMap_cons, List.length_append, List.length_cons, List.length_nil] at ih ⊢; omega
theorem foldl_take {α β : Type} (f : β → α → β) (b : β) {l : List α} {i : Nat} {x : α} (hi : l[i]? = some x) : (l.take (i + 1)).foldl f b = f ((l.take i).foldl f b) x := by
  rw [List.take_add_one, hi, List.foldl_append]; rfl

theorem img_ld {w : World} {v : Value} {L : List ImgT} (h : SliceAs vImg w v L) {i : Nat} {x : ImgT} (hi : L[i]? = some x) :
    ∃ ad cs, ixV 7 v (iv i) = some (.pointer (some ad)) ∧ cellsV w ad 7 = some (.agg cs) ∧ cs.size = 7 ∧ cs[0]? = some (iv x.1) ∧ (∀ u ∈ cs.toList, u.oneCell' = true) ∧ In x.1 := by
  obtain ⟨ad, cs', h1, h2, h3, _⟩ := h.ld hi (c := 7) (by kernel_rfl) .i64
  obtain ⟨pg, ⟨a, b, c, d, s, u1, u2⟩, u3⟩ := x
  obtain ⟨c0, r0, rfl, ⟨rfl, w0⟩, c1, r1, rfl, ⟨d0, q0, rfl, ⟨rfl, _⟩, d1, q1, rfl, ⟨rfl, _⟩, d2, q2, rfl, ⟨rfl, _⟩, d3, q3, rfl, ⟨rfl, _⟩, d4, q4, rfl, ⟨rfl, _⟩, d5, q5, rfl, ⟨a5, n5, k5, rfl⟩, h6⟩, h7⟩ := h2
  cases h6
  cases h7
  refine ⟨ad, _, h1, h3, rfl, rfl, ?_, i64_of_wf w0⟩
  intro u hu; simp at hu
  rcases hu with rfl | rfl | rfl | rfl | rfl | rfl | rfl <;> rfl

/-- What is found, in block g. -/
def fcs (redo : Int) (h : Hd) (lv : Value) (u : Int) : Array Value := #[iv redo, iv h.xid, iv h.page, iv h.frozen, lv, iv u]
def FdAt (w : World) (g : Nat) (redo : Int) (h : Hd) (lv : Value) (u : Int) : Prop := w.heap[g]? = some (.cells (fcs redo h lv u) 69)
section
variable {S : Nat → Prop} {w w' : World} {g : Nat} {redo : Int} {h : Hd} {lv : Value} {u : Int}
theorem FdAt.keep (h : FdAt w g redo h lv u) (hf : Fm S w w') (hs : ¬ S g) : FdAt w' g redo ‹Hd› lv u := hf.heap h hs
theorem FdAt.c0 (h : FdAt w g redo h lv u) : w.cell? ⟨g, 0, none⟩ = some (iv redo) := by rw [cell_at h]; rfl
theorem FdAt.c1 (h : FdAt w g redo h lv u) : w.cell? ⟨g, 1, none⟩ = some (iv (‹Hd›).xid) := by rw [cell_at h]; rfl
theorem FdAt.c2 (h : FdAt w g redo h lv u) : w.cell? ⟨g, 2, none⟩ = some (iv (‹Hd›).page) := by rw [cell_at h]; rfl
theorem FdAt.c3 (h : FdAt w g redo h lv u) : w.cell? ⟨g, 3, none⟩ = some (iv (‹Hd›).frozen) := by rw [cell_at h]; rfl
theorem FdAt.c4 (h : FdAt w g redo h lv u) : w.cell? ⟨g, 4, none⟩ = some lv := by rw [cell_at h]; rfl
theorem FdAt.c5 (h : FdAt w g redo h lv u) : w.cell? ⟨g, 5, none⟩ = some (iv u) := by rw [cell_at h]; rfl
end

theorem bld69 (a b c d : Int) (w : World) : (Instr.build 69 #[(0, iv a), (1, iv b), (2, iv c), (3, iv d)]).run Try.prog w = .ok (.agg #[iv a, iv b, iv c, iv d, .slice none 0 0, iv 0]) w := by kernel_rfl
theorem bld77 (a b : Int) (w : World) : (Instr.build 77 #[(0, iv a), (1, iv b)]).run Try.prog w = .ok (.agg #[iv a, iv b]) w := by kernel_rfl
theorem bs67 (a b : Int) (w : World) : (Instr.buildSlice 67 1 #[(0, .agg #[iv a, iv b])]).run Try.prog w = .ok (.slice (some ⟨w.heap.size, 0, none⟩) 1 1) (w.alloc (.cells #[iv a, iv b] 77)) := by kernel_rfl
theorem E67 : ElemT Try.prog 67 77 2 16 := elemT_of Try.underlying67 (by kernel_rfl)
theorem agg69 : aggB Try.prog 69 = some true := by kernel_rfl
theorem size69 : sizeB Try.prog 69 = some 6 := by kernel_rfl
theorem retFd {w : World} {g i : Nat} {cs : Array Value} (h : w.heap[g]? = some (.cells cs 69)) (hn : cs.size = 6) {f : Fr} (hf : f i = pv g) (k : KV) (hk : k (.agg cs) w) : RetO (resL Try.prog f w [.cell i 69]) w k := by
  simp only [resL, resV_blk hf agg69 size69 h hn, RetO, RetV]; exact hk
theorem fold_max (a b : Int) : foldV0 max2V [iv a, iv b] = some (iv (max a b)) := by
  have : foldV0 max2V [iv a, iv b] = some (iv (if b > a then b else a)) := rfl
  rw [this]; congr 2; split <;> omega

set_option maxHeartbeats 2000000 in
/-- The first walk over the records. -/
theorem first_walk {w0 w : World} {m : Int} (hm : In m) {v : Value} {rs : List Rc} (hv : SliceAs vRc w0 v rs) (hF0 : Fm (fun _ => False) w0 w) {g : Nat} (hg0 : w0.heap.size ≤ g) {redo : Int} {h : Hd} {lv : Value} {u : Int} (hg : FdAt w g redo h lv u) (hlv : lv.oneCell' = true) {k : World → Prop}
    (hk : ∀ w', FdAt w' g redo (rs.foldl (hstep m) h) lv u → Fm (· = g) w w' → k w') :
    (Pu (lenV v) fun t49_42 =>
      ∃ (I_43 : List Value → World → Prop) (m_44 : List Value → World → Nat), I_43 [(Value.int IntKind.i64 0)] w ∧
      ∀ (g_103 : Fr) (w_102 : World), ∀ t50_48 : Value, I_43 [t50_48] w_102 →
        (Pu (binV (TypeDesc.int IntKind.i64) .lss t50_48 t49_42) fun t51_104 =>
        IfB t51_104
          (Jn (fun vs_160 w_159 => ∀ g_161 : Fr, vs_160 = [] ∧
            (Pu (binV (TypeDesc.int IntKind.i64) .add t50_48 (Value.int IntKind.i64 1)) fun t103_162 =>
            I_43 [t103_162] w_159 ∧ m_44 [t103_162] w_159 < m_44 [t50_48] w_102))
          (fun jj_105 =>
          Pu (ixV 16 v t50_48) fun t52_163 =>
          LdN 16 w_102 t52_163 fun t53_164 w_165 =>
          New #[(Value.int IntKind.i64 0), (Value.int IntKind.i64 0), (Value.int IntKind.i64 0), (Value.int IntKind.u8 0), (Value.int IntKind.i64 0), (Value.int IntKind.i64 0), (Value.int IntKind.i64 0), (Value.int IntKind.i64 0), (Value.int IntKind.i64 0), (Value.int IntKind.i64 0), (Value.string (ByteArray.mk #[])), (Value.slice none 0 0), (Value.slice none 0 0), (Value.slice none 0 0), (Value.slice none 0 0), (Value.slice none 0 0)] 75 w_165 fun r12_166 w_167 =>
          St 16 w_167 r12_166 t53_164 fun u_168 w_169 =>
          Jn (fun vs_188 w_187 => ∀ g_189 : Fr, vs_188 = [] ∧
              (Pu (faV 13 r12_166) fun t70_190 =>
              Ld w_187 t70_190 fun t71_191 w_192 =>
              Pu (lenV t71_191) fun t72_193 =>
              ∃ (I_194 : List Value → World → Prop) (m_195 : List Value → World → Nat), I_194 [(Value.int IntKind.i64 0)] w_192 ∧
              ∀ (g_214 : Fr) (w_213 : World), ∀ t73_198 : Value, I_194 [t73_198] w_213 →
                (Pu (binV (TypeDesc.int IntKind.i64) .lss t73_198 t72_193) fun t74_215 =>
                IfB t74_215
                  (Jn (fun vs_231 w_230 => ∀ g_232 : Fr, vs_231 = [] ∧
                    (Pu (binV (TypeDesc.int IntKind.i64) .add t73_198 (Value.int IntKind.i64 1)) fun t87_233 =>
                    I_194 [t87_233] w_230 ∧ m_195 [t87_233] w_230 < m_195 [t73_198] w_213))
                  (fun jj_216 =>
                  Pu (ixV 7 t71_191 t73_198) fun t75_234 =>
                  LdN 7 w_213 t75_234 fun t76_235 w_236 =>
                  New #[(Value.int IntKind.i64 0), (Value.int IntKind.i64 0), (Value.int IntKind.i64 0), (Value.int IntKind.i64 0), (Value.int IntKind.i64 0), (Value.string (ByteArray.mk #[])), (Value.slice none 0 0)] 138 w_236 fun m14_237 w_238 =>
                  St 7 w_238 m14_237 t76_235 fun u_239 w_240 =>
                  Pu (faV 0 m14_237) fun t77_241 =>
                  Ld w_240 t77_241 fun t78_242 w_243 =>
                  Pu (binV (TypeDesc.int IntKind.i64) .leq t78_242 (Value.int IntKind.i64 65535)) fun t79_244 =>
                  IfB t79_244
                    (Pu (faV 2 (pv g)) fun t80_245 =>
                      Ld w_243 t80_245 fun t81_246 w_247 =>
                      Pu (faV 0 m14_237) fun t82_248 =>
                      Ld w_247 t82_248 fun t83_249 w_250 =>
                      Pu (binV (TypeDesc.int IntKind.i64) .add t83_249 (Value.int IntKind.i64 1)) fun t84_251 =>
                      Pu (foldV0 max2V [t81_246, t84_251]) fun t85_252 =>
                      Pu (faV 2 (pv g)) fun t86_253 =>
                      St 1 w_250 t86_253 t85_252 fun u_254 w_255 =>
                      jj_216 [] w_255)
                    (jj_216 [] w_243)))
                  (Pu (faV 3 r12_166) fun t88_256 =>
              Ld w_213 t88_256 fun t89_257 w_258 =>
              Pu (binV (TypeDesc.int IntKind.u8) .neq t89_257 (Value.int IntKind.u8 11)) fun t90_259 =>
              IfB t90_259
                (jj_105 [] w_258)
                (Pu (faV 8 r12_166) fun t91_260 =>
              Ld w_258 t91_260 fun t92_261 w_262 =>
              Pu (faV 3 (pv g)) fun t93_263 =>
              St 1 w_262 t93_263 t92_261 fun u_264 w_265 =>
              Pu (faV 1 (pv g)) fun t95_266 =>
              Ld w_265 t95_266 fun t96_267 w_268 =>
              Pu (faV 8 r12_166) fun t97_269 =>
              Ld w_268 t97_269 fun t98_270 w_271 =>
              Cl Try.prog 77 [iv m, t96_267, t98_270] w_271 fun t99_272 w_273 =>
              IfB t99_272
                (Pu (faV 8 r12_166) fun t100_274 =>
                  Ld w_273 t100_274 fun t101_275 w_276 =>
                  Pu (faV 1 (pv g)) fun t102_277 =>
                  St 1 w_276 t102_277 t101_275 fun u_278 w_279 =>
                  jj_105 [] w_279)
                (jj_105 [] w_273))))))
            (fun jj_170 =>
            LdN 16 w_169 r12_166 fun t54_280 w_281 =>
            Cl Try.prog 76 [t54_280] w_281 fun t55_282 w_283 =>
            Gd (isB true t55_282) (fun kk => kk (iv m) w_283) w_283 fun t57_284 w_285 =>
            Gd (isB true t55_282) (fun kk => Pu (faV 4 r12_166) fun vv => kk vv w_285) w_285 fun t58_286 w_287 =>
            Gd (isB true t55_282) (fun kk => Ld w_287 t58_286 kk) w_287 fun t59_288 w_289 =>
            Gd (isB true t55_282) (fun kk => Pu (faV 1 (pv g)) fun vv => kk vv w_289) w_289 fun t60_290 w_291 =>
            Gd (isB true t55_282) (fun kk => Ld w_291 t60_290 kk) w_291 fun t61_292 w_293 =>
            Gd (isB true t55_282) (fun kk => Cl Try.prog 77 [t57_284, t59_288, t61_292] w_293 kk) w_293 fun t62_294 w_295 =>
            Gd (isB true t55_282) (fun kk => Pu (unV .not t62_294) fun vv => kk vv w_295) w_295 fun t63_296 w_297 =>
            Pu (pickV t55_282 t63_296 (Value.bool false)) fun t64_298 =>
            IfB t64_298
              (Pu (faV 4 r12_166) fun t66_299 =>
                Ld w_297 t66_299 fun t67_300 w_301 =>
                Cl Try.prog 78 [iv m, t67_300, (Value.int IntKind.i64 1)] w_301 fun t68_302 w_303 =>
                Pu (faV 1 (pv g)) fun t69_304 =>
                St 1 w_303 t69_304 t68_302 fun u_305 w_306 =>
                jj_170 [] w_306)
              (jj_170 [] w_297))))
          (k w_102))) := by
  have hlen := hv.len
  unfold maxLen at hlen
  have hgl := lt_of_heap hg
  simp only [Pu_some, extV_0, extV_1, extV_2, extV_3, nilV_ptr, nilV_fn, faV_ptr, lenV_sl, lenS_s, capV_sl, pickV_t, pickV_f, unV_not, unV_neg, isB_t, isB_f, isB_u, binV_add, binV_sub, binV_mul, binV_eql, binV_neq, binV_lss, binV_leq, binV_gtr, binV_geq, binV_seql, binV_sneq, binV_slss, binV_beql, binV_bneq, binV_peql, binV_pneq, add_add, add_none, Go.Al.add_zero, Nat.zero_add, Nat.add_zero, IfB_t, IfB_f, Gd_t, Gd_f, Ld_ptr, LdN_ptr, Option.isNone_some, Option.isNone_none, Option.isSome_some, Option.isSome_none, Bool.not_true, Bool.not_false, drew_cell, drew_heap, hv.lenV]
  refine ⟨fun vs w2 => ∃ i : Nat, vs = [iv i] ∧ i ≤ rs.length ∧ FdAt w2 g redo ((rs.take i).foldl (hstep m) h) lv u ∧ Fm (· = g) w w2, fun vs _ => (rs.length - nth vs 0).toNat, ⟨0, rfl, by omega, hg, Fm.refl _ _⟩, ?_⟩
  rintro _ w2 iv_ ⟨i, hvs, hi, hg2, hf2⟩
  cases hvs
  have hF2 : Fm (fun _ => False) w0 w2 := Fm.own hF0 hf2 (by rintro x rfl; omega)
  have hgl2 := lt_of_heap hg2
  by_cases hlt : i < rs.length
  · have e1 : decide ((i : Int) < (rs.length : Int)) = true := by rw [decide_eq_true_eq]; omega
    have e2 : IntKind.i64.wrap ((i : Int) + 1) = ((i + 1 : Nat) : Int) := by rw [wrap_id] <;> omega
    have hx : rs[i]? = some rs[i] := List.getElem?_eq_getElem hlt
    generalize rs[i] = r at hx
    have hstp := foldl_take (hstep m) h hx
    generalize (rs.take i).foldl (hstep m) h = H at hg2 hstp
    obtain ⟨ad, cs, hix, hrc0, hld0⟩ := rec_ld hv hx
    have hrc := hrc0.keep hF2
    have hld := cellsV_keep hld0 hF2 (fun e => e)
    simp only [Pu_some, extV_0, extV_1, extV_2, extV_3, nilV_ptr, nilV_fn, faV_ptr, lenV_sl, lenS_s, capV_sl, pickV_t, pickV_f, unV_not, unV_neg, isB_t, isB_f, isB_u, binV_add, binV_sub, binV_mul, binV_eql, binV_neq, binV_lss, binV_leq, binV_gtr, binV_geq, binV_seql, binV_sneq, binV_slss, binV_beql, binV_bneq, binV_peql, binV_pneq, add_add, add_none, Go.Al.add_zero, Nat.zero_add, Nat.add_zero, IfB_t, IfB_f, Gd_t, Gd_f, Ld_ptr, LdN_ptr, Option.isNone_some, Option.isNone_none, Option.isSome_some, Option.isSome_none, Bool.not_true, Bool.not_false, drew_cell, drew_heap, e1]
    refine Jn_at (fun vs w3 => vs = [] ∧ FdAt w3 g redo (hstep m H r) lv u ∧ Fm (· = g) w2 w3) ?_ ?_
    · rintro _ w3 ⟨rfl, hg3, hf3⟩ _
      refine ⟨(by trivial), ?_⟩
      simp only [Pu_some, extV_0, extV_1, extV_2, extV_3, nilV_ptr, nilV_fn, faV_ptr, lenV_sl, lenS_s, capV_sl, pickV_t, pickV_f, unV_not, unV_neg, isB_t, isB_f, isB_u, binV_add, binV_sub, binV_mul, binV_eql, binV_neq, binV_lss, binV_leq, binV_gtr, binV_geq, binV_seql, binV_sneq, binV_slss, binV_beql, binV_bneq, binV_peql, binV_pneq, add_add, add_none, Go.Al.add_zero, Nat.zero_add, Nat.add_zero, IfB_t, IfB_f, Gd_t, Gd_f, Ld_ptr, LdN_ptr, Option.isNone_some, Option.isNone_none, Option.isSome_some, Option.isSome_none, Bool.not_true, Bool.not_false, drew_cell, drew_heap, e2]
      refine ⟨⟨i + 1, rfl, by omega, ?_, hf2.trans hf3 (fun _ _ e => e) (fun _ _ e => e)⟩, by simp only [nth_0]; omega⟩
      rw [hstp]; exact hg3
    intro kk hkk
    simp only [Pu_some, extV_0, extV_1, extV_2, extV_3, nilV_ptr, nilV_fn, faV_ptr, lenV_sl, lenS_s, capV_sl, pickV_t, pickV_f, unV_not, unV_neg, isB_t, isB_f, isB_u, binV_add, binV_sub, binV_mul, binV_eql, binV_neq, binV_lss, binV_leq, binV_gtr, binV_geq, binV_seql, binV_sneq, binV_slss, binV_beql, binV_bneq, binV_peql, binV_pneq, add_add, add_none, Go.Al.add_zero, Nat.zero_add, Nat.add_zero, IfB_t, IfB_f, Gd_t, Gd_f, Ld_ptr, LdN_ptr, Option.isNone_some, Option.isNone_none, Option.isSome_some, Option.isSome_none, Bool.not_true, Bool.not_false, drew_cell, drew_heap, hix, hld]
    refine New_any ?_
    intro x12 w3 hx12 hs3 hw3 hf3
    refine St_all hw3 rfl hrc.size hrc.one ?_
    intro w4 hw4 hs4 hf4
    have hf2_4 : Fm (fun _ => False) w2 w4 := Fm.own hf3 hf4 (by rintro y rfl; omega)
    have hr4 : RcAt w4 x12 r := ⟨cs, hw4, hrc.keep hf2_4⟩
    have hg4 := hg2.keep hf2_4 (fun e => e)
    have hx12g : x12 ≠ g := by omega
    have upg : ∀ {a b : World}, Fm (fun _ => False) a b → Fm (· = g) a b := fun hf => hf.mono (fun _ _ e => e.elim)
    /- behind the id -/
    refine Jn_at (fun vs w5 => vs = [] ∧ FdAt w5 g redo ⟨hx1 m H r, H.page, H.frozen⟩ lv u ∧ Fm (· = g) w4 w5) ?_ ?_
    · rintro _ w5 ⟨rfl, hg5, hf5⟩ _
      refine ⟨(by trivial), ?_⟩
      obtain ⟨s1, s2, im, s4, s5, hcs, _, him⟩ := hrc0.ex
      have cell : ∀ {j : Nat} {val : Value} {w' : World}, Fm (· = g) w4 w' → (rcc r s1 s2 im s4 s5)[j]? = some val → w'.cell? ⟨x12, j, none⟩ = some val := by
        intro j val w' hf hj
        rw [cell_at (hf.heap hw4 hx12g), hcs]; exact hj
      have c13 : w5.cell? ⟨x12, 13, none⟩ = some im := cell hf5 rfl
      have hilen := him.len
      unfold maxLen at hilen
      simp only [Pu_some, extV_0, extV_1, extV_2, extV_3, nilV_ptr, nilV_fn, faV_ptr, lenV_sl, lenS_s, capV_sl, pickV_t, pickV_f, unV_not, unV_neg, isB_t, isB_f, isB_u, binV_add, binV_sub, binV_mul, binV_eql, binV_neq, binV_lss, binV_leq, binV_gtr, binV_geq, binV_seql, binV_sneq, binV_slss, binV_beql, binV_bneq, binV_peql, binV_pneq, add_add, add_none, Go.Al.add_zero, Nat.zero_add, Nat.add_zero, IfB_t, IfB_f, Gd_t, Gd_f, Ld_ptr, LdN_ptr, Option.isNone_some, Option.isNone_none, Option.isSome_some, Option.isSome_none, Bool.not_true, Bool.not_false, drew_cell, drew_heap, c13, him.lenV]
      refine ⟨fun vs w6 => ∃ j : Nat, vs = [iv j] ∧ j ≤ r.imgs.length ∧ FdAt w6 g redo ⟨hx1 m H r, pgs H.page (r.imgs.take j), H.frozen⟩ lv u ∧ Fm (· = g) w4 w6, fun vs _ => (r.imgs.length - nth vs 0).toNat, ⟨0, rfl, by omega, hg5, hf5⟩, ?_⟩
      rintro _ w6 jv ⟨j, hvs, hj, hg6, hf6⟩
      cases hvs
      by_cases hjl : j < r.imgs.length
      · have f1 : decide ((j : Int) < (r.imgs.length : Int)) = true := by rw [decide_eq_true_eq]; omega
        have f2 : IntKind.i64.wrap ((j : Int) + 1) = ((j + 1 : Nat) : Int) := by rw [wrap_id] <;> omega
        have hxj : r.imgs[j]? = some r.imgs[j] := List.getElem?_eq_getElem hjl
        generalize r.imgs[j] = q at hxj
        have hpg : pgs H.page (r.imgs.take (j + 1)) = bif decide (q.1 ≤ 65535) then max (pgs H.page (r.imgs.take j)) (q.1 + 1) else pgs H.page (r.imgs.take j) := foldl_take _ _ hxj
        generalize pgs H.page (r.imgs.take j) = P at hg6 hpg
        have him6 : SliceAs vImg w6 im r.imgs := him.keep (Fm.own (Fmf hF2 hf2_4) hf6 (by rintro y rfl; omega))
        obtain ⟨ad2, ics, hix2, hld2, hsz2, hc2, hone2, hin2⟩ := img_ld him6 hxj
        simp only [Pu_some, extV_0, extV_1, extV_2, extV_3, nilV_ptr, nilV_fn, faV_ptr, lenV_sl, lenS_s, capV_sl, pickV_t, pickV_f, unV_not, unV_neg, isB_t, isB_f, isB_u, binV_add, binV_sub, binV_mul, binV_eql, binV_neq, binV_lss, binV_leq, binV_gtr, binV_geq, binV_seql, binV_sneq, binV_slss, binV_beql, binV_bneq, binV_peql, binV_pneq, add_add, add_none, Go.Al.add_zero, Nat.zero_add, Nat.add_zero, IfB_t, IfB_f, Gd_t, Gd_f, Ld_ptr, LdN_ptr, Option.isNone_some, Option.isNone_none, Option.isSome_some, Option.isSome_none, Bool.not_true, Bool.not_false, drew_cell, drew_heap, f1]
        refine Jn_at (fun vs w7 => vs = [] ∧ FdAt w7 g redo ⟨hx1 m H r, pgs H.page (r.imgs.take (j + 1)), H.frozen⟩ lv u ∧ Fm (· = g) w4 w7) ?_ ?_
        · rintro _ w7 ⟨rfl, hg7, hf7⟩ _
          refine ⟨(by trivial), ?_⟩
          simp only [Pu_some, extV_0, extV_1, extV_2, extV_3, nilV_ptr, nilV_fn, faV_ptr, lenV_sl, lenS_s, capV_sl, pickV_t, pickV_f, unV_not, unV_neg, isB_t, isB_f, isB_u, binV_add, binV_sub, binV_mul, binV_eql, binV_neq, binV_lss, binV_leq, binV_gtr, binV_geq, binV_seql, binV_sneq, binV_slss, binV_beql, binV_bneq, binV_peql, binV_pneq, add_add, add_none, Go.Al.add_zero, Nat.zero_add, Nat.add_zero, IfB_t, IfB_f, Gd_t, Gd_f, Ld_ptr, LdN_ptr, Option.isNone_some, Option.isNone_none, Option.isSome_some, Option.isSome_none, Bool.not_true, Bool.not_false, drew_cell, drew_heap, f2]
          exact ⟨⟨j + 1, rfl, by omega, hg7, hf7⟩, by simp only [nth_0]; omega⟩
        intro kk2 hkk2
        rw [hpg] at hkk2
        simp only [Pu_some, extV_0, extV_1, extV_2, extV_3, nilV_ptr, nilV_fn, faV_ptr, lenV_sl, lenS_s, capV_sl, pickV_t, pickV_f, unV_not, unV_neg, isB_t, isB_f, isB_u, binV_add, binV_sub, binV_mul, binV_eql, binV_neq, binV_lss, binV_leq, binV_gtr, binV_geq, binV_seql, binV_sneq, binV_slss, binV_beql, binV_bneq, binV_peql, binV_pneq, add_add, add_none, Go.Al.add_zero, Nat.zero_add, Nat.add_zero, IfB_t, IfB_f, Gd_t, Gd_f, Ld_ptr, LdN_ptr, Option.isNone_some, Option.isNone_none, Option.isSome_some, Option.isSome_none, Bool.not_true, Bool.not_false, drew_cell, drew_heap, hix2, hld2]
        refine New_any ?_
        intro x14 w7 hx14 hs7 hw7 hf7
        refine St_all hw7 rfl hsz2 hone2 ?_
        intro w8 hw8 hs8 hf8
        have hf6_8 : Fm (fun _ => False) w6 w8 := Fm.own hf7 hf8 (by rintro y rfl; omega)
        have hg8 := hg6.keep hf6_8 (fun e => e)
        have hf4_8 : Fm (· = g) w4 w8 := hf6.trans hf6_8 (fun _ _ e => e) (fun _ _ e => e.elim)
        have i0 : w8.cell? ⟨x14, 0, none⟩ = some (iv q.1) := by rw [cell_at hw8]; exact hc2
        simp only [Pu_some, extV_0, extV_1, extV_2, extV_3, nilV_ptr, nilV_fn, faV_ptr, lenV_sl, lenS_s, capV_sl, pickV_t, pickV_f, unV_not, unV_neg, isB_t, isB_f, isB_u, binV_add, binV_sub, binV_mul, binV_eql, binV_neq, binV_lss, binV_leq, binV_gtr, binV_geq, binV_seql, binV_sneq, binV_slss, binV_beql, binV_bneq, binV_peql, binV_pneq, add_add, add_none, Go.Al.add_zero, Nat.zero_add, Nat.add_zero, IfB_t, IfB_f, Gd_t, Gd_f, Ld_ptr, LdN_ptr, Option.isNone_some, Option.isNone_none, Option.isSome_some, Option.isSome_none, Bool.not_true, Bool.not_false, drew_cell, drew_heap, i0]
        cases hq : decide (q.1 ≤ 65535) with
        | true =>
          rw [hq, cond_true] at hkk2
          have hq' : q.1 ≤ 65535 := by simpa using hq
          have f3 : IntKind.i64.wrap (q.1 + 1) = q.1 + 1 := by unfold In at hin2; rw [wrap_id] <;> omega
          simp only [Pu_some, extV_0, extV_1, extV_2, extV_3, nilV_ptr, nilV_fn, faV_ptr, lenV_sl, lenS_s, capV_sl, pickV_t, pickV_f, unV_not, unV_neg, isB_t, isB_f, isB_u, binV_add, binV_sub, binV_mul, binV_eql, binV_neq, binV_lss, binV_leq, binV_gtr, binV_geq, binV_seql, binV_sneq, binV_slss, binV_beql, binV_bneq, binV_peql, binV_pneq, add_add, add_none, Go.Al.add_zero, Nat.zero_add, Nat.add_zero, IfB_t, IfB_f, Gd_t, Gd_f, Ld_ptr, LdN_ptr, Option.isNone_some, Option.isNone_none, Option.isSome_some, Option.isSome_none, Bool.not_true, Bool.not_false, drew_cell, drew_heap, hg8.c2, i0, f3, fold_max]
          refine St_blk hg8 (by show 2 < 6; decide) rfl ?_
          intro w9 hw9 hs9 hf9
          exact hkk2 _ _ ⟨rfl, hw9, hf4_8.trans hf9 (fun _ _ e => e) (fun _ _ e => e)⟩
        | false =>
          rw [hq, cond_false] at hkk2
          simp only [Pu_some, extV_0, extV_1, extV_2, extV_3, nilV_ptr, nilV_fn, faV_ptr, lenV_sl, lenS_s, capV_sl, pickV_t, pickV_f, unV_not, unV_neg, isB_t, isB_f, isB_u, binV_add, binV_sub, binV_mul, binV_eql, binV_neq, binV_lss, binV_leq, binV_gtr, binV_geq, binV_seql, binV_sneq, binV_slss, binV_beql, binV_bneq, binV_peql, binV_pneq, add_add, add_none, Go.Al.add_zero, Nat.zero_add, Nat.add_zero, IfB_t, IfB_f, Gd_t, Gd_f, Ld_ptr, LdN_ptr, Option.isNone_some, Option.isNone_none, Option.isSome_some, Option.isSome_none, Bool.not_true, Bool.not_false, drew_cell, drew_heap]
          exact hkk2 _ _ ⟨rfl, hg8, hf4_8⟩
      · have hje : j = r.imgs.length := by omega
        subst hje
        have f1 : decide (((r.imgs.length : Nat) : Int) < (r.imgs.length : Int)) = false := by simp
        rw [List.take_length] at hg6
        have c3 : w6.cell? ⟨x12, 3, none⟩ = some (.int .u8 r.kind) := cell hf6 rfl
        have c8 : w6.cell? ⟨x12, 8, none⟩ = some (iv r.new) := cell hf6 rfl
        have hf2_6 : Fm (· = g) w2 w6 := (upg hf2_4).trans hf6 (fun _ _ e => e) (fun _ _ e => e)
        unfold hstep at hkk
        simp only [Pu_some, extV_0, extV_1, extV_2, extV_3, nilV_ptr, nilV_fn, faV_ptr, lenV_sl, lenS_s, capV_sl, pickV_t, pickV_f, unV_not, unV_neg, isB_t, isB_f, isB_u, binV_add, binV_sub, binV_mul, binV_eql, binV_neq, binV_lss, binV_leq, binV_gtr, binV_geq, binV_seql, binV_sneq, binV_slss, binV_beql, binV_bneq, binV_peql, binV_pneq, add_add, add_none, Go.Al.add_zero, Nat.zero_add, Nat.add_zero, IfB_t, IfB_f, Gd_t, Gd_f, Ld_ptr, LdN_ptr, Option.isNone_some, Option.isNone_none, Option.isSome_some, Option.isSome_none, Bool.not_true, Bool.not_false, drew_cell, drew_heap, f1, c3, bne_dec]
        cases hk11 : decide (r.kind = 11) with
        | false =>
          have : decide (r.kind ≠ 11) = true := by simpa using hk11
          rw [this, cond_true] at hkk
          simp only [Pu_some, extV_0, extV_1, extV_2, extV_3, nilV_ptr, nilV_fn, faV_ptr, lenV_sl, lenS_s, capV_sl, pickV_t, pickV_f, unV_not, unV_neg, isB_t, isB_f, isB_u, binV_add, binV_sub, binV_mul, binV_eql, binV_neq, binV_lss, binV_leq, binV_gtr, binV_geq, binV_seql, binV_sneq, binV_slss, binV_beql, binV_bneq, binV_peql, binV_pneq, add_add, add_none, Go.Al.add_zero, Nat.zero_add, Nat.add_zero, IfB_t, IfB_f, Gd_t, Gd_f, Ld_ptr, LdN_ptr, Option.isNone_some, Option.isNone_none, Option.isSome_some, Option.isSome_none, Bool.not_true, Bool.not_false, drew_cell, drew_heap]
          exact hkk _ _ ⟨rfl, hg6, hf2_6⟩
        | true =>
          have : decide (r.kind ≠ 11) = false := by simpa using hk11
          rw [this, cond_false] at hkk
          simp only [Pu_some, extV_0, extV_1, extV_2, extV_3, nilV_ptr, nilV_fn, faV_ptr, lenV_sl, lenS_s, capV_sl, pickV_t, pickV_f, unV_not, unV_neg, isB_t, isB_f, isB_u, binV_add, binV_sub, binV_mul, binV_eql, binV_neq, binV_lss, binV_leq, binV_gtr, binV_geq, binV_seql, binV_sneq, binV_slss, binV_beql, binV_bneq, binV_peql, binV_pneq, add_add, add_none, Go.Al.add_zero, Nat.zero_add, Nat.add_zero, IfB_t, IfB_f, Gd_t, Gd_f, Ld_ptr, LdN_ptr, Option.isNone_some, Option.isNone_none, Option.isSome_some, Option.isSome_none, Bool.not_true, Bool.not_false, drew_cell, drew_heap, c8]
          refine St_blk hg6 (by show 3 < 6; decide) rfl ?_
          intro w7 hw7 hs7 hf7
          replace hw7 : FdAt w7 g redo ⟨hx1 m H r, pgs H.page r.imgs, r.new⟩ lv u := hw7
          have hf4_7 : Fm (· = g) w4 w7 := hf6.trans hf7 (fun _ _ e => e) (fun _ _ e => e)
          have c8' : w7.cell? ⟨x12, 8, none⟩ = some (iv r.new) := cell hf4_7 rfl
          simp only [Pu_some, extV_0, extV_1, extV_2, extV_3, nilV_ptr, nilV_fn, faV_ptr, lenV_sl, lenS_s, capV_sl, pickV_t, pickV_f, unV_not, unV_neg, isB_t, isB_f, isB_u, binV_add, binV_sub, binV_mul, binV_eql, binV_neq, binV_lss, binV_leq, binV_gtr, binV_geq, binV_seql, binV_sneq, binV_slss, binV_beql, binV_bneq, binV_peql, binV_pneq, add_add, add_none, Go.Al.add_zero, Nat.zero_add, Nat.add_zero, IfB_t, IfB_f, Gd_t, Gd_f, Ld_ptr, LdN_ptr, Option.isNone_some, Option.isNone_none, Option.isSome_some, Option.isSome_none, Bool.not_true, Bool.not_false, drew_cell, drew_heap, hw7.c1, c8']
          refine (before_spec w7 hm).mono ?_
          rintro _ w8 ⟨rfl, hf8⟩
          have hg8 := hw7.keep hf8 (fun e => e)
          have hf4_8 : Fm (· = g) w4 w8 := hf4_7.trans hf8 (fun _ _ e => e) (fun _ _ e => e.elim)
          have hf2_8 : Fm (· = g) w2 w8 := (upg hf2_4).trans hf4_8 (fun _ _ e => e) (fun _ _ e => e)
          have c8'' : w8.cell? ⟨x12, 8, none⟩ = some (iv r.new) := cell hf4_8 rfl
          cases hb : xBefore m (hx1 m H r) r.new with
          | true =>
            rw [hb, cond_true] at hkk
            simp only [Pu_some, extV_0, extV_1, extV_2, extV_3, nilV_ptr, nilV_fn, faV_ptr, lenV_sl, lenS_s, capV_sl, pickV_t, pickV_f, unV_not, unV_neg, isB_t, isB_f, isB_u, binV_add, binV_sub, binV_mul, binV_eql, binV_neq, binV_lss, binV_leq, binV_gtr, binV_geq, binV_seql, binV_sneq, binV_slss, binV_beql, binV_bneq, binV_peql, binV_pneq, add_add, add_none, Go.Al.add_zero, Nat.zero_add, Nat.add_zero, IfB_t, IfB_f, Gd_t, Gd_f, Ld_ptr, LdN_ptr, Option.isNone_some, Option.isNone_none, Option.isSome_some, Option.isSome_none, Bool.not_true, Bool.not_false, drew_cell, drew_heap, c8'']
            refine St_blk hg8 (by show 1 < 6; decide) rfl ?_
            intro w9 hw9 hs9 hf9
            exact hkk _ _ ⟨rfl, hw9, hf2_8.trans hf9 (fun _ _ e => e) (fun _ _ e => e)⟩
          | false =>
            rw [hb, cond_false] at hkk
            simp only [Pu_some, extV_0, extV_1, extV_2, extV_3, nilV_ptr, nilV_fn, faV_ptr, lenV_sl, lenS_s, capV_sl, pickV_t, pickV_f, unV_not, unV_neg, isB_t, isB_f, isB_u, binV_add, binV_sub, binV_mul, binV_eql, binV_neq, binV_lss, binV_leq, binV_gtr, binV_geq, binV_seql, binV_sneq, binV_slss, binV_beql, binV_bneq, binV_peql, binV_pneq, add_add, add_none, Go.Al.add_zero, Nat.zero_add, Nat.add_zero, IfB_t, IfB_f, Gd_t, Gd_f, Ld_ptr, LdN_ptr, Option.isNone_some, Option.isNone_none, Option.isSome_some, Option.isSome_none, Bool.not_true, Bool.not_false, drew_cell, drew_heap]
            exact hkk _ _ ⟨rfl, hg8, hf2_8⟩
    · intro jj hjj
      obtain ⟨cs4, hall, hrc4⟩ := hr4.all
      unfold hx1 at hjj
      simp only [Pu_some, extV_0, extV_1, extV_2, extV_3, nilV_ptr, nilV_fn, faV_ptr, lenV_sl, lenS_s, capV_sl, pickV_t, pickV_f, unV_not, unV_neg, isB_t, isB_f, isB_u, binV_add, binV_sub, binV_mul, binV_eql, binV_neq, binV_lss, binV_leq, binV_gtr, binV_geq, binV_seql, binV_sneq, binV_slss, binV_beql, binV_bneq, binV_peql, binV_pneq, add_add, add_none, Go.Al.add_zero, Nat.zero_add, Nat.add_zero, IfB_t, IfB_f, Gd_t, Gd_f, Ld_ptr, LdN_ptr, Option.isNone_some, Option.isNone_none, Option.isSome_some, Option.isSome_none, Bool.not_true, Bool.not_false, drew_cell, drew_heap, hall]
      refine (mine_spec hrc4).mono ?_
      rintro _ w5 ⟨rfl, hf5⟩
      have hr5 := hr4.keep hf5
      have hg5 := hg4.keep hf5 (fun e => e)
      cases hmn : mine r with
      | false =>
        rw [hmn, Bool.false_and, cond_false] at hjj
        simp only [Pu_some, extV_0, extV_1, extV_2, extV_3, nilV_ptr, nilV_fn, faV_ptr, lenV_sl, lenS_s, capV_sl, pickV_t, pickV_f, unV_not, unV_neg, isB_t, isB_f, isB_u, binV_add, binV_sub, binV_mul, binV_eql, binV_neq, binV_lss, binV_leq, binV_gtr, binV_geq, binV_seql, binV_sneq, binV_slss, binV_beql, binV_bneq, binV_peql, binV_pneq, add_add, add_none, Go.Al.add_zero, Nat.zero_add, Nat.add_zero, IfB_t, IfB_f, Gd_t, Gd_f, Ld_ptr, LdN_ptr, Option.isNone_some, Option.isNone_none, Option.isSome_some, Option.isSome_none, Bool.not_true, Bool.not_false, drew_cell, drew_heap]
        exact hjj _ _ ⟨rfl, hg5, upg hf5⟩
      | true =>
        rw [hmn, Bool.true_and] at hjj
        simp only [Pu_some, extV_0, extV_1, extV_2, extV_3, nilV_ptr, nilV_fn, faV_ptr, lenV_sl, lenS_s, capV_sl, pickV_t, pickV_f, unV_not, unV_neg, isB_t, isB_f, isB_u, binV_add, binV_sub, binV_mul, binV_eql, binV_neq, binV_lss, binV_leq, binV_gtr, binV_geq, binV_seql, binV_sneq, binV_slss, binV_beql, binV_bneq, binV_peql, binV_pneq, add_add, add_none, Go.Al.add_zero, Nat.zero_add, Nat.add_zero, IfB_t, IfB_f, Gd_t, Gd_f, Ld_ptr, LdN_ptr, Option.isNone_some, Option.isNone_none, Option.isSome_some, Option.isSome_none, Bool.not_true, Bool.not_false, drew_cell, drew_heap, hr5.c4, hg5.c1]
        refine (before_spec w5 hm).mono ?_
        rintro _ w6 ⟨rfl, hf6⟩
        have hr6 := hr5.keep hf6
        have hg6 := hg5.keep hf6 (fun e => e)
        cases hb : xBefore m r.xid H.xid with
        | true =>
          rw [hb, Bool.not_true, cond_false] at hjj
          simp only [Pu_some, extV_0, extV_1, extV_2, extV_3, nilV_ptr, nilV_fn, faV_ptr, lenV_sl, lenS_s, capV_sl, pickV_t, pickV_f, unV_not, unV_neg, isB_t, isB_f, isB_u, binV_add, binV_sub, binV_mul, binV_eql, binV_neq, binV_lss, binV_leq, binV_gtr, binV_geq, binV_seql, binV_sneq, binV_slss, binV_beql, binV_bneq, binV_peql, binV_pneq, add_add, add_none, Go.Al.add_zero, Nat.zero_add, Nat.add_zero, IfB_t, IfB_f, Gd_t, Gd_f, Ld_ptr, LdN_ptr, Option.isNone_some, Option.isNone_none, Option.isSome_some, Option.isSome_none, Bool.not_true, Bool.not_false, drew_cell, drew_heap]
          exact hjj _ _ ⟨rfl, hg6, upg (Fmf hf5 hf6)⟩
        | false =>
          rw [hb, Bool.not_false, cond_true] at hjj
          simp only [Pu_some, extV_0, extV_1, extV_2, extV_3, nilV_ptr, nilV_fn, faV_ptr, lenV_sl, lenS_s, capV_sl, pickV_t, pickV_f, unV_not, unV_neg, isB_t, isB_f, isB_u, binV_add, binV_sub, binV_mul, binV_eql, binV_neq, binV_lss, binV_leq, binV_gtr, binV_geq, binV_seql, binV_sneq, binV_slss, binV_beql, binV_bneq, binV_peql, binV_pneq, add_add, add_none, Go.Al.add_zero, Nat.zero_add, Nat.add_zero, IfB_t, IfB_f, Gd_t, Gd_f, Ld_ptr, LdN_ptr, Option.isNone_some, Option.isNone_none, Option.isSome_some, Option.isSome_none, Bool.not_true, Bool.not_false, drew_cell, drew_heap, hr6.c4]
          refine (add_spec w6 hm).mono ?_
          rintro _ w7 ⟨rfl, hf7⟩
          have hg7 := hg6.keep hf7 (fun e => e)
          refine St_blk hg7 (by show 1 < 6; decide) rfl ?_
          intro w8 hw8 hs8 hf8
          exact hjj _ _ ⟨rfl, hw8, (upg (Fmf (Fmf hf5 hf6) hf7)).trans hf8 (fun _ _ e => e) (fun _ _ e => e)⟩
  · have hie : i = rs.length := by omega
    subst hie
    have e1 : decide (((rs.length : Nat) : Int) < (rs.length : Int)) = false := by simp
    rw [List.take_length] at hg2
    simp only [Pu_some, extV_0, extV_1, extV_2, extV_3, nilV_ptr, nilV_fn, faV_ptr, lenV_sl, lenS_s, capV_sl, pickV_t, pickV_f, unV_not, unV_neg, isB_t, isB_f, isB_u, binV_add, binV_sub, binV_mul, binV_eql, binV_neq, binV_lss, binV_leq, binV_gtr, binV_geq, binV_seql, binV_sneq, binV_slss, binV_beql, binV_bneq, binV_peql, binV_pneq, add_add, add_none, Go.Al.add_zero, Nat.zero_add, Nat.add_zero, IfB_t, IfB_f, Gd_t, Gd_f, Ld_ptr, LdN_ptr, Option.isNone_some, Option.isNone_none, Option.isSome_some, Option.isSome_none, Bool.not_true, Bool.not_false, drew_cell, drew_heap, e1]
    exact hk w2 hg2 hf2

end Go.Proofs.Ythgdinjgdjiknaa
