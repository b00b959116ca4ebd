/- Laid for one claim by slim.py out of: parts. -/
import Derived.Test.YtmdmffeoehfjgaaGreatDoorTgsC
set_option maxRecDepth 100000
set_option maxHeartbeats 0
set_option linter.unusedVariables false
set_option linter.unusedSimpArgs false
set_option linter.unusedSectionVars false
open Go.Proofs.Tryz (prog)
namespace Go.Al
namespace Dk
theorem pend_len(d:Dk):d.pend.length<=d.cur.length:=by unfold pend;exact Nat.le_trans (List.length_filter_le _ _) (by simp)
def lK(how:List Int)(d:Dk)(k i:Nat):Bs:=bif isC d.chg i&&decide (rank d.chg i<k) then torn (fate how (rank d.chg i)) (d.cur.getD i []) (d.old.getD i []) else d.cur.getD i []
def mid(how:List Int)(d:Dk)(k:Nat):Dk:={ d with cur:=(List.range d.cur.length).map (lK how d k) }
theorem mid_len(how:List Int)(d:Dk)(k:Nat):(mid how d k).cur.length=d.cur.length:=by simp[mid]
theorem iX(how:List Int)(d:Dk)(k i:Nat):(mid how d k).cur[i]?=if i<d.cur.length then some (lK how d k i) else none:=by
 unfold mid;simp only[List.getElem?_map];split
 ·rename_i h;rw[List.getElem?_range h];rfl
 ·rename_i h;rw[List.getElem?_eq_none (by simpa using h)];rfl
theorem xK{d:Dk}(h:d.Wf)(how:List Int)(k:Nat){i:Nat}(hi:i<d.cur.length):(lK how d k i).length=64:=by
 unfold lK;cases isC d.chg i&&decide (rank d.chg i<k) with
 | true=>exact tq (h.oR hi) (h.r8 hi)
 | false=>exact h.oR hi
theorem Wf.mid{d:Dk}(h:d.Wf)(how:List Int)(k:Nat):(mid how d k).Wf where
 n1:=by rw[mid_len];exact h.n1
 lo:=by rw[mid_len];exact h.lo
 lc:=by rw[mid_len];exact h.lc
 s1:=by
  intro x hx
  obtain⟨i,hi,rfl⟩:=List.mem_map.1 hx
  exact xK h how k (by simpa using hi)
 s2:=h.s2
 same:=by
  intro i hi
  rw[iX]
  have hi':isC d.chg i=false:=hi
  show d.old[i]?=_
  rw[h.same i hi']
  split
  ·rename_i hl
   rw[lK,hi',Bool.false_and,cond_false,List.getD_eq_getElem?_getD,List.getElem?_eq_getElem hl];rfl
  ·rename_i hl;rw[List.getElem?_eq_none (by omega)]
 ar:=h.ar
theorem getD_eq{α:Type}{l:List α}{i:Nat}{x:α}(h:i<l.length):l[i]?=some (l.getD i x):=by rw[List.getD_eq_getElem?_getD,List.getElem?_eq_getElem h];rfl
theorem mid_zero(how:List Int)(d:Dk):mid how d 0=d:=by
 have:(mid how d 0).cur=d.cur:=by
  apply List.ext_getElem?;intro i;rw[iX];split
  ·rename_i h;rw[lK,decide_eq_false (Nat.not_lt_zero _),Bool.and_false,cond_false];exact(getD_eq h).symm
  ·rename_i h;rw[List.getElem?_eq_none (by omega)]
 unfold mid at this ⊢;simp only at this;rw[this]
theorem mid_end(how:List Int)(d:Dk):(mid how d d.pend.length).cur=mended how d:=by
 apply List.ext_getElem?;intro i;rw[iX,uj];split
 ·rename_i h;congr 1;unfold lK ES;cases hc:isC d.chg i with
  | false=>rfl
  | true=>have:(d.pend)[rank d.chg i]?=some i:=(jG d.chg _ _ _).2 ⟨h,hc,rfl⟩;have:=(List.getElem?_eq_some_iff.1 this).1;rw[decide_eq_true this,Bool.and_true]
 ·rfl
theorem mid_step{how:List Int}{d:Dk}{k i:Nat}(h:d.pend[k]?=some i):i<d.cur.length/\(mid how d k).cur.getD i []=d.cur.getD i []/\isC d.chg i=true /\
  (mid how d (k+1)).cur=(mid how d k).cur.set i (torn (fate how k) (d.cur.getD i []) (d.old.getD i [])):=by
 obtain⟨h1,h2,h3⟩:=(jG d.chg _ _ _).1 h;refine⟨h1,?_,h2,?_⟩
 ·rw[List.getD_eq_getElem?_getD,iX,if_pos h1,Option.getD_some,lK,decide_eq_false (by omega),Bool.and_false];rfl
 ·apply List.ext_getElem?;intro j;rw[iX,List.getElem?_set,iX];by_cases hj:j<d.cur.length
  ·rw[if_pos hj,if_pos hj];by_cases e:i=j
   ·subst e;rw[if_pos rfl,if_pos (by rw[mid_len];exact h1),lK,h2,h3,decide_eq_true (by omega)];rfl
   ·rw[if_neg e];congr 1;unfold lK;cases hc:isC d.chg j with
    | false=>rfl
    | true=>
     have hne:rank d.chg j≠k:=by intro e2;have:=(jG d.chg _ _ _).2 ⟨hj,hc,e2⟩;rw[show(List.range d.cur.length).filter (isC d.chg)=d.pend from rfl,h] at this;exact e (by simpa using this)
     have:decide (rank d.chg j<k+1)=decide (rank d.chg j<k):=by rw[decide_eq_decide];omega
     rw[this]
  ·rw[if_neg hj,if_neg hj];split
   ·rename_i e;subst e;rw[if_neg (by rw[mid_len];exact hj)]
   ·rfl
theorem xj{f:Int}(h : -9223372036854775808<=f/\f<=9223372036854775807):0<=fold1 f/\fold1 f<=9223372036854775807:=by unfold fold1;split<;>omega
theorem fate_pos{how:List Int}(h:∀f∈how,-9223372036854775808<=f/\f<=9223372036854775807)(k:Nat):0<=fate how k/\fate how k<=9223372036854775807:=by
 unfold fate;split
 ·rename_i f hf;exact xj (h f (List.mem_of_getElem? hf))
 ·omega
theorem rising_eq{a b:List Int}(ha:a.Pairwise (· < ·))(hb:b.Pairwise (· < ·))(h:∀x,x∈a↔x∈b):a=b:=by
 induction a generalizing b with
 | nil=>
  cases b with
  | nil=>rfl
  | cons y b=>exact absurd ((h y).2 (by simp)) (by simp)
 | cons x a ih=>
  cases b with
  | nil=>exact absurd ((h x).1 (by simp)) (by simp)
  | cons y b=>
   rw[List.pairwise_cons] at ha hb;have hxy:x=y:=by
    rcases List.mem_cons.1 ((h x).1 (by simp)) with e|hx
    ·exact e
    ·rcases List.mem_cons.1 ((h y).2 (by simp)) with e|hy
     ·exact e.symm
     ·have:=ha.1 y hy;have:=hb.1 x hx;omega
   subst hxy;congr 1;refine ih ha.2 hb.2 λz=>?_;constructor
   ·intro hz;rcases List.mem_cons.1 ((h z).1 (by simp[hz])) with e|hz'
    ·have:=ha.1 z hz;omega
    ·exact hz'
   ·intro hz;rcases List.mem_cons.1 ((h z).2 (by simp[hz])) with e|hz'
    ·have:=hb.1 z hz;omega
    ·exact hz'
theorem flat_len{l:List Bs}(h:∀x∈l,x.length=64):l.flatten.length=64*l.length:=by
 induction l with
 | nil=>rfl
 | cons x l ih=>simp only[List.flatten_cons,List.length_append,List.length_cons,h x (by simp),ih (λy hy=>h y (by simp[hy]))];omega
theorem flat_drop{l:List Bs}(h:∀x∈l,x.length=64)(i:Nat):l.flatten.drop (64*i)=(l.drop i).flatten:=by
 induction l generalizing i with
 | nil=>simp
 | cons x l ih=>
  cases i with
  | zero=>rfl
  | succ i=>
   rw[List.flatten_cons,List.drop_succ_cons,<- ih (λy hy=>h y (by simp[hy])) i,List.drop_append,h x (by simp),show 64*(i+1) - 64=64*i by omega,
    List.drop_eq_nil_of_le (by rw[h x (by simp)];omega),List.nil_append]
theorem flat_take{l:List Bs}(h:∀x∈l,x.length=64)(i:Nat):l.flatten.take (64*i)=(l.take i).flatten:=by
 induction l generalizing i with
 | nil=>simp
 | cons x l ih=>
  cases i with
  | zero=>rfl
  | succ i=>
   rw[List.flatten_cons,List.take_succ_cons,List.flatten_cons,<- ih (λy hy=>h y (by simp[hy])) i,List.take_append,h x (by simp),show 64*(i+1) - 64=64*i by omega,
    List.take_of_length_le (by rw[h x (by simp)];omega)]
theorem flat_sec{l:List Bs}(h:∀x∈l,x.length=64){i:Nat}(hi:i<l.length):(l.flatten.drop (64*i)).take 64=l.getD i []:=by rw[flat_drop h,List.getD_eq_getElem?_getD,List.getElem?_eq_getElem hi,List.drop_eq_getElem_cons hi,List.flatten_cons,Option.getD_some];rw[List.take_append_of_le_length (by rw[h _ (List.getElem_mem hi)];omega),List.take_of_length_le (by rw[h _ (List.getElem_mem hi)];omega)]
theorem flat_lay{l:List Bs}(h:∀x∈l,x.length=64){i j:Nat}(hi:i<l.length)(hj:j<=64){y:Bs}(hy:y.length=64 - j):
  l.flatten.take (64*i+j)++y++l.flatten.drop (64*i+64)=(l.set i ((l.getD i []).take j++y)).flatten:=by
 induction l generalizing i with
 | nil=>simp at hi
 | cons x l ih=>
  have hx:=h x (by simp);cases i with
  | zero=>simp only[List.flatten_cons,List.set_cons_zero,List.getD_cons_zero,Nat.mul_zero,Nat.zero_add];rw[List.take_append_of_le_length (by omega),List.drop_append,hx,Nat.sub_self,List.drop_eq_nil_of_le (by omega),List.nil_append,List.drop_zero]
  | succ i=>
   simp only[List.flatten_cons,List.set_cons_succ,List.getD_cons_succ];rw[<- ih (λy hy=>h y (by simp[hy])) (by simpa using hi),List.take_append,List.drop_append,hx];rw[List.take_of_length_le (show x.length<=64*(i+1)+j by omega),List.drop_eq_nil_of_le (show x.length<=64*(i+1)+64 by omega),List.nil_append,
    show 64*(i+1)+j - 64=64*i+j by omega,show 64*(i+1)+64 - 64=64*i+64 by omega]
   simp only[List.append_assoc]
end Dk
end Go.Al
namespace Go.Proofs.YtmdmffeoehfjgaaGreatDoor
open Go.Al Go.Proofs
theorem B44:ByteT prog 57 5 9:=sh Tryz.underlying57 Tryz.underlying5 Tryz.underlying9 (by kernel_rfl)
theorem Gq:KeyT prog 99 3 9 iv:=dH Tryz.underlying99 Tryz.underlying3
theorem z9(w:World):(zeroValue 9).run prog w=.ok (stv []) w:=by kernel_rfl
theorem Ep(g n c m:Nat)(w:World):(Instr.build 101 #[(0,.slice (some ⟨g,0,none⟩) n c),(1,.map (some m))]).run prog w=.ok (.agg #[.slice (some ⟨g,0,none⟩) n c,.map (some m),iv 0,.bool false,iv 0]) w:=by kernel_rfl
structure DAt (w : World) (b g m : Nat) (d : Dk) : Prop where
 wf : d.Wf
 st : w.heap[b]? = some (.cells #[.slice (some ⟨g, 0, none⟩) (64 * d.cur.length) (64 * d.cur.length), .map (some m), iv d.armed, .bool d.gone, iv d.done] 101)
 by_ : BRow w g 5 d.cur.flatten
 mp : ∃ M : List (Int × Bs), MapAt w m iv stv M ∧ ∀ k x, (k, x) ∈ M ↔ ∃ i : Nat, k = (i : Int) ∧ Dk.isC d.chg i = true ∧ d.old[i]? = some x
theorem DAt.bg{w:World}{b g m:Nat}{d:Dk}(h:DAt w b g m d):b≠g:=by rintro rfl;have:=h.st;rw[h.by_] at this;simp at this
theorem DAt.bm{w:World}{b g m:Nat}{d:Dk}(h:DAt w b g m d):b≠m:=by rintro rfl;obtain⟨M,hM,_⟩:=h.mp;obtain⟨es,c,hb,_⟩:=hM.ex;rw[h.st] at hb;cases hb
theorem DAt.gm{w:World}{b g m:Nat}{d:Dk}(h:DAt w b g m d):g≠m:=by rintro rfl;obtain⟨M,hM,_⟩:=h.mp;obtain⟨es,c,hb,_⟩:=hM.ex;have:=h.by_;unfold BRow at this;rw[this] at hb;cases hb
theorem DAt.keep{S:Nat->Prop}{w w':World}{b g m:Nat}{d:Dk}(h:DAt w b g m d)(hf:Fm S w w')(h1:¬S b)(h2:¬S g)(h3:¬S m):DAt w' b g m d:=by obtain⟨M,hM,hi⟩:=h.mp;exact⟨h.wf,hf.heap h.st h1,h.by_.keep hf h2,M,hM.keep hf h3,hi⟩
theorem DAt.aS{w w':World}{b g m:Nat}{d:Dk}(h:DAt w b g m d)(hf:Fm (λ_=>False) w w'):DAt w' b g m d:=h.keep hf id id id
theorem DAt.drew{w:World}{b g m:Nat}{d:Dk}(h:DAt w b g m d):DAt w.drew b g m d:=h.aS (Fm.drew _ w)
theorem DAt.lt{w:World}{b g m:Nat}{d:Dk}(h:DAt w b g m d):b<w.heap.size/\g<w.heap.size/\m<w.heap.size:=by obtain⟨M,hM,_⟩:=h.mp;exact⟨aj h.st,h.by_.lt,hM.lt⟩
theorem DAt.c0{w:World}{b g m:Nat}{d:Dk}(h:DAt w b g m d):w.cell? ⟨b,0,none⟩=some (.slice (some ⟨g,0,none⟩) (64*d.cur.length) (64*d.cur.length)):=by rw[ab h.st];rfl
theorem DAt.c1{w:World}{b g m:Nat}{d:Dk}(h:DAt w b g m d):w.cell? ⟨b,1,none⟩=some (.map (some m)):=by rw[ab h.st];rfl
theorem DAt.c3{w:World}{b g m:Nat}{d:Dk}(h:DAt w b g m d):w.cell? ⟨b,3,none⟩=some (.bool d.gone):=by rw[ab h.st];rfl
theorem DAt.c4{w:World}{b g m:Nat}{d:Dk}(h:DAt w b g m d):w.cell? ⟨b,4,none⟩=some (iv d.done):=by rw[ab h.st];rfl
theorem wV(w:World)(n:Int):Cl prog 24 [iv n] w λv w'=>
  (n<1\/65536<n->v=.tuple #[.pointer none,iv 1]/\w'=w) /\
  (¬(n<1\/65536<n)->∃b g m,v=.tuple #[pv b,iv 0]/\w.heap.size<=b/\w.heap.size<=g/\w.heap.size<=m/\DAt w' b g m (Dk.mk0 n.toNat)/\Fm (λ_=>False) w w'):=by
 refine c24 ?_;have ok:¬(n<1\/65536<n)->Pu (ax (TypeDesc.int .i64) .mul (iv n) (Value.int .i64 64)) λt11_7=>
   RunS prog (Instr.makeSlice 57 t11_7 t11_7) w λt12_8 w_9=>
   RunS prog (Instr.makeMap 99 none) w_9 λt13_10 w_11=>
   RunS prog (Instr.build 101 #[(0,t12_8),(1,t13_10)]) w_11 λt14_12 w_13=>
   New (Value.cells t14_12) 101 w_13 λt15_14 w_15=>
   ∃b g m,Value.tuple #[t15_14,(Value.int .i64 0)]=.tuple #[pv b,iv 0]/\w.heap.size<=b/\w.heap.size<=g/\w.heap.size<=m/\DAt w_15 b g m (Dk.mk0 n.toNat)/\Fm (λ_=>False) w w_15:=by
  intro hn;obtain⟨k,rfl⟩:=Int.eq_ofNat_of_zero_le (show 0<=n by omega);have hk:1<=k/\k<=65536:=by omega
  have e1:IntKind.i64.wrap ((k:Int)*64)=((64*k:Nat):Int):=by rw[af]<;>omega
  simp only[RS,e1];refine ag (BRow.make B44 w (64*k) (by omega)) (ag (bf _ _) (ag (Ep _ _ _ _ _) (ae ?_)));intro b w' hb hs hw hf;have hs1:=aF w (.cells (bc (List.replicate (64*k) 0)).toArray 5);generalize hw1:w.alloc (.cells (bc (List.replicate (64*k) 0)).toArray 5)=w1 at hs1 hb hs hf hw;have hg:BRow w1 w.heap.size 5 (List.replicate (64*k) 0):=by rw[<- hw1];exact aA _ _
  have hf1:Fm (λ_=>False) w w1:=by rw[<- hw1];exact Fm.alloc _ _ _
  have hM:=(MapAt.empty w1 iv stv).keep hf id;have hf2:=(Fm.alloc (λ_=>False) w1 (.map #[] 0));rw[aF] at hb;have hfl:List.replicate (64*k) 0=(Dk.mk0 k).cur.flatten:=by show _=(List.replicate k Dk.zsec).flatten;rw[Dk.zsec,List.flatten_replicate_replicate,Nat.mul_comm]
  have hlen:(Dk.mk0 k).cur.length=k:=by simp[Dk.mk0]
  refine⟨b,w.heap.size,w1.heap.size,rfl,by omega,by omega,by omega,⟨Dk.wf_mk0 hk.2,?_,?_,[],hM,?_⟩,?_⟩
  ·rw[Int.toNat_natCast,hlen];exact hw
  ·rw[Int.toNat_natCast,<- hfl];exact(hg.keep hf2 id).keep hf id
  ·intro a x;constructor
   ·intro h;cases h
   ·rintro⟨i,_,hc,_⟩;have:=Dk.isC_rep k i;rw[show(Dk.mk0 (k:Int).toNat).chg=List.replicate k false from rfl] at hc;rw[this] at hc;cases hc
  ·exact(hf1.trans hf2 iT iT).trans hf iT iT
 by_cases h1:n<1
 ·have e1:decide (n<1)=true:=by simpa using h1
  simp only[RS,e1];exact⟨λ_=>⟨trivial,trivial⟩,λh=>absurd (.inl h1) h⟩
 ·have e1:decide (n<1)=false:=by simpa using h1
  by_cases h2:65536<n
  ·have e2:decide (65536<n)=true:=by simpa using h2
   simp only[RS,e1,e2];exact⟨λ_=>⟨trivial,trivial⟩,λh=>absurd (.inr h2) h⟩
  ·have e2:decide (65536<n)=false:=by simpa using h2
   have hno:¬(n<1\/65536<n):=by omega
   have:=ok hno;simp only[RS,e1,e2];simp only[hno,false_imp_iff,true_and,not_false_eq_true,true_imp_iff];simp only[RS] at this;exact this
theorem cH{w:World}{b g m:Nat}{d:Dk}(h:DAt w b g m d):Cl prog 59 [pv b] w λv w'=>v=iv d.cur.length/\w'=w:=by have hn:=h.wf.n1;refine c59 ?_;have e:=nJ (TypeDesc.int .i64) (n:=64*d.cur.length) (m:=64) (b:=64) (by omega) (by omega) rfl;simp only[RS,h.c0,e];rw[Nat.mul_div_cancel_left _ (by omega)];exact⟨(by trivial),(by trivial)⟩
theorem gA{w:World}{b g m:Nat}{d:Dk}(h:DAt w b g m d):Cl prog 145 [pv b] w λv w'=>v=iv (bif d.gone then 5 else 0)/\w'=w:=by refine c145 ?_;simp only[RS,h.c3];cases d.gone<;>simp only[RS,cond_true,cond_false,and_self]
theorem oI{w:World}{b g m:Nat}{d:Dk}(h:DAt w b g m d)(a k:Int):Cl prog 146 [pv b,iv a,iv k] w λv w'=>v=.bool (d.has a k)/\w'=w:=by
 have hn:=h.wf.n1;refine c146 ?_;unfold Dk.has;by_cases h1:0<=a
 ·have e1:decide (0<=a)=true:=by simpa using h1
  by_cases h2:0<=k
  ·have e2:decide (0<=k)=true:=by simpa using h2
   simp only[RS,e1,e2];refine(cH h).mono ?_;rintro _ w ⟨rfl,rfl⟩;by_cases h3:a<=d.cur.length
   ·have e3:decide (a<=(d.cur.length:Int))=true:=by simpa using h3
    simp only[RS,e3];refine(cH h).mono ?_;rintro _ w ⟨rfl,rfl⟩;have e4:IntKind.i64.wrap ((d.cur.length:Int) - a)=d.cur.length - a:=af (by omega);simp only[RS,e4];refine⟨?_,(by trivial)⟩;congr 1;simp[h1,h2,h3]
   ·have e3:decide (a<=(d.cur.length:Int))=false:=by simpa using h3
    simp only[RS,e3];refine⟨?_,(by trivial)⟩;congr 1;symm;rw[decide_eq_false_iff_not];omega
  ·have e2:decide (0<=k)=false:=by simpa using h2
   simp only[RS,e1,e2];refine⟨?_,(by trivial)⟩;congr 1;symm;rw[decide_eq_false_iff_not];omega
 ·have e1:decide (0<=a)=false:=by simpa using h1
  simp only[RS,e1];refine⟨?_,(by trivial)⟩;congr 1;symm;rw[decide_eq_false_iff_not];omega
theorem jh{w:World}{b g m:Nat}{d:Dk}(h:DAt w b g m d){i:Nat}(hi:i<d.cur.length):Cl prog 27 [pv b,iv i] w λv w'=>v=.slice (some ⟨g,64*i,none⟩) 64 (64*d.cur.length - 64*i)/\w'=w:=by
 have hn:=h.wf.n1;refine c27 ?_;have e1:IntKind.i64.wrap ((i:Int)*64)=((64*i:Nat):Int):=by rw[af]<;>omega
 have e2:IntKind.i64.wrap ((i:Int)+1)=((i+1:Nat):Int):=by rw[af]<;>omega
 have e3:IntKind.i64.wrap (((i+1:Nat):Int)*64)=((64*(i+1):Nat):Int):=by rw[af]<;>omega
 obtain⟨o',hs,ho,_⟩:=ti (g:=g) (o:=0) (n:=64*d.cur.length) (c:=64*d.cur.length) (i:=64*i) (j:=64*(i+1)) (by omega) (by omega) .i64 .i64;simp only[RS,h.c0,e1,e2,e3,hs];rw[ho (by omega),show 64*(i+1) - 64*i=64 by omega,Nat.zero_add];exact⟨(by trivial),(by trivial)⟩
theorem DAt.tick{w w':World}{b g m:Nat}{d d':Dk}(h:DAt w b g m d)(hc:d'.cur=d.cur/\d'.old=d.old/\d'.chg=d.chg)(hwf:d'.Wf)
  (hb:w'.heap[b]?=some (.cells #[.slice (some ⟨g,0,none⟩) (64*d.cur.length) (64*d.cur.length),.map (some m),iv d'.armed,.bool d'.gone,iv d'.done] 101)) (hf:Fm (·=b) w w'):DAt w' b g m d':=by
 obtain⟨M,hM,hi⟩:=h.mp;have h1:=h.bg;have h2:=h.bm;obtain⟨hc1,hc2,hc3⟩:=hc;exact⟨hwf,by rw[hc1];exact hb,by rw[hc1];exact h.by_.keep hf (λe=>h1 e.symm),M,hM.keep hf (λe=>h2 e.symm),by rw[hc2,hc3];exact hi⟩
theorem oE{w:World}{b g m:Nat}{d:Dk}(h:DAt w b g m d):Cl prog 147 [pv b] w λv w'=>v=.bool d.tick.gone/\DAt w' b g m d.tick/\Fm (·=b) w w':=by
 have har:=h.wf.ar;refine c147 ?_;simp only[RS,h.c4];refine au h.st (by simp) rfl ?_;intro w1 hw1 hs1 hf1
 replace hw1:w1.heap[b]?=some (.cells #[.slice (some ⟨g,0,none⟩) (64*d.cur.length) (64*d.cur.length),.map (some m),iv d.armed,.bool d.gone,iv (IntKind.i64.wrap (d.done+1))] 101):=hw1
 have c2:w1.cell? ⟨b,2,none⟩=some (iv d.armed):=by rw[ab hw1];rfl
 refine aJ (λvs w2=>vs=[]/\DAt w2 b g m d.tick/\Fm (·=b) w w2) ?_ ?_
 ·rintro _ w2 ⟨rfl,hD,hf⟩ _;refine⟨rfl,?_⟩;simp only[RS,hD.c3];exact⟨trivial,hD,hf⟩
 ·intro kk hkk;simp only[RS,c2];by_cases ha:0<d.armed
  ·have e1:decide (0<d.armed)=true:=by simpa using ha
   have e2:IntKind.i64.wrap (d.armed - 1)=d.armed - 1:=af (by omega);simp only[RS,e1,c2,e2];refine au hw1 (by simp) rfl ?_;intro w2 hw2 hs2 hf2
   replace hw2:w2.heap[b]?=some (.cells #[.slice (some ⟨g,0,none⟩) (64*d.cur.length) (64*d.cur.length),.map (some m),iv (d.armed - 1),.bool d.gone,iv (IntKind.i64.wrap (d.done+1))] 101):=hw2
   have c2':w2.cell? ⟨b,2,none⟩=some (iv (d.armed - 1)):=by rw[ab hw2];rfl
   simp only[RS,c2'];refine au hw2 (by simp) rfl ?_;intro w3 hw3 hs3 hf3;have hF:Fm (·=b) w w3:=(hf1.trans hf2 iT iT).trans hf3 iT iT;refine hkk _ _ ⟨rfl,h.tick (Dk.tick_cur d) h.wf.tick ?_ hF,hF⟩;unfold Dk.tick;rw[if_pos ha];rw[aV] at hw3;exact hw3
  ·have e1:decide (0<d.armed)=false:=by simpa using ha
   simp only[RS,e1];refine hkk _ _ ⟨rfl,h.tick (Dk.tick_cur d) h.wf.tick ?_ hf1,hf1⟩;unfold Dk.tick;rw[if_neg ha];exact hw1
theorem fN{w:World}{b g m:Nat}{d:Dk}(h:DAt w b g m d)(a k:Int):Cl prog 76 [pv b,iv a,iv k] w λv w'=>v=.tuple #[stv (d.read a k).1,iv (d.read a k).2]/\w'=w:=by
 have hn:=h.wf.n1;refine c76 ?_;refine(gA h).mono ?_;rintro _ w ⟨rfl,rfl⟩;unfold Dk.read;cases hg:d.gone with
 | true=>simp only[RS,cond_true,aG];exact⟨(by trivial),(by trivial)⟩
 | false=>
  simp only[RS,cond_false,bne_self_eq_false];refine(oI h a k).mono ?_;rintro _ w ⟨rfl,rfl⟩;cases hh:d.has a k with
  | false=>simp only[RS,cond_true];exact⟨(by trivial),(by trivial)⟩
  | true=>
   unfold Dk.has at hh;simp only[decide_eq_true_eq] at hh;obtain⟨i,rfl⟩:=Int.eq_ofNat_of_zero_le hh.1;obtain⟨j,rfl⟩:=Int.eq_ofNat_of_zero_le hh.2.1;have hij:i+j<=d.cur.length:=by omega
   have e1:IntKind.i64.wrap ((i:Int)*64)=((64*i:Nat):Int):=by rw[af]<;>omega
   have e2:IntKind.i64.wrap ((i:Int)+j)=((i+j:Nat):Int):=by rw[af]<;>omega
   have e3:IntKind.i64.wrap (((i+j:Nat):Int)*64)=((64*(i+j):Nat):Int):=by rw[af]<;>omega
   obtain⟨o',hs,ho,hle,_⟩:=ti (g:=g) (o:=0) (n:=64*d.cur.length) (c:=64*d.cur.length) (i:=64*i) (j:=64*(i+j)) (by omega) (by omega) .i64 .i64;simp only[RS,h.c0,e1,e2,e3,hs,cond_false];have hfl:=Dk.flat_len h.wf.s1;have ee:64*(i+j) - 64*i=64*j:=by omega
   rw[ee];refine ag (h.by_.conv B44 (o:=o') (n:=64*j) (by rw[hfl];omega) _) ⟨?_,(by trivial)⟩;congr 3;have hd:(d.cur.flatten.drop o').take (64*j)=((d.cur.drop i).take j).flatten:=by
    by_cases hi:64*i<64*d.cur.length
    ·rw[ho hi,Nat.zero_add,Dk.flat_drop h.wf.s1,Dk.flat_take (λx hx=>h.wf.s1 x (List.mem_of_mem_drop hx))]
    ·have hj0:j=0:=by omega
     subst hj0;simp
   rw[hd];rfl
theorem lV{w:World}{b g m:Nat}{d:Dk}(h:DAt w b g m d):Cl prog 75 [pv b] w λv w'=>v=.bool d.gone/\w'=w:=by refine c75 ?_;simp only[RS,h.c3,yd,and_self]
open Go.ChangeMaps (setBlock)
theorem oB{P:Program}{t kt et:TypeId}(ht:P.underlying t=some (.map kt et)){α β:Type}[DecidableEq α]{kv:α->Value}{vv:β->Value}{w:World}{m:Nat}{M:List (α×β)}(h:MapAt w m kv vv M)(ty:TypeId):
  ∃w',(Builtin.clear_ #[t] ty #[.map (some m)]).run P w=.ok (.tuple #[]) w'/\MapAt w' m kv vv ([]:List (α×β))/\Fm (·=m) w w'/\w'.heap.size=w.heap.size:=by
 obtain⟨es,c,hb,he,hn,hlt⟩:=h.ex;refine⟨setBlock w m (.map #[] c),?_,⟨⟨#[],c,bQ hb,rfl,by simp,by simp⟩,by simp⟩,Fm.setBlock _ _ _ rfl,bA _ _ _⟩;unfold Builtin.clear_;simp only[List.getElem?_toArray,List.getElem?_cons_zero,Sem.run_bind,an ht,Result.andThen_ok,Go.Al.run_getObj_map hb,Go.Al.run_setObj_map hb,Sem.run_pure]
theorem dk{w:World}{b g m:Nat}{d:Dk}(h:DAt w b g m d):Cl prog 70 [pv b] w λv w'=>v=iv d.sync.2/\DAt w' b g m d.sync.1/\Fm (λx=>x=b\/x=g\/x=m) w w':=by
 have hwf:=h.wf.sync;refine c70 ?_;refine(gA h).mono ?_;rintro _ w ⟨rfl,rfl⟩;unfold Dk.sync at hwf ⊢;cases hg:d.gone with
 | true=>simp only[RS,cond_true,aG];exact⟨(by trivial),h,Fm.refl _ _⟩
 | false=>
  rw[hg] at hwf;simp only[RS,cond_false,bne_self_eq_false];refine(oE h).mono ?_;rintro _ w1 ⟨rfl,h1,hf1⟩;simp only[cond_false] at hwf;cases hg1:d.tick.gone with
  | true=>simp only[RS,cond_true];exact⟨(by trivial),h1,hf1.mono λ_ _ e=>.inl e⟩
  | false=>
   rw[hg1] at hwf;simp only[RS,cond_false,h1.c1];obtain⟨M,hM,_⟩:=h1.mp;obtain⟨w2,hr,hM2,hf2,_⟩:=oB Tryz.underlying99 hM 0;refine ag hr ?_;refine⟨(by trivial),⟨hwf,?_,?_,[],hM2,?_⟩,hf1.trans hf2 (λ_ _ e=>.inl e) (λ_ _ e=>.inr (.inr e))⟩
   ·have:=hf2.heap h1.st h1.bm;rw[hg1] at this;exact this
   ·exact h1.by_.keep hf2 h1.gm
   ·intro k x;constructor
    ·intro e;cases e
    ·rintro⟨i,_,hc,_⟩;simp only[Dk.isC_rep] at hc;cases hc
theorem DAt.y6{w:World}{b g m:Nat}{d:Dk}(h:DAt w b g m d){i:Nat}(hi:i<d.cur.length){M':List (Int×Bs)}{w':World}
  (hM:∃M:List (Int×Bs),MapAt w m iv stv M/\(∀k x,(k,x)∈M↔∃i:Nat,k=(i:Int)/\Dk.isC d.chg i=true/\d.old[i]?=some x) /\
   (Dk.isC d.chg i=false->M'=cO M (i:Int) (d.cur.getD i []))/\(Dk.isC d.chg i=true->M'=M)) (hM':MapAt w' m iv stv M'):
  ∀k x,(k,x)∈M'↔∃j:Nat,k=(j:Int)/\Dk.isC (d.chg.set i true) j=true/\d.old[j]?=some x:=by
 obtain⟨M,hMw,hmem,hno,hyes⟩:=hM;have hil:i<d.chg.length:=by rw[h.wf.lc];exact hi
 intro k x;cases hc:Dk.isC d.chg i with
 | true=>
  rw[hyes hc,hmem];constructor
  ·rintro⟨j,rfl,hj,hx⟩;exact⟨j,rfl,by rw[Dk.isC_set _ _ _ hil];split<;>first|rfl|exact hj,hx⟩
  ·rintro⟨j,rfl,hj,hx⟩;refine⟨j,rfl,?_,hx⟩;rw[Dk.isC_set _ _ _ hil] at hj;split at hj
   ·rename_i e;subst e;exact hc
   ·exact hj
 | false=>
  have hs:=hno hc;subst hs;have hold:d.old[i]?=some (d.cur.getD i []):=by rw[h.wf.same i hc,List.getD_eq_getElem?_getD,List.getElem?_eq_getElem hi];rfl
  rw[<- getD_some hM'.keys,bl];split
  ·rename_i e;subst e;constructor
   ·intro e;cases e;exact⟨i,rfl,by rw[Dk.isC_set _ _ _ hil,if_pos rfl],hold⟩
   ·rintro⟨j,hj,_,hx⟩;have:i=j:=by omega
    subst this;rw[hold] at hx;exact hx
  ·rename_i hne;rw[getD_some hMw.keys,hmem];constructor
   ·rintro⟨j,rfl,hj,hx⟩;exact⟨j,rfl,by rw[Dk.isC_set _ _ _ hil];split<;>first|rfl|exact hj,hx⟩
   ·rintro⟨j,rfl,hj,hx⟩;refine⟨j,rfl,?_,hx⟩;rw[Dk.isC_set _ _ _ hil,if_neg (λe=>hne (by rw[e]))] at hj;exact hj
theorem bV{w:World}{b g m:Nat}{d:Dk}(h:DAt w b g m d)(a:Int)(s:Bs)(hs:s.length<=9223372036854775807):Cl prog 62 [pv b,iv a,stv s] w λv w'=>v=iv (d.write a s).2/\DAt w' b g m (d.write a s).1/\Fm (λx=>x=b\/x=g\/x=m) w w':=by
 have hn:=h.wf.n1;refine c62 ?_;refine(gA h).mono ?_;rintro _ w ⟨rfl,rfl⟩;unfold Dk.write;cases hg:d.gone with
 | true=>simp only[RS,cond_true,aG];exact⟨(by trivial),h,Fm.refl _ _⟩
 | false=>
  have er:=eG (TypeDesc.int .i64) (n:=s.length) (m:=64) (b:=64) (by omega) hs rfl;have eq:=nJ (TypeDesc.int .i64) (n:=s.length) (m:=64) (b:=64) (by omega) hs rfl;simp only[RS,aq,cP,bn,cond_false,bne_self_eq_false,er];by_cases hr:s.length % 64=0
  ·have e1:(((s.length % 64:Nat):Int) != 0)=false:=by rw[hr];rfl
   have e1':decide (s.length % 64≠0)=false:=by simp[hr]
   simp only[RS,aq,cP,bn,e1,e1',eq,Bool.false_or];refine(oI h a _).mono ?_;rintro _ w ⟨rfl,rfl⟩;cases hh:d.has a (s.length / 64:Nat) with
   | false=>simp only[RS,cond_true];exact⟨(by trivial),h,Fm.refl _ _⟩
   | true=>
    simp only[RS,cond_false];unfold Dk.has at hh;simp only[decide_eq_true_eq] at hh;obtain⟨p,rfl⟩:=Int.eq_ofNat_of_zero_le hh.1;rw[Int.toNat_natCast];have hlen:s.length=64*(s.length / 64):=by omega
    generalize hK:s.length / 64=K at hh hlen ⊢;refine⟨λvs w2=>∃(i r:Nat) (t:Bs) (e:Dk),vs=[iv (i:Nat),stv t]/\t.length=64*r/\i+r<=d.cur.length/\e.cur.length=d.cur.length/\d.wr p (Dk.chunks K s)=e.wr i (Dk.chunks r t)/\DAt w2 b g m e/\Fm (λx=>x=b\/x=g\/x=m) w w2,
     λvs _=>sz1 vs,⟨p,K,s,d,rfl,hlen,by omega,rfl,rfl,h,Fm.refl _ _⟩,?_⟩
    rintro _ w2 iat idata ⟨i,r,t,e,hvs,htl,hir,hel,heq,hE,hf⟩;cases hvs;cases r with
    | zero=>have:t=[]:=List.eq_nil_of_length_eq_zero (by omega);subst this;simp only[RS,aq,cP,bn,decide_true];rw[heq];exact⟨(by trivial),hE,hf⟩
    | succ r=>
     have hne:t≠[]:=by rintro rfl;simp at htl
     have hie:i<e.cur.length:=by omega
     have e2:decide (t=[])=false:=by simpa using hne
     simp only[RS,aq,cP,bn,e2];have heq2:d.wr p (Dk.chunks K s)=(let d':=(e.put i (t.take 64)).tick;bif d'.gone then(d',5) else d'.wr (i+1) (Dk.chunks r (t.drop 64))):=heq;refine aJ (λvs w3=>vs=[]/\(∃M',MapAt w3 m iv stv M'/\∀k x,(k,x)∈M'↔∃j:Nat,k=(j:Int)/\Dk.isC (e.chg.set i true) j=true/\e.old[j]?=some x)/\Fm (·=m) w2 w3) ?_ ?_
     ·rintro _ w3 ⟨rfl,⟨M',hM',hmem'⟩,hf3⟩ _;refine⟨rfl,?_⟩;have et:slS (stv t) none (some (.int .i64 64))=some (stv (t.take 64)):=gn (l:=t) (i:=64) (by omega) .i64;have et2:slS (stv t) (some (.int .i64 64)) none=some (stv (t.drop 64)):=eT (l:=t) (i:=64) (by omega) .i64;simp only[RS,et,et2];have hst3:=hf3.heap hE.st hE.bm;have hby3:=hE.by_.keep hf3 hE.gm;have hne3:DAt w3.drew b g m { e with chg:=List.replicate e.cur.length false,old:=e.cur }\/True:=.inr trivial;refine Cl.mono (k:=λv w'=>v=.slice (some ⟨g,64*i,none⟩) 64 (64*e.cur.length - 64*i)/\w'=w3.drew) ?_ ?_
      ·refine c27 ?_;have g1:IntKind.i64.wrap ((i:Int)*64)=((64*i:Nat):Int):=by rw[af]<;>omega
       have g2:IntKind.i64.wrap ((i:Int)+1)=((i+1:Nat):Int):=by rw[af]<;>omega
       have g3:IntKind.i64.wrap (((i+1:Nat):Int)*64)=((64*(i+1):Nat):Int):=by rw[af]<;>omega
       obtain⟨o',hs,ho,_⟩:=ti (g:=g) (o:=0) (n:=64*e.cur.length) (c:=64*e.cur.length) (i:=64*i) (j:=64*(i+1)) (by omega) (by omega) .i64 .i64;have c0:w3.cell? ⟨b,0,none⟩=some (.slice (some ⟨g,0,none⟩) (64*e.cur.length) (64*e.cur.length)):=by rw[ab hst3];rfl
       simp only[RS,c0,g1,g2,g3,hs];rw[ho (by omega),show 64*(i+1) - 64*i=64 by omega,Nat.zero_add];exact⟨(by trivial),(by trivial)⟩
      ·rintro _ _ ⟨rfl,rfl⟩;have hfl:=Dk.flat_len hE.wf.s1;have ht64:(t.take 64).length=64:=by rw[List.length_take];omega
       have hfd:=Fm.drew (λ_=>False) w3;obtain⟨w4,hr4,hby4,hs4,hf4⟩:=(hby3.keep hfd id).v8 B44 (o:=64*i) (n:=64) (x:=t.take 64) (by omega) (by rw[hfl];omega) (64*e.cur.length - 64*i) 3;refine ag hr4 ?_;have hput:DAt w4 b g m (e.put i (t.take 64)):=by
        refine⟨hE.wf.put i ht64,?_,?_,M',?_,hmem'⟩
        ·have:=hf4.heap (hfd.heap hst3 id) hE.bg;simpa[Dk.put] using this
        ·have:=hby4;rw[ht64] at this;have l1:=Dk.flat_lay hE.wf.s1 hie (j:=0) (y:=t.take 64) (by omega) (by omega);simp only[Nat.add_zero,List.take_zero,List.nil_append] at l1;rw[l1] at this;exact this
        ·exact(hM'.keep hfd id).keep hf4 (λx=>hE.gm x.symm)
       refine(oE hput).mono ?_;rintro _ w5 ⟨rfl,h5,hf5⟩;have hF:Fm (λx=>x=b\/x=g\/x=m) w w5:=(((hf.trans hf3 (U:=λx=>x=b\/x=g\/x=m) iT (λ_ _ e=>.inr (.inr e))).trans hfd (U:=λx=>x=b\/x=g\/x=m) iT iE).trans hf4 (U:=λx=>x=b\/x=g\/x=m) iT (λ_ _ e=>.inr (.inl e))).trans hf5 iT (λ_ _ e=>.inl e);rw[heq2];cases hg5:(e.put i (t.take 64)).tick.gone with
       | true=>simp only[RS,hg5,cond_true];exact⟨(by trivial),h5,hF⟩
       | false=>
        have g4:IntKind.i64.wrap ((i:Int)+1)=((i+1:Nat):Int):=by rw[af]<;>omega
        simp only[RS,cond_false,g4];have hl5:(e.put i (t.take 64)).tick.cur.length=e.cur.length:=by rw[(Dk.tick_cur _).1];simp[Dk.put]
        refine⟨⟨i+1,r,t.drop 64,_,rfl,by rw[List.length_drop];omega,by omega,by rw[hl5,hel],?_,h5,hF⟩,?_⟩
        ·simp only[hg5,cond_false]
        ·rw[BR,BR,List.length_drop];omega
     ·intro kk hkk;obtain⟨M,hM,hmem⟩:=hE.mp;simp only[RS,hE.c1];refine ag (aW Gq hM (i:Int) true (z9 _)) ?_;cases hc:Dk.isC e.chg i with
      | true=>
       have hlt:i<e.old.length:=by rw[hE.wf.lo];omega
       have hget:getD M (i:Int)=some e.old[i]:=(getD_some hM.keys).2 ((hmem _ _).2 ⟨i,rfl,hc,List.getElem?_eq_getElem hlt⟩);simp only[hget,okV,cond_true];simp only[RS];exact hkk _ _ ⟨rfl,⟨M,hM,hE.y6 hie ⟨M,hM,hmem,λe=>(by rw[hc] at e;cases e),λ_=>rfl⟩ hM⟩,Fm.refl _ _⟩
      | false=>
       have hget:getD M (i:Int)=none:=by
        cases hq:getD M (i:Int) with
        | none=>rfl
        | some x=>
         obtain⟨j,hj,hcj,_⟩:=(hmem _ _).1 ((getD_some hM.keys).1 hq);have:i=j:=by omega
         subst this;rw[hc] at hcj;cases hcj
       simp only[hget,okV,cond_true];simp only[RS];refine⟨λw'=>w'.cell? ⟨b,1,none⟩=some (.map (some m)),hE.c1,?_⟩;refine⟨.map (some m),λw' hw'=>by simp only[RS,hw'];exact⟨(by trivial),(by trivial)⟩,?_⟩;have hEd:=hE.drew;refine(jh hEd hie).mono ?_;rintro _ _ ⟨rfl,rfl⟩;refine⟨hE.c1,?_⟩;have hfl:=Dk.flat_len hE.wf.s1;refine ag (hEd.by_.conv B44 (o:=64*i) (n:=64) (by rw[hfl];omega) _) ⟨rfl,?_⟩;rw[Dk.flat_sec hE.wf.s1 hie];obtain⟨w4,hr4,hM4,hf4,_⟩:=bk Gq (hM.keep (Fm.drew (λ_=>False) w2) id) (i:Int) (e.cur.getD i []);refine cB hr4 ?_;have hf24:Fm (·=m) w2 w4:=(Fm.drew (λ_=>False) w2).trans hf4 iE iT;exact hkk _ _ ⟨rfl,⟨_,hM4,hE.y6 hie ⟨M,hM,hmem,λ_=>rfl,λe=>(by rw[hc] at e;cases e)⟩ hM4⟩,hf24⟩
  ·have e1:(((s.length % 64:Nat):Int) != 0)=true:=by rw[aG];simp;omega
   have e1':decide (s.length % 64≠0)=true:=by simp[hr]
   simp only[RS,aq,cP,bn,e1,e1',Bool.true_or,cond_true];exact⟨(by trivial),h,Fm.refl _ _⟩
structure Lg where
 frm : Nat
 n : Nat
 base : Nat
 kept : Bs
 start : Nat
 last : Nat
 res : Int
 recs : List (Int × Rc)
def tM(k:Nat):Bs:=beN 4 ((k+1) % 4294967296)
def nR(k:Nat)(b:Bs):Bs:=tM k++([UInt8.ofNat b.length]++(b++(aH (54 - b.length)++([UInt8.ofNat b.length]++tM k))))
def opened(s:Bs)(k:Nat):Bs:=bif decide (s.take 4=tM k)&&decide (s.drop 60=tM k) then(s.drop 5).take (min (min (s.getD 4 0).toNat (s.getD 59 0).toNat) 54) else[]
def atR(r:Rc)(k:Nat):Rc:={ r with lsn:=(k:Int) }
namespace Lg
def tail(L:Lg):Nat:=L.base+L.kept.length
def room(L:Lg):Int:=54*((L.n:Int) - 2) - ((L.tail:Int) - (L.start:Int)) - L.res
def append(L:Lg)(r:Rc):Lg×Int×Int:=
 bif decide ((rCheck (atR r L.tail)).2=0) then
  (bif decide (L.room<((lG (atR r L.tail)).1.length:Int)) then(L,0,50)
   else({ L with kept:=L.kept++(lG (atR r L.tail)).1,recs:=cO L.recs (L.tail:Int) (atR r L.tail) },(L.tail:Int),0))
 else(L,0,(rCheck (atR r L.tail)).2)
def reserve(L:Lg)(k:Int):Lg×Int:=bif decide (k<0) then(L,1) else bif decide (L.room<k) then(L,50) else({ L with res:=L.res+k },0)
def release(L:Lg)(k:Int):Lg×Int:=bif decide (k<0)||decide (L.res<k) then(L,1) else({ L with res:=L.res - k },0)
def bytes(L:Lg)(k:Nat):Bs:=(L.kept.drop (k*54+1 - L.base)).take 54
def put(L:Lg)(k:Nat)(d:Dk):Dk×Int:=d.write ((L.frm+k % L.n:Nat):Int) (nR k (L.bytes k))
def flushGo(L:Lg):Nat->Nat->Dk->Dk×Int
 | 0,_,d=>(d,0)
 | f+1,k,d=>bif decide (k*54+1<L.tail) then(bif decide ((L.put k d).2=0) then flushGo L f (k+1) (L.put k d).1 else L.put k d) else(d,0)
def flushE(L:Lg)(d:Dk):Dk×Int:=flushGo L (L.kept.length+1) ((L.last - 1) / 54) d
def flush(L:Lg)(upto:Int)(d:Dk):Lg×Dk×Int:=
 bif decide (upto<(L.last:Int))||decide (L.last=L.tail) then(L,d,0) else
 bif decide ((L.flushE d).2=0) then(bif decide ((L.flushE d).1.sync.2=0) then({ L with last:=L.tail },(L.flushE d).1.sync.1,0) else(L,(L.flushE d).1.sync.1,(L.flushE d).1.sync.2))
 else(L,(L.flushE d).1,(L.flushE d).2)
def baseOf(b:Nat):Nat:=(b - 1) / 54*54+1
def new(frm n:Nat):Lg:=⟨frm,n,1,[],1,1,0,[]⟩
structure Wf (L : Lg) : Prop where
 n4 : 4 ≤ L.n
 big : L.frm + L.n ≤ 65536
 bs : L.base = baseOf L.start
 st : 1 ≤ L.start ∧ L.start ≤ L.last ∧ L.last ≤ L.tail
 small : L.kept.length ≤ 8000000
 low : L.tail ≤ 9223372036854775807
 hi : L.last < L.tail → L.tail ≤ 4611686018427500000
 res : 0 ≤ L.res ∧ L.res ≤ 4000000
 ok : ∀ p ∈ L.recs, p.2.lsn = p.1 ∧ (rCheck p.2).2 = 0 ∧ (∀ m ∈ p.2.imgs, m.2.lsn ≤ 9223372036854775807) ∧ (L.start : Int) ≤ p.1 ∧ p.1 < (L.tail : Int)
theorem baseOf_le{b:Nat}(h:1<=b):1<=baseOf b/\baseOf b<=b/\b<baseOf b+54:=by unfold baseOf;omega
theorem wf_new{frm n:Nat}(h1:4<=n)(h2:frm+n<=65536):(new frm n).Wf where
 n4:=h1
 big:=h2
 bs:=by simp[new,baseOf]
 st:=by simp[new,tail]
 small:=by simp[new]
 low:=by simp[new,tail]
 hi:=by simp[new,tail]
 res:=by simp[new]
 ok:=by simp[new]
theorem enc_len{r:Rc}(h:(rCheck r).2=0)(hl:∀m∈r.imgs,m.2.lsn<=9223372036854775807):18<=(lG r).1.length/\(lG r).1.length<=65543:=by have h1:=(iw h hl).2.2.2;have h2:=wD r;rw[yo h hl];simp only[List.length_append,aI];omega
theorem room_le{L:Lg}(h:L.Wf):L.room<=3538836:=by have h1:=h.big;have h2:=h.st;have h3:=h.res;unfold room;omega
theorem Wf.append{L:Lg}(h:L.Wf)(r:Rc)(hl:∀m∈r.imgs,m.2.lsn<=9223372036854775807):(L.append r).1.Wf:=by
 unfold Lg.append;cases hc:decide ((rCheck (atR r L.tail)).2=0) with
 | false=>exact h
 | true=>
  rw[decide_eq_true_eq] at hc;rw[cond_true];cases hr:decide (L.room<((lG (atR r L.tail)).1.length:Int)) with
  | true=>exact h
  | false=>
   rw[decide_eq_false_iff_not] at hr;rw[cond_false];have hrl:=room_le h;have hel:=enc_len hc (r:=atR r L.tail) hl;have hok:=(iw hc (r:=atR r L.tail) hl);have hlsn:((L.tail:Nat):Int)<=4611686018427387904:=by have:=(hok.1.nums ((atR r L.tail).lsn) (by unfold rNums;simp)).2;exact this
   have h1:=h.st;have h2:=h.bs;have h3:=h.n4;have h4:=h.big;have h5:=h.res;have hbl:=baseOf_le h1.1;rw[<- h2] at hbl;unfold room at hr;unfold tail at hr hlsn h1;generalize hE:(lG (atR r L.tail)).1=E at hr hel;refine⟨h.n4,h.big,h.bs,⟨h1.1,h1.2.1,?_⟩,?_,?_,λ_=>?_,h.res,?_⟩
   ·show L.last<=L.base+(L.kept++E).length;rw[List.length_append];omega
   ·show(L.kept++E).length<=_;rw[List.length_append];omega
   ·show L.base+(L.kept++E).length<=_;rw[List.length_append];omega
   ·show L.base+(L.kept++E).length<=_;rw[List.length_append];omega
   ·intro p hp;have hnd:∀q∈cO L.recs (L.tail:Int) (atR r L.tail),q∈L.recs\/q=((L.tail:Int),atR r L.tail):=by
     intro q hq;have hg:getD L.recs ((L.tail:Nat):Int)=none:=by rw[getD_none];intro hm;obtain⟨x,hx,hxe⟩:=List.mem_map.1 hm;have:=(h.ok x hx).2.2.2.2;omega
     rw[di _ _ _ hg] at hq;simpa using hq
    show p.2.lsn=p.1/\_/\_/\_/\p.1<((L.base+(L.kept++E).length:Nat):Int);rcases hnd p hp with hp|rfl
    ·obtain⟨q1,q2,q3,q4,q5⟩:=h.ok p hp;unfold tail at q5;refine⟨q1,q2,q3,q4,?_⟩;rw[List.length_append];omega
    ·refine⟨rfl,hc,hl,?_,?_⟩
     ·show(L.start:Int)<=(L.tail:Int);unfold tail;omega
     ·show(L.tail:Int)<_;unfold tail;rw[List.length_append];omega
theorem Wf.reserve{L:Lg}(h:L.Wf)(k:Int):(L.reserve k).1.Wf:=by
 unfold Lg.reserve;cases h1:decide (k<0) with
 | true=>exact h
 | false=>
  cases h2:decide (L.room<k) with
  | true=>exact h
  | false=>rw[decide_eq_false_iff_not] at h1 h2;have h3:=room_le h;have h4:=h.st;have h5:=h.big;have h6:=h.res;unfold room at h2;refine⟨h.n4,h.big,h.bs,h.st,h.small,h.low,h.hi,?_,h.ok⟩;show 0<=L.res+k/\L.res+k<=4000000;omega
theorem Wf.release{L:Lg}(h:L.Wf)(k:Int):(L.release k).1.Wf:=by
 unfold Lg.release;cases h1:decide (k<0)||decide (L.res<k) with
 | true=>exact h
 | false=>rw[Bool.or_eq_false_iff,decide_eq_false_iff_not,decide_eq_false_iff_not] at h1;have h6:=h.res;refine⟨h.n4,h.big,h.bs,h.st,h.small,h.low,h.hi,?_,h.ok⟩;show 0<=L.res - k/\L.res - k<=4000000;omega
theorem Wf.last{L:Lg}(h:L.Wf):({ L with last:=L.tail }:Lg).Wf:=⟨h.n4,h.big,h.bs,⟨h.st.1,Nat.le_trans h.st.2.1 h.st.2.2,Nat.le_refl _⟩,h.small,h.low,λe=>absurd e (Nat.lt_irrefl _),h.res,h.ok⟩
theorem blk_len(k:Nat):(tM k).length=4:=aI _ _
theorem bytes_len(L:Lg)(k:Nat):(L.bytes k).length<=54:=by unfold bytes;rw[List.length_take];omega
theorem zeros_len'(n:Nat):(aH n).length=n:=by simp[aH]
theorem seal_len{b:Bs}(h:b.length<=54)(k:Nat):(nR k b).length=64:=by unfold nR;simp only[List.length_append,blk_len,zeros_len',List.length_cons,List.length_nil];omega
end Lg
def Held(w:World)(P:Nat->Prop)(cs:Array Value)(r:Rc):Prop:=∀w',Fm (λy=>¬P y) w w'->RcAs w' cs r
theorem Held.now{w:World}{P:Nat->Prop}{cs:Array Value}{r:Rc}(h:Held w P cs r):RcAs w cs r:=h w (Fm.refl _ _)
theorem Held.keep{S P:Nat->Prop}{w w1:World}{cs:Array Value}{r:Rc}(h:Held w P cs r)(hf:Fm S w w1)(hs:∀y,P y->¬S y):Held w1 P cs r:=λw' h'=>h w' (hf.trans h' (λx _ hx hp=>hs x hp hx) iT)
theorem Held.mono{P Q:Nat->Prop}{w:World}{cs:Array Value}{r:Rc}(h:Held w P cs r)(hPQ:∀y,P y->Q y):Held w Q cs r:=λw' h'=>h w' (h'.mono (λx _ hx hp=>hx (hPQ x hp)))
theorem RdOk.held{w:World}{b:Nat}{cs:Array Value}{r:Rc}(h:RdOk w b cs (some r)):Held w (λy=>b<=y/\y<w.heap.size) cs r:=by obtain⟨vs,vm,vi,vp,vt,rfl,h1,h2⟩:=h;intro w' hf;refine(h1.keep (S:=λy=>y<w.heap.size/\y<b) ?_ (λy e=>e.2)).A3 h2;exact⟨hf.os,hf.tape,hf.output,hf.size,λy hy hn=>hf.block y hy (λe=>e ⟨by omega,hy⟩)⟩
theorem RcAs.atR{w:World}{r:Rc}{vs vm vi vp vt:Value}(h:RcAs w (rcs r vs vm vi vp vt) r){k:Nat}(hk:k<=9223372036854775807):RcAs w (rcs (atR r k) vs vm vi vp vt) (atR r k):=by
 obtain⟨as_,am,ai,ap,at_,h1,h2,h3,h4,h5,h6,h7⟩:=h.ex;have e:(rcs r vs vm vi vp vt).toList=(rcs r as_ am ai ap at_).toList:=by rw[h1]
 simp only[rcs,List.cons.injEq,true_and,and_true] at e;obtain⟨rfl,rfl,rfl,rfl,rfl⟩:=e;refine⟨⟨_,_,_,_,_,rfl,h2,h3,h4,h5,h6,h7⟩,?_,h.kin,h.data,h.bulk,h.lsns⟩;intro n hn;have hins:=h.ins;unfold rNums at hn hins;simp only[List.mem_append,List.mem_cons] at hn hins;have e1:((Go.Proofs.YtmdmffeoehfjgaaGreatDoor.atR r k).prev=r.prev):=rfl;rcases hn with((((((rfl|hn)|hn)|hn)|hn)|hn)|hn)
 ·show In (k:Int);unfold In;omega
 ·exact hins n (.inl (.inl (.inl (.inl (.inl (.inr hn))))))
 ·exact hins n (.inl (.inl (.inl (.inl (.inr hn)))))
 ·exact hins n (.inl (.inl (.inl (.inr hn))))
 ·exact hins n (.inl (.inl (.inr hn)))
 ·exact hins n (.inl (.inr hn))
 ·exact hins n (.inr hn)
theorem DY:KeyT prog 205 3 168 iv:=dH Tryz.underlying205 Tryz.underlying3
def lgc(db mb:Nat)(kv:Value)(L:Lg):Array Value:=#[pv db,iv (L.frm:Int),iv (L.n:Int),iv (L.base:Int),kv,iv (L.start:Int),iv (L.last:Int),iv L.res,.map (some mb)]
theorem Fm.step{X S:Nat->Prop}{w w1 w2:World}(h:Fm X w w1)(k:Fm S w1 w2)(hs:∀y,S y->X y\/w.heap.size<=y):Fm X w w2:=h.trans k iT (λx hx e=>by rcases hs x e with q|q;exact q;omega)
structure LIn (w : World) (X P : Nat → Prop) (lb db mb : Nat) (kv : Value) (M : List (Int × Array Value)) (L : Lg) : Prop where
 st : w.heap[lb]? = some (.cells (lgc db mb kv L) 207)
 kp : KpAt w 5 kv L.kept
 mp : MapAt w mb iv Value.agg M
 keys : M.map (·.1) = L.recs.map (·.1)
 rec_ : ∀ k cs, (k, cs) ∈ M → ∃ r, (k, r) ∈ L.recs ∧ Held w P cs r
 xs : X lb ∧ X mb ∧ (∀ y, kv.ownBlock = some y → X y) ∧ ∀ y, P y → X y
 ps : ¬ P lb ∧ ¬ P mb ∧ ∀ y, kv.ownBlock = some y → ¬ P y
 lt : ∀ y, X y → y < w.heap.size
section
variable{w w':World}{X P S:Nat->Prop}{lb db mb:Nat}{kv:Value}{M:List (Int×Array Value)}{L L':Lg}
theorem LIn.keep(h:LIn w X P lb db mb kv M L)(hf:Fm S w w')(hS:∀y,X y->¬S y):LIn w' X P lb db mb kv M L:=⟨hf.heap h.st (hS _ h.xs.1),h.kp.keep hf (λy hy=>hS y (h.xs.2.2.1 y hy)),h.mp.keep hf (hS _ h.xs.2.1),h.keys,λk cs hm=>by obtain⟨r,h1,h2⟩:=h.rec_ k cs hm;exact⟨r,h1,h2.keep hf (λy hy=>hS y (h.xs.2.2.2 y hy))⟩,h.xs,h.ps,λy hy=>Nat.lt_of_lt_of_le (h.lt y hy) hf.size⟩
theorem LIn.aS(h:LIn w X P lb db mb kv M L)(hf:Fm (λ_=>False) w w'):LIn w' X P lb db mb kv M L:=h.keep hf iT
theorem LIn.nk(h:LIn w X P lb db mb kv M L):kv.ownBlock≠some lb:=h.kp.B1 h.st (by decide)
theorem LIn.nm(h:LIn w X P lb db mb kv M L):mb≠lb:=by rintro rfl;obtain⟨es,c,hb,_⟩:=h.mp.ex;rw[h.st] at hb;cases hb
theorem LIn.km(h:LIn w X P lb db mb kv M L):kv.ownBlock≠some mb:=by obtain⟨es,c,hb,_⟩:=h.mp.ex;exact h.kp.C3 hb
theorem LIn.upd(h:LIn w X P lb db mb kv M L)(hst:w'.heap[lb]?=some (.cells (lgc db mb kv L') 207))(hf:Fm (·=lb) w w')(e1:L'.kept=L.kept)(e2:L'.recs=L.recs):LIn w' X P lb db mb kv M L':=⟨hst,by rw[e1];exact h.kp.keep hf (λy hy e=>h.nk (by rw[hy,e])),h.mp.keep hf h.nm,by rw[e2];exact h.keys,λk cs hm=>by obtain⟨r,h1,h2⟩:=h.rec_ k cs hm;exact⟨r,by rw[e2];exact h1,h2.keep hf (λy hy e=>h.ps.1 (by rw[<- e];exact hy))⟩,h.xs,h.ps,λy hy=>Nat.lt_of_lt_of_le (h.lt y hy) hf.size⟩
theorem LIn.c0(h:LIn w X P lb db mb kv M L):w.cell? ⟨lb,0,none⟩=some (pv db):=by rw[ab h.st];rfl
theorem LIn.c1(h:LIn w X P lb db mb kv M L):w.cell? ⟨lb,1,none⟩=some (iv (L.frm:Int)):=by rw[ab h.st];rfl
theorem LIn.c2(h:LIn w X P lb db mb kv M L):w.cell? ⟨lb,2,none⟩=some (iv (L.n:Int)):=by rw[ab h.st];rfl
theorem LIn.c3(h:LIn w X P lb db mb kv M L):w.cell? ⟨lb,3,none⟩=some (iv (L.base:Int)):=by rw[ab h.st];rfl
theorem LIn.c4(h:LIn w X P lb db mb kv M L):w.cell? ⟨lb,4,none⟩=some kv:=by rw[ab h.st];rfl
theorem LIn.c5(h:LIn w X P lb db mb kv M L):w.cell? ⟨lb,5,none⟩=some (iv (L.start:Int)):=by rw[ab h.st];rfl
theorem LIn.c6(h:LIn w X P lb db mb kv M L):w.cell? ⟨lb,6,none⟩=some (iv (L.last:Int)):=by rw[ab h.st];rfl
theorem LIn.c7(h:LIn w X P lb db mb kv M L):w.cell? ⟨lb,7,none⟩=some (iv L.res):=by rw[ab h.st];rfl
theorem LIn.c8(h:LIn w X P lb db mb kv M L):w.cell? ⟨lb,8,none⟩=some (.map (some mb)):=by rw[ab h.st];rfl
end
structure LAt (w : World) (X : Nat → Prop) (lb db : Nat) (L : Lg) : Prop where
 wf : L.Wf
 ex : ∃ P mb kv M, LIn w X P lb db mb kv M L
theorem LAt.keep{w w':World}{X S:Nat->Prop}{lb db:Nat}{L:Lg}(h:LAt w X lb db L)(hf:Fm S w w')(hS:∀y,X y->¬S y):LAt w' X lb db L:=by obtain⟨P,mb,kv,M,hi⟩:=h.ex;exact⟨h.wf,P,mb,kv,M,hi.keep hf hS⟩
theorem LAt.aS{w w':World}{X:Nat->Prop}{lb db:Nat}{L:Lg}(h:LAt w X lb db L)(hf:Fm (λ_=>False) w w'):LAt w' X lb db L:=h.keep hf iT
theorem LAt.lt{w:World}{X:Nat->Prop}{lb db:Nat}{L:Lg}(h:LAt w X lb db L):∀y,X y->y<w.heap.size:=by obtain⟨P,mb,kv,M,hi⟩:=h.ex;exact hi.lt
theorem LAt.lb{w:World}{X:Nat->Prop}{lb db:Nat}{L:Lg}(h:LAt w X lb db L):X lb:=by obtain⟨P,mb,kv,M,hi⟩:=h.ex;exact hi.xs.1
section
variable{w:World}{X:Nat->Prop}{lb db:Nat}{L:Lg}
theorem ej(h:LAt w X lb db L):Cl prog 96 [pv lb] w λv w'=>v=iv (L.tail:Int)/\Fm (λ_=>False) w w':=by
 obtain⟨P,mb,kv,M,hi⟩:=h.ex;have hl:=h.wf.low;refine c96 ?_;have e1:IntKind.i64.wrap ((L.base:Int)+(L.kept.length:Int))=(L.tail:Int):=by unfold Lg.tail at hl ⊢;rw[af]<;>omega
 simp only[RS,hi.c3,hi.c4,hi.kp.lenV,e1,true_and];exact Fm.drew _ _
theorem iJ(h:LAt w X lb db L):Cl prog 184 [pv lb] w λv w'=>v=iv (L.last:Int)/\Fm (λ_=>False) w w':=by obtain⟨P,mb,kv,M,hi⟩:=h.ex;refine c184 ?_;simp only[RS,hi.c6];exact⟨(by trivial),Fm.refl _ _⟩
theorem mS(h:LAt w X lb db L):Cl prog 124 [pv lb] w λv w'=>v=iv L.room/\Fm (λ_=>False) w w':=by
 obtain⟨P,mb,kv,M,hi⟩:=h.ex;have h1:=h.wf.st;have h2:=h.wf.big;have h3:=h.wf.res;have h4:=h.wf.small;have h5:=h.wf.bs;have h6:=h.wf.n4;have hb:=Lg.baseOf_le h1.1;rw[<- h5] at hb;have ht:L.tail=L.base+L.kept.length:=rfl;have e1:IntKind.i64.wrap ((L.n:Int) - 2)=(L.n:Int) - 2:=by rw[af];omega
 have e2:IntKind.i64.wrap (54*((L.n:Int) - 2))=54*((L.n:Int) - 2):=by rw[af];omega
 have e3:IntKind.i64.wrap ((L.tail:Int) - (L.start:Int))=(L.tail:Int) - (L.start:Int):=by rw[af];omega
 have e4:IntKind.i64.wrap (54*((L.n:Int) - 2) - ((L.tail:Int) - (L.start:Int)))=54*((L.n:Int) - 2) - ((L.tail:Int) - (L.start:Int)):=by rw[af];omega
 have e5:IntKind.i64.wrap (54*((L.n:Int) - 2) - ((L.tail:Int) - (L.start:Int)) - L.res)=L.room:=by unfold Lg.room;rw[af];omega
 have hC:∀{w':World},Fm (λ_=>False) w w'->LIn w' X P lb db mb kv M L:=λhf=>hi.aS hf;have hfd:=Fm.drew (λ_=>False) w;refine c124 ?_;simp only[RS];refine⟨λw'=>LIn w' X P lb db mb kv M L,hC hfd,?_⟩;refine⟨iv (L.n:Int),λw' h'=>?_,?_⟩
 ·simp only[RS,h'.c2]<;>trivial
 simp only[RS,e1,e2];refine⟨iv (L.start:Int),λw' h'=>?_,?_⟩
 ·simp only[RS,h'.c5]<;>trivial
 refine⟨iv L.res,λw' h'=>?_,?_⟩
 ·simp only[RS,h'.c7]<;>trivial
 refine(ej (h.aS hfd)).mono ?_;rintro _ w2 ⟨rfl,hf2⟩;refine⟨hC (Fmf hfd hf2),?_⟩;simp only[RS,e3,e4,e5];exact⟨(by trivial),Fmf hfd hf2⟩
theorem iL(h:LAt w X lb db L)(k:Int):Cl prog 48 [pv lb,iv k] w λv w'=>v=iv (L.reserve k).2/\LAt w' X lb db (L.reserve k).1/\Fm (·=lb) w w':=by
 have hwf:=h.wf.reserve k;unfold Lg.reserve at hwf ⊢;refine c48 ?_;cases h1:decide (k<0) with
 | true=>simp only[RS,h1,cond_true];exact⟨(by trivial),h,Fm.refl _ _⟩
 | false=>
 rw[h1] at hwf;simp only[RS,h1,cond_false];refine(mS h).mono ?_;rintro _ w2 ⟨rfl,hf2⟩;have h':=h.aS hf2;cases h2:decide (L.room<k) with
 | true=>simp only[RS,h2,cond_true];exact⟨(by trivial),h',hf2.mono (λ_ _ e=>e.elim)⟩
 | false=>
 rw[h2] at hwf;obtain⟨P,mb,kv,M,hi⟩:=h'.ex;have hrl:=Lg.room_le h.wf;have hrs:=h.wf.res;rw[decide_eq_false_iff_not] at h1 h2;have e1:IntKind.i64.wrap (L.res+k)=L.res+k:=by rw[af];omega
 have h2':decide (L.room<k)=false:=by simpa using h2
 simp only[RS,h2',cond_false,hi.c7,e1];refine au hi.st (by show 7<9;decide) rfl ?_;intro w3 hw3 hs3 hf3;exact⟨(by trivial),⟨hwf,P,mb,kv,M,hi.upd hw3 hf3 rfl rfl⟩,(hf2.mono (λ_ _ e=>e.elim)).trans hf3 (λ_ _ e=>e) (λ_ _ e=>e)⟩
theorem nX(h:LAt w X lb db L)(k:Int):Cl prog 43 [pv lb,iv k] w λv w'=>v=iv (L.release k).2/\LAt w' X lb db (L.release k).1/\Fm (·=lb) w w':=by
 have hwf:=h.wf.release k;unfold Lg.release at hwf ⊢;obtain⟨P,mb,kv,M,hi⟩:=h.ex;refine c43 ?_;cases h1:decide (k<0) with
 | true=>simp only[RS,h1,Bool.true_or,cond_true];exact⟨(by trivial),h,Fm.refl _ _⟩
 | false=>
 cases h2:decide (L.res<k) with
 | true=>simp only[RS,h1,h2,Bool.false_or,cond_true,hi.c7];exact⟨(by trivial),h,Fm.refl _ _⟩
 | false=>
 rw[h1,h2] at hwf;have hrs:=h.wf.res;rw[decide_eq_false_iff_not] at h1 h2;have e1:IntKind.i64.wrap (L.res - k)=L.res - k:=by rw[af];omega
 have h1':decide (k<0)=false:=by simpa using h1
 have h2':decide (L.res<k)=false:=by simpa using h2
 simp only[RS,h1',h2',Bool.or_self,cond_false,hi.c7,e1];refine au hi.st (by show 7<9;decide) rfl ?_;intro w3 hw3 hs3 hf3;exact⟨(by trivial),⟨hwf,P,mb,kv,M,hi.upd hw3 hf3 rfl rfl⟩,hf3⟩
end
theorem IJ{w:World}{g c:Nat}{cs:Array Value}{t:Value}(h:w.heap[g]?=some (.cells cs 168))(hn:cs.size=16){k:KV}(hk:k (.agg cs) w):
  ch (bO prog (λj=>bif Nat.beq j 2 then pv g else undef) w [(ResultVar.cell 2 168)]) w k:=by
 simp only[bO,eH (f:=λj=>bif Nat.beq j 2 then pv g else undef) (a:=2) rfl zA th h hn,ch,vD];exact hk
theorem nG{w:World}{cs:Array Value}{r:Rc}(h:RcAs w cs r)(hc:(rCheck r).2=0):Cl prog 170 [.agg cs] w λv w'=>∃cs',v=.agg cs'/\Held w' (λy=>w.heap.size<=y/\y<w'.heap.size) cs' r/\Fm (λ_=>False) w w':=by refine c170 ?_;refine ae ?_;intro x1 w1 hx1 hs1 hw1 hf1;refine ae ?_;intro x2 w2 hx2 hs2 hw2 hf2;have hF2:=Fmf hf1 hf2;have hw1':=hf2.heap hw1 id;simp only[RS,aa hw1' h.size];refine(pM (h.keep hF2)).mono ?_;rintro _ w3 ⟨rfl,hf3⟩;have hF3:=Fmf hF2 hf3;have hel:=Lg.enc_len hc h.lsns;have hdb:=zZ hc h.lsns [];rw[List.append_nil] at hdb;simp only[RS];refine(pJ w3 (lG r).1 (by omega)).mono ?_;rintro _ w4 ⟨cs',rfl,hok,hf4⟩;rw[hdb] at hok ⊢;have hF4:=Fmf hF3 hf4;have hheld:=hok.held;have hsz:=hok.as.size;have hone:=hok.as.one;simp only[RS];refine ae ?_;intro x5 w5 hx5 hs5 hw5 hf5;have z1:=hF2.size;have z3:=hf3.size;have z4:=hf4.size;refine ao hw5 rfl hsz hone ?_;intro w6 hw6 hs6 hf6;simp only[RS,aa hw6 hsz];have hw2':=hf6.heap (hf5.heap (hf4.heap (hf3.heap hw2 id) id) id) (show ¬x2=x5 by omega);refine ao hw2' rfl hsz hone ?_;intro w7 hw7 hs7 hf7;refine IJ (t:=undef) (c:=0) hw7 hsz ?_;have hF7:Fm (λ_=>False) w w7:=Fm.own (Fm.own (Fmf hF4 hf5) hf6 (by rintro y rfl;omega)) hf7 (by rintro y rfl;omega);refine⟨cs',rfl,?_,hF7⟩;have k5:=hheld.keep hf5 iT;have k6:=k5.keep hf6 (by rintro y hy rfl;omega);have k7:=k6.keep hf7 (by rintro y hy rfl;omega);refine k7.mono ?_;rintro y ⟨q1,q2⟩;omega
theorem qf{w:World}{X:Nat->Prop}{lb db:Nat}{L:Lg}(h:LAt w X lb db L){cs:Array Value}{r:Rc}(hr':∀w',Fm X w w'->RcAs w' cs r):
  Cl prog 192 [pv lb,.agg cs] w λv w'=>v=.tuple #[iv (L.append r).2.1,iv (L.append r).2.2]/\∃X',LAt w' X' lb db (L.append r).1/\(∀y,X' y->X y\/w.heap.size<=y)/\Fm X w w':=by
 have hr:=hr' w (Fm.refl _ _);have hwf:=h.wf.append r hr.lsns;have hlow:=h.wf.low;obtain⟨vs,vm,vi,vp,vt,rfl,_⟩:=hr.ex;have same:∀{w':World},Fm (λ_=>False) w w'->∃X',LAt w' X' lb db L/\(∀y,X' y->X y\/w.heap.size<=y)/\Fm X w w':=λhf=>⟨X,h.aS hf,λy hy=>.inl hy,hf.mono iE⟩;unfold Lg.append at hwf ⊢;refine c192 ?_;refine ae ?_;intro x1 w1 hx1 hs1 hw1 hf1;simp only[RS];refine(ej (h.aS hf1)).mono ?_;rintro _ w2 ⟨rfl,hf2⟩;have hF2:=Fmf hf1 hf2;have hw2:=hf2.heap hw1 id
 try simp only[RS]
 refine au hw2 (by show 0<16;decide) rfl ?_;intro w3 hw3 hs3 hf3;have hF3:Fm (λ_=>False) w w3:=Fm.own hF2 hf3 (by rintro y rfl;omega)
 replace hw3:w3.heap[x1]?=some (.cells (rcs (atR r L.tail) vs vm vi vp vt) 168):=hw3
 have hra:=(hr.keep hF3).atR hlow;simp only[RS,aa hw3 (n:=16) rfl];refine(pM hra).mono ?_;rintro _ w4 ⟨rfl,hf4⟩;have hF4:=Fmf hF3 hf4;rw[AJ];simp only[RS,aG];cases hc:decide ((rCheck (atR r L.tail)).2=0) with
 | false=>simp only[RS,Bool.not_false,cond_false];exact⟨(by trivial),same hF4⟩
 | true=>
 rw[hc] at hwf;rw[decide_eq_true_eq] at hc;have hel:=Lg.enc_len hc hra.lsns;simp only[RS,Bool.not_true,cond_true,aq];refine(mS (h.aS hF4)).mono ?_;rintro _ w5 ⟨rfl,hf5⟩;have hF5:=Fmf hF4 hf5;cases hrm:decide (L.room<((lG (atR r L.tail)).1.length:Int)) with
 | true=>simp only[RS,hrm,cond_true];exact⟨(by trivial),same hF5⟩
 | false=>
 rw[hrm] at hwf;simp only[RS,hrm,cond_false];obtain⟨P,mb,kv,M,hi0⟩:=h.ex;have hi:=hi0.aS hF5;have hsm:=h.wf.small;have hw5:=hf5.heap (hf4.heap hw3 id) id;have hra5:=(hra.keep hf4).keep hf5;generalize hE:(lG (atR r L.tail)).1=E at hel hwf;simp only[cond_true,cond_false] at hwf;have z5:=hF5.size;simp only[RS,hi.c4];obtain⟨kv',w6,hr6,hk6,hf6,hb6⟩:=hi.kp.app B44 E 57 (by omega);refine ag hr6 ?_;have hst6:=hf6.heap hi.st hi.nk
 try simp only[RS]
 refine au hst6 (by show 4<9;decide) hk6.one ?_;intro w7 hw7 hs7 hf7
 replace hw7:w7.heap[lb]?=some (.cells #[pv db,iv (L.frm:Int),iv (L.n:Int),iv (L.base:Int),kv',iv (L.start:Int),iv (L.last:Int),iv L.res,.map (some mb)] 207):=hw7
 have hx1:x1≠lb:=by have:=hi0.lt lb hi0.xs.1;omega
 have hkx:kv.ownBlock≠some x1:=λe=>by have:=hi0.lt x1 (hi0.xs.2.2.1 x1 e);omega
 have hw7x:=hf7.heap (hf6.heap hw5 hkx) hx1;have hfd:=Fm.drew (λ_=>False) w7;have hK7:KpAt w7 5 kv' (L.kept++E):=hk6.keep hf7 (λy hy e=>hk6.B1 hst6 (by decide) (by rw[hy,e]));have hM7:MapAt w7 mb iv Value.agg M:=(hi.mp.keep hf6 (λe=>hi.km e)).keep hf7 hi.nm;have hR7:∀{w'},Fm (λ_=>False) w7 w'->∀k cs,(k,cs)∈M->∃r,(k,r)∈L.recs/\Held w' P cs r:=λhf k cs hm=>by obtain⟨r',q1,q2⟩:=hi.rec_ k cs hm;exact⟨r',q1,((q2.keep hf6 (λy hy e=>hi.ps.2.2 y e hy)).keep hf7 (λy hy e=>hi.ps.1 (e▸hy))).keep hf iT⟩
 have hX7:Fm X w w7:=Fm.step (Fm.step (hF5.mono iE) hf6 (λy hy=>.inl (hi0.xs.2.2.1 y hy))) hf7 (λy hy=>.inl (hy▸hi0.xs.1));have hra7:=(hr' w7.drew (Fm.step hX7 hfd (λ_ e=>e.elim))).atR hlow;have z7:=hX7.size
 try simp only[RS]
 refine⟨λw'=>Fm (λ_=>False) w7 w',hfd,?_⟩;refine⟨.map (some mb),λw' h'=>?_,?_⟩
 ·have:w'.cell? ⟨lb,8,none⟩=some (.map (some mb)):=by rw[ab (h'.heap hw7 id)];rfl
  simp only[RS,this]<;>trivial
 refine⟨iv (L.tail:Int),λw' h'=>?_,?_⟩
 ·have:w'.cell? ⟨x1,0,none⟩=some (iv (L.tail:Int)):=by rw[ab (h'.heap hw7x id)];rfl
  simp only[RS,this]<;>trivial
 simp only[RS,aa (hfd.heap hw7x id) (n:=16) rfl,true_and];refine(nG hra7 hc).mono ?_;rintro _ w8 ⟨cs',rfl,hheld,hf8⟩;have hF8:=Fmf hfd hf8;refine⟨hF8,?_⟩;have z8:=hf8.size;have zd:w7.drew.heap.size=w7.heap.size:=rfl;obtain⟨w9,hr9,hM9,hf9,hz9⟩:=bk DY (hM7.keep hF8 id) (L.tail:Int) cs';refine cB hr9 ?_;have hxm:x1≠mb:=by have:=hi0.lt mb hi0.xs.2.1;omega
 have hw9x:=hf9.heap (hF8.heap hw7x id) hxm;have hw9:=hf9.heap (hF8.heap hw7 id) hi.nm.symm;have c9:w9.cell? ⟨x1,0,none⟩=some (iv (L.tail:Int)):=by rw[ab hw9x];rfl
 simp only[RS,c9];have hX9:Fm X w w9:=Fm.step (Fm.step hX7 hF8 (λ_ e=>e.elim)) hf9 (λy hy=>.inl (hy▸hi0.xs.2.1));have z9:=hX9.size;refine⟨(by trivial),λy=>X y\/(w.heap.size<=y/\y<w9.heap.size),⟨hwf,λy=>P y\/(w7.heap.size<=y/\y<w8.heap.size),mb,kv',cO M (L.tail:Int) cs',?_⟩,λy hy=>hy.imp id (λe=>e.1),hX9⟩;have hlb:=hi0.lt lb hi0.xs.1;have hmb:=hi0.lt mb hi0.xs.2.1;have hkv:∀y,kv'.ownBlock=some y->(kv.ownBlock=some y\/(w.heap.size<=y/\y<w7.heap.size)):=λy hy=>by
  rcases hb6 y hy with e|e
  ·exact .inl e
  ·have:=hK7.lt y hy;exact .inr ⟨by omega,this⟩
 refine⟨hw9,(hK7.keep hF8 iT).keep hf9 (λy hy e=>?_),hM9,?_,?_,⟨.inl hi0.xs.1,.inl hi0.xs.2.1,λy hy=>?_,λy hy=>?_⟩,⟨?_,?_,?_⟩,λy hy=>?_⟩
 ·rcases hkv y hy with q|q
  ·exact hi.km (by rw[q,e])
  ·omega
 ·rw[cV,cV,hi.keys]
 ·intro k cs hm;have hnd:getD M (L.tail:Int)=none:=by rw[getD_none,hi.keys];intro hm;obtain⟨x,hx,hxe⟩:=List.mem_map.1 hm;have:=(h.wf.ok x hx).2.2.2.2;omega
  have hnd2:getD L.recs (L.tail:Int)=none:=by rw[getD_none,<- hi.keys,<- getD_none];exact hnd
  rw[di _ _ _ hnd] at hm;show ∃r',(k,r')∈cO L.recs (L.tail:Int) (atR r L.tail)/\_;rw[di _ _ _ hnd2];rcases List.mem_append.1 hm with hm|hm
  ·obtain⟨r',q1,q2⟩:=hR7 hF8 k cs hm;exact⟨r',List.mem_append_left _ q1,(q2.mono (λy hy=>.inl hy)).keep hf9 (by
    rintro y (hy|hy) rfl
    ·exact hi.ps.2.1 hy
    ·omega)⟩
  ·simp only[List.mem_singleton,Prod.mk.injEq] at hm;obtain⟨rfl,rfl⟩:=hm;exact⟨_,List.mem_append_right _ (by simp),(hheld.mono (λy hy=>.inr hy)).keep hf9 (by
    rintro y (hy|hy) rfl
    ·exact hi.ps.2.1 hy
    ·omega)⟩
 ·rcases hkv y hy with q|q
  ·exact .inl (hi0.xs.2.2.1 y q)
  ·exact .inr ⟨q.1,by omega⟩
 ·rcases hy with q|q
  ·exact .inl (hi0.xs.2.2.2 y q)
  ·exact .inr ⟨by omega,by omega⟩
 ·rintro(q|q)
  ·exact hi.ps.1 q
  ·omega
 ·rintro(q|q)
  ·exact hi.ps.2.1 q
  ·omega
 ·rintro y hy (q|q)
  ·rcases hkv y hy with e|e
   ·exact hi.ps.2.2 y e q
   ·have:=hi0.lt y (hi0.xs.2.2.2 y q);omega
  ·have:=hK7.lt y hy;omega
 ·rcases hy with q|q
  ·have:=hi0.lt y q;omega
  ·exact q.2
theorem xk(a b:Int):az aQ [iv a,iv b]=some (iv (min a b)):=by
 have:aQ (iv a) (iv b)=some (iv (min a b)):=by show some (iv (if b<a then b else a))=_;congr 2;split<;>omega
 simp only[az,aR,this,Option.bind_some]
theorem fZ(w:World){k:Nat}(hk:k+1<=9223372036854775807):Cl prog 318 [iv (k:Int)] w λv w'=>v=stv (tM k)/\Fm (λ_=>False) w w':=by
 refine c318 ?_;have e1:IntKind.i64.wrap ((k:Int)+1)=((k+1:Nat):Int):=by rw[af]<;>omega
 have e2:=eG (TypeDesc.int .i64) (n:=k+1) (m:=4294967296) (by decide) hk (b:=4294967296) rfl;simp only[RS,e1,e2];refine(bu w (n:=(((k+1) % 4294967296:Nat):Int)) (by unfold In;omega) 4).mono ?_;rintro _ w1 ⟨rfl,hf⟩;refine⟨?_,hf⟩;unfold tM;rw[show(4:Int)=((4:Nat):Int) from rfl,ep (by omega) (by omega)]
theorem iK(w:World){n:Nat}(h:1<=n)(hn:n<=9223372036854775807):Cl prog 167 [iv (n:Int)] w λv w'=>v=iv (((n - 1) / 54:Nat):Int)/\w'=w:=by
 refine c167 ?_;have e1:IntKind.i64.wrap ((n:Int) - 1)=((n - 1:Nat):Int):=by rw[af]<;>omega
 have e2:=nJ (TypeDesc.int .i64) (n:=n - 1) (m:=54) (by decide) (by omega) (b:=54) rfl;simp only[RS,e1,e2];exact⟨(by trivial),(by trivial)⟩
theorem gM(w:World){k:Nat}(hk:k*54+1<=9223372036854775807):Cl prog 166 [iv (k:Int)] w λv w'=>v=iv ((k*54+1:Nat):Int)/\w'=w:=by
 refine c166 ?_;have e1:IntKind.i64.wrap ((k:Int)*54)=((k*54:Nat):Int):=by rw[af]<;>omega
 have e2:IntKind.i64.wrap (((k*54:Nat):Int)+1)=((k*54+1:Nat):Int):=by rw[af]<;>omega
 simp only[RS,e1,e2];exact⟨(by trivial),(by trivial)⟩
theorem mT(w:World){k:Nat}(hk:k+1<=9223372036854775807){b:Bs}(hb:b.length<=54):Cl prog 261 [iv (k:Int),stv b] w λv w'=>v=stv (nR k b)/\Fm (λ_=>False) w w':=by
 refine c261 ?_;have e1:cvI .u8 (iv (b.length:Int))=some (.int .u8 (((UInt8.ofNat b.length).toNat:Nat):Int)):=by show some (Value.int .u8 (IntKind.u8.wrap (b.length:Int)))=_;rw[eK,Nat.mod_eq_of_lt (by omega),iI (by omega)]
 have e2:IntKind.i64.wrap (54 - (b.length:Int))=((54 - b.length:Nat):Int):=by rw[af]<;>omega
 have h4:=Lg.blk_len k;have hz:=Lg.zeros_len' (54 - b.length);simp only[RS,aq,e1];refine ag (EC _ _) ?_;have hfa:=Fm.alloc (λ_=>False) w (.cells #[.int .u8 (((UInt8.ofNat b.length).toNat:Nat):Int)] 5);have hrow:BRow (w.alloc (.cells #[.int .u8 (((UInt8.ofNat b.length).toNat:Nat):Int)] 5)) w.heap.size 5 [UInt8.ofNat b.length]:=aA _ _;generalize w.alloc (.cells #[.int .u8 (((UInt8.ofNat b.length).toNat:Nat):Int)] 5)=w1 at hfa hrow;have hcv:=hrow.conv (P:=prog) B38 (o:=0) (n:=1) (by simp) 1
 refine ag hcv ?_;rw[show(([UInt8.ofNat b.length]:Bs).drop 0).take 1=[UInt8.ofNat b.length] from rfl];refine(fZ w1 hk).mono ?_;rintro _ w2 ⟨rfl,hf2⟩;rw[mI (by simp;omega)];simp only[RS];rw[mI (by simp;omega)];simp only[RS,aq,e2];refine(bW w2 (54 - b.length) (by omega)).mono ?_;rintro _ w3 ⟨rfl,hf3⟩;rw[mI (by simp;omega)];simp only[RS];rw[mI (by simp;omega)];simp only[RS];refine(fZ w3 hk).mono ?_;rintro _ w4 ⟨rfl,hf4⟩;rw[mI (by simp;omega)];simp only[RS];refine⟨?_,Fmf hfa (Fmf hf2 (Fmf hf3 hf4))⟩;unfold nR;simp only[List.append_assoc]
section
variable{w:World}{X:Nat->Prop}{lb db:Nat}{L:Lg}
theorem ql(h:LAt w X lb db L){k:Nat}(hk:k<=9223372036854775807):Cl prog 255 [pv lb,iv (k:Int)] w λv w'=>v=iv ((L.frm+k % L.n:Nat):Int)/\Fm (λ_=>False) w w':=by
 obtain⟨P,mb,kv,M,hi⟩:=h.ex;have h1:=h.wf.big;have h2:=h.wf.n4;have e1:=eG (TypeDesc.int .i64) (n:=k) (m:=L.n) (by omega) hk (b:=(L.n:Int)) rfl;have hm:=Nat.mod_lt k (show 0<L.n by omega);have e2:IntKind.i64.wrap ((L.frm:Int)+((k % L.n:Nat):Int))=((L.frm+k % L.n:Nat):Int):=by rw[af]<;>omega
 refine c255 ?_;simp only[RS,hi.c1,hi.c2,e1,e2,true_and];exact Fm.drew _ _
theorem lC(h:LAt w X lb db L){k:Nat}(hk:L.base<=k*54+1)(hk2:k*54+1<=L.tail):Cl prog 260 [pv lb,iv (k:Int)] w λv w'=>v=stv (L.bytes k)/\Fm (λ_=>False) w w':=by
 obtain⟨P,mb,kv,M,hi⟩:=h.ex;have h1:=h.wf.low;have h2:=h.wf.small;have ht:L.tail=L.base+L.kept.length:=rfl;have hfd:=Fm.drew (λ_=>False) w;have e1:IntKind.i64.wrap (((k*54+1:Nat):Int) - (L.base:Int))=((k*54+1 - L.base:Nat):Int):=by rw[af]<;>omega
 have e2:IntKind.i64.wrap (((k*54+1 - L.base:Nat):Int)+54)=((k*54+1 - L.base+54:Nat):Int):=by rw[af]<;>omega
 have e3:min ((k*54+1 - L.base+54:Nat):Int) ((L.kept.length:Nat):Int)=((min (k*54+1 - L.base+54) L.kept.length:Nat):Int):=by omega
 refine c260 ?_;refine⟨λw'=>LIn w' X P lb db mb kv M L,hi.aS hfd,?_⟩;simp only[RS];refine⟨iv (L.base:Int),λw' h'=>?_,?_⟩
 ·simp only[RS,h'.c3]<;>trivial
 refine(gM w.drew (by omega)).mono ?_;rintro _ _ ⟨rfl,rfl⟩;refine⟨hi.aS hfd,?_⟩;have hfd2:=Fmf hfd (Fm.drew (λ_=>False) w.drew);have hi2:=hi.aS hfd2;obtain⟨u,q1,q2⟩:=hi2.kp.cut (P:=prog) B38 (i:=k*54+1 - L.base) (j:=min (k*54+1 - L.base+54) L.kept.length) (by omega) (by omega);simp only[RS,e1,hi.c4,e2,hi.kp.lenV,xk,e3,q1,true_and];have e4:(L.kept.drop (k*54+1 - L.base)).take (min (k*54+1 - L.base+54) L.kept.length - (k*54+1 - L.base))=L.bytes k:=by unfold Lg.bytes;rw[List.take_eq_take_iff,List.length_drop];omega
 rw[e4] at q2;exact ag q2 ⟨rfl,rfl,hfd2⟩
end
theorem qJ(L:Lg)(f k:Nat)(d:Dk)(h:L.tail<=k*54+1):L.flushGo f k d=(d,0):=by
 cases f with
 | zero=>rfl
 | succ f=>
  rw[Lg.flushGo];have:decide (k*54+1<L.tail)=false:=by rw[decide_eq_false_iff_not];omega
  rw[this];rfl
def FD(lb db g m:Nat)(y:Nat):Prop:=y=lb\/y=db\/y=g\/y=m
theorem rP{w:World}{X:Nat->Prop}{lb db g m:Nat}{L:Lg}{d:Dk}(h:LAt w X lb db L)(hd:DAt w db g m d)(hX:¬X db/\¬X g/\¬X m)(upto:Int):
  Cl prog 186 [pv lb,iv upto] w λv w'=>v=iv (L.flush upto d).2.2/\LAt w' X lb db (L.flush upto d).1/\DAt w' db g m (L.flush upto d).2.1/\Fm (FD lb db g m) w w':=by
 have h1:=h.wf.st;have h2:=h.wf.low;have h3:=h.wf.hi;have h4:=h.wf.bs;have hb:=Lg.baseOf_le h1.1;rw[<- h4] at hb;have ht:L.tail=L.base+L.kept.length:=rfl;have up0:∀{a b:World},Fm (λ_=>False) a b->Fm (FD lb db g m) a b:=λhf=>hf.mono (λ_ _ e=>e.elim);have hXD:∀y,X y->¬(y=db\/y=g\/y=m):=by
  rintro y hy (rfl|rfl|rfl)
  ·exact hX.1 hy
  ·exact hX.2.1 hy
  ·exact hX.2.2 hy
 have hfl:L.flush upto d=bif decide (upto<(L.last:Int))||decide (L.last=L.tail) then(L,d,0) else
   bif decide ((L.flushE d).2=0) then(bif decide ((L.flushE d).1.sync.2=0) then({ L with last:=L.tail },(L.flushE d).1.sync.1,0) else(L,(L.flushE d).1.sync.1,(L.flushE d).1.sync.2))
   else(L,(L.flushE d).1,(L.flushE d).2):=rfl
 refine c186 ?_;simp only[RS];refine(ej h).mono ?_;rintro _ w2 ⟨rfl,hf2⟩;have hL2:=h.aS hf2;have hd2:=hd.aS hf2;obtain⟨P,mb,kv,M,hi2⟩:=hL2.ex;cases e1:decide (upto<(L.last:Int)) with
 | true=>rw[e1,Bool.true_or,cond_true] at hfl;rw[hfl];simp only[RS,hi2.c6,e1];exact⟨(by trivial),hL2,hd2,up0 hf2⟩
 | false=>
 have e2:((L.last:Int) ==(L.tail:Int))=decide (L.last=L.tail):=by rw[aV,decide_eq_decide];omega
 cases e3:decide (L.last=L.tail) with
 | true=>rw[e1,e3,Bool.false_or,cond_true] at hfl;rw[hfl];simp only[RS,hi2.c6,e1,e2,e3];exact⟨(by trivial),hL2,hd2,up0 hf2⟩
 | false=>
 rw[e1,e3,Bool.false_or,cond_false] at hfl;rw[decide_eq_false_iff_not] at e3;have h3':=h3 (by omega);have e3':decide (L.last=L.tail)=false:=by simpa using e3
 have hbl:L.base<=(L.last - 1) / 54*54+1:=by rw[h4];unfold Lg.baseOf;omega
 simp only[RS,hi2.c6,e1,e2,e3'];refine(iK w2 (n:=L.last) (by omega) (by omega)).mono ?_;rintro _ w2 ⟨rfl,rfl⟩;refine⟨λvs w'=>∃(k f:Nat) (e:Dk),vs=[iv (k:Int)]/\L.base<=k*54+1/\L.tail<=k*54+1+f/\k*54<=4611686018427600000/\LAt w' X lb db L/\DAt w' db g m e/\Fm (λy=>y=db\/y=g\/y=m) w w'/\L.flushGo f k e=L.flushE d,
  λvs _=>((L.tail:Int) - 54*nth vs 0).toNat,⟨(L.last - 1) / 54,L.kept.length+1,d,rfl,?_,?_,?_,hL2,hd2,hf2.mono (λ_ _ e=>e.elim),rfl⟩,?_⟩
 ·exact hbl
 ·omega
 ·omega
 rintro _ w3 kval ⟨k,f,e,hvs,k1,k2,k3,hL3,hd3,hF3,hgo⟩;cases hvs;refine(gM w3 (k:=k) (by omega)).mono ?_;rintro _ w3 ⟨rfl,rfl⟩;by_cases hlt:k*54+1<L.tail
 ·have d1:decide (((k*54+1:Nat):Int)<(L.tail:Int))=true:=by rw[decide_eq_true_eq];omega
  have d2:decide (k*54+1<L.tail)=true:=by rw[decide_eq_true_eq];exact hlt
  obtain⟨f',rfl⟩:∃f',f=f'+1:=⟨f - 1,by omega⟩;rw[Lg.flushGo,d2,cond_true] at hgo;simp only[RS,d1];have hfd:=Fm.drew (λ_=>False) w3;refine⟨λw'=>Fm (λ_=>False) w3 w',hfd,?_⟩;refine⟨pv db,λw' h'=>?_,?_⟩
  ·obtain⟨P',mb',kv',M',hi'⟩:=(hL3.aS h').ex;simp only[RS,hi'.c0]<;>trivial
  refine(ql (hL3.aS hfd) (k:=k) (by omega)).mono ?_;rintro _ w4 ⟨rfl,hf4⟩;have hF4:=Fmf hfd hf4;refine⟨hF4,?_⟩;refine(lC (hL3.aS hF4) k1 (by omega)).mono ?_;rintro _ w5 ⟨rfl,hf5⟩;have hF5:=Fmf hF4 hf5;refine⟨hF5,?_⟩;refine(mT w5 (k:=k) (by omega) (Lg.bytes_len L k)).mono ?_;rintro _ w6 ⟨rfl,hf6⟩;have hF6:=Fmf hF5 hf6;refine⟨hF6,?_⟩;refine(bV (hd3.aS hF6) ((L.frm+k % L.n:Nat):Int) (nR k (L.bytes k)) (by rw[Lg.seal_len (Lg.bytes_len L k)];omega)).mono ?_;rintro _ w7 ⟨rfl,hd7,hf7⟩;have hL7:=(hL3.aS hF6).keep hf7 hXD;have hF7:Fm (λy=>y=db\/y=g\/y=m) w w7:=(hF3.trans (hF6.mono (λ_ _ e=>e.elim)) (λ_ _ e=>e) (λ_ _ e=>e)).trans hf7 (λ_ _ e=>e) (λ_ _ e=>e);have hput:e.write ((L.frm+k % L.n:Nat):Int) (nR k (L.bytes k))=L.put k e:=rfl;rw[hput] at hd7 ⊢;simp only[RS,aG];cases hz:decide ((L.put k e).2=0) with
  | false=>
   rw[hz,cond_false] at hgo;have hz2:decide ((L.flushE d).2=0)=false:=by rw[<- hgo];exact hz
   rw[hz2,cond_false,<- hgo] at hfl;rw[hfl];simp only[RS,Bool.not_false];exact⟨(by trivial),hL7,hd7,hF7.mono (λ_ _ e=>.inr e)⟩
  | true=>
   rw[hz,cond_true] at hgo;have e5:IntKind.i64.wrap ((k:Int)+1)=((k+1:Nat):Int):=by rw[af]<;>omega
   simp only[RS,Bool.not_true,e5];exact⟨⟨k+1,f',(L.put k e).1,rfl,by omega,by omega,by omega,hL7,hd7,hF7,hgo⟩,by simp only[ba];omega⟩
 ·have d1:decide (((k*54+1:Nat):Int)<(L.tail:Int))=false:=by rw[decide_eq_false_iff_not];omega
  rw[qJ L f k e (by omega)] at hgo;rw[<- hgo] at hfl;simp only[decide_true,cond_true] at hfl;obtain⟨P3,mb3,kv3,M3,hi3⟩:=hL3.ex;simp only[RS,d1,hi3.c0];refine(dk hd3).mono ?_;rintro _ w4 ⟨rfl,hd4,hf4⟩;have hL4:=hL3.keep hf4 hXD;have hF4:=hF3.trans hf4 (λ_ _ e=>e) (λ_ _ e=>e);simp only[RS,aG];cases hz:decide (e.sync.2=0) with
  | false=>rw[hz,cond_false] at hfl;rw[hfl];simp only[RS,Bool.not_false];exact⟨(by trivial),hL4,hd4,hF4.mono (λ_ _ e=>.inr e)⟩
  | true=>rw[hz,cond_true] at hfl;rw[hfl];obtain⟨P4,mb4,kv4,M4,hi4⟩:=hL4.ex;simp only[RS,Bool.not_true];refine au hi4.st (by show 6<9;decide) rfl ?_;intro w5 hw5 hs5 hf5;have hlb:=hL4.lb;refine⟨(by trivial),⟨h.wf.last,P4,mb4,kv4,M4,hi4.upd hw5 hf5 rfl rfl⟩,hd4.keep hf5 (λe=>hX.1 (by rw[e];exact hlb)) (λe=>hX.2.1 (by rw[e];exact hlb)) (λe=>hX.2.2 (by rw[e];exact hlb)),(hF4.mono (λ_ _ e=>.inr e)).trans hf5 (λ_ _ e=>e) (λ_ _ e=>.inl e)⟩
theorem xo(w:World){s t:Bs}(h:t.length<=s.length)(hs:s.length<=9223372036854775807):Cl prog 149 [stv s,stv t] w λv w'=>v=.bool (decide (s.take t.length=t))/\w'=w:=by
 refine c149 ?_;refine(?_:Cl prog 244 [stv s,stv t] w λv w'=>v=.bool (decide (s.take t.length=t))/\w'=w).mono iT;refine c244 ?_;have d1:decide ((t.length:Int)<=(s.length:Int))=true:=by rw[decide_eq_true_eq];omega
 simp only[RS,aq,d1,gn h,bn];exact⟨(by trivial),(by trivial)⟩
theorem xp(w:World){s t:Bs}(h:t.length<=s.length)(hs:s.length<=9223372036854775807):Cl prog 319 [stv s,stv t] w λv w'=>v=.bool (decide (s.drop (s.length - t.length)=t))/\w'=w:=by
 refine c319 ?_;refine(?_:Cl prog 379 [stv s,stv t] w λv w'=>v=.bool (decide (s.drop (s.length - t.length)=t))/\w'=w).mono iT;refine c379 ?_;have d1:decide ((t.length:Int)<=(s.length:Int))=true:=by rw[decide_eq_true_eq];omega
 have e1:IntKind.i64.wrap ((s.length:Int) - (t.length:Int))=((s.length - t.length:Nat):Int):=by rw[af]<;>omega
 have e2:slS (stv s) (some (iv ((s.length - t.length:Nat):Int))) none=some (stv (s.drop (s.length - t.length))):=eT (by omega) .i64;simp only[RS,aq,d1,e1,e2,bn];exact⟨(by trivial),(by trivial)⟩
theorem ET(a b:Nat):aQ (.int .u8 (a:Int)) (.int .u8 (b:Int))=some (.int .u8 ((min a b:Nat):Int)):=by show some (Value.int .u8 (if (b:Int)<(a:Int) then(b:Int) else(a:Int)))=_;congr 2;split<;>omega
theorem qi(w:World){s:Bs}(hs:s.length=64){k:Nat}(hk:k+1<=9223372036854775807):Cl prog 256 [stv s,iv (k:Int)] w λv w'=>v=stv (opened s k)/\Fm (λ_=>False) w w':=by
 have h4:=Lg.blk_len k;refine c256 ?_;refine(fZ w hk).mono ?_;rintro _ w2 ⟨rfl,hf2⟩;refine(xo w2 (s:=s) (t:=tM k) (by omega) (by omega)).mono ?_;rintro _ w2 ⟨rfl,rfl⟩;rw[h4];unfold opened;cases e1:decide (s.take 4=tM k) with
 | false=>simp only[RS,Bool.false_and,cond_false];exact⟨(by trivial),hf2⟩
 | true=>
 simp only[RS,Bool.true_and];refine(fZ w2 hk).mono ?_;rintro _ w3 ⟨rfl,hf3⟩
 try simp only[RS]
 refine(xp w3 (s:=s) (t:=tM k) (by omega) (by omega)).mono ?_;rintro _ w3 ⟨rfl,rfl⟩;rw[h4,hs];have hF:=Fmf hf2 hf3;rw[show 64 - 4=60 from rfl];cases e2:decide (s.drop 60=tM k) with
 | false=>simp only[RS,cond_false];exact⟨(by trivial),hF⟩
 | true=>
 have i4:ixS (stv s) (iv 4)=some (.int .u8 (((s.getD 4 0).toNat:Nat):Int)):=dG (k:=4) (by omega);have i59:ixS (stv s) (iv 59)=some (.int .u8 (((s.getD 59 0).toNat:Nat):Int)):=dG (k:=59) (by omega);have e5:slS (stv s) (some (iv 5)) none=some (stv (s.drop 5)):=eT (i:=5) (by omega) .i64;have ef:az aQ [.int .u8 (((s.getD 4 0).toNat:Nat):Int),.int .u8 (((s.getD 59 0).toNat:Nat):Int),.int .u8 54]=some (.int .u8 ((min (min (s.getD 4 0).toNat (s.getD 59 0).toNat) 54:Nat):Int)):=by
  simp only[az,aR,ET,Option.bind_some];rw[show(Value.int .u8 54)=.int .u8 ((54:Nat):Int) from rfl,ET]
  rfl
 have e6:slS (stv (s.drop 5)) none (some (.int .u8 ((min (min (s.getD 4 0).toNat (s.getD 59 0).toNat) 54:Nat):Int)))=some (stv ((s.drop 5).take (min (min (s.getD 4 0).toNat (s.getD 59 0).toNat) 54))):=gn (by rw[List.length_drop];omega) .u8;simp only[RS,e5,i4,i59,ef,e6,cond_true];exact⟨(by trivial),Fmf hF (Fm.drew _ _)⟩
theorem sZ{d:Dk}(h:d.Wf){a:Int}(he:(d.read a 1).2=0):(d.read a 1).1.length=64:=by
 unfold Dk.read at he ⊢;cases hg:d.gone with
 | true=>rw[hg] at he;cases he
 | false=>
  rw[hg,cond_false] at he;rw[cond_false];cases hh:d.has a 1 with
  | false=>rw[hh] at he;cases he
  | true=>simp only[Bool.not_true,cond_false];unfold Dk.has at hh;rw[decide_eq_true_eq] at hh;rw[Dk.flat_len (λx hx=>h.s1 x (List.mem_of_mem_drop (List.mem_of_mem_take hx))),List.length_take,List.length_drop];have:(1:Int).toNat=1:=rfl;rw[this];omega
def bx(d:Dk)(frm n k:Nat):Nat->Nat->Bs->Bs×Int
 | 0,i,out=>(out,0)
 | f+1,i,out=>bif decide ((d.read ((frm+(k+i) % n:Nat):Int) 1).2=0) then
   (bif decide ((opened (d.read ((frm+(k+i) % n:Nat):Int) 1).1 (k+i)).length<54) then(out++opened (d.read ((frm+(k+i) % n:Nat):Int) 1).1 (k+i),0)
    else bx d frm n k f (i+1) (out++opened (d.read ((frm+(k+i) % n:Nat):Int) 1).1 (k+i)))
  else([],(d.read ((frm+(k+i) % n:Nat):Int) 1).2)
theorem mu(s:Bs)(k:Nat):(opened s k).length<=54:=by
 unfold opened;cases decide (s.take 4=tM k)&&decide (s.drop 60=tM k) with
 | true=>rw[cond_true,List.length_take];omega
 | false=>simp
section
variable{w:World}{X P:Nat->Prop}{lb db mb:Nat}{kv:Value}{M:List (Int×Array Value)}{L:Lg}
theorem nY(hi:LIn w X P lb db mb kv M L)(h1:L.frm+L.n<=65536)(h2:4<=L.n){k:Nat}(hk:k<=9223372036854775807):Cl prog 255 [pv lb,iv (k:Int)] w λv w'=>v=iv ((L.frm+k % L.n:Nat):Int)/\Fm (λ_=>False) w w':=by
 have e1:=eG (TypeDesc.int .i64) (n:=k) (m:=L.n) (by omega) hk (b:=(L.n:Int)) rfl;have hm:=Nat.mod_lt k (show 0<L.n by omega);have e2:IntKind.i64.wrap ((L.frm:Int)+((k % L.n:Nat):Int))=((L.frm+k % L.n:Nat):Int):=by rw[af]<;>omega
 refine c255 ?_;simp only[RS,hi.c1,hi.c2,e1,e2,true_and];exact Fm.drew _ _
theorem vk{g m:Nat}{d:Dk}(hi:LIn w X P lb db mb kv M L)(h1:L.frm+L.n<=65536)(h2:4<=L.n)(hd:DAt w db g m d){k:Nat}(hk:k<=9000000000000000000):
  Cl prog 168 [pv lb,iv (k:Int)] w λv w'=>∃u,v=.tuple #[u,iv (bx d L.frm L.n k L.n 0 []).2]/\w'.ownsRow w.heap.size 5 1 u (bx d L.frm L.n k L.n 0 []).1.length (bc (bx d L.frm L.n k L.n 0 []).1)/\Fm (λ_=>False) w w':=by
 refine c168 ?_;refine aJ (λvs w2=>∃u,vs=[u]/\(bx d L.frm L.n k L.n 0 []).2=0/\w2.ownsRow w.heap.size 5 1 u (bx d L.frm L.n k L.n 0 []).1.length (bc (bx d L.frm L.n k L.n 0 []).1)/\Fm (λ_=>False) w w2) ?_ ?_
 ·rintro _ w2 ⟨u,rfl,q1,q2,q3⟩ _;exact⟨u,rfl,u,by rw[q1],q2,q3⟩
 intro kk hkk;simp only[RS,hi.c2];refine⟨λvs w'=>∃(i:Nat) (out:Bs) (ov:Value),vs=[ov,iv (i:Int)]/\i<=L.n/\w'.ownsRow w.heap.size 5 1 ov out.length (bc out)/\out.length<=54*i/\Fm (λ_=>False) w w'/\bx d L.frm L.n k (L.n - i) i out=bx d L.frm L.n k L.n 0 [],
  λvs _=>(L.n - nth vs 1).toNat,⟨0,[],_,rfl,by omega,World.ownsRow_nil _ _ _ _,by simp,Fm.refl _ _,rfl⟩,?_⟩
 rintro _ w3 ov ivv ⟨i,out,ov',hvs,hin,ho,hol,hF3,hgo⟩;cases hvs;by_cases hlt:i<L.n
 ·have d1:decide ((i:Int)<(L.n:Int))=true:=by rw[decide_eq_true_eq];omega
  have e1:IntKind.i64.wrap ((k:Int)+(i:Int))=((k+i:Nat):Int):=by rw[af]<;>omega
  have e2:IntKind.i64.wrap ((i:Int)+1)=((i+1:Nat):Int):=by rw[af]<;>omega
  have hsub:L.n - i=(L.n - (i+1))+1:=by omega
  rw[hsub,bx] at hgo;have hfd:=Fm.drew (λ_=>False) w3;have hFd:=Fmf hF3 hfd;simp only[RS,d1];refine⟨λw'=>Fm (λ_=>False) w3 w',hfd,?_⟩;refine⟨pv db,λw' h'=>?_,?_⟩
  ·have hc0:=(hi.aS (Fmf hF3 h')).c0;simp only[RS,hc0]<;>trivial
  simp only[RS,e1];refine(nY (hi.aS hFd) h1 h2 (k:=k+i) (by omega)).mono ?_;rintro _ w4 ⟨rfl,hf4⟩;have hF4:=Fmf hfd hf4;refine⟨hF4,?_⟩;have hF4':=Fmf hF3 hF4;refine(fN (hd.aS hF4') ((L.frm+(k+i) % L.n:Nat):Int) 1).mono ?_;rintro _ w4 ⟨rfl,rfl⟩;have hrl:=sZ hd.wf (a:=((L.frm+(k+i) % L.n:Nat):Int));generalize d.read ((L.frm+(k+i) % L.n:Nat):Int) 1=rd at hgo hrl;simp only[RS,aG];cases hz:decide (rd.2=0) with
  | false=>rw[hz,cond_false] at hgo;rw[<- hgo];simp only[RS,Bool.not_false];exact⟨_,(by trivial),World.ownsRow_nil _ _ _ _,hF4'⟩
  | true=>
  rw[hz,cond_true] at hgo;rw[decide_eq_true_eq] at hz;simp only[RS,Bool.not_true];refine(qi w4 (hrl hz) (k:=k+i) (by omega)).mono ?_;rintro _ w5 ⟨rfl,hf5⟩;have hF5:=Fmf hF4 hf5;have ho5:=ah ho hF5 (λ_ _ _ _ e=>e);have hz5:=(Fmf hF3 hF5).size;have hol2:=mu rd.1 (k+i);generalize opened rd.1 (k+i)=b at hgo hol2;have d2:decide ((b.length:Int)<54)=decide (b.length<54):=by rw[decide_eq_decide];omega
  obtain⟨v',w6,hr6,ho6,hf6,_⟩:=gu B38 ho5 b 57 (by omega) hz5;refine ag hr6 ?_;have hlt6:=aO ho5;have hF6:Fm (λ_=>False) w w6:=Fm.own (Fmf hF3 hF5) hf6 (λy hy=>(hlt6 y hy).1);rw[<- List.length_append] at ho6;simp only[RS,aq,d2,e2];cases hs:decide (b.length<54) with
  | true=>rw[hs,cond_true] at hgo;simp only[RS];exact hkk _ _ ⟨v',rfl,by rw[<- hgo],by rw[<- hgo];exact ho6,hF6⟩
  | false=>rw[hs,cond_false] at hgo;simp only[RS];exact⟨⟨i+1,out++b,v',rfl,by omega,ho6,by rw[List.length_append];omega,hF6,hgo⟩,by simp only[cN];omega⟩
 ·have hie:i=L.n:=by omega
  subst hie;have d1:decide ((L.n:Int)<(L.n:Int))=false:=by simp
  rw[Nat.sub_self,bx] at hgo;simp only[RS,d1];exact hkk _ _ ⟨ov,rfl,by rw[<- hgo],by rw[<- hgo];exact ho,hF3⟩
end
def clr(n:Nat):Nat->Nat->List Bs->List Bs
 | 0,_,W=>W
 | f+1,k,W=>clr n f (k+1) (W.set (k % n) [])
theorem wG(n:Nat):∀(f k:Nat) (W:List Bs),(clr n f k W).length=W.length
 | 0,_,W=>rfl
 | f+1,k,W=>by rw[clr,wG n f];simp
def Lg.bY(L:Lg):Nat:=(L.tail - 1) / 54
def Lg.lE(L:Lg):List Bs:=clr L.n (L.bY - (L.start - 1) / 54) ((L.start - 1) / 54) (List.replicate L.n Dk.zsec)
def Lg.want(L:Lg):List Bs:=bif decide (L.bytes L.bY=[]) then L.lE else L.lE.set (L.bY % L.n) (nR L.bY (L.bytes L.bY))
theorem Bb(L:Lg):L.want.length=L.n:=by
 have:L.lE.length=L.n:=by unfold Lg.lE;rw[wG];simp
 unfold Lg.want;cases decide (L.bytes L.bY=[]) with
 | true=>exact this
 | false=>simp[this]
def df(frm:Nat):List Bs->Nat->Bool->Dk->Bool×Dk×Int
 | [],_,wr,d=>(wr,d,0)
 | x::l,i,wr,d=>
  bif decide (x=[]) then df frm l (i+1) wr d
  else bif decide ((d.read ((frm+i:Nat):Int) 1).2=0) then
   (bif decide ((d.read ((frm+i:Nat):Int) 1).1=x) then df frm l (i+1) wr d
    else bif decide ((d.write ((frm+i:Nat):Int) x).2=0) then df frm l (i+1) true (d.write ((frm+i:Nat):Int) x).1 else(true,(d.write ((frm+i:Nat):Int) x).1,(d.write ((frm+i:Nat):Int) x).2))
  else(wr,d,(d.read ((frm+i:Nat):Int) 1).2)
def Lg.iV(L:Lg)(d:Dk):Bool×Dk×Int:=df L.frm L.want 0 false d
def Lg.iS(L:Lg)(d:Dk):Dk×Int:=bif decide ((L.iV d).2.2=0) then(bif (L.iV d).1 then(L.iV d).2.1.sync else((L.iV d).2.1,0)) else(L.iV d).2
theorem wH(n:Nat):∀(f k:Nat) (W:List Bs) (x:Bs),x∈clr n f k W->x∈W\/x=[]
 | 0,_,W,x,h=>.inl h
 | f+1,k,W,x,h=>by
  rw[clr] at h;rcases wH n f _ _ x h with h|h
  ·exact List.mem_or_eq_of_mem_set h
  ·exact .inr h
theorem Bc{L:Lg}{x:Bs}(h:x∈L.want):x.length<=64:=by
 have h1:∀x∈L.lE,x.length<=64:=by
  intro x hx;rcases wH _ _ _ _ _ hx with h|rfl
  ·rw[(List.mem_replicate.1 h).2];simp[Dk.zsec]
  ·simp
 unfold Lg.want at h;cases hb:decide (L.bytes L.bY=[]) with
 | true=>rw[hb] at h;exact h1 x h
 | false=>
  rw[hb,cond_false] at h;rcases List.mem_or_eq_of_mem_set h with h|rfl
  ·exact h1 x h
  ·rw[Lg.seal_len (Lg.bytes_len L _)];omega
theorem tB{L:Lg}{d e:Dk}{wr:Bool}{er:Int}(h:L.iV d=(wr,e,er))(he:er≠0):L.iS d=(e,er):=by unfold Lg.iS;rw[h];simp[he]
theorem DG{L:Lg}{d e:Dk}{wr:Bool}(h:L.iV d=(wr,e,0)):L.iS d=bif wr then e.sync else(e,0):=by unfold Lg.iS;rw[h];rfl
theorem Hi(w:World)(n:Nat)(h:n<=1000000):(Instr.makeSlice 66 (iv n) (iv n)).run prog w=.ok (.slice (some ⟨w.heap.size,0,none⟩) n n) (w.alloc (.cells (List.replicate n (stv [])).toArray 9)):=by obtain⟨i,h1,h2,h3,h4⟩:=xr (P:=prog) (e:=9) (z:=stv []) (n:=1) (b:=16) (by kernel_rfl);exact VRow.make Tryz.underlying66 h1 h2 h3 rfl w n (by rw[h4];omega) (by omega)
def Dm(db g m:Nat)(y:Nat):Prop:=y=db\/y=g\/y=m
structure WW (w w' : World) (q : Nat) (X : Nat → Prop) (lb db g m : Nat) (L : Lg) (e : Dk) (W : List Bs) : Prop where
 hL : LAt w' X lb db L
 hd : DAt w' db g m e
 hr : VRow w' q 9 (W.map stv)
 hF : Fm (Dm db g m) w w'
 hq : w.heap.size ≤ q
 hX : ∀ y, X y → y < w.heap.size
 hD : db < w.heap.size ∧ g < w.heap.size ∧ m < w.heap.size
 hXD : ∀ y, X y → ¬ Dm db g m y
section
variable{w w' w2:World}{q:Nat}{X:Nat->Prop}{lb db g m:Nat}{L:Lg}{e e':Dk}{W:List Bs}
theorem WW.aS(h:WW w w' q X lb db g m L e W)(hf:Fm (λ_=>False) w' w2):WW w w2 q X lb db g m L e W:=⟨h.hL.aS hf,h.hd.aS hf,h.hr.keep hf id,h.hF.trans hf iT iE,h.hq,h.hX,h.hD,h.hXD⟩
theorem WW.put(h:WW w w' q X lb db g m L e W){i:Nat}(hi:i<W.length){x:Bs}{k:KV}(hk:∀w2,WW w w2 q X lb db g m L e (W.set i x)->k undef w2):St 1 w' (.pointer (some ⟨q,i,none⟩)) (stv x) k:=by
 refine h.hr.put (by simpa using hi) rfl ?_;intro w2 h1 h2 h3;have hq:=h.hq;rw[<- List.map_set] at h1;refine hk w2 ⟨h.hL.keep h3 (λy hy e=>?_),h.hd.keep h3 (λe=>?_) (λe=>?_) (λe=>?_),h1,Fm.step h.hF h3 (λy hy=>.inr (hy▸hq)),hq,h.hX,h.hD,h.hXD⟩
 ·have:=h.hX y hy;omega
 ·have:=h.hD.1;omega
 ·have:=h.hD.2.1;omega
 ·have:=h.hD.2.2;omega
theorem WW.p9(h:WW w w' q X lb db g m L e W)(hd:DAt w2 db g m e')(hf:Fm (λy=>y=db\/y=g\/y=m) w' w2):WW w w2 q X lb db g m L e' W:=by have hq:=h.hq;have hD:=h.hD;refine⟨h.hL.keep hf h.hXD,hd,h.hr.keep hf ?_,h.hF.trans hf iT iT,hq,h.hX,h.hD,h.hXD⟩;rintro(e|e|e)<;>omega
end
theorem vn{w:World}{X:Nat->Prop}{lb db g m:Nat}{L:Lg}{d:Dk}(h:LAt w X lb db L)(hd:DAt w db g m d)(hX:∀y,X y->¬Dm db g m y):
  Cl prog 171 [pv lb] w λv w'=>v=iv (L.iS d).2/\LAt w' X lb db L/\DAt w' db g m (L.iS d).1/\Fm (Dm db g m) w w':=by
 have h1:=h.wf.st;have h2:=h.wf.low;have h4:=h.wf.bs;have h5:=h.wf.n4;have h6:=h.wf.big;have hb:=Lg.baseOf_le h1.1;rw[<- h4] at hb;obtain⟨P,mb,kv,M,hi⟩:=h.ex;refine c171 ?_;simp only[RS,hi.c2];refine ag (Hi w L.n (by omega)) ?_;have hfa:=Fm.alloc (λ_=>False) w (.cells (List.replicate L.n (stv [])).toArray 9);have hr0:VRow (w.alloc (.cells (List.replicate L.n (stv [])).toArray 9)) w.heap.size 9 ((List.replicate L.n ([]:Bs)).map stv):=by rw[List.map_replicate];exact aA _ _
 have hW0:WW w (w.alloc (.cells (List.replicate L.n (stv [])).toArray 9)) w.heap.size X lb db g m L d (List.replicate L.n []):=⟨h.aS hfa,hd.aS hfa,hr0,hfa.mono iE,Nat.le_refl _,h.lt,hd.lt,hX⟩;generalize w.alloc (.cells (List.replicate L.n (stv [])).toArray 9)=w1 at hW0;clear hr0 hfa;generalize w.heap.size=q at hW0;simp only[RS];refine⟨λvs w'=>∃i:Nat,vs=[iv (i:Int)]/\i<=L.n/\WW w w' q X lb db g m L d (List.replicate i Dk.zsec++List.replicate (L.n - i) []),λvs _=>(L.n - nth vs 0).toNat,⟨0,rfl,by omega,hW0⟩,?_⟩;rintro _ w2 ivv ⟨i,hvs,hin,hW⟩;cases hvs;by_cases hlt:i<L.n
 ·have d1:decide ((i:Int)<(L.n:Int))=true:=by rw[decide_eq_true_eq];omega
  have e2:IntKind.i64.wrap ((i:Int)+1)=((i+1:Nat):Int):=by rw[af]<;>omega
  simp only[RS,d1];refine(bW w2 64 (by omega)).mono ?_;rintro _ w3 ⟨rfl,hf3⟩;simp only[RS,dU hlt,Nat.mul_one];refine(hW.aS hf3).put (x:=aH 64) (by simp;omega) ?_;intro w4 hW4;simp only[RS,e2];refine⟨⟨i+1,rfl,by omega,?_⟩,by simp only[ba];omega⟩;have:(List.replicate i Dk.zsec++List.replicate (L.n - i) ([]:Bs)).set i (aH 64)=List.replicate (i+1) Dk.zsec++List.replicate (L.n - (i+1)) []:=by rw[List.set_append_right _ _ (by simp),show L.n - i=(L.n - (i+1))+1 by omega];simp only[List.length_replicate,Nat.sub_self,List.replicate_succ,List.set_cons_zero];rw[<- List.replicate_succ,List.replicate_succ',List.append_assoc];rfl
  rw[<- this];exact hW4
 have hie:i=L.n:=by omega
 subst hie;have d1:decide ((L.n:Int)<(L.n:Int))=false:=by simp
 rw[Nat.sub_self,List.replicate_zero,List.append_nil] at hW;simp only[RS,d1];clear d1 hlt hW0;refine(ej hW.hL).mono ?_;rintro _ w3 ⟨rfl,hf3⟩;have hW3:=hW.aS hf3;refine(iK w3 (n:=L.tail) (by omega) (by omega)).mono ?_;rintro _ w3 ⟨rfl,rfl⟩;obtain⟨P3,mb3,kv3,M3,hi3⟩:=hW3.hL.ex;simp only[RS,hi3.c5];refine(iK w3 (n:=L.start) (by omega) (by omega)).mono ?_;rintro _ w3 ⟨rfl,rfl⟩;have hlb:(L.tail - 1) / 54=L.bY:=rfl;rw[hlb];have hle:(L.start - 1) / 54<=L.bY:=by unfold Lg.bY;omega
 have hlm:L.bY*54+1<=L.tail:=by unfold Lg.bY;omega
 have hbl:L.base<=L.bY*54+1:=by rw[h4];unfold Lg.baseOf Lg.bY;omega
 refine⟨λvs w'=>∃(k:Nat) (W:List Bs),vs=[iv (k:Int)]/\k<=L.bY/\W.length=L.n/\clr L.n (L.bY - k) k W=L.lE/\WW w w' q X lb db g m L d W,λvs _=>(L.bY - nth vs 0).toNat,⟨(L.start - 1) / 54,_,rfl,hle,by simp,rfl,hW3⟩,?_⟩;rintro _ w4 kvv ⟨k,W,hvs,hk,hWl,hcl,hW4⟩;cases hvs;by_cases hlt:k<L.bY
 ·have d1:decide ((k:Int)<(L.bY:Int))=true:=by rw[decide_eq_true_eq];omega
  have e2:IntKind.i64.wrap ((k:Int)+1)=((k+1:Nat):Int):=by rw[af]<;>omega
  have e3:=eG (TypeDesc.int .i64) (n:=k) (m:=L.n) (by omega) (by omega) (b:=(L.n:Int)) rfl;have hm:=Nat.mod_lt k (show 0<L.n by omega);obtain⟨P4,mb4,kv4,M4,hi4⟩:=hW4.hL.ex;simp only[RS,d1,hi4.c2,e3,dU hm,Nat.mul_one];refine hW4.put (x:=[]) (by omega) ?_;intro w5 hW5;simp only[RS,e2];refine⟨⟨k+1,_,rfl,by omega,by simpa using hWl,?_,hW5⟩,by simp only[ba];omega⟩;rw[<- hcl,show L.bY - k=(L.bY - (k+1))+1 by omega,clr]
 have hke:k=L.bY:=by omega
 subst hke;have d1:decide ((L.bY:Int)<(L.bY:Int))=false:=by simp
 rw[Nat.sub_self,clr] at hcl;subst hcl;simp only[RS,d1];clear d1 hlt;refine aJ (λvs w5=>vs=[]/\WW w w5 q X lb db g m L d L.want) ?_ ?_
 ·rintro _ w5 ⟨rfl,hW5⟩ _;refine⟨rfl,?_⟩;have hwl:=Bb L
  try simp only[RS]
  refine⟨λvs w'=>∃(wr:Bool) (i:Nat) (e:Dk),vs=[.bool wr,iv (i:Int)]/\i<=L.n/\df L.frm (L.want.drop i) i wr e=L.iV d/\WW w w' q X lb db g m L e L.want,λvs _=>(L.n - nth vs 1).toNat,⟨false,0,d,rfl,by omega,by rw[List.drop_zero];rfl,hW5⟩,?_⟩;rintro _ w6 wrv ivv ⟨wr,i,e,hvs,hin,hgo,hW6⟩;cases hvs;by_cases hlt:i<L.n
  ·have d1:decide ((i:Int)<(L.n:Int))=true:=by rw[decide_eq_true_eq];omega
   have e2:IntKind.i64.wrap ((i:Int)+1)=((i+1:Nat):Int):=by rw[af]<;>omega
   have e3:IntKind.i64.wrap ((L.frm:Int)+(i:Int))=((L.frm+i:Nat):Int):=by rw[af]<;>omega
   have hx:L.want[i]?=some L.want[i]:=List.getElem?_eq_getElem (by omega);have hdr:=List.drop_eq_getElem_cons (show i<L.want.length by omega);generalize L.want[i]=x at hx hdr;rw[hdr,df] at hgo;have hc:∀{w'},WW w w' q X lb db g m L e L.want->w'.cell? ⟨q,i,none⟩=some (stv x):=λhw=>by rw[hw.hr.cell,List.getElem?_map,hx];rfl
   have hxl:x.length<=64:=Bc (List.mem_of_getElem? hx);simp only[RS,d1];refine aJ (λvs w7=>∃(wr':Bool) (e':Dk),vs=[.bool wr']/\df L.frm (L.want.drop (i+1)) (i+1) wr' e'=L.iV d/\WW w w7 q X lb db g m L e' L.want) ?_ ?_
   ·rintro _ w7 ⟨wr',e',rfl,hgo',hW7⟩ _;refine⟨_,rfl,?_⟩;simp only[RS,e2];exact⟨⟨wr',i+1,e',rfl,by omega,hgo',hW7⟩,by simp only[cN];omega⟩
   intro kk hkk;simp only[RS,dU hlt,Nat.mul_one,hc hW6,cP,bn];cases hz:decide (x=[]) with
   | true=>rw[hz,cond_true] at hgo;simp only[RS];exact hkk _ _ ⟨wr,e,rfl,hgo,hW6⟩
   | false=>
   rw[hz,cond_false] at hgo;have hW7:=hW6.aS (Fm.drew _ w6);obtain⟨P7,mb7,kv7,M7,hi7⟩:=hW7.hL.ex;have hi7c0:w6.cell? ⟨lb,0,none⟩=some (pv db):=hi7.c0;have hi7c1:w6.cell? ⟨lb,1,none⟩=some (iv (L.frm:Int)):=hi7.c1;simp only[RS,hi7c0,hi7c1,e3,true_and];refine(fN hW7.hd ((L.frm+i:Nat):Int) 1).mono ?_;rintro _ w8 ⟨rfl,rfl⟩;have hrn:=sZ hW7.hd.wf (a:=((L.frm+i:Nat):Int));generalize hrd:e.read ((L.frm+i:Nat):Int) 1=rd at hgo hrn;simp only[RS];refine aJ (λvs w9=>∃(wr':Bool) (e':Dk) (er:Int),vs=[.bool wr',iv er]/\WW w w9 q X lb db g m L e' L.want/\((er=0/\df L.frm (L.want.drop (i+1)) (i+1) wr' e'=L.iV d)\/(er≠0/\L.iS d=(e',er)))) ?_ ?_
   ·rintro _ w9 ⟨wr',e',er,rfl,hW9,hcase⟩ _;refine⟨_,_,rfl,?_⟩;simp only[RS,aG];rcases hcase with⟨rfl,hgo'⟩|⟨hne,hwp⟩
    ·simp only[RS,decide_true];exact hkk _ _ ⟨wr',e',rfl,hgo',hW9⟩
    ·have:decide (er=0)=false:=by simpa using hne
     rw[hwp];simp only[RS,this];exact⟨(by trivial),hW9.hL,hW9.hd,hW9.hF⟩
   intro jj hjj;simp only[RS,aV];cases hz0:decide (rd.2=0) with
   | false=>rw[hz0,cond_false] at hgo;rw[decide_eq_false_iff_not] at hz0;simp only[RS];exact hjj _ _ ⟨wr,e,rd.2,rfl,hW7,.inr ⟨hz0,tB hgo.symm hz0⟩⟩
   | true=>
   rw[hz0,cond_true] at hgo;rw[decide_eq_true_eq] at hz0;simp only[RS,bn];cases hz1:decide (rd.1=x) with
   | true=>rw[hz1,cond_true] at hgo;simp only[RS];exact hjj _ _ ⟨wr,e,rd.2,rfl,hW7,.inl ⟨hz0,hgo⟩⟩
   | false=>
   rw[hz1,cond_false] at hgo;have hW10:=hW7.aS (Fm.drew _ w6.drew);simp only[RS,hi7c0,hi7c1,e3,true_and];refine(bV hW10.hd ((L.frm+i:Nat):Int) x (by omega)).mono ?_;rintro _ w11 ⟨rfl,hd11,hf11⟩;have hW11:=hW10.p9 hd11 hf11;generalize e.write ((L.frm+i:Nat):Int) x=wd at hgo hW11;cases hz2:decide (wd.2=0) with
   | true=>rw[hz2,cond_true] at hgo;rw[decide_eq_true_eq] at hz2;exact hjj _ _ ⟨true,wd.1,wd.2,rfl,hW11,.inl ⟨hz2,hgo⟩⟩
   | false=>rw[hz2,cond_false] at hgo;rw[decide_eq_false_iff_not] at hz2;exact hjj _ _ ⟨true,wd.1,wd.2,rfl,hW11,.inr ⟨hz2,tB hgo.symm hz2⟩⟩
  ·have hie:i=L.n:=by omega
   subst hie;have d1:decide ((L.n:Int)<(L.n:Int))=false:=by simp
   rw[List.drop_eq_nil_of_le (by omega),df] at hgo;have hwp:=DG hgo.symm;simp only[RS,d1];cases wr with
   | false=>rw[cond_false] at hwp;rw[hwp];simp only[RS];exact⟨(by trivial),hW6.hL,hW6.hd,hW6.hF⟩
   | true=>rw[cond_true] at hwp;rw[hwp];obtain⟨P7,mb7,kv7,M7,hi7⟩:=hW6.hL.ex;simp only[RS,hi7.c0];refine(dk hW6.hd).mono ?_;rintro _ w8 ⟨rfl,hd8,hf8⟩;have hW8:=hW6.p9 hd8 hf8;exact⟨rfl,hW8.hL,hW8.hd,hW8.hF⟩
 ·intro kk hkk;refine(lC hW4.hL hbl hlm).mono ?_;rintro _ w5 ⟨rfl,hf5⟩;have hW5:=hW4.aS hf5;simp only[RS,cP,bn];cases hz:decide (L.bytes L.bY=[]) with
  | true=>
   have hwant:L.want=L.lE:=by unfold Lg.want;rw[hz];rfl
   simp only[RS];exact hkk _ _ ⟨rfl,by rw[hwant];exact hW5⟩
  | false=>
   have hwant:L.want=L.lE.set (L.bY % L.n) (nR L.bY (L.bytes L.bY)):=by unfold Lg.want;rw[hz];rfl
   have hfd:=Fm.drew (λ_=>False) w5;have e3:=eG (TypeDesc.int .i64) (n:=L.bY) (m:=L.n) (by omega) (by omega) (b:=(L.n:Int)) rfl;have hm:=Nat.mod_lt L.bY (show 0<L.n by omega);simp only[RS];refine⟨λw'=>Fm (λ_=>False) w5 w',hfd,?_⟩;refine⟨iv (L.n:Int),λw' h'=>?_,?_⟩
   ·obtain⟨P',mb',kv',M',hi'⟩:=(hW5.aS h').hL.ex;simp only[RS,hi'.c2]<;>trivial
   simp only[RS,e3];refine(mT w5.drew (k:=L.bY) (by omega) (Lg.bytes_len L _)).mono ?_;rintro _ w6 ⟨rfl,hf6⟩;have hF6:=Fmf hfd hf6;refine⟨hF6,?_⟩;simp only[RS,dU hm,Nat.mul_one];refine(hW5.aS hF6).put (by omega) ?_;intro w7 hW7;exact hkk _ _ ⟨rfl,by rw[hwant];exact hW7⟩
def gY(d:Dk)(frm n:Int):Bool:=decide (4<=n)&&(decide (0<=frm)&&(decide (n<=d.cur.length)&&decide (frm<=d.cur.length - n)))
theorem mP{w:World}{b g m:Nat}{d:Dk}(h:DAt w b g m d)(frm n:Int):Cl prog 161 [pv b,iv frm,iv n] w λv w'=>v=.bool (gY d frm n)/\w'=w:=by
 have hn:=h.wf.n1;unfold gY;refine c161 ?_;cases e1:decide (4<=n) with
 | false=>simp only[RS,e1,Bool.false_and];exact⟨(by trivial),(by trivial)⟩
 | true=>
 cases e2:decide (0<=frm) with
 | false=>simp only[RS,e1,e2,Bool.false_and,Bool.and_false];exact⟨(by trivial),(by trivial)⟩
 | true=>
 simp only[RS,e1,e2];refine(cH h).mono ?_;rintro _ w ⟨rfl,rfl⟩;cases e3:decide (n<=(d.cur.length:Int)) with
 | false=>simp only[RS,e3,Bool.false_and,Bool.and_false];exact⟨(by trivial),(by trivial)⟩
 | true=>
 simp only[RS,e3];refine(cH h).mono ?_;rintro _ w ⟨rfl,rfl⟩;rw[decide_eq_true_eq] at e1 e3;have e4:IntKind.i64.wrap ((d.cur.length:Int) - n)=(d.cur.length:Int) - n:=by rw[af];omega
 simp only[RS,e4,Bool.true_and];exact⟨(by trivial),(by trivial)⟩
def zr(d:Dk)(frm n:Int):Dk×Int:=bif gY d frm n then(bif decide ((d.write frm (aH (n*64).toNat)).2=0) then(d.write frm (aH (n*64).toNat)).1.sync else d.write frm (aH (n*64).toNat)) else(d,1)
theorem Es(db mb:Nat)(frm n a b c:Int)(w:World):(Instr.build 207 #[(0,pv db),(1,iv frm),(2,iv n),(3,iv a),(5,iv b),(6,iv c),(8,.map (some mb))]).run prog w=.ok (.agg #[pv db,iv frm,iv n,iv a,.slice none 0 0,iv b,iv c,iv 0,.map (some mb)]) w:=by kernel_rfl
theorem Ci(db mb:Nat)(frm n a b:Int)(w:World):(Instr.build 207 #[(0,pv db),(1,iv frm),(2,iv n),(3,iv a),(5,iv b),(8,.map (some mb))]).run prog w=.ok (.agg #[pv db,iv frm,iv n,iv a,.slice none 0 0,iv b,iv 0,iv 0,.map (some mb)]) w:=by kernel_rfl
theorem qg{w:World}{b g m:Nat}{d:Dk}(h:DAt w b g m d)(frm n:Int):Cl prog 69 [pv b,iv frm,iv n] w λv w'=>∃p,v=.tuple #[p,iv (zr d frm n).2]/\DAt w' b g m (zr d frm n).1/\Fm (Dm b g m) w w' /\
  ((zr d frm n).2≠0->p=.pointer none)/\((zr d frm n).2=0->∃lb X,p=pv lb/\LAt w' X lb b (Lg.new frm.toNat n.toNat)/\∀y,X y->w.heap.size<=y):=by
 have hn:=h.wf.n1;have hlt:=h.lt;have up:∀{w1:World},Fm (λ_=>False) w w1->Fm (Dm b g m) w w1:=λhf=>hf.mono iE;unfold zr;refine c69 ?_;refine(mP h frm n).mono ?_;rintro _ w ⟨rfl,rfl⟩;cases hfi:gY d frm n with
 | false=>simp only[RS,cond_false];exact⟨_,(by trivial),h,Fm.refl _ _,λ_=>rfl,λe=>absurd e (by decide)⟩
 | true=>
 have hfi':=hfi;unfold gY at hfi';simp only[Bool.and_eq_true,decide_eq_true_eq] at hfi';obtain⟨f1,f2,f3,f4⟩:=hfi';obtain⟨j,rfl⟩:=Int.eq_ofNat_of_zero_le (show 0<=n by omega);obtain⟨i,rfl⟩:=Int.eq_ofNat_of_zero_le f2;have e1:IntKind.i64.wrap ((j:Int)*64)=((j*64:Nat):Int):=by rw[af]<;>omega
 have e2:((j:Int)*64).toNat=j*64:=by omega
 rw[e2];simp only[RS,e1,cond_true];refine(bW w (j*64) (by omega)).mono ?_;rintro _ w1 ⟨rfl,hf1⟩;refine(bV (h.aS hf1) (i:Int) (aH (j*64)) (by rw[Lg.zeros_len'];omega)).mono ?_;rintro _ w2 ⟨rfl,hd2,hf2⟩;have hF2:=(up hf1).trans hf2 iT iT;generalize d.write (i:Int) (aH (j*64))=e at hd2;simp only[RS,aG];cases hz:decide (e.2=0) with
 | false=>rw[decide_eq_false_iff_not] at hz;simp only[RS,cond_false,Bool.not_false];exact⟨_,(by trivial),hd2,hF2,λ_=>rfl,λe=>absurd e hz⟩
 | true=>
 simp only[RS,cond_true,Bool.not_true];refine(dk hd2).mono ?_;rintro _ w3 ⟨rfl,hd3,hf3⟩;have hF3:=hF2.trans hf3 iT iT;generalize e.1.sync=s at hd3;simp only[RS,aG];cases hz2:decide (s.2=0) with
 | false=>rw[decide_eq_false_iff_not] at hz2;simp only[RS,Bool.not_false];exact⟨_,(by trivial),hd3,hF3,λ_=>rfl,λe=>absurd e hz2⟩
 | true=>
 rw[decide_eq_true_eq] at hz2;simp only[RS,Bool.not_true];refine ag (bf _ _) ?_;have hM:=MapAt.empty w3 iv Value.agg;have hfm:=Fm.alloc (λ_=>False) w3 (.map #[] 0);have hms:=aF w3 (.map #[] 0);generalize w3.alloc (.map #[] 0)=w4 at hM hfm hms;refine ag (Es b w3.heap.size _ _ _ _ _ _) ?_;refine ae ?_;intro lb w5 hlb hs5 hw5 hf5;have hF5:=Fmf hfm hf5;have z3:=hF3.size;refine⟨_,by rw[hz2],hd3.aS hF5,hF3.trans hF5 iT iE,λe=>absurd hz2 e,λ_=>⟨lb,λy=>y=lb\/y=w3.heap.size,rfl,⟨Lg.wf_new (by omega) (by omega),λ_=>False,w3.heap.size,.slice none 0 0,[],hw5,KpAt.nil _ _,hM.keep hf5 id,rfl,(λk cs hm=>by cases hm),⟨.inl rfl,.inr rfl,(λy hy=>by cases hy),λy hy=>hy.elim⟩,⟨id,id,(λy hy e=>e)⟩,?_⟩,?_⟩⟩
 ·rintro y (rfl|rfl)<;>omega
 ·rintro y (rfl|rfl)<;>omega
theorem Cb{P:Program}{t e s:TypeId}(B:ByteT P t e s){w:World}{v:Value}{L:Bs}{e':TypeId}(h:KpAt w e' v L){i:Nat}(hi:i<=L.length):
  ∃u,slV 1 v (some (.int .i64 i)) none none=some u/\(convert t s u).run P w=.ok (stv (L.drop i)) w:=by
 rcases h with⟨rfl,rfl⟩|⟨g,cap,cur,rfl,hg,hnc,hcm,hcs,htake⟩
 ·simp at hi;subst hi;exact⟨.slice none 0 0,rfl,nq B w 0 0⟩
 ·obtain⟨o',h1,h2,h3⟩:=yM (g:=g) (o:=0) (n:=L.length) (c:=cap) hi hnc .i64;refine⟨_,h1,?_⟩;have hx:BX w g e' L:=⟨cur,_,hg,htake,by omega,.inl rfl⟩;by_cases hc:i<cap
  ·rw[h2 hc,Nat.zero_add];have:=hx.conv (P:=P) B (o:=i) (n:=L.length - i) (by omega) (cap - i)
   rw[List.take_of_length_le (by rw[List.length_drop];omega)] at this;exact this
  ·have e1:L.length - i=0:=by omega
   rw[e1,List.drop_eq_nil_of_le (by omega)];have:=hx.conv (P:=P) B (o:=o') (n:=0) (by omega) (cap - i)
   rw[List.take_zero] at this;exact this
theorem Fl{g n c j:Nat}(hj:j<=c):slV 1 (.slice (some ⟨g,0,none⟩) n c) none (some (iv (j:Int))) (some (iv (j:Int)))=some (.slice (some ⟨g,0,none⟩) j j):=by have e1:bnd c c (some (iv (j:Int)))=some j:=eN hj .i64;have e2:bnd j n (some (iv (j:Int)))=some j:=eN (Nat.le_refl j) .i64;have e3:bnd j 0 none=some 0:=rfl;simp only[slV,Bp,e1,e2,e3,Option.bind_some,Option.map_some,Nat.zero_mul,Nat.sub_zero];have:(⟨g,0,none⟩:Addr).add 0=⟨g,0,none⟩:=rfl;rw[this,ite_self]
theorem Ca{w:World}{e:TypeId}{v:Value}{L:Bs}(h:KpAt w e v L){j:Nat}(hj:j<=L.length):
  ∃u,slV 1 v none (some (iv (j:Int))) (some (iv (j:Int)))=some u/\KpAt w e u (L.take j)/\∀y,u.ownBlock=some y->v.ownBlock=some y:=by
 rcases h with⟨rfl,rfl⟩|⟨g,cap,cur,rfl,hg,hnc,hcm,hcs,htake⟩
 ·simp at hj;subst hj;exact⟨.slice none 0 0,rfl,KpAt.nil _ _,λy hy=>hy⟩
 ·have hl:(L.take j).length=j:=by rw[List.length_take];omega
  refine⟨_,Fl (by omega),.inr ⟨g,j,cur,by rw[hl],hg,by omega,by omega,by omega,?_⟩,λy hy=>hy⟩;rw[hl,<- vQ,<- htake,List.take_take,Nat.min_eq_left hj]
def gJ(base:Nat)(all:Bs):Nat->Nat->List Rc->List Rc×Nat
 | 0,e,out=>(out,e)
 | f+1,e,out=>match (gj (all.drop e)).1 with
  | none=>(out,e)
  | some r=>bif decide (r.lsn=((base+e:Nat):Int)) then gJ base all f (e+(gj (all.drop e)).2.1) (out++[r]) else(out,e)
def keyed(out:List Rc):List (Int×Rc):=out.map λr=>(r.lsn,r)
def bp(start:Nat):Nat:=start - Lg.baseOf start
def dI(d:Dk)(frm n start:Nat):Bs:=bif decide ((bx d frm n ((start - 1) / 54) n 0 []).1.length<bp start) then aH (bp start) else(bx d frm n ((start - 1) / 54) n 0 []).1
def sR(d:Dk)(frm n start:Nat):List Rc×Nat:=gJ (Lg.baseOf start) (dI d frm n start) ((dI d frm n start).length+1) (bp start) []
def oc(d:Dk)(frm n start:Nat):Lg:=⟨frm,n,Lg.baseOf start,(dI d frm n start).take (sR d frm n start).2,start,Lg.baseOf start+(sR d frm n start).2,0,keyed (sR d frm n start).1⟩
def my(d:Dk)(frm n start:Int):Dk×Int:=
 bif !(gY d frm n)||decide (start<1) then(d,1) else bif d.gone then(d,5) else
 bif decide ((bx d frm.toNat n.toNat ((start.toNat - 1) / 54) n.toNat 0 []).2=0) then(oc d frm.toNat n.toNat start.toNat).iS d else(d,(bx d frm.toNat n.toNat ((start.toNat - 1) / 54) n.toNat 0 []).2)
theorem LIn.addRec{w w':World}{X P P1:Nat->Prop}{lb db mb:Nat}{kv:Value}{M:List (Int×Array Value)}{L L':Lg}(h:LIn w X P lb db mb kv M L){cs:Array Value}{r:Rc}{k:Int}(hh:Held w P1 cs r)(h1:∀y,P1 y->y<w.heap.size/\¬X y)(hk:getD L.recs k=none)
  (hM:MapAt w' mb iv Value.agg (cO M k cs)) (hf:Fm (·=mb) w w') (hst:lgc db mb kv L'=lgc db mb kv L) (hkp:L'.kept=L.kept) (hrc:L'.recs=cO L.recs k r):LIn w' (λy=>X y\/P1 y) (λy=>P y\/P1 y) lb db mb kv (cO M k cs) L':=by
 have hnd:getD M k=none:=by rw[getD_none,h.keys,<- getD_none];exact hk
 refine⟨by rw[hst];exact hf.heap h.st h.nm.symm,by rw[hkp];exact h.kp.keep hf (λy hy e=>h.km (by rw[hy,e])),hM,by rw[hrc,cV,cV,h.keys],?_,⟨.inl h.xs.1,.inl h.xs.2.1,λy hy=>.inl (h.xs.2.2.1 y hy),λy hy=>hy.imp (h.xs.2.2.2 y) id⟩,⟨?_,?_,?_⟩,λy hy=>Nat.lt_of_lt_of_le ?_ hf.size⟩
 ·intro k' cs' hm;rw[di _ _ _ hnd] at hm;rw[hrc,di _ _ _ hk];rcases List.mem_append.1 hm with hm|hm
  ·obtain⟨r',q1,q2⟩:=h.rec_ k' cs' hm;exact⟨r',List.mem_append_left _ q1,(q2.mono (λy hy=>.inl hy)).keep hf (by
    rintro y (hy|hy) rfl
    ·exact h.ps.2.1 hy
    ·exact(h1 _ hy).2 h.xs.2.1)⟩
  ·simp only[List.mem_singleton,Prod.mk.injEq] at hm;obtain⟨rfl,rfl⟩:=hm;exact⟨_,List.mem_append_right _ (by simp),(hh.mono (λy hy=>.inr hy)).keep hf (by
    rintro y (hy|hy) rfl
    ·exact h.ps.2.1 hy
    ·exact(h1 _ hy).2 h.xs.2.1)⟩
 ·rintro(q|q)
  ·exact h.ps.1 q
  ·exact(h1 _ q).2 h.xs.1
 ·rintro(q|q)
  ·exact h.ps.2.1 q
  ·exact(h1 _ q).2 h.xs.2.1
 ·rintro y hy (q|q)
  ·exact h.ps.2.2 y hy q
  ·exact(h1 _ q).2 (h.xs.2.2.1 y hy)
 ·rcases hy with q|q
  ·exact h.lt y q
  ·exact(h1 y q).1
theorem rQ{w:World}{X P:Nat->Prop}{lb db mb:Nat}{kv:Value}{M:List (Int×Array Value)}{L:Lg}(hi:LIn w X P lb db mb kv M L)(hl:L.tail<=9223372036854775807):Cl prog 96 [pv lb] w λv w'=>v=iv (L.tail:Int)/\Fm (λ_=>False) w w':=by
 refine c96 ?_;have e1:IntKind.i64.wrap ((L.base:Int)+(L.kept.length:Int))=(L.tail:Int):=by unfold Lg.tail at hl ⊢;rw[af]<;>omega
 simp only[RS,hi.c3,hi.c4,hi.kp.lenV,e1,true_and];exact Fm.drew _ _
theorem HJ:ElemT prog 82 168 16 216:=bJ Tryz.underlying82 (by kernel_rfl)
theorem EE(r:Rc)(a1 a2 a3 a4 a5:Option Addr)(n1 n2 n3 n4 n5 c1 c2 c3 c4 c5:Nat)(w:World):(Instr.buildSlice 82 1 #[(0,.agg (rcs r (.slice a1 n1 c1) (.slice a2 n2 c2) (.slice a3 n3 c3) (.slice a4 n4 c4) (.slice a5 n5 c5)))]).run prog w=.ok (.slice (some ⟨w.heap.size,0,none⟩) 1 1) (w.alloc (.cells (rcs r (.slice a1 n1 c1) (.slice a2 n2 c2) (.slice a3 n3 c3) (.slice a4 n4 c4) (.slice a5 n5 c5)) 168)):=by kernel_rfl
theorem ImAs.sl{w:World}{v:Value}{L:List (Int×Pg)}(h:ImAs w v L):∃a n c,v=.slice a n c:=by obtain⟨X,_,h2,_⟩:=h.ex;obtain⟨⟨a,c,rfl,_⟩,_⟩:=h2;exact⟨_,_,_,rfl⟩
theorem aZ{w:World}{v:Value}{n sz:Nat}{xs:List Value}(h:CellsAt w v n sz xs):∃a n c,v=.slice a n c:=by obtain⟨⟨a,c,rfl,_⟩,_⟩:=h;exact⟨_,_,_,rfl⟩
theorem GF{w:World}{cs:Array Value}{r:Rc}(h:RcAs w cs r)(w':World):(Instr.buildSlice 82 1 #[(0,.agg cs)]).run prog w'=.ok (.slice (some ⟨w'.heap.size,0,none⟩) 1 1) (w'.alloc (.cells cs.toList.toArray 168)):=by obtain⟨vs,vm,vi,vp,vt,rfl,_,h3,h4,h5,h6,h7⟩:=h.ex;obtain⟨a1,n1,c1,rfl⟩:=aZ h3;obtain⟨a2,n2,c2,rfl⟩:=aZ h4;obtain⟨a3,n3,c3,rfl⟩:=h5.sl;obtain⟨a4,n4,c4,rfl⟩:=aZ h6;obtain⟨a5,n5,c5,rfl⟩:=aZ h7;exact EE r _ _ _ _ _ _ _ _ _ _ _ _ _ _ _ w'
structure ON (w w' : World) (X P Q : Nat → Prop) (lb db mb g m : Nat) (M : List (Int × Array Value)) (L0 : Lg) (d : Dk) (av : Value) (all : Bs) (ov : Value) (C : List (Array Value)) (out : List Rc) : Prop where
 hi : LIn w' X P lb db mb nl M { L0 with recs := keyed out }
 hd : DAt w' db g m d
 ha : w'.ownsRow w.heap.size 5 1 av all.length (bc all)
 ho : w'.ownsRow w.heap.size 168 16 ov C.length (C.flatMap Array.toList)
 hl : C.length = out.length
 hC : ∀ (i : Nat) cs r, C[i]? = some cs → out[i]? = some r → Held w' Q cs r
 hF : Fm (fun _ => False) w w'
 hX : ∀ y, X y → w.heap.size ≤ y
 hQ : ∀ y, Q y → w.heap.size ≤ y ∧ y < w'.heap.size ∧ ¬ X y
 hon : ∀ y, ov.ownBlock = some y → ¬ X y ∧ ¬ Q y
 han : ∀ y, av.ownBlock = some y → ¬ X y ∧ ¬ Q y
 hD : ∀ y, Dm db g m y → y < w.heap.size
section
variable{w w1 w2:World}{X P Q:Nat->Prop}{lb db mb g m:Nat}{M:List (Int×Array Value)}{L0:Lg}{d:Dk}{av:Value}{all:Bs}{ov:Value}{C:List (Array Value)}{out:List Rc}
theorem ON.keep(h:ON w w1 X P Q lb db mb g m M L0 d av all ov C out){S:Nat->Prop}(hf:Fm S w1 w2)(hS:∀y,S y->w.heap.size<=y/\¬X y/\¬Q y/\ov.ownBlock≠some y/\av.ownBlock≠some y):ON w w2 X P Q lb db mb g m M L0 d av all ov C out:=by
 have hnd:∀y,Dm db g m y->¬S y:=λy hy e=>by have:=h.hD y hy;have:=(hS y e).1;omega
 refine⟨h.hi.keep hf (λy hy e=>(hS y e).2.1 hy),h.hd.keep hf (hnd _ (.inl rfl)) (hnd _ (.inr (.inl rfl))) (hnd _ (.inr (.inr rfl))),ah h.ha hf (λk _ _ e q=>(hS k q).2.2.2.2 e),ah h.ho hf (λk _ _ e q=>(hS k q).2.2.2.1 e),h.hl,λi cs r h1 h2=>(h.hC i cs r h1 h2).keep hf (λy hy e=>(hS y e).2.2.1 hy),Fm.own h.hF hf (λy e=>(hS y e).1),h.hX,λy hy=>?_,h.hon,h.han,h.hD⟩;obtain⟨q1,q2,q3⟩:=h.hQ y hy;exact⟨q1,Nat.lt_of_lt_of_le q2 hf.size,q3⟩
theorem ON.aS(h:ON w w1 X P Q lb db mb g m M L0 d av all ov C out)(hf:Fm (λ_=>False) w1 w2):ON w w2 X P Q lb db mb g m M L0 d av all ov C out:=h.keep hf (λ_ e=>e.elim)
theorem ON.new(h:ON w w1 X P Q lb db mb g m M L0 d av all ov C out){x:Nat}(hx:w1.heap.size<=x):w.heap.size<=x/\¬X x/\¬Q x/\ov.ownBlock≠some x/\av.ownBlock≠some x:=by
 have hz:=h.hF.size;refine⟨by omega,λe=>?_,λe=>?_,λe=>?_,λe=>?_⟩
 ·have:=h.hi.lt x e;omega
 ·have:=(h.hQ x e).2.1;omega
 ·have:=(aO h.ho x e).2;omega
 ·have:=(aO h.ha x e).2;omega
theorem ON.add(h:ON w w1 X P Q lb db mb g m M L0 d av all ov C out){P1:Nat->Prop}{cs:Array Value}{r:Rc}(hh:Held w1 P1 cs r)(h1:∀y,P1 y->y<w1.heap.size/\w.heap.size<=y/\¬X y/\¬Q y/\ov.ownBlock≠some y/\av.ownBlock≠some y)(hk:∀q∈out,q.lsn≠r.lsn)
  (hM:MapAt w2 mb iv Value.agg (cO M r.lsn cs)) (hf:Fm (·=mb) w1 w2):
  LIn w2 (λy=>X y\/P1 y) (λy=>P y\/P1 y) lb db mb nl (cO M r.lsn cs) { L0 with recs:=keyed (out++[r]) }/\DAt w2 db g m d/\w2.ownsRow w.heap.size 5 1 av all.length (bc all)/\w2.ownsRow w.heap.size 168 16 ov C.length (C.flatMap Array.toList) /\
  (∀(i:Nat) cs r,C[i]?=some cs->out[i]?=some r->Held w2 Q cs r)/\Fm (λ_=>False) w w2:=by
 have hm:=h.hi.xs.2.1;have hmz:=h.hX mb hm;have hne:∀y,Dm db g m y->¬y=mb:=λy hy e=>by have:=h.hD y hy;omega
 have hkn:getD (keyed out) r.lsn=none:=by rw[getD_none];intro hmem;obtain⟨x,hx,hxe⟩:=List.mem_map.1 hmem;obtain⟨q,hq,rfl⟩:=List.mem_map.1 hx;exact hk q hq hxe
 refine⟨h.hi.addRec hh (λy hy=>⟨(h1 y hy).1,(h1 y hy).2.2.1⟩) hkn hM hf rfl rfl ?_,h.hd.keep hf (hne _ (.inl rfl)) (hne _ (.inr (.inl rfl))) (hne _ (.inr (.inr rfl))),ah h.ha hf (λk _ _ e q=>(h.han k e).1 (q▸hm)),ah h.ho hf (λk _ _ e q=>(h.hon k e).1 (q▸hm)),λi cs r q1 q2=>(h.hC i cs r q1 q2).keep hf (λy hy e=>(h.hQ y hy).2.2 (e▸hm)),Fm.own h.hF hf (by rintro y rfl;exact hmz)⟩;show keyed (out++[r])=cO (keyed out) r.lsn r;rw[di _ _ _ hkn];simp[keyed]
end
theorem AP(base:Nat)(all:Bs)(f e:Nat)(out:List Rc)(h:(gj (all.drop e)).1=none):gJ base all f e out=(out,e):=by
 cases f with
 | zero=>rfl
 | succ f=>rw[gJ,h]
theorem AQ(base:Nat)(all:Bs)(f e:Nat)(out:List Rc){r:Rc}(h:(gj (all.drop e)).1=some r)(hr:¬r.lsn=((base+e:Nat):Int)):gJ base all f e out=(out,e):=by
 cases f with
 | zero=>rfl
 | succ f=>
  rw[gJ,h];have:decide (r.lsn=((base+e:Nat):Int))=false:=by simpa using hr
  simp only[this,cond_false]
theorem mE(d:Dk)(frm n k:Nat):∀(f i:Nat) (out:Bs),(bx d frm n k f i out).1.length<=out.length+54*f
 | 0,i,out=>by simp[bx]
 | f+1,i,out=>by
  rw[bx];have h1:=mu (d.read ((frm+(k+i) % n:Nat):Int) 1).1 (k+i);cases decide ((d.read ((frm+(k+i) % n:Nat):Int) 1).2=0) with
  | false=>simp
  | true=>
   rw[cond_true];cases decide ((opened (d.read ((frm+(k+i) % n:Nat):Int) 1).1 (k+i)).length<54) with
   | true=>rw[cond_true];simp only[List.length_append];omega
   | false=>rw[cond_false];have:=mE d frm n k f (i+1) (out++opened (d.read ((frm+(k+i) % n:Nat):Int) 1).1 (k+i));rw[List.length_append] at this;omega
structure OpnOk (w w' : World) (p ov : Value) (db : Nat) (L : Lg) (out : List Rc) : Prop where
 ex : ∃ (lb : Nat) (X Q : Nat → Prop) (C : List (Array Value)), p = pv lb ∧ LAt w' X lb db L ∧ w'.ownsRow w.heap.size 168 16 ov C.length (C.flatMap Array.toList) ∧ C.length = out.length ∧ (∀ (i : Nat) cs r, C[i]? = some cs → out[i]? = some r → Held w' Q cs r) ∧ (∀ y, X y → w.heap.size ≤ y) ∧ (∀ y, Q y → w.heap.size ≤ y ∧ y < w'.heap.size ∧ ¬ X y) ∧ ∀ y, ov.ownBlock = some y → ¬ X y ∧ ¬ Q y
theorem Az{w w4:World}{X P Q:Nat->Prop}{lb b mb g m:Nat}{M:List (Int×Array Value)}{d:Dk}{av:Value}{all:Bs}{ov:Value}{C:List (Array Value)}{out:List Rc}{i j s e:Nat}
  (hON:ON w w4 X P Q lb b mb g m M ⟨i,j,Lg.baseOf s,[],s,0,0,[]⟩ d av all ov C out) (hj:4<=j) (hij:i+j<=65536) (hs:1<=s) (he:e<=all.length) (hal:all.length<=4000000) (hah:bp s<=e) (hbe:Lg.baseOf s+e<=9223372036854775807)
  (hout:∀r∈out,(rCheck r).2=0/\(∀m∈r.imgs,m.2.lsn<=9223372036854775807)/\(s:Int)<=r.lsn/\r.lsn<((Lg.baseOf s+e:Nat):Int)) {K:Value->World->Prop}
  (hK1:∀w8,DAt w8 b g m ((⟨i,j,Lg.baseOf s,all.take e,s,Lg.baseOf s+e,0,keyed out⟩:Lg).iS d).1->Fm (Dm b g m) w w8->¬((⟨i,j,Lg.baseOf s,all.take e,s,Lg.baseOf s+e,0,keyed out⟩:Lg).iS d).2=0->K (.tuple #[.pointer none,nl,iv ((⟨i,j,Lg.baseOf s,all.take e,s,Lg.baseOf s+e,0,keyed out⟩:Lg).iS d).2]) w8)
  (hK2:∀w8,DAt w8 b g m ((⟨i,j,Lg.baseOf s,all.take e,s,Lg.baseOf s+e,0,keyed out⟩:Lg).iS d).1->Fm (Dm b g m) w w8->((⟨i,j,Lg.baseOf s,all.take e,s,Lg.baseOf s+e,0,keyed out⟩:Lg).iS d).2=0->OpnOk w w8 (pv lb) ov b ⟨i,j,Lg.baseOf s,all.take e,s,Lg.baseOf s+e,0,keyed out⟩ out->K (.tuple #[pv lb,ov,iv 0]) w8):
  Pu (slV 1 av none (some (iv (e:Int))) (some (iv (e:Int)))) λt106=>
   St 1 w4 (.pointer (some ⟨lb,4,none⟩)) t106 λu w_127=>
   Cl prog 96 [pv lb] w_127 λt111 w_129=>
   St 1 w_129 (.pointer (some ⟨lb,6,none⟩)) t111 λu2 w_133=>
   Cl prog 171 [pv lb] w_133 λt115 w_135=>
   Pu (ax (TypeDesc.int .i64) .neq t115 (Value.int .i64 0)) λt117=>
   IfB t117
    (K (.tuple #[(Value.pointer none),(Value.slice none 0 0),t115]) w_135)
    (K (.tuple #[pv lb,ov,(Value.int .i64 0)]) w_135):=by
 have hb:=Lg.baseOf_le hs;have hah':bp s=s - Lg.baseOf s:=rfl;obtain⟨u,q1,q2,q3⟩:=Ca (KpAt.aT hON.ha) he;have hlen:(all.take e).length=e:=by rw[List.length_take];omega
 simp only[RS,q1];refine au hON.hi.st (by show 4<9;decide) q2.one ?_;intro w5 hw5 hs5 hf5;have hlbX:=hON.hi.xs.1;have hlbS:∀y,y=lb->w.heap.size<=y/\¬Q y/\ov.ownBlock≠some y/\av.ownBlock≠some y:=by rintro y rfl;exact⟨hON.hX y hlbX,λe=>(hON.hQ y e).2.2 hlbX,λe=>(hON.hon y e).1 hlbX,λe=>(hON.han y e).1 hlbX⟩
 have hi5:LIn w5 (λy=>X y\/av.ownBlock=some y) P lb b mb u M ⟨i,j,Lg.baseOf s,all.take e,s,0,0,keyed out⟩:=by
  refine⟨hw5,q2.keep hf5 (λy hy e=>?_),hON.hi.mp.keep hf5 hON.hi.nm,hON.hi.keys,λk cs hm=>?_,⟨.inl hlbX,.inl hON.hi.xs.2.1,λy hy=>.inr (q3 y hy),λy hy=>.inl (hON.hi.xs.2.2.2 y hy)⟩,⟨hON.hi.ps.1,hON.hi.ps.2.1,λy hy e=>(hON.han y (q3 y hy)).1 (hON.hi.xs.2.2.2 y e)⟩,?_⟩
  ·exact(hlbS y e).2.2.2 (q3 y hy)
  ·obtain⟨r,h1,h2⟩:=hON.hi.rec_ k cs hm;exact⟨r,h1,h2.keep hf5 (λy hy e=>hON.hi.ps.1 (e▸hy))⟩
  ·rintro y (hy|hy)
   ·have:=hON.hi.lt y hy;omega
   ·have:=(aO hON.ha y hy).2;omega
 have htl:(⟨i,j,Lg.baseOf s,all.take e,s,0,0,keyed out⟩:Lg).tail=Lg.baseOf s+e:=by show Lg.baseOf s+(all.take e).length=_;rw[hlen]
 refine(rQ hi5 (by rw[htl];exact hbe)).mono ?_;rintro _ w6 ⟨rfl,hf6⟩;rw[htl];have hi6:=hi5.aS hf6;refine au hi6.st (by show 6<9;decide) rfl ?_;intro w7 hw7 hs7 hf7;have hi7:LIn w7 (λy=>X y\/av.ownBlock=some y) P lb b mb u M ⟨i,j,Lg.baseOf s,all.take e,s,Lg.baseOf s+e,0,keyed out⟩:=hi6.upd hw7 hf7 rfl rfl;have hwf:(⟨i,j,Lg.baseOf s,all.take e,s,Lg.baseOf s+e,0,keyed out⟩:Lg).Wf:=by
  have ht:(⟨i,j,Lg.baseOf s,all.take e,s,Lg.baseOf s+e,0,keyed out⟩:Lg).tail=Lg.baseOf s+e:=by show Lg.baseOf s+(all.take e).length=_;rw[hlen]
  refine⟨hj,hij,rfl,⟨hs,?_,by rw[ht];exact Nat.le_refl _⟩,by show(all.take e).length<=_;omega,by rw[ht];exact hbe,λh=>?_,⟨Int.le_refl _,by show(0:Int)<=_;omega⟩,?_⟩
  ·show s<=Lg.baseOf s+e;omega
  ·rw[ht] at h;exact absurd h (Nat.lt_irrefl _)
  ·intro p hp;obtain⟨r,hr,rfl⟩:=List.mem_map.1 hp;obtain⟨h1,h2,h3,h4⟩:=hout r hr;rw[ht];exact⟨rfl,h1,h2,h3,h4⟩
 have hX2:∀y,(X y\/av.ownBlock=some y)->w.heap.size<=y:=by
  rintro y (hy|hy)
  ·exact hON.hX y hy
  ·exact(aO hON.ha y hy).1
 have keep7:∀{S:Nat->Prop} {a c:World},Fm S a c->True:=λ_=>trivial;have hd7:DAt w7 b g m d:=by
  have hne:∀y,Dm b g m y->¬y=lb:=λy hy e=>by have:=hON.hD y hy;have:=(hlbS y e).1;omega
  exact((hON.hd.keep hf5 (hne _ (.inl rfl)) (hne _ (.inr (.inl rfl))) (hne _ (.inr (.inr rfl)))).aS hf6).keep hf7 (hne _ (.inl rfl)) (hne _ (.inr (.inl rfl))) (hne _ (.inr (.inr rfl)))
 have hF7:Fm (λ_=>False) w w7:=Fm.own (Fmf (Fm.own hON.hF hf5 (λy e=>(hlbS y e).1)) hf6) hf7 (λy e=>(hlbS y e).1);have ho7:=ah (ah (ah hON.ho hf5 (λk _ _ e q=>(hlbS k q).2.2.1 e)) hf6 (λ_ _ _ _ e=>e)) hf7 (λk _ _ e q=>(hlbS k q).2.2.1 e);have hC7:∀(i:Nat) cs r,C[i]?=some cs->out[i]?=some r->Held w7 Q cs r:=λi cs r h1 h2=>(((hON.hC i cs r h1 h2).keep hf5 (λy hy e=>(hlbS y e).2.1 hy)).keep hf6 (λ_ _ e=>e)).keep hf7 (λy hy e=>(hlbS y e).2.1 hy);refine(vn (L:=⟨i,j,Lg.baseOf s,all.take e,s,Lg.baseOf s+e,0,keyed out⟩) ⟨hwf,P,mb,u,M,hi7⟩ hd7 (λy hy e=>by have:=hX2 y hy;have:=hON.hD y e;omega)).mono ?_;rintro _ w8 ⟨rfl,hL8,hd8,hf8⟩;have hF8:Fm (Dm b g m) w w8:=(hF7.mono (λ_ _ e=>e.elim)).trans hf8 (λ_ _ e=>e) (λ_ _ e=>e);have hz7:=hF7.size;have hz8:=hf8.size;simp only[RS,aG];cases hz:decide (((⟨i,j,Lg.baseOf s,all.take e,s,Lg.baseOf s+e,0,keyed out⟩:Lg).iS d).2=0) with
 | false=>rw[decide_eq_false_iff_not] at hz;simp only[RS,Bool.not_false];exact hK1 w8 hd8 hF8 hz
 | true=>
  rw[decide_eq_true_eq] at hz;simp only[RS,Bool.not_true];refine hK2 w8 hd8 hF8 hz ⟨lb,_,Q,C,rfl,hL8,ah ho7 hf8 (λk hk _ _ q=>by have:=hON.hD k q;omega),hON.hl,λi cs r h1 h2=>(hC7 i cs r h1 h2).keep hf8 (λy hy e=>by have:=hON.hD y e;have:=(hON.hQ y hy).1;omega),hX2,?_,?_⟩
  ·intro y hy;obtain⟨p1,p2,p3⟩:=hON.hQ y hy;have z5:=hf5.size;have z6:=hf6.size;have z7:=hf7.size;refine⟨p1,by omega,?_⟩;rintro(e|e)
   ·exact p3 e
   ·exact(hON.han y e).2 hy
  ·intro y hy;refine⟨?_,(hON.hon y hy).2⟩;rintro(e|e)
   ·exact(hON.hon y hy).1 e
   ·exact cq hON.ho hON.ha (by decide) y hy e
theorem uw(d:Dk)(i j s:Nat)(hj:j<=65536)(hs:1<=s):bp s<=(dI d i j s).length/\(dI d i j s).length<=4000000:=by
 have h1:=mE d i j ((s - 1) / 54) j 0 [];have h2:=Lg.baseOf_le hs;simp only[List.length_nil,Nat.zero_add] at h1;unfold dI;cases h:decide ((bx d i j ((s - 1) / 54) j 0 []).1.length<bp s) with
 | true=>rw[cond_true,Lg.zeros_len'];unfold bp;omega
 | false=>rw[decide_eq_false_iff_not] at h;rw[cond_false];omega
theorem vj{w:World}{b g m:Nat}{d:Dk}(h:DAt w b g m d)(frm n start:Int)(hst:start<=9223372036854775807):
  Cl prog 78 [pv b,iv frm,iv n,iv start] w λv w'=>∃p ov,v=.tuple #[p,ov,iv (my d frm n start).2]/\DAt w' b g m (my d frm n start).1/\Fm (Dm b g m) w w' /\ ((my d frm n start).2≠0->p=.pointer none/\ov=nl)/\((my d frm n start).2=0->OpnOk w w' p ov b (oc d frm.toNat n.toNat start.toNat) (sR d frm.toNat n.toNat start.toNat).1):=by
 have hn:=h.wf.n1;have hlt:=h.lt;have up:∀{w1:World},Fm (λ_=>False) w w1->Fm (Dm b g m) w w1:=λhf=>hf.mono iE;have bad:∀{w1:World} {er:Int},Fm (λ_=>False) w w1->er≠0->my d frm n start=(d,er)->∃p ov,Value.tuple #[.pointer none,nl,iv er]=.tuple #[p,ov,iv (my d frm n start).2]/\DAt w1 b g m (my d frm n start).1/\Fm (Dm b g m) w w1 /\
   ((my d frm n start).2≠0->p=.pointer none/\ov=nl)/\((my d frm n start).2=0->OpnOk w w1 p ov b (oc d frm.toNat n.toNat start.toNat) (sR d frm.toNat n.toNat start.toNat).1):=λhf he hE=>by
  rw[hE];exact⟨_,_,rfl,h.aS hf,up hf,λ_=>⟨rfl,rfl⟩,λe=>absurd e he⟩
 have hE:my d frm n start=bif !(gY d frm n)||decide (start<1) then(d,1) else bif d.gone then(d,5) else bif decide ((bx d frm.toNat n.toNat ((start.toNat - 1) / 54) n.toNat 0 []).2=0) then(oc d frm.toNat n.toNat start.toNat).iS d else(d,(bx d frm.toNat n.toNat ((start.toNat - 1) / 54) n.toNat 0 []).2):=rfl
 refine c78 ?_;refine(mP h frm n).mono ?_;rintro _ w0 ⟨rfl,rfl⟩;cases hfi:gY d frm n with
 | false=>rw[hfi,Bool.not_false,Bool.true_or,cond_true] at hE;simp only[RS];exact bad (Fm.refl _ _) (by decide) hE
 | true=>
 cases e1:decide (start<1) with
 | true=>rw[e1,Bool.or_true,cond_true] at hE;simp only[RS,e1];exact bad (Fm.refl _ _) (by decide) hE
 | false=>
 rw[hfi,e1,Bool.not_true,Bool.or_self,cond_false] at hE;simp only[RS,e1];refine(lV h).mono ?_;rintro _ w0 ⟨rfl,rfl⟩;cases hg:d.gone with
 | true=>rw[hg,cond_true] at hE;simp only[RS];exact bad (Fm.refl _ _) (by decide) hE
 | false=>
 rw[hg,cond_false] at hE;unfold gY at hfi;simp only[Bool.and_eq_true,decide_eq_true_eq] at hfi;obtain⟨f1,f2,f3,f4⟩:=hfi;rw[decide_eq_false_iff_not] at e1;obtain⟨j,rfl⟩:=Int.eq_ofNat_of_zero_le (show 0<=n by omega);obtain⟨i,rfl⟩:=Int.eq_ofNat_of_zero_le f2;obtain⟨s,rfl⟩:=Int.eq_ofNat_of_zero_le (show 0<=start by omega);simp only[Int.toNat_natCast] at hE bad ⊢;have hs:1<=s:=by omega
 have hj:4<=j:=by omega
 have hij:i+j<=65536:=by omega
 have hb:=Lg.baseOf_le hs;simp only[RS];refine(iK w0 (n:=s) hs (by omega)).mono ?_;rintro _ w0 ⟨rfl,rfl⟩;refine(gM w0 (k:=(s - 1) / 54) (by omega)).mono ?_;rintro _ w0 ⟨rfl,rfl⟩;rw[show(s - 1) / 54*54+1=Lg.baseOf s from rfl];refine ag (bf _ _) ?_;have hM:=MapAt.empty w0 iv Value.agg;have hfm:=Fm.alloc (λ_=>False) w0 (.map #[] 0);have hms:=aF w0 (.map #[] 0);generalize w0.alloc (.map #[] 0)=w1 at hM hfm hms;refine ag (Ci b w0.heap.size _ _ _ _ _) ?_;refine ae ?_;intro lb w2 hlb hs2 hw2 hf2;have hF2:=Fmf hfm hf2;have hi2:LIn w2 (λy=>y=lb\/y=w0.heap.size) (λ_=>False) lb b w0.heap.size nl [] ⟨i,j,Lg.baseOf s,[],s,0,0,[]⟩:=by refine⟨hw2,KpAt.nil _ _,hM.keep hf2 id,rfl,(λk cs hm=>by cases hm),⟨.inl rfl,.inr rfl,(λy hy=>by cases hy),λy hy=>hy.elim⟩,⟨id,id,(λy hy e=>e)⟩,?_⟩;rintro y (rfl|rfl)<;>omega
 refine(iK w2 (n:=s) hs (by omega)).mono ?_;rintro _ w2 ⟨rfl,rfl⟩;refine(vk (L:=⟨i,j,Lg.baseOf s,[],s,0,0,[]⟩) hi2 hij hj (h.aS hF2) (k:=(s - 1) / 54) (by omega)).mono ?_;rintro _ w3 ⟨u,rfl,hu,hf3⟩;have hF3:=Fmf hF2 hf3;have hi3:=hi2.aS hf3;obtain⟨ha1,ha2⟩:=uw d i j s (by omega) hs;have ea:IntKind.i64.wrap ((s:Int) - (Lg.baseOf s:Int))=((bp s:Nat):Int):=by unfold bp;rw[af]<;>omega
 have hDl:∀y,Dm b g m y->y<w0.heap.size:=by
  rintro y (rfl|rfl|rfl)
  ·exact hlt.1
  ·exact hlt.2.1
  ·exact hlt.2.2
 have z2:=hF2.size;simp only[RS,aG];cases hz:decide ((bx d i j ((s - 1) / 54) j 0 []).2=0) with
 | false=>rw[hz,cond_false] at hE;rw[decide_eq_false_iff_not] at hz;simp only[RS,Bool.not_false];exact bad hF3 hz hE
 | true=>
 rw[hz,cond_true] at hE;simp only[RS,Bool.not_true,hi3.c3,ea];refine aJ (λvs w4=>∃av,vs=[av]/\ON w0 w4 (λy=>y=lb\/y=w0.heap.size) (λ_=>False) (λ_=>False) lb b w0.heap.size g m [] ⟨i,j,Lg.baseOf s,[],s,0,0,[]⟩ d av (dI d i j s) nl [] []) ?_ ?_
 ·rintro _ w4 ⟨av,rfl,hON⟩ _;refine⟨av,rfl,?_⟩;generalize hall:dI d i j s=all at ha1 ha2 hON;refine⟨λvs w'=>∃(e f:Nat) (out:List Rc) (ov:Value) (X P Q:Nat->Prop) (M:List (Int×Array Value)) (C:List (Array Value)),vs=[ov,iv (e:Int)]/\e<=all.length/\all.length<e+f/\bp s<=e/\out.length<=e/\(e=bp s\/Lg.baseOf s+e<=4611686018427500000) /\
   (∀r∈out,(rCheck r).2=0/\(∀m∈r.imgs,m.2.lsn<=9223372036854775807)/\(s:Int)<=r.lsn/\r.lsn<((Lg.baseOf s+e:Nat):Int))/\gJ (Lg.baseOf s) all f e out=sR d i j s /\
   ON w0 w' X P Q lb b w0.heap.size g m M ⟨i,j,Lg.baseOf s,[],s,0,0,[]⟩ d av all ov C out,
   λvs _=>(all.length - nth vs 1).toNat,⟨bp s,all.length+1,[],_,_,_,_,_,_,rfl,ha1,by omega,Nat.le_refl _,by simp,.inl rfl,(λr hr=>by cases hr),by rw[<- hall];rfl,hON⟩,?_⟩
  rintro _ w5 ovv evv ⟨e,f,out,ov,X,P,Q,M,C,hvs,he,hf,hae,hoe,hbe,hout,hsc,hON5⟩;cases hvs;have hahd:bp s=s - Lg.baseOf s:=rfl;have hbe':Lg.baseOf s+e<=9223372036854775807:=by omega
  have eb:IntKind.i64.wrap ((Lg.baseOf s:Int)+(e:Int))=((Lg.baseOf s+e:Nat):Int):=by rw[af]<;>omega
  obtain⟨u5,q1,q2⟩:=Cb (P:=prog) B38 (KpAt.aT hON5.ha) he;simp only[RS,q1];refine ag q2 ?_;refine(pJ w5 (all.drop e) (by rw[List.length_drop];omega)).mono ?_;rintro _ w6 ⟨cs,rfl,hok,hf6⟩;have hON6:=hON5.aS hf6;have hcz:=hok.as.size;have hone:=hok.as.one;simp only[RS];refine ae ?_;intro x w7 hx hs7 hw7 hf7;have hON7:=hON6.aS hf7;refine ao hw7 rfl hcz hone ?_;intro w8 hw8 hs8 hf8;have hnx:=hON6.new (x:=x) (by omega);have hON8:=hON7.keep hf8 (by rintro y rfl;exact hnx);have hON9:=hON8.aS (Fm.drew _ w8);have fin:sR d i j s=(out,e)->_:=λh1=>by
   have hLL:oc d i j s=⟨i,j,Lg.baseOf s,all.take e,s,Lg.baseOf s+e,0,keyed out⟩:=by unfold oc;rw[h1,hall]
   rw[hLL] at hE;exact Az hON9 hj hij hs he ha2 hae hbe' hout
    (K:=λv w'=>∃p ov,v=.tuple #[p,ov,iv (my d ↑i ↑j ↑s).2]/\DAt w' b g m (my d ↑i ↑j ↑s).1/\Fm (Dm b g m) w0 w'/\((my d ↑i ↑j ↑s).2≠0->p=.pointer none/\ov=nl)/\((my d ↑i ↑j ↑s).2=0->OpnOk w0 w' p ov b (oc d i j s) (sR d i j s).1))
    (λw9 hd9 hF9 hne=>⟨_,_,by rw[hE],by rw[hE];exact hd9,hF9,λ_=>⟨rfl,rfl⟩,λe=>absurd (by rw[hE] at e;exact e) hne⟩)
    (λw9 hd9 hF9 hz9 hok9=>⟨_,_,by rw[hE,hz9],by rw[hE];exact hd9,hF9,λe=>absurd (by rw[hE];exact hz9) e,λ_=>by rw[hLL,h1];exact hok9⟩)
  cases hrd:(gj (all.drop e)).1 with
  | none=>
   have hne:((gj (all.drop e)).2.2 != 0)=true:=by obtain⟨_,h1|h1|h1⟩:=Aa hrd<;>rw[h1]<;>rfl
   simp only[RS,hne];exact⟨trivial,trivial,fin (by rw[<- hsc];exact AP _ _ _ _ _ hrd)⟩
  | some r=>
  obtain⟨ds1,ds2,ds3,ds4,ds5,ds6⟩:=wQ hrd;rw[hrd] at hok;have hheld6:=hok.held;obtain⟨vs,vm,vi,vp,vt,rfl,hrows,_⟩:=hok;have hw9:=(Fm.drew (λ_=>False) w8).heap hw8 id;have cx:w8.cell? ⟨x,0,none⟩=some (iv r.lsn):=by rw[ab hw8];rfl
  have cb:w8.cell? ⟨lb,3,none⟩=some (iv (Lg.baseOf s:Int)):=hON8.hi.c3;have hne:((gj (all.drop e)).2.2 != 0)=false:=by rw[ds2];rfl
  simp only[RS,hne,cx,cb,eb,aG,true_and];cases hl:decide (r.lsn=((Lg.baseOf s+e:Nat):Int)) with
  | false=>rw[decide_eq_false_iff_not] at hl;simp only[RS,Bool.not_false];exact fin (by rw[<- hsc];exact AQ _ _ _ _ _ hrd hl)
  | true=>
  have hlen:=Lg.enc_len ds1 ds6.lsns;rw[List.length_drop] at ds4;obtain⟨f',rfl⟩:∃f',f=f'+1:=⟨f - 1,by omega⟩;rw[gJ,hrd] at hsc;simp only[hl,cond_true] at hsc;rw[decide_eq_true_eq] at hl;have hlsn:r.lsn<=4611686018427387904:=(ds6.nums r.lsn (by unfold rNums;simp)).2;have e5:IntKind.i64.wrap ((e:Int)+((gj (all.drop e)).2.1:Int))=((e+(gj (all.drop e)).2.1:Nat):Int):=by rw[af]<;>omega
  have c8:w8.cell? ⟨lb,8,none⟩=some (.map (some w0.heap.size)):=hON8.hi.c8;have z6:=hf6.size;have z7:=hf7.size;have z8:=hf8.size;have hP1:∀y,(w5.heap.size<=y/\y<w6.heap.size)->¬y=x:=by rintro y ⟨_,hy⟩ rfl;omega
  have hheld9:Held w8.drew (λy=>w5.heap.size<=y/\y<w6.heap.size) (rcs r vs vm vi vp vt) r:=((hheld6.keep hf7 iT).keep hf8 (λy hy e=>hP1 y hy e)).keep (Fm.drew (λ_=>False) w8) iT;have hw9':w8.drew.drew.heap[x]?=some (.cells (rcs r vs vm vi vp vt) 168):=hw8;have hON9':=hON9.aS (Fm.drew _ w8.drew);have hheld9':=hheld9.keep (Fm.drew (λ_=>False) w8.drew) iT;have hP2:∀y,(w5.heap.size<=y/\y<w6.heap.size)->y<w8.drew.drew.heap.size/\w0.heap.size<=y/\¬X y/\¬Q y/\ovv.ownBlock≠some y/\av.ownBlock≠some y:=λy hy=>by obtain⟨p1,p2,p3,p4,p5⟩:=hON5.new hy.1;have zz:w8.drew.drew.heap.size=w8.heap.size:=rfl;exact⟨by omega,p1,p2,p3,p4,p5⟩
  obtain⟨w10,hr10,hM10,hf10,hz10⟩:=bk DY hON9'.hi.mp r.lsn (rcs r vs vm vi vp vt);obtain⟨hi10,hd10,ha10,ho10,hC10,hF10⟩:=hON9'.add hheld9' hP2 (λq hq e=>by have:=(hout q hq).2.2.2;omega) hM10 hf10;have hmbX:X w0.heap.size:=hON5.hi.xs.2.1;have hxm:x≠w0.heap.size:=λe=>by have:=hON5.hi.lt _ hmbX;omega
  have hw10:=hf10.heap hw9' hxm;simp only[RS,Bool.not_true,c8,cx,aa hw9' (n:=16) rfl,true_and];refine cB hr10 ?_;simp only[RS,aa hw10 (n:=16) rfl];have zd:w8.drew.drew.heap.size=w8.heap.size:=rfl;have hheld10:=hheld9'.keep hf10 (λy hy e=>(hP2 y hy).2.2.1 (by rw[e];exact hmbX));refine(nG hheld10.now ds1).mono ?_;rintro _ w11 ⟨cs2,rfl,hheld2,hf11⟩;have z11:=hf11.size;have ho11:=ah ho10 hf11 (λ_ _ _ _ e=>e);have hF11:=Fmf hF10 hf11;have hCl:=hON5.hl;have hcs2:cs2.toList.length=16:=by rw[Array.length_toList];exact hheld2.now.size
  refine lP HJ (by omega) 82 (cs:=cs2.toList) hcs2 (GF hheld2.now _) hheld2.now.one ho11 (by unfold maxLen;omega) (by omega) hF11.size ?_;intro v' w12 ho12 hcase;have hF12:Fm (λy=>ovv.ownBlock=some y) w11 w12:=by
   rcases hcase with⟨q,k1,k2,k3⟩|⟨q,k1,k2,k3⟩
   ·exact k3.mono (by rintro y _ rfl;exact k1)
   ·exact k3.mono iE
  have hov:∀y,v'.ownBlock=some y->ovv.ownBlock=some y\/w11.heap.size<=y:=λy hy=>by
   rcases hcase with⟨q,k1,k2,k3⟩|⟨q,k1,k2,k3⟩
   ·rw[k2] at hy;cases hy;exact .inl k1
   ·rw[k1] at hy;cases hy;exact .inr k2
  have ovlt:∀y,ovv.ownBlock=some y->w0.heap.size<=y/\y<w5.heap.size:=λy hy=>aO hON5.ho y hy;have avlt:∀y,av.ownBlock=some y->w0.heap.size<=y/\y<w5.heap.size:=λy hy=>aO hON5.ha y hy;have z12:=hF12.size;have z10:=hf10.size;simp only[RS,e5];refine⟨⟨e+(gj (all.drop e)).2.1,f',out++[r],v',λy=>X y\/(w5.heap.size<=y/\y<w6.heap.size),λy=>P y\/(w5.heap.size<=y/\y<w6.heap.size),λy=>Q y\/(w10.heap.size<=y/\y<w11.heap.size),cO M r.lsn (rcs r vs vm vi vp vt),C++[cs2],rfl,by omega,by omega,by omega,by rw[List.length_append,List.length_singleton];omega,.inr (by omega),?_,hsc,?_⟩,by simp only[cN];omega⟩
  ·intro q hq;rcases List.mem_append.1 hq with hq|hq
   ·obtain⟨p1,p2,p3,p4⟩:=hout q hq;exact⟨p1,p2,p3,by omega⟩
   ·simp only[List.mem_singleton] at hq;subst hq;exact⟨ds1,ds6.lsns,by omega,by omega⟩
  ·have hX12:∀y,(X y\/(w5.heap.size<=y/\y<w6.heap.size))->¬ovv.ownBlock=some y:=by
    rintro y (hy|hy) e
    ·exact(hON5.hon y e).1 hy
    ·have:=(ovlt y e).2;omega
   have hne12:∀y,Dm b g m y->¬ovv.ownBlock=some y:=λy hy e=>by have:=hDl y hy;have:=(ovlt y e).1;omega
   refine⟨(hi10.aS hf11).keep hF12 hX12,(hd10.aS hf11).keep hF12 (hne12 _ (.inl rfl)) (hne12 _ (.inr (.inl rfl))) (hne12 _ (.inr (.inr rfl))),ah (ah ha10 hf11 (λ_ _ _ _ e=>e)) hF12 (λk _ _ e q=>cq hON5.ho hON5.ha (by decide) k q e),?_,?_,?_,Fm.own hF11 hF12 (λy hy=>(ovlt y hy).1),?_,?_,?_,?_,hDl⟩
   ·rw[List.flatMap_append,List.length_append];simpa using ho12
   ·rw[List.length_append,List.length_append,hCl];rfl
   ·intro q cs' r' h1 h2;rw[List.getElem?_append] at h1 h2;rw[hCl] at h1;by_cases hq:q<out.length
    ·rw[if_pos hq] at h1 h2;exact(((hC10 q cs' r' h1 h2).keep hf11 iT).keep hF12 (λy hy e=>(hON5.hon y e).2 hy)).mono (λy hy=>.inl hy)
    ·rw[if_neg hq] at h1 h2;obtain⟨rfl,rfl⟩:cs2=cs'/\r=r':=by
      cases hqq:q - out.length with
      | zero=>rw[hqq] at h1 h2;simp at h1 h2;exact⟨h1,h2⟩
      | succ _=>rw[hqq] at h1;simp at h1
     exact(hheld2.keep hF12 (λy hy e=>by have:=(ovlt y e).2;omega)).mono (λy hy=>.inr hy)
   ·rintro y (hy|hy)
    ·exact hON5.hX y hy
    ·have:=hON5.hF.size;omega
   ·rintro y (hy|hy)
    ·obtain⟨p1,p2,p3⟩:=hON5.hQ y hy;refine⟨p1,by omega,?_⟩;rintro(e|e)
     ·exact p3 e
     ·omega
    ·have:=hON5.hF.size;refine⟨by omega,by omega,?_⟩;rintro(e|e)
     ·have:=hON5.hi.lt y e;omega
     ·omega
   ·intro y hy;rcases hov y hy with e|e
    ·have:=(ovlt y e).2;refine⟨λq=>hX12 y q e,?_⟩;rintro(q|q)
     ·exact(hON5.hon y e).2 q
     ·omega
    ·refine⟨?_,?_⟩
     ·rintro(q|q)
      ·have:=hON5.hi.lt y q;omega
      ·omega
     ·rintro(q|q)
      ·have:=(hON5.hQ y q).2.1;omega
      ·omega
   ·intro y hy;have:=(avlt y hy).2;refine⟨?_,?_⟩
    ·rintro(q|q)
     ·exact(hON5.han y hy).1 q
     ·omega
    ·rintro(q|q)
     ·exact(hON5.han y hy).2 q
     ·omega
 ·intro kk hkk;have hlu:=(CellsAt.aT hu).lenV;have dl:decide (((bx d i j ((s - 1) / 54) j 0 []).1.length:Int)<((bp s:Nat):Int))=decide ((bx d i j ((s - 1) / 54) j 0 []).1.length<bp s):=by rw[decide_eq_decide];omega
  have z3:=hF3.size;simp only[RS,hlu,dl];cases hl:decide ((bx d i j ((s - 1) / 54) j 0 []).1.length<bp s) with
  | true=>
   have hall:dI d i j s=aH (bp s):=by unfold dI;rw[hl];rfl
   simp only[RS];refine ag (BRow.make B38 w3 (bp s) (by omega)) ?_;have hfa:=Fm.alloc (λ_=>False) w3 (.cells (bc (List.replicate (bp s) 0)).toArray 5);have hrow:=da (w:=w3) (e:=5) (sz:=1) (base:=w0.heap.size) (n:=bp s) (l:=bc (List.replicate (bp s) 0)) (by rw[bX];simp) (by omega) (by unfold maxLen;omega);refine hkk _ _ ⟨_,rfl,hi3.aS hfa,h.aS (Fmf hF3 hfa),?_,World.ownsRow_nil _ _ _ _,rfl,(λi cs r h1=>by simp at h1),Fmf hF3 hfa,?_,(λy hy=>hy.elim),(λy hy=>by cases hy),?_,hDl⟩
   ·rw[hall,Lg.zeros_len'];exact hrow
   ·rintro y (rfl|rfl)<;>omega
   ·intro y hy;obtain rfl:w3.heap.size=y:=by simpa[Value.ownBlock] using hy
    have:=hi3.lt lb (.inl rfl);refine⟨?_,λe=>e⟩;rintro(e|e)<;>omega
  | false=>
   have hall:dI d i j s=(bx d i j ((s - 1) / 54) j 0 []).1:=by unfold dI;rw[hl];rfl
   simp only[RS];refine hkk _ _ ⟨_,rfl,hi3,h.aS hF3,?_,World.ownsRow_nil _ _ _ _,rfl,(λi cs r h1=>by simp at h1),hF3,?_,(λy hy=>hy.elim),(λy hy=>by cases hy),?_,hDl⟩
   ·rw[hall];exact aU hu z2
   ·rintro y (rfl|rfl)<;>omega
   ·intro y hy;have:=(aO hu y hy).1;refine⟨?_,λe=>e⟩;rintro(e|e)<;>omega
abbrev PgT:=Int×Int×Int×Int×Bs×List Bs×Unit
def gb(n:Nat)(a:Int):Nat:=((a.tmod n+n).tmod n).toNat
theorem yx(d:TypeDesc){a b:Int}(h0:0<b)(h1:b<=9223372036854775807):ax d .rem (iv a) (iv b)=some (iv (a.tmod b)):=by have h2:=Int.lt_tmod_of_pos a h0;have h3:=Int.tmod_lt_of_pos a h0;rw[nc,if_neg (by omega)]
theorem gD{n:Nat}(h:1<=n)(a:Int):gb n a<n/\(a.tmod n+n).tmod n=(gb n a:Int)/\-(n:Int)<a.tmod n/\a.tmod n<n:=by
 unfold gb;have h0:(0:Int)<(n:Int):=by omega
 have h1:=Int.lt_tmod_of_pos a h0;have h2:=Int.tmod_lt_of_pos a h0;have h3:=Int.tmod_lt_of_pos (a.tmod n+n) h0;have h4:0<=(a.tmod n+n).tmod n:=Int.tmod_nonneg _ (by omega);omega
theorem Ih(d:TypeDesc){n:Nat}(h:1<=n)(hn:n<=4611686018427387904)(a:Int):ax d .rem (iv a) (iv (n:Int))=some (iv (a.tmod n))/\IntKind.i64.wrap (a.tmod n+n)=a.tmod n+n/\ax d .rem (iv (a.tmod n+n)) (iv (n:Int))=some (iv (gb n a:Int))/\gb n a<n:=by obtain⟨h1,h2,h3,h4⟩:=gD h a;refine⟨yx d (by omega) (by omega),by rw[af];omega,?_,h1⟩;rw[yx d (by omega) (by omega),h2]
theorem z28(w:World):(zeroValue 168).run prog w=.ok (.agg (rcs rc0 nl nl nl nl nl)) w:=by kernel_rfl
theorem vz{w:World}{g:Nat}{cs:Array Value}{e:Int}(h:w.heap[g]?=some (.cells cs 168))(hn:cs.size=16){k:KV}(hk:k (.tuple #[.agg cs,iv e]) w):
  ch (bO prog (λj=>bif Nat.beq j 4 then pv g else bif Nat.beq j 5 then iv e else undef) w [(ResultVar.cell 4 168),(ResultVar.tmp 5)]) w k:=by
 have h3:pO prog (λj=>bif Nat.beq j 4 then pv g else bif Nat.beq j 5 then iv e else undef) w (.tmp 5)=some (iv e):=rfl;simp only[bO,eH (f:=λj=>bif Nat.beq j 4 then pv g else bif Nat.beq j 5 then iv e else undef) (a:=4) rfl zA th h hn,h3,ch,vD];exact hk
theorem LIn.get{w:World}{X P:Nat->Prop}{lb db mb:Nat}{kv:Value}{M:List (Int×Array Value)}{L:Lg}(h:LIn w X P lb db mb kv M L)(k:Int):
  (getD L.recs k=none/\getD M k=none)\/∃r cs,getD L.recs k=some r/\getD M k=some cs/\(k,r)∈L.recs/\Held w P cs r:=by
 have hn:(L.recs.map (·.1)).Nodup:=by rw[<- h.keys];exact h.mp.keys
 cases hM:getD M k with
 | none=>left;refine⟨?_,rfl⟩;rw[getD_none] at hM ⊢;rw[<- h.keys];exact hM
 | some cs=>right;obtain⟨r,h1,h2⟩:=h.rec_ k cs ((getD_some h.mp.keys).1 hM);exact⟨r,cs,(getD_some hn).2 h1,rfl,h1,h2⟩
theorem zj{w:World}{X:Nat->Prop}{lb db:Nat}{L:Lg}(h:LAt w X lb db L)(k:Int):Cl prog 119 [pv lb,iv k] w λv w'=>Fm (λ_=>False) w w' /\
  ((getD L.recs k=none/\v=.tuple #[.agg (rcs rc0 nl nl nl nl nl),iv 51])\/∃r cs,getD L.recs k=some r/\v=.tuple #[.agg cs,iv 0]/\RcAs w' cs r):=by
 obtain⟨P,mb,kv,M,hi⟩:=h.ex;refine c119 ?_;refine ae ?_;intro x1 w1 hx1 hs1 hw1 hf1;have hi1:=hi.aS hf1;simp only[RS,hi1.c8];refine ag (aW DY hi1.mp k true (z28 _)) ?_;have one0:=kY (r:=rc0) (vs:=nl) (vm:=nl) (vi:=nl) (vp:=nl) (vt:=nl) rfl rfl rfl rfl rfl;rcases hi1.get k with⟨g1,g2⟩|⟨r,cs,g1,g2,g3,g4⟩
 ·rw[g2];simp only[okV,cond_true]
  try simp only[RS]
  refine ae ?_;intro x2 w2 hx2 hs2 hw2 hf2;refine ao hw2 rfl rfl one0 ?_;intro w3 hw3 hs3 hf3
  try simp only[RS]
  refine ag (Bo _) ?_;have hw3':=hf3.heap (hf2.heap hw1 id) (show ¬x1=x2 by omega);refine ao hw3' rfl rfl one0 ?_;intro w4 hw4 hs4 hf4;exact vz hw4 rfl ⟨Fm.own (Fm.own (Fmf hf1 hf2) hf3 (by rintro y rfl;omega)) hf4 (by rintro y rfl;omega),.inl ⟨g1,rfl⟩⟩
 ·rw[g2];simp only[okV,cond_true];have hsz:=g4.now.size;have hone:=g4.now.one;obtain⟨q1,q2,_⟩:=h.wf.ok _ g3
  try simp only[RS]
  refine ae ?_;intro x2 w2 hx2 hs2 hw2 hf2;refine ao hw2 rfl hsz hone ?_;intro w3 hw3 hs3 hf3;have hxP:∀y,P y->¬y=x2:=by rintro y hy rfl;have:=hi1.lt _ (hi1.xs.2.2.2 _ hy);omega
  have g5:=(g4.keep hf2 iT).keep hf3 hxP;simp only[RS,aa hw3 hsz];refine(nG g5.now q2).mono ?_;rintro _ w4 ⟨cs',rfl,hheld,hf4⟩;have hw4:=hf4.heap (hf3.heap (hf2.heap hw1 id) (show ¬x1=x2 by omega)) id;have hsz':=hheld.now.size;refine ao hw4 rfl hsz' hheld.now.one ?_;intro w5 hw5 hs5 hf5;have z2:=hf2.size;have z3:=hf3.size;refine vz hw5 hsz' ⟨Fm.own (Fmf (Fm.own (Fmf hf1 hf2) hf3 (by rintro y rfl;omega)) hf4) hf5 (by rintro y rfl;omega),.inr ⟨r,cs',g1,rfl,(hheld.keep hf5 (by rintro y hy rfl;omega)).now⟩⟩
theorem ie{γ:Type}{l:List γ}{i:Nat}{p:γ}(hi:l[i]?=some p):(l.eraseIdx i).length+1=l.length:=by have h:=(List.getElem?_eq_some_iff.1 hi).1;rw[List.length_eraseIdx,if_pos h];omega
theorem eE{γ:Type}{l:List γ}(h:l.Nodup)(i:Nat):(l.eraseIdx i).Nodup:=h.sublist (List.eraseIdx_sublist _ _)
structure Pf where
 pg : Pg
 num : Int
 chg : Bool
def pf0:Pf:=⟨pg0,-1,false⟩
structure Pl where
 frm : Nat
 pages : Nat
 fr : List Pf
 owed : List (Int × Int)
structure PS where
 p : Pl
 l : Lg
 d : Dk
namespace Pl
def hold(p:Pl)(n:Int):Option Nat:=p.fr.findIdx? (λf=>decide (f.num=n))
def get(p:Pl)(i:Nat):Pf:=p.fr.getD i pf0
def stays(p:Pl)(n:Int):Bool:=match p.hold n with
 | some i=>(p.get i).chg
 | none=>false
def synced(p:Pl):Pl:={ p with owed:=p.owed.filter (λx=>p.stays x.1) }
def known(p:Pl)(n:Int):Int:=bif decide (n<0)||decide ((p.pages:Int)<=n) then 4 else 0
def lay(p:Pl)(i:Nat)(f:Pf):Pl:={ p with fr:=p.fr.set i f }
end Pl
namespace PS
def putW(s:PS)(i:Nat):Dk×Int:=s.d.write ((s.p.frm:Int)+8*(s.p.get i).num) (pEnc (s.p.get i).pg).1
def put(s:PS)(i:Nat):PS×Int:=
 bif decide ((pEnc (s.p.get i).pg).2=0) then (bif decide ((s.putW i).2=0) then(⟨s.p.lay i { s.p.get i with chg:=false },s.l,(s.putW i).1⟩,0) else(⟨s.p,s.l,(s.putW i).1⟩,(s.putW i).2))
 else(s,(pEnc (s.p.get i).pg).2)
def flu(s:PS)(i:Nat):Lg×Dk×Int:=s.l.flush (s.p.get i).pg.lsn s.d
def write1(s:PS)(i:Nat):PS×Int:=
 bif decide ((s.l.last:Int)<=(s.p.get i).pg.lsn) then (bif decide ((s.flu i).2.2=0) then(PS.mk s.p.synced (s.flu i).1 (s.flu i).2.1).put i else(⟨s.p,(s.flu i).1,(s.flu i).2.1⟩,(s.flu i).2.2))
 else s.put i
def pickAt(n:Nat)(pick:Int):Nat:=gb n pick
def lay(s:PS)(i:Nat)(f:Pf):PS:=⟨s.p.lay i f,s.l,s.d⟩
def take(s:PS)(pick:Int):PS×Nat×Int:=match s.p.hold (-1) with
 | some i=>(s,i,0)
 | none=>
  bif (s.p.get (pickAt s.p.fr.length pick)).chg then
   (bif decide ((s.write1 (pickAt s.p.fr.length pick)).2=0) then((s.write1 (pickAt s.p.fr.length pick)).1.lay (pickAt s.p.fr.length pick) pf0,pickAt s.p.fr.length pick,0)
    else((s.write1 (pickAt s.p.fr.length pick)).1,0,(s.write1 (pickAt s.p.fr.length pick)).2))
  else(s.lay (pickAt s.p.fr.length pick) pf0,pickAt s.p.fr.length pick,0)
def raw(s:PS)(n:Int):Bs×Int:=s.d.read ((s.p.frm:Int)+8*n) 8
def fetch(s:PS)(n pick:Int):PS×Pg×Int:=
 bif decide (s.p.known n=0) then
  (match s.p.hold n with
  | some i=>(s,(s.p.get i).pg,0)
  | none=>
   bif decide ((s.raw n).2=0) then
    (bif decide ((dK (s.raw n).1).2=0) then
     (bif decide ((s.take pick).2.2=0) then((s.take pick).1.lay (s.take pick).2.1 ⟨(dK (s.raw n).1).1,n,false⟩,(dK (s.raw n).1).1,0)
      else((s.take pick).1,pg0,(s.take pick).2.2))
     else(s,pg0,60))
   else(s,pg0,(s.raw n).2))
 else(s,pg0,s.p.known n)
def own(s:PS)(i:Nat)(n:Int)(b:Pg):PS:=⟨{ s.p.lay i ⟨b,n,true⟩ with owed:=bif (getD s.p.owed n).isNone then cO s.p.owed n b.lsn else s.p.owed },s.l,s.d⟩
def set(s:PS)(n:Int)(b:Pg)(pick:Int):PS×Int:=
 bif decide (s.p.known n=0) then
  (bif decide ((pEnc b).2=0) then
   (bif decide (b.lsn<1) then(s,1) else
    (match s.p.hold n with
    | some i=>(s.own i n b,0)
    | none=>bif decide ((s.take pick).2.2=0) then((s.take pick).1.own (s.take pick).2.1 n b,0) else((s.take pick).1,(s.take pick).2.2)))
   else(s,(pEnc b).2))
 else(s,s.p.known n)
def write(s:PS)(n:Int):PS×Int:=
 bif decide (s.p.known n=0) then
  (match s.p.hold n with
  | some i=>bif (s.p.get i).chg then s.write1 i else(s,0)
  | none=>(s,0))
 else(s,s.p.known n)
end PS
def IK(d:Dk)(a:Nat):Bs:=((d.cur.drop a).take 8).flatten
namespace Pl
theorem get_of{p:Pl}{i:Nat}{f:Pf}(h:p.fr[i]?=some f):p.get i=f:=by unfold get;rw[List.getD_eq_getElem?_getD,h];rfl
theorem hold_some{p:Pl}{n:Int}{i:Nat}(h:p.hold n=some i):∃f,p.fr[i]?=some f/\f.num=n:=by unfold hold at h;rw[List.findIdx?_eq_some_iff_getElem] at h;obtain⟨hi,h1,_⟩:=h;exact⟨p.fr[i],List.getElem?_eq_getElem hi,by simpa using h1⟩
theorem lay_len(p:Pl)(i:Nat)(f:Pf):(p.lay i f).fr.length=p.fr.length:=by unfold lay;simp
end Pl
def page(s:PS)(n:Nat):Pg×Int:=dK (IK s.d (s.p.frm+8*n))
section
variable{s:PS}{lst:Nat->Option Pg}
end
theorem iR{α:Type}{f:α->List Value}{n:Nat}(hf:∀x,(f x).length=n):∀(F:List α) (i:Nat) (x:α),i<F.length->(F.set i x).flatMap f=(F.flatMap f).take (i*n)++(f x++(F.flatMap f).drop (i*n+n))
 | [],i,x,h=>by simp at h
 | y::F,0,x,h=>by rw[List.set_cons_zero,List.flatMap_cons,List.flatMap_cons,Nat.zero_mul,List.take_zero,List.nil_append,Nat.zero_add];congr 1;rw[List.drop_left' (hf y)]
 | y::F,i+1,x,h=>by rw[List.set_cons_succ,List.flatMap_cons,List.flatMap_cons,iR hf F i x (by simpa using h)];rw[show(i+1)*n=(f y).length+i*n from by rw[hf,Nat.add_mul,Nat.one_mul,Nat.add_comm],List.take_length_add_append,Nat.add_assoc,List.drop_length_add_append,List.append_assoc]
theorem uy:∀(l:List Value) (cs:Array Value) (o:Nat),o+l.length<=cs.size->ov cs o l=(cs.toList.take o++(l++cs.toList.drop (o+l.length))).toArray
 | [],cs,o,h=>by simp[ov]
 | v::l,cs,o,h=>by
  rw[List.length_cons] at h;rw[ov,uy l (cs.setIfInBounds o v) (o+1) (by rw[Array.size_setIfInBounds];omega)];have ho:o<cs.toList.length:=by rw[Array.length_toList];omega
  rw[Array.toList_setIfInBounds,List.length_cons,List.set_eq_take_append_cons_drop,if_pos ho];have e1:cs.toList.take o++v::cs.toList.drop (o+1)=(cs.toList.take o++[v])++cs.toList.drop (o+1):=by simp
  have e2:(cs.toList.take o++[v]).length=o+1:=by rw[List.length_append,List.length_take,Nat.min_eq_left (by omega)];rfl
  rw[e1,List.take_left' e2,<- List.drop_drop,List.drop_left' e2,List.drop_drop];simp[Nat.add_assoc,Nat.add_comm 1]
theorem gZ{α:Type}{f:α->List Value}{n:Nat}(hf:∀x,(f x).length=n):∀{F:List α} {i:Nat} {x y:α} {j:Nat} {u:Value},F[i]?=some x->j<n->f y=(f x).set j u->(F.set i y).flatMap f=(F.flatMap f).set (i*n+j) u
 | [],i,x,y,j,u,h,_,_=>by simp at h
 | z::F,0,x,y,j,u,h,hj,he=>by
  obtain rfl:z=x:=by simpa using h
  rw[List.set_cons_zero,List.flatMap_cons,List.flatMap_cons,Nat.zero_mul,Nat.zero_add,he,List.set_append_left _ _ (by rw[hf];exact hj)]
 | z::F,i+1,x,y,j,u,h,hj,he=>by rw[List.set_cons_succ,List.flatMap_cons,List.flatMap_cons,gZ hf (by simpa using h) hj he,List.set_append_right _ _ (by rw[hf,Nat.add_mul];omega)];congr 2;rw[hf,Nat.add_mul];omega
abbrev PV:=Pf×Value
def frC(x:PV):List Value:=[iv x.1.pg.lsn,iv x.1.pg.kind,iv x.1.pg.level,iv x.1.pg.right,stv x.1.pg.high,x.2,iv x.1.num,.bool x.1.chg]
theorem cY(x:PV):(frC x).length=8:=rfl
def HeldP(w:World)(P:Nat->Prop)(v:Value)(p:Pg):Prop:=∀w',Fm (λy=>¬P y) w w'->PgAs w' (pcs p v) p
theorem HeldP.now{w:World}{P:Nat->Prop}{v:Value}{p:Pg}(h:HeldP w P v p):PgAs w (pcs p v) p:=h w (Fm.refl _ _)
theorem HeldP.keep{S P:Nat->Prop}{w w1:World}{v:Value}{p:Pg}(h:HeldP w P v p)(hf:Fm S w w1)(hs:∀y,P y->¬S y):HeldP w1 P v p:=λw' h'=>h w' (hf.trans h' (λx _ hx hp=>hs x hp hx) iT)
theorem HeldP.mono{P Q:Nat->Prop}{w:World}{v:Value}{p:Pg}(h:HeldP w P v p)(hPQ:∀y,P y->Q y):HeldP w Q v p:=λw' h'=>h w' (h'.mono (λx _ hx hp=>hx (hPQ x hp)))
theorem HeldP.aT{w:World}{b:Nat}{v:Value}{p:Pg}{P:Nat->Prop}(h:PgOw w b (pcs p v) p)(hP:∀y,v.ownBlock=some y->P y):HeldP w P v p:=by
 obtain⟨u,he,h2⟩:=h.ex;have e:(pcs p v).toList=(pcs p u).toList:=by rw[he]
 simp only[pcs,List.cons.injEq,true_and,and_true] at e;subst e;intro w' hf;have h3:=ah h2 hf (λk _ _ hk hn=>hn (hP k hk));exact⟨⟨v,rfl,aB h3,CellsAt.aT h3⟩,h.small,h.ins⟩
theorem HeldP.zero(w:World)(P:Nat->Prop):HeldP w P (.slice none 0 0) pg0:=λw' _=>GY w'
structure Pl.Wf (p : Pl) : Prop where
 f1 : 1 ≤ p.fr.length ∧ p.fr.length ≤ 1024
 pg : 1 ≤ p.pages ∧ p.frm + 8 * p.pages ≤ 65536
 nums : ∀ f ∈ p.fr, f.num = -1 ∨ (0 ≤ f.num ∧ f.num < (p.pages : Int))
theorem Pl.Wf.lay{p:Pl}(h:p.Wf){i:Nat}{f:Pf}(hf:f.num = -1\/(0<=f.num/\f.num<(p.pages:Int))):(p.lay i f).Wf:=by
 refine⟨by rw[Pl.lay_len];exact h.f1,h.pg,λg hg=>?_⟩;rcases List.mem_or_eq_of_mem_set hg with hg|rfl
 ·exact h.nums g hg
 ·exact hf
theorem Pl.Wf.y7{p q:Pl}(h:p.Wf)(e1:q.fr=p.fr)(e2:q.pages=p.pages)(e3:q.frm=p.frm):q.Wf:=⟨by rw[e1];exact h.f1,by rw[e2,e3];exact h.pg,by rw[e1,e2];exact h.nums⟩
theorem FK:KeyT prog 275 3 3 iv:=dH Tryz.underlying275 Tryz.underlying3
def plc(db lb fb ob n:Nat)(p:Pl):Array Value:=#[pv db,pv lb,iv (p.frm:Int),iv (p.pages:Int),.slice (some ⟨fb,0,none⟩) n n,.map (some ob)]
structure PIn (w : World) (X Q : Nat → Prop) (pb lb db fb ob : Nat) (F : List PV) (p : Pl) : Prop where
 st : w.heap[pb]? = some (.cells (plc db lb fb ob F.length p) 281)
 fr : w.heap[fb]? = some (.cells (F.flatMap frC).toArray 283)
 mp : MapAt w ob iv iv p.owed
 fs : F.map (·.1) = p.fr
 it : ∀ x ∈ F, HeldP w Q x.2 x.1.pg
 xs : X pb ∧ X fb ∧ X ob ∧ ∀ y, Q y → X y
 qs : ¬ Q pb ∧ ¬ Q fb ∧ ¬ Q ob
 lt : ∀ y, X y → y < w.heap.size
section
variable{w w':World}{X Q S:Nat->Prop}{pb lb db fb ob:Nat}{F:List PV}{p:Pl}
theorem PIn.keep(h:PIn w X Q pb lb db fb ob F p)(hf:Fm S w w')(hS:∀y,X y->¬S y):PIn w' X Q pb lb db fb ob F p:=⟨hf.heap h.st (hS _ h.xs.1),hf.heap h.fr (hS _ h.xs.2.1),h.mp.keep hf (hS _ h.xs.2.2.1),h.fs,λx hx=>(h.it x hx).keep hf (λy hy=>hS y (h.xs.2.2.2 y hy)),h.xs,h.qs,λy hy=>Nat.lt_of_lt_of_le (h.lt y hy) hf.size⟩
theorem PIn.aS(h:PIn w X Q pb lb db fb ob F p)(hf:Fm (λ_=>False) w w'):PIn w' X Q pb lb db fb ob F p:=h.keep hf iT
theorem PIn.len(h:PIn w X Q pb lb db fb ob F p):F.length=p.fr.length:=by rw[<- h.fs,List.length_map]
theorem PIn.pf(h:PIn w X Q pb lb db fb ob F p):pb≠fb:=by rintro rfl;have:=h.st;rw[h.fr] at this;injection (Option.some.inj this) with _ e _;exact absurd e (by decide)
theorem PIn.po(h:PIn w X Q pb lb db fb ob F p):pb≠ob:=by rintro rfl;obtain⟨es,c,hb,_⟩:=h.mp.ex;rw[h.st] at hb;cases hb
theorem PIn.fo(h:PIn w X Q pb lb db fb ob F p):fb≠ob:=by rintro rfl;obtain⟨es,c,hb,_⟩:=h.mp.ex;rw[h.fr] at hb;cases hb
theorem PIn.c0(h:PIn w X Q pb lb db fb ob F p):w.cell? ⟨pb,0,none⟩=some (pv db):=by rw[ab h.st];rfl
theorem PIn.c1(h:PIn w X Q pb lb db fb ob F p):w.cell? ⟨pb,1,none⟩=some (pv lb):=by rw[ab h.st];rfl
theorem PIn.c2(h:PIn w X Q pb lb db fb ob F p):w.cell? ⟨pb,2,none⟩=some (iv (p.frm:Int)):=by rw[ab h.st];rfl
theorem PIn.c3(h:PIn w X Q pb lb db fb ob F p):w.cell? ⟨pb,3,none⟩=some (iv (p.pages:Int)):=by rw[ab h.st];rfl
theorem PIn.c4(h:PIn w X Q pb lb db fb ob F p):w.cell? ⟨pb,4,none⟩=some (.slice (some ⟨fb,0,none⟩) F.length F.length):=by rw[ab h.st];rfl
theorem PIn.c5(h:PIn w X Q pb lb db fb ob F p):w.cell? ⟨pb,5,none⟩=some (.map (some ob)):=by rw[ab h.st];rfl
theorem PIn.fc(h:PIn w X Q pb lb db fb ob F p){i:Nat}{x:PV}(hi:F[i]?=some x){j:Nat}(hj:j<8):w.cell? ⟨fb,i*8+j,none⟩=(frC x)[j]? := by rw[ab h.fr,List.getElem?_toArray,dE cY hi hj]
theorem PIn.f0(h:PIn w X Q pb lb db fb ob F p){i:Nat}{x:PV}(hi:F[i]?=some x):w.cell? ⟨fb,i*8,none⟩=some (iv x.1.pg.lsn):=h.fc hi (j:=0) (by omega)
theorem PIn.f6(h:PIn w X Q pb lb db fb ob F p){i:Nat}{x:PV}(hi:F[i]?=some x):w.cell? ⟨fb,i*8+6,none⟩=some (iv x.1.num):=h.fc hi (by omega)
theorem PIn.f7(h:PIn w X Q pb lb db fb ob F p){i:Nat}{x:PV}(hi:F[i]?=some x):w.cell? ⟨fb,i*8+7,none⟩=some (.bool x.1.chg):=h.fc hi (by omega)
theorem PIn.B2(h:PIn w X Q pb lb db fb ob F p){i:Nat}{x:PV}(hi:F[i]?=some x):aM w ⟨fb,i*8,none⟩ 6=some (.agg (pcs x.1.pg x.2)):=by refine aN (l:=(frC x).take 6) rfl (λj hj=>?_);rw[aC,h.fc hi (by omega),List.getElem?_take,if_pos hj]
theorem PIn.ix(i:Nat){n:Nat}(hi:i<n)(fb:Nat):ixV 8 (.slice (some ⟨fb,0,none⟩) n n) (iv (i:Int))=some (.pointer (some ⟨fb,i*8,none⟩)):=by rw[dU hi,aC,Nat.zero_add]
theorem PIn.tT(h:PIn w X Q pb lb db fb ob F p){i:Nat}{x:PV}(hi:F[i]?=some x):p.fr[i]?=some x.1/\p.get i=x.1:=by
 have:p.fr[i]?=some x.1:=by rw[<- h.fs,List.getElem?_map,hi];rfl
 exact⟨this,Pl.get_of this⟩
theorem PIn.put(h:PIn w X Q pb lb db fb ob F p){Q':Nat->Prop}{i:Nat}{x:PV}(hf:Fm S w w')(hS:∀y,S y->y=fb\/¬X y)(hfr:w'.heap[fb]?=some (.cells ((F.set i x).flatMap frC).toArray 283))(hx:HeldP w' Q' x.2 x.1.pg)
  (hQ:∀y,Q y->Q' y) (hQ':∀y,Q' y->Q y\/(¬X y/\y<w'.heap.size)):PIn w' (λy=>X y\/Q' y) Q' pb lb db fb ob (F.set i x) (p.lay i x.1):=by
 have hno:∀y,X y->y≠fb->¬S y:=λy hy hn hs=>by
  rcases hS y hs with e|e
  ·exact hn e
  ·exact e hy
 have hq:∀y,X y->¬Q y->¬Q' y:=λy hy hn e=>by
  rcases hQ' _ e with e|e
  ·exact hn e
  ·exact e.1 hy
 refine⟨?_,hfr,h.mp.keep hf (hno _ h.xs.2.2.1 h.fo.symm),?_,?_,⟨.inl h.xs.1,.inl h.xs.2.1,.inl h.xs.2.2.1,λy hy=>.inr hy⟩,⟨hq _ h.xs.1 h.qs.1,hq _ h.xs.2.1 h.qs.2.1,hq _ h.xs.2.2.1 h.qs.2.2⟩,?_⟩
 ·rw[List.length_set];exact hf.heap h.st (hno _ h.xs.1 h.pf)
 ·show(F.set i x).map (·.1)=p.fr.set i x.1;rw[<- h.fs,List.map_set]
 ·intro y hy;rcases List.mem_or_eq_of_mem_set hy with hy|rfl
  ·exact((h.it y hy).keep hf (λz hz=>hno z (h.xs.2.2.2 z hz) (by rintro rfl;exact h.qs.2.1 hz))).mono hQ
  ·exact hx
 ·intro y hy;have hz:=hf.size;rcases hy with hy|hy
  ·have:=h.lt y hy;omega
  ·rcases hQ' y hy with e|e
   ·have:=h.lt y (h.xs.2.2.2 y e);omega
   ·exact e.2
theorem gF(h:PIn w X Q pb lb db fb ob F p)(n:Int):Cl prog 237 [pv pb,iv n] w λv w'=>v=iv (p.known n)/\w'=w:=by
 refine c237 ?_;unfold Pl.known;cases h1:decide (n<0) with
 | true=>simp only[RS,h1,Bool.true_or,cond_true];exact⟨(by trivial),(by trivial)⟩
 | false=>
  simp only[RS,h1,h.c3,Bool.false_or];cases h2:decide ((p.pages:Int)<=n) with
  | true=>simp only[RS,cond_true];exact⟨(by trivial),(by trivial)⟩
  | false=>simp only[RS,cond_false];exact⟨(by trivial),(by trivial)⟩
def kA(fb:Nat):Option Nat->Value
 | some i=>.pointer (some ⟨fb,i*8,none⟩)
 | none=>.pointer none
theorem dy(h:PIn w X Q pb lb db fb ob F p)(hw:F.length<=1024)(n:Int):Cl prog 238 [pv pb,iv n] w λv w'=>v=kA fb (p.hold n)/\w'=w:=by
 have hlen:=h.len;refine c238 ?_;simp only[RS,h.c4];refine⟨λvs w'=>∃i:Nat,vs=[iv (i:Int)]/\i<=F.length/\(∀(j:Nat) (f:Pf),j<i->p.fr[j]?=some f->f.num≠n)/\w'=w,λvs _=>(F.length - nth vs 0).toNat,⟨0,rfl,by omega,(λj f hj=>by omega),rfl⟩,?_⟩;rintro _ w2 ivv ⟨i,hvs,hi,hno,rfl⟩;cases hvs;by_cases hl:i<F.length
 ·have d1:decide ((i:Int)<(F.length:Int))=true:=by rw[decide_eq_true_eq];omega
  have e1:IntKind.i64.wrap ((i:Int)+1)=((i+1:Nat):Int):=by rw[af]<;>omega
  have hx:F[i]?=some F[i]:=List.getElem?_eq_getElem hl;generalize F[i]=x at hx;obtain⟨g1,_⟩:=h.tT hx;simp only[RS,d1,h.c4,PIn.ix i hl fb,h.f6 hx,aV];cases hq:decide (x.1.num=n) with
  | true=>
   rw[decide_eq_true_eq] at hq;simp only[RS];refine⟨?_,(by trivial)⟩;have:p.hold n=some i:=by
    unfold Pl.hold;rw[List.findIdx?_eq_some_iff_getElem];have hli:i<p.fr.length:=by omega
    refine⟨hli,?_,λj hj=>?_⟩
    ·rw[List.getElem?_eq_getElem hli] at g1;rw[decide_eq_true_eq,Option.some.inj g1];exact hq
    ·have:=hno j _ hj (List.getElem?_eq_getElem (by omega));simpa using this
   rw[this];rfl
  | false=>
   rw[decide_eq_false_iff_not] at hq;simp only[RS,e1];refine⟨⟨i+1,rfl,by omega,λj f hj hf=>?_,(by trivial)⟩,by simp only[ba];omega⟩;by_cases hji:j=i
   ·subst hji;rw[g1] at hf;cases hf;exact hq
   ·exact hno j f (by omega) hf
 ·have d1:decide ((i:Int)<(F.length:Int))=false:=by rw[decide_eq_false_iff_not];omega
  simp only[RS,d1];refine⟨?_,(by trivial)⟩;have:p.hold n=none:=by unfold Pl.hold;rw[List.findIdx?_eq_none_iff];intro f hf;obtain⟨j,hj⟩:=List.getElem?_of_mem hf;have hjl:=(List.getElem?_eq_some_iff.1 hj).1;simpa using hno j f (by omega) hj
  rw[this];rfl
theorem mB(h:PIn w X Q pb lb db fb ob F p)(n:Int):Cl prog 298 [pv pb,iv n] w λv w'=>v=.bool (!(getD p.owed n).isNone)/\w'=w:=by
 refine c298 ?_;simp only[RS,h.c5];have hl:=aW FK h.mp n true (z:=iv 0) (by kernel_rfl);refine ag hl ?_;cases getD p.owed n with
 | none=>simp only[okV,cond_true];simp only[RS];exact⟨(by trivial),(by trivial)⟩
 | some v=>simp only[okV,cond_true];simp only[RS];exact⟨(by trivial),(by trivial)⟩
theorem Ha{w:World}{g:Nat}{cs:Array Value}(h:w.heap[g]?=some (.cells cs 68))(hn:cs.size=6){k:KV}(hk:k (.agg cs) w):
  ch (bO prog (λj=>bif Nat.beq j 2 then pv g else undef) w [(ResultVar.cell 2 68)]) w k:=by
 simp only[bO,eH (f:=λj=>bif Nat.beq j 2 then pv g else undef) (a:=2) rfl Ej BQ h hn,ch,vD];exact hk
theorem pF:(#[(Value.int .i64 0),(Value.int .i64 0),(Value.int .i64 0),(Value.int .i64 0),(Value.string (ByteArray.mk #[])),(Value.slice none 0 0)]:Array Value)=pcs pg0 (.slice none 0 0):=rfl
theorem bC{p:Pg}{v:Value}(h:v.oneCell'=true):∀u∈(pcs p v).toList,u.oneCell'=true:=by intro u hu;simp[pcs] at hu;rcases hu with rfl|rfl|rfl|rfl|rfl|rfl<;>first|rfl|assumption
theorem AF(p:Pg)(v u:Value):(pcs p v).setIfInBounds 5 u=pcs p u:=rfl
theorem HeldP.v1{P:Nat->Prop}{v:Value}{q:Pg}(h:HeldP w P v q):v.oneCell'=true/\CellsAt w v q.items.length 1 (q.items.map stv)/\q.items.length*16<=140737488355328:=by
 obtain⟨u,he,h1,h2⟩:=h.now.ex;have e:(pcs q v).toList=(pcs q u).toList:=by rw[he]
 simp only[pcs,List.cons.injEq,true_and,and_true] at e;subst e;exact⟨h1,h2,h.now.ins.2.2.2.2.2⟩
theorem rk(h:PIn w X Q pb lb db fb ob F p){i:Nat}{x:PV}(hi:F[i]?=some x):Cl prog 281 [.pointer (some ⟨fb,i*8,none⟩)] w λv w'=>∃cs,v=.agg cs/\PgOw w' w.heap.size cs x.1.pg/\Fm (λ_=>False) w w':=by
 have hit:=h.it x (List.mem_of_getElem? hi);obtain⟨v1,v2,v3⟩:=hit.v1;refine c281 ?_;rw[pF];refine ae ?_;intro x1 w1 hx1 hs1 hw1 hf1;simp only[RS,(h.aS hf1).B2 hi];refine ae ?_;intro x2 w2 hx2 hs2 hw2 hf2;refine ao hw2 rfl rfl (bC v1) ?_;intro w3 hw3 hs3 hf3;have c5:w3.cell? ⟨x2,5,none⟩=some x.2:=by rw[ab hw3];rfl
 have hF3:Fm (λ_=>False) w w3:=Fm.own (Fmf hf1 hf2) hf3 (by rintro y rfl;omega);simp only[RS,c5];refine(dj (v2.keep hF3 iT) v3).mono ?_;rintro r w4 ⟨ho4,hf4⟩
 try simp only[RS]
 have z3:=hF3.size;refine au (hf4.heap hw3 id) (by show 5<6;decide) (aB ho4) ?_;intro w5 hw5 hs5 hf5;rw[AF] at hw5;have hlt:=aO ho4;simp only[RS,aa hw5 (show(pcs x.1.pg r).size=6 from rfl)];have hF4:=Fmf hF3 hf4;have hF5:Fm (λ_=>False) w w5:=Fm.own hF4 hf5 (by rintro y rfl;omega);have hw1':w5.heap[x1]?=some (.cells (pcs pg0 (.slice none 0 0)) 68):=by have e3:w3.heap[x1]?=_:=hf3.heap (hf2.heap hw1 id) (show ¬x1=x2 by omega);exact hf5.heap (hf4.heap e3 id) (show ¬x1=x2 by omega)
 refine ao hw1' rfl rfl (bC (aB ho4)) ?_;intro w6 hw6 hs6 hf6;have z1:=hf1.size;have z2:=hf2.size;have z3':=hf3.size;refine Ha hw6 rfl ⟨_,rfl,⟨⟨r,rfl,aU (ah (ah ho4 hf5 (λk hk _ _ e=>by omega)) hf6 (λk hk _ _ e=>by omega)) z3⟩,hit.now.small,hit.now.ins⟩,Fm.own hF5 hf6 (by rintro y rfl;omega)⟩
end
theorem qG{β:Type}(M:List (Int×β))(hn:(M.map (·.1)).Nodup)(q:Int×β->Bool)(a:Int):cR (M.filter q) a=M.filter (λx=>q x&&!decide (x.1=a)):=by
 induction M with
 | nil=>rfl
 | cons p l ih=>
  rw[List.map_cons,List.nodup_cons] at hn;have ih:=ih hn.2;rw[List.filter_cons,List.filter_cons];by_cases hq:q p=true
  ·rw[if_pos hq,cR];by_cases ha:p.1=a
   ·have hno:∀x∈l,¬x.1=a:=λx hx e=>hn.1 (by rw[ha,<- e];exact List.mem_map.2 ⟨x,hx,rfl⟩);rw[if_pos ha,if_neg (by simp[ha])];exact(List.filter_congr (λx hx=>by simp[hno x hx])).symm
   ·rw[if_neg ha,if_pos (by simp[hq,ha]),ih]
  ·rw[if_neg hq,if_neg (by simp[hq]),ih]
section
variable{w w':World}{X Q S:Nat->Prop}{pb lb db fb ob:Nat}{F:List PV}{p:Pl}
theorem nI{a:Nat}(h:PIn w X Q pb lb db fb ob F p)(hw:F.length<=1024)(ha:w.heap[a]?=some (.cells #[pv pb] 65))(n:Int)(u:Value):Cl prog 341 [iv n,u,pv a] w λv w'=>v=.bool (!p.stays n)/\w'=w:=by
 have ca:w.cell? ⟨a,0,none⟩=some (pv pb):=by rw[ab ha];rfl
 refine c341 ?_;simp only[RS,ca];refine(dy h hw n).mono ?_;rintro _ w2 ⟨rfl,rfl⟩;unfold Pl.stays;cases hh:p.hold n with
 | none=>simp only[kA];simp only[RS];exact⟨(by trivial),(by trivial)⟩
 | some i=>simp only[kA];obtain⟨f,hf,_⟩:=Pl.hold_some hh;rw[<- h.fs,List.getElem?_map,Option.map_eq_some_iff] at hf;obtain⟨x,hx,rfl⟩:=hf;rw[(h.tT hx).2];simp only[RS,h.f7 hx];exact⟨(by trivial),(by trivial)⟩
theorem pG(h:PIn w X Q pb lb db fb ob F p)(hw:F.length<=1024):Cl prog 276 [pv pb] w λv w'=>PIn w' X Q pb lb db fb ob F p.synced/\Fm (·=ob) w w':=by
 refine c276 ?_;refine ae ?_;intro a w1 ha hs1 hw1 hf1;have c1:w1.cell? ⟨a,0,none⟩=some (pv pb):=by rw[ab hw1];rfl
 have hi1:=h.aS hf1;simp only[RS,c1,hi1.c5];refine c340 ?_;obtain⟨w5,hr5,hR,hf5,hs5⟩:=fw Tryz.underlying275 hi1.mp;refine ag hr5 ?_;have hi5:=hi1.aS hf5;have hkn:(p.owed.map (·.1)).Nodup:=h.mp.keys;have hz1:=hf1.size;refine⟨λvs w'=>∃(q:Int×Int->Bool) (left:List (Int×Int)),vs=[]/\RangeAt w' w1.heap.size ob iv iv (p.owed.filter q) left/\(left.map (·.1)).Nodup/\(∀x∈p.owed,q x=true↔(p.stays x.1=true\/x.1∈left.map (·.1)))/\Fm (λy=>y=ob\/y=w1.heap.size) w5 w',λ_ w'=>Go.Al.rl w' w1.heap.size ob,⟨λ_=>true,p.owed,rfl,by rw[List.filter_eq_self.2 (λ_ _=>rfl)];exact hR,hkn,λx hx=>⟨λ_=>.inr (List.mem_map.2 ⟨x,hx,rfl⟩),λ_=>rfl⟩,Fm.refl _ _⟩,?_⟩;rintro g w6 ⟨q,left,-,hR6,hln,hq,hf6⟩;have hnm5:∀y,X y->¬y=w1.heap.size:=by rintro y hy rfl;have:=hi1.lt _ hy;omega
 have hat:∀{w7:World} {D:List (Int×Int)},Fm (λy=>y=ob\/y=w1.heap.size) w5 w7->MapAt w7 ob iv iv D->PIn w7 X Q pb lb db fb ob F { p with owed:=D }:=by
  intro w7 D hf7 hm7;have hn:∀y,X y->y≠ob->¬(y=ob\/y=w1.heap.size):=λy hy hne e=>by
   rcases e with e|e
   ·exact hne e
   ·exact hnm5 y hy e
  exact⟨hf7.heap hi5.st (hn _ h.xs.1 h.po),hf7.heap hi5.fr (hn _ h.xs.2.1 h.fo),hm7,h.fs,λx hx=>(hi5.it x hx).keep hf7 (λy hy=>hn y (h.xs.2.2.2 y hy) (by rintro rfl;exact h.qs.2.2 hy)),h.xs,h.qs,λy hy=>Nat.lt_of_lt_of_le (hi5.lt y hy) hf7.size⟩
 have ha7:∀{w7:World},Fm (λy=>y=ob\/y=w1.heap.size) w5 w7->w7.heap[a]?=some (.cells #[pv pb] 65):=λhf7=>hf7.heap (hf5.heap hw1 id) (by
  rintro(e|e)
  ·have:=h.lt _ h.xs.2.2.1;omega
  ·omega)
 have hfn:((p.owed.filter q).map (·.1)).Nodup:=hkn.sublist (List.Sublist.map _ List.filter_sublist);rcases ij (P:=prog) hR6 0 with⟨rfl,hrun⟩|⟨i,y,w7,hp,hrun,hR',hf',hs',hent⟩
 ·refine ag hrun ?_;simp only[RS];have hFq:p.owed.filter q=p.owed.filter (λx=>p.stays x.1):=List.filter_congr (λx hx=>by have:=hq x hx;simp at this;cases h1:q x<;>cases h2:p.stays x.1<;>simp[h1,h2] at this ⊢);have hm6:=hR6.map hfn;rw[hFq] at hm6;refine⟨hat hf6 hm6,?_⟩;exact(Fmf hf1 hf5).trans hf6 iE (λx hx e=>by
   rcases e with e|e
   ·exact e
   ·omega)
 ·refine ag hrun ?_;simp only[RS];refine ag hent ?_;have hlen:Go.Al.rl w7 w1.heap.size ob<Go.Al.rl w6 w1.heap.size ob:=by rw[hR6.len,hR'.len];have:=ie hp;omega
  have hln':((left.eraseIdx i).map (·.1)).Nodup:=by rw[<- bd];exact eE hln i
  have hf7:Fm (λy=>y=ob\/y=w1.heap.size) w5 w7:=hf6.trans (hf'.mono (λy _ e=>.inr e)) iT iT;have hmem:∀k,k∈left.map (·.1)↔k=y.1\/k∈(left.eraseIdx i).map (·.1):=by
   intro k;constructor
   ·intro hk;obtain⟨x,hx,rfl⟩:=List.mem_map.1 hk;rcases pn hp hx with rfl|hx
    ·exact .inl rfl
    ·exact .inr (List.mem_map.2 ⟨x,hx,rfl⟩)
   ·rintro(rfl|hk)
    ·exact List.mem_map.2 ⟨y,List.mem_of_getElem? hp,rfl⟩
    ·obtain⟨x,hx,rfl⟩:=List.mem_map.1 hk;exact List.mem_map.2 ⟨x,List.mem_of_mem_eraseIdx hx,rfl⟩
  have hnot:y.1∉(left.eraseIdx i).map (·.1):=by
   intro hk;obtain⟨j,hj⟩:=List.getElem?_of_mem hk;rw[<- bd,List.getElem?_eraseIdx] at hj;have hpi:(left.map (·.1))[i]?=some y.1:=by rw[List.getElem?_map,hp];rfl
   split at hj
   ·have:=(List.getElem?_inj (List.getElem?_eq_some_iff.1 hj).1 hln).1 (hj.trans hpi.symm);omega
   ·have:=(List.getElem?_inj (List.getElem?_eq_some_iff.1 hj).1 hln).1 (hj.trans hpi.symm);omega
  simp only[RS];refine ay (by kernel_rfl) ?_;have hi7:=hat hf7 (hR'.map hfn);refine(nI hi7 hw (ha7 hf7) y.1 (iv y.2)).mono ?_;rintro _ w8 ⟨rfl,rfl⟩;have hst:({ p with owed:=p.owed.filter q }:Pl).stays y.1=p.stays y.1:=rfl;rw[hst];cases q3:p.stays y.1 with
  | true=>
   simp only[RS];refine⟨⟨q,_,(by trivial),hR',hln',λx hx=>?_,hf7⟩,hlen⟩;rw[hq x hx,hmem];constructor
   ·rintro(h1|h1|h1)
    ·exact .inl h1
    ·exact .inl (by rw[h1];exact q3)
    ·exact .inr h1
   ·rintro(h1|h1)
    ·exact .inl h1
    ·exact .inr (.inr h1)
  | false=>
   simp only[RS];obtain⟨w9,hr9,hR9,hf9,hs9⟩:=jq FK hR' hfn y.1 hnot 0 3;refine ag hr9 ?_;rw[qG p.owed hkn q y.1] at hR9;refine⟨⟨_,_,(by trivial),hR9,hln',λx hx=>?_,hf7.trans (hf9.mono (λy _ e=>.inl e)) iT iT⟩,by rw[hR9.len,<- hR'.len];exact hlen⟩;rw[Bool.and_eq_true,hq x hx,hmem,Bool.not_eq_true',decide_eq_false_iff_not];constructor
   ·rintro⟨h1,h2⟩;rcases h1 with h1|h1|h1
    ·exact .inl h1
    ·exact absurd h1 h2
    ·exact .inr h1
   ·rintro(h1|h1)
    ·exact⟨.inl h1,λe=>by rw[e,q3] at h1;cases h1⟩
    ·exact⟨.inr (.inr h1),λe=>hnot (by rw[<- e];exact h1)⟩
end
structure SI (w : World) (Xl Xp Q : Nat → Prop) (pb lb db g m fb ob : Nat) (F : List PV) (s : PS) : Prop where
 hL : LAt w Xl lb db s.l
 hD : DAt w db g m s.d
 hP : PIn w Xp Q pb lb db fb ob F s.p
 wf : s.p.Wf
 lp : ∀ y, Xl y → ¬ Xp y
 ld : ¬ Xl db ∧ ¬ Xl g ∧ ¬ Xl m
 pd : ¬ Xp db ∧ ¬ Xp g ∧ ¬ Xp m
def SY(Xl Xp:Nat->Prop)(db g m:Nat)(y:Nat):Prop:=Xl y\/Xp y\/y=db\/y=g\/y=m
section
variable{w w':World}{Xl Xp Q S:Nat->Prop}{pb lb db g m fb ob:Nat}{F:List PV}{s:PS}
theorem SI.rW(h:SI w Xl Xp Q pb lb db g m fb ob F s):1<=F.length/\F.length<=1024:=by rw[h.hP.len];exact h.wf.f1
theorem SI.keep(h:SI w Xl Xp Q pb lb db g m fb ob F s)(hf:Fm S w w')(hS:∀y,SY Xl Xp db g m y->¬S y):SI w' Xl Xp Q pb lb db g m fb ob F s:=⟨h.hL.keep hf (λy hy=>hS y (.inl hy)),h.hD.keep hf (hS _ (.inr (.inr (.inl rfl)))) (hS _ (.inr (.inr (.inr (.inl rfl))))) (hS _ (.inr (.inr (.inr (.inr rfl))))),h.hP.keep hf (λy hy=>hS y (.inr (.inl hy))),h.wf,h.lp,h.ld,h.pd⟩
theorem SI.aS(h:SI w Xl Xp Q pb lb db g m fb ob F s)(hf:Fm (λ_=>False) w w'):SI w' Xl Xp Q pb lb db g m fb ob F s:=h.keep hf iT
theorem SI.lt(h:SI w Xl Xp Q pb lb db g m fb ob F s):∀y,SY Xl Xp db g m y->y<w.heap.size:=by
 have hd:=h.hD.lt;rintro y (hy|hy|rfl|rfl|rfl)
 ·exact h.hL.lt y hy
 ·exact h.hP.lt y hy
 ·exact hd.1
 ·exact hd.2.1
 ·exact hd.2.2
theorem SI.By(h:SI w Xl Xp Q pb lb db g m fb ob F s){i:Nat}{x:PV}(hi:F[i]?=some x){b:Bool}{k:KV}(hk:∀w',SI w' Xl Xp Q pb lb db g m fb ob (F.set i ({ x.1 with chg:=b },x.2)) ⟨s.p.lay i { x.1 with chg:=b },s.l,s.d⟩->Fm (·=fb) w w'->k undef w'):
  St 1 w (.pointer (some ⟨fb,i*8+7,none⟩)) (.bool b) k:=by
 have hil:=(List.getElem?_eq_some_iff.1 hi).1;have hmem:=List.mem_of_getElem? hi;refine au h.hP.fr (by rw[List.size_toArray,flat_len cY];omega) rfl ?_;intro w' hw' hs' hf';have hset:=gZ cY (F:=F) (y:=(({ x.1 with chg:=b },x.2):PV)) (u:=.bool b) hi (j:=7) (by omega) rfl;rw[List.setIfInBounds_toArray,<- hset] at hw';have hx0:=h.hP.it x hmem;have hfb:∀y,Q y->¬y=fb:=by rintro y hy rfl;exact h.hP.qs.2.1 hy
 have hput:=h.hP.put (x:=(({ x.1 with chg:=b },x.2):PV)) hf' (λy e=>.inl e) hw' (hx0.keep hf' hfb) (λ_ e=>e) (λy hy=>.inl hy);have hX:(λy=>Xp y\/Q y)=Xp:=by funext y;exact propext ⟨λe=>e.elim id (h.hP.xs.2.2.2 y),.inl⟩
 rw[hX] at hput;refine hk w' ⟨h.hL.keep hf' (by rintro y hy rfl;exact h.lp _ hy h.hP.xs.2.1),h.hD.keep hf' (by rintro rfl;exact h.pd.1 h.hP.xs.2.1) (by rintro rfl;exact h.pd.2.1 h.hP.xs.2.1) (by rintro rfl;exact h.pd.2.2 h.hP.xs.2.1),hput,h.wf.lay ?_,h.lp,h.ld,h.pd⟩ hf';have:=(h.hP.tT hi).1;exact h.wf.nums x.1 (List.mem_of_getElem? this)
theorem SI.flush(h:SI w Xl Xp Q pb lb db g m fb ob F s)(u:Int):Cl prog 186 [pv lb,iv u] w λv w'=>v=iv (s.l.flush u s.d).2.2/\SI w' Xl Xp Q pb lb db g m fb ob F ⟨s.p,(s.l.flush u s.d).1,(s.l.flush u s.d).2.1⟩/\Fm (SY Xl Xp db g m) w w':=by
 refine(rP h.hL h.hD h.ld u).mono ?_;rintro v w' ⟨rfl,h1,h2,hf⟩;have hlb:=h.hL.lb;refine⟨rfl,⟨h1,h2,h.hP.keep hf ?_,h.wf,h.lp,h.ld,h.pd⟩,hf.mono ?_⟩
 ·rintro y hy (rfl|rfl|rfl|rfl)
  ·exact h.lp _ hlb hy
  ·exact h.pd.1 hy
  ·exact h.pd.2.1 hy
  ·exact h.pd.2.2 hy
 ·rintro y _ (rfl|rfl|rfl|rfl)
  ·exact .inl hlb
  ·exact .inr (.inr (.inl rfl))
  ·exact .inr (.inr (.inr (.inl rfl)))
  ·exact .inr (.inr (.inr (.inr rfl)))
theorem SI.synced(h:SI w Xl Xp Q pb lb db g m fb ob F s):Cl prog 276 [pv pb] w λv w'=>SI w' Xl Xp Q pb lb db g m fb ob F ⟨s.p.synced,s.l,s.d⟩/\Fm (SY Xl Xp db g m) w w':=by refine(pG h.hP h.rW.2).mono ?_;rintro v w' ⟨h1,hf⟩;have ho:=h.hP.xs.2.2.1;exact⟨⟨h.hL.keep hf (by rintro y hy rfl;exact h.lp _ hy ho),h.hD.keep hf (by rintro rfl;exact h.pd.1 ho) (by rintro rfl;exact h.pd.2.1 ho) (by rintro rfl;exact h.pd.2.2 ho),h1,h.wf.y7 rfl rfl rfl,h.lp,h.ld,h.pd⟩,hf.mono (by rintro y _ rfl;exact .inr (.inl ho))⟩
theorem SI.p9(h:SI w Xl Xp Q pb lb db g m fb ob F s){d':Dk}(hd:DAt w' db g m d')(hf:Fm (λx=>x=db\/x=g\/x=m) w w'):SI w' Xl Xp Q pb lb db g m fb ob F ⟨s.p,s.l,d'⟩/\Fm (SY Xl Xp db g m) w w':=by
 refine⟨⟨h.hL.keep hf ?_,hd,h.hP.keep hf ?_,h.wf,h.lp,h.ld,h.pd⟩,hf.mono (λy _ e=>.inr (.inr e))⟩
 ·rintro y hy (rfl|rfl|rfl)
  ·exact h.ld.1 hy
  ·exact h.ld.2.1 hy
  ·exact h.ld.2.2 hy
 ·rintro y hy (rfl|rfl|rfl)
  ·exact h.pd.1 hy
  ·exact h.pd.2.1 hy
  ·exact h.pd.2.2 hy
theorem cj{a b c:World}(h:Fm (SY Xl Xp db g m) a b)(k:Fm (SY Xl Xp db g m) b c):Fm (SY Xl Xp db g m) a c:=h.trans k iT iT
theorem eU{a b:World}(h:Fm (λ_=>False) a b):Fm (SY Xl Xp db g m) a b:=h.mono iE
theorem xb(p:Pg):tV p=.tuple #[stv (pEnc p).1,iv (pEnc p).2]:=rfl
theorem jo(h:SI w Xl Xp Q pb lb db g m fb ob F s){i:Nat}{x:PV}(hi:F[i]?=some x):Cl prog 239 [pv pb,.pointer (some ⟨fb,i*8,none⟩)] w λv w'=>v=iv (s.write1 i).2/\(∃F',SI w' Xl Xp Q pb lb db g m fb ob F' (s.write1 i).1)/\Fm (SY Xl Xp db g m) w w':=by
 obtain⟨_,hget⟩:=h.hP.tT hi;have hmem:=List.mem_of_getElem? hi;have hE:s.write1 i=bif decide ((s.l.last:Int)<=x.1.pg.lsn) then(bif decide ((s.l.flush x.1.pg.lsn s.d).2.2=0) then(PS.mk s.p.synced (s.l.flush x.1.pg.lsn s.d).1 (s.l.flush x.1.pg.lsn s.d).2.1).put i else(⟨s.p,(s.l.flush x.1.pg.lsn s.d).1,(s.l.flush x.1.pg.lsn s.d).2.1⟩,(s.l.flush x.1.pg.lsn s.d).2.2)) else s.put i:=by unfold PS.write1 PS.flu;rw[hget]
 refine c239 ?_;refine aJ (λvs w'=>vs=[]/\∃s1,SI w' Xl Xp Q pb lb db g m fb ob F s1/\s1.p.fr=s.p.fr/\Fm (SY Xl Xp db g m) w w'/\s.write1 i=s1.put i) ?_ ?_
 ·rintro _ w2 ⟨rfl,s1,h1,hfr,hF2,he⟩ _;refine⟨rfl,?_⟩;rw[he];clear hE he;have hg1:s1.p.get i=x.1:=(h1.hP.tT hi).2;have hput:s1.put i=bif decide ((pEnc x.1.pg).2=0) then(bif decide ((s1.d.write ((s1.p.frm:Int)+8*x.1.num) (pEnc x.1.pg).1).2=0) then(⟨s1.p.lay i { x.1 with chg:=false },s1.l,(s1.d.write ((s1.p.frm:Int)+8*x.1.num) (pEnc x.1.pg).1).1⟩,0) else(⟨s1.p,s1.l,(s1.d.write ((s1.p.frm:Int)+8*x.1.num) (pEnc x.1.pg).1).1⟩,(s1.d.write ((s1.p.frm:Int)+8*x.1.num) (pEnc x.1.pg).1).2)) else(s1,(pEnc x.1.pg).2):=by unfold PS.put PS.putW;rw[hg1]
  simp only[RS,h1.hP.B2 hi];refine(cI (h1.hP.it x hmem).now).mono ?_;rintro _ w3 ⟨rfl,hf3⟩;rw[xb];have h3:=h1.aS hf3;have hF3:=cj hF2 (eU hf3);simp only[RS];refine aJ (λvs w'=>∃(e:Int) (d':Dk),vs=[iv e]/\SI w' Xl Xp Q pb lb db g m fb ob F ⟨s1.p,s1.l,d'⟩/\Fm (SY Xl Xp db g m) w w'/\s1.put i=bif decide (e=0) then(⟨s1.p.lay i { x.1 with chg:=false },s1.l,d'⟩,0) else(⟨s1.p,s1.l,d'⟩,e)) ?_ ?_
  ·rintro _ w4 ⟨e,d',rfl,h4,hF4,he⟩ _;refine⟨_,rfl,?_⟩;rw[he];refine aJ (λvs w'=>vs=[]/\∃F',SI w' Xl Xp Q pb lb db g m fb ob F' (bif decide (e=0) then(PS.mk (s1.p.lay i { x.1 with chg:=false }) s1.l d') else⟨s1.p,s1.l,d'⟩)/\Fm (SY Xl Xp db g m) w w') ?_ ?_
   ·rintro _ w5 ⟨rfl,F',h5,hF5⟩ _;refine⟨rfl,?_⟩;cases hq:decide (e=0) with
    | true=>rw[hq] at h5;rw[decide_eq_true_eq] at hq;exact⟨by rw[hq];rfl,⟨F',h5⟩,hF5⟩
    | false=>rw[hq] at h5;exact⟨rfl,⟨F',h5⟩,hF5⟩
   intro jj hjj;simp only[RS,aV];cases hq:decide (e=0) with
   | true=>simp only[RS];refine h4.By hi ?_;intro w5 h5 hf5;exact hjj _ _ ⟨rfl,_,by rw[hq];exact h5,hF4.trans hf5 iT (by rintro y _ rfl;exact .inr (.inl h4.hP.xs.2.1))⟩
   | false=>simp only[RS];exact hjj _ _ ⟨rfl,F,by rw[hq];exact h4,hF4⟩
  intro jj hjj;simp only[RS,aV];cases hq:decide ((pEnc x.1.pg).2=0) with
  | false=>rw[hq,cond_false] at hput;simp only[RS];exact hjj _ _ ⟨_,s1.d,rfl,h3,hF3,by rw[hput,hq];rfl⟩
  | true=>
   rw[hq,cond_true] at hput;have hlen:(pEnc x.1.pg).1.length<=9223372036854775807:=by rw[iq (by rw[<- sW];exact of_decide_eq_true hq)];omega
   have hnum:=h3.wf.nums x.1 (List.mem_of_getElem? (h3.hP.tT hi).1);have hpg:=h3.wf.pg;have e1:IntKind.i64.wrap (8*x.1.num)=8*x.1.num:=by rw[af];omega
   have e2:IntKind.i64.wrap ((s1.p.frm:Int)+8*x.1.num)=(s1.p.frm:Int)+8*x.1.num:=by rw[af];omega
   have hfd:=Fm.drew (λ_=>False) w3;have h3d:=h3.aS hfd;simp only[RS,h3.hP.c0,h3.hP.c2,h3.hP.f6 hi,true_and,e1,e2];refine(bV h3d.hD _ _ hlen).mono ?_;rintro _ w4 ⟨rfl,hd4,hf4⟩;obtain⟨h4,hF4⟩:=h3d.p9 hd4 hf4
   try simp only[RS]
   refine hjj _ _ ⟨_,_,rfl,h4,cj hF3 (cj (eU hfd) hF4),?_⟩;rw[hput]
 intro jj hjj;have hfd:=Fm.drew (λ_=>False) w;have hd:=h.aS hfd;refine⟨λw'=>Fm (λ_=>False) w w',hfd,?_⟩;simp only[RS,h.hP.c1,true_and];refine⟨iv x.1.pg.lsn,λw' h'=>?_,?_⟩
 ·simp only[RS,(h.hP.aS h').f0 hi]<;>trivial
 refine(iJ hd.hL).mono ?_;rintro _ w2 ⟨rfl,hf2⟩;have hF2:=Fmf hfd hf2;refine⟨hF2,?_⟩;have h2:=h.aS hF2;cases hq:decide ((s.l.last:Int)<=x.1.pg.lsn) with
 | false=>rw[hq,cond_false] at hE;simp only[RS,hq];exact hjj _ _ ⟨rfl,s,h2,rfl,eU hF2,hE⟩
 | true=>
  rw[hq,cond_true] at hE;have hfd2:=Fm.drew (λ_=>False) w2;simp only[RS,hq,h2.hP.c1,h2.hP.f0 hi,true_and];refine((h2.aS hfd2).flush x.1.pg.lsn).mono ?_;rintro _ w3 ⟨rfl,h3,hF3⟩;have hF3':=cj (eU (Fmf hF2 hfd2)) hF3;simp only[RS,aG];cases hz:decide ((s.l.flush x.1.pg.lsn s.d).2.2=0) with
  | false=>rw[hz,cond_false] at hE;simp only[RS];rw[hE];exact⟨rfl,⟨F,h3⟩,hF3'⟩
  | true=>rw[hz,cond_true] at hE;simp only[RS];refine h3.synced.mono ?_;rintro _ w4 ⟨h4,hF4⟩;exact hjj _ _ ⟨rfl,_,h4,rfl,cj hF3' hF4,hE⟩
end
abbrev nlv:Value:=.slice none 0 0
theorem Ew(w:World):(Instr.build 283 #[(1,iv (-1))]).run prog w=.ok (.agg (frC (pf0,nlv)).toArray) w:=by kernel_rfl
theorem Ey(p:Pg)(a:Option Addr)(j c:Nat)(n:Int)(w:World):(Instr.build 283 #[(0,.agg (pcs p (.slice a j c))),(1,iv n)]).run prog w=.ok (.agg (frC (⟨p,n,false⟩,.slice a j c)).toArray) w:=by kernel_rfl
theorem Ez(p:Pg)(a:Option Addr)(j c:Nat)(n:Int)(w:World):(Instr.build 283 #[(0,.agg (pcs p (.slice a j c))),(1,iv n),(2,.bool true)]).run prog w=.ok (.agg (frC (⟨p,n,true⟩,.slice a j c)).toArray) w:=by kernel_rfl
theorem Cy{x:PV}(h:x.2.oneCell'=true):∀u∈(frC x).toArray.toList,u.oneCell'=true:=by intro u hu;simp[frC] at hu;rcases hu with rfl|rfl|rfl|rfl|rfl|rfl|rfl|rfl<;>first|rfl|assumption
theorem PgAs.sl{w:World}{cs:Array Value}{p:Pg}(h:PgAs w cs p):∃a j c,cs=pcs p (.slice a j c):=by obtain⟨v,h1,_,h3⟩:=h.ex;obtain⟨a,j,c,rfl⟩:=aZ h3;exact⟨a,j,c,h1⟩
theorem yk(s:PS)(i:Nat):(s.put i).1.p.fr.length=s.p.fr.length/\(s.put i).1.p.pages=s.p.pages/\(s.put i).1.p.frm=s.p.frm:=by
 unfold PS.put;cases decide ((pEnc (s.p.get i).pg).2=0) with
 | false=>exact⟨rfl,rfl,rfl⟩
 | true=>
  cases decide ((s.putW i).2=0) with
  | false=>exact⟨rfl,rfl,rfl⟩
  | true=>exact⟨Pl.lay_len _ _ _,rfl,rfl⟩
theorem mQ(s:PS)(i:Nat):(s.write1 i).1.p.fr.length=s.p.fr.length/\(s.write1 i).1.p.pages=s.p.pages/\(s.write1 i).1.p.frm=s.p.frm:=by
 unfold PS.write1;cases decide ((s.l.last:Int)<=(s.p.get i).pg.lsn) with
 | false=>exact yk s i
 | true=>
  cases decide ((s.flu i).2.2=0) with
  | false=>exact⟨rfl,rfl,rfl⟩
  | true=>exact yk _ i
theorem tn(s:PS)(pick:Int):(s.take pick).1.p.pages=s.p.pages/\(s.take pick).1.p.frm=s.p.frm:=by
 unfold PS.take;cases s.p.hold (-1) with
 | some i=>exact⟨rfl,rfl⟩
 | none=>
  have:=mQ s (PS.pickAt s.p.fr.length pick);simp only;cases(s.p.get (PS.pickAt s.p.fr.length pick)).chg with
  | false=>exact⟨rfl,rfl⟩
  | true=>
   cases decide ((s.write1 (PS.pickAt s.p.fr.length pick)).2=0) with
   | false=>exact this.2
   | true=>exact this.2
section
variable{w w':World}{Xl Xp Q S:Nat->Prop}{pb lb db g m fb ob:Nat}{F:List PV}{s:PS}
theorem mX{X:Nat->Prop}{p:Pl}(h:PIn w X Q pb lb db fb ob F p){i:Nat}(hi:i<F.length)(x:PV)(h1:x.2.oneCell'=true){k:KV}(hk:∀w',w'.heap[fb]?=some (.cells ((F.set i x).flatMap frC).toArray 283)->w'.heap.size=w.heap.size->Fm (·=fb) w w'->k undef w'):
  St 8 w (.pointer (some ⟨fb,i*8,none⟩)) (.agg (frC x).toArray) k:=by
 refine ck h.fr rfl (by rw[List.size_toArray,flat_len cY];omega) (Cy h1) ?_;intro w' hw' hs' hf';rw[uy _ _ _ (by rw[List.size_toArray,flat_len cY];show i*8+8<=_;omega)] at hw';refine hk w' ?_ hs' hf';rw[hw',iR cY F i x hi]
 rfl
theorem SI.lay(h:SI w Xl Xp Q pb lb db g m fb ob F s){Q':Nat->Prop}{i:Nat}{x:PV}(hf:Fm S w w')(hS:∀y,S y->y=fb\/¬SY Xl Xp db g m y)(hfr:w'.heap[fb]?=some (.cells ((F.set i x).flatMap frC).toArray 283))(hx:HeldP w' Q' x.2 x.1.pg)
  (hQ:∀y,Q y->Q' y) (hQ':∀y,Q' y->Q y\/(¬SY Xl Xp db g m y/\y<w'.heap.size)) (hn:x.1.num = -1\/(0<=x.1.num/\x.1.num<(s.p.pages:Int))):SI w' Xl (λy=>Xp y\/Q' y) Q' pb lb db g m fb ob (F.set i x) (s.lay i x.1):=by
 have hfb:=h.hP.xs.2.1;have hno:∀y,SY Xl Xp db g m y->y≠fb->¬S y:=λy hy hne e=>by
  rcases hS y e with e|e
  ·exact hne e
  ·exact e hy
 have hnq:∀y,¬Xp y->SY Xl Xp db g m y->¬Q' y:=λy h1 h2 e=>by
  rcases hQ' y e with e|e
  ·exact h1 (h.hP.xs.2.2.2 y e)
  ·exact e.1 h2
 refine⟨h.hL.keep hf (λy hy=>hno y (.inl hy) (by rintro rfl;exact h.lp _ hy hfb)),h.hD.keep hf (hno _ (.inr (.inr (.inl rfl))) (by rintro rfl;exact h.pd.1 hfb)) (hno _ (.inr (.inr (.inr (.inl rfl)))) (by rintro rfl;exact h.pd.2.1 hfb)) (hno _ (.inr (.inr (.inr (.inr rfl)))) (by rintro rfl;exact h.pd.2.2 hfb)),h.hP.put hf (λy hy=>?_) hfr hx hQ (λy hy=>?_),h.wf.lay hn,?_,h.ld,?_⟩
 ·rcases hS y hy with e|e
  ·exact .inl e
  ·exact .inr (λhx=>e (.inr (.inl hx)))
 ·rcases hQ' y hy with e|e
  ·exact .inl e
  ·exact .inr ⟨λhx=>e.1 (.inr (.inl hx)),e.2⟩
 ·rintro y hy (e|e)
  ·exact h.lp y hy e
  ·exact hnq y (h.lp y hy) (.inl hy) e
 ·refine⟨?_,?_,?_⟩<;>rintro(e|e)
  ·exact h.pd.1 e
  ·exact hnq _ h.pd.1 (.inr (.inr (.inl rfl))) e
  ·exact h.pd.2.1 e
  ·exact hnq _ h.pd.2.1 (.inr (.inr (.inr (.inl rfl)))) e
  ·exact h.pd.2.2 e
  ·exact hnq _ h.pd.2.2 (.inr (.inr (.inr (.inr rfl)))) e
theorem SI.same(h:SI w Xl Xp Q pb lb db g m fb ob F s):(λy=>Xp y\/Q y)=Xp:=by funext y;exact propext ⟨λe=>e.elim id (h.hP.xs.2.2.2 y),.inl⟩
theorem mC(h:SI w Xl Xp Q pb lb db g m fb ob F s)(pick:Int):Cl prog 283 [pv pb,iv pick] w λv w'=>∃F',SI w' Xl Xp Q pb lb db g m fb ob F' (s.take pick).1/\Fm (SY Xl Xp db g m) w w' /\
  (((s.take pick).2.2≠0/\v=.tuple #[.pointer none,iv (s.take pick).2.2])\/((s.take pick).2.2=0/\v=.tuple #[.pointer (some ⟨fb,(s.take pick).2.1*8,none⟩),iv 0]/\(s.take pick).2.1<F'.length)):=by
 have hfl:=h.rW;have hlen:=h.hP.len;refine c283 ?_;refine(dy h.hP hfl.2 (-1)).mono ?_;rintro _ w2 ⟨rfl,rfl⟩;unfold PS.take;cases hh:s.p.hold (-1) with
 | some i=>obtain⟨f,hf,_⟩:=Pl.hold_some hh;have:=(List.getElem?_eq_some_iff.1 hf).1;simp only[kA];simp only[RS];exact⟨F,h,Fm.refl _ _,.inr ⟨(by trivial),(by trivial),by omega⟩⟩
 | none=>
  simp only[kA];obtain⟨m1,m2,m3,m4⟩:=Ih (TypeDesc.int .i64) (n:=F.length) (by omega) (by omega) pick;have hpk:PS.pickAt s.p.fr.length pick=gb F.length pick:=by unfold PS.pickAt;rw[hlen]
  rw[hpk];generalize gb F.length pick=i at m3 m4;have hx:F[i]?=some F[i]:=List.getElem?_eq_getElem m4;generalize F[i]=x at hx;rw[(h.hP.tT hx).2];have hfd:=Fm.drew (λ_=>False) w2;simp only[RS,h.hP.c4,true_and,m1,m2,m3,PIn.ix i m4 fb];refine aJ (λvs w'=>vs=[]/\∃F1 s1,F1.length=F.length/\SI w' Xl Xp Q pb lb db g m fb ob F1 s1/\Fm (SY Xl Xp db g m) w2 w'/\(bif x.1.chg then(bif decide ((s.write1 i).2=0) then((s.write1 i).1.lay i pf0,i,0) else((s.write1 i).1,0,(s.write1 i).2)) else(s.lay i pf0,i,0))=(s1.lay i pf0,i,0)) ?_ ?_
  ·rintro _ w4 ⟨rfl,F1,s1,hl1,h4,hF4,he⟩ _;refine⟨rfl,?_⟩;rw[he];refine ag (Ew _) ?_;simp only[RS];refine mX h4.hP (i:=i) (by omega) (pf0,nlv) rfl ?_;intro w5 hw5 hs5 hf5;have h5:=h4.lay (x:=(pf0,nlv)) hf5 (λy e=>.inl e) hw5 (HeldP.zero _ _) (λ_ e=>e) (λy e=>.inl e) (.inl rfl);rw[h4.same] at h5;exact⟨_,h5,cj hF4 (hf5.mono (by rintro y _ rfl;exact .inr (.inl h4.hP.xs.2.1))),.inr ⟨(by trivial),(by trivial),by rw[List.length_set];omega⟩⟩
  intro jj hjj;have hd:=h.aS hfd;simp only[RS,h.hP.f7 hx];cases hc:x.1.chg with
  | false=>rw[hc,cond_false] at hjj;simp only[RS];exact hjj _ _ ⟨rfl,F,s,rfl,hd,eU hfd,rfl⟩
  | true=>
   rw[hc,cond_true] at hjj;simp only[cond_true];simp only[RS];refine(jo hd hx).mono ?_;rintro _ w3 ⟨rfl,⟨F',h3⟩,hF3⟩;have hF3':=cj (eU hfd) hF3;simp only[RS,aG];cases hq:decide ((s.write1 i).2=0) with
   | true=>rw[hq,cond_true] at hjj;simp only[RS];exact hjj _ _ ⟨rfl,F',(s.write1 i).1,by rw[h3.hP.len,(mQ s i).1,hlen],h3,hF3',rfl⟩
   | false=>rw[decide_eq_false_iff_not] at hq;simp only[RS,cond_false];exact⟨F',h3,hF3',.inl ⟨hq,(by trivial)⟩⟩
theorem CY{d:Dk}(h:d.Wf)(a k:Int):(d.read a k).1.length<=64*65536:=by
 unfold Dk.read;cases d.gone with
 | true=>simp
 | false=>
  cases d.has a k with
  | false=>simp
  | true=>simp only[cond_false,Bool.not_true];rw[Dk.flat_len (λx hx=>h.s1 x (List.mem_of_mem_drop (List.mem_of_mem_take hx))),List.length_take,List.length_drop];have:=h.n1;omega
theorem kF{p:Pl}{n:Int}(h:p.known n=0):0<=n/\n<(p.pages:Int):=by
 unfold Pl.known at h;cases h1:decide (n<0) with
 | true=>rw[h1] at h;cases h
 | false=>
  cases h2:decide ((p.pages:Int)<=n) with
  | true=>rw[h1,h2] at h;cases h
  | false=>rw[decide_eq_false_iff_not] at h1 h2;omega
theorem Fj{w:World}{g:Nat}{cs:Array Value}{u:Value}(h:w.heap[g]?=some (.cells cs 68))(hn:cs.size=6){k:KV}(hk:k (.tuple #[.agg cs,u]) w):ch (bO prog (λj=>bif Nat.beq j 6 then pv g else bif Nat.beq j 7 then u else undef) w [(ResultVar.cell 6 68),(ResultVar.tmp 7)]) w k:=Db (g:=g) (i:=6) (j:=7) (u:=u) h hn rfl rfl k hk
theorem iZ{p:Pg}{v u:Value}(h:pcs p v=pcs p u):v=u:=by
 have e:(pcs p v).toList=(pcs p u).toList:=by rw[h]
 simpa[pcs] using e
theorem rj(h:SI w Xl Xp Q pb lb db g m fb ob F s)(n pick:Int):Cl prog 199 [pv pb,iv n,iv pick] w λv w'=>∃u,v=.tuple #[.agg (pcs (s.fetch n pick).2.1 u),iv (s.fetch n pick).2.2]/\PgOw w' w.heap.size (pcs (s.fetch n pick).2.1 u) (s.fetch n pick).2.1 /\
  (∃Xp' Q' F',SI w' Xl Xp' Q' pb lb db g m fb ob F' (s.fetch n pick).1/\(∀y,Xp' y->Xp y\/w.heap.size<=y)/\∀k,u.ownBlock=some k->¬Xp' k)/\Fm (SY Xl Xp db g m) w w':=by
 have hfl:=h.rW;have hlt:=h.lt;have hfetch:s.fetch n pick=bif decide (s.p.known n=0) then(match s.p.hold n with
  | some i=>(s,(s.p.get i).pg,0)
  | none=>bif decide ((s.raw n).2=0) then(bif decide ((dK (s.raw n).1).2=0) then(bif decide ((s.take pick).2.2=0) then((s.take pick).1.lay (s.take pick).2.1 ⟨(dK (s.raw n).1).1,n,false⟩,(dK (s.raw n).1).1,0) else((s.take pick).1,pg0,(s.take pick).2.2)) else(s,pg0,60)) else(s,pg0,(s.raw n).2))
  else(s,pg0,s.p.known n):=rfl
 refine c199 ?_;rw[pF];refine ae ?_;intro x1 w1 hx1 hs1 hw1 hf1;have h1:=h.aS hf1;have bad:∀{w2:World} {Xp' Q' F'} {s':PS},SI w2 Xl Xp' Q' pb lb db g m fb ob F' s'->(∀y,Xp' y->Xp y\/w.heap.size<=y)->w2.heap[x1]?=some (.cells (pcs pg0 nlv) 68)->¬SY Xl Xp' db g m x1->Fm (SY Xl Xp db g m) w w2->∀e:Int,s.fetch n pick=(s',pg0,e) ->
   St 6 w2 (pv x1) (.agg (pcs pg0 nlv)) λu_8 w_9=>ch (bO prog (λj=>bif Nat.beq j 6 then pv x1 else bif Nat.beq j 7 then iv e else undef) w_9 [(ResultVar.cell 6 68),(ResultVar.tmp 7)]) w_9 (λv w'=>∃u,v=.tuple #[.agg (pcs (s.fetch n pick).2.1 u),iv (s.fetch n pick).2.2]/\PgOw w' w.heap.size (pcs (s.fetch n pick).2.1 u) (s.fetch n pick).2.1 /\
  (∃Xp' Q' F',SI w' Xl Xp' Q' pb lb db g m fb ob F' (s.fetch n pick).1/\(∀y,Xp' y->Xp y\/w.heap.size<=y)/\∀k,u.ownBlock=some k->¬Xp' k)/\Fm (SY Xl Xp db g m) w w'):=by
  intro w2 Xp' Q' F' s' h2 hX hw2 hno hF e he;rw[he];refine ao hw2 rfl rfl (bC rfl) ?_;intro w3 hw3 hs3 hf3;refine Fj hw3 rfl ⟨nlv,rfl,PgOw.zero _ _,⟨Xp',Q',F',h2.keep hf3 (by rintro y hy rfl;exact hno hy),hX,λk hk=>by cases hk⟩,hF.trans hf3 iT (by rintro y hy rfl;omega)⟩
 have good:∀{w2:World} {Xp' Q' F'} {s':PS} {i:Nat} {x:PV},SI w2 Xl Xp' Q' pb lb db g m fb ob F' s'->(∀y,Xp' y->Xp y\/w.heap.size<=y)->w2.heap[x1]?=some (.cells (pcs pg0 nlv) 68)->¬SY Xl Xp' db g m x1->Fm (SY Xl Xp db g m) w w2->F'[i]?=some x->s.fetch n pick=(s',x.1.pg,0) ->
   Cl prog 281 [.pointer (some ⟨fb,i*8,none⟩)] w2 λt71 w_66=>St 6 w_66 (pv x1) t71 λu_8 w_9=>ch (bO prog (λj=>bif Nat.beq j 6 then pv x1 else bif Nat.beq j 7 then iv 0 else undef) w_9 [(ResultVar.cell 6 68),(ResultVar.tmp 7)]) w_9 (λv w'=>∃u,v=.tuple #[.agg (pcs (s.fetch n pick).2.1 u),iv (s.fetch n pick).2.2]/\PgOw w' w.heap.size (pcs (s.fetch n pick).2.1 u) (s.fetch n pick).2.1 /\
  (∃Xp' Q' F',SI w' Xl Xp' Q' pb lb db g m fb ob F' (s.fetch n pick).1/\(∀y,Xp' y->Xp y\/w.heap.size<=y)/\∀k,u.ownBlock=some k->¬Xp' k)/\Fm (SY Xl Xp db g m) w w'):=by
  intro w2 Xp' Q' F' s' i x h2 hX hw2 hno hF hx he;rw[he];refine(rk h2.hP hx).mono ?_;rintro _ w3 ⟨cs,rfl,ho,hf3⟩;obtain⟨u,rfl,hou⟩:=ho.ex;have hul:=aO hou;have h3:=h2.aS hf3;have z2:=hF.size;have hx1l:=aj hw2;refine ao (hf3.heap hw2 id) rfl rfl (bC (aB hou)) ?_;intro w4 hw4 hs4 hf4;refine Fj hw4 rfl ⟨u,rfl,⟨⟨u,rfl,aU (ah hou hf4 (λk hk _ _ e=>by omega)) z2⟩,ho.small,ho.ins⟩,⟨Xp',Q',F',h3.keep hf4 (by rintro y hy rfl;exact hno hy),hX,λk hk e=>?_⟩,(cj hF (eU hf3)).trans hf4 iT (by rintro y hy rfl;omega)⟩;have:=(hul k hk).1;have:=h2.lt k (.inr (.inl e));omega
 have hnx:¬SY Xl Xp db g m x1:=λe=>by have:=hlt _ e;omega
 refine(gF h1.hP n).mono ?_;rintro _ w1 ⟨rfl,rfl⟩;simp only[RS,aG];cases hk:decide (s.p.known n=0) with
 | false=>rw[hk,cond_false] at hfetch;simp only[RS];refine ag (gR _) ?_;exact bad h1 (λy e=>.inl e) hw1 hnx (eU hf1) _ hfetch
 | true=>
  rw[hk,cond_true] at hfetch;rw[decide_eq_true_eq] at hk;have hrange:=kF hk;have hpg:=h.wf.pg;simp only[RS];refine(dy h1.hP hfl.2 n).mono ?_;rintro _ w1 ⟨rfl,rfl⟩;cases hh:s.p.hold n with
  | some i=>rw[hh] at hfetch;obtain⟨f,hf,_⟩:=Pl.hold_some hh;rw[<- h.hP.fs,List.getElem?_map,Option.map_eq_some_iff] at hf;obtain⟨x,hx,rfl⟩:=hf;simp only[(h.hP.tT hx).2] at hfetch;simp only[kA];simp only[RS];exact good h1 (λy e=>.inl e) hw1 hnx (eU hf1) hx hfetch
  | none=>
   rw[hh] at hfetch;simp only at hfetch;simp only[kA];have hfd:=Fm.drew (λ_=>False) w1;have e1:IntKind.i64.wrap (8*n)=8*n:=by rw[af];omega
   have e2:IntKind.i64.wrap ((s.p.frm:Int)+8*n)=(s.p.frm:Int)+8*n:=by rw[af];omega
   have h2:=h1.aS hfd;have hw2:=hfd.heap hw1 id;have hF2:=Fmf hf1 hfd;have hle:=CY h.hD.wf ((s.p.frm:Int)+8*n) 8;have hraw:s.raw n=s.d.read ((s.p.frm:Int)+8*n) 8:=rfl;simp only[RS,h1.hP.c0,h1.hP.c2,true_and,e1,e2];refine(fN h2.hD ((s.p.frm:Int)+8*n) 8).mono ?_;rintro _ w2 ⟨rfl,rfl⟩;rw[<- hraw] at hle ⊢;generalize s.raw n=r at hfetch hle;obtain⟨rs,re⟩:=r;simp only at hfetch hle;simp only[RS,aG];cases hr:decide (re=0) with
   | false=>rw[hr,cond_false] at hfetch;simp only[RS];refine ag (gR _) ?_;exact bad h2 (λy e=>.inl e) hw2 hnx (eU hF2) _ hfetch
   | true=>
    rw[hr,cond_true] at hfetch;simp only[RS];refine(kg _ rs (by omega)).mono ?_;rintro _ w3 ⟨cs,rfl,ho3,hf3⟩;generalize dK rs=pd at hfetch ho3;obtain⟨pg,pe⟩:=pd;simp only at hfetch ho3;obtain⟨v3,rfl,hou3⟩:=ho3.ex;obtain⟨a3,j3,c3,rfl⟩:=aZ (CellsAt.aT hou3);have hF3:=Fmf hF2 hf3;have h3:=h2.aS hf3;have hw3:=hf3.heap hw2 id;simp only[RS];refine ae ?_;intro x4 w4 hx4 hs4 hw4 hf4;refine ao hw4 rfl rfl (bC rfl) ?_;intro w5 hw5 hs5 hf5;have hF5:Fm (λ_=>False) w3 w5:=Fm.own hf4 hf5 (by rintro y rfl;omega);have hF05:=Fmf hF3 hF5;have h5:=h3.aS hF5;have hw15:=hF5.heap hw3 id;have ho5:=ho3.keep hF5;have hul3:=aO hou3;have z1:=hf1.size;have z2:=hF2.size;have z3:=hF3.size;have z5:=hF05.size;simp only[RS,aG];cases hp:decide (pe=0) with
    | false=>rw[hp,cond_false] at hfetch;simp only[RS];refine ag (gR _) ?_;exact bad h5 (λy e=>.inl e) hw15 hnx (eU hF05) _ hfetch
    | true=>
     rw[hp,cond_true] at hfetch;simp only[RS];refine(mC h5 pick).mono ?_;rintro _ w6 ⟨F6,h6,hF6,hcase⟩;have hw16:=hF6.heap hw15 hnx;have hF06:=cj (eU hF05) hF6;have z6:=hF6.size;rcases hcase with⟨q1,rfl⟩|⟨q1,rfl,q2⟩
     ·rw[decide_eq_false q1,cond_false] at hfetch;simp only[RS,aG,decide_eq_false q1];refine ag (gR _) ?_;exact bad h6 (λy e=>.inl e) hw16 hnx hF06 _ hfetch
     ·rw[q1,decide_eq_true rfl,cond_true] at hfetch;have hnx4:¬SY Xl Xp db g m x4:=λe=>by have:=hlt _ e;omega
      have hw46:=hF6.heap hw5 hnx4;simp only[RS,aG,decide_true,aa hw46 (show(pcs pg (Value.slice a3 j3 c3)).size=6 from rfl)];refine ag (Ey _ _ _ _ _ _) ?_
      try simp only[RS]
      have hdis:∀k,(Value.slice a3 j3 c3).ownBlock=some k->¬SY Xl Xp db g m k:=λk hk e=>by have:=hlt _ e;have:=(hul3 k hk).1;have:=hF2.size;have:w1.drew.heap.size=w1.heap.size:=rfl;omega
      refine mX h6.hP q2 (⟨pg,n,false⟩,.slice a3 j3 c3) rfl ?_;intro w7 hw7 hs7 hf7;have hfb:fb≠x1:=λe=>hnx (by rw[<- e];exact .inr (.inl h6.hP.xs.2.1));have ho6:w6.ownsRow w.heap.size 9 1 (.slice a3 j3 c3) pg.items.length (pg.items.map stv):=by obtain⟨v5,e5,ho5'⟩:=ho5.ex;rw[<- iZ e5] at ho5';exact aU (ah ho5' hF6 (λk _ _ hk=>hdis k hk)) z2
      have ho7:w7.ownsRow w.heap.size 9 1 (.slice a3 j3 c3) pg.items.length (pg.items.map stv):=ah ho6 hf7 (λk _ _ hk e=>hdis k hk (by rw[e];exact .inr (.inl h6.hP.xs.2.1)));have hheld:HeldP w7 (λy=>Q y\/(Value.slice a3 j3 c3).ownBlock=some y) (.slice a3 j3 c3) pg:=HeldP.aT (b:=w.heap.size) ⟨⟨_,rfl,ho7⟩,ho3.small,ho3.ins⟩ (λy hy=>.inr hy);have h7:=h6.lay (x:=(⟨pg,n,false⟩,.slice a3 j3 c3)) hf7 (λy e=>.inl e) hw7 hheld (λy e=>.inl e) (λy e=>by
       rcases e with e|e
       ·exact .inl e
       ·exact .inr ⟨hdis y e,(aO ho7 y e).2⟩) (.inr ⟨hrange.1,by rw[(tn s pick).1];exact hrange.2⟩)
      refine good h7 (λy e=>?_) (hf7.heap hw16 (λe=>hfb e.symm)) (λe=>?_) (hF06.trans hf7 iT (by rintro y _ rfl;exact .inr (.inl h6.hP.xs.2.1))) (i:=(s.take pick).2.1) (x:=(⟨pg,n,false⟩,.slice a3 j3 c3)) (by rw[List.getElem?_set,if_pos rfl,if_pos q2]) hfetch
      ·rcases e with e|e|e
       ·exact .inl e
       ·exact .inl (h6.hP.xs.2.2.2 y e)
       ·exact .inr (aO ho7 y e).1
      ·rcases e with e|(e|e|e)|e
       ·exact hnx (.inl e)
       ·exact hnx (.inr (.inl e))
       ·exact hnx (.inr (.inl (h6.hP.xs.2.2.2 _ e)))
       ·have:=(hul3 _ e).1;have:w1.drew.heap.size=w1.heap.size:=rfl;omega
       ·exact hnx (.inr (.inr e))
theorem yg(h:SI w Xl Xp Q pb lb db g m fb ob F s){cs:Array Value}{b:Pg}(hb:∀w',Fm (SY Xl Xp db g m) w w'->PgAs w' cs b)(n pick:Int):Cl prog 233 [pv pb,iv n,.agg cs,iv pick] w λv w'=>v=iv (s.set n b pick).2 /\
  (∃Xp' Q' F',SI w' Xl Xp' Q' pb lb db g m fb ob F' (s.set n b pick).1/\∀y,Xp' y->Xp y\/w.heap.size<=y)/\Fm (SY Xl Xp db g m) w w':=by
 have hfl:=h.rW;have hlt:=h.lt;obtain⟨a0,j0,c0,hcs⟩:=(hb w (Fm.refl _ _)).sl;subst hcs;have hset:s.set n b pick=bif decide (s.p.known n=0) then(bif decide ((pEnc b).2=0) then(bif decide (b.lsn<1) then(s,1) else(match s.p.hold n with
   | some i=>(s.own i n b,0)
   | none=>bif decide ((s.take pick).2.2=0) then((s.take pick).1.own (s.take pick).2.1 n b,0) else((s.take pick).1,(s.take pick).2.2))) else(s,(pEnc b).2)) else(s,s.p.known n):=rfl
 refine c233 ?_;refine ae ?_;intro x1 w1 hx1 hs1 hw1 hf1;have h1:=h.aS hf1;have hnx:¬SY Xl Xp db g m x1:=λe=>by have:=hlt _ e;omega
 have same:∀{w2:World} {s':PS} {F':List PV} {e:Int},SI w2 Xl Xp Q pb lb db g m fb ob F' s'->Fm (SY Xl Xp db g m) w w2->s.set n b pick=(s',e)->iv e=iv (s.set n b pick).2/\(∃Xp' Q' F',SI w2 Xl Xp' Q' pb lb db g m fb ob F' (s.set n b pick).1/\∀y,Xp' y->Xp y\/w.heap.size<=y)/\Fm (SY Xl Xp db g m) w w2:=by intro w2 s' F' e h2 hF he;rw[he];exact⟨rfl,⟨Xp,Q,F',h2,λy e=>.inl e⟩,hF⟩
 refine(gF h1.hP n).mono ?_;rintro _ w1 ⟨rfl,rfl⟩;simp only[RS,aG];cases hk:decide (s.p.known n=0) with
 | false=>rw[hk,cond_false] at hset;simp only[RS];exact same h1 (eU hf1) hset
 | true=>
 rw[hk,cond_true] at hset;rw[decide_eq_true_eq] at hk;have hrange:=kF hk;have hpg:=h.wf.pg;have hb1:=hb w1 (eU hf1);simp only[RS,aa hw1 (show(Value.cells (Value.agg (pcs b (Value.slice a0 j0 c0)))).size=6 from rfl)];refine(cI hb1).mono ?_;rintro _ w2 ⟨rfl,hf2⟩;rw[xb];have h2:=h1.aS hf2;have hF2:=Fmf hf1 hf2;have hw2:=hf2.heap hw1 id;have c0':w2.cell? ⟨x1,0,none⟩=some (iv b.lsn):=by rw[ab hw2];rfl
 simp only[RS,aG];cases he:decide ((pEnc b).2=0) with
 | false=>rw[he,cond_false] at hset;simp only[RS];exact same h2 (eU hF2) hset
 | true=>
 rw[he,cond_true] at hset;simp only[RS,c0'];cases hl:decide (b.lsn<1) with
 | true=>rw[hl,cond_true] at hset;simp only[RS];exact same h2 (eU hF2) hset
 | false=>
 rw[hl,cond_false] at hset;simp only[RS];refine(dy h2.hP hfl.2 n).mono ?_;rintro _ w2 ⟨rfl,rfl⟩;refine aJ (λvs w'=>∃(i:Nat) (s1:PS) (F1:List PV),vs=[.pointer (some ⟨fb,i*8,none⟩)]/\i<F1.length/\SI w' Xl Xp Q pb lb db g m fb ob F1 s1/\s1.p.pages=s.p.pages/\Fm (SY Xl Xp db g m) w w'/\w'.heap[x1]?=some (.cells (pcs b (.slice a0 j0 c0)) 68)/\s.set n b pick=(s1.own i n b,0)) ?_ ?_
 ·rintro _ w3 ⟨i,s1,F1,rfl,hi,h3,hpgs,hF3,hw3,he3⟩ _;refine⟨_,rfl,?_⟩;rw[he3];clear hset same;have hb3:=hb w3 hF3;simp only[RS,aa hw3 (show(pcs b (Value.slice a0 j0 c0)).size=6 from rfl)];refine ag (Ez _ _ _ _ _ _) ?_
  try simp only[RS]
  refine mX h3.hP hi (⟨b,n,true⟩,.slice a0 j0 c0) rfl ?_;intro w4 hw4 hs4 hf4;have hfbx:fb≠x1:=λe=>hnx (by rw[<- e];exact .inr (.inl h3.hP.xs.2.1));have hw14:=hf4.heap hw3 (λe=>hfbx e.symm);have c5:w4.cell? ⟨x1,5,none⟩=some (.slice a0 j0 c0):=by rw[ab hw14];rfl
  have hfbY:∀y,y=fb->SY Xl Xp db g m y:=by rintro y rfl;exact .inr (.inl h3.hP.xs.2.1)
  have hF4:Fm (SY Xl Xp db g m) w w4:=hF3.trans hf4 iT (λy _ e=>hfbY y e);have hb4:=hb w4 hF4;obtain⟨v0,hv0,v1,v2⟩:=hb4.ex;obtain rfl:=iZ hv0;simp only[RS,c5];refine(dj v2 hb4.ins.2.2.2.2.2).mono ?_;rintro r w5 ⟨ho5,hf5⟩;have hr1:=aB ho5;have hrl:=aO ho5
  try simp only[RS]
  refine au (hf5.heap hw4 id) (j:=i*8+5) (by rw[List.size_toArray,flat_len cY,List.length_set];omega) hr1 ?_;intro w6 hw6 hs6 hf6;have hx':(F1.set i ((⟨b,n,true⟩,.slice a0 j0 c0):PV))[i]?=some ((⟨b,n,true⟩,.slice a0 j0 c0):PV):=by rw[List.getElem?_set,if_pos rfl,if_pos hi]
  have hset1:=gZ cY (y:=((⟨b,n,true⟩,r):PV)) (u:=r) hx' (j:=5) (by omega) rfl;rw[List.setIfInBounds_toArray,<- hset1,List.set_set] at hw6;have hf36:Fm (λy=>y=fb) w3 w6:=(hf4.trans hf5 iT iE).trans hf6 iT iT;have hF6:Fm (SY Xl Xp db g m) w w6:=hF3.trans hf36 iT (λy _ e=>hfbY y e);have z3:=hF3.size;have z4:=hf4.size;have z5:=hf5.size;have hlt3:=h3.lt;have hfb3:=hlt3 fb (hfbY fb rfl);have hrn:∀k,r.ownBlock=some k->¬SY Xl Xp db g m k:=λk hk e=>by have:=hlt3 k e;have:=(hrl k hk).1;omega
  have ho6:w6.ownsRow w4.heap.size 9 1 r b.items.length (b.items.map stv):=ah ho5 hf6 (λk hk _ _ e=>by omega);have hheld:HeldP w6 (λy=>Q y\/r.ownBlock=some y) r b:=HeldP.aT (b:=w4.heap.size) ⟨⟨_,rfl,ho6⟩,hb4.small,hb4.ins⟩ (λy hy=>.inr hy);have h6:=h3.lay (x:=(⟨b,n,true⟩,r)) hf36 (λy e=>.inl e) hw6 hheld (λy e=>.inl e) (λy e=>by
   rcases e with e|e
   ·exact .inl e
   ·exact .inr ⟨hrn y e,(aO ho6 y e).2⟩) (.inr ⟨hrange.1,by rw[hpgs];exact hrange.2⟩)
  have hXp:∀y,(Xp y\/(Q y\/r.ownBlock=some y))->Xp y\/w.heap.size<=y:=λy e=>by
   rcases e with e|e|e
   ·exact .inl e
   ·exact .inl (h3.hP.xs.2.2.2 y e)
   ·have:=(hrl y e).1;exact .inr (by omega)
  have hown:s1.own i n b=⟨{ s1.p.lay i ⟨b,n,true⟩ with owed:=bif (getD s1.p.owed n).isNone then cO s1.p.owed n b.lsn else s1.p.owed },s1.l,s1.d⟩:=rfl;have hw16:=hf6.heap (hf5.heap hw14 id) (λe=>hfbx e.symm);have c06:w6.cell? ⟨x1,0,none⟩=some (iv b.lsn):=by rw[ab hw16];rfl
  refine aJ (λvs w'=>vs=[]/\SI w' Xl (λy=>Xp y\/(Q y\/r.ownBlock=some y)) (λy=>Q y\/r.ownBlock=some y) pb lb db g m fb ob (F1.set i (⟨b,n,true⟩,r)) (s1.own i n b)/\Fm (SY Xl Xp db g m) w w') ?_ ?_
  ·rintro _ w7 ⟨rfl,h7,hF7⟩ _;exact⟨rfl,(by trivial),⟨_,_,_,h7,hXp⟩,hF7⟩
  intro jj hjj;refine(mB h6.hP n).mono ?_;rintro _ w6 ⟨rfl,rfl⟩;have hpo:(s1.lay i ⟨b,n,true⟩).p.owed=s1.p.owed:=rfl;rw[hpo];cases hq:(getD s1.p.owed n).isNone with
  | false=>simp only[RS,Bool.not_false,Bool.not_true];refine hjj _ _ ⟨rfl,?_,hF6⟩;rw[hown,hq,cond_false];exact h6
  | true=>have hfd:=Fm.drew (λ_=>False) w6;have h7:=h6.aS hfd;have hF7:=cj hF6 (eU hfd);simp only[RS,Bool.not_false,Bool.not_true,h6.hP.c5,c06,true_and];obtain⟨w8,hr8,hm8,hf8,hs8⟩:=bk FK h7.hP.mp n b.lsn;refine cB hr8 ?_;have hobX:=h7.hP.xs.2.2.1;have hne:∀y,(Xp y\/(Q y\/r.ownBlock=some y))->y≠ob->¬y=ob:=λy _ e=>e;refine hjj _ _ ⟨rfl,?_,hF7.trans hf8 iT (by rintro y _ rfl;exact .inr (.inl h3.hP.xs.2.2.1))⟩;rw[hown,hq,cond_true];refine⟨h7.hL.keep hf8 (by rintro y hy rfl;exact h7.lp _ hy hobX),h7.hD.keep hf8 (by rintro rfl;exact h7.pd.1 hobX) (by rintro rfl;exact h7.pd.2.1 hobX) (by rintro rfl;exact h7.pd.2.2 hobX),⟨hf8.heap h7.hP.st h7.hP.po,hf8.heap h7.hP.fr h7.hP.fo,hm8,h7.hP.fs,λx hx=>(h7.hP.it x hx).keep hf8 (by rintro y hy rfl;exact h7.hP.qs.2.2 hy),h7.hP.xs,h7.hP.qs,λy hy=>Nat.lt_of_lt_of_le (h7.hP.lt y hy) hf8.size⟩,h7.wf.y7 rfl rfl rfl,h7.lp,h7.ld,h7.pd⟩
 intro jj hjj;have hF2':Fm (SY Xl Xp db g m) w w2:=eU hF2;cases hh:s.p.hold n with
 | some i=>rw[hh] at hset;obtain⟨f,hf,_⟩:=Pl.hold_some hh;have hil:=(List.getElem?_eq_some_iff.1 hf).1;rw[<- h.hP.len] at hil;simp only[kA];simp only[RS];exact hjj _ _ ⟨i,s,F,rfl,hil,h2,rfl,hF2',hw2,hset⟩
 | none=>
  rw[hh] at hset;simp only at hset;simp only[kA];simp only[RS];refine(mC h2 pick).mono ?_;rintro _ w3 ⟨F3,h3,hF3,hcase⟩;have hF3':=cj hF2' hF3;rcases hcase with⟨q1,rfl⟩|⟨q1,rfl,q2⟩
  ·rw[decide_eq_false q1,cond_false] at hset;simp only[RS,aG,decide_eq_false q1];exact same h3 hF3' hset
  ·rw[q1,decide_eq_true rfl,cond_true] at hset;simp only[RS,aG,decide_true];exact hjj _ _ ⟨_,_,F3,rfl,q2,h3,(tn s pick).1,hF3',hF3.heap hw2 hnx,hset⟩
theorem ry(h:SI w Xl Xp Q pb lb db g m fb ob F s)(n:Int):Cl prog 141 [pv pb,iv n] w λv w'=>v=iv (s.write n).2/\(∃F',SI w' Xl Xp Q pb lb db g m fb ob F' (s.write n).1)/\Fm (SY Xl Xp db g m) w w':=by
 have hfl:=h.rW;unfold PS.write;refine c141 ?_;refine(gF h.hP n).mono ?_;rintro _ w1 ⟨rfl,rfl⟩;simp only[RS,aG];cases hk:decide (s.p.known n=0) with
 | false=>simp only[RS,cond_false];exact⟨(by trivial),⟨F,h⟩,Fm.refl _ _⟩
 | true=>
  simp only[RS,cond_true];refine(dy h.hP hfl.2 n).mono ?_;rintro _ w1 ⟨rfl,rfl⟩;cases hh:s.p.hold n with
  | none=>simp only[kA];simp only[RS];exact⟨(by trivial),⟨F,h⟩,Fm.refl _ _⟩
  | some i=>
   obtain⟨f,hf,_⟩:=Pl.hold_some hh;rw[<- h.hP.fs,List.getElem?_map,Option.map_eq_some_iff] at hf;obtain⟨x,hx,rfl⟩:=hf;simp only[kA,(h.hP.tT hx).2];simp only[RS,h.hP.f7 hx];cases hc:x.1.chg with
   | false=>simp only[RS,cond_false];exact⟨(by trivial),⟨F,h⟩,Fm.refl _ _⟩
   | true=>simp only[RS,cond_true];refine(jo h hx).mono ?_;rintro _ w3 ⟨rfl,h3,hF3⟩;exact⟨(by trivial),h3,hF3⟩
end
end Go.Proofs.YtmdmffeoehfjgaaGreatDoor
