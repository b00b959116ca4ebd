/- Laid for one claim by slim.py out of: parts. -/
import Derived.WalkKit
import Derived.ProofKit
import Derived.Deep.Quiet
import Derived.Maps.RangeRun
import Derived.MapKept
import Derived.Laws.OwnMore
import Derived.Shelf.SlIterI.Nil
import Derived.Shelf.SortM.Plain
import Derived.Shelf.SortM.SortNone
import Derived.Test.YtmdmffeoehfjgaaGreatDoorRows
import Derived.Laws.MakeOwn
import Derived.Laws.CopyRow
import Derived.Lib.AppendStr
import Derived.Lib.BufferWrite
import Derived.Laws.BytesArg
import Derived.Laws.IdiomStrings
import Derived.OpenShut
import Derived.ShutString
import Derived.ChangeOld
import Derived.Below
import Derived.Deep.Slices
import Derived.SizedLaws
import Derived.ChangeCalls
import Derived.Deep.CondSized
import Derived.JoinedCond
import Derived.Shelf.Strings.BuilderK
import Derived.Shelf.Strings.Repeat
import Derived.Shelf.Strings.Trim
import Derived.Shelf.Spec.SlicesInsertGrow
import Derived.Shelf.SlicesG.Cells
import Derived.Shelf.Small.Strs
import Derived.Laws.StructEq
import Derived.Lib.SliceRun
import Derived.RangeFuncFrom
import Derived.Sort.MapsRangeIn
import Derived.LoopIn
import Derived.Handed
set_option maxRecDepth 100000
set_option maxHeartbeats 0
set_option linter.unusedVariables false
set_option linter.unusedSimpArgs false
set_option linter.unusedSectionVars false
theorem Go.iT{α:Sort _}{β:α->Sort _}{γ:(a:α)->β a->Prop}:∀a b,γ a b->γ a b:=λ_ _ x=>x
theorem Go.iE{α:Sort _}{β:α->Sort _}{γ:(a:α)->β a->Prop}:∀a b,False->γ a b:=λ_ _ x=>x.elim
theorem Go.oM{p:Prop}(h:p:=by omega):p:=h
theorem Go.dC{p:Prop}[Decidable p](h:p:=by decide):p:=h
theorem Go.kR{p:Prop}(h:p:=by kernel_rfl):p:=h
theorem Go.tV{p:Prop}(h:p:=by trivial):p:=h
theorem Go.sI{p:Prop}(h:p:=by simp):p:=h
theorem Go.C3:type_of%@decide_eq_false:=@decide_eq_false
theorem Go.C4:type_of%@decide_eq_true_eq:=@decide_eq_true_eq
theorem Go.C5:type_of%@List.length_append:=@List.length_append
theorem Go.C6:type_of%@List.getElem?_eq_getElem:=@List.getElem?_eq_getElem
theorem Go.C7:type_of%@decide_eq_false_iff_not:=@decide_eq_false_iff_not
theorem Go.C8:type_of%@cond_false:=@cond_false
theorem Go.C9:type_of%@decide_eq_true:=@decide_eq_true
theorem Go.D8:type_of%@cond_true:=@cond_true
theorem Go.D9:type_of%@Nat.le_refl:=@Nat.le_refl
theorem Go.E0:type_of%@Bool.and_eq_true:=@Bool.and_eq_true
theorem Go.E2:type_of%@List.getElem?_eq_some_iff:=@List.getElem?_eq_some_iff
theorem Go.E3:type_of%@Nat.lt_of_lt_of_le:=@Nat.lt_of_lt_of_le
theorem Go.E4:type_of%@List.getElem?_map:=@List.getElem?_map
theorem Go.E5:type_of%@List.length_take:=@List.length_take
theorem Go.E6:type_of%@Option.map_eq_some_iff:=@Option.map_eq_some_iff
theorem Go.E7:type_of%@Nat.zero_add:=@Nat.zero_add
theorem Go.E8:type_of%@List.mem_map:=@List.mem_map
theorem Go.E9:type_of%@Int.eq_ofNat_of_zero_le:=@Int.eq_ofNat_of_zero_le
theorem Go.F7:type_of%@List.mem_of_getElem?:=@List.mem_of_getElem?
theorem Go.F8:type_of%@Nat.le_trans:=@Nat.le_trans
theorem Go.F9:type_of%@of_decide_eq_true:=@of_decide_eq_true
theorem Go.G0:type_of%@List.take_of_length_le:=@List.take_of_length_le
theorem Go.G1:type_of%@List.flatMap_cons:=@List.flatMap_cons
theorem Go.G2:type_of%@List.length_cons:=@List.length_cons
theorem Go.G3:type_of%@List.length_replicate:=@List.length_replicate
theorem Go.G4:type_of%@List.length_drop:=@List.length_drop
theorem Go.G5:type_of%@Classical.byContradiction:=@Classical.byContradiction
theorem Go.G6:type_of%@List.getD_eq_getElem?_getD:=@List.getD_eq_getElem?_getD
theorem Go.G7:type_of%@List.append_assoc:=@List.append_assoc
theorem Go.G8:type_of%@List.all_eq_true:=@List.all_eq_true
theorem Go.G9:type_of%@decide_eq_decide:=@decide_eq_decide
theorem Go.H0:type_of%@List.eq_nil_of_length_eq_zero:=@List.eq_nil_of_length_eq_zero
theorem Go.H1:type_of%@List.append_nil:=@List.append_nil
theorem Go.H2:type_of%@List.length_map:=@List.length_map
theorem Go.H3:type_of%@List.mem_cons:=@List.mem_cons
theorem Go.H4:type_of%@Option.some.injEq:=@Option.some.injEq
theorem Go.H5:type_of%@List.mem_append:=@List.mem_append
theorem Go.H6:type_of%@Int.toNat_natCast:=@Int.toNat_natCast
theorem Go.H7:type_of%@and_self:=@and_self
theorem Go.H8:type_of%@List.take_add_one:=@List.take_add_one
theorem Go.H9:type_of%@List.nil_append:=@List.nil_append
theorem Go.IR:type_of%@congrArg:=@congrArg
theorem Go.IT:type_of%@if_neg:=@if_neg
theorem Go.IU:type_of%@List.take_append_of_le_length:=@List.take_append_of_le_length
theorem Go.IW:type_of%@Option.bind_some:=@Option.bind_some
theorem Go.IX:type_of%@List.take_length:=@List.take_length
theorem Go.IY:type_of%@if_pos:=@if_pos
theorem Go.IZ:type_of%@Nat.mul_one:=@Nat.mul_one
theorem Go.I0:type_of%@beq_self_eq_true:=@beq_self_eq_true
theorem Go.I1:type_of%@List.getElem?_append_right:=@List.getElem?_append_right
theorem Go.I2:type_of%@Option.map_some:=@Option.map_some
theorem Go.I3:type_of%@List.length_set:=@List.length_set
theorem Go.I4:type_of%@Nat.eq_of_beq_eq_true:=@Nat.eq_of_beq_eq_true
theorem Go.I5:type_of%@List.getElem?_toArray:=@List.getElem?_toArray
theorem Go.I6:type_of%@Option.some.inj:=@Option.some.inj
theorem Go.I7:type_of%@List.size_toArray:=@List.size_toArray
theorem Go.I8:type_of%@Array.length_toList:=@Array.length_toList
theorem Go.I9:type_of%@Nat.mod_eq_of_lt:=@Nat.mod_eq_of_lt
theorem Go.Ja:type_of%@List.length_nil:=@List.length_nil
theorem Go.Jb:type_of%@List.getElem?_append_left:=@List.getElem?_append_left
theorem Go.Jc:type_of%@List.getElem?_eq_none:=@List.getElem?_eq_none
theorem Go.Jd:type_of%@Nat.zero_le:=@Nat.zero_le
theorem Go.Je:type_of%@beq_eq_false_iff_ne:=@beq_eq_false_iff_ne
theorem Go.Jf:type_of%@Bool.false_or:=@Bool.false_or
theorem Go.Jg:type_of%@Array.getElem?_eq_some_iff:=@Array.getElem?_eq_some_iff
theorem Go.Jh:type_of%@Nat.sub_self:=@Nat.sub_self
theorem Go.Ji:type_of%@List.map_cons:=@List.map_cons
theorem Go.Jj:type_of%@List.cons_append:=@List.cons_append
theorem Go.Jk:type_of%@List.getElem_mem:=@List.getElem_mem
theorem Go.Jl:type_of%@Option.bind_eq_some_iff:=@Option.bind_eq_some_iff
theorem Go.Jm:type_of%@decide_true:=@decide_true
theorem Go.Jo:type_of%@List.drop_eq_getElem_cons:=@List.drop_eq_getElem_cons
theorem Go.Jp:type_of%@List.mem_cons_of_mem:=@List.mem_cons_of_mem
theorem Go.Jq:type_of%@Bool.false_and:=@Bool.false_and
theorem Go.Jr:type_of%@List.flatMap_append:=@List.flatMap_append
theorem Go.Js:type_of%@List.mem_cons_self:=@List.mem_cons_self
theorem Go.Jt:type_of%@Nat.add_zero:=@Nat.add_zero
theorem Go.Ju:type_of%@Option.some_get:=@Option.some_get
theorem Go.Jv:type_of%@Bool.true_or:=@Bool.true_or
theorem Go.Jw:type_of%@List.mem_singleton:=@List.mem_singleton
theorem Go.Jy:type_of%@Array.toList_setIfInBounds:=@Array.toList_setIfInBounds
theorem Go.Jz:type_of%@List.getElem?_take:=@List.getElem?_take
theorem Go.JA:type_of%@List.drop_eq_nil_of_le:=@List.drop_eq_nil_of_le
theorem Go.JB:type_of%@List.getElem?_set_self:=@List.getElem?_set_self
theorem Go.JC:type_of%@List.mem_or_eq_of_mem_set:=@List.mem_or_eq_of_mem_set
theorem Go.JD:type_of%@Bool.true_and:=@Bool.true_and
theorem Go.JE:type_of%@Bool.not_true:=@Bool.not_true
theorem Go.JF:type_of%@true_and:=@true_and
theorem Go.JG:type_of%@List.map_map:=@List.map_map
theorem Go.JH:type_of%@Option.getD_some:=@Option.getD_some
theorem Go.JI:type_of%@List.ext_getElem?:=@List.ext_getElem?
theorem Go.JJ:type_of%@List.getElem?_range:=@List.getElem?_range
theorem Go.JK:type_of%@List.replicate_succ:=@List.replicate_succ
theorem Go.JL:type_of%@Nat.min_eq_left:=@Nat.min_eq_left
theorem Go.JM:type_of%@List.take_append_drop:=@List.take_append_drop
theorem Go.JN:type_of%@Bool.and_self:=@Bool.and_self
theorem Go.JO:type_of%@Bool.or_eq_false_iff:=@Bool.or_eq_false_iff
theorem Go.JP:type_of%@List.mem_range:=@List.mem_range
theorem Go.JQ:type_of%@Bool.not_eq_true':=@Bool.not_eq_true'
theorem Go.JR:type_of%@List.set_cons_zero:=@List.set_cons_zero
theorem Go.JS:type_of%@List.setIfInBounds_toArray:=@List.setIfInBounds_toArray
theorem Go.JT:type_of%@List.set_append_right:=@List.set_append_right
theorem Go.JU:type_of%@Bool.or_eq_true:=@Bool.or_eq_true
theorem Go.JV:type_of%@List.nodup_cons:=@List.nodup_cons
theorem Go.JW:type_of%@Nat.beq_refl:=@Nat.beq_refl
theorem Go.JX:type_of%@Nat.zero_mul:=@Nat.zero_mul
theorem Go.JY:type_of%@List.getElem?_set_ne:=@List.getElem?_set_ne
theorem Go.JZ:type_of%@List.set_set:=@List.set_set
theorem Go.J1:type_of%@Array.size_setIfInBounds:=@Array.size_setIfInBounds
theorem Go.J2:type_of%@beq_iff_eq:=@beq_iff_eq
theorem Go.J3:type_of%@Array.getElem?_setIfInBounds_ne:=@Array.getElem?_setIfInBounds_ne
theorem Go.J4:type_of%@List.filter_cons:=@List.filter_cons
theorem Go.J5:type_of%@List.getElem?_replicate:=@List.getElem?_replicate
theorem Go.J6:type_of%@List.drop_zero:=@List.drop_zero
theorem Go.J7:type_of%@Bool.and_false:=@Bool.and_false
theorem Go.J8:type_of%@List.drop_of_length_le:=@List.drop_of_length_le
theorem Go.J9:type_of%@Prod.mk.injEq:=@Prod.mk.injEq
theorem Go.Ka:type_of%@List.flatten_cons:=@List.flatten_cons
theorem Go.Kb:type_of%@List.length_range:=@List.length_range
theorem Go.Kc:type_of%@Nat.mul_le_mul_right:=@Nat.mul_le_mul_right
theorem Go.Kd:type_of%@Int.le_refl:=@Int.le_refl
theorem Go.Ke:type_of%@List.take_append:=@List.take_append
theorem Go.Kf:type_of%@List.mem_of_mem_eraseIdx:=@List.mem_of_mem_eraseIdx
theorem Go.Kg:type_of%@List.map_append:=@List.map_append
theorem Go.Kh:type_of%@List.mem_filter:=@List.mem_filter
theorem Go.Ki:type_of%@Nat.xor_lt_two_pow:=@Nat.xor_lt_two_pow
theorem Go.Kj:type_of%@Nat.mod_lt:=@Nat.mod_lt
theorem Go.Kk:type_of%@List.eraseIdx_cons_succ:=@List.eraseIdx_cons_succ
theorem Go.Kl:type_of%@Nat.sub_zero:=@Nat.sub_zero
theorem Go.Km:type_of%@List.nodup_append:=@List.nodup_append
theorem Go.Kn:type_of%@List.getElem?_set:=@List.getElem?_set
theorem Go.Ko:type_of%@Array.ext':=@Array.ext'
theorem Go.Kp:type_of%@List.flatMap_nil:=@List.flatMap_nil
theorem Go.Kq:type_of%@List.drop_append:=@List.drop_append
theorem Go.Kr:type_of%@ByteArray.ext:=@ByteArray.ext
theorem Go.Ks:type_of%@List.all_cons:=@List.all_cons
theorem Go.Kt:type_of%@List.drop_append_of_le_length:=@List.drop_append_of_le_length
theorem Go.Ku:type_of%@List.cons.injEq:=@List.cons.injEq
theorem Go.Kv:type_of%@List.foldl_cons:=@List.foldl_cons
theorem Go.Kw:type_of%@List.drop_left':=@List.drop_left'
theorem Go.Kx:type_of%@List.map_congr_left:=@List.map_congr_left
theorem Go.Ky:type_of%@Array.getD_eq_getD_getElem?:=@Array.getD_eq_getD_getElem?
theorem Go.Kz:type_of%@List.map_set:=@List.map_set
theorem Go.KA:type_of%@Array.getElem?_eq_getElem:=@Array.getElem?_eq_getElem
theorem Go.KB:type_of%@List.foldl_append:=@List.foldl_append
theorem Go.KC:type_of%@Nat.xor_assoc:=@Nat.xor_assoc
theorem Go.KE:type_of%@Bool.and_true:=@Bool.and_true
theorem Go.KF:type_of%@List.mem_flatMap:=@List.mem_flatMap
theorem Go.KH:type_of%@List.not_mem_nil:=@List.not_mem_nil
theorem Go.KI:type_of%@List.pairwise_mergeSort:=@List.pairwise_mergeSort
theorem Go.KJ:type_of%@List.isEmpty_iff:=@List.isEmpty_iff
theorem Go.KK:type_of%@List.nodup_range:=@List.nodup_range
theorem Go.KL:type_of%@Nat.lt_or_ge:=@Nat.lt_or_ge
theorem Go.KM:type_of%@List.length_filter_le:=@List.length_filter_le
open Go.Proofs.Tryz (prog)
namespace Go.Al
abbrev Fr:=Nat->Value
abbrev KV:=Value->World->Prop
def upd(f:Fr)(n:Nat)(v:Value):Fr:=λj=>bif Nat.beq j n then v else f j
def fT(n:Nat)(f:Fr)(d:Option Tmp)(v:Value):Fr:=match d with
 | none=>f
 | some d=>bif Nat.blt d n then upd f d v else f
def ev(f:Fr):Operand->Value
 | .tmp t=>f t
 | .const v=>v
 | .global g=>.pointer (some ⟨g,0,none⟩)
 | .func g=>.func (.func g) #[] #[]
def FR(a:Act):Fr:=λj=>a.tmps.getD j undef
theorem oO(a:Act):ev (FR a)=a.eval:=by funext x;cases x<;>rfl
theorem jd(a:Act)(d:Option Tmp)(v:Value):FR (a.put d v)=fT a.tmps.size (FR a) d v:=by
 cases d with
 | none=>rfl
 | some d=>
  funext j;simp only[FR,Act.put,fT,upd,Ky,Array.getElem?_setIfInBounds];by_cases hd:d<a.tmps.size
  ·have hb:Nat.blt d a.tmps.size=true:=by simpa[Nat.blt_eq] using hd
   simp only[hb,D8,upd];by_cases hj:j=d
   ·subst hj;simp[hd]
   ·have:Nat.beq j d=false:=by cases h:Nat.beq j d with|false=>rfl|true=>exact absurd (I4 h) hj
    simp[this,Ne.symm hj,FR]
  ·have hb:Nat.blt d a.tmps.size=false:=by
    cases h:Nat.blt d a.tmps.size with
    | false=>rfl
    | true=>exact absurd (by simpa[Nat.blt_eq] using h) hd
   simp only[hb,C8];by_cases hj:d=j
   ·subst hj;simp[hd,FR]
   ·simp[hj,FR]
theorem jH(a:Act)(d:Option Tmp)(v:Value):(a.put d v).tmps.size=a.tmps.size:=by cases d<;>simp[Act.put]
theorem fV(a:Act)(d:Option Tmp)(v:Value):(a.put d v).defers=a.defers:=by cases d<;>simp[Act.put]
theorem fU{n:Nat}{f:Fr}{d:Option Tmp}{v:Value}{j:Nat}(h:d≠some j):fT n f d v j=f j:=by
 cases d with
 | none=>rfl
 | some d=>
  simp only[fT];cases Nat.blt d n
  ·rfl
  ·have hne:j≠d:=λe=>h (by rw[e]);have:Nat.beq j d=false:=by cases h:Nat.beq j d with|false=>rfl|true=>exact absurd (I4 h) hne
   simp[upd,this]
def Pu0(r:Option Value)(k:Value->Prop):Prop:=match r with
 | some v=>k v
 | none=>False
structure Pu (r : Option Value) (k : Value → Prop) : Prop where
 out : Pu0 r k
theorem bB(v:Value)(k:Value->Prop):Pu (some v) k=k v:=propext ⟨λh=>h.out,λh=>⟨h⟩⟩
def aL(c a b:Value):Option Value:=match c with
 | .bool true=>some a
 | .bool false=>some b
 | _=>none
def bj(t:Value)(i:Nat):Option Value:=match t with
 | .tuple vs=>vs[i]?
 | _=>none
def bO:Value->Option Value
 | .pointer (some a)=>some (.pointer (some a))
 | .func (.func g) x y=>some (.func (.func g) x y)
 | _=>none
def faV(off:Nat):Value->Option Value
 | .pointer (some a)=>some (.pointer (some (a.add off)))
 | _=>none
def ixV(sz:Nat)(x i:Value):Option Value:=match x,i with
 | .slice (some a) len _,.int _ n=>if 0<=n/\n<len then some (.pointer (some (a.add (n.toNat*sz)))) else none
 | _,_=>none
def ixA(len sz:Nat)(x i:Value):Option Value:=match x,i with
 | .pointer (some a),.int _ n=>if 0<=n/\n<len then some (.pointer (some (a.add (n.toNat*sz)))) else none
 | _,_=>none
def ixS(x i:Value):Option Value:=match x,i with
 | .string s,.int _ n=>if 0<=n then(s[n.toNat]?).map (λb=>.int .u8 b.toNat) else none
 | _,_=>none
def aW(agg:Bool)(sz:Nat)(cs:Array Value)(off:Nat):Option Value:=bif agg then some (.agg (cs.extract off (off+sz))) else cs[off]?
def cr(agg:Bool)(sz off:Nat):Value->Option Value
 | .agg cs=>aW agg sz cs off
 | _=>none
def ixG(agg:Bool)(len sz:Nat)(x i:Value):Option Value:=match x,i with
 | .agg cs,.int _ n=>if 0<=n/\n<len then aW agg sz cs (n.toNat*sz) else none
 | _,_=>none
def unV(op:UnOp)(x:Value):Option Value:=match op,x with
 | .neg,.int k n=>some (.int k (k.wrap (0 - n)))
 | .xor,.int k n=>some (.int k (k.wrap ((BitVec.ofInt k.bits (if k.signed then -1 else k.max)) ^^^ (BitVec.ofInt k.bits n)).toNat))
 | .not,.bool b=>some (.bool !b)
 | _,_=>none
def oh(op:BinOp)(k:IntKind)(a b:Int):Option Value:=match op with
 | .add=>some (.int k (k.wrap (a+b)))
 | .sub=>some (.int k (k.wrap (a - b)))
 | .mul=>some (.int k (k.wrap (a*b)))
 | .quo=>if b=0 then none else some (.int k (k.wrap (a.tdiv b)))
 | .rem=>if b=0 then none else some (.int k (a.tmod b))
 | .and=>some (.int k (k.wrap ((BitVec.ofInt k.bits a) &&& (BitVec.ofInt k.bits b)).toNat))
 | .or=>some (.int k (k.wrap ((BitVec.ofInt k.bits a) ||| (BitVec.ofInt k.bits b)).toNat))
 | .xor=>some (.int k (k.wrap ((BitVec.ofInt k.bits a) ^^^ (BitVec.ofInt k.bits b)).toNat))
 | .andNot=>some (.int k (k.wrap ((BitVec.ofInt k.bits a) &&& ~~~ (BitVec.ofInt k.bits b)).toNat))
 | .eql=>some (.bool (a == b))
 | .neq=>some (.bool (a != b))
 | .lss=>some (.bool (decide (a<b)))
 | .leq=>some (.bool (decide (a<=b)))
 | .gtr=>some (.bool (decide (a > b)))
 | .geq=>some (.bool (decide (a ≥ b)))
 | _=>none
def shV(op:BinOp)(k:IntKind)(a b:Int):Option Value:=
 if b<0 then none else match op with
  | .shl=>some (.int k (k.wrap (a*2 ^ (min b.toNat k.bits))))
  | .shr=>some (.int k (a.fdiv (2 ^ (min b.toNat k.bits))))
  | _=>none
def DP(op:BinOp)(x y:ByteArray):Option Value:=match op with
 | .add=>if ((x.size+y.size:Nat):Int) > IntKind.i64.max then none else some (.string (x++y))
 | .eql=>some (.bool (x.toList == y.toList))
 | .neq=>some (.bool !(x.toList == y.toList))
 | .lss=>some (.bool (Op.bytesLess x.toList y.toList))
 | .leq=>some (.bool (Op.bytesLess x.toList y.toList||x.toList == y.toList))
 | .gtr=>some (.bool !(Op.bytesLess x.toList y.toList||x.toList == y.toList))
 | .geq=>some (.bool !(Op.bytesLess x.toList y.toList))
 | _=>none
def eqV(d:TypeDesc)(x y:Value):Option Bool:=match d,x,y with
 | .bool,.bool a,.bool b=>some (a == b)
 | .pointer _,.pointer none,.pointer b=>some b.isNone
 | .pointer _,.pointer (some _),.pointer none=>some false
 | .slice _,.slice none _ _,.slice b _ _=>some b.isNone
 | .slice _,.slice (some _) _ _,.slice none _ _=>some false
 | .map _ _,.map none,.map b=>some b.isNone
 | .map _ _,.map (some _),.map none=>some false
 | .func _ _ _,.nilFunc,.nilFunc=>some true
 | .func _ _ _,.func _ _ _,.nilFunc=>some false
 | _,_,_=>none
def qm:BinOp->Bool
 | .shl | .shr=>true
 | _=>false
def aC(d:TypeDesc)(op:BinOp)(x y:Value):Option Value:=match x,y with
 | .int k a,.int k' b=>bif qm op then shV op k a b else if k=k' then oh op k a b else none
 | .string a,.string b=>DP op a b
 | x,y=>match op with
  | .eql=>(eqV d x y).map .bool
  | .neq=>(eqV d x y).map λb=>.bool (!b)
  | _=>none
def cvI(k:IntKind):Value->Option Value
 | .int _ n=>some (.int k (k.wrap n))
 | _=>none
def cvS:Value->Option Value
 | .string s=>some (.string s)
 | _=>none
def bnd(y:Nat)(d:Nat):Option Value->Option Nat
 | none=>some d
 | some (.int _ i)=>if 0<=i/\i<=y then some i.toNat else none
 | some _=>none
def slS(x:Value)(lo hi:Option Value):Option Value:=match x with
 | .string s=>(bnd s.size s.size hi).bind λh=>(bnd h 0 lo).map λl=>.string (s.extract l h)
 | _=>none
def Bq(m len:Nat)(hi mx:Option Value):Option Nat:=match hi with
 | some y=>bnd m len (some y)
 | none=>(match mx with
  | some _=>none
  | none=>some len)
def slV(sz:Nat)(x:Value)(lo hi mx:Option Value):Option Value:=match x with
 | .slice a len cap=>(bnd cap cap mx).bind λm=>(Bq m len hi mx).bind λh=>(bnd h 0 lo).map λl=>.slice (if m=l then a else a.map (λb=>Addr.add b (l*sz))) (h - l) (m - l)
 | _=>none
def lenV:Value->Option Value
 | .slice _ n _=>some (.int .i64 n)
 | _=>none
def bW:Value->Option Value
 | .string s=>some (.int .i64 s.size)
 | _=>none
def cy:Value->Option Value
 | .slice _ _ n=>some (.int .i64 n)
 | _=>none
def aR:Value->Value->Option Value
 | .int k x,.int _ y=>some (.int k (if y<x then y else x))
 | _,_=>none
def aQ:Value->Value->Option Value
 | .int k x,.int _ y=>some (.int k (if y > x then y else x))
 | _,_=>none
def aO(g:Value->Value->Option Value):List Value->Value->Option Value
 | [],x=>some x
 | y::r,x=>(g x y).bind λz=>aO g r z
def aB(g:Value->Value->Option Value):List Value->Option Value
 | []=>none
 | x::r=>aO g r x
def mW(P:Program)(t:TypeId):Option Bool:=match P.underlying t with
 | some (.struct _)|some (.array _ _)=>some true
 | some _=>some false
 | none=>none
def bM(P:Program)(t:TypeId):Option Nat:=(P.info? t).map (·.size)
def lX(P:Program)(s:TypeId)(i:Nat):Option Field:=match P.underlying s with
 | some (.struct fs)=>fs[i]?
 | _=>none
def Bi(P:Program)(t:TypeId):Option (Array Value):=((P.info? t).bind (·.zero)).map (·.cells)
def qn(f:Fr):Option Operand->Option Value
 | none=>none
 | some x=>some (ev f x)
def GS(P:Program)(at_:Array TypeId)(x:Value):Option (Option Value):=match at_.toList with
 | t::_=>(match P.underlying t with
  | some .string=>some (bW x)
  | some (.slice _)=>some (lenV x)
  | some (.array n _)=>some (some (.int .i64 n))
  | _=>none)
 | []=>none
def pu(P:Program)(f:Fr)(o:Oper):Option (Option Value):=match o.op with
 | .move x | .assign x=>some (some (ev f x))
 | .pick c a b=>some (aL (ev f c) (ev f a) (ev f b))
 | .extract t i=>some (bj (ev f t) i)
 | .nilCheck x=>some (bO (ev f x))
 | .fieldAddr s x i=>some (match lX P s i with
  | some fd=>(match bM P fd.type with
   | some (_+1)=>faV fd.offset (ev f x)
   | _=>none)
  | none=>none)
 | .field s x i=>some (match lX P s i with
  | some fd=>(match mW P fd.type,bM P fd.type with
   | some a,some n=>cr a n fd.offset (ev f x)
   | _,_=>none)
  | none=>none)
 | .indexAddr t x i=>some (match P.underlying t with
  | some (.slice e)=>(match bM P e with
   | some n=>ixV n (ev f x) (ev f i)
   | none=>none)
  | some (.array (len+2) e)=>(match bM P e with
   | some n=>ixA (len+2) n (ev f x) (ev f i)
   | none=>none)
  | _=>none)
 | .index t x i=>some (match P.underlying t with
  | some .string=>ixS (ev f x) (ev f i)
  | some (.array len e)=>(match mW P e,bM P e with
   | some a,some n=>ixG a len n (ev f x) (ev f i)
   | _,_=>none)
  | _=>none)
 | .unOp op _ x=>some (unV op (ev f x))
 | .binOp op t x y _=>(match P.underlying t with
  | some (.struct _)|some (.array _ _)|some (.interface _)|none=>none
  | some d=>some (aC d op (ev f x) (ev f y)))
 | .convert src dst x=>(match P.underlying src,P.underlying dst with
  | some (.int _),some (.int k)=>some (cvI k (ev f x))
  | some .string,some .string=>some (cvS (ev f x))
  | _,_=>none)
 | .slice t x lo hi mx=>(match P.underlying t with
  | some .string=>(match mx with
   | none=>some (slS (ev f x) (qn f lo) (qn f hi))
   | some _=>none)
  | some (.slice e)=>some (match bM P e with
   | some n=>slV n (ev f x) (qn f lo) (qn f hi) (qn f mx)
   | none=>none)
  | _=>none)
 | .makeFunc fn first captured=>some (some (.func fn ((first.toList.map (ev f)).toArray) ((captured.toList.map (ev f)).toArray)))
 | .call c=>(match c.callee with
  | .builtin .len=>(match c.args.toList with
   | x::_=>GS P c.argTypes (ev f x)
   | []=>none)
  | .builtin .min=>some (aB aR (c.args.toList.map (ev f)))
  | .builtin .max=>some (aB aQ (c.args.toList.map (ev f)))
  | _=>none)
 | _=>none
theorem an{P:Program}{t:TypeId}{d:TypeDesc}(h:P.underlying t=some d)(w:World):(underlying t).run P w=.ok d w:=by simp[underlying,h]
theorem js{P:Program}{t:TypeId}{i:TypeInfo}(h:P.info? t=some i)(w:World):(typeInfo t).run P w=.ok i w:=by simp[typeInfo,h]
theorem uO{P:Program}{t:TypeId}{n:Nat}(h:bM P t=some n):∃i,P.info? t=some i/\i.size=n:=by
 unfold bM at h;cases hi:P.info? t with
 | none=>simp[hi] at h
 | some i=>exact⟨i,rfl,by simpa[hi] using h⟩
theorem bb{P:Program}{t:TypeId}{n:Nat}(h:bM P t=some n)(w:World):(sizeOf t).run P w=.ok n w:=by obtain⟨i,hi,rfl⟩:=uO h;simp[sizeOf,js hi]
theorem dZ{P:Program}{t:TypeId}{b:Bool}(h:mW P t=some b)(w:World):(isAgg t).run P w=.ok b w:=by
 unfold mW at h;cases hu:P.underlying t with
 | none=>simp[hu] at h
 | some d=>simp only[isAgg,Sem.run_bind,an hu,Result.andThen_ok];rw[hu] at h;cases d<;>simp at h<;>subst h<;>rfl
theorem th{P:Program}{t:TypeId}{a:Bool}{n:Nat}(ha:mW P t=some a)(hn:bM P t=some n){cs:Array Value}{off:Nat}{v:Value}
  (h:aW a n cs off=some v) (w:World):(part t cs off).run P w=.ok v w:=by
 unfold aW at h;cases a with
 | true=>simp at h;subst h;simp[part,dZ ha,bb hn]
 | false=>simp at h;simp[part,dZ ha,h]
theorem cD{P:Program}{y:Nat}{code:BoundsCode}{x:Value}{n d:Nat}(h:bnd y d (some x)=some n)(w:World):(Instr.sliceBound x y code).run P w=.ok n w:=by cases x<;>simp[bnd] at h;rename_i k i;obtain⟨⟨h1,h2⟩,rfl⟩:=h;simp[Instr.sliceBound,asIntOf,h1,h2]
theorem mF{P:Program}{g:Value->Value->Option Value}{s:Value->Value->Sem Value}(hs:∀x y v,g x y=some v->∀w,(s x y).run P w=.ok v w):
  ∀(l:List Value) (x v:Value),aO g l x=some v->∀w,(l.foldlM s x).run P w=.ok v w:=by
 intro l;induction l with
 | nil=>intro x v h w;simp[aO] at h;subst h;simp
 | cons y r ih=>
  intro x v h w;simp only[aO] at h;cases hg:g x y with
  | none=>simp[hg] at h
  | some z=>simp only[hg,IW] at h;simp[hs _ _ _ hg,ih _ _ h]
theorem ck{α β:Type}(a:Array α)(g:α->β):(a.toList.map g).toArray=a.map g:=by apply Ko ;simp
theorem zK{P:Program}{op:BinOp}{k:IntKind}{a b:Int}{v:Value}(hs:op≠.shl)(hs':op≠.shr)(h:oh op k a b=some v)(w:World)(t:TypeId):
  (binOp op t (.int k a) (.int k b)).run P w=.ok v w:=by
 cases op<;>simp[oh] at h hs hs'<;>first
  | (subst h;simp[binOp,Op.intArith,Op.intBits,Op.intCmp];done)
  | (obtain⟨hb,rfl⟩:=h;simp[binOp,Op.intDiv,hb];done)
theorem Dj{P:Program}{op:BinOp}{k k':IntKind}{a b:Int}{v:Value}(h:shV op k a b=some v)(w:World)(t:TypeId):
  (binOp op t (.int k a) (.int k' b)).run P w=.ok v w:=by
 unfold shV at h;split at h
 ·cases h
 ·rename_i hb;cases op<;>simp at h<;>subst h<;>simp[binOp,Op.shift,hb]
theorem zL{P:Program}{op:BinOp}{a b:ByteArray}{v:Value}(h:DP op a b=some v)(w:World)(t:TypeId):
  (binOp op t (.string a) (.string b)).run P w=.ok v w:=by
 cases op<;>simp only[DP,reduceCtorEq] at h<;>first
  | (cases h;done)
  | (simp only[H4] at h;subst h;simp[binOp,Op.stringOp];done)
  | (split at h
     ·cases h
     ·rename_i hn;simp only[H4] at h;subst h;simp only[binOp,Op.stringOp,IT hn];rfl)
theorem Cx{P:Program}{t:TypeId}{d:TypeDesc}{x y:Value}{b:Bool}(hd:P.underlying t=some d)(h:eqV d x y=some b)(w:World):
  (Op.equal t x y).run P w=.ok b w:=by
 unfold Op.equal Op.maxDepth Op.equalIn;simp only[Sem.run_bind,an hd,Result.andThen_ok];unfold eqV at h;split at h<;>first
  | (cases h;done)
  | (simp only[H4] at h;subst h;simp;done)
  | (simp only[H4] at h;subst h;rename_i b;cases b<;>simp)
theorem qE{P:Program}{op:BinOp}{t:TypeId}{x y:Operand}{d:TypeDesc}{a b v:Value}(h:aC d op a b=some v)(w:World):
  (eqGuard op t x y a b).run P w=.ok () w:=by
 have key:∀(a b:Value),(∀t u c d,a=.iface t u->b=.iface c d->False)->(a=.nilIface->False)->(∀cs,a=.agg cs->False)->Sem.run P (eqGuard op t x y a b) w=.ok () w:=by
  intro a b _ h1 h2;unfold eqGuard;cases op<;>simp
  all_goals (cases a<;>first|(exact absurd rfl (λe=>h1 e))|(exact absurd rfl (λe=>h2 _ e))|simp)
 refine key a b ?_ ?_ ?_
 ·rintro t u c d rfl rfl;cases op<;>simp[aC,eqV] at h
 ·rintro rfl;cases op<;>simp[aC,eqV] at h
 ·rintro cs rfl;cases op<;>simp[aC,eqV] at h
theorem zU{P:Program}{t:TypeId}{d:TypeDesc}{op:BinOp}{x y v:Value}(hd:P.underlying t=some d)(h:aC d op x y=some v)(w:World):
  (binOp op t x y).run P w=.ok v w:=by
 unfold aC at h;split at h
 ·rename_i k a k' b;cases hs:qm op with
  | true=>rw[hs] at h;exact Dj (by simpa using h) w t
  | false=>
   rw[hs] at h;simp only[C8] at h;split at h
   ·rename_i hk;subst hk;exact zK (by rintro rfl;cases hs) (by rintro rfl;cases hs) h w t
   ·cases h
 ·exact zL h w t
 ·rename_i x y _ _;cases op<;>simp only[reduceCtorEq] at h
  all_goals rw[E6] at h;obtain⟨b,he,rfl⟩:=h;have hr:=Cx hd he w;unfold eqV at he;split at he<;>first|(cases he;done)|(simp only[binOp,hr,Sem.run_bind,Result.andThen_ok,Sem.run_pure])
theorem Ay{P:Program}(x y v:Value)(h:aR x y=some v)(w:World):(Builtin.min2 x y).run P w=.ok v w:=by cases x<;>cases y<;>simp[aR] at h;subst h;simp[Builtin.min2]
theorem Ax{P:Program}(x y v:Value)(h:aQ x y=some v)(w:World):(Builtin.max2 x y).run P w=.ok v w:=by cases x<;>cases y<;>simp[aQ] at h;subst h;simp[Builtin.max2]
theorem Dp{P:Program}{x:Value}{lo hi:Option Value}{v:Value}{t:TypeId}(ht:P.underlying t=some .string)(h:slS x lo hi=some v)(w:World):
  (Instr.sliceAt t x lo hi none).run P w=.ok v w:=by
 cases x<;>simp only[slS] at h<;>try (cases h;done)
 rename_i s;cases hh:bnd s.size s.size hi with
 | none=>simp[hh] at h
 | some a=>
  cases hl:bnd a 0 lo with
  | none=>simp[hh,hl] at h
  | some b=>
   simp[hh,hl] at h;subst h;simp only[Instr.sliceAt,Sem.run_bind,an ht,Result.andThen_ok,Instr.slice,Instr.sliceBounds];cases hi with
   | none=>
    simp[bnd] at hh;subst hh;cases lo with
    | none=>simp[bnd] at hl;subst hl;simp
    | some z=>simp[cD hl]
   | some y=>
    cases lo with
    | none=>simp[bnd] at hl;subst hl;simp[cD hh]
    | some z=>simp[cD hh,cD hl]
theorem Dq{P:Program}{x:Value}{lo hi mx:Option Value}{v:Value}{t e:TypeId}{n:Nat}(ht:P.underlying t=some (.slice e))(hn:bM P e=some n)
  (h:slV n x lo hi mx=some v) (w:World):(Instr.sliceAt t x lo hi mx).run P w=.ok v w:=by
 cases x<;>simp only[slV] at h<;>try (cases h;done)
 rename_i a len cap;rw[Jl] at h;obtain⟨m,hm,h⟩:=h;rw[Jl] at h;obtain⟨c,hh,h⟩:=h;rw[E6] at h;obtain⟨l,hl,rfl⟩:=h;simp only[Instr.sliceAt,Sem.run_bind,an ht,Result.andThen_ok,Instr.slice,Instr.sliceBounds];have hmx:mx=none/\m=cap\/∃z,mx=some z:=by cases mx<;>simp_all [bnd]
 have hlo:lo=none/\l=0\/∃z,lo=some z:=by cases lo<;>simp_all [bnd]
 rcases hmx with⟨rfl,rfl⟩|⟨z0,rfl⟩<;>rcases hlo with⟨rfl,rfl⟩|⟨z,rfl⟩<;>cases hi<;>simp only[Bq,H4,reduceCtorEq] at hh<;>first
  | (subst hh;simp[bb hn];done)
  | (subst hh;simp[bb hn,cD hl];done)
  | (simp[bb hn,cD hh];done)
  | (simp[bb hn,cD hh,cD hl];done)
  | (simp[bb hn,cD hm,cD hh];done)
  | (simp[bb hn,cD hm,cD hh,cD hl];done)
theorem Aq{P:Program}{ts:Array TypeId}{t:TypeId}{x:Value}{lG:List Value}{v:Value}(h:GS P ts x=some (some v))(w:World):
  (Builtin.len_ ts t (x::lG).toArray).run P w=.ok v w:=by
 unfold GS at h;cases ts with
 | mk l=>
  cases l with
  | nil=>cases h
  | cons u l=>
   simp only at h;cases hu:P.underlying u with
   | none=>simp[hu] at h
   | some d=>
    rw[hu] at h;cases d<;>simp only[H4,reduceCtorEq] at h
    all_goals
     first
      | (subst h;simp[Builtin.len_,an hu,goInt];done)
      | skip
    ·cases x<;>simp only[bW,H4,reduceCtorEq] at h
     all_goals (subst h;simp[Builtin.len_,an hu,goInt])
    ·cases x<;>simp only[lenV,H4,reduceCtorEq] at h
     all_goals (subst h;simp[Builtin.len_,an hu,goInt])
theorem yi{P:Program}{f:Fr}{o:Oper}{v:Value}(h:pu P f o=some (some v))(w:World):(execOp (ev f) o).run P w=.ok (.value v) w:=by
 obtain⟨dst,op,type,pos,after,guard⟩:=o;cases op<;>simp only[pu,H4,reduceCtorEq] at h
 case move x=>subst h;rfl
 case assign x=>subst h;rfl
 case pick c a b=>simp only[execOp];cases hc:ev f c<;>simp only[hc,aL,reduceCtorEq] at h;rename_i x;cases x<;>simp at h<;>simp[asBool,h]
 case extract t i=>simp only[execOp];cases ht:ev f t<;>simp only[ht,bj,reduceCtorEq] at h;simp[Instr.extract,h]
 case nilCheck x=>
  simp only[execOp];cases hx:ev f x<;>simp only[hx,bO,reduceCtorEq] at h
  ·rename_i a;cases a<;>simp at h;subst h;simp
  ·rename_i fn y z;cases fn<;>simp at h;subst h;simp
 case fieldAddr s x i=>
  simp only[execOp];cases hf:lX P s i with
  | none=>simp[hf] at h
  | some fd=>
   simp only[hf] at h;cases hz:bM P fd.type with
   | none=>simp[hz] at h
   | some n=>
    cases n with
    | zero=>simp[hz] at h
    | succ n=>
     simp only[hz] at h;cases hx:ev f x<;>simp only[hx,faV,reduceCtorEq] at h;rename_i a;cases a<;>simp at h;subst h;unfold lX at hf;cases hu:P.underlying s with
     | none=>simp[hu] at hf
     | some d=>cases d<;>simp[hu] at hf;simp[Instr.fieldAt,an hu,hf,Instr.sureAddr,fieldPlace,bb hz]
 case field s x i=>
  simp only[execOp];cases hf:lX P s i with
  | none=>simp[hf] at h
  | some fd=>
   simp only[hf] at h;cases ha:mW P fd.type with
   | none=>simp[ha] at h
   | some a=>
    cases hz:bM P fd.type with
    | none=>simp[ha,hz] at h
    | some n=>
     simp only[ha,hz] at h;cases hx:ev f x<;>simp only[hx,cr,reduceCtorEq] at h;unfold lX at hf;cases hu:P.underlying s with
     | none=>simp[hu] at hf
     | some d=>cases d<;>simp[hu] at hf;simp[Instr.field,an hu,hf,asAgg,th ha hz h]
 case indexAddr t x i=>
  simp only[execOp];cases hu:P.underlying t with
  | none=>simp[hu] at h
  | some d=>
   rw[hu] at h;cases d<;>try simp only[reduceCtorEq] at h
   case slice e=>
    cases hz:bM P e with
    | none=>simp[hz] at h
    | some n=>
     simp only[hz] at h;cases hx:ev f x<;>simp only[hx,ixV,reduceCtorEq] at h;rename_i a len cap;cases a<;>try simp only[reduceCtorEq] at h
     cases hi:ev f i<;>simp only[hi,reduceCtorEq] at h;split at h
     ·rename_i hb;simp only[H4] at h;subst h;simp[Instr.indexAt,asIntOf,an hu,hb,bb hz]
     ·cases h
   case array len e=>
    cases len with
    | zero=>cases h
    | succ len=>
     cases len with
     | zero=>cases h
     | succ len=>
      replace h:(match bM P e with
       | some n=>ixA (len+2) n (ev f x) (ev f i)
       | none=>none)=some v:=h
      cases hz:bM P e with
      | none=>simp[hz] at h
      | some n=>
       simp only[hz] at h;cases hx:ev f x<;>simp only[hx,ixA,reduceCtorEq] at h;rename_i a;cases a<;>try simp only[reduceCtorEq] at h
       cases hi:ev f i<;>simp only[hi,reduceCtorEq] at h;split at h
       ·rename_i hb;simp only[H4] at h;subst h;simp at hb;simp[Instr.indexAt,asIntOf,an hu,hb,bb hz,Instr.sureAddr];intro hc;omega
       ·cases h
 case index t x i=>
  simp only[execOp];cases hu:P.underlying t with
  | none=>simp[hu] at h
  | some d=>
   rw[hu] at h;cases d<;>simp only[reduceCtorEq] at h
   case string=>
    cases hx:ev f x<;>simp only[hx,ixS,reduceCtorEq] at h;rename_i s;cases hi:ev f i<;>simp only[hi,reduceCtorEq] at h;rename_i k n;split at h
    ·rename_i hb;rw[E6] at h;obtain⟨b,hb',rfl⟩:=h;simp[Instr.index,asIntOf,an hu,hb,hb']
    ·cases h
   case array len e=>
    cases ha:mW P e with
    | none=>simp[ha] at h
    | some a=>
     cases hz:bM P e with
     | none=>simp[ha,hz] at h
     | some n=>
      simp only[ha,hz] at h;cases hx:ev f x<;>simp only[hx,ixG,reduceCtorEq] at h;cases hi:ev f i<;>simp only[hi,reduceCtorEq] at h;split at h
      ·rename_i hb;simp[Instr.index,asIntOf,an hu,hb,bb hz,th ha hz h]
      ·cases h
 case unOp op t x=>simp only[execOp];cases op<;>cases hx:ev f x<;>simp only[hx,unV,H4,reduceCtorEq] at h<;>subst h<;>simp[Op.unary,Op.intArith,Op.intBits]
 case binOp op t x y yt=>
  simp only[execOp];cases hu:P.underlying t with
  | none=>simp[hu] at h
  | some d=>
   rw[hu] at h;cases d<;>simp only[H4,reduceCtorEq] at h
   all_goals simp[qE h,zU hu h]
 case convert src dst x=>
  simp only[execOp];cases hu:P.underlying src with
  | none=>simp[hu] at h
  | some d=>
   cases hv:P.underlying dst with
   | none=>simp[hu,hv] at h
   | some e=>
    rw[hu,hv] at h;cases d<;>cases e<;>simp only[H4,reduceCtorEq] at h
    ·cases hx:ev f x<;>simp only[hx,cvI,H4,reduceCtorEq] at h;subst h;simp[convert,an hu,an hv,Conv.intToInt]
    ·cases hx:ev f x<;>simp only[hx,cvS,H4,reduceCtorEq] at h;subst h;simp[convert,an hu,an hv]
 case slice t x lo hi mx=>
  simp only[execOp];have hmo:∀q:Option Operand,Option.map (ev f) q=qn f q:=by intro q;cases q<;>rfl
  cases hu:P.underlying t with
  | none=>simp[hu] at h
  | some d=>
   rw[hu] at h;cases d<;>simp only[reduceCtorEq] at h
   case string=>
    cases mx with
    | some z=>simp at h
    | none=>
     simp only[H4] at h;simp only[hmo];simp only[Sem.run_bind];rw[show qn f none=none from rfl,Dp hu h]
     rfl
   case slice e=>
    simp only[H4] at h;cases hz:bM P e with
    | none=>simp[hz] at h
    | some n=>simp only[hz] at h;simp only[hmo];simp[Dq hu hz h]
 case makeFunc fn first captured=>
  subst h;simp only[execOp,Instr.makeFunc,ck]
  rfl
 case call c=>
  obtain⟨callee,args,argTypes⟩:=c;cases callee<;>simp only[reduceCtorEq] at h;rename_i b;cases b<;>simp only[reduceCtorEq,H4] at h
  case len=>
   cases args with
   | mk l=>
    cases l with
    | nil=>simp at h
    | cons x l=>simp only at h;simp[execOp,resolve,invoke,builtin,Aq h]
  case min=>
   simp only[execOp,resolve,invoke,builtin];cases args with
   | mk l=>
    cases l with
    | nil=>simp[aB] at h
    | cons x l=>simp only[Ji,aB] at h;simp[Builtin.min_,mF Ay _ _ _ h]
  case max=>
   simp only[execOp,resolve,invoke,builtin];cases args with
   | mk l=>
    cases l with
    | nil=>simp[aB] at h
    | cons x l=>simp only[Ji,aB] at h;simp[Builtin.max_,mF Ax _ _ _ h]
def Ld0(w:World)(x:Value)(k:KV):Prop:=match x with
 | .pointer (some a)=>(match w.cell? a with
  | some u=>k u w
  | none=>False)
 | _=>False
structure Ld (w : World) (x : Value) (k : KV) : Prop where
 out : Ld0 w x k
def bC(w:World)(a:Addr):Nat->Nat->Option (List Value)
 | _,0=>some []
 | i,n+1=>match w.cell? (a.add i) with
  | some v=>(bC w a (i+1) n).map (v::·)
  | none=>none
def LdN0(n:Nat)(w:World)(x:Value)(k:KV):Prop:=match x with
 | .pointer (some a)=>(match bC w a 0 n with
  | some l=>k (.agg l.toArray) w
  | none=>False)
 | _=>False
structure LdN (n : Nat) (w : World) (x : Value) (k : KV) : Prop where
 out : LdN0 n w x k
def stC(a:Addr):Nat->List Value->World->Option World
 | _,[],w=>some w
 | i,v::l,w=>bif v.oneCell' then(match w.cell? (a.add i) with
   | some _=>bif w.frozen? (a.add i) then none else stC a (i+1) l (w.setCell (a.add i) v)
   | none=>none) else none
def St0(n:Nat)(w:World)(x u:Value)(k:KV):Prop:=match x with
 | .pointer (some a)=>bif Nat.beq u.cells.size n then(match stC a 0 u.cells.toList w with
   | some w'=>k undef w'
   | none=>False) else False
 | _=>False
structure St (n : Nat) (w : World) (x u : Value) (k : KV) : Prop where
 out : St0 n w x u k
def New0(cs:Array Value)(t:TypeId)(w:World)(k:KV):Prop:=k (.pointer (some ⟨w.heap.size,0,none⟩)) (w.alloc (.cells cs t))
structure New (cs : Array Value) (t : TypeId) (w : World) (k : KV) : Prop where
 out : New0 cs t w k
def RunS0(P:Program)(s:Sem Value)(w:World)(k:KV):Prop:=match s.run P w with
 | .ok v w'=>k v w'
 | .halt _ _=>False
structure RunS (P : Program) (s : Sem Value) (w : World) (k : KV) : Prop where
 out : RunS0 P s w k
def RunU0(P:Program)(s:Sem Unit)(w:World)(k:KV):Prop:=match s.run P w with
 | .ok _ w'=>k undef w'
 | .halt _ _=>False
structure RunU (P : Program) (s : Sem Unit) (w : World) (k : KV) : Prop where
 out : RunU0 P s w k
def Gw(k:KV):Ending->World->Prop
 | .returned v,w=>k v w
 | _,_=>False
def Cl0(P:Program)(g:FuncId)(args:List Value)(w:World)(k:KV):Prop:=Calls P g args.toArray w (Gw k)
structure Cl (P : Program) (g : FuncId) (args : List Value) (w : World) (k : KV) : Prop where
 out : Cl0 P g args w k
def SN(P:Program)(k:KV):Result Next->Prop
 | .ok (.value v) w=>k v w
 | .ok .skip w=>k undef w
 | .ok (.enter g args) w=>Cl P g args.toList w k
 | _=>False
theorem zB(P:Program)(k:KV)(g:FuncId)(args:Array Value)(w:World):SN P k (.ok (.enter g args) w)=Calls P g args w (Gw k):=propext ⟨λh=>h.out,λh=>⟨h⟩⟩
def jw(P:Program)(g:FuncId):Bool:=match P.funcs[g]? with
 | some fn => fn.body.isSome && !(fn.name == "runtime.NumGoroutine")
 | none=>false
def ClV0(P:Program)(fv:Value)(args:List Value)(w:World)(k:KV):Prop:=match fv with
 | .func (.func g) first captured=>bif jw P g then Cl P g (first.toList++args++captured.toList) w k else False
 | _=>False
structure ClV (P : Program) (fv : Value) (args : List Value) (w : World) (k : KV) : Prop where
 out : ClV0 P fv args w k
theorem Cl.mono{P:Program}{g:FuncId}{args:List Value}{w:World}{k k':KV}(h:Cl P g args w k)(hk:∀v w',k v w'->k' v w'):Cl P g args w k':=⟨Calls.mono h.out λe w' he=>by cases e<;>first|exact hk _ _ he|exact he⟩
def evs(f:Fr)(xs:Array Operand):List Value:=xs.toList.map (ev f)
def eff(P:Program)(f:Fr)(o:Oper)(w:World)(k:KV):Prop:=match o.op with
 | .load t a=>(match mW P t with
  | some false=>Ld w (ev f a) k
  | some true=>(match bM P t with
   | some n=>LdN n w (ev f a) k
   | none=>False)
  | none=>False)
 | .store t a x=>(match bM P t with
  | some n=>St n w (ev f a) (ev f x) k
  | none=>False)
 | .alloc t=>(match Bi P t with
  | some cs=>New cs t w k
  | none=>False)
 | .box t x=>New (ev f x).cells t w k
 | .build t parts=>RunS P (Instr.build t (parts.toList.map λp=>(p.1,ev f p.2)).toArray) w k
 | .buildSlice t len parts=>RunS P (Instr.buildSlice t len (parts.toList.map λp=>(p.1,ev f p.2)).toArray) w k
 | .lookup t m i ok=>RunS P (Instr.lookup t (ev f m) (ev f i) ok) w k
 | .mapUpdate t m i x | .insert t m i x=>RunU P (Instr.mapUpdate t (ev f m) (ev f i) (ev f x)) w k
 | .range t x=>RunS P (Instr.range t (ev f x)) w k
 | .next it s=>RunS P (Instr.next (ev f it) s o.type) w k
 | .entry it=>RunS P (Instr.entry (ev f it)) w k
 | .makeMap t r=>RunS P (Instr.makeMap t (qn f r)) w k
 | .makeSlice t l c=>RunS P (Instr.makeSlice t (ev f l) (ev f c)) w k
 | .convert src dst x=>RunS P (convert src dst (ev f x)) w k
 | .binOp op t x y _=>RunS P (do eqGuard op t x y (ev f x) (ev f y);binOp op t (ev f x) (ev f y)) w k
 | .slice t x lo hi mx=>RunS P (Instr.sliceAt t (ev f x) (qn f lo) (qn f hi) (qn f mx)) w k
 | .makeInterface t x=>RunS P (Instr.makeInterface t (ev f x)) w k
 | .call c=>(match c.callee with
  | .value (.func g)=>bif jw P g then Cl P g (evs f c.args) w k else False
  | .value x=>ClV P (ev f x) (evs f c.args) w k
  | .builtin .append=>RunS P (Builtin.append_ c.argTypes o.type (evs f c.args).toArray) w k
  | .builtin .copy=>RunS P (Builtin.copy_ c.argTypes o.type (evs f c.args).toArray) w k
  | .builtin .delete=>RunS P (Builtin.delete_ c.argTypes o.type (evs f c.args).toArray) w k
  | .builtin .clear=>RunS P (Builtin.clear_ c.argTypes o.type (evs f c.args).toArray) w k
  | .builtin .len=>RunS P (Builtin.len_ c.argTypes o.type (evs f c.args).toArray) w k
  | .builtin .cap=>RunS P (Builtin.cap_ c.argTypes o.type (evs f c.args).toArray) w k
  | _=>False)
 | _=>False
def mvV(f:Fr)(o:Oper):Option Value:=match o.op with
 | .move x | .assign x=>some (ev f x)
 | .makeFunc fn first captured=>some (.func fn ((first.toList.map (ev f)).toArray) ((captured.toList.map (ev f)).toArray))
 | _=>none
theorem EW{P:Program}{f:Fr}{o:Oper}{v:Value}(h:mvV f o=some v):pu P f o=some (some v):=by obtain⟨dst,op,type,pos,after,guard⟩:=o;cases op<;>simp only[mvV,reduceCtorEq,H4] at h<;>subst h<;>rfl
def exO(P:Program)(f:Fr)(o:Oper)(w:World)(k:KV):Prop:=match mvV f o with
 | some v=>k v w
 | none=>(match pu P f o with
  | some r=>Pu r (λv=>k v w)
  | none=>eff P f o w k)
theorem sB(P:Program)(f:Fr)(o:Oper)(w:World)(k:KV):exO P f o w k=(match pu P f o with
  | some r=>Pu r (λv=>k v w)
  | none=>eff P f o w k):=by
 unfold exO;cases h:mvV f o with
 | none=>rfl
 | some v=>rw[EW (P:=P) h];simp only[bB]
theorem ko(f:Fr)(xs:Array Operand):(evs f xs).toArray=xs.map (ev f):=ck xs (ev f)
theorem bQ{P:Program}{s:Sem Value}{w:World}{k:KV}(h:RunS P s w k):SN P k ((do pure (Next.value (<- s)):Sem Next).run P w):=by
 have h:=h.out;unfold RunS0 at h;simp only[Sem.run_bind];cases hs:s.run P w with
 | ok v w'=>simp only[hs] at h;exact h
 | halt x w'=>simp only[hs] at h
theorem vD{P:Program}{s:Sem Unit}{w:World}{k:KV}(h:RunU P s w k):SN P k ((do s;pure Next.skip:Sem Next).run P w):=by
 have h:=h.out;unfold RunU0 at h;simp only[Sem.run_bind];cases hs:s.run P w with
 | ok v w'=>simp only[hs] at h;exact h
 | halt x w'=>simp only[hs] at h
theorem dV{P:Program}{w:World}{a:Addr}:∀(n i:Nat) (acc:Array Value) (l:List Value),bC w a i n=some l->(loadCellsFrom a i n acc).run P w=.ok (acc++l.toArray) w:=by
 intro n;induction n with
 | zero=>intro i acc l h;simp[bC] at h;subst h;simp[loadCellsFrom]
 | succ n ih=>
  intro i acc l h;simp only[bC] at h;cases hc:w.cell? (a.add i) with
  | none=>simp[hc] at h
  | some v=>simp only[hc] at h;rw[E6] at h;obtain⟨l',hl,rfl⟩:=h;simp[loadCellsFrom,hc,ih _ _ _ hl]
theorem lL{P:Program}{a:Addr}:∀(l:List Value) (i:Nat) (w w':World),stC a i l w=some w'->(storeCells a l i).run P w=.ok () w':=by
 intro l;induction l with
 | nil=>intro i w w' h;simp[stC] at h;subst h;simp[storeCells]
 | cons v l ih=>
  intro i w w' h;simp only[stC] at h;cases hv:v.oneCell' with
  | false=>simp[hv] at h
  | true=>
   simp only[hv,D8] at h;cases hc:w.cell? (a.add i) with
   | none=>simp[hc] at h
   | some u=>
    simp only[hc] at h;cases hf:w.frozen? (a.add i) with
    | true=>simp[hf] at h
    | false=>simp only[hf,C8] at h;simp[storeCells,run_store _ _ _ _ _ hv,hc,hf,ih _ _ _ h]
theorem ow{P:Program}{g:FuncId}{args:Array Value}{w:World}(h:jw P g=true):(callFunc g args).run P w=.ok (.enter g args) w:=by
 unfold jw at h;unfold callFunc;simp only[Sem.run_bind,run_program,Result.andThen_ok];cases hf:P.funcs[g]? with
 | none=>simp[hf] at h
 | some fn=>
  simp only[hf,E0,JQ] at h;obtain⟨hb,hn⟩:=h;have hb':fn.body.isNone=false:=by cases hx:fn.body<;>simp_all
  simp only[hn,hb']
  rfl
theorem Ct{P:Program}{f:Fr}{o:Oper}{w:World}{k:KV}(h:eff P f o w k):SN P k ((execOp (ev f) o).run P w):=by
 obtain⟨dst,op,type,pos,after,guard⟩:=o;have hmo:∀q:Option Operand,Option.map (ev f) q=qn f q:=by intro q;cases q<;>rfl
 have hpr:∀parts:Array (Nat×Operand),(parts.map λ(i,x)=>(i,ev f x))=(parts.toList.map λp=>(p.1,ev f p.2)).toArray:=λparts=>(ck parts _).symm;cases op<;>simp only[eff] at h
 case load t a=>
  simp only[execOp,Instr.loadAt];cases ha:mW P t with
  | none=>simp[ha] at h
  | some b=>
   cases b with
   | false=>
    simp only[ha] at h;have h:=h.out;cases hx:ev f a<;>simp only[hx,Ld0] at h;rename_i ad;cases ad<;>simp only at h;rename_i ad;cases hc:w.cell? ad with
    | none=>simp[hc] at h
    | some u=>simp only[hc] at h;simp[Instr.sureAddr,loadVar,dZ ha,hc];exact h
   | true=>
    simp only[ha] at h;cases hz:bM P t with
    | none=>simp[hz] at h
    | some n=>
     simp only[hz] at h;have h:=h.out;cases hx:ev f a<;>simp only[hx,LdN0] at h;rename_i ad;cases ad<;>simp only at h;rename_i ad;cases hc:bC w ad 0 n with
     | none=>simp[hc] at h
     | some l=>simp only[hc] at h;simp[Instr.sureAddr,loadVar,dZ ha,bb hz,loadCells,dV _ _ _ _ hc];exact h
 case store t a x=>
  simp only[execOp,Instr.storeAt];cases hz:bM P t with
  | none=>simp[hz] at h
  | some n=>
   simp only[hz] at h;have h:=h.out;cases hx:ev f a<;>simp only[hx,St0] at h;rename_i ad;cases ad<;>simp only at h;rename_i ad;cases hn:Nat.beq (ev f x).cells.size n with
   | false=>simp[hn] at h
   | true=>
    have hn':=I4 hn;simp only[hn,D8] at h;cases hs:stC ad 0 (ev f x).cells.toList w with
    | none=>simp[hs] at h
    | some w'=>simp only[hs] at h;simp[Instr.sureAddr,storeVar,bb hz,hn',lL _ _ _ _ hs];exact h
 case alloc t=>
  simp only[execOp];refine bQ ?_;unfold Bi at h;cases hi:P.info? t with
  | none=>simp[hi] at h
  | some i=>
   cases hz:i.zero with
   | none=>simp[hi,hz] at h
   | some z=>simp[hi,hz] at h;have h:=h.out;refine⟨?_⟩;simp[RunS0,Instr.alloc,zeroValue,js hi,hz,newVar,newRow];exact h
 case box t x=>simp only[execOp];refine bQ ?_;have h:=h.out;refine⟨?_⟩;simp[RunS0,Instr.box,newVar,newRow];exact h
 case build t parts=>simp only[execOp,hpr];exact bQ h
 case buildSlice t n parts=>simp only[execOp,hpr];exact bQ h
 case lookup=>exact bQ h
 case mapUpdate=>exact vD h
 case insert=>exact vD h
 case range=>exact bQ h
 case next=>exact bQ h
 case entry=>exact bQ h
 case makeMap t r=>simp only[execOp,hmo];exact bQ h
 case makeSlice=>exact bQ h
 case convert=>exact bQ h
 case binOp=>exact bQ h
 case slice t x lo hi mx=>simp only[execOp,hmo];exact bQ h
 case makeInterface=>exact bQ h
 case call c=>
  obtain⟨callee,args,argTypes⟩:=c;cases callee<;>simp only at h
  case value x=>
   have general:ClV P (ev f x) (evs f args) w k->SN P k ((execOp (ev f) ⟨dst,.call ⟨.value x,args,argTypes⟩,type,pos,after,guard⟩).run P w):=by
    intro h;simp only[execOp,resolve,Sem.run_bind];have h:=h.out;cases hx:ev f x<;>simp only[hx,ClV0] at h;rename_i fn first captured
    cases fn<;>simp only at h;rename_i g;cases hb:jw P g with
    | false=>simp[hb] at h
    | true=>
     simp only[hb,D8] at h;simp only[Deferred.ofValue,Sem.run_pure,Result.andThen_ok,invoke,ow hb,zB];have e:(first.toList++evs f args++captured.toList).toArray=first++args.map (ev f)++captured:=by rw[<- ko];simp
     have h:=h.out;unfold Cl0 at h;rw[e] at h;exact h
   cases x<;>simp only at h
   case func g=>refine general ⟨?_⟩;simp only[ev,ClV0];simpa using h
   all_goals exact general h
  case builtin b=>
   cases b<;>simp only[ko] at h
   all_goals (simp only[execOp,resolve,Sem.run_bind,Sem.run_pure,Result.andThen_ok,invoke,builtin];have hr:=bQ h;simp only[Sem.run_bind,Sem.run_pure] at hr;exact hr)
theorem kq{P:Program}{f:Fr}{o:Oper}{w:World}{k:KV}(h:exO P f o w k):SN P k ((execOp (ev f) o).run P w):=by
 rw[sB] at h;cases hp:pu P f o with
 | none=>simp only[hp] at h;exact Ct h
 | some r=>
  simp only[hp] at h;cases r with
  | none=>exact h.out.elim
  | some v=>rw[yi hp];exact h.out
inductive Ex where
 | normal
 | exit (id : Nat)
 | ret
abbrev KQ:=Ex->Fr->World->Prop
def isB(b:Bool):Value->Bool
 | .bool c=>bif b then c else !c
 | _=>false
def Gd0(c:Bool)(X:KV->Prop)(w:World)(k:KV):Prop:=bif c then X k else k undef w
structure Gd (c : Bool) (X : KV → Prop) (w : World) (k : KV) : Prop where
 out : Gd0 c X w k
def yl(ops:Array Oper)(f:Fr)(j:Nat):Value:=match (ops.toList[j]?).bind (·.dst) with
 | some d=>f d
 | none=>undef
def GdG0(c:Bool)(X:KV->Prop)(w:World)(k:Fr->KV):Prop:=bif c then X (λv w'=>∀g,k g v w') else ∀g,k g undef w
structure GdG (c : Bool) (X : KV → Prop) (w : World) (k : Fr → KV) : Prop where
 out : GdG0 c X w k
def fZ:List Oper->List Nat
 | []=>[]
 | o::l=>match o.dst with
  | some d=>d::fZ l
  | none=>fZ l
def df:List Nat->Nat->Bool
 | [],_=>false
 | x::l,j=>bif Nat.beq x j then true else df l j
def hav(M:List Nat)(g f:Fr):Fr:=λj=>bif df M j then g j else f j
def jx(d:Option Nat)(j:Nat)(b:Bool)(o x:Oper):Bool:=match x.guard with
 | some (i,c)=>bif Nat.beq i j then(bif b then c else !c)&&(match d,o.dst with
  | some e,some e'=>!Nat.beq e e'
  | _,_=>true) else false
 | none=>false
def gh(q:Oper->Oper->Bool):Oper->List Oper->List Oper×Oper×List Oper
 | o,[]=>([],o,[])
 | o,x::l=>bif q o x then(match gh q x l with
  | (fr,la,re)=>(o::fr,la,re)) else([],o,x::l)
def KG(P:Program)(n:Nat)(la:Oper):List Oper->Fr->World->KV->Prop
 | [],f,w,kk=>exO P f la w kk
 | o::l,f,w,kk=>exO P f o w (λv w'=>KG P n la l (fT n f o.dst v) w' kk)
def KO(P:Program)(n:Nat)(ops:Array Oper):Nat->List Oper->Fr->World->(Fr->World->Prop)->Prop
 | _,[],f,w,k=>k f w
 | 0,_::_,_,_,_=>False
 | m+1,o::l,f,w,k=>match o.guard with
  | none=>exO P f o w (λv w'=>KO P n ops m l (fT n f o.dst v) w' k)
  | some (j,b)=>match gh (jx ((ops.toList[j]?).bind (·.dst)) j b) o l with
   | ([],la,re)=>Gd (isB b (yl ops f j)) (λk'=>exO P f la w k') w (λv w'=>KO P n ops m re (fT n f la.dst v) w' k)
   | (x::fr,la,re)=>GdG (isB b (yl ops f j)) (KG P n la (x::fr) f w) w (λg v w'=>KO P n ops m re (fT n (hav (fZ (x::fr)) g f) la.dst v) w' k)
def IfB0(v:Value)(a b:Prop):Prop:=match v with
 | .bool true=>a
 | .bool false=>b
 | _=>False
structure IfB (v : Value) (a b : Prop) : Prop where
 out : IfB0 v a b
structure Jn (B : List Value → World → Prop) (A : (List Value → World → Prop) → Prop) : Prop where
 out : A B
def ml:Code->List Nat
 | .region _ ops _=>fZ ops.toList
 | .seq a b=>ml a++ml b
 | .cond _ a b=>ml a++ml b
 | .block _ c=>ml c
 | .loop c=>ml c
 | _=>[]
def BC:Code->Bool
 | .region ..=>true
 | .seq a b=>bif BC a then true else BC b
 | .cond _ a b=>bif BC a then true else BC b
 | .block _ c=>BC c
 | .loop c=>BC c
 | _=>false
def zv:Code->Nat
 | .region id _ _=>id
 | .seq a b=>bif BC a then zv a else zv b
 | .cond _ a b=>bif BC a then zv a else zv b
 | .block _ c=>zv c
 | .loop c=>zv c
 | _=>0
def bo:Code->Nat
 | .region id _ _=>id
 | .seq a _=>bo a
 | .block _ c=>bo c
 | .loop c=>bo c
 | _=>0
def DU:List Nat->(Fr->Prop)->Fr->Prop
 | [],p,f=>p f
 | s::L,p,f=>∀v,DU L p (upd f s v)
def ExV:List Nat->List Value->(Fr->Prop)->Fr->List Value->Prop
 | [],acc,p,f,vs=>vs=acc/\p f
 | s::L,acc,p,f,vs=>∃v,ExV L (acc++[v]) p (upd f s v) vs
abbrev DrawK:=Program->Nat->Array Oper->Fr->World->(Fr->World->Prop)->Prop
def K(D:DrawK)(P:Program)(n:Nat)(lv:Nat->List Nat)(jn:Nat->Option (List Nat)):Code->KQ->Fr->World->Prop
 | .skip,Q,f,w=>Q .normal f w
 | .label _,Q,f,w=>Q .normal f w
 | .region _ ops d,Q,f,w=>bif d then D P n ops f w (Q .normal) else KO P n ops ops.toList.length ops.toList f w (Q .normal)
 | .seq a b,Q,f,w=>match jn (zv b) with
  | none=>K D P n lv jn a (λe f' w'=>match e with
   | .normal=>K D P n lv jn b Q f' w'
   | .exit i=>Q (.exit i) f' w'
   | .ret=>Q .ret f' w') f w
  | some L=>Jn (λvs w'=>∀g,ExV L [] (λf'=>K D P n lv jn b Q f' w') (hav (ml a) g f) vs)
    (λkk=>K D P n lv jn a (λe f' w'=>match e with
     | .normal=>kk (L.map f') w'
     | .exit i=>Q (.exit i) f' w'
     | .ret=>Q .ret f' w') f w)
 | .cond c x y,Q,f,w=>IfB (ev f c) (K D P n lv jn x Q f w) (K D P n lv jn y Q f w)
 | .block id c,Q,f,w=>K D P n lv jn c (λe f' w'=>match e with
  | .normal=>Q .normal f' w'
  | .exit i=>bif Nat.beq i id then Q .normal f' w' else Q (.exit i) f' w'
  | .ret=>Q .ret f' w') f w
 | .loop c,Q,f,w=>∃(I:List Value->World->Prop) (μ:List Value->World->Nat),I ((lv (bo c)).map f) w /\
   ∀g w',DU (lv (bo c)) (λf1=>I ((lv (bo c)).map f1) w'->K D P n lv jn c (λe f2 w2=>match e with
    | .normal=>I ((lv (bo c)).map f2) w2/\μ ((lv (bo c)).map f2) w2<μ ((lv (bo c)).map f1) w'
    | .exit i=>Q (.exit i) f2 w2
    | .ret=>Q .ret f2 w2) f1 w') (hav (ml c) g f)
 | .exit id,Q,f,w=>Q (.exit id) f w
 | .ret,Q,f,w=>Q .ret f w
 | _,_,_,_=>False
def DS(n:Nat)(d:List Deferred)(M:List Nat)(f0:Fr)(Q:KQ):Exit->Act->World->Prop:=λe a w=>
 a.tmps.size=n/\a.defers=d/\(∀j,df M j=false->FR a j=f0 j)/\(match e with
  | .normal=>Q .normal (FR a) w
  | .exit i=>Q (.exit i) (FR a) w
  | .ret=>Q .ret (FR a) w
  | _=>False)
theorem eu(l m:List Nat)(j:Nat):df (l++m) j=(df l j||df m j):=by
 induction l with
 | nil=>rfl
 | cons x l ih=>simp only[Jj,df];cases Nat.beq x j<;>simp[ih]
theorem kF(d:Nat)(l:List Nat):df (d::l) d=true:=by simp[df,JW]
theorem tz(f:Fr)(s:Nat):upd f s (f s)=f:=by
 funext j;unfold upd;cases h:Nat.beq j s with
 | false=>rfl
 | true=>have:=I4 h;subst this;rfl
theorem oe:∀(L:List Nat) (p:Fr->Prop) (f:Fr),DU L p f->p f
 | [],_,_,h=>h
 | s::L,p,f,h=>by
  have:=oe L p _ (h (f s))
  rwa [tz] at this
theorem jD{M:List Nat}{g f:Fr}(h:∀j,df M j=false->g j=f j):hav M g f=g:=by
 funext j;unfold hav;cases hm:df M j with
 | false=>exact(h j hm).symm
 | true=>rfl
theorem rS:∀(L:List Nat) (acc:List Value) (p:Fr->Prop) (f f0:Fr),f=f0->ExV L acc p f (acc++L.map f0)->p f0
 | [],acc,p,f,f0,hf,h=>by subst hf;exact h.2
 | s::L,acc,p,f,f0,hf,h=>by
  subst hf;obtain⟨v,h⟩:=h;have key:∀(L:List Nat) (acc:List Value) (g:Fr) (vs:List Value),ExV L acc p g vs->∃l,vs=acc++l:=by
   intro L;induction L with
   | nil=>intro acc g vs h;exact⟨[],by simp[h.1]⟩
   | cons s L ih=>intro acc g vs h;obtain⟨v,h⟩:=h;obtain⟨l,hl⟩:=ih _ _ _ h;exact⟨v::l,by simp[hl]⟩
  obtain⟨l,hl⟩:=key _ _ _ _ h;have hv:v=f s:=by rw[Ji,G7] at hl;have:=List.append_cancel_left hl;simp at this;exact this.1.symm
  subst hv;rw[tz] at h;exact rS L (acc++[f s]) p f f rfl (by simpa using h)
theorem mU{P:Program}{o:Oper}{a:Act}{next:Act->World->Prop}{Q:Exit->Act->World->Prop}{r:Result Next}{k:KV}
  (hk:∀v w,k v w->next (a.put o.dst v) w) (h:SN P k r):o.upon P a next Q r:=by
 cases r with
 | halt x w=>exact h.elim
 | ok x w=>
  cases x<;>simp only[SN] at h<;>simp only[Oper.upon]
  ·exact hk _ _ h
  ·exact hk _ _ h
  ·have h:=h.out;unfold Cl0 at h;simp only[Array.toArray_toList] at h;refine h.mono λe w' he=>?_;cases e<;>first|exact hk _ _ he|exact he.elim
theorem gM(ops:Array Oper)(a:Act)(j:Nat)(b:Bool):(yielded ops a.tmps j == some b)=isB b (yl ops (FR a) j):=by
 unfold yielded yl FR;simp only[Array.getElem?_toList];cases hd:(ops[j]?).bind (·.dst) with
 | none=>cases b<;>rfl
 | some d=>
  simp only[IW,Ky];cases ht:a.tmps[d]? with
  | none=>cases b<;>rfl
  | some v=>simp only[JH];cases v<;>cases b<;>first|rfl|(rename_i c;cases c<;>rfl)
theorem nS(q:Oper->Oper->Bool):∀(l:List Oper) (o:Oper),o::l=(gh q o l).1++(gh q o l).2.1::(gh q o l).2.2
 | [],o=>rfl
 | x::l,o=>by
  unfold gh;cases q o x with
  | false=>rfl
  | true=>simp only[D8,Jj];rw[<- nS q l x]
theorem uM{d:Option Nat}{j:Nat}{b:Bool}{o x:Oper}(h:jx d j b o x=true):x.guard=some (j,b)/\∀e,d=some e->o.dst≠some e:=by
 unfold jx at h;cases hg:x.guard with
 | none=>rw[hg] at h;cases h
 | some p=>
  obtain⟨i,c⟩:=p;rw[hg] at h;simp only at h;cases hi:Nat.beq i j with
  | false=>rw[hi] at h;cases h
  | true=>rw[hi] at h;have hi:=I4 hi;subst hi;simp only[D8,E0] at h;obtain⟨h1,h2⟩:=h;refine⟨by cases b<;>cases c<;>simp_all,?_⟩;intro e he ho;subst he;rw[ho] at h2;simp[JW] at h2
theorem pW{d:Option Nat}{j:Nat}{b:Bool}:∀(l:List Oper) (o:Oper),(∀x∈(gh (jx d j b) o l).1,∀e,d=some e->x.dst≠some e)/\(∀x∈(gh (jx d j b) o l).1++[(gh (jx d j b) o l).2.1],x=o\/x.guard=some (j,b))
 | [],o=>⟨by simp[gh],by simp[gh]⟩
 | x::l,o=>by
  unfold gh;cases hq:jx d j b o x with
  | false=>exact⟨sI,sI⟩
  | true=>
   obtain⟨h1,h2⟩:=pW (d:=d) (j:=j) (b:=b) l x;obtain⟨h3,h4⟩:=uM hq;simp only[D8];refine⟨λy hy=>?_,λy hy=>?_⟩
   ·rcases H3.1 hy with rfl|hy
    ·exact h4
    ·exact h1 y hy
   ·rw[Jj] at hy;rcases H3.1 hy with rfl|hy
    ·exact .inl rfl
    ·rcases h2 y hy with rfl|h
     ·exact .inr h3
     ·exact .inr h
theorem yP(q:Oper->Oper->Bool)(l:List Oper)(o:Oper):(gh q o l).2.2.length<=l.length:=by have:=IR List.length (nS q l o);simp at this;omega
theorem kg(l m:List Oper):fZ (l++m)=fZ l++fZ m:=by
 induction l with
 | nil=>rfl
 | cons o l ih=>simp only[Jj,fZ];split<;>simp[ih]
theorem FE{ops:Array Oper}{j n:Nat}{f:Fr}{o:Option Nat}{v:Value}(h:∀e,(ops.toList[j]?).bind (·.dst)=some e->o≠some e):yl ops (fT n f o v) j=yl ops f j:=by
 unfold yl;cases hd:(ops.toList[j]?).bind (·.dst) with
 | none=>rfl
 | some d=>simp only;rw[fU];exact h d hd
theorem Eb{P:Program}{n:Nat}{ops:Array Oper}{Φ:Exit->Act->World->Prop}{j:Nat}{b c:Bool}{la:Oper}{re:List Oper}{k:Fr->KV}{f0:Fr}
  (hla:la.guard=some (j,b)):∀(l:List Oper) (D:List Nat) (a:Act) (w:World) (hre:∀(a':Act) (w':World) (v:Value),a'.tmps.size=n->a'.defers=a.defers->(∀i,df (D++fZ l) i=false->FR a' i=f0 i)->(∀g,k g v w')->(hav (D++fZ l) (FR a') f0=FR a'->wpList P ops Φ re (a'.put la.dst v) w')),
  (∀x∈l,x.guard=some (j,b))->(∀x∈l,∀e,(ops.toList[j]?).bind (·.dst)=some e->x.dst≠some e) ->
  a.tmps.size=n->(∀i,df D i=false->FR a i=f0 i)->isB b (yl ops (FR a) j)=c ->
  (bif c then KG P n la l (FR a) w (λv w'=>∀g,k g v w') else ∀g,k g undef w)->wpList P ops Φ (l++la::re) a w
 | [],D,a,w,hre,hl,hd,hn,hf,hc,h=>by
  simp only[H9,wpList];have hw:Region.wanted la (yielded ops a.tmps)=c:=by simp only[Region.wanted,hla];rw[<- hc];exact gM ops a j b
  have hs:fZ []=[]:=rfl;rw[hs,H1] at hre;rw[hw];cases c with
  | true=>simp only[if_true];refine .inl ?_;simp only[D8,KG] at h;have hr:=kq h;rw[oO] at hr;exact mU (λv w' hk=>hre a w' v hn rfl hf hk (jD hf)) hr
  | false=>simp only[Bool.false_eq_true,if_false];exact hre a w undef hn rfl hf (by simpa using h) (jD hf)
 | o::l,D,a,w,hre,hl,hd,hn,hf,hc,h=>by
  have hog:=hl o (Js ..);have hod:=hd o (Js ..);simp only[Jj,wpList];have hw:Region.wanted o (yielded ops a.tmps)=c:=by simp only[Region.wanted,hog];rw[<- hc];exact gM ops a j b
  rw[hw];have hds:D++fZ (o::l)=(D++fZ [o])++fZ l:=by rw[G7,<- kg];rfl
  rw[hds] at hre;have step:∀v w',(bif c then KG P n la l (FR (a.put o.dst v)) w' (λv w'=>∀g,k g v w') else ∀g,k g undef w')->wpList P ops Φ (l++la::re) (a.put o.dst v) w':=by
   intro v w' h';refine Eb (f0:=f0) hla l (D++fZ [o]) _ w' ?_ (λx hx=>hl x (Jp _ hx)) (λx hx=>hd x (Jp _ hx)) ((jH a _ _).trans hn) (λi hi=>?_) ?_ h'
   ·intro a' w2 v2 h1 h2 h3 h4 h5;exact hre a' w2 v2 h1 (h2.trans (fV a _ _)) h3 h4 h5
   ·rw[eu,JO] at hi;rw[jd,fU]
    ·exact hf i hi.1
    ·intro e;have:df (fZ [o]) i=true:=by simp only[fZ,e];exact kF _ _
     rw[hi.2] at this;cases this
   ·rw[jd,FE hod];exact hc
  cases c with
  | true=>simp only[if_true];refine .inl ?_;simp only[D8,KG] at h;have hr:=kq h;rw[oO] at hr;exact mU (λv w' hk=>step v w' (by rw[jd,hn];exact hk)) hr
  | false=>simp only[Bool.false_eq_true,if_false];exact step undef w (by simpa using h)
theorem Ec{P:Program}{n:Nat}{ops:Array Oper}{d:List Deferred}{M:List Nat}{f0:Fr}{Q:KQ}:∀(m:Nat) (l:List Oper) (a:Act) (w:World),
  l.length<=m->(∀j,df (fZ l) j=true->df M j=true)->a.tmps.size=n->a.defers=d->(∀j,df M j=false->FR a j=f0 j) ->
  KO P n ops m l (FR a) w (Q .normal)->wpList P ops (DS n d M f0 Q) l a w
 | m,[],a,w,_,_,hn,hd,hf,h=>⟨hn,hd,hf,by cases m<;>exact h⟩
 | 0,_::_,_,_,hm,_,_,_,_,_=>absurd hm sI
 | m+1,o::l,a,w,hm,hM,hn,hd,hf,h=>by
  have hm':l.length<=m:=by simpa using hm
  have step:∀(x:Oper) (re:List Oper),x∈o::l->(∀y∈re,y∈o::l)->re.length<=m->∀(a':Act),a'.tmps.size=n->a'.defers=d->(∀j,df M j=false->FR a' j=f0 j)->∀v w',KO P n ops m re (fT n (FR a') x.dst v) w' (Q .normal)->wpList P ops (DS n d M f0 Q) re (a'.put x.dst v) w':=by
   intro x re hx hre hlen a' g1 g2 g3 v w' h';have hin:∀y∈o::l,∀i,y.dst=some i->df M i=true:=by
    intro y hy i hi;refine hM i ?_;have:∀(l:List Oper),y∈l->df (fZ l) i=true:=by
     intro l;induction l with
     | nil=>intro h;cases h
     | cons z l ih=>
      intro h;rcases H3.1 h with rfl|h
      ·simp only[fZ,hi];exact kF _ _
      ·simp only[fZ];split
       ·rw[df];cases Nat.beq _ i<;>simp[ih h]
       ·exact ih h
    exact this _ hy
   refine Ec m re _ _ hlen (λj hj=>?_) ((jH a' _ _).trans g1) ((fV a' _ _).trans g2) (λj hj=>?_) (by rw[jd,g1];exact h')
   ·have:∀(l:List Oper),df (fZ l) j=true->∃y∈l,y.dst=some j:=by
     intro l;induction l with
     | nil=>intro h;cases h
     | cons z l ih=>
      intro h;simp only[fZ] at h;cases hz:z.dst with
      | none=>rw[hz] at h;obtain⟨y,h1,h2⟩:=ih h;exact⟨y,Jp _ h1,h2⟩
      | some e=>
       rw[hz] at h;simp only[df] at h;cases he:Nat.beq e j with
       | true=>exact⟨z,Js ..,by rw[hz,I4 he]⟩
       | false=>rw[he] at h;obtain⟨y,h1,h2⟩:=ih (by simpa using h);exact⟨y,Jp _ h1,h2⟩
    obtain⟨y,h1,h2⟩:=this re hj;exact hin y (hre y h1) j h2
   ·rw[jd,fU]
    ·exact g3 j hj
    ·intro e;have:=hin x hx j e;rw[hj] at this;cases this
  simp only[KO] at h;cases hg:o.guard with
  | none=>simp only[wpList];simp only[hg] at h;rw[IY (by simp[Region.wanted,hg])];refine .inl ?_;have hr:=kq h;rw[oO] at hr;exact mU (step o l (Js ..) (λy hy=>Jp _ hy) hm' a hn hd hf) hr
  | some g=>
   obtain⟨j,b⟩:=g;simp only[hg] at h;have heq:=nS (jx ((ops.toList[j]?).bind (·.dst)) j b) l o;obtain⟨hall1,hall2⟩:=pW (d:=(ops.toList[j]?).bind (·.dst)) (j:=j) (b:=b) l o;have hlen:=yP (jx ((ops.toList[j]?).bind (·.dst)) j b) l o;generalize hsp:gh (jx ((ops.toList[j]?).bind (·.dst)) j b) o l=sp at h heq hall1 hall2 hlen;obtain⟨fr,la,re⟩:=sp;simp only at heq hall1 hall2 hlen h;rw[heq] at step ⊢;have hgd:∀x∈fr++[la],x.guard=some (j,b):=by
    intro x hx;rcases hall2 x hx with rfl|h
    ·exact hg
    ·exact h
   have hlam:la∈fr++la::re:=sI;have hrem:∀y∈re,y∈fr++la::re:=λy hy=>by simp[hy]
   have hfrM:∀i,df (fZ fr) i=true->df M i=true:=by intro i hi;refine hM i ?_;rw[heq,kg,eu,hi];rfl
   have fin:∀k:Fr->KV,(∀g v w',k g v w'=KO P n ops m re (fT n (hav (fZ fr) g (FR a)) la.dst v) w' (Q .normal))->(bif isB b (yl ops (FR a) j) then KG P n la fr (FR a) w (λv w'=>∀g,k g v w') else ∀g,k g undef w)->wpList P ops (DS n d M f0 Q) (fr++la::re) a w:=by
    intro k hk h;refine Eb (f0:=FR a) (k:=k) (hgd la sI) fr [] a w ?_ (λx hx=>hgd x (by simp[hx])) hall1 hn (λ_ _=>rfl) rfl h;intro a' w' v g1 g2 g3 g4 g5;have g6:=g4 (FR a');rw[hk] at g6;rw[H9] at g5 g3;rw[g5] at g6;refine step la re hlam hrem (F8 hlen hm') a' g1 (g2.trans hd) (λi hi=>?_) v w' g6;rw[g3 i ?_]
    ·exact hf i hi
    ·cases hc:df (fZ fr) i with
     | false=>rfl
     | true=>rw[hfrM i hc] at hi;cases hi
   cases fr with
   | nil=>
    simp only at h;have h:=h.out;unfold Gd0 at h;refine fin (λg v w'=>KO P n ops m re (fT n (FR a) la.dst v) w' (Q .normal)) (λg v w'=>rfl) ?_;cases hc:isB b (yl ops (FR a) j) with
    | true=>
     rw[hc] at h;simp only[D8] at h ⊢;simp only[KG];have e:(λv w'=>∀_:Fr,KO P n ops m re (fT n (FR a) la.dst v) w' (Q .normal))=λv w'=>KO P n ops m re (fT n (FR a) la.dst v) w' (Q .normal):=by funext v w';exact propext ⟨λh=>h (FR a),λh _=>h⟩
     rw[e];exact h
    | false=>rw[hc] at h;simp only[C8] at h ⊢;exact λ_=>h
   | cons x fr=>simp only at h;exact fin _ (λ_ _ _=>rfl) h.out
def gN(D:DrawK):Prop:=∀(P:Program) (n id:Nat) (ops:Array Oper) (a:Act) (w:World) (k:Fr->World->Prop) (d:List Deferred) (M:List Nat) (f0:Fr) (Q:KQ),
 P.follows .mixedOrders=true->(∀j,df (fZ ops.toList) j=true->df M j=true)->a.tmps.size=n->a.defers=d->(∀j,df M j=false->FR a j=f0 j)->k=Q .normal ->
 D P n ops (FR a) w k->(Code.region id ops true).wp P (DS n d M f0 Q) a w
theorem HO{D:DrawK}(hD:gN D){P:Program}(hm:P.follows .mixedOrders=true){n:Nat}{lv:Nat->List Nat}{jn:Nat->Option (List Nat)}:∀(c:Code) (d:List Deferred) (M:List Nat) (f0:Fr) (Q:KQ) (a:Act) (w:World),
  (∀j,df (ml c) j=true->df M j=true)->a.tmps.size=n->a.defers=d->(∀j,df M j=false->FR a j=f0 j) ->
  K D P n lv jn c Q (FR a) w->c.wp P (DS n d M f0 Q) a w:=by
 intro c;induction c with
 | skip=>intro d M f0 Q a w _ hn hd hf h;exact wp_skip ⟨hn,hd,hf,h⟩
 | label l=>intro d M f0 Q a w _ hn hd hf h;exact wp_label ⟨hn,hd,hf,h⟩
 | exit id=>intro d M f0 Q a w _ hn hd hf h;exact wp_exit ⟨hn,hd,hf,h⟩
 | ret=>intro d M f0 Q a w _ hn hd hf h;exact wp_ret ⟨hn,hd,hf,h⟩
 | region id ops dr=>
  intro d M f0 Q a w hM hn hd hf h;simp only[ml] at hM;cases dr with
  | true=>exact hD P n id ops a w _ d M f0 Q hm hM hn hd hf rfl h
  | false=>exact wp_region_list (Ec _ _ _ _ (D9 _) hM hn hd hf h)
 | seq x y ihx ihy=>
  intro d M f0 Q a w hM hn hd hf h;simp only[ml,eu,JU] at hM;simp only[K] at h;cases hj:jn (zv y) with
  | none=>
   simp only[hj] at h;refine wp_seq (wp_mono (ihx d M f0 _ a w (λj hj=>hM j (.inl hj)) hn hd hf h) ?_);intro e a' w' ⟨h1,h2,h3,h4⟩;cases e<;>simp only at h4<;>simp only[Exit.then]
   ·exact ihy d M f0 Q a' w' (λj hj=>hM j (.inr hj)) h1 h2 h3 h4
   ·exact⟨h1,h2,h3,h4⟩
   ·exact⟨h1,h2,h3,h4⟩
  | some L=>
   simp only[hj] at h;have h:=h.out;refine wp_seq (wp_mono (ihx d (ml x) (FR a) _ a w (λj hj=>hj) hn hd (λ_ _=>rfl) h) ?_);intro e a' w' ⟨h1,h2,h3,h4⟩;have h5:∀j,df M j=false->FR a' j=f0 j:=λj hj=>by
    rw[h3 j,hf j hj];cases hc:df (ml x) j with
    | false=>rfl
    | true=>rw[hM j (.inl hc)] at hj;cases hj
   cases e<;>simp only at h4<;>simp only[Exit.then]
   ·have h6:=h4 (FR a');rw[jD h3] at h6;exact ihy d M f0 Q a' w' (λj hj=>hM j (.inr hj)) h1 h2 h5 (rS L [] _ _ _ rfl (by simpa using h6))
   ·exact⟨h1,h2,h5,h4⟩
   ·exact⟨h1,h2,h5,h4⟩
 | cond c x y ihx ihy=>
  intro d M f0 Q a w hM hn hd hf h;simp only[ml,eu,JU] at hM;simp only[K] at h;have hv:ev (FR a) c=a.eval c:=by rw[oO]
  rw[hv] at h;have h:=h.out;cases hc:a.eval c<;>simp only[hc,IfB0] at h;rename_i b;cases b
  ·exact wp_cond_false hc (ihy d M f0 Q a w (λj hj=>hM j (.inr hj)) hn hd hf h)
  ·exact wp_cond_true hc (ihx d M f0 Q a w (λj hj=>hM j (.inl hj)) hn hd hf h)
 | block id c ih=>
  intro d M f0 Q a w hM hn hd hf h;refine wp_block (wp_mono (ih d M f0 _ a w hM hn hd hf h) ?_);intro e a' w' ⟨h1,h2,h3,h4⟩;cases e<;>simp only at h4<;>simp only[Exit.inBlock]
  ·exact⟨h1,h2,h3,h4⟩
  ·rename_i i;by_cases hi:i=id
   ·subst hi;rw[IY rfl];simp only[JW,D8] at h4;exact⟨h1,h2,h3,h4⟩
   ·rw[IT hi];have:Nat.beq i id=false:=by cases hb:Nat.beq i id with|false=>rfl|true=>exact absurd (I4 hb) hi
    simp only[this,C8] at h4;exact⟨h1,h2,h3,h4⟩
  ·exact⟨h1,h2,h3,h4⟩
 | loop c ih=>
  intro d M f0 Q a w hM hn hd hf h;obtain⟨I,μ,h0,hstep⟩:=h;refine wp_loop (λa' w'=>a'.tmps.size=n/\a'.defers=d/\(∀j,df (ml c) j=false->FR a' j=FR a j)/\I ((lv (bo c)).map (FR a')) w') (λa' w'=>μ ((lv (bo c)).map (FR a')) w') ⟨hn,hd,λ_ _=>rfl,h0⟩ ?_;intro a' w' ⟨g1,g2,g3,g4⟩;have hs:=hstep (FR a') w';rw[jD g3] at hs;have hs:=oe _ _ _ hs g4;refine wp_mono (ih d (ml c) (FR a) _ a' w' (λ_ hj=>hj) g1 g2 g3 hs) ?_;intro e a2 w2 ⟨h1,h2,h3,h4⟩;have h5:∀j,df M j=false->FR a2 j=f0 j:=λj hj=>by
   rw[h3 j,hf j hj];cases hc:df (ml c) j with
   | false=>rfl
   | true=>rw[hM j hc] at hj;cases hj
  cases e<;>simp only at h4<;>simp only[Exit.then]
  ·exact⟨⟨h1,h2,h3,h4.1⟩,h4.2⟩
  ·exact⟨h1,h2,h5,h4⟩
  ·exact⟨h1,h2,h5,h4⟩
 | rangeFunc=>intro d M f0 Q a w _ _ _ _ h;exact h.elim
 | scope=>intro d M f0 Q a w _ _ _ _ h;exact h.elim
 | goto=>intro d M f0 Q a w _ _ _ _ h;exact h.elim
 | refuse=>intro d M f0 Q a w _ _ _ _ h;exact h.elim
def oa:List Value->Fr
 | [],_=>undef
 | v::_,0=>v
 | _::l,j+1=>oa l j
def yx(P:Program)(f:Fr)(w:World):ResultVar->Option Value
 | .tmp t=>some (f t)
 | .cell a t=>match f a with
  | .pointer (some b)=>(match mW P t with
   | some false=>w.cell? b
   | some true=>(match bM P t with
    | some n=>(bC w b 0 n).map λl=>.agg l.toArray
    | none=>none)
   | none=>none)
  | _=>none
def jq(P:Program)(f:Fr)(w:World):List ResultVar->Option (List Value)
 | []=>some []
 | r::l=>match yx P f w r with
  | some v=>(match jq P f w l with
   | some vs=>some (v::vs)
   | none=>none)
  | none=>none
def Ej:List Value->Value
 | [v]=>v
 | l=>.tuple l.toArray
def qo(r:Option (List Value))(w:World)(k:KV):Prop:=match r with
 | some l=>k (Ej l) w
 | none=>False
def Df(P:Program)(fn:Func)(k:KV):KQ
 | .normal,f,w=>qo (jq P f w fn.results.toList) w k
 | .ret,f,w=>qo (jq P f w fn.results.toList) w k
 | .exit _,_,_=>False
theorem rX:∀(l:List Value) (j:Nat),oa l j=(l[j]?).getD undef
 | [],j=>by simp[oa]
 | v::l,0=>by simp[oa]
 | v::l,j+1=>by simp[oa,rX l j]
def Gn(tmps:Array Value):ResultVar->Sem Value
 | .tmp t=>pure (tmps.getD t undef)
 | .cell c t=>do loadVar t (<- asAddr (tmps.getD c undef))
theorem AL{P:Program}{a:Act}{w:World}{r:ResultVar}{v:Value}(h:yx P (FR a) w r=some v):(Gn a.tmps r).run P w=.ok v w:=by
 cases r with
 | tmp t=>simp only[yx,H4] at h;subst h;rfl
 | cell c t=>
  simp only[yx,FR] at h;simp only[Gn,Sem.run_bind];cases hx:a.tmps.getD c undef<;>simp only[hx,reduceCtorEq] at h;rename_i ad;cases ad<;>simp only[reduceCtorEq] at h;rename_i b;cases ha:mW P t with
  | none=>simp[ha] at h
  | some g=>
   cases g with
   | false=>simp only[ha] at h;simp[asAddr,loadVar,dZ ha,h]
   | true=>
    simp only[ha] at h;cases hz:bM P t with
    | none=>simp[hz] at h
    | some n=>simp only[hz,E6] at h;obtain⟨l,hl,rfl⟩:=h;simp[asAddr,loadVar,dZ ha,bb hz,loadCells,dV _ _ _ _ hl]
theorem rB{P:Program}{fn:Func}{a:Act}{w:World}{l:List Value}(h:jq P (FR a) w fn.results.toList=some l):
  (results fn a.tmps).run P w=.ok (Ej l) w:=by
 have key:∀(rs:List ResultVar) (l:List Value),jq P (FR a) w rs=some l->(rs.mapM (Gn a.tmps)).run P w=.ok l w:=by
  intro rs;induction rs with
  | nil=>intro l h;simp[jq] at h;subst h;simp
  | cons r rs ih=>
   intro l h;simp only[jq] at h;cases hv:yx P (FR a) w r with
   | none=>simp[hv] at h
   | some v=>
    cases hs:jq P (FR a) w rs with
    | none=>simp[hv,hs] at h
    | some vs=>simp only[hv,hs,H4] at h;subst h;rw[List.mapM_cons];simp only[Sem.run_bind];rw[AL hv];simp only[Result.andThen_ok,ih _ hs,Sem.run_pure]
 have e:results fn a.tmps=(do let vs <- fn.results.mapM (Gn a.tmps);pure (if h:vs.size=1 then vs[0] else .tuple vs)):=by unfold results;congr 1
 rw[e,Array.mapM_eq_mapM_toList];simp only[Sem.run_bind,Sem.run_map,key _ _ h,Result.andThen_ok,Sem.run_pure,Result.ok.injEq,and_true]
 match l with
 | []=>rfl
 | [v]=>simp[Ej]
 | v::u::l=>simp[Ej]
theorem BW{D:DrawK}(hD:gN D){P:Program}(hm:P.follows .mixedOrders=true){g:FuncId}{fn:Func}{c:Code}{lv:Nat->List Nat}{jn:Nat->Option (List Nat)}{args:List Value}{w:World}{k:KV}
  (hf:P.funcs[g]?=some fn) (hb:fn.body=some c) (hn:Nat.ble args.length fn.ntmps=true)
  (h:K D P fn.ntmps lv jn c (Df P fn k) (oa args) w):Cl P g args w k:=by
 have hn':args.length<=fn.ntmps:=Nat.le_of_ble_eq_true hn;refine⟨?_⟩;unfold Cl0;refine calls_of_wp hf hb ?_;have hs:(args.toArray++Array.replicate (fn.ntmps - args.toArray.size) undef).size=fn.ntmps:=by simp;omega
 have hF:FR ⟨args.toArray++Array.replicate (fn.ntmps - args.toArray.size) undef,[]⟩=oa args:=by
  funext j;rw[rX];simp only[FR,Ky,Array.getElem?_append,I7,I5];split
  ·rfl
  ·rename_i hj;rw[Jc oM];simp only[Array.getElem?_replicate];split<;>rfl
 refine wp_mono (HO hD hm c [] (ml c) (oa args) (Df P fn k) ⟨_,[]⟩ w (λ_ hj=>hj) hs rfl (λj _=>by rw[hF]) (by rw[hF];exact h)) ?_;intro e a' w' ⟨_,h2,_,h4⟩;have fin:qo (jq P (FR a') w' fn.results.toList) w' k->a'.defers=[]/\∃v,(results fn a'.tmps).run P w'=.ok v w'/\Gw k (.returned v) w':=by
  intro hr;unfold qo at hr;cases hl:jq P (FR a') w' fn.results.toList with
  | none=>simp[hl] at hr
  | some l=>simp only[hl] at hr;exact⟨h2,_,rB hl,hr⟩
 cases e<;>simp only[Df] at h4<;>first|exact fin h4|exact h4.elim
def L0:Nat->List Nat:=λ_=>[]
def J0:Nat->Option (List Nat):=λ_=>none
theorem cE0{D:DrawK}(hD:gN D){P:Program}(hm:P.follows .mixedOrders=true)(lv:Nat->List Nat)(jn:Nat->Option (List Nat)){g:FuncId}{fn:Func}{args:List Value}{w:World}{k:KV}{T:Prop}
  (hf:P.funcs[g]?=some fn) (hb:fn.body.isSome=true) (hn:Nat.ble args.length fn.ntmps=true) (he:K D P fn.ntmps lv jn (fn.body.getD .skip) (Df P fn k) (oa args) w=T) (h:T):Cl P g args w k:=by
 obtain⟨c,hc⟩:=Option.isSome_iff_exists.1 hb;refine BW hD hm (c:=c) hf hc hn (lv:=lv) (jn:=jn) ?_;rw[hc] at he;exact he.symm▸h
abbrev iv(n:Int):Value:=.int .i64 n
abbrev np:Value:=.pointer none
abbrev es:Value:=.string (ByteArray.mk #[])
abbrev tt:Value:=.bool true
abbrev LP:=List Value->World->Prop
abbrev LN:=List Value->World->Nat
abbrev nl:Value:=.slice none 0 0
abbrev pv(b:Nat):Value:=.pointer (some ⟨b,0,none⟩)
abbrev bI(op:BinOp)(a b:Value):Option Value:=aC (.int .i64) op a b
def LF(n:Nat)(x:Value)(w:World)(k:KV):Prop:=Pu (bO x) λa=>Pu (faV n a) λb=>Ld w b k
def LA(n:Nat)(x:Value)(w:World)(k:KV):Prop:=Pu (faV n x) λb=>Ld w b k
def SF(n m:Nat)(x:Value)(w:World)(u:Value)(k:KV):Prop:=Pu (bO x) λa=>Pu (faV n a) λb=>St m w b u k
def SA(n m:Nat)(x:Value)(w:World)(u:Value)(k:KV):Prop:=Pu (faV n x) λb=>St m w b u k
def LI(sz:Nat)(x i:Value)(w:World)(k:KV):Prop:=Pu (ixV sz x i) λb=>Ld w b k
def Bf(d:TypeDesc)(op:BinOp)(a b:Value)(x y:Prop):Prop:=Pu (aC d op a b) λc=>IfB c x y
def BI(op:BinOp)(a b:Value)(x y:Prop):Prop:=Pu (aC (.int .i64) op a b) λc=>IfB c x y
def Pq(c a b:Value)(x y:Prop):Prop:=Pu (aL c a b) λr=>IfB r x y
def X2(t:Value)(k:Value->Value->Prop):Prop:=Pu (bj t 0) λa=>Pu (bj t 1) λb=>k a b
def X3(t:Value)(k:Value->Value->Value->Prop):Prop:=Pu (bj t 0) λa=>Pu (bj t 1) λb=>Pu (bj t 2) λc=>k a b c
def cI(P:Program)(o:Oper):Bool:=match o.op with
 | .move _ | .assign _ | .pick .. | .extract .. | .nilCheck _ | .fieldAddr .. | .field .. | .indexAddr .. | .index .. | .unOp .. | .binOp .. | .slice .. | .makeFunc .. | .load .. | .lookup .. | .build .. | .makeInterface ..=>false
 | .convert _ dst _=>(match P.underlying dst with
  | some (.slice _)=>true
  | _=>false)
 | .call c=>(match c.callee with
  | .builtin .len | .builtin .cap | .builtin .min | .builtin .max=>false
  | _=>true)
 | _=>true
def opC(P:Program)(ops:Array Oper)(j:Nat)(K:Act->World->Prop)(a:Act)(w:World):Prop:=match ops[j]? with
 | none=>K a w
 | some o=>if Region.wanted o (yielded ops a.tmps) then
   (if cI P o=true then SN P (λv w'=>K (a.put o.dst v) w') ((execOp a.eval o).run P w)
    else ∃v,(execOp a.eval o).run P w=.ok (.value v) w/\K (a.put o.dst v) w)
  else K (a.put o.dst undef) w
def wpC(P:Program)(ops:Array Oper)(C:Array Bool->World->Prop)(Q:Act->World->Prop):Nat->Array Bool->Act->World->Prop
 | 0,listed,a,w=>C listed w/\Region.ready .any ops listed=[]/\Q a w
 | fuel+1,listed,a,w=>C listed w/\(Region.ready .any ops listed=[]->Q a w) /\
  ∀i∈Region.ready .any ops listed,opC P ops i (wpC P ops C Q fuel (listed.setIfInBounds i true)) a w
theorem mT{P:Program}{k k':KV}{r:Result Next}(hk:∀v w,k v w->k' v w)(h:SN P k r):SN P k' r:=by
 cases r with
 | halt x w=>exact h
 | ok x w=>
  cases x<;>simp only[SN] at h ⊢
  ·exact hk _ _ h
  ·exact hk _ _ h
  ·exact h.mono hk
theorem Az{P:Program}{ops:Array Oper}{j:Nat}{K K':Act->World->Prop}{a:Act}{w:World}(hk:∀a w,K a w->K' a w)(h:opC P ops j K a w):opC P ops j K' a w:=by
 unfold opC at *;split
 ·rename_i ho;simp only[ho] at h;exact hk _ _ h
 ·rename_i o ho;simp only[ho] at h;split
  ·rename_i hw;simp only[hw,if_true] at h;split
   ·rename_i he;simp only[he,if_true] at h;exact mT (λv w=>hk _ _) h
   ·rename_i he;rw[IT he] at h;obtain⟨v,hv,hK⟩:=h;exact⟨v,hv,hk _ _ hK⟩
  ·rename_i hw;rw[IT hw] at h;exact hk _ _ h
theorem zl{P:Program}{ops:Array Oper}{C:Array Bool->World->Prop}{Q:Act->World->Prop}{Q':Exit->Act->World->Prop}(hQ:∀a w,Q a w->Q' .normal a w):
  ∀(fuel:Nat) (listed:Array Bool) (a:Act) (w:World),wpC P ops C Q fuel listed a w->wpAny P .any ops Q' fuel listed a w
 | 0,_,_,_,h=>⟨h.2.1,hQ _ _ h.2.2⟩
 | fuel+1,listed,a,w,h=>by
  refine⟨λh0=>hQ _ _ (h.2.1 h0),λi hi=>?_⟩;have hc:=Az (K':=wpAny P .any ops Q' fuel (listed.setIfInBounds i true)) (λa' w' hh=>zl hQ fuel _ a' w' hh) (h.2.2 i hi);unfold opC at hc;unfold wpOp;split
  ·rename_i ho;simp only[ho] at hc;exact hc
  ·rename_i o ho;simp only[ho] at hc;split
   ·rename_i hw;rw[IY hw] at hc;refine .inl ?_;unfold Oper.wp;split at hc
    ·exact mU iT hc
    ·obtain⟨v,hv,hK⟩:=hc;rw[hv];exact hK
   ·rename_i hw;rw[IT hw] at hc;exact hc
def YieldsS(P:Program)(ops:Array Oper)(S:World->Prop)(o:Oper)(v:Value)(a:Act):Prop:=(Region.wanted o (yielded ops a.tmps)=true/\∀w,S w->(execOp a.eval o).run P w=.ok (.value v) w)\/(Region.wanted o (yielded ops a.tmps)=false/\v=undef)
theorem YieldsS.op{P:Program}{ops:Array Oper}{S:World->Prop}{i:Nat}{o:Oper}{v:Value}{a:Act}{w:World}{K:Act->World->Prop}(hi:ops[i]?=some o)(he:cI P o=false)
  (hS:S w) (hy:YieldsS P ops S o v a) (h:K (a.put o.dst v) w):opC P ops i K a w:=by
 unfold opC;simp only[hi];rcases hy with⟨hw,hv⟩|⟨hw,rfl⟩
 ·rw[IY hw,IT (by simp[he])];exact⟨v,hv w hS,h⟩
 ·rw[IT (by simp[hw])];exact h
theorem CS{P:Program}{ops:Array Oper}{S:World->Prop}{j:Nat}{oi oj:Oper}{v:Value}{a:Act}{w:World}{K:Act->World->Prop}(hj:ops[j]?=some oj)(hap:oi.apart ops oj=true)
  (hsi:∀cs b,oi.op≠.select cs b) (hsj:∀cs b,oj.op≠.select cs b) (hy:YieldsS P ops S oi v a) (h:opC P ops j K (a.put oi.dst v) w):
  opC P ops j (λa' w'=>YieldsS P ops S oi v a'/\K (a'.put oi.dst v) w') a w:=by
 obtain⟨h1,h2,h3⟩:=Oper.apart_spec hap;have keep:∀u,YieldsS P ops S oi v (a.put oj.dst u):=λu=>by unfold YieldsS at *;rw[execOp_put oi hsi a oj.dst u h3,wanted_put oi a oj.dst u h3];exact hy
 unfold opC at *;simp only[hj] at *;rw[wanted_put oj a oi.dst v h1,execOp_put oj hsj a oi.dst v h1] at h;split
 ·rename_i hw;rw[IY hw] at h;split
  ·rename_i he;rw[IY he] at h;exact mT (λu w' hh=>⟨keep u,by rw[<- Act.put_comm a v u h2];exact hh⟩) h
  ·rename_i he;rw[IT he] at h;obtain⟨u,hu,hK⟩:=h;exact⟨u,hu,keep u,by rw[<- Act.put_comm a v u h2];exact hK⟩
 ·rename_i hw;rw[IT hw] at h;exact⟨keep undef,by rw[<- Act.put_comm a v undef h2];exact h⟩
def Dc(ops:Array Oper)(listed:Array Bool):Prop:=∀j o,ops[j]?=some o->listed.getD j false=true->∀e∈o.after,Region.binds .any e=true->listed.getD e.on false=true
theorem Dc.set{ops:Array Oper}{listed:Array Bool}(h:Dc ops listed){j:Nat}(hj:j∈Region.ready .any ops listed):Dc ops (listed.setIfInBounds j true):=by
 intro i o ho hl e he hb;refine getD_set_true ?_;obtain⟨_,oj,hoj,hall⟩:=mem_ready.1 hj;by_cases hij:j=i
 ·subst hij;rw[hoj] at ho;cases ho;exact hall e he hb
 ·exact h i o ho (by rwa [getD_set_ne false hij] at hl) e he hb
theorem fH{P:Program}{ops:Array Oper}{C:Array Bool->World->Prop}{S:World->Prop}{Q:Act->World->Prop}{i:Nat}{oi:Oper}{v:Value}(hi:ops[i]?=some oi)(hei:cI P oi=false)
  (hsel:∀(j:Nat) (o:Oper) cs b,ops[j]?=some o->o.op≠.select cs b) (hmono:∀l w,C (l.setIfInBounds i true) w->C l w):
  ∀(fuel:Nat) (listed:Array Bool) (a:Act) (w:World),
   (∀j oj,ops[j]?=some oj->j≠i->listed.getD j true=false->(∀e∈oj.after,Region.binds .any e=true->e.on≠i)->oi.apart ops oj=true) ->
   Dc ops listed ->
   (∀listed',Dc ops listed'->(∀j,listed.getD j false=true->listed'.getD j false=true)->listed'.getD i true=false->∀j∈Region.ready .any ops listed',∀oj,ops[j]?=some oj->cI P oj=true->∀w',C ((listed'.setIfInBounds i true).setIfInBounds j true) w'->S w') ->
   i∈Region.ready .any ops listed->S w->C listed w->YieldsS P ops S oi v a ->
   wpC P ops C Q fuel (listed.setIfInBounds i true) (a.put oi.dst v) w->wpC P ops C Q (fuel+1) listed a w:=by
 intro fuel;induction fuel with
 | zero=>
  intro listed a w _ _ _ hr hS hC hy H;refine⟨hC,λh=>(by rw[h] at hr;cases hr),λj hj=>?_⟩;by_cases hji:j=i
  ·subst hji;exact hy.op hi hei hS H
  ·have:=ready_mono hj hji;rw[H.2.1] at this;cases this
 | succ fuel ih=>
  intro listed a w hfree hdc hk hr hS hC hy H;refine⟨hC,λh=>(by rw[h] at hr;cases hr),λj hj=>?_⟩;by_cases hji:j=i
  ·subst hji;exact hy.op hi hei hS H
  ·have h1:=H.2.2 j (ready_mono hj hji);obtain⟨hjun,oj,hoj,hall⟩:=mem_ready.1 hj;have hiun:=(mem_ready.1 hr).1;have hnot:∀e∈oj.after,Region.binds .any e=true->e.on≠i:=λe he hb heq=>by
    have h1:=hall e he hb;rw[heq] at h1;rcases KL i listed.size with h'|h'
    ·simp[h'] at hiun h1;rw[hiun] at h1;cases h1
    ·simp[Array.getElem?_eq_none h'] at h1
   have h2:=CS hoj (hfree j oj hoj hji hjun hnot) (λcs b=>hsel i oi cs b hi) (λcs b=>hsel j oj cs b hoj) hy h1;have hfree':∀k ok,ops[k]?=some ok->k≠i->(listed.setIfInBounds j true).getD k true=false ->
     (∀e∈ok.after,Region.binds .any e=true->e.on≠i)->oi.apart ops ok=true:=λk ok hk hki hun hno=>by
    refine hfree k ok hk hki ?_ hno;by_cases hjk:j=k
    ·subst hjk;exact hjun
    ·rw[getD_set_ne true hjk] at hun;exact hun
   have hdc':=hdc.set hj;have hk':∀listed',Dc ops listed'->(∀l,(listed.setIfInBounds j true).getD l false=true->listed'.getD l false=true)->listed'.getD i true=false->∀l∈Region.ready .any ops listed',∀ol,ops[l]?=some ol->cI P ol=true->∀w',C ((listed'.setIfInBounds i true).setIfInBounds l true) w'->S w':=λlisted' d hle hu=>hk listed' d (λl hl=>hle l (getD_set_true hl)) hu;have fin:∀a' w',S w'->(YieldsS P ops S oi v a'/\wpC P ops C Q fuel ((listed.setIfInBounds i true).setIfInBounds j true) (a'.put oi.dst v) w') ->
     wpC P ops C Q (fuel+1) (listed.setIfInBounds j true) a' w':=λa' w' hS' h3=>by
    have hC':C (listed.setIfInBounds j true) w':=by refine hmono _ _ ?_;rw[Array.setIfInBounds_comm _ _ hji];cases fuel<;>exact h3.2.1
    refine ih (listed.setIfInBounds j true) a' w' hfree' hdc' hk' (ready_mono hr (Ne.symm hji)) hS' hC' h3.1 ?_;rw[Array.setIfInBounds_comm _ _ hji];exact h3.2
   unfold opC at h2 ⊢;simp only[hoj] at h2 ⊢;split
   ·rename_i hw;rw[IY hw] at h2;split
    ·rename_i he;rw[IY he] at h2;refine mT (λu w' hh=>fin _ w' ?_ hh) h2;exact hk listed hdc (λ_ hl=>hl) hiun j hj oj hoj he w' (by cases fuel<;>exact hh.2.1)
    ·rename_i he;rw[IT he] at h2;obtain⟨u,hu,hh⟩:=h2;exact⟨u,hu,fin _ w hS hh⟩
   ·rename_i hw;rw[IT hw] at h2;exact fin _ w hS h2
def sg(e:Edge):Bool:=match e.ground with
 | .textOnly _=>false
 | .gcOnly _=>false
 | _=>true
theorem jX(e:Edge):Region.binds .any e=sg e:=by obtain⟨on,g⟩:=e;cases g<;>rfl
def tb(m i:Nat):Bool:=Nat.beq (Nat.land (Nat.shiftRight m i) 1) 1
theorem jc(m i:Nat):tb m i=m.testBit i:=by have h1:Nat.land (Nat.shiftRight m i) 1=(m >>> i) &&& 1:=rfl;unfold tb Nat.testBit;rw[h1,Nat.and_comm 1,Nat.and_one_is_mod];have:=Nat.mod_two_eq_zero_or_one (m >>> i);rcases this with h|h<;>rw[h]<;>rfl
def gk(m i:Nat):Nat:=Nat.lor m (Nat.shiftLeft 1 i)
theorem lu(m i j:Nat):tb (gk m i) j=(tb m j||Nat.beq j i):=by
 rw[jc,jc];have h1:gk m i=m ||| (1 <<< i):=rfl;rw[h1,Nat.testBit_or,Nat.shiftLeft_eq,Nat.one_mul,Nat.testBit_two_pow];congr 1;cases h:Nat.beq j i with
 | false=>rw[C7];rintro rfl;rw[JW] at h;cases h
 | true=>have:=I4 h;simp[this]
theorem nU(j:Nat):tb 0 j=false:=by rw[jc];simp
def ru:List Edge->Nat
 | []=>0
 | e::l=>bif sg e then gk (ru l) e.on else ru l
theorem sZ(l:List Edge)(j:Nat):tb (ru l) j=l.any λe=>sg e&&Nat.beq j e.on:=by
 induction l with
 | nil=>simp[ru,nU]
 | cons e l ih=>
  simp only[ru,List.any_cons];cases sg e with
  | false=>simpa using ih
  | true=>simp only[D8,lu,ih,JD];rw[Bool.or_comm]
def Gp(p m:Nat):Bool:=Nat.beq (Nat.land p m) p
theorem AW(p m:Nat):Gp p m=true↔∀j,tb p j=true->tb m j=true:=by
 have h1:Nat.land p m=p &&& m:=rfl;unfold Gp;rw[h1];constructor
 ·intro h j hj;have h:=I4 h;rw[jc] at *;rw[<- h,Nat.testBit_and] at hj;simp only[E0] at hj;exact hj.2
 ·intro h;have:p &&& m=p:=by
   apply Nat.eq_of_testBit_eq;intro j;rw[Nat.testBit_and];have:=h j;rw[jc,jc] at this;cases hp:p.testBit j with
   | false=>rfl
   | true=>rw[this hp];rfl
  rw[this];exact JW _
def kY(m:Nat)(o:Oper)(i:Nat):Bool:=!(tb m i)&&Gp (ru o.after.toList) m
def Rl(ops:Array Oper)(listed:Array Bool)(m:Nat):Prop:=listed.size=ops.size/\∀j,listed.getD j false=tb m j
theorem Rl.ready{ops:Array Oper}{listed:Array Bool}{m:Nat}(h:Rl ops listed m){i:Nat}:i∈Region.ready .any ops listed↔∃o,ops[i]?=some o/\kY m o i=true:=by
 rw[mem_ready];have hgd:∀o,ops[i]?=some o->listed.getD i true=tb m i:=λo ho=>by
  rw[<- h.2 i];have:i<listed.size:=by rw[h.1];exact(Jg.1 ho).1
  simp[this]
 have hall:∀o:Oper,(∀e∈o.after,Region.binds .any e=true->listed.getD e.on false=true)↔Gp (ru o.after.toList) m=true:=λo=>by
  rw[AW];constructor
  ·intro hh j hj;rw[sZ,List.any_eq_true] at hj;obtain⟨e,he,hb⟩:=hj;simp only[E0] at hb;have:=hh e (by simpa using he) (by rw[jX];exact hb.1);rw[h.2] at this;rw[I4 hb.2];exact this
  ·intro hh e he hb;rw[h.2];refine hh _ ?_;rw[sZ,List.any_eq_true];exact⟨e,by simpa using he,by rw[jX] at hb;simp[hb,JW]⟩
 constructor
 ·rintro⟨h0,o,ho,ha⟩;refine⟨o,ho,?_⟩;rw[hgd o ho] at h0;simp[kY,h0,(hall o).1 ha]
 ·rintro⟨o,ho,hr⟩;simp only[kY,E0,JQ] at hr;exact⟨by rw[hgd o ho];exact hr.1,o,ho,(hall o).2 hr.2⟩
theorem Rl.set{ops:Array Oper}{listed:Array Bool}{m i:Nat}(h:Rl ops listed m)(hi:i<ops.size):Rl ops (listed.setIfInBounds i true) (gk m i):=by
 refine⟨by simp[h.1],λj=>?_⟩;rw[lu];by_cases hj:i=j
 ·subst hj;have:i<listed.size:=by rw[h.1];exact hi
  simp[this,JW]
 ·rw[getD_set_ne false hj,h.2];have:Nat.beq j i=false:=by cases hb:Nat.beq j i with|false=>rfl|true=>exact absurd (I4 hb).symm hj
  simp[this]
theorem Rl.none(ops:Array Oper):Rl ops (Array.replicate ops.size false) 0:=by refine⟨sI,λj=>?_⟩;rw[nU];simp only[Ky,Array.getElem?_replicate];split<;>rfl
def gG(p:Oper->Nat->Bool):List Oper->Nat->Option Nat
 | [],_=>none
 | o::l,i=>bif p o i then some i else gG p l (i+1)
theorem lh{p:Oper->Nat->Bool}:∀{l:List Oper} {k i:Nat},gG p l k=some i->∃o,l[i - k]?=some o/\k<=i/\p o i=true
 | [],_,_,h=>by cases h
 | o::l,k,i,h=>by
  simp only[gG] at h;cases hp:p o k with
  | true=>simp only[hp,D8,H4] at h;subst h;exact⟨o,sI,D9 _,hp⟩
  | false=>simp only[hp,C8] at h;obtain⟨o',h1,h2,h3⟩:=lh h;refine⟨o',?_,oM,h3⟩;rw[(oM:i - k=(i - (k+1))+1)];simpa using h1
theorem fA{p:Oper->Nat->Bool}:∀{l:List Oper} {k:Nat},gG p l k=none->∀j o,l[j]?=some o->p o (k+j)=false
 | [],_,_,j,o,hj=>by simp at hj
 | o::l,k,h,j,o',hj=>by
  simp only[gG] at h;cases hp:p o k with
  | true=>simp[hp] at h
  | false=>
   simp only[hp,C8] at h;cases j with
   | zero=>simp at hj;subst hj;exact hp
   | succ j=>have:=fA h j o' (by simpa using hj);rw[(oM:k+(j+1)=k+1+j)];exact this
def EK(i:Nat):List Edge->Bool
 | []=>false
 | e::l=>bif sg e&&Nat.beq e.on i then true else EK i l
theorem oW{i:Nat}:∀{l:List Edge},EK i l=true->∃e∈l,sg e=true/\e.on=i
 | [],h=>by cases h
 | e::l,h=>by
  simp only[EK] at h;cases hb:sg e&&Nat.beq e.on i with
  | true=>simp only[E0] at hb;exact⟨e,sI,hb.1,I4 hb.2⟩
  | false=>simp only[hb,C8] at h;obtain⟨e',h1,h2⟩:=oW h;exact⟨e',by simp[h1],h2⟩
def Av:List Nat->Nat
 | []=>0
 | t::l=>gk (Av l) t
theorem Aw(l:List Nat)(j:Nat)(h:j∈l):tb (Av l) j=true:=by
 induction l with
 | nil=>cases h
 | cons t l ih=>
  simp only[Av,lu];rcases H3.1 h with rfl|h
  ·simp[JW]
  ·simp[ih h]
def dsM(o:Oper):Nat:=match o.dst with
 | some d=>gk 0 d
 | none=>0
def rdM(ops:Array Oper)(o:Oper):Nat:=Av (o.looksAt ops)
def apM(ops:Array Oper)(x y:Oper):Bool:=Nat.beq (Nat.land (dsM x) (Nat.lor (rdM ops y) (dsM y))) 0&&Nat.beq (Nat.land (dsM y) (rdM ops x)) 0
theorem oY{a b j:Nat}(h:Nat.beq (Nat.land a b) 0=true)(ha:tb a j=true):tb b j=false:=by have h1:Nat.land a b=a &&& b:=rfl;have h:=I4 h;rw[h1] at h;rw[jc] at *;have:=Nat.testBit_and a b j;rw[h,ha,Nat.zero_testBit,JD] at this;exact this.symm
theorem vK{ops:Array Oper}{x y:Oper}(h:apM ops x y=true):x.apart ops y=true:=by
 unfold apM at h;rw[E0] at h;obtain⟨h1,h2⟩:=h;have hd:∀(o:Oper) d,o.dst=some d->tb (dsM o) d=true:=λo d e=>by simp[dsM,e,lu,JW]
 have hc:∀(o:Oper) d,tb (rdM ops o) d=false->(o.looksAt ops).contains d=false:=λo d e=>by
  cases hcc:(o.looksAt ops).contains d with
  | false=>rfl
  | true=>have:=Aw (o.looksAt ops) d (by simpa using hcc);unfold rdM at e;rw[this] at e;cases e
 unfold Oper.apart;rw[E0];constructor
 ·cases hx:x.dst with
  | none=>rfl
  | some d=>
   have:=oY h1 (hd x d hx);have h3:Nat.lor (rdM ops y) (dsM y)=rdM ops y ||| dsM y:=rfl;rw[jc,h3,Nat.testBit_or,JO,<- jc,<- jc] at this;have hy:y.dst≠some d:=λe=>by have:=hd y d e;simp_all
   show(!(y.looksAt ops).contains d&&y.dst != some d)=true;rw[hc y d this.1];simp[hy]
 ·cases hy:y.dst with
  | none=>rfl
  | some d=>show(!(x.looksAt ops).contains d)=true;rw[hc x d (oY h2 (hd y d hy))];rfl
def qL(ops:Array Oper)(oi:Oper)(i m:Nat):List Oper->Nat->Bool
 | [],_=>true
 | oj::l,j=>bif (Nat.beq j i||tb m j||EK i oj.after.toList||apM ops oi oj) then qL ops oi i m l (j+1) else false
theorem ma{ops:Array Oper}{oi:Oper}{i m:Nat}:∀{l:List Oper} {k:Nat},qL ops oi i m l k=true->∀j oj,l[j]?=some oj->k+j≠i->tb m (k+j)=false ->
  (∀e∈oj.after,Region.binds .any e=true->e.on≠i)->oi.apart ops oj=true
 | [],_,_,j,oj,hj,_,_,_=>by simp at hj
 | o::l,k,h,j,oj,hj,hne,hun,hno=>by
  simp only[qL] at h;cases hb:(Nat.beq k i||tb m k||EK i o.after.toList||apM ops oi o) with
  | false=>simp[hb] at h
  | true=>
   simp only[hb,D8] at h;cases j with
   | zero=>
    simp at hj;subst hj;simp only[JU] at hb;rcases hb with((hb|hb)|hb)|hb
    ·exact absurd (I4 hb) hne
    ·rw[Jt] at hun;rw[hun] at hb;cases hb
    ·obtain⟨e,he,hb,hon⟩:=oW hb;exact absurd hon (hno e (by simpa using he) (by rw[jX];exact hb))
    ·exact vK hb
   | succ j=>exact ma h j oj (by simpa using hj) oM (by rw[(oM:k+1+j=k+(j+1))];exact hun) hno
def vE(W:List Nat):List Edge->Nat
 | []=>0
 | e::l=>bif sg e then Nat.lor (gk (vE W l) e.on) (W.getD e.on 0) else vE W l
theorem vF(W:List Nat)(l:List Edge)(j:Nat)(h:tb (vE W l) j=true):∃e∈l,sg e=true/\(e.on=j\/tb (W.getD e.on 0) j=true):=by
 induction l with
 | nil=>simp[vE,nU] at h
 | cons e l ih=>
  simp only[vE] at h;cases hb:sg e with
  | false=>simp only[hb,C8] at h;obtain⟨e',h1,h2⟩:=ih h;exact⟨e',by simp[h1],h2⟩
  | true=>
   simp only[hb,D8] at h;have h1:Nat.lor (gk (vE W l) e.on) (W.getD e.on 0)=gk (vE W l) e.on ||| W.getD e.on 0:=rfl;rw[jc,h1,Nat.testBit_or,<- jc,<- jc,lu,JU,JU] at h;rcases h with(h|h)|h
   ·obtain⟨e',h1,h2⟩:=ih h;exact⟨e',by simp[h1],h2⟩
   ·exact⟨e,sI,hb,.inl (I4 h).symm⟩
   ·exact⟨e,sI,hb,.inr h⟩
def mkW:List Oper->List Nat->List Nat
 | [],acc=>acc
 | o::l,acc=>mkW l (acc++[vE acc o.after.toList])
def ES(k:Nat):List Edge->Bool
 | []=>true
 | e::l=>bif !sg e||Nat.blt e.on k then ES k l else false
theorem pk{k:Nat}:∀{l:List Edge},ES k l=true->∀e∈l,sg e=true->e.on<k
 | [],_,e,he,_=>by simp at he
 | x::l,h,e,he,hbe=>by
  simp only[ES] at h;cases hb:!sg x||Nat.blt x.on k with
  | false=>rw[hb] at h;cases h
  | true=>
   simp only[hb,D8] at h;rcases H3.1 he with rfl|he
   ·rw[hbe] at hb;simpa using hb
   ·exact pk h e he hbe
def okW(W:List Nat):List Oper->Nat->Bool
 | [],_=>true
 | o::l,k=>bif Nat.beq (W.getD k 0) (vE W o.after.toList)&&ES k o.after.toList then okW W l (k+1) else false
theorem nD{W:List Nat}:∀{l:List Oper} {k:Nat},okW W l k=true->∀j o,l[j]?=some o->W.getD (k+j) 0=vE W o.after.toList/\∀e∈o.after.toList,sg e=true->e.on<k+j
 | [],_,_,j,o,hj=>by simp at hj
 | x::l,k,h,j,o,hj=>by
  simp only[okW] at h;cases hb:Nat.beq (W.getD k 0) (vE W x.after.toList)&&ES k x.after.toList with
  | false=>rw[hb] at h;cases h
  | true=>
   simp only[hb,D8] at h;simp only[E0] at hb;cases j with
   | zero=>simp at hj;subst hj;exact⟨I4 hb.1,pk hb.2⟩
   | succ j=>have:=nD h j o (by simpa using hj);rw[(oM:k+(j+1)=k+1+j)];exact this
theorem tF{ops:Array Oper}{W:List Nat}(hW:okW W ops.toList 0=true){listed:Array Bool}(hd:Dc ops listed){i:Nat}:
  ∀p o,ops[p]?=some o->listed.getD p false=true->tb (W.getD p 0) i=true->listed.getD i false=true:=by
 intro p;induction p using Nat.strongRecOn with
 | _ p ih=>
  intro o ho hl ht;obtain⟨h1,h2⟩:=nD hW p o (by simpa using ho);rw[E7] at h1 h2;rw[h1] at ht;obtain⟨e,he,hb,hc⟩:=vF _ _ _ ht;have hle:=hd p o ho hl e (by simpa using he) (by rw[jX];exact hb);rcases hc with rfl|hc
  ·exact hle
  ·have hlt:e.on<ops.size:=by have:=h2 e he hb;have:=(Jg.1 ho).1;omega
   exact ih e.on (h2 e he hb) ops[e.on] (by simp[hlt]) hle hc
def aOk(P:Program)(W:List Nat)(i m:Nat):List Oper->Nat->Bool
 | [],_=>true
 | o::l,k=>bif (!cI P o||tb m k||tb (W.getD k 0) i) then aOk P W i m l (k+1) else false
theorem rV{P:Program}{W:List Nat}{i m:Nat}:∀{l:List Oper} {k:Nat},aOk P W i m l k=true->∀j o,l[j]?=some o->cI P o=true->tb m (k+j)=true\/tb (W.getD (k+j) 0) i=true
 | [],_,_,j,o,hj,_=>by simp at hj
 | x::l,k,h,j,o,hj,he=>by
  simp only[aOk] at h;cases hb:(!cI P x||tb m k||tb (W.getD k 0) i) with
  | false=>rw[hb] at h;cases h
  | true=>
   simp only[hb,D8] at h;cases j with
   | zero=>simp at hj;subst hj;simp only[he,JE,Jf,JU] at hb;exact hb
   | succ j=>have:=rV h j o (by simpa using hj) he;rw[(oM:k+(j+1)=k+1+j)];exact this
def gx(P:Program)(ops:Array Oper)(f:Fr)(o:Oper)(w:World)(k:KV):Prop:=match o.guard with
 | none=>exO P f o w k
 | some (j,b)=>Gd (isB b (yl ops f j)) (λk'=>exO P f o w k') w k
def HA(P:Program)(W:List Nat)(r:Nat):List Oper->Nat->Bool
 | [],_=>false
 | o::l,k=>bif cI P o&&!(tb (W.getD k 0) r)&&!(tb (W.getD r 0) k) then true else HA P W r l (k+1)
def CK(hc:Bool)(C:World->Prop)(w:World)(p:Prop):Prop:=bif hc then C w/\p else p
def CG(P:Program)(f:Fr)(o:Oper):Bool:=match pu P f o with
 | some _=>true
 | none=>false
def zW(P:Program)(W:List Nat)(L:List Oper)(o:Oper)(i:Nat):Bool:=!cI P o&&!CG P (λ_=>undef) o&&HA P W i L 0
def noD(P:Program)(W:List Nat)(i m:Nat):List Oper->Nat->Bool
 | [],_=>true
 | o::l,k=>bif cI P o&&tb m k&&tb (W.getD k 0) i then false else noD P W i m l (k+1)
def fB(P:Program)(W:List Nat)(L:List Oper)(m:Nat):List Oper->Nat->Bool
 | [],_=>false
 | o::l,k=>bif zW P W L o k&&noD P W k m L 0 then true else fB P W L m l (k+1)
def Still(P:Program)(ops:Array Oper)(W:List Nat)(listed:Array Bool):Prop:=∃i o,ops[i]?=some o/\zW P W ops.toList o i=true/\∀j oj,ops[j]?=some oj->cI P oj=true->listed.getD j false=true->tb (W.getD j 0) i=false
theorem BF{P:Program}{W:List Nat}{i m:Nat}:∀{l:List Oper} {k:Nat},(∀j o,l[j]?=some o->cI P o=true->tb m (k+j)=true->tb (W.getD (k+j) 0) i=false)->noD P W i m l k=true
 | [],_,_=>rfl
 | o::l,k,h=>by
  simp only[noD];have h0:=h 0 o rfl;rw[Jt] at h0;have:(cI P o&&tb m k&&tb (W.getD k 0) i)=false:=by
   cases h1:cI P o with
   | false=>rfl
   | true=>
    cases h2:tb m k with
    | false=>rfl
    | true=>rw[h0 h1 h2];rfl
  rw[this];exact BF λj o' hj=>by have:=h (j+1) o' (by simpa using hj);rw[(oM:k+1+j=k+(j+1))];exact this
theorem pY{P:Program}{ops:Array Oper}{W:List Nat}{L:List Oper}{m:Nat}:∀{l:List Oper} {k:Nat} {i:Nat} {o:Oper},l[i]?=some o->zW P W L o (k+i)=true->noD P W (k+i) m L 0=true->fB P W L m l k=true
 | [],_,i,o,hi,_,_=>by simp at hi
 | x::l,k,i,o,hi,hc,hn=>by
  simp only[fB];cases i with
  | zero=>simp at hi;subst hi;rw[Jt] at hc hn;rw[hc,hn];rfl
  | succ i=>have:=pY (ops:=ops) (m:=m) (l:=l) (k:=k+1) (i:=i) (o:=o) (by simpa using hi) (by rw[(oM:k+1+i=k+(i+1))];exact hc) (by rw[(oM:k+1+i=k+(i+1))];exact hn);rw[this];cases zW P W L x k&&noD P W k m L 0<;>rfl
theorem Still.b{P:Program}{ops:Array Oper}{W:List Nat}{listed:Array Bool}{m:Nat}(hr:Rl ops listed m)(h:Still P ops W listed):fB P W ops.toList m ops.toList 0=true:=by obtain⟨i,o,hi,hc,hn⟩:=h;refine pY (ops:=ops) (i:=i) (o:=o) (by simpa using hi) (by rw[E7];exact hc) (BF λj oj hj he hm=>?_);rw[E7] at hm ⊢;rw[E7];exact hn j oj (by simpa using hj) he (by rw[hr.2];exact hm)
def CN(P:Program)(ops:Array Oper)(W:List Nat)(C:World->Prop)(listed:Array Bool)(w:World):Prop:=Still P ops W listed->C w
theorem CN.more{P:Program}{ops:Array Oper}{W:List Nat}{C:World->Prop}{listed:Array Bool}{w:World}(h:CN P ops W C listed w)(i:Nat):CN P ops W C (listed.setIfInBounds i true) w:=by rintro⟨r,o,h1,h2,h3⟩;exact h ⟨r,o,h1,h2,λj oj hj he hl=>h3 j oj hj he (getD_set_true hl)⟩
theorem CN.less{P:Program}{ops:Array Oper}{W:List Nat}{C:World->Prop}{i:Nat}{o:Oper}(ho:ops[i]?=some o)(hne:cI P o=false):∀listed w,CN P ops W C (listed.setIfInBounds i true) w->CN P ops W C listed w:=by
 rintro listed w h ⟨r,or,h1,h2,h3⟩;refine h ⟨r,or,h1,h2,λj oj hj he hl=>?_⟩;by_cases hij:i=j
 ·subst hij;rw[ho] at hj;cases hj;rw[hne] at he;cases he
 ·exact h3 j oj hj he (by rwa [getD_set_ne false hij] at hl)
def Bm(p:Oper->Nat->Bool)(X:Oper->Nat->Prop):List Oper->Nat->Prop
 | [],_=>True
 | o::l,k=>bif p o k then X o k/\Bm p X l (k+1) else Bm p X l (k+1)
theorem jS{p:Oper->Nat->Bool}{X:Oper->Nat->Prop}:∀{l:List Oper} {k:Nat},Bm p X l k->∀j o,l[j]?=some o->p o (k+j)=true->X o (k+j)
 | [],_,_,j,o,hj,_=>by simp at hj
 | x::l,k,h,j,o,hj,hp=>by
  simp only[Bm] at h;cases j with
  | zero=>simp at hj;subst hj;rw[Jt] at hp ⊢;rw[hp] at h;exact h.1
  | succ j=>
   have e:k+(j+1)=k+1+j:=oM;rw[e] at hp ⊢;cases hx:p x k with
   | true=>rw[hx] at h;exact jS h.2 j o (by simpa using hj) hp
   | false=>rw[hx] at h;exact jS h j o (by simpa using hj) hp
def nZ(P:Program)(n:Nat)(ops:Array Oper)(L:List Oper)(W:List Nat)(hc:Bool)(C:World->Prop)(k:Fr->World->Prop):Nat->Nat->Fr->World->Prop
 | 0,m,f,w=>match gG (kY m) L 0 with
  | none=>k f w
  | some _=>False
 | fuel+1,m,f,w=>match gG (λo i=>kY m o i&&!cI P o) L 0 with
  | some i=>(match L[i]? with
   | some o=>bif qL ops o i m L 0 then
     (bif CG P f o then gx P ops f o w (λv w'=>nZ P n ops L W hc C k fuel (gk m i) (fT n f o.dst v) w')
      else bif aOk P W i m L 0 then gx P ops f o w (λv w'=>w'=w/\nZ P n ops L W hc C k fuel (gk m i) (fT n f o.dst v) w)
      else bif zW P W L o i then ∃v,(∀w',C w'->gx P ops f o w' (λu w2=>u=v/\w2=w'))/\nZ P n ops L W hc C k fuel (gk m i) (fT n f o.dst v) w else False)
    else False
   | none=>False)
  | none=>match gG (kY m) L 0 with
   | none=>k f w
   | some i=>(match L[i]? with
    | some o=>(match gG (λo j=>kY m o j&&!(Nat.beq j i)) L 0 with
     | none=>gx P ops f o w (λv w'=>CK (hc&&fB P W L (gk m i) L 0) C w' (nZ P n ops L W hc C k fuel (gk m i) (fT n f o.dst v) w'))
     | some _=>Bm (kY m) (λo i=>gx P ops f o w (λv w'=>CK (hc&&fB P W L (gk m i) L 0) C w' (nZ P n ops L W hc C k fuel (gk m i) (fT n f o.dst v) w'))) L 0)
    | none=>False)
def xO(P:Program)(W:List Nat)(L:List Oper):List Oper->Nat->Bool
 | [],_=>false
 | o::l,k=>bif zW P W L o k then true else xO P W L l (k+1)
def BQ:List Oper->Bool
 | []=>true
 | o::l=>(match o.op with
  | .select ..=>false
  | _=>BQ l)
def KD:DrawK:=λP n ops f w k=>
 bif BQ ops.toList&&okW (mkW ops.toList []) ops.toList 0 then
  (bif xO P (mkW ops.toList []) ops.toList ops.toList 0 then ∃C:World->Prop,C w.drew/\nZ P n ops ops.toList (mkW ops.toList []) true C k ops.toList.length 0 f w.drew
   else nZ P n ops ops.toList (mkW ops.toList []) false (λ_=>True) k ops.toList.length 0 f w.drew)
 else False
theorem ym{P:Program}{f:Fr}{o:Oper}(he:cI P o=false)(hp:pu P f o=none):∃s:Sem Value,execOp (ev f) o=(do pure (Next.value (<- s))):=by
 obtain⟨dst,op,type,pos,after,guard⟩:=o;cases op<;>simp only[cI,reduceCtorEq] at he<;>first
  | exact⟨_,rfl⟩
  | (simp only[pu,reduceCtorEq] at hp;done)
  | skip
 rename_i c;obtain⟨callee,args,argTypes⟩:=c;cases callee<;>simp only[reduceCtorEq] at he;rename_i b;cases b<;>simp only[reduceCtorEq] at he<;>exact⟨_,rfl⟩
theorem pI{P:Program}{f:Fr}{o:Oper}{w:World}{k:KV}(he:cI P o=false)(h:exO P f o w k):∃v w',(execOp (ev f) o).run P w=.ok (.value v) w'/\k v w':=by
 have hr:=kq h;cases hp:pu P f o with
 | some r=>
  cases r with
  | none=>rw[sB] at h;simp only[hp] at h;exact h.out.elim
  | some v=>rw[yi hp] at hr ⊢;exact⟨v,w,rfl,hr⟩
 | none=>
  obtain⟨s,hs⟩:=ym he hp;rw[hs] at hr ⊢;simp only[Sem.run_bind] at hr ⊢;cases hx:s.run P w with
  | ok v w'=>rw[hx] at hr;exact⟨v,w',rfl,hr⟩
  | halt x w'=>rw[hx] at hr;exact hr.elim
theorem xt{P:Program}{f:Fr}{o:Oper}(h:CG P f o=true):∃r,pu P f o=some r:=by
 unfold CG at h;split at h
 ·rename_i r hr;exact⟨r,hr⟩
 ·cases h
theorem fh{P:Program}{ops:Array Oper}{a:Act}{o:Oper}{w:World}{k:KV}(h:gx P ops (FR a) o w k):
  (Region.wanted o (yielded ops a.tmps)=true/\exO P (FR a) o w k)\/(Region.wanted o (yielded ops a.tmps)=false/\k undef w):=by
 unfold gx at h;cases hg:o.guard with
 | none=>simp only[hg] at h;exact .inl ⟨by simp[Region.wanted,hg],h⟩
 | some g=>
  obtain⟨j,b⟩:=g;simp only[hg] at h;have hw:Region.wanted o (yielded ops a.tmps)=isB b (yl ops (FR a) j):=by simp only[Region.wanted,hg];exact gM ops a j b
  rw[hw];have h:=h.out;unfold Gd0 at h;cases hc:isB b (yl ops (FR a) j) with
  | true=>simp only[hc,D8] at h;exact .inl ⟨rfl,h⟩
  | false=>simp only[hc,C8] at h;exact .inr ⟨rfl,h⟩
theorem pQ:∀{l:List Oper},BQ l=true->∀(j:Nat) (o:Oper) (cs:Array SelectCase) (b:Bool),l[j]?=some o->o.op≠.select cs b
 | [],_,j,o,_,_,hj=>by simp at hj
 | x::l,h,j,o,cs,b,hj=>by
  simp only[BQ] at h;split at h
  ·cases h
  ·rename_i hx;cases j with
   | zero=>simp at hj;subst hj;exact hx cs b
   | succ j=>exact pQ h j o cs b (by simpa using hj)
theorem yk{ops:Array Oper}{M:List Nat}{f0:Fr}{a:Act}{o:Oper}{i:Nat}(ho:ops[i]?=some o)(hM:∀j,df (fZ ops.toList) j=true->df M j=true)
  (hf:∀j,df M j=false->FR a j=f0 j) (v:Value):∀j,df M j=false->FR (a.put o.dst v) j=f0 j:=by
 intro j hj;rw[jd,fU]
 ·exact hf j hj
 ·intro e;have:∀l:List Oper,o∈l->df (fZ l) j=true:=by
   intro l;induction l with
   | nil=>simp
   | cons x l ih=>
    intro hm;rcases H3.1 hm with rfl|hm
    ·simp only[fZ,e];exact kF _ _
    ·simp only[fZ];split
     ·rw[df];cases Nat.beq _ j<;>simp[ih hm]
     ·exact ih hm
  have:=hM j (this ops.toList (by simpa using Array.mem_of_getElem? ho));rw[hj] at this;cases this
theorem zA{P:Program}{n:Nat}{ops:Array Oper}{W:List Nat}{hc:Bool}{C:World->Prop}{k:Fr->World->Prop}{d:List Deferred}{M:List Nat}{f0:Fr}
  (hs:BQ ops.toList=true) (hW:okW W ops.toList 0=true) (hC:hc=false->C=λ_=>True) (hM:∀j,df (fZ ops.toList) j=true->df M j=true):
  ∀(fuel m:Nat) (listed:Array Bool) (a:Act) (w:World),Rl ops listed m->Dc ops listed->a.tmps.size=n->a.defers=d->(∀j,df M j=false->FR a j=f0 j)->CN P ops W C listed w ->
   nZ P n ops ops.toList W hc C k fuel m (FR a) w ->
   wpC P ops (CN P ops W C) (λa' w'=>a'.tmps.size=n/\a'.defers=d/\(∀j,df M j=false->FR a' j=f0 j)/\k (FR a') w') fuel listed a w:=by
 intro fuel;have hsel:∀(j:Nat) (o:Oper) cs b,ops[j]?=some o->o.op≠.select cs b:=λj o cs b ho=>pQ hs j o cs b (by simpa using ho);have noready:∀{m:Nat} {listed:Array Bool},Rl ops listed m->gG (kY m) ops.toList 0=none->Region.ready .any ops listed=[]:=by intro m listed hr hn;rw[List.eq_nil_iff_forall_not_mem];intro i hi;obtain⟨o,ho,hb⟩:=hr.ready.1 hi;have:=fA hn i o (by simpa using ho);rw[E7] at this;rw[hb] at this;cases this
 induction fuel with
 | zero=>
  intro m listed a w hr hd hn hdf hf hCw h;simp only[nZ] at h;cases hsc:gG (kY m) ops.toList 0 with
  | none=>simp only[hsc] at h;exact⟨hCw,noready hr hsc,hn,hdf,hf,h⟩
  | some i=>simp only[hsc] at h
 | succ fuel ih=>
  intro m listed a w hr hd hn hdf hf hCw h;simp only[nZ] at h;cases hsq:gG (λo i=>kY m o i&&!cI P o) ops.toList 0 with
  | some i=>
   simp only[hsq] at h;obtain⟨o,ho,_,hb⟩:=lh hsq;rw[Kl] at ho;simp only[E0,JQ] at hb;obtain⟨hrd,hne⟩:=hb;simp only[ho] at h;have ho':ops[i]?=some o:=by simpa using ho
   have hin:i<ops.size:=(Jg.1 ho').1;have hready:i∈Region.ready .any ops listed:=hr.ready.2 ⟨o,ho',hrd⟩;cases hfr:qL ops o i m ops.toList 0 with
   | false=>simp only[hfr,C8] at h
   | true=>
    simp only[hfr,D8] at h;have hfree:∀j oj,ops[j]?=some oj->j≠i->listed.getD j true=false->(∀e∈oj.after,Region.binds .any e=true->e.on≠i)->o.apart ops oj=true:=λj oj hj hji hun hno=>by
     refine ma hfr j oj (by simpa using hj) oM ?_ hno;rw[E7,<- hr.2 j];have hlt:j<listed.size:=by rw[hr.1];exact(Jg.1 hj).1
     simpa[hlt] using hun
    have hmono:=CN.less (W:=W) (C:=C) ho' hne;have nowait:∀listed',Dc ops listed'->listed'.getD i true=false->(∀j oj,ops[j]?=some oj->listed'.getD j false=true->tb (W.getD j 0) i=false)/\∀j∈Region.ready .any ops listed',tb (W.getD j 0) i=false:=by
     intro listed' hd' hui;have hif:listed'.getD i false=false:=by
      rcases KL i listed'.size with h'|h'
      ·simpa[h'] using hui
      ·simp[Array.getElem?_eq_none h']
     have ha:∀j oj,ops[j]?=some oj->listed'.getD j false=true->tb (W.getD j 0) i=false:=by
      intro j oj hoj hl;cases ht:tb (W.getD j 0) i with
      | false=>rfl
      | true=>have:=tF hW hd' (i:=i) j oj hoj hl ht;rw[hif] at this;cases this
     refine⟨ha,λj hj=>?_⟩;obtain⟨hju,oj,hoj,hall⟩:=mem_ready.1 hj;cases hl:tb (W.getD j 0) i with
     | false=>rfl
     | true=>
      obtain⟨h1,h2⟩:=nD hW j oj (by simpa using hoj);rw[E7] at h1 h2;rw[h1] at hl;obtain⟨e,he,hb,hc'⟩:=vF _ _ _ hl;have hle':=hall e (by simpa using he) (by rw[jX];exact hb);rcases hc' with hc'|hc'
      ·rw[hc'] at hle';rw[hif] at hle';cases hle'
      ·have hlt:e.on<ops.size:=by have:=h2 e he hb;have:=(Jg.1 hoj).1;omega
       have:=ha e.on ops[e.on] (by simp[hlt]) hle';rw[hc'] at this;cases this
    have next:∀v w',CN P ops W C listed w'->nZ P n ops ops.toList W hc C k fuel (gk m i) (fT n (FR a) o.dst v) w' ->
      wpC P ops (CN P ops W C) (λa' w'=>a'.tmps.size=n/\a'.defers=d/\(∀j,df M j=false->FR a' j=f0 j)/\k (FR a') w') fuel (listed.setIfInBounds i true) (a.put o.dst v) w':=by
     intro v w' hCw' h';exact ih _ _ _ _ (hr.set hin) (hd.set hready) ((jH a _ _).trans hn) ((fV a _ _).trans hdf) (yk ho' hM hf v) (hCw'.more i) (by rw[jd,hn];exact h')
    cases hpu:CG P (FR a) o with
    | true=>
     simp only[hpu,D8] at h;obtain⟨r,hrr⟩:=xt hpu;rcases fh h with⟨hw,hx⟩|⟨hw,hx⟩
     ·cases r with
      | none=>rw[sB] at hx;simp only[hrr] at hx;exact hx.out.elim
      | some v=>rw[sB] at hx;simp only[hrr] at hx;have hx:=hx.out;have hrun:=yi hrr;rw[oO] at hrun;exact fH (S:=λ_=>True) ho' hne hsel hmono fuel listed a w hfree hd (λ_ _ _ _ _ _ _ _ _ _ _=>trivial) hready trivial hCw (.inl ⟨hw,λw' _=>hrun w'⟩) (next v w hCw hx)
     ·exact fH (S:=λ_=>True) ho' hne hsel hmono fuel listed a w hfree hd (λ_ _ _ _ _ _ _ _ _ _ _=>trivial) hready trivial hCw (.inr ⟨hw,rfl⟩) (next undef w hCw hx)
    | false=>
     simp only[hpu,C8] at h;cases hao:aOk P W i m ops.toList 0 with
     | true=>
      simp only[hao,D8] at h;have hk:∀listed',Dc ops listed'->(∀j,listed.getD j false=true->listed'.getD j false=true)->listed'.getD i true=false->∀j∈Region.ready .any ops listed',∀oj,ops[j]?=some oj->cI P oj=true->∀w',CN P ops W C ((listed'.setIfInBounds i true).setIfInBounds j true) w'->w'=w:=by
       intro listed' hd' hle hui j hj oj hoj hej;exfalso;have hnw:=(nowait listed' hd' hui).2 j hj;obtain⟨hju,_,_,_⟩:=mem_ready.1 hj;rcases rV hao j oj (by simpa using hoj) hej with hl|hl
       ·rw[E7,<- hr.2] at hl;have:=hle j hl;rcases KL j listed'.size with h'|h'
        ·simp[h'] at hju this;rw[hju] at this;cases this
        ·simp[Array.getElem?_eq_none h'] at this
       ·rw[E7,hnw] at hl;cases hl
      rcases fh h with⟨hw,hx⟩|⟨hw,hx⟩
      ·obtain⟨v,w',hrun,hww,hK⟩:=pI hne hx;rw[oO,hww] at hrun;exact fH (S:=λw'=>w'=w) ho' hne hsel hmono fuel listed a w hfree hd hk hready rfl hCw (.inl ⟨hw,λw' hw'=>by rw[hw'];exact hrun⟩) (next v w hCw hK)
      ·exact fH (S:=λw'=>w'=w) ho' hne hsel hmono fuel listed a w hfree hd hk hready rfl hCw (.inr ⟨hw,rfl⟩) (next undef w hCw hx.2)
     | false=>
      simp only[hao,C8] at h;cases hcd:zW P W ops.toList o i with
      | false=>rw[hcd] at h;exact h.elim
      | true=>
      rw[hcd] at h;obtain⟨v,hv,hK⟩:=h;have hiun:listed.getD i true=false:=(mem_ready.1 hready).1;have hCn:C w:=hCw ⟨i,o,ho',hcd,λj oj hj _ hl=>(nowait listed hd hiun).1 j oj hj hl⟩;have hk:∀listed',Dc ops listed'->(∀j,listed.getD j false=true->listed'.getD j false=true)->listed'.getD i true=false->∀j∈Region.ready .any ops listed',∀oj,ops[j]?=some oj->cI P oj=true->∀w',CN P ops W C ((listed'.setIfInBounds i true).setIfInBounds j true) w'->C w':=by
       intro listed' hd' hle hui j hj oj hoj hej w' hcw;obtain⟨n1,n2⟩:=nowait listed' hd' hui;refine hcw ⟨i,o,ho',hcd,λl ol hl hel hll=>?_⟩;by_cases hjl:j=l
       ·subst hjl;exact n2 j hj
       rw[getD_set_ne false hjl] at hll;by_cases hil:i=l
       ·subst hil;rw[ho'] at hl;cases hl;rw[hne] at hel;cases hel
       rw[getD_set_ne false hil] at hll;exact n1 l ol hl hll
      refine fH (S:=C) ho' hne hsel hmono fuel listed a w hfree hd hk hready hCn hCw ?_ (next v w hCw hK);cases hw:Region.wanted o (yielded ops a.tmps) with
      | true=>
       refine .inl ⟨hw,λw' hw'=>?_⟩;rcases fh (hv w' hw') with⟨_,hx⟩|⟨hw2,_⟩
       ·obtain⟨u,w2,hrun,rfl,rfl⟩:=pI hne hx;rw[oO] at hrun;exact hrun
       ·rw[hw] at hw2;cases hw2
      | false=>
       refine .inr ⟨hw,?_⟩;rcases fh (hv w hCn) with⟨hw2,_⟩|⟨_,hx⟩
       ·rw[hw] at hw2;cases hw2
       ·exact hx.1.symm
  | none=>
   simp only[hsq] at h;cases hsr:gG (kY m) ops.toList 0 with
   | none=>simp only[hsr] at h;exact⟨hCw,λ_=>⟨hn,hdf,hf,h⟩,λi hi=>by rw[noready hr hsr] at hi;cases hi⟩
   | some i=>
    simp only[hsr] at h;obtain⟨o,ho,_,hrd⟩:=lh hsr;rw[Kl] at ho;simp only[ho] at h;have ho':ops[i]?=some o:=by simpa using ho
    have hin:i<ops.size:=(Jg.1 ho').1;have hready:i∈Region.ready .any ops listed:=hr.ready.2 ⟨o,ho',hrd⟩;have heff:cI P o=true:=by have:=fA hsq i o ho;rw[E7] at this;rw[hrd] at this;simpa using this
    have all:∀j oj,ops[j]?=some oj->kY m oj j=true->gx P ops (FR a) oj w (λv w'=>CK (hc&&fB P W ops.toList (gk m j) ops.toList 0) C w' (nZ P n ops ops.toList W hc C k fuel (gk m j) (fT n (FR a) oj.dst v) w')):=by
     intro j oj hoj hrj;cases hso:gG (λo j=>kY m o j&&!(Nat.beq j i)) ops.toList 0 with
     | some j'=>simp only[hso] at h;have:=jS h j oj (by simpa using hoj) (by rw[E7];exact hrj);rw[E7] at this;exact this
     | none=>
      simp only[hso] at h;have hji:j=i:=by have:=fA hso j oj (by simpa using hoj);rw[E7,hrj] at this;simp only[JD,Bool.not_eq_false'] at this;exact I4 this
      subst hji;rw[ho'] at hoj;cases hoj;exact h
    refine⟨hCw,λh0=>(by rw[h0] at hready;cases hready),λj hj=>?_⟩;obtain⟨oj,hoj,hrj⟩:=hr.ready.1 hj;have hx0:=all j oj hoj hrj;have hjn:j<ops.size:=(Jg.1 hoj).1;have heff:cI P oj=true:=by have:=fA hsq j oj (by simpa using hoj);rw[E7] at this;rw[hrj] at this;simpa using this
    have next:∀v w',CK (hc&&fB P W ops.toList (gk m j) ops.toList 0) C w' (nZ P n ops ops.toList W hc C k fuel (gk m j) (fT n (FR a) oj.dst v) w') ->
      wpC P ops (CN P ops W C) (λa' w'=>a'.tmps.size=n/\a'.defers=d/\(∀j,df M j=false->FR a' j=f0 j)/\k (FR a') w') fuel (listed.setIfInBounds j true) (a.put oj.dst v) w':=by
     intro v w' h';have h2:CN P ops W C (listed.setIfInBounds j true) w'/\nZ P n ops ops.toList W hc C k fuel (gk m j) (fT n (FR a) oj.dst v) w':=by
      unfold CK at h';cases hcc:hc with
      | true=>
       subst hcc;rw[JD] at h';cases hst:fB P W ops.toList (gk m j) ops.toList 0 with
       | true=>rw[hst] at h';exact⟨λ_=>h'.1,h'.2⟩
       | false=>rw[hst] at h';refine⟨λhS=>?_,h'⟩;have:=hS.b (hr.set hjn);rw[hst] at this;cases this
      | false=>subst hcc;rw[Jq] at h';exact⟨λ_=>by rw[hC rfl];trivial,h'⟩
     exact ih _ _ _ _ (hr.set hjn) (hd.set hj) ((jH a _ _).trans hn) ((fV a _ _).trans hdf) (yk hoj hM hf v) h2.1 (by rw[jd,hn];exact h2.2)
    unfold opC;simp only[hoj];rcases fh hx0 with⟨hw,hx⟩|⟨hw,hx⟩
    ·rw[IY hw,IY heff];have hx:=kq hx;rw[oO] at hx;exact mT next hx
    ·rw[IT (by simp[hw])];exact next _ _ hx
theorem rT:gN KD:=by
 intro P n id ops a w k d M f0 Q hm hM hn hd hf hk h;subst hk;unfold KD at h;cases h0:BQ ops.toList&&okW (mkW ops.toList []) ops.toList 0 with
 | false=>rw[h0] at h;exact h.elim
 | true=>
  rw[h0] at h;simp only[E0] at h0;simp only[D8] at h;have fin:∀(C:World->Prop) (hc:Bool),(hc=false->C=λ_=>True)->C w.drew->nZ P n ops ops.toList (mkW ops.toList []) hc C (Q .normal) ops.toList.length 0 (FR a) w.drew->(Code.region id ops true).wp P (DS n d M f0 Q) a w:=by intro C hc hC hCw hh;refine wp_region_any hm (zl (C:=CN P ops (mkW ops.toList []) C) (λa' w' h'=>⟨h'.1,h'.2.1,h'.2.2.1,h'.2.2.2⟩) _ _ _ _ (zA (n:=n) (d:=d) (M:=M) (f0:=f0) h0.1 h0.2 hC hM ops.size 0 _ a w.drew (Rl.none ops) ?_ hn hd hf (λ_=>hCw) (by simpa using hh)));intro j o _ hl;have h1:=(Rl.none ops).2 j;rw[hl,nU] at h1;cases h1
  cases hnc:xO P (mkW ops.toList []) ops.toList ops.toList 0 with
  | true=>rw[hnc] at h;obtain⟨C,hCw,hh⟩:=h;exact fin C true (λe=>by cases e) hCw hh
  | false=>rw[hnc] at h;exact fin _ false (λ_=>rfl) trivial h
theorem du{a b:Prop}(h1:a->b)(h2:b->a):a=b:=propext ⟨h1,h2⟩
@[congr] theorem FT{r r':Option Value}{k:Value->Prop}(h:r=r'):Pu r k=Pu r' k:=by rw[h]
@[congr] theorem FP{w:World}{x x':Value}{k:KV}(h:x=x'):Ld w x k=Ld w x' k:=by rw[h]
@[congr] theorem Eg{n:Nat}{w:World}{x x':Value}{k:KV}(h:x=x'):LdN n w x k=LdN n w x' k:=by rw[h]
@[congr] theorem FW{n:Nat}{w:World}{x x' u:Value}{k:KV}(h:x=x'):St n w x u k=St n w x' u k:=by rw[h]
@[congr] theorem Eh{cs cs':Array Value}{t:TypeId}{w:World}{k:KV}(h:cs=cs'):New cs t w k=New cs' t w k:=by rw[h]
@[congr] theorem DY{v v':Value}{a b:Prop}(h:v=v'):IfB v a b=IfB v' a b:=by rw[h]
@[congr] theorem FJ{c c':Bool}{X:KV->Prop}{w:World}{k:KV}(h:c=c'):Gd c X w k=Gd c' X w k:=by rw[h]
@[congr] theorem DX{c c':Bool}{X:KV->Prop}{w:World}{k:Fr->KV}(h:c=c'):GdG c X w k=GdG c' X w k:=by rw[h]
@[congr] theorem FN{n:Nat}{w:World}{x x':Value}{k:KV}(h:x=x'):LF n x w k=LF n x' w k:=by rw[h]
@[congr] theorem FM{n:Nat}{w:World}{x x':Value}{k:KV}(h:x=x'):LA n x w k=LA n x' w k:=by rw[h]
@[congr] theorem FV{n m:Nat}{w:World}{x x' u:Value}{k:KV}(h:x=x'):SF n m x w u k=SF n m x' w u k:=by rw[h]
@[congr] theorem FU{n m:Nat}{w:World}{x x' u:Value}{k:KV}(h:x=x'):SA n m x w u k=SA n m x' w u k:=by rw[h]
@[congr] theorem FO{n:Nat}{w:World}{x i:Value}{k:KV}:LI n x i w k=LI n x i w k:=rfl
@[congr] theorem FH{d:TypeDesc}{o:BinOp}{a b:Value}{x y:Prop}:Bf d o a b x y=Bf d o a b x y:=rfl
@[congr] theorem FG{o:BinOp}{a b:Value}{x y:Prop}:BI o a b x y=BI o a b x y:=rfl
@[congr] theorem FQ{c a b:Value}{x y:Prop}:Pq c a b x y=Pq c a b x y:=rfl
@[congr] theorem FX{t t':Value}{k:Value->Value->Prop}(h:t=t'):X2 t k=X2 t' k:=by rw[h]
@[congr] theorem FY{t t':Value}{k:Value->Value->Value->Prop}(h:t=t'):X3 t k=X3 t' k:=by rw[h]
@[congr] theorem DM{P:Program}{s:Sem Value}{w:World}{k:KV}:RunS P s w k=RunS P s w k:=rfl
@[congr] theorem DN{P:Program}{s:Sem Unit}{w:World}{k:KV}:RunU P s w k=RunU P s w k:=rfl
@[congr] theorem FI{P:Program}{g:FuncId}{l:List Value}{w:World}{k:KV}:Cl P g l w k=Cl P g l w k:=rfl
@[congr] theorem DV{P:Program}{v:Value}{l:List Value}{w:World}{k:KV}:ClV P v l w k=ClV P v l w k:=rfl
@[congr] theorem FK{B:List Value->World->Prop}{A:(List Value->World->Prop)->Prop}:Jn B A=Jn B A:=rfl
theorem xe(a:Value)(l:List Value):bj (.tuple (List.toArray (a::l))) 0=some a:=rfl
theorem xf(a b:Value)(l:List Value):bj (.tuple (List.toArray (a::b::l))) 1=some b:=rfl
theorem BA(a b c:Value)(l:List Value):bj (.tuple (List.toArray (a::b::c::l))) 2=some c:=rfl
theorem EI(a b c d:Value)(l:List Value):bj (.tuple (List.toArray (a::b::c::d::l))) 3=some d:=rfl
theorem nC(a:Addr):bO (.pointer (some a))=some (.pointer (some a)):=rfl
theorem CP(g:FuncId)(x y:Array Value):bO (.func (.func g) x y)=some (.func (.func g) x y):=rfl
theorem kr(n:Nat)(a:Addr):faV n (.pointer (some a))=some (.pointer (some (a.add n))):=rfl
theorem CL(a:Option Addr)(n c:Nat):lenV (.slice a n c)=some (.int .i64 n):=rfl
theorem EP(s:ByteArray):bW (.string s)=some (.int .i64 s.size):=rfl
theorem Cn(a:Option Addr)(n c:Nat):cy (.slice a n c)=some (.int .i64 c):=rfl
theorem CY(a b:Value):aL (.bool true) a b=some a:=rfl
theorem CX(a b:Value):aL (.bool false) a b=some b:=rfl
theorem Gm(c x:Bool):aL (.bool c) (.bool true) (.bool x)=some (.bool (c||x)):=by cases c<;>rfl
theorem Fi(c x:Bool):aL (.bool c) (.bool x) (.bool false)=some (.bool (c&&x)):=by cases c<;>simp[aL]
theorem DG(b:Bool):unV .not (.bool b)=some (.bool !b):=rfl
theorem DF(k:IntKind)(n:Int):unV .neg (.int k n)=some (.int k (k.wrap (0 - n))):=rfl
theorem GQ(b:Bool):isB true (.bool b)=b:=rfl
theorem GP(b:Bool):isB false (.bool b)=!b:=rfl
theorem GR(b:Bool):isB b undef=false:=rfl
theorem sc(d:TypeDesc)(k:IntKind)(a b:Int):aC d .add (.int k a) (.int k b)=some (.int k (k.wrap (a+b))):=by simp[aC,qm,oh]
theorem zV(d:TypeDesc)(k:IntKind)(a b:Int):aC d .sub (.int k a) (.int k b)=some (.int k (k.wrap (a - b))):=by simp[aC,qm,oh]
theorem zR(d:TypeDesc)(k:IntKind)(a b:Int):aC d .mul (.int k a) (.int k b)=some (.int k (k.wrap (a*b))):=by simp[aC,qm,oh]
theorem zT(d:TypeDesc)(k:IntKind)(a b:Int):aC d .quo (.int k a) (.int k b)=if b=0 then none else some (.int k (k.wrap (a.tdiv b))):=by simp[aC,qm,oh]
theorem nb(d:TypeDesc)(k:IntKind)(a b:Int):aC d .rem (.int k a) (.int k b)=if b=0 then none else some (.int k (a.tmod b)):=by simp[aC,qm,oh]
theorem zM(d:TypeDesc)(k:IntKind)(a b:Int):aC d .eql (.int k a) (.int k b)=some (.bool (a == b)):=by simp[aC,qm,oh]
theorem zS(d:TypeDesc)(k:IntKind)(a b:Int):aC d .neq (.int k a) (.int k b)=some (.bool (a != b)):=by simp[aC,qm,oh]
theorem zQ(d:TypeDesc)(k:IntKind)(a b:Int):aC d .lss (.int k a) (.int k b)=some (.bool (decide (a<b))):=by simp[aC,qm,oh]
theorem zP(d:TypeDesc)(k:IntKind)(a b:Int):aC d .leq (.int k a) (.int k b)=some (.bool (decide (a<=b))):=by simp[aC,qm,oh]
theorem zO(d:TypeDesc)(k:IntKind)(a b:Int):aC d .gtr (.int k a) (.int k b)=some (.bool (decide (b<a))):=by simp[aC,qm,oh]
theorem zN(d:TypeDesc)(k:IntKind)(a b:Int):aC d .geq (.int k a) (.int k b)=some (.bool (decide (b<=a))):=by simp[aC,qm,oh]
theorem sf(d:TypeDesc)(k j:IntKind)(a b:Int):aC d .shl (.int k a) (.int j b)=shV .shl k a b:=rfl
theorem jz(d:TypeDesc)(k j:IntKind)(a b:Int):aC d .shr (.int k a) (.int j b)=shV .shr k a b:=rfl
theorem bytes_beq(s t:ByteArray):(s.toList == t.toList)=decide (s=t):=by
 by_cases h:s=t
 ·subst h;simp
 ·have:s.toList≠t.toList:=λe=>h (by
   have e':s.data.toList=t.data.toList:=by rw[<- Go.ByteArray.toList_eq,<- Go.ByteArray.toList_eq];exact e
   exact Kr (Ko e'))
  simp[h,this]
theorem vY(d:TypeDesc)(s t:ByteArray):aC d .eql (.string s) (.string t)=some (.bool (decide (s=t))):=by simp only[aC,DP,bytes_beq]
theorem wm(d:TypeDesc)(s t:ByteArray):aC d .neq (.string s) (.string t)=some (.bool (!decide (s=t))):=by simp only[aC,DP,bytes_beq]
theorem wj(d:TypeDesc)(s t:ByteArray):aC d .lss (.string s) (.string t)=some (.bool (Op.bytesLess s.toList t.toList)):=rfl
theorem vS(x y:Bool):aC .bool .eql (.bool x) (.bool y)=some (.bool (x == y)):=rfl
theorem vU(x y:Bool):aC .bool .neq (.bool x) (.bool y)=some (.bool (x != y)):=by cases x<;>cases y<;>rfl
theorem vV(e:TypeId)(a:Option Addr):aC (.pointer e) .eql (.pointer a) (.pointer none)=some (.bool a.isNone):=by cases a<;>rfl
theorem vW(e:TypeId)(a:Option Addr):aC (.pointer e) .neq (.pointer a) (.pointer none)=some (.bool a.isSome):=by cases a<;>rfl
theorem dT{sz:Nat}{a:Addr}{len cap:Nat}{k:IntKind}{i:Nat}(h:i<len):ixV sz (.slice (some a) len cap) (.int k i)=some (.pointer (some (a.add (i*sz)))):=by simp[ixV,h]
theorem jP(a:Addr)(m n:Nat):(a.add m).add n=a.add (m+n):=by obtain⟨b,o,s⟩:=a;unfold Addr.add;by_cases hm:m=0<;>by_cases hn:n=0<;>simp[hm,hn];omega
theorem aA(b o n:Nat):Addr.add ⟨b,o,none⟩ n=⟨b,o+n,none⟩:=by unfold Addr.add;split<;>simp_all
theorem add_zero(a:Addr):a.add 0=a:=rfl
theorem Gs(a b:Prop):IfB (.bool true) a b=a:=du (λh=>h.out) (λh=>⟨h⟩)
theorem Gq(a b:Prop):IfB (.bool false) a b=b:=du (λh=>h.out) (λh=>⟨h⟩)
theorem DZ{c:Bool}{a b:Prop}(h1:c=true->a)(h2:c=false->b):IfB (.bool c) a b:=by
 cases c
 ·exact⟨h2 rfl⟩
 ·exact⟨h1 rfl⟩
theorem HN(X:KV->Prop)(w:World)(k:KV):Gd true X w k=X k:=du (λh=>h.out) (λh=>⟨h⟩)
theorem HM(X:KV->Prop)(w:World)(k:KV):Gd false X w k=k undef w:=du (λh=>h.out) (λh=>⟨h⟩)
theorem rU(w:World)(a:Addr)(k:KV):Ld w (.pointer (some a)) k=Pu (w.cell? a) (λu=>k u w):=by
 refine du (λh=>⟨?_⟩) (λh=>⟨?_⟩)
 ·have:=h.out;unfold Ld0 at this;unfold Pu0;cases hc:w.cell? a<;>simp_all
 ·have:=h.out;unfold Pu0 at this;unfold Ld0;cases hc:w.cell? a<;>simp_all
def aI(w:World)(a:Addr)(n:Nat):Option Value:=(bC w a 0 n).map λl=>.agg l.toArray
theorem vC(n:Nat)(w:World)(a:Addr)(k:KV):LdN n w (.pointer (some a)) k=Pu (aI w a n) (λu=>k u w):=by
 refine du (λh=>⟨?_⟩) (λh=>⟨?_⟩)
 ·have:=h.out;unfold LdN0 at this;unfold Pu0 aI;cases hc:bC w a 0 n<;>simp_all
 ·have:=h.out;unfold Pu0 aI at this;unfold LdN0;cases hc:bC w a 0 n<;>simp_all
theorem Ei(cs:Array Value)(t:TypeId)(w:World)(k:KV):New cs t w k=k (.pointer (some ⟨w.heap.size,0,none⟩)) (w.alloc (.cells cs t)):=du (λh=>h.out) (λh=>⟨h⟩)
theorem Bl{w:World}{a:Addr}{u x:Value}{k:KV}(hu:u.oneCell'=true)(hc:w.cell? a=some x)(hf:w.frozen? a=false)(h:k undef (w.setCell a u)):St 1 w (.pointer (some a)) u k:=by
 refine⟨?_⟩;have hcs:u.cells=#[u]:=by cases u<;>first|rfl|simp[Value.oneCell'] at hu
 simp only[St0,hcs,I7,G2,Ja,Nat.reduceAdd,JW,D8,stC,hu,add_zero,hc,hf,C8];exact h
theorem ag{P:Program}{s:Sem Value}{w w':World}{v:Value}{k:KV}(h:s.run P w=.ok v w')(hk:k v w'):RunS P s w k:=⟨by unfold RunS0;rw[h];exact hk⟩
theorem cA{P:Program}{s:Sem Unit}{w w':World}{k:KV}(h:s.run P w=.ok () w')(hk:k undef w'):RunU P s w k:=⟨by unfold RunU0;rw[h];exact hk⟩
theorem ax{P:Program}{g:FuncId}{x y:Array Value}{l:List Value}{w:World}{k:KV}(hb:jw P g=true)(h:Cl P g (x.toList++l++y.toList) w k):ClV P (.func (.func g) x y) l w k:=⟨by simp only[ClV0,hb,D8];exact h⟩
theorem aJ{B:List Value->World->Prop}{A:(List Value->World->Prop)->Prop}(J:List Value->World->Prop)(hB:∀vs w,J vs w->B vs w)(hA:∀kk:List Value->World->Prop,(∀vs w,J vs w->kk vs w)->A kk):Jn B A:=⟨hA B hB⟩
theorem aM(w:World):w.drew.heap=w.heap:=rfl
theorem bE(w:World)(a:Addr):w.drew.cell? a=w.cell? a:=rfl
theorem af{n:Int}(h : -9223372036854775808<=n/\n<=9223372036854775807):IntKind.i64.wrap n=n:=by unfold IntKind.wrap;simp[IntKind.bits,IntKind.signed];omega
theorem zp{i:Nat}(h:(i:Int)<9223372036854775807):IntKind.i64.wrap ((i:Int)+1)=((i+1:Nat):Int):=by rw[af oM];rfl
def nth(l:List Value)(j:Nat):Int:=match l[j]? with
 | some (.int _ n)=>n
 | _=>0
theorem ba(k:IntKind)(n:Int)(l:List Value):nth (.int k n::l) 0=n:=rfl
theorem cK(a:Value)(k:IntKind)(n:Int)(l:List Value):nth (a::.int k n::l) 1=n:=rfl
theorem EX(a b:Value)(k:IntKind)(n:Int)(l:List Value):nth (a::b::.int k n::l) 2=n:=rfl
theorem Ij(a b c:Value)(k:IntKind)(n:Int)(l:List Value):nth (a::b::c::.int k n::l) 3=n:=rfl
theorem Ca(X:KV->Prop)(w:World)(k:KV):GdG true X w (λ_=>k)=X k:=by
 have e:(λv w'=>∀_:Fr,k v w')=k:=by funext v w';exact propext ⟨λh=>h (λ_=>undef),λh _=>h⟩
 refine du (λh=>?_) (λh=>⟨?_⟩)
 ·have:=h.out;unfold GdG0 at this;rw[D8,e] at this;exact this
 ·unfold GdG0;rw[D8,e];exact h
theorem BZ(X:KV->Prop)(w:World)(k:KV):GdG false X w (λ_=>k)=k undef w:=by
 refine du (λh=>?_) (λh=>⟨?_⟩)
 ·have:=h.out;unfold GdG0 at this;rw[C8] at this;exact this (λ_=>undef)
 ·unfold GdG0;rw[C8];exact λ_=>h
theorem Ef(n:Nat)(a:Addr)(w:World)(k:KV):LF n (.pointer (some a)) w k=Pu (w.cell? (a.add n)) (λu=>k u w):=by unfold LF;rw[nC,bB,kr,bB,rU]
theorem Ee(n:Nat)(a:Addr)(w:World)(k:KV):LA n (.pointer (some a)) w k=Pu (w.cell? (a.add n)) (λu=>k u w):=by unfold LA;rw[kr,bB,rU]
theorem El(n m:Nat)(a:Addr)(w:World)(u:Value)(k:KV):SF n m (.pointer (some a)) w u k=St m w (.pointer (some (a.add n))) u k:=by unfold SF;rw[nC,bB,kr,bB]
theorem Ek(n m:Nat)(a:Addr)(w:World)(u:Value)(k:KV):SA n m (.pointer (some a)) w u k=St m w (.pointer (some (a.add n))) u k:=by unfold SA;rw[kr,bB]
theorem HP(sz:Nat)(x i:Value)(w:World)(k:KV):LI sz x i w k=Pu (ixV sz x i) (λb=>Ld w b k):=rfl
theorem HF(d:TypeDesc)(op:BinOp)(a b:Value)(x y:Prop):Bf d op a b x y=Pu (aC d op a b) (λc=>IfB c x y):=rfl
theorem HE(op:BinOp)(a b:Value)(x y:Prop):BI op a b x y=Pu (aC (.int .i64) op a b) (λc=>IfB c x y):=rfl
theorem HQ(c a b:Value)(x y:Prop):Pq c a b x y=Pu (aL c a b) (λr=>IfB r x y):=rfl
theorem Gx(a b:Value)(l:List Value)(k:Value->Value->Prop):X2 (.tuple (List.toArray (a::b::l))) k=k a b:=by unfold X2;rw[xe,bB,xf,bB]
theorem Gy(a b c:Value)(l:List Value)(k:Value->Value->Value->Prop):X3 (.tuple (List.toArray (a::b::c::l))) k=k a b c:=by unfold X3;rw[xe,bB,xf,bB,BA,bB]
theorem RS0:(∀(v:Value) (k:Value->Prop),Pu (some v) k=k v) /\
 (∀(a:Value) (l:List Value),bj (.tuple (List.toArray (a::l))) 0=some a) /\
 (∀(a b:Value) (l:List Value),bj (.tuple (List.toArray (a::b::l))) 1=some b) /\
 (∀(a b c:Value) (l:List Value),bj (.tuple (List.toArray (a::b::c::l))) 2=some c) /\
 (∀(a b c d:Value) (l:List Value),bj (.tuple (List.toArray (a::b::c::d::l))) 3=some d) /\
 (∀(a:Addr),bO (.pointer (some a))=some (.pointer (some a))) /\
 (∀(g:FuncId) (x y:Array Value),bO (.func (.func g) x y)=some (.func (.func g) x y)) /\
 (∀(n:Nat) (a:Addr),faV n (.pointer (some a))=some (.pointer (some (a.add n)))) /\
 (∀(a:Option Addr) (n c:Nat),lenV (.slice a n c)=some (.int .i64 n)):=
 ⟨@bB,@xe,@xf,@BA,@EI,@nC,@CP,@kr,@CL⟩
theorem RS1:(∀(s:ByteArray),bW (.string s)=some (.int .i64 s.size)) /\
 (∀(a:Option Addr) (n c:Nat),cy (.slice a n c)=some (.int .i64 c)) /\
 (∀(a b:Value),aL (.bool true) a b=some a) /\
 (∀(a b:Value),aL (.bool false) a b=some b) /\
 (∀(b:Bool),unV .not (.bool b)=some (.bool !b)) /\
 (∀(k:IntKind) (n:Int),unV .neg (.int k n)=some (.int k (k.wrap (0 - n)))) /\
 (∀(b:Bool),isB true (.bool b)=b) /\
 (∀(b:Bool),isB false (.bool b)=!b) /\
 (∀(b:Bool),isB b undef=false):=
 ⟨@EP,@Cn,@CY,@CX,@DG,@DF,@GQ,@GP,@GR⟩
theorem RS2:(∀(d:TypeDesc) (k:IntKind) (a b:Int),aC d .add (.int k a) (.int k b)=some (.int k (k.wrap (a+b)))) /\
 (∀(d:TypeDesc) (k:IntKind) (a b:Int),aC d .sub (.int k a) (.int k b)=some (.int k (k.wrap (a - b)))) /\
 (∀(d:TypeDesc) (k:IntKind) (a b:Int),aC d .mul (.int k a) (.int k b)=some (.int k (k.wrap (a*b)))) /\
 (∀(d:TypeDesc) (k:IntKind) (a b:Int),aC d .eql (.int k a) (.int k b)=some (.bool (a == b))) /\
 (∀(d:TypeDesc) (k:IntKind) (a b:Int),aC d .neq (.int k a) (.int k b)=some (.bool (a != b))) /\
 (∀(d:TypeDesc) (k:IntKind) (a b:Int),aC d .lss (.int k a) (.int k b)=some (.bool (decide (a<b)))) /\
 (∀(d:TypeDesc) (k:IntKind) (a b:Int),aC d .leq (.int k a) (.int k b)=some (.bool (decide (a<=b)))) /\
 (∀(d:TypeDesc) (k:IntKind) (a b:Int),aC d .gtr (.int k a) (.int k b)=some (.bool (decide (b<a)))) /\
 (∀(d:TypeDesc) (k:IntKind) (a b:Int),aC d .geq (.int k a) (.int k b)=some (.bool (decide (b<=a)))):=
 ⟨@sc,@zV,@zR,@zM,@zS,@zQ,@zP,@zO,@zN⟩
theorem RS3:(∀(d:TypeDesc) (s t:ByteArray),aC d .eql (.string s) (.string t)=some (.bool (decide (s=t)))) /\
 (∀(d:TypeDesc) (s t:ByteArray),aC d .neq (.string s) (.string t)=some (.bool (!decide (s=t)))) /\
 (∀(d:TypeDesc) (s t:ByteArray),aC d .lss (.string s) (.string t)=some (.bool (Op.bytesLess s.toList t.toList))) /\
 (∀(x y:Bool),aC .bool .eql (.bool x) (.bool y)=some (.bool (x == y))) /\
 (∀(x y:Bool),aC .bool .neq (.bool x) (.bool y)=some (.bool (x != y))) /\
 (∀(e:TypeId) (a:Option Addr),aC (.pointer e) .eql (.pointer a) (.pointer none)=some (.bool a.isNone)) /\
 (∀(e:TypeId) (a:Option Addr),aC (.pointer e) .neq (.pointer a) (.pointer none)=some (.bool a.isSome)) /\
 (∀(a:Addr) (m n:Nat),(a.add m).add n=a.add (m+n)) /\
 (∀(b o n:Nat),Addr.add ⟨b,o,none⟩ n=⟨b,o+n,none⟩):=
 ⟨@vY,@wm,@wj,@vS,@vU,@vV,@vW,@jP,@aA⟩
theorem RS4:(∀(a:Addr),a.add 0=a) /\
 (∀n:Nat,0+n=n) /\
 (∀n:Nat,n+0=n) /\
 (∀(a b:Prop),IfB (.bool true) a b=a) /\
 (∀(a b:Prop),IfB (.bool false) a b=b) /\
 (∀(X:KV->Prop) (w:World) (k:KV),Gd true X w k=X k) /\
 (∀(X:KV->Prop) (w:World) (k:KV),Gd false X w k=k undef w) /\
 (∀(w:World) (a:Addr) (k:KV),Ld w (.pointer (some a)) k=Pu (w.cell? a) (λu=>k u w)) /\
 (∀(n:Nat) (w:World) (a:Addr) (k:KV),LdN n w (.pointer (some a)) k=Pu (aI w a n) (λu=>k u w)):=
 ⟨@Go.Al.add_zero,@E7,@Jt,@Gs,@Gq,@HN,@HM,@rU,@vC⟩
theorem RS5:(∀{α:Type} {a:α},(some a).isNone=false) /\
 (∀{α:Type},(none:Option α).isNone=true) /\
 (∀{α:Type} {a:α},(some a).isSome=true) /\
 (∀{α:Type},(none:Option α).isSome=false) /\
 ((!true)=false) /\
 ((!false)=true) /\
 (∀(w:World) (a:Addr),w.drew.cell? a=w.cell? a) /\
 (∀(w:World),w.drew.heap=w.heap):=
 ⟨@Option.isNone_some,@Option.isNone_none,@Option.isSome_some,@Option.isSome_none,@JE,@Bool.not_false,@bE,@aM⟩
theorem RS6:(∀(X:KV->Prop) (w:World) (k:KV),GdG true X w (λ_=>k)=X k) /\
 (∀(X:KV->Prop) (w:World) (k:KV),GdG false X w (λ_=>k)=k undef w) /\
 (∀(n:Nat) (a:Addr) (w:World) (k:KV),LF n (.pointer (some a)) w k=Pu (w.cell? (a.add n)) (λu=>k u w)) /\
 (∀(n:Nat) (a:Addr) (w:World) (k:KV),LA n (.pointer (some a)) w k=Pu (w.cell? (a.add n)) (λu=>k u w)) /\
 (∀(n m:Nat) (a:Addr) (w:World) (u:Value) (k:KV),SF n m (.pointer (some a)) w u k=St m w (.pointer (some (a.add n))) u k) /\
 (∀(n m:Nat) (a:Addr) (w:World) (u:Value) (k:KV),SA n m (.pointer (some a)) w u k=St m w (.pointer (some (a.add n))) u k) /\
 (∀(sz:Nat) (x i:Value) (w:World) (k:KV),LI sz x i w k=Pu (ixV sz x i) (λb=>Ld w b k)) /\
 (∀(d:TypeDesc) (op:BinOp) (a b:Value) (x y:Prop),Bf d op a b x y=Pu (aC d op a b) (λc=>IfB c x y)) /\
 (∀(op:BinOp) (a b:Value) (x y:Prop),BI op a b x y=Pu (aC (.int .i64) op a b) (λc=>IfB c x y)) /\
 (∀(c a b:Value) (x y:Prop),Pq c a b x y=Pu (aL c a b) (λr=>IfB r x y)) /\
 (∀(a b:Value) (l:List Value) (k:Value->Value->Prop),X2 (.tuple (List.toArray (a::b::l))) k=k a b) /\
 (∀(a b c:Value) (l:List Value) (k:Value->Value->Value->Prop),X3 (.tuple (List.toArray (a::b::c::l))) k=k a b c):=
 ⟨@Ca,@BZ,@Ef,@Ee,@El,@Ek,@HP,@HF,@HE,@HQ,@Gx,@Gy⟩
theorem RS:type_of% (And.intro @RS0 (And.intro @RS1 (And.intro @RS2 (And.intro @RS3 (And.intro @RS4 (And.intro @RS5 @RS6)))))):=And.intro @RS0 (And.intro @RS1 (And.intro @RS2 (And.intro @RS3 (And.intro @RS4 (And.intro @RS5 @RS6)))))
open Go.RowKit (Below)
open Go.ChangeMaps (setBlock)
structure Fm (S : Nat → Prop) (w w' : World) : Prop where
 os : w'.os = w.os
 tape : w'.tape = w.tape
 output : w'.output = w.output
 size : w.heap.size ≤ w'.heap.size
 block : ∀ b, b < w.heap.size → ¬ S b → w'.heap[b]? = w.heap[b]?
theorem Fm.refl(S:Nat->Prop)(w:World):Fm S w w:=⟨rfl,rfl,rfl,D9 _,λ_ _ _=>rfl⟩
theorem Fm.trans{S T U:Nat->Prop}{a b c:World}(h:Fm S a b)(k:Fm T b c)(hS:∀x,x<a.heap.size->S x->U x)(hT:∀x,x<a.heap.size->T x->U x):Fm U a c:=⟨k.os.trans h.os,k.tape.trans h.tape,k.output.trans h.output,F8 h.size k.size,λx hx hu=>(k.block x (E3 hx h.size) (λt=>hu (hT x hx t))).trans (h.block x hx (λs=>hu (hS x hx s)))⟩
theorem Fm.mono{S T:Nat->Prop}{a b:World}(h:Fm S a b)(hS:∀x,x<a.heap.size->S x->T x):Fm T a b:=⟨h.os,h.tape,h.output,h.size,λx hx ht=>h.block x hx λs=>ht (hS x hx s)⟩
theorem Fm.alloc(S:Nat->Prop)(w:World)(o:Obj):Fm S w (w.alloc o):=⟨rfl,rfl,rfl,sI,λb hb _=>by show(w.heap.push o)[b]?=_;rw[Array.getElem?_push,IT oM]⟩
theorem Fm.drew(S:Nat->Prop)(w:World):Fm S w w.drew:=⟨rfl,rfl,rfl,D9 _,λ_ _ _=>rfl⟩
theorem Fm.setBlock{S:Nat->Prop}(w:World)(r:Nat)(o:Obj)(hr:S r):Fm S w (setBlock w r o):=⟨rfl,rfl,rfl,by simp[ChangeMaps.setBlock],λb hb hs=>by simp only[ChangeMaps.setBlock];rw[J3 (by rintro rfl;exact hs hr)]⟩
theorem Fm.setCell{S:Nat->Prop}(w:World)(a:Addr)(v:Value)(hr:S a.block):Fm S w (w.setCell a v):=⟨rfl,rfl,rfl,by simp[World.setCell],λb hb hs=>by simp only[World.setCell,Array.getElem?_modify];rw[IT (by rintro rfl;exact hs hr)]⟩
theorem Fm.grown{S:Nat->Prop}{w w':World}{row:Option Nat}(h:w.grownBy w' row)(hr:∀k,row=some k->k<w.heap.size->S k):Fm S w w':=⟨h.os,h.tape,h.output,h.size,λb hb hs=>h.block b hb λe=>hs (hr b e.symm hb)⟩
theorem Fm.below{w w':World}(h:Fm (λ_=>False) w w'):Below w.heap.size w w':=⟨h.os,h.tape,h.output,h.size,λb hb=>h.block b hb id⟩
theorem Fm.iF{w w':World}(h:Below w.heap.size w w')(S:Nat->Prop):Fm S w w':=⟨h.os,h.tape,h.output,h.size,λb hb _=>h.block b hb⟩
theorem Fm.cell{S:Nat->Prop}{w w':World}(h:Fm S w w'){a:Addr}(ha:a.block<w.heap.size)(hs:¬S a.block):w'.cell? a=w.cell? a:=World.cell?_of_block (w:=w) (h.block a.block ha hs)
theorem Fm.j4{S:Nat->Prop}{w w':World}(h:Fm S w w'){a:Addr}{v:Value}(hv:w.cell? a=some v)(hs:¬S a.block):w'.cell? a=some v:=by
 have:a.block<w.heap.size:=by
  unfold World.cell? at hv;cases hb:w.heap[a.block]? with
  | none=>simp[hb] at hv
  | some o=>exact(Jg.1 hb).1
 rw[h.cell this hs];exact hv
theorem aj{w:World}{b:Nat}{o:Obj}(h:w.heap[b]?=some o):b<w.heap.size:=(Jg.1 h).1
theorem Fm.heap{S:Nat->Prop}{w w':World}(h:Fm S w w'){b:Nat}{o:Obj}(hb:w.heap[b]?=some o)(hs:¬S b):w'.heap[b]?=some o:=by rw[h.block b (aj hb) hs];exact hb
theorem ay(w:World)(o:Obj):(w.alloc o).heap[w.heap.size]?=some o:=(MapKept.heap_alloc w o).1
theorem aE(w:World)(o:Obj):(w.alloc o).heap.size=w.heap.size+1:=sI
theorem ab{w:World}{b off:Nat}{cs:Array Value}{t:TypeId}{fz:Nat×Nat}(h:w.heap[b]?=some (.cells cs t fz)):w.cell? ⟨b,off,none⟩=cs[off]? := by unfold World.cell?;simp[h]
theorem bL{w:World}{b:Nat}{o o':Obj}(h:w.heap[b]?=some o'):(setBlock w b o).heap[b]?=some o:=by simp[ChangeMaps.setBlock,aj h]
theorem bz(w:World)(b:Nat)(o:Obj):(setBlock w b o).heap.size=w.heap.size:=by simp[ChangeMaps.setBlock]
theorem ae{cs:Array Value}{t:TypeId}{w:World}{k:KV}(h:∀b w',b=w.heap.size->w'.heap.size=w.heap.size+1->w'.heap[b]?=some (.cells cs t)->Fm (λ_=>False) w w'->k (.pointer (some ⟨b,0,none⟩)) w'):New cs t w k:=by rw[Ei];exact h _ _ rfl (aE _ _) (ay _ _) (Fm.alloc _ _ _)
theorem bd{α β:Type}(f:α->β):∀(l:List α) (i:Nat),(l.map f).eraseIdx i=(l.eraseIdx i).map f
 | [],i=>by simp
 | x::l,0=>by simp
 | x::l,i+1=>by simp[bd f l i]
structure KeyT (P : Program) (t : TypeId) (kt et : TypeId) {α : Type} (kv : α → Value) : Prop where
 map : P.underlying t = some (.map kt et)
 now : ∃ d, P.underlying kt = some d ∧ (∀ a b, ∃ r, Instr.sameNow d (kv a) (kv b) = some r ∧ (r = true ↔ a = b)) ∧ ∀ w a e, (Instr.checkKey e 10000 kt (kv a)).run P w = .ok () w
 bits : ∀ a n, Instr.sameBits n (kv a) (kv a) = true
 inj : ∀ a b, kv a = kv b → a = b
theorem dG{P:Program}{t kt et:TypeId}{q:IntKind}(h:P.underlying t=some (.map kt et))(hk:P.underlying kt=some (.int q)):KeyT P t kt et (Value.int q) where
 map:=h
 now:=⟨_,hk,λa b=>⟨a == b,by simp[Instr.sameNow],sI⟩,λw a e=>by
  rw[Instr.checkKey]
  simp only[Sem.run_bind,an hk,Result.andThen_ok,Sem.run_pure]⟩
 bits:=λa n=>by cases n<;>simp[Instr.sameBits]
 inj:=λa b h=>by cases h;rfl
theorem An{P:Program}{t kt et:TypeId}(h:P.underlying t=some (.map kt et))(hk:P.underlying kt=some .string):KeyT P t kt et Value.string where
 map:=h
 now:=⟨_,hk,λa b=>⟨a == b,by simp[Instr.sameNow],MapKept.bytes_beq a b⟩,λw a e=>by
  rw[Instr.checkKey]
  simp only[Sem.run_bind,an hk,Result.andThen_ok,Sem.run_pure]⟩
 bits:=λa n=>by cases n<;>simp[Instr.sameBits,MapKept.bytes_beq]
 inj:=λa b h=>by cases h;rfl
variable{α β:Type}[DecidableEq α]
structure MapAt (w : World) (b : Nat) (kv : α → Value) (vv : β → Value) (D : List (α × β)) : Prop where
 ex : ∃ es clock, w.heap[b]? = some (.map es clock) ∧ es.toList.map (fun e => (e.key, e.val)) = D.map (fun p => (kv p.1, vv p.2)) ∧ (es.toList.map (·.born)).Nodup ∧ ∀ e ∈ es.toList, e.born < clock
 keys : (D.map (·.1)).Nodup
def getD(D:List (α×β))(a:α):Option β:=(D.find? (λp=>decide (p.1=a))).map (·.2)
def cM:List (α×β)->α->β->List (α×β)
 | [],a,b=>[(a,b)]
 | p::l,a,b=>if p.1=a then(a,b)::l else p::cM l a b
def cO:List (α×β)->α->List (α×β)
 | [],_=>[]
 | p::l,a=>if p.1=a then l else p::cO l a
theorem getD_cons(p:α×β)(D:List (α×β))(x:α):getD (p::D) x=if p.1=x then some p.2 else getD D x:=by unfold getD;rw[List.find?_cons];by_cases h:p.1=x<;>simp[h]
theorem nu(x:α):getD ([]:List (α×β)) x=none:=rfl
theorem bl(D:List (α×β))(a:α)(b:β)(x:α):getD (cM D a b) x=if x=a then some b else getD D x:=by
 induction D with
 | nil=>rw[cM,getD_cons,nu];by_cases h:a=x<;>simp[h,eq_comm]
 | cons p l ih=>
  rw[cM];by_cases hp:p.1=a
  ·rw[IY hp,getD_cons,getD_cons];subst hp;by_cases h:p.1=x
   ·simp[h]
   ·have h':¬x=p.1:=λe=>h e.symm;simp[h,h']
  ·rw[IT hp,getD_cons,getD_cons,ih];by_cases h:p.1=x
   ·have:x≠a:=λe=>hp (h.trans e);simp[h,this]
   ·simp[h]
theorem cR(D:List (α×β))(a:α)(b:β):(cM D a b).map (·.1)=if a∈D.map (·.1) then D.map (·.1) else D.map (·.1)++[a]:=by
 induction D with
 | nil=>simp[cM]
 | cons p l ih=>
  rw[cM];by_cases hp:p.1=a
  ·subst hp;simp
  ·have hp':¬a=p.1:=λe=>hp e.symm;simp only[IT hp,Ji,ih,H3,hp',false_or];split<;>simp
theorem fQ{D:List (α×β)}(h:(D.map (·.1)).Nodup)(a:α)(b:β):((cM D a b).map (·.1)).Nodup:=by
 rw[cR];split
 ·exact h
 ·rename_i hn;rw[Km];exact⟨h,sI,λx hx y hy=>by simp at hy;subst hy;rintro rfl;exact hn hx⟩
theorem getD_none{D:List (α×β)}{a:α}:getD D a=none↔a∉D.map (·.1):=by unfold getD;rw[Option.map_eq_none_iff,List.find?_eq_none];simp only[C4,E8,not_exists,not_and]
theorem gZ(D:List (α×β))(a:α):(cO D a).map (·.1)=(D.map (·.1)).erase a:=by
 induction D with
 | nil=>rfl
 | cons p l ih=>
  rw[cO,Ji,List.erase_cons];by_cases hp:p.1=a
  ·simp[hp]
  ·have:(p.1 == a)=false:=by simpa using hp
   simp[hp,ih]
theorem dW{D:List (α×β)}(h:(D.map (·.1)).Nodup)(a:α):((cO D a).map (·.1)).Nodup:=by rw[gZ];exact h.erase a
theorem cQ{D:List (α×β)}(h:(D.map (·.1)).Nodup)(a x:α):getD (cO D a) x=if x=a then none else getD D x:=by
 induction D with
 | nil=>simp[cO,nu]
 | cons p l ih=>
  rw[Ji,JV] at h;rw[cO];by_cases hp:p.1=a
  ·rw[IY hp,getD_cons];by_cases hx:x=a
   ·subst hx;rw[IY rfl,getD_none];rw[<- hp];exact h.1
   ·rw[IT hx,IT (λe=>hx (e.symm.trans hp))]
  ·rw[IT hp,getD_cons,getD_cons,ih h.2];by_cases hx:p.1=x
   ·have:x≠a:=λe=>hp (hx.trans e);simp[hx,this]
   ·simp[hx]
theorem getD_some{D:List (α×β)}(h:(D.map (·.1)).Nodup){a:α}{b:β}:getD D a=some b↔(a,b)∈D:=by
 induction D with
 | nil=>simp[nu]
 | cons p l ih=>
  rw[Ji,JV] at h;rw[getD_cons,H3];by_cases hp:p.1=a
  ·rw[IY hp];constructor
   ·intro e;cases e;exact .inl (by rw[<- hp])
   ·rintro(e|e)
    ·cases e;rfl
    ·exact absurd (E8.2 ⟨(a,b),e,rfl⟩) (by rw[<- hp];exact h.1)
  ·rw[IT hp,ih h.2];constructor
   ·exact .inr
   ·rintro(e|e)
    ·cases e;exact absurd rfl hp
    ·exact e
theorem MapAt.lt{w:World}{b:Nat}{kv:α->Value}{vv:β->Value}{D:List (α×β)}(h:MapAt w b kv vv D):b<w.heap.size:=by obtain⟨es,c,hb,_⟩:=h.ex;exact aj hb
theorem MapAt.keep{S:Nat->Prop}{w w':World}{b:Nat}{kv:α->Value}{vv:β->Value}{D:List (α×β)}(h:MapAt w b kv vv D)(hf:Fm S w w')(hs:¬S b):MapAt w' b kv vv D:=by obtain⟨es,c,hb,r⟩:=h.ex;exact⟨⟨es,c,hf.heap hb hs,r⟩,h.keys⟩
theorem MapAt.empty(w:World)(kv:α->Value)(vv:β->Value):MapAt (w.alloc (.map #[] 0)) w.heap.size kv vv []:=⟨⟨#[],0,ay _ _,rfl,sI,sI⟩,sI⟩
theorem ub{P:Program}{t kt et:TypeId}{kv:α->Value}(K:KeyT P t kt et kv){vv:β->Value}(a:α){d:TypeDesc}(hd:P.underlying kt=some d):∀(es:List MapEntry) (D:List (α×β)) (i:Nat),
  es.map (λe=>(e.key,e.val))=D.map (λp=>(kv p.1,vv p.2)) ->
  (getD D a=none/\Instr.findNow d (kv a) es i=some none)\/(∃j b,getD D a=some b/\Instr.findNow d (kv a) es i=some (some (i+j,vv b))/\j<es.length/\(es[j]?.map (·.key))=some (kv a)/\(D.map (·.1))[j]?=some a/\∀l,l<j->(D.map (·.1))[l]?≠some a):=by
 intro es;obtain⟨d',hd',hs,_⟩:=K.now;rw[hd] at hd';cases hd';induction es with
 | nil=>intro D i h;cases D with|nil=>exact .inl ⟨rfl,rfl⟩|cons _ _=>simp at h
 | cons e es ih=>
  intro D i h;cases D with
  | nil=>simp at h
  | cons p D=>
   simp only[Ji,Ku,J9] at h;obtain⟨⟨h1,h2⟩,h3⟩:=h;obtain⟨r,hr,hiff⟩:=hs a p.1;rw[getD_cons];by_cases hp:p.1=a
   ·have hrt:r=true:=hiff.2 hp.symm;refine .inr ⟨0,p.2,by rw[IY hp],?_,sI,by simp[h1,hp],by simp[hp],λl hl=>absurd hl (Nat.not_lt_zero _)⟩;simp only[Instr.findNow,h1,hr,hrt,h2,Jt]
   ·have hrf:r=false:=by cases r with|false=>rfl|true=>exact absurd (hiff.1 rfl).symm hp
    rw[IT hp];have hstep:Instr.findNow d (kv a) (e::es) i=Instr.findNow d (kv a) es (i+1):=by simp only[Instr.findNow,h1,hr,hrf]
    rw[hstep];rcases ih D (i+1) h3 with⟨g1,g2⟩|⟨j,b,g1,g2,g3,g4,g5,g6⟩
    ·exact .inl ⟨g1,g2⟩
    ·refine .inr ⟨j+1,b,g1,by rw[g2,(oM:i+1+j=i+(j+1))],by simpa using g3,by simpa using g4,by simpa using g5,λl hl=>?_⟩;cases l with
     | zero=>simpa using λe=>hp e
     | succ l=>simpa using g6 l oM
theorem ep{P:Program}{t kt et:TypeId}{kv:α->Value}(K:KeyT P t kt et kv){vv:β->Value}(a:α){es:List MapEntry}{D:List (α×β)}(w:World)
  (h:es.map (λe=>(e.key,e.val))=D.map (λp=>(kv p.1,vv p.2))):
  (getD D a=none/\(Instr.findKey kt (kv a) es).run P w=.ok none w)\/(∃j b,getD D a=some b/\(Instr.findKey kt (kv a) es).run P w=.ok (some (j,vv b)) w/\j<es.length/\(es[j]?.map (·.key))=some (kv a)/\(D.map (·.1))[j]?=some a/\∀l,l<j->(D.map (·.1))[l]?≠some a):=by
 obtain⟨d,hd,_⟩:=K.now;unfold Instr.findKey;simp only[Sem.run_bind,an hd,Result.andThen_ok];rcases ub K a hd es D 0 h with⟨g1,g2⟩|⟨j,b,g1,g2,g3⟩
 ·exact .inl ⟨g1,by rw[g2];rfl⟩
 ·exact .inr ⟨j,b,g1,by rw[g2,E7];rfl,g3⟩
theorem run_getObj_map{P:Program}{w:World}{b:Nat}{es:Array MapEntry}{c:Nat}(h:w.heap[b]?=some (.map es c)):(getObj b).run P w=.ok (.map es c) w:=by simp[getObj,Sem.run,h]
theorem run_setObj_map{P:Program}{w:World}{b:Nat}{es:Array MapEntry}{c:Nat}(h:w.heap[b]?=some (.map es c))(o:Obj):(setObj b o).run P w=.ok () (setBlock w b o):=by simp[setObj,Sem.run,h,ChangeMaps.setBlock]
def okV(ok:Bool)(v:Value)(is:Bool):Value:=bif ok then .tuple #[v,.bool is] else v
theorem aX{P:Program}{t kt et:TypeId}{kv:α->Value}(K:KeyT P t kt et kv){vv:β->Value}{w:World}{b:Nat}{D:List (α×β)}(h:MapAt w b kv vv D)(a:α)(ok:Bool){z:Value}(hz:(zeroValue et).run P w=.ok z w):
  (Instr.lookup t (.map (some b)) (kv a) ok).run P w=.ok (match getD D a with
   | some v=>okV ok (vv v) true
   | none=>okV ok z false) w:=by
 obtain⟨es,c,hb,he,_⟩:=h.ex;obtain⟨d,hd,_,hc⟩:=K.now;unfold Instr.lookup;simp only[Sem.run_bind,an K.map,Result.andThen_ok,run_getObj_map hb,Sem.run_pure,hc];rcases ep K a w he with⟨g1,g2⟩|⟨j,v,g1,g2,_⟩
 ·rw[g2,g1];simp[hz];cases ok<;>rfl
 ·rw[g2,g1];simp;cases ok<;>rfl
theorem Di(D:List (α×β))(a:α)(v:β):∀j,(D.map (·.1))[j]?=some a->(∀l,l<j->(D.map (·.1))[l]?≠some a)->cM D a v=D.modify j (λ_=>(a,v)):=by
 induction D with
 | nil=>intro j h _;simp at h
 | cons p l ih=>
  intro j h hn;rw[cM];cases j with
  | zero=>simp at h;simp[h]
  | succ j=>
   have:p.1≠a:=by have:=hn 0 oM;simpa using this
   rw[IT this,List.modify_succ_cons,ih j (by simpa using h) (λl hl=>by have:=hn (l+1) oM;simpa using this)]
theorem dg(D:List (α×β))(a:α)(v:β)(h:getD D a=none):cM D a v=D++[(a,v)]:=by
 induction D with
 | nil=>rfl
 | cons p l ih=>
  rw[getD_cons] at h;rw[cM];by_cases hp:p.1=a
  ·rw[IY hp] at h;cases h
  ·rw[IT hp] at h ⊢;rw[ih h];rfl
theorem wT(D:List (α×β))(a:α):∀j,(D.map (·.1))[j]?=some a->(∀l,l<j->(D.map (·.1))[l]?≠some a)->cO D a=D.eraseIdx j:=by
 induction D with
 | nil=>intro j h _;simp at h
 | cons p l ih=>
  intro j h hn;rw[cO];cases j with
  | zero=>simp at h;simp[h]
  | succ j=>
   have:p.1≠a:=by have:=hn 0 oM;simpa using this
   rw[IT this,Kk,ih j (by simpa using h) (λl hl=>by have:=hn (l+1) oM;simpa using this)]
theorem fa(D:List (α×β))(a:α)(h:getD D a=none):cO D a=D:=by
 induction D with
 | nil=>rfl
 | cons p l ih=>
  rw[getD_cons] at h;rw[cO];by_cases hp:p.1=a
  ·rw[IY hp] at h;cases h
  ·rw[IT hp] at h ⊢;rw[ih h]
theorem bk{P:Program}{t kt et:TypeId}{kv:α->Value}(K:KeyT P t kt et kv){vv:β->Value}{w:World}{b:Nat}{D:List (α×β)}(h:MapAt w b kv vv D)(a:α)(v:β):
  ∃w',(Instr.mapUpdate t (.map (some b)) (kv a) (vv v)).run P w=.ok () w'/\MapAt w' b kv vv (cM D a v)/\Fm (·=b) w w'/\w'.heap.size=w.heap.size:=by
 obtain⟨es,c,hb,he,hn,hlt⟩:=h.ex;obtain⟨d,hd,_,hc⟩:=K.now;unfold Instr.mapUpdate;simp only[Sem.run_bind,an K.map,Result.andThen_ok,run_getObj_map hb,hc];rcases ep K a w he with⟨g1,g2⟩|⟨j,u,g1,g2,g3,g4,g5,g6⟩
 ·rw[g2];simp only[Result.andThen_ok,run_setObj_map hb];refine⟨_,rfl,⟨⟨_,_,bL hb,?_,?_,?_⟩,fQ h.keys a v⟩,Fm.setBlock _ _ _ rfl,bz _ _ _⟩
  ·rw[dg D a v g1];simp[he]
  ·simp only[Array.toList_push,Kg,Ji,List.map_nil];rw[Km];refine⟨hn,sI,λx hx y hy=>?_⟩;simp at hy;subst hy;obtain⟨e,he',rfl⟩:=E8.1 hx;have:=hlt e he';omega
  ·intro e he';simp only[Array.toList_push,H5,Jw] at he';rcases he' with he'|rfl
   ·have:=hlt e he';omega
   ·simp
 ·rw[g2];have hkey:((es[j]?).map (·.key)).getD (kv a)=kv a:=by have:es[j]?=es.toList[j]? := sI;rw[this,g4];rfl
  simp only[Result.andThen_ok,Sem.run_bind,hkey,Instr.keyThatStays,K.bits,if_true,Sem.run_pure,run_setObj_map hb];have hmod:(es.modify j λe=>{ e with key:=kv a,val:=vv v }).toList=es.toList.modify j (λe=>{ e with key:=kv a,val:=vv v }):=sI;have hb1:∀(l:List MapEntry) (j:Nat),(l.modify j (λe=>{ e with key:=kv a,val:=vv v })).map (·.born)=l.map (·.born):=by
   intro l;induction l with
   | nil=>intro j;simp
   | cons e l ih=>intro j;cases j<;>simp[ih]
  have hb2:∀(l:List MapEntry) (D:List (α×β)) (j:Nat),l.map (λe=>(e.key,e.val))=D.map (λp=>(kv p.1,vv p.2)) ->
    (l.modify j (λe=>{ e with key:=kv a,val:=vv v })).map (λe=>(e.key,e.val))=(D.modify j (λ_=>(a,v))).map (λp=>(kv p.1,vv p.2)):=by
   intro l;induction l with
   | nil=>intro D j h;cases D<;>simp_all
   | cons e l ih=>
    intro D j h;cases D with
    | nil=>simp at h
    | cons p D=>
     simp only[Ji,Ku] at h;cases j with
     | zero=>simp[h.2]
     | succ j=>simp[h.1,ih D j h.2]
  refine⟨_,rfl,⟨⟨_,_,bL hb,?_,?_,?_⟩,fQ h.keys a v⟩,Fm.setBlock _ _ _ rfl,bz _ _ _⟩
  ·rw[hmod,hb2 _ _ _ he,Di D a v j g5 g6]
  ·rw[hmod,hb1];exact hn
  ·intro e he';rw[hmod] at he';have:e.born∈(es.toList.modify j (λe=>{ e with key:=kv a,val:=vv v })).map (·.born):=E8.2 ⟨e,he',rfl⟩;rw[hb1] at this;obtain⟨e',h1,h2⟩:=E8.1 this;rw[<- h2];exact hlt e' h1
theorem dQ{P:Program}{t kt et:TypeId}{kv:α->Value}(K:KeyT P t kt et kv){vv:β->Value}{w:World}{b:Nat}{D:List (α×β)}(h:MapAt w b kv vv D)(a:α)(ty u:TypeId):
  ∃w',(Builtin.delete_ #[t,u] ty #[.map (some b),kv a]).run P w=.ok (.tuple #[]) w'/\MapAt w' b kv vv (cO D a)/\Fm (·=b) w w'/\w'.heap.size=w.heap.size:=by
 obtain⟨es,c,hb,he,hn,hlt⟩:=h.ex;obtain⟨d,hd,_,hc⟩:=K.now;unfold Builtin.delete_;simp only[I5,List.getElem?_cons_zero,List.getElem?_cons_succ,Sem.run_bind,an K.map,Result.andThen_ok,run_getObj_map hb,hc];rcases ep K a w he with⟨g1,g2⟩|⟨j,u,g1,g2,g3,g4,g5,g6⟩
 ·rw[g2];simp only[Result.andThen_ok,Sem.run_bind,run_setObj_map hb,Sem.run_pure];exact⟨_,rfl,⟨⟨_,_,bL hb,by rw[fa D a g1];exact he,hn,hlt⟩,dW h.keys a⟩,Fm.setBlock _ _ _ rfl,bz _ _ _⟩
 ·rw[g2];simp only[Result.andThen_ok,Sem.run_bind,run_setObj_map hb,Sem.run_pure];have hl:(es.eraseIdxIfInBounds j).toList=es.toList.eraseIdx j:=sI;refine⟨_,rfl,⟨⟨_,_,bL hb,?_,?_,?_⟩,dW h.keys a⟩,Fm.setBlock _ _ _ rfl,bz _ _ _⟩
  ·rw[hl,wT D a j g5 g6,<- bd,<- bd,he]
  ·rw[hl,<- bd];exact hn.sublist (List.eraseIdx_sublist _ _)
  ·intro e he';rw[hl] at he';exact hlt e (Kf he')
theorem bf{P:Program}(t:TypeId)(w:World):(Instr.makeMap t none).run P w=.ok (.map (some w.heap.size)) (w.alloc (.map #[] 0)):=by simp[Instr.makeMap,newObj,Sem.run]
structure RangeAt (w : World) (r b : Nat) (kv : α → Value) (vv : β → Value) (D : List (α × β)) (left : List (α × β)) : Prop where
 ex : ∃ es clock since seen, w.heap[b]? = some (.map es clock) ∧ w.heap[r]? = some (.mapIter (some b) since seen clock) ∧ es.toList.map (fun e => (e.key, e.val)) = D.map (fun p => (kv p.1, vv p.2)) ∧ (es.toList.map (·.born)).Nodup ∧ (∀ e ∈ es.toList, e.born < since) ∧ since ≤ clock ∧
  (leftOf es seen).toList.map (fun e => (e.key, e.val)) = left.map (fun p => (kv p.1, vv p.2))
theorem RangeAt.keep{S:Nat->Prop}{w w':World}{r b:Nat}{kv:α->Value}{vv:β->Value}{D left:List (α×β)}(h:RangeAt w r b kv vv D left)(hf:Fm S w w')(hr:¬S r)(hb:¬S b):RangeAt w' r b kv vv D left:=by obtain⟨es,c,s,sn,h1,h2,h3⟩:=h.ex;exact⟨es,c,s,sn,hf.heap h1 hb,hf.heap h2 hr,h3⟩
theorem fq{P:Program}{t kt et:TypeId}(ht:P.underlying t=some (.map kt et)){kv:α->Value}{vv:β->Value}{w:World}{b:Nat}{D:List (α×β)}(h:MapAt w b kv vv D):
  ∃w',(Instr.range t (.map (some b))).run P w=.ok (.pointer (some ⟨w.heap.size,0,none⟩)) w'/\RangeAt w' w.heap.size b kv vv D D/\Fm (λ_=>False) w w'/\w'.heap.size=w.heap.size+1:=by
 obtain⟨es,c,hb,he,hn,hlt⟩:=h.ex;unfold Instr.range;simp only[Sem.run_bind,an ht,Result.andThen_ok,run_getObj_map hb,Sem.run_pure,run_newObj];refine⟨_,rfl,⟨es,c,c,#[],(Fm.alloc (λ_=>False) w _).heap hb id,ay _ _,he,hn,hlt,D9 _,?_⟩,Fm.alloc _ _ _,aE _ _⟩;rw[<- he];congr 1;simp[leftOf]
theorem ks:∀(l:List MapEntry) (i:Nat) (e:MapEntry),l[i]?=some e->(l.map (·.born)).Nodup->l.filter (λx=>!(x.born == e.born))=l.eraseIdx i
 | [],i,e,h,_=>by simp at h
 | x::l,i,e,h,hn=>by
  rw[Ji,JV] at hn;cases i with
  | zero=>simp at h;subst h;simp only[J4,I0,JE,Bool.false_eq_true,if_false,List.eraseIdx_cons_zero];rw[List.filter_eq_self];intro y hy;have:y.born≠x.born:=λe=>hn.1 (by rw[<- e];exact E8.2 ⟨y,hy,rfl⟩);simpa using this
  | succ i=>
   have hi:l[i]?=some e:=by simpa using h
   have hne:x.born≠e.born:=λh'=>hn.1 (by rw[h'];exact E8.2 ⟨e,F7 hi,rfl⟩);rw[J4,IY (by simpa using hne),Kk,ks l i e hi hn.2]
theorem ie{P:Program}{kv:α->Value}{vv:β->Value}{w:World}{r b:Nat}{D left:List (α×β)}(h:RangeAt w r b kv vv D left)(ty:TypeId):
  (left=[]/\(Instr.next (.pointer (some ⟨r,0,none⟩)) false ty).run P w=.ok (.tuple #[.bool false]) w) \/
  ∃i p w',left[i]?=some p/\(Instr.next (.pointer (some ⟨r,0,none⟩)) false ty).run P w=.ok (.tuple #[.bool true,kv p.1,vv p.2]) w'/\RangeAt w' r b kv vv D (left.eraseIdx i)/\Fm (·=r) w w'/\w'.heap.size=w.heap.size /\ (Instr.entry (.pointer (some ⟨r,0,none⟩))).run P w'=.ok (.tuple #[kv p.1,vv p.2]) w':=by
 obtain⟨es,c,since,seen,hb,hr,he,hn,hlt,hsc,hl⟩:=h.ex;have hrb:r≠b:=by rintro rfl;rw[hb] at hr;cases hr
 rcases run_next_at (P:=P) w ty r b since c seen es c hr hb hlt hsc with⟨h0,hrun⟩|⟨e,hmem,w1,hw1,hrun⟩
 ·refine .inl ⟨?_,hrun⟩;have:(leftOf es seen).toList=[]:=by simpa using h0
  rw[this] at hl;cases left with
  | nil=>rfl
  | cons _ _=>simp at hl
 ·obtain⟨i,hi⟩:=List.getElem?_of_mem hmem;have hkv:(left.map (λp=>(kv p.1,vv p.2)))[i]?=some (e.key,e.val):=by rw[<- hl];simp[hi]
  rw[E4,E6] at hkv;obtain⟨p,hp,hpe⟩:=hkv;simp only[J9] at hpe;obtain⟨hk,hv⟩:=hpe;have hb1:w1.heap[b]?=some (.map es c):=by rcases hw1 with rfl|rfl<;>exact hb
  have hr1:w1.heap[r]?=some (.mapIter (some b) since seen c):=by rcases hw1 with rfl|rfl<;>exact hr
  have hf1:Fm (·=r) w w1:=by rcases hw1 with rfl|rfl;exact Fm.refl _ _;exact Fm.drew _ _
  have hf2:Fm (·=r) w (setBlock w1 r (.mapIter (some b) since (seen.push e.born) c)):=hf1.trans (Fm.setBlock (S:=(·=r)) _ _ _ rfl) iT iT;have hb2:(setBlock w1 r (.mapIter (some b) since (seen.push e.born) c)).heap[b]?=some (.map es c):=(Fm.setBlock (S:=(·=r)) w1 r _ rfl).heap hb1 (λe=>hrb e.symm);have hr2:=bL (o:=.mapIter (some b) since (seen.push e.born) c) hr1;have hees:e∈es.toList:=by unfold leftOf at hmem;simp at hmem ⊢;exact hmem.1
  refine .inr ⟨i,p,_,hp,by rw[hk,hv];exact hrun,⟨es,c,since,seen.push e.born,hb2,hr2,he,hn,hlt,hsc,?_⟩,hf2,by rw[bz];rcases hw1 with rfl|rfl<;>rfl,?_⟩
  ·have hnl:((leftOf es seen).toList.map (·.born)).Nodup:=by unfold leftOf;rw[Array.toList_filter];exact hn.sublist (List.Sublist.map _ List.filter_sublist)
   have h1:(leftOf es (seen.push e.born)).toList=(leftOf es seen).toList.filter (λx=>!(x.born == e.born)):=by unfold leftOf;simp only[Array.toList_filter,List.filter_filter];congr 1;funext x;simp only[Array.contains_push,Bool.not_or];rw[Bool.and_comm,BEq.comm]
   rw[h1,ks _ i e hi hnl,<- bd,<- bd,hl]
  ·rw[hk,hv];exact run_entry_at _ r b since seen es c e hr2 hb2 hees hn
def rl(w:World)(r b:Nat):Nat:=match w.heap[b]?,w.heap[r]? with
 | some (.map es _),some (.mapIter _ _ seen _)=>(leftOf es seen).toList.length
 | _,_=>0
theorem RangeAt.len{kv:α->Value}{vv:β->Value}{w:World}{r b:Nat}{D left:List (α×β)}(h:RangeAt w r b kv vv D left):rl w r b=left.length:=by obtain⟨es,c,s,sn,h1,h2,_,_,_,_,hl⟩:=h.ex;unfold rl;rw[h1,h2];have:=IR List.length hl;simpa using this
theorem RangeAt.lt{kv:α->Value}{vv:β->Value}{w:World}{r b:Nat}{D left:List (α×β)}(h:RangeAt w r b kv vv D left):r<w.heap.size:=by obtain⟨es,c,s,sn,h1,h2,_⟩:=h.ex;exact aj h2
theorem RangeAt.ne{kv:α->Value}{vv:β->Value}{w:World}{r b:Nat}{D left:List (α×β)}(h:RangeAt w r b kv vv D left):r≠b:=by obtain⟨es,c,s,sn,h1,h2,_⟩:=h.ex;rintro rfl;rw[h1] at h2;cases h2
theorem RangeAt.map{kv:α->Value}{vv:β->Value}{w:World}{r b:Nat}{D left:List (α×β)}(h:RangeAt w r b kv vv D left)(hn:(D.map (·.1)).Nodup):MapAt w b kv vv D:=by obtain⟨es,c,s,sn,h1,h2,h3,h4,h5,h6,_⟩:=h.ex;exact⟨⟨es,c,h1,h3,h4,λe he=>E3 (h5 e he) h6⟩,hn⟩
theorem pn{γ:Type}{l:List γ}{i:Nat}{p q:γ}(hi:l[i]?=some p)(hq:q∈l):q=p\/q∈l.eraseIdx i:=by
 obtain⟨j,hj⟩:=List.getElem?_of_mem hq;by_cases h:j=i
 ·subst h;rw[hi] at hj;cases hj;exact .inl rfl
 ·right;rw[List.mem_eraseIdx_iff_getElem?];exact⟨j,h,hj⟩
structure ElemT (P : Program) (t e : TypeId) (sz bytes : Nat) : Prop where
 sl : P.underlying t = some (.slice e)
 info : ∃ i z, P.info? e = some i ∧ i.zero = some z ∧ i.size = sz ∧ i.bytes = bytes ∧ z.cells.size = sz
theorem bG{P:Program}{t e:TypeId}{sz bytes:Nat}(h:P.underlying t=some (.slice e))(hi:(P.info? e).map (λi=>(i.zero.map (λz=>z.cells.size),i.size,i.bytes))=some (some sz,sz,bytes)):ElemT P t e sz bytes:=by
 refine⟨h,?_⟩;cases hp:P.info? e with
 | none=>rw[hp] at hi;cases hi
 | some i=>
  rw[hp] at hi;simp only[I2,H4,J9] at hi;cases hz:i.zero with
  | none=>rw[hz] at hi;simp at hi
  | some z=>rw[hz] at hi;simp at hi;exact⟨i,z,rfl,hz,hi.2.1,hi.2.2,hi.1⟩
theorem ah{S:Nat->Prop}{w w':World}{base:Nat}{e:TypeId}{sz:Nat}{v:Value}{n:Nat}{xs:List Value}(h:w.ownsRow base e sz v n xs)(hf:Fm S w w')(hs:∀k,base<=k->k<w.heap.size->v.ownBlock=some k->¬S k):w'.ownsRow base e sz v n xs:=by
 obtain⟨h1,h2⟩:=h;refine⟨h1,?_⟩;rcases h2 with h2|⟨g,cap,cur,rfl,hb,hg,r⟩
 ·exact .inl h2
 ·exact .inr ⟨g,cap,cur,rfl,hb,hf.heap hg (hs g hb (aj hg) rfl),r⟩
theorem aU{w:World}{base base':Nat}{e:TypeId}{sz:Nat}{v:Value}{n:Nat}{xs:List Value}(h:w.ownsRow base e sz v n xs)(hb:base'<=base):w.ownsRow base' e sz v n xs:=by
 obtain⟨h1,h2⟩:=h;refine⟨h1,?_⟩;rcases h2 with h2|⟨g,cap,cur,rfl,hb',r⟩
 ·exact .inl h2
 ·exact .inr ⟨g,cap,cur,rfl,oM,r⟩
theorem aP{w:World}{base:Nat}{e:TypeId}{sz:Nat}{v:Value}{n:Nat}{xs:List Value}(h:w.ownsRow base e sz v n xs):∀k,v.ownBlock=some k->base<=k/\k<w.heap.size:=h.lt
theorem pB{w:World}{base:Nat}{e:TypeId}{v:Value}{n:Nat}{xs:List Value}(h:w.ownsRow base e 1 v n xs):xs.length=n/\((v=.slice none 0 0/\n=0)\/∃g cap,v=.slice (some ⟨g,0,none⟩) n cap/\base<=g/\g<w.heap.size/\∀j,j<n->w.cell? ⟨g,j,none⟩=xs[j]?):=by
 have hl:=h.1;rw[IZ] at hl;refine⟨hl,?_⟩;rcases h.2 with h2|⟨g,cap,cur,rfl,hb,hg,r⟩
 ·exact .inl h2
 ·exact .inr ⟨g,cap,rfl,hb,aj hg,λj hj=>h.cellAt j oM⟩
theorem qY{w:World}{base:Nat}{e:TypeId}{v:Value}{n:Nat}{xs:List Value}(h:w.ownsRow base e 1 v n xs):lenV v=some (.int .i64 n):=by rcases(pB h).2 with⟨rfl,rfl⟩|⟨g,cap,rfl,_⟩<;>rfl
theorem uB{w:World}{base:Nat}{e:TypeId}{v:Value}{n:Nat}{xs:List Value}{sz:Nat}(h:w.ownsRow base e sz v n xs):n<=maxLen:=by
 rcases h.2 with⟨_,rfl⟩|⟨g,cap,cur,rfl,hb,hg,h1,h2,_⟩
 ·simp[maxLen]
 ·omega
theorem fI{P:Program}{t e:TypeId}{sz bytes:Nat}(E:ElemT P t e sz bytes)(hsz:0<sz){w:World}{base:Nat}{v:Value}{n:Nat}{xs:List Value}(h:w.ownsRow base e sz v n xs)(ty:TypeId)
  (a:Addr) (m c:Nat) (news:List Value) (hl:news.length=m*sz) (hnews:∀j u,news[j]?=some u->w.cell? (a.add j)=some u) (h1:∀u∈news,u.oneCell'=true)
  (h63:n+m<=maxLen) (hbytes:(n+m)*bytes<=140737488355328) (hbase:base<=w.heap.size):
  ∃v' w',(Builtin.append_ #[t,t] ty #[v,.slice (some a) m c]).run P w=.ok v' w'/\w'.ownsRow base e sz v' (n+m) (xs++news)/\Fm (λb=>base<=b) w w'/\(v'=.slice none 0 0↔v=.slice none 0 0/\m=0):=by
 obtain⟨i,z,hi,hz,hs,hb,hzs⟩:=E.info;obtain⟨v',w',hr,ho,hg,hn⟩:=run_append_own (P:=P) w base t ty e i z sz bytes E.sl hi hz hs hb hzs hsz v n xs h a m c news hl hnews h1 h63 hbytes hbase;exact⟨v',w',hr,ho,Fm.grown hg (λk hk _=>(h.lt k hk).1),hn⟩
theorem tG{P:Program}{t e:TypeId}{bytes:Nat}(E:ElemT P t e 1 bytes){w:World}{base:Nat}{v x:Value}{n:Nat}{xs:List Value}{k:KV}(ty:TypeId)
  (hbs:(Instr.buildSlice t 1 #[(0,x)]).run P w=.ok (.slice (some ⟨w.heap.size,0,none⟩) 1 1) (w.alloc (.cells #[x] e))) (hx:x.oneCell'=true)
  (h:w.ownsRow base e 1 v n xs) (h63:n+1<=maxLen) (hbytes:(n+1)*bytes<=140737488355328) (hbase:base<=w.heap.size)
  (hk:∀v' w',w'.ownsRow base e 1 v' (n+1) (xs++[x])->v'≠.slice none 0 0->Fm (λb=>base<=b) w w'->k v' w'):
  RunS P (Instr.buildSlice t 1 #[(0,x)]) w (λt1 w1=>RunS P (Builtin.append_ #[t,t] ty #[v,t1]) w1 k):=by
 refine ag hbs ?_;obtain⟨v',w',hr,ho,hf,hn⟩:=fI E oM (h.alloc (.cells #[x] e)) ty ⟨w.heap.size,0,none⟩ 1 1 [x] rfl (λj u hj=>by
  cases j with
  | zero=>simp at hj;subst hj;rw[add_zero,ab (ay w _)];rfl
  | succ j=>simp at hj) (λu hu=>by simp at hu;subst hu;exact hx) h63 hbytes (by rw[aE];omega)
 exact ag hr (hk v' w' ho (λe=>by have:=(hn.1 e).2;omega) ((Fm.alloc _ w _).trans hf iT iT))
theorem jo{P:Program}{t kt et:TypeId}{kv:α->Value}(K:KeyT P t kt et kv){vv:β->Value}{w:World}{r b:Nat}{D left:List (α×β)}(h:RangeAt w r b kv vv D left)(hn:(D.map (·.1)).Nodup)(a:α)(ha:a∉left.map (·.1))(ty u:TypeId):
  ∃w',(Builtin.delete_ #[t,u] ty #[.map (some b),kv a]).run P w=.ok (.tuple #[]) w'/\RangeAt w' r b kv vv (cO D a) left/\Fm (·=b) w w'/\w'.heap.size=w.heap.size:=by
 have hrb:=h.ne;obtain⟨es,c,since,seen,hb,hr,he,hbn,hlt,hsc,hl⟩:=h.ex;obtain⟨d,hd,_,hc⟩:=K.now;unfold Builtin.delete_;simp only[I5,List.getElem?_cons_zero,List.getElem?_cons_succ,Sem.run_bind,an K.map,Result.andThen_ok,run_getObj_map hb,hc];rcases ep K a w he with⟨g1,g2⟩|⟨j,u,g1,g2,g3,g4,g5,g6⟩
 ·rw[g2];simp only[Result.andThen_ok,Sem.run_bind,run_setObj_map hb,Sem.run_pure];exact⟨_,rfl,⟨es,c,since,seen,bL hb,(Fm.setBlock (S:=(·=b)) w b _ rfl).heap hr hrb,by rw[fa D a g1];exact he,hbn,hlt,hsc,hl⟩,Fm.setBlock _ _ _ rfl,bz _ _ _⟩
 ·rw[g2];simp only[Result.andThen_ok,Sem.run_bind,run_setObj_map hb,Sem.run_pure];have hle:(es.eraseIdxIfInBounds j).toList=es.toList.eraseIdx j:=sI;refine⟨_,rfl,⟨es.eraseIdxIfInBounds j,c,since,seen,bL hb,(Fm.setBlock (S:=(·=b)) w b _ rfl).heap hr hrb,?_,?_,?_,hsc,?_⟩,Fm.setBlock _ _ _ rfl,bz _ _ _⟩
  ·rw[hle,wT D a j g5 g6,<- bd,<- bd,he]
  ·rw[hle,<- bd];exact hbn.sublist (List.eraseIdx_sublist _ _)
  ·intro e he';rw[hle] at he';exact hlt e (Kf he')
  ·rw[<- hl];congr 1;unfold leftOf;simp only[Array.toList_filter,hle];obtain⟨e,hej,hek⟩:∃e,es.toList[j]?=some e/\e.key=kv a:=by rw[E6] at g4;exact g4
   have hout:(!seen.contains e.born)=false:=by
    cases hs:(!seen.contains e.born) with
    | false=>rfl
    | true=>
     exfalso;have hm:e∈(leftOf es seen).toList:=by unfold leftOf;simp only[Array.toList_filter,Kh];exact⟨F7 hej,hs⟩
     have:(e.key,e.val)∈left.map (λp=>(kv p.1,vv p.2)):=by rw[<- hl];exact E8.2 ⟨e,hm,rfl⟩
     obtain⟨p,hp,hpe⟩:=E8.1 this;simp only[J9] at hpe;exact ha (by rw[<- K.inj _ _ (hpe.1.trans hek)];exact E8.2 ⟨p,hp,rfl⟩)
   have key:∀(l:List MapEntry) (j:Nat),l[j]?=some e->(l.eraseIdx j).filter (λx=>!seen.contains x.born)=l.filter (λx=>!seen.contains x.born):=by
    intro l;induction l with
    | nil=>intro j h;simp at h
    | cons x l ih=>
     intro j h;cases j with
     | zero=>simp at h;subst h;simp only[List.eraseIdx_cons_zero,J4,hout,Bool.false_eq_true,if_false]
     | succ j=>simp only[Kk,J4,ih j (by simpa using h)]
   exact key _ _ hej
end Go.Al
namespace Go.Proofs
open Go.RowKit Go.Maps Go.Sort Go.Shelf
def Tryz.j7:Go.Shelf.Ren:=⟨λ|6=>73|8=>163|9=>90|11=>252|13=>180|12=>179|23=>273|24=>274|14=>264|15=>265|16=>266|17=>267|18=>268|19=>269|20=>270|21=>271|22=>272|25=>327|26=>328|27=>329|28=>330|29=>331|30=>280|31=>382|n=>n,λ|26=>3|28=>146|24=>25|0=>0|3=>3|37=>247|48=>263|50=>342|4=>4|40=>357|39=>356|45=>237|5=>5|9=>9|51=>393|55=>397|57=>445|58=>446|33=>193|n=>n,λ|n=>n⟩
theorem Tryz.r8:Go.Proofs.SlLaysZI.n6 prog Tryz.j7:=by
 constructor
 case f6=>exact⟨Tryz.f73.name,dC,Tryz.func73.trans (IR some kR)⟩
 case f8=>exact⟨Tryz.f163.name,dC,Tryz.func163.trans (IR some kR)⟩
 case f11=>exact⟨Tryz.f252.name,dC,Tryz.func252.trans (IR some kR)⟩
 all_goals first|kernel_rfl|(intro w;kernel_rfl)
def Tryz.o6:Go.Shelf.Ren:=⟨λ|5=>90|8=>180|7=>179|19=>273|20=>274|10=>264|11=>265|12=>266|13=>267|14=>268|15=>269|16=>270|17=>271|18=>272|30=>327|31=>328|32=>329|33=>330|34=>331|35=>280|40=>382|n=>n,λ|23=>25|25=>3|3=>3|32=>247|22=>25|0=>0|44=>263|46=>342|4=>4|36=>357|35=>356|41=>237|5=>5|9=>9|53=>393|57=>397|63=>445|64=>446|n=>n,λ|n=>n⟩
theorem Tryz.o0:Go.Proofs.SlLaysM.n5 prog Tryz.o6:=by
 constructor
 case f5=>exact⟨Tryz.f90.name,dC,Tryz.func90.trans (IR some kR)⟩
 case f7=>exact⟨Tryz.f179.name,dC,Tryz.func179.trans (IR some kR)⟩
 case f10=>exact⟨Tryz.f264.name,dC,Tryz.func264.trans (IR some kR)⟩
 case f11=>exact⟨Tryz.f265.name,dC,Tryz.func265.trans (IR some kR)⟩
 case f12=>exact⟨Tryz.f266.name,dC,Tryz.func266.trans (IR some kR)⟩
 case f13=>exact⟨Tryz.f267.name,dC,Tryz.func267.trans (IR some kR)⟩
 case f14=>exact⟨Tryz.f268.name,dC,Tryz.func268.trans (IR some kR)⟩
 case f15=>exact⟨Tryz.f269.name,dC,Tryz.func269.trans (IR some kR)⟩
 case f16=>exact⟨Tryz.f270.name,dC,Tryz.func270.trans (IR some kR)⟩
 case f17=>exact⟨Tryz.f271.name,dC,Tryz.func271.trans (IR some kR)⟩
 case f18=>exact⟨Tryz.f272.name,dC,Tryz.func272.trans (IR some kR)⟩
 case f30=>exact⟨Tryz.f327.name,dC,Tryz.func327.trans (IR some kR)⟩
 case f33=>exact⟨Tryz.f330.name,dC,Tryz.func330.trans (IR some kR)⟩
 case f34=>exact⟨Tryz.f331.name,dC,Tryz.func331.trans (IR some kR)⟩
 case f35=>exact⟨Tryz.f280.name,dC,Tryz.func280.trans (IR some kR)⟩
 case f40=>exact⟨Tryz.f382.name,dC,Tryz.func382.trans (IR some kR)⟩
 all_goals first|kernel_rfl|(intro w;kernel_rfl)
def Tryz.lE:Go.Shelf.Ren:=⟨λ|7=>74|10=>164|n=>n,λ|23=>99|26=>3|3=>9|28=>146|0=>0|27=>145|33=>193|4=>4|n=>n,λ|n=>n⟩
theorem Tryz.tT:Go.Proofs.SlLaysZI.n7 prog Tryz.lE:=by
 constructor
 case f7=>exact⟨Tryz.f74.name,dC,Tryz.func74.trans (IR some kR)⟩
 case f10=>exact⟨Tryz.f164.name,dC,Tryz.func164.trans (IR some kR)⟩
 all_goals first|kernel_rfl|(intro w;kernel_rfl)
def Tryz.lT:Go.Shelf.Ren:=⟨λ|7=>175|10=>262|n=>n,λ|23=>275|26=>3|3=>3|28=>146|0=>0|27=>145|33=>193|4=>4|n=>n,λ|n=>n⟩
theorem Tryz.uP:Go.Proofs.SlLaysZI.n7 prog Tryz.lT:=by
 constructor
 case f7=>exact⟨Tryz.f175.name,dC,Tryz.func175.trans (IR some kR)⟩
 case f10=>exact⟨Tryz.f262.name,dC,Tryz.func262.trans (IR some kR)⟩
 all_goals first|kernel_rfl|(intro w;kernel_rfl)
theorem Tryz.y8(m:Nat):AnyZI.SortsIn prog Tryz.j7 Fence.wide m:=
 ⟨λblk off cap ss W hH hblk hsz=>callsIn_wide.2 (AnyM.slices_Sort_int Tryz.o0 blk off cap ss W hH hblk hsz),
  λp cap W=>callsIn_wide.2 (AnyM.slices_Sort_int_none Tryz.o0 p cap W)⟩
namespace YtmdmffeoehfjgaaGreatDoor
open Go.Al
theorem eY{g:FuncId}{args:List Value}{w:World}{R:Ending->World->Prop}{k:KV}(h:Calls prog g args.toArray w R)(hk:∀e w',R e w'->∃v,e=.returned v/\k v w'):Cl prog g args w k:=⟨h.mono λe w' he=>by obtain⟨v,rfl,hv⟩:=hk e w' he;exact hv⟩
theorem nR{w:World}{base n:Nat}{v:Value}{xs:List Int}(hn:n<4611686018427387904)(h:w.ownsRow base 3 1 v n (xs.map encZ)):
  Cl prog 90 [v] w λ_ w'=>w'.ownsRow base 3 1 v n ((xs.mergeSort λx y=>decide (x<=y)).map encZ)/\Fm (λb=>base<=b) w w':=by
 have hl:=h.1;rw[H2,IZ] at hl;have hmx:=uB h;unfold maxLen at hmx;rcases h.2 with⟨rfl,rfl⟩|⟨g,cap,cur,rfl,hb,hg,h1,h2,h3,h4⟩
 ·obtain rfl:xs=[]:=H0 hl;refine eY (AnyM.slices_Sort_int_none Tryz.o0 none 0 w) ?_;rintro e w' ⟨rfl,rfl⟩;exact⟨_,rfl,by simpa using h,Fm.refl _ _⟩
 ·subst hl;have hH:Holds encZ w g 0 xs.toArray:=holds_of_block_i hg (by simpa using h4);refine eY (AnyM.slices_Sort_int Tryz.o0 g 0 cap xs w hH (aj hg) oM) ?_;rintro e w' ⟨rfl,k,os,rfl⟩;refine⟨_,rfl,?_,Fm.grown (grownBy_sorted_i _) (λj hj _=>by cases hj;exact hb)⟩;exact ownsRow_sorted_i sI hb hg h1 h2 h3
theorem sW{β:Type}{kt:TypeId}(hk:prog.underlying kt=some (.int .i64)){w:World}{b:Nat}{vv:β->Value}{D:List (Int×β)}(h:MapAt w b (Value.int .i64) vv D)(hwf:∀p∈D,(Lit.int .i64 p.1).wf=true)(hsz:D.length<=maxLen):
  ∃D0:DataW Unit,w.ownsMap prog kt (λ_=>some (.nil,[])) b D.length D0/\(intKeys D0).Perm (D.map (·.1))/\Maps.size D0=D.length:=by
 obtain⟨es,c,hb,he,hn,hlt⟩:=h.ex;have hlen:es.size=D.length:=by have:=IR List.length he;simpa using this
 have hkey:∀x∈es.toList,∃p∈D,x.key=.int .i64 p.1:=by
  intro x hx;have:(x.key,x.val)∈D.map (λp=>(Value.int .i64 p.1,vv p.2)):=by rw[<- he];exact E8.2 ⟨x,hx,rfl⟩
  obtain⟨p,hp,hpe⟩:=E8.1 this;simp only[J9] at hpe;exact⟨p,hp,hpe.1.symm⟩
 have hrd:∀x∈es.toList,∀p:Int×β,p∈D->x.key=.int .i64 p.1->WideElems.rd (H:=Unit) prog kt (λ_=>some (.nil,[])) x=some (.int .i64 p.1,.nil):=by
  intro x hx p hp hxp;unfold WideElems.rd;rw[hxp,Maps.keyOf_int_mk hk (hwf p hp)]
  rfl
 have hks:es.toList.map (·.key)=D.map (λp=>Value.int .i64 p.1):=by have:=IR (List.map Prod.fst) he;simpa[JG,Function.comp_def] using this
 have hF:WideElems.Fit (H:=Unit) prog kt (λ_=>some (.nil,[])) es c:=by
  refine⟨oM,⟨hlt,hn,?_⟩,λx hx=>?_⟩
  ·rw[hks];have:=h.keys;rw[List.Nodup,List.pairwise_map] at this ⊢;exact this.imp λhne e=>hne (by simpa using e)
  ·obtain⟨p,hp,hxp⟩:=hkey x hx;exact⟨_,hrd x hx p hp hxp⟩
 refine⟨_,⟨es,c,hb,hF,oM,rfl⟩,?_,?_⟩
 ·have h1:(((es.toList.map (WideElems.rg (H:=Unit) prog kt (λ_=>some (.nil,[])))).foldr DataW.insert []).map λp=>Go.intOf p.1).Perm ((es.toList.map (WideElems.rg (H:=Unit) prog kt (λ_=>some (.nil,[])))).map λp=>Go.intOf p.1):=(WideShapes.sorted_perm _).map _;have h2:((es.toList.map (WideElems.rg (H:=Unit) prog kt (λ_=>some (.nil,[])))).map λp=>Go.intOf p.1)=D.map (·.1):=by
   rw[JG];have h3:D.map (·.1)=(es.toList.map (·.key)).map (λv=>match v with | .int _ x=>x|_=>0):=by rw[hks,JG];rfl
   rw[h3,JG];refine Kx λx hx=>?_;obtain⟨p,hp,hxp⟩:=hkey x hx;simp only[Function.comp_apply,WideElems.rg,hrd x hx p hp hxp,hxp,JH,Go.intOf]
  show(List.map _ _).Perm _;rw[<- h2];exact h1
 ·show List.length _=_;rw[(WideShapes.sorted_perm _).length_eq,H2];simpa using hlen
theorem uj(mb:Option Nat)(w:World):Cl prog 74 [.map mb] w λv w'=>v=.func (.func 164) #[] #[.pointer (some ⟨w.heap.size,0,none⟩)]/\w'=w.alloc (.cells #[.map mb] 99):=by have c:CallsIn Fence.wide 5 prog 74 #[.map mb] w λe w'=>e=.returned (.func (.func 164) #[] #[.pointer (some ⟨w.heap.size,0,none⟩)])/\w'=w.alloc (.cells #[.map mb] 99):=AnyZI.keys_in Tryz.tT Fence.wide 5 trivial rfl mb w;exact eY (callsIn_wide.1 c) λe w' ⟨h1,h2⟩=>⟨_,h1,rfl,h2⟩
theorem mi(mb:Option Nat)(w:World):Cl prog 175 [.map mb] w λv w'=>v=.func (.func 262) #[] #[.pointer (some ⟨w.heap.size,0,none⟩)]/\w'=w.alloc (.cells #[.map mb] 275):=by have c:CallsIn Fence.wide 5 prog 175 #[.map mb] w λe w'=>e=.returned (.func (.func 262) #[] #[.pointer (some ⟨w.heap.size,0,none⟩)])/\w'=w.alloc (.cells #[.map mb] 275):=AnyZI.keys_in Tryz.uP Fence.wide 5 trivial rfl mb w;exact eY (callsIn_wide.1 c) λe w' ⟨h1,h2⟩=>⟨_,h1,rfl,h2⟩
theorem pU(g c:Nat)(hg:∀args w,(callFunc g args).run prog w=.ok (.enter g args) w)(S:List Int->Prop)(N:Nat)(hNb:N*8<=140737488355328)(w:World)(h:SeqGives Fence.wide 2 prog g #[.pointer (some ⟨c,0,none⟩)] encZ S N w):
  Cl prog 73 [.func (.func g) #[] #[.pointer (some ⟨c,0,none⟩)]] w λv w'=>∃ss,S ss/\w'.ownsRow w.heap.size 3 1 v ss.length ((ss.mergeSort (λx y=>decide (x<=y))).map encZ)/\(v=.slice none 0 0↔ss=[])/\Below w.heap.size w w':=by
 have cS:=AnyZI.sorted_in Tryz.r8 Fence.wide 5 trivial trivial trivial trivial rfl oM (Tryz.y8 _) (enters_of Tryz.func90 kR rfl) g #[.pointer (some ⟨c,0,none⟩)] trivial hg S N (by unfold maxLen;omega) hNb w h;change CallsIn _ _ prog 73 _ _ _ at cS;exact eY (callsIn_wide.1 cS) λe w' ⟨v,ss,h1,h2,h3,h4,h5⟩=>⟨v,h1,ss,h2,h3,h4,h5⟩
def gb{β:Type}(D:List (Int×β)):List Int:=(D.map (·.1)).mergeSort (λx y=>decide (x<=y))
theorem pS{β:Type}{w:World}{b:Nat}{vv:β->Value}{D:List (Int×β)}(h:MapAt w b (Value.int .i64) vv D)(hwf:∀p∈D,(Lit.int .i64 p.1).wf=true)(hsz:D.length*8<=140737488355328):
  Cl prog 73 [.func (.func 164) #[] #[.pointer (some ⟨w.heap.size,0,none⟩)]] (w.alloc (.cells #[.map (some b)] 99)) λv w'=>w'.ownsRow w.heap.size 3 1 v D.length ((gb D).map encZ)/\(v=.slice none 0 0↔D=[])/\Fm (λ_=>False) w w':=by
 have hm:D.length<=maxLen:=by unfold maxLen;omega
 obtain⟨D0,hown,hp,hs⟩:=sW (kt:=3) kR h hwf hm;have hbl:=hown.lt;have hseq:SeqGives Fence.wide 2 prog 164 #[.pointer (some ⟨w.heap.size,0,none⟩)] encZ (λss=>ss.Perm (intKeys D0)) (Maps.size D0) (w.alloc (.cells #[.map (some b)] 99)):=AnyZI.keys_gives (ρ:=Tryz.lE) { Tryz.tT with } Fence.wide _ trivial rfl oM w.heap.size b D.length D0 _ sI sI (by obtain⟨es,clock,hb,Ft,hs,hD⟩:=hown;exact⟨es,clock,(Below.heap_alloc _ _ b hbl).trans hb,Ft,hs,hD⟩);refine(pU 164 _ (enters_of Tryz.func164 kR rfl) _ _ oM _ hseq).mono ?_;rintro v w' ⟨ss,hS,hrow,hnil,hb⟩;have hperm:ss.Perm (D.map (·.1)):=hS.trans hp;have hl:ss.length=D.length:=by simpa using hperm.length_eq
 refine⟨?_,?_,?_⟩
 ·have:=ownsRow_base_a hrow (sI:w.heap.size<=_);rw[hl] at this;rw[gb,<- mergeSort_of_perm_i hperm];exact this
 ·rw[hnil];constructor
  ·intro e;rw[e] at hl;exact H0 hl.symm
  ·intro e;rw[e] at hl;exact H0 hl
 ·exact(Fm.alloc _ _ _).trans (Fm.iF hb _) iT iT
theorem jt{β:Type}{w:World}{b:Nat}{vv:β->Value}{D:List (Int×β)}(h:MapAt w b (Value.int .i64) vv D)(hwf:∀p∈D,(Lit.int .i64 p.1).wf=true)(hsz:D.length*8<=140737488355328):
  Cl prog 73 [.func (.func 262) #[] #[.pointer (some ⟨w.heap.size,0,none⟩)]] (w.alloc (.cells #[.map (some b)] 275)) λv w'=>w'.ownsRow w.heap.size 3 1 v D.length ((gb D).map encZ)/\(v=.slice none 0 0↔D=[])/\Fm (λ_=>False) w w':=by
 have hm:D.length<=maxLen:=by unfold maxLen;omega
 obtain⟨D0,hown,hp,hs⟩:=sW (kt:=3) kR h hwf hm;have hbl:=hown.lt;have hseq:SeqGives Fence.wide 2 prog 262 #[.pointer (some ⟨w.heap.size,0,none⟩)] encZ (λss=>ss.Perm (intKeys D0)) (Maps.size D0) (w.alloc (.cells #[.map (some b)] 275)):=AnyZI.keys_gives (ρ:=Tryz.lT) { Tryz.uP with } Fence.wide _ trivial rfl oM w.heap.size b D.length D0 _ sI sI (by obtain⟨es,clock,hb,Ft,hs,hD⟩:=hown;exact⟨es,clock,(Below.heap_alloc _ _ b hbl).trans hb,Ft,hs,hD⟩);refine(pU 262 _ (enters_of Tryz.func262 kR rfl) _ _ oM _ hseq).mono ?_;rintro v w' ⟨ss,hS,hrow,hnil,hb⟩;have hperm:ss.Perm (D.map (·.1)):=hS.trans hp;have hl:ss.length=D.length:=by simpa using hperm.length_eq
 refine⟨?_,?_,?_⟩
 ·have:=ownsRow_base_a hrow (sI:w.heap.size<=_);rw[hl] at this;rw[gb,<- mergeSort_of_perm_i hperm];exact this
 ·rw[hnil];constructor
  ·intro e;rw[e] at hl;exact H0 hl.symm
  ·intro e;rw[e] at hl;exact H0 hl
 ·exact(Fm.alloc _ _ _).trans (Fm.iF hb _) iT iT
end YtmdmffeoehfjgaaGreatDoor
end Go.Proofs
namespace Go.Al
open Go.RowKit (Below)
structure CellsAt (w : World) (v : Value) (n sz : Nat) (xs : List Value) : Prop where
 ex : ∃ a c, v = .slice a n c ∧ n ≤ c ∧ c ≤ maxLen ∧ (a = none → n = 0 ∧ c = 0) ∧ ∀ j u, xs[j]? = some u → ∃ ad, a = some ad ∧ w.cell? (ad.add j) = some u
 len : xs.length = n * sz
def blockOf:Value->Option Nat
 | .slice (some a) _ _=>some a.block
 | _=>none
theorem jQ(a:Addr)(n:Nat):(a.add n).block=a.block:=by unfold Addr.add;split<;>rfl
theorem CellsAt.aT{w:World}{base:Nat}{e:TypeId}{sz:Nat}{v:Value}{n:Nat}{xs:List Value}(h:w.ownsRow base e sz v n xs):CellsAt w v n sz xs:=by
 refine⟨?_,h.1⟩;rcases h.2 with⟨rfl,rfl⟩|⟨g,cap,cur,rfl,hb,hg,hnc,hcm,hcs,ht⟩
 ·have hl:=h.1;rw[JX] at hl;have hx:=H0 hl;exact⟨none,0,rfl,D9 _,by simp[maxLen],λ_=>⟨rfl,rfl⟩,λj u hj=>by rw[hx] at hj;simp at hj⟩
 ·refine⟨some ⟨g,0,none⟩,cap,rfl,hnc,hcm,λe=>(by cases e),λj u hj=>⟨_,rfl,?_⟩⟩;have hjl:j<n*sz:=by rw[<- h.1];exact(E2.1 hj).1
  rw[aA,E7,h.cellAt j hjl,hj]
theorem CellsAt.keep{S:Nat->Prop}{w w':World}{v:Value}{n sz:Nat}{xs:List Value}(h:CellsAt w v n sz xs)(hf:Fm S w w')(hs:∀g,blockOf v=some g->¬S g):CellsAt w' v n sz xs:=by obtain⟨⟨a,c,rfl,h1,h2,h3,h4⟩,hl⟩:=h;refine⟨⟨a,c,rfl,h1,h2,h3,λj u hj=>?_⟩,hl⟩;obtain⟨ad,rfl,hc⟩:=h4 j u hj;exact⟨ad,rfl,hf.j4 hc (by rw[jQ];exact hs _ rfl)⟩
theorem CellsAt.fS{S:Nat->Prop}{w w':World}{v:Value}{n sz:Nat}{xs:List Value}(h:CellsAt w v n sz xs)(hf:Fm S w w')(hs:xs≠[]->∀g,blockOf v=some g->¬S g):CellsAt w' v n sz xs:=by
 by_cases hx:xs=[]
 ·obtain⟨⟨a,c,rfl,h1,h2,h3,h4⟩,hl⟩:=h;refine⟨⟨a,c,rfl,h1,h2,h3,λj u hj=>?_⟩,hl⟩;rw[hx] at hj;simp at hj
 ·exact h.keep hf (hs hx)
theorem CellsAt.blt{w:World}{v:Value}{n sz:Nat}{xs:List Value}(h:CellsAt w v n sz xs)(hx:xs≠[]):∀g,blockOf v=some g->g<w.heap.size:=by
 obtain⟨⟨a,c,rfl,h1,h2,h3,h4⟩,hl⟩:=h;intro g hg;cases xs with
 | nil=>exact absurd rfl hx
 | cons x xs=>
  obtain⟨ad,rfl,hc⟩:=h4 0 x rfl;have:ad.block=g:=by simpa[blockOf] using hg
  subst this;rw[add_zero] at hc;unfold World.cell? at hc;cases hb:w.heap[ad.block]? with
  | none=>simp[hb] at hc
  | some o=>exact(Jg.1 hb).1
theorem CellsAt.lt{w:World}{v:Value}{n sz:Nat}{xs:List Value}(h:CellsAt w v n sz xs):n<=maxLen:=by obtain⟨⟨a,c,rfl,h1,h2,_⟩,hl⟩:=h;omega
theorem CellsAt.lenV{w:World}{v:Value}{n sz:Nat}{xs:List Value}(h:CellsAt w v n sz xs):lenV v=some (.int .i64 n):=by obtain⟨⟨a,c,rfl,_⟩,_⟩:=h;rfl
theorem CellsAt.at{w:World}{v:Value}{n sz:Nat}{xs:List Value}(h:CellsAt w v n sz xs)(hsz:0<sz){i:Nat}(hi:i<n)(k:IntKind):∃ad,ixV sz v (.int k i)=some (.pointer (some ad))/\blockOf v=some ad.block/\∀j,j<sz->w.cell? (ad.add j)=xs[i*sz+j]? := by
 obtain⟨⟨a,c,rfl,h1,h2,h3,h4⟩,hl⟩:=h;have hlt:∀j,j<sz->i*sz+j<xs.length:=λj hj=>by rw[hl];have:(i+1)*sz<=n*sz:=Kc _ hi;rw[Nat.succ_mul] at this;omega
 obtain⟨ad,rfl,_⟩:=h4 (i*sz+0) _ (C6 (hlt 0 hsz));refine⟨_,dT hi,by rw[jQ];rfl,λj hj=>?_⟩;obtain⟨ad',e,hc⟩:=h4 (i*sz+j) _ (C6 (hlt j hj));cases e;rw[jP,hc,C6 (hlt j hj)]
theorem CellsAt.iS{w:World}{v:Value}{n:Nat}{xs:List Value}(h:CellsAt w v n 1 xs){i:Nat}{x:Value}(hi:xs[i]?=some x)(k:IntKind):∃ad,ixV 1 v (.int k i)=some (.pointer (some ad))/\blockOf v=some ad.block/\w.cell? ad=some x:=by
 have hlt:i<n:=by have:=(E2.1 hi).1;rw[h.len] at this;omega
 obtain⟨ad,h1,h2,h3⟩:=h.at oM hlt k;have:=h3 0 oM;rw[add_zero,IZ,Jt,hi] at this;exact⟨ad,h1,h2,this⟩
theorem eL{y d i:Nat}(h:i<=y)(k:IntKind):bnd y d (some (.int k i))=some i:=by
 have:bnd y d (some (.int k i))=if 0<=(i:Int)/\(i:Int)<=y then some (i:Int).toNat else none:=rfl
 rw[this,IY ⟨oM,oM⟩];simp
theorem CellsAt.lo{w:World}{v:Value}{n sz:Nat}{xs:List Value}(h:CellsAt w v n sz xs){i:Nat}(hi:i<=n)(k:IntKind):∃v',slV sz v (some (.int k i)) none none=some v'/\CellsAt w v' (n - i) sz (xs.drop (i*sz))/\(∀g,blockOf v'=some g->blockOf v=some g):=by
 obtain⟨⟨a,c,rfl,h1,h2,h3,h4⟩,hl⟩:=h;have hv:slV sz (.slice a n c) (some (.int k i)) none none=some (.slice (if c=i then a else a.map (λb=>Addr.add b (i*sz))) (n - i) (c - i)):=by have e1:bnd n 0 (some (.int k i))=some i:=eL hi k;have e2:bnd c c none=some c:=rfl;simp only[slV,Bq,e1,e2,IW,I2]
 refine⟨_,hv,⟨⟨_,_,rfl,oM,oM,λe=>?_,λj u hj=>?_⟩,?_⟩,?_⟩
 ·have:a=none:=by
   split at e
   ·exact e
   ·cases a<;>simp at e;rfl
  have:=h3 this;omega
 ·rw[List.getElem?_drop] at hj;obtain⟨ad,rfl,hc⟩:=h4 _ u hj;have hlt:=(E2.1 hj).1;rw[hl] at hlt;have hne:c≠i:=by rintro rfl;have:n=c:=oM;subst this;omega
  rw[IT hne];exact⟨_,rfl,by rw[jP];exact hc⟩
 ·rw[G4,hl,Nat.sub_mul]
 ·intro g hg;cases a with
  | none=>split at hg<;>exact hg
  | some a=>
   split at hg
   ·exact hg
   ·rw[<- hg];show some a.block=some (a.add (i*sz)).block;rw[jQ]
theorem dk{P:Program}{t e:TypeId}{sz bytes:Nat}(E:ElemT P t e sz bytes)(hsz:0<sz){w:World}{base:Nat}{v x:Value}{n:Nat}{xs:List Value}{k:KV}(ty:TypeId){cs:List Value}(hcs:cs.length=sz)
  (hbs:(Instr.buildSlice t 1 #[(0,x)]).run P w=.ok (.slice (some ⟨w.heap.size,0,none⟩) 1 1) (w.alloc (.cells cs.toArray e))) (hx:∀u∈cs,u.oneCell'=true)
  (h:w.ownsRow base e sz v n xs) (h63:n+1<=maxLen) (hbytes:(n+1)*bytes<=140737488355328) (hbase:base<=w.heap.size)
  (hk:∀v' w',w'.ownsRow base e sz v' (n+1) (xs++cs)->v'≠.slice none 0 0->Fm (λb=>base<=b) w w'->k v' w'):
  RunS P (Instr.buildSlice t 1 #[(0,x)]) w (λt1 w1=>RunS P (Builtin.append_ #[t,t] ty #[v,t1]) w1 k):=by
 refine ag hbs ?_;obtain⟨v',w',hr,ho,hf,hn⟩:=fI E hsz (h.alloc (.cells cs.toArray e)) ty ⟨w.heap.size,0,none⟩ 1 1 cs oM (λj u hj=>by rw[aA,E7,ab (ay w _)];simpa using hj) hx h63 hbytes (by rw[aE];omega);exact ag hr (hk v' w' ho (λe=>by have:=(hn.1 e).2;omega) ((Fm.alloc _ w _).trans hf iT iT))
theorem ed{w:World}{b:Nat}{cs:Array Value}{t:TypeId}{fz:Nat×Nat}(h:w.heap[b]?=some (.cells cs t fz))(j:Nat)(u:Value):(w.setCell ⟨b,j,none⟩ u).heap[b]?=some (.cells (cs.setIfInBounds j u) t fz):=by simp[World.setCell,Array.getElem?_modify,h]
theorem dt{w:World}{b:Nat}{cs:Array Value}{t:TypeId}(h:w.heap[b]?=some (.cells cs t))(j:Nat):w.frozen? ⟨b,j,none⟩=false:=by simp[World.frozen?,h]
theorem au{w:World}{b j:Nat}{cs:Array Value}{t:TypeId}{u:Value}{k:KV}(hb:w.heap[b]?=some (.cells cs t))(hj:j<cs.size)(hu:u.oneCell'=true)(h:∀w',w'.heap[b]?=some (.cells (cs.setIfInBounds j u) t)->w'.heap.size=w.heap.size->Fm (·=b) w w'->k undef w'):St 1 w (.pointer (some ⟨b,j,none⟩)) u k:=by
 have hc:w.cell? ⟨b,j,none⟩=some cs[j]:=by rw[ab hb];simp[hj]
 exact Bl hu hc (dt hb j) (h _ (ed hb j u) (by simp[World.setCell]) (Fm.setCell w ⟨b,j,none⟩ u rfl))
def ov:Array Value->Nat->List Value->Array Value
 | cs,_,[]=>cs
 | cs,i,v::l=>ov (cs.setIfInBounds i v) (i+1) l
theorem yR{b o:Nat}{t:TypeId}:∀(l:List Value) (i:Nat) (w:World) (cs:Array Value),w.heap[b]?=some (.cells cs t)->o+i+l.length<=cs.size->(∀u∈l,u.oneCell'=true) ->
  ∃w',stC ⟨b,o,none⟩ i l w=some w'/\w'.heap[b]?=some (.cells (ov cs (o+i) l) t)/\w'.heap.size=w.heap.size/\Fm (·=b) w w'
 | [],i,w,cs,hb,_,_=>⟨w,rfl,hb,rfl,Fm.refl _ _⟩
 | v::l,i,w,cs,hb,hl,h1=>by
  simp only[G2] at hl;have hc:w.cell? ⟨b,o+i,none⟩=some (cs[o+i]'oM):=by rw[ab hb];simp
  obtain⟨w',e1,e2,e3,e4⟩:=yR (b:=b) (o:=o) l (i+1) (w.setCell ⟨b,o+i,none⟩ v) (cs.setIfInBounds (o+i) v) (ed hb (o+i) v) (by rw[J1];omega) (λu hu=>h1 u (by simp[hu]));refine⟨w',?_,e2,by rw[e3];simp[World.setCell],(Fm.setCell (S:=(·=b)) w ⟨b,o+i,none⟩ v rfl).trans e4 iT iT⟩;simp only[stC,h1 v sI,D8,aA,hc,dt hb (o+i),C8];exact e1
theorem bZ{w:World}{b o n:Nat}{cs:Array Value}{t:TypeId}{us:Array Value}{k:KV}(hb:w.heap[b]?=some (.cells cs t))(hn:us.size=n)(hj:o+n<=cs.size)(hu:∀u∈us.toList,u.oneCell'=true)(h:∀w',w'.heap[b]?=some (.cells (ov cs o us.toList) t)->w'.heap.size=w.heap.size->Fm (·=b) w w'->k undef w'):St n w (.pointer (some ⟨b,o,none⟩)) (.agg us) k:=by obtain⟨w',e1,e2,e3,e4⟩:=yR (o:=o) us.toList 0 w cs hb (by rw[I8];omega) hu;refine⟨?_⟩;have hc:(Value.agg us).cells=us:=rfl;simp only[St0,hc,hn,JW,D8,e1];exact h w' e2 e3 e4
theorem az{w:World}{base:Nat}{e:TypeId}{sz:Nat}{v:Value}{n:Nat}{xs:List Value}(h:w.ownsRow base e sz v n xs):v.oneCell'=true:=by rcases h.2 with⟨rfl,_⟩|⟨g,cap,cur,rfl,_⟩<;>rfl
theorem cj{w:World}{b1 b2:Nat}{e1 e2:TypeId}{s1 s2:Nat}{v1 v2:Value}{n1 n2:Nat}{x1 x2:List Value}(h1:w.ownsRow b1 e1 s1 v1 n1 x1)(h2:w.ownsRow b2 e2 s2 v2 n2 x2)(he:e1≠e2):∀k,v1.ownBlock=some k->v2.ownBlock≠some k:=by
 intro k hk1 hk2;rcases h1.2 with⟨rfl,_⟩|⟨g,c,cur,rfl,_,hg,_⟩
 ·simp[Value.ownBlock] at hk1
 rcases h2.2 with⟨rfl,_⟩|⟨g',c',cur',rfl,_,hg',_⟩
 ·simp[Value.ownBlock] at hk2
 simp[Value.ownBlock] at hk1 hk2;subst hk1 hk2;rw[hg] at hg';cases hg';exact he rfl
theorem lM{P:Program}{t e:TypeId}{sz bytes:Nat}(E:ElemT P t e sz bytes)(hsz:0<sz){w:World}{base:Nat}{v x:Value}{n:Nat}{xs:List Value}{k:KV}(ty:TypeId){cs:List Value}(hcs:cs.length=sz)
  (hbs:(Instr.buildSlice t 1 #[(0,x)]).run P w=.ok (.slice (some ⟨w.heap.size,0,none⟩) 1 1) (w.alloc (.cells cs.toArray e))) (hx:∀u∈cs,u.oneCell'=true)
  (h:w.ownsRow base e sz v n xs) (h63:n+1<=maxLen) (hbytes:(n+1)*bytes<=140737488355328) (hbase:base<=w.heap.size)
  (hk:∀v' w',w'.ownsRow base e sz v' (n+1) (xs++cs)->v'≠.slice none 0 0->Fm (λb=>v.ownBlock=some b) w w'->k v' w'):
  RunS P (Instr.buildSlice t 1 #[(0,x)]) w (λt1 w1=>RunS P (Builtin.append_ #[t,t] ty #[v,t1]) w1 k):=by
 refine ag hbs ?_;obtain⟨i,z,hi,hz,hs,hb,hzs⟩:=E.info;obtain⟨v',w',hr,ho,hg,hn⟩:=run_append_own (P:=P) (w.alloc (.cells cs.toArray e)) base t ty e i z sz bytes E.sl hi hz hs hb hzs hsz v n xs (h.alloc (.cells cs.toArray e)) ⟨w.heap.size,0,none⟩ 1 1 cs oM (λj u hj=>by rw[aA,E7,ab (ay w _)];simpa using hj) hx h63 hbytes (by rw[aE];omega);exact ag hr (hk v' w' ho (λe=>by have:=(hn.1 e).2;omega) ((Fm.alloc _ w _).trans (Fm.grown (S:=λb=>v.ownBlock=some b) hg (λk hk _=>hk)) iT iT))
theorem cB{P:Program}{t e:TypeId}{sz bytes:Nat}(E:ElemT P t e sz bytes)(hsz:0<sz){w:World}{base:Nat}{v:Value}{n:Nat}{xs:List Value}(h:w.ownsRow base e sz v n xs)(ty:TypeId)
  (a:Addr) (m c:Nat) (hm:0<m) (news:List Value) (hl:news.length=m*sz) (hnews:∀j u,news[j]?=some u->w.cell? (a.add j)=some u) (h1:∀u∈news,u.oneCell'=true)
  (h63:n+m<=maxLen) (hbytes:(n+m)*bytes<=140737488355328) (hbase:base<=w.heap.size):
  ∃v' w',(Builtin.append_ #[t,t] ty #[v,.slice (some a) m c]).run P w=.ok v' w'/\w'.ownsRow base e sz v' (n+m) (xs++news) /\ ((∃g,v.ownBlock=some g/\v'.ownBlock=some g/\Fm (·=g) w w')\/(∃g,v'.ownBlock=some g/\w.heap.size<=g/\Fm (λ_=>False) w w')):=by
 obtain⟨i,z,hi,hz,hs,hb,hzs⟩:=E.info;obtain⟨v',w',hr,ho,hg,hn⟩:=run_append_own (P:=P) w base t ty e i z sz bytes E.sl hi hz hs hb hzs hsz v n xs h a m c news hl hnews h1 h63 hbytes hbase;refine⟨v',w',hr,ho,?_⟩;unfold maxLen at h63;rcases h.2 with⟨rfl,rfl⟩|⟨g,cap,cur,rfl,hbg,hgg,hnc,hcm,hcs,htake⟩
 ·have hr2:=run_append_nil (P:=P) w t ty e i z E.sl hi hz a m c news (by rw[hs];exact hl) hnews oM oM (by rw[hb];rw[E7] at hbytes;omega);rw[hr] at hr2;cases hr2;exact .inr ⟨w.heap.size,rfl,D9 _,(Fm.drew _ w).trans (Fm.alloc _ w.drew _) iT iT⟩
 ·by_cases hroom:n+m<=cap
  ·have hfit:n*i.size+news.length<=cur.size:=by rw[hl,hcs,hs,<- Nat.add_mul];exact Kc _ hroom
   have hr2:=run_append_room (P:=P) w t ty e i E.sl hi g n cap cur hgg a m c news (by rw[hs];exact hl) hnews h1 hroom hfit;rw[hr] at hr2;cases hr2;exact .inl ⟨g,rfl,rfl,Fm.grown hg (λk hk _=>by cases hk;rfl)⟩
  ·have holds:∀j u,xs[j]?=some u->w.cell? ((⟨g,0,none⟩:Addr).add j)=some u:=h.cells (g:=g) rfl;have hr2:=run_append_grow (P:=P) w t ty e i z E.sl hi hz ⟨g,0,none⟩ n cap xs (by rw[hs];exact h.1) holds a m c news (by rw[hs];exact hl) hnews oM oM (by rw[hb];exact growslice_fits oM hbytes);rw[hr] at hr2;cases hr2;exact .inr ⟨w.heap.size,rfl,D9 _,(Fm.drew _ w).trans (Fm.alloc _ w.drew _) iT iT⟩
theorem lN{P:Program}{t e:TypeId}{sz bytes:Nat}(E:ElemT P t e sz bytes)(hsz:0<sz){w:World}{base:Nat}{v x:Value}{n:Nat}{xs:List Value}{k:KV}(ty:TypeId){cs:List Value}(hcs:cs.length=sz)
  (hbs:(Instr.buildSlice t 1 #[(0,x)]).run P w=.ok (.slice (some ⟨w.heap.size,0,none⟩) 1 1) (w.alloc (.cells cs.toArray e))) (hx:∀u∈cs,u.oneCell'=true)
  (h:w.ownsRow base e sz v n xs) (h63:n+1<=maxLen) (hbytes:(n+1)*bytes<=140737488355328) (hbase:base<=w.heap.size)
  (hk:∀v' w',w'.ownsRow base e sz v' (n+1) (xs++cs)->((∃g,v.ownBlock=some g/\v'.ownBlock=some g/\Fm (·=g) w w')\/(∃g,v'.ownBlock=some g/\w.heap.size<=g/\Fm (λ_=>False) w w'))->k v' w'):
  RunS P (Instr.buildSlice t 1 #[(0,x)]) w (λt1 w1=>RunS P (Builtin.append_ #[t,t] ty #[v,t1]) w1 k):=by
 refine ag hbs ?_;have hfa:=Fm.alloc (λ_=>False) w (.cells cs.toArray e);obtain⟨v',w',hr,ho,hc⟩:=cB E hsz (h.alloc (.cells cs.toArray e)) ty ⟨w.heap.size,0,none⟩ 1 1 oM cs oM (λj u hj=>by rw[aA,E7,ab (ay w _)];simpa using hj) hx h63 hbytes (by rw[aE];omega);refine ag hr (hk v' w' ho ?_);rcases hc with⟨g,h1,h2,h3⟩|⟨g,h1,h2,h3⟩
 ·exact .inl ⟨g,h1,h2,hfa.trans h3 iE iT⟩
 ·rw[aE] at h2;exact .inr ⟨g,h1,oM,hfa.trans h3 iT iT⟩
def VRow(w:World)(g:Nat)(e:TypeId)(xs:List Value):Prop:=w.heap[g]?=some (.cells xs.toArray e)
theorem VRow.keep{S:Nat->Prop}{w w':World}{g:Nat}{e:TypeId}{l:List Value}(h:VRow w g e l)(hf:Fm S w w')(hs:¬S g):VRow w' g e l:=hf.heap h hs
theorem VRow.cell{w:World}{g:Nat}{e:TypeId}{l:List Value}(h:VRow w g e l)(i:Nat):w.cell? ⟨g,i,none⟩=l[i]? := by rw[ab h,I5]
theorem VRow.put{w:World}{g:Nat}{e:TypeId}{l:List Value}(h:VRow w g e l){i:Nat}(hi:i<l.length){u:Value}(hu:u.oneCell'=true){k:KV}
  (hk:∀w',VRow w' g e (l.set i u)->w'.heap.size=w.heap.size->Fm (·=g) w w'->k undef w'):St 1 w (.pointer (some ⟨g,i,none⟩)) u k:=by
 refine au h (by rw[I7];exact hi) hu λw' h1 h2 h3=>hk w' ?_ h2 h3;unfold VRow;rw[h1];congr 2;apply Ko;simp only[Jy]
def PRow(w:World)(g:Nat)(e:TypeId)(xs:List Value):Prop:=∃ys,VRow w g e (xs++ys)
theorem xr{P:Program}{e:TypeId}{z:Value}{n b:Nat}(h:(P.info? e).map (λi=>(i.zero,i.size,i.bytes))=some (some z,n,b)):∃i,P.info? e=some i/\i.zero=some z/\i.size=n/\i.bytes=b:=by
 cases hp:P.info? e with
 | none=>rw[hp] at h;cases h
 | some i=>rw[hp] at h;simp only[I2,H4,J9] at h;exact⟨i,rfl,h⟩
theorem VRow.make{P:Program}{t e:TypeId}{i:TypeInfo}{z:Value}(ht:P.underlying t=some (.slice e))(hi:P.info? e=some i)(hz:i.zero=some z)(hs:i.size=1)(hc:z.cells=#[z])(w:World)(n:Nat)(hb:i.bytes*n<=281474976710656)(h:n<=9223372036854775807):
  (Instr.makeSlice t (.int .i64 n) (.int .i64 n)).run P w=.ok (.slice (some ⟨w.heap.size,0,none⟩) n n) (w.alloc (.cells (List.replicate n z).toArray e)):=by
 have hb':(i.bytes:Int)*(n:Int)<=281474976710656:=by
  have:((i.bytes*n:Nat):Int)<=281474976710656:=oM
  rwa [Int.natCast_mul] at this
 have hr:=run_make (P:=P) w t e i z ht hi hz .i64 .i64 n n oM (Kd _) hb' oM;rw[hr];congr 3;simp only[H6];congr 1;rw[hs,IZ,hc];apply Ko;apply JI;intro j;simp only[madeCells,Array.toList_map,Array.toList_range,E4,J5];have hz':∀q,(#[z]:Array Value)[q % (#[z]:Array Value).size]! = z:=by intro q;have:(#[z]:Array Value).size=1:=rfl;rw[this,Nat.mod_one];rfl
 by_cases hj:j<n
 ·rw[IY hj,JJ hj];simp[Nat.mod_one]
 ·rw[IT hj,Jc (by simpa using hj)];rfl
theorem gu{w:World}{b:Nat}{cs:Array Value}{t:TypeId}{fz:Nat×Nat}(h:w.heap[b]?=some (.cells cs t fz)):∀(k i:Nat),i+k<=cs.size->bC w ⟨b,0,none⟩ i k=some ((cs.toList.drop i).take k)
 | 0,i,_=>by simp[bC]
 | k+1,i,hi=>by
  have hlt:i<cs.toList.length:=by rw[I8];omega
  have hc:w.cell? ((⟨b,0,none⟩:Addr).add i)=some (cs.toList[i]):=by rw[aA,E7,ab h];simp
  simp only[bC,hc,gu h k (i+1) oM,I2];rw[Jo hlt,List.take_succ_cons]
theorem aa{w:World}{b:Nat}{cs:Array Value}{t:TypeId}{fz:Nat×Nat}(h:w.heap[b]?=some (.cells cs t fz)){n:Nat}(hn:cs.size=n):aI w ⟨b,0,none⟩ n=some (.agg cs):=by unfold aI;rw[gu h n 0 oM];simp only[J6,I2];rw[G0 (by rw[I8];omega)]
theorem AK{P:Program}{f:Fr}{w:World}{a:Nat}{t ty:TypeId}{g n:Nat}{cs:Array Value}{fz:Nat×Nat}(hf:f a=.pointer (some ⟨g,0,none⟩))(hA:mW P t=some true)(hS:bM P t=some n)(hb:w.heap[g]?=some (.cells cs ty fz))(hn:cs.size=n):yx P f w (.cell a t)=some (.agg cs):=by have h:=gu hb n 0 oM;rw[J6,G0 (by rw[I8];omega)] at h;simp only[yx,hf,hA,hS,h,I2]
theorem ao{w:World}{b n:Nat}{cs:Array Value}{t:TypeId}{us:Array Value}{k:KV}(hb:w.heap[b]?=some (.cells cs t))(hc:cs.size=n)(hn:us.size=n)(hu:∀u∈us.toList,u.oneCell'=true)(h:∀w',w'.heap[b]?=some (.cells us t)->w'.heap.size=w.heap.size->Fm (·=b) w w'->k undef w'):St n w (.pointer (some ⟨b,0,none⟩)) (.agg us) k:=by
 refine bZ hb hn oM hu λw' h1 h2 h3=>h w' ?_ h2 h3;rw[h1];congr 2;have key:∀(l:List Value) (cs:Array Value) (o:Nat),o+l.length=cs.size->(ov cs o l).toList=cs.toList.take o++l:=by
  intro l;induction l with
  | nil=>intro cs o ho;simp only[ov,H1];rw[G0 (by rw[I8];simp at ho;omega)]
  | cons v l ih=>
   intro cs o ho;simp only[G2] at ho;rw[ov,ih _ (o+1) (by rw[J1];omega),Jy];have hlt:o<cs.toList.length:=by rw[I8];omega
   rw[List.take_set,H8,C6 hlt];simp only[Option.toList_some];rw[JT _ _ (by rw[E5];omega),E5,JL oM,Jh,JR,G7];rfl
 apply Ko;have:=key us.toList cs 0 (by rw[I8];omega);simpa using this
abbrev Bs:=List UInt8
def str(l:Bs):ByteArray:=⟨l.toArray⟩
theorem aq(l:Bs):(str l).size=l.length:=by simp[str,ByteArray.size]
theorem br{a b:Bs}:str a=str b↔a=b:=by
 constructor
 ·intro h;have h2:(str a).data=(str b).data:=by rw[h]
  simpa[str] using h2
 ·rintro rfl;rfl
theorem uW(a b:Bs):str a++str b=str (a++b):=by apply Kr;simp[str,ByteArray.data_append]
theorem gK(l:Bs)(i j:Nat):(str l).extract i j=str ((l.take j).drop i):=by apply Kr;apply Ko;rw[ByteArray.data_extract,Array.toList_extract];simp only[str,List.extract_eq_take_drop];rw[List.drop_take]
theorem AV(s:ByteArray):str s.data.toList=s:=by apply Kr;simp[str]
theorem cN:ByteArray.mk #[]=str []:=rfl
abbrev stv(l:Bs):Value:=.string (str l)
theorem vX(d:TypeDesc)(a b:Bs)(h:a.length+b.length<=9223372036854775807):aC d .add (stv a) (stv b)=some (stv (a++b)):=by
 have:¬(((str a).size+(str b).size:Nat):Int) > IntKind.i64.max:=by rw[aq,aq];show ¬_ >(9223372036854775807:Int);omega
 simp only[aC,DP,IT this,uW]
theorem gl{l:Bs}{i:Nat}(h:i<=l.length)(k:IntKind):slS (stv l) none (some (.int k i))=some (stv (l.take i)):=by have e1:bnd (str l).size (str l).size (some (.int k i))=some i:=eL (by rw[aq];exact h) k;have e2:bnd i 0 none=some 0:=rfl;simp only[slS,e1,e2,IW,I2,gK,J6]
theorem eP{l:Bs}{i:Nat}(h:i<=l.length)(k:IntKind):slS (stv l) (some (.int k i)) none=some (stv (l.drop i)):=by have e1:bnd (str l).size (str l).size none=some (str l).size:=rfl;have e2:bnd (str l).size 0 (some (.int k i))=some i:=eL (by rw[aq];exact h) k;rw[aq] at e1 e2;simp only[slS,aq,e1,e2,IW,I2,gK,IX]
theorem mH{l:Bs}{i j:Nat}(hij:i<=j)(h:j<=l.length)(k k':IntKind):slS (stv l) (some (.int k i)) (some (.int k' j))=some (stv ((l.drop i).take (j - i))):=by have e1:bnd (str l).size (str l).size (some (.int k' j))=some j:=eL (by rw[aq];exact h) k';have e2:bnd j 0 (some (.int k i))=some i:=eL hij k;simp only[slS,e1,e2,IW,I2,gK,List.drop_take]
def bc(l:Bs):List Value:=l.map λb=>Value.int .u8 b.toNat
theorem bU(l:Bs):(bc l).length=l.length:=by simp[bc]
theorem dp(a b:Bs):bc (a++b)=bc a++bc b:=by simp[bc]
theorem vP(l:Bs)(i:Nat):(bc l).take i=bc (l.take i):=by simp[bc,List.map_take]
theorem Ch(l:Bs)(i:Nat):(bc l).drop i=bc (l.drop i):=by simp[bc,List.map_drop]
theorem Ep(l:Bs):∀u∈bc l,u.oneCell'=true:=by intro u hu;obtain⟨b,_,rfl⟩:=E8.1 hu;rfl
theorem vO(l:Bs)(i:Nat):(bc l)[i]?=(l[i]?).map λb=>Value.int .u8 b.toNat:=by simp[bc]
structure ByteT (P : Program) (t e s : TypeId) : Prop where
 sl : P.underlying t = some (.slice e)
 u8 : P.underlying e = some (.int .u8)
 st : P.underlying s = some .string
 info : ∃ i, P.info? e = some i ∧ i.zero = some (.int .u8 0) ∧ i.size = 1 ∧ i.bytes = 1
theorem sh{P:Program}{t e s:TypeId}(h1:P.underlying t=some (.slice e))(h2:P.underlying e=some (.int .u8))(h3:P.underlying s=some .string)
  (hi:(P.info? e).map (λi=>(i.zero.map (λz=>match z with | .int .u8 0=>true|_=>false),i.size,i.bytes))=some (some true,1,1)):ByteT P t e s:=by
 refine⟨h1,h2,h3,?_⟩;cases hp:P.info? e with
 | none=>rw[hp] at hi;cases hi
 | some i=>
  rw[hp] at hi;simp only[I2,H4,J9] at hi;cases hz:i.zero with
  | none=>rw[hz] at hi;simp at hi
  | some z=>
   rw[hz] at hi;simp only[I2,H4] at hi;refine⟨i,rfl,?_,hi.2.1,hi.2.2⟩;have:=hi.1;split at this
   ·exact hz
   ·cases this
def BRow(w:World)(g:Nat)(e:TypeId)(l:Bs):Prop:=w.heap[g]?=some (.cells (bc l).toArray e)
theorem BRow.keep{S:Nat->Prop}{w w':World}{g:Nat}{e:TypeId}{l:Bs}(h:BRow w g e l)(hf:Fm S w w')(hs:¬S g):BRow w' g e l:=hf.heap h hs
theorem BRow.lt{w:World}{g:Nat}{e:TypeId}{l:Bs}(h:BRow w g e l):g<w.heap.size:=aj h
theorem BRow.cell{w:World}{g:Nat}{e:TypeId}{l:Bs}(h:BRow w g e l)(i:Nat):w.cell? ⟨g,i,none⟩=(l[i]?).map λb=>Value.int .u8 b.toNat:=by rw[ab h,I5,vO]
theorem BRow.make{P:Program}{t e s:TypeId}(B:ByteT P t e s)(w:World)(n:Nat)(h:n<=281474976710656):
  (Instr.makeSlice t (.int .i64 n) (.int .i64 n)).run P w=.ok (.slice (some ⟨w.heap.size,0,none⟩) n n) (w.alloc (.cells (bc (List.replicate n 0)).toArray e)):=by
 obtain⟨i,h1,h2,h3,h4⟩:=B.info;have hr:=run_make (P:=P) w t e i _ B.sl h1 h2 .i64 .i64 n n oM (Kd _) (by rw[h4];omega) oM;rw[hr];congr 3;simp only[H6];congr 1;rw[h3,IZ];apply Ko;apply JI;intro j;simp only[madeCells,bc,List.map_replicate,Array.toList_map,Array.toList_range,E4,J5,JJ];have hz:∀q,(Value.cells (.int .u8 0))[q % (Value.cells (.int .u8 0)).size]! = Value.int .u8 0:=by intro q;have:(Value.cells (.int .u8 0)).size=1:=rfl;rw[this,Nat.mod_one];rfl
 by_cases hj:j<n
 ·rw[IY hj,JJ hj];simp[hz]
 ·rw[IT hj,Jc (by simpa using hj)];rfl
theorem BRow.conv{P:Program}{t e s:TypeId}(B:ByteT P t e s){w:World}{g:Nat}{e':TypeId}{l:Bs}(h:BRow w g e' l){o n:Nat}(hn:o+n<=l.length)(c:Nat):
  (convert t s (.slice (some ⟨g,o,none⟩) n c)).run P w=.ok (stv ((l.drop o).take n)) w:=by
 have hr:=run_convert_bytes_arg (P:=P) w t e B.sl B.u8 g o n c (((l.drop o).take n).map λb=>(b.toNat:Int)) (by simp;omega) (λi hi=>by rw[h.cell];have:o+i<l.length:=oM;simp[List.getD,Jz,hi,List.getElem?_drop,this]) s B.st;rw[hr];congr 2;apply Kr;simp only[strOfNums,str,JG];congr 1
 conv=>rhs;rw[<- List.map_id ((l.drop o).take n)]
 apply Kx;intro x _;simp
theorem nn{P:Program}{t e s:TypeId}(B:ByteT P t e s)(w:World)(n c:Nat):(convert t s (.slice none n c)).run P w=.ok (stv []) w:=by rw[run_convert_bytes_nil (P:=P) w t e B.sl B.u8 n c s B.st];rfl
theorem BRow.tO{P:Program}{t e s:TypeId}(B:ByteT P t e s){w:World}{g:Nat}{l:Bs}(h:BRow w g e l){o n:Nat}{x:Bs}(hx:x.length<=n)(hn:o+x.length<=l.length)(c:Nat)(ty:TypeId):
  ∃w',(Builtin.copy_ #[t,s] ty #[.slice (some ⟨g,o,none⟩) n c,stv x]).run P w=.ok (goInt x.length) w'/\BRow w' g e (l.take o++x++l.drop (o+x.length))/\w'.heap.size=w.heap.size/\Fm (·=g) w w':=by
 obtain⟨i,h1,h2,h3,h4⟩:=B.info;have hr:=Lib.run_copy_row_string (P:=P) w t s ty e g o n c (str x) _ e B.sl (by rw[h1];simp[h3]) h (by rw[aq];exact hx) (by rw[aq,I7,bU];exact hn);rw[aq] at hr;refine⟨_,hr,?_,?_,?_⟩
 ·show(w.setRow g _).heap[g]?=_;rw[setRow_heap w g _ _ e _ h];congr 2;rw[show Lib.byteCells (str x).data.toList=bc x from rfl,dp,dp,vP,Ch]
 ·simp
 ·exact⟨rfl,rfl,rfl,sI,λb hb hs=>setRow_other w g b _ hs⟩
theorem BRow.put{w:World}{g:Nat}{e:TypeId}{l:Bs}(h:BRow w g e l){i:Nat}(hi:i<l.length){b:UInt8}{k:KV}
  (hk:∀w',BRow w' g e (l.set i b)->w'.heap.size=w.heap.size->Fm (·=g) w w'->k undef w'):St 1 w (.pointer (some ⟨g,i,none⟩)) (.int .u8 b.toNat) k:=by
 refine au h (by rw[I7,bU];exact hi) rfl λw' h1 h2 h3=>hk w' ?_ h2 h3;unfold BRow;rw[h1];congr 2;apply Ko;simp only[Jy,bc,Kz]
theorem DE(n:Int):((UInt8.ofNat (IntKind.u8.wrap n).toNat).toNat:Int)=IntKind.u8.wrap n:=by
 have h:0<=IntKind.u8.wrap n/\IntKind.u8.wrap n<256:=by unfold IntKind.wrap;simp[IntKind.bits,IntKind.signed];omega
 have e:(UInt8.ofNat (IntKind.u8.wrap n).toNat).toNat=(IntKind.u8.wrap n).toNat % 256:=sI;rw[e,I9 oM];omega
def BX(w:World)(g:Nat)(e:TypeId)(l:Bs):Prop:=∃cs fz,w.heap[g]?=some (.cells cs e fz)/\cs.toList.take l.length=bc l/\l.length<=cs.size/\(fz=(0,0)\/l.length<=fz.1)
end Go.Al
