/- Laid for one claim by slim.py out of: parts. -/
import Derived.Test.YtmdmffeoehfjgaaGreatDoorTgsA
set_option maxRecDepth 100000
set_option maxHeartbeats 0
set_option linter.unusedVariables false
set_option linter.unusedSimpArgs false
set_option linter.unusedSectionVars false
open Go.Proofs.Tryz (prog)
namespace Go.Al
open Go.RowKit (Below)
theorem gv{w:World}{b:Nat}{cs:Array Value}{t:TypeId}{fz:Nat×Nat}(h:w.heap[b]?=some (.cells cs t fz)):∀(k i:Nat),i+k<=cs.size->bE w ⟨b,0,none⟩ i k=some ((cs.toList.drop i).take k)
 | 0,i,_=>by simp[bE]
 | k+1,i,hi=>by
  have hlt:i<cs.toList.length:=by rw[Array.length_toList];omega
  have hc:w.cell? ((⟨b,0,none⟩:Addr).add i)=some (cs.toList[i]):=by rw[aC,Nat.zero_add,ab h];simp
  simp only[bE,hc,gv h k (i+1) (by omega),Option.map_some];rw[List.drop_eq_getElem_cons hlt,List.take_succ_cons]
theorem aa{w:World}{b:Nat}{cs:Array Value}{t:TypeId}{fz:Nat×Nat}(h:w.heap[b]?=some (.cells cs t fz)){n:Nat}(hn:cs.size=n):aM w ⟨b,0,none⟩ n=some (.agg cs):=by unfold aM;rw[gv h n 0 (by omega)];simp only[List.drop_zero,Option.map_some];rw[List.take_of_length_le (by rw[Array.length_toList];omega)]
theorem eH{P:Program}{f:Fr}{w:World}{a:Nat}{t ty:TypeId}{g n:Nat}{cs:Array Value}{fz:Nat×Nat}(hf:f a=.pointer (some ⟨g,0,none⟩))(hA:lI P t=some true)(hS:bN P t=some n)(hb:w.heap[g]?=some (.cells cs ty fz))(hn:cs.size=n):pO P f w (.cell a t)=some (.agg cs):=by have h:=gv hb n 0 (by omega);rw[List.drop_zero,List.take_of_length_le (by rw[Array.length_toList];omega)] at h;simp only[pO,hf,hA,hS,h,Option.map_some]
theorem ao{w:World}{b n:Nat}{cs:Array Value}{t:TypeId}{us:Array Value}{k:KV}(hb:w.heap[b]?=some (.cells cs t))(hc:cs.size=n)(hn:us.size=n)(hu:∀u∈us.toList,u.oneCell'=true)(h:∀w',w'.heap[b]?=some (.cells us t)->w'.heap.size=w.heap.size->Fm (·=b) w w'->k undef w'):St n w (.pointer (some ⟨b,0,none⟩)) (.agg us) k:=by
 refine ck hb hn (by omega) hu λw' h1 h2 h3=>h w' ?_ h2 h3;rw[h1];congr 2;have key:∀(l:List Value) (cs:Array Value) (o:Nat),o+l.length=cs.size->(ov cs o l).toList=cs.toList.take o++l:=by
  intro l;induction l with
  | nil=>intro cs o ho;simp only[ov,List.append_nil];rw[List.take_of_length_le (by rw[Array.length_toList];simp at ho;omega)]
  | cons v l ih=>
   intro cs o ho;simp only[List.length_cons] at ho;rw[ov,ih _ (o+1) (by rw[Array.size_setIfInBounds];omega),Array.toList_setIfInBounds];have hlt:o<cs.toList.length:=by rw[Array.length_toList];omega
   rw[List.take_set,List.take_add_one,List.getElem?_eq_getElem hlt];simp only[Option.toList_some];rw[List.set_append_right _ _ (by rw[List.length_take];omega),List.length_take,Nat.min_eq_left (by omega),Nat.sub_self,List.set_cons_zero,List.append_assoc];rfl
 apply Array.ext';have:=key us.toList cs 0 (by rw[Array.length_toList];omega);simpa using this
abbrev Bs:=List UInt8
def str(l:Bs):ByteArray:=⟨l.toArray⟩
theorem aq(l:Bs):(str l).size=l.length:=by simp[str,ByteArray.size]
theorem bn{a b:Bs}:str a=str b↔a=b:=by
 constructor
 ·intro h;have h2:(str a).data=(str b).data:=by rw[h]
  simpa[str] using h2
 ·rintro rfl;rfl
theorem uV(a b:Bs):str a++str b=str (a++b):=by apply ByteArray.ext;simp[str,ByteArray.data_append]
theorem gL(l:Bs)(i j:Nat):(str l).extract i j=str ((l.take j).drop i):=by apply ByteArray.ext;apply Array.ext';rw[ByteArray.data_extract,Array.toList_extract];simp only[str,List.extract_eq_take_drop];rw[List.drop_take]
theorem AU(s:ByteArray):str s.data.toList=s:=by apply ByteArray.ext;simp[str]
theorem cP:ByteArray.mk #[]=str []:=rfl
abbrev stv(l:Bs):Value:=.string (str l)
theorem vY(d:TypeDesc)(a b:Bs)(h:a.length+b.length<=9223372036854775807):ax d .add (stv a) (stv b)=some (stv (a++b)):=by
 have:¬(((str a).size+(str b).size:Nat):Int) > IntKind.i64.max:=by rw[aq,aq];show ¬_ >(9223372036854775807:Int);omega
 simp only[ax,DM,if_neg this,uV]
theorem gn{l:Bs}{i:Nat}(h:i<=l.length)(k:IntKind):slS (stv l) none (some (.int k i))=some (stv (l.take i)):=by have e1:bnd (str l).size (str l).size (some (.int k i))=some i:=eN (by rw[aq];exact h) k;have e2:bnd i 0 none=some 0:=rfl;simp only[slS,e1,e2,Option.bind_some,Option.map_some,gL,List.drop_zero]
theorem eT{l:Bs}{i:Nat}(h:i<=l.length)(k:IntKind):slS (stv l) (some (.int k i)) none=some (stv (l.drop i)):=by have e1:bnd (str l).size (str l).size none=some (str l).size:=rfl;have e2:bnd (str l).size 0 (some (.int k i))=some i:=eN (by rw[aq];exact h) k;rw[aq] at e1 e2;simp only[slS,aq,e1,e2,Option.bind_some,Option.map_some,gL,List.take_length]
theorem mJ{l:Bs}{i j:Nat}(hij:i<=j)(h:j<=l.length)(k k':IntKind):slS (stv l) (some (.int k i)) (some (.int k' j))=some (stv ((l.drop i).take (j - i))):=by have e1:bnd (str l).size (str l).size (some (.int k' j))=some j:=eN (by rw[aq];exact h) k';have e2:bnd j 0 (some (.int k i))=some i:=eN hij k;simp only[slS,e1,e2,Option.bind_some,Option.map_some,gL,List.drop_take]
def bc(l:Bs):List Value:=l.map λb=>Value.int .u8 b.toNat
theorem bX(l:Bs):(bc l).length=l.length:=by simp[bc]
theorem dt(a b:Bs):bc (a++b)=bc a++bc b:=by simp[bc]
theorem vQ(l:Bs)(i:Nat):(bc l).take i=bc (l.take i):=by simp[bc,List.map_take]
theorem Cf(l:Bs)(i:Nat):(bc l).drop i=bc (l.drop i):=by simp[bc,List.map_drop]
theorem En(l:Bs):∀u∈bc l,u.oneCell'=true:=by intro u hu;obtain⟨b,_,rfl⟩:=List.mem_map.1 hu;rfl
theorem vP(l:Bs)(i:Nat):(bc l)[i]?=(l[i]?).map λb=>Value.int .u8 b.toNat:=by simp[bc]
structure ByteT (P : Program) (t e s : TypeId) : Prop where
 sl : P.underlying t = some (.slice e)
 u8 : P.underlying e = some (.int .u8)
 st : P.underlying s = some .string
 info : ∃ i, P.info? e = some i ∧ i.zero = some (.int .u8 0) ∧ i.size = 1 ∧ i.bytes = 1
theorem sh{P:Program}{t e s:TypeId}(h1:P.underlying t=some (.slice e))(h2:P.underlying e=some (.int .u8))(h3:P.underlying s=some .string)
  (hi:(P.info? e).map (λi=>(i.zero.map (λz=>match z with | .int .u8 0=>true|_=>false),i.size,i.bytes))=some (some true,1,1)):ByteT P t e s:=by
 refine⟨h1,h2,h3,?_⟩;cases hp:P.info? e with
 | none=>rw[hp] at hi;cases hi
 | some i=>
  rw[hp] at hi;simp only[Option.map_some,Option.some.injEq,Prod.mk.injEq] at hi;cases hz:i.zero with
  | none=>rw[hz] at hi;simp at hi
  | some z=>
   rw[hz] at hi;simp only[Option.map_some,Option.some.injEq] at hi;refine⟨i,rfl,?_,hi.2.1,hi.2.2⟩;have:=hi.1;split at this
   ·exact hz
   ·cases this
def BRow(w:World)(g:Nat)(e:TypeId)(l:Bs):Prop:=w.heap[g]?=some (.cells (bc l).toArray e)
theorem BRow.keep{S:Nat->Prop}{w w':World}{g:Nat}{e:TypeId}{l:Bs}(h:BRow w g e l)(hf:Fm S w w')(hs:¬S g):BRow w' g e l:=hf.heap h hs
theorem BRow.lt{w:World}{g:Nat}{e:TypeId}{l:Bs}(h:BRow w g e l):g<w.heap.size:=aj h
theorem BRow.cell{w:World}{g:Nat}{e:TypeId}{l:Bs}(h:BRow w g e l)(i:Nat):w.cell? ⟨g,i,none⟩=(l[i]?).map λb=>Value.int .u8 b.toNat:=by rw[ab h,List.getElem?_toArray,vP]
theorem BRow.make{P:Program}{t e s:TypeId}(B:ByteT P t e s)(w:World)(n:Nat)(h:n<=281474976710656):
  (Instr.makeSlice t (.int .i64 n) (.int .i64 n)).run P w=.ok (.slice (some ⟨w.heap.size,0,none⟩) n n) (w.alloc (.cells (bc (List.replicate n 0)).toArray e)):=by
 obtain⟨i,h1,h2,h3,h4⟩:=B.info;have hr:=run_make (P:=P) w t e i _ B.sl h1 h2 .i64 .i64 n n (by omega) (Int.le_refl _) (by rw[h4];omega) (by omega);rw[hr];congr 3;simp only[Int.toNat_natCast];congr 1;rw[h3,Nat.mul_one];apply Array.ext';apply List.ext_getElem?;intro j;simp only[madeCells,bc,List.map_replicate,Array.toList_map,Array.toList_range,List.getElem?_map,List.getElem?_replicate,List.getElem?_range];have hz:∀q,(Value.cells (.int .u8 0))[q % (Value.cells (.int .u8 0)).size]! = Value.int .u8 0:=by intro q;have:(Value.cells (.int .u8 0)).size=1:=rfl;rw[this,Nat.mod_one];rfl
 by_cases hj:j<n
 ·rw[if_pos hj,List.getElem?_range hj];simp[hz]
 ·rw[if_neg hj,List.getElem?_eq_none (by simpa using hj)];rfl
theorem BRow.conv{P:Program}{t e s:TypeId}(B:ByteT P t e s){w:World}{g:Nat}{e':TypeId}{l:Bs}(h:BRow w g e' l){o n:Nat}(hn:o+n<=l.length)(c:Nat):
  (convert t s (.slice (some ⟨g,o,none⟩) n c)).run P w=.ok (stv ((l.drop o).take n)) w:=by
 have hr:=run_convert_bytes_arg (P:=P) w t e B.sl B.u8 g o n c (((l.drop o).take n).map λb=>(b.toNat:Int)) (by simp;omega) (λi hi=>by
  rw[h.cell];have:o+i<l.length:=by omega
  simp[List.getD,List.getElem?_take,hi,List.getElem?_drop,this]) s B.st
 rw[hr];congr 2;apply ByteArray.ext;simp only[strOfNums,str,List.map_map];congr 1
 conv=>rhs;rw[<- List.map_id ((l.drop o).take n)]
 apply List.map_congr_left;intro x _;simp
theorem nq{P:Program}{t e s:TypeId}(B:ByteT P t e s)(w:World)(n c:Nat):(convert t s (.slice none n c)).run P w=.ok (stv []) w:=by rw[run_convert_bytes_nil (P:=P) w t e B.sl B.u8 n c s B.st];rfl
theorem BRow.v8{P:Program}{t e s:TypeId}(B:ByteT P t e s){w:World}{g:Nat}{l:Bs}(h:BRow w g e l){o n:Nat}{x:Bs}(hx:x.length<=n)(hn:o+x.length<=l.length)(c:Nat)(ty:TypeId):
  ∃w',(Builtin.copy_ #[t,s] ty #[.slice (some ⟨g,o,none⟩) n c,stv x]).run P w=.ok (goInt x.length) w'/\BRow w' g e (l.take o++x++l.drop (o+x.length))/\w'.heap.size=w.heap.size/\Fm (·=g) w w':=by
 obtain⟨i,h1,h2,h3,h4⟩:=B.info;have hr:=Lib.run_copy_row_string (P:=P) w t s ty e g o n c (str x) _ e B.sl (by rw[h1];simp[h3]) h (by rw[aq];exact hx) (by rw[aq,List.size_toArray,bX];exact hn);rw[aq] at hr;refine⟨_,hr,?_,?_,?_⟩
 ·show(w.setRow g _).heap[g]?=_;rw[setRow_heap w g _ _ e _ h];congr 2;rw[show Lib.byteCells (str x).data.toList=bc x from rfl,dt,dt,vQ,Cf]
 ·simp
 ·exact⟨rfl,rfl,rfl,by simp,λb hb hs=>setRow_other w g b _ hs⟩
theorem BRow.put{w:World}{g:Nat}{e:TypeId}{l:Bs}(h:BRow w g e l){i:Nat}(hi:i<l.length){b:UInt8}{k:KV}
  (hk:∀w',BRow w' g e (l.set i b)->w'.heap.size=w.heap.size->Fm (·=g) w w'->k undef w'):St 1 w (.pointer (some ⟨g,i,none⟩)) (.int .u8 b.toNat) k:=by
 refine au h (by rw[List.size_toArray,bX];exact hi) rfl λw' h1 h2 h3=>hk w' ?_ h2 h3;unfold BRow;rw[h1];congr 2;apply Array.ext';simp only[Array.toList_setIfInBounds,bc,List.map_set]
theorem DB(n:Int):((UInt8.ofNat (IntKind.u8.wrap n).toNat).toNat:Int)=IntKind.u8.wrap n:=by
 have h:0<=IntKind.u8.wrap n/\IntKind.u8.wrap n<256:=by unfold IntKind.wrap;simp[IntKind.bits,IntKind.signed];omega
 have e:(UInt8.ofNat (IntKind.u8.wrap n).toNat).toNat=(IntKind.u8.wrap n).toNat % 256:=by simp
 rw[e,Nat.mod_eq_of_lt (by omega)];omega
def BX(w:World)(g:Nat)(e:TypeId)(l:Bs):Prop:=∃cs fz,w.heap[g]?=some (.cells cs e fz)/\cs.toList.take l.length=bc l/\l.length<=cs.size/\(fz=(0,0)\/l.length<=fz.1)
theorem BX.of{w:World}{g:Nat}{e:TypeId}{l:Bs}(h:BRow w g e l):BX w g e l:=⟨_,_,h,by rw[List.take_of_length_le (by rw[bX];exact Nat.le_refl _)],by rw[List.size_toArray,bX];exact Nat.le_refl _,.inl rfl⟩
theorem BX.keep{S:Nat->Prop}{w w':World}{g:Nat}{e:TypeId}{l:Bs}(h:BX w g e l)(hf:Fm S w w')(hs:¬S g):BX w' g e l:=by obtain⟨cs,fz,h1,h2⟩:=h;exact⟨cs,fz,hf.heap h1 hs,h2⟩
theorem BX.cell{w:World}{g:Nat}{e:TypeId}{l:Bs}(h:BX w g e l){i:Nat}{b:UInt8}(hi:l[i]?=some b):w.cell? ⟨g,i,none⟩=some (.int .u8 b.toNat):=by
 obtain⟨cs,fz,h1,h2,h3,h4⟩:=h;have hlt:=(List.getElem?_eq_some_iff.1 hi).1;rw[ab h1];have:(cs.toList.take l.length)[i]?=some (.int .u8 b.toNat):=by rw[h2,vP,hi];rfl
 rw[List.getElem?_take,if_pos hlt] at this;simpa using this
theorem BX.conv{P:Program}{t e s:TypeId}(B:ByteT P t e s){w:World}{g:Nat}{e':TypeId}{l:Bs}(h:BX w g e' l){o n:Nat}(hn:o+n<=l.length)(c:Nat):
  (convert t s (.slice (some ⟨g,o,none⟩) n c)).run P w=.ok (stv ((l.drop o).take n)) w:=by
 have hr:=run_convert_bytes_arg (P:=P) w t e B.sl B.u8 g o n c (((l.drop o).take n).map λb=>(b.toNat:Int)) (by simp;omega) (λi hi=>by
  have hlt:o+i<l.length:=by omega
  rw[h.cell (List.getElem?_eq_getElem hlt)];simp[List.getD,List.getElem?_take,hi,List.getElem?_drop,hlt]) s B.st
 rw[hr];congr 2;apply ByteArray.ext;simp only[strOfNums,str,List.map_map];congr 1
 conv=>rhs;rw[<- List.map_id ((l.drop o).take n)]
 apply List.map_congr_left;intro x _;simp
theorem BX.put{w:World}{g:Nat}{e:TypeId}{l:Bs}(h:BX w g e l){i:Nat}(hi:i<l.length){b:UInt8}{k:KV}
  (hk:∀w',BX w' g e (l.set i b)->w'.heap.size=w.heap.size->Fm (·=g) w w'->k undef w'):St 1 w (.pointer (some ⟨g,i,none⟩)) (.int .u8 b.toNat) k:=by
 have hc:=h.cell (List.getElem?_eq_getElem hi);obtain⟨cs,fz,h1,h2,h3,h4⟩:=h;have hfz:w.frozen? ⟨g,i,none⟩=false:=by
  obtain⟨lo,hi'⟩:=fz;simp only[World.frozen?,h1];rcases h4 with h4|h4
  ·cases h4;simp
  ·have h4':l.length<=lo:=h4;have:¬lo<=i:=by omega
   simp[this]
 refine Bj rfl hc hfz (hk _ ⟨_,fz,eh h1 i _,?_,?_,?_⟩ (by simp[World.setCell]) (Fm.setCell w ⟨g,i,none⟩ _ rfl))
 ·rw[Array.toList_setIfInBounds,List.length_set,List.take_set,h2];simp[bc,List.map_set]
 ·rw[List.length_set,Array.size_setIfInBounds];exact h3
 ·rw[List.length_set];exact h4
theorem tP{P:Program}{t e s:TypeId}(B:ByteT P t e s)(w:World)(l:Bs):∃cap w',(convert s t (stv l)).run P w=.ok (.slice (some ⟨w.heap.size,0,none⟩) l.length cap) w'/\BX w' w.heap.size e l/\Fm (λ_=>False) w w'/\w'.heap.size=w.heap.size+1:=by
 have hr:=run_bytes_of_string (P:=P) w s t e (str l) B.st B.sl B.u8;rw[aq] at hr;refine⟨_,_,hr,⟨_,_,aA w.drew _,?_,?_,?_⟩,(Fm.drew _ w).trans (Fm.alloc _ w.drew _) iT iT,by simp⟩
 ·have:(bytesRow (str l) (grownCap w l.length 0 e)).toList=bc l++List.replicate (grownCap w l.length 0 e - l.length) (.int .u8 0):=by unfold bytesRow;rw[Array.toList_append,Array.toList_map,Array.toList_replicate,aq];rfl
  rw[this,List.take_append_of_le_length (by rw[bX];exact Nat.le_refl _),List.take_of_length_le (by rw[bX];exact Nat.le_refl _)]
 ·unfold bytesRow;rw[Array.size_append,Array.size_map];have:(str l).data.size=l.length:=by simp[str]
  omega
 ·right;unfold bytesRow;simp only[Array.size_append,Array.size_map];have:(str l).data.size=l.length:=by simp[str]
  omega
theorem gu{P:Program}{t e s:TypeId}(B:ByteT P t e s){w:World}{base:Nat}{v:Value}{n:Nat}{l:Bs}(h:w.ownsRow base e 1 v n (bc l))(x:Bs)(ty:TypeId)
  (h63:n+x.length<=140737488355328) (hbase:base<=w.heap.size):
  ∃v' w',(Builtin.append_ #[t,s] ty #[v,stv x]).run P w=.ok v' w'/\w'.ownsRow base e 1 v' (n+x.length) (bc (l++x))/\Fm (λb=>v.ownBlock=some b) w w'/\(v'=.slice none 0 0↔v=.slice none 0 0/\x.length=0):=by
 obtain⟨i,h1,h2,h3,h4⟩:=B.info;obtain⟨v',w',hr,ho,hg,hn⟩:=Lib.run_append_own_string (P:=P) (w:=w) base t s ty e i B.sl B.st h1 h2 h3 h4 v n _ h (str x) (by rw[aq];unfold maxLen;omega) (by rw[aq];omega) hbase;rw[aq] at ho hn;refine⟨v',w',hr,?_,Fm.grown (S:=λb=>v.ownBlock=some b) hg (λk hk _=>hk),hn⟩;rw[dt];exact ho
theorem sj{P:Program}{t e s:TypeId}(B:ByteT P t e s){w:World}{base:Nat}{v:Value}{n:Nat}{l:Bs}(h:w.ownsRow base e 1 v n (bc l)):(convert t s v).run P w=.ok (stv l) w:=by
 have hl:=h.1;rw[bX,Nat.mul_one] at hl;rcases(pA h).2 with⟨rfl,h0⟩|⟨g,cap,rfl,_,_,hc⟩
 ·rw[h0] at hl;rw[List.eq_nil_of_length_eq_zero hl];exact nq B w 0 0
 ·have hr:=run_convert_bytes_arg (P:=P) w t e B.sl B.u8 g 0 n cap (l.map λb=>(b.toNat:Int)) (by simpa using hl) (λi hi=>by
   rw[Nat.zero_add,hc i hi,vP];have:i<l.length:=by omega
   simp[List.getD,this]) s B.st
  rw[hr];congr 2;apply ByteArray.ext;simp only[strOfNums,str,List.map_map];congr 1
  conv=>rhs;rw[<- List.map_id l]
  apply List.map_congr_left;intro x _;simp
theorem ti{g o n c i j:Nat}(hij:i<=j)(hj:j<=c)(k k':IntKind):∃o',slV 1 (.slice (some ⟨g,o,none⟩) n c) (some (.int k i)) (some (.int k' j)) none=some (.slice (some ⟨g,o',none⟩) (j - i) (c - i))/\(i<c->o'=o+i)/\o'<=o+i/\(j=i->True):=by
 have e1:bnd c c none=some c:=rfl;have e2:bnd c n (some (.int k' j))=some j:=eN hj k';have e3:bnd j 0 (some (.int k i))=some i:=eN hij k;refine⟨if c=i then o else o+i,?_,λh=>by rw[if_neg (by omega)],by split<;>omega,λ_=>trivial⟩;simp only[slV,Bp,e1,e2,e3,Option.bind_some,Option.map_some];congr 2;split
 ·rfl
 ·rw[aC,Nat.mul_one]
theorem yM{g o n c i:Nat}(hi:i<=n)(hn:n<=c)(k:IntKind):∃o',slV 1 (.slice (some ⟨g,o,none⟩) n c) (some (.int k i)) none none=some (.slice (some ⟨g,o',none⟩) (n - i) (c - i))/\(i<c->o'=o+i)/\o'<=o+i:=by
 have e1:bnd c c none=some c:=rfl;have e3:bnd n 0 (some (.int k i))=some i:=eN hi k;refine⟨if c=i then o else o+i,?_,λh=>by rw[if_neg (by omega)],by split<;>omega⟩;simp only[slV,Bp,e1,e3,Option.bind_some,Option.map_some];congr 2;split
 ·rfl
 ·rw[aC,Nat.mul_one]
def sz1(vs:List Value):Nat:=match (vs[1]?:Option Value) with
 | some (.string s)=>s.size
 | _=>0
theorem BR(a:Value)(s:Bs)(l:List Value):sz1 (a::stv s::l)=s.length:=by simp[sz1,aq]
theorem dJ{n:Nat}(h:n<=9223372036854775807):IntKind.i64.wrap (n:Int)=n:=af (by omega)
theorem CV(d:TypeDesc){a b:Int}(hb:b≠0)(h : -9223372036854775808<=a.tdiv b/\a.tdiv b<=9223372036854775807):ax d .quo (iv a) (iv b)=some (iv (a.tdiv b)):=by rw[zS,if_neg hb,af h]
theorem nJ(d:TypeDesc){n m:Nat}(hm:0<m)(h:n<=9223372036854775807){b:Int}(hb:b=(m:Int)):ax d .quo (iv n) (iv b)=some (iv ((n / m:Nat):Int)):=by
 subst hb;have e:(n:Int).tdiv (m:Int)=((n / m:Nat):Int):=by rw[Int.tdiv_eq_ediv_of_nonneg (by omega)];rfl
 have hle:n / m<=n:=Nat.div_le_self n m;rw[CV d (by omega) (by rw[e];generalize n / m=q at *;omega),e]
theorem eG(d:TypeDesc){n m:Nat}(hm:0<m)(h:n<=9223372036854775807){b:Int}(hb:b=(m:Int)):ax d .rem (iv n) (iv b)=some (iv ((n % m:Nat):Int)):=by
 subst hb;have e:(n:Int).tmod (m:Int)=((n % m:Nat):Int):=by rw[Int.tmod_eq_emod_of_nonneg (by omega)];rfl
 have hle:n % m<=n:=Nat.mod_le n m;rw[nc,if_neg (by omega),e]
theorem jb(d:TypeDesc){a b:Int}(ha:0<=a)(hb:0<b)(h:a<=9223372036854775807):ax d .quo (iv a) (iv b)=some (iv (a / b)):=by obtain⟨n,rfl⟩:=Int.eq_ofNat_of_zero_le ha;obtain⟨m,rfl⟩:=Int.eq_ofNat_of_zero_le (show 0<=b by omega);rw[nJ d (n:=n) (m:=m) (by omega) (by omega) rfl];rfl
theorem nL(d:TypeDesc){a b:Int}(ha:0<=a)(hb:0<b)(h:a<=9223372036854775807):ax d .rem (iv a) (iv b)=some (iv (a % b)):=by obtain⟨n,rfl⟩:=Int.eq_ofNat_of_zero_le ha;obtain⟨m,rfl⟩:=Int.eq_ofNat_of_zero_le (show 0<=b by omega);rw[eG d (n:=n) (m:=m) (by omega) (by omega) rfl];rfl
theorem DJ{n:Int}(h : -9223372036854775808<=n/\n<=9223372036854775807):unV .xor (iv n)=some (iv (-(n+1))):=by
 have e1:BitVec.ofInt 64 (-1)=BitVec.allOnes 64:=by decide
 have e2:((BitVec.ofInt 64 (-1)) ^^^ (BitVec.ofInt 64 n)).toNat=18446744073709551615 - (n % 18446744073709551616).toNat:=by rw[e1,BitVec.allOnes_xor,BitVec.toNat_not,BitVec.toNat_ofInt];rfl
 have e3:unV .xor (iv n)=some (iv (IntKind.i64.wrap (((BitVec.ofInt 64 (-1)) ^^^ (BitVec.ofInt 64 n)).toNat:Int))):=rfl;rw[e3,e2];congr 2;unfold IntKind.wrap;simp[IntKind.bits,IntKind.signed];omega
def vH(k:IntKind)(a b:Int):Int:=k.wrap ((BitVec.ofInt k.bits a) &&& (BitVec.ofInt k.bits b)).toNat
theorem fL(d:TypeDesc)(k:IntKind)(a b:Int):ax d .and (.int k a) (.int k b)=some (.int k (vH k a b)):=by simp[ax,qn,om,vH]
theorem aY(w n:Nat)(h:n<2 ^ w):(BitVec.ofInt w (n:Int)).toNat=n:=by rw[BitVec.toNat_ofInt];have e:(((2 ^ w:Nat):Int))=(2 ^ w:Nat):=rfl;rw[Int.emod_eq_of_lt (by omega) (by omega)];rfl
def orI(k:IntKind)(a b:Int):Int:=k.wrap ((BitVec.ofInt k.bits a) ||| (BitVec.ofInt k.bits b)).toNat
theorem qu(d:TypeDesc)(k:IntKind)(a b:Int):ax d .or (.int k a) (.int k b)=some (.int k (orI k a b)):=by simp[ax,qn,om,orI]
def jU(k:IntKind)(a b:Int):Int:=k.wrap ((BitVec.ofInt k.bits a) &&& ~~~ (BitVec.ofInt k.bits b)).toNat
theorem jX(d:TypeDesc)(k:IntKind)(a b:Int):ax d .andNot (.int k a) (.int k b)=some (.int k (jU k a b)):=by simp[ax,qn,om,jU]
theorem vJ(a b:Nat)(ha:a<=9223372036854775807)(hb:b<=9223372036854775807):vH .i64 a b=((a &&& b:Nat):Int):=by have h1:(BitVec.ofInt 64 (a:Int)).toNat=a:=aY 64 a (by omega);have h2:(BitVec.ofInt 64 (b:Int)).toNat=b:=aY 64 b (by omega);show IntKind.i64.wrap (((BitVec.ofInt 64 (a:Int)) &&& (BitVec.ofInt 64 (b:Int))).toNat:Int)=_;rw[BitVec.toNat_and,h1,h2];have:a &&& b<=a:=Nat.and_le_left;generalize a &&& b=c at *;exact dJ (by omega)
theorem El(a b:Nat)(ha:a<256)(hb:b<256):vH .u8 a b=((a &&& b:Nat):Int):=by have h1:(BitVec.ofInt 8 (a:Int)).toNat=a:=aY 8 a (by omega);have h2:(BitVec.ofInt 8 (b:Int)).toNat=b:=aY 8 b (by omega);show IntKind.u8.wrap (((BitVec.ofInt 8 (a:Int)) &&& (BitVec.ofInt 8 (b:Int))).toNat:Int)=_;rw[BitVec.toNat_and,h1,h2];have:a &&& b<=a:=Nat.and_le_left;generalize a &&& b=c at *;unfold IntKind.wrap;simp[IntKind.bits,IntKind.signed];omega
theorem EY{a b n:Nat}(ha:a<2 ^ n)(hb:b<2 ^ n):a ||| b<2 ^ n:=Nat.or_lt_two_pow ha hb
theorem EX(a b:Nat)(ha:a<2 ^ 63)(hb:b<2 ^ 63):orI .i64 a b=((a ||| b:Nat):Int):=by have h1:(BitVec.ofInt 64 (a:Int)).toNat=a:=aY 64 a (by omega);have h2:(BitVec.ofInt 64 (b:Int)).toNat=b:=aY 64 b (by omega);show IntKind.i64.wrap (((BitVec.ofInt 64 (a:Int)) ||| (BitVec.ofInt 64 (b:Int))).toNat:Int)=_;rw[BitVec.toNat_or,h1,h2];have:=EY ha hb;generalize a ||| b=c at *;exact dJ (by omega)
theorem GW(a b:Nat)(ha:a<256)(hb:b<256):orI .u8 a b=((a ||| b:Nat):Int):=by have h1:(BitVec.ofInt 8 (a:Int)).toNat=a:=aY 8 a (by omega);have h2:(BitVec.ofInt 8 (b:Int)).toNat=b:=aY 8 b (by omega);show IntKind.u8.wrap (((BitVec.ofInt 8 (a:Int)) ||| (BitVec.ofInt 8 (b:Int))).toNat:Int)=_;rw[BitVec.toNat_or,h1,h2];have:=EY (n:=8) ha hb;generalize a ||| b=c at *;unfold IntKind.wrap;simp[IntKind.bits,IntKind.signed];omega
theorem jI(d:TypeDesc){a b:Int}(hb:0<b):ax d .rem (iv a) (iv b)=some (iv (a.tmod b)):=by rw[nc,if_neg (by omega)]
theorem aV(a b:Int):(a == b)=decide (a=b):=by by_cases h:a=b<;>simp[h]
theorem aG(a b:Int):(a != b)=!decide (a=b):=by by_cases h:a=b<;>simp[h]
def vw(c:Nat):Nat:=(c / 2) ^^^ (if c % 2=1 then 3988292384 else 0)
def lJ:Nat->Nat->Nat
 | 0,c=>c
 | k+1,c=>lJ k (vw c)
def EF(c:Nat)(b:UInt8):Nat:=lJ 8 (c ^^^ b.toNat)
def Cn(c:Nat)(l:Bs):Nat:=l.foldl EF c
def crc(l:Bs):Nat:=Cn 4294967295 l ^^^ 4294967295
theorem Co{c:Nat}(h:c<2 ^ 32):vw c<2 ^ 32:=by unfold vw;refine Nat.xor_lt_two_pow (by omega) ?_;split<;>omega
theorem nr:∀(k:Nat) {c:Nat},c<2 ^ 32->lJ k c<2 ^ 32
 | 0,_,h=>h
 | k+1,_,h=>nr k (Co h)
theorem Be{c:Nat}(h:c<2 ^ 32)(b:UInt8):c ^^^ b.toNat<2 ^ 32:=Nat.xor_lt_two_pow h (by have:=b.toNat_lt;omega)
theorem Cm{c:Nat}(h:c<2 ^ 32)(b:UInt8):EF c b<2 ^ 32:=nr 8 (Be h b)
theorem qz:∀(l:Bs) {c:Nat},c<2 ^ 32->Cn c l<2 ^ 32
 | [],_,h=>h
 | b::l,_,h=>qz l (Cm h b)
theorem Bq(l:Bs):crc l<2 ^ 32:=Nat.xor_lt_two_pow (qz l (by omega)) (by omega)
theorem zY(a b:Nat):vw (a ^^^ b)=vw a ^^^ vw b:=by
 unfold vw;have h1:(a ^^^ b) / 2=a / 2 ^^^ b / 2:=by have:=Nat.shiftRight_xor_distrib (a:=a) (b:=b) (i:=1);simpa[Nat.shiftRight_eq_div_pow] using this
 have h2:(a ^^^ b) % 2=(a % 2 ^^^ b % 2):=by have:=Nat.xor_mod_two_pow (a:=a) (b:=b) (n:=1);simpa using this
 rw[h1,h2];have ha:a % 2=0\/a % 2=1:=by omega
 have hb:b % 2=0\/b % 2=1:=by omega
 rcases ha with ha|ha<;>rcases hb with hb|hb<;>rw[ha,hb]<;>simp
 ·rw[Nat.xor_assoc]
 ·rw[Nat.xor_assoc,Nat.xor_assoc,Nat.xor_comm (b / 2)]
 ·rw[Nat.xor_assoc,Nat.xor_comm 3988292384,Nat.xor_assoc,Nat.xor_self,Nat.xor_zero]
theorem sk:∀(k a b:Nat),lJ k (a ^^^ b)=lJ k a ^^^ lJ k b
 | 0,_,_=>rfl
 | k+1,a,b=>by rw[lJ,zY,sk k];rfl
theorem lS:∀(k x:Nat),lJ k (x*2 ^ k)=x
 | 0,x=>by simp[lJ]
 | k+1,x=>by
  rw[lJ];have:vw (x*2 ^ (k+1))=x*2 ^ k:=by unfold vw;rw[Nat.pow_succ,<- Nat.mul_assoc,Nat.mul_div_cancel _ (by omega),if_neg (by omega),Nat.xor_zero]
  rw[this];exact lS k x
theorem uT(c:Nat):c=(c / 256*256) ^^^ (c % 256):=by
 have h:=Nat.two_pow_add_eq_or_of_lt (i:=8) (b:=c % 256) (by omega) (c / 256);apply Nat.eq_of_testBit_eq;intro i;rw[Nat.testBit_xor,show c / 256*256=(c / 256)*2 ^ 8 from rfl,Nat.testBit_mul_two_pow,show c % 256=c % 2 ^ 8 from rfl,Nat.testBit_mod_two_pow,show c / 256=c / 2 ^ 8 from rfl,Nat.testBit_div_two_pow];by_cases hi:i<8
 ·simp[hi,show ¬8<=i by omega]
 ·simp[hi,show 8<=i by omega]
theorem tQ(c:Nat)(b:UInt8):EF c b=c / 256 ^^^ lJ 8 (c % 256 ^^^ b.toNat):=by
 unfold EF;have h:c ^^^ b.toNat=(c / 256*256) ^^^ (c % 256 ^^^ b.toNat):=by rw[<- Nat.xor_assoc,<- uT]
 rw[h,sk,show c / 256*256=c / 256*2 ^ 8 from rfl,lS]
def beN:Nat->Nat->Bs
 | 0,_=>[]
 | k+1,n=>beN k (n / 256)++[UInt8.ofNat (n % 256)]
def ofB(l:Bs):Nat:=l.foldl (λn b=>n*256+b.toNat) 0
theorem aI:∀(k n:Nat),(beN k n).length=k
 | 0,_=>rfl
 | k+1,n=>by rw[beN,List.length_append,aI];rfl
theorem sO(l:Bs)(b:UInt8):ofB (l++[b])=ofB l*256+b.toNat:=by unfold ofB;rw[List.foldl_append];rfl
theorem fp{n:Nat}(h:n<256):(UInt8.ofNat n).toNat=n:=by simp[Nat.mod_eq_of_lt h]
theorem iY:∀(k n:Nat),ofB (beN k n)=n % 256 ^ k
 | 0,n=>by simp[beN,ofB,Nat.mod_one]
 | k+1,n=>by rw[beN,sO,iY,fp (by omega),Nat.pow_succ];rw[Nat.mul_comm (256 ^ k) 256,Nat.mod_mul];omega
theorem Dp:∀(k:Nat) (l:Bs),l.length=k+1->∃m b,l=m++[b]/\m.length=k:=by
 intro k l h;have hne:l≠[]:=by rintro rfl;simp at h
 exact⟨l.dropLast,l.getLast hne,(List.dropLast_concat_getLast hne).symm,by rw[List.length_dropLast,h];rfl⟩
theorem eY:∀(k:Nat) (l:Bs),l.length=k->beN k (ofB l)=l
 | 0,l,h=>by rw[List.eq_nil_of_length_eq_zero h];rfl
 | k+1,l,h=>by obtain⟨m,b,rfl,hm⟩:=Dp k l h;have hb:=b.toNat_lt;rw[sO,beN,show(ofB m*256+b.toNat) / 256=ofB m by omega,show(ofB m*256+b.toNat) % 256=b.toNat by omega,eY k m hm];congr 2;exact UInt8.toNat_inj.1 (fp (by omega))
theorem px:∀(k:Nat) (l:Bs),l.length=k->ofB l<256 ^ k:=by intro k l h;have:=iY k (ofB l);rw[eY k l h] at this;rw[this];exact Nat.mod_lt _ (Nat.pow_pos (by omega))
theorem Ga(b:UInt8):beN 1 b.toNat=[b]:=by
 have:=eY 1 [b] rfl;have h:ofB [b]=b.toNat:=by simp[ofB]
 rw[h] at this;exact this
structure Pg where
 lsn : Int
 kind : Int
 level : Int
 right : Int
 high : Bs
 items : List Bs
deriving DecidableEq
def pg0:Pg:=⟨0,0,0,0,[],[]⟩
def aH(n:Nat):Bs:=List.replicate n 0
theorem cu(n:Nat):(aH n).length=n:=List.length_replicate
def itB(it:Bs):Bs:=beN 2 it.length++it
theorem qR(it:Bs):(itB it).length=2+it.length:=by rw[itB,List.length_append,aI]
def bt(p:Pg):Nat:=p.items.foldl (λn it=>n+(2+it.length)) (20+p.high.length)
def lL(p:Pg):Bs:=beN 8 p.lsn.toNat++(beN 1 p.kind.toNat++(beN 1 p.level.toNat++(beN 4 p.right.toNat++(beN 1 p.items.length++(beN 1 p.high.length++p.high)))))
def dc(p:Pg):Bs:=lL p++p.items.flatMap itB
def de(p:Pg):Bs:=dc p++aH (508 - (dc p).length)
def pErr(p:Pg):Int:=
 bif decide (p.lsn<0\/p.level<0\/p.right<0\/p.kind<1\/3<p.kind\/255<p.level\/4294967295<p.right) then 4
 else bif decide (255<p.high.length\/255<p.items.length\/512<bt p) then 3 else 0
def pEnc(p:Pg):Bs×Int:=bif decide (pErr p=0) then(beN 4 (crc (de p))++de p,0) else([],pErr p)
theorem oU(l:List Bs)(n:Nat):l.foldl (λn it=>n+(2+it.length)) n=n+(l.flatMap itB).length:=by
 induction l generalizing n with
 | nil=>simp
 | cons x l ih=>rw[List.foldl_cons,ih,List.flatMap_cons,List.length_append,qR];omega
theorem xZ(p:Pg):(lL p).length=16+p.high.length:=by simp only[lL,List.length_append,aI];omega
theorem kQ(p:Pg):(dc p).length+4=bt p:=by rw[bt,oU,dc,List.length_append,xZ];omega
theorem pE{p:Pg}(h:bt p<=512):(de p).length=508:=by have:=kQ p;rw[de,List.length_append,cu];omega
theorem rf{p:Pg}(h:pErr p=0):(0<=p.lsn/\0<=p.level/\0<=p.right/\1<=p.kind/\p.kind<=3/\p.level<=255/\p.right<=4294967295)/\p.high.length<=255/\p.items.length<=255/\bt p<=512:=by
 unfold pErr at h;cases h1:decide (p.lsn<0\/p.level<0\/p.right<0\/p.kind<1\/3<p.kind\/255<p.level\/4294967295<p.right) with
 | true=>rw[h1] at h;simp at h
 | false=>
  cases h2:decide (255<p.high.length\/255<p.items.length\/512<bt p) with
  | true=>rw[h1,h2] at h;simp at h
  | false=>rw[decide_eq_false_iff_not] at h1 h2;omega
theorem CR{p:Pg}(h:(0<=p.lsn/\0<=p.level/\0<=p.right/\1<=p.kind/\p.kind<=3/\p.level<=255/\p.right<=4294967295)/\p.high.length<=255/\p.items.length<=255/\bt p<=512):pErr p=0:=by
 unfold pErr;rw[show decide (p.lsn<0\/p.level<0\/p.right<0\/p.kind<1\/3<p.kind\/255<p.level\/4294967295<p.right)=false by rw[decide_eq_false_iff_not];omega,show decide (255<p.high.length\/255<p.items.length\/512<bt p)=false by rw[decide_eq_false_iff_not];omega]
 rfl
theorem kU{p:Pg}(h:pErr p=0):pEnc p=(beN 4 (crc (de p))++de p,0):=by unfold pEnc;rw[h];rfl
theorem jF{p:Pg}(h:pErr p≠0):pEnc p=([],pErr p):=by unfold pEnc;rw[show decide (pErr p=0)=false by simpa using h];rfl
theorem iq{p:Pg}(h:pErr p=0):(pEnc p).1.length=512:=by rw[kU h,List.length_append,aI,pE (rf h).2.2.2]
theorem sW(p:Pg):(pEnc p).2=pErr p:=by
 by_cases h:pErr p=0
 ·rw[kU h,h]
 ·rw[jF h]
def bZ:Nat->Bs->Option (List Bs×Bs)
 | 0,s=>some ([],s)
 | n+1,s=>bif decide (s.length<2) then none
  else bif decide ((s.drop 2).length<ofB (s.take 2)) then none
  else(bZ n ((s.drop 2).drop (ofB (s.take 2)))).map λx=>((s.drop 2).take (ofB (s.take 2))::x.1,x.2)
theorem AY(k n:Nat)(t:Bs):(beN k n++t).take k=beN k n:=by rw[List.take_append_of_le_length (by rw[aI];exact Nat.le_refl _),List.take_of_length_le (by rw[aI];exact Nat.le_refl _)]
theorem sw(k n:Nat)(t:Bs):(beN k n++t).drop k=t:=List.drop_left' (aI k n)
theorem pD:∀(l:List Bs) (t:Bs),(∀it∈l,it.length<65536)->bZ l.length (l.flatMap itB++t)=some (l,t)
 | [],t,_=>rfl
 | x::l,t,h=>by
  have hx:=h x (by simp);have ih:=pD l t (λit hi=>h it (List.mem_cons_of_mem _ hi));rw[List.length_cons,bZ,List.flatMap_cons,itB];have e:(beN 2 x.length++x++l.flatMap itB++t)=beN 2 x.length++(x++(l.flatMap itB++t)):=by simp only[List.append_assoc]
  rw[e,AY,sw,iY,Nat.mod_eq_of_lt (by omega)];rw[show decide ((beN 2 x.length++(x++(l.flatMap itB++t))).length<2)=false by rw[decide_eq_false_iff_not,List.length_append,aI];omega,cond_false];rw[show decide ((x++(l.flatMap itB++t)).length<x.length)=false by rw[decide_eq_false_iff_not,List.length_append];omega,cond_false];rw[List.drop_left,List.take_left,ih];rfl
theorem pC:∀(n:Nat) (s:Bs) (l:List Bs) (t:Bs),bZ n s=some (l,t)->l.length=n/\s=l.flatMap itB++t/\∀it∈l,it.length<65536
 | 0,s,l,t,h=>by rw[bZ] at h;cases h;exact⟨rfl,rfl,by simp⟩
 | n+1,s,l,t,h=>by
  rw[bZ] at h;cases h1:decide (s.length<2) with
  | true=>rw[h1,cond_true] at h;cases h
  | false=>
  cases h2:decide ((s.drop 2).length<ofB (s.take 2)) with
  | true=>rw[h1,h2,cond_false,cond_true] at h;cases h
  | false=>
  rw[h1,h2,cond_false,cond_false] at h;cases h3:bZ n ((s.drop 2).drop (ofB (s.take 2))) with
  | none=>rw[h3] at h;cases h
  | some q=>
   obtain⟨l',t'⟩:=q;rw[h3] at h;cases h;obtain⟨g1,g2,g3⟩:=pC n _ _ _ h3;rw[decide_eq_false_iff_not] at h1 h2;have hlt:ofB (s.take 2)<256 ^ 2:=px 2 _ (by rw[List.length_take];omega);have hl:((s.drop 2).take (ofB (s.take 2))).length=ofB (s.take 2):=by rw[List.length_take];omega
   refine⟨by simp[g1],?_,?_⟩
   ·rw[List.flatMap_cons,itB,hl,eY 2 _ (by rw[List.length_take];omega)];rw[List.append_assoc,List.append_assoc,<- g2,List.take_append_drop,List.take_append_drop]
   ·intro it hi;rcases List.mem_cons.1 hi with rfl|hi
    ·rw[hl];exact hlt
    ·exact g3 it hi
def Br(d:Bs):Nat:=ofB ((d.drop 4).take 8)
def cG(d:Bs):Nat:=(d.getD 12 0).toNat
def fe(d:Bs):Nat:=(d.getD 13 0).toNat
def gU(d:Bs):Nat:=ofB ((d.drop 14).take 4)
def cy(d:Bs):Nat:=(d.getD 18 0).toNat
def dHl(d:Bs):Nat:=(d.getD 19 0).toNat
def ke(d:Bs):Bs:=(d.drop 20).take (dHl d)
def gz(d:Bs):Bs:=(d.drop 20).drop (dHl d)
def dK(d:Bs):Pg×Int:=
 bif decide (d.length≠512) then(pg0,31)
 else bif decide (beN 4 (crc (d.drop 4))≠d.take 4) then(pg0,30)
 else match bZ (cy d) (gz d) with
  | none=>(pg0,31)
  | some (l,t)=>bif decide (t≠aH t.length\/127<(d.getD 4 0).toNat\/cG d<1\/3<cG d) then(pg0,31)
   else(⟨(Br d % 2 ^ 63:Nat),cG d,fe d,gU d,ke d,l⟩,0)
def parts(s l8:Bs)(k v:UInt8)(r:Bs)(n h:UInt8)(tail:Bs):Bs:=s++(l8++(k::v::(r++(n::h::tail))))
theorem AE{d:Bs}(h:d.length=512):∃s l8 k v r n hh tail,d=parts s l8 k v r n hh tail/\s.length=4/\l8.length=8/\r.length=4/\tail.length=492:=by
 match d,h with
 | s0::s1::s2::s3::a0::a1::a2::a3::a4::a5::a6::a7::k::v::r0::r1::r2::r3::n::hh::tail,h=>exact⟨[s0,s1,s2,s3],[a0,a1,a2,a3,a4,a5,a6,a7],k,v,[r0,r1,r2,r3],n,hh,tail,rfl,rfl,rfl,rfl,by simp only[List.length_cons] at h;omega⟩
theorem sX{s l8 r tail:Bs}{k v n h:UInt8}(hs:s.length=4)(h8:l8.length=8)(hr:r.length=4):
  (parts s l8 k v r n h tail).take 4=s/\(parts s l8 k v r n h tail).drop 4=l8++(k::v::(r++(n::h::tail)))/\Br (parts s l8 k v r n h tail)=ofB l8/\cG (parts s l8 k v r n h tail)=k.toNat/\fe (parts s l8 k v r n h tail)=v.toNat /\
  gU (parts s l8 k v r n h tail)=ofB r/\cy (parts s l8 k v r n h tail)=n.toNat/\dHl (parts s l8 k v r n h tail)=h.toNat/\(parts s l8 k v r n h tail).drop 20=tail/\(parts s l8 k v r n h tail).getD 4 0=l8.getD 0 0:=by
 match s,hs,l8,h8,r,hr with
 | [s0,s1,s2,s3],_,[a0,a1,a2,a3,a4,a5,a6,a7],_,[r0,r1,r2,r3],_=>exact⟨rfl,rfl,rfl,rfl,rfl,rfl,rfl,rfl,rfl,rfl⟩
theorem xS{l8:Bs}(h8:l8.length=8):127<(l8.getD 0 0).toNat↔9223372036854775808<=ofB l8:=by
 match l8,h8 with
 | [a0,a1,a2,a3,a4,a5,a6,a7],_=>have h0:=a0.toNat_lt;have h1:=a1.toNat_lt;have h2:=a2.toNat_lt;have h3:=a3.toNat_lt;have h4:=a4.toNat_lt;have h5:=a5.toNat_lt;have h6:=a6.toNat_lt;have h7:=a7.toNat_lt;show 127<a0.toNat↔_;simp only[ofB,List.foldl_cons,List.foldl_nil];omega
theorem rh(p:Pg)(s:Bs):s++de p=parts s (beN 8 p.lsn.toNat) (UInt8.ofNat (p.kind.toNat % 256)) (UInt8.ofNat (p.level.toNat % 256)) (beN 4 p.right.toNat) (UInt8.ofNat (p.items.length % 256)) (UInt8.ofNat (p.high.length % 256)) (p.high++(p.items.flatMap itB++aH (508 - (dc p).length))):=by
 rw[de,dc,lL,parts];simp only[List.append_assoc]
 rfl
theorem mi{p:Pg}(h:bt p<=512):∀it∈p.items,it.length<65536:=by
 intro it hi;rw[bt,oU] at h;have:it.length<=(p.items.flatMap itB).length:=by obtain⟨l1,l2,e⟩:=List.append_of_mem hi;rw[e,List.flatMap_append,List.flatMap_cons,List.length_append,List.length_append,qR];omega
 omega
theorem Cp{p:Pg}(h:pErr p=0)(hl:p.lsn<=9223372036854775807):dK (pEnc p).1=(p,0):=by
 obtain⟨⟨b1,b2,b3,b4,b5,b6,b7⟩,b8,b9,b10⟩:=rf h;have hlen:=iq h;rw[kU h] at hlen ⊢;simp only at hlen ⊢;obtain⟨q1,q2,q3,q4,q5,q6,q7,q8,q9,q10⟩:=sX (s:=beN 4 (crc (de p))) (l8:=beN 8 p.lsn.toNat) (k:=UInt8.ofNat (p.kind.toNat % 256)) (v:=UInt8.ofNat (p.level.toNat % 256)) (r:=beN 4 p.right.toNat) (n:=UInt8.ofNat (p.items.length % 256)) (h:=UInt8.ofNat (p.high.length % 256)) (tail:=p.high++(p.items.flatMap itB++aH (508 - (dc p).length))) (aI _ _) (aI _ _) (aI _ _);have hp:=rh p (beN 4 (crc (de p)));have hd4:(beN 4 (crc (de p))++de p).drop 4=de p:=sw _ _ _;generalize hD:beN 4 (crc (de p))++de p=D at hlen hd4 hp;rw[<- hp] at q1 q2 q3 q4 q5 q6 q7 q8 q9 q10;rw[fp (by omega)] at q4 q5 q7 q8;rw[iY] at q3 q6;have hmany:cy D=p.items.length:=by rw[q7];omega
 have hhl:dHl D=p.high.length:=by rw[q8];omega
 have hhigh:ke D=p.high:=by rw[ke,q9,hhl,List.take_left]
 have hrest:gz D=p.items.flatMap itB++aH (508 - (dc p).length):=by rw[gz,q9,hhl,List.drop_left]
 have htop:¬127<(D.getD 4 0).toNat:=by rw[q10,xS (aI _ _),iY];omega
 unfold dK;rw[show decide (D.length≠512)=false by simpa using hlen,cond_false];rw[show decide (beN 4 (crc (D.drop 4))≠D.take 4)=false by rw[hd4,q1];simp,cond_false];rw[hmany,hrest,pD _ _ (mi b10)];simp only;have hz:¬aH (508 - (dc p).length)≠aH (aH (508 - (dc p).length)).length:=by rw[cu];simp
 rw[show decide (aH (508 - (dc p).length)≠aH (aH (508 - (dc p).length)).length\/127<(D.getD 4 0).toNat\/cG D<1\/3<cG D)=false by
  rw[decide_eq_false_iff_not];rintro(h|h|h|h)
  ·exact hz h
  ·exact htop h
  ·omega
  ·omega,cond_false]
 rw[q3,q4,q5,q6,hhigh];obtain⟨lsn,kind,level,right,high,items⟩:=p;simp only at b1 b2 b3 b4 b5 b6 b7 hl ⊢;congr 2<;>omega
theorem Ct{d:Bs}(h:(dK d).2=0):pErr (dK d).1=0/\(pEnc (dK d).1).1=d/\(dK d).1.lsn<=9223372036854775807:=by
 unfold dK at h ⊢;cases h1:decide (d.length≠512) with
 | true=>rw[h1,cond_true] at h;simp at h
 | false=>
 cases h2:decide (beN 4 (crc (d.drop 4))≠d.take 4) with
 | true=>rw[h1,h2,cond_false,cond_true] at h;simp at h
 | false=>
 rw[h1,h2,cond_false,cond_false] at h;simp only[cond_false];cases h3:bZ (cy d) (gz d) with
 | none=>rw[h3] at h;simp at h
 | some q=>
 obtain⟨l,t⟩:=q;rw[h3] at h;simp only at h ⊢;cases h4:decide (t≠aH t.length\/127<(d.getD 4 0).toNat\/cG d<1\/3<cG d) with
 | true=>rw[h4,cond_true] at h;simp at h
 | false=>
 simp only[cond_false];have hlen:d.length=512:=by simpa using h1
 have hsum:beN 4 (crc (d.drop 4))=d.take 4:=by simpa using h2
 rw[decide_eq_false_iff_not] at h4;have n1:t=aH t.length:=Classical.byContradiction λhne=>h4 (.inl hne);have n2:¬127<(d.getD 4 0).toNat:=λe=>h4 (.inr (.inl e));have n3:¬cG d<1:=λe=>h4 (.inr (.inr (.inl e)));have n4:¬3<cG d:=λe=>h4 (.inr (.inr (.inr e)));obtain⟨g1,g2,g3⟩:=pC _ _ _ _ h3;obtain⟨s,l8,k,v,r,n,hh,tail,hd,es,e8,er,et⟩:=AE hlen;obtain⟨q1,q2,q3,q4,q5,q6,q7,q8,q9,q10⟩:=sX (k:=k) (v:=v) (n:=n) (h:=hh) (tail:=tail) es e8 er;rw[<- hd] at q1 q2 q3 q4 q5 q6 q7 q8 q9 q10;have hl8:ofB l8<9223372036854775808:=by rw[q10,xS e8] at n2;omega
 have hk:=k.toNat_lt;have hv:=v.toNat_lt;have hn:=n.toNat_lt;have hhh:=hh.toNat_lt;have hr:=px 4 r er;have hhigh:(ke d).length=hh.toNat:=by rw[ke,q9,q8,List.length_take,et];omega
 have htail:tail=ke d++(l.flatMap itB++t):=by rw[<- g2,ke,gz,q9,List.take_append_drop]
 generalize hP:(⟨(Br d % 2 ^ 63:Nat),cG d,fe d,gU d,ke d,l⟩:Pg)=P;have hbody:d.drop 4=dc P++t:=by rw[q2,<- hP,dc,lL];simp only[Int.toNat_natCast,q3,q4,q5,q6,hhigh,g1,q7];rw[Nat.mod_eq_of_lt (show ofB l8<2 ^ 63 by omega),eY 8 l8 e8,eY 4 r er,Ga,Ga,Ga,Ga,htail];simp only[List.append_assoc,List.cons_append,List.nil_append]
 have hbl:(dc P).length+t.length=508:=by have:=congrArg List.length hbody;rw[List.length_append,List.length_drop,hlen] at this;omega
 have htz:t=aH (508 - (dc P).length):=by rw[show 508 - (dc P).length=t.length by omega];exact n1
 have hsz:bt P<=512:=by have:=kQ P;omega
 have hok:pErr P=0:=by
  refine CR ⟨?_,?_,?_,hsz⟩
  ·rw[<- hP];simp only;omega
  ·rw[<- hP];simp only;omega
  ·rw[<- hP];simp only;omega
 refine⟨hok,?_,?_⟩
 ·rw[kU hok];have ht:de P=d.drop 4:=by rw[de,<- htz,hbody]
  simp only;rw[ht,hsum,List.take_append_drop]
 ·omega
def rdN(most:Int):Nat->Nat->Nat->Bs->Int×Bs×Int
 | 0,_,_,_=>(0,[],11)
 | _+1,_,_,[]=>(0,[],10)
 | f+1,k,n,b::t=>
  let n':=n+(b.toNat % 128)*128 ^ k
  bif decide (b=0/\0<k) then(0,[],11)
  else bif decide (128<=b.toNat) then rdN most f (k+1) n' t
  else bif decide (max most 0<(n':Int)) then(0,[],11)
  else(n',t,0)
def rdNum(most:Int)(s:Bs)(e:Int):Int×Bs×Int:=bif decide (e=0) then rdN most 9 0 0 s else(0,s,e)
def vy(s:Bs)(e:Int):Int:=bif decide (e=0)&&decide (0<s.length) then 12 else e
def Bw:Nat->Nat->Bs
 | 0,n=>[UInt8.ofNat n]
 | f+1,n=>bif Nat.blt 127 n then UInt8.ofNat (n % 128+128)::Bw f (n / 128) else[UInt8.ofNat n]
def qm(n:Nat):Bs:=Bw n n
theorem wZ:∀(f g n:Nat),n<=f->n<=g->Bw f n=Bw g n
 | 0,0,n,_,_=>rfl
 | 0,g+1,n,h,_=>by obtain rfl:n=0:=by omega
                   rfl
 | f+1,0,n,_,h=>by obtain rfl:n=0:=by omega
                   rfl
 | f+1,g+1,n,h1,h2=>by rw[Bw,Bw,wZ f g (n / 128) (by omega) (by omega)]
theorem dm{n:Nat}(h:n<=127):qm n=[UInt8.ofNat n]:=by
 have:Nat.blt 127 n=false:=by cases hb:Nat.blt 127 n with|false=>rfl|true=>rw[Nat.blt_eq] at hb;omega
 unfold qm;cases n with
 | zero=>rfl
 | succ n=>rw[Bw,this];rfl
theorem gX{n:Nat}(h:127<n):qm n=UInt8.ofNat (n % 128+128)::qm (n / 128):=by
 have:Nat.blt 127 n=true:=by rw[Nat.blt_eq];exact h
 unfold qm;cases n with
 | zero=>omega
 | succ n=>rw[Bw,this,cond_true,wZ n ((n+1) / 128) _ (by omega) (by omega)]
theorem sy:∀(f n:Nat),n<128 ^ f->(qm n).length<=max f 1
 | 0,n,h=>by rw[dm (by omega)];simp
 | f+1,n,h=>by
  by_cases hn:127<n
  ·rw[gX hn,List.length_cons];have:=sy f (n / 128) (by rw[Nat.div_lt_iff_lt_mul (by omega)];rw[Nat.pow_succ] at h;exact h);have hf:f≠0:=by rintro rfl;simp at h;omega
   omega
  ·rw[dm (by omega)];simp
theorem xa{n:Nat}(h:n<=9223372036854775807):1<=(qm n).length/\(qm n).length<=9:=by
 have:=sy 9 n (by omega);refine⟨?_,by omega⟩;by_cases hn:127<n
 ·rw[gX hn];simp
 ·rw[dm (by omega)];simp
theorem iI{n:Nat}(h:n<256):(UInt8.ofNat n).toNat=n:=by simp[Nat.mod_eq_of_lt h]
theorem yp(most:Int):∀(f k n m:Nat) (t:Bs),n<128 ^ f->0<f->(0<k->0<n)->(m+n*128 ^ k:Nat)<=max most 0->rdN most f k m (qm n++t)=(((m+n*128 ^ k:Nat):Int),t,0)
 | 0,k,n,m,t,h,h0,hk,hm=>by omega
 | f+1,k,n,m,t,h,h0,hk,hm=>by
  by_cases hn:127<n
  ·rw[gX hn,List.cons_append,rdN]
   have e1:(UInt8.ofNat (n % 128+128)).toNat=n % 128+128:=iI (by omega)
   have hne:decide (UInt8.ofNat (n % 128+128)=0/\0<k)=false:=by
    rw[decide_eq_false_iff_not]
    rintro⟨h,_⟩
    have:=congrArg UInt8.toNat h
    rw[e1] at this;simp at this
   simp only[e1,hne,cond_false,show decide (128<=n % 128+128)=true by simp,cond_true,Nat.add_mod_right,Nat.mod_mod]
   have hd:n / 128<128 ^ f:=by rw[Nat.div_lt_iff_lt_mul (by omega)];rw[Nat.pow_succ] at h;exact h
   have hf:0<f:=by
    rcases Nat.eq_zero_or_pos f with rfl|hf
    ·simp at h;omega
    ·exact hf
   have key:m+n % 128*128 ^ k+n / 128*128 ^ (k+1)=m+n*128 ^ k:=by
    have hdm:=Nat.div_add_mod n 128
    calc m+n % 128*128 ^ k+n / 128*128 ^ (k+1)=m+(128*(n / 128)+n % 128)*128 ^ k:=by rw[Nat.pow_succ,Nat.add_mul];simp only[Nat.mul_assoc,Nat.mul_comm,Nat.mul_left_comm];omega
     _=m+n*128 ^ k:=by rw[hdm]
   have:=yp most f (k+1) (n / 128) (m+n % 128*128 ^ k) t hd hf (λ_=>by omega) (by rw[key];exact hm)
   rw[this,key]
  ·rw[dm (by omega),List.cons_append,List.nil_append,rdN]
   have e1:(UInt8.ofNat n).toNat=n:=iI (by omega)
   have hne:decide (UInt8.ofNat n=0/\0<k)=false:=by
    rw[decide_eq_false_iff_not]
    rintro⟨h,h2⟩
    have:=congrArg UInt8.toNat h
    rw[e1] at this
    have:=hk h2
    simp_all
   have e2:n % 128=n:=Nat.mod_eq_of_lt (by omega)
   have e3:decide (max most 0<((m+n*128 ^ k:Nat):Int))=false:=by rw[decide_eq_false_iff_not];omega
   simp only[e1,hne,cond_false,show decide (128<=n)=false by rw[decide_eq_false_iff_not];omega,e2,e3]
theorem BL(most:Int):∀(f k n:Nat) (s:Bs),0<=(rdN most f k n s).1/\(rdN most f k n s).1<=max most 0/\(rdN most f k n s).2.1.length<=s.length
 | 0,k,n,s=>by simp[rdN];omega
 | f+1,k,n,[]=>by simp[rdN];omega
 | f+1,k,n,b::t=>by
  rw[rdN];cases h1:decide (b=0/\0<k) with
  | true=>simp only[cond_true];simp;omega
  | false=>
   simp only[cond_false];cases h2:decide (128<=b.toNat) with
   | true=>simp only[cond_true];have:=BL most f (k+1) (n+b.toNat % 128*128 ^ k) t;refine⟨this.1,this.2.1,by simp;omega⟩
   | false=>
    simp only[cond_false];cases h3:decide (max most 0<((n+b.toNat % 128*128 ^ k:Nat):Int)) with
    | true=>simp only[cond_true];simp;omega
    | false=>simp only[cond_false];rw[decide_eq_false_iff_not] at h3;refine⟨by omega,by omega,by simp⟩
theorem xT{n c k:Nat}(h:n<2 ^ k):n ||| (c*2 ^ k)=n+c*2 ^ k:=by have:=Nat.two_pow_add_eq_or_of_lt h c;rw[Nat.or_comm,Nat.mul_comm c,<- this];omega
theorem Ek(n:Nat):n &&& 127=n % 128:=Nat.and_two_pow_sub_one_eq_mod n 7
theorem GV{n:Nat}(h:n<256):n ||| 128=n % 128+128:=by
 have h1:n=128*(n / 128)+n % 128:=(Nat.div_add_mod n 128).symm;have h2:n / 128=0\/n / 128=1:=by omega
 rcases h2 with h2|h2
 ·have h3:n<2 ^ 7:=by omega
  have:=xT (c:=1) h3;simp at this;rw[this];omega
 ·have h4:=xT (n:=n % 128) (c:=1) (k:=7) (by omega);simp at h4;have h5:n=n % 128 ||| 128:=by rw[h4];omega
  rw[h5,Nat.or_assoc,Nat.or_self,<- h5];omega
theorem iW{s:Bs}{k:Nat}{b:UInt8}(h:s[k]?=some b)(i:IntKind):ixS (stv s) (.int i k)=some (.int .u8 b.toNat):=by
 have hl:=(List.getElem?_eq_some_iff.1 h).1;have hk:k<(str s).size:=by rw[aq];exact hl
 have h1:(str s)[k]?=some b:=by rw[getElem?_pos (str s) k hk];have h2:(str s)[k]=s[k]:=rfl;rw[h2];rw[List.getElem?_eq_getElem hl] at h;exact h
 simp[ixS,h1]
theorem Di(a k:Nat)(h:a*2 ^ k<=9223372036854775807)(hk:k<=64)(d:TypeDesc)(j:IntKind):ax d .shl (iv a) (.int j k)=some (iv ((a*2 ^ k:Nat):Int)):=by
 have h0:¬((k:Int)<0):=by omega
 have e:ax d .shl (iv a) (.int j k)=some (iv (IntKind.i64.wrap ((a:Int)*2 ^ (min (k:Int).toNat IntKind.i64.bits)))):=by rw[sf];unfold shV;rw[if_neg h0]
 rw[e];have e2:min (k:Int).toNat IntKind.i64.bits=k:=by show min (k:Int).toNat 64=k;omega
 rw[e2];have e3:(a:Int)*2 ^ k=((a*2 ^ k:Nat):Int):=by push_cast;rfl
 rw[e3,dJ h]
theorem yK(a k:Nat)(hk:k<=64)(d:TypeDesc)(j:IntKind):ax d .shr (iv a) (.int j k)=some (iv ((a / 2 ^ k:Nat):Int)):=by
 have h0:¬((k:Int)<0):=by omega
 have e:ax d .shr (iv a) (.int j k)=some (iv ((a:Int).fdiv (2 ^ (min (k:Int).toNat IntKind.i64.bits)))):=by rw[jz];unfold shV;rw[if_neg h0]
 rw[e];have e2:min (k:Int).toNat IntKind.i64.bits=k:=by show min (k:Int).toNat 64=k;omega
 rw[e2];congr 2;rw[Int.fdiv_eq_ediv_of_nonneg _ (by exact Int.pow_nonneg (by decide))];have:((2:Int) ^ k)=((2 ^ k:Nat):Int):=by push_cast;rfl
 rw[this];rfl
open Go.ChangeShapes Go.WideShapes Go.ChangeAt Go.RowKit
theorem trodAll_below{H:Type}{enc:TypeId×Value->H}{P:Program}(hl:laidOutB P=true){W W':World}(hb:Below W.heap.size W W'):
  ∀{ts:List TypeId} {vs:List Value} {ds:List (DataW H)} {ps:List MemPlace},(∀t∈ts,P.readableRec t=true/\t<P.types.size)->DataW.TrodAll enc P W 0 (λ_=>true) true ts vs ds ps->(∀x∈ps,x.block<W.heap.size) -> DataW.TrodAll enc P W' 0 (λb=>decide (b<W.heap.size)) true ts vs ds ps
 | [],[],[],_,_,h,_=>h
 | t::ts,v::vs,d::ds,ps,hr,h,hlt=>by obtain⟨p,q,h1,h2,rfl⟩:=h;exact⟨p,q,Below.trod hl (hr t (by simp)).1 (hr t (by simp)).2 h1 hb (λx hx=>hlt x (by simp[hx])),trodAll_below hl hb (λt ht=>hr t (by simp[ht])) h2 (λx hx=>hlt x (by simp[hx])),rfl⟩
 | [],_::_,_,_,_,h,_=>by cases h
 | [],[],_::_,_,_,h,_=>by cases h
 | _::_,[],_,_,_,h,_=>by cases h
 | _::_,_::_,[],_,_,h,_=>by cases h
theorem cl_true{P:Program}{g:FuncId}{args:Array Value}{w:World}(h:Cl P g args.toList w λv w'=>v=.bool true/\Fm (λ_=>False) w w'):
  Calls P g args w λe w'=>e=.returned (.bool true)/\Below w.heap.size w w':=by
 have:=h.out;unfold Cl0 at this;simp only[Array.toArray_toList] at this;refine this.mono λe w' he=>?_;cases e with
 | returned v=>exact⟨by rw[he.1],he.2.below⟩
 | panicked c=>exact he.elim
 | outgrown=>exact he.elim
structure LawIn {H : Type} (enc : TypeId × Value → H) (P : Program) (ts : List TypeId) (W : World) (args : List Value) (ds : List (DataW H)) (p : List MemPlace) : Prop where
 trod : DataW.TrodAll enc P W 0 (fun _ => true) true ts args ds p
 ok : ∃ base, ∀ (j : Nat) t v, ts[j]? = some t → args[j]? = some v → Value.okWide P W .any base t v
 sized : (DataW.weightsEach P ts ds).all (· ≤ reachBytes) = true
 lt : ∀ x ∈ p, x.block < W.heap.size
theorem law_lifted{H:Type}{enc:TypeId×Value->H}{C:Checked}{os:Os}{f:FuncId}{fn:Func}{s:ChangeSpec}{conds:List PathCond}{tb:TypeId}(own:ownKnob C.prog.godebug=none)(started:os.Started)(noInit:C.prog.inits.idxOf? f=none)(hfn:C.prog.funcs[f]?=some fn)
  (hlaid:laidOutB C.prog=true)
  (witness:∃(w:World) (tape:Tape) (i:Input),w.os=os/\(w.forCall tape i).Shaped C.prog/\i.vars=[]/\Input.okWide C.prog (w.forCall tape i) .any w.heap.size f i /\
   s.pre6 enc C.prog fn conds false (w.forCall tape i).memory i.args/\({}:Assume).holds C.prog (lone (Frame.enter C.prog f i.args .normal) [] (w.forCall tape i)))
  (hres:fn.resultTypes=#[tb]) (hbool:C.prog.underlying tb=some .bool) (hvars:s.vars=[])
  (hrow:∀t∈fn.params.toList,C.prog.readableRec t=true/\t<C.prog.types.size)
  (hs:∀ds:List (DataW H),ds.length=fn.params.toList.length->s.fn H ds={ results:=[.lit (.bool true)],args:=ds,vars:=[] })
  (law:∀(W:World) (args:List Value) (ds:List (DataW H)) (p:List MemPlace),LawIn enc C.prog fn.params.toList W args ds p->Cl C.prog f args W λv w'=>v=.bool true/\Fm (λ_=>False) W w'):
  ReturnsInHanded {} C os f .any (s.pre6 enc C.prog fn conds false) (s.post enc C.prog fn false true false false):=by
 refine returnsInHanded_of_change_sized own started noInit hfn witness ?_;intro W base args ds gs before hval hW hcnd hsz _;have hW':=hW;obtain⟨p,q,hA,hV,rfl,hfz,hnd⟩:=hW;rw[hvars] at hV;obtain⟨rfl,rfl⟩:=trodVars_none hV;have hty:s.plain.varTypes C.prog=[]:=by simp[DataSpec.varTypes,ChangeSpec.plain,hvars]
 simp only[hty,List.append_nil] at hsz;have hlt:∀x∈p,x.block<W.heap.size:=λx hx=>hW'.lt x (by simp[hx]);have hlen:=(trodAll_length hA).2;refine(cl_true (law W args.toList ds p ⟨hA,⟨base,λj t v hj hv=>hval j t v (by simpa using hj) (by simpa using hv)⟩,hsz,hlt⟩)).mono λe W' ⟨he,hb⟩=>?_;subst he;refine⟨_,rfl,ds,[],p++[],[],p,[],hW',?_,?_,?_,hb.frame _,λh=>by cases h⟩
 ·rw[List.append_nil,hs ds hlen,hres];exact trodAll_cons_mk (shut_bool hbool _) trodAll_mk0
 ·rw[List.append_nil,hs ds hlen];exact trodAll_below hlaid hb hrow hA hlt
 ·rw[List.append_nil,hs ds hlen,hvars];trivial
structure Vw (P : Program) (t : TypeId) (α : Type) where
 rel : World → List Value → α → Prop
 keep : ∀ {w w' : World} {cs : List Value} {x : α}, rel w cs x → Fm (fun _ => False) w w' → rel w' cs x
 len : ∀ {w : World} {cs : List Value} {x : α}, rel w cs x → cs.length = P.cellsOf t
 opens : ∀ {H : Type} {enc : TypeId × Value → H} {w : World} {base : Nat} {spare : Nat → Bool} {held : Bool} {fuel : Nat} {cs : List Value} {y : DataW H × List MemPlace},
  DataW.trod enc P w base spare held fuel t cs = some y → (∀ n ∈ y.1.weights P t, n ≤ reachBytes) → ∃ x, rel w cs x
def HB{P:Program}{t:TypeId}(k:IntKind)(ht:P.underlying t=some (.int k))(hc:P.cellsOf t=1):Vw P t Int where
 rel:=λ_ cs x=>cs=[.int k x]/\(Lit.int k x).wf=true
 keep:=λh _=>h
 len:=λh=>by rw[h.1,hc];rfl
 opens:=λh _=>by
  obtain⟨n,h1,h2,h3⟩:=DataW.trod_int ht h
  exact⟨n,h1,h3⟩
def Hl{P:Program}{t:TypeId}(ht:P.underlying t=some .bool)(hc:P.cellsOf t=1):Vw P t Bool where
 rel:=λ_ cs x=>cs=[.bool x]
 keep:=λh _=>h
 len:=λh=>by rw[h,hc];rfl
 opens:=λh _=>by
  obtain⟨n,h1,h2⟩:=DataW.trod_bool ht h
  exact⟨n,h1⟩
def IP{P:Program}{t:TypeId}(ht:P.underlying t=some .string)(hc:P.cellsOf t=1):Vw P t Bs where
 rel:=λ_ cs x=>cs=[stv x]/\x.length<=reachBytes
 keep:=λh _=>h
 len:=λh=>by rw[h.1,hc];rfl
 opens:=λh hw=>by
  obtain⟨s,h1,h2,_⟩:=DataW.trod_string ht h
  subst h2
  refine⟨s.data.toList,by rw[h1,stv,AU],hw _ (by simp[DataW.weights])⟩
theorem gq{H:Type}{P:Program}{e:TypeId}{d:DataW H}{n:Nat}(hn:n∈d.weights P e):∀{l:List (DataW H)},d∈l->n∈DataW.weightsAll P e l
 | [],h=>by cases h
 | x::l,h=>by
  rw[DataW.weightsAll,List.mem_append];rcases List.mem_cons.1 h with rfl|h
  ·exact .inl hn
  ·exact .inr (gq hn h)
structure SliceAs {P : Program} {e : TypeId} {α : Type} (A : Vw P e α) (w : World) (v : Value) (xs : List α) : Prop where
 ex : ∃ a cap, v = .slice a xs.length cap ∧ xs.length ≤ cap ∧ cap ≤ maxLen ∧ (a = none → xs.length = 0 ∧ cap = 0) ∧
  ∀ i x, xs[i]? = some x → ∃ ad cs', a = some ad ∧ A.rel w cs' x ∧ ∀ j, j < P.cellsOf e → w.cell? (ad.add (i * P.cellsOf e + j)) = cs'[j]?
 small : xs.length * P.bytesOf e ≤ reachBytes
theorem SliceAs.keep{P:Program}{e:TypeId}{α:Type}{A:Vw P e α}{w w':World}{v:Value}{xs:List α}(h:SliceAs A w v xs)(hf:Fm (λ_=>False) w w'):SliceAs A w' v xs:=by obtain⟨⟨a,cap,h1,h2,h3,h4,h5⟩,hs⟩:=h;refine⟨⟨a,cap,h1,h2,h3,h4,λi x hi=>?_⟩,hs⟩;obtain⟨ad,cs',g1,g2,g3⟩:=h5 i x hi;refine⟨ad,cs',g1,A.keep g2 hf,λj hj=>?_⟩;have:=g3 j hj;have hl:=A.len g2;rw[List.getElem?_eq_getElem (by omega)] at this ⊢;exact hf.j6 this id
theorem SliceAs.cells{P:Program}{e:TypeId}{α:Type}{A:Vw P e α}{w:World}{v:Value}{xs:List α}(h:SliceAs A w v xs)(hc:P.cellsOf e=1){f:α->Value}(hf:∀cs x,A.rel w cs x->cs=[f x]):CellsAt w v xs.length 1 (xs.map f):=by obtain⟨⟨a,cap,rfl,h1,h2,h3,h4⟩,_⟩:=h;refine⟨⟨a,cap,rfl,h1,h2,h3,λj u hj=>?_⟩,by simp⟩;rw[List.getElem?_map,Option.map_eq_some_iff] at hj;obtain⟨x,hx,rfl⟩:=hj;obtain⟨ad,cs',g1,g2,g3⟩:=h4 j x hx;refine⟨ad,g1,?_⟩;have:=g3 0 (by omega);rw[hc,Nat.mul_one,Nat.add_zero,hf _ _ g2] at this;exact this
def BT{P:Program}{t e:TypeId}{α:Type}(ht:P.underlying t=some (.slice e))(hc:P.cellsOf t=1)(A:Vw P e α):Vw P t (List α) where
 rel:=λw cs xs=>∃v,cs=[v]/\SliceAs A w v xs
 keep:=λ⟨v,h1,h2⟩ hf=>⟨v,h1,h2.keep hf⟩
 len:=λ⟨v,h1,_⟩=>by rw[h1,hc];rfl
 opens:=λ{H enc w base spare held fuel cs y} h hw=>by
  rcases Deep.open_slice ht h with⟨rfl,rfl⟩|⟨a,len,cap,m,n,D,Pl,rfl,_,hl,hcap,hm,rfl,hx⟩
  ·exact⟨[],_,rfl,⟨none,0,rfl,by simp,by simp[maxLen],λ_=>⟨rfl,rfl⟩,λi x hi=>by simp at hi⟩,by simp⟩
  ·have hlm:len<=m:=by rw[hm];split<;>omega
   have hwt:∀i,i<len->∀q∈(D i).weights P e,q<=reachBytes:=λi hi q hq=>hw q (by
    simp only[DataW.weights,ht,List.mem_cons,List.mem_append]
    exact .inr (.inl (gq hq (List.mem_map.2 ⟨i,by simpa using hi,rfl⟩))))
   have hsm:len*P.bytesOf e<=reachBytes:=by
    have:=hw ((((List.range len).map D).length+((List.range (m - len)).map λj=>D (len+j)).length)*P.bytesOf e) (by simp[DataW.weights,ht])
    refine Nat.le_trans (Nat.mul_le_mul_right _ ?_) this
    simp
   have key:∀i,i<len->∃x:α×List Value,A.rel w x.2 x.1/\∀j,j<P.cellsOf e->w.cell? (a.add (i*P.cellsOf e+j))=x.2[j]? := by
    intro i hi
    obtain⟨cs',h1,h2⟩:=hx i (by omega)
    obtain⟨_,hlen,hat⟩:=World.cells?_some h1
    obtain⟨x,hxr⟩:=A.opens h2 (hwt i hi)
    exact⟨(x,cs'),hxr,λj hj=>by rw[<- jQ,hat j hj]⟩
   refine⟨List.ofFn (n:=len) (λi=>(Classical.choose (key i i.2)).1),_,rfl,⟨some a,cap,by simp,by simpa using hl,hcap,λe=>by simp at e,λi x hi=>?_⟩,by simpa using hsm⟩
   rw[List.getElem?_ofFn] at hi
   split at hi
   ·rename_i hi1
    simp only[Option.some.injEq] at hi
    subst hi
    have hk:=Classical.choose_spec (key i hi1)
    exact⟨a,_,rfl,hk.1,hk.2⟩
   ·cases hi
structure Fv (P : Program) (fs : List Field) (o : Nat) (α : Type) where
 c : Nat
 rel : World → List Value → α → Prop
 keep : ∀ {w w' : World} {cs : List Value} {x : α}, rel w cs x → Fm (fun _ => False) w w' → rel w' cs x
 len : ∀ {w : World} {cs : List Value} {x : α}, rel w cs x → cs.length = c
 opens : ∀ {H : Type} {enc : TypeId × Value → H} {w : World} {base : Nat} {spare : Nat → Bool} {held : Bool} {n : Nat} {cs0 : List Value} {ys : List (DataW H × List MemPlace)},
  (∀ (i : Nat) (f : Field), fs[i]? = some f → DataW.trod enc P w base spare held n f.type ((cs0.drop f.offset).take (P.cellsOf f.type)) = ys[i]?) → ys.length = fs.length →
  (∀ (i : Nat) (f : Field) (y : DataW H × List MemPlace), fs[i]? = some f → ys[i]? = some y → ∀ n ∈ y.1.weights P f.type, n ≤ reachBytes) → ∃ x, rel w ((cs0.drop o).take c) x
def DF{P:Program}{t:TypeId}{fs:Array Field}{α:Type}(ht:P.underlying t=some (.struct fs))(F:Fv P fs.toList 0 α)(hc:P.cellsOf t=F.c):Vw P t α where
 rel:=F.rel
 keep:=F.keep
 len:=λh=>by rw[hc];exact F.len h
 opens:=λ{H enc w base spare held fuel cs y} h hw=>by
  obtain⟨xs,n,_,rfl,hl,hlen,hf⟩:=DataW.trod_struct ht h
  obtain⟨x,hx⟩:=F.opens (enc:=enc) (w:=w) (base:=base) (spare:=spare) (held:=held) (n:=n) (cs0:=cs) (ys:=xs) (λi f hi=>hf i f (by simpa using hi)) (by simpa using hlen) (λi f y hi hy q hq=>hw q (by
   simp only[DataW.weights,ht]
   exact DataW.weights_mem_each (j:=i) (t:=f.type) (d:=y.1) (by rw[List.getElem?_map,hi];rfl) (by rw[List.getElem?_map,hy];rfl) q hq))
  refine⟨x,?_⟩
  have:(cs.drop 0).take F.c=cs:=by rw[List.drop_zero,List.take_of_length_le (by omega)]
  rw[this] at hx;exact hx
theorem LawIn.arg{H:Type}{enc:TypeId×Value->H}{P:Program}{ts:List TypeId}{W:World}{args:List Value}{ds:List (DataW H)}{p:List MemPlace}(h:LawIn enc P ts W args ds p){j:Nat}{t:TypeId}(ht:ts[j]?=some t){α:Type}(A:Vw P t α):
  ∃v x base,args[j]?=some v/\A.rel W v.cells.toList x/\Value.okWide P W .any base t v:=by
 obtain⟨hA,⟨base,hval⟩,hsz,-⟩:=h;have hw:∀(j:Nat) (t:TypeId) (d:DataW H),ts[j]?=some t->ds[j]?=some d->∀n∈d.weights P t,n<=reachBytes:=λj t d h1 h2 n hn=>by have:=List.all_eq_true.1 hsz _ (DataW.weights_mem_each h1 h2 n hn);simpa using this
 have key:∀(ts:List TypeId) (vs:List Value) (ds:List (DataW H)) (p:List MemPlace),DataW.TrodAll enc P W 0 (λ_=>true) true ts vs ds p->∀(j:Nat) (t:TypeId),ts[j]?=some t->∃(v:Value) (d:DataW H) (q:List MemPlace),vs[j]?=some v/\ds[j]?=some d/\DataW.Trod enc P W 0 (λ_=>true) true t v d q:=by
  intro ts;induction ts with
  | nil=>intro vs ds p _ j t ht;simp at ht
  | cons t0 ts ih=>
   intro vs ds p hA j t ht;obtain⟨v0,vs0,d0,ds0,p0,q0,rfl,rfl,rfl,h0,r0⟩:=trodAll_cons hA;cases j with
   | zero=>simp at ht;subst ht;exact⟨v0,d0,p0,rfl,rfl,h0⟩
   | succ j=>obtain⟨v,d,q,h1,h2,h3⟩:=ih vs0 ds0 q0 r0 j t (by simpa using ht);exact⟨v,d,q,by simpa using h1,by simpa using h2,h3⟩
 obtain⟨v,d,q,h1,h2,fuel,h3⟩:=key ts args ds p hA j t ht;obtain⟨x,hx⟩:=A.opens h3 (hw j t d ht h2);exact⟨v,x,base,h1,hx,hval j t v ht h1⟩
theorem LawIn.len{H:Type}{enc:TypeId×Value->H}{P:Program}{ts:List TypeId}{W:World}{args:List Value}{ds:List (DataW H)}{p:List MemPlace}(h:LawIn enc P ts W args ds p):args.length=ts.length:=(trodAll_length h.trod).1
theorem arg_int{P:Program}{W:World}{base:Nat}{t:TypeId}{k:IntKind}{ht:P.underlying t=some (.int k)}{hc:P.cellsOf t=1}{v:Value}{x:Int}(h:(HB k ht hc).rel W v.cells.toList x)(hv:Value.okWide P W .any base t v):v=.int k x/\(Lit.int k x).wf=true:=by obtain⟨n,rfl⟩:=okWide_int ht hv;obtain⟨h1,h2⟩:=h;simp[Value.cells] at h1;exact⟨by rw[h1],h2⟩
theorem arg_bool{P:Program}{W:World}{base:Nat}{t:TypeId}{ht:P.underlying t=some .bool}{hc:P.cellsOf t=1}{v:Value}{x:Bool}(h:(Hl ht hc).rel W v.cells.toList x)(hv:Value.okWide P W .any base t v):v=.bool x:=by obtain⟨n,rfl⟩:=okWide_bool ht hv;have h1:(Value.bool n).cells.toList=[.bool x]:=h;simp[Value.cells] at h1;rw[h1]
theorem arg_str{P:Program}{W:World}{base:Nat}{t:TypeId}{ht:P.underlying t=some .string}{hc:P.cellsOf t=1}{v:Value}{x:Bs}(h:(IP ht hc).rel W v.cells.toList x)(hv:Value.okWide P W .any base t v):v=stv x/\x.length<=reachBytes:=by obtain⟨n,rfl⟩:=okWide_string ht hv;obtain⟨h1,h2⟩:=h;simp[Value.cells] at h1;exact⟨by rw[stv,h1],h2⟩
theorem arg_slice{P:Program}{W:World}{base:Nat}{t e:TypeId}{α:Type}{ht:P.underlying t=some (.slice e)}{hc:P.cellsOf t=1}{A:Vw P e α}{v:Value}{x:List α}(h:(BT ht hc A).rel W v.cells.toList x)(hv:Value.okWide P W .any base t v):SliceAs A W v x:=by obtain⟨a,n,c,rfl⟩:=okWide_slice ht hv;obtain⟨u,h1,h2⟩:=h;simp[Value.cells] at h1;rw[h1];exact h2
theorem arg_struct{P:Program}{W:World}{base:Nat}{t:TypeId}{fs:Array Field}{α:Type}{ht:P.underlying t=some (.struct fs)}{F:Fv P fs.toList 0 α}{hc:P.cellsOf t=F.c}{v:Value}{x:α}(h:(DF ht F hc).rel W v.cells.toList x)(hv:Value.okWide P W .any base t v):∃cs,v=.agg cs/\F.rel W cs.toList x:=by obtain⟨cs,rfl,_⟩:=okWide_struct ht hv;exact⟨cs,rfl,h⟩
theorem cT{w:World}{b:Nat}{cs:Array Value}{t:TypeId}{fz:Nat×Nat}(h:w.heap[b]?=some (.cells cs t fz)){o n:Nat}{us:Array Value}(hn:o+n<=cs.size)(he:(cs.toList.drop o).take n=us.toList):aM w ⟨b,o,none⟩ n=some (.agg us):=by
 have key:∀(k i:Nat),o+i+k<=cs.size->bE w ⟨b,o,none⟩ i k=some ((cs.toList.drop (o+i)).take k):=by
  intro k;induction k with
  | zero=>intro i hi;simp[bE]
  | succ k ih=>
   intro i hi;have hlt:o+i<cs.toList.length:=by rw[Array.length_toList];omega
   have hc:w.cell? ((⟨b,o,none⟩:Addr).add i)=some (cs.toList[o+i]):=by rw[aC,ab h];simp
   simp only[bE,hc,ih (i+1) (by omega),Option.map_some];rw[List.drop_eq_getElem_cons hlt,List.take_succ_cons];rfl
 unfold aM;rw[key n 0 (by omega)];simp only[Nat.add_zero,he,Option.map_some]
theorem pz{w:World}{e:TypeId}{l:List Value}(hl:l.length<=maxLen){base:Nat}(hb:base<=w.heap.size):(w.alloc (.cells l.toArray e)).ownsRow base e 1 (.slice (some ⟨w.heap.size,0,none⟩) l.length l.length) l.length l:=⟨by simp,.inr ⟨w.heap.size,l.length,l.toArray,rfl,hb,aA _ _,Nat.le_refl _,hl,by simp,by simp⟩⟩
theorem cD{P:Program}{t e:TypeId}{sz bytes:Nat}(E:ElemT P t e sz bytes)(hsz:0<sz){w:World}{base:Nat}{v u:Value}{n m:Nat}{xs news:List Value}(h:w.ownsRow base e sz v n xs)(hu:CellsAt w u m sz news)(h1:∀u∈news,u.oneCell'=true)(ty:TypeId)
  (h63:n+m<=maxLen) (hbytes:(n+m)*bytes<=140737488355328) (hbase:base<=w.heap.size):
  ∃v' w',(Builtin.append_ #[t,t] ty #[v,u]).run P w=.ok v' w'/\w'.ownsRow base e sz v' (n+m) (xs++news)/\Fm (λb=>v.ownBlock=some b) w w':=by
 obtain⟨i,z,hi,hz,hs,hb,hzs⟩:=E.info;obtain⟨⟨a,c,rfl,hn1,hn2,h3,h4⟩,hl⟩:=hu;cases a with
 | some ad=>obtain⟨v',w',hr,ho,hg,hn⟩:=run_append_own (P:=P) w base t ty e i z sz bytes E.sl hi hz hs hb hzs hsz v n xs h ad m c news hl (λj x hj=>by obtain⟨ad',e,hc⟩:=h4 j x hj;cases e;exact hc) h1 h63 hbytes hbase;exact⟨v',w',hr,ho,Fm.grown (S:=λb=>v.ownBlock=some b) hg (λk hk _=>hk)⟩
 | none=>obtain⟨rfl,rfl⟩:=h3 rfl;rw[Nat.zero_mul] at hl;obtain rfl:=List.eq_nil_of_length_eq_zero hl;exact⟨v,w,run_append_owned_none (P:=P) (w:=w) base t ty e i sz E.sl hi v n xs h,by simpa using h,Fm.refl _ _⟩
abbrev uv(n:Nat):Value:=Value.int .u32 n
abbrev qv(n:Nat):Value:=Value.int .u64 n
theorem bR(k j:IntKind)(n:Int):cvI k (.int j n)=some (.int k (k.wrap n)):=rfl
theorem jM{n:Nat}(h:n<2 ^ 32):IntKind.u32.wrap (n:Int)=n:=by unfold IntKind.wrap;simp[IntKind.bits,IntKind.signed];omega
theorem eM{n:Nat}(h:n<2 ^ 64):IntKind.u64.wrap (n:Int)=n:=by unfold IntKind.wrap;simp[IntKind.bits,IntKind.signed];omega
theorem qj(n:Nat):IntKind.u64.wrap (n:Int)=((n % 2 ^ 64:Nat):Int):=by unfold IntKind.wrap;simp[IntKind.bits,IntKind.signed]
theorem lF(n:Nat):IntKind.u8.wrap (n:Int)=((n % 256:Nat):Int):=by unfold IntKind.wrap;simp[IntKind.bits,IntKind.signed]
theorem nZ(d:TypeDesc){a b:Nat}(ha:a<2 ^ 32)(hb:b<2 ^ 32):ax d .xor (uv a) (uv b)=some (uv (a ^^^ b)):=by have:ax d .xor (uv a) (uv b)=some (.int .u32 (IntKind.u32.wrap ((BitVec.ofInt 32 (a:Int)) ^^^ (BitVec.ofInt 32 (b:Int))).toNat)):=rfl;rw[this,BitVec.toNat_xor,aY 32 a ha,aY 32 b hb,jM (Nat.xor_lt_two_pow ha hb)]
theorem vK(d:TypeDesc){a b:Nat}(ha:a<2 ^ 32)(hb:b<2 ^ 32):ax d .and (uv a) (uv b)=some (uv (a &&& b)):=by have:ax d .and (uv a) (uv b)=some (.int .u32 (IntKind.u32.wrap ((BitVec.ofInt 32 (a:Int)) &&& (BitVec.ofInt 32 (b:Int))).toNat)):=rfl;rw[this,BitVec.toNat_and,aY 32 a ha,aY 32 b hb,jM (Nat.lt_of_le_of_lt Nat.and_le_left ha)]
theorem CP{a:Nat}(ha:a<2 ^ 32):unV .xor (uv a)=some (uv (a ^^^ 4294967295)):=by have:unV .xor (uv a)=some (.int .u32 (IntKind.u32.wrap ((BitVec.ofInt 32 (4294967295:Nat)) ^^^ (BitVec.ofInt 32 (a:Int))).toNat)):=rfl;rw[this,BitVec.toNat_xor,aY 32 a ha,aY 32 4294967295 (by omega),Nat.xor_comm,jM (Nat.xor_lt_two_pow ha (by omega))]
theorem yL(d:TypeDesc){a k:Nat}(hk:k<=32)(j:IntKind){b:Int}(hb:b=(k:Int)):ax d .shr (uv a) (.int j b)=some (uv (a / 2 ^ k)):=by
 subst hb;have h0:¬((k:Int)<0):=by omega
 have e:ax d .shr (uv a) (.int j k)=some (.int .u32 ((a:Int).fdiv (2 ^ (min (k:Int).toNat IntKind.u32.bits)))):=by rw[jz];unfold shV;rw[if_neg h0]
 rw[e];have e2:min (k:Int).toNat IntKind.u32.bits=k:=by show min (k:Int).toNat 32=k;omega
 rw[e2];congr 2;rw[Int.fdiv_eq_ediv_of_nonneg _ (by exact Int.pow_nonneg (by decide))];have:((2:Int) ^ k)=((2 ^ k:Nat):Int):=by push_cast;rfl
 rw[this];rfl
theorem Dj(d:TypeDesc)(a:Nat)(j:IntKind):ax d .shl (qv a) (.int j 8)=some (qv (a*256 % 2 ^ 64)):=by have e:ax d .shl (qv a) (.int j 8)=some (.int .u64 (IntKind.u64.wrap ((a:Int)*2 ^ 8))):=rfl;rw[e,show(a:Int)*2 ^ 8=((a*256:Nat):Int) by omega,qj]
theorem EZ(d:TypeDesc){a b:Nat}(ha:a<2 ^ 64)(hb:b<256)(hz:a % 256=0):ax d .or (qv a) (qv b)=some (qv (a+b)):=by
 have:ax d .or (qv a) (qv b)=some (.int .u64 (IntKind.u64.wrap ((BitVec.ofInt 64 (a:Int)) ||| (BitVec.ofInt 64 (b:Int))).toNat)):=rfl;rw[this,BitVec.toNat_or,aY 64 a ha,aY 64 b (by omega)];have e:a ||| b=a+b:=by
  have:=Nat.two_pow_add_eq_or_of_lt (i:=8) (b:=b) (by omega) (a / 256);have h2:2 ^ 8*(a / 256)=a:=by omega
  rw[h2] at this;exact this.symm
 rw[e,eM (by omega)]
theorem DA(d:TypeDesc){a:Nat}(ha:a<2 ^ 64):ax d .andNot (qv a) (.int .u64 9223372036854775808)=some (qv (a % 2 ^ 63)):=by
 have:ax d .andNot (qv a) (.int .u64 9223372036854775808)=some (.int .u64 (IntKind.u64.wrap ((BitVec.ofInt 64 (a:Int)) &&& ~~~ (BitVec.ofInt 64 ((2 ^ 63:Nat):Int))).toNat)):=rfl;rw[this,BitVec.toNat_and,BitVec.toNat_not,aY 64 a ha,aY 64 (2 ^ 63) (by omega)];have e:a &&& (2 ^ 64 - 1 - 2 ^ 63)=a % 2 ^ 63:=by
  have:2 ^ 64 - 1 - 2 ^ 63=2 ^ 63 - 1:=by omega
  rw[this];exact Nat.and_two_pow_sub_one_eq_mod a 63
 rw[e,eM (by omega)]
theorem vR:∀(k n i:Nat),i<k->(beN k n)[i]?=some (UInt8.ofNat (n / 256 ^ (k - 1 - i) % 256))
 | 0,_,_,h=>by omega
 | k+1,n,i,h=>by
  rw[beN];by_cases hi:i<k
  ·rw[List.getElem?_append_left (by rw[aI];exact hi),vR k _ i hi];congr 3;rw[Nat.div_div_eq_div_mul,<- Nat.pow_succ'];congr 2;omega
  ·obtain rfl:i=k:=by omega
   rw[List.getElem?_append_right (by rw[aI];exact Nat.le_refl _),aI];simp
def eX(n w:Int):Bs:=bif decide (w<1)||decide (8<w)||decide (n<0) then[] else beN w.toNat n.toNat
theorem ep{n w:Nat}(h1:1<=w)(h8:w<=8):eX (n:Int) (w:Int)=beN w n:=by unfold eX;rw[show(decide ((w:Int)<1)||decide (8<(w:Int))||decide ((n:Int)<0))=false by simp;omega];simp
def BG(l:Bs):Nat:=l.foldl (λn b=>(n*256+b.toNat) % 2 ^ 64) 0
theorem xR(l:Bs):BG l=ofB l % 2 ^ 64:=by
 have key:∀(l:Bs) (a b:Nat),a=b % 2 ^ 64->l.foldl (λn b=>(n*256+b.toNat) % 2 ^ 64) a=l.foldl (λn b=>n*256+b.toNat) b % 2 ^ 64:=by
  intro l;induction l with
  | nil=>intro a b h;exact h
  | cons x l ih=>intro a b h;refine ih _ _ ?_;show(a*256+x.toNat) % 2 ^ 64=(b*256+x.toNat) % 2 ^ 64;omega
 exact key l 0 0 (by simp)
def ofN(l:Bs):Nat:=ofB l % 2 ^ 63
theorem dY{l:Bs}(h:l.length<=7):ofN l=ofB l:=by have:=px l.length l rfl;have h2:256 ^ l.length<=256 ^ 7:=Nat.pow_le_pow_right (by omega) h;unfold ofN;exact Nat.mod_eq_of_lt (by omega)
theorem lu(P:Program)(g o:Nat)(t:TypeId)(fz:Nat×Nat):∀(vs:List Value) (i:Nat) (cur:Array Value) (w:World),w.heap[g]?=some (.cells cur t fz)->(fz=(0,0)\/cur.size<=fz.1)->o+i+vs.length<=cur.size->(∀v∈vs,v.oneCell'=true) ->
  (storeCells ⟨g,o,none⟩ vs i).run P w=.ok () (w.setRow g (cur.toList.take (o+i)++vs++cur.toList.drop (o+i+vs.length)).toArray)
 | [],i,cur,w,hg,_,_,_=>by
  simp only[storeCells,List.append_nil,List.length_nil,Nat.add_zero,List.take_append_drop,Array.toArray_toList];rw[setRow_self w g cur t fz hg]
  rfl
 | v::lH,i,cur,w,hg,hfz,hl,h1=>by
  have hi:o+i<cur.size:=by simp at hl;omega
  have hadd:(⟨g,o,none⟩:Addr).add i=⟨g,o+i,none⟩:=by unfold Addr.add;split<;>simp_all
  have hcell:w.cell? ⟨g,o+i,none⟩=some cur[o+i]:=by simp[World.cell?,hg,hi]
  have hfro:w.frozen? ⟨g,o+i,none⟩=false:=by
   obtain⟨lo,hi'⟩:=fz;simp only[World.frozen?,hg,Bool.and_eq_false_iff,decide_eq_false_iff_not];rcases hfz with h|h
   ·cases h;right;omega
   ·left;simp only at h;omega
  have hst:(store ((⟨g,o,none⟩:Addr).add i) v).run P w=.ok () (w.setRow g (cur.setIfInBounds (o+i) v)):=by rw[hadd,run_store P w _ v _ (h1 v (by simp)),hcell];simp[hfro,setCell_eq_setRow w g (o+i) cur t fz v hg]
  have ih:=lu P g o t fz lH (i+1) (cur.setIfInBounds (o+i) v) (w.setRow g (cur.setIfInBounds (o+i) v)) (setRow_heap w g cur _ t _ hg) (by simpa using hfz) (by simp at hl ⊢;omega) (λx hx=>h1 x (by simp[hx]));simp only[storeCells,Sem.run_bind,hst,Result.andThen_ok,ih,setRow_setRow];congr 3;have e:=list_seg_step cur.toList (o+i) v lH (by simp at hl ⊢;omega);simpa[Array.toList_setIfInBounds,Nat.add_assoc] using e
def KpAt(w:World)(e:TypeId)(v:Value)(B:Bs):Prop:=(v=.slice none 0 0/\B=[])\/∃g cap cur,v=.slice (some ⟨g,0,none⟩) B.length cap/\w.heap[g]?=some (.cells cur e)/\B.length<=cap/\cap<=maxLen/\cap<=cur.size/\cur.toList.take B.length=bc B
theorem KpAt.nil(w:World)(e:TypeId):KpAt w e (.slice none 0 0) []:=.inl ⟨rfl,rfl⟩
theorem KpAt.aT{w:World}{base:Nat}{e:TypeId}{v:Value}{B:Bs}{n:Nat}(h:w.ownsRow base e 1 v n (bc B)):KpAt w e v B:=by
 have hl:=h.1;rw[bX,Nat.mul_one] at hl;subst hl;rcases h.2 with⟨rfl,h0⟩|⟨g,cap,cur,rfl,_,hg,hn,hc,hs,ht⟩
 ·exact .inl ⟨rfl,List.eq_nil_of_length_eq_zero h0⟩
 ·rw[Nat.mul_one] at hs ht;exact .inr ⟨g,cap,cur,rfl,hg,hn,hc,by omega,ht⟩
theorem KpAt.keep{S:Nat->Prop}{w w':World}{e:TypeId}{v:Value}{B:Bs}(h:KpAt w e v B)(hf:Fm S w w')(hs:∀y,v.ownBlock=some y->¬S y):KpAt w' e v B:=by
 rcases h with h|⟨g,cap,cur,rfl,hg,h⟩
 ·exact .inl h
 ·exact .inr ⟨g,cap,cur,rfl,hf.heap hg (hs g rfl),h⟩
theorem KpAt.lt{w:World}{e:TypeId}{v:Value}{B:Bs}(h:KpAt w e v B):∀y,v.ownBlock=some y->y<w.heap.size:=by
 intro y hy;rcases h with⟨rfl,_⟩|⟨g,cap,cur,rfl,hg,h⟩
 ·cases hy
 ·cases hy;exact aj hg
theorem KpAt.one{w:World}{e:TypeId}{v:Value}{B:Bs}(h:KpAt w e v B):v.oneCell'=true:=by rcases h with⟨rfl,_⟩|⟨g,cap,cur,rfl,hg,h⟩<;>rfl
theorem KpAt.lenV{w:World}{e:TypeId}{v:Value}{B:Bs}(h:KpAt w e v B):lenV v=some (.int .i64 B.length):=by rcases h with⟨rfl,rfl⟩|⟨g,cap,cur,rfl,hg,h⟩<;>rfl
theorem KpAt.B1{w:World}{e t:TypeId}{v:Value}{B:Bs}(h:KpAt w e v B){x:Nat}{cs:Array Value}{fz:Nat×Nat}(hx:w.heap[x]?=some (.cells cs t fz))(hne:e≠t):v.ownBlock≠some x:=by
 intro hk;rcases h with⟨rfl,_⟩|⟨g,cap,cur,rfl,hg,h⟩
 ·cases hk
 ·cases hk;rw[hx] at hg;cases hg;exact hne rfl
theorem KpAt.C3{w:World}{e:TypeId}{v:Value}{B:Bs}(h:KpAt w e v B){x:Nat}{es:Array MapEntry}{c:Nat}(hx:w.heap[x]?=some (.map es c)):v.ownBlock≠some x:=by
 intro hk;rcases h with⟨rfl,_⟩|⟨g,cap,cur,rfl,hg,h⟩
 ·cases hk
 ·cases hk;rw[hx] at hg;cases hg
theorem KpAt.app{P:Program}{t e s:TypeId}(B:ByteT P t e s){w:World}{v:Value}{L:Bs}(h:KpAt w e v L)(x:Bs)(ty:TypeId)(hl:L.length+x.length<=100000000000):
  ∃v' w',(Builtin.append_ #[t,s] ty #[v,stv x]).run P w=.ok v' w'/\KpAt w' e v' (L++x)/\Fm (λy=>v.ownBlock=some y) w w'/\(∀y,v'.ownBlock=some y->v.ownBlock=some y\/w.heap.size<=y):=by
 rcases h with⟨rfl,rfl⟩|⟨g,cap,cur,rfl,hg,hnc,hcm,hcs,htake⟩
 ·obtain⟨v',w',hr,ho,hf,_⟩:=gu B (n:=0) (l:=[]) (World.ownsRow_nil w w.heap.size e 1) x ty (by simp at hl;omega) (Nat.le_refl _);refine⟨v',w',hr,KpAt.aT ho,hf,λy hy=>.inr ?_⟩;rcases ho.2 with⟨rfl,_⟩|⟨g,cap,cur,rfl,hb,_⟩
  ·cases hy
  ·cases hy;exact hb
 obtain⟨i,h1,h2,h3,h4⟩:=B.info;have hsx:Lib.strCells (str x)=bc x:=rfl;have hxz:(str x).size=x.length:=aq x;by_cases hroom:L.length+x.length<=cap
 ·have hf:=Lib.run_firstCells_string (P:=P) w 1 (str x);rw[hsx,hxz] at hf;have hst:=lu P g L.length e (0,0) (bc x) 0 cur w hg (.inl rfl) (by rw[bX];omega) (En x);simp only[Nat.add_zero,bX] at hst;have hr:(Builtin.append_ #[t,s] ty #[.slice (some ⟨g,0,none⟩) L.length cap,stv x]).run P w=.ok (.slice (some ⟨g,0,none⟩) (L.length+x.length) cap) (w.setRow g (cur.toList.take L.length++bc x++cur.toList.drop (L.length+x.length)).toArray):=by simp[Builtin.append_,an B.sl,an B.st,sizeOf,typeInfo,h1,h3,Builtin.lenOf,aq,hroom,hf,Addr.add_lit,hst]
  refine⟨_,_,hr,.inr ⟨g,cap,_,by rw[List.length_append],setRow_heap w g cur _ e _ hg,by rw[List.length_append];exact hroom,hcm,?_,?_⟩,⟨rfl,rfl,rfl,by simp,λk _ hk=>setRow_other w g k _ (λe=>hk (by rw[e];rfl))⟩,λy hy=>.inl hy⟩
  ·simp only[List.size_toArray,List.length_append,List.length_take,List.length_drop,Array.length_toList,bX];omega
  ·rw[htake,<- dt,List.take_append_of_le_length (by rw[bX];exact Nat.le_refl _),List.take_of_length_le (by rw[bX];exact Nat.le_refl _)]
 ·have holds:∀j u,(bc L)[j]?=some u->w.cell? ((⟨g,0,none⟩:Addr).add j)=some u:=by
   intro j u hj;rw[<- htake,List.getElem?_take] at hj;split at hj
   ·rw[Addr.add_lit,ab hg];simpa using hj
   ·cases hj
  have hr:=Lib.run_append_grow_string (P:=P) w t s ty e i (.int .u8 0) B.sl B.st h1 h2 ⟨g,0,none⟩ L.length cap (bc L) (by rw[bX,h3,Nat.mul_one]) holds (str x) (by rw[hxz];omega) (by rw[hxz];omega) (by rw[hxz,h4];exact growslice_fits (by omega) (by omega));rw[hxz,hsx] at hr;have hge:=grownCap_ge w (L.length+x.length) cap e;have hcm':grownCap w (L.length+x.length) cap e<=maxLen:=grownCap_le_maxLen w (L.length+x.length) cap e (by unfold maxLen;omega);refine⟨_,_,hr,.inr ⟨w.heap.size,_,_,by rw[List.length_append],aA w.drew _,by rw[List.length_append];exact hge,hcm',?_,?_⟩,⟨rfl,rfl,rfl,by simp,λk hk _=>(Fm.alloc (λ_=>False) w.drew _).block k hk id⟩,λy hy=>.inr (by cases hy;exact Nat.le_refl _)⟩
  ·have hz1:(Value.int .u8 0).cells.size=1:=rfl;simp only[Array.size_append,List.size_toArray,size_zeroCells,hz1,bX];omega
  ·simp only[Array.toList_append,List.append_assoc];rw[<- List.append_assoc,<- dt,List.take_append_of_le_length (by rw[bX];exact Nat.le_refl _),List.take_of_length_le (by rw[bX];exact Nat.le_refl _)]
theorem KpAt.cut{P:Program}{t e s:TypeId}(B:ByteT P t e s){w:World}{v:Value}{L:Bs}{e':TypeId}(h:KpAt w e' v L){i j:Nat}(hij:i<=j)(hj:j<=L.length):
  ∃u,slV 1 v (some (.int .i64 i)) (some (.int .i64 j)) none=some u/\(convert t s u).run P w=.ok (stv ((L.drop i).take (j - i))) w:=by
 rcases h with⟨rfl,rfl⟩|⟨g,cap,cur,rfl,hg,hnc,hcm,hcs,htake⟩
 ·simp at hj;subst hj;obtain rfl:i=0:=by omega
  exact⟨.slice none 0 0,rfl,nq B w 0 0⟩
 ·obtain⟨o',h1,h2,h3,_⟩:=ti (g:=g) (o:=0) (n:=L.length) (c:=cap) hij (by omega) .i64 .i64;refine⟨_,h1,?_⟩;have hx:BX w g e' L:=⟨cur,_,hg,htake,by omega,.inl rfl⟩;by_cases hi:i<cap
  ·rw[h2 hi,Nat.zero_add];exact hx.conv B (by omega) _
  ·have:j - i=0:=by omega
   rw[this];have:=hx.conv (P:=P) B (o:=o') (n:=0) (by omega) (cap - i)
   rw[List.take_zero] at this ⊢;exact this
end Go.Al
namespace Go.Proofs.YtmdmffeoehfjgaaGreatDoor
open Go.Al Go.Proofs Go.Proofs.Tryz
variable{k:KV}{w:World}{a b c d e f g i:Value}
theorem mixed:prog.follows .mixedOrders=true:=by kernel_rfl
theorem cE{f:FuncId}{fn:Func}{l:List Value}{w:World}{k:KV}{T:Prop}(hf:prog.funcs[f]?=some fn)(h:T)(lv:Nat->List Nat:=L0)(jn:Nat->Option (List Nat):=J0)(hb:fn.body.isSome=true:=by kernel_rfl)(hn:Nat.ble l.length fn.ntmps=true:=by kernel_rfl)(he:K KD prog fn.ntmps lv jn (fn.body.getD .skip) (Dd prog fn k) (og l) w=T:=by kernel_rfl):Cl prog f l w k:=cE0 rT mixed lv jn hf hb hn he h
theorem c17 (h:
Bf (.pointer 101) .eql a np
 (k (.tuple #[]) w)
 (Cl prog 26 [a] w λt2 w3=>
 Pu (lenV t2) λt4=>
 ∃(I5:LP) (m6:LN),I5 [(iv 0)] w3 /\
 ∀(g54:Fr) (w53:World),∀t12:Value,I5 [t12] w53 ->
 (BI .lss t12 t4
 (LI 1 t2 t12 w53 λt57 w58=>
 Jn (λv76 w75=>∀g77:Fr,∃f60:Value,v76=[f60] /\
 (Pu (bI .quo f60 (iv 3)) λt78=>
 Pu (bI .rem t78 (iv 65)) λt79=>
 RunS prog (Instr.build 97 #[(0,(iv 0)),(1,(iv 64)),(2,t79)]) w75 λt80 w81=>
 Pu (bI .rem f60 (iv 3)) λt82=>
 Pu (ixG false 3 1 t80 t82) λt83=>
 ∃C84:World->Prop,C84 w81.drew /\
 (Pu (bB a) λt85=>
 Pu (faV 1 t85) λt86=>
 ∃t87,(∀w88,C84 w88->Ld w88 t86 λt89 w90=>
 t89=t87/\w90=w88) /\
 (∃t91,(∀w92,C84 w92->RunS prog (Instr.lookup 99 t87 t57 false) w92 λt93 w94=>
 t93=t91/\w94=w92) /\
 (Pu (slS t91 (some t83) none) λt95=>
 Cl prog 27 [a,t57] w81.drew λt96 w97=>
 C84 w97 /\
 (Pu (slV 1 t96 (some t83) none none) λt98=>
 RunS prog (Builtin.copy_ #[57,9] 3 #[t98,t95]) w97 λt99 w100=>
 Pu (bI .add t12 (iv 1)) λt101=>
 I5 [t101] w100/\m6 [t101] w100<m6 [t12] w53))))))
 (λj59=>
 Pu (lenV b) λt102=>
 BI .lss t12 t102
 (LI 1 b t12 w58.drew λt105 w106=>
 w106=w58.drew /\
 LI 1 b t12 w58.drew λt108 w109=>
 w109=w58.drew /\
 Pu (unV .xor t108) λt110=>
 Pu (az aP [t105,t110]) λt111=>
 j59 [t111] w58.drew)
 (j59 [(iv 0)] w58)))
 (LF 1 a w53 λt114 w115=>
 RunS prog (Builtin.clear_ #[99] 0 #[t114]) w115 λu116 w117=>
 SF 3 1 a w117 (.bool false) λu120 w121=>
 SF 2 1 a w121 (iv 0) λu124 w125=>
 k (.tuple #[]) w125)))):Cl prog 17 [a,b] w k:=cE func17 h (lv:=(λj=>bif Nat.beq j 2 then[13] else[])) (jn:=(λj=>bif Nat.beq j 7 then some [6] else none))
theorem c24 (h:
Pu (bI .lss a (iv 1)) λt1=>
 GdG (isB false t1) (λkk=>Pu (bI .gtr a (iv 65536)) λt2=>kk t2 w) w λ_ t3 w4=>
 Pq t1 (.bool true) t3
 (k (.tuple #[np,(iv 1)]) w4)
 (Pu (bI .mul a (iv 64)) λt6=>
 RunS prog (Instr.makeSlice 57 t6 t6) w4 λt7 w8=>
 RunS prog (Instr.makeMap 99 none) w8 λt9 w10=>
 RunS prog (Instr.build 101 #[(0,t7),(1,t9)]) w10 λt11 w12=>
 New (Value.cells t11) 101 w12 λt13 w14=>
 k (.tuple #[t13,(iv 0)]) w14)):Cl prog 24 [a] w k:=cE func24 h
theorem c26 (h:
Bf (.pointer 101) .eql a np
 (k nl w)
 (LF 1 a w λt4 w5=>
 Cl prog 74 [t4] w5 λt6 w7=>
 Cl prog 73 [t6] w7 λt8 w9=>
 k t8 w9)):Cl prog 26 [a] w k:=cE func26 h
theorem c27 (h:
LF 0 a w λt3 w4=>
 Pu (bI .mul b (iv 64)) λt5=>
 Pu (bI .add b (iv 1)) λt6=>
 Pu (bI .mul t6 (iv 64)) λt7=>
 Pu (slV 1 t3 (some t5) (some t7) none) λt8=>
 k t8 w4):Cl prog 27 [a,b] w k:=cE func27 h
theorem c43 (h:
Bf (.pointer 207) .eql a np
 (k (iv 2) w)
 (Pu (bI .lss b (iv 0)) λt2=>
 GdG (isB false t2) (λkk=>LF 7 a w λt5 w6=>Pu (bI .gtr b t5) λt7=>kk t7 w6) w λ_ t8 w9=>
 Pq t2 (.bool true) t8
 (k (iv 1) w9)
 (LF 7 a w9 λt13 w14=>
 Pu (bI .sub t13 b) λt15=>
 SF 7 1 a w14 t15 λu18 w19=>
 k (iv 0) w19))):Cl prog 43 [a,b] w k:=cE func43 h
theorem c48 (h:
Bf (.pointer 207) .eql a np
 (k (iv 2) w)
 (BI .lss b (iv 0)
 (k (iv 1) w)
 (Cl prog 124 [a] w λt3 w4=>
 BI .gtr b t3
 (k (iv 50) w4)
 (LF 7 a w4 λt8 w9=>
 Pu (bI .add t8 b) λt10=>
 SF 7 1 a w9 t10 λu13 w14=>
 k (iv 0) w14)))):Cl prog 48 [a,b] w k:=cE func48 h
theorem c59 (h:
Bf (.pointer 101) .eql a np
 (k (iv 0) w)
 (LF 0 a w λt4 w5=>
 Pu (lenV t4) λt6=>
 Pu (bI .quo t6 (iv 64)) λt7=>
 k t7 w5)):Cl prog 59 [a] w k:=cE func59 h
theorem c62 (h:
Cl prog 145 [a] w λt1 w2=>
 BI .neq t1 (iv 0)
 (k t1 w2)
 (Pu (bo c) λt4=>
 Pu (bI .rem t4 (iv 64)) λt5=>
 Pu (bI .neq t5 (iv 0)) λt6=>
 GdG (isB false t6) (λkk=>Pu (bo c) λt7=>Pu (bI .quo t7 (iv 64)) λt8=>Cl prog 146 [a,b,t8] w2 λt9 w10=>Pu (unV .not t9) λt11=>kk t11 w10) w2 λ_ t12 w13=>
 Pq t6 (.bool true) t12
 (k (iv 20) w13)
 (∃(I15:LP) (m16:LN),I15 [b,c] w13 /\
 ∀(g58:Fr) (w57:World),∀a18 d19:Value,I15 [a18,d19] w57 ->
 (Pu (ax .string .neq d19 es) λt59=>
 IfB t59
 (Jn (λv84 w83=>∀g85:Fr,v84=[] /\
 (Pu (slS d19 none (some (iv 64))) λt86=>
 Cl prog 27 [a,a18] w83.drew λt87 w88=>
 RunS prog (Builtin.copy_ #[57,9] 3 #[t87,t86]) w88 λt89 w90=>
 Pu (slS d19 (some (iv 64)) none) λt91=>
 Cl prog 147 [a] w90 λt92 w93=>
 IfB t92
 (k (iv 5) w93)
 (Pu (bI .add a18 (iv 1)) λt94=>
 I15 [t94,t91] w93/\m16 [t94,t91] w93<m16 [a18,d19] w57)))
 (λj60=>
 LF 1 a w57 λt97 w98=>
 RunS prog (Instr.lookup 99 t97 a18 true) w98 λt99 w100=>
 X2 t99 λt101 t102=>
 Pu (unV .not t102) λt103=>
 IfB t103
 (∃C104:World->Prop,C104 w100.drew /\
 (Pu (bB a) λt105=>
 Pu (faV 1 t105) λt106=>
 ∃t107,(∀w108,C104 w108->Ld w108 t106 λt109 w110=>
 t109=t107/\w110=w108) /\
 (Cl prog 27 [a,a18] w100.drew λt111 w112=>
 C104 w112 /\
 (RunS prog (convert 57 9 t111) w112 λt113 w114=>
 w114=w112 /\
 RunU prog (Instr.mapUpdate 99 t107 a18 t113) w112 λu115 w116=>
 j60 [] w116))))
 (j60 [] w100)))
 (k (iv 0) w57))))):Cl prog 62 [a,b,c] w k:=cE func62 h (lv:=(λj=>bif Nat.beq j 6 then[1,2] else[])) (jn:=(λj=>bif Nat.beq j 11 then some [] else none))
theorem c66 (h:
New (Value.cells a) 68 w λp1 w2=>
 Jn (λv26 w25=>∀g27:Fr,∃t4:Value,v26=[t4] /\
 (IfB t4
 (k (.tuple #[es,(iv 4)]) w25)
 (Jn (λv38 w37=>∀g39:Fr,∃t29:Value,v38=[t29] /\
 (IfB t29
 (k (.tuple #[es,(iv 3)]) w37)
 (New #[np,nl] 253 w37 λb40 w41=>
 ∃C42:World->Prop,C42 w41.drew /\
 (LA 0 p1 w41.drew λt44 w45=>
 w45=w41.drew /\
 Pu (faV 1 p1) λt46=>
 ∃t47,(∀w48,C42 w48->Ld w48 t46 λt49 w50=>
 t49=t47/\w50=w48) /\
 (Pu (faV 2 p1) λt51=>
 ∃t52,(∀w53,C42 w53->Ld w53 t51 λt54 w55=>
 t54=t52/\w55=w53) /\
 (Pu (faV 3 p1) λt56=>
 ∃t57,(∀w58,C42 w58->Ld w58 t56 λt59 w60=>
 t59=t57/\w60=w58) /\
 (Cl prog 159 [t44,(iv 8)] w41.drew λt61 w62=>
 C42 w62 /\
 (Cl prog 159 [t47,(iv 1)] w62 λt63 w64=>
 C42 w64 /\
 (Pu (ax .string .add t61 t63) λt65=>
 Cl prog 159 [t52,(iv 1)] w64 λt66 w67=>
 C42 w67 /\
 (Pu (ax .string .add t65 t66) λt68=>
 Cl prog 159 [t57,(iv 4)] w67 λt69 w70=>
 Pu (ax .string .add t68 t69) λt71=>
 Cl prog 151 [b40,t71] w70 λt72 w73=>
 ∃C74:World->Prop,C74 w73.drew /\
 (LA 5 p1 w73.drew λt76 w77=>
 w77=w73.drew /\
 Pu (lenV t76) λt78=>
 Pu (faV 4 p1) λt79=>
 ∃t80,(∀w81,C74 w81->Ld w81 t79 λt82 w83=>
 t82=t80/\w83=w81) /\
 (Pu (bo t80) λt84=>
 Pu (faV 4 p1) λt85=>
 ∃t86,(∀w87,C74 w87->Ld w87 t85 λt88 w89=>
 t88=t86/\w89=w87) /\
 (Cl prog 159 [t78,(iv 1)] w73.drew λt90 w91=>
 C74 w91 /\
 (Cl prog 159 [t84,(iv 1)] w91 λt92 w93=>
 C74 w93 /\
 (Pu (ax .string .add t90 t92) λt94=>
 Pu (ax .string .add t94 t86) λt95=>
 Cl prog 151 [b40,t95] w93 λt96 w97=>
 LA 5 p1 w97 λt99 w100=>
 Pu (lenV t99) λt101=>
 ∃(I102:LP) (m103:LN),I102 [(iv 0)] w100 /\
 ∀(g118:Fr) (w117:World),∀t106:Value,I102 [t106] w117 ->
 (BI .lss t106 t101
 (LI 1 t99 t106 w117 λt121 w122=>
 Pu (bo t121) λt123=>
 Cl prog 159 [t123,(iv 2)] w122 λt124 w125=>
 Pu (ax .string .add t124 t121) λt126=>
 Cl prog 151 [b40,t126] w125 λt127 w128=>
 Pu (bI .add t106 (iv 1)) λt129=>
 I102 [t129] w128/\m103 [t129] w128<m103 [t106] w117)
 (Cl prog 152 [b40] w117 λt130 w131=>
 Pu (bI .sub (iv 508) t130) λt132=>
 Cl prog 63 [(Value.string (ByteArray.mk #[0])),t132] w131 λt133 w134=>
 Cl prog 151 [b40,t133] w134 λt135 w136=>
 Cl prog 153 [b40] w136 λt137 w138=>
 Cl prog 160 [t137] w138 λt139 w140=>
 Pu (cvI IntKind.i64 t139) λt141=>
 Cl prog 159 [t141,(iv 4)] w140 λt142 w143=>
 Cl prog 153 [b40] w143 λt144 w145=>
 Pu (ax .string .add t142 t144) λt146=>
 k (.tuple #[t146,(iv 0)]) w145)))))))))))))))))
 (λj28=>
 LA 4 p1 w25 λt148 w149=>
 Pu (bo t148) λt150=>
 Pu (bI .gtr t150 (iv 255)) λt151=>
 IfB t151
 (j28 [t151] w149)
 (LdN 6 w149 p1 λt152 w153=>
 Cl prog 158 [t152] w153 λt154 w155=>
 Pu (unV .not t154) λt156=>
 j28 [t156] w155)))))
 (λj3=>
 LA 0 p1 w2 λt158 w159=>
 LA 2 p1 w159 λt161 w162=>
 LA 3 p1 w162 λt164 w165=>
 Pu (az aQ [t158,t161,t164]) λt166=>
 Pu (bI .lss t166 (iv 0)) λt167=>
 IfB t167
 (j3 [t167] w165)
 (LA 1 p1 w165 λt169 w170=>
 Pu (bI .lss t169 (iv 1)) λt171=>
 IfB t171
 (j3 [t171] w170)
 (LA 1 p1 w170 λt173 w174=>
 Pu (bI .gtr t173 (iv 3)) λt175=>
 IfB t175
 (j3 [t175] w174)
 (LA 2 p1 w174 λt177 w178=>
 Pu (bI .gtr t177 (iv 255)) λt179=>
 IfB t179
 (j3 [t179] w178)
 (LA 3 p1 w178 λt181 w182=>
 Pu (bI .gtr t181 (iv 4294967295)) λt183=>
 j3 [t183] w182)))))):Cl prog 66 [a] w k:=cE func66 h (lv:=(λj=>bif Nat.beq j 14 then[68] else[])) (jn:=(λj=>bif Nat.beq j 6 then some [7] else bif Nat.beq j 9 then some [28] else none))
theorem c69 (h:
Cl prog 161 [a,b,c] w λt1 w2=>
 Pu (unV .not t1) λt3=>
 IfB t3
 (k (.tuple #[np,(iv 1)]) w2)
 (Pu (bI .mul c (iv 64)) λt4=>
 Cl prog 63 [(Value.string (ByteArray.mk #[0])),t4] w2 λt5 w6=>
 Cl prog 62 [a,b,t5] w6 λt7 w8=>
 BI .neq t7 (iv 0)
 (k (.tuple #[np,t7]) w8)
 (Cl prog 70 [a] w8 λt10 w11=>
 BI .neq t10 (iv 0)
 (k (.tuple #[np,t10]) w11)
 (RunS prog (Instr.makeMap 205 none) w11 λt13 w14=>
 RunS prog (Instr.build 207 #[(0,a),(1,b),(2,c),(3,(iv 1)),(5,(iv 1)),(6,(iv 1)),(8,t13)]) w14 λt15 w16=>
 New (Value.cells t15) 207 w16 λt17 w18=>
 k (.tuple #[t17,(iv 0)]) w18)))):Cl prog 69 [a,b,c] w k:=cE func69 h
theorem c70 (h:
Cl prog 145 [a] w λt1 w2=>
 BI .neq t1 (iv 0)
 (k t1 w2)
 (Cl prog 147 [a] w2 λt4 w5=>
 IfB t4
 (k (iv 5) w5)
 (LF 1 a w5 λt8 w9=>
 RunS prog (Builtin.clear_ #[99] 0 #[t8]) w9 λu10 w11=>
 k (iv 0) w11))):Cl prog 70 [a] w k:=cE func70 h
theorem c75 (h:
Pu (ax (.pointer 101) .neq a np) λt1=>
 GdG (isB true t1) (λkk=>LF 3 a w kk) w λ_ t4 w5=>
 Pu (aD t1 t4 (.bool false)) λt6=>
 k t6 w5):Cl prog 75 [a] w k:=cE func75 h
theorem c76 (h:
Cl prog 145 [a] w λt1 w2=>
 BI .neq t1 (iv 0)
 (k (.tuple #[es,t1]) w2)
 (Cl prog 146 [a,b,c] w2 λt4 w5=>
 Pu (unV .not t4) λt6=>
 IfB t6
 (k (.tuple #[es,(iv 20)]) w5)
 (LF 0 a w5 λt9 w10=>
 Pu (bI .mul b (iv 64)) λt11=>
 Pu (bI .add b c) λt12=>
 Pu (bI .mul t12 (iv 64)) λt13=>
 Pu (slV 1 t9 (some t11) (some t13) none) λt14=>
 RunS prog (convert 57 9 t14) w10 λt15 w16=>
 k (.tuple #[t15,(iv 0)]) w16))):Cl prog 76 [a,b,c] w k:=cE func76 h
theorem c78 (h:
Cl prog 161 [a,b,c] w λt1 w2=>
 Pu (unV .not t1) λt3=>
 GdG (isB false t3) (λkk=>Pu (bI .lss d (iv 1)) λt4=>kk t4 w2) w2 λ_ t5 w6=>
 Pq t3 (.bool true) t5
 (k (.tuple #[np,nl,(iv 1)]) w6)
 (Cl prog 75 [a] w6 λt8 w9=>
 IfB t8
 (k (.tuple #[np,nl,(iv 5)]) w9)
 (Cl prog 167 [d] w9 λt10 w11=>
 Cl prog 166 [t10] w11 λt12 w13=>
 RunS prog (Instr.makeMap 205 none) w13 λt14 w15=>
 RunS prog (Instr.build 207 #[(0,a),(1,b),(2,c),(3,t12),(5,d),(8,t14)]) w15 λt16 w17=>
 New (Value.cells t16) 207 w17 λt18 w19=>
 Cl prog 167 [d] w19 λt20 w21=>
 Cl prog 168 [t18,t20] w21 λt22 w23=>
 X2 t22 λt24 t25=>
 BI .neq t25 (iv 0)
 (k (.tuple #[np,nl,t25]) w23)
 (LF 3 t18 w23 λt29 w30=>
 Pu (bI .sub d t29) λt31=>
 Jn (λv41 w40=>∀g42:Fr,∃a33:Value,v41=[a33] /\
 (∃(I43:LP) (m44:LN),I43 [nl,t31] w40 /\
 ∀(g89:Fr) (w88:World),∀o46 e47:Value,I43 [o46,e47] w88 ->
 (Pu (slV 1 a33 (some e47) none none) λt90=>
 RunS prog (convert 57 9 t90) w88 λt91 w92=>
 Cl prog 169 [t91] w92 λt93 w94=>
 X3 t93 λt95 t96 t97=>
 New #[(iv 0),(iv 0),(iv 0),(.int .u8 0),(iv 0),(iv 0),(iv 0),(iv 0),(iv 0),(iv 0),es,nl,nl,nl,nl,nl] 168 w94 λr98 w99=>
 St 16 w99 r98 t95 λu100 w101=>
 Pu (bI .neq t97 (iv 0)) λt102=>
 Gd (isB false t102) (λkk=>Pu (faV 0 r98) λvv=>kk vv w101.drew) w101.drew λt103 w104=>
 Gd (isB false t102) (λkk=>Ld w104 t103 kk) w104 λt105 w106=>
 w106=w104 /\
 Gd (isB false t102) (λkk=>kk t18 w104) w104 λt107 w108=>
 Gd (isB false t102) (λkk=>Pu (bB t107) λvv=>kk vv w108) w108 λt109 w110=>
 Gd (isB false t102) (λkk=>Pu (faV 3 t109) λvv=>kk vv w110) w110 λt111 w112=>
 Gd (isB false t102) (λkk=>Ld w112 t111 kk) w112 λt113 w114=>
 w114=w112 /\
 Gd (isB false t102) (λkk=>kk e47 w112) w112 λt115 w116=>
 Gd (isB false t102) (λkk=>Pu (bI .add t113 t115) λvv=>kk vv w116) w116 λt117 w118=>
 Gd (isB false t102) (λkk=>Pu (bI .neq t105 t117) λvv=>kk vv w118) w118 λt119 w120=>
 Pq t102 (.bool true) t119
 (Pu (slV 1 a33 none (some e47) (some e47)) λt122=>
 SF 4 1 t18 w120 t122 λu125 w126=>
 Cl prog 96 [t18] w126 λt127 w128=>
 SF 6 1 t18 w128 t127 λu131 w132=>
 Cl prog 171 [t18] w132 λt133 w134=>
 BI .neq t133 (iv 0)
 (k (.tuple #[np,nl,t133]) w134)
 (k (.tuple #[t18,o46,(iv 0)]) w134))
 (LF 8 t18 w120.drew λt138 w139=>
 w139=w120.drew /\
 LA 0 r98 w120.drew λt141 w142=>
 w142=w120.drew /\
 LdN 16 w120.drew r98 λt143 w144=>
 w144=w120.drew /\
 RunU prog (Instr.mapUpdate 205 t138 t141 t143) w120.drew λu145 w146=>
 LdN 16 w146 r98 λt147 w148=>
 Cl prog 170 [t147] w148 λt149 w150=>
 RunS prog (Instr.buildSlice 82 1 #[(0,t149)]) w150 λt151 w152=>
 RunS prog (Builtin.append_ #[82,82] 82 #[o46,t151]) w152 λt153 w154=>
 Pu (bI .add e47 t96) λt155=>
 I43 [t153,t155] w154/\m44 [t153,t155] w154<m44 [o46,e47] w88))))
 (λj32=>
 Pu (lenV t24) λt156=>
 BI .lss t156 t31
 (RunS prog (Instr.makeSlice 57 t31 t31) w30 λt158 w159=>
 j32 [t158] w159)
 (j32 [t24] w30)))))):Cl prog 78 [a,b,c,d] w k:=cE func78 h (lv:=(λj=>bif Nat.beq j 14 then[15,16] else[])) (jn:=(λj=>bif Nat.beq j 12 then some [12] else none))
theorem c81 (h:
Pu (ax (.pointer 101) .eql a np) λt1=>
 GdG (isB false t1) (λkk=>Pu (ax (.pointer 207) .eql b np) λt2=>kk t2 w) w λ_ t3 w4=>
 Pu (aD t1 (.bool true) t3) λt5=>
 GdG (isB false t5) (λkk=>Pu (bI .lss e (iv 1)) λt6=>kk t6 w4) w4 λ_ t7 w8=>
 Pu (aD t5 (.bool true) t7) λt9=>
 GdG (isB false t9) (λkk=>Pu (bI .gtr e (iv 1024)) λt10=>kk t10 w8) w8 λ_ t11 w12=>
 Pu (aD t9 (.bool true) t11) λt13=>
 GdG (isB false t13) (λkk=>Pu (bI .lss d (iv 1)) λt14=>kk t14 w12) w12 λ_ t15 w16=>
 Pu (aD t13 (.bool true) t15) λt17=>
 GdG (isB false t17) (λkk=>Pu (bI .gtr d (iv 8192)) λt18=>kk t18 w16) w16 λ_ t19 w20=>
 Pu (aD t17 (.bool true) t19) λt21=>
 GdG (isB false t21) (λkk=>Pu (bI .lss c (iv 0)) λt22=>kk t22 w20) w20 λ_ t23 w24=>
 Pu (aD t21 (.bool true) t23) λt25=>
 GdG (isB false t25) (λkk=>Cl prog 59 [a] w24 λt26 w27=>Pu (bI .mul (iv 8) d) λt28=>Pu (bI .sub t26 t28) λt29=>Pu (bI .gtr c t29) λt30=>kk t30 w27) w24 λ_ t31 w32=>
 Pq t25 (.bool true) t31
 (k (.tuple #[np,(iv 1)]) w32)
 (RunS prog (Instr.makeSlice 279 e e) w32 λt34 w35=>
 RunS prog (Instr.makeMap 275 none) w35 λt36 w37=>
 RunS prog (Instr.build 281 #[(0,a),(1,b),(2,c),(3,d),(4,t34),(5,t36)]) w37 λt38 w39=>
 New (Value.cells t38) 281 w39 λt40 w41=>
 LF 4 t40 w41 λt44 w45=>
 Pu (lenV t44) λt46=>
 ∃(I47:LP) (m48:LN),I47 [(iv 0)] w45 /\
 ∀(g63:Fr) (w62:World),∀t51:Value,I47 [t51] w62 ->
 (BI .lss t51 t46
 (LF 4 t40 w62 λt67 w68=>
 Pu (ixV 8 t67 t51) λt69=>
 SA 6 1 t69 w68 (iv (-1)) λu71 w72=>
 Pu (bI .add t51 (iv 1)) λt73=>
 I47 [t73] w72/\m48 [t73] w72<m48 [t51] w62)
 (k (.tuple #[t40,(iv 0)]) w62)))):Cl prog 81 [a,b,c,d,e] w k:=cE func81 h (lv:=(λj=>bif Nat.beq j 5 then[63] else[]))
theorem c96 (h:
Bf (.pointer 207) .eql a np
 (k (iv 0) w)
 (LF 3 a w.drew λt4 w5=>
 w5=w.drew /\
 LF 4 a w.drew λt8 w9=>
 w9=w.drew /\
 Pu (lenV t8) λt10=>
 Pu (bI .add t4 t10) λt11=>
 k t11 w.drew)):Cl prog 96 [a] w k:=cE func96 h
theorem c99 (h:
Bf (.pointer 281) .eql a np
 (k nl w)
 (LF 5 a w λt4 w5=>
 Cl prog 175 [t4] w5 λt6 w7=>
 Cl prog 73 [t6] w7 λt8 w9=>
 Pu (lenV t8) λt10=>
 ∃(I11:LP) (m12:LN),I11 [nl,(iv 0)] w9 /\
 ∀(g33:Fr) (w32:World),∀o14 t16:Value,I11 [o14,t16] w32 ->
 (BI .lss t16 t10
 (LI 1 t8 t16 w32 λt36 w37=>
 LF 5 a w37 λt40 w41=>
 RunS prog (Instr.lookup 275 t40 t36 false) w41 λt42 w43=>
 RunS prog (Instr.build 189 #[(0,t36),(1,t42)]) w43 λt44 w45=>
 RunS prog (Instr.buildSlice 166 1 #[(0,t44)]) w45 λt46 w47=>
 RunS prog (Builtin.append_ #[166,166] 166 #[o14,t46]) w47 λt48 w49=>
 Pu (bI .add t16 (iv 1)) λt50=>
 I11 [t48,t50] w49/\m12 [t48,t50] w49<m12 [o14,t16] w32)
 (k o14 w32)))):Cl prog 99 [a] w k:=cE func99 h (lv:=(λj=>bif Nat.beq j 5 then[3,15] else[]))
theorem c101 (h:
Pu (lenV a) λt1=>
 ∃(I2:LP) (m3:LN),I2 [(iv 0)] w /\
 ∀(g19:Fr) (w18:World),∀t7:Value,I2 [t7] w18 ->
 (BI .lss t7 t1
 (LI 1 a t7 w18 λt22 w23=>
 ClV prog b [t22] w23 λt24 w25=>
 IfB t24
 (k t7 w25)
 (Pu (bI .add t7 (iv 1)) λt26=>
 I2 [t26] w25/\m3 [t26] w25<m3 [t7] w18))
 (k (iv (-1)) w18))):Cl prog 101 [a,b] w k:=cE func101 h (lv:=(λj=>bif Nat.beq j 2 then[8] else[]))
theorem c103 (h:
Cl prog 101 [a,b] w λt1 w2=>
 Pu (bI .geq t1 (iv 0)) λt3=>
 k t3 w2):Cl prog 103 [a,b] w k:=cE func103 h
theorem c119 (h:
New #[(iv 0),(iv 0),(iv 0),(.int .u8 0),(iv 0),(iv 0),(iv 0),(iv 0),(iv 0),(iv 0),es,nl,nl,nl,nl,nl] 168 w λt1 w2=>
 Bf (.pointer 207) .eql a np
 (RunS prog (Instr.build 168 #[]) w2 λt4 w5=>
 St 16 w5 t1 t4 λu6 w7=>
 ch (bO prog (λj=>bif Nat.beq j 4 then t1 else bif Nat.beq j 5 then(iv 2) else undef) w7 [(ResultVar.cell 4 168),(ResultVar.tmp 5)]) w7 k)
 (LF 8 a w2 λt10 w11=>
 RunS prog (Instr.lookup 205 t10 b true) w11 λt12 w13=>
 X2 t12 λt14 t15=>
 New #[(iv 0),(iv 0),(iv 0),(.int .u8 0),(iv 0),(iv 0),(iv 0),(iv 0),(iv 0),(iv 0),es,nl,nl,nl,nl,nl] 168 w13 λr16 w17=>
 St 16 w17 r16 t14 λu18 w19=>
 Pu (unV .not t15) λt20=>
 IfB t20
 (RunS prog (Instr.build 168 #[]) w19 λt21 w22=>
 St 16 w22 t1 t21 λu23 w24=>
 ch (bO prog (λj=>bif Nat.beq j 4 then t1 else bif Nat.beq j 5 then(iv 51) else undef) w24 [(ResultVar.cell 4 168),(ResultVar.tmp 5)]) w24 k)
 (LdN 16 w19 r16 λt25 w26=>
 Cl prog 170 [t25] w26 λt27 w28=>
 St 16 w28 t1 t27 λu29 w30=>
 ch (bO prog (λj=>bif Nat.beq j 4 then t1 else bif Nat.beq j 5 then(iv 0) else undef) w30 [(ResultVar.cell 4 168),(ResultVar.tmp 5)]) w30 k))):Cl prog 119 [a,b] w k:=cE func119 h
theorem c124 (h:
Bf (.pointer 207) .eql a np
 (k (iv 0) w)
 (∃C2:World->Prop,C2 w.drew /\
 (Pu (bB a) λt3=>
 Pu (faV 2 t3) λt4=>
 ∃t5,(∀w6,C2 w6->Ld w6 t4 λt7 w8=>
 t7=t5/\w8=w6) /\
 (Pu (bI .sub t5 (iv 2)) λt9=>
 Pu (bI .mul (iv 54) t9) λt10=>
 Pu (bB a) λt11=>
 Pu (faV 5 t11) λt12=>
 ∃t13,(∀w14,C2 w14->Ld w14 t12 λt15 w16=>
 t15=t13/\w16=w14) /\
 (Pu (bB a) λt17=>
 Pu (faV 7 t17) λt18=>
 ∃t19,(∀w20,C2 w20->Ld w20 t18 λt21 w22=>
 t21=t19/\w22=w20) /\
 (Cl prog 96 [a] w.drew λt23 w24=>
 C2 w24 /\
 (Pu (bI .sub t23 t13) λt25=>
 Pu (bI .sub t10 t25) λt26=>
 Pu (bI .sub t26 t19) λt27=>
 k t27 w24))))))):Cl prog 124 [a] w k:=cE func124 h
theorem c141 (h:
Cl prog 237 [a,b] w λt1 w2=>
 BI .neq t1 (iv 0)
 (k t1 w2)
 (Cl prog 238 [a,b] w2 λt4 w5=>
 Pu (ax (.pointer 283) .neq t4 np) λt6=>
 GdG (isB true t6) (λkk=>LF 7 t4 w5 kk) w5 λ_ t9 w10=>
 Pq t6 t9 (.bool false)
 (Cl prog 239 [a,t4] w10 λt12 w13=>
 k t12 w13)
 (k (iv 0) w10))):Cl prog 141 [a,b] w k:=cE func141 h
theorem c145 (h:
Bf (.pointer 101) .eql a np
 (k (iv 2) w)
 (LF 3 a w λt4 w5=>
 IfB t4
 (k (iv 5) w5)
 (k (iv 0) w5))):Cl prog 145 [a] w k:=cE func145 h
theorem c146 (h:
Pu (bI .geq b (iv 0)) λt1=>
 GdG (isB true t1) (λkk=>Pu (bI .geq c (iv 0)) λt2=>kk t2 w) w λ_ t3 w4=>
 Pu (aD t1 t3 (.bool false)) λt5=>
 GdG (isB true t5) (λkk=>Cl prog 59 [a] w4 λt6 w7=>Pu (bI .leq b t6) λt8=>kk t8 w7) w4 λ_ t9 w10=>
 Pu (aD t5 t9 (.bool false)) λt11=>
 GdG (isB true t11) (λkk=>Cl prog 59 [a] w10 λt12 w13=>Pu (bI .sub t12 b) λt14=>Pu (bI .leq c t14) λt15=>kk t15 w13) w10 λ_ t16 w17=>
 Pu (aD t11 t16 (.bool false)) λt18=>
 k t18 w17):Cl prog 146 [a,b,c] w k:=cE func146 h
theorem c147 (h:
LF 4 a w λt3 w4=>
 Pu (bI .add t3 (iv 1)) λt5=>
 SF 4 1 a w4 t5 λu8 w9=>
 Jn (λv32 w31=>∀g33:Fr,v32=[] /\
 (LF 3 a w31 λt36 w37=>
 k t36 w37))
 (λj10=>
 LF 2 a w9 λt40 w41=>
 BI .gtr t40 (iv 0)
 (LF 2 a w41 λt45 w46=>
 Pu (bI .sub t45 (iv 1)) λt47=>
 SF 2 1 a w46 t47 λu50 w51=>
 LF 2 a w51 λt54 w55=>
 Pu (bI .eql t54 (iv 0)) λt56=>
 SF 3 1 a w55 t56 λu59 w60=>
 j10 [] w60)
 (j10 [] w41))):Cl prog 147 [a] w k:=cE func147 h (jn:=(λj=>bif Nat.beq j 5 then some [] else none))
theorem c149 (h:
Cl prog 244 [a,b] w λt1 w2=>
 k t1 w2):Cl prog 149 [a,b] w k:=cE func149 h
theorem c158 (h:
New (Value.cells a) 68 w λp1 w2=>
 LA 5 p1 w2 λt4 w5=>
 Pu (lenV t4) λt6=>
 Pu (bI .leq t6 (iv 255)) λt7=>
 GdG (isB true t7) (λkk=>LdN 6 w5 p1 λt8 w9=>Cl prog 250 [t8] w9 λt10 w11=>Pu (bI .leq t10 (iv 512)) λt12=>kk t12 w11) w5 λ_ t13 w14=>
 Pu (aD t7 t13 (.bool false)) λt15=>
 k t15 w14):Cl prog 158 [a] w k:=cE func158 h
theorem c159 (h:
Pu (bI .lss b (iv 1)) λt1=>
 GdG (isB false t1) (λkk=>Pu (bI .gtr b (iv 8)) λt2=>kk t2 w) w λ_ t3 w4=>
 Pu (aD t1 (.bool true) t3) λt5=>
 GdG (isB false t5) (λkk=>Pu (bI .lss a (iv 0)) λt6=>kk t6 w4) w4 λ_ t7 w8=>
 Pq t5 (.bool true) t7
 (k es w8)
 (RunS prog (Instr.makeSlice 57 b b) w8 λt10 w11=>
 Pu (lenV t10) λt12=>
 ∃(I13:LP) (m14:LN),I13 [(iv 0)] w11 /\
 ∀(g33:Fr) (w32:World),∀t17:Value,I13 [t17] w32 ->
 (BI .lss t17 t12
 (Pu (bI .sub b (iv 1)) λt35=>
 Pu (bI .sub t35 t17) λt36=>
 Pu (bI .mul (iv 8) t36) λt37=>
 Pu (bI .shr a t37) λt38=>
 Pu (cvI IntKind.u8 t38) λt39=>
 Pu (ixV 1 t10 t17) λt40=>
 St 1 w32 t40 t39 λu41 w42=>
 Pu (bI .add t17 (iv 1)) λt43=>
 I13 [t43] w42/\m14 [t43] w42<m14 [t17] w32)
 (RunS prog (convert 57 9 t10) w32 λt44 w45=>
 k t44 w45)))):Cl prog 159 [a,b] w k:=cE func159 h (lv:=(λj=>bif Nat.beq j 5 then[21] else[]))
theorem c160 (h:
Pu (bo a) λt1=>
 ∃(I2:LP) (m3:LN),I2 [(Value.int .u32 4294967295),(iv 0)] w /\
 ∀(g23:Fr) (w22:World),∀c5 t7:Value,I2 [c5,t7] w22 ->
 (BI .lss t7 t1
 (Pu (ax (.int .u32) .shr c5 (Value.int .u64 8)) λt25=>
 Pu (ax (.int .u32) .and c5 (Value.int .u32 255)) λt26=>
 Pu (ixS a t7) λt27=>
 Pu (cvI IntKind.u32 t27) λt28=>
 Pu (ax (.int .u32) .xor t26 t28) λt29=>
 Cl prog 251 [t29] w22 λt30 w31=>
 Pu (ax (.int .u32) .xor t25 t30) λt32=>
 Pu (bI .add t7 (iv 1)) λt33=>
 I2 [t32,t33] w31/\m3 [t32,t33] w31<m3 [c5,t7] w22)
 (Pu (unV .xor c5) λt34=>
 k t34 w22))):Cl prog 160 [a] w k:=cE func160 h (lv:=(λj=>bif Nat.beq j 3 then[3,7] else[]))
theorem c161 (h:
Pu (ax (.pointer 101) .neq a np) λt1=>
 GdG (isB true t1) (λkk=>Pu (bI .geq c (iv 4)) λt2=>kk t2 w) w λ_ t3 w4=>
 Pu (aD t1 t3 (.bool false)) λt5=>
 GdG (isB true t5) (λkk=>Pu (bI .geq b (iv 0)) λt6=>kk t6 w4) w4 λ_ t7 w8=>
 Pu (aD t5 t7 (.bool false)) λt9=>
 GdG (isB true t9) (λkk=>Cl prog 59 [a] w8 λt10 w11=>Pu (bI .leq c t10) λt12=>kk t12 w11) w8 λ_ t13 w14=>
 Pu (aD t9 t13 (.bool false)) λt15=>
 GdG (isB true t15) (λkk=>Cl prog 59 [a] w14 λt16 w17=>Pu (bI .sub t16 c) λt18=>Pu (bI .leq b t18) λt19=>kk t19 w17) w14 λ_ t20 w21=>
 Pu (aD t15 t20 (.bool false)) λt22=>
 k t22 w21):Cl prog 161 [a,b,c] w k:=cE func161 h
theorem c166 (h:
Pu (bI .mul a (iv 54)) λt1=>
 Pu (bI .add t1 (iv 1)) λt2=>
 k t2 w):Cl prog 166 [a] w k:=cE func166 h
theorem c167 (h:
Pu (bI .sub a (iv 1)) λt1=>
 Pu (bI .quo t1 (iv 54)) λt2=>
 k t2 w):Cl prog 167 [a] w k:=cE func167 h
theorem c168 (h:
Jn (λv45 w44=>∀g46:Fr,∃o4:Value,v45=[o4] /\
 (k (.tuple #[o4,(iv 0)]) w44))
 (λj1=>
 LF 2 a w λt49 w50=>
 ∃(I51:LP) (m52:LN),I51 [nl,(iv 0)] w50 /\
 ∀(g93:Fr) (w92:World),∀o56 t61:Value,I51 [o56,t61] w92 ->
 (BI .lss t61 t49
 (∃C95:World->Prop,C95 w92.drew /\
 (Pu (bB a) λt96=>
 Pu (faV 0 t96) λt97=>
 ∃t98,(∀w99,C95 w99->Ld w99 t97 λt100 w101=>
 t100=t98/\w101=w99) /\
 (Pu (bI .add b t61) λt102=>
 Cl prog 255 [a,t102] w92.drew λt103 w104=>
 C95 w104 /\
 (Cl prog 76 [t98,t103,(iv 1)] w104 λt105 w106=>
 X2 t105 λt107 t108=>
 BI .neq t108 (iv 0)
 (k (.tuple #[nl,t108]) w106)
 (Pu (bI .add b t61) λt110=>
 Cl prog 256 [t107,t110] w106 λt111 w112=>
 RunS prog (Builtin.append_ #[57,9] 57 #[o56,t111]) w112 λt113 w114=>
 Pu (bo t111) λt115=>
 BI .lss t115 (iv 54)
 (j1 [t113] w114)
 (Pu (bI .add t61 (iv 1)) λt117=>
 I51 [t113,t117] w114/\m52 [t113,t117] w114<m52 [o56,t61] w92))))))
 (j1 [o56] w92)))):Cl prog 168 [a,b] w k:=cE func168 h (lv:=(λj=>bif Nat.beq j 3 then[6,15] else[])) (jn:=(λj=>bif Nat.beq j 12 then some [6] else none))
theorem c169 (h:
New #[(iv 0),(iv 0),(iv 0),(.int .u8 0),(iv 0),(iv 0),(iv 0),(iv 0),(iv 0),(iv 0),es,nl,nl,nl,nl,nl] 168 w λt1 w2=>
 Pu (bo a) λt3=>
 BI .lss t3 (iv 8)
 (RunS prog (Instr.build 168 #[]) w2 λt5 w6=>
 St 16 w6 t1 t5 λu7 w8=>
 ch (bO prog (λj=>bif Nat.beq j 2 then t1 else bif Nat.beq j 3 then(iv 0) else bif Nat.beq j 4 then(iv 40) else undef) w8 [(ResultVar.cell 2 168),(ResultVar.tmp 3),(ResultVar.tmp 4)]) w8 k)
 (Pu (slS a none (some (iv 4))) λt9=>
 Cl prog 254 [t9] w2 λt10 w11=>
 Pu (bI .eql t10 (iv 0)) λt12=>
 GdG (isB false t12) (λkk=>Pu (bI .gtr t10 (iv 65535)) λt13=>kk t13 w11) w11 λ_ t14 w15=>
 Pq t12 (.bool true) t14
 (RunS prog (Instr.build 168 #[]) w15 λt17 w18=>
 St 16 w18 t1 t17 λu19 w20=>
 ch (bO prog (λj=>bif Nat.beq j 2 then t1 else bif Nat.beq j 3 then(iv 0) else bif Nat.beq j 4 then(iv 41) else undef) w20 [(ResultVar.cell 2 168),(ResultVar.tmp 3),(ResultVar.tmp 4)]) w20 k)
 (Pu (bo a) λt21=>
 Pu (bI .add (iv 8) t10) λt22=>
 BI .lss t21 t22
 (RunS prog (Instr.build 168 #[]) w15 λt24 w25=>
 St 16 w25 t1 t24 λu26 w27=>
 ch (bO prog (λj=>bif Nat.beq j 2 then t1 else bif Nat.beq j 3 then(iv 0) else bif Nat.beq j 4 then(iv 40) else undef) w27 [(ResultVar.cell 2 168),(ResultVar.tmp 3),(ResultVar.tmp 4)]) w27 k)
 (Pu (bI .add (iv 8) t10) λt28=>
 Pu (slS a (some (iv 8)) (some t28)) λt29=>
 Pu (slS a (some (iv 4)) (some (iv 8))) λt30=>
 Cl prog 254 [t30] w15 λt31 w32=>
 Cl prog 160 [t29] w32 λt33 w34=>
 Pu (cvI IntKind.i64 t33) λt35=>
 BI .neq t31 t35
 (RunS prog (Instr.build 168 #[]) w34 λt37 w38=>
 St 16 w38 t1 t37 λu39 w40=>
 ch (bO prog (λj=>bif Nat.beq j 2 then t1 else bif Nat.beq j 3 then(iv 0) else bif Nat.beq j 4 then(iv 30) else undef) w40 [(ResultVar.cell 2 168),(ResultVar.tmp 3),(ResultVar.tmp 4)]) w40 k)
 (Cl prog 257 [t29] w34 λt41 w42=>
 X2 t41 λt43 t44=>
 New #[(iv 0),(iv 0),(iv 0),(.int .u8 0),(iv 0),(iv 0),(iv 0),(iv 0),(iv 0),(iv 0),es,nl,nl,nl,nl,nl] 168 w42 λr45 w46=>
 St 16 w46 r45 t43 λu47 w48=>
 Pu (unV .not t44) λt49=>
 IfB t49
 (RunS prog (Instr.build 168 #[]) w48 λt50 w51=>
 St 16 w51 t1 t50 λu52 w53=>
 ch (bO prog (λj=>bif Nat.beq j 2 then t1 else bif Nat.beq j 3 then(iv 0) else bif Nat.beq j 4 then(iv 41) else undef) w53 [(ResultVar.cell 2 168),(ResultVar.tmp 3),(ResultVar.tmp 4)]) w53 k)
 (LdN 16 w48 r45 λt54 w55=>
 Cl prog 258 [t54] w55 λt56 w57=>
 X2 t56 λt58 t59=>
 Pu (bI .neq t59 (iv 0)) λt60=>
 GdG (isB false t60) (λkk=>Pu (ax .string .neq t58 t29) λt61=>kk t61 w57) w57 λ_ t62 w63=>
 Pq t60 (.bool true) t62
 (RunS prog (Instr.build 168 #[]) w63 λt65 w66=>
 St 16 w66 t1 t65 λu67 w68=>
 ch (bO prog (λj=>bif Nat.beq j 2 then t1 else bif Nat.beq j 3 then(iv 0) else bif Nat.beq j 4 then(iv 41) else undef) w68 [(ResultVar.cell 2 168),(ResultVar.tmp 3),(ResultVar.tmp 4)]) w68 k)
 (LdN 16 w63 r45 λt69 w70=>
 Pu (bI .add (iv 8) t10) λt71=>
 St 16 w70 t1 t69 λu72 w73=>
 ch (bO prog (λj=>bif Nat.beq j 2 then t1 else bif Nat.beq j 3 then t71 else bif Nat.beq j 4 then(iv 0) else undef) w73 [(ResultVar.cell 2 168),(ResultVar.tmp 3),(ResultVar.tmp 4)]) w73 k))))))):Cl prog 169 [a] w k:=cE func169 h
theorem c170 (h:
New (Value.cells a) 168 w λr1 w2=>
 New #[(iv 0),(iv 0),(iv 0),(.int .u8 0),(iv 0),(iv 0),(iv 0),(iv 0),(iv 0),(iv 0),es,nl,nl,nl,nl,nl] 168 w2 λt3 w4=>
 LdN 16 w4 r1 λt5 w6=>
 Cl prog 259 [t5] w6 λt7 w8=>
 X2 t7 λt9 t10=>
 Cl prog 169 [t9] w8 λt11 w12=>
 X3 t11 λt13 t14 t15=>
 New #[(iv 0),(iv 0),(iv 0),(.int .u8 0),(iv 0),(iv 0),(iv 0),(iv 0),(iv 0),(iv 0),es,nl,nl,nl,nl,nl] 168 w12 λc16 w17=>
 St 16 w17 c16 t13 λu18 w19=>
 LdN 16 w19 c16 λt20 w21=>
 St 16 w21 t3 t20 λu22 w23=>
 ch (bO prog (λj=>bif Nat.beq j 2 then t3 else undef) w23 [(ResultVar.cell 2 168)]) w23 k):Cl prog 170 [a] w k:=cE func170 h
theorem c171 (h:
LF 2 a w λt3 w4=>
 RunS prog (Instr.makeSlice 66 t3 t3) w4 λt5 w6=>
 Pu (lenV t5) λt7=>
 ∃(I8:LP) (m9:LN),I8 [(iv 0)] w6 /\
 ∀(g21:Fr) (w20:World),∀t12:Value,I8 [t12] w20 ->
 (BI .lss t12 t7
 (Cl prog 63 [(Value.string (ByteArray.mk #[0])),(iv 64)] w20 λt23 w24=>
 Pu (ixV 1 t5 t12) λt25=>
 St 1 w24 t25 t23 λu26 w27=>
 Pu (bI .add t12 (iv 1)) λt28=>
 I8 [t28] w27/\m9 [t28] w27<m9 [t12] w20)
 (Cl prog 96 [a] w20 λt29 w30=>
 Cl prog 167 [t29] w30 λt31 w32=>
 LF 5 a w32 λt35 w36=>
 Cl prog 167 [t35] w36 λt37 w38=>
 ∃(I39:LP) (m40:LN),I39 [t37] w38 /\
 ∀(g57:Fr) (w56:World),∀k42:Value,I39 [k42] w56 ->
 (BI .lss k42 t31
 (LF 2 a w56 λt61 w62=>
 Pu (bI .rem k42 t61) λt63=>
 Pu (ixV 1 t5 t63) λt64=>
 St 1 w62 t64 es λu65 w66=>
 Pu (bI .add k42 (iv 1)) λt67=>
 I39 [t67] w66/\m40 [t67] w66<m40 [k42] w56)
 (Jn (λv87 w86=>∀g88:Fr,v87=[] /\
 (Pu (lenV t5) λt89=>
 ∃(I90:LP) (m91:LN),I90 [(.bool false),(iv 0)] w86 /\
 ∀(g144:Fr) (w143:World),∀w94 t99:Value,I90 [w94,t99] w143 ->
 (BI .lss t99 t89
 (Jn (λv195 w194=>∀g196:Fr,∃w148:Value,v195=[w148] /\
 (Pu (bI .add t99 (iv 1)) λt197=>
 I90 [w148,t197] w194/\m91 [w148,t197] w194<m91 [w94,t99] w143))
 (λj146=>
 LI 1 t5 t99 w143 λt199 w200=>
 Pu (ax .string .eql t199 es) λt201=>
 IfB t201
 (j146 [w94] w200)
 (LF 0 a w200.drew λt204 w205=>
 w205=w200.drew /\
 LF 1 a w200.drew λt208 w209=>
 w209=w200.drew /\
 Pu (bI .add t208 t99) λt210=>
 Cl prog 76 [t204,t210,(iv 1)] w200.drew λt211 w212=>
 X2 t211 λt213 t214=>
 Jn (λv238 w237=>∀g239:Fr,∃w216:Value,∃e217:Value,v238=[w216,e217] /\
 (BI .neq e217 (iv 0)
 (k e217 w237)
 (j146 [w216] w237)))
 (λj215=>
 Pu (bI .eql t214 (iv 0)) λt241=>
 GdG (isB true t241) (λkk=>Pu (ax .string .neq t213 t199) λt242=>kk t242 w212) w212 λ_ t243 w244=>
 Pq t241 t243 (.bool false)
 (LF 0 a w244.drew λt248 w249=>
 w249=w244.drew /\
 LF 1 a w244.drew λt252 w253=>
 w253=w244.drew /\
 Pu (bI .add t252 t99) λt254=>
 Cl prog 62 [t248,t254,t199] w244.drew λt255 w256=>
 j215 [(.bool true),t255] w256)
 (j215 [w94,t214] w244)))))
 (Pu (unV .not w94) λt257=>
 IfB t257
 (k (iv 0) w143)
 (LF 0 a w143 λt260 w261=>
 Cl prog 70 [t260] w261 λt262 w263=>
 k t262 w263)))))
 (λj68=>
 Cl prog 260 [a,t31] w56 λt264 w265=>
 Pu (ax .string .neq t264 es) λt266=>
 IfB t266
 (∃C267:World->Prop,C267 w265.drew /\
 (Pu (bB a) λt268=>
 Pu (faV 2 t268) λt269=>
 ∃t270,(∀w271,C267 w271->Ld w271 t269 λt272 w273=>
 t272=t270/\w273=w271) /\
 (Pu (bI .rem t31 t270) λt274=>
 Cl prog 261 [t31,t264] w265.drew λt275 w276=>
 C267 w276 /\
 (Pu (ixV 1 t5 t274) λt277=>
 St 1 w276 t277 t275 λu278 w279=>
 j68 [] w279))))
 (j68 [] w265))))))):Cl prog 171 [a] w k:=cE func171 h (lv:=(λj=>bif Nat.beq j 17 then[8,67] else bif Nat.beq j 9 then[6] else bif Nat.beq j 3 then[20] else[])) (jn:=(λj=>bif Nat.beq j 15 then some [] else bif Nat.beq j 26 then some [8] else bif Nat.beq j 24 then some [8,12] else none))
theorem c184 (h:
Bf (.pointer 207) .eql a np
 (k (iv 0) w)
 (LF 6 a w λt4 w5=>
 k t4 w5)):Cl prog 184 [a] w k:=cE func184 h
theorem c186 (h:
Bf (.pointer 207) .eql a np
 (k (iv 2) w)
 (Cl prog 96 [a] w λt2 w3=>
 LF 6 a w3 λt6 w7=>
 Pu (bI .lss b t6) λt8=>
 GdG (isB false t8) (λkk=>LF 6 a w7 λt11 w12=>Pu (bI .eql t11 t2) λt13=>kk t13 w12) w7 λ_ t14 w15=>
 Pq t8 (.bool true) t14
 (k (iv 0) w15)
 (LF 6 a w15 λt19 w20=>
 Cl prog 167 [t19] w20 λt21 w22=>
 ∃(I23:LP) (m24:LN),I23 [t21] w22 /\
 ∀(g52:Fr) (w51:World),∀k27:Value,I23 [k27] w51 ->
 (Cl prog 166 [k27] w51 λt53 w54=>
 BI .lss t53 t2
 (∃C56:World->Prop,C56 w54.drew /\
 (Pu (bB a) λt57=>
 Pu (faV 0 t57) λt58=>
 ∃t59,(∀w60,C56 w60->Ld w60 t58 λt61 w62=>
 t61=t59/\w62=w60) /\
 (Cl prog 255 [a,k27] w54.drew λt63 w64=>
 C56 w64 /\
 (Cl prog 260 [a,k27] w64 λt65 w66=>
 C56 w66 /\
 (Cl prog 261 [k27,t65] w66 λt67 w68=>
 C56 w68 /\
 (Cl prog 62 [t59,t63,t67] w68 λt69 w70=>
 BI .neq t69 (iv 0)
 (k t69 w70)
 (Pu (bI .add k27 (iv 1)) λt72=>
 I23 [t72] w70/\m24 [t72] w70<m24 [k27] w51)))))))
 (LF 0 a w54 λt75 w76=>
 Cl prog 70 [t75] w76 λt77 w78=>
 BI .neq t77 (iv 0)
 (k t77 w78)
 (SF 6 1 a w78 t2 λu82 w83=>
 k (iv 0) w83)))))):Cl prog 186 [a,b] w k:=cE func186 h (lv:=(λj=>bif Nat.beq j 7 then[6] else[]))
theorem c192 (h:
New (Value.cells b) 168 w λr1q w2=>
 Bf (.pointer 207) .eql a np
 (k (.tuple #[(iv 0),(iv 2)]) w2)
 (Cl prog 96 [a] w2 λt4 w5=>
 SA 0 1 r1q w5 t4 λu7 w8=>
 LdN 16 w8 r1q λt9 w10=>
 Cl prog 259 [t9] w10 λt11 w12=>
 X2 t11 λt13 t14=>
 BI .neq t14 (iv 0)
 (k (.tuple #[(iv 0),t14]) w12)
 (Pu (bo t13) λt16=>
 Cl prog 124 [a] w12 λt17 w18=>
 BI .gtr t16 t17
 (k (.tuple #[(iv 0),(iv 50)]) w18)
 (LF 4 a w18 λt22 w23=>
 RunS prog (Builtin.append_ #[57,9] 57 #[t22,t13]) w23 λt24 w25=>
 SF 4 1 a w25 t24 λu28 w29=>
 ∃C30:World->Prop,C30 w29.drew /\
 (Pu (bB a) λt31=>
 Pu (faV 8 t31) λt32=>
 ∃t33,(∀w34,C30 w34->Ld w34 t32 λt35 w36=>
 t35=t33/\w36=w34) /\
 (Pu (faV 0 r1q) λt37=>
 ∃t38,(∀w39,C30 w39->Ld w39 t37 λt40 w41=>
 t40=t38/\w41=w39) /\
 (LdN 16 w29.drew r1q λt42 w43=>
 w43=w29.drew /\
 Cl prog 170 [t42] w29.drew λt44 w45=>
 C30 w45 /\
 (RunU prog (Instr.mapUpdate 205 t33 t38 t44) w45 λu46 w47=>
 LA 0 r1q w47 λt49 w50=>
 k (.tuple #[t49,(iv 0)]) w50)))))))):Cl prog 192 [a,b] w k:=cE func192 h
theorem c199 (h:
New #[(iv 0),(iv 0),(iv 0),(iv 0),es,nl] 68 w λt1 w2=>
 Cl prog 237 [a,b] w2 λt3 w4=>
 BI .neq t3 (iv 0)
 (RunS prog (Instr.build 68 #[]) w4 λt6 w7=>
 St 6 w7 t1 t6 λu8 w9=>
 ch (bO prog (λj=>bif Nat.beq j 6 then t1 else bif Nat.beq j 7 then t3 else undef) w9 [(ResultVar.cell 6 68),(ResultVar.tmp 7)]) w9 k)
 (Cl prog 238 [a,b] w4 λt10 w11=>
 Bf (.pointer 283) .neq t10 np
 (Cl prog 281 [t10] w11 λt13 w14=>
 St 6 w14 t1 t13 λu15 w16=>
 ch (bO prog (λj=>bif Nat.beq j 6 then t1 else bif Nat.beq j 7 then(iv 0) else undef) w16 [(ResultVar.cell 6 68),(ResultVar.tmp 7)]) w16 k)
 (LF 0 a w11.drew λt19 w20=>
 w20=w11.drew /\
 LF 2 a w11.drew λt23 w24=>
 w24=w11.drew /\
 Pu (bI .mul (iv 8) b) λt25=>
 Pu (bI .add t23 t25) λt26=>
 Cl prog 76 [t19,t26,(iv 8)] w11.drew λt27 w28=>
 X2 t27 λt29 t30=>
 BI .neq t30 (iv 0)
 (RunS prog (Instr.build 68 #[]) w28 λt32 w33=>
 St 6 w33 t1 t32 λu34 w35=>
 ch (bO prog (λj=>bif Nat.beq j 6 then t1 else bif Nat.beq j 7 then t30 else undef) w35 [(ResultVar.cell 6 68),(ResultVar.tmp 7)]) w35 k)
 (Cl prog 282 [t29] w28 λt36 w37=>
 X2 t36 λt38 t39=>
 New #[(iv 0),(iv 0),(iv 0),(iv 0),es,nl] 68 w37 λb40 w41=>
 St 6 w41 b40 t38 λu42 w43=>
 BI .neq t39 (iv 0)
 (RunS prog (Instr.build 68 #[]) w43 λt45 w46=>
 St 6 w46 t1 t45 λu47 w48=>
 ch (bO prog (λj=>bif Nat.beq j 6 then t1 else bif Nat.beq j 7 then(iv 60) else undef) w48 [(ResultVar.cell 6 68),(ResultVar.tmp 7)]) w48 k)
 (Cl prog 283 [a,c] w43 λt49 w50=>
 X2 t49 λt51 t52=>
 BI .neq t52 (iv 0)
 (RunS prog (Instr.build 68 #[]) w50 λt54 w55=>
 St 6 w55 t1 t54 λu56 w57=>
 ch (bO prog (λj=>bif Nat.beq j 6 then t1 else bif Nat.beq j 7 then t52 else undef) w57 [(ResultVar.cell 6 68),(ResultVar.tmp 7)]) w57 k)
 (LdN 6 w50 b40 λt58 w59=>
 RunS prog (Instr.build 283 #[(0,t58),(1,b)]) w59 λt60 w61=>
 Pu (bB t51) λt62=>
 St 8 w61 t62 t60 λu63 w64=>
 Cl prog 281 [t51] w64 λt65 w66=>
 St 6 w66 t1 t65 λu67 w68=>
 ch (bO prog (λj=>bif Nat.beq j 6 then t1 else bif Nat.beq j 7 then(iv 0) else undef) w68 [(ResultVar.cell 6 68),(ResultVar.tmp 7)]) w68 k)))))):Cl prog 199 [a,b,c] w k:=cE func199 h
theorem c232 (h:
Bf (.slice 9) .eql a nl
 (k nl w)
 (RunS prog (Instr.buildSlice 66 0 #[]) w λt2 w3=>
 RunS prog (Builtin.append_ #[66,66] 66 #[t2,a]) w3 λt4 w5=>
 k t4 w5)):Cl prog 232 [a] w k:=cE func232 h
theorem c233 (h:
New (Value.cells c) 68 w λb1 w2=>
 Cl prog 237 [a,b] w2 λt3 w4=>
 BI .neq t3 (iv 0)
 (k t3 w4)
 (LdN 6 w4 b1 λt6 w7=>
 Cl prog 66 [t6] w7 λt8 w9=>
 X2 t8 λt10 t11=>
 BI .neq t11 (iv 0)
 (k t11 w9)
 (LA 0 b1 w9 λt14 w15=>
 BI .lss t14 (iv 1)
 (k (iv 1) w15)
 (Cl prog 238 [a,b] w15 λt17 w18=>
 Jn (λv35 w34=>∀g36:Fr,∃f21:Value,v35=[f21] /\
 (LdN 6 w34 b1 λt37 w38=>
 RunS prog (Instr.build 283 #[(0,t37),(1,b),(2,(.bool true))]) w38 λt39 w40=>
 Pu (bB f21) λt41=>
 St 8 w40 t41 t39 λu42 w43=>
 LA 5 b1 w43 λt45 w46=>
 Cl prog 232 [t45] w46 λt47 w48=>
 Pu (bB f21) λt49=>
 Pu (faV 0 t49) λt50=>
 SA 5 1 t50 w48 t47 λu52 w53=>
 Jn (λv67 w66=>∀g68:Fr,v67=[] /\
 (k (iv 0) w66))
 (λj54=>
 Cl prog 298 [a,b] w53 λt69 w70=>
 Pu (unV .not t69) λt71=>
 IfB t71
 (LF 5 a w70.drew λt74 w75=>
 w75=w70.drew /\
 LA 0 b1 w70.drew λt77 w78=>
 w78=w70.drew /\
 RunU prog (Instr.mapUpdate 275 t74 b t77) w70.drew λu79 w80=>
 j54 [] w80)
 (j54 [] w70))))
 (λj19=>
 Bf (.pointer 283) .eql t17 np
 (Cl prog 283 [a,d] w18 λt82 w83=>
 X2 t82 λt84 t85=>
 BI .neq t85 (iv 0)
 (k t85 w83)
 (j19 [t84] w83))
 (j19 [t17] w18)))))):Cl prog 233 [a,b,c,d] w k:=cE func233 h (jn:=(λj=>bif Nat.beq j 15 then some [12] else bif Nat.beq j 19 then some [] else none))
theorem c237 (h:
Bf (.pointer 281) .eql a np
 (k (iv 2) w)
 (Pu (bI .lss b (iv 0)) λt2=>
 GdG (isB false t2) (λkk=>LF 3 a w λt5 w6=>Pu (bI .geq b t5) λt7=>kk t7 w6) w λ_ t8 w9=>
 Pq t2 (.bool true) t8
 (k (iv 4) w9)
 (k (iv 0) w9))):Cl prog 237 [a,b] w k:=cE func237 h
theorem c238 (h:
LF 4 a w λt3 w4=>
 Pu (lenV t3) λt5=>
 ∃(I6:LP) (m7:LN),I6 [(iv 0)] w4 /\
 ∀(g32:Fr) (w31:World),∀t11:Value,I6 [t11] w31 ->
 (BI .lss t11 t5
 (LF 4 a w31 λt36 w37=>
 Pu (ixV 8 t36 t11) λt38=>
 LA 6 t38 w37 λt40 w41=>
 BI .eql t40 b
 (LF 4 a w41 λt45 w46=>
 Pu (ixV 8 t45 t11) λt47=>
 k t47 w46)
 (Pu (bI .add t11 (iv 1)) λt48=>
 I6 [t48] w41/\m7 [t48] w41<m7 [t11] w31))
 (k np w31))):Cl prog 238 [a,b] w k:=cE func238 h (lv:=(λj=>bif Nat.beq j 2 then[11] else[]))
theorem c239 (h:
Jn (λv31 w30=>∀g32:Fr,v31=[] /\
 (Pu (bB b) λt33=>
 Pu (faV 0 t33) λt34=>
 LdN 6 w30 t34 λt35 w36=>
 Cl prog 66 [t35] w36 λt37 w38=>
 X2 t37 λt39 t40=>
 Jn (λv62 w61=>∀g63:Fr,∃e42:Value,v62=[e42] /\
 (Jn (λv71 w70=>∀g72:Fr,v71=[] /\
 (k e42 w70))
 (λj64=>
 BI .eql e42 (iv 0)
 (SF 7 1 b w61 (.bool false) λu76 w77=>
 j64 [] w77)
 (j64 [] w61))))
 (λj41=>
 BI .eql t40 (iv 0)
 (LF 0 a w38.drew λt81 w82=>
 w82=w38.drew /\
 LF 2 a w38.drew λt85 w86=>
 w86=w38.drew /\
 LF 6 b w38.drew λt89 w90=>
 w90=w38.drew /\
 Pu (bI .mul (iv 8) t89) λt91=>
 Pu (bI .add t85 t91) λt92=>
 Cl prog 62 [t81,t92,t39] w38.drew λt93 w94=>
 j41 [t93] w94)
 (j41 [t40] w38))))
 (λj1=>
 ∃C95:World->Prop,C95 w.drew /\
 (LF 1 a w.drew λt98 w99=>
 w99=w.drew /\
 Pu (bB b) λt100=>
 Pu (faV 0 t100) λt101=>
 Pu (faV 0 t101) λt102=>
 ∃t103,(∀w104,C95 w104->Ld w104 t102 λt105 w106=>
 t105=t103/\w106=w104) /\
 (Cl prog 184 [t98] w.drew λt107 w108=>
 C95 w108 /\
 (BI .leq t107 t103
 (LF 1 a w108.drew λt112 w113=>
 w113=w108.drew /\
 Pu (bB b) λt114=>
 Pu (faV 0 t114) λt115=>
 LA 0 t115 w108.drew λt117 w118=>
 w118=w108.drew /\
 Cl prog 186 [t112,t117] w108.drew λt119 w120=>
 BI .neq t119 (iv 0)
 (k t119 w120)
 (Cl prog 276 [a] w120 λt122 w123=>
 j1 [] w123))
 (j1 [] w108)))))):Cl prog 239 [a,b] w k:=cE func239 h (jn:=(λj=>bif Nat.beq j 6 then some [] else bif Nat.beq j 9 then some [7] else bif Nat.beq j 11 then some [] else none))
theorem c244 (h:
Pu (bo a) λt1=>
 Pu (bo b) λt2=>
 Pu (bI .geq t1 t2) λt3=>
 GdG (isB true t3) (λkk=>Pu (bo b) λt4=>Pu (slS a none (some t4)) λt5=>Pu (ax .string .eql t5 b) λt6=>kk t6 w) w λ_ t7 w8=>
 Pu (aD t3 t7 (.bool false)) λt9=>
 k t9 w8):Cl prog 244 [a,b] w k:=cE func244 h
theorem c247 (h:
RunS prog (Instr.build 391 #[]) w λt1 w2=>
 New (Value.cells t1) 391 w2 λt3 w4=>
 k t3 w4):Cl prog 247 [] w k:=cE func247 h
theorem c248 (h:
Bf (.pointer 391) .eql a np
 (k (.tuple #[]) w)
 (Pu (lenV b) λt2=>
 ∃(I3:LP) (m4:LN),I3 [(iv 0)] w /\
 ∀(g42:Fr) (w41:World),∀t7:Value,I3 [t7] w41 ->
 (BI .lss t7 t2
 (LI 1 b t7 w41 λt45 w46=>
 Pu (az aP [t45,(iv 0)]) λt47=>
 ∃(I48:LP) (m49:LN),I48 [t47] w46 /\
 ∀(g69:Fr) (w68:World),∀n51:Value,I48 [n51] w68 ->
 (BI .gtr n51 (iv 127)
 (LF 0 a w68 λt73 w74=>
 Pu (cvI IntKind.u8 n51) λt75=>
 Pu (ax (.int .u8) .or t75 (.int .u8 128)) λt76=>
 RunS prog (Instr.buildSlice 57 1 #[(0,t76)]) w74 λt77 w78=>
 RunS prog (Builtin.append_ #[57,57] 57 #[t73,t77]) w78 λt79 w80=>
 SF 0 1 a w80 t79 λu83 w84=>
 Pu (bI .shr n51 (Value.int .u64 7)) λt85=>
 I48 [t85] w84/\m49 [t85] w84<m49 [n51] w68)
 (LF 0 a w68 λt88 w89=>
 Pu (cvI IntKind.u8 n51) λt90=>
 RunS prog (Instr.buildSlice 57 1 #[(0,t90)]) w89 λt91 w92=>
 RunS prog (Builtin.append_ #[57,57] 57 #[t88,t91]) w92 λt93 w94=>
 SF 0 1 a w94 t93 λu97 w98=>
 Pu (bI .add t7 (iv 1)) λt99=>
 I3 [t99] w98/\m4 [t99] w98<m4 [t7] w41)))
 (k (.tuple #[]) w41)))):Cl prog 248 [a,b] w k:=cE func248 h (lv:=(λj=>bif Nat.beq j 5 then[5] else bif Nat.beq j 2 then[10] else[]))
theorem c249 (h:
Bf (.pointer 391) .eql a np
 (k es w)
 (LF 0 a w λt4 w5=>
 RunS prog (convert 57 9 t4) w5 λt6 w7=>
 k t6 w7)):Cl prog 249 [a] w k:=cE func249 h
theorem c250 (h:
New (Value.cells a) 68 w λp1 w2=>
 LA 4 p1 w2 λt4 w5=>
 Pu (bo t4) λt6=>
 Pu (bI .add (iv 20) t6) λt7=>
 LA 5 p1 w5 λt9 w10=>
 Pu (lenV t9) λt11=>
 ∃(I12:LP) (m13:LN),I12 [t7,(iv 0)] w10 /\
 ∀(g28:Fr) (w27:World),∀n15 t17:Value,I12 [n15,t17] w27 ->
 (BI .lss t17 t11
 (LI 1 t9 t17 w27 λt31 w32=>
 Pu (bo t31) λt33=>
 Pu (bI .add (iv 2) t33) λt34=>
 Pu (bI .add n15 t34) λt35=>
 Pu (bI .add t17 (iv 1)) λt36=>
 I12 [t35,t36] w32/\m13 [t35,t36] w32<m13 [n15,t17] w27)
 (k n15 w27))):Cl prog 250 [a] w k:=cE func250 h (lv:=(λj=>bif Nat.beq j 3 then[3,13] else[]))
theorem c251 (h:
∃(I1:LP) (m2:LN),I1 [a,(iv 0)] w /\
 ∀(g16:Fr) (w15:World),∀c4 t5:Value,I1 [c4,t5] w15 ->
 (BI .lss t5 (iv 8)
 (Pu (ax (.int .u32) .shr c4 (Value.int .u64 1)) λt18=>
 Pu (ax (.int .u32) .and c4 (Value.int .u32 1)) λt19=>
 Pu (unV .neg t19) λt20=>
 Pu (ax (.int .u32) .and (Value.int .u32 3988292384) t20) λt21=>
 Pu (ax (.int .u32) .xor t18 t21) λt22=>
 Pu (bI .add t5 (iv 1)) λt23=>
 I1 [t22,t23] w15/\m2 [t22,t23] w15<m2 [c4,t5] w15)
 (k c4 w15))):Cl prog 251 [a] w k:=cE func251 h (lv:=(λj=>bif Nat.beq j 2 then[0,3] else[]))
theorem c254 (h:
Pu (bo a) λt1=>
 ∃(I2:LP) (m3:LN),I2 [(Value.int .u64 0),(iv 0)] w /\
 ∀(g19:Fr) (w18:World),∀n5 t7:Value,I2 [n5,t7] w18 ->
 (BI .lss t7 t1
 (Pu (ax (.int .u64) .shl n5 (Value.int .u64 8)) λt21=>
 Pu (ixS a t7) λt22=>
 Pu (cvI IntKind.u64 t22) λt23=>
 Pu (ax (.int .u64) .or t21 t23) λt24=>
 Pu (bI .add t7 (iv 1)) λt25=>
 I2 [t24,t25] w18/\m3 [t24,t25] w18<m3 [n5,t7] w18)
 (Pu (ax (.int .u64) .andNot n5 (Value.int .u64 9223372036854775808)) λt26=>
 Pu (cvI IntKind.i64 t26) λt27=>
 k t27 w18))):Cl prog 254 [a] w k:=cE func254 h (lv:=(λj=>bif Nat.beq j 3 then[3,7] else[]))
theorem c255 (h:
LF 1 a w.drew λt3 w4=>
 w4=w.drew /\
 LF 2 a w.drew λt7 w8=>
 w8=w.drew /\
 Pu (bI .rem b t7) λt9=>
 Pu (bI .add t3 t9) λt10=>
 k t10 w.drew):Cl prog 255 [a,b] w k:=cE func255 h
theorem c256 (h:
Cl prog 318 [b] w λt1 w2=>
 Cl prog 149 [a,t1] w2 λt3 w4=>
 Pu (unV .not t3) λt5=>
 GdG (isB false t5) (λkk=>Cl prog 318 [b] w4 λt6 w7=>Cl prog 319 [a,t6] w7 λt8 w9=>Pu (unV .not t8) λt10=>kk t10 w9) w4 λ_ t11 w12=>
 Pq t5 (.bool true) t11
 (k es w12)
 (Pu (slS a (some (iv 5)) none) λt14=>
 Pu (ixS a (iv 4)) λt15=>
 Pu (ixS a (iv 59)) λt16=>
 Pu (az aQ [t15,t16,(.int .u8 54)]) λt17=>
 Pu (slS t14 none (some t17)) λt18=>
 k t18 w12.drew)):Cl prog 256 [a,b] w k:=cE func256 h
theorem c257 (h:
New #[(iv 0),(iv 0),(iv 0),(.int .u8 0),(iv 0),(iv 0),(iv 0),(iv 0),(iv 0),(iv 0),es,nl,nl,nl,nl,nl] 168 w λt1 w2=>
 Cl prog 286 [a] w2 λt3 w4=>
 New #[np] 371 w4 λr5 w6=>
 St 1 w6 r5 t3 λu7 w8=>
 New #[(iv 0),(iv 0),(iv 0),(.int .u8 0),(iv 0),(iv 0),(iv 0),(iv 0),(iv 0),(iv 0),es,nl,nl,nl,nl,nl] 168 w8 λx9 w10=>
 ClV prog (.func (Fn.func 320) #[] #[r5]) [] w10 λt11 w12=>
 ClV prog (.func (Fn.func 320) #[] #[r5]) [] w12 λt13 w14=>
 ClV prog (.func (Fn.func 320) #[] #[r5]) [] w14 λt15 w16=>
 SA 0 1 x9 w16 t11 λu18 w19=>
 SA 1 1 x9 w19 t13 λu21 w22=>
 SA 2 1 x9 w22 t15 λu24 w25=>
 Ld w25 r5 λt26 w27=>
 Cl prog 321 [t26,(iv 13)] w27 λt28 w29=>
 Pu (cvI IntKind.u8 t28) λt30=>
 SA 3 1 x9 w29 t30 λu32 w33=>
 ClV prog (.func (Fn.func 320) #[] #[r5]) [] w33 λt34 w35=>
 ClV prog (.func (Fn.func 320) #[] #[r5]) [] w35 λt36 w37=>
 ClV prog (.func (Fn.func 320) #[] #[r5]) [] w37 λt38 w39=>
 ClV prog (.func (Fn.func 320) #[] #[r5]) [] w39 λt40 w41=>
 ClV prog (.func (Fn.func 320) #[] #[r5]) [] w41 λt42 w43=>
 ClV prog (.func (Fn.func 320) #[] #[r5]) [] w43 λt44 w45=>
 SA 4 1 x9 w45 t34 λu47 w48=>
 SA 5 1 x9 w48 t36 λu50 w51=>
 SA 6 1 x9 w51 t38 λu53 w54=>
 SA 7 1 x9 w54 t40 λu56 w57=>
 SA 8 1 x9 w57 t42 λu59 w60=>
 SA 9 1 x9 w60 t44 λu62 w63=>
 Ld w63 r5 λt64 w65=>
 Cl prog 287 [t64,(iv 512)] w65 λt66 w67=>
 SA 10 1 x9 w67 t66 λu69 w70=>
 ∃C71:World->Prop,C71 w70.drew /\
 (Ld w70.drew r5 λt72 w73=>
 w73=w70.drew /\
 ∃t74,(∀w75,C71 w75->Ld w75 r5 λt76 w77=>
 t76=t74/\w77=w75) /\
 (Cl prog 322 [t72,(iv 255)] w70.drew λt78 w79=>
 C71 w79 /\
 (Pu (faV 11 x9) λt80=>
 Cl prog 322 [t74,(iv 255)] w79 λt81 w82=>
 St 1 w82 t80 t78 λu83 w84=>
 SA 12 1 x9 w84 t81 λu86 w87=>
 Ld w87 r5 λt88 w89=>
 Cl prog 321 [t88,(iv 4)] w89 λt90 w91=>
 ∃(I92:LP) (m93:LN),I92 [(iv 0)] w91 /\
 ∀(g134:Fr) (w133:World),∀t100:Value,I92 [t100] w133 ->
 (BI .lss t100 t90
 (∃C136:World->Prop,C136 w133.drew /\
 (∃t137,(∀w138,C136 w138->Ld w138 r5 λt139 w140=>
 t139=t137/\w140=w138) /\
 (ClV prog (.func (Fn.func 320) #[] #[r5]) [] w133.drew λt141 w142=>
 C136 w142 /\
 (Cl prog 287 [t137,(iv 512)] w142 λt143 w144=>
 Pu (bo t143) λt145=>
 Pu (bI .sub (iv 512) t145) λt146=>
 Cl prog 63 [(Value.string (ByteArray.mk #[0])),t146] w144 λt147 w148=>
 Pu (ax .string .add t143 t147) λt149=>
 Cl prog 282 [t149] w148 λt150 w151=>
 X2 t150 λt152 t153=>
 New #[(iv 0),(iv 0),(iv 0),(iv 0),es,nl] 68 w151 λp154 w155=>
 St 6 w155 p154 t152 λu156 w157=>
 Pu (bI .neq t153 (iv 0)) λt158=>
 GdG (isB false t158) (λkk=>Ld w157 r5 λt159 w160=>Cl prog 323 [t159] w160 λt161 w162=>Pu (bI .neq t161 (iv 0)) λt163=>kk t163 w162) w157 λ_ t164 w165=>
 Pq t158 (.bool true) t164
 (LdN 16 w165 x9 λt167 w168=>
 St 16 w168 t1 t167 λu169 w170=>
 ch (bO prog (λj=>bif Nat.beq j 2 then t1 else bif Nat.beq j 3 then(.bool false) else undef) w170 [(ResultVar.cell 2 168),(ResultVar.tmp 3)]) w170 k)
 (LA 13 x9 w165 λt172 w173=>
 LdN 6 w173 p154 λt174 w175=>
 RunS prog (Instr.build 233 #[(0,t141),(1,t174)]) w175 λt176 w177=>
 RunS prog (Instr.buildSlice 165 1 #[(0,t176)]) w177 λt178 w179=>
 RunS prog (Builtin.append_ #[165,165] 165 #[t172,t178]) w179 λt180 w181=>
 SA 13 1 x9 w181 t180 λu183 w184=>
 Pu (bI .add t100 (iv 1)) λt185=>
 I92 [t185] w184/\m93 [t185] w184<m93 [t100] w133)))))
 (Ld w133 r5 λt186 w187=>
 Cl prog 321 [t186,(iv 8192)] w187 λt188 w189=>
 ∃(I190:LP) (m191:LN),I190 [(iv 0)] w189 /\
 ∀(g212:Fr) (w211:World),∀t194:Value,I190 [t194] w211 ->
 (BI .lss t194 t188
 (Ld w211 r5 λt214 w215=>
 Cl prog 323 [t214] w215 λt216 w217=>
 BI .neq t216 (iv 0)
 (LdN 16 w217 x9 λt219 w220=>
 St 16 w220 t1 t219 λu221 w222=>
 ch (bO prog (λj=>bif Nat.beq j 2 then t1 else bif Nat.beq j 3 then(.bool false) else undef) w222 [(ResultVar.cell 2 168),(ResultVar.tmp 3)]) w222 k)
 (∃C223:World->Prop,C223 w217.drew /\
 (Pu (faV 14 x9) λt224=>
 ∃t225,(∀w226,C223 w226->Ld w226 t224 λt227 w228=>
 t227=t225/\w228=w226) /\
 (ClV prog (.func (Fn.func 320) #[] #[r5]) [] w217.drew λt229 w230=>
 C223 w230 /\
 (ClV prog (.func (Fn.func 320) #[] #[r5]) [] w230 λt231 w232=>
 C223 w232 /\
 (RunS prog (Instr.build 189 #[(0,t229),(1,t231)]) w232 λt233 w234=>
 w234=w232 /\
 RunS prog (Instr.buildSlice 166 1 #[(0,t233)]) w232 λt235 w236=>
 C223 w236 /\
 (RunS prog (Builtin.append_ #[166,166] 166 #[t225,t235]) w236 λt237 w238=>
 SA 14 1 x9 w238 t237 λu240 w241=>
 Pu (bI .add t194 (iv 1)) λt242=>
 I190 [t242] w241/\m191 [t242] w241<m191 [t194] w211)))))))
 (Ld w211 r5 λt243 w244=>
 Cl prog 321 [t243,(iv 1024)] w244 λt245 w246=>
 ∃(I247:LP) (m248:LN),I247 [(iv 0)] w246 /\
 ∀(g269:Fr) (w268:World),∀t251:Value,I247 [t251] w268 ->
 (BI .lss t251 t245
 (Ld w268 r5 λt271 w272=>
 Cl prog 323 [t271] w272 λt273 w274=>
 BI .neq t273 (iv 0)
 (LdN 16 w274 x9 λt276 w277=>
 St 16 w277 t1 t276 λu278 w279=>
 ch (bO prog (λj=>bif Nat.beq j 2 then t1 else bif Nat.beq j 3 then(.bool false) else undef) w279 [(ResultVar.cell 2 168),(ResultVar.tmp 3)]) w279 k)
 (∃C280:World->Prop,C280 w274.drew /\
 (Pu (faV 15 x9) λt281=>
 ∃t282,(∀w283,C280 w283->Ld w283 t281 λt284 w285=>
 t284=t282/\w285=w283) /\
 (ClV prog (.func (Fn.func 320) #[] #[r5]) [] w274.drew λt286 w287=>
 C280 w287 /\
 (ClV prog (.func (Fn.func 320) #[] #[r5]) [] w287 λt288 w289=>
 C280 w289 /\
 (RunS prog (Instr.build 185 #[(0,t286),(1,t288)]) w289 λt290 w291=>
 w291=w289 /\
 RunS prog (Instr.buildSlice 83 1 #[(0,t290)]) w289 λt292 w293=>
 C280 w293 /\
 (RunS prog (Builtin.append_ #[83,83] 83 #[t282,t292]) w293 λt294 w295=>
 SA 15 1 x9 w295 t294 λu297 w298=>
 Pu (bI .add t251 (iv 1)) λt299=>
 I247 [t299] w298/\m248 [t299] w298<m248 [t251] w268)))))))
 (∃C300:World->Prop,C300 w268.drew /\
 (∃t301,(∀w302,C300 w302->LdN 16 w302 x9 λt303 w304=>
 t303=t301/\w304=w302) /\
 (Ld w268.drew r5 λt305 w306=>
 w306=w268.drew /\
 Cl prog 288 [t305] w268.drew λt307 w308=>
 C300 w308 /\
 (Pu (bI .eql t307 (iv 0)) λt309=>
 St 16 w308 t1 t301 λu310 w311=>
 ch (bO prog (λj=>bif Nat.beq j 2 then t1 else bif Nat.beq j 3 then t309 else undef) w311 [(ResultVar.cell 2 168),(ResultVar.tmp 3)]) w311 k))))))))))))):Cl prog 257 [a] w k:=cE func257 h (lv:=(λj=>bif Nat.beq j 24 then[110] else bif Nat.beq j 18 then[91] else bif Nat.beq j 10 then[56] else[]))
theorem c258 (h:
New (Value.cells a) 168 w λr1 w2=>
 LA 3 r1 w2 λt4 w5=>
 Pu (ax (.int .u8) .lss t4 (.int .u8 1)) λt6=>
 GdG (isB false t6) (λkk=>LA 3 r1 w5 λt8 w9=>Pu (ax (.int .u8) .gtr t8 (.int .u8 13)) λt10=>kk t10 w9) w5 λ_ t11 w12=>
 Pq t6 (.bool true) t11
 (k (.tuple #[es,(iv 41)]) w12)
 (LA 0 r1 w12 λt15 w16=>
 Pu (bI .lss t15 (iv 1)) λt17=>
 GdG (isB false t17) (λkk=>LdN 16 w16 r1 λt18 w19=>Cl prog 324 [t18] w19 λt20 w21=>Cl prog 103 [t20,(.func (.func 325) #[] #[])] w21 kk) w16 λ_ t22 w23=>
 Pq t17 (.bool true) t22
 (k (.tuple #[es,(iv 4)]) w23)
 (LA 10 r1 w23 λt26 w27=>
 Pu (bo t26) λt28=>
 Pu (bI .gtr t28 (iv 512)) λt29=>
 GdG (isB false t29) (λkk=>LA 11 r1 w27 λt31 w32=>Pu (lenV t31) λt33=>Pu (bI .gtr t33 (iv 255)) λt34=>kk t34 w32) w27 λ_ t35 w36=>
 Pu (aD t29 (.bool true) t35) λt37=>
 GdG (isB false t37) (λkk=>LA 12 r1 w36 λt39 w40=>Pu (lenV t39) λt41=>Pu (bI .gtr t41 (iv 255)) λt42=>kk t42 w40) w36 λ_ t43 w44=>
 Pu (aD t37 (.bool true) t43) λt45=>
 GdG (isB false t45) (λkk=>LA 13 r1 w44 λt47 w48=>Pu (lenV t47) λt49=>Pu (bI .gtr t49 (iv 4)) λt50=>kk t50 w48) w44 λ_ t51 w52=>
 Pu (aD t45 (.bool true) t51) λt53=>
 GdG (isB false t53) (λkk=>LA 14 r1 w52 λt55 w56=>Pu (lenV t55) λt57=>Pu (bI .gtr t57 (iv 8192)) λt58=>kk t58 w56) w52 λ_ t59 w60=>
 Pu (aD t53 (.bool true) t59) λt61=>
 GdG (isB false t61) (λkk=>LA 15 r1 w60 λt63 w64=>Pu (lenV t63) λt65=>Pu (bI .gtr t65 (iv 1024)) λt66=>kk t66 w64) w60 λ_ t67 w68=>
 Pq t61 (.bool true) t67
 (k (.tuple #[es,(iv 3)]) w68)
 (LdN 16 w68 r1 λt70 w71=>
 Cl prog 326 [t70] w71 λt72 w73=>
 X2 t72 λt74 t75=>
 k (.tuple #[t74,t75]) w73)))):Cl prog 258 [a] w k:=cE func258 h
theorem c259 (h:
New (Value.cells a) 168 w λr1 w2=>
 LdN 16 w2 r1 λt3 w4=>
 Cl prog 258 [t3] w4 λt5 w6=>
 X2 t5 λt7 t8=>
 BI .neq t8 (iv 0)
 (k (.tuple #[es,t8]) w6)
 (Pu (bo t7) λt10=>
 Cl prog 159 [t10,(iv 4)] w6 λt11 w12=>
 Cl prog 160 [t7] w12 λt13 w14=>
 Pu (cvI IntKind.i64 t13) λt15=>
 Cl prog 159 [t15,(iv 4)] w14 λt16 w17=>
 Pu (ax .string .add t11 t16) λt18=>
 Pu (ax .string .add t18 t7) λt19=>
 k (.tuple #[t19,(iv 0)]) w17)):Cl prog 259 [a] w k:=cE func259 h
theorem c260 (h:
∃C1:World->Prop,C1 w.drew /\
 (Pu (bB a) λt2=>
 Pu (faV 3 t2) λt3=>
 ∃t4,(∀w5,C1 w5->Ld w5 t3 λt6 w7=>
 t6=t4/\w7=w5) /\
 (Cl prog 166 [b] w.drew λt8 w9=>
 C1 w9 /\
 (Pu (bI .sub t8 t4) λt10=>
 LF 4 a w9.drew λt13 w14=>
 w14=w9.drew /\
 Pu (bI .add t10 (iv 54)) λt15=>
 LF 4 a w9.drew λt18 w19=>
 w19=w9.drew /\
 Pu (lenV t18) λt20=>
 Pu (az aQ [t15,t20]) λt21=>
 Pu (slV 1 t13 (some t10) (some t21) none) λt22=>
 RunS prog (convert 57 9 t22) w9.drew λt23 w24=>
 w24=w9.drew /\
 k t23 w9.drew)))):Cl prog 260 [a,b] w k:=cE func260 h
theorem c261 (h:
Pu (bo b) λt1=>
 Pu (cvI IntKind.u8 t1) λt2=>
 RunS prog (Instr.buildSlice 57 1 #[(0,t2)]) w λt3 w4=>
 RunS prog (convert 57 9 t3) w4 λt5 w6=>
 Cl prog 318 [a] w6 λt7 w8=>
 Pu (ax .string .add t7 t5) λt9=>
 Pu (ax .string .add t9 b) λt10=>
 Pu (bo b) λt11=>
 Pu (bI .sub (iv 54) t11) λt12=>
 Cl prog 63 [(Value.string (ByteArray.mk #[0])),t12] w8 λt13 w14=>
 Pu (ax .string .add t10 t13) λt15=>
 Pu (ax .string .add t15 t5) λt16=>
 Cl prog 318 [a] w14 λt17 w18=>
 Pu (ax .string .add t16 t17) λt19=>
 k t19 w18):Cl prog 261 [a,b] w k:=cE func261 h
theorem c276 (h:
New (Value.cells a) 65 w λp1 w2=>
 Ld w2 p1 λt3 w4=>
 Bf (.pointer 281) .eql t3 np
 (k (.tuple #[]) w4)
 (Ld w4 p1 λt6 w7=>
 LF 5 t6 w7 λt10 w11=>
 Cl prog 340 [t10,(.func (Fn.func 341) #[] #[p1])] w11 λt12 w13=>
 k (.tuple #[]) w13)):Cl prog 276 [a] w k:=cE func276 h
theorem c281 (h:
New #[(iv 0),(iv 0),(iv 0),(iv 0),es,nl] 68 w λt1 w2=>
 Pu (bB a) λt3=>
 Pu (faV 0 t3) λt4=>
 LdN 6 w2 t4 λt5 w6=>
 New #[(iv 0),(iv 0),(iv 0),(iv 0),es,nl] 68 w6 λp7 w8=>
 St 6 w8 p7 t5 λu9 w10=>
 LA 5 p7 w10 λt12 w13=>
 Cl prog 232 [t12] w13 λt14 w15=>
 SA 5 1 p7 w15 t14 λu17 w18=>
 LdN 6 w18 p7 λt19 w20=>
 St 6 w20 t1 t19 λu21 w22=>
 ch (bO prog (λj=>bif Nat.beq j 2 then t1 else undef) w22 [(ResultVar.cell 2 68)]) w22 k):Cl prog 281 [a] w k:=cE func281 h
theorem c282 (h:
New #[(iv 0),(iv 0),(iv 0),(iv 0),es,nl] 68 w λt1 w2=>
 Pu (bo a) λt3=>
 BI .neq t3 (iv 512)
 (RunS prog (Instr.build 68 #[]) w2 λt5 w6=>
 St 6 w6 t1 t5 λu7 w8=>
 ch (bO prog (λj=>bif Nat.beq j 2 then t1 else bif Nat.beq j 3 then(iv 31) else undef) w8 [(ResultVar.cell 2 68),(ResultVar.tmp 3)]) w8 k)
 (Pu (slS a (some (iv 4)) none) λt9=>
 Pu (slS a none (some (iv 4))) λt10=>
 Cl prog 160 [t9] w2.drew λt11 w12=>
 Pu (cvI IntKind.i64 t11) λt13=>
 Cl prog 159 [t13,(iv 4)] w12 λt14 w15=>
 Pu (ax .string .neq t14 t10) λt16=>
 IfB t16
 (RunS prog (Instr.build 68 #[]) w15 λt17 w18=>
 St 6 w18 t1 t17 λu19 w20=>
 ch (bO prog (λj=>bif Nat.beq j 2 then t1 else bif Nat.beq j 3 then(iv 30) else undef) w20 [(ResultVar.cell 2 68),(ResultVar.tmp 3)]) w20 k)
 (Jn (λv37 w36=>∀g38:Fr,∃p22:Value,v37=[p22] /\
 (Pu (slS a (some (iv 20)) none) λt39=>
 New #[es] 9 w36 λr40 w41=>
 St 1 w41 r40 t39 λu42 w43=>
 Pu (ixS a (iv 19)) λt44=>
 Pu (cvI IntKind.i64 t44) λt45=>
 Cl prog 344 [r40,t45] w43 λt46 w47=>
 X2 t46 λt48 t49=>
 SA 4 1 p22 w47 t48 λu51 w52=>
 Pu (ixS a (iv 18)) λt53=>
 Pu (cvI IntKind.i64 t53) λt54=>
 ∃(I55:LP) (m56:LN),I55 [(iv 0)] w52 /\
 ∀(g90:Fr) (w89:World),∀t63:Value,I55 [t63] w89 ->
 (BI .lss t63 t54
 (Cl prog 344 [r40,(iv 2)] w89 λt92 w93=>
 X2 t92 λt94 t95=>
 Cl prog 254 [t94] w93 λt96 w97=>
 Cl prog 344 [r40,t96] w97 λt98 w99=>
 X2 t98 λt100 t101=>
 Pu (unV .not t95) λt102=>
 GdG (isB false t102) (λkk=>Pu (unV .not t101) λt103=>kk t103 w99) w99 λ_ t104 w105=>
 Pq t102 (.bool true) t104
 (RunS prog (Instr.build 68 #[]) w105 λt107 w108=>
 St 6 w108 t1 t107 λu109 w110=>
 ch (bO prog (λj=>bif Nat.beq j 2 then t1 else bif Nat.beq j 3 then(iv 31) else undef) w110 [(ResultVar.cell 2 68),(ResultVar.tmp 3)]) w110 k)
 (LA 5 p22 w105 λt112 w113=>
 RunS prog (Instr.buildSlice 66 1 #[(0,t100)]) w113 λt114 w115=>
 RunS prog (Builtin.append_ #[66,66] 66 #[t112,t114]) w115 λt116 w117=>
 SA 5 1 p22 w117 t116 λu119 w120=>
 Pu (bI .add t63 (iv 1)) λt121=>
 I55 [t121] w120/\m56 [t121] w120<m56 [t63] w89))
 (Ld w89 r40 λt122 w123=>
 Cl prog 345 [t122,(Value.string (ByteArray.mk #[0]))] w123 λt124 w125=>
 Pu (ax .string .neq t124 es) λt126=>
 GdG (isB false t126) (λkk=>Pu (ixS a (iv 4)) λt127=>Pu (ax (.int .u8) .gtr t127 (.int .u8 127)) λt128=>kk t128 w125) w125 λ_ t129 w130=>
 Pu (aD t126 (.bool true) t129) λt131=>
 GdG (isB false t131) (λkk=>LA 1 p22 w130 λt133 w134=>Pu (bI .lss t133 (iv 1)) λt135=>kk t135 w134) w130 λ_ t136 w137=>
 Pu (aD t131 (.bool true) t136) λt138=>
 GdG (isB false t138) (λkk=>LA 1 p22 w137 λt140 w141=>Pu (bI .gtr t140 (iv 3)) λt142=>kk t142 w141) w137 λ_ t143 w144=>
 Pq t138 (.bool true) t143
 (RunS prog (Instr.build 68 #[]) w144 λt146 w147=>
 St 6 w147 t1 t146 λu148 w149=>
 ch (bO prog (λj=>bif Nat.beq j 2 then t1 else bif Nat.beq j 3 then(iv 31) else undef) w149 [(ResultVar.cell 2 68),(ResultVar.tmp 3)]) w149 k)
 (LdN 6 w144 p22 λt150 w151=>
 St 6 w151 t1 t150 λu152 w153=>
 ch (bO prog (λj=>bif Nat.beq j 2 then t1 else bif Nat.beq j 3 then(iv 0) else undef) w153 [(ResultVar.cell 2 68),(ResultVar.tmp 3)]) w153 k)))))
 (λj21=>
 ∃C154:World->Prop,C154 w15.drew /\
 (Pu (slS a (some (iv 4)) (some (iv 12))) λt155=>
 Pu (ixS a (iv 12)) λt156=>
 Pu (cvI IntKind.i64 t156) λt157=>
 Pu (ixS a (iv 13)) λt158=>
 Pu (cvI IntKind.i64 t158) λt159=>
 Pu (slS a (some (iv 14)) (some (iv 18))) λt160=>
 (Cl prog 254 [t155] w15.drew λt161 w162=>
 C154 w162 /\
 ((Cl prog 254 [t160] w162 λt163 w164=>
 C154 w164 /\
 (∃t165,(∀w166,C154 w166->RunS prog (Instr.build 68 #[(0,t161),(1,t157),(2,t159),(3,t163)]) w166 λt167 w168=>
 t167=t165/\w168=w166) /\
 (New #[(iv 0),(iv 0),(iv 0),(iv 0),es,nl] 68 w164 λp169 w170=>
 C154 w170 /\
 (St 6 w170 p169 t165 λu171 w172=>
 j21 [p169] w172)))) /\
 (New #[(iv 0),(iv 0),(iv 0),(iv 0),es,nl] 68 w162 λp173 w174=>
 C154 w174 /\
 (Cl prog 254 [t160] w174 λt175 w176=>
 C154 w176 /\
 (RunS prog (Instr.build 68 #[(0,t161),(1,t157),(2,t159),(3,t175)]) w176 λt177 w178=>
 w178=w176 /\
 St 6 w176 p173 t177 λu179 w180=>
 j21 [p173] w180))) /\
 True)) /\
 (New #[(iv 0),(iv 0),(iv 0),(iv 0),es,nl] 68 w15.drew λp181 w182=>
 C154 w182 /\
 (Cl prog 254 [t155] w182 λt183 w184=>
 C154 w184 /\
 (Cl prog 254 [t160] w184 λt185 w186=>
 C154 w186 /\
 (RunS prog (Instr.build 68 #[(0,t183),(1,t157),(2,t159),(3,t185)]) w186 λt187 w188=>
 w188=w186 /\
 St 6 w186 p181 t187 λu189 w190=>
 j21 [p181] w190)))) /\
 True))))):Cl prog 282 [a] w k:=cE func282 h (lv:=(λj=>bif Nat.beq j 9 then[49] else[])) (jn:=(λj=>bif Nat.beq j 6 then some [4] else none))
theorem c283 (h:
Cl prog 238 [a,(iv (-1))] w λt1 w2=>
 Bf (.pointer 283) .neq t1 np
 (k (.tuple #[t1,(iv 0)]) w2)
 (LF 4 a w2 λt6 w7=>
 Pu (lenV t6) λt8=>
 LF 4 a w7.drew λt11 w12=>
 w12=w7.drew /\
 Pu (bI .rem b t8) λt13=>
 Pu (bI .add t13 t8) λt14=>
 Pu (bI .rem t14 t8) λt15=>
 Pu (ixV 8 t11 t15) λt16=>
 Jn (λv32 w31=>∀g33:Fr,v32=[] /\
 (RunS prog (Instr.build 283 #[(1,(iv (-1)))]) w31 λt34 w35=>
 Pu (bB t16) λt36=>
 St 8 w35 t36 t34 λu37 w38=>
 k (.tuple #[t16,(iv 0)]) w38))
 (λj17=>
 LF 7 t16 w7.drew λt41 w42=>
 IfB t41
 (Cl prog 239 [a,t16] w42 λt43 w44=>
 BI .neq t43 (iv 0)
 (k (.tuple #[np,t43]) w44)
 (j17 [] w44))
 (j17 [] w42)))):Cl prog 283 [a,b] w k:=cE func283 h (jn:=(λj=>bif Nat.beq j 10 then some [] else none))
theorem c286 (h:
RunS prog (Instr.build 411 #[(0,a)]) w λt1 w2=>
 New (Value.cells t1) 411 w2 λt3 w4=>
 k t3 w4):Cl prog 286 [a] w k:=cE func286 h
theorem c287 (h:
Cl prog 321 [a,b] w λt1 w2=>
 Pu (ax (.pointer 411) .eql a np) λt3=>
 GdG (isB false t3) (λkk=>LF 1 a w2 λt6 w7=>Pu (bI .neq t6 (iv 0)) λt8=>kk t8 w7) w2 λ_ t9 w10=>
 Pq t3 (.bool true) t9
 (k es w10)
 (LF 0 a w10 λt14 w15=>
 Pu (bo t14) λt16=>
 BI .gtr t1 t16
 (Cl prog 346 [a,(iv 10)] w15 λt18 w19=>
 k es w19)
 (LF 0 a w15 λt22 w23=>
 Pu (slS t22 none (some t1)) λt24=>
 LF 0 a w23 λt27 w28=>
 Pu (slS t27 (some t1) none) λt29=>
 SF 0 1 a w28 t29 λu32 w33=>
 k t24 w33))):Cl prog 287 [a,b] w k:=cE func287 h
theorem c288 (h:
Cl prog 323 [a] w λt1 w2=>
 Pu (bI .eql t1 (iv 0)) λt3=>
 GdG (isB true t3) (λkk=>Cl prog 347 [a] w2 λt4 w5=>Pu (bI .gtr t4 (iv 0)) λt6=>kk t6 w5) w2 λ_ t7 w8=>
 Pq t3 t7 (.bool false)
 (k (iv 12) w8)
 (Cl prog 323 [a] w8 λt10 w11=>
 k t10 w11)):Cl prog 288 [a] w k:=cE func288 h
theorem c298 (h:
Bf (.pointer 281) .eql a np
 (k (.bool false) w)
 (LF 5 a w λt4 w5=>
 RunS prog (Instr.lookup 275 t4 b true) w5 λt6 w7=>
 X2 t6 λt8 t9=>
 k t9 w7)):Cl prog 298 [a,b] w k:=cE func298 h
theorem c318 (h:
Pu (bI .add a (iv 1)) λt1=>
 Pu (bI .rem t1 (iv 4294967296)) λt2=>
 Cl prog 159 [t2,(iv 4)] w λt3 w4=>
 k t3 w4):Cl prog 318 [a] w k:=cE func318 h
theorem c319 (h:
Cl prog 379 [a,b] w λt1 w2=>
 k t1 w2):Cl prog 319 [a,b] w k:=cE func319 h
theorem c320 (h:
Ld w a λt1 w2=>
 Cl prog 321 [t1,(iv 4611686018427387904)] w2 λt3 w4=>
 k t3 w4):Cl prog 320 [a] w k:=cE func320 h
theorem c321 (h:
Pu (ax (.pointer 411) .eql a np) λt1=>
 GdG (isB false t1) (λkk=>LF 1 a w λt4 w5=>Pu (bI .neq t4 (iv 0)) λt6=>kk t6 w5) w λ_ t7 w8=>
 Pq t1 (.bool true) t7
 (k (iv 0) w8)
 (∃(I10:LP) (m11:LN),I10 [(iv 0),(iv 0)] w8 /\
 ∀(g75:Fr) (w74:World),∀n14 t17:Value,I10 [n14,t17] w74 ->
 (BI .lss t17 (iv 9)
 (LF 0 a w74 λt79 w80=>
 Pu (bo t79) λt81=>
 BI .geq t17 t81
 (Cl prog 346 [a,(iv 10)] w80 λt83 w84=>
 k t83 w84)
 (LF 0 a w80 λt87 w88=>
 Pu (ixS t87 t17) λt89=>
 Pu (ax (.int .u8) .and t89 (.int .u8 127)) λt90=>
 Pu (cvI IntKind.i64 t90) λt91=>
 Pu (bI .mul (iv 7) t17) λt92=>
 Pu (bI .shl t91 t92) λt93=>
 Pu (bI .or n14 t93) λt94=>
 Pu (ax (.int .u8) .eql t89 (.int .u8 0)) λt95=>
 GdG (isB true t95) (λkk=>Pu (bI .gtr t17 (iv 0)) λt96=>kk t96 w88) w88 λ_ t97 w98=>
 Pq t95 t97 (.bool false)
 (Cl prog 346 [a,(iv 11)] w98 λt100 w101=>
 k t100 w101)
 (Bf (.int .u8) .geq t89 (.int .u8 128)
 (Pu (bI .add t17 (iv 1)) λt103=>
 I10 [t94,t103] w98/\m11 [t94,t103] w98<m11 [n14,t17] w74)
 (Pu (az aP [b,(iv 0)]) λt104=>
 BI .gtr t94 t104
 (Cl prog 346 [a,(iv 11)] w98 λt106 w107=>
 k t106 w107)
 (LF 0 a w98 λt110 w111=>
 Pu (bI .add t17 (iv 1)) λt112=>
 Pu (slS t110 (some t112) none) λt113=>
 SF 0 1 a w111 t113 λu116 w117=>
 k t94 w117)))))
 (Cl prog 346 [a,(iv 11)] w74 λt118 w119=>
 k t118 w119)))):Cl prog 321 [a,b] w k:=cE func321 h (lv:=(λj=>bif Nat.beq j 5 then[5,17] else[]))
theorem c322 (h:
Jn (λv18 w17=>∀g19:Fr,∃o2:Value,v18=[o2] /\
 (k o2 w17))
 (λj1=>
 Cl prog 321 [a,b] w λt20 w21=>
 ∃(I22:LP) (m23:LN),I22 [nl,(iv 0)] w21 /\
 ∀(g38:Fr) (w37:World),∀o25 t26:Value,I22 [o25,t26] w37 ->
 (BI .lss t26 t20
 (Cl prog 321 [a,(iv 4611686018427387904)] w37 λt40 w41=>
 RunS prog (Instr.buildSlice 25 1 #[(0,t40)]) w41 λt42 w43=>
 RunS prog (Builtin.append_ #[25,25] 25 #[o25,t42]) w43 λt44 w45=>
 Cl prog 323 [a] w45 λt46 w47=>
 BI .neq t46 (iv 0)
 (j1 [t44] w47)
 (Pu (bI .add t26 (iv 1)) λt49=>
 I22 [t44,t49] w47/\m23 [t44,t49] w47<m23 [o25,t26] w37))
 (j1 [o25] w37)))):Cl prog 322 [a,b] w k:=cE func322 h (lv:=(λj=>bif Nat.beq j 3 then[5,9] else[])) (jn:=(λj=>bif Nat.beq j 7 then some [5] else none))
theorem c323 (h:
Bf (.pointer 411) .eql a np
 (k (iv 2) w)
 (LF 1 a w λt4 w5=>
 k t4 w5)):Cl prog 323 [a] w k:=cE func323 h
theorem c324 (h:
New (Value.cells a) 168 w λr1 w2=>
 LA 0 r1 w2 λt4 w5=>
 LA 1 r1 w5 λt7 w8=>
 LA 2 r1 w8 λt10 w11=>
 LA 9 r1 w11 λt13 w14=>
 LA 4 r1 w14 λt16 w17=>
 LA 5 r1 w17 λt19 w20=>
 LA 6 r1 w20 λt22 w23=>
 LA 7 r1 w23 λt25 w26=>
 LA 8 r1 w26 λt28 w29=>
 RunS prog (Instr.buildSlice 25 9 #[(0,t4),(1,t7),(2,t10),(3,t13),(4,t16),(5,t19),(6,t22),(7,t25),(8,t28)]) w29 λt30 w31=>
 ∃C32:World->Prop,C32 w31.drew /\
 (LA 11 r1 w31.drew λt34 w35=>
 w35=w31.drew /\
 Pu (faV 12 r1) λt36=>
 ∃t37,(∀w38,C32 w38->Ld w38 t36 λt39 w40=>
 t39=t37/\w40=w38) /\
 (RunS prog (Builtin.append_ #[25,25] 25 #[t30,t34]) w31.drew λt41 w42=>
 C32 w42 /\
 (RunS prog (Builtin.append_ #[25,25] 25 #[t41,t37]) w42 λt43 w44=>
 LA 13 r1 w44 λt46 w47=>
 Pu (lenV t46) λt48=>
 ∃(I49:LP) (m50:LN),I49 [t43,(iv 0)] w47 /\
 ∀(g65:Fr) (w64:World),∀l52 t54:Value,I49 [l52,t54] w64 ->
 (BI .lss t54 t48
 (Pu (ixV 7 t46 t54) λt67=>
 LdN 7 w64 t67 λt68 w69=>
 New #[(iv 0),(iv 0),(iv 0),(iv 0),(iv 0),es,nl] 233 w69 λm70 w71=>
 St 7 w71 m70 t68 λu72 w73=>
 LA 0 m70 w73 λt75 w76=>
 RunS prog (Instr.buildSlice 25 1 #[(0,t75)]) w76 λt77 w78=>
 RunS prog (Builtin.append_ #[25,25] 25 #[l52,t77]) w78 λt79 w80=>
 Pu (bI .add t54 (iv 1)) λt81=>
 I49 [t79,t81] w80/\m50 [t79,t81] w80<m50 [l52,t54] w64)
 (LA 14 r1 w64 λt83 w84=>
 Pu (lenV t83) λt85=>
 ∃(I86:LP) (m87:LN),I86 [l52,(iv 0)] w84 /\
 ∀(g104:Fr) (w103:World),∀l89 t91:Value,I86 [l89,t91] w103 ->
 (BI .lss t91 t85
 (Pu (ixV 2 t83 t91) λt106=>
 LdN 2 w103 t106 λt107 w108=>
 New #[(iv 0),(iv 0)] 189 w108 λp109 w110=>
 St 2 w110 p109 t107 λu111 w112=>
 LA 0 p109 w112 λt114 w115=>
 LA 1 p109 w115 λt117 w118=>
 RunS prog (Instr.buildSlice 25 2 #[(0,t114),(1,t117)]) w118 λt119 w120=>
 RunS prog (Builtin.append_ #[25,25] 25 #[l89,t119]) w120 λt121 w122=>
 Pu (bI .add t91 (iv 1)) λt123=>
 I86 [t121,t123] w122/\m87 [t121,t123] w122<m87 [l89,t91] w103)
 (LA 15 r1 w103 λt125 w126=>
 Pu (lenV t125) λt127=>
 ∃(I128:LP) (m129:LN),I128 [l89,(iv 0)] w126 /\
 ∀(g146:Fr) (w145:World),∀l131 t133:Value,I128 [l131,t133] w145 ->
 (BI .lss t133 t127
 (Pu (ixV 2 t125 t133) λt148=>
 LdN 2 w145 t148 λt149 w150=>
 New #[(iv 0),(iv 0)] 185 w150 λt151 w152=>
 St 2 w152 t151 t149 λu153 w154=>
 LA 0 t151 w154 λt156 w157=>
 LA 1 t151 w157 λt159 w160=>
 RunS prog (Instr.buildSlice 25 2 #[(0,t156),(1,t159)]) w160 λt161 w162=>
 RunS prog (Builtin.append_ #[25,25] 25 #[l131,t161]) w162 λt163 w164=>
 Pu (bI .add t133 (iv 1)) λt165=>
 I128 [t163,t165] w164/\m129 [t163,t165] w164<m129 [l131,t133] w145)
 (k l131 w145)))))))))):Cl prog 324 [a] w k:=cE func324 h (lv:=(λj=>bif Nat.beq j 14 then[3,67] else bif Nat.beq j 9 then[3,52] else bif Nat.beq j 4 then[3,39] else[]))
theorem c325 (h:
Pu (bI .lss a (iv 0)) λt1=>
 GdG (isB false t1) (λkk=>Pu (bI .gtr a (iv 4611686018427387904)) λt2=>kk t2 w) w λ_ t3 w4=>
 Pu (aD t1 (.bool true) t3) λt5=>
 k t5 w4):Cl prog 325 [a] w k:=cE func325 h
theorem c326 (h:
New (Value.cells a) 168 w λr1 w2=>
 Cl prog 247 [] w2 λt3 w4=>
 LA 0 r1 w4 λt6 w7=>
 LA 1 r1 w7 λt9 w10=>
 LA 2 r1 w10 λt12 w13=>
 LA 3 r1 w13 λt15 w16=>
 Pu (cvI IntKind.i64 t15) λt17=>
 LA 4 r1 w16 λt19 w20=>
 LA 5 r1 w20 λt22 w23=>
 LA 6 r1 w23 λt25 w26=>
 LA 7 r1 w26 λt28 w29=>
 LA 8 r1 w29 λt31 w32=>
 LA 9 r1 w32 λt34 w35=>
 RunS prog (Instr.buildSlice 25 10 #[(0,t6),(1,t9),(2,t12),(3,t17),(4,t19),(5,t22),(6,t25),(7,t28),(8,t31),(9,t34)]) w35 λt36 w37=>
 Cl prog 248 [t3,t36] w37 λt38 w39=>
 LA 10 r1 w39 λt41 w42=>
 Cl prog 380 [t3,t41] w42 λt43 w44=>
 LA 11 r1 w44 λt46 w47=>
 LA 12 r1 w47 λt49 w50=>
 RunS prog (Instr.build 441 #[(0,t46),(1,t49)]) w50 λt51 w52=>
 ∃(I53:LP) (m54:LN),I53 [(iv 0)] w52 /\
 ∀(g70:Fr) (w69:World),∀t57:Value,I53 [t57] w69 ->
 (BI .lss t57 (iv 2)
 (Pu (ixG false 2 1 t51 t57) λt72=>
 Pu (lenV t72) λt73=>
 RunS prog (Instr.buildSlice 25 1 #[(0,t73)]) w69 λt74 w75=>
 Cl prog 248 [t3,t74] w75 λt76 w77=>
 Cl prog 248 [t3,t72] w77 λt78 w79=>
 Pu (bI .add t57 (iv 1)) λt80=>
 I53 [t80] w79/\m54 [t80] w79<m54 [t57] w69)
 (LA 13 r1 w69 λt82 w83=>
 Pu (lenV t82) λt84=>
 RunS prog (Instr.buildSlice 25 1 #[(0,t84)]) w83 λt85 w86=>
 Cl prog 248 [t3,t85] w86 λt87 w88=>
 LA 13 r1 w88 λt90 w91=>
 Pu (lenV t90) λt92=>
 ∃(I93:LP) (m94:LN),I93 [(iv 0)] w91 /\
 ∀(g125:Fr) (w124:World),∀t101:Value,I93 [t101] w124 ->
 (BI .lss t101 t92
 (Pu (ixV 7 t90 t101) λt127=>
 LdN 7 w124 t127 λt128 w129=>
 New #[(iv 0),(iv 0),(iv 0),(iv 0),(iv 0),es,nl] 233 w129 λm130 w131=>
 St 7 w131 m130 t128 λu132 w133=>
 Pu (faV 1 m130) λt134=>
 LdN 6 w133 t134 λt135 w136=>
 Cl prog 66 [t135] w136 λt137 w138=>
 X2 t137 λt139 t140=>
 BI .neq t140 (iv 0)
 (k (.tuple #[es,t140]) w138)
 (LA 0 m130 w138 λt143 w144=>
 RunS prog (Instr.buildSlice 25 1 #[(0,t143)]) w144 λt145 w146=>
 Cl prog 248 [t3,t145] w146 λt147 w148=>
 Cl prog 381 [t139,(Value.string (ByteArray.mk #[0]))] w148 λt149 w150=>
 Cl prog 380 [t3,t149] w150 λt151 w152=>
 Pu (bI .add t101 (iv 1)) λt153=>
 I93 [t153] w152/\m94 [t153] w152<m94 [t101] w124))
 (LA 14 r1 w124 λt155 w156=>
 Pu (lenV t155) λt157=>
 RunS prog (Instr.buildSlice 25 1 #[(0,t157)]) w156 λt158 w159=>
 Cl prog 248 [t3,t158] w159 λt160 w161=>
 LA 14 r1 w161 λt163 w164=>
 Pu (lenV t163) λt165=>
 ∃(I166:LP) (m167:LN),I166 [(iv 0)] w164 /\
 ∀(g183:Fr) (w182:World),∀t170:Value,I166 [t170] w182 ->
 (BI .lss t170 t165
 (Pu (ixV 2 t163 t170) λt185=>
 LdN 2 w182 t185 λt186 w187=>
 New #[(iv 0),(iv 0)] 189 w187 λp188 w189=>
 St 2 w189 p188 t186 λu190 w191=>
 LA 0 p188 w191 λt193 w194=>
 LA 1 p188 w194 λt196 w197=>
 RunS prog (Instr.buildSlice 25 2 #[(0,t193),(1,t196)]) w197 λt198 w199=>
 Cl prog 248 [t3,t198] w199 λt200 w201=>
 Pu (bI .add t170 (iv 1)) λt202=>
 I166 [t202] w201/\m167 [t202] w201<m167 [t170] w182)
 (LA 15 r1 w182 λt204 w205=>
 Pu (lenV t204) λt206=>
 RunS prog (Instr.buildSlice 25 1 #[(0,t206)]) w205 λt207 w208=>
 Cl prog 248 [t3,t207] w208 λt209 w210=>
 LA 15 r1 w210 λt212 w213=>
 Pu (lenV t212) λt214=>
 ∃(I215:LP) (m216:LN),I215 [(iv 0)] w213 /\
 ∀(g232:Fr) (w231:World),∀t219:Value,I215 [t219] w231 ->
 (BI .lss t219 t214
 (Pu (ixV 2 t212 t219) λt234=>
 LdN 2 w231 t234 λt235 w236=>
 New #[(iv 0),(iv 0)] 185 w236 λt237 w238=>
 St 2 w238 t237 t235 λu239 w240=>
 LA 0 t237 w240 λt242 w243=>
 LA 1 t237 w243 λt245 w246=>
 RunS prog (Instr.buildSlice 25 2 #[(0,t242),(1,t245)]) w246 λt247 w248=>
 Cl prog 248 [t3,t247] w248 λt249 w250=>
 Pu (bI .add t219 (iv 1)) λt251=>
 I215 [t251] w250/\m216 [t251] w250<m216 [t219] w231)
 (Cl prog 249 [t3] w231 λt252 w253=>
 Pu (bo t252) λt254=>
 BI .gtr t254 (iv 65535)
 (k (.tuple #[es,(iv 3)]) w253)
 (k (.tuple #[t252,(iv 0)]) w253)))))))))):Cl prog 326 [a] w k:=cE func326 h (lv:=(λj=>bif Nat.beq j 28 then[124] else bif Nat.beq j 22 then[103] else bif Nat.beq j 12 then[71] else bif Nat.beq j 5 then[50] else[]))
theorem c340 (h:
RunS prog (Instr.range 275 a) w λt1 w2=>
 ∃(I3:LP) (m4:LN),I3 [] w2 /\
 ∀(g20:Fr) (w19:World),I3 [] w19 ->
 (RunS prog (Instr.next t1 false 0) w19 λt21 w22=>
 Pu (bj t21 0) λt23=>
 IfB t23
 (RunS prog (Instr.entry t1) w22 λt24 w25=>
 X2 t24 λt26 t27=>
 ClV prog b [t26,t27] w25 λt28 w29=>
 IfB t28
 (RunS prog (Builtin.delete_ #[275,3] 0 #[a,t26]) w29 λu30 w31=>
 I3 [] w31/\m4 [] w31<m4 [] w19)
 (I3 [] w29/\m4 [] w29<m4 [] w19))
 (k (.tuple #[]) w22))):Cl prog 340 [a,b] w k:=cE func340 h (lv:=(λj=>bif Nat.beq j 1 then[] else[]))
theorem c341 (h:
Ld w c λb w2=>
 Cl prog 238 [b,a] w2 λt3 w4=>
 Pu (ax (.pointer 283) .eql t3 np) λt5=>
 GdG (isB false t5) (λkk=>LF 7 t3 w4 λt8 w9=>Pu (unV .not t8) λt10=>kk t10 w9) w4 λ_ t11 w12=>
 Pu (aD t5 (.bool true) t11) λt13=>
 k t13 w12):Cl prog 341 [a,b,c] w k:=cE func341 h
theorem c344 (h:
Pu (bB a) λt1=>
 Ld w t1 λt2 w3=>
 Pu (bo t2) λt4=>
 BI .gtr b t4
 (k (.tuple #[es,(.bool false)]) w3)
 (Pu (bB a) λt6=>
 Ld w3 t6 λt7 w8=>
 Pu (slS t7 none (some b)) λt9=>
 Pu (bB a) λt10=>
 Ld w8 t10 λt11 w12=>
 Pu (slS t11 (some b) none) λt13=>
 Pu (bB a) λt14=>
 St 1 w12 t14 t13 λu15 w16=>
 k (.tuple #[t9,(.bool true)]) w16)):Cl prog 344 [a,b] w k:=cE func344 h
theorem c346 (h:
SF 0 1 a w es λu3 w4=>
 SF 1 1 a w4 b λu7 w8=>
 k (iv 0) w8):Cl prog 346 [a,b] w k:=cE func346 h
theorem c347 (h:
Bf (.pointer 411) .eql a np
 (k (iv 0) w)
 (LF 0 a w λt4 w5=>
 Pu (bo t4) λt6=>
 k t6 w5)):Cl prog 347 [a] w k:=cE func347 h
theorem c379 (h:
Pu (bo a) λt1=>
 Pu (bo b) λt2=>
 Pu (bI .geq t1 t2) λt3=>
 GdG (isB true t3) (λkk=>Pu (bo a) λt4=>Pu (bo b) λt5=>Pu (bI .sub t4 t5) λt6=>Pu (slS a (some t6) none) λt7=>Pu (ax .string .eql t7 b) λt8=>kk t8 w) w λ_ t9 w10=>
 Pu (aD t3 t9 (.bool false)) λt11=>
 k t11 w10):Cl prog 379 [a,b] w k:=cE func379 h
theorem c380 (h:
Bf (.pointer 391) .eql a np
 (k (.tuple #[]) w)
 (Pu (bo b) λt2=>
 RunS prog (Instr.buildSlice 25 1 #[(0,t2)]) w λt3 w4=>
 Cl prog 248 [a,t3] w4 λt5 w6=>
 LF 0 a w6 λt9 w10=>
 RunS prog (Builtin.append_ #[57,9] 57 #[t9,b]) w10 λt11 w12=>
 SF 0 1 a w12 t11 λu15 w16=>
 k (.tuple #[]) w16)):Cl prog 380 [a,b] w k:=cE func380 h
theorem c381 (h:
Pu (ax .string .eql a es) λt1=>
 GdG (isB false t1) (λkk=>Pu (ax .string .eql b es) λt2=>kk t2 w) w λ_ t3 w4=>
 Pq t1 (.bool true) t3
 (k a w4)
 (Pu (bo b) λt6=>
 Pu (bI .eql t6 (iv 1)) λt7=>
 GdG (isB true t7) (λkk=>Pu (ixS b (iv 0)) λt8=>Pu (ax (.int .u8) .lss t8 (.int .u8 128)) λt9=>kk t9 w4) w4 λ_ t10 w11=>
 Pq t7 t10 (.bool false)
 (Pu (ixS b (iv 0)) λt13=>
 Cl prog 395 [a,t13] w11 λt14 w15=>
 k t14 w15)
 (Cl prog 396 [b] w11 λt16 w17=>
 X2 t16 λt18 t19=>
 New #[(.bool false),(.bool false),(.bool false),(.bool false),(.bool false),(.bool false),(.bool false),(.bool false),(.bool false),(.bool false),(.bool false),(.bool false),(.bool false),(.bool false),(.bool false),(.bool false),(.bool false),(.bool false),(.bool false),(.bool false),(.bool false),(.bool false),(.bool false),(.bool false),(.bool false),(.bool false),(.bool false),(.bool false),(.bool false),(.bool false),(.bool false),(.bool false),(.bool false),(.bool false),(.bool false),(.bool false),(.bool false),(.bool false),(.bool false),(.bool false),(.bool false),(.bool false),(.bool false),(.bool false),(.bool false),(.bool false),(.bool false),(.bool false),(.bool false),(.bool false),(.bool false),(.bool false),(.bool false),(.bool false),(.bool false),(.bool false),(.bool false),(.bool false),(.bool false),(.bool false),(.bool false),(.bool false),(.bool false),(.bool false),(.bool false),(.bool false),(.bool false),(.bool false),(.bool false),(.bool false),(.bool false),(.bool false),(.bool false),(.bool false),(.bool false),(.bool false),(.bool false),(.bool false),(.bool false),(.bool false),(.bool false),(.bool false),(.bool false),(.bool false),(.bool false),(.bool false),(.bool false),(.bool false),(.bool false),(.bool false),(.bool false),(.bool false),(.bool false),(.bool false),(.bool false),(.bool false),(.bool false),(.bool false),(.bool false),(.bool false),(.bool false),(.bool false),(.bool false),(.bool false),(.bool false),(.bool false),(.bool false),(.bool false),(.bool false),(.bool false),(.bool false),(.bool false),(.bool false),(.bool false),(.bool false),(.bool false),(.bool false),(.bool false),(.bool false),(.bool false),(.bool false),(.bool false),(.bool false),(.bool false),(.bool false),(.bool false),(.bool false),(.bool false),(.bool false),(.bool false),(.bool false),(.bool false),(.bool false),(.bool false),(.bool false),(.bool false),(.bool false),(.bool false),(.bool false),(.bool false),(.bool false),(.bool false),(.bool false),(.bool false),(.bool false),(.bool false),(.bool false),(.bool false),(.bool false),(.bool false),(.bool false),(.bool false),(.bool false),(.bool false),(.bool false),(.bool false),(.bool false),(.bool false),(.bool false),(.bool false),(.bool false),(.bool false),(.bool false),(.bool false),(.bool false),(.bool false),(.bool false),(.bool false),(.bool false),(.bool false),(.bool false),(.bool false),(.bool false),(.bool false),(.bool false),(.bool false),(.bool false),(.bool false),(.bool false),(.bool false),(.bool false),(.bool false),(.bool false),(.bool false),(.bool false),(.bool false),(.bool false),(.bool false),(.bool false),(.bool false),(.bool false),(.bool false),(.bool false),(.bool false),(.bool false),(.bool false),(.bool false),(.bool false),(.bool false),(.bool false),(.bool false),(.bool false),(.bool false),(.bool false),(.bool false),(.bool false),(.bool false),(.bool false),(.bool false),(.bool false),(.bool false),(.bool false),(.bool false),(.bool false),(.bool false),(.bool false),(.bool false),(.bool false),(.bool false),(.bool false),(.bool false),(.bool false),(.bool false),(.bool false),(.bool false),(.bool false),(.bool false),(.bool false),(.bool false),(.bool false),(.bool false),(.bool false),(.bool false),(.bool false),(.bool false),(.bool false),(.bool false),(.bool false),(.bool false),(.bool false),(.bool false),(.bool false),(.bool false),(.bool false),(.bool false),(.bool false),(.bool false),(.bool false),(.bool false),(.bool false),(.bool false),(.bool false),(.bool false),(.bool false),(.bool false),(.bool false)] 457 w17 λa20 w21=>
 St 256 w21 a20 t18 λu22 w23=>
 IfB t19
 (Cl prog 398 [a,a20] w23 λt24 w25=>
 k t24 w25)
 (Cl prog 400 [a,b] w23 λt26 w27=>
 k t26 w27)))):Cl prog 381 [a,b] w k:=cE func381 h
theorem c395 (h:
∃(I1:LP) (m2:LN),I1 [a] w /\
 ∀(g23:Fr) (w22:World),∀s4:Value,I1 [s4] w22 ->
 (Pu (bo s4) λt24=>
 Pu (bI .gtr t24 (iv 0)) λt25=>
 GdG (isB true t25) (λkk=>Pu (bo s4) λt26=>Pu (bI .sub t26 (iv 1)) λt27=>Pu (ixS s4 t27) λt28=>Pu (ax (.int .u8) .eql t28 b) λt29=>kk t29 w22) w22 λ_ t30 w31=>
 Pq t25 t30 (.bool false)
 (Pu (bo s4) λt33=>
 Pu (bI .sub t33 (iv 1)) λt34=>
 Pu (slS s4 none (some t34)) λt35=>
 I1 [t35] w31/\m2 [t35] w31<m2 [s4] w22)
 (k s4 w31))):Cl prog 395 [a,b] w k:=cE func395 h (lv:=(λj=>bif Nat.beq j 1 then[0] else[]))
abbrev pv(b:Nat):Value:=.pointer (some ⟨b,0,none⟩)
theorem Fmf{a b c:World}(h:Fm (λ_=>False) a b)(k:Fm (λ_=>False) b c):Fm (λ_=>False) a c:=h.trans k iT iT
theorem Fm.own{S:Nat->Prop}{a b c:World}(h:Fm (λ_=>False) a b)(k:Fm S b c)(hS:∀x,S x->a.heap.size<=x):Fm (λ_=>False) a c:=h.trans k iT (λx hx e=>by have:=hS x e;omega)
abbrev In(n:Int):Prop := -9223372036854775808<=n/\n<=9223372036854775807
theorem B38:ByteT prog 57 5 9:=sh Tryz.underlying57 Tryz.underlying5 Tryz.underlying9 (by kernel_rfl)
theorem Ah{c:Nat}(hc:c<2 ^ 32):∃x y:Value,unV .neg (uv (c &&& 1))=some x/\ax (TypeDesc.int .u32) .and (Value.int .u32 3988292384) x=some y/\ax (TypeDesc.int .u32) .xor (uv (c / 2)) y=some (uv (vw c)):=by
 rw[Nat.and_one_is_mod];unfold vw;have h2:c % 2=0\/c % 2=1:=by omega
 rcases h2 with h2|h2
 ·rw[h2];exact⟨uv 0,uv 0,rfl,rfl,by rw[nZ _ (by omega) (by omega)];rfl⟩
 ·rw[h2,if_pos rfl];exact⟨uv 4294967295,uv 3988292384,rfl,rfl,by rw[nZ _ (by omega) (by omega)]⟩
theorem oD:∀(k c:Nat),lJ (k+1) c=vw (lJ k c)
 | 0,c=>rfl
 | k+1,c=>by rw[lJ,oD k];rfl
theorem rO(w:World){c:Nat}(hc:c<2 ^ 32):Cl prog 251 [uv c] w λr w'=>r=uv (lJ 8 c)/\w'=w:=by
 refine c251 ?_;refine⟨λvs w2=>∃i:Nat,vs=[uv (lJ i c),iv i]/\i<=8/\w2=w,λvs _=>(8 - nth vs 1).toNat,⟨0,rfl,by omega,rfl⟩,?_⟩;rintro _ w2 cv ivv ⟨i,hvs,hi,rfl⟩;cases hvs;have hl:=nr i hc;by_cases hlt:i<8
 ·have e1:decide ((i:Int)<8)=true:=by rw[decide_eq_true_eq];omega
  have e2:IntKind.i64.wrap ((i:Int)+1)=((i+1:Nat):Int):=by rw[af]<;>omega
  obtain⟨x,y,h1,h2,h3⟩:=Ah hl;have s1:ax (TypeDesc.int .u32) .shr (uv (lJ i c)) (Value.int .u64 1)=some (uv (lJ i c / 2)):=yL _ (k:=1) (by omega) .u64 rfl;have a1:ax (TypeDesc.int .u32) .and (uv (lJ i c)) (Value.int .u32 1)=some (uv (lJ i c &&& 1)):=vK _ hl (b:=1) (by omega);simp only[RS,e1,s1,a1,h1,h2,h3,e2];exact⟨⟨i+1,by rw[oD],by omega,(by trivial)⟩,by simp only[cN];omega⟩
 ·obtain rfl:i=8:=by omega
  have e1:decide (((8:Nat):Int)<8)=false:=by simp
  simp only[RS,e1];exact⟨(by trivial),(by trivial)⟩
theorem wM{l:Bs}{i:Nat}{b:UInt8}(c:Nat)(h:l[i]?=some b):Cn c (l.take (i+1))=EF (Cn c (l.take i)) b:=by unfold Cn;rw[List.take_add_one,h,List.foldl_append];rfl
theorem jL(w:World)(l:Bs)(hl:l.length<=9223372036854775806):Cl prog 160 [stv l] w λr w'=>r=uv (crc l)/\w'=w:=by
 refine c160 ?_;simp only[RS,aq];refine⟨λvs w2=>∃i:Nat,vs=[uv (Cn 4294967295 (l.take i)),iv i]/\i<=l.length/\w2=w,λvs _=>(l.length - nth vs 1).toNat,⟨0,rfl,by omega,rfl⟩,?_⟩;rintro _ w2 cv ivv ⟨i,hvs,hi,rfl⟩;cases hvs;have hc:=qz (l.take i) (c:=4294967295) (by omega);by_cases hlt:i<l.length
 ·have e1:decide ((i:Int)<(l.length:Int))=true:=by rw[decide_eq_true_eq];omega
  have e2:IntKind.i64.wrap ((i:Int)+1)=((i+1:Nat):Int):=by rw[af]<;>omega
  have hx:l[i]?=some l[i]:=List.getElem?_eq_getElem hlt;generalize l[i]=b at hx;have hst:=wM 4294967295 hx;generalize Cn 4294967295 (l.take i)=c at hc hst;rw[tQ] at hst;have hb:=b.toNat_lt;have s1:ax (TypeDesc.int .u32) .shr (uv c) (Value.int .u64 8)=some (uv (c / 256)):=yL _ (k:=8) (by omega) .u64 rfl;have a1:ax (TypeDesc.int .u32) .and (uv c) (Value.int .u32 255)=some (uv (c % 256)):=by have:=vK (TypeDesc.int .u32) hc (b:=255) (by omega);rw[show c &&& 255=c % 256 from Nat.and_two_pow_sub_one_eq_mod c 8] at this;exact this
  have q1:IntKind.u32.wrap (b.toNat:Int)=(b.toNat:Int):=jM (by omega);have x1:=nZ (TypeDesc.int .u32) (a:=c % 256) (b:=b.toNat) (by omega) (by omega);have hx2:c % 256 ^^^ b.toNat<2 ^ 32:=Nat.xor_lt_two_pow (by omega) (by omega);simp only[RS,e1,s1,a1,iW hx,bR,q1,x1];refine(rO w2 hx2).mono ?_;rintro _ _ ⟨rfl,rfl⟩;have x2:=nZ (TypeDesc.int .u32) (a:=c / 256) (b:=lJ 8 (c % 256 ^^^ b.toNat)) (by omega) (nr 8 hx2);simp only[RS,x2,e2];exact⟨⟨i+1,by rw[hst],by omega,(by trivial)⟩,by simp only[cN];omega⟩
 ·have hie:i=l.length:=by omega
  subst hie;have e1:decide (((l.length:Nat):Int)<(l.length:Int))=false:=by simp
  rw[List.take_length] at hc ⊢;simp only[RS,e1,CP hc];exact⟨(by trivial),(by trivial)⟩
theorem qa(l:Bs){i:Nat}{b:UInt8}(h:l[i]?=some b)(n:Nat)(hn:i<n):(l.take i++List.replicate (n - i) (0:UInt8)).set i b=l.take (i+1)++List.replicate (n - (i+1)) (0:UInt8):=by have hl:=(List.getElem?_eq_some_iff.1 h).1;rw[List.set_append_right _ _ (by rw[List.length_take];omega),List.length_take,Nat.min_eq_left (by omega),Nat.sub_self];rw[show n - i=(n - (i+1))+1 by omega,List.replicate_succ,List.set_cons_zero,List.take_add_one,h];simp
theorem bu(w:World){n:Int}(hn:In n)(k:Int):Cl prog 159 [iv n,iv k] w λr w'=>r=stv (eX n k)/\Fm (λ_=>False) w w':=by
 refine c159 ?_;unfold eX;cases h1:decide (k<1) with
 | true=>simp only[RS,h1,Bool.true_or,cond_true];exact⟨(by trivial),Fm.refl _ _⟩
 | false=>
 cases h2:decide (8<k) with
 | true=>simp only[RS,h1,h2,Bool.true_or,Bool.or_true,cond_true];exact⟨(by trivial),Fm.refl _ _⟩
 | false=>
 cases h3:decide (n<0) with
 | true=>simp only[RS,h1,h2,h3,Bool.true_or,Bool.or_true,cond_true];exact⟨(by trivial),Fm.refl _ _⟩
 | false=>
 rw[decide_eq_false_iff_not] at h1 h2 h3;obtain⟨x,rfl⟩:=Int.eq_ofNat_of_zero_le (show 0<=n by omega);obtain⟨m,rfl⟩:=Int.eq_ofNat_of_zero_le (show 0<=k by omega);have g1:decide ((Int.ofNat m)<1)=false:=by rw[decide_eq_false_iff_not];exact h1
 have g2:decide (8<(Int.ofNat m))=false:=by rw[decide_eq_false_iff_not];exact h2
 have g3:decide ((Int.ofNat x)<0)=false:=by rw[decide_eq_false_iff_not];exact h3
 have hm:1<=m/\m<=8:=by omega
 have hx:x<=9223372036854775807:=by have:=hn.2;omega
 have g1':decide ((m:Int)<1)=false:=g1;have g2':decide (8<(m:Int))=false:=g2;have g3':decide ((x:Int)<0)=false:=g3;simp only[RS,g1',g2',g3',Bool.or_false,cond_false,Int.toNat_natCast];refine ag (BRow.make B38 w m (by omega)) ?_;have hb1:=aA w (.cells (bc (List.replicate m 0)).toArray 5);have hf1:=Fm.alloc (λ_=>False) w (.cells (bc (List.replicate m 0)).toArray 5);have hg:=Nat.le_refl w.heap.size;generalize hge:w.heap.size=g at hb1;generalize w.alloc (.cells (bc (List.replicate m 0)).toArray 5)=w1 at hb1 hf1
 replace hb1:BRow w1 g 5 (List.replicate m 0):=hb1
 simp only[RS];refine⟨λvs w2=>∃i:Nat,vs=[iv i]/\i<=m/\BRow w2 g 5 ((beN m x).take i++List.replicate (m - i) 0)/\Fm (λ_=>False) w w2,λvs _=>(m - nth vs 0).toNat,⟨0,rfl,by omega,by simpa using hb1,hf1⟩,?_⟩;rintro _ w2 ivv ⟨i,hvs,hi,hb2,hf2⟩;cases hvs;by_cases hlt:i<m
 ·have e1:decide ((i:Int)<(m:Int))=true:=by rw[decide_eq_true_eq];omega
  have e2:IntKind.i64.wrap ((i:Int)+1)=((i+1:Nat):Int):=by rw[af]<;>omega
  have e3:IntKind.i64.wrap ((m:Int) - 1)=((m - 1:Nat):Int):=by rw[af]<;>omega
  have e4:IntKind.i64.wrap (((m - 1:Nat):Int) - i)=((m - 1 - i:Nat):Int):=by rw[af]<;>omega
  have e5:IntKind.i64.wrap (8*((m - 1 - i:Nat):Int))=((8*(m - 1 - i):Nat):Int):=by rw[af]<;>omega
  have e6:=yK x (8*(m - 1 - i)) (by omega) (TypeDesc.int .i64) .i64;have hget:=vR m x i hlt;have hpw:x / 2 ^ (8*(m - 1 - i))=x / 256 ^ (m - 1 - i):=by rw[Nat.pow_mul]
  have hval:IntKind.u8.wrap ((x / 2 ^ (8*(m - 1 - i)):Nat):Int)=(((UInt8.ofNat (x / 256 ^ (m - 1 - i) % 256)).toNat:Nat):Int):=by rw[lF,fp (by omega),hpw]
  generalize UInt8.ofNat (x / 256 ^ (m - 1 - i) % 256)=b at hget hval;have hix:ixV 1 (.slice (some ⟨g,0,none⟩) m m) (iv i)=some (.pointer (some ⟨g,i,none⟩)):=by rw[dU hlt,aC];simp
  simp only[RS,e1,e3,e4,e5,e6,bR,hval,hix];refine BRow.put hb2 (b:=b) (by simp[aI];omega) ?_;intro w3 hb3 hs3 hf3;rw[qa _ hget m hlt] at hb3;simp only[RS,e2];exact⟨⟨i+1,rfl,by omega,hb3,Fm.own hf2 hf3 (by rintro y rfl;omega)⟩,by simp only[ba];omega⟩
 ·obtain rfl:i=m:=by omega
  have e1:decide ((i:Int)<(i:Int))=false:=by simp
  have hfull:(beN i x).take i++List.replicate (i - i) (0:UInt8)=beN i x:=by rw[Nat.sub_self,List.take_of_length_le (by rw[aI];exact Nat.le_refl _)];simp
  rw[hfull] at hb2;simp only[RS,e1];refine ag (BRow.conv B38 hb2 (o:=0) (n:=i) (by rw[aI];omega) i) ?_;refine⟨?_,hf2⟩;rw[List.drop_zero,List.take_of_length_le (by rw[aI];exact Nat.le_refl _)]
theorem kx{α β:Type}(f:β->α->β)(b:β){l:List α}{i:Nat}{x:α}(hi:l[i]?=some x):(l.take (i+1)).foldl f b=f ((l.take i).foldl f b) x:=by rw[List.take_add_one,hi,List.foldl_append];rfl
theorem cZ(w:World)(l:Bs)(hl:l.length<=9223372036854775806):Cl prog 254 [stv l] w λr w'=>r=iv (ofN l:Nat)/\w'=w:=by
 refine c254 ?_;simp only[RS,aq];refine⟨λvs w2=>∃i:Nat,vs=[qv (BG (l.take i)),iv i]/\i<=l.length/\w2=w,λvs _=>(l.length - nth vs 1).toNat,⟨0,rfl,by omega,rfl⟩,?_⟩;rintro _ w2 cv ivv ⟨i,hvs,hi,rfl⟩;cases hvs;have hc:BG (l.take i)<2 ^ 64:=by rw[xR];omega
 by_cases hlt:i<l.length
 ·have e1:decide ((i:Int)<(l.length:Int))=true:=by rw[decide_eq_true_eq];omega
  have e2:IntKind.i64.wrap ((i:Int)+1)=((i+1:Nat):Int):=by rw[af]<;>omega
  have hx:l[i]?=some l[i]:=List.getElem?_eq_getElem hlt;generalize l[i]=b at hx;have hst:BG (l.take (i+1))=(BG (l.take i)*256+b.toNat) % 2 ^ 64:=kx _ _ hx;generalize BG (l.take i)=c at hc hst;have hb:=b.toNat_lt;have q1:IntKind.u64.wrap (b.toNat:Int)=(b.toNat:Int):=eM (by omega);have o1:=EZ (TypeDesc.int .u64) (a:=c*256 % 2 ^ 64) (b:=b.toNat) (by omega) (by omega) (by omega);simp only[RS,e1,Dj,iW hx,bR,q1,o1,e2];refine⟨⟨i+1,?_,by omega,(by trivial)⟩,by simp only[cN];omega⟩;rw[hst];congr 3;omega
 ·have hie:i=l.length:=by omega
  subst hie;have e1:decide (((l.length:Nat):Int)<(l.length:Int))=false:=by simp
  rw[List.take_length] at hc ⊢;have q1:IntKind.i64.wrap ((BG l % 2 ^ 63:Nat):Int)=((BG l % 2 ^ 63:Nat):Int):=dJ (by omega);simp only[RS,e1,DA _ hc,bR,q1];refine⟨?_,(by trivial)⟩;rw[ofN,xR];congr 2;omega
end Go.Proofs.YtmdmffeoehfjgaaGreatDoor
namespace Go.Proofs
open Go.RowKit Go.Shelf Go.Sort
def Tryz.lays105_ren:Go.Shelf.Ren:=⟨λ|105=>63|212=>148|99=>149|165=>150|166=>151|170=>152|169=>153|263=>242|264=>243|206=>244|240=>245|241=>246|276=>316|277=>317|n=>n,λ|9=>9|3=>3|4=>4|20=>20|0=>0|46=>247|109=>248|5=>5|72=>253|76=>257|51=>263|146=>340|53=>342|148=>343|70=>251|37=>57|75=>256|127=>345|164=>388|80=>259|n=>n,λ|n=>n⟩
theorem Tryz.lays105:Go.Proofs.Lays.n105 prog Tryz.lays105_ren:={
 mixed:=by kernel_rfl
 f99:=Tryz.func149.trans (congrArg some (by kernel_rfl))
 f105:=Tryz.func63.trans (congrArg some (by kernel_rfl))
 f165:=Tryz.func150.trans (congrArg some (by kernel_rfl))
 f166:=Tryz.func151.trans (congrArg some (by kernel_rfl))
 f169:=Tryz.func153.trans (congrArg some (by kernel_rfl))
 f170:=Tryz.func152.trans (congrArg some (by kernel_rfl))
 f206:=Tryz.func244.trans (congrArg some (by kernel_rfl))
 f212:=Tryz.func148.trans (congrArg some (by kernel_rfl))
 f240:=Tryz.func245.trans (congrArg some (by kernel_rfl))
 f241:=Tryz.func246.trans (congrArg some (by kernel_rfl))
 f263:=Tryz.func242.trans (congrArg some (by kernel_rfl))
 f264:=Tryz.func243.trans (congrArg some (by kernel_rfl))
 f276:=Tryz.func316.trans (congrArg some (by kernel_rfl))
 f277:=Tryz.func317.trans (congrArg some (by kernel_rfl))
 t0:=Tryz.underlying0
 a0:=Tryz.isAgg0
 z0:=Tryz.sizeOf0
 v0:=Tryz.zeroValue0
 t3:=Tryz.underlying3
 a3:=Tryz.isAgg3
 z3:=Tryz.sizeOf3
 v3:=Tryz.zeroValue3
 t4:=Tryz.underlying4
 a4:=Tryz.isAgg4
 z4:=Tryz.sizeOf4
 v4:=Tryz.zeroValue4
 t5:=Tryz.underlying5
 a5:=Tryz.isAgg5
 z5:=Tryz.sizeOf5
 v5:=Tryz.zeroValue5
 t9:=Tryz.underlying9
 a9:=Tryz.isAgg9
 z9:=Tryz.sizeOf9
 v9:=Tryz.zeroValue9
 t20:=Tryz.underlying20
 a20:=Tryz.isAgg20
 z20:=Tryz.sizeOf20
 v20:=Tryz.zeroValue20
 t37:=Tryz.underlying57
 a37:=Tryz.isAgg57
 z37:=Tryz.sizeOf57
 v37:=Tryz.zeroValue57
 t46:=Tryz.underlying247
 a46:=Tryz.isAgg247
 z46:=Tryz.sizeOf247
 v46:=Tryz.zeroValue247
 t51:=Tryz.underlying263
 a51:=Tryz.isAgg263
 z51:=Tryz.sizeOf263
 v51:=Tryz.zeroValue263
 t53:=Tryz.underlying342
 a53:=Tryz.isAgg342
 z53:=Tryz.sizeOf342
 v53:=Tryz.zeroValue342
 t70:=Tryz.underlying251
 a70:=Tryz.isAgg251
 z70:=Tryz.sizeOf251
 v70:=Tryz.zeroValue251
 t72:=Tryz.underlying253
 a72:=Tryz.isAgg253
 z72:=Tryz.sizeOf253
 v72:=Tryz.zeroValue253
 t75:=Tryz.underlying256
 a75:=Tryz.isAgg256
 z75:=Tryz.sizeOf256
 v75:=Tryz.zeroValue256
 t76:=Tryz.underlying257
 a76:=Tryz.isAgg257
 z76:=Tryz.sizeOf257
 v76:=Tryz.zeroValue257
 t109:=Tryz.underlying248
 a109:=Tryz.isAgg248
 z109:=Tryz.sizeOf248
 v109:=Tryz.zeroValue248
 t127:=Tryz.underlying345
 a127:=Tryz.isAgg345
 z127:=Tryz.sizeOf345
 v127:=Tryz.zeroValue345
 t146:=Tryz.underlying340
 a146:=Tryz.isAgg340
 z146:=Tryz.sizeOf340
 v146:=Tryz.zeroValue340
 t148:=Tryz.underlying343
 a148:=Tryz.isAgg343
 z148:=Tryz.sizeOf343
 v148:=Tryz.zeroValue343
 t164:=Tryz.underlying388
 a164:=Tryz.isAgg388
 z164:=Tryz.sizeOf388
 v164:=Tryz.zeroValue388 }
def Tryz.j8:Go.Shelf.Ren:=⟨λ|160=>345|232=>395|231=>394|227=>396|234=>398|233=>397|236=>400|235=>399|228=>425|271=>428|151=>427|197=>426|120=>444|152=>443|260=>442|137=>451|119=>452|224=>453|225=>454|217=>456|266=>457|n=>n,λ|9=>9|4=>4|3=>3|5=>5|117=>458|116=>457|0=>0|124=>461|21=>21|105=>483|46=>247|119=>501|139=>504|138=>503|n=>n,λ|3=>1|4=>2|n=>n⟩
theorem Tryz.uP:Go.Proofs.Lays.n160 prog Tryz.j8:={
 mixed:=by kernel_rfl
 f119:=Tryz.func452.trans (congrArg some (by kernel_rfl))
 f120:=Tryz.func444.trans (congrArg some (by kernel_rfl))
 f137:=Tryz.func451.trans (congrArg some (by kernel_rfl))
 f151:=Tryz.func427.trans (congrArg some (by kernel_rfl))
 f152:=Tryz.func443.trans (congrArg some (by kernel_rfl))
 f160:=Tryz.func345.trans (congrArg some (by kernel_rfl))
 f197:=Tryz.func426.trans (congrArg some (by kernel_rfl))
 f217:=Tryz.func456.trans (congrArg some (by kernel_rfl))
 f224:=Tryz.func453.trans (congrArg some (by kernel_rfl))
 f225:=Tryz.func454.trans (congrArg some (by kernel_rfl))
 f227:=Tryz.func396.trans (congrArg some (by kernel_rfl))
 f228:=Tryz.func425.trans (congrArg some (by kernel_rfl))
 f231:=Tryz.func394.trans (congrArg some (by kernel_rfl))
 f232:=Tryz.func395.trans (congrArg some (by kernel_rfl))
 f233:=Tryz.func397.trans (congrArg some (by kernel_rfl))
 f234:=Tryz.func398.trans (congrArg some (by kernel_rfl))
 f235:=Tryz.func399.trans (congrArg some (by kernel_rfl))
 f236:=Tryz.func400.trans (congrArg some (by kernel_rfl))
 f260:=Tryz.func442.trans (congrArg some (by kernel_rfl))
 f266:=Tryz.func457.trans (congrArg some (by kernel_rfl))
 f271:=Tryz.func428.trans (congrArg some (by kernel_rfl))
 t0:=Tryz.underlying0
 a0:=Tryz.isAgg0
 z0:=Tryz.sizeOf0
 v0:=Tryz.zeroValue0
 t3:=Tryz.underlying3
 a3:=Tryz.isAgg3
 z3:=Tryz.sizeOf3
 v3:=Tryz.zeroValue3
 t4:=Tryz.underlying4
 a4:=Tryz.isAgg4
 z4:=Tryz.sizeOf4
 v4:=Tryz.zeroValue4
 t5:=Tryz.underlying5
 a5:=Tryz.isAgg5
 z5:=Tryz.sizeOf5
 v5:=Tryz.zeroValue5
 t9:=Tryz.underlying9
 a9:=Tryz.isAgg9
 z9:=Tryz.sizeOf9
 v9:=Tryz.zeroValue9
 t21:=Tryz.underlying21
 a21:=Tryz.isAgg21
 z21:=Tryz.sizeOf21
 v21:=Tryz.zeroValue21
 t46:=Tryz.underlying247
 a46:=Tryz.isAgg247
 z46:=Tryz.sizeOf247
 v46:=Tryz.zeroValue247
 t105:=Tryz.underlying483
 a105:=Tryz.isAgg483
 z105:=Tryz.sizeOf483
 v105:=Tryz.zeroValue483
 t116:=Tryz.underlying457
 a116:=Tryz.isAgg457
 z116:=Tryz.sizeOf457
 t117:=Tryz.underlying458
 a117:=Tryz.isAgg458
 z117:=Tryz.sizeOf458
 v117:=Tryz.zeroValue458
 t119:=Tryz.underlying501
 a119:=Tryz.isAgg501
 z119:=Tryz.sizeOf501
 t124:=Tryz.underlying461
 a124:=Tryz.isAgg461
 z124:=Tryz.sizeOf461
 v124:=Tryz.zeroValue461
 t138:=Tryz.underlying503
 a138:=Tryz.isAgg503
 z138:=Tryz.sizeOf503
 v138:=Tryz.zeroValue503
 t139:=Tryz.underlying504
 a139:=Tryz.isAgg504
 z139:=Tryz.sizeOf504
 v139:=Tryz.zeroValue504
 g3:=by kernel_rfl
 g4:=by kernel_rfl }
def Tryz.fF:Go.Shelf.Ren:=⟨λ|22=>416|29=>438|30=>439|36=>450|17=>455|n=>n,λ|24=>66|9=>9|3=>3|4=>4|0=>0|n=>n,λ|n=>n⟩
theorem Tryz.lT:Go.Proofs.Lays2.n22 prog Tryz.fF:={
 mixed:=by kernel_rfl
 f17:=Tryz.func455.trans (congrArg some (by kernel_rfl))
 f22:=Tryz.func416.trans (congrArg some (by kernel_rfl))
 f29:=Tryz.func438.trans (congrArg some (by kernel_rfl))
 f30:=Tryz.func439.trans (congrArg some (by kernel_rfl))
 f36:=Tryz.func450.trans (congrArg some (by kernel_rfl))
 t0:=Tryz.underlying0
 a0:=Tryz.isAgg0
 z0:=Tryz.sizeOf0
 v0:=Tryz.zeroValue0
 t3:=Tryz.underlying3
 a3:=Tryz.isAgg3
 z3:=Tryz.sizeOf3
 v3:=Tryz.zeroValue3
 t4:=Tryz.underlying4
 a4:=Tryz.isAgg4
 z4:=Tryz.sizeOf4
 v4:=Tryz.zeroValue4
 t9:=Tryz.underlying9
 a9:=Tryz.isAgg9
 z9:=Tryz.sizeOf9
 v9:=Tryz.zeroValue9
 t24:=Tryz.underlying66
 a24:=Tryz.isAgg66
 z24:=Tryz.sizeOf66
 v24:=Tryz.zeroValue66
 i9:=by kernel_rfl }
theorem Tryz.bldExtra:Builder.Extra prog Tryz.lays105_ren where
 sizeBuilder:=by kernel_rfl
 liesBuilder:=by kernel_rfl
 t5:=Tryz.lays105.t5
 a5:=Tryz.lays105.a5
 z5:=Tryz.lays105.z5
 v5:=Tryz.lays105.v5
 infoByte:=by kernel_rfl
 cellsByte:=by kernel_rfl
 sizeByte:=by kernel_rfl
 neB5:=by decide
namespace YtmdmffeoehfjgaaGreatDoor
open Go.Al Go.Proofs
theorem Fm.nE{B:Nat}{w w':World}(h:Below B w w'):Fm (λx=>B<=x) w w':=⟨h.os,h.tape,h.output,h.size,λb hb hs=>h.block b (by omega)⟩
def Bld(w:World)(b:Nat)(l:Bs):Prop:=Lib.IsBuilderF 253 5 b b (bc l) w
theorem Bld.lt{w:World}{b:Nat}{l:Bs}(h:Bld w b l):b<w.heap.size:=by rcases h with h|h<;>exact h.lt
theorem Bld.new{w:World}{b:Nat}(h:w.heap[b]?=some (.cells #[.pointer none,.slice none 0 0] 253)):Bld w b []:=Lib.IsBuilderF.of (.inl ⟨Nat.le_refl _,_,h,World.ownsRow_nil _ _ _ _,by simp[Value.ownBlock]⟩)
theorem Bld.keep{w w':World}{b:Nat}{l:Bs}(h:Bld w b l)(hf:Fm (λ_=>False) w w'):Bld w' b l:=by
 have key:∀p,Lib.BuilderAtF 253 5 b b p (bc l) w->Lib.BuilderAtF 253 5 b b p (bc l) w':=by
  rintro p ⟨h1,v,h2,h3,h4⟩;refine⟨h1,v,hf.heap h2 id,?_,h4⟩;obtain⟨g1,g2⟩:=h3;refine⟨g1,?_⟩;rcases g2 with g2|⟨g,cap,cur,fz,r1,r2,r3,r4⟩
  ·exact .inl g2
  ·exact .inr ⟨g,cap,cur,fz,r1,r2,hf.heap r3 id,r4⟩
 rcases h with h|h
 ·exact .inl (key _ h)
 ·exact .inr (key _ h)
theorem bU{w:World}{b:Nat}{l:Bs}(h:Bld w b l)(s:Bs)(hlen:l.length+s.length<=140737488355328):Cl prog 151 [pv b,stv s] w λ_ w'=>Bld w' b (l++s)/\Fm (λx=>b<=x) w w':=by have c:Calls prog 151 #[pv b,stv s] w λe w'=>e=.returned (.tuple #[.int .i64 (str s).size,.nilIface])/\(Lib.BuilderAtF 253 5 b b (pv b) (bc l++Lib.strCells (str s)) w'/\Below b w w'/\Lib.OthersKept 5 (some b) w w'):=Any.Builder_WriteString_k (ρ:=Tryz.lays105_ren) { Tryz.lays105 with } Tryz.bldExtra b b (bc l) (str s) w h (by rw[bX,aq];exact hlen) (Nat.le_of_lt h.lt);refine fa c λe w' ⟨h1,h2,h3,_⟩=>⟨_,h1,?_,Fm.nE h3⟩;rw[show Lib.strCells (str s)=bc s from rfl,<- dt] at h2;exact .inr h2
theorem wA{w:World}{b:Nat}{l:Bs}(h:Bld w b l):Cl prog 152 [pv b] w λv w'=>v=iv l.length/\w'=w:=by have c:Calls prog 152 #[pv b] w λe w'=>e=.returned (.int .i64 (bc l).length)/\w'=w:=Any.Builder_Len_f (ρ:=Tryz.lays105_ren) { Tryz.lays105 with } b b (bc l) w h;rw[bX] at c;exact fa c λe w' ⟨h1,h2⟩=>⟨_,h1,rfl,h2⟩
theorem eZ{w:World}{b:Nat}{l:Bs}(h:Bld w b l):Cl prog 153 [pv b] w λv w'=>v=stv l/\Bld w' b l/\Fm (λx=>b<=x) w w':=by have c:Calls prog 153 #[pv b] w λe w'=>e=.returned (.string ⟨l.toArray⟩)/\(Lib.IsBuilderF 253 5 b b (Lib.byteCells l) w'/\Below b w w'/\Lib.OthersKept 5 (some b) w w'):=Any.Builder_String_any_k (ρ:=Tryz.lays105_ren) { Tryz.lays105 with } Tryz.bldExtra b b l w h (Nat.le_of_lt h.lt);exact fa c λe w' ⟨h1,h2,h3,_⟩=>⟨_,h1,rfl,h2,Fm.nE h3⟩
theorem bW(w:World)(n:Nat)(hn:n<=140737488355328):Cl prog 63 [stv [0],iv n] w λv w'=>v=stv (aH n)/\Fm (λ_=>False) w w':=by
 have c:Calls prog 63 #[stv [0],iv n] w λe w'=>e=.returned (.string ⟨(Lib.repeatL (str [0]).data.toList n).toArray⟩)/\Below w.heap.size w w':=Any.strings_Repeat (ρ:=Tryz.lays105_ren) Tryz.lays105 Tryz.bldExtra (str [0]) n w (by omega) (by rw[aq];simpa using hn);have e:Lib.repeatL (str [0]).data.toList n=aH n:=by have:=Lib.repeatL_replicate 0 1 n;rw[Nat.mul_one] at this;exact this
 rw[e] at c;exact fa c λe w' ⟨h1,h2⟩=>⟨_,h1,rfl,Fm.iN h2 _⟩
theorem dg:∀(l:Bs),l.dropWhile (· ==(0:UInt8))=[]↔l=aH l.length
 | []=>by simp[aH]
 | b::l=>by
  rw[List.dropWhile_cons];cases hb:(b ==(0:UInt8)) with
  | true=>
   have:b=0:=by simpa using hb
   simp only[if_true,dg l,List.length_cons,aH,List.replicate_succ];rw[this];simp
  | false=>
   have:b≠0:=by simpa using hb
   simp[aH,List.replicate_succ,this]
theorem AZ(l:Bs):Lib.trimB l 0=[]↔l=aH l.length:=by
 unfold Lib.trimB Lib.trimLeftB Lib.trimRightB;rw[dg];constructor
 ·intro h;have h2:(l.reverse.dropWhile (· ==(0:UInt8)))=aH (l.reverse.dropWhile (· ==(0:UInt8))).length:=by have:=congrArg List.reverse h;rw[List.reverse_reverse] at this;rw[this];simp[aH]
  cases hd:l.reverse.dropWhile (· ==(0:UInt8)) with
  | nil=>have:=(dg l.reverse).1 hd;have:=congrArg List.reverse this;rw[List.reverse_reverse] at this;rw[this];simp[aH]
  | cons x t=>
   rw[hd] at h2;have hx:x=0:=by have:=congrArg List.head? h2;simp[aH,List.replicate_succ] at this;exact this
   have:=List.head?_dropWhile_not (p:=(· ==(0:UInt8))) (l:=l.reverse);rw[hd] at this;simp[hx] at this
 ·intro h;have h2:l.reverse=aH l.reverse.length:=by rw[h];simp[aH]
  rw[(dg l.reverse).2 h2]
  rfl
theorem yY(w:World)(l:Bs)(hl:l.length<=9223372036854775807):Cl prog 345 [stv l,stv [0]] w λv w'=>(∃t,v=stv t/\(t=[]↔l=aH l.length))/\Fm (λ_=>False) w w':=by
 have c:Calls prog 345 #[stv l,stv [0]] w λe w'=>e=.returned (.string ⟨(Lib.trimB (str l).data.toList 0).toArray⟩)/\(w'=w\/w'=w.drew):=Any.strings_Trim_one (ρ:=Tryz.j8) Tryz.uP (str l) 0 (by decide) w (by rw[aq];exact hl);refine fa c λe w' ⟨h1,h2⟩=>⟨_,h1,⟨_,rfl,AZ l⟩,?_⟩;rcases h2 with rfl|rfl
 ·exact Fm.refl _ _
 ·exact Fm.drew _ _
theorem E22:ElemT prog 66 9 1 16:=bJ Tryz.underlying66 (by kernel_rfl)
theorem GC(w:World):(Instr.buildSlice 66 0 #[]).run prog w=.ok (.slice (some ⟨w.heap.size,0,none⟩) 0 0) (w.alloc (.cells #[] 9)):=by kernel_rfl
theorem rI(xs:List Bs):∀u∈xs.map stv,u.oneCell'=true:=by
 intro u hu;obtain⟨x,_,rfl⟩:=List.mem_map.1 hu
 rfl
theorem dj{w:World}{v:Value}{xs:List Bs}(h:CellsAt w v xs.length 1 (xs.map stv))(hs:xs.length*16<=140737488355328):Cl prog 232 [v] w λr w'=>w'.ownsRow w.heap.size 9 1 r xs.length (xs.map stv)/\Fm (λ_=>False) w w':=by
 refine c232 ?_;obtain⟨⟨a,c,hv,h1,h2,h3,h4⟩,hl⟩:=id h;cases a with
 | none=>subst hv;obtain⟨e1,e2⟩:=h3 rfl;have e3:ax (TypeDesc.slice 9) .eql (.slice none xs.length c) (.slice none 0 0)=some (.bool true):=rfl;simp only[RS,e3];have:xs=[]:=List.eq_nil_of_length_eq_zero e1;subst this;exact⟨World.ownsRow_nil _ _ _ _,Fm.refl _ _⟩
 | some ad=>
  subst hv;have e3:ax (TypeDesc.slice 9) .eql (.slice (some ad) xs.length c) (.slice none 0 0)=some (.bool false):=rfl;simp only[RS,e3];refine ag (GC w) ?_;have ho2:=pz (w:=w) (e:=9) (l:=[]) (by simp[maxLen]) (Nat.le_refl _);have hf2:=Fm.alloc (λ_=>False) w (.cells #[] 9)
  replace ho2:(w.alloc (.cells #[] 9)).ownsRow w.heap.size 9 1 (.slice (some ⟨w.heap.size,0,none⟩) 0 0) 0 []:=ho2
  generalize w.alloc (.cells #[] 9)=w2 at ho2 hf2;obtain⟨lv,w3,hr3,ho3,hf3⟩:=cD E22 (by omega) ho2 (h.keep hf2 iT) (rI xs) 66 (by unfold maxLen;omega) (by omega) hf2.size;refine ag hr3 ?_;rw[Nat.zero_add,List.nil_append] at ho3;exact⟨ho3,Fm.own hf2 hf3 (λy hy=>by have:=aO ho2 y hy;omega)⟩
theorem Fm.setCells(b:Nat):∀(vs:List Value) (o:Nat) (w:World),Fm (·=b) w (w.setCells b o vs)
 | [],_,w=>Fm.refl _ _
 | v::vs,o,w=>(Fm.setCell (S:=(·=b)) w ⟨b,o,none⟩ v rfl).trans (Fm.setCells b vs (o+1) _) iT iT
theorem oz{w:World}{b o n cap:Nat}{cs vs:List Value}(hcs:∀j,j<n->(w.cell? ⟨b,j,none⟩).isSome=true)(hold:∀j u,cs[j]?=some u->w.cell? ⟨b,j,none⟩=some u)(hcl:cs.length=n)(ho:o+vs.length<=n)(hn:n<=cap)(hcap:cap<=maxLen):
  CellsAt (w.setCells b o vs) (.slice (some ⟨b,0,none⟩) n cap) n 1 (cs.take o++vs++cs.drop (o+vs.length)):=by
 refine⟨⟨_,cap,rfl,hn,hcap,(λe=>by cases e),λj u hj=>⟨_,rfl,?_⟩⟩,by simp;omega⟩;rw[aC,Nat.zero_add];have hto:(cs.take o).length=o:=by rw[List.length_take];omega
 by_cases h1:j<o
 ·rw[World.cell?_setCells_out b vs o w ⟨b,j,none⟩ (λ_ _=>.inl h1)];apply hold;rw[List.append_assoc,List.getElem?_append_left (by rw[hto];exact h1),List.getElem?_take,if_pos h1] at hj;exact hj
 ·by_cases h2:j<o+vs.length
  ·have:=World.cell?_setCells_in b vs o w (λq hq=>hcs _ (by omega)) (j - o) (by omega);rw[show o+(j - o)=j by omega] at this;rw[this];rw[List.append_assoc,List.getElem?_append_right (by rw[hto];omega),hto,List.getElem?_append_left (by omega),List.getElem?_eq_getElem (by omega)] at hj;exact hj
  ·rw[World.cell?_setCells_out b vs o w ⟨b,j,none⟩ (λ_ _=>.inr (by simpa using h2))];apply hold;rw[List.append_assoc,List.getElem?_append_right (by rw[hto];omega),hto,List.getElem?_append_right (by omega),List.getElem?_drop] at hj;rw[<- hj];congr 1;omega
def kC(xs:List Bs)(i:Nat)(x:Bs):List Bs:=xs.take i++[x]++xs.drop i
theorem hU{xs:List Bs}{i:Nat}(x:Bs)(hi:i<=xs.length):(kC xs i x).length=xs.length+1:=by simp only[kC,List.length_append,List.length_take,List.length_drop,List.length_cons,List.length_nil];omega
theorem kD{w:World}{base:Nat}{v:Value}{xs:List Bs}(h:w.ownsRow base 9 1 v xs.length (xs.map stv)){i:Nat}(hi:i<=xs.length){vb:Nat}{x:Bs}(hv:w.heap[vb]?=some (.cells #[stv x] 9))(hne:v.ownBlock≠some vb)(hs:(xs.length+1)*16<=140737488355328)(hb:base<=w.heap.size):
  Cl prog 416 [v,iv i,.slice (some ⟨vb,0,none⟩) 1 1] w λr w'=>∃a c,r=.slice a (xs.length+1) c/\CellsAt w' r (xs.length+1) 1 ((kC xs i x).map stv)/\(∀g,blockOf r=some g->base<=g)/\Fm (λy=>base<=y) w w':=by
 have hvs:∀(j:Nat) (u:Value),([stv x]:List Value)[j]?=some u->w.cell? ⟨vb,0+j,none⟩=some u:=by intro j u hj;rw[Nat.zero_add,ab hv];simpa using hj
 have h1v:∀u∈([stv x]:List Value),u.oneCell'=true:=by intro u hu;simp at hu;subst hu;rfl
 have hml:xs.length+1<=maxLen:=by unfold maxLen;omega
 have hins:(kC xs i x).map stv=(xs.map stv).take i++[stv x]++(xs.map stv).drop i:=by simp[kC,List.map_take,List.map_drop]
 have hsum:∀(w':World) (g:Nat),Fm (λ_=>False) w w'->True:=λ_ _ _=>trivial;have hnew:∀(cs:Array Value),cs.toList.take (xs.length+1)=(kC xs i x).map stv->∀c,xs.length+1<=c->c<=maxLen->∀w':World,w'.heap[w.heap.size]?=some (.cells cs 9)->CellsAt w' (.slice (some ⟨w.heap.size,0,none⟩) (xs.length+1) c) (xs.length+1) 1 ((kC xs i x).map stv):=by
  intro cs hcs c hc1 hc2 w' hw';refine⟨⟨_,c,rfl,hc1,hc2,(λe=>by cases e),λj u hj=>⟨_,rfl,?_⟩⟩,by rw[List.length_map,hU x hi,Nat.mul_one]⟩;rw[aC,Nat.zero_add,ab hw'];rw[<- hcs,List.getElem?_take] at hj;split at hj
  ·simpa using hj
  ·cases hj
 rcases h.2 with⟨rfl,hn⟩|⟨g,cap,cur,rfl,hbg,hgg,hnc,hcm,hcs,htake⟩
 ·have hx0:xs=[]:=List.eq_nil_of_length_eq_zero hn;subst hx0;obtain rfl:i=0:=by simpa using hi
  have c:=Any2.slices_Insert_string_end_grow (ρ:=Tryz.fF) Tryz.lT none 0 0 vb 0 1 1 [] [stv x] w (by omega) (by omega) (by omega) (by omega) rfl rfl (λ_=>rfl) (λa ha=>by cases ha) hvs h1v;have hge:=grownCap_ge w (0+1) 0 9;have hle:=grownCap_le_maxLen w (0+1) 0 9 (by unfold maxLen;omega);refine fa (args:=[.slice none 0 0,iv (0:Nat),.slice (some ⟨vb,0,none⟩) 1 1]) c λe w' ⟨h1,h2⟩=>⟨_,h1,_,_,rfl,?_,?_,?_⟩
  ·rw[h2];refine hnew _ ?_ _ hge hle _ (aA _ _);simp[kC]
  ·intro g hg;cases hg;exact hb
  ·rw[h2];exact(Fm.drew _ w).trans (Fm.alloc _ w.drew _) (λ_ _ e=>e) (λ_ _ e=>e)
 ·rw[Nat.mul_one] at hcs htake;have hcell:∀j,j<cap->w.cell? ⟨g,j,none⟩=cur[j]? := λj _=>ab hgg;have hsome:∀j,j<cap->(w.cell? ⟨g,j,none⟩).isSome=true:=by intro j hj;rw[hcell j hj,Array.getElem?_eq_getElem (by omega)];rfl
  have hold:∀(j:Nat) (u:Value),(xs.map stv)[j]?=some u->w.cell? ⟨g,0+j,none⟩=some u:=by
   intro j u hj;rw[Nat.zero_add,ab hgg];rw[<- htake,List.getElem?_take] at hj;split at hj
   ·simpa using hj
   ·cases hj
  have hvbg:vb≠g:=λe=>hne (by rw[e];rfl);have hglt:=aj hgg;by_cases hroom:xs.length+1<=cap
  ·by_cases hie:i<xs.length
   ·have c:=Any2.slices_Insert_string_shift (ρ:=Tryz.fF) Tryz.lT g 0 xs.length cap i vb 0 1 1 (xs.map stv) [stv x] w hie (by omega) hroom (by unfold maxLen at hcm;omega) hvbg (by simp) rfl hold (λj hj=>by rw[Nat.zero_add];exact hsome j (by omega)) (λj hj=>dv hgg _) hvs (rI xs) h1v 9 9 1 cur.size (by simp[World.shape?,hv]) (by simp[World.shape?,hgg]) (by omega) (dv hv _) (dv hv _);refine fa (args:=[.slice (some ⟨g,0,none⟩) xs.length cap,iv i,.slice (some ⟨vb,0,none⟩) 1 1]) c λe w' ⟨h1,h2⟩=>⟨_,h1,_,_,rfl,?_,?_,?_⟩
    ·rw[h2,Nat.zero_add,Nat.zero_add];have hA:=oz (w:=w.drew) (b:=g) (o:=i+1) (n:=xs.length+1) (cap:=cap) (cs:=(xs.map stv)++[cur[xs.length]!]) (vs:=(xs.map stv).drop i) (λj hj=>hsome j (by omega)) (λj u hj=>by
      rw[bF];rw[List.getElem?_append] at hj;split at hj
      ·have:=hold j u hj;rwa [Nat.zero_add] at this
      ·rename_i hjl;rw[List.length_map] at hjl;have hj0:j=xs.length:=by have:=(List.getElem?_eq_some_iff.1 hj).1;simp at this;omega
       subst hj0;rw[hcell _ (by omega),Array.getElem?_eq_getElem (by omega)];simp at hj;rw[<- hj,getElem!_pos cur xs.length (by omega)]) (by simp) (by simp;omega) hroom hcm
     have hB:=oz (w:=w.drew.setCells g (i+1) ((xs.map stv).drop i)) (b:=g) (o:=i) (n:=xs.length+1) (cap:=cap) (cs:=((xs.map stv)++[cur[xs.length]!]).take (i+1)++(xs.map stv).drop i++((xs.map stv)++[cur[xs.length]!]).drop (i+1+((xs.map stv).drop i).length)) (vs:=[stv x]) (λj hj=>by
      obtain⟨⟨a,c',he,_,_,_,hh⟩,hlen⟩:=hA;cases he;rw[Nat.mul_one] at hlen;have:j<(((xs.map stv)++[cur[xs.length]!]).take (i+1)++(xs.map stv).drop i++((xs.map stv)++[cur[xs.length]!]).drop (i+1+((xs.map stv).drop i).length)).length:=by rw[hlen];exact hj
      obtain⟨ad,he,hc⟩:=hh j _ (List.getElem?_eq_getElem this);cases he;rw[aC,Nat.zero_add] at hc;rw[hc];rfl) (λj u hj=>by
      obtain⟨⟨a,c',he,_,_,_,hh⟩,hlen⟩:=hA;cases he;obtain⟨ad,he,hc⟩:=hh j u hj;cases he;rw[aC,Nat.zero_add] at hc;exact hc) (by have:=hA.len;rw[Nat.mul_one] at this;exact this) (by simp;omega) hroom hcm
     have hfin:(((xs.map stv)++[cur[xs.length]!]).take (i+1)++(xs.map stv).drop i++((xs.map stv)++[cur[xs.length]!]).drop (i+1+((xs.map stv).drop i).length)).take i++[stv x]++(((xs.map stv)++[cur[xs.length]!]).take (i+1)++(xs.map stv).drop i++((xs.map stv)++[cur[xs.length]!]).drop (i+1+((xs.map stv).drop i).length)).drop (i + [stv x].length)=(kC xs i x).map stv:=by
      rw[hins];have q1:(((xs.map stv)++[cur[xs.length]!]).take (i+1)).length=i+1:=by simp;omega
      have q2:(((xs.map stv)++[cur[xs.length]!]).drop (i+1+((xs.map stv).drop i).length))=[]:=List.drop_eq_nil_of_le (by simp;omega);rw[q2,List.append_nil,List.take_append_of_le_length (by omega),List.take_take,Nat.min_eq_left (by omega),List.take_append_of_le_length (by simp;omega)];rw[show i + [stv x].length=(((xs.map stv)++[cur[xs.length]!]).take (i+1)).length by rw[q1];rfl,List.drop_left]
     rw[hfin] at hB;exact hB
    ·intro y hy;cases hy;exact hbg
    ·rw[h2];have hd:=(Fm.drew (λy=>base<=y) w);refine hd.trans (((Fm.setCells g _ _ w.drew).trans (Fm.setCells g _ _ _) (λ_ _ e=>e) (λ_ _ e=>e)).mono (T:=λy=>base<=y) (λy _ e=>by rw[e];exact hbg)) (λ_ _ e=>e) (λ_ _ e=>e)
   ·obtain rfl:i=xs.length:=by omega
    have c:=Any2.slices_Insert_string_end_room (ρ:=Tryz.fF) Tryz.lT g 0 xs.length cap vb 0 1 1 [stv x] w (by omega) hroom (by unfold maxLen at hcm;omega) rfl (λj hj=>hsome _ (by omega)) (λj hj=>dv hgg _) hvs h1v;refine fa (args:=[.slice (some ⟨g,0,none⟩) xs.length cap,iv xs.length,.slice (some ⟨vb,0,none⟩) 1 1]) c λe w' ⟨h1,h2⟩=>⟨_,h1,_,_,rfl,?_,?_,?_⟩
    ·rw[h2,Nat.zero_add];refine⟨⟨_,cap,rfl,hroom,hcm,(λe=>by cases e),λj u hj=>⟨_,rfl,?_⟩⟩,by rw[List.length_map,hU x hi,Nat.mul_one]⟩;rw[aC,Nat.zero_add];rw[hins,List.take_of_length_le (by simp),List.drop_eq_nil_of_le (by simp),List.append_nil] at hj;by_cases hjl:j<xs.length
     ·rw[World.cell?_setCells_out g _ _ w ⟨g,j,none⟩ (λ_ _=>.inl hjl)];rw[List.getElem?_append_left (by simpa using hjl)] at hj;have:=hold j u hj;rwa [Nat.zero_add] at this
     ·have hj0:j=xs.length:=by have:=(List.getElem?_eq_some_iff.1 hj).1;simp at this;omega
      subst hj0;have:=World.cell?_setCells_in g [stv x] xs.length w (λq hq=>hsome _ (by simp at hq;omega)) 0 (by simp);rw[Nat.add_zero] at this;rw[this];rw[List.getElem?_append_right (by simp)] at hj;simpa using hj
    ·intro y hy;cases hy;exact hbg
    ·rw[h2];exact(Fm.setCells g _ _ w).mono (λy _ e=>by rw[e];exact hbg)
  ·have hcap:cap=xs.length:=by omega
   by_cases hie:i<xs.length
   ·have c:=Any2.slices_Insert_string_grow (ρ:=Tryz.fF) Tryz.lT g 0 xs.length cap i vb 0 1 1 (xs.map stv) [stv x] w hie (by omega) hnc (by omega) hs (by simp) rfl hold hvs (rI xs) h1v;have hge:=grownCap_ge w (xs.length+1) cap 9;have hle:=grownCap_le_maxLen w (xs.length+1) cap 9 hml;refine fa (args:=[.slice (some ⟨g,0,none⟩) xs.length cap,iv i,.slice (some ⟨vb,0,none⟩) 1 1]) c λe w' ⟨h1,h2⟩=>⟨_,h1,_,_,rfl,?_,?_,?_⟩
    ·replace h2:w'=((((w.alloc (.cells (((xs.map stv).take i).toArray++Builtin.zeroCells (Value.string ⟨#[]⟩).cells (xs.length+1 - i)++Builtin.zeroCells (Value.string ⟨#[]⟩).cells (grownCap w (xs.length+1) cap 9 - (xs.length+1))) 9)).drew.setCells w.heap.size i [stv x]).drew).setCells w.heap.size (i+1) ((xs.map stv).drop i)):=h2
     rw[h2];generalize hC:((((xs.map stv).take i).toArray++Builtin.zeroCells (Value.string ⟨#[]⟩).cells (xs.length+1 - i)++Builtin.zeroCells (Value.string ⟨#[]⟩).cells (grownCap w (xs.length+1) cap 9 - (xs.length+1))))=C;have hCt:C.toList.take i=(xs.map stv).take i:=by rw[<- hC];simp only[Array.toList_append];rw[List.append_assoc,List.take_append_of_le_length (by simp;omega),List.take_of_length_le (by simp;omega)]
     have hCs:xs.length+1<=C.size:=by rw[<- hC];simp[Builtin.zeroCells,Value.cells];omega
     have hn0:=aA w (.cells C 9);generalize w.alloc (.cells C 9)=w1 at hn0;have hsome1:∀j,j<xs.length+1->(w1.cell? ⟨w.heap.size,j,none⟩).isSome=true:=λj hj=>by rw[ab hn0,Array.getElem?_eq_getElem (by omega)];rfl
     have hin1:=World.cell?_setCells_in w.heap.size [stv x] i w1.drew (λq hq=>hsome1 _ (by simp at hq;omega)) 0 (by simp);have hin2:∀j,j<((xs.map stv).drop i).length->(((w1.drew.setCells w.heap.size i [stv x]).drew).setCells w.heap.size (i+1) ((xs.map stv).drop i)).cell? ⟨w.heap.size,i+1+j,none⟩=((xs.map stv).drop i)[j]? := λj hj=>by rw[World.cell?_setCells_in w.heap.size ((xs.map stv).drop i) (i+1) _ (λq hq=>by rw[bF,World.cell?_setCells_out w.heap.size [stv x] i _ ⟨w.heap.size,i+1+q,none⟩ (λ_ _=>.inr (by simp<;>omega)),bF];exact hsome1 _ (by simp at hq;omega)) j hj,List.getElem?_eq_getElem hj]
     refine⟨⟨_,_,rfl,hge,hle,(λe=>by cases e),λj u hj=>⟨_,rfl,?_⟩⟩,by rw[List.length_map,hU x hi,Nat.mul_one]⟩;rw[aC,Nat.zero_add];rw[hins,List.append_assoc] at hj;have hti:((xs.map stv).take i).length=i:=by simp;omega
     by_cases hj1:j<i
     ·rw[World.cell?_setCells_out w.heap.size _ (i+1) _ ⟨w.heap.size,j,none⟩ (λ_ _=>.inl (by simp;omega)),bF,World.cell?_setCells_out w.heap.size _ i _ ⟨w.heap.size,j,none⟩ (λ_ _=>.inl hj1),bF,ab hn0];rw[List.getElem?_append_left (by omega),<- hCt,List.getElem?_take,if_pos hj1] at hj;simpa using hj
     ·by_cases hj2:j=i
      ·subst hj2;rw[World.cell?_setCells_out w.heap.size _ (j+1) _ ⟨w.heap.size,j,none⟩ (λ_ _=>.inl (by simp)),bF];rw[Nat.add_zero] at hin1;rw[hin1];rw[List.getElem?_append_right (by omega),hti,Nat.sub_self] at hj;simpa using hj
      ·rw[List.getElem?_append_right (by omega),hti] at hj;obtain⟨q,hq⟩:∃q,j - i=q+1:=⟨j - i - 1,by omega⟩;rw[hq] at hj
       replace hj:((xs.map stv).drop i)[q]?=some u:=by simpa using hj
       have hql:=(List.getElem?_eq_some_iff.1 hj).1;have:=hin2 q hql;rw[show i+1+q=j by omega] at this;rw[this,hj]
    ·intro y hy;cases hy;exact hb
    ·rw[h2];have f1:=Fm.alloc (λy=>base<=y) w (.cells ((((xs.map stv).take i).toArray++Builtin.zeroCells (Value.string ⟨#[]⟩).cells (xs.length+1 - i)++Builtin.zeroCells (Value.string ⟨#[]⟩).cells (grownCap w (xs.length+1) cap 9 - (xs.length+1)))) 9);refine f1.trans (((Fm.drew (λy=>y=w.heap.size) _).trans ((Fm.setCells w.heap.size [stv x] i _).trans ((Fm.drew _ _).trans (Fm.setCells w.heap.size ((xs.map stv).drop i) (i+1) _) (λ_ _ e=>e) (λ_ _ e=>e)) (λ_ _ e=>e) (λ_ _ e=>e)) (λ_ _ e=>e) (λ_ _ e=>e)).mono (T:=λy=>base<=y) (λy _ e=>by rw[e];exact hb)) (λ_ _ e=>e) (λ_ _ e=>e)
   ·obtain rfl:i=xs.length:=by omega
    have c:=Any2.slices_Insert_string_end_grow (ρ:=Tryz.fF) Tryz.lT (some ⟨g,0,none⟩) xs.length cap vb 0 1 1 (xs.map stv) [stv x] w (by omega) hnc (by omega) hs (by simp) rfl (λe=>by cases e) (λa ha j u hj=>by cases ha;rw[aC];exact hold j u hj) hvs h1v;have hge:=grownCap_ge w (xs.length+1) cap 9;have hle:=grownCap_le_maxLen w (xs.length+1) cap 9 hml;refine fa (args:=[.slice (some ⟨g,0,none⟩) xs.length cap,iv xs.length,.slice (some ⟨vb,0,none⟩) 1 1]) c λe w' ⟨h1,h2⟩=>⟨_,h1,_,_,rfl,?_,?_,?_⟩
    ·rw[h2];refine hnew _ ?_ _ hge hle _ (aA _ _);have ht:(xs.map stv).take xs.length=xs.map stv:=List.take_of_length_le (by simp);rw[hins,ht,List.drop_eq_nil_of_le (by simp),List.append_nil,Array.toList_append,List.take_append_of_le_length (by simp),List.take_of_length_le (by simp)]
    ·intro y hy;cases hy;exact hb
    ·rw[h2];exact(Fm.drew _ w).trans (Fm.alloc _ w.drew _) (λ_ _ e=>e) (λ_ _ e=>e)
end YtmdmffeoehfjgaaGreatDoor
end Go.Proofs
namespace Go.Proofs.YtmdmffeoehfjgaaGreatDoor
open Go.Al Go.Proofs
end Go.Proofs.YtmdmffeoehfjgaaGreatDoor
