/- Laid for one claim by slim.py out of: parts. -/
import Derived.Test.YtmdmffeoehfjgaaGreatDoorTgsE
set_option maxRecDepth 100000
set_option maxHeartbeats 0
set_option linter.unusedVariables false
set_option linter.unusedSimpArgs false
set_option linter.unusedSectionVars false
open Go.Proofs.Tryz (prog)
namespace Go.Proofs.YtmdmffeoehfjgaaGreatDoor
open Go.Al Go.Proofs Go.Proofs.Tryz
open M (Tu keyOk tu dM deadB tuRd fH)
open M (Ent entOk sA fh cmpB vu eP)
open M (Ent entOk sA fh eP)
open M (Tu tu dM fH)
open M (idOk xAdd xGap xBefore)
open M (idOk xAdd Fp it0 it1 plN oQ)
open M (idOk xAdd it0 it1 Vw Tu)
open M (Tu tu dM fH it0)
attribute [local irreducible] World.drew undef ax aD bj bB faV ixV ixS ixA aX cJ ixG unV cvI cvS slS slV lenV bo cQ aQ aP aR az isB Instr.build Instr.buildSlice Instr.lookup Instr.mapUpdate Instr.range Instr.next Instr.entry Instr.makeMap Instr.makeSlice convert binOp Instr.sliceAt Instr.makeInterface Builtin.append_ Builtin.copy_ Builtin.delete_ Builtin.clear_ Builtin.len_ Builtin.cap_ Value.cells
section
variable{w w':World}{n0 base:Nat}{v u vs vm vi vp vt:Value}{p q:Pg}{r:Rc}{m i:Int}{l:List Int}
theorem jg(h:CellsAt w v l.length 1 (l.map iv))(hl:l.length<=1000000)(hnd:∀i a b,l[i]?=some a->l[i+1]?=some b->a≠b):Cl prog 91 [v] w λo w'=>o=v/\Fm F0 w w':=by
 refine cU1 func91 ?_ (V [(9,[3,5]),(4,[3])]) (J [(10,[3])]);by_cases h2:l.length<2
 ·simp only[RU,h.lenV,decide_eq_true (show((l.length:Nat):Int)<2 by omega)];exact Fm.refl _ _
 ·simp only[RU,h.lenV,decide_eq_false (show ¬((l.length:Nat):Int)<2 by omega)];refine⟨λvs w3=>∃i:Nat,vs=[iv (i+1:Nat)]/\i<l.length/\Fm F0 w w3,λvs _=>(l.length - nth vs 0).toNat,⟨0,rfl,by omega,Fm.refl _ _⟩,?_⟩;rintro w3 v1 ⟨i,hvs,hil,hf⟩;cases hvs;have h:=h.keep hf iT;by_cases hlt:i+1<l.length
  ·have e0:l[i]?=some l[i]:=List.getElem?_eq_getElem hil;have e1:l[i+1]?=some l[i+1]:=List.getElem?_eq_getElem hlt;have hne:=hnd i _ _ e0 e1;generalize l[i]=x at e0 hne;generalize l[i+1]=y at e1 hne;have hd:=Fm.drew F0 w3;obtain⟨a1,i1,_,c1⟩:=(h.keep hd iT).j4 (i:=i+1) (x:=iv y) (by rw[List.getElem?_map,e1];rfl) .i64;obtain⟨a0,i0,_,c0⟩:=(h.keep hd iT).j4 (i:=i) (x:=iv x) (by rw[List.getElem?_map,e0];rfl) .i64;rw[bF] at c1 c0;simp only[RU,decide_eq_true (show(((i+1:Nat):Nat):Int)<(l.length:Int) by omega),i1,c1,show IntKind.i64.wrap (((i+1:Nat):Int) - 1)=(i:Int) by rw[af]<;>omega,i0,c0,aV,decide_eq_false (show ¬y=x from λe=>hne e.symm),show IntKind.i64.wrap (((i+1:Nat):Int)+1)=((i+1+1:Nat):Int) by rw[af]<;>omega];exact⟨⟨i+1,rfl,by omega,Fmf hf hd⟩,by simp only[ba];omega⟩
  ·simp only[RU,h.lenV,decide_eq_false (show ¬((i+1:Nat):Int)<(l.length:Int) by omega)];exact hf
theorem qy{n:Int}(h:w.ownsRow base 3 1 v 2 [iv n,iv n]):Cl prog 91 [v] w λo w'=>w'.ownsRow base 3 1 o 1 [iv n]/\Fm (base<=·) w w':=by
 rcases h.2 with⟨rfl,hn⟩|⟨g,cap,cur,rfl,hbg,hgg,hnc,hcm,hcs,htake⟩
 ·omega
 rw[Nat.mul_one] at hcs htake;have hlt:=aj hgg;have s1:slV 1 (.slice (some ⟨g,0,none⟩) 2 cap) (some (iv 1)) none none=some (.slice (some ⟨g,1,none⟩) 1 (cap - 1)):=by have e1:bnd 2 0 (some (iv 1))=some 1:=eN (i:=1) (by omega) .i64;have e2:bnd cap cap none=some cap:=rfl;simp only[slV,Bp,e1,e2,Option.bind_some,Option.map_some];rw[if_neg (by omega)];rfl
 have s2:slV 1 (.slice (some ⟨g,0,none⟩) 2 cap) none (some (iv 1)) none=some (.slice (some ⟨g,0,none⟩) 1 cap):=by have e1:bnd cap 2 (some (iv 1))=some 1:=eN (i:=1) (by omega) .i64;have e2:bnd cap cap none=some cap:=rfl;have e3:bnd 1 0 none=some 0:=rfl;simp only[slV,Bp,e1,e2,e3,Option.bind_some,Option.map_some];rw[if_neg (by omega)];rfl
 have hz:∀w,(zeroValue 3).run prog w=.ok (iv 0) w:=λw=>by kernel_rfl
 have clr:=Go.Lib.run_clear_slice (P:=prog) w.drew 25 3 0 (iv 0) underlying25 hz (by kernel_rfl) (by kernel_rfl) g 1 1 (cap - 1) (by omega) (by
  intro j hj;rw[bF,ab hgg,Array.getElem?_eq_getElem (show 1+j<cur.size by omega)];rfl) (by
  intro j hj;simp only[World.frozen?,aL,hgg];simp)
 have hc:=CellsAt.aT h;obtain⟨a1,i1,_,c1⟩:=hc.j4 (i:=1) (x:=iv n) rfl .i64;obtain⟨a0,i0,_,c0⟩:=hc.j4 (i:=0) (x:=iv n) rfl .i64
 replace i1:ixV 1 _ (iv 1)=_:=i1
 replace i0:ixV 1 _ (iv 0)=_:=i0
 refine cU1 func91 ?_ (V [(9,[3,5]),(4,[3])]) (J [(10,[3])]);simp only[RU,hc.lenV,show decide (((2:Nat):Int)<2)=false from rfl];refine⟨λvs w3=>vs=[iv 1]/\w3=w,λ_ _=>0,⟨rfl,rfl⟩,?_⟩;rintro w3 v1 ⟨hvs,rfl⟩;cases hvs;simp only[RU,show decide ((1:Int)<((2:Nat):Int))=true from rfl,i1,c1,show IntKind.i64.wrap ((1:Int) - 1)=0 from rfl,i0,c0,beq_self_eq_true,s1];refine⟨λvs w4=>vs=[iv 1,iv 1]/\w4=w3.drew,λ_ _=>0,⟨rfl,rfl⟩,?_⟩;rintro w4 v1 v2 ⟨hvs,rfl⟩;cases hvs;simp only[RU,show decide ((1:Int)<((1:Nat):Int))=false from rfl,s1];refine ag clr ?_;simp only[RU,s2];have hgd:w3.drew.heap[g]?=some (.cells cur 3):=by rw[aL];exact hgg
 have hg2:(w3.drew.setCells g 1 (List.replicate 1 (iv 0))).heap[g]?=some (.cells (cur.setIfInBounds 1 (iv 0)) 3):=eh hgd 1 (iv 0);refine⟨⟨rfl,.inr ⟨g,cap,_,rfl,hbg,hg2,by omega,hcm,by simp[hcs],?_⟩⟩,((Fm.drew (base<=·) w3).trans (Fm.setCells g _ _ _) iT (λy _ e=>by rw[e];exact hbg))⟩;have e:cur.toList[0]?=some (iv n):=by
  have:(cur.toList.take 2)[0]?=some (iv n):=by rw[htake];rfl
  rwa [List.getElem?_take,if_pos (by omega)] at this
 rw[Nat.mul_one,Array.toList_setIfInBounds,List.take_set_of_le (by omega)]
 match hcl:cur.toList,e with
 | x::l,e=>cases e;rfl
def DkT(k:Int):Prop:=k=1\/k=2\/k=3\/k=6\/k=7\/k=8
theorem Bt{k:Int}(h:DkT k)(x y:Nat):∃f,getD (dd x y) k=some f/\(f=fnV 304\/f=fnV 305\/f=fnV 306\/f=fnV 307\/f=Fq x\/f=Fq y):=by
 rcases h with rfl|rfl|rfl|rfl|rfl|rfl
 ·exact⟨_,rfl,.inl rfl⟩
 ·exact⟨_,rfl,.inr (.inl rfl)⟩
 ·exact⟨_,rfl,.inr (.inr (.inr (.inl rfl)))⟩
 ·exact⟨_,rfl,.inr (.inr (.inl rfl))⟩
 ·exact⟨_,rfl,.inr (.inr (.inr (.inr (.inl rfl))))⟩
 ·exact⟨_,rfl,.inr (.inr (.inr (.inr (.inr rfl))))⟩
theorem E25:ElemT prog 25 3 1 8:=bJ underlying25 (by kernel_rfl)
theorem wU{b x y:Nat}(hm:MapAt w b (Value.int .u8) id (dd x y))(k:Int):(Instr.lookup 329 (.map (some b)) (.int .u8 k) false).run prog w=.ok ((getD (dd x y) k).getD .nilFunc) w:=by rw[aW Hp hm k false (z:=.nilFunc) (by kernel_rfl)];cases getD (dd x y) k<;>rfl
def Tch(r:Rc)(n:Int):Prop:=(r.imgs=[]/\DkT r.kind/\r.page=n)\/(∃x,r.imgs=[x]/\x.1=n/\(r.kind=13\/(DkT r.kind/\r.page=n)))
theorem mO(hi:ImAs w vi r.imgs){n:Int}(h:Tch r n):Cl prog 134 [.agg (rcs r vs vm vi vp vt)] w λo w'=>w'.ownsRow w.heap.size 3 1 o 1 [iv n]/\Fm F0 w w':=by
 have hlen:r.imgs.length<=1:=by rcases h with⟨e,_⟩|⟨x,e,_⟩<;>rw[e]<;>simp
 refine cU1 func134 ?_ (V [(3,[3,9])]) (J [(9,[3])]);refine ae ?_;rintro b1 w1 rfl hs1 hw1 hf1
 replace hw1:RB w1 w.heap.size r vs vm vi vp vt:=⟨hw1⟩
 simp only[RU,hw1.c13,hi.lenV];refine⟨λvs w3=>∃(o:Value) (i:Nat),vs=[o,iv i]/\i<=r.imgs.length/\w3.ownsRow w1.heap.size 3 1 o i ((r.imgs.take i).map λx=>iv x.1)/\Fm F0 w1 w3,λvs _=>(r.imgs.length - nth vs 1).toNat,⟨nl,0,rfl,by omega,World.ownsRow_nil w1 _ 3 1,Fm.refl _ _⟩,?_⟩;rintro w3 o v1 ⟨o',i,hvs,hil,ho,hf3⟩;cases hvs;by_cases hlt:i<r.imgs.length
 ·have hx:r.imgs[i]?=some r.imgs[i]:=List.getElem?_eq_getElem hlt;have et:=List.take_add_one (l:=r.imgs) (i:=i);rw[hx] at et;generalize r.imgs[i]=x at hx et;obtain⟨ad,u,k1,k2,k3,k4⟩:=(hi.keep (Fmf hf1 hf3)).ld hx;simp only[RU,decide_eq_true (show(i:Int)<(r.imgs.length:Int) by omega),k1,k2];refine aE (us:=(imC (x.1,x.2,u)).toArray) (λw4 hs4 hw4 hf4=>?_) rfl rfl (by simp[imC,pcs,k3];exact⟨rfl,rfl,rfl,rfl,rfl,rfl⟩);simp only[RU,ab hw4,show(imC (x.1,x.2,u))[0]?=some (iv x.1) from rfl,show IntKind.i64.wrap ((i:Int)+1)=((i+1:Nat):Int) by rw[af]<;>omega];refine dp E25 (by omega) 25 (cs:=[iv x.1]) rfl (dC _ _) (by intro u hu;simp at hu;subst hu;rfl) (ah ho hf4 (λ_ _ _ _ e=>e)) (by unfold maxLen;omega) (by omega) (Fmf hf3 hf4).size ?_;intro v' w5 ho5 _ hf5;refine⟨⟨v',i+1,rfl,by omega,by rw[et];simpa using ho5,Fm.own (Fmf hf3 hf4) hf5 (λy hy=>hy)⟩,by simp only[cN];omega⟩
 ·obtain rfl:i=r.imgs.length:=by omega
  rw[List.take_length] at ho;have hw3:=hw1.keep hf3 id;simp only[RU,decide_eq_false (show ¬((r.imgs.length:Nat):Int)<(r.imgs.length:Int) by omega)];refine aJ (λvs w'=>∃o l,vs=[o]/\w'.ownsRow w1.heap.size 3 1 o l.length (l.map iv)/\(l=[n]\/l=[n,n])/\Fm F0 w1 w') ?_ ?_
  ·rintro _ w4 ⟨o,l,rfl,ho,hl,hf4⟩;have e1:∀l:List Int,l.map encZ=l.map iv:=λl=>rfl;refine⟨_,rfl,(nS (by rcases hl with rfl|rfl<;>simp) (e1 l▸ho)).mono ?_⟩;rintro _ w5 ⟨ho5,hf5⟩;have hf5:=Fm.own (Fmf hf1 hf4) hf5 (by rintro y hy;have:=hf1.size;omega);rw[List.mergeSort_of_pairwise (by rcases hl with rfl|rfl<;>simp),e1] at ho5;rcases hl with rfl|rfl
   ·refine(jg (l:=[n]) (CellsAt.aT ho5) (by simp) (by intro i a b _ h;simp at h)).mono ?_;rintro _ w6 ⟨rfl,hf6⟩;exact⟨aU (ah ho5 hf6 (λ_ _ _ _ e=>e)) hf1.size,Fmf hf5 hf6⟩
   ·refine(qy ho5).mono ?_;rintro _ w6 ⟨ho6,hf6⟩;exact⟨aU ho6 hf1.size,Fm.own hf5 hf6 (by rintro y hy;have:=hf1.size;omega)⟩
  ·intro kk hkk;refine⟨λw'=>Fm F0 w3 w',Fm.drew _ _,?_⟩;simp only[RU];refine rdP (λw' hw=>(hw3.keep hw id).c3) ?_;refine(lW _).mono ?_;rintro _ w4 ⟨b,x,y,rfl,hm,_,_,hf4⟩;have hf4:=Fmf (Fm.drew F0 w3) hf4;have ho4:=ah ho hf4 (λ_ _ _ _ e=>e);refine⟨hf4,ag (wU hm _) ⟨rfl,?_⟩⟩;have fin:DkT r.kind->r.page=n->(r.imgs.map (λx=>iv x.1)=[]\/r.imgs.map (λx=>iv x.1)=[iv n])->Pu (ax (TypeDesc.func #[3,68,168] #[68,36] false) .neq ((getD (dd x y) r.kind).getD .nilFunc) .nilFunc) λv=>IfB v (Pu (w4.cell? ⟨w.heap.size,5,none⟩) λu=>RunS prog (Instr.buildSlice 25 1 #[(0,u)]) w4 λv w=>RunS prog (Builtin.append_ #[25,25] 25 #[o,v]) w λv w=>kk [v] w) (kk [o] w4):=by
    intro hk hp hl;obtain⟨f,hg,hff⟩:=Bt hk x y;have e1:ax (TypeDesc.func #[3,68,168] #[68,36] false) .neq f .nilFunc=some (.bool true):=by rcases hff with rfl|rfl|rfl|rfl|rfl|rfl<;>kernel_rfl
    rw[hg];simp only[RU,Option.getD_some,e1,(hw3.keep hf4 id).c5,hp];refine dp E25 (by omega) 25 (cs:=[iv n]) rfl (dC _ _) (by intro u hu;simp at hu;subst hu;rfl) ho4 (by unfold maxLen;omega) (by omega) (Fmf hf3 hf4).size ?_;intro v' w5 ho5 _ hf5;have hl5:=ho5.1;rcases hl with hl|hl<;>rw[hl] at ho5 hl5
    ·have e:r.imgs.length=0:=by have:=congrArg List.length hl;rwa [List.length_map] at this
     rw[e] at ho5;exact hkk _ _ ⟨v',[n],rfl,ho5,.inl rfl,Fm.own (Fmf hf3 hf4) hf5 (λy hy=>hy)⟩
    ·have e:r.imgs.length=1:=by have:=congrArg List.length hl;rwa [List.length_map] at this
     rw[e] at ho5;exact hkk _ _ ⟨v',[n,n],rfl,ho5,.inr rfl,Fm.own (Fmf hf3 hf4) hf5 (λy hy=>hy)⟩
   rcases h with⟨h1,h2,h3⟩|⟨z,h1,h2,h3|⟨h3,h4⟩⟩
   ·exact fin h2 h3 (.inl (by rw[h1];rfl))
   ·rw[h3,show getD (dd x y) 13=none from rfl];have e1:ax (TypeDesc.func #[3,68,168] #[68,36] false) .neq .nilFunc .nilFunc=some (.bool false):=by kernel_rfl
    rw[h1] at ho4;simp only[RU,Option.getD_none,e1];refine hkk _ _ ⟨o,[n],rfl,by simpa[h2] using ho4,.inl rfl,Fmf hf3 hf4⟩
   ·exact fin h3 h4 (.inr (by rw[h1,List.map_cons,h2];rfl))
end
open M (it0)
section
variable{w w':World}{n0 base:Nat}{v u vs vm vi vp vt:Value}{p q:Pg}{r:Rc}{m i:Int}
theorem wS(hq:M.deed m p r=some q):DkT r.kind:=by unfold M.deed at hq;unfold DkT;split at hq<;>first|cases hq|(rename_i e;rw[e];decide)
theorem xu(hs:Sm p):(it0 p).length<=1000000:=by
 unfold it0
 match hi:p.items with
 | []=>simp
 | a::l=>exact hs a (by rw[hi];simp)
theorem wR(h:PgN w n0 v p)(hm:Mo m)(hs:Sm p)(hd:r.data.length<=1000000){x y:Nat}(hx:w.heap[x]?=some (.cells #[.int .u8 2] 373))(hy:w.heap[y]?=some (.cells #[.int .u8 3] 373)){f:Value}(hf:getD (dd x y) r.kind=some f)(hq:M.deed m p r=some q){k:KV}(kk:∀u w',PgN w' w.heap.size u q->Fm F0 w w'->k (.tuple #[.agg (pcs q u),iv 0]) w'):ClV prog f [iv m,.agg (pcs p v),.agg (rcs r vs vm vi vp vt)] w k:=by
 have hq0:=hq;have kk:∀o w',(∃u,o=.tuple #[.agg (pcs q u),iv 0]/\PgN w' w.heap.size u q/\Fm F0 w w')->k o w':=by rintro _ w' ⟨u,rfl,hN,hf⟩;exact kk u w' hN hf
 rcases wS hq with hk|hk|hk|hk|hk|hk<;>rw[hk] at hf<;>cases hf
 ·exact ay (by kernel_rfl) ((oJ h hd hk hq).mono kk)
 ·unfold M.deed at hq;rw[hk] at hq;exact ay (by kernel_rfl) ((lX h hs hq).mono kk)
 ·unfold M.deed at hq;rw[hk] at hq;obtain⟨e,he,hq⟩:=bind_some hq;unfold M.nodeIn at hq;obtain⟨l,hl,_⟩:=bind_some hq;exact ay (by kernel_rfl) ((qB h hs hd (cm hl).1.level hk hq0).mono kk)
 ·exact ay (by kernel_rfl) ((tS h hs hk hq).mono kk)
 ·unfold M.deed at hq;rw[hk] at hq;exact ay (by kernel_rfl) ((ji h hm (xu hs) hx (by decide) (by decide) hq).mono kk)
 ·unfold M.deed at hq;rw[hk] at hq;exact ay (by kernel_rfl) ((ji h hm (xu hs) hy (by decide) (by decide) hq).mono kk)
theorem PgN.lsn(h:PgN w n0 v p){z:Int}(hz:In z):PgN w n0 v { p with lsn:=z }:=⟨h.one,h.it,h.small,⟨hz,h.ins.2⟩,h.fr⟩
theorem Hx(hi:ImAs w vi [])(f:Value):Cl prog 230 [vi,f] w λo w'=>o=iv (-1)/\w'=w:=by refine cU2 func230 ?_ (V [(2,[8])]);simp only[RU,hi.lenV];refine⟨λvs w'=>vs=[iv 0]/\w'=w,λ_ _=>0,⟨rfl,rfl⟩,?_⟩;rintro w2 v1 ⟨hvs,rfl⟩;cases hvs;simp only[RU,show decide ((0:Int)<(([]:List (Int×Pg)).length:Nat))=false from rfl,and_self]
theorem GM{x:Int×Pg}{u:Value}{b:Nat}(hb:w.heap[b]?=some (.cells #[iv x.1] 3)):Cl prog 231 [.agg (imC (x.1,x.2,u)).toArray,pv b] w λo w'=>o=.bool true/\Fm F0 w w':=by refine cU2 func231 ?_;refine ae ?_;rintro b1 w1 rfl hs1 hw1 hf1;simp only[RU,ab hw1,ab (hf1.heap hb id),show(imC (x.1,x.2,u))[0]?=some (iv x.1) from rfl,beq_self_eq_true];exact hf1
theorem Hy{x:Int×Pg}{g b:Nat}(hc:jw prog g=true)(hg:∀{w:World} {u:Value},w.heap[b]?=some (.cells #[iv x.1] 3)->Cl prog g [.agg (imC (x.1,x.2,u)).toArray,pv b] w λo w'=>o=.bool true/\Fm F0 w w')(hi:ImAs w vi [x])(hb:w.heap[b]?=some (.cells #[iv x.1] 3)):Cl prog 230 [vi,.func (.func g) #[] #[pv b]] w λo w'=>o=iv 0/\Fm F0 w w':=by
 refine cU2 func230 ?_ (V [(2,[8])]);simp only[RU,hi.lenV];refine⟨λvs w'=>vs=[iv 0]/\w'=w,λ_ _=>0,⟨rfl,rfl⟩,?_⟩;rintro w2 v1 ⟨hvs,rfl⟩;cases hvs;obtain⟨ad,u,k1,k2,k3,k4⟩:=hi.ld (i:=0) rfl
 replace k1:ixV 7 vi (iv 0)=_:=k1
 simp only[RU,show decide ((0:Int)<(([x]:List (Int×Pg)).length:Nat))=true from rfl,k1,k2];refine ay hc ((hg hb).mono ?_);rintro _ w1 ⟨rfl,hf1⟩;simp only[RU];exact hf1
theorem wX(h:PgN w n0 v p)(hm:Mo m)(hs:Sm p)(hd:r.data.length<=1000000)(hi:ImAs w vi r.imgs)(h0:r.imgs=[])(hz:In r.lsn)(hl:p.lsn<r.lsn)(hq:M.deed m p r=some q):Cl prog 137 [iv m,.agg (pcs p v),iv r.page,.agg (rcs r vs vm vi vp vt)] w λo w'=>∃u,o=.tuple #[.agg (pcs { q with lsn:=r.lsn } u),iv 0]/\PgN w' w.heap.size u { q with lsn:=r.lsn }/\Fm F0 w w':=by
 have hk:=wS hq;rw[h0] at hi;refine cU4 func137 ?_;refine ae ?_;rintro b1 w1 rfl hs1 hw1 hf1;refine ae ?_;rintro b2 w2 rfl hs2 hw2 hf2;refine ae ?_;rintro b3 w3 rfl hs3 hw3 hf3;refine ae ?_;rintro b4 w4 rfl hs4 hw4 hf4;have hf34:=Fmf hf3 hf4;have hf24:=Fmf hf2 hf34;have hw1:=hf24.heap hw1 id;have hw2:=hf34.heap hw2 id;have hw3:RB w4 w2.heap.size r vs vm vi vp vt:=⟨hf4.heap hw3 id⟩;have hF:=Fmf hf1 hf24;simp only[RU,hw3.c13];refine(Hx (hi.keep hF) _).mono ?_;rintro _ w5 ⟨rfl,rfl⟩;simp only[RU,show decide ((0:Int)<=-1)=false from rfl];refine⟨λw'=>Fm F0 w5 w',Fm.drew _ _,?_⟩;refine rdP (λw' hw=>(hw3.keep hw id).c3) ?_;refine(lW _).mono ?_;rintro _ w6 ⟨b,x,y,rfl,hmp,hx,hy,hf6⟩;have hf6:=Fmf (Fm.drew F0 w5) hf6;obtain⟨f,hg,hff⟩:=Bt hk x y;have e1:ax (TypeDesc.func #[3,68,168] #[68,36] false) .eql f .nilFunc=some (.bool false):=by rcases hff with rfl|rfl|rfl|rfl|rfl|rfl<;>kernel_rfl
 refine⟨hf6,ag (wU hmp _) ⟨rfl,?_⟩⟩;rw[hg];have hw3:=hw3.keep hf6 id;have hw1:=hf6.heap hw1 id;simp only[RU,Option.getD_some,e1,PB.c0 hw1,hw3.c0,decide_eq_false (show ¬r.lsn<=p.lsn by omega),ab (hf6.heap hw2 id),hw3.c5,show(r.page != r.page)=false by simp,PB.all hw1,hw3.all];refine wR (h.keep (Fmf hF hf6)) hm hs hd hx hy hg hq ?_;intro u w7 hN hf7;simp only[RU];refine aE (us:=pcs q u) (λw8 hs8 hw8 hf8'=>?_) rfl rfl (lM _ hN.one);have hf8:=Fmf hf7 hf8';simp only[RU,show((0:Int) != 0)=false from rfl,(hw3.keep hf8 id).c0];have hz8:=hf7.size;have hw4:=(Fmf hf6 hf8).heap hw4 id;refine au hw8 (j:=0) (show 0<6 by decide) rfl λw9 hw9 hs9 hf9=>?_
 replace hw9:w9.heap[w7.heap.size]?=some (.cells (pcs { q with lsn:=r.lsn } u) 68):=hw9
 simp only[RU,aa (n:=6) hw9 rfl];have hs67:=(Fmf hF hf6).size;have hs56:=hf6.size;have hN9:PgN w9 w6.heap.size u q:=(hN.keep hf8').o6 hf9 (λhx e=>by have:=hN.it.blt (by simpa using hx) _ e;omega);refine ao (hf9.heap hw4 (by omega)) (λwa hwa hsa hfa=>?_) rfl rfl (lM _ hN.one);simp only[RU,aa (n:=6) hwa rfl];exact⟨u,rfl,((hN9.dO hfa (by rintro y rfl;omega)).lsn hz).base hs67,Fm.own (Fm.own (Fmf hF (Fmf hf6 hf8)) hf9 (by rintro y rfl;omega)) hfa (by rintro y rfl;omega)⟩
theorem Ib{x:Int×Pg}(hi:ImAs w vi [x]):∃ad u,ixV 7 vi (iv 0)=some (.pointer (some ad))/\aM w (ad.add 1) 6=some (.agg (pcs x.2 u))/\u.oneCell'=true/\PgAs w (pcs x.2 u) x.2:=by
 obtain⟨X,h1,h2,h3⟩:=hi.ex
 match X,h1 with
 | [z],h1=>cases h1;obtain⟨g1,g2⟩:=h3 z (by simp);obtain⟨ad,k1,k2,k3⟩:=h2.at (i:=0) (by omega) (by simp) .i64;refine⟨ad,z.2.2,k1,aN (l:=(pcs z.2.1 z.2.2).toList) rfl λj hj=>?_,g1,g2⟩;rw[jQ,k3 (1+j) (by omega),Nat.add_comm 1 j];simp[imC]
theorem Bu{x:Int×Pg}(hi:ImAs w vi r.imgs)(h0:r.imgs=[x])(hz:In r.lsn)(hl:x.2.items.length<=1000):Cl prog 137 [iv m,.agg (pcs p v),iv x.1,.agg (rcs r vs vm vi vp vt)] w λo w'=>∃u,o=.tuple #[.agg (pcs { x.2 with lsn:=r.lsn } u),iv 0]/\PgN w' w.heap.size u { x.2 with lsn:=r.lsn }/\Fm F0 w w':=by
 rw[h0] at hi;refine cU4 func137 ?_;refine ae ?_;rintro b1 w1 rfl hs1 hw1 hf1;refine ae ?_;rintro b2 w2 rfl hs2 hw2 hf2;refine ae ?_;rintro b3 w3 rfl hs3 hw3 hf3;refine ae ?_;rintro b4 w4 rfl hs4 hw4 hf4;have hf34:=Fmf hf3 hf4;have hf24:=Fmf hf2 hf34;have hw2:=hf34.heap hw2 id;have hw3:RB w4 w2.heap.size r vs vm vi vp vt:=⟨hf4.heap hw3 id⟩;have hF:=Fmf hf1 hf24;simp only[RU,hw3.c13];refine(Hy (by kernel_rfl) GM (hi.keep hF) hw2).mono ?_;rintro _ w5 ⟨rfl,hf5⟩;have hF5:=Fmf hF hf5;have hw3:=hw3.keep hf5 id;have hw4:=hf5.heap hw4 id;obtain⟨ad,u,k1,k5,k3,k4⟩:=Ib (hi.keep hF5);simp only[RU,show decide ((0:Int)<=0)=true from rfl,hw3.c13,k1,k5];refine aE (us:=pcs x.2 u) (λw6 hs6 hw6 hf6=>?_) rfl rfl (lM _ k3);simp only[RU];have hw3:=hw3.keep hf6 id;have hl3:=hw3.lt;have hw4:=hf6.heap hw4 id;have hl4:=aj hw4;have hl35:=hf5.size;have hF6:=Fmf hF5 hf6;have hd:=Fm.drew F0 w6;refine⟨λw'=>Fm (·=w5.heap.size) w6 w',Fm.drew _ _,?_⟩;simp only[RU,PB.c5 hw6];refine rdP (λw' hw=>(hw3.keep hw (by omega)).c0) ?_;obtain⟨u',e,_,hit⟩:=(k4.keep (Fmf hf6 hd)).ex;have:u'=u:=by simp only[pcs] at e;injection e with e;simpa using e.symm
 subst this;refine(dj hit (by omega)).mono ?_;rintro v' w7 ⟨ho7,hf7⟩;have hf7:=Fmf hd hf7;have hw7:=hf7.heap hw6 id;refine⟨hf7.mono iE,?_⟩;refine au hw7 (j:=5) (show 5<6 by decide) (aB ho7) λw8 hw8 hs8 hf8=>?_
 replace hw8:w8.heap[w5.heap.size]?=some (.cells (pcs x.2 v') 68):=hw8
 refine⟨hf7.trans hf8 iE iT,?_⟩;refine au hw8 (j:=0) (show 0<6 by decide) rfl λw9 hw9 hs9 hf9=>?_
 replace hw9:w9.heap[w5.heap.size]?=some (.cells (pcs { x.2 with lsn:=r.lsn } v') 68):=hw9
 have hl6:w5.heap.size<w6.heap.size:=by omega
 rw[aL] at ho7;have ho9:=ah (ah ho7 hf8 (by rintro y hy _ _ rfl;omega)) hf9 (by rintro y hy _ _ rfl;omega);have hs6':=hF6.size;have hw4:=hf9.heap (hf8.heap (hf7.heap hw4 id) (by omega)) (by omega);have hF9:=Fm.own (Fm.own (Fmf hF6 hf7) hf8 (by rintro y rfl;have:=hF5.size;omega)) hf9 (by rintro y rfl;have:=hF5.size;omega);simp only[RU,aa (n:=6) hw9 rfl];refine ao hw4 (λwa hwa hsa hfa=>?_) rfl rfl (lM { x.2 with lsn:=r.lsn } (aB ho9));simp only[RU,aa (n:=6) hwa rfl];have hoa:=ah ho9 hfa (by rintro y hy _ _ rfl;omega);exact⟨v',rfl,(PgN.y8 (p:={ x.2 with lsn:=r.lsn }) ⟨⟨v',rfl,hoa⟩,k4.small,⟨hz,k4.ins.2⟩⟩ hl).base hs6',Fm.own hF9 hfa (by rintro y rfl;omega)⟩
end
section
variable{w w':World}{vs vm vi vp vt:Value}{r u:Rc}
theorem undoes_spec:Cl prog 212 [.agg (rcs r vs vm vi vp vt)] w λo w'=>o=.bool (M.undoes r)/\Fm F0 w w':=by
 unfold M.undoes;refine cU1 func212 ?_;refine ae ?_;rintro b1 w1 rfl hs1 hw1 hf1
 replace hw1:RB w1 w.heap.size r vs vm vi vp vt:=⟨hw1⟩
 by_cases h1:r.kind=1
 ·simp only[RU,hw1.c3,h1,beq_self_eq_true,decide_true,Bool.true_or];exact hf1
 ·simp only[RU,hw1.c3,aV,decide_eq_false h1,Bool.false_or];exact hf1
abbrev rcV(r:Rc):Value:=.agg (rcs r nl nl nl nl nl)
theorem Cd(r:Rc):M.back r=(bif decide (r.kind=1) then some ⟨0,0,r.prev,6,r.xid,r.page,r.slot,0,0,0,[],[],[],[],[],[]⟩ else bif decide (r.kind=2) then some ⟨0,0,r.prev,6,r.xid,r.page,r.slot,r.new,r.old,0,[],[],[],[],[],[]⟩ else none):=by
 unfold M.back;split
 ·rename_i e;rw[e];rfl
 ·rename_i e;rw[e];rfl
 ·rename_i h1 h2;rw[decide_eq_false h1,decide_eq_false h2];rfl
theorem back_spec:Cl prog 120 [.agg (rcs r vs vm vi vp vt)] w λo w'=>o=.tuple #[rcV ((M.back r).getD M.rec0),iv (bif (M.back r).isSome then 0 else 160)]/\Fm F0 w w':=by
 rw[Cd];refine cU1 func120 ?_ (V []) (J [(7,[])]);refine ae ?_;rintro b1 w1 rfl hs1 hw1 hf1;refine ae ?_;rintro b2 w2 rfl hs2 hw2 hf2;have hw1:RB w2 w.heap.size r vs vm vi vp vt:=⟨hf2.heap hw1 id⟩;have hF:=Fmf hf1 hf2;simp only[RU,hw1.c4,hw1.c5,hw1.c6,hw1.c1,hw1.c3,jn1];refine bst (rcs ⟨0,0,r.prev,6,r.xid,r.page,r.slot,0,0,0,[],[],[],[],[],[]⟩ nl nl nl nl nl) ?_;refine aE λw3 hs3 hw3 hf3=>?_;have hw1:=hw1.keep hf3 id;have hw2:=hf3.heap hw2 id;have hF:=Fmf hF hf3;have fin:∀(w4:World) (u:Rc) (e:Int) (cs:Array Value),cs.size=16->w4.heap[w1.heap.size]?=some (.cells cs 168)->Fm F0 w w4->St 16 w4 (pv w1.heap.size) (rcV u) λ_ w_2=>Pu (aM w_2 ⟨w1.heap.size,0,none⟩ 16) λx=>Value.tuple #[x,iv e]=.tuple #[rcV u,iv e]/\Fm F0 w w_2:=by intro w4 u e cs hc h2 hf;refine ao h2 (λw5 hw5 hs5 hf5=>?_) rfl hc rfl;simp only[RU,aa (n:=16) hw5 rfl];exact Fm.own hf hf5 (by rintro y rfl;omega)
 by_cases h1:r.kind=1
 ·simp only[RU,hw1.c3,h1,beq_self_eq_true,aa (n:=16) hw3 rfl,decide_true];exact fin w3 ⟨0,0,r.prev,6,r.xid,r.page,r.slot,0,0,0,[],[],[],[],[],[]⟩ 0 _ rfl hw2 hF
 by_cases h2:r.kind=2
 ·simp only[RU,hw1.c3,h2,show((2:Int) == 1)=false from rfl,beq_self_eq_true,show decide ((2:Int)=1)=false from rfl,decide_true];have hd:=λ(w':World) (h:Fm (·=w2.heap.size) w3 w')=>hw1.keep h (by have:=hs1;have:=hs2;omega);refine⟨λw'=>Fm (·=w2.heap.size) w3 w',Fm.drew _ _,?_⟩;simp only[RU,hw1.c8];refine rdP (λw' hw=>(hd w' hw).c7) ?_;have hw3d:w3.drew.heap[w2.heap.size]?=_:=(aL w3).symm▸hw3;refine au hw3d (j:=7) (show 7<16 by decide) rfl λw4 hw4 hs4 hf4=>?_;have hf4:=(Fm.drew (·=w2.heap.size) w3).trans hf4 iT iT;refine⟨hf4,au hw4 (j:=8) (show 8<16 by decide) rfl λw5 hw5 hs5 hf5=>?_⟩
  replace hw5:w5.heap[w2.heap.size]?=some (.cells (rcs ⟨0,0,r.prev,6,r.xid,r.page,r.slot,r.new,r.old,0,[],[],[],[],[],[]⟩ nl nl nl nl nl) 168):=hw5
  simp only[RU,aa (n:=16) hw5 rfl];exact fin w5 ⟨0,0,r.prev,6,r.xid,r.page,r.slot,r.new,r.old,0,[],[],[],[],[],[]⟩ 0 _ rfl (hf5.heap (hf4.heap hw2 (by omega)) (by omega)) (Fm.own (Fm.own hF hf4 (by rintro y rfl;omega)) hf5 (by rintro y rfl;omega))
 ·simp only[RU,hw1.c3,aV,decide_eq_false h1,decide_eq_false h2];refine bst (rcs M.rec0 nl nl nl nl nl) ?_;exact fin w3 M.rec0 160 _ rfl hw2 hF
end
open M (Tx)
abbrev txC(who:Int)(a:Value)(t:Tx):Array Value:=#[iv t.next,a,iv t.xid,iv t.first,iv t.last,iv t.undoes,iv who]
theorem K174:KeyT prog 174 3 170 iv:=dH underlying174 underlying3
def B3(w:World)(y:Nat):Prop:=∃cs fz,w.heap[y]?=some (.cells cs 3 fz)
structure TxAt (w : World) (D : Nat → Prop) (b bm : Nat) (T : List (Int × Nat)) (L : List (Int × Tx)) : Prop where
 st : w.heap[b]? = some (.cells #[.map (some bm)] 176)
 mp : MapAt w bm iv pv T
 keys : T.map (·.1) = L.map (·.1)
 nd : (T.map (·.2)).Nodup
 ob : D b ∧ D bm ∧ ∀ p ∈ T, D p.2
 at_ : ∀ who g, getD T who = some g → ∃ t a, getD L who = some t ∧ w.heap[g]? = some (.cells (txC who a t) 179) ∧ IsIn w a t.act ∧ (∀ y, blockOf a = some y → D y ∧ B3 w y)
section
variable{w w':World}{D:Nat->Prop}{b bm:Nat}{T:List (Int×Nat)}{L:List (Int×Tx)}{v:Value}{l:List Int}{t:Tx}
theorem dF{β:Type}{D:List (Int×β)}{a:Int}{b:β}(h:getD D a=some b):(a,b)∈D:=by
 unfold getD at h;obtain⟨p,hp,rfl⟩:=Option.map_eq_some_iff.1 h;have h1:p.1=a:=by simpa using List.find?_some hp
 rw[<- h1];exact List.mem_of_find?_eq_some hp
theorem IsIn.j5{S:Nat->Prop}(h:IsIn w v l)(hf:Fm S w w')(hs:∀y,blockOf v=some y->¬S y):IsIn w' v l:=by obtain⟨A,h1,h2⟩:=h.ex;exact⟨A,h1.keep hf hs,h2⟩
theorem IsIn.one(h:IsIn w v l):v.oneCell'=true:=by
 obtain⟨A,⟨⟨a,c,rfl,_⟩,_⟩,_⟩:=h.ex
 rfl
theorem jE{e:TypeId}{base n:Nat}{A:List Int}(ho:w.ownsRow base e 1 v n (A.map iv))(hn:A.length<=1000000)(hl:∀x,x∈A↔x∈l):IsIn w v l:=by have h:=ho.1;rw[List.length_map,Nat.mul_one] at h;subst h;exact⟨A,CellsAt.aT ho,hn,hl⟩
theorem kO{e:TypeId}{base n:Nat}{xs:List Value}(ho:w.ownsRow base e 1 v n xs){y:Nat}(h:blockOf v=some y):base<=y:=by
 rcases ho.2 with⟨rfl,_⟩|⟨g,c,cur,rfl,hb,_⟩
 ·cases h
 ·cases h;exact hb
theorem TxAt.keep{S:Nat->Prop}(h:TxAt w D b bm T L)(hf:Fm S w w')(hs:∀y,D y->¬S y):TxAt w' D b bm T L:=by obtain⟨o1,o2,o3⟩:=h.ob;refine⟨hf.heap h.st (hs _ o1),h.mp.keep hf (hs _ o2),h.keys,h.nd,h.ob,λwho g hg=>?_⟩;obtain⟨t,a,q1,q2,q3,q4⟩:=h.at_ who g hg;exact⟨t,a,q1,hf.heap q2 (hs _ (o3 (who,g) (dF hg))),q3.j5 hf (λy hy=>hs _ (q4 y hy).1),λy hy=>⟨(q4 y hy).1,by obtain⟨cs,fz,e⟩:=(q4 y hy).2;exact⟨cs,fz,hf.heap e (hs _ (q4 y hy).1)⟩⟩⟩
theorem gw(h:CellsAt w v l.length 1 (l.map iv))(hs:l.length<=1000000):Cl prog 89 [v] w λr w'=>w'.ownsRow w.heap.size 3 1 r l.length (l.map iv)/\Fm F0 w w':=by
 refine cU1 func89 ?_;obtain⟨⟨a,c,hv,h1,h2,h3,h4⟩,hl⟩:=id h;cases a with
 | none=>
  subst hv;obtain⟨e1,e2⟩:=h3 rfl;have e3:ax (TypeDesc.slice 3) .eql (.slice none l.length c) (.slice none 0 0)=some (.bool true):=by kernel_rfl
  simp only[RU,e3];have:l=[]:=List.eq_nil_of_length_eq_zero e1;subst this;exact⟨World.ownsRow_nil _ _ _ _,Fm.refl _ _⟩
 | some ad=>
  subst hv;have e3:ax (TypeDesc.slice 3) .eql (.slice (some ad) l.length c) (.slice none 0 0)=some (.bool false):=by kernel_rfl
  simp only[RU,e3];refine bsl 0 #[] 3 ?_;have ho2:=pz (w:=w) (e:=3) (l:=[]) (by simp[maxLen]) (Nat.le_refl _);have hf2:=Fm.alloc F0 w (.cells #[] 3)
  replace ho2:(w.alloc (.cells #[] 3)).ownsRow w.heap.size 3 1 (.slice (some ⟨w.heap.size,0,none⟩) 0 0) 0 []:=ho2
  generalize w.alloc (.cells #[] 3)=w2 at ho2 hf2;obtain⟨lv,w3,hr3,ho3,hf3⟩:=cD E25 (by omega) ho2 (h.keep hf2 iT) (by intro u hu;obtain⟨x,_,rfl⟩:=List.mem_map.1 hu;rfl) 25 (by unfold maxLen;omega) (by omega) hf2.size;refine ag hr3 ?_;rw[Nat.zero_add,List.nil_append] at ho3;exact⟨ho3,Fm.own hf2 hf3 (λy hy=>by have:=aO ho2 y hy;omega)⟩
theorem eJ(h:TxAt w D b bm T L){who:Int}(ht:getD L who=some t):Cl prog 87 [pv b,iv who] w λo w'=>∃g a,o=.tuple #[pv g,iv 0]/\getD T who=some g/\w.heap[g]?=some (.cells (txC who a t) 179)/\IsIn w a t.act/\w'=w:=by
 have hk:∃g,getD T who=some g:=by
  have:who∈T.map (·.1):=by rw[h.keys];exact List.mem_map.2 ⟨_,dF ht,rfl⟩
  obtain⟨p,hp,e⟩:=List.mem_map.1 this;cases hg:getD T who with
  | some g=>exact⟨g,rfl⟩
  | none=>unfold getD at hg;rw[Option.map_eq_none_iff,List.find?_eq_none] at hg;exact absurd (decide_eq_true e) (by simpa using hg p hp)
 obtain⟨g,hg⟩:=hk;obtain⟨t',a,q1,q2,q3,q4⟩:=h.at_ who g hg;rw[ht] at q1;cases q1;refine cU2 func87 ?_;have e:=aW K174 h.mp who false (z:=np) (by kernel_rfl);rw[hg] at e;simp only[RU,ab h.st];refine ag e ?_;simp only[RU,okV,cond_false];exact⟨g,a,rfl,hg,q2,q3,trivial⟩
theorem py{g:Nat}{a:Value}{who:Int}(hg:w.heap[g]?=some (.cells (txC who a t) 179))(ha:IsIn w a t.act):Cl prog 88 [pv g] w λo w'=>∃u,o=.agg #[iv t.next,u,iv t.xid,iv t.first,iv t.last,iv t.undoes]/\IsIn w' u t.act/\u.oneCell'=true/\(∀y,blockOf u=some y->w.heap.size<=y/\B3 w' y)/\Fm F0 w w':=by
 refine cU1 func88 ?_;refine ae ?_;rintro b2 w2 rfl hs2 hw2 hf2;have hg2:=hf2.heap hg id;have ha2:=ha.keep hf2;simp only[RU,cT hg2 (o:=0) (n:=6) (us:=#[iv t.next,a,iv t.xid,iv t.first,iv t.last,iv t.undoes]) (Nat.le_succ 6) rfl];refine aE (us:=#[iv t.next,a,iv t.xid,iv t.first,iv t.last,iv t.undoes]) (λw3 hs3 hw3 hf3=>?_) rfl rfl (by simp[ha.one];exact⟨rfl,rfl,rfl,rfl,rfl⟩);obtain⟨A,hA,hAl,hAi⟩:=(ha2.keep hf3).ex;simp only[RU,ab (hf3.heap hg2 id)];refine(gw hA hAl).mono ?_;rintro u w4 ⟨ho4,hf4⟩;have hw4:=hf4.heap hw3 id;refine au hw4 (j:=1) (show 1<6 by decide) (aB ho4) λw5 hw5 hs5 hf5=>?_
 replace hw5:w5.heap[w2.heap.size]?=some (.cells #[iv t.next,u,iv t.xid,iv t.first,iv t.last,iv t.undoes] 107):=hw5
 simp only[RU,aa (n:=6) hw5 rfl];have one:(#[iv t.next,u,iv t.xid,iv t.first,iv t.last,iv t.undoes]:Array Value).toList.all Value.oneCell'=true:=by simp[aB ho4];exact⟨rfl,rfl,rfl,rfl,rfl⟩
 have z3:=hf3.size;have z4:=hf4.size;have hF3:=Fmf hf2 (Fmf hf3 hf4);have hF5:=Fm.own hF3 hf5 (by rintro y rfl;have:=hf2.size;omega);refine ao (hf5.heap ((Fmf hf3 hf4).heap hw2 id) (by omega)) (λw6 hw6 hs6 hf6=>?_) rfl rfl one;have hF6:=Fm.own hF5 hf6 (by rintro y rfl;exact Nat.le_refl _);simp only[RU,aa (n:=6) hw6 rfl];have hl3:=aj hw3;have ho7:=ah (ah ho4 hf5 (by rintro y hy _ _ rfl;omega)) hf6 (by rintro y hy _ _ rfl;omega);refine⟨u,rfl,jE ho7 hAl hAi,aB ho4,λy hy=>?_,hF6⟩;have:=kO ho4 hy;refine⟨by omega,?_⟩;rcases ho7.2 with⟨rfl,_⟩|⟨g,c,cur,rfl,hb,hg,_⟩
 ·cases hy
 ·cases hy;exact⟨_,_,hg⟩
theorem lz(h:TxAt w D b bm T L){who:Int}(ht:getD L who=some t):Cl prog 29 [pv b,iv who] w λo w'=>∃a,o=.tuple #[.agg #[iv t.next,a,iv t.xid,iv t.first,iv t.last,iv t.undoes],.bool true]/\IsIn w' a t.act/\a.oneCell'=true/\(∀y,blockOf a=some y->w.heap.size<=y/\B3 w' y)/\Fm F0 w w':=by
 refine cU2 func29 ?_;refine ae ?_;rintro b1 w1 rfl hs1 hw1 hf1;refine(eJ (h.keep hf1 iT) ht).mono ?_;rintro _ w1 ⟨g,a,rfl,_,hg,ha,rfl⟩;simp only[RU,show((0:Int) != 0)=false from rfl];refine(py hg ha).mono ?_;rintro _ w2 ⟨u,rfl,hu,ho,hy,hf2⟩;refine ao (hf2.heap hw1 id) (λw3 hw3 hs3 hf3=>?_) rfl rfl (by simp[ho];exact⟨rfl,rfl,rfl,rfl,rfl⟩);simp only[RU,aa (n:=6) hw3 rfl];have hne:∀y,blockOf u=some y->¬y=w.heap.size:=λy h e=>by have:=(hy y h).1;omega
 exact⟨u,rfl,hu.j5 hf3 hne,ho,λy h=>⟨by have:=(hy y h).1;omega,by obtain⟨cs,fz,e⟩:=(hy y h).2;exact⟨cs,fz,hf3.heap e (hne y h)⟩⟩,Fm.own (Fmf hf1 hf2) hf3 (by rintro y rfl;exact Nat.le_refl _)⟩
theorem CL{α β:Type}{f:α->β}:∀{l:List α},(l.map f).Nodup->∀{p q:α},p∈l->q∈l->f p=f q->p=q
 | x::l,h,p,q,hp,hq,e=>by
  rw[List.map_cons,List.nodup_cons] at h;rcases List.mem_cons.1 hp with h1|h1<;>rcases List.mem_cons.1 hq with h2|h2
  ·rw[h1,h2]
  ·exact absurd (List.mem_map.2 ⟨q,h2,by rw[<- e,h1]⟩) h.1
  ·exact absurd (List.mem_map.2 ⟨p,h1,by rw[e,h2]⟩) h.1
  ·exact CL h.2 h1 h2 e
theorem jB{α β:Type}[DecidableEq α]:∀(l:List (α×β)) (a:α),(cR l a).Sublist l
 | [],_=>List.Sublist.refl _
 | p::l,a=>by
  unfold cR;by_cases e:p.1=a
  ·rw[if_pos e];exact List.sublist_cons_self _ _
  ·rw[if_neg e];exact(jB l a).cons_cons _
theorem TxAt.upd{who:Int}{g:Nat}{t':Tx}{a:Value}(h:TxAt w D b bm T L)(hg:getD T who=some g)(ht:getD L who=some t)(hg':w.heap[g]?=some (.cells (txC who a t) 179))(hw':w'.heap[g]?=some (.cells (txC who a t') 179))(hf:Fm (·=g) w w')(e:t'.act=t.act):TxAt w' D b bm T (cO L who t'):=by
 obtain⟨o1,o2,o3⟩:=h.ob;have hL:who∈L.map (·.1):=by rw[<- h.keys];exact List.mem_map.2 ⟨_,dF hg,rfl⟩
 have hb:b≠g:=by rintro rfl;have:=h.st;rw[hg'] at this;cases this
 have hbm:bm≠g:=by rintro rfl;obtain⟨es,c,hm,_⟩:=h.mp.ex;rw[hg'] at hm;cases hm
 have hn:(T.map (·.1)).Nodup:=h.mp.keys;refine⟨hf.heap h.st hb,h.mp.keep hf hbm,by rw[cV,if_pos hL];exact h.keys,h.nd,h.ob,λwho' g' hg2=>?_⟩;obtain⟨t2,a2,q1,q2,q3,q4⟩:=h.at_ who' g' hg2;have k3:∀y,blockOf a2=some y->y≠g:=by rintro y hy rfl;obtain⟨_,cs,fz,e⟩:=q4 y hy;rw[hg'] at e;cases e
 have q4':∀y,blockOf a2=some y->D y/\B3 w' y:=λy hy=>⟨(q4 y hy).1,by obtain⟨cs,fz,e⟩:=(q4 y hy).2;exact⟨cs,fz,hf.heap e (k3 y hy)⟩⟩;by_cases hw:who'=who
 ·subst hw;rw[hg] at hg2;cases hg2;rw[ht] at q1;cases q1;rw[hg'] at q2;obtain rfl:a=a2:=by injection q2 with q2;injection q2 with q2;injection q2 with q2;simp at q2;exact q2
  exact⟨t',a,by rw[bl,if_pos rfl],hw',e▸q3.j5 hf k3,q4'⟩
 ·have hne:g'≠g:=by rintro rfl;have:=CL (f:=(·.2)) h.nd (dF hg) (dF hg2) rfl;exact hw (congrArg (·.1) this).symm
  exact⟨t2,a2,by rw[bl,if_neg hw];exact q1,hf.heap q2 hne,q3.j5 hf k3,q4'⟩
theorem qU(h:TxAt w D b bm T L){who x:Int}{u:Bool}{L':List (Int×Tx)}(hl:M.logged L who x u=some L'):Cl prog 213 [pv b,iv who,iv x,.bool u] w λo w'=>o=iv 0/\TxAt w' D b bm T L'/\Fm D w w':=by
 unfold M.logged at hl;obtain⟨t,ht,hl⟩:=bind_some hl;obtain⟨_,hc,hl⟩:=bind_some hl;cases hl;have hc:=ak hc;simp only[Bool.and_eq_true,Bool.not_eq_true',decide_eq_true_eq,decide_eq_false_iff_not] at hc;obtain⟨⟨h1,h2⟩,h3,h4⟩:=hc;refine cU4 func213 ?_ (V []) (J [(9,[]),(11,[])]);refine(eJ h ht).mono ?_;rintro _ w1 ⟨g,a,rfl,hg,hw,ha,rfl⟩;have c:=λo=>ab (off:=o) hw;have hD:=h.ob.2.2 _ (dF hg);have fin:∀(t':Tx) (w2:World),t'.act=t.act->w2.heap[g]?=some (.cells (txC who a t') 179)->Fm (·=g) w1 w2->TxAt w2 D b bm T (cO L who t')/\Fm D w1 w2:=λt' w2 e h2 hf=>⟨h.upd hg ht hw h2 hf e,hf.mono (λy _ e=>by rw[e];exact hD)⟩;simp only[RU,c,aV,decide_eq_false h1,decide_eq_false (show ¬x<=t.last by omega),show decide ((0:Int)=0)=true from rfl,show((0:Int) != 0)=false from rfl,jn1];refine au hw (j:=4) (show 4<7 by decide) rfl λw2 hw2 hs2 hf2=>?_
 replace hw2:w2.heap[g]?=some (.cells (txC who a { t with last:=x }) 179):=hw2
 have c2:=λo=>ab (off:=o) hw2;have tail:∀(t2:Tx) (w3:World),t2.act=t.act->t2.undoes=t.undoes->w3.heap[g]?=some (.cells (txC who a t2) 179)->Fm (·=g) w1 w3->IfB (.bool u) (Pu (w3.cell? ⟨g,5,none⟩) λx=>Pu (ax (.int .i64) .add x (iv 1)) λv=>St 1 w3 (.pointer (some ⟨g,5,none⟩)) v λ_ w=>TxAt w D b bm T (cO L who { t2 with undoes:=bif u then t.undoes+1 else t.undoes })/\Fm D w1 w) (TxAt w3 D b bm T (cO L who { t2 with undoes:=bif u then t.undoes+1 else t.undoes })/\Fm D w1 w3):=by
  intro t2 w3 e1 e2 h2 hf;cases u with
  | false=>rw[cond_false,<- e2];simp only[RU];exact fin t2 w3 e1 h2 hf
  | true=>rw[cond_true,<- e2];simp only[RU,ab h2,show IntKind.i64.wrap (t2.undoes+1)=t2.undoes+1 by rw[af]<;>omega];refine au h2 (j:=5) (show 5<7 by decide) rfl λw4 hw4 hs4 hf4=>?_;exact fin { t2 with undoes:=t2.undoes+1 } w4 e1 hw4 (hf.trans hf4 iT iT)
 by_cases h0:t.first=0
 ·simp only[RU,c2,h0,beq_self_eq_true,decide_true,cond_true];refine au hw2 (j:=3) (show 3<7 by decide) rfl λw3 hw3 hs3 hf3=>?_;exact tail { t with last:=x,first:=x } w3 rfl rfl hw3 (hf2.trans hf3 iT iT)
 ·simp only[RU,c2 3,aV,decide_eq_false h0,cond_false];exact tail { t with last:=x } w2 rfl rfl hw2 hf2
theorem TxAt.del(h:TxAt w D b bm T L){who:Int}(hm:MapAt w' bm iv pv (cR T who))(hf:Fm (·=bm) w w'):TxAt w' D b bm (cR T who) (cR L who):=by
 obtain⟨o1,o2,o3⟩:=h.ob;have hn:=h.mp.keys;have hnL:(L.map (·.1)).Nodup:=h.keys▸hn;have hmap:∀y,∀cs t fz,w.heap[y]?=some (.cells cs t fz)->y≠bm:=by rintro y cs t fz e rfl;obtain⟨es,c,hm,_⟩:=h.mp.ex;rw[e] at hm;cases hm
 have hsub:∀p∈cR T who,p∈T:=λp hp=>(jB T who).subset hp;refine⟨hf.heap h.st (hmap _ _ _ _ h.st),hm,by rw[ia,ia,h.keys],((jB T who).map _).nodup h.nd,⟨o1,o2,λp hp=>o3 p (hsub p hp)⟩,λwho' g' hg=>?_⟩;rw[cU hn] at hg;by_cases e:who'=who
 ·rw[if_pos e] at hg;cases hg
 ·rw[if_neg e] at hg;obtain⟨t,a,q1,q2,q3,q4⟩:=h.at_ who' g' hg;have hb:∀y,blockOf a=some y->¬y=bm:=λy hy=>by obtain⟨_,cs,fz,e⟩:=q4 y hy;exact hmap _ _ _ _ e
  exact⟨t,a,by rw[cU hnL,if_neg e];exact q1,hf.heap q2 (hmap _ _ _ _ q2),q3.j5 hf hb,λy hy=>⟨(q4 y hy).1,by obtain⟨cs,fz,e⟩:=(q4 y hy).2;exact⟨cs,fz,hf.heap e (hb y hy)⟩⟩⟩
theorem qc(h:TxAt w D b bm T L)(hD:∀y,D y->y<w.heap.size){who:Int}(ht:getD L who=some t):Cl prog 115 [pv b,iv who] w λo w'=>∃x,o=.tuple #[x,iv 0]/\TxAt w' D b bm (cR T who) (cR L who)/\Fm D w w':=by
 refine cU2 func115 ?_;refine ae ?_;rintro b1 w1 rfl hs1 hw1 hf1;have h1:=h.keep hf1 iT;refine(eJ h1 ht).mono ?_;rintro _ w1 ⟨g,a,rfl,hgt,hg,ha,rfl⟩;simp only[RU,show((0:Int) != 0)=false from rfl,ab h1.st];obtain⟨w2,hr2,hm2,hf2,_⟩:=dR K174 h1.mp who 0 3;refine ag hr2 ?_;have hx:∀y,blockOf a=some y->¬y=bm:=by
  rintro y hy rfl;obtain⟨t2,a2,q1,q2,q3,q4⟩:=h1.at_ who g hgt;rw[hg] at q2;obtain rfl:a=a2:=by injection q2 with q2;injection q2 with q2;injection q2 with q2;simp at q2;exact q2.2.1
  obtain⟨_,cs,fz,e⟩:=q4 _ hy;obtain⟨es,c,hm,_⟩:=h1.mp.ex;rw[e] at hm;cases hm
 have hgb:¬g=bm:=by rintro rfl;obtain⟨es,c,hm,_⟩:=h1.mp.ex;rw[hg] at hm;cases hm
 have h2:=h1.del hm2 hf2;refine(py (hf2.heap hg hgb) (ha.j5 hf2 hx)).mono ?_;rintro _ w3 ⟨u,rfl,hu,ho,hy,hf3⟩;have hwne:w.heap.size≠bm:=by have:=h.mp.lt;omega
 refine ao (hf3.heap (hf2.heap hw1 hwne) id) (λw4 hw4 hs4 hf4=>?_) rfl rfl (by simp[ho];exact⟨rfl,rfl,rfl,rfl,rfl⟩);simp only[RU,aa (n:=6) hw4 rfl];have f12:Fm D w w2:=hf1.trans hf2 iE (λy _ e=>by rw[e];exact h.ob.2.1);exact⟨_,rfl,(h2.keep hf3 iT).keep hf4 (λy hy e=>by have:=hD y hy;omega),(f12.trans hf3 iT iE).trans hf4 iT (λy hy e=>by omega)⟩
theorem vf(w:World):Cl prog 83 [] w λo w'=>∃b bm,o=pv b/\w.heap.size<=b/\w.heap.size<=bm/\TxAt w' (w.heap.size<=·) b bm [] []/\Fm F0 w w':=by refine cU0 func83 ?_;refine ag (bf _ _) (bst #[.map (some w.heap.size)] ?_);simp only[RU];refine ae ?_;intro b w' hb hs hw hf;have:=aF w (.map #[] 0);exact⟨b,w.heap.size,rfl,by omega,Nat.le_refl _,⟨hw,(MapAt.empty w iv pv).keep hf id,rfl,by simp,⟨by omega,Nat.le_refl _,by simp⟩,λwho g hg=>by cases hg⟩,Fmf (Fm.alloc F0 w _) hf⟩
theorem TxAt.none{who:Int}(h:TxAt w D b bm T L)(hn:getD L who=Option.none):getD T who=Option.none:=by
 cases hg:getD T who with
 | none=>rfl
 | some g=>obtain⟨t,a,q,_⟩:=h.at_ who g hg;rw[hn] at q;cases q
theorem TxAt.wide{D':Nat->Prop}(h:TxAt w D b bm T L)(hD:∀y,D y->D' y):TxAt w D' b bm T L:=⟨h.st,h.mp,h.keys,h.nd,⟨hD _ h.ob.1,hD _ h.ob.2.1,λp hp=>hD _ (h.ob.2.2 p hp)⟩,λwho g hg=>by obtain⟨t,a,q1,q2,q3,q4⟩:=h.at_ who g hg;exact⟨t,a,q1,q2,q3,λy hy=>⟨hD _ (q4 y hy).1,(q4 y hy).2⟩⟩⟩
theorem TxAt.add{who:Int}{g:Nat}{a:Value}(h:TxAt w D b bm T L)(hn:getD L who=Option.none)(hg:w.heap[g]?=some (.cells (txC who a t) 179))(hT:∀p∈T,p.2≠g)(ha:IsIn w a t.act)(hy:∀y,blockOf a=some y->D y/\B3 w y)(hD:D g)(hm:MapAt w' bm iv pv (cO T who g))(hf:Fm (·=bm) w w'):TxAt w' D b bm (cO T who g) (cO L who t):=by
 have hmap:∀y,∀cs t fz,w.heap[y]?=some (.cells cs t fz)->¬y=bm:=by rintro y cs t fz e rfl;obtain⟨es,c,hm,_⟩:=h.mp.ex;rw[e] at hm;cases hm
 have e1:=di T who g (h.none hn);have fin:∀{a:Value} {t:Tx},IsIn w a t.act->(∀y,blockOf a=some y->D y/\B3 w y)->IsIn w' a t.act/\∀y,blockOf a=some y->D y/\B3 w' y:=λq3 q4=>by
  have hb:∀y,_->¬y=bm:=λy hy=>by obtain⟨_,cs,fz,e⟩:=q4 y hy;exact hmap _ _ _ _ e
  exact⟨q3.j5 hf hb,λy hy=>⟨(q4 y hy).1,by obtain⟨cs,fz,e⟩:=(q4 y hy).2;exact⟨cs,fz,hf.heap e (hb y hy)⟩⟩⟩
 refine⟨hf.heap h.st (hmap _ _ _ _ h.st),hm,by rw[cV,cV,h.keys],?_,⟨h.ob.1,h.ob.2.1,?_⟩,λwho' g' hg2=>?_⟩
 ·rw[e1,List.map_append,List.nodup_append];refine⟨h.nd,by simp,?_⟩;intro y hy z hz;obtain⟨p,hp,rfl⟩:=List.mem_map.1 hy;simp at hz;subst hz;exact hT p hp
 ·intro p hp;rw[e1,List.mem_append] at hp;rcases hp with hp|hp
  ·exact h.ob.2.2 p hp
  ·simp at hp;subst hp;exact hD
 ·rw[bl] at hg2;by_cases e:who'=who
  ·rw[if_pos e] at hg2;cases hg2;subst e;obtain⟨f1,f2⟩:=fin ha hy;exact⟨t,a,by rw[bl,if_pos rfl],hf.heap hg (hmap _ _ _ _ hg),f1,f2⟩
  ·rw[if_neg e] at hg2;obtain⟨t2,a2,q1,q2,q3,q4⟩:=h.at_ who' g' hg2;obtain⟨f1,f2⟩:=fin q3 q4;exact⟨t2,a2,by rw[bl,if_neg e];exact q1,hf.heap q2 (hmap _ _ _ _ q2),f1,f2⟩
theorem qd(h:TxAt w D b bm T L){who n:Int}(hn:getD L who=Option.none){a:Value}(ha:IsIn w a l):Cl prog 31 [pv b,iv who,.agg #[iv n,a]] w λo w'=>o=iv 0/\(∃g,TxAt w' (λy=>D y\/w.heap.size<=y) b bm (cO T who g) (cO L who ⟨n,l,0,0,0,0⟩))/\Fm (·=bm) w w':=by
 refine cU3 func31 ?_;refine ae ?_;rintro b1 w1 rfl hs1 hw1 hf1;have h1:=h.keep hf1 iT;have e:=aW K174 h1.mp who false (z:=np) (by kernel_rfl);rw[h.none hn] at e;simp only[RU,ab h1.st];refine ag e ?_;obtain⟨A,hA,hAl,hAi⟩:=(ha.keep hf1).ex;simp only[RU,okV,cond_false,ab hw1];refine(gw hA hAl).mono ?_;rintro u w2 ⟨ho2,hf2⟩;have hwl:=aj hw1;refine au (hf2.heap hw1 id) (j:=1) (show 1<2 by decide) (aB ho2) λw3 hw3 hs3 hf3=>?_
 replace hw3:w3.heap[w.heap.size]?=some (.cells #[iv n,u] 105):=hw3
 have hF3:=Fm.own (Fmf hf1 hf2) hf3 (by rintro y rfl;exact Nat.le_refl _);have h3:=h.keep hF3 iT;refine⟨λw'=>Fm F0 w3 w',Fm.drew _ _,?_⟩;refine rdP (λw' hw=>by rw[ab (hw.heap h3.st id)];rfl) ?_;have hd:=Fm.drew F0 w3;simp only[RU,aa (n:=2) (hd.heap hw3 id) rfl];refine bst #[iv n,u,iv 0,iv 0,iv 0,iv 0] ⟨rfl,bst (txC who u ⟨n,l,0,0,0,0⟩) ⟨rfl,ae ?_⟩⟩;rintro g w4 rfl hs4 hw4 hf4;have hz:=(Fm.drew F0 w3).size;rw[aL] at hw4 hs4;simp only[RU] at hw4;have hf4:=Fmf hd hf4;refine⟨hf4,?_⟩;have h4:=(h3.keep hf4 iT).wide (D':=λy=>D y\/w.heap.size<=y) (λy e=>.inl e);obtain⟨w5,hr5,hm5,hf5,_⟩:=bk K174 h4.mp who w3.drew.heap.size;refine cB hr5 ?_;rw[aL] at hm5;have ho3:=ah (ah ho2 hf3 (by rintro y hy _ _ rfl;omega)) hf4 (λ_ _ _ _ e=>e);have hF4:=Fmf hF3 hf4;have hz3:=hF3.size;have h5:=h4.add (t:=⟨n,l,0,0,0,0⟩) hn hw4 (λp hp e=>by
  obtain⟨t,a,_,q2,_⟩:=h3.at_ p.1 p.2 ((getD_some h3.mp.keys).2 hp);have:=aj q2;omega) (jE ho3 hAl hAi) (λy hy=>⟨.inr (by have:=kO ho2 hy;omega),by
   rcases ho3.2 with⟨rfl,_⟩|⟨g,c,cur,rfl,hb,hg,_⟩
   ·cases hy
   ·cases hy;exact⟨_,_,hg⟩⟩) (.inr hz3) hm5 hf5
 exact⟨⟨_,h5⟩,hF4.trans hf5 iE iT⟩
end
open M (xGap xAdd idOk)
section
variable{w w':World}{b:Nat}{m x:Int}
theorem xz(hm:Mo m)(h:w.heap[b]?=some (.cells #[iv m,iv x,iv 1] 182)):Cl prog 125 [pv b] w λo w'=>o=iv (m / 2 - 2 - xGap m 1 x)/\Fm F0 w w':=by have:=hm.lo;have:=hm.hi;have hg:=DH hm 1 x;have hd:=Fm.drew F0 w;have c:=λ(w':World) (hw:Fm F0 w w') o=>ab (off:=o) (hw.heap h id);refine cU1 func125 ?_;refine⟨λw'=>Fm F0 w w',hd,?_⟩;refine rdP (u:=iv m) (λw' hw=>c w' hw 0) ?_;have c0:=λo=>ab (off:=o) h;simp only[RU,c0,jb _ (a:=m) (b:=2) (by omega) (by decide) (by omega),show IntKind.i64.wrap (m / 2 - 2)=m / 2 - 2 by rw[af]<;>omega];refine(nt hm 1 x).mono ?_;rintro _ w2 ⟨rfl,hf2⟩;have hf2:=Fmf hd hf2;refine⟨hf2,?_⟩;simp only[RU,show IntKind.i64.wrap (m / 2 - 2 - xGap m 1 x)=m / 2 - 2 - xGap m 1 x by rw[af]<;>omega];exact hf2
theorem yW(hm:Mo m)(h:w.heap[b]?=some (.cells #[iv m,iv x,iv 1] 182))(hl:0<m / 2 - 2 - xGap m 1 x):Cl prog 49 [pv b] w λo w'=>o=.tuple #[iv x,iv 0]/\w'.heap[b]?=some (.cells #[iv m,iv (xAdd m x 1),iv 1] 182)/\Fm (·=b) w w':=by refine cU1 func49 ?_;refine(xz hm h).mono ?_;rintro _ w2 ⟨rfl,hf2⟩;have h2:=hf2.heap h id;have c:=λo=>ab (off:=o) h2;simp only[RU,c,decide_eq_false (show ¬m / 2 - 2 - xGap m 1 x<=0 by omega)];refine(jy hm x 1).mono ?_;rintro _ w3 ⟨rfl,hf3⟩;have h3:=hf3.heap h2 id;refine au h3 (j:=1) (show 1<3 by decide) rfl λw4 hw4 hs4 hf4=>?_;exact⟨hw4,(Fmf hf2 hf3).trans hf4 iE iT⟩
theorem xP(h:w.heap[b]?=some (.cells #[iv m,iv x,iv 1] 182)):Cl prog 33 [pv b] w λo w'=>o=iv x/\w'=w:=by refine cU1 func33 ?_;simp only[RU,ab h,and_self]
theorem zq(hm:Mo m)(hx:idOk m x=true)(hg:xGap m 1 x<=m / 2 - 2):Cl prog 80 [iv m,iv x,iv 1] w λo w'=>∃b,o=.tuple #[pv b,iv 0]/\w.heap.size<=b/\w'.heap[b]?=some (.cells #[iv m,iv x,iv 1] 182)/\Fm F0 w w':=by
 have:=hm.lo;have:=hm.hi;refine cU3 func80 ?_;refine bsl 2 ([x,1].map iv).toArray 3 ?_;have hc:=ig [x,1] (by simp) w 3;have hf:=Fm.alloc F0 w (.cells ([x,1].map iv).toArray 3);generalize w.alloc (.cells ([x,1].map iv).toArray 3)=w1 at hc hf;refine(nz hm hc).mono ?_;rintro _ w2 ⟨rfl,rfl⟩;have e:[x,1].all (idOk m)=true:=by simp only[List.all_cons,List.all_nil,hx,Bool.true_and,Bool.and_true];unfold idOk;simp;omega
 simp only[RU,e];refine(nt hm 1 x).mono ?_;rintro _ w3 ⟨rfl,hf3⟩;simp only[RU,jb _ (a:=m) (b:=2) (by omega) (by decide) (by omega),show IntKind.i64.wrap (m / 2 - 2)=m / 2 - 2 by rw[af]<;>omega,decide_eq_false (show ¬m / 2 - 2<xGap m 1 x by omega)];refine bst #[iv m,iv x,iv 1] (ae ?_);rintro b w4 rfl hs4 hw4 hf4;simp only[RU] at hw4;exact⟨_,rfl,(Fmf hf hf3).size,hw4,Fmf (Fmf hf hf3) hf4⟩
end
def egC(hd:List Value)(ss:List (List Value))(tl:List Value):List Value:=hd++(ss.flatMap id++tl)
structure EgB (w : World) (x : Nat) (hd : List Value) (ss : List (List Value)) (tl : List Value) : Prop where
 blk : w.heap[x]? = some (.cells (egC hd ss tl).toArray 86)
 h : hd.length = 23
 s : ss.length = 8
 l : ∀ s ∈ ss, s.length = 25
 t : tl.length = 8
theorem fi:∀{ss:List (List Value)},(∀s∈ss,s.length=25)->(ss.flatMap id).length=ss.length*25
 | [],_=>rfl
 | s::ss,h=>by rw[List.flatMap_cons,List.length_append,fi (λs hs=>h s (List.mem_cons_of_mem _ hs)),List.length_cons,show(id s).length=25 from h s List.mem_cons_self];omega
theorem xi:∀{ss:List (List Value)} {i j:Nat} {s:List Value},(∀s∈ss,s.length=25)->ss[i]?=some s->j<25->(ss.flatMap id)[i*25+j]?=s[j]?
 | [],i,j,s,_,hi,_=>by simp at hi
 | a::ss,0,j,s,h,hi,hj=>by simp at hi;subst hi;have:(id a:List Value).length=25:=h a List.mem_cons_self;rw[List.flatMap_cons,Nat.zero_mul,Nat.zero_add,List.getElem?_append_left (by omega)];rfl
 | a::ss,i+1,j,s,h,hi,hj=>by have e:(id a:List Value).length=25:=h a List.mem_cons_self;rw[List.flatMap_cons,List.getElem?_append_right (by omega),e,show(i+1)*25+j - 25=i*25+j by omega];exact xi (λs hs=>h s (List.mem_cons_of_mem _ hs)) (by simpa using hi) hj
theorem qI:∀{ss:List (List Value)} {i j:Nat} {s us:List Value},(∀s∈ss,s.length=25)->ss[i]?=some s->j+us.length<=25->(ss.flatMap id).take (i*25+j)++(us++(ss.flatMap id).drop (i*25+j+us.length))=(ss.set i (s.take j++(us++s.drop (j+us.length)))).flatMap id
 | [],i,j,s,us,_,hi,_=>by simp at hi
 | a::ss,0,j,s,us,h,hi,hj=>by simp at hi;subst hi;have e:a.length=25:=h a List.mem_cons_self;rw[List.flatMap_cons,List.set_cons_zero,List.flatMap_cons];show(a++_).take _++(us++(a++_).drop _)=(a.take j++(us++a.drop (j+us.length)))++_;rw[List.take_append_of_le_length (by omega),List.drop_append_of_le_length (by omega)];simp
 | a::ss,i+1,j,s,us,h,hi,hj=>by have e:a.length=25:=h a List.mem_cons_self;have ih:=qI (us:=us) (λs hs=>h s (List.mem_cons_of_mem _ hs)) (show ss[i]?=some s by simpa using hi) hj;rw[List.flatMap_cons,List.set_cons_succ,List.flatMap_cons,<- ih];show(a++_).take _++(us++(a++_).drop _)=a++_;rw[List.take_append,List.drop_append,List.take_of_length_le (by omega),List.drop_of_length_le (by omega),e,show(i+1)*25+j - 25=i*25+j by omega,show(i+1)*25+j+us.length - 25=i*25+j+us.length by omega];simp
section
variable{w w':World}{x:Nat}{hd tl:List Value}{ss:List (List Value)}
theorem EgB.len(h:EgB w x hd ss tl):(egC hd ss tl).length=231:=by unfold egC;rw[List.length_append,List.length_append,fi h.l,h.h,h.s,h.t]
theorem EgB.keep{S:Nat->Prop}(h:EgB w x hd ss tl)(hf:Fm S w w')(hs:¬S x):EgB w' x hd ss tl:=⟨hf.heap h.blk hs,h.h,h.s,h.l,h.t⟩
theorem EgB.lt(h:EgB w x hd ss tl):x<w.heap.size:=aj h.blk
theorem EgB.Cw(h:EgB w x hd ss tl){o:Nat}(ho:o<23):w.cell? ⟨x,o,none⟩=hd[o]? := by rw[ab h.blk,List.getElem?_toArray];unfold egC;rw[List.getElem?_append_left (by rw[h.h];exact ho)]
theorem EgB.cs(h:EgB w x hd ss tl){i j:Nat}{s:List Value}(hi:ss[i]?=some s)(hj:j<25):w.cell? ⟨x,23+i*25+j,none⟩=s[j]? := by
 have h8:i<8:=by have:=(List.getElem?_eq_some_iff.1 hi).1;rw[h.s] at this;exact this
 rw[ab h.blk,List.getElem?_toArray];unfold egC;rw[List.getElem?_append_right (by rw[h.h];omega),h.h,show 23+i*25+j - 23=i*25+j by omega,List.getElem?_append_left (by rw[fi h.l,h.s];omega),xi h.l hi hj]
theorem EgB.A7(h:EgB w x hd ss tl){o:Nat}:w.cell? ⟨x,223+o,none⟩=tl[o]? := by rw[ab h.blk,List.getElem?_toArray];unfold egC;rw[List.getElem?_append_right (by rw[h.h];omega),h.h,List.getElem?_append_right (by rw[fi h.l,h.s];omega),fi h.l,h.s,show 223+o - 23 - 8*25=o by omega]
theorem Bv(cs:List Value)(o:Nat)(us:List Value)(h:o+us.length<=cs.length):ov cs.toArray o us=(cs.take o++(us++cs.drop (o+us.length))).toArray:=by rw[uy _ _ _ (by simpa using h)]
theorem EgB.B8(h:EgB w x hd ss tl){o n:Nat}{us:Array Value}{k:KV}(hn:us.size=n)(ho:o+n<=23)(hu:∀u∈us.toList,u.oneCell'=true)(hk:∀w',EgB w' x (hd.take o++(us.toList++hd.drop (o+n))) ss tl->w'.heap.size=w.heap.size->Fm (·=x) w w'->k undef w'):St n w (.pointer (some ⟨x,o,none⟩)) (.agg us) k:=by
 have hl:=h.len;have hul:us.toList.length=n:=by rw[Array.length_toList];exact hn
 refine ck h.blk hn (by rw[List.size_toArray,hl];omega) hu λw' h1 h2 h3=>hk w' ⟨?_,?_,h.s,h.l,h.t⟩ h2 h3
 ·rw[h1,Bv _ _ _ (by rw[hl,hul];omega),hul];unfold egC;rw[List.take_append_of_le_length (by rw[h.h];omega),List.drop_append_of_le_length (by rw[h.h];omega)];simp
 ·rw[List.length_append,List.length_append,List.length_take,List.length_drop,hul,h.h];omega
theorem EgB.AS(h:EgB w x hd ss tl){o:Nat}{u:Value}{k:KV}(ho:o<23)(hu:u.oneCell'=true)(hk:∀w',EgB w' x (hd.set o u) ss tl->w'.heap.size=w.heap.size->Fm (·=x) w w'->k undef w'):St 1 w (.pointer (some ⟨x,o,none⟩)) u k:=by have hl:=h.len;refine au h.blk (by rw[List.size_toArray,hl];omega) hu λw' h1 h2 h3=>hk w' ⟨?_,by rw[List.length_set];exact h.h,h.s,h.l,h.t⟩ h2 h3;rw[h1,List.setIfInBounds_toArray];unfold egC;rw[List.set_append_left _ _ (by rw[h.h];exact ho)]
theorem EgB.BY(h:EgB w x hd ss tl){i j n:Nat}{s:List Value}{us:Array Value}{k:KV}(hi:ss[i]?=some s)(hn:us.size=n)(hj:j+n<=25)(hu:∀u∈us.toList,u.oneCell'=true)(hk:∀w',EgB w' x hd (ss.set i (s.take j++(us.toList++s.drop (j+n)))) tl->w'.heap.size=w.heap.size->Fm (·=x) w w'->k undef w'):St n w (.pointer (some ⟨x,23+i*25+j,none⟩)) (.agg us) k:=by
 have h8:i<8:=by have:=(List.getElem?_eq_some_iff.1 hi).1;rw[h.s] at this;exact this
 have hl:=h.len;have hul:us.toList.length=n:=by rw[Array.length_toList];exact hn
 have hs25:=h.l s (List.mem_of_getElem? hi);refine ck h.blk hn (by rw[List.size_toArray,hl];omega) hu λw' h1 h2 h3=>hk w' ⟨?_,h.h,by rw[List.length_set];exact h.s,?_,h.t⟩ h2 h3
 ·rw[h1,Bv _ _ _ (by rw[hl,hul];omega),hul];have:=qI (us:=us.toList) h.l hi (j:=j) (by rw[hul];exact hj);rw[hul] at this;unfold egC;rw[<- this,List.take_append,List.drop_append,List.take_of_length_le (by rw[h.h];omega),List.drop_of_length_le (by rw[h.h];omega),h.h,show 23+i*25+j - 23=i*25+j by omega,show 23+i*25+j+n - 23=i*25+j+n by omega,
   List.take_append_of_le_length (by rw[fi h.l,h.s];omega),List.drop_append_of_le_length (by rw[fi h.l,h.s];omega)]
  simp
 ·intro t ht;rcases List.mem_or_eq_of_mem_set ht with ht|rfl
  ·exact h.l t ht
  ·rw[List.length_append,List.length_append,List.length_take,List.length_drop,hul,hs25];omega
theorem EgB.A0(h:EgB w x hd ss tl){i j:Nat}{s:List Value}{u:Value}{k:KV}(hi:ss[i]?=some s)(hj:j<25)(hu:u.oneCell'=true)(hk:∀w',EgB w' x hd (ss.set i (s.set j u)) tl->w'.heap.size=w.heap.size->Fm (·=x) w w'->k undef w'):St 1 w (.pointer (some ⟨x,23+i*25+j,none⟩)) u k:=by
 have h8:i<8:=by have:=(List.getElem?_eq_some_iff.1 hi).1;rw[h.s] at this;exact this
 have hl:=h.len;have hs25:=h.l s (List.mem_of_getElem? hi);refine au h.blk (by rw[List.size_toArray,hl];omega) hu λw' h1 h2 h3=>hk w' ⟨?_,h.h,by rw[List.length_set];exact h.s,?_,h.t⟩ h2 h3
 ·have:=qI (us:=[u]) h.l hi (j:=j) (by simp;omega);rw[h1,List.setIfInBounds_toArray,List.set_eq_take_append_cons_drop,if_pos (by rw[hl];omega)];rw[List.set_eq_take_append_cons_drop (l:=s),if_pos (by omega)];simp only[List.length_cons,List.length_nil,Nat.zero_add,List.cons_append,List.nil_append] at this;unfold egC;rw[<- this,List.take_append,List.drop_append,List.take_of_length_le (by rw[h.h];omega),List.drop_of_length_le (by rw[h.h];omega),h.h,show 23+i*25+j - 23=i*25+j by omega,show 23+i*25+j+1 - 23=i*25+j+1 by omega,
   List.take_append_of_le_length (by rw[fi h.l,h.s];omega),List.drop_append_of_le_length (by rw[fi h.l,h.s];omega)]
  simp
 ·intro t ht;rcases List.mem_or_eq_of_mem_set ht with ht|rfl
  ·exact h.l t ht
  ·rw[List.length_set];exact hs25
theorem EgB.stl(h:EgB w x hd ss tl){o:Nat}{u:Value}{k:KV}(ho:o<8)(hu:u.oneCell'=true)(hk:∀w',EgB w' x hd ss (tl.set o u)->w'.heap.size=w.heap.size->Fm (·=x) w w'->k undef w'):St 1 w (.pointer (some ⟨x,223+o,none⟩)) u k:=by have hl:=h.len;refine au h.blk (by rw[List.size_toArray,hl];omega) hu λw' h1 h2 h3=>hk w' ⟨?_,h.h,h.s,h.l,by rw[List.length_set];exact h.t⟩ h2 h3;rw[h1,List.setIfInBounds_toArray];unfold egC;rw[List.set_append_right _ _ (by rw[h.h];omega),h.h,List.set_append_right _ _ (by rw[fi h.l,h.s];omega),fi h.l,h.s,show 223+o - 23 - 8*25=o by omega]
end
section
variable{w w':World}{base:Nat}{v:Value}{e:TypeId}
theorem sT{α:Type}{f:α->List Value}{sz n:Nat}(hf:∀x,(f x).length=sz){L:List α}(h:w.ownsRow base e sz v n (L.flatMap f))(hL:L.length=n){i:Nat}(hi:i<n):∃ad,ixV sz v (iv i)=some (.pointer (some ad))/\v.ownBlock=some ad.block/\∀{y:α} {k:KV},(∀u∈f y,u.oneCell'=true)->(∀w',w'.ownsRow base e sz v n ((L.set i y).flatMap f)->w'.heap.size=w.heap.size->Fm (λy=>v.ownBlock=some y) w w'->k undef w')->St sz w (.pointer (some ad)) (.agg (f y).toArray) k:=by
 rcases h.2 with⟨rfl,hn⟩|⟨g,cap,cur,rfl,hbg,hgg,hnc,hcm,hcs,htake⟩
 ·omega
 have h1:i*sz+sz<=n*sz:=by have:=Nat.mul_le_mul_right sz (show i+1<=n from hi);rwa [Nat.add_mul,Nat.one_mul] at this
 have h2:n*sz<=cap*sz:=Nat.mul_le_mul_right sz hnc;refine⟨⟨g,i*sz,none⟩,by rw[dU hi,aC];simp,rfl,?_⟩;intro y k hu hk;refine ck hgg (by simp[hf]) (by omega) hu ?_;intro w' h3 h4 h5;refine hk w' ⟨?_,.inr ⟨g,cap,_,rfl,hbg,h3,hnc,hcm,?_,?_⟩⟩ h4 (h5.mono (λy _ e=>by rw[e];rfl))
 ·rw[flat_len hf,List.length_set,hL]
 ·rw[uy _ _ _ (by simp[hf];omega)];simp[hf];omega
 ·have hc:cur.toList.length=cap*sz:=by rw[Array.length_toList];exact hcs
  have e1:(f y).length=sz:=hf y;rw[uy _ _ _ (by simp[hf];omega),iR hf _ _ _ (by omega),<- htake,List.drop_take,List.take_take,Nat.min_eq_left (show i*sz<=n*sz by omega),List.take_append,List.take_take,List.length_take,hc,Nat.min_eq_right (show i*sz<=n*sz by omega),Nat.min_eq_left (show i*sz<=cap*sz by omega),List.take_append,e1,List.take_of_length_le (l:=f y) (by omega)];congr 3;omega
def qp(w:World)(g:Nat):Prop:=∃cs who,w.heap[g]?=some (.cells cs 179)/\cs[6]?=some (iv who)
theorem wK{a b:Nat}(ha:qp w a)(hb:qp w b):Cl prog 197 [pv a,pv b] w λo w'=>∃c:Int,o=iv c/\Fm F0 w w':=by obtain⟨cs,x,h1,h2⟩:=ha;obtain⟨ds,y,h3,h4⟩:=hb;have hd:=Fm.drew F0 w;refine cU2 func197 ?_;simp only[RU,ab h1,ab h3,h2,h4];refine(kB x y).mono ?_;rintro _ w' ⟨rfl,rfl⟩;exact⟨_,rfl,hd⟩
theorem BJ{n i:Nat}{xs:List Value}(h:w.ownsRow base e 1 v n xs)(hi:i<n):∃ad,ixV 1 v (iv i)=some (.pointer (some ad))/\∀(w1:World) (ys:List Value),w1.ownsRow base e 1 v n ys->(∀y,ys[i]?=some y->w1.cell? ad=some y)/\∀{u:Value} {k:KV},u.oneCell'=true->(∀w',w'.ownsRow base e 1 v n (ys.set i u)->w'.heap.size=w1.heap.size->Fm (λy=>v.ownBlock=some y) w1 w'->k undef w')->St 1 w1 (.pointer (some ad)) u k:=by
 obtain⟨ad,h1,_,_⟩:=qZ h hi;refine⟨ad,h1,λw1 ys hy=>⟨λy hyi=>?_,?_⟩⟩
 ·obtain⟨ad',h1',_,h3⟩:=(CellsAt.aT hy).j4 hyi .i64;rw[h1] at h1';cases h1';exact h3
 ·obtain⟨ad',h1',_,h3⟩:=qZ hy hi;rw[h1] at h1';cases h1';exact h3
theorem xW{α:Type}{f:α->List Value}{sz n i:Nat}(hf:∀x,(f x).length=sz)(hs:0<sz){L:List α}(h:w.ownsRow base e sz v n (L.flatMap f))(hL:L.length=n)(hi:i<n):∃ad,ixV sz v (iv i)=some (.pointer (some ad))/\∀(w1:World) (M:List α),w1.ownsRow base e sz v n (M.flatMap f)->M.length=n->(∀y,M[i]?=some y->aM w1 ad sz=some (.agg (f y).toArray))/\∀{y:α} {k:KV},(∀u∈f y,u.oneCell'=true)->(∀w',w'.ownsRow base e sz v n ((M.set i y).flatMap f)->w'.heap.size=w1.heap.size->Fm (λy=>v.ownBlock=some y) w1 w'->k undef w')->St sz w1 (.pointer (some ad)) (.agg (f y).toArray) k:=by
 obtain⟨ad,h1,_,_⟩:=sT hf h hL hi;refine⟨ad,h1,λw1 M hM hl=>⟨λy hy=>?_,?_⟩⟩
 ·obtain⟨ad',h1',_,h3⟩:=(CellsAt.aT hM).at hs hi .i64;rw[h1] at h1';cases h1';refine aN (l:=f y) (hf y) λj hj=>?_;rw[h3 j hj,dE hf hy hj]
 ·obtain⟨ad',h1',_,h3⟩:=sT hf hM hl hi;rw[h1] at h1';cases h1';exact h3
theorem CD{G:List Nat}(ho:w.ownsRow base 170 1 v G.length (G.map pv))(hG:∀g∈G,qp w g)(hn:G.length<=12):Cl prog 386 [v,iv 0,iv (G.length:Nat),.func (.func 197) #[] #[]] w λo w'=>∃G':List Nat,G'.Perm G/\w'.ownsRow base 170 1 v G.length (G'.map pv)/\Fm (λy=>v.ownBlock=some y) w w':=by
 have hne:∀g∈G,v.ownBlock≠some g:=λg hg e=>by
  obtain⟨cs,x,h1,_⟩:=hG g hg;rcases ho.2 with⟨rfl,_⟩|⟨g',cap,cur,rfl,_,h2,_⟩
  ·cases e
  ·cases e;rw[h1] at h2;cases h2
 refine cU4 func386 ?_ (V [(4,[9]),(1,[8])]);simp only[RU,show IntKind.i64.wrap (0+1)=1 from rfl];let K:World->Prop:=λw'=>∃G':List Nat,G'.Perm G/\w'.ownsRow base 170 1 v G.length (G'.map pv)/\Fm (λy=>v.ownBlock=some y) w w';refine⟨λvs w'=>∃i:Nat,vs=[iv i]/\i<=G.length+1/\K w',λvs _=>(G.length+1 - nth vs 0).toNat,⟨1,rfl,by omega,G,.refl _,ho,Fm.refl _ _⟩,?_⟩;rintro w1 v1 ⟨i,hvs,hi,hK⟩;cases hvs;by_cases hlt:i<G.length
 ·simp only[RU,decide_eq_true (show(i:Int)<(G.length:Int) by omega)];refine⟨λvs w'=>∃j:Nat,vs=[iv j]/\j<=i/\K w',λvs _=>(nth vs 0).toNat,⟨i,rfl,Nat.le_refl _,hK⟩,?_⟩;rintro w2 v2 ⟨j,hvs,hj,G',hp,ho2,hf2⟩;cases hvs;cases j with
  | zero=>simp only[RU,show decide (((0:Nat):Int) > 0)=false from rfl,show decide ((0:Int)<((0:Nat):Int))=false from rfl,show IntKind.i64.wrap ((i:Int)+1)=((i+1:Nat):Int) by rw[af]<;>omega];exact⟨⟨i+1,rfl,by omega,G',hp,ah ho2 (Fm.drew F0 w2) (λ_ _ _ _ e=>e),hf2.trans (Fm.drew F0 w2) iT iE⟩,by simp only[ba];omega⟩
  | succ j=>
   have hl:G'.length=G.length:=hp.length_eq;have hj1:j+1<G'.length:=by omega
   have e1:G'[j+1]?=some G'[j+1]:=List.getElem?_eq_getElem hj1;have e0:G'[j]?=some G'[j]:=List.getElem?_eq_getElem (by omega);have m1:=hp.mem_iff.1 (List.mem_of_getElem? e1);have m0:=hp.mem_iff.1 (List.mem_of_getElem? e0);have hsw:=@List.set_set_perm _ G' (j+1) j hj1 (by omega);generalize G'[j+1]=x1 at e1 m1 hsw;generalize G'[j]=x0 at e0 m0 hsw;have f1:(G'.map pv)[j+1]?=some (pv x1):=by rw[List.getElem?_map,e1];rfl
   have f0:(G'.map pv)[j]?=some (pv x0):=by rw[List.getElem?_map,e0];rfl
   obtain⟨a1,i1,r1⟩:=BJ ho2 (show j+1<G.length by omega);obtain⟨a0,i0,r0⟩:=BJ ho2 (show j<G.length by omega);have c1:=(r1 w2 _ ho2).1 _ f1;have c0:=(r0 w2 _ ho2).1 _ f0;have i1':ixV 1 v (iv ((j:Int)+1))=some (.pointer (some a1)):=i1;have wh:∀{w3:World},Fm (λy=>v.ownBlock=some y) w w3->∀g∈G,qp w3 g:=λhf g hg=>by obtain⟨cs,x,h1,h2⟩:=hG g hg;exact⟨cs,x,hf.heap h1 (hne g hg),h2⟩
   have hfd:=hf2.trans (Fm.drew F0 w2) iT iE;simp only[RU,show((j+1:Nat):Int)=(j:Int)+1 from rfl,decide_eq_true (show(0:Int)<(j:Int)+1 by omega),show decide ((j:Int)+1 > 0)=true from decide_eq_true (by omega),i1',c1,show IntKind.i64.wrap ((j:Int)+1 - 1)=(j:Int) by rw[af]<;>omega,i0,c0];refine ay (by kernel_rfl) ?_;refine(wK (wh hfd x1 m1) (wh hfd x0 m0)).mono ?_;rintro _ w3 ⟨c,rfl,hf3⟩;have hf3:=hfd.trans hf3 iT iE;have ho3:w3.ownsRow base 170 1 v G.length (G'.map pv):=ah ho2 (Fmf (Fm.drew F0 w2) ‹_›) (λ_ _ _ _ e=>e);have c1:=(r1 w3 _ ho3).1 _ f1;have c0:=(r0 w3 _ ho3).1 _ f0;have hf3d:=hf3.trans (Fm.drew F0 w3) iT iE;have ho3d:=ah ho3 (Fm.drew F0 w3) (λ_ _ _ _ e=>e);by_cases hc:c<0
   ·simp only[RU,decide_eq_true hc,show IntKind.i64.wrap ((j:Int)+1 - 1)=(j:Int) by rw[af]<;>omega,i0,c0,i1',c1];refine(r1 _ _ ho3d).2 rfl λw4 ho4 hs4 hf4=>?_;refine(r0 _ _ ho4).2 rfl λw5 ho5 hs5 hf5=>?_;rw[<- List.map_set,<- List.map_set] at ho5;exact⟨⟨j,rfl,by omega,_,hsw.trans hp,ho5,(hf3d.trans hf4 iT iT).trans hf5 iT iT⟩,by simp only[ba];omega⟩
   ·simp only[RU,decide_eq_false hc,show IntKind.i64.wrap ((i:Int)+1)=((i+1:Nat):Int) by rw[af]<;>omega];exact⟨⟨i+1,rfl,by omega,G',hp,ho3,hf3⟩,by simp only[ba];omega⟩
 ·simp only[RU,decide_eq_false (show ¬(i:Int)<(G.length:Int) by omega)];exact hK
abbrev bgC(b:Int×Int):List Value:=[iv b.1,iv b.2]
theorem qt(b:Int×Int):(bgC b).length=2:=rfl
theorem vS(b:Int×Int):∀u∈bgC b,u.oneCell'=true:=by intro u hu;simp only[List.mem_cons,List.not_mem_nil,or_false] at hu;rcases hu with rfl|rfl<;>rfl
theorem wJ(a b:Int×Int):Cl prog 182 [.agg (bgC a).toArray,.agg (bgC b).toArray] w λo w'=>∃c:Int,o=iv c/\Fm F0 w w':=by refine cU2 func182 ?_;refine ae ?_;rintro b1 w1 rfl hs1 hw1 hf1;refine ae ?_;rintro b2 w2 rfl hs2 hw2 hf2;simp only[RU,ab (hf2.heap hw1 id),ab hw2];exact⟨_,rfl,Fmf hf1 hf2⟩
theorem EJ{G:List (Int×Int)}(ho:w.ownsRow base 185 2 v G.length (G.flatMap bgC))(hn:G.length<=12):Cl prog 332 [v,iv 0,iv (G.length:Nat),.func (.func 182) #[] #[]] w λo w'=>∃G':List (Int×Int),G'.Perm G/\w'.ownsRow base 185 2 v G.length (G'.flatMap bgC)/\Fm (λy=>v.ownBlock=some y) w w':=by
 refine cU4 func332 ?_ (V [(4,[9]),(1,[8])]);simp only[RU,show IntKind.i64.wrap (0+1)=1 from rfl];let K:World->Prop:=λw'=>∃G':List (Int×Int),G'.Perm G/\w'.ownsRow base 185 2 v G.length (G'.flatMap bgC)/\Fm (λy=>v.ownBlock=some y) w w';refine⟨λvs w'=>∃i:Nat,vs=[iv i]/\i<=G.length+1/\K w',λvs _=>(G.length+1 - nth vs 0).toNat,⟨1,rfl,by omega,G,.refl _,ho,Fm.refl _ _⟩,?_⟩;rintro w1 v1 ⟨i,hvs,hi,hK⟩;cases hvs;by_cases hlt:i<G.length
 ·simp only[RU,decide_eq_true (show(i:Int)<(G.length:Int) by omega)];refine⟨λvs w'=>∃j:Nat,vs=[iv j]/\j<=i/\K w',λvs _=>(nth vs 0).toNat,⟨i,rfl,Nat.le_refl _,hK⟩,?_⟩;rintro w2 v2 ⟨j,hvs,hj,G',hp,ho2,hf2⟩;cases hvs;cases j with
  | zero=>simp only[RU,show decide (((0:Nat):Int) > 0)=false from rfl,show decide ((0:Int)<((0:Nat):Int))=false from rfl,show IntKind.i64.wrap ((i:Int)+1)=((i+1:Nat):Int) by rw[af]<;>omega];exact⟨⟨i+1,rfl,by omega,G',hp,ah ho2 (Fm.drew F0 w2) (λ_ _ _ _ e=>e),hf2.trans (Fm.drew F0 w2) iT iE⟩,by simp only[ba];omega⟩
  | succ j=>
   have hl:G'.length=G.length:=hp.length_eq;have hj1:j+1<G'.length:=by omega
   have e1:G'[j+1]?=some G'[j+1]:=List.getElem?_eq_getElem hj1;have e0:G'[j]?=some G'[j]:=List.getElem?_eq_getElem (by omega);have hsw:=@List.set_set_perm _ G' (j+1) j hj1 (by omega);generalize G'[j+1]=x1 at e1 hsw;generalize G'[j]=x0 at e0 hsw;obtain⟨a1,i1,r1⟩:=xW qt (by decide) ho2 hl (show j+1<G.length by omega);obtain⟨a0,i0,r0⟩:=xW qt (by decide) ho2 hl (show j<G.length by omega);have ho2d:=ah ho2 (Fm.drew F0 w2) (λ_ _ _ _ e=>e);have c1:=(r1 _ _ ho2d hl).1 _ e1;have c0:=(r0 _ _ ho2d hl).1 _ e0;have i1':ixV 2 v (iv ((j:Int)+1))=some (.pointer (some a1)):=i1;have hfd:=hf2.trans (Fm.drew F0 w2) iT iE;simp only[RU,show((j+1:Nat):Int)=(j:Int)+1 from rfl,decide_eq_true (show(0:Int)<(j:Int)+1 by omega),show decide ((j:Int)+1 > 0)=true from decide_eq_true (by omega),i1',c1,show IntKind.i64.wrap ((j:Int)+1 - 1)=(j:Int) by rw[af]<;>omega,i0,c0];refine ay (by kernel_rfl) ?_;refine(wJ x1 x0).mono ?_;rintro _ w3 ⟨c,rfl,hf3⟩;have hf3:=hfd.trans hf3 iT iE;have ho3:w3.ownsRow base 185 2 v G.length (G'.flatMap bgC):=ah ho2 (Fmf (Fm.drew F0 w2) ‹_›) (λ_ _ _ _ e=>e);have hf3d:=hf3.trans (Fm.drew F0 w3) iT iE;have ho3d:=ah ho3 (Fm.drew F0 w3) (λ_ _ _ _ e=>e);have c1:=(r1 _ _ ho3d hl).1 _ e1;have c0:=(r0 _ _ ho3d hl).1 _ e0;by_cases hc:c<0
   ·simp only[RU,decide_eq_true hc,show IntKind.i64.wrap ((j:Int)+1 - 1)=(j:Int) by rw[af]<;>omega,i0,c0,i1',c1];refine(r1 _ _ ho3d hl).2 (y:=x0) (vS _) λw4 ho4 hs4 hf4=>?_;refine(r0 _ _ ho4 (by rw[List.length_set];exact hl)).2 (y:=x1) (vS _) λw5 ho5 hs5 hf5=>?_;exact⟨⟨j,rfl,by omega,_,hsw.trans hp,ho5,(hf3d.trans hf4 iT iT).trans hf5 iT iT⟩,by simp only[ba];omega⟩
   ·simp only[RU,decide_eq_false hc,show IntKind.i64.wrap ((i:Int)+1)=((i+1:Nat):Int) by rw[af]<;>omega];exact⟨⟨i+1,rfl,by omega,G',hp,ho3,hf3⟩,by simp only[ba];omega⟩
 ·simp only[RU,decide_eq_false (show ¬(i:Int)<(G.length:Int) by omega)];exact hK
theorem CS{G:List Nat}(ho:w.ownsRow base 170 1 v G.length (G.map pv))(hG:∀g∈G,qp w g)(hn:G.length<=12)(l:Int):Cl prog 343 [v,iv 0,iv (G.length:Nat),iv l,.func (.func 197) #[] #[]] w λo w'=>∃G':List Nat,G'.Perm G/\w'.ownsRow base 170 1 v G.length (G'.map pv)/\Fm (λy=>v.ownBlock=some y) w w':=by refine cU5 func343 ?_ (V [(2,[1,2,3,10,11])]) (J [(10,[3]),(15,[13,14]),(17,[])]);refine⟨λvs w'=>vs=[iv 0,iv (G.length:Nat),iv l,.bool true,.bool true]/\w'=w,λ_ _=>0,⟨rfl,rfl⟩,?_⟩;rintro w1 v1 v2 v3 v4 v5 ⟨hvs,rfl⟩;cases hvs;simp only[RU,show IntKind.i64.wrap (((G.length:Nat):Int) - 0)=((G.length:Nat):Int) by rw[af]<;>omega,decide_eq_true (show((G.length:Nat):Int)<=12 by omega)];exact(CD ho hG hn).mono λ_ _ h=>h
theorem Fc{G:List (Int×Int)}(ho:w.ownsRow base 185 2 v G.length (G.flatMap bgC))(hn:G.length<=12)(l:Int):Cl prog 275 [v,iv 0,iv (G.length:Nat),iv l,.func (.func 182) #[] #[]] w λo w'=>∃G':List (Int×Int),G'.Perm G/\w'.ownsRow base 185 2 v G.length (G'.flatMap bgC)/\Fm (λy=>v.ownBlock=some y) w w':=by refine cU5 func275 ?_ (V [(2,[1,2,3,10,11])]) (J [(10,[3]),(15,[13,14]),(17,[])]);refine⟨λvs w'=>vs=[iv 0,iv (G.length:Nat),iv l,.bool true,.bool true]/\w'=w,λ_ _=>0,⟨rfl,rfl⟩,?_⟩;rintro w1 v1 v2 v3 v4 v5 ⟨hvs,rfl⟩;cases hvs;simp only[RU,show IntKind.i64.wrap (((G.length:Nat):Int) - 0)=((G.length:Nat):Int) by rw[af]<;>omega,decide_eq_true (show((G.length:Nat):Int)<=12 by omega)];exact(EJ ho hn).mono λ_ _ h=>h
theorem Gs{l:Bs}{n:Nat}{kk:IntKind}{k:Value->Prop}(h:n<l.length)(hk:∀x:Int,k (.int .u8 x)):Pu (ixS (stv l) (.int kk n)) k:=by
 have:∃x:Int,ixS (stv l) (.int kk n)=some (.int .u8 x):=by exact⟨_,iW (List.getElem?_eq_getElem h) kk⟩
 obtain⟨x,e⟩:=this;rw[e,bH];exact hk x
theorem eM{n:Nat}(h:n<18446744073709551616):IntKind.u64.wrap (n:Int)=(n:Int):=by unfold IntKind.wrap;simp[IntKind.signed,IntKind.bits];omega
theorem oq{n:Nat}(hn:n<=12):Cl prog 180 [.int .u64 (n:Int)] w λo w'=>∃l:Int,o=iv l/\w'=w:=by
 refine cU1 func180 ?_;refine cU1 func274 ?_ (V []) (J [(4,[0,2]),(7,[0,2]),(10,[0,2])]);simp only[RU,jn1,bR,decide_eq_false (show ¬(Int.ofNat 4294967296<=(n:Int)) by have:Int.ofNat 4294967296=4294967296:=rfl;omega),decide_eq_false (show ¬(Int.ofNat 65536<=(n:Int)) by have:Int.ofNat 65536=65536:=rfl;omega),decide_eq_false (show ¬(Int.ofNat 256<=(n:Int)) by have:Int.ofNat 256=256:=rfl;omega),show IntKind.u8.wrap (n:Int)=(n:Int) by rw[lF,Nat.mod_eq_of_lt (by omega)]];refine Gs ?_ λx=>?_
 ·show n<256;omega
 simp only[RU,bR];exact⟨_,rfl,trivial⟩
theorem uR{G:List Nat}(ho:w.ownsRow base 170 1 v G.length (G.map pv))(hG:∀g∈G,qp w g)(hn:G.length<=12):Cl prog 278 [v,.func (.func 197) #[] #[]] w λo w'=>∃G':List Nat,G'.Perm G/\w'.ownsRow base 170 1 v G.length (G'.map pv)/\Fm (λy=>v.ownBlock=some y) w w':=by refine cU2 func278 ?_;simp only[RU,qY ho,bR,show IntKind.u64.wrap ((G.length:Nat):Int)=((G.length:Nat):Int) from eM (by omega)];refine(oq hn).mono ?_;rintro _ w1 ⟨l,rfl,rfl⟩;exact(CS ho hG hn l).mono λ_ _ h=>h
theorem uQ{G:List (Int×Int)}(ho:w.ownsRow base 185 2 v G.length (G.flatMap bgC))(hn:G.length<=12):Cl prog 181 [v,.func (.func 182) #[] #[]] w λo w'=>∃G':List (Int×Int),G'.Perm G/\w'.ownsRow base 185 2 v G.length (G'.flatMap bgC)/\Fm (λy=>v.ownBlock=some y) w w':=by refine cU2 func181 ?_;simp only[RU,(CellsAt.aT ho).lenV,bR,show IntKind.u64.wrap ((G.length:Nat):Int)=((G.length:Nat):Int) from eM (by omega)];refine(oq hn).mono ?_;rintro _ w1 ⟨l,rfl,rfl⟩;exact(Fc ho hn l).mono λ_ _ h=>h
end
open Go.RowKit
theorem GJ{w w':World}(h:Fm F0 w w'):w.grownBy w' none:=⟨h.os,h.tape,h.output,h.size,λb hb _=>h.block b hb id⟩
theorem GK{r:Nat}{w w':World}(h:Fm (·=r) w w'):w.grownBy w' (some r):=⟨h.os,h.tape,h.output,h.size,λb hb hk=>h.block b hb (λe=>hk (by rw[e]))⟩
theorem sQ{F:Fence}{n:Nat}{P:Program}{ops:Array Oper}{Q:Exit->Act->World->Prop}{lH:List Oper}{o:Oper}{a:Act}{w w':World}{v:Value}(hg:o.guard=none)(hab:o.about P w a.eval=none)(hnc:∀c,o.op=Op.defer c->False)(hrun:(execOp a.eval o).run P w=.ok (.value v) w')(hk:wpListIn F n P ops Q lH (a.put o.dst v) w'):wpListIn F n P ops Q (o::lH) a w:=by refine wpListIn_plain hg λK' hK'=>?_;unfold Oper.wpIn;refine⟨λf hf=>(by rw[hab] at hf;cases hf),?_⟩;rw[Oper.semAt_plain F _ _ hnc,hrun];exact hK' _ _ hk
theorem rz{w w':World}{r b:Nat}{T L:List (Int×Nat)}(h:RangeAt w r b iv pv T L)(hk:KeepsWalks w w'):RangeAt w' r b iv pv T L:=by obtain⟨es,c,s,sn,h1,h2,h3⟩:=h.ex;exact⟨es,c,s,sn,hk.same _ _ h1 rfl,hk.same _ _ h2 rfl,h3⟩
theorem dD{α:Type}:∀{l:List α} {i:Nat} {p:α},l[i]?=some p->(p::l.eraseIdx i).Perm l
 | [],i,p,h=>by simp at h
 | a::l,0,p,h=>by simp at h;subst h;exact .refl _
 | a::l,i+1,p,h=>by rw[List.eraseIdx_cons_succ];exact(List.Perm.swap _ _ _).trans ((dD (by simpa using h)).cons a)
theorem vg{w0:World}{bm c:Nat}{T:List (Int×Nat)}(hm:MapAt w0 bm iv pv T)(hc:w0.heap[c]?=some (.cells #[.map (some bm)] 174))(n:Nat):
  SeqStopsK Fence.wide n prog 279 #[pv c] (λg:Nat=>#[pv g]) KeepsWalks (λG=>G.Perm (T.map (·.2))) (λ_=>True) T.length w0:=by
 intro l J Jx W hW hJ hJx hY h0;have hF:Fm F0 w0 W:=Fm.iN hW F0;have hcW:W.cell? ⟨c,0,none⟩=some (.map (some bm)):=by rw[ab (hF.heap hc id)];rfl
 obtain⟨w1,hr1,hR,hf1,hs1⟩:=fw K174.map (hm.keep hF id);refine callsIn_of_wp func279 rfl trivial ?_;simp only[ntmps279,List.size_toArray,List.length_cons,List.length_nil,Nat.reduceAdd,Nat.reduceSub,Array.replicate_succ,Array.replicate_zero,List.push_toArray,List.append_toArray,List.nil_append,List.cons_append]
 gi_wp2_with (first
  | (gi_at_range;refine sQ rfl (by simp[Oper.about]) (λc h=>by cases h) (v:=.pointer (some ⟨W.heap.size,0,none⟩)) (w':=w1) ?_ ?_)
  | gi_in)
 (try go_frame)
 gi_loopw [4] (λ_ wr=>∃(left:List (Int×Nat)) (G:List Nat),RangeAt wr W.heap.size bm iv pv T left/\(G++left.map (·.2)).Perm (T.map (·.2))/\J G wr) (λ_ wr=>Go.Al.rl wr W.heap.size bm)
 case atStart=>exact⟨T,[],hR,.refl _,hJ [] W w1 none h0 (GJ hf1) (λr e=>by cases e)⟩
 case round=>
  obtain⟨left,G,hRl,hp,hJG⟩:=hrel;rcases ij (P:=prog) hRl 0 with⟨rfl,hrun⟩|⟨i,p,w2,hpi,hrun,hR2,hf2,hs2,hent⟩
  ·gi_wp2_with (first
    | (gi_at_next;refine sQ rfl (by simp[Oper.about]) (λc h=>by cases h) (v:=.tuple #[.bool false]) ?_ ?_)
    | gi_in)
   go_end0
   exact⟨⟨_,rfl⟩,.inl ⟨G,by simpa using hp,hJG⟩⟩
  ·have hJ2:J G w2:=hJ G wr w2 (some W.heap.size) hJG (GK hf2) (λr e=>by cases e;obtain⟨es,cl,s,sn,h1,h2,_⟩:=hRl.ex;exact⟨Nat.le_refl _,_,h2,rfl⟩);have hlen:G.length<T.length:=by have h1:=hp.length_eq;have h2:0<left.length:=List.length_pos_of_mem (List.mem_of_getElem? hpi);simp at h1;omega
   obtain⟨fn,tmps,assign,body,hy,hRd⟩:=hY G p.2 w2 hJ2 hlen;have hms:Go.Al.rl w2 W.heap.size bm<Go.Al.rl wr W.heap.size bm:=by rw[hR2.len,hRl.len];have:=(List.getElem?_eq_some_iff.1 hpi).1;rw[List.length_eraseIdx_of_lt this];omega
   gi_wp2_with (first
    | (gi_at_next;refine sQ rfl (by simp[Oper.about]) (λc h=>by cases h) (v:=.tuple #[.bool true,iv p.1,pv p.2]) (w':=w2) ?_ ?_)
    | gi_in)
   refine⟨λh=>(by cases h),hRd.mono ?_⟩;rintro e W3 (⟨rfl,hJ3,hk3⟩|⟨rfl,hx⟩)
   ·have hR3:=rz hR2 hk3;have hms3:Go.Al.rl W3 W.heap.size bm<Go.Al.rl wr W.heap.size bm:=by rw[hR3.len,<- hR2.len];exact hms
    gi_wp2
    go_roundw
    case rel=>refine⟨_,G++[p.2],hR3,?_,hJ3⟩;refine List.Perm.trans ?_ hp;rw[List.append_assoc];refine List.Perm.append_left G ?_;rw[List.singleton_append,<- List.map_cons];exact(dD hpi).map _
    case measure=>exact hms3
   ·gi_wp2
    (try simp only[Exit.inBlock,Exit.then])
    refine bodyPost_ret (results_none rfl _ _ _) rfl ?_;exact⟨⟨_,rfl⟩,.inr ⟨_,trivial,hx⟩⟩
theorem HF:ElemT prog 194 170 1 8:=bJ underlying194 (by kernel_rfl)
theorem qq{w:World}{bm c:Nat}{T:List (Int×Nat)}(hm:MapAt w bm iv pv T)(hc:w.heap[c]?=some (.cells #[.map (some bm)] 174))(hT:T.length<=1000):Cl prog 342 [nl,.func (.func 279) #[] #[pv c]] w λo w'=>∃G:List Nat,G.Perm (T.map (·.2))/\w'.ownsRow w.heap.size 170 1 o G.length (G.map pv)/\Fm F0 w w':=by
 refine⟨(callsIn_wide (n:=9)).1 ?_⟩;refine callsIn_of_wp_marks func342 rfl trivial ?_;simp only[ntmps342,List.size_toArray,List.length_cons,List.length_nil,Nat.reduceAdd,Nat.reduceSub,Array.replicate_succ,Array.replicate_zero,List.push_toArray,List.append_toArray,List.nil_append,List.cons_append]
 gi_wp2
 have eg:∀args w,(callFunc 279 args).run prog w=.ok (.enter 279 args) w:=enters_of func279 (by kernel_rfl) rfl;obtain⟨W0,hW0⟩:∃W0,w.alloc (.cells #[.slice none 0 0] 194)=W0:=⟨_,rfl⟩;have hs0:W0.heap.size=w.heap.size+1:=by rw[<- hW0];simp
 have hv0:W0.heap[w.heap.size]?=some (.cells #[.slice none 0 0] 194 (0,0)):=by rw[<- hW0];exact World.alloc_heap_new w _
 have hb0:Below w.heap.size w W0:=by rw[<- hW0];exact(Below.refl _ w).alloc (Nat.le_refl _) _
 rw[hW0];have hfz:∀{W W':World} {row:Option Nat},W.grownBy W' row->Fm (λy=>row=some y) W W':=λh=>⟨h.os,h.tape,h.output,h.size,λb hb hs=>h.block b hb (λe=>hs e.symm)⟩;refine wpIn_rangeFunc_ownF rfl (by decide) (gf:=279) (lb:=#[pv c]) rfl trivial eg (vg hm hc 8) walksK_t (λW l o o' hl h hc hw=>KeepsWalks.putObj _ h hw) hb0 (λ_=>rfl)
  (λpre W=>∃v,W.heap[w.heap.size]?=some (.cells #[v] 194)/\W.ownsRow w.heap.size 170 1 v pre.length (pre.map pv)/\Fm F0 w W) (λ_ _ _=>False) ?_ (λ_ _ _ _ _ h=>h.elim) ⟨_,hv0,World.ownsRow_nil _ _ _ _,Fm.iN hb0 F0⟩
  (λx=>{ tmps:=#[nl,.func (.func 279) #[] #[pv c],.pointer (some ⟨w.heap.size,0,none⟩),undef,nl,pv x,.func (.func 279) #[] #[pv c],pv x,undef,undef,undef,undef,undef],defers:=[] }) ?_ ?_ ?_ ?_
 ·rintro pre W W' row ⟨v,h1,h2,h3⟩ hg hr;have hf:=hfz hg;refine⟨v,hf.heap h1 ?_,ah h2 hf ?_,h3.trans hf iT ?_⟩
  ·intro e;obtain⟨hB,_⟩:=hr _ e;omega
  ·intro k _ _ hk e;obtain⟨_,o,ho,hno⟩:=hr _ e;rcases h2.2 with⟨rfl,_⟩|⟨g,cap,cur,rfl,_,hgb,_⟩
   ·cases hk
   ·cases hk;rw[hgb] at ho;cases ho;cases hno
  ·intro y hy e;obtain⟨hB,_⟩:=hr _ e;omega
 ·intro l x W K hK;have ez:(#[7]:Array Tmp).zip #[pv x]=#[(7,pv x)]:=by simp
  rw[ez];show Code.wpIn _ _ _ _ _ { tmps:=#[nl,.func (.func 279) #[] #[pv c],.pointer (some ⟨w.heap.size,0,none⟩),undef,nl,undef,.func (.func 279) #[] #[pv c],pv x,undef,undef,undef,undef,undef],defers:=[] } W
  gi_wp2_with (rw[Oper.semAt_eq _ _ _ (λc h=>by cases h)];go_simp;try go_bits)
  exact hK
 ·rintro l pre x W ⟨v,h1,h2,h3⟩ hlen;have hc1:W.cell? ⟨w.heap.size,0,none⟩=some v:=by rw[ab h1];rfl
  have hfA:=Fm.alloc F0 W (.cells #[pv x] 170);have hzw:=h3.size;obtain⟨v',w3,hr3,ho3,hcase⟩:=cC (P:=prog) HF (by decide) (ah h2 hfA (λ_ _ _ _ e=>e)) 194 ⟨W.heap.size,0,none⟩ 1 1 (by decide) [pv x] rfl (λj u hj=>by rw[aC,ab (aA W _),Nat.zero_add,List.getElem?_toArray];exact hj) (by intro u hu;simp at hu;subst hu;rfl) (by unfold maxLen;omega) (by omega) (by rw[aF];omega);obtain⟨g,cap,rfl,hg3⟩:∃g cap,v'=.slice (some ⟨g,0,none⟩) (pre.length+1) cap/\w3.heap.size > g:=by
   rcases ho3.2 with⟨_,h0⟩|⟨g,cap,cur,rfl,_,hg,_⟩
   ·omega
   ·exact⟨g,cap,rfl,aj hg⟩
  have hv3:w3.heap[w.heap.size]?=some (.cells #[v] 194):=by
   rcases hcase with⟨g',e1,_,hf⟩|⟨g',_,_,hf⟩
   ·refine hf.heap (hfA.heap h1 id) λe=>?_;rcases h2.2 with⟨rfl,_⟩|⟨g2,cap,cur,rfl,_,hg,_⟩
    ·cases e1
    ·have e2:g2=g':=Option.some.inj e1;rw[e2,<- e,h1] at hg;cases hg
   ·exact hf.heap (hfA.heap h1 id) id
  have hc3:w3.cell? ⟨w.heap.size,0,none⟩=some v:=by rw[ab hv3];rfl
  have hfr3:=dv hv3 0
  gi_wp2_with (first
   | (gi_at_builtin;refine sQ rfl (by simp[Oper.about,resolve,go_sem,Target.leads]) (λc h=>by cases h) (v:=.slice (some ⟨g,0,none⟩) (pre.length+1) cap) (w':=w3) ?_ ?_)
   | (rw[Oper.semAt_eq _ _ _ (λc h=>by cases h)];go_simp;try go_bits))
  ·simp only[execOp,resolve,Sem.run_bind,Sem.run_pure,Result.andThen_ok,invoke,builtin];simp only[List.map_toArray,List.map_cons,List.map_nil];show(Sem.run prog (Builtin.append_ #[194,194] 194 #[v,.slice (some ⟨W.heap.size,0,none⟩) 1 1]) _).andThen _=_;rw[hr3];rfl
  ·have hf4:=Fm.setCell (S:=(·=w.heap.size)) w3 ⟨w.heap.size,0,none⟩ (.slice (some ⟨g,0,none⟩) (pre.length+1) cap) rfl;have hv4:=eh hv3 0 (.slice (some ⟨g,0,none⟩) (pre.length+1) cap);generalize w3.setCell ⟨w.heap.size,0,none⟩ (.slice (some ⟨g,0,none⟩) (pre.length+1) cap)=w4 at hf4 hv4 ⊢;have cel:∀{S:Nat->Prop} {W W':World},Fm S W W'->(∀y,S y->∃cs t fz,W.heap[y]?=some (.cells cs t fz))->KeepsOthers W W':=λhf hS=>⟨hf.size,λk o hk ho=>hf.heap hk (λe=>by obtain⟨cs,t,fz,e⟩:=hS k e;rw[e] at hk;cases hk;cases ho)⟩;have k1:KeepsOthers W (W.alloc (.cells #[pv x] 170)):=cel hfA (λy e=>e.elim);have k2:KeepsOthers (W.alloc (.cells #[pv x] 170)) w3:=by
    rcases hcase with⟨g',e1,_,hf⟩|⟨g',_,_,hf⟩
    ·refine cel hf λy e=>?_;rcases h2.2 with⟨rfl,_⟩|⟨g2,cap,cur,rfl,_,hg,_⟩
     ·cases e1
     ·have e2:g2=g':=Option.some.inj e1;exact⟨_,_,_,hfA.heap (by rw[e,<- e2];exact hg) id⟩
    ·exact cel hf (λy e=>e.elim)
   have k3:KeepsOthers w3 w4:=cel hf4 (λy e=>⟨#[v],194,(0,0),by rw[e];exact hv3⟩);have k:=(k1.trans k2).trans k3;refine⟨k,⟨k.size,λj o hj ho=>k.same j o hj (by cases o<;>first|rfl|cases ho)⟩,_,hv4,?_,?_⟩
   ·rw[List.length_append,List.map_append];refine ah ho3 hf4 ?_;intro j _ _ hj e;rcases ho3.2 with⟨hh,_⟩|⟨g2,cap2,cur,hh,_,hg,_⟩
    ·cases hh
    ·cases hh;have e2:g=j:=Option.some.inj hj;rw[e2,e,hv3] at hg;cases hg
   ·have hFA:=Fmf h3 hfA;have hF3:Fm F0 w w3:=by
     rcases hcase with⟨g',e1,_,hf⟩|⟨g',_,_,hf⟩
     ·exact Fm.own hFA hf (λy e=>by rw[e];exact(aO h2 _ e1).1)
     ·exact Fmf hFA hf
    exact Fm.own hF3 hf4 (λy e=>by rw[e];exact Nat.le_refl _)
 ·rintro D xs W hD hS ⟨v,h1,h2,h3⟩ hK;have hc1:W.cell? ⟨w.heap.size,0,none⟩=some v:=by rw[ab h1];rfl
  dsimp only
  gi_wp2
  refine⟨by simp,.inl ⟨_,_,rfl,run_takeDeferred hK,?_⟩⟩;have hfD:=hfz (grownBy_putObj' W D (.deferred none));refine⟨_,results_tmp rfl _ _ _,xs,hS,ah h2 hfD ?_,h3.trans hfD iT ?_⟩
  ·intro j _ _ hj e;rcases h2.2 with⟨rfl,_⟩|⟨g2,cap2,cur,rfl,_,hg,_⟩
   ·cases hj
   ·have e2:g2=j:=Option.some.inj hj;have e3:D=j:=Option.some.inj e;rw[e2,<- e3,hK] at hg;cases hg
  ·intro y hy e;have e3:D=y:=Option.some.inj e;omega
 ·rintro D c' pre W hD hS ⟨⟩
open M (Tx running)
section
variable{w w':World}{D:Nat->Prop}{b bm:Nat}{T:List (Int×Nat)}{L:List (Int×Tx)}{v:Value}{l:List Int}{t:Tx}
theorem TxAt.who(h:TxAt w D b bm T L){g:Nat}(hg:g∈T.map (·.2)):qp w g:=by obtain⟨p,hp,rfl⟩:=List.mem_map.1 hg;obtain⟨t,a,_,q2,_⟩:=h.at_ p.1 p.2 ((getD_some h.mp.keys).2 hp);exact⟨_,p.1,q2,rfl⟩
theorem zB(h:TxAt w D b bm T L)(hT:T.length<=12):Cl prog 106 [pv b] w λo w'=>∃G:List Nat,G.Perm (T.map (·.2))/\w'.ownsRow w.heap.size 170 1 o G.length (G.map pv)/\Fm F0 w w':=by
 refine cU1 func106 ?_;simp only[RU,ab h.st];refine cU1 func196 ?_;refine ae ?_;rintro c w1 rfl hs1 hw1 hf1;have h1:=h.keep hf1 iT;refine cU2 func195 ?_;refine cU1 func277 ?_;refine(qq h1.mp hw1 (by omega)).mono ?_;rintro o w2 ⟨G,hp,ho,hf2⟩;have hl:G.length<=12:=by rw[hp.length_eq,List.length_map];exact hT
 refine(uR ho (λg hg=>(h1.keep hf2 iT).who (hp.mem_iff.1 hg)) hl).mono ?_;rintro _ w3 ⟨G',hp',ho',hf3⟩;rw[<- hp'.length_eq] at ho';exact⟨G',hp'.trans hp,aU ho' hf1.size,Fm.own (Fmf hf1 hf2) hf3 (λy hy=>by have:=aO ho y hy;have:=hf1.size;omega)⟩
theorem TxAt.fn(h:TxAt w D b bm T L):∃f:Nat->Tx,(∀g∈T.map (·.2),∃who a,w.heap[g]?=some (.cells (txC who a (f g)) 179))/\(T.map (·.2)).map f=L.map (·.2):=by
 have hnL:(L.map (·.1)).Nodup:=h.keys▸h.mp.keys;let f:Nat->Tx:=λg=>(((T.find? λp=>decide (p.2=g)).bind λp=>getD L p.1).getD ⟨0,[],0,0,0,0⟩);have key:∀p∈T,∀t,getD L p.1=some t->f p.2=t:=λp hp t ht=>by
  have hf:T.find? (λq=>decide (q.2=p.2))=some p:=by
   cases hq:T.find? (λq=>decide (q.2=p.2)) with
   | none=>rw[List.find?_eq_none] at hq;exact absurd (decide_eq_true rfl) (hq p hp)
   | some q=>
    have h1:q.2=p.2:=by have:=List.find?_some hq;simpa using this
    rw[CL (f:=(·.2)) h.nd (List.mem_of_find?_eq_some hq) hp h1]
  show((T.find? λq=>decide (q.2=p.2)).bind _).getD _=t;rw[hf,Option.bind_some,ht];rfl
 refine⟨f,λg hg=>?_,?_⟩
 ·obtain⟨p,hp,rfl⟩:=List.mem_map.1 hg;obtain⟨t,a,q1,q2,_⟩:=h.at_ p.1 p.2 ((getD_some h.mp.keys).2 hp);exact⟨p.1,a,by rw[key p hp t q1];exact q2⟩
 ·rw[List.map_map];apply List.ext_getElem?;intro i;rw[List.getElem?_map,List.getElem?_map];have hk:=congrArg (·[i]?) h.keys;simp only[List.getElem?_map] at hk;cases hT:T[i]? with
  | none=>rw[hT] at hk;cases hL:L[i]? with
   | none=>rfl
   | some q=>rw[hL] at hk;cases hk
  | some p=>
   rw[hT] at hk;cases hL:L[i]? with
   | none=>rw[hL] at hk;cases hk
   | some q=>
    rw[hL] at hk;have e:p.1=q.1:=by simpa using hk
    have:getD L p.1=some q.2:=(getD_some hnL).2 (by rw[e];exact List.mem_of_getElem? hL);show some (f p.2)=some q.2;rw[key p (List.mem_of_getElem? hT) _ this]
def bgF(t:Tx):Option (Int×Int):=bif decide (t.xid=0) then none else some (t.xid,t.last)
theorem E83:ElemT prog 83 185 2 16:=bJ underlying83 (by kernel_rfl)
theorem HY(x y:Int)(w:World):(Instr.buildSlice 83 1 #[(0,.agg #[iv x,iv y])]).run prog w=.ok (.slice (some ⟨w.heap.size,0,none⟩) 1 1) (w.alloc (.cells #[iv x,iv y] 185)):=by kernel_rfl
theorem Gx(x y:Int)(w:World):(Instr.build 185 #[(0,iv x),(1,iv y)]).run prog w=.ok (.agg #[iv x,iv y]) w:=by kernel_rfl
theorem tJ(h:TxAt w D b bm T L)(hT:T.length<=12):Cl prog 92 [pv b] w λo w'=>∃B:List (Int×Int),B.Perm ((L.map (·.2)).filterMap bgF)/\w'.ownsRow w.heap.size 185 2 o B.length (B.flatMap bgC)/\Fm F0 w w':=by
 refine cU1 func92 ?_ (V [(3,[3,9])]) (J [(7,[3])]);refine(zB h hT).mono ?_;rintro v w1 ⟨G,hp,ho,hf1⟩;have h1:=h.keep hf1 iT;obtain⟨f,hf,hm⟩:=h1.fn;have hl:G.length<=12:=by rw[hp.length_eq,List.length_map];exact hT
 have hGm:((G.map f).filterMap bgF).Perm ((L.map (·.2)).filterMap bgF):=by rw[<- hm];exact(hp.map f).filterMap _
 simp only[RU,qY ho];refine⟨λvs w2=>∃(o:Value) (i:Nat),vs=[o,iv i]/\i<=G.length/\w2.ownsRow w1.heap.size 185 2 o ((((G.take i).map f).filterMap bgF).length) ((((G.take i).map f).filterMap bgF).flatMap bgC)/\Fm F0 w1 w2,λvs _=>(G.length - nth vs 1).toNat,⟨nl,0,rfl,by omega,World.ownsRow_nil _ _ _ _,Fm.refl _ _⟩,?_⟩;rintro w2 v1 v2 ⟨o,i,hvs,hi,ho2,hf2⟩;cases hvs;by_cases hlt:i<G.length
 ·have e1:G[i]?=some G[i]:=List.getElem?_eq_getElem hlt;have hg:=hf _ (hp.mem_iff.1 (List.mem_of_getElem? e1));have et:=List.take_add_one (l:=G) (i:=i);rw[e1] at et;generalize G[i]=g at e1 hg et;obtain⟨who,a,hgw⟩:=hg;have hgw2:=hf2.heap hgw id;have c:=λo=>ab (off:=o) hgw2;obtain⟨ad,k1,_,k2⟩:=((CellsAt.aT ho).keep hf2 iT).j4 (i:=i) (x:=pv g) (by rw[List.getElem?_map,e1];rfl) .i64;have ex:((G.take (i+1)).map f).filterMap bgF=((G.take i).map f).filterMap bgF++(bgF (f g)).toList:=by rw[et,List.map_append,List.filterMap_append];cases hb:bgF (f g)<;>simp[List.filterMap_cons,hb]
  have hw64:IntKind.i64.wrap ((i:Int)+1)=((i+1:Nat):Int):=by rw[af]<;>omega
  by_cases h0:(f g).xid=0
  ·have ez:bgF (f g)=none:=by unfold bgF;rw[h0];rfl
   simp only[RU,decide_eq_true (show(i:Int)<(G.length:Int) by omega),k1,k2,c,jn1,h0,show((0:Int) != 0)=false from rfl,hw64];refine⟨⟨v1,i+1,rfl,by omega,?_,hf2⟩,by simp only[cN];omega⟩;rw[ex,ez];simpa using ho2
  ·have ez:bgF (f g)=some ((f g).xid,(f g).last):=by unfold bgF;rw[decide_eq_false h0];rfl
   simp only[RU,decide_eq_true (show(i:Int)<(G.length:Int) by omega),k1,k2,c,jn1,show((f g).xid != 0)=true by simp[h0]];have hfd:=Fm.drew F0 w2;have hfA:=Fmf hfd (Fm.alloc F0 w2.drew (.cells #[iv (f g).xid,iv (f g).last] 185));have hn:=aA w2.drew (.cells #[iv (f g).xid,iv (f g).last] 185);refine ag (Gx _ _ _) ⟨rfl,ag (HY _ _ _) ?_⟩;have hlen:(((G.take i).map f).filterMap bgF).length<=12:=by have h1:=List.length_filterMap_le bgF ((G.take i).map f);rw[List.length_map,List.length_take] at h1;omega
   obtain⟨v',w3,hr3,ho3,hcase⟩:=cC (P:=prog) E83 (by decide) (ah ho2 hfA (λ_ _ _ _ e=>e)) 83 ⟨w2.drew.heap.size,0,none⟩ 1 1 (by decide) [iv (f g).xid,iv (f g).last] rfl (λj u hj=>by rw[aC,ab hn,Nat.zero_add,List.getElem?_toArray];exact hj) (by intro u hu;simp at hu;rcases hu with rfl|rfl<;>rfl) (by unfold maxLen;omega) (by omega) (by have:=hf2.size;have:=hfA.size;omega);refine ag hr3 ⟨⟨v',i+1,by rw[hw64],by omega,?_,?_⟩,by rw[hw64];simp only[cN];omega⟩
   ·rw[ex,ez];simpa using ho3
   ·have hFA:=Fmf hf2 hfA;rcases hcase with⟨g',e1,_,hf⟩|⟨g',_,_,hf⟩
    ·exact Fm.own hFA hf (λy e=>by rw[e];exact(aO ho2 _ e1).1)
    ·exact Fmf hFA hf
 ·rw[List.take_of_length_le (by omega)] at ho2;simp only[RU,decide_eq_false (show ¬(i:Int)<(G.length:Int) by omega)];refine(uQ ho2 (by rw[hGm.length_eq];exact Nat.le_trans (List.length_filterMap_le _ _) (by rw[<- hm,List.length_map,<- hp.length_eq];exact hl))).mono ?_;rintro _ w3 ⟨B,hB,ho3,hf3⟩;rw[<- hB.length_eq] at ho3;exact⟨B,hB.trans hGm,aU ho3 hf1.size,Fm.own (Fmf hf1 hf2) hf3 (λy hy=>by have:=aO ho2 y hy;have:=hf1.size;omega)⟩
def BV(L:List (Int×Tx)):List Int:=L.filterMap λp=>bif decide (p.2.xid=0) then none else some p.2.xid
theorem zp:∀L:List (Int×Tx),((L.map (·.2)).filterMap bgF).map (·.1)=BV L
 | []=>rfl
 | p::L=>by
  unfold BV;rw[List.map_cons,List.filterMap_cons,List.filterMap_cons];unfold bgF;cases decide (p.2.xid=0) with
  | true=>exact zp L
  | false=>exact congrArg (p.2.xid::·) (zp L)
theorem nC(x y:Int):∀l:List Int,y∈M.insI x l↔y=x\/y∈l
 | []=>by simp[M.insI]
 | z::l=>by
  unfold M.insI;cases decide (x<=z) with
  | true=>simp
  | false=>simp only[cond_false,List.mem_cons];rw[nC x y l];exact⟨λh=>by rcases h with h|h|h<;>simp[h],λh=>by rcases h with h|h|h<;>simp[h]⟩
theorem qW(L:List (Int×Tx))(x:Int):x∈M.running L↔x∈BV L:=by
 unfold M.running;show x∈(BV L).foldr M.insI []↔_;induction BV L with
 | nil=>simp
 | cons a l ih=>rw[List.foldr_cons,nC,ih,List.mem_cons]
theorem Hr(x:Int)(w:World):(Instr.buildSlice 25 1 #[(0,iv x)]).run prog w=.ok (.slice (some ⟨w.heap.size,0,none⟩) 1 1) (w.alloc (.cells #[iv x] 3)):=by kernel_rfl
theorem fB(h:TxAt w D b bm T L)(hT:T.length<=12):Cl prog 34 [pv b] w λo w'=>∃A:List Int,A.Perm (BV L)/\A.length<=12/\w'.ownsRow w.heap.size 3 1 o A.length (A.map iv)/\Fm F0 w w':=by
 refine cU1 func34 ?_ (V [(3,[3,9])]);refine(tJ h hT).mono ?_;rintro v w1 ⟨B,hB,ho,hf1⟩;have hl:B.length<=12:=by rw[hB.length_eq];have h1:=List.length_filterMap_le bgF (L.map (·.2));have h2:=congrArg List.length h.keys;simp only[List.length_map] at h1 h2;omega
 simp only[RU,(CellsAt.aT ho).lenV];refine⟨λvs w2=>∃(o:Value) (i:Nat),vs=[o,iv i]/\i<=B.length/\w2.ownsRow w1.heap.size 3 1 o i (((B.take i).map (·.1)).map iv)/\Fm F0 w1 w2,λvs _=>(B.length - nth vs 1).toNat,⟨nl,0,rfl,by omega,World.ownsRow_nil _ _ _ _,Fm.refl _ _⟩,?_⟩;rintro w2 v1 v2 ⟨o,i,hvs,hi,ho2,hf2⟩;cases hvs;by_cases hlt:i<B.length
 ·have e1:B[i]?=some B[i]:=List.getElem?_eq_getElem hlt;have et:=List.take_add_one (l:=B) (i:=i);rw[e1] at et;generalize B[i]=x at e1 et;obtain⟨ad,k1,_,k2⟩:=((CellsAt.aT ho).keep hf2 iT).at (by decide) hlt .i64;have k3:aM w2 ad 2=some (.agg (bgC x).toArray):=aN (l:=bgC x) rfl λj hj=>by rw[k2 j hj,dE qt e1 hj]
  simp only[RU,decide_eq_true (show(i:Int)<(B.length:Int) by omega),k1,k3];refine aE (us:=#[iv x.1,iv x.2]) (λw3 hs3 hw3 hf3=>?_) rfl rfl rfl;simp only[RU,ab hw3];refine ag (Hr x.1 w3) ?_;have hfA:=Fm.alloc F0 w3 (.cells #[iv x.1] 3);have hn:=aA w3 (.cells #[iv x.1] 3);have hf23:=Fmf hf2 hf3;obtain⟨v',w4,hr4,ho4,hcase⟩:=cC (P:=prog) E25 (by decide) (ah ho2 (Fmf hf3 hfA) (λ_ _ _ _ e=>e)) 25 ⟨w3.heap.size,0,none⟩ 1 1 (by decide) [iv x.1] rfl (λj u hj=>by rw[aC,ab hn,Nat.zero_add,List.getElem?_toArray];exact hj) (by intro u hu;simp at hu;subst hu;rfl) (by unfold maxLen;omega) (by omega) (by have:=hf23.size;have:=hfA.size;omega);refine ag hr4 ?_;have hw64:IntKind.i64.wrap ((i:Int)+1)=((i+1:Nat):Int):=by rw[af]<;>omega
  refine⟨⟨v',i+1,by rw[hw64],by omega,?_,?_⟩,by rw[hw64];simp only[cN];omega⟩
  ·rw[et];simpa using ho4
  ·have hFA:=Fmf hf23 hfA;rcases hcase with⟨g',e1,_,hf⟩|⟨g',_,_,hf⟩
   ·exact Fm.own hFA hf (λy e=>by rw[e];exact(aO ho2 _ e1).1)
   ·exact Fmf hFA hf
 ·obtain rfl:i=B.length:=by omega
  rw[List.take_length] at ho2;simp only[RU,decide_eq_false (show ¬((B.length:Nat):Int)<(B.length:Int) by omega)];have hp:(B.map (·.1)).Perm (BV L):=by rw[<- zp];exact hB.map _
  exact⟨B.map (·.1),hp,by rw[List.length_map];exact hl,by rw[List.length_map];exact aU ho2 hf1.size,Fmf hf1 hf2⟩
theorem yD{A:List Int}(hp:A.Perm (BV L)):∀x,x∈A↔x∈M.running L:=λx=>by rw[qW,hp.mem_iff]
theorem pU{S:List Int}(hs:S.Pairwise (·<=·))(hn:S.Nodup):∀(i:Nat) a b,S[i]?=some a->S[i+1]?=some b->a≠b:=by intro i a b h1 h2 e;obtain⟨q1,e1⟩:=List.getElem?_eq_some_iff.1 h1;obtain⟨q2,e2⟩:=List.getElem?_eq_some_iff.1 h2;have:=List.pairwise_iff_getElem.1 hn i (i+1) q1 q2 (by omega);rw[e1,e2] at this;exact this e
theorem uU{a:Value}{A:List Int}(ha:CellsAt w a A.length 1 (A.map iv))(hl:A.length<=12)(hnd:A.Nodup)(n:Int):Cl prog 32 [iv n,a] w λo w'=>∃(u:Value) (S:List Int),o=.agg #[iv n,u]/\S.Perm A/\w'.ownsRow w.heap.size 3 1 u S.length (S.map iv)/\Fm F0 w w':=by
 refine cU2 func32 ?_;refine ae ?_;rintro b1 w1 rfl hs1 hw1 hf1;refine(gw (ha.keep hf1 iT) (by omega)).mono ?_;rintro u w2 ⟨ho2,hf2⟩;refine(nS (xs:=A) (by omega) ho2).mono ?_;rintro _ w3 ⟨ho3,hf3⟩;have hp:(A.mergeSort λx y=>decide (x<=y)).Perm A:=List.mergeSort_perm _ _;have hso:(A.mergeSort λx y=>decide (x<=y)).Pairwise (·<=·):=by have:=List.pairwise_mergeSort (le:=λx y:Int=>decide (x<=y)) (λa b c h1 h2=>by simp at *;omega) (λa b=>by simp;omega) A;exact this.imp (λh=>by simpa using h)
 have hap:=pU hso (hp.nodup_iff.2 hnd);generalize (A.mergeSort λx y=>decide (x<=y))=S at ho3 hp hso hap;rw[<- hp.length_eq] at ho3;have hF2:=Fmf hf1 hf2;have hF3:=Fm.own hF2 hf3 (λy hy=>by have:=hf1.size;omega);refine(jg (CellsAt.aT ho3) (by rw[hp.length_eq];omega) hap).mono ?_;rintro r w4 ⟨hr,hf4⟩;rw[hr];have hone:=aB ho3;obtain⟨ua,un,uc,rfl⟩:=aZ (CellsAt.aT ho3);refine bst #[iv n,.slice ua un uc] ?_;have hF4:=Fmf hF3 hf4;have hlt:=aj hw1;have hw4:=hf4.heap (hf3.heap (hf2.heap hw1 id) (by omega)) id;refine ao hw4 (λw5 hw5 hs5 hf5=>?_) rfl rfl (by simp[hone];rfl);simp only[RU,aa (n:=2) hw5 rfl];refine⟨_,S,rfl,hp,aU (ah (ah ho3 hf4 (λ_ _ _ _ e=>e)) hf5 ?_) hf1.size,Fm.own hF4 hf5 (by rintro y rfl;exact Nat.le_refl _)⟩;intro j hj _ _ e;omega
theorem vd(h:TxAt w D b bm T L)(hT:T.length<=12){who:Int}(ht:getD L who=some t)(h0:t.xid=0){x:Int}(hx:1<=x)(hr:x∉M.running L):Cl prog 50 [pv b,iv who,iv x] w λo w'=>o=iv 0/\TxAt w' D b bm T (cO L who { t with xid:=x })/\Fm D w w':=by refine cU3 func50 ?_;refine(eJ h ht).mono ?_;rintro _ w1 ⟨g,a,rfl,hgt,hg,ha,rfl⟩;have c:=λo=>ab (off:=o) hg;simp only[RU,show((0:Int) != 0)=false from rfl,decide_eq_false (show ¬x<1 by omega),c,h0];refine(fB h hT).mono ?_;rintro _ w2 ⟨A,hA,hAl,ho2,hf2⟩;refine(ny (l:=A) ⟨A,CellsAt.aT ho2,by omega,λ_=>Iff.rfl⟩ x).mono ?_;rintro _ w3 ⟨rfl,rfl⟩;simp only[RU,decide_eq_false (show ¬x∈A from λe=>hr ((yD hA x).1 e))];have hg3:=hf2.heap hg id;refine au hg3 (j:=2) (show 2<7 by decide) rfl λw4 hw4 hs4 hf4=>?_;have hD:=h.ob.2.2 _ (dF hgt);exact⟨(h.keep hf2 iT).upd hgt ht hg3 hw4 hf4 rfl,(hf2.trans hf4 iE (λy _ e=>by rw[e];exact hD))⟩
end
theorem K275:KeyT prog 275 3 3 iv:=dH underlying275 underlying3
def rmL(r:Option Int):List (Int×Int):=match r with
 | none=>[]
 | some x=>[(2,x)]
def gk(r:Option Int)(n:Int):Int×Bool:=match r with
 | none=>(0,false)
 | some x=>bif decide (n<=x) then(2,true) else(0,false)
structure SpAt (w : World) (b bm : Nat) (r : Option Int) : Prop where
 st : w.heap[b]? = some (.cells #[.map (some bm)] 285)
 mp : MapAt w bm iv iv (rmL r)
section
variable{w w':World}{S:Nat->Prop}{b bm:Nat}{r:Option Int}
theorem SpAt.keep(h:SpAt w b bm r)(hf:Fm S w w')(h1:¬S b)(h2:¬S bm):SpAt w' b bm r:=⟨hf.heap h.st h1,h.mp.keep hf h2⟩
theorem yN(w:World):Cl prog 84 [] w λv w'=>∃b bm,v=pv b/\w.heap.size<=b/\w.heap.size<=bm/\SpAt w' b bm none/\Fm F0 w w':=by refine cU0 func84 ?_;refine ag (bf _ _) (bst #[.map (some w.heap.size)] ?_);simp only[RU];refine ae ?_;intro b w' hb hs hw hf;have:=aF w (.map #[] 0);exact⟨b,w.heap.size,rfl,by omega,Nat.le_refl _,⟨hw,(MapAt.empty w iv iv).keep hf id⟩,Fmf (Fm.alloc F0 w _) hf⟩
theorem yP(h:SpAt w b bm r)(x:Int):Cl prog 240 [pv b,iv 2,iv x] w λv w'=>SpAt w' b bm (some x)/\Fm (·=bm) w w':=by
 refine cU3 func240 ?_;simp only[RU,ab h.st];obtain⟨w',hr,hm,hf,_⟩:=bk K275 h.mp 2 x;have e:cO (rmL r) 2 x=rmL (some x):=by cases r<;>rfl
 rw[e] at hm;refine cB hr ?_;exact⟨⟨hf.heap h.st (by rintro rfl;obtain⟨es,c,hb,_⟩:=h.mp.ex;rw[h.st] at hb;cases hb),hm⟩,hf⟩
theorem uM(h:SpAt w b bm r)(n:Int):Cl prog 221 [pv b,iv n] w λv w'=>v=.tuple #[iv (gk r n).1,.bool (gk r n).2]/\Fm F0 w w':=by
 refine cU2 func221 ?_ (V [(5,[6,7])]);simp only[RU,ab h.st];obtain⟨w1,hr1,hR,hf1,hs1⟩:=fw K275.map h.mp;refine ag hr1 ?_;refine⟨λvs w2=>∃left,RangeAt w2 w.heap.size bm iv iv (rmL r) left/\Fm F0 w w2/\((vs=[iv 0,.bool false]/\left=rmL r)\/(vs=[iv (gk r n).1,.bool (gk r n).2]/\left=[])),λ_ w2=>Go.Al.rl w2 w.heap.size bm,⟨_,hR,hf1,.inl ⟨rfl,rfl⟩⟩,?_⟩;rintro w2 bv fv ⟨left,hR,hf,hv⟩;rcases ij (P:=prog) hR 0 with⟨rfl,hrun⟩|⟨i,p,w3,hp,hrun,hR',hf',hs',hent⟩
 ·refine ag hrun ?_;simp only[RU];refine⟨?_,hf⟩;rcases hv with⟨hv,hl⟩|⟨hv,_⟩
  ·cases hv;cases r with
   | none=>rfl
   | some x=>cases hl
  ·cases hv;rfl
 ·rcases hv with⟨hv,rfl⟩|⟨_,rfl⟩
  ·cases hv;cases r with
   | none=>simp[rmL] at hp
   | some x=>
    cases i with
    | succ i=>simp[rmL] at hp
    | zero=>
     obtain rfl:(2,x)=p:=by simpa[rmL] using hp
     have hlen:Go.Al.rl w3 w.heap.size bm<Go.Al.rl w2 w.heap.size bm:=by rw[hR.len,hR'.len];simp[rmL]
     have hfw:Fm F0 w w3:=hf.trans hf' iT (λy hy e=>by omega);refine ag hrun ?_;simp only[RU];refine ag hent ?_;by_cases hn:n<=x
     ·simp only[RU,decide_eq_true hn];exact⟨⟨_,hR',hfw,.inr ⟨by simp[gk,hn],rfl⟩⟩,hlen⟩
     ·simp only[RU,decide_eq_false hn];exact⟨⟨_,hR',hfw,.inr ⟨by simp[gk,hn],rfl⟩⟩,hlen⟩
  ·simp at hp
end
abbrev jv:Int->Value:=Value.int .i64
abbrev sv:ByteArray->Value:=Value.string
theorem K74:KeyT prog 241 9 3 sv:=Am underlying241 underlying9
theorem K75:KeyT prog 99 3 9 jv:=dH underlying99 underlying3
theorem zz3(w:World):(zeroValue 3).run prog w=.ok (jv 0) w:=by kernel_rfl
theorem zz9(w:World):(zeroValue 9).run prog w=.ok (sv ByteArray.empty) w:=by kernel_rfl
theorem Gz(u v:Nat)(w:World):(Instr.build 243 #[(0,.map (some u)),(1,.map (some v))]).run prog w=.ok (.agg #[.map (some u),.map (some v)]) w:=by kernel_rfl
abbrev HL:=List (ByteArray×Int)
abbrev WL:=List (Int×ByteArray)
structure IsT (w : World) (b bh bw : Nat) (H : HL) (W : WL) : Prop where
 st : w.heap[b]? = some (.cells #[.map (some bh), .map (some bw)] 243)
 hs : MapAt w bh sv jv H
 ws : MapAt w bw jv sv W
 ne : bh ≠ bw
theorem IsT.nh{w:World}{b bh bw:Nat}{H:HL}{W:WL}(h:IsT w b bh bw H W):b≠bh:=by rintro rfl;obtain⟨es,c,hb,_⟩:=h.hs.ex;rw[h.st] at hb;cases hb
theorem IsT.nw{w:World}{b bh bw:Nat}{H:HL}{W:WL}(h:IsT w b bh bw H W):b≠bw:=by rintro rfl;obtain⟨es,c,hb,_⟩:=h.ws.ex;rw[h.st] at hb;cases hb
theorem IsT.keep{S:Nat->Prop}{w w':World}{b bh bw:Nat}{H:HL}{W:WL}(h:IsT w b bh bw H W)(hf:Fm S w w')(h1:¬S b)(h2:¬S bh)(h3:¬S bw):IsT w' b bh bw H W:=⟨hf.heap h.st h1,h.hs.keep hf h2,h.ws.keep hf h3,h.ne⟩
theorem IsT.drew{w:World}{b bh bw:Nat}{H:HL}{W:WL}(h:IsT w b bh bw H W):IsT w.drew b bh bw H W:=h.keep (Fm.drew F0 w) id id id
theorem IsT.cell0{w:World}{b bh bw:Nat}{H:HL}{W:WL}(h:IsT w b bh bw H W):w.cell? ⟨b,0,none⟩=some (.map (some bh)):=by rw[ab h.st];rfl
theorem IsT.oP{w:World}{b bh bw:Nat}{H:HL}{W:WL}(h:IsT w b bh bw H W):w.cell? ⟨b,1,none⟩=some (.map (some bw)):=by rw[ab h.st];rfl
theorem xB(w:World):Cl prog 82 [] w λv w'=>∃b bh bw,v=.pointer (some ⟨b,0,none⟩)/\w.heap.size<=b/\w.heap.size<=bh/\w.heap.size<=bw/\IsT w' b bh bw [] []/\Fm F0 w w':=by
 refine cU0 func82 ?_;refine ag (bf _ _) (ag (bf _ _) (ag (Gz _ _ _) ?_));simp only[RU];refine ae ?_;intro b w' hb hs hw hf;have f1:=Fm.alloc F0 w (.map #[] 0);have f2:=Fm.alloc F0 (w.alloc (.map #[] 0)) (.map #[] 0);have f12:=f1.trans f2 (U:=λ_=>False) iT iT;have m1:=((MapAt.empty w sv jv).keep f2 id).keep hf id;have m2:=(MapAt.empty (w.alloc (.map #[] 0)) jv sv).keep hf id;refine⟨b,w.heap.size,(w.alloc (.map #[] 0)).heap.size,rfl,?_,Nat.le_refl _,?_,⟨hw,m1,m2,?_⟩,f12.trans hf iT iT⟩
 ·rw[hb,aF,aF];omega
 ·rw[aF];omega
 ·rw[aF];omega
def zi(W:WL)(who:Int):Value:=.tuple #[sv ((getD W who).getD ByteArray.empty),.bool (getD W who).isSome]
theorem vh{w:World}{b bh bw:Nat}{H:HL}{W:WL}(h:IsT w b bh bw H W)(who:Int):Cl prog 57 [.pointer (some ⟨b,0,none⟩),jv who] w λv w'=>v=zi W who/\w'=w:=by refine cU2 func57 ?_;simp only[RU,h.oP];refine ag (aW K75 h.ws who true (zz9 w)) ?_;cases hg:getD W who<;>simp only[okV,cond_true]<;>simp only[RU]<;>simp[zi,hg]
def Edge(H:HL)(W:WL)(p q:Int):Prop:=∃key,getD W p=some key/\getD H key=some q
inductive Chain (H : HL) (W : WL) : Int → Int → Prop
 | here (p : Int) : Chain H W p p
 | step {p q r : Int} : Edge H W p q → Chain H W q r → Chain H W p r
theorem Edge.fn{H:HL}{W:WL}{p q r:Int}(h:Edge H W p q)(h':Edge H W p r):q=r:=by obtain⟨k,h1,h2⟩:=h;obtain⟨k',h3,h4⟩:=h';rw[h1] at h3;cases h3;rw[h2] at h4;cases h4;rfl
theorem Chain.next{H:HL}{W:WL}{p q r:Int}(h:Chain H W p r)(he:Edge H W p q)(hn:p≠r):Chain H W q r:=by
 cases h with
 | here=>exact absurd rfl hn
 | step e c=>rw[he.fn e];exact c
structure Sound (H : HL) (W : WL) : Prop where
 rank : ∃ f : Int → Nat, ∀ p q, Edge H W p q → f q < f p
 held : ∀ p key, getD W p = some key → (getD H key).isSome = true
theorem uI{w:World}{b bh bw:Nat}{H:HL}{W:WL}(h:IsT w b bh bw H W)(hs:Sound H W)(who at_:Int):
  Cl prog 220 [.pointer (some ⟨b,0,none⟩),jv who,jv at_] w λv w'=>∃r:Bool,v=.bool r/\(r=true↔Chain H W at_ who)/\w'=w:=by
 obtain⟨f,hf⟩:=hs.rank;refine cU3 func220 ?_ (V [(1,[2])]);refine⟨λvs w'=>∃p,vs=[jv p]/\w'=w/\(Chain H W at_ who↔Chain H W p who),λvs _=>f (nth vs 0),⟨at_,rfl,rfl,Iff.rfl⟩,?_⟩;rintro w' pv ⟨p,⟨⟩,rfl,hp⟩;simp only[RU,h.cell0,h.oP];by_cases hpw:p=who
 ·have e1:(p != who)=false:=by simp[hpw]
  simp only[RU,e1];exact⟨true,rfl,by rw[hp,hpw];exact⟨λ_=>.here _,λ_=>rfl⟩,trivial⟩
 ·have e1:(p != who)=true:=by simp[hpw]
  simp only[RU,e1];refine ag (aW K75 h.ws p true (zz9 w')) ?_;cases hg:getD W p with
  | none=>
   simp only[okV,cond_true];simp only[RU];refine⟨false,rfl,?_,trivial⟩;rw[hp];constructor
   ·intro e;cases e
   ·intro c;cases c with
    | here=>exact absurd rfl hpw
    | step e _=>obtain⟨k,h1,_⟩:=e;rw[hg] at h1;cases h1
  | some key=>
   simp only[okV,cond_true];simp only[RU,h.cell0];refine ag (aW K74 h.hs key false (zz3 w')) ?_;have hh:=hs.held p key hg;cases hk:getD H key with
   | none=>rw[hk] at hh;cases hh
   | some q=>simp only[okV,cond_false];have he:Edge H W p q:=⟨key,hg,hk⟩;exact⟨⟨q,rfl,trivial,hp.trans ⟨λc=>c.next he hpw,λc=>.step he c⟩⟩,by simp only[ba];exact hf _ _ he⟩
inductive TryR (H : HL) (W : WL) (who : Int) (key : ByteArray) : HL → WL → Bool → Int → Prop
 | take : (getD H key = none ∨ getD H key = some who) → TryR H W who key (cO H key who) (cR W who) true 0
 | ring (h : Int) : getD H key = some h → h ≠ who → Chain H (cR W who) h who → TryR H W who key H (cR W who) false 181
 | wait (h : Int) : getD H key = some h → h ≠ who → ¬ Chain H (cR W who) h who → TryR H W who key H (cO (cR W who) who key) false 0
theorem Edge.As{H:HL}{W:WL}(hn:(W.map (·.1)).Nodup){who p q:Int}(h:Edge H (cR W who) p q):Edge H W p q/\p≠who:=by
 obtain⟨k,h1,h2⟩:=h;rw[cU hn] at h1;split at h1
 ·cases h1
 ·rename_i hne;exact⟨⟨k,h1,h2⟩,hne⟩
theorem Sound.del{H:HL}{W:WL}(hn:(W.map (·.1)).Nodup)(h:Sound H W)(who:Int):Sound H (cR W who):=by
 obtain⟨f,hf⟩:=h.rank;refine⟨⟨f,λp q e=>hf p q (e.As hn).1⟩,λp key hp=>?_⟩;rw[cU hn] at hp;split at hp
 ·cases hp
 ·exact h.held p key hp
theorem Sound.try{H:HL}{W:WL}(hn:(W.map (·.1)).Nodup)(h:Sound H W){who:Int}{key:ByteArray}{H':HL}{W':WL}{ok:Bool}{e:Int}(ht:TryR H W who key H' W' ok e):Sound H' W':=by
 have hd:=h.del hn who;cases ht with
 | take hfree=>
  have hsub:∀k x,getD H k=some x->getD (cO H key who) k=some x:=λk x hk=>by
   rw[bl];split
   ·rename_i e;subst e;rcases hfree with h'|h'<;>rw[h'] at hk<;>cases hk;rfl
   ·exact hk
  obtain⟨f,hf⟩:=hd.rank;refine⟨⟨f,λp q e=>?_⟩,λp k hp=>?_⟩
  ·obtain⟨k,h1,h2⟩:=e;have hh:=hd.held p k h1;cases hk:getD H k with
   | none=>rw[hk] at hh;cases hh
   | some x=>have:=hsub k x hk;rw[h2] at this;cases this;exact hf p q ⟨k,h1,hk⟩
  ·have hh:=hd.held p k hp;cases hk:getD H k with
   | none=>rw[hk] at hh;cases hh
   | some x=>rw[hsub k x hk];rfl
 | ring hh h1 h2 h3=>exact hd
 | wait hh h1 h2 h3=>
  obtain⟨f,hf⟩:=hd.rank;have hE:∀p q,Edge H (cO (cR W who) who key) p q->(p=who/\q=hh)\/(p≠who/\Edge H (cR W who) p q):=by
   rintro p q ⟨k,g1,g2⟩;rw[bl] at g1;split at g1
   ·rename_i e;cases g1;rw[h1] at g2;cases g2;exact .inl ⟨e,rfl⟩
   ·rename_i hne;exact .inr ⟨hne,k,g1,g2⟩
  classical
  refine⟨⟨λx=>f x+(if Chain H (cR W who) x who then f hh+1 else 0),λp q e=>?_⟩,λp k hp=>?_⟩
  ·rcases hE p q e with⟨rfl,rfl⟩|⟨hne,e⟩
   ·simp only[if_neg h3,if_pos (Chain.here (H:=H) (W:=cR W p) p)];omega
   ·have:=hf p q e;by_cases hc:Chain H (cR W who) p who
    ·simp only[if_pos hc,if_pos (hc.next e hne)];omega
    ·have hc':¬Chain H (cR W who) q who:=λc=>hc (.step e c);simp only[if_neg hc,if_neg hc'];omega
  ·rw[bl] at hp;split at hp
   ·cases hp;rw[h1];rfl
   ·exact hd.held p k hp
theorem Ba{w:World}{b bh bw:Nat}{H:HL}{W:WL}(h:IsT w b bh bw H W)(hs:Sound H W)(who:Int)(key:ByteArray):
  Cl prog 130 [.pointer (some ⟨b,0,none⟩),jv who,sv key] w λv w'=>∃H' W' ok e,v=.tuple #[.bool ok,jv e]/\TryR H W who key H' W' ok e/\IsT w' b bh bw H' W'/\Fm (λx=>x=bh\/x=bw) w w':=by
 refine cU3 func130 ?_ (V []) (J [(7,[26])]);simp only[RU,h.cell0,h.oP];obtain⟨w1,hr1,hm1,hf1,hs1⟩:=dR K75 h.ws who 0 3;refine ag hr1 ?_;have hT1:IsT w1 b bh bw H (cR W who):=⟨hf1.heap h.st h.nw,h.hs.keep hf1 h.ne,hm1,h.ne⟩;have hF1:Fm (λx=>x=bh\/x=bw) w w1:=hf1.mono λ_ _ e=>.inr e;simp only[RU,hT1.cell0];refine ag (aW K74 hT1.hs key true (zz3 w1)) ?_;have hsd:=hs.del h.ws.keys who;have free:(getD H key=none\/getD H key=some who)->RunU prog (Instr.mapUpdate 241 (.map (some bh)) (sv key) (jv who)) w1 λu w2=>∃H' W' ok e,Value.tuple #[.bool true,jv 0]=.tuple #[.bool ok,jv e]/\TryR H W who key H' W' ok e/\IsT w2 b bh bw H' W'/\Fm (λx=>x=bh\/x=bw) w w2:=by intro hfree;obtain⟨w2,hr2,hm2,hf2,_⟩:=bk K74 hT1.hs key who;exact cB hr2 ⟨_,_,_,_,rfl,.take hfree,⟨hf2.heap hT1.st h.nh,hm2,hT1.ws.keep hf2 (λe=>h.ne e.symm),h.ne⟩,hF1.trans hf2 iT (λ_ _ e=>.inl e)⟩
 cases hg:getD H key with
 | none=>
  simp only[okV,cond_true];simp only[RU];refine aJ (λvs w2=>vs=[.bool true]/\w2=w1) ?_ ?_
  ·rintro _ _ ⟨rfl,rfl⟩;refine⟨_,rfl,?_⟩;simp only[RU,hT1.cell0];exact free (.inl hg)
  ·intro kk hkk
   try simp only[RU]
   exact hkk _ _ ⟨rfl,rfl⟩
 | some hh=>
  simp only[okV,cond_true];simp only[RU];refine aJ (λvs w2=>vs=[.bool (hh == who)]/\w2=w1) ?_ ?_
  ·rintro _ _ ⟨rfl,rfl⟩;refine⟨_,rfl,?_⟩;by_cases he:hh=who
   ·have e1:(hh == who)=true:=by simp[he]
    simp only[RU,e1,hT1.cell0];exact free (.inr (by rw[hg,he]))
   ·have e1:(hh == who)=false:=by simp[he]
    simp only[RU,e1];refine(uI hT1 hsd who hh).mono ?_;rintro _ w3 ⟨r,rfl,hr,rfl⟩;cases r with
    | true=>simp only[RU];exact⟨_,_,_,_,rfl,.ring hh hg he (hr.1 rfl),hT1,hF1⟩
    | false=>simp only[RU,hT1.oP];obtain⟨w2,hr2,hm2,hf2,_⟩:=bk K75 hT1.ws who key;exact cB hr2 ⟨_,_,_,_,rfl,.wait hh hg he (λc=>by have:=hr.2 c;cases this),⟨hf2.heap hT1.st h.nw,hT1.hs.keep hf2 h.ne,hm2,h.ne⟩,hF1.trans hf2 iT (λ_ _ e=>.inr e)⟩
  ·intro kk hkk
   try simp only[RU]
   exact hkk _ _ ⟨rfl,rfl⟩
theorem cX{α:Type}{l:List α}(hn:l.Nodup){i:Nat}{p:α}(hi:l[i]?=some p)(q:α):q∈l.eraseIdx i↔q∈l/\q≠p:=by
 induction l generalizing i with
 | nil=>simp at hi
 | cons x l ih=>
  rw[List.nodup_cons] at hn;cases i with
  | zero=>
   simp at hi;subst hi;rw[List.eraseIdx_cons_zero,List.mem_cons];constructor
   ·intro h;exact⟨.inr h,λe=>hn.1 (by rw[<- e];exact h)⟩
   ·rintro⟨h|h,hne⟩
    ·exact absurd h hne
    ·exact h
  | succ i=>
   have hi':l[i]?=some p:=by simpa using hi
   rw[List.eraseIdx_cons_succ,List.mem_cons,List.mem_cons,ih hn.2 hi'];constructor
   ·rintro(rfl|⟨h,hne⟩)
    ·exact⟨.inl rfl,λe=>hn.1 (by rw[e];exact List.mem_of_getElem? hi')⟩
    ·exact⟨.inr h,hne⟩
   ·rintro⟨rfl|h,hne⟩
    ·exact .inl rfl
    ·exact .inr ⟨h,hne⟩
theorem kK{α β:Type}{D:List (α×β)}(h:(D.map (·.1)).Nodup):D.Nodup:=by rw[List.Nodup,List.pairwise_map] at h;exact h.imp λhne e=>hne (by rw[e])
theorem sJ{α β:Type}{D:List (α×β)}(h:(D.map (·.1)).Nodup){p q:α×β}(hp:p∈D)(hq:q∈D)(e:p.1=q.1):p=q:=by
 induction D with
 | nil=>simp at hp
 | cons x D ih=>
  rw[List.map_cons,List.nodup_cons] at h;rcases List.mem_cons.1 hp with hpx|hp
  ·rcases List.mem_cons.1 hq with hqx|hq
   ·rw[hpx,hqx]
   ·exact absurd (List.mem_map.2 ⟨q,hq,e.symm.trans (by rw[hpx])⟩) h.1
  ·rcases List.mem_cons.1 hq with hqx|hq
   ·exact absurd (List.mem_map.2 ⟨p,hp,e.trans (by rw[hqx])⟩) h.1
   ·exact ih h.2 hp hq
theorem F35:ElemT prog 25 3 1 8:=bJ underlying25 (by kernel_rfl)
theorem Ic(p:Int)(w:World):(Instr.buildSlice 25 1 #[(0,jv p)]).run prog w=.ok (.slice (some ⟨w.heap.size,0,none⟩) 1 1) (w.alloc (.cells #[jv p] 3)):=by kernel_rfl
theorem oG{w:World}{bh c:Nat}{H:HL}{who:Int}(h:MapAt w bh sv jv H)(hc:w.heap[c]?=some (.cells #[jv who] 3)):
  Cl prog 209 [.map (some bh),.func (.func 210) #[] #[.pointer (some ⟨c,0,none⟩)]] w λv w'=>∃H',MapAt w' bh sv jv H'/\(∀q,q∈H'↔q∈H/\q.2≠who)/\Fm (·=bh) w w':=by
 refine cU2 func209 ?_ (V [(1,[])]);obtain⟨w1,hr1,hR,hf1,hs1⟩:=fw K74.map h;refine ag hr1 ?_;have hcb:c≠bh:=by rintro rfl;obtain⟨es,cl,hb,_⟩:=h.ex;rw[hc] at hb;cases hb
 refine⟨λvs w2=>∃(H' left:HL),vs=[]/\RangeAt w2 w.heap.size bh sv jv H' left/\(H'.map (·.1)).Nodup/\(left.map (·.1)).Nodup/\(∀q,q∈left->q∈H)/\(∀q,q∈H'↔q∈H/\(q∈left\/q.2≠who))/\Fm (·=bh) w w2,λ_ w2=>Go.Al.rl w2 w.heap.size bh,⟨H,H,rfl,hR,h.keys,h.keys,λq hq=>hq,λq=>by simp;exact λh=>.inl h,hf1.mono λ_ _ e=>e.elim⟩,?_⟩;rintro w2 ⟨H',left,-,hR,hHn,hLn,hsub,hm,hf⟩;rcases ij (P:=prog) hR 0 with⟨rfl,hrun⟩|⟨i,p,w3,hp,hrun,hR',hf',hs',hent⟩
 ·refine ag hrun ?_;simp only[RU];exact⟨H',hR.map hHn,λq=>by rw[hm];simp,hf⟩
 ·refine ag hrun ?_;simp only[RU];refine ag hent ?_;have hlen:Go.Al.rl w3 w.heap.size bh<Go.Al.rl w2 w.heap.size bh:=by rw[hR.len,hR'.len];have:=ie hp;omega
  have hln:=kK hLn;have hpl:=List.mem_of_getElem? hp;have hpH:p∈H:=hsub p hpl;have hsub':∀q,q∈left.eraseIdx i->q∈H:=λq hq=>hsub q (List.mem_of_mem_eraseIdx hq);have hLn':((left.eraseIdx i).map (·.1)).Nodup:=by rw[<- bd];exact eE hLn i
  have hfw:Fm (·=bh) w w3:=hf.trans hf' iT (λx hx e=>by omega);have hc3:=hfw.heap hc hcb;simp only[RU];refine ay (by kernel_rfl) ?_;simp only[RU,List.nil_append,List.cons_append];refine cU3 func210 ?_;have cc:w3.cell? ⟨c,0,none⟩=some (jv who):=by rw[ab hc3];rfl
  simp only[RU,cc];by_cases hq:p.2=who
  ·have e1:(p.2 == who)=true:=by simpa using hq
   simp only[RU,e1];have hnk:p.1∉(left.eraseIdx i).map (·.1):=by intro hk;obtain⟨q,hq',e⟩:=List.mem_map.1 hk;rw[cX hln hp] at hq';exact hq'.2 (sJ hLn hq'.1 hpl e)
   obtain⟨w4,hr4,hR4,hf4,hs4⟩:=jq K74 hR' hHn p.1 hnk 0 9;refine ag hr4 ?_;refine⟨⟨_,_,hR4,dX hHn _,hLn',hsub',λq=>?_,hfw.trans hf4 iT iT⟩,by rw[hR4.len,<- hR'.len];exact hlen⟩;have hqd:q∈cR H' p.1↔q∈H'/\q.1≠p.1:=by obtain⟨a,b⟩:=q;rw[<- getD_some (dX hHn _),cU hHn,<- getD_some hHn];by_cases e:a=p.1<;>simp[e]
   rw[hqd,hm,cX hln hp];constructor
   ·rintro⟨⟨h1,h2⟩,h3⟩;exact⟨h1,h2.imp (λh4=>⟨h4,λe=>h3 (by rw[e])⟩) id⟩
   ·rintro⟨h1,h2⟩;refine⟨⟨h1,h2.imp (λh4=>h4.1) id⟩,λe=>?_⟩;have:=sJ h.keys h1 hpH e;rcases h2 with h2|h2
    ·exact h2.2 this
    ·rw[this] at h2;exact h2 hq
  ·have e1:(p.2 == who)=false:=by simpa using hq
   simp only[RU,e1];refine⟨⟨_,_,hR',hHn,hLn',hsub',λq=>?_,hfw⟩,hlen⟩;rw[hm,cX hln hp];constructor
   ·rintro⟨h1,h2⟩;refine⟨h1,?_⟩;by_cases e:q=p
    ·exact .inr (by rw[e];exact hq)
    ·exact h2.imp (λh3=>⟨h3,e⟩) id
   ·rintro⟨h1,h2⟩;exact⟨h1,h2.imp (λh3=>h3.1) id⟩
theorem sK{α β:Type}[DecidableEq α]{D:List (α×β)}(h:(D.map (·.1)).Nodup)(p:α)(q:α×β):q∈cR D p↔q∈D/\q.1≠p:=by obtain⟨a,b⟩:=q;rw[<- getD_some (dX h p),cU h,<- getD_some h];by_cases e:a=p<;>simp[e]
theorem Cq{α β:Type}[DecidableEq α](D:List (α×β))(p:α):(cR D p).length<=D.length:=by have:=congrArg List.length (ia D p);rw[List.length_map] at this;rw[this];exact Nat.le_trans (List.erase_sublist.length_le) (by simp)
structure LetR (H : HL) (W : WL) (who : Int) (H' : HL) (W' : WL) (ls : List Int) : Prop where
 up : ls.Pairwise (· < ·)
 told : ∀ x, x ∈ ls ↔ x ≠ who ∧ ∃ key, (x, key) ∈ W ∧ getD H key = some who
 hold : ∀ q, q ∈ H' ↔ q ∈ H ∧ q.2 ≠ who
 wait : ∀ q, q ∈ W' ↔ q ∈ W ∧ q.1 ≠ who ∧ getD H q.2 ≠ some who
theorem pL{w:World}{b bh bw:Nat}{H:HL}{W:WL}(h:IsT w b bh bw H W)(hsz:W.length*8<=140737488355328)(who:Int):
  Cl prog 116 [.pointer (some ⟨b,0,none⟩),jv who] w λv w'=>∃H' W' ls,w'.ownsRow w.heap.size 3 1 v ls.length (ls.map jv)/\LetR H W who H' W' ls/\IsT w' b bh bw H' W'/\Fm (λx=>x=bh\/x=bw) w w':=by
 have hbw:=h.ws.lt;have hbh:=h.hs.lt;refine cU2 func116 ?_ (V [(12,[50]),(6,[5])]);refine ae ?_;intro c w1 hcs hs1 hc1 hf1
 replace hc1:w1.heap[c]?=some (.cells #[jv who] 3):=hc1
 have hT1:=(h.keep hf1 id id id).drew;have hcd:w1.drew.heap[c]?=some (.cells #[jv who] 3):=by rw[aL];exact hc1
 have cc:w1.cell? ⟨c,0,none⟩=some (jv who):=by rw[ab hc1];rfl
 have hf1d:=Fmf hf1 (Fm.drew _ w1);have c1':=hT1.oP;rw[bF] at c1';have hs1':w1.drew.heap.size=w.heap.size+1:=by rw[aL];exact hs1
 obtain⟨ptr,hptr⟩:∃q:Option Addr,q=some ⟨c,0,none⟩:=⟨_,rfl⟩;simp only[RU,c1',cc,true_and];generalize w1.drew=wd at hT1 hcd hf1d hs1';clear hptr ptr cc c1' hc1 hf1 hs1 w1;obtain⟨w2,hr2,hW2,hf2,hs2⟩:=dR K75 hT1.ws who 0 3;refine ag hr2 ?_;have hcw:c≠bw:=by omega
 have hchh:c≠bh:=by omega
 have hc2:=hf2.heap hcd hcw;have hst2:=hf2.heap hT1.st h.nw;have hH2:=hT1.hs.keep hf2 h.ne;have hW1m:=λq=>sK h.ws.keys who q;have hW1l:=Cq W who;generalize cR W who=W1 at hW2 hW1m hW1l;have c1':w2.cell? ⟨b,1,none⟩=some (.map (some bw)):=by rw[ab hst2];rfl
 simp only[RU,c1'];obtain⟨w3,hr3,hR,hf3,hs3⟩:=fw K75.map hW2;refine ag hr3 ?_;have hF2:Fm (·=bw) w w2:=hf1d.trans hf2 iE iT;have hrsz:w2.heap.size=w.heap.size+1:=by rw[hs2,hs1']
 refine⟨λvs w4=>∃(u:Value) (xs:List Int) (left:WL),vs=[u]/\RangeAt w4 w2.heap.size bw jv sv W1 left/\left.Nodup/\(∀q∈left,q∈W1)/\w4.ownsRow (w2.heap.size+1) 3 1 u xs.length (xs.map jv)/\xs.Nodup/\(∀x,x∈xs↔∃key,(x,key)∈W1/\(x,key)∉left/\getD H key=some who)/\xs.length+left.length<=W1.length/\Fm F0 w2 w4,λ_ w4=>Go.Al.rl w4 w2.heap.size bw,⟨.slice none 0 0,[],W1,rfl,hR,kK hW2.keys,λq hq=>hq,World.ownsRow_nil _ _ _ _,List.nodup_nil,λk=>by simp;exact λ_ h1 h2=>absurd h1 h2,by simp,hf3⟩,?_⟩;rintro w4 u ⟨_,xs,left,⟨⟩,hR,hln,hsub,ho,hxn,hxm,hxl,hf⟩;have hst4:=hf.heap hst2 id;have hH4:=hH2.keep hf id;have hc4:=hf.heap hc2 id;rcases ij (P:=prog) hR 0 with⟨rfl,hrun⟩|⟨i,p,w5,hp,hrun,hR',hf',hs',hent⟩
 ·refine ag hrun ?_;simp only[List.length_nil,Nat.add_zero,List.not_mem_nil,not_false_eq_true,true_and] at hxl hxm;simp only[RU,(CellsAt.aT ho).lenV];refine⟨λvs w5=>∃(k:Nat) (Wk:WL),vs=[jv k]/\k<=xs.length/\MapAt w5 bw jv sv Wk/\(∀q,q∈Wk↔q∈W1/\q.1∉xs.take k)/\Fm (·=bw) w4 w5,λvs _=>(xs.length - nth vs 0).toNat,⟨0,W1,rfl,by omega,hR.map hW2.keys,λq=>by simp,Fm.refl _ _⟩,?_⟩;rintro w5 kv ⟨k,Wk,⟨⟩,hk,hWk,hWm,hf5⟩;have hst5:=hf5.heap hst4 h.nw;have ho5:=ah ho hf5 (λk hk _ _ e=>by omega);by_cases hlt:k<xs.length
  ·have e1:decide ((k:Int)<(xs.length:Int))=true:=by simpa using hlt
   have hx:xs[k]?=some xs[k]:=List.getElem?_eq_getElem hlt;obtain⟨ad,i1,_,q1⟩:=(CellsAt.aT ho5).j4 (i:=k) (x:=jv xs[k]) (by rw[List.getElem?_map,hx];rfl) .i64;have c5:w5.cell? ⟨b,1,none⟩=some (.map (some bw)):=by rw[ab hst5];rfl
   simp only[RU,e1,i1,q1,c5];obtain⟨w6,hr6,hW6,hf6,hs6⟩:=dR K75 hWk xs[k] 0 3;refine ag hr6 ?_;simp only[RU,zn (i:=k) (by omega)];refine⟨⟨k+1,_,rfl,by omega,hW6,λq=>?_,hf5.trans hf6 iT iT⟩,by simp only[ba];omega⟩;rw[sK hWk.keys,hWm,List.take_add_one,hx];simp only[Option.toList_some,List.mem_append,List.mem_singleton,not_or];exact⟨λ⟨⟨a,b⟩,c⟩=>⟨a,b,c⟩,λ⟨a,b,c⟩=>⟨⟨a,b⟩,c⟩⟩
  ·have hke:k=xs.length:=by omega
   subst hke;have e1:decide ((xs.length:Int)<(xs.length:Int))=false:=by simp
   have c5:w5.cell? ⟨b,0,none⟩=some (.map (some bh)):=by rw[ab hst5];rfl
   rw[List.take_length] at hWm;simp only[RU,e1,c5];refine(oG (hH4.keep hf5 h.ne) (hf5.heap hc4 hcw)).mono ?_;rintro _ w6 ⟨H',hH6,hHm,hf6⟩;have ho6:=ah ho5 hf6 (λk hk _ _ e=>by omega);refine(nS (by omega) ho6).mono ?_;rintro _ w7 ⟨ho7,hf7⟩;have hz:w4.heap.size<=w6.heap.size:=Nat.le_trans hf5.size hf6.size;have hz4:=hf.size;have hperm:=List.mergeSort_perm xs (λx y=>decide (x<=y));refine⟨H',Wk,xs.mergeSort λx y=>decide (x<=y),?_,⟨?_,λx=>?_,hHm,λq=>?_⟩,⟨?_,?_,?_,h.ne⟩,?_⟩
   ·rw[List.length_mergeSort];exact aU ho7 (by omega)
   ·have h1:=List.pairwise_mergeSort (le:=λx y:Int=>decide (x<=y)) (λa b c h1 h2=>by simp at *;omega) (λa b=>by simp;omega) xs;have h2:(xs.mergeSort λx y=>decide (x<=y)).Nodup:=hperm.nodup_iff.2 hxn;exact(h1.and h2).imp λ⟨h,hn⟩=>by simp at h;omega
   ·rw[List.mem_mergeSort,hxm];constructor
    ·rintro⟨key,h1,h2⟩;have:=(hW1m _).1 h1;exact⟨this.2,key,this.1,h2⟩
    ·rintro⟨hne,key,h1,h2⟩;exact⟨key,(hW1m _).2 ⟨h1,hne⟩,h2⟩
   ·rw[hWm,hW1m,hxm,and_assoc];constructor
    ·rintro⟨h1,h2,h3⟩;exact⟨h1,h2,λe=>h3 ⟨q.2,(hW1m _).2 ⟨h1,h2⟩,e⟩⟩
    ·rintro⟨h1,h2,h3⟩;refine⟨h1,h2,λ⟨key,h4,h5⟩=>h3 ?_⟩;have:=sJ h.ws.keys ((hW1m _).1 h4).1 h1 rfl;rw[<- this];exact h5
   ·exact hf7.heap (hf6.heap hst5 h.nh) (by have:=aj h.st;omega)
   ·exact hH6.keep hf7 (by omega)
   ·exact(hWk.keep hf6 (λe=>h.ne e.symm)).keep hf7 (by omega)
   ·have f1:Fm (·=bw) w w5:=(hF2.trans hf (U:=(·=bw)) iT iE).trans hf5 iT iT;have f2:Fm (λx=>x=bh\/x=bw) w w6:=f1.trans hf6 (λ_ _ e=>.inr e) (λ_ _ e=>.inl e);exact f2.trans hf7 iT (λx hx e=>by omega)
 ·refine ag hrun ?_;simp only[RU];refine ag hent ?_;have hlen:Go.Al.rl w5 w2.heap.size bw<Go.Al.rl w4 w2.heap.size bw:=by rw[hR.len,hR'.len];have:=ie hp;omega
  have hl1:=ie hp;have hpl:=List.mem_of_getElem? hp;have hpH:p∈W1:=hsub p hpl;have hsub':∀q∈left.eraseIdx i,q∈W1:=λq hq=>hsub q (List.mem_of_mem_eraseIdx hq);have hfw:Fm F0 w2 w5:=hf.trans hf' iT (λx hx e=>by omega);have ho3:=ah ho hf' (λk hk hk' hb e=>by omega);have hst5:=hfw.heap hst2 id;have hH5:=hH2.keep hfw id;have hc5:=hfw.heap hc2 id;have c5:w5.cell? ⟨b,0,none⟩=some (.map (some bh)):=by rw[ab hst5];rfl
  have cc:w5.cell? ⟨c,0,none⟩=some (jv who):=by rw[ab hc5];rfl
  simp only[RU,c5];obtain⟨x,key⟩:=p;refine ag (aW K74 hH5 key true (zz3 w5)) ?_;have skip:getD H key≠some who->(∃(u':Value) (xs:List Int) (left:WL),[u]=[u']/\RangeAt w5 w2.heap.size bw jv sv W1 left/\left.Nodup/\(∀q∈left,q∈W1)/\w5.ownsRow (w2.heap.size+1) 3 1 u' xs.length (xs.map jv)/\xs.Nodup/\(∀x,x∈xs↔∃key,(x,key)∈W1/\(x,key)∉left/\getD H key=some who)/\xs.length+left.length<=W1.length/\Fm F0 w2 w5)/\Go.Al.rl w5 w2.heap.size bw<Go.Al.rl w4 w2.heap.size bw:=by
   intro hne;refine⟨⟨u,xs,_,rfl,hR',eE hln i,hsub',ho3,hxn,λy=>?_,by omega,hfw⟩,hlen⟩;rw[hxm];constructor
   ·rintro⟨k,h1,h2,h3⟩;exact⟨k,h1,λh4=>h2 ((cX hln hp _).1 h4).1,h3⟩
   ·rintro⟨k,h1,h2,h3⟩;refine⟨k,h1,λh4=>h2 ((cX hln hp _).2 ⟨h4,λe=>?_⟩),h3⟩;cases e;exact hne h3
  cases hg:getD H key with
  | none=>simp only[okV,cond_true];simp only[RU];exact skip (by rw[hg];simp)
  | some hh=>
   simp only[okV,cond_true];by_cases hq:hh=who
   ·subst hq;have e1:(hh == hh)=true:=by simp
    simp only[RU,e1,cc];have hk:x∉xs:=λhk=>by obtain⟨k',h1,h2,h3⟩:=(hxm x).1 hk;have:=sJ hW2.keys h1 hpH rfl;rw[this] at h2;exact h2 hpl
    refine tG F35 25 (Ic _ _) rfl ho3 (by unfold maxLen;omega) (by omega) (by have:=hR'.lt;omega) ?_;intro v' w6 ho6 hne hf6;have hR6:=hR'.keep hf6 (by omega) (by omega);refine⟨⟨v',xs++[x],_,rfl,hR6,eE hln i,hsub',by simpa using ho6,?_,λy=>?_,by simp;omega,hfw.trans hf6 iT (λx hx e=>by omega)⟩,by rw[hR6.len,<- hR'.len];exact hlen⟩
    ·rw[List.nodup_append];exact⟨hxn,by simp,λa ha b hb=>by simp at hb;subst hb;rintro rfl;exact hk ha⟩
    ·rw[List.mem_append,hxm,List.mem_singleton];constructor
     ·rintro(⟨k,h1,h2,h3⟩|rfl)
      ·exact⟨k,h1,λh4=>h2 ((cX hln hp _).1 h4).1,h3⟩
      ·exact⟨key,hpH,λh4=>((cX hln hp _).1 h4).2 rfl,hg⟩
     ·rintro⟨k,h1,h2,h3⟩;by_cases hy:y=x
      ·exact .inr hy
      ·exact .inl ⟨k,h1,λh4=>h2 ((cX hln hp _).2 ⟨h4,λe=>by cases e;exact hy rfl⟩),h3⟩
   ·have e1:(hh == who)=false:=by simpa using hq
    simp only[RU,e1,cc];exact skip (by rw[hg];simpa using hq)
open M (Pn Ak Rp Ent tu dM entOk sA ent0 rp0 Tu)
theorem two{g:FuncId}{args:List Value}{w:World}{zs:Array Value}{t:TypeId}{C:World->Prop}{Y:Nat->Prop}{n:Nat}{kk:Value->Value->World->Prop}(S:Nat->World->Array Value->Value->Prop)
  (H:∀w1,Fm F0 w w1->Cl prog g args w1 λo w2=>∃us u,o=.tuple #[.agg us,u]/\us.size=n/\us.toList.all Value.oneCell'=true/\S w1.heap.size w2 us u/\Fm Y w1 w2)
  (hC:∀w1,Fm F0 w w1->C w1) (hY:∀y,Y y->y<w.heap.size)
  (hS:∀base w2 w3 us u,w.heap.size<=base->S base w2 us u->Fm (λy=>w.heap.size<=y/\y<base) w2 w3->S base w3 us u)
  (K:∀base w3 b us u,w.heap.size<=base->w.heap.size<=b->us.size=n->w3.heap[b]?=some (.cells us t)->S base w3 us u->Fm Y w w3->kk (pv b) u w3) (hz:zs.size=n:=by rfl):
  (Cl prog g args w λv w2=>Pu (bj v 0) λa=>Pu (bj v 1) λc=>New zs t w2 λp w3=>St n w3 p a λ_ w4=>kk p c w4)/\(New zs t w λp w1=>C w1/\Cl prog g args w1 λv w2=>Pu (bj v 0) λa=>Pu (bj v 1) λc=>St n w2 p a λ_ w3=>kk p c w3)/\True:=by
 refine⟨?_,?_,trivial⟩
 ·refine(H w (Fm.refl _ _)).mono ?_;rintro _ w2 ⟨us,u,rfl,hn,h1,hs,hf⟩;simp only[RU];refine aE (λw4 hs4 hw4 hf4=>?_) hn hz h1;exact K w.heap.size w4 _ us u (Nat.le_refl _) hf.size hn hw4 (hS _ _ _ _ _ (Nat.le_refl _) hs (hf4.mono (λ_ _ e=>e.elim))) (hf.trans hf4 (λ_ _ e=>e) (λ_ _ e=>e.elim))
 ·refine ae ?_;rintro b w1 rfl hs1 hw1 hf1;refine⟨hC w1 hf1,?_⟩;refine(H w1 hf1).mono ?_;rintro _ w2 ⟨us,u,rfl,hn,h1,hs,hf⟩;simp only[RU];refine ao (hf.heap hw1 (λe=>by have:=hY _ e;omega)) (λw3 hw3 hs3 hf3=>?_) hn hz h1;exact K w1.heap.size w3 _ us u (by omega) (Nat.le_refl _) hn hw3 (hS _ _ _ _ _ (by omega) hs (hf3.mono (λy _ e=>by rw[e];omega))) ((hf1.trans hf (λ_ _ e=>e.elim) (λ_ _ e=>e)).trans hf3 (λ_ _ e=>e) (λy hy e=>by omega))
abbrev akC(a:Ak):Array Value:=#[.int .u8 a.call,stv a.key,stv a.to_,stv a.val,iv a.n]
abbrev plC(p:Pn)(f rv lv rr:Value):Array Value:=#[.int .u8 p.ask.call,stv p.ask.key,stv p.ask.to_,stv p.ask.val,iv p.ask.n,iv p.own,iv p.wk,stv p.wkey,iv p.wsz,iv p.wpg,f,iv p.rep.err,.bool p.rep.found,stv p.rep.val,rr,rv,iv p.seen,lv,iv 0,.bool p.hit,stv p.one.key,iv p.one.page,iv p.one.slot,iv 0,stv p.ent.key,iv p.ent.page,iv p.ent.slot,stv p.item]
abbrev stg(b n:Nat):Value:=.func (.func n) #[pv b] #[]
section
variable{w w':World}{b:Nat}{p:Pn}{f f' rv lv rr:Value}
theorem jK(h:w.heap[b]?=some (.cells (plC p f rv lv rr) 223))(n:Int)(s:Nat)(hf:f'.oneCell'=true):Cl prog 299 [pv b,iv n,f'] w λo w'=>w'.heap[b]?=some (.cells (plC (M.see p n s) f' rv lv rr) 223)/\Fm (·=b) w w':=by
 refine cU3 func299 ?_;refine bst #[iv 3,stv [],iv 0,iv n] ?_;refine ck h (o:=6) rfl (show 6+4<=28 by decide) (List.all_eq_true.1 (by rfl)) λw2 h2 hs2 hf2=>?_
 replace h2:w2.heap[b]?=some (.cells (plC { p with wk:=3,wkey:=[],wsz:=0,wpg:=n } f rv lv rr) 223):=h2
 refine au h2 (j:=10) (show 10<28 by decide) hf λw3 h3 hs3 hf3=>?_;exact⟨h3,hf2.trans hf3 iT iT⟩
theorem kW(h:w.heap[b]?=some (.cells (plC p f rv lv rr) 223))(r:Rp){v:Value}(hv:v.oneCell'=true):Cl prog 219 [pv b,.agg #[iv r.err,.bool r.found,stv r.val,v]] w λo w'=>w'.heap[b]?=some (.cells (plC (M.fin p r) .nilFunc rv lv v) 223)/\Fm (·=b) w w':=by
 refine cU2 func219 ?_;refine ae ?_;rintro b1 w1 rfl hs1 hw1 hf1;refine bst #[iv 4,stv [],iv 0,iv 0] ?_;have hb:=aj h;refine ck (hf1.heap h (λe=>e)) (o:=6) rfl (show 6+4<=28 by decide) (List.all_eq_true.1 (by rfl)) λw2 h2 hs2 hf2=>?_
 replace h2:w2.heap[b]?=some (.cells (plC { p with wk:=4,wkey:=[],wsz:=0,wpg:=0 } f rv lv rr) 223):=h2
 refine au h2 (j:=10) (show 10<28 by decide) rfl λw3 h3 hs3 hf3=>?_
 replace h3:w3.heap[b]?=some (.cells (plC { p with wk:=4,wkey:=[],wsz:=0,wpg:=0 } .nilFunc rv lv rr) 223):=h3
 simp only[RU,aa (n:=4) (hf3.heap (hf2.heap hw1 (by omega)) (by omega)) rfl];refine ck h3 (o:=11) rfl (show 11+4<=28 by decide) (List.all_eq_true.1 (by simp[hv];exact⟨rfl,rfl,rfl⟩)) λw4 h4 hs4 hf4=>?_;exact⟨h4,((hf1.trans hf2 (λ_ _ e=>e.elim) (λ_ _ e=>e)).trans hf3 (λ_ _ e=>e) (λ_ _ e=>e)).trans hf4 (λ_ _ e=>e) (λ_ _ e=>e)⟩
theorem oK(h:w.heap[b]?=some (.cells (plC p f rv lv rr) 223))(s:Nat)(hf:f'.oneCell'=true):Cl prog 215 [pv b,f'] w λo w'=>w'.heap[b]?=some (.cells (plC (M.see { p with seen:=0 } 1 s) f' rv lv rr) 223)/\Fm (·=b) w w':=by refine cU2 func215 ?_;refine au h (j:=16) (show 16<28 by decide) rfl λw2 h2 hs2 hf2=>?_;refine(jK (p:={ p with seen:=0 }) h2 1 s hf).mono ?_;rintro _ w3 ⟨h3,hf3⟩;exact⟨h3,hf2.trans hf3 iT iT⟩
theorem pj(h:w.heap[b]?=some (.cells (plC p f rv lv rr) 223)):Cl prog 123 [pv b] w λo w'=>w'.heap[b]?=some (.cells (plC (M.look p) (stg b 216) rv lv rr) 223)/\Fm (·=b) w w':=by refine cU1 func123 ?_;exact(oK h 216 rfl).mono λ_ _ h=>h
theorem dB(h:w.heap[b]?=some (.cells (plC p f rv lv rr) 223)):Cl prog 122 [pv b] w λo w'=>o=.bool (M.writes p.ask)/\w'=w:=by
 unfold M.writes;have c:=λo=>ab (off:=o) h;refine cU1 func122 ?_;by_cases h3:p.ask.call=3
 ·simp only[RU,c,h3,beq_self_eq_true,decide_true,Bool.true_or,and_self]
 ·simp only[RU,c,aV,decide_eq_false h3,Bool.false_or,and_self]
theorem mg(s:Bs):Cl prog 214 [stv s] w λo w'=>o=.bool (M.keyOk s)/\w'=w:=by
 unfold M.keyOk;refine cU1 func214 ?_;by_cases h1:0<s.length
 ·have e:decide (0<s.length/\s.length<=24)=decide ((s.length:Int)<=24):=decide_eq_decide.2 ⟨λh=>by omega,λh=>⟨h1,by omega⟩⟩;simp only[RU,decide_eq_true (show(0:Int)<(s.length:Int) by omega),e,and_self]
 ·simp only[RU,decide_eq_false (show ¬(0:Int)<(s.length:Int) by omega),decide_eq_false (show ¬(0<s.length/\s.length<=24) from λh=>h1 h.1),and_self]
theorem uH{a:Ak}{own:Int}(h:M.rightA a own=true):Cl prog 121 [.agg (akC a),iv own] w λo w'=>o=.bool true/\Fm F0 w w':=by
 unfold M.rightA at h;refine cU2 func121 ?_;refine ae ?_;rintro b1 w1 rfl hs1 hw1 hf1;have c:=λo=>ab (off:=o) hw1;by_cases h3:a.call=3
 ·rw[h3] at h;simp only[decide_true,cond_true,Bool.and_eq_true,decide_eq_true_eq] at h;obtain⟨⟨k1,k2⟩,k3⟩:=h;simp only[RU,c,h3,show((3:Int) == 2)=false from rfl,show((3:Int) == 3)=true from rfl];refine(mg a.key).mono ?_;rintro _ w2 ⟨rfl,rfl⟩;simp only[RU,c,k1,decide_eq_true (show(a.val.length:Int)<=64 by omega),decide_eq_true k3];exact hf1
 by_cases h4:a.call=4
 ·rw[h4] at h;simp only[show decide ((4:Int)=3)=false from rfl,cond_false,decide_true,cond_true,Bool.and_eq_true,decide_eq_true_eq] at h;obtain⟨k1,k3⟩:=h;simp only[RU,c,h4,show((4:Int) == 2)=false from rfl,show((4:Int) == 3)=false from rfl,show((4:Int) == 4)=true from rfl];refine(mg a.key).mono ?_;rintro _ w2 ⟨rfl,rfl⟩;simp only[RU,c,k1,decide_eq_true k3];exact hf1
 rw[decide_eq_false h3,decide_eq_false h4] at h;simp only[cond_false,Bool.and_eq_true,decide_eq_true_eq] at h;obtain⟨h5,k1,k2,k3,k4⟩:=h;simp only[RU,c,h5,show((5:Int) == 2)=false from rfl,show((5:Int) == 3)=false from rfl,show((5:Int) == 4)=false from rfl,show((5:Int) == 5)=true from rfl,decide_eq_true (show(a.key.length:Int)<=24 by omega),decide_eq_true (show(a.to_.length:Int)<=24 by omega),decide_eq_true k3,decide_eq_true k4];exact hf1
abbrev rowL(r:Bs×Bs):List Value:=[stv r.1,stv r.2]
def stF(b n:Nat):Value:=match n with
 | 0=>.nilFunc
 | n+1=>stg b (n+1)
structure PlAt (w : World) (D : Nat → Prop) (b : Nat) (p : Pn) (rv lv rr : Value) : Prop where
 st : w.heap[b]? = some (.cells (plC p (stF b p.stg) rv lv rr) 223)
 ob : D b
 rw : w.ownsRow 0 23 2 rv p.rows.length (p.rows.flatMap rowL)
 rd : ∀ y, rv.ownBlock = some y → D y
 le : CellsAt w lv p.left.length 3 (p.left.flatMap entL)
 ld : ∀ y, blockOf lv = some y → D y ∧ y ≠ b
 lt : ∀ y, blockOf lv = some y → ∃ cs fz, w.heap[y]? = some (.cells cs 221 fz)
 re : CellsAt w rr p.rep.rows.length 2 (p.rep.rows.flatMap rowL)
 red : ∀ y, blockOf rr = some y → D y ∧ y ≠ b
section
variable{D:Nat->Prop}{q:Pn}
theorem gp{v:Value}{n sz:Nat}{xs:List Value}(h:CellsAt w v n sz xs):v.oneCell'=true:=by obtain⟨a,n',c,rfl⟩:=aZ h;rfl
theorem PlAt.rb(h:PlAt w D b p rv lv rr):rv.ownBlock≠some b:=by
 intro e;rcases h.rw.2 with⟨hh,_⟩|⟨g,cap,cur,hh,_,hg,_⟩
 ·rw[hh] at e;cases e
 ·rw[hh] at e;have e2:g=b:=Option.some.inj e;rw[e2,h.st] at hg;cases hg
theorem blo{v:Value}{y:Nat}:∀{v:Value},(∃a n c,v=.slice a n c)->blockOf v=some y->v.ownBlock=some y:=by rintro _ ⟨a,n,c,rfl⟩ h;exact h
theorem PlAt.keep{S:Nat->Prop}(h:PlAt w D b p rv lv rr)(hf:Fm S w w')(hs:∀y,D y->¬S y):PlAt w' D b p rv lv rr:=⟨hf.heap h.st (hs _ h.ob),h.ob,ah h.rw hf (λy _ _ e=>hs _ (h.rd y e)),h.rd,h.le.keep hf (λy e=>hs _ (h.ld y e).1),h.ld,λy e=>(by obtain⟨cs,fz,g⟩:=h.lt y e;exact⟨cs,fz,hf.heap g (hs _ (h.ld y e).1)⟩),h.re.keep hf (λy e=>hs _ (h.red y e).1),h.red⟩
theorem PlAt.wide{D':Nat->Prop}(h:PlAt w D b p rv lv rr)(hD:∀y,D y->D' y):PlAt w D' b p rv lv rr:=⟨h.st,hD _ h.ob,h.rw,λy e=>hD _ (h.rd y e),h.le,λy e=>⟨hD _ (h.ld y e).1,(h.ld y e).2⟩,h.lt,h.re,λy e=>⟨hD _ (h.red y e).1,(h.red y e).2⟩⟩
theorem PlAt.to(h:PlAt w D b p rv lv rr)(hq:w'.heap[b]?=some (.cells (plC q (stF b q.stg) rv lv rr) 223))(hf:Fm (·=b) w w')(e1:q.rows=p.rows)(e2:q.left=p.left)(e3:q.rep.rows=p.rep.rows):PlAt w' D b q rv lv rr:=⟨hq,h.ob,by rw[e1];exact ah h.rw hf (λy _ _ e e'=>h.rb (e'▸e)),h.rd,by rw[e2];exact h.le.keep hf (λy e e'=>(h.ld y e).2 e'),h.ld,λy e=>(by obtain⟨cs,fz,g⟩:=h.lt y e;exact⟨cs,fz,hf.heap g (h.ld y e).2⟩),by rw[e3];exact h.re.keep hf (λy e e'=>(h.red y e).2 e'),h.red⟩
theorem PlAt.A6(h:PlAt w D b p rv lv rr){r:Rp}{v:Value}(hq:w'.heap[b]?=some (.cells (plC (M.fin p r) .nilFunc rv lv v) 223))(hf:Fm (·=b) w w')(hr:CellsAt w v r.rows.length 2 (r.rows.flatMap rowL))(hd:∀y,blockOf v=some y->D y/\y≠b):PlAt w' D b (M.fin p r) rv lv v:=⟨hq,h.ob,ah h.rw hf (λy _ _ e e'=>h.rb (e'▸e)),h.rd,h.le.keep hf (λy e e'=>(h.ld y e).2 e'),h.ld,λy e=>(by obtain⟨cs,fz,g⟩:=h.lt y e;exact⟨cs,fz,hf.heap g (h.ld y e).2⟩),hr.keep hf (λy e e'=>(hd y e).2 e'),hd⟩
theorem xQ:CellsAt w nl ([]:List (Bs×Bs)).length 2 (([]:List (Bs×Bs)).flatMap rowL):=CellsAt.aT (World.ownsRow_nil w 0 23 2)
theorem jC(h:PlAt w D b p rv lv rr)(r:Rp)(hr:r.rows=[]):Cl prog 219 [pv b,.agg #[iv r.err,.bool r.found,stv r.val,nl]] w λo w'=>PlAt w' D b (M.fin p r) rv lv nl/\Fm (·=b) w w':=by refine(kW h.st r rfl).mono ?_;rintro _ w2 ⟨h2,hf2⟩;exact⟨h.A6 h2 hf2 (by rw[hr];exact xQ) (λy e=>by cases e),hf2⟩
theorem fI(h:w.heap[b]?=some (.cells (plC p f rv lv rr) 223)):Cl prog 360 [pv b] w λo w'=>o=.agg (tuC (M.version p))/\Fm F0 w w':=by refine cU1 func360 ?_;refine ae ?_;rintro b1 w1 rfl hs1 hw1 hf1;have c:=λo=>ab (off:=o) (hf1.heap h id);simp only[RU,c];refine bst (tuC (M.version p)) ⟨rfl,?_⟩;have hd:=Fm.drew F0 w1;refine ao (hd.heap hw1 id) (λw2 hw2 hs2 hf2=>?_) rfl rfl rfl;simp only[RU,aa (n:=5) hw2 rfl];exact Fm.own (Fmf hf1 hd) hf2 (by rintro y rfl;exact Nat.le_refl _)
theorem mR(h:PlAt w D b p rv lv rr)(hq:M.write p=some q):Cl prog 361 [pv b] w λo w'=>(∃rr',PlAt w' D b q rv lv rr')/\Fm (·=b) w w':=by
 unfold M.write at hq;have c:=λo=>ab (off:=o) h.st;refine cU1 func361 ?_;by_cases h4:p.ask.call=4
 ·rw[h4] at hq;cases hq;simp only[RU,c,h4,beq_self_eq_true];refine bst #[iv 0,.bool p.hit,stv [],nl] ?_;exact(jC h { rp0 with found:=p.hit } rfl).mono λ_ _ ⟨h2,hf2⟩=>⟨⟨_,h2⟩,hf2⟩
 ·rw[decide_eq_false h4,cond_false] at hq;obtain⟨_,hv,hq⟩:=bind_some hq;cases hq;have hv:=ak hv;simp only[RU,c,aV,decide_eq_false h4];refine(fI h.st).mono ?_;rintro _ w2 ⟨rfl,hf2⟩;refine(iC hv).mono ?_;rintro _ w3 ⟨rfl,hf3⟩;have hf23:=Fmf hf2 hf3;simp only[RU];refine au (hf23.heap h.st (λe=>e)) (j:=10) (show 10<28 by decide) rfl λw4 hw4 hs4 hf4=>?_
  replace hw4:w4.heap[b]?=some (.cells (plC p .nilFunc rv lv rr) 223):=hw4
  refine bst #[iv 2,stv [],iv ((dM (M.version p)).length:Nat),iv 0] ?_;refine ck hw4 (o:=6) rfl (show 6+4<=28 by decide) (List.all_eq_true.1 (by rfl)) λw5 hw5 hs5 hf5=>?_;have hF:=(hf23.trans hf4 (λ_ _ e=>e.elim) (λ_ _ e=>e)).trans hf5 (λ_ _ e=>e) (λ_ _ e=>e);exact⟨⟨rr,h.to hw5 hF rfl rfl rfl⟩,hF⟩
theorem fR(h:PlAt w D b p rv lv rr)(hq:M.next p=some q):Cl prog 358 [pv b] w λo w'=>(∃rr',PlAt w' D b q rv lv rr')/\Fm (·=b) w w':=by
 unfold M.next at hq
 have c:=λo=>ab (off:=o) h.st;refine cU1 func358 ?_
 match hl:p.left,hq with
 | e::l,hq=>
  cases hq;have hle:=h.le;rw[hl] at hle;obtain⟨ad,k1,_,k2⟩:=hle.at (i:=0) (by decide) (by simp) .i64;have k3:w.cell? (ad.add 1)=some (iv e.page):=k2 1 (by decide)
  replace k1:ixV 3 lv (iv 0)=_:=k1
  simp only[RU,c,hle.lenV,show decide ((0:Int)<((e::l).length:Nat))=true from decide_eq_true (by simp),k1,k3];refine(jK (f':=stg b 408) h.st e.page 408 rfl).mono ?_;rintro _ w2 ⟨h2,hf2⟩;exact⟨⟨rr,h.to h2 hf2 rfl rfl rfl⟩,hf2⟩
 | [],hq=>
  have hle:=h.le;rw[hl] at hle;simp only[RU,c,hle.lenV,show decide ((0:Int)<(([]:List Ent).length:Nat))=false from rfl,show((0:Int) != 0)=false from rfl];refine(dB h.st).mono ?_;rintro _ w1 ⟨rfl,rfl⟩;cases hw:M.writes p.ask with
  | false=>rw[hw] at hq;cases hq;obtain⟨a,n,cc,hrv⟩:=aZ (CellsAt.aT h.rw);subst hrv;simp only[RU,c];refine bst #[iv 0,.bool false,stv [],.slice a n cc] ?_;refine(kW h.st { rp0 with rows:=p.rows } rfl).mono ?_;rintro _ w2 ⟨h2,hf2⟩;exact⟨⟨_,h.A6 h2 hf2 (CellsAt.aT h.rw) (λy e=>⟨h.rd y e,λe'=>h.rb (e'▸e)⟩)⟩,hf2⟩
  | true=>
   rw[hw] at hq
   replace hq:(bif p.hit then some (M.see p p.one.page 409) else M.write p)=some q:=hq
   cases hh:p.hit with
   | true=>rw[hh] at hq;cases hq;simp only[RU,c,hh];refine(jK (f':=stg b 409) h.st p.one.page 409 rfl).mono ?_;rintro _ w2 ⟨h2,hf2⟩;exact⟨⟨rr,h.to h2 hf2 rfl rfl rfl⟩,hf2⟩
   | false=>rw[hh] at hq;simp only[RU,c,hh];exact(mR h hq).mono λ_ _ h=>h
theorem iB{pg:Pg}(h:M.smP pg=true):Sm pg/\pg.items.length<=255:=by unfold M.smP at h;simp only[Bool.and_eq_true,decide_eq_true_eq,List.all_eq_true] at h;exact⟨λs hs=>by have:=h.2 s hs;omega,h.1⟩
variable{n0:Nat}{v u:Value}{pg:Pg}
theorem pH(h:PlAt w D b p rv lv rr)(hN:PgN w n0 v pg)(hs:Sm pg){l:List Ent}(ho:M.opened pg=some l){e:Ent}(he:entOk e=true)(h0:0<=p.seen/\p.seen<4000):Cl prog 300 [pv b,.agg (pcs pg v),iv 0,.agg (entC e)] w λo w'=>o=.bool true/\PlAt w' D b { p with seen:=p.seen+1 } rv lv rr/\Fm (·=b) w w':=by
 refine cU4 func300 ?_ (V []) (J [(9,[]),(5,[27])]);refine ae ?_;rintro b1 w1 rfl hs1 hw1 hf1;refine ae ?_;rintro b2 w2 rfl hs2 hw2 hf2;have hF:=Fmf hf1 hf2;simp only[RU,aa (n:=6) (hf2.heap hw1 id) rfl,aa (n:=3) hw2 rfl];refine(tA (hN.keep hF) hs ho he).mono ?_;rintro _ w3 ⟨rfl,hf3⟩;have hF3:=Fmf hF hf3;have h3:=h.keep hF3 iT;have c:=λo=>ab (off:=o) h3.st;simp only[RU,c,show IntKind.i64.wrap (p.seen+1)=p.seen+1 by rw[af]<;>omega];refine au h3.st (j:=16) (show 16<28 by decide) rfl λw4 hw4 hs4 hf4=>?_
 replace hw4:w4.heap[b]?=some (.cells (plC { p with seen:=p.seen+1 } (stF b p.stg) rv lv rr) 223):=hw4
 simp only[RU,jn1,show((0:Int) != 0)=false from rfl];exact⟨h3.to hw4 hf4 rfl rfl rfl,hF3.trans hf4 iE iT⟩
theorem fq{e:TypeId}{base n sz:Nat}{xs:List Value}{v:Value}(ho:w.ownsRow base e sz v n xs){y:Nat}(h:blockOf v=some y):base<=y:=by
 rcases ho.2 with⟨rfl,_⟩|⟨g,c,cur,rfl,hb,_⟩
 ·cases h
 ·cases h;exact hb
theorem sU{e:TypeId}{base n sz:Nat}{xs:List Value}{v:Value}(ho:w.ownsRow base e sz v n xs){y:Nat}(h:blockOf v=some y):∃cs fz,w.heap[y]?=some (.cells cs e fz):=by
 rcases ho.2 with⟨rfl,_⟩|⟨g,c,cur,rfl,hb,hg,_⟩
 ·cases h
 ·cases h;exact⟨_,_,hg⟩
def PlX(w:World)(D:Nat->Prop)(n b:Nat)(p:Pn):Prop:=∃D' rv lv rr,PlAt w D' b p rv lv rr/\∀y,D' y->D y\/(n<=y/\y<w.heap.size)
theorem qM{Vv:M.Vw}{a r su:Value}(h:PlAt w D b p rv lv rr)(hD:∀y,D y->y<w.heap.size)(hN:PgN w n0 v pg)(hs:Sm pg){L:List Ent}(hh:M.hits pg p.ask.key (bif decide (p.ask.call=5) then p.ask.to_ else p.ask.key++[0])=some L)(hk:p.ask.key.length<=24)(hq:M.next { p with left:=L }=some q):Cl prog 301 [pv b,.agg (vwC Vv a r su),.agg (pcs pg v),nl] w λo w'=>o=.tuple #[rcV M.rec0,.bool false]/\PlX w' D w.heap.size b q/\Fm (·=b) w w':=by
 refine cU4 func301 ?_ (V []) (J [(4,[10]),(11,[])]);refine ae ?_;rintro b1 w1 rfl hs1 hw1 hf1;refine ae ?_;rintro b2 w2 rfl hs2 hw2 hf2;refine ae ?_;rintro b3 w3 rfl hs3 hw3 hf3;have hF3:=Fmf (Fmf hf1 hf2) hf3;have h3:=h.keep hF3 (λ_ _ e=>e);have c:=λo=>ab (off:=o) h3.st;have hw2:=hf3.heap hw2 (λe=>e);obtain⟨T,hT⟩:∃T,T=(bif decide (p.ask.call=5) then p.ask.to_ else p.ask.key++[0]):=⟨_,rfl⟩;rw[<- hT] at hh;simp only[RU,c];refine aJ (λvs w'=>vs=[stv T]/\w3=w') ?_ ?_
 ·rintro _ _ ⟨rfl,rfl⟩;have hd:=Fm.drew F0 w3;have hFd:=Fmf hF3 hd;simp only[RU,c,aa (n:=6) (hd.heap hw2 (λe=>e)) rfl];refine(xn (hN.keep hFd) hs hh).mono ?_;rintro _ w4 ⟨vo,rfl,ho4,hf4⟩;have hF4:=Fmf hFd hf4;have h4:=h.keep hF4 (λ_ _ e=>e);simp only[RU,show((0:Int) != 0)=false from rfl];have hlb:b<w.heap.size:=aj h.st;have hzd:=hFd.size;refine au h4.st (j:=17) (show 17<28 by decide) (aB ho4) λw5 hw5 hs5 hf5=>?_;refine au hw5 (j:=18) (show 18<28 by decide) rfl λw6 hw6 hs6 hf6=>?_
  replace hw6:w6.heap[b]?=some (.cells (plC { p with left:=L } (stF b p.stg) rv vo rr) 223):=hw6
  have hf56:=hf5.trans hf6 (λ_ _ e=>e) (λ_ _ e=>e);have hvo:∀y,blockOf vo=some y->w.heap.size<=y:=λy e=>by have:=fq ho4 e;omega
  have h6:PlAt w6 (λy=>D y\/blockOf vo=some y) b { p with left:=L } rv vo rr:=by have h4':=h4.wide (D':=λy=>D y\/blockOf vo=some y) (λy e=>.inl e);exact⟨hw6,.inl h.ob,ah h4.rw hf56 (λy _ _ e e'=>h4.rb (e'▸e)),h4'.rd,(CellsAt.aT ho4).keep hf56 (λy e e'=>by have:=hvo y e;omega),λy e=>⟨.inr e,λe'=>by have:=hvo y e;omega⟩,λy e=>(by obtain⟨cs,fz,g⟩:=sU ho4 e;exact⟨cs,fz,hf56.heap g (by have:=hvo y e;omega)⟩),h4.re.keep hf56 (λy e e'=>(h4.red y e).2 e'),h4'.red⟩
  simp only[RU,jn1];refine(fR h6 hq).mono ?_;rintro _ w7 ⟨⟨rr',h7⟩,hf7⟩;have hF7:=((hF4.trans hf56 (λ_ _ e=>e.elim) (λ_ _ e=>e)).trans hf7 (λ_ _ e=>e) (λ_ _ e=>e));refine bst (rcs M.rec0 nl nl nl nl nl) ?_;have hl3:=aj hw3;have hne:w2.heap.size≠b:=by have:=(Fmf hf1 hf2).size;omega
  refine ao (hf7.heap (hf56.heap ((Fmf hd hf4).heap hw3 (λe=>e)) hne) hne) (λw8 hw8 hs8 hf8=>?_) rfl rfl rfl;simp only[RU,aa (n:=16) hw8 rfl];have hz2:=(Fmf hf1 hf2).size;refine⟨⟨_,rv,vo,rr',h7.keep hf8 ?_,?_⟩,hF7.trans hf8 (λ_ _ e=>e) (λy hy e=>by omega)⟩
  ·rintro y (hy|hy) rfl
   ·have:=hD _ hy;omega
   ·have:=fq ho4 hy;have:=hd.size;omega
  ·rintro y (hy|hy)
   ·exact .inl hy
   ·refine .inr ⟨hvo y hy,?_⟩;obtain⟨cs,fz,g⟩:=sU ho4 hy;have:=aj g;have:=hf56.size;have:=hf7.size;omega
 ·intro kk hk;by_cases h5:p.ask.call=5
  ·rw[decide_eq_true h5,cond_true] at hT;simp only[RU,c,h5,show((5:Int) != 5)=false from rfl];exact hk _ _ ⟨by rw[hT],rfl⟩
  ·rw[decide_eq_false h5,cond_false] at hT;simp only[RU,c,show(p.ask.call != 5)=true by simp[h5]];show Pu (ax TypeDesc.string BinOp.add (stv p.ask.key) (stv [0])) λv=>kk [v] w3;simp only[RU,mI (a:=p.ask.key) (b:=[0]) (by simp;omega)];exact hk _ _ ⟨by rw[hT],rfl⟩
end
end
section
variable{w w':World}{b n0:Nat}{p q:Pn}{f f' rv lv rr v:Value}{D:Nat->Prop}{pg:Pg}{Vv:M.Vw}{a r su:Value}
theorem Ao{k:Bs}(h:k.length<=24):entOk ⟨bif decide (k=[]) then[0] else k,0,0⟩=true:=by
 unfold entOk;rw[decide_eq_true_eq];by_cases e:k=[]
 ·subst e;simp
 ·rw[decide_eq_false e];have:0<k.length:=by cases k with|nil=>exact absurd rfl e|cons=>simp
  simp only[cond_false];omega
theorem PlX.of{n m:Nat}(h:PlX w D n b p)(hn:m<=n):PlX w D m b p:=by obtain⟨D',rv,lv,rr,h1,h2⟩:=h;exact⟨D',rv,lv,rr,h1,λy e=>(h2 y e).imp id (λe=>⟨Nat.le_trans hn e.1,e.2⟩)⟩
theorem oH(h:PlAt w D b p rv lv rr)(hD:∀y,D y->y<w.heap.size)(hn:b<n0)(hN:PgN w n0 v pg)(hs:Sm pg)(hq:M.descend p pg=some q)(x:Value):Cl prog 216 [pv b,.agg (vwC Vv a r su),.agg (pcs pg v),x] w λo w'=>o=.tuple #[rcV M.rec0,.bool false]/\PlX w' D w.heap.size b q/\Fm (·=b) w w':=by
 unfold M.descend at hq;obtain⟨_,hg,hq⟩:=bind_some hq;obtain⟨l,ho,hq⟩:=bind_some hq;obtain⟨L,hh,hq⟩:=bind_some hq;have hg:=ak hg;simp only[Bool.and_eq_true,decide_eq_true_eq] at hg;obtain⟨hk,h0⟩:=hg;refine cU4 func216 ?_ (V []) (J [(4,[10]),(6,[])]);refine ae ?_;rintro b1 w1 rfl hs1 hw1 hf1;refine ae ?_;rintro b2 w2 rfl hs2 hw2 hf2;refine ae ?_;rintro b3 w3 rfl hs3 hw3 hf3;have hz2:=(Fmf hf1 hf2).size;have hF3:=Fmf (Fmf hf1 hf2) hf3;have h3:=h.keep hF3 iT;have hlb:=aj h.st;have c:=λo=>ab (off:=o) h3.st;have hw2:=hf3.heap hw2 id;have hw1:=(Fmf hf2 hf3).heap hw1 id;simp only[RU,c];refine aJ (λvs w'=>vs=[stv (bif decide (p.ask.key=[]) then[0] else p.ask.key)]/\w3=w') ?_ ?_
 ·rintro _ _ ⟨rfl,rfl⟩;simp only[RU,jn1,aa (n:=6) hw2 rfl];refine bst (entC ⟨bif decide (p.ask.key=[]) then[0] else p.ask.key,0,0⟩) ?_;refine(pH h3 (hN.keep hF3) hs ho (Ao hk) h0).mono ?_;rintro _ w4 ⟨rfl,h4,hf4⟩;have ne1:w.heap.size≠b:=by omega
  have ne2:w1.heap.size≠b:=by omega
  have ne3:w2.heap.size≠b:=by omega
  have hF4:Fm (·=b) w w4:=hF3.trans hf4 iE iT;simp only[RU,aa (n:=11) (hf4.heap hw1 ne1) rfl,aa (n:=6) (hf4.heap hw2 ne2) rfl];refine(qM h4 (λy hy=>Nat.lt_of_lt_of_le (hD y hy) hF4.size) ((hN.keep hF3).dO hf4 (by rintro y rfl;exact hn)) hs hh hk hq).mono ?_;rintro _ w5 ⟨rfl,hX,hf5⟩;refine bst (rcs M.rec0 nl nl nl nl nl) ?_;refine ao (hf5.heap (hf4.heap hw3 ne3) ne3) (λw8 hw8 hs8 hf8=>?_) rfl rfl rfl;simp only[RU,aa (n:=16) hw8 rfl];obtain⟨D',rv',lv',rr',h5,hD'⟩:=hX;refine⟨⟨D',rv',lv',rr',h5.keep hf8 ?_,λy e=>(hD' y e).imp id (λe=>⟨Nat.le_trans hF4.size e.1,Nat.lt_of_lt_of_le e.2 hf8.size⟩)⟩,(hF4.trans hf5 iT iT).trans hf8 iT (λy hy e=>by omega)⟩;rintro y hy rfl;rcases hD' _ hy with e|e
  ·have:=hD _ e;omega
  ·have:=hf4.size;omega
 ·intro kk hkk;by_cases e:p.ask.key=[]
  ·rw[decide_eq_true e,cond_true] at hkk;simp only[RU,decide_eq_true e];exact hkk _ _ ⟨rfl,rfl⟩
  ·rw[decide_eq_false e,cond_false] at hkk;simp only[RU,decide_eq_false e];exact hkk _ _ ⟨rfl,rfl⟩
theorem pK{w8:World}{n b3:Nat}{cs:Array Value}(hX:PlX w8 D n b q)(hb:w8.heap[b3]?=some (.cells cs 168))(hn:b3<n)(h0:w.heap.size<=b3)(hD:∀y,D y->y<w.heap.size)(hF:Fm D w w8)(hc:cs.size=16:=by rfl):RunS prog (Instr.build 168 #[]) w8 λv w2=>St 16 w2 (.pointer (some ⟨b3,0,none⟩)) v λ_ w3=>Pu (aM w3 ⟨b3,0,none⟩ 16) λu=>Value.tuple #[u,.bool false]=.tuple #[rcV M.rec0,.bool false]/\PlX w3 D w.heap.size b q/\Fm D w w3:=by
 refine bst (rcs M.rec0 nl nl nl nl nl) ?_;refine ao hb (λw9 hw9 hs9 hf9=>?_) rfl hc rfl;simp only[RU,aa (n:=16) hw9 rfl];obtain⟨D',rv',lv',rr',h5,hD'⟩:=hX;refine⟨⟨D',rv',lv',rr',h5.keep hf9 ?_,λy e=>(hD' y e).imp id (λh=>⟨by omega,Nat.lt_of_lt_of_le h.2 hf9.size⟩)⟩,hF.trans hf9 iT (λy hy e=>by omega)⟩;rintro y hy rfl;rcases hD' _ hy with e|e
 ·have:=hD _ e;omega
 ·omega
theorem VwN.o6{S:Nat->Prop}(h:VwN w n0 Vv a r su)(hf:Fm S w w')(hS:∀y,S y->y=b)(ha:blockOf a≠some b/\blockOf r≠some b/\(Vv.st.items≠[]->blockOf su≠some b)):VwN w' n0 Vv a r su:=⟨h.a.j5 hf (λy e e'=>ha.1 (hS y e'▸e)),h.r.j5 hf (λy e e'=>ha.2.1 (hS y e'▸e)),h.u.o6 (hf.mono (λy _ e=>hS y e)) ha.2.2,h.mo,h.it⟩
theorem E27:ElemT prog 27 23 2 32:=bJ underlying27 (by kernel_rfl)
theorem oX(h:PlAt w D b p rv lv rr)(hD:∀y,D y->y<w.heap.size)(hn:b<n0)(hN:PgN w n0 v pg)(hs:Sm pg){n1:Nat}(hV:VwN w n1 Vv a r su)(hab:∀y,D y->blockOf a≠some y/\blockOf r≠some y/\(Vv.st.items≠[]->blockOf su≠some y))(hq:M.inspect Vv p pg=some q)(x:Value):Cl prog 408 [pv b,.agg (vwC Vv a r su),.agg (pcs pg v),x] w λo w'=>o=.tuple #[rcV M.rec0,.bool false]/\PlX w' D w.heap.size b q/\Fm D w w':=by
 unfold M.inspect at hq
 match hl:p.left,hq with
 | e::l,hq=>
 obtain⟨_,hg,hq⟩:=bind_some hq;obtain⟨s,hi,hq⟩:=bind_some hq;obtain⟨t,ht,hq⟩:=bind_some hq;have hg:=ak hg;simp only[Bool.and_eq_true,decide_eq_true_eq] at hg;obtain⟨hk,hrl⟩:=hg;obtain⟨j,hj1,hj2,_⟩:=cM hi;have hsl:=hs s (List.mem_of_getElem? hj2);have hkey:∀t',t=some t'->t'.key=e.key:=by rintro t' rfl;simp only at hq;obtain⟨_,hg,_⟩:=bind_some hq;exact of_decide_eq_true (ak hg)
 refine cU4 func408 ?_ (V []) (J [(18,[])]);refine ae ?_;rintro b1 w1 rfl hs1 hw1 hf1;refine ae ?_;rintro b2 w2 rfl hs2 hw2 hf2;refine ae ?_;rintro b3 w3 rfl hs3 hw3 hf3;have hF3:=Fmf (Fmf hf1 hf2) hf3;have h3:=h.keep hF3 iT;have hlb:=aj h.st;have hle:=h3.le;rw[hl] at hle;have c:=λo=>ab (off:=o) h3.st;obtain⟨ad,k1,_,k2⟩:=hle.at (i:=0) (by decide) (by simp) .i64
 replace k1:ixV 3 lv (iv 0)=_:=k1
 have k3:aM w3 ad 3=some (.agg (entC e)):=aN (l:=entL e) rfl λj hj=>by rw[k2 j hj,Nat.zero_mul,Nat.zero_add,List.flatMap_cons,List.getElem?_append_left (by simpa using hj)]
 simp only[RU,c,k1,k3];refine aE (us:=entC e) (λw4 hs4 hw4 hf4=>?_) rfl rfl rfl;have h4:=h3.keep hf4 iT;have c:=λo=>ab (off:=o) h4.st;obtain⟨lv',k4,k5,k6⟩:=(hle.keep hf4 iT).lo (i:=1) (by simp) .i64
 replace k4:slV 3 lv (some (iv 1)) none none=some lv':=k4
 replace k5:CellsAt w4 lv' l.length 3 (l.flatMap entL):=k5
 simp only[RU,c,k4];refine au h4.st (j:=17) (show 17<28 by decide) (gp k5) λw5 hw5 hs5 hf5=>?_
 replace hw5:w5.heap[b]?=some (.cells (plC { p with left:=l } (stF b p.stg) rv lv' rr) 223):=hw5
 have h5:PlAt w5 D b { p with left:=l } rv lv' rr:=⟨hw5,h.ob,ah h4.rw hf5 (λy _ _ e e'=>h4.rb (e'▸e)),h4.rd,k5.keep hf5 (λy e e'=>(h4.ld y (k6 y e)).2 e'),λy e=>h4.ld y (k6 y e),λy e=>(by obtain⟨cs,fz,g⟩:=h4.lt y (k6 y e);exact⟨cs,fz,hf5.heap g (h4.ld y (k6 y e)).2⟩),h4.re.keep hf5 (λy e e'=>(h4.red y e).2 e'),h4.red⟩;have z2:=(Fmf hf1 hf2).size;have z3:=hF3.size;have z4:=hf4.size;have hf14:=Fmf (Fmf hf2 hf3) hf4;have hf24:=Fmf hf3 hf4;have hw1:=hf5.heap (hf14.heap hw1 id) (by omega);have hw2:=hf5.heap (hf24.heap hw2 id) (by omega);have hw3:=hf5.heap (hf4.heap hw3 id) (by omega);have hw4:=hf5.heap hw4 (by omega);have hF4:=Fmf hF3 hf4;have hF5:Fm (·=b) w w5:=hF4.trans hf5 iE iT;have c4:=λo=>ab (off:=o) hw4;simp only[RU,aa (n:=6) hw2 rfl,c4];refine(ue ((hN.keep hF4).dO hf5 (by rintro y rfl;exact hn)) hk hi hsl ht hkey).mono ?_;rintro _ w6 ⟨rfl,hf6⟩;simp only[RU];refine aE (us:=tuC (t.getD tu0)) (λw7 hs7 hw7 hf7=>?_) rfl rfl rfl;have hf67:=Fmf hf6 hf7;have h7:=h5.keep hf67 iT;have hw1:=hf67.heap hw1 id;have hw3:=hf67.heap hw3 id;have hw4:=hf67.heap hw4 id;have hF7:Fm (·=b) w w7:=hF5.trans hf67 iT iE;have hz67:=hf67.size;have bD:∀{w1 w2:World},Fm (·=b) w1 w2->Fm D w1 w2:=λhf=>hf.mono (λy _ e=>by rw[e];exact h.ob);have hD7:∀{w8:World},Fm (·=b) w7 w8->Fm D w w8:=λhf=>(bD hF7).trans hf iT (λy _ e=>by rw[e];exact h.ob);have n3:w2.heap.size≠b:=by omega
 have l3:w2.heap.size<w7.heap.size:=by have:=aj hw3;omega
 cases t with
 | none=>simp only[RU,jn1];refine(fR h7 hq).mono ?_;rintro _ w8 ⟨⟨rr',h8⟩,hf8⟩;exact pK ⟨_,_,_,_,h8,λy e=>.inl e⟩ (hf8.heap hw3 n3) l3 z2 hD (hD7 hf8)
 | some t=>
  simp only at hq;obtain⟨_,_,hq⟩:=bind_some hq;obtain⟨sn,hsn,hq⟩:=bind_some hq;obtain⟨nw,hnw,hq⟩:=bind_some hq;have hV7:=hV.o6 hF7 (λ_ e=>e) (hab b h.ob);simp only[RU,aa (n:=11) hw1 rfl,aa (n:=5) hw7 rfl,Option.getD_some,Option.isSome_some];refine(qe hV7 hsn).mono ?_;rintro _ w8 ⟨rfl,hf8⟩;have h8:=h7.keep hf8 iT;have c8:=λo=>ab (off:=o) h8.st;have hw1:=hf8.heap hw1 id;have hw3:=hf8.heap hw3 id;have hw4:=hf8.heap hw4 id;have hw7:=hf8.heap hw7 id;have ht8:=λo=>ab (off:=o) hw7;have hz8:=hf8.size;have hV8:=hV7.keep hf8;have lb7:w6.heap.size≠b:=by have:=hF5.size;have:=hf6.size;omega
  have lb4:w3.heap.size≠b:=by omega
  have hF8:Fm (·=b) w w8:=hF7.trans hf8 iT iE;have hD8:∀{w9:World},Fm (·=b) w8 w9->Fm D w w9:=λhf=>(bD hF8).trans hf iT (λy _ e=>by rw[e];exact h.ob);simp only[RU,jn1];have nextE:∀{w9:World} {p2:Pn} {rv2 lv2 rr2:Value} {q2:Pn},PlAt w9 D b p2 rv2 lv2 rr2->M.next p2=some q->Fm (·=b) w8 w9->Cl prog 358 [pv b] w9 λv w_2=>RunS prog (Instr.build 168 #[]) w_2 λv w_3=>St 16 w_3 (.pointer (some ⟨w2.heap.size,0,none⟩)) v λv w_4=>Pu (aM w_4 ⟨w2.heap.size,0,none⟩ 16) λu=>Value.tuple #[u,.bool false]=.tuple #[rcV M.rec0,.bool false]/\PlX w_4 D w.heap.size b q/\Fm D w w_4:=by intro w9 p2 rv2 lv2 rr2 q2 h9 hq hf9;refine(fR h9 hq).mono ?_;rintro _ w10 ⟨⟨rr',h10⟩,hf10⟩;exact pK (n:=w7.heap.size) ⟨_,_,_,_,h10,λy e=>.inl e⟩ (hf10.heap (hf9.heap hw3 n3) n3) l3 z2 hD (hD8 (hf9.trans hf10 iT iT))
  refine(dB h8.st).mono ?_;rintro _ w9 ⟨rfl,rfl⟩;cases hw:M.writes p.ask with
  | true=>
   rw[hw] at hnw hq;simp only[RU,hw,aa (n:=11) hw1 rfl,aa (n:=5) hw7 rfl];refine(uq hV8 hnw).mono ?_;rintro _ w9 ⟨rfl,hf9⟩;have h9:=h8.keep hf9 iT;have hf9b:=hf9.mono (T:=(·=b)) iE;cases nw with
   | true=>cases hq;simp only[RU];refine bst #[iv 180,.bool false,stv [],nl] ?_;refine(jC h9 { rp0 with err:=180 } rfl).mono ?_;rintro _ w10 ⟨h10,hf10⟩;exact pK (n:=w7.heap.size) ⟨_,_,_,_,h10,λy e=>.inl e⟩ (hf10.heap (hf9.heap hw3 id) n3) l3 z2 hD (hD8 (hf9b.trans hf10 iT iT))
   | false=>
    cases sn with
    | false=>simp only[RU];exact nextE (q2:=q) h9 hq hf9b
    | true=>
     simp only[RU];refine(dB h9.st).mono ?_;rintro _ w10 ⟨rfl,rfl⟩;simp only[RU,hw];have hdr:=Fm.drew F0 w10;refine⟨λw'=>Fm (·=b) w10 w',Fm.drew _ _,?_⟩;refine⟨.agg (entC e),λw' hw'=>?_,?_⟩
     ·simp only[RU,aa (n:=3) (hw'.heap (hf9.heap hw4 id) lb4) rfl,and_self]
     have h9d:=h9.keep hdr iT;refine au h9d.st (j:=19) (show 19<28 by decide) rfl λw11 hw10 hs10 hf10=>?_;have hf10:=(Fm.drew (·=b) w10).trans hf10 iT iT;refine⟨hf10,?_⟩;refine ck hw10 (o:=20) rfl (show 20+3<=28 by decide) (List.all_eq_true.1 (by rfl)) λw12 hw11 hs11 hf11=>?_;have hf11:=hf10.trans hf11 iT iT;exact nextE (q2:=q) (h9.to (q:={ p with left:=l,hit:=true,one:=e }) hw11 hf11 rfl rfl rfl) hq (hf9b.trans hf11 iT iT)
  | false=>
   rw[hw] at hnw hq;cases hnw;simp only[RU,hw];cases sn with
   | false=>simp only[RU];exact nextE (q2:=q) h8 hq (Fm.refl _ _)
   | true=>
    simp only[RU];refine(dB h8.st).mono ?_;rintro _ w10 ⟨rfl,rfl⟩
    replace hq:(M.gd (decide (p.ask.call=5)&&p.rep.rows.isEmpty) >>= λ_=>bif decide (((p.rows++[(t.key,t.val)]).length:Int)=p.ask.n) then some (M.fin { p with left:=l,rows:=p.rows++[(t.key,t.val)] } { rp0 with rows:=p.rows++[(t.key,t.val)] }) else M.next { p with left:=l,rows:=p.rows++[(t.key,t.val)] })=some q:=hq
    obtain⟨_,hg5,hq⟩:=bind_some hq;have hg5:=ak hg5;rw[Bool.and_eq_true,decide_eq_true_eq] at hg5;obtain⟨h5',hre⟩:=hg5;have hre:p.rep.rows=[]:=List.isEmpty_iff.1 hre;simp only[RU,hw,c8,h5',show((5:Int) == 2)=false from rfl,ht8];have hdr:=Fm.drew F0 w10;refine⟨λw'=>Fm F0 w10 w',hdr,?_⟩;refine rdP (u:=rv) (λw' hw'=>by rw[ab (hw'.heap h8.st id)];rfl) ?_;refine bst #[stv t.key,stv t.val] ⟨rfl,?_⟩;have hfA:=Fmf hdr (Fm.alloc F0 w10.drew (.cells #[stv t.key,stv t.val] 23));have hnA:=aA w10.drew (.cells #[stv t.key,stv t.val] 23);refine bsl 1 #[stv t.key,stv t.val] 23 ?_;refine⟨hfA,?_⟩;have h9:=h8.keep hfA iT;obtain⟨v',w11,hr11,ho11,hcase⟩:=cC (P:=prog) E27 (by decide) h9.rw 27 ⟨w10.drew.heap.size,0,none⟩ 1 1 (by decide) [stv t.key,stv t.val] rfl (λj u hj=>by rw[aC,ab hnA,Nat.zero_add,List.getElem?_toArray];exact hj) (by intro u hu;simp at hu;rcases hu with rfl|rfl<;>rfl) (by unfold maxLen;simp only;omega) (by simp only;omega) (Nat.zero_le _);refine ag hr11 ?_;have hfg:Fm (λy=>rv.ownBlock=some y) w10 w11:=by
     rcases hcase with⟨g',e1,_,hf⟩|⟨g',_,_,hf⟩
     ·exact hfA.trans hf iE (λy _ e=>by rw[e];exact e1)
     ·exact(Fmf hfA hf).mono iE
    have rvt:∀y,rv.ownBlock=some y->∃cs fz,w10.heap[y]?=some (.cells cs 23 fz):=λy e=>by obtain⟨a1,n1,c1,e1⟩:=aZ (CellsAt.aT h8.rw);exact sU h8.rw (by rw[e1] at e ⊢;exact e)
    have n1:∀y,blockOf lv'=some y->rv.ownBlock≠some y:=λy e e'=>by obtain⟨cs,fz,g1⟩:=h8.lt y e;obtain⟨cs',fz',g2⟩:=rvt y e';rw[g1] at g2;cases g2
    have hb11:=hfg.heap h8.st h8.rb;refine au hb11 (j:=15) (show 15<28 by decide) (aB ho11) λw12 hw12 hs12 hf12=>?_
    replace hw12:w12.heap[b]?=some (.cells (plC { p with left:=l,rows:=p.rows++[(t.key,t.val)] } (stF b p.stg) v' lv' rr) 223):=hw12
    have hvb:∀y,v'.ownBlock=some y->y≠b:=λy e e'=>by obtain⟨a1,m1,c1,e1⟩:=aZ (CellsAt.aT ho11);obtain⟨cs,fz,g1⟩:=sU ho11 (y:=y) (by rw[e1] at e ⊢;exact e);rw[e',hb11] at g1;cases g1
    have hvD:∀y,v'.ownBlock=some y->D y\/w7.heap.size<=y:=λy e=>by
     rcases hcase with⟨g',e1,e2,_⟩|⟨g',e2,hz,_⟩
     ·rw[e2] at e;cases e;exact .inl (h8.rd _ e1)
     ·rw[e2] at e;cases e;have:=hfA.size;exact .inr (by omega)
    have h12:PlAt w12 (λy=>D y\/v'.ownBlock=some y) b { p with left:=l,rows:=p.rows++[(t.key,t.val)] } v' lv' rr:=
     ⟨hw12,.inl h.ob,by
      have:=ah ho11 hf12 (λy _ _ e e'=>hvb y e e');show w12.ownsRow 0 23 2 v' (p.rows++[(t.key,t.val)]).length ((p.rows++[(t.key,t.val)]).flatMap rowL);rw[List.length_append,List.flatMap_append];exact this,λy e=>.inr e,(h8.le.keep hfg n1).keep hf12 (λy e e'=>(h8.ld y e).2 e'),λy e=>⟨.inl (h8.ld y e).1,(h8.ld y e).2⟩,λy e=>(by
      obtain⟨cs,fz,g1⟩:=h8.lt y e;exact⟨cs,fz,hf12.heap (hfg.heap g1 (n1 y e)) (h8.ld y e).2⟩),(h8.re.gE hfg (by simp only[hre];intro e;exact absurd rfl e)).keep hf12 (λy e e'=>(h8.red y e).2 e'),λy e=>⟨.inl (h8.red y e).1,(h8.red y e).2⟩⟩
    have hf8c:Fm D w10 w12:=hfg.trans hf12 (λy _ e=>h8.rd y e) (λy _ e=>by rw[e];exact h.ob);have hFD:Fm D w w12:=(bD hF8).trans hf8c iT iT;have w3':w12.heap[w2.heap.size]?=_:=hf8c.heap hw3 (λe=>by have:=hD _ e;omega);have c12:=λo=>ab (off:=o) hw12;have hlv:lenV v'=some (iv ((p.rows.length+1:Nat):Int)):=(CellsAt.aT ho11).lenV;simp only[RU,c12,hlv];rw[List.length_append] at hq
    replace hq:(bif decide (((p.rows.length+1:Nat):Int)=p.ask.n) then some (M.fin { p with left:=l,rows:=p.rows++[(t.key,t.val)] } { rp0 with rows:=p.rows++[(t.key,t.val)] }) else M.next { p with left:=l,rows:=p.rows++[(t.key,t.val)] })=some q:=hq
    have h13:=h12.keep (Fm.drew F0 w12) iT;have hFd:=hFD.trans (Fm.drew F0 w12) iT iE;by_cases hlen:((p.rows.length+1:Nat):Int)=p.ask.n
    ·rw[decide_eq_true hlen] at hq;cases hq;obtain⟨a1,m1,c1,e1⟩:=aZ (CellsAt.aT ho11);subst e1;simp only[RU,aV,decide_eq_true hlen];refine bst #[iv 0,.bool false,stv [],.slice a1 m1 c1] ?_;refine(kW h13.st { rp0 with rows:=p.rows++[(t.key,t.val)] } rfl).mono ?_;rintro _ w14 ⟨h14,hf14⟩;exact pK (n:=w7.heap.size) ⟨_,_,_,_,h13.A6 h14 hf14 (CellsAt.aT h13.rw) (λy e=>⟨.inr e,hvb y e⟩),λy e=>e.elim .inl (λe=>(hvD y e).imp id (λe'=>⟨e',Nat.lt_of_lt_of_le (aO h13.rw y e).2 hf14.size⟩))⟩ (hf14.heap ((Fm.drew F0 w12).heap w3' id) n3) l3 z2 hD (hFd.trans hf14 iT (λy _ e=>by rw[e];exact h.ob))
    ·rw[decide_eq_false hlen] at hq;simp only[RU,aV,decide_eq_false hlen];refine(fR h13 hq).mono ?_;rintro _ w14 ⟨⟨rr',h14⟩,hf14⟩;exact pK (n:=w7.heap.size) ⟨_,_,_,_,h14,λy e=>e.elim .inl (λe=>(hvD y e).imp id (λe'=>⟨e',Nat.lt_of_lt_of_le (aO h13.rw y e).2 hf14.size⟩))⟩ (hf14.heap ((Fm.drew F0 w12).heap w3' id) n3) l3 z2 hD (hFd.trans hf14 iT (λy _ e=>by rw[e];exact h.ob))
theorem yr{w8:World}{n b3 rb:Nat}{cs:Array Value}{rc:Rc}(hX:PlX w8 D n b q)(hb:w8.heap[b3]?=some (.cells cs 168))(hr:w8.heap[rb]?=some (.cells (rcs rc nl nl nl nl nl) 168))(hn:b3<n)(h0:w.heap.size<=b3)(hD:∀y,D y->y<w.heap.size)(hF:Fm D w w8)(hc:cs.size=16:=by rfl):Pu (aM w8 ⟨rb,0,none⟩ 16) λv=>St 16 w8 (.pointer (some ⟨b3,0,none⟩)) v λ_ w3=>Pu (aM w3 ⟨b3,0,none⟩ 16) λu=>Value.tuple #[u,.bool true]=.tuple #[rcV rc,.bool true]/\PlX w3 D w.heap.size b q/\Fm D w w3:=by
 simp only[RU,aa (n:=16) hr rfl];refine ao hb (λw9 hw9 hs9 hf9=>?_) rfl hc rfl;simp only[RU,aa (n:=16) hw9 rfl];obtain⟨D',rv',lv',rr',h5,hD'⟩:=hX;refine⟨⟨D',rv',lv',rr',h5.keep hf9 ?_,λy e=>(hD' y e).imp id (λh=>⟨by omega,Nat.lt_of_lt_of_le h.2 hf9.size⟩)⟩,hF.trans hf9 iT (λy hy e=>by omega)⟩;rintro y hy rfl;rcases hD' _ hy with e|e
 ·have:=hD _ e;omega
 ·omega
theorem qH(h:PlAt w D b p rv lv rr)(hD:∀y,D y->y<w.heap.size)(hn:b<n0)(hN:PgN w n0 v pg)(hs:Sm pg){rc:Rc}(hq:M.finish p pg=some (q,rc))(x:Value):Cl prog 409 [pv b,.agg (vwC Vv a r su),.agg (pcs pg v),x] w λo w'=>o=.tuple #[rcV rc,.bool true]/\PlX w' D w.heap.size b q/\Fm D w w':=by
 unfold M.finish at hq;obtain⟨_,hk,hq⟩:=bind_some hq;obtain⟨s,hi,hq⟩:=bind_some hq;obtain⟨t,ht,hq⟩:=bind_some hq;obtain⟨_,hg,hq⟩:=bind_some hq;obtain⟨pq,hpq,hq⟩:=bind_some hq;obtain⟨q',hw',hq⟩:=bind_some hq;have hk:=of_decide_eq_true (ak hk);have hg:=ak hg;simp only[Bool.and_eq_true,Bool.not_eq_true',decide_eq_true_eq,decide_eq_false_iff_not] at hg;obtain⟨⟨h1,hne⟩,htu⟩:=hg;cases hq;obtain⟨j,hj1,hj2,_⟩:=cM hi;have hsl:=hs s (List.mem_of_getElem? hj2);refine cU4 func409 ?_ (V []) (J [(2,[10,11])]);refine ae ?_;rintro b1 w1 rfl hs1 hw1 hf1;refine ae ?_;rintro b2 w2 rfl hs2 hw2 hf2;refine ae ?_;rintro b3 w3 rfl hs3 hw3 hf3;have hF3:=Fmf (Fmf hf1 hf2) hf3;have h3:=h.keep hF3 (λ_ _ e=>e);have hlb:=aj h.st;have z2:=(Fmf hf1 hf2).size;have hw2:=hf3.heap hw2 (λe=>e);have n3:w2.heap.size≠b:=by omega
 have l3:=aj hw3;have hdr:=Fm.drew F0 w3;simp only[RU,jn1];refine⟨λw'=>Fm F0 w3 w',hdr,⟨.agg (pcs pg v),λw' hw'=>?_,?_⟩⟩
 ·simp only[RU,aa (n:=6) (hw'.heap hw2 (λe=>e)) rfl,and_self]
 refine rdP (u:=iv p.wpg) (λw' hw'=>by rw[ab (hw'.heap h3.st (λe=>e))];rfl) ?_;refine rdP (u:=iv p.one.slot) (λw' hw'=>by rw[ab (hw'.heap h3.st (λe=>e))];rfl) ?_;refine rdP (u:=iv p.own) (λw' hw'=>by rw[ab (hw'.heap h3.st (λe=>e))];rfl) ?_;refine two (λ_ _ us u=>us=rcs { M.rec0 with kind:=2,xid:=p.own,page:=p.wpg,slot:=p.one.slot,old:=t.xmax,new:=p.own } nl nl nl nl nl/\u=iv 0) (λw4 hf4=>?_) (λw4 hf4=>Fmf hdr hf4) (Y:=F0) (λ_ e=>e.elim) (λ_ _ _ _ _ _ h _=>h) ?_
 ·refine(uf (hN.keep (Fmf hF3 (Fmf hdr hf4))) hk hi hsl ht h1 hne htu hpq p.wpg).mono ?_;rintro _ w5 ⟨rfl,hf5⟩;exact⟨_,_,rfl,rfl,rfl,⟨rfl,rfl⟩,hf5⟩
 rintro base w5 b5 us u hb1 hb2 hsz hw5 ⟨rfl,rfl⟩ hf5;have hf35:=Fmf hdr hf5;have h5:=h3.keep hf35 (λ_ _ e=>e);simp only[RU,show((0:Int) != 0)=false from rfl];refine(mR h5 hw').mono ?_;rintro _ w6 ⟨⟨rr',h6⟩,hf6⟩;rw[aL] at hb2;exact yr (n:=w3.heap.size) ⟨_,_,_,_,h6,λy e=>.inl e⟩ (hf6.heap (hf35.heap hw3 (λe=>e)) n3) (hf6.heap hw5 (by omega)) l3 z2 hD (((Fmf hF3 hf35).mono (λ_ _ e=>e.elim)).trans hf6 (λ_ _ e=>e) (λy _ e=>by rw[e];exact h.ob))
theorem An(h:PlAt w D b p rv lv rr)(hD:∀y,D y->y<w.heap.size)(hn:b<n0)(hN:PgN w n0 v pg)(hs:Sm pg){rc:Rc}(hq:M.layP p pg=some (q,rc))(x:Value):Cl prog 302 [pv b,.agg (vwC Vv a r su),.agg (pcs pg v),x] w λo w'=>o=.tuple #[rcV rc,.bool true]/\PlX w' D w.heap.size b q/\Fm D w w':=by
 unfold M.layP at hq;obtain⟨_,hk,hq⟩:=bind_some hq;obtain⟨n,hsl,hq⟩:=bind_some hq;obtain⟨pq,hpq,hq⟩:=bind_some hq;obtain⟨_,he,hq⟩:=bind_some hq;have hk:=ak hk;have he:=ak he;simp only[Bool.and_eq_true,decide_eq_true_eq] at hk;obtain⟨hk,htu⟩:=hk;cases hq;refine cU4 func302 ?_ (V []) (J [(3,[11,12])]);refine ae ?_;rintro b1 w1 rfl hs1 hw1 hf1;refine ae ?_;rintro b2 w2 rfl hs2 hw2 hf2;refine ae ?_;rintro b3 w3 rfl hs3 hw3 hf3;have hF3:=Fmf (Fmf hf1 hf2) hf3;have h3:=h.keep hF3 (λ_ _ e=>e);have hlb:=aj h.st;have z2:=(Fmf hf1 hf2).size;have hw2:=hf3.heap hw2 (λe=>e);have n3:w2.heap.size≠b:=by omega
 have l3:=aj hw3;have hdr:=Fm.drew F0 w3;have c:=λo=>ab (off:=o) h3.st;obtain⟨R,hR⟩:∃R:Rc,R={ M.rec0 with kind:=1,xid:=(M.version p).xmin,page:=p.wpg,slot:=n,data:=dM (M.version p) }:=⟨_,rfl⟩;have ins:∀w4,Fm F0 w3 w4->Cl prog 359 [.agg (pcs pg v),iv p.wpg,.agg (tuC (M.version p))] w4 λo w5=>o=.tuple #[.agg (rcs R nl nl nl nl nl),iv 0]/\Fm F0 w4 w5:=λw4 hf4=>by rw[hR];exact xm (hN.keep (Fmf hF3 hf4)) hk hsl htu hpq (ly htu) p.wpg
 simp only[RU,c];refine aJ (λvs w'=>∃b5,vs=[pv b5,iv 0]/\w3.heap.size<=b5/\w'.heap[b5]?=some (.cells (rcs R nl nl nl nl nl) 168)/\Fm F0 w3 w') ?_ ?_
 ·rintro _ w5 ⟨b5,rfl,hb5,hw5,hf5⟩;have h5:=h3.keep hf5 (λ_ _ e=>e);have c5:=λo=>ab (off:=o) h5.st;have r5:=λo=>ab (off:=o) hw5;have hd5:=Fm.drew F0 w5;simp only[RU,beq_self_eq_true,c5];subst hR;have nb5:b5≠b:=by have:=hF3.size;omega
  refine⟨λw'=>Fm (·=b) w5 w',Fm.drew _ _,?_⟩;refine rdP (u:=iv (n:Int)) (λw' hw'=>by rw[ab (hw'.heap hw5 nb5)];rfl) ?_;refine⟨.agg (entC ⟨p.ask.key,p.wpg,n⟩),λw' hw'=>bst (entC ⟨p.ask.key,p.wpg,n⟩) ⟨rfl,rfl⟩,?_⟩;refine au (hd5.heap h5.st (λe=>e)) (j:=23) (show 23<28 by decide) rfl λw6 hw6 hs6 hf6=>?_;have hf6:=(Fm.drew (·=b) w5).trans hf6 (λ_ _ e=>e) (λ_ _ e=>e);refine⟨hf6,?_⟩;refine ck hw6 (o:=24) rfl (show 24+3<=28 by decide) (List.all_eq_true.1 (by rfl)) λw7 hw7 hs7 hf7=>?_
  replace hw7:w7.heap[b]?=some (.cells (plC { p with ent:=⟨p.ask.key,p.wpg,n⟩ } (stF b p.stg) rv lv rr) 223):=hw7
  simp only[RU,cT hw7 (o:=24) (n:=3) (us:=entC ⟨p.ask.key,p.wpg,n⟩) (show 24+3<=28 by decide) rfl];refine(wY he).mono ?_;rintro _ w8 ⟨rfl,hf8⟩;simp only[RU];refine au (hf8.heap hw7 (λe=>e)) (j:=27) (show 27<28 by decide) rfl λw9 hw9 hs9 hf9=>?_
  replace hw9:w9.heap[b]?=some (.cells (plC { p with ent:=⟨p.ask.key,p.wpg,n⟩,item:=sA ⟨p.ask.key,p.wpg,n⟩ } (stF b p.stg) rv lv rr) 223):=hw9
  have hf79:=(hf7.trans hf8 (λ_ _ e=>e) (λ_ _ e=>e.elim)).trans hf9 (λ_ _ e=>e) (λ_ _ e=>e);have hf59:=hf6.trans hf79 (λ_ _ e=>e) (λ_ _ e=>e);refine(oK (f':=stg b 362) hw9 362 rfl).mono ?_;rintro _ w10 ⟨hw10,hf10⟩;have hf510:=hf59.trans hf10 (λ_ _ e=>e) (λ_ _ e=>e);exact yr (n:=w3.heap.size) ⟨_,_,_,_,h5.to (q:=M.see { p with ent:=⟨p.ask.key,p.wpg,n⟩,item:=sA ⟨p.ask.key,p.wpg,n⟩,seen:=0 } 1 362) hw10 hf510 rfl rfl rfl,λy e=>.inl e⟩ (hf510.heap (hf5.heap hw3 (λe=>e)) n3) (hf510.heap hw5 nb5) l3 z2 hD (((Fmf hF3 hf5).mono (λ_ _ e=>e.elim)).trans hf510 (λ_ _ e=>e) (λy _ e=>by rw[e];exact h.ob))
 ·intro kk hkk;refine⟨λw'=>Fm F0 w3 w',hdr,⟨.agg (pcs pg v),λw' hw'=>?_,?_⟩⟩
  ·simp only[RU,aa (n:=6) (hw'.heap hw2 (λe=>e)) rfl,and_self]
  refine⟨?_,?_,trivial⟩
  ·refine(fI (h3.keep hdr (λ_ _ e=>e)).st).mono ?_;rintro _ w4 ⟨rfl,hf4⟩;have hf4:=Fmf hdr hf4;refine⟨hf4,?_⟩;refine two (λ_ _ us u=>us=rcs R nl nl nl nl nl/\u=iv 0) (λw5 hf5=>?_) (λw5 hf5=>Fmf hf4 hf5) (Y:=F0) (λ_ e=>e.elim) (λ_ _ _ _ _ _ h _=>h) ?_
   ·refine(ins w5 (Fmf hf4 hf5)).mono ?_;rintro _ w6 ⟨rfl,hf6⟩;exact⟨_,_,rfl,rfl,rfl,⟨rfl,rfl⟩,hf6⟩
   rintro base w5 b5 us u hb1 hb2 hsz hw5 ⟨rfl,rfl⟩ hf5;exact hkk _ _ ⟨b5,rfl,Nat.le_trans hf4.size hb2,hw5,Fmf hf4 hf5⟩
  ·refine ae ?_;rintro b4 w4 rfl hs4 hw4 hf4;rw[aL] at hw4;have hf4:=Fmf hdr hf4;refine⟨hf4,?_⟩;refine(fI (h3.keep hf4 (λ_ _ e=>e)).st).mono ?_;rintro _ w5 ⟨rfl,hf5⟩;have hf35:=Fmf hf4 hf5;refine⟨hf35,(ins w5 hf35).mono ?_⟩;rintro _ w6 ⟨rfl,hf6⟩;simp only[RU];refine ao ((Fmf hf5 hf6).heap hw4 (λe=>e)) (λw7 hw7 hs7 hf7=>?_) rfl rfl rfl;exact hkk _ _ ⟨_,rfl,Nat.le_refl _,hw7,Fm.own (Fmf hf35 hf6) hf7 (by rintro y rfl;exact Nat.le_refl _)⟩
theorem qC(h:PlAt w D b p rv lv rr)(hD:∀y,D y->y<w.heap.size)(hn:b<n0)(hN:PgN w n0 v pg)(hs:Sm pg){rc:Rc}(hq:M.enter p pg=some (q,rc)):Cl prog 362 [pv b,.agg (vwC Vv a r su),.agg (pcs pg v),nl] w λo w'=>o=.tuple #[rcV rc,.bool true]/\PlX w' D w.heap.size b q/\Fm D w w':=by
 unfold M.enter at hq;obtain⟨_,hk,hq⟩:=bind_some hq;obtain⟨pq,hpq,hq⟩:=bind_some hq;have hk:=ak hk;simp only[Bool.and_eq_true,decide_eq_true_eq] at hk;obtain⟨⟨he,h0⟩,hil⟩:=hk;obtain⟨e',L,_,ho,_⟩:=oo hpq;cases hq;refine cU4 func362 ?_ (V []) (J [(4,[10,11]),(14,[])]);refine ae ?_;rintro b1 w1 rfl hs1 hw1 hf1;refine ae ?_;rintro b2 w2 rfl hs2 hw2 hf2;refine ae ?_;rintro b3 w3 rfl hs3 hw3 hf3;have hF3:=Fmf (Fmf hf1 hf2) hf3;have h3:=h.keep hF3 iT;have hlb:=aj h.st;have z2:=(Fmf hf1 hf2).size;have hw2:=hf3.heap hw2 id;have n2:w1.heap.size≠b:=by omega
 have n3:w2.heap.size≠b:=by omega
 have l3:=aj hw3;have hdr:=Fm.drew F0 w3;have c:=λo=>ab (off:=o) h3.st;have h3d:=h3.keep hdr iT;simp only[RU,c,aa (n:=6) (hdr.heap hw2 id) rfl,cT h3d.st (o:=24) (n:=3) (us:=entC p.ent) (show 24+3<=28 by decide) rfl];refine(pH h3d (hN.keep (Fmf hF3 hdr)) hs ho he h0).mono ?_;rintro _ w4 ⟨rfl,h4,hf4⟩;have hF4:Fm (·=b) w w4:=(Fmf hF3 hdr).trans hf4 iE iT;have hw2:=hf4.heap (hdr.heap hw2 id) n2;have hw3:=hf4.heap (hdr.heap hw3 id) n3;have hd4:=Fm.drew F0 w4;simp only[RU];refine aJ (λvs w'=>∃b5,vs=[pv b5,iv 0]/\w4.heap.size<=b5/\w'.heap[b5]?=some (.cells (rcs { M.rec0 with kind:=3,page:=p.wpg,data:=p.item } nl nl nl nl nl) 168)/\Fm F0 w4 w') ?_ ?_
 ·rintro _ w5 ⟨b5,rfl,hb5,hw5,hf5⟩;have h5:=h4.keep hf5 iT;have c5:=λo=>ab (off:=o) h5.st;have r5:=λo=>ab (off:=o) hw5;have z4:=hF4.size;have nb5:b5≠b:=by omega
  simp only[RU,beq_self_eq_true,c5,jn1];refine au hw5 (j:=4) (show 4<16 by decide) rfl λw6 hw6 hs6 hf6=>?_
  replace hw6:w6.heap[b5]?=some (.cells (rcs { M.rec0 with kind:=3,page:=p.wpg,data:=p.item,xid:=p.own } nl nl nl nl nl) 168):=hw6
  have h6:=h5.keep hf6 (λy hy e=>by have:=hD y hy;omega);simp only[RU,aa (n:=16) hw6 rfl];refine(tC _ (show(3:Int)≠5 by decide)).mono ?_;rintro _ w7 ⟨rfl,hf7⟩;simp only[RU];refine aE (us:=entC ent0) (λw8 hs8 hw8 hf8=>?_) rfl rfl rfl;have hf68:=Fmf hf7 hf8;have h8:=h6.keep hf68 iT;have c8:=λo=>ab (off:=o) h8.st;simp only[RU,c8];refine bst #[iv 0,.bool p.hit,stv [],nl] ?_;refine(jC h8 { rp0 with found:=p.hit } rfl).mono ?_;rintro _ w9 ⟨h9,hf9⟩;have hF8:Fm (·=b) w w8:=((hF4.trans hf5 iT iE).trans hf6 iT (λy hy e=>by omega)).trans hf68 iT iE;have hz3:=hdr.size;have hz4:=hf4.size;have ne5:w2.heap.size≠b5:=by omega
  exact yr (n:=w3.heap.size) ⟨_,_,_,_,h9,λy e=>.inl e⟩ (hf9.heap (hf68.heap (hf6.heap (hf5.heap hw3 id) ne5) id) n3) (hf9.heap (hf68.heap hw6 id) nb5) l3 z2 hD ((hF8.trans hf9 iT iT).mono (λy _ e=>by rw[e];exact h.ob))
 ·intro kk hkk;refine⟨λw'=>Fm F0 w4 w',hd4,⟨.agg (pcs pg v),λw' hw'=>?_,?_⟩⟩
  ·simp only[RU,aa (n:=6) (hw'.heap hw2 id) rfl,and_self]
  refine rdP (u:=iv p.wpg) (λw' hw'=>by rw[ab (hw'.heap h4.st id)];rfl) ?_;refine rdP (u:=stv p.item) (λw' hw'=>by rw[ab (hw'.heap h4.st id)];rfl) ?_;have hN4:=(hN.keep (Fmf hF3 hdr)).dO hf4 (by rintro y rfl;exact hn);refine two (λ_ _ us u=>us=rcs { M.rec0 with kind:=3,page:=p.wpg,data:=p.item } nl nl nl nl nl/\u=iv 0) (λw5 hf5=>?_) (λw5 hf5=>Fmf hd4 hf5) (Y:=F0) (λ_ e=>e.elim) (λ_ _ _ _ _ _ h _=>h) ?_
  ·refine(tY (hN4.keep (Fmf hd4 hf5)) hs (by omega) hpq p.wpg).mono ?_;rintro _ w6 ⟨rfl,hf6⟩;exact⟨_,_,rfl,rfl,rfl,⟨rfl,rfl⟩,hf6⟩
  rintro base w5 b5 us u hb1 hb2 hsz hw5 ⟨rfl,rfl⟩ hf5;exact hkk _ _ ⟨b5,rfl,Nat.le_trans hd4.size hb2,hw5,Fmf hd4 hf5⟩
end
section
variable{w w':World}{b n0:Nat}{p q:Pn}{f f' rv lv rr v:Value}{D:Nat->Prop}{pg:Pg}{Vv:M.Vw}{a r su:Value}
abbrev waC(p:Pn):Array Value:=#[iv p.wk,stv p.wkey,iv p.wsz,iv p.wpg]
theorem AH(b:Nat):ax (TypeDesc.pointer 223) .eql (pv b) np=some (.bool false)/\ax (TypeDesc.pointer 223) .neq (pv b) np=some (.bool true):=⟨by kernel_rfl,by kernel_rfl⟩
theorem lB(h:PlAt w D b p rv lv rr):Cl prog 128 [pv b] w λo w'=>o=.agg (waC p)/\Fm F0 w w':=by refine cU1 func128 ?_;refine ae ?_;rintro b1 w1 rfl hs1 hw1 hf1;have h1:=hf1.heap h.st id;simp only[RU,AH,cT h1 (o:=6) (n:=4) (us:=waC p) (show 6+4<=28 by decide) rfl];refine ao hw1 (λw2 hw2 hs2 hf2=>?_) rfl rfl rfl;simp only[RU,aa (n:=4) hw2 rfl];exact Fm.own hf1 hf2 (by rintro y rfl;exact Nat.le_refl _)
theorem xE(h:PlAt w D b p rv lv rr)(hk:p.wk=1)(got:Bool)(e:Int):Cl prog 129 [pv b,.bool got,iv e] w λo w'=>(∃rr',PlAt w' D b (bif decide (e=0) then(bif got then M.look p else p) else M.fin p { rp0 with err:=e }) rv lv rr')/\Fm (·=b) w w':=by
 have c:=λo=>ab (off:=o) h.st;refine cU3 func129 ?_;by_cases h0:e=0
 ·subst h0;cases got with
  | true=>simp only[RU,AH,c,hk,show((1:Int) != 1)=false from rfl,show((0:Int) != 0)=false from rfl,decide_true,cond_true];refine(pj h.st).mono ?_;rintro _ w2 ⟨h2,hf2⟩;exact⟨⟨rr,h.to h2 hf2 rfl rfl rfl⟩,hf2⟩
  | false=>simp only[RU,AH,c,hk,show((1:Int) != 1)=false from rfl,show((0:Int) != 0)=false from rfl,decide_true,cond_true,cond_false];exact⟨⟨rr,h⟩,Fm.refl _ _⟩
 ·simp only[RU,AH,c,hk,show((1:Int) != 1)=false from rfl,show(e != 0)=true by simp[h0],decide_eq_false h0,cond_false];refine bst #[iv e,.bool false,stv [],nl] ?_;exact(jC h { rp0 with err:=e } rfl).mono λ_ _ ⟨h2,hf2⟩=>⟨⟨_,h2⟩,hf2⟩
theorem uS(h:PlAt w D b p rv lv rr)(hk:p.wk=2)(n:Int):Cl prog 224 [pv b,iv n] w λo w'=>PlAt w' D b (M.see p n 302) rv lv rr/\Fm (·=b) w w':=by have c:=λo=>ab (off:=o) h.st;refine cU2 func224 ?_;simp only[RU,AH,c,hk,beq_self_eq_true];refine(jK (f':=stg b 302) h.st n 302 rfl).mono ?_;rintro _ w2 ⟨h2,hf2⟩;exact⟨h.to h2 hf2 rfl rfl rfl,hf2⟩
theorem uz:(w.alloc (.cells #[] 23)).ownsRow w.heap.size 23 2 (.slice (some ⟨w.heap.size,0,none⟩) 0 0) 0 []:=⟨rfl,.inr ⟨w.heap.size,0,#[],rfl,Nat.le_refl _,aA _ _,Nat.le_refl _,Nat.zero_le _,rfl,rfl⟩⟩
theorem uK{rows:List (Bs×Bs)}(h:CellsAt w v rows.length 2 (rows.flatMap rowL))(hl:rows.length<=2000):Cl prog 228 [v] w λo w'=>w'.ownsRow w.heap.size 23 2 o rows.length (rows.flatMap rowL)/\Fm F0 w w':=by
 refine cU1 func228 ?_;obtain⟨⟨a,c,hv,h1,h2,h3,h4⟩,hl'⟩:=id h;cases a with
 | none=>
  subst hv;obtain⟨e1,e2⟩:=h3 rfl;have e3:ax (TypeDesc.slice 23) .eql (.slice none rows.length c) (.slice none 0 0)=some (.bool true):=by kernel_rfl
  simp only[RU,e3];have:rows=[]:=List.eq_nil_of_length_eq_zero e1;subst this;exact⟨World.ownsRow_nil _ _ _ _,Fm.refl _ _⟩
 | some ad=>
  subst hv;have e3:ax (TypeDesc.slice 23) .eql (.slice (some ad) rows.length c) (.slice none 0 0)=some (.bool false):=by kernel_rfl
  simp only[RU,e3];refine bsl 0 #[] 23 ?_;have ho2:=uz (w:=w);have hf2:=Fm.alloc F0 w (.cells #[] 23);generalize w.alloc (.cells #[] 23)=w2 at ho2 hf2;obtain⟨lv,w3,hr3,ho3,hf3⟩:=cD E27 (by omega) ho2 (h.keep hf2 iT) (by intro u hu;obtain⟨x,_,hx⟩:=List.mem_flatMap.1 hu;simp at hx;rcases hx with rfl|rfl<;>rfl) 27 (by unfold maxLen;omega) (by omega) hf2.size;refine ag hr3 ?_;rw[Nat.zero_add,List.nil_append] at ho3;exact⟨ho3,Fm.own hf2 hf3 (λy hy=>by have:=aO ho2 y hy;omega)⟩
theorem mF(h:PlAt w D b p rv lv rr)(hk:p.wk=4)(hl:p.rep.rows.length<=2000):Cl prog 133 [pv b] w λo w'=>∃u,o=.agg #[iv p.rep.err,.bool p.rep.found,stv p.rep.val,u]/\w'.ownsRow w.heap.size 23 2 u p.rep.rows.length (p.rep.rows.flatMap rowL)/\Fm F0 w w':=by
 refine cU1 func133 ?_;refine ae ?_;rintro b1 w1 rfl hs1 hw1 hf1;have h1:=h.keep hf1 iT;have c:=λo=>ab (off:=o) h1.st;have hrr:=gp h1.re;simp only[RU,AH,c,hk,show((4:Int) != 4)=false from rfl,cT h1.st (o:=11) (n:=4) (us:=#[iv p.rep.err,.bool p.rep.found,stv p.rep.val,rr]) (show 11+4<=28 by decide) rfl];refine aE (us:=#[iv p.rep.err,.bool p.rep.found,stv p.rep.val,rr]) (λw2 hs2 hw2 hf2=>?_) rfl rfl (by simp[hrr];exact⟨rfl,rfl,rfl⟩);simp only[RU,ab hw2];refine(uK (h1.keep hf2 iT).re hl).mono ?_;rintro u w3 ⟨ho3,hf3⟩;have hF2:=Fmf hf1 hf2;refine au (hf3.heap hw2 id) (j:=3) (show 3<4 by decide) (aB ho3) λw4 hw4 hs4 hf4=>?_
 replace hw4:w4.heap[w1.heap.size]?=some (.cells #[iv p.rep.err,.bool p.rep.found,stv p.rep.val,u] 49):=hw4
 simp only[RU,aa (n:=4) hw4 rfl];have z1:=hf1.size;have z3:=aj hw2;have ho4:=ah ho3 hf4 (by rintro y hy _ _ rfl;omega);have z2:=hF2.size;refine ao (hf4.heap ((Fmf hf2 hf3).heap hw1 id) (by omega)) (λw5 hw5 hs5 hf5=>?_) rfl rfl (by simp[aB ho3];exact⟨rfl,rfl,rfl⟩);simp only[RU,aa (n:=4) hw5 rfl];exact⟨u,rfl,aU (ah ho4 hf5 (by rintro y hy _ _ rfl;omega)) z2,Fm.own (Fm.own (Fmf hF2 hf3) hf4 (by rintro y rfl;omega)) hf5 (by rintro y rfl;exact Nat.le_refl _)⟩
theorem uk(h:PlAt w D b p rv lv rr)(hk:p.wk=3)(hN:PgN w n0 v pg)(hs:Sm pg)(hi:p.item=[]\/∃L q,M.opened pg=some L/\entOk p.ent=true/\p.item.length<=1000000/\M.blay pg p.item=some q):Cl prog 225 [pv b,.agg (pcs pg v)] w λo w'=>o=iv 0/\Fm F0 w w':=by
 refine cU2 func225 ?_;refine ae ?_;rintro b1 w1 rfl hs1 hw1 hf1;have h1:=h.keep hf1 iT;have c:=λo=>ab (off:=o) h1.st;by_cases h0:p.item=[]
 ·simp only[RU,AH,c,hk,show((3:Int) != 3)=false from rfl,h0,decide_true];exact hf1
 ·rcases hi with hi|⟨L,q,ho,he,hl,hq⟩
  ·exact absurd hi h0
  have hd1:=Fm.drew F0 w1;have h1d:=h1.keep hd1 iT;have hFd:=Fmf hf1 hd1;simp only[RU,AH,c,hk,show((3:Int) != 3)=false from rfl,decide_eq_false h0,aa (n:=6) (hd1.heap hw1 id) rfl,cT h1d.st (o:=24) (n:=3) (us:=entC p.ent) (show 24+3<=28 by decide) rfl];refine(tA (hN.keep hFd) hs ho he).mono ?_;rintro _ w2 ⟨rfl,hf2⟩;have hF2:=Fmf hFd hf2;have hd2:=Fm.drew F0 w2;have h2:=h1d.keep hf2 iT;have c2:=λo=>ab (off:=o) h2.st;simp only[RU,show((0:Int) != 0)=false from rfl,c2,aa (n:=6) ((Fmf hd1 (Fmf hf2 hd2)).heap hw1 id) rfl];refine(pt (hN.keep (Fmf hF2 hd2)) hs hl hq p.wpg).mono ?_;rintro _ w3 ⟨rfl,hf3⟩;simp only[RU,show((0:Int) != 0)=false from rfl];exact Fmf (Fmf hF2 hd2) hf3
theorem ya(h:PlAt w D b p rv lv rr)(hD:∀y,D y->y<w.heap.size)(hn:b<n0)(hN:PgN w n0 v pg){n1:Nat}(hV:VwN w n1 Vv a r su)(hab:∀y,D y->blockOf a≠some y/\blockOf r≠some y/\(Vv.st.items≠[]->blockOf su≠some y)){orc:Option Rc}(hq:M.pageP Vv p pg=some (q,orc)):Cl prog 226 [pv b,.agg (vwC Vv a r su),.agg (pcs pg v),nl] w λo w'=>o=.tuple #[rcV (orc.getD M.rec0),.bool orc.isSome]/\PlX w' D w.heap.size b q/\Fm D w w':=by
 unfold M.pageP at hq;cases hsm:(M.smP pg&&(decide (p.stg=362)||p.item.isEmpty)) with
 | false=>rw[hsm] at hq;cases hq
 | true=>
 rw[hsm] at hq
 replace hq:(match p.stg with
  | 216=>(M.descend p pg).map (·,none)
  | 408=>(M.inspect Vv p pg).map (·,none)
  | 409=>(M.finish p pg).map λx=>(x.1,some x.2)
  | 302=>(M.layP p pg).map λx=>(x.1,some x.2)
  | 362=>(M.enter p pg).map λx=>(x.1,some x.2)
  | _=>none:Option (Pn×Option Rc))=some (q,orc):=hq
 have hs:=(iB (Bool.and_eq_true _ _▸hsm).1).1;refine cU4 func226 ?_;refine ae ?_;rintro b1 w1 rfl hs1 hw1 hf1;refine ae ?_;rintro b2 w2 rfl hs2 hw2 hf2;refine ae ?_;rintro b3 w3 rfl hs3 hw3 hf3;have hF3:=Fmf (Fmf hf1 hf2) hf3;have hdr:=Fm.drew F0 w3;have hFd:=Fmf hF3 hdr;have h3:=h.keep hF3 (λ_ _ e=>e);have h3d:=h.keep hFd (λ_ _ e=>e);have z2:=(Fmf hf1 hf2).size;have z3:=hF3.size;have hw2:=(Fmf hf3 hdr).heap hw2 (λe=>e);have hw1:=(Fmf (Fmf hf2 hf3) hdr).heap hw1 (λe=>e);have l3:=aj hw3;have c:=λo=>ab (off:=o) h3.st;have hD3:∀y,D y->y<w3.drew.heap.size:=λy hy=>Nat.lt_of_lt_of_le (hD y hy) hFd.size;have hN3:=hN.keep hFd;have hV3:=hV.keep hFd;have stage:∃f,stF b p.stg=stg b f/\jw prog f=true/\Cl prog f [pv b,.agg (vwC Vv a r su),.agg (pcs pg v),nl] w3.drew λo w'=>o=.tuple #[rcV (orc.getD M.rec0),.bool orc.isSome]/\PlX w' D w3.drew.heap.size b q/\Fm D w3.drew w':=by
  have bD:∀{w1 w2:World},Fm (·=b) w1 w2->Fm D w1 w2:=λhf=>hf.mono (λy _ e=>by rw[e];exact h.ob);split at hq
  ·rename_i e;obtain⟨q',hq',e2⟩:=Option.map_eq_some_iff.1 hq;cases e2;exact⟨216,by rw[e];rfl,by kernel_rfl,(oH h3d hD3 hn hN3 hs hq' nl).mono λ_ _ ⟨a,b,c⟩=>⟨a,b,bD c⟩⟩
  ·rename_i e;obtain⟨q',hq',e2⟩:=Option.map_eq_some_iff.1 hq;cases e2;exact⟨408,by rw[e];rfl,by kernel_rfl,oX h3d hD3 hn hN3 hs hV3 hab hq' nl⟩
  ·rename_i e;obtain⟨⟨q',rc⟩,hq',e2⟩:=Option.map_eq_some_iff.1 hq;cases e2;exact⟨409,by rw[e];rfl,by kernel_rfl,qH h3d hD3 hn hN3 hs hq' nl⟩
  ·rename_i e;obtain⟨⟨q',rc⟩,hq',e2⟩:=Option.map_eq_some_iff.1 hq;cases e2;exact⟨302,by rw[e];rfl,by kernel_rfl,An h3d hD3 hn hN3 hs hq' nl⟩
  ·rename_i e;obtain⟨⟨q',rc⟩,hq',e2⟩:=Option.map_eq_some_iff.1 hq;cases e2;exact⟨362,by rw[e];rfl,by kernel_rfl,qC h3d hD3 hn hN3 hs hq'⟩
  ·cases hq
 obtain⟨f,hf,hcb,hcl⟩:=stage;rw[hf] at c;have e0:ax (TypeDesc.func #[200,68,25] #[168,4] false) .eql (stg b f) .nilFunc=some (.bool false):=by kernel_rfl
 simp only[RU,AH,c,e0,aa (n:=11) hw1 rfl,aa (n:=6) hw2 rfl];refine ay hcb ?_;refine hcl.mono ?_;rintro _ w4 ⟨rfl,hX,hf4⟩;simp only[RU];refine ao (hf4.heap (hdr.heap hw3 (λe=>e)) (λe=>by have:=hD _ e;omega)) (λw5 hw5 hs5 hf5=>?_) rfl rfl rfl;simp only[RU,aa (n:=16) hw5 rfl];obtain⟨D',rv',lv',rr',h5,hD'⟩:=hX;refine⟨⟨D',rv',lv',rr',h5.keep hf5 ?_,λy e=>(hD' y e).imp id (λe=>⟨Nat.le_trans hFd.size e.1,Nat.lt_of_lt_of_le e.2 hf5.size⟩)⟩,((hFd.mono (λ_ _ e=>e.elim)).trans hf4 (λ_ _ e=>e) (λ_ _ e=>e)).trans hf5 (λ_ _ e=>e) (λy hy e=>by omega)⟩;rintro y hy rfl;rcases hD' _ hy with e|e
 ·have:=hD _ e;omega
 ·rw[aL] at e;omega
theorem mA{k:Ak}{own:Int}(hq:M.mkP k own=some p):Cl prog 47 [.agg (akC k),iv own] w λo w'=>∃b,o=.tuple #[pv b,iv 0]/\w.heap.size<=b/\PlAt w' (·=b) b p nl nl nl/\Fm F0 w w':=by
 unfold M.mkP at hq;obtain⟨_,hr,hq⟩:=bind_some hq;have hr:=ak hr;cases hq;refine cU2 func47 ?_ (V []) (J [(7,[])]);refine ae ?_;rintro b1 w1 rfl hs1 hw1 hf1;simp only[RU,aa (n:=5) hw1 rfl];refine(uH hr).mono ?_;rintro _ w2 ⟨rfl,hf2⟩;simp only[RU,aa (n:=5) (hf2.heap hw1 id) rfl];refine bst (plC (M.pn0 k own) .nilFunc nl nl nl) ?_;refine ae ?_;rintro b w3 rfl hs3 hw3 hf3;have hF2:=Fmf hf1 hf2;simp only[RU] at hw3;have h3:PlAt w3 (·=w2.heap.size) w2.heap.size (M.pn0 k own) nl nl nl:=⟨hw3,rfl,World.ownsRow_nil _ _ _ _,λy e=>(by cases e),CellsAt.aT (World.ownsRow_nil _ 0 221 3),λy e=>(by cases e),λy e=>(by cases e),xQ,λy e=>(by cases e)⟩;have hz:=hF2.size;simp only[RU,jn1];refine(dB h3.st).mono ?_;rintro _ w4 ⟨rfl,rfl⟩;cases hw:M.writes k with
 | true=>have c:=λo=>ab (off:=o) ((Fmf hf2 hf3).heap hw1 id);simp only[RU,show M.writes (M.pn0 k own).ask=true from hw,c,cond_true];refine bst #[iv 1,stv k.key,iv 0,iv 0] ?_;refine ck h3.st (o:=6) rfl (show 6+4<=28 by decide) (List.all_eq_true.1 (by rfl)) λw5 hw5 hs5 hf5=>?_;exact⟨_,rfl,hz,h3.to (q:={ M.pn0 k own with wk:=1,wkey:=k.key }) hw5 hf5 rfl rfl rfl,Fm.own (Fmf hF2 hf3) hf5 (by rintro y rfl;exact hz)⟩
 | false=>simp only[RU,show M.writes (M.pn0 k own).ask=false from hw,cond_false];refine(pj h3.st).mono ?_;rintro _ w5 ⟨h5,hf5⟩;exact⟨_,rfl,hz,h3.to h5 hf5 rfl rfl rfl,Fm.own (Fmf hF2 hf3) hf5 (by rintro y rfl;exact hz)⟩
end
open M (E Seat Wk Pn Rp Ak Tx)
structure Bk where
 x : Nat
 pb : Nat
 lb : Nat
 db : Nat
 g : Nat
 m : Nat
 fb : Nat
 ob : Nat
 kb : Nat
 kh : Nat
 kw : Nat
 tb : Nat
 tm : Nat
 ib : Nat
 sb : Nat
 sm : Nat
 mt : Nat
 frames : Int
 secs : Int
section
variable{w w':World}{D D' S:Nat->Prop}{B:Bk}{u rv sv:Value}
def SysAt(w:World)(D:Nat->Prop)(B:Bk)(s:PS):Prop:=∃Xl Xp Q F,SI w Xl Xp Q B.pb B.lb B.db B.g B.m B.fb B.ob F s/\∀y,SY Xl Xp B.db B.g B.m y->D y
theorem SysAt.keep{s:PS}(h:SysAt w D B s)(hf:Fm S w w')(hs:∀y,D y->¬S y):SysAt w' D B s:=by obtain⟨Xl,Xp,Q,F,h1,h2⟩:=h;exact⟨Xl,Xp,Q,F,h1.keep hf (λy hy=>hs y (h2 y hy)),h2⟩
theorem SysAt.wide{s:PS}(h:SysAt w D B s)(hD:∀y,D y->D' y):SysAt w D' B s:=by obtain⟨Xl,Xp,Q,F,h1,h2⟩:=h;exact⟨Xl,Xp,Q,F,h1,λy hy=>hD y (h2 y hy)⟩
structure LkAt (w : World) (D : Nat → Prop) (B : Bk) (hs : List (Bs × Int)) (ws : List (Int × Bs)) : Prop where
 ex : ∃ H W, IsT w B.kb B.kh B.kw H W ∧ Sound H W ∧ (∀ k, getD H (str k) = getD hs k) ∧ ∀ p, getD W p = (getD ws p).map str
 ob : D B.kb ∧ D B.kh ∧ D B.kw
 nh : (hs.map (·.1)).Nodup
 nw : (ws.map (·.1)).Nodup
theorem LkAt.keep{hs:List (Bs×Int)}{ws:List (Int×Bs)}(h:LkAt w D B hs ws)(hf:Fm S w w')(hS:∀y,D y->¬S y):LkAt w' D B hs ws:=by obtain⟨H,W,h1,h2⟩:=h.ex;exact⟨⟨H,W,h1.keep hf (hS _ h.ob.1) (hS _ h.ob.2.1) (hS _ h.ob.2.2),h2⟩,h.ob,h.nh,h.nw⟩
theorem LkAt.wide{hs:List (Bs×Int)}{ws:List (Int×Bs)}(h:LkAt w D B hs ws)(hD:∀y,D y->D' y):LkAt w D' B hs ws:=⟨h.ex,⟨hD _ h.ob.1,hD _ h.ob.2.1,hD _ h.ob.2.2⟩,h.nh,h.nw⟩
structure IdAt (w : World) (D : Nat → Prop) (B : Bk) (m nxt : Int) : Prop where
 st : w.heap[B.ib]? = some (.cells #[iv m, iv nxt, iv 1] 182)
 ob : D B.ib
structure SpcAt (w : World) (D : Nat → Prop) (B : Bk) (r : Option Int) : Prop where
 st : SpAt w B.sb B.sm r
 ob : D B.sb ∧ D B.sm
structure RsAt (w : World) (D : Nat → Prop) (B : Bk) (recs : List Rc) (met saves : List Int) (rv sv : Value) : Prop where
 rc : ∃ (C : List (Array Value)) (Q : Nat → Prop), CellsAt w rv C.length 16 (C.flatMap Array.toList) ∧ C.length = recs.length ∧ (∀ (i : Nat) cs r, C[i]? = some cs → recs[i]? = some r → Held w Q cs r) ∧ (∀ y, Q y → D y ∧ y ≠ B.mt) ∧ ∀ y, blockOf rv = some y → D y ∧ y ≠ B.mt
 sv : CellsAt w sv saves.length 1 (saves.map iv) ∧ ∀ y, blockOf sv = some y → D y
 mt : ∃ M, MapAt w B.mt iv Value.bool M ∧ ∀ n, getD M n = if n ∈ met then some true else none
 ob : D B.mt
theorem RsAt.keep{recs:List Rc}{met saves:List Int}(h:RsAt w D B recs met saves rv sv)(hf:Fm S w w')(hS:∀y,D y->¬S y):RsAt w' D B recs met saves rv sv:=by obtain⟨C,Q,h1,h2,h3,h4,h5⟩:=h.rc;obtain⟨M,m1,m2⟩:=h.mt;exact⟨⟨C,Q,h1.keep hf (λy e=>hS y (h5 y e).1),h2,λi cs r a b=>(h3 i cs r a b).keep hf (λy e=>hS y (h4 y e).1),h4,h5⟩,⟨h.sv.1.keep hf (λy e=>hS y (h.sv.2 y e)),h.sv.2⟩,⟨M,m1.keep hf (hS _ h.ob),m2⟩,h.ob⟩
theorem RsAt.wide{recs:List Rc}{met saves:List Int}(h:RsAt w D B recs met saves rv sv)(hD:∀y,D y->D' y):RsAt w D' B recs met saves rv sv:=by obtain⟨C,Q,h1,h2,h3,h4,h5⟩:=h.rc;exact⟨⟨C,Q,h1,h2,h3,λy e=>⟨hD y (h4 y e).1,(h4 y e).2⟩,λy e=>⟨hD y (h5 y e).1,(h5 y e).2⟩⟩,⟨h.sv.1,λy e=>hD y (h.sv.2 y e)⟩,h.mt,hD _ h.ob⟩
def doV:Wk->Value
 | .none=>.nilFunc
 | .begin=>.func (.func 20) #[] #[]
 | .follow=>.func (.func 51) #[] #[]
 | .commit=>.func (.func 45) #[] #[]
 | .settle=>.func (.func 117) #[] #[]
 | .roll=>.func (.func 46) #[] #[]
abbrev seC(i:Nat)(s:Seat)(rr pl:Value):List Value:=[iv i,.int .u8 s.ask.call,stv s.ask.key,stv s.ask.to_,stv s.ask.val,iv s.ask.n,doV s.wk,.bool s.told,iv s.rep.err,.bool s.rep.found,stv s.rep.val,rr,pl,iv s.why,iv s.next,iv s.end_,nl,iv 0,iv 0,iv 0,nl,nl,nl,iv 0,iv 0]
def PlV(w:World)(D:Nat->Prop)(p:Option Pn)(pl:Value):Prop:=match p with
 | none=>pl=np
 | some p=>∃b rv lv rr,pl=pv b/\PlAt w D b p rv lv rr
structure SeatAt (w : World) (D : Nat → Prop) (i : Nat) (s : Seat) (cs : List Value) : Prop where
 ex : ∃ rr pl, cs = seC i s rr pl ∧ CellsAt w rr s.rep.rows.length 2 (s.rep.rows.flatMap rowL) ∧ (∀ y, blockOf rr = some y → D y) ∧ PlV w D s.plan pl
theorem PlV.keep{p:Option Pn}{pl:Value}(h:PlV w D p pl)(hf:Fm S w w')(hS:∀y,D y->¬S y):PlV w' D p pl:=by
 cases p with
 | none=>exact h
 | some p=>obtain⟨b,rv,lv,rr,e,h⟩:=h;exact⟨b,rv,lv,rr,e,h.keep hf hS⟩
theorem PlV.wide{p:Option Pn}{pl:Value}(h:PlV w D p pl)(hD:∀y,D y->D' y):PlV w D' p pl:=by
 cases p with
 | none=>exact h
 | some p=>obtain⟨b,rv,lv,rr,e,h⟩:=h;exact⟨b,rv,lv,rr,e,h.wide hD⟩
theorem SeatAt.keep{i:Nat}{s:Seat}{cs:List Value}(h:SeatAt w D i s cs)(hf:Fm S w w')(hS:∀y,D y->¬S y):SeatAt w' D i s cs:=by obtain⟨rr,pl,e,h1,h2,h3⟩:=h.ex;exact⟨rr,pl,e,h1.keep hf (λy e=>hS y (h2 y e)),h2,h3.keep hf hS⟩
theorem SeatAt.wide{i:Nat}{s:Seat}{cs:List Value}(h:SeatAt w D i s cs)(hD:∀y,D y->D' y):SeatAt w D' i s cs:=by obtain⟨rr,pl,e,h1,h2,h3⟩:=h.ex;exact⟨rr,pl,e,h1,λy e=>hD y (h2 y e),h3.wide hD⟩
abbrev hdC(B:Bk)(e:E)(u:Value):List Value:=[pv B.db,iv B.frames,iv e.m,iv B.secs,iv e.pages,iv 1,iv 1,iv 0,pv B.lb,pv B.pb,iv e.st.lsn,iv e.st.kind,iv e.st.level,iv e.st.right,stv e.st.high,u,pv B.kb,pv B.tb,pv B.ib,pv B.sb,iv e.fresh,iv 1,.bool e.kept]
abbrev tlC(B:Bk)(e:E)(rv sv:Value):List Value:=[.bool false,iv e.pick,iv (e.phase:Nat),rv,nl,.map (some B.mt),sv,iv e.at_]
structure RX (c : Nat) (w : World) (O : Nat → Nat) (B : Bk) (e : E) (u rv sv : Value) (ss : List (List Value)) : Prop where
 sys : c ≠ 1 → SysAt w (O · = 1) B e.s
 st : c ≠ 2 → HeldP w (O · = 2) u e.st
 lk : c ≠ 3 → LkAt w (O · = 3) B e.holds e.waits
 tx : c ≠ 4 → ∃ T, TxAt w (O · = 4) B.tb B.tm T e.txns
 id : c ≠ 5 → IdAt w (O · = 5) B e.m e.nxt
 sp : c ≠ 6 → SpcAt w (O · = 6) B e.room
 rs : c ≠ 7 → RsAt w (O · = 7) B e.recs e.met e.saves rv sv
 se : ∀ (i : Nat) s, c ≠ 10 + i → e.seats[i]? = some s → ∃ cs, ss[i]? = some cs ∧ SeatAt w (O · = 10 + i) i s cs
 x : c ≠ 0 → EgB w B.x (hdC B e u) ss (tlC B e rv sv)
structure RP (w : World) (O : Nat → Nat) (B : Bk) (e : E) (u rv sv : Value) (ss : List (List Value)) : Prop where
 al : RX 50 w O B e u rv sv ss
 lt : ∀ y, O y ≠ 99 → y < w.heap.size
 x0 : O B.x = 0
 sl : e.seats.length = 8
 mo : Mo e.m
 ph : e.phase ≤ 2 → sv = nl
 uo : u.oneCell' = true
variable{O O':Nat->Nat}{e:E}{ss:List (List Value)}
theorem RP.keep(h:RP w O B e u rv sv ss){c:Nat}(hf:Fm (λy=>O y=c) w w'):RX c w' O B e u rv sv ss:=by
 have ne:∀{k:Nat},c≠k->∀y,O y=k->¬O y=c:=λhk y e e'=>hk (e'.symm.trans e);have a:=h.al;refine⟨λk=>(a.sys (by decide)).keep hf (ne k),λk=>(a.st (by decide)).keep hf (ne k),λk=>(a.lk (by decide)).keep hf (ne k),λk=>?_,λk=>⟨hf.heap (a.id (by decide)).st (ne k _ (a.id (by decide)).ob),(a.id (by decide)).ob⟩,λk=>⟨(a.sp (by decide)).st.keep hf (ne k _ (a.sp (by decide)).ob.1) (ne k _ (a.sp (by decide)).ob.2),(a.sp (by decide)).ob⟩,λk=>(a.rs (by decide)).keep hf (ne k),λi s k hi=>?_,λk=>(a.x (by decide)).keep hf (ne k _ h.x0)⟩
 ·obtain⟨T,ht⟩:=a.tx (by decide);exact⟨T,ht.keep hf (ne k)⟩
 ·have h8:i<8:=by have:=(List.getElem?_eq_some_iff.1 hi).1;rw[h.sl] at this;exact this
  obtain⟨cs,h1,h2⟩:=a.se i s (by omega) hi;exact⟨cs,h1,h2.keep hf (ne k)⟩
theorem RX.wide{c:Nat}(h:RX c w O B e u rv sv ss)(hO:∀y,O y≠99->O' y=O y)(hl:e.seats.length=8):RX c w O' B e u rv sv ss:=by
 have up:∀{k:Nat},k≠99->∀y,O y=k->O' y=k:=λhk y e=>(hO y (by rw[e];exact hk)).trans e;refine⟨λk=>(h.sys k).wide (up (by decide)),λk=>(h.st k).mono (up (by decide)),λk=>(h.lk k).wide (up (by decide)),λk=>?_,λk=>⟨(h.id k).st,up (by decide) _ (h.id k).ob⟩,λk=>⟨(h.sp k).st,up (by decide) _ (h.sp k).ob.1,up (by decide) _ (h.sp k).ob.2⟩,λk=>(h.rs k).wide (up (by decide)),λi s k hi=>?_,h.x⟩
 ·obtain⟨T,ht⟩:=h.tx k;exact⟨T,ht.wide (up (by decide))⟩
 ·have h8:i<8:=by have:=(List.getElem?_eq_some_iff.1 hi).1;rw[hl] at this;exact this
  obtain⟨cs,h1,h2⟩:=h.se i s k hi;exact⟨cs,h1,h2.wide (up (by omega))⟩
open Classical in
theorem tag(O:Nat->Nat)(Z:Nat->Prop)(c:Nat)(hZ:∀y,Z y->O y=c\/O y=99):∃O':Nat->Nat,(∀y,O y≠99->O' y=O y)/\(∀y,Z y->O' y=c)/\∀y,O' y≠99->O y≠99\/Z y:=by
 refine⟨λy=>if O y=99 then(if Z y then c else 99) else O y,λy h=>by simp[h],λy h=>?_,λy h=>?_⟩
 ·by_cases e:O y=99
  ·simp[e,h]
  ·rcases hZ y h with h'|h'
   ·show(if O y=99 then _ else O y)=c;rw[if_neg e];exact h'
   ·exact absurd h' e
 ·by_cases e:O y=99
  ·by_cases z:Z y
   ·exact .inr z
   ·simp[e,z] at h
  ·exact .inl e
end
section
variable{w w':World}{D S:Nat->Prop}{B:Bk}{s:PS}{Xl Xp Q:Nat->Prop}{pb lb db g m fb ob:Nat}{F:List PV}
theorem SI.log(h:SI w Xl Xp Q pb lb db g m fb ob F s){L':Lg}{Xl':Nat->Prop}(hL:LAt w' Xl' lb db L')(hf:Fm Xl w w')(hx:∀y,Xl' y->Xl y\/w.heap.size<=y):SI w' Xl' Xp Q pb lb db g m fb ob F ⟨s.p,L',s.d⟩:=by
 have hd:=h.hD.lt;refine⟨hL,h.hD.keep hf h.ld.1 h.ld.2.1 h.ld.2.2,h.hP.keep hf (λy hy e=>h.lp y e hy),h.wf,λy hy hp=>?_,⟨λe=>?_,λe=>?_,λe=>?_⟩,h.pd⟩
 ·rcases hx y hy with e|e
  ·exact h.lp y e hp
  ·have:=h.hP.lt y hp;omega
 ·rcases hx _ e with e|e
  ·exact h.ld.1 e
  ·omega
 ·rcases hx _ e with e|e
  ·exact h.ld.2.1 e
  ·omega
 ·rcases hx _ e with e|e
  ·exact h.ld.2.2 e
  ·omega
theorem nU(h:SysAt w D B s):Cl prog 96 [pv B.lb] w λo w'=>o=iv (s.l.tail:Int)/\Fm F0 w w':=by obtain⟨Xl,Xp,Q,F,h1,h2⟩:=h;exact ej h1.hL
theorem rL(h:SysAt w D B s):Cl prog 184 [pv B.lb] w λo w'=>o=iv (s.l.last:Int)/\Fm F0 w w':=by obtain⟨Xl,Xp,Q,F,h1,h2⟩:=h;exact iJ h1.hL
theorem rN(h:SysAt w D B s)(k:Int):Cl prog 48 [pv B.lb,iv k] w λo w'=>o=iv (s.l.reserve k).2/\SysAt w' D B ⟨s.p,(s.l.reserve k).1,s.d⟩/\Fm D w w':=by obtain⟨Xl,Xp,Q,F,h1,h2⟩:=h;refine(iL h1.hL k).mono ?_;rintro _ w' ⟨rfl,hL,hf⟩;have hf':=hf.mono (T:=Xl) (λy _ e=>by rw[e];exact h1.hL.lb);exact⟨rfl,⟨Xl,Xp,Q,F,h1.log hL hf' (λy e=>.inl e),h2⟩,hf'.mono (λy _ e=>h2 y (.inl e))⟩
theorem rM(h:SysAt w D B s)(k:Int):Cl prog 43 [pv B.lb,iv k] w λo w'=>o=iv (s.l.release k).2/\SysAt w' D B ⟨s.p,(s.l.release k).1,s.d⟩/\Fm D w w':=by obtain⟨Xl,Xp,Q,F,h1,h2⟩:=h;refine(nX h1.hL k).mono ?_;rintro _ w' ⟨rfl,hL,hf⟩;have hf':=hf.mono (T:=Xl) (λy _ e=>by rw[e];exact h1.hL.lb);exact⟨rfl,⟨Xl,Xp,Q,F,h1.log hL hf' (λy e=>.inl e),h2⟩,hf'.mono (λy _ e=>h2 y (.inl e))⟩
theorem uW(h:SysAt w D B s){cs:Array Value}{r:Rc}(hr:∀w',Fm D w w'->RcAs w' cs r):Cl prog 192 [pv B.lb,.agg cs] w λo w'=>o=.tuple #[iv (s.l.append r).2.1,iv (s.l.append r).2.2]/\(∃D',SysAt w' D' B ⟨s.p,(s.l.append r).1,s.d⟩/\(∀y,D' y->(D y\/w.heap.size<=y)/\y<w'.heap.size))/\Fm D w w':=by
 obtain⟨Xl,Xp,Q,F,h1,h2⟩:=h;refine(qf h1.hL (λw' hf=>hr w' (hf.mono (λy _ e=>h2 y (.inl e))))).mono ?_;rintro _ w' ⟨rfl,Xl',hL,hx,hf⟩;have h3:=h1.log hL hf hx;refine⟨rfl,⟨_,⟨Xl',Xp,Q,F,h3,λy e=>e⟩,λy e=>⟨?_,h3.lt y e⟩⟩,hf.mono (λy _ e=>h2 y (.inl e))⟩;rcases e with e|e
 ·exact(hx y e).imp (λe=>h2 y (.inl e)) id
 ·exact .inl (h2 y (.inr e))
theorem Dt(h:SysAt w D B s)(k:Int){r:Rc}(hr:getD s.l.recs k=some r):Cl prog 119 [pv B.lb,iv k] w λo w'=>∃cs,o=.tuple #[.agg cs,iv 0]/\RcAs w' cs r/\Fm F0 w w':=by
 obtain⟨Xl,Xp,Q,F,h1,h2⟩:=h;refine(zj h1.hL k).mono ?_;rintro o w' ⟨hf,⟨hn,_⟩|⟨r',cs,hg,rfl,hc⟩⟩
 ·rw[hr] at hn;cases hn
 ·rw[hr] at hg;cases hg;exact⟨cs,rfl,hc,hf⟩
theorem yV(h:SysAt w D B s)(u:Int):Cl prog 186 [pv B.lb,iv u] w λo w'=>o=iv (s.l.flush u s.d).2.2/\SysAt w' D B ⟨s.p,(s.l.flush u s.d).1,(s.l.flush u s.d).2.1⟩/\Fm D w w':=by obtain⟨Xl,Xp,Q,F,h1,h2⟩:=h;refine(h1.flush u).mono ?_;rintro _ w' ⟨rfl,h3,hf⟩;exact⟨rfl,⟨Xl,Xp,Q,F,h3,h2⟩,hf.mono (λy _ e=>h2 y e)⟩
theorem mM(h:SysAt w D B s):Cl prog 276 [pv B.pb] w λo w'=>SysAt w' D B ⟨s.p.synced,s.l,s.d⟩/\Fm D w w':=by obtain⟨Xl,Xp,Q,F,h1,h2⟩:=h;refine h1.synced.mono ?_;rintro _ w' ⟨h3,hf⟩;exact⟨⟨Xl,Xp,Q,F,h3,h2⟩,hf.mono (λy _ e=>h2 y e)⟩
theorem yT(h:SysAt w D B s):Cl prog 70 [pv B.db] w λo w'=>o=iv s.d.sync.2/\SysAt w' D B ⟨s.p,s.l,s.d.sync.1⟩/\Fm D w w':=by obtain⟨Xl,Xp,Q,F,h1,h2⟩:=h;refine(dk h1.hD).mono ?_;rintro _ w' ⟨rfl,h3,hf⟩;obtain⟨h4,hf'⟩:=h1.p9 h3 hf;exact⟨rfl,⟨Xl,Xp,Q,F,h4,h2⟩,hf'.mono (λy _ e=>h2 y e)⟩
theorem AX(h:SysAt w D B s)(n:Int):Cl prog 298 [pv B.pb,iv n] w λo w'=>o=.bool (!(getD s.p.owed n).isNone)/\w'=w:=by obtain⟨Xl,Xp,Q,F,h1,h2⟩:=h;exact mB h1.hP n
theorem yU(h:SysAt w D B s)(n pick:Int):Cl prog 199 [pv B.pb,iv n,iv pick] w λo w'=>∃u,o=.tuple #[.agg (pcs (s.fetch n pick).2.1 u),iv (s.fetch n pick).2.2]/\PgOw w' w.heap.size (pcs (s.fetch n pick).2.1 u) (s.fetch n pick).2.1/\(∃D',SysAt w' D' B (s.fetch n pick).1/\(∀y,D' y->(D y\/w.heap.size<=y)/\y<w'.heap.size)/\∀k,u.ownBlock=some k->¬D' k)/\Fm D w w':=by
 obtain⟨Xl,Xp,Q,F,h1,h2⟩:=h;have hd:=h1.hD.lt;refine(rj h1 n pick).mono ?_;rintro _ w' ⟨u,rfl,hp,⟨Xp',Q',F',h3,hx,hu⟩,hf⟩;refine⟨u,rfl,hp,⟨_,⟨Xl,Xp',Q',F',h3,λy e=>e⟩,λy e=>⟨?_,h3.lt y e⟩,λk hk e=>?_⟩,hf.mono (λy _ e=>h2 y e)⟩
 ·rcases e with e|e|e
  ·exact .inl (h2 y (.inl e))
  ·exact(hx y e).imp (λe=>h2 y (.inr (.inl e))) id
  ·exact .inl (h2 y (.inr (.inr e)))
 ·have hge:w.heap.size<=k:=by obtain⟨⟨v,hv,ho⟩,_⟩:=hp;have:u=v:=iZ hv;subst this;exact(aO ho k hk).1
  rcases e with e|e|e
  ·have:=h1.hL.lt k e;omega
  ·exact hu k hk e
  ·rcases e with e|e|e<;>omega
theorem Du(h:SysAt w D B s){cs:Array Value}{b:Pg}(hb:∀w',Fm D w w'->PgAs w' cs b)(n pick:Int):Cl prog 233 [pv B.pb,iv n,.agg cs,iv pick] w λo w'=>o=iv (s.set n b pick).2/\(∃D',SysAt w' D' B (s.set n b pick).1/\(∀y,D' y->(D y\/w.heap.size<=y)/\y<w'.heap.size))/\Fm D w w':=by
 obtain⟨Xl,Xp,Q,F,h1,h2⟩:=h;refine(yg h1 (λw' hf=>hb w' (hf.mono (λy _ e=>h2 y e))) n pick).mono ?_;rintro _ w' ⟨rfl,⟨Xp',Q',F',h3,hx⟩,hf⟩;refine⟨rfl,⟨_,⟨Xl,Xp',Q',F',h3,λy e=>e⟩,λy e=>⟨?_,h3.lt y e⟩⟩,hf.mono (λy _ e=>h2 y e)⟩;rcases e with e|e|e
 ·exact .inl (h2 y (.inl e))
 ·exact(hx y e).imp (λe=>h2 y (.inr (.inl e))) id
 ·exact .inl (h2 y (.inr (.inr e)))
theorem uX(h:SysAt w D B s)(n:Int):Cl prog 141 [pv B.pb,iv n] w λo w'=>o=iv (s.write n).2/\SysAt w' D B (s.write n).1/\Fm D w w':=by obtain⟨Xl,Xp,Q,F,h1,h2⟩:=h;refine(ry h1 n).mono ?_;rintro _ w' ⟨rfl,⟨F',h3⟩,hf⟩;exact⟨rfl,⟨Xl,Xp,Q,F',h3,h2⟩,hf.mono (λy _ e=>h2 y e)⟩
end
end Go.Proofs.YtmdmffeoehfjgaaGreatDoor
