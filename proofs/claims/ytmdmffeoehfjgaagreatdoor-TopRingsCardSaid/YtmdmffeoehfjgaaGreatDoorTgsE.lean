/- Laid for one claim by slim.py out of: parts. -/
import Derived.Test.YtmdmffeoehfjgaaGreatDoorTgsD
set_option maxRecDepth 100000
set_option maxHeartbeats 0
set_option linter.unusedVariables false
set_option linter.unusedSimpArgs false
set_option linter.unusedSectionVars false
open Go.Proofs.Tryz (prog)
namespace Go.Proofs.YtmdmffeoehfjgaaGreatDoor
open Go.Al Go.Proofs
open Go.ChangeMaps (setBlock)
open Go.Proofs.Tryz
open M (Tu keyOk tu dL deadB tuRd fE)
open M (Ent entOk sA fe cmpB vw eM)
open M (Ent entOk sA fe eM)
attribute [local irreducible] World.drew undef aC aL bj bO faV ixV ixS ixA aW cr ixG unV cvI cvS slS slV lenV bW cy aR aQ aO aB isB Instr.build Instr.buildSlice Instr.lookup Instr.mapUpdate Instr.range Instr.next Instr.entry Instr.makeMap Instr.makeSlice convert binOp Instr.sliceAt Instr.makeInterface Builtin.append_ Builtin.copy_ Builtin.delete_ Builtin.clear_ Builtin.len_ Builtin.cap_ Value.cells
section
variable{w w':World}{n0:Nat}{v u:Value}{p:Pg}{L:List Ent}
theorem eE(h:PgN w n0 v p)(hs:∀s∈p.items,s.length<=1000000)(ho:M.opened p=some L):Cl prog 349 [.agg (pcs p v)] w λr w'=>∃ve,r=.tuple #[.agg (opC ve),.bool true]/\w'.ownsRow w.heap.size 221 3 ve L.length (L.flatMap entL)/\Fm F0 w w':=by
 obtain⟨hl,ho⟩:=ch ho;have h255:=hl.len;obtain⟨hLl,hLa⟩:=qD ho;have hi:=h.ins;refine c349 ?_;simp only[RU];refine ae ?_;rintro b1 w1 rfl hs1 hw1 hf1;refine ae ?_;rintro b2 w2 rfl hs2 hw2 hf2;refine ae ?_;rintro b3 w3 rfl hs3 hw3 hf3;have hw1:=hf3.heap (hf2.heap hw1 id) id;have hw2:=hf3.heap hw2 id;have hF:=Fmf (Fmf hf1 hf2) hf3;simp only[RU,PB.all hw1];refine(cH (h.keep hF).as).mono ?_;rintro _ w4 ⟨rfl,hf4⟩;have hw1:=hf4.heap hw1 id;simp only[RU,tW,hl.er,show((0:Int) != 0)=false from rfl,PB.c1 hw1,hl.kind,show((3:Int) != 3)=false from rfl,PB.c3 hw1,hl.right];refine(eJ _ _ _).mono ?_;rintro _ w4 ⟨rfl,rfl⟩;simp only[RU,show(decide ((0:Int)<=0)&&decide ((0:Int)<=65535))=true from rfl,jn1,PB.c4 hw1,hl.high,Jm,PB.c5 hw1,h.it.lenV];rw[<- hLl];refine⟨λvs w5=>∃(i:Nat) (ve:Value),vs=[iv i]/\i<=L.length/\w5.heap[w2.heap.size]?=some (.cells (opC ve) 416)/\w5.ownsRow w4.heap.size 221 3 ve i ((L.take i).flatMap entL)/\Fm (·=w2.heap.size) w4 w5,λvs _=>(L.length - nth vs 0).toNat,⟨0,.slice none 0 0,rfl,oM,hf4.heap hw3 id,World.ownsRow_nil _ _ _ _,Fm.refl _ _⟩,?_⟩;rintro w5 iv_ ⟨i,ve,hvs,hi5,ho5,hov,hf5⟩;cases hvs;have z2:=hf2.size;have z4:=hf4.size;have hw15:=hf5.heap hw1 (oM:¬_=_);have hw25:=hf5.heap (hf4.heap hw2 id) (oM:¬_=_);by_cases hlt:i<L.length
 ·have hx:p.items[i]?=some p.items[i]:=C6 oM;have hsx:=hs p.items[i] (Jk _);generalize p.items[i]=s at hx hsx;obtain⟨e,hLe,hde,hcmp⟩:=hLa i s hx;have hit5:CellsAt w5 v p.items.length 1 (p.items.map stv):=(h.it.keep (Fmf hF hf4) iT).fS hf5 (λhn g hg e=>by have:=h.it.blt hn g hg;omega);obtain⟨ad,hix,_,hc⟩:=hit5.iS (i:=i) (x:=stv s) (by rw[E4,hx];rfl) .i64;simp only[RU,C9 (oM:(i:Int)<(L.length:Int)),hix,hc];refine ae ?_;rintro b6 w6 rfl hs6 hw6 hf6;simp only[RU,PB.c2 (hf6.heap hw15 id),hl.level,show((0:Int) == 0)=true from rfl];refine(kj hsx hde).mono ?_;rintro _ w7 ⟨rfl,hf7⟩;simp only[RU];refine ao (hf7.heap hw6 id) λw8 hw8 hs8 hf8=>?_;simp only[RU,show((0:Int) != 0)=false from rfl];have zo:=aP hov;have z5:=hf5.size;have z7:=(Fmf hf6 hf7).size;have hf68:Fm F0 w5 w8:=Fm.own (Fmf hf6 hf7) hf8 (by rintro y rfl;exact D9 _);have hov8:=ah hov hf68 (λ_ _ _ _ e=>e);have hw58:=hf68.heap ho5 id;have hw18:=hf68.heap hw15 id;apply HB (A:=Fm F0 w8)
  ·intro H;rcases Nat.eq_zero_or_pos i with h0|h0
   ·simp only[RU,C3 (oM:¬(0:Int)<(i:Int))];have hf9:=Fm.drew F0 w8;generalize w8.drew=w9 at hf9;exact H w9 hf9
   ·obtain⟨j,rfl⟩:∃j,i=j+1:=⟨i - 1,oM⟩;have hq:L[j]?=some L[j]:=C6 oM;have hlt0:=hcmp j L[j] rfl hq;generalize L[j]=q at hq hlt0;have hcv:=(CellsAt.aT hov8).keep (Fm.drew F0 w8) iT;obtain⟨ad2,k1,_,k3⟩:=xd hcv (i:=j) (e:=q) (by rw[Jz,IY oM];exact hq) oM;have hd8:=(Fm.drew F0 w8).heap hw58 id;simp only[RU,C9 (oM:(0:Int)<((j+1:Nat):Int)),ab hd8,show IntKind.i64.wrap (((j+1:Nat):Int) - 1)=(j:Int) by rw[af]<;>omega,k1,k3,aa (n:=3) ((Fm.drew F0 w8).heap hw8 id) rfl];refine(gS q e).mono ?_;rintro _ w9 ⟨rfl,hf9⟩;simp only[RU,C3 (oM:¬0<=eM q e)];exact H w9 (Fmf (Fm.drew F0 w8) hf9)
  ·intro w9 hf9;have hw59:=hf9.heap hw58 id;simp only[RU,aa (n:=3) (hf9.heap hw8 id) rfl,cP (o:=2) (n:=3) (us:=entC M.ent0) hw59 (dC:2+3<=6) rfl];refine(gS e M.ent0).mono ?_;rintro _ w10 ⟨rfl,hf10⟩;have hf10:=Fmf hf9 hf10;have hw510:=hf10.heap hw58 id;simp only[RU,ab hw510,aa (n:=3) (hf10.heap hw8 id) rfl];refine dk E76 oM 76 (cs:=entL e) rfl kR (by intro u hu;simp at hu;rcases hu with rfl|rfl|rfl<;>rfl) (ah hov8 hf10 (λ_ _ _ _ e=>e)) (by unfold maxLen;omega) oM (by have:=hf68.size;have:=hf10.size;omega) ?_;intro ve' w11 ho11 _ hf11;refine au (hf11.heap hw510 (oM:¬_<=_)) (j:=0) (dC:0<6) (az ho11) λw12 hw12 hs12 hf12=>?_;simp only[RU,show IntKind.i64.wrap ((i:Int)+1)=((i+1:Nat):Int) by rw[af]<;>omega];refine⟨⟨i+1,ve',rfl,oM,hw12,?_,?_⟩,by simp only[ba];omega⟩
   ·rw[H8,hLe,Jr];refine ah (by simpa using ho11) hf12 (λk hk _ _ e=>oM)
   ·have:=hf68.size;have:=hf10.size;exact((hf5.trans (Fmf hf68 hf10) iT iE).trans hf11 iT (λy hy e=>oM)).trans hf12 iT iT
 ·obtain rfl:i=L.length:=oM;rw[IX] at hov;have c0:=(Fm.drew F0 w5).heap ho5 id;simp only[RU,C3 (oM:¬((L.length:Nat):Int)<(L.length:Int))];refine⟨λw'=>Fm (·=w1.heap.size) w5 w',(Fm.drew _ _),?_⟩;simp only[RU,aa (n:=6) c0 rfl,PB.c2 hw15,hl.level,show((0:Int) == 0)=true from rfl];refine⟨undef,λ_ _=>⟨rfl,trivial⟩,ao ((Fm.drew F0 w5).heap hw25 id) (λw6 hw6 hs6 hf6=>?_) rfl rfl (kK (az hov))⟩;have hf6:=(Fm.drew F0 w5).trans hf6 (U:=(·=w1.heap.size)) iE iT;refine⟨hf6,Hb (n:=6) hw6 rfl rfl ⟨ve,rfl,aU (ah hov hf6 (λk hk _ _ e=>oM)) oM,?_⟩⟩;exact Fm.own (Fm.own (Fmf hF hf4) hf5 (by rintro y rfl;omega)) hf6 (by rintro y rfl;omega)
theorem kG(h:PgN w n0 v p)(hs:∀s∈p.items,s.length<=1000000)(ho:M.opened p=some L):Cl prog 290 [.agg (pcs p v)] w λr w'=>r=iv 0/\Fm F0 w w':=by refine cU1 func290 ?_;refine ae ?_;rintro b1 w1 rfl hs1 hw1 hf1;simp only[RU,PB.all hw1];refine(eE (h.keep hf1) hs ho).mono ?_;rintro _ w2 ⟨ve,rfl,hov,hf2⟩;simp only[RU];refine aD (λw3 hs3 hw3 hf3=>?_) rfl rfl (kK (az hov));exact Fmf hf1 (Fmf hf2 hf3)
theorem mm(h:PgN w n0 v p)(hs:∀s∈p.items,s.length<=1000000)(ho:M.opened p=some L):Cl prog 293 [.agg (pcs p v)] w λr w'=>∃ve,r=.tuple #[ve,iv 0]/\w'.ownsRow w.heap.size 221 3 ve L.length (L.flatMap entL)/\Fm F0 w w':=by have hl:=(ch ho).1;refine cU1 func293 ?_;refine ae ?_;rintro b1 w1 rfl hs1 hw1 hf1;simp only[RU,PB.all hw1];refine(eE (h.keep hf1) hs ho).mono ?_;rintro _ w2 ⟨ve,rfl,hov,hf2⟩;simp only[RU];refine aD (λw3 hs3 hw3 hf3=>?_) rfl rfl (kK (az hov));simp only[RU,PB.c2 (hf3.heap (hf2.heap hw1 id) id),hl.level,show((0:Int) != 0)=false from rfl,ab hw3];exact⟨ve,rfl,aU (ah hov hf3 (λ_ _ _ _ e=>e)) oM,Fmf hf1 (Fmf hf2 hf3)⟩
theorem rZ(ve:Value)(e:Ent):Cl prog 351 [.agg (opC ve),.agg (entC e)] w λr w'=>r=.bool false/\Fm F0 w w':=by refine cU2 func351 ?_;refine ae ?_;rintro b6 w6 rfl hs6 hw6 hf6;refine ae ?_;rintro b7 w7 rfl hs7 hw7 hf7;simp only[RU,ab (hf7.heap hw6 id)];exact Fmf hf6 hf7
theorem xN(h:PgN w n0 v p)(hs:∀s∈p.items,s.length<=1000000)(ho:M.opened p=some L){e:Ent}(he:entOk e=true):Cl prog 291 [.agg (pcs p v),.agg (entC e)] w λr w'=>r=.tuple #[.bool false,iv 0]/\Fm F0 w w':=by refine cU2 func291 ?_;refine ae ?_;rintro b1 w1 rfl hs1 hw1 hf1;refine ae ?_;rintro b2 w2 rfl hs2 hw2 hf2;simp only[RU,PB.all (hf2.heap hw1 id)];refine(eE (h.keep (Fmf hf1 hf2)) hs ho).mono ?_;rintro _ w3 ⟨ve,rfl,hov,hf3⟩;simp only[RU];refine aD (λw4 hs4 hw4 hf4=>?_) rfl rfl (kK (az hov));have hf34:=Fmf hf3 hf4;simp only[RU,aa (n:=3) (hf34.heap hw2 id) rfl];refine(fN he).mono ?_;rintro _ w5 ⟨rfl,hf5⟩;simp only[RU,aa (n:=6) (hf5.heap hw4 id) rfl,aa (n:=3) ((Fmf hf34 hf5).heap hw2 id) rfl];refine(rZ ve e).mono ?_;rintro _ w6 ⟨rfl,hf6⟩;simp only[RU];exact Fmf (Fmf hf1 hf2) (Fmf (Fmf hf34 hf5) hf6)
theorem EJ(n:Nat):shV .shr .u64 (n:Int) 1=some (.int .u64 ((n / 2:Nat):Int)):=by
 have e:shV .shr .u64 (n:Int) 1=some (.int .u64 ((n:Int).fdiv (2 ^ 1))):=rfl;rw[e,Int.fdiv_eq_ediv_of_nonneg _ dC]
 rfl
theorem ou{va:Value}(hv:CellsAt w va L.length 3 (L.flatMap entL))(hn:L.length<=1000)(e:Ent):Cl prog 352 [va,.agg (entC e),.func (.func 353) #[] #[]] w λr w'=>r=.tuple #[iv (M.spot L e),.bool (!(M.notAt L e (M.spot L e)))]/\Fm F0 w w':=by
 refine cU3 func352 ?_ (V [(3,[9,10])]);refine ae ?_;rintro b1 w1 rfl hs1 hw1 hf1;simp only[RU,hv.lenV];refine⟨λvs w2=>∃i j f:Nat,vs=[iv i,iv j]/\i<=j/\j<=L.length/\j - i<f/\M.bsGo L e f i j=M.spot L e/\Fm F0 w1 w2,λvs _=>(nth vs 1 - nth vs 0).toNat,⟨0,L.length,_,rfl,oM,oM,oM,rfl,Fm.refl _ _⟩,?_⟩;rintro w2 v1 v2 ⟨i,j,f,hvs,hij,hj,hf,hgo,hf2⟩;cases hvs;have hv2:=hv.keep (Fmf hf1 hf2) iT;have hw2:=hf2.heap hw1 id;have hd:=Fm.drew F0 w2;obtain⟨f,rfl⟩:∃g,f=g+1:=⟨f - 1,oM⟩;rw[M.bsGo] at hgo;by_cases hlt:i<j
 ·rw[C9 hlt,D8] at hgo;have hx:L[(i+j) / 2]?=some L[(i+j) / 2]:=C6 oM;have hx2:L.getD ((i+j) / 2) M.ent0=L[(i+j) / 2]:=by rw[G6,hx];rfl
  rw[hx2] at hgo;generalize L[(i+j) / 2]=x at hx hgo;obtain⟨ad,k1,_,k3⟩:=xd (hv2.keep hd iT) hx oM;simp only[RU,C9 (oM:(i:Int)<(j:Int)),show IntKind.i64.wrap ((i:Int)+(j:Int))=((i+j:Nat):Int) by rw[af]<;>omega,bN,eK (n:=i+j) oM,jz,EJ,show IntKind.i64.wrap (((i+j) / 2:Nat):Int)=(((i+j) / 2:Nat):Int) by rw[af]<;>omega,k1,k3,aa (n:=3) (hd.heap hw2 id) rfl];refine ax kR ?_;simp only[RU,H9,H1];refine(gS x e).mono ?_;rintro _ w3 ⟨rfl,hf3⟩;have hf3:=Fmf hf2 (Fmf hd hf3);by_cases hc:eM x e<0
  ·rw[C9 hc,D8] at hgo;simp only[RU,C9 hc,show IntKind.i64.wrap ((((i+j) / 2:Nat):Int)+1)=(((i+j) / 2+1:Nat):Int) by rw[af]<;>omega];exact⟨⟨_,j,f,rfl,oM,hj,oM,hgo,hf3⟩,by simp only[ba,cK];omega⟩
  ·rw[C3 hc,C8] at hgo;simp only[RU,C3 hc];exact⟨⟨i,_,f,rfl,oM,oM,oM,hgo,hf3⟩,by simp only[ba,cK];omega⟩
 ·rw[C3 hlt,C8] at hgo;simp only[RU,C3 (oM:¬(i:Int)<(j:Int))];rw[<- hgo];unfold M.notAt;have hfd:=Fmf hf1 (Fmf hf2 hd);by_cases hl:i<L.length
  ·have hx:L[i]?=some L[i]:=C6 hl;rw[hx];generalize L[i]=x at hx;obtain⟨ad,k1,_,k3⟩:=xd (hv2.keep hd iT) hx hl;simp only[RU,C9 (oM:(i:Int)<(L.length:Int)),k1,k3,aa (n:=3) (hd.heap hw2 id) rfl];refine ax kR ?_;simp only[RU,H9,H1];refine(gS x e).mono ?_;rintro _ w3 ⟨rfl,hf3⟩;simp only[RU];exact⟨by rw[aV];simp,Fmf hfd hf3⟩
  ·simp only[RU,C3 (oM:¬(i:Int)<(L.length:Int)),Jc (oM:L.length<=i)];exact hfd
theorem qw(L:List Ent)(e:Ent):∀(f i j:Nat),i<=j->M.bsGo L e f i j<=j
 | 0,i,j,h=>h
 | f+1,i,j,h=>by
  rw[M.bsGo];by_cases hl:i<j
  ·rw[C9 hl,D8];cases decide (eM (L.getD ((i+j) / 2) M.ent0) e<0) with
   | true=>exact qw L e f _ _ oM
   | false=>exact F8 (qw L e f _ _ oM) oM
  ·rw[C3 hl];exact h
theorem Ds(L:List Ent)(e:Ent):M.spot L e<=L.length:=qw L e _ _ _ (Jd _)
theorem Af{e:Ent}(h:entOk e=true):(sA e).length<=1000000:=by unfold entOk at h;rw[C4] at h;have e1:=aK (n:=e.page) oM;have e2:=aK (n:=e.slot) oM;have e3:=aK (n:=e.key.length) oM;simp only[sA,iK,C5];omega
theorem jk(h:PgN w n0 v p)(hs:∀s∈p.items,s.length<=1000000){e:Ent}{q:Pg}(hq:M.nodeIn p e=some q):Cl prog 372 [.agg (pcs p v),.agg (entC e)] w λr w'=>∃u,r=.tuple #[.agg (pcs q u),iv 0]/\PgN w' w.heap.size u q/\Fm F0 w w':=by
 unfold M.nodeIn at hq;obtain⟨L,ho,hq⟩:=bind_some hq;obtain⟨_,h1,hq⟩:=bind_some hq;have h1:=ak h1;rw[E0] at h1;obtain⟨he,hna⟩:=h1;unfold M.fitsP at hq;obtain⟨_,hfit,hq⟩:=bind_some hq;have hfit:=ak hfit
 replace hq:wi p (M.putIt p.items (M.spot L e) (sA e))=q:=I6 hq
 replace hfit:eU (wi p (M.putIt p.items (M.spot L e) (sA e)))=true:=hfit
 have hl:=(ch ho).1;have hll:=(qD (ch ho).2).1;have h255:=hl.len;refine cU2 func372 ?_;refine ae ?_;rintro b1 w1 rfl hs1 hw1 hf1;refine ae ?_;rintro b2 w2 rfl hs2 hw2 hf2;refine ae ?_;rintro b3 w3 rfl hs3 hw3 hf3;have hF:=Fmf hf1 (Fmf hf2 hf3);have hw1:=hf3.heap (hf2.heap hw1 id) id;have hw2:=hf3.heap hw2 id;simp only[RU,PB.all hw1];refine(eE (h.keep hF) hs ho).mono ?_;rintro _ w4 ⟨ve,rfl,hov,hf4⟩;simp only[RU];refine aD (λw5 hs5 hw5 hf5=>?_) rfl rfl (kK (az hov));have g5:=hf5;have hf5:=Fmf hf4 hf5;simp only[RU,PB.c2 (hf5.heap hw1 id),hl.level,show((0:Int) != 0)=false from rfl,aa (n:=3) (hf5.heap hw2 id) rfl];refine(fN he).mono ?_;rintro _ w6 ⟨rfl,hf6⟩;have g6:=Fmf g5 hf6;have hw5:=hf6.heap hw5 id;have hf6:=Fmf hf5 hf6;simp only[RU,aa (n:=6) hw5 rfl,aa (n:=3) (hf6.heap hw2 id) rfl];refine(rZ ve e).mono ?_;rintro _ w7 ⟨rfl,hf7⟩;have g7:=Fmf g6 hf7;have hw5:=hf7.heap hw5 id;have hf7:=Fmf hf6 hf7;simp only[RU,ab hw5,aa (n:=3) (hf7.heap hw2 id) rfl];refine(ou ((CellsAt.aT hov).keep g7 iT) oM e).mono ?_;rintro _ w8 ⟨rfl,hf8⟩;have hf8:=Fmf hf7 hf8;simp only[RU,hna];have hfd:=Fmf hf8 (Fm.drew F0 w8);refine⟨λw'=>Fm F0 w3 w',hfd,rdP (λw' hf=>PB.all (hf.heap hw1 id)) ?_⟩;simp only[RU,aa (n:=3) (hfd.heap hw2 id) rfl];refine(ki he).mono ?_;rintro _ w9 ⟨rfl,hf9⟩;have hf9:=Fmf hfd hf9;have hF9:=Fmf hF hf9;refine⟨hf9,?_⟩;have hp:=kW (h.keep hF9) (j:=M.spot L e) (by have:=Ds L e;omega) (Af he) hfit;rw[hq] at hp;refine hp.mono ?_;rintro _ w10 ⟨u,rfl,hN,hf10⟩;simp only[RU];refine ao ((Fmf hf9 hf10).heap hw3 id) (λw11 hw11 hs11 hf11=>?_) rfl rfl (lK _ hN.one);simp only[RU,aa (n:=6) hw11 rfl];have z2:=hf2.size;have z3:=hf3.size;have z9:=hf9.size;exact⟨u,rfl,(hN.dO hf11 (by rintro y rfl;omega)).base hF9.size,Fm.own (Fmf hF9 hf10) hf11 (by rintro y rfl;omega)⟩
end
theorem stl(l:Bs):(str l).toList=l:=by rw[Go.ByteArray.toList_eq];rfl
theorem GK(o1 o2:Operand)(p q:Ent)(w:World):(DQ .eql 221 o1 o2 (.agg (entC p)) (.agg (entC q))).run prog w=.ok (.bool (decide (p=q))) w:=by
 have hS:prog.underlying 221=some (.struct (prog.fieldsOf 221)):=kR;have hp:prog.stoodInHeld 221=false:=kR;have hm:prog.eqGuardType prog.depth 221=false:=kR;have u3:=underlying3;have u9:=underlying9;unfold DQ;rw[Sem.run_bind,run_eqGuard_agg w .eql 221 o1 o2 _ _ hm,Result.andThen_ok,run_eql_struct,show(10000:Nat)=9999+1 from rfl,run_equalIn_agg w 9999 221 _ _ hS hp];have a3:=isAgg3;have z3:=sizeOf3;have a9:=isAgg9;have z9:=sizeOf9;simp only[Program.fieldsOf,underlying221];obtain⟨p1,p2,p3⟩:=p;obtain⟨q1,q2,q3⟩:=q
 go_simp
 by_cases h1:p1=q1<;>by_cases h2:p2=q2<;>by_cases h3:p3=q3<;>simp[h1,h2,h3,stl]
section
variable{w w':World}{n0:Nat}{v u:Value}{p q:Pg}{L:List Ent}
theorem tU{va:Value}(hv:CellsAt w va L.length 3 (L.flatMap entL)){e:Ent}(he:e∉L):Cl prog 294 [va,.agg (entC e)] w λr w'=>r=.bool false/\Fm F0 w w':=by
 have hlt:=hv.lt;unfold maxLen at hlt;refine cU2 func294 ?_;refine ae ?_;rintro b1 w1 rfl hs1 hw1 hf1;simp only[RU,aa (n:=3) hw1 rfl];refine cU2 func354 ?_ (V [(2,[8])]);refine ae ?_;rintro b2 w2 rfl hs2 hw2 hf2;simp only[RU,hv.lenV];refine⟨λvs w3=>∃i:Nat,vs=[iv i]/\i<=L.length/\Fm F0 w2 w3,λvs _=>(L.length - nth vs 0).toNat,⟨0,rfl,oM,Fm.refl _ _⟩,?_⟩;rintro w3 v1 ⟨i,hvs,hi,hf3⟩;cases hvs;by_cases hl:i<L.length
 ·have hx:L[i]?=some L[i]:=C6 hl;have hne:e≠L[i]:=λh=>he (h▸Jk hl);generalize L[i]=x at hx hne;have hfd:=Fmf hf3 (Fm.drew F0 w3);obtain⟨ad,k1,_,k3⟩:=xd (hv.keep (Fmf (Fmf hf1 hf2) hfd) iT) hx hl;simp only[RU,C9 (oM:(i:Int)<(L.length:Int)),aa (n:=3) (hfd.heap hw2 id) rfl,k1,k3];refine ag (GK _ _ _ _ _) ?_;simp only[RU,C3 hne,show IntKind.i64.wrap ((i:Int)+1)=((i+1:Nat):Int) by rw[af]<;>omega];exact⟨⟨i+1,rfl,oM,hfd⟩,by simp only[ba];omega⟩
 ·simp only[RU,C3 (oM:¬(i:Int)<(L.length:Int)),show decide ((0:Int)<=-1)=false from rfl];exact Fmf (Fmf hf1 hf2) hf3
theorem tA(h:PgN w n0 v p)(hs:∀s∈p.items,s.length<=1000000)(ho:M.opened p=some L){e:Ent}(he:entOk e=true):Cl prog 206 [.agg (pcs p v),iv 0,.agg (entC e)] w λr w'=>r=.tuple #[iv 0,.bool true,iv 0]/\Fm F0 w w':=by have hl:=(ch ho).1;refine cU3 func206 ?_;refine ae ?_;rintro b1 w1 rfl hs1 hw1 hf1;refine ae ?_;rintro b2 w2 rfl hs2 hw2 hf2;have hF:=Fmf hf1 hf2;have hw1:=hf2.heap hw1 id;simp only[RU,show decide ((0:Int)<0)=false from rfl,PB.c2 hw1,hl.level,PB.all hw1];refine(kG (h.keep hF) hs ho).mono ?_;rintro _ w3 ⟨rfl,hf3⟩;simp only[RU,show((0:Int) != 0)=false from rfl,PB.all (hf3.heap hw1 id),aa (n:=3) (hf3.heap hw2 id) rfl];refine(xN (h.keep (Fmf hF hf3)) hs ho he).mono ?_;rintro _ w4 ⟨rfl,hf4⟩;have hf4:=Fmf hf3 hf4;simp only[RU,show((0:Int) == 0)=true from rfl,PB.c2 (hf4.heap hw1 id),hl.level];exact Fmf hF hf4
theorem om{item:Bs}(hq:M.blay p item=some q):∃e L,fe item=some e/\M.opened p=some L/\e∉L/\M.nodeIn p e=some q/\entOk e=true:=by unfold M.blay at hq;obtain⟨e,h1,hq⟩:=bind_some hq;obtain⟨L,h2,hq⟩:=bind_some hq;obtain⟨_,h3,hq⟩:=bind_some hq;have h3:=ak h3;refine⟨e,L,h1,h2,by simpa using h3,hq,?_⟩;unfold M.nodeIn at hq;obtain⟨_,_,hq⟩:=bind_some hq;obtain⟨_,h5,_⟩:=bind_some hq;have h5:=ak h5;rw[E0] at h5;exact h5.1
theorem wo(h:PgN w n0 v p)(hs:∀s∈p.items,s.length<=1000000){item:Bs}(hi:item.length<=1000000)(hq:M.blay p item=some q):Cl prog 363 [.agg (pcs p v),stv item] w λr w'=>∃u e,r=.tuple #[.agg (pcs q u),.agg (entC e),iv 0]/\PgN w' w.heap.size u q/\Fm F0 w w':=by obtain⟨e,L,hd,ho,hne,hn,he⟩:=om hq;have hl:=(ch ho).1;refine cU2 func363 ?_ (V []) (J [(22,[9])]);refine ae ?_;rintro b1 w1 rfl hs1 hw1 hf1;refine ae ?_;rintro b2 w2 rfl hs2 hw2 hf2;refine ae ?_;rintro b3 w3 rfl hs3 hw3 hf3;have hF:=Fmf hf1 (Fmf hf2 hf3);have hw1:=hf3.heap (hf2.heap hw1 id) id;have hw2:=hf3.heap hw2 id;simp only[RU,PB.all hw1];refine(kG (h.keep hF) hs ho).mono ?_;rintro _ w4 ⟨rfl,hf4⟩;have z4:=hf4.size;simp only[RU,show((0:Int) != 0)=false from rfl];refine ae ?_;rintro b5 w5 rfl hs5 hw5 hf5;refine ae ?_;rintro b6 w6 rfl hs6 hw6 hf6;have hw5:=hf6.heap hw5 id;have hf6:=Fmf hf4 (Fmf hf5 hf6);simp only[RU,jn1,PB.c2 (hf6.heap hw1 id),hl.level,show((0:Int) == 0)=true from rfl];refine(kj hi hd).mono ?_;rintro _ w7 ⟨rfl,hf7⟩;simp only[RU];refine ao (hf7.heap hw6 id) λw8 hw8 hs8 hf8=>?_;have z8:=hf7.size;have hw5:=hf8.heap (hf7.heap hw5 id) (oM:¬_=_);have hf8:=Fm.own (Fmf hf6 hf7) hf8 (by rintro y rfl;omega);simp only[RU,show((0:Int) != 0)=false from rfl,PB.all (hf8.heap hw1 id)];refine(mm (h.keep (Fmf hF hf8)) hs ho).mono ?_;rintro _ w9 ⟨ve,rfl,hov,hf9⟩;have hw8:=hf9.heap hw8 id;simp only[RU,aa (n:=3) hw8 rfl];refine(tU (CellsAt.aT hov) hne).mono ?_;rintro _ w10 ⟨rfl,hf10⟩;have hw8:=hf10.heap hw8 id;have g10:=Fmf hf9 hf10;have hf10:=Fmf hf8 g10;simp only[RU,PB.all (hf10.heap hw1 id),aa (n:=3) hw8 rfl];refine(jk (h.keep (Fmf hF hf10)) hs hn).mono ?_;rintro _ w11 ⟨u,rfl,hN,hf11⟩;have hw8:=hf11.heap hw8 id;have z11:=(Fmf g10 hf11).size;have z10:=g10.size;simp only[RU];refine ao ((Fmf g10 hf11).heap hw5 id) (λw12 hw12 hs12 hf12=>?_) rfl rfl (lK _ hN.one);have hw8:=hf12.heap hw8 (oM:¬_=_);have hN:=hN.dO hf12 (by rintro y rfl;omega);have hf12:=Fm.own (Fmf hf10 hf11) hf12 (by rintro y rfl;omega);have hfd:=Fmf hf12 (Fm.drew F0 w12);refine⟨λw'=>Fm (·=w1.heap.size) w12 w',Fm.drew _ _,?_⟩;simp only[RU,aa (n:=6) ((Fm.drew F0 w12).heap hw12 id) rfl];refine rdP (λw' hf=>aa (n:=3) (hf.heap hw8 (oM:¬_=_)) rfl) ?_;refine ao (hfd.heap hw2 id) (λw13 hw13 hs13 hf13=>?_) rfl rfl (lK _ hN.one);have g13:=(Fm.drew F0 w12).trans hf13 (U:=(·=w1.heap.size)) iE iT;refine⟨g13,ao (g13.heap (hf12.heap hw3 id) (oM:¬_=_)) (λw14 hw14 hs14 hf14=>?_)⟩;simp only[RU,aa (n:=6) (hf14.heap hw13 (oM:¬_=_)) rfl,aa (n:=3) hw14 rfl];have z12:=hf12.size;have hN:=(hN.dO g13 (by rintro y rfl;omega)).dO hf14 (by rintro y rfl;omega);exact⟨u,e,rfl,hN.base oM,Fm.own (Fm.own (Fmf hF hf12) g13 (by rintro y rfl;omega)) hf14 (by rintro y rfl;omega)⟩
theorem pw(h:PgN w n0 v p)(hs:∀s∈p.items,s.length<=1000000){item:Bs}(hi:item.length<=1000000)(hq:M.blay p item=some q)(n:Int):Cl prog 303 [.agg (pcs p v),iv n,stv item] w λr w'=>r=.tuple #[iv 0,iv 0]/\Fm F0 w w':=by refine cU3 func303 ?_;refine ae ?_;rintro b1 w1 rfl hs1 hw1 hf1;simp only[RU,PB.all hw1];refine(wo (h.keep hf1) hs hi hq).mono ?_;rintro _ w2 ⟨u,e,rfl,hN,hf2⟩;simp only[RU];refine ae ?_;rintro b3 w3 rfl hs3 hw3 hf3;refine ae ?_;rintro b4 w4 rfl hs4 hw4 hf4;refine ao (hf4.heap hw3 id) (λw5 hw5 hs5 hf5=>?_) rfl rfl (lK _ hN.one);refine ao (hf5.heap hw4 (oM:¬_=_)) λw6 hw6 hs6 hf6=>?_;simp only[RU,show((0:Int) != 3)=true from rfl];have z:=hf2.size;exact Fm.own (Fm.own (Fmf hf1 (Fmf hf2 (Fmf hf3 hf4))) hf5 (by rintro y rfl;omega)) hf6 (by rintro y rfl;omega)
theorem apart_spec:Cl prog 434 [.slice none 0 0,iv 0] w λr w'=>r=.bool true/\Fm F0 w w':=by refine cU2 func434 ?_;simp only[RU,show(((0:Nat):Int) != 0)=false from rfl];refine cU2 func103 ?_;refine cU2 func101 ?_ (V [(2,[8])]);refine⟨λvs w'=>vs=[iv 0]/\w'=w,λ_ _=>0,⟨rfl,rfl⟩,?_⟩;rintro w2 v1 ⟨hv,rfl⟩;cases hv;simp only[RU,show decide ((0:Int)<((0:Nat):Int))=false from rfl,show decide ((0:Int)<=-1)=false from rfl,show decide ((0:Int)<2)=true from rfl];exact Fm.drew _ _
theorem tZ(h:PgN w n0 v p)(hs:∀s∈p.items,s.length<=1000000){item:Bs}(hi:item.length<=1000000)(hq:M.blay p item=some q)(n:Int):Cl prog 411 [.agg (pcs p v),iv n,stv item,.slice none 0 0] w λr w'=>r=.tuple #[.agg (rcs { M.rec0 with kind:=3,page:=n,data:=item } nl nl nl nl nl),iv 0]/\Fm F0 w w':=by refine cU4 func411 ?_ (V []) (J [(18,[19]),(24,[11,22])]);refine ae ?_;rintro b1 w1 rfl hs1 hw1 hf1;refine ae ?_;rintro b2 w2 rfl hs2 hw2 hf2;have hF:=Fmf hf1 hf2;simp only[RU,PB.all (hf2.heap hw1 id)];refine(pw (h.keep hF) hs hi hq n).mono ?_;rintro _ w3 ⟨rfl,hf3⟩;simp only[RU,show((0:Int) != 0)=false from rfl];refine(apart_spec).mono ?_;rintro _ w4 ⟨rfl,hf4⟩;have hf4:=Fmf hf3 hf4;simp only[RU,show((0:Int) == 0)=true from rfl];refine bst (rcs { M.rec0 with kind:=3,page:=n,data:=item } nl nl nl nl nl) (ao (hf4.heap hw2 id) λw5 hw5 hs5 hf5=>?_);simp only[RU,aa (n:=16) hw5 rfl];exact Fm.own (Fmf hF hf4) hf5 (by rintro y rfl;omega)
theorem tC(r:Rc)(h5:r.kind≠5){a b c d e:Value}:Cl prog 412 [.agg (rcs r a b c d e)] w λv w'=>v=.tuple #[.agg (entC M.ent0),iv 0,.bool false]/\Fm F0 w w':=by refine cU1 func412 ?_;refine ae ?_;rintro b1 w1 rfl hs1 hw1 hf1;refine ae ?_;rintro b2 w2 rfl hs2 hw2 hf2;simp only[RU,show w2.cell? ⟨w.heap.size,3,none⟩=some (.int .u8 r.kind) by rw[ab (hf2.heap hw1 id)];rfl,aF,C3 h5];refine bst (entC M.ent0) (ao hw2 λw3 hw3 hs3 hf3=>?_);simp only[RU,aa (n:=3) hw3 rfl];exact Fm.own (Fmf hf1 hf2) hf3 (by rintro y rfl;omega)
theorem nc:∀a b:Bs,Op.bytesLess a b=decide (M.cmpB a b<0)
 | [],[]=>rfl
 | [],_::_=>rfl
 | _::_,[]=>rfl
 | x::a,y::b=>by
  rw[Op.bytesLess,M.cmpB,nc a b];have e:(x == y)=decide (x.toNat=y.toNat):=by rw[Bool.eq_iff_iff];simp[UInt8.toNat_inj]
  simp only[UInt8.lt_iff_toNat_lt,e];rcases Nat.lt_trichotomy x.toNat y.toNat with h|h|h
  ·simp[h]
  ·simp[h]
  ·simp[h,(oM:¬x.toNat<y.toNat),(oM:¬x.toNat=y.toNat)]
theorem xn(h:PgN w n0 v p)(hs:∀s∈p.items,s.length<=1000000){f t:Bs}{R:List Ent}(hq:M.hits p f t=some R):Cl prog 357 [.agg (pcs p v),stv f,stv t] w λr w'=>∃vo,r=.tuple #[vo,.bool false,iv 0]/\w'.ownsRow w.heap.size 221 3 vo R.length (R.flatMap entL)/\Fm F0 w w':=by
 unfold M.hits at hq;obtain⟨L,ho,hq⟩:=bind_some hq;cases hq;have hl:=(ch ho).1;have hll:=(qD (ch ho).2).1;have h255:=hl.len;refine cU3 func357 ?_ (V [(7,[12,28])]) (J [(11,[12])]);refine ae ?_;rintro b1 w1 rfl hs1 hw1 hf1;refine ae ?_;rintro b2 w2 rfl hs2 hw2 hf2;have hw1:=hf2.heap hw1 id;have hF:=Fmf hf1 hf2;simp only[RU,PB.all hw1];refine(mm (h.keep hF) hs ho).mono ?_;rintro _ w3 ⟨ve,rfl,hov,hf3⟩;simp only[RU,show((0:Int) != 0)=false from rfl,(CellsAt.aT hov).lenV];refine⟨λvs w4=>∃(k:Nat) (vo:Value),vs=[vo,iv k]/\k<=L.length/\w4.ownsRow w3.heap.size 221 3 vo ((L.take k).filter λe=>decide (0<=M.cmpB e.key f)&&M.below t e.key).length (((L.take k).filter λe=>decide (0<=M.cmpB e.key f)&&M.below t e.key).flatMap entL)/\Fm F0 w3 w4,λvs _=>(L.length - nth vs 1).toNat,⟨0,_,rfl,oM,by simpa using World.ownsRow_nil w3 _ _ _,Fm.refl _ _⟩,?_⟩;rintro w4 vo v1 ⟨k,_,hvs,hk,ho4,hf4⟩;cases hvs;by_cases hlt:k<L.length
 ·have hx:L[k]?=some L[k]:=C6 hlt;generalize L[k]=x at hx;obtain⟨ad,k1,_,k3⟩:=xd ((CellsAt.aT hov).keep hf4 iT) hx hlt;have z3:=hf3.size;have z4:=hf4.size;simp only[RU,C9 (oM:(k:Int)<(L.length:Int)),jn1,k1,k3];refine aD λw5 hs5 hw5 hf5=>?_;have g5:=Fmf hf4 hf5;have ho5:=ah ho4 hf5 (λ_ _ _ _ e=>e);have hw25:=(Fmf hf3 g5).heap hw2 id;have egq:aC TypeDesc.string .geq (stv x.key) (stv f)=some (.bool (decide (0<=M.cmpB x.key f))):=by rw[vZ,stl,stl,nc];congr 2;by_cases h:M.cmpB x.key f<0<;>simp[h]<;>omega
  have fin:∀b:Bool,(decide (0<=M.cmpB x.key f)&&M.below t x.key)=b->(L.take (k+1)).filter (λe=>decide (0<=M.cmpB e.key f)&&M.below t e.key)=(L.take k).filter (λe=>decide (0<=M.cmpB e.key f)&&M.below t e.key)++(bif b then[x] else[]):=by intro b hb;rw[H8,hx,List.filter_append];cases b<;>simp[hb]
  have e1:IntKind.i64.wrap ((k:Int)+1)=((k+1:Nat):Int):=by rw[af]<;>omega
  have hlen:((L.take k).filter λe=>decide (0<=M.cmpB e.key f)&&M.below t e.key).length<=255:=F8 (KM _ _) (by rw[E5];omega);generalize (L.take k).filter (λe=>decide (0<=M.cmpB e.key f)&&M.below t e.key)=R at ho5 fin hlen;have no:(decide (0<=M.cmpB x.key f)&&M.below t x.key)=false->(∃(k':Nat) (vo':Value),[vo,iv ((k+1:Nat):Int)]=[vo',iv k']/\k'<=L.length/\w5.ownsRow w3.heap.size 221 3 vo' ((L.take k').filter λe=>decide (0<=M.cmpB e.key f)&&M.below t e.key).length (((L.take k').filter λe=>decide (0<=M.cmpB e.key f)&&M.below t e.key).flatMap entL)/\Fm F0 w3 w5):=by intro hb;refine⟨k+1,vo,rfl,oM,?_,g5⟩;rw[fin false hb,C8,H1];exact ho5
  simp only[RU,ab hw5,egq];cases hA:decide (0<=M.cmpB x.key f) with
  | false=>simp only[RU,e1];exact⟨no (by rw[hA];rfl),by simp only[cK];omega⟩
  | true=>
   simp only[RU];refine ax kR ?_;simp only[RU,H9,Jj];refine cU2 func407 ?_;simp only[RU,ab hw25];rw[stl,stl,nc];apply HB (A:=λw'=>w'=w5/\M.below t x.key=true)
   ·intro H;unfold M.below at H no;cases hT:decide (t=[]) with
    | true=>simp only[RU];generalize hg:w5=w6;exact H _ ⟨hg.symm,by rw[hT];rfl⟩
    | false=>
     cases hB:decide (M.cmpB x.key t<0) with
     | true=>simp only[RU];generalize hg:w5=w6;exact H _ ⟨hg.symm,by rw[hT,hB];rfl⟩
     | false=>simp only[RU,e1];exact⟨no (by rw[hA,hT,hB];rfl),by simp only[cK];omega⟩
   ·rintro _ ⟨rfl,hb⟩;have z5:=g5.size;simp only[RU,aa (n:=3) hw5 rfl];refine dk E76 oM 76 (cs:=entL x) rfl kR (by intro u hu;simp at hu;rcases hu with rfl|rfl|rfl<;>rfl) ho5 (by unfold maxLen;omega) oM z5 ?_;intro vo' w6 ho6 _ hf6;simp only[RU,e1];refine⟨⟨k+1,vo',rfl,oM,?_,Fm.own g5 hf6 (λy hy=>hy)⟩,by simp only[cK];omega⟩;rw[fin true (by rw[hA,hb];rfl),D8,C5,Jr];simpa using ho6
 ·obtain rfl:k=L.length:=oM;rw[IX] at ho4;simp only[RU,C3 (oM:¬((L.length:Nat):Int)<(L.length:Int)),PB.c3 ((Fmf hf3 hf4).heap hw1 id),hl.right,show((0:Int) == 0)=true from rfl];exact⟨vo,rfl,aU ho4 (Fmf hF hf3).size,Fmf hF (Fmf hf3 hf4)⟩
end
open M (Tu tu dL fE)
section
variable{w w':World}{n0:Nat}{v u:Value}{p q:Pg}{s:Bs}{x:Option Tu}{t:Tu}
theorem cJ{i:Int}(h:M.itemAt p i=some s):∃j:Nat,i=j/\p.items[j]?=some s/\j<p.items.length:=by unfold M.itemAt at h;obtain⟨_,h1,h⟩:=bind_some h;have h1:=F9 (ak h1);refine⟨i.toNat,oM,h,?_⟩;obtain⟨hlt,_⟩:=E2.1 h;exact hlt
theorem sH(h:PgN w n0 v p)(hk:p.kind=2){i:Int}(hi:M.itemAt p i=some s)(hs:s.length<=1000000)(hx:M.tuAt s=some x):Cl prog 446 [.agg (pcs p v),iv i] w λr w'=>r=.tuple #[.agg (tuC (x.getD tu0)),.bool x.isSome]/\Fm F0 w w':=by obtain⟨j,rfl,hj,hlt⟩:=cJ hi;refine cU2 func446 ?_;refine ae ?_;rintro b1 w1 rfl hs1 hw1 hf1;refine ae ?_;rintro b2 w2 rfl hs2 hw2 hf2;have hw1:=hf2.heap hw1 id;have hF:=Fmf hf1 hf2;obtain⟨ad,k1,_,k2⟩:=(h.it.keep hF iT).iS (i:=j) (x:=stv s) (by rw[E4,hj];rfl) .i64;simp only[RU,PB.c1 hw1,hk,show((2:Int) != 2)=false from rfl,C3 (oM:¬(j:Int)<0),PB.c5 hw1,h.it.lenV,C3 (oM:¬(p.items.length:Int)<=(j:Int)),k1,k2];refine(fD hs hx).mono ?_;rintro _ w3 ⟨rfl,hf3⟩;simp only[RU];refine aD λw4 hs4 hw4 hf4=>?_;have hf4:=Fmf hf3 hf4;simp only[RU,aa (n:=5) hw4 rfl];refine ao (hf4.heap hw2 id) λw5 hw5 hs5 hf5=>?_;simp only[RU,aa (n:=5) hw5 rfl];refine⟨?_,Fm.own (Fmf hF hf4) hf5 (by rintro y rfl;omega)⟩;cases x<;>rfl
theorem uf(h:PgN w n0 v p)(hk:p.kind=2){i:Int}(hi:M.itemAt p i=some s)(hs:s.length<=1000000)(hx:M.tuAt s=some x){key:Bs}(hkey:∀t,x=some t->t.key=key):Cl prog 430 [.agg (pcs p v),iv i,stv key] w λr w'=>r=.tuple #[.agg (tuC (x.getD tu0)),.bool x.isSome]/\Fm F0 w w':=by
 refine cU3 func430 ?_;refine ae ?_;rintro b1 w1 rfl hs1 hw1 hf1;refine ae ?_;rintro b2 w2 rfl hs2 hw2 hf2;have hF:=Fmf hf1 hf2;simp only[RU,PB.all (hf2.heap hw1 id)];refine(sH (h.keep hF) hk hi hs hx).mono ?_;rintro _ w3 ⟨rfl,hf3⟩;simp only[RU];refine aD λw4 hs4 hw4 hf4=>?_;have hf4:=Fmf hf3 hf4;cases x with
 | none=>simp only[RU];refine bst (tuC tu0) (ao (hf4.heap hw2 id) λw5 hw5 hs5 hf5=>?_);simp only[RU,aa (n:=5) hw5 rfl];exact⟨rfl,Fm.own (Fmf hF hf4) hf5 (by rintro y rfl;omega)⟩
 | some t=>simp only[RU,ab hw4,JH,hkey t rfl,Jm,aa (n:=5) hw4 rfl];refine ao (hf4.heap hw2 id) λw5 hw5 hs5 hf5=>?_;simp only[RU,aa (n:=5) hw5 rfl];exact Fm.own (Fmf hF hf4) hf5 (by rintro y rfl;omega)
theorem pR(h:PgN w n0 v p){n:Nat}(hn:M.slotOf p=some n):Cl prog 313 [.agg (pcs p v)] w λr w'=>r=iv (p.items.length:Nat)/\Fm F0 w w':=by
 unfold M.slotOf at hn;obtain⟨_,hn,_⟩:=bind_some hn;have hn:=G8.1 (ak hn);have hi:=h.ins;refine cU1 func313 ?_;refine ae ?_;rintro b1 w1 rfl hs1 hw1 hf1;refine⟨λw'=>w'=w1.drew,rfl,?_⟩;simp only[RU];refine rdP (u:=v) (λw' hw=>by rw[hw,bE];exact PB.c5 hw1) ?_;refine cU0 func284 ?_;refine cU2 func378 ?_ (V [(2,[8])]);simp only[RU,h.it.lenV];refine⟨λvs w3=>∃i:Nat,vs=[iv i]/\i<=p.items.length/\w3=w1.drew,λvs _=>(p.items.length - nth vs 0).toNat,⟨0,rfl,oM,rfl⟩,?_⟩;rintro w3 v1 ⟨i,hvs,hil,rfl⟩;cases hvs;by_cases hl:i<p.items.length
 ·have hx:p.items[i]?=some p.items[i]:=C6 hl;have hne:=hn p.items[i] (Jk hl);generalize p.items[i]=s at hx hne;obtain⟨ad,k1,_,k2⟩:=(h.it.keep (Fmf hf1 (Fm.drew F0 w1)) iT).iS (i:=i) (x:=stv s) (by rw[E4,hx];rfl) .i64;rw[bE] at k2;simp only[RU,C9 (oM:(i:Int)<(p.items.length:Int)),k1,k2,show decide (([]:Bs)=s)=false from C3 λh=>by subst h;simp at hne,show IntKind.i64.wrap ((i:Int)+1)=((i+1:Nat):Int) by rw[af]<;>omega];exact⟨⟨i+1,rfl,oM,trivial⟩,by simp only[ba];omega⟩
 ·simp only[RU,C3 (oM:¬(i:Int)<(p.items.length:Int)),show decide ((0:Int)<=-1)=false from rfl,PB.c5 hw1,h.it.lenV];exact Fmf hf1 (Fm.drew F0 w1)
theorem ln{n:Nat}(hn:M.slotOf p=some n):n=p.items.length:=by unfold M.slotOf at hn;obtain⟨_,_,hn⟩:=bind_some hn;exact(I6 hn).symm
theorem mc(h:PgN w n0 v p)(hs:s.length<=1000000)(hq:M.heapPut p s=some q):Cl prog 315 [.agg (pcs p v),iv (p.items.length:Nat),stv s] w λr w'=>∃u,r=.tuple #[.agg (pcs q u),iv 0]/\PgN w' w.heap.size u q/\Fm F0 w w':=by
 unfold M.heapPut M.fitsP at hq;obtain⟨_,hfit,hq⟩:=bind_some hq;have e:p.items++[s]=M.putIt p.items p.items.length s:=by simp[M.putIt]
 replace hq:wi p (M.putIt p.items p.items.length s)=q:=by rw[<- e];exact I6 hq
 have hfit:eU (wi p (M.putIt p.items p.items.length s))=true:=by rw[<- e];exact ak hfit
 refine cU3 func315 ?_;refine ae ?_;rintro b1 w1 rfl hs1 hw1 hf1;refine ae ?_;rintro b2 w2 rfl hs2 hw2 hf2;have hw1:=hf2.heap hw1 id;have hF:=Fmf hf1 hf2;simp only[RU,PB.c5 hw1,h.it.lenV,I0,PB.all hw1];have hp:=kW (h.keep hF) (D9 _) hs hfit;rw[hq] at hp;refine hp.mono ?_;rintro _ w3 ⟨u,rfl,hN,hf3⟩;simp only[RU];refine ao (hf3.heap hw2 id) (λw4 hw4 hs4 hf4=>?_) rfl rfl (lK _ hN.one);simp only[RU,aa (n:=6) hw4 rfl];exact⟨u,rfl,(hN.dO hf4 (by rintro y rfl;omega)).base hF.size,Fm.own (Fmf hF hf3) hf4 (by rintro y rfl;omega)⟩
theorem ue(h:PgN w n0 v p)(hs:s.length<=1000000){j:Nat}(hj:j<p.items.length)(hq:M.heapWith p j s=some q):Cl prog 315 [.agg (pcs p v),iv j,stv s] w λr w'=>∃u,r=.tuple #[.agg (pcs q u),iv 0]/\PgN w' w.heap.size u q/\Fm F0 w w':=by
 unfold M.heapWith M.fitsP at hq;obtain⟨_,hfit,hq⟩:=bind_some hq
 replace hq:wi p (p.items.set j s)=q:=I6 hq
 have hfit:eU (wi p (p.items.set j s))=true:=ak hfit;refine cU3 func315 ?_;refine ae ?_;rintro b1 w1 rfl hs1 hw1 hf1;refine ae ?_;rintro b2 w2 rfl hs2 hw2 hf2;have hw1:=hf2.heap hw1 id;have hF:=Fmf hf1 hf2;simp only[RU,PB.c5 hw1,h.it.lenV,aV,C3 (oM:¬(j:Int)=(p.items.length:Int)),PB.all hw1];have hp:=iZ (h.keep hF) hj hs hfit;rw[hq] at hp;refine hp.mono ?_;rintro _ w3 ⟨u,rfl,hN,hf3⟩;simp only[RU];refine ao (hf3.heap hw2 id) (λw4 hw4 hs4 hf4=>?_) rfl rfl (lK _ hN.one);simp only[RU,aa (n:=6) hw4 rfl];exact⟨u,rfl,(hN.dO hf4 (by rintro y rfl;omega)).base hF.size,Fm.own (Fmf hF hf3) hf4 (by rintro y rfl;omega)⟩
theorem xm(h:PgN w n0 v p)(hk:p.kind=2){n:Nat}(hn:M.slotOf p=some n){t:Tu}(ht:tu t=true)(hq:M.heapPut p (dL t)=some q)(hl:(dL t).length<=1000000)(pg:Int):Cl prog 359 [.agg (pcs p v),iv pg,.agg (tuC t)] w λr w'=>r=.tuple #[.agg (rcs { M.rec0 with kind:=1,xid:=t.xmin,page:=pg,slot:=n,data:=dL t } nl nl nl nl nl),iv 0]/\Fm F0 w w':=by obtain rfl:=ln hn;refine cU3 func359 ?_;refine ae ?_;rintro b1 w1 rfl hs1 hw1 hf1;refine ae ?_;rintro b2 w2 rfl hs2 hw2 hf2;refine ae ?_;rintro b3 w3 rfl hs3 hw3 hf3;have hw1:=hf3.heap (hf2.heap hw1 id) id;have hw2:=hf3.heap hw2 id;have hF:=Fmf hf1 (Fmf hf2 hf3);simp only[RU,PB.c1 hw1,hk,show((2:Int) != 2)=false from rfl,aa (n:=5) hw2 rfl];refine(iA ht).mono ?_;rintro _ w4 ⟨rfl,hf4⟩;simp only[RU,show((0:Int) != 0)=false from rfl,PB.all (hf4.heap hw1 id)];refine(pR (h.keep (Fmf hF hf4)) hn).mono ?_;rintro _ w5 ⟨rfl,hf5⟩;have hf5:=Fmf hf4 hf5;simp only[RU,PB.all (hf5.heap hw1 id)];refine(mc (h.keep (Fmf hF hf5)) hl hq).mono ?_;rintro _ w6 ⟨u,rfl,hN,hf6⟩;simp only[RU];refine aD (λw7 hs7 hw7 hf7=>?_) rfl rfl (lK _ hN.one);have hf7:=Fmf hf5 (Fmf hf6 hf7);simp only[RU,show((0:Int) != 0)=false from rfl,ab (hf7.heap hw2 id)];refine bst (rcs { M.rec0 with kind:=1,xid:=t.xmin,page:=pg,slot:=(p.items.length:Nat),data:=dL t } nl nl nl nl nl) (ao (hf7.heap hw3 id) λw8 hw8 hs8 hf8=>?_);simp only[RU,aa (n:=16) hw8 rfl];exact Fm.own (Fmf hF hf7) hf8 (by rintro y rfl;omega)
theorem lx{t:Tu}(ht:tu t=true):(dL t).length<=1000000:=by unfold tu at ht;rw[E0,C4] at ht;have hk:=keyOk_iff.1 ht.2;have e1:=bK 1 1;have e2:=bK t.xmin 2;have e3:=bK t.xmax 2;have e4:=aK (n:=t.key.length) oM;have e5:=aK (n:=t.val.length) oM;simp only[dL,iK,C5];omega
theorem iC(h:fE s=some t):M.tuAt s=some (some t):=by
 unfold M.tuAt;rw[h];unfold fE at h;cases hl:decide (s.length<5) with
 | false=>rfl
 | true=>rw[show decide (5<=s.length)=false by simp at *;omega] at h;cases h
theorem ug{t:Tu}(h:PgN w n0 v p)(hk:p.kind=2){i:Int}(hi:M.itemAt p i=some s)(hs:s.length<=1000000)(hx:fE s=some t){own:Int}(h1:1<=own)(hne:own≠t.xmax)(ht:tu { t with xmax:=own }=true)(hq:M.heapWith p i.toNat (dL { t with xmax:=own })=some q)(pg:Int):
  Cl prog 433 [.agg (pcs p v),iv pg,iv i,iv own] w λr w'=>r=.tuple #[.agg (rcs { M.rec0 with kind:=2,xid:=own,page:=pg,slot:=i,old:=t.xmax,new:=own } nl nl nl nl nl),iv 0]/\Fm F0 w w':=by
 refine cU4 func433 ?_;refine ae ?_;rintro b1 w1 rfl hs1 hw1 hf1;refine ae ?_;rintro b2 w2 rfl hs2 hw2 hf2;have hw1:=hf2.heap hw1 id;have hF:=Fmf hf1 hf2;simp only[RU,PB.all hw1];refine(sH (h.keep hF) hk hi hs (iC hx)).mono ?_;rintro _ w3 ⟨rfl,hf3⟩;simp only[RU];refine aD λw4 hs4 hw4 hf4=>?_;have z3:=hf3.size;have hf4:=Fmf hf3 hf4;simp only[RU,C3 (oM:¬own<1),ab hw4,JH,aV,C3 hne];refine bst (rcs { M.rec0 with kind:=2,xid:=own,page:=pg,slot:=i,old:=t.xmax,new:=own } nl nl nl nl nl) (aD λw5 hs5 hw5 hf5=>?_);simp only[RU];refine au (hf5.heap hw4 id) (j:=1) (dC:1<5) rfl λw6 hw6 hs6 hf6=>?_
 replace hw6:w6.heap[w3.heap.size]?=some (.cells (tuC { t with xmax:=own }) 302):=hw6
 have hw5:=hf6.heap hw5 (oM:¬_=_);have hf6:=Fm.own (Fmf hf4 hf5) hf6 (by rintro y rfl;omega);simp only[RU,aa (n:=5) hw6 rfl];refine(iA ht).mono ?_;rintro _ w7 ⟨rfl,hf7⟩;have hw5:=hf7.heap hw5 id;have hf7:=Fmf hf6 hf7;simp only[RU,show((0:Int) != 0)=false from rfl,PB.all (hf7.heap hw1 id)];obtain⟨j,rfl,hj,hlt⟩:=cJ hi;rw[H6] at hq;refine(ue (h.keep (Fmf hF hf7)) (lx ht) hlt hq).mono ?_;rintro _ w8 ⟨u,rfl,hN,hf8⟩;simp only[RU];refine aD (λw9 hs9 hw9 hf9=>?_) rfl rfl (lK _ hN.one);have hf89:=Fmf hf8 hf9;have hf9:=Fmf hf7 hf89;simp only[RU,show((0:Int) != 0)=false from rfl,aa (n:=16) (hf89.heap hw5 id) rfl];refine ao (hf9.heap hw2 id) λw10 hw10 hs10 hf10=>?_;simp only[RU,aa (n:=16) hw10 rfl];exact Fm.own (Fmf hF hf9) hf10 (by rintro y rfl;omega)
theorem pN(b:UInt8)(n:Nat)(hn:n<=140737488355328):Cl prog 63 [stv [b],iv n] w λv w'=>v=stv (List.replicate n b)/\Fm F0 w w':=by
 have c:Calls prog 63 #[stv [b],iv n] w λe w'=>e=.returned (.string ⟨(Lib.repeatL (str [b]).data.toList n).toArray⟩)/\Go.RowKit.Below w.heap.size w w':=Any.strings_Repeat (ρ:=lays105_ren) lays105 bldExtra (str [b]) n w oM (by rw[aq];simpa using hn);have e:Lib.repeatL (str [b]).data.toList n=List.replicate n b:=by have:=Lib.repeatL_replicate b 1 n;rw[IZ] at this;exact this
 rw[e] at c;exact eY c λe w' ⟨h1,h2⟩=>⟨_,h1,rfl,Fm.iF h2 _⟩
theorem uh(h:PgN w n0 v p)(hk:p.kind=2){n:Int}(hn:M.roomOf p=some n):Cl prog 241 [.agg (pcs p v)] w λr w'=>r=iv n/\Fm F0 w w':=by
 unfold M.roomOf at hn;obtain⟨m,hm,hn⟩:=bind_some hn;obtain⟨_,hc,hn⟩:=bind_some hn;cases hn;have hc:=ak hc;rw[E0,C4,C4] at hc;obtain rfl:=ln hm;refine cU1 func241 ?_ (V []) (J [(9,[4]),(10,[6])]);refine ae ?_;rintro b1 w1 rfl hs1 hw1 hf1;simp only[RU,PB.c1 hw1,hk,show((2:Int) != 2)=false from rfl,PB.c5 hw1,h.it.lenV,C3 (oM:¬(255:Int)<(p.items.length:Int)),PB.all hw1];refine(pR (h.keep hf1) hm).mono ?_;rintro _ w2 ⟨rfl,hf2⟩;simp only[RU,PB.all (hf2.heap hw1 id)];refine(ll (h.keep (Fmf hf1 hf2)).as).mono ?_;rintro _ w3 ⟨rfl,hf3⟩;have hf3:=Fmf hf2 hf3;have hw3:=hf3.heap hw1 id;simp only[RU,jn1,show IntKind.i64.wrap (bp p:Int)=bp p by rw[af];omega,PB.c5 hw3,h.it.lenV,I0,PB.all hw3];refine(uF (h.keep (Fmf hf1 hf3)) hc.1 hc.2).mono ?_;rintro _ w4 ⟨rfl,hf4⟩;simp only[RU,C3 (oM:¬((510 - bp p:Nat):Int)<0)];have hq:M.heapPut p (List.replicate (510 - bp p) 120)=some (wi p (p.items++[List.replicate (510 - bp p) 120])):=by
  have:eU (wi p (p.items++[List.replicate (510 - bp p) 120]))=true:=by unfold eU wi bp;simp only[KB,Kv,List.foldl_nil,C5,G2,Ja,G3,E0,C4];have:bp p=p.items.foldl (λn it=>n+(2+it.length)) (20+p.high.length):=rfl;omega
  unfold M.heapPut M.fitsP M.gd;rw[show eU { p with items:=p.items++[List.replicate (510 - bp p) 120] }=true from this]
  rfl
 have hr:(List.replicate (510 - bp p) (120:UInt8)).length<=1000000:=by rw[G3];omega
 have em:max (0:Int) ((510 - bp p:Nat):Int)=((510 - bp p:Nat):Int):=oM;have hF4:=Fmf hf3 hf4;have hfd:=Fmf hF4 (Fm.drew F0 w4);have fin:∀w6,Fm F0 w1 w6->Cl prog 315 [.agg (pcs p v),iv (p.items.length:Nat),stv (List.replicate (510 - bp p) 120)] w6 λr w'=>∃q u,r=.tuple #[.agg (pcs q u),iv 0]/\u.oneCell'=true/\Fm F0 w6 w':=λw6 hf=>(mc (h.keep (Fmf hf1 hf)) hr hq).mono (by rintro _ w7 ⟨u,rfl,hN,hf7⟩;exact⟨_,u,rfl,hN.one,hf7⟩);refine⟨λw'=>Fm F0 w1 w',hfd,rdP (λw' hf=>PB.all (hf.heap hw1 id)) ?_⟩;simp only[RU,mx2,em];refine⟨(pN 120 _ oM).mono ?_,ae ?_,trivial⟩
 ·rintro _ w5 ⟨rfl,hf5⟩;have hf5:=Fmf hfd hf5;refine⟨hf5,(fin w5 hf5).mono ?_,ae ?_,trivial⟩
  ·rintro _ w6 ⟨q,u,rfl,hu,hf6⟩;simp only[RU];refine aD (λw7 hs7 hw7 hf7=>?_) rfl rfl (lK _ hu);simp only[RU,show((0:Int) != 0)=false from rfl];exact Fmf (Fmf hf1 hf5) (Fmf hf6 hf7)
  ·rintro b6 w6 rfl hs6 hw6 hf6;have hf6:=Fmf hf5 hf6;refine⟨hf6,(fin w6 hf6).mono ?_⟩;rintro _ w7 ⟨q,u,rfl,hu,hf7⟩;simp only[RU];refine ao (hf7.heap hw6 id) (λw8 hw8 hs8 hf8=>?_) rfl rfl (lK _ hu);simp only[RU,show((0:Int) != 0)=false from rfl];have:=hf5.size;exact Fm.own (Fmf (Fmf hf1 hf6) hf7) hf8 (by rintro y rfl;omega)
 ·rintro b5 w5 rfl hs5 hw5 hf5;rw[aM] at hw5;have hf5:=Fmf hfd hf5;refine⟨hf5,(pN 120 _ oM).mono ?_⟩;rintro _ w6 ⟨rfl,hf6⟩;have hw6:=hf6.heap hw5 id;have hf6:=Fmf hf5 hf6;refine⟨hf6,(fin w6 hf6).mono ?_⟩;rintro _ w7 ⟨q,u,rfl,hu,hf7⟩;simp only[RU];refine ao (hf7.heap hw6 id) (λw8 hw8 hs8 hf8=>?_) rfl rfl (lK _ hu);simp only[RU,show((0:Int) != 0)=false from rfl];have:=hF4.size;exact Fm.own (Fmf (Fmf hf1 hf6) hf7) hf8 (by rintro y rfl;omega)
end
open M (idOk xAdd xGap xBefore)
structure Mo (m : Int) : Prop where
 lo : 16 ≤ m
 hi : m ≤ 1024
 ev : m % 2 = 0
theorem xM(n:Int){m:Int}(hm:0<m):0<=n % m/\n % m<m:=⟨Int.emod_nonneg n oM,Int.emod_lt_of_pos n hm⟩
section
variable{w:World}{m:Int}
theorem pt(hm:Mo m):Cl prog 263 [iv m] w λv w'=>v=.bool true/\w'=w:=by
 obtain⟨h1,h2,h3⟩:=hm;refine cU1 func263 ?_;have e1:decide (16<=m)=true:=by simpa using h1
 have e2:decide (m<=1024)=true:=by simpa using h2
 obtain⟨n,rfl⟩:=E9 (oM:0<=m);have e3:vG .i64 (n:Int) 1=0:=by rw[show(1:Int)=((1:Nat):Int) from rfl,vH n 1 oM oM,Nat.and_one_is_mod];omega
 simp only[RU,e1,e2,fJ,e3,I0,H7]
theorem ny(hm:Mo m){v:Value}{l:List Int}(hl:CellsAt w v l.length 1 (l.map iv)):Cl prog 177 [iv m,v] w λr w'=>r=.bool (l.all (idOk m))/\w'=w:=by
 have hlt:=hl.lt;unfold maxLen at hlt;refine cU2 func177 ?_ (V [(2,[9])]);simp only[RU,hl.lenV];refine⟨λvs w2=>∃k:Nat,vs=[iv k]/\k<=l.length/\l.all (idOk m)=(l.drop k).all (idOk m)/\w2=w,λvs _=>(l.length - nth vs 0).toNat,⟨0,rfl,oM,rfl,rfl⟩,?_⟩;rintro w2 ik ⟨k,hvs,hk,hall,rfl⟩;cases hvs;by_cases hlt2:k<l.length
 ·have e1:decide ((k:Int)<(l.length:Int))=true:=by rw[C4];omega
  have e2:IntKind.i64.wrap ((k:Int)+1)=((k+1:Nat):Int):=by rw[af]<;>omega
  have hx:l[k]?=some l[k]:=C6 hlt2;rw[Jo hlt2,Ks] at hall;generalize l[k]=x at hx hall;obtain⟨ad,hix,_,hc⟩:=hl.iS (i:=k) (x:=iv x) (by rw[E4,hx];rfl) .i64;simp only[RU,e1,hix,hc];by_cases h1:x<1
  ·simp only[RU,C9 h1];exact⟨by rw[hall,show idOk m x=false from C3 oM];rfl,trivial⟩
  ·by_cases h2:m<x
   ·simp only[RU,C3 h1,C9 h2];exact⟨by rw[hall,show idOk m x=false from C3 oM];rfl,trivial⟩
   ·rw[show idOk m x=true from C9 oM,JD] at hall;simp only[RU,C3 h1,C3 h2,e2];exact⟨⟨k+1,rfl,oM,hall,trivial⟩,by simp only[ba];omega⟩
 ·have e1:decide ((k:Int)<(l.length:Int))=false:=by rw[C7];omega
  rw[J8 oM] at hall;simp only[RU,e1];exact(pt hm).mono (by rintro _ _ ⟨rfl,rfl⟩;exact⟨by rw[hall];rfl,rfl⟩)
theorem kZ(hm:Mo m)(n:Int):Cl prog 217 [iv m,iv n] w λr w'=>r=iv (n % m)/\w'=w:=by
 obtain⟨h1,h2,_⟩:=hm;refine cU2 func217 ?_;have b1:=Int.tmod_lt_of_pos n (oM:0<m);have b2:=Int.lt_tmod_of_pos n (oM:0<m);have e4:(n.tmod m+m).tmod m=n % m:=by rw[Int.tmod_eq_emod_of_nonneg oM,Int.add_emod_right,Int.tmod_def,Int.sub_mul_emod_self_left]
 simp only[RU,jI _ (a:=n) (oM:0<m),show IntKind.i64.wrap (n.tmod m+m)=n.tmod m+m from af oM,jI _ (a:=n.tmod m+m) (oM:0<m),e4,H7]
theorem jy(hm:Mo m)(x n:Int):Cl prog 126 [iv m,iv x,iv n] w λr w'=>r=iv (xAdd m x n)/\Fm F0 w w':=by
 refine cU3 func126 ?_;refine bsl 1 #[iv x] 3 ?_;refine(ny hm (l:=[x]) (ia [x] sI w 3)).mono ?_;rintro _ _ ⟨rfl,rfl⟩;have hf:=Fm.alloc F0 w (.cells ([x].map iv).toArray 3);generalize w.alloc (.cells ([x].map iv).toArray 3)=w1 at hf;unfold xAdd;rw[Ks,List.all_nil,KE];cases h:idOk m x with
 | false=>simp only[RU];exact⟨rfl,hf⟩
 | true=>have:=hm.hi;have:=hm.lo;unfold idOk at h;rw[C4] at h;simp only[RU,show IntKind.i64.wrap (x - 1)=x - 1 from af oM];refine(kZ hm n).mono ?_;rintro _ _ ⟨rfl,rfl⟩;have:=xM n (oM:0<m);simp only[RU,show IntKind.i64.wrap (x - 1+n % m)=x - 1+n % m from af oM];refine(kZ hm _).mono ?_;rintro _ _ ⟨rfl,rfl⟩;have:=xM (x - 1+n % m) (oM:0<m);simp only[RU,show IntKind.i64.wrap ((x - 1+n % m) % m+1)=(x - 1+n % m) % m+1 from af oM];exact⟨rfl,hf⟩
theorem nr(hm:Mo m)(a b:Int):Cl prog 178 [iv m,iv a,iv b] w λr w'=>r=iv (xGap m a b)/\Fm F0 w w':=by
 refine cU3 func178 ?_;refine bsl 2 #[iv a,iv b] 3 ?_;refine(ny hm (l:=[a,b]) (ia [a,b] sI w 3)).mono ?_;rintro _ _ ⟨rfl,rfl⟩;have hf:=Fm.alloc F0 w (.cells ([a,b].map iv).toArray 3);generalize w.alloc (.cells ([a,b].map iv).toArray 3)=w1 at hf;unfold xGap;rw[Ks,Ks,List.all_nil,KE];cases h:idOk m a&&idOk m b with
 | false=>simp only[RU];exact⟨rfl,hf⟩
 | true=>have:=hm.hi;unfold idOk at h;simp only[E0,C4] at h;simp only[RU,show IntKind.i64.wrap (b - a)=b - a from af oM];exact(kZ hm _).mono (by rintro _ _ ⟨rfl,rfl⟩;exact⟨rfl,hf⟩)
theorem DJ(hm:Mo m)(a b:Int):0<=xGap m a b/\xGap m a b<1024:=by have:=xM (b - a) (show 0<m by have:=hm.lo;omega);have:=hm.hi;unfold xGap;cases idOk m a&&idOk m b<;>simp<;>omega
theorem jU(hm:Mo m)(a b:Int):Cl prog 105 [iv m,iv a,iv b] w λr w'=>r=.bool (xBefore m a b)/\Fm F0 w w':=by
 have:=hm.hi;have:=hm.lo;refine cU3 func105 ?_;refine(nr hm a b).mono ?_;rintro _ w1 ⟨rfl,hf⟩;unfold xBefore;cases h:decide (0<xGap m a b) with
 | false=>simp only[RU,h];exact⟨rfl,hf⟩
 | true=>simp only[RU,h,ja _ (a:=m) (b:=2) oM dC oM];exact⟨rfl,hf⟩
end
open M (idOk xAdd Fp it0 it1 plN oQ)
structure StOk (m : Int) (p : Pg) : Prop where
 kind : p.kind = 1
 lsn : 0 ≤ p.lsn
 level : p.level = 0
 right : p.right = 0
 high : p.high = []
 items : p.items = [it0 p, it1 p]
 len : ((it1 p).length : Int) = m / 4
 m4 : m % 4 = 0
 num : rdNum m (it0 p) 0 = (1, [], 0)
theorem pX{m:Int}{p:Pg}(h:Fp m p=true):StOk m p:=by
 unfold Fp at h;simp only[E0,C4] at h;obtain⟨⟨⟨h1,h2,h3,h4,h5,h6,h7⟩,h8⟩,h9⟩:=h;refine⟨h1,h2,h3,h4,h8,?_,h6,h7,h9⟩;unfold it0 it1
 match hi:p.items,h5 with
 | [a,b],_=>rfl
section
variable{w w':World}{n0:Nat}{v u:Value}{p q:Pg}{m x:Int}
theorem mf(hm:Mo m):Cl prog 154 [iv m] w λv w'=>v=.bool true/\Fm F0 w w':=by
 have:=hm.lo;have:=hm.hi;refine cU1 func154 ?_;refine(jy hm 1 0).mono ?_;rintro _ w1 ⟨rfl,hf⟩;have e:xAdd m 1 0=1:=by unfold xAdd idOk;rw[C9 oM];simp
 simp only[RU,e,I0];exact hf
theorem kD(hm:Mo m)(hx:idOk m x=true):Cl prog 155 [iv m,iv x] w λv w'=>v=.bool true/\Fm F0 w w':=by
 have:=hm.lo;have h:=hx;unfold idOk at h;rw[C4] at h;refine cU2 func155 ?_;refine(jy hm x 0).mono ?_;rintro _ w1 ⟨rfl,hf⟩;have e:xAdd m x 0=x:=by unfold xAdd;rw[hx,D8,Int.zero_emod,Int.add_zero,Int.emod_eq_of_lt oM oM];omega
 simp only[RU,e,I0,aF,C3 (oM:¬x=0)];exact hf
theorem lR(hm:Mo m)(h4:m % 4=0):Cl prog 157 [iv m] w λv w'=>v=iv (m / 4)/\w'=w:=by have:=hm.lo;have:=hm.hi;refine cU1 func157 ?_;simp only[RU,show IntKind.i64.wrap (m+4)=m+4 from af oM,show IntKind.i64.wrap (m+4 - 1)=m+3 by rw[af]<;>omega,ja _ (a:=m+3) (b:=4) oM dC oM];exact⟨by congr 1;omega,trivial⟩
theorem lP(h:PgN w n0 v p)(hm:Mo m)(hs:StOk m p)(hl0:(it0 p).length<=1000000):Cl prog 401 [iv m,.agg (pcs p v)] w λr w'=>∃g cap,r=.tuple #[iv 1,.slice (some ⟨g,0,none⟩) (it1 p).length cap,iv 0]/\w.heap.size<=g/\BX w' g 5 (it1 p)/\Fm F0 w w':=by
 have:=hm.hi;have:=hm.lo;have hl1:=hs.len;have h2:p.items.length=2:=by rw[hs.items];rfl
 refine cU2 func401 ?_;refine ae ?_;rintro b1 w1 rfl hs1 hw1 hf1;refine(mf hm).mono ?_;rintro _ w2 ⟨rfl,hf2⟩;have hF:=Fmf hf1 hf2;have hw1:=hf2.heap hw1 id;obtain⟨a1,i1,_,c1⟩:=(h.it.keep hF iT).iS (i:=1) (x:=stv (it1 p)) (by rw[hs.items];rfl) .i64
 replace i1:ixV 1 v (iv 1)=_:=i1
 obtain⟨a0,i0,_,c0⟩:=(h.it.keep hF iT).iS (i:=0) (x:=stv (it0 p)) (by rw[hs.items];rfl) .i64
 replace i0:ixV 1 v (iv 0)=_:=i0
 simp only[RU];refine⟨λw'=>Fm F0 w2 w',Fm.drew F0 w2,?_⟩;simp only[RU,PB.c1 hw1,hs.kind,show((1:Int) != 1)=false from rfl,PB.c0 hw1,C3 (show ¬p.lsn<0 by have:=hs.lsn;omega),PB.c2 hw1,hs.level,show((0:Int) != 0)=false from rfl,PB.c3 hw1,hs.right,PB.c4 hw1,hs.high,Jm,PB.c5 hw1,h.it.lenV,h2,show(((2:Nat):Int) != 2)=false from rfl];refine rdP (u:=v) (λw' hw=>PB.c5 (hw.heap hw1 id)) ?_;simp only[RU,i1];refine⟨stv (it1 p),λw' hw=>?_,?_⟩
 ·obtain⟨b1,j1,_,d1⟩:=((h.it.keep hF iT).keep hw iT).iS (i:=1) (x:=stv (it1 p)) (by rw[hs.items];rfl) .i64
  replace j1:ixV 1 v (iv 1)=_:=j1
  rw[i1] at j1;cases j1;simp only[RU,d1,H7]
 simp only[RU];refine(lR hm hs.m4).mono ?_;rintro _ _ ⟨rfl,rfl⟩;have e1:((((it1 p).length:Nat):Int) != m / 4)=false:=by rw[aF,Bool.not_eq_false',C4];exact hl1
 simp only[RU,e1,PB.c5 hw1,i0,c0];refine⟨Fm.drew F0 w2,(fK _ _).mono ?_⟩;rintro _ w3 ⟨r,rfl,hr,hR,hf3⟩;have hf3:=Fmf (Fm.drew F0 w2) hf3;refine(dy (st:=(it0 p,0)) hR hl0 oM).mono ?_;rintro _ w4 ⟨rfl,hR,hf4⟩;rw[show rn m (it0 p,0)=(1,[],0) from hs.num] at hR ⊢;have hf4:=Fm.own hf3 hf4 (by rintro y rfl;rw[aM] at hr;exact hr);obtain⟨a2,i2,_,c2⟩:=((h.it.keep hF iT).keep hf4 iT).iS (i:=1) (x:=stv (it1 p)) (by rw[hs.items];rfl) .i64
 replace i2:ixV 1 v (iv 1)=_:=i2
 simp only[RU,PB.c5 (hf4.heap hw1 id),i2,c2];obtain⟨cap,w5,hcv,hB,hf5,hs5⟩:=tP B38 w4 (it1 p);refine ag hcv ?_;refine(gO (hf5.heap hR id)).mono ?_;rintro _ _ ⟨rfl,rfl⟩;have h4:=hs.m4;simp only[RU,show vz [] 0=0 from rfl,show((0:Int) != 0)=false from rfl,show((1:Int) == 0)=false from rfl,nK (TypeDesc.int .i64) (a:=m) (b:=4) oM dC oM,h4];exact⟨_,_,rfl,by have:=(Fmf hF hf4).size;omega,hB,Fmf (Fmf hF hf4) hf5⟩
theorem mw(hm:Mo m)(hx:idOk m x=true):Cl prog 402 [iv x] w λv w'=>v=.tuple #[iv (plN x / 4:Nat),iv (oQ x:Nat)]/\w'=w:=by have:=hm.hi;unfold idOk at hx;rw[C4] at hx;refine cU1 func402 ?_;simp only[RU,show IntKind.i64.wrap (x - 1)=x - 1 from af oM,ja _ (a:=x - 1) (b:=4) oM dC oM,nK (TypeDesc.int .i64) (a:=x - 1) (b:=4) oM dC oM,show IntKind.i64.wrap (2*((x - 1) % 4))=2*((x - 1) % 4) by rw[af]<;>omega];unfold oQ plN;rw[(oM:(((x - 1).toNat / 4:Nat):Int)=(x - 1) / 4),(oM:((2*((x - 1).toNat % 4):Nat):Int)=2*((x - 1) % 4))];exact⟨rfl,trivial⟩
theorem idx{p:Pg}(hs:StOk m p)(hx:idOk m x=true):plN x / 4<(it1 p).length:=by unfold idOk at hx;rw[C4] at hx;have:=hs.len;have:=hs.m4;unfold plN;omega
theorem wF(h:PgN w n0 v p)(hm:Mo m)(hl0:(it0 p).length<=1000000){s:Int}(hg:M.clogGet m p x=some s):Cl prog 348 [iv m,.agg (pcs p v),iv x] w λr w'=>r=.tuple #[.int .u8 s,iv 0]/\Fm F0 w w':=by unfold M.clogGet at hg;obtain⟨_,hc,he⟩:=bind_some hg;cases he;have hg:=ak hc;rw[E0] at hg;obtain⟨hs,hx⟩:=hg;have hs:=pX hs;refine cU3 func348 ?_;refine ae ?_;rintro b1 w1 rfl hs1 hw1 hf1;simp only[RU,PB.all hw1];refine(lP (h.keep hf1) hm hs hl0).mono ?_;rintro _ w2 ⟨g,cap,rfl,hg,hB,hf2⟩;simp only[RU,show((0:Int) != 0)=false from rfl];refine(kD hm hx).mono ?_;rintro _ w3 ⟨rfl,hf3⟩;simp only[RU];refine(mw hm hx).mono ?_;rintro _ _ ⟨rfl,rfl⟩;have hB:=hB.keep hf3 id;have hlt:=idx hs hx;have e:=hB.cell (i:=plN x / 4) (b:=(it1 p).getD (plN x / 4) 0) (by rw[G6,C6 hlt];rfl);simp only[RU,dT hlt,IZ,e,jz,shV,IT (oM:¬((oQ x:Nat):Int)<0),H6,fJ];exact⟨rfl,Fmf hf1 (Fmf hf2 hf3)⟩
theorem lO{g cap:Nat}{l:Bs}{z:Int}(hB:BX w g 5 l)(hz:In z)(hl:l.length<=1000000):Cl prog 156 [iv 1,.slice (some ⟨g,0,none⟩) l.length cap,iv z] w λr w'=>∃u,r=.agg (pcs ⟨z,1,0,0,[],[bF 1,l]⟩ u)/\PgN w' w.heap.size u ⟨z,1,0,0,[],[bF 1,l]⟩/\Fm F0 w w':=by
 refine cU3 func156 ?_;refine ae ?_;rintro b1 w1 rfl hs1 hw1 hf1;refine WS.new (Fm.refl _ _) ?_;intro w2 r hW hf2;refine hW.lit (ns:=[1]) (dA _ _) rfl sI sI ?_;intro u w3 hW;rw[H9,jl] at hW;have hF:=Fmf hf1 hW.fm;refine⟨λw'=>Fm F0 w3 w',Fm.drew F0 w3,_,λw' hw=>ag ((hB.keep (Fmf hF hw) id).conv B38 (o:=0) (n:=l.length) oM cap) ⟨rfl,rfl⟩,?_⟩;refine(dm (hW.keep (Fm.drew F0 w3)).wr.1).mono ?_;rintro _ _ ⟨rfl,rfl⟩;refine⟨Fm.drew F0 w3,?_⟩;have hw1:=(Fmf hW.fm (Fm.drew F0 w3)).heap hw1 id;have hFd:=Fmf hF (Fm.drew F0 w3);generalize w3.drew=w4 at hFd hw1;rw[J6,IX];refine bsl 2 #[stv (bF 1),stv l] 9 ?_;have hf5:=Fm.alloc F0 w4 (.cells #[stv (bF 1),stv l] 9);have ho:=cY (w:=w4) (e:=9) (sz:=1) (base:=w4.heap.size) (n:=2) (l:=[stv (bF 1),stv l]) sI (D9 _) (by unfold maxLen;omega);generalize w4.alloc (.cells #[stv (bF 1),stv l] 9)=w5 at hf5 ho;refine bst (pcs ⟨z,1,0,0,[],[bF 1,l]⟩ (.slice (some ⟨w4.heap.size,0,none⟩) 2 2)) ⟨rfl,?_⟩;refine ao (hf5.heap hw1 id) λw6 hw6 hs6 hf6=>?_;simp only[RU,aa (n:=6) hw6 rfl];have hF5:=Fmf hFd hf5;have h1:0<w4.heap.size - w.heap.size:=by have:=aj hw1;omega
 have hz5:=hFd.size;have ho:=ah ho hf6 (by rintro y hy _ _ rfl;have:=aj hw1;omega);refine⟨_,rfl,⟨az ho,CellsAt.aT ho,?_,?_,λ_ y hy=>?_⟩,Fm.own hF5 hf6 (by rintro y rfl;exact D9 _)⟩
 ·intro x hx;simp only[H3,KH,or_false] at hx;rcases hx with rfl|rfl
  ·have:=aK (n:=1) dC;omega
  ·omega
 ·refine⟨hz,?_,?_,?_,sI,sI⟩<;>simp[In]
 ·cases hy;exact hz5
theorem wL(hm:Mo m){g cap:Nat}{l:Bs}(hB:BX w g 5 l)(hx:idOk m x=true)(hlt:plN x / 4<l.length){s:Int}:Cl prog 420 [.slice (some ⟨g,0,none⟩) l.length cap,iv x,.int .u8 s] w λr w'=>r=.tuple #[]/\BX w' g 5 (l.set (plN x / 4) (M.pbyte (l.getD (plN x / 4) 0) s (oQ x)))/\Fm (·=g) w w':=by
 refine cU3 func420 ?_;refine(mw hm hx).mono ?_;rintro _ w2 ⟨rfl,rfl⟩;have hB:=hB.keep (Fm.drew F0 w2) id;have e:=hB.cell (i:=plN x / 4) (b:=l.getD (plN x / 4) 0) (by rw[G6,C6 hlt];rfl);have hfar:oQ x<=6:=by unfold oQ;omega
 simp only[RU,dT hlt,IZ,e,sf,shV,IT (oM:¬((oQ x:Nat):Int)<0),H6,jW,qu];have e3:orI .u8 (jT .u8 ((l.getD (plN x / 4) 0).toNat:Int) (IntKind.u8.wrap (3*2 ^ min (oQ x) IntKind.u8.bits))) (IntKind.u8.wrap (s*2 ^ min (oQ x) IntKind.u8.bits))=((M.pbyte (l.getD (plN x / 4) 0) s (oQ x)).toNat:Int):=by rw[show min (oQ x) IntKind.u8.bits=oQ x by show min (oQ x) 8=_;omega];unfold M.pbyte orI;rw[DE]
 rw[e3];refine hB.put hlt (b:=M.pbyte (l.getD (plN x / 4) 0) s (oQ x)) λw3 hB3 hs3 hf3=>?_;exact⟨hB3,(Fm.drew F0 w2).trans hf3 iE iT⟩
theorem wN(h:PgN w n0 v p)(hm:Mo m)(hl0:(it0 p).length<=1000000){s:Int}(h0:0<=s)(h3:s<=3)(hg:M.clogSet m p x s=some q):Cl prog 375 [iv m,.agg (pcs p v),iv x,.int .u8 s] w λr w'=>∃u,r=.tuple #[.agg (pcs q u),iv 0]/\PgN w' w.heap.size u q/\Fm F0 w w':=by unfold M.clogSet at hg;obtain⟨_,hc,he⟩:=bind_some hg;cases he;have hg:=ak hc;rw[E0] at hg;obtain⟨hs,hx⟩:=hg;have hs:=pX hs;have hlt:=idx hs hx;refine cU4 func375 ?_;refine ae ?_;rintro b1 w1 rfl hs1 hw1 hf1;refine ae ?_;rintro b2 w2 rfl hs2 hw2 hf2;have hF:=Fmf hf1 hf2;have hw1:=hf2.heap hw1 id;simp only[RU,PB.all hw1];refine(lP (h.keep hF) hm hs hl0).mono ?_;rintro _ w3 ⟨g,cap,rfl,hg,hB,hf3⟩;simp only[RU,show((0:Int) != 0)=false from rfl];refine(kD hm hx).mono ?_;rintro _ w4 ⟨rfl,hf4⟩;simp only[RU,C3 (oM:¬3<s)];have hB:=hB.keep hf4 id;have hF4:=Fmf hf3 hf4;refine(wL hm hB hx hlt).mono ?_;rintro _ w5 ⟨rfl,hB,hf5⟩;have hF5:=Fm.own (Fmf hF hF4) hf5 (by rintro y rfl;omega);have hF25:=Fm.own hF4 hf5 (by rintro y rfl;omega);simp only[RU,PB.c0 (hF25.heap hw1 id)];have hm':=lO (cap:=cap) hB h.ins.1 (by rw[I3];have:=hs.len;have:=hm.hi;omega);rw[I3] at hm';refine hm'.mono ?_;rintro _ w6 ⟨u,rfl,hN,hf6⟩;refine ao ((Fmf hF25 hf6).heap hw2 id) (λw7 hw7 hs7 hf7=>?_) rfl rfl (lK _ hN.one);simp only[RU,aa (n:=6) hw7 rfl];have:=hF25.size;have:=hF5.size;exact⟨u,rfl,(hN.dO hf7 (by rintro y rfl;omega)).base this,Fm.own (Fmf hF5 hf6) hf7 (by rintro y rfl;omega)⟩
theorem qx(hm:Mo m)(h4:m % 4=0):Cl prog 65 [iv m,iv 1] w λr w'=>∃u,r=.tuple #[.agg (pcs (M.clogNew m) u),iv 0]/\PgN w' w.heap.size u (M.clogNew m)/\Fm F0 w w':=by
 have:=hm.hi;have:=hm.lo;refine cU2 func65 ?_;refine ae ?_;rintro b1 w1 rfl hs1 hw1 hf1;refine(mf hm).mono ?_;rintro _ w2 ⟨rfl,hf2⟩;simp only[RU];refine(kD hm (x:=1) (by unfold idOk;simp;omega)).mono ?_;rintro _ w3 ⟨rfl,hf3⟩;simp only[RU];refine(lR hm h4).mono ?_;rintro _ w4 ⟨rfl,rfl⟩;obtain⟨n,hn⟩:=E9 (oM:0<=m / 4);rw[hn];have hF:=Fmf hf1 (Fmf hf2 hf3);have hw1:=(Fmf hf2 hf3).heap hw1 id;refine ag (BRow.make B38 w4 n oM) ?_;have hf5:=Fm.alloc F0 w4 (.cells (bc (aG n)).toArray 5);have hB:=BX.of (ay w4 (.cells (bc (aG n)).toArray 5));have hm':=lO (cap:=n) (z:=0) hB (by simp[In]) (by simp[aG];omega);have e:(aG n).length=n:=by simp[aG]
 rw[e] at hm';refine hm'.mono ?_;rintro _ w6 ⟨u,rfl,hN,hf6⟩;have e:M.clogNew m=⟨0,1,0,0,[],[bF 1,aG n]⟩:=by unfold M.clogNew;rw[hn];rfl
 rw[<- e] at hN ⊢;have hz:=hf5.size;have hz4:=aj hw1;refine ao ((Fmf hf5 hf6).heap hw1 id) (λw7 hw7 hs7 hf7=>?_) rfl rfl (lK _ hN.one);simp only[RU,aa (n:=6) hw7 rfl];exact⟨u,rfl,(hN.dO hf7 (by rintro y rfl;omega)).base oM,Fm.own (Fmf hF (Fmf hf5 hf6)) hf7 (by rintro y rfl;omega)⟩
end
open M (idOk xAdd it0 it1 Vw Tu)
structure IsIn (w : World) (v : Value) (l : List Int) : Prop where
 ex : ∃ A : List Int, CellsAt w v A.length 1 (A.map iv) ∧ A.length ≤ 1000000 ∧ ∀ x, x ∈ A ↔ x ∈ l
abbrev vwC(V:Vw)(a r u:Value):Array Value:=#[iv V.m,iv V.next,a,iv V.own,r,iv V.st.lsn,iv V.st.kind,iv V.st.level,iv V.st.right,stv V.st.high,u]
structure VwN (w : World) (n0 : Nat) (V : Vw) (a r u : Value) : Prop where
 a : IsIn w a V.act
 r : IsIn w r V.run
 u : PgN w n0 u V.st
 mo : Mo V.m
 it : (it0 V.st).length ≤ 1000000
section
variable{w w':World}{n0:Nat}{a r u v:Value}{V:Vw}{x:Int}{t:Tu}
theorem IsIn.keep{l:List Int}(h:IsIn w v l)(hf:Fm F0 w w'):IsIn w' v l:=by obtain⟨A,h1,h2⟩:=h.ex;exact⟨A,h1.keep hf iT,h2⟩
theorem VwN.keep(h:VwN w n0 V a r u)(hf:Fm F0 w w'):VwN w' n0 V a r u:=⟨h.a.keep hf,h.r.keep hf,h.u.keep hf,h.mo,h.it⟩
theorem nx{l:List Int}(h:IsIn w v l)(x:Int):Cl prog 127 [v,iv x] w λr w'=>r=.bool (decide (x∈l))/\w'=w:=by
 obtain⟨A,hA,hl,hi⟩:=h.ex;rw[show decide (x∈l)=decide (x∈A) from G9.2 (hi x).symm];refine cU2 func127 ?_;refine cU2 func218 ?_ (V [(2,[8])]);simp only[RU,hA.lenV];refine⟨λvs w3=>∃i:Nat,vs=[iv i]/\i<=A.length/\w3=w/\x∉A.take i,λvs _=>(A.length - nth vs 0).toNat,⟨0,rfl,oM,rfl,sI⟩,?_⟩;rintro w3 v1 ⟨i,hvs,hil,rfl,hn⟩;cases hvs;by_cases hlt:i<A.length
 ·have hx:A[i]?=some A[i]:=C6 hlt;generalize A[i]=y at hx;obtain⟨ad,k1,_,k2⟩:=hA.iS (i:=i) (x:=iv y) (by rw[E4,hx];rfl) .i64;have e:=H8 (l:=A) (i:=i);rw[hx] at e;by_cases hy:x=y
  ·have:x∈A:=by rw[hy];exact F7 hx
   simp only[RU,C9 (oM:(i:Int)<(A.length:Int)),k1,k2,hy,I0,C9 (oM:(0:Int)<=(i:Int)),C9 (hy▸this)]
  ·simp only[RU,C9 (oM:(i:Int)<(A.length:Int)),k1,k2,aV,C3 hy,show IntKind.i64.wrap ((i:Int)+1)=((i+1:Nat):Int) by rw[af]<;>omega];exact⟨⟨i+1,rfl,oM,by rw[e];simp[hn,hy]⟩,by simp only[ba];omega⟩
 ·rw[G0 oM] at hn;simp only[RU,C3 (oM:¬(i:Int)<(A.length:Int)),show decide ((0:Int)<=-1)=false from rfl,C3 hn,H7]
theorem lq(h:VwN w n0 V a r u){s:Int}(hs:M.status V x=some s):Cl prog 289 [.agg (vwC V a r u),iv x] w λo w'=>o=.int .u8 s/\Fm F0 w w':=by
 unfold M.status at hs;refine cU2 func289 ?_;refine ae ?_;rintro b1 w1 rfl hs1 hw1 hf1;have c:=λo=>ab (off:=o) hw1;have h:=h.keep hf1;simp only[RU,c];refine(nx h.r x).mono ?_;rintro _ w2 ⟨rfl,rfl⟩;cases hd:decide (x∈V.run) with
 | true=>rw[hd] at hs;cases hs;simp only[RU];exact hf1
 | false=>rw[hd] at hs;simp only[RU,c,cP hw1 (o:=5) (n:=6) (us:=pcs V.st u) (D9 _) rfl];refine(wF h.u h.mo h.it hs).mono ?_;rintro _ w3 ⟨rfl,hf3⟩;simp only[RU,show((0:Int) != 0)=false from rfl];exact Fmf hf1 hf3
theorem lj(h:VwN w n0 V a r u){b:Bool}(hs:M.sees V x=some b):Cl prog 447 [.agg (vwC V a r u),iv x] w λo w'=>o=.bool b/\Fm F0 w w':=by
 unfold M.sees at hs;refine cU2 func447 ?_;refine ae ?_;rintro b1 w1 rfl hs1 hw1 hf1;have c:=λo=>ab (off:=o) hw1;have h:=h.keep hf1;rw[<- aV,<- aV] at hs;cases h0:(x == 0) with
 | true=>rw[h0] at hs;cases hs;simp only[RU];exact hf1
 | false=>
 cases h1:(x == V.own) with
 | true=>rw[h0,h1] at hs;cases hs;simp only[RU,c,h1];exact hf1
 | false=>
 rw[h0,h1,C8,C8] at hs;simp only[RU,c,h1];refine(nx h.a x).mono ?_;rintro _ w2 ⟨rfl,rfl⟩;have H:∀w3,Fm F0 w2 w3->(M.status V x).map (λs=>decide (s=2))=some b->Cl prog 289 [.agg (vwC V a r u),iv x] w3 λv w_1=>Pu (aC (.int .u8) .eql v (.int .u8 2)) λv=>v=.bool b/\Fm F0 w w_1:=by intro w3 hf3 hb;obtain⟨s,hq,rfl⟩:=E6.1 hb;refine(lq (h.keep hf3) hq).mono ?_;rintro _ w4 ⟨rfl,hf4⟩;simp only[RU,aV];exact Fmf hf1 (Fmf hf3 hf4)
 cases ha:decide (x∈V.act) with
 | true=>rw[ha] at hs;cases hs;simp only[RU];exact hf1
 | false=>
  rw[ha,Jf] at hs;simp only[RU,c];refine(jU h.mo x V.next).mono ?_;rintro _ w3 ⟨rfl,hf3⟩;cases hb:M.xBefore V.m x V.next with
  | false=>rw[hb] at hs;cases hs;simp only[RU];exact Fmf hf1 hf3
  | true=>rw[hb] at hs;simp only[RU,aa (n:=11) (hf3.heap hw1 id) rfl];exact H w3 hf3 hs
theorem qd(h:VwN w n0 V a r u){b:Bool}(hs:M.visible V t=some b):Cl prog 431 [.agg (vwC V a r u),.agg (tuC t)] w λo w'=>o=.bool b/\Fm F0 w w':=by
 obtain⟨b1,h1,h2⟩:=bind_some hs;refine cU2 func431 ?_;refine ae ?_;rintro b1 w1 rfl hs1 hw1 hf1;refine ae ?_;rintro b2 w2 rfl hs2 hw2 hf2;have hF:=Fmf hf1 hf2;have hw1:=hf2.heap hw1 id;have c:=λo=>ab (off:=o) hw2;simp only[RU,c,aa (n:=11) hw1 rfl];refine(lj (h.keep hF) h1).mono ?_;rintro _ w3 ⟨rfl,hf3⟩;cases b1 with
 | false=>cases h2;simp only[RU];exact Fmf hF hf3
 | true=>obtain⟨b3,h3,rfl⟩:=E6.1 h2;have c:=λo=>ab (off:=o) (hf3.heap hw2 id);simp only[RU,c,aa (n:=11) (hf3.heap hw1 id) rfl];refine(lj (h.keep (Fmf hF hf3)) h3).mono ?_;rintro _ w4 ⟨rfl,hf4⟩;simp only[RU];exact Fmf hF (Fmf hf3 hf4)
theorem lz(h:VwN w n0 V a r u){b:Bool}(hs:M.unseen V x=some b):Cl prog 448 [.agg (vwC V a r u),iv x] w λo w'=>o=.bool b/\Fm F0 w w':=by
 unfold M.unseen at hs;refine cU2 func448 ?_;refine ae ?_;rintro b1 w1 rfl hs1 hw1 hf1;rw[<- aV] at hs;cases h0:(x == 0) with
 | true=>rw[h0] at hs;cases hs;simp only[RU,show(x != 0)=!(x == 0) from rfl,h0];exact hf1
 | false=>
  rw[h0] at hs;obtain⟨b1,h1,h2⟩:=bind_some hs;simp only[RU,show(x != 0)=!(x == 0) from rfl,h0,aa (n:=11) hw1 rfl];refine(lj (h.keep hf1) h1).mono ?_;rintro _ w3 ⟨rfl,hf3⟩;cases b1 with
  | true=>cases h2;simp only[RU];exact Fmf hf1 hf3
  | false=>obtain⟨s,h3,rfl⟩:=E6.1 h2;simp only[RU,aa (n:=11) (hf3.heap hw1 id) rfl];refine(lq (h.keep (Fmf hf1 hf3)) h3).mono ?_;rintro _ w4 ⟨rfl,hf4⟩;simp only[RU,aV];exact Fmf hf1 (Fmf hf3 hf4)
theorem uw(h:VwN w n0 V a r u){b:Bool}(hs:M.newer V t=some b):Cl prog 432 [.agg (vwC V a r u),.agg (tuC t)] w λo w'=>o=.bool b/\Fm F0 w w':=by
 obtain⟨b1,h1,h2⟩:=bind_some hs;refine cU2 func432 ?_;refine ae ?_;rintro b1 w1 rfl hs1 hw1 hf1;refine ae ?_;rintro b2 w2 rfl hs2 hw2 hf2;have hF:=Fmf hf1 hf2;have hw1:=hf2.heap hw1 id;have c:=λo=>ab (off:=o) hw2;simp only[RU,c,aa (n:=11) hw1 rfl];refine(lz (h.keep hF) h1).mono ?_;rintro _ w3 ⟨rfl,hf3⟩;cases b1 with
 | true=>cases h2;simp only[RU];exact Fmf hF hf3
 | false=>have c:=λo=>ab (off:=o) (hf3.heap hw2 id);simp only[RU,c,aa (n:=11) (hf3.heap hw1 id) rfl];refine(lz (h.keep (Fmf hF hf3)) h2).mono ?_;rintro _ w4 ⟨rfl,hf4⟩;simp only[RU];exact Fmf hF (Fmf hf3 hf4)
end
open M (Tu tu dL fE it0)
abbrev Sm(p:Pg):Prop:=∀s∈p.items,s.length<=1000000
section
variable{w w':World}{n0:Nat}{v u vs vm vi vp vt:Value}{p q:Pg}{r:Rc}{m i:Int}{g:Nat}
theorem rq{w w5 w6:World}{b:Nat}{cs:Array Value}{k:KV}(hF:Fm F0 w w5)(hN:PgN w6 w5.heap.size u q)(hf:Fm F0 w5 w6)(hb:w5.heap[b]?=some (.cells cs 68))(hge:w.heap.size<=b)(hk:∀w7,w7.heap[b]?=some (.cells (pcs q u) 68)->PgN w7 w.heap.size u q->Fm F0 w w7->k undef w7)(hc:cs.size=6:=by rfl):St 6 w6 (pv b) (.agg (pcs q u)) k:=ao (hf.heap hb id) (λw7 hw7 hs7 hf7=>hk w7 hw7 ((hN.dO hf7 (by rintro y rfl;exact aj hb)).base hF.size) (Fm.own (Fmf hF hf) hf7 (by rintro y rfl;exact hge))) rfl hc (lK _ hN.one)
theorem oI(h:PgN w n0 v p)(hd:r.data.length<=1000000)(hk:r.kind=1)(hq:M.deed m p r=some q):Cl prog 304 [iv m,.agg (pcs p v),.agg (rcs r vs vm vi vp vt)] w λo w'=>∃u,o=.tuple #[.agg (pcs q u),iv 0]/\PgN w' w.heap.size u q/\Fm F0 w w':=by
 unfold M.deed at hq;rw[hk] at hq;obtain⟨t,ht,hq⟩:=bind_some hq;obtain⟨_,hc,hq⟩:=bind_some hq;have hc:=F9 (ak hc);unfold M.heapPut M.fitsP at hq;obtain⟨_,hfit,hq⟩:=bind_some hq;have e:p.items++[r.data]=M.putIt p.items p.items.length r.data:=by simp[M.putIt]
 replace hq:wi p (M.putIt p.items p.items.length r.data)=q:=by rw[<- e];exact I6 hq
 have hfit:eU (wi p (M.putIt p.items p.items.length r.data))=true:=by rw[<- e];exact ak hfit
 refine cU3 func304 ?_;refine ae ?_;rintro b1 w1 rfl hs1 hw1 hf1;refine ae ?_;rintro b2 w2 rfl hs2 hw2 hf2;refine ae ?_;rintro b3 w3 rfl hs3 hw3 hf3;have hw1:=hf3.heap (hf2.heap hw1 id) id;have hw2:RB w3 w1.heap.size r vs vm vi vp vt:=⟨hf3.heap hw2 id⟩;have hF:=Fmf hf1 (Fmf hf2 hf3);simp only[RU,hw2.c10];refine(fD hd (iC ht)).mono ?_;rintro _ w4 ⟨rfl,hf4⟩;simp only[RU];refine aD λw5 hs5 hw5 hf5=>?_;have hf5:=Fmf hf4 hf5;have hw2:=hw2.keep hf5 id;simp only[RU,D8,show((0:Int) != 0)=false from rfl,PB.c5 (hf5.heap hw1 id),h.it.lenV,hw2.c6,hc,I0,PB.all (hf5.heap hw1 id),hw2.c10];have hp:=kW (h.keep (Fmf hF hf5)) (D9 _) hd hfit;rw[hq] at hp;refine hp.mono ?_;rintro _ w6 ⟨u,rfl,hN,hf6⟩;simp only[RU];refine rq (Fmf hF hf5) hN hf6 (hf5.heap hw3 id) oM λw7 hw7 hN hF=>?_;simp only[RU,aa (n:=6) hw7 rfl];exact⟨u,rfl,hN,hF⟩
theorem vN{rb tb:Nat}{t:Tu}(hr:RB w rb r vs vm vi vp vt)(ht:w.heap[tb]?=some (.cells (tuC t) 302))(hne:rb≠tb):Cl prog 367 [pv tb,pv rb] w λo w'=>o=.bool (decide (t.xmax=r.old))/\w'.heap[tb]?=some (.cells (tuC { t with xmax:=r.new }) 302)/\Fm (·=tb) w w':=by have c:=λo=>ab (off:=o) ht;refine cU2 func367 ?_;simp only[RU,c,hr.c8];refine au ht (j:=1) (dC:1<5) rfl λw2 hw2 hs2 hf2=>?_;simp only[RU,(hr.keep hf2 hne).c7,aV];exact⟨hw2,hf2⟩
theorem zf(h:PgN w n0 v p)(hs:Sm p)(hr:RB w g r vs vm vi vp vt)(hq:M.turn p i r.old r.new=some q):Cl prog 366 [.agg (pcs p v),iv i,.func (.func 367) #[] #[pv g]] w λo w'=>∃u,o=.tuple #[.agg (pcs q u),iv 0]/\PgN w' w.heap.size u q/\Fm F0 w w':=by
 unfold M.turn at hq;obtain⟨s,hi,hq⟩:=bind_some hq;obtain⟨t,ht,hq⟩:=bind_some hq;obtain⟨_,hc,hq⟩:=bind_some hq;have hc:=ak hc;rw[E0] at hc;obtain⟨hc,hok⟩:=hc;obtain⟨j,rfl,hj,hlt⟩:=cJ hi;have hsl:=hs s (F7 hj);refine cU3 func366 ?_;refine ae ?_;rintro b1 w1 rfl hs1 hw1 hf1;refine ae ?_;rintro b2 w2 rfl hs2 hw2 hf2;have hw1:=hf2.heap hw1 id;have hF:=Fmf hf1 hf2;obtain⟨ad,k1,_,k2⟩:=(h.it.keep hF iT).iS (i:=j) (x:=stv s) (by rw[E4,hj];rfl) .i64;simp only[RU,C3 (oM:¬(j:Int)<0),PB.c5 hw1,h.it.lenV,C3 (oM:¬(p.items.length:Int)<=(j:Int)),k1,k2];refine(fD hsl (iC ht)).mono ?_;rintro _ w4 ⟨rfl,hf4⟩;simp only[RU];refine aD (us:=tuC t) λw5 hs5 hw5 hf5=>?_;have hf5':=Fmf hf4 hf5;simp only[RU,D8,show((0:Int) != 0)=false from rfl];refine ax kR ?_;refine(vN (hr.keep (Fmf hF hf5') id) hw5 (by have:=aj hr.h;have:=(Fmf hF hf4).size;omega)).mono ?_;rintro _ w6 ⟨rfl,hw6,hf6⟩;have hf6:=Fm.own hf5' hf6 (by rintro y rfl;exact hf4.size);simp only[RU,hc];simp only[RU,aa (n:=5) hw6 rfl];refine(iA hok).mono ?_;rintro _ w7 ⟨rfl,hf7⟩;have hf7:=Fmf hf6 hf7;unfold M.heapWith M.fitsP at hq;obtain⟨_,hfit,hq⟩:=bind_some hq
 replace hq:wi p (p.items.set j (dL { t with xmax:=r.new }))=q:=I6 hq
 have hfit:eU (wi p (p.items.set j (dL { t with xmax:=r.new })))=true:=ak hfit;simp only[RU,show((0:Int) != 0)=false from rfl,PB.all (hf7.heap hw1 id)];have hp:=iZ (h.keep (Fmf hF hf7)) hlt (lx hok) hfit;rw[hq] at hp;refine hp.mono ?_;rintro _ w8 ⟨u,rfl,hN,hf8⟩;simp only[RU];refine rq (Fmf hF hf7) hN hf8 (hf7.heap hw2 id) oM λw7 hw7 hN hF=>?_
 simp only[RU,aa (n:=6) hw7 rfl];exact⟨u,rfl,hN,hF⟩
theorem lV(h:PgN w n0 v p)(hs:Sm p)(hq:M.turn p r.slot r.old r.new=some q):Cl prog 305 [iv m,.agg (pcs p v),.agg (rcs r vs vm vi vp vt)] w λo w'=>∃u,o=.tuple #[.agg (pcs q u),iv 0]/\PgN w' w.heap.size u q/\Fm F0 w w':=by refine cU3 func305 ?_;refine ae ?_;rintro b1 w1 rfl hs1 hw1 hf1;refine ae ?_;rintro b2 w2 rfl hs2 hw2 hf2;refine ae ?_;rintro b3 w3 rfl hs3 hw3 hf3;have hw1:=hf3.heap (hf2.heap hw1 id) id;have hw2:RB w3 w1.heap.size r vs vm vi vp vt:=⟨hf3.heap hw2 id⟩;have hF:=Fmf hf1 (Fmf hf2 hf3);simp only[RU,PB.all hw1,hw2.c6];refine(zf (h.keep hF) hs hw2 hq).mono ?_;rintro _ w4 ⟨u,rfl,hN,hf4⟩;simp only[RU];refine rq hF hN hf4 hw3 oM λw7 hw7 hN hF=>?_;simp only[RU,aa (n:=6) hw7 rfl];exact⟨u,rfl,hN,hF⟩
theorem qB(h:PgN w n0 v p)(hs:Sm p)(hd:r.data.length<=1000000)(hl:p.level=0)(hk:r.kind=3)(hq:M.deed m p r=some q):Cl prog 307 [iv m,.agg (pcs p v),.agg (rcs r vs vm vi vp vt)] w λo w'=>∃u,o=.tuple #[.agg (pcs q u),iv 0]/\PgN w' w.heap.size u q/\Fm F0 w w':=by unfold M.deed at hq;rw[hk] at hq;obtain⟨e,he,hq⟩:=bind_some hq;refine cU3 func307 ?_;refine ae ?_;rintro b1 w1 rfl hs1 hw1 hf1;refine ae ?_;rintro b2 w2 rfl hs2 hw2 hf2;refine ae ?_;rintro b3 w3 rfl hs3 hw3 hf3;have hw1:=hf3.heap (hf2.heap hw1 id) id;have hw2:RB w3 w1.heap.size r vs vm vi vp vt:=⟨hf3.heap hw2 id⟩;have hF:=Fmf hf1 (Fmf hf2 hf3);simp only[RU,PB.c2 hw1,hl,show((0:Int) != 0)=false from rfl,hw2.c10];refine(kj hd he).mono ?_;rintro _ w4 ⟨rfl,hf4⟩;simp only[RU];refine aD (us:=entC e) λw5 hs5 hw5 hf5=>?_;have hf5:=Fmf hf4 hf5;simp only[RU,show((0:Int) != 0)=false from rfl,PB.all (hf5.heap hw1 id),aa (n:=3) hw5 rfl];refine(jk (h.keep (Fmf hF hf5)) hs hq).mono ?_;rintro _ w6 ⟨u,rfl,hN,hf6⟩;simp only[RU];refine rq (Fmf hF hf5) hN hf6 (hf5.heap hw3 id) oM λw7 hw7 hN hF=>?_;simp only[RU,aa (n:=6) hw7 rfl];exact⟨u,rfl,hN,hF⟩
theorem jh(h:PgN w n0 v p)(hm:Mo m)(hl0:(it0 p).length<=1000000){sb:Nat}{s:Int}(hsb:w.heap[sb]?=some (.cells #[.int .u8 s] 373))(h0:0<=s)(h3:s<=3)(hq:M.clogSet m p r.xid s=some q):Cl prog 374 [iv m,.agg (pcs p v),.agg (rcs r vs vm vi vp vt),pv sb] w λo w'=>∃u,o=.tuple #[.agg (pcs q u),iv 0]/\PgN w' w.heap.size u q/\Fm F0 w w':=by refine cU4 func374 ?_;refine ae ?_;rintro b1 w1 rfl hs1 hw1 hf1;refine ae ?_;rintro b2 w2 rfl hs2 hw2 hf2;refine ae ?_;rintro b3 w3 rfl hs3 hw3 hf3;have hw1:=hf3.heap (hf2.heap hw1 id) id;have hw2:RB w3 w1.heap.size r vs vm vi vp vt:=⟨hf3.heap hw2 id⟩;have hF:=Fmf hf1 (Fmf hf2 hf3);simp only[RU,PB.all hw1,hw2.c4,ab (off:=0) (hF.heap hsb id)];refine(wN (h.keep hF) hm hl0 h0 h3 hq).mono ?_;rintro _ w4 ⟨u,rfl,hN,hf4⟩;simp only[RU];refine rq hF hN hf4 hw3 oM λw7 hw7 hN hF=>?_;simp only[RU,aa (n:=6) hw7 rfl];exact⟨u,rfl,hN,hF⟩
theorem wP{k:Bs}(hk:M.keyOk k=true):Cl prog 368 [stv k] w λo w'=>o=.tuple #[stv (M.deadB k),iv 0]/\Fm F0 w w':=by have hk':=keyOk_iff.1 hk;refine cU1 func368 ?_;refine(mL hk).mono ?_;rintro _ w1 ⟨rfl,rfl⟩;simp only[RU];refine WS.new (Fm.refl _ w1) ?_;intro w2 r hW hf2;refine hW.lit (ns:=[4]) (dA _ _) rfl sI sI ?_;intro u w3 hW;have hl:=aK (n:=4) dC;have hl':=aK (n:=k.length) oM;refine hW.text oM (by simp[cu];omega) ?_;intro u w4 hW;refine(dm hW.wr.1).mono ?_;rintro _ _ ⟨rfl,rfl⟩;exact⟨by simp[M.deadB,cu],hW.fm⟩
theorem nV{s:Bs}{t:Tu}(h:fE s=some t):([]:Bs)≠s/\M.keyOk t.key=true:=by
 unfold fE at h;cases hc:decide (5<=s.length)&&decide ((s.getD 0 0).toNat=1)&&decide (vz (M.tuRd s).2.2.1 (M.tuRd s).2.2.2=0)&&decide (ofN ((s.drop 1).take 2)≠0/\ofN ((s.drop 1).take 2)<=1024/\ofN ((s.drop 3).take 2)<=1024/\(M.tuRd s).1≠[]) with
 | false=>rw[hc] at h;cases h
 | true=>rw[hc] at h;cases h;simp only[E0,C4] at hc;obtain⟨⟨⟨g1,g2⟩,g3⟩,g4,g5,g6,g7⟩:=hc;have:=(pP (most:=24) dC (s.drop 5,0)).1;exact⟨by rintro rfl;simp at g1,keyOk_iff.2 ⟨List.length_pos_iff.2 g7,by exact_mod_cast this⟩⟩
theorem xA{s:Bs}(hs:s.length<=1000000){t:Tu}(ht:fE s=some t):Cl prog 200 [stv s] w λo w'=>o=.int .u8 3/\Fm F0 w w':=by have hne:=(nV ht).1;refine cU1 func200 ?_;refine cU0 func284 ?_;rw[show decide (s=[])=false from C3 (λe=>hne e.symm)];simp only[RU];refine(fD hs (iC ht)).mono ?_;rintro _ w4 ⟨rfl,hf4⟩;simp only[RU];refine aD (us:=tuC t) λw5 hs5 hw5 hf5=>?_;simp only[RU,D8,I0];exact Fmf hf4 hf5
theorem yY{s:Bs}(hs:s.length<=1000000){t:Tu}(ht:fE s=some t):Cl prog 201 [stv s] w λo w'=>o=.tuple #[stv t.key,.bool true]/\Fm F0 w w':=by refine cU1 func201 ?_;refine(fD hs (iC ht)).mono ?_;rintro _ w4 ⟨rfl,hf4⟩;simp only[RU];refine aD (us:=tuC t) λw5 hs5 hw5 hf5=>?_;simp only[RU,D8,I0,ab hw5];exact Fmf hf4 hf5
theorem tS(h:PgN w n0 v p)(hs:Sm p)(hk:r.kind=6)(hq:M.deed m p r=some q):Cl prog 306 [iv m,.agg (pcs p v),.agg (rcs r vs vm vi vp vt)] w λo w'=>∃u,o=.tuple #[.agg (pcs q u),iv 0]/\PgN w' w.heap.size u q/\Fm F0 w w':=by
 unfold M.deed at hq;rw[hk] at hq;have hq:(bif decide (r.old≠0)||decide (r.new≠0) then M.turn p r.slot r.old r.new else do
  let s <- M.itemAt p r.slot;let t <- fE s
  M.heapWith p r.slot.toNat (M.deadB t.key))=some q:=hq
 refine cU3 func306 ?_;refine ae ?_;rintro b1 w1 rfl hs1 hw1 hf1;refine ae ?_;rintro b2 w2 rfl hs2 hw2 hf2;refine ae ?_;rintro b3 w3 rfl hs3 hw3 hf3;have hw1:=hf3.heap (hf2.heap hw1 id) id;have hw2:RB w3 w1.heap.size r vs vm vi vp vt:=⟨hf3.heap hw2 id⟩;have hF:=Fmf hf1 (Fmf hf2 hf3);have T:decide (r.old≠0)||decide (r.new≠0)->Cl prog 305 [iv m,.agg (pcs p v),.agg (rcs r vs vm vi vp vt)] w3 λx w4=>Pu (bj x 0) λy=>Pu (bj x 1) λz=>St 6 w4 (pv w2.heap.size) y λ_ w5=>Pu (aI w5 ⟨w2.heap.size,0,none⟩ 6) λx=>∃u,.tuple #[x,z]=Value.tuple #[.agg (pcs q u),iv 0]/\PgN w5 w.heap.size u q/\Fm F0 w w5:=by intro hc;rw[hc,D8] at hq;refine(lV (h.keep hF) hs hq).mono ?_;rintro _ w4 ⟨u,rfl,hN,hf4⟩;simp only[RU];refine rq hF hN hf4 hw3 oM λw7 hw7 hN hF=>?_;simp only[RU,aa (n:=6) hw7 rfl];exact⟨u,rfl,hN,hF⟩
 have eo:decide (r.old≠0)=(r.old != 0):=by rw[aF];simp
 have en:decide (r.new≠0)=(r.new != 0):=by rw[aF];simp
 rw[eo,en] at hq T;cases ho:(r.old != 0) with
 | true=>simp only[RU,hw2.c7,ho,PB.all hw1,hw2.all];exact T (by rw[ho];rfl)
 | false=>
 cases hn:(r.new != 0) with
 | true=>simp only[RU,hw2.c7,hw2.c8,ho,hn,PB.all hw1,hw2.all];exact T (by rw[ho,hn];rfl)
 | false=>
 rw[ho,hn,Jf,C8] at hq;obtain⟨s,hi,hq⟩:=bind_some hq;obtain⟨t,ht,hq⟩:=bind_some hq;obtain⟨j,hj0,hj,hlt⟩:=cJ hi;rw[hj0] at hq;have hsl:=hs s (F7 hj);obtain⟨ad,k1,_,k2⟩:=(h.it.keep hF iT).iS (i:=j) (x:=stv s) (by rw[E4,hj];rfl) .i64;simp only[RU,hw2.c7,hw2.c8,ho,hn,hw2.c6,hj0,C3 (oM:¬(j:Int)<0),PB.c5 hw1,h.it.lenV,C3 (oM:¬(p.items.length:Int)<=(j:Int)),k1,k2];refine(xA hsl ht).mono ?_;rintro _ w4 ⟨rfl,hf4⟩;have hw2':=hw2.keep hf4 id;obtain⟨ad,k1,_,k2⟩:=(h.it.keep (Fmf hF hf4) iT).iS (i:=j) (x:=stv s) (by rw[E4,hj];rfl) .i64;simp only[RU,show((3:Int) != 3)=false from rfl,hw2'.c6,hj0,PB.c5 (hf4.heap hw1 id),k1,k2];refine(yY hsl ht).mono ?_;rintro _ w5 ⟨rfl,hf5⟩;have hf5:=Fmf hf4 hf5;simp only[RU];refine(wP (nV ht).2).mono ?_;rintro _ w6 ⟨rfl,hf6⟩;have hf6:=Fmf hf5 hf6;have hw2':=hw2.keep hf6 id;have hk:=keyOk_iff.1 (nV ht).2;have hdl:(M.deadB t.key).length<=1000000:=by have:=aK (n:=4) dC;have:=aK (n:=t.key.length) oM;simp only[M.deadB,iK,C5];omega
 unfold M.heapWith M.fitsP at hq;obtain⟨_,hfit,hq⟩:=bind_some hq
 replace hq:wi p (p.items.set j (M.deadB t.key))=q:=I6 hq
 have hfit:eU (wi p (p.items.set j (M.deadB t.key)))=true:=ak hfit;simp only[RU,show((0:Int) != 0)=false from rfl,PB.all (hf6.heap hw1 id),hw2'.c6,hj0];have hp:=iZ (h.keep (Fmf hF hf6)) hlt hdl hfit;rw[hq] at hp;refine hp.mono ?_;rintro _ w8 ⟨u,rfl,hN,hf8⟩;simp only[RU];refine rq (Fmf hF hf6) hN hf8 (hf6.heap hw3 id) oM λw7 hw7 hN hF=>?_
 simp only[RU,aa (n:=6) hw7 rfl];exact⟨u,rfl,hN,hF⟩
theorem Hq:KeyT prog 329 164 328 (Value.int .u8):=dG underlying329 underlying164
def fnV(g:FuncId):Value:=.func (.func g) #[] #[]
def Fq(b:Nat):Value:=.func (.func 374) #[] #[pv b]
def dd(x y:Nat):List (Int×Value):=[(1,fnV 304),(2,fnV 305),(6,fnV 306),(3,fnV 307),(4,fnV 308),(7,Fq x),(8,Fq y),(9,fnV 310),(10,fnV 311),(11,fnV 312)]
theorem zu{w0:World}{b:Nat}{D:List (Int×Value)}(h:MapAt w b (Value.int .u8) id D)(hf0:Fm F0 w0 w)(hb:w0.heap.size<=b)(a:Int)(u:Value){k:KV}(hk:∀w',MapAt w' b (Value.int .u8) id (cM D a u)->Fm F0 w0 w'->Fm (·=b) w w'->k undef w'):RunU prog (Instr.mapUpdate 329 (.map (some b)) (.int .u8 a) u) w k:=by obtain⟨w',hr,hm,hf,_⟩:=bk Hq h a u;exact cA hr (hk w' hm (Fm.own hf0 hf (by rintro y rfl;exact hb)) hf)
theorem tj(w:World)(s:Int):Cl prog 309 [.int .u8 s] w λo w'=>o=Fq w.heap.size/\w'.heap[w.heap.size]?=some (.cells #[.int .u8 s] 373)/\Fm F0 w w':=by refine cU1 func309 ?_;refine ae ?_;rintro b1 w1 rfl hs1 hw1 hf1;exact⟨rfl,hw1,hf1⟩
theorem lU(w:World):Cl prog 229 [] w λo w'=>∃b x y,o=.map (some b)/\MapAt w' b (Value.int .u8) id (dd x y)/\w'.heap[x]?=some (.cells #[.int .u8 2] 373)/\w'.heap[y]?=some (.cells #[.int .u8 3] 373)/\Fm F0 w w':=by refine cU0 func229 ?_;refine ag (bf _ _) ?_;have hf:=Fm.alloc F0 w (.map #[] 0);have hm:=MapAt.empty w (Value.int .u8) (id:Value->Value);generalize w.alloc (.map #[] 0)=w0 at hf hm;refine zu hm hf (D9 _) _ _ λw1 hm hf _=>?_;refine zu hm hf (D9 _) _ _ λw2 hm hf _=>?_;refine zu hm hf (D9 _) _ _ λw3 hm hf _=>?_;refine zu hm hf (D9 _) _ _ λw4 hm hf _=>?_;refine zu hm hf (D9 _) _ _ λw5 hm hf _=>?_;have hl:=hm.lt;refine(tj w5 2).mono ?_;rintro _ w6 ⟨rfl,hx,hf6⟩;have hm:=hm.keep hf6 id;refine zu hm (Fmf hf hf6) (D9 _) _ _ λw7 hm hf hg=>?_;have hx:=hg.heap hx oM;have hl7:=hm.lt;refine(tj w7 3).mono ?_;rintro _ w8 ⟨rfl,hy,hf8⟩;have hx:=hf8.heap hx id;have hm:=hm.keep hf8 id;refine zu hm (Fmf hf hf8) (D9 _) _ _ λw9 hm hf hg=>?_;have hx:=hg.heap hx oM;have hy:=hg.heap hy oM;refine zu hm hf (D9 _) _ _ λwa hm hf hg=>?_;have hx:=hg.heap hx oM;have hy:=hg.heap hy oM;refine zu hm hf (D9 _) _ _ λwb hm hf hg=>?_;have hx:=hg.heap hx oM;have hy:=hg.heap hy oM;refine zu hm hf (D9 _) _ _ λwc hm hf hg=>?_;have hx:=hg.heap hx oM;have hy:=hg.heap hy oM;exact⟨_,_,_,rfl,hm,hx,hy,hf⟩
end
section
variable{w w':World}{n0 base:Nat}{v u vs vm vi vp vt:Value}{p q:Pg}{r:Rc}{m i:Int}{l:List Int}
theorem jf(h:CellsAt w v l.length 1 (l.map iv))(hl:l.length<=1000000)(hnd:∀i a b,l[i]?=some a->l[i+1]?=some b->a≠b):Cl prog 91 [v] w λo w'=>o=v/\Fm F0 w w':=by
 refine cU1 func91 ?_ (V [(9,[3,5]),(4,[3])]) (J [(10,[3])]);by_cases h2:l.length<2
 ·simp only[RU,h.lenV,C9 (oM:((l.length:Nat):Int)<2)];exact Fm.refl _ _
 ·simp only[RU,h.lenV,C3 (oM:¬((l.length:Nat):Int)<2)];refine⟨λvs w3=>∃i:Nat,vs=[iv (i+1:Nat)]/\i<l.length/\Fm F0 w w3,λvs _=>(l.length - nth vs 0).toNat,⟨0,rfl,oM,Fm.refl _ _⟩,?_⟩;rintro w3 v1 ⟨i,hvs,hil,hf⟩;cases hvs;have h:=h.keep hf iT;by_cases hlt:i+1<l.length
  ·have e0:l[i]?=some l[i]:=C6 hil;have e1:l[i+1]?=some l[i+1]:=C6 hlt;have hne:=hnd i _ _ e0 e1;generalize l[i]=x at e0 hne;generalize l[i+1]=y at e1 hne;have hd:=Fm.drew F0 w3;obtain⟨a1,i1,_,c1⟩:=(h.keep hd iT).iS (i:=i+1) (x:=iv y) (by rw[E4,e1];rfl) .i64;obtain⟨a0,i0,_,c0⟩:=(h.keep hd iT).iS (i:=i) (x:=iv x) (by rw[E4,e0];rfl) .i64;rw[bE] at c1 c0;simp only[RU,C9 (oM:(((i+1:Nat):Nat):Int)<(l.length:Int)),i1,c1,show IntKind.i64.wrap (((i+1:Nat):Int) - 1)=(i:Int) by rw[af]<;>omega,i0,c0,aV,C3 (show ¬y=x from λe=>hne e.symm),show IntKind.i64.wrap (((i+1:Nat):Int)+1)=((i+1+1:Nat):Int) by rw[af]<;>omega];exact⟨⟨i+1,rfl,oM,Fmf hf hd⟩,by simp only[ba];omega⟩
  ·simp only[RU,C3 (oM:¬((i+1:Nat):Int)<(l.length:Int))];exact hf
theorem qy{n:Int}(h:w.ownsRow base 3 1 v 2 [iv n,iv n]):Cl prog 91 [v] w λo w'=>w'.ownsRow base 3 1 o 1 [iv n]/\Fm (base<=·) w w':=by
 rcases h.2 with⟨rfl,hn⟩|⟨g,cap,cur,rfl,hbg,hgg,hnc,hcm,hcs,htake⟩
 ·omega
 rw[IZ] at hcs htake;have hlt:=aj hgg;have s1:slV 1 (.slice (some ⟨g,0,none⟩) 2 cap) (some (iv 1)) none none=some (.slice (some ⟨g,1,none⟩) 1 (cap - 1)):=by have e1:bnd 2 0 (some (iv 1))=some 1:=eL (i:=1) oM .i64;have e2:bnd cap cap none=some cap:=rfl;simp only[slV,Bq,e1,e2,IW,I2];rw[IT oM];rfl
 have s2:slV 1 (.slice (some ⟨g,0,none⟩) 2 cap) none (some (iv 1)) none=some (.slice (some ⟨g,0,none⟩) 1 cap):=by have e1:bnd cap 2 (some (iv 1))=some 1:=eL (i:=1) oM .i64;have e2:bnd cap cap none=some cap:=rfl;have e3:bnd 1 0 none=some 0:=rfl;simp only[slV,Bq,e1,e2,e3,IW,I2];rw[IT oM];rfl
 have hz:∀w,(zeroValue 3).run prog w=.ok (iv 0) w:=λw=>by kernel_rfl
 have clr:=Go.Lib.run_clear_slice (P:=prog) w.drew 25 3 0 (iv 0) underlying25 hz kR kR g 1 1 (cap - 1) oM (by
  intro j hj;rw[bE,ab hgg,KA (oM:1+j<cur.size)];rfl) (by
  intro j hj;simp only[World.frozen?,aM,hgg];simp)
 have hc:=CellsAt.aT h;obtain⟨a1,i1,_,c1⟩:=hc.iS (i:=1) (x:=iv n) rfl .i64;obtain⟨a0,i0,_,c0⟩:=hc.iS (i:=0) (x:=iv n) rfl .i64
 replace i1:ixV 1 _ (iv 1)=_:=i1
 replace i0:ixV 1 _ (iv 0)=_:=i0
 refine cU1 func91 ?_ (V [(9,[3,5]),(4,[3])]) (J [(10,[3])]);simp only[RU,show decide (((2:Nat):Int)<2)=false from rfl];refine⟨λvs w3=>vs=[iv 1]/\w3=w,λ_ _=>0,⟨rfl,rfl⟩,?_⟩;rintro w3 v1 ⟨hvs,rfl⟩;cases hvs;simp only[RU,show decide ((1:Int)<((2:Nat):Int))=true from rfl,i1,c1,show IntKind.i64.wrap ((1:Int) - 1)=0 from rfl,i0,c0,I0,s1];refine⟨λvs w4=>vs=[iv 1,iv 1]/\w4=w3.drew,λ_ _=>0,⟨rfl,rfl⟩,?_⟩;rintro w4 v1 v2 ⟨hvs,rfl⟩;cases hvs;simp only[RU,show decide ((1:Int)<((1:Nat):Int))=false from rfl,s1];refine ag clr ?_;simp only[RU,s2];have hgd:w3.drew.heap[g]?=some (.cells cur 3):=by rw[aM];exact hgg
 have hg2:(w3.drew.setCells g 1 (List.replicate 1 (iv 0))).heap[g]?=some (.cells (cur.setIfInBounds 1 (iv 0)) 3):=ed hgd 1 (iv 0);refine⟨⟨rfl,.inr ⟨g,cap,_,rfl,hbg,hg2,oM,hcm,by simp[hcs],?_⟩⟩,((Fm.drew (base<=·) w3).trans (Fm.setCells g _ _ _) iT (λy _ e=>by rw[e];exact hbg))⟩;have e:cur.toList[0]?=some (iv n):=by
  have:(cur.toList.take 2)[0]?=some (iv n):=by rw[htake];rfl
  rwa [Jz,IY oM] at this
 rw[IZ,Jy,List.take_set_of_le oM]
 match hcl:cur.toList,e with
 | x::l,e=>cases e;rfl
def DkT(k:Int):Prop:=k=1\/k=2\/k=3\/k=6\/k=7\/k=8
theorem Bu{k:Int}(h:DkT k)(x y:Nat):∃f,getD (dd x y) k=some f/\(f=fnV 304\/f=fnV 305\/f=fnV 306\/f=fnV 307\/f=Fq x\/f=Fq y):=by
 rcases h with rfl|rfl|rfl|rfl|rfl|rfl
 ·exact⟨_,rfl,.inl rfl⟩
 ·exact⟨_,rfl,.inr (.inl rfl)⟩
 ·exact⟨_,rfl,.inr (.inr (.inr (.inl rfl)))⟩
 ·exact⟨_,rfl,.inr (.inr (.inl rfl))⟩
 ·exact⟨_,rfl,.inr (.inr (.inr (.inr (.inl rfl))))⟩
 ·exact⟨_,rfl,.inr (.inr (.inr (.inr (.inr rfl))))⟩
theorem E25:ElemT prog 25 3 1 8:=bG underlying25 kR
theorem wU{b x y:Nat}(hm:MapAt w b (Value.int .u8) id (dd x y))(k:Int):(Instr.lookup 329 (.map (some b)) (.int .u8 k) false).run prog w=.ok ((getD (dd x y) k).getD .nilFunc) w:=by rw[aX Hq hm k false (z:=.nilFunc) kR];cases getD (dd x y) k<;>rfl
def Tch(r:Rc)(n:Int):Prop:=(r.imgs=[]/\DkT r.kind/\r.page=n)\/(∃x,r.imgs=[x]/\x.1=n/\(r.kind=13\/(DkT r.kind/\r.page=n)))
theorem mM(hi:ImAs w vi r.imgs){n:Int}(h:Tch r n):Cl prog 134 [.agg (rcs r vs vm vi vp vt)] w λo w'=>w'.ownsRow w.heap.size 3 1 o 1 [iv n]/\Fm F0 w w':=by
 have hlen:r.imgs.length<=1:=by rcases h with⟨e,_⟩|⟨x,e,_⟩<;>rw[e]<;>simp
 refine cU1 func134 ?_ (V [(3,[3,9])]) (J [(9,[3])]);refine ae ?_;rintro b1 w1 rfl hs1 hw1 hf1
 replace hw1:RB w1 w.heap.size r vs vm vi vp vt:=⟨hw1⟩
 simp only[RU,hw1.c13,hi.lenV];refine⟨λvs w3=>∃(o:Value) (i:Nat),vs=[o,iv i]/\i<=r.imgs.length/\w3.ownsRow w1.heap.size 3 1 o i ((r.imgs.take i).map λx=>iv x.1)/\Fm F0 w1 w3,λvs _=>(r.imgs.length - nth vs 1).toNat,⟨nl,0,rfl,oM,World.ownsRow_nil w1 _ 3 1,Fm.refl _ _⟩,?_⟩;rintro w3 o v1 ⟨o',i,hvs,hil,ho,hf3⟩;cases hvs;by_cases hlt:i<r.imgs.length
 ·have hx:r.imgs[i]?=some r.imgs[i]:=C6 hlt;have et:=H8 (l:=r.imgs) (i:=i);rw[hx] at et;generalize r.imgs[i]=x at hx et;obtain⟨ad,u,k1,k2,k3,k4⟩:=(hi.keep (Fmf hf1 hf3)).ld hx;simp only[RU,C9 (oM:(i:Int)<(r.imgs.length:Int)),k1,k2];refine aD (us:=(imC (x.1,x.2,u)).toArray) (λw4 hs4 hw4 hf4=>?_) rfl rfl (by simp[imC,pcs,k3];exact⟨rfl,rfl,rfl,rfl,rfl,rfl⟩);simp only[RU,ab hw4,show(imC (x.1,x.2,u))[0]?=some (iv x.1) from rfl,show IntKind.i64.wrap ((i:Int)+1)=((i+1:Nat):Int) by rw[af]<;>omega];refine dk E25 oM 25 (cs:=[iv x.1]) rfl (dA _ _) (by intro u hu;simp at hu;subst hu;rfl) (ah ho hf4 (λ_ _ _ _ e=>e)) (by unfold maxLen;omega) oM (Fmf hf3 hf4).size ?_;intro v' w5 ho5 _ hf5;refine⟨⟨v',i+1,rfl,oM,by rw[et];simpa using ho5,Fm.own (Fmf hf3 hf4) hf5 (λy hy=>hy)⟩,by simp only[cK];omega⟩
 ·obtain rfl:i=r.imgs.length:=oM;rw[IX] at ho;have hw3:=hw1.keep hf3 id;simp only[RU,C3 (oM:¬((r.imgs.length:Nat):Int)<(r.imgs.length:Int))];refine aJ (λvs w'=>∃o l,vs=[o]/\w'.ownsRow w1.heap.size 3 1 o l.length (l.map iv)/\(l=[n]\/l=[n,n])/\Fm F0 w1 w') ?_ ?_
  ·rintro _ w4 ⟨o,l,rfl,ho,hl,hf4⟩;have e1:∀l:List Int,l.map encZ=l.map iv:=λl=>rfl;refine⟨_,rfl,(nR (by rcases hl with rfl|rfl<;>simp) (e1 l▸ho)).mono ?_⟩;rintro _ w5 ⟨ho5,hf5⟩;have hf5:=Fm.own (Fmf hf1 hf4) hf5 (by rintro y hy;have:=hf1.size;omega);rw[List.mergeSort_of_pairwise (by rcases hl with rfl|rfl<;>simp),e1] at ho5;rcases hl with rfl|rfl
   ·refine(jf (l:=[n]) (CellsAt.aT ho5) sI (by intro i a b _ h;simp at h)).mono ?_;rintro _ w6 ⟨rfl,hf6⟩;exact⟨aU (ah ho5 hf6 (λ_ _ _ _ e=>e)) hf1.size,Fmf hf5 hf6⟩
   ·refine(qy ho5).mono ?_;rintro _ w6 ⟨ho6,hf6⟩;exact⟨aU ho6 hf1.size,Fm.own hf5 hf6 (by rintro y hy;have:=hf1.size;omega)⟩
  ·intro kk hkk;refine⟨λw'=>Fm F0 w3 w',Fm.drew _ _,?_⟩;simp only[RU];refine rdP (λw' hw=>(hw3.keep hw id).c3) ?_;refine(lU _).mono ?_;rintro _ w4 ⟨b,x,y,rfl,hm,_,_,hf4⟩;have hf4:=Fmf (Fm.drew F0 w3) hf4;have ho4:=ah ho hf4 (λ_ _ _ _ e=>e);refine⟨hf4,ag (wU hm _) ⟨rfl,?_⟩⟩;have fin:DkT r.kind->r.page=n->(r.imgs.map (λx=>iv x.1)=[]\/r.imgs.map (λx=>iv x.1)=[iv n])->Pu (aC (TypeDesc.func #[3,68,168] #[68,36] false) .neq ((getD (dd x y) r.kind).getD .nilFunc) .nilFunc) λv=>IfB v (Pu (w4.cell? ⟨w.heap.size,5,none⟩) λu=>RunS prog (Instr.buildSlice 25 1 #[(0,u)]) w4 λv w=>RunS prog (Builtin.append_ #[25,25] 25 #[o,v]) w λv w=>kk [v] w) (kk [o] w4):=by
    intro hk hp hl;obtain⟨f,hg,hff⟩:=Bu hk x y;have e1:aC (TypeDesc.func #[3,68,168] #[68,36] false) .neq f .nilFunc=some (.bool true):=by rcases hff with rfl|rfl|rfl|rfl|rfl|rfl<;>kernel_rfl
    rw[hg];simp only[RU,JH,e1,(hw3.keep hf4 id).c5,hp];refine dk E25 oM 25 (cs:=[iv n]) rfl (dA _ _) (by intro u hu;simp at hu;subst hu;rfl) ho4 (by unfold maxLen;omega) oM (Fmf hf3 hf4).size ?_;intro v' w5 ho5 _ hf5;have hl5:=ho5.1;rcases hl with hl|hl<;>rw[hl] at ho5 hl5
    ·have e:r.imgs.length=0:=by have:=IR List.length hl;rwa [H2] at this
     rw[e] at ho5;exact hkk _ _ ⟨v',[n],rfl,ho5,.inl rfl,Fm.own (Fmf hf3 hf4) hf5 (λy hy=>hy)⟩
    ·have e:r.imgs.length=1:=by have:=IR List.length hl;rwa [H2] at this
     rw[e] at ho5;exact hkk _ _ ⟨v',[n,n],rfl,ho5,.inr rfl,Fm.own (Fmf hf3 hf4) hf5 (λy hy=>hy)⟩
   rcases h with⟨h1,h2,h3⟩|⟨z,h1,h2,h3|⟨h3,h4⟩⟩
   ·exact fin h2 h3 (.inl (by rw[h1];rfl))
   ·rw[h3,show getD (dd x y) 13=none from rfl];have e1:aC (TypeDesc.func #[3,68,168] #[68,36] false) .neq .nilFunc .nilFunc=some (.bool false):=kR;rw[h1] at ho4;simp only[RU,Option.getD_none,e1];refine hkk _ _ ⟨o,[n],rfl,by simpa[h2] using ho4,.inl rfl,Fmf hf3 hf4⟩
   ·exact fin h3 h4 (.inr (by rw[h1,Ji,h2];rfl))
end
open M (it0)
section
variable{w w':World}{n0 base:Nat}{v u vs vm vi vp vt:Value}{p q:Pg}{r:Rc}{m i:Int}
theorem wS(hq:M.deed m p r=some q):DkT r.kind:=by unfold M.deed at hq;unfold DkT;split at hq<;>first|cases hq|(rename_i e;rw[e];decide)
theorem xu(hs:Sm p):(it0 p).length<=1000000:=by
 unfold it0
 match hi:p.items with
 | []=>simp
 | a::l=>exact hs a (by rw[hi];simp)
theorem wR(h:PgN w n0 v p)(hm:Mo m)(hs:Sm p)(hd:r.data.length<=1000000){x y:Nat}(hx:w.heap[x]?=some (.cells #[.int .u8 2] 373))(hy:w.heap[y]?=some (.cells #[.int .u8 3] 373)){f:Value}(hf:getD (dd x y) r.kind=some f)(hq:M.deed m p r=some q){k:KV}(kk:∀u w',PgN w' w.heap.size u q->Fm F0 w w'->k (.tuple #[.agg (pcs q u),iv 0]) w'):ClV prog f [iv m,.agg (pcs p v),.agg (rcs r vs vm vi vp vt)] w k:=by
 have hq0:=hq;have kk:∀o w',(∃u,o=.tuple #[.agg (pcs q u),iv 0]/\PgN w' w.heap.size u q/\Fm F0 w w')->k o w':=by rintro _ w' ⟨u,rfl,hN,hf⟩;exact kk u w' hN hf
 rcases wS hq with hk|hk|hk|hk|hk|hk<;>rw[hk] at hf<;>cases hf
 ·exact ax kR ((oI h hd hk hq).mono kk)
 ·unfold M.deed at hq;rw[hk] at hq;exact ax kR ((lV h hs hq).mono kk)
 ·unfold M.deed at hq;rw[hk] at hq;obtain⟨e,he,hq⟩:=bind_some hq;unfold M.nodeIn at hq;obtain⟨l,hl,_⟩:=bind_some hq;exact ax kR ((qB h hs hd (ch hl).1.level hk hq0).mono kk)
 ·exact ax kR ((tS h hs hk hq).mono kk)
 ·unfold M.deed at hq;rw[hk] at hq;exact ax kR ((jh h hm (xu hs) hx dC dC hq).mono kk)
 ·unfold M.deed at hq;rw[hk] at hq;exact ax kR ((jh h hm (xu hs) hy dC dC hq).mono kk)
theorem PgN.lsn(h:PgN w n0 v p){z:Int}(hz:In z):PgN w n0 v { p with lsn:=z }:=⟨h.one,h.it,h.small,⟨hz,h.ins.2⟩,h.fr⟩
theorem Hy(hi:ImAs w vi [])(f:Value):Cl prog 230 [vi,f] w λo w'=>o=iv (-1)/\w'=w:=by refine cU2 func230 ?_ (V [(2,[8])]);simp only[RU,hi.lenV];refine⟨λvs w'=>vs=[iv 0]/\w'=w,λ_ _=>0,⟨rfl,rfl⟩,?_⟩;rintro w2 v1 ⟨hvs,rfl⟩;cases hvs;simp only[RU,show decide ((0:Int)<(([]:List (Int×Pg)).length:Nat))=false from rfl]
theorem GO{x:Int×Pg}{u:Value}{b:Nat}(hb:w.heap[b]?=some (.cells #[iv x.1] 3)):Cl prog 231 [.agg (imC (x.1,x.2,u)).toArray,pv b] w λo w'=>o=.bool true/\Fm F0 w w':=by refine cU2 func231 ?_;refine ae ?_;rintro b1 w1 rfl hs1 hw1 hf1;simp only[RU,ab hw1,ab (hf1.heap hb id),show(imC (x.1,x.2,u))[0]?=some (iv x.1) from rfl,I0];exact hf1
theorem Hz{x:Int×Pg}{g b:Nat}(hc:jw prog g=true)(hg:∀{w:World} {u:Value},w.heap[b]?=some (.cells #[iv x.1] 3)->Cl prog g [.agg (imC (x.1,x.2,u)).toArray,pv b] w λo w'=>o=.bool true/\Fm F0 w w')(hi:ImAs w vi [x])(hb:w.heap[b]?=some (.cells #[iv x.1] 3)):Cl prog 230 [vi,.func (.func g) #[] #[pv b]] w λo w'=>o=iv 0/\Fm F0 w w':=by
 refine cU2 func230 ?_ (V [(2,[8])]);simp only[RU,hi.lenV];refine⟨λvs w'=>vs=[iv 0]/\w'=w,λ_ _=>0,⟨rfl,rfl⟩,?_⟩;rintro w2 v1 ⟨hvs,rfl⟩;cases hvs;obtain⟨ad,u,k1,k2,k3,k4⟩:=hi.ld (i:=0) rfl
 replace k1:ixV 7 vi (iv 0)=_:=k1
 simp only[RU,show decide ((0:Int)<(([x]:List (Int×Pg)).length:Nat))=true from rfl,k1,k2];refine ax hc ((hg hb).mono ?_);rintro _ w1 ⟨rfl,hf1⟩;simp only[RU];exact hf1
theorem wX(h:PgN w n0 v p)(hm:Mo m)(hs:Sm p)(hd:r.data.length<=1000000)(hi:ImAs w vi r.imgs)(h0:r.imgs=[])(hz:In r.lsn)(hl:p.lsn<r.lsn)(hq:M.deed m p r=some q):Cl prog 137 [iv m,.agg (pcs p v),iv r.page,.agg (rcs r vs vm vi vp vt)] w λo w'=>∃u,o=.tuple #[.agg (pcs { q with lsn:=r.lsn } u),iv 0]/\PgN w' w.heap.size u { q with lsn:=r.lsn }/\Fm F0 w w':=by
 have hk:=wS hq;rw[h0] at hi;refine cU4 func137 ?_;refine ae ?_;rintro b1 w1 rfl hs1 hw1 hf1;refine ae ?_;rintro b2 w2 rfl hs2 hw2 hf2;refine ae ?_;rintro b3 w3 rfl hs3 hw3 hf3;refine ae ?_;rintro b4 w4 rfl hs4 hw4 hf4;have hf34:=Fmf hf3 hf4;have hf24:=Fmf hf2 hf34;have hw1:=hf24.heap hw1 id;have hw2:=hf34.heap hw2 id;have hw3:RB w4 w2.heap.size r vs vm vi vp vt:=⟨hf4.heap hw3 id⟩;have hF:=Fmf hf1 hf24;simp only[RU,hw3.c13];refine(Hy (hi.keep hF) _).mono ?_;rintro _ w5 ⟨rfl,rfl⟩;simp only[RU,show decide ((0:Int)<=-1)=false from rfl];refine⟨λw'=>Fm F0 w5 w',Fm.drew _ _,?_⟩;refine rdP (λw' hw=>(hw3.keep hw id).c3) ?_;refine(lU _).mono ?_;rintro _ w6 ⟨b,x,y,rfl,hmp,hx,hy,hf6⟩;have hf6:=Fmf (Fm.drew F0 w5) hf6;obtain⟨f,hg,hff⟩:=Bu hk x y;have e1:aC (TypeDesc.func #[3,68,168] #[68,36] false) .eql f .nilFunc=some (.bool false):=by rcases hff with rfl|rfl|rfl|rfl|rfl|rfl<;>kernel_rfl
 refine⟨hf6,ag (wU hmp _) ⟨rfl,?_⟩⟩;rw[hg];have hw3:=hw3.keep hf6 id;have hw1:=hf6.heap hw1 id;simp only[RU,JH,e1,PB.c0 hw1,hw3.c0,C3 (oM:¬r.lsn<=p.lsn),ab (hf6.heap hw2 id),hw3.c5,(sI:(r.page != r.page)=false),PB.all hw1,hw3.all];refine wR (h.keep (Fmf hF hf6)) hm hs hd hx hy hg hq ?_;intro u w7 hN hf7;simp only[RU];refine aD (us:=pcs q u) (λw8 hs8 hw8 hf8'=>?_) rfl rfl (lK _ hN.one);have hf8:=Fmf hf7 hf8';simp only[RU,show((0:Int) != 0)=false from rfl,(hw3.keep hf8 id).c0];have hz8:=hf7.size;have hw4:=(Fmf hf6 hf8).heap hw4 id;refine au hw8 (j:=0) (dC:0<6) rfl λw9 hw9 hs9 hf9=>?_
 replace hw9:w9.heap[w7.heap.size]?=some (.cells (pcs { q with lsn:=r.lsn } u) 68):=hw9
 simp only[RU,aa (n:=6) hw9 rfl];have hs67:=(Fmf hF hf6).size;have hs56:=hf6.size;have hN9:PgN w9 w6.heap.size u q:=(hN.keep hf8').oN hf9 (λhx e=>by have:=hN.it.blt (by simpa using hx) _ e;omega);refine ao (hf9.heap hw4 oM) (λwa hwa hsa hfa=>?_) rfl rfl (lK _ hN.one);simp only[RU,aa (n:=6) hwa rfl];exact⟨u,rfl,((hN9.dO hfa (by rintro y rfl;omega)).lsn hz).base hs67,Fm.own (Fm.own (Fmf hF (Fmf hf6 hf8)) hf9 (by rintro y rfl;omega)) hfa (by rintro y rfl;omega)⟩
theorem Ic{x:Int×Pg}(hi:ImAs w vi [x]):∃ad u,ixV 7 vi (iv 0)=some (.pointer (some ad))/\aI w (ad.add 1) 6=some (.agg (pcs x.2 u))/\u.oneCell'=true/\PgAs w (pcs x.2 u) x.2:=by
 obtain⟨X,h1,h2,h3⟩:=hi.ex
 match X,h1 with
 | [z],h1=>cases h1;obtain⟨g1,g2⟩:=h3 z sI;obtain⟨ad,k1,k2,k3⟩:=h2.at (i:=0) oM sI .i64;refine⟨ad,z.2.2,k1,aN (l:=(pcs z.2.1 z.2.2).toList) rfl λj hj=>?_,g1,g2⟩;rw[jP,k3 (1+j) oM,Nat.add_comm 1 j];simp[imC]
theorem Bv{x:Int×Pg}(hi:ImAs w vi r.imgs)(h0:r.imgs=[x])(hz:In r.lsn)(hl:x.2.items.length<=1000):Cl prog 137 [iv m,.agg (pcs p v),iv x.1,.agg (rcs r vs vm vi vp vt)] w λo w'=>∃u,o=.tuple #[.agg (pcs { x.2 with lsn:=r.lsn } u),iv 0]/\PgN w' w.heap.size u { x.2 with lsn:=r.lsn }/\Fm F0 w w':=by
 rw[h0] at hi;refine cU4 func137 ?_;refine ae ?_;rintro b1 w1 rfl hs1 hw1 hf1;refine ae ?_;rintro b2 w2 rfl hs2 hw2 hf2;refine ae ?_;rintro b3 w3 rfl hs3 hw3 hf3;refine ae ?_;rintro b4 w4 rfl hs4 hw4 hf4;have hf34:=Fmf hf3 hf4;have hf24:=Fmf hf2 hf34;have hw2:=hf34.heap hw2 id;have hw3:RB w4 w2.heap.size r vs vm vi vp vt:=⟨hf4.heap hw3 id⟩;have hF:=Fmf hf1 hf24;simp only[RU,hw3.c13];refine(Hz kR GO (hi.keep hF) hw2).mono ?_;rintro _ w5 ⟨rfl,hf5⟩;have hF5:=Fmf hF hf5;have hw3:=hw3.keep hf5 id;have hw4:=hf5.heap hw4 id;obtain⟨ad,u,k1,k5,k3,k4⟩:=Ic (hi.keep hF5);simp only[RU,show decide ((0:Int)<=0)=true from rfl,hw3.c13,k1,k5];refine aD (us:=pcs x.2 u) (λw6 hs6 hw6 hf6=>?_) rfl rfl (lK _ k3);simp only[RU];have hw3:=hw3.keep hf6 id;have hl3:=hw3.lt;have hw4:=hf6.heap hw4 id;have hl4:=aj hw4;have hl35:=hf5.size;have hF6:=Fmf hF5 hf6;have hd:=Fm.drew F0 w6;refine⟨λw'=>Fm (·=w5.heap.size) w6 w',Fm.drew _ _,?_⟩;simp only[RU,PB.c5 hw6];refine rdP (λw' hw=>(hw3.keep hw oM).c0) ?_;obtain⟨u',e,_,hit⟩:=(k4.keep (Fmf hf6 hd)).ex;have:u'=u:=by simp only[pcs] at e;injection e with e;simpa using e.symm
 subst this;refine(dh hit oM).mono ?_;rintro v' w7 ⟨ho7,hf7⟩;have hf7:=Fmf hd hf7;have hw7:=hf7.heap hw6 id;refine⟨hf7.mono iE,?_⟩;refine au hw7 (j:=5) (dC:5<6) (az ho7) λw8 hw8 hs8 hf8=>?_
 replace hw8:w8.heap[w5.heap.size]?=some (.cells (pcs x.2 v') 68):=hw8
 refine⟨hf7.trans hf8 iE iT,?_⟩;refine au hw8 (j:=0) (dC:0<6) rfl λw9 hw9 hs9 hf9=>?_
 replace hw9:w9.heap[w5.heap.size]?=some (.cells (pcs { x.2 with lsn:=r.lsn } v') 68):=hw9
 have hl6:w5.heap.size<w6.heap.size:=oM;rw[aM] at ho7;have ho9:=ah (ah ho7 hf8 (by rintro y hy _ _ rfl;omega)) hf9 (by rintro y hy _ _ rfl;omega);have hs6':=hF6.size;have hw4:=hf9.heap (hf8.heap (hf7.heap hw4 id) oM) oM;have hF9:=Fm.own (Fm.own (Fmf hF6 hf7) hf8 (by rintro y rfl;have:=hF5.size;omega)) hf9 (by rintro y rfl;have:=hF5.size;omega);simp only[RU,aa (n:=6) hw9 rfl];refine ao hw4 (λwa hwa hsa hfa=>?_) rfl rfl (lK { x.2 with lsn:=r.lsn } (az ho9));simp only[RU,aa (n:=6) hwa rfl];have hoa:=ah ho9 hfa (by rintro y hy _ _ rfl;omega);exact⟨v',rfl,(PgN.xV (p:={ x.2 with lsn:=r.lsn }) ⟨⟨v',rfl,hoa⟩,k4.small,⟨hz,k4.ins.2⟩⟩ hl).base hs6',Fm.own hF9 hfa (by rintro y rfl;omega)⟩
end
section
variable{w w':World}{vs vm vi vp vt:Value}{r u:Rc}
theorem undoes_spec:Cl prog 212 [.agg (rcs r vs vm vi vp vt)] w λo w'=>o=.bool (M.undoes r)/\Fm F0 w w':=by
 unfold M.undoes;refine cU1 func212 ?_;refine ae ?_;rintro b1 w1 rfl hs1 hw1 hf1
 replace hw1:RB w1 w.heap.size r vs vm vi vp vt:=⟨hw1⟩
 by_cases h1:r.kind=1
 ·simp only[RU,hw1.c3,h1,I0,Jm,Jv];exact hf1
 ·simp only[RU,hw1.c3,aV,C3 h1,Jf];exact hf1
abbrev rcV(r:Rc):Value:=.agg (rcs r nl nl nl nl nl)
theorem Cf(r:Rc):M.back r=(bif decide (r.kind=1) then some ⟨0,0,r.prev,6,r.xid,r.page,r.slot,0,0,0,[],[],[],[],[],[]⟩ else bif decide (r.kind=2) then some ⟨0,0,r.prev,6,r.xid,r.page,r.slot,r.new,r.old,0,[],[],[],[],[],[]⟩ else none):=by
 unfold M.back;split
 ·rename_i e;rw[e];rfl
 ·rename_i e;rw[e];rfl
 ·rename_i h1 h2;rw[C3 h1,C3 h2];rfl
theorem back_spec:Cl prog 120 [.agg (rcs r vs vm vi vp vt)] w λo w'=>o=.tuple #[rcV ((M.back r).getD M.rec0),iv (bif (M.back r).isSome then 0 else 160)]/\Fm F0 w w':=by
 rw[Cf];refine cU1 func120 ?_ (V []) (J [(7,[])]);refine ae ?_;rintro b1 w1 rfl hs1 hw1 hf1;refine ae ?_;rintro b2 w2 rfl hs2 hw2 hf2;have hw1:RB w2 w.heap.size r vs vm vi vp vt:=⟨hf2.heap hw1 id⟩;have hF:=Fmf hf1 hf2;simp only[RU,hw1.c4,hw1.c5,hw1.c6,hw1.c1,jn1];refine bst (rcs ⟨0,0,r.prev,6,r.xid,r.page,r.slot,0,0,0,[],[],[],[],[],[]⟩ nl nl nl nl nl) ?_;refine aD λw3 hs3 hw3 hf3=>?_;have hw1:=hw1.keep hf3 id;have hw2:=hf3.heap hw2 id;have hF:=Fmf hF hf3;have fin:∀(w4:World) (u:Rc) (e:Int) (cs:Array Value),cs.size=16->w4.heap[w1.heap.size]?=some (.cells cs 168)->Fm F0 w w4->St 16 w4 (pv w1.heap.size) (rcV u) λ_ w_2=>Pu (aI w_2 ⟨w1.heap.size,0,none⟩ 16) λx=>Value.tuple #[x,iv e]=.tuple #[rcV u,iv e]/\Fm F0 w w_2:=by intro w4 u e cs hc h2 hf;refine ao h2 (λw5 hw5 hs5 hf5=>?_) rfl hc rfl;simp only[RU,aa (n:=16) hw5 rfl];exact Fm.own hf hf5 (by rintro y rfl;omega)
 by_cases h1:r.kind=1
 ·simp only[RU,hw1.c3,h1,I0,aa (n:=16) hw3 rfl,Jm];exact fin w3 ⟨0,0,r.prev,6,r.xid,r.page,r.slot,0,0,0,[],[],[],[],[],[]⟩ 0 _ rfl hw2 hF
 by_cases h2:r.kind=2
 ·simp only[RU,hw1.c3,h2,show((2:Int) == 1)=false from rfl,I0,show decide ((2:Int)=1)=false from rfl,Jm];have hd:=λ(w':World) (h:Fm (·=w2.heap.size) w3 w')=>hw1.keep h (by have:=hs1;have:=hs2;omega);refine⟨λw'=>Fm (·=w2.heap.size) w3 w',Fm.drew _ _,?_⟩;simp only[RU,hw1.c8];refine rdP (λw' hw=>(hd w' hw).c7) ?_;have hw3d:w3.drew.heap[w2.heap.size]?=_:=(aM w3).symm▸hw3;refine au hw3d (j:=7) (dC:7<16) rfl λw4 hw4 hs4 hf4=>?_;have hf4:=(Fm.drew (·=w2.heap.size) w3).trans hf4 iT iT;refine⟨hf4,au hw4 (j:=8) (dC:8<16) rfl λw5 hw5 hs5 hf5=>?_⟩
  replace hw5:w5.heap[w2.heap.size]?=some (.cells (rcs ⟨0,0,r.prev,6,r.xid,r.page,r.slot,r.new,r.old,0,[],[],[],[],[],[]⟩ nl nl nl nl nl) 168):=hw5
  simp only[RU,aa (n:=16) hw5 rfl];exact fin w5 ⟨0,0,r.prev,6,r.xid,r.page,r.slot,r.new,r.old,0,[],[],[],[],[],[]⟩ 0 _ rfl (hf5.heap (hf4.heap hw2 oM) oM) (Fm.own (Fm.own hF hf4 (by rintro y rfl;omega)) hf5 (by rintro y rfl;omega))
 ·simp only[RU,hw1.c3,aV,C3 h1,C3 h2];refine bst (rcs M.rec0 nl nl nl nl nl) ?_;exact fin w3 M.rec0 160 _ rfl hw2 hF
end
open M (Tx)
abbrev txC(who:Int)(a:Value)(t:Tx):Array Value:=#[iv t.next,a,iv t.xid,iv t.first,iv t.last,iv t.undoes,iv who]
theorem K174:KeyT prog 174 3 170 iv:=dG underlying174 underlying3
def B3(w:World)(y:Nat):Prop:=∃cs fz,w.heap[y]?=some (.cells cs 3 fz)
structure TxAt (w : World) (D : Nat → Prop) (b bm : Nat) (T : List (Int × Nat)) (L : List (Int × Tx)) : Prop where
 st : w.heap[b]? = some (.cells #[.map (some bm)] 176)
 mp : MapAt w bm iv pv T
 keys : T.map (·.1) = L.map (·.1)
 nd : (T.map (·.2)).Nodup
 ob : D b ∧ D bm ∧ ∀ p ∈ T, D p.2
 at_ : ∀ who g, getD T who = some g → ∃ t a, getD L who = some t ∧ w.heap[g]? = some (.cells (txC who a t) 179) ∧ IsIn w a t.act ∧ (∀ y, blockOf a = some y → D y ∧ B3 w y)
section
variable{w w':World}{D:Nat->Prop}{b bm:Nat}{T:List (Int×Nat)}{L:List (Int×Tx)}{v:Value}{l:List Int}{t:Tx}
theorem dE{β:Type}{D:List (Int×β)}{a:Int}{b:β}(h:getD D a=some b):(a,b)∈D:=by
 unfold getD at h;obtain⟨p,hp,rfl⟩:=E6.1 h;have h1:p.1=a:=by simpa using List.find?_some hp
 rw[<- h1];exact List.mem_of_find?_eq_some hp
theorem IsIn.iV{S:Nat->Prop}(h:IsIn w v l)(hf:Fm S w w')(hs:∀y,blockOf v=some y->¬S y):IsIn w' v l:=by obtain⟨A,h1,h2⟩:=h.ex;exact⟨A,h1.keep hf hs,h2⟩
theorem IsIn.one(h:IsIn w v l):v.oneCell'=true:=by
 obtain⟨A,⟨⟨a,c,rfl,_⟩,_⟩,_⟩:=h.ex
 rfl
theorem jE{e:TypeId}{base n:Nat}{A:List Int}(ho:w.ownsRow base e 1 v n (A.map iv))(hn:A.length<=1000000)(hl:∀x,x∈A↔x∈l):IsIn w v l:=by have h:=ho.1;rw[H2,IZ] at h;subst h;exact⟨A,CellsAt.aT ho,hn,hl⟩
theorem kN{e:TypeId}{base n:Nat}{xs:List Value}(ho:w.ownsRow base e 1 v n xs){y:Nat}(h:blockOf v=some y):base<=y:=by
 rcases ho.2 with⟨rfl,_⟩|⟨g,c,cur,rfl,hb,_⟩
 ·cases h
 ·cases h;exact hb
theorem TxAt.keep{S:Nat->Prop}(h:TxAt w D b bm T L)(hf:Fm S w w')(hs:∀y,D y->¬S y):TxAt w' D b bm T L:=by obtain⟨o1,o2,o3⟩:=h.ob;refine⟨hf.heap h.st (hs _ o1),h.mp.keep hf (hs _ o2),h.keys,h.nd,h.ob,λwho g hg=>?_⟩;obtain⟨t,a,q1,q2,q3,q4⟩:=h.at_ who g hg;exact⟨t,a,q1,hf.heap q2 (hs _ (o3 (who,g) (dE hg))),q3.iV hf (λy hy=>hs _ (q4 y hy).1),λy hy=>⟨(q4 y hy).1,by obtain⟨cs,fz,e⟩:=(q4 y hy).2;exact⟨cs,fz,hf.heap e (hs _ (q4 y hy).1)⟩⟩⟩
theorem gv(h:CellsAt w v l.length 1 (l.map iv))(hs:l.length<=1000000):Cl prog 89 [v] w λr w'=>w'.ownsRow w.heap.size 3 1 r l.length (l.map iv)/\Fm F0 w w':=by
 refine cU1 func89 ?_;obtain⟨⟨a,c,hv,h1,h2,h3,h4⟩,hl⟩:=id h;cases a with
 | none=>subst hv;obtain⟨e1,e2⟩:=h3 rfl;have e3:aC (TypeDesc.slice 3) .eql (.slice none l.length c) (.slice none 0 0)=some (.bool true):=kR;simp only[RU,e3];have:l=[]:=H0 e1;subst this;exact⟨World.ownsRow_nil _ _ _ _,Fm.refl _ _⟩
 | some ad=>
  subst hv;have e3:aC (TypeDesc.slice 3) .eql (.slice (some ad) l.length c) (.slice none 0 0)=some (.bool false):=kR;simp only[RU,e3];refine bsl 0 #[] 3 ?_;have ho2:=pA (w:=w) (e:=3) (l:=[]) (by simp[maxLen]) (D9 _);have hf2:=Fm.alloc F0 w (.cells #[] 3)
  replace ho2:(w.alloc (.cells #[] 3)).ownsRow w.heap.size 3 1 (.slice (some ⟨w.heap.size,0,none⟩) 0 0) 0 []:=ho2
  generalize w.alloc (.cells #[] 3)=w2 at ho2 hf2;obtain⟨lv,w3,hr3,ho3,hf3⟩:=cC E25 oM ho2 (h.keep hf2 iT) (by intro u hu;obtain⟨x,_,rfl⟩:=E8.1 hu;rfl) 25 (by unfold maxLen;omega) oM hf2.size;refine ag hr3 ?_;rw[E7,H9] at ho3;exact⟨ho3,Fm.own hf2 hf3 (λy hy=>by have:=aP ho2 y hy;omega)⟩
theorem eH(h:TxAt w D b bm T L){who:Int}(ht:getD L who=some t):Cl prog 87 [pv b,iv who] w λo w'=>∃g a,o=.tuple #[pv g,iv 0]/\getD T who=some g/\w.heap[g]?=some (.cells (txC who a t) 179)/\IsIn w a t.act/\w'=w:=by
 have hk:∃g,getD T who=some g:=by
  have:who∈T.map (·.1):=by rw[h.keys];exact E8.2 ⟨_,dE ht,rfl⟩
  obtain⟨p,hp,e⟩:=E8.1 this;cases hg:getD T who with
  | some g=>exact⟨g,rfl⟩
  | none=>unfold getD at hg;rw[Option.map_eq_none_iff,List.find?_eq_none] at hg;exact absurd (C9 e) (by simpa using hg p hp)
 obtain⟨g,hg⟩:=hk;obtain⟨t',a,q1,q2,q3,q4⟩:=h.at_ who g hg;rw[ht] at q1;cases q1;refine cU2 func87 ?_;have e:=aX K174 h.mp who false (z:=np) kR;rw[hg] at e;simp only[RU,ab h.st];refine ag e ?_;simp only[RU,okV,C8];exact⟨g,a,rfl,hg,q2,q3,trivial⟩
theorem pz{g:Nat}{a:Value}{who:Int}(hg:w.heap[g]?=some (.cells (txC who a t) 179))(ha:IsIn w a t.act):Cl prog 88 [pv g] w λo w'=>∃u,o=.agg #[iv t.next,u,iv t.xid,iv t.first,iv t.last,iv t.undoes]/\IsIn w' u t.act/\u.oneCell'=true/\(∀y,blockOf u=some y->w.heap.size<=y/\B3 w' y)/\Fm F0 w w':=by
 refine cU1 func88 ?_;refine ae ?_;rintro b2 w2 rfl hs2 hw2 hf2;have hg2:=hf2.heap hg id;have ha2:=ha.keep hf2;simp only[RU,cP hg2 (o:=0) (n:=6) (us:=#[iv t.next,a,iv t.xid,iv t.first,iv t.last,iv t.undoes]) (Nat.le_succ 6) rfl];refine aD (us:=#[iv t.next,a,iv t.xid,iv t.first,iv t.last,iv t.undoes]) (λw3 hs3 hw3 hf3=>?_) rfl rfl (by simp[ha.one];exact⟨rfl,rfl,rfl,rfl,rfl⟩);obtain⟨A,hA,hAl,hAi⟩:=(ha2.keep hf3).ex;simp only[RU,ab (hf3.heap hg2 id)];refine(gv hA hAl).mono ?_;rintro u w4 ⟨ho4,hf4⟩;have hw4:=hf4.heap hw3 id;refine au hw4 (j:=1) (dC:1<6) (az ho4) λw5 hw5 hs5 hf5=>?_
 replace hw5:w5.heap[w2.heap.size]?=some (.cells #[iv t.next,u,iv t.xid,iv t.first,iv t.last,iv t.undoes] 107):=hw5
 simp only[RU,aa (n:=6) hw5 rfl];have one:(#[iv t.next,u,iv t.xid,iv t.first,iv t.last,iv t.undoes]:Array Value).toList.all Value.oneCell'=true:=by simp[az ho4];exact⟨rfl,rfl,rfl,rfl,rfl⟩
 have z3:=hf3.size;have z4:=hf4.size;have hF3:=Fmf hf2 (Fmf hf3 hf4);have hF5:=Fm.own hF3 hf5 (by rintro y rfl;have:=hf2.size;omega);refine ao (hf5.heap ((Fmf hf3 hf4).heap hw2 id) oM) (λw6 hw6 hs6 hf6=>?_) rfl rfl one;have hF6:=Fm.own hF5 hf6 (by rintro y rfl;exact D9 _);simp only[RU,aa (n:=6) hw6 rfl];have hl3:=aj hw3;have ho7:=ah (ah ho4 hf5 (by rintro y hy _ _ rfl;omega)) hf6 (by rintro y hy _ _ rfl;omega);refine⟨u,rfl,jE ho7 hAl hAi,az ho4,λy hy=>?_,hF6⟩;have:=kN ho4 hy;refine⟨oM,?_⟩;rcases ho7.2 with⟨rfl,_⟩|⟨g,c,cur,rfl,hb,hg,_⟩
 ·cases hy
 ·cases hy;exact⟨_,_,hg⟩
theorem ly(h:TxAt w D b bm T L){who:Int}(ht:getD L who=some t):Cl prog 29 [pv b,iv who] w λo w'=>∃a,o=.tuple #[.agg #[iv t.next,a,iv t.xid,iv t.first,iv t.last,iv t.undoes],.bool true]/\IsIn w' a t.act/\a.oneCell'=true/\(∀y,blockOf a=some y->w.heap.size<=y/\B3 w' y)/\Fm F0 w w':=by
 refine cU2 func29 ?_;refine ae ?_;rintro b1 w1 rfl hs1 hw1 hf1;refine(eH (h.keep hf1 iT) ht).mono ?_;rintro _ w1 ⟨g,a,rfl,_,hg,ha,rfl⟩;simp only[RU,show((0:Int) != 0)=false from rfl];refine(pz hg ha).mono ?_;rintro _ w2 ⟨u,rfl,hu,ho,hy,hf2⟩;refine ao (hf2.heap hw1 id) (λw3 hw3 hs3 hf3=>?_) rfl rfl (by simp[ho];exact⟨rfl,rfl,rfl,rfl,rfl⟩);simp only[RU,aa (n:=6) hw3 rfl];have hne:∀y,blockOf u=some y->¬y=w.heap.size:=λy h e=>by have:=(hy y h).1;omega
 exact⟨u,rfl,hu.iV hf3 hne,ho,λy h=>⟨by have:=(hy y h).1;omega,by obtain⟨cs,fz,e⟩:=(hy y h).2;exact⟨cs,fz,hf3.heap e (hne y h)⟩⟩,Fm.own (Fmf hf1 hf2) hf3 (by rintro y rfl;exact D9 _)⟩
theorem CO{α β:Type}{f:α->β}:∀{l:List α},(l.map f).Nodup->∀{p q:α},p∈l->q∈l->f p=f q->p=q
 | x::l,h,p,q,hp,hq,e=>by
  rw[Ji,JV] at h;rcases H3.1 hp with h1|h1<;>rcases H3.1 hq with h2|h2
  ·rw[h1,h2]
  ·exact absurd (E8.2 ⟨q,h2,by rw[<- e,h1]⟩) h.1
  ·exact absurd (E8.2 ⟨p,h1,by rw[e,h2]⟩) h.1
  ·exact CO h.2 h1 h2 e
theorem jB{α β:Type}[DecidableEq α]:∀(l:List (α×β)) (a:α),(cO l a).Sublist l
 | [],_=>List.Sublist.refl _
 | p::l,a=>by
  unfold cO;by_cases e:p.1=a
  ·rw[IY e];exact List.sublist_cons_self _ _
  ·rw[IT e];exact(jB l a).cons_cons _
theorem TxAt.upd{who:Int}{g:Nat}{t':Tx}{a:Value}(h:TxAt w D b bm T L)(hg:getD T who=some g)(ht:getD L who=some t)(hg':w.heap[g]?=some (.cells (txC who a t) 179))(hw':w'.heap[g]?=some (.cells (txC who a t') 179))(hf:Fm (·=g) w w')(e:t'.act=t.act):TxAt w' D b bm T (cM L who t'):=by
 obtain⟨o1,o2,o3⟩:=h.ob;have hL:who∈L.map (·.1):=by rw[<- h.keys];exact E8.2 ⟨_,dE hg,rfl⟩
 have hb:b≠g:=by rintro rfl;have:=h.st;rw[hg'] at this;cases this
 have hbm:bm≠g:=by rintro rfl;obtain⟨es,c,hm,_⟩:=h.mp.ex;rw[hg'] at hm;cases hm
 have hn:(T.map (·.1)).Nodup:=h.mp.keys;refine⟨hf.heap h.st hb,h.mp.keep hf hbm,by rw[cR,IY hL];exact h.keys,h.nd,h.ob,λwho' g' hg2=>?_⟩;obtain⟨t2,a2,q1,q2,q3,q4⟩:=h.at_ who' g' hg2;have k3:∀y,blockOf a2=some y->y≠g:=by rintro y hy rfl;obtain⟨_,cs,fz,e⟩:=q4 y hy;rw[hg'] at e;cases e
 have q4':∀y,blockOf a2=some y->D y/\B3 w' y:=λy hy=>⟨(q4 y hy).1,by obtain⟨cs,fz,e⟩:=(q4 y hy).2;exact⟨cs,fz,hf.heap e (k3 y hy)⟩⟩;by_cases hw:who'=who
 ·subst hw;rw[hg] at hg2;cases hg2;rw[ht] at q1;cases q1;rw[hg'] at q2;obtain rfl:a=a2:=by injection q2 with q2;injection q2 with q2;injection q2 with q2;simp at q2;exact q2
  exact⟨t',a,by rw[bl,IY rfl],hw',e▸q3.iV hf k3,q4'⟩
 ·have hne:g'≠g:=by rintro rfl;have:=CO (f:=(·.2)) h.nd (dE hg) (dE hg2) rfl;exact hw (IR (·.1) this).symm
  exact⟨t2,a2,by rw[bl,IT hw];exact q1,hf.heap q2 hne,q3.iV hf k3,q4'⟩
theorem qU(h:TxAt w D b bm T L){who x:Int}{u:Bool}{L':List (Int×Tx)}(hl:M.logged L who x u=some L'):Cl prog 213 [pv b,iv who,iv x,.bool u] w λo w'=>o=iv 0/\TxAt w' D b bm T L'/\Fm D w w':=by
 unfold M.logged at hl;obtain⟨t,ht,hl⟩:=bind_some hl;obtain⟨_,hc,hl⟩:=bind_some hl;cases hl;have hc:=ak hc;simp only[E0,JQ,C4,C7] at hc;obtain⟨⟨h1,h2⟩,h3,h4⟩:=hc;refine cU4 func213 ?_ (V []) (J [(9,[]),(11,[])]);refine(eH h ht).mono ?_;rintro _ w1 ⟨g,a,rfl,hg,hw,ha,rfl⟩;have c:=λo=>ab (off:=o) hw;have hD:=h.ob.2.2 _ (dE hg);have fin:∀(t':Tx) (w2:World),t'.act=t.act->w2.heap[g]?=some (.cells (txC who a t') 179)->Fm (·=g) w1 w2->TxAt w2 D b bm T (cM L who t')/\Fm D w1 w2:=λt' w2 e h2 hf=>⟨h.upd hg ht hw h2 hf e,hf.mono (λy _ e=>by rw[e];exact hD)⟩;simp only[RU,c,aV,C3 h1,C3 (oM:¬x<=t.last),show((0:Int) != 0)=false from rfl,jn1];refine au hw (j:=4) (dC:4<7) rfl λw2 hw2 hs2 hf2=>?_
 replace hw2:w2.heap[g]?=some (.cells (txC who a { t with last:=x }) 179):=hw2
 have c2:=λo=>ab (off:=o) hw2;have tail:∀(t2:Tx) (w3:World),t2.act=t.act->t2.undoes=t.undoes->w3.heap[g]?=some (.cells (txC who a t2) 179)->Fm (·=g) w1 w3->IfB (.bool u) (Pu (w3.cell? ⟨g,5,none⟩) λx=>Pu (aC (.int .i64) .add x (iv 1)) λv=>St 1 w3 (.pointer (some ⟨g,5,none⟩)) v λ_ w=>TxAt w D b bm T (cM L who { t2 with undoes:=bif u then t.undoes+1 else t.undoes })/\Fm D w1 w) (TxAt w3 D b bm T (cM L who { t2 with undoes:=bif u then t.undoes+1 else t.undoes })/\Fm D w1 w3):=by
  intro t2 w3 e1 e2 h2 hf;cases u with
  | false=>rw[C8,<- e2];simp only[RU];exact fin t2 w3 e1 h2 hf
  | true=>rw[D8,<- e2];simp only[RU,ab h2,show IntKind.i64.wrap (t2.undoes+1)=t2.undoes+1 by rw[af]<;>omega];refine au h2 (j:=5) (dC:5<7) rfl λw4 hw4 hs4 hf4=>?_;exact fin { t2 with undoes:=t2.undoes+1 } w4 e1 hw4 (hf.trans hf4 iT iT)
 by_cases h0:t.first=0
 ·simp only[RU,c2,h0,I0,Jm,D8];refine au hw2 (j:=3) (dC:3<7) rfl λw3 hw3 hs3 hf3=>?_;exact tail { t with last:=x,first:=x } w3 rfl rfl hw3 (hf2.trans hf3 iT iT)
 ·simp only[RU,c2 3,aV,C3 h0,C8];exact tail { t with last:=x } w2 rfl rfl hw2 hf2
theorem TxAt.del(h:TxAt w D b bm T L){who:Int}(hm:MapAt w' bm iv pv (cO T who))(hf:Fm (·=bm) w w'):TxAt w' D b bm (cO T who) (cO L who):=by
 obtain⟨o1,o2,o3⟩:=h.ob;have hn:=h.mp.keys;have hnL:(L.map (·.1)).Nodup:=h.keys▸hn;have hmap:∀y,∀cs t fz,w.heap[y]?=some (.cells cs t fz)->y≠bm:=by rintro y cs t fz e rfl;obtain⟨es,c,hm,_⟩:=h.mp.ex;rw[e] at hm;cases hm
 have hsub:∀p∈cO T who,p∈T:=λp hp=>(jB T who).subset hp;refine⟨hf.heap h.st (hmap _ _ _ _ h.st),hm,by rw[gZ,gZ,h.keys],((jB T who).map _).nodup h.nd,⟨o1,o2,λp hp=>o3 p (hsub p hp)⟩,λwho' g' hg=>?_⟩;rw[cQ hn] at hg;by_cases e:who'=who
 ·rw[IY e] at hg;cases hg
 ·rw[IT e] at hg;obtain⟨t,a,q1,q2,q3,q4⟩:=h.at_ who' g' hg;have hb:∀y,blockOf a=some y->¬y=bm:=λy hy=>by obtain⟨_,cs,fz,e⟩:=q4 y hy;exact hmap _ _ _ _ e
  exact⟨t,a,by rw[cQ hnL,IT e];exact q1,hf.heap q2 (hmap _ _ _ _ q2),q3.iV hf hb,λy hy=>⟨(q4 y hy).1,by obtain⟨cs,fz,e⟩:=(q4 y hy).2;exact⟨cs,fz,hf.heap e (hb y hy)⟩⟩⟩
theorem qb(h:TxAt w D b bm T L)(hD:∀y,D y->y<w.heap.size){who:Int}(ht:getD L who=some t):Cl prog 115 [pv b,iv who] w λo w'=>∃x,o=.tuple #[x,iv 0]/\TxAt w' D b bm (cO T who) (cO L who)/\Fm D w w':=by
 refine cU2 func115 ?_;refine ae ?_;rintro b1 w1 rfl hs1 hw1 hf1;have h1:=h.keep hf1 iT;refine(eH h1 ht).mono ?_;rintro _ w1 ⟨g,a,rfl,hgt,hg,ha,rfl⟩;simp only[RU,show((0:Int) != 0)=false from rfl,ab h1.st];obtain⟨w2,hr2,hm2,hf2,_⟩:=dQ K174 h1.mp who 0 3;refine ag hr2 ?_;have hx:∀y,blockOf a=some y->¬y=bm:=by
  rintro y hy rfl;obtain⟨t2,a2,q1,q2,q3,q4⟩:=h1.at_ who g hgt;rw[hg] at q2;obtain rfl:a=a2:=by injection q2 with q2;injection q2 with q2;injection q2 with q2;simp at q2;exact q2.2.1
  obtain⟨_,cs,fz,e⟩:=q4 _ hy;obtain⟨es,c,hm,_⟩:=h1.mp.ex;rw[e] at hm;cases hm
 have hgb:¬g=bm:=by rintro rfl;obtain⟨es,c,hm,_⟩:=h1.mp.ex;rw[hg] at hm;cases hm
 have h2:=h1.del hm2 hf2;refine(pz (hf2.heap hg hgb) (ha.iV hf2 hx)).mono ?_;rintro _ w3 ⟨u,rfl,hu,ho,hy,hf3⟩;have hwne:w.heap.size≠bm:=by have:=h.mp.lt;omega
 refine ao (hf3.heap (hf2.heap hw1 hwne) id) (λw4 hw4 hs4 hf4=>?_) rfl rfl (by simp[ho];exact⟨rfl,rfl,rfl,rfl,rfl⟩);simp only[RU,aa (n:=6) hw4 rfl];have f12:Fm D w w2:=hf1.trans hf2 iE (λy _ e=>by rw[e];exact h.ob.2.1);exact⟨_,rfl,(h2.keep hf3 iT).keep hf4 (λy hy e=>by have:=hD y hy;omega),(f12.trans hf3 iT iE).trans hf4 iT (λy hy e=>oM)⟩
theorem vg(w:World):Cl prog 83 [] w λo w'=>∃b bm,o=pv b/\w.heap.size<=b/\w.heap.size<=bm/\TxAt w' (w.heap.size<=·) b bm [] []/\Fm F0 w w':=by refine cU0 func83 ?_;refine ag (bf _ _) (bst #[.map (some w.heap.size)] ?_);simp only[RU];refine ae ?_;intro b w' hb hs hw hf;have:=aE w (.map #[] 0);exact⟨b,w.heap.size,rfl,oM,D9 _,⟨hw,(MapAt.empty w iv pv).keep hf id,rfl,sI,⟨oM,D9 _,sI⟩,λwho g hg=>by cases hg⟩,Fmf (Fm.alloc F0 w _) hf⟩
theorem TxAt.none{who:Int}(h:TxAt w D b bm T L)(hn:getD L who=Option.none):getD T who=Option.none:=by
 cases hg:getD T who with
 | none=>rfl
 | some g=>obtain⟨t,a,q,_⟩:=h.at_ who g hg;rw[hn] at q;cases q
theorem TxAt.wide{D':Nat->Prop}(h:TxAt w D b bm T L)(hD:∀y,D y->D' y):TxAt w D' b bm T L:=⟨h.st,h.mp,h.keys,h.nd,⟨hD _ h.ob.1,hD _ h.ob.2.1,λp hp=>hD _ (h.ob.2.2 p hp)⟩,λwho g hg=>by obtain⟨t,a,q1,q2,q3,q4⟩:=h.at_ who g hg;exact⟨t,a,q1,q2,q3,λy hy=>⟨hD _ (q4 y hy).1,(q4 y hy).2⟩⟩⟩
theorem TxAt.add{who:Int}{g:Nat}{a:Value}(h:TxAt w D b bm T L)(hn:getD L who=Option.none)(hg:w.heap[g]?=some (.cells (txC who a t) 179))(hT:∀p∈T,p.2≠g)(ha:IsIn w a t.act)(hy:∀y,blockOf a=some y->D y/\B3 w y)(hD:D g)(hm:MapAt w' bm iv pv (cM T who g))(hf:Fm (·=bm) w w'):TxAt w' D b bm (cM T who g) (cM L who t):=by
 have hmap:∀y,∀cs t fz,w.heap[y]?=some (.cells cs t fz)->¬y=bm:=by rintro y cs t fz e rfl;obtain⟨es,c,hm,_⟩:=h.mp.ex;rw[e] at hm;cases hm
 have e1:=dg T who g (h.none hn);have fin:∀{a:Value} {t:Tx},IsIn w a t.act->(∀y,blockOf a=some y->D y/\B3 w y)->IsIn w' a t.act/\∀y,blockOf a=some y->D y/\B3 w' y:=λq3 q4=>by
  have hb:∀y,_->¬y=bm:=λy hy=>by obtain⟨_,cs,fz,e⟩:=q4 y hy;exact hmap _ _ _ _ e
  exact⟨q3.iV hf hb,λy hy=>⟨(q4 y hy).1,by obtain⟨cs,fz,e⟩:=(q4 y hy).2;exact⟨cs,fz,hf.heap e (hb y hy)⟩⟩⟩
 refine⟨hf.heap h.st (hmap _ _ _ _ h.st),hm,by rw[cR,cR,h.keys],?_,⟨h.ob.1,h.ob.2.1,?_⟩,λwho' g' hg2=>?_⟩
 ·rw[e1,Kg,Km];refine⟨h.nd,sI,?_⟩;intro y hy z hz;obtain⟨p,hp,rfl⟩:=E8.1 hy;simp at hz;subst hz;exact hT p hp
 ·intro p hp;rw[e1,H5] at hp;rcases hp with hp|hp
  ·exact h.ob.2.2 p hp
  ·simp at hp;subst hp;exact hD
 ·rw[bl] at hg2;by_cases e:who'=who
  ·rw[IY e] at hg2;cases hg2;subst e;obtain⟨f1,f2⟩:=fin ha hy;exact⟨t,a,by rw[bl,IY rfl],hf.heap hg (hmap _ _ _ _ hg),f1,f2⟩
  ·rw[IT e] at hg2;obtain⟨t2,a2,q1,q2,q3,q4⟩:=h.at_ who' g' hg2;obtain⟨f1,f2⟩:=fin q3 q4;exact⟨t2,a2,by rw[bl,IT e];exact q1,hf.heap q2 (hmap _ _ _ _ q2),f1,f2⟩
theorem qc(h:TxAt w D b bm T L){who n:Int}(hn:getD L who=Option.none){a:Value}(ha:IsIn w a l):Cl prog 31 [pv b,iv who,.agg #[iv n,a]] w λo w'=>o=iv 0/\(∃g,TxAt w' (λy=>D y\/w.heap.size<=y) b bm (cM T who g) (cM L who ⟨n,l,0,0,0,0⟩))/\Fm (·=bm) w w':=by
 refine cU3 func31 ?_;refine ae ?_;rintro b1 w1 rfl hs1 hw1 hf1;have h1:=h.keep hf1 iT;have e:=aX K174 h1.mp who false (z:=np) kR;rw[h.none hn] at e;simp only[RU,ab h1.st];refine ag e ?_;obtain⟨A,hA,hAl,hAi⟩:=(ha.keep hf1).ex;simp only[RU,okV,C8,ab hw1];refine(gv hA hAl).mono ?_;rintro u w2 ⟨ho2,hf2⟩;have hwl:=aj hw1;refine au (hf2.heap hw1 id) (j:=1) (dC:1<2) (az ho2) λw3 hw3 hs3 hf3=>?_
 replace hw3:w3.heap[w.heap.size]?=some (.cells #[iv n,u] 105):=hw3
 have hF3:=Fm.own (Fmf hf1 hf2) hf3 (by rintro y rfl;exact D9 _);have h3:=h.keep hF3 iT;refine⟨λw'=>Fm F0 w3 w',Fm.drew _ _,?_⟩;refine rdP (λw' hw=>by rw[ab (hw.heap h3.st id)];rfl) ?_;have hd:=Fm.drew F0 w3;simp only[RU,aa (n:=2) (hd.heap hw3 id) rfl];refine bst #[iv n,u,iv 0,iv 0,iv 0,iv 0] ⟨rfl,bst (txC who u ⟨n,l,0,0,0,0⟩) ⟨rfl,ae ?_⟩⟩;rintro g w4 rfl hs4 hw4 hf4;have hz:=(Fm.drew F0 w3).size;rw[aM] at hw4 hs4;simp only[RU] at hw4;have hf4:=Fmf hd hf4;refine⟨hf4,?_⟩;have h4:=(h3.keep hf4 iT).wide (D':=λy=>D y\/w.heap.size<=y) (λy e=>.inl e);obtain⟨w5,hr5,hm5,hf5,_⟩:=bk K174 h4.mp who w3.drew.heap.size;refine cA hr5 ?_;rw[aM] at hm5;have ho3:=ah (ah ho2 hf3 (by rintro y hy _ _ rfl;omega)) hf4 (λ_ _ _ _ e=>e);have hF4:=Fmf hF3 hf4;have hz3:=hF3.size;have h5:=h4.add (t:=⟨n,l,0,0,0,0⟩) hn hw4 (λp hp e=>by
  obtain⟨t,a,_,q2,_⟩:=h3.at_ p.1 p.2 ((getD_some h3.mp.keys).2 hp);have:=aj q2;omega) (jE ho3 hAl hAi) (λy hy=>⟨.inr (by have:=kN ho2 hy;omega),by
   rcases ho3.2 with⟨rfl,_⟩|⟨g,c,cur,rfl,hb,hg,_⟩
   ·cases hy
   ·cases hy;exact⟨_,_,hg⟩⟩) (.inr hz3) hm5 hf5
 exact⟨⟨_,h5⟩,hF4.trans hf5 iE iT⟩
end
open M (xGap xAdd idOk)
section
variable{w w':World}{b:Nat}{m x:Int}
theorem xz(hm:Mo m)(h:w.heap[b]?=some (.cells #[iv m,iv x,iv 1] 182)):Cl prog 125 [pv b] w λo w'=>o=iv (m / 2 - 2 - xGap m 1 x)/\Fm F0 w w':=by have:=hm.lo;have:=hm.hi;have hg:=DJ hm 1 x;have hd:=Fm.drew F0 w;have c:=λ(w':World) (hw:Fm F0 w w') o=>ab (off:=o) (hw.heap h id);refine cU1 func125 ?_;refine⟨λw'=>Fm F0 w w',hd,?_⟩;refine rdP (u:=iv m) (λw' hw=>c w' hw 0) ?_;have c0:=λo=>ab (off:=o) h;simp only[RU,c0,ja _ (a:=m) (b:=2) oM dC oM,show IntKind.i64.wrap (m / 2 - 2)=m / 2 - 2 by rw[af]<;>omega];refine(nr hm 1 x).mono ?_;rintro _ w2 ⟨rfl,hf2⟩;have hf2:=Fmf hd hf2;refine⟨hf2,?_⟩;simp only[RU,show IntKind.i64.wrap (m / 2 - 2 - xGap m 1 x)=m / 2 - 2 - xGap m 1 x by rw[af]<;>omega];exact hf2
theorem yX(hm:Mo m)(h:w.heap[b]?=some (.cells #[iv m,iv x,iv 1] 182))(hl:0<m / 2 - 2 - xGap m 1 x):Cl prog 49 [pv b] w λo w'=>o=.tuple #[iv x,iv 0]/\w'.heap[b]?=some (.cells #[iv m,iv (xAdd m x 1),iv 1] 182)/\Fm (·=b) w w':=by refine cU1 func49 ?_;refine(xz hm h).mono ?_;rintro _ w2 ⟨rfl,hf2⟩;have h2:=hf2.heap h id;have c:=λo=>ab (off:=o) h2;simp only[RU,c,C3 (oM:¬m / 2 - 2 - xGap m 1 x<=0)];refine(jy hm x 1).mono ?_;rintro _ w3 ⟨rfl,hf3⟩;have h3:=hf3.heap h2 id;refine au h3 (j:=1) (dC:1<3) rfl λw4 hw4 hs4 hf4=>?_;exact⟨hw4,(Fmf hf2 hf3).trans hf4 iE iT⟩
theorem xP(h:w.heap[b]?=some (.cells #[iv m,iv x,iv 1] 182)):Cl prog 33 [pv b] w λo w'=>o=iv x/\w'=w:=by refine cU1 func33 ?_;simp only[RU,ab h,H7]
theorem zr(hm:Mo m)(hx:idOk m x=true)(hg:xGap m 1 x<=m / 2 - 2):Cl prog 80 [iv m,iv x,iv 1] w λo w'=>∃b,o=.tuple #[pv b,iv 0]/\w.heap.size<=b/\w'.heap[b]?=some (.cells #[iv m,iv x,iv 1] 182)/\Fm F0 w w':=by
 have:=hm.lo;have:=hm.hi;refine cU3 func80 ?_;refine bsl 2 ([x,1].map iv).toArray 3 ?_;have hc:=ia [x,1] sI w 3;have hf:=Fm.alloc F0 w (.cells ([x,1].map iv).toArray 3);generalize w.alloc (.cells ([x,1].map iv).toArray 3)=w1 at hc hf;refine(ny hm hc).mono ?_;rintro _ w2 ⟨rfl,rfl⟩;have e:[x,1].all (idOk m)=true:=by simp only[Ks,List.all_nil,hx,JD,KE];unfold idOk;simp;omega
 simp only[RU,e];refine(nr hm 1 x).mono ?_;rintro _ w3 ⟨rfl,hf3⟩;simp only[RU,ja _ (a:=m) (b:=2) oM dC oM,show IntKind.i64.wrap (m / 2 - 2)=m / 2 - 2 by rw[af]<;>omega,C3 (oM:¬m / 2 - 2<xGap m 1 x)];refine bst #[iv m,iv x,iv 1] (ae ?_);rintro b w4 rfl hs4 hw4 hf4;simp only[RU] at hw4;exact⟨_,rfl,(Fmf hf hf3).size,hw4,Fmf (Fmf hf hf3) hf4⟩
end
def egC(hd:List Value)(ss:List (List Value))(tl:List Value):List Value:=hd++(ss.flatMap id++tl)
structure EgB (w : World) (x : Nat) (hd : List Value) (ss : List (List Value)) (tl : List Value) : Prop where
 blk : w.heap[x]? = some (.cells (egC hd ss tl).toArray 86)
 h : hd.length = 23
 s : ss.length = 8
 l : ∀ s ∈ ss, s.length = 25
 t : tl.length = 8
theorem fg:∀{ss:List (List Value)},(∀s∈ss,s.length=25)->(ss.flatMap id).length=ss.length*25
 | [],_=>rfl
 | s::ss,h=>by rw[G1,C5,fg (λs hs=>h s (Jp _ hs)),G2,show(id s).length=25 from h s Js];omega
theorem xi:∀{ss:List (List Value)} {i j:Nat} {s:List Value},(∀s∈ss,s.length=25)->ss[i]?=some s->j<25->(ss.flatMap id)[i*25+j]?=s[j]?
 | [],i,j,s,_,hi,_=>by simp at hi
 | a::ss,0,j,s,h,hi,hj=>by simp at hi;subst hi;have:(id a:List Value).length=25:=h a Js;rw[G1,JX,E7,Jb oM];rfl
 | a::ss,i+1,j,s,h,hi,hj=>by have e:(id a:List Value).length=25:=h a Js;rw[G1,I1 oM,e,(oM:(i+1)*25+j - 25=i*25+j)];exact xi (λs hs=>h s (Jp _ hs)) (by simpa using hi) hj
theorem qI:∀{ss:List (List Value)} {i j:Nat} {s us:List Value},(∀s∈ss,s.length=25)->ss[i]?=some s->j+us.length<=25->(ss.flatMap id).take (i*25+j)++(us++(ss.flatMap id).drop (i*25+j+us.length))=(ss.set i (s.take j++(us++s.drop (j+us.length)))).flatMap id
 | [],i,j,s,us,_,hi,_=>by simp at hi
 | a::ss,0,j,s,us,h,hi,hj=>by simp at hi;subst hi;have e:a.length=25:=h a Js;rw[G1,JR,G1];show(a++_).take _++(us++(a++_).drop _)=(a.take j++(us++a.drop (j+us.length)))++_;rw[IU oM,Kt oM];simp
 | a::ss,i+1,j,s,us,h,hi,hj=>by have e:a.length=25:=h a Js;have ih:=qI (us:=us) (λs hs=>h s (Jp _ hs)) (show ss[i]?=some s by simpa using hi) hj;rw[G1,List.set_cons_succ,G1,<- ih];show(a++_).take _++(us++(a++_).drop _)=a++_;rw[Ke,Kq,G0 oM,J8 oM,e,(oM:(i+1)*25+j - 25=i*25+j),(oM:(i+1)*25+j+us.length - 25=i*25+j+us.length)];simp
section
variable{w w':World}{x:Nat}{hd tl:List Value}{ss:List (List Value)}
theorem EgB.len(h:EgB w x hd ss tl):(egC hd ss tl).length=231:=by unfold egC;rw[C5,C5,fg h.l,h.h,h.s,h.t]
theorem EgB.keep{S:Nat->Prop}(h:EgB w x hd ss tl)(hf:Fm S w w')(hs:¬S x):EgB w' x hd ss tl:=⟨hf.heap h.blk hs,h.h,h.s,h.l,h.t⟩
theorem EgB.lt(h:EgB w x hd ss tl):x<w.heap.size:=aj h.blk
theorem EgB.B1(h:EgB w x hd ss tl){o:Nat}(ho:o<23):w.cell? ⟨x,o,none⟩=hd[o]? := by rw[ab h.blk,I5];unfold egC;rw[Jb (by rw[h.h];exact ho)]
theorem EgB.cs(h:EgB w x hd ss tl){i j:Nat}{s:List Value}(hi:ss[i]?=some s)(hj:j<25):w.cell? ⟨x,23+i*25+j,none⟩=s[j]? := by
 have h8:i<8:=by have:=(E2.1 hi).1;rw[h.s] at this;exact this
 rw[ab h.blk,I5];unfold egC;rw[I1 (by rw[h.h];omega),h.h,(oM:23+i*25+j - 23=i*25+j),Jb (by rw[fg h.l,h.s];omega),xi h.l hi hj]
theorem EgB.A3(h:EgB w x hd ss tl){o:Nat}:w.cell? ⟨x,223+o,none⟩=tl[o]? := by rw[ab h.blk,I5];unfold egC;rw[I1 (by rw[h.h];omega),h.h,I1 (by rw[fg h.l,h.s];omega),fg h.l,h.s,(oM:223+o - 23 - 8*25=o)]
theorem Bw(cs:List Value)(o:Nat)(us:List Value)(h:o+us.length<=cs.length):ov cs.toArray o us=(cs.take o++(us++cs.drop (o+us.length))).toArray:=by rw[uz _ _ _ (by simpa using h)]
theorem EgB.BY(h:EgB w x hd ss tl){o n:Nat}{us:Array Value}{k:KV}(hn:us.size=n)(ho:o+n<=23)(hu:∀u∈us.toList,u.oneCell'=true)(hk:∀w',EgB w' x (hd.take o++(us.toList++hd.drop (o+n))) ss tl->w'.heap.size=w.heap.size->Fm (·=x) w w'->k undef w'):St n w (.pointer (some ⟨x,o,none⟩)) (.agg us) k:=by
 have hl:=h.len;have hul:us.toList.length=n:=by rw[I8];exact hn
 refine bZ h.blk hn (by rw[I7,hl];omega) hu λw' h1 h2 h3=>hk w' ⟨?_,?_,h.s,h.l,h.t⟩ h2 h3
 ·rw[h1,Bw _ _ _ (by rw[hl,hul];omega),hul];unfold egC;rw[IU (by rw[h.h];omega),Kt (by rw[h.h];omega)];simp
 ·rw[C5,C5,E5,G4,hul,h.h];omega
theorem EgB.y7(h:EgB w x hd ss tl){o:Nat}{u:Value}{k:KV}(ho:o<23)(hu:u.oneCell'=true)(hk:∀w',EgB w' x (hd.set o u) ss tl->w'.heap.size=w.heap.size->Fm (·=x) w w'->k undef w'):St 1 w (.pointer (some ⟨x,o,none⟩)) u k:=by have hl:=h.len;refine au h.blk (by rw[I7,hl];omega) hu λw' h1 h2 h3=>hk w' ⟨?_,by rw[I3];exact h.h,h.s,h.l,h.t⟩ h2 h3;rw[h1,JS];unfold egC;rw[List.set_append_left _ _ (by rw[h.h];exact ho)]
theorem EgB.A7(h:EgB w x hd ss tl){i j n:Nat}{s:List Value}{us:Array Value}{k:KV}(hi:ss[i]?=some s)(hn:us.size=n)(hj:j+n<=25)(hu:∀u∈us.toList,u.oneCell'=true)(hk:∀w',EgB w' x hd (ss.set i (s.take j++(us.toList++s.drop (j+n)))) tl->w'.heap.size=w.heap.size->Fm (·=x) w w'->k undef w'):St n w (.pointer (some ⟨x,23+i*25+j,none⟩)) (.agg us) k:=by
 have h8:i<8:=by have:=(E2.1 hi).1;rw[h.s] at this;exact this
 have hl:=h.len;have hul:us.toList.length=n:=by rw[I8];exact hn
 have hs25:=h.l s (F7 hi);refine bZ h.blk hn (by rw[I7,hl];omega) hu λw' h1 h2 h3=>hk w' ⟨?_,h.h,by rw[I3];exact h.s,?_,h.t⟩ h2 h3
 ·rw[h1,Bw _ _ _ (by rw[hl,hul];omega),hul];have:=qI (us:=us.toList) h.l hi (j:=j) (by rw[hul];exact hj);rw[hul] at this;unfold egC;rw[<- this,Ke,Kq,G0 (by rw[h.h];omega),J8 (by rw[h.h];omega),h.h,(oM:23+i*25+j - 23=i*25+j),(oM:23+i*25+j+n - 23=i*25+j+n),
   IU (by rw[fg h.l,h.s];omega),Kt (by rw[fg h.l,h.s];omega)]
  simp
 ·intro t ht;rcases JC ht with ht|rfl
  ·exact h.l t ht
  ·rw[C5,C5,E5,G4,hul,hs25];omega
theorem EgB.y9(h:EgB w x hd ss tl){i j:Nat}{s:List Value}{u:Value}{k:KV}(hi:ss[i]?=some s)(hj:j<25)(hu:u.oneCell'=true)(hk:∀w',EgB w' x hd (ss.set i (s.set j u)) tl->w'.heap.size=w.heap.size->Fm (·=x) w w'->k undef w'):St 1 w (.pointer (some ⟨x,23+i*25+j,none⟩)) u k:=by
 have h8:i<8:=by have:=(E2.1 hi).1;rw[h.s] at this;exact this
 have hl:=h.len;have hs25:=h.l s (F7 hi);refine au h.blk (by rw[I7,hl];omega) hu λw' h1 h2 h3=>hk w' ⟨?_,h.h,by rw[I3];exact h.s,?_,h.t⟩ h2 h3
 ·have:=qI (us:=[u]) h.l hi (j:=j) (by simp;omega);rw[h1,JS,List.set_eq_take_append_cons_drop,IY (by rw[hl];omega)];rw[List.set_eq_take_append_cons_drop (l:=s),IY oM];simp only[G2,Ja,E7,Jj,H9] at this;unfold egC;rw[<- this,Ke,Kq,G0 (by rw[h.h];omega),J8 (by rw[h.h];omega),h.h,(oM:23+i*25+j - 23=i*25+j),(oM:23+i*25+j+1 - 23=i*25+j+1),
   IU (by rw[fg h.l,h.s];omega),Kt (by rw[fg h.l,h.s];omega)]
  simp
 ·intro t ht;rcases JC ht with ht|rfl
  ·exact h.l t ht
  ·rw[I3];exact hs25
theorem EgB.stl(h:EgB w x hd ss tl){o:Nat}{u:Value}{k:KV}(ho:o<8)(hu:u.oneCell'=true)(hk:∀w',EgB w' x hd ss (tl.set o u)->w'.heap.size=w.heap.size->Fm (·=x) w w'->k undef w'):St 1 w (.pointer (some ⟨x,223+o,none⟩)) u k:=by have hl:=h.len;refine au h.blk (by rw[I7,hl];omega) hu λw' h1 h2 h3=>hk w' ⟨?_,h.h,h.s,h.l,by rw[I3];exact h.t⟩ h2 h3;rw[h1,JS];unfold egC;rw[JT _ _ (by rw[h.h];omega),h.h,JT _ _ (by rw[fg h.l,h.s];omega),fg h.l,h.s,(oM:223+o - 23 - 8*25=o)]
end
section
variable{w w':World}{base:Nat}{v:Value}{e:TypeId}
theorem sU{α:Type}{f:α->List Value}{sz n:Nat}(hf:∀x,(f x).length=sz){L:List α}(h:w.ownsRow base e sz v n (L.flatMap f))(hL:L.length=n){i:Nat}(hi:i<n):∃ad,ixV sz v (iv i)=some (.pointer (some ad))/\v.ownBlock=some ad.block/\∀{y:α} {k:KV},(∀u∈f y,u.oneCell'=true)->(∀w',w'.ownsRow base e sz v n ((L.set i y).flatMap f)->w'.heap.size=w.heap.size->Fm (λy=>v.ownBlock=some y) w w'->k undef w')->St sz w (.pointer (some ad)) (.agg (f y).toArray) k:=by
 rcases h.2 with⟨rfl,hn⟩|⟨g,cap,cur,rfl,hbg,hgg,hnc,hcm,hcs,htake⟩
 ·omega
 have h1:i*sz+sz<=n*sz:=by have:=Kc sz (show i+1<=n from hi);rwa [Nat.add_mul,Nat.one_mul] at this
 have h2:n*sz<=cap*sz:=Kc sz hnc;refine⟨⟨g,i*sz,none⟩,by rw[dT hi,aA];simp,rfl,?_⟩;intro y k hu hk;refine bZ hgg (by simp[hf]) oM hu ?_;intro w' h3 h4 h5;refine hk w' ⟨?_,.inr ⟨g,cap,_,rfl,hbg,h3,hnc,hcm,?_,?_⟩⟩ h4 (h5.mono (λy _ e=>by rw[e];rfl))
 ·rw[flat_len hf,I3,hL]
 ·rw[uz _ _ _ (by simp[hf];omega)];simp[hf];omega
 ·have hc:cur.toList.length=cap*sz:=by rw[I8];exact hcs
  have e1:(f y).length=sz:=hf y;rw[uz _ _ _ (by simp[hf];omega),iQ hf _ _ _ oM,<- htake,List.drop_take,List.take_take,JL (oM:i*sz<=n*sz),Ke,List.take_take,E5,hc,Nat.min_eq_right (oM:i*sz<=n*sz),JL (oM:i*sz<=cap*sz),Ke,e1,G0 (l:=f y) oM];congr 3;omega
def qp(w:World)(g:Nat):Prop:=∃cs who,w.heap[g]?=some (.cells cs 179)/\cs[6]?=some (iv who)
theorem wK{a b:Nat}(ha:qp w a)(hb:qp w b):Cl prog 197 [pv a,pv b] w λo w'=>∃c:Int,o=iv c/\Fm F0 w w':=by obtain⟨cs,x,h1,h2⟩:=ha;obtain⟨ds,y,h3,h4⟩:=hb;have hd:=Fm.drew F0 w;refine cU2 func197 ?_;simp only[RU,ab h1,ab h3,h2,h4];refine(kA x y).mono ?_;rintro _ w' ⟨rfl,rfl⟩;exact⟨_,rfl,hd⟩
theorem BK{n i:Nat}{xs:List Value}(h:w.ownsRow base e 1 v n xs)(hi:i<n):∃ad,ixV 1 v (iv i)=some (.pointer (some ad))/\∀(w1:World) (ys:List Value),w1.ownsRow base e 1 v n ys->(∀y,ys[i]?=some y->w1.cell? ad=some y)/\∀{u:Value} {k:KV},u.oneCell'=true->(∀w',w'.ownsRow base e 1 v n (ys.set i u)->w'.heap.size=w1.heap.size->Fm (λy=>v.ownBlock=some y) w1 w'->k undef w')->St 1 w1 (.pointer (some ad)) u k:=by
 obtain⟨ad,h1,_,_⟩:=qZ h hi;refine⟨ad,h1,λw1 ys hy=>⟨λy hyi=>?_,?_⟩⟩
 ·obtain⟨ad',h1',_,h3⟩:=(CellsAt.aT hy).iS hyi .i64;rw[h1] at h1';cases h1';exact h3
 ·obtain⟨ad',h1',_,h3⟩:=qZ hy hi;rw[h1] at h1';cases h1';exact h3
theorem xW{α:Type}{f:α->List Value}{sz n i:Nat}(hf:∀x,(f x).length=sz)(hs:0<sz){L:List α}(h:w.ownsRow base e sz v n (L.flatMap f))(hL:L.length=n)(hi:i<n):∃ad,ixV sz v (iv i)=some (.pointer (some ad))/\∀(w1:World) (M:List α),w1.ownsRow base e sz v n (M.flatMap f)->M.length=n->(∀y,M[i]?=some y->aI w1 ad sz=some (.agg (f y).toArray))/\∀{y:α} {k:KV},(∀u∈f y,u.oneCell'=true)->(∀w',w'.ownsRow base e sz v n ((M.set i y).flatMap f)->w'.heap.size=w1.heap.size->Fm (λy=>v.ownBlock=some y) w1 w'->k undef w')->St sz w1 (.pointer (some ad)) (.agg (f y).toArray) k:=by
 obtain⟨ad,h1,_,_⟩:=sU hf h hL hi;refine⟨ad,h1,λw1 M hM hl=>⟨λy hy=>?_,?_⟩⟩
 ·obtain⟨ad',h1',_,h3⟩:=(CellsAt.aT hM).at hs hi .i64;rw[h1] at h1';cases h1';refine aN (l:=f y) (hf y) λj hj=>?_;rw[h3 j hj,dD hf hy hj]
 ·obtain⟨ad',h1',_,h3⟩:=sU hf hM hl hi;rw[h1] at h1';cases h1';exact h3
theorem CF{G:List Nat}(ho:w.ownsRow base 170 1 v G.length (G.map pv))(hG:∀g∈G,qp w g)(hn:G.length<=12):Cl prog 386 [v,iv 0,iv (G.length:Nat),.func (.func 197) #[] #[]] w λo w'=>∃G':List Nat,G'.Perm G/\w'.ownsRow base 170 1 v G.length (G'.map pv)/\Fm (λy=>v.ownBlock=some y) w w':=by
 have hne:∀g∈G,v.ownBlock≠some g:=λg hg e=>by
  obtain⟨cs,x,h1,_⟩:=hG g hg;rcases ho.2 with⟨rfl,_⟩|⟨g',cap,cur,rfl,_,h2,_⟩
  ·cases e
  ·cases e;rw[h1] at h2;cases h2
 refine cU4 func386 ?_ (V [(4,[9]),(1,[8])]);simp only[RU,show IntKind.i64.wrap (0+1)=1 from rfl];let K:World->Prop:=λw'=>∃G':List Nat,G'.Perm G/\w'.ownsRow base 170 1 v G.length (G'.map pv)/\Fm (λy=>v.ownBlock=some y) w w';refine⟨λvs w'=>∃i:Nat,vs=[iv i]/\i<=G.length+1/\K w',λvs _=>(G.length+1 - nth vs 0).toNat,⟨1,rfl,oM,G,.refl _,ho,Fm.refl _ _⟩,?_⟩;rintro w1 v1 ⟨i,hvs,hi,hK⟩;cases hvs;by_cases hlt:i<G.length
 ·simp only[RU,C9 (oM:(i:Int)<(G.length:Int))];refine⟨λvs w'=>∃j:Nat,vs=[iv j]/\j<=i/\K w',λvs _=>(nth vs 0).toNat,⟨i,rfl,D9 _,hK⟩,?_⟩;rintro w2 v2 ⟨j,hvs,hj,G',hp,ho2,hf2⟩;cases hvs;cases j with
  | zero=>simp only[RU,show decide (((0:Nat):Int) > 0)=false from rfl,show IntKind.i64.wrap ((i:Int)+1)=((i+1:Nat):Int) by rw[af]<;>omega];exact⟨⟨i+1,rfl,oM,G',hp,ah ho2 (Fm.drew F0 w2) (λ_ _ _ _ e=>e),hf2.trans (Fm.drew F0 w2) iT iE⟩,by simp only[ba];omega⟩
  | succ j=>
   have hl:G'.length=G.length:=hp.length_eq;have hj1:j+1<G'.length:=oM;have e1:G'[j+1]?=some G'[j+1]:=C6 hj1;have e0:G'[j]?=some G'[j]:=C6 oM;have m1:=hp.mem_iff.1 (F7 e1);have m0:=hp.mem_iff.1 (F7 e0);have hsw:=@List.set_set_perm _ G' (j+1) j hj1 oM;generalize G'[j+1]=x1 at e1 m1 hsw;generalize G'[j]=x0 at e0 m0 hsw;have f1:(G'.map pv)[j+1]?=some (pv x1):=by rw[E4,e1];rfl
   have f0:(G'.map pv)[j]?=some (pv x0):=by rw[E4,e0];rfl
   obtain⟨a1,i1,r1⟩:=BK ho2 (oM:j+1<G.length);obtain⟨a0,i0,r0⟩:=BK ho2 (oM:j<G.length);have c1:=(r1 w2 _ ho2).1 _ f1;have c0:=(r0 w2 _ ho2).1 _ f0;have i1':ixV 1 v (iv ((j:Int)+1))=some (.pointer (some a1)):=i1;have wh:∀{w3:World},Fm (λy=>v.ownBlock=some y) w w3->∀g∈G,qp w3 g:=λhf g hg=>by obtain⟨cs,x,h1,h2⟩:=hG g hg;exact⟨cs,x,hf.heap h1 (hne g hg),h2⟩
   have hfd:=hf2.trans (Fm.drew F0 w2) iT iE;simp only[RU,show((j+1:Nat):Int)=(j:Int)+1 from rfl,C9 (oM:(0:Int)<(j:Int)+1),i1',c1,show IntKind.i64.wrap ((j:Int)+1 - 1)=(j:Int) by rw[af]<;>omega,i0,c0];refine ax kR ?_;refine(wK (wh hfd x1 m1) (wh hfd x0 m0)).mono ?_;rintro _ w3 ⟨c,rfl,hf3⟩;have hf3:=hfd.trans hf3 iT iE;have ho3:w3.ownsRow base 170 1 v G.length (G'.map pv):=ah ho2 (Fmf (Fm.drew F0 w2) ‹_›) (λ_ _ _ _ e=>e);have c1:=(r1 w3 _ ho3).1 _ f1;have c0:=(r0 w3 _ ho3).1 _ f0;have hf3d:=hf3.trans (Fm.drew F0 w3) iT iE;have ho3d:=ah ho3 (Fm.drew F0 w3) (λ_ _ _ _ e=>e);by_cases hc:c<0
   ·simp only[RU,C9 hc,c0,c1];refine(r1 _ _ ho3d).2 rfl λw4 ho4 hs4 hf4=>?_;refine(r0 _ _ ho4).2 rfl λw5 ho5 hs5 hf5=>?_;rw[<- Kz,<- Kz] at ho5;exact⟨⟨j,rfl,oM,_,hsw.trans hp,ho5,(hf3d.trans hf4 iT iT).trans hf5 iT iT⟩,by simp only[ba];omega⟩
   ·simp only[RU,C3 hc,show IntKind.i64.wrap ((i:Int)+1)=((i+1:Nat):Int) by rw[af]<;>omega];exact⟨⟨i+1,rfl,oM,G',hp,ho3,hf3⟩,by simp only[ba];omega⟩
 ·simp only[RU,C3 (oM:¬(i:Int)<(G.length:Int))];exact hK
abbrev bgC(b:Int×Int):List Value:=[iv b.1,iv b.2]
theorem qt(b:Int×Int):(bgC b).length=2:=rfl
theorem vR(b:Int×Int):∀u∈bgC b,u.oneCell'=true:=by intro u hu;simp only[H3,KH,or_false] at hu;rcases hu with rfl|rfl<;>rfl
theorem wJ(a b:Int×Int):Cl prog 182 [.agg (bgC a).toArray,.agg (bgC b).toArray] w λo w'=>∃c:Int,o=iv c/\Fm F0 w w':=by refine cU2 func182 ?_;refine ae ?_;rintro b1 w1 rfl hs1 hw1 hf1;refine ae ?_;rintro b2 w2 rfl hs2 hw2 hf2;simp only[RU,ab (hf2.heap hw1 id),ab hw2];exact⟨_,rfl,Fmf hf1 hf2⟩
theorem EL{G:List (Int×Int)}(ho:w.ownsRow base 185 2 v G.length (G.flatMap bgC))(hn:G.length<=12):Cl prog 332 [v,iv 0,iv (G.length:Nat),.func (.func 182) #[] #[]] w λo w'=>∃G':List (Int×Int),G'.Perm G/\w'.ownsRow base 185 2 v G.length (G'.flatMap bgC)/\Fm (λy=>v.ownBlock=some y) w w':=by
 refine cU4 func332 ?_ (V [(4,[9]),(1,[8])]);simp only[RU,show IntKind.i64.wrap (0+1)=1 from rfl];let K:World->Prop:=λw'=>∃G':List (Int×Int),G'.Perm G/\w'.ownsRow base 185 2 v G.length (G'.flatMap bgC)/\Fm (λy=>v.ownBlock=some y) w w';refine⟨λvs w'=>∃i:Nat,vs=[iv i]/\i<=G.length+1/\K w',λvs _=>(G.length+1 - nth vs 0).toNat,⟨1,rfl,oM,G,.refl _,ho,Fm.refl _ _⟩,?_⟩;rintro w1 v1 ⟨i,hvs,hi,hK⟩;cases hvs;by_cases hlt:i<G.length
 ·simp only[RU,C9 (oM:(i:Int)<(G.length:Int))];refine⟨λvs w'=>∃j:Nat,vs=[iv j]/\j<=i/\K w',λvs _=>(nth vs 0).toNat,⟨i,rfl,D9 _,hK⟩,?_⟩;rintro w2 v2 ⟨j,hvs,hj,G',hp,ho2,hf2⟩;cases hvs;cases j with
  | zero=>simp only[RU,show decide (((0:Nat):Int) > 0)=false from rfl,show IntKind.i64.wrap ((i:Int)+1)=((i+1:Nat):Int) by rw[af]<;>omega];exact⟨⟨i+1,rfl,oM,G',hp,ah ho2 (Fm.drew F0 w2) (λ_ _ _ _ e=>e),hf2.trans (Fm.drew F0 w2) iT iE⟩,by simp only[ba];omega⟩
  | succ j=>
   have hl:G'.length=G.length:=hp.length_eq;have hj1:j+1<G'.length:=oM;have e1:G'[j+1]?=some G'[j+1]:=C6 hj1;have e0:G'[j]?=some G'[j]:=C6 oM;have hsw:=@List.set_set_perm _ G' (j+1) j hj1 oM;generalize G'[j+1]=x1 at e1 hsw;generalize G'[j]=x0 at e0 hsw;obtain⟨a1,i1,r1⟩:=xW qt dC ho2 hl (oM:j+1<G.length);obtain⟨a0,i0,r0⟩:=xW qt dC ho2 hl (oM:j<G.length);have ho2d:=ah ho2 (Fm.drew F0 w2) (λ_ _ _ _ e=>e);have c1:=(r1 _ _ ho2d hl).1 _ e1;have c0:=(r0 _ _ ho2d hl).1 _ e0;have i1':ixV 2 v (iv ((j:Int)+1))=some (.pointer (some a1)):=i1;have hfd:=hf2.trans (Fm.drew F0 w2) iT iE;simp only[RU,show((j+1:Nat):Int)=(j:Int)+1 from rfl,C9 (oM:(0:Int)<(j:Int)+1),i1',c1,show IntKind.i64.wrap ((j:Int)+1 - 1)=(j:Int) by rw[af]<;>omega,i0,c0];refine ax kR ?_;refine(wJ x1 x0).mono ?_;rintro _ w3 ⟨c,rfl,hf3⟩;have hf3:=hfd.trans hf3 iT iE;have ho3:w3.ownsRow base 185 2 v G.length (G'.flatMap bgC):=ah ho2 (Fmf (Fm.drew F0 w2) ‹_›) (λ_ _ _ _ e=>e);have hf3d:=hf3.trans (Fm.drew F0 w3) iT iE;have ho3d:=ah ho3 (Fm.drew F0 w3) (λ_ _ _ _ e=>e);have c1:=(r1 _ _ ho3d hl).1 _ e1;have c0:=(r0 _ _ ho3d hl).1 _ e0;by_cases hc:c<0
   ·simp only[RU,C9 hc,c0,c1];refine(r1 _ _ ho3d hl).2 (y:=x0) (vR _) λw4 ho4 hs4 hf4=>?_;refine(r0 _ _ ho4 (by rw[I3];exact hl)).2 (y:=x1) (vR _) λw5 ho5 hs5 hf5=>?_;exact⟨⟨j,rfl,oM,_,hsw.trans hp,ho5,(hf3d.trans hf4 iT iT).trans hf5 iT iT⟩,by simp only[ba];omega⟩
   ·simp only[RU,C3 hc,show IntKind.i64.wrap ((i:Int)+1)=((i+1:Nat):Int) by rw[af]<;>omega];exact⟨⟨i+1,rfl,oM,G',hp,ho3,hf3⟩,by simp only[ba];omega⟩
 ·simp only[RU,C3 (oM:¬(i:Int)<(G.length:Int))];exact hK
theorem CU{G:List Nat}(ho:w.ownsRow base 170 1 v G.length (G.map pv))(hG:∀g∈G,qp w g)(hn:G.length<=12)(l:Int):Cl prog 343 [v,iv 0,iv (G.length:Nat),iv l,.func (.func 197) #[] #[]] w λo w'=>∃G':List Nat,G'.Perm G/\w'.ownsRow base 170 1 v G.length (G'.map pv)/\Fm (λy=>v.ownBlock=some y) w w':=by refine cU5 func343 ?_ (V [(2,[1,2,3,10,11])]) (J [(10,[3]),(15,[13,14]),(17,[])]);refine⟨λvs w'=>vs=[iv 0,iv (G.length:Nat),iv l,.bool true,.bool true]/\w'=w,λ_ _=>0,⟨rfl,rfl⟩,?_⟩;rintro w1 v1 v2 v3 v4 v5 ⟨hvs,rfl⟩;cases hvs;simp only[RU,show IntKind.i64.wrap (((G.length:Nat):Int) - 0)=((G.length:Nat):Int) by rw[af]<;>omega,C9 (oM:((G.length:Nat):Int)<=12)];exact(CF ho hG hn).mono λ_ _ h=>h
theorem Fh{G:List (Int×Int)}(ho:w.ownsRow base 185 2 v G.length (G.flatMap bgC))(hn:G.length<=12)(l:Int):Cl prog 275 [v,iv 0,iv (G.length:Nat),iv l,.func (.func 182) #[] #[]] w λo w'=>∃G':List (Int×Int),G'.Perm G/\w'.ownsRow base 185 2 v G.length (G'.flatMap bgC)/\Fm (λy=>v.ownBlock=some y) w w':=by refine cU5 func275 ?_ (V [(2,[1,2,3,10,11])]) (J [(10,[3]),(15,[13,14]),(17,[])]);refine⟨λvs w'=>vs=[iv 0,iv (G.length:Nat),iv l,.bool true,.bool true]/\w'=w,λ_ _=>0,⟨rfl,rfl⟩,?_⟩;rintro w1 v1 v2 v3 v4 v5 ⟨hvs,rfl⟩;cases hvs;simp only[RU,show IntKind.i64.wrap (((G.length:Nat):Int) - 0)=((G.length:Nat):Int) by rw[af]<;>omega,C9 (oM:((G.length:Nat):Int)<=12)];exact(EL ho hn).mono λ_ _ h=>h
theorem Gv{l:Bs}{n:Nat}{kk:IntKind}{k:Value->Prop}(h:n<l.length)(hk:∀x:Int,k (.int .u8 x)):Pu (ixS (stv l) (.int kk n)) k:=by
 have:∃x:Int,ixS (stv l) (.int kk n)=some (.int .u8 x):=by exact⟨_,iU (C6 h) kk⟩
 obtain⟨x,e⟩:=this;rw[e,bB];exact hk x
theorem eK{n:Nat}(h:n<18446744073709551616):IntKind.u64.wrap (n:Int)=(n:Int):=by unfold IntKind.wrap;simp[IntKind.signed,IntKind.bits];omega
theorem oo{n:Nat}(hn:n<=12):Cl prog 180 [.int .u64 (n:Int)] w λo w'=>∃l:Int,o=iv l/\w'=w:=by
 refine cU1 func180 ?_;refine cU1 func274 ?_ (V []) (J [(4,[0,2]),(7,[0,2]),(10,[0,2])]);simp only[RU,jn1,bN,C3 (show ¬(Int.ofNat 4294967296<=(n:Int)) by have:Int.ofNat 4294967296=4294967296:=rfl;omega),C3 (show ¬(Int.ofNat 65536<=(n:Int)) by have:Int.ofNat 65536=65536:=rfl;omega),C3 (show ¬(Int.ofNat 256<=(n:Int)) by have:Int.ofNat 256=256:=rfl;omega),show IntKind.u8.wrap (n:Int)=(n:Int) by rw[lD,I9 oM]];refine Gv ?_ λx=>?_
 ·show n<256;omega
 simp only[RU,bN];exact⟨_,rfl,trivial⟩
theorem uS{G:List Nat}(ho:w.ownsRow base 170 1 v G.length (G.map pv))(hG:∀g∈G,qp w g)(hn:G.length<=12):Cl prog 278 [v,.func (.func 197) #[] #[]] w λo w'=>∃G':List Nat,G'.Perm G/\w'.ownsRow base 170 1 v G.length (G'.map pv)/\Fm (λy=>v.ownBlock=some y) w w':=by refine cU2 func278 ?_;simp only[RU,qY ho,bN,show IntKind.u64.wrap ((G.length:Nat):Int)=((G.length:Nat):Int) from eK oM];refine(oo hn).mono ?_;rintro _ w1 ⟨l,rfl,rfl⟩;exact(CU ho hG hn l).mono λ_ _ h=>h
theorem uR{G:List (Int×Int)}(ho:w.ownsRow base 185 2 v G.length (G.flatMap bgC))(hn:G.length<=12):Cl prog 181 [v,.func (.func 182) #[] #[]] w λo w'=>∃G':List (Int×Int),G'.Perm G/\w'.ownsRow base 185 2 v G.length (G'.flatMap bgC)/\Fm (λy=>v.ownBlock=some y) w w':=by refine cU2 func181 ?_;simp only[RU,(CellsAt.aT ho).lenV,bN,show IntKind.u64.wrap ((G.length:Nat):Int)=((G.length:Nat):Int) from eK oM];refine(oo hn).mono ?_;rintro _ w1 ⟨l,rfl,rfl⟩;exact(Fh ho hn l).mono λ_ _ h=>h
end
open Go.RowKit
theorem GL{w w':World}(h:Fm F0 w w'):w.grownBy w' none:=⟨h.os,h.tape,h.output,h.size,λb hb _=>h.block b hb id⟩
theorem GM{r:Nat}{w w':World}(h:Fm (·=r) w w'):w.grownBy w' (some r):=⟨h.os,h.tape,h.output,h.size,λb hb hk=>h.block b hb (λe=>hk (by rw[e]))⟩
theorem sR{F:Fence}{n:Nat}{P:Program}{ops:Array Oper}{Q:Exit->Act->World->Prop}{lG:List Oper}{o:Oper}{a:Act}{w w':World}{v:Value}(hg:o.guard=none)(hab:o.about P w a.eval=none)(hnc:∀c,o.op=Op.defer c->False)(hrun:(execOp a.eval o).run P w=.ok (.value v) w')(hk:wpListIn F n P ops Q lG (a.put o.dst v) w'):wpListIn F n P ops Q (o::lG) a w:=by refine wpListIn_plain hg λK' hK'=>?_;unfold Oper.wpIn;refine⟨λf hf=>(by rw[hab] at hf;cases hf),?_⟩;rw[Oper.semAt_plain F _ _ hnc,hrun];exact hK' _ _ hk
theorem rz{w w':World}{r b:Nat}{T L:List (Int×Nat)}(h:RangeAt w r b iv pv T L)(hk:KeepsWalks w w'):RangeAt w' r b iv pv T L:=by obtain⟨es,c,s,sn,h1,h2,h3⟩:=h.ex;exact⟨es,c,s,sn,hk.same _ _ h1 rfl,hk.same _ _ h2 rfl,h3⟩
theorem dB{α:Type}:∀{l:List α} {i:Nat} {p:α},l[i]?=some p->(p::l.eraseIdx i).Perm l
 | [],i,p,h=>by simp at h
 | a::l,0,p,h=>by simp at h;subst h;exact .refl _
 | a::l,i+1,p,h=>by rw[Kk];exact(List.Perm.swap _ _ _).trans ((dB (by simpa using h)).cons a)
theorem vh{w0:World}{bm c:Nat}{T:List (Int×Nat)}(hm:MapAt w0 bm iv pv T)(hc:w0.heap[c]?=some (.cells #[.map (some bm)] 174))(n:Nat):
  SeqStopsK Fence.wide n prog 279 #[pv c] (λg:Nat=>#[pv g]) KeepsWalks (λG=>G.Perm (T.map (·.2))) (λ_=>True) T.length w0:=by
 intro l J Jx W hW hJ hJx hY h0;have hF:Fm F0 w0 W:=Fm.iF hW F0;have hcW:W.cell? ⟨c,0,none⟩=some (.map (some bm)):=by rw[ab (hF.heap hc id)];rfl
 obtain⟨w1,hr1,hR,hf1,hs1⟩:=fq K174.map (hm.keep hF id);refine callsIn_of_wp func279 rfl trivial ?_;simp only[ntmps279,I7,G2,Ja,Nat.reduceAdd,Nat.reduceSub,Array.replicate_succ,Array.replicate_zero,List.push_toArray,List.append_toArray,H9,Jj]
 gi_wp2_with (first
  | (gi_at_range;refine sR rfl (by simp[Oper.about]) (λc h=>by cases h) (v:=.pointer (some ⟨W.heap.size,0,none⟩)) (w':=w1) ?_ ?_)
  | gi_in)
 (try go_frame)
 gi_loopw [4] (λ_ wr=>∃(left:List (Int×Nat)) (G:List Nat),RangeAt wr W.heap.size bm iv pv T left/\(G++left.map (·.2)).Perm (T.map (·.2))/\J G wr) (λ_ wr=>Go.Al.rl wr W.heap.size bm)
 case atStart=>exact⟨T,[],hR,.refl _,hJ [] W w1 none h0 (GL hf1) (λr e=>by cases e)⟩
 case round=>
  obtain⟨left,G,hRl,hp,hJG⟩:=hrel;rcases ie (P:=prog) hRl 0 with⟨rfl,hrun⟩|⟨i,p,w2,hpi,hrun,hR2,hf2,hs2,hent⟩
  ·gi_wp2_with (first
    | (gi_at_next;refine sR rfl (by simp[Oper.about]) (λc h=>by cases h) (v:=.tuple #[.bool false]) ?_ ?_)
    | gi_in)
   go_end0
   exact⟨⟨_,rfl⟩,.inl ⟨G,by simpa using hp,hJG⟩⟩
  ·have hJ2:J G w2:=hJ G wr w2 (some W.heap.size) hJG (GM hf2) (λr e=>by cases e;obtain⟨es,cl,s,sn,h1,h2,_⟩:=hRl.ex;exact⟨D9 _,_,h2,rfl⟩);have hlen:G.length<T.length:=by have h1:=hp.length_eq;have h2:0<left.length:=List.length_pos_of_mem (F7 hpi);simp at h1;omega
   obtain⟨fn,tmps,assign,body,hy,hRd⟩:=hY G p.2 w2 hJ2 hlen;have hms:Go.Al.rl w2 W.heap.size bm<Go.Al.rl wr W.heap.size bm:=by rw[hR2.len,hRl.len];have:=(E2.1 hpi).1;rw[List.length_eraseIdx_of_lt this];omega
   gi_wp2_with (first
    | (gi_at_next;refine sR rfl (by simp[Oper.about]) (λc h=>by cases h) (v:=.tuple #[.bool true,iv p.1,pv p.2]) (w':=w2) ?_ ?_)
    | gi_in)
   refine⟨λh=>(by cases h),hRd.mono ?_⟩;rintro e W3 (⟨rfl,hJ3,hk3⟩|⟨rfl,hx⟩)
   ·have hR3:=rz hR2 hk3;have hms3:Go.Al.rl W3 W.heap.size bm<Go.Al.rl wr W.heap.size bm:=by rw[hR3.len,<- hR2.len];exact hms
    gi_wp2
    go_roundw
    case rel=>refine⟨_,G++[p.2],hR3,?_,hJ3⟩;refine List.Perm.trans ?_ hp;rw[G7];refine List.Perm.append_left G ?_;rw[List.singleton_append,<- Ji];exact(dB hpi).map _
    case measure=>exact hms3
   ·gi_wp2
    (try simp only[Exit.inBlock,Exit.then])
    refine bodyPost_ret (results_none rfl _ _ _) rfl ?_;exact⟨⟨_,rfl⟩,.inr ⟨_,trivial,hx⟩⟩
theorem HG:ElemT prog 194 170 1 8:=bG underlying194 kR
theorem qq{w:World}{bm c:Nat}{T:List (Int×Nat)}(hm:MapAt w bm iv pv T)(hc:w.heap[c]?=some (.cells #[.map (some bm)] 174))(hT:T.length<=1000):Cl prog 342 [nl,.func (.func 279) #[] #[pv c]] w λo w'=>∃G:List Nat,G.Perm (T.map (·.2))/\w'.ownsRow w.heap.size 170 1 o G.length (G.map pv)/\Fm F0 w w':=by
 refine⟨(callsIn_wide (n:=9)).1 ?_⟩;refine callsIn_of_wp_marks func342 rfl trivial ?_;simp only[ntmps342,I7,G2,Ja,Nat.reduceAdd,Nat.reduceSub,Array.replicate_succ,Array.replicate_zero,List.push_toArray,List.append_toArray,H9,Jj]
 gi_wp2
 have eg:∀args w,(callFunc 279 args).run prog w=.ok (.enter 279 args) w:=enters_of func279 kR rfl;obtain⟨W0,hW0⟩:∃W0,w.alloc (.cells #[.slice none 0 0] 194)=W0:=⟨_,rfl⟩;have hs0:W0.heap.size=w.heap.size+1:=by rw[<- hW0];simp
 have hv0:W0.heap[w.heap.size]?=some (.cells #[.slice none 0 0] 194 (0,0)):=by rw[<- hW0];exact World.alloc_heap_new w _
 have hb0:Below w.heap.size w W0:=by rw[<- hW0];exact(Below.refl _ w).alloc (D9 _) _
 rw[hW0];have hfz:∀{W W':World} {row:Option Nat},W.grownBy W' row->Fm (λy=>row=some y) W W':=λh=>⟨h.os,h.tape,h.output,h.size,λb hb hs=>h.block b hb (λe=>hs e.symm)⟩;refine wpIn_rangeFunc_ownF rfl dC (gf:=279) (lb:=#[pv c]) rfl trivial eg (vh hm hc 8) walksK_t (λW l o o' hl h hc hw=>KeepsWalks.putObj _ h hw) hb0 (λ_=>rfl)
  (λpre W=>∃v,W.heap[w.heap.size]?=some (.cells #[v] 194)/\W.ownsRow w.heap.size 170 1 v pre.length (pre.map pv)/\Fm F0 w W) (λ_ _ _=>False) ?_ (λ_ _ _ _ _ h=>h.elim) ⟨_,hv0,World.ownsRow_nil _ _ _ _,Fm.iF hb0 F0⟩
  (λx=>{ tmps:=#[nl,.func (.func 279) #[] #[pv c],.pointer (some ⟨w.heap.size,0,none⟩),undef,nl,pv x,.func (.func 279) #[] #[pv c],pv x,undef,undef,undef,undef,undef],defers:=[] }) ?_ ?_ ?_ ?_
 ·rintro pre W W' row ⟨v,h1,h2,h3⟩ hg hr;have hf:=hfz hg;refine⟨v,hf.heap h1 ?_,ah h2 hf ?_,h3.trans hf iT ?_⟩
  ·intro e;obtain⟨hB,_⟩:=hr _ e;omega
  ·intro k _ _ hk e;obtain⟨_,o,ho,hno⟩:=hr _ e;rcases h2.2 with⟨rfl,_⟩|⟨g,cap,cur,rfl,_,hgb,_⟩
   ·cases hk
   ·cases hk;rw[hgb] at ho;cases ho;cases hno
  ·intro y hy e;obtain⟨hB,_⟩:=hr _ e;omega
 ·intro l x W K hK;have ez:(#[7]:Array Tmp).zip #[pv x]=#[(7,pv x)]:=sI;rw[ez];show Code.wpIn _ _ _ _ _ { tmps:=#[nl,.func (.func 279) #[] #[pv c],.pointer (some ⟨w.heap.size,0,none⟩),undef,nl,undef,.func (.func 279) #[] #[pv c],pv x,undef,undef,undef,undef,undef],defers:=[] } W
  gi_wp2_with (rw[Oper.semAt_eq _ _ _ (λc h=>by cases h)];go_simp;try go_bits)
  exact hK
 ·rintro l pre x W ⟨v,h1,h2,h3⟩ hlen;have hc1:W.cell? ⟨w.heap.size,0,none⟩=some v:=by rw[ab h1];rfl
  have hfA:=Fm.alloc F0 W (.cells #[pv x] 170);have hzw:=h3.size;obtain⟨v',w3,hr3,ho3,hcase⟩:=cB (P:=prog) HG dC (ah h2 hfA (λ_ _ _ _ e=>e)) 194 ⟨W.heap.size,0,none⟩ 1 1 dC [pv x] rfl (λj u hj=>by rw[aA,ab (ay W _),E7,I5];exact hj) (by intro u hu;simp at hu;subst hu;rfl) (by unfold maxLen;omega) oM (by rw[aE];omega);obtain⟨g,cap,rfl,hg3⟩:∃g cap,v'=.slice (some ⟨g,0,none⟩) (pre.length+1) cap/\w3.heap.size > g:=by
   rcases ho3.2 with⟨_,h0⟩|⟨g,cap,cur,rfl,_,hg,_⟩
   ·omega
   ·exact⟨g,cap,rfl,aj hg⟩
  have hv3:w3.heap[w.heap.size]?=some (.cells #[v] 194):=by
   rcases hcase with⟨g',e1,_,hf⟩|⟨g',_,_,hf⟩
   ·refine hf.heap (hfA.heap h1 id) λe=>?_;rcases h2.2 with⟨rfl,_⟩|⟨g2,cap,cur,rfl,_,hg,_⟩
    ·cases e1
    ·have e2:g2=g':=I6 e1;rw[e2,<- e,h1] at hg;cases hg
   ·exact hf.heap (hfA.heap h1 id) id
  have hc3:w3.cell? ⟨w.heap.size,0,none⟩=some v:=by rw[ab hv3];rfl
  have hfr3:=dt hv3 0
  gi_wp2_with (first
   | (gi_at_builtin;refine sR rfl (by simp[Oper.about,resolve,go_sem,Target.leads]) (λc h=>by cases h) (v:=.slice (some ⟨g,0,none⟩) (pre.length+1) cap) (w':=w3) ?_ ?_)
   | (rw[Oper.semAt_eq _ _ _ (λc h=>by cases h)];go_simp;try go_bits))
  ·simp only[execOp,resolve,Sem.run_bind,Sem.run_pure,Result.andThen_ok,invoke,builtin];simp only[List.map_toArray,Ji,List.map_nil];show(Sem.run prog (Builtin.append_ #[194,194] 194 #[v,.slice (some ⟨W.heap.size,0,none⟩) 1 1]) _).andThen _=_;rw[hr3];rfl
  ·have hf4:=Fm.setCell (S:=(·=w.heap.size)) w3 ⟨w.heap.size,0,none⟩ (.slice (some ⟨g,0,none⟩) (pre.length+1) cap) rfl;have hv4:=ed hv3 0 (.slice (some ⟨g,0,none⟩) (pre.length+1) cap);generalize w3.setCell ⟨w.heap.size,0,none⟩ (.slice (some ⟨g,0,none⟩) (pre.length+1) cap)=w4 at hf4 hv4 ⊢;have cel:∀{S:Nat->Prop} {W W':World},Fm S W W'->(∀y,S y->∃cs t fz,W.heap[y]?=some (.cells cs t fz))->KeepsOthers W W':=λhf hS=>⟨hf.size,λk o hk ho=>hf.heap hk (λe=>by obtain⟨cs,t,fz,e⟩:=hS k e;rw[e] at hk;cases hk;cases ho)⟩;have k1:KeepsOthers W (W.alloc (.cells #[pv x] 170)):=cel hfA (λy e=>e.elim);have k2:KeepsOthers (W.alloc (.cells #[pv x] 170)) w3:=by
    rcases hcase with⟨g',e1,_,hf⟩|⟨g',_,_,hf⟩
    ·refine cel hf λy e=>?_;rcases h2.2 with⟨rfl,_⟩|⟨g2,cap,cur,rfl,_,hg,_⟩
     ·cases e1
     ·have e2:g2=g':=I6 e1;exact⟨_,_,_,hfA.heap (by rw[e,<- e2];exact hg) id⟩
    ·exact cel hf (λy e=>e.elim)
   have k3:KeepsOthers w3 w4:=cel hf4 (λy e=>⟨#[v],194,(0,0),by rw[e];exact hv3⟩);have k:=(k1.trans k2).trans k3;refine⟨k,⟨k.size,λj o hj ho=>k.same j o hj (by cases o<;>first|rfl|cases ho)⟩,_,hv4,?_,?_⟩
   ·rw[C5,Kg];refine ah ho3 hf4 ?_;intro j _ _ hj e;rcases ho3.2 with⟨hh,_⟩|⟨g2,cap2,cur,hh,_,hg,_⟩
    ·cases hh
    ·cases hh;have e2:g=j:=I6 hj;rw[e2,e,hv3] at hg;cases hg
   ·have hFA:=Fmf h3 hfA;have hF3:Fm F0 w w3:=by
     rcases hcase with⟨g',e1,_,hf⟩|⟨g',_,_,hf⟩
     ·exact Fm.own hFA hf (λy e=>by rw[e];exact(aP h2 _ e1).1)
     ·exact Fmf hFA hf
    exact Fm.own hF3 hf4 (λy e=>by rw[e];exact D9 _)
 ·rintro D xs W hD hS ⟨v,h1,h2,h3⟩ hK;have hc1:W.cell? ⟨w.heap.size,0,none⟩=some v:=by rw[ab h1];rfl
  dsimp only
  gi_wp2
  refine⟨sI,.inl ⟨_,_,rfl,run_takeDeferred hK,?_⟩⟩;have hfD:=hfz (grownBy_putObj' W D (.deferred none));refine⟨_,results_tmp rfl _ _ _,xs,hS,ah h2 hfD ?_,h3.trans hfD iT ?_⟩
  ·intro j _ _ hj e;rcases h2.2 with⟨rfl,_⟩|⟨g2,cap2,cur,rfl,_,hg,_⟩
   ·cases hj
   ·have e2:g2=j:=I6 hj;have e3:D=j:=I6 e;rw[e2,<- e3,hK] at hg;cases hg
  ·intro y hy e;have e3:D=y:=I6 e;omega
 ·rintro D c' pre W hD hS ⟨⟩
open M (Tx running)
section
variable{w w':World}{D:Nat->Prop}{b bm:Nat}{T:List (Int×Nat)}{L:List (Int×Tx)}{v:Value}{l:List Int}{t:Tx}
theorem TxAt.who(h:TxAt w D b bm T L){g:Nat}(hg:g∈T.map (·.2)):qp w g:=by obtain⟨p,hp,rfl⟩:=E8.1 hg;obtain⟨t,a,_,q2,_⟩:=h.at_ p.1 p.2 ((getD_some h.mp.keys).2 hp);exact⟨_,p.1,q2,rfl⟩
theorem zC(h:TxAt w D b bm T L)(hT:T.length<=12):Cl prog 106 [pv b] w λo w'=>∃G:List Nat,G.Perm (T.map (·.2))/\w'.ownsRow w.heap.size 170 1 o G.length (G.map pv)/\Fm F0 w w':=by
 refine cU1 func106 ?_;simp only[RU,ab h.st];refine cU1 func196 ?_;refine ae ?_;rintro c w1 rfl hs1 hw1 hf1;have h1:=h.keep hf1 iT;refine cU2 func195 ?_;refine cU1 func277 ?_;refine(qq h1.mp hw1 oM).mono ?_;rintro o w2 ⟨G,hp,ho,hf2⟩;have hl:G.length<=12:=by rw[hp.length_eq,H2];exact hT
 refine(uS ho (λg hg=>(h1.keep hf2 iT).who (hp.mem_iff.1 hg)) hl).mono ?_;rintro _ w3 ⟨G',hp',ho',hf3⟩;rw[<- hp'.length_eq] at ho';exact⟨G',hp'.trans hp,aU ho' hf1.size,Fm.own (Fmf hf1 hf2) hf3 (λy hy=>by have:=aP ho y hy;have:=hf1.size;omega)⟩
theorem TxAt.fn(h:TxAt w D b bm T L):∃f:Nat->Tx,(∀g∈T.map (·.2),∃who a,w.heap[g]?=some (.cells (txC who a (f g)) 179))/\(T.map (·.2)).map f=L.map (·.2):=by
 have hnL:(L.map (·.1)).Nodup:=h.keys▸h.mp.keys;let f:Nat->Tx:=λg=>(((T.find? λp=>decide (p.2=g)).bind λp=>getD L p.1).getD ⟨0,[],0,0,0,0⟩);have key:∀p∈T,∀t,getD L p.1=some t->f p.2=t:=λp hp t ht=>by
  have hf:T.find? (λq=>decide (q.2=p.2))=some p:=by
   cases hq:T.find? (λq=>decide (q.2=p.2)) with
   | none=>rw[List.find?_eq_none] at hq;exact absurd (C9 rfl) (hq p hp)
   | some q=>
    have h1:q.2=p.2:=by have:=List.find?_some hq;simpa using this
    rw[CO (f:=(·.2)) h.nd (List.mem_of_find?_eq_some hq) hp h1]
  show((T.find? λq=>decide (q.2=p.2)).bind _).getD _=t;rw[hf,IW,ht];rfl
 refine⟨f,λg hg=>?_,?_⟩
 ·obtain⟨p,hp,rfl⟩:=E8.1 hg;obtain⟨t,a,q1,q2,_⟩:=h.at_ p.1 p.2 ((getD_some h.mp.keys).2 hp);exact⟨p.1,a,by rw[key p hp t q1];exact q2⟩
 ·rw[JG];apply JI;intro i;rw[E4,E4];have hk:=IR (·[i]?) h.keys;simp only[E4] at hk;cases hT:T[i]? with
  | none=>rw[hT] at hk;cases hL:L[i]? with
   | none=>rfl
   | some q=>rw[hL] at hk;cases hk
  | some p=>
   rw[hT] at hk;cases hL:L[i]? with
   | none=>rw[hL] at hk;cases hk
   | some q=>
    rw[hL] at hk;have e:p.1=q.1:=by simpa using hk
    have:getD L p.1=some q.2:=(getD_some hnL).2 (by rw[e];exact F7 hL);show some (f p.2)=some q.2;rw[key p (F7 hT) _ this]
def bgF(t:Tx):Option (Int×Int):=bif decide (t.xid=0) then none else some (t.xid,t.last)
theorem E83:ElemT prog 83 185 2 16:=bG underlying83 kR
theorem HZ(x y:Int)(w:World):(Instr.buildSlice 83 1 #[(0,.agg #[iv x,iv y])]).run prog w=.ok (.slice (some ⟨w.heap.size,0,none⟩) 1 1) (w.alloc (.cells #[iv x,iv y] 185)):=kR
theorem Gz(x y:Int)(w:World):(Instr.build 185 #[(0,iv x),(1,iv y)]).run prog w=.ok (.agg #[iv x,iv y]) w:=kR
theorem tJ(h:TxAt w D b bm T L)(hT:T.length<=12):Cl prog 92 [pv b] w λo w'=>∃B:List (Int×Int),B.Perm ((L.map (·.2)).filterMap bgF)/\w'.ownsRow w.heap.size 185 2 o B.length (B.flatMap bgC)/\Fm F0 w w':=by
 refine cU1 func92 ?_ (V [(3,[3,9])]) (J [(7,[3])]);refine(zC h hT).mono ?_;rintro v w1 ⟨G,hp,ho,hf1⟩;have h1:=h.keep hf1 iT;obtain⟨f,hf,hm⟩:=h1.fn;have hl:G.length<=12:=by rw[hp.length_eq,H2];exact hT
 have hGm:((G.map f).filterMap bgF).Perm ((L.map (·.2)).filterMap bgF):=by rw[<- hm];exact(hp.map f).filterMap _
 simp only[RU,qY ho];refine⟨λvs w2=>∃(o:Value) (i:Nat),vs=[o,iv i]/\i<=G.length/\w2.ownsRow w1.heap.size 185 2 o ((((G.take i).map f).filterMap bgF).length) ((((G.take i).map f).filterMap bgF).flatMap bgC)/\Fm F0 w1 w2,λvs _=>(G.length - nth vs 1).toNat,⟨nl,0,rfl,oM,World.ownsRow_nil _ _ _ _,Fm.refl _ _⟩,?_⟩;rintro w2 v1 v2 ⟨o,i,hvs,hi,ho2,hf2⟩;cases hvs;by_cases hlt:i<G.length
 ·have e1:G[i]?=some G[i]:=C6 hlt;have hg:=hf _ (hp.mem_iff.1 (F7 e1));have et:=H8 (l:=G) (i:=i);rw[e1] at et;generalize G[i]=g at e1 hg et;obtain⟨who,a,hgw⟩:=hg;have hgw2:=hf2.heap hgw id;have c:=λo=>ab (off:=o) hgw2;obtain⟨ad,k1,_,k2⟩:=((CellsAt.aT ho).keep hf2 iT).iS (i:=i) (x:=pv g) (by rw[E4,e1];rfl) .i64;have ex:((G.take (i+1)).map f).filterMap bgF=((G.take i).map f).filterMap bgF++(bgF (f g)).toList:=by rw[et,Kg,List.filterMap_append];cases hb:bgF (f g)<;>simp[hb]
  have hw64:IntKind.i64.wrap ((i:Int)+1)=((i+1:Nat):Int):=by rw[af]<;>omega
  by_cases h0:(f g).xid=0
  ·have ez:bgF (f g)=none:=by unfold bgF;rw[h0];rfl
   simp only[RU,C9 (oM:(i:Int)<(G.length:Int)),k1,k2,c,jn1,h0,show((0:Int) != 0)=false from rfl,hw64];refine⟨⟨v1,i+1,rfl,oM,?_,hf2⟩,by simp only[cK];omega⟩;rw[ex,ez];simpa using ho2
  ·have ez:bgF (f g)=some ((f g).xid,(f g).last):=by unfold bgF;rw[C3 h0];rfl
   simp only[RU,C9 (oM:(i:Int)<(G.length:Int)),k1,k2,c,jn1,show((f g).xid != 0)=true by simp[h0]];have hfd:=Fm.drew F0 w2;have hfA:=Fmf hfd (Fm.alloc F0 w2.drew (.cells #[iv (f g).xid,iv (f g).last] 185));have hn:=ay w2.drew (.cells #[iv (f g).xid,iv (f g).last] 185);refine ag (Gz _ _ _) ⟨rfl,ag (HZ _ _ _) ?_⟩;have hlen:(((G.take i).map f).filterMap bgF).length<=12:=by have h1:=List.length_filterMap_le bgF ((G.take i).map f);rw[H2,E5] at h1;omega
   obtain⟨v',w3,hr3,ho3,hcase⟩:=cB (P:=prog) E83 dC (ah ho2 hfA (λ_ _ _ _ e=>e)) 83 ⟨w2.drew.heap.size,0,none⟩ 1 1 dC [iv (f g).xid,iv (f g).last] rfl (λj u hj=>by rw[aA,ab hn,E7,I5];exact hj) (by intro u hu;simp at hu;rcases hu with rfl|rfl<;>rfl) (by unfold maxLen;omega) oM (by have:=hf2.size;have:=hfA.size;omega);refine ag hr3 ⟨⟨v',i+1,by rw[hw64],oM,?_,?_⟩,by rw[hw64];simp only[cK];omega⟩
   ·rw[ex,ez];simpa using ho3
   ·have hFA:=Fmf hf2 hfA;rcases hcase with⟨g',e1,_,hf⟩|⟨g',_,_,hf⟩
    ·exact Fm.own hFA hf (λy e=>by rw[e];exact(aP ho2 _ e1).1)
    ·exact Fmf hFA hf
 ·rw[G0 oM] at ho2;simp only[RU,C3 (oM:¬(i:Int)<(G.length:Int))];refine(uR ho2 (by rw[hGm.length_eq];exact F8 (List.length_filterMap_le _ _) (by rw[<- hm,H2,<- hp.length_eq];exact hl))).mono ?_;rintro _ w3 ⟨B,hB,ho3,hf3⟩;rw[<- hB.length_eq] at ho3;exact⟨B,hB.trans hGm,aU ho3 hf1.size,Fm.own (Fmf hf1 hf2) hf3 (λy hy=>by have:=aP ho2 y hy;have:=hf1.size;omega)⟩
def BV(L:List (Int×Tx)):List Int:=L.filterMap λp=>bif decide (p.2.xid=0) then none else some p.2.xid
theorem zq:∀L:List (Int×Tx),((L.map (·.2)).filterMap bgF).map (·.1)=BV L
 | []=>rfl
 | p::L=>by
  unfold BV;rw[Ji,List.filterMap_cons,List.filterMap_cons];unfold bgF;cases decide (p.2.xid=0) with
  | true=>exact zq L
  | false=>exact IR (p.2.xid::·) (zq L)
theorem nB(x y:Int):∀l:List Int,y∈M.insI x l↔y=x\/y∈l
 | []=>by simp[M.insI]
 | z::l=>by
  unfold M.insI;cases decide (x<=z) with
  | true=>simp
  | false=>simp only[C8,H3];rw[nB x y l];exact⟨λh=>by rcases h with h|h|h<;>simp[h],λh=>by rcases h with h|h|h<;>simp[h]⟩
theorem qW(L:List (Int×Tx))(x:Int):x∈M.running L↔x∈BV L:=by
 unfold M.running;show x∈(BV L).foldr M.insI []↔_;induction BV L with
 | nil=>simp
 | cons a l ih=>rw[List.foldr_cons,nB,ih,H3]
theorem Hs(x:Int)(w:World):(Instr.buildSlice 25 1 #[(0,iv x)]).run prog w=.ok (.slice (some ⟨w.heap.size,0,none⟩) 1 1) (w.alloc (.cells #[iv x] 3)):=kR
theorem fy(h:TxAt w D b bm T L)(hT:T.length<=12):Cl prog 34 [pv b] w λo w'=>∃A:List Int,A.Perm (BV L)/\A.length<=12/\w'.ownsRow w.heap.size 3 1 o A.length (A.map iv)/\Fm F0 w w':=by
 refine cU1 func34 ?_ (V [(3,[3,9])]);refine(tJ h hT).mono ?_;rintro v w1 ⟨B,hB,ho,hf1⟩;have hl:B.length<=12:=by rw[hB.length_eq];have h1:=List.length_filterMap_le bgF (L.map (·.2));have h2:=IR List.length h.keys;simp only[H2] at h1 h2;omega
 simp only[RU,(CellsAt.aT ho).lenV];refine⟨λvs w2=>∃(o:Value) (i:Nat),vs=[o,iv i]/\i<=B.length/\w2.ownsRow w1.heap.size 3 1 o i (((B.take i).map (·.1)).map iv)/\Fm F0 w1 w2,λvs _=>(B.length - nth vs 1).toNat,⟨nl,0,rfl,oM,World.ownsRow_nil _ _ _ _,Fm.refl _ _⟩,?_⟩;rintro w2 v1 v2 ⟨o,i,hvs,hi,ho2,hf2⟩;cases hvs;by_cases hlt:i<B.length
 ·have e1:B[i]?=some B[i]:=C6 hlt;have et:=H8 (l:=B) (i:=i);rw[e1] at et;generalize B[i]=x at e1 et;obtain⟨ad,k1,_,k2⟩:=((CellsAt.aT ho).keep hf2 iT).at dC hlt .i64;have k3:aI w2 ad 2=some (.agg (bgC x).toArray):=aN (l:=bgC x) rfl λj hj=>by rw[k2 j hj,dD qt e1 hj]
  simp only[RU,C9 (oM:(i:Int)<(B.length:Int)),k1,k3];refine aD (us:=#[iv x.1,iv x.2]) (λw3 hs3 hw3 hf3=>?_) rfl rfl rfl;simp only[RU,ab hw3];refine ag (Hs x.1 w3) ?_;have hfA:=Fm.alloc F0 w3 (.cells #[iv x.1] 3);have hn:=ay w3 (.cells #[iv x.1] 3);have hf23:=Fmf hf2 hf3;obtain⟨v',w4,hr4,ho4,hcase⟩:=cB (P:=prog) E25 dC (ah ho2 (Fmf hf3 hfA) (λ_ _ _ _ e=>e)) 25 ⟨w3.heap.size,0,none⟩ 1 1 dC [iv x.1] rfl (λj u hj=>by rw[aA,ab hn,E7,I5];exact hj) (by intro u hu;simp at hu;subst hu;rfl) (by unfold maxLen;omega) oM (by have:=hf23.size;have:=hfA.size;omega);refine ag hr4 ?_;have hw64:IntKind.i64.wrap ((i:Int)+1)=((i+1:Nat):Int):=by rw[af]<;>omega
  refine⟨⟨v',i+1,by rw[hw64],oM,?_,?_⟩,by rw[hw64];simp only[cK];omega⟩
  ·rw[et];simpa using ho4
  ·have hFA:=Fmf hf23 hfA;rcases hcase with⟨g',e1,_,hf⟩|⟨g',_,_,hf⟩
   ·exact Fm.own hFA hf (λy e=>by rw[e];exact(aP ho2 _ e1).1)
   ·exact Fmf hFA hf
 ·obtain rfl:i=B.length:=oM;rw[IX] at ho2;simp only[RU,C3 (oM:¬((B.length:Nat):Int)<(B.length:Int))];have hp:(B.map (·.1)).Perm (BV L):=by rw[<- zq];exact hB.map _
  exact⟨B.map (·.1),hp,by rw[H2];exact hl,by rw[H2];exact aU ho2 hf1.size,Fmf hf1 hf2⟩
theorem yE{A:List Int}(hp:A.Perm (BV L)):∀x,x∈A↔x∈M.running L:=λx=>by rw[qW,hp.mem_iff]
theorem pT{S:List Int}(hs:S.Pairwise (·<=·))(hn:S.Nodup):∀(i:Nat) a b,S[i]?=some a->S[i+1]?=some b->a≠b:=by intro i a b h1 h2 e;obtain⟨q1,e1⟩:=E2.1 h1;obtain⟨q2,e2⟩:=E2.1 h2;have:=List.pairwise_iff_getElem.1 hn i (i+1) q1 q2 oM;rw[e1,e2] at this;exact this e
theorem uV{a:Value}{A:List Int}(ha:CellsAt w a A.length 1 (A.map iv))(hl:A.length<=12)(hnd:A.Nodup)(n:Int):Cl prog 32 [iv n,a] w λo w'=>∃(u:Value) (S:List Int),o=.agg #[iv n,u]/\S.Perm A/\w'.ownsRow w.heap.size 3 1 u S.length (S.map iv)/\Fm F0 w w':=by
 refine cU2 func32 ?_;refine ae ?_;rintro b1 w1 rfl hs1 hw1 hf1;refine(gv (ha.keep hf1 iT) oM).mono ?_;rintro u w2 ⟨ho2,hf2⟩;refine(nR (xs:=A) oM ho2).mono ?_;rintro _ w3 ⟨ho3,hf3⟩;have hp:(A.mergeSort λx y=>decide (x<=y)).Perm A:=List.mergeSort_perm _ _;have hso:(A.mergeSort λx y=>decide (x<=y)).Pairwise (·<=·):=by have:=KI (le:=λx y:Int=>decide (x<=y)) (λa b c h1 h2=>by simp at *;omega) (λa b=>by simp;omega) A;exact this.imp (λh=>by simpa using h)
 have hap:=pT hso (hp.nodup_iff.2 hnd);generalize (A.mergeSort λx y=>decide (x<=y))=S at ho3 hp hso hap;rw[<- hp.length_eq] at ho3;have hF2:=Fmf hf1 hf2;have hF3:=Fm.own hF2 hf3 (λy hy=>by have:=hf1.size;omega);refine(jf (CellsAt.aT ho3) (by rw[hp.length_eq];omega) hap).mono ?_;rintro r w4 ⟨hr,hf4⟩;rw[hr];have hone:=az ho3;obtain⟨ua,un,uc,rfl⟩:=aZ (CellsAt.aT ho3);refine bst #[iv n,.slice ua un uc] ?_;have hF4:=Fmf hF3 hf4;have hlt:=aj hw1;have hw4:=hf4.heap (hf3.heap (hf2.heap hw1 id) oM) id;refine ao hw4 (λw5 hw5 hs5 hf5=>?_) rfl rfl (by simp[hone];rfl);simp only[RU,aa (n:=2) hw5 rfl];refine⟨_,S,rfl,hp,aU (ah (ah ho3 hf4 (λ_ _ _ _ e=>e)) hf5 ?_) hf1.size,Fm.own hF4 hf5 (by rintro y rfl;exact D9 _)⟩;intro j hj _ _ e;omega
theorem vf(h:TxAt w D b bm T L)(hT:T.length<=12){who:Int}(ht:getD L who=some t)(h0:t.xid=0){x:Int}(hx:1<=x)(hr:x∉M.running L):Cl prog 50 [pv b,iv who,iv x] w λo w'=>o=iv 0/\TxAt w' D b bm T (cM L who { t with xid:=x })/\Fm D w w':=by refine cU3 func50 ?_;refine(eH h ht).mono ?_;rintro _ w1 ⟨g,a,rfl,hgt,hg,ha,rfl⟩;have c:=λo=>ab (off:=o) hg;simp only[RU,show((0:Int) != 0)=false from rfl,C3 (oM:¬x<1),c,h0];refine(fy h hT).mono ?_;rintro _ w2 ⟨A,hA,hAl,ho2,hf2⟩;refine(nx (l:=A) ⟨A,CellsAt.aT ho2,oM,λ_=>Iff.rfl⟩ x).mono ?_;rintro _ w3 ⟨rfl,rfl⟩;simp only[RU,C3 (show ¬x∈A from λe=>hr ((yE hA x).1 e))];have hg3:=hf2.heap hg id;refine au hg3 (j:=2) (dC:2<7) rfl λw4 hw4 hs4 hf4=>?_;have hD:=h.ob.2.2 _ (dE hgt);exact⟨(h.keep hf2 iT).upd hgt ht hg3 hw4 hf4 rfl,(hf2.trans hf4 iE (λy _ e=>by rw[e];exact hD))⟩
end
theorem K275:KeyT prog 275 3 3 iv:=dG underlying275 underlying3
def rmL(r:Option Int):List (Int×Int):=match r with
 | none=>[]
 | some x=>[(2,x)]
def gj(r:Option Int)(n:Int):Int×Bool:=match r with
 | none=>(0,false)
 | some x=>bif decide (n<=x) then(2,true) else(0,false)
structure SpAt (w : World) (b bm : Nat) (r : Option Int) : Prop where
 st : w.heap[b]? = some (.cells #[.map (some bm)] 285)
 mp : MapAt w bm iv iv (rmL r)
section
variable{w w':World}{S:Nat->Prop}{b bm:Nat}{r:Option Int}
theorem SpAt.keep(h:SpAt w b bm r)(hf:Fm S w w')(h1:¬S b)(h2:¬S bm):SpAt w' b bm r:=⟨hf.heap h.st h1,h.mp.keep hf h2⟩
theorem yO(w:World):Cl prog 84 [] w λv w'=>∃b bm,v=pv b/\w.heap.size<=b/\w.heap.size<=bm/\SpAt w' b bm none/\Fm F0 w w':=by refine cU0 func84 ?_;refine ag (bf _ _) (bst #[.map (some w.heap.size)] ?_);simp only[RU];refine ae ?_;intro b w' hb hs hw hf;have:=aE w (.map #[] 0);exact⟨b,w.heap.size,rfl,oM,D9 _,⟨hw,(MapAt.empty w iv iv).keep hf id⟩,Fmf (Fm.alloc F0 w _) hf⟩
theorem yQ(h:SpAt w b bm r)(x:Int):Cl prog 240 [pv b,iv 2,iv x] w λv w'=>SpAt w' b bm (some x)/\Fm (·=bm) w w':=by
 refine cU3 func240 ?_;simp only[RU,ab h.st];obtain⟨w',hr,hm,hf,_⟩:=bk K275 h.mp 2 x;have e:cM (rmL r) 2 x=rmL (some x):=by cases r<;>rfl
 rw[e] at hm;refine cA hr ?_;exact⟨⟨hf.heap h.st (by rintro rfl;obtain⟨es,c,hb,_⟩:=h.mp.ex;rw[h.st] at hb;cases hb),hm⟩,hf⟩
theorem uN(h:SpAt w b bm r)(n:Int):Cl prog 221 [pv b,iv n] w λv w'=>v=.tuple #[iv (gj r n).1,.bool (gj r n).2]/\Fm F0 w w':=by
 refine cU2 func221 ?_ (V [(5,[6,7])]);simp only[RU,ab h.st];obtain⟨w1,hr1,hR,hf1,hs1⟩:=fq K275.map h.mp;refine ag hr1 ?_;refine⟨λvs w2=>∃left,RangeAt w2 w.heap.size bm iv iv (rmL r) left/\Fm F0 w w2/\((vs=[iv 0,.bool false]/\left=rmL r)\/(vs=[iv (gj r n).1,.bool (gj r n).2]/\left=[])),λ_ w2=>Go.Al.rl w2 w.heap.size bm,⟨_,hR,hf1,.inl ⟨rfl,rfl⟩⟩,?_⟩;rintro w2 bv fv ⟨left,hR,hf,hv⟩;rcases ie (P:=prog) hR 0 with⟨rfl,hrun⟩|⟨i,p,w3,hp,hrun,hR',hf',hs',hent⟩
 ·refine ag hrun ?_;simp only[RU];refine⟨?_,hf⟩;rcases hv with⟨hv,hl⟩|⟨hv,_⟩
  ·cases hv;cases r with
   | none=>rfl
   | some x=>cases hl
  ·cases hv;rfl
 ·rcases hv with⟨hv,rfl⟩|⟨_,rfl⟩
  ·cases hv;cases r with
   | none=>simp[rmL] at hp
   | some x=>
    cases i with
    | succ i=>simp[rmL] at hp
    | zero=>
     obtain rfl:(2,x)=p:=by simpa[rmL] using hp
     have hlen:Go.Al.rl w3 w.heap.size bm<Go.Al.rl w2 w.heap.size bm:=by rw[hR.len,hR'.len];simp[rmL]
     have hfw:Fm F0 w w3:=hf.trans hf' iT (λy hy e=>oM);refine ag hrun ?_;simp only[RU];refine ag hent ?_;by_cases hn:n<=x
     ·simp only[RU,C9 hn];exact⟨⟨_,hR',hfw,.inr ⟨by simp[gj,hn],rfl⟩⟩,hlen⟩
     ·simp only[RU,C3 hn];exact⟨⟨_,hR',hfw,.inr ⟨by simp[gj,hn],rfl⟩⟩,hlen⟩
  ·simp at hp
end
abbrev jv:Int->Value:=Value.int .i64
abbrev sv:ByteArray->Value:=Value.string
theorem K74:KeyT prog 241 9 3 sv:=An underlying241 underlying9
theorem K75:KeyT prog 99 3 9 jv:=dG underlying99 underlying3
theorem zz3(w:World):(zeroValue 3).run prog w=.ok (jv 0) w:=kR
theorem zz9(w:World):(zeroValue 9).run prog w=.ok (sv ByteArray.empty) w:=kR
theorem GB(u v:Nat)(w:World):(Instr.build 243 #[(0,.map (some u)),(1,.map (some v))]).run prog w=.ok (.agg #[.map (some u),.map (some v)]) w:=kR
abbrev HL:=List (ByteArray×Int)
abbrev WL:=List (Int×ByteArray)
structure IsT (w : World) (b bh bw : Nat) (H : HL) (W : WL) : Prop where
 st : w.heap[b]? = some (.cells #[.map (some bh), .map (some bw)] 243)
 hs : MapAt w bh sv jv H
 ws : MapAt w bw jv sv W
 ne : bh ≠ bw
theorem IsT.nh{w:World}{b bh bw:Nat}{H:HL}{W:WL}(h:IsT w b bh bw H W):b≠bh:=by rintro rfl;obtain⟨es,c,hb,_⟩:=h.hs.ex;rw[h.st] at hb;cases hb
theorem IsT.nw{w:World}{b bh bw:Nat}{H:HL}{W:WL}(h:IsT w b bh bw H W):b≠bw:=by rintro rfl;obtain⟨es,c,hb,_⟩:=h.ws.ex;rw[h.st] at hb;cases hb
theorem IsT.keep{S:Nat->Prop}{w w':World}{b bh bw:Nat}{H:HL}{W:WL}(h:IsT w b bh bw H W)(hf:Fm S w w')(h1:¬S b)(h2:¬S bh)(h3:¬S bw):IsT w' b bh bw H W:=⟨hf.heap h.st h1,h.hs.keep hf h2,h.ws.keep hf h3,h.ne⟩
theorem IsT.drew{w:World}{b bh bw:Nat}{H:HL}{W:WL}(h:IsT w b bh bw H W):IsT w.drew b bh bw H W:=h.keep (Fm.drew F0 w) id id id
theorem IsT.cell0{w:World}{b bh bw:Nat}{H:HL}{W:WL}(h:IsT w b bh bw H W):w.cell? ⟨b,0,none⟩=some (.map (some bh)):=by rw[ab h.st];rfl
theorem IsT.m9{w:World}{b bh bw:Nat}{H:HL}{W:WL}(h:IsT w b bh bw H W):w.cell? ⟨b,1,none⟩=some (.map (some bw)):=by rw[ab h.st];rfl
theorem xB(w:World):Cl prog 82 [] w λv w'=>∃b bh bw,v=.pointer (some ⟨b,0,none⟩)/\w.heap.size<=b/\w.heap.size<=bh/\w.heap.size<=bw/\IsT w' b bh bw [] []/\Fm F0 w w':=by
 refine cU0 func82 ?_;refine ag (bf _ _) (ag (bf _ _) (ag (GB _ _ _) ?_));simp only[RU];refine ae ?_;intro b w' hb hs hw hf;have f1:=Fm.alloc F0 w (.map #[] 0);have f2:=Fm.alloc F0 (w.alloc (.map #[] 0)) (.map #[] 0);have f12:=f1.trans f2 (U:=λ_=>False) iT iT;have m1:=((MapAt.empty w sv jv).keep f2 id).keep hf id;have m2:=(MapAt.empty (w.alloc (.map #[] 0)) jv sv).keep hf id;refine⟨b,w.heap.size,(w.alloc (.map #[] 0)).heap.size,rfl,?_,D9 _,?_,⟨hw,m1,m2,?_⟩,f12.trans hf iT iT⟩
 ·rw[hb,aE,aE];omega
 ·rw[aE];omega
 ·rw[aE];omega
def zj(W:WL)(who:Int):Value:=.tuple #[sv ((getD W who).getD ByteArray.empty),.bool (getD W who).isSome]
theorem vj{w:World}{b bh bw:Nat}{H:HL}{W:WL}(h:IsT w b bh bw H W)(who:Int):Cl prog 57 [.pointer (some ⟨b,0,none⟩),jv who] w λv w'=>v=zj W who/\w'=w:=by refine cU2 func57 ?_;simp only[RU,h.m9];refine ag (aX K75 h.ws who true (zz9 w)) ?_;cases hg:getD W who<;>simp only[okV,D8]<;>simp only[RU]<;>simp[zj,hg]
def Edge(H:HL)(W:WL)(p q:Int):Prop:=∃key,getD W p=some key/\getD H key=some q
inductive Chain (H : HL) (W : WL) : Int → Int → Prop
 | here (p : Int) : Chain H W p p
 | step {p q r : Int} : Edge H W p q → Chain H W q r → Chain H W p r
theorem Edge.fn{H:HL}{W:WL}{p q r:Int}(h:Edge H W p q)(h':Edge H W p r):q=r:=by obtain⟨k,h1,h2⟩:=h;obtain⟨k',h3,h4⟩:=h';rw[h1] at h3;cases h3;rw[h2] at h4;cases h4;rfl
theorem Chain.next{H:HL}{W:WL}{p q r:Int}(h:Chain H W p r)(he:Edge H W p q)(hn:p≠r):Chain H W q r:=by
 cases h with
 | here=>exact absurd rfl hn
 | step e c=>rw[he.fn e];exact c
structure Sound (H : HL) (W : WL) : Prop where
 rank : ∃ f : Int → Nat, ∀ p q, Edge H W p q → f q < f p
 held : ∀ p key, getD W p = some key → (getD H key).isSome = true
theorem uJ{w:World}{b bh bw:Nat}{H:HL}{W:WL}(h:IsT w b bh bw H W)(hs:Sound H W)(who at_:Int):
  Cl prog 220 [.pointer (some ⟨b,0,none⟩),jv who,jv at_] w λv w'=>∃r:Bool,v=.bool r/\(r=true↔Chain H W at_ who)/\w'=w:=by
 obtain⟨f,hf⟩:=hs.rank;refine cU3 func220 ?_ (V [(1,[2])]);refine⟨λvs w'=>∃p,vs=[jv p]/\w'=w/\(Chain H W at_ who↔Chain H W p who),λvs _=>f (nth vs 0),⟨at_,rfl,rfl,Iff.rfl⟩,?_⟩;rintro w' pv ⟨p,⟨⟩,rfl,hp⟩;simp only[RU,h.m9];by_cases hpw:p=who
 ·have e1:(p != who)=false:=by simp[hpw]
  simp only[RU,e1];exact⟨true,rfl,by rw[hp,hpw];exact⟨λ_=>.here _,λ_=>rfl⟩,trivial⟩
 ·have e1:(p != who)=true:=by simp[hpw]
  simp only[RU,e1];refine ag (aX K75 h.ws p true (zz9 w')) ?_;cases hg:getD W p with
  | none=>
   simp only[okV,D8];simp only[RU];refine⟨false,rfl,?_,trivial⟩;rw[hp];constructor
   ·intro e;cases e
   ·intro c;cases c with
    | here=>exact absurd rfl hpw
    | step e _=>obtain⟨k,h1,_⟩:=e;rw[hg] at h1;cases h1
  | some key=>
   simp only[okV,D8];simp only[RU,h.cell0];refine ag (aX K74 h.hs key false (zz3 w')) ?_;have hh:=hs.held p key hg;cases hk:getD H key with
   | none=>rw[hk] at hh;cases hh
   | some q=>simp only[okV,C8];have he:Edge H W p q:=⟨key,hg,hk⟩;exact⟨⟨q,rfl,trivial,hp.trans ⟨λc=>c.next he hpw,λc=>.step he c⟩⟩,by simp only[ba];exact hf _ _ he⟩
inductive TryR (H : HL) (W : WL) (who : Int) (key : ByteArray) : HL → WL → Bool → Int → Prop
 | take : (getD H key = none ∨ getD H key = some who) → TryR H W who key (cM H key who) (cO W who) true 0
 | ring (h : Int) : getD H key = some h → h ≠ who → Chain H (cO W who) h who → TryR H W who key H (cO W who) false 181
 | wait (h : Int) : getD H key = some h → h ≠ who → ¬ Chain H (cO W who) h who → TryR H W who key H (cM (cO W who) who key) false 0
theorem Edge.y6{H:HL}{W:WL}(hn:(W.map (·.1)).Nodup){who p q:Int}(h:Edge H (cO W who) p q):Edge H W p q/\p≠who:=by
 obtain⟨k,h1,h2⟩:=h;rw[cQ hn] at h1;split at h1
 ·cases h1
 ·rename_i hne;exact⟨⟨k,h1,h2⟩,hne⟩
theorem Sound.del{H:HL}{W:WL}(hn:(W.map (·.1)).Nodup)(h:Sound H W)(who:Int):Sound H (cO W who):=by
 obtain⟨f,hf⟩:=h.rank;refine⟨⟨f,λp q e=>hf p q (e.y6 hn).1⟩,λp key hp=>?_⟩;rw[cQ hn] at hp;split at hp
 ·cases hp
 ·exact h.held p key hp
theorem Sound.try{H:HL}{W:WL}(hn:(W.map (·.1)).Nodup)(h:Sound H W){who:Int}{key:ByteArray}{H':HL}{W':WL}{ok:Bool}{e:Int}(ht:TryR H W who key H' W' ok e):Sound H' W':=by
 have hd:=h.del hn who;cases ht with
 | take hfree=>
  have hsub:∀k x,getD H k=some x->getD (cM H key who) k=some x:=λk x hk=>by
   rw[bl];split
   ·rename_i e;subst e;rcases hfree with h'|h'<;>rw[h'] at hk<;>cases hk;rfl
   ·exact hk
  obtain⟨f,hf⟩:=hd.rank;refine⟨⟨f,λp q e=>?_⟩,λp k hp=>?_⟩
  ·obtain⟨k,h1,h2⟩:=e;have hh:=hd.held p k h1;cases hk:getD H k with
   | none=>rw[hk] at hh;cases hh
   | some x=>have:=hsub k x hk;rw[h2] at this;cases this;exact hf p q ⟨k,h1,hk⟩
  ·have hh:=hd.held p k hp;cases hk:getD H k with
   | none=>rw[hk] at hh;cases hh
   | some x=>rw[hsub k x hk];rfl
 | ring hh h1 h2 h3=>exact hd
 | wait hh h1 h2 h3=>
  obtain⟨f,hf⟩:=hd.rank;have hE:∀p q,Edge H (cM (cO W who) who key) p q->(p=who/\q=hh)\/(p≠who/\Edge H (cO W who) p q):=by
   rintro p q ⟨k,g1,g2⟩;rw[bl] at g1;split at g1
   ·rename_i e;cases g1;rw[h1] at g2;cases g2;exact .inl ⟨e,rfl⟩
   ·rename_i hne;exact .inr ⟨hne,k,g1,g2⟩
  classical
  refine⟨⟨λx=>f x+(if Chain H (cO W who) x who then f hh+1 else 0),λp q e=>?_⟩,λp k hp=>?_⟩
  ·rcases hE p q e with⟨rfl,rfl⟩|⟨hne,e⟩
   ·simp only[IT h3,IY (Chain.here (H:=H) (W:=cO W p) p)];omega
   ·have:=hf p q e;by_cases hc:Chain H (cO W who) p who
    ·simp only[IY hc,IY (hc.next e hne)];omega
    ·have hc':¬Chain H (cO W who) q who:=λc=>hc (.step e c);simp only[IT hc,IT hc'];omega
  ·rw[bl] at hp;split at hp
   ·cases hp;rw[h1];rfl
   ·exact hd.held p k hp
theorem Bb{w:World}{b bh bw:Nat}{H:HL}{W:WL}(h:IsT w b bh bw H W)(hs:Sound H W)(who:Int)(key:ByteArray):
  Cl prog 130 [.pointer (some ⟨b,0,none⟩),jv who,sv key] w λv w'=>∃H' W' ok e,v=.tuple #[.bool ok,jv e]/\TryR H W who key H' W' ok e/\IsT w' b bh bw H' W'/\Fm (λx=>x=bh\/x=bw) w w':=by
 refine cU3 func130 ?_ (V []) (J [(7,[26])]);simp only[RU,h.m9];obtain⟨w1,hr1,hm1,hf1,hs1⟩:=dQ K75 h.ws who 0 3;refine ag hr1 ?_;have hT1:IsT w1 b bh bw H (cO W who):=⟨hf1.heap h.st h.nw,h.hs.keep hf1 h.ne,hm1,h.ne⟩;have hF1:Fm (λx=>x=bh\/x=bw) w w1:=hf1.mono λ_ _ e=>.inr e;simp only[RU,hT1.cell0];refine ag (aX K74 hT1.hs key true (zz3 w1)) ?_;have hsd:=hs.del h.ws.keys who;have free:(getD H key=none\/getD H key=some who)->RunU prog (Instr.mapUpdate 241 (.map (some bh)) (sv key) (jv who)) w1 λu w2=>∃H' W' ok e,Value.tuple #[.bool true,jv 0]=.tuple #[.bool ok,jv e]/\TryR H W who key H' W' ok e/\IsT w2 b bh bw H' W'/\Fm (λx=>x=bh\/x=bw) w w2:=by intro hfree;obtain⟨w2,hr2,hm2,hf2,_⟩:=bk K74 hT1.hs key who;exact cA hr2 ⟨_,_,_,_,rfl,.take hfree,⟨hf2.heap hT1.st h.nh,hm2,hT1.ws.keep hf2 (λe=>h.ne e.symm),h.ne⟩,hF1.trans hf2 iT (λ_ _ e=>.inl e)⟩
 cases hg:getD H key with
 | none=>
  simp only[okV,D8];simp only[RU];refine aJ (λvs w2=>vs=[.bool true]/\w2=w1) ?_ ?_
  ·rintro _ _ ⟨rfl,rfl⟩;refine⟨_,rfl,?_⟩;simp only[RU,hT1.cell0];exact free (.inl hg)
  ·intro kk hkk
   try simp only[RU]
   exact hkk _ _ ⟨rfl,rfl⟩
 | some hh=>
  simp only[okV,D8];simp only[RU];refine aJ (λvs w2=>vs=[.bool (hh == who)]/\w2=w1) ?_ ?_
  ·rintro _ _ ⟨rfl,rfl⟩;refine⟨_,rfl,?_⟩;by_cases he:hh=who
   ·have e1:(hh == who)=true:=by simp[he]
    simp only[RU,e1,hT1.cell0];exact free (.inr (by rw[hg,he]))
   ·have e1:(hh == who)=false:=by simp[he]
    simp only[RU,e1];refine(uJ hT1 hsd who hh).mono ?_;rintro _ w3 ⟨r,rfl,hr,rfl⟩;cases r with
    | true=>simp only[RU];exact⟨_,_,_,_,rfl,.ring hh hg he (hr.1 rfl),hT1,hF1⟩
    | false=>simp only[RU,hT1.m9];obtain⟨w2,hr2,hm2,hf2,_⟩:=bk K75 hT1.ws who key;exact cA hr2 ⟨_,_,_,_,rfl,.wait hh hg he (λc=>by have:=hr.2 c;cases this),⟨hf2.heap hT1.st h.nw,hT1.hs.keep hf2 h.ne,hm2,h.ne⟩,hF1.trans hf2 iT (λ_ _ e=>.inr e)⟩
  ·intro kk hkk
   try simp only[RU]
   exact hkk _ _ ⟨rfl,rfl⟩
theorem cT{α:Type}{l:List α}(hn:l.Nodup){i:Nat}{p:α}(hi:l[i]?=some p)(q:α):q∈l.eraseIdx i↔q∈l/\q≠p:=by
 induction l generalizing i with
 | nil=>simp at hi
 | cons x l ih=>
  rw[JV] at hn;cases i with
  | zero=>
   simp at hi;subst hi;rw[List.eraseIdx_cons_zero,H3];constructor
   ·intro h;exact⟨.inr h,λe=>hn.1 (by rw[<- e];exact h)⟩
   ·rintro⟨h|h,hne⟩
    ·exact absurd h hne
    ·exact h
  | succ i=>
   have hi':l[i]?=some p:=by simpa using hi
   rw[Kk,H3,H3,ih hn.2 hi'];constructor
   ·rintro(rfl|⟨h,hne⟩)
    ·exact⟨.inl rfl,λe=>hn.1 (by rw[e];exact F7 hi')⟩
    ·exact⟨.inr h,hne⟩
   ·rintro⟨rfl|h,hne⟩
    ·exact .inl rfl
    ·exact .inr ⟨h,hne⟩
theorem kJ{α β:Type}{D:List (α×β)}(h:(D.map (·.1)).Nodup):D.Nodup:=by rw[List.Nodup,List.pairwise_map] at h;exact h.imp λhne e=>hne (by rw[e])
theorem sK{α β:Type}{D:List (α×β)}(h:(D.map (·.1)).Nodup){p q:α×β}(hp:p∈D)(hq:q∈D)(e:p.1=q.1):p=q:=by
 induction D with
 | nil=>simp at hp
 | cons x D ih=>
  rw[Ji,JV] at h;rcases H3.1 hp with hpx|hp
  ·rcases H3.1 hq with hqx|hq
   ·rw[hpx,hqx]
   ·exact absurd (E8.2 ⟨q,hq,e.symm.trans (by rw[hpx])⟩) h.1
  ·rcases H3.1 hq with hqx|hq
   ·exact absurd (E8.2 ⟨p,hp,e.trans (by rw[hqx])⟩) h.1
   ·exact ih h.2 hp hq
theorem F35:ElemT prog 25 3 1 8:=bG underlying25 kR
theorem Ie(p:Int)(w:World):(Instr.buildSlice 25 1 #[(0,jv p)]).run prog w=.ok (.slice (some ⟨w.heap.size,0,none⟩) 1 1) (w.alloc (.cells #[jv p] 3)):=kR
theorem oE{w:World}{bh c:Nat}{H:HL}{who:Int}(h:MapAt w bh sv jv H)(hc:w.heap[c]?=some (.cells #[jv who] 3)):
  Cl prog 209 [.map (some bh),.func (.func 210) #[] #[.pointer (some ⟨c,0,none⟩)]] w λv w'=>∃H',MapAt w' bh sv jv H'/\(∀q,q∈H'↔q∈H/\q.2≠who)/\Fm (·=bh) w w':=by
 refine cU2 func209 ?_ (V [(1,[])]);obtain⟨w1,hr1,hR,hf1,hs1⟩:=fq K74.map h;refine ag hr1 ?_;have hcb:c≠bh:=by rintro rfl;obtain⟨es,cl,hb,_⟩:=h.ex;rw[hc] at hb;cases hb
 refine⟨λvs w2=>∃(H' left:HL),vs=[]/\RangeAt w2 w.heap.size bh sv jv H' left/\(H'.map (·.1)).Nodup/\(left.map (·.1)).Nodup/\(∀q,q∈left->q∈H)/\(∀q,q∈H'↔q∈H/\(q∈left\/q.2≠who))/\Fm (·=bh) w w2,λ_ w2=>Go.Al.rl w2 w.heap.size bh,⟨H,H,rfl,hR,h.keys,h.keys,λq hq=>hq,λq=>by simp;exact λh=>.inl h,hf1.mono λ_ _ e=>e.elim⟩,?_⟩;rintro w2 ⟨H',left,-,hR,hHn,hLn,hsub,hm,hf⟩;rcases ie (P:=prog) hR 0 with⟨rfl,hrun⟩|⟨i,p,w3,hp,hrun,hR',hf',hs',hent⟩
 ·refine ag hrun ?_;simp only[RU];exact⟨H',hR.map hHn,λq=>by rw[hm];simp,hf⟩
 ·refine ag hrun ?_;simp only[RU];refine ag hent ?_;have hlen:Go.Al.rl w3 w.heap.size bh<Go.Al.rl w2 w.heap.size bh:=by rw[hR.len,hR'.len];have:=hU hp;omega
  have hln:=kJ hLn;have hpl:=F7 hp;have hpH:p∈H:=hsub p hpl;have hsub':∀q,q∈left.eraseIdx i->q∈H:=λq hq=>hsub q (Kf hq);have hLn':((left.eraseIdx i).map (·.1)).Nodup:=by rw[<- bd];exact ey hLn i
  have hfw:Fm (·=bh) w w3:=hf.trans hf' iT (λx hx e=>oM);have hc3:=hfw.heap hc hcb;simp only[RU];refine ax kR ?_;simp only[RU,H9,Jj];refine cU3 func210 ?_;have cc:w3.cell? ⟨c,0,none⟩=some (jv who):=by rw[ab hc3];rfl
  simp only[RU,cc];by_cases hq:p.2=who
  ·have e1:(p.2 == who)=true:=by simpa using hq
   simp only[RU,e1];have hnk:p.1∉(left.eraseIdx i).map (·.1):=by intro hk;obtain⟨q,hq',e⟩:=E8.1 hk;rw[cT hln hp] at hq';exact hq'.2 (sK hLn hq'.1 hpl e)
   obtain⟨w4,hr4,hR4,hf4,hs4⟩:=jo K74 hR' hHn p.1 hnk 0 9;refine ag hr4 ?_;refine⟨⟨_,_,hR4,dW hHn _,hLn',hsub',λq=>?_,hfw.trans hf4 iT iT⟩,by rw[hR4.len,<- hR'.len];exact hlen⟩;have hqd:q∈cO H' p.1↔q∈H'/\q.1≠p.1:=by obtain⟨a,b⟩:=q;rw[<- getD_some (dW hHn _),cQ hHn,<- getD_some hHn];by_cases e:a=p.1<;>simp[e]
   rw[hqd,hm,cT hln hp];constructor
   ·rintro⟨⟨h1,h2⟩,h3⟩;exact⟨h1,h2.imp (λh4=>⟨h4,λe=>h3 (by rw[e])⟩) id⟩
   ·rintro⟨h1,h2⟩;refine⟨⟨h1,h2.imp (λh4=>h4.1) id⟩,λe=>?_⟩;have:=sK h.keys h1 hpH e;rcases h2 with h2|h2
    ·exact h2.2 this
    ·rw[this] at h2;exact h2 hq
  ·have e1:(p.2 == who)=false:=by simpa using hq
   simp only[RU,e1];refine⟨⟨_,_,hR',hHn,hLn',hsub',λq=>?_,hfw⟩,hlen⟩;rw[hm,cT hln hp];constructor
   ·rintro⟨h1,h2⟩;refine⟨h1,?_⟩;by_cases e:q=p
    ·exact .inr (by rw[e];exact hq)
    ·exact h2.imp (λh3=>⟨h3,e⟩) id
   ·rintro⟨h1,h2⟩;exact⟨h1,h2.imp (λh3=>h3.1) id⟩
theorem sL{α β:Type}[DecidableEq α]{D:List (α×β)}(h:(D.map (·.1)).Nodup)(p:α)(q:α×β):q∈cO D p↔q∈D/\q.1≠p:=by obtain⟨a,b⟩:=q;rw[<- getD_some (dW h p),cQ h,<- getD_some h];by_cases e:a=p<;>simp[e]
theorem Cs{α β:Type}[DecidableEq α](D:List (α×β))(p:α):(cO D p).length<=D.length:=by have:=IR List.length (gZ D p);rw[H2] at this;rw[this];exact F8 (List.erase_sublist.length_le) sI
structure LetR (H : HL) (W : WL) (who : Int) (H' : HL) (W' : WL) (ls : List Int) : Prop where
 up : ls.Pairwise (· < ·)
 told : ∀ x, x ∈ ls ↔ x ≠ who ∧ ∃ key, (x, key) ∈ W ∧ getD H key = some who
 hold : ∀ q, q ∈ H' ↔ q ∈ H ∧ q.2 ≠ who
 wait : ∀ q, q ∈ W' ↔ q ∈ W ∧ q.1 ≠ who ∧ getD H q.2 ≠ some who
theorem pL{w:World}{b bh bw:Nat}{H:HL}{W:WL}(h:IsT w b bh bw H W)(hsz:W.length*8<=140737488355328)(who:Int):
  Cl prog 116 [.pointer (some ⟨b,0,none⟩),jv who] w λv w'=>∃H' W' ls,w'.ownsRow w.heap.size 3 1 v ls.length (ls.map jv)/\LetR H W who H' W' ls/\IsT w' b bh bw H' W'/\Fm (λx=>x=bh\/x=bw) w w':=by
 have hbw:=h.ws.lt;have hbh:=h.hs.lt;refine cU2 func116 ?_ (V [(12,[50]),(6,[5])]);refine ae ?_;intro c w1 hcs hs1 hc1 hf1
 replace hc1:w1.heap[c]?=some (.cells #[jv who] 3):=hc1
 have hT1:=(h.keep hf1 id id id).drew;have hcd:w1.drew.heap[c]?=some (.cells #[jv who] 3):=by rw[aM];exact hc1
 have cc:w1.cell? ⟨c,0,none⟩=some (jv who):=by rw[ab hc1];rfl
 have hf1d:=Fmf hf1 (Fm.drew _ w1);have c1':=hT1.m9;rw[bE] at c1';have hs1':w1.drew.heap.size=w.heap.size+1:=by rw[aM];exact hs1
 obtain⟨ptr,hptr⟩:∃q:Option Addr,q=some ⟨c,0,none⟩:=⟨_,rfl⟩;simp only[RU,c1',cc];generalize w1.drew=wd at hT1 hcd hf1d hs1';clear hptr ptr cc c1' hc1 hf1 hs1 w1;obtain⟨w2,hr2,hW2,hf2,hs2⟩:=dQ K75 hT1.ws who 0 3;refine ag hr2 ?_;have hcw:c≠bw:=oM;have hchh:c≠bh:=oM;have hc2:=hf2.heap hcd hcw;have hst2:=hf2.heap hT1.st h.nw;have hH2:=hT1.hs.keep hf2 h.ne;have hW1m:=λq=>sL h.ws.keys who q;have hW1l:=Cs W who;generalize cO W who=W1 at hW2 hW1m hW1l;have c1':w2.cell? ⟨b,1,none⟩=some (.map (some bw)):=by rw[ab hst2];rfl
 simp only[RU,c1'];obtain⟨w3,hr3,hR,hf3,hs3⟩:=fq K75.map hW2;refine ag hr3 ?_;have hF2:Fm (·=bw) w w2:=hf1d.trans hf2 iE iT;have hrsz:w2.heap.size=w.heap.size+1:=by rw[hs2,hs1']
 refine⟨λvs w4=>∃(u:Value) (xs:List Int) (left:WL),vs=[u]/\RangeAt w4 w2.heap.size bw jv sv W1 left/\left.Nodup/\(∀q∈left,q∈W1)/\w4.ownsRow (w2.heap.size+1) 3 1 u xs.length (xs.map jv)/\xs.Nodup/\(∀x,x∈xs↔∃key,(x,key)∈W1/\(x,key)∉left/\getD H key=some who)/\xs.length+left.length<=W1.length/\Fm F0 w2 w4,λ_ w4=>Go.Al.rl w4 w2.heap.size bw,⟨.slice none 0 0,[],W1,rfl,hR,kJ hW2.keys,λq hq=>hq,World.ownsRow_nil _ _ _ _,List.nodup_nil,λk=>by simp;exact λ_ h1 h2=>absurd h1 h2,sI,hf3⟩,?_⟩;rintro w4 u ⟨_,xs,left,⟨⟩,hR,hln,hsub,ho,hxn,hxm,hxl,hf⟩;have hst4:=hf.heap hst2 id;have hH4:=hH2.keep hf id;have hc4:=hf.heap hc2 id;rcases ie (P:=prog) hR 0 with⟨rfl,hrun⟩|⟨i,p,w5,hp,hrun,hR',hf',hs',hent⟩
 ·refine ag hrun ?_;simp only[Ja,Jt,KH,not_false_eq_true,JF] at hxl hxm;simp only[RU,(CellsAt.aT ho).lenV];refine⟨λvs w5=>∃(k:Nat) (Wk:WL),vs=[jv k]/\k<=xs.length/\MapAt w5 bw jv sv Wk/\(∀q,q∈Wk↔q∈W1/\q.1∉xs.take k)/\Fm (·=bw) w4 w5,λvs _=>(xs.length - nth vs 0).toNat,⟨0,W1,rfl,oM,hR.map hW2.keys,λq=>sI,Fm.refl _ _⟩,?_⟩;rintro w5 kv ⟨k,Wk,⟨⟩,hk,hWk,hWm,hf5⟩;have hst5:=hf5.heap hst4 h.nw;have ho5:=ah ho hf5 (λk hk _ _ e=>oM);by_cases hlt:k<xs.length
  ·have e1:decide ((k:Int)<(xs.length:Int))=true:=by simpa using hlt
   have hx:xs[k]?=some xs[k]:=C6 hlt;obtain⟨ad,i1,_,q1⟩:=(CellsAt.aT ho5).iS (i:=k) (x:=jv xs[k]) (by rw[E4,hx];rfl) .i64;have c5:w5.cell? ⟨b,1,none⟩=some (.map (some bw)):=by rw[ab hst5];rfl
   simp only[RU,e1,i1,q1,c5];obtain⟨w6,hr6,hW6,hf6,hs6⟩:=dQ K75 hWk xs[k] 0 3;refine ag hr6 ?_;simp only[RU,zp (i:=k) oM];refine⟨⟨k+1,_,rfl,oM,hW6,λq=>?_,hf5.trans hf6 iT iT⟩,by simp only[ba];omega⟩;rw[sL hWk.keys,hWm,H8,hx];simp only[Option.toList_some,H5,Jw,not_or];exact⟨λ⟨⟨a,b⟩,c⟩=>⟨a,b,c⟩,λ⟨a,b,c⟩=>⟨⟨a,b⟩,c⟩⟩
  ·have hke:k=xs.length:=oM;subst hke;have e1:decide ((xs.length:Int)<(xs.length:Int))=false:=sI;have c5:w5.cell? ⟨b,0,none⟩=some (.map (some bh)):=by rw[ab hst5];rfl
   rw[IX] at hWm;simp only[RU,e1,c5];refine(oE (hH4.keep hf5 h.ne) (hf5.heap hc4 hcw)).mono ?_;rintro _ w6 ⟨H',hH6,hHm,hf6⟩;have ho6:=ah ho5 hf6 (λk hk _ _ e=>oM);refine(nR oM ho6).mono ?_;rintro _ w7 ⟨ho7,hf7⟩;have hz:w4.heap.size<=w6.heap.size:=F8 hf5.size hf6.size;have hz4:=hf.size;have hperm:=List.mergeSort_perm xs (λx y=>decide (x<=y));refine⟨H',Wk,xs.mergeSort λx y=>decide (x<=y),?_,⟨?_,λx=>?_,hHm,λq=>?_⟩,⟨?_,?_,?_,h.ne⟩,?_⟩
   ·rw[List.length_mergeSort];exact aU ho7 oM
   ·have h1:=KI (le:=λx y:Int=>decide (x<=y)) (λa b c h1 h2=>by simp at *;omega) (λa b=>by simp;omega) xs;have h2:(xs.mergeSort λx y=>decide (x<=y)).Nodup:=hperm.nodup_iff.2 hxn;exact(h1.and h2).imp λ⟨h,hn⟩=>by simp at h;omega
   ·rw[List.mem_mergeSort,hxm];constructor
    ·rintro⟨key,h1,h2⟩;have:=(hW1m _).1 h1;exact⟨this.2,key,this.1,h2⟩
    ·rintro⟨hne,key,h1,h2⟩;exact⟨key,(hW1m _).2 ⟨h1,hne⟩,h2⟩
   ·rw[hWm,hW1m,hxm,and_assoc];constructor
    ·rintro⟨h1,h2,h3⟩;exact⟨h1,h2,λe=>h3 ⟨q.2,(hW1m _).2 ⟨h1,h2⟩,e⟩⟩
    ·rintro⟨h1,h2,h3⟩;refine⟨h1,h2,λ⟨key,h4,h5⟩=>h3 ?_⟩;have:=sK h.ws.keys ((hW1m _).1 h4).1 h1 rfl;rw[<- this];exact h5
   ·exact hf7.heap (hf6.heap hst5 h.nh) (by have:=aj h.st;omega)
   ·exact hH6.keep hf7 oM
   ·exact(hWk.keep hf6 (λe=>h.ne e.symm)).keep hf7 oM
   ·have f1:Fm (·=bw) w w5:=(hF2.trans hf (U:=(·=bw)) iT iE).trans hf5 iT iT;have f2:Fm (λx=>x=bh\/x=bw) w w6:=f1.trans hf6 (λ_ _ e=>.inr e) (λ_ _ e=>.inl e);exact f2.trans hf7 iT (λx hx e=>oM)
 ·refine ag hrun ?_;simp only[RU];refine ag hent ?_;have hlen:Go.Al.rl w5 w2.heap.size bw<Go.Al.rl w4 w2.heap.size bw:=by rw[hR.len,hR'.len];have:=hU hp;omega
  have hl1:=hU hp;have hpl:=F7 hp;have hpH:p∈W1:=hsub p hpl;have hsub':∀q∈left.eraseIdx i,q∈W1:=λq hq=>hsub q (Kf hq);have hfw:Fm F0 w2 w5:=hf.trans hf' iT (λx hx e=>oM);have ho3:=ah ho hf' (λk hk hk' hb e=>oM);have hst5:=hfw.heap hst2 id;have hH5:=hH2.keep hfw id;have hc5:=hfw.heap hc2 id;have c5:w5.cell? ⟨b,0,none⟩=some (.map (some bh)):=by rw[ab hst5];rfl
  have cc:w5.cell? ⟨c,0,none⟩=some (jv who):=by rw[ab hc5];rfl
  simp only[RU,c5];obtain⟨x,key⟩:=p;refine ag (aX K74 hH5 key true (zz3 w5)) ?_;have skip:getD H key≠some who->(∃(u':Value) (xs:List Int) (left:WL),[u]=[u']/\RangeAt w5 w2.heap.size bw jv sv W1 left/\left.Nodup/\(∀q∈left,q∈W1)/\w5.ownsRow (w2.heap.size+1) 3 1 u' xs.length (xs.map jv)/\xs.Nodup/\(∀x,x∈xs↔∃key,(x,key)∈W1/\(x,key)∉left/\getD H key=some who)/\xs.length+left.length<=W1.length/\Fm F0 w2 w5)/\Go.Al.rl w5 w2.heap.size bw<Go.Al.rl w4 w2.heap.size bw:=by
   intro hne;refine⟨⟨u,xs,_,rfl,hR',ey hln i,hsub',ho3,hxn,λy=>?_,oM,hfw⟩,hlen⟩;rw[hxm];constructor
   ·rintro⟨k,h1,h2,h3⟩;exact⟨k,h1,λh4=>h2 ((cT hln hp _).1 h4).1,h3⟩
   ·rintro⟨k,h1,h2,h3⟩;refine⟨k,h1,λh4=>h2 ((cT hln hp _).2 ⟨h4,λe=>?_⟩),h3⟩;cases e;exact hne h3
  cases hg:getD H key with
  | none=>simp only[okV,D8];simp only[RU];exact skip (by rw[hg];simp)
  | some hh=>
   simp only[okV,D8];by_cases hq:hh=who
   ·subst hq;have e1:(hh == hh)=true:=sI;simp only[RU,e1,cc];have hk:x∉xs:=λhk=>by obtain⟨k',h1,h2,h3⟩:=(hxm x).1 hk;have:=sK hW2.keys h1 hpH rfl;rw[this] at h2;exact h2 hpl
    refine tG F35 25 (Ie _ _) rfl ho3 (by unfold maxLen;omega) oM (by have:=hR'.lt;omega) ?_;intro v' w6 ho6 hne hf6;have hR6:=hR'.keep hf6 oM oM;refine⟨⟨v',xs++[x],_,rfl,hR6,ey hln i,hsub',by simpa using ho6,?_,λy=>?_,by simp;omega,hfw.trans hf6 iT (λx hx e=>oM)⟩,by rw[hR6.len,<- hR'.len];exact hlen⟩
    ·rw[Km];exact⟨hxn,sI,λa ha b hb=>by simp at hb;subst hb;rintro rfl;exact hk ha⟩
    ·rw[H5,hxm,Jw];constructor
     ·rintro(⟨k,h1,h2,h3⟩|rfl)
      ·exact⟨k,h1,λh4=>h2 ((cT hln hp _).1 h4).1,h3⟩
      ·exact⟨key,hpH,λh4=>((cT hln hp _).1 h4).2 rfl,hg⟩
     ·rintro⟨k,h1,h2,h3⟩;by_cases hy:y=x
      ·exact .inr hy
      ·exact .inl ⟨k,h1,λh4=>h2 ((cT hln hp _).2 ⟨h4,λe=>by cases e;exact hy rfl⟩),h3⟩
   ·have e1:(hh == who)=false:=by simpa using hq
    simp only[RU,e1,cc];exact skip (by rw[hg];simpa using hq)
open M (Pn Ak Rp Ent tu dL entOk sA ent0 rp0 Tu)
theorem two{g:FuncId}{args:List Value}{w:World}{zs:Array Value}{t:TypeId}{C:World->Prop}{Y:Nat->Prop}{n:Nat}{kk:Value->Value->World->Prop}(S:Nat->World->Array Value->Value->Prop)
  (H:∀w1,Fm F0 w w1->Cl prog g args w1 λo w2=>∃us u,o=.tuple #[.agg us,u]/\us.size=n/\us.toList.all Value.oneCell'=true/\S w1.heap.size w2 us u/\Fm Y w1 w2)
  (hC:∀w1,Fm F0 w w1->C w1) (hY:∀y,Y y->y<w.heap.size)
  (hS:∀base w2 w3 us u,w.heap.size<=base->S base w2 us u->Fm (λy=>w.heap.size<=y/\y<base) w2 w3->S base w3 us u)
  (K:∀base w3 b us u,w.heap.size<=base->w.heap.size<=b->us.size=n->w3.heap[b]?=some (.cells us t)->S base w3 us u->Fm Y w w3->kk (pv b) u w3) (hz:zs.size=n:=by rfl):
  (Cl prog g args w λv w2=>Pu (bj v 0) λa=>Pu (bj v 1) λc=>New zs t w2 λp w3=>St n w3 p a λ_ w4=>kk p c w4)/\(New zs t w λp w1=>C w1/\Cl prog g args w1 λv w2=>Pu (bj v 0) λa=>Pu (bj v 1) λc=>St n w2 p a λ_ w3=>kk p c w3)/\True:=by
 refine⟨?_,?_,trivial⟩
 ·refine(H w (Fm.refl _ _)).mono ?_;rintro _ w2 ⟨us,u,rfl,hn,h1,hs,hf⟩;simp only[RU];refine aD (λw4 hs4 hw4 hf4=>?_) hn hz h1;exact K w.heap.size w4 _ us u (D9 _) hf.size hn hw4 (hS _ _ _ _ _ (D9 _) hs (hf4.mono (λ_ _ e=>e.elim))) (hf.trans hf4 (λ_ _ e=>e) (λ_ _ e=>e.elim))
 ·refine ae ?_;rintro b w1 rfl hs1 hw1 hf1;refine⟨hC w1 hf1,?_⟩;refine(H w1 hf1).mono ?_;rintro _ w2 ⟨us,u,rfl,hn,h1,hs,hf⟩;simp only[RU];refine ao (hf.heap hw1 (λe=>by have:=hY _ e;omega)) (λw3 hw3 hs3 hf3=>?_) hn hz h1;exact K w1.heap.size w3 _ us u oM (D9 _) hn hw3 (hS _ _ _ _ _ oM hs (hf3.mono (λy _ e=>by rw[e];omega))) ((hf1.trans hf (λ_ _ e=>e.elim) (λ_ _ e=>e)).trans hf3 (λ_ _ e=>e) (λy hy e=>oM))
end Go.Proofs.YtmdmffeoehfjgaaGreatDoor
