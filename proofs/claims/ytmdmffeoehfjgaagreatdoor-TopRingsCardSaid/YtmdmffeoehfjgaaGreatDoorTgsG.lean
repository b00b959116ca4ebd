/- Laid for one claim by slim.py out of: parts. -/
import Derived.Test.YtmdmffeoehfjgaaGreatDoorTgsF
set_option maxRecDepth 100000
set_option maxHeartbeats 0
set_option linter.unusedVariables false
set_option linter.unusedSimpArgs false
set_option linter.unusedSectionVars false
open Go.Proofs.Tryz (prog)
namespace Go.Proofs.YtmdmffeoehfjgaaGreatDoor
open Go.Al Go.Proofs Go.Proofs.Tryz
open M (Tu keyOk tu dM deadB tuRd fH)
open M (Ent entOk sA fh cmpB vu eP)
open M (Ent entOk sA fh eP)
open M (Tu tu dM fH)
open M (idOk xAdd xGap xBefore)
open M (idOk xAdd Fp it0 it1 plN oQ)
open M (idOk xAdd it0 it1 Vw Tu)
open M (Tu tu dM fH it0)
open M (it0)
open M (Tx)
open M (xGap xAdd idOk)
open Go.RowKit
open M (Tx running)
open M (Pn Ak Rp Ent tu dM entOk sA ent0 rp0 Tu)
open M (E Seat Wk Pn Rp Ak Tx)
attribute [local irreducible] World.drew undef ax aD bj bB faV ixV ixS ixA aX cJ ixG unV cvI cvS slS slV lenV bo cQ aQ aP aR az isB Instr.build Instr.buildSlice Instr.lookup Instr.mapUpdate Instr.range Instr.next Instr.entry Instr.makeMap Instr.makeSlice convert binOp Instr.sliceAt Instr.makeInterface Builtin.append_ Builtin.copy_ Builtin.delete_ Builtin.clear_ Builtin.len_ Builtin.cap_ Value.cells
section
variable{w w':World}{D D' S:Nat->Prop}{B:Bk}{u rv sv:Value}{O O':Nat->Nat}{e e':E}{ss:List (List Value)}{s:PS}
structure Gr (O O' : Nat → Nat) (Z : Nat → Prop) : Prop where
 old : ∀ y, O y ≠ 99 → O' y = O y
 new : ∀ y, O' y ≠ 99 → O y ≠ 99 ∨ Z y
theorem Gr.refl(O:Nat->Nat)(Z:Nat->Prop):Gr O O Z:=⟨λ_ _=>rfl,λ_ h=>.inl h⟩
theorem Gr.trans{O1 O2 O3:Nat->Nat}{Z:Nat->Prop}(h:Gr O1 O2 Z)(k:Gr O2 O3 Z):Gr O1 O3 Z:=⟨λy hy=>(k.old y (by rw[h.old y hy];exact hy)).trans (h.old y hy),λy hy=>(k.new y hy).elim (h.new y) .inr⟩
theorem Gr.mono{Z Z':Nat->Prop}(h:Gr O O' Z)(hZ:∀y,Z y->Z' y):Gr O O' Z':=⟨h.old,λy hy=>(h.new y hy).imp id (hZ y)⟩
theorem RP.free(h:RP w O B e u rv sv ss){y:Nat}(hy:w.heap.size<=y):O y=99:=by apply Classical.byContradiction;intro e;have:=h.lt y e;omega
theorem RP.aS(h:RP w O B e u rv sv ss)(hf:Fm F0 w w'):RP w' O B e u rv sv ss:=⟨by have o:=h.keep (c:=50) (hf.mono iE);exact o,λy hy=>Nat.lt_of_lt_of_le (h.lt y hy) hf.size,h.x0,h.sl,h.mo,h.ph,h.uo⟩
theorem RP.oN(h:RP w O B e u rv sv ss){s':PS}(hs:SysAt w' D' B s')(hD:∀y,D' y->(O y=1\/w.heap.size<=y)/\y<w'.heap.size)(hf:Fm (λy=>O y=1) w w'):∃O',RP w' O' B { e with s:=s' } u rv sv ss/\Gr O O' D':=by
 obtain⟨O',h1,h2,h3⟩:=tag O D' 1 (λy hy=>(hD y hy).1.imp id h.free);have o:=(h.keep hf).wide h1 h.sl;refine⟨O',⟨⟨λ_=>hs.wide h2,λ_=>o.st (by decide),λ_=>o.lk (by decide),λ_=>o.tx (by decide),λ_=>o.id (by decide),λ_=>o.sp (by decide),λ_=>o.rs (by decide),λi s k hi=>o.se i s (by omega) hi,λ_=>o.x (by decide)⟩,λy hy=>?_,?_,h.sl,h.mo,h.ph,h.uo⟩,⟨h1,h3⟩⟩
 ·rcases h3 y hy with e|e
  ·exact Nat.lt_of_lt_of_le (h.lt y e) hf.size
  ·exact(hD y e).2
 ·rw[h1 _ (by rw[h.x0];decide)];exact h.x0
theorem RP.cells(h:RP w O B e u rv sv ss)(hx:EgB w' B.x (hdC B e' u) ss (tlC B e' rv sv))(hf:Fm (·=B.x) w w')(h1:e'.s=e.s:=by rfl)(h2:e'.st=e.st:=by rfl)(h3:e'.holds=e.holds:=by rfl)(h4:e'.waits=e.waits:=by rfl)(h5:e'.txns=e.txns:=by rfl)(h6:e'.m=e.m:=by rfl)(h7:e'.nxt=e.nxt:=by rfl)(h8:e'.room=e.room:=by rfl)(h9:e'.recs=e.recs:=by rfl)(h10:e'.met=e.met:=by rfl)(h11:e'.saves=e.saves:=by rfl)(h12:e'.seats=e.seats:=by rfl)(hp:e'.phase<=2->sv=nl):RP w' O B e' u rv sv ss:=by have o:=h.keep (c:=0) (hf.mono (λy _ e=>by rw[e];exact h.x0));exact⟨⟨λ_=>h1▸o.sys (by decide),λ_=>h2▸o.st (by decide),λ_=>h3▸h4▸o.lk (by decide),λ_=>h5▸o.tx (by decide),λ_=>h6▸h7▸o.id (by decide),λ_=>h8▸o.sp (by decide),λ_=>h9▸h10▸h11▸o.rs (by decide),λi s k hi=>o.se i s (by omega) (h12▸hi),λ_=>hx⟩,λy hy=>Nat.lt_of_lt_of_le (h.lt y hy) hf.size,h.x0,h12▸h.sl,h6▸h.mo,hp,h.uo⟩
theorem RP.oF(h:RP w O B e u rv sv ss){i:Nat}{s':Seat}{cs':List Value}(hi:i<8)(hx:EgB w' B.x (hdC B e u) (ss.set i cs') (tlC B e rv sv))(hf:Fm (·=B.x) w w')(hs:SeatAt w' (O ·=10+i) i s' cs'):RP w' O B { e with seats:=e.seats.set i s' } u rv sv (ss.set i cs'):=by
 have o:=h.keep (c:=0) (hf.mono (λy _ e=>by rw[e];exact h.x0));have hl:ss.length=8:=(h.al.x (by decide)).s;refine⟨⟨λ_=>o.sys (by decide),λ_=>o.st (by decide),λ_=>o.lk (by decide),λ_=>o.tx (by decide),λ_=>o.id (by decide),λ_=>o.sp (by decide),λ_=>o.rs (by decide),λj s k hj=>?_,λ_=>hx⟩,λy hy=>Nat.lt_of_lt_of_le (h.lt y hy) hf.size,h.x0,by show(e.seats.set i s').length=8;rw[List.length_set];exact h.sl,h.mo,h.ph,h.uo⟩
 replace hj:(e.seats.set i s')[j]?=some s:=hj
 by_cases hij:i=j
 ·subst hij;rw[List.getElem?_set_self (by rw[h.sl];exact hi)] at hj;cases hj;exact⟨cs',by rw[List.getElem?_set_self (by omega)],hs⟩
 ·rw[List.getElem?_set_ne hij] at hj;obtain⟨cs,h1,h2⟩:=o.se j s (by omega) hj;exact⟨cs,by rw[List.getElem?_set_ne hij];exact h1,h2⟩
theorem RP.plan(h:RP w O B e u rv sv ss){i:Nat}{sq:Seat}{cs:List Value}{q:Pn}{n:Nat}(hi:e.seats[i]?=some sq)(hcs:ss[i]?=some cs){b:Nat}{rr:Value}(hc:cs=seC i sq rr (pv b))(hrr:CellsAt w rr sq.rep.rows.length 2 (sq.rep.rows.flatMap rowL)/\(∀y,blockOf rr=some y->O y=10+i))(hr0:sq.rep.rows=[])(hX:PlX w' (O ·=10+i) n b q)(hn:w.heap.size<=n)(hf:Fm (λy=>O y=10+i) w w'):∃O',RP w' O' B { e with seats:=e.seats.set i { sq with plan:=some q } } u rv sv ss/\Gr O O' (w.heap.size<=·):=by
 have h8:i<8:=by have:=(List.getElem?_eq_some_iff.1 hi).1;rw[h.sl] at this;exact this
 obtain⟨D',rv',lv',rr',hp,hD'⟩:=hX;obtain⟨O',h1,h2,h3⟩:=tag O D' (10+i) (λy hy=>(hD' y hy).imp id (λe=>h.free (by omega)));have o:=(h.keep hf).wide h1 h.sl;have g:Gr O O' (λy=>w.heap.size<=y/\y<w'.heap.size):=⟨h1,λy hy=>(h3 y hy).elim .inl λhd=>(hD' y hd).elim (λe=>.inl (by rw[e];omega)) (λe=>.inr ⟨by omega,e.2⟩)⟩;refine⟨O',⟨⟨λ_=>o.sys (by omega),λ_=>o.st (by omega),λ_=>o.lk (by omega),λ_=>o.tx (by omega),λ_=>o.id (by omega),λ_=>o.sp (by omega),λ_=>o.rs (by omega),λj s k hj=>?_,λ_=>o.x (by omega)⟩,λy hy=>?_,?_,by show(e.seats.set i _).length=8;rw[List.length_set];exact h.sl,h.mo,h.ph,h.uo⟩,g.mono (λy e=>e.1)⟩
 ·replace hj:(e.seats.set i { sq with plan:=some q })[j]?=some s:=hj
  by_cases hij:i=j
  ·subst hij;rw[List.getElem?_set_self (by rw[h.sl];exact h8)] at hj;cases hj;refine⟨cs,hcs,⟨rr,pv b,hc,hrr.1.gE hf (by rw[hr0];intro e;exact absurd rfl e),λy e=>(h1 y (by rw[hrr.2 y e];omega)).trans (hrr.2 y e),?_⟩⟩;exact⟨b,rv',lv',rr',rfl,hp.wide h2⟩
  ·rw[List.getElem?_set_ne hij] at hj;exact o.se j s (by omega) hj
 ·rcases g.new y hy with e|e
  ·exact Nat.lt_of_lt_of_le (h.lt y e) hf.size
  ·exact e.2
 ·rw[h1 _ (by rw[h.x0];decide)];exact h.x0
end
section
variable{w w' w1 w2:World}{D D' S:Nat->Prop}{B:Bk}{u v rv sv:Value}{O O' O1 O2:Nat->Nat}{e e' e1:E}{ss:List (List Value)}{s:PS}{p q:Pg}{n0:Nat}
structure Stp (O : Nat → Nat) (w : World) (O' : Nat → Nat) (w' : World) : Prop where
 g : Gr O O' (w.heap.size ≤ ·)
 f : Fm (fun y => O y ≠ 99) w w'
theorem Stp.trans(h:Stp O w O1 w1)(k:Stp O1 w1 O2 w2):Stp O w O2 w2:=⟨h.g.trans (k.g.mono (λy e=>Nat.le_trans h.f.size e)),h.f.trans k.f iT (λy hy hne=>(h.g.new y hne).elim id (λe=>absurd hy (by omega)))⟩
theorem Stp.gT(hf:Fm F0 w w'):Stp O w O w':=⟨Gr.refl _ _,hf.mono iE⟩
theorem Stp.of(g:Gr O O' (w.heap.size<=·)){c:Nat}(hc:c≠99)(hf:Fm (λy=>O y=c) w w'):Stp O w O' w':=⟨g,hf.mono (λy _ e=>by rw[e];exact hc)⟩
theorem Stp.loc(h:Stp O w O1 w1){b:Nat}(hf:Fm (·=b) w1 w2)(hb:w.heap.size<=b):Stp O w O1 w2:=⟨h.g,h.f.trans hf iT (λy hy e=>by omega)⟩
theorem Stp.free(h:Stp O w O' w'){y:Nat}(hy:y<w.heap.size)(e:O y=99):O' y=99:=by
 apply Classical.byContradiction;intro c;rcases h.g.new y c with h1|h1
 ·exact h1 e
 ·omega
theorem RP.o0(h:RP w O B e u rv sv ss)(hf:Fm (λy=>O y=99) w w'):RP w' O B e u rv sv ss:=by
 have o:=h.keep hf;refine⟨⟨λ_=>o.sys (by decide),λ_=>o.st (by decide),λ_=>o.lk (by decide),λ_=>o.tx (by decide),λ_=>o.id (by decide),λ_=>o.sp (by decide),λ_=>o.rs (by decide),λi s k hi=>?_,λ_=>o.x (by decide)⟩,λy hy=>Nat.lt_of_lt_of_le (h.lt y hy) hf.size,h.x0,h.sl,h.mo,h.ph,h.uo⟩;have h8:i<8:=by have:=(List.getElem?_eq_some_iff.1 hi).1;rw[h.sl] at this;exact this
 exact o.se i s (by omega) hi
theorem RP.iF(h:RP w O B e u rv sv ss){b:Nat}(hb:O b=99)(hf:Fm (·=b) w w'):RP w' O B e u rv sv ss:=h.o0 (hf.mono (λy _ e=>by rw[e];exact hb))
def Ex(O:Nat->Nat)(w:World)(B:Bk)(e':E)(w':World):Prop:=∃O' u rv sv ss,RP w' O' B e' u rv sv ss/\Stp O w O' w'
theorem Ex.after(h:Ex O1 w1 B e' w')(k:Stp O w O1 w1):Ex O w B e' w':=by obtain⟨O',u,rv,sv,ss,h1,h2⟩:=h;exact⟨O',u,rv,sv,ss,h1,k.trans h2⟩
theorem RP.ex(h:RP w' O' B e u rv sv ss)(k:Stp O w O' w'):Ex O w B e w':=⟨O',u,rv,sv,ss,h,k⟩
theorem RP.c(h:RP w O B e u rv sv ss)(o:Nat)(ho:o<23):w.cell? ⟨B.x,o,none⟩=(hdC B e u)[o]? :=(h.al.x (by decide)).Cw ho
theorem RP.c2(h:RP w O B e u rv sv ss)(o:Nat):w.cell? ⟨B.x,223+o,none⟩=(tlC B e rv sv)[o]? :=(h.al.x (by decide)).A7
theorem RP.sys(h:RP w O B e u rv sv ss):SysAt w (O ·=1) B e.s:=h.al.sys (by decide)
theorem RP.part(h:RP w O B e u rv sv ss){Z:Nat->Prop}{c:Nat}(hc:c≠99/\c≠0)(hZ:∀y,Z y->(O y=c\/O y=99)/\y<w'.heap.size)(hf:Fm (λy=>O y=c) w w'):∃O',(∀y,O y≠99->O' y=O y)/\(∀y,O' y≠99->O y≠99\/Z y)/\(∀y,Z y->O' y=c)/\(∀y,O y=c->O' y=c)/\RX c w' O' B e u rv sv ss/\(∀y,O' y≠99->y<w'.heap.size)/\O' B.x=0:=by
 obtain⟨O',h1,h2,h3⟩:=tag O Z c (λy hy=>(hZ y hy).1);refine⟨O',h1,h3,h2,λy e=>(h1 y (by rw[e];exact hc.1)).trans e,(h.keep hf).wide h1 h.sl,λy hy=>?_,by rw[h1 _ (by rw[h.x0];decide)];exact h.x0⟩;rcases h3 y hy with e|e
 ·exact Nat.lt_of_lt_of_le (h.lt y e) hf.size
 ·exact(hZ y e).2
theorem RP.A2(h:RP w O B e u rv sv ss){s':PS}(hs:SysAt w' D' B s')(hD:∀y,D' y->(O y=1\/w.heap.size<=y)/\y<w'.heap.size)(hf:Fm (λy=>O y=1) w w'):∃O',RP w' O' B { e with s:=s' } u rv sv ss/\Stp O w O' w':=by
 obtain⟨O',h1,h2⟩:=h.oN hs hD hf;refine⟨O',h1,⟨⟨h2.old,λy hy=>?_⟩,hf.mono (λy _ e=>by rw[e];decide)⟩⟩;rcases h2.new y hy with e|e
 ·exact .inl e
 ·exact(hD y e).1.imp (λe=>by rw[e];decide) id
theorem RP.o7(h:RP w O B e u rv sv ss){s':PS}(hs:SysAt w' (O ·=1) B s')(hf:Fm (λy=>O y=1) w w'):RP w' O B { e with s:=s' } u rv sv ss/\Stp O w O w':=by have o:=h.keep hf;refine⟨⟨⟨λ_=>hs,λ_=>o.st (by decide),λ_=>o.lk (by decide),λ_=>o.tx (by decide),λ_=>o.id (by decide),λ_=>o.sp (by decide),λ_=>o.rs (by decide),λi s k hi=>o.se i s (by omega) hi,λ_=>o.x (by decide)⟩,λy hy=>Nat.lt_of_lt_of_le (h.lt y hy) hf.size,h.x0,h.sl,h.mo,h.ph,h.uo⟩,Stp.of (Gr.refl _ _) (by decide) hf⟩
def PgZ(p:Pg)(v:Value)(y:Nat):Prop:=p.items≠[]/\blockOf v=some y
theorem PgN.held(h:PgN w n0 v p):HeldP w (PgZ p v) v p:=λw' hf=>(show PgN w' 0 v p from⟨h.one,h.it.gE hf (λhx g hg e=>e ⟨by simpa using hx,hg⟩),h.small,h.ins,λ_ _ _=>Nat.zero_le _⟩).as
theorem PgN.lt(h:PgN w n0 v p){y:Nat}(hy:PgZ p v y):y<w.heap.size:=h.it.blt (by simpa using hy.1) y hy.2
theorem PgN.j7{S:Nat->Prop}(h:PgN w n0 v p)(hf:Fm S w w')(hS:∀y,PgZ p v y->¬S y):PgN w' n0 v p:=⟨h.one,h.it.gE hf (λhx g hg=>hS g ⟨by simpa using hx,hg⟩),h.small,h.ins,h.fr⟩
theorem PgAs.n(h:PgAs w (pcs p v) p)(hs:M.smP p=true):PgN w 0 v p:=by obtain⟨u,h1,h2,h3⟩:=h.ex;obtain rfl:=iZ h1;have:=(iB hs).2;exact⟨h2,h3,h.small,⟨h.ins.1,h.ins.2.1,h.ins.2.2.1,h.ins.2.2.2.1,h.ins.2.2.2.2.1,by omega⟩,λ_ _ _=>Nat.zero_le _⟩
theorem fQ(h:RP w O B e u rv sv ss):Cl prog 40 [pv B.x] w λo w'=>o=iv e.m/\w'=w:=by refine cU1 func40 ?_;simp only[RU,h.c 2 (by decide),and_self]
theorem dS(h:RP w O B e u rv sv ss){n:Int}(hq:M.fetch e n=some (e',p)):Cl prog 110 [pv B.x,iv n] w λo w'=>∃v,o=.tuple #[.agg (pcs p v),iv 0]/\PgN w' w.heap.size v p/\M.smP p=true/\Fm (λy=>O y=1) w w'/\∃O',RP w' O' B e' u rv sv ss/\Stp O w O' w'/\∀y,PgZ p v y->O' y=99:=by
 unfold M.fetch at hq;obtain⟨_,hg,hq⟩:=bind_some hq;have hg:=ak hg;rcases hX:e.s.fetch n e.pick with⟨s',p1,er⟩;rw[hX] at hg hq;simp only[Bool.and_eq_true,decide_eq_true_eq] at hg;obtain⟨rfl,hsm⟩:=hg;cases hq;refine cU2 func110 ?_ (V []) (J [(2,[6,7])]);refine ae ?_;rintro b1 w1 rfl hs1 hw1 hf1;have hd:=(h.aS hf1).aS (Fm.drew F0 w1);have hfd:=Fmf hf1 (Fm.drew F0 w1);have hwd:=(Fm.drew F0 w1).heap hw1 (λe=>e);have hsd:w1.drew.heap.size=w.heap.size+1:=by rw[aL];exact hs1
 refine aJ (λvs w2=>∃b2 v,vs=[pv b2,iv 0]/\w2.heap[b2]?=some (.cells (pcs p1 v) 68)/\PgN w2 w1.drew.heap.size v p1/\Fm (λy=>O y=1) w1.drew w2/\∃O',RP w2 O' B { e with s:=s' } u rv sv ss/\Gr O O' (w1.drew.heap.size<=·)/\∀y,PgZ p1 v y->O' y=99) ?_ ?_
 ·rintro _ w2 ⟨b2,v,rfl,hb2,hN,hf2,O',hR,hG,hz⟩;have h99:O w.heap.size=99:=h.free (Nat.le_refl _);simp only[RU,aa (n:=6) hb2 rfl,show((0:Int) == 60)=false from rfl];refine ao (hf2.heap hwd (by rw[h99];decide)) (λw3 hw3 hs3 hf3=>?_) rfl rfl (List.all_eq_true.2 (bC hN.one));have h9':O' w.heap.size=99:=by
   apply Classical.byContradiction;intro c;rcases hG.new _ c with e|e
   ·exact e h99
   ·omega
  have hF:Fm (λy=>O y=1) w w3:=(hfd.trans hf2 (λ_ _ e=>e.elim) (λ_ _ e=>e)).trans hf3 (λ_ _ e=>e) (λy hy e=>by omega);simp only[RU,aa (n:=6) hw3 rfl];exact⟨v,rfl,(hN.dO hf3 (λy e=>by omega)).base (by omega),hsm,hF,O',hR.iF h9' hf3,Stp.of (hG.mono λy e=>by omega) (by decide) hF,hz⟩
 ·intro kk hkk;refine⟨λw2=>Fm F0 w1.drew w2,Fm.refl _ _,pv B.pb,λw2 hf2=>?_,iv e.pick,λw2 hf2=>?_,?_⟩
  ·simp only[RU,(hd.aS hf2).c 9 (by decide),and_self]
  ·simp only[RU,(hd.aS hf2).c2 1,and_self]
  ·refine two (n:=6) (Y:=λy=>O y=1) (λbase w2 us uu=>∃v,us=pcs p1 v/\uu=iv 0/\PgN w2 base v p1/\∃O',RP w2 O' B { e with s:=s' } u rv sv ss/\Gr O O' (base<=·)/\∀y,PgZ p1 v y->O' y=99) (λw2 hf2=>?_) (λw2 hf2=>hf2) (λy e=>hd.lt y (by rw[e];decide)) ?_ ?_
   ·have hR:=hd.aS hf2;have:=yU hR.sys n e.pick;rw[hX] at this;refine this.mono ?_;rintro _ w3 ⟨v,rfl,hp,⟨D',hs',hD',hu⟩,hf3⟩;have hN:=PgN.y8 hp (Nat.le_trans (iB hsm).2 (by decide));obtain⟨O',h1,h2⟩:=hR.oN hs' hD' hf3;refine⟨_,_,rfl,rfl,List.all_eq_true.2 (bC hN.one),⟨v,rfl,rfl,hN,O',h1,⟨h2.old,λy hy=>?_⟩,λy hy=>?_⟩,hf3⟩
    ·rcases h2.new y hy with e|e
     ·exact .inl e
     ·exact(hD' y e).1.imp (λe=>by rw[e];decide) id
    ·apply Classical.byContradiction;intro c;rcases h2.new y c with e|e
     ·have:=hR.lt y e;have:=hN.fr hy.1 y hy.2;omega
     ·exact hu y (@blo v y v (aZ hN.it) hy.2) e
   ·rintro base w2 w3 us uu hb ⟨v,e1,e2,hN,O',hR,hG,hz⟩ hf3;refine⟨v,e1,e2,hN.dO hf3 (λy e=>e.2),O',hR.o0 (hf3.mono λy _ e=>?_),hG,hz⟩;apply Classical.byContradiction;intro c;rcases hG.new _ c with e'|e'
    ·exact e' (hd.free e.1)
    ·omega
   ·rintro base w3 b us uu hb hb2 hn hw3 ⟨v,rfl,rfl,hN,O',hR,hG,hz⟩ hf3;exact hkk _ _ ⟨b,v,rfl,hw3,hN.base hb,hf3,O',hR,hG.mono λy e=>Nat.le_trans hb e,hz⟩
theorem RP.B9(h:RP w O B e u rv sv ss)(hx:EgB w' B.x (hdC B { e with st:=p } v) ss (tlC B e rv sv))(hf:Fm (·=B.x) w w')(hN:PgN w' n0 v p)(hz:∀y,PgZ p v y->O y=99):∃O',RP w' O' B { e with st:=p } v rv sv ss/\Gr O O' (PgZ p v):=by
 obtain⟨O',h1,h2,h3⟩:=tag O (PgZ p v) 2 (λy hy=>.inr (hz y hy));have hf0:Fm (λy=>O y=0) w w':=hf.mono (λy _ e=>by rw[e];exact h.x0);have o:=(h.keep hf0).wide h1 h.sl;refine⟨O',⟨⟨λ_=>o.sys (by decide),λ_=>hN.held.mono h2,λ_=>o.lk (by decide),λ_=>o.tx (by decide),λ_=>o.id (by decide),λ_=>o.sp (by decide),λ_=>o.rs (by decide),λi s k hi=>o.se i s (by omega) hi,λ_=>hx⟩,λy hy=>?_,by rw[h1 _ (by rw[h.x0];decide)];exact h.x0,h.sl,h.mo,h.ph,hN.one⟩,h1,h3⟩;rcases h3 y hy with e|e
 ·exact Nat.lt_of_lt_of_le (h.lt y e) hf.size
 ·exact hN.lt e
theorem RP.C6(h:RP w O B e u rv sv ss){r:Option Int}(hs:SpAt w' B.sb B.sm r)(hf:Fm (·=B.sm) w w'):RP w' O B { e with room:=r } u rv sv ss/\Fm (λy=>O y=6) w w':=by have ob:=(h.al.sp (by decide)).ob;have hf6:Fm (λy=>O y=6) w w':=hf.mono (λy _ e=>by rw[e];exact ob.2);have o:=h.keep hf6;exact⟨⟨⟨λ_=>o.sys (by decide),λ_=>o.st (by decide),λ_=>o.lk (by decide),λ_=>o.tx (by decide),λ_=>o.id (by decide),λ_=>⟨hs,ob⟩,λ_=>o.rs (by decide),λi s k hi=>o.se i s (by omega) hi,λ_=>o.x (by decide)⟩,λy hy=>Nat.lt_of_lt_of_le (h.lt y hy) hf.size,h.x0,h.sl,h.mo,h.ph,h.uo⟩,hf6⟩
theorem jk(h:RP w O B e u rv sv ss){n:Int}{rm:Option Int}(hN:PgN w n0 v p)(hq:(bif decide (p.kind=2) then(do M.gd (decide (n=2));(M.roomOf p).map some) else some e.room:Option (Option Int))=some rm):Cl prog 143 [pv B.x,iv n,.agg (pcs p v)] w λo w'=>o=.tuple #[]/\RP w' O B { e with room:=rm } u rv sv ss/\Fm (·=B.sm) w w':=by
 refine cU3 func143 ?_;refine ae ?_;rintro b1 w1 rfl hs1 hw1 hf1;have h1:=h.aS hf1;simp only[RU,ab hw1,show(pcs p v)[1]?=some (iv p.kind) from rfl];by_cases hk:p.kind=2
 ·rw[decide_eq_true hk,cond_true] at hq;obtain⟨_,hg,hq⟩:=bind_some hq;obtain rfl:=of_decide_eq_true (ak hg);obtain⟨x,hr,rfl⟩:=Option.map_eq_some_iff.1 hq;have hd:=h1.aS (Fm.drew F0 w1);simp only[RU,show(p.kind == 2)=true from beq_iff_eq.2 hk];refine⟨λw2=>Fm F0 w1.drew w2,Fm.refl _ _,pv B.sb,λw2 hf2=>?_,?_⟩
  ·simp only[RU,(hd.aS hf2).c 19 (by decide),and_self]
  simp only[RU,aa (n:=6) ((Fm.drew F0 w1).heap hw1 id) rfl,true_and];refine(ug (hN.keep (Fmf hf1 (Fm.drew F0 w1))) hk hr).mono ?_;rintro _ w2 ⟨rfl,hf2⟩;refine⟨hf2,?_⟩;have h2:=hd.aS hf2;refine(yP (h2.al.sp (by decide)).st x).mono ?_;rintro _ w3 ⟨hs3,hf3⟩;obtain⟨h3,hf6⟩:=h2.C6 hs3 hf3;exact⟨h3,(Fmf (Fmf hf1 (Fm.drew F0 w1)) hf2).trans hf3 iE iT⟩
 ·rw[decide_eq_false hk,cond_false] at hq;cases hq;simp only[RU,show(p.kind == 2)=false from beq_eq_false_iff_ne.2 hk];exact⟨h1,hf1.mono iE⟩
theorem oL(h:RP w O B e u rv sv ss){n:Int}(hN:PgN w n0 v p)(hz:∀y,PgZ p v y->O y=99)(hq:M.lay e n p=some e'):Cl prog 138 [pv B.x,iv n,.agg (pcs p v)] w λo w'=>o=iv 0/\Fm (λy=>O y=0\/O y=1\/O y=6) w w'/\∃O' u',RP w' O' B e' u' rv sv ss/\Gr O O' (λy=>w.heap.size<=y\/PgZ p v y):=by
 unfold M.lay at hq;obtain⟨_,hg,hq⟩:=bind_some hq;have hg:=of_decide_eq_true (ak hg);obtain⟨rm,hr,hq⟩:=bind_some hq;cases hq;refine cU3 func138 ?_ (V []) (J [(6,[])]);refine ae ?_;rintro b1 w1 rfl hs1 hw1 hf1;have h1:=h.aS hf1;have hd:=h1.aS (Fm.drew F0 w1);have hfd:=Fmf hf1 (Fm.drew F0 w1);have hwd:=(Fm.drew F0 w1).heap hw1 (λe=>e);have h99:O w.heap.size=99:=h.free (Nat.le_refl _);simp only[RU,h1.c 9 (by decide),h1.c2 1,aa (n:=6) hwd rfl,true_and];have hNd:=hN.keep hfd;refine(Du hd.sys (b:=p) (λw2 hf2=>(hNd.j7 hf2 (λy hy e=>by rw[hz y hy] at e;cases e)).as) n e.pick).mono ?_;rintro _ w2 ⟨rfl,⟨D',hs',hD'⟩,hf2⟩;rw[hg];obtain⟨O1,h2,g2⟩:=hd.oN hs' hD' hf2;have hlt:w1.drew.heap.size=w.heap.size+1:=by rw[aL];exact hs1
 have g2':Gr O O1 (w1.drew.heap.size<=·):=⟨g2.old,λy hy=>(g2.new y hy).elim .inl (λe=>(hD' y e).1.imp (λe=>by rw[e];decide) id)⟩;have hw2:=hf2.heap hwd (by rw[h99];decide);have fr1:∀y,y<w1.drew.heap.size->O y=99->O1 y=99:=λy hy e=>by
  apply Classical.byContradiction;intro c;rcases g2'.new y c with e'|e'
  ·exact e' e
  ·omega
 have hN2:=hNd.j7 hf2 (λy hy e=>by rw[hz y hy] at e;cases e);have hz2:∀y,PgZ p v y->O1 y=99:=λy hy=>fr1 y (hNd.lt hy) (hz y hy);simp only[RU,aa (n:=6) hw2 rfl,show((0:Int) != 0)=false from rfl];refine aJ (λvs w3=>∃O2 u2,vs=[]/\RP w3 O2 B { e with s:=(e.s.set n p e.pick).1,st:=bif decide (n=0) then p else e.st } u2 rv sv ss/\Gr O1 O2 (PgZ p v)/\Fm (·=B.x) w2 w3) ?_ ?_
 ·rintro _ w3 ⟨O2,u2,rfl,h3,g3,hf3⟩;have hbx:B.x≠w.heap.size:=λe=>by have:=h.x0;rw[e,h99] at this;cases this
  simp only[RU,aa (n:=6) (hf3.heap hw2 (λe=>hbx e.symm)) rfl];refine(jk h3 (hN2.j7 hf3 (λy hy e=>by have:=hz2 y hy;rw[e,h2.x0] at this;cases this)) hr).mono ?_;rintro _ w4 ⟨rfl,h4,hf4⟩;have f12:Fm (λy=>O y=0\/O y=1\/O y=6) w w3:=(hfd.trans hf2 (λ_ _ e=>e.elim) (λ_ _ e=>e)).trans hf3 (λ_ _ e=>.inr (.inl e)) (λy _ e=>.inl (by rw[e];exact h.x0));exact⟨f12.trans hf4 (λ_ _ e=>e) (λy _ e=>.inr (.inr (by rw[e];exact(h.al.sp (by decide)).ob.2))),O2,u2,h4,λy hy=>(g3.old y (by rw[g2.old y hy];exact hy)).trans (g2.old y hy),λy hy=>(g3.new y hy).elim (λe=>(g2'.new y e).imp id (λe=>.inl (by omega))) (λe=>.inr (.inr e))⟩
 ·intro kk hkk;by_cases hn:n=0
  ·subst hn;simp only[RU,show((0:Int) == 0)=true from rfl,aa (n:=6) hw2 rfl];refine(h2.al.x (by decide)).B8 (o:=10) rfl (by decide) (bC hN.one) λw3 hx hs3 hf3=>?_;obtain⟨O2,h3,g3⟩:=h2.B9 (p:=p) (v:=v) hx hf3 (hN2.j7 hf3 (λy hy e=>by have:=hz2 y hy;rw[e,h2.x0] at this;cases this)) hz2;exact hkk _ _ ⟨O2,v,rfl,h3,g3,hf3⟩
  ·simp only[RU,show(n == 0)=false from beq_eq_false_iff_ne.2 hn];rw[decide_eq_false hn] at hkk;exact hkk _ _ ⟨O1,u,rfl,h2,Gr.refl _ _,Fm.refl _ _⟩
end
theorem Dz{g:FuncId}{a mv:Value}{args:List Value}{w:World}{zs:Array Value}{t:TypeId}{C:World->Prop}{Y:Nat->Prop}{n:Nat}{kk:Value->Value->World->Prop}(S:Nat->World->Array Value->Value->Prop)
  (hm:∀w1,Fm F0 w w1->Cl prog 40 [a] w1 λo w2=>o=mv/\w2=w1)
  (H:∀w1,Fm F0 w w1->Cl prog g (mv::args) w1 λo w2=>∃us u,o=.tuple #[.agg us,u]/\us.size=n/\us.toList.all Value.oneCell'=true/\S w1.heap.size w2 us u/\Fm Y w1 w2)
  (hC:∀w1,Fm F0 w w1->C w1) (hY:∀y,Y y->y<w.heap.size)
  (hS:∀base w2 w3 us u,w.heap.size<=base->S base w2 us u->Fm (λy=>w.heap.size<=y/\y<base) w2 w3->S base w3 us u)
  (K:∀base w3 b us u,w.heap.size<=base->w.heap.size<=b->us.size=n->w3.heap[b]?=some (.cells us t)->S base w3 us u->Fm Y w w3->kk (pv b) u w3) (hz:zs.size=n:=by rfl):
  (Cl prog 40 [a] w λm w0=>C w0/\((Cl prog g (m::args) w0 λv w2=>Pu (bj v 0) λa=>Pu (bj v 1) λc=>New zs t w2 λp w3=>St n w3 p a λ_ w4=>kk p c w4)/\(New zs t w0 λp w1=>C w1/\Cl prog g (m::args) w1 λv w2=>Pu (bj v 0) λa=>Pu (bj v 1) λc=>St n w2 p a λ_ w3=>kk p c w3)/\True)) /\
  (New zs t w λp w1=>C w1/\Cl prog 40 [a] w1 λm w0=>C w0/\Cl prog g (m::args) w0 λv w2=>Pu (bj v 0) λa=>Pu (bj v 1) λc=>St n w2 p a λ_ w3=>kk p c w3)/\True:=by
 have h2:=two S H hC hY hS K hz;refine⟨(hm w (Fm.refl _ _)).mono ?_,?_,trivial⟩
 ·rintro _ _ ⟨rfl,rfl⟩;exact⟨hC _ (Fm.refl _ _),h2⟩
 ·refine ae ?_;rintro b w1 rfl hs1 hw1 hf1;refine⟨hC w1 hf1,(hm w1 hf1).mono ?_⟩;rintro _ _ ⟨rfl,rfl⟩;refine⟨hC _ hf1,(H _ hf1).mono ?_⟩;rintro _ w2 ⟨us,u,rfl,hn,h1,hs,hf⟩;simp only[RU];refine ao (hf.heap hw1 (λe=>by have:=hY _ e;omega)) (λw3 hw3 hs3 hf3=>?_) hn hz h1;exact K _ w3 _ us u (by omega) (Nat.le_refl _) hn hw3 (hS _ _ _ _ _ (by omega) hs (hf3.mono (λy _ e=>by rw[e];omega))) ((hf1.trans hf (λ_ _ e=>e.elim) (λ_ _ e=>e)).trans hf3 (λ_ _ e=>e) (λy hy e=>by omega))
theorem Hn:ElemT prog 312 68 6 72:=bJ underlying312 (by kernel_rfl)
theorem EB(p:Pg)(v:Value)(w:World):(Instr.buildSlice 312 1 #[(0,.agg (pcs p v))]).run prog w=.ok (.slice (some ⟨w.heap.size,0,none⟩) 1 1) (w.alloc (.cells (pcs p v) 68)):=by kernel_rfl
theorem Eo(n:Int)(p:Pg)(v:Value)(w:World):(Instr.build 233 #[(0,iv n),(1,.agg (pcs p v))]).run prog w=.ok (.agg (imC (n,p,v)).toArray) w:=by kernel_rfl
theorem EA(n:Int)(p:Pg)(v:Value)(w:World):(Instr.buildSlice 165 1 #[(0,.agg (imC (n,p,v)).toArray)]).run prog w=.ok (.slice (some ⟨w.heap.size,0,none⟩) 1 1) (w.alloc (.cells (imC (n,p,v)).toArray 233)):=by kernel_rfl
theorem Hm:ElemT prog 165 233 7 80:=bJ underlying165 (by kernel_rfl)
section
variable{w w' w1 w2:World}{B:Bk}{u v rv sv:Value}{O O' O1 O2:Nat->Nat}{e e' e1:E}{ss:List (List Value)}{p q:Pg}{n0 rb:Nat}{r r':Rc}{n:Int}
def Lo(O:Nat->Nat)(rb:Nat)(w:World)(P:World->Prop):Prop:=∀w',Fm (λy=>O y≠99\/y=rb) w w'->P w'
structure Bh (w : World) (O : Nat → Nat) (B : Bk) (e' : E) (u rv sv : Value) (ss : List (List Value)) (rb : Nat) (r' : Rc) (q : Pg) (tv : Value) (w' : World) : Prop where
 ex : ∃ v vi O', RP w' O' B e' u rv sv ss ∧ Gr O O' (w.heap.size ≤ ·) ∧ (∀ y, PgZ q v y → O' y = 99 ∧ y ≠ rb) ∧ PgN w' w.heap.size v q ∧ w'.heap[rb]? = some (.cells (rcs r' nl nl vi nl nl) 168) ∧ vi.oneCell' = true ∧ Lo O' rb w' (fun w2 => ImAs w2 vi r'.imgs) ∧ Lo O' rb w' fun w2 => CellsAt w2 tv 1 6 (pcs q v).toList
 f : Fm (fun y => O y = 1 ∨ y = rb) w w'
theorem qP(h:v.oneCell'=true):∀u∈imC (n,p,v),u.oneCell'=true:=λu hu=>(List.mem_cons.1 hu).elim (λe=>by rw[e];rfl) (λhu=>bC h u hu)
theorem CB(w:World):ImAs w nl []:=⟨[],rfl,CellsAt.aT (World.ownsRow_nil w 0 3 7),λ_ h=>by simp at h⟩
theorem Cg(h:RP w O B e u rv sv ss)(hr:w.heap[rb]?=some (.cells (rcs r nl nl nl nl nl) 168))(hO:O rb=99)(hi:r.imgs=[]){tv:Value}(ht:CellsAt w tv 1 1 [iv n])(htO:∀y,blockOf tv=some y->O y=99/\y≠rb)(hq:M.behind e r n=some (e',r',q)):Cl prog 211 [pv B.x,pv rb,tv] w λo w'=>∃tv',o=.tuple #[tv',iv 0]/\Bh w O B e' u rv sv ss rb r' q tv' w':=by
 unfold M.behind at hq;rw[hi] at hq;obtain⟨⟨e1,p⟩,hfe,hq⟩:=bind_some hq;obtain⟨q1,hdo,hq⟩:=bind_some hq;have hrb:RB w rb r nl nl nl nl nl:=⟨hr⟩;refine cU3 func211 ?_ (V [(10,[8,57]),(5,[39]),(18,[8,83])]) (J [(13,[12]),(29,[8]),(24,[18,19])]);simp only[RU,hrb.c13,show decide ((0:Int)<((0:Nat):Int))=false from rfl,aa (n:=16) hr rfl,ht.lenV];refine aE (us:=rcs r nl nl nl nl nl) (λw1 hs1 hw1 hf1=>?_) rfl rfl rfl;refine⟨λvs w2=>(vs=[nl,iv 0]/\w2=w1)\/∃o,vs=[o,iv 1]/\Bh w O B e' u rv sv ss rb r' q o w2,λvs _=>(1 - nth vs 1).toNat,.inl ⟨rfl,rfl⟩,?_⟩;rintro w2 o t (⟨hvs,rfl⟩|⟨o,hvs,hB⟩)
 ·cases hvs;obtain⟨ad,i1,_,i3⟩:=(ht.keep hf1 (λ_ _ e=>e)).j4 (i:=0) (x:=iv n) rfl .i64;simp only[RU,show decide ((0:Int)<((1:Nat):Int))=true from rfl];refine aJ (λvs w3=>∃o,vs=[o]/\Bh w O B e' u rv sv ss rb r' q o w3) ?_ ?_
  ·rintro _ w3 ⟨o,rfl,hB⟩;simp only[RU,show IntKind.i64.wrap ((0:Int)+1)=1 from rfl];exact⟨.inr ⟨o,rfl,hB⟩,by simp only[cN];decide⟩
  ·intro kk hkk';have i1':ixV 1 tv (iv 0)=_:=i1;simp only[RU,i1',i3];have h1:=h.aS hf1;refine(dS h1 hfe).mono ?_;rintro _ w3 ⟨v,rfl,hN,hsm,hf3,O1,h3,st3,hz3⟩;have hw1':=hf3.heap hw1 (by rw[h.free (Nat.le_refl _)];decide);have hne:∀y,O y=1->y≠rb:=by rintro y e rfl;rw[hO] at e;cases e
   have hr3:=hf3.heap (hf1.heap hr (λe=>e)) (by rw[hO];decide);have hrbl:=aj hr;simp only[RU];refine aE (us:=pcs p v) (λw4 hs4 hw4 hf4=>?_) rfl rfl (List.all_eq_true.2 (bC hN.one));simp only[RU,show((0:Int) != 0)=false from rfl];have fr:∀y,y<w2.heap.size->O y=99->O1 y=99:=λy hy e=>st3.free hy e;rw[M.doRec,hi] at hdo;obtain⟨_,hg,hdo⟩:=bind_some hdo;obtain⟨q2,hde,hdo⟩:=bind_some hdo;have hg:=ak hg;simp only[Bool.and_eq_true,decide_eq_true_eq] at hg;obtain⟨⟨⟨g1,g2⟩,g3⟩,g4⟩:=hg;cases hdo;have hin:In r.lsn:=by unfold M.inL at g4;have:=of_decide_eq_true g4;constructor<;>omega
   have hNd:=(hN.keep hf4).keep (Fm.drew F0 w4);refine aJ (λvs w5=>∃b5 v5,vs=[iv 0,pv b5]/\w5.heap[b5]?=some (.cells (pcs { q2 with lsn:=r.lsn } v5) 68)/\PgN w5 w4.drew.heap.size v5 { q2 with lsn:=r.lsn }/\Fm F0 w4.drew w5) ?_ ?_
   ·rintro _ w5 ⟨b5,v5,rfl,hb5,hN5,hf5⟩;simp only[RU,show((0:Int) != 0)=false from rfl,aa (n:=6) hb5 rfl];refine lO Hn (by decide) 312 rfl (EB _ _ _) (bC hN5.one) (World.ownsRow_nil w5 w5.heap.size 68 6) (by decide) (by decide) (Nat.le_refl _) ?_;intro tv' w6 ho6 _ hf6;have hF:Fm F0 w3 w6:=(Fmf (Fmf hf4 (Fm.drew F0 w4)) hf5).trans hf6 (λ_ _ e=>e) (λy _ e=>by cases e);have h6:=h3.aS hF;have h9:∀y,w3.heap.size<=y->O1 y=99/\y≠rb:=λy hy=>⟨h3.free hy,λe=>by have:=hf1.size;have:=hf3.size;omega⟩;have s5:w3.heap.size<=w4.drew.heap.size:=(Fmf hf4 (Fm.drew F0 w4)).size;have s6:=hf5.size;have hO1:O1 rb=99:=fr rb (by have:=hf1.size;omega) hO;have hr6:=hF.heap hr3 (λe=>e);have hN6:PgN w6 w3.heap.size v5 { q2 with lsn:=r.lsn }:=(hN5.keep (hf6.mono (λy _ e=>by cases e))).base s5;have fin:∀w9 vi r',Fm (·=rb) w6 w9->w9.heap[rb]?=some (.cells (rcs r' nl nl vi nl nl) 168)->vi.oneCell'=true->Lo O1 rb w9 (λw2=>ImAs w2 vi r'.imgs)->Bh w O B e1 u rv sv ss rb r' { q2 with lsn:=r.lsn } tv' w9:=λw9 vi r' hf9 hr9 hvi hL=>by
     refine⟨⟨v5,vi,O1,h6.iF hO1 hf9,st3.g.mono (λy e=>Nat.le_trans hf1.size e),λy hy=>h9 y (hN6.fr hy.1 y hy.2),(hN6.dO hf9 (λy e=>by have:=hf1.size;have:=hf3.size;omega)).base (Nat.le_trans hf1.size hf3.size),hr9,hvi,hL,λwx hx=>?_⟩,?_⟩
     ·refine(CellsAt.aT ho6).keep (hf9.trans hx (λ_ _ e=>.inr e) (λ_ _ e=>e)) (λy hy=>?_);have:=h9 y (Nat.le_trans (Nat.le_trans s5 s6) (fq ho6 hy));rintro(e|e)
      ·exact e this.1
      ·exact this.2 e
     ·exact(((hf1.trans hf3 (λ_ _ e=>e.elim) (λ_ _ e=>.inl e)).trans hF (λ_ _ e=>e) (λ_ _ e=>e.elim))).trans hf9 (λ_ _ e=>e) (λ_ _ e=>.inr e)
    simp only[RU,h6.c 9 (by decide)];refine(AX h6.sys n).mono ?_;rintro _ w6 ⟨rfl,rfl⟩;cases ho:(getD e1.s.p.owed n).isNone
    ·rw[ho] at hq;cases hq;simp only[RU];exact hkk' _ _ ⟨_,rfl,fin _ nl _ (Fm.refl _ _) hr6 rfl (λwx hx=>by show ImAs wx nl r.imgs;rw[hi];exact CB wx)⟩
    ·rw[ho] at hq;cases hq;simp only[RU];have hb6:=(Fm.drew F0 w6).heap (hf6.heap hb5 (λe=>by cases e)) (λe=>e);refine⟨λwx=>Fm F0 w6.drew wx,Fm.refl _ _,nl,λwx hx=>?_,?_⟩
     ·have hrx:RB wx rb r nl nl nl nl nl:=⟨hx.heap ((Fm.drew F0 w6).heap hr6 (λe=>e)) (λe=>e)⟩;simp only[RU,hrx.c13,and_self]
     simp only[RU,aa (n:=6) hb6 rfl];refine ag (Eo _ _ _ _) ⟨rfl,ag (EA _ _ _ _) ⟨Fm.alloc _ _ _,?_⟩⟩;obtain⟨vi,w8,hr8,ho8,hf8,_⟩:=fK (P:=prog) Hm (by decide) (World.ownsRow_nil (w6.drew.alloc (.cells (imC (n,{ q2 with lsn:=r.lsn },v5)).toArray 233)) w6.drew.heap.size 233 7) 165 ⟨w6.drew.heap.size,0,none⟩ 1 1 (imC (n,{ q2 with lsn:=r.lsn },v5)) rfl (λj u hj=>by rw[aC,Nat.zero_add,ab (aA w6.drew _)];simpa using hj) (qP hN5.one) (by decide) (by decide) (by rw[aF];omega);refine ag hr8 ?_;have hf68:Fm F0 w6 w8:=Fm.own (Fmf (Fm.drew F0 w6) (Fm.alloc F0 _ _)) hf8 (λy hy=>Nat.le_trans (Fm.drew F0 w6).size hy);refine au (hf68.heap hr6 (λe=>e)) (j:=13) (show 13<16 by decide) (aB ho8) λw9 hw9 hs9 hf9=>?_;refine hkk' _ _ ⟨_,rfl,fin _ vi _ (hf68.trans hf9 (λ_ _ e=>e.elim) (λ_ _ e=>e)) hw9 (aB ho8) (λwx hx=>?_)⟩;have hk:∀y,w3.heap.size<=y->¬(O1 y≠99\/y=rb):=λy hy e=>e.elim (λe=>e (h9 y hy).1) (λe=>(h9 y hy).2 e);have hx8:Fm (λy=>O1 y≠99\/y=rb) w8 wx:=hf9.trans hx (λ_ _ e=>.inr e) (λ_ _ e=>e);have hx6:Fm (λy=>O1 y≠99\/y=rb) w6 wx:=hf68.trans hx8 (λ_ _ e=>e.elim) (λ_ _ e=>e);exact⟨[(n,{ q2 with lsn:=r.lsn },v5)],rfl,(CellsAt.aT ho8).keep hx8 (λy hy=>hk y (Nat.le_trans (Nat.le_trans hF.size (Fm.drew F0 w6).size) (fq ho8 hy))),λx hx'=>by rw[List.mem_singleton.1 hx'];exact⟨hN6.one,(hN6.j7 hx6 (λy hy=>hk y (hN6.fr hy.1 y hy.2))).as⟩⟩
   ·intro kk hkk;have hd4:=(h3.aS hf4).aS (Fm.drew F0 w4);refine⟨λw5=>Fm F0 w4.drew w5,Fm.refl _ _,.agg (pcs p v),λw5 hf5=>?_,.agg (rcs r nl nl nl nl nl),λw5 hf5=>?_,?_⟩
    ·have:=hf5.heap ((Fm.drew F0 w4).heap hw4 (λe=>e)) (λe=>e);simp only[RU,aa (n:=6) this rfl,and_self]
    ·have:=hf5.heap ((Fm.drew F0 w4).heap (hf4.heap hw1' (λe=>e)) (λe=>e)) (λe=>e);simp only[RU,aa (n:=16) this rfl,and_self]
    ·refine Dz (n:=6) (mv:=iv e1.m) (Y:=F0) (λbase w5 us uu=>∃v5,us=pcs { q2 with lsn:=r.lsn } v5/\uu=iv 0/\PgN w5 base v5 { q2 with lsn:=r.lsn }) (λw5 hf5=>?_) (λw5 hf5=>?_) (λw5 hf5=>hf5) (λy e=>e.elim) ?_ ?_
     ·exact fQ (hd4.aS hf5)
     ·have hi5:ImAs w5 nl r.imgs:=by rw[hi];exact CB w5
      rw[g2];refine(wX (hNd.keep hf5) h3.mo (iB hsm).1 (Nat.le_trans g3 (by decide)) hi5 hi hin g1 hde).mono ?_;rintro _ w6 ⟨v5,rfl,hN5,hf6⟩;exact⟨_,_,rfl,rfl,List.all_eq_true.2 (bC hN5.one),⟨v5,rfl,rfl,hN5⟩,hf6⟩
     ·rintro base w5 w6 us uu hb ⟨v5,e1,e2,hN5⟩ hf6;exact⟨v5,e1,e2,hN5.dO hf6 (λy e=>e.2)⟩
     ·rintro base w6 b6 us uu hb hb2 hn hw6 ⟨v5,rfl,rfl,hN5⟩ hf6;exact hkk _ _ ⟨b6,v5,rfl,hw6,hN5.base hb,hf6⟩
 ·cases hvs;simp only[RU,show decide ((1:Int)<((1:Nat):Int))=false from rfl];exact⟨_,rfl,hB⟩
theorem Ie(g cap:Nat):ixV 7 (.slice (some ⟨g,0,none⟩) 1 cap) (iv 0)=some (pv g):=by rw[show iv 0=.int .i64 ((0:Nat):Int) from rfl,dU (by decide),aC]
theorem zW{x:Int×Pg×Value}(h:CellsAt w v 1 7 (imC x))(hx:x.2.2.oneCell'=true):Cl prog 297 [v] w λo w'=>w'.ownsRow w.heap.size 233 7 o 1 (imC x)/\Fm F0 w w':=by
 refine cU1 func297 ?_;obtain⟨⟨a,c,hv,h1,h2,h3,h4⟩,hl⟩:=id h;cases a with
 | none=>have:=(h3 rfl).1;cases this
 | some ad=>
  subst hv;have e3:ax (TypeDesc.slice 233) .eql (.slice (some ad) 1 c) (.slice none 0 0)=some (.bool false):=by kernel_rfl
  simp only[RU,e3];refine bsl 0 #[] 233 ?_;have ho2:(w.alloc (.cells #[] 233)).ownsRow w.heap.size 233 7 (.slice (some ⟨w.heap.size,0,none⟩) 0 0) 0 []:=da (l:=[]) rfl (Nat.le_refl _) (by decide);have hf2:=Fm.alloc F0 w (.cells #[] 233);generalize w.alloc (.cells #[] 233)=w2 at ho2 hf2;obtain⟨lv,w3,hr3,ho3,hf3⟩:=cD Hm (by omega) ho2 (h.keep hf2 iT) (qP hx) 165 (by decide) (by decide) hf2.size;refine ag hr3 ?_;exact⟨ho3,Fm.own hf2 hf3 (λy hy=>by have:=aO ho2 y hy;omega)⟩
theorem Ch{x:Int×Pg}(h:RP w O B e u rv sv ss){vi us:Value}(hr:w.heap[rb]?=some (.cells (rcs r nl nl vi nl nl) 168))(hO:O rb=99)(hi:r.imgs=[x])(hv:CellsAt w vi 1 7 (imC (x.1,x.2,us)))(hN:PgN w 0 us x.2)(hx0:x.2.items=[]){tv:Value}(ht:CellsAt w tv 1 1 [iv n])(htO:∀y,blockOf tv=some y->O y=99/\y≠rb)(hq:M.behind e r n=some (e',r',q)):Cl prog 211 [pv B.x,pv rb,tv] w λo w'=>∃tv',o=.tuple #[tv',iv 0]/\Bh w O B e' u rv sv ss rb r' q tv' w':=by
 unfold M.behind at hq;rw[hi] at hq;obtain⟨q1,hdo,hq⟩:=Option.map_eq_some_iff.1 hq;cases hq;rw[M.doRec] at hdo;obtain⟨_,hg,hdo⟩:=bind_some hdo;have hg:=ak hg;simp only[Bool.and_eq_true,decide_eq_true_eq] at hg;obtain⟨⟨g1,g2⟩,g4⟩:=hg;cases hdo;subst g1;have hin:In r.lsn:=by unfold M.inL at g4;have:=of_decide_eq_true g4;constructor<;>omega
 have hrb:RB w rb r nl nl vi nl nl:=⟨hr⟩;have hrl:=aj hr;refine cU3 func211 ?_ (V [(10,[8,57]),(5,[39]),(18,[8,83])]) (J [(13,[12]),(29,[8]),(24,[18,19])]);simp only[RU,hrb.c13,hv.lenV,show decide ((0:Int)<((1:Nat):Int))=true from rfl];refine(zW hv hN.one).mono ?_;rintro o w1 ⟨ho,hf1⟩;have hoo:=aB ho;rcases id ho.2 with⟨_,hn⟩|⟨g,cap,cur,rfl,hbg,hgg,hnc,hcm,hcs,htake⟩
 ·cases hn
 refine au (hf1.heap hr (λe=>e)) (j:=13) (show 13<16 by decide) rfl λw2 hw2 hs2 hf2=>?_
 replace hw2:RB w2 rb r nl nl (.slice (some ⟨g,0,none⟩) 1 cap) nl nl:=⟨hw2⟩
 have hgg2:=hf2.heap hgg (by omega);have hF2:Fm (λy=>O y=1\/y=rb) w w2:=hf1.trans hf2 (λ_ _ e=>e.elim) (λ_ _ e=>.inr e);let r1:Rc:={ r with imgs:=[(x.1,{ x.2 with lsn:=r.lsn })] };simp only[RU,hw2.c13,ht.lenV];refine⟨λvs w3=>(vs=[iv 0]/\w3=w2)\/(vs=[iv 1]/\Fm (·=g) w2 w3/\w3.ownsRow w.heap.size 233 7 (.slice (some ⟨g,0,none⟩) 1 cap) 1 (imC (x.1,{ x.2 with lsn:=r.lsn },us))),λvs _=>(1 - nth vs 0).toNat,.inl ⟨rfl,rfl⟩,?_⟩;rintro w3 t (⟨hvs,rfl⟩|⟨hvs,hf3,ho3⟩)
 ·cases hvs;simp only[RU,show decide ((0:Int)<((1:Nat):Int))=true from rfl,hw2.c13,hw2.c0,Ie];have hd:=Fm.drew F0 w3;refine au (hd.heap hgg2 (λe=>e)) (j:=1) (u:=iv r.lsn) (by omega) rfl λw4 hw4 hs4 hf4=>?_;simp only[RU,show IntKind.i64.wrap ((0:Int)+1)=1 from rfl];exact⟨.inr ⟨hd.trans hf4 (λ_ _ e=>e.elim) (λ_ _ e=>e),rfl,.inr ⟨g,cap,_,rfl,hbg,hw4,hnc,hcm,by simp[hcs],by
   rw[Array.toList_setIfInBounds,List.take_set,htake]
   rfl⟩⟩,by simp only[ba];decide⟩
 ·cases hvs;simp only[RU,show decide ((1:Int)<((1:Nat):Int))=false from rfl];have hne:g≠rb:=by omega
  have hw3:RB w3 rb r nl nl (.slice (some ⟨g,0,none⟩) 1 cap) nl nl:=hw2.keep hf3 (λe=>hne e.symm);have hF3:Fm (λy=>O y=1\/y=rb) w w3:=hF2.trans hf3 (λ_ _ e=>e) (λy hy e=>by omega);have h3:RP w3 O B e u rv sv ss:=(((h.aS hf1).iF hO hf2)).iF (h.free hbg) hf3;have ht3:=ht.keep hF3 (λy hy e=>e.elim (λe=>by rw[(htO y hy).1] at e;cases e) (htO y hy).2);have hi3:ImAs w3 (.slice (some ⟨g,0,none⟩) 1 cap) [(x.1,{ x.2 with lsn:=r.lsn })]:=⟨[(x.1,{ x.2 with lsn:=r.lsn },us)],rfl,CellsAt.aT ho3,λz hz=>by rw[List.mem_singleton.1 hz];exact⟨hN.one,((hN.lsn hin).j7 hF3 (λy hy=>absurd hx0 hy.1)).as⟩⟩;have h2s:=(hf1.trans hf2 (λ_ _ e=>e.elim) (λ_ _ e=>e)).size;have hs3:=hF3.size;have h9:∀y,w3.heap.size<=y->O y=99/\y≠rb:=λy hy=>⟨h.free (by omega),by omega⟩;refine⟨λvs w4=>(vs=[nl,iv 0]/\w4=w3)\/∃o,vs=[o,iv 1]/\Bh w O B e u rv sv ss rb r1 { x.2 with lsn:=r.lsn } o w4,λvs _=>(1 - nth vs 1).toNat,.inl ⟨rfl,rfl⟩,?_⟩;rintro w4 o t (⟨hvs,rfl⟩|⟨o,hvs,hB⟩)
  ·cases hvs;obtain⟨ad,i1,_,i3⟩:=ht3.j4 (i:=0) (x:=iv x.1) rfl .i64;have i1':ixV 1 tv (iv 0)=_:=i1;simp only[RU,show decide ((0:Int)<((1:Nat):Int))=true from rfl,i1',i3];have hd:=Fm.drew F0 w4;refine aJ (λvs w5=>∃b5 v5,vs=[pv b5]/\w5.heap[b5]?=some (.cells (pcs { x.2 with lsn:=r.lsn } v5) 68)/\PgN w5 w4.drew.heap.size v5 { x.2 with lsn:=r.lsn }/\Fm F0 w4.drew w5) ?_ ?_
   ·rintro _ w5 ⟨b5,v5,rfl,hb5,hN5,hf5⟩;simp only[RU,aa (n:=6) hb5 rfl];refine lO Hn (by decide) 312 rfl (EB _ _ _) (bC hN5.one) (World.ownsRow_nil w5 w5.heap.size 68 6) (by decide) (by decide) (Nat.le_refl _) ?_;intro tv' w6 ho6 _ hf6;simp only[RU,show IntKind.i64.wrap ((0:Int)+1)=1 from rfl];have hF:Fm F0 w4 w6:=(Fmf hd hf5).trans hf6 (λ_ _ e=>e) (λy _ e=>by cases e);have hN6:PgN w6 w4.heap.size v5 { x.2 with lsn:=r.lsn }:=(hN5.keep (hf6.mono (λy _ e=>by cases e))).base hd.size;have hi6:=hi3.keep hF;refine⟨.inr ⟨_,rfl,⟨v5,.slice (some ⟨g,0,none⟩) 1 cap,O,h3.aS hF,Gr.refl _ _,λy hy=>absurd hx0 hy.1,hN6.base hs3,hF.heap hw3.h (λe=>e),rfl,λwx hx=>?_,λwx hx=>?_⟩,hF3.trans hF (λ_ _ e=>e) (λ_ _ e=>e.elim)⟩,by simp only[cN];decide⟩
    ·have ho6':=(CellsAt.aT ho3).keep (hF.trans hx (λ_ _ e=>e.elim) (λ_ _ e=>e)) (λy hy e=>by cases hy;exact e.elim (λe=>e (h.free hbg)) (λe=>hne e));exact⟨[(x.1,{ x.2 with lsn:=r.lsn },us)],rfl,ho6',λz hz=>by rw[List.mem_singleton.1 hz];exact⟨hN.one,((hN.lsn hin).j7 (hF3.trans (hF.trans hx (λ_ _ e=>e.elim) (λ_ _ e=>e)) (U:=λ_=>True) (λ_ _ _=>trivial) (λ_ _ _=>trivial)) (λy hy=>absurd hx0 hy.1)).as⟩⟩
    ·refine(CellsAt.aT ho6).keep hx (λy hy=>?_);have:=h9 y (Nat.le_trans (Fmf hd hf5).size (fq ho6 hy));rintro(e|e)
     ·exact e this.1
     ·exact this.2 e
   ·intro kk hkk;have hrd:=hd.heap hw3.h (λe=>e);refine⟨λw5=>Fm F0 w4.drew w5,Fm.refl _ _,.agg (pcs pg0 nl),λw5 hf5=>?_,.agg (rcs r nl nl (.slice (some ⟨g,0,none⟩) 1 cap) nl nl),λw5 hf5=>?_,?_⟩
    ·exact bst (pcs pg0 nl) ⟨rfl,rfl⟩
    ·have:=hf5.heap hrd (λe=>e);simp only[RU,aa (n:=16) this rfl,and_self]
    ·refine Dz (n:=6) (mv:=iv e.m) (Y:=F0) (λbase w5 us uu=>∃v5,us=pcs { x.2 with lsn:=r.lsn } v5/\PgN w5 base v5 { x.2 with lsn:=r.lsn }) (λw5 hf5=>?_) (λw5 hf5=>?_) (λw5 hf5=>hf5) (λy e=>e.elim) ?_ ?_
     ·exact fQ ((h3.aS hd).aS hf5)
     ·refine(Bu (r:=r1) (x:=(x.1,{ x.2 with lsn:=r.lsn })) (hi3.keep (Fmf hd hf5)) rfl hin (Nat.le_trans (iB g2).2 (by decide))).mono ?_;rintro _ w6 ⟨v5,rfl,hN5,hf6⟩;exact⟨_,_,rfl,rfl,List.all_eq_true.2 (bC hN5.one),⟨v5,rfl,hN5⟩,hf6⟩
     ·rintro base w5 w6 us uu hb ⟨v5,e1,hN5⟩ hf6;exact⟨v5,e1,hN5.dO hf6 (λy e=>e.2)⟩
     ·rintro base w6 b6 us uu hb hb2 hn hw6 ⟨v5,rfl,hN5⟩ hf6;exact hkk _ _ ⟨b6,v5,rfl,hw6,hN5.base hb,hf6⟩
  ·cases hvs;simp only[RU,show decide ((1:Int)<((1:Nat):Int))=false from rfl];exact⟨_,rfl,hB⟩
end
section
variable{w w' w1 w2:World}{B:Bk}{u v rv sv:Value}{O O' O1 O2:Nat->Nat}{e e' e1:E}{ss:List (List Value)}{p q:Pg}{n0 rb:Nat}{r r':Rc}{n:Int}
theorem ko(h:RP w O B e u rv sv ss){n:Int}(hq:M.reserve e n=some e'):Cl prog 48 [pv B.lb,iv n] w λo w'=>o=iv 0/\RP w' O B e' u rv sv ss/\Fm (λy=>O y=1) w w':=by unfold M.reserve at hq;obtain⟨_,hg,hq⟩:=bind_some hq;cases hq;refine(rN h.sys n).mono ?_;rintro _ w' ⟨rfl,hs,hf⟩;exact⟨by rw[of_decide_eq_true (ak hg)],(h.o7 hs hf).1,hf⟩
theorem kn(h:RP w O B e u rv sv ss){n:Int}(hq:M.release e n=some e'):Cl prog 43 [pv B.lb,iv n] w λo w'=>o=iv 0/\RP w' O B e' u rv sv ss/\Fm (λy=>O y=1) w w':=by unfold M.release at hq;obtain⟨_,hg,hq⟩:=bind_some hq;cases hq;refine(rM h.sys n).mono ?_;rintro _ w' ⟨rfl,hs,hf⟩;exact⟨by rw[of_decide_eq_true (ak hg)],(h.o7 hs hf).1,hf⟩
theorem CX{vi:Value}(hb:M.rcB r=true)(hv:vi.oneCell'=true)(hi:ImAs w vi r.imgs):RcAs w (rcs r nl nl vi nl nl) r:=by unfold M.rcB at hb;simp only[Bool.and_eq_true,List.all_eq_true,decide_eq_true_eq] at hb;obtain⟨⟨⟨h1,h2⟩,h3⟩,h4⟩:=hb;have cn:∀sz:Nat,CellsAt w nl 0 sz []:=λsz=>CellsAt.aT (World.ownsRow_nil w 0 3 sz);refine⟨⟨nl,nl,vi,nl,nl,rfl,⟨rfl,rfl,hv,rfl,rfl⟩,by rw[h3.1];exact cn 1,by rw[h3.2.1];exact cn 1,hi,by rw[h3.2.2.1];exact cn 2,by rw[h3.2.2.2];exact cn 2⟩,λn hn=>?_,⟨h2.1,h2.2.1⟩,by have:=h2.2.2.1;omega,by rw[h3.1,h3.2.1,h3.2.2.1,h3.2.2.2];have:=h2.2.2.2;simp only[List.length_nil];omega,λm hm=>by have:=h4 m hm;omega⟩;have:=h1 n hn;unfold M.inZ at this;have:=of_decide_eq_true this;constructor<;>omega
theorem RP.C8(h:RP w O B e u rv sv ss){T:List (Int×Nat)}{L:List (Int×Tx)}{D:Nat->Prop}(ht:TxAt w' D B.tb B.tm T L)(hD:∀y,D y->(O y=4\/w.heap.size<=y)/\y<w'.heap.size)(hf:Fm (λy=>O y=4) w w'):∃O',RP w' O' B { e with txns:=L } u rv sv ss/\Stp O w O' w'/\∀y,O' y≠99->O y≠99\/D y:=by obtain⟨O',h1,h3,h2,_,o,hl,hx⟩:=h.part (Z:=D) (c:=4) (by decide) (λy hy=>⟨(hD y hy).1.imp id h.free,(hD y hy).2⟩) hf;refine⟨O',⟨⟨λ_=>o.sys (by decide),λ_=>o.st (by decide),λ_=>o.lk (by decide),λ_=>⟨T,ht.wide h2⟩,λ_=>o.id (by decide),λ_=>o.sp (by decide),λ_=>o.rs (by decide),λi s k hi=>o.se i s (by omega) hi,λ_=>o.x (by decide)⟩,hl,hx,h.sl,h.mo,h.ph,h.uo⟩,⟨⟨h1,λy hy=>(h3 y hy).elim .inl (λe=>(hD y e).1.imp (λe=>by rw[e];decide) id)⟩,hf.mono (λy _ e=>by rw[e];decide)⟩,h3⟩
theorem RP.B0(h:RP w O B e u rv sv ss){T:List (Int×Nat)}{L:List (Int×Tx)}(ht:TxAt w' (O ·=4) B.tb B.tm T L)(hf:Fm (λy=>O y=4) w w'):RP w' O B { e with txns:=L } u rv sv ss:=by have o:=h.keep hf;exact⟨⟨λ_=>o.sys (by decide),λ_=>o.st (by decide),λ_=>o.lk (by decide),λ_=>⟨T,ht⟩,λ_=>o.id (by decide),λ_=>o.sp (by decide),λ_=>o.rs (by decide),λi s k hi=>o.se i s (by omega) hi,λ_=>o.x (by decide)⟩,λy hy=>Nat.lt_of_lt_of_le (h.lt y hy) hf.size,h.x0,h.sl,h.mo,h.ph,h.uo⟩
def RIn(w:World)(O:Nat->Nat)(r:Rc)(vi:Value):Prop:=(r.imgs=[]/\vi=nl)\/∃x us,r.imgs=[x]/\CellsAt w vi 1 7 (imC (x.1,x.2,us))/\PgN w 0 us x.2/\x.2.items=[]/\∀y,blockOf vi=some y->O y=99
theorem gdP{c b:Bool}{w:World}{K:Value->World->Prop}:GdG c (λk'=>k' (.bool b) w) w (λ_ v w1=>Pu (aD (.bool c) v (.bool false)) λx=>K x w1)=K (.bool (c&&b)) w:=by
 cases c
 ·rw[jO];simp only[RU,Bool.false_and]
 ·rw[bP];simp only[RU,Bool.true_and]
theorem gdE{c:Bool}{X:KV->Prop}{w:World}{K:Value->World->Prop}(A:World->Prop)(h1:c=true->∀k:KV,(∀w',A w'->k (.bool false) w')->X k)(h0:c=false->A w)(hk:∀w',A w'->K (.bool false) w'):GdG c X w (λ_ v w1=>Pu (aD (.bool c) v (.bool false)) λx=>K x w1):=by
 cases c
 ·rw[jO];simp only[RU];exact hk _ (h0 rfl)
 ·rw[bP];refine h1 rfl _ λw' hw=>?_;simp only[RU];exact hk _ hw
theorem BS(h:M.touch r=some n):Tch r n:=by
 have hd:∀{k:Int},M.dkB k=true->DkT k:=λ{k} h=>(of_decide_eq_true h:k=1\/k=2\/k=3\/k=6\/k=7\/k=8);unfold M.touch at h;split at h
 ·rename_i hi;obtain⟨_,hg,h⟩:=bind_some h;cases h;exact .inl ⟨hi,hd (ak hg),rfl⟩
 ·rename_i x hi;obtain⟨_,hg,h⟩:=bind_some h;cases h;have hg:=ak hg;simp only[Bool.or_eq_true,Bool.and_eq_true,decide_eq_true_eq] at hg;exact .inr ⟨x,hi,rfl,hg.imp id (λe=>⟨hd e.1,e.2⟩)⟩
 ·cases h
theorem lD(h:RP w O B e u rv sv ss){i free:Int}{vi:Value}(hR:RIn w O r vi)(hq:M.wr e i r free=some e'):Cl prog 118 [pv B.x,iv i,.agg (rcs r nl nl vi nl nl),iv free] w λo w'=>o=iv 0/\∃O' u',RP w' O' B e' u' rv sv ss/\Stp O w O' w':=by
 unfold M.wr at hq;obtain⟨t,ht,hq⟩:=bind_some hq;obtain⟨n,hn,hq⟩:=bind_some hq;obtain⟨⟨e1,r1,q⟩,hbh,hq⟩:=bind_some hq;obtain⟨_,hg,hq⟩:=bind_some hq;obtain⟨e2,hres,hq⟩:=bind_some hq;obtain⟨e3,hrel,hq⟩:=bind_some hq;obtain⟨_,hap,hq⟩:=bind_some hq;obtain⟨tx,htx,hlay⟩:=bind_some hq;obtain⟨T,hT⟩:=h.al.tx (by decide);refine cU4 func118 ?_ (V [(24,[119])]) (J [(5,[]),(20,[]),(23,[])]);refine ae ?_;rintro b1 w1 rfl hs1 hw1 hf1;have h1:=h.aS hf1;simp only[RU,h1.c 17 (by decide)];refine(lz (hT.keep hf1 (λ_ _ e=>e)) ht).mono ?_;rintro _ w2 ⟨a,rfl,_,ha,_,hf2⟩;simp only[RU];refine aE (us:=#[iv t.next,a,iv t.xid,iv t.first,iv t.last,iv t.undoes]) (λw3 hs3 hw3 hf3=>?_) rfl rfl (by simp[ha];exact⟨rfl,rfl,rfl,rfl,rfl⟩);have hf13:=Fmf hf2 hf3;have hF3:=Fmf hf1 hf13;have h3:=h.aS hF3;have hw1:RB w3 w.heap.size r nl nl vi nl nl:=⟨hf13.heap hw1 (λe=>e)⟩;have ct:=λo=>ab (off:=o) hw3;simp only[RU,hw1.c4];have hx:(r.xid == t.xid)=decide (t.xid=r.xid):=(show(r.xid == t.xid)=decide (r.xid=t.xid) from rfl).trans (decide_eq_decide.2 ⟨Eq.symm,Eq.symm⟩);simp only[RU,ct,gdP,hx];generalize hop:(decide (0<r.xid)&&decide (t.xid=r.xid))=op at hn htx hbh ⊢;refine aJ (λvs w4=>vs=[]/\RB w4 w.heap.size { r with prev:=bif op then t.last else r.prev } nl nl vi nl nl/\Fm (·=w.heap.size) w3 w4) ?_ ?_
 ·rintro _ w4 ⟨rfl,hw4,hf4⟩;have h99:O w.heap.size=99:=h.free (Nat.le_refl _);have h4:=h3.iF h99 hf4;simp only[RU,h4.c 8 (by decide)];refine(nU h4.sys).mono ?_;rintro _ w5 ⟨rfl,hf5⟩;refine au (hf5.heap hw4.h (λe=>e)) (j:=0) (show 0<16 by decide) rfl λw6 hw6 hs6 hf6=>?_
  replace hw6:w6.heap[w.heap.size]?=some (.cells (rcs { r with prev:=bif op then t.last else r.prev,lsn:=(e.s.l.tail:Int) } nl nl vi nl nl) 168):=hw6
  have h6:=(h4.aS hf5).iF h99 hf6;have hF6:Fm F0 w w6:=Fm.own (Fmf (Fm.own hF3 hf4 (λy e=>by omega)) hf5) hf6 (λy e=>by omega);generalize hrA:({ r with prev:=bif op then t.last else r.prev,lsn:=(e.s.l.tail:Int) }:Rc)=rA at hn hbh hw6;have himg:rA.imgs=r.imgs:=by rw[<- hrA]
  have hi6:ImAs w6 vi rA.imgs:=by
   rw[himg];rcases hR with⟨e,rfl⟩|⟨x,us,e,k1,k2,k3,k4⟩
   ·rw[e];exact CB _
   ·rw[e];exact⟨[(x.1,x.2,us)],rfl,k1.keep hF6 (λ_ _ e=>e),λz hz=>by rw[List.mem_singleton.1 hz];exact⟨k2.one,(k2.keep hF6).as⟩⟩
  simp only[RU,aa (n:=16) hw6 rfl];refine(mO hi6 (BS hn)).mono ?_;rintro tv w7 ⟨htv,hf7⟩;have h7:=h6.aS hf7;have hF7:=Fmf hF6 hf7;have hw7:=hf7.heap hw6 (λe=>e);have hrb6:=aj hw6;have htO:∀y,blockOf tv=some y->O y=99/\y≠w.heap.size:=λy hy=>by have:=kO htv hy;have:=hF6.size;exact⟨h.free (by omega),by omega⟩
  have hB:Cl prog 211 [pv B.x,pv w.heap.size,tv] w7 λo w'=>∃tv',o=.tuple #[tv',iv 0]/\Bh w7 O B e1 u rv sv ss w.heap.size r1 q tv' w':=by
   rcases hR with⟨e,rfl⟩|⟨x,us,e,k1,k2,k3,k4⟩
   ·exact Cg h7 hw7 h99 (himg.trans e) (CellsAt.aT htv) htO hbh
   ·exact Ch h7 hw7 h99 (himg.trans e) (k1.keep hF7 (λ_ _ e=>e)) (k2.keep hF7) k3 (CellsAt.aT htv) htO hbh
  refine hB.mono ?_;rintro _ w8 ⟨tv',rfl,⟨v,vi',O1,h8,g8,hz8,hN8,hr8,hvi,hI,hC⟩,hf8⟩;have s8:Stp O w O1 w8:=⟨g8.mono (λy e=>Nat.le_trans hF7.size e),hF7.trans hf8 (λ_ _ e=>e.elim) (λy hy e=>e.elim (λe=>by rw[e];decide) (λe=>by omega))⟩;have h98:O1 w.heap.size=99:=by
   apply Classical.byContradiction;intro c;rcases g8.new _ c with e|e
   ·exact e h99
   ·have:=hf7.size;omega
  have hg:=ak hg;simp only[Bool.and_eq_true,decide_eq_true_eq] at hg;simp only[RU,h8.c 8 (by decide),show((0:Int) != 0)=false from rfl];refine(nU h8.sys).mono ?_;rintro _ w9 ⟨rfl,hf9⟩;refine au (hf9.heap hr8 (λe=>e)) (j:=0) (show 0<16 by decide) rfl λwa hwa hsa hfa=>?_;rw[hg.1] at hwa
  replace hwa:wa.heap[w.heap.size]?=some (.cells (rcs r1 nl nl vi' nl nl) 168):=hwa
  have ha:=(h8.aS hf9).iF h98 hfa;simp only[RU,aa (n:=16) hwa rfl];refine undoes_spec.mono ?_;rintro _ wb ⟨rfl,hfb⟩;have hb:=ha.aS hfb;have hwb:=hfb.heap hwa (λe=>e);have sb:Stp O w O1 wb:=((s8.trans (Stp.gT hf9)).loc hfa (Nat.le_refl _)).trans (Stp.gT hfb);have Fb:Fm (λy=>O1 y≠99\/y=w.heap.size) w8 wb:=(hf9.trans hfa (λ_ _ e=>e.elim) (λ_ _ e=>.inr e)).trans hfb (λ_ _ e=>e) (λ_ _ e=>e.elim);rw[show isB true (Value.bool (M.undoes r1))=M.undoes r1 by cases M.undoes r1<;>simp only[RU]];refine gdE (λwc=>RP wc O1 B e2 u rv sv ss/\Fm (λy=>O1 y=1) wb wc) ?_ ?_ ?_
  ·intro hu k hk;rw[hu,cond_true] at hres;simp only[RU,hb.c 8 (by decide)];refine(ko hb hres).mono ?_;rintro _ wc ⟨rfl,hc,hfc⟩;simp only[RU,show((0:Int) != 0)=false from rfl];exact hk _ ⟨hc,hfc⟩
  ·intro hu;rw[hu,cond_false] at hres;cases hres;exact⟨hb,Fm.refl _ _⟩
  rintro wc ⟨hc,hfc⟩;simp only[RU,hc.c 8 (by decide)];refine(kn hc hrel).mono ?_;rintro _ wd ⟨rfl,hd,hfd⟩;have hfD:=Fm.drew F0 wd;have hwd:=hfD.heap (hfd.heap (hfc.heap hwb (by rw[h98];decide)) (by rw[h98];decide)) (λe=>e);have hdd:=hd.aS hfD;simp only[RU,hd.c 8 (by decide),aa (n:=16) hwd rfl];have Fd:Fm (λy=>O1 y≠99\/y=w.heap.size) w8 wd.drew:=((Fb.trans hfc (λ_ _ e=>e) (λy _ e=>.inl (by rw[e];decide))).trans hfd (λ_ _ e=>e) (λy _ e=>.inl (by rw[e];decide))).trans hfD (λ_ _ e=>e) (λ_ _ e=>e.elim);have sd:Stp O w O1 wd.drew:=((sb.trans (Stp.of (Gr.refl _ _) (by decide) hfc)).trans (Stp.of (Gr.refl _ _) (by decide) hfd)).trans (Stp.gT hfD);refine(uW hdd.sys (λwx hx=>CX hg.2 hvi (hI wx (Fd.trans hx (λ_ _ e=>e) (λy _ e=>.inl (by rw[e];decide)))))).mono ?_;rintro _ we ⟨rfl,⟨D',hs',hD'⟩,hfe⟩;obtain⟨O2,he,se⟩:=hdd.A2 hs' hD' hfe;have Fe:Fm (λy=>O1 y≠99\/y=w.heap.size) w8 we:=Fd.trans hfe (λ_ _ e=>e) (λy _ e=>.inl (by rw[e];decide));rw[of_decide_eq_true (ak hap)];have sE:=sd.trans se;simp only[RU,show((0:Int) != 0)=false from rfl];refine aJ (λvs wf=>vs=[]/\RP wf O2 B { M.lg e3 (e3.s.l.append r1).1 with txns:=tx } u rv sv ss/\Fm (λy=>O2 y=4) we wf) ?_ ?_
  ·rintro _ wf ⟨rfl,hF,hff⟩;have Ff:Fm (λy=>O1 y≠99\/y=w.heap.size) w8 wf:=Fe.trans hff (λ_ _ e=>e) (λy hy e=>by
    rcases se.g.new y (by rw[e];decide) with e'|e'
    ·exact .inl e'
    ·have:=Fd.size;omega)
   have sF:Stp O w O2 wf:=sE.trans (Stp.of (Gr.refl _ _) (by decide) hff);have htf:CellsAt wf tv 1 1 [iv n]:=by
    refine((CellsAt.aT htv).keep hf8 (λy hy e=>?_)).keep Ff (λy hy e=>?_)
    ·rcases e with e|e
     ·rw[(htO y hy).1] at e;cases e
     ·exact(htO y hy).2 e
    ·rcases e with e|e
     ·have h1:=(CellsAt.aT htv).blt (by simp) y hy;exact e (by
       apply Classical.byContradiction;intro c;rcases g8.new y c with e|e
       ·exact e (htO y hy).1
       ·omega)
     ·exact(htO y hy).2 e
   have hcf:=hC wf Ff;have hNf:=hN8.j7 Ff (λy hy e=>e.elim (λe=>e (hz8 y hy).1) (hz8 y hy).2);simp only[RU,htf.lenV];refine⟨λvs wx=>(vs=[iv 0]/\wx=wf)\/(vs=[iv 1]/\∃O' u',RP wx O' B e' u' rv sv ss/\Stp O w O' wx),λvs _=>(1 - nth vs 0).toNat,.inl ⟨rfl,rfl⟩,?_⟩;rintro wx t (⟨hvs,rfl⟩|⟨hvs,hX⟩)
   ·cases hvs;obtain⟨ad,i1,_,i3⟩:=htf.j4 (i:=0) (x:=iv n) rfl .i64;have i1':ixV 1 tv (iv 0)=_:=i1;obtain⟨ad2,j1,_,j3⟩:=hcf.at (by decide) (i:=0) (by decide) .i64;have j1':ixV 6 tv' (iv 0)=_:=j1;simp only[RU,show decide ((0:Int)<((1:Nat):Int))=true from rfl,i1',i3,j1'];have hcv:aM wx ad2 6=some (.agg (pcs q v)):=aN (l:=(pcs q v).toList) rfl (λj hj=>by rw[j3 j hj,Nat.zero_mul,Nat.zero_add]);simp only[RU,hcv];refine(oL hF hNf (λy hy=>?_) hlay).mono ?_
    ·apply Classical.byContradiction;intro c;rcases se.g.new y c with e|e
     ·exact e (hz8 y hy).1
     ·have:=hN8.lt hy;have:=Fd.size;omega
    rintro _ wy ⟨rfl,hfy,O3,u3,hy,gy⟩;simp only[RU,show((0:Int) != 0)=false from rfl,show IntKind.i64.wrap ((0:Int)+1)=1 from rfl];refine⟨.inr ⟨O3,u3,hy,⟨⟨λy hy=>(gy.old y (by rw[sF.g.old y hy];exact hy)).trans (sF.g.old y hy),λy hy=>?_⟩,sF.f.trans hfy (λ_ _ e=>e) (λy hy e=>?_)⟩⟩,by simp only[ba];decide⟩
    ·rcases gy.new y hy with e|e|e
     ·exact sF.g.new y e
     ·exact .inr (Nat.le_trans sF.f.size e)
     ·exact .inr (Nat.le_trans hF7.size (hN8.fr e.1 y e.2))
    ·have hne:O2 y≠99:=by rcases e with e|e|e<;>(rw[e];decide)
     exact(sF.g.new y hne).elim id (λe=>by omega)
   ·cases hvs;simp only[RU,show decide ((1:Int)<((1:Nat):Int))=false from rfl];exact hX
  ·intro kk hkk;cases op
   ·rw[cond_false] at htx;cases htx;simp only[RU];exact hkk _ _ ⟨rfl,he,Fm.refl _ _⟩
   ·rw[cond_true] at htx;simp only[RU,he.c 17 (by decide)];obtain⟨T',hT'⟩:=he.al.tx (by decide);refine(qU hT' htx).mono ?_;rintro _ wf ⟨rfl,hTf,hff⟩;exact hkk _ _ ⟨rfl,he.B0 hTf hff,hff⟩
 ·intro kk hkk;cases op
  ·simp only[RU];exact hkk _ _ ⟨rfl,hw1,Fm.refl _ _⟩
  ·simp only[RU,ct];refine au hw1.h (j:=1) (show 1<16 by decide) rfl λw4 hw4 hs4 hf4=>?_;exact hkk _ _ ⟨rfl,⟨hw4⟩,hf4⟩
end
section
variable{w w' w1 w2:World}{B:Bk}{u v rv sv:Value}{O O' O1 O2:Nat->Nat}{e e' e1:E}{ss:List (List Value)}{p q:Pg}{n0 rb i:Nat}{r r':Rc}{n:Int}
theorem RP.C7(h:RP w O B e u rv sv ss):aM w ⟨B.x,10,none⟩ 6=some (.agg (pcs e.st u)):=
 aN (l:=(pcs e.st u).toList) rfl λj hj=>by
  rw[aC,h.c _ (by omega)]
  match j,hj with
  | 0,_=>rfl
  | 1,_=>rfl
  | 2,_=>rfl
  | 3,_=>rfl
  | 4,_=>rfl
  | 5,_=>rfl
theorem TxAt.len{D:Nat->Prop}{b bm:Nat}{T:List (Int×Nat)}{L:List (Int×Tx)}(h:TxAt w D b bm T L)(hl:M.fewT L=true):T.length<=12/\(M.xids L).Nodup:=by unfold M.fewT at hl;simp only[Bool.and_eq_true,decide_eq_true_eq] at hl;have:=congrArg List.length h.keys;rw[List.length_map,List.length_map] at this;exact⟨by omega,hl.2⟩
theorem Gy(m x o:Int)(p:Pg){a rr u:Value}(ha:∃b n c,a=.slice b n c)(hr:∃b n c,rr=.slice b n c)(hu:∃b n c,u=.slice b n c)(w:World):(Instr.build 200 #[(0,iv m),(1,.agg #[iv x,a]),(2,iv o),(3,rr),(4,.agg (pcs p u))]).run prog w=.ok (.agg #[iv m,iv x,a,iv o,rr,iv p.lsn,iv p.kind,iv p.level,iv p.right,stv p.high,u]) w:=by obtain⟨_,_,_,rfl⟩:=ha;obtain⟨_,_,_,rfl⟩:=hr;obtain⟨_,_,_,rfl⟩:=hu;kernel_rfl
theorem zh(h:RP w O B e u rv sv ss){i:Int}{V:M.Vw}(hq:M.view e i=some V):Cl prog 111 [pv B.x,iv i] w λo w'=>∃a rr,o=.agg (vwC V a rr u)/\VwN w' 0 V a rr u/\V.st=e.st/\(∀y,blockOf a=some y\/blockOf rr=some y->w.heap.size<=y)/\Fm F0 w w':=by
 unfold M.view at hq;obtain⟨_,hg,hq⟩:=bind_some hq;obtain⟨t,ht,hq⟩:=bind_some hq;cases hq;have hg:=ak hg;simp only[Bool.and_eq_true] at hg;obtain⟨T,hT⟩:=h.al.tx (by decide);have hlen:=(hT.len hg.1).1;refine cU2 func111 ?_;refine ae ?_;rintro b1 w1 rfl hs1 hw1 hf1;have h1:=h.aS hf1;simp only[RU,h1.c 17 (by decide)];refine(lz (hT.keep hf1 iT) ht).mono ?_;rintro _ w2 ⟨a,rfl,hin,ha,hab,hf2⟩;simp only[RU];refine aE (us:=#[iv t.next,a,iv t.xid,iv t.first,iv t.last,iv t.undoes]) (λw3 hs3 hw3 hf3=>?_) rfl rfl (by simp[ha];exact⟨rfl,rfl,rfl,rfl,rfl⟩);have hF3:=Fmf hf1 (Fmf hf2 hf3);have hd3:=Fm.drew F0 w3;have hk:∀wx,Fm F0 w3.drew wx->RP wx O B e u rv sv ss/\wx.heap[w2.heap.size]?=some (.cells #[iv t.next,a,iv t.xid,iv t.first,iv t.last,iv t.undoes] 107):=λwx hx=>⟨h.aS (Fmf (Fmf hF3 hd3) hx),hx.heap (hd3.heap hw3 id) id⟩;refine⟨λwx=>Fm F0 w3.drew wx,Fm.refl _ _,?_⟩;have hu:∃b n c,u=.slice b n c:=by obtain⟨v',e1,_,hc⟩:=(h.al.st (by decide)).now.ex;rw[iZ e1];exact aZ hc
 have hsa:∃b n c,a=.slice b n c:=by obtain⟨A,hA,_⟩:=hin.ex;exact aZ hA
 simp only[RU];refine⟨.agg #[iv t.next,a],λwx hx=>?_,?_⟩
 ·have:=(hk wx hx).2;simp only[RU,show aM wx ⟨w2.heap.size,0,none⟩ 2=some (.agg #[iv t.next,a]) from aN (l:=[iv t.next,a]) rfl (λj hj=>by rw[aC,ab this];match j,hj with|0,_=>rfl|1,_=>rfl),and_self]
 refine⟨iv t.xid,λwx hx=>?_,?_⟩
 ·simp only[RU,ab (hk wx hx).2,and_self]
 refine⟨pv B.tb,λwx hx=>?_,?_⟩
 ·simp only[RU,(hk wx hx).1.c 17 (by decide),and_self]
 refine⟨.agg (pcs e.st u),λwx hx=>?_,?_⟩
 ·simp only[RU,(hk wx hx).1.C7,and_self]
 refine(fQ (hk _ (Fm.refl _ _)).1).mono ?_;rintro _ _ ⟨rfl,rfl⟩;have hTd:=hT.keep (Fmf hF3 hd3) iT;refine⟨Fm.refl _ _,(fB hTd hlen).mono ?_⟩;rintro rr w5 ⟨A,hA,hA12,hrr,hf5⟩;refine⟨hf5,?_⟩;refine ag (Gy _ _ _ _ hsa (aZ (CellsAt.aT hrr)) hu w5) ⟨rfl,?_⟩;have hF5:=Fmf (Fmf hF3 hd3) hf5;refine ao ((Fmf (Fmf (Fmf hf2 hf3) hd3) hf5).heap hw1 id) (λw6 hw6 hs6 hf6=>?_) rfl rfl (by simp[ha,h.uo,aB hrr];exact⟨rfl,rfl,rfl,rfl,rfl,rfl,rfl,rfl⟩);simp only[RU,aa (n:=11) hw6 rfl];have hF6:Fm F0 w w6:=Fm.own hF5 hf6 (λy e=>by omega);have s3:=(Fmf hF3 hd3).size;refine⟨a,rr,rfl,⟨(hin.keep (Fmf (Fmf hf3 hd3) hf5)).j5 hf6 (λy hy e=>?_),?_,((h.al.st (by decide)).keep hF6 iT).now.n hg.2,h.mo,xu (iB hg.2).1⟩,λy hy=>?_,hF6⟩
 ·have:=(hab y hy).1;omega
 ·refine(jE hrr (by omega) (yD hA)).j5 hf6 (λy hy e=>?_);have:=kO hrr hy;have:=(Fmf hf2 (Fmf hf3 hd3)).size;omega
 ·rcases hy with hy|hy
  ·have:=(hab y hy).1;omega
  ·exact Nat.le_trans s3 (kO hrr hy)
abbrev sp(B:Bk)(i:Nat):Value:=.pointer (some ⟨B.x,23+i*25,none⟩)
theorem RP.cW(h:RP w O B e u rv sv ss){s:Seat}(hi:e.seats[i]?=some s):i<8/\∃rr pl,ss[i]?=some (seC i s rr pl)/\CellsAt w rr s.rep.rows.length 2 (s.rep.rows.flatMap rowL)/\(∀y,blockOf rr=some y->O y=10+i)/\PlV w (O ·=10+i) s.plan pl/\∀j,j<25->w.cell? ⟨B.x,23+i*25+j,none⟩=(seC i s rr pl)[j]? := by
 have h8:i<8:=by have:=(List.getElem?_eq_some_iff.1 hi).1;rw[h.sl] at this;exact this
 obtain⟨cs,h1,h2⟩:=h.al.se i s (by omega) hi;obtain⟨rr,pl,rfl,k1,k2,k3⟩:=h2.ex;exact⟨h8,rr,pl,h1,k1,k2,k3,λj hj=>(h.al.x (by decide)).cs h1 hj⟩
theorem RP.eQ(h:RP w O B e u rv sv ss)(hi:i<8):e.seats[i]?=some (M.seatAt e i):=by unfold M.seatAt;rw[List.getD_eq_getElem?_getD,List.getElem?_eq_getElem (by rw[h.sl];exact hi)];rfl
theorem RP.tO(h:RP w O B e u rv sv ss){s':Seat}{cs':List Value}{D:Nat->Prop}(hi:i<8)(hx:EgB w' B.x (hdC B e u) (ss.set i cs') (tlC B e rv sv))(hf:Fm (·=B.x) w w')(hs:SeatAt w' D i s' cs')(hD:∀y,D y->(O y=10+i\/O y=99)/\y<w'.heap.size):∃O',RP w' O' B { e with seats:=e.seats.set i s' } u rv sv (ss.set i cs')/\Gr O O' D:=by
 obtain⟨O',h1,h2,h3⟩:=tag O D (10+i) (λy hy=>(hD y hy).1);have o:=(h.keep (c:=0) (hf.mono (λy _ e=>by rw[e];exact h.x0))).wide h1 h.sl;have hl:ss.length=8:=(h.al.x (by decide)).s;refine⟨O',⟨⟨λ_=>o.sys (by decide),λ_=>o.st (by decide),λ_=>o.lk (by decide),λ_=>o.tx (by decide),λ_=>o.id (by decide),λ_=>o.sp (by decide),λ_=>o.rs (by decide),λj s k hj=>?_,λ_=>hx⟩,λy hy=>(h3 y hy).elim (λe=>Nat.lt_of_lt_of_le (h.lt y e) hf.size) (λe=>(hD y e).2),by rw[h1 _ (by rw[h.x0];decide)];exact h.x0,by show(e.seats.set i s').length=8;rw[List.length_set];exact h.sl,h.mo,h.ph,h.uo⟩,h1,h3⟩
 replace hj:(e.seats.set i s')[j]?=some s:=hj
 by_cases hij:i=j
 ·subst hij;rw[List.getElem?_set_self (by rw[h.sl];exact hi)] at hj;cases hj;exact⟨cs',by rw[List.getElem?_set_self (by omega)],hs.wide h2⟩
 ·rw[List.getElem?_set_ne hij] at hj;obtain⟨cs,h1,h2⟩:=o.se j s (by omega) hj;exact⟨cs,by rw[List.getElem?_set_ne hij];exact h1,h2⟩
theorem RP.seat1(h:RP w O B e u rv sv ss){s s':Seat}{j:Nat}{x:Value}{k:KV}(hi:e.seats[i]?=some s)(hj:j<25)(hx1:x.oneCell'=true)(hc:∀rr pl,(seC i s rr pl).set j x=seC i s' rr pl)(hr:s'.rep.rows=s.rep.rows)(hp:s'.plan=s.plan)(hk:∀w' ss',RP w' O B { e with seats:=e.seats.set i s' } u rv sv ss'->Fm (·=B.x) w w'->k undef w'):St 1 w (.pointer (some ⟨B.x,23+i*25+j,none⟩)) x k:=by
 obtain⟨h8,rr,pl,h1,k1,k2,k3,_⟩:=h.cW hi;refine(h.al.x (by decide)).A0 h1 hj hx1 λw' hx hs hf=>?_;rw[hc] at hx;have hne:∀y,O y=10+i->¬y=B.x:=λy e c=>by rw[c,h.x0] at e;omega
 exact hk w' _ (h.oF h8 hx hf ⟨rr,pl,rfl,by rw[hr];exact k1.keep hf (λy e=>hne y (k2 y e)),k2,by rw[hp];exact k3.keep hf hne⟩) hf
theorem HQ(n e:Int)(f:Bool)(v:Bs){rr:Value}(hr:∃b n c,rr=.slice b n c)(w:World):(Instr.build 80 #[(0,iv n),(3,.bool true),(4,.agg #[iv e,.bool f,stv v,rr])]).run prog w=.ok (.agg #[iv n,.int .u8 0,stv [],stv [],stv [],iv 0,.nilFunc,.bool true,iv e,.bool f,stv v,rr,np,iv 0,iv 0,iv 0,nl,iv 0,iv 0,iv 0,nl,nl,nl,iv 0,iv 0]) w:=by obtain⟨_,_,_,rfl⟩:=hr;kernel_rfl
abbrev rpC(r:Rp)(rr:Value):Array Value:=#[iv r.err,.bool r.found,stv r.val,rr]
theorem iz(h:RP w O B e u rv sv ss)(hi:i<8){r:Rp}{rr:Value}(hr:CellsAt w rr r.rows.length 2 (r.rows.flatMap rowL))(hO:∀y,blockOf rr=some y->O y=99/\y<w.heap.size):Cl prog 35 [sp B i,.agg (rpC r rr)] w λo w'=>o=iv 0/\∃O' ss',RP w' O' B (M.say e i r) u rv sv ss'/\Gr O O' (λy=>w.heap.size<=y\/blockOf rr=some y)/\Fm (·=B.x) w w':=by
 refine cU2 func35 ?_;refine ae ?_;rintro b1 w1 rfl hs1 hw1 hf1;have h1:=h.aS hf1;have hd:=Fm.drew F0 w1;obtain⟨h8,rr0,pl0,k0,_,_,_,kc⟩:=h1.cW (h1.eQ hi);have hwd:=hd.heap hw1 (λe=>e);have kc0:=kc 0 (by decide);rw[Nat.add_zero] at kc0;simp only[RU,kc0,aa (n:=4) hwd rfl,true_and];refine ag (HQ _ _ _ _ (aZ hr) _) ⟨rfl,?_⟩;refine((h1.aS hd).al.x (by decide)).BY (j:=0) (n:=25) k0 rfl (by decide) (by have:=gp hr;intro x hx;simp at hx;rcases hx with rfl|rfl|rfl|rfl|rfl|rfl|rfl|rfl|rfl|rfl|rfl|rfl|rfl|rfl|rfl|rfl|rfl|rfl|rfl|rfl|rfl|rfl|rfl|rfl|rfl<;>first|rfl|assumption) λw2 hx hs2 hf2=>?_;have hF:=(Fmf hf1 hd).trans hf2 (λ_ _ e=>e.elim) (λ_ _ e=>e);have hne:∀y,blockOf rr=some y->y≠B.x:=λy hy c=>by have:=(hO y hy).1;rw[c,h.x0] at this;cases this
 have hs':SeatAt w2 (λy=>blockOf rr=some y) i { M.seat0 with told:=true,rep:=r } (seC i { M.seat0 with told:=true,rep:=r } rr np):=⟨rr,np,rfl,hr.keep hF (λy hy c=>hne y hy c),λy hy=>hy,rfl⟩;obtain⟨O',h2,g2⟩:=(h1.aS hd).tO (cs':=seC i { M.seat0 with told:=true,rep:=r } rr np) hi (by
  refine cast (congrArg (λz=>EgB w2 B.x (hdC B e u) (ss.set i z) (tlC B e rv sv)) ?_) hx
  rfl) hf2 hs' (λy hy=>⟨.inr (hO y hy).1,Nat.lt_of_lt_of_le (hO y hy).2 hF.size⟩)
 exact⟨O',_,h2,g2.mono (λy e=>.inr e),hF⟩
theorem xg(h:RP w O B e u rv sv ss)(hi:i<8)(er:Int):Cl prog 30 [sp B i,iv er] w λo w'=>o=iv 0/\∃O' ss',RP w' O' B (M.say e i { M.rp0 with err:=er }) u rv sv ss'/\Gr O O' (w.heap.size<=·)/\Fm (·=B.x) w w':=by refine cU2 func30 ?_;refine bst (rpC { M.rp0 with err:=er } nl) ?_;refine(iz h hi (r:={ M.rp0 with err:=er }) (CellsAt.aT (World.ownsRow_nil w 0 23 2)) (λy hy=>by cases hy)).mono ?_;rintro _ w' ⟨rfl,O',ss',h1,g,hf⟩;exact⟨rfl,O',ss',h1,g.mono (λy e=>e.elim id (λe=>by cases e)),hf⟩
end
section
variable{w w' w1 w2:World}{B:Bk}{u v rv yv:Value}{O O' O1 O2:Nat->Nat}{e e' e1:E}{ss:List (List Value)}{i:Nat}{D:Nat->Prop}{hs:List (Bs×Int)}{ws:List (Int×Bs)}
theorem oS{α β:Type}{l:List (α×β)}(h:(l.map (·.1)).Nodup)(f:α×β->Bool):((l.filter f).map (·.1)).Nodup:=h.sublist (List.filter_sublist.map _)
theorem bn{a b:Bs}(h:str a=str b):a=b:=by have:=congrArg (λx:ByteArray=>x.data.toList) h;simpa[str] using this
theorem RP.A5(h:RP w O B e u rv yv ss)(hl:LkAt w' (O ·=3) B hs ws)(hf:Fm (λy=>O y=3) w w'):RP w' O B { e with holds:=hs,waits:=ws } u rv yv ss:=by have o:=h.keep hf;exact⟨⟨λ_=>o.sys (by decide),λ_=>o.st (by decide),λ_=>hl,λ_=>o.tx (by decide),λ_=>o.id (by decide),λ_=>o.sp (by decide),λ_=>o.rs (by decide),λi s k hi=>o.se i s (by omega) hi,λ_=>o.x (by decide)⟩,λy hy=>Nat.lt_of_lt_of_le (h.lt y hy) hf.size,h.x0,h.sl,h.mo,h.ph,h.uo⟩
theorem sG{α β:Type}[DecidableEq α]{l:List (α×β)}(h:(l.map (·.1)).Nodup)(f:α×β->Bool)(a:α):getD (l.filter f) a=(getD l a).bind λb=>bif f (a,b) then some b else none:=by
 cases hl:getD l a with
 | none=>
  rw[Option.bind_none];cases hg:getD (l.filter f) a with
  | none=>rfl
  | some b=>have:=(getD_some h).2 (List.mem_filter.1 ((getD_some (oS h f)).1 hg)).1;rw[hl] at this;cases this
 | some b=>
  rw[Option.bind_some];have hm:=(getD_some h).1 hl;cases hfb:f (a,b) with
  | true=>exact(getD_some (oS h f)).2 (List.mem_filter.2 ⟨hm,hfb⟩)
  | false=>
   rw[cond_false];cases hg:getD (l.filter f) a with
   | none=>rfl
   | some c=>have hc:=List.mem_filter.1 ((getD_some (oS h f)).1 hg);have:=(getD_some h).2 hc.1;rw[hl] at this;cases this;rw[hfb] at hc;cases hc.2
theorem EO{W:WL}(hn:(W.map (·.1)).Nodup)(h:∀p,getD W p=(getD ws p).map str):W.length<=ws.length:=by
 have:=hn.length_le_of_subset (l₂:=ws.map (·.1)) (λp hp=>by obtain⟨x,hx,rfl⟩:=List.mem_map.1 hp;have h1:=(getD_some hn).2 (show(x.1,x.2)∈W from hx);rw[h] at h1;obtain⟨k,hk,_⟩:=Option.map_eq_some_iff.1 h1;exact List.mem_map.2 ⟨(x.1,k),dF hk,rfl⟩)
 rwa [List.length_map,List.length_map] at this
theorem xH(h:RP w O B e u rv yv ss)(hw:e.waits.length<=100)(who:Int):Cl prog 116 [pv B.kb,iv who] w λo w'=>RP w' O B (M.letGo e who) u rv yv ss/\Fm (λy=>O y=3) w w':=by
 have hlk:=h.al.lk (by decide);obtain⟨H,W,hT,hS,hH,hW⟩:=hlk.ex;have hl:=EO hT.ws.keys hW;refine(pL hT (by omega) who).mono ?_;rintro _ w' ⟨H',W',ls,_,hL,hT',hf⟩;have hf3:Fm (λy=>O y=3) w w':=hf.mono (λy _ e=>by rcases e with e|e<;>(rw[e];first|exact hlk.ob.2.1|exact hlk.ob.2.2));have gH:∀k q,getD H' k=some q↔getD H k=some q/\q≠who:=λk q=>by rw[getD_some hT'.hs.keys,hL.hold,getD_some hT.hs.keys]
 have gW:∀p k,getD W' p=some k↔getD W p=some k/\p≠who/\getD H k≠some who:=λp k=>by rw[getD_some hT'.ws.keys,hL.wait,getD_some hT.ws.keys]
 refine⟨h.A5 ⟨⟨H',W',hT',⟨?_,?_⟩,λk=>?_,λp=>?_⟩,hlk.ob,oS hlk.nh _,oS hlk.nw _⟩ hf3,hf3⟩
 ·obtain⟨f,hf⟩:=hS.rank;refine⟨f,λp q ⟨k,h1,h2⟩=>hf p q ⟨k,((gW p k).1 h1).1,((gH k q).1 h2).1⟩⟩
 ·intro p k hp;obtain⟨h1,h2,h3⟩:=(gW p k).1 hp;obtain⟨q,hq⟩:=Option.isSome_iff_exists.1 (hS.held p k h1);rw[(gH k q).2 ⟨hq,λe=>h3 (by rw[hq,e])⟩];rfl
 ·rw[sG hlk.nh];refine Option.ext λq=>?_;rw[gH,hH];cases getD e.holds k with
  | none=>exact⟨λh=>(by cases h.1),λh=>(by cases h)⟩
  | some b=>
   rw[Option.bind_some];by_cases hb:b=who
   ·rw[decide_eq_true hb];exact⟨λh=>by cases h.1;exact absurd hb h.2,λh=>by cases h⟩
   ·rw[decide_eq_false hb];exact⟨λh=>h.1,λh=>⟨h,by cases h;exact hb⟩⟩
 ·rw[sG hlk.nw];refine Option.ext λq=>?_;rw[gW,hW];cases getD e.waits p with
  | none=>exact⟨λh=>(by cases h.1),λh=>(by cases h)⟩
  | some k=>
   rw[Option.bind_some];by_cases hb:p=who
   ·rw[decide_eq_true hb];exact⟨λh=>absurd hb h.2.1,λh=>by cases h⟩
   ·rw[decide_eq_false hb];by_cases hk:getD e.holds k=some who
    ·rw[decide_eq_true hk];exact⟨λh=>by cases h.1;exact absurd ((hH k).trans hk) h.2.2,λh=>by cases h⟩
    ·rw[decide_eq_false hk];exact⟨λh=>h.1,λh=>⟨h,hb,by cases h;rw[hH];exact hk⟩⟩
theorem fy{H:HL}{W:WL}(hH:∀k,getD H (str k)=getD hs k)(hW:∀p,getD W p=(getD ws p).map str)(who:Int):∀(f:Nat) (a:Int) (b:Bool),M.ringsM hs ws who f a=some b->(b=true↔Chain H W a who)
 | 0,a,b,h=>by cases h
 | f+1,a,b,h=>by
  rw[M.ringsM] at h;by_cases ha:a=who
  ·rw[decide_eq_true ha,cond_true] at h;cases h;subst ha;exact⟨λ_=>.here _,λ_=>rfl⟩
  ·rw[decide_eq_false ha,cond_false] at h;cases hw:getD ws a with
   | none=>
    rw[hw] at h;cases h;refine⟨λe=>(by cases e),λc=>?_⟩;cases c with
    | here=>exact absurd rfl ha
    | step e _=>obtain⟨k,h1,_⟩:=e;rw[hW,hw] at h1;cases h1
   | some k=>
    rw[hw] at h;simp only at h;cases hh:getD hs k with
    | none=>rw[hh] at h;cases h
    | some q=>rw[hh] at h;have he:Edge H W a q:=⟨str k,by rw[hW,hw];rfl,by rw[hH,hh]⟩;rw[fy hH hW who f q b h];exact⟨λc=>.step he c,λc=>c.next he ha⟩
theorem xI(h:RP w O B e u rv yv ss){who:Int}{key:Bs}{r:Nat}(hq:M.tryK e who key=some (e',r)):Cl prog 130 [pv B.kb,iv who,stv key] w λo w'=>o=.tuple #[.bool (r == 0),iv (if r=2 then 181 else 0)]/\RP w' O B e' u rv yv ss/\Fm (λy=>O y=3) w w':=by
 have hlk:=h.al.lk (by decide);obtain⟨H,W,hT,hS,hH,hW⟩:=hlk.ex;refine(Ba hT hS who (str key)).mono ?_;rintro _ w' ⟨H',W',ok,er,rfl,hR,hT',hf⟩;have hf3:Fm (λy=>O y=3) w w':=hf.mono (λy _ e=>by rcases e with e|e<;>(rw[e];first|exact hlk.ob.2.1|exact hlk.ob.2.2));have hS':=hS.try hT.ws.keys hR
 have gW:∀p,getD (cR W who) p=(getD (cR e.waits who) p).map str:=λp=>by
  rw[cU hT.ws.keys,cU hlk.nw];by_cases hp:p=who
  ·rw[if_pos hp,if_pos hp];rfl
  ·rw[if_neg hp,if_neg hp];exact hW p
 have nd:((cR e.waits who).map (·.1)).Nodup:=hlk.nw.sublist ((jB _ _).map _);have inj:∀{a b:Bs},str a=str b↔a=b:=⟨bn,λe=>by rw[e]⟩;have free:getD e.holds key=none\/getD e.holds key=some who->e'={ e with holds:=cO e.holds key who,waits:=cR e.waits who }/\r=0:=λhk=>by
  unfold M.tryK at hq;have:(getD e.holds key).getD who=who:=by rcases hk with hk|hk<;>rw[hk]<;>rfl
  simp only[this,decide_true,cond_true] at hq;cases hq;exact⟨rfl,rfl⟩
 have held:∀q,getD e.holds key=some q->q≠who->∃b,M.ringsM e.holds (cR e.waits who) who 9 q=some b/\(bif b then some ({ e with waits:=cR e.waits who },2) else some ({ e with waits:=cO (cR e.waits who) who key },1))=some (e',r):=λq hk hne=>by unfold M.tryK at hq;simp only[hk,Option.getD_some,decide_eq_false hne,cond_false] at hq;exact bind_some hq
 cases hR with
 | take hk=>
  rw[hH] at hk;obtain⟨rfl,rfl⟩:=free hk;refine⟨rfl,h.A5 ⟨⟨_,_,hT',hS',λk=>?_,gW⟩,hlk.ob,fS hlk.nh _ _,nd⟩ hf3,hf3⟩;rw[bl,bl,hH];by_cases hk:k=key
  ·rw[if_pos hk,if_pos (inj.2 hk)]
  ·rw[if_neg hk,if_neg (λc=>hk (inj.1 c))]
 | ring q hk hne hc=>rw[hH] at hk;obtain⟨b,hb,hq⟩:=held q hk hne;rw[(fy hH gW who 9 q b hb).2 hc] at hq;cases hq;exact⟨rfl,h.A5 ⟨⟨_,_,hT',hS',hH,gW⟩,hlk.ob,hlk.nh,nd⟩ hf3,hf3⟩
 | wait q hk hne hc=>
  rw[hH] at hk;obtain⟨b,hb,hq⟩:=held q hk hne;cases b with
  | true=>exact absurd ((fy hH gW who 9 q true hb).1 rfl) hc
  | false=>
   cases hq;refine⟨rfl,h.A5 ⟨⟨_,_,hT',hS',hH,λp=>?_⟩,hlk.ob,hlk.nh,fS nd _ _⟩ hf3,hf3⟩;rw[bl,bl,gW];by_cases hp:p=who
   ·rw[if_pos hp,if_pos hp];rfl
   ·rw[if_neg hp,if_neg hp]
end
section
variable{w w' w1 w2:World}{B:Bk}{u v rv yv:Value}{O O' O1 O2:Nat->Nat}{e e' e1:E}{ss:List (List Value)}{i:Nat}{D:Nat->Prop}
theorem iO(h:RP w O B e u rv yv ss){n:Int}(hq:M.close e i n=some e'):Cl prog 44 [pv B.x,iv i,iv n] w λo w'=>RP w' O B e' u rv yv ss/\Stp O w O w':=by
 unfold M.close at hq;obtain⟨t,ht,hq⟩:=bind_some hq;obtain⟨_,hg,hq⟩:=bind_some hq;obtain⟨e1,hr,hq⟩:=bind_some hq;cases hq;have hg:=ak hg;simp only[Bool.and_eq_true,decide_eq_true_eq] at hg;obtain⟨hg,hn1,hn2⟩:=hg;have hn:In (700*n):=by constructor<;>omega
 obtain⟨T,hT⟩:=h.al.tx (by decide);refine cU3 func44 ?_;simp only[RU,h.c 17 (by decide)];refine(qc hT (λy hy=>h.lt y (by rw[hy];decide)) ht).mono ?_;rintro _ w1 ⟨x,rfl,hT1,hf1⟩;have h1:=h.B0 hT1 hf1;simp only[RU,h1.c 8 (by decide),af (n:=700*n) hn];refine(kn h1 hr).mono ?_;rintro _ w2 ⟨rfl,h2,hf2⟩;have hw2:e1.waits=e.waits:=by unfold M.release at hr;obtain⟨_,_,hr⟩:=bind_some hr;cases hr;rfl
 simp only[RU,h2.c 16 (by decide)];refine(xH h2 (by rw[hw2];exact hg) i).mono ?_;rintro _ w3 ⟨h3,hf3⟩;exact⟨h3,((Stp.of (Gr.refl _ _) (by decide) hf1).trans (Stp.of (Gr.refl _ _) (by decide) hf2)).trans (Stp.of (Gr.refl _ _) (by decide) hf3)⟩
theorem Df{F:List Value}{a:Value}(Ps:Nat->World->Prop)(hl:F.length<=100)(h0:Ps 0 w)(hk:∀i w1,Ps i w1->CellsAt w1 a F.length 1 F)(hf:∀i f w1,F[i]?=some f->Ps i w1->∀k:KV,(∀w2,Ps (i+1) w2->k (iv 0) w2)->ClV prog f [] w1 k):Cl prog 60 [a] w λo w'=>o=iv 0/\Ps F.length w':=by
 refine cU1 func60 ?_ (V [(2,[8])]);simp only[RU,(hk 0 w h0).lenV];refine⟨λvs w2=>∃i:Nat,vs=[iv i]/\i<=F.length/\Ps i w2,λvs _=>(F.length - nth vs 0).toNat,⟨0,rfl,Nat.zero_le _,h0⟩,?_⟩;rintro w2 t ⟨i,hvs,hi,hP⟩;cases hvs;by_cases hlt:i<F.length
 ·have hx:F[i]?=some F[i]:=List.getElem?_eq_getElem hlt;obtain⟨ad,i1,_,i3⟩:=(hk i w2 hP).j4 hx .i64;simp only[RU,decide_eq_true (show(i:Int)<(F.length:Int) by omega),i1,i3];refine hf i _ w2 hx hP _ λw3 hP'=>?_;simp only[RU,show((0:Int) != 0)=false from rfl,show IntKind.i64.wrap ((i:Int)+1)=((i+1:Nat):Int) by rw[af]<;>omega];exact⟨⟨i+1,rfl,hlt,hP'⟩,by simp only[ba];omega⟩
 ·obtain rfl:i=F.length:=by omega
  simp only[RU,decide_eq_false (show ¬((F.length:Nat):Int)<(F.length:Int) by omega)];exact hP
theorem GD(x y z:Nat)(w:World):(Instr.buildSlice 245 2 #[(0,.func (.func 185) #[] #[pv x,pv y]),(1,.func (.func 187) #[pv z] #[])]).run prog w=.ok (.slice (some ⟨w.heap.size,0,none⟩) 2 2) (w.alloc (.cells #[.func (.func 185) #[] #[pv x,pv y],.func (.func 187) #[pv z] #[]] 126)):=by kernel_rfl
theorem ub(h:RP w O B e u rv yv ss){n:Int}(hq:M.flush e n=some e'):Cl prog 95 [pv B.x,iv n] w λo w'=>o=iv 0/\RP w' O B e' u rv yv ss/\Stp O w O w':=by
 unfold M.flush at hq;refine cU2 func95 ?_;refine ae ?_;rintro b1 w1 rfl hs1 hw1 hf1;refine ae ?_;rintro b2 w2 rfl hs2 hw2 hf2
 replace hw1:w1.heap[w.heap.size]?=some (.cells #[pv B.x] 38):=hw1
 have hd:=Fm.drew F0 w2;have hF:=Fmf (Fmf hf1 hf2) hd;have hwd1:=(Fmf hf2 hd).heap hw1 id;have hwd2:=hd.heap hw2 id;have h2:=h.aS hF;have c1:=ab (off:=0) hwd1;have c2:=ab (off:=0) hwd2;rw[bF] at c1;refine⟨λwx=>Fm F0 w2.drew wx,Fm.refl _ _,iv n,λwx hx=>?_,?_⟩
 ·simp only[RU,ab (hx.heap hwd2 id),and_self]
 simp only[RU,c1,true_and,h2.c 8 (by decide),(h.aS (Fmf hf1 hf2)).c 8 (by decide)];refine(rL h2.sys).mono ?_;rintro _ w3 ⟨rfl,hf3⟩;refine⟨hf3,?_⟩;have h3:=h2.aS hf3;have hw3:=hf3.heap hwd1 id;have hw3':=hf3.heap hwd2 id;have s3:Stp O w O w3:=Stp.gT (Fmf hF hf3);by_cases hlt:n<(e.s.l.last:Int)
 ·rw[decide_eq_true hlt,cond_true] at hq;cases hq;simp only[RU,decide_eq_true hlt];exact⟨h3,s3⟩
 ·rw[decide_eq_false hlt,cond_false] at hq;obtain⟨_,hg,hq⟩:=bind_some hq;have hg:=of_decide_eq_true (ak hg);cases hq;simp only[RU,decide_eq_false hlt,ab hw3];refine ag (GD _ _ _ _) ?_;have hfa:=Fm.alloc F0 w3 (.cells #[.func (.func 185) #[] #[pv w.heap.size,pv w1.heap.size],.func (.func 187) #[pv B.x] #[]] 126);have hwa:=aA w3 (.cells #[.func (.func 185) #[] #[pv w.heap.size,pv w1.heap.size],.func (.func 187) #[pv B.x] #[]] 126);have ha:=h3.aS hfa;have hcs:CellsAt (w3.alloc (.cells #[.func (.func 185) #[] #[pv w.heap.size,pv w1.heap.size],.func (.func 187) #[pv B.x] #[]] 126)) (.slice (some ⟨w3.heap.size,0,none⟩) 2 2) 2 1 [.func (.func 185) #[] #[pv w.heap.size,pv w1.heap.size],.func (.func 187) #[pv B.x] #[]]:=CellsAt.aT (da (w:=w3) (e:=126) (sz:=1) (n:=2) (l:=[.func (.func 185) #[] #[pv w.heap.size,pv w1.heap.size],.func (.func 187) #[pv B.x] #[]]) rfl (Nat.le_refl _) (by decide));have sa:Stp O w O _:=s3.trans (Stp.gT hfa);have hwa1:=hfa.heap hw3 id;have hwa2:=hfa.heap hw3' id;generalize w3.alloc (.cells #[.func (.func 185) #[] #[pv w.heap.size,pv w1.heap.size],.func (.func 187) #[pv B.x] #[]] 126)=wa at hfa hwa ha sa hwa1 hwa2 hcs ⊢;have l3:=(Fmf hF hf3).size;have l1:=hf1.size;have q99:∀y,w.heap.size<=y->O y≠1:=λy hy=>by rw[h.free hy];decide
  have K:∀wx,Fm (λy=>O y=1) wa wx->wx.heap[w.heap.size]?=some (.cells #[pv B.x] 38)/\wx.heap[w1.heap.size]?=some (.cells #[iv n] 3)/\Stp O w O wx:=λwx hx=>⟨hx.heap hwa1 (q99 _ (Nat.le_refl _)),hx.heap hwa2 (q99 _ (by omega)),sa.trans (Stp.of (Gr.refl _ _) (by decide) hx)⟩;refine(Df (F:=[.func (.func 185) #[] #[pv w.heap.size,pv w1.heap.size],.func (.func 187) #[pv B.x] #[]]) (λi wx=>Fm (λy=>O y=1) wa wx/\match i with
   | 0=>RP wx O B e u rv yv ss
   | 1=>RP wx O B { e with s:=⟨e.s.p,(e.s.l.flush n e.s.d).1,(e.s.l.flush n e.s.d).2.1⟩ } u rv yv ss
   | _=>RP wx O B { e with s:=⟨e.s.p.synced,(e.s.l.flush n e.s.d).1,(e.s.l.flush n e.s.d).2.1⟩ } u rv yv ss) (show 2<=100 by decide) ⟨Fm.refl _ _,ha⟩ (λi wx hx=>hcs.keep hx.1 (λy hy=>by cases hy;exact q99 _ (by omega))) ?_).mono ?_
  ·rintro i f wx hi ⟨hx,hR⟩ k hk
   match i,hi with
   | 0,hi=>
    cases hi
    replace hR:RP wx O B e u rv yv ss:=hR
    refine ay (by kernel_rfl) ?_;obtain⟨x1,x2,x3⟩:=K wx hx;have hdx:=Fm.drew F0 wx;refine cU2 func185 ?_;simp only[RU,ab x1,ab x2,true_and,hR.c 8 (by decide)];refine(yV (hR.aS hdx).sys n).mono ?_;rintro _ wy ⟨rfl,hs,hy⟩;rw[hg];exact hk _ ⟨(hx.trans hdx iT iE).trans hy iT iT,((hR.aS hdx).o7 hs hy).1⟩
   | 1,hi=>
    cases hi
    replace hR:RP wx O B { e with s:=⟨e.s.p,(e.s.l.flush n e.s.d).1,(e.s.l.flush n e.s.d).2.1⟩ } u rv yv ss:=hR
    refine ay (by kernel_rfl) ?_;refine cU1 func187 ?_;simp only[RU,hR.c 9 (by decide)];refine(mM hR.sys).mono ?_;rintro _ wy ⟨hs,hy⟩;exact hk _ ⟨hx.trans hy iT iT,(hR.o7 hs hy).1⟩
  ·rintro _ wx ⟨rfl,hx,hR⟩;exact⟨rfl,hR,(K wx hx).2.2⟩
end
section
variable{w w' w1 w2:World}{B:Bk}{u v rv yv:Value}{O O' O1 O2:Nat->Nat}{e e' e1:E}{ss:List (List Value)}{i:Nat}{D:Nat->Prop}{t:Tx}{s:Seat}
abbrev txV(t:Tx)(a:Value):Array Value:=#[iv t.next,a,iv t.xid,iv t.first,iv t.last,iv t.undoes]
theorem Hk(h:RP w O B e u rv yv ss){who:Int}(ht:getD e.txns who=some t){kk:Value->Value->World->Prop}{C:World->Prop}{zs:Array Value}(hC:∀w1,Fm F0 w w1->C w1)(K:∀w3 b a,w3.heap[b]?=some (.cells (txV t a) 107)->Fm F0 w w3->w.heap.size<=b->kk (pv b) (.bool true) w3)(hz:zs.size=6:=by rfl):(Cl prog 29 [pv B.tb,iv who] w λv w2=>Pu (bj v 0) λa=>Pu (bj v 1) λc=>New zs 107 w2 λp w3=>St 6 w3 p a λ_ w4=>kk p c w4)/\(New zs 107 w λp w1=>C w1/\Cl prog 29 [pv B.tb,iv who] w1 λv w2=>Pu (bj v 0) λa=>Pu (bj v 1) λc=>St 6 w2 p a λ_ w3=>kk p c w3)/\True:=by
 refine two (Y:=F0) (λ_ _ us uu=>∃a,us=txV t a/\uu=.bool true) (λw1 hf1=>?_) hC (λ_ e=>e.elim) (λ_ _ _ _ _ _ h _=>h) ?_ hz
 ·obtain⟨T,hT⟩:=h.al.tx (by decide);refine(lz (hT.keep hf1 iT) ht).mono ?_;rintro _ w2 ⟨a,rfl,_,ha,_,hf2⟩;exact⟨_,_,rfl,rfl,by simp[ha];exact⟨rfl,rfl,rfl,rfl,rfl⟩,⟨a,rfl,rfl⟩,hf2⟩
 ·rintro base w3 b us uu _ hb _ hw3 ⟨a,rfl,rfl⟩ hf;exact K w3 b a hw3 hf hb
theorem RP.who(h:RP w O B e u rv yv ss)(hi:e.seats[i]?=some s):w.cell? ⟨B.x,23+i*25,none⟩=some (iv i):=by obtain⟨h8,rr,pl,k1,k2,k3,k4,kc⟩:=h.cW hi;exact kc 0 (by decide)
theorem txj(h:RP w O B e u rv yv ss)(hi:e.seats[i]?=some s)(ht:getD e.txns (i:Int)=some t){kk:Value->Value->World->Prop}{zs:Array Value}(K:∀w3 b a,w3.heap[b]?=some (.cells (txV t a) 107)->Fm F0 w w3->w.heap.size<=b->kk (pv b) (.bool true) w3)(hz:zs.size=6:=by rfl):∃C:World->Prop,C w.drew/\∃v,(∀w1,C w1->Pu (w1.cell? ⟨B.x,17,none⟩) λu=>u=v/\True)/\∃v1,(∀w1,C w1->Pu (w1.cell? ⟨B.x,23+i*25,none⟩) λu=>u=v1/\True)/\((Cl prog 29 [v,v1] w.drew λv w2=>Pu (bj v 0) λa=>Pu (bj v 1) λc=>New zs 107 w2 λp w3=>St 6 w3 p a λ_ w4=>kk p c w4)/\(New zs 107 w.drew λp w1=>C w1/\Cl prog 29 [v,v1] w1 λv w2=>Pu (bj v 0) λa=>Pu (bj v 1) λc=>St 6 w2 p a λ_ w3=>kk p c w3)/\True):=by
 have hd:=Fm.drew F0 w;refine⟨λwx=>Fm F0 w.drew wx,Fm.refl _ _,pv B.tb,λwx hx=>?_,iv i,λwx hx=>?_,Hk (h.aS hd) ht (λ_ h=>h) (λw3 b a h1 h2 h3=>K w3 b a h1 (Fmf hd h2) (Nat.le_trans hd.size h3)) hz⟩
 ·simp only[RU,((h.aS hd).aS hx).c 17 (by decide),and_self]
 ·simp only[RU,((h.aS hd).aS hx).who hi,and_self]
theorem RP.seat_set(h:RP w O B e u rv yv ss)(hi:e.seats[i]?=some s)(s':Seat):({ e with seats:=e.seats.set i s' }:E).seats[i]?=some s':=by show(e.seats.set i s')[i]?=some s';rw[List.getElem?_set_self (by rw[h.sl];exact(h.cW hi).1)]
theorem RP.at_(h:RP w O B e u rv yv ss)(hi:e.seats[i]?=some s):M.seatAt e i=s:=by have:=h.eQ (h.cW hi).1;rw[hi] at this;exact(Option.some.inj this).symm
theorem jZ(h:RP w O B e u rv yv ss)(hi:e.seats[i]?=some s)(hq:M.commit e i=some e'):Cl prog 45 [pv B.x,sp B i] w λo w'=>o=iv 0/\Ex O w B e' w':=by
 unfold M.commit at hq;obtain⟨t,ht,hq⟩:=bind_some hq;rw[h.at_ hi] at hq;refine cU2 func45 ?_ (V []) (J [(2,[5])]);have hd:=Fm.drew F0 w;have h1:=h.aS hd;refine aJ (λvs w2=>∃b2 a,vs=[pv b2]/\w2.heap[b2]?=some (.cells (txV t a) 107)/\Fm F0 w w2/\w.heap.size<=b2) ?_ ?_
 ·rintro _ w2 ⟨b2,a,rfl,hb2,hf2,hl2⟩;have h2:=h.aS hf2;simp only[RU,h2.c 8 (by decide)];refine(nU h2.sys).mono ?_;rintro _ w3 ⟨rfl,hf3⟩;refine(h2.aS hf3).seat1 (s':={ s with end_:=(e.s.l.tail:Int) }) hi (by decide) rfl (λ_ _=>rfl) rfl rfl λw4 ss4 h4 hf4=>?_;refine h4.seat1 (s':={ s with end_:=(e.s.l.tail:Int),wk:=.settle }) (h2.seat_set hi _) (by decide) rfl (λ_ _=>rfl) rfl rfl λw5 ss5 h5 hf5=>?_;have hx:=(h.al.x (by decide)).lt;have hw5:=hf5.heap (hf4.heap (hf3.heap hb2 id) (by omega)) (by omega);have hd:=Fm.drew F0 w5;have fx:∀{a b:World},Fm (·=B.x) a b->Stp O a O b:=λf=>⟨Gr.refl _ _,f.mono (λy _ e=>by rw[e,h.x0];decide)⟩;have S5:Stp O w O w5.drew:=(((Stp.gT (Fmf hf2 hf3)).trans (fx hf4)).trans (fx hf5)).trans (Stp.gT hd);simp only[RU,ab hw5,h5.who (h4.seat_set (h2.seat_set hi _) _)];refine bst (rcs { M.rec0 with kind:=7,xid:=t.xid } nl nl nl nl nl) ⟨rfl,?_⟩;have h6:=h5.aS hd;rw[List.set_set] at h6;refine(lD h6 (.inl ⟨rfl,rfl⟩) hq).mono ?_;rintro _ w6 ⟨rfl,O',u',h7,s7⟩;exact⟨rfl,O',u',_,_,_,h7,S5.trans s7⟩
 ·intro kk hkk;exact txj h hi ht (λw3 b a h1 h2 h3=>hkk _ _ ⟨b,a,rfl,h1,h2,h3⟩)
theorem rG(h:RP w O B e u rv yv ss)(hi:e.seats[i]?=some s)(hq:M.settle e i=some e'):Cl prog 117 [pv B.x,sp B i] w λo w'=>o=iv 0/\Ex O w B e' w':=by
 unfold M.settle at hq;obtain⟨e1,hfl,hq⟩:=bind_some hq;obtain⟨t,ht,hq⟩:=bind_some hq;obtain⟨e2,hcl,hq⟩:=bind_some hq;cases hq;rw[h.at_ hi] at hfl;obtain⟨h8,rr,pl,k1,k2,k3,k4,kc⟩:=h.cW hi;have c15:=kc 15 (by decide);refine cU2 func117 ?_ (V []) (J [(5,[6])]);simp only[RU,c15];refine(ub h hfl).mono ?_;rintro _ w1 ⟨rfl,h1,s1⟩;have hse:e1.seats=e.seats:=by
  unfold M.flush at hfl;cases hc:decide (s.end_<(e.s.l.last:Int)) with
  | true=>rw[hc] at hfl;cases hfl;rfl
  | false=>rw[hc] at hfl;obtain⟨_,_,hfl⟩:=bind_some hfl;cases hfl;rfl
 have hi1:e1.seats[i]?=some s:=by rw[hse];exact hi
 simp only[RU,show((0:Int) != 0)=false from rfl];refine aJ (λvs w2=>∃b2 a,vs=[pv b2]/\w2.heap[b2]?=some (.cells (txV t a) 107)/\Fm F0 w1 w2) ?_ ?_
 ·rintro _ w2 ⟨b2,a,rfl,hb2,hf2⟩;have hd:=Fm.drew F0 w2;have h2:=(h1.aS hf2).aS hd;simp only[RU,(h1.aS hf2).who hi1,ab hb2];refine(iO h2 hcl).mono ?_;rintro _ w3 ⟨h3,s3⟩;refine bst (rpC M.rp0 nl) ?_;refine(iz h3 h8 (r:=M.rp0) (CellsAt.aT (World.ownsRow_nil w3 0 23 2)) (λy hy=>by cases hy)).mono ?_;rintro _ w4 ⟨rfl,O4,ss4,h4,g4,f4⟩;exact⟨rfl,O4,_,_,_,_,h4,(((s1.trans (Stp.gT (Fmf hf2 hd))).trans s3).trans ⟨g4.mono (λy e=>e.elim id (λe=>by cases e)),f4.mono (λy _ e=>by rw[e,h3.x0];decide)⟩)⟩
 ·intro kk hkk;exact txj h1 hi1 ht (λw3 b a h1 h2 h3=>hkk _ _ ⟨b,a,rfl,h1,h2⟩)
theorem AR{α:Type}{l:List α}{x:α}(h:l[i]?=some x):l.set i x=l:=by
 refine List.ext_getElem? λj=>?_;by_cases e:i=j
 ·subst e;rw[List.getElem?_set_self (List.getElem?_eq_some_iff.1 h).1,h]
 ·rw[List.getElem?_set_ne e]
theorem vN{r un:Rc}(h:M.back r=some un):un.imgs=[]:=by unfold M.back at h;split at h<;>first|cases h;rfl|cases h
theorem pP(h:RP w O B e u rv yv ss)(hi:e.seats[i]?=some s)(hq:M.roll e i=some e'):Cl prog 46 [pv B.x,sp B i] w λo w'=>o=iv 0/\Ex O w B e' w':=by
 unfold M.roll at hq;obtain⟨t,ht,hq⟩:=bind_some hq;obtain⟨⟨a0,c0⟩,hch,hq⟩:=bind_some hq;rw[h.at_ hi] at hch hq;have h8:=(h.cW hi).1;refine cU2 func46 ?_ (V [(2,[])]) (J [(2,[5]),(4,[7,8]),(16,[])]);refine aJ (λvs w2=>∃b2 a,vs=[pv b2]/\w2.heap[b2]?=some (.cells (txV t a) 107)/\Fm F0 w w2/\w.heap.size<=b2) ?_ ?_
 ·rintro _ w2 ⟨b2,a,rfl,hb2,hf2,hl2⟩;have h2:=h.aS hf2;let E (z:Int):E:={ e with seats:=e.seats.set i { s with next:=z } };simp only[RU];refine⟨λvs w3=>vs=[]/\∃f z,M.chain e f z=some (a0,c0)/\w3.heap[b2]?=some (.cells (txV t a) 107)/\Stp O w O w3/\∃ss3,RP w3 O B (E z) u rv yv ss3,λvs w3=>match w3.cell? ⟨B.x,23+i*25+14,none⟩ with
   | some (.int _ z)=>z.toNat
   | _=>0,⟨rfl,100,s.next,hch,hb2,Stp.gT hf2,ss,?_⟩,?_⟩
  ·rw[show E s.next=e by show({ e with seats:=_ }:M.E)=e;rw[show({ s with next:=s.next }:Seat)=s from rfl,AR hi]];exact h2
  rintro w3 ⟨_,f,z,hc,hb3,s3,ss3,h3⟩;have hi3:(E z).seats[i]?=some { s with next:=z }:=h.seat_set hi _;obtain⟨_,rr,pl,k1,k2,k3,k4,kc⟩:=h3.cW hi3;have c14:w3.cell? ⟨B.x,23+i*25+14,none⟩=some (iv z):=kc 14 (by decide);simp only[RU,c14]
  match f,hc with
  | f+1,hc=>
  rw[M.chain] at hc;have hlx:=(h.al.x (by decide)).lt;have fx:∀{a b:World},Fm (·=B.x) a b->Stp O a O b:=λf=>⟨Gr.refl _ _,f.mono (λy _ e=>by rw[e,h.x0];decide)⟩;by_cases hz:z<=0
  ·rw[decide_eq_true hz,cond_true] at hc;simp only[RU,decide_eq_false (show ¬0<z by omega)];cases hc;obtain⟨e1,hw1,hq⟩:=bind_some hq;obtain⟨e2,hcl,hq⟩:=bind_some hq;cases hq;refine aJ (λvs w4=>vs=[]/\∃O4 u4 ss4,RP w4 O4 B e1 u4 rv yv ss4/\Stp O w O4 w4) ?_ ?_
   ·rintro _ w4 ⟨rfl,O4,u4,ss4,h4,s4⟩;simp only[RU,h4.who (h4.eQ h8)];refine(iO h4 (n:=0) hcl).mono ?_;rintro _ w5 ⟨h5,s5⟩;obtain⟨_,rr5,pl5,_,_,_,_,kc5⟩:=h5.cW (h5.eQ h8);have c13:w5.cell? ⟨B.x,23+i*25+13,none⟩=some (iv (M.seatAt e2 i).why):=kc5 13 (by decide);simp only[RU,c13];refine(xg h5 h8 _).mono ?_;rintro _ w6 ⟨rfl,O6,ss6,h6,g6,f6⟩;exact⟨rfl,O6,_,_,_,_,h6,(s4.trans s5).trans ⟨g6,f6.mono (λy _ e=>by rw[e,h5.x0];decide)⟩⟩
   ·intro kk hkk;simp only[RU,ab hb3];by_cases hl:t.last=0
    ·rw[decide_eq_true hl,cond_true] at hw1;simp only[RU,show(t.last == 0)=true from beq_iff_eq.2 hl,h3.c 8 (by decide)];refine(kn h3 hw1).mono ?_;rintro _ w4 ⟨rfl,h4,f4⟩;exact hkk _ _ ⟨rfl,O,u,_,h4,s3.trans (Stp.of (Gr.refl _ _) (by decide) f4)⟩
    ·rw[decide_eq_false hl,cond_false] at hw1;have hd:=Fm.drew F0 w3;simp only[RU,show(t.last == 0)=false from beq_eq_false_iff_ne.2 hl,h3.who hi3];refine bst (rcs { M.rec0 with kind:=8,xid:=t.xid } nl nl nl nl nl) ⟨rfl,?_⟩;refine(lD (h3.aS hd) (.inl ⟨rfl,rfl⟩) hw1).mono ?_;rintro _ w4 ⟨rfl,O4,u4,h4,s4⟩;simp only[RU,show((0:Int) != 0)=false from rfl];exact hkk _ _ ⟨rfl,O4,u4,_,h4,(s3.trans (Stp.gT hd)).trans s4⟩
  ·rw[decide_eq_false hz,cond_false] at hc;obtain⟨r,hr,hc⟩:=bind_some hc;have hd:=Fm.drew F0 w3;simp only[RU,decide_eq_true (show 0<z by omega)];refine aJ (λvs w4=>∃b4 vs' vm vi vp vt,vs=[pv b4,iv 0]/\w4.heap[b4]?=some (.cells (rcs r vs' vm vi vp vt) 168)/\Fm F0 w3 w4/\w.heap.size<=b4) ?_ ?_
   ·rintro _ w4 ⟨b4,vs',vm,vi,vp,vt,rfl,hb4,hf4,hl4⟩;have h4:=h3.aS hf4;simp only[RU,show((0:Int) != 0)=false from rfl,aa (n:=16) hb4 rfl];refine back_spec.mono ?_;rintro _ w5 ⟨rfl,hf5⟩;simp only[RU];refine aE (us:=rcs ((M.back r).getD M.rec0) nl nl nl nl nl) (λw6 hs6 hw6 hf6=>?_) rfl rfl rfl;have h6:=(h4.aS hf5).aS hf6;have s6:Stp O w O w6:=s3.trans (Stp.gT (Fmf (Fmf hf4 hf5) hf6));have hb6:=(Fmf (Fmf hf4 hf5) hf6).heap hb3 id;have l5:w.heap.size<=w5.heap.size:=Nat.le_trans s3.f.size (Fmf hf4 hf5).size;cases hbk:M.back r with
    | some un=>
     rw[hbk] at hc hw6;cases hc
     replace hw6:RB w6 w5.heap.size un nl nl nl nl nl:=⟨hw6⟩
     simp only[RU,show((bif true then(0:Int) else 160) == 0)=true from rfl,hw6.c2];refine h6.seat1 (j:=14) (s':={ s with next:=un.next }) hi3 (by decide) rfl (λ_ _=>rfl) rfl rfl λw7 ss7 h7 hf7=>?_;rw[show({ (E a0) with seats:=(E a0).seats.set i { s with next:=un.next } }:M.E)=E un.next by show({ e with seats:=_ }:M.E)=_;rw[List.set_set]] at h7;refine au (hf7.heap hw6.h (by omega)) (j:=8) (show 8<16 by decide) rfl λw8 hw8 hs8 hf8=>?_
     replace hw8:w8.heap[w5.heap.size]?=some (.cells (rcs { un with new:=0 } nl nl nl nl nl) 168):=hw8
     have h8':=h7.iF (h.free l5) hf8;have hd8:=Fm.drew F0 w8;simp only[RU,h8'.who (h.seat_set hi _),aa (n:=16) (hd8.heap hw8 id) rfl]
     replace hq:M.wr (E un.next) i { un with new:=0 } 700=some e':=hq
     refine(lD (r:={ un with new:=0 }) (h8'.aS hd8) (.inl ⟨(vN hbk:un.imgs=[]),rfl⟩) hq).mono ?_;rintro _ w9 ⟨rfl,O9,u9,h9,s9⟩;exact⟨rfl,O9,u9,_,_,_,h9,((((s6.trans (fx hf7)).loc hf8 l5).trans (Stp.gT hd8)).trans s9)⟩
    | none=>rw[hbk] at hc;obtain⟨_,hg,hc⟩:=bind_some hc;have hg:=of_decide_eq_true (ak hg);have hr6:RB w6 b4 r vs' vm vi vp vt:=⟨(Fmf hf5 hf6).heap hb4 id⟩;simp only[RU,show((bif false then(0:Int) else 160) == 0)=false from rfl,hr6.c1];refine h6.seat1 (j:=14) (s':={ s with next:=r.prev }) hi3 (by decide) rfl (λ_ _=>rfl) rfl rfl λw7 ss7 h7 hf7=>?_;rw[show({ (E z) with seats:=(E z).seats.set i { s with next:=r.prev } }:M.E)=E r.prev by show({ e with seats:=_ }:M.E)=_;rw[List.set_set]] at h7;obtain⟨_,_,_,_,_,_,_,kc7⟩:=h7.cW (h.seat_set hi _);have c14':w7.cell? ⟨B.x,23+i*25+14,none⟩=some (iv r.prev):=kc7 14 (by decide);rw[c14'];exact⟨⟨f,r.prev,hc,hf7.heap hb6 (by omega),s6.trans (fx hf7),ss7,h7⟩,by show r.prev.toNat<z.toNat;omega⟩
   ·intro kk hkk;refine⟨λwx=>Fm F0 w3.drew wx,Fm.refl _ _,pv B.lb,λwx hx=>?_,iv z,λwx hx=>?_,?_⟩
    ·simp only[RU,((h3.aS hd).aS hx).c 8 (by decide),and_self]
    ·obtain⟨_,_,_,_,_,_,_,kcx⟩:=((h3.aS hd).aS hx).cW hi3;have cx:wx.cell? ⟨B.x,23+i*25+14,none⟩=some (iv z):=kcx 14 (by decide);simp only[RU,cx,and_self]
    ·refine two (Y:=F0) (n:=16) (λ_ _ us uu=>uu=iv 0/\∃vs' vm vi vp vt,us=rcs r vs' vm vi vp vt) (λw5 hf5=>?_) (λ_ h=>h) (λ_ e=>e.elim) (λ_ _ _ _ _ _ h _=>h) ?_
     ·refine(Dt ((h3.aS hd).aS hf5).sys z hr).mono ?_;rintro _ w6 ⟨cs,rfl,hcs,hf6⟩;obtain⟨vs',vm,vi,vp,vt,e1,_⟩:=hcs.ex;exact⟨cs,_,rfl,hcs.size,List.all_eq_true.2 hcs.one,⟨rfl,vs',vm,vi,vp,vt,e1⟩,hf6⟩
     ·rintro base w5 b5 us uu _ hb _ hw5 ⟨rfl,vs',vm,vi,vp,vt,rfl⟩ hf5;exact hkk _ _ ⟨b5,vs',vm,vi,vp,vt,rfl,hw5,Fmf hd hf5,Nat.le_trans (s3.trans (Stp.gT hd)).f.size hb⟩
 ·intro kk hkk;exact txj h hi ht (λw3 b a h1 h2 h3=>hkk _ _ ⟨b,a,rfl,h1,h2,h3⟩)
end
theorem Fx{g1 g:FuncId}{args1:List Value}{argsf:Value->List Value}{w:World}{zs:Array Value}{t:TypeId}{C:World->Prop}{Y:Nat->Prop}{n:Nat}{kk:Value->Value->World->Prop}(V:Value->World->Prop)(S:Nat->World->Array Value->Value->Prop)
  (h1:∀w1,Fm F0 w w1->Cl prog g1 args1 w1 λo w2=>V o w2/\Fm F0 w1 w2)
  (hV:∀m w1 w2,V m w1->Fm F0 w1 w2->V m w2)
  (H:∀m w1,Fm F0 w w1->V m w1->Cl prog g (argsf m) w1 λo w2=>∃us u,o=.tuple #[.agg us,u]/\us.size=n/\us.toList.all Value.oneCell'=true/\S w1.heap.size w2 us u/\Fm Y w1 w2)
  (hC:∀w1,Fm F0 w w1->C w1) (hY:∀y,Y y->y<w.heap.size)
  (hS:∀base w2 w3 us u,w.heap.size<=base->S base w2 us u->Fm (λy=>w.heap.size<=y/\y<base) w2 w3->S base w3 us u)
  (K:∀base w3 b us u,w.heap.size<=base->w.heap.size<=b->us.size=n->w3.heap[b]?=some (.cells us t)->S base w3 us u->Fm Y w w3->kk (pv b) u w3) (hz:zs.size=n:=by rfl):
  (Cl prog g1 args1 w λm w0=>C w0/\((Cl prog g (argsf m) w0 λv w2=>Pu (bj v 0) λa=>Pu (bj v 1) λc=>New zs t w2 λp w3=>St n w3 p a λ_ w4=>kk p c w4)/\(New zs t w0 λp w1=>C w1/\Cl prog g (argsf m) w1 λv w2=>Pu (bj v 0) λa=>Pu (bj v 1) λc=>St n w2 p a λ_ w3=>kk p c w3)/\True)) /\
  (New zs t w λp w1=>C w1/\Cl prog g1 args1 w1 λm w0=>C w0/\Cl prog g (argsf m) w0 λv w2=>Pu (bj v 0) λa=>Pu (bj v 1) λc=>St n w2 p a λ_ w3=>kk p c w3)/\True:=by
 refine⟨(h1 w (Fm.refl _ _)).mono ?_,?_,trivial⟩
 ·rintro m w0 ⟨hm,hf0⟩;exact⟨hC _ hf0,two S (λw1 hf1=>H m w1 (Fmf hf0 hf1) (hV m _ _ hm hf1)) (λw1 hf1=>hC w1 (Fmf hf0 hf1)) (λy hy=>Nat.lt_of_lt_of_le (hY y hy) hf0.size) (λbase w2 w3 us u hb hs hf=>hS base w2 w3 us u (Nat.le_trans hf0.size hb) hs (hf.mono λy _ e=>⟨Nat.le_trans hf0.size e.1,e.2⟩)) (λbase w3 b us u hb hb2 hn hw3 hs hf=>K base w3 b us u (Nat.le_trans hf0.size hb) (Nat.le_trans hf0.size hb2) hn hw3 hs (hf0.trans hf (λ_ _ e=>e.elim) (λ_ _ e=>e))) hz⟩
 ·refine ae ?_;rintro b w1 rfl hs1 hw1 hf1;refine⟨hC w1 hf1,(h1 w1 hf1).mono ?_⟩;rintro m w0 ⟨hm,hf0⟩;have hf10:=Fmf hf1 hf0;refine⟨hC _ hf10,(H m w0 hf10 hm).mono ?_⟩;rintro _ w2 ⟨us,u,rfl,hn,h1,hs,hf⟩;simp only[RU];have l0:=hf0.size;refine ao (hf.heap (hf0.heap hw1 (λe=>e)) (λe=>by have:=hY _ e;omega)) (λw3 hw3 hs3 hf3=>?_) hn hz h1;exact K w0.heap.size w3 _ us u (by omega) (Nat.le_refl _) hn hw3 (hS _ _ _ _ _ (by omega) hs (hf3.mono (λy _ e=>by rw[e];omega))) ((hf10.trans hf (λ_ _ e=>e.elim) (λ_ _ e=>e)).trans hf3 (λ_ _ e=>e) (λy hy e=>by omega))
section
variable{w w' w1 w2:World}{B:Bk}{u v rv yv:Value}{O O' O1 O2:Nat->Nat}{e e' e1:E}{ss:List (List Value)}{i:Nat}{D:Nat->Prop}{t:Tx}{s:Seat}{p q:Pn}
theorem PlX.o0{n b:Nat}{S:Nat->Prop}(h:PlX w D n b q)(hf:Fm S w w')(hS:∀y,S y->¬D y/\(y<n\/w.heap.size<=y)):PlX w' D n b q:=by
 obtain⟨D',rv,lv,rr,h1,h2⟩:=h;refine⟨D',rv,lv,rr,h1.keep hf (λy hy hs=>?_),λy hy=>(h2 y hy).imp id λe=>⟨e.1,Nat.lt_of_lt_of_le e.2 hf.size⟩⟩;obtain⟨a,b⟩:=hS y hs;rcases h2 y hy with e|e
 ·exact a e
 ·omega
theorem uC{V:M.Vw}{b:Pg}{x:Pn×Option Rc}(hq:M.pageP V p b=some x):M.smP b=true/\(p.item=[]\/∃L q,M.opened b=some L/\M.entOk p.ent=true/\p.item.length<=1000000/\M.blay b p.item=some q):=by
 unfold M.pageP at hq;cases hc:(M.smP b&&(decide (p.stg=362)||p.item.isEmpty)) with
 | false=>rw[hc] at hq;cases hq
 | true=>
  rw[hc] at hq;simp only[Bool.and_eq_true,Bool.or_eq_true,decide_eq_true_eq,List.isEmpty_iff] at hc;refine⟨hc.1,?_⟩;rcases hc.2 with e|e
  ·rw[e] at hq;obtain⟨y,hy,_⟩:=Option.map_eq_some_iff.1 (show(M.enter p b).map _=some x from hq);unfold M.enter at hy;obtain⟨_,hg,hy⟩:=bind_some hy;obtain⟨q,hb,_⟩:=bind_some hy;have hg:=ak hg;simp only[Bool.and_eq_true,decide_eq_true_eq] at hg;have hb0:=hb;unfold M.blay at hb;obtain⟨_,_,hb⟩:=bind_some hb;obtain⟨L,hL,_⟩:=bind_some hb;exact .inr ⟨L,q,hL,hg.1.1,by omega,hb0⟩
  ·exact .inl e
theorem uB{V:M.Vw}{b:Pg}{r:Rc}(hq:M.pageP V p b=some (q,some r)):r.imgs=[]:=by
 unfold M.pageP at hq;cases hc:(M.smP b&&(decide (p.stg=362)||p.item.isEmpty)) with
 | false=>rw[hc] at hq;cases hq
 | true=>
  rw[hc] at hq;simp only[Bool.not_true,cond_false] at hq;split at hq
  ·obtain⟨_,_,e⟩:=Option.map_eq_some_iff.1 hq;cases e
  ·obtain⟨_,_,e⟩:=Option.map_eq_some_iff.1 hq;cases e
  ·obtain⟨y,hy,e⟩:=Option.map_eq_some_iff.1 hq;cases e;unfold M.finish at hy;obtain⟨_,_,hy⟩:=bind_some hy;obtain⟨_,_,hy⟩:=bind_some hy;obtain⟨_,_,hy⟩:=bind_some hy;obtain⟨_,_,hy⟩:=bind_some hy;obtain⟨_,_,hy⟩:=bind_some hy;obtain⟨_,_,hy⟩:=bind_some hy;cases hy;rfl
  ·obtain⟨y,hy,e⟩:=Option.map_eq_some_iff.1 hq;cases e;unfold M.layP at hy;obtain⟨_,_,hy⟩:=bind_some hy;obtain⟨_,_,hy⟩:=bind_some hy;obtain⟨_,_,hy⟩:=bind_some hy;obtain⟨_,_,hy⟩:=bind_some hy;cases hy;rfl
  ·obtain⟨y,hy,e⟩:=Option.map_eq_some_iff.1 hq;cases e;unfold M.enter at hy;obtain⟨_,_,hy⟩:=bind_some hy;obtain⟨_,_,hy⟩:=bind_some hy;cases hy;rfl
  ·cases hq
theorem HeldP.blk{P:Nat->Prop}{pg:Pg}{y:Nat}(h:HeldP w P v pg)(hi:pg.items≠[])(hb:blockOf v=some y):P y:=by
 apply Classical.byContradiction;intro hn;have hw:Fm (λy=>¬P y) w { w with heap:=w.heap.setIfInBounds y (.cells #[] 0) }:=⟨rfl,rfl,rfl,by simp,λb hb hs=>by have:y≠b:=λe=>hs (e▸hn);show(w.heap.setIfInBounds y _)[b]?=_;rw[Array.getElem?_setIfInBounds_ne this]⟩;obtain⟨u',e1,_,hc⟩:=(h _ hw).ex;rw[<- iZ e1] at hc;obtain⟨x,l,hl⟩:=List.exists_cons_of_ne_nil hi;obtain⟨ad,_,h2,h3⟩:=hc.j4 (i:=0) (x:=stv x) (by rw[hl];rfl) .i64;have hlt:=hc.blt (by rw[hl];simp) y hb;rw[hb] at h2;have e2:y=ad.block:=Option.some.inj h2;unfold World.cell? at h3;rw[<- e2] at h3;have hlt':y<w.heap.size:=by simpa using hlt
 rw[show({ w with heap:=w.heap.setIfInBounds y (.cells #[] 0) }:World).heap[y]?=some (.cells #[] 0) by show(w.heap.setIfInBounds y _)[y]?=_;rw[Array.getElem?_setIfInBounds_self_of_lt hlt']] at h3;simp at h3
theorem yJ(h:RP w O B e u rv yv ss)(hi:e.seats[i]?=some s)(hp:s.plan=some p)(hwk:p.wk=3)(hr0:s.rep.rows=[])(hq:M.show_ e i p=some e'):Cl prog 132 [pv B.x,sp B i,iv p.wpg] w λo w'=>o=iv 0/\Ex O w B e' w':=by
 unfold M.show_ at hq;obtain⟨⟨e1,pg⟩,hfe,hq⟩:=bind_some hq;obtain⟨Vv,hV,hq⟩:=bind_some hq;obtain⟨⟨q,orc⟩,hpg,hq⟩:=bind_some hq;have hse:e1.seats=e.seats:=by unfold M.fetch at hfe;obtain⟨_,_,hfe⟩:=bind_some hfe;cases hfe;rfl
 have hi1:e1.seats[i]?=some s:=by rw[hse];exact hi
 obtain⟨hsm,hit⟩:=uC hpg;refine cU3 func132 ?_ (V [(8,[9,44])]) (J [(12,[9]),(13,[12,13]),(23,[]),(22,[95])]);refine(dS h hfe).mono ?_;rintro _ w1 ⟨v,rfl,hN,_,hf1,O1,h1,s1,hz1⟩;simp only[RU];refine aE (us:=pcs pg v) (λw2 hs2 hw2 hf2=>?_) rfl rfl (List.all_eq_true.2 (bC hN.one));have hd:=Fm.drew F0 w2;have h2:=h1.aS hf2;have h2d:=h2.aS hd;have hw2d:=hd.heap hw2 id;obtain⟨h8,rr0,pl,k1,k2,k3,k4,kc⟩:=h2.cW hi1;rw[hp] at k4;obtain⟨b,rw_,lv,rr,rfl,hP⟩:=k4;have c12:w2.cell? ⟨B.x,23+i*25+12,none⟩=some (pv b):=kc 12 (by decide);simp only[RU,show((0:Int) != 0)=false from rfl,c12,aa (n:=6) hw2d rfl,true_and];refine(uk (hP.keep hd iT) hwk ((hN.keep hf2).keep hd) (iB hsm).1 hit).mono ?_;rintro _ w3 ⟨rfl,hf3⟩;have h3:=h2d.aS hf3;have hF13:Fm F0 w1 w3:=Fmf (Fmf hf2 hd) hf3;have s3:Stp O w O1 w3:=s1.trans (Stp.gT hF13);have hw3:=hf3.heap hw2d id;have hN3:=hN.keep hF13;have hbl:b<w.heap.size:=by
  obtain⟨_,rr',pl',k1',_,_,k4',_⟩:=h.cW hi;have e12:(seC i s rr0 (pv b))[12]?=(seC i s rr' pl')[12]? := by rw[Option.some.inj (k1.symm.trans k1')]
  rw[hp] at k4';obtain⟨b',_,_,_,e',hP'⟩:=k4';have e12':pv b=pl':=Option.some.inj e12;rw[e'] at e12';have hb':b=b':=by injection e12' with e;injection e with e;injection e
  have hbt:O b'=10+i:=hP'.ob;exact h.lt b (by rw[hb',hbt];omega)
 refine aJ (λvs w4=>vs=[nl]/\Fm F0 w3 w4) ?_ ?_
 ·rintro _ w4 ⟨rfl,hf4⟩;have h4:=h3.aS hf4;have hd4:=Fm.drew F0 w4;have h4d:=h4.aS hd4;have hw4:=hd4.heap (hf4.heap hw3 id) id;have hF14:Fm F0 w1 w4.drew:=Fmf (Fmf hF13 hf4) hd4;simp only[RU];refine aJ (λvs w5=>∃b5,vs=[pv b5,.bool orc.isSome]/\w5.heap[b5]?=some (.cells (rcs (orc.getD M.rec0) nl nl nl nl nl) 168)/\PlX w5 (λy=>O1 y=10+i) w4.drew.heap.size b q/\Fm (λy=>O1 y=10+i) w4.drew w5/\w4.drew.heap.size<=b5) ?_ ?_
  ·rintro _ w5 ⟨b5,rfl,hb5,hX,hf5,hl5⟩;have hF24:Fm F0 w2 w4.drew:=Fmf (Fmf (Fmf hd hf3) hf4) hd4;obtain⟨O2,h5,g5⟩:=h4d.plan hi1 k1 rfl ⟨k2.keep hF24 iT,k3⟩ hr0 hX (Nat.le_refl _) hf5;have s5:Stp O w O2 w5:=(s1.trans (Stp.gT hF14)).trans ⟨g5,hf5.mono (λy _ e=>by rw[e];omega)⟩;have hme:M.modPlan e1 i q={ e1 with seats:=e1.seats.set i { s with plan:=some q } }:=by unfold M.modPlan M.setSeat;rw[h1.at_ hi1]
   cases orc with
   | none=>cases hq;simp only[RU,Option.isSome_none];rw[hme];exact⟨O2,u,rv,yv,ss,h5,s5⟩
   | some r=>
    obtain⟨e2,hwr,hq⟩:=bind_some hq;obtain⟨_,hg,hq⟩:=bind_some hq;cases hq;have hg:=of_decide_eq_true (ak hg);rw[hme] at hwr;have hd5:=Fm.drew F0 w5;have hr5:=hd5.heap hb5 id;have hi5:=h1.seat_set hi1 { s with plan:=some q };simp only[RU,Option.isSome_some,h5.who hi5];refine aJ (λvs wx=>vs=[]/\Ex O w B e' wx) (λvs wx h=>?_) ?_
    ·exact h
    intro kk hkk;simp only[RU,aa (n:=16) hr5 rfl,true_and];refine(lD (h5.aS hd5) (r:=r) (vi:=nl) (.inl ⟨uB hpg,rfl⟩) hwr).mono ?_;rintro _ w6 ⟨rfl,O6,u6,h6,s6⟩;simp only[RU,show((0:Int) == 0)=true from rfl,h6.c 20 (by decide)];simp only[RU,show IntKind.i64.wrap (e'.fresh+((0:Nat):Int))=e'.fresh by rw[af]<;>omega];refine(h6.al.x (by decide)).AS (o:=20) (by decide) rfl λw7 hx hs7 hf7=>?_;have h7:RP w7 O6 B e' u6 rv yv ss:=h6.cells (e':=e') hx hf7 (hp:=h6.ph);exact hkk _ _ ⟨rfl,O6,u6,rv,yv,ss,h7,((s5.trans (Stp.gT hd5)).trans s6).trans ⟨Gr.refl _ _,hf7.mono (λy _ e=>by rw[e,h6.x0];decide)⟩⟩
  ·intro kk hkk;refine⟨λwx=>Fm F0 w4.drew wx,Fm.refl _ _,pv b,λwx hx=>?_,iv i,λwx hx=>?_,.agg (pcs pg v),λwx hx=>?_,?_⟩
   ·have cx:=(Fmf (Fmf (Fmf (Fmf hd hf3) hf4) hd4) hx).j6 c12 id;simp only[RU,cx,and_self]
   ·simp only[RU,(h4d.aS hx).who hi1,and_self]
   ·simp only[RU,aa (n:=6) (hx.heap hw4 id) rfl,and_self]
   refine Fx (Y:=λy=>O1 y=10+i) (argsf:=λm=>[pv b,m,.agg (pcs pg v),nl]) (λm wx=>∃a rr,m=.agg (vwC Vv a rr u)/\VwN wx 0 Vv a rr u/\Vv.st=e1.st/\∀y,blockOf a=some y\/blockOf rr=some y->w4.drew.heap.size<=y) (λbase wx us uu=>us=rcs (orc.getD M.rec0) nl nl nl nl nl/\uu=.bool orc.isSome/\PlX wx (λy=>O1 y=10+i) base b q) (λwx hx=>?_) (λm wx wy hm hy=>?_) (λm wx hx hm=>?_) (λ_ h=>h) (λy hy=>h4d.lt y (by rw[hy];omega)) ?_ ?_
   ·refine(zh (h4d.aS hx) hV).mono ?_;rintro _ wy ⟨a,rr,rfl,hVN,hst,hbk,hfy⟩;exact⟨⟨a,rr,rfl,hVN,hst,λy hy=>Nat.le_trans hx.size (hbk y hy)⟩,hfy⟩
   ·obtain⟨a,rr,e1,hVN,hst,hbk⟩:=hm;exact⟨a,rr,e1,hVN.keep hy,hst,hbk⟩
   ·obtain⟨a,rr,rfl,hVN,hst,hbk⟩:=hm;have hxr:=h4d.aS hx;refine(ya (hP.keep (Fmf (Fmf (Fmf (Fmf hd hf3) hf4) hd4) hx) iT) (λy hy=>hxr.lt y (by rw[hy];omega)) hbl (hN.keep (Fmf hF14 hx)) hVN (λy hy=>⟨λe=>?_,λe=>?_,λhne e=>?_⟩) hpg).mono ?_
    ·have:=hbk y (.inl e);have:=h4d.lt y (by rw[hy];omega);omega
    ·have:=hbk y (.inr e);have:=h4d.lt y (by rw[hy];omega);omega
    ·rw[hst] at hne;have:=(h4d.al.st (by decide)).blk hne e;rw[hy] at this;omega
    ·rintro _ wy ⟨rfl,hX,hfy⟩;exact⟨_,_,rfl,rfl,rfl,⟨rfl,rfl,hX⟩,hfy⟩
   ·rintro base wx wy us uu hb ⟨e1,e2,hX⟩ hfy;exact⟨e1,e2,hX.o0 hfy (λy hy=>⟨by rw[h4d.free hy.1];omega,.inl hy.2⟩)⟩
   ·rintro base wx b5 us uu hb hb2 _ hwx ⟨rfl,rfl,hX⟩ hfx;exact hkk _ _ ⟨b5,rfl,hwx,hX.of hb,hfx,hb2⟩
 ·intro kk hkk;simp only[RU,h3.c 20 (by decide),h3.c (1+3) (by decide)];have hd3:=Fm.drew F0 w3;by_cases hle:IntKind.i64.wrap (e1.fresh+0)<=e1.pages
  ·simp only[RU,decide_eq_true hle];refine⟨λvs wx=>vs=[nl,iv 0]/\wx=w3.drew,λ_ _=>0,⟨rfl,rfl⟩,?_⟩;rintro wx v1 v2 ⟨hvs,rfl⟩;cases hvs;simp only[RU,show decide ((0:Int)<0)=false from rfl];exact hkk _ _ ⟨rfl,hd3⟩
  ·simp only[RU,decide_eq_false hle];exact hkk _ _ ⟨rfl,hd3⟩
end
section
variable{w w' w1 w2:World}{B:Bk}{u v rv yv:Value}{O O' O1 O2:Nat->Nat}{e e' e1:E}{ss:List (List Value)}{i:Nat}{D:Nat->Prop}{t:Tx}{s:Seat}{p q:Pn}
theorem RP.o8(h:RP w O B e u rv yv ss)(hi:e.seats[i]?=some s)(hp:s.plan=some p):∃b rv' lv rr rr0,w.cell? ⟨B.x,23+i*25+12,none⟩=some (pv b)/\PlAt w (O ·=10+i) b p rv' lv rr/\ss[i]?=some (seC i s rr0 (pv b))/\CellsAt w rr0 s.rep.rows.length 2 (s.rep.rows.flatMap rowL)/\∀y,blockOf rr0=some y->O y=10+i:=by obtain⟨h8,rr0,pl,k1,k2,k3,k4,kc⟩:=h.cW hi;rw[hp] at k4;obtain⟨b,rv',lv,rr,rfl,hP⟩:=k4;exact⟨b,rv',lv,rr,rr0,kc 12 (by decide),hP,k1,k2,k3⟩
theorem RP.y9(h:RP w O B e u rv yv ss)(hi:e.seats[i]?=some s)(hr0:s.rep.rows=[]){b:Nat}{rv' lv rr rr0:Value}(k1:ss[i]?=some (seC i s rr0 (pv b)))(k2:CellsAt w rr0 s.rep.rows.length 2 (s.rep.rows.flatMap rowL))(k3:∀y,blockOf rr0=some y->O y=10+i)(hP:PlAt w' (O ·=10+i) b q rv' lv rr)(hb:O b=10+i)(hf:Fm (·=b) w w'):∃O',RP w' O' B (M.modPlan e i q) u rv yv ss/\Stp O w O' w':=by
 have h8:=(h.cW hi).1;have hf':Fm (λy=>O y=10+i) w w':=hf.mono (λy _ e=>by rw[e];exact hb);obtain⟨O',h1,g⟩:=h.plan hi k1 rfl ⟨k2,k3⟩ hr0 ⟨_,rv',lv,rr,hP,λy hy=>.inl hy⟩ (Nat.le_refl _) hf';refine⟨O',?_,g,hf'.mono (λy _ e=>by rw[e];omega)⟩;have:M.modPlan e i q={ e with seats:=e.seats.set i { s with plan:=some q } }:=by unfold M.modPlan M.setSeat;rw[h.at_ hi]
 rw[this];exact h1
theorem qF{n:Int}{b:Pg}(hq:M.fetch e n=some (e',b)):e'.seats=e.seats:=by unfold M.fetch at hq;obtain⟨_,_,hq⟩:=bind_some hq;cases hq;rfl
theorem eI{n:Int}(hq:M.reserve e n=some e'):e'.seats=e.seats:=by unfold M.reserve at hq;obtain⟨_,_,hq⟩:=bind_some hq;cases hq;rfl
theorem nK{n:Int}(hq:M.release e n=some e'):e'.seats=e.seats:=by unfold M.release at hq;obtain⟨_,_,hq⟩:=bind_some hq;cases hq;rfl
theorem xy{n:Int}{b:Pg}(hq:M.lay e n b=some e'):e'.seats=e.seats:=by unfold M.lay at hq;obtain⟨_,_,hq⟩:=bind_some hq;obtain⟨_,_,hq⟩:=bind_some hq;cases hq;rfl
theorem Bd{who free:Int}{r:Rc}(hq:M.wr e who r free=some e'):e'.seats=e.seats:=by
 unfold M.wr at hq;obtain⟨t,_,hq⟩:=bind_some hq;obtain⟨n,_,hq⟩:=bind_some hq;obtain⟨⟨e1,r1,q⟩,hb,hq⟩:=bind_some hq;obtain⟨_,_,hq⟩:=bind_some hq;obtain⟨e2,hr,hq⟩:=bind_some hq;obtain⟨e3,hl,hq⟩:=bind_some hq;obtain⟨_,_,hq⟩:=bind_some hq;obtain⟨tx,_,hq⟩:=bind_some hq;have h1:e1.seats=e.seats:=by
  unfold M.behind at hb;split at hb
  ·obtain⟨_,_,e⟩:=Option.map_eq_some_iff.1 hb;cases e;rfl
  ·obtain⟨⟨ex,p⟩,hf,hb⟩:=bind_some hb;obtain⟨_,_,hb⟩:=bind_some hb;cases hb;exact qF hf
  ·cases hb
 have h2:e2.seats=e1.seats:=by
  cases hu:M.undoes r1 with
  | true=>rw[hu] at hr;exact eI hr
  | false=>rw[hu] at hr;cases hr;rfl
 exact(xy hq).trans ((nK hl).trans (h2.trans h1))
theorem mG{c n:Int}(hq:M.roomFor e i c=some (e1,n)):e1.seats=e.seats:=by
 unfold M.roomFor at hq;split at hq
 ·obtain⟨_,_,hq⟩:=bind_some hq;cases hq;rfl
 ·obtain⟨_,_,hq⟩:=bind_some hq;obtain⟨_,_,hq⟩:=bind_some hq;obtain⟨e2,hw,hq⟩:=bind_some hq;obtain⟨_,_,hq⟩:=bind_some hq;cases hq;exact(Bd hw:e2.seats=e.seats)
abbrev blP:Pg:={ pg0 with kind:=2 }
theorem tK(w:World):Cl prog 223 [] w λo w'=>o=.agg (pcs blP nl)/\Fm F0 w w':=by refine cU0 func223 ?_;refine ae ?_;rintro b1 w1 rfl hs1 hw1 hf1;refine bst (pcs blP nl) ?_;refine ao hw1 (λw2 hw2 hs2 hf2=>?_) rfl rfl rfl;simp only[RU,aa (n:=6) hw2 rfl];exact Fm.own hf1 hf2 (λy e=>by omega)
theorem yC(h:RP w O B e u rv yv ss)(hi:e.seats[i]?=some s)(hp:s.plan=some p)(hwk:p.wk=2)(hr0:s.rep.rows=[]){c n:Int}(hq:M.roomFor e i c=some (e1,n)):Cl prog 131 [pv B.x,sp B i,iv c] w λo w'=>o=iv 0/\Ex O w B (M.modPlan e1 i (M.see p n 302)) w':=by
 have h8:=(h.cW hi).1;have he1:=mG hq;refine cU3 func131 ?_ (V []) (J [(16,[7]),(8,[9])]);simp only[RU,h.c 19 (by decide)];refine(uM (h.al.sp (by decide)).st c).mono ?_;rintro _ w1 ⟨rfl,hf1⟩;have h1:=h.aS hf1;simp only[RU];refine aJ (λvs w2=>∃O2 u2 ss2,vs=[iv n]/\RP w2 O2 B e1 u2 rv yv ss2/\Stp O w O2 w2) ?_ ?_
 ·rintro _ w2 ⟨O2,u2,ss2,rfl,h2,s2⟩;have hi2:e1.seats[i]?=some s:=by rw[he1];exact hi
  obtain⟨b,rv',lv,rr,rr0,c12,hP,k1,k2,k3⟩:=h2.o8 hi2 hp;simp only[RU,c12];refine(uS hP hwk n).mono ?_;rintro _ w3 ⟨hP3,hf3⟩;obtain⟨O3,h3,s3⟩:=h2.y9 hi2 hr0 k1 k2 k3 hP3 hP.ob hf3;exact⟨O3,u2,rv,yv,ss2,h3,s2.trans s3⟩
 ·intro kk hkk;unfold M.roomFor at hq;cases hr:e.room with
  | some x=>rw[hr] at hq;obtain⟨_,hg,hq⟩:=bind_some hq;cases hq;have hg:=of_decide_eq_true (ak hg);simp only[RU,show gk (some x) c=(2,true) by simp[gk,hg]];exact hkk _ _ ⟨O,u,ss,rfl,h1,Stp.gT hf1⟩
  | none=>
   rw[hr] at hq;obtain⟨_,hg,hq⟩:=bind_some hq;obtain⟨t,ht,hq⟩:=bind_some hq;obtain⟨e2,hw,hq⟩:=bind_some hq;obtain⟨_,hg2,hq⟩:=bind_some hq;cases hq;have hg:=ak hg;simp only[Bool.and_eq_true,decide_eq_true_eq] at hg;have hg2:=of_decide_eq_true (ak hg2);simp only[RU,show gk (none:Option Int) c=(0,false) by simp[gk]];simp only[RU,h1.c 20 (by decide),h1.c (1+3) (by decide),hg.1,decide_eq_false (show ¬e.pages<=2 by omega)];refine aJ (λvs w2=>∃b2 a,vs=[pv b2]/\w2.heap[b2]?=some (.cells (txV t a) 107)/\Fm F0 w1 w2) ?_ ?_
   ·rintro _ w2 ⟨b2,a,rfl,hb2,hf2⟩;have hd:=Fm.drew F0 w2;have h2:=h1.aS (Fmf hf2 hd);have hb2d:=hd.heap hb2 id;simp only[RU];refine⟨λwx=>Fm F0 w2.drew wx,Fm.refl _ _,iv i,λwx hx=>?_,?_⟩
    ·simp only[RU,(h2.aS hx).who hi,and_self]
    refine⟨iv t.xid,λwx hx=>?_,?_⟩
    ·simp only[RU,ab (hx.heap hb2d id),and_self]
    refine(tK _).mono ?_;rintro _ w3 ⟨rfl,hf3⟩;refine⟨hf3,ag (Eo 2 blP nl _) ⟨rfl,ag (EA 2 blP nl _) ?_⟩⟩;have hfa:=Fm.alloc F0 w3 (.cells (imC (2,blP,nl)).toArray 233);have hcs:CellsAt (w3.alloc (.cells (imC (2,blP,nl)).toArray 233)) (.slice (some ⟨w3.heap.size,0,none⟩) 1 1) 1 7 (imC (2,blP,nl)):=CellsAt.aT (da (w:=w3) (e:=233) (sz:=7) (n:=1) (l:=imC (2,blP,nl)) rfl (Nat.le_refl _) (by decide));have h3:=(h2.aS hf3).aS hfa;have l3:=(h2.aS hf3).free (Nat.le_refl _);refine⟨Fmf hf3 hfa,?_⟩;generalize w3.alloc (.cells (imC (2,blP,nl)).toArray 233)=wa at hfa hcs h3 ⊢;refine bst (rcs { M.rec0 with kind:=13,xid:=t.xid,imgs:=[(2,blP)] } nl nl (.slice (some ⟨w3.heap.size,0,none⟩) 1 1) nl nl) ⟨rfl,?_⟩;have hbl:PgN wa 0 nl blP:=⟨rfl,CellsAt.aT (World.ownsRow_nil wa 0 9 1),λx hx=>by simp[pg0] at hx,by decide,λ_ _ _=>Nat.zero_le _⟩;refine(lD h3 (.inr ⟨(2,blP),nl,rfl,hcs,hbl,rfl,λy hy=>by cases hy;exact l3⟩) hw).mono ?_;rintro _ w4 ⟨rfl,O4,u4,h4,s4⟩;simp only[RU,show((0:Int) == 0)=true from rfl,h4.c 20 (by decide),af (n:=e2.fresh+1) (by omega)];refine(h4.al.x (by decide)).AS (o:=20) (by decide) rfl λw5 hx hs5 hf5=>?_;have h5:RP w5 O4 B { e2 with fresh:=e2.fresh+1 } u4 rv yv ss:=h4.cells (e':={ e2 with fresh:=e2.fresh+1 }) hx hf5 (hp:=h4.ph);exact hkk _ _ ⟨O4,u4,ss,rfl,h5,((Stp.gT (Fmf (Fmf (Fmf hf1 (Fmf hf2 hd)) hf3) hfa)).trans s4).trans ⟨Gr.refl _ _,hf5.mono (λy _ e=>by rw[e,h4.x0];decide)⟩⟩
   ·intro kk' hkk';exact txj h1 hi ht (λw3 b a g1 g2 _=>hkk' _ _ ⟨b,a,rfl,g1,g2⟩)
end
section
variable{w w' w1 w2:World}{B:Bk}{u v rv yv:Value}{O O' O1 O2:Nat->Nat}{e e' e1:E}{ss:List (List Value)}{i:Nat}{D:Nat->Prop}{t:Tx}{s:Seat}{p q:Pn}
def Hq(e:E)(i:Nat)(s:Seat)(p:Pn):Option E:=match p.wk with
  | 1=>do
   let (e,r) <- M.tryK e i p.wkey
   some (M.modPlan e i (match r with
    | 0=>M.look p
    | 1=>p
    | _=>M.fin p { M.rp0 with err:=181 }))
  | 2=>do
   let (e,n) <- M.roomFor e i p.wsz
   M.show_ (M.modPlan e i (M.see p n 302)) i (M.see p n 302)
  | 3=>M.show_ e i p
  | _=>none
theorem Hw(p:Pn):cJ false 1 0 (.agg (waC p))=some (iv p.wk):=by kernel_rfl
theorem Fy{k:Bs}{who:Int}{r:Nat}(hq:M.tryK e who k=some (e',r)):r=0\/r=1\/r=2:=by
 unfold M.tryK at hq;cases hc:decide ((getD e.holds k).getD who=who) with
 | true=>simp only[hc,cond_true] at hq;cases hq;exact .inl rfl
 | false=>
  simp only[hc,cond_false] at hq;obtain⟨b,_,hq⟩:=bind_some hq;cases b<;>cases hq
  ·exact .inr (.inl rfl)
  ·exact .inr (.inr rfl)
theorem yZ{k:Bs}{who:Int}{r:Nat}(hq:M.tryK e who k=some (e',r)):e'.seats=e.seats:=by
 unfold M.tryK at hq;cases hc:decide ((getD e.holds k).getD who=who) with
 | true=>simp only[hc,cond_true] at hq;cases hq;rfl
 | false=>simp only[hc,cond_false] at hq;obtain⟨b,_,hq⟩:=bind_some hq;cases b<;>cases hq<;>rfl
theorem ky(h:RP w O B e u rv yv ss)(hi:e.seats[i]?=some s)(hq:M.follow e i=some e'):Cl prog 51 [pv B.x,sp B i] w λo w'=>o=iv 0/\Ex O w B e' w':=by
 have h8:=(h.cW hi).1;unfold M.follow at hq;rw[h.at_ hi] at hq;obtain⟨_,hg,hq⟩:=bind_some hq;have hr0:s.rep.rows=[]:=List.isEmpty_iff.1 (ak hg);obtain⟨p,hp,hq⟩:=bind_some hq;obtain⟨e1,hm,hend⟩:=bind_some hq
 replace hm:Hq e i s p=some e1:=hm
 obtain⟨b,rv',lv,rr,rr0,c12,hP,k1,k2,k3⟩:=h.o8 hi hp;refine cU2 func51 ?_ (V []) (J [(10,[]),(14,[]),(20,[9])]);simp only[RU,c12];refine(lB hP).mono ?_;rintro _ w1 ⟨rfl,hf1⟩;refine aE (us:=waC p) (λw2 hs2 hw2 hf2=>?_) rfl rfl rfl;have h2:=h.aS (Fmf hf1 hf2);have s2:Stp O w O w2:=Stp.gT (Fmf hf1 hf2);refine aJ (λvs w3=>vs=[]/\∃O3 u3 rv3 yv3 ss3 e3 p3,RP w3 O3 B e3 u3 rv3 yv3 ss3/\Stp O w O3 w3/\w3.heap[w1.heap.size]?=some (.cells (waC p3) 217)/\((p3.wk=3/\∃s3,e3.seats[i]?=some s3/\s3.plan=some p3/\s3.rep.rows=[]/\M.show_ e3 i p3=some e1)\/(p3.wk≠3/\e3=e1))) ?_ ?_
 ·rintro _ w3 ⟨rfl,O3,u3,rv3,yv3,ss3,e3,p3,h3,s3,hw3,hc⟩;simp only[RU];refine aJ (λvs w4=>vs=[]/\∃O4 u4 rv4 yv4 ss4,RP w4 O4 B e1 u4 rv4 yv4 ss4/\Stp O w O4 w4) ?_ ?_
  ·rintro _ w4 ⟨rfl,O4,u4,rv4,yv4,ss4,h4,s4⟩;unfold M.ended at hend;obtain⟨p5,hp5,hend⟩:=bind_some hend;have hi4:=h4.eQ h8;obtain⟨b4,rv5,lv5,rr5,rr6,c5,hP4,j1,j2,j3⟩:=h4.o8 hi4 hp5;simp only[RU,c5];refine(lB hP4).mono ?_;rintro _ w5 ⟨rfl,hf5⟩;have h5:=h4.aS hf5;have s5:=s4.trans (Stp.gT hf5);have c5':=hf5.j6 c5 id;by_cases hk:p5.wk=4
   ·rw[decide_eq_true hk,cond_true] at hend;simp only[RU,Hw p5,show(p5.wk != 4)=false by rw[hk];rfl,c5'];have c1:w5.cell? ⟨B.x,23+i*25+1,none⟩=some (.int .u8 (M.seatAt e1 i).ask.call):=by obtain⟨_,_,_,_,_,_,_,kc⟩:=h5.cW hi4;exact kc 1 (by decide)
    by_cases he:p5.rep.err=0
    ·rw[decide_eq_true he,cond_true] at hend;obtain⟨_,hrl,hend⟩:=bind_some hend;cases hend;have hrl:=of_decide_eq_true (ak hrl);refine(mF (hP4.keep hf5 iT) hk (by omega)).mono ?_;rintro _ w6 ⟨ur,rfl,hur,hf6⟩;refine aE (us:=rpC p5.rep ur) (λw7 hs7 hw7 hf7=>?_) rfl rfl (by simp[aB hur];exact⟨rfl,rfl,rfl⟩);have hF57:=Fmf hf6 hf7;simp only[RU,ab hw7,show(rpC p5.rep ur)[0]?=some (iv p5.rep.err) from rfl,show(p5.rep.err == 0)=true from beq_iff_eq.2 he,aa (n:=4) hw7 rfl];refine(iz (h5.aS hF57) h8 (r:=p5.rep) ((CellsAt.aT hur).keep hf7 iT) (λy hy=>⟨h5.free (fq hur hy),?_⟩)).mono ?_
     ·exact Nat.lt_of_lt_of_le (aO hur y (@blo ur y ur (aZ (CellsAt.aT hur)) hy)).2 hf7.size
     rintro _ w8 ⟨rfl,O8,ss8,h8',g8,f8⟩;exact⟨rfl,O8,_,_,_,_,h8',s5.trans ⟨g8.mono (λy e=>e.elim (λe=>Nat.le_trans hF57.size e) (λe=>fq hur e)),hF57.trans f8 iE (λy _ e=>by rw[e,h5.x0];decide)⟩⟩
    ·rw[decide_eq_false he,cond_false] at hend;obtain⟨_,hcl,hend⟩:=bind_some hend;obtain⟨t,ht,hend⟩:=bind_some hend;cases hend;have hcl:=ak hcl;simp only[Bool.and_eq_true,Bool.not_eq_true',decide_eq_false_iff_not,decide_eq_true_eq] at hcl;obtain⟨hcl,hrl⟩:=hcl;refine(mF (hP4.keep hf5 iT) hk (by omega)).mono ?_;rintro _ w6 ⟨ur,rfl,hur,hf6⟩;refine aE (us:=rpC p5.rep ur) (λw7 hs7 hw7 hf7=>?_) rfl rfl (by simp[aB hur];exact⟨rfl,rfl,rfl⟩);have hF57:=Fmf hf6 hf7;have h7:=h5.aS hF57;have c1':=hF57.j6 c1 id;simp only[RU,ab hw7,show(rpC p5.rep ur)[0]?=some (iv p5.rep.err) from rfl,show(p5.rep.err == 0)=false from beq_eq_false_iff_ne.2 he,c1',show((M.seatAt e1 i).ask.call == 2)=false from beq_eq_false_iff_ne.2 hcl.1,show((M.seatAt e1 i).ask.call == 5)=false from beq_eq_false_iff_ne.2 hcl.2];refine aJ (λvs w8=>∃b2 a,vs=[pv b2]/\w8.heap[b2]?=some (.cells (txV t a) 107)/\Fm F0 w7 w8/\w7.heap.size<=b2) ?_ ?_
     ·rintro _ w8 ⟨b2,a,rfl,hb2,hf8,hl2⟩;have hd8:=Fm.drew F0 w8;have h8d:=(h7.aS hf8).aS hd8;have hb2d:=hd8.heap hb2 id;have hxl:=(h7.al.x (by decide)).lt;have hw8:=hd8.heap (hf8.heap hw7 id) id;simp only[RU];refine⟨λwx=>Fm (·=B.x) w8.drew wx,Fm.refl _ _,?_⟩;simp only[RU,ab (hf8.heap hw7 id),show(rpC p5.rep ur)[0]?=some (iv p5.rep.err) from rfl];refine⟨iv t.last,λwx hx=>?_,?_⟩
      ·simp only[RU,ab (hx.heap hb2d (by omega)),and_self]
      let sq:Seat:=M.seatAt e1 i;refine h8d.seat1 (j:=13) (s':={ sq with why:=p5.rep.err }) hi4 (by decide) rfl (λ_ _=>rfl) rfl rfl λw9 ss9 h9 hf9=>?_;refine⟨hf9,?_⟩;refine h9.seat1 (j:=14) (s':={ sq with why:=p5.rep.err,next:=t.last }) (h8d.seat_set hi4 _) (by decide) rfl (λ_ _=>rfl) rfl rfl λwa ssa ha hfa=>?_;refine ha.seat1 (j:=6) (s':={ sq with why:=p5.rep.err,next:=t.last,wk:=.roll }) (h9.seat_set (h8d.seat_set hi4 _) _) (by decide) rfl (λ_ _=>rfl) rfl rfl λwb ssb hb hfb=>?_;rw[List.set_set,List.set_set] at hb;have fx:∀{a b:World},Fm (·=B.x) a b->Stp O4 a O4 b:=λf=>⟨Gr.refl _ _,f.mono (λy _ e=>by rw[e,h5.x0];decide)⟩;exact⟨O4,u4,rv4,yv4,ssb,hb,(((s5.trans (Stp.gT (Fmf (Fmf hF57 hf8) hd8))).trans (fx hf9)).trans (fx hfa)).trans (fx hfb)⟩
     ·intro kk' hkk';exact txj h7 hi4 ht (λw3 b a g1 g2 g3=>hkk' _ _ ⟨b,a,rfl,g1,g2,g3⟩)
   ·rw[decide_eq_false hk,cond_false] at hend;cases hend;simp only[RU,Hw p5,show(p5.wk != 4)=true from bne_iff_ne.2 hk];exact h5.ex s5
  ·intro kk hkk;simp only[RU,ab hw3,show(waC p3)[0]?=some (iv p3.wk) from rfl,show(waC p3)[3]?=some (iv p3.wpg) from rfl];rcases hc with⟨hk,s3',hi3,hp3,hr3,hsh⟩|⟨hk,rfl⟩
   ·simp only[RU,show(p3.wk == 3)=true from beq_iff_eq.2 hk];refine(yJ h3 hi3 hp3 hk hr3 hsh).mono ?_;rintro _ w4 ⟨rfl,O4,u4,rv4,yv4,ss4,h4,s4⟩;simp only[RU,show((0:Int) != 0)=false from rfl];exact hkk _ _ ⟨rfl,O4,u4,rv4,yv4,ss4,h4,s3.trans s4⟩
   ·simp only[RU,show(p3.wk == 3)=false from beq_eq_false_iff_ne.2 hk];exact hkk _ _ ⟨rfl,O3,u3,rv3,yv3,ss3,h3,s3⟩
 ·intro kk hkk;simp only[RU,ab hw2,show(waC p)[0]?=some (iv p.wk) from rfl];have hl7:=aj hw2;have h97:O w1.heap.size=99:=h.free hf1.size;have hP2:=hP.keep (Fmf hf1 hf2) iT;unfold Hq at hm;split at hm
  ·rename_i hwk;obtain⟨⟨et,r⟩,htr,hm⟩:=bind_some hm;cases hm;have hd:=Fm.drew F0 w2;have h2d:=h2.aS hd;simp only[RU,show(p.wk == 1)=true from beq_iff_eq.2 hwk];refine⟨λwx=>Fm (λy=>O y=3) w2.drew wx,Fm.refl _ _,pv b,λwx hx=>?_,?_⟩
   ·have cx:=hx.j6 (hd.j6 ((Fmf hf1 hf2).j6 c12 id) id) (by rw[h.x0];decide);simp only[RU,cx,and_self]
   simp only[RU,h2.c 16 (by decide),h2.who hi,ab hw2,show(waC p)[1]?=some (stv p.wkey) from rfl];refine(xI h2d htr).mono ?_;rintro _ w3 ⟨rfl,h3,hf3⟩;refine⟨hf3,?_⟩;simp only[RU];have hi3:et.seats[i]?=some s:=by rw[yZ htr];exact hi
   have hbO:O b=10+i:=hP.ob;have hP3:=(hP2.keep hd iT).keep hf3 (λy hy e=>by rw[hy] at e;omega);refine(xE hP3 hwk (r == 0) (if r=2 then 181 else 0)).mono ?_;rintro _ w4 ⟨⟨rr',hP4⟩,hf4⟩;have k2':=(k2.keep (Fmf (Fmf hf1 hf2) hd) iT).keep hf3 (λy hy e=>by have:=k3 y hy;omega);obtain⟨O4,h4,s4⟩:=h3.y9 hi3 hr0 k1 k2' k3 hP4 hbO hf4;have hb7:b≠w1.heap.size:=λe=>by rw[<- e,hbO] at h97;omega
   have hw4:=hf4.heap (hf3.heap (hd.heap hw2 id) (by rw[h97];decide)) (λe=>hb7 e.symm);refine hkk _ _ ⟨rfl,O4,u,rv,yv,ss,_,p,h4,((s2.trans (Stp.gT hd)).trans (Stp.of (Gr.refl _ _) (by decide) hf3)).trans s4,hw4,.inr ⟨by omega,?_⟩⟩;rcases Fy htr with rfl|rfl|rfl<;>rfl
  ·rename_i hwk;obtain⟨⟨er,n⟩,hro,hm⟩:=bind_some hm
   replace hm:M.show_ (M.modPlan er i (M.see p n 302)) i (M.see p n 302)=some e1:=hm
   simp only[RU,show(p.wk == 1)=false by rw[hwk];rfl,show(p.wk == 2)=true from beq_iff_eq.2 hwk,ab hw2,show(waC p)[2]?=some (iv p.wsz) from rfl];refine(yC h2 hi hp hwk hr0 hro).mono ?_;rintro _ w3 ⟨rfl,O3,u3,rv3,yv3,ss3,h3,s3⟩;have hier:er.seats[i]?=some s:=by rw[mG hro];exact hi
   have hmp:M.modPlan er i (M.see p n 302)={ er with seats:=er.seats.set i { s with plan:=some (M.see p n 302) } }:=by unfold M.modPlan M.setSeat M.seatAt;rw[List.getD_eq_getElem?_getD,hier];rfl
   have hi3:(M.modPlan er i (M.see p n 302)).seats[i]?=some { s with plan:=some (M.see p n 302) }:=by rw[hmp];show(er.seats.set i _)[i]?=_;rw[List.getElem?_set_self (List.getElem?_eq_some_iff.1 hier).1]
   obtain⟨b3,rv4,lv4,rr4,rr5,c3,hP3,_⟩:=h3.o8 hi3 rfl;have hw3:=s3.f.heap hw2 (λe=>e h97);simp only[RU,show((0:Int) != 0)=false from rfl,c3];refine(lB hP3).mono ?_;rintro _ w4 ⟨rfl,hf4⟩;refine ao (hf4.heap hw3 id) (λw5 hw5 hs5 hf5=>?_) rfl rfl rfl;have h97':=s3.free hl7 h97;have h5:=(h3.aS hf4).iF h97' hf5;exact hkk _ _ ⟨rfl,O3,u3,rv3,yv3,ss3,_,M.see p n 302,h5,((s2.trans s3).trans (Stp.gT hf4)).loc hf5 hf1.size,hw5,.inl ⟨rfl,_,hi3,rfl,hr0,hm⟩⟩
  ·rename_i hwk;simp only[RU,show(p.wk == 1)=false by rw[hwk];rfl,show(p.wk == 2)=false by rw[hwk];rfl];exact hkk _ _ ⟨rfl,O,u,rv,yv,ss,e,p,h2,s2,hw2,.inl ⟨hwk,s,hi,hp,hr0,hm⟩⟩
  ·cases hm
end
section
variable{w w' w1 w2:World}{B:Bk}{u v rv yv:Value}{O O' O1 O2:Nat->Nat}{e e' e1:E}{ss:List (List Value)}{i:Nat}{D:Nat->Prop}{t:Tx}{s:Seat}{p q:Pn}
theorem zf{b bm:Nat}{T:List (Int×Nat)}{L:List (Int×Tx)}(h:TxAt w D b bm T L){who:Int}(ht:getD L who=none):Cl prog 29 [pv b,iv who] w λo w'=>o=.tuple #[.agg #[iv 0,nl,iv 0,iv 0,iv 0,iv 0],.bool false]/\Fm F0 w w':=by refine cU2 func29 ?_;refine ae ?_;rintro b1 w1 rfl hs1 hw1 hf1;have h1:=h.keep hf1 iT;have e:=aW K174 h1.mp who false (z:=np) (by kernel_rfl);rw[h.none ht] at e;refine cU2 func87 ?_;simp only[RU,ab h1.st];refine ag e ?_;simp only[RU,okV,cond_false,show((182:Int) != 0)=true from rfl];refine bst #[iv 0,nl,iv 0,iv 0,iv 0,iv 0] ?_;refine ao hw1 (λw3 hw3 hs3 hf3=>?_) rfl rfl rfl;simp only[RU,aa (n:=6) hw3 rfl];exact Fm.own hf1 hf3 (λy e=>by omega)
theorem IM(h:RP w O B e u rv yv ss)(hi:e.seats[i]?=some s)(ht:getD e.txns (i:Int)=none){kk:Value->Value->World->Prop}{zs:Array Value}(K:∀w3 b,w3.heap[b]?=some (.cells #[iv 0,nl,iv 0,iv 0,iv 0,iv 0] 107)->Fm F0 w w3->w.heap.size<=b->kk (pv b) (.bool false) w3)(hz:zs.size=6:=by rfl):∃C:World->Prop,C w.drew/\∃v,(∀w1,C w1->Pu (w1.cell? ⟨B.x,17,none⟩) λu=>u=v/\True)/\∃v1,(∀w1,C w1->Pu (w1.cell? ⟨B.x,23+i*25,none⟩) λu=>u=v1/\True)/\((Cl prog 29 [v,v1] w.drew λv w2=>Pu (bj v 0) λa=>Pu (bj v 1) λc=>New zs 107 w2 λp w3=>St 6 w3 p a λ_ w4=>kk p c w4)/\(New zs 107 w.drew λp w1=>C w1/\Cl prog 29 [v,v1] w1 λv w2=>Pu (bj v 0) λa=>Pu (bj v 1) λc=>St 6 w2 p a λ_ w3=>kk p c w3)/\True):=by
 have hd:=Fm.drew F0 w;refine⟨λwx=>Fm F0 w.drew wx,Fm.refl _ _,pv B.tb,λwx hx=>?_,iv i,λwx hx=>?_,two (Y:=F0) (λ_ _ us uu=>us=#[iv 0,nl,iv 0,iv 0,iv 0,iv 0]/\uu=.bool false) (λw1 hf1=>?_) (λ_ h=>h) (λ_ e=>e.elim) (λ_ _ _ _ _ _ h _=>h) ?_ hz⟩
 ·simp only[RU,((h.aS hd).aS hx).c 17 (by decide),and_self]
 ·simp only[RU,((h.aS hd).aS hx).who hi,and_self]
 ·obtain⟨T,hT⟩:=h.al.tx (by decide);refine(zf (hT.keep (Fmf hd hf1) iT) ht).mono ?_;rintro _ w2 ⟨rfl,hf2⟩;exact⟨_,_,rfl,rfl,rfl,⟨rfl,rfl⟩,hf2⟩
 ·rintro base w3 b us uu _ hb _ hw3 ⟨rfl,rfl⟩ hf;exact K w3 b hw3 (Fmf hd hf) (Nat.le_trans hd.size hb)
theorem TxAt.lt{b bm:Nat}{T:List (Int×Nat)}{L:List (Int×Tx)}(h:TxAt w D b bm T L):TxAt w (λy=>D y/\y<w.heap.size) b bm T L:=by
 have hg:∀p∈T,p.2<w.heap.size:=λp hp=>by obtain⟨t,a,_,h2,_⟩:=h.at_ p.1 p.2 ((getD_some h.mp.keys).2 hp);exact aj h2
 refine⟨h.st,h.mp,h.keys,h.nd,⟨⟨h.ob.1,aj h.st⟩,⟨h.ob.2.1,h.mp.lt⟩,λp hp=>⟨h.ob.2.2 p hp,hg p hp⟩⟩,λwho g hk=>?_⟩;obtain⟨t,a,h1,h2,h3,h4⟩:=h.at_ who g hk;refine⟨t,a,h1,h2,h3,λy hy=>⟨⟨(h4 y hy).1,?_⟩,(h4 y hy).2⟩⟩;obtain⟨cs,fz,hb⟩:=(h4 y hy).2;exact(Array.getElem?_eq_some_iff.1 hb).1
theorem tN{n:Int}{S:List Seat}(hq:M.close e i n=some e'):M.close { e with seats:=S } i n=some { e' with seats:=S }/\e'.seats=e.seats:=by
 unfold M.close at hq;obtain⟨t,ht,hq⟩:=bind_some hq;obtain⟨_,hg,hq⟩:=bind_some hq;obtain⟨e1,hr,hq⟩:=bind_some hq;cases hq;unfold M.release at hr;obtain⟨_,hg2,hr⟩:=bind_some hr;cases hr;refine⟨?_,rfl⟩;show(getD e.txns (i:Int) >>= _)=_;rw[ht];show(M.gd _ >>= _)=_;rw[hg];show((M.gd _ >>= _) >>= _)=_;rw[hg2]
 rfl
theorem RP.C0(h:RP w O B e u rv yv ss){x:Int}(hs:w'.heap[B.ib]?=some (.cells #[iv e.m,iv x,iv 1] 182))(hf:Fm (·=B.ib) w w'):RP w' O B { e with nxt:=x } u rv yv ss/\Fm (λy=>O y=5) w w':=by have ob:=(h.al.id (by decide)).ob;have hf5:Fm (λy=>O y=5) w w':=hf.mono (λy _ e=>by rw[e];exact ob);have o:=h.keep hf5;exact⟨⟨⟨λ_=>o.sys (by decide),λ_=>o.st (by decide),λ_=>o.lk (by decide),λ_=>o.tx (by decide),λ_=>⟨hs,ob⟩,λ_=>o.sp (by decide),λ_=>o.rs (by decide),λi s k hi=>o.se i s (by omega) hi,λ_=>o.x (by decide)⟩,λy hy=>Nat.lt_of_lt_of_le (h.lt y hy) hf.size,h.x0,h.sl,h.mo,h.ph,h.uo⟩,hf5⟩
theorem tI(h:RP w O B e u rv yv ss)(hi:e.seats[i]?=some s)(hq:M.begin e i=some e'):Cl prog 20 [pv B.x,sp B i] w λo w'=>o=iv 0/\Ex O w B e' w':=by
 have h8:=(h.cW hi).1;unfold M.begin at hq;rw[h.at_ hi] at hq;by_cases hc1:s.ask.call=1
 ·refine cU2 func20 ?_ (V []) (J [(2,[5,6]),(46,[]),(23,[126]),(27,[]),(34,[168])]);simp only[hc1] at hq;obtain⟨_,hg,hq⟩:=bind_some hq;have hg:=ak hg;simp only[Bool.and_eq_true,Option.isNone_iff_eq_none] at hg;cases hq;refine aJ (λvs w2=>∃b2,vs=[pv b2,.bool false]/\Fm F0 w w2) ?_ ?_
  ·rintro _ w2 ⟨b2,rfl,hf2⟩;have h2:=h.aS hf2;obtain⟨_,_,_,_,_,_,_,kc⟩:=h2.cW hi;have c1:w2.cell? ⟨B.x,23+i*25+1,none⟩=some (.int .u8 1):=by rw[<- hc1];exact kc 1 (by decide)
   simp only[RU,c1];have hd:=Fm.drew F0 w2;have h2d:=h2.aS hd;refine⟨λwx=>Fm F0 w2.drew wx,Fm.refl _ _,pv B.tb,λwx hx=>?_,iv i,λwx hx=>?_,?_⟩
   ·simp only[RU,(h2d.aS hx).c 17 (by decide),and_self]
   ·simp only[RU,(h2d.aS hx).who hi,and_self]
   simp only[RU,h2.c 18 (by decide)];refine⟨pv B.tb,λwx hx=>?_,?_⟩
   ·simp only[RU,(h2d.aS hx).c 17 (by decide),and_self]
   refine(xP (h2d.al.id (by decide)).st).mono ?_;rintro _ _ ⟨rfl,rfl⟩;obtain⟨T,hT⟩:=h2d.al.tx (by decide);obtain⟨hlen,hnd⟩:=hT.len hg.2;refine⟨Fm.refl _ _,(fB hT hlen).mono ?_⟩;rintro rr w3 ⟨A,hA,hA12,hrr,hf3⟩;refine⟨hf3,(uU (CellsAt.aT hrr) hA12 (hA.nodup_iff.2 hnd) e.nxt).mono ?_⟩;rintro _ w4 ⟨us,S,rfl,hS,hus,hf4⟩;have h4:=(h2d.aS hf3).aS hf4;refine⟨Fmf hf3 hf4,(qd (l:=M.running e.txns) ((hT.keep hf3 (λ_ _ e=>e)).keep hf4 (λ_ _ e=>e)) hg.1 (jE hus (by have:=hS.length_eq;omega) (λx=>by rw[hS.mem_iff];exact yD hA x))).mono ?_⟩;rintro _ w5 ⟨rfl,⟨g,hT5⟩,hf5⟩;obtain⟨O5,h5,s5,_⟩:=h4.C8 hT5.lt (λy hy=>hy) (hf5.mono (λy _ e=>by rw[e];exact hT.ob.2.1));refine bst (rpC M.rp0 nl) ?_;refine(iz h5 h8 (r:=M.rp0) (CellsAt.aT (World.ownsRow_nil w5 0 23 2)) (λy hy=>by cases hy)).mono ?_;rintro _ w6 ⟨rfl,O6,ss6,h6,g6,f6⟩;exact⟨rfl,O6,_,_,_,_,h6,((Stp.gT (Fmf (Fmf (Fmf hf2 hd) hf3) hf4)).trans s5).trans ⟨g6.mono (λy e=>e.elim id (λe=>by cases e)),f6.mono (λy _ e=>by rw[e,h5.x0];decide)⟩⟩
  ·intro kk hkk;exact IM h hi hg.1 (λw3 b g1 g2 _=>hkk _ _ ⟨b,rfl,g2⟩)
 ·obtain⟨t,ht⟩:∃t,getD e.txns (i:Int)=some t:=by
   dsimp only at hq;split at hq
   ·rename_i hk;exact absurd hk hc1
   ·obtain⟨t,ht,_⟩:=bind_some hq;exact⟨t,ht⟩
   ·obtain⟨t,ht,_⟩:=bind_some hq;exact⟨t,ht⟩
   ·obtain⟨t,ht,_⟩:=bind_some hq;exact⟨t,ht⟩
  refine cU2 func20 ?_ (V []) (J [(2,[5,6]),(46,[]),(23,[126]),(27,[]),(34,[168])]);refine aJ (λvs w2=>∃b2 a,vs=[pv b2,.bool true]/\w2.heap[b2]?=some (.cells (txV t a) 107)/\Fm F0 w w2/\w.heap.size<=b2) ?_ ?_
  ·rintro _ w2 ⟨b2,a,rfl,hb2,hf2,hl2⟩;have h2:=h.aS hf2;obtain⟨_,_,_,_,_,_,_,kc⟩:=h2.cW hi;have c1:w2.cell? ⟨B.x,23+i*25+1,none⟩=some (.int .u8 s.ask.call):=kc 1 (by decide);by_cases h67:s.ask.call=6\/s.ask.call=7
   ·have n8:(s.ask.call == 8)=false:=by rcases h67 with e|e<;>rw[e]<;>rfl
    have n9:(s.ask.call == 9)=false:=by rcases h67 with e|e<;>rw[e]<;>rfl
    simp only[RU,c1,show(s.ask.call == 1)=false from beq_eq_false_iff_ne.2 hc1,n8,n9];refine aJ (λ_ _=>False) (λ_ _ h=>h.elim) λkk0 _=>?_;refine aJ (λvs w3=>vs=[.bool true]/\w3=w2) ?_ ?_
    ·rintro _ _ ⟨rfl,rfl⟩;have hxl:=(h.al.x (by decide)).lt;simp only[RU,ab hb2];refine h2.seat1 (s':={ s with next:=t.last }) hi (by decide) rfl (λ_ _=>rfl) rfl rfl λw3 ss3 h3 hf3=>?_;have hb3:=hf3.heap hb2 (by omega);have hi3:=h2.seat_set hi { s with next:=t.last };have fx:∀{a b:World},Fm (·=B.x) a b->Stp O a O b:=λf=>⟨Gr.refl _ _,f.mono (λy _ e=>by rw[e,h.x0];decide)⟩;have s3:Stp O w O w3:=(Stp.gT hf2).trans (fx hf3);obtain⟨_,_,_,_,_,_,_,kc3⟩:=h3.cW hi3;have c1':w3.cell? ⟨B.x,23+i*25+1,none⟩=some (.int .u8 s.ask.call):=kc3 1 (by decide);simp only[RU,ab hb3];by_cases hl:t.last=0
     ·simp only[RU,show(t.last == 0)=true from beq_iff_eq.2 hl];rcases h67 with e6|e7
      ·simp only[e6] at hq;rw[ht] at hq
       replace hq:(bif decide (t.last=0) then(M.gd (decide (t.xid=0)) >>= λ_=>M.close e i 0 >>= λe2=>some (M.say e2 i M.rp0)) else _)=some e':=hq
       rw[decide_eq_true hl,cond_true] at hq;obtain⟨_,hx0,hq⟩:=bind_some hq;obtain⟨e2,hcl,hq⟩:=bind_some hq;cases hq;have hx0:=of_decide_eq_true (ak hx0);obtain⟨hcl',hse⟩:=tN (S:=e.seats.set i { s with next:=t.last }) hcl;refine aJ (λvs w4=>vs=[]/\w4=w3) ?_ ?_
       ·rintro _ _ ⟨rfl,rfl⟩;simp only[RU,h3.who hi3];refine(iO h3 hcl').mono ?_;rintro _ w4 ⟨h4,s4⟩;refine bst (rpC M.rp0 nl) ?_;refine(iz h4 h8 (r:=M.rp0) (CellsAt.aT (World.ownsRow_nil w4 0 23 2)) (λy hy=>by cases hy)).mono ?_;rintro _ w5 ⟨rfl,O5,ss5,h5,g5,f5⟩;refine⟨rfl,O5,u,rv,yv,ss5,?_,(s3.trans s4).trans ⟨g5.mono (λy e=>e.elim id (λe=>by cases e)),f5.mono (λy _ e=>by rw[e,h4.x0];decide)⟩⟩;have:M.say { e2 with seats:=e.seats.set i { s with next:=t.last } } i M.rp0=M.say e2 i M.rp0:=by unfold M.say M.setSeat;show({ e2 with seats:=(e.seats.set i _).set i _ }:E)=_;rw[List.set_set,hse]
        rw[<- this];exact h5
       ·intro kk hkk;simp only[RU,ab hb3,hx0,show decide ((0:Int)<0)=false from rfl];exact hkk _ _ ⟨rfl,rfl⟩
      ·simp only[e7] at hq;rw[ht] at hq;obtain⟨_,hg,_⟩:=bind_some (show(M.gd (!(decide (t.last=0))) >>= λ_=>M.roll (M.setSeat e i { s with next:=t.last,wk:=.roll }) i)=some e' from hq);have hg:=ak hg;rw[decide_eq_true hl] at hg;cases hg
     ·simp only[RU,show(t.last == 0)=false from beq_eq_false_iff_ne.2 hl,c1'];rcases h67 with e6|e7
      ·simp only[e6] at hq;rw[ht] at hq
       replace hq:(bif decide (t.last=0) then _ else M.commit (M.setSeat e i { s with next:=t.last,wk:=.commit }) i)=some e':=hq
       rw[decide_eq_false hl,cond_false] at hq;simp only[RU,show(s.ask.call == 6)=true from beq_iff_eq.2 e6];refine cU3 func37 ?_;refine h3.seat1 (s':={ s with next:=t.last,wk:=.commit }) hi3 (by decide) rfl (λ_ _=>rfl) rfl rfl λw4 ss4 h4 hf4=>?_;rw[List.set_set] at h4;refine ay (by kernel_rfl) ((jZ h4 (h.seat_set hi _) hq).mono ?_);rintro _ w5 ⟨rfl,hx⟩;exact⟨rfl,hx.after (s3.trans (fx hf4))⟩
      ·simp only[e7] at hq;rw[ht] at hq;obtain⟨_,_,hq⟩:=bind_some (show(M.gd (!(decide (t.last=0))) >>= λ_=>M.roll (M.setSeat e i { s with next:=t.last,wk:=.roll }) i)=some e' from hq);simp only[RU,show(s.ask.call == 6)=false by rw[e7];rfl];refine cU3 func37 ?_;refine h3.seat1 (s':={ s with next:=t.last,wk:=.roll }) hi3 (by decide) rfl (λ_ _=>rfl) rfl rfl λw4 ss4 h4 hf4=>?_;rw[List.set_set] at h4;refine ay (by kernel_rfl) ((pP h4 (h.seat_set hi _) hq).mono ?_);rintro _ w5 ⟨rfl,hx⟩;exact⟨rfl,hx.after (s3.trans (fx hf4))⟩
    ·intro kk hkk;rcases h67 with e|e
     ·simp only[RU,show(s.ask.call == 6)=true from beq_iff_eq.2 e];exact hkk _ _ ⟨rfl,rfl⟩
     ·simp only[RU,show(s.ask.call == 6)=false by rw[e];rfl,show(s.ask.call == 7)=true from beq_iff_eq.2 e];exact hkk _ _ ⟨rfl,rfl⟩
   ·have h6:¬s.ask.call=6:=λe=>h67 (.inl e);have h7:¬s.ask.call=7:=λe=>h67 (.inr e)
    replace hq:((bif M.writes s.ask&&decide (t.xid=0) then(do
      M.gd (M.rightA s.ask 1&&decide (0<e.m / 2 - 2 - M.xGap e.m 1 e.nxt)&&!(decide (e.nxt∈M.running e.txns))&&M.fewT e.txns)
      let e <- M.reserve e 700
      some ({ e with nxt:=M.xAdd e.m e.nxt 1,txns:=cO e.txns (i:Int) { t with xid:=e.nxt } },e.nxt)) else some (e,t.xid):Option (E×Int)) >>= λx=>M.mkP s.ask x.2 >>= λp=>M.follow (M.setSeat x.1 i { M.seatAt x.1 i with plan:=some p,wk:=.follow }) i)=some e':=by
     dsimp only at hq;split at hq
     ·rename_i hk;exact absurd hk hc1
     ·rename_i hk;exact absurd hk h6
     ·rename_i hk;exact absurd hk h7
     ·rw[ht] at hq;exact hq
    obtain⟨⟨e1,x⟩,hx,hq⟩:=bind_some hq;obtain⟨p,hp,hq⟩:=bind_some hq;have hcall:s.ask.call=3\/s.ask.call=4\/s.ask.call=5:=by
     unfold M.mkP at hp;obtain⟨_,hg,_⟩:=bind_some hp;have hg:=ak hg;unfold M.rightA at hg;by_cases k3:s.ask.call=3
     ·exact .inl k3
     ·by_cases k4:s.ask.call=4
      ·exact .inr (.inl k4)
      ·rw[decide_eq_false k3,decide_eq_false k4,cond_false,cond_false] at hg;simp only[Bool.and_eq_true,decide_eq_true_eq] at hg;exact .inr (.inr hg.1)
    have n1:=show(s.ask.call == 1)=false from beq_eq_false_iff_ne.2 hc1;have n6:=show(s.ask.call == 6)=false from beq_eq_false_iff_ne.2 h6;have n7:=show(s.ask.call == 7)=false from beq_eq_false_iff_ne.2 h7;have n8:(s.ask.call == 8)=false:=by rcases hcall with e|e|e<;>rw[e]<;>rfl
    have n9:(s.ask.call == 9)=false:=by rcases hcall with e|e|e<;>rw[e]<;>rfl
    simp only[RU,c1,n1,n8,n9];have hse:e1.seats=e.seats:=by
     cases hc:(M.writes s.ask&&decide (t.xid=0)) with
     | false=>rw[hc] at hx;cases hx;rfl
     | true=>rw[hc] at hx;obtain⟨_,_,hx⟩:=bind_some hx;obtain⟨e2,hr,hx⟩:=bind_some hx;cases hx;exact(eI hr:e2.seats=e.seats)
    refine aJ (λvs w3=>vs=[]/\∃O3 a3,RP w3 O3 B e1 u rv yv ss/\Stp O w O3 w3/\w3.heap[b2]?=some (.cells (txV { t with xid:=x } a3) 107)) ?_ ?_
    ·rintro _ w3 ⟨rfl,O3,a3,h3,s3,hb3⟩;have hi3:e1.seats[i]?=some s:=by rw[hse];exact hi
     have hd:=Fm.drew F0 w3;have h3d:=h3.aS hd;obtain⟨_,rr,pl,k1,k2,k3,k4,kc3⟩:=h3d.cW hi3;have hak:aM w3.drew ⟨B.x,23+i*25+1,none⟩ 5=some (.agg (akC s.ask)):=aN (l:=(akC s.ask).toList) rfl λj hj=>by
      rw[aC,show 23+i*25+1+j=23+i*25+(1+j) by omega,kc3 (1+j) (by omega)]
      match j,hj with
      | 0,_=>rfl
      | 1,_=>rfl
      | 2,_=>rfl
      | 3,_=>rfl
      | 4,_=>rfl
     simp only[RU,hak,ab hb3];refine(mA hp).mono ?_;rintro _ w4 ⟨b4,rfl,hl4,hP4,hf4⟩;have h4:=h3d.aS hf4;simp only[RU,show((0:Int) != 0)=false from rfl];refine(h4.al.x (by decide)).A0 k1 (j:=12) (by decide) rfl λw5 hx5 hs5 hf5=>?_;have hb4:=aj hP4.st;have hxl:=(h3d.al.x (by decide)).lt;have hne:∀y,O3 y=10+i->¬y=B.x:=λy e c=>by rw[c,h3.x0] at e;omega
     have hP5:=hP4.keep hf5 (λy hy e=>by omega);have hse5:SeatAt w5 (λy=>y=b4\/blockOf rr=some y) i { s with plan:=some p } (seC i { s with plan:=some p } rr (pv b4)):=⟨rr,pv b4,rfl,(k2.keep hf4 (λ_ _ e=>e)).keep hf5 (λy hy=>hne y (k3 y hy)),λy hy=>.inr hy,b4,nl,nl,nl,rfl,hP5.wide (λy hy=>.inl hy)⟩;obtain⟨O5,h5,g5⟩:=h4.tO (s':={ s with plan:=some p }) (cs':=seC i { s with plan:=some p } rr (pv b4)) h8 hx5 hf5 hse5 (λy hy=>by
      rcases hy with rfl|hy
      ·exact⟨.inr (h3d.free hl4),by omega⟩
      ·exact⟨.inl (k3 y hy),by have:=h4.lt y (by rw[k3 y hy];omega);omega⟩)
     have hi5:({ e1 with seats:=e1.seats.set i { s with plan:=some p } }:E).seats[i]?=some { s with plan:=some p }:=h3.seat_set hi3 _;refine cU3 func37 ?_;refine h5.seat1 (s':={ s with plan:=some p,wk:=.follow }) hi5 (by decide) rfl (λ_ _=>rfl) rfl rfl λw6 ss6 h6' hf6=>?_;rw[List.set_set] at h6';have hsa:M.seatAt e1 i=s:=h3.at_ hi3;rw[hsa] at hq;refine ay (by kernel_rfl) ((ky h6' (h3.seat_set hi3 _) hq).mono ?_);rintro _ w7 ⟨rfl,hx7⟩;have hfx:∀{a b:World},Fm (·=B.x) a b->Fm (λy=>O3 y≠99) a b:=λf=>f.mono (λy _ e=>by rw[e,h3.x0];decide);refine⟨rfl,hx7.after ((s3.trans (Stp.gT hd)).trans ⟨⟨g5.old,λy hy=>?_⟩,((hf4.trans (hfx hf5) (λ_ _ e=>e.elim) (λ_ _ e=>e)).trans (hfx hf6) (λ_ _ e=>e) (λ_ _ e=>e))⟩)⟩;rcases g5.new y hy with e|rfl|e
     ·exact .inl e
     ·exact .inr hl4
     ·exact .inl (by rw[k3 y e];omega)
    ·intro kk hkk;refine aJ (λvs w3=>vs=[.bool false]/\w3=w2) ?_ ?_
     ·rintro _ w2 ⟨rfl,rfl⟩;simp only[RU];refine aJ (λvs w3=>vs=[.bool (M.writes s.ask)]/\w3=w2) ?_ ?_
      ·rintro _ w2 ⟨rfl,rfl⟩;cases hw:M.writes s.ask with
       | false=>rw[hw,Bool.false_and,cond_false] at hx;cases hx;simp only[RU];exact hkk _ _ ⟨rfl,O,a,h2,Stp.gT hf2,hb2⟩
       | true=>
        have hr:∀{z:Int},M.rightA s.ask z=true->0<z/\M.rightA s.ask 1=true:=λ{z} hz=>by
         unfold M.writes at hw;unfold M.rightA at hz ⊢;by_cases k3:s.ask.call=3
         ·rw[decide_eq_true k3,cond_true] at hz ⊢;simp only[Bool.and_eq_true,decide_eq_true_eq] at hz ⊢;exact⟨hz.2,hz.1,by decide⟩
         ·rw[decide_eq_false k3,Bool.false_or,decide_eq_true_eq] at hw;rw[decide_eq_false k3,cond_false,decide_eq_true hw,cond_true] at hz ⊢;simp only[Bool.and_eq_true,decide_eq_true_eq] at hz ⊢;exact⟨hz.2,hz.1,by decide⟩
        obtain⟨hx1,hr1⟩:=hr (by unfold M.mkP at hp;obtain⟨_,hg,_⟩:=bind_some hp;exact ak hg);have hp1:∃q,M.mkP s.ask 1=some q:=by unfold M.mkP;rw[hr1];exact⟨_,rfl⟩
        obtain⟨q1,hp1⟩:=hp1;have hak:aM w2 ⟨B.x,23+i*25+1,none⟩ 5=some (.agg (akC s.ask)):=aN (l:=(akC s.ask).toList) rfl λj hj=>by
         rw[aC,show 23+i*25+1+j=23+i*25+(1+j) by omega,kc (1+j) (by omega)]
         match j,hj with
         | 0,_=>rfl
         | 1,_=>rfl
         | 2,_=>rfl
         | 3,_=>rfl
         | 4,_=>rfl
        simp only[RU,hak];refine(mA hp1).mono ?_;rintro _ w3 ⟨b3,rfl,_,_,hf3⟩;have h3:=h2.aS hf3;have hb3:=hf3.heap hb2 (λe=>e);simp only[RU,show((0:Int) != 0)=false from rfl,ab hb3];by_cases hx0:t.xid=0
        ·rw[hw,decide_eq_true hx0,Bool.and_true,cond_true] at hx;obtain⟨_,hg,hx⟩:=bind_some hx;obtain⟨e2,hre,hx⟩:=bind_some hx;cases hx;have hg:=ak hg;simp only[Bool.and_eq_true,decide_eq_true_eq,Bool.not_eq_true',decide_eq_false_iff_not] at hg;have h99:O b2=99:=h.free hl2;simp only[RU,show(t.xid == 0)=true from beq_iff_eq.2 hx0,h3.c 8 (by decide)];refine(ko h3 hre).mono ?_;rintro _ w4 ⟨rfl,h4,hf4⟩;have he2:e2.m=e.m/\e2.nxt=e.nxt/\e2.txns=e.txns:=by unfold M.reserve at hre;obtain⟨_,_,hre⟩:=bind_some hre;cases hre;exact⟨rfl,rfl,rfl⟩
         simp only[RU,show((0:Int) != 0)=false from rfl,h4.c 18 (by decide)];refine(yW h4.mo (h4.al.id (by decide)).st (by rw[he2.1,he2.2.1];exact hg.1.1.2)).mono ?_;rintro _ w5 ⟨rfl,hs5,hf5⟩;obtain⟨h5,hf5⟩:=h4.C0 hs5 hf5;have hd:=Fm.drew F0 w5;have h5d:=h5.aS hd;obtain⟨T,hT⟩:=h5d.al.tx (by decide);have hi5:e2.seats[i]?=some s:=by rw[show e2.seats=e.seats from eI hre];exact hi
         simp only[RU,show((0:Int) != 0)=false from rfl,h5.c 17 (by decide),h5.who hi5];refine(vd hT (hT.len (by show M.fewT e2.txns=true;rw[he2.2.2];exact hg.2)).1 (by show getD e2.txns _=_;rw[he2.2.2];exact ht) hx0 hx1 (by show _∉M.running e2.txns;rw[he2.2.2,he2.2.1];exact hg.1.2)).mono ?_;rintro _ w6 ⟨rfl,hT6,hf6⟩;have h6:=h5d.B0 hT6 hf6;have hb6:=hf6.heap (hd.heap (hf5.heap (hf4.heap hb3 (by rw[h99];decide)) (by rw[h99];decide)) (λe=>e)) (by rw[h99];decide);refine au hb6 (j:=2) (show 2<6 by decide) rfl λw7 hw7 hs7 hf7=>?_;have s6:Stp O w O w6:=((((Stp.gT (Fmf hf2 hf3)).trans (Stp.of (Gr.refl _ _) (by decide) hf4)).trans (Stp.of (Gr.refl _ _) (by decide) hf5)).trans (Stp.gT hd)).trans (Stp.of (Gr.refl _ _) (by decide) hf6);exact hkk _ _ ⟨rfl,O,a,h6.iF h99 hf7,s6.loc hf7 hl2,hw7⟩
        ·rw[hw,decide_eq_false hx0,Bool.and_false,cond_false] at hx;cases hx;simp only[RU,show(t.xid == 0)=false from beq_eq_false_iff_ne.2 hx0];exact hkk _ _ ⟨rfl,O,a,h3,Stp.gT (Fmf hf2 hf3),hb3⟩
      ·intro kk' hkk';unfold M.writes at hkk';by_cases k3:s.ask.call=3
       ·simp only[RU,show(s.ask.call == 3)=true from beq_iff_eq.2 k3];exact hkk' _ _ ⟨by rw[decide_eq_true k3];rfl,rfl⟩
       ·simp only[RU,show(s.ask.call == 3)=false from beq_eq_false_iff_ne.2 k3];exact hkk' _ _ ⟨by rw[decide_eq_false k3];rfl,rfl⟩
     ·intro kk' hkk';simp only[RU,n6,n7];exact hkk' _ _ ⟨rfl,rfl⟩
  ·intro kk hkk;exact txj h hi ht (λw3 b a g1 g2 g3=>hkk _ _ ⟨b,a,rfl,g1,g2,g3⟩)
end
section
variable{w w' w1 w2:World}{B:Bk}{u v rv yv:Value}{O O' O1 O2:Nat->Nat}{e e' e1:E}{ss:List (List Value)}{i:Nat}{s:Seat}
abbrev phs:Array Value:=#[.func (.func 52) #[] #[],.func (.func 53) #[] #[],.func (.func 54) #[] #[],.func (.func 55) #[] #[],.func (.func 56) #[] #[]]
theorem phases_spec:Cl prog 21 [] w λo w'=>o=.agg phs/\Fm F0 w w':=by refine cU0 func21 ?_;refine ae ?_;rintro b1 w1 rfl hs1 hw1 hf1;refine bst phs (ao hw1 (λw2 hw2 hs2 hf2=>?_) rfl rfl rfl);simp only[RU,aa (n:=5) hw2 rfl];exact Fm.own hf1 hf2 (λy e=>by omega)
theorem dZ(h:RP w O B e u rv yv ss):Cl prog 19 [pv B.x] w λo w'=>o=.bool (decide (e.phase=5))/\Fm F0 w w':=by
 refine cU1 func19 ?_;have hd:=Fm.drew F0 w;refine⟨λwx=>Fm F0 w.drew wx,Fm.refl _ _,?_⟩;simp only[RU];refine⟨iv (e.phase:Nat),λwx hx=>?_,?_⟩
 ·simp only[RU,((h.aS hd).aS hx).c2 2,and_self]
 refine phases_spec.mono ?_;rintro _ w2 ⟨rfl,hf2⟩;refine⟨hf2,?_⟩;simp only[RU,show(((e.phase:Nat):Int) == 5)=decide (e.phase=5) by rw[Bool.eq_iff_iff,beq_iff_eq,decide_eq_true_iff];omega];exact Fmf hd hf2
theorem mj(h:i<8):ixA 8 25 (.pointer (some ⟨B.x,23,none⟩)) (iv i)=some (sp B i):=by unfold ixA;dsimp only;rw[if_pos ⟨by omega,by omega⟩,aC,Int.toNat_natCast]
def wkB:Wk->Bool
 | .none=>false
 | _=>true
theorem wW(k:Wk):ax (TypeDesc.func #[38,92] #[36] false) .neq (doV k) Value.nilFunc=some (.bool (wkB k)):=by cases k<;>kernel_rfl
theorem CA(k:Nat):M.goes e k=(wkB (M.seatAt e k).wk&&(getD e.waits (k:Int)).isNone):=by unfold M.goes wkB;cases(M.seatAt e k).wk<;>rfl
theorem nQ(h:RP w O B e u rv yv ss)(h5:e.phase=5):Cl prog 22 [pv B.x] w λo w'=>w'.ownsRow w.heap.size 3 1 o (M.runnable e).length ((M.runnable e).map λi=>iv (i:Nat))/\Fm F0 w w':=by
 refine cU1 func22 ?_ (V [(5,[3,16])]) (J [(10,[3])]);refine(dZ h).mono ?_;rintro _ w1 ⟨rfl,hf1⟩;have h1:=h.aS hf1;simp only[RU,show decide (e.phase=5)=true from decide_eq_true h5,h1.c2 0];refine⟨λvs w3=>∃(o:Value) (k:Nat),vs=[o,iv k]/\k<=8/\w3.ownsRow w.heap.size 3 1 o (((List.range k).filter (M.goes e)).length) (((List.range k).filter (M.goes e)).map λi=>iv (i:Nat))/\Fm F0 w w3,λvs _=>(8 - nth vs 1).toNat,⟨nl,0,rfl,by omega,World.ownsRow_nil w1 _ 3 1,hf1⟩,?_⟩;rintro w3 o v1 ⟨o',k,hvs,hk8,ho,hf3⟩;cases hvs;have h3:=h.aS hf3;by_cases hlt:k<8
 ·simp only[RU,decide_eq_true (show(k:Int)<8 by omega),h3.c 16 (by decide)];obtain⟨H,W,hI,_,_,hW⟩:=(h3.al.lk (by decide)).ex;have hlen:=List.length_filter_le (M.goes e) (List.range k);rw[List.length_range] at hlen;refine aJ (λvs w4=>∃o,vs=[o]/\w4.ownsRow w.heap.size 3 1 o (((List.range (k+1)).filter (M.goes e)).length) (((List.range (k+1)).filter (M.goes e)).map λi=>iv (i:Nat))/\Fm F0 w w4) ?_ ?_
  ·rintro _ w4 ⟨o,rfl,ho4,hf4⟩;simp only[RU,show IntKind.i64.wrap ((k:Int)+1)=((k+1:Nat):Int) by rw[af]<;>omega];exact⟨⟨o,k+1,rfl,by omega,ho4,hf4⟩,by simp only[cN];omega⟩
  ·intro kk hkk;rw[List.range_succ,List.filter_append] at hkk;refine(vh hI k).mono ?_;rintro _ _ ⟨rfl,rfl⟩;obtain⟨_,rr,pl,_,_,_,_,kc⟩:=h3.cW (h3.eQ hlt);have hw:(getD W (k:Int)).isSome=!(getD e.waits (k:Int)).isNone:=by rw[hW];cases getD e.waits (k:Int)<;>rfl
   simp only[RU,zi,mj hlt,kc 6 (by decide),hw];simp only[RU,wW];have hgo:=CA (e:=e) k;cases hb:wkB (M.seatAt e k).wk with
   | false=>rw[hb,Bool.false_and] at hgo;simp only[RU];exact hkk _ _ ⟨_,rfl,by simpa[hgo] using ho,hf3⟩
   | true=>
    rw[hb,Bool.true_and] at hgo;simp only[RU];cases hn:(getD e.waits (k:Int)).isNone with
    | false=>rw[hn] at hgo;simp only[RU,Bool.not_false,Bool.not_true];exact hkk _ _ ⟨_,rfl,by simpa[hgo] using ho,hf3⟩
    | true=>rw[hn] at hgo;simp only[RU,Bool.not_false,Bool.not_true];refine dp E25 (by omega) 25 (cs:=[iv k]) rfl (dC _ _) (by intro u hu;simp at hu;subst hu;rfl) ho (by unfold maxLen;omega) (by omega) hf3.size ?_;intro v' w5 ho5 _ hf5;exact hkk _ _ ⟨v',rfl,by simpa[hgo] using ho5,Fm.own hf3 hf5 (λy hy=>hy)⟩
 ·obtain rfl:k=8:=by omega
  simp only[RU,show decide (((8:Nat):Int)<8)=false from rfl];exact⟨ho,hf3⟩
theorem mZ(h:RP w O B e u rv yv ss)(h5:e.phase=5)(hi:i<8){a:Ak}(ha:1<=a.call/\a.call<=9)(hq:M.ask e i a=some e'):Cl prog 10 [pv B.x,iv i,.agg (akC a)] w λo w'=>o=iv 0/\Ex O w B e' w':=by
 have hs:=h.eQ hi;unfold M.ask at hq;refine cU3 func10 ?_;refine ae ?_;rintro b1 w1 rfl hs1 hw1 hf1;have h1:=h.aS hf1;cases hk:(M.seatAt e i).wk<;>rw[hk] at hq<;>cases hq;simp only[RU,ab hw1,show decide ((i:Int)<0)=false from decide_eq_false (by omega),show decide ((8:Int)<=i)=false from decide_eq_false (by omega),decide_eq_false (show ¬a.call<1 by omega),decide_eq_false (show ¬9<a.call by omega),bP,h1.c2 0];refine(dZ h1).mono ?_;rintro _ w2 ⟨rfl,hf2⟩;have h2:=h1.aS hf2;obtain⟨_,rr,pl,k0,_,_,_,kc⟩:=h2.cW hs;have hd:=Fm.drew F0 w2;simp only[RU,show decide (e.phase=5)=true from decide_eq_true h5,mj hi,kc 6 (by decide),wW,hk,wkB,aa (n:=5) (hd.heap (hf2.heap hw1 id) id) rfl];refine bst (seC i { M.seat0 with ask:=a,wk:=.begin } nl np).toArray ⟨rfl,?_⟩;refine((h2.aS hd).al.x (by decide)).BY (j:=0) (n:=25) k0 rfl (by decide) (List.all_eq_true.1 (by rfl)) λw3 hx3 hs3 hf3=>?_;obtain⟨O',h4,g4⟩:=(h2.aS hd).tO (s':={ M.seat0 with ask:=a,wk:=.begin }) (cs':=seC i { M.seat0 with ask:=a,wk:=.begin } nl np) (D:=F0) hi (by
  refine cast (congrArg (λz=>EgB w3 B.x (hdC B e u) (ss.set i z) (tlC B e rv yv)) ?_) hx3
  rfl) hf3 ⟨nl,np,rfl,CellsAt.aT (World.ownsRow_nil w3 0 23 2),(λy hy=>by cases hy),rfl⟩ (λy e=>e.elim)
 exact⟨O',u,rv,yv,_,h4,(Stp.gT (Fmf (Fmf hf1 hf2) hd)).trans ⟨g4.mono (λy e=>e.elim),hf3.mono (λy _ e=>by rw[e,h.x0];decide)⟩⟩
theorem yR(h:RP w O B e u rv yv ss)(hi:e.seats[i]?=some s)(hq:M.stepM e i=some e'):ClV prog (doV s.wk) [pv B.x,sp B i] w λo w'=>o=iv 0/\Ex O w B e' w':=by
 unfold M.stepM at hq;rw[h.at_ hi] at hq;cases hk:s.wk<;>rw[hk] at hq
 ·cases hq
 ·exact ay (by kernel_rfl) (tI h hi hq)
 ·exact ay (by kernel_rfl) (ky h hi hq)
 ·exact ay (by kernel_rfl) (jZ h hi hq)
 ·exact ay (by kernel_rfl) (rG h hi hq)
 ·exact ay (by kernel_rfl) (pP h hi hq)
end
section
variable{w w' w1 w2:World}{B:Bk}{u v rv yv rv' yv':Value}{O O' O1 O2:Nat->Nat}{e e' e1:E}{ss:List (List Value)}{i:Nat}{s:Seat}{D:Nat->Prop}{p q:Pg}{n:Int}{r:Rc}
theorem RP.t1(h:RP w O B e u rv yv ss){o:Nat}{x:Value}{k:KV}(e':E)(ho:o<8)(hx1:x.oneCell'=true)(ht:(tlC B e rv yv).set o x=tlC B e' rv yv)(hp:e'.phase<=2->yv=nl)(hk:∀w',RP w' O B e' u rv yv ss->Fm (·=B.x) w w'->k undef w')(hh:hdC B e u=hdC B e' u:=by rfl)(h1:e'.s=e.s:=by rfl)(h2:e'.st=e.st:=by rfl)(h3:e'.holds=e.holds:=by rfl)(h4:e'.waits=e.waits:=by rfl)(h5:e'.txns=e.txns:=by rfl)(h6:e'.m=e.m:=by rfl)(h7:e'.nxt=e.nxt:=by rfl)(h8:e'.room=e.room:=by rfl)(h9:e'.recs=e.recs:=by rfl)(h10:e'.met=e.met:=by rfl)(h11:e'.saves=e.saves:=by rfl)(h12:e'.seats=e.seats:=by rfl):St 1 w (.pointer (some ⟨B.x,223+o,none⟩)) x k:=(h.al.x (by decide)).stl ho hx1 λw' hx hs hf=>hk w' (h.cells (e':=e') (by rw[<- hh,<- ht];exact hx) hf h1 h2 h3 h4 h5 h6 h7 h8 h9 h10 h11 h12 hp) hf
theorem RP.A9(h:RP w O B e u rv yv ss)(hx:EgB w' B.x (hdC B e' u) ss (tlC B e' rv' yv'))(hf:Fm (·=B.x) w w')(hrs:RsAt w' D B e'.recs e'.met e'.saves rv' yv')(g:Gr O O' D)(hD:∀y,D y->O' y=7)(hl:∀y,D y->y<w'.heap.size)(hp:e'.phase<=2->yv'=nl)(h1:e'.s=e.s:=by rfl)(h2:e'.st=e.st:=by rfl)(h3:e'.holds=e.holds:=by rfl)(h4:e'.waits=e.waits:=by rfl)(h5:e'.txns=e.txns:=by rfl)(h6:e'.m=e.m:=by rfl)(h7:e'.nxt=e.nxt:=by rfl)(h8:e'.room=e.room:=by rfl)(h12:e'.seats=e.seats:=by rfl):RP w' O' B e' u rv' yv' ss:=by have o:=(h.keep (c:=0) (hf.mono (λy _ e=>by rw[e];exact h.x0))).wide g.old h.sl;exact⟨⟨λ_=>h1▸o.sys (by decide),λ_=>h2▸o.st (by decide),λ_=>h3▸h4▸o.lk (by decide),λ_=>h5▸o.tx (by decide),λ_=>h6▸h7▸o.id (by decide),λ_=>h8▸o.sp (by decide),λ_=>hrs.wide hD,λi s k hi=>o.se i s (by omega) (h12▸hi),λ_=>hx⟩,λy hy=>(g.new y hy).elim (λe=>Nat.lt_of_lt_of_le (h.lt y e) hf.size) (hl y),by rw[g.old _ (by rw[h.x0];decide)];exact h.x0,h12▸h.sl,h6▸h.mo,hp,h.uo⟩
theorem RP.C4(h:RP w O B e u rv yv ss){met:List Int}(hrs:RsAt w' (O ·=7) B e.recs met e.saves rv yv)(hf:Fm (λy=>O y=7) w w'):RP w' O B { e with met:=met } u rv yv ss:=by have o:=h.keep hf;exact⟨⟨λ_=>o.sys (by decide),λ_=>o.st (by decide),λ_=>o.lk (by decide),λ_=>o.tx (by decide),λ_=>o.id (by decide),λ_=>o.sp (by decide),λ_=>hrs,λi s k hi=>o.se i s (by omega) hi,λ_=>o.x (by decide)⟩,λy hy=>Nat.lt_of_lt_of_le (h.lt y hy) hf.size,h.x0,h.sl,h.mo,h.ph,h.uo⟩
theorem GL{x:Int×Pg}{u:Value}{b:Nat}(hb:w.heap[b]?=some (.cells #[iv x.1] 3)):Cl prog 136 [.agg (imC (x.1,x.2,u)).toArray,pv b] w λo w'=>o=.bool true/\Fm F0 w w':=by refine cU2 func136 ?_;refine ae ?_;rintro b1 w1 rfl hs1 hw1 hf1;simp only[RU,ab hw1,ab (hf1.heap hb id),show(imC (x.1,x.2,u))[0]?=some (iv x.1) from rfl,beq_self_eq_true];exact hf1
theorem qN{vi:Value}{L:List (Int×Pg)}{b:Nat}(hi:ImAs w vi L)(hL:L=[]\/∃x:Int×Pg,L=[x]/\x.1=n)(hb:w.heap[b]?=some (.cells #[iv n] 3)):Cl prog 135 [vi,.func (.func 136) #[] #[pv b]] w λo w'=>o=.bool (!L.isEmpty)/\Fm F0 w w':=by
 refine cU2 func135 ?_;rcases hL with rfl|⟨x,rfl,rfl⟩
 ·refine(Hx hi _).mono ?_;rintro _ _ ⟨rfl,rfl⟩;simp only[RU,show decide ((-1:Int) ≥ 0)=false from rfl];exact⟨rfl,Fm.refl _ _⟩
 ·refine(Hy (by kernel_rfl) GL hi hb).mono ?_;rintro _ _ ⟨rfl,hf⟩;simp only[RU,show decide ((0:Int) ≥ 0)=true from rfl];exact⟨rfl,hf⟩
theorem Held.img{P:Nat->Prop}{vs vm vi vp vt:Value}(h:Held w P (rcs r vs vm vi vp vt) r):ImAs w vi r.imgs:=by
 obtain⟨vs',vm',vi',vp',vt',e,_,_,_,hi,_⟩:=h.now.ex;have:vi=vi':=by have:=congrArg (λa=>a[13]?) e;simpa[rcs] using this
 rw[this];exact hi
theorem K84:KeyT prog 84 3 4 iv:=dH underlying84 underlying3
theorem lY{n:Int}(hq:M.fetch e n=some (e',p)):∃s',e'={ e with s:=s' }:=by unfold M.fetch at hq;obtain⟨_,_,hq⟩:=bind_some hq;cases hq;exact⟨_,rfl⟩
theorem yu(h:RP w O B e u rv yv ss)(h0:e.phase=0)(hq:M.redo e=some e'):Cl prog 52 [pv B.x] w λo w'=>o=iv 0/\Ex O w B e' w':=by
 obtain⟨⟨C,Q,c1,c2,c3,c4,c5⟩,c6,⟨Mm,m1,m2⟩,m3⟩:=h.al.rs (by decide);have hy:=h.ph (by omega);unfold M.redo at hq;refine cU1 func52 ?_ (V [(9,[54])]) (J [(28,[]),(14,[]),(22,[]),(23,[11,12])]);cases hr:e.recs with
 | nil=>
  rw[hr] at hq c2;obtain⟨⟨e1,p⟩,hfe,hq⟩:=Option.map_eq_some_iff.1 hq;cases hq;rw[c2] at c1;simp only[RU,h.c2 3,c1.lenV,show(((([]:List Rc).length:Nat):Int) == 0)=true from rfl];refine(dS h hfe).mono ?_;rintro _ w1 ⟨v,rfl,hN,hsm,hf1,O1,h1,s1,hz⟩;obtain⟨s',rfl⟩:=lY hfe;simp only[RU];refine aE (us:=pcs p v) (λw2 hs2 hw2 hf2=>?_) rfl rfl (List.all_eq_true.2 (bC hN.one));have h2:=h1.aS hf2;simp only[RU,aa (n:=6) hw2 rfl];refine(h2.al.x (by decide)).B8 (o:=10) rfl (by decide) (bC hN.one) λw3 hx3 hs3 hf3=>?_;have hN2:=hN.keep hf2;have hbx:∀y,PgZ p v y->¬y=B.x:=λy hy e=>by have:=hz y hy;rw[e,h1.x0] at this;cases this
  obtain⟨O3,h3,g3⟩:=h2.B9 (p:=p) (v:=v) hx3 hf3 (hN2.j7 hf3 hbx) hz;simp only[RU,h3.c2 2,h0];refine h3.t1 (o:=2) { e with s:=s',st:=p,phase:=1 } (by decide) rfl rfl (λ_=>hy) (λw4 h4 hf4=>?_);have hx:∀{a b:World},Fm (·=B.x) a b->Fm (λy=>O y≠99) a b:=λf=>f.mono (λy _ e=>by rw[e,h.x0];decide);exact⟨O3,_,_,_,_,h4,s1.g.trans (g3.mono λy e=>hN.fr e.1 y e.2),((s1.trans (Stp.gT hf2)).f.trans (hx hf3) iT iT).trans (hx hf4) iT iT⟩
 | cons r l=>
  rw[hr] at hq c2 c3;obtain⟨c0,C',rfl⟩:∃c0 C',C=c0::C':=by
   cases C with
   | nil=>simp at c2
   | cons a b=>exact⟨a,b,rfl⟩
  have hH:=c3 0 c0 r rfl rfl;obtain⟨vs,vm,vi,vp,vt,rfl,hone,_⟩:=hH.now.ex;obtain⟨n,hn,hq⟩:=bind_some hq;obtain⟨_,hg,hq⟩:=bind_some hq;have hmet:=of_decide_eq_true (ak hg);obtain⟨⟨e1,p⟩,hfe,hq⟩:=bind_some hq;obtain⟨q,hdo,hlay⟩:=bind_some hq;have hcl:C'.length=l.length:=by simpa using c2
  obtain⟨ad,k1,_,k2⟩:=c1.at (i:=0) (by decide) (by simp) .i64
  replace k1:ixV 16 rv (iv 0)=some (.pointer (some ad)):=k1
  have k3:aM w ad 16=some (.agg (rcs r vs vm vi vp vt)):=aN (l:=(rcs r vs vm vi vp vt).toList) rfl λj hj=>by rw[k2 j hj,Nat.zero_mul,Nat.zero_add,List.flatMap_cons,List.getElem?_append_left (show j<16 from hj)]
  simp only[RU,h.c2 3,c1.lenV,show(((((rcs r vs vm vi vp vt)::C').length:Nat):Int) == 0)=false by simp;omega,k1,k3];refine aE (us:=rcs r vs vm vi vp vt) (λw1 hs1 hw1 hf1=>?_) rfl rfl (List.all_eq_true.2 (kY hone.1 hone.2.1 hone.2.2.1 hone.2.2.2.1 hone.2.2.2.2));have h1:=h.aS hf1;obtain⟨rv',k4,k5,k6⟩:=(c1.keep hf1 iT).lo (i:=1) (by simp) .i64
  replace k4:slV 16 rv (some (iv 1)) none none=some rv':=k4
  replace k5:CellsAt w1 rv' C'.length 16 (C'.flatMap Array.toList):=k5
  simp only[RU,h1.c2 3,k4];have h99:O w.heap.size=99:=h.free (Nat.le_refl _);refine(h1.al.x (by decide)).stl (o:=3) (by decide) (gp k5) λw2 hx2 hs2 hf2=>?_;have hbx7:∀y,O y=7->¬y=B.x:=λy e c=>by rw[c,h.x0] at e;cases e
  have hH2:=(hH.keep hf1 iT).keep hf2 (λy hy=>hbx7 y (c4 y hy).1);have hsv:∀wx,CellsAt wx yv e.saves.length 1 (e.saves.map iv):=λwx=>by
   cases hs:e.saves with
   | nil=>rw[hy];exact CellsAt.aT (World.ownsRow_nil wx 0 3 1)
   | cons a b=>obtain⟨_,_,hb,_⟩:=c6.1.j4 (i:=0) (x:=iv a) (by rw[hs];rfl) .i64;rw[hy] at hb;cases hb
  have h2:=h1.A9 (e':={ e with recs:=l }) (rv':=rv') (yv':=yv) (D:=(O ·=7)) (O':=O) hx2 hf2 ⟨⟨C',Q,k5.keep hf2 (λy hy=>hbx7 y (c5 y (k6 y hy)).1),hcl,λi cs r' a b=>((c3 (i+1) cs r' a b).keep hf1 iT).keep hf2 (λy hy=>hbx7 y (c4 y hy).1),c4,λy hy=>c5 y (k6 y hy)⟩,⟨hsv _,c6.2⟩,⟨Mm,(m1.keep hf1 id).keep hf2 (hbx7 _ m3),m2⟩,m3⟩ (Gr.refl _ _) (λ_ e=>e) (λy e=>Nat.lt_of_lt_of_le (h1.lt y (by rw[e];decide)) hf2.size) (λ_=>hy);have hw2:=hf2.heap hw1 (by rintro e;rw[e,h.x0] at h99;cases h99);simp only[RU,aa (n:=16) hw2 rfl];have ht:=BS hn;refine(mO hH2.img ht).mono ?_;rintro tv w3 ⟨htv,hf3⟩;have hL:r.imgs=[]\/∃x:Int×Pg,r.imgs=[x]/\x.1=n:=by
   rcases ht with e|⟨x,e⟩
   ·exact .inl e.1
   ·exact .inr ⟨x,e.1,e.2.1⟩
  simp only[RU,(CellsAt.aT htv).lenV];refine⟨λvs wx=>(vs=[iv 0]/\wx=w3)\/(vs=[iv 1]/\Ex O w B e' wx),λvs _=>(1 - nth vs 0).toNat,.inl ⟨rfl,rfl⟩,?_⟩;rintro wx t (⟨hvs,rfl⟩|⟨hvs,hX⟩)
  ·cases hvs;simp only[RU,show decide ((0:Int)<((1:Nat):Int))=true from rfl];refine aJ (λvs wy=>vs=[]/\Ex O w B e' wy) ?_ ?_
   ·rintro _ wy ⟨rfl,hX⟩;simp only[RU,show IntKind.i64.wrap ((0:Int)+1)=1 from rfl];exact⟨.inr hX,by simp only[ba];decide⟩
   ·intro kk hkk;obtain⟨ad,i1,_,i3⟩:=(CellsAt.aT htv).j4 (i:=0) (x:=iv n) rfl .i64
    replace i1:ixV 1 tv (iv 0)=_:=i1
    simp only[RU,i1,i3];refine ae ?_;rintro b4 w4 rfl hs4 hw4 hf4;refine au hw4 (j:=0) (by decide) rfl λw5 hw5 hs5 hf5=>?_
    replace hw5:w5.heap[wx.heap.size]?=some (.cells #[iv n] 3):=hw5
    have hF5:Fm F0 w2 w5:=Fm.own (Fmf hf3 hf4) hf5 (λy e=>by have:=hf3.size;omega);have h5:=h2.aS hF5;have hH5:=hH2.keep hF5 iT;have hr5:RB w5 w.heap.size r vs vm vi vp vt:=⟨hF5.heap hw2 id⟩;simp only[RU,hr5.c13];refine(qN hH5.img hL hw5).mono ?_;rintro _ w6 ⟨rfl,hf6⟩;generalize hm':(bif r.imgs.isEmpty||decide (n∈e.met) then e.met else n::e.met)=met' at hmet hfe hdo hlay;have hF6:=Fmf hF5 hf6;have h6:=h2.aS hF6;have z3:=hf3.size;have z2:=hf2.size;have hOb:∀y,w.heap.size<=y->O y=99:=λy hy=>h.free hy;refine aJ (λvs w7=>vs=[]/\RP w7 O B { e with recs:=l,met:=met' } u rv' yv ss/\Fm (·=B.mt) w6 w7) ?_ ?_
    ·rintro _ w7 ⟨rfl,h7,hf7⟩;have hd7:=Fm.drew F0 w7;have h7d:=h7.aS hd7;have hmb:∀y,w.heap.size<=y->¬y=B.mt:=λy hy e=>by have:=hOb y hy;rw[e,m3] at this;cases this
     have hb7:=hf7.heap (hf6.heap hw5 id) (hmb _ (by omega));have hw7:=hf7.heap (hF6.heap hw2 id) (hmb _ (by omega));have hH7:=((hH2.keep hF6 iT).keep hf7 (λy hy e=>(c4 y hy).2 e)).keep hd7 iT;obtain⟨_,_,⟨M7,n1,n2⟩,n3⟩:=h7d.al.rs (by decide);simp only[RU,h7.c2 5,ab hb7];refine ag (aW K84 n1 n false (z:=.bool false) (by kernel_rfl)) ?_;have hin:getD M7 n=some true:=by rw[n2];exact if_pos hmet
     simp only[RU,hin,okV,cond_false,Bool.not_true];refine ae ?_;rintro b8 w8 rfl hs8 hw8 hf8;rw[aL] at hs8 hw8 ⊢;have h8:=h7d.aS hf8;have s8:Stp O w O w8:=((((Stp.gT hf1).trans ⟨Gr.refl _ _,hf2.mono λy _ e=>by rw[e,h.x0];decide⟩).trans (Stp.gT hF6)).trans (Stp.of (Gr.refl _ _) (c:=7) (by decide) (hf7.mono λy _ e=>by rw[e];exact m3))).trans (Stp.gT (Fmf hd7 hf8));have hw8':=hf8.heap (hd7.heap hw7 id) id;have hb8':=hf8.heap (hd7.heap hb7 id) id;have hH8:=hH7.keep hf8 iT;refine aJ (λys w9=>ys=[]/\∃v O9,RP w9 O9 B e1 u rv' yv ss/\Stp O w O9 w9/\w9.heap[w7.heap.size]?=some (.cells (pcs p v) 68)/\v.oneCell'=true/\w9.heap[wx.heap.size]?=some (.cells #[iv n] 3)/\w9.heap[w.heap.size]?=some (.cells (rcs r vs vm vi vp vt) 168)/\Held w9 Q (rcs r vs vm vi vp vt) r/\(r.imgs=[]->PgN w9 0 v p/\M.smP p=true)) ?_ ?_
     ·rintro _ w9 ⟨rfl,v,O9,h9,s9,hp9,ho9,hb9,hr9,hH9,hg9⟩;have hd9:=Fm.drew F0 w9;refine⟨rfl,?_⟩;refine aJ (λys wb=>∃bq vq,ys=[pv bq,iv 0]/\wb.heap[bq]?=some (.cells (pcs q vq) 68)/\PgN wb w9.drew.heap.size vq q/\Fm F0 w9 wb) ?_ ?_
      ·rintro _ wb ⟨bq,vq,rfl,hq1,hNq,hfb⟩;have hb:=h9.aS hfb;have zb:=hNq.fr;rw[aL] at zb;simp only[RU,show((0:Int) != 0)=false from rfl,ab (hfb.heap hb9 id),aa (n:=6) hq1 rfl];refine(oL hb hNq (λy hy=>h9.free (zb hy.1 y hy.2)) hlay).mono ?_;rintro _ wc ⟨rfl,hfc,Oc,uc,hc,gc⟩;simp only[RU,show((0:Int) != 0)=false from rfl];have g9:Gr O9 Oc (w.heap.size<=·):=gc.mono λy hy=>by
        rcases hy with e|e
        ·exact Nat.le_trans (s9.trans (Stp.gT hfb)).f.size e
        ·exact Nat.le_trans s9.f.size (zb e.1 y e.2)
       exact hkk _ _ ⟨rfl,Oc,uc,rv',yv,ss,hc,s9.g.trans g9,(s9.trans (Stp.gT hfb)).f.trans hfc iT (λy hy e=>by
        have hne:O9 y≠99:=by rcases e with e|e|e<;>(rw[e];decide)
        exact(s9.g.new y hne).elim id (λe=>by omega))⟩
      ·intro kk3 hkk3;refine⟨λwx=>Fm F0 w9.drew wx,Fm.refl _ _,.agg (pcs p v),λwy hx=>?_,iv n,λwy hx=>?_,.agg (rcs r vs vm vi vp vt),λwy hx=>?_,?_⟩
       ·simp only[RU,aa (n:=6) ((Fmf hd9 hx).heap hp9 id) rfl,and_self]
       ·simp only[RU,ab ((Fmf hd9 hx).heap hb9 id),and_self]
       ·simp only[RU,aa (n:=16) ((Fmf hd9 hx).heap hr9 id) rfl,and_self]
       ·refine Dz (n:=6) (mv:=iv e1.m) (Y:=F0) (λbase w5 us uu=>∃v5,us=pcs q v5/\uu=iv 0/\PgN w5 base v5 q) (λw5 hf5=>fQ ((h9.aS hd9).aS hf5)) (λw5 hf5=>?_) (λw5 hf5=>hf5) (λy e=>e.elim) ?_ ?_
        ·have hF:=Fmf hd9 hf5;have him:=(hH9.keep hF iT).img;have hD:Cl prog 137 [iv e1.m,.agg (pcs p v),iv n,.agg (rcs r vs vm vi vp vt)] w5 λo w'=>∃u,o=.tuple #[.agg (pcs q u),iv 0]/\PgN w' w5.heap.size u q/\Fm F0 w5 w':=by
          rcases hL with hi0|⟨x,hi1,hxn⟩
          ·rw[M.doRec,hi0] at hdo;obtain⟨_,hg,hdo⟩:=bind_some hdo;obtain⟨q2,hde,hdo⟩:=bind_some hdo;cases hdo;have hg:=ak hg;simp only[Bool.and_eq_true,decide_eq_true_eq] at hg;obtain⟨⟨⟨g1,rfl⟩,g3⟩,g4⟩:=hg;unfold M.inL at g4;have g4:=of_decide_eq_true g4;exact wX ((hg9 hi0).1.keep hF) h9.mo (iB (hg9 hi0).2).1 (Nat.le_trans g3 (by decide)) him hi0 (by constructor<;>omega) g1 hde
          ·rw[M.doRec,hi1] at hdo;obtain⟨_,hg,hdo⟩:=bind_some hdo;cases hdo;have hg:=ak hg;simp only[Bool.and_eq_true,decide_eq_true_eq] at hg;obtain⟨⟨rfl,g3⟩,g4⟩:=hg;unfold M.inL at g4;have g4:=of_decide_eq_true g4;exact Bu him hi1 (by constructor<;>omega) (Nat.le_trans (iB g3).2 (by decide))
         refine hD.mono ?_;rintro _ w6 ⟨v5,rfl,hN5,hf6⟩;exact⟨_,_,rfl,rfl,List.all_eq_true.2 (bC hN5.one),⟨v5,rfl,rfl,hN5⟩,hf6⟩
        ·rintro base w5 w6 us uu hb ⟨v5,e1,e2,hN5⟩ hf6;exact⟨v5,e1,e2,hN5.dO hf6 (λy e=>e.2)⟩
        ·rintro base w6 b6 us uu hb hb2 hn hw6 ⟨v5,rfl,rfl,hN5⟩ hf6;exact hkk3 _ _ ⟨b6,v5,rfl,hw6,hN5.base hb,Fmf hd9 hf6⟩
     ·intro kk2 hkk2;rcases hL with hi0|⟨x,hi1,hxn⟩
      ·replace hfe:M.fetch { e with recs:=l,met:=met' } n=some (e1,p):=by rw[hi0] at hfe;exact hfe
       simp only[RU,hi0,List.isEmpty_nil,Bool.not_true,Bool.not_false,ab hb8'];refine(dS h8 hfe).mono ?_;rintro _ w9 ⟨v,rfl,hN,hsm,hf9,O9,h9,s9,hz9⟩;have f1:∀y,w.heap.size<=y->¬O y=1:=λy hy e=>by rw[hOb y hy] at e;cases e
       have hd8:=hd7.size;have hf7s:=hf7.size;have hf6s:=hf6.size;simp only[RU];refine ao (hf9.heap hw8 (f1 _ (by omega))) (λwa hwa hsa hfa=>?_) rfl rfl (List.all_eq_true.2 (bC hN.one));have hlsn:p.lsn<r.lsn:=by rw[M.doRec,hi0] at hdo;obtain⟨_,hg,hdo⟩:=bind_some hdo;have hg:=ak hg;simp only[Bool.and_eq_true,decide_eq_true_eq] at hg;exact hg.1.1.1
       have hra:=hfa.heap (hf9.heap hw8' (f1 _ (by omega))) (by omega);simp only[RU,show((0:Int) != 0)=false from rfl,ab hwa,ab hra,show(pcs p v)[0]?=some (iv p.lsn) from rfl,show(rcs r vs vm vi vp vt)[0]?=some (iv r.lsn) from rfl,decide_eq_false (show ¬r.lsn<=p.lsn by omega)];have h99':O9 w7.heap.size=99:=s9.free (by omega) (hOb _ (by omega));refine hkk2 _ _ ⟨rfl,v,O9,h9.iF h99' hfa,(s8.trans s9).loc hfa (by omega),hwa,hN.one,hfa.heap (hf9.heap hb8' (f1 _ (by omega))) (by omega),hra,(hH8.keep hf9 (λy hy e=>by rw[(c4 y hy).1] at e;cases e)).keep hfa (λy hy e=>?_),λ_=>⟨(hN.dO hfa (λy e=>by omega)).base (Nat.zero_le _),hsm⟩⟩;have:=h.lt y (by rw[(c4 y hy).1];decide);omega
      ·replace hfe:e1={ e with recs:=l,met:=met' }/\p=pg0:=by rw[hi1] at hfe;cases hfe;exact⟨rfl,rfl⟩
       obtain⟨rfl,rfl⟩:=hfe;simp only[RU,hi1,List.isEmpty_cons,Bool.not_true,Bool.not_false];exact hkk2 _ _ ⟨rfl,nl,O,h8,s8,hw8,rfl,hb8',hw8',hH8,λe=>by rw[hi1] at e;cases e⟩
    ·intro kk2 hkk2;have h6c:=h6.c2 5;simp only[RU,h6c,ab (hf6.heap hw5 id)];rcases hL with hi0|⟨x,hi1,hxn⟩
     ·rw[hi0] at hm'
      replace hm':e.met=met':=hm'
      subst hm';simp only[RU,hi0,List.isEmpty_nil,Bool.not_true];exact hkk2 _ _ ⟨rfl,h6,Fm.refl _ _⟩
     ·rw[hi1] at hm';simp only[RU,hi1,List.isEmpty_cons,Bool.not_false];have hd6:=Fm.drew F0 w6;obtain⟨d1,d2,⟨M6,n1,n2⟩,n3⟩:=(h6.aS hd6).al.rs (by decide);obtain⟨w7,hr7,hm7,hf7,hs7⟩:=bk K84 n1 n true;refine cB hr7 ?_;obtain⟨D1,D2,D3,D4,D5,D6,D7⟩:=d1;have hf7':Fm (λy=>O y=7) w6.drew w7:=hf7.mono λy _ e=>by rw[e];exact n3
      refine hkk2 _ _ ⟨rfl,(h6.aS hd6).C4 (met:=met') ⟨⟨D1,D2,D3.keep hf7 (λy e c=>(D7 y e).2 c),D4,λi cs r' a b=>(D5 i cs r' a b).keep hf7 (λy e c=>(D6 y e).2 c),D6,D7⟩,⟨hsv _,d2.2⟩,⟨_,hm7,λn'=>?_⟩,n3⟩ hf7',hd6.trans hf7 iE iT⟩;show getD (cO M6 n true) n'=_;rw[bl,n2,<- hm'];show _=if n'∈(bif decide (n∈e.met) then e.met else n::e.met) then _ else _
      by_cases hn':n=n'
      ·subst hn';by_cases hm:n∈e.met<;>simp[hm]
      ·by_cases hm:n∈e.met<;>simp[hm,hn',Ne.symm hn']
  ·cases hvs;simp only[RU,show decide ((1:Int)<((1:Nat):Int))=false from rfl];exact hX
end
section
variable{w w' w1 w2:World}{B:Bk}{u v rv yv rv' yv':Value}{O O' O1 O2:Nat->Nat}{e e' e1:E}{ss:List (List Value)}{i:Nat}{s:Seat}{D:Nat->Prop}{p q:Pg}{n:Int}{r:Rc}
theorem next_none:Cl prog 139 [nl] w λo w'=>o=.tuple #[iv 0,.bool false]/\w'=w:=by refine cU1 func139 ?_ (V [(3,[4,9])]);refine⟨λvs w'=>vs=[iv 0,iv 0]/\w'=w,λ_ _=>0,⟨rfl,rfl⟩,?_⟩;rintro w2 v1 v2 ⟨hvs,rfl⟩;cases hvs;simp only[RU,show decide ((0:Int)<((0:Nat):Int))=false from rfl,show decide ((0:Int)<0)=false from rfl,and_self]
theorem zg(h:RP w O B e u rv yv ss)(h1:e.phase=1):Cl prog 53 [pv B.x] w λo w'=>o=iv 0/\Ex O w B { e with phase:=2 } w':=by refine cU1 func53 ?_ (V [(1,[])]) (J [(16,[9])]);refine⟨λvs w2=>w2=w,λ_ _=>0,rfl,?_⟩;rintro w2 rfl;simp only[RU,h.c2 4];refine next_none.mono ?_;rintro _ _ ⟨rfl,rfl⟩;simp only[RU,Bool.not_false,h.c2 2,h1,show IntKind.i64.wrap ((1:Nat)+1:Int)=2 from rfl];refine h.t1 (o:=2) { e with phase:=2 } (by decide) rfl rfl (λ_=>h.ph (by omega)) (λw4 h4 hf4=>?_);exact h4.ex (Stp.of (Gr.refl _ _) (c:=0) (by decide) (hf4.mono λy _ e=>by rw[e];exact h.x0))
theorem RP.h1(h:RP w O B e u rv yv ss){o:Nat}{x:Value}{k:KV}(e':E)(ho:o<23)(hx1:x.oneCell'=true)(ht:(hdC B e u).set o x=hdC B e' u)(hp:e'.phase<=2->yv=nl)(hk:∀w',RP w' O B e' u rv yv ss->Fm (·=B.x) w w'->k undef w')(hh:tlC B e rv yv=tlC B e' rv yv:=by rfl)(h1:e'.s=e.s:=by rfl)(h2:e'.st=e.st:=by rfl)(h3:e'.holds=e.holds:=by rfl)(h4:e'.waits=e.waits:=by rfl)(h5:e'.txns=e.txns:=by rfl)(h6:e'.m=e.m:=by rfl)(h7:e'.nxt=e.nxt:=by rfl)(h8:e'.room=e.room:=by rfl)(h9:e'.recs=e.recs:=by rfl)(h10:e'.met=e.met:=by rfl)(h11:e'.saves=e.saves:=by rfl)(h12:e'.seats=e.seats:=by rfl):St 1 w (.pointer (some ⟨B.x,o,none⟩)) x k:=(h.al.x (by decide)).AS ho hx1 λw' hx hs hf=>hk w' (h.cells (e':=e') (by rw[<- hh,<- ht];exact hx) hf h1 h2 h3 h4 h5 h6 h7 h8 h9 h10 h11 h12 hp) hf
theorem RP.sx(h:RP w O B e u rv yv ss)(hf:Fm (·=B.x) w1 w2):Stp O w1 O w2:=Stp.of (Gr.refl _ _) (c:=0) (by decide) (hf.mono λy _ e=>by rw[e];exact h.x0)
theorem jr{n:Int}(hq:M.reserve e n=some e'):∃l,e'=M.lg e l:=by unfold M.reserve at hq;obtain⟨_,_,hq⟩:=bind_some hq;cases hq;exact⟨_,rfl⟩
theorem rJ(h:RP w O B e u rv yv ss)(h4:e.phase=4)(hq:M.phaseM e=some e'):Cl prog 56 [pv B.x] w λo w'=>o=iv 0/\Ex O w B e' w':=by
 obtain⟨e,rfl⟩:∃e0:E,e={ e0 with phase:=4 }:=⟨e,by rw[<- h4]⟩;unfold M.phaseM at hq;have hd:=Fm.drew F0 w;have hdr:=h.aS hd;refine cU1 func56 ?_ (V []) (J [(10,[])]);simp only[RU,h.c2 7,h.c 20 (by decide)];by_cases hle:e.fresh<=e.at_
 ·dsimp only at hq;rw[decide_eq_true hle,cond_true] at hq;obtain⟨e1,hr,hq⟩:=bind_some hq;cases hq;obtain⟨l,rfl⟩:=jr hr;simp only[RU,decide_eq_true hle,h.c 8 (by decide)];refine(ko hdr hr).mono ?_;rintro _ w1 ⟨rfl,h1,hf1⟩;simp only[RU,show((0:Int) == 0)=true from rfl];refine h1.h1 (o:=22) { M.lg e l with kept:=true,phase:=4 } (by decide) rfl rfl (λe=>absurd e (show ¬(4:Nat)<=2 by decide)) λw2 h2 hf2=>?_;simp only[RU,h2.c2 2,show IntKind.i64.wrap ((4:Nat)+1:Int)=5 from rfl];refine h2.t1 (o:=2) { M.lg e l with kept:=true,phase:=5 } (by decide) rfl rfl (λe=>absurd e (show ¬(5:Nat)<=2 by decide)) λw3 h3 hf3=>?_;exact h3.ex ((((Stp.gT hd).trans (Stp.of (Gr.refl _ _) (by decide) hf1)).trans (h.sx hf2)).trans (h.sx hf3))
 ·dsimp only at hq;rw[decide_eq_false hle,cond_false] at hq;obtain⟨_,hg,hq⟩:=bind_some hq;obtain⟨⟨e1,p⟩,hfe,hq⟩:=bind_some hq;obtain⟨_,hk,hq⟩:=bind_some hq;obtain⟨x,hr,hq⟩:=bind_some hq;cases hq;have hg:=of_decide_eq_true (ak hg);have hk:=of_decide_eq_true (ak hk);rw[hg] at hle;simp only[RU,decide_eq_false hle,hdr.c2 7,hg,show IntKind.i64.wrap ((2:Int)+1)=3 from rfl];refine hdr.t1 (o:=7) { e with at_:=3,phase:=4 } (by decide) rfl rfl h.ph λw1 h1 hf1=>?_;refine(dS h1 hfe).mono ?_;rintro _ w2 ⟨v,rfl,hN,hsm,hf2,O2,h2,s2,hz2⟩;simp only[RU];refine aE (us:=pcs p v) (λw3 hs3 hw3 hf3=>?_) rfl rfl (List.all_eq_true.2 (bC hN.one));have s3:Stp O w O2 w3:=(((Stp.gT hd).trans (h.sx hf1)).trans s2).trans (Stp.gT hf3);refine aJ (λvs w4=>vs=[]/\RP w4 O2 B { e1 with room:=some x } u rv yv ss/\Stp O w O2 w4) ?_ ?_
  ·rintro _ w4 ⟨rfl,h4,s4⟩;simp only[RU];exact h4.ex s4
  ·intro kk hkk;simp only[RU,show((0:Int) == 0)=true from rfl,aa (n:=6) hw3 rfl];refine(jk (h2.aS hf3) (hN.keep hf3) (rm:=some x) (by rw[decide_eq_true hk,cond_true,hr];rfl)).mono ?_;rintro _ w4 ⟨rfl,h4,hf4⟩;exact hkk _ _ ⟨rfl,h4,s3.trans (Stp.of (Gr.refl _ _) (c:=6) (by decide) (hf4.mono λy _ e=>by rw[e];exact(h4.al.sp (by decide)).ob.2))⟩
theorem yS(h:RP w O B e u rv yv ss)(hg:e.s.d.sync.2=0):Cl prog 142 [pv B.x] w λo w'=>o=iv 0/\RP w' O B { e with s:=⟨e.s.p.synced,e.s.l,e.s.d.sync.1⟩ } u rv yv ss/\Stp O w O w':=by
 refine cU1 func142 ?_;simp only[RU,h.c 0 (by decide)];refine bsl 2 #[.func (.func 70) #[pv B.db] #[],.func (.func 187) #[pv B.x] #[]] 126 ?_;have hfa:=Fm.alloc F0 w (.cells #[.func (.func 70) #[pv B.db] #[],.func (.func 187) #[pv B.x] #[]] 126);have hcs:CellsAt (w.alloc (.cells #[.func (.func 70) #[pv B.db] #[],.func (.func 187) #[pv B.x] #[]] 126)) (.slice (some ⟨w.heap.size,0,none⟩) 2 2) 2 1 [.func (.func 70) #[pv B.db] #[],.func (.func 187) #[pv B.x] #[]]:=CellsAt.aT (da (w:=w) (e:=126) (sz:=1) (n:=2) (l:=[.func (.func 70) #[pv B.db] #[],.func (.func 187) #[pv B.x] #[]]) rfl (Nat.le_refl _) (by decide));have ha:=h.aS hfa;generalize w.alloc (.cells #[.func (.func 70) #[pv B.db] #[],.func (.func 187) #[pv B.x] #[]] 126)=wa at hfa ha hcs ⊢;refine(Df (F:=[.func (.func 70) #[pv B.db] #[],.func (.func 187) #[pv B.x] #[]]) (λi wx=>Fm (λy=>O y=1) wa wx/\match i with
  | 0=>RP wx O B e u rv yv ss
  | 1=>RP wx O B { e with s:=⟨e.s.p,e.s.l,e.s.d.sync.1⟩ } u rv yv ss
  | _=>RP wx O B { e with s:=⟨e.s.p.synced,e.s.l,e.s.d.sync.1⟩ } u rv yv ss) (show 2<=100 by decide) ⟨Fm.refl _ _,ha⟩ (λi wx hx=>hcs.keep hx.1 (λy hy=>by cases hy;rw[h.free (Nat.le_refl _)];decide)) ?_).mono ?_
 ·rintro i f wx hi ⟨hx,hR⟩ k hk
  match i,hi with
  | 0,hi=>
   cases hi
   replace hR:RP wx O B e u rv yv ss:=hR
   refine ay (by kernel_rfl) ((yT hR.sys).mono ?_);rintro _ wy ⟨rfl,hs,hy⟩;rw[hg];exact hk _ ⟨hx.trans hy iT iT,(hR.o7 hs hy).1⟩
  | 1,hi=>
   cases hi
   replace hR:RP wx O B { e with s:=⟨e.s.p,e.s.l,e.s.d.sync.1⟩ } u rv yv ss:=hR
   refine ay (by kernel_rfl) ?_;refine cU1 func187 ?_;simp only[RU,hR.c 9 (by decide)];refine(mM hR.sys).mono ?_;rintro _ wy ⟨hs,hy⟩;exact hk _ ⟨hx.trans hy iT iT,(hR.o7 hs hy).1⟩
 ·rintro _ wx ⟨rfl,hx,hR⟩;exact⟨rfl,hR,(Stp.gT hfa).trans (Stp.of (Gr.refl _ _) (by decide) hx)⟩
theorem yF(h:RP w O B e u rv yv ss)(h3:e.phase=3)(hq:M.phaseM e=some e'):Cl prog 55 [pv B.x] w λo w'=>o=iv 0/\Ex O w B e' w':=by
 obtain⟨c1,c2,c3,c4⟩:=h.al.rs (by decide);obtain⟨e,rfl⟩:∃e0:E,e={ e0 with phase:=3 }:=⟨e,by rw[<- h3]⟩;unfold M.phaseM at hq;dsimp only at hq;refine cU1 func55 ?_;simp only[RU,h.c2 6,c2.1.lenV];cases hs:e.saves with
 | nil=>rw[hs] at hq;obtain⟨_,hg,hq⟩:=bind_some hq;cases hq;simp only[RU,show decide ((0:Int)<((([]:List Int).length:Nat):Int))=false from rfl,h.c2 2,show IntKind.i64.wrap ((3:Nat)+1:Int)=4 from rfl];refine h.t1 (o:=2) { e with phase:=4 } (by decide) rfl rfl (λe=>absurd e (show ¬(4:Nat)<=2 by decide)) λw1 h1 hf1=>?_;refine h1.t1 (o:=7) { e with phase:=4,at_:=2 } (by decide) rfl rfl (λe=>absurd e (show ¬(4:Nat)<=2 by decide)) λw2 h2 hf2=>?_;refine(yS h2 (of_decide_eq_true (ak hg))).mono ?_;rintro _ w3 ⟨rfl,h3,s3⟩;simp only[RU];have:=h3.ex (((h.sx hf1).trans (h.sx hf2)).trans s3);rw[hs] at this;exact this
 | cons n l=>
  rw[hs] at hq;obtain⟨_,hg,hq⟩:=bind_some hq;cases hq;rw[hs] at c2;obtain⟨ad,k1,_,k2⟩:=c2.1.j4 (i:=0) (x:=iv n) rfl .i64
  replace k1:ixV 1 yv (iv 0)=_:=k1
  obtain⟨yv',k4,k5,k6⟩:=c2.1.lo (i:=1) (by simp) .i64
  replace k4:slV 1 yv (some (iv 1)) none none=some yv':=k4
  replace k5:CellsAt w yv' l.length 1 (l.map iv):=k5
  simp only[RU,show decide ((0:Int)<(((n::l).length:Nat):Int))=true by simp,k1,k2,h.c2 6,k4];have hbx:∀y,O y=7->¬y=B.x:=λy e c=>by rw[c,h.x0] at e;cases e
  refine(h.al.x (by decide)).stl (o:=6) (by decide) (gp k5) λw1 hx1 hs1 hf1=>?_;have h1:=h.A9 (e':={ e with saves:=l,phase:=3 }) (rv':=rv) (yv':=yv') (D:=(O ·=7)) (O':=O) hx1 hf1 ⟨by
   obtain⟨C,Q,d1,d2,d3,d4,d5⟩:=c1;exact⟨C,Q,d1.keep hf1 (λy e=>hbx y (d5 y e).1),d2,λi cs r' a b=>(d3 i cs r' a b).keep hf1 (λy e=>hbx y (d4 y e).1),d4,d5⟩,⟨k5.keep hf1 (λy e=>hbx y (c2.2 y (k6 y e))),λy e=>c2.2 y (k6 y e)⟩,by
   obtain⟨Mm,m1,m2⟩:=c3;exact⟨Mm,m1.keep hf1 (hbx _ c4),m2⟩,c4⟩ (Gr.refl _ _) (λ_ e=>e) (λy e=>Nat.lt_of_lt_of_le (h.lt y (by rw[e];decide)) hf1.size) (λe=>absurd e (show ¬(3:Nat)<=2 by decide))
  simp only[RU,h1.c 9 (by decide)];refine(uX h1.sys n).mono ?_;rintro _ w2 ⟨rfl,hs2,hf2⟩;simp only[RU,of_decide_eq_true (ak hg)];exact(h1.o7 hs2 hf2).1.ex ((h.sx hf1).trans (h1.o7 hs2 hf2).2)
theorem tX(h:RP w O B e u rv yv ss)(h2:e.phase=2)(hq:M.phaseM e=some e'):Cl prog 54 [pv B.x] w λo w'=>o=iv 0/\Ex O w B e' w':=by
 obtain⟨e,rfl⟩:∃e0:E,e={ e0 with phase:=2 }:=⟨e,by rw[<- h2]⟩;obtain⟨c1,c2,c3,c4⟩:=h.al.rs (by decide);unfold M.phaseM at hq;dsimp only at hq;obtain⟨_,hg,hq⟩:=bind_some hq;cases hq;have hd:=Fm.drew F0 w;have hg:=ak hg;simp only[Bool.and_eq_true,decide_eq_true_eq,List.all_eq_true] at hg;obtain rfl:=h.ph (Nat.le_refl 2);generalize hL:(e.s.p.owed.map (·.1)).foldr M.insI []=L at hg ⊢;have hmem:∀n,n∈L↔n∈e.s.p.owed.map (·.1):=λn=>by
  rw[<- hL];generalize e.s.p.owed.map (·.1)=l;induction l with
  | nil=>exact Iff.rfl
  | cons a l ih=>rw[List.foldr_cons,nC,ih,List.mem_cons]
 have hlen:=qQ L 0 8192 (by decide) (λx hx=>hg.2 x hx) hg.1.2;have hgD:∀n,getD e.s.p.owed n=getD (L.map λn=>(n,(getD e.s.p.owed n).getD 0)) n:=λn=>by
  by_cases hn:n∈L
  ·obtain⟨k,hk,rfl⟩:=List.mem_iff_getElem.1 hn;have:=nu (D:=L.map λn=>(n,(getD e.s.p.owed n).getD 0)) (by rw[List.map_map];show(L.map id).Pairwise _;rw[List.map_id];exact hg.1.2) (i:=k) (x:=(L[k],(getD e.s.p.owed L[k]).getD 0)) (by rw[List.getElem?_map,List.getElem?_eq_getElem hk];rfl);rw[this];obtain⟨v,hv⟩:=Option.ne_none_iff_exists'.1 (show getD e.s.p.owed L[k]≠none from λc=>getD_none.1 c ((hmem _).1 hn));rw[hv];rfl
  ·rw[getD_none.2 (λc=>hn ((hmem _).2 c)),getD_none.2 (by rw[List.map_map];show n∉L.map id;rw[List.map_id];exact hn)]
 refine cU1 func54 ?_ (V [(5,[43])]);simp only[RU,h.c2 7,h.c2 4,decide_eq_false (show ¬e.at_<((0:Nat):Int) by omega),h.c 9 (by decide)];have hdr:=h.aS hd;obtain⟨Xl,Xp,Q,F,g1,g2⟩:=hdr.sys;refine(ri g1.hP hgD (by rw[List.map_map];show(L.map id).Pairwise _;rw[List.map_id];exact hg.1.2) (λx hx=>by obtain⟨n,hn,rfl⟩:=List.mem_map.1 hx;exact hg.2 n hn)).mono ?_;rintro tv w1 ⟨ho,hf1⟩;rw[List.length_map] at ho;have h1:=hdr.aS hf1;simp only[RU,(CellsAt.aT ho).lenV];refine⟨λvs w3=>∃(k:Nat) (yv':Value),vs=[iv k]/\k<=L.length/\EgB w3 B.x (hdC B e u) ss (tlC B { e with phase:=2 } rv yv')/\w3.ownsRow w1.heap.size 3 1 yv' k ((L.take k).map iv)/\Fm (·=B.x) w1 w3,λvs _=>(L.length - nth vs 0).toNat,⟨0,nl,rfl,Nat.zero_le _,h1.al.x (by decide),World.ownsRow_nil _ _ _ _,Fm.refl _ _⟩,?_⟩;rintro w3 v1 ⟨k,yv',hvs,hk,hx3,ho3,hf3⟩;cases hvs;have hlt:=h1.lt B.x (by rw[h.x0];decide);by_cases hkl:k<L.length
 ·have e1:L[k]?=some L[k]:=List.getElem?_eq_getElem hkl;have et:=List.take_add_one (l:=L) (i:=k);rw[e1] at et;generalize L[k]=n at e1 et;have hbx3:B.x<w1.heap.size:=hlt;obtain⟨ad,k1,_,k2⟩:=((CellsAt.aT ho).keep hf3 (λy hy e=>by have:=fq ho hy;have:=hdr.lt B.x (by rw[h.x0];decide);omega)).at (by decide) hkl .i64;have k3:aM w3 ad 2=some (.agg (pc2 (n,(getD e.s.p.owed n).getD 0)).toArray):=aN (l:=pc2 (n,(getD e.s.p.owed n).getD 0)) rfl λj hj=>by rw[k2 j hj];exact dE (f:=pc2) (λ_=>rfl) (by rw[List.getElem?_map,e1];rfl) hj
  simp only[RU,decide_eq_true (show(k:Int)<(L.length:Int) by omega),k1,k3];refine aE (us:=#[iv n,iv ((getD e.s.p.owed n).getD 0)]) (λw4 hs4 hw4 hf4=>?_) rfl rfl rfl;have hd4:=Fm.drew F0 w4;have hx4:=(hx3.keep hf4 id).keep hd4 id;refine⟨λwx=>Fm F0 w4.drew wx,Fm.refl _ _,yv',λwx hx=>?_,?_⟩
  ·simp only[RU,show wx.cell? ⟨B.x,229,none⟩=some yv' from(hx4.keep hx id).A7 (o:=6),and_self]
  simp only[RU,ab hw4,true_and];refine ag (Hr n w4.drew) ⟨Fm.alloc _ _ _,?_⟩;have hfA:=Fm.alloc F0 w4.drew (.cells #[iv n] 3);have hn:=aA w4.drew (.cells #[iv n] 3);have hF:=Fmf (Fmf hf4 hd4) hfA;have z3:=hf3.size;have zF:=hF.size;obtain⟨v',w6,hr6,ho6,hf6,_⟩:=fK (P:=prog) E25 (by decide) (ah ho3 hF (λ_ _ _ _ e=>e)) 25 ⟨w4.drew.heap.size,0,none⟩ 1 1 [iv n] rfl (λj u hj=>by rw[aC,ab hn,Nat.zero_add,List.getElem?_toArray];exact hj) (by intro u hu;simp at hu;subst hu;rfl) (by unfold maxLen;omega) (by omega) (by omega);refine ag hr6 ?_;have hx6:=(hx4.keep hfA id).keep hf6 (by omega);refine hx6.stl (o:=6) (by decide) (aB ho6) λw7 hx7 hs7 hf7=>?_;simp only[RU,show IntKind.i64.wrap ((k:Int)+1)=((k+1:Nat):Int) by rw[af]<;>omega];refine⟨⟨k+1,v',rfl,by omega,hx7,?_,?_⟩,by simp only[ba];omega⟩
  ·rw[et,List.map_append];exact ah ho6 hf7 (λy hy _ _ e=>by omega)
  ·exact((hf3.trans hF iT iE).trans hf6 iT (λy hy e=>by omega)).trans hf7 iT iT
 ·obtain rfl:k=L.length:=by omega
  rw[List.take_length] at ho3;simp only[RU,decide_eq_false (show ¬((L.length:Nat):Int)<(L.length:Int) by omega),show w3.cell? ⟨B.x,225,none⟩=some (iv ((2:Nat):Int)) from hx3.A7 (o:=2),show IntKind.i64.wrap (((2:Nat):Int)+1)=3 from rfl];refine hx3.stl (o:=2) (by decide) rfl λw4 hx4 hs4 hf4=>?_;obtain⟨O',t1,t2,t3⟩:=tag O (λy=>O y=7\/blockOf yv'=some y) 7 (λy hy=>hy.imp id (λe=>h1.free (kO ho3 e)));have hbx:∀y,O y=7->¬y=B.x:=λy e c=>by rw[c,h.x0] at e;cases e
  have hF:=hf3.trans hf4 iT iT;obtain⟨c1,c2,c3,c4⟩:=h1.al.rs (by decide);have ho4:=ah ho3 hf4 (λy hy _ _ e=>by omega);have h4:=h1.A9 (e':={ e with phase:=3,saves:=L }) (rv':=rv) (yv':=yv') (D:=λy=>O y=7\/blockOf yv'=some y) (O':=O') hx4 hF ⟨by
   obtain⟨C,Q,d1,d2,d3,d4,d5⟩:=c1;exact⟨C,Q,d1.keep hF (λy e=>hbx y (d5 y e).1),d2,λi cs r' a b=>(d3 i cs r' a b).keep hF (λy e=>hbx y (d4 y e).1),λy e=>⟨.inl (d4 y e).1,(d4 y e).2⟩,λy e=>⟨.inl (d5 y e).1,(d5 y e).2⟩⟩,⟨CellsAt.aT ho4,λy e=>.inr e⟩,by
   obtain⟨Mm,m1,m2⟩:=c3;exact⟨Mm,m1.keep hF (hbx _ c4),m2⟩,.inl c4⟩ ⟨t1,t3⟩ t2 (λy e=>e.elim (λe=>Nat.lt_of_lt_of_le (h1.lt y (by rw[e];decide)) hF.size) (λe=>(aO ho4 y (@blo yv' y yv' (aZ (CellsAt.aT ho4)) e)).2)) (λe=>absurd e (show ¬(3:Nat)<=2 by decide))
  exact h4.ex ((Stp.gT (Fmf hd hf1)).trans ⟨⟨t1,λy hy=>(t3 y hy).elim .inl λe=>e.elim (λe=>.inl (by rw[e];decide)) (λe=>.inr (kO ho3 e))⟩,hF.mono λy _ e=>by rw[e,h.x0];decide⟩)
end
section
variable{w w' w1 w2:World}{B:Bk}{u v rv yv rv' yv':Value}{O O' O1 O2:Nat->Nat}{e e' e1:E}{ss:List (List Value)}{i:Nat}{s:Seat}{n k:Int}{r:Rp}
theorem si{P:Program}{fv:Value}{args:List Value}{w:World}{k k':KV}(h:ClV P fv args w k)(hk:∀v w',k v w'->k' v w'):ClV P fv args w k':=by
 refine⟨?_⟩;have h:=h.out;revert h;unfold ClV0;split
 ·rename_i g x y;cases jw P g
  ·exact id
  ·exact λh=>Cl.mono h hk
 ·exact id
theorem CG{j:Nat}{f:Value}(h:phs[j]?=some f):ixG false 5 1 (.agg phs) (iv j)=some f:=by
 rw[<- h];rcases j with _|_|_|_|_|j
 ·kernel_rfl
 ·kernel_rfl
 ·kernel_rfl
 ·kernel_rfl
 ·kernel_rfl
 ·cases h
theorem uD(h:RP w O B e u rv yv ss)(hq:M.phaseM e=some e'):∃f,phs[e.phase]?=some f/\ClV prog f [pv B.x] w λo w'=>o=iv 0/\Ex O w B e' w':=by
 match hp:e.phase with
 | 0=>refine⟨_,rfl,ay (by kernel_rfl) (yu h hp ?_)⟩;unfold M.phaseM at hq;rw[hp] at hq;exact hq
 | 1=>refine⟨_,rfl,ay (by kernel_rfl) ?_⟩;unfold M.phaseM at hq;rw[hp] at hq;cases hq;exact zg h hp
 | 2=>exact⟨_,rfl,ay (by kernel_rfl) (tX h hp hq)⟩
 | 3=>exact⟨_,rfl,ay (by kernel_rfl) (yF h hp hq)⟩
 | 4=>exact⟨_,rfl,ay (by kernel_rfl) (rJ h hp hq)⟩
 | n+5=>unfold M.phaseM at hq;rw[hp] at hq;cases hq
theorem yE(h:RP w O B e u rv yv ss)(h5:e.phase≠5)(hq:M.phaseM { e with pick:=k }=some e'):Cl prog 11 [pv B.x,iv n,iv k] w λo w'=>(∃x,o=.tuple #[x,iv 0])/\Ex O w B e' w':=by
 refine cU3 func11 ?_ (V []) (J [(16,[8,9])]);simp only[RU,h.c2 0];refine h.t1 (o:=1) { e with pick:=k } (by decide) rfl rfl h.ph λw1 h1 hf1=>?_;refine aJ (λvs w2=>∃x,vs=[x,iv 0]/\Ex O w B e' w2) ?_ ?_
 ·rintro _ w2 ⟨x,rfl,hx⟩;simp only[RU,show((0:Int) != 0)=false from rfl];exact⟨⟨x,rfl⟩,hx⟩
 ·intro kk hkk;refine(dZ h1).mono ?_;rintro _ w2 ⟨rfl,hf2⟩;simp only[RU,show decide (({ e with pick:=k }:E).phase=5)=false from decide_eq_false h5];have h2:=h1.aS hf2;have hd:=Fm.drew F0 w2;refine⟨λwx=>Fm F0 w2.drew wx,Fm.refl _ _,iv (e.phase:Nat),λwx hx=>?_,?_⟩
  ·simp only[RU,((h2.aS hd).aS hx).c2 2,and_self]
  refine phases_spec.mono ?_;rintro _ w3 ⟨rfl,hf3⟩;obtain⟨f,hf,hc⟩:=uD ((h2.aS hd).aS hf3) hq;simp only[RU,hf3,true_and,CG hf];refine si hc ?_;rintro _ w4 ⟨rfl,hx⟩;exact hkk _ _ ⟨_,rfl,hx.after ((h.sx hf1).trans (Stp.gT (Fmf (Fmf hf2 hd) hf3)))⟩
theorem nP(h:RP w O B e u rv yv ss)(h5:e.phase=5)(hq:M.runN e n k=some e'):Cl prog 11 [pv B.x,iv n,iv k] w λo w'=>(∃x,o=.tuple #[x,iv 0])/\Ex O w B e' w':=by
 unfold M.runN at hq;have hge:M.runnable { e with pick:=k }=M.runnable e:=rfl;cases hg:(M.runnable e)[gb (M.runnable e).length n]? with
 | none=>rw[hg] at hq;cases hq
 | some i=>
 rw[hg] at hq;have hi8:i<8:=by have:=List.mem_of_getElem? hg;unfold M.runnable at this;exact List.mem_range.1 (List.mem_filter.1 this).1
 refine cU3 func11 ?_ (V []) (J [(16,[8,9])]);simp only[RU,h.c2 0];refine h.t1 (o:=1) { e with pick:=k } (by decide) rfl rfl h.ph λw1 h1 hf1=>?_;refine aJ (λvs w2=>∃x,vs=[x,iv 0]/\Ex O w B e' w2) ?_ ?_
 ·rintro _ w2 ⟨x,rfl,hx⟩;simp only[RU,show((0:Int) != 0)=false from rfl];exact⟨⟨x,rfl⟩,hx⟩
 ·intro kk hkk;refine(dZ h1).mono ?_;rintro _ w2 ⟨rfl,hf2⟩;have h2:=h1.aS hf2;simp only[RU,show decide (({ e with pick:=k }:E).phase=5)=true from decide_eq_true h5];refine(nQ h2 h5).mono ?_;rintro tv w3 ⟨ho,hf3⟩;rw[hge] at ho;have h3:=h2.aS hf3;have hlt:=(List.getElem?_eq_some_iff.1 hg).1;obtain⟨z1,z2,z3,z4⟩:=gD (n:=(M.runnable e).length) (by omega) n;have hl8:(M.runnable e).length<=8:=by unfold M.runnable;exact Nat.le_trans (List.length_filter_le _ _) (by simp)
  obtain⟨ad,i1,_,i3⟩:=(CellsAt.aT ho).j4 (i:=gb (M.runnable e).length n) (x:=iv i) (by rw[List.getElem?_map,hg];rfl) .i64;have i1':ixV 1 tv (iv (gb (M.runnable e).length n:Nat))=_:=i1;obtain⟨_,rr,pl,_,_,_,_,kc⟩:=h3.cW (h3.eQ hi8);have hd:=Fm.drew F0 w3;simp only[RU,(CellsAt.aT ho).lenV,show((((M.runnable e).length:Nat):Int) == 0)=false from beq_eq_false_iff_ne.2 (by omega),jI _ (show(0:Int)<((M.runnable e).length:Nat) by omega),show IntKind.i64.wrap (n.tmod ((M.runnable e).length:Nat)+((M.runnable e).length:Nat))=n.tmod ((M.runnable e).length:Nat)+((M.runnable e).length:Nat) by rw[af]<;>omega,z2,i1',i3,mj hi8,kc 6 (by decide)];refine si (yR (h3.aS hd) (h3.eQ hi8) hq) ?_;rintro _ w4 ⟨rfl,hx⟩;exact hkk _ _ ⟨_,rfl,hx.after ((h.sx hf1).trans (Stp.gT (Fmf (Fmf hf2 hf3) hd)))⟩
theorem jc(h:RP w O B e u rv yv ss)(hi:e.seats[i]?=some s)(ht:s.told=false):Cl prog 12 [pv B.x,iv i] w λo w'=>o=.tuple #[.agg (rpC M.rp0 nl),.bool false]/\Fm F0 w w':=by have h8:=(h.cW hi).1;refine cU2 func12 ?_;refine ae ?_;rintro b1 w1 rfl hs1 hw1 hf1;have h1:=h.aS hf1;obtain⟨_,rr,pl,k0,k1,k2,k3,kc⟩:=h1.cW hi;simp only[RU,show decide ((i:Int)<0)=false from decide_eq_false (by omega),show decide ((8:Int)<=i)=false from decide_eq_false (by omega),bP,mj h8,kc 7 (by decide),ht];refine bst (rpC M.rp0 nl) (ao hw1 (λw2 hw2 hs2 hf2=>?_) rfl rfl rfl);simp only[RU,aa (n:=4) hw2 rfl];exact Fm.own hf1 hf2 (λy e=>by omega)
theorem RP.CW(h:RP w' O' B e1 u rv yv ss)(he:e1=e')(k:Stp O w O' w'):Ex O w B e' w':=he▸h.ex k
theorem gr(h:RP w O B e u rv yv ss)(hi:e.seats[i]?=some s)(hq:M.replyM e i=some (e',r)):Cl prog 12 [pv B.x,iv i] w λo w'=>∃rr,o=.tuple #[.agg (rpC r rr),.bool true]/\CellsAt w' rr r.rows.length 2 (r.rows.flatMap rowL)/\(∀y,blockOf rr=some y->O y≠99)/\Ex O w B e' w':=by
 have h8:=(h.cW hi).1;unfold M.replyM at hq;rw[h.at_ hi] at hq;cases ht:s.told with
 | false=>rw[ht] at hq;cases hq
 | true=>
 rw[ht,cond_true] at hq;cases hq;refine cU2 func12 ?_;refine ae ?_;rintro b1 w1 rfl hs1 hw1 hf1;have h1:=h.aS hf1;obtain⟨_,rr,pl,k0,k1,k2,k3,kc⟩:=h1.cW hi;simp only[RU,show decide ((i:Int)<0)=false from decide_eq_false (by omega),show decide ((8:Int)<=i)=false from decide_eq_false (by omega),bP,mj h8,kc 7 (by decide),ht];have hcv:aM w1 ⟨B.x,23+i*25+8,none⟩ 4=some (.agg (rpC s.rep rr)):=aN (l:=(rpC s.rep rr).toList) rfl λj hj=>by
  rw[aC,show 23+i*25+8+j=23+i*25+(8+j) by omega,kc (8+j) (by have:j<4:=hj;omega)]
  match j,hj with
  | 0,_=>rfl
  | 1,_=>rfl
  | 2,_=>rfl
  | 3,_=>rfl
 simp only[RU,hcv];have hone:(rpC s.rep rr).toList.all Value.oneCell'=true:=by simp[rpC,gp k1];exact⟨rfl,rfl,rfl⟩
 refine aE (us:=rpC s.rep rr) (λw2 hs2 hw2 hf2=>?_) rfl rfl hone;have h2:=h1.aS hf2;refine bst (rpC M.rp0 nl) ?_;refine h2.seat1 (j:=7) (s':={ s with told:=false }) hi (by decide) rfl (λ_ _=>rfl) rfl rfl λw3 ss3 h3 hf3=>?_;have hi3:=h2.seat_set hi { s with told:=false };obtain⟨_,rr3,pl3,q0,q1,q2,q3,_⟩:=h3.cW hi3;refine(h3.al.x (by decide)).BY (j:=8) (n:=4) q0 rfl (by decide) (List.all_eq_true.1 (by rfl)) λw4 hx4 hs4 hf4=>?_;have hne:∀y,O y=10+i->¬y=B.x:=λy e c=>by rw[c,h.x0] at e;omega
 have h4:=h3.oF (s':={ s with told:=false,rep:=M.rp0 }) (cs':=seC i { s with told:=false,rep:=M.rp0 } nl pl3) h8 (by
  refine cast (congrArg (λz=>EgB w4 B.x (hdC B e u) (ss3.set i z) (tlC B e rv yv)) ?_) hx4
  rfl) hf4 ⟨nl,pl3,rfl,CellsAt.aT (World.ownsRow_nil w4 0 23 2),(λy hy=>by cases hy),q3.keep hf4 hne⟩
 have hb0:∀y,w.heap.size<=y->¬y=B.x:=λy hy c=>by have:=h.free hy;rw[c,h.x0] at this;cases this
 have z1:=hf1.size;have F14:Fm (·=B.x) w1 w4:=(hf2.trans hf3 (λ_ _ e=>e.elim) (λ_ _ e=>e)).trans hf4 (λ_ _ e=>e) (λ_ _ e=>e);simp only[RU,aa (n:=4) (hf4.heap (hf3.heap hw2 (hb0 _ (by omega))) (hb0 _ (by omega))) rfl];refine ao (F14.heap hw1 (hb0 _ (Nat.le_refl _))) (λw5 hw5 hs5 hf5=>?_) rfl rfl hone;simp only[RU,aa (n:=4) hw5 rfl];refine⟨rr,rfl,(k1.keep F14 (λy hy=>hne y (k2 y hy))).keep hf5 (λy hy e=>?_),λy hy=>by rw[k2 y hy];omega,?_⟩
 ·have:=k2 y hy;rw[e,h.free (Nat.le_refl _)] at this;omega
 ·have h5:=h4.iF (h.free (Nat.le_refl _)) hf5;refine h5.CW ?_ ((Stp.gT hf1).trans (h.sx F14) |>.loc hf5 (Nat.le_refl _));show({ e with seats:=(e.seats.set i _).set i _ }:E)=_;rw[List.set_set]
  rfl
end
open M (Ctl iQ)
section
variable{w w':World}{c:Ctl}
abbrev cfC(c:Ctl):Array Value:=#[iv c.frames,iv c.m,iv c.secs,iv c.pages]
abbrev ctC(c:Ctl):Array Value:=#[iv c.frames,iv c.m,iv c.secs,iv c.pages,iv 1,iv 1,iv 0]
def eV(c:Ctl):Bool:=decide (4<=c.frames/\c.frames<=64/\16<=c.m/\c.m<=1024/\160<=c.secs/\c.secs<=4096/\4<=c.pages/\c.pages<=4096/\vH .i64 c.m 1=0)&&decide ((iQ c).length=64)&&decide (([4,4,4,4,4,6,6].foldl (λ(s:Bs×List Int) k=>(s.1.drop k,s.2++[(ofN (s.1.take k):Int)])) (iQ c,[])).2=[1,c.frames,c.m,c.secs,c.pages,1,0])
theorem in_spec{a b d:Int}:Cl prog 162 [iv a,iv b,iv d] w λo w'=>o=.bool (decide (b<=a)&&decide (a<=d))/\w'=w:=by
 refine cU3 func162 ?_;by_cases h:b<=a
 ·simp only[RU,decide_eq_true h,bP,Bool.true_and,and_self]
 ·simp only[RU,decide_eq_false h,jO,Bool.false_and,and_self]
theorem mL(h:eV c=true):Cl prog 144 [.agg (cfC c)] w λo w'=>o=.bool true/\Fm F0 w w':=by unfold eV at h;simp only[Bool.and_eq_true,decide_eq_true_eq] at h;obtain⟨⟨⟨h1,h2,h3,h4,h5,h6,h7,h8,h9⟩,_⟩,_⟩:=h;refine cU1 func144 ?_;refine ae ?_;rintro b1 w1 rfl hs1 hw1 hf1;have cc:=λo=>ab (off:=o) hw1;simp only[RU,cc];refine in_spec.mono ?_;rintro _ _ ⟨rfl,rfl⟩;simp only[RU,decide_eq_true h1,decide_eq_true h2,Bool.and_self,bP,cc];refine in_spec.mono ?_;rintro _ _ ⟨rfl,rfl⟩;simp only[RU,decide_eq_true h3,decide_eq_true h4,Bool.and_self,bP,cc,show ax (.int .i64) .and (iv c.m) (iv 1)=some (iv 0) from by rw[fL,h9],show((0:Int) == 0)=true from rfl];refine in_spec.mono ?_;rintro _ _ ⟨rfl,rfl⟩;simp only[RU,decide_eq_true h5,decide_eq_true h6,Bool.and_self,bP,cc];refine in_spec.mono ?_;rintro _ _ ⟨rfl,rfl⟩;simp only[RU,decide_eq_true h7,decide_eq_true h8,Bool.and_self,bP,cc];exact hf1
theorem unsound_spec:Cl prog 144 [.agg #[iv 0,iv 0,iv 0,iv 0]] w λo w'=>o=.bool false/\Fm F0 w w':=by refine cU1 func144 ?_;refine ae ?_;rintro b1 w1 rfl hs1 hw1 hf1;have cc:=λo=>ab (off:=o) hw1;simp only[RU,cc];refine in_spec.mono ?_;rintro _ _ ⟨rfl,rfl⟩;simp only[RU,show decide ((4:Int)<=0)=false from rfl,Bool.false_and,jO,cc];exact hf1
theorem gC(h:eV c=true):Cl prog 58 [.agg (cfC c)] w λo w'=>o=.tuple #[.agg #[iv 2,iv (2+c.secs),iv (M.sectors c)],iv 0]/\Fm F0 w w':=by have hh:=h;unfold eV at hh;simp only[Bool.and_eq_true,decide_eq_true_eq] at hh;obtain⟨⟨⟨h1,h2,h3,h4,h5,h6,h7,h8,h9⟩,_⟩,_⟩:=hh;refine cU1 func58 ?_;refine ae ?_;rintro b1 w1 rfl hs1 hw1 hf1;refine ae ?_;rintro b2 w2 rfl hs2 hw2 hf2;have hw12:=hf2.heap hw1 id;simp only[RU,aa (n:=4) hw12 rfl];refine(mL h).mono ?_;rintro _ w3 ⟨rfl,hf3⟩;have hw13:=hf3.heap hw12 id;have hw23:=hf3.heap hw2 id;have cc:=λo=>ab (off:=o) hw13;simp only[RU,Bool.not_true,cc,show IntKind.i64.wrap (2+c.secs)=2+c.secs by rw[af]<;>omega];refine bst #[iv 2,iv (2+c.secs),iv 0] ?_;refine aE (us:=#[iv 2,iv (2+c.secs),iv 0]) (λw4 hs4 hw4 hf4=>?_) rfl rfl rfl;have cc:=λo=>ab (off:=o) (hf4.heap hw13 id);simp only[RU,ab hw4,cc,show IntKind.i64.wrap (8*c.pages)=8*c.pages by rw[af]<;>omega,show IntKind.i64.wrap (2+c.secs+8*c.pages)=2+c.secs+8*c.pages by rw[af]<;>omega];refine au hw4 (j:=2) (show 2<3 by decide) rfl λw5 hw5 hs5 hf5=>?_;have z3:=hf3.size;simp only[RU,aa (n:=3) hw5 rfl];refine ao (hf5.heap (hf4.heap hw23 id) (by omega)) (λw6 hw6 hs6 hf6=>?_) rfl rfl rfl;simp only[RU,aa (n:=3) hw6 rfl];exact⟨rfl,Fm.own (Fm.own (Fmf (Fmf (Fmf hf1 hf2) hf3) hf4) hf5 (λy e=>by have:=hf1.size;omega)) hf6 (λy e=>by omega)⟩
theorem rH(h:eV c=true):Cl prog 23 [.agg (cfC c)] w λo w'=>o=.tuple #[iv (M.sectors c),iv 0]/\Fm F0 w w':=by refine cU1 func23 ?_;refine ae ?_;rintro b1 w1 rfl hs1 hw1 hf1;simp only[RU,aa (n:=4) hw1 rfl];refine(gC h).mono ?_;rintro _ w2 ⟨rfl,hf2⟩;simp only[RU];refine aE (us:=#[iv 2,iv (2+c.secs),iv (M.sectors c)]) (λw3 hs3 hw3 hf3=>?_) rfl rfl rfl;simp only[RU,ab hw3];exact Fmf (Fmf hf1 hf2) hf3
theorem CF{n:Nat}{cs:Array Value}{i:Nat}(h:i<n):ixG false n 1 (.agg cs) (iv i)=cs[i]? := by unfold ixG aX;dsimp only;rw[if_pos ⟨by omega,by omega⟩,Int.toNat_natCast,Nat.mul_one,cond_false]
theorem FA{k:World->Prop}{L:List Int}{W m:Int}{n b:Nat}{l0:Bs}(hb:Bld w b l0)(hL:∀x∈L,In x)(hn:n=L.length)(hm:m=L.length)(hlen:L.length<=8)(hsz:l0.length<=1000)(K:∀w',Bld w' b (l0++L.flatMap (eX · W))->Fm (b<=·) w w'->k w'):∃(I:LP) (μ:LN),I [iv 0] w/\∀(w2:World) (v1:Value),I [v1] w2->Pu (ax (.int .i64) .lss v1 (iv m)) λv2=>IfB v2 (Pu (ixG false n 1 (.agg (L.map iv).toArray) v1) λv=>Cl prog 159 [v,iv W] w2 λv w=>Cl prog 151 [pv b,v] w λ_ w=>Pu (ax (.int .i64) .add v1 (iv 1)) λv=>I [v] w/\μ [v] w<μ [v1] w2) (k w2):=by
 subst hn hm;refine⟨λvs w2=>∃i:Nat,vs=[iv i]/\i<=L.length/\Bld w2 b (l0++(L.take i).flatMap (eX · W))/\Fm (b<=·) w w2,λvs _=>(L.length - nth vs 0).toNat,⟨0,rfl,Nat.zero_le _,by simpa using hb,Fm.refl _ _⟩,?_⟩;rintro w2 v1 ⟨i,hvs,hi,hB,hf⟩;cases hvs;have hfl:∀M:List Int,(M.flatMap (eX · W)).length<=8*M.length:=λM=>by
  induction M with
  | nil=>simp
  | cons x M ih=>rw[List.flatMap_cons,List.length_append,List.length_cons];have:=bM x W;omega
 by_cases hlt:i<L.length
 ·have e1:L[i]?=some L[i]:=List.getElem?_eq_getElem hlt;have et:=List.take_add_one (l:=L) (i:=i);rw[e1] at et;have hin:=hL L[i] (List.getElem_mem hlt);generalize L[i]=x at e1 et hin;simp only[RU,decide_eq_true (show(i:Int)<(L.length:Int) by omega),CF hlt,show(L.map iv).toArray[i]?=some (iv x) by simp[e1]];refine(bu w2 hin W).mono ?_;rintro _ w3 ⟨rfl,hf3⟩;have:=hfl (L.take i);have hz:=bM x W;rw[List.length_take] at this;refine(bU (hB.keep hf3) _ (by rw[List.length_append];omega)).mono ?_;rintro _ w4 ⟨hB4,hf4⟩;simp only[RU,show IntKind.i64.wrap ((i:Int)+1)=((i+1:Nat):Int) by rw[af]<;>omega];exact⟨⟨i+1,rfl,hlt,by rw[et];simpa using hB4,(hf.trans hf3 iT iE).trans hf4 iT iT⟩,by simp only[ba];omega⟩
 ·obtain rfl:i=L.length:=by omega
  rw[List.take_length] at hB;simp only[RU,decide_eq_false (show ¬((L.length:Nat):Int)<(L.length:Int) by omega)];exact K w2 hB hf
theorem oA(h:eV c=true):Cl prog 72 [.agg (ctC c)] w λo w'=>o=.tuple #[stv (iQ c),iv 0]/\Fm F0 w w':=by
 have hh:=h;unfold eV at hh;simp only[Bool.and_eq_true,decide_eq_true_eq] at hh;obtain⟨⟨⟨h1,h2,h3,h4,h5,h6,h7,h8,h9⟩,_⟩,_⟩:=hh;refine cU1 func72 ?_ (V [(10,[58]),(5,[46])]);refine ae ?_;rintro b1 w1 rfl hs1 hw1 hf1;simp only[RU,show aM w1 ⟨w.heap.size,0,none⟩ 4=some (.agg (cfC c)) from aN (l:=(cfC c).toList) rfl (λj hj=>by rw[aC,ab hw1];match j,hj with|0,_=>rfl|1,_=>rfl|2,_=>rfl|3,_=>rfl)];refine(mL h).mono ?_;rintro _ w2 ⟨rfl,hf2⟩;have hw12:=hf2.heap hw1 id;have cc:=λo=>ab (off:=o) hw12;simp only[RU,Bool.not_true,bP,cc];refine in_spec.mono ?_;rintro _ _ ⟨rfl,rfl⟩;simp only[RU,show decide ((1:Int)<=1)=true from rfl,show Int.ofNat 4294967295=4294967295 from rfl,show Int.ofNat 281474976710655=281474976710655 from rfl,show decide ((1:Int)<=4294967295)=true from rfl,Bool.and_self,Bool.not_true,bP,cc];refine in_spec.mono ?_;rintro _ _ ⟨rfl,rfl⟩;simp only[RU,show decide ((1:Int)<=1)=true from rfl,show decide ((1:Int)<=281474976710655)=true from rfl,Bool.and_self,Bool.not_true,bP,cc];refine in_spec.mono ?_;rintro _ w2 ⟨rfl,rfl⟩;simp only[RU,show decide ((0:Int)<=0)=true from rfl,show decide ((0:Int)<=281474976710655)=true from rfl,Bool.and_self,Bool.not_true,bP];refine ae ?_;rintro b3 w3 rfl hs3 hw3 hf3;have cc:=λo=>ab (off:=o) (hf3.heap hw12 id);have hin:∀x∈[1,c.frames,c.m,c.secs,c.pages],In x:=λx hx=>by simp at hx;rcases hx with rfl|rfl|rfl|rfl|rfl<;>constructor<;>omega
 have hz1:=hf1.size;have hz2:=hf2.size;have hzb:=aj hw12;simp only[RU,cc];refine bst #[iv 1,iv c.frames,iv c.m,iv c.secs,iv c.pages] ?_;refine FA (L:=[1,c.frames,c.m,c.secs,c.pages]) (W:=4) (b:=w2.heap.size) (l0:=[]) (Bld.new hw3) hin rfl rfl (show 5<=8 by decide) (by decide) λw4 hB4 hf4=>?_;have cc4:=λo=>ab (off:=o) (hf4.heap (hf3.heap hw12 id) (by omega));simp only[RU,cc4];refine bst #[iv 1,iv 0] ?_;have hl1:((([]:Bs)++[1,c.frames,c.m,c.secs,c.pages].flatMap (eX · 4)).length)<=40:=by simp only[List.flatMap_cons,List.flatMap_nil,List.length_append,List.length_nil,List.nil_append,List.append_nil];have:=bM 1 4;have:=bM c.frames 4;have:=bM c.m 4;have:=bM c.secs 4;have:=bM c.pages 4;omega
 refine FA (L:=[1,0]) (W:=6) (b:=w2.heap.size) hB4 (λx hx=>by simp at hx;rcases hx with rfl|rfl<;>constructor<;>decide) rfl rfl (by decide) (by omega) λw5 hB5 hf5=>?_;have hl2:(([1,0]:List Int).flatMap (eX · 6)).length<=16:=by decide
 refine(bW w5 28 (by decide)).mono ?_;rintro _ w6 ⟨rfl,hf6⟩;refine(bU (hB5.keep hf6) _ (by rw[List.length_append,show(aH 28).length=28 from rfl];omega)).mono ?_;rintro _ w7 ⟨hB7,hf7⟩;have cc7:=λo=>ab (off:=o) (hf7.heap (hf6.heap (hf5.heap (hf4.heap (hf3.heap hw12 id) (by omega)) (by omega)) id) (by omega));simp only[RU,cc7];refine(bu w7 (show In 1 by constructor<;>decide) 4).mono ?_;rintro _ w8 ⟨rfl,hf8⟩;refine(bU (hB7.keep hf8) _ (by rw[List.length_append,List.length_append,show(aH 28).length=28 from rfl];have:=bM 1 4;omega)).mono ?_;rintro _ w9 ⟨hB9,hf9⟩;refine(eZ hB9).mono ?_;rintro _ wa ⟨rfl,_,hfa⟩;have e:∀{x y:Int},0<=x->1<=y->y<=8->eX x y=beN y.toNat x.toNat:=λ{x y} h0 h1 h8=>by
  unfold eX;rw[decide_eq_false (show ¬y<1 by omega),decide_eq_false (show ¬8<y by omega),decide_eq_false (show ¬x<0 by omega)]
  rfl
 refine⟨?_,?_⟩
 ·simp only[List.flatMap_cons,List.flatMap_nil,List.nil_append,List.append_nil,List.append_assoc];rw[e (x:=c.frames) (by omega) (by decide) (by decide),e (x:=c.m) (by omega) (by decide) (by decide),e (x:=c.secs) (by omega) (by decide) (by decide),e (x:=c.pages) (by omega) (by decide) (by decide)]
  rfl
 ·have F3:Fm (w2.heap.size<=·) w3 wa:=((((((hf4.trans hf5 iT iT).trans hf6 iT iE).trans hf7 iT iT).trans hf8 iT iE).trans hf9 iT iT)).trans hfa iT iT;exact Fm.own (Fmf (Fmf hf1 hf2) hf3) F3 (λy hy=>by omega)
theorem wE:Cl prog 72 [.agg #[iv 0,iv 0,iv 0,iv 0,iv 0,iv 0,iv 0]] w λo w'=>o=.tuple #[stv [],iv 1]/\Fm F0 w w':=by refine cU1 func72 ?_ (V [(10,[58]),(5,[46])]);refine ae ?_;rintro b1 w1 rfl hs1 hw1 hf1;simp only[RU,show aM w1 ⟨w.heap.size,0,none⟩ 4=some (.agg #[iv 0,iv 0,iv 0,iv 0]) from aN (l:=[iv 0,iv 0,iv 0,iv 0]) rfl (λj hj=>by rw[aC,ab hw1];match j,hj with|0,_=>rfl|1,_=>rfl|2,_=>rfl|3,_=>rfl)];refine unsound_spec.mono ?_;rintro _ w2 ⟨rfl,hf2⟩;simp only[RU,Bool.not_false,jO];exact Fmf hf1 hf2
theorem Dx{l:Bs}{b k:Nat}(hb:w.heap[b]?=some (.cells #[stv l] 9))(hk:k<=l.length)(hl:l.length<=1000):Cl prog 253 [iv k,pv b] w λo w'=>o=iv (ofN (l.take k):Nat)/\w'.heap[b]?=some (.cells #[stv (l.drop k)] 9)/\Fm (·=b) w w':=by refine cU2 func253 ?_;simp only[RU,ab hb,gn hk .i64];refine(cZ w (l.take k) (by rw[List.length_take];omega)).mono ?_;rintro _ _ ⟨rfl,rfl⟩;simp only[RU,ab hb,eT hk .i64];refine au hb (j:=0) (show 0<1 by decide) rfl λw2 hw2 hs2 hf2=>?_;exact⟨hw2,hf2⟩
theorem oy{l t:Bs}{x0 x1 x2 x3 x4 x5 x6 er place:Int}(hl:l.length=64)(hv:([4,4,4,4,4,6,6].foldl (λ(s:Bs×List Int) k=>(s.1.drop k,s.2++[(ofN (s.1.take k):Int)])) (l,[])).2=[x0,x1,x2,x3,x4,x5,x6])(hE:∀w:World,Cl prog 72 [.agg #[iv x1,iv x2,iv x3,iv x4,iv x0,iv x5,iv x6]] w λo w'=>o=.tuple #[stv t,iv er]/\Fm F0 w w')(hok:er=0->t=l/\vH .i64 x0 1=place):Cl prog 165 [stv l,iv place] w λo w'=>o=(bif decide (er=0) then .tuple #[.agg #[iv x1,iv x2,iv x3,iv x4,iv x0,iv x5,iv x6],iv 0] else .tuple #[.agg #[iv 0,iv 0,iv 0,iv 0,iv 0,iv 0,iv 0],iv 223])/\Fm F0 w w':=by
 simp only[List.foldl_cons,List.foldl_nil,List.nil_append,List.cons_append,List.cons.injEq,and_true] at hv;obtain⟨h0,h1,h2,h3,h4,h5,h6⟩:=hv;refine cU2 func165 ?_;refine ae ?_;rintro b1 w1 rfl hs1 hw1 hf1;simp only[RU,hl,show(((64:Nat):Int) != 64)=false from rfl];refine ae ?_;rintro b2 w2 rfl hs2 hw2 hf2;refine au hw2 (j:=0) (by decide) rfl λw3 hw3 hs3 hf3=>?_;refine ae ?_;rintro b4 w4 rfl hs4 hw4 hf4;have tk:∀{w0:World} {t:Bs} {k:Nat} {K:KV},w0.heap[w1.heap.size]?=some (.cells #[stv t] 9)->k<=t.length->t.length<=64->(∀w',w'.heap[w1.heap.size]?=some (.cells #[stv (t.drop k)] 9)->Fm (·=w1.heap.size) w0 w'->K (iv (ofN (t.take k):Nat)) w')->ClV prog (.func (.func 253) #[] #[pv w1.heap.size]) [iv k] w0 K:=λh1 h2 h3 h4=>ay (by kernel_rfl) ((Dx h1 h2 (by omega)).mono (by rintro _ w' ⟨rfl,k1,k2⟩;exact h4 w' k1 k2));have hne:¬w3.heap.size=w1.heap.size:=by omega
 have l1:(l.drop 4).length=60:=by rw[List.length_drop];omega
 have l2:((l.drop 4).drop 4).length=56:=by rw[List.length_drop];omega
 have l3:(((l.drop 4).drop 4).drop 4).length=52:=by rw[List.length_drop];omega
 have l4:((((l.drop 4).drop 4).drop 4).drop 4).length=48:=by rw[List.length_drop];omega
 have l5:(((((l.drop 4).drop 4).drop 4).drop 4).drop 4).length=44:=by rw[List.length_drop];omega
 have l6:((((((l.drop 4).drop 4).drop 4).drop 4).drop 4).drop 6).length=38:=by rw[List.length_drop];omega
 refine tk (k:=4) (hf4.heap hw3 (λe=>e)) (by omega) (by omega) λw5 k5 hf5=>?_;rw[h0];have c5:=hf5.heap hw4 hne;simp only[RU];refine au c5 (j:=4) (show 4<7 by decide) rfl λw6 c6 hs6 hf6=>?_;refine tk (k:=4) (hf6.heap k5 (λe=>hne e.symm)) (by omega) (by omega) λw7 k7 hf7=>?_;rw[h1];refine tk (k:=4) k7 (by omega) (by omega) λw8 k8 hf8=>?_;rw[h2];refine tk (k:=4) k8 (by omega) (by omega) λw9 k9 hf9=>?_;rw[h3];refine tk (k:=4) k9 (by omega) (by omega) λwa ka hfa=>?_;rw[h4];refine bst #[iv x1,iv x2,iv x3,iv x4] ?_;have ca:=hfa.heap (hf9.heap (hf8.heap (hf7.heap c6 hne) hne) hne) hne;refine ck ca rfl (show 0+4<=7 by decide) (List.all_eq_true.1 (by rfl)) λwb cb hsb hfb=>?_
 replace cb:wb.heap[w3.heap.size]?=some (.cells #[iv x1,iv x2,iv x3,iv x4,iv x0,iv 0,iv 0] 63):=cb
 refine tk (k:=6) (hfb.heap ka (λe=>hne e.symm)) (by omega) (by omega) λwc kc hfc=>?_;rw[h5];refine tk (k:=6) kc (by omega) (by omega) λwd kd hfd=>?_;rw[h6];have cd:=hfd.heap (hfc.heap cb hne) hne;refine au cd (j:=5) (show 5<7 by decide) rfl λwe ce hse hfe=>?_;refine au ce (j:=6) (show 6<7 by decide) rfl λwf cf hsf hff=>?_
 replace cf:wf.heap[w3.heap.size]?=some (.cells #[iv x1,iv x2,iv x3,iv x4,iv x0,iv x5,iv x6] 63):=cf
 simp only[RU,aa (n:=7) cf rfl];refine(hE wf).mono ?_;rintro _ wg ⟨rfl,hfg⟩;have cg:=hfg.heap cf (λe=>e);have z1:=hf1.size;have z2:=hf2.size;have hS:∀y,(y=w3.heap.size\/y=w1.heap.size)->w.heap.size<=y/\¬y=w.heap.size:=λy hy=>by omega
 have F4:Fm (λy=>y=w3.heap.size\/y=w1.heap.size) w4 wg:=((((((((((hf5.trans hf6 (λ_ _ e=>.inr e) (λ_ _ e=>.inl e)).trans hf7 (λ_ _ e=>e) (λ_ _ e=>.inr e)).trans hf8 (λ_ _ e=>e) (λ_ _ e=>.inr e)).trans hf9 (λ_ _ e=>e) (λ_ _ e=>.inr e)).trans hfa (λ_ _ e=>e) (λ_ _ e=>.inr e)).trans hfb (λ_ _ e=>e) (λ_ _ e=>.inl e)).trans hfc (λ_ _ e=>e) (λ_ _ e=>.inr e)).trans hfd (λ_ _ e=>e) (λ_ _ e=>.inr e)).trans hfe (λ_ _ e=>e) (λ_ _ e=>.inl e)).trans hff (λ_ _ e=>e) (λ_ _ e=>.inl e)).trans hfg (λ_ _ e=>e) (λ_ _ e=>e.elim);have w1g:=F4.heap (hf4.heap (hf3.heap (hf2.heap hw1 (λe=>e)) (by omega)) (λe=>e)) (by omega);have F0g:Fm F0 w wg:=Fm.own (Fmf (Fm.own (Fmf hf1 hf2) hf3 (λy e=>by omega)) hf4) F4 (λy e=>(hS y e).1);by_cases he:er=0
 ·obtain⟨rfl,hp⟩:=hok he;subst he;simp only[RU,show((0:Int) != 0)=false from rfl,bP,ab cg,fL,hp];simp only[RU,show decide True=true from rfl,Bool.not_true,Bool.not_false,bP,show(place != place)=false by simp,aa (n:=7) cg rfl];refine ao w1g (λwh hwh hsh hfh=>?_) rfl rfl rfl;simp only[RU,aa (n:=7) hwh rfl];exact⟨rfl,Fm.own F0g hfh (λy e=>by omega)⟩
 ·simp only[RU,show(er != 0)=true from bne_iff_ne.2 he,jO];refine bst #[iv 0,iv 0,iv 0,iv 0,iv 0,iv 0,iv 0] (ao w1g (λwh hwh hsh hfh=>?_) rfl rfl rfl);simp only[RU,aa (n:=7) hwh rfl,decide_eq_false he,cond_false];exact Fm.own F0g hfh (λy e=>by omega)
theorem kJ(h:eV c=true):Cl prog 77 [stv (aH 64),stv (iQ c)] w λo w'=>o=.tuple #[.agg (ctC c),iv 0]/\Fm F0 w w':=by have hh:=h;unfold eV at hh;simp only[Bool.and_eq_true,decide_eq_true_eq] at hh;obtain⟨⟨_,hl⟩,hv⟩:=hh;refine cU2 func77 ?_;refine ae ?_;rintro b1 w1 rfl hs1 hw1 hf1;refine(oy (l:=aH 64) (t:=[]) (x0:=0) (x1:=0) (x2:=0) (x3:=0) (x4:=0) (x5:=0) (x6:=0) (er:=1) (place:=0) rfl (by decide) (λw=>wE) (λe=>by cases e)).mono ?_;rintro _ w2 ⟨rfl,hf2⟩;simp only[RU,show decide ((1:Int)=0)=false from rfl,cond_false];refine aE (us:=#[iv 0,iv 0,iv 0,iv 0,iv 0,iv 0,iv 0]) (λw3 hs3 hw3 hf3=>?_) rfl rfl rfl;refine(oy (place:=1) (er:=0) hl hv (λw=>oA h) (λ_=>⟨rfl,by kernel_rfl⟩)).mono ?_;rintro _ w4 ⟨rfl,hf4⟩;simp only[RU,show decide True=true from rfl,cond_true];refine aE (us:=ctC c) (λw5 hs5 hw5 hf5=>?_) rfl rfl rfl;simp only[RU,show((0:Int) == 0)=true from rfl,show((223:Int) != 0)=true from rfl,bP,jO];simp only[RU,aa (n:=7) hw5 rfl];have F5:=Fmf (Fmf (Fmf hf2 hf3) hf4) hf5;refine ao (F5.heap hw1 id) (λw6 hw6 hs6 hf6=>?_) rfl rfl rfl;simp only[RU,aa (n:=7) hw6 rfl];exact Fm.own (Fmf hf1 F5) hf6 (λy e=>by omega)
theorem okA:eV M.ctlA=true:=by kernel_rfl
theorem okP:eV M.ctlP=true:=by kernel_rfl
end
open M (Ctl findX findP kN xL xBefore xAdd)
end Go.Proofs.YtmdmffeoehfjgaaGreatDoor
