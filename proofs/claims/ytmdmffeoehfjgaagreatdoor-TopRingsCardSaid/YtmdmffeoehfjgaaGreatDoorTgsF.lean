/- Laid for one claim by slim.py out of: parts. -/
import Derived.Test.YtmdmffeoehfjgaaGreatDoorTgsE
set_option maxRecDepth 100000
set_option maxHeartbeats 0
set_option linter.unusedVariables false
set_option linter.unusedSimpArgs false
set_option linter.unusedSectionVars false
open Go.Proofs.Tryz (prog)
namespace Go.Proofs.YtmdmffeoehfjgaaGreatDoor
open Go.Al Go.Proofs
open Go.ChangeMaps (setBlock)
open Go.Proofs.Tryz
open M (Tu keyOk tu dL deadB tuRd fE)
open M (Ent entOk sA fe cmpB vw eM)
open M (Ent entOk sA fe eM)
open M (Tu tu dL fE)
open M (idOk xAdd xGap xBefore)
open M (idOk xAdd Fp it0 it1 plN oQ)
open M (idOk xAdd it0 it1 Vw Tu)
open M (Tu tu dL fE it0)
open M (it0)
open M (Tx)
open M (xGap xAdd idOk)
open Go.RowKit
open M (Tx running)
open M (Pn Ak Rp Ent tu dL entOk sA ent0 rp0 Tu)
attribute [local irreducible] World.drew undef aC aL bj bO faV ixV ixS ixA aW cr ixG unV cvI cvS slS slV lenV bW cy aR aQ aO aB isB Instr.build Instr.buildSlice Instr.lookup Instr.mapUpdate Instr.range Instr.next Instr.entry Instr.makeMap Instr.makeSlice convert binOp Instr.sliceAt Instr.makeInterface Builtin.append_ Builtin.copy_ Builtin.delete_ Builtin.clear_ Builtin.len_ Builtin.cap_ Value.cells
abbrev akC(a:Ak):Array Value:=#[.int .u8 a.call,stv a.key,stv a.to_,stv a.val,iv a.n]
abbrev plC(p:Pn)(f rv lv rr:Value):Array Value:=#[.int .u8 p.ask.call,stv p.ask.key,stv p.ask.to_,stv p.ask.val,iv p.ask.n,iv p.own,iv p.wk,stv p.wkey,iv p.wsz,iv p.wpg,f,iv p.rep.err,.bool p.rep.found,stv p.rep.val,rr,rv,iv p.seen,lv,iv 0,.bool p.hit,stv p.one.key,iv p.one.page,iv p.one.slot,iv 0,stv p.ent.key,iv p.ent.page,iv p.ent.slot,stv p.item]
abbrev stg(b n:Nat):Value:=.func (.func n) #[pv b] #[]
section
variable{w w':World}{b:Nat}{p:Pn}{f f' rv lv rr:Value}
theorem jK(h:w.heap[b]?=some (.cells (plC p f rv lv rr) 223))(n:Int)(s:Nat)(hf:f'.oneCell'=true):Cl prog 299 [pv b,iv n,f'] w λo w'=>w'.heap[b]?=some (.cells (plC (M.see p n s) f' rv lv rr) 223)/\Fm (·=b) w w':=by
 refine cU3 func299 ?_;refine bst #[iv 3,stv [],iv 0,iv n] ?_;refine bZ h (o:=6) rfl (dC:6+4<=28) (G8.1 (by rfl)) λw2 h2 hs2 hf2=>?_
 replace h2:w2.heap[b]?=some (.cells (plC { p with wk:=3,wkey:=[],wsz:=0,wpg:=n } f rv lv rr) 223):=h2
 refine au h2 (j:=10) (dC:10<28) hf λw3 h3 hs3 hf3=>?_;exact⟨h3,hf2.trans hf3 iT iT⟩
theorem kV(h:w.heap[b]?=some (.cells (plC p f rv lv rr) 223))(r:Rp){v:Value}(hv:v.oneCell'=true):Cl prog 219 [pv b,.agg #[iv r.err,.bool r.found,stv r.val,v]] w λo w'=>w'.heap[b]?=some (.cells (plC (M.fin p r) .nilFunc rv lv v) 223)/\Fm (·=b) w w':=by
 refine cU2 func219 ?_;refine ae ?_;rintro b1 w1 rfl hs1 hw1 hf1;refine bst #[iv 4,stv [],iv 0,iv 0] ?_;have hb:=aj h;refine bZ (hf1.heap h (λe=>e)) (o:=6) rfl (dC:6+4<=28) (G8.1 (by rfl)) λw2 h2 hs2 hf2=>?_
 replace h2:w2.heap[b]?=some (.cells (plC { p with wk:=4,wkey:=[],wsz:=0,wpg:=0 } f rv lv rr) 223):=h2
 refine au h2 (j:=10) (dC:10<28) rfl λw3 h3 hs3 hf3=>?_
 replace h3:w3.heap[b]?=some (.cells (plC { p with wk:=4,wkey:=[],wsz:=0,wpg:=0 } .nilFunc rv lv rr) 223):=h3
 simp only[RU,aa (n:=4) (hf3.heap (hf2.heap hw1 oM) oM) rfl];refine bZ h3 (o:=11) rfl (dC:11+4<=28) (G8.1 (by simp[hv];exact⟨rfl,rfl,rfl⟩)) λw4 h4 hs4 hf4=>?_;exact⟨h4,((hf1.trans hf2 (λ_ _ e=>e.elim) (λ_ _ e=>e)).trans hf3 (λ_ _ e=>e) (λ_ _ e=>e)).trans hf4 (λ_ _ e=>e) (λ_ _ e=>e)⟩
theorem oJ(h:w.heap[b]?=some (.cells (plC p f rv lv rr) 223))(s:Nat)(hf:f'.oneCell'=true):Cl prog 215 [pv b,f'] w λo w'=>w'.heap[b]?=some (.cells (plC (M.see { p with seen:=0 } 1 s) f' rv lv rr) 223)/\Fm (·=b) w w':=by refine cU2 func215 ?_;refine au h (j:=16) (dC:16<28) rfl λw2 h2 hs2 hf2=>?_;refine(jK (p:={ p with seen:=0 }) h2 1 s hf).mono ?_;rintro _ w3 ⟨h3,hf3⟩;exact⟨h3,hf2.trans hf3 iT iT⟩
theorem pj(h:w.heap[b]?=some (.cells (plC p f rv lv rr) 223)):Cl prog 123 [pv b] w λo w'=>w'.heap[b]?=some (.cells (plC (M.look p) (stg b 216) rv lv rr) 223)/\Fm (·=b) w w':=by refine cU1 func123 ?_;exact(oJ h 216 rfl).mono λ_ _ h=>h
theorem dz(h:w.heap[b]?=some (.cells (plC p f rv lv rr) 223)):Cl prog 122 [pv b] w λo w'=>o=.bool (M.writes p.ask)/\w'=w:=by
 unfold M.writes;have c:=λo=>ab (off:=o) h;refine cU1 func122 ?_;by_cases h3:p.ask.call=3
 ·simp only[RU,c,h3,I0,Jm,Jv,H7]
 ·simp only[RU,c,aV,C3 h3,Jf,H7]
theorem me(s:Bs):Cl prog 214 [stv s] w λo w'=>o=.bool (M.keyOk s)/\w'=w:=by
 unfold M.keyOk;refine cU1 func214 ?_;by_cases h1:0<s.length
 ·have e:decide (0<s.length/\s.length<=24)=decide ((s.length:Int)<=24):=G9.2 ⟨λh=>oM,λh=>⟨h1,oM⟩⟩;simp only[RU,C9 (oM:(0:Int)<(s.length:Int)),e,H7]
 ·simp only[RU,C3 (oM:¬(0:Int)<(s.length:Int)),C3 (show ¬(0<s.length/\s.length<=24) from λh=>h1 h.1),H7]
theorem uI{a:Ak}{own:Int}(h:M.rightA a own=true):Cl prog 121 [.agg (akC a),iv own] w λo w'=>o=.bool true/\Fm F0 w w':=by
 unfold M.rightA at h;refine cU2 func121 ?_;refine ae ?_;rintro b1 w1 rfl hs1 hw1 hf1;have c:=λo=>ab (off:=o) hw1;by_cases h3:a.call=3
 ·rw[h3] at h;simp only[Jm,D8,E0,C4] at h;obtain⟨⟨k1,k2⟩,k3⟩:=h;simp only[RU,c,h3,show((3:Int) == 2)=false from rfl,show((3:Int) == 3)=true from rfl];refine(me a.key).mono ?_;rintro _ w2 ⟨rfl,rfl⟩;simp only[RU,c,k1,C9 (oM:(a.val.length:Int)<=64),C9 k3];exact hf1
 by_cases h4:a.call=4
 ·rw[h4] at h;simp only[show decide ((4:Int)=3)=false from rfl,C8,Jm,D8,E0,C4] at h;obtain⟨k1,k3⟩:=h;simp only[RU,c,h4,show((4:Int) == 2)=false from rfl,show((4:Int) == 3)=false from rfl,show((4:Int) == 4)=true from rfl];refine(me a.key).mono ?_;rintro _ w2 ⟨rfl,rfl⟩;simp only[RU,k1,C9 k3];exact hf1
 rw[C3 h3,C3 h4] at h;simp only[C8,E0,C4] at h;obtain⟨h5,k1,k2,k3,k4⟩:=h;simp only[RU,c,h5,show((5:Int) == 2)=false from rfl,show((5:Int) == 3)=false from rfl,show((5:Int) == 4)=false from rfl,show((5:Int) == 5)=true from rfl,C9 (oM:(a.key.length:Int)<=24),C9 (oM:(a.to_.length:Int)<=24),C9 k3,C9 k4];exact hf1
abbrev rowL(r:Bs×Bs):List Value:=[stv r.1,stv r.2]
def stF(b n:Nat):Value:=match n with
 | 0=>.nilFunc
 | n+1=>stg b (n+1)
structure PlAt (w : World) (D : Nat → Prop) (b : Nat) (p : Pn) (rv lv rr : Value) : Prop where
 st : w.heap[b]? = some (.cells (plC p (stF b p.stg) rv lv rr) 223)
 ob : D b
 rw : w.ownsRow 0 23 2 rv p.rows.length (p.rows.flatMap rowL)
 rd : ∀ y, rv.ownBlock = some y → D y
 le : CellsAt w lv p.left.length 3 (p.left.flatMap entL)
 ld : ∀ y, blockOf lv = some y → D y ∧ y ≠ b
 lt : ∀ y, blockOf lv = some y → ∃ cs fz, w.heap[y]? = some (.cells cs 221 fz)
 re : CellsAt w rr p.rep.rows.length 2 (p.rep.rows.flatMap rowL)
 red : ∀ y, blockOf rr = some y → D y ∧ y ≠ b
section
variable{D:Nat->Prop}{q:Pn}
theorem gn{v:Value}{n sz:Nat}{xs:List Value}(h:CellsAt w v n sz xs):v.oneCell'=true:=by obtain⟨a,n',c,rfl⟩:=aZ h;rfl
theorem PlAt.rb(h:PlAt w D b p rv lv rr):rv.ownBlock≠some b:=by
 intro e;rcases h.rw.2 with⟨hh,_⟩|⟨g,cap,cur,hh,_,hg,_⟩
 ·rw[hh] at e;cases e
 ·rw[hh] at e;have e2:g=b:=I6 e;rw[e2,h.st] at hg;cases hg
theorem blo{v:Value}{y:Nat}:∀{v:Value},(∃a n c,v=.slice a n c)->blockOf v=some y->v.ownBlock=some y:=by rintro _ ⟨a,n,c,rfl⟩ h;exact h
theorem PlAt.keep{S:Nat->Prop}(h:PlAt w D b p rv lv rr)(hf:Fm S w w')(hs:∀y,D y->¬S y):PlAt w' D b p rv lv rr:=⟨hf.heap h.st (hs _ h.ob),h.ob,ah h.rw hf (λy _ _ e=>hs _ (h.rd y e)),h.rd,h.le.keep hf (λy e=>hs _ (h.ld y e).1),h.ld,λy e=>(by obtain⟨cs,fz,g⟩:=h.lt y e;exact⟨cs,fz,hf.heap g (hs _ (h.ld y e).1)⟩),h.re.keep hf (λy e=>hs _ (h.red y e).1),h.red⟩
theorem PlAt.wide{D':Nat->Prop}(h:PlAt w D b p rv lv rr)(hD:∀y,D y->D' y):PlAt w D' b p rv lv rr:=⟨h.st,hD _ h.ob,h.rw,λy e=>hD _ (h.rd y e),h.le,λy e=>⟨hD _ (h.ld y e).1,(h.ld y e).2⟩,h.lt,h.re,λy e=>⟨hD _ (h.red y e).1,(h.red y e).2⟩⟩
theorem PlAt.to(h:PlAt w D b p rv lv rr)(hq:w'.heap[b]?=some (.cells (plC q (stF b q.stg) rv lv rr) 223))(hf:Fm (·=b) w w')(e1:q.rows=p.rows)(e2:q.left=p.left)(e3:q.rep.rows=p.rep.rows):PlAt w' D b q rv lv rr:=⟨hq,h.ob,by rw[e1];exact ah h.rw hf (λy _ _ e e'=>h.rb (e'▸e)),h.rd,by rw[e2];exact h.le.keep hf (λy e e'=>(h.ld y e).2 e'),h.ld,λy e=>(by obtain⟨cs,fz,g⟩:=h.lt y e;exact⟨cs,fz,hf.heap g (h.ld y e).2⟩),by rw[e3];exact h.re.keep hf (λy e e'=>(h.red y e).2 e'),h.red⟩
theorem PlAt.A1(h:PlAt w D b p rv lv rr){r:Rp}{v:Value}(hq:w'.heap[b]?=some (.cells (plC (M.fin p r) .nilFunc rv lv v) 223))(hf:Fm (·=b) w w')(hr:CellsAt w v r.rows.length 2 (r.rows.flatMap rowL))(hd:∀y,blockOf v=some y->D y/\y≠b):PlAt w' D b (M.fin p r) rv lv v:=⟨hq,h.ob,ah h.rw hf (λy _ _ e e'=>h.rb (e'▸e)),h.rd,h.le.keep hf (λy e e'=>(h.ld y e).2 e'),h.ld,λy e=>(by obtain⟨cs,fz,g⟩:=h.lt y e;exact⟨cs,fz,hf.heap g (h.ld y e).2⟩),hr.keep hf (λy e e'=>(hd y e).2 e'),hd⟩
theorem xQ:CellsAt w nl ([]:List (Bs×Bs)).length 2 (([]:List (Bs×Bs)).flatMap rowL):=CellsAt.aT (World.ownsRow_nil w 0 23 2)
theorem jC(h:PlAt w D b p rv lv rr)(r:Rp)(hr:r.rows=[]):Cl prog 219 [pv b,.agg #[iv r.err,.bool r.found,stv r.val,nl]] w λo w'=>PlAt w' D b (M.fin p r) rv lv nl/\Fm (·=b) w w':=by refine(kV h.st r rfl).mono ?_;rintro _ w2 ⟨h2,hf2⟩;exact⟨h.A1 h2 hf2 (by rw[hr];exact xQ) (λy e=>by cases e),hf2⟩
theorem fG(h:w.heap[b]?=some (.cells (plC p f rv lv rr) 223)):Cl prog 360 [pv b] w λo w'=>o=.agg (tuC (M.version p))/\Fm F0 w w':=by refine cU1 func360 ?_;refine ae ?_;rintro b1 w1 rfl hs1 hw1 hf1;have c:=λo=>ab (off:=o) (hf1.heap h id);simp only[RU,c];refine bst (tuC (M.version p)) ⟨rfl,?_⟩;have hd:=Fm.drew F0 w1;refine ao (hd.heap hw1 id) (λw2 hw2 hs2 hf2=>?_) rfl rfl rfl;simp only[RU,aa (n:=5) hw2 rfl];exact Fm.own (Fmf hf1 hd) hf2 (by rintro y rfl;exact D9 _)
theorem mP(h:PlAt w D b p rv lv rr)(hq:M.write p=some q):Cl prog 361 [pv b] w λo w'=>(∃rr',PlAt w' D b q rv lv rr')/\Fm (·=b) w w':=by
 unfold M.write at hq;have c:=λo=>ab (off:=o) h.st;refine cU1 func361 ?_;by_cases h4:p.ask.call=4
 ·rw[h4] at hq;cases hq;simp only[RU,c,h4,I0];refine bst #[iv 0,.bool p.hit,stv [],nl] ?_;exact(jC h { rp0 with found:=p.hit } rfl).mono λ_ _ ⟨h2,hf2⟩=>⟨⟨_,h2⟩,hf2⟩
 ·rw[C3 h4,C8] at hq;obtain⟨_,hv,hq⟩:=bind_some hq;cases hq;have hv:=ak hv;simp only[RU,c,aV,C3 h4];refine(fG h.st).mono ?_;rintro _ w2 ⟨rfl,hf2⟩;refine(iA hv).mono ?_;rintro _ w3 ⟨rfl,hf3⟩;have hf23:=Fmf hf2 hf3;simp only[RU];refine au (hf23.heap h.st (λe=>e)) (j:=10) (dC:10<28) rfl λw4 hw4 hs4 hf4=>?_
  replace hw4:w4.heap[b]?=some (.cells (plC p .nilFunc rv lv rr) 223):=hw4
  refine bst #[iv 2,stv [],iv ((dL (M.version p)).length:Nat),iv 0] ?_;refine bZ hw4 (o:=6) rfl (dC:6+4<=28) (G8.1 (by rfl)) λw5 hw5 hs5 hf5=>?_;have hF:=(hf23.trans hf4 (λ_ _ e=>e.elim) (λ_ _ e=>e)).trans hf5 (λ_ _ e=>e) (λ_ _ e=>e);exact⟨⟨rr,h.to hw5 hF rfl rfl rfl⟩,hF⟩
theorem fP(h:PlAt w D b p rv lv rr)(hq:M.next p=some q):Cl prog 358 [pv b] w λo w'=>(∃rr',PlAt w' D b q rv lv rr')/\Fm (·=b) w w':=by
 unfold M.next at hq
 have c:=λo=>ab (off:=o) h.st;refine cU1 func358 ?_
 match hl:p.left,hq with
 | e::l,hq=>
  cases hq;have hle:=h.le;rw[hl] at hle;obtain⟨ad,k1,_,k2⟩:=hle.at (i:=0) dC sI .i64;have k3:w.cell? (ad.add 1)=some (iv e.page):=k2 1 dC
  replace k1:ixV 3 lv (iv 0)=_:=k1
  simp only[RU,c,hle.lenV,show decide ((0:Int)<((e::l).length:Nat))=true from C9 sI,k1,k3];refine(jK (f':=stg b 408) h.st e.page 408 rfl).mono ?_;rintro _ w2 ⟨h2,hf2⟩;exact⟨⟨rr,h.to h2 hf2 rfl rfl rfl⟩,hf2⟩
 | [],hq=>
  have hle:=h.le;rw[hl] at hle;simp only[RU,c,hle.lenV,show decide ((0:Int)<(([]:List Ent).length:Nat))=false from rfl,show((0:Int) != 0)=false from rfl];refine(dz h.st).mono ?_;rintro _ w1 ⟨rfl,rfl⟩;cases hw:M.writes p.ask with
  | false=>rw[hw] at hq;cases hq;obtain⟨a,n,cc,hrv⟩:=aZ (CellsAt.aT h.rw);subst hrv;simp only[RU,c];refine bst #[iv 0,.bool false,stv [],.slice a n cc] ?_;refine(kV h.st { rp0 with rows:=p.rows } rfl).mono ?_;rintro _ w2 ⟨h2,hf2⟩;exact⟨⟨_,h.A1 h2 hf2 (CellsAt.aT h.rw) (λy e=>⟨h.rd y e,λe'=>h.rb (e'▸e)⟩)⟩,hf2⟩
  | true=>
   rw[hw] at hq
   replace hq:(bif p.hit then some (M.see p p.one.page 409) else M.write p)=some q:=hq
   cases hh:p.hit with
   | true=>rw[hh] at hq;cases hq;simp only[RU,c,hh];refine(jK (f':=stg b 409) h.st p.one.page 409 rfl).mono ?_;rintro _ w2 ⟨h2,hf2⟩;exact⟨⟨rr,h.to h2 hf2 rfl rfl rfl⟩,hf2⟩
   | false=>rw[hh] at hq;simp only[RU,c,hh];exact(mP h hq).mono λ_ _ h=>h
theorem iz{pg:Pg}(h:M.smP pg=true):Sm pg/\pg.items.length<=255:=by unfold M.smP at h;simp only[E0,C4,G8] at h;exact⟨λs hs=>by have:=h.2 s hs;omega,h.1⟩
variable{n0:Nat}{v u:Value}{pg:Pg}
theorem pH(h:PlAt w D b p rv lv rr)(hN:PgN w n0 v pg)(hs:Sm pg){l:List Ent}(ho:M.opened pg=some l){e:Ent}(he:entOk e=true)(h0:0<=p.seen/\p.seen<4000):Cl prog 300 [pv b,.agg (pcs pg v),iv 0,.agg (entC e)] w λo w'=>o=.bool true/\PlAt w' D b { p with seen:=p.seen+1 } rv lv rr/\Fm (·=b) w w':=by
 refine cU4 func300 ?_ (V []) (J [(9,[]),(5,[27])]);refine ae ?_;rintro b1 w1 rfl hs1 hw1 hf1;refine ae ?_;rintro b2 w2 rfl hs2 hw2 hf2;have hF:=Fmf hf1 hf2;simp only[RU,aa (n:=6) (hf2.heap hw1 id) rfl,aa (n:=3) hw2 rfl];refine(tA (hN.keep hF) hs ho he).mono ?_;rintro _ w3 ⟨rfl,hf3⟩;have hF3:=Fmf hF hf3;have h3:=h.keep hF3 iT;have c:=λo=>ab (off:=o) h3.st;simp only[RU,c,show IntKind.i64.wrap (p.seen+1)=p.seen+1 by rw[af]<;>omega];refine au h3.st (j:=16) (dC:16<28) rfl λw4 hw4 hs4 hf4=>?_
 replace hw4:w4.heap[b]?=some (.cells (plC { p with seen:=p.seen+1 } (stF b p.stg) rv lv rr) 223):=hw4
 simp only[RU,jn1,show((0:Int) != 0)=false from rfl];exact⟨h3.to hw4 hf4 rfl rfl rfl,hF3.trans hf4 iE iT⟩
theorem fl{e:TypeId}{base n sz:Nat}{xs:List Value}{v:Value}(ho:w.ownsRow base e sz v n xs){y:Nat}(h:blockOf v=some y):base<=y:=by
 rcases ho.2 with⟨rfl,_⟩|⟨g,c,cur,rfl,hb,_⟩
 ·cases h
 ·cases h;exact hb
theorem sV{e:TypeId}{base n sz:Nat}{xs:List Value}{v:Value}(ho:w.ownsRow base e sz v n xs){y:Nat}(h:blockOf v=some y):∃cs fz,w.heap[y]?=some (.cells cs e fz):=by
 rcases ho.2 with⟨rfl,_⟩|⟨g,c,cur,rfl,hb,hg,_⟩
 ·cases h
 ·cases h;exact⟨_,_,hg⟩
def PlX(w:World)(D:Nat->Prop)(n b:Nat)(p:Pn):Prop:=∃D' rv lv rr,PlAt w D' b p rv lv rr/\∀y,D' y->D y\/(n<=y/\y<w.heap.size)
theorem qM{Vv:M.Vw}{a r su:Value}(h:PlAt w D b p rv lv rr)(hD:∀y,D y->y<w.heap.size)(hN:PgN w n0 v pg)(hs:Sm pg){L:List Ent}(hh:M.hits pg p.ask.key (bif decide (p.ask.call=5) then p.ask.to_ else p.ask.key++[0])=some L)(hk:p.ask.key.length<=24)(hq:M.next { p with left:=L }=some q):Cl prog 301 [pv b,.agg (vwC Vv a r su),.agg (pcs pg v),nl] w λo w'=>o=.tuple #[rcV M.rec0,.bool false]/\PlX w' D w.heap.size b q/\Fm (·=b) w w':=by
 refine cU4 func301 ?_ (V []) (J [(4,[10]),(11,[])]);refine ae ?_;rintro b1 w1 rfl hs1 hw1 hf1;refine ae ?_;rintro b2 w2 rfl hs2 hw2 hf2;refine ae ?_;rintro b3 w3 rfl hs3 hw3 hf3;have hF3:=Fmf (Fmf hf1 hf2) hf3;have h3:=h.keep hF3 (λ_ _ e=>e);have c:=λo=>ab (off:=o) h3.st;have hw2:=hf3.heap hw2 (λe=>e);obtain⟨T,hT⟩:∃T,T=(bif decide (p.ask.call=5) then p.ask.to_ else p.ask.key++[0]):=⟨_,rfl⟩;rw[<- hT] at hh;simp only[RU,c];refine aJ (λvs w'=>vs=[stv T]/\w3=w') ?_ ?_
 ·rintro _ _ ⟨rfl,rfl⟩;have hd:=Fm.drew F0 w3;have hFd:=Fmf hF3 hd;simp only[RU,c,aa (n:=6) (hd.heap hw2 (λe=>e)) rfl];refine(xn (hN.keep hFd) hs hh).mono ?_;rintro _ w4 ⟨vo,rfl,ho4,hf4⟩;have hF4:=Fmf hFd hf4;have h4:=h.keep hF4 (λ_ _ e=>e);simp only[RU,show((0:Int) != 0)=false from rfl];have hlb:b<w.heap.size:=aj h.st;have hzd:=hFd.size;refine au h4.st (j:=17) (dC:17<28) (az ho4) λw5 hw5 hs5 hf5=>?_;refine au hw5 (j:=18) (dC:18<28) rfl λw6 hw6 hs6 hf6=>?_
  replace hw6:w6.heap[b]?=some (.cells (plC { p with left:=L } (stF b p.stg) rv vo rr) 223):=hw6
  have hf56:=hf5.trans hf6 (λ_ _ e=>e) (λ_ _ e=>e);have hvo:∀y,blockOf vo=some y->w.heap.size<=y:=λy e=>by have:=fl ho4 e;omega
  have h6:PlAt w6 (λy=>D y\/blockOf vo=some y) b { p with left:=L } rv vo rr:=by have h4':=h4.wide (D':=λy=>D y\/blockOf vo=some y) (λy e=>.inl e);exact⟨hw6,.inl h.ob,ah h4.rw hf56 (λy _ _ e e'=>h4.rb (e'▸e)),h4'.rd,(CellsAt.aT ho4).keep hf56 (λy e e'=>by have:=hvo y e;omega),λy e=>⟨.inr e,λe'=>by have:=hvo y e;omega⟩,λy e=>(by obtain⟨cs,fz,g⟩:=sV ho4 e;exact⟨cs,fz,hf56.heap g (by have:=hvo y e;omega)⟩),h4.re.keep hf56 (λy e e'=>(h4.red y e).2 e'),h4'.red⟩
  simp only[RU,jn1];refine(fP h6 hq).mono ?_;rintro _ w7 ⟨⟨rr',h7⟩,hf7⟩;have hF7:=((hF4.trans hf56 (λ_ _ e=>e.elim) (λ_ _ e=>e)).trans hf7 (λ_ _ e=>e) (λ_ _ e=>e));refine bst (rcs M.rec0 nl nl nl nl nl) ?_;have hl3:=aj hw3;have hne:w2.heap.size≠b:=by have:=(Fmf hf1 hf2).size;omega
  refine ao (hf7.heap (hf56.heap ((Fmf hd hf4).heap hw3 (λe=>e)) hne) hne) (λw8 hw8 hs8 hf8=>?_) rfl rfl rfl;simp only[RU,aa (n:=16) hw8 rfl];have hz2:=(Fmf hf1 hf2).size;refine⟨⟨_,rv,vo,rr',h7.keep hf8 ?_,?_⟩,hF7.trans hf8 (λ_ _ e=>e) (λy hy e=>oM)⟩
  ·rintro y (hy|hy) rfl
   ·have:=hD _ hy;omega
   ·have:=fl ho4 hy;have:=hd.size;omega
  ·rintro y (hy|hy)
   ·exact .inl hy
   ·refine .inr ⟨hvo y hy,?_⟩;obtain⟨cs,fz,g⟩:=sV ho4 hy;have:=aj g;have:=hf56.size;have:=hf7.size;omega
 ·intro kk hk;by_cases h5:p.ask.call=5
  ·rw[C9 h5,D8] at hT;simp only[RU,h5,show((5:Int) != 5)=false from rfl];exact hk _ _ ⟨by rw[hT],rfl⟩
  ·rw[C3 h5,C8] at hT;simp only[RU,show(p.ask.call != 5)=true by simp[h5]];show Pu (aC TypeDesc.string BinOp.add (stv p.ask.key) (stv [0])) λv=>kk [v] w3;simp only[RU,mG (a:=p.ask.key) (b:=[0]) (by simp;omega)];exact hk _ _ ⟨by rw[hT],rfl⟩
end
end
section
variable{w w':World}{b n0:Nat}{p q:Pn}{f f' rv lv rr v:Value}{D:Nat->Prop}{pg:Pg}{Vv:M.Vw}{a r su:Value}
theorem Ap{k:Bs}(h:k.length<=24):entOk ⟨bif decide (k=[]) then[0] else k,0,0⟩=true:=by
 unfold entOk;rw[C4];by_cases e:k=[]
 ·subst e;simp
 ·rw[C3 e];have:0<k.length:=by cases k with|nil=>exact absurd rfl e|cons=>simp
  simp only[C8];omega
theorem PlX.of{n m:Nat}(h:PlX w D n b p)(hn:m<=n):PlX w D m b p:=by obtain⟨D',rv,lv,rr,h1,h2⟩:=h;exact⟨D',rv,lv,rr,h1,λy e=>(h2 y e).imp id (λe=>⟨F8 hn e.1,e.2⟩)⟩
theorem oG(h:PlAt w D b p rv lv rr)(hD:∀y,D y->y<w.heap.size)(hn:b<n0)(hN:PgN w n0 v pg)(hs:Sm pg)(hq:M.descend p pg=some q)(x:Value):Cl prog 216 [pv b,.agg (vwC Vv a r su),.agg (pcs pg v),x] w λo w'=>o=.tuple #[rcV M.rec0,.bool false]/\PlX w' D w.heap.size b q/\Fm (·=b) w w':=by
 unfold M.descend at hq;obtain⟨_,hg,hq⟩:=bind_some hq;obtain⟨l,ho,hq⟩:=bind_some hq;obtain⟨L,hh,hq⟩:=bind_some hq;have hg:=ak hg;simp only[E0,C4] at hg;obtain⟨hk,h0⟩:=hg;refine cU4 func216 ?_ (V []) (J [(4,[10]),(6,[])]);refine ae ?_;rintro b1 w1 rfl hs1 hw1 hf1;refine ae ?_;rintro b2 w2 rfl hs2 hw2 hf2;refine ae ?_;rintro b3 w3 rfl hs3 hw3 hf3;have hz2:=(Fmf hf1 hf2).size;have hF3:=Fmf (Fmf hf1 hf2) hf3;have h3:=h.keep hF3 iT;have hlb:=aj h.st;have c:=λo=>ab (off:=o) h3.st;have hw2:=hf3.heap hw2 id;have hw1:=(Fmf hf2 hf3).heap hw1 id;simp only[RU,c];refine aJ (λvs w'=>vs=[stv (bif decide (p.ask.key=[]) then[0] else p.ask.key)]/\w3=w') ?_ ?_
 ·rintro _ _ ⟨rfl,rfl⟩;simp only[RU,jn1,aa (n:=6) hw2 rfl];refine bst (entC ⟨bif decide (p.ask.key=[]) then[0] else p.ask.key,0,0⟩) ?_;refine(pH h3 (hN.keep hF3) hs ho (Ap hk) h0).mono ?_;rintro _ w4 ⟨rfl,h4,hf4⟩;have ne1:w.heap.size≠b:=oM;have ne2:w1.heap.size≠b:=oM;have ne3:w2.heap.size≠b:=oM;have hF4:Fm (·=b) w w4:=hF3.trans hf4 iE iT;simp only[RU,aa (n:=11) (hf4.heap hw1 ne1) rfl,aa (n:=6) (hf4.heap hw2 ne2) rfl];refine(qM h4 (λy hy=>E3 (hD y hy) hF4.size) ((hN.keep hF3).dO hf4 (by rintro y rfl;exact hn)) hs hh hk hq).mono ?_;rintro _ w5 ⟨rfl,hX,hf5⟩;refine bst (rcs M.rec0 nl nl nl nl nl) ?_;refine ao (hf5.heap (hf4.heap hw3 ne3) ne3) (λw8 hw8 hs8 hf8=>?_) rfl rfl rfl;simp only[RU,aa (n:=16) hw8 rfl];obtain⟨D',rv',lv',rr',h5,hD'⟩:=hX;refine⟨⟨D',rv',lv',rr',h5.keep hf8 ?_,λy e=>(hD' y e).imp id (λe=>⟨F8 hF4.size e.1,E3 e.2 hf8.size⟩)⟩,(hF4.trans hf5 iT iT).trans hf8 iT (λy hy e=>oM)⟩;rintro y hy rfl;rcases hD' _ hy with e|e
  ·have:=hD _ e;omega
  ·have:=hf4.size;omega
 ·intro kk hkk;by_cases e:p.ask.key=[]
  ·rw[C9 e,D8] at hkk;simp only[RU,C9 e];exact hkk _ _ ⟨rfl,rfl⟩
  ·rw[C3 e,C8] at hkk;simp only[RU,C3 e];exact hkk _ _ ⟨rfl,rfl⟩
theorem pK{w8:World}{n b3:Nat}{cs:Array Value}(hX:PlX w8 D n b q)(hb:w8.heap[b3]?=some (.cells cs 168))(hn:b3<n)(h0:w.heap.size<=b3)(hD:∀y,D y->y<w.heap.size)(hF:Fm D w w8)(hc:cs.size=16:=by rfl):RunS prog (Instr.build 168 #[]) w8 λv w2=>St 16 w2 (.pointer (some ⟨b3,0,none⟩)) v λ_ w3=>Pu (aI w3 ⟨b3,0,none⟩ 16) λu=>Value.tuple #[u,.bool false]=.tuple #[rcV M.rec0,.bool false]/\PlX w3 D w.heap.size b q/\Fm D w w3:=by
 refine bst (rcs M.rec0 nl nl nl nl nl) ?_;refine ao hb (λw9 hw9 hs9 hf9=>?_) rfl hc rfl;simp only[RU,aa (n:=16) hw9 rfl];obtain⟨D',rv',lv',rr',h5,hD'⟩:=hX;refine⟨⟨D',rv',lv',rr',h5.keep hf9 ?_,λy e=>(hD' y e).imp id (λh=>⟨oM,E3 h.2 hf9.size⟩)⟩,hF.trans hf9 iT (λy hy e=>oM)⟩;rintro y hy rfl;rcases hD' _ hy with e|e
 ·have:=hD _ e;omega
 ·omega
theorem VwN.oN{S:Nat->Prop}(h:VwN w n0 Vv a r su)(hf:Fm S w w')(hS:∀y,S y->y=b)(ha:blockOf a≠some b/\blockOf r≠some b/\(Vv.st.items≠[]->blockOf su≠some b)):VwN w' n0 Vv a r su:=⟨h.a.iV hf (λy e e'=>ha.1 (hS y e'▸e)),h.r.iV hf (λy e e'=>ha.2.1 (hS y e'▸e)),h.u.oN (hf.mono (λy _ e=>hS y e)) ha.2.2,h.mo,h.it⟩
theorem E27:ElemT prog 27 23 2 32:=bG underlying27 kR
theorem oX(h:PlAt w D b p rv lv rr)(hD:∀y,D y->y<w.heap.size)(hn:b<n0)(hN:PgN w n0 v pg)(hs:Sm pg){n1:Nat}(hV:VwN w n1 Vv a r su)(hab:∀y,D y->blockOf a≠some y/\blockOf r≠some y/\(Vv.st.items≠[]->blockOf su≠some y))(hq:M.inspect Vv p pg=some q)(x:Value):Cl prog 408 [pv b,.agg (vwC Vv a r su),.agg (pcs pg v),x] w λo w'=>o=.tuple #[rcV M.rec0,.bool false]/\PlX w' D w.heap.size b q/\Fm D w w':=by
 unfold M.inspect at hq
 match hl:p.left,hq with
 | e::l,hq=>
 obtain⟨_,hg,hq⟩:=bind_some hq;obtain⟨s,hi,hq⟩:=bind_some hq;obtain⟨t,ht,hq⟩:=bind_some hq;have hg:=ak hg;simp only[E0,C4] at hg;obtain⟨hk,hrl⟩:=hg;obtain⟨j,hj1,hj2,_⟩:=cJ hi;have hsl:=hs s (F7 hj2);have hkey:∀t',t=some t'->t'.key=e.key:=by rintro t' rfl;simp only at hq;obtain⟨_,hg,_⟩:=bind_some hq;exact F9 (ak hg)
 refine cU4 func408 ?_ (V []) (J [(18,[])]);refine ae ?_;rintro b1 w1 rfl hs1 hw1 hf1;refine ae ?_;rintro b2 w2 rfl hs2 hw2 hf2;refine ae ?_;rintro b3 w3 rfl hs3 hw3 hf3;have hF3:=Fmf (Fmf hf1 hf2) hf3;have h3:=h.keep hF3 iT;have hlb:=aj h.st;have hle:=h3.le;rw[hl] at hle;have c:=λo=>ab (off:=o) h3.st;obtain⟨ad,k1,_,k2⟩:=hle.at (i:=0) dC sI .i64
 replace k1:ixV 3 lv (iv 0)=_:=k1
 have k3:aI w3 ad 3=some (.agg (entC e)):=aN (l:=entL e) rfl λj hj=>by rw[k2 j hj,JX,E7,G1,Jb (by simpa using hj)]
 simp only[RU,c,k1,k3];refine aD (us:=entC e) (λw4 hs4 hw4 hf4=>?_) rfl rfl rfl;have h4:=h3.keep hf4 iT;have c:=λo=>ab (off:=o) h4.st;obtain⟨lv',k4,k5,k6⟩:=(hle.keep hf4 iT).lo (i:=1) sI .i64
 replace k4:slV 3 lv (some (iv 1)) none none=some lv':=k4
 replace k5:CellsAt w4 lv' l.length 3 (l.flatMap entL):=k5
 simp only[RU,c,k4];refine au h4.st (j:=17) (dC:17<28) (gn k5) λw5 hw5 hs5 hf5=>?_
 replace hw5:w5.heap[b]?=some (.cells (plC { p with left:=l } (stF b p.stg) rv lv' rr) 223):=hw5
 have h5:PlAt w5 D b { p with left:=l } rv lv' rr:=⟨hw5,h.ob,ah h4.rw hf5 (λy _ _ e e'=>h4.rb (e'▸e)),h4.rd,k5.keep hf5 (λy e e'=>(h4.ld y (k6 y e)).2 e'),λy e=>h4.ld y (k6 y e),λy e=>(by obtain⟨cs,fz,g⟩:=h4.lt y (k6 y e);exact⟨cs,fz,hf5.heap g (h4.ld y (k6 y e)).2⟩),h4.re.keep hf5 (λy e e'=>(h4.red y e).2 e'),h4.red⟩;have z2:=(Fmf hf1 hf2).size;have z3:=hF3.size;have z4:=hf4.size;have hf14:=Fmf (Fmf hf2 hf3) hf4;have hf24:=Fmf hf3 hf4;have hw1:=hf5.heap (hf14.heap hw1 id) oM;have hw2:=hf5.heap (hf24.heap hw2 id) oM;have hw3:=hf5.heap (hf4.heap hw3 id) oM;have hw4:=hf5.heap hw4 oM;have hF4:=Fmf hF3 hf4;have hF5:Fm (·=b) w w5:=hF4.trans hf5 iE iT;have c4:=λo=>ab (off:=o) hw4;simp only[RU,aa (n:=6) hw2 rfl,c4];refine(uf ((hN.keep hF4).dO hf5 (by rintro y rfl;exact hn)) hk hi hsl ht hkey).mono ?_;rintro _ w6 ⟨rfl,hf6⟩;simp only[RU];refine aD (us:=tuC (t.getD tu0)) (λw7 hs7 hw7 hf7=>?_) rfl rfl rfl;have hf67:=Fmf hf6 hf7;have h7:=h5.keep hf67 iT;have hw1:=hf67.heap hw1 id;have hw3:=hf67.heap hw3 id;have hw4:=hf67.heap hw4 id;have hF7:Fm (·=b) w w7:=hF5.trans hf67 iT iE;have hz67:=hf67.size;have bD:∀{w1 w2:World},Fm (·=b) w1 w2->Fm D w1 w2:=λhf=>hf.mono (λy _ e=>by rw[e];exact h.ob);have hD7:∀{w8:World},Fm (·=b) w7 w8->Fm D w w8:=λhf=>(bD hF7).trans hf iT (λy _ e=>by rw[e];exact h.ob);have n3:w2.heap.size≠b:=oM;have l3:w2.heap.size<w7.heap.size:=by have:=aj hw3;omega
 cases t with
 | none=>simp only[RU,jn1];refine(fP h7 hq).mono ?_;rintro _ w8 ⟨⟨rr',h8⟩,hf8⟩;exact pK ⟨_,_,_,_,h8,λy e=>.inl e⟩ (hf8.heap hw3 n3) l3 z2 hD (hD7 hf8)
 | some t=>
  simp only at hq;obtain⟨_,_,hq⟩:=bind_some hq;obtain⟨sn,hsn,hq⟩:=bind_some hq;obtain⟨nw,hnw,hq⟩:=bind_some hq;have hV7:=hV.oN hF7 (λ_ e=>e) (hab b h.ob);simp only[RU,aa (n:=11) hw1 rfl,aa (n:=5) hw7 rfl,JH];refine(qd hV7 hsn).mono ?_;rintro _ w8 ⟨rfl,hf8⟩;have h8:=h7.keep hf8 iT;have c8:=λo=>ab (off:=o) h8.st;have hw1:=hf8.heap hw1 id;have hw3:=hf8.heap hw3 id;have hw4:=hf8.heap hw4 id;have hw7:=hf8.heap hw7 id;have ht8:=λo=>ab (off:=o) hw7;have hz8:=hf8.size;have hV8:=hV7.keep hf8;have lb7:w6.heap.size≠b:=by have:=hF5.size;have:=hf6.size;omega
  have lb4:w3.heap.size≠b:=oM;have hF8:Fm (·=b) w w8:=hF7.trans hf8 iT iE;have hD8:∀{w9:World},Fm (·=b) w8 w9->Fm D w w9:=λhf=>(bD hF8).trans hf iT (λy _ e=>by rw[e];exact h.ob);simp only[RU,jn1];have nextE:∀{w9:World} {p2:Pn} {rv2 lv2 rr2:Value} {q2:Pn},PlAt w9 D b p2 rv2 lv2 rr2->M.next p2=some q->Fm (·=b) w8 w9->Cl prog 358 [pv b] w9 λv w_2=>RunS prog (Instr.build 168 #[]) w_2 λv w_3=>St 16 w_3 (.pointer (some ⟨w2.heap.size,0,none⟩)) v λv w_4=>Pu (aI w_4 ⟨w2.heap.size,0,none⟩ 16) λu=>Value.tuple #[u,.bool false]=.tuple #[rcV M.rec0,.bool false]/\PlX w_4 D w.heap.size b q/\Fm D w w_4:=by intro w9 p2 rv2 lv2 rr2 q2 h9 hq hf9;refine(fP h9 hq).mono ?_;rintro _ w10 ⟨⟨rr',h10⟩,hf10⟩;exact pK (n:=w7.heap.size) ⟨_,_,_,_,h10,λy e=>.inl e⟩ (hf10.heap (hf9.heap hw3 n3) n3) l3 z2 hD (hD8 (hf9.trans hf10 iT iT))
  refine(dz h8.st).mono ?_;rintro _ w9 ⟨rfl,rfl⟩;cases hw:M.writes p.ask with
  | true=>
   rw[hw] at hnw hq;simp only[RU,aa (n:=11) hw1 rfl,aa (n:=5) hw7 rfl];refine(uw hV8 hnw).mono ?_;rintro _ w9 ⟨rfl,hf9⟩;have h9:=h8.keep hf9 iT;have hf9b:=hf9.mono (T:=(·=b)) iE;cases nw with
   | true=>cases hq;simp only[RU];refine bst #[iv 180,.bool false,stv [],nl] ?_;refine(jC h9 { rp0 with err:=180 } rfl).mono ?_;rintro _ w10 ⟨h10,hf10⟩;exact pK (n:=w7.heap.size) ⟨_,_,_,_,h10,λy e=>.inl e⟩ (hf10.heap (hf9.heap hw3 id) n3) l3 z2 hD (hD8 (hf9b.trans hf10 iT iT))
   | false=>
    cases sn with
    | false=>simp only[RU];exact nextE (q2:=q) h9 hq hf9b
    | true=>
     simp only[RU];refine(dz h9.st).mono ?_;rintro _ w10 ⟨rfl,rfl⟩;simp only[RU,hw];have hdr:=Fm.drew F0 w10;refine⟨λw'=>Fm (·=b) w10 w',Fm.drew _ _,?_⟩;refine⟨.agg (entC e),λw' hw'=>?_,?_⟩
     ·simp only[RU,aa (n:=3) (hw'.heap (hf9.heap hw4 id) lb4) rfl,H7]
     have h9d:=h9.keep hdr iT;refine au h9d.st (j:=19) (dC:19<28) rfl λw11 hw10 hs10 hf10=>?_;have hf10:=(Fm.drew (·=b) w10).trans hf10 iT iT;refine⟨hf10,?_⟩;refine bZ hw10 (o:=20) rfl (dC:20+3<=28) (G8.1 (by rfl)) λw12 hw11 hs11 hf11=>?_;have hf11:=hf10.trans hf11 iT iT;exact nextE (q2:=q) (h9.to (q:={ p with left:=l,hit:=true,one:=e }) hw11 hf11 rfl rfl rfl) hq (hf9b.trans hf11 iT iT)
  | false=>
   rw[hw] at hnw hq;cases hnw;simp only[RU];cases sn with
   | false=>simp only[RU];exact nextE (q2:=q) h8 hq (Fm.refl _ _)
   | true=>
    simp only[RU];refine(dz h8.st).mono ?_;rintro _ w10 ⟨rfl,rfl⟩
    replace hq:(M.gd (decide (p.ask.call=5)&&p.rep.rows.isEmpty) >>= λ_=>bif decide (((p.rows++[(t.key,t.val)]).length:Int)=p.ask.n) then some (M.fin { p with left:=l,rows:=p.rows++[(t.key,t.val)] } { rp0 with rows:=p.rows++[(t.key,t.val)] }) else M.next { p with left:=l,rows:=p.rows++[(t.key,t.val)] })=some q:=hq
    obtain⟨_,hg5,hq⟩:=bind_some hq;have hg5:=ak hg5;rw[E0,C4] at hg5;obtain⟨h5',hre⟩:=hg5;have hre:p.rep.rows=[]:=KJ.1 hre;simp only[RU,hw,c8,h5',show((5:Int) == 2)=false from rfl,ht8];have hdr:=Fm.drew F0 w10;refine⟨λw'=>Fm F0 w10 w',hdr,?_⟩;refine rdP (u:=rv) (λw' hw'=>by rw[ab (hw'.heap h8.st id)];rfl) ?_;refine bst #[stv t.key,stv t.val] ⟨rfl,?_⟩;have hfA:=Fmf hdr (Fm.alloc F0 w10.drew (.cells #[stv t.key,stv t.val] 23));have hnA:=ay w10.drew (.cells #[stv t.key,stv t.val] 23);refine bsl 1 #[stv t.key,stv t.val] 23 ?_;refine⟨hfA,?_⟩;have h9:=h8.keep hfA iT;obtain⟨v',w11,hr11,ho11,hcase⟩:=cB (P:=prog) E27 dC h9.rw 27 ⟨w10.drew.heap.size,0,none⟩ 1 1 dC [stv t.key,stv t.val] rfl (λj u hj=>by rw[aA,ab hnA,E7,I5];exact hj) (by intro u hu;simp at hu;rcases hu with rfl|rfl<;>rfl) (by unfold maxLen;simp only;omega) (by simp only;omega) (Jd _);refine ag hr11 ?_;have hfg:Fm (λy=>rv.ownBlock=some y) w10 w11:=by
     rcases hcase with⟨g',e1,_,hf⟩|⟨g',_,_,hf⟩
     ·exact hfA.trans hf iE (λy _ e=>by rw[e];exact e1)
     ·exact(Fmf hfA hf).mono iE
    have rvt:∀y,rv.ownBlock=some y->∃cs fz,w10.heap[y]?=some (.cells cs 23 fz):=λy e=>by obtain⟨a1,n1,c1,e1⟩:=aZ (CellsAt.aT h8.rw);exact sV h8.rw (by rw[e1] at e ⊢;exact e)
    have n1:∀y,blockOf lv'=some y->rv.ownBlock≠some y:=λy e e'=>by obtain⟨cs,fz,g1⟩:=h8.lt y e;obtain⟨cs',fz',g2⟩:=rvt y e';rw[g1] at g2;cases g2
    have hb11:=hfg.heap h8.st h8.rb;refine au hb11 (j:=15) (dC:15<28) (az ho11) λw12 hw12 hs12 hf12=>?_
    replace hw12:w12.heap[b]?=some (.cells (plC { p with left:=l,rows:=p.rows++[(t.key,t.val)] } (stF b p.stg) v' lv' rr) 223):=hw12
    have hvb:∀y,v'.ownBlock=some y->y≠b:=λy e e'=>by obtain⟨a1,m1,c1,e1⟩:=aZ (CellsAt.aT ho11);obtain⟨cs,fz,g1⟩:=sV ho11 (y:=y) (by rw[e1] at e ⊢;exact e);rw[e',hb11] at g1;cases g1
    have hvD:∀y,v'.ownBlock=some y->D y\/w7.heap.size<=y:=λy e=>by
     rcases hcase with⟨g',e1,e2,_⟩|⟨g',e2,hz,_⟩
     ·rw[e2] at e;cases e;exact .inl (h8.rd _ e1)
     ·rw[e2] at e;cases e;have:=hfA.size;exact .inr oM
    have h12:PlAt w12 (λy=>D y\/v'.ownBlock=some y) b { p with left:=l,rows:=p.rows++[(t.key,t.val)] } v' lv' rr:=
     ⟨hw12,.inl h.ob,by
      have:=ah ho11 hf12 (λy _ _ e e'=>hvb y e e');show w12.ownsRow 0 23 2 v' (p.rows++[(t.key,t.val)]).length ((p.rows++[(t.key,t.val)]).flatMap rowL);rw[C5,Jr];exact this,λy e=>.inr e,(h8.le.keep hfg n1).keep hf12 (λy e e'=>(h8.ld y e).2 e'),λy e=>⟨.inl (h8.ld y e).1,(h8.ld y e).2⟩,λy e=>(by
      obtain⟨cs,fz,g1⟩:=h8.lt y e;exact⟨cs,fz,hf12.heap (hfg.heap g1 (n1 y e)) (h8.ld y e).2⟩),(h8.re.fS hfg (by simp only[hre];intro e;exact absurd rfl e)).keep hf12 (λy e e'=>(h8.red y e).2 e'),λy e=>⟨.inl (h8.red y e).1,(h8.red y e).2⟩⟩
    have hf8c:Fm D w10 w12:=hfg.trans hf12 (λy _ e=>h8.rd y e) (λy _ e=>by rw[e];exact h.ob);have hFD:Fm D w w12:=(bD hF8).trans hf8c iT iT;have w3':w12.heap[w2.heap.size]?=_:=hf8c.heap hw3 (λe=>by have:=hD _ e;omega);have c12:=λo=>ab (off:=o) hw12;have hlv:lenV v'=some (iv ((p.rows.length+1:Nat):Int)):=(CellsAt.aT ho11).lenV;simp only[RU,c12,hlv];rw[C5] at hq
    replace hq:(bif decide (((p.rows.length+1:Nat):Int)=p.ask.n) then some (M.fin { p with left:=l,rows:=p.rows++[(t.key,t.val)] } { rp0 with rows:=p.rows++[(t.key,t.val)] }) else M.next { p with left:=l,rows:=p.rows++[(t.key,t.val)] })=some q:=hq
    have h13:=h12.keep (Fm.drew F0 w12) iT;have hFd:=hFD.trans (Fm.drew F0 w12) iT iE;by_cases hlen:((p.rows.length+1:Nat):Int)=p.ask.n
    ·rw[C9 hlen] at hq;cases hq;obtain⟨a1,m1,c1,e1⟩:=aZ (CellsAt.aT ho11);subst e1;simp only[RU,aV,C9 hlen];refine bst #[iv 0,.bool false,stv [],.slice a1 m1 c1] ?_;refine(kV h13.st { rp0 with rows:=p.rows++[(t.key,t.val)] } rfl).mono ?_;rintro _ w14 ⟨h14,hf14⟩;exact pK (n:=w7.heap.size) ⟨_,_,_,_,h13.A1 h14 hf14 (CellsAt.aT h13.rw) (λy e=>⟨.inr e,hvb y e⟩),λy e=>e.elim .inl (λe=>(hvD y e).imp id (λe'=>⟨e',E3 (aP h13.rw y e).2 hf14.size⟩))⟩ (hf14.heap ((Fm.drew F0 w12).heap w3' id) n3) l3 z2 hD (hFd.trans hf14 iT (λy _ e=>by rw[e];exact h.ob))
    ·rw[C3 hlen] at hq;simp only[RU,aV,C3 hlen];refine(fP h13 hq).mono ?_;rintro _ w14 ⟨⟨rr',h14⟩,hf14⟩;exact pK (n:=w7.heap.size) ⟨_,_,_,_,h14,λy e=>e.elim .inl (λe=>(hvD y e).imp id (λe'=>⟨e',E3 (aP h13.rw y e).2 hf14.size⟩))⟩ (hf14.heap ((Fm.drew F0 w12).heap w3' id) n3) l3 z2 hD (hFd.trans hf14 iT (λy _ e=>by rw[e];exact h.ob))
theorem yq{w8:World}{n b3 rb:Nat}{cs:Array Value}{rc:Rc}(hX:PlX w8 D n b q)(hb:w8.heap[b3]?=some (.cells cs 168))(hr:w8.heap[rb]?=some (.cells (rcs rc nl nl nl nl nl) 168))(hn:b3<n)(h0:w.heap.size<=b3)(hD:∀y,D y->y<w.heap.size)(hF:Fm D w w8)(hc:cs.size=16:=by rfl):Pu (aI w8 ⟨rb,0,none⟩ 16) λv=>St 16 w8 (.pointer (some ⟨b3,0,none⟩)) v λ_ w3=>Pu (aI w3 ⟨b3,0,none⟩ 16) λu=>Value.tuple #[u,.bool true]=.tuple #[rcV rc,.bool true]/\PlX w3 D w.heap.size b q/\Fm D w w3:=by
 simp only[RU,aa (n:=16) hr rfl];refine ao hb (λw9 hw9 hs9 hf9=>?_) rfl hc rfl;simp only[RU,aa (n:=16) hw9 rfl];obtain⟨D',rv',lv',rr',h5,hD'⟩:=hX;refine⟨⟨D',rv',lv',rr',h5.keep hf9 ?_,λy e=>(hD' y e).imp id (λh=>⟨oM,E3 h.2 hf9.size⟩)⟩,hF.trans hf9 iT (λy hy e=>oM)⟩;rintro y hy rfl;rcases hD' _ hy with e|e
 ·have:=hD _ e;omega
 ·omega
theorem qH(h:PlAt w D b p rv lv rr)(hD:∀y,D y->y<w.heap.size)(hn:b<n0)(hN:PgN w n0 v pg)(hs:Sm pg){rc:Rc}(hq:M.finish p pg=some (q,rc))(x:Value):Cl prog 409 [pv b,.agg (vwC Vv a r su),.agg (pcs pg v),x] w λo w'=>o=.tuple #[rcV rc,.bool true]/\PlX w' D w.heap.size b q/\Fm D w w':=by
 unfold M.finish at hq;obtain⟨_,hk,hq⟩:=bind_some hq;obtain⟨s,hi,hq⟩:=bind_some hq;obtain⟨t,ht,hq⟩:=bind_some hq;obtain⟨_,hg,hq⟩:=bind_some hq;obtain⟨pq,hpq,hq⟩:=bind_some hq;obtain⟨q',hw',hq⟩:=bind_some hq;have hk:=F9 (ak hk);have hg:=ak hg;simp only[E0,JQ,C4,C7] at hg;obtain⟨⟨h1,hne⟩,htu⟩:=hg;cases hq;obtain⟨j,hj1,hj2,_⟩:=cJ hi;have hsl:=hs s (F7 hj2);refine cU4 func409 ?_ (V []) (J [(2,[10,11])]);refine ae ?_;rintro b1 w1 rfl hs1 hw1 hf1;refine ae ?_;rintro b2 w2 rfl hs2 hw2 hf2;refine ae ?_;rintro b3 w3 rfl hs3 hw3 hf3;have hF3:=Fmf (Fmf hf1 hf2) hf3;have h3:=h.keep hF3 (λ_ _ e=>e);have hlb:=aj h.st;have z2:=(Fmf hf1 hf2).size;have hw2:=hf3.heap hw2 (λe=>e);have n3:w2.heap.size≠b:=oM;have l3:=aj hw3;have hdr:=Fm.drew F0 w3;simp only[RU,jn1];refine⟨λw'=>Fm F0 w3 w',hdr,⟨.agg (pcs pg v),λw' hw'=>?_,?_⟩⟩
 ·simp only[RU,aa (n:=6) (hw'.heap hw2 (λe=>e)) rfl,H7]
 refine rdP (u:=iv p.wpg) (λw' hw'=>by rw[ab (hw'.heap h3.st (λe=>e))];rfl) ?_;refine rdP (u:=iv p.one.slot) (λw' hw'=>by rw[ab (hw'.heap h3.st (λe=>e))];rfl) ?_;refine rdP (u:=iv p.own) (λw' hw'=>by rw[ab (hw'.heap h3.st (λe=>e))];rfl) ?_;refine two (λ_ _ us u=>us=rcs { M.rec0 with kind:=2,xid:=p.own,page:=p.wpg,slot:=p.one.slot,old:=t.xmax,new:=p.own } nl nl nl nl nl/\u=iv 0) (λw4 hf4=>?_) (λw4 hf4=>Fmf hdr hf4) (Y:=F0) (λ_ e=>e.elim) (λ_ _ _ _ _ _ h _=>h) ?_
 ·refine(ug (hN.keep (Fmf hF3 (Fmf hdr hf4))) hk hi hsl ht h1 hne htu hpq p.wpg).mono ?_;rintro _ w5 ⟨rfl,hf5⟩;exact⟨_,_,rfl,rfl,rfl,⟨rfl,rfl⟩,hf5⟩
 rintro base w5 b5 us u hb1 hb2 hsz hw5 ⟨rfl,rfl⟩ hf5;have hf35:=Fmf hdr hf5;have h5:=h3.keep hf35 (λ_ _ e=>e);simp only[RU,show((0:Int) != 0)=false from rfl];refine(mP h5 hw').mono ?_;rintro _ w6 ⟨⟨rr',h6⟩,hf6⟩;rw[aM] at hb2;exact yq (n:=w3.heap.size) ⟨_,_,_,_,h6,λy e=>.inl e⟩ (hf6.heap (hf35.heap hw3 (λe=>e)) n3) (hf6.heap hw5 oM) l3 z2 hD (((Fmf hF3 hf35).mono (λ_ _ e=>e.elim)).trans hf6 (λ_ _ e=>e) (λy _ e=>by rw[e];exact h.ob))
theorem Ao(h:PlAt w D b p rv lv rr)(hD:∀y,D y->y<w.heap.size)(hn:b<n0)(hN:PgN w n0 v pg)(hs:Sm pg){rc:Rc}(hq:M.layP p pg=some (q,rc))(x:Value):Cl prog 302 [pv b,.agg (vwC Vv a r su),.agg (pcs pg v),x] w λo w'=>o=.tuple #[rcV rc,.bool true]/\PlX w' D w.heap.size b q/\Fm D w w':=by
 unfold M.layP at hq;obtain⟨_,hk,hq⟩:=bind_some hq;obtain⟨n,hsl,hq⟩:=bind_some hq;obtain⟨pq,hpq,hq⟩:=bind_some hq;obtain⟨_,he,hq⟩:=bind_some hq;have hk:=ak hk;have he:=ak he;simp only[E0,C4] at hk;obtain⟨hk,htu⟩:=hk;cases hq;refine cU4 func302 ?_ (V []) (J [(3,[11,12])]);refine ae ?_;rintro b1 w1 rfl hs1 hw1 hf1;refine ae ?_;rintro b2 w2 rfl hs2 hw2 hf2;refine ae ?_;rintro b3 w3 rfl hs3 hw3 hf3;have hF3:=Fmf (Fmf hf1 hf2) hf3;have h3:=h.keep hF3 (λ_ _ e=>e);have hlb:=aj h.st;have z2:=(Fmf hf1 hf2).size;have hw2:=hf3.heap hw2 (λe=>e);have n3:w2.heap.size≠b:=oM;have l3:=aj hw3;have hdr:=Fm.drew F0 w3;have c:=λo=>ab (off:=o) h3.st;obtain⟨R,hR⟩:∃R:Rc,R={ M.rec0 with kind:=1,xid:=(M.version p).xmin,page:=p.wpg,slot:=n,data:=dL (M.version p) }:=⟨_,rfl⟩;have ins:∀w4,Fm F0 w3 w4->Cl prog 359 [.agg (pcs pg v),iv p.wpg,.agg (tuC (M.version p))] w4 λo w5=>o=.tuple #[.agg (rcs R nl nl nl nl nl),iv 0]/\Fm F0 w4 w5:=λw4 hf4=>by rw[hR];exact xm (hN.keep (Fmf hF3 hf4)) hk hsl htu hpq (lx htu) p.wpg
 simp only[RU,c];refine aJ (λvs w'=>∃b5,vs=[pv b5,iv 0]/\w3.heap.size<=b5/\w'.heap[b5]?=some (.cells (rcs R nl nl nl nl nl) 168)/\Fm F0 w3 w') ?_ ?_
 ·rintro _ w5 ⟨b5,rfl,hb5,hw5,hf5⟩;have h5:=h3.keep hf5 (λ_ _ e=>e);have c5:=λo=>ab (off:=o) h5.st;have r5:=λo=>ab (off:=o) hw5;have hd5:=Fm.drew F0 w5;simp only[RU,I0,c5];subst hR;have nb5:b5≠b:=by have:=hF3.size;omega
  refine⟨λw'=>Fm (·=b) w5 w',Fm.drew _ _,?_⟩;refine rdP (u:=iv (n:Int)) (λw' hw'=>by rw[ab (hw'.heap hw5 nb5)];rfl) ?_;refine⟨.agg (entC ⟨p.ask.key,p.wpg,n⟩),λw' hw'=>bst (entC ⟨p.ask.key,p.wpg,n⟩) ⟨rfl,rfl⟩,?_⟩;refine au (hd5.heap h5.st (λe=>e)) (j:=23) (dC:23<28) rfl λw6 hw6 hs6 hf6=>?_;have hf6:=(Fm.drew (·=b) w5).trans hf6 (λ_ _ e=>e) (λ_ _ e=>e);refine⟨hf6,?_⟩;refine bZ hw6 (o:=24) rfl (dC:24+3<=28) (G8.1 (by rfl)) λw7 hw7 hs7 hf7=>?_
  replace hw7:w7.heap[b]?=some (.cells (plC { p with ent:=⟨p.ask.key,p.wpg,n⟩ } (stF b p.stg) rv lv rr) 223):=hw7
  simp only[RU,cP hw7 (o:=24) (n:=3) (us:=entC ⟨p.ask.key,p.wpg,n⟩) (dC:24+3<=28) rfl];refine(wY he).mono ?_;rintro _ w8 ⟨rfl,hf8⟩;simp only[RU];refine au (hf8.heap hw7 (λe=>e)) (j:=27) (dC:27<28) rfl λw9 hw9 hs9 hf9=>?_
  replace hw9:w9.heap[b]?=some (.cells (plC { p with ent:=⟨p.ask.key,p.wpg,n⟩,item:=sA ⟨p.ask.key,p.wpg,n⟩ } (stF b p.stg) rv lv rr) 223):=hw9
  have hf79:=(hf7.trans hf8 (λ_ _ e=>e) (λ_ _ e=>e.elim)).trans hf9 (λ_ _ e=>e) (λ_ _ e=>e);have hf59:=hf6.trans hf79 (λ_ _ e=>e) (λ_ _ e=>e);refine(oJ (f':=stg b 362) hw9 362 rfl).mono ?_;rintro _ w10 ⟨hw10,hf10⟩;have hf510:=hf59.trans hf10 (λ_ _ e=>e) (λ_ _ e=>e);exact yq (n:=w3.heap.size) ⟨_,_,_,_,h5.to (q:=M.see { p with ent:=⟨p.ask.key,p.wpg,n⟩,item:=sA ⟨p.ask.key,p.wpg,n⟩,seen:=0 } 1 362) hw10 hf510 rfl rfl rfl,λy e=>.inl e⟩ (hf510.heap (hf5.heap hw3 (λe=>e)) n3) (hf510.heap hw5 nb5) l3 z2 hD (((Fmf hF3 hf5).mono (λ_ _ e=>e.elim)).trans hf510 (λ_ _ e=>e) (λy _ e=>by rw[e];exact h.ob))
 ·intro kk hkk;refine⟨λw'=>Fm F0 w3 w',hdr,⟨.agg (pcs pg v),λw' hw'=>?_,?_⟩⟩
  ·simp only[RU,aa (n:=6) (hw'.heap hw2 (λe=>e)) rfl,H7]
  refine⟨?_,?_,trivial⟩
  ·refine(fG (h3.keep hdr (λ_ _ e=>e)).st).mono ?_;rintro _ w4 ⟨rfl,hf4⟩;have hf4:=Fmf hdr hf4;refine⟨hf4,?_⟩;refine two (λ_ _ us u=>us=rcs R nl nl nl nl nl/\u=iv 0) (λw5 hf5=>?_) (λw5 hf5=>Fmf hf4 hf5) (Y:=F0) (λ_ e=>e.elim) (λ_ _ _ _ _ _ h _=>h) ?_
   ·refine(ins w5 (Fmf hf4 hf5)).mono ?_;rintro _ w6 ⟨rfl,hf6⟩;exact⟨_,_,rfl,rfl,rfl,⟨rfl,rfl⟩,hf6⟩
   rintro base w5 b5 us u hb1 hb2 hsz hw5 ⟨rfl,rfl⟩ hf5;exact hkk _ _ ⟨b5,rfl,F8 hf4.size hb2,hw5,Fmf hf4 hf5⟩
  ·refine ae ?_;rintro b4 w4 rfl hs4 hw4 hf4;rw[aM] at hw4;have hf4:=Fmf hdr hf4;refine⟨hf4,?_⟩;refine(fG (h3.keep hf4 (λ_ _ e=>e)).st).mono ?_;rintro _ w5 ⟨rfl,hf5⟩;have hf35:=Fmf hf4 hf5;refine⟨hf35,(ins w5 hf35).mono ?_⟩;rintro _ w6 ⟨rfl,hf6⟩;simp only[RU];refine ao ((Fmf hf5 hf6).heap hw4 (λe=>e)) (λw7 hw7 hs7 hf7=>?_) rfl rfl rfl;exact hkk _ _ ⟨_,rfl,D9 _,hw7,Fm.own (Fmf hf35 hf6) hf7 (by rintro y rfl;exact D9 _)⟩
theorem qC(h:PlAt w D b p rv lv rr)(hD:∀y,D y->y<w.heap.size)(hn:b<n0)(hN:PgN w n0 v pg)(hs:Sm pg){rc:Rc}(hq:M.enter p pg=some (q,rc)):Cl prog 362 [pv b,.agg (vwC Vv a r su),.agg (pcs pg v),nl] w λo w'=>o=.tuple #[rcV rc,.bool true]/\PlX w' D w.heap.size b q/\Fm D w w':=by
 unfold M.enter at hq;obtain⟨_,hk,hq⟩:=bind_some hq;obtain⟨pq,hpq,hq⟩:=bind_some hq;have hk:=ak hk;simp only[E0,C4] at hk;obtain⟨⟨he,h0⟩,hil⟩:=hk;obtain⟨e',L,_,ho,_⟩:=om hpq;cases hq;refine cU4 func362 ?_ (V []) (J [(4,[10,11]),(14,[])]);refine ae ?_;rintro b1 w1 rfl hs1 hw1 hf1;refine ae ?_;rintro b2 w2 rfl hs2 hw2 hf2;refine ae ?_;rintro b3 w3 rfl hs3 hw3 hf3;have hF3:=Fmf (Fmf hf1 hf2) hf3;have h3:=h.keep hF3 iT;have hlb:=aj h.st;have z2:=(Fmf hf1 hf2).size;have hw2:=hf3.heap hw2 id;have n2:w1.heap.size≠b:=oM;have n3:w2.heap.size≠b:=oM;have l3:=aj hw3;have hdr:=Fm.drew F0 w3;have c:=λo=>ab (off:=o) h3.st;have h3d:=h3.keep hdr iT;simp only[RU,c,aa (n:=6) (hdr.heap hw2 id) rfl,cP h3d.st (o:=24) (n:=3) (us:=entC p.ent) (dC:24+3<=28) rfl];refine(pH h3d (hN.keep (Fmf hF3 hdr)) hs ho he h0).mono ?_;rintro _ w4 ⟨rfl,h4,hf4⟩;have hF4:Fm (·=b) w w4:=(Fmf hF3 hdr).trans hf4 iE iT;have hw2:=hf4.heap (hdr.heap hw2 id) n2;have hw3:=hf4.heap (hdr.heap hw3 id) n3;have hd4:=Fm.drew F0 w4;simp only[RU];refine aJ (λvs w'=>∃b5,vs=[pv b5,iv 0]/\w4.heap.size<=b5/\w'.heap[b5]?=some (.cells (rcs { M.rec0 with kind:=3,page:=p.wpg,data:=p.item } nl nl nl nl nl) 168)/\Fm F0 w4 w') ?_ ?_
 ·rintro _ w5 ⟨b5,rfl,hb5,hw5,hf5⟩;have h5:=h4.keep hf5 iT;have c5:=λo=>ab (off:=o) h5.st;have r5:=λo=>ab (off:=o) hw5;have z4:=hF4.size;have nb5:b5≠b:=oM;simp only[RU,I0,c5,jn1];refine au hw5 (j:=4) (dC:4<16) rfl λw6 hw6 hs6 hf6=>?_
  replace hw6:w6.heap[b5]?=some (.cells (rcs { M.rec0 with kind:=3,page:=p.wpg,data:=p.item,xid:=p.own } nl nl nl nl nl) 168):=hw6
  have h6:=h5.keep hf6 (λy hy e=>by have:=hD y hy;omega);simp only[RU,aa (n:=16) hw6 rfl];refine(tC _ (dC:(3:Int)≠5)).mono ?_;rintro _ w7 ⟨rfl,hf7⟩;simp only[RU];refine aD (us:=entC ent0) (λw8 hs8 hw8 hf8=>?_) rfl rfl rfl;have hf68:=Fmf hf7 hf8;have h8:=h6.keep hf68 iT;have c8:=λo=>ab (off:=o) h8.st;simp only[RU,c8];refine bst #[iv 0,.bool p.hit,stv [],nl] ?_;refine(jC h8 { rp0 with found:=p.hit } rfl).mono ?_;rintro _ w9 ⟨h9,hf9⟩;have hF8:Fm (·=b) w w8:=((hF4.trans hf5 iT iE).trans hf6 iT (λy hy e=>oM)).trans hf68 iT iE;have hz3:=hdr.size;have hz4:=hf4.size;have ne5:w2.heap.size≠b5:=oM;exact yq (n:=w3.heap.size) ⟨_,_,_,_,h9,λy e=>.inl e⟩ (hf9.heap (hf68.heap (hf6.heap (hf5.heap hw3 id) ne5) id) n3) (hf9.heap (hf68.heap hw6 id) nb5) l3 z2 hD ((hF8.trans hf9 iT iT).mono (λy _ e=>by rw[e];exact h.ob))
 ·intro kk hkk;refine⟨λw'=>Fm F0 w4 w',hd4,⟨.agg (pcs pg v),λw' hw'=>?_,?_⟩⟩
  ·simp only[RU,aa (n:=6) (hw'.heap hw2 id) rfl,H7]
  refine rdP (u:=iv p.wpg) (λw' hw'=>by rw[ab (hw'.heap h4.st id)];rfl) ?_;refine rdP (u:=stv p.item) (λw' hw'=>by rw[ab (hw'.heap h4.st id)];rfl) ?_;have hN4:=(hN.keep (Fmf hF3 hdr)).dO hf4 (by rintro y rfl;exact hn);refine two (λ_ _ us u=>us=rcs { M.rec0 with kind:=3,page:=p.wpg,data:=p.item } nl nl nl nl nl/\u=iv 0) (λw5 hf5=>?_) (λw5 hf5=>Fmf hd4 hf5) (Y:=F0) (λ_ e=>e.elim) (λ_ _ _ _ _ _ h _=>h) ?_
  ·refine(tZ (hN4.keep (Fmf hd4 hf5)) hs oM hpq p.wpg).mono ?_;rintro _ w6 ⟨rfl,hf6⟩;exact⟨_,_,rfl,rfl,rfl,⟨rfl,rfl⟩,hf6⟩
  rintro base w5 b5 us u hb1 hb2 hsz hw5 ⟨rfl,rfl⟩ hf5;exact hkk _ _ ⟨b5,rfl,F8 hd4.size hb2,hw5,Fmf hd4 hf5⟩
end
section
variable{w w':World}{b n0:Nat}{p q:Pn}{f f' rv lv rr v:Value}{D:Nat->Prop}{pg:Pg}{Vv:M.Vw}{a r su:Value}
abbrev waC(p:Pn):Array Value:=#[iv p.wk,stv p.wkey,iv p.wsz,iv p.wpg]
theorem lA(h:PlAt w D b p rv lv rr):Cl prog 128 [pv b] w λo w'=>o=.agg (waC p)/\Fm F0 w w':=by refine cU1 func128 ?_;refine ae ?_;rintro b1 w1 rfl hs1 hw1 hf1;have h1:=hf1.heap h.st id;simp only[RU,cP h1 (o:=6) (n:=4) (us:=waC p) (dC:6+4<=28) rfl];refine ao hw1 (λw2 hw2 hs2 hf2=>?_) rfl rfl rfl;simp only[RU,aa (n:=4) hw2 rfl];exact Fm.own hf1 hf2 (by rintro y rfl;exact D9 _)
theorem xE(h:PlAt w D b p rv lv rr)(hk:p.wk=1)(got:Bool)(e:Int):Cl prog 129 [pv b,.bool got,iv e] w λo w'=>(∃rr',PlAt w' D b (bif decide (e=0) then(bif got then M.look p else p) else M.fin p { rp0 with err:=e }) rv lv rr')/\Fm (·=b) w w':=by
 have c:=λo=>ab (off:=o) h.st;refine cU3 func129 ?_;by_cases h0:e=0
 ·subst h0;cases got with
  | true=>simp only[RU,c,hk,show((1:Int) != 1)=false from rfl,show((0:Int) != 0)=false from rfl,Jm,D8];refine(pj h.st).mono ?_;rintro _ w2 ⟨h2,hf2⟩;exact⟨⟨rr,h.to h2 hf2 rfl rfl rfl⟩,hf2⟩
  | false=>simp only[RU,c,hk,show((1:Int) != 1)=false from rfl,show((0:Int) != 0)=false from rfl,Jm,D8,C8];exact⟨⟨rr,h⟩,Fm.refl _ _⟩
 ·simp only[RU,c,hk,show((1:Int) != 1)=false from rfl,show(e != 0)=true by simp[h0],C3 h0,C8];refine bst #[iv e,.bool false,stv [],nl] ?_;exact(jC h { rp0 with err:=e } rfl).mono λ_ _ ⟨h2,hf2⟩=>⟨⟨_,h2⟩,hf2⟩
theorem uT(h:PlAt w D b p rv lv rr)(hk:p.wk=2)(n:Int):Cl prog 224 [pv b,iv n] w λo w'=>PlAt w' D b (M.see p n 302) rv lv rr/\Fm (·=b) w w':=by have c:=λo=>ab (off:=o) h.st;refine cU2 func224 ?_;simp only[RU,c,hk,I0];refine(jK (f':=stg b 302) h.st n 302 rfl).mono ?_;rintro _ w2 ⟨h2,hf2⟩;exact⟨h.to h2 hf2 rfl rfl rfl,hf2⟩
theorem uA:(w.alloc (.cells #[] 23)).ownsRow w.heap.size 23 2 (.slice (some ⟨w.heap.size,0,none⟩) 0 0) 0 []:=⟨rfl,.inr ⟨w.heap.size,0,#[],rfl,D9 _,ay _ _,D9 _,Jd _,rfl,rfl⟩⟩
theorem uL{rows:List (Bs×Bs)}(h:CellsAt w v rows.length 2 (rows.flatMap rowL))(hl:rows.length<=2000):Cl prog 228 [v] w λo w'=>w'.ownsRow w.heap.size 23 2 o rows.length (rows.flatMap rowL)/\Fm F0 w w':=by
 refine cU1 func228 ?_;obtain⟨⟨a,c,hv,h1,h2,h3,h4⟩,hl'⟩:=id h;cases a with
 | none=>subst hv;obtain⟨e1,e2⟩:=h3 rfl;have e3:aC (TypeDesc.slice 23) .eql (.slice none rows.length c) (.slice none 0 0)=some (.bool true):=kR;simp only[RU,e3];have:rows=[]:=H0 e1;subst this;exact⟨World.ownsRow_nil _ _ _ _,Fm.refl _ _⟩
 | some ad=>subst hv;have e3:aC (TypeDesc.slice 23) .eql (.slice (some ad) rows.length c) (.slice none 0 0)=some (.bool false):=kR;simp only[RU,e3];refine bsl 0 #[] 23 ?_;have ho2:=uA (w:=w);have hf2:=Fm.alloc F0 w (.cells #[] 23);generalize w.alloc (.cells #[] 23)=w2 at ho2 hf2;obtain⟨lv,w3,hr3,ho3,hf3⟩:=cC E27 oM ho2 (h.keep hf2 iT) (by intro u hu;obtain⟨x,_,hx⟩:=KF.1 hu;simp at hx;rcases hx with rfl|rfl<;>rfl) 27 (by unfold maxLen;omega) oM hf2.size;refine ag hr3 ?_;rw[E7,H9] at ho3;exact⟨ho3,Fm.own hf2 hf3 (λy hy=>by have:=aP ho2 y hy;omega)⟩
theorem mD(h:PlAt w D b p rv lv rr)(hk:p.wk=4)(hl:p.rep.rows.length<=2000):Cl prog 133 [pv b] w λo w'=>∃u,o=.agg #[iv p.rep.err,.bool p.rep.found,stv p.rep.val,u]/\w'.ownsRow w.heap.size 23 2 u p.rep.rows.length (p.rep.rows.flatMap rowL)/\Fm F0 w w':=by
 refine cU1 func133 ?_;refine ae ?_;rintro b1 w1 rfl hs1 hw1 hf1;have h1:=h.keep hf1 iT;have c:=λo=>ab (off:=o) h1.st;have hrr:=gn h1.re;simp only[RU,c,hk,show((4:Int) != 4)=false from rfl,cP h1.st (o:=11) (n:=4) (us:=#[iv p.rep.err,.bool p.rep.found,stv p.rep.val,rr]) (dC:11+4<=28) rfl];refine aD (us:=#[iv p.rep.err,.bool p.rep.found,stv p.rep.val,rr]) (λw2 hs2 hw2 hf2=>?_) rfl rfl (by simp[hrr];exact⟨rfl,rfl,rfl⟩);simp only[RU,ab hw2];refine(uL (h1.keep hf2 iT).re hl).mono ?_;rintro u w3 ⟨ho3,hf3⟩;have hF2:=Fmf hf1 hf2;refine au (hf3.heap hw2 id) (j:=3) (dC:3<4) (az ho3) λw4 hw4 hs4 hf4=>?_
 replace hw4:w4.heap[w1.heap.size]?=some (.cells #[iv p.rep.err,.bool p.rep.found,stv p.rep.val,u] 49):=hw4
 simp only[RU,aa (n:=4) hw4 rfl];have z1:=hf1.size;have z3:=aj hw2;have ho4:=ah ho3 hf4 (by rintro y hy _ _ rfl;omega);have z2:=hF2.size;refine ao (hf4.heap ((Fmf hf2 hf3).heap hw1 id) oM) (λw5 hw5 hs5 hf5=>?_) rfl rfl (by simp[az ho3];exact⟨rfl,rfl,rfl⟩);simp only[RU,aa (n:=4) hw5 rfl];exact⟨u,rfl,aU (ah ho4 hf5 (by rintro y hy _ _ rfl;omega)) z2,Fm.own (Fm.own (Fmf hF2 hf3) hf4 (by rintro y rfl;omega)) hf5 (by rintro y rfl;exact D9 _)⟩
theorem um(h:PlAt w D b p rv lv rr)(hk:p.wk=3)(hN:PgN w n0 v pg)(hs:Sm pg)(hi:p.item=[]\/∃L q,M.opened pg=some L/\entOk p.ent=true/\p.item.length<=1000000/\M.blay pg p.item=some q):Cl prog 225 [pv b,.agg (pcs pg v)] w λo w'=>o=iv 0/\Fm F0 w w':=by
 refine cU2 func225 ?_;refine ae ?_;rintro b1 w1 rfl hs1 hw1 hf1;have h1:=h.keep hf1 iT;have c:=λo=>ab (off:=o) h1.st;by_cases h0:p.item=[]
 ·simp only[RU,c,hk,show((3:Int) != 3)=false from rfl,h0,Jm];exact hf1
 ·rcases hi with hi|⟨L,q,ho,he,hl,hq⟩
  ·exact absurd hi h0
  have hd1:=Fm.drew F0 w1;have h1d:=h1.keep hd1 iT;have hFd:=Fmf hf1 hd1;simp only[RU,c,hk,show((3:Int) != 3)=false from rfl,C3 h0,aa (n:=6) (hd1.heap hw1 id) rfl,cP h1d.st (o:=24) (n:=3) (us:=entC p.ent) (dC:24+3<=28) rfl];refine(tA (hN.keep hFd) hs ho he).mono ?_;rintro _ w2 ⟨rfl,hf2⟩;have hF2:=Fmf hFd hf2;have hd2:=Fm.drew F0 w2;have h2:=h1d.keep hf2 iT;have c2:=λo=>ab (off:=o) h2.st;simp only[RU,show((0:Int) != 0)=false from rfl,c2,aa (n:=6) ((Fmf hd1 (Fmf hf2 hd2)).heap hw1 id) rfl];refine(pw (hN.keep (Fmf hF2 hd2)) hs hl hq p.wpg).mono ?_;rintro _ w3 ⟨rfl,hf3⟩;simp only[RU,show((0:Int) != 0)=false from rfl];exact Fmf (Fmf hF2 hd2) hf3
theorem ya(h:PlAt w D b p rv lv rr)(hD:∀y,D y->y<w.heap.size)(hn:b<n0)(hN:PgN w n0 v pg){n1:Nat}(hV:VwN w n1 Vv a r su)(hab:∀y,D y->blockOf a≠some y/\blockOf r≠some y/\(Vv.st.items≠[]->blockOf su≠some y)){orc:Option Rc}(hq:M.pageP Vv p pg=some (q,orc)):Cl prog 226 [pv b,.agg (vwC Vv a r su),.agg (pcs pg v),nl] w λo w'=>o=.tuple #[rcV (orc.getD M.rec0),.bool orc.isSome]/\PlX w' D w.heap.size b q/\Fm D w w':=by
 unfold M.pageP at hq;cases hsm:(M.smP pg&&(decide (p.stg=362)||p.item.isEmpty)) with
 | false=>rw[hsm] at hq;cases hq
 | true=>
 rw[hsm] at hq
 replace hq:(match p.stg with
  | 216=>(M.descend p pg).map (·,none)
  | 408=>(M.inspect Vv p pg).map (·,none)
  | 409=>(M.finish p pg).map λx=>(x.1,some x.2)
  | 302=>(M.layP p pg).map λx=>(x.1,some x.2)
  | 362=>(M.enter p pg).map λx=>(x.1,some x.2)
  | _=>none:Option (Pn×Option Rc))=some (q,orc):=hq
 have hs:=(iz (E0 _ _▸hsm).1).1;refine cU4 func226 ?_;refine ae ?_;rintro b1 w1 rfl hs1 hw1 hf1;refine ae ?_;rintro b2 w2 rfl hs2 hw2 hf2;refine ae ?_;rintro b3 w3 rfl hs3 hw3 hf3;have hF3:=Fmf (Fmf hf1 hf2) hf3;have hdr:=Fm.drew F0 w3;have hFd:=Fmf hF3 hdr;have h3:=h.keep hF3 (λ_ _ e=>e);have h3d:=h.keep hFd (λ_ _ e=>e);have z2:=(Fmf hf1 hf2).size;have z3:=hF3.size;have hw2:=(Fmf hf3 hdr).heap hw2 (λe=>e);have hw1:=(Fmf (Fmf hf2 hf3) hdr).heap hw1 (λe=>e);have l3:=aj hw3;have c:=λo=>ab (off:=o) h3.st;have hD3:∀y,D y->y<w3.drew.heap.size:=λy hy=>E3 (hD y hy) hFd.size;have hN3:=hN.keep hFd;have hV3:=hV.keep hFd;have stage:∃f,stF b p.stg=stg b f/\jw prog f=true/\Cl prog f [pv b,.agg (vwC Vv a r su),.agg (pcs pg v),nl] w3.drew λo w'=>o=.tuple #[rcV (orc.getD M.rec0),.bool orc.isSome]/\PlX w' D w3.drew.heap.size b q/\Fm D w3.drew w':=by
  have bD:∀{w1 w2:World},Fm (·=b) w1 w2->Fm D w1 w2:=λhf=>hf.mono (λy _ e=>by rw[e];exact h.ob);split at hq
  ·rename_i e;obtain⟨q',hq',e2⟩:=E6.1 hq;cases e2;exact⟨216,by rw[e];rfl,kR,(oG h3d hD3 hn hN3 hs hq' nl).mono λ_ _ ⟨a,b,c⟩=>⟨a,b,bD c⟩⟩
  ·rename_i e;obtain⟨q',hq',e2⟩:=E6.1 hq;cases e2;exact⟨408,by rw[e];rfl,kR,oX h3d hD3 hn hN3 hs hV3 hab hq' nl⟩
  ·rename_i e;obtain⟨⟨q',rc⟩,hq',e2⟩:=E6.1 hq;cases e2;exact⟨409,by rw[e];rfl,kR,qH h3d hD3 hn hN3 hs hq' nl⟩
  ·rename_i e;obtain⟨⟨q',rc⟩,hq',e2⟩:=E6.1 hq;cases e2;exact⟨302,by rw[e];rfl,kR,Ao h3d hD3 hn hN3 hs hq' nl⟩
  ·rename_i e;obtain⟨⟨q',rc⟩,hq',e2⟩:=E6.1 hq;cases e2;exact⟨362,by rw[e];rfl,kR,qC h3d hD3 hn hN3 hs hq'⟩
  ·cases hq
 obtain⟨f,hf,hcb,hcl⟩:=stage;rw[hf] at c;have e0:aC (TypeDesc.func #[200,68,25] #[168,4] false) .eql (stg b f) .nilFunc=some (.bool false):=kR;simp only[RU,c,e0,aa (n:=11) hw1 rfl,aa (n:=6) hw2 rfl];refine ax hcb ?_;refine hcl.mono ?_;rintro _ w4 ⟨rfl,hX,hf4⟩;simp only[RU];refine ao (hf4.heap (hdr.heap hw3 (λe=>e)) (λe=>by have:=hD _ e;omega)) (λw5 hw5 hs5 hf5=>?_) rfl rfl rfl;simp only[RU,aa (n:=16) hw5 rfl];obtain⟨D',rv',lv',rr',h5,hD'⟩:=hX;refine⟨⟨D',rv',lv',rr',h5.keep hf5 ?_,λy e=>(hD' y e).imp id (λe=>⟨F8 hFd.size e.1,E3 e.2 hf5.size⟩)⟩,((hFd.mono (λ_ _ e=>e.elim)).trans hf4 (λ_ _ e=>e) (λ_ _ e=>e)).trans hf5 (λ_ _ e=>e) (λy hy e=>oM)⟩;rintro y hy rfl;rcases hD' _ hy with e|e
 ·have:=hD _ e;omega
 ·rw[aM] at e;omega
theorem my{k:Ak}{own:Int}(hq:M.mkP k own=some p):Cl prog 47 [.agg (akC k),iv own] w λo w'=>∃b,o=.tuple #[pv b,iv 0]/\w.heap.size<=b/\PlAt w' (·=b) b p nl nl nl/\Fm F0 w w':=by
 unfold M.mkP at hq;obtain⟨_,hr,hq⟩:=bind_some hq;have hr:=ak hr;cases hq;refine cU2 func47 ?_ (V []) (J [(7,[])]);refine ae ?_;rintro b1 w1 rfl hs1 hw1 hf1;simp only[RU,aa (n:=5) hw1 rfl];refine(uI hr).mono ?_;rintro _ w2 ⟨rfl,hf2⟩;simp only[RU,aa (n:=5) (hf2.heap hw1 id) rfl];refine bst (plC (M.pn0 k own) .nilFunc nl nl nl) ?_;refine ae ?_;rintro b w3 rfl hs3 hw3 hf3;have hF2:=Fmf hf1 hf2;simp only[RU] at hw3;have h3:PlAt w3 (·=w2.heap.size) w2.heap.size (M.pn0 k own) nl nl nl:=⟨hw3,rfl,World.ownsRow_nil _ _ _ _,λy e=>(by cases e),CellsAt.aT (World.ownsRow_nil _ 0 221 3),λy e=>(by cases e),λy e=>(by cases e),xQ,λy e=>(by cases e)⟩;have hz:=hF2.size;simp only[RU,jn1];refine(dz h3.st).mono ?_;rintro _ w4 ⟨rfl,rfl⟩;cases hw:M.writes k with
 | true=>have c:=λo=>ab (off:=o) ((Fmf hf2 hf3).heap hw1 id);simp only[RU,show M.writes (M.pn0 k own).ask=true from hw,c,D8];refine bst #[iv 1,stv k.key,iv 0,iv 0] ?_;refine bZ h3.st (o:=6) rfl (dC:6+4<=28) (G8.1 (by rfl)) λw5 hw5 hs5 hf5=>?_;exact⟨_,rfl,hz,h3.to (q:={ M.pn0 k own with wk:=1,wkey:=k.key }) hw5 hf5 rfl rfl rfl,Fm.own (Fmf hF2 hf3) hf5 (by rintro y rfl;exact hz)⟩
 | false=>simp only[RU,show M.writes (M.pn0 k own).ask=false from hw,C8];refine(pj h3.st).mono ?_;rintro _ w5 ⟨h5,hf5⟩;exact⟨_,rfl,hz,h3.to h5 hf5 rfl rfl rfl,Fm.own (Fmf hF2 hf3) hf5 (by rintro y rfl;exact hz)⟩
end
open M (E Seat Wk Pn Rp Ak Tx)
structure Bk where
 x : Nat
 pb : Nat
 lb : Nat
 db : Nat
 g : Nat
 m : Nat
 fb : Nat
 ob : Nat
 kb : Nat
 kh : Nat
 kw : Nat
 tb : Nat
 tm : Nat
 ib : Nat
 sb : Nat
 sm : Nat
 mt : Nat
 frames : Int
 secs : Int
section
variable{w w':World}{D D' S:Nat->Prop}{B:Bk}{u rv sv:Value}
def SysAt(w:World)(D:Nat->Prop)(B:Bk)(s:PS):Prop:=∃Xl Xp Q F,SI w Xl Xp Q B.pb B.lb B.db B.g B.m B.fb B.ob F s/\∀y,SY Xl Xp B.db B.g B.m y->D y
theorem SysAt.keep{s:PS}(h:SysAt w D B s)(hf:Fm S w w')(hs:∀y,D y->¬S y):SysAt w' D B s:=by obtain⟨Xl,Xp,Q,F,h1,h2⟩:=h;exact⟨Xl,Xp,Q,F,h1.keep hf (λy hy=>hs y (h2 y hy)),h2⟩
theorem SysAt.wide{s:PS}(h:SysAt w D B s)(hD:∀y,D y->D' y):SysAt w D' B s:=by obtain⟨Xl,Xp,Q,F,h1,h2⟩:=h;exact⟨Xl,Xp,Q,F,h1,λy hy=>hD y (h2 y hy)⟩
structure LkAt (w : World) (D : Nat → Prop) (B : Bk) (hs : List (Bs × Int)) (ws : List (Int × Bs)) : Prop where
 ex : ∃ H W, IsT w B.kb B.kh B.kw H W ∧ Sound H W ∧ (∀ k, getD H (str k) = getD hs k) ∧ ∀ p, getD W p = (getD ws p).map str
 ob : D B.kb ∧ D B.kh ∧ D B.kw
 nh : (hs.map (·.1)).Nodup
 nw : (ws.map (·.1)).Nodup
theorem LkAt.keep{hs:List (Bs×Int)}{ws:List (Int×Bs)}(h:LkAt w D B hs ws)(hf:Fm S w w')(hS:∀y,D y->¬S y):LkAt w' D B hs ws:=by obtain⟨H,W,h1,h2⟩:=h.ex;exact⟨⟨H,W,h1.keep hf (hS _ h.ob.1) (hS _ h.ob.2.1) (hS _ h.ob.2.2),h2⟩,h.ob,h.nh,h.nw⟩
theorem LkAt.wide{hs:List (Bs×Int)}{ws:List (Int×Bs)}(h:LkAt w D B hs ws)(hD:∀y,D y->D' y):LkAt w D' B hs ws:=⟨h.ex,⟨hD _ h.ob.1,hD _ h.ob.2.1,hD _ h.ob.2.2⟩,h.nh,h.nw⟩
structure IdAt (w : World) (D : Nat → Prop) (B : Bk) (m nxt : Int) : Prop where
 st : w.heap[B.ib]? = some (.cells #[iv m, iv nxt, iv 1] 182)
 ob : D B.ib
structure SpcAt (w : World) (D : Nat → Prop) (B : Bk) (r : Option Int) : Prop where
 st : SpAt w B.sb B.sm r
 ob : D B.sb ∧ D B.sm
structure RsAt (w : World) (D : Nat → Prop) (B : Bk) (recs : List Rc) (met saves : List Int) (rv sv : Value) : Prop where
 rc : ∃ (C : List (Array Value)) (Q : Nat → Prop), CellsAt w rv C.length 16 (C.flatMap Array.toList) ∧ C.length = recs.length ∧ (∀ (i : Nat) cs r, C[i]? = some cs → recs[i]? = some r → Held w Q cs r) ∧ (∀ y, Q y → D y ∧ y ≠ B.mt) ∧ ∀ y, blockOf rv = some y → D y ∧ y ≠ B.mt
 sv : CellsAt w sv saves.length 1 (saves.map iv) ∧ ∀ y, blockOf sv = some y → D y
 mt : ∃ M, MapAt w B.mt iv Value.bool M ∧ ∀ n, getD M n = if n ∈ met then some true else none
 ob : D B.mt
theorem RsAt.keep{recs:List Rc}{met saves:List Int}(h:RsAt w D B recs met saves rv sv)(hf:Fm S w w')(hS:∀y,D y->¬S y):RsAt w' D B recs met saves rv sv:=by obtain⟨C,Q,h1,h2,h3,h4,h5⟩:=h.rc;obtain⟨M,m1,m2⟩:=h.mt;exact⟨⟨C,Q,h1.keep hf (λy e=>hS y (h5 y e).1),h2,λi cs r a b=>(h3 i cs r a b).keep hf (λy e=>hS y (h4 y e).1),h4,h5⟩,⟨h.sv.1.keep hf (λy e=>hS y (h.sv.2 y e)),h.sv.2⟩,⟨M,m1.keep hf (hS _ h.ob),m2⟩,h.ob⟩
theorem RsAt.wide{recs:List Rc}{met saves:List Int}(h:RsAt w D B recs met saves rv sv)(hD:∀y,D y->D' y):RsAt w D' B recs met saves rv sv:=by obtain⟨C,Q,h1,h2,h3,h4,h5⟩:=h.rc;exact⟨⟨C,Q,h1,h2,h3,λy e=>⟨hD y (h4 y e).1,(h4 y e).2⟩,λy e=>⟨hD y (h5 y e).1,(h5 y e).2⟩⟩,⟨h.sv.1,λy e=>hD y (h.sv.2 y e)⟩,h.mt,hD _ h.ob⟩
def doV:Wk->Value
 | .none=>.nilFunc
 | .begin=>.func (.func 20) #[] #[]
 | .follow=>.func (.func 51) #[] #[]
 | .commit=>.func (.func 45) #[] #[]
 | .settle=>.func (.func 117) #[] #[]
 | .roll=>.func (.func 46) #[] #[]
abbrev seC(i:Nat)(s:Seat)(rr pl:Value):List Value:=[iv i,.int .u8 s.ask.call,stv s.ask.key,stv s.ask.to_,stv s.ask.val,iv s.ask.n,doV s.wk,.bool s.told,iv s.rep.err,.bool s.rep.found,stv s.rep.val,rr,pl,iv s.why,iv s.next,iv s.end_,nl,iv 0,iv 0,iv 0,nl,nl,nl,iv 0,iv 0]
def PlV(w:World)(D:Nat->Prop)(p:Option Pn)(pl:Value):Prop:=match p with
 | none=>pl=np
 | some p=>∃b rv lv rr,pl=pv b/\PlAt w D b p rv lv rr
structure SeatAt (w : World) (D : Nat → Prop) (i : Nat) (s : Seat) (cs : List Value) : Prop where
 ex : ∃ rr pl, cs = seC i s rr pl ∧ CellsAt w rr s.rep.rows.length 2 (s.rep.rows.flatMap rowL) ∧ (∀ y, blockOf rr = some y → D y) ∧ PlV w D s.plan pl
theorem PlV.keep{p:Option Pn}{pl:Value}(h:PlV w D p pl)(hf:Fm S w w')(hS:∀y,D y->¬S y):PlV w' D p pl:=by
 cases p with
 | none=>exact h
 | some p=>obtain⟨b,rv,lv,rr,e,h⟩:=h;exact⟨b,rv,lv,rr,e,h.keep hf hS⟩
theorem PlV.wide{p:Option Pn}{pl:Value}(h:PlV w D p pl)(hD:∀y,D y->D' y):PlV w D' p pl:=by
 cases p with
 | none=>exact h
 | some p=>obtain⟨b,rv,lv,rr,e,h⟩:=h;exact⟨b,rv,lv,rr,e,h.wide hD⟩
theorem SeatAt.keep{i:Nat}{s:Seat}{cs:List Value}(h:SeatAt w D i s cs)(hf:Fm S w w')(hS:∀y,D y->¬S y):SeatAt w' D i s cs:=by obtain⟨rr,pl,e,h1,h2,h3⟩:=h.ex;exact⟨rr,pl,e,h1.keep hf (λy e=>hS y (h2 y e)),h2,h3.keep hf hS⟩
theorem SeatAt.wide{i:Nat}{s:Seat}{cs:List Value}(h:SeatAt w D i s cs)(hD:∀y,D y->D' y):SeatAt w D' i s cs:=by obtain⟨rr,pl,e,h1,h2,h3⟩:=h.ex;exact⟨rr,pl,e,h1,λy e=>hD y (h2 y e),h3.wide hD⟩
abbrev hdC(B:Bk)(e:E)(u:Value):List Value:=[pv B.db,iv B.frames,iv e.m,iv B.secs,iv e.pages,iv 1,iv 1,iv 0,pv B.lb,pv B.pb,iv e.st.lsn,iv e.st.kind,iv e.st.level,iv e.st.right,stv e.st.high,u,pv B.kb,pv B.tb,pv B.ib,pv B.sb,iv e.fresh,iv 1,.bool e.kept]
abbrev tlC(B:Bk)(e:E)(rv sv:Value):List Value:=[.bool false,iv e.pick,iv (e.phase:Nat),rv,nl,.map (some B.mt),sv,iv e.at_]
structure RX (c : Nat) (w : World) (O : Nat → Nat) (B : Bk) (e : E) (u rv sv : Value) (ss : List (List Value)) : Prop where
 sys : c ≠ 1 → SysAt w (O · = 1) B e.s
 st : c ≠ 2 → HeldP w (O · = 2) u e.st
 lk : c ≠ 3 → LkAt w (O · = 3) B e.holds e.waits
 tx : c ≠ 4 → ∃ T, TxAt w (O · = 4) B.tb B.tm T e.txns
 id : c ≠ 5 → IdAt w (O · = 5) B e.m e.nxt
 sp : c ≠ 6 → SpcAt w (O · = 6) B e.room
 rs : c ≠ 7 → RsAt w (O · = 7) B e.recs e.met e.saves rv sv
 se : ∀ (i : Nat) s, c ≠ 10 + i → e.seats[i]? = some s → ∃ cs, ss[i]? = some cs ∧ SeatAt w (O · = 10 + i) i s cs
 x : c ≠ 0 → EgB w B.x (hdC B e u) ss (tlC B e rv sv)
structure RP (w : World) (O : Nat → Nat) (B : Bk) (e : E) (u rv sv : Value) (ss : List (List Value)) : Prop where
 al : RX 50 w O B e u rv sv ss
 lt : ∀ y, O y ≠ 99 → y < w.heap.size
 x0 : O B.x = 0
 sl : e.seats.length = 8
 mo : Mo e.m
 ph : e.phase ≤ 2 → sv = nl
 uo : u.oneCell' = true
variable{O O':Nat->Nat}{e:E}{ss:List (List Value)}
theorem RP.keep(h:RP w O B e u rv sv ss){c:Nat}(hf:Fm (λy=>O y=c) w w'):RX c w' O B e u rv sv ss:=by
 have ne:∀{k:Nat},c≠k->∀y,O y=k->¬O y=c:=λhk y e e'=>hk (e'.symm.trans e);have a:=h.al;refine⟨λk=>(a.sys dC).keep hf (ne k),λk=>(a.st dC).keep hf (ne k),λk=>(a.lk dC).keep hf (ne k),λk=>?_,λk=>⟨hf.heap (a.id dC).st (ne k _ (a.id dC).ob),(a.id dC).ob⟩,λk=>⟨(a.sp dC).st.keep hf (ne k _ (a.sp dC).ob.1) (ne k _ (a.sp dC).ob.2),(a.sp dC).ob⟩,λk=>(a.rs dC).keep hf (ne k),λi s k hi=>?_,λk=>(a.x dC).keep hf (ne k _ h.x0)⟩
 ·obtain⟨T,ht⟩:=a.tx dC;exact⟨T,ht.keep hf (ne k)⟩
 ·have h8:i<8:=by have:=(E2.1 hi).1;rw[h.sl] at this;exact this
  obtain⟨cs,h1,h2⟩:=a.se i s oM hi;exact⟨cs,h1,h2.keep hf (ne k)⟩
theorem RX.wide{c:Nat}(h:RX c w O B e u rv sv ss)(hO:∀y,O y≠99->O' y=O y)(hl:e.seats.length=8):RX c w O' B e u rv sv ss:=by
 have up:∀{k:Nat},k≠99->∀y,O y=k->O' y=k:=λhk y e=>(hO y (by rw[e];exact hk)).trans e;refine⟨λk=>(h.sys k).wide (up dC),λk=>(h.st k).mono (up dC),λk=>(h.lk k).wide (up dC),λk=>?_,λk=>⟨(h.id k).st,up dC _ (h.id k).ob⟩,λk=>⟨(h.sp k).st,up dC _ (h.sp k).ob.1,up dC _ (h.sp k).ob.2⟩,λk=>(h.rs k).wide (up dC),λi s k hi=>?_,h.x⟩
 ·obtain⟨T,ht⟩:=h.tx k;exact⟨T,ht.wide (up dC)⟩
 ·have h8:i<8:=by have:=(E2.1 hi).1;rw[hl] at this;exact this
  obtain⟨cs,h1,h2⟩:=h.se i s k hi;exact⟨cs,h1,h2.wide (up oM)⟩
open Classical in
theorem tag(O:Nat->Nat)(Z:Nat->Prop)(c:Nat)(hZ:∀y,Z y->O y=c\/O y=99):∃O':Nat->Nat,(∀y,O y≠99->O' y=O y)/\(∀y,Z y->O' y=c)/\∀y,O' y≠99->O y≠99\/Z y:=by
 refine⟨λy=>if O y=99 then(if Z y then c else 99) else O y,λy h=>by simp[h],λy h=>?_,λy h=>?_⟩
 ·by_cases e:O y=99
  ·simp[e,h]
  ·rcases hZ y h with h'|h'
   ·show(if O y=99 then _ else O y)=c;rw[IT e];exact h'
   ·exact absurd h' e
 ·by_cases e:O y=99
  ·by_cases z:Z y
   ·exact .inr z
   ·simp[e,z] at h
  ·exact .inl e
end
section
variable{w w':World}{D S:Nat->Prop}{B:Bk}{s:PS}{Xl Xp Q:Nat->Prop}{pb lb db g m fb ob:Nat}{F:List PV}
theorem SI.log(h:SI w Xl Xp Q pb lb db g m fb ob F s){L':Lg}{Xl':Nat->Prop}(hL:LAt w' Xl' lb db L')(hf:Fm Xl w w')(hx:∀y,Xl' y->Xl y\/w.heap.size<=y):SI w' Xl' Xp Q pb lb db g m fb ob F ⟨s.p,L',s.d⟩:=by
 have hd:=h.hD.lt;refine⟨hL,h.hD.keep hf h.ld.1 h.ld.2.1 h.ld.2.2,h.hP.keep hf (λy hy e=>h.lp y e hy),h.wf,λy hy hp=>?_,⟨λe=>?_,λe=>?_,λe=>?_⟩,h.pd⟩
 ·rcases hx y hy with e|e
  ·exact h.lp y e hp
  ·have:=h.hP.lt y hp;omega
 ·rcases hx _ e with e|e
  ·exact h.ld.1 e
  ·omega
 ·rcases hx _ e with e|e
  ·exact h.ld.2.1 e
  ·omega
 ·rcases hx _ e with e|e
  ·exact h.ld.2.2 e
  ·omega
theorem nT(h:SysAt w D B s):Cl prog 96 [pv B.lb] w λo w'=>o=iv (s.l.tail:Int)/\Fm F0 w w':=by obtain⟨Xl,Xp,Q,F,h1,h2⟩:=h;exact eh h1.hL
theorem rL(h:SysAt w D B s):Cl prog 184 [pv B.lb] w λo w'=>o=iv (s.l.last:Int)/\Fm F0 w w':=by obtain⟨Xl,Xp,Q,F,h1,h2⟩:=h;exact iH h1.hL
theorem rN(h:SysAt w D B s)(k:Int):Cl prog 48 [pv B.lb,iv k] w λo w'=>o=iv (s.l.reserve k).2/\SysAt w' D B ⟨s.p,(s.l.reserve k).1,s.d⟩/\Fm D w w':=by obtain⟨Xl,Xp,Q,F,h1,h2⟩:=h;refine(iJ h1.hL k).mono ?_;rintro _ w' ⟨rfl,hL,hf⟩;have hf':=hf.mono (T:=Xl) (λy _ e=>by rw[e];exact h1.hL.lb);exact⟨rfl,⟨Xl,Xp,Q,F,h1.log hL hf' (λy e=>.inl e),h2⟩,hf'.mono (λy _ e=>h2 y (.inl e))⟩
theorem rM(h:SysAt w D B s)(k:Int):Cl prog 43 [pv B.lb,iv k] w λo w'=>o=iv (s.l.release k).2/\SysAt w' D B ⟨s.p,(s.l.release k).1,s.d⟩/\Fm D w w':=by obtain⟨Xl,Xp,Q,F,h1,h2⟩:=h;refine(nW h1.hL k).mono ?_;rintro _ w' ⟨rfl,hL,hf⟩;have hf':=hf.mono (T:=Xl) (λy _ e=>by rw[e];exact h1.hL.lb);exact⟨rfl,⟨Xl,Xp,Q,F,h1.log hL hf' (λy e=>.inl e),h2⟩,hf'.mono (λy _ e=>h2 y (.inl e))⟩
theorem uX(h:SysAt w D B s){cs:Array Value}{r:Rc}(hr:∀w',Fm D w w'->RcAs w' cs r):Cl prog 192 [pv B.lb,.agg cs] w λo w'=>o=.tuple #[iv (s.l.append r).2.1,iv (s.l.append r).2.2]/\(∃D',SysAt w' D' B ⟨s.p,(s.l.append r).1,s.d⟩/\(∀y,D' y->(D y\/w.heap.size<=y)/\y<w'.heap.size))/\Fm D w w':=by
 obtain⟨Xl,Xp,Q,F,h1,h2⟩:=h;refine(qe h1.hL (λw' hf=>hr w' (hf.mono (λy _ e=>h2 y (.inl e))))).mono ?_;rintro _ w' ⟨rfl,Xl',hL,hx,hf⟩;have h3:=h1.log hL hf hx;refine⟨rfl,⟨_,⟨Xl',Xp,Q,F,h3,λy e=>e⟩,λy e=>⟨?_,h3.lt y e⟩⟩,hf.mono (λy _ e=>h2 y (.inl e))⟩;rcases e with e|e
 ·exact(hx y e).imp (λe=>h2 y (.inl e)) id
 ·exact .inl (h2 y (.inr e))
theorem Dv(h:SysAt w D B s)(k:Int){r:Rc}(hr:getD s.l.recs k=some r):Cl prog 119 [pv B.lb,iv k] w λo w'=>∃cs,o=.tuple #[.agg cs,iv 0]/\RcAs w' cs r/\Fm F0 w w':=by
 obtain⟨Xl,Xp,Q,F,h1,h2⟩:=h;refine(zk h1.hL k).mono ?_;rintro o w' ⟨hf,⟨hn,_⟩|⟨r',cs,hg,rfl,hc⟩⟩
 ·rw[hr] at hn;cases hn
 ·rw[hr] at hg;cases hg;exact⟨cs,rfl,hc,hf⟩
theorem yW(h:SysAt w D B s)(u:Int):Cl prog 186 [pv B.lb,iv u] w λo w'=>o=iv (s.l.flush u s.d).2.2/\SysAt w' D B ⟨s.p,(s.l.flush u s.d).1,(s.l.flush u s.d).2.1⟩/\Fm D w w':=by obtain⟨Xl,Xp,Q,F,h1,h2⟩:=h;refine(h1.flush u).mono ?_;rintro _ w' ⟨rfl,h3,hf⟩;exact⟨rfl,⟨Xl,Xp,Q,F,h3,h2⟩,hf.mono (λy _ e=>h2 y e)⟩
theorem mJ(h:SysAt w D B s):Cl prog 276 [pv B.pb] w λo w'=>SysAt w' D B ⟨s.p.synced,s.l,s.d⟩/\Fm D w w':=by obtain⟨Xl,Xp,Q,F,h1,h2⟩:=h;refine h1.synced.mono ?_;rintro _ w' ⟨h3,hf⟩;exact⟨⟨Xl,Xp,Q,F,h3,h2⟩,hf.mono (λy _ e=>h2 y e)⟩
theorem yU(h:SysAt w D B s):Cl prog 70 [pv B.db] w λo w'=>o=iv s.d.sync.2/\SysAt w' D B ⟨s.p,s.l,s.d.sync.1⟩/\Fm D w w':=by obtain⟨Xl,Xp,Q,F,h1,h2⟩:=h;refine(di h1.hD).mono ?_;rintro _ w' ⟨rfl,h3,hf⟩;obtain⟨h4,hf'⟩:=h1.o7 h3 hf;exact⟨rfl,⟨Xl,Xp,Q,F,h4,h2⟩,hf'.mono (λy _ e=>h2 y e)⟩
theorem AY(h:SysAt w D B s)(n:Int):Cl prog 298 [pv B.pb,iv n] w λo w'=>o=.bool (!(getD s.p.owed n).isNone)/\w'=w:=by obtain⟨Xl,Xp,Q,F,h1,h2⟩:=h;exact mz h1.hP n
theorem yV(h:SysAt w D B s)(n pick:Int):Cl prog 199 [pv B.pb,iv n,iv pick] w λo w'=>∃u,o=.tuple #[.agg (pcs (s.fetch n pick).2.1 u),iv (s.fetch n pick).2.2]/\PgOw w' w.heap.size (pcs (s.fetch n pick).2.1 u) (s.fetch n pick).2.1/\(∃D',SysAt w' D' B (s.fetch n pick).1/\(∀y,D' y->(D y\/w.heap.size<=y)/\y<w'.heap.size)/\∀k,u.ownBlock=some k->¬D' k)/\Fm D w w':=by
 obtain⟨Xl,Xp,Q,F,h1,h2⟩:=h;have hd:=h1.hD.lt;refine(rj h1 n pick).mono ?_;rintro _ w' ⟨u,rfl,hp,⟨Xp',Q',F',h3,hx,hu⟩,hf⟩;refine⟨u,rfl,hp,⟨_,⟨Xl,Xp',Q',F',h3,λy e=>e⟩,λy e=>⟨?_,h3.lt y e⟩,λk hk e=>?_⟩,hf.mono (λy _ e=>h2 y e)⟩
 ·rcases e with e|e|e
  ·exact .inl (h2 y (.inl e))
  ·exact(hx y e).imp (λe=>h2 y (.inr (.inl e))) id
  ·exact .inl (h2 y (.inr (.inr e)))
 ·have hge:w.heap.size<=k:=by obtain⟨⟨v,hv,ho⟩,_⟩:=hp;have:u=v:=iY hv;subst this;exact(aP ho k hk).1
  rcases e with e|e|e
  ·have:=h1.hL.lt k e;omega
  ·exact hu k hk e
  ·rcases e with e|e|e<;>omega
theorem Dw(h:SysAt w D B s){cs:Array Value}{b:Pg}(hb:∀w',Fm D w w'->PgAs w' cs b)(n pick:Int):Cl prog 233 [pv B.pb,iv n,.agg cs,iv pick] w λo w'=>o=iv (s.set n b pick).2/\(∃D',SysAt w' D' B (s.set n b pick).1/\(∀y,D' y->(D y\/w.heap.size<=y)/\y<w'.heap.size))/\Fm D w w':=by
 obtain⟨Xl,Xp,Q,F,h1,h2⟩:=h;refine(yf h1 (λw' hf=>hb w' (hf.mono (λy _ e=>h2 y e))) n pick).mono ?_;rintro _ w' ⟨rfl,⟨Xp',Q',F',h3,hx⟩,hf⟩;refine⟨rfl,⟨_,⟨Xl,Xp',Q',F',h3,λy e=>e⟩,λy e=>⟨?_,h3.lt y e⟩⟩,hf.mono (λy _ e=>h2 y e)⟩;rcases e with e|e|e
 ·exact .inl (h2 y (.inl e))
 ·exact(hx y e).imp (λe=>h2 y (.inr (.inl e))) id
 ·exact .inl (h2 y (.inr (.inr e)))
theorem uY(h:SysAt w D B s)(n:Int):Cl prog 141 [pv B.pb,iv n] w λo w'=>o=iv (s.write n).2/\SysAt w' D B (s.write n).1/\Fm D w w':=by obtain⟨Xl,Xp,Q,F,h1,h2⟩:=h;refine(ry h1 n).mono ?_;rintro _ w' ⟨rfl,⟨F',h3⟩,hf⟩;exact⟨rfl,⟨Xl,Xp,Q,F',h3,h2⟩,hf.mono (λy _ e=>h2 y e)⟩
end
section
variable{w w':World}{D D' S:Nat->Prop}{B:Bk}{u rv sv:Value}{O O':Nat->Nat}{e e':E}{ss:List (List Value)}{s:PS}
structure Gr (O O' : Nat → Nat) (Z : Nat → Prop) : Prop where
 old : ∀ y, O y ≠ 99 → O' y = O y
 new : ∀ y, O' y ≠ 99 → O y ≠ 99 ∨ Z y
theorem Gr.refl(O:Nat->Nat)(Z:Nat->Prop):Gr O O Z:=⟨λ_ _=>rfl,λ_ h=>.inl h⟩
theorem Gr.trans{O1 O2 O3:Nat->Nat}{Z:Nat->Prop}(h:Gr O1 O2 Z)(k:Gr O2 O3 Z):Gr O1 O3 Z:=⟨λy hy=>(k.old y (by rw[h.old y hy];exact hy)).trans (h.old y hy),λy hy=>(k.new y hy).elim (h.new y) .inr⟩
theorem Gr.mono{Z Z':Nat->Prop}(h:Gr O O' Z)(hZ:∀y,Z y->Z' y):Gr O O' Z':=⟨h.old,λy hy=>(h.new y hy).imp id (hZ y)⟩
theorem RP.free(h:RP w O B e u rv sv ss){y:Nat}(hy:w.heap.size<=y):O y=99:=by apply G5;intro e;have:=h.lt y e;omega
theorem RP.aS(h:RP w O B e u rv sv ss)(hf:Fm F0 w w'):RP w' O B e u rv sv ss:=⟨by have o:=h.keep (c:=50) (hf.mono iE);exact o,λy hy=>E3 (h.lt y hy) hf.size,h.x0,h.sl,h.mo,h.ph,h.uo⟩
theorem RP.m7(h:RP w O B e u rv sv ss){s':PS}(hs:SysAt w' D' B s')(hD:∀y,D' y->(O y=1\/w.heap.size<=y)/\y<w'.heap.size)(hf:Fm (λy=>O y=1) w w'):∃O',RP w' O' B { e with s:=s' } u rv sv ss/\Gr O O' D':=by
 obtain⟨O',h1,h2,h3⟩:=tag O D' 1 (λy hy=>(hD y hy).1.imp id h.free);have o:=(h.keep hf).wide h1 h.sl;refine⟨O',⟨⟨λ_=>hs.wide h2,λ_=>o.st dC,λ_=>o.lk dC,λ_=>o.tx dC,λ_=>o.id dC,λ_=>o.sp dC,λ_=>o.rs dC,λi s k hi=>o.se i s oM hi,λ_=>o.x dC⟩,λy hy=>?_,?_,h.sl,h.mo,h.ph,h.uo⟩,⟨h1,h3⟩⟩
 ·rcases h3 y hy with e|e
  ·exact E3 (h.lt y e) hf.size
  ·exact(hD y e).2
 ·rw[h1 _ (by rw[h.x0];decide)];exact h.x0
theorem RP.cells(h:RP w O B e u rv sv ss)(hx:EgB w' B.x (hdC B e' u) ss (tlC B e' rv sv))(hf:Fm (·=B.x) w w')(h1:e'.s=e.s:=by rfl)(h2:e'.st=e.st:=by rfl)(h3:e'.holds=e.holds:=by rfl)(h4:e'.waits=e.waits:=by rfl)(h5:e'.txns=e.txns:=by rfl)(h6:e'.m=e.m:=by rfl)(h7:e'.nxt=e.nxt:=by rfl)(h8:e'.room=e.room:=by rfl)(h9:e'.recs=e.recs:=by rfl)(h10:e'.met=e.met:=by rfl)(h11:e'.saves=e.saves:=by rfl)(h12:e'.seats=e.seats:=by rfl)(hp:e'.phase<=2->sv=nl):RP w' O B e' u rv sv ss:=by have o:=h.keep (c:=0) (hf.mono (λy _ e=>by rw[e];exact h.x0));exact⟨⟨λ_=>h1▸o.sys dC,λ_=>h2▸o.st dC,λ_=>h3▸h4▸o.lk dC,λ_=>h5▸o.tx dC,λ_=>h6▸h7▸o.id dC,λ_=>h8▸o.sp dC,λ_=>h9▸h10▸h11▸o.rs dC,λi s k hi=>o.se i s oM (h12▸hi),λ_=>hx⟩,λy hy=>E3 (h.lt y hy) hf.size,h.x0,h12▸h.sl,h6▸h.mo,hp,h.uo⟩
theorem RP.mK(h:RP w O B e u rv sv ss){i:Nat}{s':Seat}{cs':List Value}(hi:i<8)(hx:EgB w' B.x (hdC B e u) (ss.set i cs') (tlC B e rv sv))(hf:Fm (·=B.x) w w')(hs:SeatAt w' (O ·=10+i) i s' cs'):RP w' O B { e with seats:=e.seats.set i s' } u rv sv (ss.set i cs'):=by
 have o:=h.keep (c:=0) (hf.mono (λy _ e=>by rw[e];exact h.x0));have hl:ss.length=8:=(h.al.x dC).s;refine⟨⟨λ_=>o.sys dC,λ_=>o.st dC,λ_=>o.lk dC,λ_=>o.tx dC,λ_=>o.id dC,λ_=>o.sp dC,λ_=>o.rs dC,λj s k hj=>?_,λ_=>hx⟩,λy hy=>E3 (h.lt y hy) hf.size,h.x0,by show(e.seats.set i s').length=8;rw[I3];exact h.sl,h.mo,h.ph,h.uo⟩
 replace hj:(e.seats.set i s')[j]?=some s:=hj
 by_cases hij:i=j
 ·subst hij;rw[JB (by rw[h.sl];exact hi)] at hj;cases hj;exact⟨cs',by rw[JB oM],hs⟩
 ·rw[JY hij] at hj;obtain⟨cs,h1,h2⟩:=o.se j s oM hj;exact⟨cs,by rw[JY hij];exact h1,h2⟩
theorem RP.plan(h:RP w O B e u rv sv ss){i:Nat}{sq:Seat}{cs:List Value}{q:Pn}{n:Nat}(hi:e.seats[i]?=some sq)(hcs:ss[i]?=some cs){b:Nat}{rr:Value}(hc:cs=seC i sq rr (pv b))(hrr:CellsAt w rr sq.rep.rows.length 2 (sq.rep.rows.flatMap rowL)/\(∀y,blockOf rr=some y->O y=10+i))(hr0:sq.rep.rows=[])(hX:PlX w' (O ·=10+i) n b q)(hn:w.heap.size<=n)(hf:Fm (λy=>O y=10+i) w w'):∃O',RP w' O' B { e with seats:=e.seats.set i { sq with plan:=some q } } u rv sv ss/\Gr O O' (w.heap.size<=·):=by
 have h8:i<8:=by have:=(E2.1 hi).1;rw[h.sl] at this;exact this
 obtain⟨D',rv',lv',rr',hp,hD'⟩:=hX;obtain⟨O',h1,h2,h3⟩:=tag O D' (10+i) (λy hy=>(hD' y hy).imp id (λe=>h.free oM));have o:=(h.keep hf).wide h1 h.sl;have g:Gr O O' (λy=>w.heap.size<=y/\y<w'.heap.size):=⟨h1,λy hy=>(h3 y hy).elim .inl λhd=>(hD' y hd).elim (λe=>.inl (by rw[e];omega)) (λe=>.inr ⟨oM,e.2⟩)⟩;refine⟨O',⟨⟨λ_=>o.sys oM,λ_=>o.st oM,λ_=>o.lk oM,λ_=>o.tx oM,λ_=>o.id oM,λ_=>o.sp oM,λ_=>o.rs oM,λj s k hj=>?_,λ_=>o.x oM⟩,λy hy=>?_,?_,by show(e.seats.set i _).length=8;rw[I3];exact h.sl,h.mo,h.ph,h.uo⟩,g.mono (λy e=>e.1)⟩
 ·replace hj:(e.seats.set i { sq with plan:=some q })[j]?=some s:=hj
  by_cases hij:i=j
  ·subst hij;rw[JB (by rw[h.sl];exact h8)] at hj;cases hj;refine⟨cs,hcs,⟨rr,pv b,hc,hrr.1.fS hf (by rw[hr0];intro e;exact absurd rfl e),λy e=>(h1 y (by rw[hrr.2 y e];omega)).trans (hrr.2 y e),?_⟩⟩;exact⟨b,rv',lv',rr',rfl,hp.wide h2⟩
  ·rw[JY hij] at hj;exact o.se j s oM hj
 ·rcases g.new y hy with e|e
  ·exact E3 (h.lt y e) hf.size
  ·exact e.2
 ·rw[h1 _ (by rw[h.x0];decide)];exact h.x0
end
section
variable{w w' w1 w2:World}{D D' S:Nat->Prop}{B:Bk}{u v rv sv:Value}{O O' O1 O2:Nat->Nat}{e e' e1:E}{ss:List (List Value)}{s:PS}{p q:Pg}{n0:Nat}
structure Stp (O : Nat → Nat) (w : World) (O' : Nat → Nat) (w' : World) : Prop where
 g : Gr O O' (w.heap.size ≤ ·)
 f : Fm (fun y => O y ≠ 99) w w'
theorem Stp.trans(h:Stp O w O1 w1)(k:Stp O1 w1 O2 w2):Stp O w O2 w2:=⟨h.g.trans (k.g.mono (λy e=>F8 h.f.size e)),h.f.trans k.f iT (λy hy hne=>(h.g.new y hne).elim id (λe=>absurd hy oM))⟩
theorem Stp.gE(hf:Fm F0 w w'):Stp O w O w':=⟨Gr.refl _ _,hf.mono iE⟩
theorem Stp.of(g:Gr O O' (w.heap.size<=·)){c:Nat}(hc:c≠99)(hf:Fm (λy=>O y=c) w w'):Stp O w O' w':=⟨g,hf.mono (λy _ e=>by rw[e];exact hc)⟩
theorem Stp.loc(h:Stp O w O1 w1){b:Nat}(hf:Fm (·=b) w1 w2)(hb:w.heap.size<=b):Stp O w O1 w2:=⟨h.g,h.f.trans hf iT (λy hy e=>oM)⟩
theorem Stp.free(h:Stp O w O' w'){y:Nat}(hy:y<w.heap.size)(e:O y=99):O' y=99:=by
 apply G5;intro c;rcases h.g.new y c with h1|h1
 ·exact h1 e
 ·omega
theorem RP.oF(h:RP w O B e u rv sv ss)(hf:Fm (λy=>O y=99) w w'):RP w' O B e u rv sv ss:=by
 have o:=h.keep hf;refine⟨⟨λ_=>o.sys dC,λ_=>o.st dC,λ_=>o.lk dC,λ_=>o.tx dC,λ_=>o.id dC,λ_=>o.sp dC,λ_=>o.rs dC,λi s k hi=>?_,λ_=>o.x dC⟩,λy hy=>E3 (h.lt y hy) hf.size,h.x0,h.sl,h.mo,h.ph,h.uo⟩;have h8:i<8:=by have:=(E2.1 hi).1;rw[h.sl] at this;exact this
 exact o.se i s oM hi
theorem RP.iD(h:RP w O B e u rv sv ss){b:Nat}(hb:O b=99)(hf:Fm (·=b) w w'):RP w' O B e u rv sv ss:=h.oF (hf.mono (λy _ e=>by rw[e];exact hb))
def Ex(O:Nat->Nat)(w:World)(B:Bk)(e':E)(w':World):Prop:=∃O' u rv sv ss,RP w' O' B e' u rv sv ss/\Stp O w O' w'
theorem Ex.after(h:Ex O1 w1 B e' w')(k:Stp O w O1 w1):Ex O w B e' w':=by obtain⟨O',u,rv,sv,ss,h1,h2⟩:=h;exact⟨O',u,rv,sv,ss,h1,k.trans h2⟩
theorem RP.ex(h:RP w' O' B e u rv sv ss)(k:Stp O w O' w'):Ex O w B e w':=⟨O',u,rv,sv,ss,h,k⟩
theorem RP.c(h:RP w O B e u rv sv ss)(o:Nat)(ho:o<23):w.cell? ⟨B.x,o,none⟩=(hdC B e u)[o]? :=(h.al.x dC).B1 ho
theorem RP.c2(h:RP w O B e u rv sv ss)(o:Nat):w.cell? ⟨B.x,223+o,none⟩=(tlC B e rv sv)[o]? :=(h.al.x dC).A3
theorem RP.sys(h:RP w O B e u rv sv ss):SysAt w (O ·=1) B e.s:=h.al.sys dC
theorem RP.part(h:RP w O B e u rv sv ss){Z:Nat->Prop}{c:Nat}(hc:c≠99/\c≠0)(hZ:∀y,Z y->(O y=c\/O y=99)/\y<w'.heap.size)(hf:Fm (λy=>O y=c) w w'):∃O',(∀y,O y≠99->O' y=O y)/\(∀y,O' y≠99->O y≠99\/Z y)/\(∀y,Z y->O' y=c)/\(∀y,O y=c->O' y=c)/\RX c w' O' B e u rv sv ss/\(∀y,O' y≠99->y<w'.heap.size)/\O' B.x=0:=by
 obtain⟨O',h1,h2,h3⟩:=tag O Z c (λy hy=>(hZ y hy).1);refine⟨O',h1,h3,h2,λy e=>(h1 y (by rw[e];exact hc.1)).trans e,(h.keep hf).wide h1 h.sl,λy hy=>?_,by rw[h1 _ (by rw[h.x0];decide)];exact h.x0⟩;rcases h3 y hy with e|e
 ·exact E3 (h.lt y e) hf.size
 ·exact(hZ y e).2
theorem RP.AS(h:RP w O B e u rv sv ss){s':PS}(hs:SysAt w' D' B s')(hD:∀y,D' y->(O y=1\/w.heap.size<=y)/\y<w'.heap.size)(hf:Fm (λy=>O y=1) w w'):∃O',RP w' O' B { e with s:=s' } u rv sv ss/\Stp O w O' w':=by
 obtain⟨O',h1,h2⟩:=h.m7 hs hD hf;refine⟨O',h1,⟨⟨h2.old,λy hy=>?_⟩,hf.mono (λy _ e=>by rw[e];decide)⟩⟩;rcases h2.new y hy with e|e
 ·exact .inl e
 ·exact(hD y e).1.imp (λe=>by rw[e];decide) id
theorem RP.oP(h:RP w O B e u rv sv ss){s':PS}(hs:SysAt w' (O ·=1) B s')(hf:Fm (λy=>O y=1) w w'):RP w' O B { e with s:=s' } u rv sv ss/\Stp O w O w':=by have o:=h.keep hf;refine⟨⟨⟨λ_=>hs,λ_=>o.st dC,λ_=>o.lk dC,λ_=>o.tx dC,λ_=>o.id dC,λ_=>o.sp dC,λ_=>o.rs dC,λi s k hi=>o.se i s oM hi,λ_=>o.x dC⟩,λy hy=>E3 (h.lt y hy) hf.size,h.x0,h.sl,h.mo,h.ph,h.uo⟩,Stp.of (Gr.refl _ _) dC hf⟩
def PgZ(p:Pg)(v:Value)(y:Nat):Prop:=p.items≠[]/\blockOf v=some y
theorem PgN.held(h:PgN w n0 v p):HeldP w (PgZ p v) v p:=λw' hf=>(show PgN w' 0 v p from⟨h.one,h.it.fS hf (λhx g hg e=>e ⟨by simpa using hx,hg⟩),h.small,h.ins,λ_ _ _=>Jd _⟩).as
theorem PgN.lt(h:PgN w n0 v p){y:Nat}(hy:PgZ p v y):y<w.heap.size:=h.it.blt (by simpa using hy.1) y hy.2
theorem PgN.j5{S:Nat->Prop}(h:PgN w n0 v p)(hf:Fm S w w')(hS:∀y,PgZ p v y->¬S y):PgN w' n0 v p:=⟨h.one,h.it.fS hf (λhx g hg=>hS g ⟨by simpa using hx,hg⟩),h.small,h.ins,h.fr⟩
theorem PgAs.n(h:PgAs w (pcs p v) p)(hs:M.smP p=true):PgN w 0 v p:=by obtain⟨u,h1,h2,h3⟩:=h.ex;obtain rfl:=iY h1;have:=(iz hs).2;exact⟨h2,h3,h.small,⟨h.ins.1,h.ins.2.1,h.ins.2.2.1,h.ins.2.2.2.1,h.ins.2.2.2.2.1,oM⟩,λ_ _ _=>Jd _⟩
theorem fO(h:RP w O B e u rv sv ss):Cl prog 40 [pv B.x] w λo w'=>o=iv e.m/\w'=w:=by refine cU1 func40 ?_;simp only[RU,h.c 2 dC,H7]
theorem dR(h:RP w O B e u rv sv ss){n:Int}(hq:M.fetch e n=some (e',p)):Cl prog 110 [pv B.x,iv n] w λo w'=>∃v,o=.tuple #[.agg (pcs p v),iv 0]/\PgN w' w.heap.size v p/\M.smP p=true/\Fm (λy=>O y=1) w w'/\∃O',RP w' O' B e' u rv sv ss/\Stp O w O' w'/\∀y,PgZ p v y->O' y=99:=by
 unfold M.fetch at hq;obtain⟨_,hg,hq⟩:=bind_some hq;have hg:=ak hg;rcases hX:e.s.fetch n e.pick with⟨s',p1,er⟩;rw[hX] at hg hq;simp only[E0,C4] at hg;obtain⟨rfl,hsm⟩:=hg;cases hq;refine cU2 func110 ?_ (V []) (J [(2,[6,7])]);refine ae ?_;rintro b1 w1 rfl hs1 hw1 hf1;have hd:=(h.aS hf1).aS (Fm.drew F0 w1);have hfd:=Fmf hf1 (Fm.drew F0 w1);have hwd:=(Fm.drew F0 w1).heap hw1 (λe=>e);have hsd:w1.drew.heap.size=w.heap.size+1:=by rw[aM];exact hs1
 refine aJ (λvs w2=>∃b2 v,vs=[pv b2,iv 0]/\w2.heap[b2]?=some (.cells (pcs p1 v) 68)/\PgN w2 w1.drew.heap.size v p1/\Fm (λy=>O y=1) w1.drew w2/\∃O',RP w2 O' B { e with s:=s' } u rv sv ss/\Gr O O' (w1.drew.heap.size<=·)/\∀y,PgZ p1 v y->O' y=99) ?_ ?_
 ·rintro _ w2 ⟨b2,v,rfl,hb2,hN,hf2,O',hR,hG,hz⟩;have h99:O w.heap.size=99:=h.free (D9 _);simp only[RU,aa (n:=6) hb2 rfl,show((0:Int) == 60)=false from rfl];refine ao (hf2.heap hwd (by rw[h99];decide)) (λw3 hw3 hs3 hf3=>?_) rfl rfl (G8.2 (bA hN.one));have h9':O' w.heap.size=99:=by
   apply G5;intro c;rcases hG.new _ c with e|e
   ·exact e h99
   ·omega
  have hF:Fm (λy=>O y=1) w w3:=(hfd.trans hf2 (λ_ _ e=>e.elim) (λ_ _ e=>e)).trans hf3 (λ_ _ e=>e) (λy hy e=>oM);simp only[RU,aa (n:=6) hw3 rfl];exact⟨v,rfl,(hN.dO hf3 (λy e=>oM)).base oM,hsm,hF,O',hR.iD h9' hf3,Stp.of (hG.mono λy e=>oM) dC hF,hz⟩
 ·intro kk hkk;refine⟨λw2=>Fm F0 w1.drew w2,Fm.refl _ _,pv B.pb,λw2 hf2=>?_,iv e.pick,λw2 hf2=>?_,?_⟩
  ·simp only[RU,(hd.aS hf2).c 9 dC,H7]
  ·simp only[RU,(hd.aS hf2).c2 1,H7]
  ·refine two (n:=6) (Y:=λy=>O y=1) (λbase w2 us uu=>∃v,us=pcs p1 v/\uu=iv 0/\PgN w2 base v p1/\∃O',RP w2 O' B { e with s:=s' } u rv sv ss/\Gr O O' (base<=·)/\∀y,PgZ p1 v y->O' y=99) (λw2 hf2=>?_) (λw2 hf2=>hf2) (λy e=>hd.lt y (by rw[e];decide)) ?_ ?_
   ·have hR:=hd.aS hf2;have:=yV hR.sys n e.pick;rw[hX] at this;refine this.mono ?_;rintro _ w3 ⟨v,rfl,hp,⟨D',hs',hD',hu⟩,hf3⟩;have hN:=PgN.xV hp (F8 (iz hsm).2 dC);obtain⟨O',h1,h2⟩:=hR.m7 hs' hD' hf3;refine⟨_,_,rfl,rfl,G8.2 (bA hN.one),⟨v,rfl,rfl,hN,O',h1,⟨h2.old,λy hy=>?_⟩,λy hy=>?_⟩,hf3⟩
    ·rcases h2.new y hy with e|e
     ·exact .inl e
     ·exact(hD' y e).1.imp (λe=>by rw[e];decide) id
    ·apply G5;intro c;rcases h2.new y c with e|e
     ·have:=hR.lt y e;have:=hN.fr hy.1 y hy.2;omega
     ·exact hu y (@blo v y v (aZ hN.it) hy.2) e
   ·rintro base w2 w3 us uu hb ⟨v,e1,e2,hN,O',hR,hG,hz⟩ hf3;refine⟨v,e1,e2,hN.dO hf3 (λy e=>e.2),O',hR.oF (hf3.mono λy _ e=>?_),hG,hz⟩;apply G5;intro c;rcases hG.new _ c with e'|e'
    ·exact e' (hd.free e.1)
    ·omega
   ·rintro base w3 b us uu hb hb2 hn hw3 ⟨v,rfl,rfl,hN,O',hR,hG,hz⟩ hf3;exact hkk _ _ ⟨b,v,rfl,hw3,hN.base hb,hf3,O',hR,hG.mono λy e=>F8 hb e,hz⟩
theorem RP.B0(h:RP w O B e u rv sv ss)(hx:EgB w' B.x (hdC B { e with st:=p } v) ss (tlC B e rv sv))(hf:Fm (·=B.x) w w')(hN:PgN w' n0 v p)(hz:∀y,PgZ p v y->O y=99):∃O',RP w' O' B { e with st:=p } v rv sv ss/\Gr O O' (PgZ p v):=by
 obtain⟨O',h1,h2,h3⟩:=tag O (PgZ p v) 2 (λy hy=>.inr (hz y hy));have hf0:Fm (λy=>O y=0) w w':=hf.mono (λy _ e=>by rw[e];exact h.x0);have o:=(h.keep hf0).wide h1 h.sl;refine⟨O',⟨⟨λ_=>o.sys dC,λ_=>hN.held.mono h2,λ_=>o.lk dC,λ_=>o.tx dC,λ_=>o.id dC,λ_=>o.sp dC,λ_=>o.rs dC,λi s k hi=>o.se i s oM hi,λ_=>hx⟩,λy hy=>?_,by rw[h1 _ (by rw[h.x0];decide)];exact h.x0,h.sl,h.mo,h.ph,hN.one⟩,h1,h3⟩;rcases h3 y hy with e|e
 ·exact E3 (h.lt y e) hf.size
 ·exact hN.lt e
theorem RP.C0(h:RP w O B e u rv sv ss){r:Option Int}(hs:SpAt w' B.sb B.sm r)(hf:Fm (·=B.sm) w w'):RP w' O B { e with room:=r } u rv sv ss/\Fm (λy=>O y=6) w w':=by have ob:=(h.al.sp dC).ob;have hf6:Fm (λy=>O y=6) w w':=hf.mono (λy _ e=>by rw[e];exact ob.2);have o:=h.keep hf6;exact⟨⟨⟨λ_=>o.sys dC,λ_=>o.st dC,λ_=>o.lk dC,λ_=>o.tx dC,λ_=>o.id dC,λ_=>⟨hs,ob⟩,λ_=>o.rs dC,λi s k hi=>o.se i s oM hi,λ_=>o.x dC⟩,λy hy=>E3 (h.lt y hy) hf.size,h.x0,h.sl,h.mo,h.ph,h.uo⟩,hf6⟩
theorem ji(h:RP w O B e u rv sv ss){n:Int}{rm:Option Int}(hN:PgN w n0 v p)(hq:(bif decide (p.kind=2) then(do M.gd (decide (n=2));(M.roomOf p).map some) else some e.room:Option (Option Int))=some rm):Cl prog 143 [pv B.x,iv n,.agg (pcs p v)] w λo w'=>o=.tuple #[]/\RP w' O B { e with room:=rm } u rv sv ss/\Fm (·=B.sm) w w':=by
 refine cU3 func143 ?_;refine ae ?_;rintro b1 w1 rfl hs1 hw1 hf1;have h1:=h.aS hf1;simp only[RU,ab hw1,show(pcs p v)[1]?=some (iv p.kind) from rfl];by_cases hk:p.kind=2
 ·rw[C9 hk,D8] at hq;obtain⟨_,hg,hq⟩:=bind_some hq;obtain rfl:=F9 (ak hg);obtain⟨x,hr,rfl⟩:=E6.1 hq;have hd:=h1.aS (Fm.drew F0 w1);simp only[RU,show(p.kind == 2)=true from J2.2 hk];refine⟨λw2=>Fm F0 w1.drew w2,Fm.refl _ _,pv B.sb,λw2 hf2=>?_,?_⟩
  ·simp only[RU,(hd.aS hf2).c 19 dC,H7]
  simp only[RU,aa (n:=6) ((Fm.drew F0 w1).heap hw1 id) rfl];refine(uh (hN.keep (Fmf hf1 (Fm.drew F0 w1))) hk hr).mono ?_;rintro _ w2 ⟨rfl,hf2⟩;refine⟨hf2,?_⟩;have h2:=hd.aS hf2;refine(yQ (h2.al.sp dC).st x).mono ?_;rintro _ w3 ⟨hs3,hf3⟩;obtain⟨h3,hf6⟩:=h2.C0 hs3 hf3;exact⟨h3,(Fmf (Fmf hf1 (Fm.drew F0 w1)) hf2).trans hf3 iE iT⟩
 ·rw[C3 hk,C8] at hq;cases hq;simp only[RU,show(p.kind == 2)=false from Je.2 hk];exact⟨h1,hf1.mono iE⟩
theorem oK(h:RP w O B e u rv sv ss){n:Int}(hN:PgN w n0 v p)(hz:∀y,PgZ p v y->O y=99)(hq:M.lay e n p=some e'):Cl prog 138 [pv B.x,iv n,.agg (pcs p v)] w λo w'=>o=iv 0/\Fm (λy=>O y=0\/O y=1\/O y=6) w w'/\∃O' u',RP w' O' B e' u' rv sv ss/\Gr O O' (λy=>w.heap.size<=y\/PgZ p v y):=by
 unfold M.lay at hq;obtain⟨_,hg,hq⟩:=bind_some hq;have hg:=F9 (ak hg);obtain⟨rm,hr,hq⟩:=bind_some hq;cases hq;refine cU3 func138 ?_ (V []) (J [(6,[])]);refine ae ?_;rintro b1 w1 rfl hs1 hw1 hf1;have h1:=h.aS hf1;have hd:=h1.aS (Fm.drew F0 w1);have hfd:=Fmf hf1 (Fm.drew F0 w1);have hwd:=(Fm.drew F0 w1).heap hw1 (λe=>e);have h99:O w.heap.size=99:=h.free (D9 _);simp only[RU,h1.c 9 dC,h1.c2 1,aa (n:=6) hwd rfl];have hNd:=hN.keep hfd;refine(Dw hd.sys (b:=p) (λw2 hf2=>(hNd.j5 hf2 (λy hy e=>by rw[hz y hy] at e;cases e)).as) n e.pick).mono ?_;rintro _ w2 ⟨rfl,⟨D',hs',hD'⟩,hf2⟩;rw[hg];obtain⟨O1,h2,g2⟩:=hd.m7 hs' hD' hf2;have hlt:w1.drew.heap.size=w.heap.size+1:=by rw[aM];exact hs1
 have g2':Gr O O1 (w1.drew.heap.size<=·):=⟨g2.old,λy hy=>(g2.new y hy).elim .inl (λe=>(hD' y e).1.imp (λe=>by rw[e];decide) id)⟩;have hw2:=hf2.heap hwd (by rw[h99];decide);have fr1:∀y,y<w1.drew.heap.size->O y=99->O1 y=99:=λy hy e=>by
  apply G5;intro c;rcases g2'.new y c with e'|e'
  ·exact e' e
  ·omega
 have hN2:=hNd.j5 hf2 (λy hy e=>by rw[hz y hy] at e;cases e);have hz2:∀y,PgZ p v y->O1 y=99:=λy hy=>fr1 y (hNd.lt hy) (hz y hy);simp only[RU,aa (n:=6) hw2 rfl,show((0:Int) != 0)=false from rfl];refine aJ (λvs w3=>∃O2 u2,vs=[]/\RP w3 O2 B { e with s:=(e.s.set n p e.pick).1,st:=bif decide (n=0) then p else e.st } u2 rv sv ss/\Gr O1 O2 (PgZ p v)/\Fm (·=B.x) w2 w3) ?_ ?_
 ·rintro _ w3 ⟨O2,u2,rfl,h3,g3,hf3⟩;have hbx:B.x≠w.heap.size:=λe=>by have:=h.x0;rw[e,h99] at this;cases this
  simp only[RU,aa (n:=6) (hf3.heap hw2 (λe=>hbx e.symm)) rfl];refine(ji h3 (hN2.j5 hf3 (λy hy e=>by have:=hz2 y hy;rw[e,h2.x0] at this;cases this)) hr).mono ?_;rintro _ w4 ⟨rfl,h4,hf4⟩;have f12:Fm (λy=>O y=0\/O y=1\/O y=6) w w3:=(hfd.trans hf2 (λ_ _ e=>e.elim) (λ_ _ e=>e)).trans hf3 (λ_ _ e=>.inr (.inl e)) (λy _ e=>.inl (by rw[e];exact h.x0));exact⟨f12.trans hf4 (λ_ _ e=>e) (λy _ e=>.inr (.inr (by rw[e];exact(h.al.sp dC).ob.2))),O2,u2,h4,λy hy=>(g3.old y (by rw[g2.old y hy];exact hy)).trans (g2.old y hy),λy hy=>(g3.new y hy).elim (λe=>(g2'.new y e).imp id (λe=>.inl oM)) (λe=>.inr (.inr e))⟩
 ·intro kk hkk;by_cases hn:n=0
  ·subst hn;simp only[RU,show((0:Int) == 0)=true from rfl];refine(h2.al.x dC).BY (o:=10) rfl dC (bA hN.one) λw3 hx hs3 hf3=>?_;obtain⟨O2,h3,g3⟩:=h2.B0 (p:=p) (v:=v) hx hf3 (hN2.j5 hf3 (λy hy e=>by have:=hz2 y hy;rw[e,h2.x0] at this;cases this)) hz2;exact hkk _ _ ⟨O2,v,rfl,h3,g3,hf3⟩
  ·simp only[RU,show(n == 0)=false from Je.2 hn];rw[C3 hn] at hkk;exact hkk _ _ ⟨O1,u,rfl,h2,Gr.refl _ _,Fm.refl _ _⟩
end
theorem DB{g:FuncId}{a mv:Value}{args:List Value}{w:World}{zs:Array Value}{t:TypeId}{C:World->Prop}{Y:Nat->Prop}{n:Nat}{kk:Value->Value->World->Prop}(S:Nat->World->Array Value->Value->Prop)
  (hm:∀w1,Fm F0 w w1->Cl prog 40 [a] w1 λo w2=>o=mv/\w2=w1)
  (H:∀w1,Fm F0 w w1->Cl prog g (mv::args) w1 λo w2=>∃us u,o=.tuple #[.agg us,u]/\us.size=n/\us.toList.all Value.oneCell'=true/\S w1.heap.size w2 us u/\Fm Y w1 w2)
  (hC:∀w1,Fm F0 w w1->C w1) (hY:∀y,Y y->y<w.heap.size)
  (hS:∀base w2 w3 us u,w.heap.size<=base->S base w2 us u->Fm (λy=>w.heap.size<=y/\y<base) w2 w3->S base w3 us u)
  (K:∀base w3 b us u,w.heap.size<=base->w.heap.size<=b->us.size=n->w3.heap[b]?=some (.cells us t)->S base w3 us u->Fm Y w w3->kk (pv b) u w3) (hz:zs.size=n:=by rfl):
  (Cl prog 40 [a] w λm w0=>C w0/\((Cl prog g (m::args) w0 λv w2=>Pu (bj v 0) λa=>Pu (bj v 1) λc=>New zs t w2 λp w3=>St n w3 p a λ_ w4=>kk p c w4)/\(New zs t w0 λp w1=>C w1/\Cl prog g (m::args) w1 λv w2=>Pu (bj v 0) λa=>Pu (bj v 1) λc=>St n w2 p a λ_ w3=>kk p c w3)/\True)) /\
  (New zs t w λp w1=>C w1/\Cl prog 40 [a] w1 λm w0=>C w0/\Cl prog g (m::args) w0 λv w2=>Pu (bj v 0) λa=>Pu (bj v 1) λc=>St n w2 p a λ_ w3=>kk p c w3)/\True:=by
 have h2:=two S H hC hY hS K hz;refine⟨(hm w (Fm.refl _ _)).mono ?_,?_,trivial⟩
 ·rintro _ _ ⟨rfl,rfl⟩;exact⟨hC _ (Fm.refl _ _),h2⟩
 ·refine ae ?_;rintro b w1 rfl hs1 hw1 hf1;refine⟨hC w1 hf1,(hm w1 hf1).mono ?_⟩;rintro _ _ ⟨rfl,rfl⟩;refine⟨hC _ hf1,(H _ hf1).mono ?_⟩;rintro _ w2 ⟨us,u,rfl,hn,h1,hs,hf⟩;simp only[RU];refine ao (hf.heap hw1 (λe=>by have:=hY _ e;omega)) (λw3 hw3 hs3 hf3=>?_) hn hz h1;exact K _ w3 _ us u oM (D9 _) hn hw3 (hS _ _ _ _ _ oM hs (hf3.mono (λy _ e=>by rw[e];omega))) ((hf1.trans hf (λ_ _ e=>e.elim) (λ_ _ e=>e)).trans hf3 (λ_ _ e=>e) (λy hy e=>oM))
theorem Ho:ElemT prog 312 68 6 72:=bG underlying312 kR
theorem ED(p:Pg)(v:Value)(w:World):(Instr.buildSlice 312 1 #[(0,.agg (pcs p v))]).run prog w=.ok (.slice (some ⟨w.heap.size,0,none⟩) 1 1) (w.alloc (.cells (pcs p v) 68)):=kR
theorem Er(n:Int)(p:Pg)(v:Value)(w:World):(Instr.build 233 #[(0,iv n),(1,.agg (pcs p v))]).run prog w=.ok (.agg (imC (n,p,v)).toArray) w:=kR
theorem EC(n:Int)(p:Pg)(v:Value)(w:World):(Instr.buildSlice 165 1 #[(0,.agg (imC (n,p,v)).toArray)]).run prog w=.ok (.slice (some ⟨w.heap.size,0,none⟩) 1 1) (w.alloc (.cells (imC (n,p,v)).toArray 233)):=kR
theorem Hn:ElemT prog 165 233 7 80:=bG underlying165 kR
section
variable{w w' w1 w2:World}{B:Bk}{u v rv sv:Value}{O O' O1 O2:Nat->Nat}{e e' e1:E}{ss:List (List Value)}{p q:Pg}{n0 rb:Nat}{r r':Rc}{n:Int}
def Lo(O:Nat->Nat)(rb:Nat)(w:World)(P:World->Prop):Prop:=∀w',Fm (λy=>O y≠99\/y=rb) w w'->P w'
structure Bh (w : World) (O : Nat → Nat) (B : Bk) (e' : E) (u rv sv : Value) (ss : List (List Value)) (rb : Nat) (r' : Rc) (q : Pg) (tv : Value) (w' : World) : Prop where
 ex : ∃ v vi O', RP w' O' B e' u rv sv ss ∧ Gr O O' (w.heap.size ≤ ·) ∧ (∀ y, PgZ q v y → O' y = 99 ∧ y ≠ rb) ∧ PgN w' w.heap.size v q ∧ w'.heap[rb]? = some (.cells (rcs r' nl nl vi nl nl) 168) ∧ vi.oneCell' = true ∧ Lo O' rb w' (fun w2 => ImAs w2 vi r'.imgs) ∧ Lo O' rb w' fun w2 => CellsAt w2 tv 1 6 (pcs q v).toList
 f : Fm (fun y => O y = 1 ∨ y = rb) w w'
theorem qP(h:v.oneCell'=true):∀u∈imC (n,p,v),u.oneCell'=true:=λu hu=>(H3.1 hu).elim (λe=>by rw[e];rfl) (λhu=>bA h u hu)
theorem CD(w:World):ImAs w nl []:=⟨[],rfl,CellsAt.aT (World.ownsRow_nil w 0 3 7),λ_ h=>by simp at h⟩
theorem Ci(h:RP w O B e u rv sv ss)(hr:w.heap[rb]?=some (.cells (rcs r nl nl nl nl nl) 168))(hO:O rb=99)(hi:r.imgs=[]){tv:Value}(ht:CellsAt w tv 1 1 [iv n])(htO:∀y,blockOf tv=some y->O y=99/\y≠rb)(hq:M.behind e r n=some (e',r',q)):Cl prog 211 [pv B.x,pv rb,tv] w λo w'=>∃tv',o=.tuple #[tv',iv 0]/\Bh w O B e' u rv sv ss rb r' q tv' w':=by
 unfold M.behind at hq;rw[hi] at hq;obtain⟨⟨e1,p⟩,hfe,hq⟩:=bind_some hq;obtain⟨q1,hdo,hq⟩:=bind_some hq;have hrb:RB w rb r nl nl nl nl nl:=⟨hr⟩;refine cU3 func211 ?_ (V [(10,[8,57]),(5,[39]),(18,[8,83])]) (J [(13,[12]),(29,[8]),(24,[18,19])]);simp only[RU,hrb.c13,show decide ((0:Int)<((0:Nat):Int))=false from rfl,aa (n:=16) hr rfl,ht.lenV];refine aD (us:=rcs r nl nl nl nl nl) (λw1 hs1 hw1 hf1=>?_) rfl rfl rfl;refine⟨λvs w2=>(vs=[nl,iv 0]/\w2=w1)\/∃o,vs=[o,iv 1]/\Bh w O B e' u rv sv ss rb r' q o w2,λvs _=>(1 - nth vs 1).toNat,.inl ⟨rfl,rfl⟩,?_⟩;rintro w2 o t (⟨hvs,rfl⟩|⟨o,hvs,hB⟩)
 ·cases hvs;obtain⟨ad,i1,_,i3⟩:=(ht.keep hf1 (λ_ _ e=>e)).iS (i:=0) (x:=iv n) rfl .i64;simp only[RU,show decide ((0:Int)<((1:Nat):Int))=true from rfl];refine aJ (λvs w3=>∃o,vs=[o]/\Bh w O B e' u rv sv ss rb r' q o w3) ?_ ?_
  ·rintro _ w3 ⟨o,rfl,hB⟩;simp only[RU,show IntKind.i64.wrap ((0:Int)+1)=1 from rfl];exact⟨.inr ⟨o,rfl,hB⟩,by simp only[cK];decide⟩
  ·intro kk hkk';have i1':ixV 1 tv (iv 0)=_:=i1;simp only[RU,i1',i3];have h1:=h.aS hf1;refine(dR h1 hfe).mono ?_;rintro _ w3 ⟨v,rfl,hN,hsm,hf3,O1,h3,st3,hz3⟩;have hw1':=hf3.heap hw1 (by rw[h.free (D9 _)];decide);have hne:∀y,O y=1->y≠rb:=by rintro y e rfl;rw[hO] at e;cases e
   have hr3:=hf3.heap (hf1.heap hr (λe=>e)) (by rw[hO];decide);have hrbl:=aj hr;simp only[RU];refine aD (us:=pcs p v) (λw4 hs4 hw4 hf4=>?_) rfl rfl (G8.2 (bA hN.one));simp only[RU,show((0:Int) != 0)=false from rfl];have fr:∀y,y<w2.heap.size->O y=99->O1 y=99:=λy hy e=>st3.free hy e;rw[M.doRec,hi] at hdo;obtain⟨_,hg,hdo⟩:=bind_some hdo;obtain⟨q2,hde,hdo⟩:=bind_some hdo;have hg:=ak hg;simp only[E0,C4] at hg;obtain⟨⟨⟨g1,g2⟩,g3⟩,g4⟩:=hg;cases hdo;have hin:In r.lsn:=by unfold M.inL at g4;have:=F9 g4;constructor<;>omega
   have hNd:=(hN.keep hf4).keep (Fm.drew F0 w4);refine aJ (λvs w5=>∃b5 v5,vs=[iv 0,pv b5]/\w5.heap[b5]?=some (.cells (pcs { q2 with lsn:=r.lsn } v5) 68)/\PgN w5 w4.drew.heap.size v5 { q2 with lsn:=r.lsn }/\Fm F0 w4.drew w5) ?_ ?_
   ·rintro _ w5 ⟨b5,v5,rfl,hb5,hN5,hf5⟩;simp only[RU,show((0:Int) != 0)=false from rfl,aa (n:=6) hb5 rfl];refine lM Ho dC 312 rfl (ED _ _ _) (bA hN5.one) (World.ownsRow_nil w5 w5.heap.size 68 6) dC dC (D9 _) ?_;intro tv' w6 ho6 _ hf6;have hF:Fm F0 w3 w6:=(Fmf (Fmf hf4 (Fm.drew F0 w4)) hf5).trans hf6 (λ_ _ e=>e) (λy _ e=>by cases e);have h6:=h3.aS hF;have h9:∀y,w3.heap.size<=y->O1 y=99/\y≠rb:=λy hy=>⟨h3.free hy,λe=>by have:=hf1.size;have:=hf3.size;omega⟩;have s5:w3.heap.size<=w4.drew.heap.size:=(Fmf hf4 (Fm.drew F0 w4)).size;have s6:=hf5.size;have hO1:O1 rb=99:=fr rb (by have:=hf1.size;omega) hO;have hr6:=hF.heap hr3 (λe=>e);have hN6:PgN w6 w3.heap.size v5 { q2 with lsn:=r.lsn }:=(hN5.keep (hf6.mono (λy _ e=>by cases e))).base s5;have fin:∀w9 vi r',Fm (·=rb) w6 w9->w9.heap[rb]?=some (.cells (rcs r' nl nl vi nl nl) 168)->vi.oneCell'=true->Lo O1 rb w9 (λw2=>ImAs w2 vi r'.imgs)->Bh w O B e1 u rv sv ss rb r' { q2 with lsn:=r.lsn } tv' w9:=λw9 vi r' hf9 hr9 hvi hL=>by
     refine⟨⟨v5,vi,O1,h6.iD hO1 hf9,st3.g.mono (λy e=>F8 hf1.size e),λy hy=>h9 y (hN6.fr hy.1 y hy.2),(hN6.dO hf9 (λy e=>by have:=hf1.size;have:=hf3.size;omega)).base (F8 hf1.size hf3.size),hr9,hvi,hL,λwx hx=>?_⟩,?_⟩
     ·refine(CellsAt.aT ho6).keep (hf9.trans hx (λ_ _ e=>.inr e) (λ_ _ e=>e)) (λy hy=>?_);have:=h9 y (F8 (F8 s5 s6) (fl ho6 hy));rintro(e|e)
      ·exact e this.1
      ·exact this.2 e
     ·exact(((hf1.trans hf3 (λ_ _ e=>e.elim) (λ_ _ e=>.inl e)).trans hF (λ_ _ e=>e) (λ_ _ e=>e.elim))).trans hf9 (λ_ _ e=>e) (λ_ _ e=>.inr e)
    simp only[RU,h6.c 9 dC];refine(AY h6.sys n).mono ?_;rintro _ w6 ⟨rfl,rfl⟩;cases ho:(getD e1.s.p.owed n).isNone
    ·rw[ho] at hq;cases hq;simp only[RU];exact hkk' _ _ ⟨_,rfl,fin _ nl _ (Fm.refl _ _) hr6 rfl (λwx hx=>by show ImAs wx nl r.imgs;rw[hi];exact CD wx)⟩
    ·rw[ho] at hq;cases hq;simp only[RU];have hb6:=(Fm.drew F0 w6).heap (hf6.heap hb5 (λe=>by cases e)) (λe=>e);refine⟨λwx=>Fm F0 w6.drew wx,Fm.refl _ _,nl,λwx hx=>?_,?_⟩
     ·have hrx:RB wx rb r nl nl nl nl nl:=⟨hx.heap ((Fm.drew F0 w6).heap hr6 (λe=>e)) (λe=>e)⟩;simp only[RU,hrx.c13,H7]
     simp only[RU,aa (n:=6) hb6 rfl];refine ag (Er _ _ _ _) ⟨rfl,ag (EC _ _ _ _) ⟨Fm.alloc _ _ _,?_⟩⟩;obtain⟨vi,w8,hr8,ho8,hf8,_⟩:=fI (P:=prog) Hn dC (World.ownsRow_nil (w6.drew.alloc (.cells (imC (n,{ q2 with lsn:=r.lsn },v5)).toArray 233)) w6.drew.heap.size 233 7) 165 ⟨w6.drew.heap.size,0,none⟩ 1 1 (imC (n,{ q2 with lsn:=r.lsn },v5)) rfl (λj u hj=>by rw[aA,E7,ab (ay w6.drew _)];simpa using hj) (qP hN5.one) dC dC (by rw[aE];omega);refine ag hr8 ?_;have hf68:Fm F0 w6 w8:=Fm.own (Fmf (Fm.drew F0 w6) (Fm.alloc F0 _ _)) hf8 (λy hy=>F8 (Fm.drew F0 w6).size hy);refine au (hf68.heap hr6 (λe=>e)) (j:=13) (dC:13<16) (az ho8) λw9 hw9 hs9 hf9=>?_;refine hkk' _ _ ⟨_,rfl,fin _ vi _ (hf68.trans hf9 (λ_ _ e=>e.elim) (λ_ _ e=>e)) hw9 (az ho8) (λwx hx=>?_)⟩;have hk:∀y,w3.heap.size<=y->¬(O1 y≠99\/y=rb):=λy hy e=>e.elim (λe=>e (h9 y hy).1) (λe=>(h9 y hy).2 e);have hx8:Fm (λy=>O1 y≠99\/y=rb) w8 wx:=hf9.trans hx (λ_ _ e=>.inr e) (λ_ _ e=>e);have hx6:Fm (λy=>O1 y≠99\/y=rb) w6 wx:=hf68.trans hx8 (λ_ _ e=>e.elim) (λ_ _ e=>e);exact⟨[(n,{ q2 with lsn:=r.lsn },v5)],rfl,(CellsAt.aT ho8).keep hx8 (λy hy=>hk y (F8 (F8 hF.size (Fm.drew F0 w6).size) (fl ho8 hy))),λx hx'=>by rw[Jw.1 hx'];exact⟨hN6.one,(hN6.j5 hx6 (λy hy=>hk y (hN6.fr hy.1 y hy.2))).as⟩⟩
   ·intro kk hkk;have hd4:=(h3.aS hf4).aS (Fm.drew F0 w4);refine⟨λw5=>Fm F0 w4.drew w5,Fm.refl _ _,.agg (pcs p v),λw5 hf5=>?_,.agg (rcs r nl nl nl nl nl),λw5 hf5=>?_,?_⟩
    ·have:=hf5.heap ((Fm.drew F0 w4).heap hw4 (λe=>e)) (λe=>e);simp only[RU,aa (n:=6) this rfl,H7]
    ·have:=hf5.heap ((Fm.drew F0 w4).heap (hf4.heap hw1' (λe=>e)) (λe=>e)) (λe=>e);simp only[RU,aa (n:=16) this rfl,H7]
    ·refine DB (n:=6) (mv:=iv e1.m) (Y:=F0) (λbase w5 us uu=>∃v5,us=pcs { q2 with lsn:=r.lsn } v5/\uu=iv 0/\PgN w5 base v5 { q2 with lsn:=r.lsn }) (λw5 hf5=>?_) (λw5 hf5=>?_) (λw5 hf5=>hf5) (λy e=>e.elim) ?_ ?_
     ·exact fO (hd4.aS hf5)
     ·have hi5:ImAs w5 nl r.imgs:=by rw[hi];exact CD w5
      rw[g2];refine(wX (hNd.keep hf5) h3.mo (iz hsm).1 (F8 g3 dC) hi5 hi hin g1 hde).mono ?_;rintro _ w6 ⟨v5,rfl,hN5,hf6⟩;exact⟨_,_,rfl,rfl,G8.2 (bA hN5.one),⟨v5,rfl,rfl,hN5⟩,hf6⟩
     ·rintro base w5 w6 us uu hb ⟨v5,e1,e2,hN5⟩ hf6;exact⟨v5,e1,e2,hN5.dO hf6 (λy e=>e.2)⟩
     ·rintro base w6 b6 us uu hb hb2 hn hw6 ⟨v5,rfl,rfl,hN5⟩ hf6;exact hkk _ _ ⟨b6,v5,rfl,hw6,hN5.base hb,hf6⟩
 ·cases hvs;simp only[RU,show decide ((1:Int)<((1:Nat):Int))=false from rfl];exact⟨_,rfl,hB⟩
theorem Ig(g cap:Nat):ixV 7 (.slice (some ⟨g,0,none⟩) 1 cap) (iv 0)=some (pv g):=by rw[show iv 0=.int .i64 ((0:Nat):Int) from rfl,dT dC,aA]
theorem zX{x:Int×Pg×Value}(h:CellsAt w v 1 7 (imC x))(hx:x.2.2.oneCell'=true):Cl prog 297 [v] w λo w'=>w'.ownsRow w.heap.size 233 7 o 1 (imC x)/\Fm F0 w w':=by
 refine cU1 func297 ?_;obtain⟨⟨a,c,hv,h1,h2,h3,h4⟩,hl⟩:=id h;cases a with
 | none=>have:=(h3 rfl).1;cases this
 | some ad=>subst hv;have e3:aC (TypeDesc.slice 233) .eql (.slice (some ad) 1 c) (.slice none 0 0)=some (.bool false):=kR;simp only[RU,e3];refine bsl 0 #[] 233 ?_;have ho2:(w.alloc (.cells #[] 233)).ownsRow w.heap.size 233 7 (.slice (some ⟨w.heap.size,0,none⟩) 0 0) 0 []:=cY (l:=[]) rfl (D9 _) dC;have hf2:=Fm.alloc F0 w (.cells #[] 233);generalize w.alloc (.cells #[] 233)=w2 at ho2 hf2;obtain⟨lv,w3,hr3,ho3,hf3⟩:=cC Hn oM ho2 (h.keep hf2 iT) (qP hx) 165 dC dC hf2.size;refine ag hr3 ?_;exact⟨ho3,Fm.own hf2 hf3 (λy hy=>by have:=aP ho2 y hy;omega)⟩
theorem Cj{x:Int×Pg}(h:RP w O B e u rv sv ss){vi us:Value}(hr:w.heap[rb]?=some (.cells (rcs r nl nl vi nl nl) 168))(hO:O rb=99)(hi:r.imgs=[x])(hv:CellsAt w vi 1 7 (imC (x.1,x.2,us)))(hN:PgN w 0 us x.2)(hx0:x.2.items=[]){tv:Value}(ht:CellsAt w tv 1 1 [iv n])(htO:∀y,blockOf tv=some y->O y=99/\y≠rb)(hq:M.behind e r n=some (e',r',q)):Cl prog 211 [pv B.x,pv rb,tv] w λo w'=>∃tv',o=.tuple #[tv',iv 0]/\Bh w O B e' u rv sv ss rb r' q tv' w':=by
 unfold M.behind at hq;rw[hi] at hq;obtain⟨q1,hdo,hq⟩:=E6.1 hq;cases hq;rw[M.doRec] at hdo;obtain⟨_,hg,hdo⟩:=bind_some hdo;have hg:=ak hg;simp only[E0,C4] at hg;obtain⟨⟨g1,g2⟩,g4⟩:=hg;cases hdo;subst g1;have hin:In r.lsn:=by unfold M.inL at g4;have:=F9 g4;constructor<;>omega
 have hrb:RB w rb r nl nl vi nl nl:=⟨hr⟩;have hrl:=aj hr;refine cU3 func211 ?_ (V [(10,[8,57]),(5,[39]),(18,[8,83])]) (J [(13,[12]),(29,[8]),(24,[18,19])]);simp only[RU,hrb.c13,hv.lenV,show decide ((0:Int)<((1:Nat):Int))=true from rfl];refine(zX hv hN.one).mono ?_;rintro o w1 ⟨ho,hf1⟩;have hoo:=az ho;rcases id ho.2 with⟨_,hn⟩|⟨g,cap,cur,rfl,hbg,hgg,hnc,hcm,hcs,htake⟩
 ·cases hn
 refine au (hf1.heap hr (λe=>e)) (j:=13) (dC:13<16) rfl λw2 hw2 hs2 hf2=>?_
 replace hw2:RB w2 rb r nl nl (.slice (some ⟨g,0,none⟩) 1 cap) nl nl:=⟨hw2⟩
 have hgg2:=hf2.heap hgg oM;have hF2:Fm (λy=>O y=1\/y=rb) w w2:=hf1.trans hf2 (λ_ _ e=>e.elim) (λ_ _ e=>.inr e);let r1:Rc:={ r with imgs:=[(x.1,{ x.2 with lsn:=r.lsn })] };simp only[RU,hw2.c13,ht.lenV];refine⟨λvs w3=>(vs=[iv 0]/\w3=w2)\/(vs=[iv 1]/\Fm (·=g) w2 w3/\w3.ownsRow w.heap.size 233 7 (.slice (some ⟨g,0,none⟩) 1 cap) 1 (imC (x.1,{ x.2 with lsn:=r.lsn },us))),λvs _=>(1 - nth vs 0).toNat,.inl ⟨rfl,rfl⟩,?_⟩;rintro w3 t (⟨hvs,rfl⟩|⟨hvs,hf3,ho3⟩)
 ·cases hvs;simp only[RU,show decide ((0:Int)<((1:Nat):Int))=true from rfl,hw2.c13,hw2.c0,Ig];have hd:=Fm.drew F0 w3;refine au (hd.heap hgg2 (λe=>e)) (j:=1) (u:=iv r.lsn) oM rfl λw4 hw4 hs4 hf4=>?_;simp only[RU,show IntKind.i64.wrap ((0:Int)+1)=1 from rfl];exact⟨.inr ⟨hd.trans hf4 (λ_ _ e=>e.elim) (λ_ _ e=>e),rfl,.inr ⟨g,cap,_,rfl,hbg,hw4,hnc,hcm,by simp[hcs],by
   rw[Jy,List.take_set,htake]
   rfl⟩⟩,by simp only[ba];decide⟩
 ·cases hvs;simp only[RU,show decide ((1:Int)<((1:Nat):Int))=false from rfl];have hne:g≠rb:=oM;have hw3:RB w3 rb r nl nl (.slice (some ⟨g,0,none⟩) 1 cap) nl nl:=hw2.keep hf3 (λe=>hne e.symm);have hF3:Fm (λy=>O y=1\/y=rb) w w3:=hF2.trans hf3 (λ_ _ e=>e) (λy hy e=>oM);have h3:RP w3 O B e u rv sv ss:=(((h.aS hf1).iD hO hf2)).iD (h.free hbg) hf3;have ht3:=ht.keep hF3 (λy hy e=>e.elim (λe=>by rw[(htO y hy).1] at e;cases e) (htO y hy).2);have hi3:ImAs w3 (.slice (some ⟨g,0,none⟩) 1 cap) [(x.1,{ x.2 with lsn:=r.lsn })]:=⟨[(x.1,{ x.2 with lsn:=r.lsn },us)],rfl,CellsAt.aT ho3,λz hz=>by rw[Jw.1 hz];exact⟨hN.one,((hN.lsn hin).j5 hF3 (λy hy=>absurd hx0 hy.1)).as⟩⟩;have h2s:=(hf1.trans hf2 (λ_ _ e=>e.elim) (λ_ _ e=>e)).size;have hs3:=hF3.size;have h9:∀y,w3.heap.size<=y->O y=99/\y≠rb:=λy hy=>⟨h.free oM,oM⟩;refine⟨λvs w4=>(vs=[nl,iv 0]/\w4=w3)\/∃o,vs=[o,iv 1]/\Bh w O B e u rv sv ss rb r1 { x.2 with lsn:=r.lsn } o w4,λvs _=>(1 - nth vs 1).toNat,.inl ⟨rfl,rfl⟩,?_⟩;rintro w4 o t (⟨hvs,rfl⟩|⟨o,hvs,hB⟩)
  ·cases hvs;obtain⟨ad,i1,_,i3⟩:=ht3.iS (i:=0) (x:=iv x.1) rfl .i64;have i1':ixV 1 tv (iv 0)=_:=i1;simp only[RU,show decide ((0:Int)<((1:Nat):Int))=true from rfl,i1',i3];have hd:=Fm.drew F0 w4;refine aJ (λvs w5=>∃b5 v5,vs=[pv b5]/\w5.heap[b5]?=some (.cells (pcs { x.2 with lsn:=r.lsn } v5) 68)/\PgN w5 w4.drew.heap.size v5 { x.2 with lsn:=r.lsn }/\Fm F0 w4.drew w5) ?_ ?_
   ·rintro _ w5 ⟨b5,v5,rfl,hb5,hN5,hf5⟩;simp only[RU,aa (n:=6) hb5 rfl];refine lM Ho dC 312 rfl (ED _ _ _) (bA hN5.one) (World.ownsRow_nil w5 w5.heap.size 68 6) dC dC (D9 _) ?_;intro tv' w6 ho6 _ hf6;simp only[RU,show IntKind.i64.wrap ((0:Int)+1)=1 from rfl];have hF:Fm F0 w4 w6:=(Fmf hd hf5).trans hf6 (λ_ _ e=>e) (λy _ e=>by cases e);have hN6:PgN w6 w4.heap.size v5 { x.2 with lsn:=r.lsn }:=(hN5.keep (hf6.mono (λy _ e=>by cases e))).base hd.size;have hi6:=hi3.keep hF;refine⟨.inr ⟨_,rfl,⟨v5,.slice (some ⟨g,0,none⟩) 1 cap,O,h3.aS hF,Gr.refl _ _,λy hy=>absurd hx0 hy.1,hN6.base hs3,hF.heap hw3.h (λe=>e),rfl,λwx hx=>?_,λwx hx=>?_⟩,hF3.trans hF (λ_ _ e=>e) (λ_ _ e=>e.elim)⟩,by simp only[cK];decide⟩
    ·have ho6':=(CellsAt.aT ho3).keep (hF.trans hx (λ_ _ e=>e.elim) (λ_ _ e=>e)) (λy hy e=>by cases hy;exact e.elim (λe=>e (h.free hbg)) (λe=>hne e));exact⟨[(x.1,{ x.2 with lsn:=r.lsn },us)],rfl,ho6',λz hz=>by rw[Jw.1 hz];exact⟨hN.one,((hN.lsn hin).j5 (hF3.trans (hF.trans hx (λ_ _ e=>e.elim) (λ_ _ e=>e)) (U:=λ_=>True) (λ_ _ _=>trivial) (λ_ _ _=>trivial)) (λy hy=>absurd hx0 hy.1)).as⟩⟩
    ·refine(CellsAt.aT ho6).keep hx (λy hy=>?_);have:=h9 y (F8 (Fmf hd hf5).size (fl ho6 hy));rintro(e|e)
     ·exact e this.1
     ·exact this.2 e
   ·intro kk hkk;have hrd:=hd.heap hw3.h (λe=>e);refine⟨λw5=>Fm F0 w4.drew w5,Fm.refl _ _,.agg (pcs pg0 nl),λw5 hf5=>?_,.agg (rcs r nl nl (.slice (some ⟨g,0,none⟩) 1 cap) nl nl),λw5 hf5=>?_,?_⟩
    ·exact bst (pcs pg0 nl) ⟨rfl,rfl⟩
    ·have:=hf5.heap hrd (λe=>e);simp only[RU,aa (n:=16) this rfl,H7]
    ·refine DB (n:=6) (mv:=iv e.m) (Y:=F0) (λbase w5 us uu=>∃v5,us=pcs { x.2 with lsn:=r.lsn } v5/\PgN w5 base v5 { x.2 with lsn:=r.lsn }) (λw5 hf5=>?_) (λw5 hf5=>?_) (λw5 hf5=>hf5) (λy e=>e.elim) ?_ ?_
     ·exact fO ((h3.aS hd).aS hf5)
     ·refine(Bv (r:=r1) (x:=(x.1,{ x.2 with lsn:=r.lsn })) (hi3.keep (Fmf hd hf5)) rfl hin (F8 (iz g2).2 dC)).mono ?_;rintro _ w6 ⟨v5,rfl,hN5,hf6⟩;exact⟨_,_,rfl,rfl,G8.2 (bA hN5.one),⟨v5,rfl,hN5⟩,hf6⟩
     ·rintro base w5 w6 us uu hb ⟨v5,e1,hN5⟩ hf6;exact⟨v5,e1,hN5.dO hf6 (λy e=>e.2)⟩
     ·rintro base w6 b6 us uu hb hb2 hn hw6 ⟨v5,rfl,hN5⟩ hf6;exact hkk _ _ ⟨b6,v5,rfl,hw6,hN5.base hb,hf6⟩
  ·cases hvs;simp only[RU,show decide ((1:Int)<((1:Nat):Int))=false from rfl];exact⟨_,rfl,hB⟩
end
section
variable{w w' w1 w2:World}{B:Bk}{u v rv sv:Value}{O O' O1 O2:Nat->Nat}{e e' e1:E}{ss:List (List Value)}{p q:Pg}{n0 rb:Nat}{r r':Rc}{n:Int}
theorem kn(h:RP w O B e u rv sv ss){n:Int}(hq:M.reserve e n=some e'):Cl prog 48 [pv B.lb,iv n] w λo w'=>o=iv 0/\RP w' O B e' u rv sv ss/\Fm (λy=>O y=1) w w':=by unfold M.reserve at hq;obtain⟨_,hg,hq⟩:=bind_some hq;cases hq;refine(rN h.sys n).mono ?_;rintro _ w' ⟨rfl,hs,hf⟩;exact⟨by rw[F9 (ak hg)],(h.oP hs hf).1,hf⟩
theorem kl(h:RP w O B e u rv sv ss){n:Int}(hq:M.release e n=some e'):Cl prog 43 [pv B.lb,iv n] w λo w'=>o=iv 0/\RP w' O B e' u rv sv ss/\Fm (λy=>O y=1) w w':=by unfold M.release at hq;obtain⟨_,hg,hq⟩:=bind_some hq;cases hq;refine(rM h.sys n).mono ?_;rintro _ w' ⟨rfl,hs,hf⟩;exact⟨by rw[F9 (ak hg)],(h.oP hs hf).1,hf⟩
theorem Da{vi:Value}(hb:M.rcB r=true)(hv:vi.oneCell'=true)(hi:ImAs w vi r.imgs):RcAs w (rcs r nl nl vi nl nl) r:=by unfold M.rcB at hb;simp only[E0,G8,C4] at hb;obtain⟨⟨⟨h1,h2⟩,h3⟩,h4⟩:=hb;have cn:∀sz:Nat,CellsAt w nl 0 sz []:=λsz=>CellsAt.aT (World.ownsRow_nil w 0 3 sz);refine⟨⟨nl,nl,vi,nl,nl,rfl,⟨rfl,rfl,hv,rfl,rfl⟩,by rw[h3.1];exact cn 1,by rw[h3.2.1];exact cn 1,hi,by rw[h3.2.2.1];exact cn 2,by rw[h3.2.2.2];exact cn 2⟩,λn hn=>?_,⟨h2.1,h2.2.1⟩,by have:=h2.2.2.1;omega,by rw[h3.1,h3.2.1,h3.2.2.1,h3.2.2.2];have:=h2.2.2.2;simp only[Ja];omega,λm hm=>by have:=h4 m hm;omega⟩;have:=h1 n hn;unfold M.inZ at this;have:=F9 this;constructor<;>omega
theorem RP.C2(h:RP w O B e u rv sv ss){T:List (Int×Nat)}{L:List (Int×Tx)}{D:Nat->Prop}(ht:TxAt w' D B.tb B.tm T L)(hD:∀y,D y->(O y=4\/w.heap.size<=y)/\y<w'.heap.size)(hf:Fm (λy=>O y=4) w w'):∃O',RP w' O' B { e with txns:=L } u rv sv ss/\Stp O w O' w'/\∀y,O' y≠99->O y≠99\/D y:=by obtain⟨O',h1,h3,h2,_,o,hl,hx⟩:=h.part (Z:=D) (c:=4) dC (λy hy=>⟨(hD y hy).1.imp id h.free,(hD y hy).2⟩) hf;refine⟨O',⟨⟨λ_=>o.sys dC,λ_=>o.st dC,λ_=>o.lk dC,λ_=>⟨T,ht.wide h2⟩,λ_=>o.id dC,λ_=>o.sp dC,λ_=>o.rs dC,λi s k hi=>o.se i s oM hi,λ_=>o.x dC⟩,hl,hx,h.sl,h.mo,h.ph,h.uo⟩,⟨⟨h1,λy hy=>(h3 y hy).elim .inl (λe=>(hD y e).1.imp (λe=>by rw[e];decide) id)⟩,hf.mono (λy _ e=>by rw[e];decide)⟩,h3⟩
theorem RP.A8(h:RP w O B e u rv sv ss){T:List (Int×Nat)}{L:List (Int×Tx)}(ht:TxAt w' (O ·=4) B.tb B.tm T L)(hf:Fm (λy=>O y=4) w w'):RP w' O B { e with txns:=L } u rv sv ss:=by have o:=h.keep hf;exact⟨⟨λ_=>o.sys dC,λ_=>o.st dC,λ_=>o.lk dC,λ_=>⟨T,ht⟩,λ_=>o.id dC,λ_=>o.sp dC,λ_=>o.rs dC,λi s k hi=>o.se i s oM hi,λ_=>o.x dC⟩,λy hy=>E3 (h.lt y hy) hf.size,h.x0,h.sl,h.mo,h.ph,h.uo⟩
def RIn(w:World)(O:Nat->Nat)(r:Rc)(vi:Value):Prop:=(r.imgs=[]/\vi=nl)\/∃x us,r.imgs=[x]/\CellsAt w vi 1 7 (imC (x.1,x.2,us))/\PgN w 0 us x.2/\x.2.items=[]/\∀y,blockOf vi=some y->O y=99
theorem gdP{c b:Bool}{w:World}{K:Value->World->Prop}:GdG c (λk'=>k' (.bool b) w) w (λ_ v w1=>Pu (aL (.bool c) v (.bool false)) λx=>K x w1)=K (.bool (c&&b)) w:=by
 cases c
 ·rw[BZ];simp only[RU,Jq]
 ·rw[Ca];simp only[RU,JD]
theorem gdE{c:Bool}{X:KV->Prop}{w:World}{K:Value->World->Prop}(A:World->Prop)(h1:c=true->∀k:KV,(∀w',A w'->k (.bool false) w')->X k)(h0:c=false->A w)(hk:∀w',A w'->K (.bool false) w'):GdG c X w (λ_ v w1=>Pu (aL (.bool c) v (.bool false)) λx=>K x w1):=by
 cases c
 ·rw[BZ];simp only[RU];exact hk _ (h0 rfl)
 ·rw[Ca];refine h1 rfl _ λw' hw=>?_;simp only[RU];exact hk _ hw
theorem BS(h:M.touch r=some n):Tch r n:=by
 have hd:∀{k:Int},M.dkB k=true->DkT k:=λ{k} h=>(F9 h:k=1\/k=2\/k=3\/k=6\/k=7\/k=8);unfold M.touch at h;split at h
 ·rename_i hi;obtain⟨_,hg,h⟩:=bind_some h;cases h;exact .inl ⟨hi,hd (ak hg),rfl⟩
 ·rename_i x hi;obtain⟨_,hg,h⟩:=bind_some h;cases h;have hg:=ak hg;simp only[JU,E0,C4] at hg;exact .inr ⟨x,hi,rfl,hg.imp id (λe=>⟨hd e.1,e.2⟩)⟩
 ·cases h
theorem lC(h:RP w O B e u rv sv ss){i free:Int}{vi:Value}(hR:RIn w O r vi)(hq:M.wr e i r free=some e'):Cl prog 118 [pv B.x,iv i,.agg (rcs r nl nl vi nl nl),iv free] w λo w'=>o=iv 0/\∃O' u',RP w' O' B e' u' rv sv ss/\Stp O w O' w':=by
 unfold M.wr at hq;obtain⟨t,ht,hq⟩:=bind_some hq;obtain⟨n,hn,hq⟩:=bind_some hq;obtain⟨⟨e1,r1,q⟩,hbh,hq⟩:=bind_some hq;obtain⟨_,hg,hq⟩:=bind_some hq;obtain⟨e2,hres,hq⟩:=bind_some hq;obtain⟨e3,hrel,hq⟩:=bind_some hq;obtain⟨_,hap,hq⟩:=bind_some hq;obtain⟨tx,htx,hlay⟩:=bind_some hq;obtain⟨T,hT⟩:=h.al.tx dC;refine cU4 func118 ?_ (V [(24,[119])]) (J [(5,[]),(20,[]),(23,[])]);refine ae ?_;rintro b1 w1 rfl hs1 hw1 hf1;have h1:=h.aS hf1;simp only[RU,h1.c 17 dC];refine(ly (hT.keep hf1 (λ_ _ e=>e)) ht).mono ?_;rintro _ w2 ⟨a,rfl,_,ha,_,hf2⟩;simp only[RU];refine aD (us:=#[iv t.next,a,iv t.xid,iv t.first,iv t.last,iv t.undoes]) (λw3 hs3 hw3 hf3=>?_) rfl rfl (by simp[ha];exact⟨rfl,rfl,rfl,rfl,rfl⟩);have hf13:=Fmf hf2 hf3;have hF3:=Fmf hf1 hf13;have h3:=h.aS hF3;have hw1:RB w3 w.heap.size r nl nl vi nl nl:=⟨hf13.heap hw1 (λe=>e)⟩;have ct:=λo=>ab (off:=o) hw3;simp only[RU,hw1.c4];have hx:(r.xid == t.xid)=decide (t.xid=r.xid):=(show(r.xid == t.xid)=decide (r.xid=t.xid) from rfl).trans (G9.2 ⟨Eq.symm,Eq.symm⟩);simp only[RU,ct,gdP,hx];generalize hop:(decide (0<r.xid)&&decide (t.xid=r.xid))=op at hn htx hbh ⊢;refine aJ (λvs w4=>vs=[]/\RB w4 w.heap.size { r with prev:=bif op then t.last else r.prev } nl nl vi nl nl/\Fm (·=w.heap.size) w3 w4) ?_ ?_
 ·rintro _ w4 ⟨rfl,hw4,hf4⟩;have h99:O w.heap.size=99:=h.free (D9 _);have h4:=h3.iD h99 hf4;simp only[RU,h4.c 8 dC];refine(nT h4.sys).mono ?_;rintro _ w5 ⟨rfl,hf5⟩;refine au (hf5.heap hw4.h (λe=>e)) (j:=0) (dC:0<16) rfl λw6 hw6 hs6 hf6=>?_
  replace hw6:w6.heap[w.heap.size]?=some (.cells (rcs { r with prev:=bif op then t.last else r.prev,lsn:=(e.s.l.tail:Int) } nl nl vi nl nl) 168):=hw6
  have h6:=(h4.aS hf5).iD h99 hf6;have hF6:Fm F0 w w6:=Fm.own (Fmf (Fm.own hF3 hf4 (λy e=>oM)) hf5) hf6 (λy e=>oM);generalize hrA:({ r with prev:=bif op then t.last else r.prev,lsn:=(e.s.l.tail:Int) }:Rc)=rA at hn hbh hw6;have himg:rA.imgs=r.imgs:=by rw[<- hrA]
  have hi6:ImAs w6 vi rA.imgs:=by
   rw[himg];rcases hR with⟨e,rfl⟩|⟨x,us,e,k1,k2,k3,k4⟩
   ·rw[e];exact CD _
   ·rw[e];exact⟨[(x.1,x.2,us)],rfl,k1.keep hF6 (λ_ _ e=>e),λz hz=>by rw[Jw.1 hz];exact⟨k2.one,(k2.keep hF6).as⟩⟩
  simp only[RU,aa (n:=16) hw6 rfl];refine(mM hi6 (BS hn)).mono ?_;rintro tv w7 ⟨htv,hf7⟩;have h7:=h6.aS hf7;have hF7:=Fmf hF6 hf7;have hw7:=hf7.heap hw6 (λe=>e);have hrb6:=aj hw6;have htO:∀y,blockOf tv=some y->O y=99/\y≠w.heap.size:=λy hy=>by have:=kN htv hy;have:=hF6.size;exact⟨h.free oM,oM⟩
  have hB:Cl prog 211 [pv B.x,pv w.heap.size,tv] w7 λo w'=>∃tv',o=.tuple #[tv',iv 0]/\Bh w7 O B e1 u rv sv ss w.heap.size r1 q tv' w':=by
   rcases hR with⟨e,rfl⟩|⟨x,us,e,k1,k2,k3,k4⟩
   ·exact Ci h7 hw7 h99 (himg.trans e) (CellsAt.aT htv) htO hbh
   ·exact Cj h7 hw7 h99 (himg.trans e) (k1.keep hF7 (λ_ _ e=>e)) (k2.keep hF7) k3 (CellsAt.aT htv) htO hbh
  refine hB.mono ?_;rintro _ w8 ⟨tv',rfl,⟨v,vi',O1,h8,g8,hz8,hN8,hr8,hvi,hI,hC⟩,hf8⟩;have s8:Stp O w O1 w8:=⟨g8.mono (λy e=>F8 hF7.size e),hF7.trans hf8 (λ_ _ e=>e.elim) (λy hy e=>e.elim (λe=>by rw[e];decide) (λe=>oM))⟩;have h98:O1 w.heap.size=99:=by
   apply G5;intro c;rcases g8.new _ c with e|e
   ·exact e h99
   ·have:=hf7.size;omega
  have hg:=ak hg;simp only[E0,C4] at hg;simp only[RU,h8.c 8 dC,show((0:Int) != 0)=false from rfl];refine(nT h8.sys).mono ?_;rintro _ w9 ⟨rfl,hf9⟩;refine au (hf9.heap hr8 (λe=>e)) (j:=0) (dC:0<16) rfl λwa hwa hsa hfa=>?_;rw[hg.1] at hwa
  replace hwa:wa.heap[w.heap.size]?=some (.cells (rcs r1 nl nl vi' nl nl) 168):=hwa
  have ha:=(h8.aS hf9).iD h98 hfa;simp only[RU,aa (n:=16) hwa rfl];refine undoes_spec.mono ?_;rintro _ wb ⟨rfl,hfb⟩;have hb:=ha.aS hfb;have hwb:=hfb.heap hwa (λe=>e);have sb:Stp O w O1 wb:=((s8.trans (Stp.gE hf9)).loc hfa (D9 _)).trans (Stp.gE hfb);have Fb:Fm (λy=>O1 y≠99\/y=w.heap.size) w8 wb:=(hf9.trans hfa (λ_ _ e=>e.elim) (λ_ _ e=>.inr e)).trans hfb (λ_ _ e=>e) (λ_ _ e=>e.elim);rw[show isB true (Value.bool (M.undoes r1))=M.undoes r1 by cases M.undoes r1<;>simp only[RU]];refine gdE (λwc=>RP wc O1 B e2 u rv sv ss/\Fm (λy=>O1 y=1) wb wc) ?_ ?_ ?_
  ·intro hu k hk;rw[hu,D8] at hres;simp only[RU,hb.c 8 dC];refine(kn hb hres).mono ?_;rintro _ wc ⟨rfl,hc,hfc⟩;simp only[RU,show((0:Int) != 0)=false from rfl];exact hk _ ⟨hc,hfc⟩
  ·intro hu;rw[hu,C8] at hres;cases hres;exact⟨hb,Fm.refl _ _⟩
  rintro wc ⟨hc,hfc⟩;simp only[RU,hc.c 8 dC];refine(kl hc hrel).mono ?_;rintro _ wd ⟨rfl,hd,hfd⟩;have hfD:=Fm.drew F0 wd;have hwd:=hfD.heap (hfd.heap (hfc.heap hwb (by rw[h98];decide)) (by rw[h98];decide)) (λe=>e);have hdd:=hd.aS hfD;simp only[RU,hd.c 8 dC,aa (n:=16) hwd rfl];have Fd:Fm (λy=>O1 y≠99\/y=w.heap.size) w8 wd.drew:=((Fb.trans hfc (λ_ _ e=>e) (λy _ e=>.inl (by rw[e];decide))).trans hfd (λ_ _ e=>e) (λy _ e=>.inl (by rw[e];decide))).trans hfD (λ_ _ e=>e) (λ_ _ e=>e.elim);have sd:Stp O w O1 wd.drew:=((sb.trans (Stp.of (Gr.refl _ _) dC hfc)).trans (Stp.of (Gr.refl _ _) dC hfd)).trans (Stp.gE hfD);refine(uX hdd.sys (λwx hx=>Da hg.2 hvi (hI wx (Fd.trans hx (λ_ _ e=>e) (λy _ e=>.inl (by rw[e];decide)))))).mono ?_;rintro _ we ⟨rfl,⟨D',hs',hD'⟩,hfe⟩;obtain⟨O2,he,se⟩:=hdd.AS hs' hD' hfe;have Fe:Fm (λy=>O1 y≠99\/y=w.heap.size) w8 we:=Fd.trans hfe (λ_ _ e=>e) (λy _ e=>.inl (by rw[e];decide));rw[F9 (ak hap)];have sE:=sd.trans se;simp only[RU,show((0:Int) != 0)=false from rfl];refine aJ (λvs wf=>vs=[]/\RP wf O2 B { M.lg e3 (e3.s.l.append r1).1 with txns:=tx } u rv sv ss/\Fm (λy=>O2 y=4) we wf) ?_ ?_
  ·rintro _ wf ⟨rfl,hF,hff⟩;have Ff:Fm (λy=>O1 y≠99\/y=w.heap.size) w8 wf:=Fe.trans hff (λ_ _ e=>e) (λy hy e=>by
    rcases se.g.new y (by rw[e];decide) with e'|e'
    ·exact .inl e'
    ·have:=Fd.size;omega)
   have sF:Stp O w O2 wf:=sE.trans (Stp.of (Gr.refl _ _) dC hff);have htf:CellsAt wf tv 1 1 [iv n]:=by
    refine((CellsAt.aT htv).keep hf8 (λy hy e=>?_)).keep Ff (λy hy e=>?_)
    ·rcases e with e|e
     ·rw[(htO y hy).1] at e;cases e
     ·exact(htO y hy).2 e
    ·rcases e with e|e
     ·have h1:=(CellsAt.aT htv).blt sI y hy;exact e (by
       apply G5;intro c;rcases g8.new y c with e|e
       ·exact e (htO y hy).1
       ·omega)
     ·exact(htO y hy).2 e
   have hcf:=hC wf Ff;have hNf:=hN8.j5 Ff (λy hy e=>e.elim (λe=>e (hz8 y hy).1) (hz8 y hy).2);simp only[RU,htf.lenV];refine⟨λvs wx=>(vs=[iv 0]/\wx=wf)\/(vs=[iv 1]/\∃O' u',RP wx O' B e' u' rv sv ss/\Stp O w O' wx),λvs _=>(1 - nth vs 0).toNat,.inl ⟨rfl,rfl⟩,?_⟩;rintro wx t (⟨hvs,rfl⟩|⟨hvs,hX⟩)
   ·cases hvs;obtain⟨ad,i1,_,i3⟩:=htf.iS (i:=0) (x:=iv n) rfl .i64;have i1':ixV 1 tv (iv 0)=_:=i1;obtain⟨ad2,j1,_,j3⟩:=hcf.at dC (i:=0) dC .i64;have j1':ixV 6 tv' (iv 0)=_:=j1;simp only[RU,show decide ((0:Int)<((1:Nat):Int))=true from rfl,i1',i3,j1'];have hcv:aI wx ad2 6=some (.agg (pcs q v)):=aN (l:=(pcs q v).toList) rfl (λj hj=>by rw[j3 j hj,JX,E7]);simp only[RU,hcv];refine(oK hF hNf (λy hy=>?_) hlay).mono ?_
    ·apply G5;intro c;rcases se.g.new y c with e|e
     ·exact e (hz8 y hy).1
     ·have:=hN8.lt hy;have:=Fd.size;omega
    rintro _ wy ⟨rfl,hfy,O3,u3,hy,gy⟩;simp only[RU,show((0:Int) != 0)=false from rfl,show IntKind.i64.wrap ((0:Int)+1)=1 from rfl];refine⟨.inr ⟨O3,u3,hy,⟨⟨λy hy=>(gy.old y (by rw[sF.g.old y hy];exact hy)).trans (sF.g.old y hy),λy hy=>?_⟩,sF.f.trans hfy (λ_ _ e=>e) (λy hy e=>?_)⟩⟩,by simp only[ba];decide⟩
    ·rcases gy.new y hy with e|e|e
     ·exact sF.g.new y e
     ·exact .inr (F8 sF.f.size e)
     ·exact .inr (F8 hF7.size (hN8.fr e.1 y e.2))
    ·have hne:O2 y≠99:=by rcases e with e|e|e<;>(rw[e];decide)
     exact(sF.g.new y hne).elim id (λe=>oM)
   ·cases hvs;simp only[RU,show decide ((1:Int)<((1:Nat):Int))=false from rfl];exact hX
  ·intro kk hkk;cases op
   ·rw[C8] at htx;cases htx;simp only[RU];exact hkk _ _ ⟨rfl,he,Fm.refl _ _⟩
   ·rw[D8] at htx;simp only[RU,he.c 17 dC];obtain⟨T',hT'⟩:=he.al.tx dC;refine(qU hT' htx).mono ?_;rintro _ wf ⟨rfl,hTf,hff⟩;exact hkk _ _ ⟨rfl,he.A8 hTf hff,hff⟩
 ·intro kk hkk;cases op
  ·simp only[RU];exact hkk _ _ ⟨rfl,hw1,Fm.refl _ _⟩
  ·simp only[RU];refine au hw1.h (j:=1) (dC:1<16) rfl λw4 hw4 hs4 hf4=>?_;exact hkk _ _ ⟨rfl,⟨hw4⟩,hf4⟩
end
section
variable{w w' w1 w2:World}{B:Bk}{u v rv sv:Value}{O O' O1 O2:Nat->Nat}{e e' e1:E}{ss:List (List Value)}{p q:Pg}{n0 rb i:Nat}{r r':Rc}{n:Int}
theorem RP.C1(h:RP w O B e u rv sv ss):aI w ⟨B.x,10,none⟩ 6=some (.agg (pcs e.st u)):=
 aN (l:=(pcs e.st u).toList) rfl λj hj=>by
  rw[aA,h.c _ oM]
  match j,hj with
  | 0,_=>rfl
  | 1,_=>rfl
  | 2,_=>rfl
  | 3,_=>rfl
  | 4,_=>rfl
  | 5,_=>rfl
theorem TxAt.len{D:Nat->Prop}{b bm:Nat}{T:List (Int×Nat)}{L:List (Int×Tx)}(h:TxAt w D b bm T L)(hl:M.fewT L=true):T.length<=12/\(M.xids L).Nodup:=by unfold M.fewT at hl;simp only[E0,C4] at hl;have:=IR List.length h.keys;rw[H2,H2] at this;exact⟨oM,hl.2⟩
theorem GA(m x o:Int)(p:Pg){a rr u:Value}(ha:∃b n c,a=.slice b n c)(hr:∃b n c,rr=.slice b n c)(hu:∃b n c,u=.slice b n c)(w:World):(Instr.build 200 #[(0,iv m),(1,.agg #[iv x,a]),(2,iv o),(3,rr),(4,.agg (pcs p u))]).run prog w=.ok (.agg #[iv m,iv x,a,iv o,rr,iv p.lsn,iv p.kind,iv p.level,iv p.right,stv p.high,u]) w:=by obtain⟨_,_,_,rfl⟩:=ha;obtain⟨_,_,_,rfl⟩:=hr;obtain⟨_,_,_,rfl⟩:=hu;kernel_rfl
theorem zi(h:RP w O B e u rv sv ss){i:Int}{V:M.Vw}(hq:M.view e i=some V):Cl prog 111 [pv B.x,iv i] w λo w'=>∃a rr,o=.agg (vwC V a rr u)/\VwN w' 0 V a rr u/\V.st=e.st/\(∀y,blockOf a=some y\/blockOf rr=some y->w.heap.size<=y)/\Fm F0 w w':=by
 unfold M.view at hq;obtain⟨_,hg,hq⟩:=bind_some hq;obtain⟨t,ht,hq⟩:=bind_some hq;cases hq;have hg:=ak hg;simp only[E0] at hg;obtain⟨T,hT⟩:=h.al.tx dC;have hlen:=(hT.len hg.1).1;refine cU2 func111 ?_;refine ae ?_;rintro b1 w1 rfl hs1 hw1 hf1;have h1:=h.aS hf1;simp only[RU,h1.c 17 dC];refine(ly (hT.keep hf1 iT) ht).mono ?_;rintro _ w2 ⟨a,rfl,hin,ha,hab,hf2⟩;simp only[RU];refine aD (us:=#[iv t.next,a,iv t.xid,iv t.first,iv t.last,iv t.undoes]) (λw3 hs3 hw3 hf3=>?_) rfl rfl (by simp[ha];exact⟨rfl,rfl,rfl,rfl,rfl⟩);have hF3:=Fmf hf1 (Fmf hf2 hf3);have hd3:=Fm.drew F0 w3;have hk:∀wx,Fm F0 w3.drew wx->RP wx O B e u rv sv ss/\wx.heap[w2.heap.size]?=some (.cells #[iv t.next,a,iv t.xid,iv t.first,iv t.last,iv t.undoes] 107):=λwx hx=>⟨h.aS (Fmf (Fmf hF3 hd3) hx),hx.heap (hd3.heap hw3 id) id⟩;refine⟨λwx=>Fm F0 w3.drew wx,Fm.refl _ _,?_⟩;have hu:∃b n c,u=.slice b n c:=by obtain⟨v',e1,_,hc⟩:=(h.al.st dC).now.ex;rw[iY e1];exact aZ hc
 have hsa:∃b n c,a=.slice b n c:=by obtain⟨A,hA,_⟩:=hin.ex;exact aZ hA
 simp only[RU];refine⟨.agg #[iv t.next,a],λwx hx=>?_,?_⟩
 ·have:=(hk wx hx).2;simp only[RU,show aI wx ⟨w2.heap.size,0,none⟩ 2=some (.agg #[iv t.next,a]) from aN (l:=[iv t.next,a]) rfl (λj hj=>by rw[aA,ab this];match j,hj with|0,_=>rfl|1,_=>rfl),H7]
 refine⟨iv t.xid,λwx hx=>?_,?_⟩
 ·simp only[RU,ab (hk wx hx).2,H7]
 refine⟨pv B.tb,λwx hx=>?_,?_⟩
 ·simp only[RU,(hk wx hx).1.c 17 dC,H7]
 refine⟨.agg (pcs e.st u),λwx hx=>?_,?_⟩
 ·simp only[RU,(hk wx hx).1.C1,H7]
 refine(fO (hk _ (Fm.refl _ _)).1).mono ?_;rintro _ _ ⟨rfl,rfl⟩;have hTd:=hT.keep (Fmf hF3 hd3) iT;refine⟨Fm.refl _ _,(fy hTd hlen).mono ?_⟩;rintro rr w5 ⟨A,hA,hA12,hrr,hf5⟩;refine⟨hf5,?_⟩;refine ag (GA _ _ _ _ hsa (aZ (CellsAt.aT hrr)) hu w5) ⟨rfl,?_⟩;have hF5:=Fmf (Fmf hF3 hd3) hf5;refine ao ((Fmf (Fmf (Fmf hf2 hf3) hd3) hf5).heap hw1 id) (λw6 hw6 hs6 hf6=>?_) rfl rfl (by simp[ha,h.uo,az hrr];exact⟨rfl,rfl,rfl,rfl,rfl,rfl,rfl,rfl⟩);simp only[RU,aa (n:=11) hw6 rfl];have hF6:Fm F0 w w6:=Fm.own hF5 hf6 (λy e=>oM);have s3:=(Fmf hF3 hd3).size;refine⟨a,rr,rfl,⟨(hin.keep (Fmf (Fmf hf3 hd3) hf5)).iV hf6 (λy hy e=>?_),?_,((h.al.st dC).keep hF6 iT).now.n hg.2,h.mo,xu (iz hg.2).1⟩,λy hy=>?_,hF6⟩
 ·have:=(hab y hy).1;omega
 ·refine(jE hrr oM (yE hA)).iV hf6 (λy hy e=>?_);have:=kN hrr hy;have:=(Fmf hf2 (Fmf hf3 hd3)).size;omega
 ·rcases hy with hy|hy
  ·have:=(hab y hy).1;omega
  ·exact F8 s3 (kN hrr hy)
abbrev sp(B:Bk)(i:Nat):Value:=.pointer (some ⟨B.x,23+i*25,none⟩)
theorem RP.cW(h:RP w O B e u rv sv ss){s:Seat}(hi:e.seats[i]?=some s):i<8/\∃rr pl,ss[i]?=some (seC i s rr pl)/\CellsAt w rr s.rep.rows.length 2 (s.rep.rows.flatMap rowL)/\(∀y,blockOf rr=some y->O y=10+i)/\PlV w (O ·=10+i) s.plan pl/\∀j,j<25->w.cell? ⟨B.x,23+i*25+j,none⟩=(seC i s rr pl)[j]? := by
 have h8:i<8:=by have:=(E2.1 hi).1;rw[h.sl] at this;exact this
 obtain⟨cs,h1,h2⟩:=h.al.se i s oM hi;obtain⟨rr,pl,rfl,k1,k2,k3⟩:=h2.ex;exact⟨h8,rr,pl,h1,k1,k2,k3,λj hj=>(h.al.x dC).cs h1 hj⟩
theorem RP.eQ(h:RP w O B e u rv sv ss)(hi:i<8):e.seats[i]?=some (M.seatAt e i):=by unfold M.seatAt;rw[G6,C6 (by rw[h.sl];exact hi)];rfl
theorem RP.p9(h:RP w O B e u rv sv ss){s':Seat}{cs':List Value}{D:Nat->Prop}(hi:i<8)(hx:EgB w' B.x (hdC B e u) (ss.set i cs') (tlC B e rv sv))(hf:Fm (·=B.x) w w')(hs:SeatAt w' D i s' cs')(hD:∀y,D y->(O y=10+i\/O y=99)/\y<w'.heap.size):∃O',RP w' O' B { e with seats:=e.seats.set i s' } u rv sv (ss.set i cs')/\Gr O O' D:=by
 obtain⟨O',h1,h2,h3⟩:=tag O D (10+i) (λy hy=>(hD y hy).1);have o:=(h.keep (c:=0) (hf.mono (λy _ e=>by rw[e];exact h.x0))).wide h1 h.sl;have hl:ss.length=8:=(h.al.x dC).s;refine⟨O',⟨⟨λ_=>o.sys dC,λ_=>o.st dC,λ_=>o.lk dC,λ_=>o.tx dC,λ_=>o.id dC,λ_=>o.sp dC,λ_=>o.rs dC,λj s k hj=>?_,λ_=>hx⟩,λy hy=>(h3 y hy).elim (λe=>E3 (h.lt y e) hf.size) (λe=>(hD y e).2),by rw[h1 _ (by rw[h.x0];decide)];exact h.x0,by show(e.seats.set i s').length=8;rw[I3];exact h.sl,h.mo,h.ph,h.uo⟩,h1,h3⟩
 replace hj:(e.seats.set i s')[j]?=some s:=hj
 by_cases hij:i=j
 ·subst hij;rw[JB (by rw[h.sl];exact hi)] at hj;cases hj;exact⟨cs',by rw[JB oM],hs.wide h2⟩
 ·rw[JY hij] at hj;obtain⟨cs,h1,h2⟩:=o.se j s oM hj;exact⟨cs,by rw[JY hij];exact h1,h2⟩
theorem RP.seat1(h:RP w O B e u rv sv ss){s s':Seat}{j:Nat}{x:Value}{k:KV}(hi:e.seats[i]?=some s)(hj:j<25)(hx1:x.oneCell'=true)(hc:∀rr pl,(seC i s rr pl).set j x=seC i s' rr pl)(hr:s'.rep.rows=s.rep.rows)(hp:s'.plan=s.plan)(hk:∀w' ss',RP w' O B { e with seats:=e.seats.set i s' } u rv sv ss'->Fm (·=B.x) w w'->k undef w'):St 1 w (.pointer (some ⟨B.x,23+i*25+j,none⟩)) x k:=by
 obtain⟨h8,rr,pl,h1,k1,k2,k3,_⟩:=h.cW hi;refine(h.al.x dC).y9 h1 hj hx1 λw' hx hs hf=>?_;rw[hc] at hx;have hne:∀y,O y=10+i->¬y=B.x:=λy e c=>by rw[c,h.x0] at e;omega
 exact hk w' _ (h.mK h8 hx hf ⟨rr,pl,rfl,by rw[hr];exact k1.keep hf (λy e=>hne y (k2 y e)),k2,by rw[hp];exact k3.keep hf hne⟩) hf
theorem HR(n e:Int)(f:Bool)(v:Bs){rr:Value}(hr:∃b n c,rr=.slice b n c)(w:World):(Instr.build 80 #[(0,iv n),(3,.bool true),(4,.agg #[iv e,.bool f,stv v,rr])]).run prog w=.ok (.agg #[iv n,.int .u8 0,stv [],stv [],stv [],iv 0,.nilFunc,.bool true,iv e,.bool f,stv v,rr,np,iv 0,iv 0,iv 0,nl,iv 0,iv 0,iv 0,nl,nl,nl,iv 0,iv 0]) w:=by obtain⟨_,_,_,rfl⟩:=hr;kernel_rfl
abbrev rpC(r:Rp)(rr:Value):Array Value:=#[iv r.err,.bool r.found,stv r.val,rr]
theorem iw(h:RP w O B e u rv sv ss)(hi:i<8){r:Rp}{rr:Value}(hr:CellsAt w rr r.rows.length 2 (r.rows.flatMap rowL))(hO:∀y,blockOf rr=some y->O y=99/\y<w.heap.size):Cl prog 35 [sp B i,.agg (rpC r rr)] w λo w'=>o=iv 0/\∃O' ss',RP w' O' B (M.say e i r) u rv sv ss'/\Gr O O' (λy=>w.heap.size<=y\/blockOf rr=some y)/\Fm (·=B.x) w w':=by
 refine cU2 func35 ?_;refine ae ?_;rintro b1 w1 rfl hs1 hw1 hf1;have h1:=h.aS hf1;have hd:=Fm.drew F0 w1;obtain⟨h8,rr0,pl0,k0,_,_,_,kc⟩:=h1.cW (h1.eQ hi);have hwd:=hd.heap hw1 (λe=>e);have kc0:=kc 0 dC;rw[Jt] at kc0;simp only[RU,kc0,aa (n:=4) hwd rfl];refine ag (HR _ _ _ _ (aZ hr) _) ⟨rfl,?_⟩;refine((h1.aS hd).al.x dC).A7 (j:=0) (n:=25) k0 rfl dC (by have:=gn hr;intro x hx;simp at hx;rcases hx with rfl|rfl|rfl|rfl|rfl|rfl|rfl|rfl|rfl|rfl|rfl|rfl|rfl|rfl|rfl|rfl|rfl|rfl|rfl|rfl|rfl|rfl|rfl|rfl|rfl<;>first|rfl|assumption) λw2 hx hs2 hf2=>?_;have hF:=(Fmf hf1 hd).trans hf2 (λ_ _ e=>e.elim) (λ_ _ e=>e);have hne:∀y,blockOf rr=some y->y≠B.x:=λy hy c=>by have:=(hO y hy).1;rw[c,h.x0] at this;cases this
 have hs':SeatAt w2 (λy=>blockOf rr=some y) i { M.seat0 with told:=true,rep:=r } (seC i { M.seat0 with told:=true,rep:=r } rr np):=⟨rr,np,rfl,hr.keep hF (λy hy c=>hne y hy c),λy hy=>hy,rfl⟩;obtain⟨O',h2,g2⟩:=(h1.aS hd).p9 (cs':=seC i { M.seat0 with told:=true,rep:=r } rr np) hi (by
  refine cast (IR (λz=>EgB w2 B.x (hdC B e u) (ss.set i z) (tlC B e rv sv)) ?_) hx
  rfl) hf2 hs' (λy hy=>⟨.inr (hO y hy).1,E3 (hO y hy).2 hF.size⟩)
 exact⟨O',_,h2,g2.mono (λy e=>.inr e),hF⟩
theorem xg(h:RP w O B e u rv sv ss)(hi:i<8)(er:Int):Cl prog 30 [sp B i,iv er] w λo w'=>o=iv 0/\∃O' ss',RP w' O' B (M.say e i { M.rp0 with err:=er }) u rv sv ss'/\Gr O O' (w.heap.size<=·)/\Fm (·=B.x) w w':=by refine cU2 func30 ?_;refine bst (rpC { M.rp0 with err:=er } nl) ?_;refine(iw h hi (r:={ M.rp0 with err:=er }) (CellsAt.aT (World.ownsRow_nil w 0 23 2)) (λy hy=>by cases hy)).mono ?_;rintro _ w' ⟨rfl,O',ss',h1,g,hf⟩;exact⟨rfl,O',ss',h1,g.mono (λy e=>e.elim id (λe=>by cases e)),hf⟩
end
section
variable{w w' w1 w2:World}{B:Bk}{u v rv yv:Value}{O O' O1 O2:Nat->Nat}{e e' e1:E}{ss:List (List Value)}{i:Nat}{D:Nat->Prop}{hs:List (Bs×Int)}{ws:List (Int×Bs)}
theorem oS{α β:Type}{l:List (α×β)}(h:(l.map (·.1)).Nodup)(f:α×β->Bool):((l.filter f).map (·.1)).Nodup:=h.sublist (List.filter_sublist.map _)
theorem br{a b:Bs}(h:str a=str b):a=b:=by have:=IR (λx:ByteArray=>x.data.toList) h;simpa[str] using this
theorem RP.A0(h:RP w O B e u rv yv ss)(hl:LkAt w' (O ·=3) B hs ws)(hf:Fm (λy=>O y=3) w w'):RP w' O B { e with holds:=hs,waits:=ws } u rv yv ss:=by have o:=h.keep hf;exact⟨⟨λ_=>o.sys dC,λ_=>o.st dC,λ_=>hl,λ_=>o.tx dC,λ_=>o.id dC,λ_=>o.sp dC,λ_=>o.rs dC,λi s k hi=>o.se i s oM hi,λ_=>o.x dC⟩,λy hy=>E3 (h.lt y hy) hf.size,h.x0,h.sl,h.mo,h.ph,h.uo⟩
theorem sG{α β:Type}[DecidableEq α]{l:List (α×β)}(h:(l.map (·.1)).Nodup)(f:α×β->Bool)(a:α):getD (l.filter f) a=(getD l a).bind λb=>bif f (a,b) then some b else none:=by
 cases hl:getD l a with
 | none=>
  rw[Option.bind_none];cases hg:getD (l.filter f) a with
  | none=>rfl
  | some b=>have:=(getD_some h).2 (Kh.1 ((getD_some (oS h f)).1 hg)).1;rw[hl] at this;cases this
 | some b=>
  rw[IW];have hm:=(getD_some h).1 hl;cases hfb:f (a,b) with
  | true=>exact(getD_some (oS h f)).2 (Kh.2 ⟨hm,hfb⟩)
  | false=>
   rw[C8];cases hg:getD (l.filter f) a with
   | none=>rfl
   | some c=>have hc:=Kh.1 ((getD_some (oS h f)).1 hg);have:=(getD_some h).2 hc.1;rw[hl] at this;cases this;rw[hfb] at hc;cases hc.2
theorem ER{W:WL}(hn:(W.map (·.1)).Nodup)(h:∀p,getD W p=(getD ws p).map str):W.length<=ws.length:=by
 have:=hn.length_le_of_subset (l₂:=ws.map (·.1)) (λp hp=>by obtain⟨x,hx,rfl⟩:=E8.1 hp;have h1:=(getD_some hn).2 (show(x.1,x.2)∈W from hx);rw[h] at h1;obtain⟨k,hk,_⟩:=E6.1 h1;exact E8.2 ⟨(x.1,k),dE hk,rfl⟩)
 rwa [H2,H2] at this
theorem xH(h:RP w O B e u rv yv ss)(hw:e.waits.length<=100)(who:Int):Cl prog 116 [pv B.kb,iv who] w λo w'=>RP w' O B (M.letGo e who) u rv yv ss/\Fm (λy=>O y=3) w w':=by
 have hlk:=h.al.lk dC;obtain⟨H,W,hT,hS,hH,hW⟩:=hlk.ex;have hl:=ER hT.ws.keys hW;refine(pL hT oM who).mono ?_;rintro _ w' ⟨H',W',ls,_,hL,hT',hf⟩;have hf3:Fm (λy=>O y=3) w w':=hf.mono (λy _ e=>by rcases e with e|e<;>(rw[e];first|exact hlk.ob.2.1|exact hlk.ob.2.2));have gH:∀k q,getD H' k=some q↔getD H k=some q/\q≠who:=λk q=>by rw[getD_some hT'.hs.keys,hL.hold,getD_some hT.hs.keys]
 have gW:∀p k,getD W' p=some k↔getD W p=some k/\p≠who/\getD H k≠some who:=λp k=>by rw[getD_some hT'.ws.keys,hL.wait,getD_some hT.ws.keys]
 refine⟨h.A0 ⟨⟨H',W',hT',⟨?_,?_⟩,λk=>?_,λp=>?_⟩,hlk.ob,oS hlk.nh _,oS hlk.nw _⟩ hf3,hf3⟩
 ·obtain⟨f,hf⟩:=hS.rank;refine⟨f,λp q ⟨k,h1,h2⟩=>hf p q ⟨k,((gW p k).1 h1).1,((gH k q).1 h2).1⟩⟩
 ·intro p k hp;obtain⟨h1,h2,h3⟩:=(gW p k).1 hp;obtain⟨q,hq⟩:=Option.isSome_iff_exists.1 (hS.held p k h1);rw[(gH k q).2 ⟨hq,λe=>h3 (by rw[hq,e])⟩];rfl
 ·rw[sG hlk.nh];refine Option.ext λq=>?_;rw[gH,hH];cases getD e.holds k with
  | none=>exact⟨λh=>(by cases h.1),λh=>(by cases h)⟩
  | some b=>
   rw[IW];by_cases hb:b=who
   ·rw[C9 hb];exact⟨λh=>by cases h.1;exact absurd hb h.2,λh=>by cases h⟩
   ·rw[C3 hb];exact⟨λh=>h.1,λh=>⟨h,by cases h;exact hb⟩⟩
 ·rw[sG hlk.nw];refine Option.ext λq=>?_;rw[gW,hW];cases getD e.waits p with
  | none=>exact⟨λh=>(by cases h.1),λh=>(by cases h)⟩
  | some k=>
   rw[IW];by_cases hb:p=who
   ·rw[C9 hb];exact⟨λh=>absurd hb h.2.1,λh=>by cases h⟩
   ·rw[C3 hb];by_cases hk:getD e.holds k=some who
    ·rw[C9 hk];exact⟨λh=>by cases h.1;exact absurd ((hH k).trans hk) h.2.2,λh=>by cases h⟩
    ·rw[C3 hk];exact⟨λh=>h.1,λh=>⟨h,hb,by cases h;rw[hH];exact hk⟩⟩
theorem fu{H:HL}{W:WL}(hH:∀k,getD H (str k)=getD hs k)(hW:∀p,getD W p=(getD ws p).map str)(who:Int):∀(f:Nat) (a:Int) (b:Bool),M.ringsM hs ws who f a=some b->(b=true↔Chain H W a who)
 | 0,a,b,h=>by cases h
 | f+1,a,b,h=>by
  rw[M.ringsM] at h;by_cases ha:a=who
  ·rw[C9 ha,D8] at h;cases h;subst ha;exact⟨λ_=>.here _,λ_=>rfl⟩
  ·rw[C3 ha,C8] at h;cases hw:getD ws a with
   | none=>
    rw[hw] at h;cases h;refine⟨λe=>(by cases e),λc=>?_⟩;cases c with
    | here=>exact absurd rfl ha
    | step e _=>obtain⟨k,h1,_⟩:=e;rw[hW,hw] at h1;cases h1
   | some k=>
    rw[hw] at h;simp only at h;cases hh:getD hs k with
    | none=>rw[hh] at h;cases h
    | some q=>rw[hh] at h;have he:Edge H W a q:=⟨str k,by rw[hW,hw];rfl,by rw[hH,hh]⟩;rw[fu hH hW who f q b h];exact⟨λc=>.step he c,λc=>c.next he ha⟩
theorem xI(h:RP w O B e u rv yv ss){who:Int}{key:Bs}{r:Nat}(hq:M.tryK e who key=some (e',r)):Cl prog 130 [pv B.kb,iv who,stv key] w λo w'=>o=.tuple #[.bool (r == 0),iv (if r=2 then 181 else 0)]/\RP w' O B e' u rv yv ss/\Fm (λy=>O y=3) w w':=by
 have hlk:=h.al.lk dC;obtain⟨H,W,hT,hS,hH,hW⟩:=hlk.ex;refine(Bb hT hS who (str key)).mono ?_;rintro _ w' ⟨H',W',ok,er,rfl,hR,hT',hf⟩;have hf3:Fm (λy=>O y=3) w w':=hf.mono (λy _ e=>by rcases e with e|e<;>(rw[e];first|exact hlk.ob.2.1|exact hlk.ob.2.2));have hS':=hS.try hT.ws.keys hR
 have gW:∀p,getD (cO W who) p=(getD (cO e.waits who) p).map str:=λp=>by
  rw[cQ hT.ws.keys,cQ hlk.nw];by_cases hp:p=who
  ·rw[IY hp,IY hp];rfl
  ·rw[IT hp,IT hp];exact hW p
 have nd:((cO e.waits who).map (·.1)).Nodup:=hlk.nw.sublist ((jB _ _).map _);have inj:∀{a b:Bs},str a=str b↔a=b:=⟨br,λe=>by rw[e]⟩;have free:getD e.holds key=none\/getD e.holds key=some who->e'={ e with holds:=cM e.holds key who,waits:=cO e.waits who }/\r=0:=λhk=>by
  unfold M.tryK at hq;have:(getD e.holds key).getD who=who:=by rcases hk with hk|hk<;>rw[hk]<;>rfl
  simp only[this,Jm,D8] at hq;cases hq;exact⟨rfl,rfl⟩
 have held:∀q,getD e.holds key=some q->q≠who->∃b,M.ringsM e.holds (cO e.waits who) who 9 q=some b/\(bif b then some ({ e with waits:=cO e.waits who },2) else some ({ e with waits:=cM (cO e.waits who) who key },1))=some (e',r):=λq hk hne=>by unfold M.tryK at hq;simp only[hk,JH,C3 hne,C8] at hq;exact bind_some hq
 cases hR with
 | take hk=>
  rw[hH] at hk;obtain⟨rfl,rfl⟩:=free hk;refine⟨rfl,h.A0 ⟨⟨_,_,hT',hS',λk=>?_,gW⟩,hlk.ob,fQ hlk.nh _ _,nd⟩ hf3,hf3⟩;rw[bl,bl,hH];by_cases hk:k=key
  ·rw[IY hk,IY (inj.2 hk)]
  ·rw[IT hk,IT (λc=>hk (inj.1 c))]
 | ring q hk hne hc=>rw[hH] at hk;obtain⟨b,hb,hq⟩:=held q hk hne;rw[(fu hH gW who 9 q b hb).2 hc] at hq;cases hq;exact⟨rfl,h.A0 ⟨⟨_,_,hT',hS',hH,gW⟩,hlk.ob,hlk.nh,nd⟩ hf3,hf3⟩
 | wait q hk hne hc=>
  rw[hH] at hk;obtain⟨b,hb,hq⟩:=held q hk hne;cases b with
  | true=>exact absurd ((fu hH gW who 9 q true hb).1 rfl) hc
  | false=>
   cases hq;refine⟨rfl,h.A0 ⟨⟨_,_,hT',hS',hH,λp=>?_⟩,hlk.ob,hlk.nh,fQ nd _ _⟩ hf3,hf3⟩;rw[bl,bl,gW];by_cases hp:p=who
   ·rw[IY hp,IY hp];rfl
   ·rw[IT hp,IT hp]
end
section
variable{w w' w1 w2:World}{B:Bk}{u v rv yv:Value}{O O' O1 O2:Nat->Nat}{e e' e1:E}{ss:List (List Value)}{i:Nat}{D:Nat->Prop}
theorem iL(h:RP w O B e u rv yv ss){n:Int}(hq:M.close e i n=some e'):Cl prog 44 [pv B.x,iv i,iv n] w λo w'=>RP w' O B e' u rv yv ss/\Stp O w O w':=by
 unfold M.close at hq;obtain⟨t,ht,hq⟩:=bind_some hq;obtain⟨_,hg,hq⟩:=bind_some hq;obtain⟨e1,hr,hq⟩:=bind_some hq;cases hq;have hg:=ak hg;simp only[E0,C4] at hg;obtain⟨hg,hn1,hn2⟩:=hg;have hn:In (700*n):=by constructor<;>omega
 obtain⟨T,hT⟩:=h.al.tx dC;refine cU3 func44 ?_;simp only[RU,h.c 17 dC];refine(qb hT (λy hy=>h.lt y (by rw[hy];decide)) ht).mono ?_;rintro _ w1 ⟨x,rfl,hT1,hf1⟩;have h1:=h.A8 hT1 hf1;simp only[RU,h1.c 8 dC,af (n:=700*n) hn];refine(kl h1 hr).mono ?_;rintro _ w2 ⟨rfl,h2,hf2⟩;have hw2:e1.waits=e.waits:=by unfold M.release at hr;obtain⟨_,_,hr⟩:=bind_some hr;cases hr;rfl
 simp only[RU,h2.c 16 dC];refine(xH h2 (by rw[hw2];exact hg) i).mono ?_;rintro _ w3 ⟨h3,hf3⟩;exact⟨h3,((Stp.of (Gr.refl _ _) dC hf1).trans (Stp.of (Gr.refl _ _) dC hf2)).trans (Stp.of (Gr.refl _ _) dC hf3)⟩
theorem Dh{F:List Value}{a:Value}(Ps:Nat->World->Prop)(hl:F.length<=100)(h0:Ps 0 w)(hk:∀i w1,Ps i w1->CellsAt w1 a F.length 1 F)(hf:∀i f w1,F[i]?=some f->Ps i w1->∀k:KV,(∀w2,Ps (i+1) w2->k (iv 0) w2)->ClV prog f [] w1 k):Cl prog 60 [a] w λo w'=>o=iv 0/\Ps F.length w':=by
 refine cU1 func60 ?_ (V [(2,[8])]);simp only[RU,(hk 0 w h0).lenV];refine⟨λvs w2=>∃i:Nat,vs=[iv i]/\i<=F.length/\Ps i w2,λvs _=>(F.length - nth vs 0).toNat,⟨0,rfl,Jd _,h0⟩,?_⟩;rintro w2 t ⟨i,hvs,hi,hP⟩;cases hvs;by_cases hlt:i<F.length
 ·have hx:F[i]?=some F[i]:=C6 hlt;obtain⟨ad,i1,_,i3⟩:=(hk i w2 hP).iS hx .i64;simp only[RU,C9 (oM:(i:Int)<(F.length:Int)),i1,i3];refine hf i _ w2 hx hP _ λw3 hP'=>?_;simp only[RU,show((0:Int) != 0)=false from rfl,show IntKind.i64.wrap ((i:Int)+1)=((i+1:Nat):Int) by rw[af]<;>omega];exact⟨⟨i+1,rfl,hlt,hP'⟩,by simp only[ba];omega⟩
 ·obtain rfl:i=F.length:=oM;simp only[RU,C3 (oM:¬((F.length:Nat):Int)<(F.length:Int))];exact hP
theorem GG(x y z:Nat)(w:World):(Instr.buildSlice 245 2 #[(0,.func (.func 185) #[] #[pv x,pv y]),(1,.func (.func 187) #[pv z] #[])]).run prog w=.ok (.slice (some ⟨w.heap.size,0,none⟩) 2 2) (w.alloc (.cells #[.func (.func 185) #[] #[pv x,pv y],.func (.func 187) #[pv z] #[]] 126)):=kR
theorem ud(h:RP w O B e u rv yv ss){n:Int}(hq:M.flush e n=some e'):Cl prog 95 [pv B.x,iv n] w λo w'=>o=iv 0/\RP w' O B e' u rv yv ss/\Stp O w O w':=by
 unfold M.flush at hq;refine cU2 func95 ?_;refine ae ?_;rintro b1 w1 rfl hs1 hw1 hf1;refine ae ?_;rintro b2 w2 rfl hs2 hw2 hf2
 replace hw1:w1.heap[w.heap.size]?=some (.cells #[pv B.x] 38):=hw1
 have hd:=Fm.drew F0 w2;have hF:=Fmf (Fmf hf1 hf2) hd;have hwd1:=(Fmf hf2 hd).heap hw1 id;have hwd2:=hd.heap hw2 id;have h2:=h.aS hF;have c1:=ab (off:=0) hwd1;have c2:=ab (off:=0) hwd2;rw[bE] at c1;refine⟨λwx=>Fm F0 w2.drew wx,Fm.refl _ _,iv n,λwx hx=>?_,?_⟩
 ·simp only[RU,ab (hx.heap hwd2 id),H7]
 simp only[RU,c1,h2.c 8 dC];refine(rL h2.sys).mono ?_;rintro _ w3 ⟨rfl,hf3⟩;refine⟨hf3,?_⟩;have h3:=h2.aS hf3;have hw3:=hf3.heap hwd1 id;have hw3':=hf3.heap hwd2 id;have s3:Stp O w O w3:=Stp.gE (Fmf hF hf3);by_cases hlt:n<(e.s.l.last:Int)
 ·rw[C9 hlt,D8] at hq;cases hq;simp only[RU,C9 hlt];exact⟨h3,s3⟩
 ·rw[C3 hlt,C8] at hq;obtain⟨_,hg,hq⟩:=bind_some hq;have hg:=F9 (ak hg);cases hq;simp only[RU,C3 hlt,ab hw3];refine ag (GG _ _ _ _) ?_;have hfa:=Fm.alloc F0 w3 (.cells #[.func (.func 185) #[] #[pv w.heap.size,pv w1.heap.size],.func (.func 187) #[pv B.x] #[]] 126);have hwa:=ay w3 (.cells #[.func (.func 185) #[] #[pv w.heap.size,pv w1.heap.size],.func (.func 187) #[pv B.x] #[]] 126);have ha:=h3.aS hfa;have hcs:CellsAt (w3.alloc (.cells #[.func (.func 185) #[] #[pv w.heap.size,pv w1.heap.size],.func (.func 187) #[pv B.x] #[]] 126)) (.slice (some ⟨w3.heap.size,0,none⟩) 2 2) 2 1 [.func (.func 185) #[] #[pv w.heap.size,pv w1.heap.size],.func (.func 187) #[pv B.x] #[]]:=CellsAt.aT (cY (w:=w3) (e:=126) (sz:=1) (n:=2) (l:=[.func (.func 185) #[] #[pv w.heap.size,pv w1.heap.size],.func (.func 187) #[pv B.x] #[]]) rfl (D9 _) dC);have sa:Stp O w O _:=s3.trans (Stp.gE hfa);have hwa1:=hfa.heap hw3 id;have hwa2:=hfa.heap hw3' id;generalize w3.alloc (.cells #[.func (.func 185) #[] #[pv w.heap.size,pv w1.heap.size],.func (.func 187) #[pv B.x] #[]] 126)=wa at hfa hwa ha sa hwa1 hwa2 hcs ⊢;have l3:=(Fmf hF hf3).size;have l1:=hf1.size;have q99:∀y,w.heap.size<=y->O y≠1:=λy hy=>by rw[h.free hy];decide
  have K:∀wx,Fm (λy=>O y=1) wa wx->wx.heap[w.heap.size]?=some (.cells #[pv B.x] 38)/\wx.heap[w1.heap.size]?=some (.cells #[iv n] 3)/\Stp O w O wx:=λwx hx=>⟨hx.heap hwa1 (q99 _ (D9 _)),hx.heap hwa2 (q99 _ oM),sa.trans (Stp.of (Gr.refl _ _) dC hx)⟩;refine(Dh (F:=[.func (.func 185) #[] #[pv w.heap.size,pv w1.heap.size],.func (.func 187) #[pv B.x] #[]]) (λi wx=>Fm (λy=>O y=1) wa wx/\match i with
   | 0=>RP wx O B e u rv yv ss
   | 1=>RP wx O B { e with s:=⟨e.s.p,(e.s.l.flush n e.s.d).1,(e.s.l.flush n e.s.d).2.1⟩ } u rv yv ss
   | _=>RP wx O B { e with s:=⟨e.s.p.synced,(e.s.l.flush n e.s.d).1,(e.s.l.flush n e.s.d).2.1⟩ } u rv yv ss) (dC:2<=100) ⟨Fm.refl _ _,ha⟩ (λi wx hx=>hcs.keep hx.1 (λy hy=>by cases hy;exact q99 _ oM)) ?_).mono ?_
  ·rintro i f wx hi ⟨hx,hR⟩ k hk
   match i,hi with
   | 0,hi=>
    cases hi
    replace hR:RP wx O B e u rv yv ss:=hR
    refine ax kR ?_;obtain⟨x1,x2,x3⟩:=K wx hx;have hdx:=Fm.drew F0 wx;refine cU2 func185 ?_;simp only[RU,ab x1,ab x2,hR.c 8 dC];refine(yW (hR.aS hdx).sys n).mono ?_;rintro _ wy ⟨rfl,hs,hy⟩;rw[hg];exact hk _ ⟨(hx.trans hdx iT iE).trans hy iT iT,((hR.aS hdx).oP hs hy).1⟩
   | 1,hi=>
    cases hi
    replace hR:RP wx O B { e with s:=⟨e.s.p,(e.s.l.flush n e.s.d).1,(e.s.l.flush n e.s.d).2.1⟩ } u rv yv ss:=hR
    refine ax kR ?_;refine cU1 func187 ?_;simp only[RU,hR.c 9 dC];refine(mJ hR.sys).mono ?_;rintro _ wy ⟨hs,hy⟩;exact hk _ ⟨hx.trans hy iT iT,(hR.oP hs hy).1⟩
  ·rintro _ wx ⟨rfl,hx,hR⟩;exact⟨rfl,hR,(K wx hx).2.2⟩
end
section
variable{w w' w1 w2:World}{B:Bk}{u v rv yv:Value}{O O' O1 O2:Nat->Nat}{e e' e1:E}{ss:List (List Value)}{i:Nat}{D:Nat->Prop}{t:Tx}{s:Seat}
abbrev txV(t:Tx)(a:Value):Array Value:=#[iv t.next,a,iv t.xid,iv t.first,iv t.last,iv t.undoes]
theorem Hl(h:RP w O B e u rv yv ss){who:Int}(ht:getD e.txns who=some t){kk:Value->Value->World->Prop}{C:World->Prop}{zs:Array Value}(hC:∀w1,Fm F0 w w1->C w1)(K:∀w3 b a,w3.heap[b]?=some (.cells (txV t a) 107)->Fm F0 w w3->w.heap.size<=b->kk (pv b) (.bool true) w3)(hz:zs.size=6:=by rfl):(Cl prog 29 [pv B.tb,iv who] w λv w2=>Pu (bj v 0) λa=>Pu (bj v 1) λc=>New zs 107 w2 λp w3=>St 6 w3 p a λ_ w4=>kk p c w4)/\(New zs 107 w λp w1=>C w1/\Cl prog 29 [pv B.tb,iv who] w1 λv w2=>Pu (bj v 0) λa=>Pu (bj v 1) λc=>St 6 w2 p a λ_ w3=>kk p c w3)/\True:=by
 refine two (Y:=F0) (λ_ _ us uu=>∃a,us=txV t a/\uu=.bool true) (λw1 hf1=>?_) hC (λ_ e=>e.elim) (λ_ _ _ _ _ _ h _=>h) ?_ hz
 ·obtain⟨T,hT⟩:=h.al.tx dC;refine(ly (hT.keep hf1 iT) ht).mono ?_;rintro _ w2 ⟨a,rfl,_,ha,_,hf2⟩;exact⟨_,_,rfl,rfl,by simp[ha];exact⟨rfl,rfl,rfl,rfl,rfl⟩,⟨a,rfl,rfl⟩,hf2⟩
 ·rintro base w3 b us uu _ hb _ hw3 ⟨a,rfl,rfl⟩ hf;exact K w3 b a hw3 hf hb
theorem RP.who(h:RP w O B e u rv yv ss)(hi:e.seats[i]?=some s):w.cell? ⟨B.x,23+i*25,none⟩=some (iv i):=by obtain⟨h8,rr,pl,k1,k2,k3,k4,kc⟩:=h.cW hi;exact kc 0 dC
theorem txj(h:RP w O B e u rv yv ss)(hi:e.seats[i]?=some s)(ht:getD e.txns (i:Int)=some t){kk:Value->Value->World->Prop}{zs:Array Value}(K:∀w3 b a,w3.heap[b]?=some (.cells (txV t a) 107)->Fm F0 w w3->w.heap.size<=b->kk (pv b) (.bool true) w3)(hz:zs.size=6:=by rfl):∃C:World->Prop,C w.drew/\∃v,(∀w1,C w1->Pu (w1.cell? ⟨B.x,17,none⟩) λu=>u=v/\True)/\∃v1,(∀w1,C w1->Pu (w1.cell? ⟨B.x,23+i*25,none⟩) λu=>u=v1/\True)/\((Cl prog 29 [v,v1] w.drew λv w2=>Pu (bj v 0) λa=>Pu (bj v 1) λc=>New zs 107 w2 λp w3=>St 6 w3 p a λ_ w4=>kk p c w4)/\(New zs 107 w.drew λp w1=>C w1/\Cl prog 29 [v,v1] w1 λv w2=>Pu (bj v 0) λa=>Pu (bj v 1) λc=>St 6 w2 p a λ_ w3=>kk p c w3)/\True):=by
 have hd:=Fm.drew F0 w;refine⟨λwx=>Fm F0 w.drew wx,Fm.refl _ _,pv B.tb,λwx hx=>?_,iv i,λwx hx=>?_,Hl (h.aS hd) ht (λ_ h=>h) (λw3 b a h1 h2 h3=>K w3 b a h1 (Fmf hd h2) (F8 hd.size h3)) hz⟩
 ·simp only[RU,((h.aS hd).aS hx).c 17 dC,H7]
 ·simp only[RU,((h.aS hd).aS hx).who hi,H7]
theorem RP.seat_set(h:RP w O B e u rv yv ss)(hi:e.seats[i]?=some s)(s':Seat):({ e with seats:=e.seats.set i s' }:E).seats[i]?=some s':=by show(e.seats.set i s')[i]?=some s';rw[JB (by rw[h.sl];exact(h.cW hi).1)]
theorem RP.at_(h:RP w O B e u rv yv ss)(hi:e.seats[i]?=some s):M.seatAt e i=s:=by have:=h.eQ (h.cW hi).1;rw[hi] at this;exact(I6 this).symm
theorem jY(h:RP w O B e u rv yv ss)(hi:e.seats[i]?=some s)(hq:M.commit e i=some e'):Cl prog 45 [pv B.x,sp B i] w λo w'=>o=iv 0/\Ex O w B e' w':=by
 unfold M.commit at hq;obtain⟨t,ht,hq⟩:=bind_some hq;rw[h.at_ hi] at hq;refine cU2 func45 ?_ (V []) (J [(2,[5])]);have hd:=Fm.drew F0 w;have h1:=h.aS hd;refine aJ (λvs w2=>∃b2 a,vs=[pv b2]/\w2.heap[b2]?=some (.cells (txV t a) 107)/\Fm F0 w w2/\w.heap.size<=b2) ?_ ?_
 ·rintro _ w2 ⟨b2,a,rfl,hb2,hf2,hl2⟩;have h2:=h.aS hf2;simp only[RU,h2.c 8 dC];refine(nT h2.sys).mono ?_;rintro _ w3 ⟨rfl,hf3⟩;refine(h2.aS hf3).seat1 (s':={ s with end_:=(e.s.l.tail:Int) }) hi dC rfl (λ_ _=>rfl) rfl rfl λw4 ss4 h4 hf4=>?_;refine h4.seat1 (s':={ s with end_:=(e.s.l.tail:Int),wk:=.settle }) (h2.seat_set hi _) dC rfl (λ_ _=>rfl) rfl rfl λw5 ss5 h5 hf5=>?_;have hx:=(h.al.x dC).lt;have hw5:=hf5.heap (hf4.heap (hf3.heap hb2 id) oM) oM;have hd:=Fm.drew F0 w5;have fx:∀{a b:World},Fm (·=B.x) a b->Stp O a O b:=λf=>⟨Gr.refl _ _,f.mono (λy _ e=>by rw[e,h.x0];decide)⟩;have S5:Stp O w O w5.drew:=(((Stp.gE (Fmf hf2 hf3)).trans (fx hf4)).trans (fx hf5)).trans (Stp.gE hd);simp only[RU,ab hw5,h5.who (h4.seat_set (h2.seat_set hi _) _)];refine bst (rcs { M.rec0 with kind:=7,xid:=t.xid } nl nl nl nl nl) ⟨rfl,?_⟩;have h6:=h5.aS hd;rw[JZ] at h6;refine(lC h6 (.inl ⟨rfl,rfl⟩) hq).mono ?_;rintro _ w6 ⟨rfl,O',u',h7,s7⟩;exact⟨rfl,O',u',_,_,_,h7,S5.trans s7⟩
 ·intro kk hkk;exact txj h hi ht (λw3 b a h1 h2 h3=>hkk _ _ ⟨b,a,rfl,h1,h2,h3⟩)
theorem rG(h:RP w O B e u rv yv ss)(hi:e.seats[i]?=some s)(hq:M.settle e i=some e'):Cl prog 117 [pv B.x,sp B i] w λo w'=>o=iv 0/\Ex O w B e' w':=by
 unfold M.settle at hq;obtain⟨e1,hfl,hq⟩:=bind_some hq;obtain⟨t,ht,hq⟩:=bind_some hq;obtain⟨e2,hcl,hq⟩:=bind_some hq;cases hq;rw[h.at_ hi] at hfl;obtain⟨h8,rr,pl,k1,k2,k3,k4,kc⟩:=h.cW hi;have c15:=kc 15 dC;refine cU2 func117 ?_ (V []) (J [(5,[6])]);simp only[RU,c15];refine(ud h hfl).mono ?_;rintro _ w1 ⟨rfl,h1,s1⟩;have hse:e1.seats=e.seats:=by
  unfold M.flush at hfl;cases hc:decide (s.end_<(e.s.l.last:Int)) with
  | true=>rw[hc] at hfl;cases hfl;rfl
  | false=>rw[hc] at hfl;obtain⟨_,_,hfl⟩:=bind_some hfl;cases hfl;rfl
 have hi1:e1.seats[i]?=some s:=by rw[hse];exact hi
 simp only[RU,show((0:Int) != 0)=false from rfl];refine aJ (λvs w2=>∃b2 a,vs=[pv b2]/\w2.heap[b2]?=some (.cells (txV t a) 107)/\Fm F0 w1 w2) ?_ ?_
 ·rintro _ w2 ⟨b2,a,rfl,hb2,hf2⟩;have hd:=Fm.drew F0 w2;have h2:=(h1.aS hf2).aS hd;simp only[RU,(h1.aS hf2).who hi1,ab hb2];refine(iL h2 hcl).mono ?_;rintro _ w3 ⟨h3,s3⟩;refine bst (rpC M.rp0 nl) ?_;refine(iw h3 h8 (r:=M.rp0) (CellsAt.aT (World.ownsRow_nil w3 0 23 2)) (λy hy=>by cases hy)).mono ?_;rintro _ w4 ⟨rfl,O4,ss4,h4,g4,f4⟩;exact⟨rfl,O4,_,_,_,_,h4,(((s1.trans (Stp.gE (Fmf hf2 hd))).trans s3).trans ⟨g4.mono (λy e=>e.elim id (λe=>by cases e)),f4.mono (λy _ e=>by rw[e,h3.x0];decide)⟩)⟩
 ·intro kk hkk;exact txj h1 hi1 ht (λw3 b a h1 h2 h3=>hkk _ _ ⟨b,a,rfl,h1,h2⟩)
theorem AU{α:Type}{l:List α}{x:α}(h:l[i]?=some x):l.set i x=l:=by
 refine JI λj=>?_;by_cases e:i=j
 ·subst e;rw[JB (E2.1 h).1,h]
 ·rw[JY e]
theorem vM{r un:Rc}(h:M.back r=some un):un.imgs=[]:=by unfold M.back at h;split at h<;>first|cases h;rfl|cases h
theorem pO(h:RP w O B e u rv yv ss)(hi:e.seats[i]?=some s)(hq:M.roll e i=some e'):Cl prog 46 [pv B.x,sp B i] w λo w'=>o=iv 0/\Ex O w B e' w':=by
 unfold M.roll at hq;obtain⟨t,ht,hq⟩:=bind_some hq;obtain⟨⟨a0,c0⟩,hch,hq⟩:=bind_some hq;rw[h.at_ hi] at hch hq;have h8:=(h.cW hi).1;refine cU2 func46 ?_ (V [(2,[])]) (J [(2,[5]),(4,[7,8]),(16,[])]);refine aJ (λvs w2=>∃b2 a,vs=[pv b2]/\w2.heap[b2]?=some (.cells (txV t a) 107)/\Fm F0 w w2/\w.heap.size<=b2) ?_ ?_
 ·rintro _ w2 ⟨b2,a,rfl,hb2,hf2,hl2⟩;have h2:=h.aS hf2;let E (z:Int):E:={ e with seats:=e.seats.set i { s with next:=z } };simp only[RU];refine⟨λvs w3=>vs=[]/\∃f z,M.chain e f z=some (a0,c0)/\w3.heap[b2]?=some (.cells (txV t a) 107)/\Stp O w O w3/\∃ss3,RP w3 O B (E z) u rv yv ss3,λvs w3=>match w3.cell? ⟨B.x,23+i*25+14,none⟩ with
   | some (.int _ z)=>z.toNat
   | _=>0,⟨rfl,100,s.next,hch,hb2,Stp.gE hf2,ss,?_⟩,?_⟩
  ·rw[show E s.next=e by show({ e with seats:=_ }:M.E)=e;rw[show({ s with next:=s.next }:Seat)=s from rfl,AU hi]];exact h2
  rintro w3 ⟨_,f,z,hc,hb3,s3,ss3,h3⟩;have hi3:(E z).seats[i]?=some { s with next:=z }:=h.seat_set hi _;obtain⟨_,rr,pl,k1,k2,k3,k4,kc⟩:=h3.cW hi3;have c14:w3.cell? ⟨B.x,23+i*25+14,none⟩=some (iv z):=kc 14 dC;simp only[RU,c14]
  match f,hc with
  | f+1,hc=>
  rw[M.chain] at hc;have hlx:=(h.al.x dC).lt;have fx:∀{a b:World},Fm (·=B.x) a b->Stp O a O b:=λf=>⟨Gr.refl _ _,f.mono (λy _ e=>by rw[e,h.x0];decide)⟩;by_cases hz:z<=0
  ·rw[C9 hz,D8] at hc;simp only[RU,C3 (oM:¬0<z)];cases hc;obtain⟨e1,hw1,hq⟩:=bind_some hq;obtain⟨e2,hcl,hq⟩:=bind_some hq;cases hq;refine aJ (λvs w4=>vs=[]/\∃O4 u4 ss4,RP w4 O4 B e1 u4 rv yv ss4/\Stp O w O4 w4) ?_ ?_
   ·rintro _ w4 ⟨rfl,O4,u4,ss4,h4,s4⟩;simp only[RU,h4.who (h4.eQ h8)];refine(iL h4 (n:=0) hcl).mono ?_;rintro _ w5 ⟨h5,s5⟩;obtain⟨_,rr5,pl5,_,_,_,_,kc5⟩:=h5.cW (h5.eQ h8);have c13:w5.cell? ⟨B.x,23+i*25+13,none⟩=some (iv (M.seatAt e2 i).why):=kc5 13 dC;simp only[RU,c13];refine(xg h5 h8 _).mono ?_;rintro _ w6 ⟨rfl,O6,ss6,h6,g6,f6⟩;exact⟨rfl,O6,_,_,_,_,h6,(s4.trans s5).trans ⟨g6,f6.mono (λy _ e=>by rw[e,h5.x0];decide)⟩⟩
   ·intro kk hkk;simp only[RU,ab hb3];by_cases hl:t.last=0
    ·rw[C9 hl,D8] at hw1;simp only[RU,show(t.last == 0)=true from J2.2 hl,h3.c 8 dC];refine(kl h3 hw1).mono ?_;rintro _ w4 ⟨rfl,h4,f4⟩;exact hkk _ _ ⟨rfl,O,u,_,h4,s3.trans (Stp.of (Gr.refl _ _) dC f4)⟩
    ·rw[C3 hl,C8] at hw1;have hd:=Fm.drew F0 w3;simp only[RU,show(t.last == 0)=false from Je.2 hl,h3.who hi3];refine bst (rcs { M.rec0 with kind:=8,xid:=t.xid } nl nl nl nl nl) ⟨rfl,?_⟩;refine(lC (h3.aS hd) (.inl ⟨rfl,rfl⟩) hw1).mono ?_;rintro _ w4 ⟨rfl,O4,u4,h4,s4⟩;simp only[RU,show((0:Int) != 0)=false from rfl];exact hkk _ _ ⟨rfl,O4,u4,_,h4,(s3.trans (Stp.gE hd)).trans s4⟩
  ·rw[C3 hz,C8] at hc;obtain⟨r,hr,hc⟩:=bind_some hc;have hd:=Fm.drew F0 w3;simp only[RU,C9 (oM:0<z)];refine aJ (λvs w4=>∃b4 vs' vm vi vp vt,vs=[pv b4,iv 0]/\w4.heap[b4]?=some (.cells (rcs r vs' vm vi vp vt) 168)/\Fm F0 w3 w4/\w.heap.size<=b4) ?_ ?_
   ·rintro _ w4 ⟨b4,vs',vm,vi,vp,vt,rfl,hb4,hf4,hl4⟩;have h4:=h3.aS hf4;simp only[RU,show((0:Int) != 0)=false from rfl,aa (n:=16) hb4 rfl];refine back_spec.mono ?_;rintro _ w5 ⟨rfl,hf5⟩;simp only[RU];refine aD (us:=rcs ((M.back r).getD M.rec0) nl nl nl nl nl) (λw6 hs6 hw6 hf6=>?_) rfl rfl rfl;have h6:=(h4.aS hf5).aS hf6;have s6:Stp O w O w6:=s3.trans (Stp.gE (Fmf (Fmf hf4 hf5) hf6));have hb6:=(Fmf (Fmf hf4 hf5) hf6).heap hb3 id;have l5:w.heap.size<=w5.heap.size:=F8 s3.f.size (Fmf hf4 hf5).size;cases hbk:M.back r with
    | some un=>
     rw[hbk] at hc hw6;cases hc
     replace hw6:RB w6 w5.heap.size un nl nl nl nl nl:=⟨hw6⟩
     simp only[RU,show((bif true then(0:Int) else 160) == 0)=true from rfl,hw6.c2];refine h6.seat1 (j:=14) (s':={ s with next:=un.next }) hi3 dC rfl (λ_ _=>rfl) rfl rfl λw7 ss7 h7 hf7=>?_;rw[show({ (E a0) with seats:=(E a0).seats.set i { s with next:=un.next } }:M.E)=E un.next by show({ e with seats:=_ }:M.E)=_;rw[JZ]] at h7;refine au (hf7.heap hw6.h oM) (j:=8) (dC:8<16) rfl λw8 hw8 hs8 hf8=>?_
     replace hw8:w8.heap[w5.heap.size]?=some (.cells (rcs { un with new:=0 } nl nl nl nl nl) 168):=hw8
     have h8':=h7.iD (h.free l5) hf8;have hd8:=Fm.drew F0 w8;simp only[RU,h8'.who (h.seat_set hi _),aa (n:=16) (hd8.heap hw8 id) rfl]
     replace hq:M.wr (E un.next) i { un with new:=0 } 700=some e':=hq
     refine(lC (r:={ un with new:=0 }) (h8'.aS hd8) (.inl ⟨(vM hbk:un.imgs=[]),rfl⟩) hq).mono ?_;rintro _ w9 ⟨rfl,O9,u9,h9,s9⟩;exact⟨rfl,O9,u9,_,_,_,h9,((((s6.trans (fx hf7)).loc hf8 l5).trans (Stp.gE hd8)).trans s9)⟩
    | none=>rw[hbk] at hc;obtain⟨_,hg,hc⟩:=bind_some hc;have hg:=F9 (ak hg);have hr6:RB w6 b4 r vs' vm vi vp vt:=⟨(Fmf hf5 hf6).heap hb4 id⟩;simp only[RU,show((bif false then(0:Int) else 160) == 0)=false from rfl,hr6.c1];refine h6.seat1 (j:=14) (s':={ s with next:=r.prev }) hi3 dC rfl (λ_ _=>rfl) rfl rfl λw7 ss7 h7 hf7=>?_;rw[show({ (E z) with seats:=(E z).seats.set i { s with next:=r.prev } }:M.E)=E r.prev by show({ e with seats:=_ }:M.E)=_;rw[JZ]] at h7;obtain⟨_,_,_,_,_,_,_,kc7⟩:=h7.cW (h.seat_set hi _);have c14':w7.cell? ⟨B.x,23+i*25+14,none⟩=some (iv r.prev):=kc7 14 dC;rw[c14'];exact⟨⟨f,r.prev,hc,hf7.heap hb6 oM,s6.trans (fx hf7),ss7,h7⟩,by show r.prev.toNat<z.toNat;omega⟩
   ·intro kk hkk;refine⟨λwx=>Fm F0 w3.drew wx,Fm.refl _ _,pv B.lb,λwx hx=>?_,iv z,λwx hx=>?_,?_⟩
    ·simp only[RU,((h3.aS hd).aS hx).c 8 dC,H7]
    ·obtain⟨_,_,_,_,_,_,_,kcx⟩:=((h3.aS hd).aS hx).cW hi3;have cx:wx.cell? ⟨B.x,23+i*25+14,none⟩=some (iv z):=kcx 14 dC;simp only[RU,cx,H7]
    ·refine two (Y:=F0) (n:=16) (λ_ _ us uu=>uu=iv 0/\∃vs' vm vi vp vt,us=rcs r vs' vm vi vp vt) (λw5 hf5=>?_) (λ_ h=>h) (λ_ e=>e.elim) (λ_ _ _ _ _ _ h _=>h) ?_
     ·refine(Dv ((h3.aS hd).aS hf5).sys z hr).mono ?_;rintro _ w6 ⟨cs,rfl,hcs,hf6⟩;obtain⟨vs',vm,vi,vp,vt,e1,_⟩:=hcs.ex;exact⟨cs,_,rfl,hcs.size,G8.2 hcs.one,⟨rfl,vs',vm,vi,vp,vt,e1⟩,hf6⟩
     ·rintro base w5 b5 us uu _ hb _ hw5 ⟨rfl,vs',vm,vi,vp,vt,rfl⟩ hf5;exact hkk _ _ ⟨b5,vs',vm,vi,vp,vt,rfl,hw5,Fmf hd hf5,F8 (s3.trans (Stp.gE hd)).f.size hb⟩
 ·intro kk hkk;exact txj h hi ht (λw3 b a h1 h2 h3=>hkk _ _ ⟨b,a,rfl,h1,h2,h3⟩)
end
theorem Fy{g1 g:FuncId}{args1:List Value}{argsf:Value->List Value}{w:World}{zs:Array Value}{t:TypeId}{C:World->Prop}{Y:Nat->Prop}{n:Nat}{kk:Value->Value->World->Prop}(V:Value->World->Prop)(S:Nat->World->Array Value->Value->Prop)
  (h1:∀w1,Fm F0 w w1->Cl prog g1 args1 w1 λo w2=>V o w2/\Fm F0 w1 w2)
  (hV:∀m w1 w2,V m w1->Fm F0 w1 w2->V m w2)
  (H:∀m w1,Fm F0 w w1->V m w1->Cl prog g (argsf m) w1 λo w2=>∃us u,o=.tuple #[.agg us,u]/\us.size=n/\us.toList.all Value.oneCell'=true/\S w1.heap.size w2 us u/\Fm Y w1 w2)
  (hC:∀w1,Fm F0 w w1->C w1) (hY:∀y,Y y->y<w.heap.size)
  (hS:∀base w2 w3 us u,w.heap.size<=base->S base w2 us u->Fm (λy=>w.heap.size<=y/\y<base) w2 w3->S base w3 us u)
  (K:∀base w3 b us u,w.heap.size<=base->w.heap.size<=b->us.size=n->w3.heap[b]?=some (.cells us t)->S base w3 us u->Fm Y w w3->kk (pv b) u w3) (hz:zs.size=n:=by rfl):
  (Cl prog g1 args1 w λm w0=>C w0/\((Cl prog g (argsf m) w0 λv w2=>Pu (bj v 0) λa=>Pu (bj v 1) λc=>New zs t w2 λp w3=>St n w3 p a λ_ w4=>kk p c w4)/\(New zs t w0 λp w1=>C w1/\Cl prog g (argsf m) w1 λv w2=>Pu (bj v 0) λa=>Pu (bj v 1) λc=>St n w2 p a λ_ w3=>kk p c w3)/\True)) /\
  (New zs t w λp w1=>C w1/\Cl prog g1 args1 w1 λm w0=>C w0/\Cl prog g (argsf m) w0 λv w2=>Pu (bj v 0) λa=>Pu (bj v 1) λc=>St n w2 p a λ_ w3=>kk p c w3)/\True:=by
 refine⟨(h1 w (Fm.refl _ _)).mono ?_,?_,trivial⟩
 ·rintro m w0 ⟨hm,hf0⟩;exact⟨hC _ hf0,two S (λw1 hf1=>H m w1 (Fmf hf0 hf1) (hV m _ _ hm hf1)) (λw1 hf1=>hC w1 (Fmf hf0 hf1)) (λy hy=>E3 (hY y hy) hf0.size) (λbase w2 w3 us u hb hs hf=>hS base w2 w3 us u (F8 hf0.size hb) hs (hf.mono λy _ e=>⟨F8 hf0.size e.1,e.2⟩)) (λbase w3 b us u hb hb2 hn hw3 hs hf=>K base w3 b us u (F8 hf0.size hb) (F8 hf0.size hb2) hn hw3 hs (hf0.trans hf (λ_ _ e=>e.elim) (λ_ _ e=>e))) hz⟩
 ·refine ae ?_;rintro b w1 rfl hs1 hw1 hf1;refine⟨hC w1 hf1,(h1 w1 hf1).mono ?_⟩;rintro m w0 ⟨hm,hf0⟩;have hf10:=Fmf hf1 hf0;refine⟨hC _ hf10,(H m w0 hf10 hm).mono ?_⟩;rintro _ w2 ⟨us,u,rfl,hn,h1,hs,hf⟩;simp only[RU];have l0:=hf0.size;refine ao (hf.heap (hf0.heap hw1 (λe=>e)) (λe=>by have:=hY _ e;omega)) (λw3 hw3 hs3 hf3=>?_) hn hz h1;exact K w0.heap.size w3 _ us u oM (D9 _) hn hw3 (hS _ _ _ _ _ oM hs (hf3.mono (λy _ e=>by rw[e];omega))) ((hf10.trans hf (λ_ _ e=>e.elim) (λ_ _ e=>e)).trans hf3 (λ_ _ e=>e) (λy hy e=>oM))
section
variable{w w' w1 w2:World}{B:Bk}{u v rv yv:Value}{O O' O1 O2:Nat->Nat}{e e' e1:E}{ss:List (List Value)}{i:Nat}{D:Nat->Prop}{t:Tx}{s:Seat}{p q:Pn}
theorem PlX.oF{n b:Nat}{S:Nat->Prop}(h:PlX w D n b q)(hf:Fm S w w')(hS:∀y,S y->¬D y/\(y<n\/w.heap.size<=y)):PlX w' D n b q:=by
 obtain⟨D',rv,lv,rr,h1,h2⟩:=h;refine⟨D',rv,lv,rr,h1.keep hf (λy hy hs=>?_),λy hy=>(h2 y hy).imp id λe=>⟨e.1,E3 e.2 hf.size⟩⟩;obtain⟨a,b⟩:=hS y hs;rcases h2 y hy with e|e
 ·exact a e
 ·omega
theorem uD{V:M.Vw}{b:Pg}{x:Pn×Option Rc}(hq:M.pageP V p b=some x):M.smP b=true/\(p.item=[]\/∃L q,M.opened b=some L/\M.entOk p.ent=true/\p.item.length<=1000000/\M.blay b p.item=some q):=by
 unfold M.pageP at hq;cases hc:(M.smP b&&(decide (p.stg=362)||p.item.isEmpty)) with
 | false=>rw[hc] at hq;cases hq
 | true=>
  rw[hc] at hq;simp only[E0,JU,C4,KJ] at hc;refine⟨hc.1,?_⟩;rcases hc.2 with e|e
  ·rw[e] at hq;obtain⟨y,hy,_⟩:=E6.1 (show(M.enter p b).map _=some x from hq);unfold M.enter at hy;obtain⟨_,hg,hy⟩:=bind_some hy;obtain⟨q,hb,_⟩:=bind_some hy;have hg:=ak hg;simp only[E0,C4] at hg;have hb0:=hb;unfold M.blay at hb;obtain⟨_,_,hb⟩:=bind_some hb;obtain⟨L,hL,_⟩:=bind_some hb;exact .inr ⟨L,q,hL,hg.1.1,oM,hb0⟩
  ·exact .inl e
theorem uC{V:M.Vw}{b:Pg}{r:Rc}(hq:M.pageP V p b=some (q,some r)):r.imgs=[]:=by
 unfold M.pageP at hq;cases hc:(M.smP b&&(decide (p.stg=362)||p.item.isEmpty)) with
 | false=>rw[hc] at hq;cases hq
 | true=>
  rw[hc] at hq;simp only[JE,C8] at hq;split at hq
  ·obtain⟨_,_,e⟩:=E6.1 hq;cases e
  ·obtain⟨_,_,e⟩:=E6.1 hq;cases e
  ·obtain⟨y,hy,e⟩:=E6.1 hq;cases e;unfold M.finish at hy;obtain⟨_,_,hy⟩:=bind_some hy;obtain⟨_,_,hy⟩:=bind_some hy;obtain⟨_,_,hy⟩:=bind_some hy;obtain⟨_,_,hy⟩:=bind_some hy;obtain⟨_,_,hy⟩:=bind_some hy;obtain⟨_,_,hy⟩:=bind_some hy;cases hy;rfl
  ·obtain⟨y,hy,e⟩:=E6.1 hq;cases e;unfold M.layP at hy;obtain⟨_,_,hy⟩:=bind_some hy;obtain⟨_,_,hy⟩:=bind_some hy;obtain⟨_,_,hy⟩:=bind_some hy;obtain⟨_,_,hy⟩:=bind_some hy;cases hy;rfl
  ·obtain⟨y,hy,e⟩:=E6.1 hq;cases e;unfold M.enter at hy;obtain⟨_,_,hy⟩:=bind_some hy;obtain⟨_,_,hy⟩:=bind_some hy;cases hy;rfl
  ·cases hq
theorem HeldP.blk{P:Nat->Prop}{pg:Pg}{y:Nat}(h:HeldP w P v pg)(hi:pg.items≠[])(hb:blockOf v=some y):P y:=by
 apply G5;intro hn;have hw:Fm (λy=>¬P y) w { w with heap:=w.heap.setIfInBounds y (.cells #[] 0) }:=⟨rfl,rfl,rfl,sI,λb hb hs=>by have:y≠b:=λe=>hs (e▸hn);show(w.heap.setIfInBounds y _)[b]?=_;rw[J3 this]⟩;obtain⟨u',e1,_,hc⟩:=(h _ hw).ex;rw[<- iY e1] at hc;obtain⟨x,l,hl⟩:=List.exists_cons_of_ne_nil hi;obtain⟨ad,_,h2,h3⟩:=hc.iS (i:=0) (x:=stv x) (by rw[hl];rfl) .i64;have hlt:=hc.blt (by rw[hl];simp) y hb;rw[hb] at h2;have e2:y=ad.block:=I6 h2;unfold World.cell? at h3;rw[<- e2] at h3;have hlt':y<w.heap.size:=by simpa using hlt
 rw[show({ w with heap:=w.heap.setIfInBounds y (.cells #[] 0) }:World).heap[y]?=some (.cells #[] 0) by show(w.heap.setIfInBounds y _)[y]?=_;rw[Array.getElem?_setIfInBounds_self_of_lt hlt']] at h3;simp at h3
theorem yK(h:RP w O B e u rv yv ss)(hi:e.seats[i]?=some s)(hp:s.plan=some p)(hwk:p.wk=3)(hr0:s.rep.rows=[])(hq:M.show_ e i p=some e'):Cl prog 132 [pv B.x,sp B i,iv p.wpg] w λo w'=>o=iv 0/\Ex O w B e' w':=by
 unfold M.show_ at hq;obtain⟨⟨e1,pg⟩,hfe,hq⟩:=bind_some hq;obtain⟨Vv,hV,hq⟩:=bind_some hq;obtain⟨⟨q,orc⟩,hpg,hq⟩:=bind_some hq;have hse:e1.seats=e.seats:=by unfold M.fetch at hfe;obtain⟨_,_,hfe⟩:=bind_some hfe;cases hfe;rfl
 have hi1:e1.seats[i]?=some s:=by rw[hse];exact hi
 obtain⟨hsm,hit⟩:=uD hpg;refine cU3 func132 ?_ (V [(8,[9,44])]) (J [(12,[9]),(13,[12,13]),(23,[]),(22,[95])]);refine(dR h hfe).mono ?_;rintro _ w1 ⟨v,rfl,hN,_,hf1,O1,h1,s1,hz1⟩;simp only[RU];refine aD (us:=pcs pg v) (λw2 hs2 hw2 hf2=>?_) rfl rfl (G8.2 (bA hN.one));have hd:=Fm.drew F0 w2;have h2:=h1.aS hf2;have h2d:=h2.aS hd;have hw2d:=hd.heap hw2 id;obtain⟨h8,rr0,pl,k1,k2,k3,k4,kc⟩:=h2.cW hi1;rw[hp] at k4;obtain⟨b,rw_,lv,rr,rfl,hP⟩:=k4;have c12:w2.cell? ⟨B.x,23+i*25+12,none⟩=some (pv b):=kc 12 dC;simp only[RU,show((0:Int) != 0)=false from rfl,c12,aa (n:=6) hw2d rfl];refine(um (hP.keep hd iT) hwk ((hN.keep hf2).keep hd) (iz hsm).1 hit).mono ?_;rintro _ w3 ⟨rfl,hf3⟩;have h3:=h2d.aS hf3;have hF13:Fm F0 w1 w3:=Fmf (Fmf hf2 hd) hf3;have s3:Stp O w O1 w3:=s1.trans (Stp.gE hF13);have hw3:=hf3.heap hw2d id;have hN3:=hN.keep hF13;have hbl:b<w.heap.size:=by
  obtain⟨_,rr',pl',k1',_,_,k4',_⟩:=h.cW hi;have e12:(seC i s rr0 (pv b))[12]?=(seC i s rr' pl')[12]? := by rw[I6 (k1.symm.trans k1')]
  rw[hp] at k4';obtain⟨b',_,_,_,e',hP'⟩:=k4';have e12':pv b=pl':=I6 e12;rw[e'] at e12';have hb':b=b':=by injection e12' with e;injection e with e;injection e
  have hbt:O b'=10+i:=hP'.ob;exact h.lt b (by rw[hb',hbt];omega)
 refine aJ (λvs w4=>vs=[nl]/\Fm F0 w3 w4) ?_ ?_
 ·rintro _ w4 ⟨rfl,hf4⟩;have h4:=h3.aS hf4;have hd4:=Fm.drew F0 w4;have h4d:=h4.aS hd4;have hw4:=hd4.heap (hf4.heap hw3 id) id;have hF14:Fm F0 w1 w4.drew:=Fmf (Fmf hF13 hf4) hd4;simp only[RU];refine aJ (λvs w5=>∃b5,vs=[pv b5,.bool orc.isSome]/\w5.heap[b5]?=some (.cells (rcs (orc.getD M.rec0) nl nl nl nl nl) 168)/\PlX w5 (λy=>O1 y=10+i) w4.drew.heap.size b q/\Fm (λy=>O1 y=10+i) w4.drew w5/\w4.drew.heap.size<=b5) ?_ ?_
  ·rintro _ w5 ⟨b5,rfl,hb5,hX,hf5,hl5⟩;have hF24:Fm F0 w2 w4.drew:=Fmf (Fmf (Fmf hd hf3) hf4) hd4;obtain⟨O2,h5,g5⟩:=h4d.plan hi1 k1 rfl ⟨k2.keep hF24 iT,k3⟩ hr0 hX (D9 _) hf5;have s5:Stp O w O2 w5:=(s1.trans (Stp.gE hF14)).trans ⟨g5,hf5.mono (λy _ e=>by rw[e];omega)⟩;have hme:M.modPlan e1 i q={ e1 with seats:=e1.seats.set i { s with plan:=some q } }:=by unfold M.modPlan M.setSeat;rw[h1.at_ hi1]
   cases orc with
   | none=>cases hq;simp only[RU];rw[hme];exact⟨O2,u,rv,yv,ss,h5,s5⟩
   | some r=>
    obtain⟨e2,hwr,hq⟩:=bind_some hq;obtain⟨_,hg,hq⟩:=bind_some hq;cases hq;have hg:=F9 (ak hg);rw[hme] at hwr;have hd5:=Fm.drew F0 w5;have hr5:=hd5.heap hb5 id;have hi5:=h1.seat_set hi1 { s with plan:=some q };simp only[RU,h5.who hi5];refine aJ (λvs wx=>vs=[]/\Ex O w B e' wx) (λvs wx h=>?_) ?_
    ·exact h
    intro kk hkk;simp only[RU,aa (n:=16) hr5 rfl];refine(lC (h5.aS hd5) (r:=r) (vi:=nl) (.inl ⟨uC hpg,rfl⟩) hwr).mono ?_;rintro _ w6 ⟨rfl,O6,u6,h6,s6⟩;simp only[RU,show((0:Int) == 0)=true from rfl,h6.c 20 dC];simp only[RU,show IntKind.i64.wrap (e'.fresh+((0:Nat):Int))=e'.fresh by rw[af]<;>omega];refine(h6.al.x dC).y7 (o:=20) dC rfl λw7 hx hs7 hf7=>?_;have h7:RP w7 O6 B e' u6 rv yv ss:=h6.cells (e':=e') hx hf7 (hp:=h6.ph);exact hkk _ _ ⟨rfl,O6,u6,rv,yv,ss,h7,((s5.trans (Stp.gE hd5)).trans s6).trans ⟨Gr.refl _ _,hf7.mono (λy _ e=>by rw[e,h6.x0];decide)⟩⟩
  ·intro kk hkk;refine⟨λwx=>Fm F0 w4.drew wx,Fm.refl _ _,pv b,λwx hx=>?_,iv i,λwx hx=>?_,.agg (pcs pg v),λwx hx=>?_,?_⟩
   ·have cx:=(Fmf (Fmf (Fmf (Fmf hd hf3) hf4) hd4) hx).j4 c12 id;simp only[RU,cx,H7]
   ·simp only[RU,(h4d.aS hx).who hi1,H7]
   ·simp only[RU,aa (n:=6) (hx.heap hw4 id) rfl,H7]
   refine Fy (Y:=λy=>O1 y=10+i) (argsf:=λm=>[pv b,m,.agg (pcs pg v),nl]) (λm wx=>∃a rr,m=.agg (vwC Vv a rr u)/\VwN wx 0 Vv a rr u/\Vv.st=e1.st/\∀y,blockOf a=some y\/blockOf rr=some y->w4.drew.heap.size<=y) (λbase wx us uu=>us=rcs (orc.getD M.rec0) nl nl nl nl nl/\uu=.bool orc.isSome/\PlX wx (λy=>O1 y=10+i) base b q) (λwx hx=>?_) (λm wx wy hm hy=>?_) (λm wx hx hm=>?_) (λ_ h=>h) (λy hy=>h4d.lt y (by rw[hy];omega)) ?_ ?_
   ·refine(zi (h4d.aS hx) hV).mono ?_;rintro _ wy ⟨a,rr,rfl,hVN,hst,hbk,hfy⟩;exact⟨⟨a,rr,rfl,hVN,hst,λy hy=>F8 hx.size (hbk y hy)⟩,hfy⟩
   ·obtain⟨a,rr,e1,hVN,hst,hbk⟩:=hm;exact⟨a,rr,e1,hVN.keep hy,hst,hbk⟩
   ·obtain⟨a,rr,rfl,hVN,hst,hbk⟩:=hm;have hxr:=h4d.aS hx;refine(ya (hP.keep (Fmf (Fmf (Fmf (Fmf hd hf3) hf4) hd4) hx) iT) (λy hy=>hxr.lt y (by rw[hy];omega)) hbl (hN.keep (Fmf hF14 hx)) hVN (λy hy=>⟨λe=>?_,λe=>?_,λhne e=>?_⟩) hpg).mono ?_
    ·have:=hbk y (.inl e);have:=h4d.lt y (by rw[hy];omega);omega
    ·have:=hbk y (.inr e);have:=h4d.lt y (by rw[hy];omega);omega
    ·rw[hst] at hne;have:=(h4d.al.st dC).blk hne e;rw[hy] at this;omega
    ·rintro _ wy ⟨rfl,hX,hfy⟩;exact⟨_,_,rfl,rfl,rfl,⟨rfl,rfl,hX⟩,hfy⟩
   ·rintro base wx wy us uu hb ⟨e1,e2,hX⟩ hfy;exact⟨e1,e2,hX.oF hfy (λy hy=>⟨by rw[h4d.free hy.1];omega,.inl hy.2⟩)⟩
   ·rintro base wx b5 us uu hb hb2 _ hwx ⟨rfl,rfl,hX⟩ hfx;exact hkk _ _ ⟨b5,rfl,hwx,hX.of hb,hfx,hb2⟩
 ·intro kk hkk;simp only[RU,h3.c 20 dC,h3.c (1+3) dC];have hd3:=Fm.drew F0 w3;by_cases hle:IntKind.i64.wrap (e1.fresh+0)<=e1.pages
  ·simp only[RU,C9 hle];refine⟨λvs wx=>vs=[nl,iv 0]/\wx=w3.drew,λ_ _=>0,⟨rfl,rfl⟩,?_⟩;rintro wx v1 v2 ⟨hvs,rfl⟩;cases hvs;simp only[RU,show decide ((0:Int)<0)=false from rfl];exact hkk _ _ ⟨rfl,hd3⟩
  ·simp only[RU,C3 hle];exact hkk _ _ ⟨rfl,hd3⟩
end
section
variable{w w' w1 w2:World}{B:Bk}{u v rv yv:Value}{O O' O1 O2:Nat->Nat}{e e' e1:E}{ss:List (List Value)}{i:Nat}{D:Nat->Prop}{t:Tx}{s:Seat}{p q:Pn}
theorem RP.oR(h:RP w O B e u rv yv ss)(hi:e.seats[i]?=some s)(hp:s.plan=some p):∃b rv' lv rr rr0,w.cell? ⟨B.x,23+i*25+12,none⟩=some (pv b)/\PlAt w (O ·=10+i) b p rv' lv rr/\ss[i]?=some (seC i s rr0 (pv b))/\CellsAt w rr0 s.rep.rows.length 2 (s.rep.rows.flatMap rowL)/\∀y,blockOf rr0=some y->O y=10+i:=by obtain⟨h8,rr0,pl,k1,k2,k3,k4,kc⟩:=h.cW hi;rw[hp] at k4;obtain⟨b,rv',lv,rr,rfl,hP⟩:=k4;exact⟨b,rv',lv,rr,rr0,kc 12 dC,hP,k1,k2,k3⟩
theorem RP.y0(h:RP w O B e u rv yv ss)(hi:e.seats[i]?=some s)(hr0:s.rep.rows=[]){b:Nat}{rv' lv rr rr0:Value}(k1:ss[i]?=some (seC i s rr0 (pv b)))(k2:CellsAt w rr0 s.rep.rows.length 2 (s.rep.rows.flatMap rowL))(k3:∀y,blockOf rr0=some y->O y=10+i)(hP:PlAt w' (O ·=10+i) b q rv' lv rr)(hb:O b=10+i)(hf:Fm (·=b) w w'):∃O',RP w' O' B (M.modPlan e i q) u rv yv ss/\Stp O w O' w':=by
 have h8:=(h.cW hi).1;have hf':Fm (λy=>O y=10+i) w w':=hf.mono (λy _ e=>by rw[e];exact hb);obtain⟨O',h1,g⟩:=h.plan hi k1 rfl ⟨k2,k3⟩ hr0 ⟨_,rv',lv,rr,hP,λy hy=>.inl hy⟩ (D9 _) hf';refine⟨O',?_,g,hf'.mono (λy _ e=>by rw[e];omega)⟩;have:M.modPlan e i q={ e with seats:=e.seats.set i { s with plan:=some q } }:=by unfold M.modPlan M.setSeat;rw[h.at_ hi]
 rw[this];exact h1
theorem qF{n:Int}{b:Pg}(hq:M.fetch e n=some (e',b)):e'.seats=e.seats:=by unfold M.fetch at hq;obtain⟨_,_,hq⟩:=bind_some hq;cases hq;rfl
theorem eG{n:Int}(hq:M.reserve e n=some e'):e'.seats=e.seats:=by unfold M.reserve at hq;obtain⟨_,_,hq⟩:=bind_some hq;cases hq;rfl
theorem nJ{n:Int}(hq:M.release e n=some e'):e'.seats=e.seats:=by unfold M.release at hq;obtain⟨_,_,hq⟩:=bind_some hq;cases hq;rfl
theorem xy{n:Int}{b:Pg}(hq:M.lay e n b=some e'):e'.seats=e.seats:=by unfold M.lay at hq;obtain⟨_,_,hq⟩:=bind_some hq;obtain⟨_,_,hq⟩:=bind_some hq;cases hq;rfl
theorem Be{who free:Int}{r:Rc}(hq:M.wr e who r free=some e'):e'.seats=e.seats:=by
 unfold M.wr at hq;obtain⟨t,_,hq⟩:=bind_some hq;obtain⟨n,_,hq⟩:=bind_some hq;obtain⟨⟨e1,r1,q⟩,hb,hq⟩:=bind_some hq;obtain⟨_,_,hq⟩:=bind_some hq;obtain⟨e2,hr,hq⟩:=bind_some hq;obtain⟨e3,hl,hq⟩:=bind_some hq;obtain⟨_,_,hq⟩:=bind_some hq;obtain⟨tx,_,hq⟩:=bind_some hq;have h1:e1.seats=e.seats:=by
  unfold M.behind at hb;split at hb
  ·obtain⟨_,_,e⟩:=E6.1 hb;cases e;rfl
  ·obtain⟨⟨ex,p⟩,hf,hb⟩:=bind_some hb;obtain⟨_,_,hb⟩:=bind_some hb;cases hb;exact qF hf
  ·cases hb
 have h2:e2.seats=e1.seats:=by
  cases hu:M.undoes r1 with
  | true=>rw[hu] at hr;exact eG hr
  | false=>rw[hu] at hr;cases hr;rfl
 exact(xy hq).trans ((nJ hl).trans (h2.trans h1))
theorem mE{c n:Int}(hq:M.roomFor e i c=some (e1,n)):e1.seats=e.seats:=by
 unfold M.roomFor at hq;split at hq
 ·obtain⟨_,_,hq⟩:=bind_some hq;cases hq;rfl
 ·obtain⟨_,_,hq⟩:=bind_some hq;obtain⟨_,_,hq⟩:=bind_some hq;obtain⟨e2,hw,hq⟩:=bind_some hq;obtain⟨_,_,hq⟩:=bind_some hq;cases hq;exact(Be hw:e2.seats=e.seats)
abbrev blP:Pg:={ pg0 with kind:=2 }
theorem tK(w:World):Cl prog 223 [] w λo w'=>o=.agg (pcs blP nl)/\Fm F0 w w':=by refine cU0 func223 ?_;refine ae ?_;rintro b1 w1 rfl hs1 hw1 hf1;refine bst (pcs blP nl) ?_;refine ao hw1 (λw2 hw2 hs2 hf2=>?_) rfl rfl rfl;simp only[RU,aa (n:=6) hw2 rfl];exact Fm.own hf1 hf2 (λy e=>oM)
theorem yD(h:RP w O B e u rv yv ss)(hi:e.seats[i]?=some s)(hp:s.plan=some p)(hwk:p.wk=2)(hr0:s.rep.rows=[]){c n:Int}(hq:M.roomFor e i c=some (e1,n)):Cl prog 131 [pv B.x,sp B i,iv c] w λo w'=>o=iv 0/\Ex O w B (M.modPlan e1 i (M.see p n 302)) w':=by
 have h8:=(h.cW hi).1;have he1:=mE hq;refine cU3 func131 ?_ (V []) (J [(16,[7]),(8,[9])]);simp only[RU,h.c 19 dC];refine(uN (h.al.sp dC).st c).mono ?_;rintro _ w1 ⟨rfl,hf1⟩;have h1:=h.aS hf1;simp only[RU];refine aJ (λvs w2=>∃O2 u2 ss2,vs=[iv n]/\RP w2 O2 B e1 u2 rv yv ss2/\Stp O w O2 w2) ?_ ?_
 ·rintro _ w2 ⟨O2,u2,ss2,rfl,h2,s2⟩;have hi2:e1.seats[i]?=some s:=by rw[he1];exact hi
  obtain⟨b,rv',lv,rr,rr0,c12,hP,k1,k2,k3⟩:=h2.oR hi2 hp;simp only[RU,c12];refine(uT hP hwk n).mono ?_;rintro _ w3 ⟨hP3,hf3⟩;obtain⟨O3,h3,s3⟩:=h2.y0 hi2 hr0 k1 k2 k3 hP3 hP.ob hf3;exact⟨O3,u2,rv,yv,ss2,h3,s2.trans s3⟩
 ·intro kk hkk;unfold M.roomFor at hq;cases hr:e.room with
  | some x=>rw[hr] at hq;obtain⟨_,hg,hq⟩:=bind_some hq;cases hq;have hg:=F9 (ak hg);simp only[RU,show gj (some x) c=(2,true) by simp[gj,hg]];exact hkk _ _ ⟨O,u,ss,rfl,h1,Stp.gE hf1⟩
  | none=>
   rw[hr] at hq;obtain⟨_,hg,hq⟩:=bind_some hq;obtain⟨t,ht,hq⟩:=bind_some hq;obtain⟨e2,hw,hq⟩:=bind_some hq;obtain⟨_,hg2,hq⟩:=bind_some hq;cases hq;have hg:=ak hg;simp only[E0,C4] at hg;have hg2:=F9 (ak hg2);simp only[RU,show gj (none:Option Int) c=(0,false) by simp[gj]];simp only[RU,h1.c 20 dC,h1.c (1+3) dC,hg.1,C3 (oM:¬e.pages<=2)];refine aJ (λvs w2=>∃b2 a,vs=[pv b2]/\w2.heap[b2]?=some (.cells (txV t a) 107)/\Fm F0 w1 w2) ?_ ?_
   ·rintro _ w2 ⟨b2,a,rfl,hb2,hf2⟩;have hd:=Fm.drew F0 w2;have h2:=h1.aS (Fmf hf2 hd);have hb2d:=hd.heap hb2 id;simp only[RU];refine⟨λwx=>Fm F0 w2.drew wx,Fm.refl _ _,iv i,λwx hx=>?_,?_⟩
    ·simp only[RU,(h2.aS hx).who hi,H7]
    refine⟨iv t.xid,λwx hx=>?_,?_⟩
    ·simp only[RU,ab (hx.heap hb2d id),H7]
    refine(tK _).mono ?_;rintro _ w3 ⟨rfl,hf3⟩;refine⟨hf3,ag (Er 2 blP nl _) ⟨rfl,ag (EC 2 blP nl _) ?_⟩⟩;have hfa:=Fm.alloc F0 w3 (.cells (imC (2,blP,nl)).toArray 233);have hcs:CellsAt (w3.alloc (.cells (imC (2,blP,nl)).toArray 233)) (.slice (some ⟨w3.heap.size,0,none⟩) 1 1) 1 7 (imC (2,blP,nl)):=CellsAt.aT (cY (w:=w3) (e:=233) (sz:=7) (n:=1) (l:=imC (2,blP,nl)) rfl (D9 _) dC);have h3:=(h2.aS hf3).aS hfa;have l3:=(h2.aS hf3).free (D9 _);refine⟨Fmf hf3 hfa,?_⟩;generalize w3.alloc (.cells (imC (2,blP,nl)).toArray 233)=wa at hfa hcs h3 ⊢;refine bst (rcs { M.rec0 with kind:=13,xid:=t.xid,imgs:=[(2,blP)] } nl nl (.slice (some ⟨w3.heap.size,0,none⟩) 1 1) nl nl) ⟨rfl,?_⟩;have hbl:PgN wa 0 nl blP:=⟨rfl,CellsAt.aT (World.ownsRow_nil wa 0 9 1),λx hx=>by simp[pg0] at hx,dC,λ_ _ _=>Jd _⟩;refine(lC h3 (.inr ⟨(2,blP),nl,rfl,hcs,hbl,rfl,λy hy=>by cases hy;exact l3⟩) hw).mono ?_;rintro _ w4 ⟨rfl,O4,u4,h4,s4⟩;simp only[RU,show((0:Int) == 0)=true from rfl,h4.c 20 dC,af (n:=e2.fresh+1) oM];refine(h4.al.x dC).y7 (o:=20) dC rfl λw5 hx hs5 hf5=>?_;have h5:RP w5 O4 B { e2 with fresh:=e2.fresh+1 } u4 rv yv ss:=h4.cells (e':={ e2 with fresh:=e2.fresh+1 }) hx hf5 (hp:=h4.ph);exact hkk _ _ ⟨O4,u4,ss,rfl,h5,((Stp.gE (Fmf (Fmf (Fmf hf1 (Fmf hf2 hd)) hf3) hfa)).trans s4).trans ⟨Gr.refl _ _,hf5.mono (λy _ e=>by rw[e,h4.x0];decide)⟩⟩
   ·intro kk' hkk';exact txj h1 hi ht (λw3 b a g1 g2 _=>hkk' _ _ ⟨b,a,rfl,g1,g2⟩)
end
section
variable{w w' w1 w2:World}{B:Bk}{u v rv yv:Value}{O O' O1 O2:Nat->Nat}{e e' e1:E}{ss:List (List Value)}{i:Nat}{D:Nat->Prop}{t:Tx}{s:Seat}{p q:Pn}
def Hr(e:E)(i:Nat)(s:Seat)(p:Pn):Option E:=match p.wk with
  | 1=>do
   let (e,r) <- M.tryK e i p.wkey
   some (M.modPlan e i (match r with
    | 0=>M.look p
    | 1=>p
    | _=>M.fin p { M.rp0 with err:=181 }))
  | 2=>do
   let (e,n) <- M.roomFor e i p.wsz
   M.show_ (M.modPlan e i (M.see p n 302)) i (M.see p n 302)
  | 3=>M.show_ e i p
  | _=>none
theorem Hx(p:Pn):cr false 1 0 (.agg (waC p))=some (iv p.wk):=kR
theorem Fz{k:Bs}{who:Int}{r:Nat}(hq:M.tryK e who k=some (e',r)):r=0\/r=1\/r=2:=by
 unfold M.tryK at hq;cases hc:decide ((getD e.holds k).getD who=who) with
 | true=>simp only[hc,D8] at hq;cases hq;exact .inl rfl
 | false=>
  simp only[hc,C8] at hq;obtain⟨b,_,hq⟩:=bind_some hq;cases b<;>cases hq
  ·exact .inr (.inl rfl)
  ·exact .inr (.inr rfl)
theorem ze{k:Bs}{who:Int}{r:Nat}(hq:M.tryK e who k=some (e',r)):e'.seats=e.seats:=by
 unfold M.tryK at hq;cases hc:decide ((getD e.holds k).getD who=who) with
 | true=>simp only[hc,D8] at hq;cases hq;rfl
 | false=>simp only[hc,C8] at hq;obtain⟨b,_,hq⟩:=bind_some hq;cases b<;>cases hq<;>rfl
theorem kx(h:RP w O B e u rv yv ss)(hi:e.seats[i]?=some s)(hq:M.follow e i=some e'):Cl prog 51 [pv B.x,sp B i] w λo w'=>o=iv 0/\Ex O w B e' w':=by
 have h8:=(h.cW hi).1;unfold M.follow at hq;rw[h.at_ hi] at hq;obtain⟨_,hg,hq⟩:=bind_some hq;have hr0:s.rep.rows=[]:=KJ.1 (ak hg);obtain⟨p,hp,hq⟩:=bind_some hq;obtain⟨e1,hm,hend⟩:=bind_some hq
 replace hm:Hr e i s p=some e1:=hm
 obtain⟨b,rv',lv,rr,rr0,c12,hP,k1,k2,k3⟩:=h.oR hi hp;refine cU2 func51 ?_ (V []) (J [(10,[]),(14,[]),(20,[9])]);simp only[RU,c12];refine(lA hP).mono ?_;rintro _ w1 ⟨rfl,hf1⟩;refine aD (us:=waC p) (λw2 hs2 hw2 hf2=>?_) rfl rfl rfl;have h2:=h.aS (Fmf hf1 hf2);have s2:Stp O w O w2:=Stp.gE (Fmf hf1 hf2);refine aJ (λvs w3=>vs=[]/\∃O3 u3 rv3 yv3 ss3 e3 p3,RP w3 O3 B e3 u3 rv3 yv3 ss3/\Stp O w O3 w3/\w3.heap[w1.heap.size]?=some (.cells (waC p3) 217)/\((p3.wk=3/\∃s3,e3.seats[i]?=some s3/\s3.plan=some p3/\s3.rep.rows=[]/\M.show_ e3 i p3=some e1)\/(p3.wk≠3/\e3=e1))) ?_ ?_
 ·rintro _ w3 ⟨rfl,O3,u3,rv3,yv3,ss3,e3,p3,h3,s3,hw3,hc⟩;simp only[RU];refine aJ (λvs w4=>vs=[]/\∃O4 u4 rv4 yv4 ss4,RP w4 O4 B e1 u4 rv4 yv4 ss4/\Stp O w O4 w4) ?_ ?_
  ·rintro _ w4 ⟨rfl,O4,u4,rv4,yv4,ss4,h4,s4⟩;unfold M.ended at hend;obtain⟨p5,hp5,hend⟩:=bind_some hend;have hi4:=h4.eQ h8;obtain⟨b4,rv5,lv5,rr5,rr6,c5,hP4,j1,j2,j3⟩:=h4.oR hi4 hp5;simp only[RU,c5];refine(lA hP4).mono ?_;rintro _ w5 ⟨rfl,hf5⟩;have h5:=h4.aS hf5;have s5:=s4.trans (Stp.gE hf5);have c5':=hf5.j4 c5 id;by_cases hk:p5.wk=4
   ·rw[C9 hk,D8] at hend;simp only[RU,Hx p5,show(p5.wk != 4)=false by rw[hk];rfl,c5'];have c1:w5.cell? ⟨B.x,23+i*25+1,none⟩=some (.int .u8 (M.seatAt e1 i).ask.call):=by obtain⟨_,_,_,_,_,_,_,kc⟩:=h5.cW hi4;exact kc 1 dC
    by_cases he:p5.rep.err=0
    ·rw[C9 he,D8] at hend;obtain⟨_,hrl,hend⟩:=bind_some hend;cases hend;have hrl:=F9 (ak hrl);refine(mD (hP4.keep hf5 iT) hk oM).mono ?_;rintro _ w6 ⟨ur,rfl,hur,hf6⟩;refine aD (us:=rpC p5.rep ur) (λw7 hs7 hw7 hf7=>?_) rfl rfl (by simp[az hur];exact⟨rfl,rfl,rfl⟩);have hF57:=Fmf hf6 hf7;simp only[RU,ab hw7,show(rpC p5.rep ur)[0]?=some (iv p5.rep.err) from rfl,show(p5.rep.err == 0)=true from J2.2 he,aa (n:=4) hw7 rfl];refine(iw (h5.aS hF57) h8 (r:=p5.rep) ((CellsAt.aT hur).keep hf7 iT) (λy hy=>⟨h5.free (fl hur hy),?_⟩)).mono ?_
     ·exact E3 (aP hur y (@blo ur y ur (aZ (CellsAt.aT hur)) hy)).2 hf7.size
     rintro _ w8 ⟨rfl,O8,ss8,h8',g8,f8⟩;exact⟨rfl,O8,_,_,_,_,h8',s5.trans ⟨g8.mono (λy e=>e.elim (λe=>F8 hF57.size e) (λe=>fl hur e)),hF57.trans f8 iE (λy _ e=>by rw[e,h5.x0];decide)⟩⟩
    ·rw[C3 he,C8] at hend;obtain⟨_,hcl,hend⟩:=bind_some hend;obtain⟨t,ht,hend⟩:=bind_some hend;cases hend;have hcl:=ak hcl;simp only[E0,JQ,C7,C4] at hcl;obtain⟨hcl,hrl⟩:=hcl;refine(mD (hP4.keep hf5 iT) hk oM).mono ?_;rintro _ w6 ⟨ur,rfl,hur,hf6⟩;refine aD (us:=rpC p5.rep ur) (λw7 hs7 hw7 hf7=>?_) rfl rfl (by simp[az hur];exact⟨rfl,rfl,rfl⟩);have hF57:=Fmf hf6 hf7;have h7:=h5.aS hF57;have c1':=hF57.j4 c1 id;simp only[RU,ab hw7,show(rpC p5.rep ur)[0]?=some (iv p5.rep.err) from rfl,show(p5.rep.err == 0)=false from Je.2 he,c1',show((M.seatAt e1 i).ask.call == 2)=false from Je.2 hcl.1,show((M.seatAt e1 i).ask.call == 5)=false from Je.2 hcl.2];refine aJ (λvs w8=>∃b2 a,vs=[pv b2]/\w8.heap[b2]?=some (.cells (txV t a) 107)/\Fm F0 w7 w8/\w7.heap.size<=b2) ?_ ?_
     ·rintro _ w8 ⟨b2,a,rfl,hb2,hf8,hl2⟩;have hd8:=Fm.drew F0 w8;have h8d:=(h7.aS hf8).aS hd8;have hb2d:=hd8.heap hb2 id;have hxl:=(h7.al.x dC).lt;have hw8:=hd8.heap (hf8.heap hw7 id) id;simp only[RU];refine⟨λwx=>Fm (·=B.x) w8.drew wx,Fm.refl _ _,?_⟩;simp only[RU,ab (hf8.heap hw7 id),show(rpC p5.rep ur)[0]?=some (iv p5.rep.err) from rfl];refine⟨iv t.last,λwx hx=>?_,?_⟩
      ·simp only[RU,ab (hx.heap hb2d oM),H7]
      let sq:Seat:=M.seatAt e1 i;refine h8d.seat1 (j:=13) (s':={ sq with why:=p5.rep.err }) hi4 dC rfl (λ_ _=>rfl) rfl rfl λw9 ss9 h9 hf9=>?_;refine⟨hf9,?_⟩;refine h9.seat1 (j:=14) (s':={ sq with why:=p5.rep.err,next:=t.last }) (h8d.seat_set hi4 _) dC rfl (λ_ _=>rfl) rfl rfl λwa ssa ha hfa=>?_;refine ha.seat1 (j:=6) (s':={ sq with why:=p5.rep.err,next:=t.last,wk:=.roll }) (h9.seat_set (h8d.seat_set hi4 _) _) dC rfl (λ_ _=>rfl) rfl rfl λwb ssb hb hfb=>?_;rw[JZ,JZ] at hb;have fx:∀{a b:World},Fm (·=B.x) a b->Stp O4 a O4 b:=λf=>⟨Gr.refl _ _,f.mono (λy _ e=>by rw[e,h5.x0];decide)⟩;exact⟨O4,u4,rv4,yv4,ssb,hb,(((s5.trans (Stp.gE (Fmf (Fmf hF57 hf8) hd8))).trans (fx hf9)).trans (fx hfa)).trans (fx hfb)⟩
     ·intro kk' hkk';exact txj h7 hi4 ht (λw3 b a g1 g2 g3=>hkk' _ _ ⟨b,a,rfl,g1,g2,g3⟩)
   ·rw[C3 hk,C8] at hend;cases hend;simp only[RU,Hx p5,show(p5.wk != 4)=true from bne_iff_ne.2 hk];exact h5.ex s5
  ·intro kk hkk;simp only[RU,ab hw3,show(waC p3)[0]?=some (iv p3.wk) from rfl,show(waC p3)[3]?=some (iv p3.wpg) from rfl];rcases hc with⟨hk,s3',hi3,hp3,hr3,hsh⟩|⟨hk,rfl⟩
   ·simp only[RU,show(p3.wk == 3)=true from J2.2 hk];refine(yK h3 hi3 hp3 hk hr3 hsh).mono ?_;rintro _ w4 ⟨rfl,O4,u4,rv4,yv4,ss4,h4,s4⟩;simp only[RU,show((0:Int) != 0)=false from rfl];exact hkk _ _ ⟨rfl,O4,u4,rv4,yv4,ss4,h4,s3.trans s4⟩
   ·simp only[RU,show(p3.wk == 3)=false from Je.2 hk];exact hkk _ _ ⟨rfl,O3,u3,rv3,yv3,ss3,h3,s3⟩
 ·intro kk hkk;simp only[RU,ab hw2,show(waC p)[0]?=some (iv p.wk) from rfl];have hl7:=aj hw2;have h97:O w1.heap.size=99:=h.free hf1.size;have hP2:=hP.keep (Fmf hf1 hf2) iT;unfold Hr at hm;split at hm
  ·rename_i hwk;obtain⟨⟨et,r⟩,htr,hm⟩:=bind_some hm;cases hm;have hd:=Fm.drew F0 w2;have h2d:=h2.aS hd;simp only[RU,show(p.wk == 1)=true from J2.2 hwk];refine⟨λwx=>Fm (λy=>O y=3) w2.drew wx,Fm.refl _ _,pv b,λwx hx=>?_,?_⟩
   ·have cx:=hx.j4 (hd.j4 ((Fmf hf1 hf2).j4 c12 id) id) (by rw[h.x0];decide);simp only[RU,cx,H7]
   simp only[RU,h2.c 16 dC,h2.who hi];refine(xI h2d htr).mono ?_;rintro _ w3 ⟨rfl,h3,hf3⟩;refine⟨hf3,?_⟩;simp only[RU];have hi3:et.seats[i]?=some s:=by rw[ze htr];exact hi
   have hbO:O b=10+i:=hP.ob;have hP3:=(hP2.keep hd iT).keep hf3 (λy hy e=>by rw[hy] at e;omega);refine(xE hP3 hwk (r == 0) (if r=2 then 181 else 0)).mono ?_;rintro _ w4 ⟨⟨rr',hP4⟩,hf4⟩;have k2':=(k2.keep (Fmf (Fmf hf1 hf2) hd) iT).keep hf3 (λy hy e=>by have:=k3 y hy;omega);obtain⟨O4,h4,s4⟩:=h3.y0 hi3 hr0 k1 k2' k3 hP4 hbO hf4;have hb7:b≠w1.heap.size:=λe=>by rw[<- e,hbO] at h97;omega
   have hw4:=hf4.heap (hf3.heap (hd.heap hw2 id) (by rw[h97];decide)) (λe=>hb7 e.symm);refine hkk _ _ ⟨rfl,O4,u,rv,yv,ss,_,p,h4,((s2.trans (Stp.gE hd)).trans (Stp.of (Gr.refl _ _) dC hf3)).trans s4,hw4,.inr ⟨oM,?_⟩⟩;rcases Fz htr with rfl|rfl|rfl<;>rfl
  ·rename_i hwk;obtain⟨⟨er,n⟩,hro,hm⟩:=bind_some hm
   replace hm:M.show_ (M.modPlan er i (M.see p n 302)) i (M.see p n 302)=some e1:=hm
   simp only[RU,show(p.wk == 1)=false by rw[hwk];rfl,show(p.wk == 2)=true from J2.2 hwk];refine(yD h2 hi hp hwk hr0 hro).mono ?_;rintro _ w3 ⟨rfl,O3,u3,rv3,yv3,ss3,h3,s3⟩;have hier:er.seats[i]?=some s:=by rw[mE hro];exact hi
   have hmp:M.modPlan er i (M.see p n 302)={ er with seats:=er.seats.set i { s with plan:=some (M.see p n 302) } }:=by unfold M.modPlan M.setSeat M.seatAt;rw[G6,hier];rfl
   have hi3:(M.modPlan er i (M.see p n 302)).seats[i]?=some { s with plan:=some (M.see p n 302) }:=by rw[hmp];show(er.seats.set i _)[i]?=_;rw[JB (E2.1 hier).1]
   obtain⟨b3,rv4,lv4,rr4,rr5,c3,hP3,_⟩:=h3.oR hi3 rfl;have hw3:=s3.f.heap hw2 (λe=>e h97);simp only[RU,show((0:Int) != 0)=false from rfl,c3];refine(lA hP3).mono ?_;rintro _ w4 ⟨rfl,hf4⟩;refine ao (hf4.heap hw3 id) (λw5 hw5 hs5 hf5=>?_) rfl rfl rfl;have h97':=s3.free hl7 h97;have h5:=(h3.aS hf4).iD h97' hf5;exact hkk _ _ ⟨rfl,O3,u3,rv3,yv3,ss3,_,M.see p n 302,h5,((s2.trans s3).trans (Stp.gE hf4)).loc hf5 hf1.size,hw5,.inl ⟨rfl,_,hi3,rfl,hr0,hm⟩⟩
  ·rename_i hwk;simp only[RU,show(p.wk == 1)=false by rw[hwk];rfl,show(p.wk == 2)=false by rw[hwk];rfl];exact hkk _ _ ⟨rfl,O,u,rv,yv,ss,e,p,h2,s2,hw2,.inl ⟨hwk,s,hi,hp,hr0,hm⟩⟩
  ·cases hm
end
section
variable{w w' w1 w2:World}{B:Bk}{u v rv yv:Value}{O O' O1 O2:Nat->Nat}{e e' e1:E}{ss:List (List Value)}{i:Nat}{D:Nat->Prop}{t:Tx}{s:Seat}{p q:Pn}
theorem zg{b bm:Nat}{T:List (Int×Nat)}{L:List (Int×Tx)}(h:TxAt w D b bm T L){who:Int}(ht:getD L who=none):Cl prog 29 [pv b,iv who] w λo w'=>o=.tuple #[.agg #[iv 0,nl,iv 0,iv 0,iv 0,iv 0],.bool false]/\Fm F0 w w':=by refine cU2 func29 ?_;refine ae ?_;rintro b1 w1 rfl hs1 hw1 hf1;have h1:=h.keep hf1 iT;have e:=aX K174 h1.mp who false (z:=np) kR;rw[h.none ht] at e;refine cU2 func87 ?_;simp only[RU,ab h1.st];refine ag e ?_;simp only[RU,okV,C8,show((182:Int) != 0)=true from rfl];refine bst #[iv 0,nl,iv 0,iv 0,iv 0,iv 0] ?_;refine ao hw1 (λw3 hw3 hs3 hf3=>?_) rfl rfl rfl;simp only[RU,aa (n:=6) hw3 rfl];exact Fm.own hf1 hf3 (λy e=>oM)
theorem IP(h:RP w O B e u rv yv ss)(hi:e.seats[i]?=some s)(ht:getD e.txns (i:Int)=none){kk:Value->Value->World->Prop}{zs:Array Value}(K:∀w3 b,w3.heap[b]?=some (.cells #[iv 0,nl,iv 0,iv 0,iv 0,iv 0] 107)->Fm F0 w w3->w.heap.size<=b->kk (pv b) (.bool false) w3)(hz:zs.size=6:=by rfl):∃C:World->Prop,C w.drew/\∃v,(∀w1,C w1->Pu (w1.cell? ⟨B.x,17,none⟩) λu=>u=v/\True)/\∃v1,(∀w1,C w1->Pu (w1.cell? ⟨B.x,23+i*25,none⟩) λu=>u=v1/\True)/\((Cl prog 29 [v,v1] w.drew λv w2=>Pu (bj v 0) λa=>Pu (bj v 1) λc=>New zs 107 w2 λp w3=>St 6 w3 p a λ_ w4=>kk p c w4)/\(New zs 107 w.drew λp w1=>C w1/\Cl prog 29 [v,v1] w1 λv w2=>Pu (bj v 0) λa=>Pu (bj v 1) λc=>St 6 w2 p a λ_ w3=>kk p c w3)/\True):=by
 have hd:=Fm.drew F0 w;refine⟨λwx=>Fm F0 w.drew wx,Fm.refl _ _,pv B.tb,λwx hx=>?_,iv i,λwx hx=>?_,two (Y:=F0) (λ_ _ us uu=>us=#[iv 0,nl,iv 0,iv 0,iv 0,iv 0]/\uu=.bool false) (λw1 hf1=>?_) (λ_ h=>h) (λ_ e=>e.elim) (λ_ _ _ _ _ _ h _=>h) ?_ hz⟩
 ·simp only[RU,((h.aS hd).aS hx).c 17 dC,H7]
 ·simp only[RU,((h.aS hd).aS hx).who hi,H7]
 ·obtain⟨T,hT⟩:=h.al.tx dC;refine(zg (hT.keep (Fmf hd hf1) iT) ht).mono ?_;rintro _ w2 ⟨rfl,hf2⟩;exact⟨_,_,rfl,rfl,rfl,⟨rfl,rfl⟩,hf2⟩
 ·rintro base w3 b us uu _ hb _ hw3 ⟨rfl,rfl⟩ hf;exact K w3 b hw3 (Fmf hd hf) (F8 hd.size hb)
theorem TxAt.lt{b bm:Nat}{T:List (Int×Nat)}{L:List (Int×Tx)}(h:TxAt w D b bm T L):TxAt w (λy=>D y/\y<w.heap.size) b bm T L:=by
 have hg:∀p∈T,p.2<w.heap.size:=λp hp=>by obtain⟨t,a,_,h2,_⟩:=h.at_ p.1 p.2 ((getD_some h.mp.keys).2 hp);exact aj h2
 refine⟨h.st,h.mp,h.keys,h.nd,⟨⟨h.ob.1,aj h.st⟩,⟨h.ob.2.1,h.mp.lt⟩,λp hp=>⟨h.ob.2.2 p hp,hg p hp⟩⟩,λwho g hk=>?_⟩;obtain⟨t,a,h1,h2,h3,h4⟩:=h.at_ who g hk;refine⟨t,a,h1,h2,h3,λy hy=>⟨⟨(h4 y hy).1,?_⟩,(h4 y hy).2⟩⟩;obtain⟨cs,fz,hb⟩:=(h4 y hy).2;exact(Jg.1 hb).1
theorem tN{n:Int}{S:List Seat}(hq:M.close e i n=some e'):M.close { e with seats:=S } i n=some { e' with seats:=S }/\e'.seats=e.seats:=by
 unfold M.close at hq;obtain⟨t,ht,hq⟩:=bind_some hq;obtain⟨_,hg,hq⟩:=bind_some hq;obtain⟨e1,hr,hq⟩:=bind_some hq;cases hq;unfold M.release at hr;obtain⟨_,hg2,hr⟩:=bind_some hr;cases hr;refine⟨?_,rfl⟩;show(getD e.txns (i:Int) >>= _)=_;rw[ht];show(M.gd _ >>= _)=_;rw[hg];show((M.gd _ >>= _) >>= _)=_;rw[hg2]
 rfl
theorem RP.B8(h:RP w O B e u rv yv ss){x:Int}(hs:w'.heap[B.ib]?=some (.cells #[iv e.m,iv x,iv 1] 182))(hf:Fm (·=B.ib) w w'):RP w' O B { e with nxt:=x } u rv yv ss/\Fm (λy=>O y=5) w w':=by have ob:=(h.al.id dC).ob;have hf5:Fm (λy=>O y=5) w w':=hf.mono (λy _ e=>by rw[e];exact ob);have o:=h.keep hf5;exact⟨⟨⟨λ_=>o.sys dC,λ_=>o.st dC,λ_=>o.lk dC,λ_=>o.tx dC,λ_=>⟨hs,ob⟩,λ_=>o.sp dC,λ_=>o.rs dC,λi s k hi=>o.se i s oM hi,λ_=>o.x dC⟩,λy hy=>E3 (h.lt y hy) hf.size,h.x0,h.sl,h.mo,h.ph,h.uo⟩,hf5⟩
theorem tI(h:RP w O B e u rv yv ss)(hi:e.seats[i]?=some s)(hq:M.begin e i=some e'):Cl prog 20 [pv B.x,sp B i] w λo w'=>o=iv 0/\Ex O w B e' w':=by
 have h8:=(h.cW hi).1;unfold M.begin at hq;rw[h.at_ hi] at hq;by_cases hc1:s.ask.call=1
 ·refine cU2 func20 ?_ (V []) (J [(2,[5,6]),(46,[]),(23,[126]),(27,[]),(34,[168])]);simp only[hc1] at hq;obtain⟨_,hg,hq⟩:=bind_some hq;have hg:=ak hg;simp only[E0,Option.isNone_iff_eq_none] at hg;cases hq;refine aJ (λvs w2=>∃b2,vs=[pv b2,.bool false]/\Fm F0 w w2) ?_ ?_
  ·rintro _ w2 ⟨b2,rfl,hf2⟩;have h2:=h.aS hf2;obtain⟨_,_,_,_,_,_,_,kc⟩:=h2.cW hi;have c1:w2.cell? ⟨B.x,23+i*25+1,none⟩=some (.int .u8 1):=by rw[<- hc1];exact kc 1 dC
   simp only[RU,c1];have hd:=Fm.drew F0 w2;have h2d:=h2.aS hd;refine⟨λwx=>Fm F0 w2.drew wx,Fm.refl _ _,pv B.tb,λwx hx=>?_,iv i,λwx hx=>?_,?_⟩
   ·simp only[RU,(h2d.aS hx).c 17 dC,H7]
   ·simp only[RU,(h2d.aS hx).who hi,H7]
   simp only[RU,h2.c 18 dC];refine⟨pv B.tb,λwx hx=>?_,?_⟩
   ·simp only[RU,(h2d.aS hx).c 17 dC,H7]
   refine(xP (h2d.al.id dC).st).mono ?_;rintro _ _ ⟨rfl,rfl⟩;obtain⟨T,hT⟩:=h2d.al.tx dC;obtain⟨hlen,hnd⟩:=hT.len hg.2;refine⟨Fm.refl _ _,(fy hT hlen).mono ?_⟩;rintro rr w3 ⟨A,hA,hA12,hrr,hf3⟩;refine⟨hf3,(uV (CellsAt.aT hrr) hA12 (hA.nodup_iff.2 hnd) e.nxt).mono ?_⟩;rintro _ w4 ⟨us,S,rfl,hS,hus,hf4⟩;have h4:=(h2d.aS hf3).aS hf4;refine⟨Fmf hf3 hf4,(qc (l:=M.running e.txns) ((hT.keep hf3 (λ_ _ e=>e)).keep hf4 (λ_ _ e=>e)) hg.1 (jE hus (by have:=hS.length_eq;omega) (λx=>by rw[hS.mem_iff];exact yE hA x))).mono ?_⟩;rintro _ w5 ⟨rfl,⟨g,hT5⟩,hf5⟩;obtain⟨O5,h5,s5,_⟩:=h4.C2 hT5.lt (λy hy=>hy) (hf5.mono (λy _ e=>by rw[e];exact hT.ob.2.1));refine bst (rpC M.rp0 nl) ?_;refine(iw h5 h8 (r:=M.rp0) (CellsAt.aT (World.ownsRow_nil w5 0 23 2)) (λy hy=>by cases hy)).mono ?_;rintro _ w6 ⟨rfl,O6,ss6,h6,g6,f6⟩;exact⟨rfl,O6,_,_,_,_,h6,((Stp.gE (Fmf (Fmf (Fmf hf2 hd) hf3) hf4)).trans s5).trans ⟨g6.mono (λy e=>e.elim id (λe=>by cases e)),f6.mono (λy _ e=>by rw[e,h5.x0];decide)⟩⟩
  ·intro kk hkk;exact IP h hi hg.1 (λw3 b g1 g2 _=>hkk _ _ ⟨b,rfl,g2⟩)
 ·obtain⟨t,ht⟩:∃t,getD e.txns (i:Int)=some t:=by
   dsimp only at hq;split at hq
   ·rename_i hk;exact absurd hk hc1
   ·obtain⟨t,ht,_⟩:=bind_some hq;exact⟨t,ht⟩
   ·obtain⟨t,ht,_⟩:=bind_some hq;exact⟨t,ht⟩
   ·obtain⟨t,ht,_⟩:=bind_some hq;exact⟨t,ht⟩
  refine cU2 func20 ?_ (V []) (J [(2,[5,6]),(46,[]),(23,[126]),(27,[]),(34,[168])]);refine aJ (λvs w2=>∃b2 a,vs=[pv b2,.bool true]/\w2.heap[b2]?=some (.cells (txV t a) 107)/\Fm F0 w w2/\w.heap.size<=b2) ?_ ?_
  ·rintro _ w2 ⟨b2,a,rfl,hb2,hf2,hl2⟩;have h2:=h.aS hf2;obtain⟨_,_,_,_,_,_,_,kc⟩:=h2.cW hi;have c1:w2.cell? ⟨B.x,23+i*25+1,none⟩=some (.int .u8 s.ask.call):=kc 1 dC;by_cases h67:s.ask.call=6\/s.ask.call=7
   ·have n8:(s.ask.call == 8)=false:=by rcases h67 with e|e<;>rw[e]<;>rfl
    have n9:(s.ask.call == 9)=false:=by rcases h67 with e|e<;>rw[e]<;>rfl
    simp only[RU,c1,show(s.ask.call == 1)=false from Je.2 hc1,n8,n9];refine aJ (λ_ _=>False) (λ_ _ h=>h.elim) λkk0 _=>?_;refine aJ (λvs w3=>vs=[.bool true]/\w3=w2) ?_ ?_
    ·rintro _ _ ⟨rfl,rfl⟩;have hxl:=(h.al.x dC).lt;simp only[RU,ab hb2];refine h2.seat1 (s':={ s with next:=t.last }) hi dC rfl (λ_ _=>rfl) rfl rfl λw3 ss3 h3 hf3=>?_;have hb3:=hf3.heap hb2 oM;have hi3:=h2.seat_set hi { s with next:=t.last };have fx:∀{a b:World},Fm (·=B.x) a b->Stp O a O b:=λf=>⟨Gr.refl _ _,f.mono (λy _ e=>by rw[e,h.x0];decide)⟩;have s3:Stp O w O w3:=(Stp.gE hf2).trans (fx hf3);obtain⟨_,_,_,_,_,_,_,kc3⟩:=h3.cW hi3;have c1':w3.cell? ⟨B.x,23+i*25+1,none⟩=some (.int .u8 s.ask.call):=kc3 1 dC;simp only[RU,ab hb3];by_cases hl:t.last=0
     ·simp only[RU,show(t.last == 0)=true from J2.2 hl];rcases h67 with e6|e7
      ·simp only[e6] at hq;rw[ht] at hq
       replace hq:(bif decide (t.last=0) then(M.gd (decide (t.xid=0)) >>= λ_=>M.close e i 0 >>= λe2=>some (M.say e2 i M.rp0)) else _)=some e':=hq
       rw[C9 hl,D8] at hq;obtain⟨_,hx0,hq⟩:=bind_some hq;obtain⟨e2,hcl,hq⟩:=bind_some hq;cases hq;have hx0:=F9 (ak hx0);obtain⟨hcl',hse⟩:=tN (S:=e.seats.set i { s with next:=t.last }) hcl;refine aJ (λvs w4=>vs=[]/\w4=w3) ?_ ?_
       ·rintro _ _ ⟨rfl,rfl⟩;simp only[RU,h3.who hi3];refine(iL h3 hcl').mono ?_;rintro _ w4 ⟨h4,s4⟩;refine bst (rpC M.rp0 nl) ?_;refine(iw h4 h8 (r:=M.rp0) (CellsAt.aT (World.ownsRow_nil w4 0 23 2)) (λy hy=>by cases hy)).mono ?_;rintro _ w5 ⟨rfl,O5,ss5,h5,g5,f5⟩;refine⟨rfl,O5,u,rv,yv,ss5,?_,(s3.trans s4).trans ⟨g5.mono (λy e=>e.elim id (λe=>by cases e)),f5.mono (λy _ e=>by rw[e,h4.x0];decide)⟩⟩;have:M.say { e2 with seats:=e.seats.set i { s with next:=t.last } } i M.rp0=M.say e2 i M.rp0:=by unfold M.say M.setSeat;show({ e2 with seats:=(e.seats.set i _).set i _ }:E)=_;rw[JZ,hse]
        rw[<- this];exact h5
       ·intro kk hkk;simp only[RU,hx0,show decide ((0:Int)<0)=false from rfl];exact hkk _ _ ⟨rfl,rfl⟩
      ·simp only[e7] at hq;rw[ht] at hq;obtain⟨_,hg,_⟩:=bind_some (show(M.gd (!(decide (t.last=0))) >>= λ_=>M.roll (M.setSeat e i { s with next:=t.last,wk:=.roll }) i)=some e' from hq);have hg:=ak hg;rw[C9 hl] at hg;cases hg
     ·simp only[RU,show(t.last == 0)=false from Je.2 hl,c1'];rcases h67 with e6|e7
      ·simp only[e6] at hq;rw[ht] at hq
       replace hq:(bif decide (t.last=0) then _ else M.commit (M.setSeat e i { s with next:=t.last,wk:=.commit }) i)=some e':=hq
       rw[C3 hl,C8] at hq;simp only[RU,show(s.ask.call == 6)=true from J2.2 e6];refine cU3 func37 ?_;refine h3.seat1 (s':={ s with next:=t.last,wk:=.commit }) hi3 dC rfl (λ_ _=>rfl) rfl rfl λw4 ss4 h4 hf4=>?_;rw[JZ] at h4;refine ax kR ((jY h4 (h.seat_set hi _) hq).mono ?_);rintro _ w5 ⟨rfl,hx⟩;exact⟨rfl,hx.after (s3.trans (fx hf4))⟩
      ·simp only[e7] at hq;rw[ht] at hq;obtain⟨_,_,hq⟩:=bind_some (show(M.gd (!(decide (t.last=0))) >>= λ_=>M.roll (M.setSeat e i { s with next:=t.last,wk:=.roll }) i)=some e' from hq);simp only[RU,show(s.ask.call == 6)=false by rw[e7];rfl];refine cU3 func37 ?_;refine h3.seat1 (s':={ s with next:=t.last,wk:=.roll }) hi3 dC rfl (λ_ _=>rfl) rfl rfl λw4 ss4 h4 hf4=>?_;rw[JZ] at h4;refine ax kR ((pO h4 (h.seat_set hi _) hq).mono ?_);rintro _ w5 ⟨rfl,hx⟩;exact⟨rfl,hx.after (s3.trans (fx hf4))⟩
    ·intro kk hkk;rcases h67 with e|e
     ·simp only[RU,show(s.ask.call == 6)=true from J2.2 e];exact hkk _ _ ⟨rfl,rfl⟩
     ·simp only[RU,show(s.ask.call == 6)=false by rw[e];rfl,show(s.ask.call == 7)=true from J2.2 e];exact hkk _ _ ⟨rfl,rfl⟩
   ·have h6:¬s.ask.call=6:=λe=>h67 (.inl e);have h7:¬s.ask.call=7:=λe=>h67 (.inr e)
    replace hq:((bif M.writes s.ask&&decide (t.xid=0) then(do
      M.gd (M.rightA s.ask 1&&decide (0<e.m / 2 - 2 - M.xGap e.m 1 e.nxt)&&!(decide (e.nxt∈M.running e.txns))&&M.fewT e.txns)
      let e <- M.reserve e 700
      some ({ e with nxt:=M.xAdd e.m e.nxt 1,txns:=cM e.txns (i:Int) { t with xid:=e.nxt } },e.nxt)) else some (e,t.xid):Option (E×Int)) >>= λx=>M.mkP s.ask x.2 >>= λp=>M.follow (M.setSeat x.1 i { M.seatAt x.1 i with plan:=some p,wk:=.follow }) i)=some e':=by
     dsimp only at hq;split at hq
     ·rename_i hk;exact absurd hk hc1
     ·rename_i hk;exact absurd hk h6
     ·rename_i hk;exact absurd hk h7
     ·rw[ht] at hq;exact hq
    obtain⟨⟨e1,x⟩,hx,hq⟩:=bind_some hq;obtain⟨p,hp,hq⟩:=bind_some hq;have hcall:s.ask.call=3\/s.ask.call=4\/s.ask.call=5:=by
     unfold M.mkP at hp;obtain⟨_,hg,_⟩:=bind_some hp;have hg:=ak hg;unfold M.rightA at hg;by_cases k3:s.ask.call=3
     ·exact .inl k3
     ·by_cases k4:s.ask.call=4
      ·exact .inr (.inl k4)
      ·rw[C3 k3,C3 k4,C8,C8] at hg;simp only[E0,C4] at hg;exact .inr (.inr hg.1)
    have n1:=show(s.ask.call == 1)=false from Je.2 hc1;have n6:=show(s.ask.call == 6)=false from Je.2 h6;have n7:=show(s.ask.call == 7)=false from Je.2 h7;have n8:(s.ask.call == 8)=false:=by rcases hcall with e|e|e<;>rw[e]<;>rfl
    have n9:(s.ask.call == 9)=false:=by rcases hcall with e|e|e<;>rw[e]<;>rfl
    simp only[RU,c1,n1,n8,n9];have hse:e1.seats=e.seats:=by
     cases hc:(M.writes s.ask&&decide (t.xid=0)) with
     | false=>rw[hc] at hx;cases hx;rfl
     | true=>rw[hc] at hx;obtain⟨_,_,hx⟩:=bind_some hx;obtain⟨e2,hr,hx⟩:=bind_some hx;cases hx;exact(eG hr:e2.seats=e.seats)
    refine aJ (λvs w3=>vs=[]/\∃O3 a3,RP w3 O3 B e1 u rv yv ss/\Stp O w O3 w3/\w3.heap[b2]?=some (.cells (txV { t with xid:=x } a3) 107)) ?_ ?_
    ·rintro _ w3 ⟨rfl,O3,a3,h3,s3,hb3⟩;have hi3:e1.seats[i]?=some s:=by rw[hse];exact hi
     have hd:=Fm.drew F0 w3;have h3d:=h3.aS hd;obtain⟨_,rr,pl,k1,k2,k3,k4,kc3⟩:=h3d.cW hi3;have hak:aI w3.drew ⟨B.x,23+i*25+1,none⟩ 5=some (.agg (akC s.ask)):=aN (l:=(akC s.ask).toList) rfl λj hj=>by
      rw[aA,(oM:23+i*25+1+j=23+i*25+(1+j)),kc3 (1+j) oM]
      match j,hj with
      | 0,_=>rfl
      | 1,_=>rfl
      | 2,_=>rfl
      | 3,_=>rfl
      | 4,_=>rfl
     simp only[RU,hak,ab hb3];refine(my hp).mono ?_;rintro _ w4 ⟨b4,rfl,hl4,hP4,hf4⟩;have h4:=h3d.aS hf4;simp only[RU,show((0:Int) != 0)=false from rfl];refine(h4.al.x dC).y9 k1 (j:=12) dC rfl λw5 hx5 hs5 hf5=>?_;have hb4:=aj hP4.st;have hxl:=(h3d.al.x dC).lt;have hne:∀y,O3 y=10+i->¬y=B.x:=λy e c=>by rw[c,h3.x0] at e;omega
     have hP5:=hP4.keep hf5 (λy hy e=>oM);have hse5:SeatAt w5 (λy=>y=b4\/blockOf rr=some y) i { s with plan:=some p } (seC i { s with plan:=some p } rr (pv b4)):=⟨rr,pv b4,rfl,(k2.keep hf4 (λ_ _ e=>e)).keep hf5 (λy hy=>hne y (k3 y hy)),λy hy=>.inr hy,b4,nl,nl,nl,rfl,hP5.wide (λy hy=>.inl hy)⟩;obtain⟨O5,h5,g5⟩:=h4.p9 (s':={ s with plan:=some p }) (cs':=seC i { s with plan:=some p } rr (pv b4)) h8 hx5 hf5 hse5 (λy hy=>by
      rcases hy with rfl|hy
      ·exact⟨.inr (h3d.free hl4),oM⟩
      ·exact⟨.inl (k3 y hy),by have:=h4.lt y (by rw[k3 y hy];omega);omega⟩)
     have hi5:({ e1 with seats:=e1.seats.set i { s with plan:=some p } }:E).seats[i]?=some { s with plan:=some p }:=h3.seat_set hi3 _;refine cU3 func37 ?_;refine h5.seat1 (s':={ s with plan:=some p,wk:=.follow }) hi5 dC rfl (λ_ _=>rfl) rfl rfl λw6 ss6 h6' hf6=>?_;rw[JZ] at h6';have hsa:M.seatAt e1 i=s:=h3.at_ hi3;rw[hsa] at hq;refine ax kR ((kx h6' (h3.seat_set hi3 _) hq).mono ?_);rintro _ w7 ⟨rfl,hx7⟩;have hfx:∀{a b:World},Fm (·=B.x) a b->Fm (λy=>O3 y≠99) a b:=λf=>f.mono (λy _ e=>by rw[e,h3.x0];decide);refine⟨rfl,hx7.after ((s3.trans (Stp.gE hd)).trans ⟨⟨g5.old,λy hy=>?_⟩,((hf4.trans (hfx hf5) (λ_ _ e=>e.elim) (λ_ _ e=>e)).trans (hfx hf6) (λ_ _ e=>e) (λ_ _ e=>e))⟩)⟩;rcases g5.new y hy with e|rfl|e
     ·exact .inl e
     ·exact .inr hl4
     ·exact .inl (by rw[k3 y e];omega)
    ·intro kk hkk;refine aJ (λvs w3=>vs=[.bool false]/\w3=w2) ?_ ?_
     ·rintro _ w2 ⟨rfl,rfl⟩;simp only[RU];refine aJ (λvs w3=>vs=[.bool (M.writes s.ask)]/\w3=w2) ?_ ?_
      ·rintro _ w2 ⟨rfl,rfl⟩;cases hw:M.writes s.ask with
       | false=>rw[hw,Jq,C8] at hx;cases hx;simp only[RU];exact hkk _ _ ⟨rfl,O,a,h2,Stp.gE hf2,hb2⟩
       | true=>
        have hr:∀{z:Int},M.rightA s.ask z=true->0<z/\M.rightA s.ask 1=true:=λ{z} hz=>by
         unfold M.writes at hw;unfold M.rightA at hz ⊢;by_cases k3:s.ask.call=3
         ·rw[C9 k3,D8] at hz ⊢;simp only[E0,C4] at hz ⊢;exact⟨hz.2,hz.1,dC⟩
         ·rw[C3 k3,Jf,C4] at hw;rw[C3 k3,C8,C9 hw,D8] at hz ⊢;simp only[E0,C4] at hz ⊢;exact⟨hz.2,hz.1,dC⟩
        obtain⟨hx1,hr1⟩:=hr (by unfold M.mkP at hp;obtain⟨_,hg,_⟩:=bind_some hp;exact ak hg);have hp1:∃q,M.mkP s.ask 1=some q:=by unfold M.mkP;rw[hr1];exact⟨_,rfl⟩
        obtain⟨q1,hp1⟩:=hp1;have hak:aI w2 ⟨B.x,23+i*25+1,none⟩ 5=some (.agg (akC s.ask)):=aN (l:=(akC s.ask).toList) rfl λj hj=>by
         rw[aA,(oM:23+i*25+1+j=23+i*25+(1+j)),kc (1+j) oM]
         match j,hj with
         | 0,_=>rfl
         | 1,_=>rfl
         | 2,_=>rfl
         | 3,_=>rfl
         | 4,_=>rfl
        simp only[RU,hak];refine(my hp1).mono ?_;rintro _ w3 ⟨b3,rfl,_,_,hf3⟩;have h3:=h2.aS hf3;have hb3:=hf3.heap hb2 (λe=>e);simp only[RU,show((0:Int) != 0)=false from rfl,ab hb3];by_cases hx0:t.xid=0
        ·rw[hw,C9 hx0,KE,D8] at hx;obtain⟨_,hg,hx⟩:=bind_some hx;obtain⟨e2,hre,hx⟩:=bind_some hx;cases hx;have hg:=ak hg;simp only[E0,C4,JQ,C7] at hg;have h99:O b2=99:=h.free hl2;simp only[RU,show(t.xid == 0)=true from J2.2 hx0,h3.c 8 dC];refine(kn h3 hre).mono ?_;rintro _ w4 ⟨rfl,h4,hf4⟩;have he2:e2.m=e.m/\e2.nxt=e.nxt/\e2.txns=e.txns:=by unfold M.reserve at hre;obtain⟨_,_,hre⟩:=bind_some hre;cases hre;exact⟨rfl,rfl,rfl⟩
         simp only[RU,show((0:Int) != 0)=false from rfl,h4.c 18 dC];refine(yX h4.mo (h4.al.id dC).st (by rw[he2.1,he2.2.1];exact hg.1.1.2)).mono ?_;rintro _ w5 ⟨rfl,hs5,hf5⟩;obtain⟨h5,hf5⟩:=h4.B8 hs5 hf5;have hd:=Fm.drew F0 w5;have h5d:=h5.aS hd;obtain⟨T,hT⟩:=h5d.al.tx dC;have hi5:e2.seats[i]?=some s:=by rw[show e2.seats=e.seats from eG hre];exact hi
         simp only[RU,show((0:Int) != 0)=false from rfl,h5.c 17 dC,h5.who hi5];refine(vf hT (hT.len (by show M.fewT e2.txns=true;rw[he2.2.2];exact hg.2)).1 (by show getD e2.txns _=_;rw[he2.2.2];exact ht) hx0 hx1 (by show _∉M.running e2.txns;rw[he2.2.2,he2.2.1];exact hg.1.2)).mono ?_;rintro _ w6 ⟨rfl,hT6,hf6⟩;have h6:=h5d.A8 hT6 hf6;have hb6:=hf6.heap (hd.heap (hf5.heap (hf4.heap hb3 (by rw[h99];decide)) (by rw[h99];decide)) (λe=>e)) (by rw[h99];decide);refine au hb6 (j:=2) (dC:2<6) rfl λw7 hw7 hs7 hf7=>?_;have s6:Stp O w O w6:=((((Stp.gE (Fmf hf2 hf3)).trans (Stp.of (Gr.refl _ _) dC hf4)).trans (Stp.of (Gr.refl _ _) dC hf5)).trans (Stp.gE hd)).trans (Stp.of (Gr.refl _ _) dC hf6);exact hkk _ _ ⟨rfl,O,a,h6.iD h99 hf7,s6.loc hf7 hl2,hw7⟩
        ·rw[hw,C3 hx0,J7,C8] at hx;cases hx;simp only[RU,show(t.xid == 0)=false from Je.2 hx0];exact hkk _ _ ⟨rfl,O,a,h3,Stp.gE (Fmf hf2 hf3),hb3⟩
      ·intro kk' hkk';unfold M.writes at hkk';by_cases k3:s.ask.call=3
       ·simp only[RU,show(s.ask.call == 3)=true from J2.2 k3];exact hkk' _ _ ⟨by rw[C9 k3];rfl,rfl⟩
       ·simp only[RU,show(s.ask.call == 3)=false from Je.2 k3];exact hkk' _ _ ⟨by rw[C3 k3];rfl,rfl⟩
     ·intro kk' hkk';simp only[RU,n6,n7];exact hkk' _ _ ⟨rfl,rfl⟩
  ·intro kk hkk;exact txj h hi ht (λw3 b a g1 g2 g3=>hkk _ _ ⟨b,a,rfl,g1,g2,g3⟩)
end
end Go.Proofs.YtmdmffeoehfjgaaGreatDoor
