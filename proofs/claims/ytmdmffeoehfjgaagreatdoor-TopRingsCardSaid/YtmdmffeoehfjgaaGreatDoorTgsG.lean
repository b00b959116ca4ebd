/- Laid for one claim by slim.py out of: parts. -/
import Derived.Test.YtmdmffeoehfjgaaGreatDoorTgsF
set_option maxRecDepth 100000
set_option maxHeartbeats 0
set_option linter.unusedVariables false
set_option linter.unusedSimpArgs false
set_option linter.unusedSectionVars false
open Go.Proofs.Tryz (prog)
namespace Go.Proofs.YtmdmffeoehfjgaaGreatDoor
open Go.Al Go.Proofs
open Go.ChangeMaps (setBlock)
open Go.Proofs.Tryz
open M (Tu keyOk tu dL deadB tuRd fE)
open M (Ent entOk sA fe cmpB vw eM)
open M (Ent entOk sA fe eM)
open M (Tu tu dL fE)
open M (idOk xAdd xGap xBefore)
open M (idOk xAdd Fp it0 it1 plN oQ)
open M (idOk xAdd it0 it1 Vw Tu)
open M (Tu tu dL fE it0)
open M (it0)
open M (Tx)
open M (xGap xAdd idOk)
open Go.RowKit
open M (Tx running)
open M (Pn Ak Rp Ent tu dL entOk sA ent0 rp0 Tu)
open M (E Seat Wk Pn Rp Ak Tx)
attribute [local irreducible] World.drew undef aC aL bj bO faV ixV ixS ixA aW cr ixG unV cvI cvS slS slV lenV bW cy aR aQ aO aB isB Instr.build Instr.buildSlice Instr.lookup Instr.mapUpdate Instr.range Instr.next Instr.entry Instr.makeMap Instr.makeSlice convert binOp Instr.sliceAt Instr.makeInterface Builtin.append_ Builtin.copy_ Builtin.delete_ Builtin.clear_ Builtin.len_ Builtin.cap_ Value.cells
section
variable{w w' w1 w2:World}{B:Bk}{u v rv yv:Value}{O O' O1 O2:Nat->Nat}{e e' e1:E}{ss:List (List Value)}{i:Nat}{s:Seat}
abbrev phs:Array Value:=#[.func (.func 52) #[] #[],.func (.func 53) #[] #[],.func (.func 54) #[] #[],.func (.func 55) #[] #[],.func (.func 56) #[] #[]]
theorem phases_spec:Cl prog 21 [] w λo w'=>o=.agg phs/\Fm F0 w w':=by refine cU0 func21 ?_;refine ae ?_;rintro b1 w1 rfl hs1 hw1 hf1;refine bst phs (ao hw1 (λw2 hw2 hs2 hf2=>?_) rfl rfl rfl);simp only[RU,aa (n:=5) hw2 rfl];exact Fm.own hf1 hf2 (λy e=>oM)
theorem dY(h:RP w O B e u rv yv ss):Cl prog 19 [pv B.x] w λo w'=>o=.bool (decide (e.phase=5))/\Fm F0 w w':=by
 refine cU1 func19 ?_;have hd:=Fm.drew F0 w;refine⟨λwx=>Fm F0 w.drew wx,Fm.refl _ _,?_⟩;simp only[RU];refine⟨iv (e.phase:Nat),λwx hx=>?_,?_⟩
 ·simp only[RU,((h.aS hd).aS hx).c2 2,H7]
 refine phases_spec.mono ?_;rintro _ w2 ⟨rfl,hf2⟩;refine⟨hf2,?_⟩;simp only[RU,show(((e.phase:Nat):Int) == 5)=decide (e.phase=5) by rw[Bool.eq_iff_iff,J2,decide_eq_true_iff];omega];exact Fmf hd hf2
theorem mh(h:i<8):ixA 8 25 (.pointer (some ⟨B.x,23,none⟩)) (iv i)=some (sp B i):=by unfold ixA;dsimp only;rw[IY ⟨oM,oM⟩,aA,H6]
def wkB:Wk->Bool
 | .none=>false
 | _=>true
theorem wW(k:Wk):aC (TypeDesc.func #[38,92] #[36] false) .neq (doV k) Value.nilFunc=some (.bool (wkB k)):=by cases k<;>kernel_rfl
theorem CC(k:Nat):M.goes e k=(wkB (M.seatAt e k).wk&&(getD e.waits (k:Int)).isNone):=by unfold M.goes wkB;cases(M.seatAt e k).wk<;>rfl
theorem nP(h:RP w O B e u rv yv ss)(h5:e.phase=5):Cl prog 22 [pv B.x] w λo w'=>w'.ownsRow w.heap.size 3 1 o (M.runnable e).length ((M.runnable e).map λi=>iv (i:Nat))/\Fm F0 w w':=by
 refine cU1 func22 ?_ (V [(5,[3,16])]) (J [(10,[3])]);refine(dY h).mono ?_;rintro _ w1 ⟨rfl,hf1⟩;have h1:=h.aS hf1;simp only[RU,show decide (e.phase=5)=true from C9 h5,h1.c2 0];refine⟨λvs w3=>∃(o:Value) (k:Nat),vs=[o,iv k]/\k<=8/\w3.ownsRow w.heap.size 3 1 o (((List.range k).filter (M.goes e)).length) (((List.range k).filter (M.goes e)).map λi=>iv (i:Nat))/\Fm F0 w w3,λvs _=>(8 - nth vs 1).toNat,⟨nl,0,rfl,oM,World.ownsRow_nil w1 _ 3 1,hf1⟩,?_⟩;rintro w3 o v1 ⟨o',k,hvs,hk8,ho,hf3⟩;cases hvs;have h3:=h.aS hf3;by_cases hlt:k<8
 ·simp only[RU,C9 (oM:(k:Int)<8),h3.c 16 dC];obtain⟨H,W,hI,_,_,hW⟩:=(h3.al.lk dC).ex;have hlen:=KM (M.goes e) (List.range k);rw[Kb] at hlen;refine aJ (λvs w4=>∃o,vs=[o]/\w4.ownsRow w.heap.size 3 1 o (((List.range (k+1)).filter (M.goes e)).length) (((List.range (k+1)).filter (M.goes e)).map λi=>iv (i:Nat))/\Fm F0 w w4) ?_ ?_
  ·rintro _ w4 ⟨o,rfl,ho4,hf4⟩;simp only[RU,show IntKind.i64.wrap ((k:Int)+1)=((k+1:Nat):Int) by rw[af]<;>omega];exact⟨⟨o,k+1,rfl,oM,ho4,hf4⟩,by simp only[cK];omega⟩
  ·intro kk hkk;rw[List.range_succ,List.filter_append] at hkk;refine(vj hI k).mono ?_;rintro _ _ ⟨rfl,rfl⟩;obtain⟨_,rr,pl,_,_,_,_,kc⟩:=h3.cW (h3.eQ hlt);have hw:(getD W (k:Int)).isSome=!(getD e.waits (k:Int)).isNone:=by rw[hW];cases getD e.waits (k:Int)<;>rfl
   simp only[RU,zj,mh hlt,kc 6 dC,hw];simp only[RU,wW];have hgo:=CC (e:=e) k;cases hb:wkB (M.seatAt e k).wk with
   | false=>rw[hb,Jq] at hgo;simp only[RU];exact hkk _ _ ⟨_,rfl,by simpa[hgo] using ho,hf3⟩
   | true=>
    rw[hb,JD] at hgo;simp only[RU];cases hn:(getD e.waits (k:Int)).isNone with
    | false=>rw[hn] at hgo;simp only[RU];exact hkk _ _ ⟨_,rfl,by simpa[hgo] using ho,hf3⟩
    | true=>rw[hn] at hgo;simp only[RU];refine dk E25 oM 25 (cs:=[iv k]) rfl (dA _ _) (by intro u hu;simp at hu;subst hu;rfl) ho (by unfold maxLen;omega) oM hf3.size ?_;intro v' w5 ho5 _ hf5;exact hkk _ _ ⟨v',rfl,by simpa[hgo] using ho5,Fm.own hf3 hf5 (λy hy=>hy)⟩
 ·obtain rfl:k=8:=oM;simp only[RU,show decide (((8:Nat):Int)<8)=false from rfl];exact⟨ho,hf3⟩
theorem mY(h:RP w O B e u rv yv ss)(h5:e.phase=5)(hi:i<8){a:Ak}(ha:1<=a.call/\a.call<=9)(hq:M.ask e i a=some e'):Cl prog 10 [pv B.x,iv i,.agg (akC a)] w λo w'=>o=iv 0/\Ex O w B e' w':=by
 have hs:=h.eQ hi;unfold M.ask at hq;refine cU3 func10 ?_;refine ae ?_;rintro b1 w1 rfl hs1 hw1 hf1;have h1:=h.aS hf1;cases hk:(M.seatAt e i).wk<;>rw[hk] at hq<;>cases hq;simp only[RU,ab hw1,show decide ((i:Int)<0)=false from C3 oM,show decide ((8:Int)<=i)=false from C3 oM,C3 (oM:¬a.call<1),C3 (oM:¬9<a.call),h1.c2 0];refine(dY h1).mono ?_;rintro _ w2 ⟨rfl,hf2⟩;have h2:=h1.aS hf2;obtain⟨_,rr,pl,k0,_,_,_,kc⟩:=h2.cW hs;have hd:=Fm.drew F0 w2;simp only[RU,show decide (e.phase=5)=true from C9 h5,mh hi,kc 6 dC,wW,hk,wkB,aa (n:=5) (hd.heap (hf2.heap hw1 id) id) rfl];refine bst (seC i { M.seat0 with ask:=a,wk:=.begin } nl np).toArray ⟨rfl,?_⟩;refine((h2.aS hd).al.x dC).A7 (j:=0) (n:=25) k0 rfl dC (G8.1 (by rfl)) λw3 hx3 hs3 hf3=>?_;obtain⟨O',h4,g4⟩:=(h2.aS hd).p9 (s':={ M.seat0 with ask:=a,wk:=.begin }) (cs':=seC i { M.seat0 with ask:=a,wk:=.begin } nl np) (D:=F0) hi (by
  refine cast (IR (λz=>EgB w3 B.x (hdC B e u) (ss.set i z) (tlC B e rv yv)) ?_) hx3
  rfl) hf3 ⟨nl,np,rfl,CellsAt.aT (World.ownsRow_nil w3 0 23 2),(λy hy=>by cases hy),rfl⟩ (λy e=>e.elim)
 exact⟨O',u,rv,yv,_,h4,(Stp.gE (Fmf (Fmf hf1 hf2) hd)).trans ⟨g4.mono (λy e=>e.elim),hf3.mono (λy _ e=>by rw[e,h.x0];decide)⟩⟩
theorem yS(h:RP w O B e u rv yv ss)(hi:e.seats[i]?=some s)(hq:M.stepM e i=some e'):ClV prog (doV s.wk) [pv B.x,sp B i] w λo w'=>o=iv 0/\Ex O w B e' w':=by
 unfold M.stepM at hq;rw[h.at_ hi] at hq;cases hk:s.wk<;>rw[hk] at hq
 ·cases hq
 ·exact ax kR (tI h hi hq)
 ·exact ax kR (kx h hi hq)
 ·exact ax kR (jY h hi hq)
 ·exact ax kR (rG h hi hq)
 ·exact ax kR (pO h hi hq)
end
section
variable{w w' w1 w2:World}{B:Bk}{u v rv yv rv' yv':Value}{O O' O1 O2:Nat->Nat}{e e' e1:E}{ss:List (List Value)}{i:Nat}{s:Seat}{D:Nat->Prop}{p q:Pg}{n:Int}{r:Rc}
theorem RP.t1(h:RP w O B e u rv yv ss){o:Nat}{x:Value}{k:KV}(e':E)(ho:o<8)(hx1:x.oneCell'=true)(ht:(tlC B e rv yv).set o x=tlC B e' rv yv)(hp:e'.phase<=2->yv=nl)(hk:∀w',RP w' O B e' u rv yv ss->Fm (·=B.x) w w'->k undef w')(hh:hdC B e u=hdC B e' u:=by rfl)(h1:e'.s=e.s:=by rfl)(h2:e'.st=e.st:=by rfl)(h3:e'.holds=e.holds:=by rfl)(h4:e'.waits=e.waits:=by rfl)(h5:e'.txns=e.txns:=by rfl)(h6:e'.m=e.m:=by rfl)(h7:e'.nxt=e.nxt:=by rfl)(h8:e'.room=e.room:=by rfl)(h9:e'.recs=e.recs:=by rfl)(h10:e'.met=e.met:=by rfl)(h11:e'.saves=e.saves:=by rfl)(h12:e'.seats=e.seats:=by rfl):St 1 w (.pointer (some ⟨B.x,223+o,none⟩)) x k:=(h.al.x dC).stl ho hx1 λw' hx hs hf=>hk w' (h.cells (e':=e') (by rw[<- hh,<- ht];exact hx) hf h1 h2 h3 h4 h5 h6 h7 h8 h9 h10 h11 h12 hp) hf
theorem RP.A5(h:RP w O B e u rv yv ss)(hx:EgB w' B.x (hdC B e' u) ss (tlC B e' rv' yv'))(hf:Fm (·=B.x) w w')(hrs:RsAt w' D B e'.recs e'.met e'.saves rv' yv')(g:Gr O O' D)(hD:∀y,D y->O' y=7)(hl:∀y,D y->y<w'.heap.size)(hp:e'.phase<=2->yv'=nl)(h1:e'.s=e.s:=by rfl)(h2:e'.st=e.st:=by rfl)(h3:e'.holds=e.holds:=by rfl)(h4:e'.waits=e.waits:=by rfl)(h5:e'.txns=e.txns:=by rfl)(h6:e'.m=e.m:=by rfl)(h7:e'.nxt=e.nxt:=by rfl)(h8:e'.room=e.room:=by rfl)(h12:e'.seats=e.seats:=by rfl):RP w' O' B e' u rv' yv' ss:=by have o:=(h.keep (c:=0) (hf.mono (λy _ e=>by rw[e];exact h.x0))).wide g.old h.sl;exact⟨⟨λ_=>h1▸o.sys dC,λ_=>h2▸o.st dC,λ_=>h3▸h4▸o.lk dC,λ_=>h5▸o.tx dC,λ_=>h6▸h7▸o.id dC,λ_=>h8▸o.sp dC,λ_=>hrs.wide hD,λi s k hi=>o.se i s oM (h12▸hi),λ_=>hx⟩,λy hy=>(g.new y hy).elim (λe=>E3 (h.lt y e) hf.size) (hl y),by rw[g.old _ (by rw[h.x0];decide)];exact h.x0,h12▸h.sl,h6▸h.mo,hp,h.uo⟩
theorem RP.Cw(h:RP w O B e u rv yv ss){met:List Int}(hrs:RsAt w' (O ·=7) B e.recs met e.saves rv yv)(hf:Fm (λy=>O y=7) w w'):RP w' O B { e with met:=met } u rv yv ss:=by have o:=h.keep hf;exact⟨⟨λ_=>o.sys dC,λ_=>o.st dC,λ_=>o.lk dC,λ_=>o.tx dC,λ_=>o.id dC,λ_=>o.sp dC,λ_=>hrs,λi s k hi=>o.se i s oM hi,λ_=>o.x dC⟩,λy hy=>E3 (h.lt y hy) hf.size,h.x0,h.sl,h.mo,h.ph,h.uo⟩
theorem GN{x:Int×Pg}{u:Value}{b:Nat}(hb:w.heap[b]?=some (.cells #[iv x.1] 3)):Cl prog 136 [.agg (imC (x.1,x.2,u)).toArray,pv b] w λo w'=>o=.bool true/\Fm F0 w w':=by refine cU2 func136 ?_;refine ae ?_;rintro b1 w1 rfl hs1 hw1 hf1;simp only[RU,ab hw1,ab (hf1.heap hb id),show(imC (x.1,x.2,u))[0]?=some (iv x.1) from rfl,I0];exact hf1
theorem qN{vi:Value}{L:List (Int×Pg)}{b:Nat}(hi:ImAs w vi L)(hL:L=[]\/∃x:Int×Pg,L=[x]/\x.1=n)(hb:w.heap[b]?=some (.cells #[iv n] 3)):Cl prog 135 [vi,.func (.func 136) #[] #[pv b]] w λo w'=>o=.bool (!L.isEmpty)/\Fm F0 w w':=by
 refine cU2 func135 ?_;rcases hL with rfl|⟨x,rfl,rfl⟩
 ·refine(Hy hi _).mono ?_;rintro _ _ ⟨rfl,rfl⟩;simp only[RU,show decide ((-1:Int) ≥ 0)=false from rfl];exact⟨rfl,Fm.refl _ _⟩
 ·refine(Hz kR GN hi hb).mono ?_;rintro _ _ ⟨rfl,hf⟩;simp only[RU,show decide ((0:Int) ≥ 0)=true from rfl];exact⟨rfl,hf⟩
theorem Held.img{P:Nat->Prop}{vs vm vi vp vt:Value}(h:Held w P (rcs r vs vm vi vp vt) r):ImAs w vi r.imgs:=by
 obtain⟨vs',vm',vi',vp',vt',e,_,_,_,hi,_⟩:=h.now.ex;have:vi=vi':=by have:=IR (λa=>a[13]?) e;simpa[rcs] using this
 rw[this];exact hi
theorem K84:KeyT prog 84 3 4 iv:=dG underlying84 underlying3
theorem lW{n:Int}(hq:M.fetch e n=some (e',p)):∃s',e'={ e with s:=s' }:=by unfold M.fetch at hq;obtain⟨_,_,hq⟩:=bind_some hq;cases hq;exact⟨_,rfl⟩
theorem yr(h:RP w O B e u rv yv ss)(h0:e.phase=0)(hq:M.redo e=some e'):Cl prog 52 [pv B.x] w λo w'=>o=iv 0/\Ex O w B e' w':=by
 obtain⟨⟨C,Q,c1,c2,c3,c4,c5⟩,c6,⟨Mm,m1,m2⟩,m3⟩:=h.al.rs dC;have hy:=h.ph oM;unfold M.redo at hq;refine cU1 func52 ?_ (V [(9,[54])]) (J [(28,[]),(14,[]),(22,[]),(23,[11,12])]);cases hr:e.recs with
 | nil=>
  rw[hr] at hq c2;obtain⟨⟨e1,p⟩,hfe,hq⟩:=E6.1 hq;cases hq;rw[c2] at c1;simp only[RU,h.c2 3,c1.lenV,show(((([]:List Rc).length:Nat):Int) == 0)=true from rfl];refine(dR h hfe).mono ?_;rintro _ w1 ⟨v,rfl,hN,hsm,hf1,O1,h1,s1,hz⟩;obtain⟨s',rfl⟩:=lW hfe;simp only[RU];refine aD (us:=pcs p v) (λw2 hs2 hw2 hf2=>?_) rfl rfl (G8.2 (bA hN.one));have h2:=h1.aS hf2;simp only[RU,aa (n:=6) hw2 rfl];refine(h2.al.x dC).BY (o:=10) rfl dC (bA hN.one) λw3 hx3 hs3 hf3=>?_;have hN2:=hN.keep hf2;have hbx:∀y,PgZ p v y->¬y=B.x:=λy hy e=>by have:=hz y hy;rw[e,h1.x0] at this;cases this
  obtain⟨O3,h3,g3⟩:=h2.B0 (p:=p) (v:=v) hx3 hf3 (hN2.j5 hf3 hbx) hz;simp only[RU,h3.c2 2,h0];refine h3.t1 (o:=2) { e with s:=s',st:=p,phase:=1 } dC rfl rfl (λ_=>hy) (λw4 h4 hf4=>?_);have hx:∀{a b:World},Fm (·=B.x) a b->Fm (λy=>O y≠99) a b:=λf=>f.mono (λy _ e=>by rw[e,h.x0];decide);exact⟨O3,_,_,_,_,h4,s1.g.trans (g3.mono λy e=>hN.fr e.1 y e.2),((s1.trans (Stp.gE hf2)).f.trans (hx hf3) iT iT).trans (hx hf4) iT iT⟩
 | cons r l=>
  rw[hr] at hq c2 c3;obtain⟨c0,C',rfl⟩:∃c0 C',C=c0::C':=by
   cases C with
   | nil=>simp at c2
   | cons a b=>exact⟨a,b,rfl⟩
  have hH:=c3 0 c0 r rfl rfl;obtain⟨vs,vm,vi,vp,vt,rfl,hone,_⟩:=hH.now.ex;obtain⟨n,hn,hq⟩:=bind_some hq;obtain⟨_,hg,hq⟩:=bind_some hq;have hmet:=F9 (ak hg);obtain⟨⟨e1,p⟩,hfe,hq⟩:=bind_some hq;obtain⟨q,hdo,hlay⟩:=bind_some hq;have hcl:C'.length=l.length:=by simpa using c2
  obtain⟨ad,k1,_,k2⟩:=c1.at (i:=0) dC sI .i64
  replace k1:ixV 16 rv (iv 0)=some (.pointer (some ad)):=k1
  have k3:aI w ad 16=some (.agg (rcs r vs vm vi vp vt)):=aN (l:=(rcs r vs vm vi vp vt).toList) rfl λj hj=>by rw[k2 j hj,JX,E7,G1,Jb (show j<16 from hj)]
  simp only[RU,h.c2 3,c1.lenV,show(((((rcs r vs vm vi vp vt)::C').length:Nat):Int) == 0)=false by simp;omega,k1,k3];refine aD (us:=rcs r vs vm vi vp vt) (λw1 hs1 hw1 hf1=>?_) rfl rfl (G8.2 (kX hone.1 hone.2.1 hone.2.2.1 hone.2.2.2.1 hone.2.2.2.2));have h1:=h.aS hf1;obtain⟨rv',k4,k5,k6⟩:=(c1.keep hf1 iT).lo (i:=1) sI .i64
  replace k4:slV 16 rv (some (iv 1)) none none=some rv':=k4
  replace k5:CellsAt w1 rv' C'.length 16 (C'.flatMap Array.toList):=k5
  simp only[RU,h1.c2 3,k4];have h99:O w.heap.size=99:=h.free (D9 _);refine(h1.al.x dC).stl (o:=3) dC (gn k5) λw2 hx2 hs2 hf2=>?_;have hbx7:∀y,O y=7->¬y=B.x:=λy e c=>by rw[c,h.x0] at e;cases e
  have hH2:=(hH.keep hf1 iT).keep hf2 (λy hy=>hbx7 y (c4 y hy).1);have hsv:∀wx,CellsAt wx yv e.saves.length 1 (e.saves.map iv):=λwx=>by
   cases hs:e.saves with
   | nil=>rw[hy];exact CellsAt.aT (World.ownsRow_nil wx 0 3 1)
   | cons a b=>obtain⟨_,_,hb,_⟩:=c6.1.iS (i:=0) (x:=iv a) (by rw[hs];rfl) .i64;rw[hy] at hb;cases hb
  have h2:=h1.A5 (e':={ e with recs:=l }) (rv':=rv') (yv':=yv) (D:=(O ·=7)) (O':=O) hx2 hf2 ⟨⟨C',Q,k5.keep hf2 (λy hy=>hbx7 y (c5 y (k6 y hy)).1),hcl,λi cs r' a b=>((c3 (i+1) cs r' a b).keep hf1 iT).keep hf2 (λy hy=>hbx7 y (c4 y hy).1),c4,λy hy=>c5 y (k6 y hy)⟩,⟨hsv _,c6.2⟩,⟨Mm,(m1.keep hf1 id).keep hf2 (hbx7 _ m3),m2⟩,m3⟩ (Gr.refl _ _) (λ_ e=>e) (λy e=>E3 (h1.lt y (by rw[e];decide)) hf2.size) (λ_=>hy);have hw2:=hf2.heap hw1 (by rintro e;rw[e,h.x0] at h99;cases h99);simp only[RU,aa (n:=16) hw2 rfl];have ht:=BS hn;refine(mM hH2.img ht).mono ?_;rintro tv w3 ⟨htv,hf3⟩;have hL:r.imgs=[]\/∃x:Int×Pg,r.imgs=[x]/\x.1=n:=by
   rcases ht with e|⟨x,e⟩
   ·exact .inl e.1
   ·exact .inr ⟨x,e.1,e.2.1⟩
  simp only[RU,(CellsAt.aT htv).lenV];refine⟨λvs wx=>(vs=[iv 0]/\wx=w3)\/(vs=[iv 1]/\Ex O w B e' wx),λvs _=>(1 - nth vs 0).toNat,.inl ⟨rfl,rfl⟩,?_⟩;rintro wx t (⟨hvs,rfl⟩|⟨hvs,hX⟩)
  ·cases hvs;simp only[RU,show decide ((0:Int)<((1:Nat):Int))=true from rfl];refine aJ (λvs wy=>vs=[]/\Ex O w B e' wy) ?_ ?_
   ·rintro _ wy ⟨rfl,hX⟩;simp only[RU,show IntKind.i64.wrap ((0:Int)+1)=1 from rfl];exact⟨.inr hX,by simp only[ba];decide⟩
   ·intro kk hkk;obtain⟨ad,i1,_,i3⟩:=(CellsAt.aT htv).iS (i:=0) (x:=iv n) rfl .i64
    replace i1:ixV 1 tv (iv 0)=_:=i1
    simp only[RU,i1,i3];refine ae ?_;rintro b4 w4 rfl hs4 hw4 hf4;refine au hw4 (j:=0) dC rfl λw5 hw5 hs5 hf5=>?_
    replace hw5:w5.heap[wx.heap.size]?=some (.cells #[iv n] 3):=hw5
    have hF5:Fm F0 w2 w5:=Fm.own (Fmf hf3 hf4) hf5 (λy e=>by have:=hf3.size;omega);have h5:=h2.aS hF5;have hH5:=hH2.keep hF5 iT;have hr5:RB w5 w.heap.size r vs vm vi vp vt:=⟨hF5.heap hw2 id⟩;simp only[RU,hr5.c13];refine(qN hH5.img hL hw5).mono ?_;rintro _ w6 ⟨rfl,hf6⟩;generalize hm':(bif r.imgs.isEmpty||decide (n∈e.met) then e.met else n::e.met)=met' at hmet hfe hdo hlay;have hF6:=Fmf hF5 hf6;have h6:=h2.aS hF6;have z3:=hf3.size;have z2:=hf2.size;have hOb:∀y,w.heap.size<=y->O y=99:=λy hy=>h.free hy;refine aJ (λvs w7=>vs=[]/\RP w7 O B { e with recs:=l,met:=met' } u rv' yv ss/\Fm (·=B.mt) w6 w7) ?_ ?_
    ·rintro _ w7 ⟨rfl,h7,hf7⟩;have hd7:=Fm.drew F0 w7;have h7d:=h7.aS hd7;have hmb:∀y,w.heap.size<=y->¬y=B.mt:=λy hy e=>by have:=hOb y hy;rw[e,m3] at this;cases this
     have hb7:=hf7.heap (hf6.heap hw5 id) (hmb _ oM);have hw7:=hf7.heap (hF6.heap hw2 id) (hmb _ oM);have hH7:=((hH2.keep hF6 iT).keep hf7 (λy hy e=>(c4 y hy).2 e)).keep hd7 iT;obtain⟨_,_,⟨M7,n1,n2⟩,n3⟩:=h7d.al.rs dC;simp only[RU,h7.c2 5,ab hb7];refine ag (aX K84 n1 n false (z:=.bool false) kR) ?_;have hin:getD M7 n=some true:=by rw[n2];exact IY hmet
     simp only[RU,hin,okV,C8];refine ae ?_;rintro b8 w8 rfl hs8 hw8 hf8;rw[aM] at hs8 hw8 ⊢;have h8:=h7d.aS hf8;have s8:Stp O w O w8:=((((Stp.gE hf1).trans ⟨Gr.refl _ _,hf2.mono λy _ e=>by rw[e,h.x0];decide⟩).trans (Stp.gE hF6)).trans (Stp.of (Gr.refl _ _) (c:=7) dC (hf7.mono λy _ e=>by rw[e];exact m3))).trans (Stp.gE (Fmf hd7 hf8));have hw8':=hf8.heap (hd7.heap hw7 id) id;have hb8':=hf8.heap (hd7.heap hb7 id) id;have hH8:=hH7.keep hf8 iT;refine aJ (λys w9=>ys=[]/\∃v O9,RP w9 O9 B e1 u rv' yv ss/\Stp O w O9 w9/\w9.heap[w7.heap.size]?=some (.cells (pcs p v) 68)/\v.oneCell'=true/\w9.heap[wx.heap.size]?=some (.cells #[iv n] 3)/\w9.heap[w.heap.size]?=some (.cells (rcs r vs vm vi vp vt) 168)/\Held w9 Q (rcs r vs vm vi vp vt) r/\(r.imgs=[]->PgN w9 0 v p/\M.smP p=true)) ?_ ?_
     ·rintro _ w9 ⟨rfl,v,O9,h9,s9,hp9,ho9,hb9,hr9,hH9,hg9⟩;have hd9:=Fm.drew F0 w9;refine⟨rfl,?_⟩;refine aJ (λys wb=>∃bq vq,ys=[pv bq,iv 0]/\wb.heap[bq]?=some (.cells (pcs q vq) 68)/\PgN wb w9.drew.heap.size vq q/\Fm F0 w9 wb) ?_ ?_
      ·rintro _ wb ⟨bq,vq,rfl,hq1,hNq,hfb⟩;have hb:=h9.aS hfb;have zb:=hNq.fr;rw[aM] at zb;simp only[RU,show((0:Int) != 0)=false from rfl,ab (hfb.heap hb9 id),aa (n:=6) hq1 rfl];refine(oK hb hNq (λy hy=>h9.free (zb hy.1 y hy.2)) hlay).mono ?_;rintro _ wc ⟨rfl,hfc,Oc,uc,hc,gc⟩;simp only[RU,show((0:Int) != 0)=false from rfl];have g9:Gr O9 Oc (w.heap.size<=·):=gc.mono λy hy=>by
        rcases hy with e|e
        ·exact F8 (s9.trans (Stp.gE hfb)).f.size e
        ·exact F8 s9.f.size (zb e.1 y e.2)
       exact hkk _ _ ⟨rfl,Oc,uc,rv',yv,ss,hc,s9.g.trans g9,(s9.trans (Stp.gE hfb)).f.trans hfc iT (λy hy e=>by
        have hne:O9 y≠99:=by rcases e with e|e|e<;>(rw[e];decide)
        exact(s9.g.new y hne).elim id (λe=>oM))⟩
      ·intro kk3 hkk3;refine⟨λwx=>Fm F0 w9.drew wx,Fm.refl _ _,.agg (pcs p v),λwy hx=>?_,iv n,λwy hx=>?_,.agg (rcs r vs vm vi vp vt),λwy hx=>?_,?_⟩
       ·simp only[RU,aa (n:=6) ((Fmf hd9 hx).heap hp9 id) rfl,H7]
       ·simp only[RU,ab ((Fmf hd9 hx).heap hb9 id),H7]
       ·simp only[RU,aa (n:=16) ((Fmf hd9 hx).heap hr9 id) rfl,H7]
       ·refine DB (n:=6) (mv:=iv e1.m) (Y:=F0) (λbase w5 us uu=>∃v5,us=pcs q v5/\uu=iv 0/\PgN w5 base v5 q) (λw5 hf5=>fO ((h9.aS hd9).aS hf5)) (λw5 hf5=>?_) (λw5 hf5=>hf5) (λy e=>e.elim) ?_ ?_
        ·have hF:=Fmf hd9 hf5;have him:=(hH9.keep hF iT).img;have hD:Cl prog 137 [iv e1.m,.agg (pcs p v),iv n,.agg (rcs r vs vm vi vp vt)] w5 λo w'=>∃u,o=.tuple #[.agg (pcs q u),iv 0]/\PgN w' w5.heap.size u q/\Fm F0 w5 w':=by
          rcases hL with hi0|⟨x,hi1,hxn⟩
          ·rw[M.doRec,hi0] at hdo;obtain⟨_,hg,hdo⟩:=bind_some hdo;obtain⟨q2,hde,hdo⟩:=bind_some hdo;cases hdo;have hg:=ak hg;simp only[E0,C4] at hg;obtain⟨⟨⟨g1,rfl⟩,g3⟩,g4⟩:=hg;unfold M.inL at g4;have g4:=F9 g4;exact wX ((hg9 hi0).1.keep hF) h9.mo (iz (hg9 hi0).2).1 (F8 g3 dC) him hi0 (by constructor<;>omega) g1 hde
          ·rw[M.doRec,hi1] at hdo;obtain⟨_,hg,hdo⟩:=bind_some hdo;cases hdo;have hg:=ak hg;simp only[E0,C4] at hg;obtain⟨⟨rfl,g3⟩,g4⟩:=hg;unfold M.inL at g4;have g4:=F9 g4;exact Bv him hi1 (by constructor<;>omega) (F8 (iz g3).2 dC)
         refine hD.mono ?_;rintro _ w6 ⟨v5,rfl,hN5,hf6⟩;exact⟨_,_,rfl,rfl,G8.2 (bA hN5.one),⟨v5,rfl,rfl,hN5⟩,hf6⟩
        ·rintro base w5 w6 us uu hb ⟨v5,e1,e2,hN5⟩ hf6;exact⟨v5,e1,e2,hN5.dO hf6 (λy e=>e.2)⟩
        ·rintro base w6 b6 us uu hb hb2 hn hw6 ⟨v5,rfl,rfl,hN5⟩ hf6;exact hkk3 _ _ ⟨b6,v5,rfl,hw6,hN5.base hb,Fmf hd9 hf6⟩
     ·intro kk2 hkk2;rcases hL with hi0|⟨x,hi1,hxn⟩
      ·replace hfe:M.fetch { e with recs:=l,met:=met' } n=some (e1,p):=by rw[hi0] at hfe;exact hfe
       simp only[RU,hi0,List.isEmpty_nil,ab hb8'];refine(dR h8 hfe).mono ?_;rintro _ w9 ⟨v,rfl,hN,hsm,hf9,O9,h9,s9,hz9⟩;have f1:∀y,w.heap.size<=y->¬O y=1:=λy hy e=>by rw[hOb y hy] at e;cases e
       have hd8:=hd7.size;have hf7s:=hf7.size;have hf6s:=hf6.size;simp only[RU];refine ao (hf9.heap hw8 (f1 _ oM)) (λwa hwa hsa hfa=>?_) rfl rfl (G8.2 (bA hN.one));have hlsn:p.lsn<r.lsn:=by rw[M.doRec,hi0] at hdo;obtain⟨_,hg,hdo⟩:=bind_some hdo;have hg:=ak hg;simp only[E0,C4] at hg;exact hg.1.1.1
       have hra:=hfa.heap (hf9.heap hw8' (f1 _ oM)) oM;simp only[RU,show((0:Int) != 0)=false from rfl,ab hwa,ab hra,show(pcs p v)[0]?=some (iv p.lsn) from rfl,show(rcs r vs vm vi vp vt)[0]?=some (iv r.lsn) from rfl,C3 (oM:¬r.lsn<=p.lsn)];have h99':O9 w7.heap.size=99:=s9.free oM (hOb _ oM);refine hkk2 _ _ ⟨rfl,v,O9,h9.iD h99' hfa,(s8.trans s9).loc hfa oM,hwa,hN.one,hfa.heap (hf9.heap hb8' (f1 _ oM)) oM,hra,(hH8.keep hf9 (λy hy e=>by rw[(c4 y hy).1] at e;cases e)).keep hfa (λy hy e=>?_),λ_=>⟨(hN.dO hfa (λy e=>oM)).base (Jd _),hsm⟩⟩;have:=h.lt y (by rw[(c4 y hy).1];decide);omega
      ·replace hfe:e1={ e with recs:=l,met:=met' }/\p=pg0:=by rw[hi1] at hfe;cases hfe;exact⟨rfl,rfl⟩
       obtain⟨rfl,rfl⟩:=hfe;simp only[RU,hi1,List.isEmpty_cons];exact hkk2 _ _ ⟨rfl,nl,O,h8,s8,hw8,rfl,hb8',hw8',hH8,λe=>by rw[hi1] at e;cases e⟩
    ·intro kk2 hkk2;have h6c:=h6.c2 5;simp only[RU,h6c,ab (hf6.heap hw5 id)];rcases hL with hi0|⟨x,hi1,hxn⟩
     ·rw[hi0] at hm'
      replace hm':e.met=met':=hm'
      subst hm';simp only[RU,hi0,List.isEmpty_nil];exact hkk2 _ _ ⟨rfl,h6,Fm.refl _ _⟩
     ·rw[hi1] at hm';simp only[RU,hi1,List.isEmpty_cons];have hd6:=Fm.drew F0 w6;obtain⟨d1,d2,⟨M6,n1,n2⟩,n3⟩:=(h6.aS hd6).al.rs dC;obtain⟨w7,hr7,hm7,hf7,hs7⟩:=bk K84 n1 n true;refine cA hr7 ?_;obtain⟨D1,D2,D3,D4,D5,D6,D7⟩:=d1;have hf7':Fm (λy=>O y=7) w6.drew w7:=hf7.mono λy _ e=>by rw[e];exact n3
      refine hkk2 _ _ ⟨rfl,(h6.aS hd6).Cw (met:=met') ⟨⟨D1,D2,D3.keep hf7 (λy e c=>(D7 y e).2 c),D4,λi cs r' a b=>(D5 i cs r' a b).keep hf7 (λy e c=>(D6 y e).2 c),D6,D7⟩,⟨hsv _,d2.2⟩,⟨_,hm7,λn'=>?_⟩,n3⟩ hf7',hd6.trans hf7 iE iT⟩;show getD (cM M6 n true) n'=_;rw[bl,n2,<- hm'];show _=if n'∈(bif decide (n∈e.met) then e.met else n::e.met) then _ else _
      by_cases hn':n=n'
      ·subst hn';by_cases hm:n∈e.met<;>simp[hm]
      ·by_cases hm:n∈e.met<;>simp[hm,Ne.symm hn']
  ·cases hvs;simp only[RU,show decide ((1:Int)<((1:Nat):Int))=false from rfl];exact hX
end
section
variable{w w' w1 w2:World}{B:Bk}{u v rv yv rv' yv':Value}{O O' O1 O2:Nat->Nat}{e e' e1:E}{ss:List (List Value)}{i:Nat}{s:Seat}{D:Nat->Prop}{p q:Pg}{n:Int}{r:Rc}
theorem next_none:Cl prog 139 [nl] w λo w'=>o=.tuple #[iv 0,.bool false]/\w'=w:=by refine cU1 func139 ?_ (V [(3,[4,9])]);refine⟨λvs w'=>vs=[iv 0,iv 0]/\w'=w,λ_ _=>0,⟨rfl,rfl⟩,?_⟩;rintro w2 v1 v2 ⟨hvs,rfl⟩;cases hvs;simp only[RU,show decide ((0:Int)<((0:Nat):Int))=false from rfl,show decide ((0:Int)<0)=false from rfl,H7]
theorem zh(h:RP w O B e u rv yv ss)(h1:e.phase=1):Cl prog 53 [pv B.x] w λo w'=>o=iv 0/\Ex O w B { e with phase:=2 } w':=by refine cU1 func53 ?_ (V [(1,[])]) (J [(16,[9])]);refine⟨λvs w2=>w2=w,λ_ _=>0,rfl,?_⟩;rintro w2 rfl;simp only[RU,h.c2 4];refine next_none.mono ?_;rintro _ _ ⟨rfl,rfl⟩;simp only[RU,h.c2 2,h1,show IntKind.i64.wrap ((1:Nat)+1:Int)=2 from rfl];refine h.t1 (o:=2) { e with phase:=2 } dC rfl rfl (λ_=>h.ph oM) (λw4 h4 hf4=>?_);exact h4.ex (Stp.of (Gr.refl _ _) (c:=0) dC (hf4.mono λy _ e=>by rw[e];exact h.x0))
theorem RP.h1(h:RP w O B e u rv yv ss){o:Nat}{x:Value}{k:KV}(e':E)(ho:o<23)(hx1:x.oneCell'=true)(ht:(hdC B e u).set o x=hdC B e' u)(hp:e'.phase<=2->yv=nl)(hk:∀w',RP w' O B e' u rv yv ss->Fm (·=B.x) w w'->k undef w')(hh:tlC B e rv yv=tlC B e' rv yv:=by rfl)(h1:e'.s=e.s:=by rfl)(h2:e'.st=e.st:=by rfl)(h3:e'.holds=e.holds:=by rfl)(h4:e'.waits=e.waits:=by rfl)(h5:e'.txns=e.txns:=by rfl)(h6:e'.m=e.m:=by rfl)(h7:e'.nxt=e.nxt:=by rfl)(h8:e'.room=e.room:=by rfl)(h9:e'.recs=e.recs:=by rfl)(h10:e'.met=e.met:=by rfl)(h11:e'.saves=e.saves:=by rfl)(h12:e'.seats=e.seats:=by rfl):St 1 w (.pointer (some ⟨B.x,o,none⟩)) x k:=(h.al.x dC).y7 ho hx1 λw' hx hs hf=>hk w' (h.cells (e':=e') (by rw[<- hh,<- ht];exact hx) hf h1 h2 h3 h4 h5 h6 h7 h8 h9 h10 h11 h12 hp) hf
theorem RP.sx(h:RP w O B e u rv yv ss)(hf:Fm (·=B.x) w1 w2):Stp O w1 O w2:=Stp.of (Gr.refl _ _) (c:=0) dC (hf.mono λy _ e=>by rw[e];exact h.x0)
theorem jr{n:Int}(hq:M.reserve e n=some e'):∃l,e'=M.lg e l:=by unfold M.reserve at hq;obtain⟨_,_,hq⟩:=bind_some hq;cases hq;exact⟨_,rfl⟩
theorem rJ(h:RP w O B e u rv yv ss)(h4:e.phase=4)(hq:M.phaseM e=some e'):Cl prog 56 [pv B.x] w λo w'=>o=iv 0/\Ex O w B e' w':=by
 obtain⟨e,rfl⟩:∃e0:E,e={ e0 with phase:=4 }:=⟨e,by rw[<- h4]⟩;unfold M.phaseM at hq;have hd:=Fm.drew F0 w;have hdr:=h.aS hd;refine cU1 func56 ?_ (V []) (J [(10,[])]);simp only[RU,h.c2 7,h.c 20 dC];by_cases hle:e.fresh<=e.at_
 ·dsimp only at hq;rw[C9 hle,D8] at hq;obtain⟨e1,hr,hq⟩:=bind_some hq;cases hq;obtain⟨l,rfl⟩:=jr hr;simp only[RU,C9 hle,h.c 8 dC];refine(kn hdr hr).mono ?_;rintro _ w1 ⟨rfl,h1,hf1⟩;simp only[RU,show((0:Int) == 0)=true from rfl];refine h1.h1 (o:=22) { M.lg e l with kept:=true,phase:=4 } dC rfl rfl (λe=>absurd e (dC:¬(4:Nat)<=2)) λw2 h2 hf2=>?_;simp only[RU,h2.c2 2,show IntKind.i64.wrap ((4:Nat)+1:Int)=5 from rfl];refine h2.t1 (o:=2) { M.lg e l with kept:=true,phase:=5 } dC rfl rfl (λe=>absurd e (dC:¬(5:Nat)<=2)) λw3 h3 hf3=>?_;exact h3.ex ((((Stp.gE hd).trans (Stp.of (Gr.refl _ _) dC hf1)).trans (h.sx hf2)).trans (h.sx hf3))
 ·dsimp only at hq;rw[C3 hle,C8] at hq;obtain⟨_,hg,hq⟩:=bind_some hq;obtain⟨⟨e1,p⟩,hfe,hq⟩:=bind_some hq;obtain⟨_,hk,hq⟩:=bind_some hq;obtain⟨x,hr,hq⟩:=bind_some hq;cases hq;have hg:=F9 (ak hg);have hk:=F9 (ak hk);rw[hg] at hle;simp only[RU,C3 hle,hg,show IntKind.i64.wrap ((2:Int)+1)=3 from rfl];refine hdr.t1 (o:=7) { e with at_:=3,phase:=4 } dC rfl rfl h.ph λw1 h1 hf1=>?_;refine(dR h1 hfe).mono ?_;rintro _ w2 ⟨v,rfl,hN,hsm,hf2,O2,h2,s2,hz2⟩;simp only[RU];refine aD (us:=pcs p v) (λw3 hs3 hw3 hf3=>?_) rfl rfl (G8.2 (bA hN.one));have s3:Stp O w O2 w3:=(((Stp.gE hd).trans (h.sx hf1)).trans s2).trans (Stp.gE hf3);refine aJ (λvs w4=>vs=[]/\RP w4 O2 B { e1 with room:=some x } u rv yv ss/\Stp O w O2 w4) ?_ ?_
  ·rintro _ w4 ⟨rfl,h4,s4⟩;simp only[RU];exact h4.ex s4
  ·intro kk hkk;simp only[RU,show((0:Int) == 0)=true from rfl,aa (n:=6) hw3 rfl];refine(ji (h2.aS hf3) (hN.keep hf3) (rm:=some x) (by rw[C9 hk,D8,hr];rfl)).mono ?_;rintro _ w4 ⟨rfl,h4,hf4⟩;exact hkk _ _ ⟨rfl,h4,s3.trans (Stp.of (Gr.refl _ _) (c:=6) dC (hf4.mono λy _ e=>by rw[e];exact(h4.al.sp dC).ob.2))⟩
theorem yT(h:RP w O B e u rv yv ss)(hg:e.s.d.sync.2=0):Cl prog 142 [pv B.x] w λo w'=>o=iv 0/\RP w' O B { e with s:=⟨e.s.p.synced,e.s.l,e.s.d.sync.1⟩ } u rv yv ss/\Stp O w O w':=by
 refine cU1 func142 ?_;simp only[RU,h.c 0 dC];refine bsl 2 #[.func (.func 70) #[pv B.db] #[],.func (.func 187) #[pv B.x] #[]] 126 ?_;have hfa:=Fm.alloc F0 w (.cells #[.func (.func 70) #[pv B.db] #[],.func (.func 187) #[pv B.x] #[]] 126);have hcs:CellsAt (w.alloc (.cells #[.func (.func 70) #[pv B.db] #[],.func (.func 187) #[pv B.x] #[]] 126)) (.slice (some ⟨w.heap.size,0,none⟩) 2 2) 2 1 [.func (.func 70) #[pv B.db] #[],.func (.func 187) #[pv B.x] #[]]:=CellsAt.aT (cY (w:=w) (e:=126) (sz:=1) (n:=2) (l:=[.func (.func 70) #[pv B.db] #[],.func (.func 187) #[pv B.x] #[]]) rfl (D9 _) dC);have ha:=h.aS hfa;generalize w.alloc (.cells #[.func (.func 70) #[pv B.db] #[],.func (.func 187) #[pv B.x] #[]] 126)=wa at hfa ha hcs ⊢;refine(Dh (F:=[.func (.func 70) #[pv B.db] #[],.func (.func 187) #[pv B.x] #[]]) (λi wx=>Fm (λy=>O y=1) wa wx/\match i with
  | 0=>RP wx O B e u rv yv ss
  | 1=>RP wx O B { e with s:=⟨e.s.p,e.s.l,e.s.d.sync.1⟩ } u rv yv ss
  | _=>RP wx O B { e with s:=⟨e.s.p.synced,e.s.l,e.s.d.sync.1⟩ } u rv yv ss) (dC:2<=100) ⟨Fm.refl _ _,ha⟩ (λi wx hx=>hcs.keep hx.1 (λy hy=>by cases hy;rw[h.free (D9 _)];decide)) ?_).mono ?_
 ·rintro i f wx hi ⟨hx,hR⟩ k hk
  match i,hi with
  | 0,hi=>
   cases hi
   replace hR:RP wx O B e u rv yv ss:=hR
   refine ax kR ((yU hR.sys).mono ?_);rintro _ wy ⟨rfl,hs,hy⟩;rw[hg];exact hk _ ⟨hx.trans hy iT iT,(hR.oP hs hy).1⟩
  | 1,hi=>
   cases hi
   replace hR:RP wx O B { e with s:=⟨e.s.p,e.s.l,e.s.d.sync.1⟩ } u rv yv ss:=hR
   refine ax kR ?_;refine cU1 func187 ?_;simp only[RU,hR.c 9 dC];refine(mJ hR.sys).mono ?_;rintro _ wy ⟨hs,hy⟩;exact hk _ ⟨hx.trans hy iT iT,(hR.oP hs hy).1⟩
 ·rintro _ wx ⟨rfl,hx,hR⟩;exact⟨rfl,hR,(Stp.gE hfa).trans (Stp.of (Gr.refl _ _) dC hx)⟩
theorem yG(h:RP w O B e u rv yv ss)(h3:e.phase=3)(hq:M.phaseM e=some e'):Cl prog 55 [pv B.x] w λo w'=>o=iv 0/\Ex O w B e' w':=by
 obtain⟨c1,c2,c3,c4⟩:=h.al.rs dC;obtain⟨e,rfl⟩:∃e0:E,e={ e0 with phase:=3 }:=⟨e,by rw[<- h3]⟩;unfold M.phaseM at hq;dsimp only at hq;refine cU1 func55 ?_;simp only[RU,h.c2 6,c2.1.lenV];cases hs:e.saves with
 | nil=>rw[hs] at hq;obtain⟨_,hg,hq⟩:=bind_some hq;cases hq;simp only[RU,show decide ((0:Int)<((([]:List Int).length:Nat):Int))=false from rfl,h.c2 2,show IntKind.i64.wrap ((3:Nat)+1:Int)=4 from rfl];refine h.t1 (o:=2) { e with phase:=4 } dC rfl rfl (λe=>absurd e (dC:¬(4:Nat)<=2)) λw1 h1 hf1=>?_;refine h1.t1 (o:=7) { e with phase:=4,at_:=2 } dC rfl rfl (λe=>absurd e (dC:¬(4:Nat)<=2)) λw2 h2 hf2=>?_;refine(yT h2 (F9 (ak hg))).mono ?_;rintro _ w3 ⟨rfl,h3,s3⟩;simp only[RU];have:=h3.ex (((h.sx hf1).trans (h.sx hf2)).trans s3);rw[hs] at this;exact this
 | cons n l=>
  rw[hs] at hq;obtain⟨_,hg,hq⟩:=bind_some hq;cases hq;rw[hs] at c2;obtain⟨ad,k1,_,k2⟩:=c2.1.iS (i:=0) (x:=iv n) rfl .i64
  replace k1:ixV 1 yv (iv 0)=_:=k1
  obtain⟨yv',k4,k5,k6⟩:=c2.1.lo (i:=1) sI .i64
  replace k4:slV 1 yv (some (iv 1)) none none=some yv':=k4
  replace k5:CellsAt w yv' l.length 1 (l.map iv):=k5
  simp only[RU,(sI:decide ((0:Int)<(((n::l).length:Nat):Int))=true),k1,k2,h.c2 6,k4];have hbx:∀y,O y=7->¬y=B.x:=λy e c=>by rw[c,h.x0] at e;cases e
  refine(h.al.x dC).stl (o:=6) dC (gn k5) λw1 hx1 hs1 hf1=>?_;have h1:=h.A5 (e':={ e with saves:=l,phase:=3 }) (rv':=rv) (yv':=yv') (D:=(O ·=7)) (O':=O) hx1 hf1 ⟨by
   obtain⟨C,Q,d1,d2,d3,d4,d5⟩:=c1;exact⟨C,Q,d1.keep hf1 (λy e=>hbx y (d5 y e).1),d2,λi cs r' a b=>(d3 i cs r' a b).keep hf1 (λy e=>hbx y (d4 y e).1),d4,d5⟩,⟨k5.keep hf1 (λy e=>hbx y (c2.2 y (k6 y e))),λy e=>c2.2 y (k6 y e)⟩,by
   obtain⟨Mm,m1,m2⟩:=c3;exact⟨Mm,m1.keep hf1 (hbx _ c4),m2⟩,c4⟩ (Gr.refl _ _) (λ_ e=>e) (λy e=>E3 (h.lt y (by rw[e];decide)) hf1.size) (λe=>absurd e (dC:¬(3:Nat)<=2))
  simp only[RU,h1.c 9 dC];refine(uY h1.sys n).mono ?_;rintro _ w2 ⟨rfl,hs2,hf2⟩;simp only[RU,F9 (ak hg)];exact(h1.oP hs2 hf2).1.ex ((h.sx hf1).trans (h1.oP hs2 hf2).2)
theorem tY(h:RP w O B e u rv yv ss)(h2:e.phase=2)(hq:M.phaseM e=some e'):Cl prog 54 [pv B.x] w λo w'=>o=iv 0/\Ex O w B e' w':=by
 obtain⟨e,rfl⟩:∃e0:E,e={ e0 with phase:=2 }:=⟨e,by rw[<- h2]⟩;obtain⟨c1,c2,c3,c4⟩:=h.al.rs dC;unfold M.phaseM at hq;dsimp only at hq;obtain⟨_,hg,hq⟩:=bind_some hq;cases hq;have hd:=Fm.drew F0 w;have hg:=ak hg;simp only[E0,C4,G8] at hg;obtain rfl:=h.ph (D9 2);generalize hL:(e.s.p.owed.map (·.1)).foldr M.insI []=L at hg ⊢;have hmem:∀n,n∈L↔n∈e.s.p.owed.map (·.1):=λn=>by
  rw[<- hL];generalize e.s.p.owed.map (·.1)=l;induction l with
  | nil=>exact Iff.rfl
  | cons a l ih=>rw[List.foldr_cons,nB,ih,H3]
 have hlen:=qQ L 0 8192 dC (λx hx=>hg.2 x hx) hg.1.2;have hgD:∀n,getD e.s.p.owed n=getD (L.map λn=>(n,(getD e.s.p.owed n).getD 0)) n:=λn=>by
  by_cases hn:n∈L
  ·obtain⟨k,hk,rfl⟩:=List.mem_iff_getElem.1 hn;have:=nt (D:=L.map λn=>(n,(getD e.s.p.owed n).getD 0)) (by rw[JG];show(L.map id).Pairwise _;rw[List.map_id];exact hg.1.2) (i:=k) (x:=(L[k],(getD e.s.p.owed L[k]).getD 0)) (by rw[E4,C6 hk];rfl);rw[this];obtain⟨v,hv⟩:=Option.ne_none_iff_exists'.1 (show getD e.s.p.owed L[k]≠none from λc=>getD_none.1 c ((hmem _).1 hn));rw[hv];rfl
  ·rw[getD_none.2 (λc=>hn ((hmem _).2 c)),getD_none.2 (by rw[JG];show n∉L.map id;rw[List.map_id];exact hn)]
 refine cU1 func54 ?_ (V [(5,[43])]);simp only[RU,h.c2 7,h.c2 4,C3 (oM:¬e.at_<((0:Nat):Int)),h.c 9 dC];have hdr:=h.aS hd;obtain⟨Xl,Xp,Q,F,g1,g2⟩:=hdr.sys;refine(ri g1.hP hgD (by rw[JG];show(L.map id).Pairwise _;rw[List.map_id];exact hg.1.2) (λx hx=>by obtain⟨n,hn,rfl⟩:=E8.1 hx;exact hg.2 n hn)).mono ?_;rintro tv w1 ⟨ho,hf1⟩;rw[H2] at ho;have h1:=hdr.aS hf1;simp only[RU,(CellsAt.aT ho).lenV];refine⟨λvs w3=>∃(k:Nat) (yv':Value),vs=[iv k]/\k<=L.length/\EgB w3 B.x (hdC B e u) ss (tlC B { e with phase:=2 } rv yv')/\w3.ownsRow w1.heap.size 3 1 yv' k ((L.take k).map iv)/\Fm (·=B.x) w1 w3,λvs _=>(L.length - nth vs 0).toNat,⟨0,nl,rfl,Jd _,h1.al.x dC,World.ownsRow_nil _ _ _ _,Fm.refl _ _⟩,?_⟩;rintro w3 v1 ⟨k,yv',hvs,hk,hx3,ho3,hf3⟩;cases hvs;have hlt:=h1.lt B.x (by rw[h.x0];decide);by_cases hkl:k<L.length
 ·have e1:L[k]?=some L[k]:=C6 hkl;have et:=H8 (l:=L) (i:=k);rw[e1] at et;generalize L[k]=n at e1 et;have hbx3:B.x<w1.heap.size:=hlt;obtain⟨ad,k1,_,k2⟩:=((CellsAt.aT ho).keep hf3 (λy hy e=>by have:=fl ho hy;have:=hdr.lt B.x (by rw[h.x0];decide);omega)).at dC hkl .i64;have k3:aI w3 ad 2=some (.agg (pc2 (n,(getD e.s.p.owed n).getD 0)).toArray):=aN (l:=pc2 (n,(getD e.s.p.owed n).getD 0)) rfl λj hj=>by rw[k2 j hj];exact dD (f:=pc2) (λ_=>rfl) (by rw[E4,e1];rfl) hj
  simp only[RU,C9 (oM:(k:Int)<(L.length:Int)),k1,k3];refine aD (us:=#[iv n,iv ((getD e.s.p.owed n).getD 0)]) (λw4 hs4 hw4 hf4=>?_) rfl rfl rfl;have hd4:=Fm.drew F0 w4;have hx4:=(hx3.keep hf4 id).keep hd4 id;refine⟨λwx=>Fm F0 w4.drew wx,Fm.refl _ _,yv',λwx hx=>?_,?_⟩
  ·simp only[RU,show wx.cell? ⟨B.x,229,none⟩=some yv' from(hx4.keep hx id).A3 (o:=6),H7]
  simp only[RU,ab hw4];refine ag (Hs n w4.drew) ⟨Fm.alloc _ _ _,?_⟩;have hfA:=Fm.alloc F0 w4.drew (.cells #[iv n] 3);have hn:=ay w4.drew (.cells #[iv n] 3);have hF:=Fmf (Fmf hf4 hd4) hfA;have z3:=hf3.size;have zF:=hF.size;obtain⟨v',w6,hr6,ho6,hf6,_⟩:=fI (P:=prog) E25 dC (ah ho3 hF (λ_ _ _ _ e=>e)) 25 ⟨w4.drew.heap.size,0,none⟩ 1 1 [iv n] rfl (λj u hj=>by rw[aA,ab hn,E7,I5];exact hj) (by intro u hu;simp at hu;subst hu;rfl) (by unfold maxLen;omega) oM oM;refine ag hr6 ?_;have hx6:=(hx4.keep hfA id).keep hf6 oM;refine hx6.stl (o:=6) dC (az ho6) λw7 hx7 hs7 hf7=>?_;simp only[RU,show IntKind.i64.wrap ((k:Int)+1)=((k+1:Nat):Int) by rw[af]<;>omega];refine⟨⟨k+1,v',rfl,oM,hx7,?_,?_⟩,by simp only[ba];omega⟩
  ·rw[et,Kg];exact ah ho6 hf7 (λy hy _ _ e=>oM)
  ·exact((hf3.trans hF iT iE).trans hf6 iT (λy hy e=>oM)).trans hf7 iT iT
 ·obtain rfl:k=L.length:=oM;rw[IX] at ho3;simp only[RU,C3 (oM:¬((L.length:Nat):Int)<(L.length:Int)),show w3.cell? ⟨B.x,225,none⟩=some (iv ((2:Nat):Int)) from hx3.A3 (o:=2),show IntKind.i64.wrap (((2:Nat):Int)+1)=3 from rfl];refine hx3.stl (o:=2) dC rfl λw4 hx4 hs4 hf4=>?_;obtain⟨O',t1,t2,t3⟩:=tag O (λy=>O y=7\/blockOf yv'=some y) 7 (λy hy=>hy.imp id (λe=>h1.free (kN ho3 e)));have hbx:∀y,O y=7->¬y=B.x:=λy e c=>by rw[c,h.x0] at e;cases e
  have hF:=hf3.trans hf4 iT iT;obtain⟨c1,c2,c3,c4⟩:=h1.al.rs dC;have ho4:=ah ho3 hf4 (λy hy _ _ e=>oM);have h4:=h1.A5 (e':={ e with phase:=3,saves:=L }) (rv':=rv) (yv':=yv') (D:=λy=>O y=7\/blockOf yv'=some y) (O':=O') hx4 hF ⟨by
   obtain⟨C,Q,d1,d2,d3,d4,d5⟩:=c1;exact⟨C,Q,d1.keep hF (λy e=>hbx y (d5 y e).1),d2,λi cs r' a b=>(d3 i cs r' a b).keep hF (λy e=>hbx y (d4 y e).1),λy e=>⟨.inl (d4 y e).1,(d4 y e).2⟩,λy e=>⟨.inl (d5 y e).1,(d5 y e).2⟩⟩,⟨CellsAt.aT ho4,λy e=>.inr e⟩,by
   obtain⟨Mm,m1,m2⟩:=c3;exact⟨Mm,m1.keep hF (hbx _ c4),m2⟩,.inl c4⟩ ⟨t1,t3⟩ t2 (λy e=>e.elim (λe=>E3 (h1.lt y (by rw[e];decide)) hF.size) (λe=>(aP ho4 y (@blo yv' y yv' (aZ (CellsAt.aT ho4)) e)).2)) (λe=>absurd e (dC:¬(3:Nat)<=2))
  exact h4.ex ((Stp.gE (Fmf hd hf1)).trans ⟨⟨t1,λy hy=>(t3 y hy).elim .inl λe=>e.elim (λe=>.inl (by rw[e];decide)) (λe=>.inr (kN ho3 e))⟩,hF.mono λy _ e=>by rw[e,h.x0];decide⟩)
end
section
variable{w w' w1 w2:World}{B:Bk}{u v rv yv rv' yv':Value}{O O' O1 O2:Nat->Nat}{e e' e1:E}{ss:List (List Value)}{i:Nat}{s:Seat}{n k:Int}{r:Rp}
theorem si{P:Program}{fv:Value}{args:List Value}{w:World}{k k':KV}(h:ClV P fv args w k)(hk:∀v w',k v w'->k' v w'):ClV P fv args w k':=by
 refine⟨?_⟩;have h:=h.out;revert h;unfold ClV0;split
 ·rename_i g x y;cases jw P g
  ·exact id
  ·exact λh=>Cl.mono h hk
 ·exact id
theorem CI{j:Nat}{f:Value}(h:phs[j]?=some f):ixG false 5 1 (.agg phs) (iv j)=some f:=by
 rw[<- h];rcases j with _|_|_|_|_|j
 ·kernel_rfl
 ·kernel_rfl
 ·kernel_rfl
 ·kernel_rfl
 ·kernel_rfl
 ·cases h
theorem uE(h:RP w O B e u rv yv ss)(hq:M.phaseM e=some e'):∃f,phs[e.phase]?=some f/\ClV prog f [pv B.x] w λo w'=>o=iv 0/\Ex O w B e' w':=by
 match hp:e.phase with
 | 0=>refine⟨_,rfl,ax kR (yr h hp ?_)⟩;unfold M.phaseM at hq;rw[hp] at hq;exact hq
 | 1=>refine⟨_,rfl,ax kR ?_⟩;unfold M.phaseM at hq;rw[hp] at hq;cases hq;exact zh h hp
 | 2=>exact⟨_,rfl,ax kR (tY h hp hq)⟩
 | 3=>exact⟨_,rfl,ax kR (yG h hp hq)⟩
 | 4=>exact⟨_,rfl,ax kR (rJ h hp hq)⟩
 | n+5=>unfold M.phaseM at hq;rw[hp] at hq;cases hq
theorem yF(h:RP w O B e u rv yv ss)(h5:e.phase≠5)(hq:M.phaseM { e with pick:=k }=some e'):Cl prog 11 [pv B.x,iv n,iv k] w λo w'=>(∃x,o=.tuple #[x,iv 0])/\Ex O w B e' w':=by
 refine cU3 func11 ?_ (V []) (J [(16,[8,9])]);simp only[RU,h.c2 0];refine h.t1 (o:=1) { e with pick:=k } dC rfl rfl h.ph λw1 h1 hf1=>?_;refine aJ (λvs w2=>∃x,vs=[x,iv 0]/\Ex O w B e' w2) ?_ ?_
 ·rintro _ w2 ⟨x,rfl,hx⟩;simp only[RU,show((0:Int) != 0)=false from rfl];exact⟨⟨x,rfl⟩,hx⟩
 ·intro kk hkk;refine(dY h1).mono ?_;rintro _ w2 ⟨rfl,hf2⟩;simp only[RU,show decide (({ e with pick:=k }:E).phase=5)=false from C3 h5];have h2:=h1.aS hf2;have hd:=Fm.drew F0 w2;refine⟨λwx=>Fm F0 w2.drew wx,Fm.refl _ _,iv (e.phase:Nat),λwx hx=>?_,?_⟩
  ·simp only[RU,((h2.aS hd).aS hx).c2 2,H7]
  refine phases_spec.mono ?_;rintro _ w3 ⟨rfl,hf3⟩;obtain⟨f,hf,hc⟩:=uE ((h2.aS hd).aS hf3) hq;simp only[RU,hf3,CI hf];refine si hc ?_;rintro _ w4 ⟨rfl,hx⟩;exact hkk _ _ ⟨_,rfl,hx.after ((h.sx hf1).trans (Stp.gE (Fmf (Fmf hf2 hd) hf3)))⟩
theorem nO(h:RP w O B e u rv yv ss)(h5:e.phase=5)(hq:M.runN e n k=some e'):Cl prog 11 [pv B.x,iv n,iv k] w λo w'=>(∃x,o=.tuple #[x,iv 0])/\Ex O w B e' w':=by
 unfold M.runN at hq;have hge:M.runnable { e with pick:=k }=M.runnable e:=rfl;cases hg:(M.runnable e)[ga (M.runnable e).length n]? with
 | none=>rw[hg] at hq;cases hq
 | some i=>
 rw[hg] at hq;have hi8:i<8:=by have:=F7 hg;unfold M.runnable at this;exact JP.1 (Kh.1 this).1
 refine cU3 func11 ?_ (V []) (J [(16,[8,9])]);simp only[RU,h.c2 0];refine h.t1 (o:=1) { e with pick:=k } dC rfl rfl h.ph λw1 h1 hf1=>?_;refine aJ (λvs w2=>∃x,vs=[x,iv 0]/\Ex O w B e' w2) ?_ ?_
 ·rintro _ w2 ⟨x,rfl,hx⟩;simp only[RU,show((0:Int) != 0)=false from rfl];exact⟨⟨x,rfl⟩,hx⟩
 ·intro kk hkk;refine(dY h1).mono ?_;rintro _ w2 ⟨rfl,hf2⟩;have h2:=h1.aS hf2;simp only[RU,show decide (({ e with pick:=k }:E).phase=5)=true from C9 h5];refine(nP h2 h5).mono ?_;rintro tv w3 ⟨ho,hf3⟩;rw[hge] at ho;have h3:=h2.aS hf3;have hlt:=(E2.1 hg).1;obtain⟨z1,z2,z3,z4⟩:=gC (n:=(M.runnable e).length) oM n;have hl8:(M.runnable e).length<=8:=by unfold M.runnable;exact F8 (KM _ _) sI
  obtain⟨ad,i1,_,i3⟩:=(CellsAt.aT ho).iS (i:=ga (M.runnable e).length n) (x:=iv i) (by rw[E4,hg];rfl) .i64;have i1':ixV 1 tv (iv (ga (M.runnable e).length n:Nat))=_:=i1;obtain⟨_,rr,pl,_,_,_,_,kc⟩:=h3.cW (h3.eQ hi8);have hd:=Fm.drew F0 w3;simp only[RU,(CellsAt.aT ho).lenV,show((((M.runnable e).length:Nat):Int) == 0)=false from Je.2 oM,jI _ (oM:(0:Int)<((M.runnable e).length:Nat)),show IntKind.i64.wrap (n.tmod ((M.runnable e).length:Nat)+((M.runnable e).length:Nat))=n.tmod ((M.runnable e).length:Nat)+((M.runnable e).length:Nat) by rw[af]<;>omega,z2,i1',i3,mh hi8,kc 6 dC];refine si (yS (h3.aS hd) (h3.eQ hi8) hq) ?_;rintro _ w4 ⟨rfl,hx⟩;exact hkk _ _ ⟨_,rfl,hx.after ((h.sx hf1).trans (Stp.gE (Fmf (Fmf hf2 hf3) hd)))⟩
theorem jb(h:RP w O B e u rv yv ss)(hi:e.seats[i]?=some s)(ht:s.told=false):Cl prog 12 [pv B.x,iv i] w λo w'=>o=.tuple #[.agg (rpC M.rp0 nl),.bool false]/\Fm F0 w w':=by have h8:=(h.cW hi).1;refine cU2 func12 ?_;refine ae ?_;rintro b1 w1 rfl hs1 hw1 hf1;have h1:=h.aS hf1;obtain⟨_,rr,pl,k0,k1,k2,k3,kc⟩:=h1.cW hi;simp only[RU,show decide ((i:Int)<0)=false from C3 oM,show decide ((8:Int)<=i)=false from C3 oM,mh h8,kc 7 dC,ht];refine bst (rpC M.rp0 nl) (ao hw1 (λw2 hw2 hs2 hf2=>?_) rfl rfl rfl);simp only[RU,aa (n:=4) hw2 rfl];exact Fm.own hf1 hf2 (λy e=>oM)
theorem RP.B2(h:RP w' O' B e1 u rv yv ss)(he:e1=e')(k:Stp O w O' w'):Ex O w B e' w':=he▸h.ex k
theorem gq(h:RP w O B e u rv yv ss)(hi:e.seats[i]?=some s)(hq:M.replyM e i=some (e',r)):Cl prog 12 [pv B.x,iv i] w λo w'=>∃rr,o=.tuple #[.agg (rpC r rr),.bool true]/\CellsAt w' rr r.rows.length 2 (r.rows.flatMap rowL)/\(∀y,blockOf rr=some y->O y≠99)/\Ex O w B e' w':=by
 have h8:=(h.cW hi).1;unfold M.replyM at hq;rw[h.at_ hi] at hq;cases ht:s.told with
 | false=>rw[ht] at hq;cases hq
 | true=>
 rw[ht,D8] at hq;cases hq;refine cU2 func12 ?_;refine ae ?_;rintro b1 w1 rfl hs1 hw1 hf1;have h1:=h.aS hf1;obtain⟨_,rr,pl,k0,k1,k2,k3,kc⟩:=h1.cW hi;simp only[RU,show decide ((i:Int)<0)=false from C3 oM,show decide ((8:Int)<=i)=false from C3 oM,mh h8,kc 7 dC,ht];have hcv:aI w1 ⟨B.x,23+i*25+8,none⟩ 4=some (.agg (rpC s.rep rr)):=aN (l:=(rpC s.rep rr).toList) rfl λj hj=>by
  rw[aA,(oM:23+i*25+8+j=23+i*25+(8+j)),kc (8+j) (by have:j<4:=hj;omega)]
  match j,hj with
  | 0,_=>rfl
  | 1,_=>rfl
  | 2,_=>rfl
  | 3,_=>rfl
 simp only[RU,hcv];have hone:(rpC s.rep rr).toList.all Value.oneCell'=true:=by simp[gn k1];exact⟨rfl,rfl,rfl⟩
 refine aD (us:=rpC s.rep rr) (λw2 hs2 hw2 hf2=>?_) rfl rfl hone;have h2:=h1.aS hf2;refine bst (rpC M.rp0 nl) ?_;refine h2.seat1 (j:=7) (s':={ s with told:=false }) hi dC rfl (λ_ _=>rfl) rfl rfl λw3 ss3 h3 hf3=>?_;have hi3:=h2.seat_set hi { s with told:=false };obtain⟨_,rr3,pl3,q0,q1,q2,q3,_⟩:=h3.cW hi3;refine(h3.al.x dC).A7 (j:=8) (n:=4) q0 rfl dC (G8.1 (by rfl)) λw4 hx4 hs4 hf4=>?_;have hne:∀y,O y=10+i->¬y=B.x:=λy e c=>by rw[c,h.x0] at e;omega
 have h4:=h3.mK (s':={ s with told:=false,rep:=M.rp0 }) (cs':=seC i { s with told:=false,rep:=M.rp0 } nl pl3) h8 (by
  refine cast (IR (λz=>EgB w4 B.x (hdC B e u) (ss3.set i z) (tlC B e rv yv)) ?_) hx4
  rfl) hf4 ⟨nl,pl3,rfl,CellsAt.aT (World.ownsRow_nil w4 0 23 2),(λy hy=>by cases hy),q3.keep hf4 hne⟩
 have hb0:∀y,w.heap.size<=y->¬y=B.x:=λy hy c=>by have:=h.free hy;rw[c,h.x0] at this;cases this
 have z1:=hf1.size;have F14:Fm (·=B.x) w1 w4:=(hf2.trans hf3 (λ_ _ e=>e.elim) (λ_ _ e=>e)).trans hf4 (λ_ _ e=>e) (λ_ _ e=>e);simp only[RU,aa (n:=4) (hf4.heap (hf3.heap hw2 (hb0 _ oM)) (hb0 _ oM)) rfl];refine ao (F14.heap hw1 (hb0 _ (D9 _))) (λw5 hw5 hs5 hf5=>?_) rfl rfl hone;simp only[RU,aa (n:=4) hw5 rfl];refine⟨rr,rfl,(k1.keep F14 (λy hy=>hne y (k2 y hy))).keep hf5 (λy hy e=>?_),λy hy=>by rw[k2 y hy];omega,?_⟩
 ·have:=k2 y hy;rw[e,h.free (D9 _)] at this;omega
 ·have h5:=h4.iD (h.free (D9 _)) hf5;refine h5.B2 ?_ ((Stp.gE hf1).trans (h.sx F14) |>.loc hf5 (D9 _));show({ e with seats:=(e.seats.set i _).set i _ }:E)=_;rw[JZ]
  rfl
end
open M (Ctl iM)
section
variable{w w':World}{c:Ctl}
abbrev cfC(c:Ctl):Array Value:=#[iv c.frames,iv c.m,iv c.secs,iv c.pages]
abbrev ctC(c:Ctl):Array Value:=#[iv c.frames,iv c.m,iv c.secs,iv c.pages,iv 1,iv 1,iv 0]
def eT(c:Ctl):Bool:=decide (4<=c.frames/\c.frames<=64/\16<=c.m/\c.m<=1024/\160<=c.secs/\c.secs<=4096/\4<=c.pages/\c.pages<=4096/\vG .i64 c.m 1=0)&&decide ((iM c).length=64)&&decide (([4,4,4,4,4,6,6].foldl (λ(s:Bs×List Int) k=>(s.1.drop k,s.2++[(ofN (s.1.take k):Int)])) (iM c,[])).2=[1,c.frames,c.m,c.secs,c.pages,1,0])
theorem in_spec{a b d:Int}:Cl prog 162 [iv a,iv b,iv d] w λo w'=>o=.bool (decide (b<=a)&&decide (a<=d))/\w'=w:=by
 refine cU3 func162 ?_;by_cases h:b<=a
 ·simp only[RU,C9 h,JD,H7]
 ·simp only[RU,C3 h,Jq,H7]
theorem mI(h:eT c=true):Cl prog 144 [.agg (cfC c)] w λo w'=>o=.bool true/\Fm F0 w w':=by unfold eT at h;simp only[E0,C4] at h;obtain⟨⟨⟨h1,h2,h3,h4,h5,h6,h7,h8,h9⟩,_⟩,_⟩:=h;refine cU1 func144 ?_;refine ae ?_;rintro b1 w1 rfl hs1 hw1 hf1;have cc:=λo=>ab (off:=o) hw1;simp only[RU,cc];refine in_spec.mono ?_;rintro _ _ ⟨rfl,rfl⟩;simp only[RU,C9 h1,C9 h2,JN,cc];refine in_spec.mono ?_;rintro _ _ ⟨rfl,rfl⟩;simp only[RU,C9 h3,C9 h4,JN,cc,show aC (.int .i64) .and (iv c.m) (iv 1)=some (iv 0) from by rw[fJ,h9],show((0:Int) == 0)=true from rfl];refine in_spec.mono ?_;rintro _ _ ⟨rfl,rfl⟩;simp only[RU,C9 h5,C9 h6,JN,cc];refine in_spec.mono ?_;rintro _ _ ⟨rfl,rfl⟩;simp only[RU,C9 h7,C9 h8,JN];exact hf1
theorem unsound_spec:Cl prog 144 [.agg #[iv 0,iv 0,iv 0,iv 0]] w λo w'=>o=.bool false/\Fm F0 w w':=by refine cU1 func144 ?_;refine ae ?_;rintro b1 w1 rfl hs1 hw1 hf1;have cc:=λo=>ab (off:=o) hw1;simp only[RU,cc];refine in_spec.mono ?_;rintro _ _ ⟨rfl,rfl⟩;simp only[RU,show decide ((4:Int)<=0)=false from rfl,Jq];exact hf1
theorem gB(h:eT c=true):Cl prog 58 [.agg (cfC c)] w λo w'=>o=.tuple #[.agg #[iv 2,iv (2+c.secs),iv (M.sectors c)],iv 0]/\Fm F0 w w':=by have hh:=h;unfold eT at hh;simp only[E0,C4] at hh;obtain⟨⟨⟨h1,h2,h3,h4,h5,h6,h7,h8,h9⟩,_⟩,_⟩:=hh;refine cU1 func58 ?_;refine ae ?_;rintro b1 w1 rfl hs1 hw1 hf1;refine ae ?_;rintro b2 w2 rfl hs2 hw2 hf2;have hw12:=hf2.heap hw1 id;simp only[RU,aa (n:=4) hw12 rfl];refine(mI h).mono ?_;rintro _ w3 ⟨rfl,hf3⟩;have hw13:=hf3.heap hw12 id;have hw23:=hf3.heap hw2 id;have cc:=λo=>ab (off:=o) hw13;simp only[RU,cc,show IntKind.i64.wrap (2+c.secs)=2+c.secs by rw[af]<;>omega];refine bst #[iv 2,iv (2+c.secs),iv 0] ?_;refine aD (us:=#[iv 2,iv (2+c.secs),iv 0]) (λw4 hs4 hw4 hf4=>?_) rfl rfl rfl;have cc:=λo=>ab (off:=o) (hf4.heap hw13 id);simp only[RU,ab hw4,cc,show IntKind.i64.wrap (8*c.pages)=8*c.pages by rw[af]<;>omega,show IntKind.i64.wrap (2+c.secs+8*c.pages)=2+c.secs+8*c.pages by rw[af]<;>omega];refine au hw4 (j:=2) (dC:2<3) rfl λw5 hw5 hs5 hf5=>?_;have z3:=hf3.size;simp only[RU,aa (n:=3) hw5 rfl];refine ao (hf5.heap (hf4.heap hw23 id) oM) (λw6 hw6 hs6 hf6=>?_) rfl rfl rfl;simp only[RU,aa (n:=3) hw6 rfl];exact⟨rfl,Fm.own (Fm.own (Fmf (Fmf (Fmf hf1 hf2) hf3) hf4) hf5 (λy e=>by have:=hf1.size;omega)) hf6 (λy e=>oM)⟩
theorem rH(h:eT c=true):Cl prog 23 [.agg (cfC c)] w λo w'=>o=.tuple #[iv (M.sectors c),iv 0]/\Fm F0 w w':=by refine cU1 func23 ?_;refine ae ?_;rintro b1 w1 rfl hs1 hw1 hf1;simp only[RU,aa (n:=4) hw1 rfl];refine(gB h).mono ?_;rintro _ w2 ⟨rfl,hf2⟩;simp only[RU];refine aD (us:=#[iv 2,iv (2+c.secs),iv (M.sectors c)]) (λw3 hs3 hw3 hf3=>?_) rfl rfl rfl;simp only[RU,ab hw3];exact Fmf (Fmf hf1 hf2) hf3
theorem CH{n:Nat}{cs:Array Value}{i:Nat}(h:i<n):ixG false n 1 (.agg cs) (iv i)=cs[i]? := by unfold ixG aW;dsimp only;rw[IY ⟨oM,oM⟩,H6,IZ,C8]
theorem FB{k:World->Prop}{L:List Int}{W m:Int}{n b:Nat}{l0:Bs}(hb:Bld w b l0)(hL:∀x∈L,In x)(hn:n=L.length)(hm:m=L.length)(hlen:L.length<=8)(hsz:l0.length<=1000)(K:∀w',Bld w' b (l0++L.flatMap (eV · W))->Fm (b<=·) w w'->k w'):∃(I:LP) (μ:LN),I [iv 0] w/\∀(w2:World) (v1:Value),I [v1] w2->Pu (aC (.int .i64) .lss v1 (iv m)) λv2=>IfB v2 (Pu (ixG false n 1 (.agg (L.map iv).toArray) v1) λv=>Cl prog 159 [v,iv W] w2 λv w=>Cl prog 151 [pv b,v] w λ_ w=>Pu (aC (.int .i64) .add v1 (iv 1)) λv=>I [v] w/\μ [v] w<μ [v1] w2) (k w2):=by
 subst hn hm;refine⟨λvs w2=>∃i:Nat,vs=[iv i]/\i<=L.length/\Bld w2 b (l0++(L.take i).flatMap (eV · W))/\Fm (b<=·) w w2,λvs _=>(L.length - nth vs 0).toNat,⟨0,rfl,Jd _,by simpa using hb,Fm.refl _ _⟩,?_⟩;rintro w2 v1 ⟨i,hvs,hi,hB,hf⟩;cases hvs;have hfl:∀M:List Int,(M.flatMap (eV · W)).length<=8*M.length:=λM=>by
  induction M with
  | nil=>simp
  | cons x M ih=>rw[G1,C5,G2];have:=bK x W;omega
 by_cases hlt:i<L.length
 ·have e1:L[i]?=some L[i]:=C6 hlt;have et:=H8 (l:=L) (i:=i);rw[e1] at et;have hin:=hL L[i] (Jk hlt);generalize L[i]=x at e1 et hin;simp only[RU,C9 (oM:(i:Int)<(L.length:Int)),CH hlt,show(L.map iv).toArray[i]?=some (iv x) by simp[e1]];refine(bt w2 hin W).mono ?_;rintro _ w3 ⟨rfl,hf3⟩;have:=hfl (L.take i);have hz:=bK x W;rw[E5] at this;refine(bR (hB.keep hf3) _ (by rw[C5];omega)).mono ?_;rintro _ w4 ⟨hB4,hf4⟩;simp only[RU,show IntKind.i64.wrap ((i:Int)+1)=((i+1:Nat):Int) by rw[af]<;>omega];exact⟨⟨i+1,rfl,hlt,by rw[et];simpa using hB4,(hf.trans hf3 iT iE).trans hf4 iT iT⟩,by simp only[ba];omega⟩
 ·obtain rfl:i=L.length:=oM;rw[IX] at hB;simp only[RU,C3 (oM:¬((L.length:Nat):Int)<(L.length:Int))];exact K w2 hB hf
theorem oz(h:eT c=true):Cl prog 72 [.agg (ctC c)] w λo w'=>o=.tuple #[stv (iM c),iv 0]/\Fm F0 w w':=by
 have hh:=h;unfold eT at hh;simp only[E0,C4] at hh;obtain⟨⟨⟨h1,h2,h3,h4,h5,h6,h7,h8,h9⟩,_⟩,_⟩:=hh;refine cU1 func72 ?_ (V [(10,[58]),(5,[46])]);refine ae ?_;rintro b1 w1 rfl hs1 hw1 hf1;simp only[RU,show aI w1 ⟨w.heap.size,0,none⟩ 4=some (.agg (cfC c)) from aN (l:=(cfC c).toList) rfl (λj hj=>by rw[aA,ab hw1];match j,hj with|0,_=>rfl|1,_=>rfl|2,_=>rfl|3,_=>rfl)];refine(mI h).mono ?_;rintro _ w2 ⟨rfl,hf2⟩;have hw12:=hf2.heap hw1 id;have cc:=λo=>ab (off:=o) hw12;simp only[RU,cc];refine in_spec.mono ?_;rintro _ _ ⟨rfl,rfl⟩;simp only[RU,show decide ((1:Int)<=1)=true from rfl,show Int.ofNat 4294967295=4294967295 from rfl,show Int.ofNat 281474976710655=281474976710655 from rfl,show decide ((1:Int)<=4294967295)=true from rfl,JN,cc];refine in_spec.mono ?_;rintro _ _ ⟨rfl,rfl⟩;simp only[RU,show decide ((1:Int)<=1)=true from rfl,show decide ((1:Int)<=281474976710655)=true from rfl,JN,cc];refine in_spec.mono ?_;rintro _ w2 ⟨rfl,rfl⟩;simp only[RU,show decide ((0:Int)<=0)=true from rfl,show decide ((0:Int)<=281474976710655)=true from rfl,JN];refine ae ?_;rintro b3 w3 rfl hs3 hw3 hf3;have cc:=λo=>ab (off:=o) (hf3.heap hw12 id);have hin:∀x∈[1,c.frames,c.m,c.secs,c.pages],In x:=λx hx=>by simp at hx;rcases hx with rfl|rfl|rfl|rfl|rfl<;>constructor<;>omega
 have hz1:=hf1.size;have hz2:=hf2.size;have hzb:=aj hw12;simp only[RU,cc];refine bst #[iv 1,iv c.frames,iv c.m,iv c.secs,iv c.pages] ?_;refine FB (L:=[1,c.frames,c.m,c.secs,c.pages]) (W:=4) (b:=w2.heap.size) (l0:=[]) (Bld.new hw3) hin rfl rfl (dC:5<=8) dC λw4 hB4 hf4=>?_;have cc4:=λo=>ab (off:=o) (hf4.heap (hf3.heap hw12 id) oM);simp only[RU,cc4];refine bst #[iv 1,iv 0] ?_;have hl1:((([]:Bs)++[1,c.frames,c.m,c.secs,c.pages].flatMap (eV · 4)).length)<=40:=by simp only[G1,Kp,C5,H9,H1];have:=bK 1 4;have:=bK c.frames 4;have:=bK c.m 4;have:=bK c.secs 4;have:=bK c.pages 4;omega
 refine FB (L:=[1,0]) (W:=6) (b:=w2.heap.size) hB4 (λx hx=>by simp at hx;rcases hx with rfl|rfl<;>constructor<;>decide) rfl rfl dC oM λw5 hB5 hf5=>?_;have hl2:(([1,0]:List Int).flatMap (eV · 6)).length<=16:=dC;refine(bT w5 28 dC).mono ?_;rintro _ w6 ⟨rfl,hf6⟩;refine(bR (hB5.keep hf6) _ (by rw[C5,show(aG 28).length=28 from rfl];omega)).mono ?_;rintro _ w7 ⟨hB7,hf7⟩;have cc7:=λo=>ab (off:=o) (hf7.heap (hf6.heap (hf5.heap (hf4.heap (hf3.heap hw12 id) oM) oM) id) oM);simp only[RU,cc7];refine(bt w7 (show In 1 by constructor<;>decide) 4).mono ?_;rintro _ w8 ⟨rfl,hf8⟩;refine(bR (hB7.keep hf8) _ (by rw[C5,C5,show(aG 28).length=28 from rfl];have:=bK 1 4;omega)).mono ?_;rintro _ w9 ⟨hB9,hf9⟩;refine(eX hB9).mono ?_;rintro _ wa ⟨rfl,_,hfa⟩;have e:∀{x y:Int},0<=x->1<=y->y<=8->eV x y=beN y.toNat x.toNat:=λ{x y} h0 h1 h8=>by
  unfold eV;rw[C3 (oM:¬y<1),C3 (oM:¬8<y),C3 (oM:¬x<0)]
  rfl
 refine⟨?_,?_⟩
 ·simp only[G1,Kp,H9,H1,G7];rw[e (x:=c.frames) oM dC dC,e (x:=c.m) oM dC dC,e (x:=c.secs) oM dC dC,e (x:=c.pages) oM dC dC]
  rfl
 ·have F3:Fm (w2.heap.size<=·) w3 wa:=((((((hf4.trans hf5 iT iT).trans hf6 iT iE).trans hf7 iT iT).trans hf8 iT iE).trans hf9 iT iT)).trans hfa iT iT;exact Fm.own (Fmf (Fmf hf1 hf2) hf3) F3 (λy hy=>oM)
theorem wE:Cl prog 72 [.agg #[iv 0,iv 0,iv 0,iv 0,iv 0,iv 0,iv 0]] w λo w'=>o=.tuple #[stv [],iv 1]/\Fm F0 w w':=by refine cU1 func72 ?_ (V [(10,[58]),(5,[46])]);refine ae ?_;rintro b1 w1 rfl hs1 hw1 hf1;simp only[RU,show aI w1 ⟨w.heap.size,0,none⟩ 4=some (.agg #[iv 0,iv 0,iv 0,iv 0]) from aN (l:=[iv 0,iv 0,iv 0,iv 0]) rfl (λj hj=>by rw[aA,ab hw1];match j,hj with|0,_=>rfl|1,_=>rfl|2,_=>rfl|3,_=>rfl)];refine unsound_spec.mono ?_;rintro _ w2 ⟨rfl,hf2⟩;simp only[RU];exact Fmf hf1 hf2
theorem Dz{l:Bs}{b k:Nat}(hb:w.heap[b]?=some (.cells #[stv l] 9))(hk:k<=l.length)(hl:l.length<=1000):Cl prog 253 [iv k,pv b] w λo w'=>o=iv (ofN (l.take k):Nat)/\w'.heap[b]?=some (.cells #[stv (l.drop k)] 9)/\Fm (·=b) w w':=by refine cU2 func253 ?_;simp only[RU,ab hb,gl hk .i64];refine(cX w (l.take k) (by rw[E5];omega)).mono ?_;rintro _ _ ⟨rfl,rfl⟩;simp only[RU,ab hb,eP hk .i64];refine au hb (j:=0) (dC:0<1) rfl λw2 hw2 hs2 hf2=>?_;exact⟨hw2,hf2⟩
theorem ox{l t:Bs}{x0 x1 x2 x3 x4 x5 x6 er place:Int}(hl:l.length=64)(hv:([4,4,4,4,4,6,6].foldl (λ(s:Bs×List Int) k=>(s.1.drop k,s.2++[(ofN (s.1.take k):Int)])) (l,[])).2=[x0,x1,x2,x3,x4,x5,x6])(hE:∀w:World,Cl prog 72 [.agg #[iv x1,iv x2,iv x3,iv x4,iv x0,iv x5,iv x6]] w λo w'=>o=.tuple #[stv t,iv er]/\Fm F0 w w')(hok:er=0->t=l/\vG .i64 x0 1=place):Cl prog 165 [stv l,iv place] w λo w'=>o=(bif decide (er=0) then .tuple #[.agg #[iv x1,iv x2,iv x3,iv x4,iv x0,iv x5,iv x6],iv 0] else .tuple #[.agg #[iv 0,iv 0,iv 0,iv 0,iv 0,iv 0,iv 0],iv 223])/\Fm F0 w w':=by
 simp only[Kv,List.foldl_nil,H9,Jj,Ku,and_true] at hv;obtain⟨h0,h1,h2,h3,h4,h5,h6⟩:=hv;refine cU2 func165 ?_;refine ae ?_;rintro b1 w1 rfl hs1 hw1 hf1;simp only[RU,hl,show(((64:Nat):Int) != 64)=false from rfl];refine ae ?_;rintro b2 w2 rfl hs2 hw2 hf2;refine au hw2 (j:=0) dC rfl λw3 hw3 hs3 hf3=>?_;refine ae ?_;rintro b4 w4 rfl hs4 hw4 hf4;have tk:∀{w0:World} {t:Bs} {k:Nat} {K:KV},w0.heap[w1.heap.size]?=some (.cells #[stv t] 9)->k<=t.length->t.length<=64->(∀w',w'.heap[w1.heap.size]?=some (.cells #[stv (t.drop k)] 9)->Fm (·=w1.heap.size) w0 w'->K (iv (ofN (t.take k):Nat)) w')->ClV prog (.func (.func 253) #[] #[pv w1.heap.size]) [iv k] w0 K:=λh1 h2 h3 h4=>ax kR ((Dz h1 h2 oM).mono (by rintro _ w' ⟨rfl,k1,k2⟩;exact h4 w' k1 k2));have hne:¬w3.heap.size=w1.heap.size:=oM;have l1:(l.drop 4).length=60:=by rw[G4];omega
 have l2:((l.drop 4).drop 4).length=56:=by rw[G4];omega
 have l3:(((l.drop 4).drop 4).drop 4).length=52:=by rw[G4];omega
 have l4:((((l.drop 4).drop 4).drop 4).drop 4).length=48:=by rw[G4];omega
 have l5:(((((l.drop 4).drop 4).drop 4).drop 4).drop 4).length=44:=by rw[G4];omega
 have l6:((((((l.drop 4).drop 4).drop 4).drop 4).drop 4).drop 6).length=38:=by rw[G4];omega
 refine tk (k:=4) (hf4.heap hw3 (λe=>e)) oM oM λw5 k5 hf5=>?_;rw[h0];have c5:=hf5.heap hw4 hne;simp only[RU];refine au c5 (j:=4) (dC:4<7) rfl λw6 c6 hs6 hf6=>?_;refine tk (k:=4) (hf6.heap k5 (λe=>hne e.symm)) oM oM λw7 k7 hf7=>?_;rw[h1];refine tk (k:=4) k7 oM oM λw8 k8 hf8=>?_;rw[h2];refine tk (k:=4) k8 oM oM λw9 k9 hf9=>?_;rw[h3];refine tk (k:=4) k9 oM oM λwa ka hfa=>?_;rw[h4];refine bst #[iv x1,iv x2,iv x3,iv x4] ?_;have ca:=hfa.heap (hf9.heap (hf8.heap (hf7.heap c6 hne) hne) hne) hne;refine bZ ca rfl (dC:0+4<=7) (G8.1 (by rfl)) λwb cb hsb hfb=>?_
 replace cb:wb.heap[w3.heap.size]?=some (.cells #[iv x1,iv x2,iv x3,iv x4,iv x0,iv 0,iv 0] 63):=cb
 refine tk (k:=6) (hfb.heap ka (λe=>hne e.symm)) oM oM λwc kc hfc=>?_;rw[h5];refine tk (k:=6) kc oM oM λwd kd hfd=>?_;rw[h6];have cd:=hfd.heap (hfc.heap cb hne) hne;refine au cd (j:=5) (dC:5<7) rfl λwe ce hse hfe=>?_;refine au ce (j:=6) (dC:6<7) rfl λwf cf hsf hff=>?_
 replace cf:wf.heap[w3.heap.size]?=some (.cells #[iv x1,iv x2,iv x3,iv x4,iv x0,iv x5,iv x6] 63):=cf
 simp only[RU,aa (n:=7) cf rfl];refine(hE wf).mono ?_;rintro _ wg ⟨rfl,hfg⟩;have cg:=hfg.heap cf (λe=>e);have z1:=hf1.size;have z2:=hf2.size;have hS:∀y,(y=w3.heap.size\/y=w1.heap.size)->w.heap.size<=y/\¬y=w.heap.size:=λy hy=>by omega
 have F4:Fm (λy=>y=w3.heap.size\/y=w1.heap.size) w4 wg:=((((((((((hf5.trans hf6 (λ_ _ e=>.inr e) (λ_ _ e=>.inl e)).trans hf7 (λ_ _ e=>e) (λ_ _ e=>.inr e)).trans hf8 (λ_ _ e=>e) (λ_ _ e=>.inr e)).trans hf9 (λ_ _ e=>e) (λ_ _ e=>.inr e)).trans hfa (λ_ _ e=>e) (λ_ _ e=>.inr e)).trans hfb (λ_ _ e=>e) (λ_ _ e=>.inl e)).trans hfc (λ_ _ e=>e) (λ_ _ e=>.inr e)).trans hfd (λ_ _ e=>e) (λ_ _ e=>.inr e)).trans hfe (λ_ _ e=>e) (λ_ _ e=>.inl e)).trans hff (λ_ _ e=>e) (λ_ _ e=>.inl e)).trans hfg (λ_ _ e=>e) (λ_ _ e=>e.elim);have w1g:=F4.heap (hf4.heap (hf3.heap (hf2.heap hw1 (λe=>e)) oM) (λe=>e)) oM;have F0g:Fm F0 w wg:=Fm.own (Fmf (Fm.own (Fmf hf1 hf2) hf3 (λy e=>oM)) hf4) F4 (λy e=>(hS y e).1);by_cases he:er=0
 ·obtain⟨rfl,hp⟩:=hok he;subst he;simp only[RU,show((0:Int) != 0)=false from rfl,ab cg,fJ,hp];simp only[RU,show decide True=true from rfl,(sI:(place != place)=false),aa (n:=7) cg rfl];refine ao w1g (λwh hwh hsh hfh=>?_) rfl rfl rfl;simp only[RU,aa (n:=7) hwh rfl];exact⟨rfl,Fm.own F0g hfh (λy e=>oM)⟩
 ·simp only[RU,show(er != 0)=true from bne_iff_ne.2 he];refine bst #[iv 0,iv 0,iv 0,iv 0,iv 0,iv 0,iv 0] (ao w1g (λwh hwh hsh hfh=>?_) rfl rfl rfl);simp only[RU,aa (n:=7) hwh rfl,C3 he,C8];exact Fm.own F0g hfh (λy e=>oM)
theorem kH(h:eT c=true):Cl prog 77 [stv (aG 64),stv (iM c)] w λo w'=>o=.tuple #[.agg (ctC c),iv 0]/\Fm F0 w w':=by have hh:=h;unfold eT at hh;simp only[E0,C4] at hh;obtain⟨⟨_,hl⟩,hv⟩:=hh;refine cU2 func77 ?_;refine ae ?_;rintro b1 w1 rfl hs1 hw1 hf1;refine(ox (l:=aG 64) (t:=[]) (x0:=0) (x1:=0) (x2:=0) (x3:=0) (x4:=0) (x5:=0) (x6:=0) (er:=1) (place:=0) rfl dC (λw=>wE) (λe=>by cases e)).mono ?_;rintro _ w2 ⟨rfl,hf2⟩;simp only[RU,show decide ((1:Int)=0)=false from rfl,C8];refine aD (us:=#[iv 0,iv 0,iv 0,iv 0,iv 0,iv 0,iv 0]) (λw3 hs3 hw3 hf3=>?_) rfl rfl rfl;refine(ox (place:=1) (er:=0) hl hv (λw=>oz h) (λ_=>⟨rfl,kR⟩)).mono ?_;rintro _ w4 ⟨rfl,hf4⟩;simp only[RU,show decide True=true from rfl,D8];refine aD (us:=ctC c) (λw5 hs5 hw5 hf5=>?_) rfl rfl rfl;simp only[RU,show((0:Int) == 0)=true from rfl,show((223:Int) != 0)=true from rfl];simp only[RU,aa (n:=7) hw5 rfl];have F5:=Fmf (Fmf (Fmf hf2 hf3) hf4) hf5;refine ao (F5.heap hw1 id) (λw6 hw6 hs6 hf6=>?_) rfl rfl rfl;simp only[RU,aa (n:=7) hw6 rfl];exact Fm.own (Fmf hf1 F5) hf6 (λy e=>oM)
theorem okA:eT M.ctlA=true:=kR
theorem okP:eT M.ctlP=true:=kR
end
open M (Ctl findX findP kL xL xBefore xAdd)
section
variable{w w':World}{c:Ctl}{rv vs vm vi vp vt:Value}{rs:List Rc}{r:Rc}{m:Int}
def RcL(w:World)(rv:Value)(rs:List Rc):Prop:=∃(C:List (Array Value)) (Q:Nat->Prop),CellsAt w rv C.length 16 (C.flatMap Array.toList)/\C.length=rs.length/\∀(i:Nat) cs r,C[i]?=some cs->rs[i]?=some r->Held w Q cs r
theorem RcL.keep(h:RcL w rv rs)(hf:Fm F0 w w'):RcL w' rv rs:=by obtain⟨C,Q,h1,h2,h3⟩:=h;exact⟨C,Q,h1.keep hf iT,h2,λi cs r a b=>(h3 i cs r a b).keep hf iT⟩
theorem RcL.len(h:RcL w rv rs):lenV rv=some (iv (rs.length:Nat)):=by obtain⟨C,Q,h1,h2,h3⟩:=h;rw[h1.lenV,h2]
theorem RcL.le(h:RcL w rv rs):rs.length<=9223372036854775807:=by obtain⟨C,Q,⟨⟨a,c,_,h1,h2,_⟩,_⟩,h3,_⟩:=h;unfold maxLen at h2;omega
theorem BB:∀{C:List (Array Value)} {i j:Nat} {cs:Array Value},(∀c∈C,c.size=16)->C[i]?=some cs->j<16->(C.flatMap Array.toList)[i*16+j]?=cs.toList[j]?
 | [],i,j,cs,_,hi,_=>by simp at hi
 | a::C,0,j,cs,h,hi,hj=>by simp at hi;subst hi;rw[G1,JX,E7,Jb (by have:=h a Js;simpa[this] using hj)]
 | a::C,i+1,j,cs,h,hi,hj=>by
  have e:a.toList.length=16:=by have:=h a Js;simpa using this
  rw[G1,I1 oM,e,(oM:(i+1)*16+j - 16=i*16+j)];exact BB (λc hc=>h c (Jp _ hc)) (by simpa using hi) hj
theorem RcL.ld(h:RcL w rv rs){i:Nat}(hi:rs[i]?=some r):∃ad vs vm vi vp vt,ixV 16 rv (iv i)=some (.pointer (some ad))/\(rcs r vs vm vi vp vt).toList.all Value.oneCell'=true/\∀w',Fm F0 w w'->aI w' ad 16=some (.agg (rcs r vs vm vi vp vt))/\ImAs w' vi r.imgs:=by
 obtain⟨C,Q,h1,h2,h3⟩:=h;have hl:=(E2.1 hi).1;have hc:C[i]?=some C[i]:=C6 oM;have hsz:∀c∈C,c.size=16:=λc hc=>by obtain⟨j,hj,rfl⟩:=List.mem_iff_getElem.1 hc;obtain⟨_,_,_,_,_,e,_⟩:=(h3 j C[j] (rs[j]'oM) (C6 hj) (C6 _)).now.ex;rw[e];rfl
 obtain⟨ad,k1,_,k2⟩:=h1.at (i:=i) dC oM .i64;have hH:=h3 i _ r hc hi;generalize C[i]=cs at hc hH;obtain⟨vs,vm,vi,vp,vt,rfl,ho,_⟩:=hH.now.ex;refine⟨ad,vs,vm,vi,vp,vt,k1,G8.2 (kX ho.1 ho.2.1 ho.2.2.1 ho.2.2.2.1 ho.2.2.2.2),λw' hf=>⟨aN (l:=(rcs r vs vm vi vp vt).toList) rfl λj hj=>?_,(hH.keep hf iT).img⟩⟩;have hj:j<16:=hj;have hu:(rcs r vs vm vi vp vt).toList[j]?=some ((rcs r vs vm vi vp vt).toList[j]'hj):=C6 _;rw[hu];exact hf.j4 (by rw[k2 j hj,BB hsz hc hj,hu]) id
theorem mine_spec:Cl prog 174 [.agg (rcs r vs vm vi vp vt)] w λo w'=>o=.bool (xL r)/\Fm F0 w w':=by
 refine cU1 func174 ?_ (V []) (J [(7,[5])]);refine ae ?_;rintro b1 w1 rfl hs1 hw1 hf1;have hb:RB w1 w.heap.size r vs vm vi vp vt:=⟨hw1⟩;simp only[RU,hb.c3];refine aJ (λvs w3=>vs=[.bool (decide (r.kind=1)||decide (r.kind=2)||decide (r.kind=6)||decide (r.kind=7)||decide (r.kind=8))]/\w3=w1) ?_ ?_
 ·rintro _ _ ⟨rfl,rfl⟩;unfold xL;cases(decide (r.kind=1)||decide (r.kind=2)||decide (r.kind=6)||decide (r.kind=7)||decide (r.kind=8))<;>simp only[RU,hb.c4,JD,Jq]<;>exact hf1
 ·intro kk hkk;have b:∀k:Int,(r.kind == k)=decide (r.kind=k):=λk=>rfl;have hkk:=hkk _ _ ⟨rfl,rfl⟩;simp only[RU,b];revert hkk;cases decide (r.kind=1)<;>cases decide (r.kind=2)<;>cases decide (r.kind=6)<;>cases decide (r.kind=7)<;>simp only[RU]<;>exact id
theorem GW{b1:Nat}(hb:w.heap[b1]?=some (.cells (ctC c) 63)):Cl prog 173 [.agg (rcs r vs vm vi vp vt),pv b1] w λo w'=>o=.bool false/\Fm F0 w w':=by refine cU2 func173 ?_;refine ae ?_;rintro b2 w1 rfl hs1 hw1 hf1;simp only[RU,ab (hf1.heap hb id),show decide ((0:Int)<0)=false from rfl];exact hf1
theorem CQ(h:RcL w rv rs){b1:Nat}(hb:w.heap[b1]?=some (.cells (ctC c) 63)):Cl prog 172 [rv,.func (.func 173) #[] #[pv b1]] w λo w'=>o=iv (-1)/\Fm F0 w w':=by
 refine cU2 func172 ?_ (V [(2,[8])]);simp only[RU,h.len];refine⟨λvs w2=>∃i:Nat,vs=[iv i]/\i<=rs.length/\Fm F0 w w2,λvs _=>(rs.length - nth vs 0).toNat,⟨0,rfl,Jd _,Fm.refl _ _⟩,?_⟩;rintro w2 v1 ⟨i,hvs,hi,hf⟩;cases hvs;by_cases hlt:i<rs.length
 ·obtain⟨ad,vs,vm,vi,vp,vt,k1,_,k2⟩:=h.ld (C6 hlt);have k2:=(k2 _ hf).1;simp only[RU,C9 (oM:(i:Int)<(rs.length:Int)),k1,k2];refine ax kR ((GW (hf.heap hb id)).mono ?_);rintro _ w3 ⟨rfl,hf3⟩;simp only[RU,show IntKind.i64.wrap ((i:Int)+1)=((i+1:Nat):Int) by have:=h.le;rw[af]<;>omega];exact⟨⟨i+1,rfl,hlt,Fmf hf hf3⟩,by simp only[ba];omega⟩
 ·obtain rfl:i=rs.length:=oM;simp only[RU,C3 (oM:¬((rs.length:Nat):Int)<(rs.length:Int))];exact hf
abbrev fC(x p:Int):Array Value:=#[iv 1,iv x,iv p,iv 1,nl,iv 0]
theorem lZ(m:Int)(r:Rc):∀(l:List Rc) (x:Int),findX m (l++[r]) x=bif xL r&&!(xBefore m r.xid (findX m l x)) then xAdd m r.xid 1 else findX m l x
 | [],_=>rfl
 | a::l,x=>lZ m r l _
theorem lY(r:Rc):∀(l:List Rc) (x:Int),findP (l++[r]) x=r.imgs.foldl (λn x=>bif decide (n<x.1+1) then x.1+1 else n) (findP l x)
 | [],_=>rfl
 | a::l,x=>lY r l _
theorem mn(r:Rc):∀(l:List Rc) (x:List (Int×Int)),kL (l++[r]) x=kL [r] (kL l x)
 | [],_=>rfl
 | a::l,x=>mn r l _
theorem ET(p x:Int):max p x=bif decide (p<x) then x else p:=by
 by_cases h:p<x
 ·rw[C9 h,D8];omega
 ·rw[C3 h,C8];omega
theorem ImAs.le{v:Value}{L:List (Int×Pg)}(h:ImAs w v L):L.length<=9223372036854775807:=by obtain⟨X,h1,⟨⟨a,c,_,h2,h3,_⟩,_⟩,_⟩:=h.ex;rw[<- h1,H2];unfold maxLen at h3;omega
theorem xh(hm:Mo m)(h:RcL w rv rs)(h0:(kL rs []).isEmpty=true)(hk:∀r∈rs,r.kind≠11/\∀x∈r.imgs,0<=x.1/\x.1<=65535):Cl prog 79 [iv m,.agg (ctC c),rv] w λo w'=>o=.agg (fC (findX m rs 1) (findP rs 2))/\Fm F0 w w':=by
 have hle:=h.le;refine cU3 func79 ?_ (V [(14,[73]),(42,[153]),(27,[108]),(9,[50])]) (J [(8,[8]),(23,[]),(13,[]),(18,[]),(40,[]),(32,[]),(37,[135])]);refine ae ?_;rintro b1 w1 rfl hs1 hw1 hf1;refine ae ?_;rintro b2 w2 rfl hs2 hw2 hf2;have hw12:=hf2.heap hw1 (λe=>e);simp only[RU,ab hw12];refine bst (fC 1 2) ?_;refine aD (us:=fC 1 2) (λw3 hs3 hw3 hf3=>?_) rfl rfl rfl;have hF3:=Fmf (Fmf hf1 hf2) hf3;refine aJ (λvs w4=>vs=[rv]/\Fm F0 w3 w4) ?_ ?_
 ·rintro _ w4 ⟨rfl,hf4⟩;simp only[RU,h.len];refine⟨λvs w5=>∃k:Nat,vs=[iv k]/\k<=rs.length/\w5.heap[w2.heap.size]?=some (.cells (fC (findX m (rs.take k) 1) (findP (rs.take k) 2)) 154)/\Fm (·=w2.heap.size) w4 w5,λvs _=>(rs.length - nth vs 0).toNat,⟨0,rfl,Jd _,hf4.heap hw3 (λe=>e),Fm.refl _ _⟩,?_⟩;rintro w5 v1 ⟨k,hvs,hkl,hb5,hf5⟩;cases hvs;have hz2:w.heap.size<=w2.heap.size:=(Fmf hf1 hf2).size;have hF5:Fm F0 w w5:=Fm.own (Fmf hF3 hf4) hf5 (λy e=>oM);by_cases hlt:k<rs.length
  ·have e1:rs[k]?=some rs[k]:=C6 hlt;have et:=H8 (l:=rs) (i:=k);rw[e1] at et;have hkr:=hk rs[k] (Jk hlt);generalize rs[k]=r at e1 et hkr;obtain⟨ad,vs,vm,vi,vp,vt,k1,hone,kf⟩:=h.ld e1;have k2:=(kf _ hF5).1;simp only[RU,C9 (oM:(k:Int)<(rs.length:Int)),k1,k2];refine aJ (λvs w6=>vs=[]/\w6.heap[w2.heap.size]?=some (.cells (fC (findX m (rs.take (k+1)) 1) (findP (rs.take (k+1)) 2)) 154)/\Fm (·=w2.heap.size) w4 w6) ?_ ?_
   ·rintro _ w6 ⟨rfl,hb6,hf6⟩;simp only[RU,show IntKind.i64.wrap ((k:Int)+1)=((k+1:Nat):Int) by rw[af]<;>omega];exact⟨⟨k+1,rfl,hlt,hb6,hf6⟩,by simp only[ba];omega⟩
   ·intro kk hkk;rw[et,show(some r).toList=[r] from rfl,lZ,lY] at hkk;generalize findX m (rs.take k) 1=x at hb5 hkk;generalize findP (rs.take k) 2=p at hb5 hkk;refine aD (us:=rcs r vs vm vi vp vt) (λw6 hs6 hw6 hf6=>?_) rfl rfl hone;have hb6:=hf6.heap hb5 (λe=>e);have z5:=hf5.size;have z4:=hf4.size;refine aJ (λvs w7=>vs=[]/\w7.heap[w2.heap.size]?=some (.cells (fC (bif xL r&&!(xBefore m r.xid x) then xAdd m r.xid 1 else x) p) 154)/\Fm (·=w2.heap.size) w6 w7) ?_ ?_
    ·rintro _ w7 ⟨rfl,hb7,hf7⟩;generalize (bif xL r&&!(xBefore m r.xid x) then xAdd m r.xid 1 else x)=x' at hb7 hkk;have hR7:RB w7 w5.heap.size r vs vm vi vp vt:=⟨hf7.heap hw6 oM⟩;have hF7:Fm (·=w2.heap.size) w4 w7:=(hf5.trans hf6 (λ_ _ e=>e) (λ_ _ e=>e.elim)).trans hf7 (λ_ _ e=>e) (λ_ _ e=>e);have hF70:Fm F0 w w7:=Fm.own (Fmf hF3 hf4) hF7 (λy e=>oM);simp only[RU,hR7.c13,(kf _ hF70).2.lenV];refine⟨λvs w8=>∃j:Nat,vs=[iv j]/\j<=r.imgs.length/\w8.heap[w2.heap.size]?=some (.cells (fC x' ((r.imgs.take j).foldl (λn x=>bif decide (n<x.1+1) then x.1+1 else n) p)) 154)/\Fm (·=w2.heap.size) w7 w8,λvs _=>(r.imgs.length - nth vs 0).toNat,⟨0,rfl,Jd _,hb7,Fm.refl _ _⟩,?_⟩;rintro w8 v2 ⟨j,hvs,hjl,hb8,hf8⟩;cases hvs;have hF8:=hF7.trans hf8 (λ_ _ e=>e) (λ_ _ e=>e);have hF80:Fm F0 w w8:=Fm.own (Fmf hF3 hf4) hF8 (λy e=>oM);have hR8:RB w8 w5.heap.size r vs vm vi vp vt:=hR7.keep hf8 oM;by_cases hjlt:j<r.imgs.length
     ·have e2:r.imgs[j]?=some r.imgs[j]:=C6 hjlt;have et2:=H8 (l:=r.imgs) (i:=j);rw[e2] at et2;have hx:=hkr.2 r.imgs[j] (Jk hjlt);generalize r.imgs[j]=g at e2 et2 hx;obtain⟨ad2,uu,q1,q2,q3,_⟩:=(kf _ hF80).2.ld e2;simp only[RU,C9 (oM:(j:Int)<(r.imgs.length:Int)),q1,q2];refine aJ (λvs w9=>vs=[]/\w9.heap[w2.heap.size]?=some (.cells (fC x' ((r.imgs.take (j+1)).foldl (λn x=>bif decide (n<x.1+1) then x.1+1 else n) p)) 154)/\Fm (·=w2.heap.size) w7 w9) ?_ ?_
      ·rintro _ w9 ⟨rfl,hb9,hf9⟩;simp only[RU,show IntKind.i64.wrap ((j:Int)+1)=((j+1:Nat):Int) by have:=(kf _ hF80).2.le;rw[af]<;>omega];exact⟨⟨j+1,rfl,hjlt,hb9,hf9⟩,by simp only[ba];omega⟩
      ·intro kk3 hkk3;rw[et2,show(some g).toList=[g] from rfl,KB,Kv,List.foldl_nil] at hkk3;refine aD (us:=(imC (g.1,g.2,uu)).toArray) (λw9 hs9 hw9 hf9=>?_) rfl rfl (G8.2 (qP q3));generalize (r.imgs.take j).foldl (λn x=>bif decide (n<x.1+1) then x.1+1 else n) p=p' at hb8 hkk3;have hb9:=hf9.heap hb8 (λe=>e);simp only[RU,ab hw9,show(imC (g.1,g.2,uu))[0]?=some (iv g.1) from rfl,C9 hx.2,ab hb9,show IntKind.i64.wrap (g.1+1)=g.1+1 by rw[af]<;>omega];simp only[RU,mx2];refine au hb9 (j:=2) (dC:2<6) rfl λwa hwa hsa hfa=>?_;refine hkk3 _ _ ⟨rfl,?_,(hf8.trans hf9 (λ_ _ e=>e) (λ_ _ e=>e.elim)).trans hfa (λ_ _ e=>e) (λ_ _ e=>e)⟩;rw[hwa,<- ET]
       rfl
     ·obtain rfl:j=r.imgs.length:=oM;rw[IX] at hb8;simp only[RU,C3 (oM:¬((r.imgs.length:Nat):Int)<(r.imgs.length:Int)),hR8.c3,show(r.kind != 11)=true from bne_iff_ne.2 hkr.1];exact hkk _ _ ⟨rfl,hb8,hF8⟩
    ·intro kk2 hkk2;have hR6:RB w6 w5.heap.size r vs vm vi vp vt:=⟨hw6⟩;have cb:=λo=>ab (off:=o) hb6;simp only[RU,hR6.all];refine mine_spec.mono ?_;rintro _ w7 ⟨rfl,hf7⟩;have hb7:=hf7.heap hb6 (λe=>e);have hR7:=hR6.keep hf7 (λe=>e);have up:∀{a b:World},Fm F0 a b->Fm (·=w2.heap.size) a b:=λf=>f.mono (λ_ _ e=>e.elim);cases hmi:xL r with
     | false=>rw[hmi] at hkk2;simp only[RU];exact hkk2 _ _ ⟨rfl,hb7,up hf7⟩
     | true=>
      rw[hmi] at hkk2;simp only[RU,hR7.c4,ab hb7];refine(jU hm _ _).mono ?_;rintro _ w8 ⟨rfl,hf8⟩;have hb8:=hf8.heap hb7 (λe=>e);cases hbf:xBefore m r.xid x with
      | true=>rw[hbf] at hkk2;simp only[RU];exact hkk2 _ _ ⟨rfl,hb8,up (Fmf hf7 hf8)⟩
      | false=>rw[hbf] at hkk2;simp only[RU,(hR7.keep hf8 (λe=>e)).c4];refine(jy hm _ _).mono ?_;rintro _ w9 ⟨rfl,hf9⟩;refine au (hf9.heap hb8 (λe=>e)) (j:=1) (dC:1<6) rfl λwa hwa hsa hfa=>?_;exact hkk2 _ _ ⟨rfl,hwa,(up (Fmf (Fmf hf7 hf8) hf9)).trans hfa (λ_ _ e=>e) (λ_ _ e=>e)⟩
  ·obtain rfl:k=rs.length:=oM;rw[IX] at hb5;simp only[RU,C3 (oM:¬((rs.length:Nat):Int)<(rs.length:Int))];refine ag (bf _ _) (ag (bf _ _) ?_);have f1:=Fm.alloc F0 w5 (.map #[] 0);have f2:=Fm.alloc F0 (w5.alloc (.map #[] 0)) (.map #[] 0);have m1:=(MapAt.empty w5 iv Value.agg).keep f2 (λe=>e);have m2:=MapAt.empty (w5.alloc (.map #[] 0)) iv iv;have hxs:(w5.alloc (.map #[] 0)).heap.size=w5.heap.size+1:=aE _ _;rw[hxs] at m2;have hb6:=(Fmf f1 f2).heap hb5 (λe=>e);have hF6:=Fmf hF5 (Fmf f1 f2);have hG6:Fm (w2.heap.size<=·) w2 ((w5.alloc (.map #[] 0)).alloc (.map #[] 0)):=((Fmf hf3 hf4).trans hf5 (λ_ _ e=>e.elim) (λy _ e=>oM)).trans (Fmf f1 f2) (λ_ _ e=>e) (λ_ _ e=>e.elim);rw[hxs];generalize (w5.alloc (.map #[] 0)).alloc (.map #[] 0)=w6 at m1 m2 hb6 hF6 hG6 ⊢;have hz5:w2.heap.size<w5.heap.size:=aj hb5;generalize hx5:w5.heap.size=x1 at m1 m2 hz5 ⊢;refine⟨λvs w7=>∃(k:Nat) (D:List (Int×Array Value)),vs=[iv k]/\k<=rs.length/\MapAt w7 x1 iv Value.agg D/\(∀k cs,getD D k=some cs->cs.size=16/\cs.toList.all Value.oneCell'=true)/\MapAt w7 (x1+1) iv iv (kL (rs.take k) [])/\Fm (λy=>y=x1\/y=x1+1) w6 w7,λvs _=>(rs.length - nth vs 0).toNat,⟨0,[],rfl,Jd _,m1,λk cs e=>(by cases e),m2,Fm.refl _ _⟩,?_⟩;rintro w7 v2 ⟨k,D,hvs,hkl,n1,n2,n3,hf7⟩;cases hvs;have hF7:Fm F0 w w7:=Fm.own hF6 hf7 (λy e=>oM);by_cases hlt:k<rs.length
   ·have e1:rs[k]?=some rs[k]:=C6 hlt;have et:=H8 (l:=rs) (i:=k);rw[e1] at et;generalize rs[k]=r at e1 et;obtain⟨ad,vs,vm,vi,vp,vt,k1,hone,kf⟩:=h.ld e1;have k2:=(kf _ hF7).1;simp only[RU,C9 (oM:(k:Int)<(rs.length:Int)),k1,k2];refine aJ (λvs w8=>vs=[]/\∃D:List (Int×Array Value),MapAt w8 x1 iv Value.agg D/\(∀k cs,getD D k=some cs->cs.size=16/\cs.toList.all Value.oneCell'=true)/\MapAt w8 (x1+1) iv iv (kL (rs.take (k+1)) [])/\Fm (λy=>y=x1\/y=x1+1) w6 w8) ?_ ?_
    ·rintro _ w8 ⟨rfl,D',d1,d2,d3,hf8⟩;simp only[RU,show IntKind.i64.wrap ((k:Int)+1)=((k+1:Nat):Int) by rw[af]<;>omega];exact⟨⟨k+1,D',rfl,hlt,d1,d2,d3,hf8⟩,by simp only[ba];omega⟩
    ·intro kk hkk;rw[et,show(some r).toList=[r] from rfl,mn] at hkk;generalize kL (rs.take k) []=L at n3 hkk;refine aD (us:=rcs r vs vm vi vp vt) (λw8 hs8 hw8 hf8=>?_) rfl rfl hone;have hR8:RB w8 w7.heap.size r vs vm vi vp vt:=⟨hw8⟩;have hx7:=n3.lt;simp only[RU,hR8.c0];refine aJ (λys w9=>ys=[]/\∃D:List (Int×Array Value),MapAt w9 x1 iv Value.agg D/\(∀k cs,getD D k=some cs->cs.size=16/\cs.toList.all Value.oneCell'=true)/\MapAt w9 (x1+1) iv iv L/\RB w9 w7.heap.size r vs vm vi vp vt/\Fm (λy=>y=x1\/y=x1+1) w6 w9) ?_ ?_
     ·rintro _ w9 ⟨rfl,D',d1,d2,d3,hR9,hf9⟩;simp only[RU,hR9.all];refine mine_spec.mono ?_;rintro _ wa ⟨rfl,hfa⟩;have hRa:=hR9.keep hfa (λe=>e);have d1:=d1.keep hfa (λe=>e);have d3:=d3.keep hfa (λe=>e);have hF9:=hf9.trans hfa (λ_ _ e=>e) (λ_ _ e=>e.elim);have hop:kL [r] L=bif !(xL r) then L else bif decide (r.kind=7)||decide (r.kind=8) then cO L r.xid else cM L r.xid (bif decide (r.kind=6) then r.next else r.lsn):=rfl
      rw[hop] at hkk;cases hmi:xL r with
      | false=>rw[hmi] at hkk;simp only[RU];exact hkk _ _ ⟨rfl,D',d1,d2,d3,hF9⟩
      | true=>
       rw[hmi,JE,C8] at hkk;simp only[RU,hRa.c3];refine aJ (λvs wb=>vs=[.bool (decide (r.kind=7)||decide (r.kind=8))]/\wb=wa) ?_ ?_
       ·rintro _ wa ⟨rfl,rfl⟩;cases hk78:(decide (r.kind=7)||decide (r.kind=8)) with
        | true=>rw[hk78,D8] at hkk;simp only[RU,hRa.c4];obtain⟨wb,hrb,hmb,hfb,_⟩:=dQ K275 d3 r.xid 0 3;refine ag hrb ?_;exact hkk _ _ ⟨rfl,D',d1.keep hfb oM,d2,hmb,hF9.trans hfb (λ_ _ e=>e) (λ_ _ e=>.inr e)⟩
        | false=>
         rw[hk78,C8] at hkk;have b6:(r.kind == 6)=decide (r.kind=6):=rfl;simp only[RU,b6];cases hk6:decide (r.kind=6) with
         | true=>
          rw[hk6,D8] at hkk;simp only[RU,hRa.c4,hRa.c2];obtain⟨wb,hrb,hmb,hfb,_⟩:=bk K275 d3 r.xid r.next
          refine cA hrb ?_;exact hkk _ _ ⟨rfl,D',d1.keep hfb oM,d2,hmb,hF9.trans hfb (λ_ _ e=>e) (λ_ _ e=>.inr e)⟩
         | false=>rw[hk6,C8] at hkk;simp only[RU,hRa.c4,hRa.c0];obtain⟨wb,hrb,hmb,hfb,_⟩:=bk K275 d3 r.xid r.lsn;refine cA hrb ?_;exact hkk _ _ ⟨rfl,D',d1.keep hfb oM,d2,hmb,hF9.trans hfb (λ_ _ e=>e) (λ_ _ e=>.inr e)⟩
       ·intro kk2 hkk2;have b:∀k:Int,(r.kind == k)=decide (r.kind=k):=λk=>rfl;have hkk2:=hkk2 _ _ ⟨rfl,rfl⟩;simp only[RU,b];revert hkk2;cases decide (r.kind=7)<;>simp only[RU]<;>exact id
     ·intro kk2 hkk2;have m8:=n1.keep hf8 (λe=>e);have l8:=n3.keep hf8 (λe=>e);have hF8:=hf7.trans hf8 (λ_ _ e=>e) (λ_ _ e=>e.elim);refine ag (aX Ea m8 r.lsn true (z28 _)) ?_;cases hg:getD D r.lsn with
      | some cs=>obtain⟨q1,q2⟩:=n2 _ _ hg;simp only[RU,okV,D8];refine aD (us:=cs) (λw9 hs9 hw9 hf9=>?_) q1 rfl q2;exact hkk2 _ _ ⟨rfl,D,m8.keep hf9 (λe=>e),n2,l8.keep hf9 (λe=>e),hR8.keep hf9 (λe=>e),hF8.trans hf9 (λ_ _ e=>e) (λ_ _ e=>e.elim)⟩
      | none=>
       simp only[RU,okV,D8];refine aD (us:=rcs rc0 nl nl nl nl nl) (λw9 hs9 hw9 hf9=>?_) rfl rfl rfl;have hR9:=hR8.keep hf9 (λe=>e);simp only[RU,hR9.c0,hR9.all];obtain⟨wa,hra,hma,hfa,_⟩:=bk Ea (m8.keep hf9 (λe=>e)) r.lsn (rcs r vs vm vi vp vt);refine cA hra ?_;refine hkk2 _ _ ⟨rfl,_,hma,λk cs hk=>?_,(l8.keep hf9 (λe=>e)).keep hfa oM,hR9.keep hfa oM,(hF8.trans hf9 (λ_ _ e=>e) (λ_ _ e=>e.elim)).trans hfa (λ_ _ e=>e) (λ_ _ e=>.inl e)⟩;rw[bl] at hk;by_cases he:k=r.lsn
       ·rw[IY he] at hk;cases hk;exact⟨rfl,hone⟩
       ·rw[IT he] at hk;exact n2 _ _ hk
   ·obtain rfl:k=rs.length:=oM;rw[IX] at n3;simp only[RU,C3 (oM:¬((rs.length:Nat):Int)<(rs.length:Int))];rw[KJ.1 h0] at n3;refine(mi (some (x1+1)) w7).mono ?_;rintro _ _ ⟨rfl,rfl⟩;refine(jt n3 (λq hq=>by cases hq) dC).mono ?_;rintro v w8 ⟨ho,_,hf8⟩;have hG8:Fm (w2.heap.size<=·) w2 w8:=(hG6.trans hf7 (λ_ _ e=>e) (λy _ e=>oM)).trans hf8 (λ_ _ e=>e) (λ_ _ e=>e.elim);have hb8:=hf8.heap (hf7.heap hb6 oM) (λe=>e);have hlt12:w1.heap.size<w2.heap.size:=oM;have hw18:=hG8.heap hw2 oM;simp only[RU,(CellsAt.aT ho).lenV];refine⟨λvs w9=>vs=[iv 0]/\w9=w8,λ_ _=>0,⟨rfl,rfl⟩,?_⟩;rintro w9 v3 ⟨hvs,rfl⟩;cases hvs;simp only[RU,show decide ((0:Int)<((([]:List (Int×Int)).length:Nat):Int))=false from rfl,aa (n:=6) hb8 rfl];refine ao hw18 (λwa hwa hsa hfa=>?_) rfl rfl rfl;simp only[RU,aa (n:=6) hwa rfl];exact Fm.own (Fmf hF7 hf8) hfa (λy e=>by have:=hf1.size;omega)
 ·intro kk hkk;refine(CQ (h.keep hF3) (hf3.heap hw12 (λe=>e))).mono ?_;rintro _ w4 ⟨rfl,hf4⟩;simp only[RU,show decide ((0:Int)<=-1)=false from rfl];exact hkk _ _ ⟨rfl,hf4⟩
end
open M (Ctl iM E)
section
variable{w w':World}{c:Ctl}{b g m:Nat}{d d':Go.Al.Dk}
theorem fR{r:Go.Al.Dk×Int}(h:M.okD r=some d'):r.2=0/\r.1=d':=by unfold M.okD at h;obtain⟨_,hg,h⟩:=bind_some h;cases h;exact⟨F9 (ak hg),rfl⟩
theorem leaf_spec:Cl prog 67 [] w λo w'=>o=.agg (pcs { pg0 with kind:=3 } nl)/\Fm F0 w w':=by refine cU0 func67 ?_;refine ae ?_;rintro b1 w1 rfl hs1 hw1 hf1;refine bst (pcs { pg0 with kind:=3 } nl) (ao hw1 (λw2 hw2 hs2 hf2=>?_) rfl rfl rfl);simp only[RU,aa (n:=6) hw2 rfl];exact Fm.own hf1 hf2 (λy e=>oM)
theorem qK(h:DAt w b g m (Go.Al.Dk.mk0 (M.sectors c).toNat))(hc:eT c=true)(h4:c.m % 4=0)(hq:M.formatM c=some d'):Cl prog 25 [pv b,.agg (cfC c)] w λo w'=>o=iv 0/\DAt w' b g m d'/\Fm (Dm b g m) w w':=by
 unfold M.formatM at hq;obtain⟨d1,q1,hq⟩:=bind_some hq;obtain⟨d2,q2,hq⟩:=bind_some hq;obtain⟨d3,q3,hq⟩:=bind_some hq;obtain⟨d4,q4,hq⟩:=bind_some hq;obtain⟨d5,q5,hq⟩:=bind_some hq;have q1:=fR q1;have q2:=fR q2;have q3:=fR q3;have q4:=fR q4;have q5:=fR q5;have q6:=fR hq;refine cU2 func25 ?_;refine ae ?_;rintro b1 w1 rfl hs1 hw1 hf1;refine ae ?_;rintro b2 w2 rfl hs2 hw2 hf2;simp only[RU,aa (n:=4) hw2 rfl];refine(gB hc).mono ?_;rintro _ w3 ⟨rfl,hf3⟩;simp only[RU];refine aD (us:=#[iv 2,iv (2+c.secs),iv (M.sectors c)]) (λw4 hs4 hw4 hf4=>?_) rfl rfl rfl;have hd:=Fm.drew F0 w4;have hF3:=Fmf (Fmf (Fmf hf1 hf2) hf3) hf4;have hF:=Fmf hF3 hd;have k1:=(Fmf (Fmf (Fmf hf2 hf3) hf4) hd).heap hw1 (λe=>e);have k2:=(Fmf (Fmf hf3 hf4) hd).heap hw2 (λe=>e);have k3:=hd.heap hw4 (λe=>e);have h4d:=h.aS hF;refine⟨λwx=>Fm F0 w4.drew wx,Fm.refl _ _,?_⟩;have hh:=hc;unfold eT at hh;simp only[E0,C4] at hh;have hcl:=hh.1.2;have hmo:Mo c.m:=⟨oM,oM,oM⟩;have hsz:((Go.Al.Dk.mk0 (M.sectors c).toNat).cur.length:Int)=M.sectors c:=by show((List.replicate _ _).length:Int)=_;rw[G3];unfold M.sectors;omega
 simp only[RU,ab ((Fmf (Fmf hf2 hf3) hf4).heap hw1 (λe=>e)),show((0:Int) != 0)=false from rfl];refine⟨iv (M.sectors c),λwx hx=>?_,?_⟩
 ·simp only[RU,ab (hx.heap k3 (λe=>e)),H7]
 refine(cG h4d).mono ?_;rintro _ _ ⟨rfl,rfl⟩;refine⟨Fm.refl _ _,?_⟩;simp only[RU,hsz,show decide (M.sectors c<M.sectors c)=false from C3 oM,ab ((Fmf (Fmf hf2 hf3) hf4).heap hw1 (λe=>e))];have hbz:∀y,w.heap.size<=y->¬Dm b g m y:=λy hy e=>by have:=h.lt;unfold Dm at e;omega
 generalize hF6:([.func (.func 61) #[] #[pv w.heap.size],.func (.func 64) #[] #[pv w1.heap.size,pv w.heap.size,pv w3.heap.size],.func (.func 68) #[] #[pv w.heap.size,pv w3.heap.size,pv w1.heap.size],.func (.func 70) #[pv b] #[],.func (.func 71) #[] #[pv w1.heap.size,pv w.heap.size],.func (.func 70) #[pv b] #[]]:List Value)=F6;refine bsl 6 F6.toArray 126 ?_ (by rw[<- hF6];kernel_rfl);have hl6:F6.length=6:=by rw[<- hF6];rfl
 have hfa:=Fm.alloc F0 w4.drew (.cells F6.toArray 126);have hcs:CellsAt (w4.drew.alloc (.cells F6.toArray 126)) (.slice (some ⟨w4.drew.heap.size,0,none⟩) 6 6) F6.length 1 F6:=by rw[hl6];exact CellsAt.aT (cY (w:=w4.drew) (e:=126) (sz:=1) (n:=6) (l:=F6) (by rw[hl6]) (D9 _) dC)
 have ha:=h4d.aS hfa;have k1:=hfa.heap k1 (λe=>e);have k2:=hfa.heap k2 (λe=>e);have k3:=hfa.heap k3 (λe=>e);have hFa:=Fmf hF hfa;have z4:w4.heap.size=w4.drew.heap.size:=by rw[aM]
 have z3:=hFa.size;generalize w4.drew.alloc (.cells F6.toArray 126)=wa at hfa hcs ha k1 k2 k3 hFa z3 ⊢;refine(Dh (F:=F6) (λi wx=>Fm (Dm b g m) wa wx/\∃dx,DAt wx b g m dx/\[Go.Al.Dk.mk0 (M.sectors c).toNat,d1,d2,d3,d4,d5,d'][i]?=some dx) oM ⟨Fm.refl _ _,_,ha,rfl⟩ (λi wx hx=>hcs.keep hx.1 (λy hy=>by cases hy;exact hbz _ (by have:=hF.size;omega))) ?_).mono ?_
 ·rintro i f wx hi ⟨hx,dx,hD,hdx⟩ k hk;have k1:=hx.heap k1 (hbz _ (D9 _));have k2:=hx.heap k2 (hbz _ hf1.size);have k3:=hx.heap k3 (hbz _ (Fmf (Fmf hf1 hf2) hf3).size);have hdw:=Fm.drew F0 wx;have up:∀{a b':World},Fm F0 a b'->Fm (Dm b g m) wa a->Fm (Dm b g m) wa b':=λf k=>k.trans f (λ_ _ e=>e) (λ_ _ e=>e.elim);rw[<- hF6] at hi
  match i,hi with
  | 0,hi=>
   cases hi;cases hdx;refine ax kR ?_;refine cU1 func61 ?_;refine⟨λwy=>Fm F0 wx.drew wy,Fm.refl _ _,pv b,λwy hy=>?_,?_⟩
   ·simp only[RU,ab (hy.heap (hdw.heap k1 (λe=>e)) (λe=>e)),H7]
   refine(bT _ 128 dC).mono ?_;rintro _ wy ⟨rfl,hfy⟩;refine⟨hfy,(bS (hD.aS (Fmf hdw hfy)) 0 (aG 128) dC).mono ?_⟩;rintro _ wz ⟨rfl,hz,hfz⟩;rw[q1.1];exact hk _ ⟨(up (Fmf hdw hfy) hx).trans hfz (λ_ _ e=>e) (λ_ _ e=>e),d1,q1.2▸hz,rfl⟩
  | 1,hi=>
   cases hi;cases hdx;refine ax kR ?_;refine cU3 func64 ?_;simp only[RU,ab k2];refine(qx hmo h4).mono ?_;rintro _ wy ⟨u,rfl,hN,hfy⟩;simp only[RU];refine aD (us:=pcs (M.clogNew c.m) u) (λwz hsz hwz hfz=>?_) rfl rfl (G8.2 (bA hN.one));simp only[RU,aa (n:=6) hwz rfl];refine(cH (hN.keep hfz).as).mono ?_;rintro _ wr ⟨rfl,hfr⟩;simp only[RU,tW];refine leaf_spec.mono ?_;rintro _ wq ⟨rfl,hfq⟩;refine(cH (p:={ pg0 with kind:=3 }) ?_).mono ?_
   ·exact(⟨rfl,CellsAt.aT (World.ownsRow_nil wq 0 9 1),λx hx=>by simp[pg0] at hx,dC,λ_ _ _=>Jd _⟩:PgN wq 0 nl { pg0 with kind:=3 }).as
   rintro _ wp ⟨rfl,hfp⟩;have hF5:=Fmf (Fmf (Fmf (Fmf hfy hfz) hfr) hfq) hfp;simp only[RU,tW,ab (hF5.heap k1 (λe=>e)),ab (hF5.heap k3 (λe=>e))];have hlp:∀q:Pg,(pEnc q).1.length<=512:=λq=>by
    by_cases hp:pErr q=0
    ·rw[ij hp];exact D9 _
    ·rw[jF hp];exact Jd _
   rw[show aC TypeDesc.string BinOp.add (stv (pEnc (M.clogNew c.m)).1) (stv (pEnc { pg0 with kind:=3 }).1)=some (stv ((pEnc (M.clogNew c.m)).1++(pEnc { pg0 with kind:=3 }).1)) from mG (F8 (Nat.add_le_add (hlp _) (hlp _)) dC)];simp only[RU];refine(bS (hD.aS hF5) (2+c.secs) _ (by rw[C5];exact F8 (Nat.add_le_add (hlp _) (hlp _)) dC)).mono ?_;rintro _ wt ⟨rfl,hz,hft⟩;rw[q2.1];exact hk _ ⟨(up hF5 hx).trans hft (λ_ _ e=>e) (λ_ _ e=>e),d2,q2.2▸hz,rfl⟩
  | 2,hi=>cases hi;cases hdx;refine ax kR ?_;refine cU3 func68 ?_;simp only[RU,ab k1,ab k2,ab k3];refine(qf hD 2 c.secs).mono ?_;rintro _ wz ⟨x,rfl,hz,hfz,_⟩;simp only[RU];rw[q3.1];exact hk _ ⟨hx.trans hfz (λ_ _ e=>e) (λ_ _ e=>e),d3,q3.2▸hz,rfl⟩
  | 3,hi=>cases hi;cases hdx;refine ax kR ((di hD).mono ?_);rintro _ wy ⟨rfl,hy,hf⟩;rw[q4.1];exact hk _ ⟨hx.trans hf (λ_ _ e=>e) (λ_ _ e=>e),d4,q4.2▸hy,rfl⟩
  | 4,hi=>cases hi;cases hdx;refine ax kR ?_;refine cU2 func71 ?_;simp only[RU,aa (n:=4) k2 rfl];refine bst (ctC c) ((oz hc).mono ?_);rintro _ wy ⟨rfl,hfy⟩;simp only[RU,ab (hfy.heap k1 (λe=>e))];refine(bS (hD.aS hfy) 1 (iM c) (by rw[hcl];decide)).mono ?_;rintro _ wz ⟨rfl,hz,hfz⟩;rw[q5.1];exact hk _ ⟨(up hfy hx).trans hfz (λ_ _ e=>e) (λ_ _ e=>e),d5,q5.2▸hz,rfl⟩
  | 5,hi=>cases hi;cases hdx;refine ax kR ((di hD).mono ?_);rintro _ wy ⟨rfl,hy,hf⟩;rw[q6.1];exact hk _ ⟨hx.trans hf (λ_ _ e=>e) (λ_ _ e=>e),d',q6.2▸hy,rfl⟩
 ·rintro _ wx ⟨rfl,hx,dx,hD,hdx⟩;rw[hl6] at hdx;cases hdx;exact⟨rfl,hD,(hFa.mono (λ_ _ e=>e.elim)).trans hx (λ_ _ e=>e) (λ_ _ e=>e)⟩
end
section
variable{w w':World}{c:Ctl}{b g m:Nat}{d d':Go.Al.Dk}{e:E}
def P3(w:World)(a b:Nat)(v:Value):Prop:=∃kb kh kw,v=pv kb/\IsT w kb kh kw [] []/\(a<=kb/\kb<b)/\(a<=kh/\kh<b)/\a<=kw/\kw<b
def P4(w:World)(a b:Nat)(v:Value):Prop:=∃tb tm,v=pv tb/\TxAt w (λy=>y=tb\/y=tm) tb tm [] []/\(a<=tb/\tb<b)/\a<=tm/\tm<b
def P6(w:World)(a b:Nat)(v:Value):Prop:=∃sb sm,v=pv sb/\SpAt w sb sm none/\(a<=sb/\sb<b)/\a<=sm/\sm<b
def P7(w:World)(a b:Nat)(v:Value):Prop:=∃mt,v=.map (some mt)/\MapAt w mt iv Value.bool []/\a<=mt/\mt<b
theorem P3.keep{x y:Nat}{v:Value}(h:P3 w x y v)(hf:Fm F0 w w'):P3 w' x y v:=by obtain⟨kb,kh,kw,e,h1,h2⟩:=h;exact⟨kb,kh,kw,e,h1.keep hf id id id,h2⟩
theorem P4.keep{x y:Nat}{v:Value}(h:P4 w x y v)(hf:Fm F0 w w'):P4 w' x y v:=by obtain⟨kb,kh,e,h1,h2⟩:=h;exact⟨kb,kh,e,h1.keep hf iT,h2⟩
theorem P6.keep{x y:Nat}{v:Value}(h:P6 w x y v)(hf:Fm F0 w w'):P6 w' x y v:=by obtain⟨kb,kh,e,h1,h2⟩:=h;exact⟨kb,kh,e,h1.keep hf id id,h2⟩
theorem P7.keep{x y:Nat}{v:Value}(h:P7 w x y v)(hf:Fm F0 w w'):P7 w' x y v:=by obtain⟨kb,e,h1,h2⟩:=h;exact⟨kb,e,h1.keep hf id,h2⟩
theorem mk3:Cl prog 82 [] w λv w'=>P3 w' w.heap.size w'.heap.size v/\Fm F0 w w':=by refine(xB w).mono ?_;rintro _ w' ⟨kb,kh,kw,rfl,h1,h2,h3,h4,hf⟩;exact⟨⟨kb,kh,kw,rfl,h4,⟨h1,aj h4.st⟩,⟨h2,h4.hs.lt⟩,h3,h4.ws.lt⟩,hf⟩
theorem mk4:Cl prog 83 [] w λv w'=>P4 w' w.heap.size w'.heap.size v/\Fm F0 w w':=by refine(vg w).mono ?_;rintro _ w' ⟨tb,tm,rfl,h1,h2,h4,hf⟩;exact⟨⟨tb,tm,rfl,⟨h4.st,h4.mp,h4.keys,h4.nd,⟨.inl rfl,.inr rfl,λp hp=>by cases hp⟩,λwho g hk=>by cases hk⟩,⟨h1,aj h4.st⟩,h2,h4.mp.lt⟩,hf⟩
theorem mk6:Cl prog 84 [] w λv w'=>P6 w' w.heap.size w'.heap.size v/\Fm F0 w w':=by refine(yO w).mono ?_;rintro _ w' ⟨tb,tm,rfl,h1,h2,h4,hf⟩;exact⟨⟨tb,tm,rfl,h4,⟨h1,aj h4.st⟩,h2,h4.mp.lt⟩,hf⟩
theorem mk7{k:KV}(hk:∀v w',P7 w' w.heap.size w'.heap.size v->Fm F0 w w'->k v w'):RunS prog (Instr.makeMap 84 none) w k:=by refine ag (bf _ _) (hk _ _ ⟨_,rfl,MapAt.empty w iv Value.bool,D9 _,by rw[aE];omega⟩ (Fm.alloc F0 _ _))
theorem Ia{C:World->Prop}{J:Value->Value->Value->Value->World->Prop}(hC:∀w',Fm F0 w w'->C w')(K:∀w' v3 v4 v6 v7 a3 b3 a4 b4 a6 b6 a7 b7,P3 w' a3 b3 v3->P4 w' a4 b4 v4->P6 w' a6 b6 v6->P7 w' a7 b7 v7->((b3<=a4\/b4<=a3)/\(b3<=a6\/b6<=a3)/\(b3<=a7\/b7<=a3)/\(b4<=a6\/b6<=a4)/\(b4<=a7\/b7<=a4)/\(b6<=a7\/b7<=a6))->(w.heap.size<=a3/\w.heap.size<=a4/\w.heap.size<=a6/\w.heap.size<=a7)->(b3<=w'.heap.size/\b4<=w'.heap.size/\b6<=w'.heap.size/\b7<=w'.heap.size)->Fm F0 w w'->J v3 v4 v6 v7 w'):
  (Cl prog 82 [] w λv3 w1=>C w1/\((Cl prog 83 [] w1 λv4 w2=>C w2/\((Cl prog 84 [] w2 λv6 w3=>C w3/\RunS prog (Instr.makeMap 84 none) w3 λv7 w4=>C w4/\J v3 v4 v6 v7 w4)/\(RunS prog (Instr.makeMap 84 none) w2 λv7 w3=>C w3/\Cl prog 84 [] w3 λv6 w4=>C w4/\J v3 v4 v6 v7 w4)/\True))/\(RunS prog (Instr.makeMap 84 none) w1 λv7 w2=>C w2/\Cl prog 83 [] w2 λv4 w3=>C w3/\Cl prog 84 [] w3 λv6 w4=>C w4/\J v3 v4 v6 v7 w4)/\True)) /\
  (RunS prog (Instr.makeMap 84 none) w λv7 w1=>C w1/\Cl prog 82 [] w1 λv3 w2=>C w2/\Cl prog 83 [] w2 λv4 w3=>C w3/\Cl prog 84 [] w3 λv6 w4=>C w4/\J v3 v4 v6 v7 w4)/\True:=by
 refine⟨mk3.mono ?_,mk7 ?_,trivial⟩
 ·rintro v3 w1 ⟨h3,f1⟩;have z1:=f1.size;refine⟨hC _ f1,mk4.mono ?_,mk7 ?_,trivial⟩
  ·rintro v4 w2 ⟨h4,f2⟩;have z2:=f2.size;refine⟨hC _ (Fmf f1 f2),mk6.mono ?_,mk7 ?_,trivial⟩
   ·rintro v6 w3 ⟨h6,f3⟩;have z3:=f3.size;refine⟨hC _ (Fmf (Fmf f1 f2) f3),mk7 λv7 w4 h7 f4=>?_⟩;have z4:=f4.size;have F:=Fmf (Fmf (Fmf f1 f2) f3) f4;exact⟨hC _ F,K w4 v3 v4 v6 v7 _ _ _ _ _ _ _ _ (h3.keep (Fmf (Fmf f2 f3) f4)) (h4.keep (Fmf f3 f4)) (h6.keep f4) h7 oM oM oM F⟩
   ·intro v7 w3 h7 f3;have z3:=f3.size;refine⟨hC _ (Fmf (Fmf f1 f2) f3),mk6.mono ?_⟩;rintro v6 w4 ⟨h6,f4⟩;have z4:=f4.size;have F:=Fmf (Fmf (Fmf f1 f2) f3) f4;exact⟨hC _ F,K w4 v3 v4 v6 v7 _ _ _ _ _ _ _ _ (h3.keep (Fmf (Fmf f2 f3) f4)) (h4.keep (Fmf f3 f4)) h6 (h7.keep f4) oM oM oM F⟩
  ·intro v7 w2 h7 f2;have z2:=f2.size;refine⟨hC _ (Fmf f1 f2),mk4.mono ?_⟩;rintro v4 w3 ⟨h4,f3⟩;have z3:=f3.size;refine⟨hC _ (Fmf (Fmf f1 f2) f3),mk6.mono ?_⟩;rintro v6 w4 ⟨h6,f4⟩;have z4:=f4.size;have F:=Fmf (Fmf (Fmf f1 f2) f3) f4;exact⟨hC _ F,K w4 v3 v4 v6 v7 _ _ _ _ _ _ _ _ (h3.keep (Fmf (Fmf f2 f3) f4)) (h4.keep f4) h6 (h7.keep (Fmf f3 f4)) oM oM oM F⟩
 ·intro v7 w1 h7 f1;have z1:=f1.size;refine⟨hC _ f1,mk3.mono ?_⟩;rintro v3 w2 ⟨h3,f2⟩;have z2:=f2.size;refine⟨hC _ (Fmf f1 f2),mk4.mono ?_⟩;rintro v4 w3 ⟨h4,f3⟩;have z3:=f3.size;refine⟨hC _ (Fmf (Fmf f1 f2) f3),mk6.mono ?_⟩;rintro v6 w4 ⟨h6,f4⟩;have z4:=f4.size;have F:=Fmf (Fmf (Fmf f1 f2) f3) f4;exact⟨hC _ F,K w4 v3 v4 v6 v7 _ _ _ _ _ _ _ _ (h3.keep (Fmf f3 f4)) (h4.keep f4) h6 (h7.keep (Fmf (Fmf f2 f3) f4)) oM oM oM F⟩
theorem Ib{f:Nat}{x:Array Value}{vs vm vi vp vt:Value}{r:Rc}(hf:w.heap[f]?=some (.cells x 154))(h0:x[0]?=some (iv 1))(hl:1<=r.lsn):Cl prog 86 [.agg (rcs r vs vm vi vp vt),pv f] w λo w'=>o=.bool false/\Fm F0 w w':=by refine cU2 func86 ?_;refine ae ?_;rintro b1 w1 rfl hs1 hw1 hf1;have hb:RB w1 w.heap.size r vs vm vi vp vt:=⟨hw1⟩;simp only[RU,hb.c0,ab (hf1.heap hf id),h0,C3 (oM:¬r.lsn<1)];exact hf1
theorem EN{rv:Value}{rs:List Rc}{f:Nat}{x:Array Value}(h:RcL w rv rs)(hl:∀r∈rs,1<=r.lsn)(hf:w.heap[f]?=some (.cells x 154))(h0:x[0]?=some (iv 1)):Cl prog 85 [rv,.func (.func 86) #[] #[pv f]] w λo w'=>o=rv/\Fm F0 w w':=by
 refine cU2 func85 ?_ (V [(5,[5,6])]) (J [(6,[5])]);have hI:Cl prog 172 [rv,.func (.func 86) #[] #[pv f]] w λo w'=>o=iv (-1)/\Fm F0 w w':=by
  refine cU2 func172 ?_ (V [(2,[8])]);simp only[RU,h.len];refine⟨λvs w2=>∃i:Nat,vs=[iv i]/\i<=rs.length/\Fm F0 w w2,λvs _=>(rs.length - nth vs 0).toNat,⟨0,rfl,Jd _,Fm.refl _ _⟩,?_⟩;rintro w2 v1 ⟨i,hvs,hi,hf2⟩;cases hvs;by_cases hlt:i<rs.length
  ·obtain⟨ad,vs,vm,vi,vp,vt,k1,_,k2⟩:=h.ld (C6 hlt);have k2:=(k2 _ hf2).1;simp only[RU,C9 (oM:(i:Int)<(rs.length:Int)),k1,k2];refine ax kR ((Ib (hf2.heap hf id) h0 (hl _ (Jk hlt))).mono ?_);rintro _ w3 ⟨rfl,hf3⟩;simp only[RU,show IntKind.i64.wrap ((i:Int)+1)=((i+1:Nat):Int) by have:=h.le;rw[af]<;>omega];exact⟨⟨i+1,rfl,hlt,Fmf hf2 hf3⟩,by simp only[ba];omega⟩
  ·obtain rfl:i=rs.length:=oM;simp only[RU,C3 (oM:¬((rs.length:Nat):Int)<(rs.length:Int))];exact hf2
 refine hI.mono ?_;rintro _ w2 ⟨rfl,hf2⟩;simp only[RU,show((-1:Int) == -1)=true from rfl];exact hf2
end
section
variable{w w':World}{c:Ctl}{b g m:Nat}{d d':Go.Al.Dk}{e:E}
theorem tp(d:Go.Al.Dk):d.tick.cur.length=d.cur.length:=by unfold Go.Al.Dk.tick;split<;>rfl
theorem BU:∀(l:List Bs) (d:Go.Al.Dk) (i:Nat),(d.wr i l).1.cur.length=d.cur.length
 | [],_,_=>rfl
 | x::l,d,i=>by
  have e:((d.put i x).tick).cur.length=d.cur.length:=(tp _).trans (I3 ..);rw[Go.Al.Dk.wr];cases(d.put i x).tick.gone
  ·exact(BU l _ _).trans e
  ·exact e
theorem qj(d:Go.Al.Dk)(a:Int)(s:Bs):(d.write a s).1.cur.length=d.cur.length:=by
 unfold Go.Al.Dk.write;cases d.gone
 ·cases decide (s.length % 64≠0)||!(d.has a (s.length / 64:Nat))
  ·exact BU _ _ _
  ·rfl
 ·rfl
theorem AX(d:Go.Al.Dk):d.sync.1.cur.length=d.cur.length:=by
 unfold Go.Al.Dk.sync;cases d.gone
 ·show(bif d.tick.gone then _ else _:Go.Al.Dk×Int).1.cur.length=_;cases d.tick.gone<;>exact tp d
 ·rfl
theorem fX(frm:Nat):∀(l:List Bs) (i:Nat) (t:Bool) (d:Go.Al.Dk),(dc frm l i t d).2.1.cur.length=d.cur.length
 | [],_,_,_=>rfl
 | x::l,i,t,d=>by
  rw[dc];cases decide (x=[])
  ·cases decide ((d.read ((frm+i:Nat):Int) 1).2=0)
   ·rfl
   ·cases decide ((d.read ((frm+i:Nat):Int) 1).1=x)
    ·cases decide ((d.write ((frm+i:Nat):Int) x).2=0)
     ·exact qj _ _ _
     ·exact(fX frm l _ _ _).trans (qj _ _ _)
    ·exact fX frm l _ _ _
  ·exact fX frm l _ _ _
theorem AB(d:Go.Al.Dk)(i j k:Int):(mu d i j k).1.cur.length=d.cur.length:=by
 unfold mu;cases !(gV d i j)||decide (k<1)
 ·cases d.gone
  ·cases decide ((bu d i.toNat j.toNat ((k.toNat - 1) / 54) j.toNat 0 []).2=0)
   ·rfl
   ·show(Lg.iN _ d).1.cur.length=_;unfold Lg.iN Lg.iO;have:=fX (oc d i.toNat j.toNat k.toNat).frm (oc d i.toNat j.toNat k.toNat).want 0 false d;cases decide ((dc (oc d i.toNat j.toNat k.toNat).frm (oc d i.toNat j.toNat k.toNat).want 0 false d).2.2=0)
    ·exact this
    ·cases(dc (oc d i.toNat j.toNat k.toNat).frm (oc d i.toNat j.toNat k.toNat).want 0 false d).1
     ·exact this
     ·exact(AX _).trans this
  ·rfl
 ·rfl
theorem Cy{m:Int}(h0:0<=m)(h1:m<=1024)(h:vG .i64 m 1=0):m % 2=0:=by obtain⟨n,rfl⟩:=E9 h0;rw[show(1:Int)=((1:Nat):Int) from rfl,vH n 1 oM dC,Nat.and_one_is_mod] at h;omega
theorem GZ(Z:Nat->Nat->Prop)(hd:∀c c' y,Z c y->Z c' y->c=c'):∃O:Nat->Nat,∀y,(∀c,Z c y->O y=c)/\(O y≠99->∃c,Z c y):=by
 classical
 refine⟨λy=>if h:∃c,Z c y then h.choose else 99,λy=>⟨λc hc=>?_,λhn=>?_⟩⟩
 ·have h:∃c,Z c y:=⟨c,hc⟩;show(if h:∃c,Z c y then h.choose else 99)=c;rw[dif_pos h];exact hd _ _ y h.choose_spec hc
 ·apply G5;intro c;exact hn (dif_neg c)
theorem GI{X:Prop}{c c' y x n0 n4 n5 n7 n8 n9 na a3 b3 a4 b4 a6 b6 a7 b7:Nat}(ho:n0<=n4/\n4<=n5/\n5<=n7/\n7<=n8/\n8<=n9/\n9<=na/\na<=x)(hdj:(b3<=a4\/b4<=a3)/\(b3<=a6\/b6<=a3)/\(b3<=a7\/b7<=a3)/\(b4<=a6\/b6<=a4)/\(b4<=a7\/b7<=a4)/\(b6<=a7\/b7<=a6))(hlo:na<=a3/\na<=a4/\na<=a6/\na<=a7)(hhi:b3<=x/\b4<=x/\b6<=x/\b7<=x)
  (h1:(c=0/\y=x)\/(c=1/\(y<n0\/(n4<=y/\y<n5/\X)\/(n9<=y/\y<na)))\/(c=3/\a3<=y/\y<b3)\/(c=4/\a4<=y/\y<b4)\/(c=5/\n7<=y/\y<n8)\/(c=6/\a6<=y/\y<b6)\/(c=7/\((n4<=y/\y<n5/\¬X)\/(a7<=y/\y<b7)))) (h2:(c'=0/\y=x)\/(c'=1/\(y<n0\/(n4<=y/\y<n5/\X)\/(n9<=y/\y<na)))\/(c'=3/\a3<=y/\y<b3)\/(c'=4/\a4<=y/\y<b4)\/(c'=5/\n7<=y/\y<n8)\/(c'=6/\a6<=y/\y<b6)\/(c'=7/\((n4<=y/\y<n5/\¬X)\/(a7<=y/\y<b7)))):c=c':=by
 by_cases hX:X<;>simp only[hX,and_true,and_false,not_true,not_false_iff,false_or] at h1 h2<;>rcases h1 with h1|h1|h1|h1|h1|h1|h1<;>omega
abbrev ssK(k:Nat):List (List Value):=(List.range 8).map λi=>seC (if i<k then i else 0) M.seat0 nl np
theorem Dt:∀k,k<8->(ssK k).set k ((seC 0 M.seat0 nl np).set 0 (iv k))=ssK (k+1)
 | 0,_=>rfl
 | 1,_=>rfl
 | 2,_=>rfl
 | 3,_=>rfl
 | 4,_=>rfl
 | 5,_=>rfl
 | 6,_=>rfl
 | 7,_=>rfl
 | k+8,h=>by omega
theorem Fo:∀k,k<8->(ssK k)[k]?=some (seC 0 M.seat0 nl np)
 | 0,_=>rfl
 | 1,_=>rfl
 | 2,_=>rfl
 | 3,_=>rfl
 | 4,_=>rfl
 | 5,_=>rfl
 | 6,_=>rfl
 | 7,_=>rfl
 | k+8,h=>by omega
theorem qX(h:DAt w b g m d)(hc:eT c=true)(hq:M.openM d c=some e):Cl prog 28 [pv b] w λo w'=>∃B O u rv yv ss,o=.tuple #[pv B.x,iv 0]/\RP w' O B e u rv yv ss/\(B.db=b/\B.g=g/\B.m=m)/\(∀y,O y≠99->Dm b g m y\/w.heap.size<=y)/\Fm (Dm b g m) w w':=by
 have hh:=hc;unfold eT at hh;simp only[E0,C4] at hh;obtain⟨⟨⟨c1,c2,c3,c4,c5,c6,c7,c8,c9⟩,hcl⟩,_⟩:=hh;unfold M.openM at hq;obtain⟨_,g1,hq⟩:=bind_some hq;obtain⟨_,g2,hq⟩:=bind_some hq;obtain⟨_,g3,hq⟩:=bind_some hq;obtain⟨_,g4,hq⟩:=bind_some hq;obtain⟨_,g5,hq⟩:=bind_some hq;obtain⟨_,g6,hq⟩:=bind_some hq;obtain⟨_,g7,hq⟩:=bind_some hq;have he:=I6 hq;have g1:=ak g1;have g2:=F9 (ak g2);have g3:=F9 (ak g3);have g4:=ak g4;have g5:=ak g5;have g6:=F9 (ak g6);have g7:=ak g7;simp only[E0,C4,JQ,G8] at g1 g5 g7;refine cU1 func28 ?_ (V [(30,[138])]) (J [(9,[5,6]),(28,[14])]);refine(lS h).mono ?_;rintro _ w ⟨rfl,rfl⟩;simp only[RU,g1.2];refine(fL h 0 2).mono ?_;rintro _ w ⟨rfl,rfl⟩;rw[g2];simp only[RU,show((0:Int) != 0)=false from rfl];refine aJ (λvs w2=>∃b2,vs=[iv 0,pv b2]/\w2.heap[b2]?=some (.cells (ctC c) 63)/\Fm F0 w w2/\w.heap.size<=b2) ?_ ?_
 ·rintro _ w2 ⟨b2,rfl,hb2,hf2,hlb2⟩;simp only[RU,show((0:Int) != 0)=false from rfl,show aI w2 ⟨b2,0,none⟩ 4=some (.agg (cfC c)) from aN (l:=(cfC c).toList) rfl (λj hj=>by rw[aA,ab hb2];match j,hj with|0,_=>rfl|1,_=>rfl|2,_=>rfl|3,_=>rfl)];refine(gB hc).mono ?_;rintro _ w3 ⟨rfl,hf3⟩;simp only[RU];refine aD (us:=#[iv 2,iv (2+c.secs),iv (M.sectors c)]) (λw4 hs4 hw4 hf4=>?_) rfl rfl rfl;have hd4:=Fm.drew F0 w4;refine⟨λwx=>Fm F0 w4.drew wx,Fm.refl _ _,?_⟩;simp only[RU];refine⟨iv (M.sectors c),λwx hx=>?_,?_⟩
  ·simp only[RU,ab (hx.heap (hd4.heap hw4 (λe=>e)) (λe=>e)),H7]
  have hF4:=Fmf (Fmf (Fmf hf2 hf3) hf4) hd4;refine(cG (h.aS hF4)).mono ?_;rintro _ _ ⟨rfl,rfl⟩;refine⟨Fm.refl _ _,?_⟩;have hb4:=(Fmf (Fmf hf3 hf4) hd4).heap hb2 (λe=>e);have hl4:=hd4.heap hw4 (λe=>e);have cb4:=λo=>ab (off:=o) hb4;have cl4:=λo=>ab (off:=o) hl4;simp only[RU,C3 (oM:¬(d.cur.length:Int)<M.sectors c),cb4,cl4];refine(vk (h.aS hF4) 2 c.secs 1 dC).mono ?_;rintro _ w5 ⟨p,ov,rfl,hD5,hf5,_,hok⟩;obtain⟨lb,X,Q,C,rfl,hL5,hov,hCl,hCh,hXl,hQl,hov2⟩:=(hok g3).ex;rw[g3]
  replace hL5:LAt w5 X lb b (oc d 2 c.secs.toNat 1):=hL5
  replace hCl:C.length=(sS d 2 c.secs.toNat 1).1.length:=hCl
  replace hCh:∀(i:Nat) cs r,C[i]?=some cs->(sS d 2 c.secs.toNat 1).1[i]?=some r->Held w5 Q cs r:=hCh
  generalize (sS d 2 c.secs.toNat 1).1=rs at hCl hCh g4 g5 g7 he;generalize oc d 2 c.secs.toNat 1=L at hL5 g6 he;have hd2:=AB d 2 c.secs 1;generalize (mu d 2 c.secs 1).1=d2 at hD5 he hd2;clear hok;have hdl:=h.lt;have ndm:∀y,w.heap.size<=y->¬Dm b g m y:=λy hy e=>by unfold Dm at e;omega
  have z4:=hF4.size;have z5:=hf5.size;have hb5:=hf5.heap hb4 (ndm _ hlb2);have hl5:=hf5.heap hl4 (ndm _ (Fmf hf2 hf3).size);have hR5:RcL w5 ov rs:=⟨C,Q,CellsAt.aT hov,hCl,hCh⟩;have hmo:Mo c.m:=⟨oM,oM,Cy oM oM c9⟩;simp only[RU,show((0:Int) == 0)=true from rfl,ab hb5,aa (n:=7) hb5 rfl];refine(xh hmo hR5 g4 (λr hr=>⟨(g5 r hr).1.1.2,λx hx=>(g5 r hr).2 x hx⟩)).mono ?_;rintro _ w6 ⟨rfl,hf6⟩;have z6:=hf6.size;refine aD (us:=fC (M.findX c.m rs 1) (M.findP rs 2)) (λw7 hs7 hw7 hf7=>?_) rfl rfl rfl;have hf57:=Fmf hf6 hf7;have hb7:=hf57.heap hb5 (λe=>e);simp only[RU,ab hb7,ab hw7];refine(zr hmo (by unfold M.idOk;exact C9 g7.2) g7.1).mono ?_;rintro _ w8 ⟨ib,rfl,hib,hi8,hf8⟩;have hf58:=Fmf hf57 hf8;have z8:=hf58.size;have hw8:=hf8.heap hw7 (λe=>e);simp only[RU,show((0:Int) != 0)=false from rfl,ab hw8,show IntKind.i64.wrap (700*IntKind.i64.wrap (0+((0:Nat):Int)))=0 from rfl];refine(iJ (hL5.aS hf58) 0).mono ?_;rintro _ w9 ⟨rfl,hL9,hf9⟩;rw[g6];have z9:=hf9.size;have hXlb:=hXl lb hL5.lb;have hlbl:=hL5.lt lb hL5.lb;have hne9:∀y,y<w.heap.size\/w5.heap.size<=y\/y<w4.drew.heap.size->¬y=lb:=λy hy e=>by omega
  have hb9:=hf9.heap (hf58.heap hb5 (λe=>e)) (hne9 _ (.inr (.inr (aj hb4))));have hl9:=hf9.heap (hf58.heap hl5 (λe=>e)) (hne9 _ (.inr (.inr (aj hl4))));simp only[RU,show((0:Int) != 0)=false from rfl,ab hb9,ab hl9];have hD9:=(hD5.aS hf58).keep hf9 (hne9 _ (.inl hdl.1)) (hne9 _ (.inl hdl.2.1)) (hne9 _ (.inl hdl.2.2));refine(yd hD9 lb (2+c.secs) c.pages c.frames (by constructor<;>omega)).mono ?_;rintro _ wa ⟨hfa,hpn⟩;rcases hpn with⟨hbad,_⟩|⟨_,pb,fb,ob,Xp,F,rfl,hP,hPw,hXp⟩
  ·exfalso;unfold sO at hbad;unfold M.sectors at g1;rw[hd2] at hbad;simp only[JU,C4] at hbad;omega
  simp only[RU,show((0:Int) != 0)=false from rfl];have za:=hfa.size;have hf5a:Fm (·=lb) w5 wa:=(hf58.trans hf9 (λ_ _ e=>e.elim) (λ_ _ e=>e)).trans hfa (λ_ _ e=>e) (λ_ _ e=>e.elim);have hba:=hfa.heap hb9 (λe=>e);have hwa:=hfa.heap (hf9.heap hw8 (hne9 _ (.inr (.inl z6)))) (λe=>e);refine aJ (λvs wb=>∃x v3 v4 v6 v7 a3 b3 a4 b4 a6 b6 a7 b7,vs=[pv x]/\EgB wb x [pv b,iv c.frames,iv c.m,iv c.secs,iv c.pages,iv 1,iv 1,iv 0,pv lb,pv pb,iv 0,iv 0,iv 0,iv 0,es,nl,v3,v4,pv ib,v6,iv (M.findP rs 2),iv 1,.bool false] (ssK 0) [.bool false,iv 0,iv 0,nl,nl,v7,nl,iv 0]/\P3 wb a3 b3 v3/\P4 wb a4 b4 v4/\P6 wb a6 b6 v6/\P7 wb a7 b7 v7/\((b3<=a4\/b4<=a3)/\(b3<=a6\/b6<=a3)/\(b3<=a7\/b7<=a3)/\(b4<=a6\/b6<=a4)/\(b4<=a7\/b7<=a4)/\(b6<=a7\/b7<=a6))/\(wa.heap.size<=a3/\wa.heap.size<=a4/\wa.heap.size<=a6/\wa.heap.size<=a7)/\(b3<=x/\b4<=x/\b6<=x/\b7<=x)/\wa.heap.size<=x/\Fm F0 wa wb) ?_ ?_
  ·rintro _ wb ⟨x,v3,v4,v6,v7,a3,b3,a4,b4,a6,b6,a7,b7,rfl,hxB,q3,q4,q6,q7,hdj,hlo,hhi,hxa,hfb⟩;obtain⟨kb,kh,kw,rfl,hT3,l3⟩:=q3;obtain⟨tb,tm,rfl,hT4,l4⟩:=q4;obtain⟨sb,sm,rfl,hT6,l6⟩:=q6;obtain⟨mt,rfl,hT7,l7⟩:=q7;have hfab:Fm (·=lb) w5 wb:=hf5a.trans hfb (λ_ _ e=>e) (λ_ _ e=>e.elim);have hXlb':X lb:=hL5.lb;have hvb:∀y,blockOf ov=some y->w4.drew.heap.size<=y/\y<w5.heap.size/\¬X y/\¬Q y:=λy hy=>by have h1:ov.ownBlock=some y:=@blo ov y ov (aZ (CellsAt.aT hov)) hy;exact⟨(aP hov y h1).1,(aP hov y h1).2,hov2 y h1⟩
   have hcb:CellsAt wb ov C.length 16 (C.flatMap Array.toList):=(CellsAt.aT hov).keep hfab (λy hy e=>(hvb y hy).2.2.1 (e▸hXlb'));have hQb:∀(i:Nat) cs r,C[i]?=some cs->rs[i]?=some r->Held wb Q cs r:=λi cs r h1 h2=>(hCh i cs r h1 h2).keep hfab (λy hy e=>(hQl y hy).2.2 (e▸hXlb'));simp only[RU];refine(EN ⟨C,Q,hcb,hCl,hQb⟩ (λr hr=>(g5 r hr).1.2) (hfb.heap hwa (λe=>e)) rfl).mono ?_;rintro o85 wc ⟨ho85,hfc⟩;rw[ho85];have hxc:=hxB.keep hfc (λe=>e);refine hxc.stl (o:=3) dC (gn hcb) λwd hxd hsd hfd=>?_;refine⟨λvs we=>∃k:Nat,vs=[iv k]/\k<=8/\EgB we x [pv b,iv c.frames,iv c.m,iv c.secs,iv c.pages,iv 1,iv 1,iv 0,pv lb,pv pb,iv 0,iv 0,iv 0,iv 0,es,nl,pv kb,pv tb,pv ib,pv sb,iv (M.findP rs 2),iv 1,.bool false] (ssK k) [.bool false,iv 0,iv 0,ov,nl,.map (some mt),nl,iv 0]/\Fm (·=x) wd we,λvs _=>(8 - nth vs 0).toNat,⟨0,rfl,Jd _,hxd,Fm.refl _ _⟩,?_⟩;rintro we v1 ⟨k,hvs,hk,hxe,hfe⟩;cases hvs;by_cases hlt:k<8
   ·simp only[RU,C9 (oM:(k:Int)<8),show ixA 8 25 (.pointer (some ⟨x,23,none⟩)) (iv k)=some (.pointer (some ⟨x,23+k*25,none⟩)) from mh (B:=⟨x,pb,lb,b,g,m,fb,ob,kb,kh,kw,tb,tm,ib,sb,sm,mt,c.frames,c.secs⟩) hlt];refine hxe.y9 (i:=k) (j:=0) (Fo k hlt) dC rfl λwf hxf hsf hff=>?_;rw[Dt k hlt] at hxf;simp only[RU,show IntKind.i64.wrap ((k:Int)+1)=((k+1:Nat):Int) by rw[af]<;>omega];exact⟨⟨k+1,rfl,hlt,hxf,hfe.trans hff (λ_ _ e=>e) (λ_ _ e=>e)⟩,by simp only[ba];omega⟩
   ·obtain rfl:k=8:=oM;simp only[RU,show decide (((8:Nat):Int)<8)=false from rfl];have hfce:Fm (·=x) wb we:=((hfc.mono (λ_ _ e=>e.elim)).trans hfd (λ_ _ e=>e) (λ_ _ e=>e)).trans hfe (λ_ _ e=>e) (λ_ _ e=>e);have hXlt:=hL5.lt;have hXp':=hP.lt;have zb:=hfb.size;have zc:=hfce.size;have zx:=aj hxe.blk;have hfae:Fm (·=x) wa we:=(hfb.mono (λ_ _ e=>e.elim)).trans hfce (λ_ _ e=>e) (λ_ _ e=>e);have hL:=(hL9.aS hfa).keep hfae (λy hy e=>by have:=hXlt y hy;omega);have hD:=(hD9.aS hfa).keep hfae oM oM oM;have hPe:=hP.keep hfae (λy hy e=>by have:=hXp' y hy;omega);have hS:SI we X Xp (λ_=>False) pb lb b g m fb ob F ⟨uq (2+c.secs) c.pages c.frames,(L.reserve 0).1,d2⟩:=⟨hL,hD,hPe,hPw,λy h1 h2=>by have:=hXlt y h1;have:=hXp y h2;omega,⟨λe=>by have:=hXl _ e;omega,λe=>by have:=hXl _ e;omega,λe=>by have:=hXl _ e;omega⟩,⟨λe=>by have:=hXp _ e;omega,λe=>by have:=hXp _ e;omega,λe=>by have:=hXp _ e;omega⟩⟩;have hSY:∀y,SY X Xp b g m y->y<w.heap.size\/(w4.drew.heap.size<=y/\y<w5.heap.size/\X y)\/(w9.heap.size<=y/\y<wa.heap.size):=λy hy=>by
     rcases hy with e|e|rfl|rfl|rfl
     ·exact .inr (.inl ⟨hXl y e,hXlt y e,e⟩)
     ·exact .inr (.inr ⟨hXp y e,hXp' y e⟩)
     ·exact .inl hdl.1
     ·exact .inl hdl.2.1
     ·exact .inl hdl.2.2
    have h7:∀y,(Q y\/blockOf ov=some y\/y=mt)->(w4.drew.heap.size<=y/\y<w5.heap.size/\¬X y)\/(a7<=y/\y<b7):=λy hy=>by
     rcases hy with e|e|rfl
     ·exact .inl (hQl y e)
     ·exact .inl ⟨(hvb y e).1,(hvb y e).2.1,(hvb y e).2.2.1⟩
     ·exact .inr l7
    obtain⟨O,hO⟩:=GZ (λc y=>(c=0/\y=x)\/(c=1/\SY X Xp b g m y)\/(c=3/\(y=kb\/y=kh\/y=kw))\/(c=4/\(y=tb\/y=tm))\/(c=5/\y=ib)\/(c=6/\(y=sb\/y=sm))\/(c=7/\(Q y\/blockOf ov=some y\/y=mt))) (λc1 c2 y h1 h2=>by
     have key:∀c,((c=0/\y=x)\/(c=1/\SY X Xp b g m y)\/(c=3/\(y=kb\/y=kh\/y=kw))\/(c=4/\(y=tb\/y=tm))\/(c=5/\y=ib)\/(c=6/\(y=sb\/y=sm))\/(c=7/\(Q y\/blockOf ov=some y\/y=mt)))->(c=0/\y=x)\/(c=1/\(y<w.heap.size\/(w4.drew.heap.size<=y/\y<w5.heap.size/\X y)\/(w9.heap.size<=y/\y<wa.heap.size)))\/(c=3/\a3<=y/\y<b3)\/(c=4/\a4<=y/\y<b4)\/(c=5/\w7.heap.size<=y/\y<w8.heap.size)\/(c=6/\a6<=y/\y<b6)\/(c=7/\((w4.drew.heap.size<=y/\y<w5.heap.size/\¬X y)\/(a7<=y/\y<b7))):=λc h=>by
      rcases h with h|⟨e,h⟩|⟨e,h⟩|⟨e,h⟩|⟨e,h⟩|⟨e,h⟩|⟨e,h⟩
      ·exact .inl h
      ·exact .inr (.inl ⟨e,hSY y h⟩)
      ·exact .inr (.inr (.inl ⟨e,by rcases h with rfl|rfl|rfl<;>omega⟩))
      ·exact .inr (.inr (.inr (.inl ⟨e,by rcases h with rfl|rfl<;>omega⟩)))
      ·exact .inr (.inr (.inr (.inr (.inl ⟨e,by rw[h];exact⟨hib,aj hi8⟩⟩))))
      ·exact .inr (.inr (.inr (.inr (.inr (.inl ⟨e,by rcases h with rfl|rfl<;>omega⟩)))))
      ·exact .inr (.inr (.inr (.inr (.inr (.inr ⟨e,h7 y h⟩)))))
     exact GI ⟨z4,z5,hf57.size,hf8.size,z9,za,hxa⟩ hdj hlo hhi (key _ h1) (key _ h2))
    subst he;have hfle:Fm (λy=>y=lb\/y=x) w5 we:=hfab.trans hfce (λ_ _ e=>.inl e) (λ_ _ e=>.inr e);have hxl:∀y,y<w5.heap.size->¬X y->¬(y=lb\/y=x):=λy h1 h2 e=>by
     rcases e with rfl|rfl
     ·exact h2 hXlb'
     ·omega
    have hi8':=hfae.heap (hfa.heap (hf9.heap hi8 (by have:=hib;have:=hf57.size;omega)) (λe=>e)) (by have:=aj hi8;omega);have hcx:∀y,y<x->¬y=x:=λy h e=>by omega
    refine⟨⟨x,pb,lb,b,g,m,fb,ob,kb,kh,kw,tb,tm,ib,sb,sm,mt,c.frames,c.secs⟩,O,nl,ov,nl,ssK 8,rfl,⟨⟨λ_=>⟨X,Xp,λ_=>False,F,hS,λy hy=>(hO y).1 1 (.inr (.inl ⟨rfl,hy⟩))⟩,λ_=>HeldP.zero we _,λ_=>⟨⟨[],[],hT3.keep hfce (hcx _ oM) (hcx _ oM) (hcx _ oM),⟨⟨λ_=>0,λp q h=>by obtain⟨_,h,_⟩:=h;cases h⟩,λp key h=>by cases h⟩,λ_=>rfl,λ_=>rfl⟩,⟨(hO _).1 3 (.inr (.inr (.inl ⟨rfl,.inl rfl⟩))),(hO _).1 3 (.inr (.inr (.inl ⟨rfl,.inr (.inl rfl)⟩))),(hO _).1 3 (.inr (.inr (.inl ⟨rfl,.inr (.inr rfl)⟩)))⟩,List.nodup_nil,List.nodup_nil⟩,λ_=>⟨[],(hT4.keep hfce (λy hy=>hcx _ (by rcases hy with rfl|rfl<;>omega))).wide (λy hy=>(hO y).1 4 (.inr (.inr (.inr (.inl ⟨rfl,hy⟩)))))⟩,λ_=>⟨hi8',(hO _).1 5 (.inr (.inr (.inr (.inr (.inl ⟨rfl,rfl⟩)))))⟩,λ_=>⟨hT6.keep hfce (hcx _ oM) (hcx _ oM),(hO _).1 6 (.inr (.inr (.inr (.inr (.inr (.inl ⟨rfl,.inl rfl⟩)))))),(hO _).1 6 (.inr (.inr (.inr (.inr (.inr (.inl ⟨rfl,.inr rfl⟩))))))⟩,λ_=>⟨⟨C,Q,hcb.keep hfce (λy hy=>hcx _ (by have:=hvb y hy;omega)),hCl,λi cs r h1 h2=>(hQb i cs r h1 h2).keep hfce (λy hy=>hcx _ (by have:=hQl y hy;omega)),λy hy=>⟨(hO y).1 7 (.inr (.inr (.inr (.inr (.inr (.inr ⟨rfl,.inl hy⟩)))))),by have:=hQl y hy;show y≠mt;omega⟩,λy hy=>⟨(hO y).1 7 (.inr (.inr (.inr (.inr (.inr (.inr ⟨rfl,.inr (.inl hy)⟩)))))),by have:=hvb y hy;show y≠mt;omega⟩⟩,⟨CellsAt.aT (World.ownsRow_nil we 0 3 1),λy hy=>by cases hy⟩,⟨[],hT7.keep hfce (hcx _ oM),λn=>rfl⟩,(hO _).1 7 (.inr (.inr (.inr (.inr (.inr (.inr ⟨rfl,.inr (.inr rfl)⟩))))))⟩,λi s _ hi=>?_,λ_=>hxe⟩,λy hy=>?_,(hO _).1 0 (.inl ⟨rfl,rfl⟩),rfl,hmo,λ_=>rfl,rfl⟩,⟨rfl,rfl,rfl⟩,λy hy=>?_,?_⟩
    ·have hs:i<8/\s=M.seat0:=by
      have h1:(List.replicate 8 M.seat0)[i]?=some s:=hi;rw[J5] at h1;split at h1
      ·cases h1;exact⟨by assumption,rfl⟩
      ·cases h1
     obtain⟨h8,rfl⟩:=hs;refine⟨seC i M.seat0 nl np,?_,nl,np,rfl,CellsAt.aT (World.ownsRow_nil we 0 23 2),(λy hy=>by cases hy),rfl⟩;rw[E4,JJ h8];show some (seC (if i<8 then i else 0) M.seat0 nl np)=_;rw[IY h8]
    ·obtain⟨c1,hc1⟩:=(hO y).2 hy;rcases hc1 with⟨_,rfl⟩|⟨_,h⟩|⟨_,h⟩|⟨_,h⟩|⟨_,h⟩|⟨_,h⟩|⟨_,h⟩
     ·exact zx
     ·have:=hSY y h;omega
     ·rcases h with rfl|rfl|rfl<;>omega
     ·rcases h with rfl|rfl<;>omega
     ·rw[h];exact aj hi8'
     ·rcases h with rfl|rfl<;>omega
     ·have:=h7 y h;omega
    ·obtain⟨c1,hc1⟩:=(hO y).2 hy;have z57:=hf57.size;rcases hc1 with⟨_,rfl⟩|⟨_,h⟩|⟨_,h⟩|⟨_,h⟩|⟨_,h⟩|⟨_,h⟩|⟨_,h⟩
     ·exact .inr oM
     ·rcases h with e|e|e|e|e
      ·exact .inr (by have:=hXl y e;omega)
      ·exact .inr (by have:=hXp y e;omega)
      ·exact .inl (.inl e)
      ·exact .inl (.inr (.inl e))
      ·exact .inl (.inr (.inr e))
     ·exact .inr (by rcases h with rfl|rfl|rfl<;>omega)
     ·exact .inr (by rcases h with rfl|rfl<;>omega)
     ·exact .inr oM
     ·exact .inr (by rcases h with rfl|rfl<;>omega)
     ·exact .inr (by have:=h7 y h;omega)
    ·exact(((hF4.mono (λ_ _ e=>e.elim)).trans hf5 (λ_ _ e=>e) (λ_ _ e=>e)).trans hfle (λ_ _ e=>e) (λy hy e=>by
      rcases e with rfl|rfl
      ·omega
      ·omega))
  ·intro kk hkk;have hda:=Fm.drew F0 wa;refine⟨λwx=>Fm F0 wa.drew wx,Fm.refl _ _,.agg (ctC c),λwx hx=>?_,iv (M.findP rs 2),λwx hx=>?_,iv 1,λwx hx=>?_,nl,λwx hx=>?_,?_⟩
   ·simp only[RU,aa (n:=7) (hx.heap (hda.heap hba (λe=>e)) (λe=>e)) rfl,H7]
   ·simp only[RU,ab (hx.heap (hda.heap hwa (λe=>e)) (λe=>e)),H7]
   ·simp only[RU,ab (hx.heap (hda.heap hwa (λe=>e)) (λe=>e)),H7]
   ·simp only[RU,ab (hx.heap (hda.heap hwa (λe=>e)) (λe=>e)),H7]
   refine Ia (λ_ h=>h) (λwb v3 v4 v6 v7 a3 b3 a4 b4 a6 b6 a7 b7 p3 p4 p6 p7 hdj hlo hhi hfb=>?_);have e3:=p3;have e4:=p4;have e6:=p6;have e7:=p7;obtain⟨kb,_,_,rfl,_⟩:=e3;obtain⟨tb,_,rfl,_⟩:=e4;obtain⟨sb,_,rfl,_⟩:=e6;obtain⟨mt,rfl,_⟩:=e7;refine bst (egC [pv b,iv c.frames,iv c.m,iv c.secs,iv c.pages,iv 1,iv 1,iv 0,pv lb,pv pb,iv 0,iv 0,iv 0,iv 0,es,nl,pv kb,pv tb,pv ib,pv sb,iv (M.findP rs 2),iv 1,.bool false] (ssK 0) [.bool false,iv 0,iv 0,nl,nl,.map (some mt),nl,iv 0]).toArray ⟨rfl,?_⟩;refine ae ?_;rintro x wx rfl hsx hwx hfx;have hcell:∀a:Array Value,(Value.agg a).cells=a:=λ_=>by kernel_rfl
   rw[hcell] at hwx;have zfb:=hfb.size;rw[aM] at hlo zfb;exact hkk _ _ ⟨_,_,_,_,_,a3,b3,a4,b4,a6,b6,a7,b7,rfl,⟨hwx,rfl,rfl,λs hs=>by
    obtain⟨i,_,rfl⟩:=E8.1 hs
    rfl,rfl⟩,p3.keep hfx,p4.keep hfx,p6.keep hfx,p7.keep hfx,hdj,hlo,hhi,zfb,Fmf (Fmf hda hfb) hfx⟩
 ·intro kk hkk;have hs1:slS (stv (aG 64++iM c)) none (some (iv 64))=some (stv (aG 64)):=(gl (l:=aG 64++iM c) (i:=64) (by rw[C5,show(aG 64).length=64 from rfl];omega) .i64).trans (by rw[List.take_left' (show(aG 64).length=64 from rfl)]);have hs2:slS (stv (aG 64++iM c)) (some (iv 64)) none=some (stv (iM c)):=(eP (l:=aG 64++iM c) (i:=64) (by rw[C5,show(aG 64).length=64 from rfl];omega) .i64).trans (by rw[Kw (show(aG 64).length=64 from rfl)]);simp only[RU,hs1,hs2];have hd:=Fm.drew F0 w;refine⟨(kH hc).mono ?_,?_,trivial⟩
  ·rintro _ w2 ⟨rfl,hf2⟩;simp only[RU];refine aD (us:=ctC c) (λw3 hs3 hw3 hf3=>?_) rfl rfl rfl;exact hkk _ _ ⟨_,rfl,hw3,Fmf (Fmf hd hf2) hf3,by have:=(Fmf hd hf2).size;exact this⟩
  ·refine ae ?_;rintro b1 w1 rfl hs1 hw1 hf1;rw[aM] at hs1 hw1 ⊢;refine(kH hc).mono ?_;rintro _ w2 ⟨rfl,hf2⟩;simp only[RU];refine ao (hf2.heap hw1 (λe=>e)) (λw3 hw3 hs3 hf3=>?_) rfl rfl rfl;exact hkk _ _ ⟨_,rfl,hw3,Fm.own (Fmf (Fmf hd hf1) hf2) hf3 (λy e=>by rw[e];exact D9 _),D9 _⟩
end
section
variable{e e' e1:E}{i:Nat}{n:Int}{p:Pg}{r:Rc}{s:Seat}
theorem yu(hq:M.release e n=some e'):e'.phase=e.phase:=by unfold M.release at hq;obtain⟨_,_,hq⟩:=bind_some hq;cases hq;rfl
theorem BN(hq:M.reserve e n=some e'):e'.phase=e.phase:=by obtain⟨_,rfl⟩:=jr hq;rfl
theorem sC(hq:M.fetch e n=some (e',p)):e'.phase=e.phase:=by obtain⟨_,rfl⟩:=lW hq;rfl
theorem EO(hq:M.lay e n p=some e'):e'.phase=e.phase:=by unfold M.lay at hq;obtain⟨_,_,hq⟩:=bind_some hq;obtain⟨_,_,hq⟩:=bind_some hq;cases hq;rfl
theorem zm{who free:Int}(hq:M.wr e who r free=some e'):e'.phase=e.phase:=by
 unfold M.wr at hq;obtain⟨t,_,hq⟩:=bind_some hq;obtain⟨n,_,hq⟩:=bind_some hq;obtain⟨⟨e1,r1,q⟩,hb,hq⟩:=bind_some hq;obtain⟨_,_,hq⟩:=bind_some hq;obtain⟨e2,hr,hq⟩:=bind_some hq;obtain⟨e3,hl,hq⟩:=bind_some hq;obtain⟨_,_,hq⟩:=bind_some hq;obtain⟨tx,_,hq⟩:=bind_some hq;have h1:e1.phase=e.phase:=by
  unfold M.behind at hb;split at hb
  ·obtain⟨_,_,e⟩:=E6.1 hb;cases e;rfl
  ·obtain⟨⟨ex,p⟩,hf,hb⟩:=bind_some hb;obtain⟨_,_,hb⟩:=bind_some hb;cases hb;exact sC hf
  ·cases hb
 have h2:e2.phase=e1.phase:=by
  cases hu:M.undoes r1 with
  | true=>rw[hu] at hr;exact BN hr
  | false=>rw[hu] at hr;cases hr;rfl
 exact(EO hq).trans ((yu hl).trans (h2.trans h1))
theorem Dg{c n:Int}(hq:M.roomFor e i c=some (e1,n)):e1.phase=e.phase:=by
 unfold M.roomFor at hq;split at hq
 ·obtain⟨_,_,hq⟩:=bind_some hq;cases hq;rfl
 ·obtain⟨_,_,hq⟩:=bind_some hq;obtain⟨_,_,hq⟩:=bind_some hq;obtain⟨e2,hw,hq⟩:=bind_some hq;obtain⟨_,_,hq⟩:=bind_some hq;cases hq;exact(zm hw:e2.phase=e.phase)
theorem ng(hq:M.close e i n=some e'):e'.phase=e.phase:=by unfold M.close at hq;obtain⟨_,_,hq⟩:=bind_some hq;obtain⟨_,_,hq⟩:=bind_some hq;obtain⟨e1,h1,hq⟩:=bind_some hq;cases hq;have h:=yu h1;exact h
theorem yJ{q:Pn}(hq:M.show_ e i q=some e'):e'.phase=e.phase:=by
 unfold M.show_ at hq;obtain⟨⟨e1,b⟩,h1,hq⟩:=bind_some hq;obtain⟨v,_,hq⟩:=bind_some hq;obtain⟨⟨p1,rr⟩,_,hq⟩:=bind_some hq;have h1:=sC h1;cases rr with
 | none=>cases hq;exact h1
 | some r=>obtain⟨e2,h2,hq⟩:=bind_some hq;obtain⟨_,_,hq⟩:=bind_some hq;cases hq;exact(zm h2).trans h1
theorem Ae(hq:M.ended e i=some e'):e'.phase=e.phase:=by
 unfold M.ended at hq;obtain⟨p,_,hq⟩:=bind_some hq;cases h4:decide (p.wk=4)<;>rw[h4] at hq
 ·cases hq;rfl
 ·cases h0:decide (p.rep.err=0)<;>rw[h0] at hq
  ·obtain⟨_,_,hq⟩:=bind_some hq;obtain⟨_,_,hq⟩:=bind_some hq;cases hq;rfl
  ·obtain⟨_,_,hq⟩:=bind_some hq;cases hq;rfl
theorem oV(hq:M.follow e i=some e'):e'.phase=e.phase:=by
 unfold M.follow at hq;obtain⟨_,_,hq⟩:=bind_some hq;obtain⟨p,_,hq⟩:=bind_some hq;obtain⟨e1,h1,hq⟩:=bind_some hq;refine(Ae hq).trans ?_;split at h1
 ·obtain⟨⟨e2,r⟩,h2,h1⟩:=bind_some h1;cases h1;show e2.phase=_;unfold M.tryK at h2;dsimp only at h2;cases hd:decide ((getD e.holds p.wkey).getD (i:Int)=(i:Int))<;>rw[hd] at h2
  ·obtain⟨b,_,h2⟩:=bind_some h2;cases b<;>cases h2<;>rfl
  ·cases h2;rfl
 ·obtain⟨⟨e2,r⟩,h2,h1⟩:=bind_some h1;have h:=yJ h1;have h':=Dg h2;exact h.trans h'
 ·exact yJ h1
 ·cases h1
theorem oB(hq:M.commit e i=some e'):e'.phase=e.phase:=by unfold M.commit at hq;obtain⟨_,_,hq⟩:=bind_some hq;have h:=zm hq;exact h
theorem yI(hq:M.settle e i=some e'):e'.phase=e.phase:=by
 unfold M.settle at hq;obtain⟨e1,h1,hq⟩:=bind_some hq;obtain⟨t,_,hq⟩:=bind_some hq;obtain⟨e2,h2,hq⟩:=bind_some hq;cases hq;have h:=ng h2;refine Eq.trans (b:=e1.phase) h ?_;unfold M.flush at h1;cases hd:decide ((M.seatAt e i).end_<(e.s.l.last:Int))<;>rw[hd] at h1
 ·obtain⟨_,_,h1⟩:=bind_some h1;cases h1;rfl
 ·cases h1;rfl
theorem yC(hq:M.roll e i=some e'):e'.phase=e.phase:=by
 unfold M.roll at hq;obtain⟨t,_,hq⟩:=bind_some hq;obtain⟨⟨a,c⟩,_,hq⟩:=bind_some hq;cases c with
 | some u=>have h:=zm hq;exact h
 | none=>
  obtain⟨e2,h2,hq⟩:=bind_some hq;obtain⟨e3,h3,hq⟩:=bind_some hq;cases hq;have h:=ng h3;refine Eq.trans (b:=e2.phase) h ?_;cases hd:decide (t.last=0)<;>rw[hd] at h2
  ·have h:=zm h2;exact h
  ·have h:=yu h2;exact h
theorem zJ(hq:M.begin e i=some e'):e'.phase=e.phase:=by
 unfold M.begin at hq;dsimp only at hq;split at hq
 ·obtain⟨_,_,hq⟩:=bind_some hq;cases hq;rfl
 ·obtain⟨t,_,hq⟩:=bind_some hq;cases hd:decide (t.last=0)<;>rw[hd] at hq
  ·have h:=oB hq;exact h
  ·obtain⟨_,_,hq⟩:=bind_some hq;obtain⟨e2,h2,hq⟩:=bind_some hq;cases hq;have h:=ng h2;exact h
 ·obtain⟨t,_,hq⟩:=bind_some hq;obtain⟨_,_,hq⟩:=bind_some hq;have h:=yC hq;exact h
 ·obtain⟨t,_,hq⟩:=bind_some hq;obtain⟨⟨e2,x⟩,h2,hq⟩:=bind_some hq;obtain⟨p,_,hq⟩:=bind_some hq;have h:=oV hq;refine Eq.trans (b:=e2.phase) h ?_;cases hd:(M.writes (M.seatAt e i).ask&&decide (t.xid=0))<;>rw[hd] at h2
  ·cases h2;rfl
  ·obtain⟨_,_,h2⟩:=bind_some h2;obtain⟨e3,h3,h2⟩:=bind_some h2;cases h2;have h:=BN h3;exact h
theorem Du(hq:M.stepM e i=some e'):e'.phase=e.phase:=by
 unfold M.stepM at hq;split at hq
 ·exact zJ hq
 ·exact oV hq
 ·exact oB hq
 ·exact yI hq
 ·exact yC hq
 ·cases hq
end
open M (E Seat Wk Pn Rp Ak Tx Ctl)
section
variable{w w' w1 w2:World}{P:Nat->Prop}{t:Nat}{B:Bk}{e e' e1:E}{i:Nat}{n k:Int}{r:Rp}{a:Ak}
def TW(w:World)(P:Nat->Prop)(t:Nat)(B:Bk)(e:E):Prop:=∃O u rv yv ss cs,RP w O B e u rv yv ss/\w.heap[t]?=some (.cells cs 44)/\(cs.size=12/\cs[0]?=some (pv B.db)/\cs[1]?=some (pv B.x))/\(∀y,P y->O y=99/\y<w.heap.size)/\O t=99/\¬P t
theorem TW.aS(h:TW w P t B e)(hf:Fm F0 w w'):TW w' P t B e:=by obtain⟨O,u,rv,yv,ss,cs,h1,h2,h3,h4,h5⟩:=h;exact⟨O,u,rv,yv,ss,cs,h1.aS hf,hf.heap h2 id,h3,λy hy=>⟨(h4 y hy).1,E3 (h4 y hy).2 hf.size⟩,h5⟩
theorem TW.run{g:FuncId}{args:List Value}{Q:Value->World->Prop}(h:TW w P t B e)(H:∀O u rv yv ss,RP w O B e u rv yv ss->(∀y,P y->O y=99)->Cl prog g args w λo w'=>Q o w'/\Ex O w B e' w'):Cl prog g args w λo w'=>Q o w'/\TW w' P t B e'/\Fm (λy=>¬P y) w w':=by obtain⟨O,u,rv,yv,ss,cs,h1,h2,h3,h4,h5,h6⟩:=h;refine(H O u rv yv ss h1 (λy hy=>(h4 y hy).1)).mono ?_;rintro o w' ⟨hQ,O',u',rv',yv',ss',h',s⟩;exact⟨hQ,⟨O',u',rv',yv',ss',cs,h',s.f.heap h2 (λe=>e h5),h3,λy hy=>⟨s.free (h4 y hy).2 (h4 y hy).1,E3 (h4 y hy).2 s.f.size⟩,s.free (aj h2) h5,h6⟩,s.f.mono λy _ e hp=>e (h4 y hp).1⟩
theorem TW.x(h:TW w P t B e):w.cell? ⟨t,1,none⟩=some (pv B.x):=by obtain⟨O,u,rv,yv,ss,cs,h1,h2,h3,h4⟩:=h;rw[ab h2];exact h3.2.2
theorem TW.d(h:TW w P t B e):w.cell? ⟨t,0,none⟩=some (pv B.db):=by obtain⟨O,u,rv,yv,ss,cs,h1,h2,h3,h4⟩:=h;rw[ab h2];exact h3.2.1
theorem TW.last(h:TW w P t B e){x:Value}{k:KV}(hx:x.oneCell'=true)(hk:∀w',TW w' P t B e->Fm (·=t) w w'->k undef w'):St 1 w (.pointer (some ⟨t,11,none⟩)) x k:=by obtain⟨O,u,rv,yv,ss,cs,h1,h2,h3,h4,h5,h6⟩:=h;refine au h2 (j:=11) oM hx λw' hw hs hf=>hk w' ⟨O,u,rv,yv,ss,_,h1.iD h5 hf,hw,⟨by rw[J1];exact h3.1,by rw[J3 dC];exact h3.2.1,by rw[J3 dC];exact h3.2.2⟩,λy hy=>⟨(h4 y hy).1,E3 (h4 y hy).2 hf.size⟩,h5,h6⟩ hf
theorem TW.lt(h:TW w P t B e):t<w.heap.size:=by obtain⟨O,u,rv,yv,ss,cs,h1,h2,h3,h4⟩:=h;exact aj h2
theorem TW.ft(h:TW w P t B e)(hf:Fm (·=t) w1 w2):Fm (λy=>¬P y) w1 w2:=by obtain⟨O,u,rv,yv,ss,cs,h1,h2,h3,h4,h5,h6⟩:=h;exact hf.mono λy _ e hp=>h6 (e▸hp)
theorem TW.As(h:TW w P t B e)(hf:Fm F0 w w'){P':Nat->Prop}(hb:∀y,P' y->w.heap.size<=y/\y<w'.heap.size):TW w' (λy=>P y\/P' y) t B e:=by have hl:=h.lt;obtain⟨O,u,rv,yv,ss,cs,h1,h2,h3,h4,h5,h6⟩:=h;exact⟨O,u,rv,yv,ss,cs,h1.aS hf,hf.heap h2 id,h3,λy hy=>hy.elim (λhy=>⟨(h4 y hy).1,E3 (h4 y hy).2 hf.size⟩) (λe=>⟨h1.free (hb y e).1,(hb y e).2⟩),h5,λe=>e.elim h6 (λe=>by have:=(hb t e).1;omega)⟩
theorem TW.add(h:TW w P t B e)(hf:Fm F0 w w'){b:Nat}(hb:w.heap.size<=b)(hb1:b<w'.heap.size):TW w' (λy=>P y\/y=b) t B e:=h.As hf (λy e=>by rw[e];exact⟨hb,hb1⟩)
theorem TW.loc(h:TW w P t B e)(hf:Fm P w w'):TW w' P t B e:=by obtain⟨O,u,rv,yv,ss,cs,h1,h2,h3,h4,h5,h6⟩:=h;exact⟨O,u,rv,yv,ss,cs,h1.oF (hf.mono λy _ hy=>(h4 y hy).1),hf.heap h2 h6,h3,λy hy=>⟨(h4 y hy).1,E3 (h4 y hy).2 hf.size⟩,h5,h6⟩
theorem TW.mK(h:TW w P t B e)(hi:i<8):e.seats[i]?=some (M.seatAt e i):=by obtain⟨O,u,rv,yv,ss,cs,h1,h2,h3,h4,h5,h6⟩:=h;exact h1.eQ hi
theorem tg(h:M.runM e k=some e'):M.runN e 0 k=some e':=by
 unfold M.runM at h;unfold M.runN;split at h
 ·rename_i i l hl;have h0:ga (M.runnable e).length 0=0:=by
   have hp:(0:Int)<((M.runnable e).length:Nat):=by rw[hl,G2];omega
   unfold ga;rw[Int.zero_tmod,Int.zero_add,Int.tmod_self];rfl
  rw[h0,hl];exact h
 ·cases h
theorem rF(h:M.runN e n k=some e'):e'.phase=e.phase:=by
 unfold M.runN at h;split at h
 ·have h:=Du h;exact h
 ·cases h
theorem bJ{w w1 w2:World}(f:Fm (λy=>¬P y) w w1)(g:Fm (λy=>¬P y) w1 w2):Fm (λy=>¬P y) w w2:=f.trans g iT iT
theorem t0{w w1:World}(f:Fm F0 w w1):Fm (λy=>¬P y) w w1:=f.mono λ_ _ e=>e.elim
theorem dM(h:TW w P t B e)(h5:e.phase=5)(hi:i<8)(ha:1<=a.call/\a.call<=9)(hq:M.alone e i a=some (e',r)):Cl prog 9 [pv t,iv i,.agg (akC a)] w λo w'=>o=.bool (decide (r.err=0))/\TW w' P t B e'/\e'.phase=5/\Fm (λy=>¬P y) w w':=by
 unfold M.alone at hq;obtain⟨e0,h0,hq⟩:=bind_some hq;have hp0:e0.phase=5:=by
  unfold M.ask at h0;split at h0
  ·cases h0;exact h5
  ·cases h0
 refine cU3 func9 ?_ (V [(6,[7])]);refine ae ?_;rintro b1 w1 rfl hs1 hw1 hf1;refine(h.aS hf1).last rfl λw2 h2 hf2=>?_;have hft:=h.ft hf2;have hd:=Fm.drew F0 w2;have hb2:=hf2.heap hw1 (by have:=h.lt;omega);simp only[RU,h2.x,aa (n:=5) (hd.heap hb2 id) rfl];refine((h2.aS hd).run (Q:=λo _=>o=iv 0) (λO u rv yv ss hR hP=>mY hR h5 hi ha h0)).mono ?_;rintro _ w3 ⟨rfl,h3,hf3⟩;simp only[RU,show((0:Int) != 0)=false from rfl];have hF3:Fm (λy=>¬P y) w w3:=bJ (bJ (bJ (t0 hf1) hft) (t0 hd)) hf3;refine⟨λvs w4=>∃(k:Nat) (ek:E),vs=[iv k]/\k<=40/\TW w4 P t B ek/\ek.phase=5/\M.aloneGo i (40 - k) k ek=some (e',r)/\Fm (λy=>¬P y) w w4,λvs _=>(40 - nth vs 0).toNat,⟨0,e0,rfl,Jd _,h3,hp0,hq,hF3⟩,?_⟩;rintro w4 v1 ⟨k,ek,hvs,hk,h4,hp4,hq4,hF4⟩;cases hvs;obtain⟨f,hf⟩:∃f,40 - k=f+1:=by
  cases hz:40 - k with
  | zero=>rw[hz] at hq4;cases hq4
  | succ f=>exact⟨f,rfl⟩
 rw[hf,M.aloneGo] at hq4;simp only[RU,h4.x];cases hr:M.replyM ek i with
 | some x=>
  obtain⟨e5,r5⟩:=x;rw[hr] at hq4;cases hq4;refine(h4.run (Q:=λo w'=>∃rr,o=.tuple #[.agg (rpC r rr),.bool true]/\CellsAt w' rr r.rows.length 2 (r.rows.flatMap rowL)) (λO u rv yv ss hR hP=>(gq hR (h4.mK hi) hr).mono (by rintro o w' ⟨rr,h1,h2,_,h3⟩;exact⟨⟨rr,h1,h2⟩,h3⟩))).mono ?_;rintro _ w5 ⟨⟨rr,rfl,hrr⟩,h5',hf5⟩;simp only[RU];refine aD (us:=rpC r rr) (λw6 hs6 hw6 hf6=>?_) rfl rfl (by simp[gn hrr];exact⟨rfl,rfl,rfl⟩);have h6:=h5'.aS hf6;simp only[RU,ab hw6];refine h6.last rfl λw7 h7 hf7=>?_;simp only[RU,ab (hf7.heap hw6 (by have:=h5'.lt;omega))];refine⟨rfl,h7,?_,bJ (bJ (bJ hF4 hf5) (t0 hf6)) (h6.ft hf7)⟩;unfold M.replyM at hr;cases ht:(M.seatAt ek i).told<;>rw[ht] at hr
  ·cases hr
  ·cases hr;exact hp4
 | none=>
  rw[hr] at hq4;obtain⟨e5,hrun,hq4⟩:=bind_some hq4;have ht:(M.seatAt ek i).told=false:=by
   unfold M.replyM at hr;cases ht:(M.seatAt ek i).told with
   | false=>rfl
   | true=>rw[ht] at hr;cases hr
  have hn:Cl prog 12 [pv B.x,iv i] w4 λo w'=>o=.tuple #[.agg (rpC M.rp0 nl),.bool false]/\Fm F0 w4 w':=by obtain⟨O,u,rv,yv,ss,cs,hR,_⟩:=id h4;exact jb hR (h4.mK hi) ht
  refine hn.mono ?_;rintro _ w5 ⟨rfl,hf5⟩;simp only[RU];refine aD (us:=rpC M.rp0 nl) (λw6 hs6 hw6 hf6=>?_) rfl rfl rfl;have h6:=h4.aS (Fmf hf5 hf6);simp only[RU,h6.x];refine(h6.run (Q:=λo _=>∃x,o=.tuple #[x,iv 0]) (λO u rv yv ss hR hP=>nO hR hp4 (tg hrun))).mono ?_;rintro _ w7 ⟨⟨x,rfl⟩,h7,hf7⟩;simp only[RU,show((0:Int) != 0)=false from rfl,show IntKind.i64.wrap ((k:Int)+1)=((k+1:Nat):Int) by rw[af]<;>omega];refine⟨⟨k+1,e5,rfl,oM,h7,(rF (tg hrun)).trans hp4,?_,bJ (bJ hF4 (t0 (Fmf hf5 hf6))) hf7⟩,by simp only[ba];omega⟩;rw[(oM:40 - (k+1)=f)];exact hq4
end
section
variable{w w' w1 w2:World}{P:Nat->Prop}{t b g m:Nat}{B:Bk}{e e' e1:E}{i:Nat}{n k:Int}{r:Rp}{a:Ak}{c:Ctl}{d d':Go.Al.Dk}
theorem mr(h:DAt w b g m d)(hc:eT c=true)(hq:M.opensM d c=some e):Cl prog 18 [pv b] w λo w'=>∃B O u rv yv ss,o=pv B.x/\RP w' O B e u rv yv ss/\(B.db=b/\B.g=g/\B.m=m)/\(∀y,O y≠99->Dm b g m y\/w.heap.size<=y)/\Fm (Dm b g m) w w'/\e.phase=5:=by
 unfold M.opensM at hq;obtain⟨e0,h0,hq⟩:=bind_some hq;refine cU1 func18 ?_ (V [(5,[5])]);refine(qX h hc h0).mono ?_;rintro _ w1 ⟨B,O,u,rv,yv,ss,rfl,hR,hB,hO,hf1⟩;simp only[RU,show((0:Int) != 0)=false from rfl];refine⟨λvs w4=>∃(k:Nat) (ek:E),vs=[iv k]/\k<=60/\M.readyGo (60 - k) k ek=some e/\Fm (Dm b g m) w w4/\∃O u rv yv ss,RP w4 O B ek u rv yv ss/\∀y,O y≠99->Dm b g m y\/w.heap.size<=y,λvs _=>(60 - nth vs 0).toNat,⟨0,e0,rfl,Jd _,hq,hf1,O,u,rv,yv,ss,hR,hO⟩,?_⟩;rintro w4 v1 ⟨k,ek,hvs,hk,hq4,hf4,O,u,rv,yv,ss,hR,hO⟩;cases hvs;obtain⟨f,hf⟩:∃f,60 - k=f+1:=by
  cases hz:60 - k with
  | zero=>rw[hz] at hq4;cases hq4
  | succ f=>exact⟨f,rfl⟩
 rw[hf,M.readyGo] at hq4;refine(dY hR).mono ?_;rintro _ w5 ⟨rfl,hf5⟩;have h5:=hR.aS hf5;have hF5:Fm (Dm b g m) w w5:=hf4.trans hf5 iT iE;by_cases hp:ek.phase=5
 ·rw[C9 hp,D8] at hq4;cases hq4;simp only[RU,C9 hp];exact⟨B,O,u,rv,yv,ss,rfl,h5,hB,hO,hF5,hp⟩
 ·rw[C3 hp,C8] at hq4;obtain⟨e5,h6,hq4⟩:=bind_some hq4;simp only[RU,C3 hp];refine(yF h5 hp h6).mono ?_;rintro _ w6 ⟨⟨x,rfl⟩,O',u',rv',yv',ss',hR6,s6⟩;simp only[RU,show((0:Int) != 0)=false from rfl,show IntKind.i64.wrap ((k:Int)+1)=((k+1:Nat):Int) by rw[af]<;>omega];refine⟨⟨k+1,e5,rfl,oM,by rw[(oM:60 - (k+1)=f)];exact hq4,hF5.trans s6.f iT (λy hy e=>(hO y e).elim id (λh=>oM)),O',u',rv',yv',ss',hR6,λy hy=>(s6.g.new y hy).elim (hO y) (λh=>.inr (F8 hF5.size h))⟩,by simp only[ba];omega⟩
theorem jV(hc:eT c=true)(h4:c.m % 4=0)(hq:M.beginM c=some e):Cl prog 16 [.agg (cfC c)] w λo w'=>∃t B,o=pv t/\TW w' (λy=>y<w.heap.size) t B e/\e.phase=5/\w.heap.size<=t/\(∃cs wv,w'.heap[t]?=some (.cells cs 44)/\cs=#[pv B.db,pv B.x,iv c.frames,iv c.m,iv c.secs,iv c.pages,nl,iv 0,wv,.bool true,.bool false,iv 0])/\Fm F0 w w':=by
 unfold M.beginM at hq;obtain⟨d,hd,hq⟩:=bind_some hq;refine cU1 func16 ?_;refine ae ?_;rintro b1 w1 rfl hs1 hw1 hf1;simp only[RU,aa (n:=4) hw1 rfl];refine(rH hc).mono ?_;rintro _ w2 ⟨rfl,hf2⟩;simp only[RU,show((0:Int) != 0)=false from rfl];refine(wV w2 (M.sectors c)).mono ?_;have hh:=hc;unfold eT at hh;simp only[E0,C4] at hh;rintro _ w3 ⟨_,hn⟩;obtain⟨b,g,m,rfl,hb,hg,hm,hD,hf3⟩:=hn (by unfold M.sectors;omega);have hF3:=Fmf (Fmf hf1 hf2) hf3;simp only[RU,show((0:Int) != 0)=false from rfl,aa (n:=4) ((Fmf hf2 hf3).heap hw1 id) rfl];refine(qK hD hc h4 hd).mono ?_;rintro _ w4 ⟨rfl,hD4,hf4⟩;have z12:=(Fmf hf1 hf2).size;have F4:Fm F0 w w4:=Fm.own hF3 hf4 (λy e=>by unfold Dm at e;omega);simp only[RU,show((0:Int) != 0)=false from rfl];refine(mr hD4 hc hq).mono ?_;rintro _ w5 ⟨B,O,u,rv,yv,ss,rfl,hR,hB,hO,hf5,hp⟩;have F5:Fm F0 w w5:=Fm.own F4 hf5 (λy e=>by unfold Dm at e;omega);have z2:=hf2.size;have hbb:∀y,Dm b g m y->¬y=w.heap.size:=λy e=>by unfold Dm at e;omega
 have k5:=hf5.heap (hf4.heap ((Fmf hf2 hf3).heap hw1 id) (λe=>hbb _ e rfl)) (λe=>hbb _ e rfl);have hd5:=Fm.drew F0 w5;simp only[RU];refine⟨λwx=>Fm F0 w5.drew wx,Fm.refl _ _,.agg (cfC c),λwx hx=>?_,?_⟩
 ·simp only[RU,aa (n:=4) (hx.heap (hd5.heap k5 id) id) rfl,H7]
 refine bsl 8 ((List.replicate 8 [.bool false,.bool false,.bool false,iv 0,nl,nl,.bool false,.int .u8 0,es,es,es,iv 0]).flatMap id).toArray 524 ?_;generalize hcl:((List.replicate 8 [.bool false,.bool false,.bool false,iv 0,nl,nl,.bool false,.int .u8 0,es,es,es,iv 0]).flatMap id).toArray=cl;have hfa:=Fm.alloc F0 w5.drew (.cells cl 524);refine⟨hfa,?_⟩;refine bst #[pv b,pv B.x,iv c.frames,iv c.m,iv c.secs,iv c.pages,nl,iv 0,.slice (some ⟨w5.drew.heap.size,0,none⟩) 8 8,.bool true,.bool false,iv 0] ⟨rfl,?_⟩;refine ae ?_;rintro t wt rfl hst hwt hft;have hcell:∀a:Array Value,(Value.agg a).cells=a:=λ_=>by kernel_rfl
 rw[hcell] at hwt;obtain⟨rfl,rfl,rfl⟩:=hB;have Ft:=Fmf (Fmf hd5 hfa) hft;have z5:=F5.size;have za:=(Fmf hd5 hfa).size;refine⟨_,B,rfl,⟨O,u,rv,yv,ss,_,hR.aS Ft,hwt,⟨rfl,rfl,rfl⟩,λy hy=>⟨?_,?_⟩,hR.free za,λe=>oM⟩,hp,oM,⟨_,_,hwt,rfl⟩,Fmf F5 Ft⟩
 ·apply G5;intro c;rcases hO y c with e|e
  ·unfold Dm at e;omega
  ·have:=F4.size;omega
 ·have:=Ft.size;omega
end
section
variable{w w' w1 w2:World}{P:Nat->Prop}{t b g m:Nat}{B:Bk}{e e' e1 e2 e3:E}{i:Nat}{n k:Int}{r r1 r2 r3:Rp}{a:Ak}{c:Ctl}{d d':Go.Al.Dk}
theorem TW.len(h:TW w P t B e):e.seats.length=8:=by obtain⟨O,u,rv,yv,ss,cs,h1,h2⟩:=h;exact h1.sl
theorem zE(hl:e.seats.length=8)(hi:i<8)(hq:M.ask e i a=some e'):M.replyM e' i=none:=by
 unfold M.ask at hq;split at hq
 ·cases hq;unfold M.replyM M.seatAt M.setSeat;rw[G6,JB oM]
  rfl
 ·cases hq
theorem vL(h5:e.phase=5)(hq:M.ask e i a=some e'):e'.phase=5:=by
 unfold M.ask at hq;split at hq
 ·cases hq;exact h5
 ·cases hq
theorem td(hq:M.replyM e i=some (e',r)):e'.phase=e.phase:=by
 unfold M.replyM at hq;cases ht:(M.seatAt e i).told with
 | false=>rw[ht] at hq;cases hq
 | true=>rw[ht] at hq;cases hq;rfl
theorem qa(hq:M.replyM e i=none):(M.seatAt e i).told=false:=by
 unfold M.replyM at hq;cases ht:(M.seatAt e i).told with
 | false=>rfl
 | true=>rw[ht] at hq;cases hq
theorem uH(h:TW w P t B e)(h5:e.phase=5)(hi:i<8)(hq1:M.alone e i (M.aw 1)=some (e1,r1))(hr1:r1.err=0)(hq2:M.alone e1 i { M.ak0 with call:=5,n:=16 }=some (e2,r2))(hr2:r2.err=0)(hl:r2.rows.length<16)(hq3:M.alone e2 i (M.aw 6)=some (e3,r3))(hr3:r3.err=0):Cl prog 13 [pv t,iv i] w λo w'=>∃rv,o=.tuple #[rv,.bool true]/\CellsAt w' rv r2.rows.length 2 (r2.rows.flatMap rowL)/\Fm (λy=>¬P y) w w':=by
 refine cU2 func13 ?_ (V [(10,[9,10]),(5,[6,7])]);refine bst (akC (M.aw 1)) ?_;refine(dM h h5 hi dC hq1).mono ?_;rintro _ w1 ⟨rfl,h1,p1,hf1⟩;simp only[RU,hr1];simp only[RU,show decide True=true from rfl];unfold M.alone at hq2;obtain⟨e0,h0,hq2⟩:=bind_some hq2;refine⟨λvs wx=>vs=[nl,es]/\wx=w1,λ_ _=>0,⟨rfl,rfl⟩,?_⟩;rintro w1 v1 v2 ⟨hvs,rfl⟩;cases hvs;simp only[RU,h1.x];refine bst (akC { M.ak0 with call:=5,n:=16 }) ?_;refine(h1.run (Q:=λo _=>o=iv 0) (λO u rv yv ss hR hP=>mY hR p1 hi (dC:1<=(5:Int)/\(5:Int)<=9) h0)).mono ?_;rintro _ w2 ⟨rfl,h2,hf2⟩;simp only[RU,show((0:Int) != 0)=false from rfl];refine ae ?_;rintro b3 w3 rfl hs3 hw3 hf3;have h3:=h2.add hf3 (D9 _) oM;have hnP:¬P w2.heap.size:=λe=>by obtain⟨_,_,_,_,_,_,_,_,_,hP,_⟩:=h2;have:=(hP _ e).2;omega
 have dn:∀{a b:World},Fm (λy=>¬(P y\/y=w2.heap.size)) a b->Fm (λy=>¬P y) a b:=λf=>f.mono λy _ e h=>e (.inl h);have ds:∀{a b:World},Fm (·=w2.heap.size) a b->Fm (λy=>¬P y) a b:=λf=>f.mono λy _ e h=>hnP (e▸h);refine⟨λvs w4=>∃k:Nat,k<=40/\Fm (λy=>¬P y) w w4/\((vs=[.bool false,iv k]/\(∃ek,TW w4 (λy=>P y\/y=w2.heap.size) t B ek/\ek.phase=5/\M.replyM ek i=none/\M.aloneGo i (40 - k) k ek=some (e2,r2))/\w4.heap[w2.heap.size]?=some (.cells (rpC M.rp0 nl) 49))\/(vs=[.bool true,iv k]/\TW w4 (λy=>P y\/y=w2.heap.size) t B e2/\e2.phase=5/\∃rr,w4.heap[w2.heap.size]?=some (.cells (rpC r2 rr) 49)/\CellsAt w4 rr r2.rows.length 2 (r2.rows.flatMap rowL))),λvs _=>(100 - nth vs 1).toNat,⟨0,Jd _,bJ (bJ hf1 hf2) (t0 hf3),.inl ⟨rfl,⟨e0,h3,vL p1 h0,zE h1.len hi h0,hq2⟩,hw3⟩⟩,?_⟩;rintro w4 v3 v4 ⟨k,hk,hF4,⟨hvs,⟨ek,h4,p4,hr4,hq4⟩,hw4⟩|⟨hvs,h4,p4,rr,hw4,hrr⟩⟩
 ·cases hvs;obtain⟨f,hf⟩:∃f,40 - k=f+1:=by
   cases hz:40 - k with
   | zero=>rw[hz] at hq4;cases hq4
   | succ f=>exact⟨f,rfl⟩
  rw[hf,M.aloneGo,hr4] at hq4;obtain⟨e5,hrun,hq4⟩:=bind_some hq4;obtain⟨f',rfl⟩:∃f',f=f'+1:=by
   cases f with
   | zero=>cases hq4
   | succ f=>exact⟨f,rfl⟩
  simp only[RU,h4.x];refine(h4.run (Q:=λo _=>∃x,o=.tuple #[x,iv 0]) (λO u rv yv ss hR hP=>nO hR p4 (tg hrun))).mono ?_;rintro _ w5 ⟨⟨x,rfl⟩,h5',hf5⟩;have p5:=(rF (tg hrun)).trans p4;have hw5:=hf5.heap hw4 (λe=>e (.inr rfl));simp only[RU,show((0:Int) != 0)=false from rfl,h5'.x];have wk:IntKind.i64.wrap ((k:Int)+1)=((k+1:Nat):Int):=by rw[af]<;>omega
  cases hr5:M.replyM e5 i with
  | none=>
   have hn:Cl prog 12 [pv B.x,iv i] w5 λo w'=>o=.tuple #[.agg (rpC M.rp0 nl),.bool false]/\Fm F0 w5 w':=by obtain⟨O,u,rv,yv,ss,cs,hR,_⟩:=id h5';exact jb hR (h5'.mK hi) (qa hr5)
   refine hn.mono ?_;rintro _ w6 ⟨rfl,hf6⟩;simp only[RU];refine ao (hf6.heap hw5 id) (λw7 hw7 hs7 hf7=>?_) rfl rfl rfl;have h7:=(h5'.aS hf6).loc (hf7.mono (λy _ e=>.inr e));simp only[RU,wk];exact⟨⟨k+1,oM,bJ (bJ (bJ hF4 (dn hf5)) (t0 hf6)) (ds hf7),.inl ⟨rfl,⟨e5,h7,p5,hr5,by rw[(oM:40 - (k+1)=f'+1)];exact hq4⟩,hw7⟩⟩,by simp only[cK];omega⟩
  | some x=>obtain⟨e6,r6⟩:=x;rw[M.aloneGo,hr5] at hq4;cases hq4;refine(h5'.run (Q:=λo w'=>∃rr,o=.tuple #[.agg (rpC r2 rr),.bool true]/\CellsAt w' rr r2.rows.length 2 (r2.rows.flatMap rowL)/\∀y,blockOf rr=some y->¬(P y\/y=w2.heap.size)) (λO u rv yv ss hR hP=>(gq hR (h5'.mK hi) hr5).mono (by rintro o w' ⟨rr,q1,q2,q4,q3⟩;exact⟨⟨rr,q1,q2,λy hy c=>q4 y hy (hP y c)⟩,q3⟩))).mono ?_;rintro _ w6 ⟨⟨rr,rfl,hrr,hrb⟩,h6,hf6⟩;simp only[RU];refine ao (hf6.heap hw5 (λe=>e (.inr rfl))) (λw7 hw7 hs7 hf7=>?_) rfl rfl (by simp[gn hrr];exact⟨rfl,rfl,rfl⟩);have h7:=h6.loc (hf7.mono (λy _ e=>.inr e));simp only[RU,wk];exact⟨⟨k+1,oM,bJ (bJ (bJ hF4 (dn hf5)) (dn hf6)) (ds hf7),.inr ⟨rfl,h7,(td hr5).trans p5,rr,hw7,hrr.keep hf7 (λy hy e=>hrb y hy (.inr e))⟩⟩,by simp only[cK];omega⟩
 ·cases hvs;simp only[RU,ab hw4];have hro:∀u∈r2.rows.flatMap rowL,u.oneCell'=true:=λu hu=>by obtain⟨x,_,hx⟩:=KF.1 hu;simp[rowL] at hx;rcases hx with rfl|rfl<;>rfl
  obtain⟨v',w5,hr5,ho5,hf5⟩:=cC E27 dC (World.ownsRow_nil w4 w4.heap.size 23 2) hrr hro 27 (by unfold maxLen;omega) oM (D9 _);refine ag hr5 ?_
  replace hf5:Fm F0 w4 w5:=hf5.mono (λy _ e=>by cases e)
  rw[E7,H9] at ho5;have hw5:=hf5.heap hw4 id;have h5':=h4.As hf5 (P':=λy=>v'.ownBlock=some y) (λy hy=>aP ho5 y hy);simp only[RU,ab hw5,hr2,show((0:Int) != 0)=false from rfl,(hrr.keep hf5 iT).lenV,C9 (oM:((r2.rows.length:Nat):Int)<16),show((0:Int) == 0)=true from rfl];refine bst (akC (M.aw 6)) ?_;refine(dM h5' p4 hi (dC:1<=(6:Int)/\(6:Int)<=9) hq3).mono ?_;rintro _ w6 ⟨rfl,h6,p6,hf6⟩;simp only[RU,hr3];exact⟨v',rfl,(CellsAt.aT ho5).keep hf6 (λy hy e=>e (.inr (@blo v' y v' (aZ (CellsAt.aT ho5)) hy))),bJ (bJ hF4 (t0 hf5)) (dn (hf6.mono λy _ e h=>e (.inl h)))⟩
end
section
variable{w w' w1 w2:World}{P:Nat->Prop}{t b g m:Nat}{B:Bk}{e e' e1 e2 e3:E}{i:Nat}{n k:Int}{r r1 r2 r3:Rp}{a:Ak}{c:Ctl}{d d':Go.Al.Dk}
theorem GV(x:Bs×Bs)(o1 o2:Operand)(w:World):(DQ .neq 23 o1 o2 (.agg (rowL x).toArray) (.agg (rowL x).toArray)).run prog w=.ok (.bool false) w:=by
 have hS:prog.underlying 23=some (.struct (prog.fieldsOf 23)):=kR;have hp:prog.stoodInHeld 23=false:=kR;have hm:prog.eqGuardType prog.depth 23=false:=kR;have u9:=underlying9;unfold DQ;rw[Sem.run_bind,run_eqGuard_agg w .neq 23 o1 o2 _ _ hm,Result.andThen_ok,run_neq_struct,show(10000:Nat)=9999+1 from rfl,run_equalIn_agg w 9999 23 _ _ hS hp];have a9:=isAgg9;have z9:=sizeOf9;simp only[Program.fieldsOf,underlying23];obtain⟨p1,p2⟩:=x
 go_simp
theorem tD{av bv:Value}{L:List (Bs×Bs)}(ha:CellsAt w av L.length 2 (L.flatMap rowL))(hb:CellsAt w bv L.length 2 (L.flatMap rowL)):Cl prog 14 [av,bv] w λo w'=>o=.bool true/\Fm F0 w w':=by
 have hle:L.length<=9223372036854775807:=by obtain⟨⟨a,c,_,h1,h2,_⟩,_⟩:=ha;unfold maxLen at h2;omega
 refine cU2 func14 ?_ (V [(4,[5])]);simp only[RU,ha.lenV,hb.lenV,(sI:(((L.length:Nat):Int) !=(L.length:Nat))=false)];refine⟨λvs wx=>∃k:Nat,vs=[iv k]/\k<=L.length/\Fm F0 w wx,λvs _=>(L.length - nth vs 0).toNat,⟨0,rfl,Jd _,Fm.refl _ _⟩,?_⟩;rintro w2 v1 ⟨k,hvs,hk,hf2⟩;cases hvs;by_cases hlt:k<L.length
 ·have e1:L[k]?=some L[k]:=C6 hlt;generalize L[k]=x at e1;have hd:=Fm.drew F0 w2;have F2:=Fmf hf2 hd;have rd:∀{v:Value},CellsAt w v L.length 2 (L.flatMap rowL)->∃ad,ixV 2 v (iv k)=some (.pointer (some ad))/\aI w2.drew ad 2=some (.agg (rowL x).toArray):=λ{v} h=>by obtain⟨ad,k1,_,k2⟩:=(h.keep F2 iT).at dC hlt .i64;exact⟨ad,k1,aN (l:=rowL x) rfl λj hj=>by rw[k2 j hj,dD (f:=rowL) (λ_=>rfl) e1 hj]⟩
  obtain⟨ad1,a1,a2⟩:=rd ha;obtain⟨ad2,b1,b2⟩:=rd hb;simp only[RU,C9 (oM:(k:Int)<(L.length:Int)),a1,a2,b1,b2];refine ag (GV x _ _ _) ⟨rfl,?_⟩;simp only[RU,show IntKind.i64.wrap ((k:Int)+1)=((k+1:Nat):Int) by rw[af]<;>omega];exact⟨⟨k+1,rfl,hlt,F2⟩,by simp only[ba];omega⟩
 ·obtain rfl:k=L.length:=oM;simp only[RU,C3 (oM:¬((L.length:Nat):Int)<(L.length:Int))];exact hf2
theorem zG{eA eB eC eD eO eR e9:E}{r9:Rp}{x:E×Rp}(hb:M.beginM M.ctlA=some e)(hA:M.awake1 e=some eA)(hB:M.awake1 eA=some eB)(hC:(M.alone eB 1 (M.aw 1)).bind M.okR=some eC)(hD:(M.alone eC 1 { M.ak0 with call:=4,key:=[97] }).bind M.okR=some eD)(hO:M.opensM (eD.s.d.crash []) M.ctlA=some eO)(hR:(M.alone eO 2 (M.aw 1)).bind M.okR=some eR)(h9:M.alone eR 2 { M.ak0 with call:=5,n:=16 }=some (e9,r9))(hr:r9.err=0/\r9.rows=[([97],[49]),([98],[50])])(hX:M.alone e9 2 (M.aw 6)=some x)(hx:x.2.err=0):Cl prog 6 [] w λo w'=>o=.bool true/\Fm F0 w w':=by
 refine cU0 func6 ?_ (V [(5,[2])]);refine bst (cfC M.ctlA) ?_;refine(jV okA dC hb).mono ?_;rintro _ w1 ⟨t,B,rfl,h1,p1,_,_,hf1⟩;obtain⟨P,hP⟩:∃P:Nat->Prop,P=λy=>y<w.heap.size:=⟨_,rfl⟩;rw[<- hP] at h1;have al:∀{w2:World} {e e':E} {i:Nat} {a:Ak} {k:KV},TW w2 P t B e->e.phase=5->Fm (λy=>¬P y) w1 w2->i<8->(1<=a.call/\a.call<=9)->(M.alone e i a).bind M.okR=some e'->(∀w',TW w' P t B e'->e'.phase=5->Fm (λy=>¬P y) w1 w'->k (.bool true) w')->Cl prog 9 [pv t,iv i,.agg (akC a)] w2 k:=λ{w2 e e' i a k} h hp hf hi ha hq hk=>by obtain⟨⟨e1,r1⟩,h1,h2⟩:=Jl.1 hq;unfold M.okR at h2;obtain⟨_,hg,h2⟩:=bind_some h2;cases h2;refine(dM h hp hi ha h1).mono ?_;rintro _ w' ⟨rfl,h3,p3,f3⟩;rw[ak hg];exact hk w' h3 p3 (bJ hf f3)
 simp only[RU];refine⟨λvs wx=>(vs=[iv 0]/\TW wx P t B e/\e.phase=5/\Fm (λy=>¬P y) w1 wx)\/(vs=[iv 1]/\TW wx P t B eA/\eA.phase=5/\Fm (λy=>¬P y) w1 wx)\/(vs=[iv 2]/\TW wx P t B eB/\eB.phase=5/\Fm (λy=>¬P y) w1 wx),λvs _=>(2 - nth vs 0).toNat,.inl ⟨rfl,h1,p1,Fm.refl _ _⟩,?_⟩;rintro w2 v1 (⟨hvs,h2,p2,hF2⟩|⟨hvs,h2,p2,hF2⟩|⟨hvs,h2,p2,hF2⟩)
 ·cases hvs;unfold M.awake1 at hA;obtain⟨f1,q1,hA⟩:=bind_some hA;obtain⟨f2,q2,hA⟩:=bind_some hA;obtain⟨f3,q3,q4⟩:=bind_some hA;simp only[RU,show decide ((0:Int)<2)=true from rfl];refine bst (akC (M.aw 1)) (al h2 p2 hF2 dC dC q1 λw3 h3 p3 hF3=>?_);simp only[RU];refine bst (akC (M.putA [97] [49])) (al h3 p3 hF3 dC dC q2 λw4 h4 p4 hF4=>?_);simp only[RU];refine bst (akC (M.putA [98] [50])) (al h4 p4 hF4 dC dC q3 λw5 h5 p5 hF5=>?_);simp only[RU];refine bst (akC (M.aw 6)) (al h5 p5 hF5 dC dC q4 λw6 h6 p6 hF6=>?_);simp only[RU,show IntKind.i64.wrap ((0:Int)+1)=1 from rfl];exact⟨.inr (.inl ⟨h6,p6,hF6⟩),dC⟩
 ·cases hvs;unfold M.awake1 at hB;obtain⟨f1,q1,hB⟩:=bind_some hB;obtain⟨f2,q2,hB⟩:=bind_some hB;obtain⟨f3,q3,q4⟩:=bind_some hB;simp only[RU,show decide ((1:Int)<2)=true from rfl];refine bst (akC (M.aw 1)) (al h2 p2 hF2 dC dC q1 λw3 h3 p3 hF3=>?_);simp only[RU];refine bst (akC (M.putA [97] [49])) (al h3 p3 hF3 dC dC q2 λw4 h4 p4 hF4=>?_);simp only[RU];refine bst (akC (M.putA [98] [50])) (al h4 p4 hF4 dC dC q3 λw5 h5 p5 hF5=>?_);simp only[RU];refine bst (akC (M.aw 6)) (al h5 p5 hF5 dC dC q4 λw6 h6 p6 hF6=>?_);simp only[RU,show IntKind.i64.wrap ((1:Int)+1)=2 from rfl];exact⟨.inr (.inr ⟨h6,p6,hF6⟩),dC⟩
 ·cases hvs;simp only[RU,show decide ((2:Int)<2)=false from rfl];refine bst (akC (M.aw 1)) (al h2 p2 hF2 dC dC hC λw3 h3 p3 hF3=>?_);simp only[RU];refine bst (akC { M.ak0 with call:=4,key:=[97] }) (al h3 p3 hF3 dC dC hD λw4 h4 p4 hF4=>?_);simp only[RU,h4.d];obtain⟨O,u,rv,yv,ss,cs,hR4,ht4,hc4,hP4,hO4,hPt⟩:=id h4;obtain⟨Xl,Xp,Q,F,hS,hSY⟩:=hR4.sys;have hdm:∀y,Dm B.db B.g B.m y->O y=1:=λy e=>hSY y (.inr (.inr e));refine(qA hS.hD (L:=[]) (CellsAt.aT (World.ownsRow_nil w4 0 3 1)) (λe=>absurd rfl e) (λf hf=>by cases hf)).mono ?_;rintro _ w5 ⟨rfl,hD5,hf5⟩;have ht5:=hf5.heap ht4 (λe=>by have:=hdm t e;rw[hO4] at this;cases this);simp only[RU,ab ht5,hc4.2.1];refine(mr hD5 okA hO).mono ?_;rintro _ w6 ⟨B',O',u',rv',yv',ss',rfl,hR6,⟨hB1,hB2,hB3⟩,hO6,hf6,p6⟩;have ht6:=hf6.heap ht5 (λe=>by have:=hdm t e;rw[hO4] at this;cases this);have hO6t:O' t=99:=by
   apply G5;intro c;rcases hO6 t c with e|e
   ·have:=hdm t e;rw[hO4] at this;cases this
   ·have:=aj ht5;omega
  refine au ht6 (j:=1) oM rfl λw7 hw7 hs7 hf7=>?_;have hdP:∀y,Dm B.db B.g B.m y->¬P y:=λy e h=>by have h1:=hdm y e;rw[(hP4 y h).1] at h1;cases h1
  have hF7:Fm (λy=>¬P y) w1 w7:=bJ (bJ (bJ hF4 (hf5.mono λy _ e=>hdP y e)) (hf6.mono λy _ e=>hdP y e)) (hf7.mono λy _ e h=>hPt (e▸h));have h7:TW w7 P t B' eO:=⟨O',u',rv',yv',ss',_,hR6.iD hO6t hf7,hw7,⟨by rw[J1];exact hc4.1,by rw[J3 dC,hB1];exact hc4.2.1,by rw[Array.getElem?_setIfInBounds_self_of_lt oM]⟩,λy hy=>⟨by
   apply G5;intro c;rcases hO6 y c with e|e
   ·exact hdP y e hy
   ·have:=(hP4 y hy).2;have:=hf5.size;omega,E3 (hP4 y hy).2 (F8 (F8 hf5.size hf6.size) hf7.size)⟩,hO6t,hPt⟩
  simp only[RU,h7.x];obtain⟨⟨f1,r1⟩,q1,q2⟩:=Jl.1 hR;unfold M.okR at q2;obtain⟨_,hg,q2⟩:=bind_some q2;cases q2;obtain⟨e3,r3⟩:=x;refine(uH h7 p6 dC q1 (F9 (ak hg)) h9 hr.1 (by rw[hr.2];decide) hX hx).mono ?_;rintro _ w8 ⟨rv8,rfl,hrv,hf8⟩;rw[hr.2] at hrv;simp only[RU];refine bst (rowL ([97],[49])).toArray (bst (rowL ([98],[50])).toArray ?_);refine bsl 2 ([([97],[49]),([98],[50])].flatMap rowL).toArray 23 ?_;have hfa:=Fm.alloc F0 w8 (.cells ([([97],[49]),([98],[50])].flatMap rowL).toArray 23);have hcs:CellsAt (w8.alloc (.cells ([([97],[49]),([98],[50])].flatMap rowL).toArray 23)) (.slice (some ⟨w8.heap.size,0,none⟩) 2 2) 2 2 ([([97],[49]),([98],[50])].flatMap rowL):=CellsAt.aT (cY (w:=w8) (e:=23) (sz:=2) (n:=2) (l:=[([97],[49]),([98],[50])].flatMap rowL) rfl (D9 _) dC);refine(tD (L:=[([97],[49]),([98],[50])]) (hrv.keep hfa iT) hcs).mono ?_;rintro _ w9 ⟨rfl,hf9⟩;simp only[RU];exact Fm.own hf1 (bJ (bJ hF7 hf8) (t0 (Fmf hfa hf9))) (λy hy=>by rw[hP] at hy;omega)
theorem tH(hq:M.awakeM=true):Cl prog 6 [] w λo w'=>o=.bool true/\Fm F0 w w':=by
 have some_of:∀{α β:Type} {f:α->Option β} {x:Option α} {y:β},(x >>= f)=some y->∃a,x=some a/\f a=some y:=λh=>bind_some h;unfold M.awakeM at hq;cases h3:M.awake3 with
 | none=>rw[h3] at hq;cases hq
 | some x=>
 obtain⟨e9,r9⟩:=x;rw[h3] at hq
 replace hq:(decide (r9.err=0)&&decide (r9.rows=[([97],[49]),([98],[50])])&&(match (M.alone e9 2 (M.aw 6)).bind M.okR with
  | some _=>true
  | none=>false))=true:=hq
 simp only[E0,C4] at hq;cases hX:(M.alone e9 2 (M.aw 6)).bind M.okR with
 | none=>rw[hX] at hq;cases hq.2
 | some y=>
 obtain⟨⟨f1,r1⟩,q1,q2⟩:=Jl.1 hX;unfold M.okR at q2;obtain⟨_,hg,_⟩:=bind_some q2;unfold M.awake3 at h3;obtain⟨eD,h2,h3⟩:=some_of h3;obtain⟨eO,hO,h3⟩:=some_of h3;obtain⟨eR,hR,h3⟩:=some_of h3;unfold M.awake2 at h2;obtain⟨e0,hb,h2⟩:=some_of h2;obtain⟨eA,hA,h2⟩:=some_of h2;obtain⟨eB,hB,h2⟩:=some_of h2;obtain⟨eC,hC,h2⟩:=some_of h2;exact zG hb hA hB hC h2 hO hR h3 hq.1 q1 (F9 (ak hg))
end
namespace M
abbrev Z:=Dk.zsec
structure DC (d : Dk) (l : List Bs) : Prop where
 cur : d.cur = l
 on : d.gone = false
 ar : d.armed = 0
theorem tk{d:Dk}(h:d.armed=0):d.tick={ d with done:=IntKind.i64.wrap (d.done+1) }:=by unfold Dk.tick;rw[IT oM]
theorem FC:∀(l A B C:List Bs) (d:Dk),B.length=l.length->DC d (A++(B++C))->∃d',d.wr A.length l=(d',0)/\DC d' (A++(l++C))
 | [],A,B,C,d,hb,h=>⟨d,rfl,by rw[H0 hb] at h;exact h⟩
 | x::l,A,[],C,d,hb,h=>by simp at hb
 | x::l,A,y::B,C,d,hb,h=>by have e0:(d.put A.length x).tick={ d.put A.length x with done:=IntKind.i64.wrap (d.done+1) }:=tk (d:=d.put A.length x) h.ar;obtain⟨d',e,h'⟩:=FC l (A++[x]) B C ((d.put A.length x).tick) (by simpa using hb) ⟨by rw[e0];show d.cur.set A.length x=_;rw[h.cur];simp,by rw[e0];exact h.on,by rw[e0];exact h.ar⟩;refine⟨d',?_,by simpa using h'⟩;rw[Dk.wr,show((d.put A.length x).tick).gone=false by rw[e0];exact h.on];simpa using e
theorem dP:∀(k:Nat) (s:Bs),(Dk.chunks k s).length=k
 | 0,_=>rfl
 | k+1,s=>by rw[Dk.chunks,G2,dP]
theorem nf:∀k:Nat,Dk.chunks k (aG (64*k))=List.replicate k Z
 | 0=>rfl
 | k+1=>by
  rw[Dk.chunks,(oM:64*(k+1)=64+64*k)];unfold aG;rw[List.take_replicate,List.drop_replicate,JL oM,Nat.add_sub_cancel_left,show List.replicate (64*k) (0:UInt8)=aG (64*k) from rfl,nf k]
  rfl
theorem BD{d:Dk}{A B C:List Bs}(h:DC d (A++(B++C))):d.has (A.length:Nat) (B.length:Nat)=true:=by unfold Dk.has;rw[h.cur,C4];simp only[C5];omega
theorem jN{d:Dk}{A B C:List Bs}(h:DC d (A++(B++C))){s:Bs}(hs:s.length=64*B.length){a:Int}(ha:a=(A.length:Nat)):∃d',d.write a s=(d',0)/\DC d' (A++(Dk.chunks B.length s++C)):=by obtain⟨d',e,h'⟩:=FC (Dk.chunks B.length s) A B C d (dP _ _).symm h;refine⟨d',?_,h'⟩;subst ha;unfold Dk.write;rw[h.on,hs,(oM:64*B.length % 64=0),(oM:64*B.length / 64=B.length),BD h,H6];exact e
def dkZ(l:List Bs)(z:Int):Dk:=⟨l,l,List.replicate l.length false,0,false,z⟩
theorem dkZ_c(l:List Bs)(z:Int):DC (dkZ l z) l:=⟨rfl,rfl,rfl⟩
theorem rK{d:Dk}{l:List Bs}(h:DC d l):∃z,d.sync=(dkZ l z,0):=by unfold Dk.sync;rw[h.on,tk h.ar,C8];simp only[h.on,C8];refine⟨IntKind.i64.wrap (d.done+1),?_⟩;unfold dkZ;simp only[h.cur,h.ar]
theorem yp{d:Dk}{A B C:List Bs}(h:DC d (A++(B++C))){a k:Int}(ha:a=(A.length:Nat))(hk:k=(B.length:Nat)):d.read a k=(B.flatten,0):=by
 subst ha hk;unfold Dk.read;rw[h.on,BD h,h.cur,H6,H6,List.drop_left,List.take_left]
 rfl
theorem cm(n:Nat):(aG n).length=n:=by simp[aG]
def pgs(c:Ctl):Bs:=(pEnc (clogNew c.m)).1++(pEnc { pg0 with kind:=3 }).1
def iq:List Bs:=[Z]++([iM ctlP]++(List.replicate 3000 Z++(Dk.chunks 16 (pgs ctlP)++List.replicate 304 Z)))
theorem CV:(pgs ctlP).length=64*16:=kR
theorem wO:(iM ctlP).length=64:=kR
theorem dw(a b:Nat):List.replicate (a+b) Z=List.replicate a Z++List.replicate b Z:=by rw[List.replicate_append_replicate]
theorem formatP:∃z,formatM ctlP=some (dkZ iq z):=by
 have h0:DC (Dk.mk0 3322) ([]++(List.replicate 2 Z++List.replicate 3320 Z)):=⟨by rw[H9,<- dw];rfl,rfl,rfl⟩;obtain⟨d1,e1,h1⟩:=jN h0 (s:=aG 128) (a:=0) (by rw[cm,G3]) rfl;rw[G3,show aG 128=aG (64*2) from rfl,nf,H9,<- dw] at h1;have h1':DC d1 (List.replicate 3002 Z++(List.replicate 16 Z++List.replicate 304 Z)):=by rw[<- dw,<- dw];exact h1
 obtain⟨d2,e2,h2⟩:=jN h1' (s:=pgs ctlP) (a:=3002) (by rw[CV,G3]) (by rw[G3];rfl);rw[G3] at h2;have h2':DC d2 (List.replicate 2 Z++(List.replicate 3000 Z++(Dk.chunks 16 (pgs ctlP)++List.replicate 304 Z))):=by rw[<- G7,<- dw];exact h2
 obtain⟨d3,e3,h3⟩:=jN h2' (s:=aG 192000) (a:=2) (by rw[cm,G3]) (by rw[G3];rfl);rw[G3,show aG 192000=aG (64*3000) from rfl,nf] at h3;obtain⟨z4,e4⟩:=rK h3;have h4:=dkZ_c (List.replicate 2 Z++(List.replicate 3000 Z++(Dk.chunks 16 (pgs ctlP)++List.replicate 304 Z))) z4;generalize dkZ _ z4=d4 at e4 h4;obtain⟨z5,e5⟩:=rK h4;have h5:=dkZ_c (List.replicate 2 Z++(List.replicate 3000 Z++(Dk.chunks 16 (pgs ctlP)++List.replicate 304 Z))) z5;generalize dkZ _ z5=d5 at e5 h5;have h5':DC d5 ([Z]++([Z]++(List.replicate 3000 Z++(Dk.chunks 16 (pgs ctlP)++List.replicate 304 Z)))):=h5;obtain⟨d6,e6,h6⟩:=jN h5' (s:=iM ctlP) (a:=1) (by rw[wO];rfl) rfl;have ec:Dk.chunks 1 (iM ctlP)=[iM ctlP]:=by rw[Dk.chunks,Dk.chunks,G0 (by rw[wO];exact D9 _)]
 have hf:gV d2 2 3000=true:=by
  unfold gV;rw[h2'.cur];simp only[C5,G3,dP]
  rfl
 rw[show([Z]:List Bs).length=1 from rfl,ec] at h6;obtain⟨z7,e7⟩:=rK h6;refine⟨z7,?_⟩;unfold formatM okD;rw[show(sectors ctlP).toNat=3322 from rfl,e1];show(okD (d1.write 3002 (pgs ctlP)) >>= λd=>okD (zt d 2 3000) >>= λd=>okD d.sync >>= λd=>okD (d.write 1 (iM ctlP)) >>= λd=>okD d.sync)=_;rw[e2];show(okD (zt d2 2 3000) >>= λd=>okD d.sync >>= λd=>okD (d.write 1 (iM ctlP)) >>= λd=>okD d.sync)=_;have ef:zt d2 2 3000=(d4,0):=by unfold zt;rw[hf,show((3000:Int)*64).toNat=192000 from rfl,e3,e4];rfl
 rw[ef];show(okD d4.sync >>= λd=>okD (d.write 1 (iM ctlP)) >>= λd=>okD d.sync)=_;rw[e5];show(okD (d5.write 1 (iM ctlP)) >>= λd=>okD d.sync)=_;rw[e6];show okD d6.sync=_;rw[e7];rfl
theorem Fj{d:Dk}(h:DC d iq){i:Nat}(hi:i<3000):d.read ((2+i:Nat):Int) 1=(Z,0):=by
 have e:iq=([Z]++([iM ctlP]++List.replicate i Z))++([Z]++(List.replicate (2999 - i) Z++(Dk.chunks 16 (pgs ctlP)++List.replicate 304 Z))):=by
  unfold iq;rw[(oM:3000=i+(1+(2999 - i))),dw,dw];simp only[G7]
  rfl
 rw[e] at h;rw[yp h (k:=1) (by simp only[C5,G2,Ja,G3];omega) rfl]
 rfl
def EY(d:Dk):E:=⟨⟨uq 3002 40 5,⟨2,3000,1,[],1,1,0,[]⟩,d⟩,32,40,pg0,[],[],[],1,none,2,false,List.replicate 8 seat0,0,0,[],[],[],0⟩
theorem FA{d:Dk}(h:DC d iq):∀(k i:Nat),i+k<=3000->dc 2 (List.replicate k Z) i false d=(false,d,0)
 | 0,_,_=>rfl
 | k+1,i,hi=>by
  rw[JK,dc,Fj h (oM:i<3000),FA h k (i+1) oM]
  rfl
theorem openP{d:Dk}(h:DC d iq):openM d ctlP=some (EY d):=by
 have e0:d.read 0 2=(aG 64++iM ctlP,0):=by have h':DC d ([]++([Z,iM ctlP]++(List.replicate 3000 Z++(Dk.chunks 16 (pgs ctlP)++List.replicate 304 Z)))):=h;rw[yp h' (a:=0) (k:=2) rfl rfl];show(Z++(iM ctlP++[]),(0:Int))=_;rw[H1];rfl
 have er:bu d 2 3000 ((1 - 1) / 54) 3000 0 []=([],0):=by
  rw[bu];have:=Fj h (i:=0) oM;rw[show((2+((1 - 1) / 54+0) % 3000:Nat):Int)=((2+0:Nat):Int) from rfl,this];have eo:Go.Proofs.YtmdmffeoehfjgaaGreatDoor.opened Z ((1 - 1) / 54+0)=[]:=kR;rw[eo]
  rfl
 have ea:dH d 2 3000 1=[]:=by unfold dH;rw[er];rfl
 have es:sS d 2 3000 1=([],0):=by unfold sS;rw[ea];kernel_rfl
 have el:oc d 2 3000 1=⟨2,3000,1,[],1,1,0,[]⟩:=by unfold oc;rw[es,ea];rfl
 have ew:(⟨2,3000,1,[],1,1,0,[]⟩:Lg).want=List.replicate 3000 Z:=rfl;have ee:mu d 2 3000 1=(d,0):=by
  have hf:gV d 2 3000=true:=by
   unfold gV;rw[h.cur];unfold iq;simp only[C5,G3,dP,G2,Ja]
   rfl
  unfold mu;rw[hf,h.on,show(1:Int).toNat=1 from rfl,show(2:Int).toNat=2 from rfl,show(3000:Int).toNat=3000 from rfl,er,el];show Lg.iN _ d=_;unfold Lg.iN Lg.iO;rw[ew];show(bif decide ((dc 2 (List.replicate 3000 Z) 0 false d).2.2=0) then _ else _)=_;rw[FA h 3000 0 oM]
  rfl
 have eg:(decide (sectors ctlP<=(d.cur.length:Nat))&&!d.gone)=true:=by
  rw[h.on,h.cur];unfold iq;simp only[C5,G3,dP,G2,Ja]
  rfl
 unfold openM;rw[eg,show ctlP.secs=3000 from rfl,e0,ee,show(3000:Int).toNat=3000 from rfl,el,es]
 rfl
def ringE(n:Nat)(z:Int):O E:=do
 let e <- readyGo 60 0 (EY (dkZ iq z));let e <- rings1 n n 0 e
 rings2 n n 0 e
end M
section
variable{w w' w1 w2:World}{P:Nat->Prop}{t b m:Nat}{B:Bk}{e e' e1 e2 e3:E}{i:Nat}{k:Int}{r r1 r2 r3:Rp}{a:Ak}{n:Nat}
theorem Bo{k:KV}(h:TW w P t B e)(h5:e.phase=5)(hi:i<8)(ha:1<=a.call/\a.call<=9)(hq:M.ask e i a=some e')(hk:∀w',TW w' P t B e'->Fm (λy=>¬P y) w w'->k (iv 0) w'):Cl prog 10 [pv B.x,iv i,.agg (akC a)] w k:=by refine(h.run (Q:=λo _=>o=iv 0) (λO u rv yv ss hR hP=>mY hR h5 hi ha hq)).mono ?_;rintro _ w' ⟨rfl,h',hf⟩;exact hk w' h' hf
theorem zI{c:Ctl}{d:Go.Al.Dk}{e0:E}(h1:M.formatM c=some d)(h2:M.openM d c=some e0)(h3:M.readyGo 60 0 e0=some e):M.beginM c=some e:=by unfold M.beginM;rw[h1];show M.opensM d c=_;unfold M.opensM;rw[h2];exact h3
end
namespace M
structure Sim (g g' : Rg) : Prop where
 e : ∃ W, g' = { g with e := { g.e with waits := W } } ∧ (∀ p, p ∈ W ↔ p ∈ g.e.waits) ∧ ((W.map (·.1)).Nodup ↔ (g.e.waits.map (·.1)).Nodup)
def Good(n:Nat):Nat->Nat->Rg->Prop
 | 0,_,g=>(n:Int)<=g.end_/\g.ref=1
 | m+1,k,g=>((n:Int)<=g.end_/\g.ref=1)\/(g.end_<(n:Int)/\∀p:Int,∃g' g'',roundM n g p (k:Int)=some g'/\Sim g' g''/\Good n m (k+1) g'')
theorem good0(n k:Nat)(g:Rg):Good n 0 k g=((n:Int)<=g.end_/\g.ref=1):=rfl
theorem goodS(n m k:Nat)(g:Rg):Good n (m+1) k g=(((n:Int)<=g.end_/\g.ref=1)\/(g.end_<(n:Int)/\∀p:Int,∃g' g'',roundM n g p (k:Int)=some g'/\Sim g' g''/\Good n m (k+1) g'')):=rfl
theorem Good.done{n:Nat}:∀{m k:Nat} {g:Rg},(n:Int)<=g.end_->g.ref=1->Good n m k g:=by
 intro m k g h1 h2;cases m with
 | zero=>rw[good0];exact⟨h1,h2⟩
 | succ m=>rw[goodS];exact .inl ⟨h1,h2⟩
theorem Good.step{n m k:Nat}{g:Rg}(h1:g.end_<(n:Int))(h2:∀p:Int,∃g' g'',roundM n g p (k:Int)=some g'/\Sim g' g''/\Good n m (k+1) g''):Good n (m+1) k g:=by rw[goodS];exact .inr ⟨h1,h2⟩
theorem Good.mono{n m:Nat}:∀{m' k:Nat} {g:Rg},Good n m k g->m<=m'->Good n m' k g:=by
 induction m with
 | zero=>intro m' k g h _;rw[good0] at h;exact .done h.1 h.2
 | succ m ih=>
  intro m' k g h hm;rw[goodS] at h;rcases h with h|⟨h1,h2⟩
  ·exact .done h.1 h.2
  ·obtain⟨m',rfl⟩:∃j,m'=j+1:=⟨m' - 1,oM⟩;refine .step h1 λp=>?_;obtain⟨g',g'',a,b,c⟩:=h2 p;exact⟨g',g'',a,b,ih c oM⟩
theorem Sim.refl(g:Rg):Sim g g:=⟨⟨_,rfl,λ_=>Iff.rfl,Iff.rfl⟩⟩
def rY(n:Nat):Nat->Nat->Rg->Bool
 | 0,_,_=>false
 | f+1,k,g=>bif decide ((n:Int)<=g.end_) then decide (g.ref=1) else match runnable g.e with
  | [i]=>(match stepM { g.e with pick:=(k:Int) } i with
   | none=>false
   | some e=>match repGo n n 0 { g with e:=e } with
    | none=>false
    | some g=>rY n f (k+1) g)
  | _=>false
theorem og(n:Nat):∀(f k:Nat) (g:Rg),rY n f k g=true->Good n f k g
 | 0,_,_,h=>by cases h
 | f+1,k,g,h=>by
  rw[rY] at h;by_cases he:(n:Int)<=g.end_
  ·rw[C9 he,D8] at h;exact .done he (F9 h)
  ·rw[C3 he,C8] at h
   match hr:runnable g.e,h with
   | [i],h=>
    simp only at h
    match hs:stepM { g.e with pick:=(k:Int) } i,h with
    | some e,h=>
     simp only[hs] at h
     match hg:repGo n n 0 { g with e:=e },h with
     | some g',h=>
      simp only[hg] at h;refine .step oM λp=>⟨g',g',?_,Sim.refl _,og n f (k+1) g' h⟩;have h0:ga (runnable g.e).length p=0:=by have:=(gC (n:=1) (D9 1) p).1;rw[hr];show ga 1 p=0;omega
      unfold roundM runN;rw[h0,hr];show(stepM { g.e with pick:=(k:Int) } i >>= _)=_;rw[hs];exact hg
theorem sD(f:Nat->Bs)(a:Nat):∀S:List Nat,getD (S.map λs:Nat=>((s:Int),f s)) (a:Int)=if a∈S then some (f a) else none
 | []=>rfl
 | s::S=>by
  rw[Ji,Go.Al.getD_cons,sD f a S];by_cases h:s=a
  ·subst h;simp
  ·have h1:¬(s:Int)=(a:Int):=oM;have h2:¬a=s:=λe=>h e.symm;simp[h1,h2]
theorem xx(s n:Nat):kb (s % n) n=kb s n:=by unfold kb;rw[Nat.mod_mod]
section
variable{H:List (Bs×Int)}{n:Nat}{S:List Nat}{i:Nat}{e:E}
abbrev wts(n:Nat)(S:List Nat):List (Int×Bs):=S.map λs:Nat=>((s:Int),kb (s+1) n)
theorem lf(hn:2<=n)(hH:∀s,s<n->getD H (kb s n)=some (s:Int))(hi:i<n):∀(f j:Nat),1<=j->j<=n->n - j<f->∃b,ringsM H (wts n S) (i:Int) f (((i+j) % n:Nat):Int)=some b/\(b=true↔∀t,j<=t->t<n->(i+t) % n∈S)
 | 0,j,h1,h2,h3=>by omega
 | f+1,j,h1,h2,h3=>by
  rw[ringsM];by_cases hj:j=n
  ·have:(i+j) % n=i:=by rw[hj,Nat.add_mod_right,I9 hi]
   rw[this,C9 rfl];exact⟨true,rfl,λ_ t _ _=>oM,λ_=>rfl⟩
  ·have hne:¬(i+j) % n=i:=by
    by_cases hl:i+j<n
    ·rw[I9 hl];omega
    ·rw[Nat.mod_eq_sub_mod oM,I9 oM];omega
   rw[C3 (oM:¬(((i+j) % n:Nat):Int)=(i:Int)),C8,sD];by_cases hm:(i+j) % n∈S
   ·rw[IY hm];simp only;have e1:((i+j) % n+1) % n=(i+(j+1)) % n:=by rw[Nat.mod_add_mod];rfl
    rw[<- xx,e1,hH _ (Kj _ oM)];obtain⟨b,hb,hi⟩:=lf hn hH hi f (j+1) oM oM oM;refine⟨b,hb,hi.trans ⟨λh t h4 h5=>?_,λh t h4 h5=>h t oM h5⟩⟩;by_cases ht:t=j
    ·rw[ht];exact hm
    ·exact h t oM h5
   ·rw[IT hm];exact⟨false,rfl,λh=>(by cases h),λh=>absurd (h j (D9 j) oM) hm⟩
def DK(e:E)(i:Nat):Int:=((getD e.txns (i:Int)).map (·.xid)).getD 0
def Ce(n i:Nat):Ak:=putA (kb (i+1) n) [50]
def seat1(n i:Nat):Seat:={ seat0 with ask:=Ce n i,wk:=.begin }
def gJ(e:E)(n i:Nat):Seat:={ seat1 n i with plan:=some { pn0 (Ce n i) (DK e i) with wk:=1,wkey:=kb (i+1) n },wk:=.follow }
def seatS(e:E)(n:Nat)(S:List Nat)(i:Nat):Seat:=bif decide (i<n) then(bif decide (i∈S) then gJ e n i else seat1 n i) else seat0
def bH(e:E)(n:Nat)(S:List Nat):E:={ e with waits:=wts n S,seats:=(List.range 8).map (seatS e n S),pick:=match S with
 | []=>e.pick
 | _=>(S.length:Int) - 1 }
structure LK (e : E) (n : Nat) : Prop where
 se : e.seats = (List.range 8).map (seatS e n [])
 wt : e.waits = []
 hl : ∀ s, s < n → getD e.holds (kb s n) = some (s : Int)
 id : ∀ s, s < n → ∃ t, getD e.txns (s : Int) = some t ∧ 0 < t.xid
theorem iy(h8:i<8)(f:Nat->Seat):((List.range 8).map f).getD i seat0=f i:=by rw[G6,E4,JJ h8];rfl
theorem seat_set(h8:i<8)(f:Nat->Seat)(s:Seat):((List.range 8).map f).set i s=(List.range 8).map λj=>if j=i then s else f j:=by
 apply JI;intro j;rw[Kn,E4,E4];by_cases hj:j<8
 ·rw[JJ hj];by_cases e:i=j
  ·subst e;simp[hj]
  ·simp[e];intro h;exact absurd h.symm e
 ·rw[Jc (by simp;omega)];by_cases e:i=j
  ·omega
  ·simp[e]
theorem GU(h:LK e n):bH e n []=e:=by unfold bH;rw[<- h.se];show { e with waits:=[] ,pick:=e.pick }=e;rw[<- h.wt]
theorem xD(hi:i<n)(h8:n<=8)(hS:i∉S):seatAt (bH e n S) i=seat1 n i:=by
 unfold seatAt bH;rw[iy oM];unfold seatS;rw[C9 hi,C3 hS]
 rfl
theorem nA(h8:n<=8):runnable (bH e n S)=(List.range 8).filter λi=>decide (i<n)&&!(decide (i∈S)):=by
 unfold runnable;refine List.filter_congr λi hi=>?_;have hi:=JP.1 hi;have e1:seatAt (bH e n S) i=seatS e n S i:=by unfold seatAt bH;rw[iy hi]
 have e2:(getD (bH e n S).waits (i:Int)).isNone=!(decide (i∈S)):=by show(getD (wts n S) (i:Int)).isNone=_;rw[sD];by_cases h:i∈S<;>simp[h]
 rw[show goes (bH e n S) i=((match (seatAt (bH e n S) i).wk with
  | .none=>false
  | _=>true)&&(getD (bH e n S).waits (i:Int)).isNone) from rfl,e1,e2]
 unfold seatS;by_cases h1:i<n
 ·by_cases h2:i∈S
  ·rw[C9 h1,C9 h2];rfl
  ·rw[C9 h1,C3 h2];rfl
 ·rw[C3 h1];rfl
theorem fa{β:Type}:∀(D:List (Int×β)) (a:Int),getD D a=none->cO D a=D
 | [],_,_=>rfl
 | p::l,a,h=>by
  rw[Go.Al.getD_cons] at h;by_cases e:p.1=a
  ·rw[IY e] at h;cases h
  ·rw[IT e] at h;rw[cO,IT e,fa l a h]
theorem Au(hn:2<=n)(h:LK e n)(hi:i<n)(hS:i∉S)(hnd:S.Nodup)(hsub:∀s∈S,s<n)(hlen:S.length+1<n){e':E}(h1:e'.holds=e.holds)(h2:e'.waits=wts n S)(hn9:n<=8):tryK e' (i:Int) (kb (i+1) n)=some ({ e' with waits:=wts n (S++[i]) },1):=by
 unfold tryK;dsimp only;rw[h1,h2,<- xx,h.hl _ (Kj _ oM),JH];have hw:getD (wts n S) (i:Int)=none:=by rw[sD,IT hS]
 have hne:¬(i+1) % n=i:=by
  by_cases hl:i+1<n
  ·rw[I9 hl];omega
  ·rw[(oM:i+1=n),Nat.mod_self];omega
 rw[fa _ _ hw,C3 (oM:¬(((i+1) % n:Nat):Int)=(i:Int)),C8];obtain⟨b,hb,hiff⟩:=lf (S:=S) hn h.hl hi 9 1 oM oM oM;have hb':b=false:=by
  cases b with
  | false=>rfl
  | true=>
   exfalso;have hall:=hiff.1 rfl;have hsub2:List.range n ⊆ i::S:=by
    intro s hs;have hs:=JP.1 hs;by_cases e:s=i
    ·rw[e];exact Js
    ·refine Jp _ ?_;by_cases hl:i<s
     ·have:=hall (s - i) oM oM
      rwa [(oM:i+(s - i)=s),I9 hs] at this
     ·have:=hall (s+n - i) oM oM
      rwa [(oM:i+(s+n - i)=s+n),Nat.add_mod_right,I9 hs] at this
   have:=(KK (n:=n)).length_le_of_subset hsub2;rw[Kb,G2] at this;omega
 rw[hb,hb'];show some ({ e' with holds:=e.holds,waits:=cM (wts n S) (i:Int) (kb ((i+1) % n) n) },1)=_;rw[dg _ _ _ hw,xx];simp
theorem xF(hn:2<=n)(h8:n<=8)(h:LK e n)(hi:i<n)(hS:i∉S)(hnd:S.Nodup)(hsub:∀s∈S,s<n)(hlen:S.length+1<n):stepM { bH e n S with pick:=((S.length:Nat):Int) } i=some (bH e n (S++[i])):=by
 obtain⟨t,ht,hx⟩:=h.id i hi;have hs:seatAt { bH e n S with pick:=((S.length:Nat):Int) } i=seat1 n i:=xD hi h8 hS;have hx0:DK e i=t.xid:=by unfold DK;rw[ht];rfl
 have hp:mkP (Ce n i) t.xid=some { pn0 (Ce n i) t.xid with wk:=1,wkey:=kb (i+1) n }:=by unfold mkP rightA;show(gd (keyOk (kb (i+1) n)&&decide ((([50]:Bs)).length<=64)&&decide (0<t.xid)) >>= _)=_;rw[C9 hx];rfl
 unfold stepM;rw[hs];show begin _ i=_;unfold begin;rw[hs];show(getD e.txns (i:Int) >>= _)=_;rw[ht];show((bif writes (Ce n i)&&decide (t.xid=0) then _ else some (_,t.xid):O (E×Int)) >>= _)=_;rw[C3 (oM:¬t.xid=0),J7,C8];show(mkP (Ce n i) t.xid >>= _)=_;rw[hp];let p:Pn:={ pn0 (Ce n i) t.xid with wk:=1,wkey:=kb (i+1) n };have e2:gJ e n i={ seat1 n i with plan:=some p,wk:=.follow }:=by unfold gJ;rw[hx0]
 let E1:E:={ bH e n S with pick:=((S.length:Nat):Int),seats:=(List.range 8).map λj=>if j=i then gJ e n i else seatS e n S j };have hE:setSeat { bH e n S with pick:=((S.length:Nat):Int) } i { seatAt { bH e n S with pick:=((S.length:Nat):Int) } i with plan:=some p,wk:=.follow }=E1:=by unfold setSeat;rw[hs,<- e2];show { bH e n S with pick:=((S.length:Nat):Int),seats:=((List.range 8).map (seatS e n S)).set i (gJ e n i) }=E1;rw[seat_set oM]
 have hs2:seatAt E1 i=gJ e n i:=by unfold seatAt;show((List.range 8).map λj=>if j=i then gJ e n i else seatS e n S j).getD i seat0=_;rw[iy oM,IY rfl]
 have ht1:=Au hn h hi hS hnd hsub hlen (e':=E1) rfl rfl h8;show follow (setSeat _ i _) i=_;rw[hE];unfold follow;rw[hs2,e2];show((tryK E1 (i:Int) (kb (i+1) n) >>= _) >>= _)=_;rw[ht1];have hs3:seatAt { E1 with waits:=wts n (S++[i]) } i=gJ e n i:=hs2;have hm:modPlan { E1 with waits:=wts n (S++[i]) } i p=bH e n (S++[i]):=by
  unfold modPlan;rw[hs3,show({ gJ e n i with plan:=some p }:Seat)=gJ e n i by rw[e2]];unfold setSeat bH;show { e with waits:=wts n (S++[i]),pick:=((S.length:Nat):Int),seats:=((List.range 8).map λj=>if j=i then gJ e n i else seatS e n S j).set i (gJ e n i) }=_;rw[seat_set oM];have q1:((List.range 8).map λj=>if j=i then gJ e n i else if j=i then gJ e n i else seatS e n S j)=(List.range 8).map (seatS e n (S++[i])):=by
   refine Kx λj hj=>?_;unfold seatS;by_cases hji:j=i
   ·subst hji;rw[IY rfl,C9 hi,C9 (sI:j∈S++[j])];rfl
   ·rw[IT hji,IT hji,G9.2 (show j∈S↔j∈S++[i] by simp[hji])]
  rw[q1];cases S with
  | nil=>rfl
  | cons a S=>simp only[Jj,G2,C5,Ja];congr 1;omega
 have hp4:(seatAt (bH e n (S++[i])) i).plan=some p:=by unfold seatAt bH;show(((List.range 8).map (seatS e n (S++[i]))).getD i seat0).plan=_;rw[iy oM];unfold seatS;rw[C9 hi,C9 (sI:i∈S++[i])];show(gJ e n i).plan=_;rw[e2]
 have key:∀X:E,X=bH e n (S++[i])->ended X i=some (bH e n (S++[i])):=by
  rintro X rfl;unfold ended;rw[hp4]
  rfl
 exact key _ hm
theorem tc:∀(f s:Nat) (g:Rg),(∀s,(seatAt g.e s).told=false)->repGo n f s g=some g
 | 0,_,_,_=>rfl
 | f+1,s,g,h=>by rw[repGo];unfold replyM;rw[h s];exact tc f (s+1) g h
theorem xG(e:E)(n:Nat)(S:List Nat)(s:Nat):(seatAt (bH e n S) s).told=false:=by
 unfold seatAt bH;by_cases h8:s<8
 ·rw[iy h8];unfold seatS;cases decide (s<n)<;>cases decide (s∈S)<;>rfl
 ·rw[G6,Jc (by simp;omega)];rfl
def nz(e:E)(n:Nat)(S:List Nat):Rg:=⟨bH e n S,List.replicate n 0,0,0⟩
def lG(n d:Nat):List Nat:=(List.range n).filter λi=>!(decide (i=d))
theorem Ar(hS:∀s,s∈S↔s<n/\s≠i)(hnd:S.Nodup)(hl:S.length=(lG n i).length):Sim (nz e n S) (nz e n (lG n i)):=by
 have hm:∀s,s∈S↔s∈lG n i:=λs=>by rw[hS];unfold lG;simp
 have e1:seatS e n S=seatS e n (lG n i):=by funext s;unfold seatS;rw[G9.2 (hm s)]
 have e2:bH e n (lG n i)={ bH e n S with waits:=wts n (lG n i) }:=by
  unfold bH;rw[e1]
  match S,lG n i,hl with
  | [],[],_=>rfl
  | a::S,b::R,hl=>simp only[hl]
 refine⟨⟨wts n (lG n i),by unfold nz;rw[e2],λp=>?_,⟨λ_=>?_,λ_=>?_⟩⟩⟩
 ·show p∈wts n (lG n i)↔p∈wts n S;simp only[E8,hm]
 ·show((wts n S).map _).Nodup;rw[JG];exact List.Pairwise.map _ (λa b h e=>h (by have e:(a:Int)=(b:Int):=e;omega)) hnd
 ·rw[JG];exact List.Pairwise.map _ (λa b h e=>h (by have e:(a:Int)=(b:Int):=e;omega)) ((KK (n:=n)).filter _)
theorem AH(hn:2<=n)(h8:n<=8)(hnd:S.Nodup)(hsub:∀s∈S,s<n)(hlen:S.length<n)(p:Int):∃i,(runnable (bH e n S))[ga (runnable (bH e n S)).length p]?=some i/\i<n/\i∉S:=by
 have hmem:∀i,i∈runnable (bH e n S)↔i<n/\i∉S:=λi=>by rw[nA h8,Kh,JP];simp;omega
 have hpos:1<=(runnable (bH e n S)).length:=by
  have:∃i,i<n/\i∉S:=by apply G5;intro hno;have hs:List.range n ⊆ S:=λs hs=>G5 λhns=>hno ⟨s,JP.1 hs,hns⟩;have:=(KK (n:=n)).length_le_of_subset hs;rw[Kb] at this;omega
  obtain⟨i,hi⟩:=this;exact List.length_pos_of_mem ((hmem i).2 hi)
 have hlt:=(gC hpos p).1;exact⟨_,C6 hlt,(hmem _).1 (Jk hlt)⟩
theorem mj(hn:2<=n)(h8:n<=8)(h:LK e n)(hnd:S.Nodup)(hsub:∀s∈S,s<n)(hlen:S.length+1<n)(p:Int):∃i,i<n/\i∉S/\roundM n (nz e n S) p ((S.length:Nat):Int)=some (nz e n (S++[i])):=by
 obtain⟨i,hr,hi,hS⟩:=AH (e:=e) hn h8 hnd hsub oM p;refine⟨i,hi,hS,?_⟩;unfold roundM runN;show(match (runnable (bH e n S))[ga (runnable (bH e n S)).length p]? with
  | some i=>stepM { bH e n S with pick:=((S.length:Nat):Int) } i
  | none=>none:O E) >>= _=_
 rw[hr];show stepM { bH e n S with pick:=((S.length:Nat):Int) } i >>= _=_;rw[xF hn h8 h hi hS hnd hsub hlen];exact tc n 0 _ (xG e n _)
theorem AM{d:Nat}(hd:d<n):(lG n d).length+1=n:=by
 unfold lG;have h1:=List.length_eq_countP_add_countP (λi=>decide (i=d)) (l:=List.range n);rw[Kb] at h1;have h2:List.countP (λi=>decide (i=d)) (List.range n)=1:=by
  have:=List.nodup_iff_count.1 (KK (n:=n)) d;have h3:List.count d (List.range n)=1:=by have:=List.count_pos_iff.2 (JP.2 hd);omega
  rw[<- h3,List.count];congr 1
 rw[h2] at h1;rw[<- List.countP_eq_length_filter];have e:List.countP (λi=>!(decide (i=d))) (List.range n)=List.countP (λi=>decide ¬(decide (i=d))=true) (List.range n):=by congr 1;funext i;by_cases h:i=d<;>simp[h]
 rw[e];omega
theorem xC(hn:2<=n)(h8:n<=8)(h:LK e n){F:Nat}(ha:∀d,d<n->Good n F (n - 1) (nz e n (lG n d))):∀(f:Nat) (S:List Nat),S.length+1+f=n - 1->S.Nodup->(∀s∈S,s<n)->Good n (F+f+1) S.length (nz e n S):=by
 intro f;induction f with
 | zero=>
  intro S hl hnd hsub;refine .step (by show(0:Int)<n;omega) λp=>?_;obtain⟨i,hi,hS,hr⟩:=mj hn h8 h hnd hsub oM p;have hnd':(S++[i]).Nodup:=by rw[Km];exact⟨hnd,sI,λa ha b hb=>by simp at hb;subst hb;intro e;exact hS (e▸ha)⟩
  have hsub':∀s∈S++[i],s<n:=λs hs=>by
   rcases H5.1 hs with h|h
   ·exact hsub s h
   ·simp at h;omega
  obtain⟨d,hd1,hd2⟩:∃d,d<n/\d∉S++[i]:=by apply G5;intro hno;have hs:List.range n ⊆ S++[i]:=λs hs=>G5 λhns=>hno ⟨s,JP.1 hs,hns⟩;have:=(KK (n:=n)).length_le_of_subset hs;rw[Kb,C5] at this;simp at this;omega
  have hm:∀s,s∈S++[i]↔s<n/\s≠d:=λs=>⟨λhs=>⟨hsub' s hs,λe=>hd2 (e▸hs)⟩,λ⟨h1,h2⟩=>by
   apply G5;intro hns;have hn3:(d::s::(S++[i])).Nodup:=by rw[JV,JV];exact⟨λe=>by rcases H3.1 e with e|e;exact h2 e.symm;exact hd2 e,hns,hnd'⟩
   have hs:d::s::(S++[i]) ⊆ List.range n:=λx hx=>JP.2 (by
    rcases H3.1 hx with rfl|hx
    ·exact hd1
    rcases H3.1 hx with rfl|hx
    ·exact h1
    exact hsub' x hx)
   have:=hn3.length_le_of_subset hs;rw[Kb] at this;simp at this;omega⟩
  exact⟨_,_,hr,Ar hm hnd' (by have:=AM hd1;rw[C5];simp;omega),by have:=ha d hd1;rwa [(oM:n - 1=S.length+1)] at this⟩
 | succ f ih=>
  intro S hl hnd hsub;refine .step (by show(0:Int)<n;omega) λp=>?_;obtain⟨i,hi,hS,hr⟩:=mj hn h8 h hnd hsub oM p;refine⟨_,_,hr,.refl _,?_⟩;have:=ih (S++[i]) (by rw[C5];simp;omega) (by rw[Km];exact⟨hnd,sI,λa ha b hb=>by simp at hb;subst hb;intro e;exact hS (e▸ha)⟩) (λs hs=>by
   rcases H5.1 hs with h|h
   ·exact hsub s h
   ·simp at h;omega)
  rw[C5] at this;exact this
end
end M
open M (E Seat Wk Pn Rp Ak Tx Ctl Rg Sim)
section
variable{w w' w1 w2:World}{P:Nat->Prop}{t b m:Nat}{B:Bk}{e e' e1 e2 e3:E}{i:Nat}{k:Int}{r r1 r2 r3:Rp}{a:Ak}{n:Nat}{g g' g'':Rg}
theorem yb{z:Int}(hz:In z):Cl prog 15 [iv z,iv 2,iv 8] w λo w'=>o=iv ((2+ga 7 z:Nat):Int)/\w'=w:=by
 obtain⟨h1,h2,h3,h4⟩:=gC (n:=7) dC z;refine cU3 func15 ?_;simp only[RU,show IntKind.i64.wrap ((8:Int) - 2)=6 from rfl,show IntKind.i64.wrap ((6:Int)+1)=7 from rfl,jI _ (dC:(0:Int)<7)]
 replace h2:(z.tmod 7+7).tmod 7=(ga 7 z:Nat):=h2
 replace h3 : -7<z.tmod 7:=h3
 replace h4:z.tmod 7<7:=h4
 have hw:∀x:Int,0<=x->x<=1000->IntKind.i64.wrap x=x:=λx h1 h2=>by rw[af]<;>omega
 rw[hw (z.tmod 7+7) oM oM,h2,hw _ oM oM];exact⟨by rw[(oM:(2:Int)+((ga 7 z:Nat):Int)=((2+ga 7 z:Nat):Int))],trivial⟩
theorem TW.CW(h:TW w P t B g.e)(hs:Sim g g'):TW w P t B g'.e/\g'.st=g.st/\g'.ref=g.ref/\g'.end_=g.end_/\g'.e.phase=g.e.phase:=by
 obtain⟨W,rfl,hm,hn⟩:=hs.e;refine⟨?_,rfl,rfl,rfl,rfl⟩;obtain⟨O,u,rv,yv,ss,cs,hR,h2⟩:=h;have o:=hR.al;obtain⟨⟨H,W0,k1,k2,k3,k4⟩,k5,k6,k7⟩:=o.lk dC;refine⟨O,u,rv,yv,ss,cs,⟨⟨λc=>o.sys c,λc=>o.st c,λc=>⟨⟨H,W0,k1,k2,k3,λp=>?_⟩,k5,k6,hn.2 k7⟩,λc=>o.tx c,λc=>o.id c,λc=>o.sp c,λc=>o.rs c,λi s c hi=>o.se i s c hi,λc=>o.x c⟩,hR.lt,hR.x0,hR.sl,hR.mo,hR.ph,hR.uo⟩,h2⟩;rw[k4];have:getD W p=getD g.e.waits p:=by
  cases hg:getD g.e.waits p with
  | some b=>exact(getD_some (hn.2 k7)).2 ((hm _).2 ((getD_some k7).1 hg))
  | none=>rw[getD_none] at hg ⊢;intro hc;obtain⟨x,hx,hp⟩:=E8.1 hc;exact hg (E8.2 ⟨x,(hm x).1 hx,hp⟩)
 show _=(getD W p).map str;rw[this]
theorem Hu(x:Nat)(w:World):(Instr.buildSlice 57 1 #[(0,.int .u8 (x:Int))]).run prog w=.ok (.slice (some ⟨w.heap.size,0,none⟩) 1 1) (w.alloc (.cells #[.int .u8 (x:Int)] 5)):=kR
theorem Hv{x:Nat}(hx:x<256)(w:World):(convert 57 9 (.slice (some ⟨w.heap.size,0,none⟩) 1 1)).run prog (w.alloc (.cells #[.int .u8 (x:Int)] 5))=.ok (stv [UInt8.ofNat x]) (w.alloc (.cells #[.int .u8 (x:Int)] 5)):=by
 have ho:(w.alloc (.cells #[.int .u8 (x:Int)] 5)).ownsRow w.heap.size 5 1 (.slice (some ⟨w.heap.size,0,none⟩) 1 1) 1 (bc [UInt8.ofNat x]):=by
  have e:bc [UInt8.ofNat x]=[.int .u8 (x:Int)]:=by show[Value.int .u8 ((UInt8.ofNat x).toNat:Int)]=_;rw[fk hx]
  rw[e];exact cY (w:=w) (e:=5) (sz:=1) (n:=1) (l:=[.int .u8 (x:Int)]) rfl (D9 _) dC
 exact sj B38 ho
theorem Hw:∀s:Nat,s<8->cvI IntKind.u8 (.int .i64 (IntKind.i64.wrap (Int.ofNat 97+(s:Int))))=some (.int .u8 ((97+s:Nat):Int))
 | 0,_=>by kernel_rfl
 | 1,_=>by kernel_rfl
 | 2,_=>by kernel_rfl
 | 3,_=>by kernel_rfl
 | 4,_=>by kernel_rfl
 | 5,_=>by kernel_rfl
 | 6,_=>by kernel_rfl
 | 7,_=>by kernel_rfl
 | s+8,h=>by omega
theorem Ih:∀(n:Nat) (w:World),n<=8->(Instr.makeSlice 25 (iv n) (iv n)).run prog w=.ok (.slice (some ⟨w.heap.size,0,none⟩) n n) (w.alloc (.cells ((List.replicate n 0).map iv).toArray 3))
 | 0,_,_=>by kernel_rfl
 | 1,_,_=>by kernel_rfl
 | 2,_,_=>by kernel_rfl
 | 3,_,_=>by kernel_rfl
 | 4,_,_=>by kernel_rfl
 | 5,_,_=>by kernel_rfl
 | 6,_,_=>by kernel_rfl
 | 7,_,_=>by kernel_rfl
 | 8,_,_=>by kernel_rfl
 | s+9,_,h=>by omega
theorem AP{z:Int}{bv:Value}{L:List Int}{eb ec e:E}(hz:In z)(hL:CellsAt w bv L.length 1 (L.map iv))(haw:M.awakeM=true)(hb:M.beginM M.ctlP=some eb)(h1:M.rings1 (2+ga 7 z) (2+ga 7 z) 0 eb=some ec)(h2:M.rings2 (2+ga 7 z) (2+ga 7 z) 0 ec=some e)(hg:M.Good (2+ga 7 z) 320 0 ⟨e,List.replicate (2+ga 7 z) 0,0,0⟩):Cl prog 4 [iv z,bv] w λo w'=>o=.bool true/\Fm F0 w w':=by
 have hn:2<=2+ga 7 z/\2+ga 7 z<=8:=by have:=(gC (n:=7) dC z).1;omega
 refine cU2 func4 ?_ (V [(28,[10,11,16]),(19,[10,11,12]),(11,[8]),(6,[7])]) (J [(24,[13]),(29,[10,11])]);refine(yb hz).mono ?_;rintro _ w ⟨rfl,rfl⟩;generalize 2+ga 7 z=n at h1 h2 hg hn ⊢;have hpl:Cl prog 7 [] w λo w'=>∃t B,o=pv t/\TW w' (λy=>y<w.heap.size) t B eb/\eb.phase=5/\Fm F0 w w':=by refine cU0 func7 ?_;refine bst (cfC M.ctlP) ((jV okP dC hb).mono ?_);rintro _ w' ⟨t,B,rfl,q1,q2,_,_,q3⟩;exact⟨t,B,rfl,q1,q2,q3⟩
 refine hpl.mono ?_;rintro _ w1 ⟨t,B,rfl,hw1,p1,hf1⟩;have hbP:L.map iv≠[]->∀y,blockOf bv=some y->(λy=>y<w.heap.size) y:=λhx y hy=>hL.blt hx y hy;have hL1:=hL.keep hf1 iT;have hP0:∀y,¬(λy=>y<w.heap.size) y->w.heap.size<=y:=λy h=>by dsimp only at h;omega
 generalize (λy=>y<w.heap.size)=P at hw1 hbP hP0;have hk:∀{wx:World},Fm (λy=>¬P y) w1 wx->CellsAt wx bv L.length 1 (L.map iv):=λf=>hL1.fS f (λhx y hy e=>e (hbP hx y hy));simp only[RU];refine⟨λvs wx=>∃(s:Nat) (es:E),vs=[iv s]/\s<=n/\TW wx P t B es/\es.phase=5/\M.rings1 n (n - s) s es=some ec/\Fm (λy=>¬P y) w1 wx,λvs _=>(n - nth vs 0).toNat,⟨0,eb,rfl,Jd _,hw1,p1,h1,Fm.refl _ _⟩,?_⟩;rintro w2 v1 ⟨s,es,hvs,hs,hw2,p2,q2,hf2⟩;cases hvs;by_cases hlt:s<n
 ·obtain⟨f,hf⟩:∃f,n - s=f+1:=⟨n - s - 1,oM⟩;rw[hf,M.rings1] at q2;obtain⟨e1,a1,q2⟩:=bind_some q2;obtain⟨e2,a2,q2⟩:=bind_some q2;obtain⟨⟨x1,r1⟩,b1,c1⟩:=Jl.1 a1;obtain⟨⟨x2,r2⟩,b2,c2⟩:=Jl.1 a2;unfold M.okR at c1 c2;obtain⟨_,g1,c1⟩:=bind_some c1;obtain⟨_,g2,c2⟩:=bind_some c2;cases c1;cases c2;simp only[RU,C9 (oM:(s:Int)<(n:Int))];refine bst (akC (M.aw 1)) ((dM hw2 p2 (oM:s<8) (dC:1<=(1:Int)/\(1:Int)<=9) b1).mono ?_);rintro _ w3 ⟨rfl,hw3,p3,hf3⟩;rw[ak g1];simp only[RU];have hkb:M.kb s n=[UInt8.ofNat (97+s)]:=by unfold M.kb;rw[I9 hlt]
  rw[hkb] at b2;simp only[RU,Hw s oM];refine ag (Hu _ _) (ag (Hv oM _) ?_);have hfa:=Fm.alloc F0 w3 (.cells #[.int .u8 ((97+s:Nat):Int)] 5);refine bst (akC (M.putA [UInt8.ofNat (97+s)] [49])) ((dM (hw3.aS hfa) p3 (oM:s<8) (dC:1<=(3:Int)/\(3:Int)<=9) b2).mono ?_);rintro _ w4 ⟨rfl,hw4,p4,hf4⟩;rw[ak g2];simp only[RU,show IntKind.i64.wrap ((s:Int)+1)=((s+1:Nat):Int) by rw[af]<;>omega];exact⟨⟨s+1,x2,rfl,hlt,hw4,p4,by rw[(oM:n - (s+1)=f)];exact q2,bJ (bJ (bJ hf2 hf3) (t0 hfa)) hf4⟩,by simp only[ba];omega⟩
 ·obtain rfl:s=n:=oM;rw[Jh,M.rings1] at q2;cases q2;simp only[RU,C3 (oM:¬((s:Nat):Int)<(s:Int))];generalize s=n at h2 hg hn hlt ⊢;refine⟨λvs wx=>∃(s:Nat) (es:E),vs=[iv s]/\s<=n/\TW wx P t B es/\es.phase=5/\M.rings2 n (n - s) s es=some e/\Fm (λy=>¬P y) w1 wx,λvs _=>(n - nth vs 0).toNat,⟨0,_,rfl,Jd _,hw2,p2,h2,hf2⟩,?_⟩;rintro w3 v1 ⟨s,es,hvs,hs,hw3,p3,q3,hf3⟩;cases hvs;by_cases hlt:s<n
  ·obtain⟨f,hf⟩:∃f,n - s=f+1:=⟨n - s - 1,oM⟩;rw[hf,M.rings2] at q3;obtain⟨e1,a1,q3⟩:=bind_some q3;have hmn:=Kj (s+1) (oM:0<n);have hd:=Fm.drew F0 w3;simp only[RU,C9 (oM:(s:Int)<(n:Int))];refine⟨λwx=>Fm F0 w3.drew wx,Fm.refl _ _,pv B.x,λwx hx=>?_,?_⟩
   ·simp only[RU,((hw3.aS hd).aS hx).x,H7]
   simp only[RU,show IntKind.i64.wrap ((s:Int)+1)=((s+1:Nat):Int) by rw[af]<;>omega,eF (n:=s+1) (m:=n) _ oM oM rfl,Hw ((s+1) % n) oM];refine ag (Hu _ _) ?_;have hfa:=Fm.alloc F0 w3.drew (.cells #[.int .u8 ((97+(s+1) % n:Nat):Int)] 5);refine⟨hfa,ag (Hv oM _) ⟨rfl,?_⟩⟩;refine bst (akC (M.putA (M.kb (s+1) n) [50])) ⟨rfl,?_⟩;refine Bo ((hw3.aS hd).aS hfa) p3 oM (dC:1<=(3:Int)/\(3:Int)<=9) a1 λw4 hw4 hf4=>?_;simp only[RU,show((0:Int) != 0)=false from rfl];exact⟨⟨s+1,e1,rfl,hlt,hw4,vL p3 a1,by rw[(oM:n - (s+1)=f)];exact q3,bJ (bJ hf3 (t0 (Fmf hd hfa))) hf4⟩,by simp only[ba];omega⟩
  ·obtain rfl:s=n:=oM;rw[Jh,M.rings2] at q3;cases q3;simp only[RU,C3 (oM:¬((s:Nat):Int)<(s:Int))];generalize s=n at hg hn ⊢;refine ag (Ih n w3 hn.2) ?_;have hfa:=Fm.alloc F0 w3 (.cells ((List.replicate n 0).map iv).toArray 3);have hsb:=ay w3 (.cells ((List.replicate n 0).map iv).toArray 3);have hsz:(w3.alloc (.cells ((List.replicate n 0).map iv).toArray 3)).heap.size=w3.heap.size+1:=aE _ _;generalize w3.alloc (.cells ((List.replicate n 0).map iv).toArray 3)=w4 at hfa hsb hsz ⊢;have hw4:=hw3.add hfa (D9 _) oM;have hnP:¬P w3.heap.size:=λe=>by obtain⟨_,_,_,_,_,_,_,_,_,hP,_⟩:=hw3;have:=(hP _ e).2;omega
   have hf4:=bJ hf3 (t0 hfa);generalize w3.heap.size=sb at hsb hw4 hnP ⊢;have dn:∀{a b:World},Fm (λy=>¬(P y\/y=sb)) a b->Fm (λy=>¬P y) a b:=λf=>f.mono λy _ e h=>e (.inl h);have ds:∀{a b:World},Fm (·=sb) a b->Fm (λy=>¬P y) a b:=λf=>f.mono λy _ e h=>hnP (e▸h);refine⟨λvs wx=>∃(m k:Nat) (g:Rg),m+k=320/\M.Good n m k g/\vs=[iv g.ref,iv g.end_,iv k]/\TW wx (λy=>P y\/y=sb) t B g.e/\g.e.phase=5/\g.st.length=n/\wx.heap[sb]?=some (.cells (g.st.map iv).toArray 3)/\(0<=g.ref/\g.ref<=8*k/\0<=g.end_/\g.end_<=16)/\Fm (λy=>¬P y) w1 wx,λvs _=>(1000 - nth vs 2).toNat,⟨320,0,_,rfl,hg,rfl,hw4,p3,G3,hsb,(dC:(0:Int)<=0/\(0:Int)<=8*((0:Nat):Int)/\(0:Int)<=0/\(0:Int)<=16),hf4⟩,?_⟩;rintro w5 v1 v2 v3 ⟨m,k,g,hmk,hgo,hvs,hw5,p5,hst,hs5,hbd,hf5⟩;cases hvs;by_cases hend:g.end_<(n:Int)
   ·obtain⟨m',rfl⟩:∃m',m=m'+1:=by
     cases m with
     | zero=>rw[M.good0] at hgo;omega
     | succ m=>exact⟨m,rfl⟩
    rw[M.goodS] at hgo;have hstep:=(hgo.resolve_left (λh=>oM)).2;simp only[RU,C9 hend];refine aJ (λvs wx=>∃p:Int,vs=[iv p]/\wx=w5) ?_ ?_
    ·rintro _ w5 ⟨p,rfl,rfl⟩;obtain⟨g',g'',hr,hsim,hg''⟩:=hstep p;unfold M.roundM at hr;obtain⟨e1,hrun,hrep⟩:=bind_some hr;simp only[RU,hw5.x];refine(hw5.run (Q:=λo _=>∃x,o=.tuple #[x,iv 0]) (λO u rv yv ss hR hP=>nO hR p5 hrun)).mono ?_;rintro _ w6 ⟨⟨x,rfl⟩,hw6,hf6⟩;have p6:=(rF hrun).trans p5;have hs6:=hf6.heap hs5 (λe=>e (.inr rfl));simp only[RU,show((0:Int) != 0)=false from rfl];refine⟨λvs wx=>∃(s:Nat) (gs:Rg),vs=[iv gs.ref,iv gs.end_,iv s]/\s<=n/\TW wx (λy=>P y\/y=sb) t B gs.e/\gs.e.phase=5/\gs.st.length=n/\wx.heap[sb]?=some (.cells (gs.st.map iv).toArray 3)/\M.repGo n (n - s) s gs=some g'/\(0<=gs.ref/\gs.ref<=8*k+s/\0<=gs.end_/\gs.end_<=8+s)/\Fm (λy=>¬P y) w1 wx,λvs _=>(n - nth vs 2).toNat,⟨0,{ g with e:=e1 },rfl,Jd _,hw6,p6,hst,hs6,hrep,(oM:0<=g.ref/\g.ref<=8*(k:Int)+((0:Nat):Int)/\0<=g.end_/\g.end_<=8+((0:Nat):Int)),bJ hf5 (dn hf6)⟩,?_⟩;rintro w7 v1 v2 v3 ⟨s,gs,hvs,hsn,hw7,p7,hst7,hs7,hrep7,hbd7,hf7⟩;cases hvs;by_cases hlt:s<n
     ·obtain⟨f,hf⟩:∃f,n - s=f+1:=⟨n - s - 1,oM⟩;have hnf:n - (s+1)=f:=oM;rw[hf,M.repGo] at hrep7;have wr:∀x:Int,0<=x->x<=100000->IntKind.i64.wrap x=x:=λx h1 h2=>by rw[af]<;>omega
      have ws:IntKind.i64.wrap ((s:Int)+1)=((s+1:Nat):Int):=by rw[wr _ oM oM];rfl
      simp only[RU,C9 (oM:(s:Int)<(n:Int))];refine aJ (λvs wx=>∃gs':Rg,vs=[iv gs'.ref,iv gs'.end_]/\TW wx (λy=>P y\/y=sb) t B gs'.e/\gs'.e.phase=5/\gs'.st.length=n/\wx.heap[sb]?=some (.cells (gs'.st.map iv).toArray 3)/\M.repGo n f (s+1) gs'=some g'/\(0<=gs'.ref/\gs'.ref<=8*(k:Int)+((s+1:Nat):Int)/\0<=gs'.end_/\gs'.end_<=8+((s+1:Nat):Int))/\Fm (λy=>¬P y) w1 wx) ?_ ?_
      ·rintro _ w8 ⟨gs',rfl,q1,q2,q3,q4,q5,q6,q7⟩;simp only[RU,ws];exact⟨⟨s+1,gs',rfl,hlt,q1,q2,q3,q4,by rw[hnf];exact q5,q6,q7⟩,by simp only[EX];omega⟩
      ·intro kk hkk;simp only[RU,hw7.x];cases hr:M.replyM gs.e s with
       | none=>
        rw[hr] at hrep7;have hno:Cl prog 12 [pv B.x,iv s] w7 λo w'=>o=.tuple #[.agg (rpC M.rp0 nl),.bool false]/\Fm F0 w7 w':=by obtain⟨O,u,rv,yv,ss,cs,hR,_⟩:=id hw7;exact jb hR (hw7.mK oM) (qa hr)
        refine hno.mono ?_;rintro _ w8 ⟨rfl,hf8⟩;simp only[RU];refine aD (us:=rpC M.rp0 nl) (λw9 hs9 hw9 hf9=>?_) rfl rfl rfl;have hf79:=Fmf hf8 hf9;exact hkk _ _ ⟨gs,rfl,hw7.aS hf79,p7,hst7,hf79.heap hs7 id,hrep7,oM,bJ hf7 (t0 hf79)⟩
       | some x=>
        obtain⟨e8,r⟩:=x;rw[hr] at hrep7;dsimp only at hrep7;refine(hw7.run (Q:=λo w'=>∃rr,o=.tuple #[.agg (rpC r rr),.bool true]/\rr.oneCell'=true) (λO u rv yv ss hR hP=>(gq hR (hw7.mK oM) hr).mono (by rintro o w' ⟨rr,y1,y2,_,y3⟩;exact⟨⟨rr,y1,gn y2⟩,y3⟩))).mono ?_;rintro _ w8 ⟨⟨rr,rfl,hrr⟩,hw8,hf8⟩;have p8:=(td hr).trans p7;simp only[RU];refine aD (us:=rpC r rr) (λw9 hs9 hw9 hf9=>?_) rfl rfl (by simp[hrr];exact⟨rfl,rfl,rfl⟩);have hw9':=hw8.aS hf9;have hs9':=hf9.heap (hf8.heap hs7 (λe=>e (.inr rfl))) id;have hF9:=bJ (bJ hf7 (dn hf8)) (t0 hf9);have hx:gs.st[s]?=some gs.st[s]:=C6 oM;have hxd:gs.st.getD s 9=gs.st[s]:=by rw[G6,hx];rfl
        rw[hxd] at hrep7;have hix:ixV 1 (.slice (some ⟨sb,0,none⟩) n n) (iv s)=some (.pointer (some ⟨sb,s,none⟩)):=by rw[show iv (s:Int)=.int .i64 ((s:Nat):Int) from rfl,dT hlt,aA,E7,IZ]
        have hc:∀{wx:World},wx.heap[sb]?=some (.cells (gs.st.map iv).toArray 3)->wx.cell? ⟨sb,s,none⟩=some (iv gs.st[s]):=λh=>by rw[ab h,I5,E4,hx];rfl
        generalize gs.st[s]=x at hx hxd hrep7 hc;simp only[RU,hix,hc hs9',ab hw9];have hset:∀z:Int,(gs.st.map iv).toArray.setIfInBounds s (iv z)=((gs.st.set s z).map iv).toArray:=λz=>by simp
        have hlen:s<((gs.st.map iv).toArray).size:=by simp[hst7,hlt]
        have b0:∀y z:Int,(y == z)=decide (y=z):=λ_ _=>rfl;have st1:∀{z:Int} {K:KV},(∀wa,TW wa (λy=>P y\/y=sb) t B e8->wa.heap[sb]?=some (.cells ((gs.st.set s z).map iv).toArray 3)->Fm (λy=>¬P y) w1 wa->K undef wa)->St 1 w9 (.pointer (some ⟨sb,s,none⟩)) (iv z) K:=λ{z K} hK=>by refine au hs9' (j:=s) hlen rfl λwa hwa hsa hfa=>hK wa (hw9'.loc (hfa.mono (λy _ e=>.inr e))) ?_ (bJ hF9 (ds hfa));rw[hwa,hset]
        by_cases hx0:x=0
        ·subst hx0;by_cases he0:r.err=0
         ·rw[C9 he0] at hrep7;obtain⟨e9,a9,hrep7⟩:=bind_some (show(M.ask e8 s (M.aw 7) >>= λe=>M.repGo n f (s+1) ⟨e,gs.st.set s 1,gs.ref,gs.end_⟩)=some g' from hrep7);simp only[RU,show((0:Int) == 0)=true from rfl,he0];refine st1 λwa hTa hwa hfa=>?_;simp only[RU,hTa.x];refine bst (akC (M.aw 7)) (Bo hTa p8 oM (dC:1<=(7:Int)/\(7:Int)<=9) a9 λwb hwb hfb=>?_);simp only[RU,show((0:Int) != 0)=false from rfl];exact hkk _ _ ⟨⟨e9,gs.st.set s 1,gs.ref,gs.end_⟩,rfl,hwb,vL p8 a9,(I3 ..).trans hst7,hfb.heap hwa (λe=>e (.inr rfl)),hrep7,(oM:0<=gs.ref/\gs.ref<=8*(k:Int)+((s+1:Nat):Int)/\0<=gs.end_/\gs.end_<=8+((s+1:Nat):Int)),bJ hfa (dn hfb)⟩
         ·rw[C3 he0] at hrep7;by_cases he1:r.err=181
          ·rw[C9 he1] at hrep7
           replace hrep7:M.repGo n f (s+1) ⟨e8,gs.st.set s 2,gs.ref+1,gs.end_+1⟩=some g':=hrep7
           simp only[RU,show((0:Int) == 0)=true from rfl,he1,show((181:Int) == 0)=false from rfl,show((181:Int) == 181)=true from rfl,hc hs9',ab hw9,wr (gs.ref+1) oM oM,wr (gs.end_+1) oM oM];refine st1 λwa hTa hwa hfa=>?_;exact hkk _ _ ⟨⟨e8,gs.st.set s 2,gs.ref+1,gs.end_+1⟩,rfl,hTa,p8,(I3 ..).trans hst7,hwa,hrep7,(oM:0<=gs.ref+1/\gs.ref+1<=8*(k:Int)+((s+1:Nat):Int)/\0<=gs.end_+1/\gs.end_+1<=8+((s+1:Nat):Int)),hfa⟩
          ·rw[C3 he1] at hrep7;cases hrep7
        ·rw[C3 hx0] at hrep7;by_cases h1:x=1/\r.err=0
         ·obtain⟨rfl,he0⟩:=h1;rw[C9 he0] at hrep7
          replace hrep7:M.repGo n f (s+1) ⟨e8,gs.st.set s 2,gs.ref,gs.end_+1⟩=some g':=hrep7
          simp only[RU,show((1:Int) == 0)=false from rfl,show((1:Int) == 1)=true from rfl,he0,show((0:Int) == 0)=true from rfl,hc hs9',ab hw9,wr (gs.end_+1) oM oM];refine st1 λwa hTa hwa hfa=>?_;exact hkk _ _ ⟨⟨e8,gs.st.set s 2,gs.ref,gs.end_+1⟩,rfl,hTa,p8,(I3 ..).trans hst7,hwa,hrep7,(oM:0<=gs.ref/\gs.ref<=8*(k:Int)+((s+1:Nat):Int)/\0<=gs.end_+1/\gs.end_+1<=8+((s+1:Nat):Int)),hfa⟩
         ·exfalso;have:(decide (x=1)&&decide (r.err=0))=false:=by rw[Bool.and_eq_false_iff,C7,C7];exact Classical.not_and_iff_not_or_not.1 h1
          rw[Jq,Jq,C8,C8,this,C8] at hrep7;cases hrep7
     ·obtain rfl:s=n:=oM;rw[Jh,M.repGo] at hrep7;cases hrep7;simp only[RU,C3 (oM:¬((s:Nat):Int)<(s:Int)),show IntKind.i64.wrap ((k:Int)+1)=((k+1:Nat):Int) by rw[af]<;>omega];obtain⟨y1,y2,y3,y4,y5⟩:=hw7.CW hsim;refine⟨⟨m',k+1,g'',oM,hg'',by rw[y3,y4],y1,y5.trans p7,by rw[y2];exact hst7,by rw[y2];exact hs7,by rw[y3,y4];omega,hf7⟩,by simp only[EX];omega⟩
    ·intro kk hkk;have hL5:=hk hf5;have hLn:L.length<=9223372036854775807:=by obtain⟨⟨a,c,_,y1,y2,_⟩,_⟩:=hL5;unfold maxLen at y2;omega
     simp only[RU,hL5.lenV];by_cases hl0:0<L.length
     ·have hmd:=Kj k hl0;obtain⟨ad,i1,_,i3⟩:=hL5.iS (i:=k % L.length) (x:=iv L[k % L.length]) (by rw[E4,C6 hmd];rfl) .i64
      replace i1:ixV 1 bv (iv ((k % L.length:Nat):Int))=_:=i1
      simp only[RU,C9 (oM:(0:Int)<(L.length:Int)),eF (n:=k) (m:=L.length) _ hl0 oM rfl,i1,i3];exact hkk _ _ ⟨_,rfl,rfl⟩
     ·simp only[RU,C3 (oM:¬(0:Int)<(L.length:Int))];exact hkk _ _ ⟨0,rfl,rfl⟩
   ·have hr1:g.ref=1:=by
     cases m with
     | zero=>rw[M.good0] at hgo;exact hgo.2
     | succ m=>
      rw[M.goodS] at hgo;rcases hgo with h|h
      ·exact h.2
      ·omega
    simp only[RU,C3 hend,hr1,show((1:Int) == 1)=true from rfl];refine(tH haw).mono ?_;rintro _ w6 ⟨rfl,hf6⟩;simp only[RU];exact Fm.own hf1 (bJ hf5 (t0 hf6)) hP0
end
namespace M
def bx(n d:Nat)(z:Int):Bool:=match ringE n z with
 | some e=>rY n 300 (n - 1) (nz e n (lG n d))
 | none=>false
def lkB(n:Nat)(e:E):Bool:=e.waits.isEmpty&&(List.range n).all λs=>decide (getD e.holds (kb s n)=some (s:Int))&&(match getD e.txns (s:Int) with
 | some t=>decide (0<t.xid)
 | none=>false)
theorem qT{n:Nat}{e:E}(hs:e.seats=(List.range 8).map (seatS e n []))(hb:lkB n e=true):LK e n:=by
 unfold lkB at hb;rw[E0] at hb;have h:=λs (hs:s<n)=>G8.1 hb.2 s (JP.2 hs);refine⟨hs,KJ.1 hb.1,λs hs=>?_,λs hs=>?_⟩
 ·have:=h s hs;rw[E0] at this;exact F9 this.1
 ·have:=h s hs;rw[E0] at this;obtain⟨_,h2⟩:=this
  match ht:getD e.txns (s:Int),h2 with
  | some t,h2=>exact⟨t,rfl,F9 h2⟩
  | none,h2=>cases h2
theorem gF{n:Nat}(hn:2<=n)(h8:n<=8){z:Int}{e:E}(he:ringE n z=some e)(hl:LK e n)(ha:(List.range n).all (λd=>bx n d z)=true):Good n 320 0 ⟨e,List.replicate n 0,0,0⟩:=by have h:=xC hn h8 hl (F:=300) (λd hd=>by have:=G8.1 ha d (JP.2 hd);unfold bx at this;rw[he] at this;exact og n 300 (n - 1) _ this) (n - 2) [] (by simp;omega) sI sI;unfold nz at h;rw[GU hl] at h;exact h.mono oM
theorem Hc(z:Int):∃e,ringE 2 z=some e/\Good 2 320 0 ⟨e,List.replicate 2 0,0,0⟩:=by have h:(ringE 2 z).isSome=true:=kR;exact⟨(ringE 2 z).get h,(Ju h).symm,gF dC dC (Ju h).symm (qT kR kR) kR⟩
theorem Hd(z:Int):∃e,ringE 3 z=some e/\Good 3 320 0 ⟨e,List.replicate 3 0,0,0⟩:=by have h:(ringE 3 z).isSome=true:=kR;exact⟨(ringE 3 z).get h,(Ju h).symm,gF dC dC (Ju h).symm (qT kR kR) kR⟩
theorem He(z:Int):∃e,ringE 4 z=some e/\Good 4 320 0 ⟨e,List.replicate 4 0,0,0⟩:=by have h:(ringE 4 z).isSome=true:=kR;exact⟨(ringE 4 z).get h,(Ju h).symm,gF dC dC (Ju h).symm (qT kR kR) kR⟩
theorem Hf(z:Int):∃e,ringE 5 z=some e/\Good 5 320 0 ⟨e,List.replicate 5 0,0,0⟩:=by have h:(ringE 5 z).isSome=true:=kR;exact⟨(ringE 5 z).get h,(Ju h).symm,gF dC dC (Ju h).symm (qT kR kR) kR⟩
theorem Ik(z:Int):bx 6 0 z=true:=kR
theorem Il(z:Int):bx 6 1 z=true:=kR
theorem Im(z:Int):bx 6 2 z=true:=kR
theorem Ip(z:Int):bx 6 3 z=true:=kR
theorem Iq(z:Int):bx 6 4 z=true:=kR
theorem Ir(z:Int):bx 6 5 z=true:=kR
theorem Hg(z:Int):∃e,ringE 6 z=some e/\Good 6 320 0 ⟨e,List.replicate 6 0,0,0⟩:=by have h:(ringE 6 z).isSome=true:=kR;refine⟨(ringE 6 z).get h,(Ju h).symm,gF dC dC (Ju h).symm (qT kR kR) ?_⟩;show(bx 6 0 z&&(bx 6 1 z&&(bx 6 2 z&&(bx 6 3 z&&(bx 6 4 z&&(bx 6 5 z&&true))))))=true;rw[Ik z,Il z,Im z,Ip z,Iq z,Ir z];rfl
theorem It(z:Int):bx 7 0 z=true:=kR
theorem Iu(z:Int):bx 7 1 z=true:=kR
theorem Iw(z:Int):bx 7 2 z=true:=kR
theorem Ix(z:Int):bx 7 3 z=true:=kR
theorem Iy(z:Int):bx 7 4 z=true:=kR
theorem Iz(z:Int):bx 7 5 z=true:=kR
theorem IA(z:Int):bx 7 6 z=true:=kR
theorem Hh(z:Int):∃e,ringE 7 z=some e/\Good 7 320 0 ⟨e,List.replicate 7 0,0,0⟩:=by have h:(ringE 7 z).isSome=true:=kR;refine⟨(ringE 7 z).get h,(Ju h).symm,gF dC dC (Ju h).symm (qT kR kR) ?_⟩;show(bx 7 0 z&&(bx 7 1 z&&(bx 7 2 z&&(bx 7 3 z&&(bx 7 4 z&&(bx 7 5 z&&(bx 7 6 z&&true)))))))=true;rw[It z,Iu z,Iw z,Ix z,Iy z,Iz z,IA z];rfl
theorem IB(z:Int):bx 8 0 z=true:=kR
theorem IC(z:Int):bx 8 1 z=true:=kR
theorem IE(z:Int):bx 8 2 z=true:=kR
theorem IG(z:Int):bx 8 3 z=true:=kR
theorem IH(z:Int):bx 8 4 z=true:=kR
theorem II(z:Int):bx 8 5 z=true:=kR
theorem IJ(z:Int):bx 8 6 z=true:=kR
theorem IK(z:Int):bx 8 7 z=true:=kR
theorem Hi(z:Int):∃e,ringE 8 z=some e/\Good 8 320 0 ⟨e,List.replicate 8 0,0,0⟩:=by have h:(ringE 8 z).isSome=true:=kR;refine⟨(ringE 8 z).get h,(Ju h).symm,gF dC dC (Ju h).symm (qT kR kR) ?_⟩;show(bx 8 0 z&&(bx 8 1 z&&(bx 8 2 z&&(bx 8 3 z&&(bx 8 4 z&&(bx 8 5 z&&(bx 8 6 z&&(bx 8 7 z&&true))))))))=true;rw[IB z,IC z,IE z,IG z,IH z,II z,IJ z,IK z];rfl
theorem awake_true:awakeM=true:=kR
theorem ring_all{n:Nat}(h2:2<=n)(h8:n<=8)(z:Int):∃e,ringE n z=some e/\Good n 320 0 ⟨e,List.replicate n 0,0,0⟩:=by
 match n,h2,h8 with
 | 2,_,_=>exact Hc z
 | 3,_,_=>exact Hd z
 | 4,_,_=>exact He z
 | 5,_,_=>exact Hf z
 | 6,_,_=>exact Hg z
 | 7,_,_=>exact Hh z
 | 8,_,_=>exact Hi z
end M
def vI:Vw prog 3 Int:=HC .i64 underlying3 (by kernel_rfl)
def vInts:Vw prog 25 (List Int):=BT underlying25 (by kernel_rfl) vI
theorem trings_law{w:World}{z:Int}{bv:Value}{L:List Int}(hz:In z)(hb:SliceAs vI w bv L):Cl prog 4 [iv z,bv] w λv w'=>v=.bool true/\Fm (λ_=>False) w w':=by
 have hL:CellsAt w bv L.length 1 (L.map iv):=hb.cells kR (λcs x h=>h.1);obtain⟨z0,hf⟩:=M.formatP;have hn:2<=2+ga 7 z/\2+ga 7 z<=8:=by have:=(gC (n:=7) dC z).1;omega
 obtain⟨e,he,hg⟩:=M.ring_all hn.1 hn.2 z0;unfold M.ringE at he;obtain⟨eb,h1,he⟩:=bind_some he;obtain⟨ec,h2,h3⟩:=bind_some he;exact AP hz hL M.awake_true (zI hf (M.openP (M.dkZ_c _ _)) h1) h2 h3 hg
end Go.Proofs.YtmdmffeoehfjgaaGreatDoor
namespace Go.Al
open Go.ChangeShapes Go.WideShapes Go.ChangeAt Go.RowKit
theorem law_laid{H:Type}{enc:TypeId×Value->H}{C:Checked}{os:Os}{f:FuncId}{fn:Func}{s:ChangeSpec}{conds:List PathCond}{tb:TypeId}{X:World->Array Value->Prop}(hX:∀(w w':World) (args:Array Value),w.heap=w'.heap->X w args->X w' args)
  (own:ownKnob C.prog.godebug=none) (started:os.Started) (noInit:C.prog.inits.idxOf? f=none) (hfn:C.prog.funcs[f]?=some fn)
  (hlaid:laidOutB C.prog=true)
  (witness:∃(w:World) (tape:Tape) (i:Input),w.os=os/\(w.forCall tape i).Shaped C.prog/\i.vars=[]/\Input.okWide C.prog (w.forCall tape i) .any w.heap.size f i /\
   ((s.pre enc C.prog fn conds false (w.forCall tape i).memory i.args/\X (w.forCall tape i).memory i.args)/\sizedMet enc C.prog fn (OpenSpec.ofChange s) false (w.forCall tape i).memory i.args)/\({}:Assume).holds C.prog (lone (Frame.enter C.prog f i.args .normal) [] (w.forCall tape i)))
  (hres:fn.resultTypes=#[tb]) (hbool:C.prog.underlying tb=some .bool) (hvars:s.vars=[])
  (hrow:∀t∈fn.params.toList,C.prog.readableRec t=true/\t<C.prog.types.size)
  (hs:∀ds:List (DataW H),ds.length=fn.params.toList.length->s.fn H ds={ results:=[.lit (.bool true)],args:=ds,vars:=[] })
  (law:∀(W:World) (args:List Value) (ds:List (DataW H)) (p:List MemPlace),LawIn enc C.prog fn.params.toList W args ds p->Cl C.prog f args W λv w'=>v=.bool true/\Fm (λ_=>False) W w'):
  ReturnsInHanded {} C os f .any (λw args=>(s.pre enc C.prog fn conds false w args/\X w args)/\sizedMet enc C.prog fn (OpenSpec.ofChange s) false w args) (s.post enc C.prog fn false true false false):=by
 refine returnsInHanded_of_change_and (X:=X) hX own started noInit hfn witness ?_;intro W base args ds gs before hval hW hcnd hsz _ _;have hW':=hW;obtain⟨p,q,hA,hV,rfl,hfz,hnd⟩:=hW;rw[hvars] at hV;obtain⟨rfl,rfl⟩:=trodVars_none hV;have hty:s.plain.varTypes C.prog=[]:=by simp[DataSpec.varTypes,ChangeSpec.plain,hvars]
 simp only[hty,H1] at hsz;have hlt:∀x∈p,x.block<W.heap.size:=λx hx=>hW'.lt x (by simp[hx]);have hlen:=(trodAll_length hA).2;refine(cl_true (law W args.toList ds p ⟨hA,⟨base,λj t v hj hv=>hval j t v (by simpa using hj) (by simpa using hv)⟩,hsz,hlt⟩)).mono λe W' ⟨he,hb⟩=>?_;subst he;refine⟨_,rfl,ds,[],p++[],[],p,[],hW',?_,?_,?_,hb.frame _,λh=>by cases h⟩
 ·rw[H1,hs ds hlen,hres];exact trodAll_cons_mk (shut_bool hbool _) trodAll_mk0
 ·rw[H1,hs ds hlen];exact trodAll_below hlaid hb hrow hA hlt
 ·rw[H1,hs ds hlen,hvars];trivial
end Go.Al
